/- Lemmas. Conditions: those of each theorem. -/
import Derived.Test.YtjmeeofdffdpnaaGreatDoorRJgC
set_option maxRecDepth 8000
set_option maxHeartbeats 16000000
namespace Ru
open Bt
theorem jop_i64 {k : Int} {l : List Int} (h : ∀ x ∈ l, Go.K.I64 x) : Go.K.I64 (jop k l).1 := by
 have hg : ∀ i, Go.K.I64 (l.getD i 0) := fun i => by
  rw [gDD]
  cases hq : l[i]? with
  | none => exact ⟨by decide, by decide⟩
  | some x => exact h x (List.mem_of_getElem? hq)
 have z : Go.K.I64 0 := ⟨by decide, by decide⟩
 have z1 : Go.K.I64 1 := ⟨by decide, by decide⟩
 unfold jop
 repeat' split
 all_goals first | exact hg _ | exact z | exact z1
theorem jx_i64 {e : Env} {fs : List RFunc} {ts : List Int} (ht : ∀ t ∈ ts, Go.K.I64 t) (hf : ∀ f ∈ fs, Go.K.I64 f.Result) : ∀ {n : Nat} {x : Expr}, Go.K.I64 (jx e fs ts n x).1 := by
 have z : Go.K.I64 0 := ⟨by decide, by decide⟩
 intro n
 induction n with
 | zero => intro x; exact z
 | succ n ih =>
  intro x
  unfold jx
  split
  ·
   exact z
  ·
   split
   ·
    exact z
   ·
    rename_i ks hks
    obtain ⟨h1, _⟩ := jxs_mem hks
    have hk : ∀ k ∈ ks, Go.K.I64 k := fun k hk => by
     rw [h1] at hk
     obtain ⟨y, _, rfl⟩ := List.mem_map.1 hk
     exact ih
    have hgt : ∀ i, Go.K.I64 (ts.getD i 0) := fun i => by
     rw [gDD]
     cases hq : ts[i]? with
     | none => exact z
     | some x => exact ht x (List.mem_of_getElem? hq)
    have hgf : ∀ i, Go.K.I64 (fs.getD i default).Result := fun i => by
     rw [gDD]
     cases hq : fs[i]? with
     | none => exact z
     | some x => exact hf x (List.mem_of_getElem? hq)
    unfold jnd
    repeat' split
    all_goals first | exact z | exact hgt _ | exact hgf _ | exact jop_i64 hk
end Ru
namespace Go.Proofs.YtjmeeofdffdpnaaGreatDoor
open Go Go.K Go.RowKit
open Ru (pB)
attribute [local irreducible] AW RW DW Post Qt
theorem kidW {Φ : Hp} {xs : List Bt.Expr} {v : Value} (h : RepSl Φ xs v) {i : Nat} (hi : i < xs.length) : ∃ A c, PCells Φ (Value.at v (i * 5)) (exC (xs.getD i default) (.slice A (xs.getD i default).Kids.length c)) ∧ RepSl Φ (xs.getD i default).Kids (.slice A (xs.getD i default).Kids.length c) ∧ wfE (xs.getD i default) := by
 obtain ⟨cs, h1, h2⟩ := h.at_ i hi
 obtain ⟨kv, rfl, h3, h4⟩ := repE'.1 h1
 obtain ⟨A, c, rfl, _⟩ := h4.sl
 have he : xs[i] = xs.getD i default := by rw [gDD, List.getElem?_eq_getElem hi]; rfl
 rw [he] at h2 h3 h4
 refine ⟨A, c, fun q u hq => ?_, h4, h3⟩
 rw [at_add]
 exact h2 q u hq
theorem funW {Φ : Hp} {xs : List Bt.RFunc} {v : Value} (h : RepSl Φ xs v) {i : Nat} (hi : i < xs.length) : ∃ pv A c, PCells Φ (Value.at v (i * 8)) (rfC (xs.getD i default) pv (.slice A (xs.getD i default).Body.Kids.length c)) ∧ RepSl Φ (xs.getD i default).Params pv ∧ RepSl Φ (xs.getD i default).Body.Kids (.slice A (xs.getD i default).Body.Kids.length c) ∧ wfE (xs.getD i default).Body ∧ (xs.getD i default).Name.length ≤ maxLen ∧ I64 (xs.getD i default).Result := by
 obtain ⟨cs, h1, h2⟩ := h.at_ i hi
 obtain ⟨pv, kv, rfl, h5, h6, h7, h3, h4⟩ := h1
 obtain ⟨A, c, rfl, _⟩ := h4.sl
 have he : xs[i] = xs.getD i default := by rw [gDD, List.getElem?_eq_getElem hi]; rfl
 rw [he] at h2 h3 h4 h5 h6 h7
 refine ⟨pv, A, c, fun q u hq => ?_, h6, h4, h3, h5, h7⟩
 rw [at_add]
 exact h2 q u hq
theorem JC.res {Φ : Hp} {e : Ru.Env} {fs : List Bt.RFunc} {fv : Value} {m1 m2 m3 m4 : Nat} (h : JC Φ e fs fv m1 m2 m3 m4) : ∀ f ∈ fs, I64 f.Result := fun f hf => by
 obtain ⟨i, hi, rfl⟩ := List.getElem_of_mem hf
 obtain ⟨_, _, _, _, _, _, _, _, h6⟩ := funW h.f hi
 rw [gDD, List.getElem?_eq_getElem hi] at h6
 exact h6
def JxOK (e : Ru.Env) (fs : List Bt.RFunc) (fv : Value) (m1 m2 m3 m4 n : Nat) : Prop := ∀ (w : World) (Φ : Hp) (X : Bt.Expr) (v : Value) (ts : List Int) (pv : Value) (d : Int), Hp.le Φ (hp w) → JC Φ e fs fv m1 m2 m3 m4 → wfE X → RepSl Φ X.Kids v → RepSl Φ ts pv → (n : Int) + d = 41 → 0 ≤ d →
 Calls pg 105 #[.agg (jC fv m1 m2 m3 m4).toArray, .agg (exC X v).toArray, pv, iV d] w fun e' w' => e' = .returned (.tuple #[iV (Ru.jx e fs ts n X).1, .bool (Ru.jx e fs ts n X).2]) ∧ Bel w.heap.size w w'
section
variable {e : Ru.Env} {fs : List Bt.RFunc} {fv : Value} {m1 m2 m3 m4 : Nat}
theorem jexpr_of {n : Nat} (ih : JxOK e fs fv m1 m2 m3 m4 n) : JxOK e fs fv m1 m2 m3 m4 (n + 1) := by
 intro w Φ X v ts pv d hΦ hJ hX hv hpv hnd hd0
 obtain ⟨vA, vc, rfl, _⟩ := hv.sl
 have hvs := hv.sl
 obtain ⟨fA, fc, rfl, _⟩ := hJ.f.sl
 have hfs := hJ.f.sl
 obtain ⟨pA, pc, rfl, _⟩ := hpv.sl
 have hps := hpv.sl
 have hxb : X.Kids.length * 56 ≤ maxSl := hv.max
 simp only [maxSl] at hxb
 have hnl : ¬ (40 : Int) < d := by omega
 refine calls_of_AW (args := [.agg (jC (.slice fA fs.length fc) m1 m2 m3 m4).toArray, .agg (exC X (.slice vA X.Kids.length vc)).toArray, .slice pA ts.length pc, iV d]) Tryz.func105 rfl (lBT rfl) (St ⟨w, Φ, []⟩ Φ []) (StP.init w Φ hΦ []) ?_
 show AW _ _ [] _ _ _ [(0, .agg (jC (.slice fA fs.length fc) m1 m2 m3 m4).toArray), (1, .agg (exC X (.slice vA X.Kids.length vc)).toArray), (2, .slice pA ts.length pc), (3, iV d)] _
 repeat refine gs1 ?_
 refine RW.bxA (cs := jC (.slice fA fs.length fc) m1 m2 m3 m4) rfl rfl fun b4 => ?_
 refine RW.bxA (cs := exC X (.slice vA X.Kids.length vc)) rfl rfl fun b5 => ?_
 repeat refine gs1 ?_
 refine RW.g2 (b1 := decide ((40 : Int) < d)) (b2 := (!decide (X.Kind = 1))) (v := .pointer (some ⟨b5, 2, none⟩)) rfl rfl rfl (fun h1 h2 => qa_fa0 rfl) (RW.g2 (b1 := decide ((40 : Int) < d)) (b2 := (!decide (X.Kind = 1))) (v := iV X.Of) rfl rfl rfl (fun h1 h2 => qa_ld ((gv_pos h1).trans (gv_pos h2)) (Cell.blk 0 rfl rfl)) (RW.g2 (b1 := decide ((40 : Int) < d)) (b2 := (!decide (X.Kind = 1))) (v := .bool (!decide (X.Of = 0))) rfl rfl rfl (fun h1 h2 => q_neq (a := X.Of) (b := 0) ((gv_pos h1).trans (gv_pos h2)) rfl) (RW.g2 (b1 := decide ((40 : Int) < d)) (b2 := (!decide (X.Kind = 1))) (v := .bool (!decide (X.Of = 0))) rfl rfl rfl (fun h1 h2 => q_move ((gv_pos h1).trans (gv_pos h2))) (RW.g3 (b1 := decide ((40 : Int) < d)) (b2 := (!decide (X.Kind = 1))) (b3 := (!decide (X.Of = 0))) (v := .pointer (some ⟨b5, 3, none⟩)) rfl rfl rfl (fun h1 h2 h3 => qa_fa0 rfl) (RW.g3 (b1 := decide ((40 : Int) < d)) (b2 := (!decide (X.Kind = 1))) (b3 := (!decide (X.Of = 0))) (v := iV X.Of2) rfl rfl rfl (fun h1 h2 h3 => qa_ld ((gv_pos h1).trans ((gv_pos h2).trans (gv_pos h3))) (Cell.blk 0 rfl rfl)) (RW.g3 (b1 := decide ((40 : Int) < d)) (b2 := (!decide (X.Kind = 1))) (b3 := (!decide (X.Of = 0))) (v := .bool (!decide (X.Of2 = 0))) rfl rfl rfl (fun h1 h2 h3 => q_neq (a := X.Of2) (b := 0) ((gv_pos h1).trans ((gv_pos h2).trans (gv_pos h3))) rfl) (RW.g2 (b1 := decide ((40 : Int) < d)) (b2 := (!decide (X.Kind = 1))) (v := .bool ((!decide (X.Of = 0)) || (!decide (X.Of2 = 0)))) rfl rfl rfl (fun h1 h2 => q_pick ((gv_pos h1).trans (gv_pos h2)) (fun hp => pkOrT hp) (fun hp => (gv_pos h1).trans ((gv_pos h2).trans ((gv_pos hp).trans (pkOrF hp))))) (RW.g (b := decide ((40 : Int) < d)) (v := .bool ((!decide (X.Kind = 1)) && ((!decide (X.Of = 0)) || (!decide (X.Of2 = 0))))) rfl rfl rfl (fun h1 => q_pick (gv_pos h1) (fun hp => (gv_pos h1).trans ((gv_pos hp).trans (pkAndT hp))) (fun hp => pkAndF hp)) (RW.q (v := .bool (decide ((40 : Int) < d) || ((!decide (X.Kind = 1)) && ((!decide (X.Of = 0)) || (!decide (X.Of2 = 0)))))) rfl (qpO rfl rfl rfl) ?_)))))))))
 repeat refine gs1 ?_
 refine AW.cond rfl (fun hc => ?_) fun hc => ?_
 ·
  have hc : X.Kind ≠ 1 ∧ (X.Of ≠ 0 ∨ X.Of2 ≠ 0) := by simpa [hnl] using hc
  repeat refine gs1 ?_
  exact fin_res (vs := [iV 0, .bool false]) rfl rfl ⟨.tmp rfl, .tmp rfl, trivial⟩ rfl (fun w' hw => ⟨by rw [Ru.jx, if_pos hc]; rfl, hw.below rfl⟩)
 have hc : ¬ (X.Kind ≠ 1 ∧ (X.Of ≠ 0 ∨ X.Of2 ≠ 0)) := fun hh => by have : decide (X.Kind = 1) = false := decide_eq_false hh.1; rcases hh.2 with h | h <;> simp [hnl, hh.1, h] at hc
 have hjx : Ru.jx e fs ts (n + 1) X = match Ru.jxs (Ru.jx e fs ts n) X.Kids with | none => (0, false) | some ks => Ru.jnd e fs ts X ks := by rw [Ru.jx, if_neg hc]; rfl
 repeat refine gs1 ?_
 refine RW.eff _ _ rfl (e_makeSlice (l := 0) (c := X.Kids.length) (n := 0) (xs := []) rfl rfl uT29 inf3 (by omega) (by omega) (by omega) rfl rfl) fun bk => ?_
 repeat refine gs1 ?_
 refine AW.loop (fun s J q => ∃ (i : Nat) (ks : List Int) (kv : Value), s = [(2, .slice pA ts.length pc), (3, iV d), (4, pB b4), (5, pB b5), (10, kv), (37, .slice vA X.Kids.length vc), (38, iV (X.Kids.length : Int)), (39, iV (i : Int))] ∧ J = St ⟨w, Φ, []⟩ Φ [.row kv 3 1 i (ks.map (Value.int .i64)), .blk b5 59 (exC X (.slice vA X.Kids.length vc)), .blk b4 115 (jC (.slice fA fs.length fc) m1 m2 m3 m4)] ∧ q = X.Kids.length - i ∧ i ≤ X.Kids.length ∧ IsSl kv i ∧ Ru.jxs (Ru.jx e fs ts n) (X.Kids.take i) = some ks ∧ ∀ k ∈ ks, I64 k) (s0 := [(2, .slice pA ts.length pc), (3, iV d), (4, pB b4), (5, pB b5), (10, .slice (some ⟨bk, 0, none⟩) 0 X.Kids.length), (37, .slice vA X.Kids.length vc), (38, iV (X.Kids.length : Int)), (39, iV ((0 : Nat) : Int))]) (J1 := _) (m0 := _) ⟨0, [], .slice (some ⟨bk, 0, none⟩) 0 X.Kids.length, rfl, rfl, rfl, Nat.zero_le _, isSl_mk (Nat.zero_le _), rfl, (fun k hk => absurd hk (List.not_mem_nil))⟩ ⟨rfl, rfl, rfl, rfl, rfl, rfl, rfl, rfl, trivial⟩ (fun _ h => h) ?_
 rintro _ _ _ _ ⟨i, ks, kv, rfl, rfl, rfl, hi, hkv, he1, hki⟩
 have hkl : ks.length = i := by rw [(Ru.jxs_mem he1).1, List.length_map, List.length_take, Nat.min_eq_left hi]
 obtain ⟨kA, kc, rfl, _⟩ := hkv
 repeat refine gs1 ?_
 refine AW.cond rfl (fun h => ?_) fun h => ?_
 ·
  have h : i < X.Kids.length := by have := odT h; omega
  obtain ⟨Aa, ca, hpa, hra, hwa⟩ := kidW hv (i := i) h
  have hget : X.Kids.getD i default = X.Kids[i] := by rw [gDD, List.getElem?_eq_getElem h]; rfl
  have htk : X.Kids.take (i + 1) = X.Kids.take i ++ [X.Kids.getD i default] := by rw [Ru.take_snoc h, hget]
  repeat refine gs1 ?_
  refine RW.alc rfl fun b9 => ?_
  repeat refine gs1 ?_
  refine RW.q rfl (q_call (args := #[.agg (jC (.slice fA fs.length fc) m1 m2 m3 m4).toArray, .agg (exC (X.Kids.getD i default) (.slice Aa (X.Kids.getD i default).Kids.length ca)).toArray, .slice pA ts.length pc, iV (d + 1)]) oK rfl rfl (fun w1 hw1 => ih w1 Φ _ _ ts _ (d + 1) hw1.phi hJ hwa hra hpv (by omega) (by omega))) ?_
  repeat refine gs1 ?_
  have hik : I64 (Ru.jx e fs ts n (X.Kids.getD i default)).1 := Ru.jx_i64 (fun t ht => hpv.i64 t ht) hJ.res
  refine AW.cond rfl (fun hok => ?_) fun hok => ?_
  ·
   have hok : (Ru.jx e fs ts n (X.Kids.getD i default)).2 = false := by simpa using hok
   repeat refine gs1 ?_
   exact fin_res (vs := [iV 0, .bool false]) rfl rfl ⟨.tmp rfl, .tmp rfl, trivial⟩ rfl (fun w' hw => ⟨by rw [hjx, Ru.jxs_none (by rw [hget]; exact List.getElem_mem h) hok]; rfl, hw.below rfl⟩)
  have hok : (Ru.jx e fs ts n (X.Kids.getD i default)).2 = true := by simpa using hok
  repeat refine gs1 ?_
  refine RW.eff _ _ rfl (e_buildSlice (vals := [(0, iV (Ru.jx e fs ts n (X.Kids.getD i default)).1)]) (cells := [iV (Ru.jx e fs ts n (X.Kids.getD i default)).1]) uT29 inf3 rfl rfl rfl (by kernel_rfl) rfl) fun b8 => ?_
  repeat refine gs1 ?_
  refine RW.eff (fun xv : {vq : Value // IsSl vq (i + 1)} => xv.1) (fun xv => St ⟨w, Φ, []⟩ Φ [.row (.slice (some ⟨b8, 0, none⟩) 1 1) 3 1 1 [iV (Ru.jx e fs ts n (X.Kids.getD i default)).1], .blk b9 59 (exC (X.Kids.getD i default) (.slice Aa (X.Kids.getD i default).Kids.length ca)), .row xv.1 3 1 (i + 1) (ks.map (Value.int .i64) ++ [iV (Ru.jx e fs ts n (X.Kids.getD i default)).1]), .blk b5 59 (exC X (.slice vA X.Kids.length vc)), .blk b4 115 (jC (.slice fA fs.length fc) m1 m2 m3 m4)]) rfl (e_append 2 rfl rfl rfl uT29 inf3 rfl rfl rfl (Cells.row0 0 rfl) rfl (by omega) (by omega) (fun _ => rfl)) ?_
  rintro ⟨kv2, hkv2⟩
  simp only
  repeat refine gs1 ?_
  exact Post.back (s' := _) (J' := _) (m' := _) (by omega) ⟨i + 1, ks ++ [(Ru.jx e fs ts n (X.Kids.getD i default)).1], kv2, rfl, rfl, rfl, by omega, hkv2, by rw [htk, Ru.jxs_snoc, he1]; simp only [Option.bind_some, hok, if_true], fun k hk => (List.mem_append.1 hk).elim (hki k) (fun h => by rw [List.mem_singleton.1 h]; exact hik)⟩ ⟨rfl, rfl, rfl, rfl, rfl, rfl, rfl, rfl, trivial⟩ (fun _ h => by rw [List.map_append]; exact StP.sel h [2, 3, 4] (by decide) rfl)
 have h : i = X.Kids.length := by have := odF h; omega
 subst h
 rw [List.take_length] at he1
 rw [he1] at hjx
 simp only at hjx
 refine AW.frz fun Φ1 hl1 hs1 => ?_
 have hks : RepSl Φ1 ks (.slice kA X.Kids.length kc) := RowS.ints (T := 3) hs1 (by simp only [maxSl]; omega) hki
 have hJ1 := hJ.mono hl1
 have hks2 : RepSl Φ1 ks (.slice kA ks.length kc) := by rw [hkl]; exact hks
 have hkn : decide ((X.Kids.length : Int) = 0) = decide (ks = []) := decide_eq_decide.2 ⟨fun h => List.length_eq_zero_iff.1 (by omega), fun h => by rw [h] at hkl; simp only [List.length_nil] at hkl; omega⟩
 repeat refine gs1 ?_
 refine AW.cond rfl (fun k => ?_) fun k0 => ?_
 ·
  have k : X.Kind = 0 := odT k
  repeat refine gs1 ?_
  refine AW.drawZ (J0 := St ⟨w, Φ, []⟩ Φ1 [.blk b5 59 (exC X (.slice vA X.Kids.length vc)), .blk b4 115 (jC (.slice fA fs.length fc) m1 m2 m3 m4)]) [.q, .q, .q, .q, .q, .q, .q, .q, .q, .q, .q, .q, .q, .q, .q] [0, 1, 2, 3, 4, 5, 6, 7, 8, 9, 10, 11, 12, 13, 14] hmix (by kernel_rfl) ?_
  repeat refine gs1 ?_
  refine DW.q (v := .bool (decide ((X.Kids.length : Int) = 0) && decide (0 ≤ X.N))) (fun _ h => h) rfl (qpA rfl rfl rfl) ?_
  repeat refine gs1 ?_
  refine DW.q (v := .bool (decide ((X.Kids.length : Int) = 0) && decide (0 ≤ X.N) && decide (X.N ≤ 1125899906842624))) (fun _ h => h) rfl (qpA rfl rfl rfl) ?_
  repeat refine gs1 ?_
  exact fin_res (vs := [iV 0, .bool (decide ((X.Kids.length : Int) = 0) && decide (0 ≤ X.N) && decide (X.N ≤ 1125899906842624))]) rfl rfl ⟨.tmp rfl, .tmp rfl, trivial⟩ rfl (fun w' hw => ⟨by rw [hjx]; unfold Ru.jnd; rw [if_pos k, hkn]; rfl, hw.below rfl⟩)
 have k0 : X.Kind ≠ 0 := odF k0
 repeat refine gs1 ?_
 refine AW.cond rfl (fun k => ?_) fun k1 => ?_
 ·
  have k : X.Kind = 1 := odT k
  repeat refine gs1 ?_
  refine RW.g (b := decide ((X.Kids.length : Int) = 0)) (v := .bool (Ru.jfact e X)) rfl rfl rfl (fun h => q_call (args := #[.agg (jC (.slice fA fs.length fc) m1 m2 m3 m4).toArray, .agg (exC X (.slice vA X.Kids.length vc)).toArray]) oK rfl (args2 (gv_pos h) (gv_pos h)) (fun w1 hw1 => jfact_c w1 hw1.phi hJ1 hX)) ?_
  repeat refine gs1 ?_
  refine RW.q (v := .bool (decide ((X.Kids.length : Int) = 0) && Ru.jfact e X)) rfl (qpA rfl rfl rfl) ?_
  repeat refine gs1 ?_
  exact fin_res (vs := [iV 0, .bool (decide ((X.Kids.length : Int) = 0) && Ru.jfact e X)]) rfl rfl ⟨.tmp rfl, .tmp rfl, trivial⟩ rfl (fun w' hw => ⟨by rw [hjx]; unfold Ru.jnd; rw [if_neg k0, if_pos k, hkn]; rfl, hw.below rfl⟩)
 have k1 : X.Kind ≠ 1 := odF k1
 repeat refine gs1 ?_
 refine AW.cond rfl (fun k => ?_) fun k15 => ?_
 ·
  have k : X.Kind = 15 := odT k
  repeat refine gs1 ?_
  refine RW.q (v := .bool (!decide ((X.Kids.length : Int) = 0) || decide (X.N < 0))) rfl (qpO rfl rfl rfl) ?_
  repeat refine gs1 ?_
  refine RW.g (b := (!decide ((X.Kids.length : Int) = 0) || decide (X.N < 0))) (v := iV (ts.length : Int)) rfl rfl rfl (fun h => q_len_sl (gv_pos h) hps uT29) ?_
  repeat refine gs1 ?_
  refine RW.q (v := .bool ((!decide ((X.Kids.length : Int) = 0) || decide (X.N < 0)) || decide ((ts.length : Int) ≤ X.N))) rfl (qpO rfl rfl rfl) ?_
  repeat refine gs1 ?_
  have e15 : ((!decide ((X.Kids.length : Int) = 0) || decide (X.N < 0)) || decide ((ts.length : Int) ≤ X.N)) = decide (ks ≠ [] ∨ X.N < 0 ∨ (ts.length : Int) ≤ X.N) := by rw [hkn, Bool.eq_iff_iff]; simp only [Bool.or_eq_true, Bool.not_eq_true', decide_eq_true_eq, decide_eq_false_iff_not, or_assoc, ne_eq]
  refine AW.cond rfl (fun c => ?_) fun c => ?_
  ·
   have c : ks ≠ [] ∨ X.N < 0 ∨ (ts.length : Int) ≤ X.N := odT (e15.symm.trans c)
   repeat refine gs1 ?_
   exact fin_res (vs := [iV 0, .bool false]) rfl rfl ⟨.tmp rfl, .tmp rfl, trivial⟩ rfl (fun w' hw => ⟨by rw [hjx]; unfold Ru.jnd; rw [if_neg k0, if_neg k1, if_pos k, if_pos c]; rfl, hw.below rfl⟩)
  have c : ¬ (ks ≠ [] ∨ X.N < 0 ∨ (ts.length : Int) ≤ X.N) := odF (e15.symm.trans c)
  obtain ⟨m, hm⟩ : ∃ m : Nat, X.N = m := ⟨X.N.toNat, by omega⟩
  have hml : m < ts.length := by omega
  have pe := RepSl.gi' (hpv.mono hl1) hml
  repeat refine gs1 ?_
  refine RW.q (v := .pointer (some (Value.at (.slice pA ts.length pc) (m * 1)))) rfl (qa_ixN (n := ts.length) (i := m) rfl (by show Value.int .i64 X.N = _; rw [hm]) hps hml) ?_
  repeat refine gs1 ?_
  exact fin_res (vs := [iV (ts.getD m 0), .bool true]) rfl rfl ⟨.tmp rfl, .tmp rfl, trivial⟩ rfl (fun w' hw => ⟨by rw [hjx]; unfold Ru.jnd; rw [if_neg k0, if_neg k1, if_pos k, if_neg c, hm, Int.toNat_natCast]; rfl, hw.below rfl⟩)
 have k15 : X.Kind ≠ 15 := odF k15
 repeat refine gs1 ?_
 refine AW.cond rfl (fun k => ?_) fun k14 => ?_
 ·
  have k : X.Kind = 14 := odT k
  repeat refine gs1 ?_
  refine RW.g (b := decide (X.N < 0)) (v := iV (fs.length : Int)) rfl rfl rfl (fun h => q_len_sl (gv_pos h) hfs uT32) ?_
  repeat refine gs1 ?_
  refine RW.q (v := .bool (decide (X.N < 0) || decide ((fs.length : Int) ≤ X.N))) rfl (qpO rfl rfl rfl) ?_
  repeat refine gs1 ?_
  refine AW.cond rfl (fun c => ?_) fun c => ?_
  ·
   have c : X.N < 0 ∨ (fs.length : Int) ≤ X.N := by simpa using c
   repeat refine gs1 ?_
   exact fin_res (vs := [iV 0, .bool false]) rfl rfl ⟨.tmp rfl, .tmp rfl, trivial⟩ rfl (fun w' hw => ⟨by rw [hjx]; unfold Ru.jnd; rw [if_neg k0, if_neg k1, if_neg k15, if_pos k, if_pos c]; rfl, hw.below rfl⟩)
  have c : ¬ (X.N < 0 ∨ (fs.length : Int) ≤ X.N) := by simpa using c
  obtain ⟨m, hm⟩ : ∃ m : Nat, X.N = m := ⟨X.N.toNat, by omega⟩
  have hml : m < fs.length := by omega
  obtain ⟨qv, Ab, cb, hpb, hqv, _, _, _, _⟩ := funW hJ1.f hml
  have pr : PCell Φ1 (Value.at (.slice fA fs.length fc) (m * 8 + 2)) (iV (fs.getD m default).Result) := by have := hpb 2 _ rfl; rwa [at_add] at this
  have pp : PCell Φ1 (Value.at (.slice fA fs.length fc) (m * 8 + 1)) qv := by have := hpb 1 _ rfl; rwa [at_add] at this
  clear hpb
  repeat refine gs1 ?_
  refine AW.drawZ (J0 := St ⟨w, Φ, []⟩ Φ1 [.blk b5 59 (exC X (.slice vA X.Kids.length vc)), .blk b4 115 (jC (.slice fA fs.length fc) m1 m2 m3 m4)]) [.q, .q, .q, .q, .q, .q, .q, .q, .q, .q, .q, .q, .q, .q, .q, .q, .q, .q] [0, 1, 2, 3, 4, 5, 6, 7, 8, 9, 10, 11, 12, 13, 14, 15, 16, 17] hmix (by kernel_rfl) ?_
  repeat refine gs1 ?_
  refine DW.q (v := .pointer (some (Value.at (.slice fA fs.length fc) (m * 8)))) (fun _ h => h) rfl (qa_ixN (n := fs.length) (i := m) rfl (by show Value.int .i64 X.N = _; rw [hm]) hfs hml) ?_
  repeat refine gs1 ?_
  refine DW.q (v := .pointer (some (Value.at (.slice fA fs.length fc) (m * 8)))) (fun _ h => h) rfl (qa_ixN (n := fs.length) (i := m) rfl (by show Value.int .i64 X.N = _; rw [hm]) hfs hml) ?_
  repeat refine gs1 ?_
  refine DW.q (v := .bool (decide (ks = (fs.getD m default).Params))) (fun _ h => h) rfl (q_call (args := #[.slice kA X.Kids.length kc, qv]) oK rfl rfl (fun w1 hw1 => eqI_c w1 Φ1 hw1.phi hks hqv)) ?_
  repeat refine gs1 ?_
  exact fin_res (vs := [iV (fs.getD m default).Result, .bool (decide (ks = (fs.getD m default).Params))]) rfl rfl ⟨.tmp rfl, .tmp rfl, trivial⟩ rfl (fun w' hw => ⟨by rw [hjx]; unfold Ru.jnd; rw [if_neg k0, if_neg k1, if_neg k15, if_pos k, if_neg c, hm, Int.toNat_natCast]; rfl, hw.below rfl⟩)
 have k14 : X.Kind ≠ 14 := odF k14
 repeat refine gs1 ?_
 refine AW.cond rfl (fun c => ?_) fun c => ?_
 ·
  have c : X.N ≠ 0 := by simpa using c
  repeat refine gs1 ?_
  exact fin_res (vs := [iV 0, .bool false]) rfl rfl ⟨.tmp rfl, .tmp rfl, trivial⟩ rfl (fun w' hw => ⟨by rw [hjx]; unfold Ru.jnd; rw [if_neg k0, if_neg k1, if_neg k15, if_neg k14, if_pos c]; rfl, hw.below rfl⟩)
 have c : X.N = 0 := by simpa using c
 repeat refine gs1 ?_
 refine RW.q (v := .tuple #[iV (Ru.jop X.Kind ks).1, .bool (Ru.jop X.Kind ks).2]) rfl (q_call (args := #[iV X.Kind, .slice kA X.Kids.length kc]) oK rfl rfl (fun w1 hw1 => jop_c w1 hw1.phi hks)) ?_
 repeat refine gs1 ?_
 exact fin_res (vs := [iV (Ru.jop X.Kind ks).1, .bool (Ru.jop X.Kind ks).2]) rfl rfl ⟨.tmp rfl, .tmp rfl, trivial⟩ rfl (fun w' hw => ⟨by rw [hjx]; unfold Ru.jnd; rw [if_neg k0, if_neg k1, if_neg k15, if_neg k14, if_neg (by omega)]; rfl, hw.below rfl⟩)
theorem jexpr_0 : JxOK e fs fv m1 m2 m3 m4 0 := by
 intro w Φ X v ts pv d hΦ hJ hX hv hpv hnd hd0
 have hnl : (40 : Int) < d := by omega
 have hjx : Ru.jx e fs ts 0 X = (0, false) := rfl
 refine calls_of_AW (args := [.agg (jC fv m1 m2 m3 m4).toArray, .agg (exC X v).toArray, pv, iV d]) Tryz.func105 rfl (lBT rfl) (St ⟨w, Φ, []⟩ Φ []) (StP.init w Φ hΦ []) ?_
 show AW _ _ [] _ _ _ [(0, .agg (jC fv m1 m2 m3 m4).toArray), (1, .agg (exC X v).toArray), (2, pv), (3, iV d)] _
 repeat refine gs1 ?_
 refine RW.bxA (cs := jC fv m1 m2 m3 m4) rfl rfl fun b4 => ?_
 refine RW.bxA (cs := exC X v) rfl rfl fun b5 => ?_
 repeat refine gs1 ?_
 refine RW.g2 (b1 := decide ((40 : Int) < d)) (b2 := (!decide (X.Kind = 1))) (v := .pointer (some ⟨b5, 2, none⟩)) rfl rfl rfl (fun h1 h2 => qa_fa0 rfl) (RW.g2 (b1 := decide ((40 : Int) < d)) (b2 := (!decide (X.Kind = 1))) (v := iV X.Of) rfl rfl rfl (fun h1 h2 => qa_ld ((gv_pos h1).trans (gv_pos h2)) (Cell.blk 0 rfl rfl)) (RW.g2 (b1 := decide ((40 : Int) < d)) (b2 := (!decide (X.Kind = 1))) (v := .bool (!decide (X.Of = 0))) rfl rfl rfl (fun h1 h2 => q_neq (a := X.Of) (b := 0) ((gv_pos h1).trans (gv_pos h2)) rfl) (RW.g2 (b1 := decide ((40 : Int) < d)) (b2 := (!decide (X.Kind = 1))) (v := .bool (!decide (X.Of = 0))) rfl rfl rfl (fun h1 h2 => q_move ((gv_pos h1).trans (gv_pos h2))) (RW.g3 (b1 := decide ((40 : Int) < d)) (b2 := (!decide (X.Kind = 1))) (b3 := (!decide (X.Of = 0))) (v := .pointer (some ⟨b5, 3, none⟩)) rfl rfl rfl (fun h1 h2 h3 => qa_fa0 rfl) (RW.g3 (b1 := decide ((40 : Int) < d)) (b2 := (!decide (X.Kind = 1))) (b3 := (!decide (X.Of = 0))) (v := iV X.Of2) rfl rfl rfl (fun h1 h2 h3 => qa_ld ((gv_pos h1).trans ((gv_pos h2).trans (gv_pos h3))) (Cell.blk 0 rfl rfl)) (RW.g3 (b1 := decide ((40 : Int) < d)) (b2 := (!decide (X.Kind = 1))) (b3 := (!decide (X.Of = 0))) (v := .bool (!decide (X.Of2 = 0))) rfl rfl rfl (fun h1 h2 h3 => q_neq (a := X.Of2) (b := 0) ((gv_pos h1).trans ((gv_pos h2).trans (gv_pos h3))) rfl) (RW.g2 (b1 := decide ((40 : Int) < d)) (b2 := (!decide (X.Kind = 1))) (v := .bool ((!decide (X.Of = 0)) || (!decide (X.Of2 = 0)))) rfl rfl rfl (fun h1 h2 => q_pick ((gv_pos h1).trans (gv_pos h2)) (fun hp => pkOrT hp) (fun hp => (gv_pos h1).trans ((gv_pos h2).trans ((gv_pos hp).trans (pkOrF hp))))) (RW.g (b := decide ((40 : Int) < d)) (v := .bool ((!decide (X.Kind = 1)) && ((!decide (X.Of = 0)) || (!decide (X.Of2 = 0))))) rfl rfl rfl (fun h1 => q_pick (gv_pos h1) (fun hp => (gv_pos h1).trans ((gv_pos hp).trans (pkAndT hp))) (fun hp => pkAndF hp)) (RW.q (v := .bool (decide ((40 : Int) < d) || ((!decide (X.Kind = 1)) && ((!decide (X.Of = 0)) || (!decide (X.Of2 = 0)))))) rfl (qpO rfl rfl rfl) ?_)))))))))
 repeat refine gs1 ?_
 refine AW.cond rfl (fun hc => ?_) fun hc => ?_
 ·
  repeat refine gs1 ?_
  exact fin_res (vs := [iV 0, .bool false]) rfl rfl ⟨.tmp rfl, .tmp rfl, trivial⟩ rfl (fun w' hw => ⟨by rw [hjx]; rfl, hw.below rfl⟩)
 ·
  simp [hnl] at hc
theorem jexpr_c : ∀ n, JxOK e fs fv m1 m2 m3 m4 n
 | 0 => jexpr_0
 | n + 1 => jexpr_of (jexpr_c n)
end
end Go.Proofs.YtjmeeofdffdpnaaGreatDoor
namespace Go.Proofs.YtjmeeofdffdpnaaGreatDoor
open Go Go.K Go.RowKit
attribute [local irreducible] AW RW DW DT Post Qt
theorem _root_.Go.K.AW.mid {P : Program} {N : Nat} {D : List Deferred} {Q : Exit → Act → World → Prop} {f : Nat → Value} {s : List (Nat × Value)} {J : Cls} {x : Code} (I : List (Nat × Value) → Cls → Prop) (h : AW P N D x (Mid N D I Q) f s J) (k : ∀ f' s' J', I s' J' → Post N D Q .normal f' s' J') : AW P N D x Q f s J := by
  unfold AW at *
  exact fun a w ha hw => Code.wp_mono (fun e a' w' hQ => by
    cases e with
    | normal =>
      obtain ⟨f', s', J', hI, hr, hp⟩ := hQ
      have hk := k f' s' J' hI
      unfold Post at hk
      exact hk a' w' hr hp
    | _ => exact hQ) (h a w ha hw)
end Go.Proofs.YtjmeeofdffdpnaaGreatDoor
namespace Vm
open Bt
theorem soL_all (r : Rule) (ps : Nat) : ∀ (xs : List Expr) (d : Nat), soL r ps d xs = xs.all (soE r ps d)
  | [], _ => by rw [soL]; rfl
  | x :: xs, d => by rw [soL, soL_all r ps xs d]; rfl
def arK (r : Rule) (x : Expr) : Nat := if x.Kind = 0 ∨ x.Kind = 15 ∨ x.Kind = 1 then 0 else if x.Kind = 2 ∨ x.Kind = 3 then 1 else if x.Kind = 13 then 3 else if x.Kind = 14 then arE r x.N else 2
def okK (r : Rule) (ps : Nat) (x : Expr) : Bool := if x.Kind = 15 then decide (0 ≤ x.N ∧ x.N < ps) else if x.Kind = 1 then decide (0 ≤ x.N ∧ x.N < 8 ∧ 0 ≤ x.Of ∧ x.Of < 1024 ∧ 0 ≤ x.Of2 ∧ x.Of2 < 1024) else if x.Kind = 14 then decide (0 ≤ x.N ∧ x.N < r.Funcs.length) else true
theorem soE_eq (r : Rule) (ps d : Nat) (x : Expr) : soE r ps d x = (decide (d ≤ 40) && decide (0 ≤ x.Kind ∧ x.Kind < 16) && okK r ps x && decide (x.Kids.length = arK r x) && x.Kids.all (soE r ps (d + 1))) := by
  obtain ⟨k, n, o, q, ks⟩ := x
  rw [soE, soL_all]
  rfl
end Vm
namespace Go.Proofs.YtjmeeofdffdpnaaGreatDoor
open Go Go.K Go.RowKit
open Ru (pB)
attribute [local irreducible] AW RW DW Post Qt
def SoOK (r : Bt.Rule) (fv cv : Value) (n : Nat) : Prop := ∀ (w : World) (Φ : Hp) (X : Bt.Expr) (v : Value) (ps d : Nat), Hp.le Φ (hp w) → RepSl Φ r.Funcs fv → wfE X → RepSl Φ X.Kids v → ps ≤ 140737488355328 → n + d = 41 →
  Calls pg 66 #[.agg #[fv, cv], .agg (exC X v).toArray, .int .i64 (ps : Int), .int .i64 (d : Int)] w fun e' w' => e' = .returned (.bool (Vm.soE r ps d X)) ∧ Bel w.heap.size w w'
section
variable {r : Bt.Rule} {fv cv : Value}
theorem sound_of {n : Nat} (hcv : ∃ m, IsSl cv m) (ih : ∀ m, n = m + 1 → SoOK r fv cv m) : SoOK r fv cv n := by
  intro w Φ X v ps d hΦ hf hX hv hps hnd
  obtain ⟨cm, cA, cc, rfl, _⟩ := hcv
  obtain ⟨vA, vc, rfl, _⟩ := hv.sl
  have hvs := hv.sl
  obtain ⟨fA, fc, rfl, _⟩ := hf.sl
  have hfs := hf.sl
  have hxb : X.Kids.length * 56 ≤ maxSl := hv.max
  simp only [maxSl] at hxb
  refine calls_of_AW (args := [.agg #[.slice fA r.Funcs.length fc, .slice cA cm cc], .agg (exC X (.slice vA X.Kids.length vc)).toArray, .int .i64 (ps : Int), .int .i64 (d : Int)]) Tryz.func66 rfl (lBT rfl) (St ⟨w, Φ, []⟩ Φ []) (StP.init w Φ hΦ []) ?_
  show AW _ _ [] _ _ _ [(0, .agg #[.slice fA r.Funcs.length fc, .slice cA cm cc]), (1, .agg (exC X (.slice vA X.Kids.length vc)).toArray), (2, .int .i64 (ps : Int)), (3, .int .i64 (d : Int))] _
  repeat refine gs1 ?_
  refine RW.bxA (cs := [.slice fA r.Funcs.length fc, .slice cA cm cc]) rfl rfl fun b4 => ?_
  refine RW.bxA (cs := exC X (.slice vA X.Kids.length vc)) rfl rfl fun b5 => ?_
  repeat refine gs1 ?_
  refine RW.q (v := .bool (decide ((40 : Int) < (d : Int)) || decide (X.Kind < 0))) rfl (qpO rfl rfl rfl) ?_
  repeat refine gs1 ?_
  refine RW.q (v := .bool (decide ((40 : Int) < (d : Int)) || decide (X.Kind < 0) || decide ((16 : Int) ≤ X.Kind))) rfl (qpO rfl rfl rfl) ?_
  repeat refine gs1 ?_
  refine AW.cond rfl (fun hc => ?_) fun hc => ?_
  · have hc : (40 : Int) < d ∨ X.Kind < 0 ∨ 16 ≤ X.Kind := by simpa [or_assoc, and_assoc] using hc
    repeat refine gs1 ?_
    exact fin_res (vs := [.bool false]) rfl rfl ⟨.tmp rfl, trivial⟩ rfl (fun w' hw => ⟨by rw [Vm.soE_eq, show (decide (d ≤ 40) && decide (0 ≤ X.Kind ∧ X.Kind < 16)) = false by rw [Bool.and_eq_false_iff, decide_eq_false_iff_not, decide_eq_false_iff_not]; omega]; rfl, hw.below rfl⟩)
  have hc : ¬ ((40 : Int) < d ∨ X.Kind < 0 ∨ 16 ≤ X.Kind) := by simpa [or_assoc, and_assoc] using hc
  have h0 : (decide (d ≤ 40) && decide (0 ≤ X.Kind ∧ X.Kind < 16)) = true := by rw [Bool.and_eq_true, decide_eq_true_eq, decide_eq_true_eq]; omega
  obtain ⟨m, rfl⟩ : ∃ m, n = m + 1 := ⟨n - 1, by omega⟩
  have ih := ih m rfl
  have hno : Vm.okK r ps X = false → (Vm.soE r ps d X) = false := fun h => by rw [Vm.soE_eq, h]; simp
  repeat refine gs1 ?_
  refine AW.mid (fun s J => s = [(2, .int .i64 (ps : Int)), (3, .int .i64 (d : Int)), (4, pB b4), (5, pB b5), (9, .int .i64 ((Vm.arK r X : Nat) : Int))] ∧ J = St ⟨w, Φ, []⟩ Φ [.blk b5 59 (exC X (.slice vA X.Kids.length vc)), .blk b4 35 [.slice fA r.Funcs.length fc, .slice cA cm cc]] ∧ Vm.okK r ps X = true) ?_ ?_
  · refine AW.cond rfl (fun k => ?_) fun k0 => ?_
    · have k : X.Kind = 0 := odT k
      have hK : Vm.arK r X = 0 := by unfold Vm.arK; rw [if_pos (by omega)]
      have hok : Vm.okK r ps X = true := by unfold Vm.okK; rw [if_neg (by omega), if_neg (by omega), if_neg (by omega)]
      repeat refine gs1 ?_
      exact Post.mid_n (s' := _) (J' := _) ⟨rfl, rfl, hok⟩ ⟨rfl, rfl, rfl, rfl, (by rw [hK]; rfl), trivial⟩ (fun _ h => h)
    have k0 : X.Kind ≠ 0 := odF k0
    repeat refine gs1 ?_
    refine AW.cond rfl (fun k => ?_) fun k15 => ?_
    · have k : X.Kind = 15 := odT k
      have hK : Vm.arK r X = 0 := by unfold Vm.arK; rw [if_pos (by omega)]
      have hkk : Vm.okK r ps X = decide (0 ≤ X.N ∧ X.N < ps) := by unfold Vm.okK; rw [if_pos k]
      repeat refine gs1 ?_
      refine RW.q (v := .bool (decide (X.N < 0) || decide ((ps : Int) ≤ X.N))) rfl (qpO rfl rfl rfl) ?_
      repeat refine gs1 ?_
      refine AW.cond rfl (fun c => ?_) fun c => ?_
      · have c : X.N < 0 ∨ (ps : Int) ≤ X.N := by simpa using c
        have hok : Vm.okK r ps X = false := by rw [hkk, decide_eq_false_iff_not]; omega
        repeat refine gs1 ?_
        refine Post.mid_r ?_
        repeat refine gs1 ?_
        exact fin_res (vs := [.bool false]) rfl rfl ⟨.tmp rfl, trivial⟩ rfl (fun w' hw => ⟨by rw [hno hok]; rfl, hw.below rfl⟩)
      have c : ¬ (X.N < 0 ∨ (ps : Int) ≤ X.N) := by simpa using c
      have hok : Vm.okK r ps X = true := by rw [hkk, decide_eq_true_eq]; omega
      repeat refine gs1 ?_
      exact Post.mid_n (s' := _) (J' := _) ⟨rfl, rfl, hok⟩ ⟨rfl, rfl, rfl, rfl, (by rw [hK]; rfl), trivial⟩ (fun _ h => h)
    have k15 : X.Kind ≠ 15 := odF k15
    repeat refine gs1 ?_
    refine AW.cond rfl (fun k => ?_) fun k1 => ?_
    · have k : X.Kind = 1 := odT k
      have hK : Vm.arK r X = 0 := by unfold Vm.arK; rw [if_pos (by omega)]
      have hkk : Vm.okK r ps X = decide (0 ≤ X.N ∧ X.N < 8 ∧ 0 ≤ X.Of ∧ X.Of < 1024 ∧ 0 ≤ X.Of2 ∧ X.Of2 < 1024) := by unfold Vm.okK; rw [if_neg k15, if_pos k]
      repeat refine gs1 ?_
      refine RW.q (v := .bool (decide (X.N < 0) || decide ((8 : Int) ≤ X.N))) rfl (qpO rfl rfl rfl) ?_
      repeat refine gs1 ?_
      refine RW.q (v := .bool (decide (X.N < 0) || decide ((8 : Int) ≤ X.N) || decide (X.Of < 0))) rfl (qpO rfl rfl rfl) ?_
      repeat refine gs1 ?_
      refine RW.q (v := .bool (decide (X.N < 0) || decide ((8 : Int) ≤ X.N) || decide (X.Of < 0) || decide ((1024 : Int) ≤ X.Of))) rfl (qpO rfl rfl rfl) ?_
      repeat refine gs1 ?_
      refine RW.q (v := .bool (decide (X.N < 0) || decide ((8 : Int) ≤ X.N) || decide (X.Of < 0) || decide ((1024 : Int) ≤ X.Of) || decide (X.Of2 < 0))) rfl (qpO rfl rfl rfl) ?_
      repeat refine gs1 ?_
      refine RW.q (v := .bool (decide (X.N < 0) || decide ((8 : Int) ≤ X.N) || decide (X.Of < 0) || decide ((1024 : Int) ≤ X.Of) || decide (X.Of2 < 0) || decide ((1024 : Int) ≤ X.Of2))) rfl (qpO rfl rfl rfl) ?_
      repeat refine gs1 ?_
      refine AW.cond rfl (fun c => ?_) fun c => ?_
      · have c : X.N < 0 ∨ 8 ≤ X.N ∨ X.Of < 0 ∨ 1024 ≤ X.Of ∨ X.Of2 < 0 ∨ 1024 ≤ X.Of2 := by simpa [or_assoc, and_assoc] using c
        have hok : Vm.okK r ps X = false := by rw [hkk, decide_eq_false_iff_not]; omega
        repeat refine gs1 ?_
        refine Post.mid_r ?_
        repeat refine gs1 ?_
        exact fin_res (vs := [.bool false]) rfl rfl ⟨.tmp rfl, trivial⟩ rfl (fun w' hw => ⟨by rw [hno hok]; rfl, hw.below rfl⟩)
      have c : ¬ (X.N < 0 ∨ 8 ≤ X.N ∨ X.Of < 0 ∨ 1024 ≤ X.Of ∨ X.Of2 < 0 ∨ 1024 ≤ X.Of2) := by simpa [or_assoc, and_assoc] using c
      have hok : Vm.okK r ps X = true := by rw [hkk, decide_eq_true_eq]; omega
      repeat refine gs1 ?_
      exact Post.mid_n (s' := _) (J' := _) ⟨rfl, rfl, hok⟩ ⟨rfl, rfl, rfl, rfl, (by rw [hK]; rfl), trivial⟩ (fun _ h => h)
    have k1 : X.Kind ≠ 1 := odF k1
    repeat refine gs1 ?_
    refine AW.orCh (kd := .i64) (t := 69) (x := 25) (a := X.Kind) rfl rfl _ rfl rfl rfl rfl fun f' => ?_
    repeat refine gs1 ?_
    refine AW.cond rfl (fun k => ?_) fun k23 => ?_
    · have k : X.Kind = 2 ∨ X.Kind = 3 := by simpa using k
      have hK : Vm.arK r X = 1 := by unfold Vm.arK; rw [if_neg (by omega), if_pos (by omega)]
      have hok : Vm.okK r ps X = true := by unfold Vm.okK; rw [if_neg (by omega), if_neg (by omega), if_neg (by omega)]
      repeat refine gs1 ?_
      exact Post.mid_n (s' := _) (J' := _) ⟨rfl, rfl, hok⟩ ⟨rfl, rfl, rfl, rfl, (by rw [hK]; rfl), trivial⟩ (fun _ h => h)
    have k23 : ¬ (X.Kind = 2 ∨ X.Kind = 3) := by simpa using k23
    repeat refine gs1 ?_
    refine AW.cond rfl (fun k => ?_) fun k13 => ?_
    · have k : X.Kind = 13 := odT k
      have hK : Vm.arK r X = 3 := by unfold Vm.arK; rw [if_neg (by omega), if_neg (by omega), if_pos k]
      have hok : Vm.okK r ps X = true := by unfold Vm.okK; rw [if_neg (by omega), if_neg (by omega), if_neg (by omega)]
      repeat refine gs1 ?_
      exact Post.mid_n (s' := _) (J' := _) ⟨rfl, rfl, hok⟩ ⟨rfl, rfl, rfl, rfl, (by rw [hK]; rfl), trivial⟩ (fun _ h => h)
    have k13 : X.Kind ≠ 13 := odF k13
    repeat refine gs1 ?_
    refine AW.cond rfl (fun k => ?_) fun k14 => ?_
    · have k : X.Kind = 14 := odT k
      have hkk : Vm.okK r ps X = decide (0 ≤ X.N ∧ X.N < r.Funcs.length) := by unfold Vm.okK; rw [if_neg k15, if_neg k1, if_pos k]
      repeat refine gs1 ?_
      refine RW.g (b := decide (X.N < 0)) (v := .int .i64 ((r.Funcs.length : Nat) : Int)) rfl rfl rfl (fun h => q_len_sl (gv_pos h) hfs Tryz.underlying32) ?_
      repeat refine gs1 ?_
      refine RW.q (v := .bool (decide (X.N < 0) || decide ((r.Funcs.length : Int) ≤ X.N))) rfl (qpO rfl rfl rfl) ?_
      repeat refine gs1 ?_
      refine AW.cond rfl (fun c => ?_) fun c => ?_
      · have c : X.N < 0 ∨ (r.Funcs.length : Int) ≤ X.N := by simpa using c
        have hok : Vm.okK r ps X = false := by rw [hkk, decide_eq_false_iff_not]; omega
        repeat refine gs1 ?_
        refine Post.mid_r ?_
        repeat refine gs1 ?_
        exact fin_res (vs := [.bool false]) rfl rfl ⟨.tmp rfl, trivial⟩ rfl (fun w' hw => ⟨by rw [hno hok]; rfl, hw.below rfl⟩)
      have c : ¬ (X.N < 0 ∨ (r.Funcs.length : Int) ≤ X.N) := by simpa using c
      have hok : Vm.okK r ps X = true := by rw [hkk, decide_eq_true_eq]; omega
      obtain ⟨m, hm⟩ : ∃ m : Nat, X.N = m := ⟨X.N.toNat, by omega⟩
      have hml : m < r.Funcs.length := by omega
      obtain ⟨qv, Ab, cb, hpb, hqv, hbk, hwb, hnl, hres⟩ := funW hf hml
      obtain ⟨qA, qc, rfl, _⟩ := hqv.sl
      have hqs := hqv.sl
      have hK : Vm.arK r X = (r.Funcs.getD m default).Params.length := by
        unfold Vm.arK Vm.arE
        rw [if_neg (by omega), if_neg (by omega), if_neg k13, if_pos k, hm, Int.toNat_natCast, gDD, List.getElem?_map, List.getElem?_eq_getElem hml, gDD, List.getElem?_eq_getElem hml]
        rfl
      have pp : PCell Φ (Value.at (.slice fA r.Funcs.length fc) (m * 8 + 1)) (.slice qA (r.Funcs.getD m default).Params.length qc) := by have := hpb 1 _ rfl; rwa [at_add] at this
      clear hpb
      repeat refine gs1 ?_
      refine RW.q (v := .pointer (some (Value.at (.slice fA r.Funcs.length fc) (m * 8)))) rfl (qa_ixN (n := r.Funcs.length) (i := m) rfl (by show Value.int .i64 X.N = _; rw [hm]) hfs hml) ?_
      repeat refine gs1 ?_
      exact Post.mid_n (s' := _) (J' := _) ⟨rfl, rfl, hok⟩ ⟨rfl, rfl, rfl, rfl, (by rw [hK]; rfl), trivial⟩ (fun _ h => h)
    have k14 : X.Kind ≠ 14 := odF k14
    have hK : Vm.arK r X = 2 := by unfold Vm.arK; rw [if_neg (by omega), if_neg (by omega), if_neg k13, if_neg k14]
    have hok : Vm.okK r ps X = true := by unfold Vm.okK; rw [if_neg k15, if_neg k1, if_neg k14]
    repeat refine gs1 ?_
    exact Post.mid_n (s' := _) (J' := _) ⟨rfl, rfl, hok⟩ ⟨rfl, rfl, rfl, rfl, (by rw [hK]; rfl), trivial⟩ (fun _ h => h)
  · rintro f1 _ _ ⟨rfl, rfl, hok⟩
    have hse : Vm.soE r ps d X = (decide (X.Kids.length = Vm.arK r X) && X.Kids.all (Vm.soE r ps (d + 1))) := by rw [Vm.soE_eq, h0, hok]; simp
    repeat refine gs1 ?_
    refine AW.cond rfl (fun c => ?_) fun c => ?_
    · have c : X.Kids.length ≠ Vm.arK r X := fun h => by rw [h] at c; simp at c
      repeat refine gs1 ?_
      exact fin_res (vs := [.bool false]) rfl rfl ⟨.tmp rfl, trivial⟩ rfl (fun w' hw => ⟨by rw [hse, decide_eq_false c]; rfl, hw.below rfl⟩)
    have c : X.Kids.length = Vm.arK r X := by
      by_cases h : X.Kids.length = Vm.arK r X
      · exact h
      · have : ((X.Kids.length : Nat) : Int) ≠ ((Vm.arK r X : Nat) : Int) := by omega
        simp [this] at c
    rw [decide_eq_true c, Bool.true_and] at hse
    repeat refine gs1 ?_
    refine AW.loop (fun s J q => ∃ (i : Nat), s = [(2, .int .i64 (ps : Int)), (3, .int .i64 (d : Int)), (4, pB b4), (5, pB b5), (101, .slice vA X.Kids.length vc), (102, .int .i64 ((X.Kids.length : Nat) : Int)), (103, .int .i64 (i : Int))] ∧ J = St ⟨w, Φ, []⟩ Φ [.blk b5 59 (exC X (.slice vA X.Kids.length vc)), .blk b4 35 [.slice fA r.Funcs.length fc, .slice cA cm cc]] ∧ q = X.Kids.length - i ∧ i ≤ X.Kids.length ∧ (X.Kids.take i).all (Vm.soE r ps (d + 1)) = true) (s0 := _) (J1 := _) (m0 := _) ⟨0, rfl, rfl, rfl, Nat.zero_le _, rfl⟩ ⟨rfl, rfl, rfl, rfl, rfl, rfl, rfl, trivial⟩ (fun _ h => h) ?_
    rintro _ _ _ _ ⟨i, rfl, rfl, rfl, hi, he1⟩
    repeat refine gs1 ?_
    refine AW.cond rfl (fun h => ?_) fun h => ?_
    · have h : i < X.Kids.length := by have := odT h; omega
      obtain ⟨Aa, ca, hpa, hra, hwa⟩ := kidW hv (i := i) h
      have hget : X.Kids.getD i default = X.Kids[i] := by rw [gDD, List.getElem?_eq_getElem h]; rfl
      have htk : X.Kids.take (i + 1) = X.Kids.take i ++ [X.Kids.getD i default] := by rw [Ru.take_snoc h, hget]
      repeat refine gs1 ?_
      refine RW.alc rfl fun b9 => ?_
      repeat refine gs1 ?_
      refine RW.q rfl (q_call (args := #[.agg #[.slice fA r.Funcs.length fc, .slice cA cm cc], .agg (exC (X.Kids.getD i default) (.slice Aa (X.Kids.getD i default).Kids.length ca)).toArray, .int .i64 (ps : Int), .int .i64 ((d + 1 : Nat) : Int)]) oK rfl rfl (fun w1 hw1 => ih w1 Φ _ _ ps (d + 1) hw1.phi hf hwa hra hps (by omega))) ?_
      repeat refine gs1 ?_
      refine AW.cond rfl (fun hok => ?_) fun hok => ?_
      · have hok : Vm.soE r ps (d + 1) (X.Kids.getD i default) = false := by simpa using hok
        repeat refine gs1 ?_
        exact fin_res (vs := [.bool false]) rfl rfl ⟨.tmp rfl, trivial⟩ rfl (fun w' hw => ⟨by rw [hse, List.all_eq_false.2 ⟨X.Kids.getD i default, (by rw [hget]; exact List.getElem_mem h), by rw [hok]; simp⟩]; rfl, hw.below rfl⟩)
      have hok : Vm.soE r ps (d + 1) (X.Kids.getD i default) = true := by simpa using hok
      repeat refine gs1 ?_
      exact Post.back (s' := _) (J' := _) (m' := _) (by omega) ⟨i + 1, rfl, rfl, rfl, by omega, by rw [htk, List.all_append, he1]; simpa using hok⟩ ⟨rfl, rfl, rfl, rfl, rfl, rfl, rfl, trivial⟩ (fun _ h => StP.sel h [1, 2] (by decide) rfl)
    have h : i = X.Kids.length := by have := odF h; omega
    subst h
    rw [List.take_length] at he1
    repeat refine gs1 ?_
    exact fin_res (vs := [.bool true]) rfl rfl ⟨.tmp rfl, trivial⟩ rfl (fun w' hw => ⟨by rw [hse, he1]; rfl, hw.below rfl⟩)
theorem sound_c (hcv : ∃ m, IsSl cv m) : ∀ n, SoOK r fv cv n
  | 0 => sound_of hcv fun m h => by omega
  | n + 1 => sound_of hcv fun m h => by
    obtain rfl : n = m := by omega
    exact sound_c hcv n
end
end Go.Proofs.YtjmeeofdffdpnaaGreatDoor
namespace Vm
open Bt
theorem cG_app : ∀ (xs ys : List Expr) (p : Nat), (cG 0 p (xs ++ ys)).flatten = (cG 0 p xs).flatten ++ (cG 0 (p + (cG 0 p xs).flatten.length) ys).flatten
  | [], ys, p => by simp [cG]
  | x :: xs, ys, p => by
    rw [List.cons_append, cG, cG, List.flatten_cons, List.flatten_cons, cG_app xs ys, List.append_assoc, List.length_append]
    simp only [Nat.add_zero, Nat.add_assoc]
theorem cG_one (x : Expr) (p : Nat) : (cG 0 p [x]).flatten = cE p x := by simp [cG]
theorem cG_pre : ∀ (xs : List Expr) (p i : Nat), (cG 0 p (xs.take i)).flatten.length ≤ (cG 0 p xs).flatten.length
  | [], _, i => by simp [cG]
  | x :: xs, p, 0 => by simp [cG]
  | x :: xs, p, i + 1 => by
    rw [List.take_succ_cons, cG, cG, List.flatten_cons, List.flatten_cons, List.length_append, List.length_append]
    have := cG_pre xs (p + (cE p x).length + 0) i
    omega
end Vm
namespace Go.Proofs.YtjmeeofdffdpnaaGreatDoor
open Go Go.K Go.RowKit
open Ru (pB)
attribute [local irreducible] AW RW DW Post Qt
abbrev czK (bc : Nat) (kv : Value) (xs : List Vm.Op) (b2 b3 : Nat) (X : Bt.Expr) (v : Value) : List Chunk := [.blk bc 78 [kv], .row kv 56 3 xs.length (xs.flatMap opC), .blk b2 156 [pB bc], .blk b3 59 (exC X v)]
abbrev addR (w : World) (Φ : Hp) (bc : Nat) (kv : Value) (xs O : List Vm.Op) : Ending → World → Prop := OwnU w Φ (coK bc kv xs) (fun _ : Value => .tuple #[]) fun v => coK bc v (xs ++ O)
abbrev addZ (w : World) (Φ : Hp) (bc : Nat) (kv : Value) (xs O : List Vm.Op) (b2 b3 : Nat) (X : Bt.Expr) (v : Value) : Ending → World → Prop := OwnU w Φ (czK bc kv xs b2 b3 X v) (fun _ : Value => .tuple #[]) fun u => czK bc u (xs ++ O) b2 b3 X v
def CloOK (Φ : Hp) (bc b2 b3 : Nat) (X : Bt.Expr) (v : Value) (k : FuncId) (capt : Array Value) (O : Nat → List Vm.Op) : Prop := ∀ (w : World) (kv : Value) (xs : List Vm.Op), xs.length + (O xs.length).length ≤ 1000000000 → StP ⟨w, Φ, fps (czK bc kv xs b2 b3 X v)⟩ Φ (czK bc kv xs b2 b3 X v) w → Calls pg k capt w (addZ w Φ bc kv xs (O xs.length) b2 b3 X v)
def ExAt (Φ : Hp) (bc : Nat) (X : Bt.Expr) (v : Value) : Prop := ∀ (w : World) (kv : Value) (xs : List Vm.Op), xs.length + (Vm.cE xs.length X).length ≤ 1000000000 → StP ⟨w, Φ, fps (coK bc kv xs)⟩ Φ (coK bc kv xs) w → Calls pg 28 #[pB bc, .agg (exC X v).toArray] w (addR w Φ bc kv xs (Vm.cE xs.length X))
section
variable {Φ : Hp} {bc b2 b3 : Nat} {X : Bt.Expr} {v : Value}
theorem xclo1_c : CloOK Φ bc b2 b3 X v 68 #[pB b2] (fun _ => [⟨0, 0, 0⟩]) := by
  intro w kv xs hb h0
  simp only [List.length_singleton] at hb
  refine calls_of_AW (args := [pB b2]) Tryz.func68 rfl (lBT rfl) (St ⟨w, Φ, fps (czK bc kv xs b2 b3 X v)⟩ Φ (czK bc kv xs b2 b3 X v)) h0 ?_
  show AW _ _ [] _ _ _ [(0, pB b2)] _
  repeat refine gs1 ?_
  refine RW.ownU (args := #[pB bc, .int .i64 0, .int .i64 0, .int .i64 0]) (C2 := [.blk b2 156 [pB bc], .blk b3 59 (exC X v)]) [0, 1, 2, 3] (by decide) rfl rfl oK rfl rfl (fun w1 hw1 => emit_c w1 0 0 0 (by omega) hw1) fun kv' => ?_
  repeat refine gs1 ?_
  exact fin_none (J' := St ⟨w, Φ, fps (czK bc kv xs b2 b3 X v)⟩ Φ (czK bc kv' (xs ++ ([⟨0, 0, 0⟩] : List Vm.Op)) b2 b3 X v)) rfl rfl (fun _ h => h) (fun w1 hw1 => ⟨kv', rfl, hw1⟩)
theorem xclo2_c : CloOK Φ bc b2 b3 X v 69 #[pB b2] (fun _ => [⟨0, 1, 0⟩]) := by
  intro w kv xs hb h0
  simp only [List.length_singleton] at hb
  refine calls_of_AW (args := [pB b2]) Tryz.func69 rfl (lBT rfl) (St ⟨w, Φ, fps (czK bc kv xs b2 b3 X v)⟩ Φ (czK bc kv xs b2 b3 X v)) h0 ?_
  show AW _ _ [] _ _ _ [(0, pB b2)] _
  repeat refine gs1 ?_
  refine RW.ownU (args := #[pB bc, .int .i64 0, .int .i64 1, .int .i64 0]) (C2 := [.blk b2 156 [pB bc], .blk b3 59 (exC X v)]) [0, 1, 2, 3] (by decide) rfl rfl oK rfl rfl (fun w1 hw1 => emit_c w1 0 1 0 (by omega) hw1) fun kv' => ?_
  repeat refine gs1 ?_
  exact fin_none (J' := St ⟨w, Φ, fps (czK bc kv xs b2 b3 X v)⟩ Φ (czK bc kv' (xs ++ ([⟨0, 1, 0⟩] : List Vm.Op)) b2 b3 X v)) rfl rfl (fun _ h => h) (fun w1 hw1 => ⟨kv', rfl, hw1⟩)
theorem xclo3_c {Aa : Option Addr} {ca n : Nat} {vA : Option Addr} {vc : Nat} (_ : X.Kids.length = n) (h2 : 2 < n) (hvs : IsSl (.slice vA n vc) n) (hpa : PCells Φ (Value.at (.slice vA n vc) (2 * 5)) (exC (X.Kids.getD 2 default) (.slice Aa (X.Kids.getD 2 default).Kids.length ca))) (hE : ExAt Φ bc (X.Kids.getD 2 default) (.slice Aa (X.Kids.getD 2 default).Kids.length ca)) :
    CloOK Φ bc b2 b3 X (.slice vA n vc) 70 #[pB b2, pB b3] (fun p => Vm.cE p (X.Kids.getD 2 default)) := by
  intro w kv xs hb h0
  refine calls_of_AW (args := [pB b2, pB b3]) Tryz.func70 rfl (lBT rfl) (St ⟨w, Φ, fps (czK bc kv xs b2 b3 X (.slice vA n vc))⟩ Φ (czK bc kv xs b2 b3 X (.slice vA n vc))) h0 ?_
  show AW _ _ [] _ _ _ [(0, pB b2), (1, pB b3)] _
  repeat refine gs1 ?_
  refine AW.drawZ (J0 := St ⟨w, Φ, fps (czK bc kv xs b2 b3 X (.slice vA n vc))⟩ Φ [.blk b2 156 [pB bc], .blk b3 59 (exC X (.slice vA n vc))]) [.q, .q, .q, .q, .q, .e] [0, 1, 2, 3, 4, 5] hmix (by kernel_rfl) ?_
  refine DW.q (fun _ h => StP.sel h [2, 3] (by decide) rfl) rfl (qa_ld rfl (Cell.blk 0 rfl rfl)) ?_
  refine DW.q (fun _ h => StP.sel h [2, 3] (by decide) rfl) rfl (qa_fa0 rfl) ?_
  refine DW.q (fun _ h => StP.sel h [2, 3] (by decide) rfl) rfl (qa_ld rfl (Cell.blk 1 rfl rfl)) ?_
  refine DW.q (v := .pointer (some (Value.at (.slice vA n vc) (2 * 5)))) (fun _ h => StP.sel h [2, 3] (by decide) rfl) rfl (qa_ixL (n := n) (i := 2) rfl rfl hvs h2) ?_
  refine DW.q (v := .agg (exC (X.Kids.getD 2 default) (.slice Aa (X.Kids.getD 2 default).Kids.length ca)).toArray) (fun _ h => StP.sel h [2, 3] (by decide) rfl) rfl (qa_ldA rfl (fun j u hj => Cell.phi (hpa j u hj)) rfl) ?_
  refine DW.ownU (args := #[pB bc, .agg (exC (X.Kids.getD 2 default) (.slice Aa (X.Kids.getD 2 default).Kids.length ca)).toArray]) (C2 := [.blk b2 156 [pB bc], .blk b3 59 (exC X (.slice vA n vc))]) [0, 1, 2, 3] (by decide) rfl rfl oK rfl rfl (fun w1 hw1 => hE w1 kv xs hb hw1) (fun _ _ h => StP.sel h [2, 3] (by decide) rfl) fun kv' => ?_
  repeat refine gs1 ?_
  exact fin_none (J' := St ⟨w, Φ, fps (czK bc kv xs b2 b3 X (.slice vA n vc))⟩ Φ (czK bc kv' (xs ++ Vm.cE xs.length (X.Kids.getD 2 default)) b2 b3 X (.slice vA n vc))) rfl rfl (fun _ h => h) (fun w1 hw1 => ⟨kv', rfl, hw1⟩)
theorem choice_list {kind : Int} {xs A B O L1 L2 L3 L4 L5 L6 : List Vm.Op} (h1 : L1 = xs ++ A) (h2 : L2 = L1 ++ [⟨kind, 0, 0⟩]) (h3 : L3 = L2 ++ B) (h4 : L4 = L3 ++ [⟨12, 0, 0⟩]) (h5 : L5 = L1 ++ ⟨kind, ((L4.length : Nat) : Int), 0⟩ :: (B ++ [⟨12, 0, 0⟩])) (h6 : L6 = L5 ++ O) :
    L1 ++ ⟨kind, ((L4.length : Nat) : Int), 0⟩ :: B ++ ⟨12, ((L6.length : Nat) : Int), 0⟩ :: O = xs ++ Vm.chC kind xs.length A B O := by
  have e4 : L4.length = xs.length + A.length + 1 + B.length + 1 := by rw [h4, h3, h2, h1]; simp; omega
  have e6 : L6.length = xs.length + A.length + 1 + B.length + 1 + O.length := by rw [h6, h5, h1]; simp; omega
  rw [e4, e6, h1]
  simp only [Vm.chC, List.append_assoc, List.cons_append]
theorem choice_c (kind : Int) {Y1 Y2 : Bt.Expr} {v1 v2 : Value} {k : FuncId} {capt : Array Value} {O : Nat → List Vm.Op} (h1 : ExAt Φ bc Y1 v1) (h2 : ExAt Φ bc Y2 v2) (hk : Go.K.Own pg k) (hO : CloOK Φ bc b2 b3 X v k capt O)
    (w : World) (kv : Value) (xs A B C : List Vm.Op) (hA : A = Vm.cE xs.length Y1) (hB : B = Vm.cE (xs.length + A.length + 1) Y2) (hC : C = O (xs.length + A.length + 1 + B.length + 1)) (hb : xs.length + (Vm.chC kind xs.length A B C).length ≤ 1000000000) (h0 : StP ⟨w, Φ, fps (czK bc kv xs b2 b3 X v)⟩ Φ (czK bc kv xs b2 b3 X v) w) :
    Calls pg 67 #[pB bc, .int .i64 kind, .agg (exC Y1 v1).toArray, .agg (exC Y2 v2).toArray, .func (.func k) #[] capt] w (addZ w Φ bc kv xs (Vm.chC kind xs.length A B C) b2 b3 X v) := by
  have hl : (Vm.chC kind xs.length A B C).length = A.length + 1 + B.length + 1 + C.length := by simp [Vm.chC]; omega
  obtain ⟨L1, e1⟩ : ∃ L, L = xs ++ A := ⟨_, rfl⟩
  obtain ⟨L2, e2⟩ : ∃ L : List Vm.Op, L = L1 ++ [⟨kind, 0, 0⟩] := ⟨_, rfl⟩
  obtain ⟨L3, e3⟩ : ∃ L, L = L2 ++ B := ⟨_, rfl⟩
  obtain ⟨L4, e4⟩ : ∃ L : List Vm.Op, L = L3 ++ [⟨12, 0, 0⟩] := ⟨_, rfl⟩
  obtain ⟨L5, e5⟩ : ∃ L : List Vm.Op, L = L1 ++ ⟨kind, ((L4.length : Nat) : Int), 0⟩ :: (B ++ [⟨12, 0, 0⟩]) := ⟨_, rfl⟩
  obtain ⟨L6, e6⟩ : ∃ L, L = L5 ++ C := ⟨_, rfl⟩
  have n1 : L1.length = xs.length + A.length := by rw [e1]; simp
  have n2 : L2.length = xs.length + A.length + 1 := by rw [e2]; simp [n1]
  have n3 : L3.length = xs.length + A.length + 1 + B.length := by rw [e3]; simp [n2]
  have n4 : L4.length = xs.length + A.length + 1 + B.length + 1 := by rw [e4]; simp [n3]
  have n5 : L5.length = xs.length + A.length + 1 + B.length + 1 := by rw [e5]; simp [n1]; omega
  have n6 : L6.length = xs.length + A.length + 1 + B.length + 1 + C.length := by rw [e6]; simp [n5]
  have hA' : xs ++ Vm.cE xs.length Y1 = L1 := by rw [← hA, e1]
  have hB' : L2 ++ Vm.cE L2.length Y2 = L3 := by rw [n2, ← hB, e3]
  have hC' : L5 ++ O L5.length = L6 := by rw [n5, ← hC, e6]
  have hfin := choice_list e1 e2 e3 e4 e5 e6
  refine calls_of_AW (args := [pB bc, .int .i64 kind, .agg (exC Y1 v1).toArray, .agg (exC Y2 v2).toArray, .func (.func k) #[] capt]) Tryz.func67 rfl (lBT rfl) (St ⟨w, Φ, fps (czK bc kv xs b2 b3 X v)⟩ Φ (czK bc kv xs b2 b3 X v)) h0 ?_
  show AW _ _ [] _ _ _ [(0, pB bc), (1, .int .i64 kind), (2, .agg (exC Y1 v1).toArray), (3, .agg (exC Y2 v2).toArray), (4, .func (.func k) #[] capt)] _
  repeat refine gs1 ?_
  refine RW.bxA (cs := exC Y1 v1) rfl rfl fun b7 => ?_
  refine RW.bxA (cs := exC Y2 v2) rfl rfl fun b8 => ?_
  repeat refine gs1 ?_
  refine RW.ownU (args := #[pB bc, .agg (exC Y1 v1).toArray]) (C2 := [.blk b8 59 (exC Y2 v2), .blk b7 59 (exC Y1 v1), .blk b2 156 [pB bc], .blk b3 59 (exC X v)]) [2, 3, 0, 1, 4, 5] (by decide) rfl rfl oK rfl rfl (fun w1 hw1 => h1 w1 kv xs (by rw [← hA]; omega) hw1) fun kv1 => ?_
  rw [hA']
  repeat refine gs1 ?_
  refine RW.ownU (args := #[pB bc, .int .i64 kind, .int .i64 0, .int .i64 0]) (C2 := [.blk b8 59 (exC Y2 v2), .blk b7 59 (exC Y1 v1), .blk b2 156 [pB bc], .blk b3 59 (exC X v)]) [0, 1, 2, 3, 4, 5] (by decide) rfl rfl oK rfl rfl (fun w1 hw1 => emit_c w1 kind 0 0 (by omega) hw1) fun kv2 => ?_
  rw [← e2]
  repeat refine gs1 ?_
  refine RW.ownU (args := #[pB bc, .agg (exC Y2 v2).toArray]) (C2 := [.blk b8 59 (exC Y2 v2), .blk b7 59 (exC Y1 v1), .blk b2 156 [pB bc], .blk b3 59 (exC X v)]) [0, 1, 2, 3, 4, 5] (by decide) rfl rfl oK rfl rfl (fun w1 hw1 => h2 w1 kv2 L2 (by rw [n2, ← hB]; omega) hw1) fun kv3 => ?_
  rw [hB']
  repeat refine gs1 ?_
  refine RW.ownU (args := #[pB bc, .int .i64 12, .int .i64 0, .int .i64 0]) (C2 := [.blk b8 59 (exC Y2 v2), .blk b7 59 (exC Y1 v1), .blk b2 156 [pB bc], .blk b3 59 (exC X v)]) [0, 1, 2, 3, 4, 5] (by decide) rfl rfl oK rfl rfl (fun w1 hw1 => emit_c w1 12 0 0 (by omega) hw1) fun kv4 => ?_
  rw [← e4]
  repeat refine gs1 ?_
  refine RW.ownU (args := #[pB bc, .int .i64 ((L1.length : Nat) : Int)]) (C2 := [.blk b8 59 (exC Y2 v2), .blk b7 59 (exC Y1 v1), .blk b2 156 [pB bc], .blk b3 59 (exC X v)]) [0, 1, 2, 3, 4, 5] (by decide) rfl rfl oK rfl rfl (fun w1 hw1 => land_c w1 (P := L1) (o := ⟨kind, 0, 0⟩) (Q := B ++ [⟨12, 0, 0⟩]) (by rw [e4, e3, e2]; simp) rfl (by omega) hw1) fun _ => ?_
  rw [← e5]
  repeat refine gs1 ?_
  refine RW.ownU (args := capt) (C2 := [.blk b8 59 (exC Y2 v2), .blk b7 59 (exC Y1 v1)]) [0, 1, 4, 5, 2, 3] (by decide) rfl rfl hk rfl (by simp) (fun w1 hw1 => hO w1 kv4 L5 (by rw [n5, ← hC]; omega) hw1) fun kv5 => ?_
  rw [hC']
  repeat refine gs1 ?_
  refine RW.ownU (args := #[pB bc, .int .i64 ((L3.length : Nat) : Int)]) (C2 := [.blk b2 156 [pB bc], .blk b3 59 (exC X v), .blk b8 59 (exC Y2 v2), .blk b7 59 (exC Y1 v1)]) [0, 1, 2, 3, 4, 5] (by decide) rfl rfl oK rfl rfl (fun w1 hw1 => land_c w1 (P := L1 ++ ⟨kind, ((L4.length : Nat) : Int), 0⟩ :: B) (o := ⟨12, 0, 0⟩) (Q := C) (by rw [e6, e5]; simp) (by rw [n3]; simp [n1]; omega) (by omega) hw1) fun _ => ?_
  rw [hfin]
  repeat refine gs1 ?_
  exact fin_none (J' := St ⟨w, Φ, fps (czK bc kv xs b2 b3 X v)⟩ Φ (czK bc kv5 (xs ++ Vm.chC kind xs.length A B C) b2 b3 X v)) rfl rfl (fun w2 h => StP.sel h [0, 1, 2, 3] (by decide) rfl) (fun w1 hw1 => ⟨kv5, rfl, hw1⟩)
end
end Go.Proofs.YtjmeeofdffdpnaaGreatDoor
