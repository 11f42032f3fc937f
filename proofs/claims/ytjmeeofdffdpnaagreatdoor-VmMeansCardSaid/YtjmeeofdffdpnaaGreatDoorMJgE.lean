/- Lemmas. Conditions: those of each theorem. -/
import Derived.Test.YtjmeeofdffdpnaaGreatDoorMJgC
import Derived.Test.YtjmeeofdffdpnaaGreatDoorMMks
set_option maxRecDepth 8000
set_option maxHeartbeats 16000000
namespace Ru
open Bt
theorem jop_i64 {k : Int} {l : List Int} (h : ∀ x ∈ l, Go.K.I64 x) : Go.K.I64 (jop k l).1 := by
 have hg : ∀ i, Go.K.I64 (l.getD i 0) := fun i => by
  rw [gDD]
  cases hq : l[i]? with
  | none => exact ⟨by decide, by decide⟩
  | some x => exact h x (List.mem_of_getElem? hq)
 have z : Go.K.I64 0 := ⟨by decide, by decide⟩
 have z1 : Go.K.I64 1 := ⟨by decide, by decide⟩
 unfold jop
 repeat' split
 all_goals first | exact hg _ | exact z | exact z1
theorem jx_i64 {e : Env} {fs : List RFunc} {ts : List Int} (ht : ∀ t ∈ ts, Go.K.I64 t) (hf : ∀ f ∈ fs, Go.K.I64 f.Result) : ∀ {n : Nat} {x : Expr}, Go.K.I64 (jx e fs ts n x).1 := by
 have z : Go.K.I64 0 := ⟨by decide, by decide⟩
 intro n
 induction n with
 | zero => intro x; exact z
 | succ n ih =>
  intro x
  unfold jx
  split
  ·
   exact z
  ·
   split
   ·
    exact z
   ·
    rename_i ks hks
    obtain ⟨h1, _⟩ := jxs_mem hks
    have hk : ∀ k ∈ ks, Go.K.I64 k := fun k hk => by
     rw [h1] at hk
     obtain ⟨y, _, rfl⟩ := List.mem_map.1 hk
     exact ih
    have hgt : ∀ i, Go.K.I64 (ts.getD i 0) := fun i => by
     rw [gDD]
     cases hq : ts[i]? with
     | none => exact z
     | some x => exact ht x (List.mem_of_getElem? hq)
    have hgf : ∀ i, Go.K.I64 (fs.getD i default).Result := fun i => by
     rw [gDD]
     cases hq : fs[i]? with
     | none => exact z
     | some x => exact hf x (List.mem_of_getElem? hq)
    unfold jnd
    repeat' split
    all_goals first | exact z | exact hgt _ | exact hgf _ | exact jop_i64 hk
end Ru
namespace Go.Proofs.YtjmeeofdffdpnaaGreatDoor
open Go Go.K Go.RowKit
open Ru (pB)
attribute [local irreducible] AW RW DW Post Qt
theorem kidW {Φ : Hp} {xs : List Bt.Expr} {v : Value} (h : RepSl Φ xs v) {i : Nat} (hi : i < xs.length) : ∃ A c, PCells Φ (Value.at v (i * 5)) (exC (xs.getD i default) (.slice A (xs.getD i default).Kids.length c)) ∧ RepSl Φ (xs.getD i default).Kids (.slice A (xs.getD i default).Kids.length c) ∧ wfE (xs.getD i default) := by
 obtain ⟨cs, h1, h2⟩ := h.at_ i hi
 obtain ⟨kv, rfl, h3, h4⟩ := repE'.1 h1
 obtain ⟨A, c, rfl, _⟩ := h4.sl
 have he : xs[i] = xs.getD i default := by rw [gDD, List.getElem?_eq_getElem hi]; rfl
 rw [he] at h2 h3 h4
 refine ⟨A, c, fun q u hq => ?_, h4, h3⟩
 rw [at_add]
 exact h2 q u hq
theorem funW {Φ : Hp} {xs : List Bt.RFunc} {v : Value} (h : RepSl Φ xs v) {i : Nat} (hi : i < xs.length) : ∃ pv A c, PCells Φ (Value.at v (i * 8)) (rfC (xs.getD i default) pv (.slice A (xs.getD i default).Body.Kids.length c)) ∧ RepSl Φ (xs.getD i default).Params pv ∧ RepSl Φ (xs.getD i default).Body.Kids (.slice A (xs.getD i default).Body.Kids.length c) ∧ wfE (xs.getD i default).Body ∧ (xs.getD i default).Name.length ≤ maxLen ∧ I64 (xs.getD i default).Result := by
 obtain ⟨cs, h1, h2⟩ := h.at_ i hi
 obtain ⟨pv, kv, rfl, h5, h6, h7, h3, h4⟩ := h1
 obtain ⟨A, c, rfl, _⟩ := h4.sl
 have he : xs[i] = xs.getD i default := by rw [gDD, List.getElem?_eq_getElem hi]; rfl
 rw [he] at h2 h3 h4 h5 h6 h7
 refine ⟨pv, A, c, fun q u hq => ?_, h6, h4, h3, h5, h7⟩
 rw [at_add]
 exact h2 q u hq
theorem JC.res {Φ : Hp} {e : Ru.Env} {fs : List Bt.RFunc} {fv : Value} {m1 m2 m3 m4 : Nat} (h : JC Φ e fs fv m1 m2 m3 m4) : ∀ f ∈ fs, I64 f.Result := fun f hf => by
 obtain ⟨i, hi, rfl⟩ := List.getElem_of_mem hf
 obtain ⟨_, _, _, _, _, _, _, _, h6⟩ := funW h.f hi
 rw [gDD, List.getElem?_eq_getElem hi] at h6
 exact h6
def JxOK (e : Ru.Env) (fs : List Bt.RFunc) (fv : Value) (m1 m2 m3 m4 n : Nat) : Prop := ∀ (w : World) (Φ : Hp) (X : Bt.Expr) (v : Value) (ts : List Int) (pv : Value) (d : Int), Hp.le Φ (hp w) → JC Φ e fs fv m1 m2 m3 m4 → wfE X → RepSl Φ X.Kids v → RepSl Φ ts pv → (n : Int) + d = 41 → 0 ≤ d →
 Calls pg 105 #[.agg (jC fv m1 m2 m3 m4).toArray, .agg (exC X v).toArray, pv, iV d] w fun e' w' => e' = .returned (.tuple #[iV (Ru.jx e fs ts n X).1, .bool (Ru.jx e fs ts n X).2]) ∧ Bel w.heap.size w w'
section
variable {e : Ru.Env} {fs : List Bt.RFunc} {fv : Value} {m1 m2 m3 m4 : Nat}
theorem jexpr_of {n : Nat} (ih : JxOK e fs fv m1 m2 m3 m4 n) : JxOK e fs fv m1 m2 m3 m4 (n + 1) := by
 intro w Φ X v ts pv d hΦ hJ hX hv hpv hnd hd0
 obtain ⟨vA, vc, rfl, _⟩ := hv.sl
 have hvs := hv.sl
 obtain ⟨fA, fc, rfl, _⟩ := hJ.f.sl
 have hfs := hJ.f.sl
 obtain ⟨pA, pc, rfl, _⟩ := hpv.sl
 have hps := hpv.sl
 have hxb : X.Kids.length * 56 ≤ maxSl := hv.max
 simp only [maxSl] at hxb
 have hnl : ¬ (40 : Int) < d := by omega
 refine calls_of_AW (args := [.agg (jC (.slice fA fs.length fc) m1 m2 m3 m4).toArray, .agg (exC X (.slice vA X.Kids.length vc)).toArray, .slice pA ts.length pc, iV d]) Tryz.func105 rfl (lBT rfl) (St ⟨w, Φ, []⟩ Φ []) (StP.init w Φ hΦ []) ?_
 show AW _ _ [] _ _ _ [(0, .agg (jC (.slice fA fs.length fc) m1 m2 m3 m4).toArray), (1, .agg (exC X (.slice vA X.Kids.length vc)).toArray), (2, .slice pA ts.length pc), (3, iV d)] _
 repeat refine gs1 ?_
 refine RW.bxA (cs := jC (.slice fA fs.length fc) m1 m2 m3 m4) rfl rfl fun b4 => ?_
 refine RW.bxA (cs := exC X (.slice vA X.Kids.length vc)) rfl rfl fun b5 => ?_
 repeat refine gs1 ?_
 refine RW.g2 (b1 := decide ((40 : Int) < d)) (b2 := (!decide (X.Kind = 1))) (v := .pointer (some ⟨b5, 2, none⟩)) rfl rfl rfl (fun h1 h2 => qa_fa0 rfl) (RW.g2 (b1 := decide ((40 : Int) < d)) (b2 := (!decide (X.Kind = 1))) (v := iV X.Of) rfl rfl rfl (fun h1 h2 => qa_ld ((gv_pos h1).trans (gv_pos h2)) (Cell.blk 0 rfl rfl)) (RW.g2 (b1 := decide ((40 : Int) < d)) (b2 := (!decide (X.Kind = 1))) (v := .bool (!decide (X.Of = 0))) rfl rfl rfl (fun h1 h2 => q_neq (a := X.Of) (b := 0) ((gv_pos h1).trans (gv_pos h2)) rfl) (RW.g2 (b1 := decide ((40 : Int) < d)) (b2 := (!decide (X.Kind = 1))) (v := .bool (!decide (X.Of = 0))) rfl rfl rfl (fun h1 h2 => q_move ((gv_pos h1).trans (gv_pos h2))) (RW.g3 (b1 := decide ((40 : Int) < d)) (b2 := (!decide (X.Kind = 1))) (b3 := (!decide (X.Of = 0))) (v := .pointer (some ⟨b5, 3, none⟩)) rfl rfl rfl (fun h1 h2 h3 => qa_fa0 rfl) (RW.g3 (b1 := decide ((40 : Int) < d)) (b2 := (!decide (X.Kind = 1))) (b3 := (!decide (X.Of = 0))) (v := iV X.Of2) rfl rfl rfl (fun h1 h2 h3 => qa_ld ((gv_pos h1).trans ((gv_pos h2).trans (gv_pos h3))) (Cell.blk 0 rfl rfl)) (RW.g3 (b1 := decide ((40 : Int) < d)) (b2 := (!decide (X.Kind = 1))) (b3 := (!decide (X.Of = 0))) (v := .bool (!decide (X.Of2 = 0))) rfl rfl rfl (fun h1 h2 h3 => q_neq (a := X.Of2) (b := 0) ((gv_pos h1).trans ((gv_pos h2).trans (gv_pos h3))) rfl) (RW.g2 (b1 := decide ((40 : Int) < d)) (b2 := (!decide (X.Kind = 1))) (v := .bool ((!decide (X.Of = 0)) || (!decide (X.Of2 = 0)))) rfl rfl rfl (fun h1 h2 => q_pick ((gv_pos h1).trans (gv_pos h2)) (fun hp => pkOrT hp) (fun hp => (gv_pos h1).trans ((gv_pos h2).trans ((gv_pos hp).trans (pkOrF hp))))) (RW.g (b := decide ((40 : Int) < d)) (v := .bool ((!decide (X.Kind = 1)) && ((!decide (X.Of = 0)) || (!decide (X.Of2 = 0))))) rfl rfl rfl (fun h1 => q_pick (gv_pos h1) (fun hp => (gv_pos h1).trans ((gv_pos hp).trans (pkAndT hp))) (fun hp => pkAndF hp)) (RW.q (v := .bool (decide ((40 : Int) < d) || ((!decide (X.Kind = 1)) && ((!decide (X.Of = 0)) || (!decide (X.Of2 = 0)))))) rfl (qpO rfl rfl rfl) ?_)))))))))
 repeat refine gs1 ?_
 refine AW.cond rfl (fun hc => ?_) fun hc => ?_
 ·
  have hc : X.Kind ≠ 1 ∧ (X.Of ≠ 0 ∨ X.Of2 ≠ 0) := by simpa [hnl] using hc
  repeat refine gs1 ?_
  exact fin_res (vs := [iV 0, .bool false]) rfl rfl ⟨.tmp rfl, .tmp rfl, trivial⟩ rfl (fun w' hw => ⟨by rw [Ru.jx, if_pos hc]; rfl, hw.below rfl⟩)
 have hc : ¬ (X.Kind ≠ 1 ∧ (X.Of ≠ 0 ∨ X.Of2 ≠ 0)) := fun hh => by have : decide (X.Kind = 1) = false := decide_eq_false hh.1; rcases hh.2 with h | h <;> simp [hnl, hh.1, h] at hc
 have hjx : Ru.jx e fs ts (n + 1) X = match Ru.jxs (Ru.jx e fs ts n) X.Kids with | none => (0, false) | some ks => Ru.jnd e fs ts X ks := by rw [Ru.jx, if_neg hc]; rfl
 repeat refine gs1 ?_
 refine RW.eff _ _ rfl (e_makeSlice (l := 0) (c := X.Kids.length) (n := 0) (xs := []) rfl rfl uT29 inf3 (by omega) (by omega) (by omega) rfl rfl) fun bk => ?_
 repeat refine gs1 ?_
 refine AW.loop (fun s J q => ∃ (i : Nat) (ks : List Int) (kv : Value), s = [(2, .slice pA ts.length pc), (3, iV d), (4, pB b4), (5, pB b5), (10, kv), (37, .slice vA X.Kids.length vc), (38, iV (X.Kids.length : Int)), (39, iV (i : Int))] ∧ J = St ⟨w, Φ, []⟩ Φ [.row kv 3 1 i (ks.map (Value.int .i64)), .blk b5 59 (exC X (.slice vA X.Kids.length vc)), .blk b4 115 (jC (.slice fA fs.length fc) m1 m2 m3 m4)] ∧ q = X.Kids.length - i ∧ i ≤ X.Kids.length ∧ IsSl kv i ∧ Ru.jxs (Ru.jx e fs ts n) (X.Kids.take i) = some ks ∧ ∀ k ∈ ks, I64 k) (s0 := [(2, .slice pA ts.length pc), (3, iV d), (4, pB b4), (5, pB b5), (10, .slice (some ⟨bk, 0, none⟩) 0 X.Kids.length), (37, .slice vA X.Kids.length vc), (38, iV (X.Kids.length : Int)), (39, iV ((0 : Nat) : Int))]) (J1 := _) (m0 := _) ⟨0, [], .slice (some ⟨bk, 0, none⟩) 0 X.Kids.length, rfl, rfl, rfl, Nat.zero_le _, isSl_mk (Nat.zero_le _), rfl, (fun k hk => absurd hk (List.not_mem_nil))⟩ ⟨rfl, rfl, rfl, rfl, rfl, rfl, rfl, rfl, trivial⟩ (fun _ h => h) ?_
 rintro _ _ _ _ ⟨i, ks, kv, rfl, rfl, rfl, hi, hkv, he1, hki⟩
 have hkl : ks.length = i := by rw [(Ru.jxs_mem he1).1, List.length_map, List.length_take, Nat.min_eq_left hi]
 obtain ⟨kA, kc, rfl, _⟩ := hkv
 repeat refine gs1 ?_
 refine AW.cond rfl (fun h => ?_) fun h => ?_
 ·
  have h : i < X.Kids.length := by have := odT h; omega
  obtain ⟨Aa, ca, hpa, hra, hwa⟩ := kidW hv (i := i) h
  have hget : X.Kids.getD i default = X.Kids[i] := by rw [gDD, List.getElem?_eq_getElem h]; rfl
  have htk : X.Kids.take (i + 1) = X.Kids.take i ++ [X.Kids.getD i default] := by rw [Ru.take_snoc h, hget]
  repeat refine gs1 ?_
  refine RW.alc rfl fun b9 => ?_
  repeat refine gs1 ?_
  refine RW.q rfl (q_call (args := #[.agg (jC (.slice fA fs.length fc) m1 m2 m3 m4).toArray, .agg (exC (X.Kids.getD i default) (.slice Aa (X.Kids.getD i default).Kids.length ca)).toArray, .slice pA ts.length pc, iV (d + 1)]) oK rfl rfl (fun w1 hw1 => ih w1 Φ _ _ ts _ (d + 1) hw1.phi hJ hwa hra hpv (by omega) (by omega))) ?_
  repeat refine gs1 ?_
  have hik : I64 (Ru.jx e fs ts n (X.Kids.getD i default)).1 := Ru.jx_i64 (fun t ht => hpv.i64 t ht) hJ.res
  refine AW.cond rfl (fun hok => ?_) fun hok => ?_
  ·
   have hok : (Ru.jx e fs ts n (X.Kids.getD i default)).2 = false := by simpa using hok
   repeat refine gs1 ?_
   exact fin_res (vs := [iV 0, .bool false]) rfl rfl ⟨.tmp rfl, .tmp rfl, trivial⟩ rfl (fun w' hw => ⟨by rw [hjx, Ru.jxs_none (by rw [hget]; exact List.getElem_mem h) hok]; rfl, hw.below rfl⟩)
  have hok : (Ru.jx e fs ts n (X.Kids.getD i default)).2 = true := by simpa using hok
  repeat refine gs1 ?_
  refine RW.eff _ _ rfl (e_buildSlice (vals := [(0, iV (Ru.jx e fs ts n (X.Kids.getD i default)).1)]) (cells := [iV (Ru.jx e fs ts n (X.Kids.getD i default)).1]) uT29 inf3 rfl rfl rfl (by kernel_rfl) rfl) fun b8 => ?_
  repeat refine gs1 ?_
  refine RW.eff (fun xv : {vq : Value // IsSl vq (i + 1)} => xv.1) (fun xv => St ⟨w, Φ, []⟩ Φ [.row (.slice (some ⟨b8, 0, none⟩) 1 1) 3 1 1 [iV (Ru.jx e fs ts n (X.Kids.getD i default)).1], .blk b9 59 (exC (X.Kids.getD i default) (.slice Aa (X.Kids.getD i default).Kids.length ca)), .row xv.1 3 1 (i + 1) (ks.map (Value.int .i64) ++ [iV (Ru.jx e fs ts n (X.Kids.getD i default)).1]), .blk b5 59 (exC X (.slice vA X.Kids.length vc)), .blk b4 115 (jC (.slice fA fs.length fc) m1 m2 m3 m4)]) rfl (e_append 2 rfl rfl rfl uT29 inf3 rfl rfl rfl (Cells.row0 0 rfl) rfl (by omega) (by omega) (fun _ => rfl)) ?_
  rintro ⟨kv2, hkv2⟩
  simp only
  repeat refine gs1 ?_
  exact Post.back (s' := _) (J' := _) (m' := _) (by omega) ⟨i + 1, ks ++ [(Ru.jx e fs ts n (X.Kids.getD i default)).1], kv2, rfl, rfl, rfl, by omega, hkv2, by rw [htk, Ru.jxs_snoc, he1]; simp only [Option.bind_some, hok, if_true], fun k hk => (List.mem_append.1 hk).elim (hki k) (fun h => by rw [List.mem_singleton.1 h]; exact hik)⟩ ⟨rfl, rfl, rfl, rfl, rfl, rfl, rfl, rfl, trivial⟩ (fun _ h => by rw [List.map_append]; exact StP.sel h [2, 3, 4] (by decide) rfl)
 have h : i = X.Kids.length := by have := odF h; omega
 subst h
 rw [List.take_length] at he1
 rw [he1] at hjx
 simp only at hjx
 refine AW.frz fun Φ1 hl1 hs1 => ?_
 have hks : RepSl Φ1 ks (.slice kA X.Kids.length kc) := RowS.ints (T := 3) hs1 (by simp only [maxSl]; omega) hki
 have hJ1 := hJ.mono hl1
 have hks2 : RepSl Φ1 ks (.slice kA ks.length kc) := by rw [hkl]; exact hks
 have hkn : decide ((X.Kids.length : Int) = 0) = decide (ks = []) := decide_eq_decide.2 ⟨fun h => List.length_eq_zero_iff.1 (by omega), fun h => by rw [h] at hkl; simp only [List.length_nil] at hkl; omega⟩
 repeat refine gs1 ?_
 refine AW.cond rfl (fun k => ?_) fun k0 => ?_
 ·
  have k : X.Kind = 0 := odT k
  repeat refine gs1 ?_
  refine AW.drawZ (J0 := St ⟨w, Φ, []⟩ Φ1 [.blk b5 59 (exC X (.slice vA X.Kids.length vc)), .blk b4 115 (jC (.slice fA fs.length fc) m1 m2 m3 m4)]) [.q, .q, .q, .q, .q, .q, .q, .q, .q, .q, .q, .q, .q, .q, .q] [0, 1, 2, 3, 4, 5, 6, 7, 8, 9, 10, 11, 12, 13, 14] hmix (by kernel_rfl) ?_
  repeat refine gs1 ?_
  refine DW.q (v := .bool (decide ((X.Kids.length : Int) = 0) && decide (0 ≤ X.N))) (fun _ h => h) rfl (qpA rfl rfl rfl) ?_
  repeat refine gs1 ?_
  refine DW.q (v := .bool (decide ((X.Kids.length : Int) = 0) && decide (0 ≤ X.N) && decide (X.N ≤ 1125899906842624))) (fun _ h => h) rfl (qpA rfl rfl rfl) ?_
  repeat refine gs1 ?_
  exact fin_res (vs := [iV 0, .bool (decide ((X.Kids.length : Int) = 0) && decide (0 ≤ X.N) && decide (X.N ≤ 1125899906842624))]) rfl rfl ⟨.tmp rfl, .tmp rfl, trivial⟩ rfl (fun w' hw => ⟨by rw [hjx]; unfold Ru.jnd; rw [if_pos k, hkn]; rfl, hw.below rfl⟩)
 have k0 : X.Kind ≠ 0 := odF k0
 repeat refine gs1 ?_
 refine AW.cond rfl (fun k => ?_) fun k1 => ?_
 ·
  have k : X.Kind = 1 := odT k
  repeat refine gs1 ?_
  refine RW.g (b := decide ((X.Kids.length : Int) = 0)) (v := .bool (Ru.jfact e X)) rfl rfl rfl (fun h => q_call (args := #[.agg (jC (.slice fA fs.length fc) m1 m2 m3 m4).toArray, .agg (exC X (.slice vA X.Kids.length vc)).toArray]) oK rfl (args2 (gv_pos h) (gv_pos h)) (fun w1 hw1 => jfact_c w1 hw1.phi hJ1 hX)) ?_
  repeat refine gs1 ?_
  refine RW.q (v := .bool (decide ((X.Kids.length : Int) = 0) && Ru.jfact e X)) rfl (qpA rfl rfl rfl) ?_
  repeat refine gs1 ?_
  exact fin_res (vs := [iV 0, .bool (decide ((X.Kids.length : Int) = 0) && Ru.jfact e X)]) rfl rfl ⟨.tmp rfl, .tmp rfl, trivial⟩ rfl (fun w' hw => ⟨by rw [hjx]; unfold Ru.jnd; rw [if_neg k0, if_pos k, hkn]; rfl, hw.below rfl⟩)
 have k1 : X.Kind ≠ 1 := odF k1
 repeat refine gs1 ?_
 refine AW.cond rfl (fun k => ?_) fun k15 => ?_
 ·
  have k : X.Kind = 15 := odT k
  repeat refine gs1 ?_
  refine RW.q (v := .bool (!decide ((X.Kids.length : Int) = 0) || decide (X.N < 0))) rfl (qpO rfl rfl rfl) ?_
  repeat refine gs1 ?_
  refine RW.g (b := (!decide ((X.Kids.length : Int) = 0) || decide (X.N < 0))) (v := iV (ts.length : Int)) rfl rfl rfl (fun h => q_len_sl (gv_pos h) hps uT29) ?_
  repeat refine gs1 ?_
  refine RW.q (v := .bool ((!decide ((X.Kids.length : Int) = 0) || decide (X.N < 0)) || decide ((ts.length : Int) ≤ X.N))) rfl (qpO rfl rfl rfl) ?_
  repeat refine gs1 ?_
  have e15 : ((!decide ((X.Kids.length : Int) = 0) || decide (X.N < 0)) || decide ((ts.length : Int) ≤ X.N)) = decide (ks ≠ [] ∨ X.N < 0 ∨ (ts.length : Int) ≤ X.N) := by rw [hkn, Bool.eq_iff_iff]; simp only [Bool.or_eq_true, Bool.not_eq_true', decide_eq_true_eq, decide_eq_false_iff_not, or_assoc, ne_eq]
  refine AW.cond rfl (fun c => ?_) fun c => ?_
  ·
   have c : ks ≠ [] ∨ X.N < 0 ∨ (ts.length : Int) ≤ X.N := odT (e15.symm.trans c)
   repeat refine gs1 ?_
   exact fin_res (vs := [iV 0, .bool false]) rfl rfl ⟨.tmp rfl, .tmp rfl, trivial⟩ rfl (fun w' hw => ⟨by rw [hjx]; unfold Ru.jnd; rw [if_neg k0, if_neg k1, if_pos k, if_pos c]; rfl, hw.below rfl⟩)
  have c : ¬ (ks ≠ [] ∨ X.N < 0 ∨ (ts.length : Int) ≤ X.N) := odF (e15.symm.trans c)
  obtain ⟨m, hm⟩ : ∃ m : Nat, X.N = m := ⟨X.N.toNat, by omega⟩
  have hml : m < ts.length := by omega
  have pe := RepSl.gi' (hpv.mono hl1) hml
  repeat refine gs1 ?_
  refine RW.q (v := .pointer (some (Value.at (.slice pA ts.length pc) (m * 1)))) rfl (qa_ixN (n := ts.length) (i := m) rfl (by show Value.int .i64 X.N = _; rw [hm]) hps hml) ?_
  repeat refine gs1 ?_
  exact fin_res (vs := [iV (ts.getD m 0), .bool true]) rfl rfl ⟨.tmp rfl, .tmp rfl, trivial⟩ rfl (fun w' hw => ⟨by rw [hjx]; unfold Ru.jnd; rw [if_neg k0, if_neg k1, if_pos k, if_neg c, hm, Int.toNat_natCast]; rfl, hw.below rfl⟩)
 have k15 : X.Kind ≠ 15 := odF k15
 repeat refine gs1 ?_
 refine AW.cond rfl (fun k => ?_) fun k14 => ?_
 ·
  have k : X.Kind = 14 := odT k
  repeat refine gs1 ?_
  refine RW.g (b := decide (X.N < 0)) (v := iV (fs.length : Int)) rfl rfl rfl (fun h => q_len_sl (gv_pos h) hfs uT32) ?_
  repeat refine gs1 ?_
  refine RW.q (v := .bool (decide (X.N < 0) || decide ((fs.length : Int) ≤ X.N))) rfl (qpO rfl rfl rfl) ?_
  repeat refine gs1 ?_
  refine AW.cond rfl (fun c => ?_) fun c => ?_
  ·
   have c : X.N < 0 ∨ (fs.length : Int) ≤ X.N := by simpa using c
   repeat refine gs1 ?_
   exact fin_res (vs := [iV 0, .bool false]) rfl rfl ⟨.tmp rfl, .tmp rfl, trivial⟩ rfl (fun w' hw => ⟨by rw [hjx]; unfold Ru.jnd; rw [if_neg k0, if_neg k1, if_neg k15, if_pos k, if_pos c]; rfl, hw.below rfl⟩)
  have c : ¬ (X.N < 0 ∨ (fs.length : Int) ≤ X.N) := by simpa using c
  obtain ⟨m, hm⟩ : ∃ m : Nat, X.N = m := ⟨X.N.toNat, by omega⟩
  have hml : m < fs.length := by omega
  obtain ⟨qv, Ab, cb, hpb, hqv, _, _, _, _⟩ := funW hJ1.f hml
  have pr : PCell Φ1 (Value.at (.slice fA fs.length fc) (m * 8 + 2)) (iV (fs.getD m default).Result) := by have := hpb 2 _ rfl; rwa [at_add] at this
  have pp : PCell Φ1 (Value.at (.slice fA fs.length fc) (m * 8 + 1)) qv := by have := hpb 1 _ rfl; rwa [at_add] at this
  clear hpb
  repeat refine gs1 ?_
  refine AW.drawZ (J0 := St ⟨w, Φ, []⟩ Φ1 [.blk b5 59 (exC X (.slice vA X.Kids.length vc)), .blk b4 115 (jC (.slice fA fs.length fc) m1 m2 m3 m4)]) [.q, .q, .q, .q, .q, .q, .q, .q, .q, .q, .q, .q, .q, .q, .q, .q, .q, .q] [0, 1, 2, 3, 4, 5, 6, 7, 8, 9, 10, 11, 12, 13, 14, 15, 16, 17] hmix (by kernel_rfl) ?_
  repeat refine gs1 ?_
  refine DW.q (v := .pointer (some (Value.at (.slice fA fs.length fc) (m * 8)))) (fun _ h => h) rfl (qa_ixN (n := fs.length) (i := m) rfl (by show Value.int .i64 X.N = _; rw [hm]) hfs hml) ?_
  repeat refine gs1 ?_
  refine DW.q (v := .pointer (some (Value.at (.slice fA fs.length fc) (m * 8)))) (fun _ h => h) rfl (qa_ixN (n := fs.length) (i := m) rfl (by show Value.int .i64 X.N = _; rw [hm]) hfs hml) ?_
  repeat refine gs1 ?_
  refine DW.q (v := .bool (decide (ks = (fs.getD m default).Params))) (fun _ h => h) rfl (q_call (args := #[.slice kA X.Kids.length kc, qv]) oK rfl rfl (fun w1 hw1 => eqI_c w1 Φ1 hw1.phi hks hqv)) ?_
  repeat refine gs1 ?_
  exact fin_res (vs := [iV (fs.getD m default).Result, .bool (decide (ks = (fs.getD m default).Params))]) rfl rfl ⟨.tmp rfl, .tmp rfl, trivial⟩ rfl (fun w' hw => ⟨by rw [hjx]; unfold Ru.jnd; rw [if_neg k0, if_neg k1, if_neg k15, if_pos k, if_neg c, hm, Int.toNat_natCast]; rfl, hw.below rfl⟩)
 have k14 : X.Kind ≠ 14 := odF k14
 repeat refine gs1 ?_
 refine AW.cond rfl (fun c => ?_) fun c => ?_
 ·
  have c : X.N ≠ 0 := by simpa using c
  repeat refine gs1 ?_
  exact fin_res (vs := [iV 0, .bool false]) rfl rfl ⟨.tmp rfl, .tmp rfl, trivial⟩ rfl (fun w' hw => ⟨by rw [hjx]; unfold Ru.jnd; rw [if_neg k0, if_neg k1, if_neg k15, if_neg k14, if_pos c]; rfl, hw.below rfl⟩)
 have c : X.N = 0 := by simpa using c
 repeat refine gs1 ?_
 refine RW.q (v := .tuple #[iV (Ru.jop X.Kind ks).1, .bool (Ru.jop X.Kind ks).2]) rfl (q_call (args := #[iV X.Kind, .slice kA X.Kids.length kc]) oK rfl rfl (fun w1 hw1 => jop_c w1 hw1.phi hks)) ?_
 repeat refine gs1 ?_
 exact fin_res (vs := [iV (Ru.jop X.Kind ks).1, .bool (Ru.jop X.Kind ks).2]) rfl rfl ⟨.tmp rfl, .tmp rfl, trivial⟩ rfl (fun w' hw => ⟨by rw [hjx]; unfold Ru.jnd; rw [if_neg k0, if_neg k1, if_neg k15, if_neg k14, if_neg (by omega)]; rfl, hw.below rfl⟩)
theorem jexpr_0 : JxOK e fs fv m1 m2 m3 m4 0 := by
 intro w Φ X v ts pv d hΦ hJ hX hv hpv hnd hd0
 have hnl : (40 : Int) < d := by omega
 have hjx : Ru.jx e fs ts 0 X = (0, false) := rfl
 refine calls_of_AW (args := [.agg (jC fv m1 m2 m3 m4).toArray, .agg (exC X v).toArray, pv, iV d]) Tryz.func105 rfl (lBT rfl) (St ⟨w, Φ, []⟩ Φ []) (StP.init w Φ hΦ []) ?_
 show AW _ _ [] _ _ _ [(0, .agg (jC fv m1 m2 m3 m4).toArray), (1, .agg (exC X v).toArray), (2, pv), (3, iV d)] _
 repeat refine gs1 ?_
 refine RW.bxA (cs := jC fv m1 m2 m3 m4) rfl rfl fun b4 => ?_
 refine RW.bxA (cs := exC X v) rfl rfl fun b5 => ?_
 repeat refine gs1 ?_
 refine RW.g2 (b1 := decide ((40 : Int) < d)) (b2 := (!decide (X.Kind = 1))) (v := .pointer (some ⟨b5, 2, none⟩)) rfl rfl rfl (fun h1 h2 => qa_fa0 rfl) (RW.g2 (b1 := decide ((40 : Int) < d)) (b2 := (!decide (X.Kind = 1))) (v := iV X.Of) rfl rfl rfl (fun h1 h2 => qa_ld ((gv_pos h1).trans (gv_pos h2)) (Cell.blk 0 rfl rfl)) (RW.g2 (b1 := decide ((40 : Int) < d)) (b2 := (!decide (X.Kind = 1))) (v := .bool (!decide (X.Of = 0))) rfl rfl rfl (fun h1 h2 => q_neq (a := X.Of) (b := 0) ((gv_pos h1).trans (gv_pos h2)) rfl) (RW.g2 (b1 := decide ((40 : Int) < d)) (b2 := (!decide (X.Kind = 1))) (v := .bool (!decide (X.Of = 0))) rfl rfl rfl (fun h1 h2 => q_move ((gv_pos h1).trans (gv_pos h2))) (RW.g3 (b1 := decide ((40 : Int) < d)) (b2 := (!decide (X.Kind = 1))) (b3 := (!decide (X.Of = 0))) (v := .pointer (some ⟨b5, 3, none⟩)) rfl rfl rfl (fun h1 h2 h3 => qa_fa0 rfl) (RW.g3 (b1 := decide ((40 : Int) < d)) (b2 := (!decide (X.Kind = 1))) (b3 := (!decide (X.Of = 0))) (v := iV X.Of2) rfl rfl rfl (fun h1 h2 h3 => qa_ld ((gv_pos h1).trans ((gv_pos h2).trans (gv_pos h3))) (Cell.blk 0 rfl rfl)) (RW.g3 (b1 := decide ((40 : Int) < d)) (b2 := (!decide (X.Kind = 1))) (b3 := (!decide (X.Of = 0))) (v := .bool (!decide (X.Of2 = 0))) rfl rfl rfl (fun h1 h2 h3 => q_neq (a := X.Of2) (b := 0) ((gv_pos h1).trans ((gv_pos h2).trans (gv_pos h3))) rfl) (RW.g2 (b1 := decide ((40 : Int) < d)) (b2 := (!decide (X.Kind = 1))) (v := .bool ((!decide (X.Of = 0)) || (!decide (X.Of2 = 0)))) rfl rfl rfl (fun h1 h2 => q_pick ((gv_pos h1).trans (gv_pos h2)) (fun hp => pkOrT hp) (fun hp => (gv_pos h1).trans ((gv_pos h2).trans ((gv_pos hp).trans (pkOrF hp))))) (RW.g (b := decide ((40 : Int) < d)) (v := .bool ((!decide (X.Kind = 1)) && ((!decide (X.Of = 0)) || (!decide (X.Of2 = 0))))) rfl rfl rfl (fun h1 => q_pick (gv_pos h1) (fun hp => (gv_pos h1).trans ((gv_pos hp).trans (pkAndT hp))) (fun hp => pkAndF hp)) (RW.q (v := .bool (decide ((40 : Int) < d) || ((!decide (X.Kind = 1)) && ((!decide (X.Of = 0)) || (!decide (X.Of2 = 0)))))) rfl (qpO rfl rfl rfl) ?_)))))))))
 repeat refine gs1 ?_
 refine AW.cond rfl (fun hc => ?_) fun hc => ?_
 ·
  repeat refine gs1 ?_
  exact fin_res (vs := [iV 0, .bool false]) rfl rfl ⟨.tmp rfl, .tmp rfl, trivial⟩ rfl (fun w' hw => ⟨by rw [hjx]; rfl, hw.below rfl⟩)
 ·
  simp [hnl] at hc
theorem jexpr_c : ∀ n, JxOK e fs fv m1 m2 m3 m4 n
 | 0 => jexpr_0
 | n + 1 => jexpr_of (jexpr_c n)
end
end Go.Proofs.YtjmeeofdffdpnaaGreatDoor
namespace Ru
def fidx (p : Int → Bool) (xs : List Int) : Int := match xs.findIdx? p with | some i => i | none => -1
theorem fidx_pos {p : Int → Bool} {xs : List Int} : decide (0 ≤ fidx p xs) = xs.any p := by
 unfold fidx
 cases h : xs.findIdx? p with
 | none =>
  have : ∀ x ∈ xs, p x = false := List.findIdx?_eq_none_iff.1 h
  simp only
  rw [show xs.any p = false from List.any_eq_false.2 fun x hx => by rw [this x hx]; simp]
  rfl
 | some i =>
  obtain ⟨h1, h2, _⟩ := List.findIdx?_eq_some_iff_getElem.1 h
  simp only
  rw [show xs.any p = true from List.any_eq_true.2 ⟨_, List.getElem_mem h1, h2⟩]
  exact decide_eq_true (by omega)
theorem fidx_at {p : Int → Bool} {xs : List Int} {i : Nat} (hi : i < xs.length) (hn : (xs.take i).any p = false) (hy : p (xs.getD i 0) = true) : fidx p xs = i := by
 unfold fidx
 have : xs.findIdx? p = some i := by
  rw [List.findIdx?_eq_some_iff_getElem]
  refine ⟨hi, by rwa [gDD, List.getElem?_eq_getElem hi] at hy, fun j hj => ?_⟩
  have := List.any_eq_false.1 hn xs[j] (by rw [List.mem_take_iff_getElem]; exact ⟨j, by omega, rfl⟩)
  simpa using this
 rw [this]
theorem fidx_no {p : Int → Bool} {xs : List Int} (hn : xs.any p = false) : fidx p xs = -1 := by
 unfold fidx
 have : xs.findIdx? p = none := List.findIdx?_eq_none_iff.2 fun x hx => by simpa using List.any_eq_false.1 hn x hx
 rw [this]
def seenM (l : List (List UInt8)) (k : List UInt8) : Option Bool := if l.contains k = true then some true else none
theorem seenM_get (l : List (List UInt8)) (k : List UInt8) : (seenM l k).getD false = l.contains k := by
 unfold seenM
 split <;> simp_all
theorem seenM_put (l : List (List UInt8)) (a : List UInt8) : (fun j => if j = a then some true else seenM l j) = seenM (l ++ [a]) := by
 funext j
 unfold seenM
 by_cases h : j = a
 ·
  subst h; simp
 ·
  simp [h]
theorem jhead_cut {seen : List (List UInt8)} {xs ys : List Bt.RFunc} : jhead seen (xs ++ ys) = (jhead seen xs && jhead (seen ++ xs.map (·.Name)) ys) := by
 induction xs generalizing seen with
 | nil => simp [jhead]
 | cons x xs ih => simp only [List.cons_append, jhead, ih, List.map_cons, List.append_assoc, List.nil_append, Bool.and_assoc]
end Ru
namespace Go.Proofs.YtjmeeofdffdpnaaGreatDoor
open Go Go.K Go.RowKit
open Ru (pB NmS BasV)
attribute [local irreducible] AW RW DW Post Qt
theorem rclo1_c (w : World) {bb : Nat} {b : BasV} {ns : List (List UInt8)} (hb : hp w bb = some (.cells b.cs.toArray 31 (0, 0))) (hn : NmS (hp w) b.pv 12 ns) (i : Nat) (hi : i < ns.length) :
  Calls pg 41 #[iV (i : Int), pB bb] w fun e w' => e = .returned (.string (bs ns[i])) ∧ Bel w.heap.size w w' := by
 refine calls_of_AW (args := [iV (i : Int), pB bb]) Tryz.func41 rfl (lBT rfl) (St ⟨w, hp w, []⟩ (hp w) []) (StP.init w (hp w) (Hp.le_refl _) []) ?_
 show AW _ _ [] _ _ _ [(0, iV (i : Int)), (1, pB bb)] _
 have hsl := hn.sl
 have h1 : PCell (hp w) ⟨bb, 3, none⟩ b.pv := PCell.blk hb rfl
 have h2 := hn.at_ i hi
 repeat refine gs1 ?_
 exact fin_res (vs := [.string (bs ns[i])]) rfl rfl ⟨.tmp rfl, trivial⟩ rfl (fun w' hw => ⟨rfl, hw.below rfl⟩)
theorem rclo2_c (w : World) {bb : Nat} {b : BasV} {ns : List (List UInt8)} (hb : hp w bb = some (.cells b.cs.toArray 31 (0, 0))) (hn : NmS (hp w) b.ov 1 ns) (i : Nat) (hi : i < ns.length) :
  Calls pg 42 #[iV (i : Int), pB bb] w fun e w' => e = .returned (.string (bs ns[i])) ∧ Bel w.heap.size w w' := by
 refine calls_of_AW (args := [iV (i : Int), pB bb]) Tryz.func42 rfl (lBT rfl) (St ⟨w, hp w, []⟩ (hp w) []) (StP.init w (hp w) (Hp.le_refl _) []) ?_
 show AW _ _ [] _ _ _ [(0, iV (i : Int)), (1, pB bb)] _
 have hsl := hn.sl
 have h1 : PCell (hp w) ⟨bb, 1, none⟩ b.ov := PCell.blk hb rfl
 have h2 := hn.at_ i hi
 repeat refine gs1 ?_
 exact fin_res (vs := [.string (bs ns[i])]) rfl rfl ⟨.tmp rfl, trivial⟩ rfl (fun w' hw => ⟨rfl, hw.below rfl⟩)
theorem rclo3_c (w : World) {bb : Nat} {b : BasV} {ns : List (List UInt8)} (hb : hp w bb = some (.cells b.cs.toArray 31 (0, 0))) (hn : NmS (hp w) b.lv 18 ns) (i : Nat) (hi : i < ns.length) :
  Calls pg 43 #[iV (i : Int), pB bb] w fun e w' => e = .returned (.string (bs ns[i])) ∧ Bel w.heap.size w w' := by
 refine calls_of_AW (args := [iV (i : Int), pB bb]) Tryz.func43 rfl (lBT rfl) (St ⟨w, hp w, []⟩ (hp w) []) (StP.init w (hp w) (Hp.le_refl _) []) ?_
 show AW _ _ [] _ _ _ [(0, iV (i : Int)), (1, pB bb)] _
 have hsl := hn.sl
 have h1 : PCell (hp w) ⟨bb, 4, none⟩ b.lv := PCell.blk hb rfl
 have h2 := hn.at_ i hi
 repeat refine gs1 ?_
 exact fin_res (vs := [.string (bs ns[i])]) rfl rfl ⟨.tmp rfl, trivial⟩ rfl (fun w' hw => ⟨rfl, hw.below rfl⟩)
theorem rclo4_c (w : World) {bb : Nat} {b : BasV} {ns : List (List UInt8)} (hb : hp w bb = some (.cells b.cs.toArray 31 (0, 0))) (hn : NmS (hp w) b.tv 7 ns) (i : Nat) (hi : i < ns.length) :
  Calls pg 44 #[iV (i : Int), pB bb] w fun e w' => e = .returned (.string (bs ns[i])) ∧ Bel w.heap.size w w' := by
 refine calls_of_AW (args := [iV (i : Int), pB bb]) Tryz.func44 rfl (lBT rfl) (St ⟨w, hp w, []⟩ (hp w) []) (StP.init w (hp w) (Hp.le_refl _) []) ?_
 show AW _ _ [] _ _ _ [(0, iV (i : Int)), (1, pB bb)] _
 have hsl := hn.sl
 have h1 : PCell (hp w) ⟨bb, 5, none⟩ b.tv := PCell.blk hb rfl
 have h2 := hn.at_ i hi
 repeat refine gs1 ?_
 exact fin_res (vs := [.string (bs ns[i])]) rfl rfl ⟨.tmp rfl, trivial⟩ rfl (fun w' hw => ⟨rfl, hw.below rfl⟩)
theorem idxF_c (w : World) {Φ : Hp} (hΦ : Hp.le Φ (hp w)) {xs : List Int} {v : Value} {k : Nat} {p : Int → Bool} (hk : Go.K.Own pg k) (hp : ∀ (w : World) (a : Int), Calls pg k #[iV a] w fun e w' => e = .returned (.bool (p a)) ∧ Bel w.heap.size w w') (hx : RepSl Φ xs v) :
  Calls pg 104 #[v, .func (.func k) #[] #[]] w fun e w' => e = .returned (iV (Ru.fidx p xs)) ∧ Bel w.heap.size w w' := by
 refine calls_of_AW (args := [v, .func (.func k) #[] #[]]) Tryz.func104 rfl (lBT rfl) (St ⟨w, Φ, []⟩ Φ []) (StP.init w Φ hΦ []) ?_
 show AW _ _ [] _ _ _ [(0, v), (1, .func (.func k) #[] #[])] _
 have hsl := hx.sl
 have hxb : xs.length * 8 ≤ maxSl := hx.max
 simp only [maxSl] at hxb
 repeat refine gs1 ?_
 refine AW.loop (fun s J q => ∃ i : Nat, s = [(0, v), (1, .func (.func k) #[] #[]), (7, iV (xs.length : Int)), (8, iV (i : Int))] ∧ J = St ⟨w, Φ, []⟩ Φ [] ∧ q = xs.length - i ∧ i ≤ xs.length ∧ (xs.take i).any p = false) (s0 := _) (J1 := _) (m0 := _) ⟨0, rfl, rfl, rfl, Nat.zero_le _, rfl⟩ ⟨rfl, rfl, rfl, rfl, trivial⟩ (fun _ h => h) ?_
 rintro _ _ _ _ ⟨i, rfl, rfl, rfl, hi, hany⟩
 repeat refine gs1 ?_
 refine AW.cond rfl (fun h => ?_) fun h => ?_
 ·
  have h : i < xs.length := by have := odT h; omega
  have pe := RepSl.gi' hx h
  repeat refine gs1 ?_
  refine RW.q rfl (q_call (args := #[iV (xs.getD i 0)]) hk rfl rfl (fun w1 hw1 => hp w1 _)) ?_
  repeat refine gs1 ?_
  refine AW.cond rfl (fun h2 => ?_) fun h2 => ?_
  ·
   repeat refine gs1 ?_
   exact fin_res (vs := [iV (i : Int)]) rfl rfl ⟨.tmp rfl, trivial⟩ rfl (fun w' hw => ⟨by rw [Ru.fidx_at h hany h2]; rfl, hw.below rfl⟩)
  ·
   repeat refine gs1 ?_
   exact Post.back (s' := _) (J' := _) (m' := _) (by omega) ⟨i + 1, rfl, rfl, rfl, by omega, by rw [Ru.take_snoc h, List.any_append, hany]; rw [gDD, List.getElem?_eq_getElem h] at h2; simpa using h2⟩ ⟨rfl, rfl, rfl, rfl, trivial⟩ (fun _ h => h)
 ·
  have h : i = xs.length := by have := odF h; omega
  subst h
  rw [List.take_length] at hany
  repeat refine gs1 ?_
  exact fin_res (vs := [iV (-1)]) rfl rfl ⟨.tmp rfl, trivial⟩ rfl (fun w' hw => ⟨by rw [Ru.fidx_no hany]; rfl, hw.below rfl⟩)
theorem notTy_c (w : World) (a : Int) : Calls pg 49 #[iV a] w fun e w' => e = .returned (.bool (!(decide (a = 0) || decide (a = 1)))) ∧ Bel w.heap.size w w' := by
 refine calls_of_AW (args := [iV a]) Tryz.func49 rfl (lBT rfl) (St ⟨w, hp w, []⟩ (hp w) []) (StP.init w (hp w) (Hp.le_refl _) []) ?_
 show AW _ _ [] _ _ _ [(0, iV a)] _
 repeat refine gs1 ?_
 refine RW.q rfl (q_call (args := #[iV a]) oK rfl rfl (fun w1 hw1 => isType_c w1 (hp w1) (Hp.le_refl _))) ?_
 repeat refine gs1 ?_
 exact fin_res (vs := [.bool (!(decide (a = 0) || decide (a = 1)))]) rfl rfl ⟨.tmp rfl, trivial⟩ rfl (fun w' hw => ⟨rfl, hw.below rfl⟩)
theorem contF_c (w : World) {Φ : Hp} (hΦ : Hp.le Φ (hp w)) {xs : List Int} {v : Value} (hx : RepSl Φ xs v) :
  Calls pg 48 #[v, .func (.func 49) #[] #[]] w fun e w' => e = .returned (.bool (xs.any fun a => !(decide (a = 0) || decide (a = 1)))) ∧ Bel w.heap.size w w' := by
 refine calls_of_AW (args := [v, .func (.func 49) #[] #[]]) Tryz.func48 rfl (lBT rfl) (St ⟨w, Φ, []⟩ Φ []) (StP.init w Φ hΦ []) ?_
 show AW _ _ [] _ _ _ [(0, v), (1, .func (.func 49) #[] #[])] _
 repeat refine gs1 ?_
 refine RW.q rfl (q_call (args := #[v, .func (.func 49) #[] #[]]) oK rfl rfl (fun w1 hw1 => idxF_c w1 hw1.phi oK notTy_c hx)) ?_
 repeat refine gs1 ?_
 exact fin_res (vs := [.bool (decide (0 ≤ Ru.fidx (fun a => !(decide (a = 0) || decide (a = 1))) xs))]) rfl rfl ⟨.tmp rfl, trivial⟩ rfl (fun w' hw => ⟨by rw [Ru.fidx_pos]; rfl, hw.below rfl⟩)
theorem jhas_c (w : World) {Φ : Hp} (hΦ : Hp.le Φ (hp w)) {e : Ru.Env} {fs : List Bt.RFunc} {fv : Value} {m1 m2 m3 m4 : Nat} (hJ : JC Φ e fs fv m1 m2 m3 m4) {X : Bt.Expr} {v : Value} (hX : wfE X) (hv : RepSl Φ X.Kids v) {ts : List Int} {pv : Value} (hpv : RepSl Φ ts pv) {k : Int} :
  Calls pg 50 #[.agg (jC fv m1 m2 m3 m4).toArray, .agg (exC X v).toArray, pv, iV k] w fun e' w' => e' = .returned (.bool (Ru.jhas e fs ts X k)) ∧ Bel w.heap.size w w' := by
 obtain ⟨vA, vc, rfl, _⟩ := hv.sl
 obtain ⟨fA, fc, rfl, _⟩ := hJ.f.sl
 refine calls_of_AW (args := [.agg (jC (.slice fA fs.length fc) m1 m2 m3 m4).toArray, .agg (exC X (.slice vA X.Kids.length vc)).toArray, pv, iV k]) Tryz.func50 rfl (lBT rfl) (St ⟨w, Φ, []⟩ Φ []) (StP.init w Φ hΦ []) ?_
 show AW _ _ [] _ _ _ [(0, .agg (jC (.slice fA fs.length fc) m1 m2 m3 m4).toArray), (1, .agg (exC X (.slice vA X.Kids.length vc)).toArray), (2, pv), (3, iV k)] _
 repeat refine gs1 ?_
 refine RW.bxA (cs := jC (.slice fA fs.length fc) m1 m2 m3 m4) rfl rfl fun b4 => ?_
 refine RW.bxA (cs := exC X (.slice vA X.Kids.length vc)) rfl rfl fun b5 => ?_
 repeat refine gs1 ?_
 refine RW.q rfl (q_call (args := #[.agg (jC (.slice fA fs.length fc) m1 m2 m3 m4).toArray, .agg (exC X (.slice vA X.Kids.length vc)).toArray, pv, iV 1]) oK rfl rfl (fun w1 hw1 => jexpr_c 40 w1 Φ X _ ts pv 1 hw1.phi hJ hX hv hpv (by omega) (by omega))) ?_
 repeat refine gs1 ?_
 refine RW.q (v := .bool (Ru.jhas e fs ts X k)) rfl (qpA rfl rfl rfl) ?_
 repeat refine gs1 ?_
 exact fin_res (vs := [.bool (Ru.jhas e fs ts X k)]) rfl rfl ⟨.tmp rfl, trivial⟩ rfl (fun w' hw => ⟨rfl, hw.below rfl⟩)
end Go.Proofs.YtjmeeofdffdpnaaGreatDoor
