/- Lemmas. Conditions: those of each theorem. -/
import Derived.Test.YtnfmjfheciihjaaGreatDoorTJgB
set_option maxRecDepth 8000
set_option maxHeartbeats 16000000
namespace Go.Proofs.YtnfmjfheciihjaaGreatDoor
open Go Go.K Go.RowKit
open Ru (pB NmS BasV ixM denM)
attribute [local irreducible] AW RW DW Post Qt
theorem RepSl.gi' {Φ : Hp} {xs : List Int} {v : Value} (h : RepSl Φ xs v) {i : Nat} (hn : i < xs.length) : PCell Φ (Value.at v (i * 1)) (iV (xs.getD i 0)) := by
 have := (h.int hn).1
 rw [Nat.mul_one, gDD, List.getElem?_eq_getElem hn]; exact this
structure JC (Φ : Hp) (e : Ru.Env) (fs : List Bt.RFunc) (fv : Value) (m1 m2 m3 m4 : Nat) : Prop where
 f : RepSl Φ fs fv
 p : (dtab m1 e.places).sat Φ
 o : (dtab m2 e.owners).sat Φ
 l : (dtab m3 e.links).sat Φ
 t : (dtab m4 e.towns).sat Φ
theorem dtab_up {Φ Ψ : Hp} {b : Nat} {ns : List (List UInt8)} (h : (dtab b ns).sat Φ) (hl : Hp.le Φ Ψ) : (dtab b ns).sat Ψ := by
 obtain ⟨es, c, h1, h2⟩ := h
 exact ⟨es, c, hl _ _ h1, h2⟩
theorem JC.mono {Φ Ψ : Hp} {e : Ru.Env} {fs : List Bt.RFunc} {fv : Value} {m1 m2 m3 m4 : Nat} (h : JC Φ e fs fv m1 m2 m3 m4) (hl : Hp.le Φ Ψ) : JC Ψ e fs fv m1 m2 m3 m4 := ⟨h.f.mono hl, dtab_up h.p hl, dtab_up h.o hl, dtab_up h.l hl, dtab_up h.t hl⟩
abbrev jC (fv : Value) (m1 m2 m3 m4 : Nat) : List Value := [fv, .map (some m1), .map (some m2), .map (some m3), .map (some m4)]
section
variable {P : Program} {f : Nat → Value} {s : List (Nat × Value)}
theorem q_den {B : Bs} {Φ : Hp} {C : List Chunk} {dst : Option Nat} {ty : TypeId} {pos : String} {af : Array Edge} {g : Option (Nat × Bool)} {x y : Operand} {b : Nat} {ns : List (List UInt8)} {i : Int} (hm : (dtab b ns).sat Φ) (hx : ev (fr f s) x = .map (some b)) (hy : ev (fr f s) y = iV i) (hi : I64 i) : Qt pg (St B Φ C) f s ⟨dst, .lookup 114 x y false, ty, pos, af, g⟩ (.bool (Ru.den ns i)) := by
 rw [← Ru.denM_get]
 exact q_kLookP1 (L := kInt) (ew := Value.bool) (M := denM ns) (k := i) (d := false) hm hx hy hi uT114 zero4
end
theorem jfact_c (w : World) {Φ : Hp} (hΦ : Hp.le Φ (hp w)) {e : Ru.Env} {fs : List Bt.RFunc} {fv : Value} {m1 m2 m3 m4 : Nat} (hJ : JC Φ e fs fv m1 m2 m3 m4) {X : Bt.Expr} {v : Value} (hX : wfE X) :
  Calls pg 103 #[.agg (jC fv m1 m2 m3 m4).toArray, .agg (exC X v).toArray] w fun e' w' => e' = .returned (.bool (Ru.jfact e X)) ∧ Bel w.heap.size w w' := by
 refine calls_of_AW (args := [.agg (jC fv m1 m2 m3 m4).toArray, .agg (exC X v).toArray]) Tryz.func103 rfl (lBT rfl) (St ⟨w, Φ, []⟩ Φ []) (StP.init w Φ hΦ []) ?_
 show AW _ _ [] _ _ _ [(0, .agg (jC fv m1 m2 m3 m4).toArray), (1, .agg (exC X v).toArray)] _
 obtain ⟨_, _, hO, hO2⟩ := hX
 repeat refine gs1 ?_
 refine RW.bxA (cs := jC fv m1 m2 m3 m4) rfl rfl fun b2 => ?_
 refine RW.bxA (cs := exC X v) rfl rfl fun b3 => ?_
 repeat refine gs1 ?_
 refine AW.orCh (kd := .i64) (t := 7) (x := 6) (a := X.N) rfl rfl _ rfl rfl rfl rfl fun f' => ?_
 repeat refine gs1 ?_
 have e1 : (decide (X.N = 0) || [((1 : Int), 9)].any fun p => decide (X.N = p.1)) = decide (X.N = 0 ∨ X.N = 1) := by simp
 refine AW.cond rfl (fun c => ?_) fun c => ?_
 ·
  have c : X.N = 0 ∨ X.N = 1 := odT (e1.symm.trans c)
  repeat refine gs1 ?_
  refine RW.q rfl (q_den hJ.p rfl rfl hO) ?_
  repeat refine gs1 ?_
  refine RW.q (v := .bool (Ru.den e.places X.Of && decide (X.Of2 = 0))) rfl (qpA rfl rfl rfl) ?_
  repeat refine gs1 ?_
  exact fin_res (vs := [.bool (Ru.den e.places X.Of && decide (X.Of2 = 0))]) rfl rfl ⟨.tmp rfl, trivial⟩ rfl (fun w' hw => ⟨by unfold Ru.jfact; rw [if_pos c]; rfl, hw.below rfl⟩)
 have c0 : ¬ (X.N = 0 ∨ X.N = 1) := odF (e1.symm.trans c)
 repeat refine gs1 ?_
 refine AW.cond rfl (fun c => ?_) fun c2 => ?_
 ·
  have c : X.N = 2 := odT c
  repeat refine gs1 ?_
  refine RW.q rfl (q_den hJ.p rfl rfl hO) ?_
  repeat refine gs1 ?_
  refine RW.g (b := Ru.den e.places X.Of) (v := .bool (Ru.den e.owners X.Of2)) rfl rfl rfl (fun h => q_den hJ.o (gv_pos h) (gv_pos h) hO2) (RW.q (v := .bool (Ru.den e.places X.Of && Ru.den e.owners X.Of2)) rfl (qpA rfl rfl rfl) ?_)
  repeat refine gs1 ?_
  exact fin_res (vs := [.bool (Ru.den e.places X.Of && Ru.den e.owners X.Of2)]) rfl rfl ⟨.tmp rfl, trivial⟩ rfl (fun w' hw => ⟨by unfold Ru.jfact; rw [if_neg c0, if_pos c]; rfl, hw.below rfl⟩)
 have c2 : X.N ≠ 2 := odF c2
 repeat refine gs1 ?_
 refine AW.cond rfl (fun c => ?_) fun c3 => ?_
 ·
  have c : X.N = 3 := odT c
  repeat refine gs1 ?_
  refine RW.q rfl (q_den hJ.l rfl rfl hO) ?_
  repeat refine gs1 ?_
  refine RW.q (v := .bool (Ru.den e.links X.Of && decide (X.Of2 = 0))) rfl (qpA rfl rfl rfl) ?_
  repeat refine gs1 ?_
  exact fin_res (vs := [.bool (Ru.den e.links X.Of && decide (X.Of2 = 0))]) rfl rfl ⟨.tmp rfl, trivial⟩ rfl (fun w' hw => ⟨by unfold Ru.jfact; rw [if_neg c0, if_neg c2, if_pos c]; rfl, hw.below rfl⟩)
 have c3 : X.N ≠ 3 := odF c3
 repeat refine gs1 ?_
 refine AW.cond rfl (fun c => ?_) fun c7 => ?_
 ·
  have c : X.N = 7 := odT c
  repeat refine gs1 ?_
  refine RW.q rfl (q_den hJ.t rfl rfl hO) ?_
  repeat refine gs1 ?_
  refine RW.q (v := .bool (Ru.den e.towns X.Of && decide (X.Of2 = 0))) rfl (qpA rfl rfl rfl) ?_
  repeat refine gs1 ?_
  exact fin_res (vs := [.bool (Ru.den e.towns X.Of && decide (X.Of2 = 0))]) rfl rfl ⟨.tmp rfl, trivial⟩ rfl (fun w' hw => ⟨by unfold Ru.jfact; rw [if_neg c0, if_neg c2, if_neg c3, if_pos c]; rfl, hw.below rfl⟩)
 have c7 : X.N ≠ 7 := odF c7
 repeat refine gs1 ?_
 refine AW.orCh (kd := .i64) (t := 58) (x := 6) (a := X.N) rfl rfl _ rfl rfl rfl rfl fun f' => ?_
 repeat refine gs1 ?_
 have e4 : (decide (X.N = 4) || [((5 : Int), 60), (6, 61)].any fun p => decide (X.N = p.1)) = decide (X.N = 4 ∨ X.N = 5 ∨ X.N = 6) := by simp
 refine AW.cond rfl (fun c => ?_) fun c => ?_
 ·
  have c : X.N = 4 ∨ X.N = 5 ∨ X.N = 6 := odT (e4.symm.trans c)
  repeat refine gs1 ?_
  refine RW.q (v := .bool (decide (X.Of = 0) && decide (X.Of2 = 0))) rfl (qpA rfl rfl rfl) ?_
  repeat refine gs1 ?_
  exact fin_res (vs := [.bool (decide (X.Of = 0) && decide (X.Of2 = 0))]) rfl rfl ⟨.tmp rfl, trivial⟩ rfl (fun w' hw => ⟨by unfold Ru.jfact; rw [if_neg c0, if_neg c2, if_neg c3, if_neg c7, if_pos c]; rfl, hw.below rfl⟩)
 have c4 : ¬ (X.N = 4 ∨ X.N = 5 ∨ X.N = 6) := odF (e4.symm.trans c)
 repeat refine gs1 ?_
 exact fin_res (vs := [.bool false]) rfl rfl ⟨.tmp rfl, trivial⟩ rfl (fun w' hw => ⟨by unfold Ru.jfact; rw [if_neg c0, if_neg c2, if_neg c3, if_neg c7, if_neg c4]; rfl, hw.below rfl⟩)
theorem same_c (w : World) {bb : Nat} {kv lv : Value} {ks ls : List Int} (hb : hp w bb = some (.cells [kv].toArray 29 (0, 0))) (h1 : RepSl (hp w) ks kv) (h2 : RepSl (hp w) ls lv) : Calls pg 124 #[lv, pB bb] w fun e w' => e = .returned (.bool (decide (ks = ls))) ∧ Bel w.heap.size w w' := by
 refine calls_of_AW (args := [lv, pB bb]) Tryz.func124 rfl (lBT rfl) (St ⟨w, hp w, []⟩ (hp w) []) (StP.init w (hp w) (Hp.le_refl _) []) ?_
 show AW _ _ [] _ _ _ [(0, lv), (1, pB bb)] _
 have pk : PCell (hp w) ⟨bb, 0, none⟩ kv := PCell.blk (cs := [kv]) hb rfl
 repeat refine gs1 ?_
 refine RW.q rfl (q_call (args := #[kv, lv]) oK rfl rfl (fun w1 hw1 => eqI_c w1 (hp w1) (Hp.le_refl _) (h1.mono hw1.phi) (h2.mono hw1.phi))) ?_
 repeat refine gs1 ?_
 exact fin_res (vs := [.bool (decide (ks = ls))]) rfl rfl ⟨.tmp rfl, trivial⟩ rfl (fun w' hw => ⟨rfl, hw.below rfl⟩)
theorem jop_c (w : World) {Φ : Hp} (hΦ : Hp.le Φ (hp w)) {k : Int} {ks : List Int} {kv : Value} (hks : RepSl Φ ks kv) : Calls pg 105 #[iV k, kv] w fun e w' => e = .returned (.tuple #[iV (Ru.jop k ks).1, .bool (Ru.jop k ks).2]) ∧ Bel w.heap.size w w' := by
 obtain ⟨kA, kc, rfl, _⟩ := hks.sl
 have hsl := hks.sl
 refine calls_of_AW (args := [iV k, .slice kA ks.length kc]) Tryz.func105 rfl (lBT rfl) (St ⟨w, Φ, []⟩ Φ []) (StP.init w Φ hΦ []) ?_
 show AW _ _ [] _ _ _ [(0, iV k), (1, .slice kA ks.length kc)] _
 repeat refine gs1 ?_
 refine RW.eff _ _ rfl (e_boxSl rfl hsl) fun b3 => ?_
 repeat refine gs1 ?_
 refine AW.cond rfl (fun c => ?_) fun c2 => ?_
 ·
  have c : k = 2 := odT c
  repeat refine gs1 ?_
  refine RW.eff _ _ rfl (e_buildSlice (vals := [(0, iV 0)]) (cells := [iV 0]) uT29 inf3 rfl rfl rfl (by kernel_rfl) rfl) fun b8 => (RW.q rfl (q_call (args := #[.slice (some ⟨b8, 0, none⟩) 1 1, pB b3]) oK rfl rfl (fun w1 hw1 => same_c w1 (ls := [0]) (hw1.sAt 1 rfl) (hks.mono hw1.phi) (RowS.ints (T := 3) (n := 1) (hw1.sAt 0 rfl) (by decide) (fun z hz => by simp only [List.mem_cons, List.not_mem_nil, or_false] at hz; subst hz; unfold I64; omega)))) ?_)
  repeat refine gs1 ?_
  exact fin_res (vs := [iV 0, .bool (decide (ks = [0]))]) rfl rfl ⟨.tmp rfl, .tmp rfl, trivial⟩ rfl (fun w' hw => ⟨by unfold Ru.jop; rw [if_pos c]; rfl, hw.below rfl⟩)
 have c2 : k ≠ 2 := odF c2
 repeat refine gs1 ?_
 refine AW.cond rfl (fun c => ?_) fun c3 => ?_
 ·
  have c : k = 3 := odT c
  repeat refine gs1 ?_
  refine RW.eff _ _ rfl (e_buildSlice (vals := [(0, iV 1)]) (cells := [iV 1]) uT29 inf3 rfl rfl rfl (by kernel_rfl) rfl) fun b8 => (RW.q rfl (q_call (args := #[.slice (some ⟨b8, 0, none⟩) 1 1, pB b3]) oK rfl rfl (fun w1 hw1 => same_c w1 (ls := [1]) (hw1.sAt 1 rfl) (hks.mono hw1.phi) (RowS.ints (T := 3) (n := 1) (hw1.sAt 0 rfl) (by decide) (fun z hz => by simp only [List.mem_cons, List.not_mem_nil, or_false] at hz; subst hz; unfold I64; omega)))) ?_)
  repeat refine gs1 ?_
  exact fin_res (vs := [iV 1, .bool (decide (ks = [1]))]) rfl rfl ⟨.tmp rfl, .tmp rfl, trivial⟩ rfl (fun w' hw => ⟨by unfold Ru.jop; rw [if_neg c2, if_pos c]; rfl, hw.below rfl⟩)
 have c3 : k ≠ 3 := odF c3
 repeat refine gs1 ?_
 refine AW.orCh (kd := .i64) (t := 19) (x := 8) (a := k) rfl rfl _ rfl rfl rfl rfl fun f1 => ?_
 repeat refine gs1 ?_
 have e4 : (decide (k = 4) || [((5 : Int), 21), (6, 22), (7, 23)].any fun p => decide (k = p.1)) = decide (k = 4 ∨ k = 5 ∨ k = 6 ∨ k = 7) := by simp
 refine AW.cond rfl (fun c => ?_) fun c4 => ?_
 ·
  have c : k = 4 ∨ k = 5 ∨ k = 6 ∨ k = 7 := odT (e4.symm.trans c)
  repeat refine gs1 ?_
  refine RW.eff _ _ rfl (e_buildSlice (vals := [(0, iV 0), (1, iV 0)]) (cells := [iV 0, iV 0]) uT29 inf3 rfl rfl rfl (by kernel_rfl) rfl) fun b8 => (RW.q rfl (q_call (args := #[.slice (some ⟨b8, 0, none⟩) 2 2, pB b3]) oK rfl rfl (fun w1 hw1 => same_c w1 (ls := [0, 0]) (hw1.sAt 1 rfl) (hks.mono hw1.phi) (RowS.ints (T := 3) (n := 2) (hw1.sAt 0 rfl) (by decide) (fun z hz => by simp only [List.mem_cons, List.not_mem_nil, or_false, or_self] at hz; subst hz; unfold I64; omega)))) ?_)
  repeat refine gs1 ?_
  exact fin_res (vs := [iV 0, .bool (decide (ks = [0, 0]))]) rfl rfl ⟨.tmp rfl, .tmp rfl, trivial⟩ rfl (fun w' hw => ⟨by unfold Ru.jop; rw [if_neg c2, if_neg c3, if_pos c]; rfl, hw.below rfl⟩)
 have c4 : ¬ (k = 4 ∨ k = 5 ∨ k = 6 ∨ k = 7) := odF (e4.symm.trans c4)
 repeat refine gs1 ?_
 refine AW.orCh (kd := .i64) (t := 27) (x := 8) (a := k) rfl rfl _ rfl rfl rfl rfl fun f2 => ?_
 repeat refine gs1 ?_
 have e8 : (decide (k = 8) || [((9 : Int), 29)].any fun p => decide (k = p.1)) = decide (k = 8 ∨ k = 9) := by simp
 refine AW.cond rfl (fun c => ?_) fun c8 => ?_
 ·
  have c : k = 8 ∨ k = 9 := odT (e8.symm.trans c)
  repeat refine gs1 ?_
  refine RW.eff _ _ rfl (e_buildSlice (vals := [(0, iV 0), (1, iV 0)]) (cells := [iV 0, iV 0]) uT29 inf3 rfl rfl rfl (by kernel_rfl) rfl) fun b8 => (RW.q rfl (q_call (args := #[.slice (some ⟨b8, 0, none⟩) 2 2, pB b3]) oK rfl rfl (fun w1 hw1 => same_c w1 (ls := [0, 0]) (hw1.sAt 1 rfl) (hks.mono hw1.phi) (RowS.ints (T := 3) (n := 2) (hw1.sAt 0 rfl) (by decide) (fun z hz => by simp only [List.mem_cons, List.not_mem_nil, or_false, or_self] at hz; subst hz; unfold I64; omega)))) ?_)
  repeat refine gs1 ?_
  exact fin_res (vs := [iV 1, .bool (decide (ks = [0, 0]))]) rfl rfl ⟨.tmp rfl, .tmp rfl, trivial⟩ rfl (fun w' hw => ⟨by unfold Ru.jop; rw [if_neg c2, if_neg c3, if_neg c4, if_pos c]; rfl, hw.below rfl⟩)
 have c8 : ¬ (k = 8 ∨ k = 9) := odF (e8.symm.trans c8)
 repeat refine gs1 ?_
 refine AW.cond rfl (fun c => ?_) fun c10 => ?_
 ·
  have c : k = 10 := odT c
  repeat refine gs1 ?_
  refine AW.drawZ (J0 := St ⟨w, Φ, []⟩ Φ [.blk b3 29 [.slice kA ks.length kc]]) [.q, .q, .q, .q, .q, .q, .q, .q, .q, .q, .q, .q, .q, .q] [0, 1, 2, 3, 4, 5, 6, 7, 8, 9, 10, 11, 12, 13] hmix (by kernel_rfl) ?_
  repeat refine gs1 ?_
  refine DW.g (b := decide ((ks.length : Int) = 2)) (v := .pointer (some (Value.at (.slice kA ks.length kc) (0 * 1)))) (fun _ h => h) rfl rfl rfl (fun h => qa_ixL (n := ks.length) (i := 0) (gv_pos h) rfl hsl (by have := odT h; omega)) (DW.g (b := decide ((ks.length : Int) = 2)) (v := iV (ks.getD 0 0)) (fun _ h => h) rfl rfl rfl (fun h => qa_ld (gv_pos h) (Cell.phi (RepSl.gi' hks (by have := odT h; omega)))) ?_)
  repeat refine gs1 ?_
  refine DW.g (b := decide ((ks.length : Int) = 2)) (v := .pointer (some (Value.at (.slice kA ks.length kc) (1 * 1)))) (fun _ h => h) rfl rfl rfl (fun h => qa_ixL (n := ks.length) (i := 1) (gv_pos h) rfl hsl (by have := odT h; omega)) (DW.g (b := decide ((ks.length : Int) = 2)) (v := iV (ks.getD 1 0)) (fun _ h => h) rfl rfl rfl (fun h => qa_ld (gv_pos h) (Cell.phi (RepSl.gi' hks (by have := odT h; omega)))) ?_)
  repeat refine gs1 ?_
  refine DW.q (v := .bool (decide ((ks.length : Int) = 2) && decide (ks.getD 0 0 = ks.getD 1 0))) (fun _ h => h) rfl (qpA rfl rfl rfl) ?_
  repeat refine gs1 ?_
  have e2 : decide ((ks.length : Int) = 2) = decide (ks.length = 2) := decide_eq_decide.2 (by omega)
  exact fin_res (vs := [iV 1, .bool (decide ((ks.length : Int) = 2) && decide (ks.getD 0 0 = ks.getD 1 0))]) rfl rfl ⟨.tmp rfl, .tmp rfl, trivial⟩ rfl (fun w' hw => ⟨by unfold Ru.jop; rw [if_neg c2, if_neg c3, if_neg c4, if_neg c8, if_pos c, e2]; rfl, hw.below rfl⟩)
 have c10 : k ≠ 10 := odF c10
 repeat refine gs1 ?_
 refine AW.orCh (kd := .i64) (t := 47) (x := 8) (a := k) rfl rfl _ rfl rfl rfl rfl fun f3 => ?_
 repeat refine gs1 ?_
 have e11 : (decide (k = 11) || [((12 : Int), 49)].any fun p => decide (k = p.1)) = decide (k = 11 ∨ k = 12) := by simp
 refine AW.cond rfl (fun c => ?_) fun c11 => ?_
 ·
  have c : k = 11 ∨ k = 12 := odT (e11.symm.trans c)
  repeat refine gs1 ?_
  refine RW.eff _ _ rfl (e_buildSlice (vals := [(0, iV 1), (1, iV 1)]) (cells := [iV 1, iV 1]) uT29 inf3 rfl rfl rfl (by kernel_rfl) rfl) fun b8 => (RW.q rfl (q_call (args := #[.slice (some ⟨b8, 0, none⟩) 2 2, pB b3]) oK rfl rfl (fun w1 hw1 => same_c w1 (ls := [1, 1]) (hw1.sAt 1 rfl) (hks.mono hw1.phi) (RowS.ints (T := 3) (n := 2) (hw1.sAt 0 rfl) (by decide) (fun z hz => by simp only [List.mem_cons, List.not_mem_nil, or_false, or_self] at hz; subst hz; unfold I64; omega)))) ?_)
  repeat refine gs1 ?_
  exact fin_res (vs := [iV 1, .bool (decide (ks = [1, 1]))]) rfl rfl ⟨.tmp rfl, .tmp rfl, trivial⟩ rfl (fun w' hw => ⟨by unfold Ru.jop; rw [if_neg c2, if_neg c3, if_neg c4, if_neg c8, if_neg c10, if_pos c]; rfl, hw.below rfl⟩)
 have c11 : ¬ (k = 11 ∨ k = 12) := odF (e11.symm.trans c11)
 repeat refine gs1 ?_
 refine AW.cond rfl (fun c => ?_) fun c13 => ?_
 ·
  have c : k = 13 := odT c
  repeat refine gs1 ?_
  refine AW.drawZ (J0 := St ⟨w, Φ, []⟩ Φ [.blk b3 29 [.slice kA ks.length kc]]) [.q, .q, .q, .q, .q, .q, .q, .q, .q, .q, .q, .q, .q, .q, .q, .q, .q, .q] [0, 1, 2, 3, 4, 5, 6, 7, 8, 9, 10, 11, 12, 13, 14, 15, 16, 17] hmix (by kernel_rfl) ?_
  repeat refine gs1 ?_
  refine DW.g (b := (!decide ((ks.length : Int) = 3))) (v := .pointer (some (Value.at (.slice kA ks.length kc) (0 * 1)))) (fun _ h => h) rfl rfl rfl (fun h => qa_ixL (n := ks.length) (i := 0) (gv_pos h) rfl hsl (by have : (ks.length : Int) = 3 := (by simpa using h); omega)) (DW.g (b := (!decide ((ks.length : Int) = 3))) (v := iV (ks.getD 0 0)) (fun _ h => h) rfl rfl rfl (fun h => qa_ld (gv_pos h) (Cell.phi (RepSl.gi' hks (by have : (ks.length : Int) = 3 := (by simpa using h); omega)))) ?_)
  repeat refine gs1 ?_
  refine DW.q (v := .bool (!decide ((ks.length : Int) = 3) || !decide (ks.getD 0 0 = 1))) (fun _ h => h) rfl (qpO rfl rfl rfl) ?_
  repeat refine gs1 ?_
  refine DW.g (b := (!decide ((ks.length : Int) = 3) || !decide (ks.getD 0 0 = 1))) (v := .pointer (some (Value.at (.slice kA ks.length kc) (1 * 1)))) (fun _ h => h) rfl rfl rfl (fun h => qa_ixL (n := ks.length) (i := 1) (gv_pos h) rfl hsl (by have : (ks.length : Int) = 3 := (by simp only [Bool.or_eq_false_iff, Bool.not_eq_false', decide_eq_true_eq] at h; exact h.1); omega)) (DW.g (b := (!decide ((ks.length : Int) = 3) || !decide (ks.getD 0 0 = 1))) (v := iV (ks.getD 1 0)) (fun _ h => h) rfl rfl rfl (fun h => qa_ld (gv_pos h) (Cell.phi (RepSl.gi' hks (by have : (ks.length : Int) = 3 := (by simp only [Bool.or_eq_false_iff, Bool.not_eq_false', decide_eq_true_eq] at h; exact h.1); omega)))) ?_)
  repeat refine gs1 ?_
  refine DW.g (b := (!decide ((ks.length : Int) = 3) || !decide (ks.getD 0 0 = 1))) (v := .pointer (some (Value.at (.slice kA ks.length kc) (2 * 1)))) (fun _ h => h) rfl rfl rfl (fun h => qa_ixL (n := ks.length) (i := 2) (gv_pos h) rfl hsl (by have : (ks.length : Int) = 3 := (by simp only [Bool.or_eq_false_iff, Bool.not_eq_false', decide_eq_true_eq] at h; exact h.1); omega)) (DW.g (b := (!decide ((ks.length : Int) = 3) || !decide (ks.getD 0 0 = 1))) (v := iV (ks.getD 2 0)) (fun _ h => h) rfl rfl rfl (fun h => qa_ld (gv_pos h) (Cell.phi (RepSl.gi' hks (by have : (ks.length : Int) = 3 := (by simp only [Bool.or_eq_false_iff, Bool.not_eq_false', decide_eq_true_eq] at h; exact h.1); omega)))) ?_)
  repeat refine gs1 ?_
  refine DW.q (v := .bool ((!decide ((ks.length : Int) = 3) || !decide (ks.getD 0 0 = 1)) || !decide (ks.getD 1 0 = ks.getD 2 0))) (fun _ h => h) rfl (qpO rfl rfl rfl) ?_
  repeat refine gs1 ?_
  refine AW.cond rfl (fun d => ?_) fun d => ?_
  ·
   have d : ks.length ≠ 3 ∨ ks.getD 0 0 ≠ 1 ∨ ks.getD 1 0 ≠ ks.getD 2 0 := by simp only [Bool.or_eq_true, Bool.not_eq_true', decide_eq_false_iff_not] at d; omega
   repeat refine gs1 ?_
   exact fin_res (vs := [iV 0, .bool false]) rfl rfl ⟨.tmp rfl, .tmp rfl, trivial⟩ rfl (fun w' hw => ⟨by unfold Ru.jop; rw [if_neg c2, if_neg c3, if_neg c4, if_neg c8, if_neg c10, if_neg c11, if_pos c, if_pos d]; rfl, hw.below rfl⟩)
  ·
   have d : ks.length = 3 ∧ ks.getD 0 0 = 1 ∧ ks.getD 1 0 = ks.getD 2 0 := by simp only [Bool.or_eq_false_iff, Bool.not_eq_false', decide_eq_true_eq] at d; omega
   have p1 := RepSl.gi' hks (i := 1) (by omega)
   repeat refine gs1 ?_
   refine RW.q (v := .pointer (some (Value.at (.slice kA ks.length kc) (1 * 1)))) rfl (qa_ixL (n := ks.length) (i := 1) rfl rfl hsl (by omega)) ?_
   repeat refine gs1 ?_
   exact fin_res (vs := [iV (ks.getD 1 0), .bool true]) rfl rfl ⟨.tmp rfl, .tmp rfl, trivial⟩ rfl (fun w' hw => ⟨by unfold Ru.jop; rw [if_neg c2, if_neg c3, if_neg c4, if_neg c8, if_neg c10, if_neg c11, if_pos c, if_neg (by omega)]; rfl, hw.below rfl⟩)
 have c13 : k ≠ 13 := odF c13
 repeat refine gs1 ?_
 exact fin_res (vs := [iV 0, .bool false]) rfl rfl ⟨.tmp rfl, .tmp rfl, trivial⟩ rfl (fun w' hw => ⟨by unfold Ru.jop; rw [if_neg c2, if_neg c3, if_neg c4, if_neg c8, if_neg c10, if_neg c11, if_neg c13]; rfl, hw.below rfl⟩)
end Go.Proofs.YtnfmjfheciihjaaGreatDoor
namespace Ru
open Bt
theorem jop_i64 {k : Int} {l : List Int} (h : ∀ x ∈ l, Go.K.I64 x) : Go.K.I64 (jop k l).1 := by
 have hg : ∀ i, Go.K.I64 (l.getD i 0) := fun i => by
  rw [gDD]
  cases hq : l[i]? with
  | none => exact ⟨by decide, by decide⟩
  | some x => exact h x (List.mem_of_getElem? hq)
 have z : Go.K.I64 0 := ⟨by decide, by decide⟩
 have z1 : Go.K.I64 1 := ⟨by decide, by decide⟩
 unfold jop
 repeat' split
 all_goals first | exact hg _ | exact z | exact z1
theorem jx_i64 {e : Env} {fs : List RFunc} {ts : List Int} (ht : ∀ t ∈ ts, Go.K.I64 t) (hf : ∀ f ∈ fs, Go.K.I64 f.Result) : ∀ {n : Nat} {x : Expr}, Go.K.I64 (jx e fs ts n x).1 := by
 have z : Go.K.I64 0 := ⟨by decide, by decide⟩
 intro n
 induction n with
 | zero => intro x; exact z
 | succ n ih =>
  intro x
  unfold jx
  split
  ·
   exact z
  ·
   split
   ·
    exact z
   ·
    rename_i ks hks
    obtain ⟨h1, _⟩ := jxs_mem hks
    have hk : ∀ k ∈ ks, Go.K.I64 k := fun k hk => by
     rw [h1] at hk
     obtain ⟨y, _, rfl⟩ := List.mem_map.1 hk
     exact ih
    have hgt : ∀ i, Go.K.I64 (ts.getD i 0) := fun i => by
     rw [gDD]
     cases hq : ts[i]? with
     | none => exact z
     | some x => exact ht x (List.mem_of_getElem? hq)
    have hgf : ∀ i, Go.K.I64 (fs.getD i default).Result := fun i => by
     rw [gDD]
     cases hq : fs[i]? with
     | none => exact z
     | some x => exact hf x (List.mem_of_getElem? hq)
    unfold jnd
    repeat' split
    all_goals first | exact z | exact hgt _ | exact hgf _ | exact jop_i64 hk
end Ru
namespace Go.Proofs.YtnfmjfheciihjaaGreatDoor
open Go Go.K Go.RowKit
open Ru (pB)
attribute [local irreducible] AW RW DW Post Qt
theorem kidW {Φ : Hp} {xs : List Bt.Expr} {v : Value} (h : RepSl Φ xs v) {i : Nat} (hi : i < xs.length) : ∃ A c, PCells Φ (Value.at v (i * 5)) (exC (xs.getD i default) (.slice A (xs.getD i default).Kids.length c)) ∧ RepSl Φ (xs.getD i default).Kids (.slice A (xs.getD i default).Kids.length c) ∧ wfE (xs.getD i default) := by
 obtain ⟨cs, h1, h2⟩ := h.at_ i hi
 obtain ⟨kv, rfl, h3, h4⟩ := repE'.1 h1
 obtain ⟨A, c, rfl, _⟩ := h4.sl
 have he : xs[i] = xs.getD i default := by rw [gDD, List.getElem?_eq_getElem hi]; rfl
 rw [he] at h2 h3 h4
 refine ⟨A, c, fun q u hq => ?_, h4, h3⟩
 rw [at_add]
 exact h2 q u hq
theorem funW {Φ : Hp} {xs : List Bt.RFunc} {v : Value} (h : RepSl Φ xs v) {i : Nat} (hi : i < xs.length) : ∃ pv A c, PCells Φ (Value.at v (i * 8)) (rfC (xs.getD i default) pv (.slice A (xs.getD i default).Body.Kids.length c)) ∧ RepSl Φ (xs.getD i default).Params pv ∧ RepSl Φ (xs.getD i default).Body.Kids (.slice A (xs.getD i default).Body.Kids.length c) ∧ wfE (xs.getD i default).Body ∧ (xs.getD i default).Name.length ≤ maxLen ∧ I64 (xs.getD i default).Result := by
 obtain ⟨cs, h1, h2⟩ := h.at_ i hi
 obtain ⟨pv, kv, rfl, h5, h6, h7, h3, h4⟩ := h1
 obtain ⟨A, c, rfl, _⟩ := h4.sl
 have he : xs[i] = xs.getD i default := by rw [gDD, List.getElem?_eq_getElem hi]; rfl
 rw [he] at h2 h3 h4 h5 h6 h7
 refine ⟨pv, A, c, fun q u hq => ?_, h6, h4, h3, h5, h7⟩
 rw [at_add]
 exact h2 q u hq
theorem JC.res {Φ : Hp} {e : Ru.Env} {fs : List Bt.RFunc} {fv : Value} {m1 m2 m3 m4 : Nat} (h : JC Φ e fs fv m1 m2 m3 m4) : ∀ f ∈ fs, I64 f.Result := fun f hf => by
 obtain ⟨i, hi, rfl⟩ := List.getElem_of_mem hf
 obtain ⟨_, _, _, _, _, _, _, _, h6⟩ := funW h.f hi
 rw [gDD, List.getElem?_eq_getElem hi] at h6
 exact h6
def JxOK (e : Ru.Env) (fs : List Bt.RFunc) (fv : Value) (m1 m2 m3 m4 n : Nat) : Prop := ∀ (w : World) (Φ : Hp) (X : Bt.Expr) (v : Value) (ts : List Int) (pv : Value) (d : Int), Hp.le Φ (hp w) → JC Φ e fs fv m1 m2 m3 m4 → wfE X → RepSl Φ X.Kids v → RepSl Φ ts pv → (n : Int) + d = 41 → 0 ≤ d →
 Calls pg 76 #[.agg (jC fv m1 m2 m3 m4).toArray, .agg (exC X v).toArray, pv, iV d] w fun e' w' => e' = .returned (.tuple #[iV (Ru.jx e fs ts n X).1, .bool (Ru.jx e fs ts n X).2]) ∧ Bel w.heap.size w w'
section
variable {e : Ru.Env} {fs : List Bt.RFunc} {fv : Value} {m1 m2 m3 m4 : Nat}
theorem jexpr_of {n : Nat} (ih : JxOK e fs fv m1 m2 m3 m4 n) : JxOK e fs fv m1 m2 m3 m4 (n + 1) := by
 intro w Φ X v ts pv d hΦ hJ hX hv hpv hnd hd0
 obtain ⟨vA, vc, rfl, _⟩ := hv.sl
 have hvs := hv.sl
 obtain ⟨fA, fc, rfl, _⟩ := hJ.f.sl
 have hfs := hJ.f.sl
 obtain ⟨pA, pc, rfl, _⟩ := hpv.sl
 have hps := hpv.sl
 have hxb : X.Kids.length * 56 ≤ maxSl := hv.max
 simp only [maxSl] at hxb
 have hnl : ¬ (40 : Int) < d := by omega
 refine calls_of_AW (args := [.agg (jC (.slice fA fs.length fc) m1 m2 m3 m4).toArray, .agg (exC X (.slice vA X.Kids.length vc)).toArray, .slice pA ts.length pc, iV d]) Tryz.func76 rfl (lBT rfl) (St ⟨w, Φ, []⟩ Φ []) (StP.init w Φ hΦ []) ?_
 show AW _ _ [] _ _ _ [(0, .agg (jC (.slice fA fs.length fc) m1 m2 m3 m4).toArray), (1, .agg (exC X (.slice vA X.Kids.length vc)).toArray), (2, .slice pA ts.length pc), (3, iV d)] _
 repeat refine gs1 ?_
 refine RW.bxA (cs := jC (.slice fA fs.length fc) m1 m2 m3 m4) rfl rfl fun b4 => ?_
 refine RW.bxA (cs := exC X (.slice vA X.Kids.length vc)) rfl rfl fun b5 => ?_
 repeat refine gs1 ?_
 refine RW.g2 (b1 := decide ((40 : Int) < d)) (b2 := (!decide (X.Kind = 1))) (v := .pointer (some ⟨b5, 2, none⟩)) rfl rfl rfl (fun h1 h2 => qa_fa0 rfl) (RW.g2 (b1 := decide ((40 : Int) < d)) (b2 := (!decide (X.Kind = 1))) (v := iV X.Of) rfl rfl rfl (fun h1 h2 => qa_ld ((gv_pos h1).trans (gv_pos h2)) (Cell.blk 0 rfl rfl)) (RW.g2 (b1 := decide ((40 : Int) < d)) (b2 := (!decide (X.Kind = 1))) (v := .bool (!decide (X.Of = 0))) rfl rfl rfl (fun h1 h2 => q_neq (a := X.Of) (b := 0) ((gv_pos h1).trans (gv_pos h2)) rfl) (RW.g2 (b1 := decide ((40 : Int) < d)) (b2 := (!decide (X.Kind = 1))) (v := .bool (!decide (X.Of = 0))) rfl rfl rfl (fun h1 h2 => q_move ((gv_pos h1).trans (gv_pos h2))) (RW.g3 (b1 := decide ((40 : Int) < d)) (b2 := (!decide (X.Kind = 1))) (b3 := (!decide (X.Of = 0))) (v := .pointer (some ⟨b5, 3, none⟩)) rfl rfl rfl (fun h1 h2 h3 => qa_fa0 rfl) (RW.g3 (b1 := decide ((40 : Int) < d)) (b2 := (!decide (X.Kind = 1))) (b3 := (!decide (X.Of = 0))) (v := iV X.Of2) rfl rfl rfl (fun h1 h2 h3 => qa_ld ((gv_pos h1).trans ((gv_pos h2).trans (gv_pos h3))) (Cell.blk 0 rfl rfl)) (RW.g3 (b1 := decide ((40 : Int) < d)) (b2 := (!decide (X.Kind = 1))) (b3 := (!decide (X.Of = 0))) (v := .bool (!decide (X.Of2 = 0))) rfl rfl rfl (fun h1 h2 h3 => q_neq (a := X.Of2) (b := 0) ((gv_pos h1).trans ((gv_pos h2).trans (gv_pos h3))) rfl) (RW.g2 (b1 := decide ((40 : Int) < d)) (b2 := (!decide (X.Kind = 1))) (v := .bool ((!decide (X.Of = 0)) || (!decide (X.Of2 = 0)))) rfl rfl rfl (fun h1 h2 => q_pick ((gv_pos h1).trans (gv_pos h2)) (fun hp => pkOrT hp) (fun hp => (gv_pos h1).trans ((gv_pos h2).trans ((gv_pos hp).trans (pkOrF hp))))) (RW.g (b := decide ((40 : Int) < d)) (v := .bool ((!decide (X.Kind = 1)) && ((!decide (X.Of = 0)) || (!decide (X.Of2 = 0))))) rfl rfl rfl (fun h1 => q_pick (gv_pos h1) (fun hp => (gv_pos h1).trans ((gv_pos hp).trans (pkAndT hp))) (fun hp => pkAndF hp)) (RW.q (v := .bool (decide ((40 : Int) < d) || ((!decide (X.Kind = 1)) && ((!decide (X.Of = 0)) || (!decide (X.Of2 = 0)))))) rfl (qpO rfl rfl rfl) ?_)))))))))
 repeat refine gs1 ?_
 refine AW.cond rfl (fun hc => ?_) fun hc => ?_
 ·
  have hc : X.Kind ≠ 1 ∧ (X.Of ≠ 0 ∨ X.Of2 ≠ 0) := by simpa [hnl] using hc
  repeat refine gs1 ?_
  exact fin_res (vs := [iV 0, .bool false]) rfl rfl ⟨.tmp rfl, .tmp rfl, trivial⟩ rfl (fun w' hw => ⟨by rw [Ru.jx, if_pos hc]; rfl, hw.below rfl⟩)
 have hc : ¬ (X.Kind ≠ 1 ∧ (X.Of ≠ 0 ∨ X.Of2 ≠ 0)) := fun hh => by have : decide (X.Kind = 1) = false := decide_eq_false hh.1; rcases hh.2 with h | h <;> simp [hnl, hh.1, h] at hc
 have hjx : Ru.jx e fs ts (n + 1) X = match Ru.jxs (Ru.jx e fs ts n) X.Kids with | none => (0, false) | some ks => Ru.jnd e fs ts X ks := by rw [Ru.jx, if_neg hc]; rfl
 repeat refine gs1 ?_
 refine RW.eff _ _ rfl (e_makeSlice (l := 0) (c := X.Kids.length) (n := 0) (xs := []) rfl rfl uT29 inf3 (by omega) (by omega) (by omega) rfl rfl) fun bk => ?_
 repeat refine gs1 ?_
 refine AW.loop (fun s J q => ∃ (i : Nat) (ks : List Int) (kv : Value), s = [(2, .slice pA ts.length pc), (3, iV d), (4, pB b4), (5, pB b5), (10, kv), (37, .slice vA X.Kids.length vc), (38, iV (X.Kids.length : Int)), (39, iV (i : Int))] ∧ J = St ⟨w, Φ, []⟩ Φ [.row kv 3 1 i (ks.map (Value.int .i64)), .blk b5 69 (exC X (.slice vA X.Kids.length vc)), .blk b4 117 (jC (.slice fA fs.length fc) m1 m2 m3 m4)] ∧ q = X.Kids.length - i ∧ i ≤ X.Kids.length ∧ IsSl kv i ∧ Ru.jxs (Ru.jx e fs ts n) (X.Kids.take i) = some ks ∧ ∀ k ∈ ks, I64 k) (s0 := [(2, .slice pA ts.length pc), (3, iV d), (4, pB b4), (5, pB b5), (10, .slice (some ⟨bk, 0, none⟩) 0 X.Kids.length), (37, .slice vA X.Kids.length vc), (38, iV (X.Kids.length : Int)), (39, iV ((0 : Nat) : Int))]) (J1 := _) (m0 := _) ⟨0, [], .slice (some ⟨bk, 0, none⟩) 0 X.Kids.length, rfl, rfl, rfl, Nat.zero_le _, isSl_mk (Nat.zero_le _), rfl, (fun k hk => absurd hk (List.not_mem_nil))⟩ ⟨rfl, rfl, rfl, rfl, rfl, rfl, rfl, rfl, trivial⟩ (fun _ h => h) ?_
 rintro _ _ _ _ ⟨i, ks, kv, rfl, rfl, rfl, hi, hkv, he1, hki⟩
 have hkl : ks.length = i := by rw [(Ru.jxs_mem he1).1, List.length_map, List.length_take, Nat.min_eq_left hi]
 obtain ⟨kA, kc, rfl, _⟩ := hkv
 repeat refine gs1 ?_
 refine AW.cond rfl (fun h => ?_) fun h => ?_
 ·
  have h : i < X.Kids.length := by have := odT h; omega
  obtain ⟨Aa, ca, hpa, hra, hwa⟩ := kidW hv (i := i) h
  have hget : X.Kids.getD i default = X.Kids[i] := by rw [gDD, List.getElem?_eq_getElem h]; rfl
  have htk : X.Kids.take (i + 1) = X.Kids.take i ++ [X.Kids.getD i default] := by rw [Ru.take_snoc h, hget]
  repeat refine gs1 ?_
  refine RW.alc rfl fun b9 => ?_
  repeat refine gs1 ?_
  refine RW.q rfl (q_call (args := #[.agg (jC (.slice fA fs.length fc) m1 m2 m3 m4).toArray, .agg (exC (X.Kids.getD i default) (.slice Aa (X.Kids.getD i default).Kids.length ca)).toArray, .slice pA ts.length pc, iV (d + 1)]) oK rfl rfl (fun w1 hw1 => ih w1 Φ _ _ ts _ (d + 1) hw1.phi hJ hwa hra hpv (by omega) (by omega))) ?_
  repeat refine gs1 ?_
  have hik : I64 (Ru.jx e fs ts n (X.Kids.getD i default)).1 := Ru.jx_i64 (fun t ht => hpv.i64 t ht) hJ.res
  refine AW.cond rfl (fun hok => ?_) fun hok => ?_
  ·
   have hok : (Ru.jx e fs ts n (X.Kids.getD i default)).2 = false := by simpa using hok
   repeat refine gs1 ?_
   exact fin_res (vs := [iV 0, .bool false]) rfl rfl ⟨.tmp rfl, .tmp rfl, trivial⟩ rfl (fun w' hw => ⟨by rw [hjx, Ru.jxs_none (by rw [hget]; exact List.getElem_mem h) hok]; rfl, hw.below rfl⟩)
  have hok : (Ru.jx e fs ts n (X.Kids.getD i default)).2 = true := by simpa using hok
  repeat refine gs1 ?_
  refine RW.eff _ _ rfl (e_buildSlice (vals := [(0, iV (Ru.jx e fs ts n (X.Kids.getD i default)).1)]) (cells := [iV (Ru.jx e fs ts n (X.Kids.getD i default)).1]) uT29 inf3 rfl rfl rfl (by kernel_rfl) rfl) fun b8 => ?_
  repeat refine gs1 ?_
  refine RW.eff (fun xv : {vq : Value // IsSl vq (i + 1)} => xv.1) (fun xv => St ⟨w, Φ, []⟩ Φ [.row (.slice (some ⟨b8, 0, none⟩) 1 1) 3 1 1 [iV (Ru.jx e fs ts n (X.Kids.getD i default)).1], .blk b9 69 (exC (X.Kids.getD i default) (.slice Aa (X.Kids.getD i default).Kids.length ca)), .row xv.1 3 1 (i + 1) (ks.map (Value.int .i64) ++ [iV (Ru.jx e fs ts n (X.Kids.getD i default)).1]), .blk b5 69 (exC X (.slice vA X.Kids.length vc)), .blk b4 117 (jC (.slice fA fs.length fc) m1 m2 m3 m4)]) rfl (e_append 2 rfl rfl rfl uT29 inf3 rfl rfl rfl (Cells.row0 0 rfl) rfl (by omega) (by omega) (fun _ => rfl)) ?_
  rintro ⟨kv2, hkv2⟩
  simp only
  repeat refine gs1 ?_
  exact Post.back (s' := _) (J' := _) (m' := _) (by omega) ⟨i + 1, ks ++ [(Ru.jx e fs ts n (X.Kids.getD i default)).1], kv2, rfl, rfl, rfl, by omega, hkv2, by rw [htk, Ru.jxs_snoc, he1]; simp only [Option.bind_some, hok, if_true], fun k hk => (List.mem_append.1 hk).elim (hki k) (fun h => by rw [List.mem_singleton.1 h]; exact hik)⟩ ⟨rfl, rfl, rfl, rfl, rfl, rfl, rfl, rfl, trivial⟩ (fun _ h => by rw [List.map_append]; exact StP.sel h [2, 3, 4] (by decide) rfl)
 have h : i = X.Kids.length := by have := odF h; omega
 subst h
 rw [List.take_length] at he1
 rw [he1] at hjx
 simp only at hjx
 refine AW.frz fun Φ1 hl1 hs1 => ?_
 have hks : RepSl Φ1 ks (.slice kA X.Kids.length kc) := RowS.ints (T := 3) hs1 (by simp only [maxSl]; omega) hki
 have hJ1 := hJ.mono hl1
 have hks2 : RepSl Φ1 ks (.slice kA ks.length kc) := by rw [hkl]; exact hks
 have hkn : decide ((X.Kids.length : Int) = 0) = decide (ks = []) := decide_eq_decide.2 ⟨fun h => List.length_eq_zero_iff.1 (by omega), fun h => by rw [h] at hkl; simp only [List.length_nil] at hkl; omega⟩
 repeat refine gs1 ?_
 refine AW.cond rfl (fun k => ?_) fun k0 => ?_
 ·
  have k : X.Kind = 0 := odT k
  repeat refine gs1 ?_
  refine AW.drawZ (J0 := St ⟨w, Φ, []⟩ Φ1 [.blk b5 69 (exC X (.slice vA X.Kids.length vc)), .blk b4 117 (jC (.slice fA fs.length fc) m1 m2 m3 m4)]) [.q, .q, .q, .q, .q, .q, .q, .q, .q, .q, .q, .q, .q, .q, .q] [0, 1, 2, 3, 4, 5, 6, 7, 8, 9, 10, 11, 12, 13, 14] hmix (by kernel_rfl) ?_
  repeat refine gs1 ?_
  refine DW.q (v := .bool (decide ((X.Kids.length : Int) = 0) && decide (0 ≤ X.N))) (fun _ h => h) rfl (qpA rfl rfl rfl) ?_
  repeat refine gs1 ?_
  refine DW.q (v := .bool (decide ((X.Kids.length : Int) = 0) && decide (0 ≤ X.N) && decide (X.N ≤ 1125899906842624))) (fun _ h => h) rfl (qpA rfl rfl rfl) ?_
  repeat refine gs1 ?_
  exact fin_res (vs := [iV 0, .bool (decide ((X.Kids.length : Int) = 0) && decide (0 ≤ X.N) && decide (X.N ≤ 1125899906842624))]) rfl rfl ⟨.tmp rfl, .tmp rfl, trivial⟩ rfl (fun w' hw => ⟨by rw [hjx]; unfold Ru.jnd; rw [if_pos k, hkn]; rfl, hw.below rfl⟩)
 have k0 : X.Kind ≠ 0 := odF k0
 repeat refine gs1 ?_
 refine AW.cond rfl (fun k => ?_) fun k1 => ?_
 ·
  have k : X.Kind = 1 := odT k
  repeat refine gs1 ?_
  refine RW.g (b := decide ((X.Kids.length : Int) = 0)) (v := .bool (Ru.jfact e X)) rfl rfl rfl (fun h => q_call (args := #[.agg (jC (.slice fA fs.length fc) m1 m2 m3 m4).toArray, .agg (exC X (.slice vA X.Kids.length vc)).toArray]) oK rfl (args2 (gv_pos h) (gv_pos h)) (fun w1 hw1 => jfact_c w1 hw1.phi hJ1 hX)) ?_
  repeat refine gs1 ?_
  refine RW.q (v := .bool (decide ((X.Kids.length : Int) = 0) && Ru.jfact e X)) rfl (qpA rfl rfl rfl) ?_
  repeat refine gs1 ?_
  exact fin_res (vs := [iV 0, .bool (decide ((X.Kids.length : Int) = 0) && Ru.jfact e X)]) rfl rfl ⟨.tmp rfl, .tmp rfl, trivial⟩ rfl (fun w' hw => ⟨by rw [hjx]; unfold Ru.jnd; rw [if_neg k0, if_pos k, hkn]; rfl, hw.below rfl⟩)
 have k1 : X.Kind ≠ 1 := odF k1
 repeat refine gs1 ?_
 refine AW.cond rfl (fun k => ?_) fun k15 => ?_
 ·
  have k : X.Kind = 15 := odT k
  repeat refine gs1 ?_
  refine RW.q (v := .bool (!decide ((X.Kids.length : Int) = 0) || decide (X.N < 0))) rfl (qpO rfl rfl rfl) ?_
  repeat refine gs1 ?_
  refine RW.g (b := (!decide ((X.Kids.length : Int) = 0) || decide (X.N < 0))) (v := iV (ts.length : Int)) rfl rfl rfl (fun h => q_len_sl (gv_pos h) hps uT29) ?_
  repeat refine gs1 ?_
  refine RW.q (v := .bool ((!decide ((X.Kids.length : Int) = 0) || decide (X.N < 0)) || decide ((ts.length : Int) ≤ X.N))) rfl (qpO rfl rfl rfl) ?_
  repeat refine gs1 ?_
  have e15 : ((!decide ((X.Kids.length : Int) = 0) || decide (X.N < 0)) || decide ((ts.length : Int) ≤ X.N)) = decide (ks ≠ [] ∨ X.N < 0 ∨ (ts.length : Int) ≤ X.N) := by rw [hkn, Bool.eq_iff_iff]; simp only [Bool.or_eq_true, Bool.not_eq_true', decide_eq_true_eq, decide_eq_false_iff_not, or_assoc, ne_eq]
  refine AW.cond rfl (fun c => ?_) fun c => ?_
  ·
   have c : ks ≠ [] ∨ X.N < 0 ∨ (ts.length : Int) ≤ X.N := odT (e15.symm.trans c)
   repeat refine gs1 ?_
   exact fin_res (vs := [iV 0, .bool false]) rfl rfl ⟨.tmp rfl, .tmp rfl, trivial⟩ rfl (fun w' hw => ⟨by rw [hjx]; unfold Ru.jnd; rw [if_neg k0, if_neg k1, if_pos k, if_pos c]; rfl, hw.below rfl⟩)
  have c : ¬ (ks ≠ [] ∨ X.N < 0 ∨ (ts.length : Int) ≤ X.N) := odF (e15.symm.trans c)
  obtain ⟨m, hm⟩ : ∃ m : Nat, X.N = m := ⟨X.N.toNat, by omega⟩
  have hml : m < ts.length := by omega
  have pe := RepSl.gi' (hpv.mono hl1) hml
  repeat refine gs1 ?_
  refine RW.q (v := .pointer (some (Value.at (.slice pA ts.length pc) (m * 1)))) rfl (qa_ixN (n := ts.length) (i := m) rfl (by show Value.int .i64 X.N = _; rw [hm]) hps hml) ?_
  repeat refine gs1 ?_
  exact fin_res (vs := [iV (ts.getD m 0), .bool true]) rfl rfl ⟨.tmp rfl, .tmp rfl, trivial⟩ rfl (fun w' hw => ⟨by rw [hjx]; unfold Ru.jnd; rw [if_neg k0, if_neg k1, if_pos k, if_neg c, hm, Int.toNat_natCast]; rfl, hw.below rfl⟩)
 have k15 : X.Kind ≠ 15 := odF k15
 repeat refine gs1 ?_
 refine AW.cond rfl (fun k => ?_) fun k14 => ?_
 ·
  have k : X.Kind = 14 := odT k
  repeat refine gs1 ?_
  refine RW.g (b := decide (X.N < 0)) (v := iV (fs.length : Int)) rfl rfl rfl (fun h => q_len_sl (gv_pos h) hfs uT32) ?_
  repeat refine gs1 ?_
  refine RW.q (v := .bool (decide (X.N < 0) || decide ((fs.length : Int) ≤ X.N))) rfl (qpO rfl rfl rfl) ?_
  repeat refine gs1 ?_
  refine AW.cond rfl (fun c => ?_) fun c => ?_
  ·
   have c : X.N < 0 ∨ (fs.length : Int) ≤ X.N := by simpa using c
   repeat refine gs1 ?_
   exact fin_res (vs := [iV 0, .bool false]) rfl rfl ⟨.tmp rfl, .tmp rfl, trivial⟩ rfl (fun w' hw => ⟨by rw [hjx]; unfold Ru.jnd; rw [if_neg k0, if_neg k1, if_neg k15, if_pos k, if_pos c]; rfl, hw.below rfl⟩)
  have c : ¬ (X.N < 0 ∨ (fs.length : Int) ≤ X.N) := by simpa using c
  obtain ⟨m, hm⟩ : ∃ m : Nat, X.N = m := ⟨X.N.toNat, by omega⟩
  have hml : m < fs.length := by omega
  obtain ⟨qv, Ab, cb, hpb, hqv, _, _, _, _⟩ := funW hJ1.f hml
  have pr : PCell Φ1 (Value.at (.slice fA fs.length fc) (m * 8 + 2)) (iV (fs.getD m default).Result) := by have := hpb 2 _ rfl; rwa [at_add] at this
  have pp : PCell Φ1 (Value.at (.slice fA fs.length fc) (m * 8 + 1)) qv := by have := hpb 1 _ rfl; rwa [at_add] at this
  clear hpb
  repeat refine gs1 ?_
  refine AW.drawZ (J0 := St ⟨w, Φ, []⟩ Φ1 [.blk b5 69 (exC X (.slice vA X.Kids.length vc)), .blk b4 117 (jC (.slice fA fs.length fc) m1 m2 m3 m4)]) [.q, .q, .q, .q, .q, .q, .q, .q, .q, .q, .q, .q, .q, .q, .q, .q, .q, .q] [0, 1, 2, 3, 4, 5, 6, 7, 8, 9, 10, 11, 12, 13, 14, 15, 16, 17] hmix (by kernel_rfl) ?_
  repeat refine gs1 ?_
  refine DW.q (v := .pointer (some (Value.at (.slice fA fs.length fc) (m * 8)))) (fun _ h => h) rfl (qa_ixN (n := fs.length) (i := m) rfl (by show Value.int .i64 X.N = _; rw [hm]) hfs hml) ?_
  repeat refine gs1 ?_
  refine DW.q (v := .pointer (some (Value.at (.slice fA fs.length fc) (m * 8)))) (fun _ h => h) rfl (qa_ixN (n := fs.length) (i := m) rfl (by show Value.int .i64 X.N = _; rw [hm]) hfs hml) ?_
  repeat refine gs1 ?_
  refine DW.q (v := .bool (decide (ks = (fs.getD m default).Params))) (fun _ h => h) rfl (q_call (args := #[.slice kA X.Kids.length kc, qv]) oK rfl rfl (fun w1 hw1 => eqI_c w1 Φ1 hw1.phi hks hqv)) ?_
  repeat refine gs1 ?_
  exact fin_res (vs := [iV (fs.getD m default).Result, .bool (decide (ks = (fs.getD m default).Params))]) rfl rfl ⟨.tmp rfl, .tmp rfl, trivial⟩ rfl (fun w' hw => ⟨by rw [hjx]; unfold Ru.jnd; rw [if_neg k0, if_neg k1, if_neg k15, if_pos k, if_neg c, hm, Int.toNat_natCast]; rfl, hw.below rfl⟩)
 have k14 : X.Kind ≠ 14 := odF k14
 repeat refine gs1 ?_
 refine AW.cond rfl (fun c => ?_) fun c => ?_
 ·
  have c : X.N ≠ 0 := by simpa using c
  repeat refine gs1 ?_
  exact fin_res (vs := [iV 0, .bool false]) rfl rfl ⟨.tmp rfl, .tmp rfl, trivial⟩ rfl (fun w' hw => ⟨by rw [hjx]; unfold Ru.jnd; rw [if_neg k0, if_neg k1, if_neg k15, if_neg k14, if_pos c]; rfl, hw.below rfl⟩)
 have c : X.N = 0 := by simpa using c
 repeat refine gs1 ?_
 refine RW.q (v := .tuple #[iV (Ru.jop X.Kind ks).1, .bool (Ru.jop X.Kind ks).2]) rfl (q_call (args := #[iV X.Kind, .slice kA X.Kids.length kc]) oK rfl rfl (fun w1 hw1 => jop_c w1 hw1.phi hks)) ?_
 repeat refine gs1 ?_
 exact fin_res (vs := [iV (Ru.jop X.Kind ks).1, .bool (Ru.jop X.Kind ks).2]) rfl rfl ⟨.tmp rfl, .tmp rfl, trivial⟩ rfl (fun w' hw => ⟨by rw [hjx]; unfold Ru.jnd; rw [if_neg k0, if_neg k1, if_neg k15, if_neg k14, if_neg (by omega)]; rfl, hw.below rfl⟩)
theorem jexpr_0 : JxOK e fs fv m1 m2 m3 m4 0 := by
 intro w Φ X v ts pv d hΦ hJ hX hv hpv hnd hd0
 have hnl : (40 : Int) < d := by omega
 have hjx : Ru.jx e fs ts 0 X = (0, false) := rfl
 refine calls_of_AW (args := [.agg (jC fv m1 m2 m3 m4).toArray, .agg (exC X v).toArray, pv, iV d]) Tryz.func76 rfl (lBT rfl) (St ⟨w, Φ, []⟩ Φ []) (StP.init w Φ hΦ []) ?_
 show AW _ _ [] _ _ _ [(0, .agg (jC fv m1 m2 m3 m4).toArray), (1, .agg (exC X v).toArray), (2, pv), (3, iV d)] _
 repeat refine gs1 ?_
 refine RW.bxA (cs := jC fv m1 m2 m3 m4) rfl rfl fun b4 => ?_
 refine RW.bxA (cs := exC X v) rfl rfl fun b5 => ?_
 repeat refine gs1 ?_
 refine RW.g2 (b1 := decide ((40 : Int) < d)) (b2 := (!decide (X.Kind = 1))) (v := .pointer (some ⟨b5, 2, none⟩)) rfl rfl rfl (fun h1 h2 => qa_fa0 rfl) (RW.g2 (b1 := decide ((40 : Int) < d)) (b2 := (!decide (X.Kind = 1))) (v := iV X.Of) rfl rfl rfl (fun h1 h2 => qa_ld ((gv_pos h1).trans (gv_pos h2)) (Cell.blk 0 rfl rfl)) (RW.g2 (b1 := decide ((40 : Int) < d)) (b2 := (!decide (X.Kind = 1))) (v := .bool (!decide (X.Of = 0))) rfl rfl rfl (fun h1 h2 => q_neq (a := X.Of) (b := 0) ((gv_pos h1).trans (gv_pos h2)) rfl) (RW.g2 (b1 := decide ((40 : Int) < d)) (b2 := (!decide (X.Kind = 1))) (v := .bool (!decide (X.Of = 0))) rfl rfl rfl (fun h1 h2 => q_move ((gv_pos h1).trans (gv_pos h2))) (RW.g3 (b1 := decide ((40 : Int) < d)) (b2 := (!decide (X.Kind = 1))) (b3 := (!decide (X.Of = 0))) (v := .pointer (some ⟨b5, 3, none⟩)) rfl rfl rfl (fun h1 h2 h3 => qa_fa0 rfl) (RW.g3 (b1 := decide ((40 : Int) < d)) (b2 := (!decide (X.Kind = 1))) (b3 := (!decide (X.Of = 0))) (v := iV X.Of2) rfl rfl rfl (fun h1 h2 h3 => qa_ld ((gv_pos h1).trans ((gv_pos h2).trans (gv_pos h3))) (Cell.blk 0 rfl rfl)) (RW.g3 (b1 := decide ((40 : Int) < d)) (b2 := (!decide (X.Kind = 1))) (b3 := (!decide (X.Of = 0))) (v := .bool (!decide (X.Of2 = 0))) rfl rfl rfl (fun h1 h2 h3 => q_neq (a := X.Of2) (b := 0) ((gv_pos h1).trans ((gv_pos h2).trans (gv_pos h3))) rfl) (RW.g2 (b1 := decide ((40 : Int) < d)) (b2 := (!decide (X.Kind = 1))) (v := .bool ((!decide (X.Of = 0)) || (!decide (X.Of2 = 0)))) rfl rfl rfl (fun h1 h2 => q_pick ((gv_pos h1).trans (gv_pos h2)) (fun hp => pkOrT hp) (fun hp => (gv_pos h1).trans ((gv_pos h2).trans ((gv_pos hp).trans (pkOrF hp))))) (RW.g (b := decide ((40 : Int) < d)) (v := .bool ((!decide (X.Kind = 1)) && ((!decide (X.Of = 0)) || (!decide (X.Of2 = 0))))) rfl rfl rfl (fun h1 => q_pick (gv_pos h1) (fun hp => (gv_pos h1).trans ((gv_pos hp).trans (pkAndT hp))) (fun hp => pkAndF hp)) (RW.q (v := .bool (decide ((40 : Int) < d) || ((!decide (X.Kind = 1)) && ((!decide (X.Of = 0)) || (!decide (X.Of2 = 0)))))) rfl (qpO rfl rfl rfl) ?_)))))))))
 repeat refine gs1 ?_
 refine AW.cond rfl (fun hc => ?_) fun hc => ?_
 ·
  repeat refine gs1 ?_
  exact fin_res (vs := [iV 0, .bool false]) rfl rfl ⟨.tmp rfl, .tmp rfl, trivial⟩ rfl (fun w' hw => ⟨by rw [hjx]; rfl, hw.below rfl⟩)
 ·
  simp [hnl] at hc
theorem jexpr_c : ∀ n, JxOK e fs fv m1 m2 m3 m4 n
 | 0 => jexpr_0
 | n + 1 => jexpr_of (jexpr_c n)
end
end Go.Proofs.YtnfmjfheciihjaaGreatDoor
namespace Mn
open Bt
abbrev mx : Int := 9223372036854775807
abbrev mn : Int := -9223372036854775808
def lim (n : Int) : Int := if n < mn then mn else if mx < n then mx else n
def clampI (n lo hi : Int) : Int := if n < lo then lo else if hi < n then hi else n
theorem lim_I64 (n : Int) : mn ≤ lim n ∧ lim n ≤ mx := by unfold lim mn mx; split <;> (try split) <;> omega
def atL (l : List Int) (i : Int) : Int := if i < 0 ∨ (l.length : Int) ≤ i then 0 else l.getD i.toNat 0
def bef (y : Int) : Int := 365 * (y - 2000) + (y - 2000 + 3) / 4 - (y - 2000 + 99) / 100 + (y - 2000 + 399) / 400
def leap (y : Int) : Bool := decide (y % 4 = 0) && (decide (y % 100 ≠ 0) || decide (y % 400 = 0))
def months : List Int := [31, 29, 31, 30, 31, 30, 31, 31, 30, 31, 30, 31]
def mlen (y m : Int) : Int := if m = 2 ∧ leap y = false then 28 else months.getD (m - 1).toNat 0
def yearF : Nat → Int → Int → Int
  | 0, _, y => y
  | f + 1, d, y => if bef (y + 1) ≤ d then yearF f d (y + 1) else y
def monF : Nat → Int → Int → Int → Int × Int
  | 0, _, d, m => (d, m)
  | f + 1, y, d, m => if mlen y m ≤ d then monF f y (d - mlen y m) (m + 1) else (d, m)
def ymd (h : Int) : Int × Int × Int :=
  let y := yearF 2000 (h / 24) (2000 + h / 24 / 366)
  let r := monF 12 y (h / 24 - bef y) 1
  (y, r.2, r.1 + 1)
def dateOf (h : Int) : (Int × Int × Int × Int) × Bool :=
  if h < 0 ∨ 16777216 < h then ((0, 0, 0, 0), false) else (((ymd h).1, (ymd h).2.1, (ymd h).2.2, h % 24), true)
theorem bef_ge {y : Int} (h : 2000 ≤ y) : 365 * (y - 2000) ≤ bef y ∧ bef y ≤ 366 * (y - 2000) := by unfold bef; omega
theorem bef_next (y : Int) (_ : 2000 ≤ y) : bef (y + 1) - bef y = if leap y = true then 366 else 365 := by
  unfold bef leap
  split
  · rename_i hl
    simp only [Bool.and_eq_true, Bool.or_eq_true, decide_eq_true_eq] at hl
    omega
  · rename_i hl
    simp only [Bool.and_eq_true, Bool.or_eq_true, decide_eq_true_eq] at hl
    omega
theorem yearF_ok : ∀ (f : Nat) (d y : Int), 2000 ≤ y → 0 ≤ d → bef y ≤ d → d < 365 * (y + f - 2000) → 2000 ≤ yearF f d y ∧ bef (yearF f d y) ≤ d ∧ d < bef (yearF f d y + 1)
  | 0, d, y, h1, h2, h3, h4 => by have := bef_ge h1; omega
  | f + 1, d, y, h1, h2, h3, h4 => by
    unfold yearF
    split
    · rename_i h
      exact yearF_ok f d (y + 1) (by omega) h2 h (by omega)
    · rename_i h
      exact ⟨h1, h3, by omega⟩
end Mn
