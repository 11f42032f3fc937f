/- Lemmas. Conditions: those of each theorem. -/
import Derived.Test.YtjmeeofdffdpnaaGreatDoorMMnE
set_option maxRecDepth 8000
set_option maxHeartbeats 16000000
namespace Go.Proofs.YtjmeeofdffdpnaaGreatDoor
open Go Go.K Go.RowKit
open Ru (pB)
attribute [local irreducible] AW RW DW Post Qt
abbrev upA (l : List UInt8) (i : Nat) : Bool := (decide (((65 : Nat) : Int) ≤ ((l.getD i 0).toNat : Int))) && (decide (((l.getD i 0).toNat : Int) ≤ ((90 : Nat) : Int)))
abbrev loA (l : List UInt8) (i : Nat) : Bool := (decide (((97 : Nat) : Int) ≤ ((l.getD i 0).toNat : Int))) && (decide (((l.getD i 0).toNat : Int) ≤ ((122 : Nat) : Int)))
variable {x pc : Nat} {y : MnV} {ks kc : Value} {u fa : Int} {en : Bool} {S : List Int} {o : Vm.Op}

theorem ilit_c (w : World) {Φ : Hp} (hb : S.length ≤ 900000000) (h0 : StP ⟨w, Φ, fps [mB x y pc ks kc u fa en, sR ks S]⟩ Φ [mB x y pc ks kc u fa en, sR ks S] w) :
    Calls pg 75 #[pB x, .agg (opC o).toArray] w (OwnU w Φ [mB x y pc ks kc u fa en, sR ks S] (fun _ : Value => .tuple #[]) fun z => [mB x y pc z kc u fa en, sR z (S ++ [o.A])]) := by
  refine calls_of_AW (args := [pB x, .agg (opC o).toArray]) Tryz.func75 rfl (lBT rfl) (St ⟨w, Φ, fps [mB x y pc ks kc u fa en, sR ks S]⟩ Φ [mB x y pc ks kc u fa en, sR ks S]) h0 ?_
  show AW _ _ [] _ _ _ [(0, pB x), (1, .agg (opC o).toArray)] _
  generalize hE : fps [mB x y pc ks kc u fa en, sR ks S] = E
  repeat refine gs1 ?_
  refine RW.bxA (cs := opC o) rfl rfl fun b3 => ?_
  repeat refine gs1 ?_
  refine RW.ownU (args := #[pB x, .int .i64 (o.A)]) (C2 := [.blk b3 56 (opC o)]) [1, 2, 0] (by decide) rfl rfl oK rfl rfl (fun w1 hw1 => mpush_c w1 (o.A) (by omega) hw1) fun z => ?_
  repeat refine gs1 ?_
  exact fin_none (J' := St ⟨w, Φ, E⟩ Φ [mB x y pc z kc u fa en, sR z (S ++ [o.A]), .blk b3 56 (opC o)]) rfl rfl (fun _ h => h) (fun w1 hw1 => ⟨z, rfl, by subst hE; exact StP.sel hw1 [0, 1] (by decide) rfl⟩)
theorem ineg_c (w : World) {Φ : Hp} {v : Int} (hv : I64 v) (hb : S.length ≤ 900000000) (h0 : StP ⟨w, Φ, fps [mB x y pc ks kc u fa en, sR ks (S ++ [v])]⟩ Φ [mB x y pc ks kc u fa en, sR ks (S ++ [v])] w) :
    Calls pg 78 #[pB x, .agg (opC o).toArray] w (OwnU w Φ [mB x y pc ks kc u fa en, sR ks (S ++ [v])] (fun _ : Value => .tuple #[]) fun z => [mB x y pc z kc u fa en, sR z (S ++ [Mn.lim (0 - v)])]) := by
  refine calls_of_AW (args := [pB x, .agg (opC o).toArray]) Tryz.func78 rfl (lBT rfl) (St ⟨w, Φ, fps [mB x y pc ks kc u fa en, sR ks (S ++ [v])]⟩ Φ [mB x y pc ks kc u fa en, sR ks (S ++ [v])]) h0 ?_
  show AW _ _ [] _ _ _ [(0, pB x), (1, .agg (opC o).toArray)] _
  generalize hE : fps [mB x y pc ks kc u fa en, sR ks (S ++ [v])] = E
  repeat refine gs1 ?_
  refine RW.bxA (cs := opC o) rfl rfl fun b3 => ?_
  repeat refine gs1 ?_
  refine RW.ownU (args := #[pB x]) (C2 := [.blk b3 56 (opC o)]) [1, 2, 0] (by decide) rfl rfl oK rfl rfl (fun w1 hw1 => mpop_c (S := S) (v := v) w1 (by first | omega | (simp only [List.length_append, List.length_singleton]; omega)) hw1) fun z1 => ?_
  repeat refine gs1 ?_
  refine RW.q rfl (q_call (args := #[.int .i64 0, .int .i64 v]) oK rfl rfl (fun w1 hw1 => Sub_c w1 (hp w1) (Hp.le_refl _) (by unfold I64; omega) hv)) ?_
  repeat refine gs1 ?_
  refine RW.ownU (args := #[pB x, .int .i64 (Mn.lim (0 - v))]) (C2 := [.blk b3 56 (opC o)]) [0, 1, 2] (by decide) rfl rfl oK rfl rfl (fun w1 hw1 => mpush_c w1 (Mn.lim (0 - v)) (by omega) hw1) fun z2 => ?_
  repeat refine gs1 ?_
  exact fin_none (J' := St ⟨w, Φ, E⟩ Φ [mB x y pc z2 kc u fa en, sR z2 (S ++ [Mn.lim (0 - v)]), .blk b3 56 (opC o)]) rfl rfl (fun _ h => h) (fun w1 hw1 => ⟨z2, rfl, by subst hE; exact StP.sel hw1 [0, 1] (by decide) rfl⟩)
theorem inot_c (w : World) {Φ : Hp} {v : Int} (_ : I64 v) (hb : S.length ≤ 900000000) (h0 : StP ⟨w, Φ, fps [mB x y pc ks kc u fa en, sR ks (S ++ [v])]⟩ Φ [mB x y pc ks kc u fa en, sR ks (S ++ [v])] w) :
    Calls pg 79 #[pB x, .agg (opC o).toArray] w (OwnU w Φ [mB x y pc ks kc u fa en, sR ks (S ++ [v])] (fun _ : Value => .tuple #[]) fun z => [mB x y pc z kc u fa en, sR z (S ++ [Mn.wr (1 - v)])]) := by
  refine calls_of_AW (args := [pB x, .agg (opC o).toArray]) Tryz.func79 rfl (lBT rfl) (St ⟨w, Φ, fps [mB x y pc ks kc u fa en, sR ks (S ++ [v])]⟩ Φ [mB x y pc ks kc u fa en, sR ks (S ++ [v])]) h0 ?_
  show AW _ _ [] _ _ _ [(0, pB x), (1, .agg (opC o).toArray)] _
  generalize hE : fps [mB x y pc ks kc u fa en, sR ks (S ++ [v])] = E
  repeat refine gs1 ?_
  refine RW.bxA (cs := opC o) rfl rfl fun b3 => ?_
  repeat refine gs1 ?_
  refine RW.ownU (args := #[pB x]) (C2 := [.blk b3 56 (opC o)]) [1, 2, 0] (by decide) rfl rfl oK rfl rfl (fun w1 hw1 => mpop_c (S := S) (v := v) w1 (by first | omega | (simp only [List.length_append, List.length_singleton]; omega)) hw1) fun z1 => ?_
  repeat refine gs1 ?_
  refine RW.q (v := .int .i64 (Mn.wr (1 - v))) rfl (q_subW rfl rfl) ?_
  repeat refine gs1 ?_
  refine RW.ownU (args := #[pB x, .int .i64 (Mn.wr (1 - v))]) (C2 := [.blk b3 56 (opC o)]) [0, 1, 2] (by decide) rfl rfl oK rfl rfl (fun w1 hw1 => mpush_c w1 (Mn.wr (1 - v)) (by omega) hw1) fun z2 => ?_
  repeat refine gs1 ?_
  exact fin_none (J' := St ⟨w, Φ, E⟩ Φ [mB x y pc z2 kc u fa en, sR z2 (S ++ [Mn.wr (1 - v)]), .blk b3 56 (opC o)]) rfl rfl (fun _ h => h) (fun w1 hw1 => ⟨z2, rfl, by subst hE; exact StP.sel hw1 [0, 1] (by decide) rfl⟩)
theorem ijmp_c (w : World) {Φ : Hp} {n : Nat} (hn : o.A = n) (h0 : StP ⟨w, Φ, fps [mB x y pc ks kc u fa en]⟩ Φ [mB x y pc ks kc u fa en] w) :
    Calls pg 82 #[pB x, .agg (opC o).toArray] w (OwnU w Φ [mB x y pc ks kc u fa en] (fun _ : Unit => .tuple #[]) fun _ => [mB x y n ks kc u fa en]) := by
  obtain ⟨k, m, a⟩ := o
  simp only at hn
  subst hn
  refine calls_of_AW (args := [pB x, .agg (opC ⟨k, (n : Int), a⟩).toArray]) Tryz.func82 rfl (lBT rfl) (St ⟨w, Φ, fps [mB x y pc ks kc u fa en]⟩ Φ [mB x y pc ks kc u fa en]) h0 ?_
  show AW _ _ [] _ _ _ [(0, pB x), (1, .agg (opC ⟨k, (n : Int), a⟩).toArray)] _
  generalize hE : fps [mB x y pc ks kc u fa en] = E
  repeat refine gs1 ?_
  refine RW.bxA (cs := [.int .i64 k, .int .i64 (n : Int), .int .i64 a]) rfl rfl fun b3 => ?_
  repeat refine gs1 ?_
  exact fin_none (J' := St ⟨w, Φ, E⟩ Φ [.blk b3 56 ([.int .i64 k, .int .i64 (n : Int), .int .i64 a]), mB x y n ks kc u fa en]) rfl rfl (fun _ h => h) (fun w1 hw1 => ⟨(), rfl, by subst hE; exact StP.sel hw1 [1] (by decide) rfl⟩)
theorem ijf_c (w : World) {Φ : Hp} {v : Int} {n : Nat} (hn : v = 0 → o.A = n) (hb : S.length ≤ 900000000) (h0 : StP ⟨w, Φ, fps [mB x y pc ks kc u fa en, sR ks (S ++ [v])]⟩ Φ [mB x y pc ks kc u fa en, sR ks (S ++ [v])] w) :
    Calls pg 83 #[pB x, .agg (opC o).toArray] w (OwnU w Φ [mB x y pc ks kc u fa en, sR ks (S ++ [v])] (fun _ : Value => .tuple #[]) fun z => [mB x y (if v = 0 then n else pc) z kc u fa en, sR z S]) := by
  obtain ⟨k, m, a⟩ := o
  simp only at hn
  refine calls_of_AW (args := [pB x, .agg (opC ⟨k, m, a⟩).toArray]) Tryz.func83 rfl (lBT rfl) (St ⟨w, Φ, fps [mB x y pc ks kc u fa en, sR ks (S ++ [v])]⟩ Φ [mB x y pc ks kc u fa en, sR ks (S ++ [v])]) h0 ?_
  show AW _ _ [] _ _ _ [(0, pB x), (1, .agg (opC ⟨k, m, a⟩).toArray)] _
  generalize hE : fps [mB x y pc ks kc u fa en, sR ks (S ++ [v])] = E
  repeat refine gs1 ?_
  refine RW.bxA (cs := [.int .i64 k, .int .i64 m, .int .i64 a]) rfl rfl fun b3 => ?_
  repeat refine gs1 ?_
  refine RW.ownU (args := #[pB x]) (C2 := [.blk b3 56 ([.int .i64 k, .int .i64 m, .int .i64 a])]) [1, 2, 0] (by decide) rfl rfl oK rfl rfl (fun w1 hw1 => mpop_c (S := S) (v := v) w1 (by first | omega | (simp only [List.length_append, List.length_singleton]; omega)) hw1) fun z1 => ?_
  repeat refine gs1 ?_
  refine AW.cond rfl (fun h => ?_) fun h => ?_
  · have h : v = 0 := odT h
    obtain rfl := hn h
    repeat refine gs1 ?_
    exact fin_none (J' := St ⟨w, Φ, E⟩ Φ [mB x y n z1 kc u fa en, sR z1 S, .blk b3 56 ([.int .i64 k, .int .i64 (n : Int), .int .i64 a])]) rfl rfl (fun _ h => h) (fun w1 hw1 => ⟨z1, rfl, by subst hE; show StP _ Φ [mB x y (if v = 0 then n else pc) z1 kc u fa en, sR z1 S] w1; rw [if_pos h]; exact StP.sel hw1 [0, 1] (by decide) rfl⟩)
  · have h : ¬ v = 0 := odF h
    repeat refine gs1 ?_
    exact fin_none (J' := St ⟨w, Φ, E⟩ Φ [mB x y pc z1 kc u fa en, sR z1 S, .blk b3 56 ([.int .i64 k, .int .i64 m, .int .i64 a])]) rfl rfl (fun _ h => h) (fun w1 hw1 => ⟨z1, rfl, by subst hE; show StP _ Φ [mB x y (if v = 0 then n else pc) z1 kc u fa en, sR z1 S] w1; rw [if_neg h]; exact StP.sel hw1 [0, 1] (by decide) rfl⟩)
theorem ijt_c (w : World) {Φ : Hp} {v : Int} {n : Nat} (hn : v = 1 → o.A = n) (hb : S.length ≤ 900000000) (h0 : StP ⟨w, Φ, fps [mB x y pc ks kc u fa en, sR ks (S ++ [v])]⟩ Φ [mB x y pc ks kc u fa en, sR ks (S ++ [v])] w) :
    Calls pg 84 #[pB x, .agg (opC o).toArray] w (OwnU w Φ [mB x y pc ks kc u fa en, sR ks (S ++ [v])] (fun _ : Value => .tuple #[]) fun z => [mB x y (if v = 1 then n else pc) z kc u fa en, sR z S]) := by
  obtain ⟨k, m, a⟩ := o
  simp only at hn
  refine calls_of_AW (args := [pB x, .agg (opC ⟨k, m, a⟩).toArray]) Tryz.func84 rfl (lBT rfl) (St ⟨w, Φ, fps [mB x y pc ks kc u fa en, sR ks (S ++ [v])]⟩ Φ [mB x y pc ks kc u fa en, sR ks (S ++ [v])]) h0 ?_
  show AW _ _ [] _ _ _ [(0, pB x), (1, .agg (opC ⟨k, m, a⟩).toArray)] _
  generalize hE : fps [mB x y pc ks kc u fa en, sR ks (S ++ [v])] = E
  repeat refine gs1 ?_
  refine RW.bxA (cs := [.int .i64 k, .int .i64 m, .int .i64 a]) rfl rfl fun b3 => ?_
  repeat refine gs1 ?_
  refine RW.ownU (args := #[pB x]) (C2 := [.blk b3 56 ([.int .i64 k, .int .i64 m, .int .i64 a])]) [1, 2, 0] (by decide) rfl rfl oK rfl rfl (fun w1 hw1 => mpop_c (S := S) (v := v) w1 (by first | omega | (simp only [List.length_append, List.length_singleton]; omega)) hw1) fun z1 => ?_
  repeat refine gs1 ?_
  refine AW.cond rfl (fun h => ?_) fun h => ?_
  · have h : v = 1 := odT h
    obtain rfl := hn h
    repeat refine gs1 ?_
    exact fin_none (J' := St ⟨w, Φ, E⟩ Φ [mB x y n z1 kc u fa en, sR z1 S, .blk b3 56 ([.int .i64 k, .int .i64 (n : Int), .int .i64 a])]) rfl rfl (fun _ h => h) (fun w1 hw1 => ⟨z1, rfl, by subst hE; show StP _ Φ [mB x y (if v = 1 then n else pc) z1 kc u fa en, sR z1 S] w1; rw [if_pos h]; exact StP.sel hw1 [0, 1] (by decide) rfl⟩)
  · have h : ¬ v = 1 := odF h
    repeat refine gs1 ?_
    exact fin_none (J' := St ⟨w, Φ, E⟩ Φ [mB x y pc z1 kc u fa en, sR z1 S, .blk b3 56 ([.int .i64 k, .int .i64 m, .int .i64 a])]) rfl rfl (fun _ h => h) (fun w1 hw1 => ⟨z1, rfl, by subst hE; show StP _ Φ [mB x y (if v = 1 then n else pc) z1 kc u fa en, sR z1 S] w1; rw [if_neg h]; exact StP.sel hw1 [0, 1] (by decide) rfl⟩)
theorem iend_c (w : World) {Φ : Hp}  (h0 : StP ⟨w, Φ, fps [mB x y pc ks kc u fa en]⟩ Φ [mB x y pc ks kc u fa en] w) :
    Calls pg 89 #[pB x, .agg (opC o).toArray] w (OwnU w Φ [mB x y pc ks kc u fa en] (fun _ : Unit => .tuple #[]) fun _ => [mB x y pc ks kc u fa true]) := by
  refine calls_of_AW (args := [pB x, .agg (opC o).toArray]) Tryz.func89 rfl (lBT rfl) (St ⟨w, Φ, fps [mB x y pc ks kc u fa en]⟩ Φ [mB x y pc ks kc u fa en]) h0 ?_
  show AW _ _ [] _ _ _ [(0, pB x), (1, .agg (opC o).toArray)] _
  generalize hE : fps [mB x y pc ks kc u fa en] = E
  repeat refine gs1 ?_
  refine RW.bxA (cs := opC o) rfl rfl fun b3 => ?_
  repeat refine gs1 ?_
  exact fin_none (J' := St ⟨w, Φ, E⟩ Φ [.blk b3 56 (opC o), mB x y pc ks kc u fa true]) rfl rfl (fun _ h => h) (fun w1 hw1 => ⟨(), rfl, by subst hE; exact StP.sel hw1 [1] (by decide) rfl⟩)
theorem ibin_c (w : World) {Φ : Hp} {v1 v2 : Int} (h1 : I64 v1) (h2 : I64 v2) (hb : S.length ≤ 900000000) (h0 : StP ⟨w, Φ, fps [mB x y pc ks kc u fa en, sR ks ((S ++ [v1]) ++ [v2])]⟩ Φ [mB x y pc ks kc u fa en, sR ks ((S ++ [v1]) ++ [v2])] w) :
    Calls pg 80 #[pB x, .agg (opC o).toArray] w (OwnU w Φ [mB x y pc ks kc u fa en, sR ks ((S ++ [v1]) ++ [v2])] (fun _ : Value => .tuple #[]) fun z => [mB x y pc z kc u fa en, sR z (S ++ [op2T o.Kind v1 v2])]) := by
  refine calls_of_AW (args := [pB x, .agg (opC o).toArray]) Tryz.func80 rfl (lBT rfl) (St ⟨w, Φ, fps [mB x y pc ks kc u fa en, sR ks ((S ++ [v1]) ++ [v2])]⟩ Φ [mB x y pc ks kc u fa en, sR ks ((S ++ [v1]) ++ [v2])]) h0 ?_
  show AW _ _ [] _ _ _ [(0, pB x), (1, .agg (opC o).toArray)] _
  generalize hE : fps [mB x y pc ks kc u fa en, sR ks ((S ++ [v1]) ++ [v2])] = E
  repeat refine gs1 ?_
  refine RW.bxA (cs := opC o) rfl rfl fun b3 => ?_
  repeat refine gs1 ?_
  refine RW.ownU (args := #[pB x]) (C2 := [.blk b3 56 (opC o)]) [1, 2, 0] (by decide) rfl rfl oK rfl rfl (fun w1 hw1 => mpop_c (S := S ++ [v1]) (v := v2) w1 (by first | omega | (simp only [List.length_append, List.length_singleton]; omega)) hw1) fun z1 => ?_
  repeat refine gs1 ?_
  refine AW.drawZ (J0 := St ⟨w, Φ, E⟩ Φ [.blk b3 56 (opC o)]) [.q, .q, .q, .q, .q, .e, .q, .e] [0, 1, 2, 3, 5, 4, 6, 7] hmix (by kernel_rfl) ?_
  refine DW.q (fun _ h => StP.sel h [2] (by decide) rfl) rfl (q_move rfl) ?_
  refine DW.q (fun _ h => StP.sel h [2] (by decide) rfl) rfl (qa_fa0 rfl) ?_
  refine DW.q (fun _ h => StP.sel h [2] (by decide) rfl) rfl (qa_ld rfl (Cell.blk 0 rfl rfl)) ?_
  refine DW.q (fun _ h => StP.sel h [2] (by decide) rfl) rfl (q_move rfl) ?_
  refine DW.q (fun _ h => StP.sel h [2] (by decide) rfl) rfl (q_move rfl) ?_
  refine DW.ownU (args := #[pB x]) (C2 := [.blk b3 56 (opC o)]) [0, 1, 2] (by decide) rfl rfl oK rfl rfl (fun w1 hw1 => mpop_c (S := S) (v := v1) w1 (by omega) hw1) (fun z w1 hw1 => StP.sel hw1 [2] (by decide) rfl) fun z2 => ?_
  refine DW.q (fun _ h => StP.sel h [2] (by decide) rfl) rfl (q_call (args := #[.int .i64 o.Kind, .int .i64 v1, .int .i64 v2]) oK rfl rfl (fun w1 hw1 => voperate_c w1 h1 h2)) ?_
  refine DW.ownU (args := #[pB x, .int .i64 (op2T o.Kind v1 v2)]) (C2 := [.blk b3 56 (opC o)]) [0, 1, 2] (by decide) rfl rfl oK rfl rfl (fun w1 hw1 => mpush_c w1 (op2T o.Kind v1 v2) (by omega) hw1) (fun z w1 hw1 => StP.sel hw1 [2] (by decide) rfl) fun z3 => ?_
  repeat refine gs1 ?_
  exact fin_none (J' := St ⟨w, Φ, E⟩ Φ [mB x y pc z3 kc u fa en, sR z3 (S ++ [op2T o.Kind v1 v2]), .blk b3 56 (opC o)]) rfl rfl (fun _ h => h) (fun w1 hw1 => ⟨z3, rfl, by subst hE; exact StP.sel hw1 [0, 1] (by decide) rfl⟩)
abbrev divK (x pc : Nat) (y : MnV) (z kc : Value) (u fa : Int) (en : Bool) (S : List Int) (v1 v2 : Int) : List Chunk := if v2 = 0 then [mB x y pc z kc u 1 true, sR z S] else [mB x y pc z kc u fa en, sR z (S ++ [Mn.lim (v1.tdiv v2)])]
theorem tdiv_rng {x y : Int} (hx : I64 x) (h0 : y ≠ 0) (hm : ¬ (x = -9223372036854775808 ∧ y = -1)) : -9223372036854775808 ≤ x.tdiv y ∧ x.tdiv y ≤ 9223372036854775807 := by
  unfold I64 at hx
  have hdl := tdiv_le x y
  by_cases hx0 : x = -9223372036854775808
  · have hy1 : y ≠ -1 := fun hh => hm ⟨hx0, hh⟩
    refine ⟨by omega, ?_⟩
    by_cases hyp : 0 < y
    · have h1 : x.tdiv y ≤ 0 := by
        rw [hx0, Int.neg_tdiv]
        have := Int.tdiv_nonneg (a := 9223372036854775808) (b := y) (by omega) (by omega)
        omega
      omega
    · have h2 : (x.tdiv y).natAbs = x.natAbs / y.natAbs := Int.natAbs_tdiv x y
      have h3 : x.natAbs / y.natAbs ≤ x.natAbs / 2 := Nat.div_le_div_left (by omega) (by omega)
      omega
  · omega
theorem idiv_c (w : World) {Φ : Hp} {v1 v2 : Int} (h1 : I64 v1) (_ : I64 v2) (hb : S.length ≤ 900000000) (h0 : StP ⟨w, Φ, fps [mB x y pc ks kc u fa en, sR ks ((S ++ [v1]) ++ [v2])]⟩ Φ [mB x y pc ks kc u fa en, sR ks ((S ++ [v1]) ++ [v2])] w) :
    Calls pg 81 #[pB x, .agg (opC o).toArray] w (OwnU w Φ [mB x y pc ks kc u fa en, sR ks ((S ++ [v1]) ++ [v2])] (fun _ : Value => .tuple #[]) fun z => divK x pc y z kc u fa en S v1 v2) := by
  refine calls_of_AW (args := [pB x, .agg (opC o).toArray]) Tryz.func81 rfl (lBT rfl) (St ⟨w, Φ, fps [mB x y pc ks kc u fa en, sR ks ((S ++ [v1]) ++ [v2])]⟩ Φ [mB x y pc ks kc u fa en, sR ks ((S ++ [v1]) ++ [v2])]) h0 ?_
  show AW _ _ [] _ _ _ [(0, pB x), (1, .agg (opC o).toArray)] _
  generalize hE : fps [mB x y pc ks kc u fa en, sR ks ((S ++ [v1]) ++ [v2])] = E
  repeat refine gs1 ?_
  refine RW.bxA (cs := opC o) rfl rfl fun b3 => ?_
  repeat refine gs1 ?_
  refine RW.ownU (args := #[pB x]) (C2 := [.blk b3 56 (opC o)]) [1, 2, 0] (by decide) rfl rfl oK rfl rfl (fun w1 hw1 => mpop_c (S := S ++ [v1]) (v := v2) w1 (by first | omega | (simp only [List.length_append, List.length_singleton]; omega)) hw1) fun z1 => ?_
  repeat refine gs1 ?_
  refine RW.ownU (args := #[pB x]) (C2 := [.blk b3 56 (opC o)]) [0, 1, 2] (by decide) rfl rfl oK rfl rfl (fun w1 hw1 => mpop_c (S := S) (v := v1) w1 (by first | omega | (simp only [List.length_append, List.length_singleton]; omega)) hw1) fun z2 => ?_
  repeat refine gs1 ?_
  refine AW.cond rfl (fun h => ?_) fun hz => ?_
  · have h : v2 = 0 := odT h
    repeat refine gs1 ?_
    refine RW.ownU (args := #[pB x, .int .i64 1]) (C2 := [sR z2 S, .blk b3 56 (opC o)]) [0, 1, 2] (by decide) rfl rfl oK rfl rfl (fun w1 hw1 => mstop_c w1 1 hw1) fun _ => ?_
    repeat refine gs1 ?_
    exact fin_none (J' := St ⟨w, Φ, E⟩ Φ [mB x y pc z2 kc u 1 true, sR z2 S, .blk b3 56 (opC o)]) rfl rfl (fun _ h => h) (fun w1 hw1 => ⟨z2, rfl, by subst hE; show StP _ Φ (divK x pc y z2 kc u fa en S v1 v2) w1; unfold divK; rw [if_pos h]; exact StP.sel hw1 [0, 1] (by decide) rfl⟩)
  have hz : v2 ≠ 0 := odF hz
  repeat refine gs1 ?_
  refine RW.q (v := .bool (decide (v1 = -9223372036854775808) && decide (v2 = -1))) rfl (qpA rfl rfl rfl) ?_
  repeat refine gs1 ?_
  refine AW.cond rfl (fun h => ?_) fun h => ?_
  · have h : v1 = -9223372036854775808 ∧ v2 = -1 := by simpa using h
    repeat refine gs1 ?_
    refine RW.ownU (args := #[pB x, .int .i64 (9223372036854775807)]) (C2 := [.blk b3 56 (opC o)]) [0, 1, 2] (by decide) rfl rfl oK rfl rfl (fun w1 hw1 => mpush_c w1 (9223372036854775807) (by omega) hw1) fun z3 => ?_
    repeat refine gs1 ?_
    exact fin_none (J' := St ⟨w, Φ, E⟩ Φ [mB x y pc z3 kc u fa en, sR z3 (S ++ [9223372036854775807]), .blk b3 56 (opC o)]) rfl rfl (fun _ h => h) (fun w1 hw1 => ⟨z3, rfl, by subst hE; show StP _ Φ (divK x pc y z3 kc u fa en S v1 v2) w1; unfold divK; rw [if_neg hz, h.1, h.2]; exact StP.sel hw1 [0, 1] (by decide) rfl⟩)
  · have h : ¬ (v1 = -9223372036854775808 ∧ v2 = -1) := by simpa using h
    have hr := tdiv_rng h1 hz h
    repeat refine gs1 ?_
    refine RW.q rfl (q_quo rfl rfl hz rfl hr) ?_
    repeat refine gs1 ?_
    refine RW.ownU (args := #[pB x, .int .i64 (v1.tdiv v2)]) (C2 := [.blk b3 56 (opC o)]) [0, 1, 2] (by decide) rfl rfl oK rfl rfl (fun w1 hw1 => mpush_c w1 (v1.tdiv v2) (by omega) hw1) fun z3 => ?_
    repeat refine gs1 ?_
    exact fin_none (J' := St ⟨w, Φ, E⟩ Φ [mB x y pc z3 kc u fa en, sR z3 (S ++ [v1.tdiv v2]), .blk b3 56 (opC o)]) rfl rfl (fun _ h => h) (fun w1 hw1 => ⟨z3, rfl, by subst hE; show StP _ Φ (divK x pc y z3 kc u fa en S v1 v2) w1; unfold divK; rw [if_neg hz, show Mn.lim (v1.tdiv v2) = v1.tdiv v2 by unfold Mn.lim Mn.mn Mn.mx; rw [if_neg (by omega), if_neg (by omega)]]; exact StP.sel hw1 [0, 1] (by decide) rfl⟩)
theorem evR.less {w w' : World} {Φ Ψ : Hp} {x : Nat} {y : RnV} {u c v u' : Int} {res : Mn.R Int} (h : res = .ok (v, u')) {C : List Chunk} (hl : Hp.le Φ Ψ) (hw : StP ⟨w, Φ, fps [rB x y u c]⟩ Ψ (rB x y u' c :: C) w') : evR w Φ x y u c res (.returned (iV v)) w' := evR.ok h (StP.less hw hl)
theorem funV {Φ : Hp} {xs : List Bt.RFunc} {v : Value} (h : RepSl Φ xs v) {i : Nat} (hi : i < xs.length) : ∃ A c, PCells Φ (Value.at v (i * 8 + 3)) (exC (xs.getD i default).Body (.slice A (xs.getD i default).Body.Kids.length c)) ∧ RepSl Φ (xs.getD i default).Body.Kids (.slice A (xs.getD i default).Body.Kids.length c) := by
 obtain ⟨cs, h1, h2⟩ := h.at_ i hi
 obtain ⟨pv, kv, rfl, _, _, _, h3, h4⟩ := h1
 obtain ⟨A, c, rfl, _⟩ := h4.sl
 have he : xs[i] = xs.getD i default := by rw [gDD, List.getElem?_eq_getElem hi]; rfl
 rw [he] at h2 h4
 refine ⟨A, c, fun q u hq => ?_, h4⟩
 rw [at_add, Nat.add_assoc]
 refine h2 (3 + q) u ?_
 rw [Nat.add_comm 3 q]
 exact hq
section
variable {e : Ru.Env} {fs : List Bt.RFunc} {f : Bt.Facts} {x : Nat} {y : RnV}
theorem mcall_of {g : Nat} (ih : EvOK e fs f x y g) (Φ : Hp) (X : Bt.Expr) (v : Value) (w : World) (j : Nat) (ts ps : List Int) (pv : Value) (u c : Int) (hC : ECtx Φ e fs f y) (hv : RepSl Φ X.Kids v) (hk14 : X.Kind = 14) (hj : (Ru.jx e fs ts (j + 1) X).2 = true) (hlen : ps.length = ts.length) (hpv : RepSl Φ ps pv) (hu : 0 ≤ u) (hc0 : 0 ≤ c) (hc1 : c ≤ 100) (hlim : (j : Int) + 41 * (101 - c) ≤ g)
  (h0 : StP ⟨w, Φ, fps [rB x y u c]⟩ Φ [rB x y u c] w) : Calls pg 108 #[pB x, .agg (exC X v).toArray, pv] w (evR w Φ x y u c (Mn.ev fs f y.d (g + 1) c X ps u)) := by
 have hn := Ru.jx_node hj
 have hkj := Ru.jx_kid hj
 have hpi := hpv.i64
 have hI : ∀ z ∈ X.Kids, ∀ u v u', Mn.ev fs f y.d g c z ps u = .ok (v, u') → I64 v ∧ u ≤ u' := fun z hz u v u' h => Mn.ev_rng hC.J hC.F g (hkj z hz) hlen hpi h
 obtain ⟨h14a, h14b, h14c⟩ := hn.k14 hk14
 obtain ⟨m, hm⟩ : ∃ m : Nat, X.N = m := ⟨X.N.toNat, by omega⟩
 rw [hm, Int.toNat_natCast] at h14c
 have hml : m < fs.length := by omega
 have hxm := hv.max
 have hxb : X.Kids.length * 56 ≤ maxSl := hxm
 simp only [maxSl] at hxb
 obtain ⟨vA, vc, rfl, _⟩ := hv.sl
 have hvs := hv.sl
 have hfs := hC.rf.sl
 have hev : Mn.ev fs f y.d (g + 1) c X ps u = Mn.bnd (Mn.evs (fun z u => Mn.ev fs f y.d g c z ps u) X.Kids u) fun vs u => if 10000 ≤ u then .error (14, u) else if 100 ≤ c then .error (8, u + 1) else Mn.ev fs f y.d g (c + 1) (fs.getD m default).Body vs (u + 1) := by
  rw [Mn.ev, if_neg (by omega), if_neg (by omega), if_neg (by omega), if_neg (by omega), if_neg (by omega), if_neg (by omega), if_neg (by omega), if_neg (by omega), if_pos hk14, hm, Int.toNat_natCast]
 generalize hres : Mn.ev fs f y.d (g + 1) c X ps u = res
 rw [hres] at hev
 refine calls_of_AW (args := [pB x, .agg (exC X (.slice vA X.Kids.length vc)).toArray, pv]) Tryz.func108 rfl (lBT rfl) (St ⟨w, Φ, fps [rB x y u c]⟩ Φ [rB x y u c]) h0 ?_
 show AW _ _ [] _ _ _ [(0, pB x), (1, .agg (exC X (.slice vA X.Kids.length vc)).toArray), (2, pv)] _
 repeat refine gs1 ?_
 refine RW.bxA (cs := exC X (.slice vA X.Kids.length vc)) rfl rfl fun b4 => ?_
 repeat refine gs1 ?_
 refine RW.eff _ _ rfl (e_makeSlice (l := 0) (c := X.Kids.length) (n := 0) (xs := []) rfl rfl uT29 inf3 (by omega) (by omega) (by omega) rfl rfl) fun bk => ?_
 repeat refine gs1 ?_
 refine AW.loop (fun s J q => ∃ (i : Nat) (vals : List Int) (u1 : Int) (kv : Value), s = [(0, pB x), (2, pv), (4, pB b4), (7, kv), (16, .slice vA X.Kids.length vc), (17, iV (X.Kids.length : Int)), (18, iV (i : Int))] ∧ J = St ⟨w, Φ, fps [rB x y u c]⟩ Φ [.row kv 3 1 i (vals.map (Value.int .i64)), .blk b4 59 (exC X (.slice vA X.Kids.length vc)), rB x y u1 c] ∧ q = X.Kids.length - i ∧ i ≤ X.Kids.length ∧ IsSl kv i ∧ Mn.evs (fun z u => Mn.ev fs f y.d g c z ps u) (X.Kids.take i) u = .ok (vals, u1)) (s0 := [(0, pB x), (2, pv), (4, pB b4), (7, .slice (some ⟨bk, 0, none⟩) 0 X.Kids.length), (16, .slice vA X.Kids.length vc), (17, iV (X.Kids.length : Int)), (18, iV ((0 : Nat) : Int))]) (J1 := _) (m0 := _) ⟨0, [], u, .slice (some ⟨bk, 0, none⟩) 0 X.Kids.length, rfl, rfl, rfl, Nat.zero_le _, isSl_mk (Nat.zero_le _), rfl⟩ ⟨rfl, rfl, rfl, rfl, rfl, rfl, rfl, trivial⟩ (fun _ h => h) ?_
 rintro _ _ _ _ ⟨i, vals, u1, kv, rfl, rfl, rfl, hi, hkv, he1⟩
 obtain ⟨r1, r2, r3⟩ := Mn.evs_rng (fun z hz => hI z (List.mem_of_mem_take hz)) he1
 rw [List.length_take, Nat.min_eq_left hi] at r1
 obtain ⟨kA, kc, rfl, _⟩ := hkv
 repeat refine gs1 ?_
 refine AW.cond rfl (fun h => ?_) fun h => ?_
 ·
  have h : i < X.Kids.length := by have := odT h; omega
  obtain ⟨Aa, ca, hpa, hra⟩ := kidV hv (i := i) h
  change PCells Φ _ (exC (Mn.kid X i) (.slice Aa (Mn.kid X i).Kids.length ca)) at hpa
  change RepSl Φ (Mn.kid X i).Kids (.slice Aa (Mn.kid X i).Kids.length ca) at hra
  have htk : X.Kids.take (i + 1) = X.Kids.take i ++ [Mn.kid X i] := by rw [Ru.take_snoc h, Mn.kid_get h]
  have hall : ∀ er, Mn.ev fs f y.d g c (Mn.kid X i) ps u1 = .error er → res = .error er := fun er hr => by
   have hsp : X.Kids = X.Kids.take i ++ (Mn.kid X i :: X.Kids.drop (i + 1)) := by rw [Mn.kid_get h, ← List.drop_eq_getElem_cons h, List.take_append_drop]
   rw [hev, hsp, Mn.evs_app, Mn.bnd_ok he1]
   simp only [Mn.evs, hr]; rfl
  repeat refine gs1 ?_
  refine RW.alc rfl fun b9 => ?_
  repeat refine gs1 ?_
  refine RW.own (args := #[pB x, .agg (exC (Mn.kid X i) (.slice Aa (Mn.kid X i).Kids.length ca)).toArray, pv]) (C2 := [.blk b9 59 (exC (Mn.kid X i) (.slice Aa (Mn.kid X i).Kids.length ca)), .row (.slice kA i kc) 3 1 i (vals.map (Value.int .i64)), .blk b4 59 (exC X (.slice vA X.Kids.length vc))]) [3, 0, 1, 2] (by decide) rfl rfl oK rfl rfl (fun w1 hw1 => ih Φ _ _ _ j ts ps pv _ c hC hra (hkj _ (Mn.kid_mem h)) hlen hpv (by omega) hc0 hc1 hlim hw1) (fun er CE w2 he hk hw => evR.pn (hall er he) hk hw) ?_
  rintro ⟨va, u2⟩ _ hr
  have hIa := hI _ (Mn.kid_mem h) _ _ _ hr
  simp only
  repeat refine gs1 ?_
  refine RW.eff _ _ rfl (e_buildSlice (vals := [(0, iV va)]) (cells := [iV va]) uT29 inf3 rfl rfl rfl (by kernel_rfl) rfl) fun b8 => ?_
  repeat refine gs1 ?_
  refine RW.eff (fun xv : {vq : Value // IsSl vq (i + 1)} => xv.1) (fun xv => St ⟨w, Φ, fps [rB x y u c]⟩ Φ [.row (.slice (some ⟨b8, 0, none⟩) 1 1) 3 1 1 [iV va], rB x y u2 c, .blk b9 59 (exC (Mn.kid X i) (.slice Aa (Mn.kid X i).Kids.length ca)), .row xv.1 3 1 (i + 1) (vals.map (Value.int .i64) ++ [iV va]), .blk b4 59 (exC X (.slice vA X.Kids.length vc))]) rfl (e_append 3 rfl rfl rfl uT29 inf3 rfl rfl rfl (Cells.row0 0 rfl) rfl (by omega) (by omega) (fun _ => rfl)) ?_
  rintro ⟨kv2, hkv2⟩
  simp only
  repeat refine gs1 ?_
  exact Post.back (s' := _) (J' := _) (m' := _) (by omega) ⟨i + 1, vals ++ [va], u2, kv2, rfl, rfl, rfl, by omega, hkv2, by rw [htk, Mn.evs_app, Mn.bnd_ok he1]; simp only [Mn.evs, hr]; rfl⟩ ⟨rfl, rfl, rfl, rfl, rfl, rfl, rfl, trivial⟩ (fun _ h => by rw [List.map_append]; exact StP.sel h [3, 4, 1] (by decide) rfl)
 ·
  have h : i = X.Kids.length := by have := odF h; omega
  subst h
  rw [List.take_length] at he1
  rw [Mn.bnd_ok he1] at hev
  repeat refine gs1 ?_
  refine RW.own (args := #[pB x]) (C2 := [.row (.slice kA X.Kids.length kc) 3 1 X.Kids.length (vals.map (Value.int .i64)), .blk b4 59 (exC X (.slice vA X.Kids.length vc))]) [2, 0, 1] (by decide) rfl rfl oK rfl rfl (fun w1 hw1 => step_c w1 (by omega) hw1) (fun er CE w2 he hk hw => ?_) ?_
  ·
   by_cases h : 10000 ≤ u1
   ·
    rw [if_pos h] at he hev
    cases he
    exact evR.pn hev hk hw
   ·
    rw [if_neg h] at he; cases he
  intro u2 _ hr
  by_cases hu1 : 10000 ≤ u1
  ·
   rw [if_pos hu1] at hr; cases hr
  rw [if_neg hu1] at hr hev
  cases hr
  refine RW.wk (J' := St ⟨w, Φ, fps [rB x y u c]⟩ Φ [.row (.slice kA X.Kids.length kc) 3 1 X.Kids.length (vals.map (Value.int .i64)), rB x y (u1 + 1) c, .blk b4 59 (exC X (.slice vA X.Kids.length vc))]) (fun _ h => StP.sel h [1, 0, 2] (by decide) rfl) (RW.frzX (fun b hb => ⟨_, List.mem_cons_self .., hb⟩) fun Φ1 hl1 hs1 => ?_)
  have hvr : RepSl Φ1 vals (.slice kA X.Kids.length kc) := RowS.ints (T := 3) hs1 (by simp only [maxSl]; omega) r2
  have hC1 := hC.mono hl1
  obtain ⟨Ab, cb, hpb, hrb⟩ := funV hC1.rf hml
  repeat refine gs1 ?_
  refine AW.cond rfl (fun h => ?_) fun h => ?_
  ·
   have h : 100 ≤ c := odT h
   rw [if_pos h] at hev
   repeat refine gs1 ?_
   refine RW.q (v := .agg #[iV 8]) rfl (q_build (vals := [(0, iV 8)]) zero125 uT125 places125 rfl rfl) ?_
   repeat refine gs1 ?_
   exact RW.pan rfl (fun w' hw => evR.pn (er := (8, u1 + 1)) (CE := [rB x y (u1 + 1) c]) hev ⟨c, rfl⟩ (StP.less hw hl1))
  have h : ¬ 100 ≤ c := odF h
  rw [if_neg h] at hev
  have hmf : fs.getD m default ∈ fs := by
   rw [gDD, List.getElem?_eq_getElem hml]
   exact List.getElem_mem _
  repeat refine gs1 ?_
  have hpre : ∀ (u c : Int) (j : Nat) (v : Value), [y.rf][j]? = some v → (y.cs u c)[j]? = some v := fun u c j v hj => by
   cases j with
   | zero => exact hj
   | succ j => cases hj
  have hJ0 : ∀ w1, (St ⟨w, Φ, fps [rB x y u c]⟩ Φ1 [rB x y (u1 + 1) (c + 1), .blk b4 59 (exC X (.slice vA X.Kids.length vc))]).p w1 → (St ⟨w, Φ, fps [rB x y u c]⟩ Φ1 [.pre x 123 [y.rf], .blk b4 59 (exC X (.slice vA X.Kids.length vc))]).p w1 := fun w1 h => StP.toPre h (hpre _ _)
  refine AW.drawZ (J0 := St ⟨w, Φ, fps [rB x y u c]⟩ Φ1 [.pre x 123 [y.rf], .blk b4 59 (exC X (.slice vA X.Kids.length vc))]) [.q, .q, .q, .q, .q, .q, .q, .q, .q, .q, .q, .q, .e, .q] [0, 1, 2, 3, 4, 5, 6, 7, 8, 9, 10, 11, 12, 13] hmix (by kernel_rfl) ?_
  repeat refine gs1 ?_
  refine DW.q (v := .pointer (some (Value.at y.rf (m * 8)))) hJ0 rfl (qa_ixN (n := fs.length) (i := m) rfl (by show Value.int .i64 X.N = _; rw [hm]) hfs hml) ?_
  repeat refine gs1 ?_
  refine DW.own (args := #[pB x, .agg (exC (fs.getD m default).Body (.slice Ab (fs.getD m default).Body.Kids.length cb)).toArray, .slice kA X.Kids.length kc]) (C2 := [.blk b4 59 (exC X (.slice vA X.Kids.length vc))]) [0, 1] (by decide) rfl rfl oK rfl rfl (fun w1 hw1 => ih Φ1 _ _ _ 40 (fs.getD m default).Params vals _ (u1 + 1) (c + 1) hC1 hrb (hC.J _ hmf) (by omega) hvr (by omega) (by omega) (by omega) (by omega) hw1) (fun er CE w2 he hk hw => evR.pn (hev.trans he) hk (StP.less hw hl1)) (fun _ _ _ h => StP.toPre h (hpre _ _)) ?_
  rintro ⟨va, u2⟩ _ hr
  simp only
  refine DW.q (v := iV va) (fun _ h => StP.toPre h (hpre _ _)) rfl (qa_as rfl) ?_
  repeat refine gs1 ?_
  exact fin_res (vs := [iV va]) rfl rfl ⟨.tmp rfl, trivial⟩ rfl (fun w1 hw1 => evR.less (hev.trans hr) hl1 (by have h := hw1; simp only [Int.add_sub_cancel] at h; exact h))
theorem eval_c : ∀ g, EvOK e fs f x y g
 | 0 => fun Φ X v w j ts ps pv u c hC hv hj hlen hpv hu hc0 hc1 hg h0 => by omega
 | g + 1 => eval_of (eval_c g) (mcall_of (eval_c g))
end
end Go.Proofs.YtjmeeofdffdpnaaGreatDoor
namespace Bt
structure Order where
  Cmds : List (Int × Int)
  Used : Int
  Fault : Int
end Bt
namespace Mn
open Bt Ru
abbrev big : Nat := 5000
def cls (fs : List RFunc) (f : Facts) (d : Dt) (ps : List Int) : List RClause → List Bool → List Int → Int → R (List Bool × List Int)
  | [], s, t, u => .ok ((s, t), u)
  | c :: cs, s, t, u =>
    if 10000 ≤ u then .error (14, u)
    else if s.getD c.Link.toNat false = true then cls fs f d ps cs s t (u + 1)
    else bnd (ev fs f d big 0 c.If [] (u + 1)) fun v u =>
      if v = 0 then cls fs f d ps cs s t u
      else bnd (ev fs f d big 0 c.To [] u) fun v u => cls fs f d ps cs (s.set c.Link.toNat true) (t.set c.Link.toNat (clampI v 0 (ps.getD c.Link.toNat 0))) u
def cmds (s : List Bool) (t : List Int) : List (Int × Int) := (List.range s.length).flatMap fun l => if s.getD l false = true then [((l : Int), t.getD l 0)] else []
def runR (ps : List Int) (r : Rule) (f : Facts) : Order := match cls r.Funcs f (dateOf f.Hour).1 ps r.Clauses (List.replicate ps.length false) (List.replicate ps.length 0) 0 with
  | .error e => ⟨[], e.2, e.1⟩
  | .ok ((s, t), u) => ⟨cmds s t, u, 0⟩
def run (e : Env) (ps : List Int) (r : Rule) (f : Facts) : Order := if rightR e r = true then runR ps r f else ⟨[], 0, 1⟩
theorem clampI_i {n lo hi : Int} (h1 : Go.K.I64 n) (h2 : Go.K.I64 lo) (h3 : Go.K.I64 hi) : Go.K.I64 (clampI n lo hi) := by
  unfold clampI; split
  · exact h2
  · split
    · exact h3
    · exact h1
end Mn
namespace Go.Proofs.YtjmeeofdffdpnaaGreatDoor
open Go Go.K Go.RowKit
attribute [local irreducible] AW RW DW Post Qt
theorem isName_c (w : World) (Φ : Hp) (hΦ : Hp.le Φ (hp w)) {l : List UInt8} (hl : l.length ≤ maxLen) :
  Calls pg 45 #[.string (bs l)] w fun e w' => e = .returned (.bool (Ru.isNm l)) ∧ Bel w.heap.size w w' := by
 refine calls_of_AW (args := [.string (bs l)]) Tryz.func45 rfl (lBT rfl) (St ⟨w, Φ, []⟩ Φ []) (StP.init w Φ hΦ []) ?_
 show AW pg 54 [] _ _ _ [(0, .string (bs l))] _
 simp only [maxLen] at hl
 refine g9 ?_
 refine RW.q (v := .bool (decide (l = ([] : List UInt8)))) rfl (q_eqlStr (l := l) (r := ([] : List UInt8)) rfl rfl) ?_
 refine g2 ?_
 refine RW.g (b := (decide (l = ([] : List UInt8)))) (v := iV (l.length : Int)) rfl rfl rfl (fun h => q_lenS (l := l) (gv_pos h) uT9) ?_
 refine g1 ?_
 refine RW.q (v := .bool ((decide (l = ([] : List UInt8))) || (decide ((24 : Int) < (l.length : Int))))) rfl (qpO rfl rfl rfl) ?_
 refine g2 ?_
 refine AW.cond rfl (fun hc1 => ?_) fun hc1 => ?_
 ·
  refine g7 ?_
  exact fin_val (v' := .bool false) rfl rfl rfl (congrArg Value.bool (Ru.isNm_0 hc1).symm)
 ·
  refine g6 ?_
  refine RW.q (v := iV (l.length : Int)) rfl (q_lenS (l := l) rfl uT9) ?_
  refine g4 ?_
  refine AW.loop (fun s J m => ∃ (i : Nat), s = [(0, .string (bs l)), (14, iV (l.length : Int)), (15, iV (i : Int))] ∧ J = St ⟨w, Φ, []⟩ Φ [] ∧ m = l.length - i ∧ (i ≤ l.length) ∧ ((List.range i).all (fun j => Ru.nmAt j (l.getD j 0)) = true)) (s0 := _) (J1 := _) (m0 := _) ⟨0, rfl, rfl, rfl, (Nat.zero_le _), rfl⟩ ⟨rfl, rfl, rfl, trivial⟩ (fun _ h => h) ?_
  rintro _ _ _ _ ⟨i, rfl, rfl, rfl, hil, hE⟩
  refine g6 ?_
  refine AW.cond rfl (fun hc2 => ?_) fun hc2 => ?_
  ·
   simp [-List.getD_eq_getElem?_getD] at hc2
   refine g14 ?_
   refine RW.q (v := .int .u8 (((l.getD i 0).toNat : Nat) : Int)) rfl (q_indexS (l := l) (i := (i : Int)) rfl rfl uT9 (by omega) (by omega)) ?_
   refine g6 ?_
   refine RW.q (v := .bool (decide (((97 : Nat) : Int) ≤ (((l.getD i 0).toNat : Nat) : Int)))) rfl (q_leq (a := ((97 : Nat) : Int)) (b := (((l.getD i 0).toNat : Nat) : Int)) rfl rfl) ?_
   refine g2 ?_
   refine RW.g (b := (decide (((97 : Nat) : Int) ≤ (((l.getD i 0).toNat : Nat) : Int)))) (v := .bool (decide ((((l.getD i 0).toNat : Nat) : Int) ≤ ((122 : Nat) : Int)))) rfl rfl rfl (fun h => q_leq (a := (((l.getD i 0).toNat : Nat) : Int)) (b := ((122 : Nat) : Int)) (gv_pos h) rfl) (RW.q (v := .bool (loA l i)) rfl (qpA rfl rfl rfl) ?_)
   refine g2 ?_
   refine RW.g (b := (loA l i)) (v := .bool (decide (((65 : Nat) : Int) ≤ (((l.getD i 0).toNat : Nat) : Int)))) rfl rfl rfl (fun h => q_leq (a := ((65 : Nat) : Int)) (b := (((l.getD i 0).toNat : Nat) : Int)) rfl (gv_pos h)) ?_
   refine g1 ?_
   refine RW.g2 (b1 := (loA l i)) (b2 := (decide (((65 : Nat) : Int) ≤ (((l.getD i 0).toNat : Nat) : Int)))) (v := .int .u8 (((l.getD i 0).toNat : Nat) : Int)) rfl rfl rfl (fun hg1 hg2 => q_move rfl) (RW.g2 (b1 := (loA l i)) (b2 := (decide (((65 : Nat) : Int) ≤ (((l.getD i 0).toNat : Nat) : Int)))) (v := .bool (decide ((((l.getD i 0).toNat : Nat) : Int) ≤ ((90 : Nat) : Int)))) rfl rfl rfl (fun hg1 hg2 => q_leq (a := (((l.getD i 0).toNat : Nat) : Int)) (b := ((90 : Nat) : Int)) ((gv_pos hg1).trans (gv_pos hg2)) rfl) (RW.g (b := (loA l i)) (v := .bool (upA l i)) rfl rfl rfl (fun h => q_pick (gv_pos h) (fun hp => (gv_pos h).trans ((gv_pos hp).trans (pkAndT hp))) (fun hp => pkAndF hp)) (RW.q (v := .bool ((loA l i) || (upA l i))) rfl (qpO rfl rfl rfl) ?_)))
   refine g11 ?_
   refine RW.g2 (b1 := (!((loA l i) || (upA l i)))) (b2 := (decide ((i : Int) = 0))) (v := .int .u8 (((l.getD i 0).toNat : Nat) : Int)) rfl rfl rfl (fun hg1 hg2 => q_move rfl) (RW.g2 (b1 := (!((loA l i) || (upA l i)))) (b2 := (decide ((i : Int) = 0))) (v := .bool (!decide ((((l.getD i 0).toNat : Nat) : Int) = ((95 : Nat) : Int)))) rfl rfl rfl (fun hg1 hg2 => q_neq (a := (((l.getD i 0).toNat : Nat) : Int)) (b := ((95 : Nat) : Int)) ((gv_pos hg1).trans (gv_pos hg2)) rfl) (RW.g2 (b1 := (!((loA l i) || (upA l i)))) (b2 := (decide ((i : Int) = 0))) (v := .bool (!decide ((((l.getD i 0).toNat : Nat) : Int) = ((95 : Nat) : Int)))) rfl rfl rfl (fun hg1 hg2 => q_move ((gv_pos hg1).trans (gv_pos hg2))) (RW.g3 (b1 := (!((loA l i) || (upA l i)))) (b2 := (decide ((i : Int) = 0))) (b3 := (!decide ((((l.getD i 0).toNat : Nat) : Int) = ((95 : Nat) : Int)))) (v := .int .u8 (((l.getD i 0).toNat : Nat) : Int)) rfl rfl rfl (fun hg1 hg2 hg3 => q_move rfl) (RW.g3 (b1 := (!((loA l i) || (upA l i)))) (b2 := (decide ((i : Int) = 0))) (b3 := (!decide ((((l.getD i 0).toNat : Nat) : Int) = ((95 : Nat) : Int)))) (v := .bool (decide ((((l.getD i 0).toNat : Nat) : Int) < ((48 : Nat) : Int)))) rfl rfl rfl (fun hg1 hg2 hg3 => q_lss (a := (((l.getD i 0).toNat : Nat) : Int)) (b := ((48 : Nat) : Int)) ((gv_pos hg1).trans ((gv_pos hg2).trans (gv_pos hg3))) rfl) (RW.g3 (b1 := (!((loA l i) || (upA l i)))) (b2 := (decide ((i : Int) = 0))) (b3 := (!decide ((((l.getD i 0).toNat : Nat) : Int) = ((95 : Nat) : Int)))) (v := .bool (decide ((((l.getD i 0).toNat : Nat) : Int) < ((48 : Nat) : Int)))) rfl rfl rfl (fun hg1 hg2 hg3 => q_move ((gv_pos hg1).trans ((gv_pos hg2).trans (gv_pos hg3)))) (RW.g4 (b1 := (!((loA l i) || (upA l i)))) (b2 := (decide ((i : Int) = 0))) (b3 := (!decide ((((l.getD i 0).toNat : Nat) : Int) = ((95 : Nat) : Int)))) (b4 := (decide ((((l.getD i 0).toNat : Nat) : Int) < ((48 : Nat) : Int)))) (v := .int .u8 (((l.getD i 0).toNat : Nat) : Int)) rfl rfl rfl (fun hg1 hg2 hg3 hg4 => q_move rfl) (RW.g4 (b1 := (!((loA l i) || (upA l i)))) (b2 := (decide ((i : Int) = 0))) (b3 := (!decide ((((l.getD i 0).toNat : Nat) : Int) = ((95 : Nat) : Int)))) (b4 := (decide ((((l.getD i 0).toNat : Nat) : Int) < ((48 : Nat) : Int)))) (v := .bool (decide (((57 : Nat) : Int) < (((l.getD i 0).toNat : Nat) : Int)))) rfl rfl rfl (fun hg1 hg2 hg3 hg4 => q_gtr (a := (((l.getD i 0).toNat : Nat) : Int)) (b := ((57 : Nat) : Int)) ((gv_pos hg1).trans ((gv_pos hg2).trans ((gv_pos hg3).trans (gv_pos hg4)))) rfl) (RW.g3 (b1 := (!((loA l i) || (upA l i)))) (b2 := (decide ((i : Int) = 0))) (b3 := (!decide ((((l.getD i 0).toNat : Nat) : Int) = ((95 : Nat) : Int)))) (v := .bool ((decide ((((l.getD i 0).toNat : Nat) : Int) < ((48 : Nat) : Int))) || (decide (((57 : Nat) : Int) < (((l.getD i 0).toNat : Nat) : Int))))) rfl rfl rfl (fun hg1 hg2 hg3 => q_pick ((gv_pos hg1).trans ((gv_pos hg2).trans (gv_pos hg3))) (fun hp => pkOrT hp) (fun hp => (gv_pos hg1).trans ((gv_pos hg2).trans ((gv_pos hg3).trans ((gv_pos hp).trans (pkOrF hp)))))) (RW.g2 (b1 := (!((loA l i) || (upA l i)))) (b2 := (decide ((i : Int) = 0))) (v := .bool ((!decide ((((l.getD i 0).toNat : Nat) : Int) = ((95 : Nat) : Int))) && ((decide ((((l.getD i 0).toNat : Nat) : Int) < ((48 : Nat) : Int))) || (decide (((57 : Nat) : Int) < (((l.getD i 0).toNat : Nat) : Int)))))) rfl rfl rfl (fun hg1 hg2 => q_pick ((gv_pos hg1).trans (gv_pos hg2)) (fun hp => (gv_pos hg1).trans ((gv_pos hg2).trans ((gv_pos hp).trans (pkAndT hp)))) (fun hp => pkAndF hp)) ?_)))))))))
   refine RW.g (b := (!((loA l i) || (upA l i)))) (v := .bool ((decide ((i : Int) = 0)) || ((!decide ((((l.getD i 0).toNat : Nat) : Int) = ((95 : Nat) : Int))) && ((decide ((((l.getD i 0).toNat : Nat) : Int) < ((48 : Nat) : Int))) || (decide (((57 : Nat) : Int) < (((l.getD i 0).toNat : Nat) : Int))))))) rfl rfl rfl (fun h => q_pick (gv_pos h) (fun hp => pkOrT hp) (fun hp => (gv_pos h).trans ((gv_pos hp).trans (pkOrF hp)))) (RW.q (v := .bool ((!((loA l i) || (upA l i))) && ((decide ((i : Int) = 0)) || ((!decide ((((l.getD i 0).toNat : Nat) : Int) = ((95 : Nat) : Int))) && ((decide ((((l.getD i 0).toNat : Nat) : Int) < ((48 : Nat) : Int))) || (decide (((57 : Nat) : Int) < (((l.getD i 0).toNat : Nat) : Int)))))))) rfl (qpA rfl rfl rfl) ?_)
   refine g2 ?_
   refine AW.cond rfl (fun hc3 => ?_) fun hc3 => ?_
   ·
    refine g11 ?_
    exact fin_val (v' := .bool false) rfl rfl rfl (congrArg Value.bool (Ru.isNm_1 (by omega) (by have h := (Ru.nmT_eq i (l.getD i 0)).symm.trans hc3; simpa using h)).symm)
   ·
    refine g7 ?_
    have hyes : Ru.nmAt i (l.getD i 0) = true := by have h := (Ru.nmT_eq i (l.getD i 0)).symm.trans hc3; simpa using h
    exact Post.back (s' := _) (J' := _) (m' := _) (by omega) ⟨i + 1, rfl, rfl, rfl, (by omega), (by rw [List.range_succ, List.all_append, hE, List.all_cons, List.all_nil, hyes]; rfl)⟩ ⟨rfl, rfl, rfl, trivial⟩ (fun _ h => h)
  ·
   simp [-List.getD_eq_getElem?_getD] at hc2
   refine g11 ?_
   exact fin_val (v' := .bool true) rfl rfl rfl (congrArg Value.bool (Ru.isNm_2 hc1 (by rw [show l.length = i by omega]; exact hE)).symm)
theorem eqI_c (w : World) (Φ : Hp) (hΦ : Hp.le Φ (hp w)) {xs ys : List Int} {v1 v2 : Value} (h1 : RepSl Φ xs v1) (h2 : RepSl Φ ys v2) :
  Calls pg 39 #[v1, v2] w fun e w' => e = .returned (.bool (decide (xs = ys))) ∧ Bel w.heap.size w w' := by
 refine calls_of_AW (args := [v1, v2]) Tryz.func39 rfl (lBT rfl) (St ⟨w, Φ, []⟩ Φ []) (StP.init w Φ hΦ []) ?_
 show AW pg 26 [] _ _ _ [(0, v1), (1, v2)] _
 have hm1 := h1.max
 have hb1 : xs.length * 8 ≤ maxSl := hm1
 simp only [maxSl] at hb1
 refine g15 ?_
 refine AW.cond rfl (fun hc1 => ?_) fun hc1 => ?_
 ·
  simp [-List.getD_eq_getElem?_getD] at hc1
  refine g7 ?_
  exact fin_val (v' := .bool false) rfl rfl rfl (congrArg Value.bool (decide_eq_false (fun h => by rw [h] at hc1; exact hc1 rfl)).symm)
 ·
  simp [-List.getD_eq_getElem?_getD] at hc1
  refine g11 ?_
  refine AW.loop (fun s J m => ∃ (i : Nat), s = [(0, v1), (1, v2), (12, iV (xs.length : Int)), (13, iV (i : Int))] ∧ J = St ⟨w, Φ, []⟩ Φ [] ∧ m = xs.length - i ∧ (i ≤ xs.length) ∧ (∀ j, j < i → xs.getD j 0 = ys.getD j 0)) (s0 := _) (J1 := _) (m0 := _) ⟨0, rfl, rfl, rfl, (Nat.zero_le _), (fun j hj => absurd hj (Nat.not_lt_zero _))⟩ ⟨rfl, rfl, rfl, rfl, trivial⟩ (fun _ h => h) ?_
  rintro _ _ _ _ ⟨i, rfl, rfl, rfl, hil, hE⟩
  refine g6 ?_
  refine AW.cond rfl (fun hc2 => ?_) fun hc2 => ?_
  ·
   simp [-List.getD_eq_getElem?_getD] at hc2
   refine g11 ?_
   refine AW.draw (J0 := St ⟨w, Φ, []⟩ Φ []) [.q, .q, .q, .q, .q, .q, .q, .q, .q] [0, 1, 2, 3, 4, 5, 6, 7, 8] hmix (by kernel_rfl) ?_
   refine g2 ?_
   refine DW.q (v := .pointer (some (Value.at v1 (i * 1)))) (fun _ h => h) rfl (q_indexAddr rfl rfl h1.sl uT29 sz3 (by omega) (by omega) rfl) (DW.q (v := iV (xs.getD i 0)) (fun _ h => h) rfl (q_load rfl uT3 rfl (Cell.repInt h1 (by omega))) ?_)
   refine g2 ?_
   refine DW.q (v := .pointer (some (Value.at v2 (i * 1)))) (fun _ h => h) rfl (q_indexAddr rfl rfl h2.sl uT29 sz3 (by omega) (by omega) rfl) (DW.q (v := iV (ys.getD i 0)) (fun _ h => h) rfl (q_load rfl uT3 rfl (Cell.repInt h2 (by omega))) ?_)
   refine g3 ?_
   refine AW.cond rfl (fun hc3 => ?_) fun hc3 => ?_
   ·
    simp [-List.getD_eq_getElem?_getD] at hc3
    refine g11 ?_
    exact fin_val (v' := .bool false) rfl rfl rfl (congrArg Value.bool (decide_eq_false (fun h => by rw [h] at hc3; exact hc3 rfl)).symm)
   ·
    simp [-List.getD_eq_getElem?_getD] at hc3
    refine g7 ?_
    exact Post.back (s' := _) (J' := _) (m' := _) (by omega) ⟨i + 1, rfl, rfl, rfl, (by omega), (fun j hj => (Nat.lt_or_ge j i).elim (hE j) (fun h => by obtain rfl : j = i := (by omega); exact hc3))⟩ ⟨rfl, rfl, rfl, rfl, trivial⟩ (fun _ h => h)
  ·
   simp [-List.getD_eq_getElem?_getD] at hc2
   refine g11 ?_
   exact fin_val (v' := .bool true) rfl rfl rfl (congrArg Value.bool (decide_eq_true (Ru.eqI_of (by omega) (fun j hj => hE j (by omega)))).symm)
end Go.Proofs.YtjmeeofdffdpnaaGreatDoor
