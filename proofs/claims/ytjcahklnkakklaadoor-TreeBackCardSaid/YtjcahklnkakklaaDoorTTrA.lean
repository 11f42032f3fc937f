/- Walks (part TrA), printed by walk2.py. Conditions: those of each theorem. -/
import Derived.Test.YtjcahklnkakklaaDoorTLibA
import Derived.Test.YtjcahklnkakklaaDoorTWrP
import Derived.Test.YtjcahklnkakklaaDoorTSw
namespace Go.Proofs.YtjcahklnkakklaaDoor
open Go Go.K Go.RowKit
attribute [local irreducible] AW RW DW Post Qt

set_option maxRecDepth 8000 in
set_option maxHeartbeats 1000000 in
theorem isName_c (w : World) (Φ : Hp) (hΦ : Hp.le Φ (hp w)) {l : List UInt8} (hl : l.length ≤ maxLen) :
    Calls Tryd.prog 34 #[.string (bs l)] w fun e w' => e = .returned (.bool (Pa.isName l)) ∧ Bel w.heap.size w w' := by
  refine calls_of_AW (args := [.string (bs l)]) Tryd.func34 rfl (Nat.le_of_ble_eq_true rfl) (St ⟨w, Φ, []⟩ Φ []) (StP.init w Φ hΦ []) ?_
  show AW Tryd.prog 55 [] _ _ _ [(0, .string (bs l))] _
  simp only [maxLen] at hl
  refine g9 ?_
  refine RW.q (v := .int .i64 ((l.length : Nat) : Int)) rfl (q_lenS (l := l) rfl Tryd.underlying9) ?_
  refine g4 ?_
  refine AW.loop (fun s J m => ∃ (i : Nat), s = [(0, .string (bs l)), (8, .int .i64 (i : Int)), (7, .int .i64 ((l.length : Nat) : Int))] ∧ J = St ⟨w, Φ, []⟩ Φ [] ∧ m = l.length - i ∧ (i ≤ l.length) ∧ (∀ j, j < i → Pa.nmAt l j)) (s0 := _) (J1 := _) (m0 := _) ⟨0, rfl, rfl, rfl, (Nat.zero_le _), (fun j hj => absurd hj (Nat.not_lt_zero j))⟩ ⟨rfl, rfl, rfl, trivial⟩ (fun _ h => h) ?_
  rintro _ _ _ _ ⟨i, rfl, rfl, rfl, hil, hA⟩
  refine g6 ?_
  refine AW.cond rfl (fun hc1 => ?_) fun hc1 => ?_
  · simp [-List.getD_eq_getElem?_getD] at hc1
    refine g14 ?_
    refine RW.q (v := .int .u8 (((l.getD i 0).toNat : Nat) : Int)) rfl (q_indexS (l := l) (i := (i : Int)) rfl rfl Tryd.underlying9 (by omega) (by omega)) ?_
    refine g6 ?_
    refine RW.q (v := .bool (decide (((97 : Nat) : Int) ≤ (((l.getD i 0).toNat : Nat) : Int)))) rfl (q_geq (a := (((l.getD i 0).toNat : Nat) : Int)) (b := ((97 : Nat) : Int)) rfl rfl) ?_
    refine g2 ?_
    refine RW.g (b := (decide (((97 : Nat) : Int) ≤ (((l.getD i 0).toNat : Nat) : Int)))) (v := .bool (decide ((((l.getD i 0).toNat : Nat) : Int) ≤ ((122 : Nat) : Int)))) rfl rfl rfl (fun h => q_leq (a := (((l.getD i 0).toNat : Nat) : Int)) (b := ((122 : Nat) : Int)) (gv_pos h) rfl) ?_
    obtain ⟨qb1, hqb1⟩ : ∃ qz : Bool, ((decide (((97 : Nat) : Int) ≤ (((l.getD i 0).toNat : Nat) : Int))) && (decide ((((l.getD i 0).toNat : Nat) : Int) ≤ ((122 : Nat) : Int)))) = qz := ⟨_, rfl⟩
    refine RW.q (v := .bool qb1) rfl (q_as (v := .bool ((decide (((97 : Nat) : Int) ≤ (((l.getD i 0).toNat : Nat) : Int))) && (decide ((((l.getD i 0).toNat : Nat) : Int) ≤ ((122 : Nat) : Int))))) (q_pick rfl (fun hp => (gv_pos hp).trans (pkAndT hp)) (fun hp => pkAndF hp)) (congrArg Value.bool hqb1)) ?_
    refine g2 ?_
    refine RW.g (b := qb1) (v := .bool (decide (((65 : Nat) : Int) ≤ (((l.getD i 0).toNat : Nat) : Int)))) rfl rfl rfl (fun h => q_geq (a := (((l.getD i 0).toNat : Nat) : Int)) (b := ((65 : Nat) : Int)) (gv_pos h) rfl) ?_
    refine g1 ?_
    refine RW.g2 (b1 := qb1) (b2 := (decide (((65 : Nat) : Int) ≤ (((l.getD i 0).toNat : Nat) : Int)))) (v := .int .u8 (((l.getD i 0).toNat : Nat) : Int)) rfl rfl rfl (fun hg1 hg2 => q_move rfl) ?_
    refine RW.g2 (b1 := qb1) (b2 := (decide (((65 : Nat) : Int) ≤ (((l.getD i 0).toNat : Nat) : Int)))) (v := .bool (decide ((((l.getD i 0).toNat : Nat) : Int) ≤ ((90 : Nat) : Int)))) rfl rfl rfl (fun hg1 hg2 => q_leq (a := (((l.getD i 0).toNat : Nat) : Int)) (b := ((90 : Nat) : Int)) ((gv_pos hg1).trans (gv_pos hg2)) rfl) ?_
    obtain ⟨qb2, hqb2⟩ : ∃ qz : Bool, ((decide (((65 : Nat) : Int) ≤ (((l.getD i 0).toNat : Nat) : Int))) && (decide ((((l.getD i 0).toNat : Nat) : Int) ≤ ((90 : Nat) : Int)))) = qz := ⟨_, rfl⟩
    refine RW.g (b := qb1) (v := .bool qb2) rfl rfl rfl (fun h => q_as (v := .bool ((decide (((65 : Nat) : Int) ≤ (((l.getD i 0).toNat : Nat) : Int))) && (decide ((((l.getD i 0).toNat : Nat) : Int) ≤ ((90 : Nat) : Int))))) (q_pick (gv_pos h) (fun hp => (gv_pos h).trans ((gv_pos hp).trans (pkAndT hp))) (fun hp => pkAndF hp)) (congrArg Value.bool hqb2)) ?_
    refine RW.q (v := .bool (qb1 || qb2)) rfl (q_pick rfl (fun hp => pkOrT hp) (fun hp => (gv_pos hp).trans (pkOrF hp))) ?_
    refine g1 ?_
    subst hqb2 hqb1
    refine g10 ?_
    refine RW.g2 (b1 := (!(((decide (((97 : Nat) : Int) ≤ (((l.getD i 0).toNat : Nat) : Int))) && (decide ((((l.getD i 0).toNat : Nat) : Int) ≤ ((122 : Nat) : Int)))) || ((decide (((65 : Nat) : Int) ≤ (((l.getD i 0).toNat : Nat) : Int))) && (decide ((((l.getD i 0).toNat : Nat) : Int) ≤ ((90 : Nat) : Int))))))) (b2 := (decide ((i : Int) = 0))) (v := .int .u8 (((l.getD i 0).toNat : Nat) : Int)) rfl rfl rfl (fun hg1 hg2 => q_move rfl) ?_
    refine RW.g2 (b1 := (!(((decide (((97 : Nat) : Int) ≤ (((l.getD i 0).toNat : Nat) : Int))) && (decide ((((l.getD i 0).toNat : Nat) : Int) ≤ ((122 : Nat) : Int)))) || ((decide (((65 : Nat) : Int) ≤ (((l.getD i 0).toNat : Nat) : Int))) && (decide ((((l.getD i 0).toNat : Nat) : Int) ≤ ((90 : Nat) : Int))))))) (b2 := (decide ((i : Int) = 0))) (v := .bool (!decide ((((l.getD i 0).toNat : Nat) : Int) = ((95 : Nat) : Int)))) rfl rfl rfl (fun hg1 hg2 => q_neq (a := (((l.getD i 0).toNat : Nat) : Int)) (b := ((95 : Nat) : Int)) ((gv_pos hg1).trans (gv_pos hg2)) rfl) ?_
    refine RW.g2 (b1 := (!(((decide (((97 : Nat) : Int) ≤ (((l.getD i 0).toNat : Nat) : Int))) && (decide ((((l.getD i 0).toNat : Nat) : Int) ≤ ((122 : Nat) : Int)))) || ((decide (((65 : Nat) : Int) ≤ (((l.getD i 0).toNat : Nat) : Int))) && (decide ((((l.getD i 0).toNat : Nat) : Int) ≤ ((90 : Nat) : Int))))))) (b2 := (decide ((i : Int) = 0))) (v := .bool (!decide ((((l.getD i 0).toNat : Nat) : Int) = ((95 : Nat) : Int)))) rfl rfl rfl (fun hg1 hg2 => q_move ((gv_pos hg1).trans (gv_pos hg2))) ?_
    refine RW.g3 (b1 := (!(((decide (((97 : Nat) : Int) ≤ (((l.getD i 0).toNat : Nat) : Int))) && (decide ((((l.getD i 0).toNat : Nat) : Int) ≤ ((122 : Nat) : Int)))) || ((decide (((65 : Nat) : Int) ≤ (((l.getD i 0).toNat : Nat) : Int))) && (decide ((((l.getD i 0).toNat : Nat) : Int) ≤ ((90 : Nat) : Int))))))) (b2 := (decide ((i : Int) = 0))) (b3 := (!decide ((((l.getD i 0).toNat : Nat) : Int) = ((95 : Nat) : Int)))) (v := .int .u8 (((l.getD i 0).toNat : Nat) : Int)) rfl rfl rfl (fun hg1 hg2 hg3 => q_move rfl) ?_
    refine RW.g3 (b1 := (!(((decide (((97 : Nat) : Int) ≤ (((l.getD i 0).toNat : Nat) : Int))) && (decide ((((l.getD i 0).toNat : Nat) : Int) ≤ ((122 : Nat) : Int)))) || ((decide (((65 : Nat) : Int) ≤ (((l.getD i 0).toNat : Nat) : Int))) && (decide ((((l.getD i 0).toNat : Nat) : Int) ≤ ((90 : Nat) : Int))))))) (b2 := (decide ((i : Int) = 0))) (b3 := (!decide ((((l.getD i 0).toNat : Nat) : Int) = ((95 : Nat) : Int)))) (v := .bool (decide ((((l.getD i 0).toNat : Nat) : Int) < ((48 : Nat) : Int)))) rfl rfl rfl (fun hg1 hg2 hg3 => q_lss (a := (((l.getD i 0).toNat : Nat) : Int)) (b := ((48 : Nat) : Int)) ((gv_pos hg1).trans ((gv_pos hg2).trans (gv_pos hg3))) rfl) ?_
    refine RW.g3 (b1 := (!(((decide (((97 : Nat) : Int) ≤ (((l.getD i 0).toNat : Nat) : Int))) && (decide ((((l.getD i 0).toNat : Nat) : Int) ≤ ((122 : Nat) : Int)))) || ((decide (((65 : Nat) : Int) ≤ (((l.getD i 0).toNat : Nat) : Int))) && (decide ((((l.getD i 0).toNat : Nat) : Int) ≤ ((90 : Nat) : Int))))))) (b2 := (decide ((i : Int) = 0))) (b3 := (!decide ((((l.getD i 0).toNat : Nat) : Int) = ((95 : Nat) : Int)))) (v := .bool (decide ((((l.getD i 0).toNat : Nat) : Int) < ((48 : Nat) : Int)))) rfl rfl rfl (fun hg1 hg2 hg3 => q_move ((gv_pos hg1).trans ((gv_pos hg2).trans (gv_pos hg3)))) ?_
    refine RW.g4 (b1 := (!(((decide (((97 : Nat) : Int) ≤ (((l.getD i 0).toNat : Nat) : Int))) && (decide ((((l.getD i 0).toNat : Nat) : Int) ≤ ((122 : Nat) : Int)))) || ((decide (((65 : Nat) : Int) ≤ (((l.getD i 0).toNat : Nat) : Int))) && (decide ((((l.getD i 0).toNat : Nat) : Int) ≤ ((90 : Nat) : Int))))))) (b2 := (decide ((i : Int) = 0))) (b3 := (!decide ((((l.getD i 0).toNat : Nat) : Int) = ((95 : Nat) : Int)))) (b4 := (decide ((((l.getD i 0).toNat : Nat) : Int) < ((48 : Nat) : Int)))) (v := .int .u8 (((l.getD i 0).toNat : Nat) : Int)) rfl rfl rfl (fun hg1 hg2 hg3 hg4 => q_move rfl) ?_
    refine RW.g4 (b1 := (!(((decide (((97 : Nat) : Int) ≤ (((l.getD i 0).toNat : Nat) : Int))) && (decide ((((l.getD i 0).toNat : Nat) : Int) ≤ ((122 : Nat) : Int)))) || ((decide (((65 : Nat) : Int) ≤ (((l.getD i 0).toNat : Nat) : Int))) && (decide ((((l.getD i 0).toNat : Nat) : Int) ≤ ((90 : Nat) : Int))))))) (b2 := (decide ((i : Int) = 0))) (b3 := (!decide ((((l.getD i 0).toNat : Nat) : Int) = ((95 : Nat) : Int)))) (b4 := (decide ((((l.getD i 0).toNat : Nat) : Int) < ((48 : Nat) : Int)))) (v := .bool (decide (((57 : Nat) : Int) < (((l.getD i 0).toNat : Nat) : Int)))) rfl rfl rfl (fun hg1 hg2 hg3 hg4 => q_gtr (a := (((l.getD i 0).toNat : Nat) : Int)) (b := ((57 : Nat) : Int)) ((gv_pos hg1).trans ((gv_pos hg2).trans ((gv_pos hg3).trans (gv_pos hg4)))) rfl) ?_
    obtain ⟨qb3, hqb3⟩ : ∃ qz : Bool, ((decide ((((l.getD i 0).toNat : Nat) : Int) < ((48 : Nat) : Int))) || (decide (((57 : Nat) : Int) < (((l.getD i 0).toNat : Nat) : Int)))) = qz := ⟨_, rfl⟩
    refine RW.g3 (b1 := (!(((decide (((97 : Nat) : Int) ≤ (((l.getD i 0).toNat : Nat) : Int))) && (decide ((((l.getD i 0).toNat : Nat) : Int) ≤ ((122 : Nat) : Int)))) || ((decide (((65 : Nat) : Int) ≤ (((l.getD i 0).toNat : Nat) : Int))) && (decide ((((l.getD i 0).toNat : Nat) : Int) ≤ ((90 : Nat) : Int))))))) (b2 := (decide ((i : Int) = 0))) (b3 := (!decide ((((l.getD i 0).toNat : Nat) : Int) = ((95 : Nat) : Int)))) (v := .bool qb3) rfl rfl rfl (fun hg1 hg2 hg3 => q_as (v := .bool ((decide ((((l.getD i 0).toNat : Nat) : Int) < ((48 : Nat) : Int))) || (decide (((57 : Nat) : Int) < (((l.getD i 0).toNat : Nat) : Int))))) (q_pick ((gv_pos hg1).trans ((gv_pos hg2).trans (gv_pos hg3))) (fun hp => pkOrT hp) (fun hp => (gv_pos hg1).trans ((gv_pos hg2).trans ((gv_pos hg3).trans ((gv_pos hp).trans (pkOrF hp)))))) (congrArg Value.bool hqb3)) ?_
    obtain ⟨qb4, hqb4⟩ : ∃ qz : Bool, ((!decide ((((l.getD i 0).toNat : Nat) : Int) = ((95 : Nat) : Int))) && qb3) = qz := ⟨_, rfl⟩
    refine RW.g2 (b1 := (!(((decide (((97 : Nat) : Int) ≤ (((l.getD i 0).toNat : Nat) : Int))) && (decide ((((l.getD i 0).toNat : Nat) : Int) ≤ ((122 : Nat) : Int)))) || ((decide (((65 : Nat) : Int) ≤ (((l.getD i 0).toNat : Nat) : Int))) && (decide ((((l.getD i 0).toNat : Nat) : Int) ≤ ((90 : Nat) : Int))))))) (b2 := (decide ((i : Int) = 0))) (v := .bool qb4) rfl rfl rfl (fun hg1 hg2 => q_as (v := .bool ((!decide ((((l.getD i 0).toNat : Nat) : Int) = ((95 : Nat) : Int))) && qb3)) (q_pick ((gv_pos hg1).trans (gv_pos hg2)) (fun hp => (gv_pos hg1).trans ((gv_pos hg2).trans ((gv_pos hp).trans (pkAndT hp)))) (fun hp => pkAndF hp)) (congrArg Value.bool hqb4)) ?_
    refine RW.g (b := (!(((decide (((97 : Nat) : Int) ≤ (((l.getD i 0).toNat : Nat) : Int))) && (decide ((((l.getD i 0).toNat : Nat) : Int) ≤ ((122 : Nat) : Int)))) || ((decide (((65 : Nat) : Int) ≤ (((l.getD i 0).toNat : Nat) : Int))) && (decide ((((l.getD i 0).toNat : Nat) : Int) ≤ ((90 : Nat) : Int))))))) (v := .bool ((decide ((i : Int) = 0)) || qb4)) rfl rfl rfl (fun h => q_pick (gv_pos h) (fun hp => pkOrT hp) (fun hp => (gv_pos h).trans ((gv_pos hp).trans (pkOrF hp)))) ?_
    obtain ⟨qb5, hqb5⟩ : ∃ qz : Bool, ((!(((decide (((97 : Nat) : Int) ≤ (((l.getD i 0).toNat : Nat) : Int))) && (decide ((((l.getD i 0).toNat : Nat) : Int) ≤ ((122 : Nat) : Int)))) || ((decide (((65 : Nat) : Int) ≤ (((l.getD i 0).toNat : Nat) : Int))) && (decide ((((l.getD i 0).toNat : Nat) : Int) ≤ ((90 : Nat) : Int)))))) && ((decide ((i : Int) = 0)) || qb4)) = qz := ⟨_, rfl⟩
    refine RW.q (v := .bool qb5) rfl (q_as (v := .bool ((!(((decide (((97 : Nat) : Int) ≤ (((l.getD i 0).toNat : Nat) : Int))) && (decide ((((l.getD i 0).toNat : Nat) : Int) ≤ ((122 : Nat) : Int)))) || ((decide (((65 : Nat) : Int) ≤ (((l.getD i 0).toNat : Nat) : Int))) && (decide ((((l.getD i 0).toNat : Nat) : Int) ≤ ((90 : Nat) : Int)))))) && ((decide ((i : Int) = 0)) || qb4))) (q_pick rfl (fun hp => (gv_pos hp).trans (pkAndT hp)) (fun hp => pkAndF hp)) (congrArg Value.bool hqb5)) ?_
    subst hqb5 hqb4 hqb3
    refine g2 ?_
    refine AW.cond rfl (fun hc2 => ?_) fun hc2 => ?_
    · simp [-List.getD_eq_getElem?_getD] at hc2
      refine g11 ?_
      exact fin_val (v' := .bool false) rfl rfl rfl (congrArg Value.bool (by unfold Pa.isName; rw [decide_eq_false (fun h => by have h8 := h i (by omega); unfold Pa.nmAt at h8; omega)]; rfl))
    · simp [-List.getD_eq_getElem?_getD] at hc2
      refine g7 ?_
      exact Post.back (s' := _) (J' := _) (m' := _) (by omega) ⟨i + 1, rfl, rfl, rfl, (by omega), (fun j hj => (by by_cases h9 : j = i; (subst h9; unfold Pa.nmAt; omega); exact hA j (by omega)))⟩ ⟨rfl, rfl, rfl, trivial⟩ (fun _ h => h)
  · simp [-List.getD_eq_getElem?_getD] at hc1
    refine g8 ?_
    refine RW.q (v := .int .i64 ((l.length : Nat) : Int)) rfl (q_lenS (l := l) rfl Tryd.underlying9) ?_
    refine g3 ?_
    refine RW.g (b := (decide ((1 : Int) ≤ ((l.length : Nat) : Int)))) (v := .int .i64 ((l.length : Nat) : Int)) rfl rfl rfl (fun h => q_lenS (l := l) (gv_pos h) Tryd.underlying9) ?_
    refine g1 ?_
    obtain ⟨qb6, hqb6⟩ : ∃ qz : Bool, ((decide ((1 : Int) ≤ ((l.length : Nat) : Int))) && (decide (((l.length : Nat) : Int) ≤ 24))) = qz := ⟨_, rfl⟩
    refine RW.q (v := .bool qb6) rfl (q_as (v := .bool ((decide ((1 : Int) ≤ ((l.length : Nat) : Int))) && (decide (((l.length : Nat) : Int) ≤ 24)))) (q_pick rfl (fun hp => (gv_pos hp).trans (pkAndT hp)) (fun hp => pkAndF hp)) (congrArg Value.bool hqb6)) ?_
    refine g1 ?_
    subst hqb6
    refine g3 ?_
    exact fin_val (v' := .bool ((decide ((1 : Int) ≤ ((l.length : Nat) : Int))) && (decide (((l.length : Nat) : Int) ≤ 24)))) rfl rfl rfl (congrArg Value.bool (by unfold Pa.isName; rw [decide_eq_true (fun j hj => hA j (by omega)), Bool.true_and]; rw [Bool.eq_iff_iff]; simp only [Bool.and_eq_true, decide_eq_true_eq]; omega))

set_option maxRecDepth 8000 in
set_option maxHeartbeats 1000000 in
theorem isText_c (w : World) (Φ : Hp) (hΦ : Hp.le Φ (hp w)) {l : List UInt8} (hl : l.length ≤ maxLen) :
    Calls Tryd.prog 50 #[.string (bs l)] w fun e w' => e = .returned (.bool (Pa.isText l)) ∧ Bel w.heap.size w w' := by
  refine calls_of_AW (args := [.string (bs l)]) Tryd.func50 rfl (Nat.le_of_ble_eq_true rfl) (St ⟨w, Φ, []⟩ Φ []) (StP.init w Φ hΦ []) ?_
  show AW Tryd.prog 35 [] _ _ _ [(0, .string (bs l))] _
  simp only [maxLen] at hl
  refine g9 ?_
  refine RW.q (v := .int .i64 ((l.length : Nat) : Int)) rfl (q_lenS (l := l) rfl Tryd.underlying9) ?_
  refine g4 ?_
  refine AW.loop (fun s J m => ∃ (i : Nat), s = [(0, .string (bs l)), (6, .int .i64 (i : Int)), (5, .int .i64 ((l.length : Nat) : Int))] ∧ J = St ⟨w, Φ, []⟩ Φ [] ∧ m = l.length - i ∧ (i ≤ l.length) ∧ (∀ j, j < i → Pa.txAt l j)) (s0 := _) (J1 := _) (m0 := _) ⟨0, rfl, rfl, rfl, (Nat.zero_le _), (fun j hj => absurd hj (Nat.not_lt_zero j))⟩ ⟨rfl, rfl, rfl, trivial⟩ (fun _ h => h) ?_
  rintro _ _ _ _ ⟨i, rfl, rfl, rfl, hil, hA⟩
  refine g6 ?_
  refine AW.cond rfl (fun hc1 => ?_) fun hc1 => ?_
  · simp [-List.getD_eq_getElem?_getD] at hc1
    refine g14 ?_
    refine RW.q (v := .int .u8 (((l.getD i 0).toNat : Nat) : Int)) rfl (q_indexS (l := l) (i := (i : Int)) rfl rfl Tryd.underlying9 (by omega) (by omega)) ?_
    refine RW.q (v := .bool (decide ((((l.getD i 0).toNat : Nat) : Int) < ((32 : Nat) : Int)))) rfl (q_lss (a := (((l.getD i 0).toNat : Nat) : Int)) (b := ((32 : Nat) : Int)) rfl rfl) ?_
    refine g3 ?_
    refine RW.g (b := (decide ((((l.getD i 0).toNat : Nat) : Int) < ((32 : Nat) : Int)))) (v := .int .u8 (((l.getD i 0).toNat : Nat) : Int)) rfl rfl rfl (fun h => q_indexS (l := l) (i := (i : Int)) (gv_pos h) (gv_pos h) Tryd.underlying9 (by (try simp [-List.getD_eq_getElem?_getD] at h); omega) (by (try simp [-List.getD_eq_getElem?_getD] at h); omega)) ?_
    refine RW.g (b := (decide ((((l.getD i 0).toNat : Nat) : Int) < ((32 : Nat) : Int)))) (v := .bool (decide (((126 : Nat) : Int) < (((l.getD i 0).toNat : Nat) : Int)))) rfl rfl rfl (fun h => q_gtr (a := (((l.getD i 0).toNat : Nat) : Int)) (b := ((126 : Nat) : Int)) (gv_pos h) rfl) ?_
    obtain ⟨qb1, hqb1⟩ : ∃ qz : Bool, ((decide ((((l.getD i 0).toNat : Nat) : Int) < ((32 : Nat) : Int))) || (decide (((126 : Nat) : Int) < (((l.getD i 0).toNat : Nat) : Int)))) = qz := ⟨_, rfl⟩
    refine RW.q (v := .bool qb1) rfl (q_as (v := .bool ((decide ((((l.getD i 0).toNat : Nat) : Int) < ((32 : Nat) : Int))) || (decide (((126 : Nat) : Int) < (((l.getD i 0).toNat : Nat) : Int))))) (q_pick rfl (fun hp => pkOrT hp) (fun hp => (gv_pos hp).trans (pkOrF hp))) (congrArg Value.bool hqb1)) ?_
    refine g3 ?_
    refine RW.g (b := qb1) (v := .int .u8 (((l.getD i 0).toNat : Nat) : Int)) rfl rfl rfl (fun h => q_indexS (l := l) (i := (i : Int)) (gv_pos h) (gv_pos h) Tryd.underlying9 (by subst hqb1; (try simp [-List.getD_eq_getElem?_getD] at h); omega) (by subst hqb1; (try simp [-List.getD_eq_getElem?_getD] at h); omega)) ?_
    refine RW.g (b := qb1) (v := .bool (decide ((((l.getD i 0).toNat : Nat) : Int) = ((34 : Nat) : Int)))) rfl rfl rfl (fun h => q_eql (a := (((l.getD i 0).toNat : Nat) : Int)) (b := ((34 : Nat) : Int)) (gv_pos h) rfl) ?_
    obtain ⟨qb2, hqb2⟩ : ∃ qz : Bool, (qb1 || (decide ((((l.getD i 0).toNat : Nat) : Int) = ((34 : Nat) : Int)))) = qz := ⟨_, rfl⟩
    refine RW.q (v := .bool qb2) rfl (q_as (v := .bool (qb1 || (decide ((((l.getD i 0).toNat : Nat) : Int) = ((34 : Nat) : Int))))) (q_pick rfl (fun hp => pkOrT hp) (fun hp => (gv_pos hp).trans (pkOrF hp))) (congrArg Value.bool hqb2)) ?_
    refine g3 ?_
    refine RW.g (b := qb2) (v := .int .u8 (((l.getD i 0).toNat : Nat) : Int)) rfl rfl rfl (fun h => q_indexS (l := l) (i := (i : Int)) (gv_pos h) (gv_pos h) Tryd.underlying9 (by subst hqb2 hqb1; (try simp [-List.getD_eq_getElem?_getD] at h); omega) (by subst hqb2 hqb1; (try simp [-List.getD_eq_getElem?_getD] at h); omega)) ?_
    refine RW.g (b := qb2) (v := .bool (decide ((((l.getD i 0).toNat : Nat) : Int) = ((92 : Nat) : Int)))) rfl rfl rfl (fun h => q_eql (a := (((l.getD i 0).toNat : Nat) : Int)) (b := ((92 : Nat) : Int)) (gv_pos h) rfl) ?_
    obtain ⟨qb3, hqb3⟩ : ∃ qz : Bool, (qb2 || (decide ((((l.getD i 0).toNat : Nat) : Int) = ((92 : Nat) : Int)))) = qz := ⟨_, rfl⟩
    refine RW.q (v := .bool qb3) rfl (q_as (v := .bool (qb2 || (decide ((((l.getD i 0).toNat : Nat) : Int) = ((92 : Nat) : Int))))) (q_pick rfl (fun hp => pkOrT hp) (fun hp => (gv_pos hp).trans (pkOrF hp))) (congrArg Value.bool hqb3)) ?_
    subst hqb3 hqb2 hqb1
    refine g2 ?_
    refine AW.cond rfl (fun hc2 => ?_) fun hc2 => ?_
    · simp [-List.getD_eq_getElem?_getD] at hc2
      refine g11 ?_
      exact fin_val (v' := .bool false) rfl rfl rfl (congrArg Value.bool (by unfold Pa.isText; rw [decide_eq_false (fun h => by have h8 := h i (by omega); unfold Pa.txAt at h8; omega)]; rfl))
    · simp [-List.getD_eq_getElem?_getD] at hc2
      refine g7 ?_
      exact Post.back (s' := _) (J' := _) (m' := _) (by omega) ⟨i + 1, rfl, rfl, rfl, (by omega), (fun j hj => (by by_cases h9 : j = i; (subst h9; unfold Pa.txAt; omega); exact hA j (by omega)))⟩ ⟨rfl, rfl, rfl, trivial⟩ (fun _ h => h)
  · simp [-List.getD_eq_getElem?_getD] at hc1
    refine g8 ?_
    refine RW.q (v := .int .i64 ((l.length : Nat) : Int)) rfl (q_lenS (l := l) rfl Tryd.underlying9) ?_
    refine g5 ?_
    exact fin_val (v' := .bool (decide (((l.length : Nat) : Int) ≤ 500))) rfl rfl rfl (congrArg Value.bool (by unfold Pa.isText; rw [decide_eq_true (fun j hj => hA j (by omega)), Bool.true_and]; exact decide_eq_decide.2 (by omega)))

end Go.Proofs.YtjcahklnkakklaaDoor
