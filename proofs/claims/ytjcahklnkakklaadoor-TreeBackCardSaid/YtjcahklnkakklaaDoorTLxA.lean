/- Walks (part LxA), printed by walk2.py. Conditions: those of each theorem. -/
import Derived.Test.YtjcahklnkakklaaDoorTLibA
import Derived.Test.YtjcahklnkakklaaDoorTWrP
import Derived.Test.YtjcahklnkakklaaDoorTSw
namespace Go.Proofs.YtjcahklnkakklaaDoor
open Go Go.K Go.RowKit
attribute [local irreducible] AW RW DW Post Qt

set_option maxRecDepth 8000 in
set_option maxHeartbeats 1000000 in
theorem letter_c (w : World) (Φ : Hp) (hΦ : Hp.le Φ (hp w)) {c : UInt8} :
    Calls Tryd.prog 59 #[.int .u8 ((c.toNat : Nat) : Int)] w fun e w' => e = .returned (.bool (Lx.isL c)) ∧ Bel w.heap.size w w' := by
  refine calls_of_AW (args := [.int .u8 ((c.toNat : Nat) : Int)]) Tryd.func59 rfl (Nat.le_of_ble_eq_true rfl) (St ⟨w, Φ, []⟩ Φ []) (StP.init w Φ hΦ []) ?_
  show AW Tryd.prog 17 [] _ _ _ [(0, .int .u8 ((c.toNat : Nat) : Int))] _
  refine g8 ?_
  refine RW.q (v := .bool (decide (((97 : Nat) : Int) ≤ ((c.toNat : Nat) : Int)))) rfl (q_geq (a := ((c.toNat : Nat) : Int)) (b := ((97 : Nat) : Int)) rfl rfl) ?_
  refine g2 ?_
  refine RW.g (b := (decide (((97 : Nat) : Int) ≤ ((c.toNat : Nat) : Int)))) (v := .bool (decide (((c.toNat : Nat) : Int) ≤ ((122 : Nat) : Int)))) rfl rfl rfl (fun h => q_leq (a := ((c.toNat : Nat) : Int)) (b := ((122 : Nat) : Int)) (gv_pos h) rfl) ?_
  refine RW.q (v := .bool ((decide (((97 : Nat) : Int) ≤ ((c.toNat : Nat) : Int))) && (decide (((c.toNat : Nat) : Int) ≤ ((122 : Nat) : Int))))) rfl (q_pick rfl (fun hp => (gv_pos hp).trans (pkAndT hp)) (fun hp => pkAndF hp)) ?_
  refine g2 ?_
  refine RW.g (b := ((decide (((97 : Nat) : Int) ≤ ((c.toNat : Nat) : Int))) && (decide (((c.toNat : Nat) : Int) ≤ ((122 : Nat) : Int))))) (v := .bool (decide (((65 : Nat) : Int) ≤ ((c.toNat : Nat) : Int)))) rfl rfl rfl (fun h => q_geq (a := ((c.toNat : Nat) : Int)) (b := ((65 : Nat) : Int)) (gv_pos h) rfl) ?_
  refine g1 ?_
  refine RW.g2 (b1 := ((decide (((97 : Nat) : Int) ≤ ((c.toNat : Nat) : Int))) && (decide (((c.toNat : Nat) : Int) ≤ ((122 : Nat) : Int))))) (b2 := (decide (((65 : Nat) : Int) ≤ ((c.toNat : Nat) : Int)))) (v := .int .u8 ((c.toNat : Nat) : Int)) rfl rfl rfl (fun hg1 hg2 => q_move rfl) ?_
  refine RW.g2 (b1 := ((decide (((97 : Nat) : Int) ≤ ((c.toNat : Nat) : Int))) && (decide (((c.toNat : Nat) : Int) ≤ ((122 : Nat) : Int))))) (b2 := (decide (((65 : Nat) : Int) ≤ ((c.toNat : Nat) : Int)))) (v := .bool (decide (((c.toNat : Nat) : Int) ≤ ((90 : Nat) : Int)))) rfl rfl rfl (fun hg1 hg2 => q_leq (a := ((c.toNat : Nat) : Int)) (b := ((90 : Nat) : Int)) ((gv_pos hg1).trans (gv_pos hg2)) rfl) ?_
  refine RW.g (b := ((decide (((97 : Nat) : Int) ≤ ((c.toNat : Nat) : Int))) && (decide (((c.toNat : Nat) : Int) ≤ ((122 : Nat) : Int))))) (v := .bool ((decide (((65 : Nat) : Int) ≤ ((c.toNat : Nat) : Int))) && (decide (((c.toNat : Nat) : Int) ≤ ((90 : Nat) : Int))))) rfl rfl rfl (fun h => q_pick (gv_pos h) (fun hp => (gv_pos h).trans ((gv_pos hp).trans (pkAndT hp))) (fun hp => pkAndF hp)) ?_
  refine RW.q (v := .bool (((decide (((97 : Nat) : Int) ≤ ((c.toNat : Nat) : Int))) && (decide (((c.toNat : Nat) : Int) ≤ ((122 : Nat) : Int)))) || ((decide (((65 : Nat) : Int) ≤ ((c.toNat : Nat) : Int))) && (decide (((c.toNat : Nat) : Int) ≤ ((90 : Nat) : Int)))))) rfl (q_pick rfl (fun hp => pkOrT hp) (fun hp => (gv_pos hp).trans (pkOrF hp))) ?_
  refine g4 ?_
  exact fin_val (v' := .bool (((decide (((97 : Nat) : Int) ≤ ((c.toNat : Nat) : Int))) && (decide (((c.toNat : Nat) : Int) ≤ ((122 : Nat) : Int)))) || ((decide (((65 : Nat) : Int) ≤ ((c.toNat : Nat) : Int))) && (decide (((c.toNat : Nat) : Int) ≤ ((90 : Nat) : Int)))))) rfl rfl rfl (congrArg Value.bool (by unfold Lx.isL; rw [Bool.eq_iff_iff]; simp only [Bool.and_eq_true, Bool.or_eq_true, Bool.not_eq_true', decide_eq_true_eq, decide_eq_false_iff_not]; omega))

set_option maxRecDepth 8000 in
set_option maxHeartbeats 1000000 in
theorem digit_c (w : World) (Φ : Hp) (hΦ : Hp.le Φ (hp w)) {c : UInt8} :
    Calls Tryd.prog 61 #[.int .u8 ((c.toNat : Nat) : Int)] w fun e w' => e = .returned (.bool (Lx.isD c)) ∧ Bel w.heap.size w w' := by
  refine calls_of_AW (args := [.int .u8 ((c.toNat : Nat) : Int)]) Tryd.func61 rfl (Nat.le_of_ble_eq_true rfl) (St ⟨w, Φ, []⟩ Φ []) (StP.init w Φ hΦ []) ?_
  show AW Tryd.prog 9 [] _ _ _ [(0, .int .u8 ((c.toNat : Nat) : Int))] _
  refine g8 ?_
  refine RW.q (v := .bool (decide (((48 : Nat) : Int) ≤ ((c.toNat : Nat) : Int)))) rfl (q_geq (a := ((c.toNat : Nat) : Int)) (b := ((48 : Nat) : Int)) rfl rfl) ?_
  refine g2 ?_
  refine RW.g (b := (decide (((48 : Nat) : Int) ≤ ((c.toNat : Nat) : Int)))) (v := .bool (decide (((c.toNat : Nat) : Int) ≤ ((57 : Nat) : Int)))) rfl rfl rfl (fun h => q_leq (a := ((c.toNat : Nat) : Int)) (b := ((57 : Nat) : Int)) (gv_pos h) rfl) ?_
  refine RW.q (v := .bool ((decide (((48 : Nat) : Int) ≤ ((c.toNat : Nat) : Int))) && (decide (((c.toNat : Nat) : Int) ≤ ((57 : Nat) : Int))))) rfl (q_pick rfl (fun hp => (gv_pos hp).trans (pkAndT hp)) (fun hp => pkAndF hp)) ?_
  refine g4 ?_
  exact fin_val (v' := .bool ((decide (((48 : Nat) : Int) ≤ ((c.toNat : Nat) : Int))) && (decide (((c.toNat : Nat) : Int) ≤ ((57 : Nat) : Int))))) rfl rfl rfl (congrArg Value.bool (by unfold Lx.isD; rw [Bool.eq_iff_iff]; simp only [Bool.and_eq_true, Bool.or_eq_true, Bool.not_eq_true', decide_eq_true_eq, decide_eq_false_iff_not]; omega))

set_option maxRecDepth 8000 in
set_option maxHeartbeats 1000000 in
theorem inName_c (w : World) (Φ : Hp) (hΦ : Hp.le Φ (hp w)) {c : UInt8} :
    Calls Tryd.prog 60 #[.int .u8 ((c.toNat : Nat) : Int)] w fun e w' => e = .returned (.bool (Lx.inN c)) ∧ Bel w.heap.size w w' := by
  refine calls_of_AW (args := [.int .u8 ((c.toNat : Nat) : Int)]) Tryd.func60 rfl (Nat.le_of_ble_eq_true rfl) (St ⟨w, Φ, []⟩ Φ []) (StP.init w Φ hΦ []) ?_
  show AW Tryd.prog 13 [] _ _ _ [(0, .int .u8 ((c.toNat : Nat) : Int))] _
  refine g8 ?_
  refine RW.q (v := .bool (Lx.isL c)) rfl (q_call (args := #[.int .u8 ((c.toNat : Nat) : Int)]) own59 rfl rfl (fun w1 hw1 => letter_c w1 (Go.K.hp w1) (Hp.le_refl _))) ?_
  refine g2 ?_
  refine RW.g (b := (Lx.isL c)) (v := .bool (Lx.isD c)) rfl rfl rfl (fun h => q_call (args := #[.int .u8 ((c.toNat : Nat) : Int)]) own61 rfl (args1 (gv_pos h)) (fun w1 hw1 => digit_c w1 (Go.K.hp w1) (Hp.le_refl _))) ?_
  refine RW.q (v := .bool ((Lx.isL c) || (Lx.isD c))) rfl (q_pick rfl (fun hp => pkOrT hp) (fun hp => (gv_pos hp).trans (pkOrF hp))) ?_
  refine g2 ?_
  refine RW.g (b := ((Lx.isL c) || (Lx.isD c))) (v := .bool (decide (((c.toNat : Nat) : Int) = ((95 : Nat) : Int)))) rfl rfl rfl (fun h => q_eql (a := ((c.toNat : Nat) : Int)) (b := ((95 : Nat) : Int)) (gv_pos h) rfl) ?_
  refine RW.q (v := .bool (((Lx.isL c) || (Lx.isD c)) || (decide (((c.toNat : Nat) : Int) = ((95 : Nat) : Int))))) rfl (q_pick rfl (fun hp => pkOrT hp) (fun hp => (gv_pos hp).trans (pkOrF hp))) ?_
  refine g4 ?_
  exact fin_val (v' := .bool (((Lx.isL c) || (Lx.isD c)) || (decide (((c.toNat : Nat) : Int) = ((95 : Nat) : Int))))) rfl rfl rfl (congrArg Value.bool (by unfold Lx.inN; congr 1; exact decide_eq_decide.2 (by omega)))

set_option maxRecDepth 8000 in
set_option maxHeartbeats 1000000 in
theorem inString_c (w : World) (Φ : Hp) (hΦ : Hp.le Φ (hp w)) {c : UInt8} :
    Calls Tryd.prog 62 #[.int .u8 ((c.toNat : Nat) : Int)] w fun e w' => e = .returned (.bool (Lx.inS c)) ∧ Bel w.heap.size w w' := by
  refine calls_of_AW (args := [.int .u8 ((c.toNat : Nat) : Int)]) Tryd.func62 rfl (Nat.le_of_ble_eq_true rfl) (St ⟨w, Φ, []⟩ Φ []) (StP.init w Φ hΦ []) ?_
  show AW Tryd.prog 17 [] _ _ _ [(0, .int .u8 ((c.toNat : Nat) : Int))] _
  refine g8 ?_
  refine RW.q (v := .bool (decide (((32 : Nat) : Int) ≤ ((c.toNat : Nat) : Int)))) rfl (q_geq (a := ((c.toNat : Nat) : Int)) (b := ((32 : Nat) : Int)) rfl rfl) ?_
  refine g2 ?_
  refine RW.g (b := (decide (((32 : Nat) : Int) ≤ ((c.toNat : Nat) : Int)))) (v := .bool (decide (((c.toNat : Nat) : Int) ≤ ((126 : Nat) : Int)))) rfl rfl rfl (fun h => q_leq (a := ((c.toNat : Nat) : Int)) (b := ((126 : Nat) : Int)) (gv_pos h) rfl) ?_
  refine RW.q (v := .bool ((decide (((32 : Nat) : Int) ≤ ((c.toNat : Nat) : Int))) && (decide (((c.toNat : Nat) : Int) ≤ ((126 : Nat) : Int))))) rfl (q_pick rfl (fun hp => (gv_pos hp).trans (pkAndT hp)) (fun hp => pkAndF hp)) ?_
  refine g2 ?_
  refine RW.g (b := ((decide (((32 : Nat) : Int) ≤ ((c.toNat : Nat) : Int))) && (decide (((c.toNat : Nat) : Int) ≤ ((126 : Nat) : Int))))) (v := .bool (!decide (((c.toNat : Nat) : Int) = ((34 : Nat) : Int)))) rfl rfl rfl (fun h => q_neq (a := ((c.toNat : Nat) : Int)) (b := ((34 : Nat) : Int)) (gv_pos h) rfl) ?_
  refine RW.q (v := .bool (((decide (((32 : Nat) : Int) ≤ ((c.toNat : Nat) : Int))) && (decide (((c.toNat : Nat) : Int) ≤ ((126 : Nat) : Int)))) && (!decide (((c.toNat : Nat) : Int) = ((34 : Nat) : Int))))) rfl (q_pick rfl (fun hp => (gv_pos hp).trans (pkAndT hp)) (fun hp => pkAndF hp)) ?_
  refine g2 ?_
  refine RW.g (b := (((decide (((32 : Nat) : Int) ≤ ((c.toNat : Nat) : Int))) && (decide (((c.toNat : Nat) : Int) ≤ ((126 : Nat) : Int)))) && (!decide (((c.toNat : Nat) : Int) = ((34 : Nat) : Int))))) (v := .bool (!decide (((c.toNat : Nat) : Int) = ((92 : Nat) : Int)))) rfl rfl rfl (fun h => q_neq (a := ((c.toNat : Nat) : Int)) (b := ((92 : Nat) : Int)) (gv_pos h) rfl) ?_
  refine RW.q (v := .bool ((((decide (((32 : Nat) : Int) ≤ ((c.toNat : Nat) : Int))) && (decide (((c.toNat : Nat) : Int) ≤ ((126 : Nat) : Int)))) && (!decide (((c.toNat : Nat) : Int) = ((34 : Nat) : Int)))) && (!decide (((c.toNat : Nat) : Int) = ((92 : Nat) : Int))))) rfl (q_pick rfl (fun hp => (gv_pos hp).trans (pkAndT hp)) (fun hp => pkAndF hp)) ?_
  refine g4 ?_
  exact fin_val (v' := .bool ((((decide (((32 : Nat) : Int) ≤ ((c.toNat : Nat) : Int))) && (decide (((c.toNat : Nat) : Int) ≤ ((126 : Nat) : Int)))) && (!decide (((c.toNat : Nat) : Int) = ((34 : Nat) : Int)))) && (!decide (((c.toNat : Nat) : Int) = ((92 : Nat) : Int))))) rfl rfl rfl (congrArg Value.bool (by unfold Lx.inS; rw [Bool.eq_iff_iff]; simp only [Bool.and_eq_true, Bool.or_eq_true, Bool.not_eq_true', decide_eq_true_eq, decide_eq_false_iff_not]; omega))

set_option maxRecDepth 8000 in
set_option maxHeartbeats 1000000 in
theorem skip1_c (w : World) (Φ : Hp) (hΦ : Hp.le Φ (hp w)) {c : UInt8} :
    Calls Tryd.prog 58 #[.int .u8 ((c.toNat : Nat) : Int)] w fun e w' => e = .returned (.bool (Lx.nNl c)) ∧ Bel w.heap.size w w' := by
  refine calls_of_AW (args := [.int .u8 ((c.toNat : Nat) : Int)]) Tryd.func58 rfl (Nat.le_of_ble_eq_true rfl) (St ⟨w, Φ, []⟩ Φ []) (StP.init w Φ hΦ []) ?_
  show AW Tryd.prog 5 [] _ _ _ [(0, .int .u8 ((c.toNat : Nat) : Int))] _
  refine g8 ?_
  refine RW.q (v := .bool (!decide (((c.toNat : Nat) : Int) = ((10 : Nat) : Int)))) rfl (q_neq (a := ((c.toNat : Nat) : Int)) (b := ((10 : Nat) : Int)) rfl rfl) ?_
  refine g4 ?_
  exact fin_val (v' := .bool (!decide (((c.toNat : Nat) : Int) = ((10 : Nat) : Int)))) rfl rfl rfl (congrArg Value.bool (by unfold Lx.nNl; rw [Bool.eq_iff_iff]; simp only [Bool.and_eq_true, Bool.or_eq_true, Bool.not_eq_true', decide_eq_true_eq, decide_eq_false_iff_not]; omega))

set_option maxRecDepth 8000 in
set_option maxHeartbeats 1000000 in
theorem run_c (w : World) (Φ : Hp) (hΦ : Hp.le Φ (hp w)) {l : List UInt8} {a : Nat} (hl : l.length ≤ 1099511627776) (ha : a ≤ l.length) {k : Nat} (hk : Own Tryd.prog k) {p : UInt8 → Bool} (hp : ∀ (w : World) (c : UInt8), Calls Tryd.prog k #[.int .u8 ((c.toNat : Nat) : Int)] w fun e w' => e = .returned (.bool (p c)) ∧ Bel w.heap.size w w') :
    Calls Tryd.prog 57 #[.string (bs l), .int .i64 (a : Int), .func (.func k) #[] #[]] w fun e w' => e = .returned (.int .i64 ((a + Lx.run p (l.drop a) : Nat) : Int)) ∧ Bel w.heap.size w w' := by
  refine calls_of_AW (args := [.string (bs l), .int .i64 (a : Int), .func (.func k) #[] #[]]) Tryd.func57 rfl (Nat.le_of_ble_eq_true rfl) (St ⟨w, Φ, []⟩ Φ []) (StP.init w Φ hΦ []) ?_
  show AW Tryd.prog 21 [] _ _ _ [(0, .string (bs l)), (1, .int .i64 (a : Int)), (2, .func (.func k) #[] #[])] _
  refine g7 ?_
  refine AW.loop (fun s J m => ∃ (i : Nat), s = [(0, .string (bs l)), (2, .func (.func k) #[] #[]), (1, .int .i64 (i : Int))] ∧ J = St ⟨w, Φ, []⟩ Φ [] ∧ m = l.length - i ∧ (a ≤ i) ∧ (i ≤ l.length) ∧ (i + Lx.run p (l.drop i) = a + Lx.run p (l.drop a))) (s0 := _) (J1 := _) (m0 := _) ⟨a, rfl, rfl, rfl, (Nat.le_refl _), ha, rfl⟩ ⟨rfl, rfl, rfl, trivial⟩ (fun _ h => h) ?_
  rintro _ _ _ _ ⟨i, rfl, rfl, rfl, hai, hil, hE⟩
  refine g5 ?_
  refine RW.q (v := .int .i64 ((l.length : Nat) : Int)) rfl (q_lenS (l := l) rfl Tryd.underlying9) ?_
  refine g5 ?_
  refine RW.g (b := (decide ((i : Int) < ((l.length : Nat) : Int)))) (v := .int .u8 (((l.getD i 0).toNat : Nat) : Int)) rfl rfl rfl (fun h => q_indexS (l := l) (i := (i : Int)) (gv_pos h) (gv_pos h) Tryd.underlying9 (by (try simp [-List.getD_eq_getElem?_getD] at h); omega) (by (try simp [-List.getD_eq_getElem?_getD] at h); omega)) ?_
  refine RW.g (b := (decide ((i : Int) < ((l.length : Nat) : Int)))) (v := .bool (p (l.getD i 0))) rfl rfl rfl (fun h => q_call (args := #[.int .u8 (((l.getD i 0).toNat : Nat) : Int)]) (first := #[]) (capt := #[]) hk (gv_pos h) (args1 (gv_pos h)) (fun w1 _ => hp w1 (l.getD i 0))) ?_
  obtain ⟨qb1, hqb1⟩ : ∃ qz : Bool, ((decide ((i : Int) < ((l.length : Nat) : Int))) && (p (l.getD i 0))) = qz := ⟨_, rfl⟩
  refine RW.q (v := .bool qb1) rfl (q_as (v := .bool ((decide ((i : Int) < ((l.length : Nat) : Int))) && (p (l.getD i 0)))) (q_pick rfl (fun hp => (gv_pos hp).trans (pkAndT hp)) (fun hp => pkAndF hp)) (congrArg Value.bool hqb1)) ?_
  subst hqb1
  refine g2 ?_
  refine AW.cond rfl (fun hc1 => ?_) fun hc1 => ?_
  · simp [-List.getD_eq_getElem?_getD] at hc1
    have hpi : p (l.getD i 0) = true := by
      first | exact hc1.2 | (simp only [Bool.and_eq_true] at hc1; exact hc1.2)
    have hil2 : i < l.length := by first | omega | (have := hc1.1; simp at this; omega)
    refine g9 ?_
    exact Post.back (s' := _) (J' := _) (m' := _) (by omega) ⟨i + 1, rfl, rfl, rfl, (by omega), (by omega), (by rw [← hE, Lx.run_yes (show i < l.length by omega) hpi]; omega)⟩ ⟨rfl, rfl, rfl, trivial⟩ (fun _ h => h)
  · simp [-List.getD_eq_getElem?_getD] at hc1
    refine g12 ?_
    have hrz : Lx.run p (l.drop i) = 0 := by
      by_cases h9 : i < l.length
      · have hpi : p (l.getD i 0) = false := by
          cases h8 : p (l.getD i 0) with
          | false => rfl
          | true => exact absurd h8 (by simpa [h9] using hc1)
        exact Lx.run_no h9 hpi
      · exact Lx.run_end (by omega)
    exact fin_val (v' := .int .i64 (i : Int)) rfl rfl rfl (by rw [← hE, hrz]; simp)

set_option maxRecDepth 8000 in
set_option maxHeartbeats 1000000 in
theorem skip_c (w : World) (Φ : Hp) (hΦ : Hp.le Φ (hp w)) {l : List UInt8} {a : Nat} (hl : l.length ≤ 1099511627776) (ha : a ≤ l.length) :
    Calls Tryd.prog 40 #[.string (bs l), .int .i64 (a : Int)] w fun e w' => e = .returned (.int .i64 ((a + Lx.skp false (l.drop a) : Nat) : Int)) ∧ Bel w.heap.size w w' := by
  refine calls_of_AW (args := [.string (bs l), .int .i64 (a : Int)]) Tryd.func40 rfl (Nat.le_of_ble_eq_true rfl) (St ⟨w, Φ, []⟩ Φ []) (StP.init w Φ hΦ []) ?_
  show AW Tryd.prog 26 [] _ _ _ [(0, .string (bs l)), (1, .int .i64 (a : Int))] _
  refine g7 ?_
  refine AW.loop (fun s J m => ∃ (i : Nat), s = [(0, .string (bs l)), (1, .int .i64 (i : Int))] ∧ J = St ⟨w, Φ, []⟩ Φ [] ∧ m = l.length - i ∧ (a ≤ i) ∧ (i ≤ l.length) ∧ (i + Lx.skp false (l.drop i) = a + Lx.skp false (l.drop a))) (s0 := _) (J1 := _) (m0 := _) ⟨a, rfl, rfl, rfl, (Nat.le_refl _), ha, rfl⟩ ⟨rfl, rfl, trivial⟩ (fun _ h => h) ?_
  rintro _ _ _ _ ⟨i, rfl, rfl, rfl, hai, hil, hE⟩
  refine g5 ?_
  refine RW.q (v := .int .i64 ((l.length : Nat) : Int)) rfl (q_lenS (l := l) rfl Tryd.underlying9) ?_
  refine g3 ?_
  refine AW.cond rfl (fun hc1 => ?_) fun hc1 => ?_
  · simp [-List.getD_eq_getElem?_getD] at hc1
    have hil2 : i < l.length := by omega
    refine g7 ?_
    refine RW.q (v := .int .u8 (((l.getD i 0).toNat : Nat) : Int)) rfl (q_indexS (l := l) (i := (i : Int)) rfl rfl Tryd.underlying9 (by omega) (by omega)) ?_
    refine g6 ?_
    refine RW.q (v := .bool (decide ((((l.getD i 0).toNat : Nat) : Int) = ((9 : Nat) : Int)))) rfl (q_eql (a := (((l.getD i 0).toNat : Nat) : Int)) (b := ((9 : Nat) : Int)) rfl rfl) ?_
    refine g3 ?_
    refine AW.orCh (t := 13) (x := 11) (a := (((l.getD i 0).toNat : Nat) : Int)) rfl rfl _ rfl rfl rfl rfl fun _ => ?_
    refine g1 ?_
    refine AW.cond rfl (fun hc2 => ?_) fun hc2 => ?_
    · simp [-List.getD_eq_getElem?_getD] at hc2
      refine g7 ?_
      have hws : Lx.ws (l.getD i 0) = true := by unfold Lx.ws; exact decide_eq_true (by omega)
      exact Post.back (s' := _) (J' := _) (m' := _) (by omega) ⟨i + 1, rfl, rfl, rfl, (by omega), (by omega), (by rw [← hE, Lx.skp_ws hil2 hws]; omega)⟩ ⟨rfl, rfl, trivial⟩ (fun _ h => h)
    · simp [-List.getD_eq_getElem?_getD] at hc2
      refine g2 ?_
      refine RW.q (v := .bool (decide ((((l.getD i 0).toNat : Nat) : Int) = ((35 : Nat) : Int)))) rfl (q_eql (a := (((l.getD i 0).toNat : Nat) : Int)) (b := ((35 : Nat) : Int)) rfl rfl) ?_
      refine g3 ?_
      refine AW.cond rfl (fun hc3 => ?_) fun hc3 => ?_
      · simp [-List.getD_eq_getElem?_getD] at hc3
        refine g3 ?_
        refine RW.q (v := .int .i64 ((i + Lx.run Lx.nNl (l.drop i) : Nat) : Int)) rfl (q_call (args := #[.string (bs l), .int .i64 (i : Int), .func (.func 58) #[] #[]]) own57 rfl rfl (fun w1 hw1 => run_c w1 (Go.K.hp w1) (Hp.le_refl _) (by omega) (by omega) own58 (fun w2 c => skip1_c w2 (Go.K.hp w2) (Hp.le_refl _)))) ?_
        refine g4 ?_
        have hr1 := Lx.run_yes (p := Lx.nNl) hil2 (by unfold Lx.nNl; exact decide_eq_true (by omega))
        have hr2 := Lx.run_drop_le Lx.nNl l i (by omega)
        exact Post.back (s' := _) (J' := _) (m' := _) (by omega) ⟨i + Lx.run Lx.nNl (l.drop i), rfl, rfl, rfl, (by omega), (by omega), (by rw [← hE, Lx.skp_com hil2 (by omega)]; omega)⟩ ⟨rfl, rfl, trivial⟩ (fun _ h => h)
      · simp [-List.getD_eq_getElem?_getD] at hc3
        refine g12 ?_
        exact fin_val (v' := .int .i64 (i : Int)) rfl rfl rfl (by rw [← hE, Lx.skp_no hil2 (by unfold Lx.ws; exact decide_eq_false (by omega)) (by omega)]; simp)
  · simp [-List.getD_eq_getElem?_getD] at hc1
    refine g12 ?_
    exact fin_val (v' := .int .i64 (i : Int)) rfl rfl rfl (by rw [← hE, Lx.skp_end (by omega)]; simp)

end Go.Proofs.YtjcahklnkakklaaDoor
