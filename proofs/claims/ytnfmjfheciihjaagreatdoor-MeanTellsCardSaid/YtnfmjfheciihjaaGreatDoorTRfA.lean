/- Lemmas. Conditions: those of each theorem. -/
import Derived.Test.YtnfmjfheciihjaaGreatDoorTLexP
import Derived.Test.YtnfmjfheciihjaaGreatDoorTSw
set_option maxRecDepth 8000
set_option maxHeartbeats 16000000
namespace Go.Proofs.YtnfmjfheciihjaaGreatDoor
open Go Go.K Go.RowKit
attribute [local irreducible] AW RW DW Post Qt

end Go.Proofs.YtnfmjfheciihjaaGreatDoor
namespace Lx
theorem run_gt {l : List UInt8} {k : Nat} : 0 < run isD (l.drop k) ↔ k < l.length ∧ isD (l.getD k 0) = true := by
  constructor
  · intro h
    by_cases h1 : k < l.length
    · refine ⟨h1, ?_⟩
      cases h2 : isD (l.getD k 0) with
      | true => rfl
      | false => rw [run_no h1 h2] at h; omega
    · rw [run_end (by omega)] at h; omega
  · rintro ⟨h1, h2⟩
    rw [run_yes h1 h2]; omega
theorem numN_ref {l : List UInt8} {a : Nat} : numN (l.drop a) = if a + run isD (l.drop a) < l.length ∧ (l.getD (a + run isD (l.drop a)) 0).toNat = 46 ∧ 0 < run isD (l.drop (a + run isD (l.drop a) + 1)) then run isD (l.drop a) + 1 + run isD (l.drop (a + run isD (l.drop a) + 1)) else run isD (l.drop a) := by
  unfold numN
  rw [getD_drop, getD_drop, List.drop_drop, List.length_drop]
  simp only [← Nat.add_assoc, run_gt]
  by_cases h : a + run isD (l.drop a) + 1 < l.length
  · by_cases h2 : (l.getD (a + run isD (l.drop a)) 0).toNat = 46 ∧ isD (l.getD (a + run isD (l.drop a) + 1) 0) = true
    · rw [if_pos ⟨by omega, h2⟩, if_pos ⟨by omega, h2.1, h, h2.2⟩]
    · rw [if_neg (fun h3 => h2 h3.2), if_neg (fun h3 => h2 ⟨h3.2.1, h3.2.2.2⟩)]
  · rw [if_neg (fun h3 => h (by omega)), if_neg (fun h3 => h h3.2.2.1)]
def quo (l : List UInt8) : Nat := if run inS (l.drop 1) + 1 < l.length ∧ (l.getD (run inS (l.drop 1) + 1) 0).toNat = 34 ∧ run inS (l.drop 1) ≤ 500 then run inS (l.drop 1) + 2 else 0
theorem quo_ref {l : List UInt8} {a : Nat} : quo (l.drop a) = if a + run inS (l.drop (a + 1)) + 1 < l.length ∧ (l.getD (a + run inS (l.drop (a + 1)) + 1) 0).toNat = 34 ∧ run inS (l.drop (a + 1)) ≤ 500 then run inS (l.drop (a + 1)) + 2 else 0 := by
  unfold quo
  rw [List.drop_drop, getD_drop, List.length_drop]
  simp only [← Nat.add_assoc]
  by_cases h : a + run inS (l.drop (a + 1)) + 1 < l.length
  · by_cases h2 : (l.getD (a + run inS (l.drop (a + 1)) + 1) 0).toNat = 34 ∧ run inS (l.drop (a + 1)) ≤ 500
    · rw [if_pos ⟨by omega, h2⟩, if_pos ⟨h, h2⟩]
    · rw [if_neg (fun h3 => h2 h3.2), if_neg (fun h3 => h2 h3.2)]
  · rw [if_neg (fun h3 => h (by omega)), if_neg (fun h3 => h h3.1)]
end Lx
namespace Go.Proofs.YtnfmjfheciihjaaGreatDoor
open Go Go.K Go.RowKit
attribute [local irreducible] AW RW DW Post Qt
theorem fletter_c (w : World) (Φ : Hp) (hΦ : Hp.le Φ (hp w)) {c : UInt8} :
    Calls pg 132 #[.int .u8 ((c.toNat : Nat) : Int)] w fun e w' => e = .returned (.bool (Lx.isL c)) ∧ Bel w.heap.size w w' := by
  refine calls_of_AW (args := [.int .u8 ((c.toNat : Nat) : Int)]) Tryz.func132 rfl (lBT rfl) (St ⟨w, Φ, []⟩ Φ []) (StP.init w Φ hΦ []) ?_
  show AW pg 17 [] _ _ _ [(0, .int .u8 ((c.toNat : Nat) : Int))] _
  refine g8 ?_
  refine RW.q (v := .bool (decide (((97 : Nat) : Int) ≤ ((c.toNat : Nat) : Int)))) rfl (q_geq (a := ((c.toNat : Nat) : Int)) (b := ((97 : Nat) : Int)) rfl rfl) ?_
  refine g2 ?_
  refine RW.g (b := (decide (((97 : Nat) : Int) ≤ ((c.toNat : Nat) : Int)))) (v := .bool (decide (((c.toNat : Nat) : Int) ≤ ((122 : Nat) : Int)))) rfl rfl rfl (fun h => q_leq (a := ((c.toNat : Nat) : Int)) (b := ((122 : Nat) : Int)) (gv_pos h) rfl) ?_
  refine RW.q (v := .bool ((decide (((97 : Nat) : Int) ≤ ((c.toNat : Nat) : Int))) && (decide (((c.toNat : Nat) : Int) ≤ ((122 : Nat) : Int))))) rfl (qpA rfl rfl rfl) ?_
  refine g2 ?_
  refine RW.g (b := ((decide (((97 : Nat) : Int) ≤ ((c.toNat : Nat) : Int))) && (decide (((c.toNat : Nat) : Int) ≤ ((122 : Nat) : Int))))) (v := .bool (decide (((65 : Nat) : Int) ≤ ((c.toNat : Nat) : Int)))) rfl rfl rfl (fun h => q_geq (a := ((c.toNat : Nat) : Int)) (b := ((65 : Nat) : Int)) (gv_pos h) rfl) ?_
  refine g1 ?_
  refine RW.g2 (b1 := ((decide (((97 : Nat) : Int) ≤ ((c.toNat : Nat) : Int))) && (decide (((c.toNat : Nat) : Int) ≤ ((122 : Nat) : Int))))) (b2 := (decide (((65 : Nat) : Int) ≤ ((c.toNat : Nat) : Int)))) (v := .int .u8 ((c.toNat : Nat) : Int)) rfl rfl rfl (fun hg1 hg2 => q_move rfl) ?_
  refine RW.g2 (b1 := ((decide (((97 : Nat) : Int) ≤ ((c.toNat : Nat) : Int))) && (decide (((c.toNat : Nat) : Int) ≤ ((122 : Nat) : Int))))) (b2 := (decide (((65 : Nat) : Int) ≤ ((c.toNat : Nat) : Int)))) (v := .bool (decide (((c.toNat : Nat) : Int) ≤ ((90 : Nat) : Int)))) rfl rfl rfl (fun hg1 hg2 => q_leq (a := ((c.toNat : Nat) : Int)) (b := ((90 : Nat) : Int)) ((gv_pos hg1).trans (gv_pos hg2)) rfl) ?_
  refine RW.g (b := ((decide (((97 : Nat) : Int) ≤ ((c.toNat : Nat) : Int))) && (decide (((c.toNat : Nat) : Int) ≤ ((122 : Nat) : Int))))) (v := .bool ((decide (((65 : Nat) : Int) ≤ ((c.toNat : Nat) : Int))) && (decide (((c.toNat : Nat) : Int) ≤ ((90 : Nat) : Int))))) rfl rfl rfl (fun h => q_pick (gv_pos h) (fun hp => (gv_pos h).trans ((gv_pos hp).trans (pkAndT hp))) (fun hp => pkAndF hp)) ?_
  refine RW.q (v := .bool (((decide (((97 : Nat) : Int) ≤ ((c.toNat : Nat) : Int))) && (decide (((c.toNat : Nat) : Int) ≤ ((122 : Nat) : Int)))) || ((decide (((65 : Nat) : Int) ≤ ((c.toNat : Nat) : Int))) && (decide (((c.toNat : Nat) : Int) ≤ ((90 : Nat) : Int)))))) rfl (qpO rfl rfl rfl) ?_
  refine g4 ?_
  exact fin_val (v' := .bool (((decide (((97 : Nat) : Int) ≤ ((c.toNat : Nat) : Int))) && (decide (((c.toNat : Nat) : Int) ≤ ((122 : Nat) : Int)))) || ((decide (((65 : Nat) : Int) ≤ ((c.toNat : Nat) : Int))) && (decide (((c.toNat : Nat) : Int) ≤ ((90 : Nat) : Int)))))) rfl rfl rfl (congrArg Value.bool (by unfold Lx.isL; rw [Bool.eq_iff_iff]; simp only [Bool.and_eq_true, Bool.or_eq_true, decide_eq_true_eq]; omega))

theorem fdigit_c (w : World) (Φ : Hp) (hΦ : Hp.le Φ (hp w)) {c : UInt8} :
    Calls pg 134 #[.int .u8 ((c.toNat : Nat) : Int)] w fun e w' => e = .returned (.bool (Lx.isD c)) ∧ Bel w.heap.size w w' := by
  refine calls_of_AW (args := [.int .u8 ((c.toNat : Nat) : Int)]) Tryz.func134 rfl (lBT rfl) (St ⟨w, Φ, []⟩ Φ []) (StP.init w Φ hΦ []) ?_
  show AW pg 9 [] _ _ _ [(0, .int .u8 ((c.toNat : Nat) : Int))] _
  refine g8 ?_
  refine RW.q (v := .bool (decide (((48 : Nat) : Int) ≤ ((c.toNat : Nat) : Int)))) rfl (q_geq (a := ((c.toNat : Nat) : Int)) (b := ((48 : Nat) : Int)) rfl rfl) ?_
  refine g2 ?_
  refine RW.g (b := (decide (((48 : Nat) : Int) ≤ ((c.toNat : Nat) : Int)))) (v := .bool (decide (((c.toNat : Nat) : Int) ≤ ((57 : Nat) : Int)))) rfl rfl rfl (fun h => q_leq (a := ((c.toNat : Nat) : Int)) (b := ((57 : Nat) : Int)) (gv_pos h) rfl) ?_
  refine RW.q (v := .bool ((decide (((48 : Nat) : Int) ≤ ((c.toNat : Nat) : Int))) && (decide (((c.toNat : Nat) : Int) ≤ ((57 : Nat) : Int))))) rfl (qpA rfl rfl rfl) ?_
  refine g4 ?_
  exact fin_val (v' := .bool ((decide (((48 : Nat) : Int) ≤ ((c.toNat : Nat) : Int))) && (decide (((c.toNat : Nat) : Int) ≤ ((57 : Nat) : Int))))) rfl rfl rfl (congrArg Value.bool (by unfold Lx.isD; rw [Bool.eq_iff_iff]; simp only [Bool.and_eq_true, decide_eq_true_eq]; omega))

theorem fblank_c (w : World) (Φ : Hp) (hΦ : Hp.le Φ (hp w)) {c : UInt8} :
    Calls pg 131 #[.int .u8 ((c.toNat : Nat) : Int)] w fun e w' => e = .returned (.bool (Lx.ws c)) ∧ Bel w.heap.size w w' := by
  refine calls_of_AW (args := [.int .u8 ((c.toNat : Nat) : Int)]) Tryz.func131 rfl (lBT rfl) (St ⟨w, Φ, []⟩ Φ []) (StP.init w Φ hΦ []) ?_
  show AW pg 17 [] _ _ _ [(0, .int .u8 ((c.toNat : Nat) : Int))] _
  refine g8 ?_
  refine RW.q (v := .bool (decide (((c.toNat : Nat) : Int) = ((9 : Nat) : Int)))) rfl (q_eql (a := ((c.toNat : Nat) : Int)) (b := ((9 : Nat) : Int)) rfl rfl) ?_
  refine g2 ?_
  refine RW.g (b := (decide (((c.toNat : Nat) : Int) = ((9 : Nat) : Int)))) (v := .bool (decide (((c.toNat : Nat) : Int) = ((10 : Nat) : Int)))) rfl rfl rfl (fun h => q_eql (a := ((c.toNat : Nat) : Int)) (b := ((10 : Nat) : Int)) (gv_pos h) rfl) ?_
  refine RW.q (v := .bool ((decide (((c.toNat : Nat) : Int) = ((9 : Nat) : Int))) || (decide (((c.toNat : Nat) : Int) = ((10 : Nat) : Int))))) rfl (qpO rfl rfl rfl) ?_
  refine g2 ?_
  refine RW.g (b := ((decide (((c.toNat : Nat) : Int) = ((9 : Nat) : Int))) || (decide (((c.toNat : Nat) : Int) = ((10 : Nat) : Int))))) (v := .bool (decide (((c.toNat : Nat) : Int) = ((13 : Nat) : Int)))) rfl rfl rfl (fun h => q_eql (a := ((c.toNat : Nat) : Int)) (b := ((13 : Nat) : Int)) (gv_pos h) rfl) ?_
  refine RW.q (v := .bool (((decide (((c.toNat : Nat) : Int) = ((9 : Nat) : Int))) || (decide (((c.toNat : Nat) : Int) = ((10 : Nat) : Int)))) || (decide (((c.toNat : Nat) : Int) = ((13 : Nat) : Int))))) rfl (qpO rfl rfl rfl) ?_
  refine g2 ?_
  refine RW.g (b := (((decide (((c.toNat : Nat) : Int) = ((9 : Nat) : Int))) || (decide (((c.toNat : Nat) : Int) = ((10 : Nat) : Int)))) || (decide (((c.toNat : Nat) : Int) = ((13 : Nat) : Int))))) (v := .bool (decide (((c.toNat : Nat) : Int) = ((32 : Nat) : Int)))) rfl rfl rfl (fun h => q_eql (a := ((c.toNat : Nat) : Int)) (b := ((32 : Nat) : Int)) (gv_pos h) rfl) ?_
  refine RW.q (v := .bool ((((decide (((c.toNat : Nat) : Int) = ((9 : Nat) : Int))) || (decide (((c.toNat : Nat) : Int) = ((10 : Nat) : Int)))) || (decide (((c.toNat : Nat) : Int) = ((13 : Nat) : Int)))) || (decide (((c.toNat : Nat) : Int) = ((32 : Nat) : Int))))) rfl (qpO rfl rfl rfl) ?_
  refine g4 ?_
  exact fin_val (v' := .bool ((((decide (((c.toNat : Nat) : Int) = ((9 : Nat) : Int))) || (decide (((c.toNat : Nat) : Int) = ((10 : Nat) : Int)))) || (decide (((c.toNat : Nat) : Int) = ((13 : Nat) : Int)))) || (decide (((c.toNat : Nat) : Int) = ((32 : Nat) : Int))))) rfl rfl rfl (congrArg Value.bool (by unfold Lx.ws; rw [Bool.eq_iff_iff]; simp only [Bool.or_eq_true, decide_eq_true_eq]; omega))

theorem fdigits_c (w : World) (Φ : Hp) (hΦ : Hp.le Φ (hp w)) {l : List UInt8} {a : Nat} (hl : l.length ≤ 1099511627776) (ha : a ≤ l.length) :
    Calls pg 140 #[.string (bs l), .int .i64 (a : Int)] w fun e w' => e = .returned (.int .i64 ((Lx.run Lx.isD (l.drop a) : Nat) : Int)) ∧ Bel w.heap.size w w' := by
  refine calls_of_AW (args := [.string (bs l), .int .i64 (a : Int)]) Tryz.func140 rfl (lBT rfl) (St ⟨w, Φ, []⟩ Φ []) (StP.init w Φ hΦ []) ?_
  show AW pg 23 [] _ _ _ [(0, .string (bs l)), (1, .int .i64 (a : Int))] _
  refine g12 ?_
  refine AW.loop (fun s J m => ∃ (i : Nat), s = [(0, .string (bs l)), (1, .int .i64 (a : Int)), (5, .int .i64 (i : Int))] ∧ J = St ⟨w, Φ, []⟩ Φ [] ∧ m = l.length - (a + i) ∧ (a + i ≤ l.length) ∧ (i + Lx.run Lx.isD (l.drop (a + i)) = Lx.run Lx.isD (l.drop a))) (s0 := _) (J1 := _) (m0 := _) ⟨0, rfl, rfl, rfl, (by omega), (by simp)⟩ ⟨rfl, rfl, rfl, trivial⟩ (fun _ h => h) ?_
  rintro _ _ _ _ ⟨i, rfl, rfl, rfl, hil, hE⟩
  refine g7 ?_
  refine RW.q (v := .int .i64 ((l.length : Nat) : Int)) rfl (q_lenS (l := l) rfl Tryz.underlying9) ?_
  refine g5 ?_
  refine RW.g (b := (decide (((a + i : Nat) : Int) < ((l.length : Nat) : Int)))) (v := .int .i64 ((a + i : Nat) : Int)) rfl rfl rfl (fun h => q_add (gv_pos h) (gv_pos h) (by (try simp [-List.getD_eq_getElem?_getD] at h); omega) (by (try simp [-List.getD_eq_getElem?_getD] at h); unfold I64; omega)) ?_
  refine RW.g (b := (decide (((a + i : Nat) : Int) < ((l.length : Nat) : Int)))) (v := .int .u8 (((l.getD (a + i) 0).toNat : Nat) : Int)) rfl rfl rfl (fun h => q_indexS (l := l) (i := ((a + i : Nat) : Int)) (gv_pos h) (gv_pos h) Tryz.underlying9 (by (try simp [-List.getD_eq_getElem?_getD] at h); omega) (by (try simp [-List.getD_eq_getElem?_getD] at h); omega)) ?_
  refine RW.g (b := (decide (((a + i : Nat) : Int) < ((l.length : Nat) : Int)))) (v := .bool (Lx.isD (l.getD (a + i) 0))) rfl rfl rfl (fun h => q_call (args := #[.int .u8 (((l.getD (a + i) 0).toNat : Nat) : Int)]) oK rfl (args1 (gv_pos h)) (fun w1 hw1 => fdigit_c w1 (Go.K.hp w1) (Hp.le_refl _))) ?_
  refine RW.q (v := .bool ((decide (((a + i : Nat) : Int) < ((l.length : Nat) : Int))) && (Lx.isD (l.getD (a + i) 0)))) rfl (qpA rfl rfl rfl) ?_
  refine g2 ?_
  refine AW.cond rfl (fun hc1 => ?_) fun hc1 => ?_
  · skip
    obtain ⟨hcA, hcB⟩ := Bool.and_eq_true_iff.1 hc1
    have hil2 : a + i < l.length := by have := odT hcA; omega
    have hpi : Lx.isD (l.getD (a + i) 0) = true := by
      first | exact hcB | (unfold Lx.inN; rw [← hcB]; congr 1; exact decide_eq_decide.2 (by omega))
    refine g9 ?_
    exact Post.back (s' := _) (J' := _) (m' := _) (by omega) ⟨i + 1, rfl, rfl, rfl, (by omega), (by rw [← hE, Lx.run_yes (show a + i < l.length by omega) hpi]; simp only [Nat.add_assoc]; omega)⟩ ⟨rfl, rfl, rfl, trivial⟩ (fun _ h => h)
  · skip
    refine g12 ?_
    have hrz : Lx.run Lx.isD (l.drop (a + i)) = 0 := by
      by_cases h9 : a + i < l.length
      · have h7 : decide (((a + i : Nat) : Int) < ((l.length : Nat) : Int)) = true := decide_eq_true (by omega)
        rw [h7, Bool.true_and] at hc1
        have hpi : Lx.isD (l.getD (a + i) 0) = false := by
          first | exact hc1 | (unfold Lx.inN; rw [← hc1]; congr 1; exact decide_eq_decide.2 (by omega))
        exact Lx.run_no h9 hpi
      · exact Lx.run_end (by omega)
    exact fin_val (v' := .int .i64 (i : Int)) rfl rfl rfl (by rw [← hE, hrz]; simp)

theorem fword_c (w : World) (Φ : Hp) (hΦ : Hp.le Φ (hp w)) {l : List UInt8} {a : Nat} (hl : l.length ≤ 1099511627776) (ha : a ≤ l.length) :
    Calls pg 133 #[.string (bs l), .int .i64 (a : Int)] w fun e w' => e = .returned (.int .i64 ((Lx.run Lx.inN (l.drop a) : Nat) : Int)) ∧ Bel w.heap.size w w' := by
  refine calls_of_AW (args := [.string (bs l), .int .i64 (a : Int)]) Tryz.func133 rfl (lBT rfl) (St ⟨w, Φ, []⟩ Φ []) (StP.init w Φ hΦ []) ?_
  show AW pg 39 [] _ _ _ [(0, .string (bs l)), (1, .int .i64 (a : Int))] _
  refine g12 ?_
  refine AW.loop (fun s J m => ∃ (i : Nat), s = [(0, .string (bs l)), (1, .int .i64 (a : Int)), (5, .int .i64 (i : Int))] ∧ J = St ⟨w, Φ, []⟩ Φ [] ∧ m = l.length - (a + i) ∧ (a + i ≤ l.length) ∧ (i + Lx.run Lx.inN (l.drop (a + i)) = Lx.run Lx.inN (l.drop a))) (s0 := _) (J1 := _) (m0 := _) ⟨0, rfl, rfl, rfl, (by omega), (by simp)⟩ ⟨rfl, rfl, rfl, trivial⟩ (fun _ h => h) ?_
  rintro _ _ _ _ ⟨i, rfl, rfl, rfl, hil, hE⟩
  refine g7 ?_
  refine RW.q (v := .int .i64 ((l.length : Nat) : Int)) rfl (q_lenS (l := l) rfl Tryz.underlying9) ?_
  refine g5 ?_
  refine RW.g (b := (decide (((a + i : Nat) : Int) < ((l.length : Nat) : Int)))) (v := .int .i64 ((a + i : Nat) : Int)) rfl rfl rfl (fun h => q_add (gv_pos h) (gv_pos h) (by (try simp [-List.getD_eq_getElem?_getD] at h); omega) (by (try simp [-List.getD_eq_getElem?_getD] at h); unfold I64; omega)) ?_
  refine RW.g (b := (decide (((a + i : Nat) : Int) < ((l.length : Nat) : Int)))) (v := .int .u8 (((l.getD (a + i) 0).toNat : Nat) : Int)) rfl rfl rfl (fun h => q_indexS (l := l) (i := ((a + i : Nat) : Int)) (gv_pos h) (gv_pos h) Tryz.underlying9 (by (try simp [-List.getD_eq_getElem?_getD] at h); omega) (by (try simp [-List.getD_eq_getElem?_getD] at h); omega)) ?_
  refine RW.g (b := (decide (((a + i : Nat) : Int) < ((l.length : Nat) : Int)))) (v := .bool (Lx.isL (l.getD (a + i) 0))) rfl rfl rfl (fun h => q_call (args := #[.int .u8 (((l.getD (a + i) 0).toNat : Nat) : Int)]) oK rfl (args1 (gv_pos h)) (fun w1 hw1 => fletter_c w1 (Go.K.hp w1) (Hp.le_refl _))) ?_
  refine g1 ?_
  refine RW.g2 (b1 := (decide (((a + i : Nat) : Int) < ((l.length : Nat) : Int)))) (b2 := (Lx.isL (l.getD (a + i) 0))) (v := .string (bs l)) rfl rfl rfl (fun hg1 hg2 => q_move rfl) ?_
  refine RW.g2 (b1 := (decide (((a + i : Nat) : Int) < ((l.length : Nat) : Int)))) (b2 := (Lx.isL (l.getD (a + i) 0))) (v := .int .i64 (a : Int)) rfl rfl rfl (fun hg1 hg2 => q_move rfl) ?_
  refine RW.g2 (b1 := (decide (((a + i : Nat) : Int) < ((l.length : Nat) : Int)))) (b2 := (Lx.isL (l.getD (a + i) 0))) (v := .int .i64 (i : Int)) rfl rfl rfl (fun hg1 hg2 => q_move rfl) ?_
  refine RW.g2 (b1 := (decide (((a + i : Nat) : Int) < ((l.length : Nat) : Int)))) (b2 := (Lx.isL (l.getD (a + i) 0))) (v := .int .i64 ((a + i : Nat) : Int)) rfl rfl rfl (fun hg1 hg2 => q_add ((gv_pos hg1).trans (gv_pos hg2)) ((gv_pos hg1).trans (gv_pos hg2)) (by (try simp [-List.getD_eq_getElem?_getD] at hg1); (try simp [-List.getD_eq_getElem?_getD] at hg2); omega) (by (try simp [-List.getD_eq_getElem?_getD] at hg1); (try simp [-List.getD_eq_getElem?_getD] at hg2); unfold I64; omega)) ?_
  refine RW.g2 (b1 := (decide (((a + i : Nat) : Int) < ((l.length : Nat) : Int)))) (b2 := (Lx.isL (l.getD (a + i) 0))) (v := .int .u8 (((l.getD (a + i) 0).toNat : Nat) : Int)) rfl rfl rfl (fun hg1 hg2 => q_indexS (l := l) (i := ((a + i : Nat) : Int)) ((gv_pos hg1).trans (gv_pos hg2)) ((gv_pos hg1).trans (gv_pos hg2)) Tryz.underlying9 (by (try simp [-List.getD_eq_getElem?_getD] at hg1); (try simp [-List.getD_eq_getElem?_getD] at hg2); omega) (by (try simp [-List.getD_eq_getElem?_getD] at hg1); (try simp [-List.getD_eq_getElem?_getD] at hg2); omega)) ?_
  refine RW.g2 (b1 := (decide (((a + i : Nat) : Int) < ((l.length : Nat) : Int)))) (b2 := (Lx.isL (l.getD (a + i) 0))) (v := .bool (Lx.isD (l.getD (a + i) 0))) rfl rfl rfl (fun hg1 hg2 => q_call (args := #[.int .u8 (((l.getD (a + i) 0).toNat : Nat) : Int)]) oK rfl (args1 ((gv_pos hg1).trans (gv_pos hg2))) (fun w1 hw1 => fdigit_c w1 (Go.K.hp w1) (Hp.le_refl _))) ?_
  refine RW.g (b := (decide (((a + i : Nat) : Int) < ((l.length : Nat) : Int)))) (v := .bool ((Lx.isL (l.getD (a + i) 0)) || (Lx.isD (l.getD (a + i) 0)))) rfl rfl rfl (fun h => q_pick (gv_pos h) (fun hp => pkOrT hp) (fun hp => (gv_pos h).trans ((gv_pos hp).trans (pkOrF hp)))) ?_
  refine g1 ?_
  refine RW.g2 (b1 := (decide (((a + i : Nat) : Int) < ((l.length : Nat) : Int)))) (b2 := ((Lx.isL (l.getD (a + i) 0)) || (Lx.isD (l.getD (a + i) 0)))) (v := .string (bs l)) rfl rfl rfl (fun hg1 hg2 => q_move rfl) ?_
  refine RW.g2 (b1 := (decide (((a + i : Nat) : Int) < ((l.length : Nat) : Int)))) (b2 := ((Lx.isL (l.getD (a + i) 0)) || (Lx.isD (l.getD (a + i) 0)))) (v := .int .i64 (a : Int)) rfl rfl rfl (fun hg1 hg2 => q_move rfl) ?_
  refine RW.g2 (b1 := (decide (((a + i : Nat) : Int) < ((l.length : Nat) : Int)))) (b2 := ((Lx.isL (l.getD (a + i) 0)) || (Lx.isD (l.getD (a + i) 0)))) (v := .int .i64 (i : Int)) rfl rfl rfl (fun hg1 hg2 => q_move rfl) ?_
  refine RW.g2 (b1 := (decide (((a + i : Nat) : Int) < ((l.length : Nat) : Int)))) (b2 := ((Lx.isL (l.getD (a + i) 0)) || (Lx.isD (l.getD (a + i) 0)))) (v := .int .i64 ((a + i : Nat) : Int)) rfl rfl rfl (fun hg1 hg2 => q_add ((gv_pos hg1).trans (gv_pos hg2)) ((gv_pos hg1).trans (gv_pos hg2)) (by (try simp [-List.getD_eq_getElem?_getD] at hg1); (try simp [-List.getD_eq_getElem?_getD] at hg2); omega) (by (try simp [-List.getD_eq_getElem?_getD] at hg1); (try simp [-List.getD_eq_getElem?_getD] at hg2); unfold I64; omega)) ?_
  refine RW.g2 (b1 := (decide (((a + i : Nat) : Int) < ((l.length : Nat) : Int)))) (b2 := ((Lx.isL (l.getD (a + i) 0)) || (Lx.isD (l.getD (a + i) 0)))) (v := .int .u8 (((l.getD (a + i) 0).toNat : Nat) : Int)) rfl rfl rfl (fun hg1 hg2 => q_indexS (l := l) (i := ((a + i : Nat) : Int)) ((gv_pos hg1).trans (gv_pos hg2)) ((gv_pos hg1).trans (gv_pos hg2)) Tryz.underlying9 (by (try simp [-List.getD_eq_getElem?_getD] at hg1); (try simp [-List.getD_eq_getElem?_getD] at hg2); omega) (by (try simp [-List.getD_eq_getElem?_getD] at hg1); (try simp [-List.getD_eq_getElem?_getD] at hg2); omega)) ?_
  refine RW.g2 (b1 := (decide (((a + i : Nat) : Int) < ((l.length : Nat) : Int)))) (b2 := ((Lx.isL (l.getD (a + i) 0)) || (Lx.isD (l.getD (a + i) 0)))) (v := .bool (decide ((((l.getD (a + i) 0).toNat : Nat) : Int) = ((95 : Nat) : Int)))) rfl rfl rfl (fun hg1 hg2 => q_eql (a := (((l.getD (a + i) 0).toNat : Nat) : Int)) (b := ((95 : Nat) : Int)) ((gv_pos hg1).trans (gv_pos hg2)) rfl) ?_
  refine RW.g (b := (decide (((a + i : Nat) : Int) < ((l.length : Nat) : Int)))) (v := .bool (((Lx.isL (l.getD (a + i) 0)) || (Lx.isD (l.getD (a + i) 0))) || (decide ((((l.getD (a + i) 0).toNat : Nat) : Int) = ((95 : Nat) : Int))))) rfl rfl rfl (fun h => q_pick (gv_pos h) (fun hp => pkOrT hp) (fun hp => (gv_pos h).trans ((gv_pos hp).trans (pkOrF hp)))) ?_
  refine RW.q (v := .bool ((decide (((a + i : Nat) : Int) < ((l.length : Nat) : Int))) && (((Lx.isL (l.getD (a + i) 0)) || (Lx.isD (l.getD (a + i) 0))) || (decide ((((l.getD (a + i) 0).toNat : Nat) : Int) = ((95 : Nat) : Int)))))) rfl (qpA rfl rfl rfl) ?_
  refine g2 ?_
  refine AW.cond rfl (fun hc1 => ?_) fun hc1 => ?_
  · skip
    obtain ⟨hcA, hcB⟩ := Bool.and_eq_true_iff.1 hc1
    have hil2 : a + i < l.length := by have := odT hcA; omega
    have hpi : Lx.inN (l.getD (a + i) 0) = true := by
      first | exact hcB | (unfold Lx.inN; rw [← hcB]; congr 1; exact decide_eq_decide.2 (by omega))
    refine g9 ?_
    exact Post.back (s' := _) (J' := _) (m' := _) (by omega) ⟨i + 1, rfl, rfl, rfl, (by omega), (by rw [← hE, Lx.run_yes (show a + i < l.length by omega) hpi]; simp only [Nat.add_assoc]; omega)⟩ ⟨rfl, rfl, rfl, trivial⟩ (fun _ h => h)
  · skip
    refine g12 ?_
    have hrz : Lx.run Lx.inN (l.drop (a + i)) = 0 := by
      by_cases h9 : a + i < l.length
      · have h7 : decide (((a + i : Nat) : Int) < ((l.length : Nat) : Int)) = true := decide_eq_true (by omega)
        rw [h7, Bool.true_and] at hc1
        have hpi : Lx.inN (l.getD (a + i) 0) = false := by
          first | exact hc1 | (unfold Lx.inN; rw [← hc1]; congr 1; exact decide_eq_decide.2 (by omega))
        exact Lx.run_no h9 hpi
      · exact Lx.run_end (by omega)
    exact fin_val (v' := .int .i64 (i : Int)) rfl rfl rfl (by rw [← hE, hrz]; simp)

theorem fnumber_c (w : World) (Φ : Hp) (hΦ : Hp.le Φ (hp w)) {l : List UInt8} {a : Nat} (hl : l.length ≤ 1099511627776) (ha : a ≤ l.length) :
    Calls pg 135 #[.string (bs l), .int .i64 (a : Int)] w fun e w' => e = .returned (.int .i64 ((Lx.numN (l.drop a) : Nat) : Int)) ∧ Bel w.heap.size w w' := by
  refine calls_of_AW (args := [.string (bs l), .int .i64 (a : Int)]) Tryz.func135 rfl (lBT rfl) (St ⟨w, Φ, []⟩ Φ []) (StP.init w Φ hΦ []) ?_
  show AW pg 42 [] _ _ _ [(0, .string (bs l)), (1, .int .i64 (a : Int))] _
  have hrd := Lx.run_drop_le Lx.isD l a ha
  refine g9 ?_
  refine RW.q (v := .int .i64 ((Lx.run Lx.isD (l.drop a) : Nat) : Int)) rfl (q_call (args := #[.string (bs l), .int .i64 (a : Int)]) oK rfl rfl (fun w1 hw1 => fdigits_c w1 (Go.K.hp w1) (Hp.le_refl _) (by omega) (by omega))) ?_
  refine g10 ?_
  refine RW.q (v := .int .i64 ((l.length : Nat) : Int)) rfl (q_lenS (l := l) rfl Tryz.underlying9) ?_
  refine g5 ?_
  refine RW.g (b := (decide (((a + Lx.run Lx.isD (l.drop a) : Nat) : Int) < ((l.length : Nat) : Int)))) (v := .int .i64 ((a + Lx.run Lx.isD (l.drop a) : Nat) : Int)) rfl rfl rfl (fun h => q_add (gv_pos h) (gv_pos h) (by (try simp [-List.getD_eq_getElem?_getD] at h); omega) (by (try simp [-List.getD_eq_getElem?_getD] at h); unfold I64; omega)) ?_
  refine RW.g (b := (decide (((a + Lx.run Lx.isD (l.drop a) : Nat) : Int) < ((l.length : Nat) : Int)))) (v := .int .u8 (((l.getD (a + Lx.run Lx.isD (l.drop a)) 0).toNat : Nat) : Int)) rfl rfl rfl (fun h => q_indexS (l := l) (i := ((a + Lx.run Lx.isD (l.drop a) : Nat) : Int)) (gv_pos h) (gv_pos h) Tryz.underlying9 (by (try simp [-List.getD_eq_getElem?_getD] at h); omega) (by (try simp [-List.getD_eq_getElem?_getD] at h); omega)) ?_
  refine RW.g (b := (decide (((a + Lx.run Lx.isD (l.drop a) : Nat) : Int) < ((l.length : Nat) : Int)))) (v := .bool (decide ((((l.getD (a + Lx.run Lx.isD (l.drop a)) 0).toNat : Nat) : Int) = ((46 : Nat) : Int)))) rfl rfl rfl (fun h => q_eql (a := (((l.getD (a + Lx.run Lx.isD (l.drop a)) 0).toNat : Nat) : Int)) (b := ((46 : Nat) : Int)) (gv_pos h) rfl) ?_
  refine RW.q (v := .bool ((decide (((a + Lx.run Lx.isD (l.drop a) : Nat) : Int) < ((l.length : Nat) : Int))) && (decide ((((l.getD (a + Lx.run Lx.isD (l.drop a)) 0).toNat : Nat) : Int) = ((46 : Nat) : Int))))) rfl (qpA rfl rfl rfl) ?_
  refine g4 ?_
  refine RW.g (b := ((decide (((a + Lx.run Lx.isD (l.drop a) : Nat) : Int) < ((l.length : Nat) : Int))) && (decide ((((l.getD (a + Lx.run Lx.isD (l.drop a)) 0).toNat : Nat) : Int) = ((46 : Nat) : Int))))) (v := .int .i64 ((a + Lx.run Lx.isD (l.drop a) : Nat) : Int)) rfl rfl rfl (fun h => q_add (gv_pos h) (gv_pos h) (by (try simp [-List.getD_eq_getElem?_getD] at h); omega) (by (try simp [-List.getD_eq_getElem?_getD] at h); unfold I64; omega)) ?_
  refine RW.g (b := ((decide (((a + Lx.run Lx.isD (l.drop a) : Nat) : Int) < ((l.length : Nat) : Int))) && (decide ((((l.getD (a + Lx.run Lx.isD (l.drop a)) 0).toNat : Nat) : Int) = ((46 : Nat) : Int))))) (v := .int .i64 ((a + Lx.run Lx.isD (l.drop a) + 1 : Nat) : Int)) rfl rfl rfl (fun h => q_add (gv_pos h) rfl (by (try simp [-List.getD_eq_getElem?_getD] at h); omega) (by (try simp [-List.getD_eq_getElem?_getD] at h); unfold I64; omega)) ?_
  refine RW.g (b := ((decide (((a + Lx.run Lx.isD (l.drop a) : Nat) : Int) < ((l.length : Nat) : Int))) && (decide ((((l.getD (a + Lx.run Lx.isD (l.drop a)) 0).toNat : Nat) : Int) = ((46 : Nat) : Int))))) (v := .int .i64 ((Lx.run Lx.isD (l.drop (a + Lx.run Lx.isD (l.drop a) + 1)) : Nat) : Int)) rfl rfl rfl (fun h => q_call (args := #[.string (bs l), .int .i64 ((a + Lx.run Lx.isD (l.drop a) + 1 : Nat) : Int)]) oK rfl (args2 (gv_pos h) (gv_pos h)) (fun w1 hw1 => fdigits_c w1 (Go.K.hp w1) (Hp.le_refl _) (by (try simp [-List.getD_eq_getElem?_getD] at h); omega) (by (try simp [-List.getD_eq_getElem?_getD] at h); omega))) ?_
  refine g1 ?_
  refine RW.q (v := .bool (((decide (((a + Lx.run Lx.isD (l.drop a) : Nat) : Int) < ((l.length : Nat) : Int))) && (decide ((((l.getD (a + Lx.run Lx.isD (l.drop a)) 0).toNat : Nat) : Int) = ((46 : Nat) : Int)))) && (decide ((0 : Int) < ((Lx.run Lx.isD (l.drop (a + Lx.run Lx.isD (l.drop a) + 1)) : Nat) : Int))))) rfl (qpA rfl rfl rfl) ?_
  refine g2 ?_
  refine AW.cond rfl (fun hc1 => ?_) fun hc1 => ?_
  · skip
    simp only [Bool.and_eq_true, decide_eq_true_eq] at hc1
    have hre := Lx.run_drop_le Lx.isD l (a + Lx.run Lx.isD (l.drop a) + 1) (by omega)
    refine g8 ?_
    refine RW.q (v := .int .i64 ((Lx.run Lx.isD (l.drop (a + Lx.run Lx.isD (l.drop a) + 1)) : Nat) : Int)) rfl (q_call (args := #[.string (bs l), .int .i64 ((a + Lx.run Lx.isD (l.drop a) + 1 : Nat) : Int)]) oK rfl rfl (fun w1 hw1 => fdigits_c w1 (Go.K.hp w1) (Hp.le_refl _) (by omega) (by omega))) ?_
    refine g11 ?_
    exact fin_val (v' := .int .i64 ((Lx.run Lx.isD (l.drop a) + 1 + Lx.run Lx.isD (l.drop (a + Lx.run Lx.isD (l.drop a) + 1)) : Nat) : Int)) rfl rfl rfl (by rw [Lx.numN_ref, if_pos (by omega)]; try simp; try omega)
  · skip
    simp only [Bool.and_eq_false_iff, decide_eq_false_iff_not] at hc1
    refine g9 ?_
    exact fin_val (v' := .int .i64 ((Lx.run Lx.isD (l.drop a) : Nat) : Int)) rfl rfl rfl (by rw [Lx.numN_ref, if_neg (by omega)]; try simp)

theorem fquoted_c (w : World) (Φ : Hp) (hΦ : Hp.le Φ (hp w)) {l : List UInt8} {a : Nat} (hl : l.length ≤ 1099511627776) (ha : a < l.length) :
    Calls pg 136 #[.string (bs l), .int .i64 (a : Int)] w fun e w' => e = .returned (.int .i64 ((Lx.quo (l.drop a) : Nat) : Int)) ∧ Bel w.heap.size w w' := by
  refine calls_of_AW (args := [.string (bs l), .int .i64 (a : Int)]) Tryz.func136 rfl (lBT rfl) (St ⟨w, Φ, []⟩ Φ []) (StP.init w Φ hΦ []) ?_
  show AW pg 38 [] _ _ _ [(0, .string (bs l)), (1, .int .i64 (a : Int))] _
  refine g12 ?_
  refine AW.loop (fun s J m => ∃ (i : Nat), s = [(0, .string (bs l)), (1, .int .i64 (a : Int)), (5, .int .i64 ((i + 1 : Nat) : Int))] ∧ J = St ⟨w, Φ, []⟩ Φ [] ∧ m = l.length - (a + i) ∧ (a + i < l.length) ∧ (i ≤ 501) ∧ (i + Lx.run Lx.inS (l.drop (a + 1 + i)) = Lx.run Lx.inS (l.drop (a + 1)))) (s0 := _) (J1 := _) (m0 := _) ⟨0, rfl, rfl, rfl, (by omega), (by omega), (by simp)⟩ ⟨rfl, rfl, rfl, trivial⟩ (fun _ h => h) ?_
  rintro _ _ _ _ ⟨i, rfl, rfl, rfl, hil, hi5, hE⟩
  refine g7 ?_
  refine RW.q (v := .int .i64 ((l.length : Nat) : Int)) rfl (q_lenS (l := l) rfl Tryz.underlying9) ?_
  refine g4 ?_
  refine RW.q (v := .bool ((decide (((a + i + 1 : Nat) : Int) < ((l.length : Nat) : Int))) && (decide (((i + 1 : Nat) : Int) ≤ 501)))) rfl (qpA rfl rfl rfl) ?_
  refine g2 ?_
  refine AW.cond rfl (fun hc1 => ?_) fun hc1 => ?_
  · skip
    simp only [Bool.and_eq_true, decide_eq_true_eq] at hc1
    refine g10 ?_
    refine RW.q (v := .int .u8 (((l.getD (a + i + 1) 0).toNat : Nat) : Int)) rfl (q_indexS (l := l) (i := ((a + i + 1 : Nat) : Int)) rfl rfl Tryz.underlying9 (by omega) (by omega)) ?_
    refine g7 ?_
    refine RW.q (v := .bool (decide ((((l.getD (a + i + 1) 0).toNat : Nat) : Int) = ((34 : Nat) : Int)))) rfl (q_eql (a := (((l.getD (a + i + 1) 0).toNat : Nat) : Int)) (b := ((34 : Nat) : Int)) rfl rfl) ?_
    refine g2 ?_
    refine AW.cond rfl (fun hc2 => ?_) fun hc2 => ?_
    · simp [-List.getD_eq_getElem?_getD] at hc2
      refine g14 ?_
      have hgg : (l.getD (a + (i + 1)) 0).toNat = (l.getD (a + i + 1) 0).toNat := rfl
      have hrz : Lx.run Lx.inS (l.drop (a + 1 + i)) = 0 := Lx.run_no (by omega) (by rw [show a + 1 + i = a + (i + 1) by omega]; unfold Lx.inS; exact decide_eq_false (by omega))
      have hri : Lx.run Lx.inS (l.drop (a + 1)) = i := by omega
      exact fin_val (v' := .int .i64 ((i + 1 + 1 : Nat) : Int)) rfl rfl rfl (by rw [Lx.quo_ref, hri, if_pos (by rw [show a + i + 1 = a + (i + 1) by omega]; omega)])
    · simp [-List.getD_eq_getElem?_getD] at hc2
      refine g5 ?_
      refine RW.q (v := .bool (decide ((((l.getD (a + i + 1) 0).toNat : Nat) : Int) < ((32 : Nat) : Int)))) rfl (q_lss (a := (((l.getD (a + i + 1) 0).toNat : Nat) : Int)) (b := ((32 : Nat) : Int)) rfl rfl) ?_
      refine g2 ?_
      refine RW.g (b := (decide ((((l.getD (a + i + 1) 0).toNat : Nat) : Int) < ((32 : Nat) : Int)))) (v := .bool (decide (((126 : Nat) : Int) < (((l.getD (a + i + 1) 0).toNat : Nat) : Int)))) rfl rfl rfl (fun h => q_gtr (a := (((l.getD (a + i + 1) 0).toNat : Nat) : Int)) (b := ((126 : Nat) : Int)) (gv_pos h) rfl) ?_
      refine RW.q (v := .bool ((decide ((((l.getD (a + i + 1) 0).toNat : Nat) : Int) < ((32 : Nat) : Int))) || (decide (((126 : Nat) : Int) < (((l.getD (a + i + 1) 0).toNat : Nat) : Int))))) rfl (qpO rfl rfl rfl) ?_
      refine g2 ?_
      refine RW.g (b := ((decide ((((l.getD (a + i + 1) 0).toNat : Nat) : Int) < ((32 : Nat) : Int))) || (decide (((126 : Nat) : Int) < (((l.getD (a + i + 1) 0).toNat : Nat) : Int))))) (v := .bool (decide ((((l.getD (a + i + 1) 0).toNat : Nat) : Int) = ((92 : Nat) : Int)))) rfl rfl rfl (fun h => q_eql (a := (((l.getD (a + i + 1) 0).toNat : Nat) : Int)) (b := ((92 : Nat) : Int)) (gv_pos h) rfl) ?_
      refine RW.q (v := .bool (((decide ((((l.getD (a + i + 1) 0).toNat : Nat) : Int) < ((32 : Nat) : Int))) || (decide (((126 : Nat) : Int) < (((l.getD (a + i + 1) 0).toNat : Nat) : Int)))) || (decide ((((l.getD (a + i + 1) 0).toNat : Nat) : Int) = ((92 : Nat) : Int))))) rfl (qpO rfl rfl rfl) ?_
      refine g2 ?_
      refine AW.cond rfl (fun hc3 => ?_) fun hc3 => ?_
      · simp [-List.getD_eq_getElem?_getD] at hc3
        refine g11 ?_
        have hgg : (l.getD (a + (i + 1)) 0).toNat = (l.getD (a + i + 1) 0).toNat := rfl
        have hrz : Lx.run Lx.inS (l.drop (a + 1 + i)) = 0 := Lx.run_no (by omega) (by rw [show a + 1 + i = a + (i + 1) by omega]; unfold Lx.inS; exact decide_eq_false (by omega))
        have hri : Lx.run Lx.inS (l.drop (a + 1)) = i := by omega
        exact fin_val (v' := .int .i64 0) rfl rfl rfl (by rw [Lx.quo_ref, hri, if_neg (by rw [show a + i + 1 = a + (i + 1) by omega]; omega)]; rfl)
      · simp [-List.getD_eq_getElem?_getD] at hc3
        refine g8 ?_
        have hgg : (l.getD (a + (i + 1)) 0).toNat = (l.getD (a + i + 1) 0).toNat := rfl
        have hin : Lx.inS (l.getD (a + 1 + i) 0) = true := by
          rw [show a + 1 + i = a + (i + 1) by omega]
          unfold Lx.inS
          exact decide_eq_true (by omega)
        exact Post.back (s' := _) (J' := _) (m' := _) (by omega) ⟨i + 1, rfl, rfl, rfl, (by omega), (by omega), (by rw [← hE, Lx.run_yes (show a + 1 + i < l.length by omega) hin]; simp only [Nat.add_assoc]; omega)⟩ ⟨rfl, rfl, rfl, trivial⟩ (fun _ h => h)
  · skip
    simp only [Bool.and_eq_false_iff, decide_eq_false_iff_not] at hc1
    refine g11 ?_
    have hrz : a + (i + 1) < l.length ∨ Lx.run Lx.inS (l.drop (a + 1 + i)) = 0 := by
      by_cases h9 : a + (i + 1) < l.length
      · exact .inl h9
      · exact .inr (Lx.run_end (by omega))
    exact fin_val (v' := .int .i64 0) rfl rfl rfl (by rw [Lx.quo_ref, if_neg (by omega)]; rfl)

theorem fsigned_c (w : World) (Φ : Hp) (hΦ : Hp.le Φ (hp w)) {l : List UInt8} {a : Nat} (hl : l.length ≤ 1099511627776) (ha : a < l.length) :
    Calls pg 137 #[.string (bs l), .int .i64 (a : Int)] w fun e w' => e = .returned (.int .i64 ((Lx.signN (l.drop a) : Nat) : Int)) ∧ Bel w.heap.size w w' := by
  refine calls_of_AW (args := [.string (bs l), .int .i64 (a : Int)]) Tryz.func137 rfl (lBT rfl) (St ⟨w, Φ, []⟩ Φ []) (StP.init w Φ hΦ []) ?_
  show AW pg 44 [] _ _ _ [(0, .string (bs l)), (1, .int .i64 (a : Int))] _
  have hg0 : (l.drop a).getD 0 0 = l.getD a 0 := Lx.getD_drop l a 0
  have hg1 : (l.drop a).getD 1 0 = l.getD (a + 1) 0 := Lx.getD_drop l a 1
  have hld : (l.drop a).length = l.length - a := List.length_drop
  refine g11 ?_
  refine RW.q (v := .int .i64 ((l.length : Nat) : Int)) rfl (q_lenS (l := l) rfl Tryz.underlying9) ?_
  refine g4 ?_
  refine RW.g (b := (decide (((a + 1 : Nat) : Int) < ((l.length : Nat) : Int)))) (v := .int .i64 ((a + 1 : Nat) : Int)) rfl rfl rfl (fun h => q_add (gv_pos h) rfl (by (try simp [-List.getD_eq_getElem?_getD, -Nat.reduceLeDiff] at h); omega) (by (try simp [-List.getD_eq_getElem?_getD, -Nat.reduceLeDiff] at h); unfold I64; omega)) ?_
  refine RW.g (b := (decide (((a + 1 : Nat) : Int) < ((l.length : Nat) : Int)))) (v := .int .u8 (((l.getD (a + 1) 0).toNat : Nat) : Int)) rfl rfl rfl (fun h => q_indexS (l := l) (i := ((a + 1 : Nat) : Int)) (gv_pos h) (gv_pos h) Tryz.underlying9 (by (try simp [-List.getD_eq_getElem?_getD, -Nat.reduceLeDiff] at h); omega) (by (try simp [-List.getD_eq_getElem?_getD, -Nat.reduceLeDiff] at h); omega)) ?_
  refine RW.g (b := (decide (((a + 1 : Nat) : Int) < ((l.length : Nat) : Int)))) (v := .bool (decide ((((l.getD (a + 1) 0).toNat : Nat) : Int) = ((61 : Nat) : Int)))) rfl rfl rfl (fun h => q_eql (a := (((l.getD (a + 1) 0).toNat : Nat) : Int)) (b := ((61 : Nat) : Int)) (gv_pos h) rfl) ?_
  refine RW.q (v := .bool ((decide (((a + 1 : Nat) : Int) < ((l.length : Nat) : Int))) && (decide ((((l.getD (a + 1) 0).toNat : Nat) : Int) = ((61 : Nat) : Int))))) rfl (qpA rfl rfl rfl) ?_
  refine g2 ?_
  refine AW.cond rfl (fun hc1 => ?_) fun hc1 => ?_
  · skip
    simp only [Bool.and_eq_true, decide_eq_true_eq] at hc1
    refine g4 ?_
    refine RW.q (v := .int .u8 (((l.getD a 0).toNat : Nat) : Int)) rfl (q_indexS (l := l) (i := (a : Int)) rfl rfl Tryz.underlying9 (by omega) (by omega)) ?_
    refine g6 ?_
    refine RW.q (v := .bool (decide ((((l.getD a 0).toNat : Nat) : Int) = ((60 : Nat) : Int)))) rfl (q_eql (a := (((l.getD a 0).toNat : Nat) : Int)) (b := ((60 : Nat) : Int)) rfl rfl) ?_
    refine g3 ?_
    refine AW.orCh (t := 20) (x := 19) (a := (((l.getD a 0).toNat : Nat) : Int)) rfl rfl _ rfl rfl rfl rfl fun _ => ?_
    refine g1 ?_
    refine AW.cond rfl (fun hc2 => ?_) fun hc2 => ?_
    · simp [-List.getD_eq_getElem?_getD, -Nat.reduceLeDiff] at hc2
      refine g8 ?_
      have hsg : Lx.signN (l.drop a) = 2 := by
        unfold Lx.signN
        simp only [hg0, hg1, hld]
        repeat' split
        all_goals omega
      exact fin_val (v' := .int .i64 2) rfl rfl rfl (by rw [hsg]; rfl)
    · simp [-List.getD_eq_getElem?_getD, -Nat.reduceLeDiff] at hc2
      refine g8 ?_
      refine RW.q (v := .int .u8 (((l.getD a 0).toNat : Nat) : Int)) rfl (q_indexS (l := l) (i := (a : Int)) rfl rfl Tryz.underlying9 (by omega) (by omega)) ?_
      refine g6 ?_
      refine RW.q (v := .bool (decide ((((l.getD a 0).toNat : Nat) : Int) = ((123 : Nat) : Int)))) rfl (q_eql (a := (((l.getD a 0).toNat : Nat) : Int)) (b := ((123 : Nat) : Int)) rfl rfl) ?_
      refine g3 ?_
      refine AW.orCh (t := 28) (x := 27) (a := (((l.getD a 0).toNat : Nat) : Int)) rfl rfl _ rfl rfl rfl rfl fun _ => ?_
      refine g1 ?_
      refine AW.cond rfl (fun hc3 => ?_) fun hc3 => ?_
      · simp [-List.getD_eq_getElem?_getD, -Nat.reduceLeDiff] at hc3
        refine g8 ?_
        have hsg : Lx.signN (l.drop a) = 1 := by
          unfold Lx.signN
          simp only [hg0, hg1, hld]
          repeat' split
          all_goals omega
        exact fin_val (v' := .int .i64 1) rfl rfl rfl (by rw [hsg]; rfl)
      · simp [-List.getD_eq_getElem?_getD, -Nat.reduceLeDiff] at hc3
        refine g9 ?_
        have hsg : Lx.signN (l.drop a) = 0 := by
          unfold Lx.signN
          simp only [hg0, hg1, hld]
          repeat' split
          all_goals omega
        exact fin_val (v' := .int .i64 0) rfl rfl rfl (by rw [hsg]; rfl)
  · skip
    simp only [Bool.and_eq_false_iff, decide_eq_false_iff_not] at hc1
    refine g7 ?_
    refine RW.q (v := .int .u8 (((l.getD a 0).toNat : Nat) : Int)) rfl (q_indexS (l := l) (i := (a : Int)) rfl rfl Tryz.underlying9 (by omega) (by omega)) ?_
    refine g6 ?_
    refine RW.q (v := .bool (decide ((((l.getD a 0).toNat : Nat) : Int) = ((123 : Nat) : Int)))) rfl (q_eql (a := (((l.getD a 0).toNat : Nat) : Int)) (b := ((123 : Nat) : Int)) rfl rfl) ?_
    refine g3 ?_
    refine AW.orCh (t := 28) (x := 27) (a := (((l.getD a 0).toNat : Nat) : Int)) rfl rfl _ rfl rfl rfl rfl fun _ => ?_
    refine g1 ?_
    refine AW.cond rfl (fun hc4 => ?_) fun hc4 => ?_
    · simp [-List.getD_eq_getElem?_getD, -Nat.reduceLeDiff] at hc4
      refine g8 ?_
      have hsg : Lx.signN (l.drop a) = 1 := by
        unfold Lx.signN
        simp only [hg0, hg1, hld]
        repeat' split
        all_goals omega
      exact fin_val (v' := .int .i64 1) rfl rfl rfl (by rw [hsg]; rfl)
    · simp [-List.getD_eq_getElem?_getD, -Nat.reduceLeDiff] at hc4
      refine g9 ?_
      have hsg : Lx.signN (l.drop a) = 0 := by
        unfold Lx.signN
        simp only [hg0, hg1, hld]
        repeat' split
        all_goals omega
      exact fin_val (v' := .int .i64 0) rfl rfl rfl (by rw [hsg]; rfl)

theorem fskip_c (w : World) (Φ : Hp) (hΦ : Hp.le Φ (hp w)) {l : List UInt8} {a : Nat} (hl : l.length ≤ 1099511627776) (ha : a ≤ l.length) :
    Calls pg 127 #[.string (bs l), .int .i64 (a : Int)] w fun e w' => e = .returned (.int .i64 ((a + Lx.skp false (l.drop a) : Nat) : Int)) ∧ Bel w.heap.size w w' := by
  refine calls_of_AW (args := [.string (bs l), .int .i64 (a : Int)]) Tryz.func127 rfl (lBT rfl) (St ⟨w, Φ, []⟩ Φ []) (StP.init w Φ hΦ []) ?_
  show AW pg 40 [] _ _ _ [(0, .string (bs l)), (1, .int .i64 (a : Int))] _
  refine g7 ?_
  refine AW.loop (fun s J m => ∃ (i : Nat), s = [(0, .string (bs l)), (1, .int .i64 (i : Int))] ∧ J = St ⟨w, Φ, []⟩ Φ [] ∧ m = l.length - i ∧ (a ≤ i) ∧ (i ≤ l.length) ∧ (i + Lx.skp false (l.drop i) = a + Lx.skp false (l.drop a))) (s0 := _) (J1 := _) (m0 := _) ⟨a, rfl, rfl, rfl, (Nat.le_refl _), ha, rfl⟩ ⟨rfl, rfl, trivial⟩ (fun _ h => h) ?_
  rintro _ _ _ _ ⟨i, rfl, rfl, rfl, hai, hil, hE⟩
  refine g5 ?_
  refine RW.q (v := .int .i64 ((l.length : Nat) : Int)) rfl (q_lenS (l := l) rfl Tryz.underlying9) ?_
  refine g4 ?_
  refine RW.g (b := (decide ((i : Int) < ((l.length : Nat) : Int)))) (v := .int .u8 (((l.getD i 0).toNat : Nat) : Int)) rfl rfl rfl (fun h => q_indexS (l := l) (i := (i : Int)) (gv_pos h) (gv_pos h) Tryz.underlying9 (by (try simp [-List.getD_eq_getElem?_getD] at h); omega) (by (try simp [-List.getD_eq_getElem?_getD] at h); omega)) ?_
  refine RW.g (b := (decide ((i : Int) < ((l.length : Nat) : Int)))) (v := .bool (Lx.ws (l.getD i 0))) rfl rfl rfl (fun h => q_call (args := #[.int .u8 (((l.getD i 0).toNat : Nat) : Int)]) oK rfl (args1 (gv_pos h)) (fun w1 hw1 => fblank_c w1 (Go.K.hp w1) (Hp.le_refl _))) ?_
  refine g1 ?_
  refine RW.g2 (b1 := (decide ((i : Int) < ((l.length : Nat) : Int)))) (b2 := (Lx.ws (l.getD i 0))) (v := .string (bs l)) rfl rfl rfl (fun hg1 hg2 => q_move rfl) ?_
  refine RW.g2 (b1 := (decide ((i : Int) < ((l.length : Nat) : Int)))) (b2 := (Lx.ws (l.getD i 0))) (v := .int .i64 (i : Int)) rfl rfl rfl (fun hg1 hg2 => q_move rfl) ?_
  refine RW.g2 (b1 := (decide ((i : Int) < ((l.length : Nat) : Int)))) (b2 := (Lx.ws (l.getD i 0))) (v := .int .u8 (((l.getD i 0).toNat : Nat) : Int)) rfl rfl rfl (fun hg1 hg2 => q_indexS (l := l) (i := (i : Int)) ((gv_pos hg1).trans (gv_pos hg2)) ((gv_pos hg1).trans (gv_pos hg2)) Tryz.underlying9 (by (try simp [-List.getD_eq_getElem?_getD] at hg1); (try simp [-List.getD_eq_getElem?_getD] at hg2); omega) (by (try simp [-List.getD_eq_getElem?_getD] at hg1); (try simp [-List.getD_eq_getElem?_getD] at hg2); omega)) ?_
  refine RW.g2 (b1 := (decide ((i : Int) < ((l.length : Nat) : Int)))) (b2 := (Lx.ws (l.getD i 0))) (v := .bool (decide ((((l.getD i 0).toNat : Nat) : Int) = ((35 : Nat) : Int)))) rfl rfl rfl (fun hg1 hg2 => q_eql (a := (((l.getD i 0).toNat : Nat) : Int)) (b := ((35 : Nat) : Int)) ((gv_pos hg1).trans (gv_pos hg2)) rfl) ?_
  refine RW.g (b := (decide ((i : Int) < ((l.length : Nat) : Int)))) (v := .bool ((Lx.ws (l.getD i 0)) || (decide ((((l.getD i 0).toNat : Nat) : Int) = ((35 : Nat) : Int))))) rfl rfl rfl (fun h => q_pick (gv_pos h) (fun hp => pkOrT hp) (fun hp => (gv_pos h).trans ((gv_pos hp).trans (pkOrF hp)))) ?_
  refine RW.q (v := .bool ((decide ((i : Int) < ((l.length : Nat) : Int))) && ((Lx.ws (l.getD i 0)) || (decide ((((l.getD i 0).toNat : Nat) : Int) = ((35 : Nat) : Int)))))) rfl (qpA rfl rfl rfl) ?_
  refine g2 ?_
  refine AW.cond rfl (fun hc1 => ?_) fun hc1 => ?_
  · skip
    simp only [Bool.and_eq_true, Bool.or_eq_true, decide_eq_true_eq] at hc1
    have hil2 : i < l.length := by omega
    refine g8 ?_
    refine RW.q (v := .int .u8 (((l.getD i 0).toNat : Nat) : Int)) rfl (q_indexS (l := l) (i := (i : Int)) rfl rfl Tryz.underlying9 (by omega) (by omega)) ?_
    refine RW.q (v := .bool (decide ((((l.getD i 0).toNat : Nat) : Int) = ((35 : Nat) : Int)))) rfl (q_eql (a := (((l.getD i 0).toNat : Nat) : Int)) (b := ((35 : Nat) : Int)) rfl rfl) ?_
    refine g2 ?_
    refine AW.cond rfl (fun hc2 => ?_) fun hc2 => ?_
    · simp [-List.getD_eq_getElem?_getD] at hc2
      have hc35 : (l.getD i 0).toNat = 35 := by omega
      have hr1 := Lx.run_yes (p := Lx.nNl) hil2 (by unfold Lx.nNl; exact decide_eq_true (by omega))
      refine g2 ?_
      refine AW.loop (fun s J m => ∃ (j : Nat), s = [(0, .string (bs l)), (1, .int .i64 (j : Int))] ∧ J = St ⟨w, Φ, []⟩ Φ [] ∧ m = l.length - j ∧ (i ≤ j) ∧ (j ≤ l.length) ∧ (j + Lx.run Lx.nNl (l.drop j) = i + Lx.run Lx.nNl (l.drop i))) (s0 := _) (J1 := _) (m0 := _) ⟨i, rfl, rfl, rfl, (Nat.le_refl _), hil, rfl⟩ ⟨rfl, rfl, trivial⟩ (fun _ h => h) ?_
      rintro _ _ _ _ ⟨j, rfl, rfl, rfl, hij, hjl, hF⟩
      refine g5 ?_
      refine RW.q (v := .int .i64 ((l.length : Nat) : Int)) rfl (q_lenS (l := l) rfl Tryz.underlying9) ?_
      refine g4 ?_
      refine RW.g (b := (decide ((j : Int) < ((l.length : Nat) : Int)))) (v := .int .u8 (((l.getD j 0).toNat : Nat) : Int)) rfl rfl rfl (fun h => q_indexS (l := l) (i := (j : Int)) (gv_pos h) (gv_pos h) Tryz.underlying9 (by (try simp [-List.getD_eq_getElem?_getD] at h); omega) (by (try simp [-List.getD_eq_getElem?_getD] at h); omega)) ?_
      refine RW.g (b := (decide ((j : Int) < ((l.length : Nat) : Int)))) (v := .bool (!decide ((((l.getD j 0).toNat : Nat) : Int) = ((10 : Nat) : Int)))) rfl rfl rfl (fun h => q_neq (a := (((l.getD j 0).toNat : Nat) : Int)) (b := ((10 : Nat) : Int)) (gv_pos h) rfl) ?_
      refine RW.q (v := .bool ((decide ((j : Int) < ((l.length : Nat) : Int))) && (!decide ((((l.getD j 0).toNat : Nat) : Int) = ((10 : Nat) : Int))))) rfl (qpA rfl rfl rfl) ?_
      refine g2 ?_
      refine AW.cond rfl (fun hc3 => ?_) fun hc3 => ?_
      · skip
        simp only [Bool.and_eq_true, decide_eq_true_eq] at hc3
        have hpj : Lx.nNl (l.getD j 0) = true := by
          unfold Lx.nNl; exact decide_eq_true (by have := hc3.2; simp [-List.getD_eq_getElem?_getD] at this; omega)
        refine g9 ?_
        exact Post.back (s' := _) (J' := _) (m' := _) (by omega) ⟨j + 1, rfl, rfl, rfl, (by omega), (by omega), (by rw [← hF, Lx.run_yes (show j < l.length by omega) hpj]; omega)⟩ ⟨rfl, rfl, trivial⟩ (fun _ h => h)
      · skip
        have hjr : Lx.run Lx.nNl (l.drop i) = j - i := by
          have hz : Lx.run Lx.nNl (l.drop j) = 0 := by
            by_cases h9 : j < l.length
            · exact Lx.run_no h9 (by unfold Lx.nNl; exact decide_eq_false (by intro h8; simp [h9, -List.getD_eq_getElem?_getD] at hc3; omega))
            · exact Lx.run_end (by omega)
          omega
        refine g8 ?_
        exact Post.back (s' := _) (J' := _) (m' := _) (by omega) ⟨j, rfl, rfl, rfl, (by omega), (by omega), (by rw [← hE, Lx.skp_com hil2 (by omega), hjr, show i + (j - i) = j by omega]; omega)⟩ ⟨rfl, rfl, trivial⟩ (fun _ h => h)
    · simp [-List.getD_eq_getElem?_getD] at hc2
      have hws : Lx.ws (l.getD i 0) = true := by
        rcases hc1.2 with h9 | h9
        · exact h9
        · exact absurd h9 (by omega)
      refine g8 ?_
      exact Post.back (s' := _) (J' := _) (m' := _) (by omega) ⟨i + 1, rfl, rfl, rfl, (by omega), (by omega), (by rw [← hE, Lx.skp_ws hil2 hws]; omega)⟩ ⟨rfl, rfl, trivial⟩ (fun _ h => h)
  · skip
    refine g12 ?_
    have hz : Lx.skp false (l.drop i) = 0 := by
      by_cases h9 : i < l.length
      · have h8 : Lx.ws (l.getD i 0) = false ∧ (l.getD i 0).toNat ≠ 35 := by
          simp [h9, -List.getD_eq_getElem?_getD] at hc1; exact ⟨hc1.1, by omega⟩
        exact Lx.skp_no h9 h8.1 h8.2
      · exact Lx.skp_end (by omega)
    exact fin_val (v' := .int .i64 (i : Int)) rfl rfl rfl (by rw [← hE, hz]; simp)

end Go.Proofs.YtnfmjfheciihjaaGreatDoor
