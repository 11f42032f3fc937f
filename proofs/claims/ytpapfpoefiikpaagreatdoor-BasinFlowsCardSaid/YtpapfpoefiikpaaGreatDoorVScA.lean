/- Lemmas. Conditions: those of each theorem. -/
import Derived.Test.YtpapfpoefiikpaaGreatDoorVUnPlB
import Derived.Test.YtpapfpoefiikpaaGreatDoorVSw
import Derived.Test.YtpapfpoefiikpaaGreatDoorVRes
import Derived.Test.YtpapfpoefiikpaaGreatDoorVRnd
set_option maxRecDepth 8000
set_option maxHeartbeats 16000000
namespace Go.Proofs.YtpapfpoefiikpaaGreatDoor
open Go Go.K Go.RowKit
attribute [local irreducible] AW RW DW Post Qt
theorem letter_c (w : World) (Φ : Hp) (hΦ : Hp.le Φ (hp w)) {c : UInt8} :
  Calls pg 156 #[.int .u8 (c.toNat : Int)] w fun e w' => e = .returned (.bool (Lx.isL c)) ∧ Bel w.heap.size w w' := by
 refine calls_of_AW (args := [.int .u8 (c.toNat : Int)]) Tryz.func156 rfl (lBT rfl) (St ⟨w, Φ, []⟩ Φ []) (StP.init w Φ hΦ []) ?_
 show AW pg 17 [] _ _ _ [(0, .int .u8 (c.toNat : Int))] _
 refine g8 ?_
 refine RW.q (v := .bool (decide (((97 : Nat) : Int) ≤ (c.toNat : Int)))) rfl (q_geq (a := (c.toNat : Int)) (b := ((97 : Nat) : Int)) rfl rfl) ?_
 refine g2 ?_
 refine RW.g (b := (decide (((97 : Nat) : Int) ≤ (c.toNat : Int)))) (v := .bool (decide ((c.toNat : Int) ≤ ((122 : Nat) : Int)))) rfl rfl rfl (fun h => q_leq (a := (c.toNat : Int)) (b := ((122 : Nat) : Int)) (gv_pos h) rfl) (RW.q (v := .bool ((decide (((97 : Nat) : Int) ≤ (c.toNat : Int))) && (decide ((c.toNat : Int) ≤ ((122 : Nat) : Int))))) rfl (qpA rfl rfl rfl) ?_)
 refine g2 ?_
 refine RW.g (b := ((decide (((97 : Nat) : Int) ≤ (c.toNat : Int))) && (decide ((c.toNat : Int) ≤ ((122 : Nat) : Int))))) (v := .bool (decide (((65 : Nat) : Int) ≤ (c.toNat : Int)))) rfl rfl rfl (fun h => q_geq (a := (c.toNat : Int)) (b := ((65 : Nat) : Int)) (gv_pos h) rfl) ?_
 refine g1 ?_
 refine RW.g2 (b1 := ((decide (((97 : Nat) : Int) ≤ (c.toNat : Int))) && (decide ((c.toNat : Int) ≤ ((122 : Nat) : Int))))) (b2 := (decide (((65 : Nat) : Int) ≤ (c.toNat : Int)))) (v := .int .u8 (c.toNat : Int)) rfl rfl rfl (fun hg1 hg2 => q_move rfl) (RW.g2 (b1 := ((decide (((97 : Nat) : Int) ≤ (c.toNat : Int))) && (decide ((c.toNat : Int) ≤ ((122 : Nat) : Int))))) (b2 := (decide (((65 : Nat) : Int) ≤ (c.toNat : Int)))) (v := .bool (decide ((c.toNat : Int) ≤ ((90 : Nat) : Int)))) rfl rfl rfl (fun hg1 hg2 => q_leq (a := (c.toNat : Int)) (b := ((90 : Nat) : Int)) ((gv_pos hg1).trans (gv_pos hg2)) rfl) (RW.g (b := ((decide (((97 : Nat) : Int) ≤ (c.toNat : Int))) && (decide ((c.toNat : Int) ≤ ((122 : Nat) : Int))))) (v := .bool ((decide (((65 : Nat) : Int) ≤ (c.toNat : Int))) && (decide ((c.toNat : Int) ≤ ((90 : Nat) : Int))))) rfl rfl rfl (fun h => q_pick (gv_pos h) (fun hp => (gv_pos h).trans ((gv_pos hp).trans (pkAndT hp))) (fun hp => pkAndF hp)) (RW.q (v := .bool (((decide (((97 : Nat) : Int) ≤ (c.toNat : Int))) && (decide ((c.toNat : Int) ≤ ((122 : Nat) : Int)))) || ((decide (((65 : Nat) : Int) ≤ (c.toNat : Int))) && (decide ((c.toNat : Int) ≤ ((90 : Nat) : Int)))))) rfl (qpO rfl rfl rfl) ?_)))
 refine g4 ?_
 exact fin_val (v' := .bool (((decide (((97 : Nat) : Int) ≤ (c.toNat : Int))) && (decide ((c.toNat : Int) ≤ ((122 : Nat) : Int)))) || ((decide (((65 : Nat) : Int) ≤ (c.toNat : Int))) && (decide ((c.toNat : Int) ≤ ((90 : Nat) : Int)))))) rfl rfl rfl (congrArg Value.bool (by unfold Lx.isL; rw [Bool.eq_iff_iff]; simp only [Bool.and_eq_true, Bool.or_eq_true, decide_eq_true_eq]; omega))
theorem digit_c (w : World) (Φ : Hp) (hΦ : Hp.le Φ (hp w)) {c : UInt8} :
  Calls pg 158 #[.int .u8 (c.toNat : Int)] w fun e w' => e = .returned (.bool (Lx.isD c)) ∧ Bel w.heap.size w w' := by
 refine calls_of_AW (args := [.int .u8 (c.toNat : Int)]) Tryz.func158 rfl (lBT rfl) (St ⟨w, Φ, []⟩ Φ []) (StP.init w Φ hΦ []) ?_
 show AW pg 9 [] _ _ _ [(0, .int .u8 (c.toNat : Int))] _
 refine g8 ?_
 refine RW.q (v := .bool (decide (((48 : Nat) : Int) ≤ (c.toNat : Int)))) rfl (q_geq (a := (c.toNat : Int)) (b := ((48 : Nat) : Int)) rfl rfl) ?_
 refine g2 ?_
 refine RW.g (b := (decide (((48 : Nat) : Int) ≤ (c.toNat : Int)))) (v := .bool (decide ((c.toNat : Int) ≤ ((57 : Nat) : Int)))) rfl rfl rfl (fun h => q_leq (a := (c.toNat : Int)) (b := ((57 : Nat) : Int)) (gv_pos h) rfl) (RW.q (v := .bool ((decide (((48 : Nat) : Int) ≤ (c.toNat : Int))) && (decide ((c.toNat : Int) ≤ ((57 : Nat) : Int))))) rfl (qpA rfl rfl rfl) ?_)
 refine g4 ?_
 exact fin_val (v' := .bool ((decide (((48 : Nat) : Int) ≤ (c.toNat : Int))) && (decide ((c.toNat : Int) ≤ ((57 : Nat) : Int))))) rfl rfl rfl (congrArg Value.bool (by unfold Lx.isD; rw [Bool.eq_iff_iff]; simp only [Bool.and_eq_true, decide_eq_true_eq]; omega))
theorem inName_c (w : World) (Φ : Hp) (hΦ : Hp.le Φ (hp w)) {c : UInt8} :
  Calls pg 157 #[.int .u8 (c.toNat : Int)] w fun e w' => e = .returned (.bool (Lx.inN c)) ∧ Bel w.heap.size w w' := by
 refine calls_of_AW (args := [.int .u8 (c.toNat : Int)]) Tryz.func157 rfl (lBT rfl) (St ⟨w, Φ, []⟩ Φ []) (StP.init w Φ hΦ []) ?_
 show AW pg 13 [] _ _ _ [(0, .int .u8 (c.toNat : Int))] _
 refine g8 ?_
 refine RW.q (v := .bool (Lx.isL c)) rfl (q_call (args := #[.int .u8 (c.toNat : Int)]) oK rfl rfl (fun w1 hw1 => letter_c w1 (Go.K.hp w1) (Hp.le_refl _))) ?_
 refine g2 ?_
 refine RW.g (b := (Lx.isL c)) (v := .bool (Lx.isD c)) rfl rfl rfl (fun h => q_call (args := #[.int .u8 (c.toNat : Int)]) oK rfl (args1 (gv_pos h)) (fun w1 hw1 => digit_c w1 (Go.K.hp w1) (Hp.le_refl _))) (RW.q (v := .bool ((Lx.isL c) || (Lx.isD c))) rfl (qpO rfl rfl rfl) ?_)
 refine g2 ?_
 refine RW.g (b := ((Lx.isL c) || (Lx.isD c))) (v := .bool (decide ((c.toNat : Int) = ((95 : Nat) : Int)))) rfl rfl rfl (fun h => q_eql (a := (c.toNat : Int)) (b := ((95 : Nat) : Int)) (gv_pos h) rfl) (RW.q (v := .bool (((Lx.isL c) || (Lx.isD c)) || (decide ((c.toNat : Int) = ((95 : Nat) : Int))))) rfl (qpO rfl rfl rfl) ?_)
 refine g4 ?_
 exact fin_val (v' := .bool (((Lx.isL c) || (Lx.isD c)) || (decide ((c.toNat : Int) = ((95 : Nat) : Int))))) rfl rfl rfl (congrArg Value.bool (by unfold Lx.inN; congr 1; exact decide_eq_decide.2 (by omega)))
theorem inString_c (w : World) (Φ : Hp) (hΦ : Hp.le Φ (hp w)) {c : UInt8} :
  Calls pg 159 #[.int .u8 (c.toNat : Int)] w fun e w' => e = .returned (.bool (Lx.inS c)) ∧ Bel w.heap.size w w' := by
 refine calls_of_AW (args := [.int .u8 (c.toNat : Int)]) Tryz.func159 rfl (lBT rfl) (St ⟨w, Φ, []⟩ Φ []) (StP.init w Φ hΦ []) ?_
 show AW pg 17 [] _ _ _ [(0, .int .u8 (c.toNat : Int))] _
 refine g8 ?_
 refine RW.q (v := .bool (decide (((32 : Nat) : Int) ≤ (c.toNat : Int)))) rfl (q_geq (a := (c.toNat : Int)) (b := ((32 : Nat) : Int)) rfl rfl) ?_
 refine g2 ?_
 refine RW.g (b := (decide (((32 : Nat) : Int) ≤ (c.toNat : Int)))) (v := .bool (decide ((c.toNat : Int) ≤ ((126 : Nat) : Int)))) rfl rfl rfl (fun h => q_leq (a := (c.toNat : Int)) (b := ((126 : Nat) : Int)) (gv_pos h) rfl) (RW.q (v := .bool ((decide (((32 : Nat) : Int) ≤ (c.toNat : Int))) && (decide ((c.toNat : Int) ≤ ((126 : Nat) : Int))))) rfl (qpA rfl rfl rfl) ?_)
 refine g2 ?_
 refine RW.g (b := ((decide (((32 : Nat) : Int) ≤ (c.toNat : Int))) && (decide ((c.toNat : Int) ≤ ((126 : Nat) : Int))))) (v := .bool (!decide ((c.toNat : Int) = ((34 : Nat) : Int)))) rfl rfl rfl (fun h => q_neq (a := (c.toNat : Int)) (b := ((34 : Nat) : Int)) (gv_pos h) rfl) (RW.q (v := .bool (((decide (((32 : Nat) : Int) ≤ (c.toNat : Int))) && (decide ((c.toNat : Int) ≤ ((126 : Nat) : Int)))) && (!decide ((c.toNat : Int) = ((34 : Nat) : Int))))) rfl (qpA rfl rfl rfl) ?_)
 refine g2 ?_
 refine RW.g (b := (((decide (((32 : Nat) : Int) ≤ (c.toNat : Int))) && (decide ((c.toNat : Int) ≤ ((126 : Nat) : Int)))) && (!decide ((c.toNat : Int) = ((34 : Nat) : Int))))) (v := .bool (!decide ((c.toNat : Int) = ((92 : Nat) : Int)))) rfl rfl rfl (fun h => q_neq (a := (c.toNat : Int)) (b := ((92 : Nat) : Int)) (gv_pos h) rfl) (RW.q (v := .bool ((((decide (((32 : Nat) : Int) ≤ (c.toNat : Int))) && (decide ((c.toNat : Int) ≤ ((126 : Nat) : Int)))) && (!decide ((c.toNat : Int) = ((34 : Nat) : Int)))) && (!decide ((c.toNat : Int) = ((92 : Nat) : Int))))) rfl (qpA rfl rfl rfl) ?_)
 refine g4 ?_
 exact fin_val (v' := .bool ((((decide (((32 : Nat) : Int) ≤ (c.toNat : Int))) && (decide ((c.toNat : Int) ≤ ((126 : Nat) : Int)))) && (!decide ((c.toNat : Int) = ((34 : Nat) : Int)))) && (!decide ((c.toNat : Int) = ((92 : Nat) : Int))))) rfl rfl rfl (congrArg Value.bool (by unfold Lx.inS; rw [Bool.eq_iff_iff]; simp only [Bool.and_eq_true, Bool.not_eq_true', decide_eq_true_eq, decide_eq_false_iff_not]; omega))
theorem skip1_c (w : World) (Φ : Hp) (hΦ : Hp.le Φ (hp w)) {c : UInt8} :
  Calls pg 155 #[.int .u8 (c.toNat : Int)] w fun e w' => e = .returned (.bool (Lx.nNl c)) ∧ Bel w.heap.size w w' := by
 refine calls_of_AW (args := [.int .u8 (c.toNat : Int)]) Tryz.func155 rfl (lBT rfl) (St ⟨w, Φ, []⟩ Φ []) (StP.init w Φ hΦ []) ?_
 show AW pg 5 [] _ _ _ [(0, .int .u8 (c.toNat : Int))] _
 refine g8 ?_
 refine RW.q (v := .bool (!decide ((c.toNat : Int) = ((10 : Nat) : Int)))) rfl (q_neq (a := (c.toNat : Int)) (b := ((10 : Nat) : Int)) rfl rfl) ?_
 refine g4 ?_
 exact fin_val (v' := .bool (!decide ((c.toNat : Int) = ((10 : Nat) : Int)))) rfl rfl rfl (congrArg Value.bool (by unfold Lx.nNl; rw [Bool.eq_iff_iff]; simp only [Bool.not_eq_true', decide_eq_true_eq, decide_eq_false_iff_not]; omega))
theorem run_c (w : World) (Φ : Hp) (hΦ : Hp.le Φ (hp w)) {l : List UInt8} {a : Nat} (hl : l.length ≤ 1099511627776) (ha : a ≤ l.length) {k : Nat} (hk : Go.K.Own pg k) {p : UInt8 → Bool} (hp : ∀ (w : World) (c : UInt8), Calls pg k #[.int .u8 (c.toNat : Int)] w fun e w' => e = .returned (.bool (p c)) ∧ Bel w.heap.size w w') :
  Calls pg 154 #[.string (bs l), iV (a : Int), .func (.func k) #[] #[]] w fun e w' => e = .returned (iV ((a + Lx.run p (l.drop a) : Nat) : Int)) ∧ Bel w.heap.size w w' := by
 refine calls_of_AW (args := [.string (bs l), iV (a : Int), .func (.func k) #[] #[]]) Tryz.func154 rfl (lBT rfl) (St ⟨w, Φ, []⟩ Φ []) (StP.init w Φ hΦ []) ?_
 show AW pg 21 [] _ _ _ [(0, .string (bs l)), (1, iV (a : Int)), (2, .func (.func k) #[] #[])] _
 refine g7 ?_
 refine AW.loop (fun s J m => ∃ (i : Nat), s = [(0, .string (bs l)), (2, .func (.func k) #[] #[]), (1, iV (i : Int))] ∧ J = St ⟨w, Φ, []⟩ Φ [] ∧ m = l.length - i ∧ (a ≤ i) ∧ (i ≤ l.length) ∧ (i + Lx.run p (l.drop i) = a + Lx.run p (l.drop a))) (s0 := _) (J1 := _) (m0 := _) ⟨a, rfl, rfl, rfl, (Nat.le_refl _), ha, rfl⟩ ⟨rfl, rfl, rfl, trivial⟩ (fun _ h => h) ?_
 rintro _ _ _ _ ⟨i, rfl, rfl, rfl, hai, hil, hE⟩
 refine g5 ?_
 refine RW.q (v := iV (l.length : Int)) rfl (q_lenS (l := l) rfl uT9) ?_
 refine g5 ?_
 refine RW.g (b := (decide ((i : Int) < (l.length : Int)))) (v := .int .u8 (((l.getD i 0).toNat : Nat) : Int)) rfl rfl rfl (fun h => q_indexS (l := l) (i := (i : Int)) (gv_pos h) (gv_pos h) uT9 (by (try simp [-List.getD_eq_getElem?_getD] at h); omega) (by (try simp [-List.getD_eq_getElem?_getD] at h); omega)) ?_
 refine RW.g (b := (decide ((i : Int) < (l.length : Int)))) (v := .bool (p (l.getD i 0))) rfl rfl rfl (fun h => q_call (args := #[.int .u8 (((l.getD i 0).toNat : Nat) : Int)]) (first := #[]) (capt := #[]) hk (gv_pos h) (args1 (gv_pos h)) (fun w1 _ => hp w1 (l.getD i 0))) ?_
 obtain ⟨qb1, hqb1⟩ : ∃ qz : Bool, ((decide ((i : Int) < (l.length : Int))) && (p (l.getD i 0))) = qz := ⟨_, rfl⟩
 refine RW.q (v := .bool qb1) rfl (q_as (v := .bool ((decide ((i : Int) < (l.length : Int))) && (p (l.getD i 0)))) (qpA rfl rfl rfl) (congrArg Value.bool hqb1)) ?_
 subst hqb1
 refine g2 ?_
 refine AW.cond rfl (fun hc1 => ?_) fun hc1 => ?_
 ·
  simp [-List.getD_eq_getElem?_getD] at hc1
  have hpi : p (l.getD i 0) = true := by
   first | exact hc1.2 | (simp only [Bool.and_eq_true] at hc1; exact hc1.2)
  have hil2 : i < l.length := by first | omega | (have := hc1.1; simp at this; omega)
  refine g9 ?_
  exact Post.back (s' := _) (J' := _) (m' := _) (by omega) ⟨i + 1, rfl, rfl, rfl, (by omega), (by omega), (by rw [← hE, Lx.run_yes (show i < l.length by omega) hpi]; omega)⟩ ⟨rfl, rfl, rfl, trivial⟩ (fun _ h => h)
 ·
  simp [-List.getD_eq_getElem?_getD] at hc1
  refine g12 ?_
  have hrz : Lx.run p (l.drop i) = 0 := by
   by_cases h9 : i < l.length
   ·
    have hpi : p (l.getD i 0) = false := by
     cases h8 : p (l.getD i 0) with
     | false => rfl
     | true => exact absurd h8 (by simpa [h9] using hc1)
    exact Lx.run_no h9 hpi
   ·
    exact Lx.run_end (by omega)
  exact fin_val (v' := iV (i : Int)) rfl rfl rfl (by rw [← hE, hrz]; simp)
theorem skip_c (w : World) (Φ : Hp) (hΦ : Hp.le Φ (hp w)) {l : List UInt8} {a : Nat} (hl : l.length ≤ 1099511627776) (ha : a ≤ l.length) :
  Calls pg 117 #[.string (bs l), iV (a : Int)] w fun e w' => e = .returned (iV ((a + Lx.skp false (l.drop a) : Nat) : Int)) ∧ Bel w.heap.size w w' := by
 refine calls_of_AW (args := [.string (bs l), iV (a : Int)]) Tryz.func117 rfl (lBT rfl) (St ⟨w, Φ, []⟩ Φ []) (StP.init w Φ hΦ []) ?_
 show AW pg 26 [] _ _ _ [(0, .string (bs l)), (1, iV (a : Int))] _
 refine g7 ?_
 refine AW.loop (fun s J m => ∃ (i : Nat), s = [(0, .string (bs l)), (1, iV (i : Int))] ∧ J = St ⟨w, Φ, []⟩ Φ [] ∧ m = l.length - i ∧ (a ≤ i) ∧ (i ≤ l.length) ∧ (i + Lx.skp false (l.drop i) = a + Lx.skp false (l.drop a))) (s0 := _) (J1 := _) (m0 := _) ⟨a, rfl, rfl, rfl, (Nat.le_refl _), ha, rfl⟩ ⟨rfl, rfl, trivial⟩ (fun _ h => h) ?_
 rintro _ _ _ _ ⟨i, rfl, rfl, rfl, hai, hil, hE⟩
 refine g5 ?_
 refine RW.q (v := iV (l.length : Int)) rfl (q_lenS (l := l) rfl uT9) ?_
 refine g3 ?_
 refine AW.cond rfl (fun hc1 => ?_) fun hc1 => ?_
 ·
  simp [-List.getD_eq_getElem?_getD] at hc1
  have hil2 : i < l.length := by omega
  refine g7 ?_
  refine RW.q (v := .int .u8 (((l.getD i 0).toNat : Nat) : Int)) rfl (q_indexS (l := l) (i := (i : Int)) rfl rfl uT9 (by omega) (by omega)) ?_
  refine g6 ?_
  refine RW.q (v := .bool (decide ((((l.getD i 0).toNat : Nat) : Int) = ((9 : Nat) : Int)))) rfl (q_eql (a := (((l.getD i 0).toNat : Nat) : Int)) (b := ((9 : Nat) : Int)) rfl rfl) ?_
  refine g3 ?_
  refine AW.orCh (t := 13) (x := 11) (a := (((l.getD i 0).toNat : Nat) : Int)) rfl rfl _ rfl rfl rfl rfl fun _ => ?_
  refine g1 ?_
  refine AW.cond rfl (fun hc2 => ?_) fun hc2 => ?_
  ·
   simp [-List.getD_eq_getElem?_getD] at hc2
   refine g7 ?_
   have hws : Lx.ws (l.getD i 0) = true := by unfold Lx.ws; exact decide_eq_true (by omega)
   exact Post.back (s' := _) (J' := _) (m' := _) (by omega) ⟨i + 1, rfl, rfl, rfl, (by omega), (by omega), (by rw [← hE, Lx.skp_ws hil2 hws]; omega)⟩ ⟨rfl, rfl, trivial⟩ (fun _ h => h)
  ·
   simp [-List.getD_eq_getElem?_getD] at hc2
   refine g2 ?_
   refine RW.q (v := .bool (decide ((((l.getD i 0).toNat : Nat) : Int) = ((35 : Nat) : Int)))) rfl (q_eql (a := (((l.getD i 0).toNat : Nat) : Int)) (b := ((35 : Nat) : Int)) rfl rfl) ?_
   refine g3 ?_
   refine AW.cond rfl (fun hc3 => ?_) fun hc3 => ?_
   ·
    simp [-List.getD_eq_getElem?_getD] at hc3
    refine g3 ?_
    refine RW.q (v := iV ((i + Lx.run Lx.nNl (l.drop i) : Nat) : Int)) rfl (q_call (args := #[.string (bs l), iV (i : Int), .func (.func 155) #[] #[]]) oK rfl rfl (fun w1 hw1 => run_c w1 (Go.K.hp w1) (Hp.le_refl _) (by omega) (by omega) oK (fun w2 c => skip1_c w2 (Go.K.hp w2) (Hp.le_refl _)))) ?_
    refine g4 ?_
    have hr1 := Lx.run_yes (p := Lx.nNl) hil2 (by unfold Lx.nNl; exact decide_eq_true (by omega))
    have hr2 := Lx.run_drop_le Lx.nNl l i (by omega)
    exact Post.back (s' := _) (J' := _) (m' := _) (by omega) ⟨i + Lx.run Lx.nNl (l.drop i), rfl, rfl, rfl, (by omega), (by omega), (by rw [← hE, Lx.skp_com hil2 (by omega)]; omega)⟩ ⟨rfl, rfl, trivial⟩ (fun _ h => h)
   ·
    simp [-List.getD_eq_getElem?_getD] at hc3
    refine g12 ?_
    exact fin_val (v' := iV (i : Int)) rfl rfl rfl (by rw [← hE, Lx.skp_no hil2 (by unfold Lx.ws; exact decide_eq_false (by omega)) (by omega)]; simp)
 ·
  simp [-List.getD_eq_getElem?_getD] at hc1
  refine g12 ?_
  exact fin_val (v' := iV (i : Int)) rfl rfl rfl (by rw [← hE, Lx.skp_end (by omega)]; simp)
theorem tokV {k k' : Int} {t t' : List UInt8} {a e e' : Int} {b b' : Bool} (h1 : k = k') (h2 : t = t') (h3 : e = e') (h4 : b = b') : Ending.returned (.tuple #[.agg #[iV k, .string (bs t), iV a], iV e, .bool b]) = .returned (.tuple #[.agg #[iV k', .string (bs t'), iV a], iV e', .bool b']) := by subst h1 h2 h3 h4; rfl
theorem sign_c (w : World) (Φ : Hp) (hΦ : Hp.le Φ (hp w)) {l : List UInt8} (hl : l.length ≤ 1099511627776) (h0 : 0 < l.length) :
  Calls pg 160 #[.string (bs l)] w fun e w' => e = .returned (iV ((Lx.signN l : Nat) : Int)) ∧ Bel w.heap.size w w' := by
 refine calls_of_AW (args := [.string (bs l)]) Tryz.func160 rfl (lBT rfl) (St ⟨w, Φ, []⟩ Φ []) (StP.init w Φ hΦ []) ?_
 show AW pg 34 [] _ _ _ [(0, .string (bs l))] _
 refine g9 ?_
 refine RW.q (v := .int .u8 (((l.getD 0 0).toNat : Nat) : Int)) rfl (q_indexS (l := l) (i := 0) rfl rfl uT9 (by omega) (by omega)) ?_
 refine g6 ?_
 refine RW.q (v := .bool (decide ((((l.getD 0 0).toNat : Nat) : Int) = ((60 : Nat) : Int)))) rfl (q_eql (a := (((l.getD 0 0).toNat : Nat) : Int)) (b := ((60 : Nat) : Int)) rfl rfl) ?_
 refine g3 ?_
 refine AW.orCh (t := 5) (x := 4) (a := (((l.getD 0 0).toNat : Nat) : Int)) rfl rfl _ rfl rfl rfl rfl fun _ => ?_
 refine g1 ?_
 refine AW.cond rfl (fun hc1 => ?_) fun hc1 => ?_
 ·
  simp [-List.getD_eq_getElem?_getD, -Nat.reduceLeDiff] at hc1
  refine g4 ?_
  refine RW.q (v := iV (l.length : Int)) rfl (q_lenS (l := l) rfl uT9) ?_
  refine g3 ?_
  refine RW.g (b := (decide ((1 : Int) < (l.length : Int)))) (v := .int .u8 (((l.getD 1 0).toNat : Nat) : Int)) rfl rfl rfl (fun h => q_indexS (l := l) (i := 1) (gv_pos h) rfl uT9 (by (try simp [-List.getD_eq_getElem?_getD, -Nat.reduceLeDiff] at h); omega) (by (try simp [-List.getD_eq_getElem?_getD, -Nat.reduceLeDiff] at h); omega)) ?_
  refine RW.g (b := (decide ((1 : Int) < (l.length : Int)))) (v := .bool (decide ((((l.getD 1 0).toNat : Nat) : Int) = ((61 : Nat) : Int)))) rfl rfl rfl (fun h => q_eql (a := (((l.getD 1 0).toNat : Nat) : Int)) (b := ((61 : Nat) : Int)) (gv_pos h) rfl) ?_
  obtain ⟨qb1, hqb1⟩ : ∃ qz : Bool, ((decide ((1 : Int) < (l.length : Int))) && (decide ((((l.getD 1 0).toNat : Nat) : Int) = ((61 : Nat) : Int)))) = qz := ⟨_, rfl⟩
  refine RW.q (v := .bool qb1) rfl (q_as (v := .bool ((decide ((1 : Int) < (l.length : Int))) && (decide ((((l.getD 1 0).toNat : Nat) : Int) = ((61 : Nat) : Int))))) (qpA rfl rfl rfl) (congrArg Value.bool hqb1)) ?_
  subst hqb1
  refine g2 ?_
  refine AW.cond rfl (fun hc2 => ?_) fun hc2 => ?_
  ·
   simp [-List.getD_eq_getElem?_getD, -Nat.reduceLeDiff] at hc2
   refine g9 ?_
   have hsg : Lx.signN l = 2 := by
    unfold Lx.signN
    simp only []
    first | (rw [if_pos (by omega), if_pos (by omega)]; done) | (rw [if_pos (by omega), if_neg (by omega), if_pos (by omega)]; done) | (rw [if_pos (by omega), if_neg (by omega), if_neg (by omega)]; done) | (rw [if_neg (by omega), if_pos (by omega)]; done) | (rw [if_neg (by omega), if_neg (by omega)]; done)
   exact fin_val (v' := iV 2) rfl rfl rfl (by rw [hsg]; rfl)
  ·
   simp [-List.getD_eq_getElem?_getD, -Nat.reduceLeDiff] at hc2
   refine g5 ?_
   refine RW.q (v := .int .u8 (((l.getD 0 0).toNat : Nat) : Int)) rfl (q_indexS (l := l) (i := 0) rfl rfl uT9 (by omega) (by omega)) (RW.q (v := .bool (!decide ((((l.getD 0 0).toNat : Nat) : Int) = ((33 : Nat) : Int)))) rfl (q_neq (a := (((l.getD 0 0).toNat : Nat) : Int)) (b := ((33 : Nat) : Int)) rfl rfl) ?_)
   refine g2 ?_
   refine AW.cond rfl (fun hc3 => ?_) fun hc3 => ?_
   ·
    simp [-List.getD_eq_getElem?_getD, -Nat.reduceLeDiff] at hc3
    refine g8 ?_
    have hsg : Lx.signN l = 1 := by
     unfold Lx.signN
     simp only []
     first | (rw [if_pos (by omega), if_pos (by omega)]; done) | (rw [if_pos (by omega), if_neg (by omega), if_pos (by omega)]; done) | (rw [if_pos (by omega), if_neg (by omega), if_neg (by omega)]; done) | (rw [if_neg (by omega), if_pos (by omega)]; done) | (rw [if_neg (by omega), if_neg (by omega)]; done)
    exact fin_val (v' := iV 1) rfl rfl rfl (by rw [hsg]; rfl)
   ·
    simp [-List.getD_eq_getElem?_getD, -Nat.reduceLeDiff] at hc3
    refine g9 ?_
    have hsg : Lx.signN l = 0 := by
     unfold Lx.signN
     simp only []
     first | (rw [if_pos (by omega), if_pos (by omega)]; done) | (rw [if_pos (by omega), if_neg (by omega), if_pos (by omega)]; done) | (rw [if_pos (by omega), if_neg (by omega), if_neg (by omega)]; done) | (rw [if_neg (by omega), if_pos (by omega)]; done) | (rw [if_neg (by omega), if_neg (by omega)]; done)
    exact fin_val (v' := iV 0) rfl rfl rfl (by rw [hsg]; rfl)
 ·
  simp [-List.getD_eq_getElem?_getD, -Nat.reduceLeDiff] at hc1
  refine g3 ?_
  refine RW.q (v := .bool (decide ((((l.getD 0 0).toNat : Nat) : Int) = ((123 : Nat) : Int)))) rfl (q_eql (a := (((l.getD 0 0).toNat : Nat) : Int)) (b := ((123 : Nat) : Int)) rfl rfl) ?_
  refine g3 ?_
  refine AW.orCh (t := 21) (x := 4) (a := (((l.getD 0 0).toNat : Nat) : Int)) rfl rfl _ rfl rfl rfl rfl fun _ => ?_
  refine g1 ?_
  refine AW.cond rfl (fun hc4 => ?_) fun hc4 => ?_
  ·
   simp [-List.getD_eq_getElem?_getD, -Nat.reduceLeDiff] at hc4
   refine g8 ?_
   have hsg : Lx.signN l = 1 := by
    unfold Lx.signN
    simp only []
    first | (rw [if_pos (by omega), if_pos (by omega)]; done) | (rw [if_pos (by omega), if_neg (by omega), if_pos (by omega)]; done) | (rw [if_pos (by omega), if_neg (by omega), if_neg (by omega)]; done) | (rw [if_neg (by omega), if_pos (by omega)]; done) | (rw [if_neg (by omega), if_neg (by omega)]; done)
   exact fin_val (v' := iV 1) rfl rfl rfl (by rw [hsg]; rfl)
  ·
   simp [-List.getD_eq_getElem?_getD, -Nat.reduceLeDiff] at hc4
   refine g9 ?_
   have hsg : Lx.signN l = 0 := by
    unfold Lx.signN
    simp only []
    first | (rw [if_pos (by omega), if_pos (by omega)]; done) | (rw [if_pos (by omega), if_neg (by omega), if_pos (by omega)]; done) | (rw [if_pos (by omega), if_neg (by omega), if_neg (by omega)]; done) | (rw [if_neg (by omega), if_pos (by omega)]; done) | (rw [if_neg (by omega), if_neg (by omega)]; done)
   exact fin_val (v' := iV 0) rfl rfl rfl (by rw [hsg]; rfl)
theorem token_c (w : World) (Φ : Hp) (hΦ : Hp.le Φ (hp w)) {l : List UInt8} {a : Nat} (hl : l.length ≤ 1099511627776) (ha : a < l.length) :
  Calls pg 118 #[.string (bs l), iV (a : Int)] w fun e w' => e = .returned (.tuple #[.agg #[iV (((Lx.tk (l.drop a)).1 : Nat) : Int), .string (bs (Lx.txt (l.drop a))), iV (a : Int)], iV ((a + (Lx.tk (l.drop a)).2.2.2.1 : Nat) : Int), .bool (Lx.tk (l.drop a)).2.2.2.2]) ∧ Bel w.heap.size w w' := by
 refine calls_of_AW (args := [.string (bs l), iV (a : Int)]) Tryz.func118 rfl (lBT rfl) (St ⟨w, Φ, []⟩ Φ []) (StP.init w Φ hΦ []) ?_
 show AW pg 122 [] _ _ _ [(0, .string (bs l)), (1, iV (a : Int))] _
 have hg0 : (l.drop a).getD 0 0 = l.getD a 0 := Lx.getD_drop l a 0
 have hld : (l.drop a).length = l.length - a := List.length_drop
 refine g2 ?_
 refine RW.alc rfl fun b1 => ?_
 refine g9 ?_
 refine RW.q (v := .int .u8 (((l.getD a 0).toNat : Nat) : Int)) rfl (q_indexS (l := l) (i := (a : Int)) rfl rfl uT9 (by omega) (by omega)) ?_
 refine g7 ?_
 refine RW.q (v := .bool (Lx.isL (l.getD a 0))) rfl (q_call (args := #[.int .u8 (((l.getD a 0).toNat : Nat) : Int)]) oK rfl rfl (fun w1 hw1 => letter_c w1 (Go.K.hp w1) (Hp.le_refl _))) ?_
 refine g3 ?_
 refine AW.cond rfl (fun hc1 => ?_) fun hc1 => ?_
 ·
  refine g4 ?_
  refine RW.q (v := iV ((a + Lx.run Lx.inN (l.drop a) : Nat) : Int)) rfl (q_call (args := #[.string (bs l), iV (a : Int), .func (.func 157) #[] #[]]) oK rfl rfl (fun w1 hw1 => run_c w1 (Go.K.hp w1) (Hp.le_refl _) (by omega) (by omega) oK (fun w2 c => inName_c w2 (Go.K.hp w2) (Hp.le_refl _)))) ?_
  refine g4 ?_
  have hrinN := Lx.run_drop_le Lx.inN l a (by omega)
  refine g4 ?_
  refine RW.q (v := .string (bs ((l.drop a).take ((a + Lx.run Lx.inN (l.drop a)) - a)))) rfl (q_sliceSLH (l := l) (i := (a : Int)) (j := ((a + Lx.run Lx.inN (l.drop a) : Nat) : Int)) rfl rfl rfl uT9 (by omega) (by omega) (by omega)) ?_
  refine g1 ?_
  refine RW.q (v := .agg #[iV 0, .string (bs ((l.drop a).take ((a + Lx.run Lx.inN (l.drop a)) - a))), iV (a : Int)]) rfl (q_build (vals := [(0, iV 0), (1, .string (bs ((l.drop a).take ((a + Lx.run Lx.inN (l.drop a)) - a)))), (2, iV (a : Int))]) zero65 uT65 places65 rfl rfl) ?_
  refine g5 ?_
  refine RW.effn (J' := St ⟨w, Φ, []⟩ Φ [.blk b1 65 [iV 0, .string (bs ((l.drop a).take ((a + Lx.run Lx.inN (l.drop a)) - a))), iV (a : Int)]]) (e_store (v := .agg #[iV 0, .string (bs ((l.drop a).take ((a + Lx.run Lx.inN (l.drop a)) - a))), iV (a : Int)]) 0 rfl rfl rfl sz65 rfl rfl rfl rfl rfl) ?_
  refine g7 ?_
  refine fin_res (vs := [.agg #[iV 0, .string (bs ((l.drop a).take ((a + Lx.run Lx.inN (l.drop a)) - a))), iV (a : Int)], iV ((a + Lx.run Lx.inN (l.drop a) : Nat) : Int), .bool (decide (((a + Lx.run Lx.inN (l.drop a) : Nat) : Int) - (a : Int) ≤ 24))]) (v := .tuple #[.agg #[iV 0, .string (bs ((l.drop a).take ((a + Lx.run Lx.inN (l.drop a)) - a))), iV (a : Int)], iV ((a + Lx.run Lx.inN (l.drop a) : Nat) : Int), .bool (decide (((a + Lx.run Lx.inN (l.drop a) : Nat) : Int) - (a : Int) ≤ 24))]) rfl rfl ⟨.agg rfl rfl (Cells.blk 0 rfl), .tmp rfl, .tmp rfl, trivial⟩ rfl (fun w' hw => ?_)
  refine ⟨?_, hw.below rfl⟩
  have htk : Lx.tk (l.drop a) = (0, 0, Lx.run Lx.inN (l.drop a), Lx.run Lx.inN (l.drop a), decide (Lx.run Lx.inN (l.drop a) ≤ 24)) := by
   unfold Lx.tk; rw [hg0, if_pos hc1]
  exact tokV (by rw [htk]; rfl) (by rw [Lx.txt, htk]; simp) (by rw [htk] <;> omega) (by rw [htk]; exact decide_eq_decide.2 (by omega))
 ·
  refine g3 ?_
  refine RW.q (v := .bool (Lx.isD (l.getD a 0))) rfl (q_call (args := #[.int .u8 (((l.getD a 0).toNat : Nat) : Int)]) oK rfl rfl (fun w1 hw1 => digit_c w1 (Go.K.hp w1) (Hp.le_refl _))) ?_
  refine g3 ?_
  refine AW.cond rfl (fun hc2 => ?_) fun hc2 => ?_
  ·
   refine g4 ?_
   refine RW.q (v := iV ((a + Lx.run Lx.isD (l.drop a) : Nat) : Int)) rfl (q_call (args := #[.string (bs l), iV (a : Int), .func (.func 158) #[] #[]]) oK rfl rfl (fun w1 hw1 => run_c w1 (Go.K.hp w1) (Hp.le_refl _) (by omega) (by omega) oK (fun w2 c => digit_c w2 (Go.K.hp w2) (Hp.le_refl _)))) ?_
   refine g5 ?_
   have hrisD := Lx.run_drop_le Lx.isD l a (by omega)
   refine g4 ?_
   refine RW.q (v := iV (l.length : Int)) rfl (q_lenS (l := l) rfl uT9) ?_
   refine g4 ?_
   refine RW.g (b := (decide (((a + Lx.run Lx.isD (l.drop a) + 1 : Nat) : Int) < (l.length : Int)))) (v := .int .u8 (((l.getD (a + Lx.run Lx.isD (l.drop a)) 0).toNat : Nat) : Int)) rfl rfl rfl (fun h => q_indexS (l := l) (i := ((a + Lx.run Lx.isD (l.drop a) : Nat) : Int)) (gv_pos h) (gv_pos h) uT9 (by (try simp [-List.getD_eq_getElem?_getD] at h); omega) (by (try simp [-List.getD_eq_getElem?_getD] at h); omega)) ?_
   refine RW.g (b := (decide (((a + Lx.run Lx.isD (l.drop a) + 1 : Nat) : Int) < (l.length : Int)))) (v := .bool (decide ((((l.getD (a + Lx.run Lx.isD (l.drop a)) 0).toNat : Nat) : Int) = ((46 : Nat) : Int)))) rfl rfl rfl (fun h => q_eql (a := (((l.getD (a + Lx.run Lx.isD (l.drop a)) 0).toNat : Nat) : Int)) (b := ((46 : Nat) : Int)) (gv_pos h) rfl) (RW.q (v := .bool ((decide (((a + Lx.run Lx.isD (l.drop a) + 1 : Nat) : Int) < (l.length : Int))) && (decide ((((l.getD (a + Lx.run Lx.isD (l.drop a)) 0).toNat : Nat) : Int) = ((46 : Nat) : Int))))) rfl (qpA rfl rfl rfl) ?_)
   refine g3 ?_
   refine RW.g (b := ((decide (((a + Lx.run Lx.isD (l.drop a) + 1 : Nat) : Int) < (l.length : Int))) && (decide ((((l.getD (a + Lx.run Lx.isD (l.drop a)) 0).toNat : Nat) : Int) = ((46 : Nat) : Int))))) (v := iV ((a + Lx.run Lx.isD (l.drop a) + 1 : Nat) : Int)) rfl rfl rfl (fun h => q_add (gv_pos h) rfl (by (try simp [-List.getD_eq_getElem?_getD] at h); omega) (by (try simp [-List.getD_eq_getElem?_getD] at h); unfold I64; omega)) ?_
   refine RW.g (b := ((decide (((a + Lx.run Lx.isD (l.drop a) + 1 : Nat) : Int) < (l.length : Int))) && (decide ((((l.getD (a + Lx.run Lx.isD (l.drop a)) 0).toNat : Nat) : Int) = ((46 : Nat) : Int))))) (v := .int .u8 (((l.getD (a + Lx.run Lx.isD (l.drop a) + 1) 0).toNat : Nat) : Int)) rfl rfl rfl (fun h => q_indexS (l := l) (i := ((a + Lx.run Lx.isD (l.drop a) + 1 : Nat) : Int)) (gv_pos h) (gv_pos h) uT9 (by (try simp [-List.getD_eq_getElem?_getD] at h); omega) (by (try simp [-List.getD_eq_getElem?_getD] at h); omega)) ?_
   refine RW.g (b := ((decide (((a + Lx.run Lx.isD (l.drop a) + 1 : Nat) : Int) < (l.length : Int))) && (decide ((((l.getD (a + Lx.run Lx.isD (l.drop a)) 0).toNat : Nat) : Int) = ((46 : Nat) : Int))))) (v := .bool (Lx.isD (l.getD (a + Lx.run Lx.isD (l.drop a) + 1) 0))) rfl rfl rfl (fun h => q_call (args := #[.int .u8 (((l.getD (a + Lx.run Lx.isD (l.drop a) + 1) 0).toNat : Nat) : Int)]) oK rfl (args1 (gv_pos h)) (fun w1 hw1 => digit_c w1 (Go.K.hp w1) (Hp.le_refl _))) (RW.q (v := .bool (((decide (((a + Lx.run Lx.isD (l.drop a) + 1 : Nat) : Int) < (l.length : Int))) && (decide ((((l.getD (a + Lx.run Lx.isD (l.drop a)) 0).toNat : Nat) : Int) = ((46 : Nat) : Int)))) && (Lx.isD (l.getD (a + Lx.run Lx.isD (l.drop a) + 1) 0)))) rfl (qpA rfl rfl rfl) ?_)
   refine g2 ?_
   refine AW.cond rfl (fun hc3 => ?_) fun hc3 => ?_
   ·
    simp [-List.getD_eq_getElem?_getD] at hc3
    have hnum : Lx.numN (l.drop a) = Lx.run Lx.isD (l.drop a) + 1 + Lx.run Lx.isD (l.drop (a + Lx.run Lx.isD (l.drop a) + 1)) := by
     unfold Lx.numN
     rw [if_pos (by rw [hld, Lx.getD_drop, Lx.getD_drop]; refine ⟨by omega, by omega, ?_⟩; simpa [Nat.add_assoc] using hc3.2), List.drop_drop]; rfl
    have hrE := Lx.run_drop_le Lx.isD l (a + Lx.run Lx.isD (l.drop a) + 1) (by omega)
    refine g4 ?_
    refine RW.q (v := iV (((a + Lx.run Lx.isD (l.drop a) + 1) + Lx.run Lx.isD (l.drop (a + Lx.run Lx.isD (l.drop a) + 1)) : Nat) : Int)) rfl (q_call (args := #[.string (bs l), iV ((a + Lx.run Lx.isD (l.drop a) + 1 : Nat) : Int), .func (.func 158) #[] #[]]) oK rfl rfl (fun w1 hw1 => run_c w1 (Go.K.hp w1) (Hp.le_refl _) (by omega) (by omega) oK (fun w2 c => digit_c w2 (Go.K.hp w2) (Hp.le_refl _)))) ?_
    refine g8 ?_
    refine RW.q (v := .string (bs ((l.drop a).take (((a + Lx.run Lx.isD (l.drop a) + 1) + Lx.run Lx.isD (l.drop (a + Lx.run Lx.isD (l.drop a) + 1))) - a)))) rfl (q_sliceSLH (l := l) (i := (a : Int)) (j := (((a + Lx.run Lx.isD (l.drop a) + 1) + Lx.run Lx.isD (l.drop (a + Lx.run Lx.isD (l.drop a) + 1)) : Nat) : Int)) rfl rfl rfl uT9 (by omega) (by omega) (by omega)) ?_
    refine g1 ?_
    refine RW.q (v := .agg #[iV 1, .string (bs ((l.drop a).take (((a + Lx.run Lx.isD (l.drop a) + 1) + Lx.run Lx.isD (l.drop (a + Lx.run Lx.isD (l.drop a) + 1))) - a))), iV (a : Int)]) rfl (q_build (vals := [(0, iV 1), (1, .string (bs ((l.drop a).take (((a + Lx.run Lx.isD (l.drop a) + 1) + Lx.run Lx.isD (l.drop (a + Lx.run Lx.isD (l.drop a) + 1))) - a)))), (2, iV (a : Int))]) zero65 uT65 places65 rfl rfl) ?_
    refine g5 ?_
    refine RW.effn (J' := St ⟨w, Φ, []⟩ Φ [.blk b1 65 [iV 1, .string (bs ((l.drop a).take (((a + Lx.run Lx.isD (l.drop a) + 1) + Lx.run Lx.isD (l.drop (a + Lx.run Lx.isD (l.drop a) + 1))) - a))), iV (a : Int)]]) (e_store (v := .agg #[iV 1, .string (bs ((l.drop a).take (((a + Lx.run Lx.isD (l.drop a) + 1) + Lx.run Lx.isD (l.drop (a + Lx.run Lx.isD (l.drop a) + 1))) - a))), iV (a : Int)]) 0 rfl rfl rfl sz65 rfl rfl rfl rfl rfl) ?_
    refine g7 ?_
    refine fin_res (vs := [.agg #[iV 1, .string (bs ((l.drop a).take (((a + Lx.run Lx.isD (l.drop a) + 1) + Lx.run Lx.isD (l.drop (a + Lx.run Lx.isD (l.drop a) + 1))) - a))), iV (a : Int)], iV (((a + Lx.run Lx.isD (l.drop a) + 1) + Lx.run Lx.isD (l.drop (a + Lx.run Lx.isD (l.drop a) + 1)) : Nat) : Int), .bool (decide ((((a + Lx.run Lx.isD (l.drop a) + 1) + Lx.run Lx.isD (l.drop (a + Lx.run Lx.isD (l.drop a) + 1)) : Nat) : Int) - (a : Int) ≤ 24))]) (v := .tuple #[.agg #[iV 1, .string (bs ((l.drop a).take (((a + Lx.run Lx.isD (l.drop a) + 1) + Lx.run Lx.isD (l.drop (a + Lx.run Lx.isD (l.drop a) + 1))) - a))), iV (a : Int)], iV (((a + Lx.run Lx.isD (l.drop a) + 1) + Lx.run Lx.isD (l.drop (a + Lx.run Lx.isD (l.drop a) + 1)) : Nat) : Int), .bool (decide ((((a + Lx.run Lx.isD (l.drop a) + 1) + Lx.run Lx.isD (l.drop (a + Lx.run Lx.isD (l.drop a) + 1)) : Nat) : Int) - (a : Int) ≤ 24))]) rfl rfl ⟨.agg rfl rfl (Cells.blk 0 rfl), .tmp rfl, .tmp rfl, trivial⟩ rfl (fun w' hw => ?_)
    refine ⟨?_, hw.below rfl⟩
    have htk : Lx.tk (l.drop a) = (1, 0, Lx.numN (l.drop a), Lx.numN (l.drop a), decide (Lx.numN (l.drop a) ≤ 24)) := by
     unfold Lx.tk; rw [hg0, if_neg (by rw [hc1]; simp), if_pos hc2]
    exact tokV (by rw [htk]; rfl) (by rw [Lx.txt, htk]; rw [hnum]; simp only [List.drop_zero]; congr 1; omega) (by rw [htk]; simp only []; rw [hnum]; omega) (by rw [htk]; rw [hnum]; exact decide_eq_decide.2 (by omega))
   ·
    simp [-List.getD_eq_getElem?_getD] at hc3
    have hnum : Lx.numN (l.drop a) = Lx.run Lx.isD (l.drop a) := by
     unfold Lx.numN
     rw [if_neg (by rw [hld, Lx.getD_drop, Lx.getD_drop]; rintro ⟨h7, h8, h9⟩; have h6 := hc3 (by omega) (by omega); rw [Nat.add_assoc] at h6; rw [h6] at h9; cases h9)]
    refine g7 ?_
    refine RW.q (v := .string (bs ((l.drop a).take ((a + Lx.run Lx.isD (l.drop a)) - a)))) rfl (q_sliceSLH (l := l) (i := (a : Int)) (j := ((a + Lx.run Lx.isD (l.drop a) : Nat) : Int)) rfl rfl rfl uT9 (by omega) (by omega) (by omega)) ?_
    refine g1 ?_
    refine RW.q (v := .agg #[iV 1, .string (bs ((l.drop a).take ((a + Lx.run Lx.isD (l.drop a)) - a))), iV (a : Int)]) rfl (q_build (vals := [(0, iV 1), (1, .string (bs ((l.drop a).take ((a + Lx.run Lx.isD (l.drop a)) - a)))), (2, iV (a : Int))]) zero65 uT65 places65 rfl rfl) ?_
    refine g5 ?_
    refine RW.effn (J' := St ⟨w, Φ, []⟩ Φ [.blk b1 65 [iV 1, .string (bs ((l.drop a).take ((a + Lx.run Lx.isD (l.drop a)) - a))), iV (a : Int)]]) (e_store (v := .agg #[iV 1, .string (bs ((l.drop a).take ((a + Lx.run Lx.isD (l.drop a)) - a))), iV (a : Int)]) 0 rfl rfl rfl sz65 rfl rfl rfl rfl rfl) ?_
    refine g7 ?_
    refine fin_res (vs := [.agg #[iV 1, .string (bs ((l.drop a).take ((a + Lx.run Lx.isD (l.drop a)) - a))), iV (a : Int)], iV ((a + Lx.run Lx.isD (l.drop a) : Nat) : Int), .bool (decide (((a + Lx.run Lx.isD (l.drop a) : Nat) : Int) - (a : Int) ≤ 24))]) (v := .tuple #[.agg #[iV 1, .string (bs ((l.drop a).take ((a + Lx.run Lx.isD (l.drop a)) - a))), iV (a : Int)], iV ((a + Lx.run Lx.isD (l.drop a) : Nat) : Int), .bool (decide (((a + Lx.run Lx.isD (l.drop a) : Nat) : Int) - (a : Int) ≤ 24))]) rfl rfl ⟨.agg rfl rfl (Cells.blk 0 rfl), .tmp rfl, .tmp rfl, trivial⟩ rfl (fun w' hw => ?_)
    refine ⟨?_, hw.below rfl⟩
    have htk : Lx.tk (l.drop a) = (1, 0, Lx.numN (l.drop a), Lx.numN (l.drop a), decide (Lx.numN (l.drop a) ≤ 24)) := by
     unfold Lx.tk; rw [hg0, if_neg (by rw [hc1]; simp), if_pos hc2]
    exact tokV (by rw [htk]; rfl) (by rw [Lx.txt, htk]; rw [hnum]; simp) (by rw [htk]; simp only []; rw [hnum]) (by rw [htk]; rw [hnum]; exact decide_eq_decide.2 (by omega))
  ·
   refine g3 ?_
   refine RW.q (v := .bool (decide ((((l.getD a 0).toNat : Nat) : Int) = ((34 : Nat) : Int)))) rfl (q_eql (a := (((l.getD a 0).toNat : Nat) : Int)) (b := ((34 : Nat) : Int)) rfl rfl) ?_
   refine g3 ?_
   refine AW.cond rfl (fun hc4 => ?_) fun hc4 => ?_
   ·
    simp [-List.getD_eq_getElem?_getD] at hc4
    refine g5 ?_
    refine RW.q (v := iV (((a + 1) + Lx.run Lx.inS (l.drop (a + 1)) : Nat) : Int)) rfl (q_call (args := #[.string (bs l), iV ((a + 1 : Nat) : Int), .func (.func 159) #[] #[]]) oK rfl rfl (fun w1 hw1 => run_c w1 (Go.K.hp w1) (Hp.le_refl _) (by omega) (by omega) oK (fun w2 c => inString_c w2 (Go.K.hp w2) (Hp.le_refl _)))) ?_
    refine g4 ?_
    have hrinS := Lx.run_drop_le Lx.inS l (a + 1) (by omega)
    refine g3 ?_
    refine RW.q (v := iV (l.length : Int)) rfl (q_lenS (l := l) rfl uT9) ?_
    refine g4 ?_
    refine RW.g (b := (decide ((((a + 1) + Lx.run Lx.inS (l.drop (a + 1)) : Nat) : Int) < (l.length : Int)))) (v := .int .u8 (((l.getD ((a + 1) + Lx.run Lx.inS (l.drop (a + 1))) 0).toNat : Nat) : Int)) rfl rfl rfl (fun h => q_indexS (l := l) (i := (((a + 1) + Lx.run Lx.inS (l.drop (a + 1)) : Nat) : Int)) (gv_pos h) (gv_pos h) uT9 (by (try simp [-List.getD_eq_getElem?_getD] at h); omega) (by (try simp [-List.getD_eq_getElem?_getD] at h); omega)) ?_
    refine RW.g (b := (decide ((((a + 1) + Lx.run Lx.inS (l.drop (a + 1)) : Nat) : Int) < (l.length : Int)))) (v := .bool (decide ((((l.getD ((a + 1) + Lx.run Lx.inS (l.drop (a + 1))) 0).toNat : Nat) : Int) = ((34 : Nat) : Int)))) rfl rfl rfl (fun h => q_eql (a := (((l.getD ((a + 1) + Lx.run Lx.inS (l.drop (a + 1))) 0).toNat : Nat) : Int)) (b := ((34 : Nat) : Int)) (gv_pos h) rfl) (RW.q (v := .bool ((decide ((((a + 1) + Lx.run Lx.inS (l.drop (a + 1)) : Nat) : Int) < (l.length : Int))) && (decide ((((l.getD ((a + 1) + Lx.run Lx.inS (l.drop (a + 1))) 0).toNat : Nat) : Int) = ((34 : Nat) : Int))))) rfl (qpA rfl rfl rfl) ?_)
    refine g3 ?_
    refine RW.g (b := ((decide ((((a + 1) + Lx.run Lx.inS (l.drop (a + 1)) : Nat) : Int) < (l.length : Int))) && (decide ((((l.getD ((a + 1) + Lx.run Lx.inS (l.drop (a + 1))) 0).toNat : Nat) : Int) = ((34 : Nat) : Int))))) (v := iV ((((a + 1) + Lx.run Lx.inS (l.drop (a + 1)) : Nat) : Int) - (a : Int))) rfl rfl rfl (fun h => q_sub (gv_pos h) (gv_pos h) (by (try simp [-List.getD_eq_getElem?_getD] at h); omega) (by (try simp [-List.getD_eq_getElem?_getD] at h); unfold I64; omega)) ?_
    refine RW.g (b := ((decide ((((a + 1) + Lx.run Lx.inS (l.drop (a + 1)) : Nat) : Int) < (l.length : Int))) && (decide ((((l.getD ((a + 1) + Lx.run Lx.inS (l.drop (a + 1))) 0).toNat : Nat) : Int) = ((34 : Nat) : Int))))) (v := iV (((((a + 1) + Lx.run Lx.inS (l.drop (a + 1)) : Nat) : Int) - (a : Int)) - 1)) rfl rfl rfl (fun h => q_sub (gv_pos h) rfl (by (try simp [-List.getD_eq_getElem?_getD] at h); omega) (by (try simp [-List.getD_eq_getElem?_getD] at h); unfold I64; omega)) ?_
    refine g1 ?_
    refine RW.q (v := .bool (((decide ((((a + 1) + Lx.run Lx.inS (l.drop (a + 1)) : Nat) : Int) < (l.length : Int))) && (decide ((((l.getD ((a + 1) + Lx.run Lx.inS (l.drop (a + 1))) 0).toNat : Nat) : Int) = ((34 : Nat) : Int)))) && (decide (((((a + 1) + Lx.run Lx.inS (l.drop (a + 1)) : Nat) : Int) - (a : Int)) - 1 ≤ 500)))) rfl (qpA rfl rfl rfl) ?_
    refine g4 ?_
    have hdd : (l.drop a).drop 1 = l.drop (a + 1) := List.drop_drop ..
    refine g5 ?_
    refine RW.q (v := .string (bs ((l.drop (a + 1)).take (((a + 1) + Lx.run Lx.inS (l.drop (a + 1))) - (a + 1))))) rfl (q_sliceSLH (l := l) (i := ((a + 1 : Nat) : Int)) (j := (((a + 1) + Lx.run Lx.inS (l.drop (a + 1)) : Nat) : Int)) rfl rfl rfl uT9 (by omega) (by omega) (by omega)) ?_
    refine g1 ?_
    refine RW.q (v := .agg #[iV 2, .string (bs ((l.drop (a + 1)).take (((a + 1) + Lx.run Lx.inS (l.drop (a + 1))) - (a + 1)))), iV (a : Int)]) rfl (q_build (vals := [(0, iV 2), (1, .string (bs ((l.drop (a + 1)).take (((a + 1) + Lx.run Lx.inS (l.drop (a + 1))) - (a + 1))))), (2, iV (a : Int))]) zero65 uT65 places65 rfl rfl) ?_
    refine g3 ?_
    refine RW.effn (J' := St ⟨w, Φ, []⟩ Φ [.blk b1 65 [iV 2, .string (bs ((l.drop (a + 1)).take (((a + 1) + Lx.run Lx.inS (l.drop (a + 1))) - (a + 1)))), iV (a : Int)]]) (e_store (v := .agg #[iV 2, .string (bs ((l.drop (a + 1)).take (((a + 1) + Lx.run Lx.inS (l.drop (a + 1))) - (a + 1)))), iV (a : Int)]) 0 rfl rfl rfl sz65 rfl rfl rfl rfl rfl) ?_
    refine g7 ?_
    refine fin_res (vs := [.agg #[iV 2, .string (bs ((l.drop (a + 1)).take (((a + 1) + Lx.run Lx.inS (l.drop (a + 1))) - (a + 1)))), iV (a : Int)], iV (((a + 1) + Lx.run Lx.inS (l.drop (a + 1)) + 1 : Nat) : Int), .bool (((decide ((((a + 1) + Lx.run Lx.inS (l.drop (a + 1)) : Nat) : Int) < (l.length : Int))) && (decide ((((l.getD ((a + 1) + Lx.run Lx.inS (l.drop (a + 1))) 0).toNat : Nat) : Int) = ((34 : Nat) : Int)))) && (decide (((((a + 1) + Lx.run Lx.inS (l.drop (a + 1)) : Nat) : Int) - (a : Int)) - 1 ≤ 500)))]) (v := .tuple #[.agg #[iV 2, .string (bs ((l.drop (a + 1)).take (((a + 1) + Lx.run Lx.inS (l.drop (a + 1))) - (a + 1)))), iV (a : Int)], iV (((a + 1) + Lx.run Lx.inS (l.drop (a + 1)) + 1 : Nat) : Int), .bool (((decide ((((a + 1) + Lx.run Lx.inS (l.drop (a + 1)) : Nat) : Int) < (l.length : Int))) && (decide ((((l.getD ((a + 1) + Lx.run Lx.inS (l.drop (a + 1))) 0).toNat : Nat) : Int) = ((34 : Nat) : Int)))) && (decide (((((a + 1) + Lx.run Lx.inS (l.drop (a + 1)) : Nat) : Int) - (a : Int)) - 1 ≤ 500)))]) rfl rfl ⟨.agg rfl rfl (Cells.blk 0 rfl), .tmp rfl, .tmp rfl, trivial⟩ rfl (fun w' hw => ?_)
    refine ⟨?_, hw.below rfl⟩
    have htk : Lx.tk (l.drop a) = (2, 1, Lx.run Lx.inS ((l.drop a).drop 1), Lx.run Lx.inS ((l.drop a).drop 1) + 2, decide (Lx.run Lx.inS ((l.drop a).drop 1) + 1 < (l.drop a).length ∧ ((l.drop a).getD (Lx.run Lx.inS ((l.drop a).drop 1) + 1) 0).toNat = 34 ∧ Lx.run Lx.inS ((l.drop a).drop 1) ≤ 500)) := by
     unfold Lx.tk; rw [hg0, if_neg (by rw [hc1]; simp), if_neg (by rw [hc2]; simp), if_pos (by omega)]
    exact tokV (by rw [htk]; rfl) (by rw [Lx.txt, htk]; rw [hdd]; simp only; congr 1; omega) (by rw [htk, hdd]; simp only []; omega) (by rw [htk]; rw [Bool.eq_iff_iff]; simp only [Bool.and_eq_true, decide_eq_true_eq]; rw [hdd, Lx.getD_drop, hld, show a + (Lx.run Lx.inS (l.drop (a + 1)) + 1) = a + 1 + Lx.run Lx.inS (l.drop (a + 1)) by omega]; omega)
   ·
    simp [-List.getD_eq_getElem?_getD] at hc4
    refine g4 ?_
    have hsg2 : Lx.signN (l.drop a) ≤ l.length - a := by rw [← hld]; exact Lx.signN_le _
    refine g4 ?_
    refine RW.q (v := .string (bs (l.drop a))) rfl (q_sliceSL (l := l) (i := (a : Int)) rfl rfl uT9 (by omega) (by omega)) (RW.q (v := iV ((Lx.signN (l.drop a) : Nat) : Int)) rfl (q_call (args := #[.string (bs (l.drop a))]) oK rfl rfl (fun w1 hw1 => sign_c w1 (Go.K.hp w1) (Hp.le_refl _) (by simp; omega) (by simp; omega))) ?_)
    refine g9 ?_
    refine RW.q (v := .string (bs ((l.drop a).take ((a + Lx.signN (l.drop a)) - a)))) rfl (q_sliceSLH (l := l) (i := (a : Int)) (j := ((a + Lx.signN (l.drop a) : Nat) : Int)) rfl rfl rfl uT9 (by omega) (by omega) (by omega)) ?_
    refine g1 ?_
    refine RW.q (v := .agg #[iV 3, .string (bs ((l.drop a).take ((a + Lx.signN (l.drop a)) - a))), iV (a : Int)]) rfl (q_build (vals := [(0, iV 3), (1, .string (bs ((l.drop a).take ((a + Lx.signN (l.drop a)) - a)))), (2, iV (a : Int))]) zero65 uT65 places65 rfl rfl) ?_
    refine g4 ?_
    refine RW.effn (J' := St ⟨w, Φ, []⟩ Φ [.blk b1 65 [iV 3, .string (bs ((l.drop a).take ((a + Lx.signN (l.drop a)) - a))), iV (a : Int)]]) (e_store (v := .agg #[iV 3, .string (bs ((l.drop a).take ((a + Lx.signN (l.drop a)) - a))), iV (a : Int)]) 0 rfl rfl rfl sz65 rfl rfl rfl rfl rfl) ?_
    refine g5 ?_
    refine fin_res (vs := [.agg #[iV 3, .string (bs ((l.drop a).take ((a + Lx.signN (l.drop a)) - a))), iV (a : Int)], iV ((a + Lx.signN (l.drop a) : Nat) : Int), .bool (decide ((a : Int) < ((a + Lx.signN (l.drop a) : Nat) : Int)))]) (v := .tuple #[.agg #[iV 3, .string (bs ((l.drop a).take ((a + Lx.signN (l.drop a)) - a))), iV (a : Int)], iV ((a + Lx.signN (l.drop a) : Nat) : Int), .bool (decide ((a : Int) < ((a + Lx.signN (l.drop a) : Nat) : Int)))]) rfl rfl ⟨.agg rfl rfl (Cells.blk 0 rfl), .tmp rfl, .tmp rfl, trivial⟩ rfl (fun w' hw => ?_)
    refine ⟨?_, hw.below rfl⟩
    have htk : Lx.tk (l.drop a) = (3, 0, Lx.signN (l.drop a), Lx.signN (l.drop a), decide (0 < Lx.signN (l.drop a))) := by
     unfold Lx.tk; rw [hg0, if_neg (by rw [hc1]; simp), if_neg (by rw [hc2]; simp), if_neg (by omega)]
    exact tokV (by rw [htk]; rfl) (by rw [Lx.txt, htk]; simp) (by rw [htk] <;> omega) (by rw [htk]; exact decide_eq_decide.2 (by omega))
instance : Rep Bt.Token where
 sz := 3
 bytes := 32
 rep := fun _ x cs => cs = [iV x.Kind, .string (bs x.Text), iV x.At] ∧ (I64 x.Kind ∧ x.Text.length ≤ maxLen ∧ I64 x.At)
 len := fun h => by rw [h.1]; rfl
 mono := fun _ h => h
 one := fun h u hu => by
  rw [h.1] at hu
  simp only [List.mem_cons, List.not_mem_nil, or_false] at hu
  rcases hu with rfl | rfl | rfl <;> rfl
instance : RepE Bt.Token where
 cells := fun x => [iV x.Kind, .string (bs x.Text), iV x.At]
 wf := fun x => I64 x.Kind ∧ x.Text.length ≤ maxLen ∧ I64 x.At
 iff := Iff.rfl
theorem evenTok : EvenE Bt.Token := fun _ => rfl
abbrev Tkn (N : Nat) := {x : Bt.Token × Bool // Lx.wfT N x.1}
def tkV (x : Bt.Token) : Value := .agg #[iV x.Kind, .string (bs x.Text), iV x.At]
def encT {N : Nat} (x : Tkn N) : Array Value := #[tkV x.1.1, .bool x.1.2]
theorem pcell_same {B1 : Nat} {w w' : World} {v : Value} (h : w'.heap[B1]? = w.heap[B1]?) (hp : PCell (hp w) ⟨B1, 0, none⟩ v) : PCell (K.hp w') ⟨B1, 0, none⟩ v := by
 obtain ⟨cs, T, fz, h1, h2, h3⟩ := hp
 exact ⟨cs, T, fz, h.trans h1, h2, h3⟩
theorem tokens1_stops {n : Nat} {l : List UInt8} (hl : l.length ≤ 65536) {B1 : Nat} {w : World} (hp1 : PCell (hp w) ⟨B1, 0, none⟩ (.string (bs l))) :
  SeqStopsK Fence.wide n pg 116 #[.pointer (some ⟨B1, 0, none⟩)] (encT (N := l.length)) (fun W W' => W'.heap[B1]? = W.heap[B1]?) (fun xs => xs.map (·.1) = Lx.seqT l) (fun xs => xs.map (·.1) <+: Lx.seqT l) (l.length + 2) w := by
 intro l0 J Jx W hW hJ hJx hY h00
 have hp2 : PCell (hp W) ⟨B1, 0, none⟩ (.string (bs l)) := pcell_same (hW.block B1 (by obtain ⟨cs, T, fz, h1, _⟩ := hp1; exact (Array.getElem?_eq_some_iff.1 h1).1)) hp1
 have hK : ∀ Φ Ψ : Hp, Hp.le Φ Ψ → PCell Φ ⟨B1, 0, none⟩ (.string (bs l)) → PCell Ψ ⟨B1, 0, none⟩ (.string (bs l)) := fun _ _ h k => k.mono h
 have hK0 : ∀ Φ Ψ : Hp, Hp.le Φ Ψ → True → True := fun _ _ _ _ => trivial
 have hcell : ∀ x, Cell (Jc J (fun Φ => PCell Φ ⟨B1, 0, none⟩ (.string (bs l))) hJ hK x) ⟨B1, 0, none⟩ (.string (bs l)) := fun x w hw => hw.2.cell
 refine callsIn_of_AI (args := [.func (.yield l0) #[] #[], .pointer (some ⟨B1, 0, none⟩)]) Tryz.func116 rfl trivial (lBT rfl) rfl (Jc J (fun Φ => PCell Φ ⟨B1, 0, none⟩ (.string (bs l))) hJ hK []) ⟨h00, hp2⟩ ?_
 generalize hR : (fun (e : Ending) W' => (∃ v, e = .returned v) ∧ ((∃ xs : List (Tkn l.length), xs.map (·.1) = Lx.seqT l ∧ J xs W') ∨ (∃ pre : List (Tkn l.length), pre.map (·.1) <+: Lx.seqT l ∧ Jx pre W'))) = R
 have hRt : ∀ xs : List (Tkn l.length), xs.map (·.1) = Lx.seqT l → ∀ v W', J xs W' → R (.returned v) W' := fun xs h1 v W' h2 => by rw [← hR]; exact ⟨⟨_, rfl⟩, .inl ⟨xs, h1, h2⟩⟩
 have hRf : ∀ xs : List (Tkn l.length), xs.map (·.1) <+: Lx.seqT l → ∀ v W', Jx xs W' → R (.returned v) W' := fun xs h1 v W' h2 => by rw [← hR]; exact ⟨⟨_, rfl⟩, .inr ⟨xs, h1, h2⟩⟩
 have hLO : ¬ LetsOut (bodyPost pg Tryz.f116 R) := fun ⟨_, _, h⟩ => by
  have h' : R .outgrown _ := h
  rw [← hR] at h'
  obtain ⟨⟨v, hv⟩, _⟩ := h'
  cases hv
 show AI _ _ pg 37 [] _ _ _ [(0, .func (.yield l0) #[] #[]), (1, .pointer (some ⟨B1, 0, none⟩))] _
 have hs0 := Lx.skp_le false l
 refine AI.seq (AI.seq (AI.region rfl hLO ?_))
 refine RW.q rfl (qa_ld rfl (hcell [])) (RW.q (v := iV ((0 + Lx.skp false (l.drop 0) : Nat) : Int)) rfl (q_call (args := #[.string (bs l), iV ((0 : Nat) : Int)]) oK rfl rfl (fun w1 _ => skip_c w1 (K.hp w1) (Hp.le_refl _) (by omega) (by omega))) ?_)
 refine g2 ?_
 refine PI.qn0 (PI.then_n (AI.block (AI.loop (fun s J' m => ∃ (pre : List (Tkn l.length)) (a fu : Nat), s = [(0, .func (.yield l0) #[] #[]), (1, .pointer (some ⟨B1, 0, none⟩)), (3, iV (a : Int))] ∧ J' = Jc J (fun Φ => PCell Φ ⟨B1, 0, none⟩ (.string (bs l))) hJ hK pre ∧ m = l.length - a ∧ a ≤ l.length ∧ l.length - a < fu ∧ pre.map (·.1) ++ Lx.stm fu l a = Lx.seqT l ∧ pre.length + fu ≤ l.length + 1)
  (s0 := _) (J1 := _) (m0 := _) ⟨[], 0 + Lx.skp false (l.drop 0), l.length + 1, rfl, rfl, rfl, by simpa using hs0, by omega, by simp [Lx.seqT], by simp⟩ ⟨rfl, rfl, rfl, trivial⟩ (fun _ h => h) ?_)))
 rintro _ _ _ _ ⟨pre, a, fu, rfl, rfl, rfl, ha, hfu, hpre, hpl⟩
 refine AI.seq (AI.seq (AI.region rfl hLO ?_))
 refine g1 ?_
 refine RW.q rfl (qa_ld rfl (hcell pre)) (RW.q rfl (q_lenS (l := l) rfl uT9) ?_)
 refine g2 ?_
 obtain ⟨fv, rfl⟩ : ∃ fv, fu = fv + 1 := ⟨fu - 1, by omega⟩
 refine PI.qn0 (PI.then_n (AI.cond rfl (fun hc => ?_) fun hc => ?_))
 ·
  have hc : a < l.length := by simpa using hc
  have hld : (l.drop a).length = l.length - a := List.length_drop
  refine AI.skip (PI.then_n (AI.block (AI.seq (AI.base fun w1 hw1 => AI.region rfl hLO ?_))))
  refine RW.q rfl (qa_ld rfl (Cell.phi hw1.2)) ?_
  refine g1 ?_
  refine RW.q (v := .tuple #[.agg #[iV (((Lx.tk (l.drop a)).1 : Nat) : Int), .string (bs (Lx.txt (l.drop a))), iV (a : Int)], iV ((a + (Lx.tk (l.drop a)).2.2.2.1 : Nat) : Int), .bool (Lx.tk (l.drop a)).2.2.2.2]) rfl (q_call (args := #[.string (bs l), iV (a : Int)]) oK rfl rfl (fun w1 _ => token_c w1 (K.hp w1) (Hp.le_refl _) (by omega) (by omega))) ?_
  refine g4 ?_
  refine RW.alc rfl fun b4 => ?_
  refine g4 ?_
  refine PI.qn0 (PI.then_n (AI.seq (AI.seq (AI.regionK 3 rfl hLO ?_))))
  refine g4 ?_
  let x : Tkn l.length := ⟨(⟨((Lx.tk (l.drop a)).1 : Nat), Lx.txt (l.drop a), (a : Nat)⟩, (Lx.tk (l.drop a)).2.2.2.2), Lx.wf_tok (by omega)⟩
  refine PI.yield hLO rfl rfl rfl (args := encT x) rfl (J' := fun b => if b then Jc J (fun Φ => PCell Φ ⟨B1, 0, none⟩ (.string (bs l))) hJ hK (pre ++ [x]) else Jc Jx (fun _ => True) hJx hK0 (pre ++ [x])) (fun w2 hw2 => ?_) (fun b => ?_)
  ·
   have hw3 := st_Jc (hJ := hJ) (hK := hK) hw1 hw2
   obtain ⟨fn, tmps, assign, body, hy, hr⟩ := hY pre x w2 hw3.1 (by omega)
   refine ⟨fn, tmps, assign, body, hy, hr.mono fun e w3 he => ?_⟩
   rcases he with ⟨he, h1, h2⟩ | ⟨he, h1⟩
   ·
    exact ⟨true, he, h1, pcell_same h2 hw3.2⟩
   ·
    exact ⟨false, he, h1, trivial⟩
  ·
   cases b with
   | false =>
    refine g2 ?_
    refine RW.g (b := true) (v := undef) rfl rfl rfl (fun h => nomatch h) (RW.g (b := true) (v := undef) rfl rfl rfl (fun h => nomatch h) (RW.q (v := .bool true) rfl (q_pick (t := true) rfl (fun _ => rfl) (fun hp => nomatch hp)) ?_))
    refine g1 ?_
    refine PI.qn0 (PI.then_n (AI.cond (b := true) rfl (fun _ => AI.ret ?_) (fun h => nomatch h)))
    refine g5 ?_
    refine fin_none rfl rfl (fun _ h => h) fun w3 hw3 => hRf (pre ++ [x]) ?_ _ _ hw3.1
    rw [← hpre]
    cases hk : (Lx.tk (l.drop a)).2.2.2.2 with
    | true => rw [Lx.stm_tok hc hk]; simp [x, hk]
    | false => rw [Lx.stm_bad hc hk]; simp [x, hk]
   | true =>
    refine g2 ?_
    refine RW.gl rfl rfl rfl (q_move rfl) (RW.gl (v := .bool (!(Lx.tk (l.drop a)).2.2.2.2)) rfl rfl rfl (q_not rfl) (RW.q (v := .bool (!(Lx.tk (l.drop a)).2.2.2.2)) rfl (q_pick (t := false) rfl (fun hp => nomatch hp) (fun _ => rfl)) ?_))
    refine g1 ?_
    refine PI.qn0 (PI.then_n (AI.cond rfl (fun hk => AI.ret ?_) fun hk => AI.skip (PI.then_n (AI.region rfl hLO ?_))))
    ·
     have hk : (Lx.tk (l.drop a)).2.2.2.2 = false := by simpa using hk
     refine g5 ?_
     refine fin_none rfl rfl (fun _ h => h) fun w3 hw3 => hRt (pre ++ [x]) ?_ _ _ hw3.1
     rw [← hpre, Lx.stm_bad hc hk]; simp [x, hk]
    ·
     have hk : (Lx.tk (l.drop a)).2.2.2.2 = true := by simpa using hk
     obtain ⟨hu1, hu2⟩ := Lx.tk_ok (l := l.drop a) (by omega) hk
     have hs1 := Lx.skp_le false (l.drop (a + (Lx.tk (l.drop a)).2.2.2.1))
     rw [List.length_drop] at hs1
     refine RW.q rfl (qa_ld rfl (hcell (pre ++ [x]))) ?_
     refine g1 ?_
     refine RW.q (v := iV ((a + (Lx.tk (l.drop a)).2.2.2.1 + Lx.skp false (l.drop (a + (Lx.tk (l.drop a)).2.2.2.1)) : Nat) : Int)) rfl (q_call (args := #[.string (bs l), iV ((a + (Lx.tk (l.drop a)).2.2.2.1 : Nat) : Int)]) oK rfl rfl (fun w1 _ => skip_c w1 (K.hp w1) (Hp.le_refl _) (by omega) (by omega))) ?_
     refine g2 ?_
     refine PI.qn0 (Post.blk_n ?_)
     exact Post.back (s' := _) (J' := _) (m' := _) (by omega) ⟨pre ++ [x], a + (Lx.tk (l.drop a)).2.2.2.1 + Lx.skp false (l.drop (a + (Lx.tk (l.drop a)).2.2.2.1)), fv, rfl, rfl, rfl, by omega, by omega, by rw [← hpre, Lx.stm_tok hc hk]; simp [x, hk], by simp; omega⟩ ⟨rfl, rfl, rfl, trivial⟩ (fun _ h => h)
 ·
  have hc : l.length ≤ a := by simpa using hc
  refine AI.exit (Post.then_x (Post.then_x (Post.blk_hit (PI.then_n (AI.regionK 4 rfl hLO ?_)))))
  refine g1 ?_
  refine RW.q rfl (qa_ld rfl (hcell pre)) (RW.q rfl (q_lenS (l := l) rfl uT9) (RW.q (v := .agg #[iV 4, .string (bs []), iV (l.length : Int)]) rfl (q_build (vals := [(0, iV 4), (2, iV (l.length : Int))]) zero65 uT65 places65 rfl rfl) ?_))
  refine g1 ?_
  let x : Tkn l.length := ⟨(⟨4, [], l.length⟩, true), Lx.wf_end l⟩
  have hx : (pre ++ [x]).map (·.1) = Lx.seqT l := by rw [← hpre, Lx.stm_end hc]; simp [x]
  refine PI.yield hLO rfl rfl rfl (args := encT x) rfl (J' := fun b => if b then Jc J (fun _ => True) hJ hK0 (pre ++ [x]) else Jc Jx (fun _ => True) hJx hK0 (pre ++ [x])) (fun w2 hw2 => ?_) (fun b => ?_)
  ·
   obtain ⟨fn, tmps, assign, body, hy, hr⟩ := hY pre x w2 hw2.1 (by omega)
   refine ⟨fn, tmps, assign, body, hy, hr.mono fun e w3 he => ?_⟩
   rcases he with ⟨he, h1, h2⟩ | ⟨he, h1⟩
   ·
    exact ⟨true, he, h1, trivial⟩
   ·
    exact ⟨false, he, h1, trivial⟩
  ·
   cases b with
   | false =>
    refine g1 ?_
    refine PI.qn0 ?_
    exact fin_none rfl rfl (fun _ h => h) fun w3 hw3 => hRf (pre ++ [x]) (by rw [hx]; exact List.prefix_refl _) _ _ hw3.1
   | true =>
    refine g1 ?_
    refine PI.qn0 ?_
    exact fin_none rfl rfl (fun _ h => h) fun w3 hw3 => hRt (pre ++ [x]) hx _ _ hw3.1
end Go.Proofs.YtpapfpoefiikpaaGreatDoor
