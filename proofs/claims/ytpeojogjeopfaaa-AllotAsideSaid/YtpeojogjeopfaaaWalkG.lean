/- Walks (part WalkG), printed by walk2.py. Conditions: those of each theorem. -/
import Derived.Test.YtpeojogjeopfaaaWalkF
import Derived.Test.YtpeojogjeopfaaaBits
namespace Go.Proofs.Ytpeojogjeopfaaa
open Go Go.K Go.RowKit

set_option maxRecDepth 8000 in
set_option maxHeartbeats 1000000 in
theorem rScale_c (w : World) (Φ : Hp) (hΦ : Hp.le Φ (hp w)) {x k d : Int} (hx : 0 ≤ x ∧ x ≤ Al.maxV) (hk : 0 ≤ k ∧ k ≤ Al.maxV) (hd : 1 ≤ d ∧ d ≤ Al.maxV) (hp : x * k ≤ 1152921504606846975) (hq : x * k / d ≤ Al.maxV) :
    Calls Try.prog 32 #[.int .i64 x, .int .i64 k, .int .i64 d] w fun e w' => e = .returned (.tuple #[.int .i64 (x * k / d), .int .i64 (x * k % d), .bool true]) ∧ Below w.heap.size w w' := by
  obtain ⟨K, rfl⟩ := Int.eq_ofNat_of_zero_le hk.1
  refine calls_of_AW (args := [.int .i64 x, .int .i64 (K : Int), .int .i64 d]) Try.func32 rfl (Nat.le_of_ble_eq_true rfl) (St ⟨w, Φ, []⟩ Φ []) (StP.init w Φ hΦ []) ?_
  show AW Try.prog 61 [] _ _ _ [(0, .int .i64 x), (1, .int .i64 (K : Int)), (2, .int .i64 d)] _
  unfold Al.maxV at *
  refine AW.seq ?_
  refine AW.region ?_
  refine RW.q (v := .int .i64 0) rfl (q_assign rfl) ?_
  refine RW.q (v := .int .i64 0) rfl (q_assign rfl) ?_
  refine RW.q (v := .bool false) rfl (q_assign rfl) ?_
  refine RW.nil ?_
  refine Post.then_n ?_
  refine AW.seq ?_
  refine AW.seq ?_
  refine AW.region ?_
  refine RW.q (v := .int .i64 x) rfl (q_move rfl) ?_
  refine RW.q (v := .bool (decide (x < 0))) rfl (q_lss rfl rfl) ?_
  refine RW.q (v := .bool (decide (x < 0))) rfl (q_move rfl) ?_
  refine RW.g (b := (decide (x < 0))) (v := .int .i64 x) rfl rfl rfl (fun h => q_move rfl) ?_
  refine RW.g (b := (decide (x < 0))) (v := .bool (decide ((1125899906842624 : Int) < x))) rfl rfl rfl (fun h => q_gtr (gv_pos h) rfl) ?_
  refine RW.q (v := .bool ((decide (x < 0)) || (decide ((1125899906842624 : Int) < x)))) rfl (q_pick rfl (fun hp => pkOrT hp) (fun hp => (gv_pos hp).trans (pkOrF hp))) ?_
  refine RW.q (v := .bool ((decide (x < 0)) || (decide ((1125899906842624 : Int) < x)))) rfl (q_move rfl) ?_
  refine RW.g (b := ((decide (x < 0)) || (decide ((1125899906842624 : Int) < x)))) (v := .int .i64 (K : Int)) rfl rfl rfl (fun h => q_move rfl) ?_
  refine RW.g (b := ((decide (x < 0)) || (decide ((1125899906842624 : Int) < x)))) (v := .bool (decide ((K : Int) < 0))) rfl rfl rfl (fun h => q_lss (gv_pos h) rfl) ?_
  refine RW.q (v := .bool (((decide (x < 0)) || (decide ((1125899906842624 : Int) < x))) || (decide ((K : Int) < 0)))) rfl (q_pick rfl (fun hp => pkOrT hp) (fun hp => (gv_pos hp).trans (pkOrF hp))) ?_
  refine RW.q (v := .bool (((decide (x < 0)) || (decide ((1125899906842624 : Int) < x))) || (decide ((K : Int) < 0)))) rfl (q_move rfl) ?_
  refine RW.g (b := (((decide (x < 0)) || (decide ((1125899906842624 : Int) < x))) || (decide ((K : Int) < 0)))) (v := .int .i64 (K : Int)) rfl rfl rfl (fun h => q_move rfl) ?_
  refine RW.g (b := (((decide (x < 0)) || (decide ((1125899906842624 : Int) < x))) || (decide ((K : Int) < 0)))) (v := .bool (decide ((1125899906842624 : Int) < (K : Int)))) rfl rfl rfl (fun h => q_gtr (gv_pos h) rfl) ?_
  refine RW.q (v := .bool ((((decide (x < 0)) || (decide ((1125899906842624 : Int) < x))) || (decide ((K : Int) < 0))) || (decide ((1125899906842624 : Int) < (K : Int))))) rfl (q_pick rfl (fun hp => pkOrT hp) (fun hp => (gv_pos hp).trans (pkOrF hp))) ?_
  refine RW.q (v := .bool ((((decide (x < 0)) || (decide ((1125899906842624 : Int) < x))) || (decide ((K : Int) < 0))) || (decide ((1125899906842624 : Int) < (K : Int))))) rfl (q_move rfl) ?_
  refine RW.g (b := ((((decide (x < 0)) || (decide ((1125899906842624 : Int) < x))) || (decide ((K : Int) < 0))) || (decide ((1125899906842624 : Int) < (K : Int))))) (v := .int .i64 d) rfl rfl rfl (fun h => q_move rfl) ?_
  refine RW.g (b := ((((decide (x < 0)) || (decide ((1125899906842624 : Int) < x))) || (decide ((K : Int) < 0))) || (decide ((1125899906842624 : Int) < (K : Int))))) (v := .bool (decide (d < 1))) rfl rfl rfl (fun h => q_lss (gv_pos h) rfl) ?_
  refine RW.q (v := .bool (((((decide (x < 0)) || (decide ((1125899906842624 : Int) < x))) || (decide ((K : Int) < 0))) || (decide ((1125899906842624 : Int) < (K : Int)))) || (decide (d < 1)))) rfl (q_pick rfl (fun hp => pkOrT hp) (fun hp => (gv_pos hp).trans (pkOrF hp))) ?_
  refine RW.q (v := .bool (((((decide (x < 0)) || (decide ((1125899906842624 : Int) < x))) || (decide ((K : Int) < 0))) || (decide ((1125899906842624 : Int) < (K : Int)))) || (decide (d < 1)))) rfl (q_move rfl) ?_
  refine RW.g (b := (((((decide (x < 0)) || (decide ((1125899906842624 : Int) < x))) || (decide ((K : Int) < 0))) || (decide ((1125899906842624 : Int) < (K : Int)))) || (decide (d < 1)))) (v := .int .i64 d) rfl rfl rfl (fun h => q_move rfl) ?_
  refine RW.g (b := (((((decide (x < 0)) || (decide ((1125899906842624 : Int) < x))) || (decide ((K : Int) < 0))) || (decide ((1125899906842624 : Int) < (K : Int)))) || (decide (d < 1)))) (v := .bool (decide ((1125899906842624 : Int) < d))) rfl rfl rfl (fun h => q_gtr (gv_pos h) rfl) ?_
  refine RW.q (v := .bool ((((((decide (x < 0)) || (decide ((1125899906842624 : Int) < x))) || (decide ((K : Int) < 0))) || (decide ((1125899906842624 : Int) < (K : Int)))) || (decide (d < 1))) || (decide ((1125899906842624 : Int) < d)))) rfl (q_pick rfl (fun hp => pkOrT hp) (fun hp => (gv_pos hp).trans (pkOrF hp))) ?_
  refine RW.nil ?_
  refine Post.then_n ?_
  refine AW.cond (b := (((((decide (x < 0)) || (decide ((1125899906842624 : Int) < x))) || (decide ((K : Int) < 0))) || (decide ((1125899906842624 : Int) < (K : Int)))) || (decide (d < 1))) || (decide ((1125899906842624 : Int) < d))) rfl (fun hc1 => ?_) (fun hc1 => ?_)
  · simp [-List.getD_eq_getElem?_getD] at hc1
    omega
  · simp [-List.getD_eq_getElem?_getD] at hc1
    refine AW.skip ?_
    refine Post.then_n ?_
    refine AW.seq ?_
    refine AW.region ?_
    refine RW.q (v := .int .i64 0) rfl (q_assign rfl) ?_
    refine RW.nil ?_
    refine Post.then_n ?_
    refine AW.seq ?_
    refine AW.region ?_
    refine RW.q (v := .int .i64 0) rfl (q_assign rfl) ?_
    refine RW.nil ?_
    refine Post.then_n ?_
    refine AW.seq ?_
    refine AW.seq ?_
    refine AW.region ?_
    refine RW.q (v := .int .i64 1125899906842624) rfl (q_assign rfl) ?_
    refine RW.nil ?_
    refine Post.then_n ?_
    refine AW.block ?_
    refine AW.loop (fun s J m => ∃ (i : Nat), ∃ (q : Int), ∃ (r : Int), s = [(0, .int .i64 x), (1, .int .i64 (K : Int)), (2, .int .i64 d), (9, .int .i64 q), (10, .int .i64 r), (11, .int .i64 ((Al.bit i : Nat) : Int))] ∧ J = St ⟨w, Φ, []⟩ Φ [] ∧ m = i + 0 * i ∧ (i ≤ 51) ∧ (q * d + r = x * ((K / 2 ^ i : Nat) : Int)) ∧ (0 ≤ r ∧ r < d) ∧ (0 ≤ q)) (s0 := _) (J1 := _) (m0 := _) ⟨51, 0, 0, rfl, rfl, rfl, (by omega), (Al.sc_start (by omega)), (by omega), (by omega)⟩ ⟨rfl, rfl, rfl, rfl, rfl, rfl, trivial⟩ (fun _ h => h) ?_
    rintro _ _ _ _ ⟨i, q, r, rfl, rfl, rfl, hi, hqr, hrr, hq0⟩
    have hble := Al.bit_le hi
    refine AW.seq ?_
    refine AW.seq ?_
    refine AW.region ?_
    refine RW.q (v := .int .i64 ((Al.bit i : Nat) : Int)) rfl (q_move rfl) ?_
    refine RW.q (v := .bool (decide ((0 : Int) < ((Al.bit i : Nat) : Int)))) rfl (q_gtr rfl rfl) ?_
    refine RW.nil ?_
    refine Post.then_n ?_
    refine AW.cond (b := decide ((0 : Int) < ((Al.bit i : Nat) : Int))) rfl (fun hc2 => ?_) (fun hc2 => ?_)
    · simp [-List.getD_eq_getElem?_getD] at hc2
      refine AW.skip ?_
      refine Post.then_n ?_
      refine AW.seq ?_
      refine AW.block ?_
      refine AW.seq ?_
      obtain ⟨j, hj⟩ : ∃ j, i = j + 1 := ⟨i - 1, by have := Al.bit_pos.1 (show 0 < Al.bit i by omega); omega⟩
      have hqm := Al.sc_le (i := i) hd.1 hx.1 hrr.1 hqr hq
      refine AW.region ?_
      refine RW.q (v := .int .i64 q) rfl (q_move rfl) ?_
      refine RW.q (v := .int .i64 (2 * q)) rfl (q_mul rfl rfl rfl (by unfold I64; omega)) ?_
      refine RW.q (v := .int .i64 (2 * q)) rfl (q_assign rfl) ?_
      refine RW.nil ?_
      refine Post.then_n ?_
      refine AW.seq ?_
      refine AW.region ?_
      refine RW.q (v := .int .i64 r) rfl (q_move rfl) ?_
      refine RW.q (v := .int .i64 (2 * r)) rfl (q_mul rfl rfl rfl (by unfold I64; omega)) ?_
      refine RW.q (v := .int .i64 (2 * r)) rfl (q_assign rfl) ?_
      refine RW.nil ?_
      refine Post.then_n ?_
      refine AW.seq ?_
      refine AW.seq ?_
      refine AW.region ?_
      refine RW.q (v := .int .i64 (K : Int)) rfl (q_move rfl) ?_
      refine RW.q (v := .int .i64 ((Al.bit i : Nat) : Int)) rfl (q_move rfl) ?_
      refine RW.q (v := .int .i64 ((K &&& (Al.bit i) : Nat) : Int)) rfl (q_andN (a := K) (b := (Al.bit i)) rfl rfl (by omega) (by omega)) ?_
      refine RW.q (v := .bool (!decide (((K &&& (Al.bit i) : Nat) : Int) = 0))) rfl (q_neq rfl rfl) ?_
      refine RW.nil ?_
      refine Post.then_n ?_
      refine AW.cond (b := !decide (((K &&& (Al.bit i) : Nat) : Int) = 0)) rfl (fun hc3 => ?_) (fun hc3 => ?_)
      · simp [-List.getD_eq_getElem?_getD] at hc3
        refine AW.region ?_
        refine RW.q (v := .int .i64 (2 * r)) rfl (q_move rfl) ?_
        refine RW.q (v := .int .i64 x) rfl (q_move rfl) ?_
        refine RW.q (v := .int .i64 ((2 * r) + x)) rfl (q_add rfl rfl (by omega) (by unfold I64; omega)) ?_
        refine RW.q (v := .int .i64 ((2 * r) + x)) rfl (q_assign rfl) ?_
        refine RW.nil ?_
        refine Post.then_n ?_
        refine AW.seq ?_
        have hbh : ((Al.bit i : Nat) : Int).tdiv 2 = ((Al.bit j : Nat) : Int) := by rw [Int.tdiv_eq_ediv_of_nonneg (by omega), hj]; have h9 := Al.bit_half j; omega
        have hbj := Al.bit_le (i := j) (by omega)
        have hbm : K / 2 ^ j % 2 = 1 := by
          have h9 : ¬ (K &&& Al.bit (j + 1) = 0) := by rw [← hj]; omega
          rw [Al.and_bit] at h9
          omega
        have hst := Al.sc_step (A := (2 * r) + x) (K := K) (i := j) (by rw [← hj]; exact hqr) (by rw [hbm]; simp)
        have hrm := Int.emod_lt_of_pos ((2 * r) + x) (show 0 < d by omega)
        have hrn := Int.emod_nonneg ((2 * r) + x) (show d ≠ 0 by omega)
        have hA0 : 0 ≤ (2 * r) + x := by omega
        have hdq := Int.ediv_nonneg hA0 (show 0 ≤ d by omega)
        have hqn := Al.sc_le (i := j) hd.1 hx.1 hrn hst hq
        have htd : ((2 * r) + x).tdiv d = ((2 * r) + x) / d := Int.tdiv_eq_ediv_of_nonneg hA0
        have htm : ((2 * r) + x).tmod d = ((2 * r) + x) % d := Int.tmod_eq_emod_of_nonneg hA0
        refine AW.region ?_
        refine RW.q (v := .int .i64 (2 * q)) rfl (q_move rfl) ?_
        refine RW.q (v := .int .i64 ((2 * r) + x)) rfl (q_move rfl) ?_
        refine RW.q (v := .int .i64 d) rfl (q_move rfl) ?_
        refine RW.q (v := .int .i64 (((2 * r) + x) / d)) rfl (q_quo rfl rfl (by omega) htd (by unfold I64; omega)) ?_
        refine RW.q (v := .int .i64 ((2 * q) + (((2 * r) + x) / d))) rfl (q_add rfl rfl (by omega) (by unfold I64; omega)) ?_
        refine RW.q (v := .int .i64 ((2 * q) + (((2 * r) + x) / d))) rfl (q_assign rfl) ?_
        refine RW.nil ?_
        refine Post.then_n ?_
        refine AW.seq ?_
        refine AW.region ?_
        refine RW.q (v := .int .i64 ((2 * r) + x)) rfl (q_move rfl) ?_
        refine RW.q (v := .int .i64 d) rfl (q_move rfl) ?_
        refine RW.q (v := .int .i64 (((2 * r) + x) % d)) rfl (q_rem rfl rfl (by omega) htm) ?_
        refine RW.q (v := .int .i64 (((2 * r) + x) % d)) rfl (q_assign rfl) ?_
        refine RW.nil ?_
        refine Post.then_n ?_
        refine AW.seq ?_
        refine AW.region ?_
        refine RW.q (v := .int .i64 ((2 * q) + (((2 * r) + x) / d))) rfl (q_move rfl) ?_
        refine RW.q (v := .bool (decide ((1125899906842624 : Int) < (2 * q) + (((2 * r) + x) / d)))) rfl (q_gtr rfl rfl) ?_
        refine RW.nil ?_
        refine Post.then_n ?_
        refine AW.cond (b := decide ((1125899906842624 : Int) < (2 * q) + (((2 * r) + x) / d))) rfl (fun hc4 => ?_) (fun hc4 => ?_)
        · simp [-List.getD_eq_getElem?_getD] at hc4
          omega
        · simp [-List.getD_eq_getElem?_getD] at hc4
          refine AW.skip ?_
          refine Post.blk_n (Post.then_n ?_)
          refine AW.region ?_
          refine RW.q (v := .int .i64 ((Al.bit i : Nat) : Int)) rfl (q_move rfl) ?_
          refine RW.q (v := .int .i64 ((Al.bit j : Nat) : Int)) rfl (q_quo rfl rfl (by omega) hbh (by unfold I64; omega)) ?_
          refine RW.q (v := .int .i64 ((Al.bit j : Nat) : Int)) rfl (q_assign rfl) ?_
          refine RW.nil ?_
          exact Post.back (s' := _) (J' := _) (m' := _) (by omega) ⟨j, _, _, rfl, rfl, rfl, (by omega), hst, ⟨hrn, hrm⟩, (by omega)⟩ ⟨rfl, rfl, rfl, rfl, rfl, rfl, trivial⟩ (fun _ h => h)
      · simp [-List.getD_eq_getElem?_getD] at hc3
        refine AW.skip ?_
        refine Post.then_n ?_
        refine AW.seq ?_
        have hbh : ((Al.bit i : Nat) : Int).tdiv 2 = ((Al.bit j : Nat) : Int) := by rw [Int.tdiv_eq_ediv_of_nonneg (by omega), hj]; have h9 := Al.bit_half j; omega
        have hbj := Al.bit_le (i := j) (by omega)
        have hbm : K / 2 ^ j % 2 = 0 := by
          have h9 : K &&& Al.bit (j + 1) = 0 := by rw [← hj]; omega
          exact Al.and_bit.1 h9
        have hst := Al.sc_step (A := 2 * r) (K := K) (i := j) (by rw [← hj]; exact hqr) (by rw [hbm]; simp)
        have hrm := Int.emod_lt_of_pos (2 * r) (show 0 < d by omega)
        have hrn := Int.emod_nonneg (2 * r) (show d ≠ 0 by omega)
        have hA0 : 0 ≤ 2 * r := by omega
        have hdq := Int.ediv_nonneg hA0 (show 0 ≤ d by omega)
        have hqn := Al.sc_le (i := j) hd.1 hx.1 hrn hst hq
        have htd : (2 * r).tdiv d = (2 * r) / d := Int.tdiv_eq_ediv_of_nonneg hA0
        have htm : (2 * r).tmod d = (2 * r) % d := Int.tmod_eq_emod_of_nonneg hA0
        refine AW.region ?_
        refine RW.q (v := .int .i64 (2 * q)) rfl (q_move rfl) ?_
        refine RW.q (v := .int .i64 (2 * r)) rfl (q_move rfl) ?_
        refine RW.q (v := .int .i64 d) rfl (q_move rfl) ?_
        refine RW.q (v := .int .i64 ((2 * r) / d)) rfl (q_quo rfl rfl (by omega) htd (by unfold I64; omega)) ?_
        refine RW.q (v := .int .i64 ((2 * q) + ((2 * r) / d))) rfl (q_add rfl rfl (by omega) (by unfold I64; omega)) ?_
        refine RW.q (v := .int .i64 ((2 * q) + ((2 * r) / d))) rfl (q_assign rfl) ?_
        refine RW.nil ?_
        refine Post.then_n ?_
        refine AW.seq ?_
        refine AW.region ?_
        refine RW.q (v := .int .i64 (2 * r)) rfl (q_move rfl) ?_
        refine RW.q (v := .int .i64 d) rfl (q_move rfl) ?_
        refine RW.q (v := .int .i64 ((2 * r) % d)) rfl (q_rem rfl rfl (by omega) htm) ?_
        refine RW.q (v := .int .i64 ((2 * r) % d)) rfl (q_assign rfl) ?_
        refine RW.nil ?_
        refine Post.then_n ?_
        refine AW.seq ?_
        refine AW.region ?_
        refine RW.q (v := .int .i64 ((2 * q) + ((2 * r) / d))) rfl (q_move rfl) ?_
        refine RW.q (v := .bool (decide ((1125899906842624 : Int) < (2 * q) + ((2 * r) / d)))) rfl (q_gtr rfl rfl) ?_
        refine RW.nil ?_
        refine Post.then_n ?_
        refine AW.cond (b := decide ((1125899906842624 : Int) < (2 * q) + ((2 * r) / d))) rfl (fun hc5 => ?_) (fun hc5 => ?_)
        · simp [-List.getD_eq_getElem?_getD] at hc5
          omega
        · simp [-List.getD_eq_getElem?_getD] at hc5
          refine AW.skip ?_
          refine Post.blk_n (Post.then_n ?_)
          refine AW.region ?_
          refine RW.q (v := .int .i64 ((Al.bit i : Nat) : Int)) rfl (q_move rfl) ?_
          refine RW.q (v := .int .i64 ((Al.bit j : Nat) : Int)) rfl (q_quo rfl rfl (by omega) hbh (by unfold I64; omega)) ?_
          refine RW.q (v := .int .i64 ((Al.bit j : Nat) : Int)) rfl (q_assign rfl) ?_
          refine RW.nil ?_
          exact Post.back (s' := _) (J' := _) (m' := _) (by omega) ⟨j, _, _, rfl, rfl, rfl, (by omega), hst, ⟨hrn, hrm⟩, (by omega)⟩ ⟨rfl, rfl, rfl, rfl, rfl, rfl, trivial⟩ (fun _ h => h)
    · simp [-List.getD_eq_getElem?_getD] at hc2
      refine AW.exit ?_
      refine Post.then_x (Post.then_x (Post.blk_hit (Post.then_n ?_)))
      refine AW.seq ?_
      refine AW.region ?_
      refine RW.q (v := .int .i64 q) rfl (q_move rfl) ?_
      refine RW.q (v := .int .i64 r) rfl (q_move rfl) ?_
      refine RW.q (v := .int .i64 q) rfl (q_assign rfl) ?_
      refine RW.q (v := .int .i64 r) rfl (q_assign rfl) ?_
      refine RW.q (v := .bool true) rfl (q_assign rfl) ?_
      refine RW.nil ?_
      refine Post.then_n ?_
      refine AW.ret ?_
      have hi0 : i = 0 := by
        have := Al.bit_pos (i := i)
        omega
      rw [hi0] at hqr
      obtain ⟨e1, e2⟩ := Al.sc_end hd.1 hrr hqr
      exact fin_out3 rfl rfl rfl rfl rfl (fun w' hw => ⟨by rw [e1, e2]; rfl, hw.below rfl⟩)

set_option maxRecDepth 8000 in
set_option maxHeartbeats 1000000 in
theorem rBack_c (w : World) (Φ : Hp) (hΦ : Hp.le Φ (hp w)) {b : Bt.Basin} {cs : List Value} (hB : RepV Φ b cs) {rs : List Bt.Right} {v2s : Value} (h2 : RepSl Φ rs v2s) {gs : List Bt.Grant} {v4s : Value} (h4 : RepSl Φ gs v4s) :
    Calls Try.prog 17 #[.agg cs.toArray, v2s, v4s] w (RetS noHp w fun r Ψ => RepSl Ψ (Al.back b.Places rs gs) r) := by
  obtain ⟨v1, v3, v4, v5, v6, v7, v8, v9, hcs, hBw, r1, r3, r4, r5, r6, r7, r8, r9⟩ := (show Rep.rep Φ b cs from hB)
  subst hcs
  have hpm : b.Places.length * 152 ≤ 140737488355328 := r3.max
  refine calls_of_AW (args := [.agg #[.string b.Name, v1, .int .i64 b.Cells, v3, v4, v5, v6, v7, v8, v9, .int .i64 b.Err], v2s, v4s]) Try.func17 rfl (Nat.le_of_ble_eq_true rfl) (St ⟨w, Φ, []⟩ Φ []) (StP.init w Φ hΦ []) ?_
  show AW Try.prog 86 [] _ _ _ [(0, .agg #[.string b.Name, v1, .int .i64 b.Cells, v3, v4, v5, v6, v7, v8, v9, .int .i64 b.Err]), (1, v2s), (2, v4s)] _
  have hm2 : rs.length * 72 ≤ 140737488355328 := h2.max
  have hm4 : gs.length * 16 ≤ 140737488355328 := h4.max
  refine AW.seq ?_
  refine AW.region ?_
  refine RW.eff (fun b1 : Nat => .pointer (some (⟨b1, 0, none⟩))) (fun b1 => St ⟨w, Φ, []⟩ Φ [.blk b1 31 [.string b.Name, v1, .int .i64 b.Cells, v3, v4, v5, v6, v7, v8, v9, .int .i64 b.Err]]) rfl (e_boxA (cs := [.string b.Name, v1, .int .i64 b.Cells, v3, v4, v5, v6, v7, v8, v9, .int .i64 b.Err]) rfl) ?_
  intro b1
  refine RW.q (v := (.slice none 0 0)) rfl (q_assign rfl) ?_
  refine RW.nil ?_
  refine Post.then_n ?_
  refine AW.seq ?_
  refine AW.region ?_
  refine RW.q (v := .pointer (some (⟨b1, 3, none⟩))) rfl (q_fieldAddr rfl Try.underlying31 rfl sz23 rfl) ?_
  refine RW.q (v := v3) rfl (q_load rfl Try.underlying23 rfl (Cell.blk 0 rfl rfl)) ?_
  refine RW.q (v := .int .i64 ((b.Places.length : Nat) : Int)) rfl (q_len_sl rfl r3.sl Try.underlying23) ?_
  refine RW.eff (fun b2 : Nat => (.slice (some ⟨b2, 0, none⟩) b.Places.length b.Places.length)) (fun b2 => St ⟨w, Φ, []⟩ Φ [.row (.slice (some ⟨b2, 0, none⟩) b.Places.length b.Places.length) 3 1 b.Places.length ((List.replicate b.Places.length 0).map (Value.int .i64)), .blk b1 31 [.string b.Name, v1, .int .i64 b.Cells, v3, v4, v5, v6, v7, v8, v9, .int .i64 b.Err]]) rfl (e_makeSlice rfl rfl Try.underlying29 inf3 (by omega) (by omega) (by omega) rfl (made_int (n := b.Places.length) (by omega))) ?_
  intro b2
  refine RW.q (v := (.slice (some ⟨b2, 0, none⟩) b.Places.length b.Places.length)) rfl (q_assign rfl) ?_
  refine RW.nil ?_
  refine Post.then_n ?_
  refine AW.seq ?_
  refine AW.seq ?_
  refine AW.region ?_
  refine RW.q (v := .int .i64 0) rfl (q_assign rfl) ?_
  refine RW.nil ?_
  refine Post.then_n ?_
  refine AW.block ?_
  refine AW.loop (fun s J m => ∃ (i : Nat), ∃ (O : List Int), s = [(1, v2s), (2, v4s), (3, .pointer (some (⟨b1, 0, none⟩))), (7, (.slice (some ⟨b2, 0, none⟩) b.Places.length b.Places.length)), (8, .int .i64 (i : Int))] ∧ J = St ⟨w, Φ, []⟩ Φ [.row (.slice (some ⟨b2, 0, none⟩) b.Places.length b.Places.length) 3 1 b.Places.length (O.map (Value.int .i64)), .blk b1 31 [.string b.Name, v1, .int .i64 b.Cells, v3, v4, v5, v6, v7, v8, v9, .int .i64 b.Err]] ∧ m = gs.length - i ∧ (i ≤ gs.length) ∧ (O = (gs.take i).foldl (Al.backStep b.Places rs) (List.replicate b.Places.length 0)) ∧ (Al.OI b.Places.length O)) (s0 := _) (J1 := _) (m0 := _) ⟨0, _, rfl, rfl, rfl, (by omega), rfl, (Al.zero_oi _)⟩ ⟨rfl, rfl, rfl, rfl, rfl, trivial⟩ (fun _ h => h) ?_
  rintro _ _ _ _ ⟨i, O, rfl, rfl, rfl, hi, hO, hOI⟩
  refine AW.seq ?_
  refine AW.seq ?_
  refine AW.region ?_
  refine RW.q (v := .int .i64 (i : Int)) rfl (q_move rfl) ?_
  refine RW.q (v := v4s) rfl (q_move rfl) ?_
  refine RW.q (v := .int .i64 ((gs.length : Nat) : Int)) rfl (q_len_sl rfl h4.sl Try.underlying33) ?_
  refine RW.q (v := .bool (decide ((i : Int) < ((gs.length : Nat) : Int)))) rfl (q_lss rfl rfl) ?_
  refine RW.nil ?_
  refine Post.then_n ?_
  refine AW.cond (b := decide ((i : Int) < ((gs.length : Nat) : Int))) rfl (fun hc1 => ?_) (fun hc1 => ?_)
  · simp [-List.getD_eq_getElem?_getD] at hc1
    refine AW.skip ?_
    refine Post.then_n ?_
    refine AW.seq ?_
    refine AW.block ?_
    refine AW.seq ?_
    refine AW.region ?_
    refine RW.q (v := v2s) rfl (q_move rfl) ?_
    refine RW.q (v := v4s) rfl (q_move rfl) ?_
    refine RW.q (v := .int .i64 (i : Int)) rfl (q_move rfl) ?_
    refine RW.q (v := .pointer (some (Value.at v4s (i * 2)))) rfl (q_indexAddr rfl rfl h4.sl Try.underlying33 sz47 (by omega) (by omega) rfl) ?_
    refine RW.q (v := .pointer (some (Value.at v4s (i * 2 + 0)))) rfl (q_fieldAddr rfl Try.underlying47 rfl sz3 at_add) ?_
    refine RW.q (v := .int .i64 ((gs.getD i default).Right)) rfl (q_load rfl Try.underlying3 rfl (Cell.repE (j := 0) h4 (by omega) rfl)) ?_
    refine RW.q (v := .int .i64 (Al.findI rs ((gs.getD i default).Right))) rfl (q_call (args := #[v2s, .int .i64 ((gs.getD i default).Right)]) own31 rfl rfl (fun w1 hw1 => Find_c w1 (Go.K.hp w1) (Hp.le_refl _) (h2.mono hw1.phi))) ?_
    refine RW.q (v := .int .i64 (Al.findI rs ((gs.getD i default).Right))) rfl (q_assign rfl) ?_
    refine RW.nil ?_
    refine Post.then_n ?_
    refine AW.seq ?_
    refine AW.seq ?_
    have hfr := Al.findI_rng rs (gs.getD i default).Right
    refine AW.draw (J0 := St ⟨w, Φ, []⟩ Φ [.row (.slice (some ⟨b2, 0, none⟩) b.Places.length b.Places.length) 3 1 b.Places.length (O.map (Value.int .i64)), .blk b1 31 [.string b.Name, v1, .int .i64 b.Cells, v3, v4, v5, v6, v7, v8, v9, .int .i64 b.Err]]) [.q, .q, .q, .q, .q, .q, .q, .q, .q, .q, .q, .q, .q, .q, .q, .q, .q, .q, .q, .q, .q] [0, 1, 2, 3, 4, 5, 6, 7, 8, 9, 10, 11, 12, 13, 14, 15, 16, 17, 18, 19, 20] hmix (by kernel_rfl) ?_
    refine DW.q (v := .int .i64 (Al.findI rs ((gs.getD i default).Right))) (fun _ h => h) rfl (q_move rfl) ?_
    refine DW.q (v := .bool (decide (Al.findI rs ((gs.getD i default).Right) < 0))) (fun _ h => h) rfl (q_lss rfl rfl) ?_
    refine DW.q (v := .bool (decide (Al.findI rs ((gs.getD i default).Right) < 0))) (fun _ h => h) rfl (q_move rfl) ?_
    refine DW.g (b := (decide (Al.findI rs ((gs.getD i default).Right) < 0))) (v := v2s) (fun _ h => h) rfl rfl rfl (fun h => q_move rfl) ?_
    refine DW.g (b := (decide (Al.findI rs ((gs.getD i default).Right) < 0))) (v := .int .i64 (Al.findI rs ((gs.getD i default).Right))) (fun _ h => h) rfl rfl rfl (fun h => q_move rfl) ?_
    refine DW.g (b := (decide (Al.findI rs ((gs.getD i default).Right) < 0))) (v := .pointer (some (Value.at v2s (((Al.findI rs ((gs.getD i default).Right)).toNat) * 9)))) (fun _ h => h) rfl rfl rfl (fun h => q_indexAddr (gv_pos h) (gv_pos h) h2.sl Try.underlying32 sz45 (by (try simp [-List.getD_eq_getElem?_getD] at h); omega) (by (try simp [-List.getD_eq_getElem?_getD] at h); omega) rfl) ?_
    refine DW.g (b := (decide (Al.findI rs ((gs.getD i default).Right) < 0))) (v := .pointer (some (Value.at v2s (((Al.findI rs ((gs.getD i default).Right)).toNat) * 9 + 8)))) (fun _ h => h) rfl rfl rfl (fun h => q_fieldAddr (gv_pos h) Try.underlying45 rfl sz3 at_add) ?_
    refine DW.g (b := (decide (Al.findI rs ((gs.getD i default).Right) < 0))) (v := .int .i64 ((rs.getD ((Al.findI rs ((gs.getD i default).Right)).toNat) default).BackTo)) (fun _ h => h) rfl rfl rfl (fun h => q_load (gv_pos h) Try.underlying3 rfl (Cell.repE (j := 8) h2 (by (try simp [-List.getD_eq_getElem?_getD] at h); omega) rfl)) ?_
    refine DW.g (b := (decide (Al.findI rs ((gs.getD i default).Right) < 0))) (v := .bool (decide ((rs.getD ((Al.findI rs ((gs.getD i default).Right)).toNat) default).BackTo < 0))) (fun _ h => h) rfl rfl rfl (fun h => q_lss (gv_pos h) rfl) ?_
    refine DW.q (v := .bool ((decide (Al.findI rs ((gs.getD i default).Right) < 0)) || (decide ((rs.getD ((Al.findI rs ((gs.getD i default).Right)).toNat) default).BackTo < 0)))) (fun _ h => h) rfl (q_pick rfl (fun hp => pkOrT hp) (fun hp => (gv_pos hp).trans (pkOrF hp))) ?_
    refine DW.q (v := .bool ((decide (Al.findI rs ((gs.getD i default).Right) < 0)) || (decide ((rs.getD ((Al.findI rs ((gs.getD i default).Right)).toNat) default).BackTo < 0)))) (fun _ h => h) rfl (q_move rfl) ?_
    refine DW.g (b := ((decide (Al.findI rs ((gs.getD i default).Right) < 0)) || (decide ((rs.getD ((Al.findI rs ((gs.getD i default).Right)).toNat) default).BackTo < 0)))) (v := v2s) (fun _ h => h) rfl rfl rfl (fun h => q_move rfl) ?_
    refine DW.g (b := ((decide (Al.findI rs ((gs.getD i default).Right) < 0)) || (decide ((rs.getD ((Al.findI rs ((gs.getD i default).Right)).toNat) default).BackTo < 0)))) (v := .int .i64 (Al.findI rs ((gs.getD i default).Right))) (fun _ h => h) rfl rfl rfl (fun h => q_move rfl) ?_
    refine DW.g (b := ((decide (Al.findI rs ((gs.getD i default).Right) < 0)) || (decide ((rs.getD ((Al.findI rs ((gs.getD i default).Right)).toNat) default).BackTo < 0)))) (v := .pointer (some (Value.at v2s (((Al.findI rs ((gs.getD i default).Right)).toNat) * 9)))) (fun _ h => h) rfl rfl rfl (fun h => q_indexAddr (gv_pos h) (gv_pos h) h2.sl Try.underlying32 sz45 (by (try simp [-List.getD_eq_getElem?_getD] at h); omega) (by (try simp [-List.getD_eq_getElem?_getD] at h); omega) rfl) ?_
    refine DW.g (b := ((decide (Al.findI rs ((gs.getD i default).Right) < 0)) || (decide ((rs.getD ((Al.findI rs ((gs.getD i default).Right)).toNat) default).BackTo < 0)))) (v := .pointer (some (Value.at v2s (((Al.findI rs ((gs.getD i default).Right)).toNat) * 9 + 8)))) (fun _ h => h) rfl rfl rfl (fun h => q_fieldAddr (gv_pos h) Try.underlying45 rfl sz3 at_add) ?_
    refine DW.g (b := ((decide (Al.findI rs ((gs.getD i default).Right) < 0)) || (decide ((rs.getD ((Al.findI rs ((gs.getD i default).Right)).toNat) default).BackTo < 0)))) (v := .int .i64 ((rs.getD ((Al.findI rs ((gs.getD i default).Right)).toNat) default).BackTo)) (fun _ h => h) rfl rfl rfl (fun h => q_load (gv_pos h) Try.underlying3 rfl (Cell.repE (j := 8) h2 (by (try simp [-List.getD_eq_getElem?_getD] at h); omega) rfl)) ?_
    refine DW.g (b := ((decide (Al.findI rs ((gs.getD i default).Right) < 0)) || (decide ((rs.getD ((Al.findI rs ((gs.getD i default).Right)).toNat) default).BackTo < 0)))) (v := .pointer (some (⟨b1, 3, none⟩))) (fun _ h => h) rfl rfl rfl (fun h => q_fieldAddr rfl Try.underlying31 rfl sz23 rfl) ?_
    refine DW.g (b := ((decide (Al.findI rs ((gs.getD i default).Right) < 0)) || (decide ((rs.getD ((Al.findI rs ((gs.getD i default).Right)).toNat) default).BackTo < 0)))) (v := v3) (fun _ h => h) rfl rfl rfl (fun h => q_load (gv_pos h) Try.underlying23 rfl (Cell.blk 1 rfl rfl)) ?_
    refine DW.g (b := ((decide (Al.findI rs ((gs.getD i default).Right) < 0)) || (decide ((rs.getD ((Al.findI rs ((gs.getD i default).Right)).toNat) default).BackTo < 0)))) (v := .int .i64 ((b.Places.length : Nat) : Int)) (fun _ h => h) rfl rfl rfl (fun h => q_len_sl (gv_pos h) r3.sl Try.underlying23) ?_
    refine DW.g (b := ((decide (Al.findI rs ((gs.getD i default).Right) < 0)) || (decide ((rs.getD ((Al.findI rs ((gs.getD i default).Right)).toNat) default).BackTo < 0)))) (v := .bool (decide (((b.Places.length : Nat) : Int) ≤ (rs.getD ((Al.findI rs ((gs.getD i default).Right)).toNat) default).BackTo))) (fun _ h => h) rfl rfl rfl (fun h => q_geq (gv_pos h) (gv_pos h)) ?_
    refine DW.q (v := .bool (((decide (Al.findI rs ((gs.getD i default).Right) < 0)) || (decide ((rs.getD ((Al.findI rs ((gs.getD i default).Right)).toNat) default).BackTo < 0))) || (decide (((b.Places.length : Nat) : Int) ≤ (rs.getD ((Al.findI rs ((gs.getD i default).Right)).toNat) default).BackTo)))) (fun _ h => h) rfl (q_pick rfl (fun hp => pkOrT hp) (fun hp => (gv_pos hp).trans (pkOrF hp))) ?_
    refine DW.nil ?_
    refine Post.then_n ?_
    refine AW.cond (b := ((decide (Al.findI rs ((gs.getD i default).Right) < 0)) || (decide ((rs.getD ((Al.findI rs ((gs.getD i default).Right)).toNat) default).BackTo < 0))) || (decide (((b.Places.length : Nat) : Int) ≤ (rs.getD ((Al.findI rs ((gs.getD i default).Right)).toNat) default).BackTo))) rfl (fun hc2 => ?_) (fun hc2 => ?_)
    · simp [-List.getD_eq_getElem?_getD] at hc2
      refine AW.exit ?_
      refine Post.then_x (Post.blk_hit (Post.then_n ?_))
      refine AW.region ?_
      refine RW.q (v := .int .i64 (i : Int)) rfl (q_move rfl) ?_
      refine RW.q (v := .int .i64 ((i + 1 : Nat) : Int)) rfl (q_add rfl rfl (by omega) (by unfold I64; omega)) ?_
      refine RW.q (v := .int .i64 ((i + 1 : Nat) : Int)) rfl (q_assign rfl) ?_
      refine RW.nil ?_
      have hsk : (Al.findR rs (gs.getD i default).Right).isSome = false ∨ ¬ (0 ≤ ((Al.findR rs (gs.getD i default).Right).getD default).BackTo ∧ ((Al.findR rs (gs.getD i default).Right).getD default).BackTo < b.Places.length) := by
        by_cases h0 : (Al.findI rs (gs.getD i default).Right) < 0
        · exact .inl (by rw [Al.findI_neg h0]; rfl)
        · rw [Al.findI_pos (by omega)]
          refine .inr (fun hh => ?_)
          simp only [Option.getD_some] at hh
          omega
      exact Post.back (s' := _) (J' := _) (m' := _) (by omega) ⟨i + 1, O, rfl, rfl, rfl, (by omega), (by rw [Al.foldl_takeG _ _ hc1, ← hO, Al.backStep_skip hsk]), hOI⟩ ⟨rfl, rfl, rfl, rfl, rfl, trivial⟩ (fun _ h => h)
    · simp [-List.getD_eq_getElem?_getD] at hc2
      refine AW.skip ?_
      refine Post.then_n ?_
      refine AW.seq ?_
      have hfs := Al.findI_pos (rs := rs) (v := (gs.getD i default).Right) hc2.1.1
      have hRG : ((Al.findR rs (gs.getD i default).Right).getD default) = (rs.getD (Al.findI rs (gs.getD i default).Right).toNat default) := by rw [hfs]; rfl
      have hin : 0 ≤ (rs.getD (Al.findI rs (gs.getD i default).Right).toNat default).BackTo ∧ (rs.getD (Al.findI rs (gs.getD i default).Right).toNat default).BackTo < b.Places.length := ⟨hc2.1.2, hc2.2⟩
      have hst := Al.backStep_take (ps := b.Places) (out := O) (gr := (gs.getD i default)) (by rw [hfs]; rfl) (by rw [hRG]; exact hin)
      rw [hRG] at hst
      have hol := hOI.1
      have hsr := Al.share_rng (gs.getD i default).Litres (rs.getD (Al.findI rs (gs.getD i default).Right).toNat default).Back
      have hcx := Al.clamp_rng (n := (gs.getD i default).Litres) (lo := 0) (hi := Al.maxV) (by unfold Al.maxV; omega)
      have hck := Al.clamp_rng (n := (rs.getD (Al.findI rs (gs.getD i default).Right).toNat default).Back) (lo := 0) (hi := 1000) (by omega)
      simp only [Al.maxV] at hst hsr hcx
      refine AW.draw (J0 := St ⟨w, Φ, []⟩ Φ [.row (.slice (some ⟨b2, 0, none⟩) b.Places.length b.Places.length) 3 1 b.Places.length (O.map (Value.int .i64)), .blk b1 31 [.string b.Name, v1, .int .i64 b.Cells, v3, v4, v5, v6, v7, v8, v9, .int .i64 b.Err]]) [.q, .q, .q, .q, .q, .q, .q, .q, .q, .q, .q, .q, .q, .q, .q, .q, .q, .q, .q, .q] [0, 1, 2, 3, 4, 5, 6, 7, 8, 9, 10, 11, 12, 13, 14, 15, 16, 17, 18, 19] hmix (by kernel_rfl) ?_
      refine DW.q (v := v4s) (fun _ h => h) rfl (q_move rfl) ?_
      refine DW.q (v := .int .i64 (i : Int)) (fun _ h => h) rfl (q_move rfl) ?_
      refine DW.q (v := .pointer (some (Value.at v4s (i * 2)))) (fun _ h => h) rfl (q_indexAddr rfl rfl h4.sl Try.underlying33 sz47 (by omega) (by omega) rfl) ?_
      refine DW.q (v := .pointer (some (Value.at v4s (i * 2 + 1)))) (fun _ h => h) rfl (q_fieldAddr rfl Try.underlying47 rfl sz3 at_add) ?_
      refine DW.q (v := .int .i64 ((gs.getD i default).Litres)) (fun _ h => h) rfl (q_load rfl Try.underlying3 rfl (Cell.repE (j := 1) h4 (by omega) rfl)) ?_
      refine DW.q (v := .int .i64 (Al.clamp ((gs.getD i default).Litres) 0 1125899906842624)) (fun _ h => h) rfl (q_call (args := #[.int .i64 ((gs.getD i default).Litres), .int .i64 0, .int .i64 1125899906842624]) own33 rfl rfl (fun w1 hw1 => rClamp_c w1 (Go.K.hp w1) (Hp.le_refl _))) ?_
      refine DW.q (v := v2s) (fun _ h => h) rfl (q_move rfl) ?_
      refine DW.q (v := .int .i64 (Al.findI rs ((gs.getD i default).Right))) (fun _ h => h) rfl (q_move rfl) ?_
      refine DW.q (v := .pointer (some (Value.at v2s (((Al.findI rs ((gs.getD i default).Right)).toNat) * 9)))) (fun _ h => h) rfl (q_indexAddr rfl rfl h2.sl Try.underlying32 sz45 (by omega) (by omega) rfl) ?_
      refine DW.q (v := .pointer (some (Value.at v2s (((Al.findI rs ((gs.getD i default).Right)).toNat) * 9 + 7)))) (fun _ h => h) rfl (q_fieldAddr rfl Try.underlying45 rfl sz3 at_add) ?_
      refine DW.q (v := .int .i64 ((rs.getD ((Al.findI rs ((gs.getD i default).Right)).toNat) default).Back)) (fun _ h => h) rfl (q_load rfl Try.underlying3 rfl (Cell.repE (j := 7) h2 (by omega) rfl)) ?_
      refine DW.q (v := .int .i64 (Al.clamp ((rs.getD ((Al.findI rs ((gs.getD i default).Right)).toNat) default).Back) 0 1000)) (fun _ h => h) rfl (q_call (args := #[.int .i64 ((rs.getD ((Al.findI rs ((gs.getD i default).Right)).toNat) default).Back), .int .i64 0, .int .i64 1000]) own33 rfl rfl (fun w1 hw1 => rClamp_c w1 (Go.K.hp w1) (Hp.le_refl _))) ?_
      refine DW.q (v := .tuple #[.int .i64 ((Al.clamp ((gs.getD i default).Litres) 0 1125899906842624) * (Al.clamp ((rs.getD ((Al.findI rs ((gs.getD i default).Right)).toNat) default).Back) 0 1000) / 1000), .int .i64 ((Al.clamp ((gs.getD i default).Litres) 0 1125899906842624) * (Al.clamp ((rs.getD ((Al.findI rs ((gs.getD i default).Right)).toNat) default).Back) 0 1000) % 1000), .bool true]) (fun _ h => h) rfl (q_call (args := #[.int .i64 (Al.clamp ((gs.getD i default).Litres) 0 1125899906842624), .int .i64 (Al.clamp ((rs.getD ((Al.findI rs ((gs.getD i default).Right)).toNat) default).Back) 0 1000), .int .i64 1000]) own32 rfl rfl (fun w1 hw1 => rScale_c w1 (Go.K.hp w1) (Hp.le_refl _) (by unfold Al.maxV; exact hcx) (by unfold Al.maxV; omega) (by unfold Al.maxV; omega) (Int.le_trans hsr.2.2.2 (by omega)) (by unfold Al.maxV; exact hsr.2.1))) ?_
      refine DW.q (v := .tuple #[.int .i64 ((Al.clamp ((gs.getD i default).Litres) 0 1125899906842624) * (Al.clamp ((rs.getD ((Al.findI rs ((gs.getD i default).Right)).toNat) default).Back) 0 1000) / 1000), .int .i64 ((Al.clamp ((gs.getD i default).Litres) 0 1125899906842624) * (Al.clamp ((rs.getD ((Al.findI rs ((gs.getD i default).Right)).toNat) default).Back) 0 1000) % 1000), .bool true]) (fun _ h => h) rfl (q_move rfl) ?_
      refine DW.q (v := .int .i64 ((Al.clamp ((gs.getD i default).Litres) 0 1125899906842624) * (Al.clamp ((rs.getD ((Al.findI rs ((gs.getD i default).Right)).toNat) default).Back) 0 1000) / 1000)) (fun _ h => h) rfl (q_extract rfl rfl) ?_
      refine DW.q (v := .int .i64 ((Al.clamp ((gs.getD i default).Litres) 0 1125899906842624) * (Al.clamp ((rs.getD ((Al.findI rs ((gs.getD i default).Right)).toNat) default).Back) 0 1000) % 1000)) (fun _ h => h) rfl (q_extract rfl rfl) ?_
      refine DW.q (v := .bool true) (fun _ h => h) rfl (q_extract rfl rfl) ?_
      refine DW.q (v := .int .i64 ((Al.clamp ((gs.getD i default).Litres) 0 1125899906842624) * (Al.clamp ((rs.getD ((Al.findI rs ((gs.getD i default).Right)).toNat) default).Back) 0 1000) / 1000)) (fun _ h => h) rfl (q_assign rfl) ?_
      refine DW.q (v := .int .i64 ((Al.clamp ((gs.getD i default).Litres) 0 1125899906842624) * (Al.clamp ((rs.getD ((Al.findI rs ((gs.getD i default).Right)).toNat) default).Back) 0 1000) % 1000)) (fun _ h => h) rfl (q_assign rfl) ?_
      refine DW.q (v := .bool true) (fun _ h => h) rfl (q_assign rfl) ?_
      refine DW.nil ?_
      refine Post.then_n ?_
      have hB_0 := hB
      have r3_0 := r3
      have h2_0 := h2
      have h4_0 := h4
      refine AW.draw (J0 := St ⟨w, Φ, []⟩ Φ [.row (.slice (some ⟨b2, 0, none⟩) b.Places.length b.Places.length) 3 1 b.Places.length (O.map (Value.int .i64)), .blk b1 31 [.string b.Name, v1, .int .i64 b.Cells, v3, v4, v5, v6, v7, v8, v9, .int .i64 b.Err]]) [.q, .q, .q, .q, .q, .q, .q, .q, .q, .q, .q, .q, .q, .q, .q, .q, .q, .e] [0, 1, 2, 3, 4, 5, 6, 7, 8, 9, 10, 11, 12, 13, 14, 15, 16, 17] hmix (by kernel_rfl) ?_
      refine DW.q (v := (.slice (some ⟨b2, 0, none⟩) b.Places.length b.Places.length)) (fun _ h => h) rfl (q_move rfl) ?_
      refine DW.q (v := v2s) (fun _ h => h) rfl (q_move rfl) ?_
      refine DW.q (v := .int .i64 (Al.findI rs ((gs.getD i default).Right))) (fun _ h => h) rfl (q_move rfl) ?_
      refine DW.q (v := .pointer (some (Value.at v2s (((Al.findI rs ((gs.getD i default).Right)).toNat) * 9)))) (fun _ h => h) rfl (q_indexAddr rfl rfl h2.sl Try.underlying32 sz45 (by omega) (by omega) rfl) ?_
      refine DW.q (v := .pointer (some (Value.at v2s (((Al.findI rs ((gs.getD i default).Right)).toNat) * 9 + 8)))) (fun _ h => h) rfl (q_fieldAddr rfl Try.underlying45 rfl sz3 at_add) ?_
      refine DW.q (v := .int .i64 ((rs.getD ((Al.findI rs ((gs.getD i default).Right)).toNat) default).BackTo)) (fun _ h => h) rfl (q_load rfl Try.underlying3 rfl (Cell.repE (j := 8) h2 (by omega) rfl)) ?_
      refine DW.q (v := (.slice (some ⟨b2, 0, none⟩) b.Places.length b.Places.length)) (fun _ h => h) rfl (q_move rfl) ?_
      refine DW.q (v := v2s) (fun _ h => h) rfl (q_move rfl) ?_
      refine DW.q (v := .int .i64 (Al.findI rs ((gs.getD i default).Right))) (fun _ h => h) rfl (q_move rfl) ?_
      refine DW.q (v := .pointer (some (Value.at v2s (((Al.findI rs ((gs.getD i default).Right)).toNat) * 9)))) (fun _ h => h) rfl (q_indexAddr rfl rfl h2.sl Try.underlying32 sz45 (by omega) (by omega) rfl) ?_
      refine DW.q (v := .pointer (some (Value.at v2s (((Al.findI rs ((gs.getD i default).Right)).toNat) * 9 + 8)))) (fun _ h => h) rfl (q_fieldAddr rfl Try.underlying45 rfl sz3 at_add) ?_
      refine DW.q (v := .int .i64 ((rs.getD ((Al.findI rs ((gs.getD i default).Right)).toNat) default).BackTo)) (fun _ h => h) rfl (q_load rfl Try.underlying3 rfl (Cell.repE (j := 8) h2 (by omega) rfl)) ?_
      refine DW.q (v := .pointer (some (Value.at (.slice (some ⟨b2, 0, none⟩) b.Places.length b.Places.length) ((((rs.getD ((Al.findI rs ((gs.getD i default).Right)).toNat) default).BackTo).toNat) * 1)))) (fun _ h => h) rfl (q_indexAddr rfl rfl isSl_mk Try.underlying29 sz3 (by omega) (by omega) rfl) ?_
      refine DW.q (v := .int .i64 ((O).getD (((rs.getD ((Al.findI rs ((gs.getD i default).Right)).toNat) default).BackTo).toNat) 0)) (fun _ h => h) rfl (q_load rfl Try.underlying3 rfl (Cell.rowInt 0 rfl (by omega))) ?_
      refine DW.q (v := .int .i64 ((Al.clamp ((gs.getD i default).Litres) 0 1125899906842624) * (Al.clamp ((rs.getD ((Al.findI rs ((gs.getD i default).Right)).toNat) default).Back) 0 1000) / 1000)) (fun _ h => h) rfl (q_move rfl) ?_
      refine DW.q (v := .int .i64 (Al.addS ((O).getD (((rs.getD ((Al.findI rs ((gs.getD i default).Right)).toNat) default).BackTo).toNat) 0) ((Al.clamp ((gs.getD i default).Litres) 0 1125899906842624) * (Al.clamp ((rs.getD ((Al.findI rs ((gs.getD i default).Right)).toNat) default).Back) 0 1000) / 1000))) (fun _ h => h) rfl (q_call (args := #[.int .i64 ((O).getD (((rs.getD ((Al.findI rs ((gs.getD i default).Right)).toNat) default).BackTo).toNat) 0), .int .i64 ((Al.clamp ((gs.getD i default).Litres) 0 1125899906842624) * (Al.clamp ((rs.getD ((Al.findI rs ((gs.getD i default).Right)).toNat) default).Back) 0 1000) / 1000)]) own34 rfl rfl (fun w1 hw1 => rAdd_c w1 (Go.K.hp w1) (Hp.le_refl _) (hOI.2 _) (by have h9 := hsr.2.1; unfold Al.Ok64 Al.minI Al.maxI; omega))) ?_
      refine DW.q (v := .pointer (some (Value.at (.slice (some ⟨b2, 0, none⟩) b.Places.length b.Places.length) ((((rs.getD ((Al.findI rs ((gs.getD i default).Right)).toNat) default).BackTo).toNat) * 1)))) (fun _ h => h) rfl (q_indexAddr rfl rfl isSl_mk Try.underlying29 sz3 (by omega) (by omega) rfl) ?_
      refine DW.effn (J' := St ⟨w, Φ, []⟩ Φ [.row (.slice (some ⟨b2, 0, none⟩) b.Places.length b.Places.length) 3 1 b.Places.length ((O.set (((rs.getD ((Al.findI rs ((gs.getD i default).Right)).toNat) default).BackTo).toNat) (Al.addS ((O).getD (((rs.getD ((Al.findI rs ((gs.getD i default).Right)).toNat) default).BackTo).toNat) 0) ((Al.clamp ((gs.getD i default).Litres) 0 1125899906842624) * (Al.clamp ((rs.getD ((Al.findI rs ((gs.getD i default).Right)).toNat) default).Back) 0 1000) / 1000))).map (Value.int .i64)), .blk b1 31 [.string b.Name, v1, .int .i64 b.Cells, v3, v4, v5, v6, v7, v8, v9, .int .i64 b.Err]]) (fun h => absurd rfl h) (e_storeRow (v := .int .i64 (Al.addS ((O).getD (((rs.getD ((Al.findI rs ((gs.getD i default).Right)).toNat) default).BackTo).toNat) 0) ((Al.clamp ((gs.getD i default).Litres) 0 1125899906842624) * (Al.clamp ((rs.getD ((Al.findI rs ((gs.getD i default).Right)).toNat) default).Back) 0 1000) / 1000))) 0 rfl rfl rfl sz3 rfl rfl (by simp [-List.getD_eq_getElem?_getD]; omega) (splice_int (by omega)) rfl) ?_
      refine DW.nil ?_
      refine Post.blk_n (Post.then_n ?_)
      refine AW.region ?_
      refine RW.q (v := .int .i64 (i : Int)) rfl (q_move rfl) ?_
      refine RW.q (v := .int .i64 ((i + 1 : Nat) : Int)) rfl (q_add rfl rfl (by omega) (by unfold I64; omega)) ?_
      refine RW.q (v := .int .i64 ((i + 1 : Nat) : Int)) rfl (q_assign rfl) ?_
      refine RW.nil ?_
      exact Post.back (s' := _) (J' := _) (m' := _) (by omega) ⟨i + 1, _, rfl, rfl, rfl, (by omega), (by rw [Al.foldl_takeG _ _ hc1, ← hO, hst]), (by rw [← hst]; exact Al.backStep_oi hOI)⟩ ⟨rfl, rfl, rfl, rfl, rfl, trivial⟩ (fun _ h => h)
  · simp [-List.getD_eq_getElem?_getD] at hc1
    refine AW.exit ?_
    refine Post.then_x (Post.then_x (Post.blk_hit (Post.then_n ?_)))
    refine AW.seq ?_
    refine AW.region ?_
    refine RW.q (v := (.slice (some ⟨b2, 0, none⟩) b.Places.length b.Places.length)) rfl (q_move rfl) ?_
    refine RW.q (v := (.slice (some ⟨b2, 0, none⟩) b.Places.length b.Places.length)) rfl (q_assign rfl) ?_
    refine RW.nil ?_
    refine Post.then_n ?_
    refine AW.ret ?_
    rw [List.take_of_length_le (by omega)] at hO
    have hres : Al.back b.Places rs gs = O := hO.symm
    rw [hres]
    have hol := hOI.1
    refine fin_rep rfl rfl rfl (fun w' hw => RowS.ints (row_ext hw 0 rfl) (by simp only [maxSl]; omega) (fun x hx => ?_))
    obtain ⟨j, hj, rfl⟩ := List.mem_iff_getElem.1 hx
    have h9 := hOI.2 j
    rw [List.getD_eq_getElem?_getD, List.getElem?_eq_getElem hj, Option.getD_some] at h9
    unfold Al.Ok64 Al.minI Al.maxI at h9
    unfold I64; omega

end Go.Proofs.Ytpeojogjeopfaaa
