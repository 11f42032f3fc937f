/- Walks (part WalkB), printed by walk2.py. Conditions: those of each theorem. -/
import Derived.Test.YtblfeidlnhdekaaWalkA
import Derived.Test.YtblfeidlnhdekaaBits
import Derived.Test.YtblfeidlnhdekaaPlainB
namespace Go.Proofs.Ytblfeidlnhdekaa
open Go Go.K Go.RowKit

set_option maxRecDepth 8000 in
set_option maxHeartbeats 1000000 in
theorem Scale_c (w : World) (Φ : Hp) (hΦ : Hp.le Φ (hp w)) {x k d : Int} (hx : 0 ≤ x ∧ x ≤ 1125899906842624) (hk : 0 ≤ k ∧ k ≤ 1125899906842624) (hd : 1 ≤ d ∧ d ≤ 1125899906842624) (hq : x * k / d ≤ 1125899906842624) :
    Calls Try.prog 69 #[.int .i64 x, .int .i64 k, .int .i64 d] w fun e w' => e = .returned (.tuple #[.int .i64 (x * k / d), .int .i64 (x * k % d), .bool true]) ∧ Below w.heap.size w w' := by
  obtain ⟨X, rfl⟩ := Int.eq_ofNat_of_zero_le hx.1
  obtain ⟨K, rfl⟩ := Int.eq_ofNat_of_zero_le hk.1
  obtain ⟨D, rfl⟩ := Int.eq_ofNat_of_zero_le (show 0 ≤ d by omega)
  refine calls_of_AW (args := [.int .i64 (X : Int), .int .i64 (K : Int), .int .i64 (D : Int)]) Try.func69 rfl (Nat.le_of_ble_eq_true rfl) (St ⟨w, Φ, []⟩ Φ []) (StP.init w Φ hΦ []) ?_
  show AW Try.prog 61 [] _ _ _ [(0, .int .i64 (X : Int)), (1, .int .i64 (K : Int)), (2, .int .i64 (D : Int))] _
  obtain ⟨Z, hZ⟩ : ∃ Z, X * K = Z := ⟨_, rfl⟩
  have hxe : (X : Int) * (K : Int) / (D : Int) = ((Z / D : Nat) : Int) := by rw [← hZ, Int.natCast_ediv, Int.natCast_mul]
  have hxm : (X : Int) * (K : Int) % (D : Int) = ((Z % D : Nat) : Int) := by rw [← hZ, Int.natCast_emod, Int.natCast_mul]
  have hq1 : Z / D ≤ 1125899906842624 := by rw [hxe] at hq; omega
  have hzd : Z < 18446744073709551616 * D := by have h9 := Nat.lt_mul_div_succ Z (show 0 < D by omega); have h8 : D * (Z / D + 1) ≤ D * 18446744073709551616 := Nat.mul_le_mul_left D (by omega); rw [Nat.mul_comm 18446744073709551616 D]; omega
  have hhi : Z / 18446744073709551616 < D := by rw [Nat.div_lt_iff_lt_mul (by omega), Nat.mul_comm]; exact hzd
  have hdm : Z / 18446744073709551616 * 18446744073709551616 + Z % 18446744073709551616 = Z := by rw [Nat.mul_comm]; exact Nat.div_add_mod _ _
  have hmd := Nat.mod_lt Z (show 0 < D by omega)
  have hml := Nat.mod_lt Z (show 0 < 18446744073709551616 by omega)
  refine AW.seq ?_
  refine AW.region ?_
  refine RW.q (v := .int .i64 0) rfl (q_assign rfl) ?_
  refine RW.q (v := .int .i64 0) rfl (q_assign rfl) ?_
  refine RW.q (v := .bool false) rfl (q_assign rfl) ?_
  refine RW.nil ?_
  refine Post.then_n ?_
  refine AW.seq ?_
  refine AW.seq ?_
  refine AW.region ?_
  refine RW.q (v := .int .i64 (X : Int)) rfl (q_move rfl) ?_
  refine RW.q (v := .bool (decide ((X : Int) < 0))) rfl (q_lss rfl rfl) ?_
  refine RW.q (v := .bool (decide ((X : Int) < 0))) rfl (q_move rfl) ?_
  refine RW.g (b := (decide ((X : Int) < 0))) (v := .int .i64 (X : Int)) rfl rfl rfl (fun h => q_move rfl) ?_
  refine RW.g (b := (decide ((X : Int) < 0))) (v := .bool (decide ((1125899906842624 : Int) < (X : Int)))) rfl rfl rfl (fun h => q_gtr (gv_pos h) rfl) ?_
  refine RW.q (v := .bool ((decide ((X : Int) < 0)) || (decide ((1125899906842624 : Int) < (X : Int))))) rfl (q_pick rfl (fun hp => pkOrT hp) (fun hp => (gv_pos hp).trans (pkOrF hp))) ?_
  refine RW.q (v := .bool ((decide ((X : Int) < 0)) || (decide ((1125899906842624 : Int) < (X : Int))))) rfl (q_move rfl) ?_
  refine RW.g (b := ((decide ((X : Int) < 0)) || (decide ((1125899906842624 : Int) < (X : Int))))) (v := .int .i64 (K : Int)) rfl rfl rfl (fun h => q_move rfl) ?_
  refine RW.g (b := ((decide ((X : Int) < 0)) || (decide ((1125899906842624 : Int) < (X : Int))))) (v := .bool (decide ((K : Int) < 0))) rfl rfl rfl (fun h => q_lss (gv_pos h) rfl) ?_
  refine RW.q (v := .bool (((decide ((X : Int) < 0)) || (decide ((1125899906842624 : Int) < (X : Int)))) || (decide ((K : Int) < 0)))) rfl (q_pick rfl (fun hp => pkOrT hp) (fun hp => (gv_pos hp).trans (pkOrF hp))) ?_
  refine RW.q (v := .bool (((decide ((X : Int) < 0)) || (decide ((1125899906842624 : Int) < (X : Int)))) || (decide ((K : Int) < 0)))) rfl (q_move rfl) ?_
  refine RW.g (b := (((decide ((X : Int) < 0)) || (decide ((1125899906842624 : Int) < (X : Int)))) || (decide ((K : Int) < 0)))) (v := .int .i64 (K : Int)) rfl rfl rfl (fun h => q_move rfl) ?_
  refine RW.g (b := (((decide ((X : Int) < 0)) || (decide ((1125899906842624 : Int) < (X : Int)))) || (decide ((K : Int) < 0)))) (v := .bool (decide ((1125899906842624 : Int) < (K : Int)))) rfl rfl rfl (fun h => q_gtr (gv_pos h) rfl) ?_
  refine RW.q (v := .bool ((((decide ((X : Int) < 0)) || (decide ((1125899906842624 : Int) < (X : Int)))) || (decide ((K : Int) < 0))) || (decide ((1125899906842624 : Int) < (K : Int))))) rfl (q_pick rfl (fun hp => pkOrT hp) (fun hp => (gv_pos hp).trans (pkOrF hp))) ?_
  refine RW.q (v := .bool ((((decide ((X : Int) < 0)) || (decide ((1125899906842624 : Int) < (X : Int)))) || (decide ((K : Int) < 0))) || (decide ((1125899906842624 : Int) < (K : Int))))) rfl (q_move rfl) ?_
  refine RW.g (b := ((((decide ((X : Int) < 0)) || (decide ((1125899906842624 : Int) < (X : Int)))) || (decide ((K : Int) < 0))) || (decide ((1125899906842624 : Int) < (K : Int))))) (v := .int .i64 (D : Int)) rfl rfl rfl (fun h => q_move rfl) ?_
  refine RW.g (b := ((((decide ((X : Int) < 0)) || (decide ((1125899906842624 : Int) < (X : Int)))) || (decide ((K : Int) < 0))) || (decide ((1125899906842624 : Int) < (K : Int))))) (v := .bool (decide ((D : Int) < 1))) rfl rfl rfl (fun h => q_lss (gv_pos h) rfl) ?_
  refine RW.q (v := .bool (((((decide ((X : Int) < 0)) || (decide ((1125899906842624 : Int) < (X : Int)))) || (decide ((K : Int) < 0))) || (decide ((1125899906842624 : Int) < (K : Int)))) || (decide ((D : Int) < 1)))) rfl (q_pick rfl (fun hp => pkOrT hp) (fun hp => (gv_pos hp).trans (pkOrF hp))) ?_
  refine RW.q (v := .bool (((((decide ((X : Int) < 0)) || (decide ((1125899906842624 : Int) < (X : Int)))) || (decide ((K : Int) < 0))) || (decide ((1125899906842624 : Int) < (K : Int)))) || (decide ((D : Int) < 1)))) rfl (q_move rfl) ?_
  refine RW.g (b := (((((decide ((X : Int) < 0)) || (decide ((1125899906842624 : Int) < (X : Int)))) || (decide ((K : Int) < 0))) || (decide ((1125899906842624 : Int) < (K : Int)))) || (decide ((D : Int) < 1)))) (v := .int .i64 (D : Int)) rfl rfl rfl (fun h => q_move rfl) ?_
  refine RW.g (b := (((((decide ((X : Int) < 0)) || (decide ((1125899906842624 : Int) < (X : Int)))) || (decide ((K : Int) < 0))) || (decide ((1125899906842624 : Int) < (K : Int)))) || (decide ((D : Int) < 1)))) (v := .bool (decide ((1125899906842624 : Int) < (D : Int)))) rfl rfl rfl (fun h => q_gtr (gv_pos h) rfl) ?_
  refine RW.q (v := .bool ((((((decide ((X : Int) < 0)) || (decide ((1125899906842624 : Int) < (X : Int)))) || (decide ((K : Int) < 0))) || (decide ((1125899906842624 : Int) < (K : Int)))) || (decide ((D : Int) < 1))) || (decide ((1125899906842624 : Int) < (D : Int))))) rfl (q_pick rfl (fun hp => pkOrT hp) (fun hp => (gv_pos hp).trans (pkOrF hp))) ?_
  refine RW.nil ?_
  refine Post.then_n ?_
  refine AW.cond (b := (((((decide ((X : Int) < 0)) || (decide ((1125899906842624 : Int) < (X : Int)))) || (decide ((K : Int) < 0))) || (decide ((1125899906842624 : Int) < (K : Int)))) || (decide ((D : Int) < 1))) || (decide ((1125899906842624 : Int) < (D : Int)))) rfl (fun hc1 => ?_) (fun hc1 => ?_)
  · simp [-List.getD_eq_getElem?_getD] at hc1
    omega
  · simp [-List.getD_eq_getElem?_getD] at hc1
    refine AW.skip ?_
    refine Post.then_n ?_
    refine AW.seq ?_
    refine AW.region ?_
    refine RW.q (v := .int .i64 (X : Int)) rfl (q_move rfl) ?_
    refine RW.q (v := .int .u64 ((X : Nat) : Int)) rfl (q_toU (r := X) rfl Try.underlying3 Try.underlying157 rfl (by omega)) ?_
    refine RW.q (v := .int .i64 (K : Int)) rfl (q_move rfl) ?_
    refine RW.q (v := .int .u64 ((K : Nat) : Int)) rfl (q_toU (r := K) rfl Try.underlying3 Try.underlying157 rfl (by omega)) ?_
    refine RW.q (v := .tuple #[.int .u64 ((X * K / 18446744073709551616 : Nat) : Int), .int .u64 ((X * K % 18446744073709551616 : Nat) : Int)]) rfl (q_call (args := #[.int .u64 ((X : Nat) : Int), .int .u64 ((K : Nat) : Int)]) own96 rfl rfl (fun w1 hw1 => Mul64_c w1 (Go.K.hp w1) (Hp.le_refl _) (by omega) (by omega))) ?_
    refine RW.q (v := .tuple #[.int .u64 ((X * K / 18446744073709551616 : Nat) : Int), .int .u64 ((X * K % 18446744073709551616 : Nat) : Int)]) rfl (q_move rfl) ?_
    refine RW.q (v := .int .u64 ((X * K / 18446744073709551616 : Nat) : Int)) rfl (q_extract rfl rfl) ?_
    refine RW.q (v := .int .u64 ((X * K % 18446744073709551616 : Nat) : Int)) rfl (q_extract rfl rfl) ?_
    refine RW.q (v := .int .u64 ((X * K / 18446744073709551616 : Nat) : Int)) rfl (q_assign rfl) ?_
    refine RW.q (v := .int .u64 ((X * K % 18446744073709551616 : Nat) : Int)) rfl (q_assign rfl) ?_
    refine RW.nil ?_
    refine Post.then_n ?_
    refine AW.seq ?_
    refine AW.seq ?_
    rw [hZ]
    refine AW.region ?_
    refine RW.q (v := .int .u64 ((Z / 18446744073709551616 : Nat) : Int)) rfl (q_move rfl) ?_
    refine RW.q (v := .int .i64 (D : Int)) rfl (q_move rfl) ?_
    refine RW.q (v := .int .u64 ((D : Nat) : Int)) rfl (q_toU (r := D) rfl Try.underlying3 Try.underlying157 rfl (by omega)) ?_
    refine RW.q (v := .bool (decide (((D : Nat) : Int) ≤ ((Z / 18446744073709551616 : Nat) : Int)))) rfl (q_geq rfl rfl) ?_
    refine RW.nil ?_
    refine Post.then_n ?_
    refine AW.cond (b := decide (((D : Nat) : Int) ≤ ((Z / 18446744073709551616 : Nat) : Int))) rfl (fun hc2 => ?_) (fun hc2 => ?_)
    · simp [-List.getD_eq_getElem?_getD] at hc2
      omega
    · simp [-List.getD_eq_getElem?_getD] at hc2
      refine AW.skip ?_
      refine Post.then_n ?_
      refine AW.seq ?_
      refine AW.region ?_
      refine RW.q (v := .int .u64 ((Z / 18446744073709551616 : Nat) : Int)) rfl (q_move rfl) ?_
      refine RW.q (v := .int .u64 ((Z % 18446744073709551616 : Nat) : Int)) rfl (q_move rfl) ?_
      refine RW.q (v := .int .i64 (D : Int)) rfl (q_move rfl) ?_
      refine RW.q (v := .int .u64 ((D : Nat) : Int)) rfl (q_toU (r := D) rfl Try.underlying3 Try.underlying157 rfl (by omega)) ?_
      refine RW.q (v := .tuple #[.int .u64 ((((Z / 18446744073709551616) * 18446744073709551616 + (Z % 18446744073709551616)) / D : Nat) : Int), .int .u64 ((((Z / 18446744073709551616) * 18446744073709551616 + (Z % 18446744073709551616)) % D : Nat) : Int)]) rfl (q_call (args := #[.int .u64 ((Z / 18446744073709551616 : Nat) : Int), .int .u64 ((Z % 18446744073709551616 : Nat) : Int), .int .u64 ((D : Nat) : Int)]) own97 rfl rfl (fun w1 hw1 => Div64_c w1 (Go.K.hp w1) (Hp.le_refl _) (by omega) (by omega) (by omega))) ?_
      refine RW.q (v := .tuple #[.int .u64 ((((Z / 18446744073709551616) * 18446744073709551616 + (Z % 18446744073709551616)) / D : Nat) : Int), .int .u64 ((((Z / 18446744073709551616) * 18446744073709551616 + (Z % 18446744073709551616)) % D : Nat) : Int)]) rfl (q_move rfl) ?_
      refine RW.q (v := .int .u64 ((((Z / 18446744073709551616) * 18446744073709551616 + (Z % 18446744073709551616)) / D : Nat) : Int)) rfl (q_extract rfl rfl) ?_
      refine RW.q (v := .int .u64 ((((Z / 18446744073709551616) * 18446744073709551616 + (Z % 18446744073709551616)) % D : Nat) : Int)) rfl (q_extract rfl rfl) ?_
      refine RW.q (v := .int .u64 ((((Z / 18446744073709551616) * 18446744073709551616 + (Z % 18446744073709551616)) / D : Nat) : Int)) rfl (q_assign rfl) ?_
      refine RW.q (v := .int .u64 ((((Z / 18446744073709551616) * 18446744073709551616 + (Z % 18446744073709551616)) % D : Nat) : Int)) rfl (q_assign rfl) ?_
      refine RW.nil ?_
      refine Post.then_n ?_
      refine AW.seq ?_
      refine AW.seq ?_
      rw [hdm]
      refine AW.region ?_
      refine RW.q (v := .int .u64 ((Z / D : Nat) : Int)) rfl (q_move rfl) ?_
      refine RW.q (v := .bool (decide (((1125899906842624 : Nat) : Int) < ((Z / D : Nat) : Int)))) rfl (q_gtr rfl rfl) ?_
      refine RW.nil ?_
      refine Post.then_n ?_
      refine AW.cond (b := decide (((1125899906842624 : Nat) : Int) < ((Z / D : Nat) : Int))) rfl (fun hc3 => ?_) (fun hc3 => ?_)
      · simp [-List.getD_eq_getElem?_getD] at hc3
        omega
      · simp [-List.getD_eq_getElem?_getD] at hc3
        refine AW.skip ?_
        refine Post.then_n ?_
        refine AW.seq ?_
        refine AW.region ?_
        refine RW.q (v := .int .u64 ((Z / D : Nat) : Int)) rfl (q_move rfl) ?_
        refine RW.q (v := .int .i64 ((Z / D : Nat) : Int)) rfl (q_ofU (a := (Z / D)) rfl Try.underlying157 Try.underlying3 (by omega)) ?_
        refine RW.q (v := .int .u64 ((Z % D : Nat) : Int)) rfl (q_move rfl) ?_
        refine RW.q (v := .int .i64 ((Z % D : Nat) : Int)) rfl (q_ofU (a := (Z % D)) rfl Try.underlying157 Try.underlying3 (by omega)) ?_
        refine RW.q (v := .int .i64 ((Z / D : Nat) : Int)) rfl (q_assign rfl) ?_
        refine RW.q (v := .int .i64 ((Z % D : Nat) : Int)) rfl (q_assign rfl) ?_
        refine RW.q (v := .bool true) rfl (q_assign rfl) ?_
        refine RW.nil ?_
        refine Post.then_n ?_
        refine AW.ret ?_
        refine fin_out3 (v1 := .int .i64 ((Z / D : Nat) : Int)) (v2 := .int .i64 ((Z % D : Nat) : Int)) (v3 := .bool true) rfl rfl rfl rfl rfl (fun w' hw => ?_)
        refine ⟨?_, hw.below rfl⟩
        rw [hxe, hxm]

set_option maxRecDepth 8000 in
set_option maxHeartbeats 1000000 in
theorem rScale_c (w : World) (Φ : Hp) (hΦ : Hp.le Φ (hp w)) {x k d : Int} (hx : 0 ≤ x ∧ x ≤ 1125899906842624) (hk : 0 ≤ k ∧ k ≤ 1125899906842624) (hd : 1 ≤ d ∧ d ≤ 1125899906842624) (hq : x * k / d ≤ 1125899906842624) :
    Calls Try.prog 108 #[.int .i64 x, .int .i64 k, .int .i64 d] w fun e w' => e = .returned (.tuple #[.int .i64 (x * k / d), .int .i64 (x * k % d), .bool true]) ∧ Below w.heap.size w w' := by
  obtain ⟨K, rfl⟩ := Int.eq_ofNat_of_zero_le hk.1
  refine calls_of_AW (args := [.int .i64 x, .int .i64 (K : Int), .int .i64 d]) Try.func108 rfl (Nat.le_of_ble_eq_true rfl) (St ⟨w, Φ, []⟩ Φ []) (StP.init w Φ hΦ []) ?_
  show AW Try.prog 61 [] _ _ _ [(0, .int .i64 x), (1, .int .i64 (K : Int)), (2, .int .i64 d)] _
  refine AW.seq ?_
  refine AW.region ?_
  refine RW.q (v := .int .i64 0) rfl (q_assign rfl) ?_
  refine RW.q (v := .int .i64 0) rfl (q_assign rfl) ?_
  refine RW.q (v := .bool false) rfl (q_assign rfl) ?_
  refine RW.nil ?_
  refine Post.then_n ?_
  refine AW.seq ?_
  refine AW.seq ?_
  refine AW.region ?_
  refine RW.q (v := .int .i64 x) rfl (q_move rfl) ?_
  refine RW.q (v := .bool (decide (x < 0))) rfl (q_lss rfl rfl) ?_
  refine RW.q (v := .bool (decide (x < 0))) rfl (q_move rfl) ?_
  refine RW.g (b := (decide (x < 0))) (v := .int .i64 x) rfl rfl rfl (fun h => q_move rfl) ?_
  refine RW.g (b := (decide (x < 0))) (v := .bool (decide ((1125899906842624 : Int) < x))) rfl rfl rfl (fun h => q_gtr (gv_pos h) rfl) ?_
  refine RW.q (v := .bool ((decide (x < 0)) || (decide ((1125899906842624 : Int) < x)))) rfl (q_pick rfl (fun hp => pkOrT hp) (fun hp => (gv_pos hp).trans (pkOrF hp))) ?_
  refine RW.q (v := .bool ((decide (x < 0)) || (decide ((1125899906842624 : Int) < x)))) rfl (q_move rfl) ?_
  refine RW.g (b := ((decide (x < 0)) || (decide ((1125899906842624 : Int) < x)))) (v := .int .i64 (K : Int)) rfl rfl rfl (fun h => q_move rfl) ?_
  refine RW.g (b := ((decide (x < 0)) || (decide ((1125899906842624 : Int) < x)))) (v := .bool (decide ((K : Int) < 0))) rfl rfl rfl (fun h => q_lss (gv_pos h) rfl) ?_
  refine RW.q (v := .bool (((decide (x < 0)) || (decide ((1125899906842624 : Int) < x))) || (decide ((K : Int) < 0)))) rfl (q_pick rfl (fun hp => pkOrT hp) (fun hp => (gv_pos hp).trans (pkOrF hp))) ?_
  refine RW.q (v := .bool (((decide (x < 0)) || (decide ((1125899906842624 : Int) < x))) || (decide ((K : Int) < 0)))) rfl (q_move rfl) ?_
  refine RW.g (b := (((decide (x < 0)) || (decide ((1125899906842624 : Int) < x))) || (decide ((K : Int) < 0)))) (v := .int .i64 (K : Int)) rfl rfl rfl (fun h => q_move rfl) ?_
  refine RW.g (b := (((decide (x < 0)) || (decide ((1125899906842624 : Int) < x))) || (decide ((K : Int) < 0)))) (v := .bool (decide ((1125899906842624 : Int) < (K : Int)))) rfl rfl rfl (fun h => q_gtr (gv_pos h) rfl) ?_
  refine RW.q (v := .bool ((((decide (x < 0)) || (decide ((1125899906842624 : Int) < x))) || (decide ((K : Int) < 0))) || (decide ((1125899906842624 : Int) < (K : Int))))) rfl (q_pick rfl (fun hp => pkOrT hp) (fun hp => (gv_pos hp).trans (pkOrF hp))) ?_
  refine RW.q (v := .bool ((((decide (x < 0)) || (decide ((1125899906842624 : Int) < x))) || (decide ((K : Int) < 0))) || (decide ((1125899906842624 : Int) < (K : Int))))) rfl (q_move rfl) ?_
  refine RW.g (b := ((((decide (x < 0)) || (decide ((1125899906842624 : Int) < x))) || (decide ((K : Int) < 0))) || (decide ((1125899906842624 : Int) < (K : Int))))) (v := .int .i64 d) rfl rfl rfl (fun h => q_move rfl) ?_
  refine RW.g (b := ((((decide (x < 0)) || (decide ((1125899906842624 : Int) < x))) || (decide ((K : Int) < 0))) || (decide ((1125899906842624 : Int) < (K : Int))))) (v := .bool (decide (d < 1))) rfl rfl rfl (fun h => q_lss (gv_pos h) rfl) ?_
  refine RW.q (v := .bool (((((decide (x < 0)) || (decide ((1125899906842624 : Int) < x))) || (decide ((K : Int) < 0))) || (decide ((1125899906842624 : Int) < (K : Int)))) || (decide (d < 1)))) rfl (q_pick rfl (fun hp => pkOrT hp) (fun hp => (gv_pos hp).trans (pkOrF hp))) ?_
  refine RW.q (v := .bool (((((decide (x < 0)) || (decide ((1125899906842624 : Int) < x))) || (decide ((K : Int) < 0))) || (decide ((1125899906842624 : Int) < (K : Int)))) || (decide (d < 1)))) rfl (q_move rfl) ?_
  refine RW.g (b := (((((decide (x < 0)) || (decide ((1125899906842624 : Int) < x))) || (decide ((K : Int) < 0))) || (decide ((1125899906842624 : Int) < (K : Int)))) || (decide (d < 1)))) (v := .int .i64 d) rfl rfl rfl (fun h => q_move rfl) ?_
  refine RW.g (b := (((((decide (x < 0)) || (decide ((1125899906842624 : Int) < x))) || (decide ((K : Int) < 0))) || (decide ((1125899906842624 : Int) < (K : Int)))) || (decide (d < 1)))) (v := .bool (decide ((1125899906842624 : Int) < d))) rfl rfl rfl (fun h => q_gtr (gv_pos h) rfl) ?_
  refine RW.q (v := .bool ((((((decide (x < 0)) || (decide ((1125899906842624 : Int) < x))) || (decide ((K : Int) < 0))) || (decide ((1125899906842624 : Int) < (K : Int)))) || (decide (d < 1))) || (decide ((1125899906842624 : Int) < d)))) rfl (q_pick rfl (fun hp => pkOrT hp) (fun hp => (gv_pos hp).trans (pkOrF hp))) ?_
  refine RW.nil ?_
  refine Post.then_n ?_
  refine AW.cond (b := (((((decide (x < 0)) || (decide ((1125899906842624 : Int) < x))) || (decide ((K : Int) < 0))) || (decide ((1125899906842624 : Int) < (K : Int)))) || (decide (d < 1))) || (decide ((1125899906842624 : Int) < d))) rfl (fun hc1 => ?_) (fun hc1 => ?_)
  · simp [-List.getD_eq_getElem?_getD] at hc1
    omega
  · simp [-List.getD_eq_getElem?_getD] at hc1
    refine AW.skip ?_
    refine Post.then_n ?_
    refine AW.seq ?_
    refine AW.region ?_
    refine RW.q (v := .int .i64 0) rfl (q_assign rfl) ?_
    refine RW.nil ?_
    refine Post.then_n ?_
    refine AW.seq ?_
    refine AW.region ?_
    refine RW.q (v := .int .i64 0) rfl (q_assign rfl) ?_
    refine RW.nil ?_
    refine Post.then_n ?_
    refine AW.seq ?_
    refine AW.seq ?_
    refine AW.region ?_
    refine RW.q (v := .int .i64 1125899906842624) rfl (q_assign rfl) ?_
    refine RW.nil ?_
    refine Post.then_n ?_
    refine AW.block ?_
    refine AW.loop (fun s J m => ∃ (i : Nat), ∃ (q : Int), ∃ (r : Int), s = [(0, .int .i64 x), (1, .int .i64 (K : Int)), (2, .int .i64 d), (9, .int .i64 q), (10, .int .i64 r), (11, .int .i64 ((Al.bit i : Nat) : Int))] ∧ J = St ⟨w, Φ, []⟩ Φ [] ∧ m = i + 0 * i ∧ (i ≤ 51) ∧ (q * d + r = x * ((K / 2 ^ i : Nat) : Int)) ∧ (0 ≤ r ∧ r < d) ∧ (0 ≤ q)) (s0 := _) (J1 := _) (m0 := _) ⟨51, 0, 0, rfl, rfl, rfl, (by omega), (Al.sc_start (by omega)), (by omega), (by omega)⟩ ⟨rfl, rfl, rfl, rfl, rfl, rfl, trivial⟩ (fun _ h => h) ?_
    rintro _ _ _ _ ⟨i, q, r, rfl, rfl, rfl, hi, hqr, hrr, hq0⟩
    have hble := Al.bit_le hi
    refine AW.seq ?_
    refine AW.seq ?_
    refine AW.region ?_
    refine RW.q (v := .int .i64 ((Al.bit i : Nat) : Int)) rfl (q_move rfl) ?_
    refine RW.q (v := .bool (decide ((0 : Int) < ((Al.bit i : Nat) : Int)))) rfl (q_gtr rfl rfl) ?_
    refine RW.nil ?_
    refine Post.then_n ?_
    refine AW.cond (b := decide ((0 : Int) < ((Al.bit i : Nat) : Int))) rfl (fun hc2 => ?_) (fun hc2 => ?_)
    · simp [-List.getD_eq_getElem?_getD] at hc2
      refine AW.skip ?_
      refine Post.then_n ?_
      refine AW.seq ?_
      refine AW.block ?_
      refine AW.seq ?_
      obtain ⟨j, hj⟩ : ∃ j, i = j + 1 := ⟨i - 1, by have := Al.bit_pos.1 (show 0 < Al.bit i by omega); omega⟩
      have hqm := Al.sc_le (i := i) hd.1 hx.1 hrr.1 hqr hq
      refine AW.region ?_
      refine RW.q (v := .int .i64 q) rfl (q_move rfl) ?_
      refine RW.q (v := .int .i64 (2 * q)) rfl (q_mul rfl rfl rfl (by unfold I64; omega)) ?_
      refine RW.q (v := .int .i64 (2 * q)) rfl (q_assign rfl) ?_
      refine RW.nil ?_
      refine Post.then_n ?_
      refine AW.seq ?_
      refine AW.region ?_
      refine RW.q (v := .int .i64 r) rfl (q_move rfl) ?_
      refine RW.q (v := .int .i64 (2 * r)) rfl (q_mul rfl rfl rfl (by unfold I64; omega)) ?_
      refine RW.q (v := .int .i64 (2 * r)) rfl (q_assign rfl) ?_
      refine RW.nil ?_
      refine Post.then_n ?_
      refine AW.seq ?_
      refine AW.seq ?_
      refine AW.region ?_
      refine RW.q (v := .int .i64 (K : Int)) rfl (q_move rfl) ?_
      refine RW.q (v := .int .i64 ((Al.bit i : Nat) : Int)) rfl (q_move rfl) ?_
      refine RW.q (v := .int .i64 ((K &&& (Al.bit i) : Nat) : Int)) rfl (q_andN (a := K) (b := (Al.bit i)) rfl rfl (by omega) (by omega)) ?_
      refine RW.q (v := .bool (!decide (((K &&& (Al.bit i) : Nat) : Int) = 0))) rfl (q_neq rfl rfl) ?_
      refine RW.nil ?_
      refine Post.then_n ?_
      refine AW.cond (b := !decide (((K &&& (Al.bit i) : Nat) : Int) = 0)) rfl (fun hc3 => ?_) (fun hc3 => ?_)
      · simp [-List.getD_eq_getElem?_getD] at hc3
        refine AW.region ?_
        refine RW.q (v := .int .i64 (2 * r)) rfl (q_move rfl) ?_
        refine RW.q (v := .int .i64 x) rfl (q_move rfl) ?_
        refine RW.q (v := .int .i64 ((2 * r) + x)) rfl (q_add rfl rfl (by omega) (by unfold I64; omega)) ?_
        refine RW.q (v := .int .i64 ((2 * r) + x)) rfl (q_assign rfl) ?_
        refine RW.nil ?_
        refine Post.then_n ?_
        refine AW.seq ?_
        have hbh : ((Al.bit i : Nat) : Int).tdiv 2 = ((Al.bit j : Nat) : Int) := by rw [Int.tdiv_eq_ediv_of_nonneg (by omega), hj]; have h9 := Al.bit_half j; omega
        have hbj := Al.bit_le (i := j) (by omega)
        have hbm : K / 2 ^ j % 2 = 1 := by
          have h9 : ¬ (K &&& Al.bit (j + 1) = 0) := by rw [← hj]; omega
          rw [Al.and_bit] at h9
          omega
        have hst := Al.sc_step (A := (2 * r) + x) (K := K) (i := j) (by rw [← hj]; exact hqr) (by rw [hbm]; simp)
        have hrm := Int.emod_lt_of_pos ((2 * r) + x) (show 0 < d by omega)
        have hrn := Int.emod_nonneg ((2 * r) + x) (show d ≠ 0 by omega)
        have hA0 : 0 ≤ (2 * r) + x := by omega
        have hdq := Int.ediv_nonneg hA0 (show 0 ≤ d by omega)
        have hqn := Al.sc_le (i := j) hd.1 hx.1 hrn hst hq
        have htd : ((2 * r) + x).tdiv d = ((2 * r) + x) / d := Int.tdiv_eq_ediv_of_nonneg hA0
        have htm : ((2 * r) + x).tmod d = ((2 * r) + x) % d := Int.tmod_eq_emod_of_nonneg hA0
        refine AW.region ?_
        refine RW.q (v := .int .i64 (2 * q)) rfl (q_move rfl) ?_
        refine RW.q (v := .int .i64 ((2 * r) + x)) rfl (q_move rfl) ?_
        refine RW.q (v := .int .i64 d) rfl (q_move rfl) ?_
        refine RW.q (v := .int .i64 (((2 * r) + x) / d)) rfl (q_quo rfl rfl (by omega) htd (by unfold I64; omega)) ?_
        refine RW.q (v := .int .i64 ((2 * q) + (((2 * r) + x) / d))) rfl (q_add rfl rfl (by omega) (by unfold I64; omega)) ?_
        refine RW.q (v := .int .i64 ((2 * q) + (((2 * r) + x) / d))) rfl (q_assign rfl) ?_
        refine RW.nil ?_
        refine Post.then_n ?_
        refine AW.seq ?_
        refine AW.region ?_
        refine RW.q (v := .int .i64 ((2 * r) + x)) rfl (q_move rfl) ?_
        refine RW.q (v := .int .i64 d) rfl (q_move rfl) ?_
        refine RW.q (v := .int .i64 (((2 * r) + x) % d)) rfl (q_rem rfl rfl (by omega) htm) ?_
        refine RW.q (v := .int .i64 (((2 * r) + x) % d)) rfl (q_assign rfl) ?_
        refine RW.nil ?_
        refine Post.then_n ?_
        refine AW.seq ?_
        refine AW.region ?_
        refine RW.q (v := .int .i64 ((2 * q) + (((2 * r) + x) / d))) rfl (q_move rfl) ?_
        refine RW.q (v := .bool (decide ((1125899906842624 : Int) < (2 * q) + (((2 * r) + x) / d)))) rfl (q_gtr rfl rfl) ?_
        refine RW.nil ?_
        refine Post.then_n ?_
        refine AW.cond (b := decide ((1125899906842624 : Int) < (2 * q) + (((2 * r) + x) / d))) rfl (fun hc4 => ?_) (fun hc4 => ?_)
        · simp [-List.getD_eq_getElem?_getD] at hc4
          omega
        · simp [-List.getD_eq_getElem?_getD] at hc4
          refine AW.skip ?_
          refine Post.blk_n (Post.then_n ?_)
          refine AW.region ?_
          refine RW.q (v := .int .i64 ((Al.bit i : Nat) : Int)) rfl (q_move rfl) ?_
          refine RW.q (v := .int .i64 ((Al.bit j : Nat) : Int)) rfl (q_quo rfl rfl (by omega) hbh (by unfold I64; omega)) ?_
          refine RW.q (v := .int .i64 ((Al.bit j : Nat) : Int)) rfl (q_assign rfl) ?_
          refine RW.nil ?_
          exact Post.back (s' := _) (J' := _) (m' := _) (by omega) ⟨j, _, _, rfl, rfl, rfl, (by omega), hst, ⟨hrn, hrm⟩, (by omega)⟩ ⟨rfl, rfl, rfl, rfl, rfl, rfl, trivial⟩ (fun _ h => h)
      · simp [-List.getD_eq_getElem?_getD] at hc3
        refine AW.skip ?_
        refine Post.then_n ?_
        refine AW.seq ?_
        have hbh : ((Al.bit i : Nat) : Int).tdiv 2 = ((Al.bit j : Nat) : Int) := by rw [Int.tdiv_eq_ediv_of_nonneg (by omega), hj]; have h9 := Al.bit_half j; omega
        have hbj := Al.bit_le (i := j) (by omega)
        have hbm : K / 2 ^ j % 2 = 0 := by
          have h9 : K &&& Al.bit (j + 1) = 0 := by rw [← hj]; omega
          exact Al.and_bit.1 h9
        have hst := Al.sc_step (A := 2 * r) (K := K) (i := j) (by rw [← hj]; exact hqr) (by rw [hbm]; simp)
        have hrm := Int.emod_lt_of_pos (2 * r) (show 0 < d by omega)
        have hrn := Int.emod_nonneg (2 * r) (show d ≠ 0 by omega)
        have hA0 : 0 ≤ 2 * r := by omega
        have hdq := Int.ediv_nonneg hA0 (show 0 ≤ d by omega)
        have hqn := Al.sc_le (i := j) hd.1 hx.1 hrn hst hq
        have htd : (2 * r).tdiv d = (2 * r) / d := Int.tdiv_eq_ediv_of_nonneg hA0
        have htm : (2 * r).tmod d = (2 * r) % d := Int.tmod_eq_emod_of_nonneg hA0
        refine AW.region ?_
        refine RW.q (v := .int .i64 (2 * q)) rfl (q_move rfl) ?_
        refine RW.q (v := .int .i64 (2 * r)) rfl (q_move rfl) ?_
        refine RW.q (v := .int .i64 d) rfl (q_move rfl) ?_
        refine RW.q (v := .int .i64 ((2 * r) / d)) rfl (q_quo rfl rfl (by omega) htd (by unfold I64; omega)) ?_
        refine RW.q (v := .int .i64 ((2 * q) + ((2 * r) / d))) rfl (q_add rfl rfl (by omega) (by unfold I64; omega)) ?_
        refine RW.q (v := .int .i64 ((2 * q) + ((2 * r) / d))) rfl (q_assign rfl) ?_
        refine RW.nil ?_
        refine Post.then_n ?_
        refine AW.seq ?_
        refine AW.region ?_
        refine RW.q (v := .int .i64 (2 * r)) rfl (q_move rfl) ?_
        refine RW.q (v := .int .i64 d) rfl (q_move rfl) ?_
        refine RW.q (v := .int .i64 ((2 * r) % d)) rfl (q_rem rfl rfl (by omega) htm) ?_
        refine RW.q (v := .int .i64 ((2 * r) % d)) rfl (q_assign rfl) ?_
        refine RW.nil ?_
        refine Post.then_n ?_
        refine AW.seq ?_
        refine AW.region ?_
        refine RW.q (v := .int .i64 ((2 * q) + ((2 * r) / d))) rfl (q_move rfl) ?_
        refine RW.q (v := .bool (decide ((1125899906842624 : Int) < (2 * q) + ((2 * r) / d)))) rfl (q_gtr rfl rfl) ?_
        refine RW.nil ?_
        refine Post.then_n ?_
        refine AW.cond (b := decide ((1125899906842624 : Int) < (2 * q) + ((2 * r) / d))) rfl (fun hc5 => ?_) (fun hc5 => ?_)
        · simp [-List.getD_eq_getElem?_getD] at hc5
          omega
        · simp [-List.getD_eq_getElem?_getD] at hc5
          refine AW.skip ?_
          refine Post.blk_n (Post.then_n ?_)
          refine AW.region ?_
          refine RW.q (v := .int .i64 ((Al.bit i : Nat) : Int)) rfl (q_move rfl) ?_
          refine RW.q (v := .int .i64 ((Al.bit j : Nat) : Int)) rfl (q_quo rfl rfl (by omega) hbh (by unfold I64; omega)) ?_
          refine RW.q (v := .int .i64 ((Al.bit j : Nat) : Int)) rfl (q_assign rfl) ?_
          refine RW.nil ?_
          exact Post.back (s' := _) (J' := _) (m' := _) (by omega) ⟨j, _, _, rfl, rfl, rfl, (by omega), hst, ⟨hrn, hrm⟩, (by omega)⟩ ⟨rfl, rfl, rfl, rfl, rfl, rfl, trivial⟩ (fun _ h => h)
    · simp [-List.getD_eq_getElem?_getD] at hc2
      refine AW.exit ?_
      refine Post.then_x (Post.then_x (Post.blk_hit (Post.then_n ?_)))
      refine AW.seq ?_
      refine AW.region ?_
      refine RW.q (v := .int .i64 q) rfl (q_move rfl) ?_
      refine RW.q (v := .int .i64 r) rfl (q_move rfl) ?_
      refine RW.q (v := .int .i64 q) rfl (q_assign rfl) ?_
      refine RW.q (v := .int .i64 r) rfl (q_assign rfl) ?_
      refine RW.q (v := .bool true) rfl (q_assign rfl) ?_
      refine RW.nil ?_
      refine Post.then_n ?_
      refine AW.ret ?_
      have hi0 : i = 0 := by
        have := Al.bit_pos (i := i)
        omega
      rw [hi0] at hqr
      obtain ⟨e1, e2⟩ := Al.sc_end hd.1 hrr hqr
      exact fin_out3 rfl rfl rfl rfl rfl (fun w' hw => ⟨by rw [e1, e2]; rfl, hw.below rfl⟩)

set_option maxRecDepth 8000 in
set_option maxHeartbeats 1000000 in
theorem Search_c (w : World) (Φ : Hp) (hΦ : Hp.le Φ (hp w)) {n r : Nat} {kf : FuncId} {capt : Array Value} (hk : Own Try.prog kf) (hn : n ≤ 140737488355328) (hr : r ≤ n) (hf : ∀ w1, Below w.heap.size w w1 → ∀ i, i < n → Calls Try.prog kf (#[.int .i64 ((i : Nat) : Int)] ++ capt) w1 fun e w2 => e = .returned (.bool (decide (r ≤ i))) ∧ Below w1.heap.size w1 w2) :
    Calls Try.prog 67 #[.int .i64 (n : Int), (.func (.func kf) #[] capt)] w fun e w' => e = .returned (.int .i64 (r : Int)) ∧ Below w.heap.size w w' := by
  refine calls_of_AW (args := [.int .i64 (n : Int), (.func (.func kf) #[] capt)]) Try.func67 rfl (Nat.le_of_ble_eq_true rfl) (St ⟨w, Φ, []⟩ Φ []) (StP.init w Φ hΦ []) ?_
  show AW Try.prog 26 [] _ _ _ [(0, .int .i64 (n : Int)), (1, (.func (.func kf) #[] capt))] _
  refine AW.seq ?_
  refine AW.region ?_
  refine RW.q (v := .int .i64 0) rfl (q_assign rfl) ?_
  refine RW.nil ?_
  refine Post.then_n ?_
  refine AW.seq ?_
  refine AW.region ?_
  refine RW.q (v := .int .i64 (n : Int)) rfl (q_move rfl) ?_
  refine RW.q (v := .int .i64 0) rfl (q_assign rfl) ?_
  refine RW.q (v := .int .i64 (n : Int)) rfl (q_assign rfl) ?_
  refine RW.nil ?_
  refine Post.then_n ?_
  refine AW.seq ?_
  refine AW.block ?_
  refine AW.loop (fun s J m => ∃ (i : Nat), ∃ (j : Nat), s = [(0, .int .i64 (n : Int)), (1, (.func (.func kf) #[] capt)), (5, .int .i64 (i : Int)), (6, .int .i64 (j : Int))] ∧ J = St ⟨w, Φ, []⟩ Φ [] ∧ m = j - i ∧ (i ≤ r) ∧ (r ≤ j) ∧ (j ≤ n)) (s0 := _) (J1 := _) (m0 := _) ⟨0, n, rfl, rfl, rfl, (by omega), (by omega), (by omega)⟩ ⟨rfl, rfl, rfl, rfl, trivial⟩ (fun _ h => h) ?_
  rintro _ _ _ _ ⟨i, j, rfl, rfl, rfl, hi, hj, hjn⟩
  refine AW.seq ?_
  refine AW.seq ?_
  refine AW.region ?_
  refine RW.q (v := .int .i64 (i : Int)) rfl (q_move rfl) ?_
  refine RW.q (v := .int .i64 (j : Int)) rfl (q_move rfl) ?_
  refine RW.q (v := .bool (decide ((i : Int) < (j : Int)))) rfl (q_lss rfl rfl) ?_
  refine RW.nil ?_
  refine Post.then_n ?_
  refine AW.cond (b := decide ((i : Int) < (j : Int))) rfl (fun hc1 => ?_) (fun hc1 => ?_)
  · simp [-List.getD_eq_getElem?_getD] at hc1
    refine AW.skip ?_
    refine Post.then_n ?_
    refine AW.block ?_
    refine AW.seq ?_
    refine AW.region ?_
    refine RW.q (v := .int .i64 (i : Int)) rfl (q_move rfl) ?_
    refine RW.q (v := .int .i64 (j : Int)) rfl (q_move rfl) ?_
    refine RW.q (v := .int .i64 ((i + j : Nat) : Int)) rfl (q_add rfl rfl (by omega) (by unfold I64; omega)) ?_
    refine RW.q (v := .int .u64 ((i + j : Nat) : Int)) rfl (q_toU (r := (i + j)) rfl Try.underlying3 Try.underlying156 rfl (by omega)) ?_
    refine RW.q (v := .int .u64 (((i + j) / 2 ^ 1 : Nat) : Int)) rfl (q_shrU' (a := (i + j)) (c := 1) rfl rfl (by omega)) ?_
    refine RW.q (v := .int .i64 (((i + j) / 2 : Nat) : Int)) rfl (q_as (v := .int .i64 (((i + j) / 2 ^ 1 : Nat) : Int)) (q_ofU (a := ((i + j) / 2 ^ 1)) rfl Try.underlying156 Try.underlying3 (by omega)) (congrArg (Value.int .i64) (by simp))) ?_
    refine RW.q (v := .int .i64 (((i + j) / 2 : Nat) : Int)) rfl (q_assign rfl) ?_
    refine RW.nil ?_
    refine Post.then_n ?_
    refine AW.seq ?_
    refine AW.region ?_
    refine RW.q (v := (.func (.func kf) #[] capt)) rfl (q_move rfl) ?_
    refine RW.q (v := .int .i64 (((i + j) / 2 : Nat) : Int)) rfl (q_move rfl) ?_
    refine RW.q (v := .bool (decide (r ≤ (i + j) / 2))) rfl (q_call (args := [.int .i64 (((i + j) / 2 : Nat) : Int)].toArray ++ capt) hk rfl (args_capt rfl) (fun w1 hw1 => hf w1 (hw1.below rfl) ((i + j) / 2) (by omega))) ?_
    refine RW.q (v := .bool (!(decide (r ≤ (i + j) / 2)))) rfl (q_not rfl) ?_
    refine RW.nil ?_
    refine Post.then_n ?_
    refine AW.cond (b := !(decide (r ≤ (i + j) / 2))) rfl (fun hc2 => ?_) (fun hc2 => ?_)
    · simp [-List.getD_eq_getElem?_getD] at hc2
      refine AW.region ?_
      refine RW.q (v := .int .i64 (((i + j) / 2 : Nat) : Int)) rfl (q_move rfl) ?_
      refine RW.q (v := .int .i64 (((i + j) / 2 + 1 : Nat) : Int)) rfl (q_add rfl rfl (by omega) (by unfold I64; omega)) ?_
      refine RW.q (v := .int .i64 (((i + j) / 2 + 1 : Nat) : Int)) rfl (q_assign rfl) ?_
      refine RW.nil ?_
      refine Post.blk_n ?_
      exact Post.back (s' := _) (J' := _) (m' := _) (by omega) ⟨(i + j) / 2 + 1, j, rfl, rfl, rfl, (by omega), (by omega), (by omega)⟩ ⟨rfl, rfl, rfl, rfl, trivial⟩ (fun _ h => h)
    · simp [-List.getD_eq_getElem?_getD] at hc2
      refine AW.region ?_
      refine RW.q (v := .int .i64 (((i + j) / 2 : Nat) : Int)) rfl (q_move rfl) ?_
      refine RW.q (v := .int .i64 (((i + j) / 2 : Nat) : Int)) rfl (q_assign rfl) ?_
      refine RW.nil ?_
      refine Post.blk_n ?_
      exact Post.back (s' := _) (J' := _) (m' := _) (by omega) ⟨i, (i + j) / 2, rfl, rfl, rfl, (by omega), (by omega), (by omega)⟩ ⟨rfl, rfl, rfl, rfl, trivial⟩ (fun _ h => h)
  · simp [-List.getD_eq_getElem?_getD] at hc1
    refine AW.exit ?_
    refine Post.then_x (Post.then_x (Post.blk_hit (Post.then_n ?_)))
    refine AW.seq ?_
    refine AW.region ?_
    refine RW.q (v := .int .i64 (i : Int)) rfl (q_move rfl) ?_
    refine RW.q (v := .int .i64 (i : Int)) rfl (q_assign rfl) ?_
    refine RW.nil ?_
    refine Post.then_n ?_
    refine AW.ret ?_
    exact fin_val (v' := .int .i64 (i : Int)) rfl rfl rfl (by rw [show i = r by omega])

set_option maxRecDepth 8000 in
set_option maxHeartbeats 1000000 in
theorem Least1_c (w : World) (Φ : Hp) (hΦ : Hp.le Φ (hp w)) {c : List Bt.Point} {v1 : Value} (h1 : RepSl Φ c v1) {y : Int} {b1 b2 : Nat} (p1 : PCell Φ ⟨b1, 0, none⟩ v1) (p2 : PCell Φ ⟨b2, 0, none⟩ (.int .i64 y)) {i : Nat} (hi : i < c.length) :
    Calls Try.prog 68 #[.int .i64 (i : Int), .pointer (some ⟨b1, 0, none⟩), .pointer (some ⟨b2, 0, none⟩)] w fun e w' => e = .returned (.bool (decide (y ≤ (c.getD i default).Y))) ∧ Below w.heap.size w w' := by
  refine calls_of_AW (args := [.int .i64 (i : Int), .pointer (some (⟨b1, 0, none⟩)), .pointer (some (⟨b2, 0, none⟩))]) Try.func68 rfl (Nat.le_of_ble_eq_true rfl) (St ⟨w, Φ, []⟩ Φ []) (StP.init w Φ hΦ []) ?_
  show AW Try.prog 12 [] _ _ _ [(0, .int .i64 (i : Int)), (1, .pointer (some (⟨b1, 0, none⟩))), (2, .pointer (some (⟨b2, 0, none⟩)))] _
  have hm1 : c.length * 16 ≤ 140737488355328 := h1.max
  refine AW.seq ?_
  refine AW.region ?_
  refine RW.q (v := .bool false) rfl (q_assign rfl) ?_
  refine RW.nil ?_
  refine Post.then_n ?_
  refine AW.seq ?_
  refine AW.draw (J0 := St ⟨w, Φ, []⟩ Φ []) [.q, .q, .q, .q, .q, .q, .q, .q] [0, 1, 2, 3, 4, 5, 6, 7] hmix (by kernel_rfl) ?_
  refine DW.q (v := v1) (fun _ h => h) rfl (q_load rfl Try.underlying60 rfl (Cell.phi p1)) ?_
  refine DW.q (v := .int .i64 (i : Int)) (fun _ h => h) rfl (q_move rfl) ?_
  refine DW.q (v := .pointer (some (Value.at v1 (i * 2)))) (fun _ h => h) rfl (q_indexAddr rfl rfl h1.sl Try.underlying60 sz82 (by omega) (by omega) rfl) ?_
  refine DW.q (v := .pointer (some (Value.at v1 (i * 2 + 1)))) (fun _ h => h) rfl (q_fieldAddr rfl Try.underlying82 rfl sz3 at_add) ?_
  refine DW.q (v := .int .i64 ((c.getD i default).Y)) (fun _ h => h) rfl (q_load rfl Try.underlying3 rfl (Cell.repE (j := 1) h1 (by omega) rfl)) ?_
  refine DW.q (v := .int .i64 y) (fun _ h => h) rfl (q_load rfl Try.underlying3 rfl (Cell.phi p2)) ?_
  refine DW.q (v := .bool (decide (y ≤ (c.getD i default).Y))) (fun _ h => h) rfl (q_geq rfl rfl) ?_
  refine DW.q (v := .bool (decide (y ≤ (c.getD i default).Y))) (fun _ h => h) rfl (q_assign rfl) ?_
  refine DW.nil ?_
  refine Post.then_n ?_
  refine AW.ret ?_
  exact fin_val (v' := .bool (decide (y ≤ (c.getD i default).Y))) rfl rfl rfl (rfl)

set_option maxRecDepth 8000 in
set_option maxHeartbeats 1000000 in
theorem Least_c (w : World) (Φ : Hp) (hΦ : Hp.le Φ (hp w)) {c : List Bt.Point} {v1 : Value} (h1 : RepSl Φ c v1) {y : Int} (hyI : I64 y) :
    Calls Try.prog 28 #[v1, .int .i64 y] w fun e w' => e = .returned (.tuple #[.int .i64 (Fu.intOf (Fu.leastC c y)), .bool (Fu.leastC c y).isSome]) ∧ Below w.heap.size w w' := by
  refine calls_of_AW (args := [v1, .int .i64 y]) Try.func28 rfl (Nat.le_of_ble_eq_true rfl) (St ⟨w, Φ, []⟩ Φ []) (StP.init w Φ hΦ []) ?_
  show AW Try.prog 69 [] _ _ _ [(0, v1), (1, .int .i64 y)] _
  have hm1 : c.length * 16 ≤ 140737488355328 := h1.max
  refine AW.seq ?_
  refine AW.region ?_
  refine RW.eff (fun b1 : Nat => .pointer (some (⟨b1, 0, none⟩))) (fun b1 => St ⟨w, Φ, []⟩ Φ [.blk b1 60 [v1]]) rfl (e_boxSl rfl h1.sl) ?_
  intro b1
  refine RW.eff (fun b2 : Nat => .pointer (some (⟨b2, 0, none⟩))) (fun b2 => St ⟨w, Φ, []⟩ Φ [.blk b2 3 [.int .i64 y], .blk b1 60 [v1]]) rfl (e_box (v := .int .i64 y) rfl) ?_
  intro b2
  refine RW.q (v := .int .i64 0) rfl (q_assign rfl) ?_
  refine RW.q (v := .bool false) rfl (q_assign rfl) ?_
  refine RW.nil ?_
  refine Post.then_n ?_
  refine AW.seq ?_
  refine AW.seq ?_
  refine AW.draw (J0 := St ⟨w, Φ, []⟩ Φ [.blk b2 3 [.int .i64 y], .blk b1 60 [v1]]) [.q, .q, .q, .q, .q, .q, .q, .q, .q, .q, .q, .q, .q, .q] [0, 1, 2, 3, 4, 5, 6, 7, 8, 9, 10, 11, 12, 13] hmix (by kernel_rfl) ?_
  refine DW.q (v := v1) (fun _ h => h) rfl (q_load rfl Try.underlying60 rfl (Cell.blk 1 rfl rfl)) ?_
  refine DW.q (v := .bool (decide (Fu.RightC c))) (fun _ h => h) rfl (q_call (args := #[v1]) own27 rfl rfl (fun w1 hw1 => cRight_c w1 (Go.K.hp w1) (Hp.le_refl _) (h1.mono hw1.phi))) ?_
  refine DW.q (v := .bool (!(decide (Fu.RightC c)))) (fun _ h => h) rfl (q_not rfl) ?_
  refine DW.q (v := .bool (!(decide (Fu.RightC c)))) (fun _ h => h) rfl (q_move rfl) ?_
  refine DW.g (b := (!(decide (Fu.RightC c)))) (v := .int .i64 y) (fun _ h => h) rfl rfl rfl (fun h => q_load rfl Try.underlying3 rfl (Cell.blk 0 rfl rfl)) ?_
  refine DW.g (b := (!(decide (Fu.RightC c)))) (v := v1) (fun _ h => h) rfl rfl rfl (fun h => q_load rfl Try.underlying60 rfl (Cell.blk 1 rfl rfl)) ?_
  refine DW.g (b := (!(decide (Fu.RightC c)))) (v := v1) (fun _ h => h) rfl rfl rfl (fun h => q_load rfl Try.underlying60 rfl (Cell.blk 1 rfl rfl)) ?_
  refine DW.g (b := (!(decide (Fu.RightC c)))) (v := .int .i64 ((c.length : Nat) : Int)) (fun _ h => h) rfl rfl rfl (fun h => q_len_sl (gv_pos h) h1.sl Try.underlying60) ?_
  refine DW.g (b := (!(decide (Fu.RightC c)))) (v := .int .i64 (((c.length : Nat) : Int) - 1)) (fun _ h => h) rfl rfl rfl (fun h => q_sub (gv_pos h) rfl (by (try simp [-List.getD_eq_getElem?_getD] at h); omega) (by (try simp [-List.getD_eq_getElem?_getD] at h); unfold I64; omega)) ?_
  refine DW.g (b := (!(decide (Fu.RightC c)))) (v := .pointer (some (Value.at v1 (((((c.length : Nat) : Int) - 1).toNat) * 2)))) (fun _ h => h) rfl rfl rfl (fun h => q_indexAddr (gv_pos h) (gv_pos h) h1.sl Try.underlying60 sz82 (by simp [-List.getD_eq_getElem?_getD] at h; have := h.1.1; omega) (by simp [-List.getD_eq_getElem?_getD] at h; have := h.1.1; omega) rfl) ?_
  refine DW.g (b := (!(decide (Fu.RightC c)))) (v := .pointer (some (Value.at v1 (((((c.length : Nat) : Int) - 1).toNat) * 2 + 1)))) (fun _ h => h) rfl rfl rfl (fun h => q_fieldAddr (gv_pos h) Try.underlying82 rfl sz3 at_add) ?_
  refine DW.g (b := (!(decide (Fu.RightC c)))) (v := .int .i64 ((c.getD ((((c.length : Nat) : Int) - 1).toNat) default).Y)) (fun _ h => h) rfl rfl rfl (fun h => q_load (gv_pos h) Try.underlying3 rfl (Cell.repE (j := 1) h1 (by simp [-List.getD_eq_getElem?_getD] at h; have := h.1.1; omega) rfl)) ?_
  refine DW.g (b := (!(decide (Fu.RightC c)))) (v := .bool (decide ((c.getD ((((c.length : Nat) : Int) - 1).toNat) default).Y < y))) (fun _ h => h) rfl rfl rfl (fun h => q_gtr (gv_pos h) (gv_pos h)) ?_
  refine DW.q (v := .bool ((!(decide (Fu.RightC c))) || (decide ((c.getD ((((c.length : Nat) : Int) - 1).toNat) default).Y < y)))) (fun _ h => h) rfl (q_pick rfl (fun hp => pkOrT hp) (fun hp => (gv_pos hp).trans (pkOrF hp))) ?_
  refine DW.nil ?_
  refine Post.then_n ?_
  refine AW.cond (b := (!(decide (Fu.RightC c))) || (decide ((c.getD ((((c.length : Nat) : Int) - 1).toNat) default).Y < y))) rfl (fun hc1 => ?_) (fun hc1 => ?_)
  · simp [-List.getD_eq_getElem?_getD] at hc1
    refine AW.seq ?_
    refine AW.region ?_
    refine RW.q (v := .int .i64 0) rfl (q_assign rfl) ?_
    refine RW.q (v := .bool false) rfl (q_assign rfl) ?_
    refine RW.nil ?_
    refine Post.then_n ?_
    refine AW.ret ?_
    refine Post.then_r ?_
    refine fin_out2 (v := .int .i64 0) (u := .bool false) rfl rfl rfl rfl (fun w' hw => ?_)
    refine ⟨?_, hw.below rfl⟩
    have hn : Fu.leastC c y = none := by
      unfold Fu.leastC
      rw [if_neg (fun h => ?_)]
      have h2 := h.2
      unfold Fu.py at h2
      first | (have := hc1 h.1; omega) | (rcases hc1 with h3 | h3; exact h3 h.1; omega)
    rw [hn]; rfl
  · simp [-List.getD_eq_getElem?_getD] at hc1
    refine AW.skip ?_
    refine Post.then_n ?_
    refine AW.seq ?_
    have hR : Fu.RightC c := hc1.1
    have hl1 := hR.1.1
    have hy : y ≤ Fu.py c (c.length - 1) := hc1.2
    have hpl := Fu.posY_le (c := c) y
    have hlt := Fu.posY_lt hR hy
    refine AW.region ?_
    refine RW.q (v := v1) rfl (q_load rfl Try.underlying60 rfl (Cell.blk 1 rfl rfl)) ?_
    refine RW.q (v := .int .i64 ((c.length : Nat) : Int)) rfl (q_len_sl rfl h1.sl Try.underlying60) ?_
    refine RW.q (v := .func (.func 68) #[] #[.pointer (some (⟨b1, 0, none⟩)), .pointer (some (⟨b2, 0, none⟩))]) rfl (q_makeFunc rfl rfl) ?_
    refine RW.q (v := .int .i64 ((Fu.posY c y : Nat) : Int)) rfl (q_call (args := #[.int .i64 ((c.length : Nat) : Int), .func (.func 68) #[] #[.pointer (some (⟨b1, 0, none⟩)), .pointer (some (⟨b2, 0, none⟩))]]) own67 rfl rfl (fun w1 hw1 => Search_c w1 (Go.K.hp w1) (Hp.le_refl _) (capt := #[.pointer (some (⟨b1, 0, none⟩)), .pointer (some (⟨b2, 0, none⟩))]) own68 (by omega) hpl (fun w2 hb2 i hi => (Least1_c w2 (Go.K.hp w2) (Hp.le_refl _) ((h1.mono hw1.phi).mono (below_le hb2)) ((blk_cell (hw1.sat _ (List.mem_of_getElem? (i := 1) rfl)) rfl).mono (below_le hb2)) ((blk_cell (hw1.sat _ (List.mem_of_getElem? (i := 0) rfl)) rfl).mono (below_le hb2)) hi).mono fun e w3 ⟨he, hb3⟩ => ⟨by rw [he]; exact congrArg (fun q => Ending.returned (.bool q)) (decide_eq_decide.2 (Fu.posY_iff hR hi).symm), hb3⟩))) ?_
    refine RW.q (v := .int .i64 ((Fu.posY c y : Nat) : Int)) rfl (q_assign rfl) ?_
    refine RW.nil ?_
    refine Post.then_n ?_
    refine AW.seq ?_
    refine AW.seq ?_
    refine AW.region ?_
    refine RW.q (v := .int .i64 ((Fu.posY c y : Nat) : Int)) rfl (q_move rfl) ?_
    refine RW.q (v := .bool (decide (((Fu.posY c y : Nat) : Int) = 0))) rfl (q_eql rfl rfl) ?_
    refine RW.nil ?_
    refine Post.then_n ?_
    refine AW.cond (b := decide (((Fu.posY c y : Nat) : Int) = 0)) rfl (fun hc2 => ?_) (fun hc2 => ?_)
    · simp [-List.getD_eq_getElem?_getD] at hc2
      refine AW.seq ?_
      refine AW.region ?_
      refine RW.q (v := .int .i64 0) rfl (q_assign rfl) ?_
      refine RW.q (v := .bool true) rfl (q_assign rfl) ?_
      refine RW.nil ?_
      refine Post.then_n ?_
      refine AW.ret ?_
      refine Post.then_r ?_
      refine fin_out2 (v := .int .i64 0) (u := .bool true) rfl rfl rfl rfl (fun w' hw => ?_)
      refine ⟨?_, hw.below rfl⟩
      rw [Fu.leastC_eq hR hy, if_pos (by omega)]; rfl
    · simp [-List.getD_eq_getElem?_getD] at hc2
      refine AW.skip ?_
      refine Post.then_n ?_
      refine AW.seq ?_
      have hp0 : Fu.posY c y ≠ 0 := by omega
      obtain ⟨P, hP⟩ : ∃ P, Fu.posY c y = P + 1 := ⟨Fu.posY c y - 1, by omega⟩
      have hls := Fu.least_step hR hy hp0
      have hle := Fu.leastC_eq hR hy
      rw [if_neg hp0] at hle
      rw [hP, Nat.add_sub_cancel] at hls hle
      have hlt2 : P + 1 < c.length := by omega
      rw [hP]
      have hPi : (((P + 1 : Nat) : Int) - 1).toNat = P := by omega
      have hpt1 := (hR.pt hlt2).1
      have hpt0 := (hR.pt (show P < c.length by omega)).1
      have hpy1 := (hR.pt hlt2).2.1
      have hpy0 := (hR.pt (show P < c.length by omega)).2.1
      obtain ⟨k0, w0, d0, m0, m1, u1, u0⟩ := hls
      simp only [Fu.px, Fu.py] at hle k0 w0 d0 m0 m1 u1 u0 hpt1 hpt0 hpy1 hpy0
      refine AW.region ?_
      refine RW.q (v := v1) rfl (q_load rfl Try.underlying60 rfl (Cell.blk 1 rfl rfl)) ?_
      refine RW.q (v := .int .i64 ((P + 1 : Nat) : Int)) rfl (q_move rfl) ?_
      refine RW.q (v := .int .i64 (P : Int)) rfl (q_as (v := .int .i64 (((P + 1 : Nat) : Int) - 1)) (q_sub rfl rfl (by omega) (by unfold I64; omega)) (congrArg (Value.int .i64) (by omega))) ?_
      refine RW.q (v := .pointer (some (Value.at v1 (P * 2)))) rfl (q_indexAddr rfl rfl h1.sl Try.underlying60 sz82 (by omega) (by omega) rfl) ?_
      refine RW.q (v := .agg #[.int .i64 ((c.getD P default).X), .int .i64 ((c.getD P default).Y)]) rfl (q_loadAgg rfl Try.underlying82 rfl sz82 rfl (Cells.repE h1 (by omega) rfl)) ?_
      refine RW.eff (fun b3 : Nat => .pointer (some (⟨b3, 0, none⟩))) (fun b3 => St ⟨w, Φ, []⟩ Φ [.blk b3 82 [.int .i64 0, .int .i64 0], .blk b2 3 [.int .i64 y], .blk b1 60 [v1]]) rfl (e_alloc zero82) ?_
      intro b3
      refine RW.effn (J' := St ⟨w, Φ, []⟩ Φ [.blk b3 82 [.int .i64 ((c.getD P default).X), .int .i64 ((c.getD P default).Y)], .blk b2 3 [.int .i64 y], .blk b1 60 [v1]]) (e_store (v := .agg #[.int .i64 ((c.getD P default).X), .int .i64 ((c.getD P default).Y)]) 0 rfl rfl rfl sz82 rfl rfl rfl rfl rfl) ?_
      refine RW.nil ?_
      refine Post.then_n ?_
      refine AW.seq ?_
      refine AW.draw (J0 := St ⟨w, Φ, []⟩ Φ [.blk b3 82 [.int .i64 ((c.getD P default).X), .int .i64 ((c.getD P default).Y)], .blk b2 3 [.int .i64 y], .blk b1 60 [v1]]) [.q, .q, .q, .q, .q, .q, .q, .q, .q, .q, .q, .q, .q, .q, .q, .q, .q, .q, .q, .q, .q, .q, .q, .q, .q, .q, .q, .q] [0, 1, 2, 3, 4, 5, 6, 7, 8, 9, 10, 11, 12, 13, 14, 15, 16, 17, 18, 19, 20, 21, 22, 23, 24, 25, 26, 27] hmix (by kernel_rfl) ?_
      refine DW.q (v := .int .i64 y) (fun _ h => h) rfl (q_load rfl Try.underlying3 rfl (Cell.blk 1 rfl rfl)) ?_
      refine DW.q (v := .pointer (some (⟨b3, 1, none⟩))) (fun _ h => h) rfl (q_fieldAddr rfl Try.underlying82 rfl sz3 rfl) ?_
      refine DW.q (v := .int .i64 ((c.getD P default).Y)) (fun _ h => h) rfl (q_load rfl Try.underlying3 rfl (Cell.blk 0 rfl rfl)) ?_
      refine DW.q (v := .int .i64 (y - ((c.getD P default).Y))) (fun _ h => h) rfl (q_sub rfl rfl (by omega) (by unfold I64; omega)) ?_
      refine DW.q (v := v1) (fun _ h => h) rfl (q_load rfl Try.underlying60 rfl (Cell.blk 2 rfl rfl)) ?_
      refine DW.q (v := .int .i64 ((P + 1 : Nat) : Int)) (fun _ h => h) rfl (q_move rfl) ?_
      refine DW.q (v := .pointer (some (Value.at v1 ((P + 1) * 2)))) (fun _ h => h) rfl (q_indexAddr rfl rfl h1.sl Try.underlying60 sz82 (by omega) (by omega) rfl) ?_
      refine DW.q (v := .pointer (some (Value.at v1 ((P + 1) * 2 + 0)))) (fun _ h => h) rfl (q_fieldAddr rfl Try.underlying82 rfl sz3 at_add) ?_
      refine DW.q (v := .int .i64 ((c.getD (P + 1) default).X)) (fun _ h => h) rfl (q_load rfl Try.underlying3 rfl (Cell.repE (j := 0) h1 (by omega) rfl)) ?_
      refine DW.q (v := .pointer (some (⟨b3, 0, none⟩))) (fun _ h => h) rfl (q_fieldAddr rfl Try.underlying82 rfl sz3 rfl) ?_
      refine DW.q (v := .int .i64 ((c.getD P default).X)) (fun _ h => h) rfl (q_load rfl Try.underlying3 rfl (Cell.blk 0 rfl rfl)) ?_
      refine DW.q (v := .int .i64 (((c.getD (P + 1) default).X) - ((c.getD P default).X))) (fun _ h => h) rfl (q_sub rfl rfl (by omega) (by unfold I64; omega)) ?_
      refine DW.q (v := v1) (fun _ h => h) rfl (q_load rfl Try.underlying60 rfl (Cell.blk 2 rfl rfl)) ?_
      refine DW.q (v := .int .i64 ((P + 1 : Nat) : Int)) (fun _ h => h) rfl (q_move rfl) ?_
      refine DW.q (v := .pointer (some (Value.at v1 ((P + 1) * 2)))) (fun _ h => h) rfl (q_indexAddr rfl rfl h1.sl Try.underlying60 sz82 (by omega) (by omega) rfl) ?_
      refine DW.q (v := .pointer (some (Value.at v1 ((P + 1) * 2 + 1)))) (fun _ h => h) rfl (q_fieldAddr rfl Try.underlying82 rfl sz3 at_add) ?_
      refine DW.q (v := .int .i64 ((c.getD (P + 1) default).Y)) (fun _ h => h) rfl (q_load rfl Try.underlying3 rfl (Cell.repE (j := 1) h1 (by omega) rfl)) ?_
      refine DW.q (v := .pointer (some (⟨b3, 1, none⟩))) (fun _ h => h) rfl (q_fieldAddr rfl Try.underlying82 rfl sz3 rfl) ?_
      refine DW.q (v := .int .i64 ((c.getD P default).Y)) (fun _ h => h) rfl (q_load rfl Try.underlying3 rfl (Cell.blk 0 rfl rfl)) ?_
      refine DW.q (v := .int .i64 (((c.getD (P + 1) default).Y) - ((c.getD P default).Y))) (fun _ h => h) rfl (q_sub rfl rfl (by omega) (by unfold I64; omega)) ?_
      refine DW.q (v := .tuple #[.int .i64 ((y - ((c.getD P default).Y)) * (((c.getD (P + 1) default).X) - ((c.getD P default).X)) / (((c.getD (P + 1) default).Y) - ((c.getD P default).Y))), .int .i64 ((y - ((c.getD P default).Y)) * (((c.getD (P + 1) default).X) - ((c.getD P default).X)) % (((c.getD (P + 1) default).Y) - ((c.getD P default).Y))), .bool true]) (fun _ h => h) rfl (q_call (args := #[.int .i64 (y - ((c.getD P default).Y)), .int .i64 (((c.getD (P + 1) default).X) - ((c.getD P default).X)), .int .i64 (((c.getD (P + 1) default).Y) - ((c.getD P default).Y))]) own69 rfl rfl (fun w1 hw1 => Scale_c w1 (Go.K.hp w1) (Hp.le_refl _) (by omega) (by omega) (by omega) (by omega))) ?_
      refine DW.q (v := .tuple #[.int .i64 ((y - ((c.getD P default).Y)) * (((c.getD (P + 1) default).X) - ((c.getD P default).X)) / (((c.getD (P + 1) default).Y) - ((c.getD P default).Y))), .int .i64 ((y - ((c.getD P default).Y)) * (((c.getD (P + 1) default).X) - ((c.getD P default).X)) % (((c.getD (P + 1) default).Y) - ((c.getD P default).Y))), .bool true]) (fun _ h => h) rfl (q_move rfl) ?_
      refine DW.q (v := .int .i64 ((y - ((c.getD P default).Y)) * (((c.getD (P + 1) default).X) - ((c.getD P default).X)) / (((c.getD (P + 1) default).Y) - ((c.getD P default).Y)))) (fun _ h => h) rfl (q_extract rfl rfl) ?_
      refine DW.q (v := .int .i64 ((y - ((c.getD P default).Y)) * (((c.getD (P + 1) default).X) - ((c.getD P default).X)) % (((c.getD (P + 1) default).Y) - ((c.getD P default).Y)))) (fun _ h => h) rfl (q_extract rfl rfl) ?_
      refine DW.q (v := .bool true) (fun _ h => h) rfl (q_extract rfl rfl) ?_
      refine DW.q (v := .int .i64 ((y - ((c.getD P default).Y)) * (((c.getD (P + 1) default).X) - ((c.getD P default).X)) / (((c.getD (P + 1) default).Y) - ((c.getD P default).Y)))) (fun _ h => h) rfl (q_assign rfl) ?_
      refine DW.q (v := .int .i64 ((y - ((c.getD P default).Y)) * (((c.getD (P + 1) default).X) - ((c.getD P default).X)) % (((c.getD (P + 1) default).Y) - ((c.getD P default).Y)))) (fun _ h => h) rfl (q_assign rfl) ?_
      refine DW.q (v := .bool true) (fun _ h => h) rfl (q_assign rfl) ?_
      refine DW.nil ?_
      refine Post.then_n ?_
      refine AW.seq ?_
      refine AW.seq ?_
      refine AW.region ?_
      refine RW.q (v := .int .i64 ((y - ((c.getD P default).Y)) * (((c.getD (P + 1) default).X) - ((c.getD P default).X)) % (((c.getD (P + 1) default).Y) - ((c.getD P default).Y)))) rfl (q_move rfl) ?_
      refine RW.q (v := .bool (decide ((0 : Int) < (y - ((c.getD P default).Y)) * (((c.getD (P + 1) default).X) - ((c.getD P default).X)) % (((c.getD (P + 1) default).Y) - ((c.getD P default).Y))))) rfl (q_gtr rfl rfl) ?_
      refine RW.nil ?_
      refine Post.then_n ?_
      refine AW.cond (b := decide ((0 : Int) < (y - ((c.getD P default).Y)) * (((c.getD (P + 1) default).X) - ((c.getD P default).X)) % (((c.getD (P + 1) default).Y) - ((c.getD P default).Y)))) rfl (fun hc3 => ?_) (fun hc3 => ?_)
      · simp [-List.getD_eq_getElem?_getD] at hc3
        refine AW.region ?_
        refine RW.q (v := .int .i64 ((y - ((c.getD P default).Y)) * (((c.getD (P + 1) default).X) - ((c.getD P default).X)) / (((c.getD (P + 1) default).Y) - ((c.getD P default).Y)))) rfl (q_move rfl) ?_
        refine RW.q (v := .int .i64 (((y - ((c.getD P default).Y)) * (((c.getD (P + 1) default).X) - ((c.getD P default).X)) / (((c.getD (P + 1) default).Y) - ((c.getD P default).Y))) + 1)) rfl (q_add rfl rfl (by omega) (by unfold I64; omega)) ?_
        refine RW.q (v := .int .i64 (((y - ((c.getD P default).Y)) * (((c.getD (P + 1) default).X) - ((c.getD P default).X)) / (((c.getD (P + 1) default).Y) - ((c.getD P default).Y))) + 1)) rfl (q_assign rfl) ?_
        refine RW.nil ?_
        refine Post.then_n ?_
        refine AW.seq ?_
        refine AW.region ?_
        refine RW.q (v := .pointer (some (⟨b3, 0, none⟩))) rfl (q_fieldAddr rfl Try.underlying82 rfl sz3 rfl) ?_
        refine RW.q (v := .int .i64 ((c.getD P default).X)) rfl (q_load rfl Try.underlying3 rfl (Cell.blk 0 rfl rfl)) ?_
        refine RW.q (v := .int .i64 (((y - ((c.getD P default).Y)) * (((c.getD (P + 1) default).X) - ((c.getD P default).X)) / (((c.getD (P + 1) default).Y) - ((c.getD P default).Y))) + 1)) rfl (q_move rfl) ?_
        refine RW.q (v := .int .i64 (((c.getD P default).X) + (((y - ((c.getD P default).Y)) * (((c.getD (P + 1) default).X) - ((c.getD P default).X)) / (((c.getD (P + 1) default).Y) - ((c.getD P default).Y))) + 1))) rfl (q_add rfl rfl (by omega) (by unfold I64; omega)) ?_
        refine RW.q (v := .int .i64 (((c.getD P default).X) + (((y - ((c.getD P default).Y)) * (((c.getD (P + 1) default).X) - ((c.getD P default).X)) / (((c.getD (P + 1) default).Y) - ((c.getD P default).Y))) + 1))) rfl (q_assign rfl) ?_
        refine RW.q (v := .bool true) rfl (q_assign rfl) ?_
        refine RW.nil ?_
        refine Post.then_n ?_
        refine AW.ret ?_
        refine fin_out2 (v := .int .i64 (((c.getD P default).X) + (((y - ((c.getD P default).Y)) * (((c.getD (P + 1) default).X) - ((c.getD P default).X)) / (((c.getD (P + 1) default).Y) - ((c.getD P default).Y))) + 1))) (u := .bool true) rfl rfl rfl rfl (fun w' hw => ?_)
        refine ⟨?_, hw.below rfl⟩
        rw [hle]; unfold Fu.up; rw [if_pos (by omega)]; rfl
      · simp [-List.getD_eq_getElem?_getD] at hc3
        refine AW.skip ?_
        refine Post.then_n ?_
        refine AW.seq ?_
        refine AW.region ?_
        refine RW.q (v := .pointer (some (⟨b3, 0, none⟩))) rfl (q_fieldAddr rfl Try.underlying82 rfl sz3 rfl) ?_
        refine RW.q (v := .int .i64 ((c.getD P default).X)) rfl (q_load rfl Try.underlying3 rfl (Cell.blk 0 rfl rfl)) ?_
        refine RW.q (v := .int .i64 ((y - ((c.getD P default).Y)) * (((c.getD (P + 1) default).X) - ((c.getD P default).X)) / (((c.getD (P + 1) default).Y) - ((c.getD P default).Y)))) rfl (q_move rfl) ?_
        refine RW.q (v := .int .i64 (((c.getD P default).X) + ((y - ((c.getD P default).Y)) * (((c.getD (P + 1) default).X) - ((c.getD P default).X)) / (((c.getD (P + 1) default).Y) - ((c.getD P default).Y))))) rfl (q_add rfl rfl (by omega) (by unfold I64; omega)) ?_
        refine RW.q (v := .int .i64 (((c.getD P default).X) + ((y - ((c.getD P default).Y)) * (((c.getD (P + 1) default).X) - ((c.getD P default).X)) / (((c.getD (P + 1) default).Y) - ((c.getD P default).Y))))) rfl (q_assign rfl) ?_
        refine RW.q (v := .bool true) rfl (q_assign rfl) ?_
        refine RW.nil ?_
        refine Post.then_n ?_
        refine AW.ret ?_
        refine fin_out2 (v := .int .i64 (((c.getD P default).X) + ((y - ((c.getD P default).Y)) * (((c.getD (P + 1) default).X) - ((c.getD P default).X)) / (((c.getD (P + 1) default).Y) - ((c.getD P default).Y))))) (u := .bool true) rfl rfl rfl rfl (fun w' hw => ?_)
        refine ⟨?_, hw.below rfl⟩
        rw [hle]; unfold Fu.up; rw [if_neg (by omega), Int.add_zero]; rfl

set_option maxRecDepth 8000 in
set_option maxHeartbeats 1000000 in
theorem rvalue_c (w : World) (Φ : Hp) (hΦ : Hp.le Φ (hp w)) {c : List Bt.Point} {v1 : Value} (h1 : RepSl Φ c v1) (hR : Fu.RightC c) {x : Int} :
    Calls Try.prog 98 #[v1, .int .i64 x] w fun e w' => e = .returned (.tuple #[.int .i64 (Fu.valC c x), .bool (Fu.remC c x)]) ∧ Below w.heap.size w w' := by
  refine calls_of_AW (args := [v1, .int .i64 x]) Try.func98 rfl (Nat.le_of_ble_eq_true rfl) (St ⟨w, Φ, []⟩ Φ []) (StP.init w Φ hΦ []) ?_
  show AW Try.prog 87 [] _ _ _ [(0, v1), (1, .int .i64 x)] _
  have hm1 : c.length * 16 ≤ 140737488355328 := h1.max
  have hl1 := hR.1.1
  refine AW.seq ?_
  refine AW.region ?_
  refine RW.q (v := .int .i64 0) rfl (q_assign rfl) ?_
  refine RW.q (v := .bool false) rfl (q_assign rfl) ?_
  refine RW.nil ?_
  refine Post.then_n ?_
  refine AW.seq ?_
  refine AW.seq ?_
  refine AW.region ?_
  refine RW.q (v := .int .i64 x) rfl (q_move rfl) ?_
  refine RW.q (v := v1) rfl (q_move rfl) ?_
  refine RW.q (v := .pointer (some (Value.at v1 (0 * 2)))) rfl (q_indexAddr rfl rfl h1.sl Try.underlying60 sz82 (by omega) (by omega) rfl) ?_
  refine RW.q (v := .pointer (some (Value.at v1 (0 * 2 + 0)))) rfl (q_fieldAddr rfl Try.underlying82 rfl sz3 at_add) ?_
  refine RW.q (v := .int .i64 ((c.getD 0 default).X)) rfl (q_load rfl Try.underlying3 rfl (Cell.repE (j := 0) h1 (by omega) rfl)) ?_
  refine RW.q (v := .bool (decide (x ≤ (c.getD 0 default).X))) rfl (q_leq rfl rfl) ?_
  refine RW.nil ?_
  refine Post.then_n ?_
  refine AW.cond (b := decide (x ≤ (c.getD 0 default).X)) rfl (fun hc1 => ?_) (fun hc1 => ?_)
  · simp [-List.getD_eq_getElem?_getD] at hc1
    refine AW.seq ?_
    refine AW.region ?_
    refine RW.q (v := v1) rfl (q_move rfl) ?_
    refine RW.q (v := .pointer (some (Value.at v1 (0 * 2)))) rfl (q_indexAddr rfl rfl h1.sl Try.underlying60 sz82 (by omega) (by omega) rfl) ?_
    refine RW.q (v := .pointer (some (Value.at v1 (0 * 2 + 1)))) rfl (q_fieldAddr rfl Try.underlying82 rfl sz3 at_add) ?_
    refine RW.q (v := .int .i64 ((c.getD 0 default).Y)) rfl (q_load rfl Try.underlying3 rfl (Cell.repE (j := 1) h1 (by omega) rfl)) ?_
    refine RW.q (v := .int .i64 ((c.getD 0 default).Y)) rfl (q_assign rfl) ?_
    refine RW.q (v := .bool false) rfl (q_assign rfl) ?_
    refine RW.nil ?_
    refine Post.then_n ?_
    refine AW.ret ?_
    refine Post.then_r ?_
    refine fin_out2 (v := .int .i64 ((c.getD 0 default).Y)) (u := .bool false) rfl rfl rfl rfl (fun w' hw => ?_)
    refine ⟨?_, hw.below rfl⟩
    have h0 : Fu.posX c x = 0 := Fu.posX_is (by omega) (fun _ => by unfold Fu.px; omega) (fun j hj => absurd hj (Nat.not_lt_zero _))
    unfold Fu.valC Fu.remC; rw [if_pos h0, if_pos h0]; rfl
  · simp [-List.getD_eq_getElem?_getD] at hc1
    refine AW.skip ?_
    refine Post.then_n ?_
    refine AW.seq ?_
    refine AW.seq ?_
    refine AW.region ?_
    refine RW.q (v := .int .i64 1) rfl (q_assign rfl) ?_
    refine RW.nil ?_
    refine Post.then_n ?_
    refine AW.block ?_
    refine AW.loop (fun s J m => ∃ (k : Nat), s = [(0, v1), (1, .int .i64 x), (6, .int .i64 (k : Int))] ∧ J = St ⟨w, Φ, []⟩ Φ [] ∧ m = c.length - k ∧ (k ≤ c.length) ∧ (1 ≤ k) ∧ (∀ j, j < k → Fu.px c j < x)) (s0 := _) (J1 := _) (m0 := _) ⟨1, rfl, rfl, rfl, (by omega), (by omega), (fun j hj => by have hj0 : j = 0 := Nat.lt_one_iff.1 hj; subst hj0; unfold Fu.px; exact hc1)⟩ ⟨rfl, rfl, rfl, trivial⟩ (fun _ h => h) ?_
    rintro _ _ _ _ ⟨k, rfl, rfl, rfl, hk, hk1, hlo⟩
    refine AW.seq ?_
    refine AW.seq ?_
    refine AW.region ?_
    refine RW.q (v := .int .i64 (k : Int)) rfl (q_move rfl) ?_
    refine RW.q (v := v1) rfl (q_move rfl) ?_
    refine RW.q (v := .int .i64 ((c.length : Nat) : Int)) rfl (q_len_sl rfl h1.sl Try.underlying60) ?_
    refine RW.q (v := .bool (decide ((k : Int) < ((c.length : Nat) : Int)))) rfl (q_lss rfl rfl) ?_
    refine RW.nil ?_
    refine Post.then_n ?_
    refine AW.cond (b := decide ((k : Int) < ((c.length : Nat) : Int))) rfl (fun hc2 => ?_) (fun hc2 => ?_)
    · simp [-List.getD_eq_getElem?_getD] at hc2
      refine AW.skip ?_
      refine Post.then_n ?_
      refine AW.seq ?_
      refine AW.block ?_
      refine AW.seq ?_
      refine AW.region ?_
      refine RW.q (v := .int .i64 x) rfl (q_move rfl) ?_
      refine RW.q (v := v1) rfl (q_move rfl) ?_
      refine RW.q (v := .int .i64 (k : Int)) rfl (q_move rfl) ?_
      refine RW.q (v := .pointer (some (Value.at v1 (k * 2)))) rfl (q_indexAddr rfl rfl h1.sl Try.underlying60 sz82 (by omega) (by omega) rfl) ?_
      refine RW.q (v := .pointer (some (Value.at v1 (k * 2 + 0)))) rfl (q_fieldAddr rfl Try.underlying82 rfl sz3 at_add) ?_
      refine RW.q (v := .int .i64 ((c.getD k default).X)) rfl (q_load rfl Try.underlying3 rfl (Cell.repE (j := 0) h1 (by omega) rfl)) ?_
      refine RW.q (v := .bool (decide (x ≤ (c.getD k default).X))) rfl (q_leq rfl rfl) ?_
      refine RW.nil ?_
      refine Post.then_n ?_
      refine AW.cond (b := decide (x ≤ (c.getD k default).X)) rfl (fun hc3 => ?_) (fun hc3 => ?_)
      · simp [-List.getD_eq_getElem?_getD] at hc3
        refine AW.seq ?_
        obtain ⟨P, rfl⟩ : ∃ P, k = P + 1 := ⟨k - 1, by omega⟩
        have hpx : Fu.posX c x = P + 1 := Fu.posX_is (by omega) (fun _ => hc3) hlo
        have hlt2 : P + 1 < c.length := by omega
        have s9 := Fu.seg_of hR (show 0 < P + 1 by omega) hlt2
        have w0 := s9.w0; have d0 := s9.d0; have wM := s9.wM; have dM := s9.dM
        have hlP := hlo P (by omega)
        have hmd := Fu.mul_div_rng (k := x - Fu.px c P) (by omega) (show x - Fu.px c P ≤ Fu.px c (P + 1) - Fu.px c P by have : x ≤ Fu.px c (P + 1) := hc3; omega) w0 d0
        have hpt1 := (hR.pt hlt2).1
        have hpt0 := (hR.pt (show P < c.length by omega)).1
        have hpy1 := (hR.pt hlt2).2.1
        have hpy0 := (hR.pt (show P < c.length by omega)).2.1
        simp only [Nat.add_sub_cancel] at w0 d0 wM dM hmd
        have hx2 : x ≤ Fu.px c (P + 1) := hc3
        have hval : Fu.valC c x = Fu.atSeg c (P + 1) x := by unfold Fu.valC; rw [hpx, if_neg (by omega), if_pos hlt2]
        unfold Fu.atSeg at hval
        rw [Nat.add_sub_cancel] at hval
        simp only [Fu.px, Fu.py] at w0 d0 wM dM hmd hlP hpt1 hpt0 hpy1 hpy0 hx2 hval
        refine AW.draw (J0 := St ⟨w, Φ, []⟩ Φ []) [.q, .q, .q, .q, .q, .q, .q, .q, .q, .q, .q, .q, .q, .q, .q, .q, .q, .q, .q, .q, .q, .q, .q, .q, .q, .q, .q, .q, .q, .q, .q, .q, .q, .q, .q, .q, .q, .q, .q, .q] [0, 1, 2, 3, 4, 5, 6, 7, 8, 9, 10, 11, 12, 13, 14, 15, 16, 17, 18, 19, 20, 21, 22, 23, 24, 25, 26, 27, 28, 29, 30, 31, 32, 33, 34, 35, 36, 37, 38, 39] hmix (by kernel_rfl) ?_
        refine DW.q (v := .int .i64 x) (fun _ h => h) rfl (q_move rfl) ?_
        refine DW.q (v := v1) (fun _ h => h) rfl (q_move rfl) ?_
        refine DW.q (v := .int .i64 ((P + 1 : Nat) : Int)) (fun _ h => h) rfl (q_move rfl) ?_
        refine DW.q (v := .int .i64 (P : Int)) (fun _ h => h) rfl (q_as (v := .int .i64 (((P + 1 : Nat) : Int) - 1)) (q_sub rfl rfl (by omega) (by unfold I64; omega)) (congrArg (Value.int .i64) (by omega))) ?_
        refine DW.q (v := .pointer (some (Value.at v1 (P * 2)))) (fun _ h => h) rfl (q_indexAddr rfl rfl h1.sl Try.underlying60 sz82 (by omega) (by omega) rfl) ?_
        refine DW.q (v := .pointer (some (Value.at v1 (P * 2 + 0)))) (fun _ h => h) rfl (q_fieldAddr rfl Try.underlying82 rfl sz3 at_add) ?_
        refine DW.q (v := .int .i64 ((c.getD P default).X)) (fun _ h => h) rfl (q_load rfl Try.underlying3 rfl (Cell.repE (j := 0) h1 (by omega) rfl)) ?_
        refine DW.q (v := .int .i64 (x - ((c.getD P default).X))) (fun _ h => h) rfl (q_sub rfl rfl (by omega) (by unfold I64; omega)) ?_
        refine DW.q (v := v1) (fun _ h => h) rfl (q_move rfl) ?_
        refine DW.q (v := .int .i64 ((P + 1 : Nat) : Int)) (fun _ h => h) rfl (q_move rfl) ?_
        refine DW.q (v := .pointer (some (Value.at v1 ((P + 1) * 2)))) (fun _ h => h) rfl (q_indexAddr rfl rfl h1.sl Try.underlying60 sz82 (by omega) (by omega) rfl) ?_
        refine DW.q (v := .pointer (some (Value.at v1 ((P + 1) * 2 + 1)))) (fun _ h => h) rfl (q_fieldAddr rfl Try.underlying82 rfl sz3 at_add) ?_
        refine DW.q (v := .int .i64 ((c.getD (P + 1) default).Y)) (fun _ h => h) rfl (q_load rfl Try.underlying3 rfl (Cell.repE (j := 1) h1 (by omega) rfl)) ?_
        refine DW.q (v := v1) (fun _ h => h) rfl (q_move rfl) ?_
        refine DW.q (v := .int .i64 ((P + 1 : Nat) : Int)) (fun _ h => h) rfl (q_move rfl) ?_
        refine DW.q (v := .int .i64 (P : Int)) (fun _ h => h) rfl (q_as (v := .int .i64 (((P + 1 : Nat) : Int) - 1)) (q_sub rfl rfl (by omega) (by unfold I64; omega)) (congrArg (Value.int .i64) (by omega))) ?_
        refine DW.q (v := .pointer (some (Value.at v1 (P * 2)))) (fun _ h => h) rfl (q_indexAddr rfl rfl h1.sl Try.underlying60 sz82 (by omega) (by omega) rfl) ?_
        refine DW.q (v := .pointer (some (Value.at v1 (P * 2 + 1)))) (fun _ h => h) rfl (q_fieldAddr rfl Try.underlying82 rfl sz3 at_add) ?_
        refine DW.q (v := .int .i64 ((c.getD P default).Y)) (fun _ h => h) rfl (q_load rfl Try.underlying3 rfl (Cell.repE (j := 1) h1 (by omega) rfl)) ?_
        refine DW.q (v := .int .i64 (((c.getD (P + 1) default).Y) - ((c.getD P default).Y))) (fun _ h => h) rfl (q_sub rfl rfl (by omega) (by unfold I64; omega)) ?_
        refine DW.q (v := v1) (fun _ h => h) rfl (q_move rfl) ?_
        refine DW.q (v := .int .i64 ((P + 1 : Nat) : Int)) (fun _ h => h) rfl (q_move rfl) ?_
        refine DW.q (v := .pointer (some (Value.at v1 ((P + 1) * 2)))) (fun _ h => h) rfl (q_indexAddr rfl rfl h1.sl Try.underlying60 sz82 (by omega) (by omega) rfl) ?_
        refine DW.q (v := .pointer (some (Value.at v1 ((P + 1) * 2 + 0)))) (fun _ h => h) rfl (q_fieldAddr rfl Try.underlying82 rfl sz3 at_add) ?_
        refine DW.q (v := .int .i64 ((c.getD (P + 1) default).X)) (fun _ h => h) rfl (q_load rfl Try.underlying3 rfl (Cell.repE (j := 0) h1 (by omega) rfl)) ?_
        refine DW.q (v := v1) (fun _ h => h) rfl (q_move rfl) ?_
        refine DW.q (v := .int .i64 ((P + 1 : Nat) : Int)) (fun _ h => h) rfl (q_move rfl) ?_
        refine DW.q (v := .int .i64 (P : Int)) (fun _ h => h) rfl (q_as (v := .int .i64 (((P + 1 : Nat) : Int) - 1)) (q_sub rfl rfl (by omega) (by unfold I64; omega)) (congrArg (Value.int .i64) (by omega))) ?_
        refine DW.q (v := .pointer (some (Value.at v1 (P * 2)))) (fun _ h => h) rfl (q_indexAddr rfl rfl h1.sl Try.underlying60 sz82 (by omega) (by omega) rfl) ?_
        refine DW.q (v := .pointer (some (Value.at v1 (P * 2 + 0)))) (fun _ h => h) rfl (q_fieldAddr rfl Try.underlying82 rfl sz3 at_add) ?_
        refine DW.q (v := .int .i64 ((c.getD P default).X)) (fun _ h => h) rfl (q_load rfl Try.underlying3 rfl (Cell.repE (j := 0) h1 (by omega) rfl)) ?_
        refine DW.q (v := .int .i64 (((c.getD (P + 1) default).X) - ((c.getD P default).X))) (fun _ h => h) rfl (q_sub rfl rfl (by omega) (by unfold I64; omega)) ?_
        refine DW.q (v := .tuple #[.int .i64 ((x - ((c.getD P default).X)) * (((c.getD (P + 1) default).Y) - ((c.getD P default).Y)) / (((c.getD (P + 1) default).X) - ((c.getD P default).X))), .int .i64 ((x - ((c.getD P default).X)) * (((c.getD (P + 1) default).Y) - ((c.getD P default).Y)) % (((c.getD (P + 1) default).X) - ((c.getD P default).X))), .bool true]) (fun _ h => h) rfl (q_call (args := #[.int .i64 (x - ((c.getD P default).X)), .int .i64 (((c.getD (P + 1) default).Y) - ((c.getD P default).Y)), .int .i64 (((c.getD (P + 1) default).X) - ((c.getD P default).X))]) own108 rfl rfl (fun w1 hw1 => rScale_c w1 (Go.K.hp w1) (Hp.le_refl _) (by omega) (by omega) (by omega) (by omega))) ?_
        refine DW.q (v := .tuple #[.int .i64 ((x - ((c.getD P default).X)) * (((c.getD (P + 1) default).Y) - ((c.getD P default).Y)) / (((c.getD (P + 1) default).X) - ((c.getD P default).X))), .int .i64 ((x - ((c.getD P default).X)) * (((c.getD (P + 1) default).Y) - ((c.getD P default).Y)) % (((c.getD (P + 1) default).X) - ((c.getD P default).X))), .bool true]) (fun _ h => h) rfl (q_move rfl) ?_
        refine DW.q (v := .int .i64 ((x - ((c.getD P default).X)) * (((c.getD (P + 1) default).Y) - ((c.getD P default).Y)) / (((c.getD (P + 1) default).X) - ((c.getD P default).X)))) (fun _ h => h) rfl (q_extract rfl rfl) ?_
        refine DW.q (v := .int .i64 ((x - ((c.getD P default).X)) * (((c.getD (P + 1) default).Y) - ((c.getD P default).Y)) % (((c.getD (P + 1) default).X) - ((c.getD P default).X)))) (fun _ h => h) rfl (q_extract rfl rfl) ?_
        refine DW.q (v := .bool true) (fun _ h => h) rfl (q_extract rfl rfl) ?_
        refine DW.q (v := .int .i64 ((x - ((c.getD P default).X)) * (((c.getD (P + 1) default).Y) - ((c.getD P default).Y)) / (((c.getD (P + 1) default).X) - ((c.getD P default).X)))) (fun _ h => h) rfl (q_assign rfl) ?_
        refine DW.q (v := .int .i64 ((x - ((c.getD P default).X)) * (((c.getD (P + 1) default).Y) - ((c.getD P default).Y)) % (((c.getD (P + 1) default).X) - ((c.getD P default).X)))) (fun _ h => h) rfl (q_assign rfl) ?_
        refine DW.q (v := .bool true) (fun _ h => h) rfl (q_assign rfl) ?_
        refine DW.nil ?_
        refine Post.then_n ?_
        refine AW.seq ?_
        refine AW.region ?_
        refine RW.q (v := v1) rfl (q_move rfl) ?_
        refine RW.q (v := .int .i64 ((P + 1 : Nat) : Int)) rfl (q_move rfl) ?_
        refine RW.q (v := .int .i64 (P : Int)) rfl (q_as (v := .int .i64 (((P + 1 : Nat) : Int) - 1)) (q_sub rfl rfl (by omega) (by unfold I64; omega)) (congrArg (Value.int .i64) (by omega))) ?_
        refine RW.q (v := .pointer (some (Value.at v1 (P * 2)))) rfl (q_indexAddr rfl rfl h1.sl Try.underlying60 sz82 (by omega) (by omega) rfl) ?_
        refine RW.q (v := .pointer (some (Value.at v1 (P * 2 + 1)))) rfl (q_fieldAddr rfl Try.underlying82 rfl sz3 at_add) ?_
        refine RW.q (v := .int .i64 ((c.getD P default).Y)) rfl (q_load rfl Try.underlying3 rfl (Cell.repE (j := 1) h1 (by omega) rfl)) ?_
        refine RW.q (v := .int .i64 ((x - ((c.getD P default).X)) * (((c.getD (P + 1) default).Y) - ((c.getD P default).Y)) / (((c.getD (P + 1) default).X) - ((c.getD P default).X)))) rfl (q_move rfl) ?_
        refine RW.q (v := .int .i64 (((c.getD P default).Y) + ((x - ((c.getD P default).X)) * (((c.getD (P + 1) default).Y) - ((c.getD P default).Y)) / (((c.getD (P + 1) default).X) - ((c.getD P default).X))))) rfl (q_add rfl rfl (by omega) (by unfold I64; omega)) ?_
        refine RW.q (v := .int .i64 ((x - ((c.getD P default).X)) * (((c.getD (P + 1) default).Y) - ((c.getD P default).Y)) % (((c.getD (P + 1) default).X) - ((c.getD P default).X)))) rfl (q_move rfl) ?_
        refine RW.q (v := .bool (decide ((0 : Int) < (x - ((c.getD P default).X)) * (((c.getD (P + 1) default).Y) - ((c.getD P default).Y)) % (((c.getD (P + 1) default).X) - ((c.getD P default).X))))) rfl (q_gtr rfl rfl) ?_
        refine RW.q (v := .int .i64 (((c.getD P default).Y) + ((x - ((c.getD P default).X)) * (((c.getD (P + 1) default).Y) - ((c.getD P default).Y)) / (((c.getD (P + 1) default).X) - ((c.getD P default).X))))) rfl (q_assign rfl) ?_
        refine RW.q (v := .bool (decide ((0 : Int) < (x - ((c.getD P default).X)) * (((c.getD (P + 1) default).Y) - ((c.getD P default).Y)) % (((c.getD (P + 1) default).X) - ((c.getD P default).X))))) rfl (q_assign rfl) ?_
        refine RW.nil ?_
        refine Post.then_n ?_
        refine AW.ret ?_
        refine Post.blk_r (Post.then_r (Post.then_r (Post.blk_r (Post.then_r ?_))))
        refine fin_out2 (v := .int .i64 (((c.getD P default).Y) + ((x - ((c.getD P default).X)) * (((c.getD (P + 1) default).Y) - ((c.getD P default).Y)) / (((c.getD (P + 1) default).X) - ((c.getD P default).X))))) (u := .bool (decide ((0 : Int) < (x - ((c.getD P default).X)) * (((c.getD (P + 1) default).Y) - ((c.getD P default).Y)) % (((c.getD (P + 1) default).X) - ((c.getD P default).X))))) rfl rfl rfl rfl (fun w' hw => ?_)
        refine ⟨?_, hw.below rfl⟩
        have hrem : Fu.remC c x = decide (0 < (x - (c.getD P default).X) * ((c.getD (P + 1) default).Y - (c.getD P default).Y) % ((c.getD (P + 1) default).X - (c.getD P default).X)) := by unfold Fu.remC; rw [hpx, if_neg (by omega), if_pos hlt2, Nat.add_sub_cancel]; rfl
        rw [hval, hrem]
      · simp [-List.getD_eq_getElem?_getD] at hc3
        refine AW.skip ?_
        refine Post.blk_n (Post.then_n ?_)
        refine AW.region ?_
        refine RW.q (v := .int .i64 (k : Int)) rfl (q_move rfl) ?_
        refine RW.q (v := .int .i64 ((k + 1 : Nat) : Int)) rfl (q_add rfl rfl (by omega) (by unfold I64; omega)) ?_
        refine RW.q (v := .int .i64 ((k + 1 : Nat) : Int)) rfl (q_assign rfl) ?_
        refine RW.nil ?_
        exact Post.back (s' := _) (J' := _) (m' := _) (by omega) ⟨k + 1, rfl, rfl, rfl, (by omega), (by omega), (Fu.lt_succ hlo (by unfold Fu.px; omega))⟩ ⟨rfl, rfl, rfl, trivial⟩ (fun _ h => h)
    · simp [-List.getD_eq_getElem?_getD] at hc2
      refine AW.exit ?_
      refine Post.then_x (Post.then_x (Post.blk_hit (Post.then_n ?_)))
      refine AW.seq ?_
      refine AW.region ?_
      refine RW.q (v := v1) rfl (q_move rfl) ?_
      refine RW.q (v := v1) rfl (q_move rfl) ?_
      refine RW.q (v := .int .i64 ((c.length : Nat) : Int)) rfl (q_len_sl rfl h1.sl Try.underlying60) ?_
      refine RW.q (v := .int .i64 (((c.length : Nat) : Int) - 1)) rfl (q_sub rfl rfl (by omega) (by unfold I64; omega)) ?_
      refine RW.q (v := .pointer (some (Value.at v1 (((((c.length : Nat) : Int) - 1).toNat) * 2)))) rfl (q_indexAddr rfl rfl h1.sl Try.underlying60 sz82 (by omega) (by omega) rfl) ?_
      refine RW.q (v := .pointer (some (Value.at v1 (((((c.length : Nat) : Int) - 1).toNat) * 2 + 1)))) rfl (q_fieldAddr rfl Try.underlying82 rfl sz3 at_add) ?_
      refine RW.q (v := .int .i64 ((c.getD ((((c.length : Nat) : Int) - 1).toNat) default).Y)) rfl (q_load rfl Try.underlying3 rfl (Cell.repE (j := 1) h1 (by omega) rfl)) ?_
      refine RW.q (v := .int .i64 ((c.getD ((((c.length : Nat) : Int) - 1).toNat) default).Y)) rfl (q_assign rfl) ?_
      refine RW.q (v := .bool false) rfl (q_assign rfl) ?_
      refine RW.nil ?_
      refine Post.then_n ?_
      refine AW.ret ?_
      refine fin_out2 (v := .int .i64 ((c.getD ((((c.length : Nat) : Int) - 1).toNat) default).Y)) (u := .bool false) rfl rfl rfl rfl (fun w' hw => ?_)
      refine ⟨?_, hw.below rfl⟩
      have h0 : Fu.posX c x = c.length := Fu.posX_is (by omega) (fun hh => by omega) (fun j hj => hlo j (by omega))
      unfold Fu.valC Fu.remC; rw [h0, if_neg (by omega), if_neg (by omega), if_neg (by omega), if_neg (by omega)]
      unfold Fu.py; rw [show (((c.length : Nat) : Int) - 1).toNat = c.length - 1 by omega]

end Go.Proofs.Ytblfeidlnhdekaa
