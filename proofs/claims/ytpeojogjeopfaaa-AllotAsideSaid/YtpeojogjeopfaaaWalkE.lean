/- Walks (part WalkE), printed by walk2.py. Conditions: those of each theorem. -/
import Derived.Test.YtpeojogjeopfaaaWalkD
import Derived.Test.YtpeojogjeopfaaaCore3
namespace Go.Proofs.Ytpeojogjeopfaaa
open Go Go.K Go.RowKit

theorem own52 : Own Try.prog 52 := own_of (by kernel_rfl)
set_option maxRecDepth 8000 in
set_option maxHeartbeats 1000000 in
theorem Mul64_c (w : World) (Φ : Hp) (hΦ : Hp.le Φ (hp w)) {x y : Nat} (hx : x < 18446744073709551616) (hy : y < 18446744073709551616) (hp : x * y < 18446744073709551616) :
    Calls Try.prog 51 #[.int .u64 (x : Int), .int .u64 (y : Int)] w fun e w' => e = .returned (.tuple #[.int .u64 0, .int .u64 ((x * y : Nat) : Int)]) ∧ Below w.heap.size w w' := by
  refine calls_of_AW (args := [.int .u64 ((x : Nat) : Int), .int .u64 ((y : Nat) : Int)]) Try.func51 rfl (Nat.le_of_ble_eq_true rfl) (St ⟨w, Φ, []⟩ Φ []) (StP.init w Φ hΦ []) ?_
  show AW Try.prog 51 [] _ _ _ [(0, .int .u64 ((x : Nat) : Int)), (1, .int .u64 ((y : Nat) : Int))] _
  obtain ⟨bd, bt, bw, hhi⟩ := Lib.mul64_hi x y hx hy
  have ba := Lib.half_mul_le (a := x / 4294967296) (b := y / 4294967296) (by omega) (by omega)
  have bb := Lib.half_mul_le (a := x / 4294967296) (b := y % 4294967296) (by omega) (by omega)
  have bc := Lib.half_mul_le (a := x % 4294967296) (b := y / 4294967296) (by omega) (by omega)
  have h0 : x * y / 18446744073709551616 = 0 := by omega
  refine AW.seq ?_
  refine AW.region ?_
  refine RW.q (v := .int .u64 ((0 : Nat) : Int)) rfl (q_assign rfl) ?_
  refine RW.q (v := .int .u64 ((0 : Nat) : Int)) rfl (q_assign rfl) ?_
  refine RW.nil ?_
  refine Post.then_n ?_
  refine AW.seq ?_
  refine AW.region ?_
  refine RW.q (v := .int .u64 ((x : Nat) : Int)) rfl (q_move rfl) ?_
  refine RW.q (v := .int .u64 ((x % 4294967296 : Nat) : Int)) rfl (q_maskU (a := x) rfl rfl (by omega)) ?_
  refine RW.q (v := .int .u64 ((x % 4294967296 : Nat) : Int)) rfl (q_assign rfl) ?_
  refine RW.nil ?_
  refine Post.then_n ?_
  refine AW.seq ?_
  refine AW.region ?_
  refine RW.q (v := .int .u64 ((x : Nat) : Int)) rfl (q_move rfl) ?_
  refine RW.q (v := .int .u64 ((x / 4294967296 : Nat) : Int)) rfl (q_shr32U (a := x) rfl rfl) ?_
  refine RW.q (v := .int .u64 ((x / 4294967296 : Nat) : Int)) rfl (q_assign rfl) ?_
  refine RW.nil ?_
  refine Post.then_n ?_
  refine AW.seq ?_
  refine AW.region ?_
  refine RW.q (v := .int .u64 ((y : Nat) : Int)) rfl (q_move rfl) ?_
  refine RW.q (v := .int .u64 ((y % 4294967296 : Nat) : Int)) rfl (q_maskU (a := y) rfl rfl (by omega)) ?_
  refine RW.q (v := .int .u64 ((y % 4294967296 : Nat) : Int)) rfl (q_assign rfl) ?_
  refine RW.nil ?_
  refine Post.then_n ?_
  refine AW.seq ?_
  refine AW.region ?_
  refine RW.q (v := .int .u64 ((y : Nat) : Int)) rfl (q_move rfl) ?_
  refine RW.q (v := .int .u64 ((y / 4294967296 : Nat) : Int)) rfl (q_shr32U (a := y) rfl rfl) ?_
  refine RW.q (v := .int .u64 ((y / 4294967296 : Nat) : Int)) rfl (q_assign rfl) ?_
  refine RW.nil ?_
  refine Post.then_n ?_
  refine AW.seq ?_
  refine AW.region ?_
  refine RW.q (v := .int .u64 ((x % 4294967296 : Nat) : Int)) rfl (q_move rfl) ?_
  refine RW.q (v := .int .u64 ((y % 4294967296 : Nat) : Int)) rfl (q_move rfl) ?_
  refine RW.q (v := .int .u64 (((x % 4294967296) * (y % 4294967296) : Nat) : Int)) rfl (q_mulU (a := (x % 4294967296)) (b := (y % 4294967296)) rfl rfl (Nat.mod_eq_of_lt (by omega))) ?_
  refine RW.q (v := .int .u64 (((x % 4294967296) * (y % 4294967296) : Nat) : Int)) rfl (q_assign rfl) ?_
  refine RW.nil ?_
  refine Post.then_n ?_
  refine AW.seq ?_
  refine AW.region ?_
  refine RW.q (v := .int .u64 ((x / 4294967296 : Nat) : Int)) rfl (q_move rfl) ?_
  refine RW.q (v := .int .u64 ((y % 4294967296 : Nat) : Int)) rfl (q_move rfl) ?_
  refine RW.q (v := .int .u64 (((x / 4294967296) * (y % 4294967296) : Nat) : Int)) rfl (q_mulU (a := (x / 4294967296)) (b := (y % 4294967296)) rfl rfl (Nat.mod_eq_of_lt (by omega))) ?_
  refine RW.q (v := .int .u64 (((x % 4294967296) * (y % 4294967296) : Nat) : Int)) rfl (q_move rfl) ?_
  refine RW.q (v := .int .u64 ((((x % 4294967296) * (y % 4294967296)) / 4294967296 : Nat) : Int)) rfl (q_shr32U (a := ((x % 4294967296) * (y % 4294967296))) rfl rfl) ?_
  refine RW.q (v := .int .u64 ((((x / 4294967296) * (y % 4294967296)) + (((x % 4294967296) * (y % 4294967296)) / 4294967296) : Nat) : Int)) rfl (q_addU (a := ((x / 4294967296) * (y % 4294967296))) (b := (((x % 4294967296) * (y % 4294967296)) / 4294967296)) rfl rfl (Nat.mod_eq_of_lt (by omega))) ?_
  refine RW.q (v := .int .u64 ((((x / 4294967296) * (y % 4294967296)) + (((x % 4294967296) * (y % 4294967296)) / 4294967296) : Nat) : Int)) rfl (q_assign rfl) ?_
  refine RW.nil ?_
  refine Post.then_n ?_
  refine AW.seq ?_
  refine AW.region ?_
  refine RW.q (v := .int .u64 ((((x / 4294967296) * (y % 4294967296)) + (((x % 4294967296) * (y % 4294967296)) / 4294967296) : Nat) : Int)) rfl (q_move rfl) ?_
  refine RW.q (v := .int .u64 (((((x / 4294967296) * (y % 4294967296)) + (((x % 4294967296) * (y % 4294967296)) / 4294967296)) % 4294967296 : Nat) : Int)) rfl (q_maskU (a := (((x / 4294967296) * (y % 4294967296)) + (((x % 4294967296) * (y % 4294967296)) / 4294967296))) rfl rfl (by omega)) ?_
  refine RW.q (v := .int .u64 (((((x / 4294967296) * (y % 4294967296)) + (((x % 4294967296) * (y % 4294967296)) / 4294967296)) % 4294967296 : Nat) : Int)) rfl (q_assign rfl) ?_
  refine RW.nil ?_
  refine Post.then_n ?_
  refine AW.seq ?_
  refine AW.region ?_
  refine RW.q (v := .int .u64 ((((x / 4294967296) * (y % 4294967296)) + (((x % 4294967296) * (y % 4294967296)) / 4294967296) : Nat) : Int)) rfl (q_move rfl) ?_
  refine RW.q (v := .int .u64 (((((x / 4294967296) * (y % 4294967296)) + (((x % 4294967296) * (y % 4294967296)) / 4294967296)) / 4294967296 : Nat) : Int)) rfl (q_shr32U (a := (((x / 4294967296) * (y % 4294967296)) + (((x % 4294967296) * (y % 4294967296)) / 4294967296))) rfl rfl) ?_
  refine RW.q (v := .int .u64 (((((x / 4294967296) * (y % 4294967296)) + (((x % 4294967296) * (y % 4294967296)) / 4294967296)) / 4294967296 : Nat) : Int)) rfl (q_assign rfl) ?_
  refine RW.nil ?_
  refine Post.then_n ?_
  refine AW.seq ?_
  refine AW.region ?_
  refine RW.q (v := .int .u64 (((((x / 4294967296) * (y % 4294967296)) + (((x % 4294967296) * (y % 4294967296)) / 4294967296)) % 4294967296 : Nat) : Int)) rfl (q_move rfl) ?_
  refine RW.q (v := .int .u64 ((x % 4294967296 : Nat) : Int)) rfl (q_move rfl) ?_
  refine RW.q (v := .int .u64 ((y / 4294967296 : Nat) : Int)) rfl (q_move rfl) ?_
  refine RW.q (v := .int .u64 (((x % 4294967296) * (y / 4294967296) : Nat) : Int)) rfl (q_mulU (a := (x % 4294967296)) (b := (y / 4294967296)) rfl rfl (Nat.mod_eq_of_lt (by omega))) ?_
  refine RW.q (v := .int .u64 ((((((x / 4294967296) * (y % 4294967296)) + (((x % 4294967296) * (y % 4294967296)) / 4294967296)) % 4294967296) + ((x % 4294967296) * (y / 4294967296)) : Nat) : Int)) rfl (q_addU (a := ((((x / 4294967296) * (y % 4294967296)) + (((x % 4294967296) * (y % 4294967296)) / 4294967296)) % 4294967296)) (b := ((x % 4294967296) * (y / 4294967296))) rfl rfl (Nat.mod_eq_of_lt (by omega))) ?_
  refine RW.q (v := .int .u64 ((((((x / 4294967296) * (y % 4294967296)) + (((x % 4294967296) * (y % 4294967296)) / 4294967296)) % 4294967296) + ((x % 4294967296) * (y / 4294967296)) : Nat) : Int)) rfl (q_assign rfl) ?_
  refine RW.nil ?_
  refine Post.then_n ?_
  refine AW.seq ?_
  refine AW.region ?_
  refine RW.q (v := .int .u64 ((x / 4294967296 : Nat) : Int)) rfl (q_move rfl) ?_
  refine RW.q (v := .int .u64 ((y / 4294967296 : Nat) : Int)) rfl (q_move rfl) ?_
  refine RW.q (v := .int .u64 (((x / 4294967296) * (y / 4294967296) : Nat) : Int)) rfl (q_mulU (a := (x / 4294967296)) (b := (y / 4294967296)) rfl rfl (Nat.mod_eq_of_lt (by omega))) ?_
  refine RW.q (v := .int .u64 (((((x / 4294967296) * (y % 4294967296)) + (((x % 4294967296) * (y % 4294967296)) / 4294967296)) / 4294967296 : Nat) : Int)) rfl (q_move rfl) ?_
  refine RW.q (v := .int .u64 ((((x / 4294967296) * (y / 4294967296)) + ((((x / 4294967296) * (y % 4294967296)) + (((x % 4294967296) * (y % 4294967296)) / 4294967296)) / 4294967296) : Nat) : Int)) rfl (q_addU (a := ((x / 4294967296) * (y / 4294967296))) (b := ((((x / 4294967296) * (y % 4294967296)) + (((x % 4294967296) * (y % 4294967296)) / 4294967296)) / 4294967296)) rfl rfl (Nat.mod_eq_of_lt (by omega))) ?_
  refine RW.q (v := .int .u64 ((((((x / 4294967296) * (y % 4294967296)) + (((x % 4294967296) * (y % 4294967296)) / 4294967296)) % 4294967296) + ((x % 4294967296) * (y / 4294967296)) : Nat) : Int)) rfl (q_move rfl) ?_
  refine RW.q (v := .int .u64 (((((((x / 4294967296) * (y % 4294967296)) + (((x % 4294967296) * (y % 4294967296)) / 4294967296)) % 4294967296) + ((x % 4294967296) * (y / 4294967296))) / 4294967296 : Nat) : Int)) rfl (q_shr32U (a := (((((x / 4294967296) * (y % 4294967296)) + (((x % 4294967296) * (y % 4294967296)) / 4294967296)) % 4294967296) + ((x % 4294967296) * (y / 4294967296)))) rfl rfl) ?_
  refine RW.q (v := .int .u64 (((((x / 4294967296) * (y / 4294967296)) + ((((x / 4294967296) * (y % 4294967296)) + (((x % 4294967296) * (y % 4294967296)) / 4294967296)) / 4294967296)) + ((((((x / 4294967296) * (y % 4294967296)) + (((x % 4294967296) * (y % 4294967296)) / 4294967296)) % 4294967296) + ((x % 4294967296) * (y / 4294967296))) / 4294967296) : Nat) : Int)) rfl (q_addU (a := (((x / 4294967296) * (y / 4294967296)) + ((((x / 4294967296) * (y % 4294967296)) + (((x % 4294967296) * (y % 4294967296)) / 4294967296)) / 4294967296))) (b := ((((((x / 4294967296) * (y % 4294967296)) + (((x % 4294967296) * (y % 4294967296)) / 4294967296)) % 4294967296) + ((x % 4294967296) * (y / 4294967296))) / 4294967296)) rfl rfl (Nat.mod_eq_of_lt (by omega))) ?_
  refine RW.q (v := .int .u64 (((((x / 4294967296) * (y / 4294967296)) + ((((x / 4294967296) * (y % 4294967296)) + (((x % 4294967296) * (y % 4294967296)) / 4294967296)) / 4294967296)) + ((((((x / 4294967296) * (y % 4294967296)) + (((x % 4294967296) * (y % 4294967296)) / 4294967296)) % 4294967296) + ((x % 4294967296) * (y / 4294967296))) / 4294967296) : Nat) : Int)) rfl (q_assign rfl) ?_
  refine RW.nil ?_
  refine Post.then_n ?_
  refine AW.seq ?_
  refine AW.region ?_
  refine RW.q (v := .int .u64 ((x : Nat) : Int)) rfl (q_move rfl) ?_
  refine RW.q (v := .int .u64 ((y : Nat) : Int)) rfl (q_move rfl) ?_
  refine RW.q (v := .int .u64 ((x * y : Nat) : Int)) rfl (q_mulU (a := x) (b := y) rfl rfl (Nat.mod_eq_of_lt (by omega))) ?_
  refine RW.q (v := .int .u64 ((x * y : Nat) : Int)) rfl (q_assign rfl) ?_
  refine RW.nil ?_
  refine Post.then_n ?_
  refine AW.ret ?_
  refine fin_out2 (v := .int .u64 0) (u := .int .u64 ((x * y : Nat) : Int)) rfl rfl ?_ rfl (fun w' hw => ⟨rfl, hw.below rfl⟩)
  show Value.int .u64 ((_ : Nat) : Int) = _
  rw [hhi, h0]
  rfl

set_option maxRecDepth 8000 in
set_option maxHeartbeats 1000000 in
theorem Div64_c (w : World) (Φ : Hp) (hΦ : Hp.le Φ (hp w)) {x y : Nat} (hx : x < 18446744073709551616) (hy : 0 < y) :
    Calls Try.prog 52 #[.int .u64 ((0 : Nat) : Int), .int .u64 (x : Int), .int .u64 (y : Int)] w fun e w' => e = .returned (.tuple #[.int .u64 ((x / y : Nat) : Int), .int .u64 ((x % y : Nat) : Int)]) ∧ Below w.heap.size w w' := by
  refine calls_of_AW (args := [.int .u64 ((0 : Nat) : Int), .int .u64 ((x : Nat) : Int), .int .u64 ((y : Nat) : Int)]) Try.func52 rfl (Nat.le_of_ble_eq_true rfl) (St ⟨w, Φ, []⟩ Φ []) (StP.init w Φ hΦ []) ?_
  show AW Try.prog 135 [] _ _ _ [(0, .int .u64 ((0 : Nat) : Int)), (1, .int .u64 ((x : Nat) : Int)), (2, .int .u64 ((y : Nat) : Int))] _
  refine AW.seq ?_
  refine AW.region ?_
  refine RW.q (v := .int .u64 ((0 : Nat) : Int)) rfl (q_assign rfl) ?_
  refine RW.q (v := .int .u64 ((0 : Nat) : Int)) rfl (q_assign rfl) ?_
  refine RW.nil ?_
  refine Post.then_n ?_
  refine AW.seq ?_
  refine AW.seq ?_
  refine AW.region ?_
  refine RW.q (v := .int .u64 ((y : Nat) : Int)) rfl (q_move rfl) ?_
  refine RW.q (v := .bool (decide (((y : Nat) : Int) = ((0 : Nat) : Int)))) rfl (q_eql rfl rfl) ?_
  refine RW.nil ?_
  refine Post.then_n ?_
  refine AW.cond (b := decide (((y : Nat) : Int) = ((0 : Nat) : Int))) rfl (fun hc1 => ?_) (fun hc1 => ?_)
  · simp [-List.getD_eq_getElem?_getD] at hc1
    (try omega)
  · simp [-List.getD_eq_getElem?_getD] at hc1
    refine AW.skip ?_
    refine Post.then_n ?_
    refine AW.seq ?_
    refine AW.seq ?_
    refine AW.region ?_
    refine RW.q (v := .int .u64 ((y : Nat) : Int)) rfl (q_move rfl) ?_
    refine RW.q (v := .int .u64 ((0 : Nat) : Int)) rfl (q_move rfl) ?_
    refine RW.q (v := .bool (decide (((y : Nat) : Int) ≤ ((0 : Nat) : Int)))) rfl (q_leq rfl rfl) ?_
    refine RW.nil ?_
    refine Post.then_n ?_
    refine AW.cond (b := decide (((y : Nat) : Int) ≤ ((0 : Nat) : Int))) rfl (fun hc2 => ?_) (fun hc2 => ?_)
    · simp [-List.getD_eq_getElem?_getD] at hc2
      (try omega)
    · simp [-List.getD_eq_getElem?_getD] at hc2
      refine AW.skip ?_
      refine Post.then_n ?_
      refine AW.seq ?_
      refine AW.seq ?_
      refine AW.region ?_
      refine RW.q (v := .int .u64 ((0 : Nat) : Int)) rfl (q_move rfl) ?_
      refine RW.q (v := .bool (decide (((0 : Nat) : Int) = ((0 : Nat) : Int)))) rfl (q_eql rfl rfl) ?_
      refine RW.nil ?_
      refine Post.then_n ?_
      refine AW.cond (b := decide (((0 : Nat) : Int) = ((0 : Nat) : Int))) rfl (fun hc3 => ?_) (fun hc3 => ?_)
      · simp [-List.getD_eq_getElem?_getD] at hc3
        refine AW.seq ?_
        refine AW.draw (J0 := St ⟨w, Φ, []⟩ Φ []) [.q, .q, .q, .q, .q, .q, .q, .q] [0, 1, 2, 3, 4, 5, 6, 7] hmix (by kernel_rfl) ?_
        refine DW.q (v := .int .u64 ((x : Nat) : Int)) (fun _ h => h) rfl (q_move rfl) ?_
        refine DW.q (v := .int .u64 ((y : Nat) : Int)) (fun _ h => h) rfl (q_move rfl) ?_
        refine DW.q (v := .int .u64 ((x / y : Nat) : Int)) (fun _ h => h) rfl (q_quoU (a := x) (b := y) rfl rfl (by omega) (by omega)) ?_
        refine DW.q (v := .int .u64 ((x : Nat) : Int)) (fun _ h => h) rfl (q_move rfl) ?_
        refine DW.q (v := .int .u64 ((y : Nat) : Int)) (fun _ h => h) rfl (q_move rfl) ?_
        refine DW.q (v := .int .u64 ((x % y : Nat) : Int)) (fun _ h => h) rfl (q_remU (a := x) (b := y) rfl rfl (by omega)) ?_
        refine DW.q (v := .int .u64 ((x / y : Nat) : Int)) (fun _ h => h) rfl (q_assign rfl) ?_
        refine DW.q (v := .int .u64 ((x % y : Nat) : Int)) (fun _ h => h) rfl (q_assign rfl) ?_
        refine DW.nil ?_
        refine Post.then_n ?_
        refine AW.ret ?_
        refine Post.then_r ?_
        exact fin_out2 rfl rfl rfl rfl (fun w' hw => ⟨rfl, hw.below rfl⟩)
      · simp [-List.getD_eq_getElem?_getD] at hc3

set_option maxRecDepth 8000 in
set_option maxHeartbeats 1000000 in
theorem Scale_c (w : World) (Φ : Hp) (hΦ : Hp.le Φ (hp w)) {x k d : Int} (hx : 0 ≤ x ∧ x ≤ Al.maxV) (hk : 0 ≤ k ∧ k ≤ Al.maxV) (hd : 1 ≤ d ∧ d ≤ Al.maxV) (hp : x * k ≤ 1152921504606846975) (hq : x * k / d ≤ Al.maxV) :
    Calls Try.prog 30 #[.int .i64 x, .int .i64 k, .int .i64 d] w fun e w' => e = .returned (.tuple #[.int .i64 (x * k / d), .int .i64 (x * k % d), .bool true]) ∧ Below w.heap.size w w' := by
  refine calls_of_AW (args := [.int .i64 x, .int .i64 k, .int .i64 d]) Try.func30 rfl (Nat.le_of_ble_eq_true rfl) (St ⟨w, Φ, []⟩ Φ []) (StP.init w Φ hΦ []) ?_
  show AW Try.prog 61 [] _ _ _ [(0, .int .i64 x), (1, .int .i64 k), (2, .int .i64 d)] _
  unfold Al.maxV at *
  have hpn : ((x.toNat * k.toNat : Nat) : Int) = x * k := by rw [Int.natCast_mul, Int.toNat_of_nonneg hx.1, Int.toNat_of_nonneg hk.1]
  have hpl : x.toNat * k.toNat < 18446744073709551616 := by omega
  have hqn : ((x.toNat * k.toNat / d.toNat : Nat) : Int) = x * k / d := by rw [Int.natCast_ediv, hpn, Int.toNat_of_nonneg (by omega)]
  have hrn : ((x.toNat * k.toNat % d.toNat : Nat) : Int) = x * k % d := by rw [Int.natCast_emod, hpn, Int.toNat_of_nonneg (by omega)]
  have hrl : x.toNat * k.toNat % d.toNat < d.toNat := Nat.mod_lt _ (by omega)
  refine AW.seq ?_
  refine AW.region ?_
  refine RW.q (v := .int .i64 0) rfl (q_assign rfl) ?_
  refine RW.q (v := .int .i64 0) rfl (q_assign rfl) ?_
  refine RW.q (v := .bool false) rfl (q_assign rfl) ?_
  refine RW.nil ?_
  refine Post.then_n ?_
  refine AW.seq ?_
  refine AW.seq ?_
  refine AW.region ?_
  refine RW.q (v := .int .i64 x) rfl (q_move rfl) ?_
  refine RW.q (v := .bool (decide (x < 0))) rfl (q_lss rfl rfl) ?_
  refine RW.q (v := .bool (decide (x < 0))) rfl (q_move rfl) ?_
  refine RW.g (b := (decide (x < 0))) (v := .int .i64 x) rfl rfl rfl (fun h => q_move rfl) ?_
  refine RW.g (b := (decide (x < 0))) (v := .bool (decide ((1125899906842624 : Int) < x))) rfl rfl rfl (fun h => q_gtr (gv_pos h) rfl) ?_
  refine RW.q (v := .bool ((decide (x < 0)) || (decide ((1125899906842624 : Int) < x)))) rfl (q_pick rfl (fun hp => pkOrT hp) (fun hp => (gv_pos hp).trans (pkOrF hp))) ?_
  refine RW.q (v := .bool ((decide (x < 0)) || (decide ((1125899906842624 : Int) < x)))) rfl (q_move rfl) ?_
  refine RW.g (b := ((decide (x < 0)) || (decide ((1125899906842624 : Int) < x)))) (v := .int .i64 k) rfl rfl rfl (fun h => q_move rfl) ?_
  refine RW.g (b := ((decide (x < 0)) || (decide ((1125899906842624 : Int) < x)))) (v := .bool (decide (k < 0))) rfl rfl rfl (fun h => q_lss (gv_pos h) rfl) ?_
  refine RW.q (v := .bool (((decide (x < 0)) || (decide ((1125899906842624 : Int) < x))) || (decide (k < 0)))) rfl (q_pick rfl (fun hp => pkOrT hp) (fun hp => (gv_pos hp).trans (pkOrF hp))) ?_
  refine RW.q (v := .bool (((decide (x < 0)) || (decide ((1125899906842624 : Int) < x))) || (decide (k < 0)))) rfl (q_move rfl) ?_
  refine RW.g (b := (((decide (x < 0)) || (decide ((1125899906842624 : Int) < x))) || (decide (k < 0)))) (v := .int .i64 k) rfl rfl rfl (fun h => q_move rfl) ?_
  refine RW.g (b := (((decide (x < 0)) || (decide ((1125899906842624 : Int) < x))) || (decide (k < 0)))) (v := .bool (decide ((1125899906842624 : Int) < k))) rfl rfl rfl (fun h => q_gtr (gv_pos h) rfl) ?_
  refine RW.q (v := .bool ((((decide (x < 0)) || (decide ((1125899906842624 : Int) < x))) || (decide (k < 0))) || (decide ((1125899906842624 : Int) < k)))) rfl (q_pick rfl (fun hp => pkOrT hp) (fun hp => (gv_pos hp).trans (pkOrF hp))) ?_
  refine RW.q (v := .bool ((((decide (x < 0)) || (decide ((1125899906842624 : Int) < x))) || (decide (k < 0))) || (decide ((1125899906842624 : Int) < k)))) rfl (q_move rfl) ?_
  refine RW.g (b := ((((decide (x < 0)) || (decide ((1125899906842624 : Int) < x))) || (decide (k < 0))) || (decide ((1125899906842624 : Int) < k)))) (v := .int .i64 d) rfl rfl rfl (fun h => q_move rfl) ?_
  refine RW.g (b := ((((decide (x < 0)) || (decide ((1125899906842624 : Int) < x))) || (decide (k < 0))) || (decide ((1125899906842624 : Int) < k)))) (v := .bool (decide (d < 1))) rfl rfl rfl (fun h => q_lss (gv_pos h) rfl) ?_
  refine RW.q (v := .bool (((((decide (x < 0)) || (decide ((1125899906842624 : Int) < x))) || (decide (k < 0))) || (decide ((1125899906842624 : Int) < k))) || (decide (d < 1)))) rfl (q_pick rfl (fun hp => pkOrT hp) (fun hp => (gv_pos hp).trans (pkOrF hp))) ?_
  refine RW.q (v := .bool (((((decide (x < 0)) || (decide ((1125899906842624 : Int) < x))) || (decide (k < 0))) || (decide ((1125899906842624 : Int) < k))) || (decide (d < 1)))) rfl (q_move rfl) ?_
  refine RW.g (b := (((((decide (x < 0)) || (decide ((1125899906842624 : Int) < x))) || (decide (k < 0))) || (decide ((1125899906842624 : Int) < k))) || (decide (d < 1)))) (v := .int .i64 d) rfl rfl rfl (fun h => q_move rfl) ?_
  refine RW.g (b := (((((decide (x < 0)) || (decide ((1125899906842624 : Int) < x))) || (decide (k < 0))) || (decide ((1125899906842624 : Int) < k))) || (decide (d < 1)))) (v := .bool (decide ((1125899906842624 : Int) < d))) rfl rfl rfl (fun h => q_gtr (gv_pos h) rfl) ?_
  refine RW.q (v := .bool ((((((decide (x < 0)) || (decide ((1125899906842624 : Int) < x))) || (decide (k < 0))) || (decide ((1125899906842624 : Int) < k))) || (decide (d < 1))) || (decide ((1125899906842624 : Int) < d)))) rfl (q_pick rfl (fun hp => pkOrT hp) (fun hp => (gv_pos hp).trans (pkOrF hp))) ?_
  refine RW.nil ?_
  refine Post.then_n ?_
  refine AW.cond (b := (((((decide (x < 0)) || (decide ((1125899906842624 : Int) < x))) || (decide (k < 0))) || (decide ((1125899906842624 : Int) < k))) || (decide (d < 1))) || (decide ((1125899906842624 : Int) < d))) rfl (fun hc1 => ?_) (fun hc1 => ?_)
  · simp [-List.getD_eq_getElem?_getD] at hc1
    omega
  · simp [-List.getD_eq_getElem?_getD] at hc1
    refine AW.skip ?_
    refine Post.then_n ?_
    refine AW.seq ?_
    refine AW.region ?_
    refine RW.q (v := .int .i64 x) rfl (q_move rfl) ?_
    refine RW.q (v := .int .u64 ((x.toNat : Nat) : Int)) rfl (q_toU (r := x.toNat) rfl Try.underlying3 Try.underlying83 (by omega) (by omega)) ?_
    refine RW.q (v := .int .i64 k) rfl (q_move rfl) ?_
    refine RW.q (v := .int .u64 ((k.toNat : Nat) : Int)) rfl (q_toU (r := k.toNat) rfl Try.underlying3 Try.underlying83 (by omega) (by omega)) ?_
    refine RW.q (v := .tuple #[.int .u64 0, .int .u64 ((x.toNat * k.toNat : Nat) : Int)]) rfl (q_call (args := #[.int .u64 ((x.toNat : Nat) : Int), .int .u64 ((k.toNat : Nat) : Int)]) own51 rfl rfl (fun w1 hw1 => Mul64_c w1 (Go.K.hp w1) (Hp.le_refl _) (by omega) (by omega) (by omega))) ?_
    refine RW.q (v := .tuple #[.int .u64 0, .int .u64 ((x.toNat * k.toNat : Nat) : Int)]) rfl (q_move rfl) ?_
    refine RW.q (v := .int .u64 0) rfl (q_extract rfl rfl) ?_
    refine RW.q (v := .int .u64 ((x.toNat * k.toNat : Nat) : Int)) rfl (q_extract rfl rfl) ?_
    refine RW.q (v := .int .u64 0) rfl (q_assign rfl) ?_
    refine RW.q (v := .int .u64 ((x.toNat * k.toNat : Nat) : Int)) rfl (q_assign rfl) ?_
    refine RW.nil ?_
    refine Post.then_n ?_
    refine AW.seq ?_
    refine AW.seq ?_
    refine AW.region ?_
    refine RW.q (v := .int .u64 0) rfl (q_move rfl) ?_
    refine RW.q (v := .int .i64 d) rfl (q_move rfl) ?_
    refine RW.q (v := .int .u64 ((d.toNat : Nat) : Int)) rfl (q_toU (r := d.toNat) rfl Try.underlying3 Try.underlying83 (by omega) (by omega)) ?_
    refine RW.q (v := .bool (decide (((d.toNat : Nat) : Int) ≤ ((0 : Nat) : Int)))) rfl (q_geq rfl rfl) ?_
    refine RW.nil ?_
    refine Post.then_n ?_
    refine AW.cond (b := decide (((d.toNat : Nat) : Int) ≤ ((0 : Nat) : Int))) rfl (fun hc2 => ?_) (fun hc2 => ?_)
    · simp [-List.getD_eq_getElem?_getD] at hc2
      (try omega)
    · simp [-List.getD_eq_getElem?_getD] at hc2
      refine AW.skip ?_
      refine Post.then_n ?_
      refine AW.seq ?_
      refine AW.region ?_
      refine RW.q (v := .int .u64 0) rfl (q_move rfl) ?_
      refine RW.q (v := .int .u64 ((x.toNat * k.toNat : Nat) : Int)) rfl (q_move rfl) ?_
      refine RW.q (v := .int .i64 d) rfl (q_move rfl) ?_
      refine RW.q (v := .int .u64 ((d.toNat : Nat) : Int)) rfl (q_toU (r := d.toNat) rfl Try.underlying3 Try.underlying83 (by omega) (by omega)) ?_
      refine RW.q (v := .tuple #[.int .u64 (((x.toNat * k.toNat) / d.toNat : Nat) : Int), .int .u64 (((x.toNat * k.toNat) % d.toNat : Nat) : Int)]) rfl (q_call (args := #[.int .u64 0, .int .u64 ((x.toNat * k.toNat : Nat) : Int), .int .u64 ((d.toNat : Nat) : Int)]) own52 rfl rfl (fun w1 hw1 => Div64_c w1 (Go.K.hp w1) (Hp.le_refl _) (by omega) (by omega))) ?_
      refine RW.q (v := .tuple #[.int .u64 (((x.toNat * k.toNat) / d.toNat : Nat) : Int), .int .u64 (((x.toNat * k.toNat) % d.toNat : Nat) : Int)]) rfl (q_move rfl) ?_
      refine RW.q (v := .int .u64 (((x.toNat * k.toNat) / d.toNat : Nat) : Int)) rfl (q_extract rfl rfl) ?_
      refine RW.q (v := .int .u64 (((x.toNat * k.toNat) % d.toNat : Nat) : Int)) rfl (q_extract rfl rfl) ?_
      refine RW.q (v := .int .u64 (((x.toNat * k.toNat) / d.toNat : Nat) : Int)) rfl (q_assign rfl) ?_
      refine RW.q (v := .int .u64 (((x.toNat * k.toNat) % d.toNat : Nat) : Int)) rfl (q_assign rfl) ?_
      refine RW.nil ?_
      refine Post.then_n ?_
      refine AW.seq ?_
      refine AW.seq ?_
      refine AW.region ?_
      refine RW.q (v := .int .u64 (((x.toNat * k.toNat) / d.toNat : Nat) : Int)) rfl (q_move rfl) ?_
      refine RW.q (v := .bool (decide (((1125899906842624 : Nat) : Int) < (((x.toNat * k.toNat) / d.toNat : Nat) : Int)))) rfl (q_gtr rfl rfl) ?_
      refine RW.nil ?_
      refine Post.then_n ?_
      refine AW.cond (b := decide (((1125899906842624 : Nat) : Int) < (((x.toNat * k.toNat) / d.toNat : Nat) : Int))) rfl (fun hc3 => ?_) (fun hc3 => ?_)
      · simp [-List.getD_eq_getElem?_getD] at hc3
        rw [show max x 0 = x by omega, show max k 0 = k by omega, show max d 0 = d by omega] at hc3
        omega
      · simp [-List.getD_eq_getElem?_getD] at hc3
        refine AW.skip ?_
        refine Post.then_n ?_
        refine AW.seq ?_
        refine AW.region ?_
        refine RW.q (v := .int .u64 (((x.toNat * k.toNat) / d.toNat : Nat) : Int)) rfl (q_move rfl) ?_
        refine RW.q (v := .int .i64 (((x.toNat * k.toNat) / d.toNat : Nat) : Int)) rfl (q_ofU (a := ((x.toNat * k.toNat) / d.toNat)) rfl Try.underlying83 Try.underlying3 (by omega)) ?_
        refine RW.q (v := .int .u64 (((x.toNat * k.toNat) % d.toNat : Nat) : Int)) rfl (q_move rfl) ?_
        refine RW.q (v := .int .i64 (((x.toNat * k.toNat) % d.toNat : Nat) : Int)) rfl (q_ofU (a := ((x.toNat * k.toNat) % d.toNat)) rfl Try.underlying83 Try.underlying3 (by omega)) ?_
        refine RW.q (v := .int .i64 (((x.toNat * k.toNat) / d.toNat : Nat) : Int)) rfl (q_assign rfl) ?_
        refine RW.q (v := .int .i64 (((x.toNat * k.toNat) % d.toNat : Nat) : Int)) rfl (q_assign rfl) ?_
        refine RW.q (v := .bool true) rfl (q_assign rfl) ?_
        refine RW.nil ?_
        refine Post.then_n ?_
        refine AW.ret ?_
        refine fin_out3 rfl rfl rfl rfl rfl (fun w' hw => ⟨?_, hw.below rfl⟩)
        rw [← hqn, ← hrn]; rfl

end Go.Proofs.Ytpeojogjeopfaaa
