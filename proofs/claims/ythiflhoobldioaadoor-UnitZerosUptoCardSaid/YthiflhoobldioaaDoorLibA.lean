/- Walks (part LibA), printed by walk2.py. Conditions: those of each theorem. -/
import Derived.Test.YthiflhoobldioaaDoorRows
import Derived.Test.YthiflhoobldioaaDoorCore5
import Derived.Test.YthiflhoobldioaaDoorNums
import Derived.Test.YthiflhoobldioaaDoorLen
import Derived.Lib.Walk
import Derived.Lib.Small
import Derived.Lib.ItoaNum
import Derived.Lib.Slices
import Derived.Lib.Strings
namespace Go.Proofs.YthiflhoobldioaaDoor
open Go Go.K Go.RowKit

theorem hmix : Tryd.prog.follows .mixedOrders = true := by kernel_rfl
theorem sz3 : (Tryd.prog.info? 3).map (·.size) = some 1 := by kernel_rfl
theorem zero3 : (Tryd.prog.info? 3).map (·.zero) = some (some (.int .i64 0)) := by kernel_rfl
theorem inf3 : (Tryd.prog.info? 3).map (fun i => (i.zero, i.size, i.bytes)) = some (some (.int .i64 0), 1, 8) := by kernel_rfl
theorem sz4 : (Tryd.prog.info? 4).map (·.size) = some 1 := by kernel_rfl
theorem zero4 : (Tryd.prog.info? 4).map (·.zero) = some (some (.bool false)) := by kernel_rfl
theorem inf4 : (Tryd.prog.info? 4).map (fun i => (i.zero, i.size, i.bytes)) = some (some (.bool false), 1, 1) := by kernel_rfl
theorem sz5 : (Tryd.prog.info? 5).map (·.size) = some 1 := by kernel_rfl
theorem zero5 : (Tryd.prog.info? 5).map (·.zero) = some (some (.int .u8 0)) := by kernel_rfl
theorem inf5 : (Tryd.prog.info? 5).map (fun i => (i.zero, i.size, i.bytes)) = some (some (.int .u8 0), 1, 1) := by kernel_rfl
theorem sz9 : (Tryd.prog.info? 9).map (·.size) = some 1 := by kernel_rfl
theorem zero9 : (Tryd.prog.info? 9).map (·.zero) = some (some (.string ⟨#[]⟩)) := by kernel_rfl
theorem inf9 : (Tryd.prog.info? 9).map (fun i => (i.zero, i.size, i.bytes)) = some (some (.string ⟨#[]⟩), 1, 16) := by kernel_rfl
theorem sz23 : (Tryd.prog.info? 23).map (·.size) = some 2 := by kernel_rfl
theorem zero23 : (Tryd.prog.info? 23).map (·.zero) = some (some (.agg #[.int .i64 0, .int .i64 0])) := by kernel_rfl
theorem inf23 : (Tryd.prog.info? 23).map (fun i => (i.zero, i.size, i.bytes)) = some (some (.agg #[.int .i64 0, .int .i64 0]), 2, 16) := by kernel_rfl
theorem places23 : ∀ w, ((#[{ name := "N", type := 3, offset := 0, embedded := false, tag := "", pkgPath := "", byteOffset := 0 }, { name := "Dim", type := 3, offset := 1, embedded := false, tag := "", pkgPath := "", byteOffset := 8 }] : Array Field).mapM fun f => do pure (f.offset, ← sizeOf f.type) : Sem (Array (Nat × Nat))).run Tryd.prog w = .ok #[(0, 1), (1, 1)] w := fun w => by kernel_rfl
theorem sz33 : (Tryd.prog.info? 33).map (·.size) = some 1 := by kernel_rfl
theorem zero33 : (Tryd.prog.info? 33).map (·.zero) = some (some (.slice none 0 0)) := by kernel_rfl
theorem inf33 : (Tryd.prog.info? 33).map (fun i => (i.zero, i.size, i.bytes)) = some (some (.slice none 0 0), 1, 24) := by kernel_rfl
theorem sz48 : (Tryd.prog.info? 48).map (·.size) = some 4 := by kernel_rfl
theorem zero48 : (Tryd.prog.info? 48).map (·.zero) = some (some (.agg #[.string ⟨#[]⟩, .int .i64 0, .int .i64 0, .int .i64 0])) := by kernel_rfl
theorem inf48 : (Tryd.prog.info? 48).map (fun i => (i.zero, i.size, i.bytes)) = some (some (.agg #[.string ⟨#[]⟩, .int .i64 0, .int .i64 0, .int .i64 0]), 4, 40) := by kernel_rfl
theorem places48 : ∀ w, ((#[{ name := "name", type := 9, offset := 0, embedded := false, tag := "", pkgPath := "bourne/unit", byteOffset := 0 }, { name := "dim", type := 3, offset := 1, embedded := false, tag := "", pkgPath := "bourne/unit", byteOffset := 16 }, { name := "num", type := 3, offset := 2, embedded := false, tag := "", pkgPath := "bourne/unit", byteOffset := 24 }, { name := "den", type := 3, offset := 3, embedded := false, tag := "", pkgPath := "bourne/unit", byteOffset := 32 }] : Array Field).mapM fun f => do pure (f.offset, ← sizeOf f.type) : Sem (Array (Nat × Nat))).run Tryd.prog w = .ok #[(0, 1), (1, 1), (2, 1), (3, 1)] w := fun w => by kernel_rfl
theorem sz57 : (Tryd.prog.info? 57).map (·.size) = some 1 := by kernel_rfl
theorem zero57 : (Tryd.prog.info? 57).map (·.zero) = some (some (.slice none 0 0)) := by kernel_rfl
theorem inf57 : (Tryd.prog.info? 57).map (fun i => (i.zero, i.size, i.bytes)) = some (some (.slice none 0 0), 1, 24) := by kernel_rfl
theorem sz58 : (Tryd.prog.info? 58).map (·.size) = some 1 := by kernel_rfl
theorem zero58 : (Tryd.prog.info? 58).map (·.zero) = some (some (.slice none 0 0)) := by kernel_rfl
theorem inf58 : (Tryd.prog.info? 58).map (fun i => (i.zero, i.size, i.bytes)) = some (some (.slice none 0 0), 1, 24) := by kernel_rfl
theorem sz60 : (Tryd.prog.info? 60).map (·.size) = some 1 := by kernel_rfl
theorem zero60 : (Tryd.prog.info? 60).map (·.zero) = some (some (.int .u64 0)) := by kernel_rfl
theorem inf60 : (Tryd.prog.info? 60).map (fun i => (i.zero, i.size, i.bytes)) = some (some (.int .u64 0), 1, 8) := by kernel_rfl
theorem sz65 : (Tryd.prog.info? 65).map (·.size) = some 1 := by kernel_rfl
theorem zero65 : (Tryd.prog.info? 65).map (·.zero) = some (some (.int .u64 0)) := by kernel_rfl
theorem inf65 : (Tryd.prog.info? 65).map (fun i => (i.zero, i.size, i.bytes)) = some (some (.int .u64 0), 1, 8) := by kernel_rfl
theorem own8 : Own Tryd.prog 8 := own_of (by kernel_rfl)
theorem own9 : Own Tryd.prog 9 := own_of (by kernel_rfl)
theorem own10 : Own Tryd.prog 10 := own_of (by kernel_rfl)
theorem own11 : Own Tryd.prog 11 := own_of (by kernel_rfl)
theorem own12 : Own Tryd.prog 12 := own_of (by kernel_rfl)
theorem own13 : Own Tryd.prog 13 := own_of (by kernel_rfl)
theorem own14 : Own Tryd.prog 14 := own_of (by kernel_rfl)
theorem own15 : Own Tryd.prog 15 := own_of (by kernel_rfl)
theorem own16 : Own Tryd.prog 16 := own_of (by kernel_rfl)
theorem own17 : Own Tryd.prog 17 := own_of (by kernel_rfl)
theorem own18 : Own Tryd.prog 18 := own_of (by kernel_rfl)
theorem own19 : Own Tryd.prog 19 := own_of (by kernel_rfl)
theorem own20 : Own Tryd.prog 20 := own_of (by kernel_rfl)
theorem own21 : Own Tryd.prog 21 := own_of (by kernel_rfl)
theorem own22 : Own Tryd.prog 22 := own_of (by kernel_rfl)
theorem own23 : Own Tryd.prog 23 := own_of (by kernel_rfl)
theorem own24 : Own Tryd.prog 24 := own_of (by kernel_rfl)
theorem own25 : Own Tryd.prog 25 := own_of (by kernel_rfl)
theorem own26 : Own Tryd.prog 26 := own_of (by kernel_rfl)
theorem own27 : Own Tryd.prog 27 := own_of (by kernel_rfl)
theorem own28 : Own Tryd.prog 28 := own_of (by kernel_rfl)
theorem own29 : Own Tryd.prog 29 := own_of (by kernel_rfl)
theorem own31 : Own Tryd.prog 31 := own_of (by kernel_rfl)
theorem own32 : Own Tryd.prog 32 := own_of (by kernel_rfl)
theorem own33 : Own Tryd.prog 33 := own_of (by kernel_rfl)
theorem own34 : Own Tryd.prog 34 := own_of (by kernel_rfl)
theorem own35 : Own Tryd.prog 35 := own_of (by kernel_rfl)
theorem own36 : Own Tryd.prog 36 := own_of (by kernel_rfl)
theorem own38 : Own Tryd.prog 38 := own_of (by kernel_rfl)
theorem own39 : Own Tryd.prog 39 := own_of (by kernel_rfl)
theorem own40 : Own Tryd.prog 40 := own_of (by kernel_rfl)
theorem own41 : Own Tryd.prog 41 := own_of (by kernel_rfl)
theorem own42 : Own Tryd.prog 42 := own_of (by kernel_rfl)
theorem own43 : Own Tryd.prog 43 := own_of (by kernel_rfl)
theorem own44 : Own Tryd.prog 44 := own_of (by kernel_rfl)
theorem bitLen_b {y : Nat} (h0 : 0 < y) (h : y < 18446744073709551616) : 1 ≤ Lib.bitLen y ∧ Lib.bitLen y ≤ 64 ∧ 2 ^ (Lib.bitLen y - 1) ≤ y ∧ y < 2 ^ Lib.bitLen y := by
  obtain ⟨h1, h2, h3⟩ := Lib.bitLenAux_bounds 64 y (by omega) (by omega)
  refine ⟨h1, ?_, h2, h3⟩
  show Lib.bitLenAux 64 y ≤ 64
  have h4 : 2 ^ (Lib.bitLenAux 64 y - 1) < 2 ^ 64 := Nat.lt_of_le_of_lt h2 (by omega)
  have := (Nat.pow_lt_pow_iff_right (by omega)).1 h4
  omega
theorem kn_dec {q a r U : Nat} (h : q * a + r = U) (hq : 1 ≤ q) : (q - 1) * a + (r + a) = U := by
  obtain ⟨j, rfl⟩ : ∃ j, q = j + 1 := ⟨q - 1, by omega⟩
  rw [Nat.add_mul, Nat.one_mul] at h
  rw [Nat.add_sub_cancel]
  omega
theorem joinU {hi lo sh : Nat} (hs : sh ≤ 64) (hlo : lo < 18446744073709551616) : hi * 2 ^ sh ||| lo / 2 ^ (64 - sh) = hi * 2 ^ sh + lo / 2 ^ (64 - sh) ∧ lo / 2 ^ (64 - sh) < 2 ^ sh := by
  have h1 : lo / 2 ^ (64 - sh) < 2 ^ sh := by
    rw [Nat.div_lt_iff_lt_mul (Nat.two_pow_pos _), ← Nat.pow_add, show sh + (64 - sh) = 64 by omega]; omega
  exact ⟨nat_join sh _ _ (Nat.mul_mod_left _ _) h1, h1⟩
set_option maxRecDepth 8000 in
set_option maxHeartbeats 1000000 in
theorem Mul64_c (w : World) (Φ : Hp) (hΦ : Hp.le Φ (hp w)) {x y : Nat} (hx : x < 18446744073709551616) (hy : y < 18446744073709551616) :
    Calls Tryd.prog 29 #[.int .u64 (x : Int), .int .u64 (y : Int)] w fun e w' => e = .returned (.tuple #[.int .u64 ((x * y / 18446744073709551616 : Nat) : Int), .int .u64 ((x * y % 18446744073709551616 : Nat) : Int)]) ∧ Below w.heap.size w w' := by
  refine calls_of_AW (args := [.int .u64 ((x : Nat) : Int), .int .u64 ((y : Nat) : Int)]) Tryd.func29 rfl (Nat.le_of_ble_eq_true rfl) (St ⟨w, Φ, []⟩ Φ []) (StP.init w Φ hΦ []) ?_
  show AW Tryd.prog 51 [] _ _ _ [(0, .int .u64 ((x : Nat) : Int)), (1, .int .u64 ((y : Nat) : Int))] _
  obtain ⟨bd, bt, bw, hhi⟩ := Lib.mul64_hi x y hx hy
  have ba := Lib.half_mul_le (a := x / 4294967296) (b := y / 4294967296) (by omega) (by omega)
  have bb := Lib.half_mul_le (a := x / 4294967296) (b := y % 4294967296) (by omega) (by omega)
  have bc := Lib.half_mul_le (a := x % 4294967296) (b := y / 4294967296) (by omega) (by omega)
  refine AW.seq ?_
  refine AW.region ?_
  refine RW.q (v := .int .u64 ((0 : Nat) : Int)) rfl (q_assign rfl) ?_
  refine RW.q (v := .int .u64 ((0 : Nat) : Int)) rfl (q_assign rfl) ?_
  refine RW.nil ?_
  refine Post.then_n ?_
  refine AW.seq ?_
  refine AW.region ?_
  refine RW.q (v := .int .u64 ((x : Nat) : Int)) rfl (q_move rfl) ?_
  refine RW.q (v := .int .u64 ((x % 4294967296 : Nat) : Int)) rfl (q_maskU (a := x) rfl rfl (by omega)) ?_
  refine RW.q (v := .int .u64 ((x % 4294967296 : Nat) : Int)) rfl (q_assign rfl) ?_
  refine RW.nil ?_
  refine Post.then_n ?_
  refine AW.seq ?_
  refine AW.region ?_
  refine RW.q (v := .int .u64 ((x : Nat) : Int)) rfl (q_move rfl) ?_
  refine RW.q (v := .int .u64 ((x / 4294967296 : Nat) : Int)) rfl (q_shr32U (a := x) rfl rfl) ?_
  refine RW.q (v := .int .u64 ((x / 4294967296 : Nat) : Int)) rfl (q_assign rfl) ?_
  refine RW.nil ?_
  refine Post.then_n ?_
  refine AW.seq ?_
  refine AW.region ?_
  refine RW.q (v := .int .u64 ((y : Nat) : Int)) rfl (q_move rfl) ?_
  refine RW.q (v := .int .u64 ((y % 4294967296 : Nat) : Int)) rfl (q_maskU (a := y) rfl rfl (by omega)) ?_
  refine RW.q (v := .int .u64 ((y % 4294967296 : Nat) : Int)) rfl (q_assign rfl) ?_
  refine RW.nil ?_
  refine Post.then_n ?_
  refine AW.seq ?_
  refine AW.region ?_
  refine RW.q (v := .int .u64 ((y : Nat) : Int)) rfl (q_move rfl) ?_
  refine RW.q (v := .int .u64 ((y / 4294967296 : Nat) : Int)) rfl (q_shr32U (a := y) rfl rfl) ?_
  refine RW.q (v := .int .u64 ((y / 4294967296 : Nat) : Int)) rfl (q_assign rfl) ?_
  refine RW.nil ?_
  refine Post.then_n ?_
  refine AW.seq ?_
  refine AW.region ?_
  refine RW.q (v := .int .u64 ((x % 4294967296 : Nat) : Int)) rfl (q_move rfl) ?_
  refine RW.q (v := .int .u64 ((y % 4294967296 : Nat) : Int)) rfl (q_move rfl) ?_
  refine RW.q (v := .int .u64 (((x % 4294967296) * (y % 4294967296) : Nat) : Int)) rfl (q_mulU (a := (x % 4294967296)) (b := (y % 4294967296)) rfl rfl (Nat.mod_eq_of_lt (by omega))) ?_
  refine RW.q (v := .int .u64 (((x % 4294967296) * (y % 4294967296) : Nat) : Int)) rfl (q_assign rfl) ?_
  refine RW.nil ?_
  refine Post.then_n ?_
  refine AW.seq ?_
  refine AW.region ?_
  refine RW.q (v := .int .u64 ((x / 4294967296 : Nat) : Int)) rfl (q_move rfl) ?_
  refine RW.q (v := .int .u64 ((y % 4294967296 : Nat) : Int)) rfl (q_move rfl) ?_
  refine RW.q (v := .int .u64 (((x / 4294967296) * (y % 4294967296) : Nat) : Int)) rfl (q_mulU (a := (x / 4294967296)) (b := (y % 4294967296)) rfl rfl (Nat.mod_eq_of_lt (by omega))) ?_
  refine RW.q (v := .int .u64 (((x % 4294967296) * (y % 4294967296) : Nat) : Int)) rfl (q_move rfl) ?_
  refine RW.q (v := .int .u64 ((((x % 4294967296) * (y % 4294967296)) / 4294967296 : Nat) : Int)) rfl (q_shr32U (a := ((x % 4294967296) * (y % 4294967296))) rfl rfl) ?_
  refine RW.q (v := .int .u64 ((((x / 4294967296) * (y % 4294967296)) + (((x % 4294967296) * (y % 4294967296)) / 4294967296) : Nat) : Int)) rfl (q_addU (a := ((x / 4294967296) * (y % 4294967296))) (b := (((x % 4294967296) * (y % 4294967296)) / 4294967296)) rfl rfl (Nat.mod_eq_of_lt (by omega))) ?_
  refine RW.q (v := .int .u64 ((((x / 4294967296) * (y % 4294967296)) + (((x % 4294967296) * (y % 4294967296)) / 4294967296) : Nat) : Int)) rfl (q_assign rfl) ?_
  refine RW.nil ?_
  refine Post.then_n ?_
  refine AW.seq ?_
  refine AW.region ?_
  refine RW.q (v := .int .u64 ((((x / 4294967296) * (y % 4294967296)) + (((x % 4294967296) * (y % 4294967296)) / 4294967296) : Nat) : Int)) rfl (q_move rfl) ?_
  refine RW.q (v := .int .u64 (((((x / 4294967296) * (y % 4294967296)) + (((x % 4294967296) * (y % 4294967296)) / 4294967296)) % 4294967296 : Nat) : Int)) rfl (q_maskU (a := (((x / 4294967296) * (y % 4294967296)) + (((x % 4294967296) * (y % 4294967296)) / 4294967296))) rfl rfl (by omega)) ?_
  refine RW.q (v := .int .u64 (((((x / 4294967296) * (y % 4294967296)) + (((x % 4294967296) * (y % 4294967296)) / 4294967296)) % 4294967296 : Nat) : Int)) rfl (q_assign rfl) ?_
  refine RW.nil ?_
  refine Post.then_n ?_
  refine AW.seq ?_
  refine AW.region ?_
  refine RW.q (v := .int .u64 ((((x / 4294967296) * (y % 4294967296)) + (((x % 4294967296) * (y % 4294967296)) / 4294967296) : Nat) : Int)) rfl (q_move rfl) ?_
  refine RW.q (v := .int .u64 (((((x / 4294967296) * (y % 4294967296)) + (((x % 4294967296) * (y % 4294967296)) / 4294967296)) / 4294967296 : Nat) : Int)) rfl (q_shr32U (a := (((x / 4294967296) * (y % 4294967296)) + (((x % 4294967296) * (y % 4294967296)) / 4294967296))) rfl rfl) ?_
  refine RW.q (v := .int .u64 (((((x / 4294967296) * (y % 4294967296)) + (((x % 4294967296) * (y % 4294967296)) / 4294967296)) / 4294967296 : Nat) : Int)) rfl (q_assign rfl) ?_
  refine RW.nil ?_
  refine Post.then_n ?_
  refine AW.seq ?_
  refine AW.region ?_
  refine RW.q (v := .int .u64 (((((x / 4294967296) * (y % 4294967296)) + (((x % 4294967296) * (y % 4294967296)) / 4294967296)) % 4294967296 : Nat) : Int)) rfl (q_move rfl) ?_
  refine RW.q (v := .int .u64 ((x % 4294967296 : Nat) : Int)) rfl (q_move rfl) ?_
  refine RW.q (v := .int .u64 ((y / 4294967296 : Nat) : Int)) rfl (q_move rfl) ?_
  refine RW.q (v := .int .u64 (((x % 4294967296) * (y / 4294967296) : Nat) : Int)) rfl (q_mulU (a := (x % 4294967296)) (b := (y / 4294967296)) rfl rfl (Nat.mod_eq_of_lt (by omega))) ?_
  refine RW.q (v := .int .u64 ((((((x / 4294967296) * (y % 4294967296)) + (((x % 4294967296) * (y % 4294967296)) / 4294967296)) % 4294967296) + ((x % 4294967296) * (y / 4294967296)) : Nat) : Int)) rfl (q_addU (a := ((((x / 4294967296) * (y % 4294967296)) + (((x % 4294967296) * (y % 4294967296)) / 4294967296)) % 4294967296)) (b := ((x % 4294967296) * (y / 4294967296))) rfl rfl (Nat.mod_eq_of_lt (by omega))) ?_
  refine RW.q (v := .int .u64 ((((((x / 4294967296) * (y % 4294967296)) + (((x % 4294967296) * (y % 4294967296)) / 4294967296)) % 4294967296) + ((x % 4294967296) * (y / 4294967296)) : Nat) : Int)) rfl (q_assign rfl) ?_
  refine RW.nil ?_
  refine Post.then_n ?_
  refine AW.seq ?_
  refine AW.region ?_
  refine RW.q (v := .int .u64 ((x / 4294967296 : Nat) : Int)) rfl (q_move rfl) ?_
  refine RW.q (v := .int .u64 ((y / 4294967296 : Nat) : Int)) rfl (q_move rfl) ?_
  refine RW.q (v := .int .u64 (((x / 4294967296) * (y / 4294967296) : Nat) : Int)) rfl (q_mulU (a := (x / 4294967296)) (b := (y / 4294967296)) rfl rfl (Nat.mod_eq_of_lt (by omega))) ?_
  refine RW.q (v := .int .u64 (((((x / 4294967296) * (y % 4294967296)) + (((x % 4294967296) * (y % 4294967296)) / 4294967296)) / 4294967296 : Nat) : Int)) rfl (q_move rfl) ?_
  refine RW.q (v := .int .u64 ((((x / 4294967296) * (y / 4294967296)) + ((((x / 4294967296) * (y % 4294967296)) + (((x % 4294967296) * (y % 4294967296)) / 4294967296)) / 4294967296) : Nat) : Int)) rfl (q_addU (a := ((x / 4294967296) * (y / 4294967296))) (b := ((((x / 4294967296) * (y % 4294967296)) + (((x % 4294967296) * (y % 4294967296)) / 4294967296)) / 4294967296)) rfl rfl (Nat.mod_eq_of_lt (by omega))) ?_
  refine RW.q (v := .int .u64 ((((((x / 4294967296) * (y % 4294967296)) + (((x % 4294967296) * (y % 4294967296)) / 4294967296)) % 4294967296) + ((x % 4294967296) * (y / 4294967296)) : Nat) : Int)) rfl (q_move rfl) ?_
  refine RW.q (v := .int .u64 (((((((x / 4294967296) * (y % 4294967296)) + (((x % 4294967296) * (y % 4294967296)) / 4294967296)) % 4294967296) + ((x % 4294967296) * (y / 4294967296))) / 4294967296 : Nat) : Int)) rfl (q_shr32U (a := (((((x / 4294967296) * (y % 4294967296)) + (((x % 4294967296) * (y % 4294967296)) / 4294967296)) % 4294967296) + ((x % 4294967296) * (y / 4294967296)))) rfl rfl) ?_
  refine RW.q (v := .int .u64 (((((x / 4294967296) * (y / 4294967296)) + ((((x / 4294967296) * (y % 4294967296)) + (((x % 4294967296) * (y % 4294967296)) / 4294967296)) / 4294967296)) + ((((((x / 4294967296) * (y % 4294967296)) + (((x % 4294967296) * (y % 4294967296)) / 4294967296)) % 4294967296) + ((x % 4294967296) * (y / 4294967296))) / 4294967296) : Nat) : Int)) rfl (q_addU (a := (((x / 4294967296) * (y / 4294967296)) + ((((x / 4294967296) * (y % 4294967296)) + (((x % 4294967296) * (y % 4294967296)) / 4294967296)) / 4294967296))) (b := ((((((x / 4294967296) * (y % 4294967296)) + (((x % 4294967296) * (y % 4294967296)) / 4294967296)) % 4294967296) + ((x % 4294967296) * (y / 4294967296))) / 4294967296)) rfl rfl (Nat.mod_eq_of_lt (by omega))) ?_
  refine RW.q (v := .int .u64 (((((x / 4294967296) * (y / 4294967296)) + ((((x / 4294967296) * (y % 4294967296)) + (((x % 4294967296) * (y % 4294967296)) / 4294967296)) / 4294967296)) + ((((((x / 4294967296) * (y % 4294967296)) + (((x % 4294967296) * (y % 4294967296)) / 4294967296)) % 4294967296) + ((x % 4294967296) * (y / 4294967296))) / 4294967296) : Nat) : Int)) rfl (q_assign rfl) ?_
  refine RW.nil ?_
  refine Post.then_n ?_
  refine AW.seq ?_
  refine AW.region ?_
  refine RW.q (v := .int .u64 ((x : Nat) : Int)) rfl (q_move rfl) ?_
  refine RW.q (v := .int .u64 ((y : Nat) : Int)) rfl (q_move rfl) ?_
  refine RW.q (v := .int .u64 ((x * y % 18446744073709551616 : Nat) : Int)) rfl (q_mulU (a := x) (b := y) rfl rfl rfl) ?_
  refine RW.q (v := .int .u64 ((x * y % 18446744073709551616 : Nat) : Int)) rfl (q_assign rfl) ?_
  refine RW.nil ?_
  refine Post.then_n ?_
  refine AW.ret ?_
  refine fin_out2 (v := .int .u64 (((((x / 4294967296) * (y / 4294967296)) + ((((x / 4294967296) * (y % 4294967296)) + (((x % 4294967296) * (y % 4294967296)) / 4294967296)) / 4294967296)) + ((((((x / 4294967296) * (y % 4294967296)) + (((x % 4294967296) * (y % 4294967296)) / 4294967296)) % 4294967296) + ((x % 4294967296) * (y / 4294967296))) / 4294967296) : Nat) : Int)) (u := .int .u64 ((x * y % 18446744073709551616 : Nat) : Int)) rfl rfl rfl rfl (fun w' hw => ?_)
  refine ⟨?_, hw.below rfl⟩
  rw [← hhi]

set_option maxRecDepth 8000 in
set_option maxHeartbeats 1000000 in
theorem LeadingZeros64_c (w : World) (Φ : Hp) (hΦ : Hp.le Φ (hp w)) {y : Nat} (h0 : 0 < y) (hy : y < 18446744073709551616) :
    Calls Tryd.prog 34 #[.int .u64 (y : Int)] w fun e w' => e = .returned (.int .i64 ((64 - Lib.bitLen y : Nat) : Int)) ∧ Below w.heap.size w w' := by
  refine calls_of_AW (args := [.int .u64 ((y : Nat) : Int)]) Tryd.func34 rfl (Nat.le_of_ble_eq_true rfl) (St ⟨w, Φ, []⟩ Φ []) (StP.init w Φ hΦ []) ?_
  show AW Tryd.prog 6 [] _ _ _ [(0, .int .u64 ((y : Nat) : Int))] _
  obtain ⟨hl1, hl2, _, _⟩ := bitLen_b h0 hy
  refine AW.seq ?_
  refine AW.region ?_
  refine RW.q (v := .int .i64 0) rfl (q_assign rfl) ?_
  refine RW.nil ?_
  refine Post.then_n ?_
  refine AW.seq ?_
  refine AW.region ?_
  refine RW.q (v := .int .u64 ((y : Nat) : Int)) rfl (q_move rfl) ?_
  refine RW.q (v := .int .i64 ((Lib.bitLen y : Nat) : Int)) rfl (q_call (args := #[.int .u64 ((y : Nat) : Int)]) own40 rfl rfl (fun w1 hw1 => (Tryd.bits_Len64 (y : Nat) w1 (by omega) (by omega)).mono fun e w2 ⟨he, hw2⟩ => ⟨by rw [he, Int.toNat_natCast], by rw [hw2]; exact Below.refl _ _⟩)) ?_
  refine RW.q (v := .int .i64 ((64 - Lib.bitLen y : Nat) : Int)) rfl (q_sub rfl rfl (by omega) (by unfold I64; omega)) ?_
  refine RW.q (v := .int .i64 ((64 - Lib.bitLen y : Nat) : Int)) rfl (q_assign rfl) ?_
  refine RW.nil ?_
  refine Post.then_n ?_
  refine AW.ret ?_
  exact fin_val (v' := .int .i64 ((64 - Lib.bitLen y : Nat) : Int)) rfl rfl rfl (rfl)

set_option maxRecDepth 8000 in
set_option maxHeartbeats 1000000 in
theorem Div64_c (w : World) (Φ : Hp) (hΦ : Hp.le Φ (hp w)) {hi lo y : Nat} (hhi : hi < y) (hlo : lo < 18446744073709551616) (hy : y < 18446744073709551616) :
    Calls Tryd.prog 31 #[.int .u64 (hi : Int), .int .u64 (lo : Int), .int .u64 (y : Int)] w fun e w' => e = .returned (.tuple #[.int .u64 (((hi * 18446744073709551616 + lo) / y : Nat) : Int), .int .u64 (((hi * 18446744073709551616 + lo) % y : Nat) : Int)]) ∧ Below w.heap.size w w' := by
  refine calls_of_AW (args := [.int .u64 ((hi : Nat) : Int), .int .u64 ((lo : Nat) : Int), .int .u64 ((y : Nat) : Int)]) Tryd.func31 rfl (Nat.le_of_ble_eq_true rfl) (St ⟨w, Φ, []⟩ Φ []) (StP.init w Φ hΦ []) ?_
  show AW Tryd.prog 135 [] _ _ _ [(0, .int .u64 ((hi : Nat) : Int)), (1, .int .u64 ((lo : Nat) : Int)), (2, .int .u64 ((y : Nat) : Int))] _
  refine AW.seq ?_
  refine AW.region ?_
  refine RW.q (v := .int .u64 ((0 : Nat) : Int)) rfl (q_assign rfl) ?_
  refine RW.q (v := .int .u64 ((0 : Nat) : Int)) rfl (q_assign rfl) ?_
  refine RW.nil ?_
  refine Post.then_n ?_
  refine AW.seq ?_
  refine AW.seq ?_
  refine AW.region ?_
  refine RW.q (v := .int .u64 ((y : Nat) : Int)) rfl (q_move rfl) ?_
  refine RW.q (v := .bool (decide (((y : Nat) : Int) = ((0 : Nat) : Int)))) rfl (q_eql rfl rfl) ?_
  refine RW.nil ?_
  refine Post.then_n ?_
  refine AW.cond (b := decide (((y : Nat) : Int) = ((0 : Nat) : Int))) rfl (fun hc1 => ?_) (fun hc1 => ?_)
  · simp [-List.getD_eq_getElem?_getD] at hc1
    omega
  · simp [-List.getD_eq_getElem?_getD] at hc1
    refine AW.skip ?_
    refine Post.then_n ?_
    refine AW.seq ?_
    refine AW.seq ?_
    refine AW.region ?_
    refine RW.q (v := .int .u64 ((y : Nat) : Int)) rfl (q_move rfl) ?_
    refine RW.q (v := .int .u64 ((hi : Nat) : Int)) rfl (q_move rfl) ?_
    refine RW.q (v := .bool (decide (((y : Nat) : Int) ≤ ((hi : Nat) : Int)))) rfl (q_leq rfl rfl) ?_
    refine RW.nil ?_
    refine Post.then_n ?_
    refine AW.cond (b := decide (((y : Nat) : Int) ≤ ((hi : Nat) : Int))) rfl (fun hc2 => ?_) (fun hc2 => ?_)
    · simp [-List.getD_eq_getElem?_getD] at hc2
      omega
    · simp [-List.getD_eq_getElem?_getD] at hc2
      refine AW.skip ?_
      refine Post.then_n ?_
      refine AW.seq ?_
      refine AW.seq ?_
      refine AW.region ?_
      refine RW.q (v := .int .u64 ((hi : Nat) : Int)) rfl (q_move rfl) ?_
      refine RW.q (v := .bool (decide (((hi : Nat) : Int) = ((0 : Nat) : Int)))) rfl (q_eql rfl rfl) ?_
      refine RW.nil ?_
      refine Post.then_n ?_
      refine AW.cond (b := decide (((hi : Nat) : Int) = ((0 : Nat) : Int))) rfl (fun hc3 => ?_) (fun hc3 => ?_)
      · simp [-List.getD_eq_getElem?_getD] at hc3
        refine AW.seq ?_
        refine AW.draw (J0 := St ⟨w, Φ, []⟩ Φ []) [.q, .q, .q, .q, .q, .q, .q, .q] [0, 1, 2, 3, 4, 5, 6, 7] hmix (by kernel_rfl) ?_
        refine DW.q (v := .int .u64 ((lo : Nat) : Int)) (fun _ h => h) rfl (q_move rfl) ?_
        refine DW.q (v := .int .u64 ((y : Nat) : Int)) (fun _ h => h) rfl (q_move rfl) ?_
        refine DW.q (v := .int .u64 ((lo / y : Nat) : Int)) (fun _ h => h) rfl (q_quoU (a := lo) (b := y) rfl rfl (by omega) (by omega)) ?_
        refine DW.q (v := .int .u64 ((lo : Nat) : Int)) (fun _ h => h) rfl (q_move rfl) ?_
        refine DW.q (v := .int .u64 ((y : Nat) : Int)) (fun _ h => h) rfl (q_move rfl) ?_
        refine DW.q (v := .int .u64 ((lo % y : Nat) : Int)) (fun _ h => h) rfl (q_remU (a := lo) (b := y) rfl rfl (by omega)) ?_
        refine DW.q (v := .int .u64 ((lo / y : Nat) : Int)) (fun _ h => h) rfl (q_assign rfl) ?_
        refine DW.q (v := .int .u64 ((lo % y : Nat) : Int)) (fun _ h => h) rfl (q_assign rfl) ?_
        refine DW.nil ?_
        refine Post.then_n ?_
        refine AW.ret ?_
        refine Post.then_r ?_
        refine fin_out2 (v := .int .u64 ((lo / y : Nat) : Int)) (u := .int .u64 ((lo % y : Nat) : Int)) rfl rfl rfl rfl (fun w' hw => ?_)
        refine ⟨?_, hw.below rfl⟩
        have hi0 : hi = 0 := by omega
        rw [hi0, Nat.zero_mul, Nat.zero_add]
      · simp [-List.getD_eq_getElem?_getD] at hc3
        refine AW.skip ?_
        refine Post.then_n ?_
        refine AW.seq ?_
        have hy0 : 0 < y := by omega
        obtain ⟨hl1, hl2, hl3, hl4⟩ := bitLen_b hy0 hy
        obtain ⟨sh, hsh⟩ : ∃ sh, 64 - Lib.bitLen y = sh := ⟨_, rfl⟩
        have hs64 : sh ≤ 64 := by omega
        obtain ⟨Y, hY⟩ : ∃ Y, y * 2 ^ sh = Y := ⟨_, rfl⟩
        have hnz := Nums.le_of_lz hl3 hl4 hl1 hl2
        rw [hsh, hY] at hnz
        obtain ⟨hj1, hj2⟩ := joinU (hi := hi) hs64 hlo
        have hlq0 := Nat.zero_le (lo / 2 ^ (64 - sh))
        obtain ⟨U, hU⟩ : ∃ U, hi * 2 ^ sh + lo / 2 ^ (64 - sh) = U := ⟨_, rfl⟩
        have hhY : hi * 2 ^ sh + 2 ^ sh ≤ Y := by rw [← hY]; have := Nat.mul_le_mul_right (2 ^ sh) (show hi + 1 ≤ y by omega); rwa [Nat.add_mul, Nat.one_mul] at this
        have hUY : U < Y := by omega
        obtain ⟨V, hV⟩ : ∃ V, lo * 2 ^ sh % 18446744073709551616 = V := ⟨_, rfl⟩
        have hVl : V < 18446744073709551616 := by rw [← hV]; exact Nat.mod_lt _ (by omega)
        obtain ⟨Y1, hY1⟩ : ∃ n, Y / 4294967296 = n := ⟨_, rfl⟩
        obtain ⟨Y0, hY0⟩ : ∃ n, Y % 4294967296 = n := ⟨_, rfl⟩
        obtain ⟨W1, hW1⟩ : ∃ n, V / 4294967296 = n := ⟨_, rfl⟩
        obtain ⟨W0, hW0⟩ : ∃ n, V % 4294967296 = n := ⟨_, rfl⟩
        have hyd : Y = Y1 * 4294967296 + Y0 := by omega
        obtain ⟨Q1, hQ1⟩ : ∃ Q1, (U * 4294967296 + W1) / Y = Q1 := ⟨_, rfl⟩
        obtain ⟨R1, hR1⟩ : ∃ R1, (U * 4294967296 + W1) % Y = R1 := ⟨_, rfl⟩
        have hRY : R1 < Y := by rw [← hR1]; exact Nat.mod_lt _ (by omega)
        obtain ⟨Q0, hQ0⟩ : ∃ Q0, (R1 * 4294967296 + W0) / Y = Q0 := ⟨_, rfl⟩
        obtain ⟨R0, hR0⟩ : ∃ R0, (R1 * 4294967296 + W0) % Y = R0 := ⟨_, rfl⟩
        have hQ1l : Q1 < 4294967296 := by rw [← hQ1, Nat.div_lt_iff_lt_mul (by omega)]; omega
        have hQ0l : Q0 < 4294967296 := by rw [← hQ0, Nat.div_lt_iff_lt_mul (by omega)]; omega
        have hy1p : 0 < Y1 := by omega
        refine AW.region ?_
        refine RW.q (v := .int .u64 ((y : Nat) : Int)) rfl (q_move rfl) ?_
        refine RW.q (v := .int .i64 (sh : Int)) rfl (q_as (v := .int .i64 ((64 - Lib.bitLen y : Nat) : Int)) (q_call (args := #[.int .u64 ((y : Nat) : Int)]) own34 rfl rfl (fun w1 hw1 => LeadingZeros64_c w1 (Go.K.hp w1) (Hp.le_refl _) (by omega) (by omega))) (congrArg (Value.int .i64) (by rw [hsh]))) ?_
        refine RW.q (v := .int .u64 ((sh : Nat) : Int)) rfl (q_toU (r := sh) rfl Tryd.underlying3 Tryd.underlying65 rfl (by omega)) ?_
        refine RW.q (v := .int .u64 ((sh : Nat) : Int)) rfl (q_assign rfl) ?_
        refine RW.nil ?_
        refine Post.then_n ?_
        refine AW.seq ?_
        refine AW.region ?_
        refine RW.q (v := .int .u64 ((y : Nat) : Int)) rfl (q_move rfl) ?_
        refine RW.q (v := .int .u64 ((sh : Nat) : Int)) rfl (q_move rfl) ?_
        refine RW.q (v := .int .u64 ((Y : Nat) : Int)) rfl (q_shlU (a := y) (c := sh) rfl rfl (by omega) (by rw [hY]; exact Nat.mod_eq_of_lt (by omega))) ?_
        refine RW.q (v := .int .u64 ((Y : Nat) : Int)) rfl (q_assign rfl) ?_
        refine RW.nil ?_
        refine Post.then_n ?_
        refine AW.seq ?_
        refine AW.region ?_
        refine RW.q (v := .int .u64 ((Y : Nat) : Int)) rfl (q_move rfl) ?_
        refine RW.q (v := .int .u64 ((Y1 : Nat) : Int)) rfl (q_as (v := .int .u64 ((Y / 4294967296 : Nat) : Int)) (q_shr32U (a := Y) rfl rfl) (congrArg (Value.int .u64) (by rw [hY1]))) ?_
        refine RW.q (v := .int .u64 ((Y1 : Nat) : Int)) rfl (q_assign rfl) ?_
        refine RW.nil ?_
        refine Post.then_n ?_
        refine AW.seq ?_
        refine AW.region ?_
        refine RW.q (v := .int .u64 ((Y : Nat) : Int)) rfl (q_move rfl) ?_
        refine RW.q (v := .int .u64 ((Y0 : Nat) : Int)) rfl (q_as (v := .int .u64 ((Y % 4294967296 : Nat) : Int)) (q_maskU (a := Y) rfl rfl (by omega)) (congrArg (Value.int .u64) (by rw [hY0]))) ?_
        refine RW.q (v := .int .u64 ((Y0 : Nat) : Int)) rfl (q_assign rfl) ?_
        refine RW.nil ?_
        refine Post.then_n ?_
        refine AW.seq ?_
        refine AW.region ?_
        refine RW.q (v := .int .u64 ((hi : Nat) : Int)) rfl (q_move rfl) ?_
        refine RW.q (v := .int .u64 ((sh : Nat) : Int)) rfl (q_move rfl) ?_
        refine RW.q (v := .int .u64 ((hi * 2 ^ sh : Nat) : Int)) rfl (q_shlU (a := hi) (c := sh) rfl rfl (by omega) (Nat.mod_eq_of_lt (by omega))) ?_
        refine RW.q (v := .int .u64 ((lo : Nat) : Int)) rfl (q_move rfl) ?_
        refine RW.q (v := .int .u64 ((sh : Nat) : Int)) rfl (q_move rfl) ?_
        refine RW.q (v := .int .u64 ((64 - sh : Nat) : Int)) rfl (q_subU (a := 64) (b := sh) rfl rfl (by omega)) ?_
        refine RW.q (v := .int .u64 ((lo / 2 ^ (64 - sh) : Nat) : Int)) rfl (q_shrU' (a := lo) (c := (64 - sh)) rfl rfl (by omega)) ?_
        refine RW.q (v := .int .u64 ((U : Nat) : Int)) rfl (q_as (v := .int .u64 (((hi * 2 ^ sh) ||| (lo / 2 ^ (64 - sh)) : Nat) : Int)) (q_orU (a := (hi * 2 ^ sh)) (b := (lo / 2 ^ (64 - sh))) rfl rfl (by omega) (by have := Nat.div_le_self lo (2 ^ (64 - sh)); omega)) (congrArg (Value.int .u64) (by rw [hj1, hU]))) ?_
        refine RW.q (v := .int .u64 ((U : Nat) : Int)) rfl (q_assign rfl) ?_
        refine RW.nil ?_
        refine Post.then_n ?_
        refine AW.seq ?_
        refine AW.region ?_
        refine RW.q (v := .int .u64 ((lo : Nat) : Int)) rfl (q_move rfl) ?_
        refine RW.q (v := .int .u64 ((sh : Nat) : Int)) rfl (q_move rfl) ?_
        refine RW.q (v := .int .u64 ((V : Nat) : Int)) rfl (q_shlU (a := lo) (c := sh) rfl rfl (by omega) hV) ?_
        refine RW.q (v := .int .u64 ((V : Nat) : Int)) rfl (q_assign rfl) ?_
        refine RW.nil ?_
        refine Post.then_n ?_
        refine AW.seq ?_
        refine AW.region ?_
        refine RW.q (v := .int .u64 ((V : Nat) : Int)) rfl (q_move rfl) ?_
        refine RW.q (v := .int .u64 ((W1 : Nat) : Int)) rfl (q_as (v := .int .u64 ((V / 4294967296 : Nat) : Int)) (q_shr32U (a := V) rfl rfl) (congrArg (Value.int .u64) (by rw [hW1]))) ?_
        refine RW.q (v := .int .u64 ((W1 : Nat) : Int)) rfl (q_assign rfl) ?_
        refine RW.nil ?_
        refine Post.then_n ?_
        refine AW.seq ?_
        refine AW.region ?_
        refine RW.q (v := .int .u64 ((V : Nat) : Int)) rfl (q_move rfl) ?_
        refine RW.q (v := .int .u64 ((W0 : Nat) : Int)) rfl (q_as (v := .int .u64 ((V % 4294967296 : Nat) : Int)) (q_maskU (a := V) rfl rfl (by omega)) (congrArg (Value.int .u64) (by rw [hW0]))) ?_
        refine RW.q (v := .int .u64 ((W0 : Nat) : Int)) rfl (q_assign rfl) ?_
        refine RW.nil ?_
        refine Post.then_n ?_
        refine AW.seq ?_
        have hf1 := Nums.kn_first (u := U) (d := W1) hyd hy1p (by omega)
        rw [hQ1] at hf1
        have hf2 := Nums.kn_top (u := U) (B := 4294967296) hyd (by omega) (by omega) hUY hy1p
        have hf3 : U / (Y1) * (Y1) ≤ U := Nat.div_mul_le_self _ _
        have hf4 : U / (Y1) * (Y1) + U % (Y1) = U := Nat.div_add_mod' _ _
        have hf5 : U % (Y1) < Y1 := Nat.mod_lt _ hy1p
        refine AW.region ?_
        refine RW.q (v := .int .u64 ((U : Nat) : Int)) rfl (q_move rfl) ?_
        refine RW.q (v := .int .u64 ((Y1 : Nat) : Int)) rfl (q_move rfl) ?_
        refine RW.q (v := .int .u64 ((U / Y1 : Nat) : Int)) rfl (q_quoU (a := U) (b := Y1) rfl rfl (by omega) (by omega)) ?_
        refine RW.q (v := .int .u64 ((U / Y1 : Nat) : Int)) rfl (q_assign rfl) ?_
        refine RW.nil ?_
        refine Post.then_n ?_
        refine AW.seq ?_
        refine AW.region ?_
        refine RW.q (v := .int .u64 ((U : Nat) : Int)) rfl (q_move rfl) ?_
        refine RW.q (v := .int .u64 ((U / Y1 : Nat) : Int)) rfl (q_move rfl) ?_
        refine RW.q (v := .int .u64 ((Y1 : Nat) : Int)) rfl (q_move rfl) ?_
        refine RW.q (v := .int .u64 (((U / Y1) * Y1 : Nat) : Int)) rfl (q_mulU (a := (U / Y1)) (b := Y1) rfl rfl (Nat.mod_eq_of_lt (by omega))) ?_
        refine RW.q (v := .int .u64 ((U % (Y1) : Nat) : Int)) rfl (q_as (v := .int .u64 ((U - ((U / Y1) * Y1) : Nat) : Int)) (q_subU (a := U) (b := ((U / Y1) * Y1)) rfl rfl (by omega)) (congrArg (Value.int .u64) (by omega))) ?_
        refine RW.q (v := .int .u64 ((U % (Y1) : Nat) : Int)) rfl (q_assign rfl) ?_
        refine RW.nil ?_
        refine Post.then_n ?_
        refine AW.seq ?_
        refine AW.block ?_
        refine AW.loop (fun s J m => ∃ (q : Nat), ∃ (r : Nat), s = [(2, .int .u64 ((Y : Nat) : Int)), (8, .int .u64 ((sh : Nat) : Int)), (9, .int .u64 ((Y1 : Nat) : Int)), (10, .int .u64 ((Y0 : Nat) : Int)), (11, .int .u64 ((U : Nat) : Int)), (13, .int .u64 ((W1 : Nat) : Int)), (14, .int .u64 ((W0 : Nat) : Int)), (15, .int .u64 ((q : Nat) : Int)), (16, .int .u64 ((r : Nat) : Int))] ∧ J = St ⟨w, Φ, []⟩ Φ [] ∧ m = q + 0 * q ∧ (q * (Y1) + r = U) ∧ (Q1 ≤ q) ∧ (q ≤ 4294967296 + 1) ∧ (r < 4294967296)) (s0 := _) (J1 := _) (m0 := _) ⟨_, _, rfl, rfl, rfl, hf4, hf1, hf2, (by omega)⟩ ⟨rfl, rfl, rfl, rfl, rfl, rfl, rfl, rfl, rfl, trivial⟩ (fun _ h => h) ?_
        rintro _ _ _ _ ⟨q, r, rfl, rfl, rfl, hq, hQ, hqB, hr⟩
        refine AW.seq ?_
        refine AW.seq ?_
        have hm9 : q * (Y0) ≤ (4294967296 + 1) * 4294967295 := Nat.mul_le_mul (by omega) (by omega)
        refine AW.region ?_
        refine RW.q (v := .int .u64 ((q : Nat) : Int)) rfl (q_move rfl) ?_
        refine RW.q (v := .bool (decide (((4294967296 : Nat) : Int) ≤ ((q : Nat) : Int)))) rfl (q_geq rfl rfl) ?_
        refine RW.q (v := .bool (decide (((4294967296 : Nat) : Int) ≤ ((q : Nat) : Int)))) rfl (q_move rfl) ?_
        refine RW.g (b := (decide (((4294967296 : Nat) : Int) ≤ ((q : Nat) : Int)))) (v := .int .u64 ((q : Nat) : Int)) rfl rfl rfl (fun h => q_move rfl) ?_
        refine RW.g (b := (decide (((4294967296 : Nat) : Int) ≤ ((q : Nat) : Int)))) (v := .int .u64 ((Y0 : Nat) : Int)) rfl rfl rfl (fun h => q_move rfl) ?_
        refine RW.g (b := (decide (((4294967296 : Nat) : Int) ≤ ((q : Nat) : Int)))) (v := .int .u64 ((q * Y0 : Nat) : Int)) rfl rfl rfl (fun h => q_mulU (a := q) (b := Y0) (gv_pos h) (gv_pos h) (Nat.mod_eq_of_lt (by (try simp [-List.getD_eq_getElem?_getD] at h); omega))) ?_
        refine RW.g (b := (decide (((4294967296 : Nat) : Int) ≤ ((q : Nat) : Int)))) (v := .int .u64 ((r : Nat) : Int)) rfl rfl rfl (fun h => q_move rfl) ?_
        refine RW.g (b := (decide (((4294967296 : Nat) : Int) ≤ ((q : Nat) : Int)))) (v := .int .u64 ((4294967296 * r : Nat) : Int)) rfl rfl rfl (fun h => q_mulU (a := 4294967296) (b := r) rfl (gv_pos h) (Nat.mod_eq_of_lt (by (try simp [-List.getD_eq_getElem?_getD] at h); omega))) ?_
        refine RW.g (b := (decide (((4294967296 : Nat) : Int) ≤ ((q : Nat) : Int)))) (v := .int .u64 ((W1 : Nat) : Int)) rfl rfl rfl (fun h => q_move rfl) ?_
        refine RW.g (b := (decide (((4294967296 : Nat) : Int) ≤ ((q : Nat) : Int)))) (v := .int .u64 (((4294967296 * r) + W1 : Nat) : Int)) rfl rfl rfl (fun h => q_addU (a := (4294967296 * r)) (b := W1) (gv_pos h) (gv_pos h) (Nat.mod_eq_of_lt (by (try simp [-List.getD_eq_getElem?_getD] at h); omega))) ?_
        refine RW.g (b := (decide (((4294967296 : Nat) : Int) ≤ ((q : Nat) : Int)))) (v := .bool (decide ((((4294967296 * r) + W1 : Nat) : Int) < ((q * Y0 : Nat) : Int)))) rfl rfl rfl (fun h => q_gtr (gv_pos h) (gv_pos h)) ?_
        refine RW.q (v := .bool ((decide (((4294967296 : Nat) : Int) ≤ ((q : Nat) : Int))) || (decide ((((4294967296 * r) + W1 : Nat) : Int) < ((q * Y0 : Nat) : Int))))) rfl (q_pick rfl (fun hp => pkOrT hp) (fun hp => (gv_pos hp).trans (pkOrF hp))) ?_
        refine RW.nil ?_
        refine Post.then_n ?_
        refine AW.cond (b := (decide (((4294967296 : Nat) : Int) ≤ ((q : Nat) : Int))) || (decide ((((4294967296 * r) + W1 : Nat) : Int) < ((q * Y0 : Nat) : Int)))) rfl (fun hc4 => ?_) (fun hc4 => ?_)
        · simp [-List.getD_eq_getElem?_getD] at hc4
          refine AW.skip ?_
          refine Post.then_n ?_
          refine AW.block ?_
          refine AW.seq ?_
          have hdn := Nums.kn_down (d := W1) hyd hq hUY (by omega) (by rw [hQ1]; exact hQ) (by omega)
          rw [hQ1] at hdn
          refine AW.region ?_
          refine RW.q (v := .int .u64 ((q : Nat) : Int)) rfl (q_move rfl) ?_
          refine RW.q (v := .int .u64 ((q - 1 : Nat) : Int)) rfl (q_subU (a := q) (b := 1) rfl rfl (by omega)) ?_
          refine RW.q (v := .int .u64 ((q - 1 : Nat) : Int)) rfl (q_assign rfl) ?_
          refine RW.nil ?_
          refine Post.then_n ?_
          refine AW.seq ?_
          refine AW.region ?_
          refine RW.q (v := .int .u64 ((r : Nat) : Int)) rfl (q_move rfl) ?_
          refine RW.q (v := .int .u64 ((Y1 : Nat) : Int)) rfl (q_move rfl) ?_
          refine RW.q (v := .int .u64 ((r + Y1 : Nat) : Int)) rfl (q_addU (a := r) (b := Y1) rfl rfl (Nat.mod_eq_of_lt (by omega))) ?_
          refine RW.q (v := .int .u64 ((r + Y1 : Nat) : Int)) rfl (q_assign rfl) ?_
          refine RW.nil ?_
          refine Post.then_n ?_
          refine AW.seq ?_
          refine AW.region ?_
          refine RW.q (v := .int .u64 ((r + Y1 : Nat) : Int)) rfl (q_move rfl) ?_
          refine RW.q (v := .bool (decide (((4294967296 : Nat) : Int) ≤ ((r + Y1 : Nat) : Int)))) rfl (q_geq rfl rfl) ?_
          refine RW.nil ?_
          refine Post.then_n ?_
          refine AW.cond (b := decide (((4294967296 : Nat) : Int) ≤ ((r + Y1 : Nat) : Int))) rfl (fun hc5 => ?_) (fun hc5 => ?_)
          · simp [-List.getD_eq_getElem?_getD] at hc5
            refine AW.exit ?_
            refine Post.blk_miss rfl (Post.then_x (Post.blk_hit (Post.then_n ?_)))
            refine AW.seq ?_
            have hqe : q - 1 = Q1 := by
              have hp9 := Nums.kn_end (d := W1) (q := q - 1) (r := r + Y1) hyd (kn_dec hq hdn.1) hUY (by rw [hQ1]; exact hdn.2) (Nums.kn_break (by omega) (by omega) (by omega))
              rw [hp9, hQ1]
            rw [hqe]
            obtain ⟨ha1, hb1⟩ := Nums.kn_rest (u := U) (d := W1) (y := Y) (B := 4294967296) (M := 18446744073709551616) (by omega) (by omega)
            rw [hQ1, hR1] at hb1
            refine AW.region ?_
            refine RW.q (v := .int .u64 ((U : Nat) : Int)) rfl (q_move rfl) ?_
            refine RW.q (v := .int .u64 ((U * 4294967296 % 18446744073709551616 : Nat) : Int)) rfl (q_mulU (a := U) (b := 4294967296) rfl rfl rfl) ?_
            refine RW.q (v := .int .u64 ((W1 : Nat) : Int)) rfl (q_move rfl) ?_
            refine RW.q (v := .int .u64 (((U * 4294967296 % 18446744073709551616 + W1) % 18446744073709551616 : Nat) : Int)) rfl (q_addU (a := (U * 4294967296 % 18446744073709551616)) (b := W1) rfl rfl rfl) ?_
            refine RW.q (v := .int .u64 ((Q1 : Nat) : Int)) rfl (q_move rfl) ?_
            refine RW.q (v := .int .u64 ((Y : Nat) : Int)) rfl (q_move rfl) ?_
            refine RW.q (v := .int .u64 ((Q1 * Y % 18446744073709551616 : Nat) : Int)) rfl (q_mulU (a := Q1) (b := Y) rfl rfl rfl) ?_
            refine RW.q (v := .int .u64 ((R1 : Nat) : Int)) rfl (q_subU (a := ((U * 4294967296 % 18446744073709551616 + W1) % 18446744073709551616)) (b := (Q1 * Y % 18446744073709551616)) rfl rfl (by rw [ha1]; exact hb1)) ?_
            refine RW.q (v := .int .u64 ((R1 : Nat) : Int)) rfl (q_assign rfl) ?_
            refine RW.nil ?_
            refine Post.then_n ?_
            refine AW.seq ?_
            have hf1 := Nums.kn_first (u := R1) (d := W0) hyd hy1p (by omega)
            rw [hQ0] at hf1
            have hf2 := Nums.kn_top (u := R1) (B := 4294967296) hyd (by omega) (by omega) hRY hy1p
            have hf3 : R1 / (Y1) * (Y1) ≤ R1 := Nat.div_mul_le_self _ _
            have hf4 : R1 / (Y1) * (Y1) + R1 % (Y1) = R1 := Nat.div_add_mod' _ _
            have hf5 : R1 % (Y1) < Y1 := Nat.mod_lt _ hy1p
            refine AW.region ?_
            refine RW.q (v := .int .u64 ((R1 : Nat) : Int)) rfl (q_move rfl) ?_
            refine RW.q (v := .int .u64 ((Y1 : Nat) : Int)) rfl (q_move rfl) ?_
            refine RW.q (v := .int .u64 ((R1 / Y1 : Nat) : Int)) rfl (q_quoU (a := R1) (b := Y1) rfl rfl (by omega) (by omega)) ?_
            refine RW.q (v := .int .u64 ((R1 / Y1 : Nat) : Int)) rfl (q_assign rfl) ?_
            refine RW.nil ?_
            refine Post.then_n ?_
            refine AW.seq ?_
            refine AW.region ?_
            refine RW.q (v := .int .u64 ((R1 : Nat) : Int)) rfl (q_move rfl) ?_
            refine RW.q (v := .int .u64 ((R1 / Y1 : Nat) : Int)) rfl (q_move rfl) ?_
            refine RW.q (v := .int .u64 ((Y1 : Nat) : Int)) rfl (q_move rfl) ?_
            refine RW.q (v := .int .u64 (((R1 / Y1) * Y1 : Nat) : Int)) rfl (q_mulU (a := (R1 / Y1)) (b := Y1) rfl rfl (Nat.mod_eq_of_lt (by omega))) ?_
            refine RW.q (v := .int .u64 ((R1 % (Y1) : Nat) : Int)) rfl (q_as (v := .int .u64 ((R1 - ((R1 / Y1) * Y1) : Nat) : Int)) (q_subU (a := R1) (b := ((R1 / Y1) * Y1)) rfl rfl (by omega)) (congrArg (Value.int .u64) (by omega))) ?_
            refine RW.q (v := .int .u64 ((R1 % (Y1) : Nat) : Int)) rfl (q_assign rfl) ?_
            refine RW.nil ?_
            refine Post.then_n ?_
            refine AW.seq ?_
            refine AW.block ?_
            refine AW.loop (fun s J m => ∃ (q : Nat), ∃ (r : Nat), s = [(2, .int .u64 ((Y : Nat) : Int)), (8, .int .u64 ((sh : Nat) : Int)), (9, .int .u64 ((Y1 : Nat) : Int)), (10, .int .u64 ((Y0 : Nat) : Int)), (13, .int .u64 ((W1 : Nat) : Int)), (14, .int .u64 ((W0 : Nat) : Int)), (15, .int .u64 ((Q1 : Nat) : Int)), (17, .int .u64 ((R1 : Nat) : Int)), (18, .int .u64 ((q : Nat) : Int)), (16, .int .u64 ((r : Nat) : Int))] ∧ J = St ⟨w, Φ, []⟩ Φ [] ∧ m = q + 0 * q ∧ (q * (Y1) + r = R1) ∧ (Q0 ≤ q) ∧ (q ≤ 4294967296 + 1) ∧ (r < 4294967296)) (s0 := _) (J1 := _) (m0 := _) ⟨_, _, rfl, rfl, rfl, hf4, hf1, hf2, (by omega)⟩ ⟨rfl, rfl, rfl, rfl, rfl, rfl, rfl, rfl, rfl, rfl, trivial⟩ (fun _ h => h) ?_
            rintro _ _ _ _ ⟨q, r, rfl, rfl, rfl, hq, hQ, hqB, hr⟩
            refine AW.seq ?_
            refine AW.seq ?_
            have hm9 : q * (Y0) ≤ (4294967296 + 1) * 4294967295 := Nat.mul_le_mul (by omega) (by omega)
            refine AW.region ?_
            refine RW.q (v := .int .u64 ((q : Nat) : Int)) rfl (q_move rfl) ?_
            refine RW.q (v := .bool (decide (((4294967296 : Nat) : Int) ≤ ((q : Nat) : Int)))) rfl (q_geq rfl rfl) ?_
            refine RW.q (v := .bool (decide (((4294967296 : Nat) : Int) ≤ ((q : Nat) : Int)))) rfl (q_move rfl) ?_
            refine RW.g (b := (decide (((4294967296 : Nat) : Int) ≤ ((q : Nat) : Int)))) (v := .int .u64 ((q : Nat) : Int)) rfl rfl rfl (fun h => q_move rfl) ?_
            refine RW.g (b := (decide (((4294967296 : Nat) : Int) ≤ ((q : Nat) : Int)))) (v := .int .u64 ((Y0 : Nat) : Int)) rfl rfl rfl (fun h => q_move rfl) ?_
            refine RW.g (b := (decide (((4294967296 : Nat) : Int) ≤ ((q : Nat) : Int)))) (v := .int .u64 ((q * Y0 : Nat) : Int)) rfl rfl rfl (fun h => q_mulU (a := q) (b := Y0) (gv_pos h) (gv_pos h) (Nat.mod_eq_of_lt (by (try simp [-List.getD_eq_getElem?_getD] at h); omega))) ?_
            refine RW.g (b := (decide (((4294967296 : Nat) : Int) ≤ ((q : Nat) : Int)))) (v := .int .u64 ((r : Nat) : Int)) rfl rfl rfl (fun h => q_move rfl) ?_
            refine RW.g (b := (decide (((4294967296 : Nat) : Int) ≤ ((q : Nat) : Int)))) (v := .int .u64 ((4294967296 * r : Nat) : Int)) rfl rfl rfl (fun h => q_mulU (a := 4294967296) (b := r) rfl (gv_pos h) (Nat.mod_eq_of_lt (by (try simp [-List.getD_eq_getElem?_getD] at h); omega))) ?_
            refine RW.g (b := (decide (((4294967296 : Nat) : Int) ≤ ((q : Nat) : Int)))) (v := .int .u64 ((W0 : Nat) : Int)) rfl rfl rfl (fun h => q_move rfl) ?_
            refine RW.g (b := (decide (((4294967296 : Nat) : Int) ≤ ((q : Nat) : Int)))) (v := .int .u64 (((4294967296 * r) + W0 : Nat) : Int)) rfl rfl rfl (fun h => q_addU (a := (4294967296 * r)) (b := W0) (gv_pos h) (gv_pos h) (Nat.mod_eq_of_lt (by (try simp [-List.getD_eq_getElem?_getD] at h); omega))) ?_
            refine RW.g (b := (decide (((4294967296 : Nat) : Int) ≤ ((q : Nat) : Int)))) (v := .bool (decide ((((4294967296 * r) + W0 : Nat) : Int) < ((q * Y0 : Nat) : Int)))) rfl rfl rfl (fun h => q_gtr (gv_pos h) (gv_pos h)) ?_
            refine RW.q (v := .bool ((decide (((4294967296 : Nat) : Int) ≤ ((q : Nat) : Int))) || (decide ((((4294967296 * r) + W0 : Nat) : Int) < ((q * Y0 : Nat) : Int))))) rfl (q_pick rfl (fun hp => pkOrT hp) (fun hp => (gv_pos hp).trans (pkOrF hp))) ?_
            refine RW.nil ?_
            refine Post.then_n ?_
            refine AW.cond (b := (decide (((4294967296 : Nat) : Int) ≤ ((q : Nat) : Int))) || (decide ((((4294967296 * r) + W0 : Nat) : Int) < ((q * Y0 : Nat) : Int)))) rfl (fun hc6 => ?_) (fun hc6 => ?_)
            · simp [-List.getD_eq_getElem?_getD] at hc6
              refine AW.skip ?_
              refine Post.then_n ?_
              refine AW.block ?_
              refine AW.seq ?_
              have hdn := Nums.kn_down (d := W0) hyd hq hRY (by omega) (by rw [hQ0]; exact hQ) (by omega)
              rw [hQ0] at hdn
              refine AW.region ?_
              refine RW.q (v := .int .u64 ((q : Nat) : Int)) rfl (q_move rfl) ?_
              refine RW.q (v := .int .u64 ((q - 1 : Nat) : Int)) rfl (q_subU (a := q) (b := 1) rfl rfl (by omega)) ?_
              refine RW.q (v := .int .u64 ((q - 1 : Nat) : Int)) rfl (q_assign rfl) ?_
              refine RW.nil ?_
              refine Post.then_n ?_
              refine AW.seq ?_
              refine AW.region ?_
              refine RW.q (v := .int .u64 ((r : Nat) : Int)) rfl (q_move rfl) ?_
              refine RW.q (v := .int .u64 ((Y1 : Nat) : Int)) rfl (q_move rfl) ?_
              refine RW.q (v := .int .u64 ((r + Y1 : Nat) : Int)) rfl (q_addU (a := r) (b := Y1) rfl rfl (Nat.mod_eq_of_lt (by omega))) ?_
              refine RW.q (v := .int .u64 ((r + Y1 : Nat) : Int)) rfl (q_assign rfl) ?_
              refine RW.nil ?_
              refine Post.then_n ?_
              refine AW.seq ?_
              refine AW.region ?_
              refine RW.q (v := .int .u64 ((r + Y1 : Nat) : Int)) rfl (q_move rfl) ?_
              refine RW.q (v := .bool (decide (((4294967296 : Nat) : Int) ≤ ((r + Y1 : Nat) : Int)))) rfl (q_geq rfl rfl) ?_
              refine RW.nil ?_
              refine Post.then_n ?_
              refine AW.cond (b := decide (((4294967296 : Nat) : Int) ≤ ((r + Y1 : Nat) : Int))) rfl (fun hc7 => ?_) (fun hc7 => ?_)
              · simp [-List.getD_eq_getElem?_getD] at hc7
                refine AW.exit ?_
                refine Post.blk_miss rfl (Post.then_x (Post.blk_hit (Post.then_n ?_)))
                refine AW.seq ?_
                have hqe : q - 1 = Q0 := by
                  have hp9 := Nums.kn_end (d := W0) (q := q - 1) (r := r + Y1) hyd (kn_dec hq hdn.1) hRY (by rw [hQ0]; exact hdn.2) (Nums.kn_break (by omega) (by omega) (by omega))
                  rw [hp9, hQ0]
                rw [hqe]
                obtain ⟨ha0, hb0⟩ := Nums.kn_rest (u := R1) (d := W0) (y := Y) (B := 4294967296) (M := 18446744073709551616) (by omega) (by omega)
                rw [hQ0, hR0] at hb0
                refine AW.region ?_
                refine RW.q (v := .int .u64 ((Q1 : Nat) : Int)) rfl (q_move rfl) ?_
                refine RW.q (v := .int .u64 ((Q1 * 4294967296 : Nat) : Int)) rfl (q_mulU (a := Q1) (b := 4294967296) rfl rfl (Nat.mod_eq_of_lt (by omega))) ?_
                refine RW.q (v := .int .u64 ((Q0 : Nat) : Int)) rfl (q_move rfl) ?_
                refine RW.q (v := .int .u64 (((Q1 * 4294967296) + Q0 : Nat) : Int)) rfl (q_addU (a := (Q1 * 4294967296)) (b := Q0) rfl rfl (Nat.mod_eq_of_lt (by omega))) ?_
                refine RW.q (v := .int .u64 ((R1 : Nat) : Int)) rfl (q_move rfl) ?_
                refine RW.q (v := .int .u64 ((R1 * 4294967296 % 18446744073709551616 : Nat) : Int)) rfl (q_mulU (a := R1) (b := 4294967296) rfl rfl rfl) ?_
                refine RW.q (v := .int .u64 ((W0 : Nat) : Int)) rfl (q_move rfl) ?_
                refine RW.q (v := .int .u64 (((R1 * 4294967296 % 18446744073709551616 + W0) % 18446744073709551616 : Nat) : Int)) rfl (q_addU (a := (R1 * 4294967296 % 18446744073709551616)) (b := W0) rfl rfl rfl) ?_
                refine RW.q (v := .int .u64 ((Q0 : Nat) : Int)) rfl (q_move rfl) ?_
                refine RW.q (v := .int .u64 ((Y : Nat) : Int)) rfl (q_move rfl) ?_
                refine RW.q (v := .int .u64 ((Q0 * Y % 18446744073709551616 : Nat) : Int)) rfl (q_mulU (a := Q0) (b := Y) rfl rfl rfl) ?_
                refine RW.q (v := .int .u64 ((R0 : Nat) : Int)) rfl (q_subU (a := ((R1 * 4294967296 % 18446744073709551616 + W0) % 18446744073709551616)) (b := (Q0 * Y % 18446744073709551616)) rfl rfl (by rw [ha0]; exact hb0)) ?_
                refine RW.q (v := .int .u64 ((sh : Nat) : Int)) rfl (q_move rfl) ?_
                refine RW.q (v := .int .u64 ((R0 / 2 ^ sh : Nat) : Int)) rfl (q_shrU' (a := R0) (c := sh) rfl rfl (by omega)) ?_
                refine RW.q (v := .int .u64 (((Q1 * 4294967296) + Q0 : Nat) : Int)) rfl (q_assign rfl) ?_
                refine RW.q (v := .int .u64 ((R0 / 2 ^ sh : Nat) : Int)) rfl (q_assign rfl) ?_
                refine RW.nil ?_
                refine Post.then_n ?_
                refine AW.ret ?_
                refine fin_out2 (v := .int .u64 (((Q1 * 4294967296) + Q0 : Nat) : Int)) (u := .int .u64 ((R0 / 2 ^ sh : Nat) : Int)) rfl rfl rfl rfl (fun w' hw => ?_)
                refine ⟨?_, hw.below rfl⟩
                subst hW1 hW0
                have hfin := Nums.div128 (hi := hi) (lo := lo) (y := y) (u := U) (v := V) (y' := Y) (Q1 := Q1) (r1 := R1) (Q0 := Q0) hs64 hY.symm hU.symm hV.symm hy0 hQ1.symm hR1.symm hQ0.symm
                rw [hR0] at hfin
                rw [hfin.1, hfin.2]
              · simp [-List.getD_eq_getElem?_getD] at hc7
                refine AW.skip ?_
                refine Post.blk_n ?_
                exact Post.back (s' := _) (J' := _) (m' := _) (by omega) ⟨q - 1, r + Y1, rfl, rfl, rfl, (kn_dec hq hdn.1), hdn.2, (by omega), (by omega)⟩ ⟨rfl, rfl, rfl, rfl, rfl, rfl, rfl, rfl, rfl, rfl, trivial⟩ (fun _ h => h)
            · simp [-List.getD_eq_getElem?_getD] at hc6
              refine AW.exit ?_
              refine Post.then_x (Post.then_x (Post.blk_hit (Post.then_n ?_)))
              refine AW.seq ?_
              have hqe : q = Q0 := by
                have hp9 := Nums.kn_end (d := W0) hyd hq hRY (by rw [hQ0]; exact hQ) (by omega)
                rw [hp9, hQ0]
              rw [hqe]
              obtain ⟨ha0, hb0⟩ := Nums.kn_rest (u := R1) (d := W0) (y := Y) (B := 4294967296) (M := 18446744073709551616) (by omega) (by omega)
              rw [hQ0, hR0] at hb0
              refine AW.region ?_
              refine RW.q (v := .int .u64 ((Q1 : Nat) : Int)) rfl (q_move rfl) ?_
              refine RW.q (v := .int .u64 ((Q1 * 4294967296 : Nat) : Int)) rfl (q_mulU (a := Q1) (b := 4294967296) rfl rfl (Nat.mod_eq_of_lt (by omega))) ?_
              refine RW.q (v := .int .u64 ((Q0 : Nat) : Int)) rfl (q_move rfl) ?_
              refine RW.q (v := .int .u64 (((Q1 * 4294967296) + Q0 : Nat) : Int)) rfl (q_addU (a := (Q1 * 4294967296)) (b := Q0) rfl rfl (Nat.mod_eq_of_lt (by omega))) ?_
              refine RW.q (v := .int .u64 ((R1 : Nat) : Int)) rfl (q_move rfl) ?_
              refine RW.q (v := .int .u64 ((R1 * 4294967296 % 18446744073709551616 : Nat) : Int)) rfl (q_mulU (a := R1) (b := 4294967296) rfl rfl rfl) ?_
              refine RW.q (v := .int .u64 ((W0 : Nat) : Int)) rfl (q_move rfl) ?_
              refine RW.q (v := .int .u64 (((R1 * 4294967296 % 18446744073709551616 + W0) % 18446744073709551616 : Nat) : Int)) rfl (q_addU (a := (R1 * 4294967296 % 18446744073709551616)) (b := W0) rfl rfl rfl) ?_
              refine RW.q (v := .int .u64 ((Q0 : Nat) : Int)) rfl (q_move rfl) ?_
              refine RW.q (v := .int .u64 ((Y : Nat) : Int)) rfl (q_move rfl) ?_
              refine RW.q (v := .int .u64 ((Q0 * Y % 18446744073709551616 : Nat) : Int)) rfl (q_mulU (a := Q0) (b := Y) rfl rfl rfl) ?_
              refine RW.q (v := .int .u64 ((R0 : Nat) : Int)) rfl (q_subU (a := ((R1 * 4294967296 % 18446744073709551616 + W0) % 18446744073709551616)) (b := (Q0 * Y % 18446744073709551616)) rfl rfl (by rw [ha0]; exact hb0)) ?_
              refine RW.q (v := .int .u64 ((sh : Nat) : Int)) rfl (q_move rfl) ?_
              refine RW.q (v := .int .u64 ((R0 / 2 ^ sh : Nat) : Int)) rfl (q_shrU' (a := R0) (c := sh) rfl rfl (by omega)) ?_
              refine RW.q (v := .int .u64 (((Q1 * 4294967296) + Q0 : Nat) : Int)) rfl (q_assign rfl) ?_
              refine RW.q (v := .int .u64 ((R0 / 2 ^ sh : Nat) : Int)) rfl (q_assign rfl) ?_
              refine RW.nil ?_
              refine Post.then_n ?_
              refine AW.ret ?_
              refine fin_out2 (v := .int .u64 (((Q1 * 4294967296) + Q0 : Nat) : Int)) (u := .int .u64 ((R0 / 2 ^ sh : Nat) : Int)) rfl rfl rfl rfl (fun w' hw => ?_)
              refine ⟨?_, hw.below rfl⟩
              subst hW1 hW0
              have hfin := Nums.div128 (hi := hi) (lo := lo) (y := y) (u := U) (v := V) (y' := Y) (Q1 := Q1) (r1 := R1) (Q0 := Q0) hs64 hY.symm hU.symm hV.symm hy0 hQ1.symm hR1.symm hQ0.symm
              rw [hR0] at hfin
              rw [hfin.1, hfin.2]
          · simp [-List.getD_eq_getElem?_getD] at hc5
            refine AW.skip ?_
            refine Post.blk_n ?_
            exact Post.back (s' := _) (J' := _) (m' := _) (by omega) ⟨q - 1, r + Y1, rfl, rfl, rfl, (kn_dec hq hdn.1), hdn.2, (by omega), (by omega)⟩ ⟨rfl, rfl, rfl, rfl, rfl, rfl, rfl, rfl, rfl, trivial⟩ (fun _ h => h)
        · simp [-List.getD_eq_getElem?_getD] at hc4
          refine AW.exit ?_
          refine Post.then_x (Post.then_x (Post.blk_hit (Post.then_n ?_)))
          refine AW.seq ?_
          have hqe : q = Q1 := by
            have hp9 := Nums.kn_end (d := W1) hyd hq hUY (by rw [hQ1]; exact hQ) (by omega)
            rw [hp9, hQ1]
          rw [hqe]
          obtain ⟨ha1, hb1⟩ := Nums.kn_rest (u := U) (d := W1) (y := Y) (B := 4294967296) (M := 18446744073709551616) (by omega) (by omega)
          rw [hQ1, hR1] at hb1
          refine AW.region ?_
          refine RW.q (v := .int .u64 ((U : Nat) : Int)) rfl (q_move rfl) ?_
          refine RW.q (v := .int .u64 ((U * 4294967296 % 18446744073709551616 : Nat) : Int)) rfl (q_mulU (a := U) (b := 4294967296) rfl rfl rfl) ?_
          refine RW.q (v := .int .u64 ((W1 : Nat) : Int)) rfl (q_move rfl) ?_
          refine RW.q (v := .int .u64 (((U * 4294967296 % 18446744073709551616 + W1) % 18446744073709551616 : Nat) : Int)) rfl (q_addU (a := (U * 4294967296 % 18446744073709551616)) (b := W1) rfl rfl rfl) ?_
          refine RW.q (v := .int .u64 ((Q1 : Nat) : Int)) rfl (q_move rfl) ?_
          refine RW.q (v := .int .u64 ((Y : Nat) : Int)) rfl (q_move rfl) ?_
          refine RW.q (v := .int .u64 ((Q1 * Y % 18446744073709551616 : Nat) : Int)) rfl (q_mulU (a := Q1) (b := Y) rfl rfl rfl) ?_
          refine RW.q (v := .int .u64 ((R1 : Nat) : Int)) rfl (q_subU (a := ((U * 4294967296 % 18446744073709551616 + W1) % 18446744073709551616)) (b := (Q1 * Y % 18446744073709551616)) rfl rfl (by rw [ha1]; exact hb1)) ?_
          refine RW.q (v := .int .u64 ((R1 : Nat) : Int)) rfl (q_assign rfl) ?_
          refine RW.nil ?_
          refine Post.then_n ?_
          refine AW.seq ?_
          have hf1 := Nums.kn_first (u := R1) (d := W0) hyd hy1p (by omega)
          rw [hQ0] at hf1
          have hf2 := Nums.kn_top (u := R1) (B := 4294967296) hyd (by omega) (by omega) hRY hy1p
          have hf3 : R1 / (Y1) * (Y1) ≤ R1 := Nat.div_mul_le_self _ _
          have hf4 : R1 / (Y1) * (Y1) + R1 % (Y1) = R1 := Nat.div_add_mod' _ _
          have hf5 : R1 % (Y1) < Y1 := Nat.mod_lt _ hy1p
          refine AW.region ?_
          refine RW.q (v := .int .u64 ((R1 : Nat) : Int)) rfl (q_move rfl) ?_
          refine RW.q (v := .int .u64 ((Y1 : Nat) : Int)) rfl (q_move rfl) ?_
          refine RW.q (v := .int .u64 ((R1 / Y1 : Nat) : Int)) rfl (q_quoU (a := R1) (b := Y1) rfl rfl (by omega) (by omega)) ?_
          refine RW.q (v := .int .u64 ((R1 / Y1 : Nat) : Int)) rfl (q_assign rfl) ?_
          refine RW.nil ?_
          refine Post.then_n ?_
          refine AW.seq ?_
          refine AW.region ?_
          refine RW.q (v := .int .u64 ((R1 : Nat) : Int)) rfl (q_move rfl) ?_
          refine RW.q (v := .int .u64 ((R1 / Y1 : Nat) : Int)) rfl (q_move rfl) ?_
          refine RW.q (v := .int .u64 ((Y1 : Nat) : Int)) rfl (q_move rfl) ?_
          refine RW.q (v := .int .u64 (((R1 / Y1) * Y1 : Nat) : Int)) rfl (q_mulU (a := (R1 / Y1)) (b := Y1) rfl rfl (Nat.mod_eq_of_lt (by omega))) ?_
          refine RW.q (v := .int .u64 ((R1 % (Y1) : Nat) : Int)) rfl (q_as (v := .int .u64 ((R1 - ((R1 / Y1) * Y1) : Nat) : Int)) (q_subU (a := R1) (b := ((R1 / Y1) * Y1)) rfl rfl (by omega)) (congrArg (Value.int .u64) (by omega))) ?_
          refine RW.q (v := .int .u64 ((R1 % (Y1) : Nat) : Int)) rfl (q_assign rfl) ?_
          refine RW.nil ?_
          refine Post.then_n ?_
          refine AW.seq ?_
          refine AW.block ?_
          refine AW.loop (fun s J m => ∃ (q : Nat), ∃ (r : Nat), s = [(2, .int .u64 ((Y : Nat) : Int)), (8, .int .u64 ((sh : Nat) : Int)), (9, .int .u64 ((Y1 : Nat) : Int)), (10, .int .u64 ((Y0 : Nat) : Int)), (13, .int .u64 ((W1 : Nat) : Int)), (14, .int .u64 ((W0 : Nat) : Int)), (15, .int .u64 ((Q1 : Nat) : Int)), (17, .int .u64 ((R1 : Nat) : Int)), (18, .int .u64 ((q : Nat) : Int)), (16, .int .u64 ((r : Nat) : Int))] ∧ J = St ⟨w, Φ, []⟩ Φ [] ∧ m = q + 0 * q ∧ (q * (Y1) + r = R1) ∧ (Q0 ≤ q) ∧ (q ≤ 4294967296 + 1) ∧ (r < 4294967296)) (s0 := _) (J1 := _) (m0 := _) ⟨_, _, rfl, rfl, rfl, hf4, hf1, hf2, (by omega)⟩ ⟨rfl, rfl, rfl, rfl, rfl, rfl, rfl, rfl, rfl, rfl, trivial⟩ (fun _ h => h) ?_
          rintro _ _ _ _ ⟨q, r, rfl, rfl, rfl, hq, hQ, hqB, hr⟩
          refine AW.seq ?_
          refine AW.seq ?_
          have hm9 : q * (Y0) ≤ (4294967296 + 1) * 4294967295 := Nat.mul_le_mul (by omega) (by omega)
          refine AW.region ?_
          refine RW.q (v := .int .u64 ((q : Nat) : Int)) rfl (q_move rfl) ?_
          refine RW.q (v := .bool (decide (((4294967296 : Nat) : Int) ≤ ((q : Nat) : Int)))) rfl (q_geq rfl rfl) ?_
          refine RW.q (v := .bool (decide (((4294967296 : Nat) : Int) ≤ ((q : Nat) : Int)))) rfl (q_move rfl) ?_
          refine RW.g (b := (decide (((4294967296 : Nat) : Int) ≤ ((q : Nat) : Int)))) (v := .int .u64 ((q : Nat) : Int)) rfl rfl rfl (fun h => q_move rfl) ?_
          refine RW.g (b := (decide (((4294967296 : Nat) : Int) ≤ ((q : Nat) : Int)))) (v := .int .u64 ((Y0 : Nat) : Int)) rfl rfl rfl (fun h => q_move rfl) ?_
          refine RW.g (b := (decide (((4294967296 : Nat) : Int) ≤ ((q : Nat) : Int)))) (v := .int .u64 ((q * Y0 : Nat) : Int)) rfl rfl rfl (fun h => q_mulU (a := q) (b := Y0) (gv_pos h) (gv_pos h) (Nat.mod_eq_of_lt (by (try simp [-List.getD_eq_getElem?_getD] at h); omega))) ?_
          refine RW.g (b := (decide (((4294967296 : Nat) : Int) ≤ ((q : Nat) : Int)))) (v := .int .u64 ((r : Nat) : Int)) rfl rfl rfl (fun h => q_move rfl) ?_
          refine RW.g (b := (decide (((4294967296 : Nat) : Int) ≤ ((q : Nat) : Int)))) (v := .int .u64 ((4294967296 * r : Nat) : Int)) rfl rfl rfl (fun h => q_mulU (a := 4294967296) (b := r) rfl (gv_pos h) (Nat.mod_eq_of_lt (by (try simp [-List.getD_eq_getElem?_getD] at h); omega))) ?_
          refine RW.g (b := (decide (((4294967296 : Nat) : Int) ≤ ((q : Nat) : Int)))) (v := .int .u64 ((W0 : Nat) : Int)) rfl rfl rfl (fun h => q_move rfl) ?_
          refine RW.g (b := (decide (((4294967296 : Nat) : Int) ≤ ((q : Nat) : Int)))) (v := .int .u64 (((4294967296 * r) + W0 : Nat) : Int)) rfl rfl rfl (fun h => q_addU (a := (4294967296 * r)) (b := W0) (gv_pos h) (gv_pos h) (Nat.mod_eq_of_lt (by (try simp [-List.getD_eq_getElem?_getD] at h); omega))) ?_
          refine RW.g (b := (decide (((4294967296 : Nat) : Int) ≤ ((q : Nat) : Int)))) (v := .bool (decide ((((4294967296 * r) + W0 : Nat) : Int) < ((q * Y0 : Nat) : Int)))) rfl rfl rfl (fun h => q_gtr (gv_pos h) (gv_pos h)) ?_
          refine RW.q (v := .bool ((decide (((4294967296 : Nat) : Int) ≤ ((q : Nat) : Int))) || (decide ((((4294967296 * r) + W0 : Nat) : Int) < ((q * Y0 : Nat) : Int))))) rfl (q_pick rfl (fun hp => pkOrT hp) (fun hp => (gv_pos hp).trans (pkOrF hp))) ?_
          refine RW.nil ?_
          refine Post.then_n ?_
          refine AW.cond (b := (decide (((4294967296 : Nat) : Int) ≤ ((q : Nat) : Int))) || (decide ((((4294967296 * r) + W0 : Nat) : Int) < ((q * Y0 : Nat) : Int)))) rfl (fun hc8 => ?_) (fun hc8 => ?_)
          · simp [-List.getD_eq_getElem?_getD] at hc8
            refine AW.skip ?_
            refine Post.then_n ?_
            refine AW.block ?_
            refine AW.seq ?_
            have hdn := Nums.kn_down (d := W0) hyd hq hRY (by omega) (by rw [hQ0]; exact hQ) (by omega)
            rw [hQ0] at hdn
            refine AW.region ?_
            refine RW.q (v := .int .u64 ((q : Nat) : Int)) rfl (q_move rfl) ?_
            refine RW.q (v := .int .u64 ((q - 1 : Nat) : Int)) rfl (q_subU (a := q) (b := 1) rfl rfl (by omega)) ?_
            refine RW.q (v := .int .u64 ((q - 1 : Nat) : Int)) rfl (q_assign rfl) ?_
            refine RW.nil ?_
            refine Post.then_n ?_
            refine AW.seq ?_
            refine AW.region ?_
            refine RW.q (v := .int .u64 ((r : Nat) : Int)) rfl (q_move rfl) ?_
            refine RW.q (v := .int .u64 ((Y1 : Nat) : Int)) rfl (q_move rfl) ?_
            refine RW.q (v := .int .u64 ((r + Y1 : Nat) : Int)) rfl (q_addU (a := r) (b := Y1) rfl rfl (Nat.mod_eq_of_lt (by omega))) ?_
            refine RW.q (v := .int .u64 ((r + Y1 : Nat) : Int)) rfl (q_assign rfl) ?_
            refine RW.nil ?_
            refine Post.then_n ?_
            refine AW.seq ?_
            refine AW.region ?_
            refine RW.q (v := .int .u64 ((r + Y1 : Nat) : Int)) rfl (q_move rfl) ?_
            refine RW.q (v := .bool (decide (((4294967296 : Nat) : Int) ≤ ((r + Y1 : Nat) : Int)))) rfl (q_geq rfl rfl) ?_
            refine RW.nil ?_
            refine Post.then_n ?_
            refine AW.cond (b := decide (((4294967296 : Nat) : Int) ≤ ((r + Y1 : Nat) : Int))) rfl (fun hc9 => ?_) (fun hc9 => ?_)
            · simp [-List.getD_eq_getElem?_getD] at hc9
              refine AW.exit ?_
              refine Post.blk_miss rfl (Post.then_x (Post.blk_hit (Post.then_n ?_)))
              refine AW.seq ?_
              have hqe : q - 1 = Q0 := by
                have hp9 := Nums.kn_end (d := W0) (q := q - 1) (r := r + Y1) hyd (kn_dec hq hdn.1) hRY (by rw [hQ0]; exact hdn.2) (Nums.kn_break (by omega) (by omega) (by omega))
                rw [hp9, hQ0]
              rw [hqe]
              obtain ⟨ha0, hb0⟩ := Nums.kn_rest (u := R1) (d := W0) (y := Y) (B := 4294967296) (M := 18446744073709551616) (by omega) (by omega)
              rw [hQ0, hR0] at hb0
              refine AW.region ?_
              refine RW.q (v := .int .u64 ((Q1 : Nat) : Int)) rfl (q_move rfl) ?_
              refine RW.q (v := .int .u64 ((Q1 * 4294967296 : Nat) : Int)) rfl (q_mulU (a := Q1) (b := 4294967296) rfl rfl (Nat.mod_eq_of_lt (by omega))) ?_
              refine RW.q (v := .int .u64 ((Q0 : Nat) : Int)) rfl (q_move rfl) ?_
              refine RW.q (v := .int .u64 (((Q1 * 4294967296) + Q0 : Nat) : Int)) rfl (q_addU (a := (Q1 * 4294967296)) (b := Q0) rfl rfl (Nat.mod_eq_of_lt (by omega))) ?_
              refine RW.q (v := .int .u64 ((R1 : Nat) : Int)) rfl (q_move rfl) ?_
              refine RW.q (v := .int .u64 ((R1 * 4294967296 % 18446744073709551616 : Nat) : Int)) rfl (q_mulU (a := R1) (b := 4294967296) rfl rfl rfl) ?_
              refine RW.q (v := .int .u64 ((W0 : Nat) : Int)) rfl (q_move rfl) ?_
              refine RW.q (v := .int .u64 (((R1 * 4294967296 % 18446744073709551616 + W0) % 18446744073709551616 : Nat) : Int)) rfl (q_addU (a := (R1 * 4294967296 % 18446744073709551616)) (b := W0) rfl rfl rfl) ?_
              refine RW.q (v := .int .u64 ((Q0 : Nat) : Int)) rfl (q_move rfl) ?_
              refine RW.q (v := .int .u64 ((Y : Nat) : Int)) rfl (q_move rfl) ?_
              refine RW.q (v := .int .u64 ((Q0 * Y % 18446744073709551616 : Nat) : Int)) rfl (q_mulU (a := Q0) (b := Y) rfl rfl rfl) ?_
              refine RW.q (v := .int .u64 ((R0 : Nat) : Int)) rfl (q_subU (a := ((R1 * 4294967296 % 18446744073709551616 + W0) % 18446744073709551616)) (b := (Q0 * Y % 18446744073709551616)) rfl rfl (by rw [ha0]; exact hb0)) ?_
              refine RW.q (v := .int .u64 ((sh : Nat) : Int)) rfl (q_move rfl) ?_
              refine RW.q (v := .int .u64 ((R0 / 2 ^ sh : Nat) : Int)) rfl (q_shrU' (a := R0) (c := sh) rfl rfl (by omega)) ?_
              refine RW.q (v := .int .u64 (((Q1 * 4294967296) + Q0 : Nat) : Int)) rfl (q_assign rfl) ?_
              refine RW.q (v := .int .u64 ((R0 / 2 ^ sh : Nat) : Int)) rfl (q_assign rfl) ?_
              refine RW.nil ?_
              refine Post.then_n ?_
              refine AW.ret ?_
              refine fin_out2 (v := .int .u64 (((Q1 * 4294967296) + Q0 : Nat) : Int)) (u := .int .u64 ((R0 / 2 ^ sh : Nat) : Int)) rfl rfl rfl rfl (fun w' hw => ?_)
              refine ⟨?_, hw.below rfl⟩
              subst hW1 hW0
              have hfin := Nums.div128 (hi := hi) (lo := lo) (y := y) (u := U) (v := V) (y' := Y) (Q1 := Q1) (r1 := R1) (Q0 := Q0) hs64 hY.symm hU.symm hV.symm hy0 hQ1.symm hR1.symm hQ0.symm
              rw [hR0] at hfin
              rw [hfin.1, hfin.2]
            · simp [-List.getD_eq_getElem?_getD] at hc9
              refine AW.skip ?_
              refine Post.blk_n ?_
              exact Post.back (s' := _) (J' := _) (m' := _) (by omega) ⟨q - 1, r + Y1, rfl, rfl, rfl, (kn_dec hq hdn.1), hdn.2, (by omega), (by omega)⟩ ⟨rfl, rfl, rfl, rfl, rfl, rfl, rfl, rfl, rfl, rfl, trivial⟩ (fun _ h => h)
          · simp [-List.getD_eq_getElem?_getD] at hc8
            refine AW.exit ?_
            refine Post.then_x (Post.then_x (Post.blk_hit (Post.then_n ?_)))
            refine AW.seq ?_
            have hqe : q = Q0 := by
              have hp9 := Nums.kn_end (d := W0) hyd hq hRY (by rw [hQ0]; exact hQ) (by omega)
              rw [hp9, hQ0]
            rw [hqe]
            obtain ⟨ha0, hb0⟩ := Nums.kn_rest (u := R1) (d := W0) (y := Y) (B := 4294967296) (M := 18446744073709551616) (by omega) (by omega)
            rw [hQ0, hR0] at hb0
            refine AW.region ?_
            refine RW.q (v := .int .u64 ((Q1 : Nat) : Int)) rfl (q_move rfl) ?_
            refine RW.q (v := .int .u64 ((Q1 * 4294967296 : Nat) : Int)) rfl (q_mulU (a := Q1) (b := 4294967296) rfl rfl (Nat.mod_eq_of_lt (by omega))) ?_
            refine RW.q (v := .int .u64 ((Q0 : Nat) : Int)) rfl (q_move rfl) ?_
            refine RW.q (v := .int .u64 (((Q1 * 4294967296) + Q0 : Nat) : Int)) rfl (q_addU (a := (Q1 * 4294967296)) (b := Q0) rfl rfl (Nat.mod_eq_of_lt (by omega))) ?_
            refine RW.q (v := .int .u64 ((R1 : Nat) : Int)) rfl (q_move rfl) ?_
            refine RW.q (v := .int .u64 ((R1 * 4294967296 % 18446744073709551616 : Nat) : Int)) rfl (q_mulU (a := R1) (b := 4294967296) rfl rfl rfl) ?_
            refine RW.q (v := .int .u64 ((W0 : Nat) : Int)) rfl (q_move rfl) ?_
            refine RW.q (v := .int .u64 (((R1 * 4294967296 % 18446744073709551616 + W0) % 18446744073709551616 : Nat) : Int)) rfl (q_addU (a := (R1 * 4294967296 % 18446744073709551616)) (b := W0) rfl rfl rfl) ?_
            refine RW.q (v := .int .u64 ((Q0 : Nat) : Int)) rfl (q_move rfl) ?_
            refine RW.q (v := .int .u64 ((Y : Nat) : Int)) rfl (q_move rfl) ?_
            refine RW.q (v := .int .u64 ((Q0 * Y % 18446744073709551616 : Nat) : Int)) rfl (q_mulU (a := Q0) (b := Y) rfl rfl rfl) ?_
            refine RW.q (v := .int .u64 ((R0 : Nat) : Int)) rfl (q_subU (a := ((R1 * 4294967296 % 18446744073709551616 + W0) % 18446744073709551616)) (b := (Q0 * Y % 18446744073709551616)) rfl rfl (by rw [ha0]; exact hb0)) ?_
            refine RW.q (v := .int .u64 ((sh : Nat) : Int)) rfl (q_move rfl) ?_
            refine RW.q (v := .int .u64 ((R0 / 2 ^ sh : Nat) : Int)) rfl (q_shrU' (a := R0) (c := sh) rfl rfl (by omega)) ?_
            refine RW.q (v := .int .u64 (((Q1 * 4294967296) + Q0 : Nat) : Int)) rfl (q_assign rfl) ?_
            refine RW.q (v := .int .u64 ((R0 / 2 ^ sh : Nat) : Int)) rfl (q_assign rfl) ?_
            refine RW.nil ?_
            refine Post.then_n ?_
            refine AW.ret ?_
            refine fin_out2 (v := .int .u64 (((Q1 * 4294967296) + Q0 : Nat) : Int)) (u := .int .u64 ((R0 / 2 ^ sh : Nat) : Int)) rfl rfl rfl rfl (fun w' hw => ?_)
            refine ⟨?_, hw.below rfl⟩
            subst hW1 hW0
            have hfin := Nums.div128 (hi := hi) (lo := lo) (y := y) (u := U) (v := V) (y' := Y) (Q1 := Q1) (r1 := R1) (Q0 := Q0) hs64 hY.symm hU.symm hV.symm hy0 hQ1.symm hR1.symm hQ0.symm
            rw [hR0] at hfin
            rw [hfin.1, hfin.2]

end Go.Proofs.YthiflhoobldioaaDoor
