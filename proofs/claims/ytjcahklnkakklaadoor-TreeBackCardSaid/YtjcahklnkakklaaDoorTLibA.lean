/- Walks (part LibA), printed by walk2.py. Conditions: those of each theorem. -/
import Derived.Test.YtjcahklnkakklaaDoorRows
import Derived.Test.YtjcahklnkakklaaDoorTCore5
import Derived.Test.YtjcahklnkakklaaDoorTNums
import Derived.Test.YtjcahklnkakklaaDoorTLen
import Derived.Test.YtjcahklnkakklaaDoorTAuto
import Derived.Lib.Walk
import Derived.Lib.Small
import Derived.Lib.ItoaNum
import Derived.Lib.Slices
import Derived.Lib.Strings
namespace Go.Proofs.YtjcahklnkakklaaDoor
open Go Go.K Go.RowKit
theorem uT3 : type_of% @Tryd.underlying3 := @Tryd.underlying3
theorem uT5 : type_of% @Tryd.underlying5 := @Tryd.underlying5
theorem uT9 : type_of% @Tryd.underlying9 := @Tryd.underlying9
theorem uT23 : type_of% @Tryd.underlying23 := @Tryd.underlying23
theorem uT35 : type_of% @Tryd.underlying35 := @Tryd.underlying35
theorem uT39 : type_of% @Tryd.underlying39 := @Tryd.underlying39
theorem uT70 : type_of% @Tryd.underlying70 := @Tryd.underlying70
theorem uT85 : type_of% @Tryd.underlying85 := @Tryd.underlying85
theorem uT86 : type_of% @Tryd.underlying86 := @Tryd.underlying86
set_option maxRecDepth 8000
set_option maxHeartbeats 1000000
attribute [local irreducible] AW RW DW Post Qt
theorem hmix : Tryd.prog.follows .mixedOrders = true := by kernel_rfl
theorem sz3 : (Tryd.prog.info? 3).map (·.size) = some 1 := by kernel_rfl
theorem zero3 : (Tryd.prog.info? 3).map (·.zero) = some (some (iV 0)) := by kernel_rfl
theorem sz5 : (Tryd.prog.info? 5).map (·.size) = some 1 := by kernel_rfl
theorem inf5 : (Tryd.prog.info? 5).map (fun i => (i.zero, i.size, i.bytes)) = some (some (.int .u8 0), 1, 1) := by kernel_rfl
theorem sz9 : (Tryd.prog.info? 9).map (·.size) = some 1 := by kernel_rfl
theorem inf9 : (Tryd.prog.info? 9).map (fun i => (i.zero, i.size, i.bytes)) = some (some (.string ⟨#[]⟩), 1, 16) := by kernel_rfl
theorem sz23 : (Tryd.prog.info? 23).map (·.size) = some 2 := by kernel_rfl
theorem zero23 : (Tryd.prog.info? 23).map (·.zero) = some (some (.agg #[iV 0, iV 0])) := by kernel_rfl
theorem places23 : ∀ w, ((#[{ name := "N", type := 3, offset := 0, embedded := false, tag := "", pkgPath := "", byteOffset := 0 }, { name := "Dim", type := 3, offset := 1, embedded := false, tag := "", pkgPath := "", byteOffset := 8 }] : Array Field).mapM fun f => do pure (f.offset, ← sizeOf f.type) : Sem (Array (Nat × Nat))).run Tryd.prog w = .ok #[(0, 1), (1, 1)] w := fun w => by kernel_rfl
theorem sz24 : (Tryd.prog.info? 24).map (·.size) = some 1 := by kernel_rfl
theorem sz26 : (Tryd.prog.info? 26).map (·.size) = some 6 := by kernel_rfl
theorem zero26 : (Tryd.prog.info? 26).map (·.zero) = some (some (.agg #[iV 0, .string ⟨#[]⟩, iV 0, iV 0, iV 0, .slice none 0 0])) := by kernel_rfl
theorem inf26 : (Tryd.prog.info? 26).map (fun i => (i.zero, i.size, i.bytes)) = some (some (.agg #[iV 0, .string ⟨#[]⟩, iV 0, iV 0, iV 0, .slice none 0 0]), 6, 72) := by kernel_rfl
theorem places26 : ∀ w, ((#[{ name := "Kind", type := 3, offset := 0, embedded := false, tag := "", pkgPath := "", byteOffset := 0 }, { name := "Text", type := 9, offset := 1, embedded := false, tag := "", pkgPath := "", byteOffset := 8 }, { name := "Amount", type := 23, offset := 2, embedded := false, tag := "", pkgPath := "", byteOffset := 24 }, { name := "At", type := 3, offset := 4, embedded := false, tag := "", pkgPath := "", byteOffset := 40 }, { name := "Kids", type := 24, offset := 5, embedded := false, tag := "", pkgPath := "", byteOffset := 48 }] : Array Field).mapM fun f => do pure (f.offset, ← sizeOf f.type) : Sem (Array (Nat × Nat))).run Tryd.prog w = .ok #[(0, 1), (1, 1), (2, 2), (4, 1), (5, 1)] w := fun w => by kernel_rfl
theorem sz31 : (Tryd.prog.info? 31).map (·.size) = some 1 := by kernel_rfl
theorem zero31 : (Tryd.prog.info? 31).map (·.zero) = some (some (iV 0)) := by kernel_rfl
theorem sz35 : (Tryd.prog.info? 35).map (·.size) = some 1 := by kernel_rfl
theorem zero35 : (Tryd.prog.info? 35).map (·.zero) = some (some nS) := by kernel_rfl
theorem sz39 : (Tryd.prog.info? 39).map (·.size) = some 3 := by kernel_rfl
theorem zero39 : (Tryd.prog.info? 39).map (·.zero) = some (some (.agg #[iV 0, .string ⟨#[]⟩, iV 0])) := by kernel_rfl
theorem inf39 : (Tryd.prog.info? 39).map (fun i => (i.zero, i.size, i.bytes)) = some (some (.agg #[iV 0, .string ⟨#[]⟩, iV 0]), 3, 32) := by kernel_rfl
theorem places39 : ∀ w, ((#[{ name := "Kind", type := 3, offset := 0, embedded := false, tag := "", pkgPath := "", byteOffset := 0 }, { name := "Text", type := 9, offset := 1, embedded := false, tag := "", pkgPath := "", byteOffset := 8 }, { name := "At", type := 3, offset := 2, embedded := false, tag := "", pkgPath := "", byteOffset := 24 }] : Array Field).mapM fun f => do pure (f.offset, ← sizeOf f.type) : Sem (Array (Nat × Nat))).run Tryd.prog w = .ok #[(0, 1), (1, 1), (2, 1)] w := fun w => by kernel_rfl
theorem sz48 : (Tryd.prog.info? 48).map (·.size) = some 1 := by kernel_rfl
theorem sz57 : (Tryd.prog.info? 57).map (·.size) = some 2 := by kernel_rfl
theorem zero57 : (Tryd.prog.info? 57).map (·.zero) = some (some (.agg #[iV 0, iV 0])) := by kernel_rfl
theorem places57 : ∀ w, ((#[{ name := "err", type := 31, offset := 0, embedded := false, tag := "", pkgPath := "bourne/tree", byteOffset := 0 }, { name := "at", type := 3, offset := 1, embedded := false, tag := "", pkgPath := "bourne/tree", byteOffset := 8 }] : Array Field).mapM fun f => do pure (f.offset, ← sizeOf f.type) : Sem (Array (Nat × Nat))).run Tryd.prog w = .ok #[(0, 1), (1, 1)] w := fun w => by kernel_rfl
theorem zero61 : (Tryd.prog.info? 61).map (·.zero) = some (some (.agg #[.slice none 0 0, iV 0])) := by kernel_rfl
theorem places61 : ∀ w, ((#[{ name := "tokens", type := 35, offset := 0, embedded := false, tag := "", pkgPath := "bourne/tree", byteOffset := 0 }, { name := "next", type := 3, offset := 1, embedded := false, tag := "", pkgPath := "bourne/tree", byteOffset := 24 }] : Array Field).mapM fun f => do pure (f.offset, ← sizeOf f.type) : Sem (Array (Nat × Nat))).run Tryd.prog w = .ok #[(0, 1), (1, 1)] w := fun w => by kernel_rfl
theorem sz70 : (Tryd.prog.info? 70).map (·.size) = some 4 := by kernel_rfl
theorem zero70 : (Tryd.prog.info? 70).map (·.zero) = some (some (.agg #[.string ⟨#[]⟩, iV 0, iV 0, iV 0])) := by kernel_rfl
theorem places70 : ∀ w, ((#[{ name := "name", type := 9, offset := 0, embedded := false, tag := "", pkgPath := "bourne/unit", byteOffset := 0 }, { name := "dim", type := 3, offset := 1, embedded := false, tag := "", pkgPath := "bourne/unit", byteOffset := 16 }, { name := "num", type := 3, offset := 2, embedded := false, tag := "", pkgPath := "bourne/unit", byteOffset := 24 }, { name := "den", type := 3, offset := 3, embedded := false, tag := "", pkgPath := "bourne/unit", byteOffset := 32 }] : Array Field).mapM fun f => do pure (f.offset, ← sizeOf f.type) : Sem (Array (Nat × Nat))).run Tryd.prog w = .ok #[(0, 1), (1, 1), (2, 1), (3, 1)] w := fun w => by kernel_rfl
theorem own8 : Own Tryd.prog 8 := own_of (by kernel_rfl)
theorem own9 : Own Tryd.prog 9 := own_of (by kernel_rfl)
theorem own10 : Own Tryd.prog 10 := own_of (by kernel_rfl)
theorem own11 : Own Tryd.prog 11 := own_of (by kernel_rfl)
theorem own12 : Own Tryd.prog 12 := own_of (by kernel_rfl)
theorem own13 : Own Tryd.prog 13 := own_of (by kernel_rfl)
theorem own14 : Own Tryd.prog 14 := own_of (by kernel_rfl)
theorem own15 : Own Tryd.prog 15 := own_of (by kernel_rfl)
theorem own18 : Own Tryd.prog 18 := own_of (by kernel_rfl)
theorem own19 : Own Tryd.prog 19 := own_of (by kernel_rfl)
theorem own20 : Own Tryd.prog 20 := own_of (by kernel_rfl)
theorem own21 : Own Tryd.prog 21 := own_of (by kernel_rfl)
theorem own22 : Own Tryd.prog 22 := own_of (by kernel_rfl)
theorem own23 : Own Tryd.prog 23 := own_of (by kernel_rfl)
theorem own24 : Own Tryd.prog 24 := own_of (by kernel_rfl)
theorem own25 : Own Tryd.prog 25 := own_of (by kernel_rfl)
theorem own26 : Own Tryd.prog 26 := own_of (by kernel_rfl)
theorem own27 : Own Tryd.prog 27 := own_of (by kernel_rfl)
theorem own28 : Own Tryd.prog 28 := own_of (by kernel_rfl)
theorem own29 : Own Tryd.prog 29 := own_of (by kernel_rfl)
theorem own31 : Own Tryd.prog 31 := own_of (by kernel_rfl)
theorem own32 : Own Tryd.prog 32 := own_of (by kernel_rfl)
theorem own33 : Own Tryd.prog 33 := own_of (by kernel_rfl)
theorem own34 : Own Tryd.prog 34 := own_of (by kernel_rfl)
theorem own35 : Own Tryd.prog 35 := own_of (by kernel_rfl)
theorem own36 : Own Tryd.prog 36 := own_of (by kernel_rfl)
theorem own37 : Own Tryd.prog 37 := own_of (by kernel_rfl)
theorem own38 : Own Tryd.prog 38 := own_of (by kernel_rfl)
theorem own40 : Own Tryd.prog 40 := own_of (by kernel_rfl)
theorem own41 : Own Tryd.prog 41 := own_of (by kernel_rfl)
theorem own42 : Own Tryd.prog 42 := own_of (by kernel_rfl)
theorem own43 : Own Tryd.prog 43 := own_of (by kernel_rfl)
theorem own45 : Own Tryd.prog 45 := own_of (by kernel_rfl)
theorem own48 : Own Tryd.prog 48 := own_of (by kernel_rfl)
theorem own49 : Own Tryd.prog 49 := own_of (by kernel_rfl)
theorem own50 : Own Tryd.prog 50 := own_of (by kernel_rfl)
theorem own51 : Own Tryd.prog 51 := own_of (by kernel_rfl)
theorem own52 : Own Tryd.prog 52 := own_of (by kernel_rfl)
theorem own53 : Own Tryd.prog 53 := own_of (by kernel_rfl)
theorem own54 : Own Tryd.prog 54 := own_of (by kernel_rfl)
theorem own55 : Own Tryd.prog 55 := own_of (by kernel_rfl)
theorem own56 : Own Tryd.prog 56 := own_of (by kernel_rfl)
theorem own57 : Own Tryd.prog 57 := own_of (by kernel_rfl)
theorem own58 : Own Tryd.prog 58 := own_of (by kernel_rfl)
theorem own59 : Own Tryd.prog 59 := own_of (by kernel_rfl)
theorem own60 : Own Tryd.prog 60 := own_of (by kernel_rfl)
theorem own61 : Own Tryd.prog 61 := own_of (by kernel_rfl)
theorem own62 : Own Tryd.prog 62 := own_of (by kernel_rfl)
theorem own63 : Own Tryd.prog 63 := own_of (by kernel_rfl)
theorem own64 : Own Tryd.prog 64 := own_of (by kernel_rfl)
theorem own65 : Own Tryd.prog 65 := own_of (by kernel_rfl)
theorem own68 : Own Tryd.prog 68 := own_of (by kernel_rfl)
theorem own69 : Own Tryd.prog 69 := own_of (by kernel_rfl)
theorem own70 : Own Tryd.prog 70 := own_of (by kernel_rfl)
theorem own71 : Own Tryd.prog 71 := own_of (by kernel_rfl)
theorem own75 : Own Tryd.prog 75 := own_of (by kernel_rfl)
theorem own78 : Own Tryd.prog 78 := own_of (by kernel_rfl)
instance : FA Tryd.prog 23 0 0 := ⟨_, _, _, Tryd.underlying23, rfl, rfl, sz3⟩
instance : FA Tryd.prog 23 1 1 := ⟨_, _, _, Tryd.underlying23, rfl, rfl, sz3⟩
instance : FA Tryd.prog 26 0 0 := ⟨_, _, _, Tryd.underlying26, rfl, rfl, sz3⟩
instance : FA Tryd.prog 26 1 1 := ⟨_, _, _, Tryd.underlying26, rfl, rfl, sz9⟩
instance : FA Tryd.prog 26 2 2 := ⟨_, _, _, Tryd.underlying26, rfl, rfl, sz23⟩
instance : FA Tryd.prog 26 3 4 := ⟨_, _, _, Tryd.underlying26, rfl, rfl, sz3⟩
instance : FA Tryd.prog 26 4 5 := ⟨_, _, _, Tryd.underlying26, rfl, rfl, sz24⟩
instance : FA Tryd.prog 39 0 0 := ⟨_, _, _, Tryd.underlying39, rfl, rfl, sz3⟩
instance : FA Tryd.prog 39 1 1 := ⟨_, _, _, Tryd.underlying39, rfl, rfl, sz9⟩
instance : FA Tryd.prog 39 2 2 := ⟨_, _, _, Tryd.underlying39, rfl, rfl, sz3⟩
instance : FA Tryd.prog 50 1 1 := ⟨_, _, _, Tryd.underlying50, rfl, rfl, sz48⟩
instance : FA Tryd.prog 57 0 0 := ⟨_, _, _, Tryd.underlying57, rfl, rfl, sz31⟩
instance : FA Tryd.prog 57 1 1 := ⟨_, _, _, Tryd.underlying57, rfl, rfl, sz3⟩
instance : FA Tryd.prog 61 0 0 := ⟨_, _, _, Tryd.underlying61, rfl, rfl, sz35⟩
instance : FA Tryd.prog 61 1 1 := ⟨_, _, _, Tryd.underlying61, rfl, rfl, sz3⟩
instance : FA Tryd.prog 70 0 0 := ⟨_, _, _, Tryd.underlying70, rfl, rfl, sz9⟩
instance : FA Tryd.prog 70 1 1 := ⟨_, _, _, Tryd.underlying70, rfl, rfl, sz3⟩
instance : FA Tryd.prog 70 2 2 := ⟨_, _, _, Tryd.underlying70, rfl, rfl, sz3⟩
instance : FA Tryd.prog 70 3 3 := ⟨_, _, _, Tryd.underlying70, rfl, rfl, sz3⟩
instance : FO Tryd.prog 39 0 0 := ⟨_, _, _, Tryd.underlying39, rfl, rfl, Tryd.underlying3, rfl⟩
instance : FO Tryd.prog 39 2 2 := ⟨_, _, _, Tryd.underlying39, rfl, rfl, Tryd.underlying3, rfl⟩
instance : NI Tryd.prog 9 := ⟨_, Tryd.underlying9, rfl⟩
instance : NI Tryd.prog 57 := ⟨_, Tryd.underlying57, rfl⟩
instance : NA Tryd.prog 3 := ⟨_, Tryd.underlying3, rfl⟩
instance : NA Tryd.prog 5 := ⟨_, Tryd.underlying5, rfl⟩
instance : NA Tryd.prog 9 := ⟨_, Tryd.underlying9, rfl⟩
instance : AG Tryd.prog 23 2 := ⟨_, Tryd.underlying23, rfl, sz23⟩
instance : NA Tryd.prog 24 := ⟨_, Tryd.underlying24, rfl⟩
instance : AG Tryd.prog 26 6 := ⟨_, Tryd.underlying26, rfl, sz26⟩
instance : NA Tryd.prog 31 := ⟨_, Tryd.underlying31, rfl⟩
instance : NA Tryd.prog 35 := ⟨_, Tryd.underlying35, rfl⟩
instance : AG Tryd.prog 39 3 := ⟨_, Tryd.underlying39, rfl, sz39⟩
instance : NA Tryd.prog 47 := ⟨_, Tryd.underlying47, rfl⟩
instance : NA Tryd.prog 48 := ⟨_, Tryd.underlying48, rfl⟩
instance : NA Tryd.prog 52 := ⟨_, Tryd.underlying52, rfl⟩
instance : AG Tryd.prog 70 4 := ⟨_, Tryd.underlying70, rfl, sz70⟩
instance : NA Tryd.prog 86 := ⟨_, Tryd.underlying86, rfl⟩
instance : SY Tryd.prog 24 := ⟨_, Tryd.underlying24⟩
instance : SY Tryd.prog 35 := ⟨_, Tryd.underlying35⟩
instance : SY Tryd.prog 48 := ⟨_, Tryd.underlying48⟩
instance : SY Tryd.prog 76 := ⟨_, Tryd.underlying76⟩
instance : SZ Tryd.prog 3 1 := ⟨sz3⟩
instance : SZ Tryd.prog 5 1 := ⟨sz5⟩
instance : SZ Tryd.prog 9 1 := ⟨sz9⟩
instance : SZ Tryd.prog 23 2 := ⟨sz23⟩
instance : SZ Tryd.prog 24 1 := ⟨sz24⟩
instance : SZ Tryd.prog 26 6 := ⟨sz26⟩
instance : SZ Tryd.prog 31 1 := ⟨sz31⟩
instance : SZ Tryd.prog 35 1 := ⟨sz35⟩
instance : SZ Tryd.prog 39 3 := ⟨sz39⟩
instance : SZ Tryd.prog 48 1 := ⟨sz48⟩
instance : SZ Tryd.prog 57 2 := ⟨sz57⟩
instance : SZ Tryd.prog 70 4 := ⟨sz70⟩
instance : ZL Tryd.prog 3 [iV 0] := ⟨_, zero3, rfl⟩
instance : ZL Tryd.prog 23 [iV 0, iV 0] := ⟨_, zero23, rfl⟩
instance : ZL Tryd.prog 26 [iV 0, .string (bs ([])), iV 0, iV 0, iV 0, nS] := ⟨_, zero26, rfl⟩
instance : ZL Tryd.prog 31 [iV 0] := ⟨_, zero31, rfl⟩
instance : ZL Tryd.prog 35 [nS] := ⟨_, zero35, rfl⟩
instance : ZL Tryd.prog 39 [iV 0, .string (bs ([])), iV 0] := ⟨_, zero39, rfl⟩
instance : ZL Tryd.prog 57 [iV 0, iV 0] := ⟨_, zero57, rfl⟩
instance : ZL Tryd.prog 70 [.string (bs ([])), iV 0, iV 0, iV 0] := ⟨_, zero70, rfl⟩
theorem bitLen_b {y : Nat} (h0 : 0 < y) (h : y < 18446744073709551616) : 1 ≤ Lib.bitLen y ∧ Lib.bitLen y ≤ 64 ∧ 2 ^ (Lib.bitLen y - 1) ≤ y ∧ y < 2 ^ Lib.bitLen y := by
 obtain ⟨h1, h2, h3⟩ := Lib.bitLenAux_bounds 64 y (by omega) (by omega)
 refine ⟨h1, ?_, h2, h3⟩
 show Lib.bitLenAux 64 y ≤ 64
 have h4 : 2 ^ (Lib.bitLenAux 64 y - 1) < 2 ^ 64 := Nat.lt_of_le_of_lt h2 (by omega)
 have := (Nat.pow_lt_pow_iff_right (by omega)).1 h4
 omega
theorem kn_dec {q a r U : Nat} (h : q * a + r = U) (hq : 1 ≤ q) : (q - 1) * a + (r + a) = U := by
 obtain ⟨j, rfl⟩ : ∃ j, q = j + 1 := ⟨q - 1, by omega⟩
 rw [Nat.add_mul, Nat.one_mul] at h
 rw [Nat.add_sub_cancel]
 omega
theorem joinU {hi lo sh : Nat} (hs : sh ≤ 64) (hlo : lo < 18446744073709551616) : hi * 2 ^ sh ||| lo / 2 ^ (64 - sh) = hi * 2 ^ sh + lo / 2 ^ (64 - sh) ∧ lo / 2 ^ (64 - sh) < 2 ^ sh := by
 have h1 : lo / 2 ^ (64 - sh) < 2 ^ sh := by
  rw [Nat.div_lt_iff_lt_mul (Nat.two_pow_pos _), ← Nat.pow_add, show sh + (64 - sh) = 64 by omega]; omega
 exact ⟨nat_join sh _ _ (Nat.mul_mod_left _ _) h1, h1⟩
theorem Mul64_c (w : World) (Φ : Hp) (hΦ : Hp.le Φ (hp w)) {x y : Nat} (hx : x < 18446744073709551616) (hy : y < 18446744073709551616) :
  Calls Tryd.prog 43 #[.int .u64 (x : Int), .int .u64 (y : Int)] w fun e w' => e = .returned (.tuple #[.int .u64 ((x * y / 18446744073709551616 : Nat) : Int), .int .u64 ((x * y % 18446744073709551616 : Nat) : Int)]) ∧ Bel w.heap.size w w' := by
 refine calls_of_AW (args := [.int .u64 (x : Int), .int .u64 (y : Int)]) Tryd.func43 rfl (Nat.le_of_ble_eq_true rfl) (St ⟨w, Φ, []⟩ Φ []) (StP.init w Φ hΦ []) ?_
 show AW Tryd.prog 51 [] _ _ _ [(0, .int .u64 (x : Int)), (1, .int .u64 (y : Int))] _
 obtain ⟨bd, bt, bw, hhi⟩ := Lib.mul64_hi x y hx hy
 have ba := Lib.half_mul_le (a := x / 4294967296) (b := y / 4294967296) (by omega) (by omega)
 have bb := Lib.half_mul_le (a := x / 4294967296) (b := y % 4294967296) (by omega) (by omega)
 have bc := Lib.half_mul_le (a := x % 4294967296) (b := y / 4294967296) (by omega) (by omega)
 refine g9 ?_
 refine RW.q (v := .int .u64 ((x % 4294967296 : Nat) : Int)) rfl (q_maskU (a := x) rfl rfl (by omega)) ?_
 refine g6 ?_
 refine RW.q (v := .int .u64 ((x / 4294967296 : Nat) : Int)) rfl (q_shr32U (a := x) rfl rfl) ?_
 refine g6 ?_
 refine RW.q (v := .int .u64 ((y % 4294967296 : Nat) : Int)) rfl (q_maskU (a := y) rfl rfl (by omega)) ?_
 refine g6 ?_
 refine RW.q (v := .int .u64 ((y / 4294967296 : Nat) : Int)) rfl (q_shr32U (a := y) rfl rfl) ?_
 refine g7 ?_
 refine RW.q (v := .int .u64 (((x % 4294967296) * (y % 4294967296) : Nat) : Int)) rfl (q_mulU (a := (x % 4294967296)) (b := (y % 4294967296)) rfl rfl (Nat.mod_eq_of_lt (by omega))) ?_
 refine g7 ?_
 refine RW.q (v := .int .u64 (((x / 4294967296) * (y % 4294967296) : Nat) : Int)) rfl (q_mulU (a := (x / 4294967296)) (b := (y % 4294967296)) rfl rfl (Nat.mod_eq_of_lt (by omega))) ?_
 refine g1 ?_
 refine RW.q (v := .int .u64 ((((x % 4294967296) * (y % 4294967296)) / 4294967296 : Nat) : Int)) rfl (q_shr32U (a := ((x % 4294967296) * (y % 4294967296))) rfl rfl) ?_
 refine RW.q (v := .int .u64 ((((x / 4294967296) * (y % 4294967296)) + (((x % 4294967296) * (y % 4294967296)) / 4294967296) : Nat) : Int)) rfl (q_addU (a := ((x / 4294967296) * (y % 4294967296))) (b := (((x % 4294967296) * (y % 4294967296)) / 4294967296)) rfl rfl (Nat.mod_eq_of_lt (by omega))) ?_
 refine g6 ?_
 refine RW.q (v := .int .u64 (((((x / 4294967296) * (y % 4294967296)) + (((x % 4294967296) * (y % 4294967296)) / 4294967296)) % 4294967296 : Nat) : Int)) rfl (q_maskU (a := (((x / 4294967296) * (y % 4294967296)) + (((x % 4294967296) * (y % 4294967296)) / 4294967296))) rfl rfl (by omega)) ?_
 refine g6 ?_
 refine RW.q (v := .int .u64 (((((x / 4294967296) * (y % 4294967296)) + (((x % 4294967296) * (y % 4294967296)) / 4294967296)) / 4294967296 : Nat) : Int)) rfl (q_shr32U (a := (((x / 4294967296) * (y % 4294967296)) + (((x % 4294967296) * (y % 4294967296)) / 4294967296))) rfl rfl) ?_
 refine g8 ?_
 refine RW.q (v := .int .u64 (((x % 4294967296) * (y / 4294967296) : Nat) : Int)) rfl (q_mulU (a := (x % 4294967296)) (b := (y / 4294967296)) rfl rfl (Nat.mod_eq_of_lt (by omega))) ?_
 refine RW.q (v := .int .u64 ((((((x / 4294967296) * (y % 4294967296)) + (((x % 4294967296) * (y % 4294967296)) / 4294967296)) % 4294967296) + ((x % 4294967296) * (y / 4294967296)) : Nat) : Int)) rfl (q_addU (a := ((((x / 4294967296) * (y % 4294967296)) + (((x % 4294967296) * (y % 4294967296)) / 4294967296)) % 4294967296)) (b := ((x % 4294967296) * (y / 4294967296))) rfl rfl (Nat.mod_eq_of_lt (by omega))) ?_
 refine g7 ?_
 refine RW.q (v := .int .u64 (((x / 4294967296) * (y / 4294967296) : Nat) : Int)) rfl (q_mulU (a := (x / 4294967296)) (b := (y / 4294967296)) rfl rfl (Nat.mod_eq_of_lt (by omega))) ?_
 refine g1 ?_
 refine RW.q (v := .int .u64 ((((x / 4294967296) * (y / 4294967296)) + ((((x / 4294967296) * (y % 4294967296)) + (((x % 4294967296) * (y % 4294967296)) / 4294967296)) / 4294967296) : Nat) : Int)) rfl (q_addU (a := ((x / 4294967296) * (y / 4294967296))) (b := ((((x / 4294967296) * (y % 4294967296)) + (((x % 4294967296) * (y % 4294967296)) / 4294967296)) / 4294967296)) rfl rfl (Nat.mod_eq_of_lt (by omega))) ?_
 refine g1 ?_
 refine RW.q (v := .int .u64 (((((((x / 4294967296) * (y % 4294967296)) + (((x % 4294967296) * (y % 4294967296)) / 4294967296)) % 4294967296) + ((x % 4294967296) * (y / 4294967296))) / 4294967296 : Nat) : Int)) rfl (q_shr32U (a := (((((x / 4294967296) * (y % 4294967296)) + (((x % 4294967296) * (y % 4294967296)) / 4294967296)) % 4294967296) + ((x % 4294967296) * (y / 4294967296)))) rfl rfl) ?_
 refine RW.q (v := .int .u64 (((((x / 4294967296) * (y / 4294967296)) + ((((x / 4294967296) * (y % 4294967296)) + (((x % 4294967296) * (y % 4294967296)) / 4294967296)) / 4294967296)) + ((((((x / 4294967296) * (y % 4294967296)) + (((x % 4294967296) * (y % 4294967296)) / 4294967296)) % 4294967296) + ((x % 4294967296) * (y / 4294967296))) / 4294967296) : Nat) : Int)) rfl (q_addU (a := (((x / 4294967296) * (y / 4294967296)) + ((((x / 4294967296) * (y % 4294967296)) + (((x % 4294967296) * (y % 4294967296)) / 4294967296)) / 4294967296))) (b := ((((((x / 4294967296) * (y % 4294967296)) + (((x % 4294967296) * (y % 4294967296)) / 4294967296)) % 4294967296) + ((x % 4294967296) * (y / 4294967296))) / 4294967296)) rfl rfl (Nat.mod_eq_of_lt (by omega))) ?_
 refine g7 ?_
 refine RW.q (v := .int .u64 ((x * y % 18446744073709551616 : Nat) : Int)) rfl (q_mulU (a := x) (b := y) rfl rfl rfl) ?_
 refine g4 ?_
 refine fin_out2 (v := .int .u64 (((((x / 4294967296) * (y / 4294967296)) + ((((x / 4294967296) * (y % 4294967296)) + (((x % 4294967296) * (y % 4294967296)) / 4294967296)) / 4294967296)) + ((((((x / 4294967296) * (y % 4294967296)) + (((x % 4294967296) * (y % 4294967296)) / 4294967296)) % 4294967296) + ((x % 4294967296) * (y / 4294967296))) / 4294967296) : Nat) : Int)) (u := .int .u64 ((x * y % 18446744073709551616 : Nat) : Int)) rfl rfl rfl rfl (fun w' hw => ?_)
 refine ⟨?_, hw.below rfl⟩
 rw [← hhi]
theorem LeadingZeros64_c (w : World) (Φ : Hp) (hΦ : Hp.le Φ (hp w)) {y : Nat} (h0 : 0 < y) (hy : y < 18446744073709551616) :
  Calls Tryd.prog 65 #[.int .u64 (y : Int)] w fun e w' => e = .returned (iV ((64 - Lib.bitLen y : Nat) : Int)) ∧ Bel w.heap.size w w' := by
 refine calls_of_AW (args := [.int .u64 (y : Int)]) Tryd.func65 rfl (Nat.le_of_ble_eq_true rfl) (St ⟨w, Φ, []⟩ Φ []) (StP.init w Φ hΦ []) ?_
 show AW Tryd.prog 6 [] _ _ _ [(0, .int .u64 (y : Int))] _
 obtain ⟨hl1, hl2, _, _⟩ := bitLen_b h0 hy
 refine g8 ?_
 refine RW.q (v := iV ((Lib.bitLen y : Nat) : Int)) rfl (q_call (args := #[.int .u64 (y : Int)]) own75 rfl rfl (fun w1 hw1 => (Tryd.bits_Len64 (y : Nat) w1 (by omega) (by omega)).mono fun e w2 ⟨he, hw2⟩ => ⟨by rw [he, Int.toNat_natCast], by rw [hw2]; exact Bel.refl _ _⟩)) ?_
 refine RW.q (v := iV ((64 - Lib.bitLen y : Nat) : Int)) rfl (q_sub rfl rfl (by omega) (by unfold I64; omega)) ?_
 refine g4 ?_
 exact fin_val (v' := iV ((64 - Lib.bitLen y : Nat) : Int)) rfl rfl rfl (rfl)
theorem Div64_c (w : World) (Φ : Hp) (hΦ : Hp.le Φ (hp w)) {hi lo y : Nat} (hhi : hi < y) (hlo : lo < 18446744073709551616) (hy : y < 18446744073709551616) :
  Calls Tryd.prog 45 #[.int .u64 (hi : Int), .int .u64 (lo : Int), .int .u64 (y : Int)] w fun e w' => e = .returned (.tuple #[.int .u64 (((hi * 18446744073709551616 + lo) / y : Nat) : Int), .int .u64 (((hi * 18446744073709551616 + lo) % y : Nat) : Int)]) ∧ Bel w.heap.size w w' := by
 refine calls_of_AW (args := [.int .u64 (hi : Int), .int .u64 (lo : Int), .int .u64 (y : Int)]) Tryd.func45 rfl (Nat.le_of_ble_eq_true rfl) (St ⟨w, Φ, []⟩ Φ []) (StP.init w Φ hΦ []) ?_
 show AW Tryd.prog 135 [] _ _ _ [(0, .int .u64 (hi : Int)), (1, .int .u64 (lo : Int)), (2, .int .u64 (y : Int))] _
 refine g13 ?_
 refine AW.cond rfl (fun hc1 => ?_) fun hc1 => ?_
 ·
  simp [-List.getD_eq_getElem?_getD] at hc1
  omega
 ·
  simp [-List.getD_eq_getElem?_getD] at hc1
  refine g10 ?_
  refine AW.cond rfl (fun hc2 => ?_) fun hc2 => ?_
  ·
   simp [-List.getD_eq_getElem?_getD] at hc2
   omega
  ·
   simp [-List.getD_eq_getElem?_getD] at hc2
   refine g9 ?_
   refine AW.cond rfl (fun hc3 => ?_) fun hc3 => ?_
   ·
    simp [-List.getD_eq_getElem?_getD] at hc3
    refine g1 ?_
    refine AW.draw (J0 := St ⟨w, Φ, []⟩ Φ []) [.q, .q, .q, .q, .q, .q, .q, .q] [0, 1, 2, 3, 4, 5, 6, 7] hmix (by kernel_rfl) ?_
    refine g2 ?_
    refine DW.q (v := .int .u64 ((lo / y : Nat) : Int)) (fun _ h => h) rfl (q_quoU (a := lo) (b := y) rfl rfl (by omega) (by omega)) ?_
    refine g2 ?_
    refine DW.q (v := .int .u64 ((lo % y : Nat) : Int)) (fun _ h => h) rfl (q_remU (a := lo) (b := y) rfl rfl (by omega)) ?_
    refine g6 ?_
    refine fin_out2 (v := .int .u64 ((lo / y : Nat) : Int)) (u := .int .u64 ((lo % y : Nat) : Int)) rfl rfl rfl rfl (fun w' hw => ?_)
    refine ⟨?_, hw.below rfl⟩
    have hi0 : hi = 0 := by omega
    rw [hi0, Nat.zero_mul, Nat.zero_add]
   ·
    simp [-List.getD_eq_getElem?_getD] at hc3
    refine g3 ?_
    have hy0 : 0 < y := by omega
    obtain ⟨hl1, hl2, hl3, hl4⟩ := bitLen_b hy0 hy
    obtain ⟨sh, hsh⟩ : ∃ sh, 64 - Lib.bitLen y = sh := ⟨_, rfl⟩
    have hs64 : sh ≤ 64 := by omega
    obtain ⟨Y, hY⟩ : ∃ Y, y * 2 ^ sh = Y := ⟨_, rfl⟩
    have hnz := Nums.le_of_lz hl3 hl4 hl1 hl2
    rw [hsh, hY] at hnz
    obtain ⟨hj1, hj2⟩ := joinU (hi := hi) hs64 hlo
    have hlq0 := Nat.zero_le (lo / 2 ^ (64 - sh))
    obtain ⟨U, hU⟩ : ∃ U, hi * 2 ^ sh + lo / 2 ^ (64 - sh) = U := ⟨_, rfl⟩
    have hhY : hi * 2 ^ sh + 2 ^ sh ≤ Y := by rw [← hY]; have := Nat.mul_le_mul_right (2 ^ sh) (show hi + 1 ≤ y by omega); rwa [Nat.add_mul, Nat.one_mul] at this
    have hUY : U < Y := by omega
    obtain ⟨V, hV⟩ : ∃ V, lo * 2 ^ sh % 18446744073709551616 = V := ⟨_, rfl⟩
    have hVl : V < 18446744073709551616 := by rw [← hV]; exact Nat.mod_lt _ (by omega)
    obtain ⟨Y1, hY1⟩ : ∃ n, Y / 4294967296 = n := ⟨_, rfl⟩
    obtain ⟨Y0, hY0⟩ : ∃ n, Y % 4294967296 = n := ⟨_, rfl⟩
    obtain ⟨W1, hW1⟩ : ∃ n, V / 4294967296 = n := ⟨_, rfl⟩
    obtain ⟨W0, hW0⟩ : ∃ n, V % 4294967296 = n := ⟨_, rfl⟩
    have hyd : Y = Y1 * 4294967296 + Y0 := by omega
    obtain ⟨Q1, hQ1⟩ : ∃ Q1, (U * 4294967296 + W1) / Y = Q1 := ⟨_, rfl⟩
    obtain ⟨R1, hR1⟩ : ∃ R1, (U * 4294967296 + W1) % Y = R1 := ⟨_, rfl⟩
    have hRY : R1 < Y := by rw [← hR1]; exact Nat.mod_lt _ (by omega)
    obtain ⟨Q0, hQ0⟩ : ∃ Q0, (R1 * 4294967296 + W0) / Y = Q0 := ⟨_, rfl⟩
    obtain ⟨R0, hR0⟩ : ∃ R0, (R1 * 4294967296 + W0) % Y = R0 := ⟨_, rfl⟩
    have hQ1l : Q1 < 4294967296 := by rw [← hQ1, Nat.div_lt_iff_lt_mul (by omega)]; omega
    have hQ0l : Q0 < 4294967296 := by rw [← hQ0, Nat.div_lt_iff_lt_mul (by omega)]; omega
    have hy1p : 0 < Y1 := by omega
    refine g2 ?_
    refine RW.q (v := iV (sh : Int)) rfl (q_as (v := iV ((64 - Lib.bitLen y : Nat) : Int)) (q_call (args := #[.int .u64 (y : Int)]) own65 rfl rfl (fun w1 hw1 => LeadingZeros64_c w1 (Go.K.hp w1) (Hp.le_refl _) (by omega) (by omega))) (congrArg (Value.int .i64) (by rw [hsh]))) ?_
    refine RW.q (v := .int .u64 (sh : Int)) rfl (q_toU (r := sh) rfl Tryd.underlying3 Tryd.underlying98 rfl (by omega)) ?_
    refine g7 ?_
    refine RW.q (v := .int .u64 (Y : Int)) rfl (q_shlU (a := y) (c := sh) rfl rfl (by omega) (by rw [hY]; exact Nat.mod_eq_of_lt (by omega))) ?_
    refine g6 ?_
    refine RW.q (v := .int .u64 (Y1 : Int)) rfl (q_as (v := .int .u64 ((Y / 4294967296 : Nat) : Int)) (q_shr32U (a := Y) rfl rfl) (congrArg (Value.int .u64) (by rw [hY1]))) ?_
    refine g6 ?_
    refine RW.q (v := .int .u64 (Y0 : Int)) rfl (q_as (v := .int .u64 ((Y % 4294967296 : Nat) : Int)) (q_maskU (a := Y) rfl rfl (by omega)) (congrArg (Value.int .u64) (by rw [hY0]))) ?_
    refine g7 ?_
    refine RW.q (v := .int .u64 ((hi * 2 ^ sh : Nat) : Int)) rfl (q_shlU (a := hi) (c := sh) rfl rfl (by omega) (Nat.mod_eq_of_lt (by omega))) ?_
    refine g2 ?_
    refine RW.q (v := .int .u64 ((64 - sh : Nat) : Int)) rfl (q_subU (a := 64) (b := sh) rfl rfl (by omega)) ?_
    refine RW.q (v := .int .u64 ((lo / 2 ^ (64 - sh) : Nat) : Int)) rfl (q_shrU' (a := lo) (c := (64 - sh)) rfl rfl (by omega)) ?_
    refine RW.q (v := .int .u64 (U : Int)) rfl (q_as (v := .int .u64 (((hi * 2 ^ sh) ||| (lo / 2 ^ (64 - sh)) : Nat) : Int)) (q_orU (a := (hi * 2 ^ sh)) (b := (lo / 2 ^ (64 - sh))) rfl rfl (by omega) (by have := Nat.div_le_self lo (2 ^ (64 - sh)); omega)) (congrArg (Value.int .u64) (by rw [hj1, hU]))) ?_
    refine g7 ?_
    refine RW.q (v := .int .u64 (V : Int)) rfl (q_shlU (a := lo) (c := sh) rfl rfl (by omega) hV) ?_
    refine g6 ?_
    refine RW.q (v := .int .u64 (W1 : Int)) rfl (q_as (v := .int .u64 ((V / 4294967296 : Nat) : Int)) (q_shr32U (a := V) rfl rfl) (congrArg (Value.int .u64) (by rw [hW1]))) ?_
    refine g6 ?_
    refine RW.q (v := .int .u64 (W0 : Int)) rfl (q_as (v := .int .u64 ((V % 4294967296 : Nat) : Int)) (q_maskU (a := V) rfl rfl (by omega)) (congrArg (Value.int .u64) (by rw [hW0]))) ?_
    refine g4 ?_
    have hf1 := Nums.kn_first (u := U) (d := W1) hyd hy1p (by omega)
    rw [hQ1] at hf1
    have hf2 := Nums.kn_top (u := U) (B := 4294967296) hyd (by omega) (by omega) hUY hy1p
    have hf3 : U / (Y1) * (Y1) ≤ U := Nat.div_mul_le_self _ _
    have hf4 : U / (Y1) * (Y1) + U % (Y1) = U := Nat.div_add_mod' _ _
    have hf5 : U % (Y1) < Y1 := Nat.mod_lt _ hy1p
    refine g3 ?_
    refine RW.q (v := .int .u64 ((U / Y1 : Nat) : Int)) rfl (q_quoU (a := U) (b := Y1) rfl rfl (by omega) (by omega)) ?_
    refine g8 ?_
    refine RW.q (v := .int .u64 (((U / Y1) * Y1 : Nat) : Int)) rfl (q_mulU (a := (U / Y1)) (b := Y1) rfl rfl (Nat.mod_eq_of_lt (by omega))) ?_
    refine RW.q (v := .int .u64 ((U % (Y1) : Nat) : Int)) rfl (q_as (v := .int .u64 ((U - ((U / Y1) * Y1) : Nat) : Int)) (q_subU (a := U) (b := ((U / Y1) * Y1)) rfl rfl (by omega)) (congrArg (Value.int .u64) (by omega))) ?_
    refine g5 ?_
    refine AW.loop (fun s J m => ∃ (q : Nat), ∃ (r : Nat), s = [(2, .int .u64 (Y : Int)), (8, .int .u64 (sh : Int)), (9, .int .u64 (Y1 : Int)), (10, .int .u64 (Y0 : Int)), (11, .int .u64 (U : Int)), (13, .int .u64 (W1 : Int)), (14, .int .u64 (W0 : Int)), (15, .int .u64 (q : Int)), (16, .int .u64 (r : Int))] ∧ J = St ⟨w, Φ, []⟩ Φ [] ∧ m = q + 0 * q ∧ (q * (Y1) + r = U) ∧ (Q1 ≤ q) ∧ (q ≤ 4294967296 + 1) ∧ (r < 4294967296)) (s0 := _) (J1 := _) (m0 := _) ⟨_, _, rfl, rfl, rfl, hf4, hf1, hf2, (by omega)⟩ ⟨rfl, rfl, rfl, rfl, rfl, rfl, rfl, rfl, rfl, trivial⟩ (fun _ h => h) ?_
    rintro _ _ _ _ ⟨q, r, rfl, rfl, rfl, hq, hQ, hqB, hr⟩
    refine g2 ?_
    have hm9 : q * (Y0) ≤ (4294967296 + 1) * 4294967295 := Nat.mul_le_mul (by omega) (by omega)
    refine g6 ?_
    refine RW.g (b := (decide (((4294967296 : Nat) : Int) ≤ (q : Int)))) (v := .int .u64 ((q * Y0 : Nat) : Int)) rfl rfl rfl (fun h => q_mulU (a := q) (b := Y0) (gv_pos h) (gv_pos h) (Nat.mod_eq_of_lt (by (try simp [-List.getD_eq_getElem?_getD] at h); omega))) ?_
    refine g1 ?_
    refine RW.g (b := (decide (((4294967296 : Nat) : Int) ≤ (q : Int)))) (v := .int .u64 ((4294967296 * r : Nat) : Int)) rfl rfl rfl (fun h => q_mulU (a := 4294967296) (b := r) rfl (gv_pos h) (Nat.mod_eq_of_lt (by (try simp [-List.getD_eq_getElem?_getD] at h); omega))) ?_
    refine g1 ?_
    refine RW.g (b := (decide (((4294967296 : Nat) : Int) ≤ (q : Int)))) (v := .int .u64 (((4294967296 * r) + W1 : Nat) : Int)) rfl rfl rfl (fun h => q_addU (a := (4294967296 * r)) (b := W1) (gv_pos h) (gv_pos h) (Nat.mod_eq_of_lt (by (try simp [-List.getD_eq_getElem?_getD] at h); omega))) ?_
    refine g1 ?_
    obtain ⟨qb1, hqb1⟩ : ∃ qz : Bool, ((decide (((4294967296 : Nat) : Int) ≤ (q : Int))) || (decide ((((4294967296 * r) + W1 : Nat) : Int) < ((q * Y0 : Nat) : Int)))) = qz := ⟨_, rfl⟩
    refine RW.q (v := .bool qb1) rfl (q_as (v := .bool ((decide (((4294967296 : Nat) : Int) ≤ (q : Int))) || (decide ((((4294967296 * r) + W1 : Nat) : Int) < ((q * Y0 : Nat) : Int))))) (q_pick rfl (fun hp => pkOrT hp) (fun hp => (gv_pos hp).trans (pkOrF hp))) (congrArg Value.bool hqb1)) ?_
    subst hqb1
    refine g2 ?_
    refine AW.cond rfl (fun hc4 => ?_) fun hc4 => ?_
    ·
     simp [-List.getD_eq_getElem?_getD] at hc4
     refine g4 ?_
     have hdn := Nums.kn_down (d := W1) hyd hq hUY (by omega) (by rw [hQ1]; exact hQ) (by omega)
     rw [hQ1] at hdn
     refine g2 ?_
     refine RW.q (v := .int .u64 ((q - 1 : Nat) : Int)) rfl (q_subU (a := q) (b := 1) rfl rfl (by omega)) ?_
     refine g7 ?_
     refine RW.q (v := .int .u64 ((r + Y1 : Nat) : Int)) rfl (q_addU (a := r) (b := Y1) rfl rfl (Nat.mod_eq_of_lt (by omega))) ?_
     refine g9 ?_
     refine AW.cond rfl (fun hc5 => ?_) fun hc5 => ?_
     ·
      simp [-List.getD_eq_getElem?_getD] at hc5
      refine g6 ?_
      have hqe : q - 1 = Q1 := by
       have hp9 := Nums.kn_end (d := W1) (q := q - 1) (r := r + Y1) hyd (kn_dec hq hdn.1) hUY (by rw [hQ1]; exact hdn.2) (Nums.kn_break (by omega) (by omega) (by omega))
       rw [hp9, hQ1]
      rw [hqe]
      obtain ⟨ha1, hb1⟩ := Nums.kn_rest (u := U) (d := W1) (y := Y) (B := 4294967296) (M := 18446744073709551616) (by omega) (by omega)
      rw [hQ1, hR1] at hb1
      refine g2 ?_
      refine RW.q (v := .int .u64 ((U * 4294967296 % 18446744073709551616 : Nat) : Int)) rfl (q_mulU (a := U) (b := 4294967296) rfl rfl rfl) ?_
      refine g1 ?_
      refine RW.q (v := .int .u64 (((U * 4294967296 % 18446744073709551616 + W1) % 18446744073709551616 : Nat) : Int)) rfl (q_addU (a := (U * 4294967296 % 18446744073709551616)) (b := W1) rfl rfl rfl) ?_
      refine g2 ?_
      refine RW.q (v := .int .u64 ((Q1 * Y % 18446744073709551616 : Nat) : Int)) rfl (q_mulU (a := Q1) (b := Y) rfl rfl rfl) ?_
      refine RW.q (v := .int .u64 (R1 : Int)) rfl (q_subU (a := ((U * 4294967296 % 18446744073709551616 + W1) % 18446744073709551616)) (b := (Q1 * Y % 18446744073709551616)) rfl rfl (by rw [ha1]; exact hb1)) ?_
      refine g4 ?_
      have hf1 := Nums.kn_first (u := R1) (d := W0) hyd hy1p (by omega)
      rw [hQ0] at hf1
      have hf2 := Nums.kn_top (u := R1) (B := 4294967296) hyd (by omega) (by omega) hRY hy1p
      have hf3 : R1 / (Y1) * (Y1) ≤ R1 := Nat.div_mul_le_self _ _
      have hf4 : R1 / (Y1) * (Y1) + R1 % (Y1) = R1 := Nat.div_add_mod' _ _
      have hf5 : R1 % (Y1) < Y1 := Nat.mod_lt _ hy1p
      refine g3 ?_
      refine RW.q (v := .int .u64 ((R1 / Y1 : Nat) : Int)) rfl (q_quoU (a := R1) (b := Y1) rfl rfl (by omega) (by omega)) ?_
      refine g8 ?_
      refine RW.q (v := .int .u64 (((R1 / Y1) * Y1 : Nat) : Int)) rfl (q_mulU (a := (R1 / Y1)) (b := Y1) rfl rfl (Nat.mod_eq_of_lt (by omega))) ?_
      refine RW.q (v := .int .u64 ((R1 % (Y1) : Nat) : Int)) rfl (q_as (v := .int .u64 ((R1 - ((R1 / Y1) * Y1) : Nat) : Int)) (q_subU (a := R1) (b := ((R1 / Y1) * Y1)) rfl rfl (by omega)) (congrArg (Value.int .u64) (by omega))) ?_
      refine g5 ?_
      refine AW.loop (fun s J m => ∃ (q : Nat), ∃ (r : Nat), s = [(2, .int .u64 (Y : Int)), (8, .int .u64 (sh : Int)), (9, .int .u64 (Y1 : Int)), (10, .int .u64 (Y0 : Int)), (13, .int .u64 (W1 : Int)), (14, .int .u64 (W0 : Int)), (15, .int .u64 (Q1 : Int)), (17, .int .u64 (R1 : Int)), (18, .int .u64 (q : Int)), (16, .int .u64 (r : Int))] ∧ J = St ⟨w, Φ, []⟩ Φ [] ∧ m = q + 0 * q ∧ (q * (Y1) + r = R1) ∧ (Q0 ≤ q) ∧ (q ≤ 4294967296 + 1) ∧ (r < 4294967296)) (s0 := _) (J1 := _) (m0 := _) ⟨_, _, rfl, rfl, rfl, hf4, hf1, hf2, (by omega)⟩ ⟨rfl, rfl, rfl, rfl, rfl, rfl, rfl, rfl, rfl, rfl, trivial⟩ (fun _ h => h) ?_
      rintro _ _ _ _ ⟨q, r, rfl, rfl, rfl, hq, hQ, hqB, hr⟩
      refine g2 ?_
      have hm9 : q * (Y0) ≤ (4294967296 + 1) * 4294967295 := Nat.mul_le_mul (by omega) (by omega)
      refine g6 ?_
      refine RW.g (b := (decide (((4294967296 : Nat) : Int) ≤ (q : Int)))) (v := .int .u64 ((q * Y0 : Nat) : Int)) rfl rfl rfl (fun h => q_mulU (a := q) (b := Y0) (gv_pos h) (gv_pos h) (Nat.mod_eq_of_lt (by (try simp [-List.getD_eq_getElem?_getD] at h); omega))) ?_
      refine g1 ?_
      refine RW.g (b := (decide (((4294967296 : Nat) : Int) ≤ (q : Int)))) (v := .int .u64 ((4294967296 * r : Nat) : Int)) rfl rfl rfl (fun h => q_mulU (a := 4294967296) (b := r) rfl (gv_pos h) (Nat.mod_eq_of_lt (by (try simp [-List.getD_eq_getElem?_getD] at h); omega))) ?_
      refine g1 ?_
      refine RW.g (b := (decide (((4294967296 : Nat) : Int) ≤ (q : Int)))) (v := .int .u64 (((4294967296 * r) + W0 : Nat) : Int)) rfl rfl rfl (fun h => q_addU (a := (4294967296 * r)) (b := W0) (gv_pos h) (gv_pos h) (Nat.mod_eq_of_lt (by (try simp [-List.getD_eq_getElem?_getD] at h); omega))) ?_
      refine g1 ?_
      obtain ⟨qb2, hqb2⟩ : ∃ qz : Bool, ((decide (((4294967296 : Nat) : Int) ≤ (q : Int))) || (decide ((((4294967296 * r) + W0 : Nat) : Int) < ((q * Y0 : Nat) : Int)))) = qz := ⟨_, rfl⟩
      refine RW.q (v := .bool qb2) rfl (q_as (v := .bool ((decide (((4294967296 : Nat) : Int) ≤ (q : Int))) || (decide ((((4294967296 * r) + W0 : Nat) : Int) < ((q * Y0 : Nat) : Int))))) (q_pick rfl (fun hp => pkOrT hp) (fun hp => (gv_pos hp).trans (pkOrF hp))) (congrArg Value.bool hqb2)) ?_
      subst hqb2
      refine g2 ?_
      refine AW.cond rfl (fun hc6 => ?_) fun hc6 => ?_
      ·
       simp [-List.getD_eq_getElem?_getD] at hc6
       refine g4 ?_
       have hdn := Nums.kn_down (d := W0) hyd hq hRY (by omega) (by rw [hQ0]; exact hQ) (by omega)
       rw [hQ0] at hdn
       refine g2 ?_
       refine RW.q (v := .int .u64 ((q - 1 : Nat) : Int)) rfl (q_subU (a := q) (b := 1) rfl rfl (by omega)) ?_
       refine g7 ?_
       refine RW.q (v := .int .u64 ((r + Y1 : Nat) : Int)) rfl (q_addU (a := r) (b := Y1) rfl rfl (Nat.mod_eq_of_lt (by omega))) ?_
       refine g9 ?_
       refine AW.cond rfl (fun hc7 => ?_) fun hc7 => ?_
       ·
        simp [-List.getD_eq_getElem?_getD] at hc7
        refine g6 ?_
        have hqe : q - 1 = Q0 := by
         have hp9 := Nums.kn_end (d := W0) (q := q - 1) (r := r + Y1) hyd (kn_dec hq hdn.1) hRY (by rw [hQ0]; exact hdn.2) (Nums.kn_break (by omega) (by omega) (by omega))
         rw [hp9, hQ0]
        rw [hqe]
        obtain ⟨ha0, hb0⟩ := Nums.kn_rest (u := R1) (d := W0) (y := Y) (B := 4294967296) (M := 18446744073709551616) (by omega) (by omega)
        rw [hQ0, hR0] at hb0
        refine g2 ?_
        refine RW.q (v := .int .u64 ((Q1 * 4294967296 : Nat) : Int)) rfl (q_mulU (a := Q1) (b := 4294967296) rfl rfl (Nat.mod_eq_of_lt (by omega))) ?_
        refine g1 ?_
        refine RW.q (v := .int .u64 (((Q1 * 4294967296) + Q0 : Nat) : Int)) rfl (q_addU (a := (Q1 * 4294967296)) (b := Q0) rfl rfl (Nat.mod_eq_of_lt (by omega))) ?_
        refine g1 ?_
        refine RW.q (v := .int .u64 ((R1 * 4294967296 % 18446744073709551616 : Nat) : Int)) rfl (q_mulU (a := R1) (b := 4294967296) rfl rfl rfl) ?_
        refine g1 ?_
        refine RW.q (v := .int .u64 (((R1 * 4294967296 % 18446744073709551616 + W0) % 18446744073709551616 : Nat) : Int)) rfl (q_addU (a := (R1 * 4294967296 % 18446744073709551616)) (b := W0) rfl rfl rfl) ?_
        refine g2 ?_
        refine RW.q (v := .int .u64 ((Q0 * Y % 18446744073709551616 : Nat) : Int)) rfl (q_mulU (a := Q0) (b := Y) rfl rfl rfl) ?_
        refine RW.q (v := .int .u64 (R0 : Int)) rfl (q_subU (a := ((R1 * 4294967296 % 18446744073709551616 + W0) % 18446744073709551616)) (b := (Q0 * Y % 18446744073709551616)) rfl rfl (by rw [ha0]; exact hb0)) ?_
        refine g1 ?_
        refine RW.q (v := .int .u64 ((R0 / 2 ^ sh : Nat) : Int)) rfl (q_shrU' (a := R0) (c := sh) rfl rfl (by omega)) ?_
        refine g5 ?_
        refine fin_out2 (v := .int .u64 (((Q1 * 4294967296) + Q0 : Nat) : Int)) (u := .int .u64 ((R0 / 2 ^ sh : Nat) : Int)) rfl rfl rfl rfl (fun w' hw => ?_)
        refine ⟨?_, hw.below rfl⟩
        subst hW1 hW0
        have hfin := Nums.div128 (hi := hi) (lo := lo) (y := y) (u := U) (v := V) (y' := Y) (Q1 := Q1) (r1 := R1) (Q0 := Q0) hs64 hY.symm hU.symm hV.symm hy0 hQ1.symm hR1.symm hQ0.symm
        rw [hR0] at hfin
        rw [hfin.1, hfin.2]
       ·
        simp [-List.getD_eq_getElem?_getD] at hc7
        refine g2 ?_
        exact Post.back (s' := _) (J' := _) (m' := _) (by omega) ⟨q - 1, r + Y1, rfl, rfl, rfl, (kn_dec hq hdn.1), hdn.2, (by omega), (by omega)⟩ ⟨rfl, rfl, rfl, rfl, rfl, rfl, rfl, rfl, rfl, rfl, trivial⟩ (fun _ h => h)
      ·
       simp [-List.getD_eq_getElem?_getD] at hc6
       refine g6 ?_
       have hqe : q = Q0 := by
        have hp9 := Nums.kn_end (d := W0) hyd hq hRY (by rw [hQ0]; exact hQ) (by omega)
        rw [hp9, hQ0]
       rw [hqe]
       obtain ⟨ha0, hb0⟩ := Nums.kn_rest (u := R1) (d := W0) (y := Y) (B := 4294967296) (M := 18446744073709551616) (by omega) (by omega)
       rw [hQ0, hR0] at hb0
       refine g2 ?_
       refine RW.q (v := .int .u64 ((Q1 * 4294967296 : Nat) : Int)) rfl (q_mulU (a := Q1) (b := 4294967296) rfl rfl (Nat.mod_eq_of_lt (by omega))) ?_
       refine g1 ?_
       refine RW.q (v := .int .u64 (((Q1 * 4294967296) + Q0 : Nat) : Int)) rfl (q_addU (a := (Q1 * 4294967296)) (b := Q0) rfl rfl (Nat.mod_eq_of_lt (by omega))) ?_
       refine g1 ?_
       refine RW.q (v := .int .u64 ((R1 * 4294967296 % 18446744073709551616 : Nat) : Int)) rfl (q_mulU (a := R1) (b := 4294967296) rfl rfl rfl) ?_
       refine g1 ?_
       refine RW.q (v := .int .u64 (((R1 * 4294967296 % 18446744073709551616 + W0) % 18446744073709551616 : Nat) : Int)) rfl (q_addU (a := (R1 * 4294967296 % 18446744073709551616)) (b := W0) rfl rfl rfl) ?_
       refine g2 ?_
       refine RW.q (v := .int .u64 ((Q0 * Y % 18446744073709551616 : Nat) : Int)) rfl (q_mulU (a := Q0) (b := Y) rfl rfl rfl) ?_
       refine RW.q (v := .int .u64 (R0 : Int)) rfl (q_subU (a := ((R1 * 4294967296 % 18446744073709551616 + W0) % 18446744073709551616)) (b := (Q0 * Y % 18446744073709551616)) rfl rfl (by rw [ha0]; exact hb0)) ?_
       refine g1 ?_
       refine RW.q (v := .int .u64 ((R0 / 2 ^ sh : Nat) : Int)) rfl (q_shrU' (a := R0) (c := sh) rfl rfl (by omega)) ?_
       refine g5 ?_
       refine fin_out2 (v := .int .u64 (((Q1 * 4294967296) + Q0 : Nat) : Int)) (u := .int .u64 ((R0 / 2 ^ sh : Nat) : Int)) rfl rfl rfl rfl (fun w' hw => ?_)
       refine ⟨?_, hw.below rfl⟩
       subst hW1 hW0
       have hfin := Nums.div128 (hi := hi) (lo := lo) (y := y) (u := U) (v := V) (y' := Y) (Q1 := Q1) (r1 := R1) (Q0 := Q0) hs64 hY.symm hU.symm hV.symm hy0 hQ1.symm hR1.symm hQ0.symm
       rw [hR0] at hfin
       rw [hfin.1, hfin.2]
     ·
      simp [-List.getD_eq_getElem?_getD] at hc5
      refine g2 ?_
      exact Post.back (s' := _) (J' := _) (m' := _) (by omega) ⟨q - 1, r + Y1, rfl, rfl, rfl, (kn_dec hq hdn.1), hdn.2, (by omega), (by omega)⟩ ⟨rfl, rfl, rfl, rfl, rfl, rfl, rfl, rfl, rfl, trivial⟩ (fun _ h => h)
    ·
     simp [-List.getD_eq_getElem?_getD] at hc4
     refine g6 ?_
     have hqe : q = Q1 := by
      have hp9 := Nums.kn_end (d := W1) hyd hq hUY (by rw [hQ1]; exact hQ) (by omega)
      rw [hp9, hQ1]
     rw [hqe]
     obtain ⟨ha1, hb1⟩ := Nums.kn_rest (u := U) (d := W1) (y := Y) (B := 4294967296) (M := 18446744073709551616) (by omega) (by omega)
     rw [hQ1, hR1] at hb1
     refine g2 ?_
     refine RW.q (v := .int .u64 ((U * 4294967296 % 18446744073709551616 : Nat) : Int)) rfl (q_mulU (a := U) (b := 4294967296) rfl rfl rfl) ?_
     refine g1 ?_
     refine RW.q (v := .int .u64 (((U * 4294967296 % 18446744073709551616 + W1) % 18446744073709551616 : Nat) : Int)) rfl (q_addU (a := (U * 4294967296 % 18446744073709551616)) (b := W1) rfl rfl rfl) ?_
     refine g2 ?_
     refine RW.q (v := .int .u64 ((Q1 * Y % 18446744073709551616 : Nat) : Int)) rfl (q_mulU (a := Q1) (b := Y) rfl rfl rfl) ?_
     refine RW.q (v := .int .u64 (R1 : Int)) rfl (q_subU (a := ((U * 4294967296 % 18446744073709551616 + W1) % 18446744073709551616)) (b := (Q1 * Y % 18446744073709551616)) rfl rfl (by rw [ha1]; exact hb1)) ?_
     refine g4 ?_
     have hf1 := Nums.kn_first (u := R1) (d := W0) hyd hy1p (by omega)
     rw [hQ0] at hf1
     have hf2 := Nums.kn_top (u := R1) (B := 4294967296) hyd (by omega) (by omega) hRY hy1p
     have hf3 : R1 / (Y1) * (Y1) ≤ R1 := Nat.div_mul_le_self _ _
     have hf4 : R1 / (Y1) * (Y1) + R1 % (Y1) = R1 := Nat.div_add_mod' _ _
     have hf5 : R1 % (Y1) < Y1 := Nat.mod_lt _ hy1p
     refine g3 ?_
     refine RW.q (v := .int .u64 ((R1 / Y1 : Nat) : Int)) rfl (q_quoU (a := R1) (b := Y1) rfl rfl (by omega) (by omega)) ?_
     refine g8 ?_
     refine RW.q (v := .int .u64 (((R1 / Y1) * Y1 : Nat) : Int)) rfl (q_mulU (a := (R1 / Y1)) (b := Y1) rfl rfl (Nat.mod_eq_of_lt (by omega))) ?_
     refine RW.q (v := .int .u64 ((R1 % (Y1) : Nat) : Int)) rfl (q_as (v := .int .u64 ((R1 - ((R1 / Y1) * Y1) : Nat) : Int)) (q_subU (a := R1) (b := ((R1 / Y1) * Y1)) rfl rfl (by omega)) (congrArg (Value.int .u64) (by omega))) ?_
     refine g5 ?_
     refine AW.loop (fun s J m => ∃ (q : Nat), ∃ (r : Nat), s = [(2, .int .u64 (Y : Int)), (8, .int .u64 (sh : Int)), (9, .int .u64 (Y1 : Int)), (10, .int .u64 (Y0 : Int)), (13, .int .u64 (W1 : Int)), (14, .int .u64 (W0 : Int)), (15, .int .u64 (Q1 : Int)), (17, .int .u64 (R1 : Int)), (18, .int .u64 (q : Int)), (16, .int .u64 (r : Int))] ∧ J = St ⟨w, Φ, []⟩ Φ [] ∧ m = q + 0 * q ∧ (q * (Y1) + r = R1) ∧ (Q0 ≤ q) ∧ (q ≤ 4294967296 + 1) ∧ (r < 4294967296)) (s0 := _) (J1 := _) (m0 := _) ⟨_, _, rfl, rfl, rfl, hf4, hf1, hf2, (by omega)⟩ ⟨rfl, rfl, rfl, rfl, rfl, rfl, rfl, rfl, rfl, rfl, trivial⟩ (fun _ h => h) ?_
     rintro _ _ _ _ ⟨q, r, rfl, rfl, rfl, hq, hQ, hqB, hr⟩
     refine g2 ?_
     have hm9 : q * (Y0) ≤ (4294967296 + 1) * 4294967295 := Nat.mul_le_mul (by omega) (by omega)
     refine g6 ?_
     refine RW.g (b := (decide (((4294967296 : Nat) : Int) ≤ (q : Int)))) (v := .int .u64 ((q * Y0 : Nat) : Int)) rfl rfl rfl (fun h => q_mulU (a := q) (b := Y0) (gv_pos h) (gv_pos h) (Nat.mod_eq_of_lt (by (try simp [-List.getD_eq_getElem?_getD] at h); omega))) ?_
     refine g1 ?_
     refine RW.g (b := (decide (((4294967296 : Nat) : Int) ≤ (q : Int)))) (v := .int .u64 ((4294967296 * r : Nat) : Int)) rfl rfl rfl (fun h => q_mulU (a := 4294967296) (b := r) rfl (gv_pos h) (Nat.mod_eq_of_lt (by (try simp [-List.getD_eq_getElem?_getD] at h); omega))) ?_
     refine g1 ?_
     refine RW.g (b := (decide (((4294967296 : Nat) : Int) ≤ (q : Int)))) (v := .int .u64 (((4294967296 * r) + W0 : Nat) : Int)) rfl rfl rfl (fun h => q_addU (a := (4294967296 * r)) (b := W0) (gv_pos h) (gv_pos h) (Nat.mod_eq_of_lt (by (try simp [-List.getD_eq_getElem?_getD] at h); omega))) ?_
     refine g1 ?_
     obtain ⟨qb3, hqb3⟩ : ∃ qz : Bool, ((decide (((4294967296 : Nat) : Int) ≤ (q : Int))) || (decide ((((4294967296 * r) + W0 : Nat) : Int) < ((q * Y0 : Nat) : Int)))) = qz := ⟨_, rfl⟩
     refine RW.q (v := .bool qb3) rfl (q_as (v := .bool ((decide (((4294967296 : Nat) : Int) ≤ (q : Int))) || (decide ((((4294967296 * r) + W0 : Nat) : Int) < ((q * Y0 : Nat) : Int))))) (q_pick rfl (fun hp => pkOrT hp) (fun hp => (gv_pos hp).trans (pkOrF hp))) (congrArg Value.bool hqb3)) ?_
     subst hqb3
     refine g2 ?_
     refine AW.cond rfl (fun hc8 => ?_) fun hc8 => ?_
     ·
      simp [-List.getD_eq_getElem?_getD] at hc8
      refine g4 ?_
      have hdn := Nums.kn_down (d := W0) hyd hq hRY (by omega) (by rw [hQ0]; exact hQ) (by omega)
      rw [hQ0] at hdn
      refine g2 ?_
      refine RW.q (v := .int .u64 ((q - 1 : Nat) : Int)) rfl (q_subU (a := q) (b := 1) rfl rfl (by omega)) ?_
      refine g7 ?_
      refine RW.q (v := .int .u64 ((r + Y1 : Nat) : Int)) rfl (q_addU (a := r) (b := Y1) rfl rfl (Nat.mod_eq_of_lt (by omega))) ?_
      refine g9 ?_
      refine AW.cond rfl (fun hc9 => ?_) fun hc9 => ?_
      ·
       simp [-List.getD_eq_getElem?_getD] at hc9
       refine g6 ?_
       have hqe : q - 1 = Q0 := by
        have hp9 := Nums.kn_end (d := W0) (q := q - 1) (r := r + Y1) hyd (kn_dec hq hdn.1) hRY (by rw [hQ0]; exact hdn.2) (Nums.kn_break (by omega) (by omega) (by omega))
        rw [hp9, hQ0]
       rw [hqe]
       obtain ⟨ha0, hb0⟩ := Nums.kn_rest (u := R1) (d := W0) (y := Y) (B := 4294967296) (M := 18446744073709551616) (by omega) (by omega)
       rw [hQ0, hR0] at hb0
       refine g2 ?_
       refine RW.q (v := .int .u64 ((Q1 * 4294967296 : Nat) : Int)) rfl (q_mulU (a := Q1) (b := 4294967296) rfl rfl (Nat.mod_eq_of_lt (by omega))) ?_
       refine g1 ?_
       refine RW.q (v := .int .u64 (((Q1 * 4294967296) + Q0 : Nat) : Int)) rfl (q_addU (a := (Q1 * 4294967296)) (b := Q0) rfl rfl (Nat.mod_eq_of_lt (by omega))) ?_
       refine g1 ?_
       refine RW.q (v := .int .u64 ((R1 * 4294967296 % 18446744073709551616 : Nat) : Int)) rfl (q_mulU (a := R1) (b := 4294967296) rfl rfl rfl) ?_
       refine g1 ?_
       refine RW.q (v := .int .u64 (((R1 * 4294967296 % 18446744073709551616 + W0) % 18446744073709551616 : Nat) : Int)) rfl (q_addU (a := (R1 * 4294967296 % 18446744073709551616)) (b := W0) rfl rfl rfl) ?_
       refine g2 ?_
       refine RW.q (v := .int .u64 ((Q0 * Y % 18446744073709551616 : Nat) : Int)) rfl (q_mulU (a := Q0) (b := Y) rfl rfl rfl) ?_
       refine RW.q (v := .int .u64 (R0 : Int)) rfl (q_subU (a := ((R1 * 4294967296 % 18446744073709551616 + W0) % 18446744073709551616)) (b := (Q0 * Y % 18446744073709551616)) rfl rfl (by rw [ha0]; exact hb0)) ?_
       refine g1 ?_
       refine RW.q (v := .int .u64 ((R0 / 2 ^ sh : Nat) : Int)) rfl (q_shrU' (a := R0) (c := sh) rfl rfl (by omega)) ?_
       refine g5 ?_
       refine fin_out2 (v := .int .u64 (((Q1 * 4294967296) + Q0 : Nat) : Int)) (u := .int .u64 ((R0 / 2 ^ sh : Nat) : Int)) rfl rfl rfl rfl (fun w' hw => ?_)
       refine ⟨?_, hw.below rfl⟩
       subst hW1 hW0
       have hfin := Nums.div128 (hi := hi) (lo := lo) (y := y) (u := U) (v := V) (y' := Y) (Q1 := Q1) (r1 := R1) (Q0 := Q0) hs64 hY.symm hU.symm hV.symm hy0 hQ1.symm hR1.symm hQ0.symm
       rw [hR0] at hfin
       rw [hfin.1, hfin.2]
      ·
       simp [-List.getD_eq_getElem?_getD] at hc9
       refine g2 ?_
       exact Post.back (s' := _) (J' := _) (m' := _) (by omega) ⟨q - 1, r + Y1, rfl, rfl, rfl, (kn_dec hq hdn.1), hdn.2, (by omega), (by omega)⟩ ⟨rfl, rfl, rfl, rfl, rfl, rfl, rfl, rfl, rfl, rfl, trivial⟩ (fun _ h => h)
     ·
      simp [-List.getD_eq_getElem?_getD] at hc8
      refine g6 ?_
      have hqe : q = Q0 := by
       have hp9 := Nums.kn_end (d := W0) hyd hq hRY (by rw [hQ0]; exact hQ) (by omega)
       rw [hp9, hQ0]
      rw [hqe]
      obtain ⟨ha0, hb0⟩ := Nums.kn_rest (u := R1) (d := W0) (y := Y) (B := 4294967296) (M := 18446744073709551616) (by omega) (by omega)
      rw [hQ0, hR0] at hb0
      refine g2 ?_
      refine RW.q (v := .int .u64 ((Q1 * 4294967296 : Nat) : Int)) rfl (q_mulU (a := Q1) (b := 4294967296) rfl rfl (Nat.mod_eq_of_lt (by omega))) ?_
      refine g1 ?_
      refine RW.q (v := .int .u64 (((Q1 * 4294967296) + Q0 : Nat) : Int)) rfl (q_addU (a := (Q1 * 4294967296)) (b := Q0) rfl rfl (Nat.mod_eq_of_lt (by omega))) ?_
      refine g1 ?_
      refine RW.q (v := .int .u64 ((R1 * 4294967296 % 18446744073709551616 : Nat) : Int)) rfl (q_mulU (a := R1) (b := 4294967296) rfl rfl rfl) ?_
      refine g1 ?_
      refine RW.q (v := .int .u64 (((R1 * 4294967296 % 18446744073709551616 + W0) % 18446744073709551616 : Nat) : Int)) rfl (q_addU (a := (R1 * 4294967296 % 18446744073709551616)) (b := W0) rfl rfl rfl) ?_
      refine g2 ?_
      refine RW.q (v := .int .u64 ((Q0 * Y % 18446744073709551616 : Nat) : Int)) rfl (q_mulU (a := Q0) (b := Y) rfl rfl rfl) ?_
      refine RW.q (v := .int .u64 (R0 : Int)) rfl (q_subU (a := ((R1 * 4294967296 % 18446744073709551616 + W0) % 18446744073709551616)) (b := (Q0 * Y % 18446744073709551616)) rfl rfl (by rw [ha0]; exact hb0)) ?_
      refine g1 ?_
      refine RW.q (v := .int .u64 ((R0 / 2 ^ sh : Nat) : Int)) rfl (q_shrU' (a := R0) (c := sh) rfl rfl (by omega)) ?_
      refine g5 ?_
      refine fin_out2 (v := .int .u64 (((Q1 * 4294967296) + Q0 : Nat) : Int)) (u := .int .u64 ((R0 / 2 ^ sh : Nat) : Int)) rfl rfl rfl rfl (fun w' hw => ?_)
      refine ⟨?_, hw.below rfl⟩
      subst hW1 hW0
      have hfin := Nums.div128 (hi := hi) (lo := lo) (y := y) (u := U) (v := V) (y' := Y) (Q1 := Q1) (r1 := R1) (Q0 := Q0) hs64 hY.symm hU.symm hV.symm hy0 hQ1.symm hR1.symm hQ0.symm
      rw [hR0] at hfin
      rw [hfin.1, hfin.2]
end Go.Proofs.YtjcahklnkakklaaDoor
