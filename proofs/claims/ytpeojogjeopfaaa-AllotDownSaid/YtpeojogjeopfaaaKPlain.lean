/- Lemmas. Conditions: those of each theorem. -/
import Derived.Test.YtpeojogjeopfaaaKNums
import Derived.Test.YtpeojogjeopfaaaKLen
import Derived.Test.YtpeojogjeopfaaaKOpen
import Derived.Test.YtpeojogjeopfaaaKAuto
import Derived.Lib.ItoaNum
set_option maxRecDepth 8000
set_option maxHeartbeats 16000000
namespace Go.Proofs.Ytpeojogjeopfaaa
open Go Go.K Go.RowKit
theorem oK {k : FuncId} (h : (Try.prog.funcs[k]?).map (fun fn => fn.name == "runtime.NumGoroutine" || fn.body.isNone) = some false := by kernel_rfl) : Go.K.Own Try.prog k := own_of h
noncomputable abbrev pg := Try.prog
theorem uT3 : type_of% @Try.underlying3 := @Try.underlying3
theorem uT4 : type_of% @Try.underlying4 := @Try.underlying4
theorem uT9 : type_of% @Try.underlying9 := @Try.underlying9
theorem uT22 : type_of% @Try.underlying22 := @Try.underlying22
theorem uT23 : type_of% @Try.underlying23 := @Try.underlying23
theorem uT24 : type_of% @Try.underlying24 := @Try.underlying24
theorem uT25 : type_of% @Try.underlying25 := @Try.underlying25
theorem uT26 : type_of% @Try.underlying26 := @Try.underlying26
theorem uT27 : type_of% @Try.underlying27 := @Try.underlying27
theorem uT28 : type_of% @Try.underlying28 := @Try.underlying28
theorem uT29 : type_of% @Try.underlying29 := @Try.underlying29
theorem uT31 : type_of% @Try.underlying31 := @Try.underlying31
theorem uT52 : type_of% @Try.underlying52 := @Try.underlying52
theorem uT57 : type_of% @Try.underlying57 := @Try.underlying57
theorem uT59 : type_of% @Try.underlying59 := @Try.underlying59
theorem uT60 : type_of% @Try.underlying60 := @Try.underlying60
theorem uT62 : type_of% @Try.underlying62 := @Try.underlying62
theorem uT73 : type_of% @Try.underlying73 := @Try.underlying73
theorem uT76 : type_of% @Try.underlying76 := @Try.underlying76
theorem uT78 : type_of% @Try.underlying78 := @Try.underlying78
theorem uT83 : type_of% @Try.underlying83 := @Try.underlying83
theorem uT89 : type_of% @Try.underlying89 := @Try.underlying89
theorem uT93 : type_of% @Try.underlying93 := @Try.underlying93
theorem uT95 : type_of% @Try.underlying95 := @Try.underlying95
theorem uT97 : type_of% @Try.underlying97 := @Try.underlying97
theorem uT99 : type_of% @Try.underlying99 := @Try.underlying99
theorem uT104 : type_of% @Try.underlying104 := @Try.underlying104
theorem uT107 : type_of% @Try.underlying107 := @Try.underlying107
theorem uT114 : type_of% @Try.underlying114 := @Try.underlying114
theorem uT119 : type_of% @Try.underlying119 := @Try.underlying119
theorem uT122 : type_of% @Try.underlying122 := @Try.underlying122
theorem uT124 : type_of% @Try.underlying124 := @Try.underlying124
attribute [local irreducible] AW RW DW Post Qt
abbrev cl31 (x : Bt.Basin) (u1 u3 u4 u5 u6 u7 u8 u9 : Value) : List Value := [.string x.Name, u1, iV x.Cells, u3, u4, u5, u6, u7, u8, u9, iV x.Err]
abbrev cl62 (x : Bt.Place) (u4 u5 u11 : Value) : List Value := [.string x.Name, iV x.Kind, iV x.Office, iV x.Cap, u4, u5, iV x.Num, iV x.Den, iV x.Down, iV x.Delay, iV x.Floor, u11]
abbrev cl78 (x : Bt.Link) (u4 u5 u6 : Value) : List Value := [.string x.Name, iV x.Kind, iV x.From, iV x.To, u4, u5, u6, iV x.Positions, iV x.Speed, iV x.Leak, iV x.Crest, iV x.Num, iV x.Den, iV x.Prime, iV x.Break, iV x.BackNum, iV x.BackDen, iV x.Delay]
abbrev cl93 (x : Bt.Town) : List Value := [.string x.Name, iV x.Place, iV x.Flood, iV x.Lead, iV x.People, iV x.Watch, iV x.Quorum]
abbrev cl97 (x : Bt.Gauge) : List Value := [.string x.Name, iV x.Kind, iV x.Target, iV x.Err, iV x.Drift]
abbrev cl99 (x : Bt.Road) : List Value := [.string x.Name, iV x.From, iV x.To, iV x.Hours, iV x.Flow, iV x.By, iV x.Limit]
theorem hmix : Try.prog.follows .mixedOrders = true := by kernel_rfl
theorem sz3 : (Try.prog.info? 3).map (·.size) = some 1 := by kernel_rfl
theorem zero3 : (Try.prog.info? 3).map (·.zero) = some (some (iV 0)) := by kernel_rfl
theorem inf3 : (Try.prog.info? 3).map (fun i => (i.zero, i.size, i.bytes)) = some (some (iV 0), 1, 8) := by kernel_rfl
theorem sz4 : (Try.prog.info? 4).map (·.size) = some 1 := by kernel_rfl
theorem zero4 : (Try.prog.info? 4).map (·.zero) = some (some (.bool false)) := by kernel_rfl
theorem inf4 : (Try.prog.info? 4).map (fun i => (i.zero, i.size, i.bytes)) = some (some (.bool false), 1, 1) := by kernel_rfl
theorem sz9 : (Try.prog.info? 9).map (·.size) = some 1 := by kernel_rfl
theorem sz22 : (Try.prog.info? 22).map (·.size) = some 1 := by kernel_rfl
theorem sz23 : (Try.prog.info? 23).map (·.size) = some 1 := by kernel_rfl
theorem sz24 : (Try.prog.info? 24).map (·.size) = some 1 := by kernel_rfl
theorem sz25 : (Try.prog.info? 25).map (·.size) = some 1 := by kernel_rfl
theorem sz26 : (Try.prog.info? 26).map (·.size) = some 1 := by kernel_rfl
theorem sz27 : (Try.prog.info? 27).map (·.size) = some 1 := by kernel_rfl
theorem sz28 : (Try.prog.info? 28).map (·.size) = some 1 := by kernel_rfl
theorem sz29 : (Try.prog.info? 29).map (·.size) = some 1 := by kernel_rfl
theorem zero29 : (Try.prog.info? 29).map (·.zero) = some (some nS) := by kernel_rfl
theorem inf29 : (Try.prog.info? 29).map (fun i => (i.zero, i.size, i.bytes)) = some (some nS, 1, 24) := by kernel_rfl
theorem sz31 : (Try.prog.info? 31).map (·.size) = some 11 := by kernel_rfl
theorem sz57 : (Try.prog.info? 57).map (·.size) = some 1 := by kernel_rfl
theorem zero57 : (Try.prog.info? 57).map (·.zero) = some (some nS) := by kernel_rfl
theorem sz59 : (Try.prog.info? 59).map (·.size) = some 1 := by kernel_rfl
theorem inf59 : (Try.prog.info? 59).map (fun i => (i.zero, i.size, i.bytes)) = some (some nS, 1, 24) := by kernel_rfl
theorem sz60 : (Try.prog.info? 60).map (·.size) = some 1 := by kernel_rfl
theorem sz62 : (Try.prog.info? 62).map (·.size) = some 12 := by kernel_rfl
theorem zero62 : (Try.prog.info? 62).map (·.zero) = some (some (.agg #[.string ⟨#[]⟩, iV 0, iV 0, iV 0, .slice none 0 0, .slice none 0 0, iV 0, iV 0, iV 0, iV 0, iV 0, .slice none 0 0])) := by kernel_rfl
theorem sz73 : (Try.prog.info? 73).map (·.size) = some 2 := by kernel_rfl
theorem zero73 : (Try.prog.info? 73).map (·.zero) = some (some (.agg #[iV 0, iV 0])) := by kernel_rfl
theorem inf73 : (Try.prog.info? 73).map (fun i => (i.zero, i.size, i.bytes)) = some (some (.agg #[iV 0, iV 0]), 2, 16) := by kernel_rfl
theorem places73 : Plc Try.prog (fO Try.underlying73) #[(0, 1), (1, 1)] := fun w => by kernel_rfl
theorem sz76 : (Try.prog.info? 76).map (·.size) = some 2 := by kernel_rfl
theorem sz78 : (Try.prog.info? 78).map (·.size) = some 18 := by kernel_rfl
theorem zero78 : (Try.prog.info? 78).map (·.zero) = some (some (.agg #[.string ⟨#[]⟩, iV 0, iV 0, iV 0, .slice none 0 0, .slice none 0 0, .slice none 0 0, iV 0, iV 0, iV 0, iV 0, iV 0, iV 0, iV 0, iV 0, iV 0, iV 0, iV 0])) := by kernel_rfl
theorem sz93 : (Try.prog.info? 93).map (·.size) = some 7 := by kernel_rfl
theorem zero93 : (Try.prog.info? 93).map (·.zero) = some (some (.agg #[.string ⟨#[]⟩, iV 0, iV 0, iV 0, iV 0, iV 0, iV 0])) := by kernel_rfl
theorem sz95 : (Try.prog.info? 95).map (·.size) = some 2 := by kernel_rfl
theorem zero95 : (Try.prog.info? 95).map (·.zero) = some (some (.agg #[.string ⟨#[]⟩, iV 0])) := by kernel_rfl
theorem sz97 : (Try.prog.info? 97).map (·.size) = some 5 := by kernel_rfl
theorem zero97 : (Try.prog.info? 97).map (·.zero) = some (some (.agg #[.string ⟨#[]⟩, iV 0, iV 0, iV 0, iV 0])) := by kernel_rfl
theorem sz99 : (Try.prog.info? 99).map (·.size) = some 7 := by kernel_rfl
theorem zero99 : (Try.prog.info? 99).map (·.zero) = some (some (.agg #[.string ⟨#[]⟩, iV 0, iV 0, iV 0, iV 0, iV 0, iV 0])) := by kernel_rfl
theorem sz104 : (Try.prog.info? 104).map (·.size) = some 2 := by kernel_rfl
theorem zero104 : (Try.prog.info? 104).map (·.zero) = some (some (.agg #[iV 0, iV 0])) := by kernel_rfl
theorem sz122 : (Try.prog.info? 122).map (·.size) = some 2 := by kernel_rfl
theorem zero122 : (Try.prog.info? 122).map (·.zero) = some (some (.agg #[iV 0, iV 0])) := by kernel_rfl
theorem sz126 : (Try.prog.info? 126).map (·.size) = some 1 := by kernel_rfl
theorem zero126 : (Try.prog.info? 126).map (·.zero) = some (some nS) := by kernel_rfl
theorem bitLen_b {y : Nat} (h0 : 0 < y) (h : y < 18446744073709551616) : 1 ≤ Lib.bitLen y ∧ Lib.bitLen y ≤ 64 ∧ 2 ^ (Lib.bitLen y - 1) ≤ y ∧ y < 2 ^ Lib.bitLen y := by
 obtain ⟨h1, h2, h3⟩ := Lib.bitLenAux_bounds 64 y (by omega) (by omega)
 refine ⟨h1, ?_, h2, h3⟩
 show Lib.bitLenAux 64 y ≤ 64
 have h4 : 2 ^ (Lib.bitLenAux 64 y - 1) < 2 ^ 64 := Nat.lt_of_le_of_lt h2 (by omega)
 have := (Nat.pow_lt_pow_iff_right (by omega)).1 h4
 omega
theorem kn_dec {q a r U : Nat} (h : q * a + r = U) (hq : 1 ≤ q) : (q - 1) * a + (r + a) = U := by
 obtain ⟨j, rfl⟩ : ∃ j, q = j + 1 := ⟨q - 1, by omega⟩
 rw [Nat.add_mul, Nat.one_mul] at h
 rw [Nat.add_sub_cancel]
 omega
theorem joinU {hi lo sh : Nat} (hs : sh ≤ 64) (hlo : lo < 18446744073709551616) : hi * 2 ^ sh ||| lo / 2 ^ (64 - sh) = hi * 2 ^ sh + lo / 2 ^ (64 - sh) ∧ lo / 2 ^ (64 - sh) < 2 ^ sh := by
 have h1 : lo / 2 ^ (64 - sh) < 2 ^ sh := by
  rw [Nat.div_lt_iff_lt_mul (Nat.two_pow_pos _), ← Nat.pow_add, show sh + (64 - sh) = 64 by omega]; omega
 exact ⟨nat_join sh _ _ (Nat.mul_mod_left _ _) h1, h1⟩
theorem Mul64_c (w : World) (Φ : Hp) (hΦ : Hp.le Φ (hp w)) {x y : Nat} (hx : x < 18446744073709551616) (hy : y < 18446744073709551616) :
  Calls Try.prog 51 #[.int .u64 (x : Int), .int .u64 (y : Int)] w fun e w' => e = .returned (.tuple #[.int .u64 ((x * y / 18446744073709551616 : Nat) : Int), .int .u64 ((x * y % 18446744073709551616 : Nat) : Int)]) ∧ Bel w.heap.size w w' := by
 refine calls_of_AW (args := [.int .u64 (x : Int), .int .u64 (y : Int)]) Try.func51 rfl (lBT rfl) (St ⟨w, Φ, []⟩ Φ []) (StP.init w Φ hΦ []) ?_
 show AW Try.prog 51 [] _ _ _ [(0, .int .u64 (x : Int)), (1, .int .u64 (y : Int))] _
 obtain ⟨bd, bt, bw, hhi⟩ := Lib.mul64_hi x y hx hy
 have ba := Lib.half_mul_le (a := x / 4294967296) (b := y / 4294967296) (by omega) (by omega)
 have bb := Lib.half_mul_le (a := x / 4294967296) (b := y % 4294967296) (by omega) (by omega)
 have bc := Lib.half_mul_le (a := x % 4294967296) (b := y / 4294967296) (by omega) (by omega)
 refine g9 ?_
 refine RW.q (v := .int .u64 ((x % 4294967296 : Nat) : Int)) rfl (q_maskU (a := x) rfl rfl (by omega)) ?_
 refine g6 ?_
 refine RW.q (v := .int .u64 ((x / 4294967296 : Nat) : Int)) rfl (q_shr32U (a := x) rfl rfl) ?_
 refine g6 ?_
 refine RW.q (v := .int .u64 ((y % 4294967296 : Nat) : Int)) rfl (q_maskU (a := y) rfl rfl (by omega)) ?_
 refine g6 ?_
 refine RW.q (v := .int .u64 ((y / 4294967296 : Nat) : Int)) rfl (q_shr32U (a := y) rfl rfl) ?_
 refine g7 ?_
 refine RW.q (v := .int .u64 (((x % 4294967296) * (y % 4294967296) : Nat) : Int)) rfl (q_mulU (a := (x % 4294967296)) (b := (y % 4294967296)) rfl rfl (Nat.mod_eq_of_lt (by omega))) ?_
 refine g7 ?_
 refine RW.q (v := .int .u64 (((x / 4294967296) * (y % 4294967296) : Nat) : Int)) rfl (q_mulU (a := (x / 4294967296)) (b := (y % 4294967296)) rfl rfl (Nat.mod_eq_of_lt (by omega))) ?_
 refine g1 ?_
 refine RW.q (v := .int .u64 ((((x % 4294967296) * (y % 4294967296)) / 4294967296 : Nat) : Int)) rfl (q_shr32U (a := ((x % 4294967296) * (y % 4294967296))) rfl rfl) (RW.q (v := .int .u64 ((((x / 4294967296) * (y % 4294967296)) + (((x % 4294967296) * (y % 4294967296)) / 4294967296) : Nat) : Int)) rfl (q_addU (a := ((x / 4294967296) * (y % 4294967296))) (b := (((x % 4294967296) * (y % 4294967296)) / 4294967296)) rfl rfl (Nat.mod_eq_of_lt (by omega))) ?_)
 refine g6 ?_
 refine RW.q (v := .int .u64 (((((x / 4294967296) * (y % 4294967296)) + (((x % 4294967296) * (y % 4294967296)) / 4294967296)) % 4294967296 : Nat) : Int)) rfl (q_maskU (a := (((x / 4294967296) * (y % 4294967296)) + (((x % 4294967296) * (y % 4294967296)) / 4294967296))) rfl rfl (by omega)) ?_
 refine g6 ?_
 refine RW.q (v := .int .u64 (((((x / 4294967296) * (y % 4294967296)) + (((x % 4294967296) * (y % 4294967296)) / 4294967296)) / 4294967296 : Nat) : Int)) rfl (q_shr32U (a := (((x / 4294967296) * (y % 4294967296)) + (((x % 4294967296) * (y % 4294967296)) / 4294967296))) rfl rfl) ?_
 refine g8 ?_
 refine RW.q (v := .int .u64 (((x % 4294967296) * (y / 4294967296) : Nat) : Int)) rfl (q_mulU (a := (x % 4294967296)) (b := (y / 4294967296)) rfl rfl (Nat.mod_eq_of_lt (by omega))) (RW.q (v := .int .u64 ((((((x / 4294967296) * (y % 4294967296)) + (((x % 4294967296) * (y % 4294967296)) / 4294967296)) % 4294967296) + ((x % 4294967296) * (y / 4294967296)) : Nat) : Int)) rfl (q_addU (a := ((((x / 4294967296) * (y % 4294967296)) + (((x % 4294967296) * (y % 4294967296)) / 4294967296)) % 4294967296)) (b := ((x % 4294967296) * (y / 4294967296))) rfl rfl (Nat.mod_eq_of_lt (by omega))) ?_)
 refine g7 ?_
 refine RW.q (v := .int .u64 (((x / 4294967296) * (y / 4294967296) : Nat) : Int)) rfl (q_mulU (a := (x / 4294967296)) (b := (y / 4294967296)) rfl rfl (Nat.mod_eq_of_lt (by omega))) ?_
 refine g1 ?_
 refine RW.q (v := .int .u64 ((((x / 4294967296) * (y / 4294967296)) + ((((x / 4294967296) * (y % 4294967296)) + (((x % 4294967296) * (y % 4294967296)) / 4294967296)) / 4294967296) : Nat) : Int)) rfl (q_addU (a := ((x / 4294967296) * (y / 4294967296))) (b := ((((x / 4294967296) * (y % 4294967296)) + (((x % 4294967296) * (y % 4294967296)) / 4294967296)) / 4294967296)) rfl rfl (Nat.mod_eq_of_lt (by omega))) ?_
 refine g1 ?_
 refine RW.q (v := .int .u64 (((((((x / 4294967296) * (y % 4294967296)) + (((x % 4294967296) * (y % 4294967296)) / 4294967296)) % 4294967296) + ((x % 4294967296) * (y / 4294967296))) / 4294967296 : Nat) : Int)) rfl (q_shr32U (a := (((((x / 4294967296) * (y % 4294967296)) + (((x % 4294967296) * (y % 4294967296)) / 4294967296)) % 4294967296) + ((x % 4294967296) * (y / 4294967296)))) rfl rfl) (RW.q (v := .int .u64 (((((x / 4294967296) * (y / 4294967296)) + ((((x / 4294967296) * (y % 4294967296)) + (((x % 4294967296) * (y % 4294967296)) / 4294967296)) / 4294967296)) + ((((((x / 4294967296) * (y % 4294967296)) + (((x % 4294967296) * (y % 4294967296)) / 4294967296)) % 4294967296) + ((x % 4294967296) * (y / 4294967296))) / 4294967296) : Nat) : Int)) rfl (q_addU (a := (((x / 4294967296) * (y / 4294967296)) + ((((x / 4294967296) * (y % 4294967296)) + (((x % 4294967296) * (y % 4294967296)) / 4294967296)) / 4294967296))) (b := ((((((x / 4294967296) * (y % 4294967296)) + (((x % 4294967296) * (y % 4294967296)) / 4294967296)) % 4294967296) + ((x % 4294967296) * (y / 4294967296))) / 4294967296)) rfl rfl (Nat.mod_eq_of_lt (by omega))) ?_)
 refine g7 ?_
 refine RW.q (v := .int .u64 ((x * y % 18446744073709551616 : Nat) : Int)) rfl (q_mulU (a := x) (b := y) rfl rfl rfl) ?_
 refine g4 ?_
 refine fin_out2 (v := .int .u64 (((((x / 4294967296) * (y / 4294967296)) + ((((x / 4294967296) * (y % 4294967296)) + (((x % 4294967296) * (y % 4294967296)) / 4294967296)) / 4294967296)) + ((((((x / 4294967296) * (y % 4294967296)) + (((x % 4294967296) * (y % 4294967296)) / 4294967296)) % 4294967296) + ((x % 4294967296) * (y / 4294967296))) / 4294967296) : Nat) : Int)) (u := .int .u64 ((x * y % 18446744073709551616 : Nat) : Int)) rfl rfl rfl rfl (fun w' hw => ?_)
 refine ⟨?_, hw.below rfl⟩
 rw [← hhi]
theorem LeadingZeros64_c (w : World) (Φ : Hp) (hΦ : Hp.le Φ (hp w)) {y : Nat} (h0 : 0 < y) (hy : y < 18446744073709551616) :
  Calls Try.prog 72 #[.int .u64 (y : Int)] w fun e w' => e = .returned (iV ((64 - Lib.bitLen y : Nat) : Int)) ∧ Bel w.heap.size w w' := by
 refine calls_of_AW (args := [.int .u64 (y : Int)]) Try.func72 rfl (lBT rfl) (St ⟨w, Φ, []⟩ Φ []) (StP.init w Φ hΦ []) ?_
 show AW Try.prog 6 [] _ _ _ [(0, .int .u64 (y : Int))] _
 obtain ⟨hl1, hl2, _, _⟩ := bitLen_b h0 hy
 refine g8 ?_
 refine RW.q (v := iV ((Lib.bitLen y : Nat) : Int)) rfl (q_call (args := #[.int .u64 (y : Int)]) oK rfl rfl (fun w1 hw1 => (Try.bits_Len64 (y : Nat) w1 (by omega) (by omega)).mono fun e w2 ⟨he, hw2⟩ => ⟨by rw [he, Int.toNat_natCast], by rw [hw2]; exact Bel.refl _ _⟩)) (RW.q (v := iV ((64 - Lib.bitLen y : Nat) : Int)) rfl (q_sub rfl rfl (by omega) (by unfold I64; omega)) ?_)
 refine g4 ?_
 exact fin_val (v' := iV ((64 - Lib.bitLen y : Nat) : Int)) rfl rfl rfl (rfl)
theorem Div64_c (w : World) (Φ : Hp) (hΦ : Hp.le Φ (hp w)) {hi lo y : Nat} (hhi : hi < y) (hlo : lo < 18446744073709551616) (hy : y < 18446744073709551616) :
  Calls Try.prog 52 #[.int .u64 (hi : Int), .int .u64 (lo : Int), .int .u64 (y : Int)] w fun e w' => e = .returned (.tuple #[.int .u64 (((hi * 18446744073709551616 + lo) / y : Nat) : Int), .int .u64 (((hi * 18446744073709551616 + lo) % y : Nat) : Int)]) ∧ Bel w.heap.size w w' := by
 refine calls_of_AW (args := [.int .u64 (hi : Int), .int .u64 (lo : Int), .int .u64 (y : Int)]) Try.func52 rfl (lBT rfl) (St ⟨w, Φ, []⟩ Φ []) (StP.init w Φ hΦ []) ?_
 show AW Try.prog 135 [] _ _ _ [(0, .int .u64 (hi : Int)), (1, .int .u64 (lo : Int)), (2, .int .u64 (y : Int))] _
 refine g13 ?_
 refine AW.cond rfl (fun hc1 => ?_) fun hc1 => ?_
 ·
  simp [-List.getD_eq_getElem?_getD] at hc1
  omega
 ·
  simp [-List.getD_eq_getElem?_getD] at hc1
  refine g10 ?_
  refine AW.cond rfl (fun hc2 => ?_) fun hc2 => ?_
  ·
   simp [-List.getD_eq_getElem?_getD] at hc2
   omega
  ·
   simp [-List.getD_eq_getElem?_getD] at hc2
   refine g9 ?_
   refine AW.cond rfl (fun hc3 => ?_) fun hc3 => ?_
   ·
    simp [-List.getD_eq_getElem?_getD] at hc3
    refine g1 ?_
    refine AW.draw (J0 := St ⟨w, Φ, []⟩ Φ []) [.q, .q, .q, .q, .q, .q, .q, .q] [0, 1, 2, 3, 4, 5, 6, 7] hmix (by kernel_rfl) ?_
    refine g2 ?_
    refine DW.q (v := .int .u64 ((lo / y : Nat) : Int)) (fun _ h => h) rfl (q_quoU (a := lo) (b := y) rfl rfl (by omega) (by omega)) ?_
    refine g2 ?_
    refine DW.q (v := .int .u64 ((lo % y : Nat) : Int)) (fun _ h => h) rfl (q_remU (a := lo) (b := y) rfl rfl (by omega)) ?_
    refine g6 ?_
    refine fin_out2 (v := .int .u64 ((lo / y : Nat) : Int)) (u := .int .u64 ((lo % y : Nat) : Int)) rfl rfl rfl rfl (fun w' hw => ?_)
    refine ⟨?_, hw.below rfl⟩
    have hi0 : hi = 0 := by omega
    rw [hi0, Nat.zero_mul, Nat.zero_add]
   ·
    simp [-List.getD_eq_getElem?_getD] at hc3
    refine g3 ?_
    have hy0 : 0 < y := by omega
    obtain ⟨hl1, hl2, hl3, hl4⟩ := bitLen_b hy0 hy
    obtain ⟨sh, hsh⟩ : ∃ sh, 64 - Lib.bitLen y = sh := ⟨_, rfl⟩
    have hs64 : sh ≤ 64 := by omega
    obtain ⟨Y, hY⟩ : ∃ Y, y * 2 ^ sh = Y := ⟨_, rfl⟩
    have hnz := Nums.le_of_lz hl3 hl4 hl1 hl2
    rw [hsh, hY] at hnz
    obtain ⟨hj1, hj2⟩ := joinU (hi := hi) hs64 hlo
    have hlq0 := Nat.zero_le (lo / 2 ^ (64 - sh))
    obtain ⟨U, hU⟩ : ∃ U, hi * 2 ^ sh + lo / 2 ^ (64 - sh) = U := ⟨_, rfl⟩
    have hhY : hi * 2 ^ sh + 2 ^ sh ≤ Y := by rw [← hY]; have := Nat.mul_le_mul_right (2 ^ sh) (show hi + 1 ≤ y by omega); rwa [Nat.add_mul, Nat.one_mul] at this
    have hUY : U < Y := by omega
    obtain ⟨V, hV⟩ : ∃ V, lo * 2 ^ sh % 18446744073709551616 = V := ⟨_, rfl⟩
    have hVl : V < 18446744073709551616 := by rw [← hV]; exact Nat.mod_lt _ (by omega)
    obtain ⟨Y1, hY1⟩ : ∃ n, Y / 4294967296 = n := ⟨_, rfl⟩
    obtain ⟨Y0, hY0⟩ : ∃ n, Y % 4294967296 = n := ⟨_, rfl⟩
    obtain ⟨W1, hW1⟩ : ∃ n, V / 4294967296 = n := ⟨_, rfl⟩
    obtain ⟨W0, hW0⟩ : ∃ n, V % 4294967296 = n := ⟨_, rfl⟩
    have hyd : Y = Y1 * 4294967296 + Y0 := by omega
    obtain ⟨Q1, hQ1⟩ : ∃ Q1, (U * 4294967296 + W1) / Y = Q1 := ⟨_, rfl⟩
    obtain ⟨R1, hR1⟩ : ∃ R1, (U * 4294967296 + W1) % Y = R1 := ⟨_, rfl⟩
    have hRY : R1 < Y := by rw [← hR1]; exact Nat.mod_lt _ (by omega)
    obtain ⟨Q0, hQ0⟩ : ∃ Q0, (R1 * 4294967296 + W0) / Y = Q0 := ⟨_, rfl⟩
    obtain ⟨R0, hR0⟩ : ∃ R0, (R1 * 4294967296 + W0) % Y = R0 := ⟨_, rfl⟩
    have hQ1l : Q1 < 4294967296 := by rw [← hQ1, Nat.div_lt_iff_lt_mul (by omega)]; omega
    have hQ0l : Q0 < 4294967296 := by rw [← hQ0, Nat.div_lt_iff_lt_mul (by omega)]; omega
    have hy1p : 0 < Y1 := by omega
    refine g2 ?_
    refine RW.q (v := iV (sh : Int)) rfl (q_as (v := iV ((64 - Lib.bitLen y : Nat) : Int)) (q_call (args := #[.int .u64 (y : Int)]) oK rfl rfl (fun w1 hw1 => LeadingZeros64_c w1 (Go.K.hp w1) (Hp.le_refl _) (by omega) (by omega))) (congrArg (Value.int .i64) (by rw [hsh]))) (RW.q (v := .int .u64 (sh : Int)) rfl (q_toU (r := sh) rfl Try.underlying3 Try.underlying114 rfl (by omega)) ?_)
    refine g7 ?_
    refine RW.q (v := .int .u64 (Y : Int)) rfl (q_shlU (a := y) (c := sh) rfl rfl (by omega) (by rw [hY]; exact Nat.mod_eq_of_lt (by omega))) ?_
    refine g6 ?_
    refine RW.q (v := .int .u64 (Y1 : Int)) rfl (q_as (v := .int .u64 ((Y / 4294967296 : Nat) : Int)) (q_shr32U (a := Y) rfl rfl) (congrArg (Value.int .u64) (by rw [hY1]))) ?_
    refine g6 ?_
    refine RW.q (v := .int .u64 (Y0 : Int)) rfl (q_as (v := .int .u64 ((Y % 4294967296 : Nat) : Int)) (q_maskU (a := Y) rfl rfl (by omega)) (congrArg (Value.int .u64) (by rw [hY0]))) ?_
    refine g7 ?_
    refine RW.q (v := .int .u64 ((hi * 2 ^ sh : Nat) : Int)) rfl (q_shlU (a := hi) (c := sh) rfl rfl (by omega) (Nat.mod_eq_of_lt (by omega))) ?_
    refine g2 ?_
    refine RW.q (v := .int .u64 ((64 - sh : Nat) : Int)) rfl (q_subU (a := 64) (b := sh) rfl rfl (by omega)) (RW.q (v := .int .u64 ((lo / 2 ^ (64 - sh) : Nat) : Int)) rfl (q_shrU' (a := lo) (c := (64 - sh)) rfl rfl (by omega)) (RW.q (v := .int .u64 (U : Int)) rfl (q_as (v := .int .u64 (((hi * 2 ^ sh) ||| (lo / 2 ^ (64 - sh)) : Nat) : Int)) (q_orU (a := (hi * 2 ^ sh)) (b := (lo / 2 ^ (64 - sh))) rfl rfl (by omega) (by have := Nat.div_le_self lo (2 ^ (64 - sh)); omega)) (congrArg (Value.int .u64) (by rw [hj1, hU]))) ?_))
    refine g7 ?_
    refine RW.q (v := .int .u64 (V : Int)) rfl (q_shlU (a := lo) (c := sh) rfl rfl (by omega) hV) ?_
    refine g6 ?_
    refine RW.q (v := .int .u64 (W1 : Int)) rfl (q_as (v := .int .u64 ((V / 4294967296 : Nat) : Int)) (q_shr32U (a := V) rfl rfl) (congrArg (Value.int .u64) (by rw [hW1]))) ?_
    refine g6 ?_
    refine RW.q (v := .int .u64 (W0 : Int)) rfl (q_as (v := .int .u64 ((V % 4294967296 : Nat) : Int)) (q_maskU (a := V) rfl rfl (by omega)) (congrArg (Value.int .u64) (by rw [hW0]))) ?_
    refine g4 ?_
    have hf1 := Nums.kn_first (u := U) (d := W1) hyd hy1p (by omega)
    rw [hQ1] at hf1
    have hf2 := Nums.kn_top (u := U) (B := 4294967296) hyd (by omega) (by omega) hUY hy1p
    have hf3 : U / (Y1) * (Y1) ≤ U := Nat.div_mul_le_self _ _
    have hf4 : U / (Y1) * (Y1) + U % (Y1) = U := Nat.div_add_mod' _ _
    have hf5 : U % (Y1) < Y1 := Nat.mod_lt _ hy1p
    refine g3 ?_
    refine RW.q (v := .int .u64 ((U / Y1 : Nat) : Int)) rfl (q_quoU (a := U) (b := Y1) rfl rfl (by omega) (by omega)) ?_
    refine g8 ?_
    refine RW.q (v := .int .u64 (((U / Y1) * Y1 : Nat) : Int)) rfl (q_mulU (a := (U / Y1)) (b := Y1) rfl rfl (Nat.mod_eq_of_lt (by omega))) (RW.q (v := .int .u64 ((U % (Y1) : Nat) : Int)) rfl (q_as (v := .int .u64 ((U - ((U / Y1) * Y1) : Nat) : Int)) (q_subU (a := U) (b := ((U / Y1) * Y1)) rfl rfl (by omega)) (congrArg (Value.int .u64) (by omega))) ?_)
    refine g5 ?_
    refine AW.loop (fun s J m => ∃ (q : Nat), ∃ (r : Nat), s = [(2, .int .u64 (Y : Int)), (8, .int .u64 (sh : Int)), (9, .int .u64 (Y1 : Int)), (10, .int .u64 (Y0 : Int)), (11, .int .u64 (U : Int)), (13, .int .u64 (W1 : Int)), (14, .int .u64 (W0 : Int)), (15, .int .u64 (q : Int)), (16, .int .u64 (r : Int))] ∧ J = St ⟨w, Φ, []⟩ Φ [] ∧ m = q + 0 * q ∧ (q * (Y1) + r = U) ∧ (Q1 ≤ q) ∧ (q ≤ 4294967296 + 1) ∧ (r < 4294967296)) (s0 := _) (J1 := _) (m0 := _) ⟨_, _, rfl, rfl, rfl, hf4, hf1, hf2, (by omega)⟩ ⟨rfl, rfl, rfl, rfl, rfl, rfl, rfl, rfl, rfl, trivial⟩ (fun _ h => h) ?_
    rintro _ _ _ _ ⟨q, r, rfl, rfl, rfl, hq, hQ, hqB, hr⟩
    refine g2 ?_
    have hm9 : q * (Y0) ≤ (4294967296 + 1) * 4294967295 := Nat.mul_le_mul (by omega) (by omega)
    refine g6 ?_
    refine RW.g (b := (decide (((4294967296 : Nat) : Int) ≤ (q : Int)))) (v := .int .u64 ((q * Y0 : Nat) : Int)) rfl rfl rfl (fun h => q_mulU (a := q) (b := Y0) (gv_pos h) (gv_pos h) (Nat.mod_eq_of_lt (by (try simp [-List.getD_eq_getElem?_getD] at h); omega))) ?_
    refine g1 ?_
    refine RW.g (b := (decide (((4294967296 : Nat) : Int) ≤ (q : Int)))) (v := .int .u64 ((4294967296 * r : Nat) : Int)) rfl rfl rfl (fun h => q_mulU (a := 4294967296) (b := r) rfl (gv_pos h) (Nat.mod_eq_of_lt (by (try simp [-List.getD_eq_getElem?_getD] at h); omega))) ?_
    refine g1 ?_
    refine RW.g (b := (decide (((4294967296 : Nat) : Int) ≤ (q : Int)))) (v := .int .u64 (((4294967296 * r) + W1 : Nat) : Int)) rfl rfl rfl (fun h => q_addU (a := (4294967296 * r)) (b := W1) (gv_pos h) (gv_pos h) (Nat.mod_eq_of_lt (by (try simp [-List.getD_eq_getElem?_getD] at h); omega))) ?_
    refine g1 ?_
    obtain ⟨qb1, hqb1⟩ : ∃ qz : Bool, ((decide (((4294967296 : Nat) : Int) ≤ (q : Int))) || (decide ((((4294967296 * r) + W1 : Nat) : Int) < ((q * Y0 : Nat) : Int)))) = qz := ⟨_, rfl⟩
    refine RW.q (v := .bool qb1) rfl (q_as (v := .bool ((decide (((4294967296 : Nat) : Int) ≤ (q : Int))) || (decide ((((4294967296 * r) + W1 : Nat) : Int) < ((q * Y0 : Nat) : Int))))) (qpO rfl rfl rfl) (congrArg Value.bool hqb1)) ?_
    subst hqb1
    refine g2 ?_
    refine AW.cond rfl (fun hc4 => ?_) fun hc4 => ?_
    ·
     simp [-List.getD_eq_getElem?_getD] at hc4
     refine g4 ?_
     have hdn := Nums.kn_down (d := W1) hyd hq hUY (by omega) (by rw [hQ1]; exact hQ) (by omega)
     rw [hQ1] at hdn
     refine g2 ?_
     refine RW.q (v := .int .u64 ((q - 1 : Nat) : Int)) rfl (q_subU (a := q) (b := 1) rfl rfl (by omega)) ?_
     refine g7 ?_
     refine RW.q (v := .int .u64 ((r + Y1 : Nat) : Int)) rfl (q_addU (a := r) (b := Y1) rfl rfl (Nat.mod_eq_of_lt (by omega))) ?_
     refine g9 ?_
     refine AW.cond rfl (fun hc5 => ?_) fun hc5 => ?_
     ·
      simp [-List.getD_eq_getElem?_getD] at hc5
      refine g6 ?_
      have hqe : q - 1 = Q1 := by
       have hp9 := Nums.kn_end (d := W1) (q := q - 1) (r := r + Y1) hyd (kn_dec hq hdn.1) hUY (by rw [hQ1]; exact hdn.2) (Nums.kn_break (by omega) (by omega) (by omega))
       rw [hp9, hQ1]
      rw [hqe]
      obtain ⟨ha1, hb1⟩ := Nums.kn_rest (u := U) (d := W1) (y := Y) (B := 4294967296) (M := 18446744073709551616) (by omega) (by omega)
      rw [hQ1, hR1] at hb1
      refine g2 ?_
      refine RW.q (v := .int .u64 ((U * 4294967296 % 18446744073709551616 : Nat) : Int)) rfl (q_mulU (a := U) (b := 4294967296) rfl rfl rfl) ?_
      refine g1 ?_
      refine RW.q (v := .int .u64 (((U * 4294967296 % 18446744073709551616 + W1) % 18446744073709551616 : Nat) : Int)) rfl (q_addU (a := (U * 4294967296 % 18446744073709551616)) (b := W1) rfl rfl rfl) ?_
      refine g2 ?_
      refine RW.q (v := .int .u64 ((Q1 * Y % 18446744073709551616 : Nat) : Int)) rfl (q_mulU (a := Q1) (b := Y) rfl rfl rfl) (RW.q (v := .int .u64 (R1 : Int)) rfl (q_subU (a := ((U * 4294967296 % 18446744073709551616 + W1) % 18446744073709551616)) (b := (Q1 * Y % 18446744073709551616)) rfl rfl (by rw [ha1]; exact hb1)) ?_)
      refine g4 ?_
      have hf1 := Nums.kn_first (u := R1) (d := W0) hyd hy1p (by omega)
      rw [hQ0] at hf1
      have hf2 := Nums.kn_top (u := R1) (B := 4294967296) hyd (by omega) (by omega) hRY hy1p
      have hf3 : R1 / (Y1) * (Y1) ≤ R1 := Nat.div_mul_le_self _ _
      have hf4 : R1 / (Y1) * (Y1) + R1 % (Y1) = R1 := Nat.div_add_mod' _ _
      have hf5 : R1 % (Y1) < Y1 := Nat.mod_lt _ hy1p
      refine g3 ?_
      refine RW.q (v := .int .u64 ((R1 / Y1 : Nat) : Int)) rfl (q_quoU (a := R1) (b := Y1) rfl rfl (by omega) (by omega)) ?_
      refine g8 ?_
      refine RW.q (v := .int .u64 (((R1 / Y1) * Y1 : Nat) : Int)) rfl (q_mulU (a := (R1 / Y1)) (b := Y1) rfl rfl (Nat.mod_eq_of_lt (by omega))) (RW.q (v := .int .u64 ((R1 % (Y1) : Nat) : Int)) rfl (q_as (v := .int .u64 ((R1 - ((R1 / Y1) * Y1) : Nat) : Int)) (q_subU (a := R1) (b := ((R1 / Y1) * Y1)) rfl rfl (by omega)) (congrArg (Value.int .u64) (by omega))) ?_)
      refine g5 ?_
      refine AW.loop (fun s J m => ∃ (q : Nat), ∃ (r : Nat), s = [(2, .int .u64 (Y : Int)), (8, .int .u64 (sh : Int)), (9, .int .u64 (Y1 : Int)), (10, .int .u64 (Y0 : Int)), (13, .int .u64 (W1 : Int)), (14, .int .u64 (W0 : Int)), (15, .int .u64 (Q1 : Int)), (17, .int .u64 (R1 : Int)), (18, .int .u64 (q : Int)), (16, .int .u64 (r : Int))] ∧ J = St ⟨w, Φ, []⟩ Φ [] ∧ m = q + 0 * q ∧ (q * (Y1) + r = R1) ∧ (Q0 ≤ q) ∧ (q ≤ 4294967296 + 1) ∧ (r < 4294967296)) (s0 := _) (J1 := _) (m0 := _) ⟨_, _, rfl, rfl, rfl, hf4, hf1, hf2, (by omega)⟩ ⟨rfl, rfl, rfl, rfl, rfl, rfl, rfl, rfl, rfl, rfl, trivial⟩ (fun _ h => h) ?_
      rintro _ _ _ _ ⟨q, r, rfl, rfl, rfl, hq, hQ, hqB, hr⟩
      refine g2 ?_
      have hm9 : q * (Y0) ≤ (4294967296 + 1) * 4294967295 := Nat.mul_le_mul (by omega) (by omega)
      refine g6 ?_
      refine RW.g (b := (decide (((4294967296 : Nat) : Int) ≤ (q : Int)))) (v := .int .u64 ((q * Y0 : Nat) : Int)) rfl rfl rfl (fun h => q_mulU (a := q) (b := Y0) (gv_pos h) (gv_pos h) (Nat.mod_eq_of_lt (by (try simp [-List.getD_eq_getElem?_getD] at h); omega))) ?_
      refine g1 ?_
      refine RW.g (b := (decide (((4294967296 : Nat) : Int) ≤ (q : Int)))) (v := .int .u64 ((4294967296 * r : Nat) : Int)) rfl rfl rfl (fun h => q_mulU (a := 4294967296) (b := r) rfl (gv_pos h) (Nat.mod_eq_of_lt (by (try simp [-List.getD_eq_getElem?_getD] at h); omega))) ?_
      refine g1 ?_
      refine RW.g (b := (decide (((4294967296 : Nat) : Int) ≤ (q : Int)))) (v := .int .u64 (((4294967296 * r) + W0 : Nat) : Int)) rfl rfl rfl (fun h => q_addU (a := (4294967296 * r)) (b := W0) (gv_pos h) (gv_pos h) (Nat.mod_eq_of_lt (by (try simp [-List.getD_eq_getElem?_getD] at h); omega))) ?_
      refine g1 ?_
      obtain ⟨qb2, hqb2⟩ : ∃ qz : Bool, ((decide (((4294967296 : Nat) : Int) ≤ (q : Int))) || (decide ((((4294967296 * r) + W0 : Nat) : Int) < ((q * Y0 : Nat) : Int)))) = qz := ⟨_, rfl⟩
      refine RW.q (v := .bool qb2) rfl (q_as (v := .bool ((decide (((4294967296 : Nat) : Int) ≤ (q : Int))) || (decide ((((4294967296 * r) + W0 : Nat) : Int) < ((q * Y0 : Nat) : Int))))) (qpO rfl rfl rfl) (congrArg Value.bool hqb2)) ?_
      subst hqb2
      refine g2 ?_
      refine AW.cond rfl (fun hc6 => ?_) fun hc6 => ?_
      ·
       simp [-List.getD_eq_getElem?_getD] at hc6
       refine g4 ?_
       have hdn := Nums.kn_down (d := W0) hyd hq hRY (by omega) (by rw [hQ0]; exact hQ) (by omega)
       rw [hQ0] at hdn
       refine g2 ?_
       refine RW.q (v := .int .u64 ((q - 1 : Nat) : Int)) rfl (q_subU (a := q) (b := 1) rfl rfl (by omega)) ?_
       refine g7 ?_
       refine RW.q (v := .int .u64 ((r + Y1 : Nat) : Int)) rfl (q_addU (a := r) (b := Y1) rfl rfl (Nat.mod_eq_of_lt (by omega))) ?_
       refine g9 ?_
       refine AW.cond rfl (fun hc7 => ?_) fun hc7 => ?_
       ·
        simp [-List.getD_eq_getElem?_getD] at hc7
        refine g6 ?_
        have hqe : q - 1 = Q0 := by
         have hp9 := Nums.kn_end (d := W0) (q := q - 1) (r := r + Y1) hyd (kn_dec hq hdn.1) hRY (by rw [hQ0]; exact hdn.2) (Nums.kn_break (by omega) (by omega) (by omega))
         rw [hp9, hQ0]
        rw [hqe]
        obtain ⟨ha0, hb0⟩ := Nums.kn_rest (u := R1) (d := W0) (y := Y) (B := 4294967296) (M := 18446744073709551616) (by omega) (by omega)
        rw [hQ0, hR0] at hb0
        refine g2 ?_
        refine RW.q (v := .int .u64 ((Q1 * 4294967296 : Nat) : Int)) rfl (q_mulU (a := Q1) (b := 4294967296) rfl rfl (Nat.mod_eq_of_lt (by omega))) ?_
        refine g1 ?_
        refine RW.q (v := .int .u64 (((Q1 * 4294967296) + Q0 : Nat) : Int)) rfl (q_addU (a := (Q1 * 4294967296)) (b := Q0) rfl rfl (Nat.mod_eq_of_lt (by omega))) ?_
        refine g1 ?_
        refine RW.q (v := .int .u64 ((R1 * 4294967296 % 18446744073709551616 : Nat) : Int)) rfl (q_mulU (a := R1) (b := 4294967296) rfl rfl rfl) ?_
        refine g1 ?_
        refine RW.q (v := .int .u64 (((R1 * 4294967296 % 18446744073709551616 + W0) % 18446744073709551616 : Nat) : Int)) rfl (q_addU (a := (R1 * 4294967296 % 18446744073709551616)) (b := W0) rfl rfl rfl) ?_
        refine g2 ?_
        refine RW.q (v := .int .u64 ((Q0 * Y % 18446744073709551616 : Nat) : Int)) rfl (q_mulU (a := Q0) (b := Y) rfl rfl rfl) (RW.q (v := .int .u64 (R0 : Int)) rfl (q_subU (a := ((R1 * 4294967296 % 18446744073709551616 + W0) % 18446744073709551616)) (b := (Q0 * Y % 18446744073709551616)) rfl rfl (by rw [ha0]; exact hb0)) ?_)
        refine g1 ?_
        refine RW.q (v := .int .u64 ((R0 / 2 ^ sh : Nat) : Int)) rfl (q_shrU' (a := R0) (c := sh) rfl rfl (by omega)) ?_
        refine g5 ?_
        refine fin_out2 (v := .int .u64 (((Q1 * 4294967296) + Q0 : Nat) : Int)) (u := .int .u64 ((R0 / 2 ^ sh : Nat) : Int)) rfl rfl rfl rfl (fun w' hw => ?_)
        refine ⟨?_, hw.below rfl⟩
        subst hW1 hW0
        have hfin := Nums.div128 (hi := hi) (lo := lo) (y := y) (u := U) (v := V) (y' := Y) (Q1 := Q1) (r1 := R1) (Q0 := Q0) hs64 hY.symm hU.symm hV.symm hy0 hQ1.symm hR1.symm hQ0.symm
        rw [hR0] at hfin
        rw [hfin.1, hfin.2]
       ·
        simp [-List.getD_eq_getElem?_getD] at hc7
        refine g2 ?_
        exact Post.back (s' := _) (J' := _) (m' := _) (by omega) ⟨q - 1, r + Y1, rfl, rfl, rfl, (kn_dec hq hdn.1), hdn.2, (by omega), (by omega)⟩ ⟨rfl, rfl, rfl, rfl, rfl, rfl, rfl, rfl, rfl, rfl, trivial⟩ (fun _ h => h)
      ·
       simp [-List.getD_eq_getElem?_getD] at hc6
       refine g6 ?_
       have hqe : q = Q0 := by
        have hp9 := Nums.kn_end (d := W0) hyd hq hRY (by rw [hQ0]; exact hQ) (by omega)
        rw [hp9, hQ0]
       rw [hqe]
       obtain ⟨ha0, hb0⟩ := Nums.kn_rest (u := R1) (d := W0) (y := Y) (B := 4294967296) (M := 18446744073709551616) (by omega) (by omega)
       rw [hQ0, hR0] at hb0
       refine g2 ?_
       refine RW.q (v := .int .u64 ((Q1 * 4294967296 : Nat) : Int)) rfl (q_mulU (a := Q1) (b := 4294967296) rfl rfl (Nat.mod_eq_of_lt (by omega))) ?_
       refine g1 ?_
       refine RW.q (v := .int .u64 (((Q1 * 4294967296) + Q0 : Nat) : Int)) rfl (q_addU (a := (Q1 * 4294967296)) (b := Q0) rfl rfl (Nat.mod_eq_of_lt (by omega))) ?_
       refine g1 ?_
       refine RW.q (v := .int .u64 ((R1 * 4294967296 % 18446744073709551616 : Nat) : Int)) rfl (q_mulU (a := R1) (b := 4294967296) rfl rfl rfl) ?_
       refine g1 ?_
       refine RW.q (v := .int .u64 (((R1 * 4294967296 % 18446744073709551616 + W0) % 18446744073709551616 : Nat) : Int)) rfl (q_addU (a := (R1 * 4294967296 % 18446744073709551616)) (b := W0) rfl rfl rfl) ?_
       refine g2 ?_
       refine RW.q (v := .int .u64 ((Q0 * Y % 18446744073709551616 : Nat) : Int)) rfl (q_mulU (a := Q0) (b := Y) rfl rfl rfl) (RW.q (v := .int .u64 (R0 : Int)) rfl (q_subU (a := ((R1 * 4294967296 % 18446744073709551616 + W0) % 18446744073709551616)) (b := (Q0 * Y % 18446744073709551616)) rfl rfl (by rw [ha0]; exact hb0)) ?_)
       refine g1 ?_
       refine RW.q (v := .int .u64 ((R0 / 2 ^ sh : Nat) : Int)) rfl (q_shrU' (a := R0) (c := sh) rfl rfl (by omega)) ?_
       refine g5 ?_
       refine fin_out2 (v := .int .u64 (((Q1 * 4294967296) + Q0 : Nat) : Int)) (u := .int .u64 ((R0 / 2 ^ sh : Nat) : Int)) rfl rfl rfl rfl (fun w' hw => ?_)
       refine ⟨?_, hw.below rfl⟩
       subst hW1 hW0
       have hfin := Nums.div128 (hi := hi) (lo := lo) (y := y) (u := U) (v := V) (y' := Y) (Q1 := Q1) (r1 := R1) (Q0 := Q0) hs64 hY.symm hU.symm hV.symm hy0 hQ1.symm hR1.symm hQ0.symm
       rw [hR0] at hfin
       rw [hfin.1, hfin.2]
     ·
      simp [-List.getD_eq_getElem?_getD] at hc5
      refine g2 ?_
      exact Post.back (s' := _) (J' := _) (m' := _) (by omega) ⟨q - 1, r + Y1, rfl, rfl, rfl, (kn_dec hq hdn.1), hdn.2, (by omega), (by omega)⟩ ⟨rfl, rfl, rfl, rfl, rfl, rfl, rfl, rfl, rfl, trivial⟩ (fun _ h => h)
    ·
     simp [-List.getD_eq_getElem?_getD] at hc4
     refine g6 ?_
     have hqe : q = Q1 := by
      have hp9 := Nums.kn_end (d := W1) hyd hq hUY (by rw [hQ1]; exact hQ) (by omega)
      rw [hp9, hQ1]
     rw [hqe]
     obtain ⟨ha1, hb1⟩ := Nums.kn_rest (u := U) (d := W1) (y := Y) (B := 4294967296) (M := 18446744073709551616) (by omega) (by omega)
     rw [hQ1, hR1] at hb1
     refine g2 ?_
     refine RW.q (v := .int .u64 ((U * 4294967296 % 18446744073709551616 : Nat) : Int)) rfl (q_mulU (a := U) (b := 4294967296) rfl rfl rfl) ?_
     refine g1 ?_
     refine RW.q (v := .int .u64 (((U * 4294967296 % 18446744073709551616 + W1) % 18446744073709551616 : Nat) : Int)) rfl (q_addU (a := (U * 4294967296 % 18446744073709551616)) (b := W1) rfl rfl rfl) ?_
     refine g2 ?_
     refine RW.q (v := .int .u64 ((Q1 * Y % 18446744073709551616 : Nat) : Int)) rfl (q_mulU (a := Q1) (b := Y) rfl rfl rfl) (RW.q (v := .int .u64 (R1 : Int)) rfl (q_subU (a := ((U * 4294967296 % 18446744073709551616 + W1) % 18446744073709551616)) (b := (Q1 * Y % 18446744073709551616)) rfl rfl (by rw [ha1]; exact hb1)) ?_)
     refine g4 ?_
     have hf1 := Nums.kn_first (u := R1) (d := W0) hyd hy1p (by omega)
     rw [hQ0] at hf1
     have hf2 := Nums.kn_top (u := R1) (B := 4294967296) hyd (by omega) (by omega) hRY hy1p
     have hf3 : R1 / (Y1) * (Y1) ≤ R1 := Nat.div_mul_le_self _ _
     have hf4 : R1 / (Y1) * (Y1) + R1 % (Y1) = R1 := Nat.div_add_mod' _ _
     have hf5 : R1 % (Y1) < Y1 := Nat.mod_lt _ hy1p
     refine g3 ?_
     refine RW.q (v := .int .u64 ((R1 / Y1 : Nat) : Int)) rfl (q_quoU (a := R1) (b := Y1) rfl rfl (by omega) (by omega)) ?_
     refine g8 ?_
     refine RW.q (v := .int .u64 (((R1 / Y1) * Y1 : Nat) : Int)) rfl (q_mulU (a := (R1 / Y1)) (b := Y1) rfl rfl (Nat.mod_eq_of_lt (by omega))) (RW.q (v := .int .u64 ((R1 % (Y1) : Nat) : Int)) rfl (q_as (v := .int .u64 ((R1 - ((R1 / Y1) * Y1) : Nat) : Int)) (q_subU (a := R1) (b := ((R1 / Y1) * Y1)) rfl rfl (by omega)) (congrArg (Value.int .u64) (by omega))) ?_)
     refine g5 ?_
     refine AW.loop (fun s J m => ∃ (q : Nat), ∃ (r : Nat), s = [(2, .int .u64 (Y : Int)), (8, .int .u64 (sh : Int)), (9, .int .u64 (Y1 : Int)), (10, .int .u64 (Y0 : Int)), (13, .int .u64 (W1 : Int)), (14, .int .u64 (W0 : Int)), (15, .int .u64 (Q1 : Int)), (17, .int .u64 (R1 : Int)), (18, .int .u64 (q : Int)), (16, .int .u64 (r : Int))] ∧ J = St ⟨w, Φ, []⟩ Φ [] ∧ m = q + 0 * q ∧ (q * (Y1) + r = R1) ∧ (Q0 ≤ q) ∧ (q ≤ 4294967296 + 1) ∧ (r < 4294967296)) (s0 := _) (J1 := _) (m0 := _) ⟨_, _, rfl, rfl, rfl, hf4, hf1, hf2, (by omega)⟩ ⟨rfl, rfl, rfl, rfl, rfl, rfl, rfl, rfl, rfl, rfl, trivial⟩ (fun _ h => h) ?_
     rintro _ _ _ _ ⟨q, r, rfl, rfl, rfl, hq, hQ, hqB, hr⟩
     refine g2 ?_
     have hm9 : q * (Y0) ≤ (4294967296 + 1) * 4294967295 := Nat.mul_le_mul (by omega) (by omega)
     refine g6 ?_
     refine RW.g (b := (decide (((4294967296 : Nat) : Int) ≤ (q : Int)))) (v := .int .u64 ((q * Y0 : Nat) : Int)) rfl rfl rfl (fun h => q_mulU (a := q) (b := Y0) (gv_pos h) (gv_pos h) (Nat.mod_eq_of_lt (by (try simp [-List.getD_eq_getElem?_getD] at h); omega))) ?_
     refine g1 ?_
     refine RW.g (b := (decide (((4294967296 : Nat) : Int) ≤ (q : Int)))) (v := .int .u64 ((4294967296 * r : Nat) : Int)) rfl rfl rfl (fun h => q_mulU (a := 4294967296) (b := r) rfl (gv_pos h) (Nat.mod_eq_of_lt (by (try simp [-List.getD_eq_getElem?_getD] at h); omega))) ?_
     refine g1 ?_
     refine RW.g (b := (decide (((4294967296 : Nat) : Int) ≤ (q : Int)))) (v := .int .u64 (((4294967296 * r) + W0 : Nat) : Int)) rfl rfl rfl (fun h => q_addU (a := (4294967296 * r)) (b := W0) (gv_pos h) (gv_pos h) (Nat.mod_eq_of_lt (by (try simp [-List.getD_eq_getElem?_getD] at h); omega))) ?_
     refine g1 ?_
     obtain ⟨qb3, hqb3⟩ : ∃ qz : Bool, ((decide (((4294967296 : Nat) : Int) ≤ (q : Int))) || (decide ((((4294967296 * r) + W0 : Nat) : Int) < ((q * Y0 : Nat) : Int)))) = qz := ⟨_, rfl⟩
     refine RW.q (v := .bool qb3) rfl (q_as (v := .bool ((decide (((4294967296 : Nat) : Int) ≤ (q : Int))) || (decide ((((4294967296 * r) + W0 : Nat) : Int) < ((q * Y0 : Nat) : Int))))) (qpO rfl rfl rfl) (congrArg Value.bool hqb3)) ?_
     subst hqb3
     refine g2 ?_
     refine AW.cond rfl (fun hc8 => ?_) fun hc8 => ?_
     ·
      simp [-List.getD_eq_getElem?_getD] at hc8
      refine g4 ?_
      have hdn := Nums.kn_down (d := W0) hyd hq hRY (by omega) (by rw [hQ0]; exact hQ) (by omega)
      rw [hQ0] at hdn
      refine g2 ?_
      refine RW.q (v := .int .u64 ((q - 1 : Nat) : Int)) rfl (q_subU (a := q) (b := 1) rfl rfl (by omega)) ?_
      refine g7 ?_
      refine RW.q (v := .int .u64 ((r + Y1 : Nat) : Int)) rfl (q_addU (a := r) (b := Y1) rfl rfl (Nat.mod_eq_of_lt (by omega))) ?_
      refine g9 ?_
      refine AW.cond rfl (fun hc9 => ?_) fun hc9 => ?_
      ·
       simp [-List.getD_eq_getElem?_getD] at hc9
       refine g6 ?_
       have hqe : q - 1 = Q0 := by
        have hp9 := Nums.kn_end (d := W0) (q := q - 1) (r := r + Y1) hyd (kn_dec hq hdn.1) hRY (by rw [hQ0]; exact hdn.2) (Nums.kn_break (by omega) (by omega) (by omega))
        rw [hp9, hQ0]
       rw [hqe]
       obtain ⟨ha0, hb0⟩ := Nums.kn_rest (u := R1) (d := W0) (y := Y) (B := 4294967296) (M := 18446744073709551616) (by omega) (by omega)
       rw [hQ0, hR0] at hb0
       refine g2 ?_
       refine RW.q (v := .int .u64 ((Q1 * 4294967296 : Nat) : Int)) rfl (q_mulU (a := Q1) (b := 4294967296) rfl rfl (Nat.mod_eq_of_lt (by omega))) ?_
       refine g1 ?_
       refine RW.q (v := .int .u64 (((Q1 * 4294967296) + Q0 : Nat) : Int)) rfl (q_addU (a := (Q1 * 4294967296)) (b := Q0) rfl rfl (Nat.mod_eq_of_lt (by omega))) ?_
       refine g1 ?_
       refine RW.q (v := .int .u64 ((R1 * 4294967296 % 18446744073709551616 : Nat) : Int)) rfl (q_mulU (a := R1) (b := 4294967296) rfl rfl rfl) ?_
       refine g1 ?_
       refine RW.q (v := .int .u64 (((R1 * 4294967296 % 18446744073709551616 + W0) % 18446744073709551616 : Nat) : Int)) rfl (q_addU (a := (R1 * 4294967296 % 18446744073709551616)) (b := W0) rfl rfl rfl) ?_
       refine g2 ?_
       refine RW.q (v := .int .u64 ((Q0 * Y % 18446744073709551616 : Nat) : Int)) rfl (q_mulU (a := Q0) (b := Y) rfl rfl rfl) (RW.q (v := .int .u64 (R0 : Int)) rfl (q_subU (a := ((R1 * 4294967296 % 18446744073709551616 + W0) % 18446744073709551616)) (b := (Q0 * Y % 18446744073709551616)) rfl rfl (by rw [ha0]; exact hb0)) ?_)
       refine g1 ?_
       refine RW.q (v := .int .u64 ((R0 / 2 ^ sh : Nat) : Int)) rfl (q_shrU' (a := R0) (c := sh) rfl rfl (by omega)) ?_
       refine g5 ?_
       refine fin_out2 (v := .int .u64 (((Q1 * 4294967296) + Q0 : Nat) : Int)) (u := .int .u64 ((R0 / 2 ^ sh : Nat) : Int)) rfl rfl rfl rfl (fun w' hw => ?_)
       refine ⟨?_, hw.below rfl⟩
       subst hW1 hW0
       have hfin := Nums.div128 (hi := hi) (lo := lo) (y := y) (u := U) (v := V) (y' := Y) (Q1 := Q1) (r1 := R1) (Q0 := Q0) hs64 hY.symm hU.symm hV.symm hy0 hQ1.symm hR1.symm hQ0.symm
       rw [hR0] at hfin
       rw [hfin.1, hfin.2]
      ·
       simp [-List.getD_eq_getElem?_getD] at hc9
       refine g2 ?_
       exact Post.back (s' := _) (J' := _) (m' := _) (by omega) ⟨q - 1, r + Y1, rfl, rfl, rfl, (kn_dec hq hdn.1), hdn.2, (by omega), (by omega)⟩ ⟨rfl, rfl, rfl, rfl, rfl, rfl, rfl, rfl, rfl, rfl, trivial⟩ (fun _ h => h)
     ·
      simp [-List.getD_eq_getElem?_getD] at hc8
      refine g6 ?_
      have hqe : q = Q0 := by
       have hp9 := Nums.kn_end (d := W0) hyd hq hRY (by rw [hQ0]; exact hQ) (by omega)
       rw [hp9, hQ0]
      rw [hqe]
      obtain ⟨ha0, hb0⟩ := Nums.kn_rest (u := R1) (d := W0) (y := Y) (B := 4294967296) (M := 18446744073709551616) (by omega) (by omega)
      rw [hQ0, hR0] at hb0
      refine g2 ?_
      refine RW.q (v := .int .u64 ((Q1 * 4294967296 : Nat) : Int)) rfl (q_mulU (a := Q1) (b := 4294967296) rfl rfl (Nat.mod_eq_of_lt (by omega))) ?_
      refine g1 ?_
      refine RW.q (v := .int .u64 (((Q1 * 4294967296) + Q0 : Nat) : Int)) rfl (q_addU (a := (Q1 * 4294967296)) (b := Q0) rfl rfl (Nat.mod_eq_of_lt (by omega))) ?_
      refine g1 ?_
      refine RW.q (v := .int .u64 ((R1 * 4294967296 % 18446744073709551616 : Nat) : Int)) rfl (q_mulU (a := R1) (b := 4294967296) rfl rfl rfl) ?_
      refine g1 ?_
      refine RW.q (v := .int .u64 (((R1 * 4294967296 % 18446744073709551616 + W0) % 18446744073709551616 : Nat) : Int)) rfl (q_addU (a := (R1 * 4294967296 % 18446744073709551616)) (b := W0) rfl rfl rfl) ?_
      refine g2 ?_
      refine RW.q (v := .int .u64 ((Q0 * Y % 18446744073709551616 : Nat) : Int)) rfl (q_mulU (a := Q0) (b := Y) rfl rfl rfl) (RW.q (v := .int .u64 (R0 : Int)) rfl (q_subU (a := ((R1 * 4294967296 % 18446744073709551616 + W0) % 18446744073709551616)) (b := (Q0 * Y % 18446744073709551616)) rfl rfl (by rw [ha0]; exact hb0)) ?_)
      refine g1 ?_
      refine RW.q (v := .int .u64 ((R0 / 2 ^ sh : Nat) : Int)) rfl (q_shrU' (a := R0) (c := sh) rfl rfl (by omega)) ?_
      refine g5 ?_
      refine fin_out2 (v := .int .u64 (((Q1 * 4294967296) + Q0 : Nat) : Int)) (u := .int .u64 ((R0 / 2 ^ sh : Nat) : Int)) rfl rfl rfl rfl (fun w' hw => ?_)
      refine ⟨?_, hw.below rfl⟩
      subst hW1 hW0
      have hfin := Nums.div128 (hi := hi) (lo := lo) (y := y) (u := U) (v := V) (y' := Y) (Q1 := Q1) (r1 := R1) (Q0 := Q0) hs64 hY.symm hU.symm hV.symm hy0 hQ1.symm hR1.symm hQ0.symm
      rw [hR0] at hfin
      rw [hfin.1, hfin.2]
end Go.Proofs.Ytpeojogjeopfaaa
namespace Fu
/-! ### lists -/
theorem lt_succ {P : Nat → Prop} {k : Nat} (h : ∀ j, j < k → P j) (hk : P k) : ∀ j, j < k + 1 → P j := fun j hj => by
  rcases Nat.lt_or_eq_of_le (Nat.lt_succ_iff.1 hj) with h1 | h1
  · exact h j h1
  · subst h1; exact hk
/-! ### spans -/
def addS (x y : Int) : Int := if 9223372036854775807 < x + y then 9223372036854775807 else if x + y < -9223372036854775808 then -9223372036854775808 else x + y
/-! ### gauges -/
def inG (gs : List Bt.Gauge) (i : Int) : Prop := 0 ≤ i ∧ i < (gs.length : Int)
instance (gs : List Bt.Gauge) (i : Int) : Decidable (inG gs i) := inferInstanceAs (Decidable (_ ∧ _))
/-! ### curves -/
def px (c : List Bt.Point) (i : Nat) : Int := (c.getD i default).X
def py (c : List Bt.Point) (i : Nat) : Int := (c.getD i default).Y
def PtOk (c : List Bt.Point) (i : Nat) : Prop := (0 ≤ px c i ∧ px c i ≤ 1125899906842624) ∧ (0 ≤ py c i ∧ py c i ≤ 1125899906842624) ∧ (0 < i → px c (i - 1) < px c i ∧ py c (i - 1) ≤ py c i)
instance (c : List Bt.Point) (i : Nat) : Decidable (PtOk c i) := inferInstanceAs (Decidable (_ ∧ _ ∧ (_ → _)))
def RightC (c : List Bt.Point) : Prop := (1 ≤ c.length ∧ c.length ≤ 32) ∧ ∀ i, i < c.length → PtOk c i
instance (c : List Bt.Point) : Decidable (RightC c) := inferInstanceAs (Decidable (_ ∧ ∀ i, i < c.length → PtOk c i))
def atSeg (c : List Bt.Point) (i : Nat) (x : Int) : Int := py c (i - 1) + (x - px c (i - 1)) * (py c i - py c (i - 1)) / (px c i - px c (i - 1))
def posX (c : List Bt.Point) (x : Int) : Nat := c.findIdx fun p => decide (x ≤ p.X)
def valC (c : List Bt.Point) (x : Int) : Int := if posX c x = 0 then py c 0 else if posX c x < c.length then atSeg c (posX c x) x else py c (c.length - 1)
def remC (c : List Bt.Point) (x : Int) : Bool := if posX c x = 0 then false else if posX c x < c.length then decide (0 < (x - px c (posX c x - 1)) * (py c (posX c x) - py c (posX c x - 1)) % (px c (posX c x) - px c (posX c x - 1))) else false
theorem findIdx_is {α : Type} [Inhabited α] {p : α → Bool} {l : List α} {i : Nat} (hi : i ≤ l.length) (h1 : i < l.length → p (l.getD i default) = true) (h2 : ∀ j, j < i → p (l.getD j default) = false) : l.findIdx p = i := by
  rcases Nat.lt_or_eq_of_le hi with h | h
  · refine (List.findIdx_eq h).2 ⟨?_, fun j hj => ?_⟩
    · have := h1 h; rwa [gDD, List.getElem?_eq_getElem h] at this
    · have := h2 j hj; rwa [gDD, List.getElem?_eq_getElem (Nat.lt_trans hj h)] at this
  · subst h
    refine List.findIdx_eq_length.2 fun x hx => ?_
    obtain ⟨j, hj, rfl⟩ := List.mem_iff_getElem.1 hx
    have := h2 j hj
    rwa [gDD, List.getElem?_eq_getElem hj] at this
theorem posX_is {c : List Bt.Point} {x : Int} {i : Nat} (hi : i ≤ c.length) (h1 : i < c.length → x ≤ px c i) (h2 : ∀ j, j < i → px c j < x) : posX c x = i :=
  findIdx_is hi (fun h => decide_eq_true (h1 h)) (fun j hj => decide_eq_false (Int.not_le.2 (h2 j hj)))
/-! ### a list without neighbours that are alike -/
def appU (acc : List Int) (x : Int) : List Int := if acc.getLast? = some x then acc else acc ++ [x]
def comp (L : List Int) : List Int := L.foldl appU []
theorem comp_snoc (L : List Int) (x : Int) : comp (L ++ [x]) = appU (comp L) x := by simp [comp]
theorem take_snocI {L : List Int} {k : Nat} (h : k < L.length) : L.take (k + 1) = L.take k ++ [L.getD k 0] := by
  rw [List.take_succ_eq_append_getElem h, gDD, List.getElem?_eq_getElem h]; rfl
theorem comp_last : ∀ {L : List Int} {k : Nat}, 0 < k → k ≤ L.length → (comp (L.take k)).getLast? = some (L.getD (k - 1) 0) := fun {L k} h0 hk => by
  obtain ⟨j, rfl⟩ : ∃ j, k = j + 1 := ⟨k - 1, by omega⟩
  rw [take_snocI (by omega), comp_snoc, Nat.add_sub_cancel]
  unfold appU
  split
  · assumption
  · simp
theorem comp_id {L : List Int} : ∀ {k : Nat}, k ≤ L.length → (∀ j, 1 ≤ j → j < k → L.getD j 0 ≠ L.getD (j - 1) 0) → comp (L.take k) = L.take k
  | 0, _, _ => by simp [comp]
  | k + 1, hk, h => by
    have ih := comp_id (k := k) (by omega) (fun j h1 h2 => h j h1 (by omega))
    rw [take_snocI (by omega), comp_snoc, ih]
    unfold appU
    rw [if_neg]
    rcases Nat.eq_zero_or_pos k with h0 | h0
    · subst h0; simp
    · have := comp_last (L := L) h0 (by omega)
      rw [ih] at this
      rw [this]
      intro he
      exact h k h0 (by omega) (sJ he).symm
theorem comp_eq {L : List Int} {k : Nat} (h0 : 0 < k) (hk : k < L.length) (h : L.getD k 0 = L.getD (k - 1) 0) : comp (L.take (k + 1)) = comp (L.take k) := by
  rw [take_snocI hk, comp_snoc, appU, comp_last h0 (by omega), h, if_pos rfl]
theorem comp_ne {L : List Int} {k : Nat} (h0 : 0 < k) (hk : k < L.length) (h : L.getD k 0 ≠ L.getD (k - 1) 0) : comp (L.take (k + 1)) = comp (L.take k) ++ [L.getD k 0] := by
  rw [take_snocI hk, comp_snoc, appU, comp_last h0 (by omega), if_neg (fun e => h (sJ e).symm)]
structure CmI (L K : List Int) (k p : Nat) : Prop where
  len : K.length = L.length
  pre : K.take k = comp (L.take p)
  kl : k = (comp (L.take p)).length
  post : ∀ j, p ≤ j + 1 → j < L.length → K.getD j 0 = L.getD j 0
  kp : k + 1 ≤ p
theorem CmI.start {L : List Int} {k : Nat} (h0 : 0 < k) (hk : k < L.length) (h : L.getD k 0 = L.getD (k - 1) 0) (hid : ∀ j, 1 ≤ j → j < k → L.getD j 0 ≠ L.getD (j - 1) 0) : CmI L L k (k + 1) := by
  have h1 := comp_id (Nat.le_of_lt hk) hid
  have h2 := comp_eq h0 hk h
  exact ⟨rfl, by rw [h2, h1], by rw [h2, h1, List.length_take]; omega, fun _ _ _ => rfl, Nat.le_refl _⟩
theorem CmI.keep {L K : List Int} {k p : Nat} (h : CmI L K k p) (hp : p < L.length) (he : L.getD p 0 = L.getD (p - 1) 0) : CmI L K k (p + 1) := by
  have h1 := h.kp
  have h2 := comp_eq (L := L) (show 0 < p by omega) hp he
  exact ⟨h.len, by rw [h2]; exact h.pre, by rw [h2]; exact h.kl, fun j hj hl => h.post j (by omega) hl, by omega⟩
theorem CmI.put {L K : List Int} {k p : Nat} (h : CmI L K k p) (hp : p < L.length) (he : L.getD p 0 ≠ L.getD (p - 1) 0) : CmI L (K.set k (L.getD p 0)) (k + 1) (p + 1) := by
  have h1 := h.kp
  have hl := h.len
  have h2 := comp_ne (L := L) (show 0 < p by omega) hp he
  refine ⟨by simp [hl], ?_, by rw [h2, List.length_append, ← h.kl]; rfl, fun j hj hlj => ?_, by omega⟩
  · rw [h2, ← h.pre, take_snocI (by simp; omega)]
    have e1 : (K.set k (L.getD p 0)).take k = K.take k := by rw [List.take_set]; exact List.set_eq_of_length_le (by rw [List.length_take]; omega)
    have e2 : (K.set k (L.getD p 0)).getD k 0 = L.getD p 0 := by rw [gDD, List.getElem?_set_self (by omega)]; rfl
    rw [e1, e2]
  · rw [gDD, List.getElem?_set_ne (by omega), ← gDD]
    exact h.post j (by omega) hlj
end Fu
