/- Walks (part UnB), printed by walk2.py. Conditions: those of each theorem. -/
import Derived.Test.YtjcahklnkakklaaDoorTUnA
import Derived.Test.YtjcahklnkakklaaDoorTItoa
namespace Go.Proofs.YtjcahklnkakklaaDoor
open Go Go.K Go.RowKit
set_option maxRecDepth 8000
set_option maxHeartbeats 1000000
attribute [local irreducible] AW RW DW Post Qt
theorem product_c (w : World) (Φ : Hp) (hΦ : Hp.le Φ (hp w)) {W : Nat} {l : List UInt8} {me : Un.Mea} (hW : W ≤ 1125899906842625) (hm : me ∈ Un.ms) (hl : l.length ≤ 9) (hd : ∀ b ∈ l, Un.isD b = true) :
  Calls Tryd.prog 28 #[iV (W : Int), .string (bs l), .agg #[.string (bs me.1), iV (me.2.1 : Int), iV (me.2.2.1 : Int), iV (me.2.2.2 : Int)]] w fun e w' => e = .returned (.tuple #[iV (((Un.prod W l me).1 : Nat) : Int), .bool (Un.prod W l me).2]) ∧ Bel w.heap.size w w' := by
 refine calls_of_AW (args := [iV (W : Int), .string (bs l), .agg #[.string (bs me.1), iV (me.2.1 : Int), iV (me.2.2.1 : Int), iV (me.2.2.2 : Int)]]) Tryd.func28 rfl (Nat.le_of_ble_eq_true rfl) (St ⟨w, Φ, []⟩ Φ []) (StP.init w Φ hΦ []) ?_
 show AW Tryd.prog 83 [] _ _ _ [(0, iV (W : Int)), (1, .string (bs l)), (2, .agg #[.string (bs me.1), iV (me.2.1 : Int), iV (me.2.2.1 : Int), iV (me.2.2.2 : Int)])] _
 have hw2 : W ≤ 1125899906842625 := hW
 obtain ⟨_, hn1, hn2, hd1, hd2, hdn⟩ := Un.ms_facts me hm
 have hvl : Un.val l < 10 ^ l.length := Un.val_lt hd
 have ht9 : 10 ^ l.length ≤ 10 ^ 9 := Nat.pow_le_pow_right (by omega) hl
 have ht1 : 1 ≤ 10 ^ l.length := Nat.pow_pos (by omega)
 have hvC : Un.valC l = Un.val l := by rw [Un.valC_eq]; unfold Un.M; omega
 refine g2 ?_
 refine RW.bxA rfl rfl fun b1 => ?_
 refine g11 ?_
 refine AW.cond rfl (fun hc1 => ?_) fun hc1 => ?_
 ·
  simp [-List.getD_eq_getElem?_getD] at hc1
  refine g8 ?_
  refine fin_out2 (v := iV 0) (u := .bool false) rfl rfl rfl rfl (fun w' hw => ?_)
  refine ⟨?_, hw.below rfl⟩
  rw [Un.prod_no (.inl (by unfold Un.M; omega))]
  rfl
 ·
  simp [-List.getD_eq_getElem?_getD] at hc1
  refine g11 ?_
  refine RW.q (v := iV (l.length : Int)) rfl (q_lenS (l := l) rfl uT9) ?_
  refine g4 ?_
  refine AW.loop (fun s J m => ∃ (k : Nat), s = [(0, iV (W : Int)), (1, .string (bs l)), (5, pV b1 0), (6, iV 0), (7, .bool false), (19, iV (l.length : Int)), (8, iV ((10 ^ (l.take k).length : Nat) : Int)), (20, iV (k : Int))] ∧ J = St ⟨w, Φ, []⟩ Φ [.blk b1 70 [.string (bs me.1), iV (me.2.1 : Int), iV (me.2.2.1 : Int), iV (me.2.2.2 : Int)]] ∧ m = l.length - k ∧ (k ≤ l.length)) (s0 := _) (J1 := _) (m0 := _) ⟨0, rfl, rfl, rfl, (by omega)⟩ ⟨rfl, rfl, rfl, rfl, rfl, rfl, rfl, rfl, trivial⟩ (fun _ h => h) ?_
  rintro _ _ _ _ ⟨k, rfl, rfl, rfl, hk⟩
  refine g6 ?_
  refine AW.cond rfl (fun hc2 => ?_) fun hc2 => ?_
  ·
   simp [-List.getD_eq_getElem?_getD] at hc2
   refine g4 ?_
   have ht8 : 10 ^ (l.take k).length ≤ 10 ^ 8 := Nat.pow_le_pow_right (by omega) (by rw [List.length_take]; omega)
   have hts : 10 ^ (l.take (k + 1)).length = 10 ^ (l.take k).length * 10 := by rw [List.length_take, List.length_take, ← Nat.pow_succ]; congr 1; omega
   refine g2 ?_
   refine RW.q (v := iV ((10 ^ (l.take (k + 1)).length : Nat) : Int)) rfl (q_as (v := iV (((10 ^ (l.take k).length : Nat) : Int) * 10)) (q_mul rfl rfl rfl (by unfold I64; omega)) (congrArg (Value.int .i64) (by rw [hts]; simp))) ?_
   refine g8 ?_
   exact Post.back (s' := _) (J' := _) (m' := _) (by omega) ⟨k + 1, rfl, rfl, rfl, (by omega)⟩ ⟨rfl, rfl, rfl, rfl, rfl, rfl, rfl, rfl, trivial⟩ (fun _ h => h)
  ·
   simp [-List.getD_eq_getElem?_getD] at hc2
   refine g6 ?_
   rw [show l.take k = l from List.take_of_length_le (by omega)]
   obtain ⟨T, hT⟩ : ∃ T, 10 ^ l.length = T := ⟨_, rfl⟩
   rw [hT] at hvl ht9 ht1 ⊢
   have hWT : W * T ≤ 1125899906842624 * 1000000000 := Nat.mul_le_mul (by omega) (by omega)
   obtain ⟨A, hA⟩ : ∃ A, W * T = A := ⟨_, rfl⟩
   rw [hA] at hWT
   obtain ⟨F, hF⟩ : ∃ F, Un.val l = F := ⟨_, rfl⟩
   rw [hF] at hvl hvC
   obtain ⟨nu, hnu⟩ : ∃ nu, me.2.2.1 = nu := ⟨_, rfl⟩
   obtain ⟨de, hde⟩ : ∃ de, me.2.2.2 = de := ⟨_, rfl⟩
   rw [hnu] at hn1 hn2 hdn
   rw [hde] at hd1 hd2 hdn
   have hN1 : (A % 18446744073709551616 + F) % 18446744073709551616 * nu ≤ 18446744073709551615 * 1000000000 := Nat.mul_le_mul (by omega) (by omega)
   have hN2 : (A / 18446744073709551616 + (A % 18446744073709551616 + F) / 18446744073709551616) * nu ≤ 65536 * 1000000000 := Nat.mul_le_mul (by omega) (by omega)
   have hD1 : T * de ≤ 1000000000 * 24 := Nat.mul_le_mul (by omega) (by omega)
   have hD0 : 1 * 1 ≤ T * de := Nat.mul_le_mul (by omega) (by omega)
   refine g2 ?_
   refine RW.q (v := .int .u64 (W : Int)) rfl (q_toU (r := W) rfl uT3 uT86 rfl (by omega)) ?_
   refine g1 ?_
   refine RW.q (v := .int .u64 (T : Int)) rfl (q_toU (r := T) rfl uT3 uT86 rfl (by omega)) ?_
   refine RW.q (v := .tuple #[.int .u64 ((W * T / 18446744073709551616 : Nat) : Int), .int .u64 ((W * T % 18446744073709551616 : Nat) : Int)]) rfl (q_call (args := #[.int .u64 (W : Int), .int .u64 (T : Int)]) own43 rfl rfl (fun w1 hw1 => Mul64_c w1 (Go.K.hp w1) (Hp.le_refl _) (by omega) (by omega))) ?_
   refine RW.q (v := .tuple #[.int .u64 ((W * T / 18446744073709551616 : Nat) : Int), .int .u64 ((W * T % 18446744073709551616 : Nat) : Int)]) rfl (q_move rfl) ?_
   refine g7 ?_
   rw [hA]
   refine g3 ?_
   refine RW.q (v := iV (F : Int)) rfl (q_as (v := iV ((Un.valC l : Nat) : Int)) (q_call (args := #[.string (bs l)]) own29 rfl rfl (fun w1 hw1 => value_c w1 (Go.K.hp w1) (Hp.le_refl _) (by omega) (by assumption))) (congrArg (Value.int .i64) (by rw [hvC]))) ?_
   refine RW.q (v := .int .u64 (F : Int)) rfl (q_toU (r := F) rfl uT3 uT86 rfl (by omega)) ?_
   refine RW.q (v := .tuple #[.int .u64 ((((A % 18446744073709551616) + F) % 18446744073709551616 : Nat) : Int), .int .u64 ((((A % 18446744073709551616) + F) / 18446744073709551616 : Nat) : Int)]) rfl (q_ext (e := add64Entry) (args := [.int .u64 ((A % 18446744073709551616 : Nat) : Int), .int .u64 (F : Int), .int .u64 ((0 : Nat) : Int)]) Tryd.func44 rfl rfl (by kernel_rfl) (by kernel_rfl) rfl rfl (add64_run _ _)) ?_
   refine RW.q (v := .tuple #[.int .u64 ((((A % 18446744073709551616) + F) % 18446744073709551616 : Nat) : Int), .int .u64 ((((A % 18446744073709551616) + F) / 18446744073709551616 : Nat) : Int)]) rfl (q_move rfl) ?_
   refine g10 ?_
   refine RW.q (v := .int .u64 (((A / 18446744073709551616) + (((A % 18446744073709551616) + F) / 18446744073709551616) : Nat) : Int)) rfl (q_addU (a := (A / 18446744073709551616)) (b := (((A % 18446744073709551616) + F) / 18446744073709551616)) rfl rfl (Nat.mod_eq_of_lt (by omega))) ?_
   refine g7 ?_
   refine RW.q (v := iV (nu : Int)) rfl (q_as (v := iV (me.2.2.1 : Int)) (q_load rfl uT3 rfl (Cell.blk 0 rfl rfl)) (congrArg (Value.int .i64) (by rw [hnu]))) ?_
   refine RW.q (v := .int .u64 (nu : Int)) rfl (q_toU (r := nu) rfl uT3 uT86 rfl (by omega)) ?_
   refine RW.q (v := .tuple #[.int .u64 (((((A % 18446744073709551616) + F) % 18446744073709551616) * nu / 18446744073709551616 : Nat) : Int), .int .u64 (((((A % 18446744073709551616) + F) % 18446744073709551616) * nu % 18446744073709551616 : Nat) : Int)]) rfl (q_call (args := #[.int .u64 ((((A % 18446744073709551616) + F) % 18446744073709551616 : Nat) : Int), .int .u64 (nu : Int)]) own43 rfl rfl (fun w1 hw1 => Mul64_c w1 (Go.K.hp w1) (Hp.le_refl _) (by omega) (by omega))) ?_
   refine RW.q (v := .tuple #[.int .u64 (((((A % 18446744073709551616) + F) % 18446744073709551616) * nu / 18446744073709551616 : Nat) : Int), .int .u64 (((((A % 18446744073709551616) + F) % 18446744073709551616) * nu % 18446744073709551616 : Nat) : Int)]) rfl (q_move rfl) ?_
   refine g10 ?_
   refine RW.q (v := iV (nu : Int)) rfl (q_as (v := iV (me.2.2.1 : Int)) (q_load rfl uT3 rfl (Cell.blk 0 rfl rfl)) (congrArg (Value.int .i64) (by rw [hnu]))) ?_
   refine RW.q (v := .int .u64 (nu : Int)) rfl (q_toU (r := nu) rfl uT3 uT86 rfl (by omega)) ?_
   refine RW.q (v := .int .u64 ((((A / 18446744073709551616) + (((A % 18446744073709551616) + F) / 18446744073709551616)) * nu : Nat) : Int)) rfl (q_mulU (a := ((A / 18446744073709551616) + (((A % 18446744073709551616) + F) / 18446744073709551616))) (b := nu) rfl rfl (Nat.mod_eq_of_lt (by omega))) ?_
   refine g1 ?_
   refine RW.q (v := .int .u64 (((((A / 18446744073709551616) + (((A % 18446744073709551616) + F) / 18446744073709551616)) * nu) + ((((A % 18446744073709551616) + F) % 18446744073709551616) * nu / 18446744073709551616) : Nat) : Int)) rfl (q_addU (a := (((A / 18446744073709551616) + (((A % 18446744073709551616) + F) / 18446744073709551616)) * nu)) (b := ((((A % 18446744073709551616) + F) % 18446744073709551616) * nu / 18446744073709551616)) rfl rfl (Nat.mod_eq_of_lt (by omega))) ?_
   refine g6 ?_
   refine RW.q (v := .int .u64 (T : Int)) rfl (q_toU (r := T) rfl uT3 uT86 rfl (by omega)) ?_
   refine g1 ?_
   refine RW.q (v := iV (de : Int)) rfl (q_as (v := iV (me.2.2.2 : Int)) (q_load rfl uT3 rfl (Cell.blk 0 rfl rfl)) (congrArg (Value.int .i64) (by rw [hde]))) ?_
   refine RW.q (v := .int .u64 (de : Int)) rfl (q_toU (r := de) rfl uT3 uT86 rfl (by omega)) ?_
   refine RW.q (v := .int .u64 ((T * de : Nat) : Int)) rfl (q_mulU (a := T) (b := de) rfl rfl (Nat.mod_eq_of_lt (by omega))) ?_
   refine g5 ?_
   obtain ⟨hiV, hhi⟩ : ∃ h, (A / 18446744073709551616 + (A % 18446744073709551616 + F) / 18446744073709551616) * nu + (A % 18446744073709551616 + F) % 18446744073709551616 * nu / 18446744073709551616 = h := ⟨_, rfl⟩
   obtain ⟨loV, hlo⟩ : ∃ h, (A % 18446744073709551616 + F) % 18446744073709551616 * nu % 18446744073709551616 = h := ⟨_, rfl⟩
   obtain ⟨deV, hdeV⟩ : ∃ h, T * de = h := ⟨_, rfl⟩
   rw [hhi, hlo, hdeV]
   have hloL : loV < 18446744073709551616 := by rw [← hlo]; exact Nat.mod_lt _ (by omega)
   rw [hdeV] at hD1 hD0
   have hV : hiV * 18446744073709551616 + loV = (A + F) * nu := by
    rw [← hhi, ← hlo]
    have e1 : A + F = (A / 18446744073709551616 + (A % 18446744073709551616 + F) / 18446744073709551616) * 18446744073709551616 + (A % 18446744073709551616 + F) % 18446744073709551616 := by omega
    generalize A / 18446744073709551616 + (A % 18446744073709551616 + F) / 18446744073709551616 = x1 at *
    generalize (A % 18446744073709551616 + F) % 18446744073709551616 = x2 at *
    have e2 : (x1 * 18446744073709551616 + x2) * nu = x1 * nu * 18446744073709551616 + x2 * nu := by rw [Nat.add_mul, Nat.mul_right_comm]
    rw [e1, e2]
    omega
   have hvs : (W * 10 ^ l.length + Un.val l) * me.2.2.1 = hiV * 18446744073709551616 + loV := by rw [hT, hF, hnu, hA, hV]
   have hds : 10 ^ l.length * me.2.2.2 = deV := by rw [hT, hde, hdeV]
   refine g6 ?_
   refine AW.cond rfl (fun hc3 => ?_) fun hc3 => ?_
   ·
    simp [-List.getD_eq_getElem?_getD] at hc3
    refine g8 ?_
    refine fin_out2 (v := iV 0) (u := .bool false) rfl rfl rfl rfl (fun w' hw => ?_)
    refine ⟨?_, hw.below rfl⟩
    rw [Un.prod_no (.inr (.inr (by rw [hvs, hds]; have h9 := (Nat.le_div_iff_mul_le (show 0 < deV by omega)).2 (show 18446744073709551616 * deV ≤ hiV * 18446744073709551616 + loV by omega); unfold Un.M; omega)))]
    rfl
   ·
    simp [-List.getD_eq_getElem?_getD] at hc3
    refine g3 ?_
    obtain ⟨QQ, hQQ⟩ : ∃ q, (hiV * 18446744073709551616 + loV) / deV = q := ⟨_, rfl⟩
    obtain ⟨RR, hRR⟩ : ∃ q, (hiV * 18446744073709551616 + loV) % deV = q := ⟨_, rfl⟩
    refine g4 ?_
    refine RW.q (v := .tuple #[.int .u64 (((hiV * 18446744073709551616 + loV) / deV : Nat) : Int), .int .u64 (((hiV * 18446744073709551616 + loV) % deV : Nat) : Int)]) rfl (q_call (args := #[.int .u64 (hiV : Int), .int .u64 (loV : Int), .int .u64 (deV : Int)]) own45 rfl rfl (fun w1 hw1 => Div64_c w1 (Go.K.hp w1) (Hp.le_refl _) (by omega) (by omega) (by omega))) ?_
    refine RW.q (v := .tuple #[.int .u64 (((hiV * 18446744073709551616 + loV) / deV : Nat) : Int), .int .u64 (((hiV * 18446744073709551616 + loV) % deV : Nat) : Int)]) rfl (q_move rfl) ?_
    refine RW.q (v := .int .u64 (QQ : Int)) rfl (q_as (v := .int .u64 (((hiV * 18446744073709551616 + loV) / deV : Nat) : Int)) (q_extract rfl rfl) (congrArg (Value.int .u64) (by rw [hQQ]))) ?_
    refine RW.q (v := .int .u64 (RR : Int)) rfl (q_as (v := .int .u64 (((hiV * 18446744073709551616 + loV) % deV : Nat) : Int)) (q_extract rfl rfl) (congrArg (Value.int .u64) (by rw [hRR]))) ?_
    refine g12 ?_
    obtain ⟨qb1, hqb1⟩ : ∃ qz : Bool, ((!decide ((RR : Int) = ((0 : Nat) : Int))) || (decide (((1125899906842624 : Nat) : Int) < (QQ : Int)))) = qz := ⟨_, rfl⟩
    refine RW.q (v := .bool qb1) rfl (q_as (v := .bool ((!decide ((RR : Int) = ((0 : Nat) : Int))) || (decide (((1125899906842624 : Nat) : Int) < (QQ : Int))))) (q_pick rfl (fun hp => pkOrT hp) (fun hp => (gv_pos hp).trans (pkOrF hp))) (congrArg Value.bool hqb1)) ?_
    subst hqb1
    refine g2 ?_
    refine AW.cond rfl (fun hc4 => ?_) fun hc4 => ?_
    ·
     simp [-List.getD_eq_getElem?_getD] at hc4
     refine g8 ?_
     refine fin_out2 (v := iV 0) (u := .bool false) rfl rfl rfl rfl (fun w' hw => ?_)
     refine ⟨?_, hw.below rfl⟩
     rw [Un.prod_no (show Un.M < W ∨ (W * 10 ^ l.length + Un.val l) * me.2.2.1 % (10 ^ l.length * me.2.2.2) ≠ 0 ∨ Un.M < (W * 10 ^ l.length + Un.val l) * me.2.2.1 / (10 ^ l.length * me.2.2.2) from ?_)]
     ·
      rfl
     ·
      rw [hvs, hds, hQQ, hRR]; unfold Un.M; omega
    ·
     simp [-List.getD_eq_getElem?_getD] at hc4
     refine g5 ?_
     refine RW.q (v := iV (QQ : Int)) rfl (q_ofU (a := QQ) rfl uT86 uT3 (by omega)) ?_
     refine g5 ?_
     refine fin_out2 (v := iV (QQ : Int)) (u := .bool true) rfl rfl rfl rfl (fun w' hw => ?_)
     refine ⟨?_, hw.below rfl⟩
     rw [Un.prod_yes (show W ≤ Un.M by unfold Un.M; omega) (by rw [hvs, hds, hRR]; omega) (by rw [hvs, hds, hQQ]; unfold Un.M; omega), hvs, hds, hQQ]
end Go.Proofs.YtjcahklnkakklaaDoor
