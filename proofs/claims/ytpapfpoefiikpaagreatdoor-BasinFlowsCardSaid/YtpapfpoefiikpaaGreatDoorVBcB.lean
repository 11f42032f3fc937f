/- Lemmas. Conditions: those of each theorem. -/
import Derived.Test.YtpapfpoefiikpaaGreatDoorVBcP
import Derived.Test.YtpapfpoefiikpaaGreatDoorVScA
import Derived.Test.YtpapfpoefiikpaaGreatDoorVMk2
import Derived.Test.YtpapfpoefiikpaaGreatDoorVSwS
set_option maxRecDepth 8000
set_option maxHeartbeats 16000000
namespace Go.Proofs.YtpapfpoefiikpaaGreatDoor
open Go Go.K Go.RowKit
def wfN (x : Bt.Node) : Prop := I64 x.Kind ∧ x.Text.length ≤ maxLen ∧ I64 x.N ∧ I64 x.Dim ∧ I64 x.At
abbrev ndC (x : Bt.Node) (v : Value) : List Value := [.int .i64 x.Kind, .string (bs x.Text), .int .i64 x.N, .int .i64 x.Dim, .int .i64 x.At, v]
mutual
def rpN (Φ : Hp) : Bt.Node → List Value → Prop
  | ⟨k, t, n, d, a, ks⟩, cs => ∃ v css, cs = ndC ⟨k, t, n, d, a, ks⟩ v ∧ wfN ⟨k, t, n, d, a, ks⟩ ∧ IsSl v ks.length ∧ ks.length * 72 ≤ maxSl ∧ rpL Φ ks css ∧ ∀ i c, css[i]? = some c → ∀ j u, c[j]? = some u → PCell Φ (Value.at v (i * 6 + j)) u
def rpL (Φ : Hp) : List Bt.Node → List (List Value) → Prop
  | [], css => css = []
  | x :: xs, css => ∃ c cs, css = c :: cs ∧ rpN Φ x c ∧ rpL Φ xs cs
end
mutual
theorem rpN_mono {Φ Ψ : Hp} (hl : Hp.le Φ Ψ) : ∀ (x : Bt.Node) (cs : List Value), rpN Φ x cs → rpN Ψ x cs
  | ⟨k, t, n, d, a, ks⟩, cs, h => by
    unfold rpN at h ⊢
    obtain ⟨v, css, h1, h2, h3, h4, h5, h6⟩ := h
    exact ⟨v, css, h1, h2, h3, h4, rpL_mono hl ks css h5, fun i c hc j u hj => (h6 i c hc j u hj).mono hl⟩
theorem rpL_mono {Φ Ψ : Hp} (hl : Hp.le Φ Ψ) : ∀ (xs : List Bt.Node) (css : List (List Value)), rpL Φ xs css → rpL Ψ xs css
  | [], css, h => by unfold rpL at h ⊢; exact h
  | x :: xs, css, h => by
    unfold rpL at h ⊢
    obtain ⟨c, cs, h1, h2, h3⟩ := h
    exact ⟨c, cs, h1, rpN_mono hl x c h2, rpL_mono hl xs cs h3⟩
end
theorem rpL_iff {Φ : Hp} : ∀ {xs : List Bt.Node} {css : List (List Value)}, rpL Φ xs css ↔ css.length = xs.length ∧ ∀ i (h : i < xs.length), ∃ c, css[i]? = some c ∧ rpN Φ xs[i] c
  | [], css => by
    unfold rpL
    exact ⟨fun h => by subst h; exact ⟨rfl, fun i h => by cases h⟩, fun h => List.length_eq_zero_iff.1 h.1⟩
  | x :: xs, css => by
    unfold rpL
    constructor
    · rintro ⟨c, cs, rfl, h1, h2⟩
      obtain ⟨h3, h4⟩ := rpL_iff.1 h2
      refine ⟨by simp [h3], fun i hi => ?_⟩
      cases i with
      | zero => exact ⟨c, rfl, h1⟩
      | succ i => simpa using h4 i (by simpa using hi)
    · rintro ⟨h1, h2⟩
      match css, h1 with
      | c :: cs, h1 =>
        obtain ⟨c', hc, hx⟩ := h2 0 (by simp)
        obtain rfl : c = c' := by simpa using hc
        refine ⟨c, cs, rfl, hx, rpL_iff.2 ⟨by simpa using h1, fun i hi => ?_⟩⟩
        obtain ⟨c', h5, h6⟩ := h2 (i + 1) (by simpa using hi)
        exact ⟨c', by simpa using h5, h6⟩
theorem rpN_ex {Φ : Hp} {x : Bt.Node} {cs : List Value} (h : rpN Φ x cs) : ∃ v, cs = ndC x v ∧ wfN x ∧ IsSl v x.Kids.length ∧ x.Kids.length * 72 ≤ maxSl ∧ ∃ css, rpL Φ x.Kids css ∧ ∀ i c, css[i]? = some c → ∀ j u, c[j]? = some u → PCell Φ (Value.at v (i * 6 + j)) u := by
  obtain ⟨k, t, n, d, a, ks⟩ := x
  unfold rpN at h
  obtain ⟨v, css, h1, h2, h3, h4, h5, h6⟩ := h
  exact ⟨v, h1, h2, h3, h4, css, h5, h6⟩
theorem isSl_one {v : Value} {n : Nat} (h : IsSl v n) : v.oneCell' = true := by obtain ⟨A, c, rfl, _⟩ := h; rfl
instance : Rep Bt.Node where
  sz := 6
  bytes := 72
  rep := rpN
  len := fun h => by obtain ⟨v, h1, _⟩ := rpN_ex h; rw [h1]; rfl
  mono := fun hl h => rpN_mono hl _ _ h
  one := fun h u hu => by
    obtain ⟨v, h1, _, h3, _⟩ := rpN_ex h
    rw [h1] at hu
    simp only [ndC, List.mem_cons, List.not_mem_nil, or_false] at hu
    rcases hu with rfl | rfl | rfl | rfl | rfl | rfl
    · rfl
    · rfl
    · rfl
    · rfl
    · rfl
    · exact isSl_one h3
theorem repN {Φ : Hp} {x : Bt.Node} {cs : List Value} : Rep.rep Φ x cs ↔ ∃ v, cs = ndC x v ∧ wfN x ∧ RepSl Φ x.Kids v := by
  constructor
  · intro h
    obtain ⟨v, h1, h2, h3, h4, css, h5, h6⟩ := rpN_ex h
    refine ⟨v, h1, h2, h3, h4, fun i hi => ?_⟩
    obtain ⟨c, h7, h8⟩ := (rpL_iff.1 h5).2 i hi
    exact ⟨c, h8, fun j u hj => h6 i c h7 j u hj⟩
  · rintro ⟨v, h1, h2, h3⟩
    obtain ⟨k, t, n, d, a, ks⟩ := x
    show rpN Φ _ _
    unfold rpN
    refine ⟨v, (List.range ks.length).map fun i => if h : i < ks.length then Classical.choose (h3.at_ i h) else [], h1, h2, h3.sl, h3.max, rpL_iff.2 ⟨by simp, fun i hi => ⟨_, ?_, (Classical.choose_spec (h3.at_ i hi)).1⟩⟩, fun i c hc j u hj => ?_⟩
    · simp [hi]
    · by_cases hi : i < ks.length
      · simp only [List.getElem?_map, List.getElem?_range hi, Option.map_some, dif_pos hi, Option.some.injEq] at hc
        subst hc
        exact (Classical.choose_spec (h3.at_ i hi)).2 j u hj
      · rw [List.getElem?_eq_none (by simpa using hi)] at hc; cases hc
def NdV (Φ : Hp) (x : Bt.Node) (r : Value) : Prop := ∃ v, r = .agg (ndC x v).toArray ∧ wfN x ∧ RepSl Φ x.Kids v
theorem NdV.rep {Φ : Hp} {x : Bt.Node} {v : Value} (h1 : wfN x) (h2 : RepSl Φ x.Kids v) : Rep.rep Φ x (ndC x v) := repN.2 ⟨v, rfl, h1, h2⟩
attribute [local irreducible] AW RW DW Post Qt
theorem product_c (w : World) (Φ : Hp) (hΦ : Hp.le Φ (hp w)) {W : Nat} {l : List UInt8} {me : Un.Mea} (hW : W ≤ 1125899906842625) (hm : me ∈ Un.ms) (hl : l.length ≤ 9) (hd : ∀ b ∈ l, Un.isD b = true) :
  Calls pg 189 #[iV (W : Int), .string (bs l), .agg #[.string (bs me.1), iV (me.2.1 : Int), iV (me.2.2.1 : Int), iV (me.2.2.2 : Int)]] w fun e w' => e = .returned (.tuple #[iV (((Un.prod W l me).1 : Nat) : Int), .bool (Un.prod W l me).2]) ∧ Bel w.heap.size w w' := by
 refine calls_of_AW (args := [iV (W : Int), .string (bs l), .agg #[.string (bs me.1), iV (me.2.1 : Int), iV (me.2.2.1 : Int), iV (me.2.2.2 : Int)]]) Tryz.func189 rfl (lBT rfl) (St ⟨w, Φ, []⟩ Φ []) (StP.init w Φ hΦ []) ?_
 show AW pg 83 [] _ _ _ [(0, iV (W : Int)), (1, .string (bs l)), (2, .agg #[.string (bs me.1), iV (me.2.1 : Int), iV (me.2.2.1 : Int), iV (me.2.2.2 : Int)])] _
 have hw2 : W ≤ 1125899906842625 := hW
 obtain ⟨_, hn1, hn2, hd1, hd2, hdn⟩ := Un.ms_facts me hm
 have hvl : Un.val l < 10 ^ l.length := Un.val_lt hd
 have ht9 : 10 ^ l.length ≤ 10 ^ 9 := Nat.pow_le_pow_right (by omega) hl
 have ht1 : 1 ≤ 10 ^ l.length := Nat.pow_pos (by omega)
 have hvC : Un.valC l = Un.val l := by rw [Un.valC_eq]; unfold Un.M; omega
 refine g2 ?_
 refine RW.bxA rfl rfl fun b1 => ?_
 refine g11 ?_
 refine AW.cond rfl (fun hc1 => ?_) fun hc1 => ?_
 ·
  simp [-List.getD_eq_getElem?_getD] at hc1
  refine g8 ?_
  refine fin_out2 (v := iV 0) (u := .bool false) rfl rfl rfl rfl (fun w' hw => ?_)
  refine ⟨?_, hw.below rfl⟩
  rw [Un.prod_no (.inl (by unfold Un.M; omega))]
  rfl
 ·
  simp [-List.getD_eq_getElem?_getD] at hc1
  refine g11 ?_
  refine RW.q (v := iV (l.length : Int)) rfl (q_lenS (l := l) rfl uT9) ?_
  refine g4 ?_
  refine AW.loop (fun s J m => ∃ (k : Nat), s = [(0, iV (W : Int)), (1, .string (bs l)), (5, pV b1 0), (6, iV 0), (7, .bool false), (19, iV (l.length : Int)), (8, iV ((10 ^ (l.take k).length : Nat) : Int)), (20, iV (k : Int))] ∧ J = St ⟨w, Φ, []⟩ Φ [.blk b1 225 [.string (bs me.1), iV (me.2.1 : Int), iV (me.2.2.1 : Int), iV (me.2.2.2 : Int)]] ∧ m = l.length - k ∧ (k ≤ l.length)) (s0 := _) (J1 := _) (m0 := _) ⟨0, rfl, rfl, rfl, (by omega)⟩ ⟨rfl, rfl, rfl, rfl, rfl, rfl, rfl, rfl, trivial⟩ (fun _ h => h) ?_
  rintro _ _ _ _ ⟨k, rfl, rfl, rfl, hk⟩
  refine g6 ?_
  refine AW.cond rfl (fun hc2 => ?_) fun hc2 => ?_
  ·
   simp [-List.getD_eq_getElem?_getD] at hc2
   refine g4 ?_
   have ht8 : 10 ^ (l.take k).length ≤ 10 ^ 8 := Nat.pow_le_pow_right (by omega) (by rw [List.length_take]; omega)
   have hts : 10 ^ (l.take (k + 1)).length = 10 ^ (l.take k).length * 10 := by rw [List.length_take, List.length_take, ← Nat.pow_succ]; congr 1; omega
   refine g2 ?_
   refine RW.q (v := iV ((10 ^ (l.take (k + 1)).length : Nat) : Int)) rfl (q_as (v := iV (((10 ^ (l.take k).length : Nat) : Int) * 10)) (q_mul rfl rfl rfl (by unfold I64; omega)) (congrArg (Value.int .i64) (by rw [hts]; simp))) ?_
   refine g8 ?_
   exact Post.back (s' := _) (J' := _) (m' := _) (by omega) ⟨k + 1, rfl, rfl, rfl, (by omega)⟩ ⟨rfl, rfl, rfl, rfl, rfl, rfl, rfl, rfl, trivial⟩ (fun _ h => h)
  ·
   simp [-List.getD_eq_getElem?_getD] at hc2
   refine g6 ?_
   rw [show l.take k = l from List.take_of_length_le (by omega)]
   obtain ⟨T, hT⟩ : ∃ T, 10 ^ l.length = T := ⟨_, rfl⟩
   rw [hT] at hvl ht9 ht1 ⊢
   have hWT : W * T ≤ 1125899906842624 * 1000000000 := Nat.mul_le_mul (by omega) (by omega)
   obtain ⟨A, hA⟩ : ∃ A, W * T = A := ⟨_, rfl⟩
   rw [hA] at hWT
   obtain ⟨F, hF⟩ : ∃ F, Un.val l = F := ⟨_, rfl⟩
   rw [hF] at hvl hvC
   obtain ⟨nu, hnu⟩ : ∃ nu, me.2.2.1 = nu := ⟨_, rfl⟩
   obtain ⟨de, hde⟩ : ∃ de, me.2.2.2 = de := ⟨_, rfl⟩
   rw [hnu] at hn1 hn2 hdn
   rw [hde] at hd1 hd2 hdn
   have hN1 : (A % 18446744073709551616 + F) % 18446744073709551616 * nu ≤ 18446744073709551615 * 1000000000 := Nat.mul_le_mul (by omega) (by omega)
   have hN2 : (A / 18446744073709551616 + (A % 18446744073709551616 + F) / 18446744073709551616) * nu ≤ 65536 * 1000000000 := Nat.mul_le_mul (by omega) (by omega)
   have hD1 : T * de ≤ 1000000000 * 24 := Nat.mul_le_mul (by omega) (by omega)
   have hD0 : 1 * 1 ≤ T * de := Nat.mul_le_mul (by omega) (by omega)
   refine g2 ?_
   refine RW.q (v := .int .u64 (W : Int)) rfl (q_toU (r := W) rfl uT3 uT192 rfl (by omega)) ?_
   refine g1 ?_
   refine RW.q (v := .int .u64 (T : Int)) rfl (q_toU (r := T) rfl uT3 uT192 rfl (by omega)) (RW.q (v := .tuple #[.int .u64 ((W * T / 18446744073709551616 : Nat) : Int), .int .u64 ((W * T % 18446744073709551616 : Nat) : Int)]) rfl (q_call (args := #[.int .u64 (W : Int), .int .u64 (T : Int)]) oK rfl rfl (fun w1 hw1 => Mul64_c w1 (Go.K.hp w1) (Hp.le_refl _) (by omega) (by omega))) (RW.q rfl (q_move rfl) ?_))
   refine g7 ?_
   rw [hA]
   refine g3 ?_
   refine RW.q (v := iV (F : Int)) rfl (q_as (v := iV ((Un.valC l : Nat) : Int)) (q_call (args := #[.string (bs l)]) oK rfl rfl (fun w1 hw1 => value_c w1 (Go.K.hp w1) (Hp.le_refl _) (by omega) (by assumption))) (congrArg (Value.int .i64) (by rw [hvC]))) (RW.q (v := .int .u64 (F : Int)) rfl (q_toU (r := F) rfl uT3 uT192 rfl (by omega)) (RW.q (v := .tuple #[.int .u64 ((((A % 18446744073709551616) + F) % 18446744073709551616 : Nat) : Int), .int .u64 ((((A % 18446744073709551616) + F) / 18446744073709551616 : Nat) : Int)]) rfl (q_ext (e := add64Entry) (args := [.int .u64 ((A % 18446744073709551616 : Nat) : Int), .int .u64 (F : Int), .int .u64 ((0 : Nat) : Int)]) Tryz.func196 rfl rfl (by kernel_rfl) (by kernel_rfl) rfl rfl (add64_run _ _)) (RW.q rfl (q_move rfl) ?_)))
   refine g10 ?_
   refine RW.q (v := .int .u64 (((A / 18446744073709551616) + (((A % 18446744073709551616) + F) / 18446744073709551616) : Nat) : Int)) rfl (q_addU (a := (A / 18446744073709551616)) (b := (((A % 18446744073709551616) + F) / 18446744073709551616)) rfl rfl (Nat.mod_eq_of_lt (by omega))) ?_
   refine g7 ?_
   refine RW.q (v := iV (nu : Int)) rfl (q_as (v := iV (me.2.2.1 : Int)) (q_load rfl uT3 rfl (Cell.blk 0 rfl rfl)) (congrArg (Value.int .i64) (by rw [hnu]))) (RW.q (v := .int .u64 (nu : Int)) rfl (q_toU (r := nu) rfl uT3 uT192 rfl (by omega)) (RW.q (v := .tuple #[.int .u64 (((((A % 18446744073709551616) + F) % 18446744073709551616) * nu / 18446744073709551616 : Nat) : Int), .int .u64 (((((A % 18446744073709551616) + F) % 18446744073709551616) * nu % 18446744073709551616 : Nat) : Int)]) rfl (q_call (args := #[.int .u64 ((((A % 18446744073709551616) + F) % 18446744073709551616 : Nat) : Int), .int .u64 (nu : Int)]) oK rfl rfl (fun w1 hw1 => Mul64_c w1 (Go.K.hp w1) (Hp.le_refl _) (by omega) (by omega))) (RW.q (v := .tuple #[.int .u64 (((((A % 18446744073709551616) + F) % 18446744073709551616) * nu / 18446744073709551616 : Nat) : Int), .int .u64 (((((A % 18446744073709551616) + F) % 18446744073709551616) * nu % 18446744073709551616 : Nat) : Int)]) rfl (q_move rfl) ?_)))
   refine g10 ?_
   refine RW.q (v := iV (nu : Int)) rfl (q_as (v := iV (me.2.2.1 : Int)) (q_load rfl uT3 rfl (Cell.blk 0 rfl rfl)) (congrArg (Value.int .i64) (by rw [hnu]))) (RW.q (v := .int .u64 (nu : Int)) rfl (q_toU (r := nu) rfl uT3 uT192 rfl (by omega)) (RW.q (v := .int .u64 ((((A / 18446744073709551616) + (((A % 18446744073709551616) + F) / 18446744073709551616)) * nu : Nat) : Int)) rfl (q_mulU (a := ((A / 18446744073709551616) + (((A % 18446744073709551616) + F) / 18446744073709551616))) (b := nu) rfl rfl (Nat.mod_eq_of_lt (by omega))) ?_))
   refine g1 ?_
   refine RW.q (v := .int .u64 (((((A / 18446744073709551616) + (((A % 18446744073709551616) + F) / 18446744073709551616)) * nu) + ((((A % 18446744073709551616) + F) % 18446744073709551616) * nu / 18446744073709551616) : Nat) : Int)) rfl (q_addU (a := (((A / 18446744073709551616) + (((A % 18446744073709551616) + F) / 18446744073709551616)) * nu)) (b := ((((A % 18446744073709551616) + F) % 18446744073709551616) * nu / 18446744073709551616)) rfl rfl (Nat.mod_eq_of_lt (by omega))) ?_
   refine g6 ?_
   refine RW.q (v := .int .u64 (T : Int)) rfl (q_toU (r := T) rfl uT3 uT192 rfl (by omega)) ?_
   refine g1 ?_
   refine RW.q (v := iV (de : Int)) rfl (q_as (v := iV (me.2.2.2 : Int)) (q_load rfl uT3 rfl (Cell.blk 0 rfl rfl)) (congrArg (Value.int .i64) (by rw [hde]))) (RW.q (v := .int .u64 (de : Int)) rfl (q_toU (r := de) rfl uT3 uT192 rfl (by omega)) (RW.q (v := .int .u64 ((T * de : Nat) : Int)) rfl (q_mulU (a := T) (b := de) rfl rfl (Nat.mod_eq_of_lt (by omega))) ?_))
   refine g5 ?_
   obtain ⟨hiV, hhi⟩ : ∃ h, (A / 18446744073709551616 + (A % 18446744073709551616 + F) / 18446744073709551616) * nu + (A % 18446744073709551616 + F) % 18446744073709551616 * nu / 18446744073709551616 = h := ⟨_, rfl⟩
   obtain ⟨loV, hlo⟩ : ∃ h, (A % 18446744073709551616 + F) % 18446744073709551616 * nu % 18446744073709551616 = h := ⟨_, rfl⟩
   obtain ⟨deV, hdeV⟩ : ∃ h, T * de = h := ⟨_, rfl⟩
   rw [hhi, hlo, hdeV]
   have hloL : loV < 18446744073709551616 := by rw [← hlo]; exact Nat.mod_lt _ (by omega)
   rw [hdeV] at hD1 hD0
   have hV : hiV * 18446744073709551616 + loV = (A + F) * nu := by
    rw [← hhi, ← hlo]
    have e1 : A + F = (A / 18446744073709551616 + (A % 18446744073709551616 + F) / 18446744073709551616) * 18446744073709551616 + (A % 18446744073709551616 + F) % 18446744073709551616 := by omega
    generalize A / 18446744073709551616 + (A % 18446744073709551616 + F) / 18446744073709551616 = x1 at *
    generalize (A % 18446744073709551616 + F) % 18446744073709551616 = x2 at *
    have e2 : (x1 * 18446744073709551616 + x2) * nu = x1 * nu * 18446744073709551616 + x2 * nu := by rw [Nat.add_mul, Nat.mul_right_comm]
    rw [e1, e2]
    omega
   have hvs : (W * 10 ^ l.length + Un.val l) * me.2.2.1 = hiV * 18446744073709551616 + loV := by rw [hT, hF, hnu, hA, hV]
   have hds : 10 ^ l.length * me.2.2.2 = deV := by rw [hT, hde, hdeV]
   refine g6 ?_
   refine AW.cond rfl (fun hc3 => ?_) fun hc3 => ?_
   ·
    simp [-List.getD_eq_getElem?_getD] at hc3
    refine g8 ?_
    refine fin_out2 (v := iV 0) (u := .bool false) rfl rfl rfl rfl (fun w' hw => ?_)
    refine ⟨?_, hw.below rfl⟩
    rw [Un.prod_no (.inr (.inr (by rw [hvs, hds]; have h9 := (Nat.le_div_iff_mul_le (show 0 < deV by omega)).2 (show 18446744073709551616 * deV ≤ hiV * 18446744073709551616 + loV by omega); unfold Un.M; omega)))]
    rfl
   ·
    simp [-List.getD_eq_getElem?_getD] at hc3
    refine g3 ?_
    obtain ⟨QQ, hQQ⟩ : ∃ q, (hiV * 18446744073709551616 + loV) / deV = q := ⟨_, rfl⟩
    obtain ⟨RR, hRR⟩ : ∃ q, (hiV * 18446744073709551616 + loV) % deV = q := ⟨_, rfl⟩
    refine g4 ?_
    refine RW.q (v := .tuple #[.int .u64 (((hiV * 18446744073709551616 + loV) / deV : Nat) : Int), .int .u64 (((hiV * 18446744073709551616 + loV) % deV : Nat) : Int)]) rfl (q_call (args := #[.int .u64 (hiV : Int), .int .u64 (loV : Int), .int .u64 (deV : Int)]) oK rfl rfl (fun w1 hw1 => Div64_c w1 (Go.K.hp w1) (Hp.le_refl _) (by omega) (by omega) (by omega))) (RW.q rfl (q_move rfl) (RW.q (v := .int .u64 (QQ : Int)) rfl (q_as (v := .int .u64 (((hiV * 18446744073709551616 + loV) / deV : Nat) : Int)) (q_extract rfl rfl) (congrArg (Value.int .u64) (by rw [hQQ]))) (RW.q (v := .int .u64 (RR : Int)) rfl (q_as (v := .int .u64 (((hiV * 18446744073709551616 + loV) % deV : Nat) : Int)) (q_extract rfl rfl) (congrArg (Value.int .u64) (by rw [hRR]))) ?_)))
    refine g12 ?_
    obtain ⟨qb1, hqb1⟩ : ∃ qz : Bool, ((!decide ((RR : Int) = ((0 : Nat) : Int))) || (decide (((1125899906842624 : Nat) : Int) < (QQ : Int)))) = qz := ⟨_, rfl⟩
    refine RW.q (v := .bool qb1) rfl (q_as (v := .bool ((!decide ((RR : Int) = ((0 : Nat) : Int))) || (decide (((1125899906842624 : Nat) : Int) < (QQ : Int))))) (qpO rfl rfl rfl) (congrArg Value.bool hqb1)) ?_
    subst hqb1
    refine g2 ?_
    refine AW.cond rfl (fun hc4 => ?_) fun hc4 => ?_
    ·
     simp [-List.getD_eq_getElem?_getD] at hc4
     refine g8 ?_
     refine fin_out2 (v := iV 0) (u := .bool false) rfl rfl rfl rfl (fun w' hw => ?_)
     refine ⟨?_, hw.below rfl⟩
     rw [Un.prod_no (show Un.M < W ∨ (W * 10 ^ l.length + Un.val l) * me.2.2.1 % (10 ^ l.length * me.2.2.2) ≠ 0 ∨ Un.M < (W * 10 ^ l.length + Un.val l) * me.2.2.1 / (10 ^ l.length * me.2.2.2) from ?_)]
     ·
      rfl
     ·
      rw [hvs, hds, hQQ, hRR]; unfold Un.M; omega
    ·
     simp [-List.getD_eq_getElem?_getD] at hc4
     refine g5 ?_
     refine RW.q (v := iV (QQ : Int)) rfl (q_ofU (a := QQ) rfl uT192 uT3 (by omega)) ?_
     refine g5 ?_
     refine fin_out2 (v := iV (QQ : Int)) (u := .bool true) rfl rfl rfl rfl (fun w' hw => ?_)
     refine ⟨?_, hw.below rfl⟩
     rw [Un.prod_yes (show W ≤ Un.M by unfold Un.M; omega) (by rw [hvs, hds, hRR]; omega) (by rw [hvs, hds, hQQ]; unfold Un.M; omega), hvs, hds, hQQ]
theorem Amount_c (w : World) (Φ : Hp) (hΦ : Hp.le Φ (hp w)) (hG : Knows Φ Glob) {l n : List UInt8} (hl : l.length ≤ 1099511627776) :
  Calls pg 183 #[.string (bs l), .string (bs n)] w fun e w' => e = .returned (.tuple #[.agg #[iV ((Un.amt l n).1 : Int), iV ((Un.amt l n).2.1 : Int)], iV ((Un.amt l n).2.2 : Int)]) ∧ Bel w.heap.size w w' := by
 refine calls_of_AW (args := [.string (bs l), .string (bs n)]) Tryz.func183 rfl (lBT rfl) (St ⟨w, Φ, []⟩ Φ []) (StP.init w Φ hΦ []) ?_
 show AW pg 53 [] _ _ _ [(0, .string (bs l)), (1, .string (bs n))] _
 have hbl := Un.bef_len l
 have hal := Un.aft_len l
 refine g2 ?_
 refine RW.alc rfl fun b1 => ?_
 refine g6 ?_
 refine RW.q (v := .tuple #[.string (bs (Un.bef l)), .string (bs (Un.aft l)), .bool (Un.pt l)]) rfl (q_call (args := #[.string (bs l), .string (bs ([46] : List UInt8))]) oK rfl rfl (fun w1 hw1 => sCut_c w1 (Go.K.hp w1) (Hp.le_refl _) (by omega))) (RW.q rfl (q_move rfl) ?_)
 refine g12 ?_
 refine RW.q (v := .bool (Un.digs (Un.bef l) 20)) rfl (q_call (args := #[.string (bs (Un.bef l)), iV 20]) oK rfl rfl (fun w1 hw1 => digits_c w1 (Go.K.hp w1) (Hp.le_refl _) (by omega))) ?_
 refine g4 ?_
 refine RW.g2 (b1 := (!(Un.digs (Un.bef l) 20))) (b2 := (Un.pt l)) (v := .string (bs (Un.aft l))) rfl rfl rfl (fun hg1 hg2 => q_move rfl) (RW.g2 (b1 := (!(Un.digs (Un.bef l) 20))) (b2 := (Un.pt l)) (v := .bool (Un.digs (Un.aft l) 9)) rfl rfl rfl (fun hg1 hg2 => q_call (args := #[.string (bs (Un.aft l)), iV 9]) oK rfl (args2 ((gv_pos hg1).trans (gv_pos hg2)) rfl) (fun w1 hw1 => digits_c w1 (Go.K.hp w1) (Hp.le_refl _) (by (try simp [-List.getD_eq_getElem?_getD] at hg1); (try simp [-List.getD_eq_getElem?_getD] at hg2); omega))) ?_)
 refine RW.g2 (b1 := (!(Un.digs (Un.bef l) 20))) (b2 := (Un.pt l)) (v := .bool (!(Un.digs (Un.aft l) 9))) rfl rfl rfl (fun hg1 hg2 => q_not ((gv_pos hg1).trans (gv_pos hg2))) ?_
 obtain ⟨qb1, hqb1⟩ : ∃ qz : Bool, ((Un.pt l) && (!(Un.digs (Un.aft l) 9))) = qz := ⟨_, rfl⟩
 refine RW.g (b := (!(Un.digs (Un.bef l) 20))) (v := .bool qb1) rfl rfl rfl (fun h => q_as (v := .bool ((Un.pt l) && (!(Un.digs (Un.aft l) 9)))) (q_pick (gv_pos h) (fun hp => (gv_pos h).trans ((gv_pos hp).trans (pkAndT hp))) (fun hp => pkAndF hp)) (congrArg Value.bool hqb1)) (RW.q (v := .bool ((!(Un.digs (Un.bef l) 20)) || qb1)) rfl (qpO rfl rfl rfl) ?_)
 subst hqb1
 refine g2 ?_
 refine AW.cond rfl (fun hc1 => ?_) fun hc1 => ?_
 ·
  simp [-List.getD_eq_getElem?_getD] at hc1
  refine g2 ?_
  refine RW.q (v := .agg #[iV 0, iV 0]) rfl (q_build (vals := []) zero37 uT37 places37 rfl rfl) (RW.effn (J' := St ⟨w, Φ, []⟩ Φ [.blk b1 37 [iV 0, iV 0]]) (e_store (v := .agg #[iV 0, iV 0]) 0 rfl rfl rfl sz37 rfl rfl rfl rfl rfl) ?_)
  refine g5 ?_
  refine fin_cell2 (cs := [iV 0, iV 0]) (v := iV 2) rfl rfl rfl rfl uT37 rfl sz37 rfl (Cells.blk 0 rfl) (fun w' hw => ?_)
  refine ⟨?_, hw.below rfl⟩
  have hok : Un.okF l = false := by
   unfold Un.okF
   rcases hc1 with h | h
   ·
    rw [h]; rfl
   ·
    rw [h.1, h.2]; simp
  rw [Un.amt_form hok]
  rfl
 ·
  simp [-List.getD_eq_getElem?_getD] at hc1
  refine g3 ?_
  have hok : Un.okF l = true := by
   unfold Un.okF
   rw [hc1.1, Bool.true_and]
   cases hp : Un.pt l with
   | false => rfl
   | true => exact hc1.2 hp
  obtain ⟨hb1, hb2, ha9, _⟩ := Un.okF_len hok
  refine g2 ?_
  refine RW.q (v := .tuple #[.agg #[.string (bs ((Un.fdM n).1)), iV (((Un.fdM n).2.1 : Nat) : Int), iV (((Un.fdM n).2.2.1 : Nat) : Int), iV (((Un.fdM n).2.2.2 : Nat) : Int)], .bool ((Un.look n).isSome)]) rfl (q_call (args := #[.string (bs n)]) oK rfl rfl (fun w1 hw1 => find_c w1 (Go.K.hp w1) (Hp.le_refl _) (hG.mono hw1.phi))) (RW.q rfl (q_move rfl) ?_)
  refine g2 ?_
  refine RW.alc rfl fun b2 => ?_
  refine RW.effn (J' := St ⟨w, Φ, []⟩ Φ [.blk b2 225 [.string (bs ((Un.fdM n).1)), iV (((Un.fdM n).2.1 : Nat) : Int), iV (((Un.fdM n).2.2.1 : Nat) : Int), iV (((Un.fdM n).2.2.2 : Nat) : Int)], .blk b1 37 [iV 0, iV 0]]) (e_store (v := .agg #[.string (bs ((Un.fdM n).1)), iV (((Un.fdM n).2.1 : Nat) : Int), iV (((Un.fdM n).2.2.1 : Nat) : Int), iV (((Un.fdM n).2.2.2 : Nat) : Int)]) 0 rfl rfl rfl sz225 rfl rfl rfl rfl rfl) ?_
  refine g10 ?_
  refine AW.cond rfl (fun hc2 => ?_) fun hc2 => ?_
  ·
   simp [-List.getD_eq_getElem?_getD] at hc2
   refine g2 ?_
   refine RW.q (v := .agg #[iV 0, iV 0]) rfl (q_build (vals := []) zero37 uT37 places37 rfl rfl) (RW.effn (J' := St ⟨w, Φ, []⟩ Φ [.blk b2 225 [.string (bs ((Un.fdM n).1)), iV (((Un.fdM n).2.1 : Nat) : Int), iV (((Un.fdM n).2.2.1 : Nat) : Int), iV (((Un.fdM n).2.2.2 : Nat) : Int)], .blk b1 37 [iV 0, iV 0]]) (e_store (v := .agg #[iV 0, iV 0]) 1 rfl rfl rfl sz37 rfl rfl rfl rfl rfl) ?_)
   refine g5 ?_
   refine fin_cell2 (cs := [iV 0, iV 0]) (v := iV 6) rfl rfl rfl rfl uT37 rfl sz37 rfl (Cells.blk 1 rfl) (fun w' hw => ?_)
   refine ⟨?_, hw.below rfl⟩
   rw [Un.amt_none hok (by simpa using hc2)]
   rfl
  ·
   simp [-List.getD_eq_getElem?_getD] at hc2
   refine g3 ?_
   obtain ⟨me, hlk⟩ := Option.isSome_iff_exists.1 hc2
   have hfd : Un.fdM n = me := by unfold Un.fdM; rw [hlk]; rfl
   rw [hfd]
   refine AW.draw (J0 := St ⟨w, Φ, []⟩ Φ [.blk b2 225 [.string (bs me.1), iV (me.2.1 : Int), iV (me.2.2.1 : Int), iV (me.2.2.2 : Int)], .blk b1 37 [iV 0, iV 0]]) [.q, .q, .q, .q, .q, .q, .q, .q, .q, .q] [0, 1, 2, 3, 4, 5, 6, 7, 8, 9] hmix (by kernel_rfl) ?_
   refine g1 ?_
   refine DW.q (v := iV ((Un.valC (Un.bef l) : Nat) : Int)) (fun _ h => h) rfl (q_call (args := #[.string (bs (Un.bef l))]) oK rfl rfl (fun w1 hw1 => value_c w1 (Go.K.hp w1) (Hp.le_refl _) (by omega) (Un.okF_bef hok))) ?_
   refine g2 ?_
   refine DW.q (v := .tuple #[iV (((Un.prod (Un.valC (Un.bef l)) (Un.aft l) me).1 : Nat) : Int), .bool ((Un.prod (Un.valC (Un.bef l)) (Un.aft l) me).2)]) (fun _ h => h) rfl (q_call (args := #[iV ((Un.valC (Un.bef l) : Nat) : Int), .string (bs (Un.aft l)), .agg #[.string (bs me.1), iV (me.2.1 : Int), iV (me.2.2.1 : Int), iV (me.2.2.2 : Int)]]) oK rfl rfl (fun w1 hw1 => product_c w1 (Go.K.hp w1) (Hp.le_refl _) (Un.valC_le _) (Un.look_mem hlk).1 (by omega) (Un.okF_aft hok))) (DW.q (v := .tuple #[iV (((Un.prod (Un.valC (Un.bef l)) (Un.aft l) me).1 : Nat) : Int), .bool ((Un.prod (Un.valC (Un.bef l)) (Un.aft l) me).2)]) (fun _ h => h) rfl (q_move rfl) ?_)
   refine g13 ?_
   refine AW.cond rfl (fun hc3 => ?_) fun hc3 => ?_
   ·
    simp [-List.getD_eq_getElem?_getD] at hc3
    refine g2 ?_
    refine RW.q (v := .agg #[iV 0, iV 0]) rfl (q_build (vals := []) zero37 uT37 places37 rfl rfl) (RW.effn (J' := St ⟨w, Φ, []⟩ Φ [.blk b2 225 [.string (bs me.1), iV (me.2.1 : Int), iV (me.2.2.1 : Int), iV (me.2.2.2 : Int)], .blk b1 37 [iV 0, iV 0]]) (e_store (v := .agg #[iV 0, iV 0]) 1 rfl rfl rfl sz37 rfl rfl rfl rfl rfl) ?_)
    refine g5 ?_
    refine fin_cell2 (cs := [iV 0, iV 0]) (v := iV 7) rfl rfl rfl rfl uT37 rfl sz37 rfl (Cells.blk 1 rfl) (fun w' hw => ?_)
    refine ⟨?_, hw.below rfl⟩
    rw [Un.amt_prod hok hlk, if_neg (by rw [hc3]; simp)]
    rfl
   ·
    simp [-List.getD_eq_getElem?_getD] at hc3
    refine g7 ?_
    refine RW.q (v := .agg #[iV (((Un.prod (Un.valC (Un.bef l)) (Un.aft l) me).1 : Nat) : Int), iV (me.2.1 : Int)]) rfl (q_build (vals := [(0, iV (((Un.prod (Un.valC (Un.bef l)) (Un.aft l) me).1 : Nat) : Int)), (1, iV (me.2.1 : Int))]) zero37 uT37 places37 rfl rfl) (RW.effn (J' := St ⟨w, Φ, []⟩ Φ [.blk b2 225 [.string (bs me.1), iV (me.2.1 : Int), iV (me.2.2.1 : Int), iV (me.2.2.2 : Int)], .blk b1 37 [iV (((Un.prod (Un.valC (Un.bef l)) (Un.aft l) me).1 : Nat) : Int), iV (me.2.1 : Int)]]) (e_store (v := .agg #[iV (((Un.prod (Un.valC (Un.bef l)) (Un.aft l) me).1 : Nat) : Int), iV (me.2.1 : Int)]) 1 rfl rfl rfl sz37 rfl rfl rfl rfl rfl) ?_)
    refine g4 ?_
    refine fin_cell2 (cs := [iV (((Un.prod (Un.valC (Un.bef l)) (Un.aft l) me).1 : Nat) : Int), iV (me.2.1 : Int)]) (v := iV 0) rfl rfl rfl rfl uT37 rfl sz37 rfl (Cells.blk 1 rfl) (fun w' hw => ?_)
    refine ⟨?_, hw.below rfl⟩
    rw [Un.amt_prod hok hlk, if_pos hc3]
    rfl
end Go.Proofs.YtpapfpoefiikpaaGreatDoor
namespace Go.Proofs.YtpapfpoefiikpaaGreatDoor
open Go Go.K Go.RowKit
section
variable {P : Program} {Pn : List PanicEntry → World → Prop} {N : Nat} {D : List Deferred} {ops : Array Oper} {Q : Exit → Act → World → Prop} {f : Nat → Value} {s : List (Nat × Value)} {J : Cls} {B : Bs} {Φ : Hp} {C : List Chunk} {rest : List Oper} {ty1 ty2 ty3 ty4 : TypeId} {p1 p2 p3 p4 : String} {a1 a2 a3 a4 : Array Edge}
theorem RW.cT [hQ : PanQ D Q Pn] {x : Operand} {xs : Array Operand} {ts : Array TypeId} {k : FuncId} {args : Array Value} {d : Nat} [hk : OwnI P k] {Y : Type} {V : Y → Value} {T : Y → Prop} (hd : Nat.blt d N = true) (h : ∀ w, J.p w → Calls P k args w fun e w' => ∃ y, e = .returned (V y) ∧ T y ∧ Bel w.heap.size w w') (hx : ev (fr f s) x = .func (.func k) #[] #[]) (ha : xs.toList.map (ev (fr f s)) = args.toList)
    (kk : ∀ y, T y → RW P N D ops Q rest f ((d, V y) :: s) J) : RW P N D ops Q (⟨some d, .call { callee := .value x, args := xs, argTypes := ts }, ty1, p1, a1, none⟩ :: rest) f s J :=
  RW.ec (X := {y : Y // T y}) (V := fun y => V y.1) (J' := fun _ => J) hd (fun w hw => (h w hw).mono fun _ _ ⟨y, he, hT, hb⟩ => ⟨⟨y, hT⟩, he, J.ext _ _ hw hb⟩) hx ha fun y => kk y.1 y.2
end
theorem t1 {A B : Prop} (k : B) (h : Kt B → A := by
  intro k
  first
  | apply RW.q
    exact rfl
    first
    | apply q_eqlStr
      exact rfl
      exact rfl
    | apply q_neqStr
      exact rfl
      exact rfl
    exact k.r) : A := h ⟨k⟩
attribute [local irreducible] AW RW DW Post Qt
/-! ### the table's small functions -/
theorem sortOf_c (w : World) {l : List UInt8} : Calls pg 93 #[.string (bs l)] w fun e w' => e = .returned (.string (bs (Bc.sortOf l))) ∧ Bel w.heap.size w w' := by
  refine in1 17 Tryz.func93 rfl rfl (Hp.le_refl _) ?_
  repeat first | refine g1 ?_ | refine t1 ?_
  refine AW.orChS (t := 4) (x := 3) (a := l) rfl rfl _ rfl rfl rfl rfl fun f' => ?_
  repeat refine g1 ?_
  refine AW.cond rfl (fun h => ?_) fun h => ?_
  · repeat refine g1 ?_
    exact fin_val rfl rfl rfl (by simp at h; simp [Bc.sortOf, h]; rfl)
  repeat first | refine g1 ?_ | refine t1 ?_
  refine AW.orChS (t := 9) (x := 3) (a := l) rfl rfl _ rfl rfl rfl rfl fun f' => ?_
  repeat refine g1 ?_
  simp at h
  refine AW.cond rfl (fun h2 => ?_) fun h2 => ?_
  all_goals
    repeat refine g1 ?_
    exact fin_val rfl rfl rfl (by simp at h2; simp [Bc.sortOf, h, h2]; rfl)
theorem limitOf_c (w : World) {l : List UInt8} : Calls pg 94 #[.string (bs l)] w fun e w' => e = .returned (.int .i64 (Bc.limitOf l)) ∧ Bel w.heap.size w w' := by
  refine in1 15 Tryz.func94 rfl rfl (Hp.le_refl _) ?_
  repeat first | refine g1 ?_ | refine t1 ?_
  refine AW.cond rfl (fun h0 => ?_) fun h0 => ?_
  · repeat refine g1 ?_
    exact fin_val rfl rfl rfl (by simp at h0; simp [Bc.limitOf, *]; rfl)
  repeat first | refine g1 ?_ | refine t1 ?_
  refine AW.cond rfl (fun h1 => ?_) fun h1 => ?_
  · repeat refine g1 ?_
    exact fin_val rfl rfl rfl (by simp at h0 h1; simp [Bc.limitOf, *]; rfl)
  repeat first | refine g1 ?_ | refine t1 ?_
  refine AW.orChS (t := 8) (x := 3) (a := l) rfl rfl _ rfl rfl rfl rfl fun f' => ?_
  repeat refine g1 ?_
  refine AW.cond rfl (fun h2 => ?_) fun h2 => ?_
  · repeat refine g1 ?_
    exact fin_val rfl rfl rfl (by simp at h0 h1 h2; simp [Bc.limitOf, *]; rfl)
  repeat first | refine g1 ?_ | refine t1 ?_
  refine AW.cond rfl (fun h3 => ?_) fun h3 => ?_
  · repeat refine g1 ?_
    exact fin_val rfl rfl rfl (by simp at h0 h1 h2 h3; simp [Bc.limitOf, *]; rfl)
  repeat first | refine g1 ?_ | refine t1 ?_
  refine AW.cond rfl (fun h4 => ?_) fun h4 => ?_
  all_goals
    repeat refine g1 ?_
    exact fin_val rfl rfl rfl (by simp at h0 h1 h2 h3 h4; simp [Bc.limitOf, *]; rfl)
theorem placeKind_c (w : World) {l : List UInt8} : Calls pg 134 #[.string (bs l)] w fun e w' => e = .returned (.int .i64 (Bc.placeKind l)) ∧ Bel w.heap.size w w' := by
  refine in1 10 Tryz.func134 rfl rfl (Hp.le_refl _) ?_
  repeat first | refine g1 ?_ | refine t1 ?_
  refine AW.cond rfl (fun h0 => ?_) fun h0 => ?_
  · repeat refine g1 ?_
    exact fin_val rfl rfl rfl (by simp at h0; simp [Bc.placeKind, *]; rfl)
  repeat first | refine g1 ?_ | refine t1 ?_
  refine AW.cond rfl (fun h1 => ?_) fun h1 => ?_
  · repeat refine g1 ?_
    exact fin_val rfl rfl rfl (by simp at h0 h1; simp [Bc.placeKind, *]; rfl)
  repeat first | refine g1 ?_ | refine t1 ?_
  refine AW.cond rfl (fun h2 => ?_) fun h2 => ?_
  · repeat refine g1 ?_
    exact fin_val rfl rfl rfl (by simp at h0 h1 h2; simp [Bc.placeKind, *]; rfl)
  repeat first | refine g1 ?_ | refine t1 ?_
  exact fin_val rfl rfl rfl (by simp at h0 h1 h2; simp [Bc.placeKind, *]; rfl)
theorem linkKind_c (w : World) {l : List UInt8} : Calls pg 137 #[.string (bs l)] w fun e w' => e = .returned (.int .i64 (Bc.linkKind l)) ∧ Bel w.heap.size w w' := by
  refine in1 14 Tryz.func137 rfl rfl (Hp.le_refl _) ?_
  repeat first | refine g1 ?_ | refine t1 ?_
  refine AW.cond rfl (fun h0 => ?_) fun h0 => ?_
  · repeat refine g1 ?_
    exact fin_val rfl rfl rfl (by simp at h0; simp [Bc.linkKind, *]; rfl)
  repeat first | refine g1 ?_ | refine t1 ?_
  refine AW.cond rfl (fun h1 => ?_) fun h1 => ?_
  · repeat refine g1 ?_
    exact fin_val rfl rfl rfl (by simp at h0 h1; simp [Bc.linkKind, *]; rfl)
  repeat first | refine g1 ?_ | refine t1 ?_
  refine AW.cond rfl (fun h2 => ?_) fun h2 => ?_
  · repeat refine g1 ?_
    exact fin_val rfl rfl rfl (by simp at h0 h1 h2; simp [Bc.linkKind, *]; rfl)
  repeat first | refine g1 ?_ | refine t1 ?_
  refine AW.cond rfl (fun h3 => ?_) fun h3 => ?_
  · repeat refine g1 ?_
    exact fin_val rfl rfl rfl (by simp at h0 h1 h2 h3; simp [Bc.linkKind, *]; rfl)
  repeat first | refine g1 ?_ | refine t1 ?_
  refine AW.cond rfl (fun h4 => ?_) fun h4 => ?_
  · repeat refine g1 ?_
    exact fin_val rfl rfl rfl (by simp at h0 h1 h2 h3 h4; simp [Bc.linkKind, *]; rfl)
  repeat first | refine g1 ?_ | refine t1 ?_
  exact fin_val rfl rfl rfl (by simp at h0 h1 h2 h3 h4; simp [Bc.linkKind, *]; rfl)
theorem dimOf_c (w : World) {c : UInt8} : Calls pg 168 #[.int .u8 ((c.toNat : Nat) : Int)] w fun e w' => e = .returned (.tuple #[.int .i64 (Bc.dimOf c).1, .bool (Bc.dimOf c).2]) ∧ Bel w.heap.size w w' := by
  refine in1 17 Tryz.func168 rfl rfl (Hp.le_refl _) ?_
  repeat first | refine g1 ?_ | refine t1 ?_
  refine AW.cond rfl (fun h0 => ?_) fun h0 => ?_
  · repeat refine g1 ?_
    exact fin_out2 rfl rfl rfl rfl (fun w' hw => ⟨congrArg _ (by simp at h0; simp [Bc.dimOf, Bc.dimI, *]; exact ⟨rfl, rfl⟩), hw.below rfl⟩)
  repeat first | refine g1 ?_ | refine t1 ?_
  refine AW.cond rfl (fun h1 => ?_) fun h1 => ?_
  · repeat refine g1 ?_
    exact fin_out2 rfl rfl rfl rfl (fun w' hw => ⟨congrArg _ (by simp at h0 h1; simp [Bc.dimOf, Bc.dimI, *]; exact ⟨rfl, rfl⟩), hw.below rfl⟩)
  repeat first | refine g1 ?_ | refine t1 ?_
  refine AW.cond rfl (fun h2 => ?_) fun h2 => ?_
  · repeat refine g1 ?_
    exact fin_out2 rfl rfl rfl rfl (fun w' hw => ⟨congrArg _ (by simp at h0 h1 h2; simp [Bc.dimOf, Bc.dimI, *]; exact ⟨rfl, rfl⟩), hw.below rfl⟩)
  repeat first | refine g1 ?_ | refine t1 ?_
  refine AW.cond rfl (fun h3 => ?_) fun h3 => ?_
  · repeat refine g1 ?_
    exact fin_out2 rfl rfl rfl rfl (fun w' hw => ⟨congrArg _ (by simp at h0 h1 h2 h3; simp [Bc.dimOf, Bc.dimI, *]; exact ⟨rfl, rfl⟩), hw.below rfl⟩)
  repeat first | refine g1 ?_ | refine t1 ?_
  refine AW.cond rfl (fun h4 => ?_) fun h4 => ?_
  · repeat refine g1 ?_
    exact fin_out2 rfl rfl rfl rfl (fun w' hw => ⟨congrArg _ (by simp at h0 h1 h2 h3 h4; simp [Bc.dimOf, Bc.dimI, *]; exact ⟨rfl, rfl⟩), hw.below rfl⟩)
  repeat first | refine g1 ?_ | refine t1 ?_
  refine AW.cond rfl (fun h5 => ?_) fun h5 => ?_
  · repeat refine g1 ?_
    exact fin_out2 rfl rfl rfl rfl (fun w' hw => ⟨congrArg _ (by simp at h0 h1 h2 h3 h4 h5; simp [Bc.dimOf, Bc.dimI, *]; exact ⟨rfl, rfl⟩), hw.below rfl⟩)
  repeat first | refine g1 ?_ | refine t1 ?_
  exact fin_out2 rfl rfl rfl rfl (fun w' hw => ⟨congrArg _ (by simp at h0 h1 h2 h3 h4 h5; simp [Bc.dimOf, Bc.dimI, *]; exact ⟨rfl, rfl⟩), hw.below rfl⟩)
end Go.Proofs.YtpapfpoefiikpaaGreatDoor
namespace Go.K
open Go Go.RowKit
theorem StP.zz {B : Bs} {Φ : Hp} {C : List Chunk} {w : World} (hz : B.w0.drawn = 0) (h : StP B Φ C w) : StP B Φ C (zw w) := { h with drawn := by rw [hz]; simp }
section
variable {P : Program} {Pn : List PanicEntry → World → Prop} {N : Nat} {D : List Deferred} {ops : Array Oper} {Q : Exit → Act → World → Prop} {f : Nat → Value} {s : List (Nat × Value)} {B : Bs} {Φ : Hp} {C : List Chunk} {dst : Option Nat} {ty : TypeId} {pos : String} {af : Array Edge} {g : Option (Nat × Bool)} {x : Operand} {xs : Array Operand} {ts : Array TypeId} {k : FuncId} {first capt args : Array Value} {T : Value → Hp → Prop}
theorem e_callZ (hz : B.w0.drawn = 0) (hk : Own P k) (hx : ev (fr f s) x = .func (.func k) first capt) (ha : first.toList ++ xs.toList.map (ev (fr f s)) ++ capt.toList = args.toList)
    (h : ∀ w, (St B Φ C).p w → Calls P k args w (RetS Φ (zw w) T)) :
    ∀ w, (St B Φ C).p w → effX P Pn (fun v w' => ∃ y : {y : Value × Hp // T y.1 y.2 ∧ Hp.le Φ y.2}, v = y.1.1 ∧ (St B y.1.2 C).p w') ((execOp (ev (fr f s)) ⟨dst, .call { callee := .value x, args := xs, argTypes := ts }, ty, pos, af, g⟩).run P w) :=
  e_call (V := fun y : {y : Value × Hp // T y.1 y.2 ∧ Hp.le Φ y.2} => y.1.1) (J' := fun y => St B y.1.2 C) hk hx ha fun w hw => (h w hw).mono fun _ w' ⟨v, he, hb, hT⟩ =>
    ⟨⟨(v, Go.K.ext Φ w.heap.size w'), hT, le_ext (w := zw w) hb (show Hp.le Φ (hp (zw w)) from hw.phi)⟩, he, StP.call (w := zw w) (StP.zz hz hw) hb⟩
theorem RW.cS [hQ : PanQ D Q Pn] {d : Nat} {rest : List Oper} [hk : OwnI P k] (hd : Nat.blt d N = true) (h : ∀ w, (St B Φ C).p w → Calls P k args w (RetS Φ w T)) (hx : ev (fr f s) x = .func (.func k) #[] #[]) (ha : xs.toList.map (ev (fr f s)) = args.toList)
    (kk : ∀ v Ψ, T v Ψ → Hp.le Φ Ψ → RW P N D ops Q rest f ((d, v) :: s) (St B Ψ C)) : RW P N D ops Q (⟨some d, .call { callee := .value x, args := xs, argTypes := ts }, ty, pos, af, none⟩ :: rest) f s (St B Φ C) :=
  RW.eff _ _ hd (e_callS hk.h hx (by simpa using ha) h) fun y => kk y.1.1 y.1.2 y.2.1 y.2.2
theorem RW.cZ [hQ : PanQ D Q Pn] {d : Nat} {rest : List Oper} [hk : OwnI P k] (hz : B.w0.drawn = 0) (hd : Nat.blt d N = true) (h : ∀ w, (St B Φ C).p w → Calls P k args w (RetS Φ (zw w) T)) (hx : ev (fr f s) x = .func (.func k) #[] #[]) (ha : xs.toList.map (ev (fr f s)) = args.toList)
    (kk : ∀ v Ψ, T v Ψ → Hp.le Φ Ψ → RW P N D ops Q rest f ((d, v) :: s) (St B Ψ C)) : RW P N D ops Q (⟨some d, .call { callee := .value x, args := xs, argTypes := ts }, ty, pos, af, none⟩ :: rest) f s (St B Φ C) :=
  RW.eff _ _ hd (e_callZ hz hk.h hx (by simpa using ha) h) fun y => kk y.1.1 y.1.2 y.2.1 y.2.2
end
end Go.K
namespace Go.K
open Go Go.RowKit
theorem ext_mem {w w' : World} {Φ0 Φ Φr : Hp} {C : List Chunk} {c : Chunk} (hw : StP ⟨w, Φ0, []⟩ Φ C w') (hc : c ∈ C) : c.sat (Go.K.ext Φr w.heap.size w') := by
  refine c.loc (hp w') _ (fun b hb => ?_) (hw.sat _ hc)
  have := (hw.away b (List.mem_flatMap.2 ⟨_, hc, hb⟩)).2
  rcases this with h | h
  · unfold Go.K.ext; rw [if_neg (by show ¬ b < w.heap.size; have : w.heap.size ≤ b := h; omega)]; rfl
  · cases h
end Go.K
namespace Go.Proofs.YtpapfpoefiikpaaGreatDoor
open Go Go.K Go.RowKit
attribute [local irreducible] AW RW DW Post Qt
instance : Rep Bc.Prp where
  sz := 4
  bytes := 48
  rep := fun Φ p cs => ∃ v, cs = [.string p.name, v, .bool p.many, .bool p.missing] ∧ p.name.size ≤ maxLen ∧ RepSl Φ p.values v
  len := fun ⟨v, h, _⟩ => by rw [h]; rfl
  mono := fun hl ⟨v, h, h1, h2⟩ => ⟨v, h, h1, h2.mono hl⟩
  one := fun ⟨v, h, _, h2⟩ u hu => by
    rw [h] at hu
    simp only [List.mem_cons, List.not_mem_nil, or_false] at hu
    rcases hu with rfl | rfl | rfl | rfl
    · rfl
    · obtain ⟨A, c, rfl, _⟩ := h2.sl; rfl
    · rfl
    · rfl
abbrev sl1 (b n : Nat) : Value := .slice (some ⟨b, 0, none⟩) n n
abbrev pv (nm : ByteArray) (b n : Nat) (m q : Bool) : Value := .agg #[.string nm, sl1 b n, .bool m, .bool q]
abbrev sRow (b n : Nat) (ss : List ByteArray) : Chunk := .row (sl1 b n) 9 1 n (ss.map Value.string)
theorem one_c (w : World) {nm : ByteArray} {b n : Nat} : Calls pg 128 #[.string nm, sl1 b n] w fun e w' => e = .returned (pv nm b n false false) ∧ Bel w.heap.size w w' := by
  refine in2 8 Tryz.func128 rfl rfl (Hp.le_refl _) ?_
  repeat refine g1 ?_
  refine RW.alc rfl fun b4 => ?_
  repeat refine g1 ?_
  refine RW.q (v := pv nm b n false false) rfl (q_build (vals := [(0, .string nm), (1, sl1 b n)]) zero167 Tryz.underlying167 places167 rfl rfl) ?_
  refine RW.stA 0 rfl rfl rfl rfl rfl rfl ?_
  repeat refine g1 ?_
  exact fin_res (vs := [pv nm b n false false]) rfl rfl ⟨.agg rfl rfl (Cells.blk 0 rfl), trivial⟩ rfl (fun w' hw => ⟨rfl, hw.below rfl⟩)
theorem maybe_c (w : World) {nm : ByteArray} {b n : Nat} {m q : Bool} : Calls pg 130 #[pv nm b n m q] w fun e w' => e = .returned (pv nm b n m true) ∧ Bel w.heap.size w w' := by
  refine in1 5 Tryz.func130 rfl rfl (Hp.le_refl _) ?_
  repeat refine g1 ?_
  refine RW.bxA rfl rfl fun b1 => ?_
  refine RW.alc rfl fun b2 => ?_
  repeat refine g1 ?_
  exact fin_res (vs := [pv nm b n m true]) rfl rfl ⟨.agg rfl rfl (Cells.blk 0 rfl), trivial⟩ rfl (fun w' hw => ⟨rfl, hw.below rfl⟩)
theorem some_c (w : World) {nm v : ByteArray} : Calls pg 129 #[.string nm, .string v] w fun e w' => ∃ b, e = .returned (pv nm b 1 true false) ∧ StP ⟨w, hp w, []⟩ (hp w) [sRow b 1 [v]] w' := by
  refine in2 9 Tryz.func129 rfl rfl (Hp.le_refl _) ?_
  repeat refine g1 ?_
  refine RW.alc rfl fun b4 => ?_
  repeat refine g1 ?_
  refine RW.eff _ _ rfl (e_buildSlice (vals := [(0, .string v)]) (cells := [.string v]) Tryz.underlying22 inf9 rfl rfl rfl (by kernel_rfl) rfl) fun b => ?_
  refine RW.q (v := pv nm b 1 true false) rfl (q_build (vals := [(0, .string nm), (1, sl1 b 1), (2, .bool true)]) zero167 Tryz.underlying167 places167 rfl rfl) ?_
  refine RW.stA 1 rfl rfl rfl rfl rfl rfl ?_
  repeat refine g1 ?_
  exact fin_res (vs := [pv nm b 1 true false]) rfl rfl ⟨.agg rfl rfl (Cells.blk 1 rfl), trivial⟩ rfl (fun w' hw => ⟨b, rfl, hw.drop (.cons_cons _ (List.nil_sublist _))⟩)
/-! ### literals: the slices of strings become known, the slices of properties too -/
noncomputable def kStr : KL pg 9 (List UInt8) := KL.of (Maps.string_keyed Tryz.underlying9) (fun l => .string (bs l)) (fun l => l.length ≤ maxLen) (fun h => bs_inj (by simpa using h)) fun a ha => ⟨_, WideMaps.keyOf_string_mk Tryz.underlying9 (by rw [bs_size]; exact ha)⟩
abbrev pvC (p : Bc.Prp) (b : Nat) : List Value := [.string p.name, sl1 b p.values.length, .bool p.many, .bool p.missing]
structure Acc (Φ : Hp) (L : List (List ByteArray × Nat)) (M : List (List Bc.Prp × Value)) : Prop where
  s : ∀ x ∈ L, RepSl Φ x.1 (sl1 x.2 x.1.length)
  l : ∀ x ∈ M, RepSl Φ x.1 x.2
def PL (L : List (List ByteArray × Nat)) : List Value → List Bc.Prp → Prop
  | [], [] => True
  | v :: vs, p :: ps => (∃ b, v = .agg (pvC p b).toArray ∧ (p.values, b) ∈ L) ∧ PL L vs ps
  | _, _ => False
theorem sRow_rep {Ψ : Hp} {b n : Nat} {ss : List ByteArray} (h : (sRow b n ss).sat Ψ) (hn : ss.length = n) (hs : ∀ x ∈ ss, x.size ≤ maxLen) (hm : n * 16 ≤ maxSl) : RepSl Ψ ss (sl1 b n) := by
  have h : RowS Ψ (sl1 b n) 9 1 n (ss.map Value.string) := h
  refine RowS.rep (α := ByteArray) h hn hm fun i hi => ⟨[.string ss[i]], ⟨rfl, hs _ (List.getElem_mem hi)⟩, fun j u hj => ?_⟩
  cases j with
  | zero => simp at hj; subst hj; show (ss.map Value.string)[i * 1 + 0]? = _; simp [hi]
  | succ j => simp at hj
theorem pl_reps {Φ : Hp} {L : List (List ByteArray × Nat)} {M : List (List Bc.Prp × Value)} (hA : Acc Φ L M) : ∀ {vs : List Value} {ps : List Bc.Prp}, PL L vs ps → (∀ p ∈ ps, p.name.size ≤ maxLen) → ∃ cs : List (List Value), vs.flatMap (·.cells.toList) = cs.flatten ∧ Reps Φ ps cs
  | [], [], _, _ => ⟨[], rfl, trivial⟩
  | v :: vs, p :: ps, ⟨⟨b, hb, hm⟩, h⟩, hn => by
    obtain ⟨cs, h1, h2⟩ := pl_reps hA h fun q hq => hn q (List.mem_cons_of_mem _ hq)
    exact ⟨pvC p b :: cs, by rw [List.flatMap_cons, h1, hb]; rfl, ⟨⟨_, rfl, hn p (List.mem_cons_self ..), hA.s _ hm⟩, h2⟩⟩
section
variable {N : Nat} {D : List Deferred} {ops : Array Oper} {Q : Exit → Act → World → Prop} {Pn : List PanicEntry → World → Prop} [hQ : PanQ D Q Pn] {f : Nat → Value} {s : List (Nat × Value)} {w0 : World} {Φ0 Φ : Hp} {C : List Chunk} {rest : List Oper} {ty T : TypeId} {pos : String} {af : Array Edge} {d a n k : Nat} {L : List (List ByteArray × Nat)} {M : List (List Bc.Prp × Value)} {v u z nm : ByteArray}
theorem Acc.up {Ψ : Hp} (h : Acc Φ L M) (hl : Hp.le Φ Ψ) : Acc Ψ L M := ⟨fun x hx => (h.s x hx).mono hl, fun x hx => (h.l x hx).mono hl⟩
theorem RW.bS {parts : Array (Nat × Operand)} {ss : List ByteArray} (hA : Acc Φ L M) (hd : Nat.blt d N = true) (hv : parts.toList.map (fun p => (p.1, ev (fr f s) p.2)) = (List.range n).zip (ss.map Value.string)) (hn : ss.length = n) (h1 : Nat.ble 1 n = true) (h2 : Nat.ble n 16 = true)
    (hf : Instr.fill (fun i => some (i * 1, 1)) ((Array.range (n * 1)).map ((Value.string ⟨#[]⟩).cells[· % (Value.string ⟨#[]⟩).cells.size]!)) ((List.range n).zip (ss.map Value.string)) = some (ss.map Value.string).toArray) (hs : ∀ x ∈ ss, x.size ≤ maxLen)
    (kk : ∀ Ψ b, Acc Ψ ((ss, b) :: L) M → RW pg N D ops Q rest f ((d, sl1 b n) :: s) (St ⟨w0, Φ0, []⟩ Ψ C)) : RW pg N D ops Q (⟨some d, .buildSlice 22 n parts, ty, pos, af, none⟩ :: rest) f s (St ⟨w0, Φ0, []⟩ Φ C) := by
  have h1' : 1 ≤ n := by simpa using h1
  have h2' : n ≤ 16 := by simpa using h2
  refine RW.eff _ _ hd (e_buildSlice Tryz.underlying22 inf9 hv (by simp; omega) (by simp; omega) hf (by simp [hn])) fun b => RW.frz fun Ψ hl hc => kk Ψ b ⟨fun x hx => ?_, (hA.up hl).l⟩
  rcases List.mem_cons.1 hx with rfl | hx
  · subst hn; exact sRow_rep hc rfl hs (by simp only [maxSl]; omega)
  · exact (hA.up hl).s x hx
theorem RW.bN (hA : Acc Φ L M) (hd : Nat.blt d N = true) (hs : v.size ≤ maxLen)
    (kk : ∀ Ψ b, Acc Ψ (([v], b) :: L) M → RW pg N D ops Q rest f ((d, pv nm b 1 true false) :: s) (St ⟨w0, Φ0, []⟩ Ψ C)) : RW pg N D ops Q (⟨some d, .call { callee := .value (.func 129), args := #[.const (.string nm), .const (.string v)], argTypes := #[9, 9] }, ty, pos, af, none⟩ :: rest) f s (St ⟨w0, Φ0, []⟩ Φ C) := by
  refine RW.ec (X := Nat) (V := fun b => pv nm b 1 true false) (J' := fun b => St ⟨w0, Φ0, []⟩ Φ (sRow b 1 [v] :: C)) (args := #[.string nm, .string v]) hd (fun w hw => (some_c w).mono fun e w' ⟨b, he, hK⟩ => ⟨b, he, StP.madeM hw hK⟩) rfl rfl fun b => RW.frz fun Ψ hl hc => kk Ψ b ⟨fun x hx => ?_, (hA.up hl).l⟩
  rcases List.mem_cons.1 hx with rfl | hx
  · exact sRow_rep hc rfl (fun x hx => by rw [List.mem_singleton.1 hx]; exact hs) (show 1 * 16 ≤ maxSl by decide)
  · exact (hA.up hl).s x hx
theorem RW.bL {parts : Array (Nat × Operand)} {vs : List Value} (ps : List Bc.Prp) (hA : Acc Φ L M) (hd : Nat.blt d N = true) (hv : parts.toList.map (fun p => ev (fr f s) p.2) = vs) (hi : parts.toList.map (·.1) = List.range k) (hk : ps.length = k) (h1 : Nat.ble 1 (k * 4) = true) (h2 : Nat.ble k 16 = true)
    (hf : Instr.fill (fun i => some (i * 4, 4)) ((Array.range (k * 4)).map ((Value.agg #[.string ⟨#[]⟩, .slice none 0 0, .bool false, .bool false]).cells[· % (Value.agg #[.string ⟨#[]⟩, .slice none 0 0, .bool false, .bool false]).cells.size]!)) ((List.range k).zip vs) = some (vs.flatMap (·.cells.toList)).toArray)
    (hP : PL L vs ps) (hn : ∀ p ∈ ps, p.name.size ≤ maxLen)
    (kk : ∀ Ψ b, Acc Ψ [] ((ps, sl1 b k) :: M) → RW pg N D ops Q rest f ((d, sl1 b k) :: s) (St ⟨w0, Φ0, []⟩ Ψ C)) : RW pg N D ops Q (⟨some d, .buildSlice 157 k parts, ty, pos, af, none⟩ :: rest) f s (St ⟨w0, Φ0, []⟩ Φ C) := by
  have h2' : k ≤ 16 := by simpa using h2
  obtain ⟨cs, hc, hr⟩ := pl_reps hA hP hn
  have hvv : parts.toList.map (fun p => (p.1, ev (fr f s) p.2)) = (List.range k).zip vs := by
    rw [← hv, ← hi]
    generalize parts.toList = l
    induction l with
    | nil => rfl
    | cons a l ih => simp only [List.map, List.zip_cons_cons, ih]
  have hcl : (vs.flatMap (·.cells.toList)).length = k * 4 := by
    rw [hc, ← hk]
    have : ∀ {ps : List Bc.Prp} {cs : List (List Value)}, Reps Φ ps cs → cs.flatten.length = ps.length * 4 := fun {ps} => by
      induction ps with
      | nil => intro cs h; cases cs with
        | nil => rfl
        | cons c cs => exact h.elim
      | cons p ps ih => intro cs h; cases cs with
        | nil => exact h.elim
        | cons c cs => have h1 := ih h.2; have h3 : c.length = 4 := Rep.len h.1; simp only [List.flatten_cons, List.length_append, List.length_cons, h1, h3]; omega
    exact this hr
  refine RW.eff _ _ hd (e_buildSlice Tryz.underlying157 inf167 hvv h1 (by simp; omega) hf hcl) fun b => RW.frz fun Ψ hl hsat => kk Ψ b ⟨(fun x hx => by cases hx), fun x hx => ?_⟩
  rcases List.mem_cons.1 hx with rfl | hx
  · have hrow : RowS Ψ (sl1 b k) 167 4 k (vs.flatMap (·.cells.toList)) := hsat
    obtain ⟨cs2, hc2, hr2⟩ := pl_reps (hA.up hl) hP hn
    exact RowS.reps (α := Bc.Prp) hrow hc2 hr2 hk (by show k * 48 ≤ _; simp only [maxSl]; omega)
  · exact (hA.up hl).l x hx
theorem RW.kM (hd : Nat.blt d N = true) (kk : ∀ b, RW pg N D ops Q rest f ((d, .map (some b)) :: s) (St ⟨w0, Φ0, []⟩ Φ (.kmap kStr id b (fun _ => none) :: C))) : RW pg N D ops Q (⟨some d, .makeMap T none, ty, pos, af, none⟩ :: rest) f s (St ⟨w0, Φ0, []⟩ Φ C) :=
  RW.eff (X := Nat) (fun b => .map (some b)) (fun b => St ⟨w0, Φ0, []⟩ Φ (.kmap kStr id b (fun _ => none) :: C)) hd (e_kmake kStr id) kk
theorem RW.kI {x z : Operand} {b : Nat} {Mm : List UInt8 → Option Value} {l : List UInt8} {V : Value} (hx : ev (fr f s) x = .map (some b)) (hv : ev (fr f s) z = V) (hk : l.length ≤ maxLen)
    (kk : RW pg N D ops Q rest f s (St ⟨w0, Φ0, []⟩ Φ (.kmap kStr id b (fun j => if j = l then some V else Mm j) :: C))) : RW pg N D ops Q (⟨none, .insert 155 x (.const (.string ⟨l.toArray⟩)) z, ty, pos, af, none⟩ :: rest) f s (St ⟨w0, Φ0, []⟩ Φ (.kmap kStr id b Mm :: C)) :=
  RW.effn (e_kPut (ty := ty) (pos := pos) (af := af) (g := none) (L := kStr) 0 rfl hx rfl hv hk Tryz.underlying155 rfl) kk
end
/-! ### the table as it lies in memory -/
def Mch : List (List UInt8 × Value) → List UInt8 → Option Value
  | [] => fun _ => none
  | p :: r => fun j => if j = p.1 then some p.2 else Mch r j
def TabM (Ψ : Hp) (b : Nat) (M : List UInt8 → Option Value) : Prop := (Chunk.kmap kStr id b M).sat Ψ ∧ ∀ k, match Bc.props k with
  | none => M k = none
  | some ps => ∃ v, M k = some v ∧ RepSl Ψ ps v
def TabR (Ψ : Hp) : List (List UInt8 × Value) → List (List UInt8 × List Bc.Prp) → Prop
  | [], [] => True
  | p :: l, q :: r => p.1 = q.1 ∧ RepSl Ψ q.2 p.2 ∧ TabR Ψ l r
  | _, _ => False
theorem tab_ok {Ψ : Hp} (k : List UInt8) : ∀ {l : List (List UInt8 × Value)} {r : List (List UInt8 × List Bc.Prp)}, TabR Ψ l r → match (r.find? fun x => decide (x.1 = k)).map (·.2) with
    | none => Mch l k = none
    | some ps => ∃ v, Mch l k = some v ∧ RepSl Ψ ps v
  | [], [], _ => rfl
  | p :: l, q :: r, ⟨h1, h2, h3⟩ => by
    by_cases hk : q.1 = k
    · simp only [List.find?, hk, decide_true, Option.map_some, Mch]
      exact ⟨p.2, if_pos (h1.trans hk).symm, h2⟩
    · have := tab_ok k h3
      simp only [List.find?, hk, decide_false, Mch]
      rw [if_neg fun h => hk (h1.symm.trans h.symm)]
      exact this
end Go.Proofs.YtpapfpoefiikpaaGreatDoor
