/- Lemmas. Conditions: those of each theorem. -/
import Derived.Test.YtnfmjfheciihjaaGreatDoorTRfJ
set_option maxRecDepth 8000
set_option maxHeartbeats 16000000
namespace Mn
def moff (y m : Int) : Int := ([0, 31, 60, 91, 121, 152, 182, 213, 244, 274, 305, 335] : List Int).getD (m - 1).toNat 0 - (if leap y = false ∧ 3 ≤ m then 1 else 0)
theorem m12 {m : Int} (h : 1 ≤ m ∧ m ≤ 12) : m = 1 ∨ m = 2 ∨ m = 3 ∨ m = 4 ∨ m = 5 ∨ m = 6 ∨ m = 7 ∨ m = 8 ∨ m = 9 ∨ m = 10 ∨ m = 11 ∨ m = 12 := by omega
theorem moff_next {y m : Int} (h : 1 ≤ m ∧ m ≤ 11) : moff y (m + 1) = moff y m + mlen y m := by
  rcases m12 (m := m) ⟨h.1, by omega⟩ with rfl | rfl | rfl | rfl | rfl | rfl | rfl | rfl | rfl | rfl | rfl | rfl <;> first | (exfalso; omega) | (cases hl : leap y <;> simp [moff, mlen, months, hl])
theorem moff_last (y : Int) : moff y 12 + mlen y 12 = if leap y = true then 366 else 365 := by
  cases hl : leap y <;> simp [moff, mlen, months, hl]
theorem moff_one (y : Int) : moff y 1 = 0 := by simp [moff]
theorem mlen_pos {y m : Int} (h : 1 ≤ m ∧ m ≤ 12) : 28 ≤ mlen y m ∧ mlen y m ≤ 31 := by
  rcases m12 h with rfl | rfl | rfl | rfl | rfl | rfl | rfl | rfl | rfl | rfl | rfl | rfl <;> (cases hl : leap y <;> simp [mlen, months, hl])
theorem moff_le (y : Int) : ∀ (k : Nat) (m : Int), 1 ≤ m → m + k ≤ 12 → moff y m ≤ moff y (m + k)
  | 0, m, _, _ => by simp
  | k + 1, m, h1, h2 => by
    have h3 := moff_le y k m h1 (by omega)
    have h4 := moff_next (y := y) (m := m + k) (by omega)
    have h5 := mlen_pos (y := y) (m := m + k) (by omega)
    rw [show m + ((k + 1 : Nat) : Int) = m + k + 1 by omega, h4]; omega
theorem monF_eq {y m d : Int} (hm : m ≤ 12) (hd : 0 ≤ d ∧ d < mlen y m) : ∀ (f : Nat) (m0 : Int), 1 ≤ m0 → m0 ≤ m → m - m0 < f → monF f y (moff y m - moff y m0 + d) m0 = (d, m)
  | 0, m0, _, _, h => by omega
  | f + 1, m0, h1, h2, h3 => by
    unfold monF
    by_cases he : m0 = m
    · subst he
      rw [show moff y m0 - moff y m0 + d = d by omega, if_neg (by omega)]
    · have h4 := moff_next (y := y) (m := m0) (by omega)
      have h5 := moff_le y (m - (m0 + 1)).toNat (m0 + 1) (by omega) (by omega)
      rw [show m0 + 1 + (((m - (m0 + 1)).toNat : Nat) : Int) = m by omega] at h5
      rw [if_pos (by omega), show moff y m - moff y m0 + d - mlen y m0 = moff y m - moff y (m0 + 1) + d by omega]
      exact monF_eq hm hd f (m0 + 1) (by omega) (by omega) (by omega)
theorem bef_mono {y z : Int} (_ : 2000 ≤ y) (hz : y ≤ z) : bef y ≤ bef z := by unfold bef; omega
theorem ymd_eq {h y m d : Int} (hh : 0 ≤ h ∧ h ≤ 16777216) (hy : 2000 ≤ y) (hm : 1 ≤ m ∧ m ≤ 12) (hd : 0 ≤ d ∧ d < mlen y m) (hE : bef y + moff y m + d = h / 24) : ymd h = (y, m, d + 1) := by
  have hlt : h / 24 < bef (y + 1) := by
    have h1 := bef_next y hy
    have h2 := moff_last y
    have h3 := moff_le y (12 - m).toNat m hm.1 (by omega)
    rw [show m + (((12 - m).toNat : Nat) : Int) = 12 by omega] at h3
    by_cases hm12 : m = 12
    · subst hm12; split at h1 <;> split at h2 <;> first | omega | (rename_i a b; exact absurd a b) | (rename_i a b; exact absurd b a)
    · have h4 := moff_next (y := y) (m := m) (by omega)
      have h5 := moff_le y (12 - (m + 1)).toNat (m + 1) (by omega) (by omega)
      rw [show m + 1 + (((12 - (m + 1)).toNat : Nat) : Int) = 12 by omega] at h5
      have h6 := mlen_pos (y := y) (m := 12) (by omega)
      split at h1 <;> split at h2 <;> first | omega | (rename_i a b; exact absurd a b) | (rename_i a b; exact absurd b a)
  have hmo : 0 ≤ moff y m := by
    have h3 := moff_le y (m - 1).toNat 1 (by omega) (by omega)
    rw [show 1 + (((m - 1).toNat : Nat) : Int) = m by omega, moff_one] at h3; exact h3
  have hb := bef_ge hy
  have hY := yearF_ok 2000 (h / 24) (2000 + h / 24 / 366) (by omega) (by omega) (by have := bef_ge (y := 2000 + h / 24 / 366) (by omega); omega) (by omega)
  have heq : yearF 2000 (h / 24) (2000 + h / 24 / 366) = y := by
    generalize yearF 2000 (h / 24) (2000 + h / 24 / 366) = Y at hY
    rcases Int.lt_trichotomy Y y with h1 | h1 | h1
    · have := bef_mono (y := Y + 1) (z := y) (by omega) (by omega); omega
    · exact h1
    · have := bef_mono (y := y + 1) (z := Y) (by omega) (by omega); omega
  have hmon : monF 12 y (h / 24 - bef y) 1 = (d, m) := by
    have := monF_eq (y := y) (m := m) (d := d) hm.2 hd 12 1 (by omega) hm.1 (by omega)
    rw [moff_one] at this
    rw [← this]; congr 1; omega
  unfold ymd
  simp only [heq, hmon]
end Mn
namespace Mn
theorem mlen_2 (y : Int) : mlen y 2 = if leap y = true then 29 else 28 := by cases hl : leap y <;> simp [mlen, months, hl]
theorem mlen_30 {y m : Int} (h : m = 4 ∨ m = 6 ∨ m = 9 ∨ m = 11) : mlen y m = 30 := by
  rcases h with rfl | rfl | rfl | rfl <;> simp [mlen, months]
theorem mlen_31 {y m : Int} (hm : 1 ≤ m ∧ m ≤ 12) (h2 : m ≠ 2) (h : ¬ (m = 4 ∨ m = 6 ∨ m = 9 ∨ m = 11)) : mlen y m = 31 := by
  rcases m12 hm with rfl | rfl | rfl | rfl | rfl | rfl | rfl | rfl | rfl | rfl | rfl | rfl <;> first | (exfalso; omega) | simp [mlen, months]
end Mn
namespace Go.Proofs.YtnfmjfheciihjaaGreatDoor
open Go Go.K Go.RowKit
open Ru (pB)
attribute [local irreducible] AW RW DW Post Qt
theorem fLen_c (w : World) {y m : Int} (hy : 0 ≤ y ∧ y ≤ 1000000) (hm : 1 ≤ m ∧ m ≤ 12) : Calls pg 110 #[.int .i64 y, .int .i64 m] w fun e w' => e = .returned (.int .i64 (Mn.mlen y m)) ∧ Bel w.heap.size w w' := by
  refine calls_of_AW (args := [.int .i64 y, .int .i64 m]) Tryz.func110 rfl (lBT rfl) (St ⟨w, hp w, []⟩ (hp w) []) (StP.init w (hp w) (Hp.le_refl _) []) ?_
  show AW _ _ [] _ _ _ [(0, .int .i64 y), (1, .int .i64 m)] _
  have h4 : y.tmod 4 = y % 4 := Int.tmod_eq_emod_of_nonneg hy.1
  have h100 : y.tmod 100 = y % 100 := Int.tmod_eq_emod_of_nonneg hy.1
  have h400 : y.tmod 400 = y % 400 := Int.tmod_eq_emod_of_nonneg hy.1
  repeat refine gs1 ?_
  refine AW.cond rfl (fun c => ?_) fun c => ?_
  · obtain rfl : m = 2 := odT c
    rw [Mn.mlen_2]
    repeat refine gs1 ?_
    refine RW.q (v := .int .i64 (y % 4)) rfl (q_rem rfl rfl (by decide) h4) ?_
    repeat refine gs1 ?_
    refine RW.g (b := decide (y % 4 = 0)) (v := .int .i64 (y % 100)) rfl rfl rfl (fun h => q_rem (gv_pos h) rfl (by decide) h100) ?_
    repeat refine gs1 ?_
    refine RW.g2 (b1 := decide (y % 4 = 0)) (b2 := !decide (y % 100 = 0)) (v := .int .i64 y) rfl rfl rfl (fun hg1 hg2 => q_move rfl) ?_
    refine RW.g2 (b1 := decide (y % 4 = 0)) (b2 := !decide (y % 100 = 0)) (v := .int .i64 (y % 400)) rfl rfl rfl (fun hg1 hg2 => q_rem ((gv_pos hg1).trans (gv_pos hg2)) rfl (by decide) h400) ?_
    refine RW.g2 (b1 := decide (y % 4 = 0)) (b2 := !decide (y % 100 = 0)) (v := .bool (decide (y % 400 = 0))) rfl rfl rfl (fun hg1 hg2 => q_eql ((gv_pos hg1).trans (gv_pos hg2)) rfl) ?_
    refine RW.g (b := decide (y % 4 = 0)) (v := .bool (!decide (y % 100 = 0) || decide (y % 400 = 0))) rfl rfl rfl (fun h => q_pick (gv_pos h) (fun hp => pkOrT hp) (fun hp => (gv_pos h).trans ((gv_pos hp).trans (pkOrF hp)))) ?_
    refine RW.q (v := .bool (Mn.leap y)) rfl (q_as (qpA rfl rfl rfl) (congrArg Value.bool (show (decide (y % 4 = 0) && (!decide (y % 100 = 0) || decide (y % 400 = 0))) = Mn.leap y by unfold Mn.leap; simp))) ?_
    repeat refine gs1 ?_
    refine AW.cond rfl (fun c => ?_) fun c => ?_
    · rw [c, if_pos rfl]
      repeat refine gs1 ?_
      exact fin_res (vs := [.int .i64 29]) rfl rfl ⟨.tmp rfl, trivial⟩ rfl (fun w' hw => ⟨rfl, hw.below rfl⟩)
    rw [c, if_neg (by simp)]
    repeat refine gs1 ?_
    exact fin_res (vs := [.int .i64 28]) rfl rfl ⟨.tmp rfl, trivial⟩ rfl (fun w' hw => ⟨rfl, hw.below rfl⟩)
  have c2 : m ≠ 2 := odF c
  repeat refine gs1 ?_
  refine RW.q (v := .bool (decide (m = 4) || decide (m = 6))) rfl (qpO rfl rfl rfl) ?_
  repeat refine gs1 ?_
  refine RW.q (v := .bool (decide (m = 4) || decide (m = 6) || decide (m = 9))) rfl (qpO rfl rfl rfl) ?_
  repeat refine gs1 ?_
  refine RW.q (v := .bool (decide (m = 4) || decide (m = 6) || decide (m = 9) || decide (m = 11))) rfl (qpO rfl rfl rfl) ?_
  repeat refine gs1 ?_
  refine AW.cond rfl (fun c => ?_) fun c => ?_
  · rw [Mn.mlen_30 (by simp only [Bool.or_eq_true, decide_eq_true_eq] at c; omega)]
    repeat refine gs1 ?_
    exact fin_res (vs := [.int .i64 30]) rfl rfl ⟨.tmp rfl, trivial⟩ rfl (fun w' hw => ⟨rfl, hw.below rfl⟩)
  rw [Mn.mlen_31 hm c2 (by simp only [Bool.or_eq_false_iff, decide_eq_false_iff_not] at c; omega)]
  repeat refine gs1 ?_
  exact fin_res (vs := [.int .i64 31]) rfl rfl ⟨.tmp rfl, trivial⟩ rfl (fun w' hw => ⟨rfl, hw.below rfl⟩)
theorem fOf_c (w : World) {Φ : Hp} (hΦ : Hp.le Φ (hp w)) {h : Int} (hh : I64 h) : Calls pg 86 #[.int .i64 h] w fun e w' => e = .returned (.tuple #[.agg (dtC (Mn.dateOf h).1).toArray, .bool (Mn.dateOf h).2]) ∧ Bel w.heap.size w w' := by
  refine calls_of_AW (args := [.int .i64 h]) Tryz.func86 rfl (lBT rfl) (St ⟨w, Φ, []⟩ Φ []) (StP.init w Φ hΦ []) ?_
  show AW _ _ [] _ _ _ [(0, .int .i64 h)] _
  unfold I64 at hh
  unfold Mn.dateOf
  repeat refine gs1 ?_
  refine RW.alc rfl fun b2 => ?_
  repeat refine gs1 ?_
  refine RW.q (v := .bool (decide (h < 0) || decide (16777216 < h))) rfl (qpO rfl rfl rfl) ?_
  repeat refine gs1 ?_
  refine AW.cond rfl (fun c => ?_) fun c => ?_
  · have c : h < 0 ∨ 16777216 < h := by simpa using c
    rw [if_pos c]
    repeat refine gs1 ?_
    refine RW.q (v := .agg (dtC (0, 0, 0, 0)).toArray) rfl (q_build (vals := []) zero77 Tryz.underlying77 places77 rfl rfl) ?_
    repeat refine gs1 ?_
    exact fin_res (vs := [.agg (dtC (0, 0, 0, 0)).toArray, .bool false]) rfl rfl ⟨.agg rfl rfl (Cells.blk 0 rfl), .tmp rfl, trivial⟩ rfl (fun w' hw => ⟨rfl, hw.below rfl⟩)
  have c : ¬ (h < 0 ∨ 16777216 < h) := by simp only [Bool.or_eq_false_iff, decide_eq_false_iff_not] at c; omega
  rw [if_neg c]
  have hdiv : h.tdiv 24 = h / 24 := Int.tdiv_eq_ediv_of_nonneg (by omega)
  have hmod : h.tmod 24 = h % 24 := Int.tmod_eq_emod_of_nonneg (by omega)
  repeat refine gs1 ?_
  refine RW.q (v := .int .i64 (h / 24)) rfl (q_quo rfl rfl (by decide) hdiv (by unfold I64; omega)) ?_
  repeat refine gs1 ?_
  refine AW.loop (fun s J q => ∃ d y m : Int, s = [(0, .int .i64 h), (2, pB b2), (4, .int .i64 d), (5, .int .i64 y), (6, .int .i64 m)] ∧ J = St ⟨w, Φ, []⟩ Φ [.blk b2 77 [.int .i64 0, .int .i64 0, .int .i64 0, .int .i64 0]] ∧ q = d.toNat ∧ 0 ≤ d ∧ 2000 ≤ y ∧ (1 ≤ m ∧ m ≤ 12) ∧ Mn.bef y + Mn.moff y m + d = h / 24) (s0 := _) (J1 := _) (m0 := _) ⟨h / 24, 2000, 1, rfl, rfl, rfl, by omega, by omega, by omega, by rw [Mn.moff_one]; unfold Mn.bef; omega⟩ ⟨rfl, rfl, rfl, rfl, rfl, trivial⟩ (fun _ h => h) ?_
  rintro _ _ _ _ ⟨d, y, m, rfl, rfl, rfl, hd, hy, hm, hE⟩
  have hb := Mn.bef_ge hy
  have hmo : 0 ≤ Mn.moff y m := by
    have h3 := Mn.moff_le y (m - 1).toNat 1 (by omega) (by omega)
    rw [show 1 + (((m - 1).toNat : Nat) : Int) = m by omega, Mn.moff_one] at h3; exact h3
  have hml := Mn.mlen_pos (y := y) hm
  repeat refine gs1 ?_
  refine RW.q (v := .int .i64 (Mn.mlen y m)) rfl (q_call (args := #[.int .i64 y, .int .i64 m]) oK rfl rfl (fun w1 hw1 => fLen_c w1 (by omega) hm)) ?_
  repeat refine gs1 ?_
  refine AW.cond rfl (fun c2 => ?_) fun c2 => ?_
  · have c2 : Mn.mlen y m ≤ d := odT c2
    repeat refine gs1 ?_
    refine RW.q (v := .int .i64 (Mn.mlen y m)) rfl (q_call (args := #[.int .i64 y, .int .i64 m]) oK rfl rfl (fun w1 hw1 => fLen_c w1 (by omega) hm)) ?_
    repeat refine gs1 ?_
    refine AW.cond rfl (fun c3 => ?_) fun c3 => ?_
    · have c3 : m = 12 := by have := odT c3; omega
      subst c3
      have h5 := Mn.bef_next y hy
      have h6 := Mn.moff_last y
      repeat refine gs1 ?_
      exact Post.back (s' := _) (J' := _) (m' := _) (by omega) ⟨d - Mn.mlen y 12, y + 1, 1, rfl, rfl, rfl, by omega, by omega, by omega, by rw [Mn.moff_one]; split at h5 <;> split at h6 <;> first | omega | (rename_i a b; exact absurd a b) | (rename_i a b; exact absurd b a)⟩ ⟨rfl, rfl, rfl, rfl, rfl, trivial⟩ (fun _ h => h)
    have c3 : m ≤ 11 := by have := odF c3; omega
    have h5 := Mn.moff_next (y := y) (m := m) ⟨hm.1, c3⟩
    repeat refine gs1 ?_
    exact Post.back (s' := _) (J' := _) (m' := _) (by omega) ⟨d - Mn.mlen y m, y, m + 1, rfl, rfl, rfl, by omega, by omega, by omega, by omega⟩ ⟨rfl, rfl, rfl, rfl, rfl, trivial⟩ (fun _ h => h)
  have c2 : ¬ Mn.mlen y m ≤ d := odF c2
  rw [Mn.ymd_eq (h := h) (by omega) hy hm ⟨hd, by omega⟩ hE]
  repeat refine gs1 ?_
  refine RW.q (v := .int .i64 (h % 24)) rfl (q_rem rfl rfl (by decide) hmod) ?_
  repeat refine gs1 ?_
  refine RW.q (v := .agg (dtC (y, m, d + 1, h % 24)).toArray) rfl (q_build (vals := [(0, .int .i64 y), (1, .int .i64 m), (2, .int .i64 (d + 1)), (3, .int .i64 (h % 24))]) zero77 Tryz.underlying77 places77 rfl rfl) ?_
  repeat refine gs1 ?_
  exact fin_res (vs := [.agg (dtC (y, m, d + 1, h % 24)).toArray, .bool true]) rfl rfl ⟨.agg rfl rfl (Cells.blk 0 rfl), .tmp rfl, trivial⟩ rfl (fun w' hw => ⟨rfl, hw.below rfl⟩)
theorem fFact_c (w : World) {Φ : Hp} (hΦ : Hp.le Φ (hp w)) {f : Bt.Facts} {yf : FcV} (hy : yf.ok Φ f) (hh : I64 f.Hour) {X : Bt.Expr} {v : Value} {kn : Nat} (hv : IsSl v kn) (hN : 0 ≤ X.N ∧ X.N ≤ 7) : Calls pg 58 #[.agg (fcC yf f.Hour).toArray, .agg (exC X v).toArray] w fun e w' => e = .returned (.int .i64 (Mn.factV f (Mn.dateOf f.Hour).1 X.N X.Of X.Of2)) ∧ Bel w.heap.size w w' := by
  obtain ⟨vA, vc, rfl, _⟩ := hv
  have s1 := hy.vol.sl
  have s2 := hy.lev.sl
  have s3 := hy.own.sl
  have s4 := hy.pos.sl
  have s5 := hy.cre.sl
  refine calls_of_AW (args := [.agg (fcC yf f.Hour).toArray, .agg (exC X (.slice vA kn vc)).toArray]) Tryz.func58 rfl (lBT rfl) (St ⟨w, Φ, []⟩ Φ []) (StP.init w Φ hΦ []) ?_
  show AW _ _ [] _ _ _ [(0, .agg (fcC yf f.Hour).toArray), (1, .agg (exC X (.slice vA kn vc)).toArray)] _
  repeat refine gs1 ?_
  refine RW.bxA (cs := fcC yf f.Hour) rfl rfl fun b2 => ?_
  refine RW.bxA (cs := exC X (.slice vA kn vc)) rfl rfl fun b3 => ?_
  repeat refine gs1 ?_
  obtain ⟨⟨⟨d1, d2, d3, d4⟩, dq⟩, hD⟩ : ∃ r, Mn.dateOf f.Hour = r := ⟨_, rfl⟩
  rw [hD]
  refine RW.q (v := .tuple #[.agg (dtC (d1, d2, d3, d4)).toArray, .bool dq]) rfl (q_as (q_call (args := #[.int .i64 f.Hour]) oK rfl rfl (fun w1 hw1 => fOf_c w1 (Hp.le_refl _) hh)) (by rw [hD])) ?_
  repeat refine gs1 ?_
  refine RW.alc rfl fun b5 => ?_
  unfold Mn.factV
  simp only
  repeat refine gs1 ?_
  refine AW.cond rfl (fun k => ?_) fun k => ?_
  · rw [if_pos (odT k)]
    repeat refine gs1 ?_
    refine RW.q (v := .int .i64 (Mn.atL f.Volume X.Of)) rfl (q_call (args := #[yf.vol, .int .i64 X.Of, .int .i64 0]) oK rfl rfl (fun w1 hw1 => fAt_c w1 hw1.phi hy.vol)) ?_
    repeat refine gs1 ?_
    exact fin_res (vs := [.int .i64 (Mn.atL f.Volume X.Of)]) rfl rfl ⟨.tmp rfl, trivial⟩ rfl (fun w' hw => ⟨rfl, hw.below rfl⟩)
  have k0 := odF k
  rw [if_neg k0]
  clear k
  repeat refine gs1 ?_
  refine AW.cond rfl (fun k => ?_) fun k => ?_
  · rw [if_pos (odT k)]
    repeat refine gs1 ?_
    refine RW.q (v := .int .i64 (Mn.atL f.Level X.Of)) rfl (q_call (args := #[yf.lev, .int .i64 X.Of, .int .i64 0]) oK rfl rfl (fun w1 hw1 => fAt_c w1 hw1.phi hy.lev)) ?_
    repeat refine gs1 ?_
    exact fin_res (vs := [.int .i64 (Mn.atL f.Level X.Of)]) rfl rfl ⟨.tmp rfl, trivial⟩ rfl (fun w' hw => ⟨rfl, hw.below rfl⟩)
  have k1 := odF k
  rw [if_neg k1]
  clear k
  repeat refine gs1 ?_
  refine AW.cond rfl (fun k => ?_) fun k => ?_
  · rw [if_pos (odT k)]
    repeat refine gs1 ?_
    refine RW.g (b := decide (X.Of < 0)) (v := .int .i64 ((f.Owned.length : Nat) : Int)) rfl rfl rfl (fun h => q_len_sl (gv_pos h) s3 Tryz.underlying36) ?_
    repeat refine gs1 ?_
    refine RW.q (v := .bool (decide (X.Of < 0) || decide ((f.Owned.length : Int) ≤ X.Of))) rfl (qpO rfl rfl rfl) ?_
    repeat refine gs1 ?_
    refine AW.cond rfl (fun c => ?_) fun c => ?_
    · have c : X.Of < 0 ∨ (f.Owned.length : Int) ≤ X.Of := by simpa using c
      rw [if_pos c]
      repeat refine gs1 ?_
      exact fin_res (vs := [.int .i64 0]) rfl rfl ⟨.tmp rfl, trivial⟩ rfl (fun w' hw => ⟨rfl, hw.below rfl⟩)
    have c : ¬ (X.Of < 0 ∨ (f.Owned.length : Int) ≤ X.Of) := by simp only [Bool.or_eq_false_iff, decide_eq_false_iff_not] at c; omega
    rw [if_neg c]
    obtain ⟨m, hm⟩ : ∃ m : Nat, X.Of = m := ⟨X.Of.toNat, by omega⟩
    have hml : m < f.Owned.length := by omega
    obtain ⟨vs, hvl, hvc, hvr, _⟩ := hy.own.vals
    have hum := hvr m hml
    obtain ⟨oA, oc, hoe, _⟩ := hum.sl
    have hue := hvc m _ (List.getElem?_eq_getElem (by omega : m < vs.length))
    have hoe2 : vs[m]'(by omega) = .slice oA (f.Owned.getD m []).length oc := by
      rw [← hoe, gDD, List.getElem?_eq_getElem (by omega : m < vs.length)]; rfl
    rw [hoe2] at hue
    rw [hoe] at hum
    have pe : PCell Φ (Value.at yf.own (m * 1)) (.slice oA (f.Owned.getD m []).length oc) := by rw [Nat.mul_one]; exact hue
    rw [hm, Int.toNat_natCast]
    repeat refine gs1 ?_
    refine AW.drawZ (J0 := St ⟨w, Φ, []⟩ Φ [.blk b5 77 (dtC (d1, d2, d3, d4)), .blk b3 69 (exC X (.slice vA kn vc)), .blk b2 38 (fcC yf f.Hour)]) [.q, .q, .q, .q, .q, .q, .q, .q, .q, .q] [0, 1, 2, 3, 4, 5, 6, 7, 8, 9] hmix (by kernel_rfl) ?_
    repeat refine gs1 ?_
    refine DW.q (v := .pointer (some (Value.at yf.own (m * 1)))) (fun _ h => h) rfl (qa_ixN (n := f.Owned.length) (i := m) rfl (by show Value.int .i64 X.Of = _; rw [hm]) s3 hml) ?_
    repeat refine gs1 ?_
    refine DW.q (v := .int .i64 (Mn.atL (f.Owned.getD m []) X.Of2)) (fun _ h => h) rfl (q_call (args := #[.slice oA (f.Owned.getD m []).length oc, .int .i64 X.Of2, .int .i64 0]) oK rfl rfl (fun w1 hw1 => fAt_c w1 hw1.phi hum)) ?_
    repeat refine gs1 ?_
    exact fin_res (vs := [.int .i64 (Mn.atL (f.Owned.getD m []) X.Of2)]) rfl rfl ⟨.tmp rfl, trivial⟩ rfl (fun w' hw => ⟨rfl, hw.below rfl⟩)
  have k2 := odF k
  rw [if_neg k2]
  clear k
  repeat refine gs1 ?_
  refine AW.cond rfl (fun k => ?_) fun k => ?_
  · rw [if_pos (odT k)]
    repeat refine gs1 ?_
    refine RW.q (v := .int .i64 (Mn.atL f.Pos X.Of)) rfl (q_call (args := #[yf.pos, .int .i64 X.Of, .int .i64 0]) oK rfl rfl (fun w1 hw1 => fAt_c w1 hw1.phi hy.pos)) ?_
    repeat refine gs1 ?_
    exact fin_res (vs := [.int .i64 (Mn.atL f.Pos X.Of)]) rfl rfl ⟨.tmp rfl, trivial⟩ rfl (fun w' hw => ⟨rfl, hw.below rfl⟩)
  have k3 := odF k
  rw [if_neg k3]
  clear k
  repeat refine gs1 ?_
  refine AW.cond rfl (fun k => ?_) fun k => ?_
  · rw [if_pos (odT k)]
    repeat refine gs1 ?_
    exact fin_res (vs := [.int .i64 d4]) rfl rfl ⟨.tmp rfl, trivial⟩ rfl (fun w' hw => ⟨rfl, hw.below rfl⟩)
  have k4 := odF k
  rw [if_neg k4]
  clear k
  repeat refine gs1 ?_
  refine AW.cond rfl (fun k => ?_) fun k => ?_
  · rw [if_pos (odT k)]
    repeat refine gs1 ?_
    exact fin_res (vs := [.int .i64 d3]) rfl rfl ⟨.tmp rfl, trivial⟩ rfl (fun w' hw => ⟨rfl, hw.below rfl⟩)
  have k5 := odF k
  rw [if_neg k5]
  clear k
  repeat refine gs1 ?_
  refine AW.cond rfl (fun k => ?_) fun k => ?_
  · rw [if_pos (odT k)]
    repeat refine gs1 ?_
    exact fin_res (vs := [.int .i64 d2]) rfl rfl ⟨.tmp rfl, trivial⟩ rfl (fun w' hw => ⟨rfl, hw.below rfl⟩)
  have k6 := odF k
  rw [if_neg k6]
  clear k
  rw [if_pos (show X.N = 7 by omega)]
  repeat refine gs1 ?_
  refine RW.q (v := .int .i64 (if X.Of < 0 ∨ (f.Crest.length : Int) ≤ X.Of then -1 else f.Crest.getD X.Of.toNat 0)) rfl (q_call (args := #[yf.cre, .int .i64 X.Of, .int .i64 (-1)]) oK rfl rfl (fun w1 hw1 => fAt_c w1 hw1.phi hy.cre)) ?_
  repeat refine gs1 ?_
  exact fin_res (vs := [.int .i64 (if X.Of < 0 ∨ (f.Crest.length : Int) ≤ X.Of then -1 else f.Crest.getD X.Of.toNat 0)]) rfl rfl ⟨.tmp rfl, trivial⟩ rfl (fun w' hw => ⟨rfl, hw.below rfl⟩)
end Go.Proofs.YtnfmjfheciihjaaGreatDoor
