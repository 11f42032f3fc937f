/- Plain facts of the layer: the value of a curve, the least volume of a level. Conditions: those of each theorem. -/
import Derived.Test.YtblfeidlnhdekaaXPlain
namespace Fu
section
variable {c : List Bt.Point}
theorem RightC.pt (h : RightC c) {i : Nat} (hi : i < c.length) : PtOk c i := h.2 i hi
theorem px_lt (h : RightC c) : ∀ {j i : Nat}, i < j → j < c.length → px c i < px c j
  | 0, _, hij, _ => absurd hij (Nat.not_lt_zero _)
  | j + 1, i, hij, hj => by
    have h1 := ((h.pt hj).2.2 (Nat.succ_pos j)).1
    rw [Nat.add_sub_cancel] at h1
    rcases Nat.lt_or_eq_of_le (Nat.lt_succ_iff.1 hij) with h2 | h2
    · have := px_lt h h2 (Nat.lt_of_succ_lt hj); omega
    · subst h2; exact h1
theorem py_le (h : RightC c) : ∀ {j i : Nat}, i ≤ j → j < c.length → py c i ≤ py c j
  | 0, i, hij, _ => by obtain rfl : i = 0 := by omega
                       exact Int.le_refl _
  | j + 1, i, hij, hj => by
    have h1 := ((h.pt hj).2.2 (Nat.succ_pos j)).2
    rw [Nat.add_sub_cancel] at h1
    rcases Nat.lt_or_eq_of_le hij with h2 | h2
    · have := py_le h (Nat.lt_succ_iff.1 h2) (Nat.lt_of_succ_lt hj); omega
    · subst h2; exact Int.le_refl _
theorem px_le (h : RightC c) {i j : Nat} (hij : i ≤ j) (hj : j < c.length) : px c i ≤ px c j := by
  rcases Nat.lt_or_eq_of_le hij with h2 | h2
  · exact Int.le_of_lt (px_lt h h2 hj)
  · subst h2; exact Int.le_refl _
theorem getD_at {i : Nat} (hi : i < c.length) : c.getD i default = c[i] := by simp [List.getD_eq_getElem?_getD, hi]
theorem posX_le (x : Int) : posX c x ≤ c.length := List.findIdx_le_length
theorem posX_lo {x : Int} {j : Nat} (hj : j < posX c x) : px c j < x := by
  have h1 : j < c.length := Nat.lt_of_lt_of_le hj (posX_le x)
  have := List.not_of_lt_findIdx hj
  unfold px; rw [getD_at h1]; simpa using this
theorem posX_hi {x : Int} (h : posX c x < c.length) : x ≤ px c (posX c x) := by
  have := List.findIdx_getElem (w := h)
  unfold px; rw [getD_at h]; exact of_decide_eq_true this
theorem posY_le (y : Int) : posY c y ≤ c.length := List.findIdx_le_length
theorem posY_lo {y : Int} {j : Nat} (hj : j < posY c y) : py c j < y := by
  have h1 : j < c.length := Nat.lt_of_lt_of_le hj (posY_le y)
  have := List.not_of_lt_findIdx hj
  unfold py; rw [getD_at h1]; simpa using this
theorem posY_hi {y : Int} (h : posY c y < c.length) : y ≤ py c (posY c y) := by
  have := List.findIdx_getElem (w := h)
  unfold py; rw [getD_at h]; exact of_decide_eq_true this
theorem posY_iff (h : RightC c) {y : Int} {i : Nat} (hi : i < c.length) : posY c y ≤ i ↔ y ≤ py c i := by
  constructor
  · intro h1
    have := posY_hi (c := c) (y := y) (by omega)
    have := py_le h h1 hi
    omega
  · intro h1
    rcases Nat.lt_or_ge i (posY c y) with h2 | h2
    · have := posY_lo h2; omega
    · exact h2
theorem posX_iff (h : RightC c) {x : Int} {i : Nat} (hi : i < c.length) : posX c x ≤ i ↔ x ≤ px c i := by
  constructor
  · intro h1
    have := posX_hi (c := c) (x := x) (by omega)
    have := px_le h h1 hi
    omega
  · intro h1
    rcases Nat.lt_or_ge i (posX c x) with h2 | h2
    · have := posX_lo h2; omega
    · exact h2
/-- what stands on a segment -/
structure Seg (c : List Bt.Point) (i : Nat) (W D : Int) : Prop where
  pos : 0 < i
  lt : i < c.length
  w : W = px c i - px c (i - 1)
  d : D = py c i - py c (i - 1)
  w0 : 0 < W
  d0 : 0 ≤ D
  wM : W ≤ 1125899906842624
  dM : D ≤ 1125899906842624
theorem seg_of (h : RightC c) {i : Nat} (h0 : 0 < i) (hi : i < c.length) : Seg c i (px c i - px c (i - 1)) (py c i - py c (i - 1)) := by
  have h1 := h.pt hi; have h2 := h.pt (show i - 1 < c.length by omega)
  have h3 := h1.2.2 h0
  exact ⟨h0, hi, rfl, rfl, by omega, by omega, by have := h1.1; have := h2.1; omega, by have := h1.2.1; have := h2.2.1; omega⟩
theorem mul_div_rng {k W D : Int} (h0 : 0 ≤ k) (h1 : k ≤ W) (hW : 0 < W) (hD : 0 ≤ D) : 0 ≤ k * D / W ∧ k * D / W ≤ D := by
  refine ⟨Int.ediv_nonneg (Int.mul_nonneg h0 hD) (by omega), ?_⟩
  refine Int.ediv_le_of_le_mul hW ?_
  rw [Int.mul_comm D W]
  exact Int.mul_le_mul_of_nonneg_right h1 hD
theorem atSeg_rng (h : RightC c) {i : Nat} (h0 : 0 < i) (hi : i < c.length) {x : Int} (hx : px c (i - 1) ≤ x) (hx2 : x ≤ px c i) : py c (i - 1) ≤ atSeg c i x ∧ atSeg c i x ≤ py c i := by
  have s := seg_of h h0 hi
  have := mul_div_rng (k := x - px c (i - 1)) (W := px c i - px c (i - 1)) (D := py c i - py c (i - 1)) (by omega) (by omega) s.w0 s.d0
  unfold atSeg; omega
theorem at_le (h : RightC c) {v : Int} {j : Nat} (hj : j < c.length) (hv : v ≤ px c j) : atC c v ≤ py c j := by
  have h1 := (posX_iff h hj).2 hv
  unfold atC valC
  rw [if_pos h]
  by_cases h0 : posX c v = 0
  · rw [if_pos h0]; exact py_le h (Nat.zero_le _) hj
  · rw [if_neg h0, if_pos (by omega)]
    have h2 := posX_hi (c := c) (x := v) (by omega)
    have h3 := posX_lo (c := c) (x := v) (j := posX c v - 1) (by omega)
    have := (atSeg_rng h (by omega) (by omega) (Int.le_of_lt h3) h2).2
    have := py_le h h1 hj
    omega
theorem at_ge (h : RightC c) {v : Int} {j : Nat} (hj : j < c.length) (hv : px c j ≤ v) : py c j ≤ atC c v := by
  unfold atC valC
  rw [if_pos h]
  by_cases h0 : posX c v = 0
  · rw [if_pos h0]
    have h2 := posX_hi (c := c) (x := v) (by omega)
    rw [h0] at h2
    rcases Nat.eq_zero_or_pos j with h3 | h3
    · subst h3; exact Int.le_refl _
    · have := px_lt h h3 hj; omega
  · rw [if_neg h0]
    by_cases h1 : posX c v < c.length
    · rw [if_pos h1]
      have h2 := posX_hi (c := c) (x := v) h1
      have h3 := posX_lo (c := c) (x := v) (j := posX c v - 1) (by omega)
      rcases Nat.lt_or_ge j (posX c v) with h4 | h4
      · have := (atSeg_rng h (by omega) h1 (Int.le_of_lt h3) h2).1
        have := py_le h (show j ≤ posX c v - 1 by omega) (by omega)
        omega
      · rcases Nat.lt_or_eq_of_le h4 with h5 | h5
        · have := px_lt h h5 hj; omega
        · rw [← h5] at hv
          have he : v = px c (posX c v) := by omega
          have s := seg_of h (show 0 < posX c v by omega) h1
          unfold atSeg
          rw [← h5]
          have w0 := s.w0
          generalize posX c v = q at *
          have e1 : v - px c (q - 1) = px c q - px c (q - 1) := by omega
          rw [e1, Int.mul_ediv_cancel_left _ (by omega)]
          omega
    · rw [if_neg h1]
      exact py_le h (by omega) (by omega)
/-- rounded up -/
def up (n d : Int) : Int := n / d + (if n % d > 0 then 1 else 0)
theorem up_le_iff {n d k : Int} (hd : 0 < d) : up n d ≤ k ↔ n ≤ k * d := by
  have h1 := Int.mul_ediv_add_emod n d
  have h2 := Int.emod_nonneg n (show d ≠ 0 by omega)
  have h3 := Int.emod_lt_of_pos n hd
  unfold up
  constructor
  · intro h
    by_cases h4 : n % d > 0
    · rw [if_pos h4] at h
      have := Int.mul_le_mul_of_nonneg_right (show n / d + 1 ≤ k from h) (Int.le_of_lt hd)
      rw [Int.add_mul, Int.one_mul, Int.mul_comm (n / d) d] at this
      omega
    · rw [if_neg h4] at h
      have := Int.mul_le_mul_of_nonneg_right (show n / d ≤ k by omega) (Int.le_of_lt hd)
      rw [Int.mul_comm (n / d) d] at this
      omega
  · intro h
    have h5 : n / d ≤ k := Int.ediv_le_of_le_mul hd h
    by_cases h4 : n % d > 0
    · rw [if_pos h4]
      rcases Int.lt_or_eq_of_le h5 with h6 | h6
      · omega
      · exfalso
        have : k * d = d * (n / d) := by rw [← h6, Int.mul_comm]
        omega
    · rw [if_neg h4]; omega
theorem leastC_eq (h : RightC c) {y : Int} (hy : y ≤ py c (c.length - 1)) : leastC c y = if posY c y = 0 then some 0 else some (px c (posY c y - 1) + up ((y - py c (posY c y - 1)) * (px c (posY c y) - px c (posY c y - 1))) (py c (posY c y) - py c (posY c y - 1))) := by
  unfold leastC up
  rw [if_pos ⟨h, hy⟩]
theorem posY_lt (h : RightC c) {y : Int} (hy : y ≤ py c (c.length - 1)) : posY c y < c.length := by
  have := h.1.1
  have := (posY_iff h (show c.length - 1 < c.length by omega)).2 hy
  omega
theorem least_step (h : RightC c) {y : Int} (hy : y ≤ py c (c.length - 1)) (h0 : posY c y ≠ 0) :
    (0 ≤ y - py c (posY c y - 1) ∧ y - py c (posY c y - 1) ≤ 1125899906842624) ∧ (0 ≤ px c (posY c y) - px c (posY c y - 1) ∧ px c (posY c y) - px c (posY c y - 1) ≤ 1125899906842624) ∧ (1 ≤ py c (posY c y) - py c (posY c y - 1) ∧ py c (posY c y) - py c (posY c y - 1) ≤ 1125899906842624) ∧
    0 ≤ (y - py c (posY c y - 1)) * (px c (posY c y) - px c (posY c y - 1)) / (py c (posY c y) - py c (posY c y - 1)) ∧
    (y - py c (posY c y - 1)) * (px c (posY c y) - px c (posY c y - 1)) / (py c (posY c y) - py c (posY c y - 1)) ≤ px c (posY c y) - px c (posY c y - 1) ∧
    up ((y - py c (posY c y - 1)) * (px c (posY c y) - px c (posY c y - 1))) (py c (posY c y) - py c (posY c y - 1)) ≤ px c (posY c y) - px c (posY c y - 1) ∧
    0 < up ((y - py c (posY c y - 1)) * (px c (posY c y) - px c (posY c y - 1))) (py c (posY c y) - py c (posY c y - 1)) := by
  have hl := posY_lt h hy
  have s := seg_of h (show 0 < posY c y by omega) hl
  have h1 := posY_hi (c := c) (y := y) hl
  have h2 := posY_lo (c := c) (y := y) (j := posY c y - 1) (by omega)
  generalize hW : px c (posY c y) - px c (posY c y - 1) = W at *
  generalize hD : py c (posY c y) - py c (posY c y - 1) = D at *
  generalize hk : y - py c (posY c y - 1) = k at *
  have w0 := s.w0; have wM := s.wM; have dM := s.dM
  have hk1 : k ≤ D := by omega
  have hm := mul_div_rng (k := k) (W := D) (D := W) (by omega) hk1 (by omega) (by omega)
  have hkw : k * W ≤ W * D := by rw [Int.mul_comm W D]; exact Int.mul_le_mul_of_nonneg_right hk1 (by omega)
  refine ⟨by omega, by omega, by omega, hm.1, hm.2, (up_le_iff (by omega)).2 hkw, ?_⟩
  have hn : ¬ up (k * W) D ≤ 0 := fun hh => by
    have h9 := (up_le_iff (show 0 < D by omega)).1 hh
    have h8 := Int.mul_pos (show 0 < k by omega) w0
    omega
  omega
/-- a volume has the level y exactly from the least one on -/
theorem at_iff (h : RightC c) {y v : Int} (hv : 0 ≤ v) (hy : y ≤ py c (c.length - 1)) : ∃ x, leastC c y = some x ∧ 0 ≤ x ∧ x ≤ 1125899906842624 ∧ (y ≤ atC c v ↔ x ≤ v) := by
  rw [leastC_eq h hy]
  by_cases h0 : posY c y = 0
  · rw [if_pos h0]
    refine ⟨0, rfl, by omega, by omega, fun _ => hv, fun _ => ?_⟩
    have hl := posY_lt h hy
    have h1 := posY_hi (c := c) (y := y) hl
    rw [h0] at h1 hl
    by_cases h2 : px c 0 ≤ v
    · have := at_ge h hl h2; omega
    · have h3 : posX c v = 0 := by have := (posX_iff h hl).2 (show v ≤ px c 0 by omega); omega
      unfold atC valC
      rw [if_pos h, if_pos h3]; exact h1
  · rw [if_neg h0]
    have hl := posY_lt h hy
    obtain ⟨k0, w0, d0, m0, m1, u1, u0⟩ := least_step h hy h0
    have h1 := posY_hi (c := c) (y := y) hl
    have h2 := posY_lo (c := c) (y := y) (j := posY c y - 1) (by omega)
    have hpm := (h.pt hl).1; have hpn := (h.pt (show posY c y - 1 < c.length by omega)).1
    refine ⟨_, rfl, by omega, by omega, ?_⟩
    rcases Int.lt_or_le (px c (posY c y)) v with h3 | h3
    · have := at_ge h hl (Int.le_of_lt h3)
      constructor <;> intro _ <;> omega
    · rcases Int.lt_or_le (px c (posY c y - 1)) v with h4 | h4
      · have hp : posX c v = posY c y := posX_is (Nat.le_of_lt hl) (fun _ => h3) (fun j hj => by
          have := px_le h (show j ≤ posY c y - 1 by omega) (show posY c y - 1 < c.length by omega); omega)
        unfold atC valC
        rw [if_pos h, hp, if_neg h0, if_pos hl]
        unfold atSeg
        have hW : 0 < px c (posY c y) - px c (posY c y - 1) := by omega
        generalize px c (posY c y) - px c (posY c y - 1) = W at *
        generalize py c (posY c y) - py c (posY c y - 1) = D at *
        have e1 : (y ≤ py c (posY c y - 1) + (v - px c (posY c y - 1)) * D / W) ↔ (y - py c (posY c y - 1)) * W ≤ (v - px c (posY c y - 1)) * D := by
          rw [← Int.le_ediv_iff_mul_le hW]; omega
        rw [e1, ← up_le_iff (show 0 < D by omega)]
        omega
      · have := at_le h (show posY c y - 1 < c.length by omega) h4
        constructor <;> intro _ <;> omega
theorem at_top (h : RightC c) (v : Int) : atC c v ≤ py c (c.length - 1) := by
  have h1 := h.1.1
  rcases Int.lt_or_le (px c (c.length - 1)) v with h3 | h3
  · unfold atC valC
    have h4 : posX c v = c.length := posX_is (Nat.le_refl _) (fun hh => absurd hh (Nat.lt_irrefl _)) (fun j hj => by
      have := px_le h (show j ≤ c.length - 1 by omega) (by omega); omega)
    rw [if_pos h, h4, if_neg (by omega), if_neg (by omega)]
    exact Int.le_refl _
  · exact at_le h (by omega) h3
theorem at_rng (h : RightC c) (v : Int) : 0 ≤ atC c v ∧ atC c v ≤ 1125899906842624 := by
  have h1 := h.1.1
  have h2 := at_top h v
  have h3 := (h.pt (show c.length - 1 < c.length by omega)).2.1
  have h4 := (h.pt (show 0 < c.length by omega)).2.1
  refine ⟨?_, by omega⟩
  rcases Int.lt_or_le v (px c 0) with h5 | h5
  · have h6 : posX c v = 0 := by have := (posX_iff h (show 0 < c.length by omega)).2 (Int.le_of_lt h5); omega
    unfold atC valC
    rw [if_pos h, if_pos h6]; omega
  · have := at_ge h (show 0 < c.length by omega) h5; omega
/-- the first volume above a level -/
def firstC (c : List Bt.Point) (y : Int) : Int := match leastC c (y + 1) with | some x => x | none => 1125899906842625
theorem leastC_none (h : RightC c) {y : Int} : leastC c y = none ↔ py c (c.length - 1) < y := by
  constructor
  · intro hn
    rcases Int.lt_or_le (py c (c.length - 1)) y with h1 | h1
    · exact h1
    · obtain ⟨x, hx, _⟩ := at_iff h (v := 0) (by omega) h1
      rw [hx] at hn; cases hn
  · intro hy
    unfold leastC
    rw [if_neg (fun hh => by have := hh.2; omega)]
theorem first_iff (h : RightC c) {y v : Int} (hv : 0 ≤ v) (hv2 : v ≤ 1125899906842624) : y < atC c v ↔ firstC c y ≤ v := by
  unfold firstC
  rcases Int.lt_or_le (py c (c.length - 1)) (y + 1) with h1 | h1
  · rw [(leastC_none h).2 h1]
    have := at_top h v
    constructor <;> intro hh
    · omega
    · simp only at hh; omega
  · obtain ⟨x, hx, h0, hM, hi⟩ := at_iff h hv h1
    rw [hx]
    exact ⟨fun hh => hi.1 (by omega), fun hh => by have := hi.2 hh; omega⟩
theorem first_rng (h : RightC c) (y : Int) : 0 ≤ firstC c y ∧ firstC c y ≤ 1125899906842625 := by
  unfold firstC
  rcases Int.lt_or_le (py c (c.length - 1)) (y + 1) with h1 | h1
  · rw [(leastC_none h).2 h1]; constructor <;> simp
  · obtain ⟨x, hx, h0, hM, _⟩ := at_iff h (v := 0) (by omega) h1
    rw [hx]; exact ⟨h0, by simp only; omega⟩
/-- the volumes of a reading, by halving -/
def volH (c : List Bt.Point) (lo hi : Int) : Option Bt.Span :=
  if RightC c ∧ lo ≤ hi then
    (let low := if 0 < lo then firstC c (lo - 1) else 0
     let high := firstC c hi - 1
     if low ≤ high then some ⟨low, high⟩ else none)
  else none
theorem least_right {y x : Int} (hx : leastC c y = some x) : RightC c ∧ y ≤ py c (c.length - 1) := by
  unfold leastC at hx
  split at hx
  · assumption
  · cases hx
theorem vol_same (lo hi : Int) (hh : hi ≤ 9223372036854775807) (hm : -9223372036854775808 ≤ hi) : volH c lo hi = volL c lo hi := by
  unfold volH volL
  by_cases hR' : ¬ RightC c
  · rw [if_neg (fun h => hR' h.1)]
    have : leastC c lo = none := by unfold leastC; rw [if_neg (fun h => hR' h.1)]
    rw [this]
  have hR := Classical.not_not.1 hR'
  have h1 := hR.1.1
  have hlast := (hR.pt (show c.length - 1 < c.length by omega)).2.1
  have hsat : leastC c (addS hi 1) = leastC c (hi + 1) := by
    unfold addS
    by_cases h2 : 9223372036854775807 < hi + 1
    · rw [if_pos h2, (leastC_none hR).2 (by omega), (leastC_none hR).2 (by omega)]
    · rw [if_neg h2, if_neg (by omega)]
  have hhigh : hiC (leastC c (addS hi 1)) = firstC c hi - 1 := by
    rw [hsat]; unfold firstC hiC
    cases leastC c (hi + 1) <;> simp
  rw [hhigh]
  have hf := first_rng hR hi
  rcases Int.lt_or_le (py c (c.length - 1)) lo with h3 | h3
  · rw [(leastC_none hR).2 h3]
    by_cases h4 : lo ≤ hi
    · rw [if_pos ⟨hR, h4⟩, if_pos (show 0 < lo by omega)]
      have : firstC c (lo - 1) = 1125899906842625 := by
        unfold firstC; rw [show lo - 1 + 1 = lo by omega, (leastC_none hR).2 h3]
      rw [this]
      simp only
      rw [if_neg (by omega)]
    · rw [if_neg (fun h => h4 h.2)]
  · obtain ⟨x, hx, h0, hM, _⟩ := at_iff hR (v := 0) (by omega) h3
    rw [hx]
    have hlow : (if 0 < lo then firstC c (lo - 1) else 0) = x := by
      by_cases h5 : 0 < lo
      · rw [if_pos h5]; unfold firstC; rw [show lo - 1 + 1 = lo by omega, hx]
      · rw [if_neg h5]
        rw [leastC_eq hR h3] at hx
        have h6 : posY c lo = 0 := by
          have := (posY_iff hR (show 0 < c.length by omega) (y := lo)).2 (by have := (hR.pt (show 0 < c.length by omega)).2.1; omega)
          omega
        rw [if_pos h6] at hx
        exact Option.some.inj hx
    simp only [hlow]
    have hmeet : meet x (firstC c hi - 1) 0 1125899906842624 = if x ≤ firstC c hi - 1 then some ⟨x, firstC c hi - 1⟩ else none := by
      unfold meet
      rw [show max x 0 = x by omega, show min (firstC c hi - 1) 1125899906842624 = firstC c hi - 1 by omega]
    rw [hmeet]
    by_cases h4 : lo ≤ hi
    · rw [if_pos ⟨hR, h4⟩]
    · rw [if_neg (fun h => h4 h.2), if_neg (fun h7 => ?_)]
      obtain ⟨x', hx', _, _, hi'⟩ := at_iff hR (v := x) h0 h3
      rw [hx] at hx'
      obtain rfl := Option.some.inj hx'
      have h8 := hi'.2 (Int.le_refl _)
      have h9 := (first_iff hR (y := hi) h0 hM).1 (by omega)
      omega
theorem least_rng (c : List Bt.Point) (y : Int) : 0 ≤ intOf (leastC c y) ∧ intOf (leastC c y) ≤ 1125899906842624 := by
  cases hx : leastC c y with
  | none => simp [intOf]
  | some x =>
    obtain ⟨hR, hy⟩ := least_right hx
    obtain ⟨x', hx', h0, h1, _⟩ := at_iff hR (v := 0) (by omega) hy
    rw [hx] at hx'
    obtain rfl := Option.some.inj hx'
    exact ⟨h0, h1⟩
theorem addS_rng (x y : Int) : -9223372036854775808 ≤ addS x y ∧ addS x y ≤ 9223372036854775807 := by
  unfold addS; split
  · omega
  · split <;> omega
theorem volL_none {lo hi : Int} (h : (leastC c lo).isSome = false) : volL c lo hi = none := by
  unfold volL
  cases hx : leastC c lo with
  | none => rfl
  | some x => rw [hx] at h; cases h
theorem volL_bad {lo hi : Int} (h : ¬ RightC c) : volL c lo hi = none := volL_none (by unfold leastC; rw [if_neg (fun hh => h hh.1)]; rfl)
theorem volL_top {lo hi : Int} (h : (leastC c lo).isSome = true) (h2 : (leastC c (addS hi 1)).isSome = false) : volL c lo hi = meet (intOf (leastC c lo)) 1125899906842624 0 1125899906842624 := by
  unfold volL
  cases hx : leastC c lo with
  | none => rw [hx] at h; cases h
  | some x =>
    cases hy : leastC c (addS hi 1) with
    | none => rfl
    | some y => rw [hy] at h2; cases h2
theorem volL_mid {lo hi : Int} (h : (leastC c lo).isSome = true) (h2 : (leastC c (addS hi 1)).isSome = true) : volL c lo hi = meet (intOf (leastC c lo)) (intOf (leastC c (addS hi 1)) - 1) 0 1125899906842624 := by
  unfold volL
  cases hx : leastC c lo with
  | none => rw [hx] at h; cases h
  | some x =>
    cases hy : leastC c (addS hi 1) with
    | none => rw [hy] at h2; cases h2
    | some y => rfl
theorem volR_no {b : Bt.Basin} {r : Bt.Reading} (h : ¬ VolOk b r) : volR b r = none := by unfold volR; rw [if_neg h]
theorem volR_yes {b : Bt.Basin} {r : Bt.Reading} (h : VolOk b r) : volR b r = volL (levelOf b r) r.Value.Lo r.Value.Hi := by unfold volR; rw [if_pos h]
theorem volH_no {lo hi : Int} (h : ¬ (RightC c ∧ lo ≤ hi)) : volH c lo hi = none := by unfold volH; rw [if_neg h]
theorem volH_yes {lo hi low high : Int} (h : RightC c ∧ lo ≤ hi) (hl : low = if 0 < lo then firstC c (lo - 1) else 0) (hh : high = firstC c hi - 1) : volH c lo hi = if low ≤ high then some ⟨low, high⟩ else none := by
  unfold volH; rw [if_pos h, hl, hh]
end
end Fu
