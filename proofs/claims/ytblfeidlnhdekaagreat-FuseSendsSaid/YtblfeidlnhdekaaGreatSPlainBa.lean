/- Lemmas. Conditions: those of each theorem. -/
import Derived.Test.YtblfeidlnhdekaaGreatSWalkA
import Derived.Test.YtblfeidlnhdekaaGreatSBits
set_option maxRecDepth 8000
set_option maxHeartbeats 16000000
namespace Fu
section
variable {c : List Bt.Point}
theorem RightC.pt (h : RightC c) {i : Nat} (hi : i < c.length) : PtOk c i := h.2 i hi
theorem px_lt (h : RightC c) : ∀ {j i : Nat}, i < j → j < c.length → px c i < px c j
  | 0, _, hij, _ => absurd hij (Nat.not_lt_zero _)
  | j + 1, i, hij, hj => by
    have h1 := ((h.pt hj).2.2 (Nat.succ_pos j)).1
    rw [Nat.add_sub_cancel] at h1
    rcases Nat.lt_or_eq_of_le (Nat.lt_succ_iff.1 hij) with h2 | h2
    · have := px_lt h h2 (Nat.lt_of_succ_lt hj); omega
    · subst h2; exact h1
theorem py_le (h : RightC c) : ∀ {j i : Nat}, i ≤ j → j < c.length → py c i ≤ py c j
  | 0, i, hij, _ => by obtain rfl : i = 0 := by omega
                       exact Int.le_refl _
  | j + 1, i, hij, hj => by
    have h1 := ((h.pt hj).2.2 (Nat.succ_pos j)).2
    rw [Nat.add_sub_cancel] at h1
    rcases Nat.lt_or_eq_of_le hij with h2 | h2
    · have := py_le h (Nat.lt_succ_iff.1 h2) (Nat.lt_of_succ_lt hj); omega
    · subst h2; exact Int.le_refl _
theorem px_le (h : RightC c) {i j : Nat} (hij : i ≤ j) (hj : j < c.length) : px c i ≤ px c j := by
  rcases Nat.lt_or_eq_of_le hij with h2 | h2
  · exact Int.le_of_lt (px_lt h h2 hj)
  · subst h2; exact Int.le_refl _
theorem getD_at {i : Nat} (hi : i < c.length) : c.getD i default = c[i] := by simp [hi]
theorem posX_le (x : Int) : posX c x ≤ c.length := List.findIdx_le_length
theorem posX_lo {x : Int} {j : Nat} (hj : j < posX c x) : px c j < x := by
  have h1 : j < c.length := Nat.lt_of_lt_of_le hj (posX_le x)
  have := List.not_of_lt_findIdx hj
  unfold px; rw [getD_at h1]; simpa using this
theorem posX_hi {x : Int} (h : posX c x < c.length) : x ≤ px c (posX c x) := by
  have := List.findIdx_getElem (w := h)
  unfold px; rw [getD_at h]; exact odT this
theorem posY_le (y : Int) : posY c y ≤ c.length := List.findIdx_le_length
theorem posY_lo {y : Int} {j : Nat} (hj : j < posY c y) : py c j < y := by
  have h1 : j < c.length := Nat.lt_of_lt_of_le hj (posY_le y)
  have := List.not_of_lt_findIdx hj
  unfold py; rw [getD_at h1]; simpa using this
theorem posY_hi {y : Int} (h : posY c y < c.length) : y ≤ py c (posY c y) := by
  have := List.findIdx_getElem (w := h)
  unfold py; rw [getD_at h]; exact odT this
theorem posY_iff (h : RightC c) {y : Int} {i : Nat} (hi : i < c.length) : posY c y ≤ i ↔ y ≤ py c i := by
  constructor
  · intro h1
    have := posY_hi (c := c) (y := y) (by omega)
    have := py_le h h1 hi
    omega
  · intro h1
    rcases Nat.lt_or_ge i (posY c y) with h2 | h2
    · have := posY_lo h2; omega
    · exact h2
theorem posX_iff (h : RightC c) {x : Int} {i : Nat} (hi : i < c.length) : posX c x ≤ i ↔ x ≤ px c i := by
  constructor
  · intro h1
    have := posX_hi (c := c) (x := x) (by omega)
    have := px_le h h1 hi
    omega
  · intro h1
    rcases Nat.lt_or_ge i (posX c x) with h2 | h2
    · have := posX_lo h2; omega
    · exact h2
structure Seg (c : List Bt.Point) (i : Nat) (W D : Int) : Prop where
  pos : 0 < i
  lt : i < c.length
  w : W = px c i - px c (i - 1)
  d : D = py c i - py c (i - 1)
  w0 : 0 < W
  d0 : 0 ≤ D
  wM : W ≤ 1125899906842624
  dM : D ≤ 1125899906842624
theorem seg_of (h : RightC c) {i : Nat} (h0 : 0 < i) (hi : i < c.length) : Seg c i (px c i - px c (i - 1)) (py c i - py c (i - 1)) := by
  have h1 := h.pt hi; have h2 := h.pt (show i - 1 < c.length by omega)
  have h3 := h1.2.2 h0
  exact ⟨h0, hi, rfl, rfl, by omega, by omega, by have := h1.1; have := h2.1; omega, by have := h1.2.1; have := h2.2.1; omega⟩
theorem mul_div_rng {k W D : Int} (h0 : 0 ≤ k) (h1 : k ≤ W) (hW : 0 < W) (hD : 0 ≤ D) : 0 ≤ k * D / W ∧ k * D / W ≤ D := by
  refine ⟨Int.ediv_nonneg (Int.mul_nonneg h0 hD) (by omega), ?_⟩
  refine Int.ediv_le_of_le_mul hW ?_
  rw [Int.mul_comm D W]
  exact Int.mul_le_mul_of_nonneg_right h1 hD
theorem atSeg_rng (h : RightC c) {i : Nat} (h0 : 0 < i) (hi : i < c.length) {x : Int} (hx : px c (i - 1) ≤ x) (hx2 : x ≤ px c i) : py c (i - 1) ≤ atSeg c i x ∧ atSeg c i x ≤ py c i := by
  have s := seg_of h h0 hi
  have := mul_div_rng (k := x - px c (i - 1)) (W := px c i - px c (i - 1)) (D := py c i - py c (i - 1)) (by omega) (by omega) s.w0 s.d0
  unfold atSeg; omega
theorem at_le (h : RightC c) {v : Int} {j : Nat} (hj : j < c.length) (hv : v ≤ px c j) : atC c v ≤ py c j := by
  have h1 := (posX_iff h hj).2 hv
  unfold atC valC
  rw [if_pos h]
  by_cases h0 : posX c v = 0
  · rw [if_pos h0]; exact py_le h (Nat.zero_le _) hj
  · rw [if_neg h0, if_pos (by omega)]
    have h2 := posX_hi (c := c) (x := v) (by omega)
    have h3 := posX_lo (c := c) (x := v) (j := posX c v - 1) (by omega)
    have := (atSeg_rng h (by omega) (by omega) (Int.le_of_lt h3) h2).2
    have := py_le h h1 hj
    omega
theorem at_ge (h : RightC c) {v : Int} {j : Nat} (hj : j < c.length) (hv : px c j ≤ v) : py c j ≤ atC c v := by
  unfold atC valC
  rw [if_pos h]
  by_cases h0 : posX c v = 0
  · rw [if_pos h0]
    have h2 := posX_hi (c := c) (x := v) (by omega)
    rw [h0] at h2
    rcases Nat.eq_zero_or_pos j with h3 | h3
    · subst h3; exact Int.le_refl _
    · have := px_lt h h3 hj; omega
  · rw [if_neg h0]
    by_cases h1 : posX c v < c.length
    · rw [if_pos h1]
      have h2 := posX_hi (c := c) (x := v) h1
      have h3 := posX_lo (c := c) (x := v) (j := posX c v - 1) (by omega)
      rcases Nat.lt_or_ge j (posX c v) with h4 | h4
      · have := (atSeg_rng h (by omega) h1 (Int.le_of_lt h3) h2).1
        have := py_le h (show j ≤ posX c v - 1 by omega) (by omega)
        omega
      · rcases Nat.lt_or_eq_of_le h4 with h5 | h5
        · have := px_lt h h5 hj; omega
        · rw [← h5] at hv
          have he : v = px c (posX c v) := by omega
          have s := seg_of h (show 0 < posX c v by omega) h1
          unfold atSeg
          rw [← h5]
          have w0 := s.w0
          generalize posX c v = q at *
          have e1 : v - px c (q - 1) = px c q - px c (q - 1) := by omega
          rw [e1, Int.mul_ediv_cancel_left _ (by omega)]
          omega
    · rw [if_neg h1]
      exact py_le h (by omega) (by omega)
def up (n d : Int) : Int := n / d + (if n % d > 0 then 1 else 0)
theorem up_le_iff {n d k : Int} (hd : 0 < d) : up n d ≤ k ↔ n ≤ k * d := by
  have h1 := Int.mul_ediv_add_emod n d
  have h2 := Int.emod_nonneg n (show d ≠ 0 by omega)
  have h3 := Int.emod_lt_of_pos n hd
  unfold up
  constructor
  · intro h
    by_cases h4 : n % d > 0
    · rw [if_pos h4] at h
      have := Int.mul_le_mul_of_nonneg_right (show n / d + 1 ≤ k from h) (Int.le_of_lt hd)
      rw [Int.add_mul, Int.one_mul, Int.mul_comm (n / d) d] at this
      omega
    · rw [if_neg h4] at h
      have := Int.mul_le_mul_of_nonneg_right (show n / d ≤ k by omega) (Int.le_of_lt hd)
      rw [Int.mul_comm (n / d) d] at this
      omega
  · intro h
    have h5 : n / d ≤ k := Int.ediv_le_of_le_mul hd h
    by_cases h4 : n % d > 0
    · rw [if_pos h4]
      rcases Int.lt_or_eq_of_le h5 with h6 | h6
      · omega
      · exfalso
        have : k * d = d * (n / d) := by rw [← h6, Int.mul_comm]
        omega
    · rw [if_neg h4]; omega
theorem leastC_eq (h : RightC c) {y : Int} (hy : y ≤ py c (c.length - 1)) : leastC c y = if posY c y = 0 then some 0 else some (px c (posY c y - 1) + up ((y - py c (posY c y - 1)) * (px c (posY c y) - px c (posY c y - 1))) (py c (posY c y) - py c (posY c y - 1))) := by
  unfold leastC up
  rw [if_pos ⟨h, hy⟩]
theorem posY_lt (h : RightC c) {y : Int} (hy : y ≤ py c (c.length - 1)) : posY c y < c.length := by
  have := h.1.1
  have := (posY_iff h (show c.length - 1 < c.length by omega)).2 hy
  omega
theorem least_step (h : RightC c) {y : Int} (hy : y ≤ py c (c.length - 1)) (h0 : posY c y ≠ 0) :
    (0 ≤ y - py c (posY c y - 1) ∧ y - py c (posY c y - 1) ≤ 1125899906842624) ∧ (0 ≤ px c (posY c y) - px c (posY c y - 1) ∧ px c (posY c y) - px c (posY c y - 1) ≤ 1125899906842624) ∧ (1 ≤ py c (posY c y) - py c (posY c y - 1) ∧ py c (posY c y) - py c (posY c y - 1) ≤ 1125899906842624) ∧
    0 ≤ (y - py c (posY c y - 1)) * (px c (posY c y) - px c (posY c y - 1)) / (py c (posY c y) - py c (posY c y - 1)) ∧
    (y - py c (posY c y - 1)) * (px c (posY c y) - px c (posY c y - 1)) / (py c (posY c y) - py c (posY c y - 1)) ≤ px c (posY c y) - px c (posY c y - 1) ∧
    up ((y - py c (posY c y - 1)) * (px c (posY c y) - px c (posY c y - 1))) (py c (posY c y) - py c (posY c y - 1)) ≤ px c (posY c y) - px c (posY c y - 1) ∧
    0 < up ((y - py c (posY c y - 1)) * (px c (posY c y) - px c (posY c y - 1))) (py c (posY c y) - py c (posY c y - 1)) := by
  have hl := posY_lt h hy
  have s := seg_of h (show 0 < posY c y by omega) hl
  have h1 := posY_hi (c := c) (y := y) hl
  have h2 := posY_lo (c := c) (y := y) (j := posY c y - 1) (by omega)
  generalize hW : px c (posY c y) - px c (posY c y - 1) = W at *
  generalize hD : py c (posY c y) - py c (posY c y - 1) = D at *
  generalize hk : y - py c (posY c y - 1) = k at *
  have w0 := s.w0; have wM := s.wM; have dM := s.dM
  have hk1 : k ≤ D := by omega
  have hm := mul_div_rng (k := k) (W := D) (D := W) (by omega) hk1 (by omega) (by omega)
  have hkw : k * W ≤ W * D := by rw [Int.mul_comm W D]; exact Int.mul_le_mul_of_nonneg_right hk1 (by omega)
  refine ⟨by omega, by omega, by omega, hm.1, hm.2, (up_le_iff (by omega)).2 hkw, ?_⟩
  have hn : ¬ up (k * W) D ≤ 0 := fun hh => by
    have h9 := (up_le_iff (show 0 < D by omega)).1 hh
    have h8 := Int.mul_pos (show 0 < k by omega) w0
    omega
  omega
theorem at_iff (h : RightC c) {y v : Int} (hv : 0 ≤ v) (hy : y ≤ py c (c.length - 1)) : ∃ x, leastC c y = some x ∧ 0 ≤ x ∧ x ≤ 1125899906842624 ∧ (y ≤ atC c v ↔ x ≤ v) := by
  rw [leastC_eq h hy]
  by_cases h0 : posY c y = 0
  · rw [if_pos h0]
    refine ⟨0, rfl, by omega, by omega, fun _ => hv, fun _ => ?_⟩
    have hl := posY_lt h hy
    have h1 := posY_hi (c := c) (y := y) hl
    rw [h0] at h1 hl
    by_cases h2 : px c 0 ≤ v
    · have := at_ge h hl h2; omega
    · have h3 : posX c v = 0 := by have := (posX_iff h hl).2 (show v ≤ px c 0 by omega); omega
      unfold atC valC
      rw [if_pos h, if_pos h3]; exact h1
  · rw [if_neg h0]
    have hl := posY_lt h hy
    obtain ⟨k0, w0, d0, m0, m1, u1, u0⟩ := least_step h hy h0
    have h1 := posY_hi (c := c) (y := y) hl
    have h2 := posY_lo (c := c) (y := y) (j := posY c y - 1) (by omega)
    have hpm := (h.pt hl).1; have hpn := (h.pt (show posY c y - 1 < c.length by omega)).1
    refine ⟨_, rfl, by omega, by omega, ?_⟩
    rcases Int.lt_or_le (px c (posY c y)) v with h3 | h3
    · have := at_ge h hl (Int.le_of_lt h3)
      constructor <;> intro _ <;> omega
    · rcases Int.lt_or_le (px c (posY c y - 1)) v with h4 | h4
      · have hp : posX c v = posY c y := posX_is (Nat.le_of_lt hl) (fun _ => h3) (fun j hj => by
          have := px_le h (show j ≤ posY c y - 1 by omega) (show posY c y - 1 < c.length by omega); omega)
        unfold atC valC
        rw [if_pos h, hp, if_neg h0, if_pos hl]
        unfold atSeg
        have hW : 0 < px c (posY c y) - px c (posY c y - 1) := by omega
        generalize px c (posY c y) - px c (posY c y - 1) = W at *
        generalize py c (posY c y) - py c (posY c y - 1) = D at *
        have e1 : (y ≤ py c (posY c y - 1) + (v - px c (posY c y - 1)) * D / W) ↔ (y - py c (posY c y - 1)) * W ≤ (v - px c (posY c y - 1)) * D := by
          rw [← Int.le_ediv_iff_mul_le hW]; omega
        rw [e1, ← up_le_iff (show 0 < D by omega)]
        omega
      · have := at_le h (show posY c y - 1 < c.length by omega) h4
        constructor <;> intro _ <;> omega
theorem at_top (h : RightC c) (v : Int) : atC c v ≤ py c (c.length - 1) := by
  have h1 := h.1.1
  rcases Int.lt_or_le (px c (c.length - 1)) v with h3 | h3
  · unfold atC valC
    have h4 : posX c v = c.length := posX_is (Nat.le_refl _) (fun hh => absurd hh (Nat.lt_irrefl _)) (fun j hj => by
      have := px_le h (show j ≤ c.length - 1 by omega) (by omega); omega)
    rw [if_pos h, h4, if_neg (by omega), if_neg (by omega)]
    exact Int.le_refl _
  · exact at_le h (by omega) h3
theorem at_rng (h : RightC c) (v : Int) : 0 ≤ atC c v ∧ atC c v ≤ 1125899906842624 := by
  have h1 := h.1.1
  have h2 := at_top h v
  have h3 := (h.pt (show c.length - 1 < c.length by omega)).2.1
  have h4 := (h.pt (show 0 < c.length by omega)).2.1
  refine ⟨?_, by omega⟩
  rcases Int.lt_or_le v (px c 0) with h5 | h5
  · have h6 : posX c v = 0 := by have := (posX_iff h (show 0 < c.length by omega)).2 (Int.le_of_lt h5); omega
    unfold atC valC
    rw [if_pos h, if_pos h6]; omega
  · have := at_ge h (show 0 < c.length by omega) h5; omega
def firstC (c : List Bt.Point) (y : Int) : Int := match leastC c (y + 1) with | some x => x | none => 1125899906842625
theorem leastC_none (h : RightC c) {y : Int} : leastC c y = none ↔ py c (c.length - 1) < y := by
  constructor
  · intro hn
    rcases Int.lt_or_le (py c (c.length - 1)) y with h1 | h1
    · exact h1
    · obtain ⟨x, hx, _⟩ := at_iff h (v := 0) (by omega) h1
      rw [hx] at hn; cases hn
  · intro hy
    unfold leastC
    rw [if_neg (fun hh => by have := hh.2; omega)]
theorem first_iff (h : RightC c) {y v : Int} (hv : 0 ≤ v) (hv2 : v ≤ 1125899906842624) : y < atC c v ↔ firstC c y ≤ v := by
  unfold firstC
  rcases Int.lt_or_le (py c (c.length - 1)) (y + 1) with h1 | h1
  · rw [(leastC_none h).2 h1]
    have := at_top h v
    constructor <;> intro hh
    · omega
    · simp only at hh; omega
  · obtain ⟨x, hx, h0, hM, hi⟩ := at_iff h hv h1
    rw [hx]
    exact ⟨fun hh => hi.1 (by omega), fun hh => by have := hi.2 hh; omega⟩
theorem first_rng (h : RightC c) (y : Int) : 0 ≤ firstC c y ∧ firstC c y ≤ 1125899906842625 := by
  unfold firstC
  rcases Int.lt_or_le (py c (c.length - 1)) (y + 1) with h1 | h1
  · rw [(leastC_none h).2 h1]; constructor <;> simp
  · obtain ⟨x, hx, h0, hM, _⟩ := at_iff h (v := 0) (by omega) h1
    rw [hx]; exact ⟨h0, by simp only; omega⟩
def volH (c : List Bt.Point) (lo hi : Int) : Option Bt.Span :=
  if RightC c ∧ lo ≤ hi then
    (let low := if 0 < lo then firstC c (lo - 1) else 0
     let high := firstC c hi - 1
     if low ≤ high then some ⟨low, high⟩ else none)
  else none
theorem least_right {y x : Int} (hx : leastC c y = some x) : RightC c ∧ y ≤ py c (c.length - 1) := by
  unfold leastC at hx
  split at hx
  · assumption
  · cases hx
theorem vol_same (lo hi : Int) (hh : hi ≤ 9223372036854775807) (hm : -9223372036854775808 ≤ hi) : volH c lo hi = volL c lo hi := by
  unfold volH volL
  by_cases hR' : ¬ RightC c
  · rw [if_neg (fun h => hR' h.1)]
    have : leastC c lo = none := by unfold leastC; rw [if_neg (fun h => hR' h.1)]
    rw [this]
  have hR := Classical.not_not.1 hR'
  have h1 := hR.1.1
  have hlast := (hR.pt (show c.length - 1 < c.length by omega)).2.1
  have hsat : leastC c (addS hi 1) = leastC c (hi + 1) := by
    unfold addS
    by_cases h2 : 9223372036854775807 < hi + 1
    · rw [if_pos h2, (leastC_none hR).2 (by omega), (leastC_none hR).2 (by omega)]
    · rw [if_neg h2, if_neg (by omega)]
  have hhigh : hiC (leastC c (addS hi 1)) = firstC c hi - 1 := by
    rw [hsat]; unfold firstC hiC
    cases leastC c (hi + 1) <;> simp
  rw [hhigh]
  have hf := first_rng hR hi
  rcases Int.lt_or_le (py c (c.length - 1)) lo with h3 | h3
  · rw [(leastC_none hR).2 h3]
    by_cases h4 : lo ≤ hi
    · rw [if_pos ⟨hR, h4⟩, if_pos (show 0 < lo by omega)]
      have : firstC c (lo - 1) = 1125899906842625 := by
        unfold firstC; rw [show lo - 1 + 1 = lo by omega, (leastC_none hR).2 h3]
      rw [this]
      simp only
      rw [if_neg (by omega)]
    · rw [if_neg (fun h => h4 h.2)]
  · obtain ⟨x, hx, h0, hM, _⟩ := at_iff hR (v := 0) (by omega) h3
    rw [hx]
    have hlow : (if 0 < lo then firstC c (lo - 1) else 0) = x := by
      by_cases h5 : 0 < lo
      · rw [if_pos h5]; unfold firstC; rw [show lo - 1 + 1 = lo by omega, hx]
      · rw [if_neg h5]
        rw [leastC_eq hR h3] at hx
        have h6 : posY c lo = 0 := by
          have := (posY_iff hR (show 0 < c.length by omega) (y := lo)).2 (by have := (hR.pt (show 0 < c.length by omega)).2.1; omega)
          omega
        rw [if_pos h6] at hx
        exact sJ hx
    simp only [hlow]
    have hmeet : meet x (firstC c hi - 1) 0 1125899906842624 = if x ≤ firstC c hi - 1 then some ⟨x, firstC c hi - 1⟩ else none := by
      unfold meet
      rw [show max x 0 = x by omega, show min (firstC c hi - 1) 1125899906842624 = firstC c hi - 1 by omega]
    rw [hmeet]
    by_cases h4 : lo ≤ hi
    · rw [if_pos ⟨hR, h4⟩]
    · rw [if_neg (fun h => h4 h.2), if_neg (fun h7 => ?_)]
      obtain ⟨x', hx', _, _, hi'⟩ := at_iff hR (v := x) h0 h3
      rw [hx] at hx'
      obtain rfl := sJ hx'
      have h8 := hi'.2 (Int.le_refl _)
      have h9 := (first_iff hR (y := hi) h0 hM).1 (by omega)
      omega
theorem least_rng (c : List Bt.Point) (y : Int) : 0 ≤ intOf (leastC c y) ∧ intOf (leastC c y) ≤ 1125899906842624 := by
  cases hx : leastC c y with
  | none => simp [intOf]
  | some x =>
    obtain ⟨hR, hy⟩ := least_right hx
    obtain ⟨x', hx', h0, h1, _⟩ := at_iff hR (v := 0) (by omega) hy
    rw [hx] at hx'
    obtain rfl := sJ hx'
    exact ⟨h0, h1⟩
theorem addS_rng (x y : Int) : -9223372036854775808 ≤ addS x y ∧ addS x y ≤ 9223372036854775807 := by
  unfold addS; split
  · omega
  · split <;> omega
theorem volL_none {lo hi : Int} (h : (leastC c lo).isSome = false) : volL c lo hi = none := by
  unfold volL
  cases hx : leastC c lo with
  | none => rfl
  | some x => rw [hx] at h; cases h
theorem volL_bad {lo hi : Int} (h : ¬ RightC c) : volL c lo hi = none := volL_none (by unfold leastC; rw [if_neg (fun hh => h hh.1)]; rfl)
theorem volL_top {lo hi : Int} (h : (leastC c lo).isSome = true) (h2 : (leastC c (addS hi 1)).isSome = false) : volL c lo hi = meet (intOf (leastC c lo)) 1125899906842624 0 1125899906842624 := by
  unfold volL
  cases hx : leastC c lo with
  | none => rw [hx] at h; cases h
  | some x =>
    cases hy : leastC c (addS hi 1) with
    | none => rfl
    | some y => rw [hy] at h2; cases h2
theorem volL_mid {lo hi : Int} (h : (leastC c lo).isSome = true) (h2 : (leastC c (addS hi 1)).isSome = true) : volL c lo hi = meet (intOf (leastC c lo)) (intOf (leastC c (addS hi 1)) - 1) 0 1125899906842624 := by
  unfold volL
  cases hx : leastC c lo with
  | none => rw [hx] at h; cases h
  | some x =>
    cases hy : leastC c (addS hi 1) with
    | none => rw [hy] at h2; cases h2
    | some y => rfl
theorem volR_no {b : Bt.Basin} {r : Bt.Reading} (h : ¬ VolOk b r) : volR b r = none := by unfold volR; rw [if_neg h]
theorem volR_yes {b : Bt.Basin} {r : Bt.Reading} (h : VolOk b r) : volR b r = volL (levelOf b r) r.Value.Lo r.Value.Hi := by unfold volR; rw [if_pos h]
theorem volH_no {lo hi : Int} (h : ¬ (RightC c ∧ lo ≤ hi)) : volH c lo hi = none := by unfold volH; rw [if_neg h]
theorem volH_yes {lo hi low high : Int} (h : RightC c ∧ lo ≤ hi) (hl : low = if 0 < lo then firstC c (lo - 1) else 0) (hh : high = firstC c hi - 1) : volH c lo hi = if low ≤ high then some ⟨low, high⟩ else none := by
  unfold volH; rw [if_pos h, hl, hh]
end
end Fu
namespace Go.Proofs.YtblfeidlnhdekaaGreat
open Go Go.K Go.RowKit
attribute [local irreducible] AW RW DW Post Qt
theorem Scale_c (w : World) (Φ : Hp) (hΦ : Hp.le Φ (hp w)) {x k d : Int} (hx : 0 ≤ x ∧ x ≤ 1125899906842624) (hk : 0 ≤ k ∧ k ≤ 1125899906842624) (hd : 1 ≤ d ∧ d ≤ 1125899906842624) (hq : x * k / d ≤ 1125899906842624) :
  Calls pg 75 #[iV x, iV k, iV d] w fun e w' => e = .returned (.tuple #[iV (x * k / d), iV (x * k % d), .bool true]) ∧ Bel w.heap.size w w' := by
 obtain ⟨X, rfl⟩ := Int.eq_ofNat_of_zero_le hx.1
 obtain ⟨K, rfl⟩ := Int.eq_ofNat_of_zero_le hk.1
 obtain ⟨D, rfl⟩ := Int.eq_ofNat_of_zero_le (show 0 ≤ d by omega)
 refine in3 61 Tryz.func75 rfl rfl hΦ ?_
 obtain ⟨Z, hZ⟩ : ∃ Z, X * K = Z := ⟨_, rfl⟩
 have hxe : (X : Int) * (K : Int) / (D : Int) = ((Z / D : Nat) : Int) := by rw [← hZ, Int.natCast_ediv, Int.natCast_mul]
 have hxm : (X : Int) * (K : Int) % (D : Int) = ((Z % D : Nat) : Int) := by rw [← hZ, Int.natCast_emod, Int.natCast_mul]
 have hq1 : Z / D ≤ 1125899906842624 := by rw [hxe] at hq; omega
 have hzd : Z < 18446744073709551616 * D := by have h9 := Nat.lt_mul_div_succ Z (show 0 < D by omega); have h8 : D * (Z / D + 1) ≤ D * 18446744073709551616 := Nat.mul_le_mul_left D (by omega); rw [Nat.mul_comm 18446744073709551616 D]; omega
 have hhi : Z / 18446744073709551616 < D := by rw [Nat.div_lt_iff_lt_mul (by omega), Nat.mul_comm]; exact hzd
 have hdm : Z / 18446744073709551616 * 18446744073709551616 + Z % 18446744073709551616 = Z := by rw [Nat.mul_comm]; exact Nat.div_add_mod _ _
 have hmd := Nat.mod_lt Z (show 0 < D by omega)
 have hml := Nat.mod_lt Z (show 0 < 18446744073709551616 by omega)
 refine gs15 ?_
 refine RW.pkO rfl rfl rfl rfl fun qb1 hqb1 => ?_
 refine gs3 ?_
 refine RW.q (v := .bool (qb1 || (decide ((K : Int) < 0)))) rfl (qpO rfl rfl rfl) ?_
 refine gs3 ?_
 refine RW.pkO rfl rfl rfl rfl fun qb2 hqb2 => ?_
 refine gs3 ?_
 refine RW.q (v := .bool (qb2 || (decide ((D : Int) < 1)))) rfl (qpO rfl rfl rfl) ?_
 refine gs3 ?_
 refine RW.pkO rfl rfl rfl rfl fun qb3 hqb3 => ?_
 subst hqb3 hqb2 hqb1
 refine gs2 ?_
 refine AW.cond rfl (fun hc1 => ?_) fun hc1 => ?_
 ·
  simp [-List.getD_eq_getElem?_getD] at hc1
  omega
 ·
  simp [-List.getD_eq_getElem?_getD] at hc1
  refine gs5 ?_
  refine RW.q (v := .int .u64 (X : Int)) rfl (q_toU (r := X) rfl uT3 uT183 rfl (by omega)) ?_
  refine gs1 ?_
  refine RW.q (v := .int .u64 (K : Int)) rfl (q_toU (r := K) rfl uT3 uT183 rfl (by omega)) (RW.c rfl (fun w1 hw1 => Mul64_c w1 (Go.K.hp w1) (Hp.le_refl _) (by omega) (by omega)) rfl rfl (RW.q rfl (q_move rfl) ?_))
  refine gs8 ?_
  rw [hZ]
  refine gs3 ?_
  refine RW.q (v := .int .u64 (D : Int)) rfl (q_toU (r := D) rfl uT3 uT183 rfl (by omega)) ?_
  refine gs3 ?_
  refine AW.cond rfl (fun hc2 => ?_) fun hc2 => ?_
  ·
   simp [-List.getD_eq_getElem?_getD] at hc2
   omega
  ·
   simp [-List.getD_eq_getElem?_getD] at hc2
   refine gs7 ?_
   refine RW.q (v := .int .u64 (D : Int)) rfl (q_toU (r := D) rfl uT3 uT183 rfl (by omega)) (RW.c rfl (fun w1 hw1 => Div64_c w1 (Go.K.hp w1) (Hp.le_refl _) (by omega) (by omega) (by omega)) rfl rfl (RW.q rfl (q_move rfl) ?_))
   refine gs8 ?_
   rw [hdm]
   refine gs5 ?_
   refine AW.cond rfl (fun hc3 => ?_) fun hc3 => ?_
   ·
    simp [-List.getD_eq_getElem?_getD] at hc3
    omega
   ·
    simp [-List.getD_eq_getElem?_getD] at hc3
    refine gs5 ?_
    refine RW.q (v := iV ((Z / D : Nat) : Int)) rfl (q_ofU (a := (Z / D)) rfl uT183 uT3 (by omega)) ?_
    refine gs1 ?_
    refine RW.q (v := iV ((Z % D : Nat) : Int)) rfl (q_ofU (a := (Z % D)) rfl uT183 uT3 (by omega)) ?_
    refine gs6 ?_
    refine fin_out3 (v1 := iV ((Z / D : Nat) : Int)) (v2 := iV ((Z % D : Nat) : Int)) (v3 := .bool true) rfl rfl rfl rfl rfl (fun w' hw => ?_)
    refine ⟨?_, hw.below rfl⟩
    rw [hxe, hxm]
theorem Search_c (w : World) (Φ : Hp) (hΦ : Hp.le Φ (hp w)) {n r : Nat} {kf : FuncId} {capt : Array Value} (hk : Go.K.Own pg kf) (hn : n ≤ 140737488355328) (hr : r ≤ n) (hf : ∀ w1, Bel w.heap.size w w1 → ∀ i, i < n → Calls pg kf (#[iV (i : Int)] ++ capt) w1 fun e w2 => e = .returned (.bool (decide (r ≤ i))) ∧ Bel w1.heap.size w1 w2) :
  Calls pg 73 #[iV (n : Int), (.func (.func kf) #[] capt)] w fun e w' => e = .returned (iV (r : Int)) ∧ Bel w.heap.size w w' := by
 refine in2 26 Tryz.func73 rfl rfl hΦ ?_
 refine gs14 ?_
 refine AW.lp (fun s J m => ∃ (i : Nat), ∃ (j : Nat), s = [(0, iV (n : Int)), (1, (.func (.func kf) #[] capt)), (5, iV (i : Int)), (6, iV (j : Int))] ∧ J = St ⟨w, Φ, []⟩ Φ [] ∧ m = j - i ∧ (i ≤ r) ∧ (r ≤ j) ∧ (j ≤ n)) ⟨0, n, rfl, rfl, rfl, (by omega), (by omega), (by omega)⟩ ?_
 rintro _ _ _ _ ⟨i, j, rfl, rfl, rfl, hi, hj, hjn⟩
 refine gs8 ?_
 refine AW.cond rfl (fun hc1 => ?_) fun hc1 => ?_
 ·
  simp [-List.getD_eq_getElem?_getD] at hc1
  refine gs8 ?_
  refine RW.q (v := .int .u64 ((i + j : Nat) : Int)) rfl (q_toU (r := (i + j)) rfl uT3 uT139 rfl (by omega)) (RW.q (v := .int .u64 (((i + j) / 2 ^ 1 : Nat) : Int)) rfl (q_shrU' (a := (i + j)) (c := 1) rfl rfl (by omega)) (RW.q (v := iV (((i + j) / 2 : Nat) : Int)) rfl (q_as (v := iV (((i + j) / 2 ^ 1 : Nat) : Int)) (q_ofU (a := ((i + j) / 2 ^ 1)) rfl uT139 uT3 (by omega)) (congrArg (Value.int .i64) (by simp))) ?_))
  refine gs7 ?_
  refine RW.q (v := .bool (decide (r ≤ (i + j) / 2))) rfl (q_call (args := [iV (((i + j) / 2 : Nat) : Int)].toArray ++ capt) hk rfl (args_capt rfl) (fun w1 hw1 => hf w1 (hw1.below rfl) ((i + j) / 2) (by omega))) ?_
  refine gs3 ?_
  refine AW.cond rfl (fun hc2 => ?_) fun hc2 => ?_
  ·
   simp [-List.getD_eq_getElem?_getD] at hc2
   refine gs6 ?_
   exact Post.bk ⟨(i + j) / 2 + 1, j, rfl, rfl, rfl, (by omega), (by omega), (by omega)⟩
  ·
   simp [-List.getD_eq_getElem?_getD] at hc2
   refine gs5 ?_
   exact Post.bk ⟨i, (i + j) / 2, rfl, rfl, rfl, (by omega), (by omega), (by omega)⟩
 ·
  simp [-List.getD_eq_getElem?_getD] at hc1
  refine gs12 ?_
  exact fin_val (v' := iV (i : Int)) rfl rfl rfl (by rw [show i = r by omega])
theorem Least1_c (w : World) (Φ : Hp) (hΦ : Hp.le Φ (hp w)) {c : List Bt.Point} {v1 : Value} (h1 : RepSl Φ c v1) {y : Int} {b1 b2 : Nat} (p1 : PCell Φ ⟨b1, 0, none⟩ v1) (p2 : PCell Φ ⟨b2, 0, none⟩ (iV y)) {i : Nat} (hi : i < c.length) :
  Calls pg 74 #[iV (i : Int), .pointer (some ⟨b1, 0, none⟩), .pointer (some ⟨b2, 0, none⟩)] w fun e w' => e = .returned (.bool (decide (y ≤ (c.getD i default).Y))) ∧ Bel w.heap.size w w' := by
 refine in3 12 Tryz.func74 rfl rfl hΦ ?_
 have hm1 : c.length * 16 ≤ 140737488355328 := h1.max
 refine gs6 ?_
 refine AW.draw (J0 := St ⟨w, Φ, []⟩ Φ []) [.q, .q, .q, .q, .q, .q, .q, .q] [0, 1, 2, 3, 4, 5, 6, 7] hmix (by kernel_rfl) (DW.q (v := v1) (fun _ h => h) rfl (q_load rfl uT68 rfl (Cell.phi p1)) ?_)
 refine gs3 ?_
 refine DW.q (v := iV ((c.getD i default).Y)) (fun _ h => h) rfl (q_load rfl uT3 rfl (Cell.repE (j := 1) h1 (by omega) rfl)) (DW.q (v := iV y) (fun _ h => h) rfl (q_load rfl uT3 rfl (Cell.phi p2)) ?_)
 refine gs5 ?_
 exact fin_val (v' := .bool (decide (y ≤ (c.getD i default).Y))) rfl rfl rfl (rfl)
theorem Least_c (w : World) (Φ : Hp) (hΦ : Hp.le Φ (hp w)) {c : List Bt.Point} {v1 : Value} (h1 : RepSl Φ c v1) {y : Int} (_ : I64 y) :
  Calls pg 46 #[v1, iV y] w fun e w' => e = .returned (.tuple #[iV (Fu.intOf (Fu.leastC c y)), .bool (Fu.leastC c y).isSome]) ∧ Bel w.heap.size w w' := by
 refine in2 69 Tryz.func46 rfl rfl hΦ ?_
 have hm1 : c.length * 16 ≤ 140737488355328 := h1.max
 refine gs2 ?_
 refine RW.eff (fun b1 : Nat => pV b1 0) (fun b1 => St ⟨w, Φ, []⟩ Φ [.blk b1 68 [v1]]) rfl (e_boxSl rfl h1.sl) ?_
 intro b1
 refine RW.eff (fun b2 : Nat => pV b2 0) (fun b2 => St ⟨w, Φ, []⟩ Φ [.blk b2 3 [iV y], .blk b1 68 [v1]]) rfl (e_box (v := iV y) rfl) ?_
 intro b2
 refine gs6 ?_
 refine AW.draw (J0 := St ⟨w, Φ, []⟩ Φ [.blk b2 3 [iV y], .blk b1 68 [v1]]) [.q, .q, .q, .q, .q, .q, .q, .q, .q, .q, .q, .q, .q, .q] [0, 1, 2, 3, 4, 5, 6, 7, 8, 9, 10, 11, 12, 13] hmix (by kernel_rfl) ?_
 refine gs1 ?_
 refine DW.c (fun _ h => h) rfl (fun w1 hw1 => cRight_c w1 (Go.K.hp w1) (Hp.le_refl _) (h1.mono hw1.phi)) rfl rfl ?_
 refine gs6 ?_
 refine DW.g (b := (!(decide (Fu.RightC c)))) (v := iV ((c.length : Int) - 1)) (fun _ h => h) rfl rfl rfl (fun h => q_sub (gv_pos h) rfl (by (try simp [-List.getD_eq_getElem?_getD] at h); omega) (by (try simp [-List.getD_eq_getElem?_getD] at h); unfold I64; omega)) ?_
 refine DW.g (b := (!(decide (Fu.RightC c)))) (v := .pointer (some (Value.at v1 ((((c.length : Int) - 1).toNat) * 2)))) (fun _ h => h) rfl rfl rfl (fun h => q_indexAddr (gv_pos h) (gv_pos h) h1.sl uT68 sz67 (by simp [-List.getD_eq_getElem?_getD] at h; have := h.1.1; omega) (by simp [-List.getD_eq_getElem?_getD] at h; have := h.1.1; omega) rfl) ?_
 refine gs1 ?_
 refine DW.g (b := (!(decide (Fu.RightC c)))) (v := iV ((c.getD (((c.length : Int) - 1).toNat) default).Y)) (fun _ h => h) rfl rfl rfl (fun h => q_load (gv_pos h) uT3 rfl (Cell.repE (j := 1) h1 (by simp [-List.getD_eq_getElem?_getD] at h; have := h.1.1; omega) rfl)) ?_
 refine gs1 ?_
 refine DW.pkO (fun _ h => h) rfl rfl rfl rfl fun qb1 hqb1 => ?_
 subst hqb1
 refine gs2 ?_
 refine AW.cond rfl (fun hc1 => ?_) fun hc1 => ?_
 ·
  simp [-List.getD_eq_getElem?_getD] at hc1
  refine gs8 ?_
  refine fin_out2 (v := iV 0) (u := .bool false) rfl rfl rfl rfl (fun w' hw => ?_)
  refine ⟨?_, hw.below rfl⟩
  have hn : Fu.leastC c y = none := by
   unfold Fu.leastC
   rw [if_neg (fun h => ?_)]
   have h2 := h.2
   unfold Fu.py at h2
   first | (have := hc1 h.1; omega) | (rcases hc1 with h3 | h3; exact h3 h.1; omega)
  rw [hn]; rfl
 ·
  simp [-List.getD_eq_getElem?_getD] at hc1
  refine gs3 ?_
  have hR : Fu.RightC c := hc1.1
  have hl1 := hR.1.1
  have hy : y ≤ Fu.py c (c.length - 1) := hc1.2
  have hpl := Fu.posY_le (c := c) y
  have hlt := Fu.posY_lt hR hy
  refine gs3 ?_
  refine RW.q (v := .func (.func 74) #[] #[pV b1 0, pV b2 0]) rfl (q_makeFunc rfl rfl) (RW.c rfl (fun w1 hw1 => Search_c w1 (Go.K.hp w1) (Hp.le_refl _) (capt := #[pV b1 0, pV b2 0]) oK (by omega) hpl (fun w2 hb2 i hi => (Least1_c w2 (Go.K.hp w2) (Hp.le_refl _) ((h1.mono hw1.phi).mono (below_le hb2)) ((blk_cell (hw1.sAt 1 rfl) rfl).mono (below_le hb2)) ((blk_cell (hw1.sAt 0 rfl) rfl).mono (below_le hb2)) hi).mono fun e w3 ⟨he, hb3⟩ => ⟨by rw [he]; exact congrArg (fun q => Ending.returned (.bool q)) (decide_eq_decide.2 (Fu.posY_iff hR hi).symm), hb3⟩)) rfl rfl ?_)
  refine gs10 ?_
  refine AW.cond rfl (fun hc2 => ?_) fun hc2 => ?_
  ·
   simp [-List.getD_eq_getElem?_getD] at hc2
   refine gs8 ?_
   refine fin_out2 (v := iV 0) (u := .bool true) rfl rfl rfl rfl (fun w' hw => ?_)
   refine ⟨?_, hw.below rfl⟩
   rw [Fu.leastC_eq hR hy, if_pos (by omega)]; rfl
  ·
   simp [-List.getD_eq_getElem?_getD] at hc2
   refine gs3 ?_
   have hp0 : Fu.posY c y ≠ 0 := by omega
   obtain ⟨P, hP⟩ : ∃ P, Fu.posY c y = P + 1 := ⟨Fu.posY c y - 1, by omega⟩
   have hls := Fu.least_step hR hy hp0
   have hle := Fu.leastC_eq hR hy
   rw [if_neg hp0] at hle
   rw [hP, Nat.add_sub_cancel] at hls hle
   have hlt2 : P + 1 < c.length := by omega
   rw [hP]
   have hPi : (((P + 1 : Nat) : Int) - 1).toNat = P := by omega
   have hpt1 := (hR.pt hlt2).1
   have hpt0 := (hR.pt (show P < c.length by omega)).1
   have hpy1 := (hR.pt hlt2).2.1
   have hpy0 := (hR.pt (show P < c.length by omega)).2.1
   obtain ⟨k0, w0, d0, m0, m1, u1, u0⟩ := hls
   simp only [Fu.px, Fu.py] at hle k0 w0 d0 m0 m1 u1 u0 hpt1 hpt0 hpy1 hpy0
   refine gs3 ?_
   refine RW.q (v := iV (P : Int)) rfl (q_as (v := iV (((P + 1 : Nat) : Int) - 1)) (q_sub rfl rfl (by omega) (by unfold I64; omega)) (congrArg (Value.int .i64) (by omega))) ?_
   refine gs1 ?_
   refine RW.q (v := .agg #[iV ((c.getD P default).X), iV ((c.getD P default).Y)]) rfl (q_loadAgg rfl uT67 rfl sz67 rfl (Cells.repE h1 (by omega) rfl)) ?_
   refine RW.alc rfl fun b3 => ?_
   refine gs4 ?_
   refine AW.draw (J0 := St ⟨w, Φ, []⟩ Φ [.blk b3 67 [iV ((c.getD P default).X), iV ((c.getD P default).Y)], .blk b2 3 [iV y], .blk b1 68 [v1]]) [.q, .q, .q, .q, .q, .q, .q, .q, .q, .q, .q, .q, .q, .q, .q, .q, .q, .q, .q, .q, .q, .q, .q, .q, .q, .q, .q, .q] [0, 1, 2, 3, 4, 5, 6, 7, 8, 9, 10, 11, 12, 13, 14, 15, 16, 17, 18, 19, 20, 21, 22, 23, 24, 25, 26, 27] hmix (by kernel_rfl) ?_
   refine gs8 ?_
   refine DW.q (v := iV ((c.getD (P + 1) default).X)) (fun _ h => h) rfl (q_load rfl uT3 rfl (Cell.repE (j := 0) h1 (by omega) rfl)) ?_
   refine gs7 ?_
   refine DW.q (v := iV ((c.getD (P + 1) default).Y)) (fun _ h => h) rfl (q_load rfl uT3 rfl (Cell.repE (j := 1) h1 (by omega) rfl)) ?_
   refine gs3 ?_
   refine DW.c (fun _ h => h) rfl (fun w1 hw1 => Scale_c w1 (Go.K.hp w1) (Hp.le_refl _) (by omega) (by omega) (by omega) (by omega)) rfl rfl (DW.q (v := .tuple #[iV ((y - ((c.getD P default).Y)) * (((c.getD (P + 1) default).X) - ((c.getD P default).X)) / (((c.getD (P + 1) default).Y) - ((c.getD P default).Y))), iV ((y - ((c.getD P default).Y)) * (((c.getD (P + 1) default).X) - ((c.getD P default).X)) % (((c.getD (P + 1) default).Y) - ((c.getD P default).Y))), .bool true]) (fun _ h => h) rfl (q_move rfl) ?_)
   refine gs15 ?_
   refine AW.cond rfl (fun hc3 => ?_) fun hc3 => ?_
   ·
    simp [-List.getD_eq_getElem?_getD] at hc3
    refine gs17 ?_
    refine fin_out2 (v := iV (((c.getD P default).X) + (((y - ((c.getD P default).Y)) * (((c.getD (P + 1) default).X) - ((c.getD P default).X)) / (((c.getD (P + 1) default).Y) - ((c.getD P default).Y))) + 1))) (u := .bool true) rfl rfl rfl rfl (fun w' hw => ?_)
    refine ⟨?_, hw.below rfl⟩
    rw [hle]; unfold Fu.up; rw [if_pos (by omega)]; rfl
   ·
    simp [-List.getD_eq_getElem?_getD] at hc3
    refine gs13 ?_
    refine fin_out2 (v := iV (((c.getD P default).X) + ((y - ((c.getD P default).Y)) * (((c.getD (P + 1) default).X) - ((c.getD P default).X)) / (((c.getD (P + 1) default).Y) - ((c.getD P default).Y))))) (u := .bool true) rfl rfl rfl rfl (fun w' hw => ?_)
    refine ⟨?_, hw.below rfl⟩
    rw [hle]; unfold Fu.up; rw [if_neg (by omega), Int.add_zero]; rfl
end Go.Proofs.YtblfeidlnhdekaaGreat
namespace Ba
open Fu
def slope (a d : Int) : Int := if d = 0 then 0 else if d < a then 1099511627777 else a * 1099511627776 / d + (if a * 1099511627776 % d = 0 then 0 else 1)
theorem slope_rng {a d : Int} (ha : 0 ≤ a) (hd : 0 ≤ d) : 0 ≤ slope a d ∧ slope a d ≤ 1099511627777 := by
  unfold slope
  split
  · omega
  · split
    · omega
    · have h1 : 0 ≤ a * 1099511627776 / d := Int.ediv_nonneg (by omega) (by omega)
      have h2 : a * 1099511627776 / d ≤ 1099511627776 := by
        refine Int.ediv_le_of_le_mul (by omega) ?_
        have : a * 1099511627776 ≤ d * 1099511627776 := Int.mul_le_mul_of_nonneg_right (by omega) (by omega)
        rw [Int.mul_comm 1099511627776 d]; exact this
      split <;> omega
def segS (c : List Bt.Point) (n : Nat) : Int := slope (py c (n + 1) - py c n) (px c (n + 1) - px c n)
def stTo (s : Int) (c : List Bt.Point) : Nat → Int
  | 0 => s
  | n + 1 => max (stTo s c n) (segS c n)
def stAll (cs : List (List Bt.Point)) : Int := cs.foldl (fun s c => stTo s c (c.length - 1)) 0
theorem stTo_rng {s : Int} {c : List Bt.Point} (hc : RightC c) (h0 : 0 ≤ s) (h1 : s ≤ 1099511627777) : ∀ n, n + 1 ≤ c.length → 0 ≤ stTo s c n ∧ stTo s c n ≤ 1099511627777
  | 0, _ => ⟨h0, h1⟩
  | n + 1, hn => by
    have ih := stTo_rng hc h0 h1 n (by omega)
    have hp := (hc.pt (show n + 1 < c.length by omega)).2.2 (by omega)
    rw [Nat.add_sub_cancel] at hp
    have := slope_rng (a := py c (n + 1) - py c n) (d := px c (n + 1) - px c n) (by omega) (by omega)
    show 0 ≤ max (stTo s c n) (segS c n) ∧ max (stTo s c n) (segS c n) ≤ 1099511627777
    unfold segS
    omega
theorem stAll_rng : ∀ {cs : List (List Bt.Point)}, (∀ c ∈ cs, RightC c) → 0 ≤ stAll cs ∧ stAll cs ≤ 1099511627777 := fun {cs} h => by
  have key : ∀ (cs : List (List Bt.Point)) (s : Int), (∀ c ∈ cs, RightC c) → 0 ≤ s → s ≤ 1099511627777 → 0 ≤ cs.foldl (fun s c => stTo s c (c.length - 1)) s ∧ cs.foldl (fun s c => stTo s c (c.length - 1)) s ≤ 1099511627777 := by
    intro cs
    induction cs with
    | nil => intro s _ h0 h1; exact ⟨h0, h1⟩
    | cons c cs ih =>
      intro s hc h0 h1
      have hR := hc c (by simp)
      have hl := hR.1.1
      have := stTo_rng hR h0 h1 (c.length - 1) (by omega)
      exact ih _ (fun x hx => hc x (by simp [hx])) this.1 this.2
  exact key cs 0 h (by omega) (by omega)
theorem stAll_snoc (cs : List (List Bt.Point)) {k : Nat} (hk : k < cs.length) {s : Int} (h : s = stAll (cs.take k)) : stTo s (cs.getD k []) ((cs.getD k []).length - 1) = stAll (cs.take (k + 1)) := by
  unfold stAll at *
  rw [List.take_add_one, List.getElem?_eq_getElem hk, List.foldl_append, ← h]
  simp [hk]
theorem posX_eq {c : List Bt.Point} {x : Int} {i : Nat} (hi : i ≤ c.length) (h1 : ∀ j, j < i → px c j < x) (h2 : i < c.length → x ≤ px c i) : posX c x = i := posX_is hi h2 h1
theorem val_0 {c : List Bt.Point} {x : Int} (h : RightC c) (hx : x < px c 0) : valC c x = py c 0 ∧ remC c x = false := by
  have hl := h.1.1
  have h0 : posX c x = 0 := posX_eq (by omega) (fun j hj => absurd hj (by omega)) (fun _ => by omega)
  unfold valC remC
  rw [if_pos h0, if_pos h0]; exact ⟨rfl, rfl⟩
theorem val_knot {c : List Bt.Point} {i : Nat} (h : RightC c) (hi : i < c.length) : valC c (px c i) = py c i ∧ remC c (px c i) = false := by
  have hp : posX c (px c i) = i := posX_eq (by omega) (fun j hj => px_lt h hj hi) (fun _ => by omega)
  unfold valC remC
  rw [hp]
  by_cases h0 : i = 0
  · subst h0; exact ⟨if_pos rfl, if_pos rfl⟩
  · rw [if_neg h0, if_neg h0, if_pos hi, if_pos hi]
    have hd : 0 < px c i - px c (i - 1) := by have := px_lt h (show i - 1 < i by omega) hi; omega
    refine ⟨?_, ?_⟩
    · unfold atSeg
      rw [Int.mul_comm, Int.mul_ediv_cancel _ (by omega)]; omega
    · rw [Int.mul_comm, Int.mul_emod_left]; rfl
theorem val_top {c : List Bt.Point} {x : Int} (h : RightC c) (hx : px c (c.length - 1) ≤ x) : valC c x = py c (c.length - 1) ∧ remC c x = false := by
  have hl := h.1.1
  by_cases he : x = px c (c.length - 1)
  · rw [he]; exact val_knot h (by omega)
  · have hp : posX c x = c.length := posX_eq (Nat.le_refl _) (fun j hj => by have := px_le h (show j ≤ c.length - 1 by omega) (by omega); omega) (fun hh => by omega)
    unfold valC remC
    rw [hp, if_neg (by omega), if_neg (by omega), if_neg (by omega), if_neg (by omega)]; exact ⟨rfl, rfl⟩
theorem val_seg {c : List Bt.Point} {x : Int} {i : Nat} (h : RightC c) (hi : i + 1 < c.length) (h1 : px c i ≤ x) (h2 : x < px c (i + 1)) : valC c x = py c i + (x - px c i) * (py c (i + 1) - py c i) / (px c (i + 1) - px c i) ∧ remC c x = decide (0 < (x - px c i) * (py c (i + 1) - py c i) % (px c (i + 1) - px c i)) := by
  by_cases he : x = px c i
  · rw [he]
    have := val_knot h (show i < c.length by omega)
    rw [this.1, this.2, Int.sub_self, Int.zero_mul, Int.zero_ediv, Int.zero_emod]
    exact ⟨by omega, rfl⟩
  · have hp : posX c x = i + 1 := posX_eq (by omega) (fun j hj => by have := px_le h (show j ≤ i by omega) (by omega); omega) (fun _ => by omega)
    unfold valC remC
    rw [hp, if_neg (show ¬ (i + 1 = 0) by omega), if_neg (show ¬ (i + 1 = 0) by omega), if_pos hi, if_pos hi]
    unfold atSeg
    rw [Nat.add_sub_cancel]
    exact ⟨rfl, rfl⟩
def posG (c : List Bt.Point) (x : Int) : Nat := c.findIdx fun p => decide (x < p.X)
theorem posG_le (c : List Bt.Point) (x : Int) : posG c x ≤ c.length := List.findIdx_le_length
theorem posG_iff {c : List Bt.Point} (h : RightC c) {x : Int} {i : Nat} (hi : i < c.length) : posG c x ≤ i ↔ x < px c i := by
  constructor
  · intro hp
    have hlt : posG c x < c.length := by omega
    have := List.findIdx_getElem (p := fun p : Bt.Point => decide (x < p.X)) (xs := c) (w := hlt)
    rw [decide_eq_true_eq] at this
    have hle := px_le h hp hi
    have hlt2 : (c.findIdx fun p => decide (x < p.X)) < c.length := hlt
    have he : px c (posG c x) = (c[c.findIdx fun p => decide (x < p.X)]'hlt).X := by
      show (c.getD (c.findIdx fun p => decide (x < p.X)) default).X = _
      rw [gDD, List.getElem?_eq_getElem hlt2]; rfl
    omega
  · intro hx
    rcases Nat.lt_or_ge i (posG c x) with h1 | h1
    · have := List.not_of_lt_findIdx (p := fun p : Bt.Point => decide (x < p.X)) (xs := c) h1
      have he : px c i = (c[i]'hi).X := by unfold px; rw [gDD, List.getElem?_eq_getElem hi]; rfl
      simp at this
      omega
    · exact h1
def underC (a b : List Bt.Point) : Prop := (RightC a ∧ RightC b) ∧ (∀ j, j < a.length → py a j ≤ valC b (px a j)) ∧ ∀ j, j < b.length → ¬ (py b j < valC a (px b j) ∨ valC a (px b j) = py b j ∧ remC a (px b j) = true)
instance (a b : List Bt.Point) : Decidable (underC a b) := inferInstanceAs (Decidable (_ ∧ (∀ j, j < a.length → _) ∧ ∀ j, j < b.length → _))
/-! names -/
abbrev Mk := ByteArray × ByteArray
theorem map_take_snoc {α β : Type} [Inhabited α] (f : α → β) {L : List α} {k : Nat} (h : k < L.length) : (L.map f).take (k + 1) = (L.map f).take k ++ [f (L.getD k default)] := by
  rw [List.take_add_one, List.getElem?_map, List.getElem?_eq_getElem h]
  simp [h]
theorem fold_snoc {α σ τ : Type} [Inhabited α] (step : σ → τ → σ) (s0 : σ) (pre : List τ) (f : α → τ) {L : List α} {k : Nat} (h : k < L.length) {S : σ} (hS : S = (pre ++ (L.map f).take k).foldl step s0) : step S (f (L.getD k default)) = (pre ++ (L.map f).take (k + 1)).foldl step s0 := by
  rw [map_take_snoc f h, ← List.append_assoc, List.foldl_append (l := pre ++ (L.map f).take k), ← hS]; rfl
theorem fold_end {α σ τ : Type} (step : σ → τ → σ) (s0 : σ) (pre : List τ) (f : α → τ) {L : List α} {k : Nat} (h : L.length ≤ k) {S : σ} (hS : S = (pre ++ (L.map f).take k).foldl step s0) : S = (pre ++ L.map f).foldl step s0 := by
  rw [List.take_of_length_le (by simpa using h)] at hS; exact hS
/-! sums -/
def sumTo (xs : List Int) : Nat → Int
  | 0 => 0
  | n + 1 => sumTo xs n + xs.getD n 0
def startTo (ps : List Bt.Place) : Nat → Int
  | 0 => 0
  | n + 1 => startTo ps n + sumTo (ps.getD n default).Start (ps.getD n default).Start.length
end Ba
