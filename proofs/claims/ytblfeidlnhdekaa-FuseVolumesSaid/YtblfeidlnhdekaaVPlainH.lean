/- Plain facts: the volumes of a reading. Conditions: those of each theorem. -/
import Derived.Test.YtblfeidlnhdekaaVPlainC
namespace Fu
theorem vol_mem {c : List Bt.Point} {lo hi v : Int} (hR : RightC c) (h1 : -9223372036854775808 ≤ hi) (h2 : hi ≤ 9223372036854775807) (hv : 0 ≤ v) (hv2 : v ≤ 1125899906842624) : ((volL c lo hi).isSome = true ∧ loOf (volL c lo hi) ≤ v ∧ v ≤ hiOf (volL c lo hi)) ↔ lo ≤ atC c v ∧ atC c v ≤ hi := by
  rw [← vol_same lo hi h2 h1]
  have hat := at_rng hR v
  have f2 := first_iff hR (y := hi) hv hv2
  have f1 := first_iff hR (y := lo - 1) hv hv2
  by_cases h : lo ≤ hi
  · rw [volH_yes ⟨hR, h⟩ rfl rfl]
    by_cases h0 : 0 < lo
    · rw [if_pos h0]
      split
      · simp only [Option.isSome, loOf, hiOf, true_and]; omega
      · simp only [Option.isSome]; constructor
        · intro h9; exact absurd h9.1 (by simp)
        · intro h9; exfalso; omega
    · rw [if_neg h0]
      split
      · simp only [Option.isSome, loOf, hiOf, true_and]; omega
      · simp only [Option.isSome]; constructor
        · intro h9; exact absurd h9.1 (by simp)
        · intro h9; exfalso; omega
  · rw [volH_no (fun h9 => h h9.2)]
    simp only [Option.isSome]
    constructor
    · intro h9; exact absurd h9.1 (by simp)
    · intro h9; exfalso; omega
theorem vol_some {c : List Bt.Point} {lo hi : Int} (hR : RightC c) (h1 : -9223372036854775808 ≤ hi) (h2 : hi ≤ 9223372036854775807) (h : (volL c lo hi).isSome = true) : 0 ≤ loOf (volL c lo hi) ∧ hiOf (volL c lo hi) ≤ 1125899906842624 ∧ loOf (volL c lo hi) ≤ hiOf (volL c lo hi) := by
  rw [← vol_same lo hi h2 h1] at h ⊢
  have r2 := first_rng hR hi
  have r1 := first_rng hR (lo - 1)
  by_cases hl : lo ≤ hi
  · rw [volH_yes ⟨hR, hl⟩ rfl rfl] at h ⊢
    by_cases hle : (if 0 < lo then firstC c (lo - 1) else 0) ≤ firstC c hi - 1
    · rw [if_pos hle]
      simp only [loOf, hiOf]
      refine ⟨?_, by omega, hle⟩
      split <;> omega
    · rw [if_neg hle] at h; cases h
  · rw [volH_no (fun h9 => hl h9.2)] at h; cases h
/-- a wider reading has a span that is not narrower -/
theorem vol_wide {c : List Bt.Point} {lo hi more : Int} (hR : RightC c) (h1 : -9223372036854775808 ≤ hi) (h2 : hi + more ≤ 9223372036854775807) (hm : 0 ≤ more) (h : (volL c lo hi).isSome = true) : (volL c (lo - more) (hi + more)).isSome = true ∧ loOf (volL c (lo - more) (hi + more)) ≤ loOf (volL c lo hi) ∧ hiOf (volL c lo hi) ≤ hiOf (volL c (lo - more) (hi + more)) := by
  have hs := vol_some hR h1 (by omega) h
  have m1 := (vol_mem (lo := lo) (v := loOf (volL c lo hi)) hR h1 (by omega) hs.1 (by omega)).1 ⟨h, Int.le_refl _, hs.2.2⟩
  have m2 := (vol_mem (lo := lo) (v := hiOf (volL c lo hi)) hR h1 (by omega) (by omega) hs.2.1).1 ⟨h, hs.2.2, Int.le_refl _⟩
  have w1 := (vol_mem (lo := lo - more) (hi := hi + more) (v := loOf (volL c lo hi)) hR (by omega) h2 hs.1 (by omega)).2 (by omega)
  have w2 := (vol_mem (lo := lo - more) (hi := hi + more) (v := hiOf (volL c lo hi)) hR (by omega) h2 (by omega) hs.2.1).2 (by omega)
  exact ⟨w1.1, w1.2.1, w2.2.2⟩
end Fu
