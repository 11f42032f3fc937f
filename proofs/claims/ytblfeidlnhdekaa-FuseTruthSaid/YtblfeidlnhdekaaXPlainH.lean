/- Plain facts: the volumes of a reading. Conditions: those of each theorem. -/
import Derived.Test.YtblfeidlnhdekaaXPlainE
namespace Fu
theorem vol_mem {c : List Bt.Point} {lo hi v : Int} (hR : RightC c) (h1 : -9223372036854775808 ≤ hi) (h2 : hi ≤ 9223372036854775807) (hv : 0 ≤ v) (hv2 : v ≤ 1125899906842624) : ((volL c lo hi).isSome = true ∧ loOf (volL c lo hi) ≤ v ∧ v ≤ hiOf (volL c lo hi)) ↔ lo ≤ atC c v ∧ atC c v ≤ hi := by
  rw [← vol_same lo hi h2 h1]
  have hat := at_rng hR v
  have f2 := first_iff hR (y := hi) hv hv2
  have f1 := first_iff hR (y := lo - 1) hv hv2
  by_cases h : lo ≤ hi
  · rw [volH_yes ⟨hR, h⟩ rfl rfl]
    by_cases h0 : 0 < lo
    · rw [if_pos h0]
      split
      · simp only [Option.isSome, loOf, hiOf, true_and]; omega
      · simp only [Option.isSome]; constructor
        · intro h9; exact absurd h9.1 (by simp)
        · intro h9; exfalso; omega
    · rw [if_neg h0]
      split
      · simp only [Option.isSome, loOf, hiOf, true_and]; omega
      · simp only [Option.isSome]; constructor
        · intro h9; exact absurd h9.1 (by simp)
        · intro h9; exfalso; omega
  · rw [volH_no (fun h9 => h h9.2)]
    simp only [Option.isSome]
    constructor
    · intro h9; exact absurd h9.1 (by simp)
    · intro h9; exfalso; omega
end Fu
