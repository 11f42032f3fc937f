/- Plain facts of the layer: the first number that is not zero, comparing. Conditions: those of each theorem. -/
import Derived.Test.YtlljbndnodbecaaPlainB
import Derived.Test.YtlljbndnodbecaaCore10
import Derived.Lib.Bytealg
namespace Se
open Go
def orL : List Int → Int
  | [] => 0
  | x :: xs => if x = 0 then orL xs else x
theorem orL_miss : ∀ {xs : List Int}, (∀ j, j < xs.length → xs.getD j 0 = 0) → orL xs = 0
  | [], _ => rfl
  | x :: xs, h => by
    have h0 := h 0 (by simp)
    rw [orL, if_pos (by simpa using h0)]
    exact orL_miss fun j hj => by have := h (j + 1) (by simpa using hj); simpa using this
theorem orL_hit : ∀ {xs : List Int} {k : Nat}, k < xs.length → (∀ j, j < k → xs.getD j 0 = 0) → xs.getD k 0 ≠ 0 → orL xs = xs.getD k 0
  | [], k, h, _, _ => by simp at h
  | x :: xs, 0, _, _, h => by rw [orL, if_neg (by simpa using h)]; rfl
  | x :: xs, k + 1, hk, hz, h => by
    have h0 := hz 0 (by omega)
    rw [orL, if_pos (by simpa using h0)]
    have := orL_hit (xs := xs) (k := k) (by simpa using hk) (fun j hj => by have := hz (j + 1) (by omega); simpa using this) (by simpa using h)
    simpa using this
theorem compare_eq : ∀ x y : List UInt8, Lib.compareBytes x y = cB x y
  | [], [] => rfl
  | [], _ :: _ => rfl
  | _ :: _, [] => rfl
  | a :: l, b :: r => by
    have ih := compare_eq l r
    unfold Lib.compareBytes cB bltB
    by_cases h1 : a.toNat < b.toNat
    · rw [if_pos (show a < b from h1), if_pos h1, if_pos rfl]
    · by_cases h2 : b.toNat < a.toNat
      · rw [if_neg (show ¬ a < b from h1), if_pos (show b < a from h2), if_neg h1, if_pos h2, if_pos h2, if_neg (by decide), if_pos rfl]
      · rw [if_neg (show ¬ a < b from h1), if_neg (show ¬ b < a from h2), if_neg h1, if_neg h2, if_neg h2, if_neg h1, ih]; rfl
theorem cG_or (x y : Bt.Gram) : orL [cI x.Gauge y.Gauge, cI x.Seq y.Seq, cI x.Clock y.Clock, cI x.Value y.Value, Lib.compareBytes x.Tag.data.toList y.Tag.data.toList] = cG x y := by
  rw [compare_eq]
  unfold cG or2
  simp only [orL]
  split
  · split
    · split
      · split
        · split
          · rename_i h; exact h.symm
          · rfl
        · rfl
      · rfl
    · rfl
  · rfl
def cR (x y : Bt.Reading) : Int := or2 (cI x.Hour y.Hour) (cI x.Gauge y.Gauge)
theorem cR_or (x y : Bt.Reading) : orL [cI x.Hour y.Hour, cI x.Gauge y.Gauge] = cR x y := by
  unfold cR or2
  simp only [orL]
  split
  · split
    · rename_i h; exact h.symm
    · rfl
  · rfl
theorem cI_rng (x y : Int) : -1 ≤ cI x y ∧ cI x y ≤ 1 := by rcases cI_cases x y with h | h | h <;> omega
theorem cB_rng (x y : List UInt8) : -1 ≤ cB x y ∧ cB x y ≤ 1 := by rcases cB_cases x y with h | h | h <;> omega
theorem wf5 (a b c d e f g h : Int) (x y : List UInt8) : ∀ z ∈ [cI a b, cI c d, cI e f, cI g h, Lib.compareBytes x y], Go.K.I64 z := fun z hz => by
  rw [compare_eq] at hz
  simp only [List.mem_cons, List.not_mem_nil, or_false] at hz
  have h1 := cI_rng a b; have h2 := cI_rng c d; have h3 := cI_rng e f; have h4 := cI_rng g h; have h5 := cB_rng x y
  unfold Go.K.I64
  rcases hz with rfl | rfl | rfl | rfl | rfl <;> omega
theorem wf2 (a b c d : Int) : ∀ z ∈ [cI a b, cI c d], Go.K.I64 z := fun z hz => by
  simp only [List.mem_cons, List.not_mem_nil, or_false] at hz
  have h1 := cI_rng a b; have h2 := cI_rng c d
  unfold Go.K.I64
  rcases hz with rfl | rfl <;> omega
end Se
