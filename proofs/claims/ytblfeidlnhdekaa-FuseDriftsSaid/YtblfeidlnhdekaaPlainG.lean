/- Plain facts of the layer: which gauges drift. Conditions: those of each theorem. -/
import Derived.Test.YtblfeidlnhdekaaPlainE
namespace Fu
/-- the law's own flag after k lists -/
def namI (g : Int) (hist : List (List Int)) : Nat → Bool
  | 0 => decide (3 ≤ (hist.length : Int))
  | k + 1 => namI g hist k && (decide (g ∈ hist.getD k []) || decide ((k : Int) < (hist.length : Int) - 3))
theorem namI_iff (g : Int) (hist : List (List Int)) : ∀ k, namI g hist k = true ↔ 3 ≤ (hist.length : Int) ∧ ∀ j, j < k → g ∈ hist.getD j [] ∨ (j : Int) < (hist.length : Int) - 3
  | 0 => by simp [namI]
  | k + 1 => by
    unfold namI
    rw [Bool.and_eq_true, namI_iff g hist k, Bool.or_eq_true, decide_eq_true_eq, decide_eq_true_eq]
    constructor
    · rintro ⟨⟨h1, h2⟩, h3⟩
      refine ⟨h1, fun j hj => ?_⟩
      rcases Nat.lt_or_eq_of_le (Nat.lt_succ_iff.1 hj) with h | h
      · exact h2 j h
      · subst h; exact h3
    · rintro ⟨h1, h2⟩
      exact ⟨⟨h1, fun j hj => h2 j (by omega)⟩, h2 k (by omega)⟩
theorem namI_end (g : Int) (hist : List (List Int)) : namI g hist hist.length = true ↔ 3 ≤ hist.length ∧ ∀ m ∈ hist.drop (hist.length - 3), g ∈ m := by
  rw [namI_iff]
  constructor
  · rintro ⟨h1, h2⟩
    have h3 : ¬ hist.length < 3 := by omega
    refine ⟨by omega, fun m hm => ?_⟩
    rw [last3 h3] at hm
    simp only [List.mem_cons, List.not_mem_nil, or_false] at hm
    rcases hm with rfl | rfl | rfl
    · rcases h2 (hist.length - 3) (by omega) with h | h
      · exact h
      · omega
    · rcases h2 (hist.length - 2) (by omega) with h | h
      · exact h
      · omega
    · rcases h2 (hist.length - 1) (by omega) with h | h
      · exact h
      · omega
  · rintro ⟨h1, h2⟩
    refine ⟨by omega, fun j hj => ?_⟩
    rw [last3 (by omega)] at h2
    by_cases hj3 : (j : Int) < (hist.length : Int) - 3
    · exact .inr hj3
    · left
      have : j = hist.length - 3 ∨ j = hist.length - 2 ∨ j = hist.length - 1 := by omega
      rcases this with rfl | rfl | rfl <;> exact h2 _ (by simp)
theorem drift_mem (g : Int) (n : Nat) (hist : List (List Int)) : decide (g ∈ drift n hist) = ((namI g hist hist.length && decide (0 ≤ g)) && decide (g < (n : Int))) := by
  rw [Bool.eq_iff_iff]
  rw [Bool.and_eq_true, Bool.and_eq_true, namI_end, decide_eq_true_eq, decide_eq_true_eq, decide_eq_true_eq]
  by_cases h3 : hist.length < 3
  · rw [show drift n hist = [] from if_pos h3]
    constructor
    · intro h; cases h
    · rintro ⟨⟨⟨h, _⟩, _⟩, _⟩; omega
  · rw [drift_eq h3]
    unfold drI
    rw [List.mem_filter, List.mem_map]
    constructor
    · rintro ⟨⟨i, hi, rfl⟩, ha⟩
      have := List.mem_range.1 hi
      rw [List.all_eq_true] at ha
      exact ⟨⟨⟨by omega, fun m hm => of_decide_eq_true (ha m hm)⟩, by omega⟩, by omega⟩
    · rintro ⟨⟨⟨_, ha⟩, h0⟩, h1⟩
      refine ⟨⟨g.toNat, List.mem_range.2 (by omega), by omega⟩, ?_⟩
      rw [List.all_eq_true]
      exact fun m hm => decide_eq_true (ha m hm)
theorem drift_asc (n : Nat) (hist : List (List Int)) : (drift n hist).Pairwise (· < ·) := by
  unfold drift
  split
  · exact List.Pairwise.nil
  · refine List.Pairwise.sublist List.filter_sublist ?_
    rw [List.pairwise_map]
    exact List.Pairwise.imp (fun h => by omega) List.pairwise_lt_range
theorem drift_rng {n : Nat} {hist : List (List Int)} {x : Int} (h : x ∈ drift n hist) : 0 ≤ x ∧ x < (n : Int) := by
  by_cases h3 : hist.length < 3
  · rw [show drift n hist = [] from if_pos h3] at h; cases h
  · rw [drift_eq h3] at h; exact drI_rng h
theorem drift_len (n : Nat) (hist : List (List Int)) : (drift n hist).length ≤ n := by
  by_cases h3 : hist.length < 3
  · rw [show drift n hist = [] from if_pos h3]; exact Nat.zero_le _
  · rw [drift_eq h3]; exact drI_len n _
theorem drift_none (n : Nat) (hist : List (List Int)) : drift n (hist ++ [[]]) = [] := by
  by_cases h3 : (hist ++ [[]]).length < 3
  · exact if_pos h3
  · rw [drift_eq h3, last3 h3]
    unfold drI
    refine List.filter_eq_nil_iff.2 fun x _ => ?_
    have hl : (hist ++ [[]]).getD ((hist ++ [[]]).length - 1) [] = [] := by
      rw [List.getD_eq_getElem?_getD, List.getElem?_append_right (by simp)]
      simp
    rw [hl]
    simp
theorem drift_last (n : Nat) (hist : List (List Int)) : drift n ((hist.take hist.length).drop (hist.length - 3)) = drift n hist := by
  rw [List.take_length]
  by_cases h3 : hist.length < 3
  · rw [show hist.length - 3 = 0 by omega, List.drop_zero]
  · rw [drift_eq h3, drift_eq (by rw [List.length_drop]; omega), List.length_drop, show hist.length - (hist.length - 3) - 3 = 0 by omega, List.drop_zero]
end Fu
