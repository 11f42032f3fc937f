/- Plain facts: lists of telegrams taken from the end of a list. Conditions: those of each theorem. -/
import Derived.Test.YtlljbndnodbecaaPlainI
namespace Se
theorem drop_getD {α : Type} [Inhabited α] {L : List α} {j : Nat} (h : j < L.length) : L.drop j = L.getD j default :: L.drop (j + 1) := by
  rw [List.drop_eq_getElem_cons h]; simp [h]
def Rgt (b : Bt.Basin) (t : Bt.Gram) : Prop := Right b.Gauges.length t ∨ 0 ≤ t.Gauge ∧ t.Gauge < (b.Gauges.length : Int)
structure Bk (b : Bt.Basin) (xs : List Bt.Gram) (q : Int) (j : Nat) (X Y Z : List Bt.Gram) : Prop where
  x1 : ∀ t ∈ X, t ∈ xs
  x2 : ∀ t ∈ xs.drop j, t ∈ X
  xl : X.length + 2 * j ≤ 2 * xs.length
  y : ∀ t, t ∈ Y ↔ t ∈ xs.drop j ∧ Rgt b t
  yl : Y.length + j ≤ xs.length
  z : ∀ t, t ∈ Z ↔ t ∈ xs.drop j ∧ t.Gauge = q
  zl : Z.length + j ≤ xs.length
theorem Bk.start {b : Bt.Basin} {xs : List Bt.Gram} {q : Int} : Bk b xs q xs.length [] [] [] where
  x1 := fun _ h => by cases h
  x2 := fun t h => by simp at h
  xl := by simp
  y := fun t => by simp
  yl := by simp
  z := fun t => by simp
  zl := by simp
theorem Bk.step {b : Bt.Basin} {xs : List Bt.Gram} {q : Int} {j : Nat} {X Y Z : List Bt.Gram} (h : Bk b xs q j X Y Z) (h0 : 0 < j) (hj : j ≤ xs.length) {a c : Bt.Gram} (ha : a = xs.getD (j - 1) default) (hc : c ∈ xs) {Y' Z' : List Bt.Gram}
    (hY : Rgt b a ∧ Y' = Y ++ [a] ∨ ¬ Rgt b a ∧ Y' = Y) (hZ : a.Gauge = q ∧ Z' = Z ++ [a] ∨ a.Gauge ≠ q ∧ Z' = Z) : Bk b xs q (j - 1) (X ++ [a, c]) Y' Z' := by
  have hd : xs.drop (j - 1) = a :: xs.drop j := by rw [drop_getD (show j - 1 < xs.length by omega), ← ha, show j - 1 + 1 = j by omega]
  have ham : a ∈ xs := by rw [ha]; exact getD_mem (by omega)
  have hxl := h.xl; have hyl := h.yl; have hzl := h.zl
  refine ⟨fun t ht => ?_, fun t ht => ?_, by simp; omega, fun t => ?_, ?_, fun t => ?_, ?_⟩
  · simp only [List.mem_append, List.mem_cons, List.not_mem_nil, or_false] at ht
    rcases ht with ht | rfl | rfl
    · exact h.x1 t ht
    · exact ham
    · exact hc
  · rw [hd, List.mem_cons] at ht
    simp only [List.mem_append, List.mem_cons, List.not_mem_nil, or_false]
    rcases ht with rfl | ht
    · exact .inr (.inl rfl)
    · exact .inl (h.x2 t ht)
  · rw [hd, List.mem_cons]
    rcases hY with ⟨h1, rfl⟩ | ⟨h1, rfl⟩
    · rw [List.mem_append, h.y, List.mem_singleton]
      constructor
      · rintro (⟨h2, h3⟩ | rfl)
        · exact ⟨.inr h2, h3⟩
        · exact ⟨.inl rfl, h1⟩
      · rintro ⟨rfl | h2, h3⟩
        · exact .inr rfl
        · exact .inl ⟨h2, h3⟩
    · rw [h.y]
      constructor
      · exact fun h2 => ⟨.inr h2.1, h2.2⟩
      · rintro ⟨rfl | h2, h3⟩
        · exact absurd h3 h1
        · exact ⟨h2, h3⟩
  · rcases hY with ⟨_, rfl⟩ | ⟨_, rfl⟩
    · simp; omega
    · omega
  · rw [hd, List.mem_cons]
    rcases hZ with ⟨h1, rfl⟩ | ⟨h1, rfl⟩
    · rw [List.mem_append, h.z, List.mem_singleton]
      constructor
      · rintro (⟨h2, h3⟩ | rfl)
        · exact ⟨.inr h2, h3⟩
        · exact ⟨.inl rfl, h1⟩
      · rintro ⟨rfl | h2, h3⟩
        · exact .inr rfl
        · exact .inl ⟨h2, h3⟩
    · rw [h.z]
      constructor
      · exact fun h2 => ⟨.inr h2.1, h2.2⟩
      · rintro ⟨rfl | h2, h3⟩
        · exact absurd h3 h1
        · exact ⟨h2, h3⟩
  · rcases hZ with ⟨_, rfl⟩ | ⟨_, rfl⟩
    · simp; omega
    · omega
theorem Bk.same {b : Bt.Basin} {xs : List Bt.Gram} {q : Int} {X Y Z : List Bt.Gram} (h : Bk b xs q 0 X Y Z) (t : Bt.Gram) : t ∈ xs ↔ t ∈ X := ⟨fun ht => h.x2 t (by simpa using ht), h.x1 t⟩
theorem Bk.right {b : Bt.Basin} {xs : List Bt.Gram} {q : Int} {X Y Z : List Bt.Gram} (h : Bk b xs q 0 X Y Z) (t : Bt.Gram) : t ∈ Y ↔ t ∈ xs ∧ (Right b.Gauges.length t ∨ 0 ≤ t.Gauge ∧ t.Gauge < (b.Gauges.length : Int)) := by rw [h.y]; rfl
theorem Bk.own {b : Bt.Basin} {xs : List Bt.Gram} {q : Int} {X Y Z : List Bt.Gram} (h : Bk b xs q 0 X Y Z) (t : Bt.Gram) : t ∈ Z ↔ t ∈ xs ∧ t.Gauge = q := by rw [h.z]; rfl
theorem Bk.subY {b : Bt.Basin} {xs : List Bt.Gram} {q : Int} {j : Nat} {X Y Z : List Bt.Gram} (h : Bk b xs q j X Y Z) {t : Bt.Gram} (ht : t ∈ Y) : t ∈ xs := List.mem_of_mem_drop ((h.y t).1 ht).1
theorem Bk.subZ {b : Bt.Basin} {xs : List Bt.Gram} {q : Int} {j : Nat} {X Y Z : List Bt.Gram} (h : Bk b xs q j X Y Z) {t : Bt.Gram} (ht : t ∈ Z) : t ∈ xs := List.mem_of_mem_drop ((h.z t).1 ht).1
end Se
