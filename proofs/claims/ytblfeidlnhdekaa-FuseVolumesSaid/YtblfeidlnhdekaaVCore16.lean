/- A whole element of a slice in known memory, whatever its type. Conditions: those of each theorem. -/
import Derived.Test.YtblfeidlnhdekaaVCore15
namespace Go.K
open Go
theorem RepSl.whole {α : Type} [Inhabited α] [Rep α] {Φ : Hp} {xs : List α} {v : Value} {k : Nat} (h : RepSl Φ xs v) (hk : k < xs.length) : ∃ cs, RepV Φ (xs.getD k default) cs ∧ ∀ j u, cs[j]? = some u → PCell Φ (Value.at v (k * Rep.sz α + j)) u := by
  obtain ⟨cs, h1, h2⟩ := h.at_ k hk
  have hg : xs.getD k default = xs[k] := by simp [List.getD_eq_getElem?_getD, hk]
  exact ⟨cs, by rw [hg]; exact h1, h2⟩
theorem Cells.phiK {B : Bs} {Φ : Hp} {C : List Chunk} {v : Value} {n : Nat} {cs : List Value} (h : ∀ j u, cs[j]? = some u → PCell Φ (Value.at v (n + j)) u) : Cells (St B Φ C) (Value.at v n) cs := fun j u hu => by
  rw [at_add]; exact Cell.phi (h j u hu)
theorem RepSl.strAt {Φ : Hp} {xs : List ByteArray} {v : Value} {k : Nat} (h : RepSl Φ xs v) (hk : k < xs.length) : (xs.getD k default).size ≤ maxLen ∧ PCell Φ (Value.at v (k * 1)) (.string (xs.getD k default)) := by
  obtain ⟨cs, ⟨rfl, h1⟩, h2⟩ := h.at_ k hk
  have hg : xs.getD k default = xs[k] := by simp [List.getD_eq_getElem?_getD, hk]
  exact ⟨by rw [hg]; exact h1, by rw [hg]; exact h2 0 _ rfl⟩
end Go.K
