/- Plain facts of the layer: well-formed telegrams, equal telegrams, members. Conditions: those of each theorem. -/
import Derived.Test.YtlljbndnodbecaaPlainC
namespace Se
def Formed (t : Bt.Gram) : Prop := (0 ≤ t.Gauge ∧ t.Gauge ≤ 127) ∧ (0 ≤ t.Seq ∧ t.Seq ≤ 1099511627776) ∧ (0 ≤ t.Clock ∧ t.Clock ≤ 1006633019) ∧ (-1099511627776 ≤ t.Value ∧ t.Value ≤ 1099511627776) ∧ t.Tag.data.toList.length = 8
instance (t : Bt.Gram) : Decidable (Formed t) := inferInstanceAs (Decidable (_ ∧ _ ∧ _ ∧ _ ∧ _))
theorem formed_iff (t : Bt.Gram) : ((decide (max 0 (min 127 t.Gauge) = t.Gauge) && decide (max 0 (min 1099511627776 t.Seq) = t.Seq) && decide (max 0 (min 1006633019 t.Clock) = t.Clock) && decide (max (-1099511627776) (min 1099511627776 t.Value) = t.Value)) && decide ((t.Tag.data.toList.length : Int) = 8)) = decide (Formed t) := by
  rw [Bool.eq_iff_iff]
  simp only [Bool.and_eq_true, decide_eq_true_eq]
  unfold Formed
  constructor
  · rintro ⟨⟨⟨⟨h1, h2⟩, h3⟩, h4⟩, h5⟩
    exact ⟨by omega, by omega, by omega, by omega, by omega⟩
  · rintro ⟨h1, h2, h3, h4, h5⟩
    exact ⟨⟨⟨⟨by omega, by omega⟩, by omega⟩, by omega⟩, by omega⟩
theorem right_iff (n : Nat) (t : Bt.Gram) : (decide (Formed t) && decide (t.Gauge < (n : Int))) = decide (Right n t) := by
  rw [Bool.eq_iff_iff]
  simp only [Bool.and_eq_true, decide_eq_true_eq]
  unfold Formed Right
  constructor
  · rintro ⟨⟨h1, h2, h3, h4, h5⟩, h6⟩; exact ⟨h1, h2, h3, h4, h5, h6⟩
  · rintro ⟨h1, h2, h3, h4, h5, h6⟩; exact ⟨⟨h1, h2, h3, h4, h5⟩, h6⟩
def Few (l : List Bt.Gram) : Prop := (∀ j, j < l.length → (l.getD j default).Tag.size ≤ 100) ∧ l.length ≤ 60
instance (l : List Bt.Gram) : Decidable (Few l) := inferInstanceAs (Decidable ((∀ j, j < l.length → _) ∧ _))
theorem gram_eqP {x y : Bt.Gram} (h : (((x.Gauge = y.Gauge ∧ x.Seq = y.Seq) ∧ x.Clock = y.Clock) ∧ x.Value = y.Value) ∧ x.Tag.data = y.Tag.data) : x = y := gram_ext h.1.1.1.1 h.1.1.1.2 h.1.1.2 h.1.2 (by rw [h.2])
theorem gram_eqB {x y : Bt.Gram} (h : (((x.Gauge = y.Gauge ∧ x.Seq = y.Seq) ∧ x.Clock = y.Clock) ∧ x.Value = y.Value) ∧ x.Tag.data = y.Tag.data) : x = y := gram_eqP h
theorem read_eqP {x y : Bt.Reading} (h : ((x.Gauge = y.Gauge ∧ x.Hour = y.Hour) ∧ x.Value.Lo = y.Value.Lo) ∧ x.Value.Hi = y.Value.Hi) : x = y := by
  obtain ⟨a, b, ⟨c, d⟩⟩ := x; obtain ⟨a', b', ⟨c', d'⟩⟩ := y
  simp only at h; obtain ⟨⟨⟨rfl, rfl⟩, rfl⟩, rfl⟩ := h; rfl
theorem mem_t {α : Type} [Inhabited α] {xs : List α} {v : α} {k : Nat} (hk : k < xs.length) (h : xs.getD k default = v) : v ∈ xs := by
  rw [← h]; exact getD_mem hk
theorem mem_f {α : Type} [Inhabited α] {xs : List α} {v : α} (h : ∀ j, j < xs.length → xs.getD j default ≠ v) : v ∉ xs := fun hm => by
  obtain ⟨i, hi, e⟩ := List.mem_iff_getElem.1 hm
  have := h i hi
  rw [List.getD_eq_getElem?_getD, List.getElem?_eq_getElem hi] at this
  exact this e
end Se
