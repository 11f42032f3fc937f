/- Plain laws of the division of a day's water: no program in sight. Conditions: none. -/
import Derived.Test.YtpeojogjeopfaaaBits
namespace Al
open Bt
theorem LI.mem {n : Nat} {left : List Int} (h : LI n left) : ∀ x ∈ left, 0 ≤ x ∧ x ≤ 9223372036854775807 := fun x hx => by
  obtain ⟨j, hj, rfl⟩ := List.mem_iff_getElem.1 hx
  have := h.2 j
  rw [List.getD_eq_getElem?_getD, List.getElem?_eq_getElem hj, Option.getD_some] at this
  exact this
theorem day_len1 {ps : List Place} {sup : List Int} (hs : ∀ k, Ok64 (sup.getD k 0)) (rs : List Right) : (day ps rs sup).1.length = ps.length := (day_li hs rs).1
theorem day_len2 {ps : List Place} {sup : List Int} (hs : ∀ k, Ok64 (sup.getD k 0)) (rs : List Right) : (day ps rs sup).2.length = rs.length := dayFrom_glen (begin_li (ps := ps) hs (min ps.length sup.length)) rs
/-- the state after the first k rights -/
def stN (ps : List Place) (rs : List Right) (sup : List Int) (k : Nat) : List Int := (day ps (rs.take k) sup).1
theorem stN_step {ps : List Place} {rs : List Right} {sup : List Int} {k : Nat} (hk : k < rs.length) : stN ps rs sup (k + 1) = subL (stN ps rs sup k) (reach ps (rs.getD k default).Place) (lit (stN ps rs sup k) (reach ps (rs.getD k default).Place) (rs.getD k default).Rate) := by
  unfold stN day
  rw [dayFrom_step hk]; rfl
theorem grants_take {ps : List Place} : ∀ (rs : List Right) (st : List Int × List Grant), ∃ t, (rs.foldl (step ps) st).2 = st.2 ++ t
  | [], st => ⟨[], by simp⟩
  | r :: rs, st => by
    obtain ⟨t, ht⟩ := grants_take (ps := ps) rs (step ps st r)
    exact ⟨⟨r.Id, lit st.1 (reach ps r.Place) r.Rate⟩ :: t, by rw [List.foldl_cons, ht]; simp [step]⟩
/-- the grants of the first rights are the first grants -/
theorem day_take {ps : List Place} {rs : List Right} {sup : List Int} (hs : ∀ k, Ok64 (sup.getD k 0)) {k : Nat} (hk : k ≤ rs.length) : (day ps rs sup).2.take k = (day ps (rs.take k) sup).2 := by
  have h1 := day_len2 (ps := ps) hs (rs.take k)
  rw [List.length_take, Nat.min_eq_left hk] at h1
  have e : day ps rs sup = (rs.drop k).foldl (step ps) (day ps (rs.take k) sup) := by
    unfold day dayFrom
    rw [← List.foldl_append, List.take_append_drop]
  obtain ⟨t, ht⟩ := grants_take (ps := ps) (rs.drop k) (day ps (rs.take k) sup)
  have e2 : (day ps rs sup).2 = (day ps (rs.take k) sup).2 ++ t := by rw [e]; exact ht
  rw [e2, List.take_append_of_le_length (by omega), List.take_of_length_le (by omega)]
/-- the k-th grant -/
theorem day_get {ps : List Place} {rs : List Right} {sup : List Int} (hs : ∀ k, Ok64 (sup.getD k 0)) {k : Nat} (hk : k < rs.length) :
    (day ps rs sup).2.getD k default = ⟨(rs.getD k default).Id, lit (stN ps rs sup k) (reach ps (rs.getD k default).Place) (rs.getD k default).Rate⟩ := by
  have h1 := day_take (ps := ps) (rs := rs) hs (k := k + 1) hk
  have h2 : day ps (rs.take (k + 1)) sup = step ps (day ps (rs.take k) sup) (rs.getD k default) := by
    unfold day; rw [dayFrom_step hk]
  have h3 := day_len2 (ps := ps) hs (rs.take k)
  rw [List.length_take, Nat.min_eq_left (by omega)] at h3
  have h4 : (day ps rs sup).2.getD k default = ((day ps rs sup).2.take (k + 1)).getD k default := by
    simp only [List.getD_eq_getElem?_getD, List.getElem?_take, show k < k + 1 by omega, if_true]
  rw [h4, h1, h2]
  simp only [step]
  rw [List.getD_eq_getElem?_getD, List.getElem?_append_right (by omega), h3]
  simp [stN]
end Al
