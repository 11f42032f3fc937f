/- Plain laws of the division of a day's water, on where rights stop: no program in sight. Conditions: none. -/
import Derived.Test.YtpeojogjeopfaaaLaws
namespace Al
open Bt
theorem base_t {r l p n : Int} (h : r ≤ l ∨ ¬ (0 ≤ p ∧ p < n)) : (decide (r ≤ l) || !(decide (0 ≤ p) && decide (p < n))) = true := by
  simp only [Bool.or_eq_true, decide_eq_true_eq, Bool.not_eq_true', Bool.and_eq_false_iff, decide_eq_false_iff_not]
  omega
theorem minL_hit {left : List Int} : ∀ (l : List Int) (n : Int), minL left l n = n ∨ ∃ q ∈ l, minL left l n = left.getD q.toNat 0
  | [], n => .inl rfl
  | q :: l, n => by
    have e : minL left (q :: l) n = minL left l (min n (left.getD q.toNat 0)) := rfl
    rw [e]
    rcases minL_hit l (min n (left.getD q.toNat 0)) with h | ⟨x, hx, h⟩
    · rw [h]
      by_cases hle : n ≤ left.getD q.toNat 0
      · exact .inl (by omega)
      · exact .inr ⟨q, by simp, by omega⟩
    · exact .inr ⟨x, by simp [hx], h⟩
theorem lit_hit {left l : List Int} {rate : Int} (h0 : 0 < l.length) (hlt : lit left l rate < rate) : ∃ q ∈ l, left.getD q.toNat 0 = lit left l rate := by
  unfold lit at hlt ⊢
  rw [if_neg (by omega)] at hlt ⊢
  rcases minL_hit (left := left) l (max 0 rate) with h | ⟨q, hq, h⟩
  · omega
  · exact ⟨q, hq, h.symm⟩
section
variable {ps : List Place} {rs : List Right} {sup : List Int}
theorem stN_li (hs : ∀ k, Ok64 (sup.getD k 0)) (k : Nat) : LI ps.length (stN ps rs sup k) := day_li hs _
theorem stN_get (hs : ∀ k, Ok64 (sup.getD k 0)) {k : Nat} (hk : k < rs.length) {q : Int} (hq : 0 ≤ q) :
    (stN ps rs sup (k + 1)).getD q.toNat 0 = if q ∈ reach ps (rs.getD k default).Place then (stN ps rs sup k).getD q.toNat 0 - lit (stN ps rs sup k) (reach ps (rs.getD k default).Place) (rs.getD k default).Rate else (stN ps rs sup k).getD q.toNat 0 := by
  rw [stN_step hk]
  exact subL_get _ _ (reach_ri _ _) (stN_li hs k).1 q hq
theorem stN_end : stN ps rs sup rs.length = (day ps rs sup).1 := by unfold stN; rw [List.take_length]
theorem stN_zero {q : Nat} (hq : q < ps.length) : (stN ps rs sup 0).getD q 0 = thereM ps sup (q : Int) := by
  show (beginL ps sup (min ps.length sup.length)).getD q 0 = _
  unfold beginL
  rw [getD_map_range hq]; rfl
theorem dry (hs : ∀ k, Ok64 (sup.getD k 0)) {q : Int} (hq : 0 ≤ q) : ∀ (d k : Nat), k + d ≤ rs.length → (stN ps rs sup k).getD q.toNat 0 = 0 → (stN ps rs sup (k + d)).getD q.toNat 0 = 0
  | 0, _, _, h => h
  | d + 1, k, hk, h => by
    have h1 := dry hs hq d k (by omega) h
    have h2 := stN_get (ps := ps) (rs := rs) hs (k := k + d) (by omega) hq
    have h3 := (stN_li (ps := ps) (rs := rs) hs (k + (d + 1))).2 q.toNat
    have h4 := (lit_rng (left := stN ps rs sup (k + d)) (l := reach ps (rs.getD (k + d) default).Place) (rate := (rs.getD (k + d) default).Rate) (fun j => ((stN_li hs (k + d)).2 j).1)).1
    rw [show k + (d + 1) = k + d + 1 by omega] at h3 ⊢
    rw [h2] at h3 ⊢
    split at h3 <;> rename_i hm
    · rw [if_pos hm]; omega
    · rw [if_neg hm]; exact h1
theorem reach_pos {p : Int} (hp : 0 ≤ p ∧ p < ps.length) : 0 < (reach ps p).length := by
  unfold reach reachGo
  rw [if_pos ⟨hp, by simp⟩]
  split
  · simp
  · have key : ∀ (f : Nat) (p : Int) (L : List Int), L.length ≤ (reachGo ps f p L).length := by
      intro f
      induction f with
      | zero => intro p L; exact Nat.le_refl _
      | succ f ih =>
        intro p L
        rw [reachGo]
        split
        · split
          · simp
          · have := ih (ps.getD p.toNat default).Down (L ++ [p]); rw [List.length_append] at this; omega
        · exact Nat.le_refl _
    have := key ps.length (ps.getD p.toNat default).Down ([] ++ [p])
    have e : ([] ++ [p] : List Int).length = 1 := rfl
    omega
theorem reach_out {p : Int} (hp : ¬ (0 ≤ p ∧ p < ps.length)) : reach ps p = [] := by
  unfold reach reachGo
  rw [if_neg (fun h => hp h.1)]
/-- a right that is short stops at a place where nothing is left -/
theorem stop_at (hs : ∀ k, Ok64 (sup.getD k 0)) {k : Nat} (hk : k < rs.length) (hp : 0 ≤ (rs.getD k default).Place ∧ (rs.getD k default).Place < ps.length) (hlt : ((day ps rs sup).2.getD k default).Litres < (rs.getD k default).Rate) :
    ∃ j, j < (reach ps (rs.getD k default).Place).length ∧ (day ps rs sup).1.getD ((reach ps (rs.getD k default).Place).getD j 0).toNat 0 = 0 := by
  rw [day_get hs hk] at hlt
  obtain ⟨q, hq, h⟩ := lit_hit (reach_pos hp) hlt
  have hq0 := ((reach_ri ps (rs.getD k default).Place).2 q hq).1
  have h1 := stN_get (ps := ps) (rs := rs) hs hk hq0
  rw [if_pos hq] at h1
  have h2 := dry (ps := ps) (rs := rs) hs hq0 (rs.length - (k + 1)) (k + 1) (by omega) (by omega)
  rw [show k + 1 + (rs.length - (k + 1)) = rs.length by omega, stN_end] at h2
  obtain ⟨j, hj, rfl⟩ := List.mem_iff_getElem.1 hq
  have hg : (reach ps (rs.getD k default).Place).getD j 0 = (reach ps (rs.getD k default).Place)[j] := by rw [List.getD_eq_getElem?_getD, List.getElem?_eq_getElem hj]; rfl
  exact ⟨j, hj, by rw [hg]; exact h2⟩
theorem grant_rng (hs : ∀ k, Ok64 (sup.getD k 0)) {k : Nat} (hk : k < rs.length) :
    ((day ps rs sup).2.getD k default).Right = (rs.getD k default).Id ∧ 0 ≤ ((day ps rs sup).2.getD k default).Litres ∧ ((day ps rs sup).2.getD k default).Litres ≤ max 0 (rs.getD k default).Rate ∧
      (¬ (0 ≤ (rs.getD k default).Place ∧ (rs.getD k default).Place < ps.length) → ((day ps rs sup).2.getD k default).Litres = 0) := by
  rw [day_get hs hk]
  have h := lit_rng (left := stN ps rs sup k) (l := reach ps (rs.getD k default).Place) (rate := (rs.getD k default).Rate) (fun j => ((stN_li hs k).2 j).1)
  exact ⟨rfl, h.1, h.2.1, fun hp => lit_zero (by rw [reach_out hp]; rfl)⟩
/-- one right more -/
theorem sum_step (hs : ∀ k, Ok64 (sup.getD k 0)) {k q : Nat} (hk : k < rs.length) : (stN ps rs sup (k + 1)).getD q 0 = if (q : Int) ∈ reach ps (rs.getD k default).Place then (stN ps rs sup k).getD q 0 - ((day ps rs sup).2.getD k default).Litres else (stN ps rs sup k).getD q 0 := by
  have h := stN_get (ps := ps) (rs := rs) hs hk (q := (q : Int)) (by omega)
  rw [Int.toNat_natCast] at h
  rw [h, day_get hs hk]
end
end Al
