/- Plain laws of rights apart from each other: no program in sight. Conditions: none. -/
import Derived.Test.YtpeojogjeopfaaaStops
namespace Al
open Bt
def cntM (mk : List Bool) (l : List Int) : Nat := (l.filter fun q => mk.getD q.toNat false).length
theorem cntM_step {mk : List Bool} {l : List Int} {k : Nat} (hk : k < l.length) : cntM mk (l.take (k + 1)) = if mk.getD (l.getD k 0).toNat false = true then cntM mk (l.take k) + 1 else cntM mk (l.take k) := by
  unfold cntM
  rw [List.take_succ_eq_append_getElem hk, List.filter_append]
  have hg : l.getD k 0 = l[k] := by simp [List.getD_eq_getElem?_getD, hk]
  rw [hg]
  by_cases h : mk.getD (l[k]).toNat false = true
  · rw [if_pos h, List.length_append, List.filter_cons, if_pos h]; rfl
  · rw [if_neg h, List.length_append, List.filter_cons, if_neg h]; rfl
theorem cntM_le (mk : List Bool) (l : List Int) : cntM mk l ≤ l.length := List.length_filter_le _ _
theorem cntM_all {mk : List Bool} {l : List Int} (h : cntM mk l = l.length) : ∀ q ∈ l, mk.getD q.toNat false = true := by
  intro q hq
  unfold cntM at h
  have := List.length_filter_eq_length_iff.1 h q hq
  simpa using this
theorem cntM_none {mk : List Bool} {l : List Int} (h : cntM mk l = 0) : ∀ q ∈ l, ¬ mk.getD q.toNat false = true := by
  intro q hq hm
  unfold cntM at h
  have h0 := List.length_eq_zero_iff.1 h
  have : q ∈ l.filter fun q => mk.getD q.toNat false := List.mem_filter.2 ⟨hq, hm⟩
  rw [h0] at this; cases this
/-- is a right inside the marked places -/
def insB (ps : List Place) (mk : List Bool) (r : Right) : Bool := decide (0 < cntM mk (reach ps r.Place))
def selS (ps : List Place) (mk : List Bool) (rs : List Right) (k : Nat) : List Right := (rs.take k).filter (insB ps mk)
def selT (ps : List Place) (mk : List Bool) (rs : List Right) (k : Nat) : List Int := ((List.range k).filter fun i => insB ps mk (rs.getD i default)).map fun i : Nat => (i : Int)
section
variable {ps : List Place} {mk : List Bool} {rs : List Right} {sup : List Int}
theorem selS_step {k : Nat} (hk : k < rs.length) : selS ps mk rs (k + 1) = if 0 < cntM mk (reach ps (rs.getD k default).Place) then selS ps mk rs k ++ [rs.getD k default] else selS ps mk rs k := by
  unfold selS
  rw [List.take_succ_eq_append_getElem hk, List.filter_append]
  have hg : rs.getD k default = rs[k] := by simp [List.getD_eq_getElem?_getD, hk]
  rw [hg]
  by_cases h : 0 < cntM mk (reach ps (rs[k]).Place)
  · rw [if_pos h]; simp [insB, h]
  · rw [if_neg h]; simp [insB, h]
theorem selT_step {k : Nat} : selT ps mk rs (k + 1) = if 0 < cntM mk (reach ps (rs.getD k default).Place) then selT ps mk rs k ++ [(k : Int)] else selT ps mk rs k := by
  unfold selT
  rw [List.range_succ, List.filter_append, List.map_append]
  by_cases h : 0 < cntM mk (reach ps (rs.getD k default).Place)
  · rw [if_pos h]
    have : insB ps mk (rs.getD k default) = true := by unfold insB; exact decide_eq_true h
    rw [List.filter_cons, if_pos this]; simp
  · rw [if_neg h]
    have : ¬ insB ps mk (rs.getD k default) = true := by unfold insB; simpa using h
    rw [List.filter_cons, if_neg this]; simp
theorem sel_len : ∀ k, k ≤ rs.length → (selT ps mk rs k).length = (selS ps mk rs k).length
  | 0, _ => rfl
  | k + 1, hk => by
    have ih := sel_len k (by omega)
    rw [selS_step (by omega), selT_step]
    split
    · rw [List.length_append, List.length_append, ih]; rfl
    · exact ih
theorem selT_rng {k : Nat} : ∀ x ∈ selT ps mk rs k, 0 ≤ x ∧ x < (k : Int) := fun x hx => by
  obtain ⟨i, hi, rfl⟩ := List.mem_map.1 hx
  have := List.mem_range.1 (List.mem_filter.1 hi).1
  omega
theorem day_snoc (S : List Right) (r : Right) : day ps (S ++ [r]) sup = step ps (day ps S sup) r := by
  unfold day dayFrom; rw [List.foldl_append]; rfl
theorem minL_congr {a b : List Int} : ∀ (l : List Int) (n : Int), (∀ q ∈ l, a.getD q.toNat 0 = b.getD q.toNat 0) → minL a l n = minL b l n
  | [], _, _ => rfl
  | q :: l, n, h => by
    show minL a l (min n (a.getD q.toNat 0)) = minL b l (min n (b.getD q.toNat 0))
    rw [h q (by simp)]
    exact minL_congr l _ (fun x hx => h x (by simp [hx]))
theorem lit_congr {a b l : List Int} {rate : Int} (h : ∀ q ∈ l, a.getD q.toNat 0 = b.getD q.toNat 0) : lit a l rate = lit b l rate := by
  unfold lit; rw [minL_congr l _ h]
/-- what holds of both days side by side -/
structure Both (ps : List Place) (mk : List Bool) (rs : List Right) (sup : List Int) (k : Nat) : Prop where
  left : ∀ q : Int, 0 ≤ q → mk.getD q.toNat false = true → (stN ps rs sup k).getD q.toNat 0 = (day ps (selS ps mk rs k) sup).1.getD q.toNat 0
  got : ∀ j, j < (selS ps mk rs k).length → (day ps (selS ps mk rs k) sup).2.getD j default = (day ps rs sup).2.getD ((selT ps mk rs k).getD j 0).toNat default
theorem Both.zero : Both ps mk rs sup 0 := ⟨fun _ _ _ => rfl, fun j hj => absurd hj (by simp [selS])⟩
theorem Both.step (hs : ∀ k, Ok64 (sup.getD k 0)) {k : Nat} (hk : k < rs.length) (h : Both ps mk rs sup k)
    (hin : cntM mk (reach ps (rs.getD k default).Place) = 0 ∨ cntM mk (reach ps (rs.getD k default).Place) = (reach ps (rs.getD k default).Place).length) : Both ps mk rs sup (k + 1) := by
  have hri := reach_ri ps (rs.getD k default).Place
  have hll := (day_li (ps := ps) hs (selS ps mk rs k))
  by_cases hc : 0 < cntM mk (reach ps (rs.getD k default).Place)
  · have hall := cntM_all (mk := mk) (hin.resolve_left (by omega))
    have hS : selS ps mk rs (k + 1) = selS ps mk rs k ++ [rs.getD k default] := by rw [selS_step hk, if_pos hc]
    have hT : selT ps mk rs (k + 1) = selT ps mk rs k ++ [(k : Int)] := by rw [selT_step, if_pos hc]
    have hlit : lit (stN ps rs sup k) (reach ps (rs.getD k default).Place) (rs.getD k default).Rate = lit (day ps (selS ps mk rs k) sup).1 (reach ps (rs.getD k default).Place) (rs.getD k default).Rate := lit_congr (fun q hq => h.left q (hri.2 q hq).1 (hall q hq))
    have hgl := day_len2 (ps := ps) hs (selS ps mk rs k)
    have htl := sel_len (ps := ps) (mk := mk) (rs := rs) k (by omega)
    refine ⟨fun q hq hm => ?_, fun j hj => ?_⟩
    · rw [stN_get hs hk hq, hS, day_snoc]
      show _ = (subL (day ps (selS ps mk rs k) sup).1 (reach ps (rs.getD k default).Place) (lit (day ps (selS ps mk rs k) sup).1 (reach ps (rs.getD k default).Place) (rs.getD k default).Rate)).getD q.toNat 0
      rw [subL_get _ _ hri hll.1 q hq, hlit, h.left q hq hm]
    · rw [hS, List.length_append, List.length_singleton] at hj
      rw [hS, hT, day_snoc]
      show ((day ps (selS ps mk rs k) sup).2 ++ [(⟨(rs.getD k default).Id, lit (day ps (selS ps mk rs k) sup).1 (reach ps (rs.getD k default).Place) (rs.getD k default).Rate⟩ : Grant)]).getD j default = _
      by_cases e : j < (selS ps mk rs k).length
      · have h1 := h.got j e
        rw [List.getD_eq_getElem?_getD, List.getElem?_append_left (by omega), List.getD_eq_getElem?_getD (l := selT ps mk rs k ++ _), List.getElem?_append_left (by omega)]
        rw [← List.getD_eq_getElem?_getD, ← List.getD_eq_getElem?_getD]; exact h1
      · obtain rfl : j = (selS ps mk rs k).length := by omega
        rw [List.getD_eq_getElem?_getD, List.getElem?_append_right (by omega), hgl, List.getD_eq_getElem?_getD (l := selT ps mk rs k ++ _), List.getElem?_append_right (by omega), htl]
        simp only [Nat.sub_self, List.getElem?_cons_zero, Option.getD_some, Int.toNat_natCast]
        rw [day_get hs hk, hlit]
  · have hnone := cntM_none (mk := mk) (l := reach ps (rs.getD k default).Place) (by omega)
    have hS : selS ps mk rs (k + 1) = selS ps mk rs k := by rw [selS_step hk, if_neg hc]
    have hT : selT ps mk rs (k + 1) = selT ps mk rs k := by rw [selT_step, if_neg hc]
    refine ⟨fun q hq hm => ?_, fun j hj => ?_⟩
    · rw [stN_get hs hk hq, if_neg (fun hq2 => hnone q hq2 hm), hS]; exact h.left q hq hm
    · rw [hS] at hj ⊢; rw [hT]; exact h.got j hj
end
end Al
