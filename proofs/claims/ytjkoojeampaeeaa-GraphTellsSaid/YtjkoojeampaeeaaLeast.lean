/- Plain facts on the least order of a graph: no program in sight. Conditions: none. -/
import Derived.Test.YtjkoojeampaeeaaOrders2
namespace Gr
theorem less_pre : ∀ (P a b : List Int), lessB (P ++ a) (P ++ b) = lessB a b
  | [], _, _ => rfl
  | x :: P, a, b => by rw [List.cons_append, List.cons_append, lessB, if_pos rfl, less_pre P a b]
theorem less_same : ∀ a : List Int, lessB a a = false
  | [] => rfl
  | x :: a => by rw [lessB, if_pos rfl, less_same a]
theorem orderGo_pre {n : Nat} {arcs : List Arc} : ∀ {k : Nat} {P M : List Int}, orderGo n arcs k P = some M → ∃ t, M = P ++ t
  | 0, P, M, h => ⟨[], by rw [orderGo] at h; simpa using h.symm⟩
  | k + 1, P, M, h => by
    rw [orderGo] at h
    cases hv : nextFree n arcs P with
    | none => rw [hv] at h; cases h
    | some v =>
      rw [hv] at h
      obtain ⟨t, ht⟩ := orderGo_pre (k := k) h
      exact ⟨v :: t, by rw [ht]; simp⟩
theorem next_least {n : Nat} {arcs : List Arc} {L : List Int} {v x : Int} (h : nextFree n arcs L = some v) (hx : 0 ≤ x ∧ x < (n : Int)) (hf : freeB arcs L x = true) : v ≤ x := by
  unfold nextFree at h
  obtain ⟨k, hk, rfl⟩ := Option.map_eq_some_iff.1 h
  obtain ⟨y, rfl⟩ := Int.eq_ofNat_of_zero_le hx.1
  refine Classical.byContradiction fun hc => ?_
  have h1 := (List.find?_range_eq_some.1 hk).2.2 y (by omega)
  rw [hf] at h1; cases h1
/-- each node of the list is free when it comes -/
def Fr (n : Nat) (arcs : List Arc) (L : List Int) : Prop := ∀ k, k < L.length → (0 ≤ L.getD k 0 ∧ L.getD k 0 < (n : Int)) ∧ freeB arcs (L.take k) (L.getD k 0) = true
theorem fr_least {n : Nat} {arcs : List Arc} : ∀ {k : Nat} {P M t : List Int}, orderGo n arcs k P = some M → Fr n arcs (P ++ t) → t.length = k → lessB (P ++ t) M = false
  | 0, P, M, t, h, _, hl => by
    obtain rfl : t = [] := by simpa using hl
    obtain rfl : P = M := by simpa [orderGo] using h
    rw [List.append_nil]; exact less_same P
  | k + 1, P, M, [], h, _, hl => by cases hl
  | k + 1, P, M, x :: t, h, hf, hl => by
    rw [orderGo] at h
    cases hv : nextFree n arcs P with
    | none => rw [hv] at h; cases h
    | some v =>
      rw [hv] at h
      have h1 := hf P.length (by simp)
      have e1 : (P ++ x :: t).getD P.length 0 = x := by simp [List.getD_eq_getElem?_getD]
      have e2 : (P ++ x :: t).take P.length = P := by simp
      rw [e1, e2] at h1
      have hle := next_least hv h1.1 h1.2
      by_cases e : x = v
      · subst e
        have := fr_least (k := k) (P := P ++ [x]) (t := t) h (by simpa using hf) (by simpa using hl)
        simpa using this
      · obtain ⟨m, rfl⟩ := orderGo_pre h
        rw [List.append_assoc, less_pre, List.singleton_append, lessB, if_neg e]
        exact decide_eq_false (by omega)
theorem order_least {n : Int} {arcs : List Arc} {M L : List Int} (hr : rightB n arcs = true) (h : orderM n arcs = some M) (hf : Fr n.toNat arcs L) (hl : (L.length : Int) = n) : lessB L M = false := by
  rw [orderM, if_pos hr] at h
  have := fr_least (P := []) (t := L) h (by simpa using hf) (by omega)
  simpa using this
theorem Fr.nil {n : Nat} {arcs : List Arc} : Fr n arcs [] := fun _ h => by cases h
theorem Fr.snoc {n : Nat} {arcs : List Arc} {L : List Int} {v : Int} (h : Fr n arcs L) (hv : 0 ≤ v ∧ v < (n : Int)) (hf : freeB arcs L v = true) : Fr n arcs (L ++ [v]) := fun k hk => by
  rw [List.length_append, List.length_singleton] at hk
  by_cases e : k < L.length
  · have e1 : (L ++ [v]).getD k 0 = L.getD k 0 := by simp [List.getD_eq_getElem?_getD, List.getElem?_append_left e]
    have e2 : (L ++ [v]).take k = L.take k := by rw [List.take_append_of_le_length (by omega)]
    rw [e1, e2]; exact h k e
  · obtain rfl : k = L.length := by omega
    have e1 : (L ++ [v]).getD L.length 0 = v := by simp [List.getD_eq_getElem?_getD]
    have e2 : (L ++ [v]).take L.length = L := by simp
    rw [e1, e2]; exact ⟨hv, hf⟩
theorem free_iff {arcs : List Arc} {L : List Int} {v : Int} : freeB arcs L v = true ↔ v ∉ L ∧ ∀ k, k < arcs.length → (arcs.getD k default).To = v → (arcs.getD k default).From ∈ L := by
  unfold freeB
  simp only [Bool.and_eq_true, decide_eq_true_eq, List.all_eq_true]
  refine and_congr_right fun _ => ⟨fun h k hk => ?_, fun h a ha => ?_⟩
  · have := h arcs[k] (List.getElem_mem hk)
    simpa [List.getD_eq_getElem?_getD, hk] using this
  · obtain ⟨k, hk, rfl⟩ := List.getElem_of_mem ha
    have := h k hk
    simpa [List.getD_eq_getElem?_getD, hk] using this
theorem fr_oi {n : Nat} {arcs : List Arc} {L : List Int} {v : Int} (h : OI n arcs L) (hv : 0 ≤ v ∧ v < (n : Int)) (hf : freeB arcs L v = true) : OI n arcs (L ++ [v]) := by
  unfold freeB at hf
  simp only [Bool.and_eq_true, decide_eq_true_eq, List.all_eq_true] at hf
  exact h.snoc hv hf.1 hf.2
/-- where there is an order, something is free as long as something is left -/
theorem some_free {n : Int} {arcs : List Arc} {M L : List Int} (hr : rightB n arcs = true) (h : orderM n arcs = some M) (hl : (L.length : Int) < n) (hno : ∀ k : Nat, (k : Int) < n → freeB arcs L (k : Int) = false) : False := by
  obtain ⟨hn, _, hok⟩ := right_ok hr
  obtain ⟨k1, k2⟩ := order_some hr h
  have hnf : nextFree n.toNat arcs L = none := by
    unfold nextFree
    rw [Option.map_eq_none_iff, List.find?_eq_none]
    intro k hk
    rw [hno k (by have := List.mem_range.1 hk; omega)]; simp
  obtain ⟨v, _, hc⟩ := has_cycle hok (by omega) hnf
  refine no_cycle k1 (fun a ha => ?_) hc
  have := hok a ha
  exact full k1.nodup k1.rng (by omega) this.2.1 this.2.2
end Gr
