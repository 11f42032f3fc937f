/- Literal rows as lists. Conditions: those of each theorem. -/
import Derived.Test.YtblfeidlnhdekaaVCore7
namespace Go.K
open Go Go.RowKit
section
variable {α : Type} [Rep α]
/-- element by element -/
def Reps (Φ : Hp) : List α → List (List Value) → Prop
  | [], [] => True
  | x :: xs, c :: cs => Rep.rep Φ x c ∧ Reps Φ xs cs
  | _, _ => False
theorem Reps.get {Φ : Hp} : ∀ {xs : List α} {cs : List (List Value)}, Reps Φ xs cs → ∀ (i : Nat) (hi : i < xs.length), ∃ c, Rep.rep Φ xs[i] c ∧ ∀ j u, c[j]? = some u → cs.flatten[i * Rep.sz α + j]? = some u
  | [], _, _, i, hi => absurd hi (Nat.not_lt_zero _)
  | x :: xs, [], h, _, _ => h.elim
  | x :: xs, c :: cs, h, 0, _ => ⟨c, h.1, fun j u hj => by
      rw [Nat.zero_mul, Nat.zero_add, List.flatten_cons, List.getElem?_append_left (List.getElem?_eq_some_iff.1 hj).1]; exact hj⟩
  | x :: xs, c :: cs, h, i + 1, hi => by
    obtain ⟨c', h1, h2⟩ := h.2.get i (Nat.lt_of_succ_lt_succ hi)
    refine ⟨c', h1, fun j u hj => ?_⟩
    have hl : c.length = Rep.sz α := Rep.len h.1
    rw [List.flatten_cons, List.getElem?_append_right (by rw [hl, Nat.succ_mul]; omega), hl, show (i + 1) * Rep.sz α + j - Rep.sz α = i * Rep.sz α + j by rw [Nat.succ_mul]; omega]
    exact h2 j u hj
theorem RowS.reps {Φ : Hp} {v : Value} {T : TypeId} {n : Nat} {cells : List Value} {xs : List α} {cs : List (List Value)} (h : RowS Φ v T (Rep.sz α) n cells) (hc : cells = cs.flatten) (hr : Reps Φ xs cs) (hn : xs.length = n) (hm : n * Rep.bytes α ≤ maxSl) : RepSl Φ xs v :=
  RowS.rep h hn hm fun i hi => by subst hc; exact hr.get i hi
end
end Go.K
namespace Go.K
open Go Go.RowKit
section
variable {α : Type} [Rep α]
/-- the values of a list of lists -/
theorem RepSl.vals {Φ : Hp} {xss : List (List α)} {v : Value} (h : RepSl Φ xss v) : ∃ vs : List Value, vs.length = xss.length ∧ (∀ j u, vs[j]? = some u → PCell Φ (Value.at v j) u) ∧ (∀ i, i < xss.length → RepSl Φ (xss.getD i []) (vs.getD i undef)) ∧ vs.all Value.oneCell' = true := by
  have key : ∀ n, n ≤ xss.length → ∃ vs : List Value, vs.length = n ∧ (∀ j u, vs[j]? = some u → PCell Φ (Value.at v j) u) ∧ (∀ i, i < n → RepSl Φ (xss.getD i []) (vs.getD i undef)) ∧ vs.all Value.oneCell' = true := by
    intro n
    induction n with
    | zero => exact fun _ => ⟨[], rfl, fun j u hj => by simp at hj, fun i hi => absurd hi (Nat.not_lt_zero _), rfl⟩
    | succ n ih =>
      intro hn
      obtain ⟨vs, h1, h2, h3, h4⟩ := ih (by omega)
      obtain ⟨sv, k1, k2⟩ := h.sub (k := n) (by omega)
      rw [Nat.mul_one] at k2
      refine ⟨vs ++ [sv], by simp [h1], fun j u hj => ?_, fun i hi => ?_, ?_⟩
      · rcases Nat.lt_or_ge j vs.length with hl | hl
        · rw [List.getElem?_append_left hl] at hj; exact h2 j u hj
        · rw [List.getElem?_append_right hl] at hj
          have hj0 : j - vs.length = 0 := by
            have := (List.getElem?_eq_some_iff.1 hj).1
            simpa using this
          obtain rfl : j = n := by omega
          rw [hj0] at hj
          obtain rfl : sv = u := by simpa using hj
          exact k2
      · rcases Nat.lt_or_ge i n with hl | hl
        · rw [List.getD_eq_getElem?_getD (l := vs ++ [sv]), List.getElem?_append_left (by omega), ← List.getD_eq_getElem?_getD]; exact h3 i hl
        · obtain rfl : i = n := by omega
          rw [List.getD_eq_getElem?_getD (l := vs ++ [sv]), List.getElem?_append_right (by omega), h1, Nat.sub_self]; exact k1
      · rw [List.all_append, h4]
        simp [k1.oneCell]
  exact key xss.length (Nat.le_refl _)
theorem RowS.lists {Φ : Hp} {v : Value} {T n : Nat} {vs : List Value} {xss : List (List α)} (h : RowS Φ v T 1 n vs) (hl : vs.length = xss.length) (hn : xss.length = n) (hr : ∀ i, i < xss.length → RepSl Φ (xss.getD i []) (vs.getD i undef)) (hm : n * 24 ≤ maxSl) : RepSl Φ xss v :=
  RowS.rep h hn hm fun i hi => ⟨[vs.getD i undef], ⟨_, rfl, by have h9 := hr i hi; rw [List.getD_eq_getElem?_getD, List.getElem?_eq_getElem hi] at h9; exact h9⟩, fun j u hj => by
    have hj0 : j = 0 := by
      have := (List.getElem?_eq_some_iff.1 hj).1
      simpa using this
    subst hj0
    obtain rfl : vs.getD i undef = u := by simpa using hj
    show vs[i * 1 + 0]? = _
    rw [Nat.mul_one, Nat.add_zero]
    exact getD_some (by omega)⟩
end
end Go.K
