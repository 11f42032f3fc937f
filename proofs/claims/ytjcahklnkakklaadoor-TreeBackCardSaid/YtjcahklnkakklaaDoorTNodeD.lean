/- Nodes of trees in memory. Conditions: those of each theorem. -/
import Derived.Test.YtjcahklnkakklaaDoorTWrP
import Derived.Test.YtjcahklnkakklaaDoorTScA
import Derived.Test.YtjcahklnkakklaaDoorTDfr
namespace Go.Proofs.YtjcahklnkakklaaDoor
open Go Go.K Go.RowKit
def wfN (x : Bt.Node) : Prop := I64 x.Kind ∧ x.Text.length ≤ maxLen ∧ I64 x.N ∧ I64 x.Dim ∧ I64 x.At
abbrev ndC (x : Bt.Node) (v : Value) : List Value := [.int .i64 x.Kind, .string (bs x.Text), .int .i64 x.N, .int .i64 x.Dim, .int .i64 x.At, v]
mutual
def rpN (Φ : Hp) : Bt.Node → List Value → Prop
  | ⟨k, t, n, d, a, ks⟩, cs => ∃ v css, cs = ndC ⟨k, t, n, d, a, ks⟩ v ∧ wfN ⟨k, t, n, d, a, ks⟩ ∧ IsSl v ks.length ∧ ks.length * 72 ≤ maxSl ∧ rpL Φ ks css ∧ ∀ i c, css[i]? = some c → ∀ j u, c[j]? = some u → PCell Φ (Value.at v (i * 6 + j)) u
def rpL (Φ : Hp) : List Bt.Node → List (List Value) → Prop
  | [], css => css = []
  | x :: xs, css => ∃ c cs, css = c :: cs ∧ rpN Φ x c ∧ rpL Φ xs cs
end
mutual
theorem rpN_mono {Φ Ψ : Hp} (hl : Hp.le Φ Ψ) : ∀ (x : Bt.Node) (cs : List Value), rpN Φ x cs → rpN Ψ x cs
  | ⟨k, t, n, d, a, ks⟩, cs, h => by
    unfold rpN at h ⊢
    obtain ⟨v, css, h1, h2, h3, h4, h5, h6⟩ := h
    exact ⟨v, css, h1, h2, h3, h4, rpL_mono hl ks css h5, fun i c hc j u hj => (h6 i c hc j u hj).mono hl⟩
theorem rpL_mono {Φ Ψ : Hp} (hl : Hp.le Φ Ψ) : ∀ (xs : List Bt.Node) (css : List (List Value)), rpL Φ xs css → rpL Ψ xs css
  | [], css, h => by unfold rpL at h ⊢; exact h
  | x :: xs, css, h => by
    unfold rpL at h ⊢
    obtain ⟨c, cs, h1, h2, h3⟩ := h
    exact ⟨c, cs, h1, rpN_mono hl x c h2, rpL_mono hl xs cs h3⟩
end
theorem rpL_iff {Φ : Hp} : ∀ {xs : List Bt.Node} {css : List (List Value)}, rpL Φ xs css ↔ css.length = xs.length ∧ ∀ i (h : i < xs.length), ∃ c, css[i]? = some c ∧ rpN Φ xs[i] c
  | [], css => by
    unfold rpL
    exact ⟨fun h => by subst h; exact ⟨rfl, fun i h => by cases h⟩, fun h => List.length_eq_zero_iff.1 h.1⟩
  | x :: xs, css => by
    unfold rpL
    constructor
    · rintro ⟨c, cs, rfl, h1, h2⟩
      obtain ⟨h3, h4⟩ := rpL_iff.1 h2
      refine ⟨by simp [h3], fun i hi => ?_⟩
      cases i with
      | zero => exact ⟨c, rfl, h1⟩
      | succ i => simpa using h4 i (by simpa using hi)
    · rintro ⟨h1, h2⟩
      match css, h1 with
      | c :: cs, h1 =>
        obtain ⟨c', hc, hx⟩ := h2 0 (by simp)
        obtain rfl : c = c' := by simpa using hc
        refine ⟨c, cs, rfl, hx, rpL_iff.2 ⟨by simpa using h1, fun i hi => ?_⟩⟩
        obtain ⟨c', h5, h6⟩ := h2 (i + 1) (by simpa using hi)
        exact ⟨c', by simpa using h5, h6⟩
theorem rpN_ex {Φ : Hp} {x : Bt.Node} {cs : List Value} (h : rpN Φ x cs) : ∃ v, cs = ndC x v ∧ wfN x ∧ IsSl v x.Kids.length ∧ x.Kids.length * 72 ≤ maxSl ∧ ∃ css, rpL Φ x.Kids css ∧ ∀ i c, css[i]? = some c → ∀ j u, c[j]? = some u → PCell Φ (Value.at v (i * 6 + j)) u := by
  obtain ⟨k, t, n, d, a, ks⟩ := x
  unfold rpN at h
  obtain ⟨v, css, h1, h2, h3, h4, h5, h6⟩ := h
  exact ⟨v, h1, h2, h3, h4, css, h5, h6⟩
theorem isSl_one {v : Value} {n : Nat} (h : IsSl v n) : v.oneCell' = true := by obtain ⟨A, c, rfl, _⟩ := h; rfl
instance : Rep Bt.Node where
  sz := 6
  bytes := 72
  rep := rpN
  len := fun h => by obtain ⟨v, h1, _⟩ := rpN_ex h; rw [h1]; rfl
  mono := fun hl h => rpN_mono hl _ _ h
  one := fun h u hu => by
    obtain ⟨v, h1, _, h3, _⟩ := rpN_ex h
    rw [h1] at hu
    simp only [ndC, List.mem_cons, List.not_mem_nil, or_false] at hu
    rcases hu with rfl | rfl | rfl | rfl | rfl | rfl
    · rfl
    · rfl
    · rfl
    · rfl
    · rfl
    · exact isSl_one h3
theorem repN {Φ : Hp} {x : Bt.Node} {cs : List Value} : Rep.rep Φ x cs ↔ ∃ v, cs = ndC x v ∧ wfN x ∧ RepSl Φ x.Kids v := by
  constructor
  · intro h
    obtain ⟨v, h1, h2, h3, h4, css, h5, h6⟩ := rpN_ex h
    refine ⟨v, h1, h2, h3, h4, fun i hi => ?_⟩
    obtain ⟨c, h7, h8⟩ := (rpL_iff.1 h5).2 i hi
    exact ⟨c, h8, fun j u hj => h6 i c h7 j u hj⟩
  · rintro ⟨v, h1, h2, h3⟩
    obtain ⟨k, t, n, d, a, ks⟩ := x
    show rpN Φ _ _
    unfold rpN
    refine ⟨v, (List.range ks.length).map fun i => if h : i < ks.length then Classical.choose (h3.at_ i h) else [], h1, h2, h3.sl, h3.max, rpL_iff.2 ⟨by simp, fun i hi => ⟨_, ?_, (Classical.choose_spec (h3.at_ i hi)).1⟩⟩, fun i c hc j u hj => ?_⟩
    · simp [hi]
    · by_cases hi : i < ks.length
      · simp only [List.getElem?_map, List.getElem?_range hi, Option.map_some, dif_pos hi, Option.some.injEq] at hc
        subst hc
        exact (Classical.choose_spec (h3.at_ i hi)).2 j u hj
      · rw [List.getElem?_eq_none (by simpa using hi)] at hc; cases hc
/-- a value of a node -/
def NdV (Φ : Hp) (x : Bt.Node) (r : Value) : Prop := ∃ v, r = .agg (ndC x v).toArray ∧ wfN x ∧ RepSl Φ x.Kids v
theorem NdV.rep {Φ : Hp} {x : Bt.Node} {v : Value} (h1 : wfN x) (h2 : RepSl Φ x.Kids v) : Rep.rep Φ x (ndC x v) := repN.2 ⟨v, rfl, h1, h2⟩
end Go.Proofs.YtjcahklnkakklaaDoor
