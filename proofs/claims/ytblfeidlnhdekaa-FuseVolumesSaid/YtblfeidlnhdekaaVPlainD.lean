/- Plain facts of the layer: fusing in the order of a stable sort. Conditions: those of each theorem. -/
import Derived.Test.YtblfeidlnhdekaaVPlainC
import Derived.Test.YtblfeidlnhdekaaVSorts
namespace Fu
open Go.K
theorem filter_split {α : Type} {key : α → Int} {p q : α → Bool} (h : ∀ x y, q x = true → p y = true → key y < key x) : ∀ {K : List α}, K.Pairwise (fun x y => key x ≤ key y) → K.filter (fun x => p x || q x) = K.filter p ++ K.filter q
  | [], _ => rfl
  | x :: K, hs => by
    obtain ⟨h1, h2⟩ := List.pairwise_cons.1 hs
    have ih := filter_split h h2
    cases hp : p x with
    | true =>
      have hq : q x = false := by
        cases hq : q x with
        | false => rfl
        | true => have := h x x hq hp; omega
      simp [hp, hq, ih]
    | false =>
      cases hq : q x with
      | true =>
        have hn : K.filter p = [] := List.filter_eq_nil_iff.2 fun y hy hpy => by
          have := h x y hq hpy; have := h1 y hy; omega
        simp [hp, hq, ih, hn]
      | false => simp [hp, hq, ih]
theorem order_succ (n : Nat) (l : List Bt.Reading) : order (n + 1) l = order n l ++ l.filter fun r => decide (r.Gauge = (n : Int)) := by
  unfold order; rw [List.range_succ, List.flatMap_append]; simp
theorem order_sorted {K : List Bt.Reading} (hs : Sorts.Srt (fun r : Bt.Reading => r.Gauge) K) : ∀ n : Nat, order n K = K.filter fun r => decide (0 ≤ r.Gauge ∧ r.Gauge < (n : Int))
  | 0 => by
    have : K.filter (fun r => decide (0 ≤ r.Gauge ∧ r.Gauge < ((0 : Nat) : Int))) = [] := List.filter_eq_nil_iff.2 fun y _ hy => by
      have := of_decide_eq_true hy; omega
    rw [this]; rfl
  | n + 1 => by
    rw [order_succ, order_sorted hs n, ← filter_split (key := fun r : Bt.Reading => r.Gauge) (fun x y hx hy => by have := of_decide_eq_true hx; have := of_decide_eq_true hy; omega) hs]
    refine congrArg (fun f => K.filter f) (funext fun r => ?_)
    rw [← Bool.decide_or]
    exact decide_eq_decide.2 (by omega)
theorem order_flt {l K : List Bt.Reading} (hf : Sorts.Flt (fun r : Bt.Reading => r.Gauge) l K) (n : Nat) : order n l = order n K := by
  unfold order
  have h2 : ∀ g : Int, l.filter (fun r => decide (r.Gauge = g)) = K.filter (fun r => decide (r.Gauge = g)) := fun g => hf.2 g
  refine congrArg (fun f => (List.range n).flatMap f) (funext fun g => h2 _)
theorem foldl_skip {b : Bt.Basin} : ∀ (K : List Bt.Reading) (s : FS), K.foldl (stepF b) s = (K.filter fun r => decide (0 ≤ r.Gauge ∧ r.Gauge < (b.Gauges.length : Int))).foldl (stepF b) s
  | [], _ => rfl
  | r :: K, s => by
    by_cases h : 0 ≤ r.Gauge ∧ r.Gauge < (b.Gauges.length : Int)
    · rw [List.filter_cons_of_pos (by simpa using h)]; exact foldl_skip K _
    · rw [List.filter_cons_of_neg (by simpa using h), List.foldl_cons, step0 (kind0 (.inl h))]; exact foldl_skip K s
theorem fuse_sorted {b : Bt.Basin} {h : Bt.Hull} {l K : List Bt.Reading} (hs : Sorts.Srt (fun r : Bt.Reading => r.Gauge) K) (hf : Sorts.Flt (fun r : Bt.Reading => r.Gauge) (atH h.Hour l) K) : K.foldl (stepF b) ⟨h.Vol, h.Links, []⟩ = fuse b h l := by
  unfold fuse
  rw [order_flt hf, order_sorted hs]
  exact foldl_skip K _
end Fu
