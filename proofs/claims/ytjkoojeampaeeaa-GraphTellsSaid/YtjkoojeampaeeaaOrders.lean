/- Plain facts on orders and cycles of a graph: no program in sight. Conditions: none. -/
import Derived.Test.YtjkoojeampaeeaaReach
namespace Gr
theorem nodup_sub {α : Type} [DecidableEq α] : ∀ {l m : List α}, l.Nodup → (∀ x ∈ l, x ∈ m) → l.length ≤ m.length
  | [], m, _, _ => by simp
  | a :: l, m, hn, hs => by
    rw [List.nodup_cons] at hn
    have ha := hs a (by simp)
    have := nodup_sub (l := l) (m := m.erase a) hn.2 (fun x hx => (List.mem_erase_of_ne (fun e : x = a => hn.1 (e ▸ hx))).2 (hs x (by simp [hx])))
    rw [List.length_erase_of_mem ha] at this
    have : 0 < m.length := List.length_pos_of_mem ha
    simp only [List.length_cons]; omega
theorem full {n : Nat} {L : List Int} (hn : L.Nodup) (hb : ∀ x ∈ L, 0 ≤ x ∧ x < (n : Int)) (hl : L.length = n) {i : Int} (h0 : 0 ≤ i) (h1 : i < n) : i ∈ L := Classical.byContradiction fun hi => by
  have := int_nodup_le (n := n) (l := i :: L) (List.nodup_cons.2 ⟨hi, hn⟩) (fun x hx => (List.mem_cons.1 hx).elim (fun e => by subst e; omega) (hb x))
  simp only [List.length_cons] at this; omega
theorem left_over {n : Nat} {L : List Int} (hl : L.length < n) : ∃ i : Int, (0 ≤ i ∧ i < n) ∧ i ∉ L := Classical.byContradiction fun h => by
  have this_1 : ∀ i : Int, 0 ≤ i → i < n → i ∈ L := fun i h0 h1 => Classical.byContradiction fun hi => h ⟨i, ⟨h0, h1⟩, hi⟩
  have h2 := nodup_sub (l := (List.range n).map fun i : Nat => (i : Int)) (m := L) (by
    rw [List.nodup_iff_pairwise_ne, List.pairwise_map]
    exact List.Pairwise.imp (fun h => by omega) (List.pairwise_lt_range (n := n))) (fun x hx => by
    obtain ⟨i, hi, rfl⟩ := List.mem_map.1 hx
    have := List.mem_range.1 hi
    exact this_1 i (by omega) (by omega))
  simp at h2; omega
/-- what holds of the list of an order -/
structure OI (n : Nat) (arcs : List Arc) (L : List Int) : Prop where
  nodup : L.Nodup
  rng : ∀ x ∈ L, 0 ≤ x ∧ x < (n : Int)
  arc : ∀ a ∈ arcs, a.To ∈ L → a.From ∈ L ∧ L.idxOf a.From < L.idxOf a.To
theorem next_some {n : Nat} {arcs : List Arc} {L : List Int} {v : Int} (h : nextFree n arcs L = some v) : (0 ≤ v ∧ v < n) ∧ v ∉ L ∧ ∀ a ∈ arcs, a.To = v → a.From ∈ L := by
  unfold nextFree at h
  obtain ⟨k, hk, rfl⟩ := Option.map_eq_some_iff.1 h
  have h1 := List.find?_some hk
  have h2 := List.mem_range.1 (List.mem_of_find?_eq_some hk)
  unfold freeB at h1
  simp only [Bool.and_eq_true, decide_eq_true_eq, List.all_eq_true] at h1
  exact ⟨by omega, h1.1, h1.2⟩
theorem next_none {n : Nat} {arcs : List Arc} {L : List Int} (h : nextFree n arcs L = none) {v : Int} (h0 : 0 ≤ v) (h1 : v < n) (hv : v ∉ L) : ∃ a ∈ arcs, a.To = v ∧ a.From ∉ L := by
  unfold nextFree at h
  rw [Option.map_eq_none_iff, List.find?_eq_none] at h
  have := h v.toNat (List.mem_range.2 (by omega))
  unfold freeB at this
  rw [Int.toNat_of_nonneg h0] at this
  simp only [Bool.and_eq_true, decide_eq_true_eq, List.all_eq_true, not_and] at this
  have := this hv
  refine Classical.byContradiction fun hc => this fun a ha e => Classical.byContradiction fun hf => hc ⟨a, ha, e, hf⟩
theorem OI.nil {n : Nat} {arcs : List Arc} : OI n arcs [] := ⟨List.nodup_nil, fun _ h => (by cases h), fun _ _ h => (by cases h)⟩
theorem OI.snoc {n : Nat} {arcs : List Arc} {L : List Int} {v : Int} (h : OI n arcs L) (hv : 0 ≤ v ∧ v < n) (hn : v ∉ L) (ha : ∀ a ∈ arcs, a.To = v → a.From ∈ L) : OI n arcs (L ++ [v]) := by
  refine ⟨?_, fun x hx => ?_, fun a haa ht => ?_⟩
  · rw [List.nodup_append]
    refine ⟨h.nodup, by simp, fun x hx y hy e => ?_⟩
    obtain rfl : y = v := by simpa using hy
    exact hn (e ▸ hx)
  · rcases List.mem_append.1 hx with hx | hx
    · exact h.rng x hx
    · obtain rfl : x = v := by simpa using hx
      exact hv
  · by_cases hL : a.To ∈ L
    · obtain ⟨h1, h2⟩ := h.arc a haa hL
      refine ⟨by simp [h1], ?_⟩
      rw [List.idxOf_append, List.idxOf_append, if_pos h1, if_pos hL]; exact h2
    · have e : a.To = v := by
        rcases List.mem_append.1 ht with hx | hx
        · exact absurd hx hL
        · simpa using hx
      have h1 := ha a haa e
      refine ⟨by simp [h1], ?_⟩
      rw [List.idxOf_append, List.idxOf_append, if_pos h1, if_neg hL]
      have := List.idxOf_lt_length_of_mem h1
      omega
theorem orderGo_some {n : Nat} {arcs : List Arc} : ∀ {k : Nat} {L M : List Int}, OI n arcs L → orderGo n arcs k L = some M → OI n arcs M ∧ M.length = L.length + k
  | 0, L, M, h, e => by
    obtain rfl : L = M := by simpa [orderGo] using e
    exact ⟨h, rfl⟩
  | k + 1, L, M, h, e => by
    rw [orderGo] at e
    cases hv : nextFree n arcs L with
    | none => rw [hv] at e; cases e
    | some v =>
      rw [hv] at e
      obtain ⟨h1, h2, h3⟩ := next_some hv
      obtain ⟨k1, k2⟩ := orderGo_some (h.snoc h1 h2 h3) e
      exact ⟨k1, by rw [k2, List.length_append]; simp; omega⟩
theorem orderGo_none {n : Nat} {arcs : List Arc} : ∀ {k : Nat} {L : List Int}, OI n arcs L → L.length + k = n → orderGo n arcs k L = none → ∃ M, OI n arcs M ∧ M.length < n ∧ nextFree n arcs M = none
  | 0, L, h, hl, e => by cases e
  | k + 1, L, h, hl, e => by
    rw [orderGo] at e
    cases hv : nextFree n arcs L with
    | none => exact ⟨L, h, by omega, hv⟩
    | some v =>
      rw [hv] at e
      obtain ⟨h1, h2, h3⟩ := next_some hv
      exact orderGo_none (h.snoc h1 h2 h3) (by rw [List.length_append]; simp; omega) e
/-- a node that lies on a cycle -/
def OnCycle (arcs : List Arc) (v : Int) : Prop := ∃ w, (⟨v, w⟩ : Arc) ∈ arcs ∧ Way arcs w v
theorem no_cycle {n : Nat} {arcs : List Arc} {L : List Int} (h : OI n arcs L) (hall : ∀ a ∈ arcs, a.To ∈ L) {v : Int} : ¬ OnCycle arcs v := by
  have key : ∀ k u w, Walk arcs k u w → u ∈ L → w ∈ L ∧ L.idxOf u + k ≤ L.idxOf w := by
    intro k u w hw hu
    induction hw with
    | nil => exact ⟨hu, by omega⟩
    | @snoc k u v w hw ha ih =>
      have hi := ih hu
      have h2 := (h.arc _ ha (hall _ ha)).2
      exact ⟨hall _ ha, by simp only at h2; omega⟩
  rintro ⟨w, ha, k, hk⟩
  have h1 := h.arc _ ha (hall _ ha)
  have h2 := key k w v hk (hall _ ha)
  simp only at h1
  omega
theorem has_cycle {n : Nat} {arcs : List Arc} {L : List Int} (hok : Ok n arcs) (hl : L.length < n) (hn : nextFree n arcs L = none) : ∃ v, (0 ≤ v ∧ v < (n : Int)) ∧ OnCycle arcs v := by
  have hp : ∀ v : Int, ∃ u : Int, (0 ≤ v ∧ v < n) ∧ v ∉ L → ((0 ≤ u ∧ u < n) ∧ u ∉ L) ∧ (⟨u, v⟩ : Arc) ∈ arcs := fun v => by
    by_cases hv : (0 ≤ v ∧ v < (n : Int)) ∧ v ∉ L
    · obtain ⟨a, ha, e, hf⟩ := next_none hn hv.1.1 hv.1.2 hv.2
      exact ⟨a.From, fun _ => ⟨⟨(hok a ha).1, hf⟩, by rw [← e]; exact ha⟩⟩
    · exact ⟨0, fun h => absurd h hv⟩
  obtain ⟨p, hp⟩ := Classical.axiomOfChoice hp
  obtain ⟨v0, hv0⟩ := left_over hl
  let s : Nat → Int := fun i => Nat.rec v0 (fun _ x => p x) i
  have hs : ∀ i, (0 ≤ s i ∧ s i < (n : Int)) ∧ s i ∉ L := fun i => by
    induction i with
    | zero => exact hv0
    | succ i ih => exact (hp _ ih).1
  have hw : ∀ k i, Walk arcs k (s (i + k)) (s i) := fun k i => by
    induction k with
    | zero => exact .nil _
    | succ k ih => exact walk_head (hp _ (hs (i + k))).2 ih
  have hrep : ∃ i j, i < j ∧ s i = s j := Classical.byContradiction fun hc => by
    have := int_nodup_le (n := n) (l := (List.range (n + 1)).map s) (by
      rw [List.nodup_iff_pairwise_ne, List.pairwise_map]
      exact List.Pairwise.imp (fun {a b} h e => hc ⟨a, b, h, e⟩) (List.pairwise_lt_range (n := n + 1))) (fun x hx => by
      obtain ⟨i, _, rfl⟩ := List.mem_map.1 hx
      exact (hs i).1)
    simp at this; omega
  obtain ⟨i, j, hij, he⟩ := hrep
  have h1 := hw (j - i) i
  rw [show i + (j - i) = j by omega, ← he, show j - i = (j - i - 1) + 1 by omega] at h1
  obtain ⟨w, ha, hww⟩ := walk_first h1
  exact ⟨s i, (hs i).1, w, ha, _, hww⟩
/-! ### ways as lists -/
theorem path_at {n : Nat} {arcs : List Arc} {b : Int} {d : List Int} (hok : Ok n arcs) (h : IsTo n arcs b d) : ∀ (f : Nat) (a : Int), (0 ≤ a ∧ a < n) → 0 ≤ d.getD a.toNat 0 → d.getD a.toNat 0 < f →
    ∀ j : Nat, (j : Int) ≤ d.getD a.toNat 0 → (0 ≤ (a :: pathGo arcs d b f a).getD j 0 ∧ (a :: pathGo arcs d b f a).getD j 0 < n) ∧ d.getD ((a :: pathGo arcs d b f a).getD j 0).toNat 0 = d.getD a.toNat 0 - j ∧
      ((j : Int) < d.getD a.toNat 0 → (⟨(a :: pathGo arcs d b f a).getD j 0, (a :: pathGo arcs d b f a).getD (j + 1) 0⟩ : Arc) ∈ arcs)
  | 0, a, _, _, h1 => by omega
  | f + 1, a, ha, h0, h1 => by
    intro j hj
    by_cases hab : a = b
    · subst hab
      have hz := to_zero h ha
      obtain rfl : j = 0 := by omega
      refine ⟨ha, by simp, fun hlt => by omega⟩
    · have hd : 0 < d.getD a.toNat 0 := by
        rcases Int.lt_or_eq_of_le h0 with h3 | h3
        · exact h3
        · exact absurd (to_pos h ha h3.symm) hab
      obtain ⟨k1, k2, k3⟩ := closest_to hok h ha hd
      have ih := path_at hok h f (closest arcs d a) k1 (by omega) (by omega)
      have e : pathGo arcs d b (f + 1) a = closest arcs d a :: pathGo arcs d b f (closest arcs d a) := by rw [pathGo, if_neg hab]
      rw [e]
      cases j with
      | zero => exact ⟨ha, by simp, fun _ => k3⟩
      | succ j =>
        obtain ⟨i1, i2, i3⟩ := ih j (by omega)
        simp only [List.getD_cons_succ]
        refine ⟨i1, by rw [i2]; omega, fun hlt => ?_⟩
        have := i3 (by omega)
        exact this
end Gr
