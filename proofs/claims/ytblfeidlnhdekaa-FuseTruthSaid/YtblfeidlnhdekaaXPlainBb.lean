/- Plain facts: right basins: slopes, names, curves at a point. Conditions: those of each theorem. -/
import Derived.Test.YtblfeidlnhdekaaXPlainB
namespace Ba
open Fu
def slope (a d : Int) : Int := if d = 0 then 0 else if d < a then 1099511627777 else a * 1099511627776 / d + (if a * 1099511627776 % d = 0 then 0 else 1)
theorem slope_rng {a d : Int} (ha : 0 ≤ a) (hd : 0 ≤ d) : 0 ≤ slope a d ∧ slope a d ≤ 1099511627777 := by
  unfold slope
  split
  · omega
  · split
    · omega
    · have h1 : 0 ≤ a * 1099511627776 / d := Int.ediv_nonneg (by omega) (by omega)
      have h2 : a * 1099511627776 / d ≤ 1099511627776 := by
        refine Int.ediv_le_of_le_mul (by omega) ?_
        have : a * 1099511627776 ≤ d * 1099511627776 := Int.mul_le_mul_of_nonneg_right (by omega) (by omega)
        rw [Int.mul_comm 1099511627776 d]; exact this
      split <;> omega
def segS (c : List Bt.Point) (n : Nat) : Int := slope (py c (n + 1) - py c n) (px c (n + 1) - px c n)
def stTo (s : Int) (c : List Bt.Point) : Nat → Int
  | 0 => s
  | n + 1 => max (stTo s c n) (segS c n)
def stAll (cs : List (List Bt.Point)) : Int := cs.foldl (fun s c => stTo s c (c.length - 1)) 0
theorem stTo_rng {s : Int} {c : List Bt.Point} (hc : RightC c) (h0 : 0 ≤ s) (h1 : s ≤ 1099511627777) : ∀ n, n + 1 ≤ c.length → 0 ≤ stTo s c n ∧ stTo s c n ≤ 1099511627777
  | 0, _ => ⟨h0, h1⟩
  | n + 1, hn => by
    have ih := stTo_rng hc h0 h1 n (by omega)
    have hp := (hc.pt (show n + 1 < c.length by omega)).2.2 (by omega)
    rw [Nat.add_sub_cancel] at hp
    have := slope_rng (a := py c (n + 1) - py c n) (d := px c (n + 1) - px c n) (by omega) (by omega)
    show 0 ≤ max (stTo s c n) (segS c n) ∧ max (stTo s c n) (segS c n) ≤ 1099511627777
    unfold segS
    omega
theorem stAll_rng : ∀ {cs : List (List Bt.Point)}, (∀ c ∈ cs, RightC c) → 0 ≤ stAll cs ∧ stAll cs ≤ 1099511627777 := fun {cs} h => by
  have key : ∀ (cs : List (List Bt.Point)) (s : Int), (∀ c ∈ cs, RightC c) → 0 ≤ s → s ≤ 1099511627777 → 0 ≤ cs.foldl (fun s c => stTo s c (c.length - 1)) s ∧ cs.foldl (fun s c => stTo s c (c.length - 1)) s ≤ 1099511627777 := by
    intro cs
    induction cs with
    | nil => intro s _ h0 h1; exact ⟨h0, h1⟩
    | cons c cs ih =>
      intro s hc h0 h1
      have hR := hc c (by simp)
      have hl := hR.1.1
      have := stTo_rng hR h0 h1 (c.length - 1) (by omega)
      exact ih _ (fun x hx => hc x (by simp [hx])) this.1 this.2
  exact key cs 0 h (by omega) (by omega)
theorem stAll_snoc (cs : List (List Bt.Point)) {k : Nat} (hk : k < cs.length) {s : Int} (h : s = stAll (cs.take k)) : stTo s (cs.getD k []) ((cs.getD k []).length - 1) = stAll (cs.take (k + 1)) := by
  unfold stAll at *
  rw [List.take_add_one, List.getElem?_eq_getElem hk, List.foldl_append, ← h]
  simp [List.getD_eq_getElem?_getD, hk]
/-- the value of a curve, as the code finds it -/
theorem posX_eq {c : List Bt.Point} {x : Int} {i : Nat} (hi : i ≤ c.length) (h1 : ∀ j, j < i → px c j < x) (h2 : i < c.length → x ≤ px c i) : posX c x = i := posX_is hi h2 h1
theorem val_0 {c : List Bt.Point} {x : Int} (h : RightC c) (hx : x < px c 0) : valC c x = py c 0 ∧ remC c x = false := by
  have hl := h.1.1
  have h0 : posX c x = 0 := posX_eq (by omega) (fun j hj => absurd hj (by omega)) (fun _ => by omega)
  unfold valC remC
  rw [if_pos h0, if_pos h0]; exact ⟨rfl, rfl⟩
theorem val_knot {c : List Bt.Point} {i : Nat} (h : RightC c) (hi : i < c.length) : valC c (px c i) = py c i ∧ remC c (px c i) = false := by
  have hp : posX c (px c i) = i := posX_eq (by omega) (fun j hj => px_lt h hj hi) (fun _ => by omega)
  unfold valC remC
  rw [hp]
  by_cases h0 : i = 0
  · subst h0; exact ⟨if_pos rfl, if_pos rfl⟩
  · rw [if_neg h0, if_neg h0, if_pos hi, if_pos hi]
    have hd : 0 < px c i - px c (i - 1) := by have := px_lt h (show i - 1 < i by omega) hi; omega
    refine ⟨?_, ?_⟩
    · unfold atSeg
      rw [Int.mul_comm, Int.mul_ediv_cancel _ (by omega)]; omega
    · rw [Int.mul_comm, Int.mul_emod_left]; rfl
theorem val_top {c : List Bt.Point} {x : Int} (h : RightC c) (hx : px c (c.length - 1) ≤ x) : valC c x = py c (c.length - 1) ∧ remC c x = false := by
  have hl := h.1.1
  by_cases he : x = px c (c.length - 1)
  · rw [he]; exact val_knot h (by omega)
  · have hp : posX c x = c.length := posX_eq (Nat.le_refl _) (fun j hj => by have := px_le h (show j ≤ c.length - 1 by omega) (by omega); omega) (fun hh => by omega)
    unfold valC remC
    rw [hp, if_neg (by omega), if_neg (by omega), if_neg (by omega), if_neg (by omega)]; exact ⟨rfl, rfl⟩
theorem val_seg {c : List Bt.Point} {x : Int} {i : Nat} (h : RightC c) (hi : i + 1 < c.length) (h1 : px c i ≤ x) (h2 : x < px c (i + 1)) : valC c x = py c i + (x - px c i) * (py c (i + 1) - py c i) / (px c (i + 1) - px c i) ∧ remC c x = decide (0 < (x - px c i) * (py c (i + 1) - py c i) % (px c (i + 1) - px c i)) := by
  by_cases he : x = px c i
  · rw [he]
    have := val_knot h (show i < c.length by omega)
    rw [this.1, this.2, Int.sub_self, Int.zero_mul, Int.zero_ediv, Int.zero_emod]
    exact ⟨by omega, rfl⟩
  · have hp : posX c x = i + 1 := posX_eq (by omega) (fun j hj => by have := px_le h (show j ≤ i by omega) (by omega); omega) (fun _ => by omega)
    unfold valC remC
    rw [hp, if_neg (show ¬ (i + 1 = 0) by omega), if_neg (show ¬ (i + 1 = 0) by omega), if_pos hi, if_pos hi]
    unfold atSeg
    rw [Nat.add_sub_cancel]
    exact ⟨rfl, rfl⟩
/-- the first point beyond x -/
def posG (c : List Bt.Point) (x : Int) : Nat := c.findIdx fun p => decide (x < p.X)
theorem posG_le (c : List Bt.Point) (x : Int) : posG c x ≤ c.length := List.findIdx_le_length
theorem posG_iff {c : List Bt.Point} (h : RightC c) {x : Int} {i : Nat} (hi : i < c.length) : posG c x ≤ i ↔ x < px c i := by
  constructor
  · intro hp
    have hlt : posG c x < c.length := by omega
    have := List.findIdx_getElem (p := fun p : Bt.Point => decide (x < p.X)) (xs := c) (w := hlt)
    rw [decide_eq_true_eq] at this
    have hle := px_le h hp hi
    have hlt2 : (c.findIdx fun p => decide (x < p.X)) < c.length := hlt
    have he : px c (posG c x) = (c[c.findIdx fun p => decide (x < p.X)]'hlt).X := by
      show (c.getD (c.findIdx fun p => decide (x < p.X)) default).X = _
      rw [List.getD_eq_getElem?_getD, List.getElem?_eq_getElem hlt2]; rfl
    omega
  · intro hx
    rcases Nat.lt_or_ge i (posG c x) with h1 | h1
    · have := List.not_of_lt_findIdx (p := fun p : Bt.Point => decide (x < p.X)) (xs := c) h1
      have he : px c i = (c[i]'hi).X := by unfold px; rw [List.getD_eq_getElem?_getD, List.getElem?_eq_getElem hi]; rfl
      simp at this
      omega
    · exact h1
def underC (a b : List Bt.Point) : Prop := (RightC a ∧ RightC b) ∧ (∀ j, j < a.length → py a j ≤ valC b (px a j)) ∧ ∀ j, j < b.length → ¬ (py b j < valC a (px b j) ∨ valC a (px b j) = py b j ∧ remC a (px b j) = true)
instance (a b : List Bt.Point) : Decidable (underC a b) := inferInstanceAs (Decidable (_ ∧ (∀ j, j < a.length → _) ∧ ∀ j, j < b.length → _))
/-! names -/
abbrev Mk := ByteArray × ByteArray
theorem map_take_snoc {α β : Type} [Inhabited α] (f : α → β) {L : List α} {k : Nat} (h : k < L.length) : (L.map f).take (k + 1) = (L.map f).take k ++ [f (L.getD k default)] := by
  rw [List.take_add_one, List.getElem?_map, List.getElem?_eq_getElem h]
  simp [List.getD_eq_getElem?_getD, h]
theorem fold_snoc {α σ τ : Type} [Inhabited α] (step : σ → τ → σ) (s0 : σ) (pre : List τ) (f : α → τ) {L : List α} {k : Nat} (h : k < L.length) {S : σ} (hS : S = (pre ++ (L.map f).take k).foldl step s0) : step S (f (L.getD k default)) = (pre ++ (L.map f).take (k + 1)).foldl step s0 := by
  rw [map_take_snoc f h, ← List.append_assoc, List.foldl_append (l := pre ++ (L.map f).take k), ← hS]; rfl
theorem fold_end {α σ τ : Type} (step : σ → τ → σ) (s0 : σ) (pre : List τ) (f : α → τ) {L : List α} {k : Nat} (h : L.length ≤ k) {S : σ} (hS : S = (pre ++ (L.map f).take k).foldl step s0) : S = (pre ++ L.map f).foldl step s0 := by
  rw [List.take_of_length_le (by simpa using h)] at hS; exact hS
/-! sums -/
def sumTo (xs : List Int) : Nat → Int
  | 0 => 0
  | n + 1 => sumTo xs n + xs.getD n 0
def startTo (ps : List Bt.Place) : Nat → Int
  | 0 => 0
  | n + 1 => startTo ps n + sumTo (ps.getD n default).Start (ps.getD n default).Start.length
end Ba
namespace Ba
theorem set_fill {L : List Int} {k n : Nat} (hL : L.length = n) (hk : k < n) {x : Int} (hx : L.getD k 0 = x) : (L.take k ++ List.replicate (n - k) (0 : Int)).set k x = L.take (k + 1) ++ List.replicate (n - (k + 1)) (0 : Int) := by
  subst hL
  have hlen : (L.take k).length = k := by simp; omega
  rw [List.set_append_right _ _ (by omega), hlen, Nat.sub_self, show L.length - k = (L.length - (k + 1)) + 1 by omega, List.replicate_succ, List.set_cons_zero, List.take_add_one, List.getElem?_eq_getElem hk]
  have : L[k] = x := by rw [← hx, List.getD_eq_getElem?_getD, List.getElem?_eq_getElem hk]; rfl
  simp [this]
theorem getD_setI (S : List Int) (i : Nat) (x : Int) (j : Nat) : (S.set i x).getD j 0 = S.getD j 0 ∨ (S.set i x).getD j 0 = x := by
  rw [List.getD_eq_getElem?_getD, List.getD_eq_getElem?_getD, List.getElem?_set]
  by_cases h : i = j
  · subst h
    rw [if_pos rfl]
    by_cases h2 : i < S.length
    · rw [if_pos h2]; exact .inr rfl
    · rw [if_neg h2]; left; rw [List.getElem?_eq_none (by omega)]
  · rw [if_neg h]; exact .inl rfl
def Bnd (S : List Int) (B : Int) : Prop := ∀ j, 0 ≤ S.getD j 0 ∧ S.getD j 0 ≤ B
theorem Bnd.mono {S : List Int} {B B' : Int} (h : Bnd S B) (hb : B ≤ B') : Bnd S B' := fun j => ⟨(h j).1, by have := (h j).2; omega⟩
theorem Bnd.set {S : List Int} {B B' : Int} (h : Bnd S B) (hb : B ≤ B') {i : Nat} {x : Int} (h0 : 0 ≤ x) (h1 : x ≤ B') : Bnd (S.set i x) B' := fun j => by
  rcases getD_setI S i x j with e | e
  · rw [e]; have := h j; omega
  · rw [e]; exact ⟨h0, h1⟩
theorem foldl_snoc {α σ : Type} [Inhabited α] (f : σ → α → σ) (s : σ) {L : List α} {k : Nat} (hk : k < L.length) {S : σ} (h : S = (L.take k).foldl f s) : f S (L.getD k default) = (L.take (k + 1)).foldl f s := by
  rw [List.take_add_one, List.getElem?_eq_getElem hk, List.foldl_append, ← h]
  simp [List.getD_eq_getElem?_getD, hk]
theorem bnd_map {α : Type} {L : List α} {f : α → Int} {B : Int} (h0 : 0 ≤ B) (h : ∀ x ∈ L, 0 ≤ f x ∧ f x ≤ B) : Bnd (L.map f) B := fun j => by
  rw [List.getD_eq_getElem?_getD, List.getElem?_map]
  cases e : L[j]? with
  | none => exact ⟨Int.le_refl _, h0⟩
  | some x => exact h x (List.mem_of_getElem? e)
end Ba
