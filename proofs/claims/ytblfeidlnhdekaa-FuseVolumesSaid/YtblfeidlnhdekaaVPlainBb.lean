/- Plain facts: sums of a list, filled and changed. Conditions: those of each theorem. -/
import Derived.Test.YtblfeidlnhdekaaVPlainBa
namespace Ba
theorem set_fill {L : List Int} {k n : Nat} (hL : L.length = n) (hk : k < n) {x : Int} (hx : L.getD k 0 = x) : (L.take k ++ List.replicate (n - k) (0 : Int)).set k x = L.take (k + 1) ++ List.replicate (n - (k + 1)) (0 : Int) := by
  subst hL
  have hlen : (L.take k).length = k := by simp; omega
  rw [List.set_append_right _ _ (by omega), hlen, Nat.sub_self, show L.length - k = (L.length - (k + 1)) + 1 by omega, List.replicate_succ, List.set_cons_zero, List.take_add_one, List.getElem?_eq_getElem hk]
  have : L[k] = x := by rw [← hx, List.getD_eq_getElem?_getD, List.getElem?_eq_getElem hk]; rfl
  simp [this]
theorem getD_setI (S : List Int) (i : Nat) (x : Int) (j : Nat) : (S.set i x).getD j 0 = S.getD j 0 ∨ (S.set i x).getD j 0 = x := by
  rw [List.getD_eq_getElem?_getD, List.getD_eq_getElem?_getD, List.getElem?_set]
  by_cases h : i = j
  · subst h
    rw [if_pos rfl]
    by_cases h2 : i < S.length
    · rw [if_pos h2]; exact .inr rfl
    · rw [if_neg h2]; left; rw [List.getElem?_eq_none (by omega)]
  · rw [if_neg h]; exact .inl rfl
def Bnd (S : List Int) (B : Int) : Prop := ∀ j, 0 ≤ S.getD j 0 ∧ S.getD j 0 ≤ B
theorem Bnd.mono {S : List Int} {B B' : Int} (h : Bnd S B) (hb : B ≤ B') : Bnd S B' := fun j => ⟨(h j).1, by have := (h j).2; omega⟩
theorem Bnd.set {S : List Int} {B B' : Int} (h : Bnd S B) (hb : B ≤ B') {i : Nat} {x : Int} (h0 : 0 ≤ x) (h1 : x ≤ B') : Bnd (S.set i x) B' := fun j => by
  rcases getD_setI S i x j with e | e
  · rw [e]; have := h j; omega
  · rw [e]; exact ⟨h0, h1⟩
theorem foldl_snoc {α σ : Type} [Inhabited α] (f : σ → α → σ) (s : σ) {L : List α} {k : Nat} (hk : k < L.length) {S : σ} (h : S = (L.take k).foldl f s) : f S (L.getD k default) = (L.take (k + 1)).foldl f s := by
  rw [List.take_add_one, List.getElem?_eq_getElem hk, List.foldl_append, ← h]
  simp [List.getD_eq_getElem?_getD, hk]
theorem bnd_map {α : Type} {L : List α} {f : α → Int} {B : Int} (h0 : 0 ≤ B) (h : ∀ x ∈ L, 0 ≤ f x ∧ f x ≤ B) : Bnd (L.map f) B := fun j => by
  rw [List.getD_eq_getElem?_getD, List.getElem?_map]
  cases e : L[j]? with
  | none => exact ⟨Int.le_refl _, h0⟩
  | some x => exact h x (List.mem_of_getElem? e)
end Ba
