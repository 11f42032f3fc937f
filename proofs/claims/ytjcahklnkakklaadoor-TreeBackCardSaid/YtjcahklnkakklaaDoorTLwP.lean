/- The statements' own functions on trees, as plain functions. Conditions: those of each theorem. -/
import Derived.Test.YtjcahklnkakklaaDoorTPlF
namespace Pa
open Bt
/-- size: more than 300 if there are more nodes -/
def szN : Node → Nat → Nat
  | ⟨_, t, _, _, _, ks⟩, nest => if 60 < nest ∨ 300 < ks.length ∨ 600 < t.length then 301 else szL ks (nest + 1) 1
where szL : List Node → Nat → Nat → Nat
  | [], _, s => s
  | x :: xs, nest, s => if 300 < s then s else szL xs nest (s + szN x nest)
theorem szN_eq (x : Node) (nest : Nat) : szN x nest = if 60 < nest ∨ 300 < x.Kids.length ∨ 600 < x.Text.length then 301 else szN.szL x.Kids (nest + 1) 1 := by
  obtain ⟨k, t, n, d, a, ks⟩ := x; rw [szN]
theorem szL_stop : ∀ {l : List Node} {k s : Nat}, 300 < s → szN.szL l k s = s
  | [], _, _, _ => by rw [szN.szL]
  | x :: xs, k, s, h => by rw [szN.szL, if_pos h]
theorem szL_drop {l : List Node} {i k s : Nat} (hi : i < l.length) (hs : s ≤ 300) : szN.szL (l.drop i) k s = szN.szL (l.drop (i + 1)) k (s + szN (l.getD i default) k) := by
  rw [List.drop_eq_getElem_cons hi, szN.szL, if_neg (by omega), List.getD_eq_getElem?_getD, List.getElem?_eq_getElem hi]; rfl
mutual
theorem szN_le : ∀ (x : Node) (k : Nat), k ≤ 61 → szN x k ≤ 301 + 300 * (61 - k)
  | ⟨_, t, _, _, _, ks⟩, k, hk => by
    rw [szN]
    split
    · omega
    · rename_i h
      have := szL_le ks (k + 1) 1 (by omega) (by omega)
      omega
theorem szL_le : ∀ (l : List Node) (k s : Nat), k ≤ 61 → s ≤ 300 → szN.szL l k s ≤ 300 + (301 + 300 * (61 - k))
  | [], k, s, hk, hs => by rw [szN.szL]; omega
  | x :: xs, k, s, hk, hs => by
    rw [szN.szL, if_neg (by omega)]
    have h1 := szN_le x k hk
    by_cases h2 : s + szN x k ≤ 300
    · exact szL_le xs k _ hk h2
    · rw [szL_stop (by omega)]; omega
end
def sameB : Node → Node → Bool
  | ⟨k, t, n, d, _, ks⟩, y => decide (k = y.Kind) && decide (t = y.Text) && decide (n = y.N ∧ d = y.Dim) && sameL ks y.Kids
where sameL : List Node → List Node → Bool
  | [], l => decide (l.length = 0)
  | x :: xs, l => match l with
    | [] => false
    | y :: ys => sameB x y && sameL xs ys
theorem sameL_iff : ∀ {l r : List Node}, sameB.sameL l r = (decide (l.length = r.length) && decide (∀ j, j < l.length → sameB (l.getD j default) (r.getD j default) = true))
  | [], r => by
    rw [sameB.sameL, Bool.eq_iff_iff]
    simp only [Bool.and_eq_true, decide_eq_true_eq, List.length_nil]
    exact ⟨fun h => ⟨h.symm, fun j hj => by omega⟩, fun h => h.1.symm⟩
  | x :: xs, [] => by rw [sameB.sameL]; simp
  | x :: xs, y :: ys => by
    rw [sameB.sameL]
    rw [sameL_iff (l := xs) (r := ys), Bool.eq_iff_iff]
    simp only [Bool.and_eq_true, decide_eq_true_eq, List.length_cons]
    constructor
    · rintro ⟨h1, h2, h3⟩
      refine ⟨by omega, fun j hj => ?_⟩
      cases j with
      | zero => simpa using h1
      | succ j => simpa using h3 j (by omega)
    · rintro ⟨h1, h2⟩
      exact ⟨by simpa using h2 0 (by omega), by omega, fun j hj => by simpa using h2 (j + 1) (by omega)⟩
theorem sameB_eq (x y : Node) : sameB x y = (decide (x.Kind = y.Kind) && decide (x.Text = y.Text) && decide (x.N = y.N ∧ x.Dim = y.Dim) && (decide (x.Kids.length = y.Kids.length) && decide (∀ j, j < x.Kids.length → sameB (x.Kids.getD j default) (y.Kids.getD j default) = true))) := by
  obtain ⟨k, t, n, d, a, ks⟩ := x
  rw [sameB, sameL_iff]
mutual
theorem sameB_of : ∀ (x y : Node), eN x = eN y → sameB x y = true
  | ⟨k, t, n, d, a, ks⟩, ⟨k', t', n', d', a', ks'⟩, h => by
    rw [eN, eN] at h
    simp only [Node.mk.injEq] at h
    obtain ⟨rfl, rfl, rfl, rfl, _, h⟩ := h
    rw [sameB, sameL_of ks ks' h]; simp
theorem sameL_of : ∀ (l r : List Node), eN.eL l = eN.eL r → sameB.sameL l r = true
  | [], [], _ => by rw [sameB.sameL]; rfl
  | [], y :: ys, h => by rw [eN.eL, eN.eL] at h; cases h
  | x :: xs, [], h => by rw [eN.eL, eN.eL] at h; cases h
  | x :: xs, y :: ys, h => by
    rw [eN.eL, eN.eL] at h
    simp only [List.cons.injEq] at h
    rw [sameB.sameL]
    rw [sameB_of x y h.1, sameL_of xs ys h.2]; rfl
end
/-- the first token's text of a node -/
def fst (k : Node) : List UInt8 := if k.Kind = 6 then [40] else if k.Kind = 4 then [34] ++ k.Text ++ [34] else k.Text
end Pa
