/- The statements' own functions on trees, as plain functions. Conditions: those of each theorem. -/
import Derived.Test.YtjcahklnkakklaaDoorQPlF
namespace Pa
open Bt
def sameB : Node → Node → Bool
  | ⟨k, t, n, d, _, ks⟩, y => decide (k = y.Kind) && decide (t = y.Text) && decide (n = y.N ∧ d = y.Dim) && sameL ks y.Kids
where sameL : List Node → List Node → Bool
  | [], l => decide (l.length = 0)
  | x :: xs, l => match l with
    | [] => false
    | y :: ys => sameB x y && sameL xs ys
theorem sameL_iff : ∀ {l r : List Node}, sameB.sameL l r = (decide (l.length = r.length) && decide (∀ j, j < l.length → sameB (l.getD j default) (r.getD j default) = true))
  | [], r => by
    rw [sameB.sameL, Bool.eq_iff_iff]
    simp only [Bool.and_eq_true, decide_eq_true_eq, List.length_nil]
    exact ⟨fun h => ⟨h.symm, fun j hj => by omega⟩, fun h => h.1.symm⟩
  | x :: xs, [] => by rw [sameB.sameL]; simp
  | x :: xs, y :: ys => by
    rw [sameB.sameL]
    rw [sameL_iff (l := xs) (r := ys), Bool.eq_iff_iff]
    simp only [Bool.and_eq_true, decide_eq_true_eq, List.length_cons]
    constructor
    · rintro ⟨h1, h2, h3⟩
      refine ⟨by omega, fun j hj => ?_⟩
      cases j with
      | zero => simpa using h1
      | succ j => simpa using h3 j (by omega)
    · rintro ⟨h1, h2⟩
      exact ⟨by simpa using h2 0 (by omega), by omega, fun j hj => by simpa using h2 (j + 1) (by omega)⟩
theorem sameB_eq (x y : Node) : sameB x y = (decide (x.Kind = y.Kind) && decide (x.Text = y.Text) && decide (x.N = y.N ∧ x.Dim = y.Dim) && (decide (x.Kids.length = y.Kids.length) && decide (∀ j, j < x.Kids.length → sameB (x.Kids.getD j default) (y.Kids.getD j default) = true))) := by
  obtain ⟨k, t, n, d, a, ks⟩ := x
  rw [sameB, sameL_iff]
mutual
theorem sameB_of : ∀ (x y : Node), eN x = eN y → sameB x y = true
  | ⟨k, t, n, d, a, ks⟩, ⟨k', t', n', d', a', ks'⟩, h => by
    rw [eN, eN] at h
    simp only [Node.mk.injEq] at h
    obtain ⟨rfl, rfl, rfl, rfl, _, h⟩ := h
    rw [sameB, sameL_of ks ks' h]; simp
theorem sameL_of : ∀ (l r : List Node), eN.eL l = eN.eL r → sameB.sameL l r = true
  | [], [], _ => by rw [sameB.sameL]; rfl
  | [], y :: ys, h => by rw [eN.eL, eN.eL] at h; cases h
  | x :: xs, [], h => by rw [eN.eL, eN.eL] at h; cases h
  | x :: xs, y :: ys, h => by
    rw [eN.eL, eN.eL] at h
    simp only [List.cons.injEq] at h
    rw [sameB.sameL]
    rw [sameB_of x y h.1, sameL_of xs ys h.2]; rfl
end
/-- a text with an offset begins with another one -/
def bgn (s : List UInt8) (a : Int) (t : List UInt8) : Bool := decide (0 ≤ a) && decide (a + t.length ≤ s.length) && decide ((s.drop a.toNat).take t.length = t)
/-- the first token's text of a node -/
def fst (k : Node) : List UInt8 := if k.Kind = 6 then [40] else if k.Kind = 4 then [34] ++ k.Text ++ [34] else k.Text
/-- where the offsets of nodes end -/
def plEnd : Int → List Node → Int
  | f, [] => f
  | f, ⟨_, _, _, _, a, ks⟩ :: xs => let m := plEnd (a + 1) ks; plEnd m xs
def Plc (s : List UInt8) : Int → List Node → Prop
  | _, [] => True
  | f, ⟨k, t, n, d, a, ks⟩ :: xs => (f ≤ a ∧ a ≤ s.length ∧ bgn s a (fst ⟨k, t, n, d, a, ks⟩) = true ∧ (k = 5 → a < s.length ∧ 48 ≤ (s.getD a.toNat 0).toNat ∧ (s.getD a.toNat 0).toNat ≤ 57)) ∧ Plc s (a + 1) ks ∧ Plc s (plEnd (a + 1) ks) xs
theorem bgn_len {s t : List UInt8} {a : Int} (h : bgn s a t = true) : t.length ≤ s.length := by
  unfold bgn at h
  simp only [Bool.and_eq_true, decide_eq_true_eq] at h
  omega
theorem plc_drop {s : List UInt8} {f : Int} {l : List Node} {i : Nat} (hi : i < l.length) (h : Plc s f (l.drop i)) :
    (f ≤ (l.getD i default).At ∧ (l.getD i default).At ≤ s.length ∧ bgn s (l.getD i default).At (fst (l.getD i default)) = true ∧ ((l.getD i default).Kind = 5 → (l.getD i default).At < s.length ∧ 48 ≤ (s.getD (l.getD i default).At.toNat 0).toNat ∧ (s.getD (l.getD i default).At.toNat 0).toNat ≤ 57)) ∧
    Plc s ((l.getD i default).At + 1) (l.getD i default).Kids ∧ Plc s (plEnd ((l.getD i default).At + 1) (l.getD i default).Kids) (l.drop (i + 1)) ∧ plEnd f (l.drop i) = plEnd (plEnd ((l.getD i default).At + 1) (l.getD i default).Kids) (l.drop (i + 1)) := by
  rw [List.drop_eq_getElem_cons hi] at h ⊢
  rw [show l.getD i default = l[i] by rw [List.getD_eq_getElem?_getD, List.getElem?_eq_getElem hi]; rfl]
  generalize l[i] = y at h ⊢
  obtain ⟨k, t, n, d, a, ks⟩ := y
  rw [Plc] at h
  exact ⟨h.1, h.2.1, h.2.2, by rw [plEnd]⟩
mutual
theorem plEndN {s : List UInt8} : ∀ (y : Node), y.At ≤ s.length → Plc s (y.At + 1) y.Kids → y.At + 1 ≤ plEnd (y.At + 1) y.Kids ∧ plEnd (y.At + 1) y.Kids ≤ s.length + 1
  | ⟨k, t, n, d, a, ks⟩, h1, h2 => plEnd_le ks (a + 1) (by simp only [] at h1; omega) h2
theorem plEnd_le {s : List UInt8} : ∀ (l : List Node) (f : Int), f ≤ s.length + 1 → Plc s f l → f ≤ plEnd f l ∧ plEnd f l ≤ s.length + 1
  | [], f, h, _ => by rw [plEnd]; exact ⟨Int.le_refl _, h⟩
  | ⟨k, t, n, d, a, ks⟩ :: xs, f, h, hp => by
    rw [Plc] at hp
    obtain ⟨⟨h1, h2, _⟩, h3, h4⟩ := hp
    obtain ⟨h5, h6⟩ := plEnd_le ks (a + 1) (by omega) h3
    obtain ⟨h7, h8⟩ := plEnd_le xs _ h6 h4
    rw [plEnd]
    exact ⟨by omega, h8⟩
end
end Pa
