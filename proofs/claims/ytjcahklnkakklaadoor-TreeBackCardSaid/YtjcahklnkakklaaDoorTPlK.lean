/- Small trees have short written forms; offsets do not matter for the written form; a right tree is read back. Conditions: those of each theorem. -/
import Derived.Test.YtjcahklnkakklaaDoorTLwP
import Derived.Test.YtjcahklnkakklaaDoorTPlG
namespace Pa
open Bt
theorem wri_len' (n d : Int) : (Un.wri n d).length ≤ 25 := by
  by_cases h : n ≤ 1125899906842624
  · exact wri_len h
  · unfold Un.wri
    rw [if_neg (by unfold Un.M; omega)]; simp
theorem wrProp_len2 (p : Node) : (wrProp p).length = 4 + p.Text.length + (wrVs p.Kids).length := by rw [wrProp_len]; omega
theorem szL_ge : ∀ (l : List Node) (k s : Nat), s ≤ szN.szL l k s
  | [], k, s => by rw [szN.szL]; exact Nat.le_refl _
  | x :: xs, k, s => by
    rw [szN.szL]
    split
    · exact Nat.le_refl _
    · have := szL_ge xs k (s + szN x k); omega
theorem szL_cons {x : Node} {xs : List Node} {k s : Nat} (h : szN.szL (x :: xs) k s ≤ 300) : szN.szL (x :: xs) k s = szN.szL xs k (s + szN x k) ∧ s + szN x k ≤ 300 := by
  have h1 := szL_ge (x :: xs) k s
  have h2 : szN.szL (x :: xs) k s = szN.szL xs k (s + szN x k) := by rw [szN.szL, if_neg (by omega)]
  have h3 := szL_ge xs k (s + szN x k)
  exact ⟨h2, by omega⟩
mutual
theorem wr_sz : ∀ (x : Node) (k : Nat), szN x k ≤ 300 → (wr x).length + 2 ≤ 700 * szN x k
  | ⟨q, t, n, d, a, ks⟩, k, h => by
    rw [szN] at h ⊢
    split at h
    · omega
    · rename_i hc
      rw [if_neg hc, wr]
      have h1 := szL_ge ks (k + 1) 1
      have h2 := wri_len' n d
      have h3 := wrJ_sz ks (k + 1) 1 h
      split
      · simp only [List.length_append, List.length_cons, List.length_nil]; omega
      · split
        · omega
        · split
          · simp only [List.length_append, List.length_cons, List.length_nil]; omega
          · omega
theorem wrJ_sz : ∀ (l : List Node) (k s : Nat), szN.szL l k s ≤ 300 → (wr.wrJ l).length + 700 * s ≤ 700 * szN.szL l k s
  | [], k, s, _ => by rw [wr.wrJ, szN.szL]; simp
  | x :: xs, k, s, h => by
    obtain ⟨h1, h2⟩ := szL_cons h
    have h3 := wr_sz x k (by omega)
    have h4 := wrJ_sz xs k (s + szN x k) (by omega)
    have h5 := wrJ_cons_le x xs
    omega
end
theorem wrVs_sz : ∀ (l : List Node) (k s : Nat), szN.szL l k s ≤ 300 → (wrVs l).length + 700 * s ≤ 700 * szN.szL l k s
  | [], k, s, _ => by rw [szN.szL]; exact Nat.le_of_eq (by rw [show wrVs [] = [] from rfl]; simp)
  | x :: xs, k, s, h => by
    obtain ⟨h1, h2⟩ := szL_cons h
    have h3 := wr_sz x k (by omega)
    have h4 := wrVs_sz xs k (s + szN x k) (by omega)
    have h5 : (wrVs (x :: xs)).length = 1 + (wr x).length + (wrVs xs).length := by
      unfold wrVs; rw [List.flatMap_cons]; simp only [List.length_append, List.length_cons]; omega
    omega
theorem wrProp_sz (x : Node) (k : Nat) (h : szN x k ≤ 300) : (wrProp x).length ≤ 1400 * szN x k := by
  rw [wrProp_len2]
  rw [szN_eq] at h ⊢
  split at h
  · omega
  · rename_i hc
    rw [if_neg hc]
    have h1 := szL_ge x.Kids (k + 1) 1
    have h2 := wrVs_sz x.Kids (k + 1) 1 h
    omega
theorem flat_sz {T : Node → List UInt8} {c : Nat} (hT : ∀ x k, szN x k ≤ 300 → (T x).length ≤ c * szN x k) : ∀ (l : List Node) (k s : Nat), szN.szL l k s ≤ 300 → (l.flatMap T).length + c * s ≤ c * szN.szL l k s
  | [], k, s, _ => by rw [szN.szL]; simp
  | x :: xs, k, s, h => by
    obtain ⟨h1, h2⟩ := szL_cons h
    have h3 := hT x k (by omega)
    have h4 := flat_sz hT xs k (s + szN x k) (by omega)
    rw [h1, List.flatMap_cons, List.length_append]
    rw [Nat.mul_add] at h4
    omega
theorem flat_drop_le {α : Type} {T : Node → List α} {l : List Node} (k : Nat) : ((l.drop k).flatMap T).length ≤ (l.flatMap T).length := by
  have : l.flatMap T = (l.take k).flatMap T ++ (l.drop k).flatMap T := by rw [← List.flatMap_append, List.take_append_drop]
  rw [this, List.length_append]; omega
theorem wrDecl_sz (x : Node) (k : Nat) (h : szN x k ≤ 300) : (wrDecl x).length ≤ 2800 * szN x k := by
  rw [wrDecl_len]
  rw [szN_eq] at h ⊢
  split at h
  · omega
  · rename_i hc
    rw [if_neg hc]
    have h1 := szL_ge x.Kids (k + 1) 1
    have h2 := wrVs_sz x.Kids (k + 1) 1 h
    have h3 := flat_sz wrProp_sz x.Kids (k + 1) 1 h
    have h4 := wrVs_le (l := x.Kids) (prpN x.Kids)
    have h5 := flat_drop_le (T := wrProp) (l := x.Kids) (prpN x.Kids)
    omega
theorem write_sz {x : Node} (h : szN x 0 ≤ 300) : (write x).length ≤ 840000 := by
  unfold write
  split
  · rw [szN_eq] at h
    split at h
    · omega
    · have h3 := flat_sz wrDecl_sz x.Kids (0 + 1) 1 h
      omega
  · simp
/-! ### offsets -/
theorem getD_eN (l : List Node) (j : Nat) : (l.map eN).getD j default = eN (l.getD j default) := by
  rw [List.getD_eq_getElem?_getD, List.getD_eq_getElem?_getD, List.getElem?_map]
  cases l[j]? with
  | none => rfl
  | some x => rfl
theorem eN_kids (x : Node) : (eN x).Kids = x.Kids.map eN := by obtain ⟨k, t, n, d, a, ks⟩ := x; rw [eN_mk]
theorem eN_f (x : Node) : (eN x).Kind = x.Kind ∧ (eN x).Text = x.Text ∧ (eN x).N = x.N ∧ (eN x).Dim = x.Dim := by obtain ⟨k, t, n, d, a, ks⟩ := x; rw [eN_mk]; exact ⟨rfl, rfl, rfl, rfl⟩
theorem isWord_eN (x : Node) : isWord (eN x) = isWord x := by
  obtain ⟨h1, h2, h3, h4⟩ := eN_f x
  unfold isWord
  rw [h1, h2, h3, h4, eN_kids, List.length_map]
mutual
theorem isVal_eN : ∀ (x : Node) (g : Nat), isVal g (eN x) = isVal g x
  | ⟨k, t, n, d, a, ks⟩, g => by
    rw [eN, isVal, isVal]
    by_cases h5 : k = 5
    · rw [if_pos h5, if_pos h5, eL_map, List.length_map]
    · rw [if_neg h5, if_neg h5]
      by_cases h6 : k = 6
      · rw [if_pos h6, if_pos h6, allVal_eN ks (g + 1)]
        rw [eL_map, List.length_map]
      · rw [if_neg h6, if_neg h6]
        have := isWord_eN ⟨k, t, n, d, a, ks⟩
        rw [eN] at this; exact this
theorem allVal_eN : ∀ (l : List Node) (g : Nat), isVal.allVal g (eN.eL l) = isVal.allVal g l
  | [], g => by rw [eN.eL]
  | x :: xs, g => by rw [eN.eL, isVal.allVal, isVal.allVal, isVal_eN x g, allVal_eN xs g]
end
mutual
theorem wr_eN : ∀ (x : Node), wr (eN x) = wr x
  | ⟨k, t, n, d, a, ks⟩ => by
    rw [eN, wr, wr, wrJ_eN ks]
theorem wrJ_eN : ∀ (l : List Node), wr.wrJ (eN.eL l) = wr.wrJ l
  | [] => by rw [eN.eL]
  | [x] => by rw [eN.eL, eN.eL, wr.wrJ, wr.wrJ, wr_eN x]
  | x :: y :: xs => by
    have h := wrJ_eN (y :: xs)
    rw [eN.eL, eN.eL, wr.wrJ, wr.wrJ, wr_eN x]
    rw [eN.eL] at h
    rw [h]
end
theorem pairAt_eN (l : List Node) (j : Nat) : pairAt (l.map eN) j ↔ pairAt l j := by
  unfold pairAt
  rw [getD_eN, getD_eN, (eN_f _).1, (eN_f _).2.1, (eN_f (l.getD (j - 1) default)).1, (eN_f (l.getD (j - 1) default)).2.2.2]
theorem isProp_eN (x : Node) : isProp (eN x) = isProp x := by
  obtain ⟨h1, h2, h3, h4⟩ := eN_f x
  unfold isProp
  rw [h1, h2, h3, h4, eN_kids, List.length_map]
  congr 1
  refine decide_eq_decide.2 ⟨fun h j hj => ?_, fun h j hj => ?_⟩
  · have := h j hj
    rwa [getD_eN, isVal_eN, pairAt_eN] at this
  · rw [getD_eN, isVal_eN, pairAt_eN]; exact h j hj
theorem takeWhile_eN {p : Node → Bool} (hp : ∀ x, p (eN x) = p x) : ∀ l : List Node, ((l.map eN).takeWhile p).length = (l.takeWhile p).length
  | [] => rfl
  | x :: xs => by
    rw [List.map_cons, List.takeWhile_cons, List.takeWhile_cons, hp]
    split
    · rw [List.length_cons, List.length_cons, takeWhile_eN hp xs]
    · rfl
theorem wrdN_eN (l : List Node) : wrdN (l.map eN) = wrdN l := takeWhile_eN isWord_eN l
theorem prpN_eN (l : List Node) : prpN (l.map eN) = prpN l := takeWhile_eN (fun x => by rw [(eN_f x).1]) l
theorem isDecl_eN (x : Node) : isDecl (eN x) = isDecl x := by
  obtain ⟨h1, h2, h3, h4⟩ := eN_f x
  unfold isDecl
  rw [h1, h2, h3, h4, eN_kids, List.length_map, wrdN_eN]
  congr 1
  refine decide_eq_decide.2 ⟨fun h j hj hw => ?_, fun h j hj hw => ?_⟩
  · have := h j hj hw
    rwa [getD_eN, isProp_eN] at this
  · rw [getD_eN, isProp_eN]; exact h j hj hw
theorem right_eN (x : Node) : right (eN x) = right x := by
  obtain ⟨h1, h2, h3, h4⟩ := eN_f x
  unfold right
  rw [h1, h2, h3, h4, eN_kids, List.length_map]
  congr 1
  refine decide_eq_decide.2 ⟨fun h j hj => ?_, fun h j hj => ?_⟩
  · have := h j hj
    rwa [getD_eN, isDecl_eN] at this
  · rw [getD_eN, isDecl_eN]; exact h j hj
theorem flat_eN {T : Node → List UInt8} (hT : ∀ x, T (eN x) = T x) (l : List Node) : (l.map eN).flatMap T = l.flatMap T := by
  induction l with
  | nil => rfl
  | cons x xs ih => rw [List.map_cons, List.flatMap_cons, List.flatMap_cons, hT, ih]
theorem wrVs_eN (l : List Node) : wrVs (l.map eN) = wrVs l := flat_eN (fun x => by rw [wr_eN]) l
theorem wrProp_eN (x : Node) : wrProp (eN x) = wrProp x := by
  unfold wrProp
  rw [(eN_f x).2.1, eN_kids, wrVs_eN]
theorem wrDecl_eN (x : Node) : wrDecl (eN x) = wrDecl x := by
  unfold wrDecl
  rw [(eN_f x).2.1, eN_kids, prpN_eN, ← List.map_take, ← List.map_drop, wrVs_eN, flat_eN wrProp_eN]
theorem write_eN (x : Node) : write (eN x) = write x := by
  unfold write
  rw [right_eN, eN_kids, flat_eN wrDecl_eN]
/-- the stage's theorem: what Parse returns for the written form of a right tree -/
theorem back {x : Node} (h : right x = true) : (65536 < (write x).length ∧ parse (write x) = (default, 8, 0)) ∨ ((write x).length ≤ 65536 ∧ ∃ m, parse (write x) = (m, 0, 0) ∧ eN m = eN x ∧ write m = write x) := by
  rcases Nat.lt_or_ge 65536 (write x).length with hl | hl
  · refine .inl ⟨hl, ?_⟩
    have : Lx.scan (write x) = ([], 8, 0) := by unfold Lx.scan; rw [if_pos hl]
    unfold parse
    rw [this]
    exact if_neg (show ¬ (8 : Int) = 0 by decide)
  · obtain ⟨m, h1, h2⟩ := parse_write h hl
    refine .inr ⟨hl, m, h1, h2, ?_⟩
    rw [← write_eN m, h2, write_eN]
end Pa
