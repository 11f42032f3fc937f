/- Plain facts: a list without neighbours that are alike; merged lists. Conditions: those of each theorem. -/
import Derived.Test.YtlljbndnodbecaaPlainC
namespace Se
section
variable {α : Type} [Inhabited α] [DecidableEq α]
def appU (acc : List α) (x : α) : List α := if acc.getLast? = some x then acc else acc ++ [x]
def comp (L : List α) : List α := L.foldl appU []
omit [Inhabited α] in
theorem comp_snoc (L : List α) (x : α) : comp (L ++ [x]) = appU (comp L) x := by simp [comp]
theorem comp_last : ∀ {L : List α} {k : Nat}, 0 < k → k ≤ L.length → (comp (L.take k)).getLast? = some (L.getD (k - 1) default) := fun {L k} h0 hk => by
  obtain ⟨j, rfl⟩ : ∃ j, k = j + 1 := ⟨k - 1, by omega⟩
  rw [take_snoc (by omega), comp_snoc, Nat.add_sub_cancel]
  unfold appU
  split
  · assumption
  · simp
theorem comp_id {L : List α} : ∀ {k : Nat}, k ≤ L.length → (∀ j, 1 ≤ j → j < k → L.getD j default ≠ L.getD (j - 1) default) → comp (L.take k) = L.take k
  | 0, _, _ => by simp [comp]
  | k + 1, hk, h => by
    have ih := comp_id (k := k) (by omega) (fun j h1 h2 => h j h1 (by omega))
    rw [take_snoc (by omega), comp_snoc, ih]
    unfold appU
    rw [if_neg]
    rcases Nat.eq_zero_or_pos k with h0 | h0
    · subst h0; simp
    · have := comp_last (L := L) h0 (by omega)
      rw [ih] at this
      rw [this]
      intro he
      exact h k h0 (by omega) (Option.some.inj he).symm
theorem comp_eq {L : List α} {k : Nat} (h0 : 0 < k) (hk : k < L.length) (h : L.getD k default = L.getD (k - 1) default) : comp (L.take (k + 1)) = comp (L.take k) := by
  rw [take_snoc hk, comp_snoc, appU, comp_last h0 (by omega), h, if_pos rfl]
theorem comp_ne {L : List α} {k : Nat} (h0 : 0 < k) (hk : k < L.length) (h : L.getD k default ≠ L.getD (k - 1) default) : comp (L.take (k + 1)) = comp (L.take k) ++ [L.getD k default] := by
  rw [take_snoc hk, comp_snoc, appU, comp_last h0 (by omega), if_neg (fun e => h (Option.some.inj e).symm)]
/-- what the list K holds while it is made without alike neighbours: up to p looked at, k kept -/
structure CmI (L K : List α) (k p : Nat) : Prop where
  len : K.length = L.length
  pre : K.take k = comp (L.take p)
  kl : k = (comp (L.take p)).length
  post : ∀ j, p ≤ j + 1 → j < L.length → K.getD j default = L.getD j default
  kp : k + 1 ≤ p
theorem CmI.start {L : List α} {k : Nat} (h0 : 0 < k) (hk : k < L.length) (h : L.getD k default = L.getD (k - 1) default) (hid : ∀ j, 1 ≤ j → j < k → L.getD j default ≠ L.getD (j - 1) default) : CmI L L k (k + 1) := by
  have h1 := comp_id (Nat.le_of_lt hk) hid
  have h2 := comp_eq h0 hk h
  exact ⟨rfl, by rw [h2, h1], by rw [h2, h1, List.length_take]; omega, fun _ _ _ => rfl, Nat.le_refl _⟩
theorem CmI.keep {L K : List α} {k p : Nat} (h : CmI L K k p) (hp : p < L.length) (he : L.getD p default = L.getD (p - 1) default) : CmI L K k (p + 1) := by
  have h1 := h.kp
  have h2 := comp_eq (L := L) (show 0 < p by omega) hp he
  exact ⟨h.len, by rw [h2]; exact h.pre, by rw [h2]; exact h.kl, fun j hj hl => h.post j (by omega) hl, by omega⟩
theorem CmI.put {L K : List α} {k p : Nat} (h : CmI L K k p) (hp : p < L.length) (he : L.getD p default ≠ L.getD (p - 1) default) : CmI L (K.set k (L.getD p default)) (k + 1) (p + 1) := by
  have h1 := h.kp
  have hl := h.len
  have h2 := comp_ne (L := L) (show 0 < p by omega) hp he
  refine ⟨by simp [hl], ?_, by rw [h2, List.length_append, ← h.kl]; rfl, fun j hj hlj => ?_, by omega⟩
  · rw [h2, ← h.pre, take_snoc (by simp; omega)]
    have e1 : (K.set k (L.getD p default)).take k = K.take k := by rw [List.take_set]; exact List.set_eq_of_length_le (by rw [List.length_take]; omega)
    have e2 : (K.set k (L.getD p default)).getD k default = L.getD p default := by rw [List.getD_eq_getElem?_getD, List.getElem?_set_self (by omega)]; rfl
    rw [e1, e2]
  · rw [List.getD_eq_getElem?_getD, List.getElem?_set_ne (by omega), ← List.getD_eq_getElem?_getD]
    exact h.post j (by omega) hlj
omit [Inhabited α] in
theorem comp_sub : ∀ (L acc : List α), (L.foldl appU acc).length ≤ acc.length + L.length ∧ ∀ x ∈ L.foldl appU acc, x ∈ acc ∨ x ∈ L
  | [], acc => ⟨Nat.le_refl _, fun _ hx => .inl hx⟩
  | y :: L, acc => by
    obtain ⟨h1, h2⟩ := comp_sub L (appU acc y)
    have h3 : (appU acc y).length ≤ acc.length + 1 := by unfold appU; split <;> simp
    refine ⟨?_, fun x hx => ?_⟩
    · simp only [List.foldl_cons, List.length_cons]; omega
    · rcases h2 x hx with h | h
      · unfold appU at h
        split at h
        · exact .inl h
        · rcases List.mem_append.1 h with h | h
          · exact .inl h
          · exact .inr (by simp at h; simp [h])
      · exact .inr (List.mem_cons_of_mem _ h)
omit [Inhabited α] in
theorem comp_le (L : List α) : (comp L).length ≤ L.length := by have := (comp_sub L []).1; simpa [comp] using this
omit [Inhabited α] in
theorem comp_mem {L : List α} {x : α} (h : x ∈ comp L) : x ∈ L := by
  rcases (comp_sub L []).2 x h with h | h
  · cases h
  · exact h
omit [Inhabited α] in
theorem mem_comp {x : α} : ∀ {L : List α}, x ∈ L → x ∈ comp L := fun {L} h => by
  have key : ∀ (L acc : List α), (x ∈ acc ∨ x ∈ L) → x ∈ L.foldl appU acc := by
    intro L
    induction L with
    | nil => intro acc h; rcases h with h | h; exact h; cases h
    | cons y L ih =>
      intro acc h
      refine ih _ ?_
      rcases h with h | h
      · left; unfold appU; split
        · exact h
        · exact List.mem_append_left _ h
      · rcases List.mem_cons.1 h with rfl | h
        · left; unfold appU; split
          · rename_i hl; exact List.mem_of_getLast? hl
          · simp
        · exact .inr h
  exact key L [] (.inr h)
omit [Inhabited α] in
theorem comp_iff {x : α} {L : List α} : x ∈ comp L ↔ x ∈ L := ⟨comp_mem, mem_comp⟩

/-- a list in order, without neighbours that are alike, ascends strictly -/
theorem comp_srt {R : α → α → Prop} (htri : ∀ x y, ¬ R x y → ¬ R y x → x = y) (htr : ∀ x y z, R x y → R y z → R x z) : ∀ {L : List α}, L.Pairwise (fun x y => ¬ R y x) → (comp L).Pairwise R := fun {L} h => by
  have key : ∀ n, n ≤ L.length → (comp (L.take n)).Pairwise R := by
    intro n
    induction n with
    | zero => intro _; simp [comp]
    | succ n ih =>
      intro hn
      rcases Nat.eq_zero_or_pos n with h0 | h0
      · subst h0
        rw [take_snoc (by omega), comp_snoc]; simp [comp, appU]
      · by_cases he : L.getD n default = L.getD (n - 1) default
        · rw [comp_eq h0 (by omega) he]; exact ih (by omega)
        · rw [comp_ne h0 (by omega) he, List.pairwise_append]
          refine ⟨ih (by omega), by simp, fun x hx y hy => ?_⟩
          obtain rfl : y = L.getD n default := by simpa using hy
          have hx' := comp_mem hx
          obtain ⟨i, hi, rfl⟩ := List.mem_iff_getElem.1 hx'
          rw [List.length_take] at hi
          rw [List.getElem_take]
          have hp := List.pairwise_iff_getElem.1 h
          have hle : ∀ j, j < n → (hj : j < L.length) → R L[j] (L.getD n default) := fun j hjn hj => by
            have hn' : n < L.length := by omega
            have hlast : R (L.getD (n - 1) default) (L.getD n default) := by
              have h1 : L.getD (n - 1) default = L[n - 1]'(by omega) := by rw [List.getD_eq_getElem?_getD, List.getElem?_eq_getElem (by omega : n - 1 < L.length)]; rfl
              have h2 : L.getD n default = L[n] := by rw [List.getD_eq_getElem?_getD, List.getElem?_eq_getElem hn']; rfl
              rw [h1, h2] at he ⊢
              have h3 := hp (n - 1) n (by omega) hn' (by omega)
              exact Classical.byContradiction fun hc => he (htri _ _ h3 hc)
            by_cases hj1 : j = n - 1
            · subst hj1
              rw [List.getD_eq_getElem?_getD, List.getElem?_eq_getElem hj] at hlast
              exact hlast
            · have h1 : L.getD (n - 1) default = L[n - 1]'(by omega) := by rw [List.getD_eq_getElem?_getD, List.getElem?_eq_getElem (by omega : n - 1 < L.length)]; rfl
              rw [h1] at hlast
              have h3 := hp j (n - 1) hj (by omega) (by omega)
              exact Classical.byContradiction fun hc => by
                by_cases h4 : R L[j] (L[n - 1]'(by omega))
                · exact hc (htr _ _ _ h4 hlast)
                · have h5 := htri _ _ h4 h3
                  rw [h5] at hc; exact hc hlast
          exact hle i (by omega) (by omega)
  have := key L.length (Nat.le_refl _)
  rwa [List.take_length] at this
end
section
variable {α : Type}
theorem flat_take (xss : List (List α)) (k : Nat) (hk : k < xss.length) : (xss.take (k + 1)).flatten = (xss.take k).flatten ++ xss.getD k [] := by
  rw [List.take_succ_eq_append_getElem hk, List.flatten_append, List.getD_eq_getElem?_getD, List.getElem?_eq_getElem hk]; simp
theorem flat_step (xss : List (List α)) (k : Nat) (hk : k < xss.length) : (xss.take (k + 1)).flatten.length = (xss.take k).flatten.length + (xss.getD k []).length := by
  rw [flat_take xss k hk, List.length_append]
theorem flat_le (xss : List (List α)) (k : Nat) : (xss.take k).flatten.length ≤ xss.flatten.length := by
  have h : xss.flatten = (xss.take k).flatten ++ (xss.drop k).flatten := by rw [← List.flatten_append, List.take_append_drop]
  rw [h, List.length_append]; omega
end
theorem frst_nil : frst [] = fun _ => none := by funext k; rfl
theorem voidM_nil : voidM [] = fun _ => none := by funext k; unfold voidM; rw [if_neg]; rintro ⟨t, ht, _⟩; cases ht
theorem frst_put {l : List Bt.Gram} {t : Bt.Gram} (h : frst l (t.Gauge, t.Seq) = none) : (fun j => if j = (t.Gauge, t.Seq) then some t else frst l j) = frst (l ++ [t]) := by
  funext j
  rw [frst_snoc]
  by_cases hj : j = (t.Gauge, t.Seq)
  · subst hj; rw [if_pos rfl, if_pos h, if_pos rfl]
  · rw [if_neg hj]
    by_cases hn : frst l j = none
    · rw [if_pos hn, if_neg hj, hn]
    · rw [if_neg hn]
theorem frst_keep {l : List Bt.Gram} {t f : Bt.Gram} (h : frst l (t.Gauge, t.Seq) = some f) : frst (l ++ [t]) = frst l := by
  funext j
  rw [frst_snoc]
  by_cases hj : j = (t.Gauge, t.Seq)
  · subst hj; rw [if_neg (by rw [h]; simp)]
  · by_cases hn : frst l j = none
    · rw [if_pos hn, if_neg hj, hn]
    · rw [if_neg hn]
theorem voidM_keep {l : List Bt.Gram} {t : Bt.Gram} (h : ¬ ∃ f, frst l (t.Gauge, t.Seq) = some f ∧ f ≠ t) : voidM (l ++ [t]) = voidM l := by
  funext j
  rw [voidM_snoc, if_neg (fun e => h e.2)]
theorem voidM_put {l : List Bt.Gram} {t f : Bt.Gram} (hf : frst l (t.Gauge, t.Seq) = some f) (hne : f ≠ t) : (fun j => if j = t.Gauge then some true else voidM l j) = voidM (l ++ [t]) := by
  funext j
  rw [voidM_snoc]
  by_cases hj : j = t.Gauge
  · rw [if_pos hj, if_pos ⟨hj, f, hf, hne⟩]
  · rw [if_neg hj, if_neg (fun e => hj e.1)]
open Classical in
theorem voidM_dec (l : List Bt.Gram) (g : Int) [Decidable (VoidP l g)] : (voidM l g).getD false = decide (VoidP l g) := by
  have h := voidM_iff l g
  by_cases hv : VoidP l g
  · rw [h.2 hv]; simp [hv]
  · have h1 : voidM l g ≠ some true := fun e => hv (h.1 e)
    have h2 : voidM l g = none := by unfold voidM at h1 ⊢; split <;> simp_all
    rw [h2]; simp [hv]
end Se
