/- Lemmas. Conditions: those of each theorem. -/
import Derived.Test.YtblfeidlnhdekaaGreatSCore
namespace Go.K.Sorts
variable {α : Type} (key : α → Int)
def Srt (l : List α) : Prop := l.Pairwise fun x y => key x ≤ key y
def pick (l : List α) (g : Int) : List α := l.filter fun x => decide (key x = g)
def Flt (l r : List α) : Prop := l.length = r.length ∧ ∀ g, pick key l g = pick key r g
variable {key}
theorem pick_append (l r : List α) (g : Int) : pick key (l ++ r) g = pick key l g ++ pick key r g := by simp [pick]
theorem Flt.refl (l : List α) : Flt key l l := ⟨rfl, fun _ => rfl⟩
theorem Flt.symm {l r : List α} (h : Flt key l r) : Flt key r l := ⟨h.1.symm, fun g => (h.2 g).symm⟩
theorem Flt.trans {l r s : List α} (h : Flt key l r) (k : Flt key r s) : Flt key l s := ⟨h.1.trans k.1, fun g => (h.2 g).trans (k.2 g)⟩
theorem Flt.append [Inhabited α] {l l' r r' : List α} (h : Flt key l l') (k : Flt key r r') : Flt key (l ++ r) (l' ++ r') :=
  ⟨by rw [List.length_append, List.length_append, h.1, k.1], fun g => by rw [pick_append, pick_append, h.2, k.2]⟩
theorem Flt.mem {l r : List α} (h : Flt key l r) {x : α} (hx : x ∈ l) : x ∈ r := by
  have h1 : x ∈ pick key l (key x) := by simp [pick, hx]
  rw [h.2] at h1
  exact (List.mem_filter.1 h1).1
theorem Flt.swap [Inhabited α] {l r : List α} (h : ∀ x ∈ l, ∀ y ∈ r, key x ≠ key y) : Flt key (l ++ r) (r ++ l) := by
  refine ⟨by simp [Nat.add_comm], fun g => ?_⟩
  rw [pick_append, pick_append]
  by_cases hl : pick key l g = []
  · rw [hl]; simp
  · have hr : pick key r g = [] := by
      obtain ⟨x, hx⟩ := List.exists_mem_of_ne_nil _ hl
      obtain ⟨hx1, hx2⟩ := List.mem_filter.1 hx
      refine List.filter_eq_nil_iff.2 fun y hy hyk => ?_
      exact h x hx1 y hy ((odT hx2).trans (odT hyk).symm)
    rw [hr]; simp
theorem srt_of_get [Inhabited α] {l : List α} (h : ∀ i j, i < j → j < l.length → key (l.getD i default) ≤ key (l.getD j default)) : Srt key l := by
  refine List.pairwise_iff_getElem.2 fun i j hi hj hij => ?_
  have := h i j hij hj
  simpa [gDD, hi, hj] using this
def seg (L : List α) (a b : Nat) : List α := (L.take b).drop a
theorem seg_len {L : List α} {a b : Nat} (hb : b ≤ L.length) : (seg L a b).length = b - a := by unfold seg; rw [List.length_drop, List.length_take, Nat.min_eq_left hb]
theorem seg_get [Inhabited α] {L : List α} {a b i : Nat} (hi : a + i < b) (hb : b ≤ L.length) : (seg L a b).getD i default = L.getD (a + i) default := by
  unfold seg
  have h1 : a + i < (L.take b).length := by rw [List.length_take]; omega
  rw [gDD, gDD, List.getElem?_drop, List.getElem?_take, if_pos hi]
theorem seg_split {L : List α} {a m b : Nat} (h1 : a ≤ m) (h2 : m ≤ b) : seg L a m ++ seg L m b = seg L a b := by
  unfold seg
  have e : L.take b = L.take m ++ (L.take b).drop m := by
    conv => lhs; rw [← List.take_append_drop m (L.take b), List.take_take, Nat.min_eq_left h2]
  by_cases hm : m ≤ L.length
  · conv => rhs; rw [e, List.drop_append_of_le_length (by rw [List.length_take]; omega)]
  · have e1 : L.take m = L := List.take_of_length_le (by omega)
    have e2 : L.take b = L := List.take_of_length_le (by omega)
    rw [e1, e2, List.drop_of_length_le (l := L) (i := m) (by omega), List.append_nil]
theorem seg_all (L : List α) : seg L 0 L.length = L := by simp [seg]
structure Upd (key : α → Int) (a b : Nat) (L L' : List α) : Prop where
  pre : L'.take a = L.take a
  post : L'.drop b = L.drop b
  mid : Flt key (seg L a b) (seg L' a b)
theorem list_cut (L : List α) {a b : Nat} (h : a ≤ b) : L = L.take a ++ (seg L a b ++ L.drop b) := by
  conv => lhs; rw [← List.take_append_drop b L]
  rw [← List.append_assoc]
  congr 1
  unfold seg
  conv => lhs; rw [← List.take_append_drop a (L.take b), List.take_take, Nat.min_eq_left h]
theorem Upd.len [Inhabited α] {a b : Nat} {L L' : List α} (hab : a ≤ b) (h : Upd key a b L L') : L'.length = L.length := by
  rw [list_cut L hab, list_cut L' hab, h.pre, h.post]
  simp [h.mid.1]
theorem Upd.refl [Inhabited α] (a b : Nat) (L : List α) : Upd key a b L L := ⟨rfl, rfl, Flt.refl _⟩
theorem Upd.trans [Inhabited α] {a b : Nat} {L L' L'' : List α} (h : Upd key a b L L') (k : Upd key a b L' L'') : Upd key a b L L'' := ⟨k.pre.trans h.pre, k.post.trans h.post, h.mid.trans k.mid⟩
theorem Upd.seg_left {a b c d : Nat} {L L' : List α} (h : Upd key a b L L') (hd : d ≤ a) : seg L' c d = seg L c d := by
  unfold seg
  have e1 : L'.take d = (L'.take a).take d := by rw [List.take_take, Nat.min_eq_left hd]
  have e2 : L.take d = (L.take a).take d := by rw [List.take_take, Nat.min_eq_left hd]
  rw [e1, e2, h.pre]
theorem Upd.get_left [Inhabited α] {a b i : Nat} {L L' : List α} (h : Upd key a b L L') (hi : i < a) : L'.getD i default = L.getD i default := by
  have := congrArg (fun l => l[i]?) h.pre
  simp only [List.getElem?_take, if_pos hi] at this
  rw [gDD, gDD, this]
theorem Upd.get_right [Inhabited α] {a b i : Nat} {L L' : List α} (h : Upd key a b L L') (hi : b ≤ i) : L'.getD i default = L.getD i default := by
  have := congrArg (fun l => l[i - b]?) h.post
  simp only [List.getElem?_drop, show b + (i - b) = i by omega] at this
  rw [gDD, gDD, this]
theorem seg_ext [Inhabited α] {L L' : List α} {c d : Nat} (hl : L'.length = L.length) (hd : d ≤ L.length) (h : ∀ i, c ≤ i → i < d → L'.getD i default = L.getD i default) : seg L' c d = seg L c d := by
  apply List.ext_getElem
  · rw [seg_len (by omega), seg_len hd]
  · intro i h1 h2
    rw [seg_len (by omega)] at h1
    have e1 := seg_get (L := L') (a := c) (b := d) (i := i) (by omega) (by omega)
    have e2 := seg_get (L := L) (a := c) (b := d) (i := i) (by omega) hd
    rw [h (c + i) (by omega) (by omega), ← e2] at e1
    simpa [gDD, seg_len (L := L') (show d ≤ L'.length by omega), seg_len hd, h1] using e1
theorem Upd.seg_right [Inhabited α] {a b c d : Nat} {L L' : List α} (hab : a ≤ b) (h : Upd key a b L L') (hc : b ≤ c) (hd : d ≤ L.length) : seg L' c d = seg L c d :=
  seg_ext (h.len hab) hd fun i hi _ => h.get_right (by omega)
theorem Upd.wide [Inhabited α] {a b c d : Nat} {L L' : List α} (hab : a ≤ b) (hca : c ≤ a) (hbd : b ≤ d) (hd : d ≤ L.length) (h : Upd key a b L L') : Upd key c d L L' := by
  refine ⟨?_, ?_, ?_⟩
  · have e1 : L'.take c = (L'.take a).take c := by rw [List.take_take, Nat.min_eq_left hca]
    rw [e1, h.pre, List.take_take, Nat.min_eq_left hca]
  · have e1 : L'.drop d = (L'.drop b).drop (d - b) := by rw [List.drop_drop]; congr 1; omega
    rw [e1, h.post, List.drop_drop]; congr 1; omega
  · rw [← seg_split (L := L) hca (Nat.le_trans hab hbd), ← seg_split (L := L') hca (Nat.le_trans hab hbd), ← seg_split (L := L) hab hbd, ← seg_split (L := L') hab hbd, h.seg_left (Nat.le_refl _), h.seg_right hab (Nat.le_refl _) hd]
    exact Flt.append (Flt.refl _) (Flt.append h.mid (Flt.refl _))
/-! ### insertion -/
theorem upd_swap [Inhabited α] {L : List α} {j : Nat} (hj : j + 1 < L.length) (h : key (L.getD (j + 1) default) < key (L.getD j default)) :
    Upd key j (j + 2) L ((L.set j (L.getD (j + 1) default)).set (j + 1) (L.getD j default)) := by
  have hs : seg L j (j + 2) = [L.getD j default, L.getD (j + 1) default] := by
    apply List.ext_getElem
    · rw [seg_len (by omega)]; simp
    · intro i h1 h2
      have h3 := seg_get (L := L) (a := j) (b := j + 2) (i := i) (by rw [seg_len (by omega)] at h1; omega) (by omega)
      rw [gDD, List.getElem?_eq_getElem h1, Option.getD_some] at h3
      rw [h3]
      match i, h2 with
      | 0, _ => rfl
      | 1, _ => rfl
  have hl : ((L.set j (L.getD (j + 1) default)).set (j + 1) (L.getD j default)).length = L.length := by simp
  generalize hL' : (L.set j (L.getD (j + 1) default)).set (j + 1) (L.getD j default) = L' at *
  have hg : ∀ i, L'[i]? = if i = j then some (L.getD (j + 1) default) else if i = j + 1 then some (L.getD j default) else L[i]? := fun i => by
    rw [← hL', List.getElem?_set, List.getElem?_set]
    simp only [List.length_set]
    by_cases h1 : i = j
    · subst h1; rw [if_neg (by omega), if_pos rfl, if_pos (by omega), if_pos rfl]
    · rw [if_neg h1]
      by_cases h2 : i = j + 1
      · subst h2; rw [if_pos rfl, if_pos hj, if_pos rfl]
      · rw [if_neg (fun e => h2 e.symm), if_neg (fun e => h1 e.symm), if_neg h2]
  have hs' : seg L' j (j + 2) = [L.getD (j + 1) default, L.getD j default] := by
    apply List.ext_getElem
    · rw [seg_len (by omega)]; simp
    · intro i h1 h2
      have h3 := seg_get (L := L') (a := j) (b := j + 2) (i := i) (by rw [seg_len (by omega)] at h1; omega) (by omega)
      rw [gDD, List.getElem?_eq_getElem h1, Option.getD_some, gDD, hg] at h3
      rw [h3]
      match i, h2 with
      | 0, _ => simp
      | 1, _ => simp
  refine ⟨?_, ?_, ?_⟩
  · apply List.ext_getElem?
    intro i
    rw [List.getElem?_take, List.getElem?_take]
    by_cases hi : i < j
    · rw [if_pos hi, if_pos hi, hg, if_neg (by omega), if_neg (by omega)]
    · rw [if_neg hi, if_neg hi]
  · apply List.ext_getElem?
    intro i
    rw [List.getElem?_drop, List.getElem?_drop, hg, if_neg (by omega), if_neg (by omega)]
  · rw [hs, hs']
    exact Flt.swap (l := [L.getD j default]) (r := [L.getD (j + 1) default]) (fun x hx y hy => by
      rw [List.mem_singleton.1 hx, List.mem_singleton.1 hy]
      omega)
/-! ### sorted by places -/
def SrtI [Inhabited α] (key : α → Int) (L : List α) (a b : Nat) : Prop := ∀ p q, a ≤ p → p < q → q < b → key (L.getD p default) ≤ key (L.getD q default)
theorem SrtI.le [Inhabited α] {L : List α} {a b p q : Nat} (h : SrtI key L a b) (h1 : a ≤ p) (h2 : p ≤ q) (h3 : q < b) : key (L.getD p default) ≤ key (L.getD q default) := by
  rcases Nat.lt_or_eq_of_le h2 with h4 | h4
  · exact h p q h1 h4 h3
  · subst h4; exact Int.le_refl _
theorem SrtI.sub [Inhabited α] {L : List α} {a b c d : Nat} (h : SrtI key L a b) (h1 : a ≤ c) (h2 : d ≤ b) : SrtI key L c d := fun p q hp hpq hq => h p q (by omega) hpq (by omega)
theorem SrtI.small [Inhabited α] {L : List α} {a b : Nat} (h : b ≤ a + 1) : SrtI key L a b := fun p q hp hpq hq => by omega
theorem SrtI.srt [Inhabited α] {L : List α} (h : SrtI key L 0 L.length) : Srt key L := srt_of_get fun i j hij hj => h i j (Nat.zero_le _) hij hj
theorem SrtI.ext [Inhabited α] {L L' : List α} {a b : Nat} (h : SrtI key L a b) (he : ∀ i, a ≤ i → i < b → L'.getD i default = L.getD i default) : SrtI key L' a b := fun p q hp hpq hq => by
  rw [he p hp (by omega), he q (by omega) hq]; exact h p q hp hpq hq
def InsI [Inhabited α] (key : α → Int) (L : List α) (a j i : Nat) : Prop := ∀ p q, a ≤ p → p < q → q ≤ i → q ≠ j → key (L.getD p default) ≤ key (L.getD q default)
theorem InsI.start [Inhabited α] {L : List α} {a i : Nat} (h : SrtI key L a i) : InsI key L a i i := fun p q hp hpq hq hne => h p q hp hpq (by omega)
theorem InsI.bottom [Inhabited α] {L : List α} {a i : Nat} (h : InsI key L a a i) : SrtI key L a (i + 1) := fun p q hp hpq hq => h p q hp hpq (by omega) (by omega)
theorem InsI.stop [Inhabited α] {L : List α} {a j i : Nat} (h : InsI key L a j i) (hj : a < j) (hji : j ≤ i) (hk : key (L.getD (j - 1) default) ≤ key (L.getD j default)) : SrtI key L a (i + 1) := fun p q hp hpq hq => by
  by_cases hqj : q = j
  · subst hqj
    by_cases hpj : p = q - 1
    · subst hpj; exact hk
    · exact Int.le_trans (h p (q - 1) hp (by omega) (by omega) (by omega)) hk
  · exact h p q hp hpq (by omega) hqj
theorem getD_set2 [Inhabited α] {L : List α} {x y : α} {i j k : Nat} (hij : i < j) (hj : j < L.length) : ((L.set i x).set j y).getD k default = if k = j then y else if k = i then x else L.getD k default := by
  rw [gDD, List.getElem?_set, List.getElem?_set]
  simp only [List.length_set]
  by_cases h1 : j = k
  · subst h1; rw [if_pos rfl, if_pos hj, if_pos rfl]; rfl
  · rw [if_neg h1, if_neg (show ¬ k = j from fun e => h1 e.symm)]
    by_cases h2 : i = k
    · subst h2; rw [if_pos rfl, if_pos (by omega), if_pos rfl]; rfl
    · rw [if_neg h2, if_neg (show ¬ k = i from fun e => h2 e.symm), gDD]
def xch [Inhabited α] (L : List α) (i j : Nat) : List α := (L.set i (L.getD j default)).set j (L.getD i default)
theorem xch_len [Inhabited α] (L : List α) (i j : Nat) : (xch L i j).length = L.length := by simp [xch]
theorem xch_get [Inhabited α] {L : List α} {i j k : Nat} (hij : i < j) (hj : j < L.length) : (xch L i j).getD k default = if k = j then L.getD i default else if k = i then L.getD j default else L.getD k default := getD_set2 hij hj
theorem InsI.step [Inhabited α] {L : List α} {a j i : Nat} (h : InsI key L a j i) (hj : a < j) (hji : j ≤ i) (hi : i < L.length) (hk : key (L.getD j default) < key (L.getD (j - 1) default)) : InsI key (xch L (j - 1) j) a (j - 1) i := fun p q hp hpq hq hne => by
  rw [xch_get (by omega) (by omega), xch_get (by omega) (by omega)]
  by_cases hqj : q = j
  · rw [if_pos hqj, if_neg (by omega)]
    by_cases hpj : p = j - 1
    · rw [if_pos hpj]; omega
    · rw [if_neg hpj]; exact h p (j - 1) hp (by omega) (by omega) (by omega)
  · rw [if_neg hqj, if_neg hne]
    by_cases hpj : p = j
    · rw [if_pos hpj]; exact h (j - 1) q (by omega) (by omega) hq hqj
    · rw [if_neg hpj]
      by_cases hpj' : p = j - 1
      · rw [if_pos hpj']; exact h j q (by omega) (by omega) hq hqj
      · rw [if_neg hpj']; exact h p q hp hpq hq hqj
theorem upd_xch [Inhabited α] {L : List α} {a b j : Nat} (ha : a < j) (hb : j < b) (hbl : b ≤ L.length) (hk : key (L.getD j default) < key (L.getD (j - 1) default)) : Upd key a b L (xch L (j - 1) j) := by
  have h := upd_swap (key := key) (L := L) (j := j - 1) (by omega) (by rw [show j - 1 + 1 = j by omega]; exact hk)
  rw [show j - 1 + 1 = j by omega, show j - 1 + 2 = j + 1 by omega] at h
  exact h.wide (by omega) (by omega) (by omega) hbl
/-! ### exchange of ranges, rotation -/
def swpG (g : Nat → α) (a b n : Nat) (x : Nat) : α := if a ≤ x ∧ x < a + n then g (b + (x - a)) else if b ≤ x ∧ x < b + n then g (a + (x - b)) else g x
def rotG (g : Nat → α) (lo m hi : Nat) (x : Nat) : α := if lo ≤ x ∧ x < hi then (if x - lo < hi - m then g (m + (x - lo)) else g (lo + (x - lo - (hi - m)))) else g x
def Is [Inhabited α] (L : List α) (n : Nat) (g : Nat → α) : Prop := L.length = n ∧ ∀ x, x < n → L.getD x default = g x
theorem swp_zero (g : Nat → α) (a b : Nat) : swpG g a b 0 = g := by
  funext x; unfold swpG; rw [if_neg (by omega), if_neg (by omega)]
theorem is_swp_step [Inhabited α] {L : List α} {n a b k : Nat} {g : Nat → α} (h : Is L n (swpG g a b k)) (hab : a + k < b) (hb : b + k < n) : Is (xch L (a + k) (b + k)) n (swpG g a b (k + 1)) := by
  refine ⟨by rw [xch_len]; exact h.1, fun x hx => ?_⟩
  rw [xch_get (by omega) (by rw [h.1]; exact hb)]
  by_cases h1 : x = b + k
  · subst h1
    rw [if_pos rfl, h.2 _ (by omega)]
    unfold swpG
    rw [if_neg (by omega), if_neg (by omega), if_neg (by omega), if_pos (by omega)]
    congr 1; omega
  · rw [if_neg h1]
    by_cases h2 : x = a + k
    · subst h2
      rw [if_pos rfl, h.2 _ hb]
      unfold swpG
      rw [if_neg (by omega), if_neg (by omega), if_pos (by omega)]
      congr 1; omega
    · rw [if_neg h2, h.2 _ hx]
      unfold swpG
      by_cases h3 : a ≤ x ∧ x < a + k
      · rw [if_pos h3, if_pos (by omega)]
      · rw [if_neg h3, if_neg (show ¬ (a ≤ x ∧ x < a + (k + 1)) by omega)]
        by_cases h4 : b ≤ x ∧ x < b + k
        · rw [if_pos h4, if_pos (by omega)]
        · rw [if_neg h4, if_neg (by omega)]
theorem rot_left {g : Nat → α} {m i j : Nat} (hi : i ≤ m) (hij : j < i) : rotG (swpG g (m - i) m j) (m - (i - j)) m (m + j) = rotG g (m - i) m (m + j) := by
  funext x
  unfold rotG
  by_cases h1 : m - (i - j) ≤ x ∧ x < m + j
  · rw [if_pos h1, if_pos (show m - i ≤ x ∧ x < m + j by omega)]
    by_cases h2 : x - (m - (i - j)) < m + j - m
    · rw [if_pos h2, if_neg (show ¬ (x - (m - i) < m + j - m) by omega)]
      unfold swpG
      rw [if_neg (by omega), if_pos (by omega)]
      congr 1; omega
    · rw [if_neg h2, if_neg (show ¬ (x - (m - i) < m + j - m) by omega)]
      unfold swpG
      rw [if_neg (by omega), if_neg (by omega)]
      congr 1; omega
  · rw [if_neg h1]
    unfold swpG
    by_cases h2 : m - i ≤ x ∧ x < m - i + j
    · rw [if_pos h2, if_pos (by omega), if_pos (by omega)]
    · rw [if_neg h2, if_neg (by omega), if_neg (by omega)]
theorem rot_right {g : Nat → α} {m i j : Nat} (hi : i ≤ m) (hij : i < j) : rotG (swpG g (m - i) (m + j - i) i) (m - i) m (m + (j - i)) = rotG g (m - i) m (m + j) := by
  funext x
  unfold rotG
  by_cases h1 : m - i ≤ x ∧ x < m + (j - i)
  · rw [if_pos h1, if_pos (show m - i ≤ x ∧ x < m + j by omega)]
    by_cases h2 : x - (m - i) < m + (j - i) - m
    · rw [if_pos h2, if_pos (by omega)]
      unfold swpG
      rw [if_neg (by omega), if_neg (by omega)]
    · rw [if_neg h2, if_pos (by omega)]
      unfold swpG
      rw [if_pos (by omega)]
      congr 1; omega
  · rw [if_neg h1]
    unfold swpG
    by_cases h2 : m + j - i ≤ x ∧ x < m + j - i + i
    · rw [if_neg (by omega), if_pos h2, if_pos (by omega), if_neg (by omega)]
      congr 1; omega
    · rw [if_neg (by omega), if_neg h2, if_neg (by omega)]
theorem rot_same {g : Nat → α} {m i : Nat} (hi : i ≤ m) : swpG g (m - i) m i = rotG g (m - i) m (m + i) := by
  funext x
  unfold rotG swpG
  by_cases h1 : m - i ≤ x ∧ x < m - i + i
  · rw [if_pos h1, if_pos (by omega), if_pos (by omega)]
  · rw [if_neg h1]
    by_cases h2 : m ≤ x ∧ x < m + i
    · rw [if_pos h2, if_pos (by omega), if_neg (by omega)]; congr 1; omega
    · rw [if_neg h2, if_neg (by omega)]
theorem getD_ext [Inhabited α] {L L' : List α} (hl : L'.length = L.length) (h : ∀ i, i < L.length → L'.getD i default = L.getD i default) : L' = L := by
  apply List.ext_getElem hl
  intro i h1 h2
  have := h i h2
  simpa [gDD, h1, h2] using this
theorem getD_append_l [Inhabited α] {l r : List α} {i : Nat} (h : i < l.length) : (l ++ r).getD i default = l.getD i default := by
  rw [gDD, List.getElem?_append_left h, ← gDD]
theorem getD_append_r [Inhabited α] {l r : List α} {i : Nat} (h : l.length ≤ i) : (l ++ r).getD i default = r.getD (i - l.length) default := by
  rw [gDD, List.getElem?_append_right h, ← gDD]
theorem rot_upd [Inhabited α] {L L' : List α} {a m b : Nat} (h1 : a ≤ m) (h2 : m ≤ b) (hb : b ≤ L.length) (h : Is L' L.length (rotG (fun x => L.getD x default) a m b))
    (hk : ∀ p q, a ≤ p → p < m → m ≤ q → q < b → key (L.getD q default) < key (L.getD p default)) : Upd key a b L L' := by
  have hs : seg L' a b = seg L m b ++ seg L a m := by
    apply getD_ext
    · rw [List.length_append, seg_len (by rw [h.1]; exact hb), seg_len hb, seg_len (by omega)]; omega
    · intro i hi
      rw [List.length_append, seg_len hb, seg_len (by omega)] at hi
      rw [seg_get (by omega) (by rw [h.1]; exact hb), h.2 _ (by omega)]
      unfold rotG
      rw [if_pos (by omega)]
      by_cases h3 : a + i - a < b - m
      · rw [if_pos h3, getD_append_l (by rw [seg_len hb]; omega), seg_get (by omega) hb]
        congr 1; omega
      · rw [if_neg h3, getD_append_r (by rw [seg_len hb]; omega), seg_len hb, seg_get (by omega) (by omega)]
        congr 1; omega
  refine ⟨?_, ?_, ?_⟩
  · apply getD_ext
    · simp [h.1]
    · intro i hi
      rw [List.length_take] at hi
      have e : ∀ M : List α, (M.take a).getD i default = M.getD i default := fun M => by
        rw [gDD, List.getElem?_take, if_pos (by omega), ← gDD]
      rw [e, e, h.2 _ (by omega)]
      unfold rotG; rw [if_neg (by omega)]
  · apply getD_ext
    · simp [h.1]
    · intro i hi
      rw [List.length_drop] at hi
      have e : ∀ M : List α, (M.drop b).getD i default = M.getD (b + i) default := fun M => by
        rw [gDD, List.getElem?_drop, ← gDD]
      rw [e, e, h.2 _ (by omega)]
      unfold rotG; rw [if_neg (by omega)]
  · rw [hs, ← seg_split h1 h2]
    apply Flt.swap
    intro x hx y hy hxy
    obtain ⟨i, hi, rfl⟩ := List.mem_iff_getElem.1 hx
    obtain ⟨j, hj, rfl⟩ := List.mem_iff_getElem.1 hy
    have ei := seg_get (L := L) (a := a) (b := m) (i := i) (by rw [seg_len (by omega)] at hi; omega) (by omega)
    have ej := seg_get (L := L) (a := m) (b := b) (i := j) (by rw [seg_len hb] at hj; omega) hb
    rw [gDD, List.getElem?_eq_getElem hi, Option.getD_some] at ei
    rw [gDD, List.getElem?_eq_getElem hj, Option.getD_some] at ej
    rw [seg_len (by omega)] at hi
    rw [seg_len hb] at hj
    have := hk (a + i) (m + j) (by omega) (by omega) (by omega) (by omega)
    rw [← ei, ← ej] at this
    omega
/-! ### merging in place -/
theorem rot_id [Inhabited α] {L : List α} {s m e : Nat} (h : s = m ∨ e = m) (_hs : s ≤ m) (he : m ≤ e) : Is L L.length (rotG (fun x => L.getD x default) s m e) := by
  refine ⟨rfl, fun x _ => ?_⟩
  unfold rotG
  by_cases h1 : s ≤ x ∧ x < e
  · rw [if_pos h1]
    rcases h with h | h
    · rw [if_pos (by omega)]; congr 1; omega
    · rw [if_neg (by omega)]; congr 1; omega
  · rw [if_neg h1]
theorem sym_strict [Inhabited α] {L : List α} {a s m e b : Nat} (h1 : SrtI key L a m) (h2 : SrtI key L m b) (has : a ≤ s) (heb : e ≤ b) (hB : s = m ∨ e = m ∨ key (L.getD (e - 1) default) < key (L.getD s default)) :
    ∀ p q, s ≤ p → p < m → m ≤ q → q < e → key (L.getD q default) < key (L.getD p default) := fun p q hp hpm hq hqe => by
  have hB' := (hB.resolve_left (by omega)).resolve_left (by omega)
  have e1 := h2.le (p := q) (q := e - 1) hq (by omega) (by omega)
  have e2 := h1.le (p := s) (q := p) has hp hpm
  omega
theorem sym_cross [Inhabited α] {L L1 : List α} {a s m e b mid : Nat} (h1 : SrtI key L a m) (h2 : SrtI key L m b) (has : a ≤ s) (hsm : s ≤ m) (hme : m ≤ e) (heb : e ≤ b) (hb : b ≤ L.length) (hsum : s + e = mid + m)
    (hA : s = a ∨ e = b ∨ key (L.getD (s - 1) default) ≤ key (L.getD e default)) (hB : s = m ∨ e = m ∨ key (L.getD (e - 1) default) < key (L.getD s default)) (h : Is L1 L.length (rotG (fun x => L.getD x default) s m e)) :
    ∀ p q, a ≤ p → p < mid → mid ≤ q → q < b → key (L1.getD p default) ≤ key (L1.getD q default) := fun p q hp hpm hq hqb => by
  have hst := sym_strict h1 h2 has heb hB
  rw [h.2 p (by omega), h.2 q (by omega)]
  unfold rotG
  by_cases hps : s ≤ p ∧ p < e
  · rw [if_pos hps, if_pos (by omega)]
    by_cases hqs : s ≤ q ∧ q < e
    · rw [if_pos hqs, if_neg (by omega)]
      exact Int.le_of_lt (hst _ _ (by omega) (by omega) (by omega) (by omega))
    · rw [if_neg hqs]
      exact h2.le (by omega) (by omega) hqb
  · rw [if_neg hps]
    have hps' : p < s := by omega
    by_cases hqs : s ≤ q ∧ q < e
    · rw [if_pos hqs, if_neg (by omega)]
      exact h1.le hp (by omega) (by omega)
    · rw [if_neg hqs]
      have hA' := (hA.resolve_left (by omega)).resolve_left (by omega)
      have e1 := h1.le (p := p) (q := s - 1) hp (by omega) (by omega)
      have e2 := h2.le (p := e) (q := q) (by omega) (by omega) hqb
      exact Int.le_trans e1 (Int.le_trans hA' e2)
theorem sym_parts [Inhabited α] {L L1 : List α} {a s m e b mid : Nat} (h1 : SrtI key L a m) (h2 : SrtI key L m b) (has : a ≤ s) (hsm : s ≤ m) (hme : m ≤ e) (heb : e ≤ b) (hb : b ≤ L.length) (hsum : s + e = mid + m)
    (h : Is L1 L.length (rotG (fun x => L.getD x default) s m e)) : SrtI key L1 a s ∧ SrtI key L1 s mid ∧ SrtI key L1 mid e ∧ SrtI key L1 e b := by
  refine ⟨fun p q hp hpq hq => ?_, fun p q hp hpq hq => ?_, fun p q hp hpq hq => ?_, fun p q hp hpq hq => ?_⟩
  · rw [h.2 p (by omega), h.2 q (by omega)]; unfold rotG; rw [if_neg (by omega), if_neg (by omega)]; exact h1 p q hp hpq (by omega)
  · rw [h.2 p (by omega), h.2 q (by omega)]; unfold rotG; rw [if_pos (by omega), if_pos (by omega), if_pos (by omega), if_pos (by omega)]; exact h2 _ _ (by omega) (by omega) (by omega)
  · rw [h.2 p (by omega), h.2 q (by omega)]; unfold rotG; rw [if_pos (by omega), if_neg (by omega), if_pos (by omega), if_neg (by omega)]; exact h1 _ _ (by omega) (by omega) (by omega)
  · rw [h.2 p (by omega), h.2 q (by omega)]; unfold rotG; rw [if_neg (by omega), if_neg (by omega)]; exact h2 p q (by omega) hpq hq
theorem Upd.mem [Inhabited α] {L L' : List α} {a b p : Nat} (h : Upd key a b L L') (hab : a ≤ b) (hb : b ≤ L.length) (hp : a ≤ p) (hpb : p < b) : ∃ p', a ≤ p' ∧ p' < b ∧ L'.getD p default = L.getD p' default := by
  have hl := h.len hab
  have e1 := seg_get (L := L') (a := a) (b := b) (i := p - a) (by omega) (by omega)
  rw [show a + (p - a) = p by omega] at e1
  have hi : p - a < (seg L' a b).length := by rw [seg_len (by omega)]; omega
  rw [gDD, List.getElem?_eq_getElem hi, Option.getD_some] at e1
  have hm : L'.getD p default ∈ seg L a b := h.mid.symm.mem (by rw [← e1]; exact List.getElem_mem hi)
  obtain ⟨j, hj, hje⟩ := List.mem_iff_getElem.1 hm
  have e2 := seg_get (L := L) (a := a) (b := b) (i := j) (by rw [seg_len hb] at hj; omega) hb
  rw [gDD, List.getElem?_eq_getElem hj, Option.getD_some] at e2
  rw [seg_len hb] at hj
  exact ⟨a + j, by omega, by omega, by rw [← e2, hje]⟩
theorem sym_join [Inhabited α] {L1 L2 L3 : List α} {a mid b : Nat} (ham : a ≤ mid) (hmb : mid ≤ b) (hb : b ≤ L1.length) (hx : ∀ p q, a ≤ p → p < mid → mid ≤ q → q < b → key (L1.getD p default) ≤ key (L1.getD q default))
    (u1 : Upd key a mid L1 L2) (u2 : Upd key mid b L2 L3) (s1 : SrtI key L2 a mid) (s2 : SrtI key L3 mid b) : SrtI key L3 a b := fun p q hp hpq hq => by
  have hl := u1.len ham
  by_cases hpm : p < mid
  · rw [u2.get_left hpm]
    by_cases hqm : q < mid
    · rw [u2.get_left hqm]; exact s1 p q hp hpq hqm
    · obtain ⟨q', hq1, hq2, hqe⟩ := u2.mem hmb (by omega) (by omega : mid ≤ q) hq
      obtain ⟨p', hp1, hp2, hpe⟩ := u1.mem ham (by omega) hp hpm
      rw [hqe, hpe, u1.get_right (by omega)]
      exact hx p' q' hp1 hp2 hq1 hq2
  · exact s2 p q (by omega) hpq hq
/-! ### moving one element over a part -/
theorem up_step [Inhabited α] {L : List α} {a k b : Nat} {x : α} (hk : a ≤ k) (hkb : k + 1 < b) (hb : b ≤ L.length) (hx : L.getD k default = x) (hlt : key (L.getD (k + 1) default) < key x) :
    Upd key a b L (xch L k (k + 1)) ∧ (xch L k (k + 1)).getD (k + 1) default = x := by
  have h := upd_xch (key := key) (L := L) (a := a) (b := b) (j := k + 1) (by omega) hkb hb (by rw [show k + 1 - 1 = k by omega, hx]; exact hlt)
  rw [show k + 1 - 1 = k by omega] at h
  exact ⟨h, by rw [xch_get (by omega) (by omega), if_pos rfl, hx]⟩
structure UpI [Inhabited α] (L K : List α) (a k b : Nat) : Prop where
  len : K.length = L.length
  at_ : K.getD k default = L.getD a default
  lo : ∀ p, a ≤ p → p < k → K.getD p default = L.getD (p + 1) default
  hi : ∀ p, k < p → p < b → K.getD p default = L.getD p default
theorem UpI.start [Inhabited α] (L : List α) (a b : Nat) : UpI L L a a b := ⟨rfl, rfl, fun p h1 h2 => by omega, fun _ _ _ => rfl⟩
theorem UpI.step [Inhabited α] {L K : List α} {a k b : Nat} (h : UpI L K a k b) (hk : a ≤ k) (hkb : k + 1 < b) (hb : b ≤ L.length) : UpI L (xch K k (k + 1)) a (k + 1) b := by
  have hl := h.len
  refine ⟨by rw [xch_len, hl], ?_, fun p h1 h2 => ?_, fun p h1 h2 => ?_⟩
  · rw [xch_get (by omega) (by omega), if_pos rfl]; exact h.at_
  · rw [xch_get (by omega) (by omega), if_neg (by omega)]
    by_cases hp : p = k
    · subst hp; rw [if_pos rfl]; exact h.hi _ (by omega) hkb
    · rw [if_neg hp]; exact h.lo p h1 (by omega)
  · rw [xch_get (by omega) (by omega), if_neg (by omega), if_neg (by omega)]
    exact h.hi p (by omega) h2
theorem UpI.done [Inhabited α] {L K : List α} {a k b : Nat} (h : UpI L K a k b) (hak : a ≤ k) (hkb : k < b) (hs : SrtI key L (a + 1) b) (hlo : ∀ p, a + 1 ≤ p → p < k + 1 → key (L.getD p default) < key (L.getD a default)) (hhi : ∀ p, k + 1 ≤ p → p < b → key (L.getD a default) ≤ key (L.getD p default)) : SrtI key K a b := fun p q hp hpq hq => by
  by_cases h1 : p < k
  · rw [h.lo p hp h1]
    by_cases h2 : q < k
    · rw [h.lo q (by omega) h2]; exact hs (p + 1) (q + 1) (by omega) (by omega) (by omega)
    · by_cases h3 : q = k
      · subst h3; rw [h.at_]; exact Int.le_of_lt (hlo (p + 1) (by omega) (by omega))
      · rw [h.hi q (by omega) hq]; exact hs (p + 1) q (by omega) (by omega) hq
  · by_cases h3 : p = k
    · subst h3; rw [h.at_, h.hi q (by omega) hq]; exact hhi q (by omega) hq
    · rw [h.hi p (by omega) (by omega), h.hi q (by omega) hq]; exact hs p q (by omega) hpq hq
structure DnI [Inhabited α] (L K : List α) (m k : Nat) : Prop where
  len : K.length = L.length
  at_ : K.getD k default = L.getD m default
  lo : ∀ p, p < k → K.getD p default = L.getD p default
  hi : ∀ p, k < p → p ≤ m → K.getD p default = L.getD (p - 1) default
theorem DnI.start [Inhabited α] (L : List α) (m : Nat) : DnI L L m m := ⟨rfl, rfl, fun _ _ => rfl, fun p h1 h2 => by omega⟩
theorem DnI.step [Inhabited α] {L K : List α} {m k : Nat} (h : DnI L K m (k + 1)) (hkm : k + 1 ≤ m) (hm : m < L.length) : DnI L (xch K k (k + 1)) m k := by
  have hl := h.len
  refine ⟨by rw [xch_len, hl], ?_, fun p h1 => ?_, fun p h1 h2 => ?_⟩
  · rw [xch_get (by omega) (by omega), if_neg (by omega), if_pos rfl]; exact h.at_
  · rw [xch_get (by omega) (by omega), if_neg (by omega), if_neg (by omega)]; exact h.lo p (by omega)
  · rw [xch_get (by omega) (by omega)]
    by_cases hp : p = k + 1
    · subst hp; rw [if_pos rfl, Nat.add_sub_cancel]; exact h.lo k (by omega)
    · rw [if_neg hp, if_neg (by omega)]; exact h.hi p (by omega) h2
theorem DnI.done [Inhabited α] {L K : List α} {a m k : Nat} (h : DnI L K m k) (hak : a ≤ k) (hkm : k ≤ m) (hs : SrtI key L a m) (hlo : ∀ p, a ≤ p → p < k → key (L.getD p default) ≤ key (L.getD m default)) (hhi : ∀ p, k ≤ p → p < m → key (L.getD m default) < key (L.getD p default)) : SrtI key K a (m + 1) := fun p q hp hpq hq => by
  by_cases h1 : q < k
  · rw [h.lo p (by omega), h.lo q h1]; exact hs p q hp hpq (by omega)
  · by_cases h2 : q = k
    · subst h2; rw [h.at_, h.lo p hpq]; exact hlo p hp hpq
    · rw [h.hi q (by omega) (by omega)]
      by_cases h3 : p < k
      · rw [h.lo p h3]; exact hs p (q - 1) hp (by omega) (by omega)
      · by_cases h4 : p = k
        · subst h4; rw [h.at_]; exact Int.le_of_lt (hhi (q - 1) (by omega) (by omega))
        · rw [h.hi p (by omega) (by omega)]; exact hs (p - 1) (q - 1) (by omega) (by omega) (by omega)
theorem sym_upd [Inhabited α] {L L1 : List α} {a s m e b : Nat} (h1 : SrtI key L a m) (h2 : SrtI key L m b) (has : a ≤ s) (hsm : s ≤ m) (hme : m ≤ e) (heb : e ≤ b) (hb : b ≤ L.length) (hB : s = m ∨ e = m ∨ key (L.getD (e - 1) default) < key (L.getD s default)) (h : Is L1 L.length (rotG (fun x => L.getD x default) s m e)) : Upd key a b L L1 :=
  (rot_upd hsm hme (by omega) h (sym_strict h1 h2 has heb hB)).wide (by omega) has heb hb
/-! ### blocks -/
def SB [Inhabited α] (key : α → Int) (M : List α) (W lo hi : Nat) : Prop := ∀ t, lo ≤ W * t → W * t < hi → SrtI key M (W * t) (min (W * t + W) hi)
theorem SB.nil [Inhabited α] {M : List α} {W : Nat} : SB key M W 0 0 := fun t _ h2 => by omega
theorem SB.step [Inhabited α] {K K' : List α} {W a c : Nat} (h : SB key K W 0 a) (ha : ∃ k, a = W * k) (hW : 0 < W) (u : Upd key a c K K') (hc : c ≤ a + W) (hs : SrtI key K' a c) : SB key K' W 0 c := fun t _ h2 => by
  obtain ⟨k, hk⟩ := ha
  rcases Nat.lt_or_ge t k with h3 | h3
  · have h4 : W * t + W ≤ a := by rw [hk, ← Nat.mul_succ]; exact Nat.mul_le_mul_left W h3
    have h5 := h t (Nat.zero_le _) (by omega)
    rw [Nat.min_eq_left h4] at h5
    exact (h5.ext (fun i _ hi => u.get_left (by omega))).sub (Nat.le_refl _) (Nat.min_le_left _ _)
  · have h4 : t < k + 1 := by
      refine Nat.lt_of_mul_lt_mul_left (a := W) ?_
      rw [Nat.mul_succ, ← hk]; omega
    obtain rfl : t = k := by omega
    rw [← hk]
    exact hs.sub (Nat.le_refl _) (Nat.min_le_right _ _)
theorem SB.right [Inhabited α] {K K' : List α} {W a c n : Nat} (h : SB key K W a n) (u : Upd key a c K K') (hac : a ≤ c) : SB key K' W c n := fun t h1 h2 =>
  (h t (by omega) h2).ext (fun i hi _ => u.get_right (by omega))
theorem SB.two [Inhabited α] {K : List α} {W a n : Nat} (h : SB key K W a n) (ha : ∃ k, a = 2 * W * k) : (a < n → SrtI key K a (min (a + W) n)) ∧ (a + W < n → SrtI key K (a + W) (min (a + W + W) n)) := by
  obtain ⟨k, hk⟩ := ha
  have e1 : W * (2 * k) = a := by rw [hk, Nat.mul_left_comm, Nat.mul_assoc]
  have e2 : W * (2 * k + 1) = a + W := by rw [Nat.mul_succ, e1]
  refine ⟨fun h1 => ?_, fun h1 => ?_⟩
  · have := h (2 * k) (by omega) (by omega); rwa [e1] at this
  · have := h (2 * k + 1) (by omega) (by omega); rwa [e2] at this
theorem mul_next {W a : Nat} (ha : ∃ k, a = W * k) : ∃ k, a + W = W * k := let ⟨k, hk⟩ := ha; ⟨k + 1, by rw [hk, Nat.mul_succ]⟩
theorem SB.all [Inhabited α] {K : List α} {W n : Nat} (h : SB key K W 0 n) (hW : n ≤ W) : SrtI key K 0 n := fun p q hp hpq hq => by
  have := h 0 (Nat.zero_le _) (by omega)
  rw [Nat.mul_zero, Nat.zero_add, Nat.min_eq_right hW] at this
  exact this p q hp hpq hq
theorem Upd.srt [Inhabited α] {L L' : List α} (h : Upd key 0 L.length L L') (hs : SrtI key L' 0 L.length) : Srt key L' ∧ Flt key L L' := by
  have hl := h.len (Nat.zero_le _)
  refine ⟨SrtI.srt (by rw [hl]; exact hs), ?_⟩
  have := h.mid
  rw [seg_all] at this
  rwa [← hl, seg_all] at this
end Go.K.Sorts
