/- Lemmas. Conditions: those of each theorem. -/
import Derived.Test.YtpapfpoefiikpaaGreatDoorVUnPlB
namespace Bt
structure Node where
  Kind : Int
  Text : List UInt8
  N : Int
  Dim : Int
  At : Int
  Kids : List Node
instance : Inhabited Node := ⟨⟨0, [], 0, 0, 0, []⟩⟩
end Bt
namespace Un
theorem amt_le (l n : List UInt8) : (amt l n).1 ≤ 1125899906842624 ∧ (amt l n).2.1 ≤ 6 := by
  unfold amt
  split
  · split
    · simp
    · rename_i m hm
      have h1 := ms_facts m (look_mem hm).1
      split
      · rename_i h
        exact ⟨h.2, h1.1⟩
      · simp
  · simp
end Un
namespace Pa
open Bt
abbrev Er := Int × Int
abbrev R (α : Type) := Except Er (α × List Token)
def pk (ts : List Token) : Token := ts.headD default
def isS (c : List UInt8) (ts : List Token) : Bool := decide ((pk ts).Kind = 3) && decide ((pk ts).Text = c)
def wrd (k : Int) (t : Token) : Node := ⟨k, t.Text, 0, 0, t.At, []⟩
def fail {α : Type} (ts : List Token) : R α := .error (2, (pk ts).At)
def nameP (ts : List Token) : R Token := if (pk ts).Kind = 0 then .ok (pk ts, ts.tail) else fail ts
def wordP (ts : List Token) : R Node := if (pk ts).Kind = 0 then .ok (wrd 3 (pk ts), ts.tail) else if (pk ts).Kind = 2 then .ok (wrd 4 (pk ts), ts.tail) else fail ts
def isUnit (t : List UInt8) : Bool := !decide ((Un.amt [48] t).2.2 = 6)
def unitOf (ts : List Token) : List UInt8 := if (pk ts).Kind = 0 ∧ isUnit (pk ts).Text = true then (pk ts).Text else []
def unitRest (ts : List Token) : List Token := if (pk ts).Kind = 0 ∧ isUnit (pk ts).Text = true then ts.tail else ts
def amtP (ts : List Token) : R Node :=
  let a := Un.amt (pk ts).Text (unitOf ts.tail)
  if a.2.2 = 0 then .ok (⟨5, [], a.1, a.2.1, (pk ts).At, []⟩, unitRest ts.tail) else .error (7, (pk ts).At)
def grp (at_ : Int) (ks : List Node) : Node := ⟨6, [], 0, 0, at_, ks⟩
mutual
def valP : Nat → Nat → List Token → R Node
  | 0, _, _ => .error (0, 0)
  | f + 1, g, ts =>
    if (pk ts).Kind = 1 then amtP ts
    else if isS [40] ts = true then
      (if 40 ≤ g then .error (8, (pk ts).At) else match grpP f (g + 1) ts.tail with
        | .error e => .error e
        | .ok (xs, r) => .ok (grp (pk ts).At xs, r))
    else wordP ts
def grpP : Nat → Nat → List Token → R (List Node)
  | 0, _, _ => .error (0, 0)
  | f + 1, g, ts => match valP f g ts with
    | .error e => .error e
    | .ok (x, r) =>
      if isS [41] r = true then .ok ([x], r.tail)
      else if isS [44] r = true then (match grpP f g r.tail with
        | .error e => .error e
        | .ok (xs, r') => .ok (x :: xs, r'))
      else fail r
end
def many (c : List UInt8) (p : List Token → R Node) : Nat → List Token → R (List Node)
  | 0, _ => .error (0, 0)
  | f + 1, ts => if isS c ts = true then .ok ([], ts.tail) else match p ts with
    | .error e => .error e
    | .ok (x, r) => (match many c p f r with
      | .error e => .error e
      | .ok (xs, r') => .ok (x :: xs, r'))
def val0 (ts : List Token) : R Node := valP (2 * ts.length) 0 ts
def propP (ts : List Token) : R Node := match nameP ts with
  | .error e => .error e
  | .ok (t, r) => (match many [59] val0 r.length r with
    | .error e => .error e
    | .ok (xs, r') => .ok (⟨2, t.Text, 0, 0, t.At, xs⟩, r'))
def declP (ts : List Token) : R Node := match nameP ts with
  | .error e => .error e
  | .ok (t, r) => (match many [123] wordP r.length r with
    | .error e => .error e
    | .ok (xs, r') => (match many [125] propP r'.length r' with
      | .error e => .error e
      | .ok (ys, r'') => .ok (⟨1, t.Text, 0, 0, t.At, xs ++ ys⟩, r'')))
def fileP : Nat → List Token → R (List Node)
  | 0, _ => .error (0, 0)
  | f + 1, ts => if (pk ts).Kind = 4 then .ok ([], ts) else match declP ts with
    | .error e => .error e
    | .ok (x, r) => (match fileP f r with
      | .error e => .error e
      | .ok (xs, r') => .ok (x :: xs, r'))
def fileN (ts : List Token) : R Node := match fileP (ts.length + 1) ts with
  | .error e => .error e
  | .ok (xs, r) => .ok (⟨0, [], 0, 0, 0, xs⟩, r)
def parseT (ts : List Token) : Node × Int × Int := match fileN ts with
  | .error e => (default, e.1, e.2)
  | .ok (x, _) => (x, 0, 0)
def parse (s : List UInt8) : Node × Int × Int :=
  if (Lx.scan s).2.1 = 0 then parseT (Lx.scan s).1 else (default, (Lx.scan s).2.1, (Lx.scan s).2.2)
def good : List Token → Prop
  | [] => False
  | [t] => t.Kind = 4
  | _ :: u :: r => good (u :: r)
theorem good_ne {ts : List Token} (h : good ts) : ts ≠ [] := by rintro rfl; exact h
theorem good_tail {ts : List Token} (h : good ts) (hk : (pk ts).Kind ≠ 4) : good ts.tail ∧ ts.tail.length + 1 = ts.length := by
  match ts, h with
  | [t], h => exact absurd h hk
  | _ :: u :: r, h => exact ⟨h, rfl⟩
theorem suf_get {toks ts : List Token} (h : ts <:+ toks) (hn : ts ≠ []) : toks.length - ts.length < toks.length ∧ toks.getD (toks.length - ts.length) default = pk ts := by
  obtain ⟨pre, rfl⟩ := h
  have : 0 < ts.length := List.length_pos_iff.2 hn
  refine ⟨by rw [List.length_append]; omega, ?_⟩
  rw [List.length_append, Nat.add_sub_cancel, pk, gDD, List.getElem?_append_right (Nat.le_refl _), Nat.sub_self, List.headD_eq_head?_getD, List.head?_eq_getElem?]
theorem suf_len {toks ts : List Token} (h : ts <:+ toks) : ts.length ≤ toks.length := h.length_le
def Ad (ts r : List Token) : Prop := r <:+ ts ∧ good r ∧ r.length < ts.length
theorem Ad.trans {a b c : List Token} (h : Ad a b) (k : Ad b c) : Ad a c := ⟨k.1.trans h.1, k.2.1, Nat.lt_trans k.2.2 h.2.2⟩
theorem ad_tail {ts : List Token} (h : good ts) (hk : (pk ts).Kind ≠ 4) : Ad ts ts.tail := by
  obtain ⟨h1, h2⟩ := good_tail h hk
  exact ⟨List.tail_suffix _, h1, by omega⟩
theorem isS_kind {c : List UInt8} {ts : List Token} (h : isS c ts = true) : (pk ts).Kind = 3 := by unfold isS at h; simp only [Bool.and_eq_true, decide_eq_true_eq] at h; exact h.1
theorem ad_sign {c : List UInt8} {ts : List Token} (h : good ts) (hs : isS c ts = true) : Ad ts ts.tail := ad_tail h (by have := isS_kind hs; omega)
theorem nameP_ok {ts r : List Token} {t : Token} (hg : good ts) (h : nameP ts = .ok (t, r)) : Ad ts r ∧ t = pk ts ∧ (pk ts).Kind = 0 := by
  unfold nameP at h
  split at h
  · rename_i hk
    cases h; exact ⟨ad_tail hg (by omega), rfl, hk⟩
  · cases h
theorem wordP_ok {ts r : List Token} {x : Node} (hg : good ts) (h : wordP ts = .ok (x, r)) : Ad ts r := by
  unfold wordP at h
  split at h
  · cases h; exact ad_tail hg (by omega)
  · split at h
    · cases h; exact ad_tail hg (by omega)
    · cases h
theorem unit_ok {ts : List Token} (hg : good ts) : unitRest ts <:+ ts ∧ good (unitRest ts) ∧ (unitRest ts).length ≤ ts.length := by
  unfold unitRest
  split
  · rename_i h
    obtain ⟨h1, h2⟩ := good_tail hg (by omega)
    exact ⟨List.tail_suffix _, h1, by omega⟩
  · exact ⟨List.suffix_refl _, hg, Nat.le_refl _⟩
theorem amtP_ok {ts r : List Token} {x : Node} (hg : good ts) (hk : (pk ts).Kind = 1) (h : amtP ts = .ok (x, r)) : Ad ts r := by
  unfold amtP at h
  have h0 := ad_tail hg (by omega)
  obtain ⟨h1, h2, h3⟩ := unit_ok h0.2.1
  simp only [] at h
  split at h
  · cases h
    exact ⟨h1.trans h0.1, h2, Nat.lt_of_le_of_lt h3 h0.2.2⟩
  · cases h
theorem val_grp_ok : ∀ (f : Nat), (∀ (g : Nat) (ts r : List Token) (x : Node), good ts → valP f g ts = .ok (x, r) → Ad ts r) ∧ (∀ (g : Nat) (ts r : List Token) (xs : List Node), good ts → grpP f g ts = .ok (xs, r) → Ad ts r)
  | 0 => ⟨fun g ts r x _ h => (by rw [valP] at h; cases h), fun g ts r x _ h => (by rw [grpP] at h; cases h)⟩
  | f + 1 => by
    obtain ⟨ih1, ih2⟩ := val_grp_ok f
    refine ⟨fun g ts r x hg h => ?_, fun g ts r xs hg h => ?_⟩
    · rw [valP] at h
      split at h
      · rename_i hk; exact amtP_ok hg hk h
      · split at h
        · rename_i hs
          split at h
          · cases h
          · have h0 := ad_sign hg hs
            split at h
            · cases h
            · rename_i xs r' he
              cases h
              exact h0.trans (ih2 _ _ _ _ h0.2.1 he)
        · exact wordP_ok hg h
    · rw [grpP] at h
      split at h
      · cases h
      · rename_i x r1 he
        have h1 := ih1 _ _ _ _ hg he
        split at h
        · rename_i hs
          cases h; exact h1.trans (ad_sign h1.2.1 hs)
        · split at h
          · rename_i hs
            have h2 := h1.trans (ad_sign h1.2.1 hs)
            split at h
            · cases h
            · rename_i xs r2 he2
              cases h
              exact h2.trans (ih2 _ _ _ _ h2.2.1 he2)
          · cases h
theorem valP_ok {f g : Nat} {ts r : List Token} {x : Node} (hg : good ts) (h : valP f g ts = .ok (x, r)) : Ad ts r := (val_grp_ok f).1 g ts r x hg h
theorem val0_ok {ts r : List Token} {x : Node} (hg : good ts) (h : val0 ts = .ok (x, r)) : Ad ts r := valP_ok hg h
theorem many_ok {c : List UInt8} {p : List Token → R Node} (hp : ∀ {ts r x}, good ts → p ts = .ok (x, r) → Ad ts r) : ∀ {f : Nat} {ts r : List Token} {xs : List Node}, good ts → many c p f ts = .ok (xs, r) → Ad ts r
  | 0, _, _, _, _, h => by rw [many] at h; cases h
  | f + 1, ts, r, xs, hg, h => by
    rw [many] at h
    split at h
    · rename_i hs
      cases h; exact ad_sign hg hs
    · split at h
      · cases h
      · rename_i x r1 he
        have h1 := hp hg he
        split at h
        · cases h
        · rename_i ys r2 he2
          cases h
          exact h1.trans (many_ok hp h1.2.1 he2)
theorem propP_ok {ts r : List Token} {x : Node} (hg : good ts) (h : propP ts = .ok (x, r)) : Ad ts r := by
  unfold propP at h
  split at h
  · cases h
  · rename_i t r1 he
    have h1 := (nameP_ok hg he).1
    split at h
    · cases h
    · rename_i xs r2 he2
      cases h
      exact h1.trans (many_ok val0_ok h1.2.1 he2)
theorem declP_ok {ts r : List Token} {x : Node} (hg : good ts) (h : declP ts = .ok (x, r)) : Ad ts r := by
  unfold declP at h
  split at h
  · cases h
  · rename_i t r1 he
    have h1 := (nameP_ok hg he).1
    split at h
    · cases h
    · rename_i xs r2 he2
      have h2 := h1.trans (many_ok wordP_ok h1.2.1 he2)
      split at h
      · cases h
      · rename_i ys r3 he3
        cases h
        exact h2.trans (many_ok propP_ok h2.2.1 he3)
theorem stm_good {s : List UInt8} : ∀ (n a : Nat), s.length - a < n → a ≤ s.length → (∀ x ∈ Lx.stm n s a, x.2 = true) → good ((Lx.stm n s a).map (·.1)) ∧ ∀ t ∈ (Lx.stm n s a).map (·.1), Lx.wfT s.length t
  | 0, _, h, _, _ => by omega
  | n + 1, a, h, ha, hall => by
    by_cases hlt : a < s.length
    · cases hk : (Lx.tk (s.drop a)).2.2.2.2 with
      | false =>
        rw [Lx.stm_bad hlt hk] at hall
        have := hall _ (List.mem_singleton.2 rfl)
        cases this
      | true =>
        rw [Lx.stm_tok hlt hk] at hall ⊢
        have hld : (s.drop a).length = s.length - a := List.length_drop
        obtain ⟨h1, h2⟩ := Lx.tk_ok (l := s.drop a) (by omega) hk
        have h3 := Lx.skp_le false (s.drop (a + (Lx.tk (s.drop a)).2.2.2.1))
        rw [List.length_drop] at h3
        obtain ⟨h4, h5⟩ := stm_good n (a + (Lx.tk (s.drop a)).2.2.2.1 + Lx.skp false (s.drop (a + (Lx.tk (s.drop a)).2.2.2.1))) (by omega) (by omega) (fun x hx => hall x (List.mem_cons_of_mem _ hx))
        refine ⟨?_, fun t ht => ?_⟩
        · rw [List.map_cons]
          generalize (Lx.stm n s _).map (·.1) = L at h4
          cases L with
          | nil => exact h4.elim
          | cons u r => exact h4
        · rw [List.map_cons] at ht
          rcases List.mem_cons.1 ht with rfl | ht
          · exact Lx.wf_tok (by omega)
          · exact h5 t ht
    · rw [Lx.stm_end (by omega)]
      exact ⟨rfl, fun t ht => by obtain rfl := List.mem_singleton.1 ht; exact Lx.wf_end s⟩
theorem scan_good {s : List UInt8} (h : (Lx.scan s).2.1 = 0) : good (Lx.scan s).1 ∧ (∀ t ∈ (Lx.scan s).1, Lx.wfT 65536 t) ∧ (Lx.scan s).1.length ≤ 65537 ∧ s.length ≤ 65536 ∧ (Lx.scan s).1 = (Lx.seqT s).map (·.1) ∧ ∀ x ∈ Lx.seqT s, x.2 = true := by
  by_cases h1 : 65536 < s.length
  · unfold Lx.scan at h; rw [if_pos h1] at h; cases h
  · by_cases h2 : ∀ x ∈ Lx.seqT s, x.2 = true
    · rw [Lx.scan_ok (by omega) h2]
      have h0 := Lx.skp_le false s
      obtain ⟨h3, h4⟩ := stm_good (s := s) (s.length + 1) (Lx.skp false s) (by omega) h0 h2
      refine ⟨h3, fun t ht => ?_, ?_, by omega, rfl, h2⟩
      · obtain ⟨k1, k2, k3, k4, k5⟩ := h4 t ht
        exact ⟨k1, k2, by omega, k4, by omega⟩
      · have := Lx.stm_len (s.length + 1) s (Lx.skp false s)
        simp only [Lx.seqT, List.length_map]; omega
    · exfalso
      apply h2
      intro x hx
      cases hb : x.2 with
      | true => rfl
      | false => rw [Lx.scan_bad (by omega) hx hb] at h; cases h
end Pa
namespace Fu
/-! ### lists -/
theorem lt_succ {P : Nat → Prop} {k : Nat} (h : ∀ j, j < k → P j) (hk : P k) : ∀ j, j < k + 1 → P j := fun j hj => by
  rcases Nat.lt_or_eq_of_le (Nat.lt_succ_iff.1 hj) with h1 | h1
  · exact h j h1
  · subst h1; exact hk
/-! ### spans -/
/-! ### gauges -/
def inG (gs : List Bt.Gauge) (i : Int) : Prop := 0 ≤ i ∧ i < (gs.length : Int)
instance (gs : List Bt.Gauge) (i : Int) : Decidable (inG gs i) := inferInstanceAs (Decidable (_ ∧ _))
/-! ### curves -/
def px (c : List Bt.Point) (i : Nat) : Int := (c.getD i default).X
def py (c : List Bt.Point) (i : Nat) : Int := (c.getD i default).Y
def PtOk (c : List Bt.Point) (i : Nat) : Prop := (0 ≤ px c i ∧ px c i ≤ 1125899906842624) ∧ (0 ≤ py c i ∧ py c i ≤ 1125899906842624) ∧ (0 < i → px c (i - 1) < px c i ∧ py c (i - 1) ≤ py c i)
instance (c : List Bt.Point) (i : Nat) : Decidable (PtOk c i) := inferInstanceAs (Decidable (_ ∧ _ ∧ (_ → _)))
def RightC (c : List Bt.Point) : Prop := (1 ≤ c.length ∧ c.length ≤ 32) ∧ ∀ i, i < c.length → PtOk c i
instance (c : List Bt.Point) : Decidable (RightC c) := inferInstanceAs (Decidable (_ ∧ ∀ i, i < c.length → PtOk c i))
def atSeg (c : List Bt.Point) (i : Nat) (x : Int) : Int := py c (i - 1) + (x - px c (i - 1)) * (py c i - py c (i - 1)) / (px c i - px c (i - 1))
def posX (c : List Bt.Point) (x : Int) : Nat := c.findIdx fun p => decide (x ≤ p.X)
def valC (c : List Bt.Point) (x : Int) : Int := if posX c x = 0 then py c 0 else if posX c x < c.length then atSeg c (posX c x) x else py c (c.length - 1)
def remC (c : List Bt.Point) (x : Int) : Bool := if posX c x = 0 then false else if posX c x < c.length then decide (0 < (x - px c (posX c x - 1)) * (py c (posX c x) - py c (posX c x - 1)) % (px c (posX c x) - px c (posX c x - 1))) else false
theorem findIdx_is {α : Type} [Inhabited α] {p : α → Bool} {l : List α} {i : Nat} (hi : i ≤ l.length) (h1 : i < l.length → p (l.getD i default) = true) (h2 : ∀ j, j < i → p (l.getD j default) = false) : l.findIdx p = i := by
  rcases Nat.lt_or_eq_of_le hi with h | h
  · refine (List.findIdx_eq h).2 ⟨?_, fun j hj => ?_⟩
    · have := h1 h; rwa [gDD, List.getElem?_eq_getElem h] at this
    · have := h2 j hj; rwa [gDD, List.getElem?_eq_getElem (Nat.lt_trans hj h)] at this
  · subst h
    refine List.findIdx_eq_length.2 fun x hx => ?_
    obtain ⟨j, hj, rfl⟩ := List.mem_iff_getElem.1 hx
    have := h2 j hj
    rwa [gDD, List.getElem?_eq_getElem hj] at this
theorem posX_is {c : List Bt.Point} {x : Int} {i : Nat} (hi : i ≤ c.length) (h1 : i < c.length → x ≤ px c i) (h2 : ∀ j, j < i → px c j < x) : posX c x = i :=
  findIdx_is hi (fun h => decide_eq_true (h1 h)) (fun j hj => decide_eq_false (Int.not_le.2 (h2 j hj)))
/-! ### a list without neighbours that are alike -/
def appU (acc : List Int) (x : Int) : List Int := if acc.getLast? = some x then acc else acc ++ [x]
def comp (L : List Int) : List Int := L.foldl appU []
theorem comp_snoc (L : List Int) (x : Int) : comp (L ++ [x]) = appU (comp L) x := by simp [comp]
theorem take_snocI {L : List Int} {k : Nat} (h : k < L.length) : L.take (k + 1) = L.take k ++ [L.getD k 0] := by
  rw [List.take_succ_eq_append_getElem h, gDD, List.getElem?_eq_getElem h]; rfl
theorem comp_last : ∀ {L : List Int} {k : Nat}, 0 < k → k ≤ L.length → (comp (L.take k)).getLast? = some (L.getD (k - 1) 0) := fun {L k} h0 hk => by
  obtain ⟨j, rfl⟩ : ∃ j, k = j + 1 := ⟨k - 1, by omega⟩
  rw [take_snocI (by omega), comp_snoc, Nat.add_sub_cancel]
  unfold appU
  split
  · assumption
  · simp
theorem comp_id {L : List Int} : ∀ {k : Nat}, k ≤ L.length → (∀ j, 1 ≤ j → j < k → L.getD j 0 ≠ L.getD (j - 1) 0) → comp (L.take k) = L.take k
  | 0, _, _ => by simp [comp]
  | k + 1, hk, h => by
    have ih := comp_id (k := k) (by omega) (fun j h1 h2 => h j h1 (by omega))
    rw [take_snocI (by omega), comp_snoc, ih]
    unfold appU
    rw [if_neg]
    rcases Nat.eq_zero_or_pos k with h0 | h0
    · subst h0; simp
    · have := comp_last (L := L) h0 (by omega)
      rw [ih] at this
      rw [this]
      intro he
      exact h k h0 (by omega) (sJ he).symm
theorem comp_eq {L : List Int} {k : Nat} (h0 : 0 < k) (hk : k < L.length) (h : L.getD k 0 = L.getD (k - 1) 0) : comp (L.take (k + 1)) = comp (L.take k) := by
  rw [take_snocI hk, comp_snoc, appU, comp_last h0 (by omega), h, if_pos rfl]
theorem comp_ne {L : List Int} {k : Nat} (h0 : 0 < k) (hk : k < L.length) (h : L.getD k 0 ≠ L.getD (k - 1) 0) : comp (L.take (k + 1)) = comp (L.take k) ++ [L.getD k 0] := by
  rw [take_snocI hk, comp_snoc, appU, comp_last h0 (by omega), if_neg (fun e => h (sJ e).symm)]
structure CmI (L K : List Int) (k p : Nat) : Prop where
  len : K.length = L.length
  pre : K.take k = comp (L.take p)
  kl : k = (comp (L.take p)).length
  post : ∀ j, p ≤ j + 1 → j < L.length → K.getD j 0 = L.getD j 0
  kp : k + 1 ≤ p
theorem CmI.start {L : List Int} {k : Nat} (h0 : 0 < k) (hk : k < L.length) (h : L.getD k 0 = L.getD (k - 1) 0) (hid : ∀ j, 1 ≤ j → j < k → L.getD j 0 ≠ L.getD (j - 1) 0) : CmI L L k (k + 1) := by
  have h1 := comp_id (Nat.le_of_lt hk) hid
  have h2 := comp_eq h0 hk h
  exact ⟨rfl, by rw [h2, h1], by rw [h2, h1, List.length_take]; omega, fun _ _ _ => rfl, Nat.le_refl _⟩
theorem CmI.keep {L K : List Int} {k p : Nat} (h : CmI L K k p) (hp : p < L.length) (he : L.getD p 0 = L.getD (p - 1) 0) : CmI L K k (p + 1) := by
  have h1 := h.kp
  have h2 := comp_eq (L := L) (show 0 < p by omega) hp he
  exact ⟨h.len, by rw [h2]; exact h.pre, by rw [h2]; exact h.kl, fun j hj hl => h.post j (by omega) hl, by omega⟩
theorem CmI.put {L K : List Int} {k p : Nat} (h : CmI L K k p) (hp : p < L.length) (he : L.getD p 0 ≠ L.getD (p - 1) 0) : CmI L (K.set k (L.getD p 0)) (k + 1) (p + 1) := by
  have h1 := h.kp
  have hl := h.len
  have h2 := comp_ne (L := L) (show 0 < p by omega) hp he
  refine ⟨by simp [hl], ?_, by rw [h2, List.length_append, ← h.kl]; rfl, fun j hj hlj => ?_, by omega⟩
  · rw [h2, ← h.pre, take_snocI (by simp; omega)]
    have e1 : (K.set k (L.getD p 0)).take k = K.take k := by rw [List.take_set]; exact List.set_eq_of_length_le (by rw [List.length_take]; omega)
    have e2 : (K.set k (L.getD p 0)).getD k 0 = L.getD p 0 := by rw [gDD, List.getElem?_set_self (by omega)]; rfl
    rw [e1, e2]
  · rw [gDD, List.getElem?_set_ne (by omega), ← gDD]
    exact h.post j (by omega) hlj
end Fu
namespace Fu
section
variable {c : List Bt.Point}
theorem RightC.pt (h : RightC c) {i : Nat} (hi : i < c.length) : PtOk c i := h.2 i hi
theorem px_lt (h : RightC c) : ∀ {j i : Nat}, i < j → j < c.length → px c i < px c j
  | 0, _, hij, _ => absurd hij (Nat.not_lt_zero _)
  | j + 1, i, hij, hj => by
    have h1 := ((h.pt hj).2.2 (Nat.succ_pos j)).1
    rw [Nat.add_sub_cancel] at h1
    rcases Nat.lt_or_eq_of_le (Nat.lt_succ_iff.1 hij) with h2 | h2
    · have := px_lt h h2 (Nat.lt_of_succ_lt hj); omega
    · subst h2; exact h1
theorem px_le (h : RightC c) {i j : Nat} (hij : i ≤ j) (hj : j < c.length) : px c i ≤ px c j := by
  rcases Nat.lt_or_eq_of_le hij with h2 | h2
  · exact Int.le_of_lt (px_lt h h2 hj)
  · subst h2; exact Int.le_refl _
structure Seg (c : List Bt.Point) (i : Nat) (W D : Int) : Prop where
  pos : 0 < i
  lt : i < c.length
  w : W = px c i - px c (i - 1)
  d : D = py c i - py c (i - 1)
  w0 : 0 < W
  d0 : 0 ≤ D
  wM : W ≤ 1125899906842624
  dM : D ≤ 1125899906842624
theorem seg_of (h : RightC c) {i : Nat} (h0 : 0 < i) (hi : i < c.length) : Seg c i (px c i - px c (i - 1)) (py c i - py c (i - 1)) := by
  have h1 := h.pt hi; have h2 := h.pt (show i - 1 < c.length by omega)
  have h3 := h1.2.2 h0
  exact ⟨h0, hi, rfl, rfl, by omega, by omega, by have := h1.1; have := h2.1; omega, by have := h1.2.1; have := h2.2.1; omega⟩
theorem mul_div_rng {k W D : Int} (h0 : 0 ≤ k) (h1 : k ≤ W) (hW : 0 < W) (hD : 0 ≤ D) : 0 ≤ k * D / W ∧ k * D / W ≤ D := by
  refine ⟨Int.ediv_nonneg (Int.mul_nonneg h0 hD) (by omega), ?_⟩
  refine Int.ediv_le_of_le_mul hW ?_
  rw [Int.mul_comm D W]
  exact Int.mul_le_mul_of_nonneg_right h1 hD
def up (n d : Int) : Int := n / d + (if n % d > 0 then 1 else 0)
end
end Fu
namespace Ba
open Fu
def slope (a d : Int) : Int := if d = 0 then 0 else if d < a then 1099511627777 else a * 1099511627776 / d + (if a * 1099511627776 % d = 0 then 0 else 1)
theorem slope_rng {a d : Int} (ha : 0 ≤ a) (hd : 0 ≤ d) : 0 ≤ slope a d ∧ slope a d ≤ 1099511627777 := by
  unfold slope
  split
  · omega
  · split
    · omega
    · have h1 : 0 ≤ a * 1099511627776 / d := Int.ediv_nonneg (by omega) (by omega)
      have h2 : a * 1099511627776 / d ≤ 1099511627776 := by
        refine Int.ediv_le_of_le_mul (by omega) ?_
        have : a * 1099511627776 ≤ d * 1099511627776 := Int.mul_le_mul_of_nonneg_right (by omega) (by omega)
        rw [Int.mul_comm 1099511627776 d]; exact this
      split <;> omega
def segS (c : List Bt.Point) (n : Nat) : Int := slope (py c (n + 1) - py c n) (px c (n + 1) - px c n)
def stTo (s : Int) (c : List Bt.Point) : Nat → Int
  | 0 => s
  | n + 1 => max (stTo s c n) (segS c n)
def stAll (cs : List (List Bt.Point)) : Int := cs.foldl (fun s c => stTo s c (c.length - 1)) 0
theorem stTo_rng {s : Int} {c : List Bt.Point} (hc : RightC c) (h0 : 0 ≤ s) (h1 : s ≤ 1099511627777) : ∀ n, n + 1 ≤ c.length → 0 ≤ stTo s c n ∧ stTo s c n ≤ 1099511627777
  | 0, _ => ⟨h0, h1⟩
  | n + 1, hn => by
    have ih := stTo_rng hc h0 h1 n (by omega)
    have hp := (hc.pt (show n + 1 < c.length by omega)).2.2 (by omega)
    rw [Nat.add_sub_cancel] at hp
    have := slope_rng (a := py c (n + 1) - py c n) (d := px c (n + 1) - px c n) (by omega) (by omega)
    show 0 ≤ max (stTo s c n) (segS c n) ∧ max (stTo s c n) (segS c n) ≤ 1099511627777
    unfold segS
    omega
theorem stAll_rng : ∀ {cs : List (List Bt.Point)}, (∀ c ∈ cs, RightC c) → 0 ≤ stAll cs ∧ stAll cs ≤ 1099511627777 := fun {cs} h => by
  have key : ∀ (cs : List (List Bt.Point)) (s : Int), (∀ c ∈ cs, RightC c) → 0 ≤ s → s ≤ 1099511627777 → 0 ≤ cs.foldl (fun s c => stTo s c (c.length - 1)) s ∧ cs.foldl (fun s c => stTo s c (c.length - 1)) s ≤ 1099511627777 := by
    intro cs
    induction cs with
    | nil => intro s _ h0 h1; exact ⟨h0, h1⟩
    | cons c cs ih =>
      intro s hc h0 h1
      have hR := hc c (by simp)
      have hl := hR.1.1
      have := stTo_rng hR h0 h1 (c.length - 1) (by omega)
      exact ih _ (fun x hx => hc x (by simp [hx])) this.1 this.2
  exact key cs 0 h (by omega) (by omega)
theorem stAll_snoc (cs : List (List Bt.Point)) {k : Nat} (hk : k < cs.length) {s : Int} (h : s = stAll (cs.take k)) : stTo s (cs.getD k []) ((cs.getD k []).length - 1) = stAll (cs.take (k + 1)) := by
  unfold stAll at *
  rw [List.take_add_one, List.getElem?_eq_getElem hk, List.foldl_append, ← h]
  simp [hk]
theorem posX_eq {c : List Bt.Point} {x : Int} {i : Nat} (hi : i ≤ c.length) (h1 : ∀ j, j < i → px c j < x) (h2 : i < c.length → x ≤ px c i) : posX c x = i := posX_is hi h2 h1
theorem val_0 {c : List Bt.Point} {x : Int} (h : RightC c) (hx : x < px c 0) : valC c x = py c 0 ∧ remC c x = false := by
  have hl := h.1.1
  have h0 : posX c x = 0 := posX_eq (by omega) (fun j hj => absurd hj (by omega)) (fun _ => by omega)
  unfold valC remC
  rw [if_pos h0, if_pos h0]; exact ⟨rfl, rfl⟩
theorem val_knot {c : List Bt.Point} {i : Nat} (h : RightC c) (hi : i < c.length) : valC c (px c i) = py c i ∧ remC c (px c i) = false := by
  have hp : posX c (px c i) = i := posX_eq (by omega) (fun j hj => px_lt h hj hi) (fun _ => by omega)
  unfold valC remC
  rw [hp]
  by_cases h0 : i = 0
  · subst h0; exact ⟨if_pos rfl, if_pos rfl⟩
  · rw [if_neg h0, if_neg h0, if_pos hi, if_pos hi]
    have hd : 0 < px c i - px c (i - 1) := by have := px_lt h (show i - 1 < i by omega) hi; omega
    refine ⟨?_, ?_⟩
    · unfold atSeg
      rw [Int.mul_comm, Int.mul_ediv_cancel _ (by omega)]; omega
    · rw [Int.mul_comm, Int.mul_emod_left]; rfl
theorem val_top {c : List Bt.Point} {x : Int} (h : RightC c) (hx : px c (c.length - 1) ≤ x) : valC c x = py c (c.length - 1) ∧ remC c x = false := by
  have hl := h.1.1
  by_cases he : x = px c (c.length - 1)
  · rw [he]; exact val_knot h (by omega)
  · have hp : posX c x = c.length := posX_eq (Nat.le_refl _) (fun j hj => by have := px_le h (show j ≤ c.length - 1 by omega) (by omega); omega) (fun hh => by omega)
    unfold valC remC
    rw [hp, if_neg (by omega), if_neg (by omega), if_neg (by omega), if_neg (by omega)]; exact ⟨rfl, rfl⟩
theorem val_seg {c : List Bt.Point} {x : Int} {i : Nat} (h : RightC c) (hi : i + 1 < c.length) (h1 : px c i ≤ x) (h2 : x < px c (i + 1)) : valC c x = py c i + (x - px c i) * (py c (i + 1) - py c i) / (px c (i + 1) - px c i) ∧ remC c x = decide (0 < (x - px c i) * (py c (i + 1) - py c i) % (px c (i + 1) - px c i)) := by
  by_cases he : x = px c i
  · rw [he]
    have := val_knot h (show i < c.length by omega)
    rw [this.1, this.2, Int.sub_self, Int.zero_mul, Int.zero_ediv, Int.zero_emod]
    exact ⟨by omega, rfl⟩
  · have hp : posX c x = i + 1 := posX_eq (by omega) (fun j hj => by have := px_le h (show j ≤ i by omega) (by omega); omega) (fun _ => by omega)
    unfold valC remC
    rw [hp, if_neg (show ¬ (i + 1 = 0) by omega), if_neg (show ¬ (i + 1 = 0) by omega), if_pos hi, if_pos hi]
    unfold atSeg
    rw [Nat.add_sub_cancel]
    exact ⟨rfl, rfl⟩
def posG (c : List Bt.Point) (x : Int) : Nat := c.findIdx fun p => decide (x < p.X)
theorem posG_le (c : List Bt.Point) (x : Int) : posG c x ≤ c.length := List.findIdx_le_length
theorem posG_iff {c : List Bt.Point} (h : RightC c) {x : Int} {i : Nat} (hi : i < c.length) : posG c x ≤ i ↔ x < px c i := by
  constructor
  · intro hp
    have hlt : posG c x < c.length := by omega
    have := List.findIdx_getElem (p := fun p : Bt.Point => decide (x < p.X)) (xs := c) (w := hlt)
    rw [decide_eq_true_eq] at this
    have hle := px_le h hp hi
    have hlt2 : (c.findIdx fun p => decide (x < p.X)) < c.length := hlt
    have he : px c (posG c x) = (c[c.findIdx fun p => decide (x < p.X)]'hlt).X := by
      show (c.getD (c.findIdx fun p => decide (x < p.X)) default).X = _
      rw [gDD, List.getElem?_eq_getElem hlt2]; rfl
    omega
  · intro hx
    rcases Nat.lt_or_ge i (posG c x) with h1 | h1
    · have := List.not_of_lt_findIdx (p := fun p : Bt.Point => decide (x < p.X)) (xs := c) h1
      have he : px c i = (c[i]'hi).X := by unfold px; rw [gDD, List.getElem?_eq_getElem hi]; rfl
      simp at this
      omega
    · exact h1
def underC (a b : List Bt.Point) : Prop := (RightC a ∧ RightC b) ∧ (∀ j, j < a.length → py a j ≤ valC b (px a j)) ∧ ∀ j, j < b.length → ¬ (py b j < valC a (px b j) ∨ valC a (px b j) = py b j ∧ remC a (px b j) = true)
instance (a b : List Bt.Point) : Decidable (underC a b) := inferInstanceAs (Decidable (_ ∧ (∀ j, j < a.length → _) ∧ ∀ j, j < b.length → _))
/-! names -/
abbrev Mk := ByteArray × ByteArray
theorem map_take_snoc {α β : Type} [Inhabited α] (f : α → β) {L : List α} {k : Nat} (h : k < L.length) : (L.map f).take (k + 1) = (L.map f).take k ++ [f (L.getD k default)] := by
  rw [List.take_add_one, List.getElem?_map, List.getElem?_eq_getElem h]
  simp [h]
theorem fold_snoc {α σ τ : Type} [Inhabited α] (step : σ → τ → σ) (s0 : σ) (pre : List τ) (f : α → τ) {L : List α} {k : Nat} (h : k < L.length) {S : σ} (hS : S = (pre ++ (L.map f).take k).foldl step s0) : step S (f (L.getD k default)) = (pre ++ (L.map f).take (k + 1)).foldl step s0 := by
  rw [map_take_snoc f h, ← List.append_assoc, List.foldl_append (l := pre ++ (L.map f).take k), ← hS]; rfl
theorem fold_end {α σ τ : Type} (step : σ → τ → σ) (s0 : σ) (pre : List τ) (f : α → τ) {L : List α} {k : Nat} (h : L.length ≤ k) {S : σ} (hS : S = (pre ++ (L.map f).take k).foldl step s0) : S = (pre ++ L.map f).foldl step s0 := by
  rw [List.take_of_length_le (by simpa using h)] at hS; exact hS
/-! sums -/
def sumTo (xs : List Int) : Nat → Int
  | 0 => 0
  | n + 1 => sumTo xs n + xs.getD n 0
def startTo (ps : List Bt.Place) : Nat → Int
  | 0 => 0
  | n + 1 => startTo ps n + sumTo (ps.getD n default).Start (ps.getD n default).Start.length
end Ba
namespace Bc
open Bt
open Go.K (bs)
abbrev S := List UInt8
structure Prp where
  name : ByteArray
  values : List ByteArray
  many : Bool
  missing : Bool
instance : Inhabited Prp := ⟨⟨⟨#[]⟩, [], false, false⟩⟩
def p1 (n : S) (vs : List S) : Prp := ⟨bs n, vs.map bs, false, false⟩
def pn (n v : S) : Prp := ⟨bs n, [bs v], true, false⟩
def may (p : Prp) : Prp := { p with missing := true }
def place : List Prp := [p1 [111, 102, 102, 105, 99, 101] [[67]], p1 [99, 97, 112] [[86]], pn [108, 101, 118, 101, 108] [86, 76], pn [115, 116, 97, 114, 116] [86], may (p1 [114, 111, 117, 116, 101] [[67], [67]]), p1 [100, 111, 119, 110] [[81]], p1 [100, 101, 108, 97, 121] [[72]], p1 [102, 108, 111, 111, 114] [[86]], may (pn [114, 97, 105, 110] [67, 65])]
def weir : List Prp := [p1 [102, 114, 111, 109] [[80]], p1 [116, 111] [[81]], p1 [99, 114, 101, 115, 116] [[86]], p1 [112, 97, 114, 116] [[67], [67]], p1 [100, 101, 108, 97, 121] [[72]]]
def tbasin : List Prp := [p1 [101, 114, 114] [[86]], p1 [99, 101, 108, 108, 115] [[67]], pn [111, 119, 110, 101, 114, 115] [79], p1 [114, 111, 111, 109] [[86], [86], [86]]]
def tgate : List Prp := [p1 [102, 114, 111, 109] [[80]], p1 [116, 111] [[81]], pn [114, 97, 116, 101] [86, 70], pn [108, 111, 119] [86, 70], pn [104, 105, 103, 104] [86, 70], p1 [112, 111, 115, 105, 116, 105, 111, 110, 115] [[67]], p1 [115, 112, 101, 101, 100] [[67]], p1 [108, 101, 97, 107] [[70]], may (p1 [98, 97, 99, 107] [[67], [67]]), p1 [100, 101, 108, 97, 121] [[72]]]
def tpump : List Prp := [p1 [102, 114, 111, 109] [[80]], p1 [116, 111] [[81]], p1 [112, 111, 119, 101, 114] [[70]], p1 [112, 111, 115, 105, 116, 105, 111, 110, 115] [[67]], p1 [115, 112, 101, 101, 100] [[67]], p1 [100, 101, 108, 97, 121] [[72]]]
def tsiphon : List Prp := [p1 [102, 114, 111, 109] [[80]], p1 [116, 111] [[81]], p1 [112, 97, 114, 116] [[67], [67]], p1 [112, 114, 105, 109, 101] [[86]], p1 [98, 114, 101, 97, 107] [[86]], p1 [100, 101, 108, 97, 121] [[72]]]
def tseep : List Prp := [p1 [102, 114, 111, 109] [[80]], p1 [116, 111] [[80]], p1 [112, 97, 114, 116] [[67], [67]], may (p1 [98, 97, 99, 107] [[67], [67]]), p1 [100, 101, 108, 97, 121] [[72]]]
def ttown : List Prp := [p1 [112, 108, 97, 99, 101] [[80]], p1 [102, 108, 111, 111, 100] [[86]], p1 [108, 101, 97, 100] [[72]], p1 [112, 101, 111, 112, 108, 101] [[67]], p1 [119, 97, 116, 99, 104] [[86]], p1 [113, 117, 111, 114, 117, 109] [[67]]]
def tgauge : List Prp := [may (p1 [118, 111, 108, 117, 109, 101] [[80]]), may (p1 [102, 97, 108, 108] [[67]]), may (p1 [112, 111, 115, 105, 116, 105, 111, 110] [[75]]), p1 [101, 114, 114] [[76]], p1 [100, 114, 105, 102, 116] [[67]]]
def troad : List Prp := [p1 [102, 114, 111, 109] [[84]], p1 [116, 111] [[87]], p1 [116, 105, 109, 101] [[72]], p1 [102, 108, 111, 119] [[67]], may (p1 [98, 121] [[80]]), may (p1 [108, 105, 109, 105, 116] [[86]])]
def tshelter : List Prp := [p1 [114, 111, 111, 109] [[67]]]
def table : List (S × List Prp) := [([115, 104, 101, 108, 116, 101, 114], tshelter), ([114, 111, 97, 100], troad), ([103, 97, 117, 103, 101], tgauge), ([116, 111, 119, 110], ttown), ([115, 101, 101, 112], tseep), ([115, 105, 112, 104, 111, 110], tsiphon), ([112, 117, 109, 112], tpump), ([98, 114, 101, 97, 99, 104], weir), ([119, 101, 105, 114], weir), ([103, 97, 116, 101], tgate), ([97, 113, 117, 105, 102, 101, 114], place), ([99, 97, 110, 97, 108], place), ([108, 97, 107, 101], place), ([114, 101, 97, 99, 104], place), ([98, 97, 115, 105, 110], tbasin)]
def props (k : S) : Option (List Prp) := (table.find? fun x => decide (x.1 = k)).map (·.2)
def sortOf (k : S) : S := if k = [114, 101, 97, 99, 104] ∨ k = [108, 97, 107, 101] ∨ k = [99, 97, 110, 97, 108] ∨ k = [97, 113, 117, 105, 102, 101, 114] then [112, 108, 97, 99, 101] else if k = [103, 97, 116, 101] ∨ k = [119, 101, 105, 114] ∨ k = [112, 117, 109, 112] ∨ k = [115, 105, 112, 104, 111, 110] ∨ k = [115, 101, 101, 112] ∨ k = [98, 114, 101, 97, 99, 104] then [108, 105, 110, 107] else k
def limitOf (s : S) : Int := if s = [112, 108, 97, 99, 101] then 64 else if s = [108, 105, 110, 107] then 96 else if s = [116, 111, 119, 110] ∨ s = [115, 104, 101, 108, 116, 101, 114] then 40 else if s = [103, 97, 117, 103, 101] then 128 else if s = [114, 111, 97, 100] then 128 else 1
def dimI (c : Int) : Int × Bool := if c = 86 then (1, true) else if c = 70 then (2, true) else if c = 76 then (3, true) else if c = 72 then (4, true) else if c = 65 then (5, true) else if c = 67 then (0, true) else (0, false)
def dimOf (c : UInt8) : Int × Bool := dimI ((c.toNat : Nat) : Int)
def placeKind (k : S) : Int := if k = [114, 101, 97, 99, 104] then 0 else if k = [108, 97, 107, 101] then 1 else if k = [99, 97, 110, 97, 108] then 2 else 3
def linkKind (k : S) : Int := if k = [103, 97, 116, 101] then 0 else if k = [119, 101, 105, 114] then 1 else if k = [112, 117, 109, 112] then 2 else if k = [115, 105, 112, 104, 111, 110] then 3 else if k = [115, 101, 101, 112] then 4 else 5
/-! ### declarations -/
def wordsOf (d : Node) : List Node := d.Kids.filter fun k => !decide (k.Kind = 2)
def propsOf (d : Node) : List Node := d.Kids.filter fun k => decide (k.Kind = 2)
def word (d : Node) : Node := (wordsOf d).getD 0 default
def valsL (n : S) : List Node → Option (List Node)
  | [] => none
  | k :: r => if k.Kind = 2 ∧ k.Text = n then some k.Kids else valsL n r
def vals (d : Node) (n : S) : Option (List Node) := valsL n d.Kids
def valsD (d : Node) (n : S) : List Node := (vals d n).getD []
def oneWord (d : Node) : Bool := decide ((wordsOf d).length = 1) && decide ((word d).Kind = if d.Text = [98, 97, 115, 105, 110] then 4 else 3)
def wanted (d : Node) (n : S) : List Prp → Option Prp
  | [] => none
  | p :: r => if p.name.data.toList = n then (if d.Text = [103, 97, 117, 103, 101] ∧ n = [101, 114, 114] ∧ (vals d [112, 111, 115, 105, 116, 105, 111, 110]).isSome = true then some (p1 [101, 114, 114] [[67]]) else some p) else wanted d n r
def val (p : Prp) (i : Nat) : S := (if p.many = true then p.values.getD 0 ⟨#[]⟩ else p.values.getD i ⟨#[]⟩).data.toList
def fitsOne (n : Node) (l : S) : Bool := if l.length = 2 then decide (n.Kind = 6 ∧ n.Kids.length = 2 ∧ (n.Kids.getD 0 default).Kind = 5 ∧ (n.Kids.getD 1 default).Kind = 5) else if (dimOf (l.getD 0 0)).2 = true then decide (n.Kind = 5) else decide (n.Kind = 3)
def fits (l : List Node) (w : Prp) : Bool := !(if w.many = true then decide (l.length = 0) else !decide (l.length = w.values.length)) && (List.range l.length).all fun i => fitsOne (l.getD i default) (val w i)
def amts (n : Node) : List Node := if n.Kind = 6 then n.Kids else [n]
def wuIn (l : S) : Nat → List Node → Option Int
  | _, [] => none
  | j, a :: r => if (dimOf (l.getD j 0)).2 = true ∧ a.Dim ≠ (dimOf (l.getD j 0)).1 then some a.At else wuIn l (j + 1) r
def wu (w : Prp) : Nat → List Node → Option Int
  | _, [] => none
  | i, n :: r => match wuIn (val w i) 0 (amts n) with
    | some a => some a
    | none => wu w (i + 1) r
/-! ### the examination -/
abbrev Er := Int × Int
def exP (d : Node) (ps : List Prp) : (S → Option Bool) → List Node → Except Er (S → Option Bool)
  | sn, [] => .ok sn
  | sn, p :: r => match wanted d p.Text ps with
    | none => .error (2, p.At)
    | some w => if (sn p.Text).getD false = true ∨ fits p.Kids w = false then .error (2, p.At) else match wu w 0 p.Kids with
      | some a => .error (6, a)
      | none => exP d ps (fun j => if j = p.Text then some true else sn j) r
def hasS (sn : S → Option Bool) (n : S) : Bool := (sn n).getD false
def cnt3 (sn : S → Option Bool) : Nat := (if hasS sn [118, 111, 108, 117, 109, 101] = true then 1 else 0) + (if hasS sn [102, 97, 108, 108] = true then 1 else 0) + (if hasS sn [112, 111, 115, 105, 116, 105, 111, 110] = true then 1 else 0)
def exEnd (d : Node) (ps : List Prp) (sn : S → Option Bool) : Er :=
  if (ps.all fun w => w.missing || hasS sn w.name.data.toList) = false then (2, d.At)
  else if d.Text = [103, 97, 117, 103, 101] ∧ cnt3 sn ≠ 1 then (2, d.At)
  else if d.Text = [114, 111, 97, 100] ∧ hasS sn [98, 121] ≠ hasS sn [108, 105, 109, 105, 116] then (2, d.At) else (0, 0)
def exProps (d : Node) (ps : List Prp) : Er := match exP d ps (fun _ => none) (propsOf d) with
  | .error e => e
  | .ok sn => exEnd d ps sn
def upC (c : S → Option Int) (s : S) : S → Option Int := fun j => if j = s then some ((c s).getD 0 + 1) else c j
def exL : (S → Option Int) → List Node → Er
  | _, [] => (0, 0)
  | c, d :: r => match props d.Text with
    | none => (2, d.At)
    | some ps => if oneWord d = false then (2, d.At) else
      if limitOf (sortOf d.Text) < (c (sortOf d.Text)).getD 0 + 1 then (if sortOf d.Text = [98, 97, 115, 105, 110] then (2, d.At) else (8, d.At)) else
      if (exProps d ps).1 ≠ 0 then exProps d ps else exL (upC c (sortOf d.Text)) r
def examine (f : Node) : Er := exL (fun _ => none) f.Kids
/-! ### the names -/
structure Nm where
  pl : S → Option Int
  lk : S → Option Int
  tn : S → Option Int
  en : S → Option Int
def put (m : S → Option Int) (n : S) (i : Int) : S → Option Int := if (m n).isSome = true then m else fun j => if j = n then some i else m j
def col1 (n : Nm) (c : S → Option Int) (d : Node) : Nm :=
  let so := sortOf d.Text; let i := (c so).getD 0; let nm := (word d).Text
  if so = [112, 108, 97, 99, 101] then { n with pl := put n.pl nm i } else if so = [108, 105, 110, 107] then { n with lk := put n.lk nm i } else if so = [116, 111, 119, 110] then { n with tn := put n.tn nm i, en := put n.en nm i } else n
def col : Nm → (S → Option Int) → List Node → Nm × (S → Option Int)
  | n, c, [] => (n, c)
  | n, c, d :: r => col (col1 n c d) (upC c (sortOf d.Text)) r
def colS (t : Int) : (S → Option Int) → Int → List Node → (S → Option Int)
  | m, _, [] => m
  | m, k, d :: r => if d.Text = [115, 104, 101, 108, 116, 101, 114] then colS t (put m (word d).Text (t + k)) (k + 1) r else colS t m k r
def collect (f : Node) : Nm :=
  let r := col ⟨fun _ => none, fun _ => none, fun _ => none, fun _ => none⟩ (fun _ => none) f.Kids
  { r.1 with en := colS ((r.2 [116, 111, 119, 110]).getD 0) r.1.en 0 f.Kids }
def Nm.place (n : Nm) (s : S) : Int := if s = [111, 117, 116] then -1 else (n.pl s).getD 0
def Nm.knownI (n : Nm) (c : Int) (s : S) : Bool := if c = 80 ∨ c = 81 then (n.pl s).isSome else if c = 75 then (n.lk s).isSome else if c = 84 then (n.tn s).isSome else if c = 87 then (n.en s).isSome else true
def Nm.known (n : Nm) (c : UInt8) (s : S) : Bool := n.knownI ((c.toNat : Nat) : Int) s
section
variable (isN : ByteArray → Bool) (fr : (Ba.Mk → Option Bool) → ByteArray → ByteArray → Bool) (pt : (Ba.Mk → Option Bool) → ByteArray → ByteArray → Ba.Mk → Option Bool)
def rightN (n : Nm) (sn : Ba.Mk → Option Bool) (c : UInt8) (s : S) : Bool × (Ba.Mk → Option Bool) :=
  if ((c.toNat : Nat) : Int) = 79 then (fr sn (bs [111, 119, 110, 101, 114]) (bs s), pt sn (bs [111, 119, 110, 101, 114]) (bs s)) else if ((c.toNat : Nat) : Int) = 81 ∧ s = [111, 117, 116] then (true, sn) else (isN (bs s) && n.known c s, sn)
def wnV (n : Nm) (w : Prp) : (Ba.Mk → Option Bool) → Nat → List Node → Except Int (Ba.Mk → Option Bool)
  | sn, _, [] => .ok sn
  | sn, i, v :: r => if v.Kind = 3 then (if (rightN isN fr pt n sn ((val w i).getD 0 0) v.Text).1 = false then .error v.At else wnV n w (rightN isN fr pt n sn ((val w i).getD 0 0) v.Text).2 (i + 1) r) else wnV n w sn (i + 1) r
def wnP (n : Nm) (d : Node) (ps : List Prp) : (Ba.Mk → Option Bool) → List Node → Except Int (Ba.Mk → Option Bool)
  | sn, [] => .ok sn
  | sn, p :: r => match wnV isN fr pt n ((wanted d p.Text ps).getD default) sn 0 p.Kids with
    | .error a => .error a
    | .ok sn' => wnP n d ps sn' r
def wnL (n : Nm) : (Ba.Mk → Option Bool) → List Node → Option Int
  | _, [] => none
  | sn, d :: r => if d.Text ≠ [98, 97, 115, 105, 110] ∧ fr sn (bs (sortOf d.Text)) (bs (word d).Text) = false then some (word d).At else
    match wnP isN fr pt n d ((props d.Text).getD []) (if d.Text = [98, 97, 115, 105, 110] then sn else pt sn (bs (sortOf d.Text)) (bs (word d).Text)) (propsOf d) with
    | .error a => some a
    | .ok sn' => wnL n sn' r
end
/-! ### the basin -/
def num (d : Node) (n : S) (i : Nat) : Int := ((valsD d n).getD i default).N
def text (d : Node) (n : S) : S := ((valsD d n).getD 0 default).Text
def nums (d : Node) (n : S) : List Int := (valsD d n).map (·.N)
def pair (n : Node) : Int × Int := ((n.Kids.getD 0 default).N, (n.Kids.getD 1 default).N)
def points (d : Node) (n : S) : List Point := (valsD d n).map fun k => ⟨(pair k).1, (pair k).2⟩
def mkPlace (d : Node) (n : Nm) : Place := ⟨bs (word d).Text, placeKind d.Text, num d [111, 102, 102, 105, 99, 101] 0, num d [99, 97, 112] 0, points d [108, 101, 118, 101, 108], nums d [115, 116, 97, 114, 116], num d [114, 111, 117, 116, 101] 0, num d [114, 111, 117, 116, 101] 1, n.place (text d [100, 111, 119, 110]), num d [100, 101, 108, 97, 121] 0, num d [102, 108, 111, 111, 114] 0, (valsD d [114, 97, 105, 110]).map fun k => ⟨(pair k).1, (pair k).2⟩⟩
def mkLink (d : Node) (n : Nm) : Link := ⟨bs (word d).Text, linkKind d.Text, (n.pl (text d [102, 114, 111, 109])).getD 0, n.place (text d [116, 111]), points d [114, 97, 116, 101], ⟨points d [108, 111, 119], points d [104, 105, 103, 104]⟩, num d [112, 111, 115, 105, 116, 105, 111, 110, 115] 0, num d [115, 112, 101, 101, 100] 0, num d [108, 101, 97, 107] 0, num d [99, 114, 101, 115, 116] 0,
  if linkKind d.Text = 2 then num d [112, 111, 119, 101, 114] 0 else num d [112, 97, 114, 116] 0, num d [112, 97, 114, 116] 1, num d [112, 114, 105, 109, 101] 0, num d [98, 114, 101, 97, 107] 0, num d [98, 97, 99, 107] 0, num d [98, 97, 99, 107] 1, num d [100, 101, 108, 97, 121] 0⟩
def mkTown (d : Node) (n : Nm) : Town := ⟨bs (word d).Text, (n.pl (text d [112, 108, 97, 99, 101])).getD 0, num d [102, 108, 111, 111, 100] 0, num d [108, 101, 97, 100] 0, num d [112, 101, 111, 112, 108, 101] 0, num d [119, 97, 116, 99, 104] 0, num d [113, 117, 111, 114, 117, 109] 0⟩
def mkGauge (d : Node) (n : Nm) : Gauge :=
  if (vals d [118, 111, 108, 117, 109, 101]).isSome = true then ⟨bs (word d).Text, 0, (n.pl (text d [118, 111, 108, 117, 109, 101])).getD 0, num d [101, 114, 114] 0, num d [100, 114, 105, 102, 116] 0⟩
  else if (vals d [102, 97, 108, 108]).isSome = true then ⟨bs (word d).Text, 1, num d [102, 97, 108, 108] 0, num d [101, 114, 114] 0, num d [100, 114, 105, 102, 116] 0⟩
  else ⟨bs (word d).Text, 2, (n.lk (text d [112, 111, 115, 105, 116, 105, 111, 110])).getD 0, num d [101, 114, 114] 0, num d [100, 114, 105, 102, 116] 0⟩
def mkRoad (d : Node) (n : Nm) : Road :=
  if (vals d [98, 121]).isSome = true then ⟨bs (word d).Text, (n.tn (text d [102, 114, 111, 109])).getD 0, (n.en (text d [116, 111])).getD 0, num d [116, 105, 109, 101] 0, num d [102, 108, 111, 119] 0, (n.pl (text d [98, 121])).getD 0, num d [108, 105, 109, 105, 116] 0⟩
  else ⟨bs (word d).Text, (n.tn (text d [102, 114, 111, 109])).getD 0, (n.en (text d [116, 111])).getD 0, num d [116, 105, 109, 101] 0, num d [102, 108, 111, 119] 0, -1, 0⟩
def zeroB : Basin := ⟨⟨#[]⟩, [], 0, [], [], [], [], [], [], [], 0⟩
def build1 (n : Nm) (b : Basin) (d : Node) : Basin :=
  let so := sortOf d.Text
  if so = [98, 97, 115, 105, 110] then { b with Name := bs (word d).Text, Err := num d [101, 114, 114] 0, Cells := num d [99, 101, 108, 108, 115] 0, Room := nums d [114, 111, 111, 109], Owners := b.Owners ++ (valsD d [111, 119, 110, 101, 114, 115]).map fun o => bs o.Text }
  else if so = [112, 108, 97, 99, 101] then { b with Places := b.Places ++ [mkPlace d n] }
  else if so = [108, 105, 110, 107] then { b with Links := b.Links ++ [mkLink d n] }
  else if so = [116, 111, 119, 110] then { b with Towns := b.Towns ++ [mkTown d n] }
  else if so = [103, 97, 117, 103, 101] then { b with Gauges := b.Gauges ++ [mkGauge d n] }
  else if so = [114, 111, 97, 100] then { b with Roads := b.Roads ++ [mkRoad d n] }
  else if so = [115, 104, 101, 108, 116, 101, 114] then { b with Shelters := b.Shelters ++ [⟨bs (word d).Text, num d [114, 111, 111, 109] 0⟩] }
  else b
def build (f : Node) (n : Nm) : Basin := f.Kids.foldl (build1 n) zeroB
def headL : Option Int → List Node → Option Int
  | h, [] => h
  | h, d :: r => headL (if d.Text = [98, 97, 115, 105, 110] then some d.At else h) r
section
variable (isN : ByteArray → Bool) (fr : (Ba.Mk → Option Bool) → ByteArray → ByteArray → Bool) (pt : (Ba.Mk → Option Bool) → ByteArray → ByteArray → Ba.Mk → Option Bool) (rt : Basin → Bool)
def comp (len : Nat) (f : Node) : Basin × Int × Int :=
  if (examine f).1 ≠ 0 then (zeroB, examine f) else match headL none f.Kids with
    | none => (zeroB, 2, len)
    | some h => match wnL isN fr pt (collect f) (fun _ => none) f.Kids with
      | some a => (zeroB, 4, a)
      | none => if rt (build f (collect f)) = false then (zeroB, 7, h) else (build f (collect f), 0, 0)
def compile (s : S) : Basin × Int × Int := if (Pa.parse s).2.1 ≠ 0 then (zeroB, (Pa.parse s).2) else comp isN fr pt rt s.length (Pa.parse s).1
end
end Bc
