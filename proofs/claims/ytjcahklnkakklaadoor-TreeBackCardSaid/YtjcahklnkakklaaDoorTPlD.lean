/- Laws of the plain parser: it does not look at offsets; right trees are read from their tokens; what is read is right. Conditions: those of each theorem. -/
import Derived.Test.YtjcahklnkakklaaDoorTWrP
namespace Pa
open Bt
abbrev Tk := Int × List UInt8
def er (t : Token) : Tk := (t.Kind, t.Text)
/-- a node without its offsets -/
def eN : Node → Node
  | ⟨k, t, n, d, _, ks⟩ => ⟨k, t, n, d, 0, eL ks⟩
where eL : List Node → List Node
  | [] => []
  | x :: xs => eN x :: eL xs
theorem eL_map : ∀ l : List Node, eN.eL l = l.map eN
  | [] => rfl
  | x :: xs => by rw [eN.eL, eL_map xs]; rfl
theorem eN_mk (k : Int) (t : List UInt8) (n d a : Int) (ks : List Node) : eN ⟨k, t, n, d, a, ks⟩ = ⟨k, t, n, d, 0, ks.map eN⟩ := by rw [eN, eL_map]
theorem er_pk {ts us : List Token} (h : ts.map er = us.map er) : (pk ts).Kind = (pk us).Kind ∧ (pk ts).Text = (pk us).Text ∧ ts.tail.map er = us.tail.map er ∧ ts.length = us.length := by
  have hl : ts.length = us.length := by simpa using congrArg List.length h
  match ts, us, h with
  | [], [], _ => exact ⟨rfl, rfl, rfl, hl⟩
  | t :: ts, u :: us, h =>
    simp only [List.map_cons, List.cons.injEq, er, Prod.mk.injEq] at h
    exact ⟨h.1.1, h.1.2, h.2, hl⟩
  | [], u :: us, h => simp at h
  | t :: ts, [], h => simp at h
theorem er_isS {ts us : List Token} (h : ts.map er = us.map er) (c : List UInt8) : isS c ts = isS c us := by
  unfold isS; rw [(er_pk h).1, (er_pk h).2.1]
/-- results that are the same but for offsets -/
def Eq1 (x : R Node) (y : R Node) : Prop := ∀ a r, x = .ok (a, r) → ∃ b s, y = .ok (b, s) ∧ eN a = eN b ∧ r.map er = s.map er
def EqL (x : R (List Node)) (y : R (List Node)) : Prop := ∀ a r, x = .ok (a, r) → ∃ b s, y = .ok (b, s) ∧ a.map eN = b.map eN ∧ r.map er = s.map er
theorem word_inv {ts us : List Token} (h : ts.map er = us.map er) : Eq1 (wordP ts) (wordP us) := by
  intro a r ha
  obtain ⟨h1, h2, h3, _⟩ := er_pk h
  unfold wordP at ha ⊢
  rw [h1] at ha
  split at ha
  · rename_i hk
    cases ha; rw [if_pos hk]
    exact ⟨_, _, rfl, by simp only [wrd, eN_mk, h2], h3⟩
  · rename_i hk
    rw [if_neg hk]
    split at ha
    · rename_i hk
      cases ha; rw [if_pos hk]
      exact ⟨_, _, rfl, by simp only [wrd, eN_mk, h2], h3⟩
    · cases ha
theorem unit_inv {ts us : List Token} (h : ts.map er = us.map er) : unitOf ts = unitOf us ∧ (unitRest ts).map er = (unitRest us).map er := by
  obtain ⟨h1, h2, h3, _⟩ := er_pk h
  unfold unitOf unitRest
  rw [h1, h2]
  refine ⟨rfl, ?_⟩
  split
  · exact h3
  · exact h
theorem amt_inv {ts us : List Token} (h : ts.map er = us.map er) : Eq1 (amtP ts) (amtP us) := by
  intro a r ha
  obtain ⟨h1, h2, h3, _⟩ := er_pk h
  obtain ⟨h4, h5⟩ := unit_inv h3
  unfold amtP at ha ⊢
  simp only [h2, h4] at ha ⊢
  split at ha
  · rename_i hk
    cases ha; rw [if_pos hk]
    exact ⟨_, _, rfl, by simp only [eN_mk], h5⟩
  · cases ha
theorem vg_inv : ∀ f : Nat, (∀ (g : Nat) (ts us : List Token), ts.map er = us.map er → Eq1 (valP f g ts) (valP f g us)) ∧ (∀ (g : Nat) (ts us : List Token), ts.map er = us.map er → EqL (grpP f g ts) (grpP f g us))
  | 0 => ⟨fun g ts us _ a r h => (by rw [valP] at h; cases h), fun g ts us _ a r h => (by rw [grpP] at h; cases h)⟩
  | f + 1 => by
    obtain ⟨ih1, ih2⟩ := vg_inv f
    refine ⟨fun g ts us h a r ha => ?_, fun g ts us h a r ha => ?_⟩
    · rw [valP] at ha ⊢
      rw [(er_pk h).1, er_isS h] at ha
      split at ha
      · rename_i hk; rw [if_pos hk]; exact amt_inv h a r ha
      · rename_i hk; rw [if_neg hk]
        split at ha
        · rename_i hs; rw [if_pos hs]
          split at ha
          · cases ha
          · rename_i hg; rw [if_neg hg]
            split at ha
            · cases ha
            · rename_i xs r' he
              cases ha
              obtain ⟨ys, s', h5, h6, h7⟩ := ih2 (g + 1) _ _ (er_pk h).2.2.1 _ _ he
              rw [h5]
              exact ⟨_, _, rfl, by simp only [grp, eN_mk, h6], h7⟩
        · rename_i hs; rw [if_neg hs]; exact word_inv h a r ha
    · rw [grpP] at ha ⊢
      split at ha
      · cases ha
      · rename_i x r1 he
        obtain ⟨y, s1, h5, h6, h7⟩ := ih1 g _ _ h _ _ he
        rw [h5]
        simp only []
        rw [er_isS h7, er_isS h7] at ha
        split at ha
        · rename_i hs; cases ha; rw [if_pos hs]
          exact ⟨_, _, rfl, by simp [h6], (er_pk h7).2.2.1⟩
        · rename_i hs; rw [if_neg hs]
          split at ha
          · rename_i hs; rw [if_pos hs]
            split at ha
            · cases ha
            · rename_i xs r2 he2
              cases ha
              obtain ⟨ys, s2, h8, h9, h10⟩ := ih2 g _ _ (er_pk h7).2.2.1 _ _ he2
              rw [h8]
              exact ⟨_, _, rfl, by simp [h6, h9], h10⟩
          · cases ha
theorem val0_inv {ts us : List Token} (h : ts.map er = us.map er) : Eq1 (val0 ts) (val0 us) := by
  unfold val0; rw [(er_pk h).2.2.2]; exact (vg_inv _).1 _ _ _ h
theorem many_inv {c : List UInt8} {p : List Token → R Node} (hp : ∀ {ts us : List Token}, ts.map er = us.map er → Eq1 (p ts) (p us)) : ∀ (f : Nat) {ts us : List Token}, ts.map er = us.map er → EqL (many c p f ts) (many c p f us)
  | 0, ts, us, _, a, r, ha => by rw [many] at ha; cases ha
  | f + 1, ts, us, h, a, r, ha => by
    rw [many] at ha ⊢
    rw [er_isS h] at ha
    split at ha
    · rename_i hs; cases ha; rw [if_pos hs]
      exact ⟨_, _, rfl, rfl, (er_pk h).2.2.1⟩
    · rename_i hs; rw [if_neg hs]
      split at ha
      · cases ha
      · rename_i x r1 he
        obtain ⟨y, s1, h5, h6, h7⟩ := hp h _ _ he
        rw [h5]
        simp only []
        split at ha
        · cases ha
        · rename_i xs r2 he2
          cases ha
          obtain ⟨ys, s2, h8, h9, h10⟩ := many_inv hp f h7 _ _ he2
          rw [h8]
          exact ⟨_, _, rfl, by simp [h6, h9], h10⟩
theorem name_inv {ts us r : List Token} {t : Token} (h : ts.map er = us.map er) (ht : nameP ts = .ok (t, r)) : ∃ u s, nameP us = .ok (u, s) ∧ t.Text = u.Text ∧ r.map er = s.map er := by
  obtain ⟨h1, h2, h3, _⟩ := er_pk h
  unfold nameP at ht ⊢
  rw [h1] at ht
  split at ht
  · rename_i hk; cases ht; rw [if_pos hk]; exact ⟨_, _, rfl, h2, h3⟩
  · cases ht
theorem prop_inv {ts us : List Token} (h : ts.map er = us.map er) : Eq1 (propP ts) (propP us) := by
  intro a r ha
  unfold propP at ha ⊢
  split at ha
  · cases ha
  · rename_i t r1 he
    obtain ⟨u, s1, h1, h2, h3⟩ := name_inv h he
    rw [h1]
    simp only []
    split at ha
    · cases ha
    · rename_i xs r2 he2
      cases ha
      rw [(er_pk h3).2.2.2] at he2
      obtain ⟨ys, s2, h5, h6, h7⟩ := many_inv val0_inv _ h3 _ _ he2
      rw [h5]
      exact ⟨_, _, rfl, by simp only [eN_mk, h2, h6], h7⟩
theorem decl_inv {ts us : List Token} (h : ts.map er = us.map er) : Eq1 (declP ts) (declP us) := by
  intro a r ha
  unfold declP at ha ⊢
  split at ha
  · cases ha
  · rename_i t r1 he
    obtain ⟨u, s1, h1, h2, h3⟩ := name_inv h he
    rw [h1]
    simp only []
    split at ha
    · cases ha
    · rename_i xs r2 he2
      rw [(er_pk h3).2.2.2] at he2
      obtain ⟨ys, s2, h5, h6, h7⟩ := many_inv word_inv _ h3 _ _ he2
      rw [h5]
      simp only []
      split at ha
      · cases ha
      · rename_i zs r3 he3
        cases ha
        rw [(er_pk h7).2.2.2] at he3
        obtain ⟨ws, s3, h8, h9, h10⟩ := many_inv prop_inv _ h7 _ _ he3
        rw [h8]
        exact ⟨_, _, rfl, by simp only [eN_mk, h2, List.map_append, h6, h9], h10⟩
theorem file_inv : ∀ (f : Nat) {ts us : List Token}, ts.map er = us.map er → EqL (fileP f ts) (fileP f us)
  | 0, ts, us, _, a, r, ha => by rw [fileP] at ha; cases ha
  | f + 1, ts, us, h, a, r, ha => by
    rw [fileP] at ha ⊢
    rw [(er_pk h).1] at ha
    split at ha
    · rename_i hs; cases ha; rw [if_pos hs]
      exact ⟨_, _, rfl, rfl, h⟩
    · rename_i hs; rw [if_neg hs]
      split at ha
      · cases ha
      · rename_i x r1 he
        obtain ⟨y, s1, h5, h6, h7⟩ := decl_inv h _ _ he
        rw [h5]
        simp only []
        split at ha
        · cases ha
        · rename_i xs r2 he2
          cases ha
          obtain ⟨ys, s2, h8, h9, h10⟩ := file_inv f h7 _ _ he2
          rw [h8]
          exact ⟨_, _, rfl, by simp [h6, h9], h10⟩
theorem fileN_inv {ts us : List Token} (h : ts.map er = us.map er) : Eq1 (fileN ts) (fileN us) := by
  intro a r ha
  unfold fileN at ha ⊢
  split at ha
  · cases ha
  · rename_i xs r1 he
    cases ha
    rw [(er_pk h).2.2.2] at he
    obtain ⟨ys, s1, h5, h6, h7⟩ := file_inv _ h _ _ he
    rw [h5]
    exact ⟨_, _, rfl, by simp only [eN_mk, h6], h7⟩
end Pa
namespace Pa
open Bt
def amtT (n d : Int) : List Tk := (1, Go.Lib.decDigits n.toNat) :: (if d = 0 then [] else [(0, Un.bases.getD d.toNat [])])
/-- the tokens of a value -/
def tkV : Node → List Tk
  | ⟨k, t, n, d, _, ks⟩ => if k = 5 then amtT n d else if k = 6 then (3, [40]) :: tkL ks else if k = 4 then [(2, t)] else [(0, t)]
where tkL : List Node → List Tk
  | [] => []
  | [x] => tkV x ++ [(3, [41])]
  | x :: y :: xs => tkV x ++ (3, [44]) :: tkL (y :: xs)
/-- no unit stands at the head -/
def nou (E : List Tk) : Prop := E ≠ [] ∧ ∀ t E', E = (0, t) :: E' → isUnit t = false
def bare (x : Node) : Prop := x.Kind = 5 ∧ x.Dim = 0
theorem er_cons {ts : List Token} {k : Int} {t : List UInt8} {E : List Tk} (h : ts.map er = (k, t) :: E) : ∃ u r, ts = u :: r ∧ u.Kind = k ∧ u.Text = t ∧ r.map er = E := by
  match ts, h with
  | u :: r, h =>
    simp only [List.map_cons, List.cons.injEq, er, Prod.mk.injEq] at h
    exact ⟨u, r, rfl, h.1.1, h.1.2, h.2⟩
theorem nou_kind {k : Int} {t : List UInt8} {E : List Tk} (h : k ≠ 0) : nou ((k, t) :: E) := ⟨List.cons_ne_nil _ _, fun t' E' he => by
  simp only [List.cons.injEq, Prod.mk.injEq] at he; exact absurd he.1.1 h⟩
theorem tkV_pos (x : Node) : 1 ≤ (tkV x).length := by
  obtain ⟨k, t, n, d, a, ks⟩ := x
  rw [tkV]
  unfold amtT
  split
  · simp
  · split
    · simp
    · split <;> simp
theorem unit_base : ∀ d, d < 7 → d ≠ 0 → isUnit (Un.bases.getD d []) = true := by decide +kernel
theorem wri_ne {n d : Int} (h : Un.wri n d ≠ []) : ∃ (u e : Nat), n = u ∧ d = e ∧ u ≤ Un.M ∧ e < 7 := by
  unfold Un.wri at h
  split at h
  · rename_i hh
    exact ⟨n.toNat, d.toNat, by omega, by omega, by unfold Un.M at hh ⊢; omega, by omega⟩
  · exact absurd rfl h
theorem amt_all {x : Node} {ts : List Token} {E : List Tk} (hk : x.Kind = 5) (ht : x.Text = []) (hks : x.Kids = []) (hw : Un.wri x.N x.Dim ≠ []) (hb : bare x → nou E) (h : ts.map er = amtT x.N x.Dim ++ E) :
    (pk ts).Kind = 1 ∧ ∃ y r, amtP ts = .ok (y, r) ∧ eN y = eN x ∧ r.map er = E := by
  obtain ⟨k, t, n, d, a, ks⟩ := x
  simp only [] at hk ht hks hw h
  subst hk ht hks
  obtain ⟨u, e, rfl, rfl, hu, he⟩ := wri_ne hw
  unfold amtT at h
  rw [List.cons_append] at h
  obtain ⟨v, r, rfl, h1, h2, h3⟩ := er_cons h
  have hpk : pk (v :: r) = v := rfl
  refine ⟨by rw [hpk, h1], ?_⟩
  have hm : unitOf r = Un.bases.getD e [] ∧ (unitRest r).map er = E := by
    by_cases h0 : e = 0
    · subst h0
      have h3' : r.map er = E := by rw [h3]; rfl
      have hn := hb ⟨rfl, rfl⟩
      have hneg : ¬ ((pk r).Kind = 0 ∧ isUnit (pk r).Text = true) := by
        rintro ⟨h5, h6⟩
        cases r with
        | nil => exact hn.1 h3'.symm
        | cons w r' =>
          have h7 := hn.2 w.Text (r'.map er) (by rw [← h3']; simp only [List.map_cons, er]; rw [show w.Kind = 0 from h5])
          rw [show (pk (w :: r')).Text = w.Text from rfl, h7] at h6; cases h6
      unfold unitOf unitRest
      rw [if_neg hneg, if_neg hneg]
      exact ⟨rfl, h3'⟩
    · rw [if_neg (by omega)] at h3
      obtain ⟨w, r', rfl, h5, h6, h7⟩ := er_cons h3
      have hpos : (pk (w :: r')).Kind = 0 ∧ isUnit (pk (w :: r')).Text = true := ⟨h5, by rw [show (pk (w :: r')).Text = w.Text from rfl, h6, Int.toNat_natCast]; exact unit_base e he h0⟩
      unfold unitOf unitRest
      rw [if_pos hpos, if_pos hpos]
      exact ⟨by rw [show (pk (w :: r')).Text = w.Text from rfl, h6, Int.toNat_natCast], h7⟩
  unfold amtP
  simp only [hpk, List.tail_cons, hm.1, h2, Int.toNat_natCast, Un.amt_back hu he]
  rw [if_pos trivial]
  exact ⟨_, _, rfl, by simp only [eN_mk], hm.2⟩
theorem val_word {g : Nat} {x : Node} (h : isVal g x = true) (h5 : x.Kind ≠ 5) (h6 : x.Kind ≠ 6) : isWord x = true := by
  obtain ⟨k, t, n, d, a, ks⟩ := x
  rw [isVal, if_neg h5, if_neg h6] at h; exact h
theorem word_cases {x : Node} (h : isWord x = true) : x.Kids = [] ∧ x.N = 0 ∧ x.Dim = 0 ∧ (x.Kind = 3 ∧ isName x.Text = true ∨ x.Kind = 4 ∧ isText x.Text = true) := by
  unfold isWord at h
  simp only [Bool.and_eq_true, Bool.or_eq_true, decide_eq_true_eq, List.length_eq_zero_iff] at h
  obtain ⟨⟨h1, h2, h3⟩, h4⟩ := h
  exact ⟨h1, h2, h3, h4⟩
theorem tkV_word {x : Node} (h : isWord x = true) : tkV x = [(if x.Kind = 4 then 2 else 0, x.Text)] := by
  obtain ⟨k, t, n, d, a, ks⟩ := x
  obtain ⟨_, _, _, h | h⟩ := word_cases h
  · obtain ⟨h, -⟩ := h
    simp only [] at h; subst h; rw [tkV]; rfl
  · obtain ⟨h, -⟩ := h
    simp only [] at h; subst h; rw [tkV]; rfl
theorem word_all {x : Node} {ts : List Token} {E : List Tk} (hx : isWord x = true) (h : ts.map er = tkV x ++ E) : ((pk ts).Kind = 0 ∨ (pk ts).Kind = 2) ∧ ∃ y r, wordP ts = .ok (y, r) ∧ eN y = eN x ∧ r.map er = E := by
  rw [tkV_word hx] at h
  obtain ⟨u, r, rfl, h1, h2, h3⟩ := er_cons h
  obtain ⟨k, t, n, d, a, ks⟩ := x
  obtain ⟨h4, h5, h6, h7⟩ := word_cases hx
  simp only [] at h4 h5 h6 h1 h2 h7
  subst h4 h5 h6
  have hpk : pk (u :: r) = u := rfl
  unfold wordP
  rw [hpk, h1]
  rcases h7 with h7 | h7
  · rw [h7.1, if_neg (by decide)]
    refine ⟨.inl rfl, ?_⟩
    rw [if_pos rfl]
    exact ⟨_, _, rfl, by simp only [wrd, eN_mk, h2], h3⟩
  · rw [h7.1, if_pos rfl]
    refine ⟨.inr rfl, ?_⟩
    rw [if_neg (by decide), if_pos rfl]
    exact ⟨_, _, rfl, by simp only [wrd, eN_mk, h2], h3⟩
theorem isS_tk {ts r : List Token} {u : Token} {c : List UInt8} (h : ts = u :: r) (hk : u.Kind = 3) (ht : u.Text = c) : isS c ts = true := by
  subst h; unfold isS; simp [pk, hk, ht]
theorem isS_not {ts : List Token} {c : List UInt8} (h : (pk ts).Kind ≠ 3) : isS c ts = false := by
  unfold isS; rw [decide_eq_false h]; rfl
theorem isS_other {ts : List Token} {c : List UInt8} (h : (pk ts).Text ≠ c) : isS c ts = false := by
  unfold isS; rw [decide_eq_false h, Bool.and_false]
theorem vg_all : ∀ f : Nat, (∀ (g : Nat) (x : Node) (ts : List Token) (E : List Tk), isVal g x = true → (bare x → nou E) → 2 * (tkV x).length ≤ f → ts.map er = tkV x ++ E → ∃ y r, valP f g ts = .ok (y, r) ∧ eN y = eN x ∧ r.map er = E) ∧
    (∀ (g : Nat) (xs : List Node) (ts : List Token) (E : List Tk), isVal.allVal g xs = true → xs ≠ [] → 2 * (tkV.tkL xs).length + 1 ≤ f → ts.map er = tkV.tkL xs ++ E → ∃ ys r, grpP f g ts = .ok (ys, r) ∧ ys.map eN = xs.map eN ∧ r.map er = E)
  | 0 => ⟨fun g x ts E _ _ hf _ => by have := tkV_pos x; omega, fun g xs ts E _ _ hf _ => by omega⟩
  | f + 1 => by
    obtain ⟨ih1, ih2⟩ := vg_all f
    refine ⟨fun g x ts E hx hb hf h => ?_, fun g xs ts E hx hne hf h => ?_⟩
    · rw [valP]
      by_cases h5 : x.Kind = 5
      · have hx' : x.Text = [] ∧ x.Kids = [] ∧ Un.wri x.N x.Dim ≠ [] ∧ tkV x = amtT x.N x.Dim := by
          obtain ⟨k, t, n, d, a, ks⟩ := x
          simp only [] at h5; subst h5
          rw [isVal, if_pos rfl] at hx
          simp only [Bool.and_eq_true, decide_eq_true_eq, List.length_eq_zero_iff] at hx
          exact ⟨hx.1.1, hx.1.2, hx.2, by rw [tkV, if_pos rfl]⟩
        rw [hx'.2.2.2] at h
        obtain ⟨h1, h2⟩ := amt_all h5 hx'.1 hx'.2.1 hx'.2.2.1 hb h
        rw [if_pos h1]; exact h2
      · by_cases h6 : x.Kind = 6
        · obtain ⟨k, t, n, d, a, ks⟩ := x
          simp only [] at h6; subst h6
          rw [isVal, if_neg (by decide), if_pos rfl] at hx
          simp only [Bool.and_eq_true, decide_eq_true_eq] at hx
          obtain ⟨⟨⟨⟨ht, hn, hd⟩, hks⟩, hg⟩, hall⟩ := hx
          subst ht hn hd
          rw [tkV, if_neg (by decide), if_pos rfl] at h hf
          rw [List.cons_append] at h
          obtain ⟨u, r, rfl, h1, h2, h3⟩ := er_cons h
          have hpk : pk (u :: r) = u := rfl
          rw [hpk, h1, if_neg (by decide), if_pos (isS_tk rfl h1 h2), if_neg (by omega)]
          simp only [List.length_cons] at hf
          obtain ⟨ys, r', h7, h8, h9⟩ := ih2 (g + 1) ks r E hall (by intro hk; rw [hk] at hks; exact hks rfl) (by omega) h3
          rw [List.tail_cons, h7]
          exact ⟨_, _, rfl, by simp only [grp, eN_mk, h8], h9⟩
        · have hw := val_word hx h5 h6
          obtain ⟨h1, h2⟩ := word_all hw h
          rw [if_neg (by omega), if_neg (by rw [isS_not (by omega)]; simp)]
          exact h2
    · rw [grpP]
      match xs, hne with
      | [x], _ =>
        rw [tkV.tkL] at h hf
        rw [isVal.allVal, Bool.and_eq_true] at hx
        rw [List.append_assoc] at h
        simp only [List.length_append, List.length_cons, List.length_nil] at hf
        obtain ⟨y, r, h1, h2, h3⟩ := ih1 g x ts _ hx.1 (fun _ => nou_kind (by decide)) (by omega) h
        rw [h1]
        obtain ⟨u, r', rfl, h4, h5, h6⟩ := er_cons h3
        simp only []
        rw [if_pos (isS_tk rfl h4 h5)]
        exact ⟨_, _, rfl, by simp [h2], h6⟩
      | x :: z :: xs, _ =>
        rw [tkV.tkL] at h hf
        rw [isVal.allVal, Bool.and_eq_true] at hx
        rw [List.append_assoc] at h
        simp only [List.length_append, List.length_cons] at hf
        have hp := tkV_pos x
        obtain ⟨y, r, h1, h2, h3⟩ := ih1 g x ts _ hx.1 (fun _ => nou_kind (by decide)) (by omega) h
        rw [h1]
        obtain ⟨u, r', rfl, h4, h5, h6⟩ := er_cons (show r.map er = (3, [44]) :: (tkV.tkL (z :: xs) ++ E) from h3)
        simp only []
        rw [if_neg (by rw [isS_other (by show u.Text ≠ _; rw [h5]; decide)]; simp), if_pos (isS_tk rfl h4 h5)]
        obtain ⟨ys, r2, h7, h8, h9⟩ := ih2 g (z :: xs) r' E hx.2 (List.cons_ne_nil _ _) (by omega) h6
        rw [List.tail_cons, h7]
        exact ⟨_, _, rfl, by simp only [List.map_cons] at h8 ⊢; rw [h2, h8], h9⟩
theorem val0_all {x : Node} {ts : List Token} {E : List Tk} (hx : isVal 0 x = true) (hb : bare x → nou E) (h : ts.map er = tkV x ++ E) : ∃ y r, val0 ts = .ok (y, r) ∧ eN y = eN x ∧ r.map er = E := by
  have hl : ts.length = (tkV x).length + E.length := by have := congrArg List.length h; simpa using this
  exact (vg_all _).1 0 x ts E hx hb (by omega) h
end Pa
namespace Pa
open Bt
def tkP (x : Node) : List Tk := (0, x.Text) :: (x.Kids.flatMap tkV ++ [(3, [59])])
def tkD (x : Node) : List Tk := (0, x.Text) :: ((x.Kids.take (wrdN x.Kids)).flatMap tkV ++ (3, [123]) :: ((x.Kids.drop (wrdN x.Kids)).flatMap tkP ++ [(3, [125])]))
def tkF (x : Node) : List Tk := x.Kids.flatMap tkD ++ [(4, [])]
theorem tkV_head {g : Nat} {x : Node} (h : isVal g x = true) : ∃ k t r, tkV x = (k, t) :: r ∧ (k = 3 → t = [40]) ∧ (k = 0 → x.Kind = 3 ∧ t = x.Text) ∧ k ≠ 4 := by
  by_cases h5 : x.Kind = 5
  · obtain ⟨k, t, n, d, a, ks⟩ := x
    simp only [] at h5; subst h5
    rw [tkV, if_pos rfl]
    exact ⟨_, _, _, rfl, fun h => absurd h (by decide), fun h => absurd h (by decide), by decide⟩
  · by_cases h6 : x.Kind = 6
    · obtain ⟨k, t, n, d, a, ks⟩ := x
      simp only [] at h6; subst h6
      rw [tkV, if_neg (by decide), if_pos rfl]
      exact ⟨_, _, _, rfl, fun _ => rfl, fun h => absurd h (by decide), by decide⟩
    · have hw := val_word h h5 h6
      rw [tkV_word hw]
      obtain ⟨_, _, _, h | h⟩ := word_cases hw
      · exact ⟨_, _, _, rfl, fun h9 => absurd h9 (by rw [h.1]; decide), fun _ => ⟨h.1, rfl⟩, by rw [h.1]; decide⟩
      · exact ⟨_, _, _, rfl, fun h9 => absurd h9 (by rw [h.1]; decide), fun h9 => absurd h9 (by rw [h.1]; decide), by rw [h.1]; decide⟩
theorem many_all {c : List UInt8} {p : List Token → R Node} {T : Node → List Tk} {gd : List Node → Prop} (hT : ∀ x, 1 ≤ (T x).length)
    (hp : ∀ (x : Node) (xs : List Node) (ts : List Token) (E : List Tk), gd (x :: xs) → ts.map er = T x ++ (xs.flatMap T ++ (3, c) :: E) → isS c ts = false ∧ ∃ y r, p ts = .ok (y, r) ∧ eN y = eN x ∧ r.map er = xs.flatMap T ++ (3, c) :: E)
    (hg : ∀ x xs, gd (x :: xs) → gd xs) : ∀ (xs : List Node) (f : Nat) (ts : List Token) (E : List Tk), gd xs → xs.length + 1 ≤ f → ts.map er = xs.flatMap T ++ (3, c) :: E → ∃ ys r, many c p f ts = .ok (ys, r) ∧ ys.map eN = xs.map eN ∧ r.map er = E
  | [], f + 1, ts, E, _, _, h => by
    obtain ⟨u, r, rfl, h1, h2, h3⟩ := er_cons (show ts.map er = (3, c) :: E from h)
    rw [many, if_pos (isS_tk rfl h1 h2)]
    exact ⟨_, _, rfl, rfl, h3⟩
  | x :: xs, f + 1, ts, E, hgd, hf, h => by
    rw [List.flatMap_cons, List.append_assoc] at h
    obtain ⟨h1, y, r, h2, h3, h4⟩ := hp x xs ts E hgd h
    obtain ⟨ys, r', h5, h6, h7⟩ := many_all hT hp hg xs f r E (hg _ _ hgd) (by simp only [List.length_cons] at hf; omega) h4
    rw [many, h1, if_neg (by simp), h2]
    simp only []
    rw [h5]
    exact ⟨_, _, rfl, by simp only [List.map_cons, h3, h6], h7⟩
  | _, 0, _, _, _, hf, _ => by omega
theorem flat_ge {T : Node → List Tk} (hT : ∀ x, 1 ≤ (T x).length) : ∀ xs : List Node, xs.length ≤ (xs.flatMap T).length
  | [] => Nat.zero_le _
  | x :: xs => by have := hT x; have := flat_ge hT xs; simp only [List.flatMap_cons, List.length_append, List.length_cons]; omega
theorem many_len {c : List UInt8} {T : Node → List Tk} (hT : ∀ x, 1 ≤ (T x).length) {xs : List Node} {ts : List Token} {E : List Tk} (h : ts.map er = xs.flatMap T ++ (3, c) :: E) : xs.length + 1 ≤ ts.length := by
  have h1 := congrArg List.length h
  have h2 := flat_ge hT xs
  simp only [List.length_map, List.length_append, List.length_cons] at h1
  omega
def goodP (l : List Node) : Prop := ∀ j, j < l.length → isVal 0 (l.getD j default) = true ∧ pairAt l j
theorem goodP_tail {x : Node} {xs : List Node} (h : goodP (x :: xs)) : goodP xs := fun j hj => by
  obtain ⟨h1, h2⟩ := h (j + 1) (by simpa using hj)
  refine ⟨by simpa using h1, fun ⟨h3, h4⟩ => h2 ⟨by omega, ?_⟩⟩
  match j, h3 with
  | j + 1, _ => simpa using h4
theorem goodP_head {x : Node} {xs : List Node} (h : goodP (x :: xs)) : isVal 0 x = true := by simpa using (h 0 (by simp)).1
theorem goodP_nou {x : Node} {xs : List Node} {E : List Tk} (h : goodP (x :: xs)) (hb : bare x) : nou (xs.flatMap tkV ++ (3, [59]) :: E) := by
  cases xs with
  | nil => exact nou_kind (by decide)
  | cons y ys =>
    obtain ⟨h1, h2⟩ := h 1 (by simp)
    obtain ⟨k, t, r, h3, _, h4, _⟩ := tkV_head (x := y) (by simpa using h1)
    rw [List.flatMap_cons, h3]
    refine ⟨by simp, fun t' E' he => ?_⟩
    simp only [List.cons_append, List.cons.injEq, Prod.mk.injEq] at he
    obtain ⟨⟨h5, h6⟩, _⟩ := he
    obtain ⟨h7, h8⟩ := h4 h5
    cases hu : isUnit t' with
    | false => rfl
    | true => exact absurd ⟨by omega, by simpa using h7, by rw [← h6, h8] at hu; simpa using hu, by simpa using hb.1, by simpa using hb.2⟩ h2
theorem pk_er {ts : List Token} {k : Int} {t : List UInt8} {E : List Tk} (h : ts.map er = (k, t) :: E) : (pk ts).Kind = k ∧ (pk ts).Text = t := by
  obtain ⟨u, r, rfl, h1, h2, _⟩ := er_cons h; exact ⟨h1, h2⟩
theorem vals_all {xs : List Node} {f : Nat} {ts : List Token} {E : List Tk} (hx : goodP xs) (hf : xs.length + 1 ≤ f) (h : ts.map er = xs.flatMap tkV ++ (3, [59]) :: E) : ∃ ys r, many [59] val0 f ts = .ok (ys, r) ∧ ys.map eN = xs.map eN ∧ r.map er = E :=
  many_all (gd := goodP) tkV_pos (fun x xs ts E hg h => by
    refine ⟨?_, val0_all (goodP_head hg) (fun hb => goodP_nou hg hb) h⟩
    obtain ⟨k, t, r, h3, h4, _, _⟩ := tkV_head (goodP_head hg)
    rw [h3] at h
    obtain ⟨h5, h6⟩ := pk_er (E := r ++ (xs.flatMap tkV ++ (3, [59]) :: E)) h
    by_cases hk : k = 3
    · exact isS_other (by rw [h6, h4 hk]; decide)
    · exact isS_not (by rw [h5]; exact hk)) (fun _ _ => goodP_tail) xs f ts E hx hf h
theorem prop_cases {x : Node} (h : isProp x = true) : x.Kind = 2 ∧ isName x.Text = true ∧ x.N = 0 ∧ x.Dim = 0 ∧ goodP x.Kids := by
  unfold isProp at h
  simp only [Bool.and_eq_true, decide_eq_true_eq] at h
  exact ⟨h.1.1.1, h.1.1.2, h.1.2.1, h.1.2.2, h.2⟩
theorem prop_all {x : Node} {ts : List Token} {E : List Tk} (hx : isProp x = true) (h : ts.map er = tkP x ++ E) : ∃ y r, propP ts = .ok (y, r) ∧ eN y = eN x ∧ r.map er = E := by
  obtain ⟨k, t, n, d, a, ks⟩ := x
  obtain ⟨h1, h2, h3, h4, h5⟩ := prop_cases hx
  simp only [] at h1 h2 h3 h4 h5
  subst h1 h3 h4
  obtain ⟨u, r, rfl, h6, h7, h8⟩ := er_cons (show ts.map er = (0, t) :: (ks.flatMap tkV ++ [(3, [59])] ++ E) from h)
  rw [List.append_assoc] at h8
  obtain ⟨ys, r', h9, h10, h11⟩ := vals_all (f := r.length) (E := E) h5 (many_len (E := E) tkV_pos h8) h8
  unfold propP nameP
  rw [show pk (u :: r) = u from rfl, if_pos h6]
  simp only [List.tail_cons]
  rw [h9]
  exact ⟨_, _, rfl, by simp only [eN_mk, h7, h10], h11⟩
theorem tkP_pos (x : Node) : 1 ≤ (tkP x).length := by unfold tkP; simp
theorem tkD_pos (x : Node) : 1 ≤ (tkD x).length := by unfold tkD; simp
theorem words_all {xs : List Node} {f : Nat} {ts : List Token} {E : List Tk} (hx : ∀ x ∈ xs, isWord x = true) (hf : xs.length + 1 ≤ f) (h : ts.map er = xs.flatMap tkV ++ (3, [123]) :: E) : ∃ ys r, many [123] wordP f ts = .ok (ys, r) ∧ ys.map eN = xs.map eN ∧ r.map er = E :=
  many_all (gd := fun l => ∀ x ∈ l, isWord x = true) tkV_pos (fun x xs ts E hg h => by
    obtain ⟨h1, h2⟩ := word_all (hg x (List.mem_cons_self ..)) h
    exact ⟨isS_not (by omega), h2⟩) (fun _ _ hg x hx => hg x (List.mem_cons_of_mem _ hx)) xs f ts E hx hf h
theorem props_all {xs : List Node} {f : Nat} {ts : List Token} {E : List Tk} (hx : ∀ x ∈ xs, isProp x = true) (hf : xs.length + 1 ≤ f) (h : ts.map er = xs.flatMap tkP ++ (3, [125]) :: E) : ∃ ys r, many [125] propP f ts = .ok (ys, r) ∧ ys.map eN = xs.map eN ∧ r.map er = E :=
  many_all (gd := fun l => ∀ x ∈ l, isProp x = true) tkP_pos (fun x xs ts E hg h => by
    refine ⟨isS_not ?_, prop_all (hg x (List.mem_cons_self ..)) h⟩
    have h1 := (pk_er (E := (x.Kids.flatMap tkV ++ [(3, [59])]) ++ (xs.flatMap tkP ++ (3, [125]) :: E)) h).1
    rw [h1]; decide) (fun _ _ hg x hx => hg x (List.mem_cons_of_mem _ hx)) xs f ts E hx hf h
theorem take_words (l : List Node) : ∀ x ∈ l.take (wrdN l), isWord x = true := by
  unfold wrdN
  induction l with
  | nil => simp
  | cons a l ih =>
    rw [List.takeWhile_cons]
    split
    · rename_i h
      intro x hx
      rw [List.length_cons, List.take_succ_cons] at hx
      rcases List.mem_cons.1 hx with rfl | hx
      · exact h
      · exact ih x hx
    · simp
theorem decl_cases {x : Node} (h : isDecl x = true) : x.Kind = 1 ∧ isName x.Text = true ∧ x.N = 0 ∧ x.Dim = 0 ∧ (∀ y ∈ x.Kids.take (wrdN x.Kids), isWord y = true) ∧ ∀ y ∈ x.Kids.drop (wrdN x.Kids), isProp y = true := by
  unfold isDecl at h
  simp only [Bool.and_eq_true, decide_eq_true_eq] at h
  refine ⟨h.1.1.1, h.1.1.2, h.1.2.1, h.1.2.2, take_words _, fun y hy => ?_⟩
  obtain ⟨i, hi, rfl⟩ := List.mem_iff_getElem.1 hy
  rw [List.length_drop] at hi
  have := h.2 (wrdN x.Kids + i) (by omega) (by omega)
  rw [List.getElem_drop]
  rwa [List.getD_eq_getElem?_getD, List.getElem?_eq_getElem (by omega)] at this
theorem decl_all {x : Node} {ts : List Token} {E : List Tk} (hx : isDecl x = true) (h : ts.map er = tkD x ++ E) : ∃ y r, declP ts = .ok (y, r) ∧ eN y = eN x ∧ r.map er = E := by
  obtain ⟨k, t, n, d, a, ks⟩ := x
  obtain ⟨h1, h2, h3, h4, h5, h5'⟩ := decl_cases hx
  simp only [] at h1 h2 h3 h4 h5 h5'
  subst h1 h3 h4
  obtain ⟨u, r, rfl, h6, h7, h8⟩ := er_cons (show ts.map er = (0, t) :: (((ks.take (wrdN ks)).flatMap tkV ++ (3, [123]) :: ((ks.drop (wrdN ks)).flatMap tkP ++ [(3, [125])])) ++ E) from h)
  have h8' : r.map er = (ks.take (wrdN ks)).flatMap tkV ++ (3, [123]) :: ((ks.drop (wrdN ks)).flatMap tkP ++ (3, [125]) :: E) := by rw [h8]; simp
  obtain ⟨ys, r1, h9, h10, h11⟩ := words_all h5 (many_len tkV_pos h8') h8'
  obtain ⟨zs, r2, h12, h13, h14⟩ := props_all h5' (many_len tkP_pos h11) h11
  unfold declP nameP
  rw [show pk (u :: r) = u from rfl, if_pos h6]
  simp only [List.tail_cons]
  rw [h9]
  simp only []
  rw [h12]
  refine ⟨_, _, rfl, ?_, h14⟩
  simp only [eN_mk, h7, List.map_append, h10, h13]
  rw [← List.map_append, List.take_append_drop]
theorem file_all : ∀ (xs : List Node) (f : Nat) (ts : List Token), (∀ x ∈ xs, isDecl x = true) → xs.length + 1 ≤ f → ts.map er = xs.flatMap tkD ++ [(4, [])] → ∃ ys r, fileP f ts = .ok (ys, r) ∧ ys.map eN = xs.map eN
  | [], f + 1, ts, _, _, h => by
    obtain ⟨u, r, rfl, h1, h2, h3⟩ := er_cons (show ts.map er = (4, []) :: [] from h)
    rw [fileP, if_pos (by exact h1)]
    exact ⟨_, _, rfl, rfl⟩
  | x :: xs, f + 1, ts, hx, hf, h => by
    rw [List.flatMap_cons, List.append_assoc] at h
    obtain ⟨y, r, h1, h2, h3⟩ := decl_all (hx x (List.mem_cons_self ..)) h
    obtain ⟨ys, r', h4, h5⟩ := file_all xs f r (fun z hz => hx z (List.mem_cons_of_mem _ hz)) (by simp only [List.length_cons] at hf; omega) h3
    rw [fileP, if_neg (by rw [(pk_er (show ts.map er = (0, x.Text) :: (_ ++ (xs.flatMap tkD ++ [(4, [])])) from h)).1]; decide), h1]
    simp only []
    rw [h4]
    exact ⟨_, _, rfl, by simp only [List.map_cons, h2, h5]⟩
  | _, 0, _, _, hf, _ => by omega
theorem right_cases {x : Node} (h : right x = true) : x.Kind = 0 ∧ x.Text = [] ∧ x.N = 0 ∧ x.Dim = 0 ∧ ∀ y ∈ x.Kids, isDecl y = true := by
  unfold right at h
  simp only [Bool.and_eq_true, decide_eq_true_eq] at h
  refine ⟨h.1.1.1, h.1.1.2, h.1.2.1, h.1.2.2, fun y hy => ?_⟩
  obtain ⟨i, hi, rfl⟩ := List.mem_iff_getElem.1 hy
  have := h.2 i hi
  rwa [List.getD_eq_getElem?_getD, List.getElem?_eq_getElem hi] at this
theorem fileN_all {x : Node} {ts : List Token} (hx : right x = true) (h : ts.map er = tkF x) : ∃ y r, fileN ts = .ok (y, r) ∧ eN y = eN x := by
  obtain ⟨k, t, n, d, a, ks⟩ := x
  obtain ⟨h1, h2, h3, h4, h5⟩ := right_cases hx
  simp only [] at h1 h2 h3 h4 h5
  subst h1 h2 h3 h4
  obtain ⟨ys, r, h6, h7⟩ := file_all ks (ts.length + 1) ts h5 (by
    have h1 := congrArg List.length h
    have h2 := flat_ge tkD_pos ks
    simp only [tkF, List.length_map, List.length_append, List.length_cons] at h1
    omega) h
  unfold fileN
  rw [h6]
  exact ⟨_, _, rfl, by simp only [eN_mk, h7]⟩
end Pa
namespace Pa
open Bt
def okT (t : Token) : Prop := (t.Kind = 0 → isName t.Text = true) ∧ (t.Kind = 2 → isText t.Text = true)
def okTs (ts : List Token) : Prop := ∀ t ∈ ts, okT t
theorem okTs_ad {ts r : List Token} (h : okTs ts) (ha : Ad ts r) : okTs r := fun t ht => h t (ha.1.subset ht)
theorem okTs_tail {ts : List Token} (h : okTs ts) : okTs ts.tail := fun t ht => h t (List.mem_of_mem_tail ht)
theorem ok_pk {ts : List Token} (hg : good ts) (h : okTs ts) : okT (pk ts) := by
  cases ts with
  | nil => exact (hg : False).elim
  | cons t r => exact h t (List.mem_cons_self ..)
theorem isWord_mk {t : List UInt8} {a : Int} (h : isName t = true) : isWord ⟨3, t, 0, 0, a, []⟩ = true := by unfold isWord; simp [h]
theorem isText_mk {t : List UInt8} {a : Int} (h : isText t = true) : isWord ⟨4, t, 0, 0, a, []⟩ = true := by unfold isWord; simp [h]
theorem word_ok {ts r : List Token} {x : Node} (hg : good ts) (ho : okTs ts) (h : wordP ts = .ok (x, r)) : isWord x = true ∧ (x.Kind = 3 → (pk ts).Kind = 0 ∧ x.Text = (pk ts).Text) := by
  have hp := ok_pk hg ho
  unfold wordP at h
  split at h
  · rename_i hk; cases h; exact ⟨isWord_mk (hp.1 hk), fun _ => ⟨hk, rfl⟩⟩
  · split at h
    · rename_i hk; cases h; exact ⟨isText_mk (hp.2 hk), fun h => absurd (show (4 : Int) = 3 from h) (by decide)⟩
    · cases h
theorem isVal_word {g : Nat} {x : Node} (h : isWord x = true) : isVal g x = true := by
  obtain ⟨k, t, n, d, a, ks⟩ := x
  obtain ⟨_, _, _, h1 | h1⟩ := word_cases h
  · have := h1.1; simp only [] at this; subst this
    rw [isVal, if_neg (by decide), if_neg (by decide)]; exact h
  · have := h1.1; simp only [] at this; subst this
    rw [isVal, if_neg (by decide), if_neg (by decide)]; exact h
theorem word_kind {x : Node} (h : isWord x = true) : x.Kind = 3 ∨ x.Kind = 4 := by
  obtain ⟨_, _, _, h1 | h1⟩ := word_cases h
  · exact .inl h1.1
  · exact .inr h1.1
theorem dim_none : ∀ m ∈ Un.ms, m.2.1 = 0 → m.1 = [] := by decide +kernel
theorem amt_dim {l n : List UInt8} (h : (Un.amt l n).2.2 = 0) (hd : (Un.amt l n).2.1 = 0) : n = [] := by
  cases ho : Un.okF l with
  | false => rw [Un.amt_form ho] at h; simp at h
  | true =>
    cases hl : Un.look n with
    | none => rw [Un.amt_none ho hl] at h; simp at h
    | some m =>
      rw [Un.amt_prod ho hl] at h hd
      obtain ⟨h1, h2⟩ := Un.look_mem hl
      split at h
      · rename_i hp
        rw [if_pos hp] at hd
        rw [← h2]; exact dim_none m h1 hd
      · simp at h
theorem name_ne {t : List UInt8} (h : isName t = true) : t ≠ [] := by
  rintro rfl; revert h; decide
theorem amt_okv {g : Nat} {ts r : List Token} {x : Node} (hg : good ts) (hk : (pk ts).Kind = 1) (ho : okTs ts) (h : amtP ts = .ok (x, r)) : isVal g x = true ∧ x.Kind = 5 ∧ (bare x → ¬ ((pk r).Kind = 0 ∧ isUnit (pk r).Text = true)) := by
  have h0 := ad_tail hg (by omega)
  have hp := ok_pk h0.2.1 (okTs_tail ho)
  unfold amtP at h
  simp only [] at h
  split at h
  · rename_i ha
    cases h
    refine ⟨?_, rfl, fun hb => ?_⟩
    · rw [isVal, if_pos rfl]
      have hl := Un.amt_le (pk ts).Text (unitOf ts.tail)
      have hd := Un.dec_len_pos (Un.amt (pk ts).Text (unitOf ts.tail)).1
      have hw : Un.wri ((Un.amt (pk ts).Text (unitOf ts.tail)).1 : Int) ((Un.amt (pk ts).Text (unitOf ts.tail)).2.1 : Int) ≠ [] := by
        unfold Un.wri
        rw [if_pos (by unfold Un.M; omega)]
        split
        · intro h9; rw [Int.toNat_natCast] at h9; rw [h9] at hd; simp at hd
        · intro h9; rw [Int.toNat_natCast] at h9
          have := congrArg List.length h9
          simp at this
      simp [hw]
    · have h1 : (Un.amt (pk ts).Text (unitOf ts.tail)).2.1 = 0 := by have := hb.2; simp only [] at this; omega
      have h2 := amt_dim (by omega) h1
      unfold unitOf at h2
      unfold unitRest
      split at h2
      · rename_i hc
        exact absurd h2 (name_ne (hp.1 hc.1))
      · rename_i hc
        rw [if_neg hc]; exact hc
  · cases h
/-- what follows an amount without unit is no unit -/
def Nx (x : Node) (r : List Token) : Prop := bare x → ¬ ((pk r).Kind = 0 ∧ isUnit (pk r).Text = true)
theorem vg_ok : ∀ f : Nat, (∀ (g : Nat) (ts r : List Token) (x : Node), good ts → okTs ts → valP f g ts = .ok (x, r) → isVal g x = true ∧ (x.Kind = 3 → (pk ts).Kind = 0 ∧ x.Text = (pk ts).Text) ∧ Nx x r) ∧
    (∀ (g : Nat) (ts r : List Token) (xs : List Node), good ts → okTs ts → grpP f g ts = .ok (xs, r) → isVal.allVal g xs = true ∧ xs ≠ [])
  | 0 => ⟨fun g ts r x _ _ h => (by rw [valP] at h; cases h), fun g ts r x _ _ h => (by rw [grpP] at h; cases h)⟩
  | f + 1 => by
    obtain ⟨ih1, ih2⟩ := vg_ok f
    refine ⟨fun g ts r x hg ho h => ?_, fun g ts r xs hg ho h => ?_⟩
    · rw [valP] at h
      split at h
      · rename_i hk
        obtain ⟨h1, h2, h3⟩ := amt_okv (g := g) hg hk ho h
        exact ⟨h1, fun h4 => by omega, h3⟩
      · split at h
        · rename_i hs
          split at h
          · cases h
          · rename_i hgn
            have h0 := ad_sign hg hs
            split at h
            · cases h
            · rename_i xs r' he
              cases h
              obtain ⟨h1, h2⟩ := ih2 _ _ _ _ h0.2.1 (okTs_ad ho h0) he
              refine ⟨?_, fun h4 => absurd (show (6 : Int) = 3 from h4) (by decide), fun h4 => absurd (show (6 : Int) = 5 from h4.1) (by decide)⟩
              rw [grp, isVal, if_neg (by decide), if_pos rfl, h1]
              have : xs.length ≠ 0 := fun h => h2 (List.length_eq_zero_iff.1 h)
              simp [this, Nat.lt_of_not_le hgn, h2]
        · obtain ⟨h1, h2⟩ := word_ok hg ho h
          have h3 := word_kind h1
          exact ⟨isVal_word h1, h2, fun h4 => by have := h4.1; omega⟩
    · rw [grpP] at h
      split at h
      · cases h
      · rename_i x r1 he
        have h1 := valP_ok hg he
        obtain ⟨h2, _⟩ := ih1 _ _ _ _ hg ho he
        split at h
        · cases h
          exact ⟨by rw [isVal.allVal, isVal.allVal, h2]; rfl, by simp⟩
        · split at h
          · rename_i hs
            have h3 := h1.trans (ad_sign h1.2.1 hs)
            split at h
            · cases h
            · rename_i xs r2 he2
              cases h
              obtain ⟨h4, _⟩ := ih2 _ _ _ _ h3.2.1 (okTs_ad ho h3) he2
              exact ⟨by rw [isVal.allVal, h2, h4]; rfl, by simp⟩
          · cases h
theorem goodP_cons {x : Node} {xs : List Node} (h1 : isVal 0 x = true) (h2 : goodP xs) (h3 : bare x → ∀ y ys, xs = y :: ys → ¬ (y.Kind = 3 ∧ isUnit y.Text = true)) : goodP (x :: xs) := fun j hj => by
  match j, hj with
  | 0, _ => exact ⟨by simpa using h1, fun h => by omega⟩
  | 1, hj =>
    cases xs with
    | nil => simp at hj
    | cons y ys =>
      obtain ⟨h4, _⟩ := h2 0 (by simp)
      refine ⟨by simpa using h4, fun h => h3 ⟨by simpa using h.2.2.2.1, by simpa using h.2.2.2.2⟩ y ys rfl ⟨by simpa using h.2.1, by simpa using h.2.2.1⟩⟩
  | j + 2, hj =>
    obtain ⟨h4, h5⟩ := h2 (j + 1) (by simp only [List.length_cons] at hj; omega)
    exact ⟨by simpa using h4, fun h => h5 ⟨by omega, by simpa using h.2⟩⟩
theorem vals_ok : ∀ (f : Nat) {ts r : List Token} {xs : List Node}, good ts → okTs ts → many [59] val0 f ts = .ok (xs, r) → goodP xs ∧ ∀ y ys, xs = y :: ys → y.Kind = 3 → (pk ts).Kind = 0 ∧ y.Text = (pk ts).Text
  | 0, _, _, _, _, _, h => by rw [many] at h; cases h
  | f + 1, ts, r, xs, hg, ho, h => by
    rw [many] at h
    split at h
    · cases h
      exact ⟨fun j hj => by simp at hj, fun y ys he => by cases he⟩
    · split at h
      · cases h
      · rename_i x r1 he
        have h1 := val0_ok hg he
        obtain ⟨h2, h3, h4⟩ := (vg_ok _).1 _ _ _ _ hg ho he
        split at h
        · cases h
        · rename_i ys r2 he2
          cases h
          obtain ⟨h5, h6⟩ := vals_ok f h1.2.1 (okTs_ad ho h1) he2
          refine ⟨goodP_cons h2 h5 (fun hb y zs hy ⟨h7, h8⟩ => ?_), fun y zs hy h7 => ?_⟩
          · obtain ⟨h9, h10⟩ := h6 y zs hy h7
            exact h4 hb ⟨h9, by rw [← h10]; exact h8⟩
          · cases hy; exact h3 h7
theorem name_okv {ts r : List Token} {t : Token} (hg : good ts) (ho : okTs ts) (h : nameP ts = .ok (t, r)) : isName t.Text = true ∧ Ad ts r := by
  obtain ⟨h1, h2, h3⟩ := nameP_ok hg h
  subst h2
  exact ⟨(ok_pk hg ho).1 h3, h1⟩
theorem prop_okv {ts r : List Token} {x : Node} (hg : good ts) (ho : okTs ts) (h : propP ts = .ok (x, r)) : isProp x = true := by
  unfold propP at h
  split at h
  · cases h
  · rename_i t r1 he
    obtain ⟨h1, h2⟩ := name_okv hg ho he
    split at h
    · cases h
    · rename_i xs r2 he2
      cases h
      obtain ⟨h3, _⟩ := vals_ok _ h2.2.1 (okTs_ad ho h2) he2
      unfold isProp
      simp only [decide_true, Bool.true_and, Bool.and_eq_true, decide_eq_true_eq, h1]
      exact ⟨⟨trivial, trivial⟩, h3⟩
theorem many_okv {c : List UInt8} {p : List Token → R Node} {gd : Node → Prop} (hp : ∀ {ts r x}, good ts → p ts = .ok (x, r) → Ad ts r) (hq : ∀ {ts r x}, good ts → okTs ts → p ts = .ok (x, r) → gd x) : ∀ (f : Nat) {ts r : List Token} {xs : List Node}, good ts → okTs ts → many c p f ts = .ok (xs, r) → ∀ x ∈ xs, gd x
  | 0, _, _, _, _, _, h => by rw [many] at h; cases h
  | f + 1, ts, r, xs, hg, ho, h => by
    rw [many] at h
    split at h
    · cases h; intro x hx; cases hx
    · split at h
      · cases h
      · rename_i x r1 he
        have h1 := hp hg he
        split at h
        · cases h
        · rename_i ys r2 he2
          cases h
          have h2 := many_okv hp hq f h1.2.1 (okTs_ad ho h1) he2
          intro y hy
          rcases List.mem_cons.1 hy with rfl | hy
          · exact hq hg ho he
          · exact h2 y hy
theorem prop_word {x : Node} (h : isProp x = true) : isWord x = false := by
  have h1 := (prop_cases h).1
  cases hw : isWord x with
  | false => rfl
  | true => have := word_kind hw; omega
theorem wrdN_split {xs ys : List Node} (h1 : ∀ x ∈ xs, isWord x = true) (h2 : ∀ y ∈ ys, isProp y = true) : wrdN (xs ++ ys) = xs.length := by
  unfold wrdN
  induction xs with
  | nil =>
    cases ys with
    | nil => rfl
    | cons y ys => rw [List.nil_append, List.takeWhile_cons, prop_word (h2 y (List.mem_cons_self ..))]; rfl
  | cons x xs ih =>
    rw [List.cons_append, List.takeWhile_cons, h1 x (List.mem_cons_self ..), if_pos rfl, List.length_cons, List.length_cons, ih (fun z hz => h1 z (List.mem_cons_of_mem _ hz))]
theorem decl_okv {ts r : List Token} {x : Node} (hg : good ts) (ho : okTs ts) (h : declP ts = .ok (x, r)) : isDecl x = true := by
  unfold declP at h
  split at h
  · cases h
  · rename_i t r1 he
    obtain ⟨h1, h2⟩ := name_okv hg ho he
    split at h
    · cases h
    · rename_i xs r2 he2
      have h3 := many_okv wordP_ok (fun hg ho h => (word_ok hg ho h).1) _ h2.2.1 (okTs_ad ho h2) he2
      have h4 := many_ok wordP_ok h2.2.1 he2
      split at h
      · cases h
      · rename_i ys r3 he3
        cases h
        have h5 := many_okv propP_ok prop_okv _ h4.2.1 (okTs_ad (okTs_ad ho h2) h4) he3
        unfold isDecl
        simp only [decide_true, Bool.true_and, Bool.and_eq_true, decide_eq_true_eq, h1]
        refine ⟨⟨trivial, trivial⟩, fun j hj hw => ?_⟩
        rw [wrdN_split h3 h5] at hw
        rw [List.length_append] at hj
        rw [List.getD_eq_getElem?_getD, List.getElem?_append_right hw, List.getElem?_eq_getElem (by omega)]
        exact h5 _ (List.getElem_mem _)
theorem file_okv : ∀ (f : Nat) {ts r : List Token} {xs : List Node}, good ts → okTs ts → fileP f ts = .ok (xs, r) → ∀ x ∈ xs, isDecl x = true
  | 0, _, _, _, _, _, h => by rw [fileP] at h; cases h
  | f + 1, ts, r, xs, hg, ho, h => by
    rw [fileP] at h
    split at h
    · cases h; intro x hx; cases hx
    · split at h
      · cases h
      · rename_i x r1 he
        have h1 := declP_ok hg he
        split at h
        · cases h
        · rename_i ys r2 he2
          cases h
          have h2 := file_okv f h1.2.1 (okTs_ad ho h1) he2
          intro y hy
          rcases List.mem_cons.1 hy with rfl | hy
          · exact decl_okv hg ho he
          · exact h2 y hy
theorem fileN_okv {ts r : List Token} {x : Node} (hg : good ts) (ho : okTs ts) (h : fileN ts = .ok (x, r)) : right x = true := by
  unfold fileN at h
  split at h
  · cases h
  · rename_i xs r1 he
    cases h
    have h1 := file_okv _ hg ho he
    unfold right
    simp only [decide_true, Bool.true_and, decide_eq_true_eq]
    simp only [true_and, decide_true, Bool.true_and, decide_eq_true_eq]
    intro j hj
    rw [List.getD_eq_getElem?_getD, List.getElem?_eq_getElem hj]
    exact h1 _ (List.getElem_mem _)
end Pa
