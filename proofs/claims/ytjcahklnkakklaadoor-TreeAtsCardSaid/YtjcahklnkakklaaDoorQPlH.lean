/- A source that is cut at the offset of an error. Conditions: those of each theorem. -/
import Derived.Test.YtjcahklnkakklaaDoorQPlG
namespace Pa
open Bt
def endT (b : Int) : Token := ⟨4, [], b⟩
def cut (b : Int) (ts : List Token) : List Token := ts.takeWhile (fun t => decide (t.At < b)) ++ [endT b]
def asc (ts : List Token) : Prop := ts.Pairwise fun x y => x.At < y.At
theorem cut_ge {b : Int} {ts : List Token} (h : b ≤ (pk ts).At ∨ ts = []) : cut b ts = [endT b] := by
  cases ts with
  | nil => rfl
  | cons t r =>
    have h : b ≤ t.At := h.elim id (fun h => by cases h)
    unfold cut
    rw [List.takeWhile_cons, decide_eq_false (by omega)]; rfl
theorem cut_cons {b : Int} {t : Token} {r : List Token} (h : t.At < b) : cut b (t :: r) = t :: cut b r := by
  unfold cut
  rw [List.takeWhile_cons, decide_eq_true h]; rfl
theorem cut_lt {b : Int} {ts : List Token} (hg : good ts) (h : (pk ts).At < b) : pk (cut b ts) = pk ts ∧ (cut b ts).tail = cut b ts.tail ∧ (cut b ts).length = (cut b ts.tail).length + 1 := by
  cases ts with
  | nil => exact (hg : False).elim
  | cons t r => rw [cut_cons (show t.At < b from h)]; exact ⟨rfl, rfl, rfl⟩
theorem cut_pos (b : Int) (ts : List Token) : 1 ≤ (cut b ts).length := by unfold cut; simp
theorem takeWhile_len {α : Type} {p : α → Bool} : ∀ {l : List α} (pre : List α), (∀ x ∈ pre, p x = true) → (l.takeWhile p).length ≤ ((pre ++ l).takeWhile p).length
  | l, [], _ => Nat.le_refl _
  | l, x :: pre, h => by
    rw [List.cons_append, List.takeWhile_cons, h x (List.mem_cons_self ..), if_pos rfl, List.length_cons]
    have := takeWhile_len (l := l) pre (fun y hy => h y (List.mem_cons_of_mem _ hy))
    omega
/-- what remains is not longer, if its head lies ahead of the cut -/
theorem cut_len {b : Int} {ts r : List Token} (ha : asc ts) (h : r <:+ ts) (hb : (pk r).At ≤ b) (hg : good r) : (cut b r).length ≤ (cut b ts).length := by
  obtain ⟨pre, rfl⟩ := h
  unfold cut
  rw [List.length_append, List.length_append]
  have := takeWhile_len (p := fun t : Token => decide (t.At < b)) (l := r) pre (fun x hx => by
    have := (List.pairwise_append.1 ha).2.2 x hx (pk r) (pk_mem hg)
    exact decide_eq_true (by omega))
  omega
theorem asc_suf {ts r : List Token} (h : asc ts) (hs : r <:+ ts) : asc r := List.Pairwise.sublist hs.sublist h
theorem asc_pk {ts : List Token} (hg : good ts) (h : asc ts) {t : Token} (ht : t ∈ ts) : (pk ts).At ≤ t.At := by
  cases ts with
  | nil => exact (hg : False).elim
  | cons u r =>
    rcases List.mem_cons.1 ht with rfl | ht
    · exact Int.le_refl _
    · exact Int.le_of_lt ((List.pairwise_cons.1 h).1 t ht)
theorem ad_lt {ts r : List Token} (h : asc ts) (ha : Ad ts r) : (pk ts).At < (pk r).At := by
  obtain ⟨hs, hg, hl⟩ := ha
  cases ts with
  | nil => simp at hl
  | cons u q =>
    have hr : r <:+ q := by
      rcases List.suffix_cons_iff.1 hs with rfl | h1
      · simp at hl
      · exact h1
    exact (List.pairwise_cons.1 h).1 _ (hr.subset (pk_mem hg))
theorem suf_of_ad {ts r : List Token} (h : Ad ts r) : r <:+ ts.tail := by
  obtain ⟨hs, hg, hl⟩ := h
  cases ts with
  | nil => simp at hl
  | cons u q =>
    rcases List.suffix_cons_iff.1 hs with rfl | h1
    · simp at hl
    · exact h1
theorem err_lt {ts : List Token} {e : Er} (hg : good ts) (h : asc ts) (he : Err ts e) : (pk ts).At ≤ e.2 := by
  obtain ⟨_, t, h1, h2⟩ := he
  rw [← h2]; exact asc_pk hg h h1
theorem cut_isS {b : Int} {ts : List Token} (hg : good ts) (c : List UInt8) : isS c (cut b ts) = (decide ((pk ts).At < b) && isS c ts) := by
  by_cases h : (pk ts).At < b
  · rw [decide_eq_true h, Bool.true_and]
    unfold isS
    rw [(cut_lt hg h).1]
  · rw [decide_eq_false h, Bool.false_and, cut_ge (.inl (by omega))]; rfl
/-- what is read ahead of the cut is read in the cut list too; an ErrForm at the cut stays -/
def SimR {α : Type} (b : Int) (ts : List Token) (x y : R α) : Prop :=
  (∀ a r, x = .ok (a, r) → (pk r).At ≤ b → y = .ok (a, cut b r)) ∧ (x = .error (2, b) → y = .error (2, b))
theorem end_fail {α : Type} {b : Int} : (fail [endT b] : R α) = .error (2, b) := rfl
theorem end_name {b : Int} : nameP [endT b] = .error (2, b) := by unfold nameP; rw [if_neg (show ¬ (pk [endT b]).Kind = 0 from show ¬ (4 : Int) = 0 by decide)]; rfl
theorem end_word {b : Int} : wordP [endT b] = .error (2, b) := by unfold wordP; rw [if_neg (show ¬ (pk [endT b]).Kind = 0 from show ¬ (4 : Int) = 0 by decide), if_neg (show ¬ (pk [endT b]).Kind = 2 from show ¬ (4 : Int) = 2 by decide)]; rfl
theorem end_val {b : Int} (f g : Nat) : valP (f + 1) g [endT b] = .error (2, b) := by
  rw [valP, if_neg (show ¬ (pk [endT b]).Kind = 1 from show ¬ (4 : Int) = 1 by decide), if_neg (by rw [isS_not (show (pk [endT b]).Kind ≠ 3 from show (4 : Int) ≠ 3 by decide)]; simp), end_word]
theorem fail_cut {α : Type} {b : Int} {ts : List Token} (h : (fail ts : R α) = .error (2, b)) : (pk ts).At = b := by
  unfold fail at h; injection h with h; injection h
theorem name_sim {b : Int} {ts : List Token} (hg : good ts) (ha : asc ts) : SimR b ts (nameP ts) (nameP (cut b ts)) := by
  refine ⟨fun t r h hb => ?_, fun h => ?_⟩
  · have hlt := ad_lt ha (nameP_ok hg h).1
    obtain ⟨h1, h2, _⟩ := cut_lt hg (show (pk ts).At < b by omega)
    unfold nameP at h ⊢
    rw [h1, h2]
    split at h
    · rename_i hk; cases h; rw [if_pos hk]
    · cases h
  · unfold nameP at h
    split at h
    · cases h
    · rw [cut_ge (.inl (by rw [fail_cut h]; omega)), end_name]
theorem word_sim {b : Int} {ts : List Token} (hg : good ts) (ha : asc ts) : SimR b ts (wordP ts) (wordP (cut b ts)) := by
  refine ⟨fun t r h hb => ?_, fun h => ?_⟩
  · have hlt := ad_lt ha (wordP_ok hg h)
    obtain ⟨h1, h2, _⟩ := cut_lt hg (show (pk ts).At < b by omega)
    unfold wordP at h ⊢
    rw [h1, h2]
    split at h
    · rename_i hk; cases h; rw [if_pos hk]
    · rename_i hk
      rw [if_neg hk]
      split at h
      · rename_i hk2; cases h; rw [if_pos hk2]
      · cases h
  · unfold wordP at h
    split at h
    · cases h
    · split at h
      · cases h
      · rw [cut_ge (.inl (by rw [fail_cut h]; omega)), end_word]
theorem unit_sim {b : Int} {ts : List Token} (hg : good ts) (ha : asc ts) (hb : (pk (unitRest ts)).At ≤ b) : unitOf (cut b ts) = unitOf ts ∧ unitRest (cut b ts) = cut b (unitRest ts) := by
  by_cases h : (pk ts).At < b
  · obtain ⟨h1, h2, _⟩ := cut_lt hg h
    unfold unitOf unitRest
    rw [h1, h2]
    refine ⟨rfl, ?_⟩
    split <;> rfl
  · have hn : ¬ ((pk ts).Kind = 0 ∧ isUnit (pk ts).Text = true) := fun hu => by
      unfold unitRest at hb
      rw [if_pos hu] at hb
      have := ad_lt ha (ad_tail hg (by omega))
      omega
    have he : ¬ ((pk [endT b]).Kind = 0 ∧ isUnit (pk [endT b]).Text = true) := fun hu => absurd (show (4 : Int) = 0 from hu.1) (by decide)
    unfold unitOf unitRest
    rw [cut_ge (.inl (by omega)), if_neg hn, if_neg hn, if_neg he, if_neg he, cut_ge (.inl (by omega))]
    exact ⟨rfl, rfl⟩
theorem amt_sim {b : Int} {ts : List Token} (hg : good ts) (ha : asc ts) (hk : (pk ts).Kind = 1) : ∀ a r, amtP ts = .ok (a, r) → (pk r).At ≤ b → amtP (cut b ts) = .ok (a, cut b r) := by
  intro a r h hb
  have hlt := ad_lt ha (amtP_ok hg hk h)
  obtain ⟨h1, h2, _⟩ := cut_lt hg (show (pk ts).At < b by omega)
  have h0 := ad_tail hg (by omega)
  unfold amtP at h ⊢
  simp only [] at h ⊢
  rw [h1, h2]
  split at h
  · rename_i h9
    cases h
    obtain ⟨h3, h4⟩ := unit_sim h0.2.1 (asc_suf ha h0.1) hb
    rw [h3, h4, if_pos h9]
  · cases h
theorem vg_sim (b : Int) : ∀ f : Nat, (∀ (g : Nat) (ts : List Token) (f' : Nat), good ts → asc ts → 2 * ts.length ≤ f → 2 * (cut b ts).length ≤ f' → SimR b ts (valP f g ts) (valP f' g (cut b ts))) ∧
    (∀ (g : Nat) (ts : List Token) (f' : Nat), good ts → asc ts → 2 * ts.length + 1 ≤ f → 2 * (cut b ts).length + 1 ≤ f' → SimR b ts (grpP f g ts) (grpP f' g (cut b ts)))
  | 0 => ⟨fun g ts f' hg _ hf _ => by have := List.length_pos_iff.2 (good_ne hg); omega, fun g ts f' hg _ hf _ => by omega⟩
  | f + 1 => by
    obtain ⟨ih1, ih2⟩ := vg_sim b f
    refine ⟨fun g ts f' hg ha hf hf' => ?_, fun g ts f' hg ha hf hf' => ?_⟩
    · have hcp := cut_pos b ts
      obtain ⟨f', rfl⟩ : ∃ q, f' = q + 1 := ⟨f' - 1, by omega⟩
      by_cases hlt : (pk ts).At < b
      · obtain ⟨h1, h2, h3⟩ := cut_lt hg hlt
        rw [valP, valP, h1, h2, cut_isS hg, decide_eq_true hlt, Bool.true_and]
        split
        · rename_i hk
          refine ⟨amt_sim hg ha hk, fun h => ?_⟩
          unfold amtP at h
          simp only [] at h
          split at h
          · cases h
          · injection h with h; injection h with h; omega
        · split
          · rename_i hs
            have h0 := ad_sign hg hs
            split
            · exact ⟨fun a r h => (by cases h), fun h => (by injection h with h; injection h with h; omega)⟩
            · have hl := h0.2.2
              obtain ⟨s1, s2⟩ := ih2 (g + 1) ts.tail f' h0.2.1 (asc_suf ha h0.1) (by omega) (by omega)
              refine ⟨fun a r h hb => ?_, fun h => ?_⟩
              · split at h
                · cases h
                · rename_i xs r' he
                  cases h
                  rw [s1 _ _ he hb]
              · split at h
                · rename_i e he
                  cases h
                  rw [s2 he]
                · cases h
          · exact word_sim hg ha
      · rw [cut_ge (.inl (by omega)), end_val]
        refine ⟨fun a r h hb => ?_, fun _ => rfl⟩
        have := ad_lt ha (valP_ok hg h)
        omega
    · have hcp := cut_pos b ts
      obtain ⟨f', rfl⟩ : ∃ q, f' = q + 1 := ⟨f' - 1, by omega⟩
      obtain ⟨v1, v2⟩ := ih1 g ts f' hg ha (by omega) (by omega)
      rw [grpP, grpP]
      refine ⟨fun a r h hb => ?_, fun h => ?_⟩
      · split at h
        · cases h
        · rename_i x r1 he
          have h1 := valP_ok hg he
          have ha1 := asc_suf ha h1.1
          split at h
          · rename_i hs
            cases h
            have h3 := ad_lt ha1 (ad_sign h1.2.1 hs)
            obtain ⟨_, c2, _⟩ := cut_lt h1.2.1 (show (pk r1).At < b by omega)
            rw [v1 _ _ he (by omega)]
            simp only []
            rw [cut_isS h1.2.1, decide_eq_true (show (pk r1).At < b by omega), hs, if_pos (by decide), c2]
          · rename_i hs1
            split at h
            · rename_i hs
              have h3 := ad_sign h1.2.1 hs
              have h4 := ad_lt ha1 h3
              split at h
              · cases h
              · rename_i xs r2 he2
                cases h
                have h5 := ad_lt (asc_suf ha1 h3.1) ((val_grp_ok f).2 g _ _ _ h3.2.1 he2)
                obtain ⟨_, c2, c3⟩ := cut_lt h1.2.1 (show (pk r1).At < b by omega)
                have hl1 := h1.2.2
                have hl3 := h3.2.2
                have hcl := cut_len (b := b) ha h1.1 (by omega) h1.2.1
                obtain ⟨g1, _⟩ := ih2 g r1.tail f' h3.2.1 (asc_suf ha1 h3.1) (by omega) (by omega)
                rw [v1 _ _ he (by omega)]
                simp only []
                rw [cut_isS h1.2.1, cut_isS h1.2.1, decide_eq_true (show (pk r1).At < b by omega), if_neg (by simpa using hs1), hs, if_pos (by decide), c2, g1 _ _ he2 hb]
            · cases h
      · split at h
        · rename_i e he
          cases h
          rw [v2 he]
        · rename_i x r1 he
          have h1 := valP_ok hg he
          have ha1 := asc_suf ha h1.1
          split at h
          · cases h
          · rename_i hs1
            split at h
            · rename_i hs
              have h3 := ad_sign h1.2.1 hs
              have h4 := ad_lt ha1 h3
              split at h
              · rename_i e he2
                cases h
                have hl1 := h1.2.2
                have hl3 := h3.2.2
                have h5 := err_lt h3.2.1 (asc_suf ha1 h3.1) ((vg_err f).2 g _ _ h3.2.1 (by omega) he2)
                simp only [] at h5
                obtain ⟨_, c2, c3⟩ := cut_lt h1.2.1 (show (pk r1).At < b by omega)
                have hcl := cut_len (b := b) ha h1.1 (by omega) h1.2.1
                obtain ⟨_, g2⟩ := ih2 g r1.tail f' h3.2.1 (asc_suf ha1 h3.1) (by omega) (by omega)
                rw [v1 _ _ he (by omega)]
                simp only []
                rw [cut_isS h1.2.1, cut_isS h1.2.1, decide_eq_true (show (pk r1).At < b by omega), if_neg (by simpa using hs1), hs, if_pos (by decide), c2, g2 he2]
              · cases h
            · have hb := fail_cut h
              rw [v1 _ _ he (by omega)]
              simp only []
              rw [cut_isS h1.2.1, cut_isS h1.2.1, decide_eq_false (show ¬ (pk r1).At < b by omega), if_neg (by simp), if_neg (by simp), cut_ge (.inl (by omega)), end_fail]
theorem val0_sim {b : Int} {ts : List Token} (hg : good ts) (ha : asc ts) : SimR b ts (val0 ts) (val0 (cut b ts)) := (vg_sim b _).1 0 ts _ hg ha (Nat.le_refl _) (Nat.le_refl _)
theorem many_sim {b : Int} {c : List UInt8} {p : List Token → R Node} (hp : ∀ {ts r x}, good ts → p ts = .ok (x, r) → Ad ts r) (hq : ∀ {ts e}, good ts → p ts = .error e → Err ts e) (hs : ∀ {ts}, good ts → asc ts → SimR b ts (p ts) (p (cut b ts))) :
    ∀ (f : Nat) (ts : List Token) (f' : Nat), good ts → asc ts → ts.length ≤ f → (cut b ts).length ≤ f' → SimR b ts (many c p f ts) (many c p f' (cut b ts))
  | 0, ts, f', hg, _, hf, _ => by have := List.length_pos_iff.2 (good_ne hg); omega
  | f + 1, ts, f', hg, ha, hf, hf' => by
    have hcp := cut_pos b ts
    obtain ⟨f', rfl⟩ : ∃ q, f' = q + 1 := ⟨f' - 1, by omega⟩
    rw [many, many]
    refine ⟨fun a r h hb => ?_, fun h => ?_⟩
    · split at h
      · rename_i hs1
        cases h
        have h3 := ad_lt ha (ad_sign hg hs1)
        obtain ⟨_, c2, _⟩ := cut_lt hg (show (pk ts).At < b by omega)
        rw [cut_isS hg, decide_eq_true (show (pk ts).At < b by omega), hs1, if_pos (by decide), c2]
      · rename_i hs1
        split at h
        · cases h
        · rename_i x r1 he
          have h1 := hp hg he
          have ha1 := asc_suf ha h1.1
          split at h
          · cases h
          · rename_i ys r2 he2
            cases h
            have h5 := ad_lt ha1 (many_ok hp h1.2.1 he2)
            have h6 := ad_lt ha h1
            have hl1 := h1.2.2
            obtain ⟨_, c2, c3⟩ := cut_lt hg (show (pk ts).At < b by omega)
            have hcl := cut_len (b := b) (asc_suf ha (List.tail_suffix _)) (suf_of_ad h1) (by omega) h1.2.1
            obtain ⟨g1, _⟩ := many_sim hp hq hs f r1 f' h1.2.1 ha1 (by omega) (by omega)
            rw [cut_isS hg, if_neg (by simp [hs1]), (hs hg ha).1 _ _ he (by omega)]
            simp only []
            rw [g1 _ _ he2 hb]
    · split at h
      · cases h
      · rename_i hs1
        rw [cut_isS hg, if_neg (by simp [hs1])]
        split at h
        · rename_i e he
          cases h
          rw [(hs hg ha).2 he]
        · rename_i x r1 he
          have h1 := hp hg he
          have ha1 := asc_suf ha h1.1
          split at h
          · rename_i e he2
            cases h
            have hl1 := h1.2.2
            have h5 := err_lt h1.2.1 ha1 (many_err hp hq f h1.2.1 (by omega) he2)
            have h6 := ad_lt ha h1
            simp only [] at h5
            obtain ⟨_, c2, c3⟩ := cut_lt hg (show (pk ts).At < b by omega)
            have hcl := cut_len (b := b) (asc_suf ha (List.tail_suffix _)) (suf_of_ad h1) (by omega) h1.2.1
            obtain ⟨_, g2⟩ := many_sim hp hq hs f r1 f' h1.2.1 ha1 (by omega) (by omega)
            rw [(hs hg ha).1 _ _ he (by omega)]
            simp only []
            rw [g2 he2]
          · cases h
theorem prop_sim {b : Int} {ts : List Token} (hg : good ts) (ha : asc ts) : SimR b ts (propP ts) (propP (cut b ts)) := by
  unfold propP
  refine ⟨fun a r h hb => ?_, fun h => ?_⟩
  · split at h
    · cases h
    · rename_i t r1 he
      have h1 := (nameP_ok hg he).1
      have ha1 := asc_suf ha h1.1
      split at h
      · cases h
      · rename_i xs r2 he2
        cases h
        have h5 := ad_lt ha1 (many_ok val0_ok h1.2.1 he2)
        rw [(name_sim hg ha).1 _ _ he (by omega)]
        simp only []
        rw [(many_sim val0_ok val0_err val0_sim _ r1 _ h1.2.1 ha1 (Nat.le_refl _) (Nat.le_refl _)).1 _ _ he2 hb]
  · split at h
    · rename_i e he
      cases h
      rw [(name_sim hg ha).2 he]
    · rename_i t r1 he
      have h1 := (nameP_ok hg he).1
      have ha1 := asc_suf ha h1.1
      split at h
      · rename_i e he2
        cases h
        have h5 := err_lt h1.2.1 ha1 (many_err val0_ok val0_err _ h1.2.1 (Nat.le_refl _) he2)
        simp only [] at h5
        rw [(name_sim hg ha).1 _ _ he (by omega)]
        simp only []
        rw [(many_sim val0_ok val0_err val0_sim _ r1 _ h1.2.1 ha1 (Nat.le_refl _) (Nat.le_refl _)).2 he2]
      · cases h
theorem decl_sim {b : Int} {ts : List Token} (hg : good ts) (ha : asc ts) : SimR b ts (declP ts) (declP (cut b ts)) := by
  unfold declP
  refine ⟨fun a r h hb => ?_, fun h => ?_⟩
  · split at h
    · cases h
    · rename_i t r1 he
      have h1 := (nameP_ok hg he).1
      have ha1 := asc_suf ha h1.1
      split at h
      · cases h
      · rename_i xs r2 he2
        have h2 := many_ok wordP_ok h1.2.1 he2
        have ha2 := asc_suf ha1 h2.1
        have h5 := ad_lt ha1 h2
        split at h
        · cases h
        · rename_i ys r3 he3
          cases h
          have h6 := ad_lt ha2 (many_ok propP_ok h2.2.1 he3)
          rw [(name_sim hg ha).1 _ _ he (by omega)]
          simp only []
          rw [(many_sim wordP_ok wordP_err word_sim _ r1 _ h1.2.1 ha1 (Nat.le_refl _) (Nat.le_refl _)).1 _ _ he2 (by omega)]
          simp only []
          rw [(many_sim propP_ok propP_err prop_sim _ r2 _ h2.2.1 ha2 (Nat.le_refl _) (Nat.le_refl _)).1 _ _ he3 hb]
  · split at h
    · rename_i e he
      cases h
      rw [(name_sim hg ha).2 he]
    · rename_i t r1 he
      have h1 := (nameP_ok hg he).1
      have ha1 := asc_suf ha h1.1
      split at h
      · rename_i e he2
        cases h
        have h5 := err_lt h1.2.1 ha1 (many_err wordP_ok wordP_err _ h1.2.1 (Nat.le_refl _) he2)
        simp only [] at h5
        rw [(name_sim hg ha).1 _ _ he (by omega)]
        simp only []
        rw [(many_sim wordP_ok wordP_err word_sim _ r1 _ h1.2.1 ha1 (Nat.le_refl _) (Nat.le_refl _)).2 he2]
      · rename_i xs r2 he2
        have h2 := many_ok wordP_ok h1.2.1 he2
        have ha2 := asc_suf ha1 h2.1
        have h5 := ad_lt ha1 h2
        split at h
        · rename_i e he3
          cases h
          have h6 := err_lt h2.2.1 ha2 (many_err propP_ok propP_err _ h2.2.1 (Nat.le_refl _) he3)
          simp only [] at h6
          rw [(name_sim hg ha).1 _ _ he (by omega)]
          simp only []
          rw [(many_sim wordP_ok wordP_err word_sim _ r1 _ h1.2.1 ha1 (Nat.le_refl _) (Nat.le_refl _)).1 _ _ he2 (by omega)]
          simp only []
          rw [(many_sim propP_ok propP_err prop_sim _ r2 _ h2.2.1 ha2 (Nat.le_refl _) (Nat.le_refl _)).2 he3]
        · cases h
theorem file_sim {b : Int} : ∀ (f : Nat) (ts : List Token) (f' : Nat), good ts → asc ts → ts.length ≤ f → (cut b ts).length ≤ f' → fileP f ts = .error (2, b) → fileP f' (cut b ts) = .error (2, b) ∨ ∃ ys r, fileP f' (cut b ts) = .ok (ys, r)
  | 0, ts, f', hg, _, hf, _, _ => by have := List.length_pos_iff.2 (good_ne hg); omega
  | f + 1, ts, f', hg, ha, hf, hf', h => by
    have hcp := cut_pos b ts
    obtain ⟨f', rfl⟩ : ∃ q, f' = q + 1 := ⟨f' - 1, by omega⟩
    by_cases hlt : (pk ts).At < b
    · obtain ⟨c1, c2, c3⟩ := cut_lt hg hlt
      rw [fileP] at h ⊢
      rw [c1]
      split at h
      · cases h
      · rename_i hk
        rw [if_neg hk]
        split at h
        · rename_i e he
          cases h
          rw [(decl_sim hg ha).2 he]
          exact .inl rfl
        · rename_i x r1 he
          have h1 := declP_ok hg he
          have ha1 := asc_suf ha h1.1
          have hl1 := h1.2.2
          split at h
          · rename_i e he2
            cases h
            have h5 := err_lt h1.2.1 ha1 (fileP_err f h1.2.1 (by omega) he2)
            simp only [] at h5
            have hcl := cut_len (b := b) (asc_suf ha (List.tail_suffix _)) (suf_of_ad h1) (by omega) h1.2.1
            rw [(decl_sim hg ha).1 _ _ he (by omega)]
            simp only []
            rcases file_sim f r1 f' h1.2.1 ha1 (by omega) (by omega) he2 with h6 | ⟨ys, r, h6⟩
            · rw [h6]; exact .inl rfl
            · rw [h6]; exact .inr ⟨_, _, rfl⟩
          · cases h
    · rw [cut_ge (.inl (by omega)), fileP, if_pos (show (pk [endT b]).Kind = 4 from rfl)]
      exact .inr ⟨_, _, rfl⟩
theorem parse_cut {b : Int} {ts : List Token} (hg : good ts) (ha : asc ts) (h : (parseT ts).2 = (2, b)) : (parseT (cut b ts)).2.1 = 0 ∨ (parseT (cut b ts)).2 = (2, b) := by
  unfold parseT fileN at h
  split at h
  · rename_i e he
    have he2 : e = (2, b) := h
    subst he2
    split at he
    · rename_i e' he'
      cases he
      have hl : (cut b ts).length ≤ (cut b ts).length + 1 := Nat.le_succ _
      unfold parseT fileN
      rcases file_sim _ ts ((cut b ts).length + 1) hg ha (Nat.le_succ _) hl he' with h6 | ⟨ys, r, h6⟩
      · rw [h6]; exact .inr rfl
      · rw [h6]; exact .inl rfl
    · cases he
  · simp at h
end Pa
namespace Lx
theorem skp_take : ∀ (c : Bool) (l : List UInt8) (m : Nat), skp c l ≤ m → skp c (l.take m) = skp c l
  | true, [], m, _ => by simp
  | false, [], m, _ => by simp
  | true, x :: l, m, h => by
    cases m with
    | zero => unfold skp at h; split at h <;> omega
    | succ m =>
      rw [List.take_succ_cons]
      unfold skp at h ⊢
      split at h
      · rename_i hx; rw [if_pos hx, if_pos hx, skp_take false l m (by omega)]
      · rename_i hx; rw [if_neg hx, if_neg hx, skp_take true l m (by omega)]
  | false, x :: l, m, h => by
    cases m with
    | zero =>
      unfold skp at h
      split at h
      · omega
      · split at h
        · omega
        · rename_i h1 h2
          simp [skp, h1, h2]
    | succ m =>
      rw [List.take_succ_cons]
      unfold skp at h ⊢
      split at h
      · rename_i hx; rw [if_pos hx, if_pos hx, skp_take false l m (by omega)]
      · rename_i hx
        rw [if_neg hx, if_neg hx]
        split at h
        · rename_i hx2; rw [if_pos hx2, if_pos hx2, skp_take true l m (by omega)]
        · rename_i hx2; rw [if_neg hx2, if_neg hx2]
theorem txt_take {l : List UInt8} {m : Nat} (h0 : l ≠ []) (hok : (tk l).2.2.2.2 = true) (hl : (tk l).2.2.2.1 ≤ m) : txt (l.take m) = txt l := by
  have hi := tk_in hok
  unfold txt
  rw [tk_take h0 hok hl, List.drop_take, List.take_take, Nat.min_eq_left (by omega)]
end Lx
namespace Pa
open Bt
theorem stm_head {s : List UInt8} {a : Nat} {t : Token} (ha : a ≤ s.length) : ∀ {n : Nat}, t ∈ (Lx.stm n s a).map (·.1) → (a : Int) ≤ t.At ∧ t.At ≤ s.length := by
  intro n
  induction n generalizing a with
  | zero => intro ht; rw [Lx.stm] at ht; cases ht
  | succ n ih =>
    intro ht
    rw [Lx.stm] at ht
    split at ht
    · rename_i hlt
      rw [List.map_cons] at ht
      rcases List.mem_cons.1 ht with rfl | ht
      · exact ⟨Int.le_refl _, by simp only []; omega⟩
      · split at ht
        · rename_i hk
          have hld : (s.drop a).length = s.length - a := List.length_drop
          obtain ⟨h1, h2⟩ := Lx.tk_ok (l := s.drop a) (by omega) hk
          have h3 := Lx.skp_le false (s.drop (a + (Lx.tk (s.drop a)).2.2.2.1))
          rw [List.length_drop] at h3
          obtain ⟨h4, h5⟩ := ih (a := a + (Lx.tk (s.drop a)).2.2.2.1 + Lx.skp false (s.drop (a + (Lx.tk (s.drop a)).2.2.2.1))) (by omega) ht
          exact ⟨by omega, h5⟩
        · cases ht
    · have ht' := List.mem_singleton.1 ht
      subst ht'
      exact ⟨by simp only []; omega, by simp only []; omega⟩
theorem stm_asc {s : List UInt8} : ∀ (n a : Nat), a ≤ s.length → asc ((Lx.stm n s a).map (·.1))
  | 0, _, _ => by rw [Lx.stm]; exact List.Pairwise.nil
  | n + 1, a, ha => by
    rw [Lx.stm]
    split
    · rename_i hlt
      rw [List.map_cons]
      split
      · rename_i hk
        have hld : (s.drop a).length = s.length - a := List.length_drop
        obtain ⟨h1, h2⟩ := Lx.tk_ok (l := s.drop a) (by omega) hk
        have h3 := Lx.skp_le false (s.drop (a + (Lx.tk (s.drop a)).2.2.2.1))
        rw [List.length_drop] at h3
        refine List.pairwise_cons.2 ⟨fun t ht => ?_, stm_asc n _ (by omega)⟩
        have := (stm_head (n := n) (by omega) ht).1
        simp only []; omega
      · exact List.pairwise_singleton _ _
    · exact List.pairwise_singleton _ _
theorem stm_cut {s : List UInt8} {k : Nat} (hk : k ≤ s.length) : ∀ (n a n' : Nat), s.length - a < n → a ≤ k → k - a < n' → (∀ x ∈ Lx.stm n s a, x.2 = true) → (∃ t ∈ (Lx.stm n s a).map (·.1), t.At = (k : Int)) →
    (Lx.stm n' (s.take k) a).map (·.1) = cut k ((Lx.stm n s a).map (·.1)) ∧ ∀ x ∈ Lx.stm n' (s.take k) a, x.2 = true
  | 0, _, _, h, _, _, _, _ => by omega
  | n + 1, a, n' + 1, h, ha, hn', hall, hex => by
    have hsl : (s.take k).length = k := by rw [List.length_take]; omega
    by_cases hak : a = k
    · subst hak
      rw [Lx.stm_end (by omega), hsl]
      refine ⟨?_, fun x hx => by rw [List.mem_singleton.1 hx]⟩
      have hpk : (a : Int) ≤ (pk ((Lx.stm (n + 1) s a).map (·.1))).At := by
        rw [Lx.stm]
        split
        · exact Int.le_refl _
        · show (a : Int) ≤ (s.length : Int)
          omega
      rw [cut_ge (.inl hpk)]; rfl
    · have hlt : a < s.length := by omega
      cases hkk : (Lx.tk (s.drop a)).2.2.2.2 with
      | false =>
        rw [Lx.stm_bad hlt hkk] at hall
        have := hall _ (List.mem_singleton.2 rfl)
        cases this
      | true =>
        rw [Lx.stm_tok hlt hkk] at hall hex ⊢
        have hld : (s.drop a).length = s.length - a := List.length_drop
        obtain ⟨h1, h2⟩ := Lx.tk_ok (l := s.drop a) (by omega) hkk
        have h3 := Lx.skp_le false (s.drop (a + (Lx.tk (s.drop a)).2.2.2.1))
        rw [List.length_drop] at h3
        rw [List.map_cons] at hex
        obtain ⟨t, ht, hta⟩ := hex
        rcases List.mem_cons.1 ht with rfl | ht
        · simp only [] at hta; omega
        · have hle := (stm_head (n := n) (by omega) ht).1
          have hne : s.drop a ≠ [] := fun h9 => by rw [h9] at hld; simp at hld; omega
          have hd : (s.take k).drop a = (s.drop a).take (k - a) := List.drop_take ..
          have htk : Lx.tk ((s.take k).drop a) = Lx.tk (s.drop a) := by rw [hd]; exact Lx.tk_take hne hkk (by omega)
          have htx : Lx.txt ((s.take k).drop a) = Lx.txt (s.drop a) := by rw [hd]; exact Lx.txt_take hne hkk (by omega)
          have hsk : Lx.skp false ((s.take k).drop (a + (Lx.tk (s.drop a)).2.2.2.1)) = Lx.skp false (s.drop (a + (Lx.tk (s.drop a)).2.2.2.1)) := by
            rw [List.drop_take]; exact Lx.skp_take _ _ _ (by omega)
          obtain ⟨g1, g2⟩ := stm_cut hk n (a + (Lx.tk (s.drop a)).2.2.2.1 + Lx.skp false (s.drop (a + (Lx.tk (s.drop a)).2.2.2.1))) n' (by omega) (by omega) (by omega) (fun x hx => hall x (List.mem_cons_of_mem _ hx)) ⟨t, ht, hta⟩
          rw [Lx.stm_tok (by omega) (by rw [htk]; exact hkk), htk, htx, hsk, List.map_cons, List.map_cons, cut_cons (by simp only []; omega), g1]
          refine ⟨rfl, fun x hx => ?_⟩
          rcases List.mem_cons.1 hx with rfl | hx
          · rfl
          · exact g2 x hx
/-- the errors of Parse, and the source that is cut at an ErrForm -/
theorem fails {s : List UInt8} (h : (parse s).2.1 ≠ 0) :
    (parse s).1 = default ∧ ((parse s).2.1 = 2 ∨ (parse s).2.1 = 7 ∨ (parse s).2.1 = 8) ∧
    ((Lx.scan s).2.1 ≠ 0 → (parse s).2.1 = (Lx.scan s).2.1 ∧ (parse s).2.2 = (Lx.scan s).2.2) ∧
    ((Lx.scan s).2.1 = 0 → (∃ t ∈ (Lx.scan s).1, t.At = (parse s).2.2) ∧ 0 ≤ (parse s).2.2 ∧ (parse s).2.2 ≤ s.length ∧
      ((parse s).2.1 = 2 → (parse (s.take (parse s).2.2.toNat)).2.1 = 0 ∨ (parse (s.take (parse s).2.2.toNat)).2 = (2, (parse s).2.2))) := by
  by_cases h0 : (Lx.scan s).2.1 = 0
  · obtain ⟨hg, hwf, _, hl, heq, hall⟩ := scan_good h0
    have hsk := Lx.skp_le false s
    have hasc : asc (Lx.scan s).1 := by rw [heq]; exact stm_asc _ _ hsk
    have hp : parse s = parseT (Lx.scan s).1 := by unfold parse; rw [if_pos h0]
    have hT : ∃ e, fileN (Lx.scan s).1 = .error e ∧ parse s = (default, e.1, e.2) := by
      rw [hp] at h ⊢
      unfold parseT at h ⊢
      split at h
      · rename_i e he; rw [he]; exact ⟨e, rfl, rfl⟩
      · exact absurd rfl h
    obtain ⟨e, he, hpe⟩ := hT
    have herr := fileN_err hg he
    rw [hpe]
    refine ⟨rfl, herr.1, fun h9 => absurd h0 h9, fun _ => ⟨herr.2, ?_⟩⟩
    obtain ⟨t, ht, hte⟩ := herr.2
    have ht2 : t ∈ (Lx.stm (s.length + 1) s (Lx.skp false s)).map (·.1) := by rw [heq] at ht; exact ht
    obtain ⟨hh1, hh2⟩ := stm_head hsk ht2
    simp only []
    refine ⟨by omega, by omega, fun he2 => ?_⟩
    have hk : ((e.2.toNat : Nat) : Int) = e.2 := by omega
    have hkl : e.2.toNat ≤ s.length := by omega
    obtain ⟨g1, g2⟩ := stm_cut hkl (s.length + 1) (Lx.skp false s) ((s.take e.2.toNat).length + 1) (by omega) (by omega) (by rw [List.length_take]; omega) hall ⟨t, ht2, by rw [hk]; exact hte⟩
    have hsk2 : Lx.skp false (s.take e.2.toNat) = Lx.skp false s := Lx.skp_take _ _ _ (by omega)
    have hsc : Lx.scan (s.take e.2.toNat) = (cut e.2 (Lx.scan s).1, 0, 0) := by
      have := Lx.scan_ok (s := s.take e.2.toNat) (by rw [List.length_take]; omega) (by unfold Lx.seqT; rw [hsk2]; exact g2)
      rw [this]
      unfold Lx.seqT
      rw [hsk2, g1, hk, heq]; rfl
    have hpc : parse (s.take e.2.toNat) = parseT (cut e.2 (Lx.scan s).1) := by unfold parse; rw [hsc]; rfl
    rw [hpc]
    refine parse_cut hg hasc ?_
    rw [← hp, hpe]
    exact Prod.ext he2 rfl
  · have hp : parse s = (default, (Lx.scan s).2.1, (Lx.scan s).2.2) := by unfold parse; rw [if_neg h0]
    rw [hp]
    refine ⟨rfl, ?_, fun _ => ⟨rfl, rfl⟩, fun h9 => absurd h9 h0⟩
    simp only []
    unfold Lx.scan at h0 ⊢
    split
    · exact .inr (.inr rfl)
    · split
      · exact .inl rfl
      · rename_i h1 _ h2
        rw [if_neg h1, h2] at h0; exact absurd rfl h0
end Pa
