/- What the parser reads from a source is right and is read again from its written form and from the tokens' written form. Conditions: those of each theorem. -/
import Derived.Test.YtjcahklnkakklaaDoorTPlF
namespace Pa
open Bt
/-- an error of the parser: its sort, and its place is a token's -/
def Err (ts : List Token) (e : Er) : Prop := (e.1 = 2 ∨ e.1 = 7 ∨ e.1 = 8) ∧ ∃ t ∈ ts, t.At = e.2
theorem pk_mem {ts : List Token} (hg : good ts) : pk ts ∈ ts := by
  cases ts with
  | nil => exact (hg : False).elim
  | cons t r => exact List.mem_cons_self ..
theorem Err.ad {ts r : List Token} {e : Er} (h : Err r e) (ha : Ad ts r) : Err ts e := ⟨h.1, let ⟨t, h1, h2⟩ := h.2; ⟨t, ha.1.subset h1, h2⟩⟩
theorem fail_err {α : Type} {ts : List Token} {e : Er} (hg : good ts) (h : (fail ts : R α) = .error e) : Err ts e := by
  unfold fail at h; cases h; exact ⟨.inl rfl, _, pk_mem hg, rfl⟩
theorem nameP_err {ts : List Token} {e : Er} (hg : good ts) (h : nameP ts = .error e) : Err ts e := by
  unfold nameP at h
  split at h
  · cases h
  · exact fail_err hg h
theorem wordP_err {ts : List Token} {e : Er} (hg : good ts) (h : wordP ts = .error e) : Err ts e := by
  unfold wordP at h
  split at h
  · cases h
  · split at h
    · cases h
    · exact fail_err hg h
theorem amtP_err {ts : List Token} {e : Er} (hg : good ts) (h : amtP ts = .error e) : Err ts e := by
  unfold amtP at h
  simp only [] at h
  split at h
  · cases h
  · cases h; exact ⟨.inr (.inl rfl), _, pk_mem hg, rfl⟩
theorem vg_err : ∀ f : Nat, (∀ (g : Nat) (ts : List Token) (e : Er), good ts → 2 * ts.length ≤ f → valP f g ts = .error e → Err ts e) ∧ (∀ (g : Nat) (ts : List Token) (e : Er), good ts → 2 * ts.length + 1 ≤ f → grpP f g ts = .error e → Err ts e)
  | 0 => ⟨fun g ts e hg hf _ => by have := List.length_pos_iff.2 (good_ne hg); omega, fun g ts e hg hf _ => by omega⟩
  | f + 1 => by
    obtain ⟨ih1, ih2⟩ := vg_err f
    refine ⟨fun g ts e hg hf h => ?_, fun g ts e hg hf h => ?_⟩
    · rw [valP] at h
      split at h
      · exact amtP_err hg h
      · split at h
        · rename_i hs
          have h0 := ad_sign hg hs
          split at h
          · cases h; exact ⟨.inr (.inr rfl), _, pk_mem hg, rfl⟩
          · split at h
            · rename_i e' he
              cases h
              have := h0.2.2
              exact (ih2 _ _ _ h0.2.1 (by omega) he).ad h0
            · cases h
        · exact wordP_err hg h
    · rw [grpP] at h
      split at h
      · rename_i e' he
        cases h
        exact ih1 _ _ _ hg (by omega) he
      · rename_i x r1 he
        have h1 := valP_ok hg he
        split at h
        · cases h
        · split at h
          · rename_i hs
            have h3 := h1.trans (ad_sign h1.2.1 hs)
            split at h
            · rename_i e' he2
              cases h
              have := h3.2.2
              exact (ih2 _ _ _ h3.2.1 (by omega) he2).ad h3
            · cases h
          · exact (fail_err h1.2.1 h).ad h1
theorem val0_err {ts : List Token} {e : Er} (hg : good ts) (h : val0 ts = .error e) : Err ts e := (vg_err _).1 _ _ _ hg (Nat.le_refl _) h
theorem many_err {c : List UInt8} {p : List Token → R Node} (hp : ∀ {ts r x}, good ts → p ts = .ok (x, r) → Ad ts r) (hq : ∀ {ts e}, good ts → p ts = .error e → Err ts e) : ∀ (f : Nat) {ts : List Token} {e : Er}, good ts → ts.length ≤ f → many c p f ts = .error e → Err ts e
  | 0, ts, _, hg, hf, _ => by have := List.length_pos_iff.2 (good_ne hg); omega
  | f + 1, ts, e, hg, hf, h => by
    rw [many] at h
    split at h
    · cases h
    · split at h
      · rename_i e' he
        cases h; exact hq hg he
      · rename_i x r1 he
        have h1 := hp hg he
        split at h
        · rename_i e' he2
          cases h
          have := h1.2.2
          exact (many_err hp hq f h1.2.1 (by omega) he2).ad h1
        · cases h
theorem propP_err {ts : List Token} {e : Er} (hg : good ts) (h : propP ts = .error e) : Err ts e := by
  unfold propP at h
  split at h
  · rename_i e' he
    cases h; exact nameP_err hg he
  · rename_i t r1 he
    have h1 := (nameP_ok hg he).1
    split at h
    · rename_i e' he2
      cases h
      exact (many_err val0_ok val0_err _ h1.2.1 (Nat.le_refl _) he2).ad h1
    · cases h
theorem declP_err {ts : List Token} {e : Er} (hg : good ts) (h : declP ts = .error e) : Err ts e := by
  unfold declP at h
  split at h
  · rename_i e' he
    cases h; exact nameP_err hg he
  · rename_i t r1 he
    have h1 := (nameP_ok hg he).1
    split at h
    · rename_i e' he2
      cases h
      exact (many_err wordP_ok wordP_err _ h1.2.1 (Nat.le_refl _) he2).ad h1
    · rename_i xs r2 he2
      have h2 := h1.trans (many_ok wordP_ok h1.2.1 he2)
      split at h
      · rename_i e' he3
        cases h
        exact (many_err propP_ok propP_err _ h2.2.1 (Nat.le_refl _) he3).ad h2
      · cases h
theorem fileP_err : ∀ (f : Nat) {ts : List Token} {e : Er}, good ts → ts.length ≤ f → fileP f ts = .error e → Err ts e
  | 0, ts, _, hg, hf, _ => by have := List.length_pos_iff.2 (good_ne hg); omega
  | f + 1, ts, e, hg, hf, h => by
    rw [fileP] at h
    split at h
    · cases h
    · split at h
      · rename_i e' he
        cases h; exact declP_err hg he
      · rename_i x r1 he
        have h1 := declP_ok hg he
        split at h
        · rename_i e' he2
          cases h
          have := h1.2.2
          exact (fileP_err f h1.2.1 (by omega) he2).ad h1
        · cases h
theorem fileN_err {ts : List Token} {e : Er} (hg : good ts) (h : fileN ts = .error e) : Err ts e := by
  unfold fileN at h
  split at h
  · rename_i e' he
    cases h; exact fileP_err _ hg (by omega) he
  · cases h
/-- no error: the tokens are read -/
theorem parse_ok {s : List UInt8} (h : (parse s).2.1 = 0) : (Lx.scan s).2.1 = 0 ∧ ∃ r, fileN (Lx.scan s).1 = .ok ((parse s).1, r) ∧ (parse s).2.2 = 0 := by
  have h0 : (Lx.scan s).2.1 = 0 := by
    unfold parse at h
    split at h
    · assumption
    · exact h
  refine ⟨h0, ?_⟩
  obtain ⟨hg, _⟩ := scan_good h0
  unfold parse parseT at h ⊢
  rw [if_pos h0] at h ⊢
  split at h
  · rename_i e he
    have := (fileN_err hg he).1
    simp only [] at h
    omega
  · rename_i x r he
    rw [he]
    exact ⟨r, rfl, rfl⟩
theorem run_get {p : UInt8 → Bool} : ∀ {l : List UInt8} {j : Nat}, j < Lx.run p l → p (l.getD j 0) = true
  | [], j, h => by simp [Lx.run] at h
  | c :: l, j, h => by
    unfold Lx.run at h
    split at h
    · rename_i hc
      cases j with
      | zero => simpa using hc
      | succ j => simpa using run_get (l := l) (j := j) (by omega)
    · omega
theorem tk_okT {l : List UInt8} {a : Int} (hok : (Lx.tk l).2.2.2.2 = true) : okT ⟨((Lx.tk l).1 : Nat), Lx.txt l, a⟩ := by
  unfold Lx.txt
  unfold Lx.tk at hok ⊢
  by_cases h1 : Lx.isL (l.getD 0 0) = true
  · rw [if_pos h1] at hok ⊢
    simp only [decide_eq_true_eq] at hok
    refine ⟨fun _ => ?_, fun h => absurd (show (0 : Int) = 2 from h) (by decide)⟩
    have hle := Lx.run_le Lx.inN l
    have hpos : 1 ≤ Lx.run Lx.inN l := by
      rcases Nat.eq_zero_or_pos l.length with h0 | h0
      · have : l = [] := List.length_eq_zero_iff.1 h0
        subst this; exact absurd h1 (by decide)
      · exact Lx.run_pos h0 (by unfold Lx.inN; rw [h1]; rfl)
    simp only [List.drop_zero]
    unfold isName
    simp only [Bool.and_eq_true, decide_eq_true_eq, List.length_take]
    refine ⟨fun j hj => ?_, by omega, by omega⟩
    unfold nmAt
    rw [Lx.getD_take (by omega)]
    have := run_get (p := Lx.inN) (l := l) (j := j) (by omega)
    simp only [Lx.inN, Lx.isL, Lx.isD, Bool.or_eq_true, decide_eq_true_eq] at this
    simp only [Lx.isL, decide_eq_true_eq] at h1
    by_cases hj0 : j = 0
    · subst hj0; omega
    · omega
  · rw [if_neg h1] at hok ⊢
    by_cases h2 : Lx.isD (l.getD 0 0) = true
    · rw [if_pos h2]
      exact ⟨fun h => absurd (show (1 : Int) = 0 from h) (by decide), fun h => absurd (show (1 : Int) = 2 from h) (by decide)⟩
    · rw [if_neg h2] at hok ⊢
      by_cases h3 : (l.getD 0 0).toNat = 34
      · rw [if_pos h3] at hok ⊢
        simp only [decide_eq_true_eq] at hok
        refine ⟨fun h => absurd (show (2 : Int) = 0 from h) (by decide), fun _ => ?_⟩
        simp only []
        unfold isText
        have hle := Lx.run_le Lx.inS (l.drop 1)
        simp only [Bool.and_eq_true, decide_eq_true_eq, List.length_take]
        refine ⟨fun j hj => ?_, by omega⟩
        unfold txAt
        rw [Lx.getD_take (by omega)]
        have := run_get (p := Lx.inS) (l := l.drop 1) (j := j) (by omega)
        simpa only [Lx.inS, decide_eq_true_eq] using this
      · rw [if_neg h3]
        exact ⟨fun h => absurd (show (3 : Int) = 0 from h) (by decide), fun h => absurd (show (3 : Int) = 2 from h) (by decide)⟩
theorem stm_okT {s : List UInt8} : ∀ (n a : Nat), (∀ x ∈ Lx.stm n s a, x.2 = true) → okTs ((Lx.stm n s a).map (·.1))
  | 0, _, _ => fun t ht => by rw [Lx.stm] at ht; cases ht
  | n + 1, a, hall => by
    by_cases hlt : a < s.length
    · cases hk : (Lx.tk (s.drop a)).2.2.2.2 with
      | false =>
        rw [Lx.stm_bad hlt hk] at hall
        have := hall _ (List.mem_singleton.2 rfl)
        cases this
      | true =>
        rw [Lx.stm_tok hlt hk] at hall ⊢
        intro t ht
        rw [List.map_cons] at ht
        rcases List.mem_cons.1 ht with rfl | ht
        · exact tk_okT hk
        · exact stm_okT n _ (fun x hx => hall x (List.mem_cons_of_mem _ hx)) t ht
    · rw [Lx.stm_end (by omega)]
      intro t ht
      obtain rfl := List.mem_singleton.1 ht
      exact ⟨fun h => absurd (show (4 : Int) = 0 from h) (by decide), fun h => absurd (show (4 : Int) = 2 from h) (by decide)⟩
/-! ### lengths -/
def cost : List Token → Nat
  | [] => 0
  | t :: r => 26 + t.Text.length + cost r
theorem cost_pk {ts : List Token} (hg : good ts) : cost ts = 26 + (pk ts).Text.length + cost ts.tail := by
  cases ts with
  | nil => exact (hg : False).elim
  | cons t r => rfl
theorem stm_cost {s : List UInt8} : ∀ (n a : Nat), s.length - a < n → a ≤ s.length → (∀ x ∈ Lx.stm n s a, x.2 = true) → cost ((Lx.stm n s a).map (·.1)) ≤ 27 * (s.length - a) + 26
  | 0, _, h, _, _ => by omega
  | n + 1, a, h, ha, hall => by
    by_cases hlt : a < s.length
    · cases hk : (Lx.tk (s.drop a)).2.2.2.2 with
      | false =>
        rw [Lx.stm_bad hlt hk] at hall
        have := hall _ (List.mem_singleton.2 rfl)
        cases this
      | true =>
        rw [Lx.stm_tok hlt hk] at hall ⊢
        have hld : (s.drop a).length = s.length - a := List.length_drop
        obtain ⟨h1, h2⟩ := Lx.tk_ok (l := s.drop a) (by omega) hk
        have hin := Lx.tk_in hk
        have h3 := Lx.skp_le false (s.drop (a + (Lx.tk (s.drop a)).2.2.2.1))
        rw [List.length_drop] at h3
        have h4 := stm_cost n (a + (Lx.tk (s.drop a)).2.2.2.1 + Lx.skp false (s.drop (a + (Lx.tk (s.drop a)).2.2.2.1))) (by omega) (by omega) (fun x hx => hall x (List.mem_cons_of_mem _ hx))
        have htx : (Lx.txt (s.drop a)).length ≤ (Lx.tk (s.drop a)).2.2.1 := by unfold Lx.txt; rw [List.length_take]; omega
        rw [List.map_cons, cost]
        simp only []
        omega
    · rw [Lx.stm_end (by omega)]
      show 26 + 0 + 0 ≤ _
      omega
theorem wri_len {n d : Int} (hn : n ≤ 1125899906842624) : (Un.wri n d).length ≤ 25 := by
  unfold Un.wri
  split
  · have h1 := Un.dec_len_le (u := n.toNat) (k := 16) (by omega) (by omega)
    have h2 := Un.bases_len d.toNat
    split
    · omega
    · simp only [List.length_append, List.length_cons, List.length_nil]; omega
  · simp
theorem word_cost {ts r : List Token} {x : Node} (hg : good ts) (h : wordP ts = .ok (x, r)) : (wr x).length + 1 + cost r ≤ cost ts := by
  rw [cost_pk hg]
  unfold wordP at h
  split at h
  · cases h
    rw [wr_o (show (3 : Int) ≠ 4 by decide) (show (3 : Int) ≠ 5 by decide) (show (3 : Int) ≠ 6 by decide)]
    simp only [wrd]; omega
  · split at h
    · cases h
      rw [wr_4 rfl]
      simp only [wrd, List.length_append, List.length_cons, List.length_nil]; omega
    · cases h
theorem unit_cost {ts : List Token} (hg : good ts) : cost (unitRest ts) ≤ cost ts := by
  unfold unitRest
  split
  · rw [cost_pk hg]; omega
  · omega
theorem amt_cost {ts r : List Token} {x : Node} (hg : good ts) (hk : (pk ts).Kind = 1) (h : amtP ts = .ok (x, r)) : (wr x).length + 1 + cost r ≤ cost ts := by
  have h0 := ad_tail hg (by omega)
  have hu := unit_cost h0.2.1
  rw [cost_pk hg]
  unfold amtP at h
  simp only [] at h
  split at h
  · cases h
    rw [wr_5 rfl]
    have hl := (Un.amt_le (pk ts).Text (unitOf ts.tail)).1
    have hw := wri_len (n := ((Un.amt (pk ts).Text (unitOf ts.tail)).1 : Int)) (d := ((Un.amt (pk ts).Text (unitOf ts.tail)).2.1 : Int)) (by omega)
    simp only []
    omega
  · cases h
theorem wrJ_cons_le (x : Node) (xs : List Node) : (wr.wrJ (x :: xs)).length ≤ (wr x).length + 2 + (wr.wrJ xs).length := by
  cases xs with
  | nil => rw [wr.wrJ, wr.wrJ]; simp
  | cons y ys => rw [wr.wrJ]; simp only [List.length_append, List.length_cons, List.length_nil]; omega
theorem vg_cost : ∀ f : Nat, (∀ (g : Nat) (ts r : List Token) (x : Node), good ts → valP f g ts = .ok (x, r) → (wr x).length + 1 + cost r ≤ cost ts) ∧ (∀ (g : Nat) (ts r : List Token) (xs : List Node), good ts → grpP f g ts = .ok (xs, r) → (wr.wrJ xs).length + 2 + cost r ≤ cost ts)
  | 0 => ⟨fun g ts r x _ h => (by rw [valP] at h; cases h), fun g ts r x _ h => (by rw [grpP] at h; cases h)⟩
  | f + 1 => by
    obtain ⟨ih1, ih2⟩ := vg_cost f
    refine ⟨fun g ts r x hg h => ?_, fun g ts r xs hg h => ?_⟩
    · rw [valP] at h
      split at h
      · rename_i hk; exact amt_cost hg hk h
      · split at h
        · rename_i hs
          split at h
          · cases h
          · have h0 := ad_sign hg hs
            split at h
            · cases h
            · rename_i xs r' he
              cases h
              have h1 := ih2 _ _ _ _ h0.2.1 he
              rw [cost_pk hg, wr_6 rfl, show (grp (pk ts).At xs).Kids = xs from rfl, ← wrJ_join]
              simp only [List.length_append, List.length_cons, List.length_nil]
              omega
        · exact word_cost hg h
    · rw [grpP] at h
      split at h
      · cases h
      · rename_i x r1 he
        have h1 := valP_ok hg he
        have h2 := ih1 _ _ _ _ hg he
        split at h
        · rename_i hs
          cases h
          have h3 := cost_pk h1.2.1
          rw [wr.wrJ]; omega
        · split at h
          · rename_i hs
            have h3 := ad_sign h1.2.1 hs
            split at h
            · cases h
            · rename_i xs r2 he2
              cases h
              have h4 := ih2 _ _ _ _ h3.2.1 he2
              have h5 := cost_pk h1.2.1
              have h6 := wrJ_cons_le x xs
              omega
          · cases h
theorem vals_cost {c : List UInt8} {p : List Token → R Node} (hp : ∀ {ts r x}, good ts → p ts = .ok (x, r) → Ad ts r) (hq : ∀ {ts r x}, good ts → p ts = .ok (x, r) → (wr x).length + 1 + cost r ≤ cost ts) : ∀ (f : Nat) {ts r : List Token} {xs : List Node}, good ts → many c p f ts = .ok (xs, r) → (wrVs xs).length + 26 + cost r ≤ cost ts
  | 0, _, _, _, _, h => by rw [many] at h; cases h
  | f + 1, ts, r, xs, hg, h => by
    rw [many] at h
    split at h
    · cases h
      rw [cost_pk hg]
      show 0 + 26 + _ ≤ _
      omega
    · split at h
      · cases h
      · rename_i x r1 he
        have h1 := hp hg he
        have h2 := hq hg he
        split at h
        · cases h
        · rename_i ys r2 he2
          cases h
          have h3 := vals_cost hp hq f h1.2.1 he2
          unfold wrVs at h3 ⊢
          rw [List.flatMap_cons]
          simp only [List.length_append, List.length_cons]
          omega
theorem prop_cost {ts r : List Token} {x : Node} (hg : good ts) (h : propP ts = .ok (x, r)) : (wrProp x).length + cost r ≤ cost ts := by
  unfold propP at h
  split at h
  · cases h
  · rename_i t r1 he
    obtain ⟨h1, h2, h3⟩ := nameP_ok hg he
    subst h2
    have hr : r1 = ts.tail := by unfold nameP at he; rw [if_pos h3] at he; cases he; rfl
    split at h
    · cases h
    · rename_i xs r2 he2
      cases h
      have h4 := vals_cost val0_ok (fun hg h => (vg_cost _).1 _ _ _ _ hg h) _ h1.2.1 he2
      have h5 := cost_pk hg
      rw [← hr] at h5
      rw [wrProp_len]
      simp only []
      omega
theorem props_cost : ∀ (f : Nat) {ts r : List Token} {xs : List Node}, good ts → many [125] propP f ts = .ok (xs, r) → (xs.flatMap wrProp).length + 26 + cost r ≤ cost ts
  | 0, _, _, _, _, h => by rw [many] at h; cases h
  | f + 1, ts, r, xs, hg, h => by
    rw [many] at h
    split at h
    · cases h
      rw [cost_pk hg]
      show 0 + 26 + _ ≤ _
      omega
    · split at h
      · cases h
      · rename_i x r1 he
        have h1 := propP_ok hg he
        have h2 := prop_cost hg he
        split at h
        · cases h
        · rename_i ys r2 he2
          cases h
          have h3 := props_cost f h1.2.1 he2
          rw [List.flatMap_cons, List.length_append]
          omega
theorem decl_cost {ts r : List Token} {x : Node} (hg : good ts) (ho : okTs ts) (h : declP ts = .ok (x, r)) : (wrDecl x).length + cost r ≤ cost ts := by
  unfold declP at h
  split at h
  · cases h
  · rename_i t r1 he
    obtain ⟨h1, h2, h3⟩ := nameP_ok hg he
    subst h2
    have hr : r1 = ts.tail := by unfold nameP at he; rw [if_pos h3] at he; cases he; rfl
    split at h
    · cases h
    · rename_i xs r2 he2
      have h4 := many_ok wordP_ok h1.2.1 he2
      have h5 := vals_cost wordP_ok word_cost _ h1.2.1 he2
      have h6 := many_okv wordP_ok (fun hg ho h => (word_ok hg ho h).1) _ h1.2.1 (okTs_ad ho h1) he2
      split at h
      · cases h
      · rename_i ys r3 he3
        cases h
        have h7 := many_okv propP_ok prop_okv _ h4.2.1 (okTs_ad (okTs_ad ho h1) h4) he3
        have h8 := props_cost _ h4.2.1 he3
        have h9 := cost_pk hg
        rw [← hr] at h9
        rw [wrDecl_len]
        simp only []
        rw [prp_split h6 h7, List.take_left, List.drop_left]
        omega
theorem file_cost : ∀ (f : Nat) {ts r : List Token} {xs : List Node}, good ts → okTs ts → fileP f ts = .ok (xs, r) → (xs.flatMap wrDecl).length + cost r ≤ cost ts
  | 0, _, _, _, _, _, h => by rw [fileP] at h; cases h
  | f + 1, ts, r, xs, hg, ho, h => by
    rw [fileP] at h
    split at h
    · cases h
      show 0 + _ ≤ _
      omega
    · split at h
      · cases h
      · rename_i x r1 he
        have h1 := declP_ok hg he
        have h2 := decl_cost hg ho he
        split at h
        · cases h
        · rename_i ys r2 he2
          cases h
          have h3 := file_cost f h1.2.1 (okTs_ad ho h1) he2
          rw [List.flatMap_cons, List.length_append]
          omega
theorem write_cost {ts r : List Token} {x : Node} (hg : good ts) (ho : okTs ts) (h : fileN ts = .ok (x, r)) : (write x).length ≤ cost ts := by
  have hr := fileN_okv hg ho h
  unfold fileN at h
  split at h
  · cases h
  · rename_i xs r1 he
    cases h
    have := file_cost _ hg ho he
    unfold write
    rw [if_pos hr]
    simp only []
    omega
/-! ### the tokens written again -/
theorem ren_take {l : List UInt8} {a : Int} (h0 : 0 < l.length) (hok : (Lx.tk l).2.2.2.2 = true) : lexT1 ⟨((Lx.tk l).1 : Nat), Lx.txt l, a⟩ = [l.take (Lx.tk l).2.2.2.1] := by
  unfold lexT1 Lx.txt
  unfold Lx.tk at hok ⊢
  by_cases h1 : Lx.isL (l.getD 0 0) = true
  · rw [if_pos h1]; rfl
  · rw [if_neg h1] at hok ⊢
    by_cases h2 : Lx.isD (l.getD 0 0) = true
    · rw [if_pos h2]; rfl
    · rw [if_neg h2] at hok ⊢
      by_cases h3 : (l.getD 0 0).toNat = 34
      · rw [if_pos h3] at hok ⊢
        simp only [decide_eq_true_eq] at hok
        have hc : l.getD 0 0 = 34 := UInt8.toNat_inj.1 h3
        obtain ⟨c, r, rfl⟩ : ∃ c r, l = c :: r := by cases l with | nil => simp at h0 | cons c r => exact ⟨c, r, rfl⟩
        have hc' : c = 34 := by simpa using hc
        subst hc'
        simp only [List.drop_succ_cons, List.drop_zero, List.length_cons] at hok ⊢
        rw [if_neg (by decide), if_pos (by decide), List.take_succ_cons]
        have h4 : Lx.run Lx.inS r < r.length := by omega
        have h5 : r.getD (Lx.run Lx.inS r) 0 = 34 := UInt8.toNat_inj.1 (by have := hok.2.1; simpa using this)
        have h6 : r[Lx.run Lx.inS r] = 34 := by rw [List.getD_eq_getElem?_getD, List.getElem?_eq_getElem h4] at h5; exact h5
        rw [List.take_add_one, List.getElem?_eq_getElem h4, h6]
        rfl
      · rw [if_neg h3]; rfl
theorem lexW_stm {s : List UInt8} : ∀ (n a : Nat), s.length - a < n → a ≤ s.length → (∀ x ∈ Lx.stm n s a, x.2 = true) → LexS (lexW ((Lx.stm n s a).map (·.1))) (((Lx.stm n s a).map (·.1)).map er) ∧ (lexW ((Lx.stm n s a).map (·.1))).length ≤ 2 * (s.length - a)
  | 0, _, h, _, _ => by omega
  | n + 1, a, h, ha, hall => by
    by_cases hlt : a < s.length
    · cases hk : (Lx.tk (s.drop a)).2.2.2.2 with
      | false =>
        rw [Lx.stm_bad hlt hk] at hall
        have := hall _ (List.mem_singleton.2 rfl)
        cases this
      | true =>
        rw [Lx.stm_tok hlt hk] at hall ⊢
        have hld : (s.drop a).length = s.length - a := List.length_drop
        obtain ⟨h1, h2⟩ := Lx.tk_ok (l := s.drop a) (by omega) hk
        have h3 := Lx.skp_le false (s.drop (a + (Lx.tk (s.drop a)).2.2.2.1))
        rw [List.length_drop] at h3
        obtain ⟨h4, h5⟩ := lexW_stm n (a + (Lx.tk (s.drop a)).2.2.2.1 + Lx.skp false (s.drop (a + (Lx.tk (s.drop a)).2.2.2.1))) (by omega) (by omega) (fun x hx => hall x (List.mem_cons_of_mem _ hx))
        have hw := whole_take (l := s.drop a) (by omega) hk
        have hren : lexT1 ⟨((Lx.tk (s.drop a)).1 : Nat), Lx.txt (s.drop a), (a : Nat)⟩ = [(s.drop a).take (Lx.tk (s.drop a)).2.2.2.1] := ren_take (by omega) hk
        rw [List.map_cons]
        generalize (Lx.stm n s _).map (·.1) = L at h4 h5 ⊢
        unfold lexW lexT at h4 h5 ⊢
        rw [List.flatMap_cons, hren, List.singleton_append, List.map_cons, Go.Lib.join_cons]
        generalize hR : L.flatMap lexT1 = R at h4 h5 ⊢
        have hlen : ((s.drop a).take (Lx.tk (s.drop a)).2.2.2.1).length = (Lx.tk (s.drop a)).2.2.2.1 := by rw [List.length_take]; omega
        cases R with
        | nil =>
          have h6 := LexS.one hw (.inl rfl) (R := []) h4
          refine ⟨h6, ?_⟩
          rw [List.length_append, hlen]
          show _ + 0 ≤ _
          omega
        | cons u R =>
          have h6 := LexS.one hw (stp32 _) (LexS.ws (c := 32) (by decide) h4)
          rw [Go.Lib.joinTail, List.map_cons, List.flatten_cons]
          rw [Go.Lib.join_cons, Go.Lib.joinTail] at h5 h6
          refine ⟨by simpa [er] using h6, ?_⟩
          simp only [List.length_append, List.length_cons, List.length_nil] at h5 ⊢
          omega
    · rw [Lx.stm_end (by omega)]
      exact ⟨LexS.nil, Nat.zero_le _⟩
/-- what the parser reads from a source -/
theorem reads {s : List UInt8} (hs : s.length ≤ 2000) (h : (parse s).2.1 = 0) :
    right (parse s).1 = true ∧ (write (parse s).1).length ≤ 65536 ∧ (lexW (Lx.scan s).1).length ≤ 65536 ∧
    (∃ m, parse (lexW (Lx.scan s).1) = (m, 0, 0) ∧ eN m = eN (parse s).1) ∧ ∃ o, parse (write (parse s).1) = (o, 0, 0) ∧ eN o = eN (parse s).1 := by
  obtain ⟨h0, r, h1, h2⟩ := parse_ok h
  obtain ⟨hg, _, _, hl, heq, hall⟩ := scan_good h0
  have hsk := Lx.skp_le false s
  have ho : okTs (Lx.scan s).1 := by rw [heq]; exact stm_okT _ _ hall
  have hr := fileN_okv hg ho h1
  have hw : (write (parse s).1).length ≤ 65536 := by
    have h3 := write_cost hg ho h1
    rw [heq] at h3
    have h4 := stm_cost (s := s) (s.length + 1) (Lx.skp false s) (by omega) hsk hall
    unfold Lx.seqT at h3
    omega
  obtain ⟨h5, h6⟩ := lexW_stm (s := s) (s.length + 1) (Lx.skp false s) (by omega) hsk hall
  have heq' : (Lx.scan s).1 = (Lx.stm (s.length + 1) s (Lx.skp false s)).map (·.1) := heq
  rw [← heq'] at h5 h6
  refine ⟨hr, hw, by omega, ?_, ?_⟩
  · obtain ⟨L, h7, h8⟩ := lexS_scan h5 (by omega)
    obtain ⟨m, r', h9, h10, _⟩ := fileN_inv h8.symm _ _ h1
    refine ⟨m, ?_, h10.symm⟩
    unfold parse parseT
    rw [h7]
    simp only [if_true, h9]
  · exact parse_write hr hw
end Pa
