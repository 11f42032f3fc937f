/- The offsets of a tree ascend, and at each stands its node's first token. Conditions: those of each theorem. -/
import Derived.Test.YtjcahklnkakklaaDoorQPlH
import Derived.Test.YtjcahklnkakklaaDoorQLwP
namespace Pa
open Bt
/-- a token stands in the source at its offset -/
structure SrcT (s : List UInt8) (t : Token) : Prop where
  lo : 0 ≤ t.At
  hi : t.At ≤ s.length
  name : t.Kind = 0 ∨ t.Kind = 3 → bgn s t.At t.Text = true
  text : t.Kind = 2 → bgn s t.At ([34] ++ t.Text ++ [34]) = true
  num : t.Kind = 1 → t.At < s.length ∧ 48 ≤ (s.getD t.At.toNat 0).toNat ∧ (s.getD t.At.toNat 0).toNat ≤ 57
def SrcTs (s : List UInt8) (ts : List Token) : Prop := ∀ t ∈ ts, SrcT s t
theorem srcs_ad {s : List UInt8} {ts r : List Token} (h : SrcTs s ts) (ha : Ad ts r) : SrcTs s r := fun t ht => h t (ha.1.subset ht)
theorem src_pk {s : List UInt8} {ts : List Token} (hg : good ts) (h : SrcTs s ts) : SrcT s (pk ts) := h _ (pk_mem hg)
theorem bgn_take {s : List UInt8} {a u : Nat} (h : a + u ≤ s.length) : bgn s (a : Int) ((s.drop a).take u) = true := by
  unfold bgn
  have hl : ((s.drop a).take u).length = u := by rw [List.length_take, List.length_drop]; omega
  rw [decide_eq_true (by omega), decide_eq_true (by rw [hl]; omega), Int.toNat_natCast, hl, decide_eq_true rfl]; rfl
theorem bgn_nil {s : List UInt8} {a : Int} (h0 : 0 ≤ a) (h : a ≤ s.length) : bgn s a [] = true := by
  unfold bgn
  rw [decide_eq_true h0, decide_eq_true (by simpa using h)]; rfl
theorem tk_src {s : List UInt8} {a : Nat} (ha : a < s.length) (hok : (Lx.tk (s.drop a)).2.2.2.2 = true) : SrcT s ⟨((Lx.tk (s.drop a)).1 : Nat), Lx.txt (s.drop a), (a : Nat)⟩ := by
  have hld : (s.drop a).length = s.length - a := List.length_drop
  obtain ⟨h1, h2⟩ := Lx.tk_ok (l := s.drop a) (by omega) hok
  have hr := ren_take (a := (a : Int)) (l := s.drop a) (by omega) hok
  have hb := bgn_take (s := s) (a := a) (u := (Lx.tk (s.drop a)).2.2.2.1) (by omega)
  unfold lexT1 at hr
  refine ⟨by simp only []; omega, by simp only []; omega, fun hk => ?_, fun hk => ?_, fun hk => ?_⟩
  · rw [if_pos (hk.elim .inl (fun h => .inr (.inr h)))] at hr
    injection hr with hr
    rw [hr]; exact hb
  · simp only [] at hk
    rw [if_neg (by simp only []; omega), if_pos (by simp only []; omega)] at hr
    injection hr with hr
    rw [hr]; exact hb
  · simp only [] at hk ⊢
    refine ⟨by omega, ?_⟩
    rw [Int.toNat_natCast]
    have hd : Lx.isD ((s.drop a).getD 0 0) = true := by
      unfold Lx.tk at hk
      split at hk
      · simp at hk
      · split at hk
        · assumption
        · split at hk <;> simp at hk
    rw [Lx.getD_drop, Nat.add_zero] at hd
    simpa only [Lx.isD, decide_eq_true_eq] using hd
theorem stm_src {s : List UInt8} : ∀ (n a : Nat), a ≤ s.length → (∀ x ∈ Lx.stm n s a, x.2 = true) → SrcTs s ((Lx.stm n s a).map (·.1))
  | 0, _, _, _ => fun t ht => by rw [Lx.stm] at ht; cases ht
  | n + 1, a, ha, hall => by
    by_cases hlt : a < s.length
    · cases hk : (Lx.tk (s.drop a)).2.2.2.2 with
      | false =>
        rw [Lx.stm_bad hlt hk] at hall
        have := hall _ (List.mem_singleton.2 rfl)
        cases this
      | true =>
        rw [Lx.stm_tok hlt hk] at hall ⊢
        have hld : (s.drop a).length = s.length - a := List.length_drop
        obtain ⟨h1, h2⟩ := Lx.tk_ok (l := s.drop a) (by omega) hk
        have h3 := Lx.skp_le false (s.drop (a + (Lx.tk (s.drop a)).2.2.2.1))
        rw [List.length_drop] at h3
        intro t ht
        rw [List.map_cons] at ht
        rcases List.mem_cons.1 ht with rfl | ht
        · exact tk_src hlt hk
        · exact stm_src n _ (by omega) (fun x hx => hall x (List.mem_cons_of_mem _ hx)) t ht
    · rw [Lx.stm_end (by omega)]
      intro t ht
      obtain rfl := List.mem_singleton.1 ht
      exact ⟨by simp only []; omega, Int.le_refl _, fun h => absurd (show (4 : Int) = 0 ∨ (4 : Int) = 3 from h) (by decide), fun h => absurd (show (4 : Int) = 2 from h) (by decide), fun h => absurd (show (4 : Int) = 1 from h) (by decide)⟩
/-- a node stands well at its offset, and ends at last at e -/
def NOk (s : List UInt8) (x : Node) (e : Int) : Prop :=
  x.At ≤ s.length ∧ bgn s x.At (fst x) = true ∧ (x.Kind = 5 → x.At < s.length ∧ 48 ≤ (s.getD x.At.toNat 0).toNat ∧ (s.getD x.At.toNat 0).toNat ≤ 57) ∧ Plc s (x.At + 1) x.Kids ∧ plEnd (x.At + 1) x.Kids ≤ e
theorem plc_cons {s : List UInt8} {f : Int} {x : Node} {xs : List Node} {e : Int} (h : NOk s x e) (hf : f ≤ x.At) (hx : Plc s (plEnd (x.At + 1) x.Kids) xs) : Plc s f (x :: xs) := by
  obtain ⟨k, t, n, d, a, ks⟩ := x
  obtain ⟨h1, h2, h3, h4, _⟩ := h
  rw [Plc]
  exact ⟨⟨hf, h1, h2, h3⟩, h4, hx⟩
theorem plEnd_cons {f : Int} {x : Node} {xs : List Node} : plEnd f (x :: xs) = plEnd (plEnd (x.At + 1) x.Kids) xs := by
  obtain ⟨k, t, n, d, a, ks⟩ := x; rw [plEnd]
theorem plc_append {s : List UInt8} {ys : List Node} : ∀ {xs : List Node} {f : Int}, Plc s f xs → Plc s (plEnd f xs) ys → Plc s f (xs ++ ys)
  | [], f, _, h => by rw [plEnd] at h; exact h
  | ⟨k, t, n, d, a, ks⟩ :: xs, f, h1, h2 => by
    rw [List.cons_append]
    rw [Plc] at h1 ⊢
    rw [plEnd] at h2
    exact ⟨h1.1, h1.2.1, plc_append h1.2.2 h2⟩
theorem plEnd_append {ys : List Node} : ∀ {xs : List Node} {f : Int}, plEnd f (xs ++ ys) = plEnd (plEnd f xs) ys
  | [], f => by rw [List.nil_append, plEnd]
  | ⟨k, t, n, d, a, ks⟩ :: xs, f => by rw [List.cons_append, plEnd, plEnd, plEnd_append]
theorem leaf_ok {s : List UInt8} {x : Node} {e : Int} (hk : x.Kids = []) (h1 : x.At ≤ s.length) (h2 : bgn s x.At (fst x) = true) (h3 : x.Kind = 5 → x.At < s.length ∧ 48 ≤ (s.getD x.At.toNat 0).toNat ∧ (s.getD x.At.toNat 0).toNat ≤ 57) (he : x.At < e) : NOk s x e := by
  refine ⟨h1, h2, h3, ?_, ?_⟩
  · rw [hk, Plc]; trivial
  · rw [hk, plEnd]; omega
/-- what p reads stands well -/
def At1 (s : List UInt8) (ts r : List Token) (x : Node) : Prop := x.At = (pk ts).At ∧ NOk s x (pk r).At
theorem fst_o {x : Node} (h6 : x.Kind ≠ 6) (h4 : x.Kind ≠ 4) : fst x = x.Text := by rw [fst, if_neg h6, if_neg h4]
theorem fst_4 {x : Node} (h4 : x.Kind = 4) : fst x = [34] ++ x.Text ++ [34] := by rw [fst, if_neg (by omega), if_pos h4]
theorem fst_6 {x : Node} (h6 : x.Kind = 6) : fst x = [40] := by rw [fst, if_pos h6]
theorem word_at {s : List UInt8} {ts r : List Token} {x : Node} (hg : good ts) (ha : asc ts) (hs : SrcTs s ts) (h : wordP ts = .ok (x, r)) : At1 s ts r x := by
  have hlt := ad_lt ha (wordP_ok hg h)
  have hp := src_pk hg hs
  unfold wordP at h
  split at h
  · rename_i hk
    cases h
    exact ⟨rfl, leaf_ok rfl hp.hi (by rw [fst_o (show (3 : Int) ≠ 6 by decide) (show (3 : Int) ≠ 4 by decide)]; exact hp.name (.inl hk)) (fun h9 => absurd (show (3 : Int) = 5 from h9) (by decide)) hlt⟩
  · split at h
    · rename_i hk
      cases h
      exact ⟨rfl, leaf_ok rfl hp.hi (by rw [fst_4 (show (4 : Int) = 4 from rfl)]; exact hp.text hk) (fun h9 => absurd (show (4 : Int) = 5 from h9) (by decide)) hlt⟩
    · cases h
theorem amt_at {s : List UInt8} {ts r : List Token} {x : Node} (hg : good ts) (ha : asc ts) (hs : SrcTs s ts) (hk : (pk ts).Kind = 1) (h : amtP ts = .ok (x, r)) : At1 s ts r x := by
  have hlt := ad_lt ha (amtP_ok hg hk h)
  have hp := src_pk hg hs
  unfold amtP at h
  simp only [] at h
  split at h
  · cases h
    exact ⟨rfl, leaf_ok rfl hp.hi (by rw [fst, if_neg (show ¬ (5 : Int) = 6 by decide), if_neg (show ¬ (5 : Int) = 4 by decide)]; exact bgn_nil hp.lo hp.hi) (fun _ => hp.num hk) hlt⟩
  · cases h
theorem vg_at {s : List UInt8} : ∀ f : Nat, (∀ (g : Nat) (ts r : List Token) (x : Node), good ts → asc ts → SrcTs s ts → valP f g ts = .ok (x, r) → At1 s ts r x) ∧
    (∀ (g : Nat) (ts r : List Token) (xs : List Node) (F : Int), good ts → asc ts → SrcTs s ts → F ≤ (pk ts).At → grpP f g ts = .ok (xs, r) → Plc s F xs ∧ plEnd F xs ≤ (pk r).At)
  | 0 => ⟨fun g ts r x _ _ _ h => (by rw [valP] at h; cases h), fun g ts r x F _ _ _ _ h => (by rw [grpP] at h; cases h)⟩
  | f + 1 => by
    obtain ⟨ih1, ih2⟩ := vg_at (s := s) f
    refine ⟨fun g ts r x hg ha hs h => ?_, fun g ts r xs F hg ha hs hF h => ?_⟩
    · rw [valP] at h
      split at h
      · rename_i hk; exact amt_at hg ha hs hk h
      · split at h
        · rename_i hsg
          split at h
          · cases h
          · have h0 := ad_sign hg hsg
            have hlt := ad_lt ha h0
            have hp := src_pk hg hs
            split at h
            · cases h
            · rename_i xs r' he
              cases h
              obtain ⟨h1, h2⟩ := ih2 _ _ _ _ ((pk ts).At + 1) h0.2.1 (asc_suf ha h0.1) (srcs_ad hs h0) (by omega) he
              have hk3 := isS_kind hsg
              have htx : (pk ts).Text = [40] := by unfold isS at hsg; simp only [Bool.and_eq_true, decide_eq_true_eq] at hsg; exact hsg.2
              refine ⟨rfl, hp.hi, ?_, fun h9 => absurd (show (6 : Int) = 5 from h9) (by decide), h1, h2⟩
              rw [fst_6 (show (6 : Int) = 6 from rfl), ← htx]
              exact hp.name (.inr hk3)
        · exact word_at hg ha hs h
    · rw [grpP] at h
      split at h
      · cases h
      · rename_i x r1 he
        have h1 := valP_ok hg he
        have ha1 := asc_suf ha h1.1
        obtain ⟨h2, h3⟩ := ih1 _ _ _ _ hg ha hs he
        split at h
        · rename_i hsg
          cases h
          have h4 := ad_lt ha1 (ad_sign h1.2.1 hsg)
          refine ⟨plc_cons h3 (by omega) (by rw [Plc]; trivial), ?_⟩
          rw [plEnd_cons, plEnd]
          have := h3.2.2.2.2
          omega
        · split at h
          · rename_i hsg
            have h4 := ad_sign h1.2.1 hsg
            have h5 := ad_lt ha1 h4
            split at h
            · cases h
            · rename_i xs r2 he2
              cases h
              have h6 := h3.2.2.2.2
              obtain ⟨h7, h8⟩ := ih2 _ _ _ _ (plEnd (x.At + 1) x.Kids) h4.2.1 (asc_suf ha1 h4.1) (srcs_ad (srcs_ad hs h1) h4) (by omega) he2
              exact ⟨plc_cons h3 (by omega) h7, by rw [plEnd_cons]; exact h8⟩
          · cases h
theorem many_at {s : List UInt8} {c : List UInt8} {p : List Token → R Node} (hp : ∀ {ts r x}, good ts → p ts = .ok (x, r) → Ad ts r) (hq : ∀ {ts r x}, good ts → asc ts → SrcTs s ts → p ts = .ok (x, r) → At1 s ts r x) :
    ∀ (f : Nat) {ts r : List Token} {xs : List Node} {F : Int}, good ts → asc ts → SrcTs s ts → F ≤ (pk ts).At → many c p f ts = .ok (xs, r) → Plc s F xs ∧ plEnd F xs ≤ (pk r).At
  | 0, _, _, _, _, _, _, _, _, h => by rw [many] at h; cases h
  | f + 1, ts, r, xs, F, hg, ha, hs, hF, h => by
    rw [many] at h
    split at h
    · rename_i hsg
      cases h
      have := ad_lt ha (ad_sign hg hsg)
      exact ⟨by rw [Plc]; trivial, by rw [plEnd]; omega⟩
    · split at h
      · cases h
      · rename_i x r1 he
        have h1 := hp hg he
        have ha1 := asc_suf ha h1.1
        obtain ⟨h2, h3⟩ := hq hg ha hs he
        split at h
        · cases h
        · rename_i ys r2 he2
          cases h
          have h6 := h3.2.2.2.2
          obtain ⟨h7, h8⟩ := many_at hp hq f (F := plEnd (x.At + 1) x.Kids) h1.2.1 ha1 (srcs_ad hs h1) h6 he2
          exact ⟨plc_cons h3 (by omega) h7, by rw [plEnd_cons]; exact h8⟩
theorem prop_at {s : List UInt8} {ts r : List Token} {x : Node} (hg : good ts) (ha : asc ts) (hs : SrcTs s ts) (h : propP ts = .ok (x, r)) : At1 s ts r x := by
  unfold propP at h
  split at h
  · cases h
  · rename_i t r1 he
    obtain ⟨h1, h2, h3⟩ := nameP_ok hg he
    subst h2
    have hp := src_pk hg hs
    have hlt := ad_lt ha h1
    split at h
    · cases h
    · rename_i xs r2 he2
      cases h
      obtain ⟨h4, h5⟩ := many_at val0_ok (fun hg ha hs h => (vg_at _).1 _ _ _ _ hg ha hs h) _ (F := (pk ts).At + 1) h1.2.1 (asc_suf ha h1.1) (srcs_ad hs h1) (by omega) he2
      refine ⟨rfl, hp.hi, ?_, fun h9 => absurd (show (2 : Int) = 5 from h9) (by decide), h4, h5⟩
      rw [fst, if_neg (show ¬ (2 : Int) = 6 by decide), if_neg (show ¬ (2 : Int) = 4 by decide)]
      exact hp.name (.inl h3)
theorem decl_at {s : List UInt8} {ts r : List Token} {x : Node} (hg : good ts) (ha : asc ts) (hs : SrcTs s ts) (h : declP ts = .ok (x, r)) : At1 s ts r x := by
  unfold declP at h
  split at h
  · cases h
  · rename_i t r1 he
    obtain ⟨h1, h2, h3⟩ := nameP_ok hg he
    subst h2
    have hp := src_pk hg hs
    have hlt := ad_lt ha h1
    split at h
    · cases h
    · rename_i xs r2 he2
      have ha1 := asc_suf ha h1.1
      have hs1 := srcs_ad hs h1
      have h6 := many_ok wordP_ok h1.2.1 he2
      obtain ⟨h4, h5⟩ := many_at wordP_ok word_at _ (F := (pk ts).At + 1) h1.2.1 ha1 hs1 (by omega) he2
      split at h
      · cases h
      · rename_i ys r3 he3
        cases h
        obtain ⟨h7, h8⟩ := many_at propP_ok prop_at _ (F := plEnd ((pk ts).At + 1) xs) h6.2.1 (asc_suf ha1 h6.1) (srcs_ad hs1 h6) h5 he3
        refine ⟨rfl, hp.hi, ?_, fun h9 => absurd (show (1 : Int) = 5 from h9) (by decide), plc_append h4 h7, by rw [plEnd_append]; exact h8⟩
        rw [fst, if_neg (show ¬ (1 : Int) = 6 by decide), if_neg (show ¬ (1 : Int) = 4 by decide)]
        exact hp.name (.inl h3)
theorem file_at {s : List UInt8} : ∀ (f : Nat) {ts r : List Token} {xs : List Node} {F : Int}, good ts → asc ts → SrcTs s ts → F ≤ (pk ts).At → fileP f ts = .ok (xs, r) → Plc s F xs
  | 0, _, _, _, _, _, _, _, _, h => by rw [fileP] at h; cases h
  | f + 1, ts, r, xs, F, hg, ha, hs, hF, h => by
    rw [fileP] at h
    split at h
    · cases h; rw [Plc]; trivial
    · split at h
      · cases h
      · rename_i x r1 he
        have h1 := declP_ok hg he
        obtain ⟨h2, h3⟩ := decl_at hg ha hs he
        split at h
        · cases h
        · rename_i ys r2 he2
          cases h
          exact plc_cons h3 (by omega) (file_at f h1.2.1 (asc_suf ha h1.1) (srcs_ad hs h1) h3.2.2.2.2 he2)
/-- the offsets of what Parse returns -/
theorem ats {s : List UInt8} (h : (parse s).2.1 = 0) : (parse s).1.At = 0 ∧ Plc s 0 (parse s).1.Kids := by
  obtain ⟨h0, r, h1, _⟩ := parse_ok h
  obtain ⟨hg, _, _, hl, heq, hall⟩ := scan_good h0
  have hsk := Lx.skp_le false s
  have hasc : asc (Lx.scan s).1 := by rw [heq]; exact stm_asc _ _ hsk
  have hsrc : SrcTs s (Lx.scan s).1 := by rw [heq]; exact stm_src _ _ hsk hall
  unfold fileN at h1
  split at h1
  · cases h1
  · rename_i xs r1 he
    have hx := Except.ok.inj h1
    have hx1 : (⟨0, [], 0, 0, 0, xs⟩ : Node) = (parse s).1 := congrArg Prod.fst hx
    rw [← hx1]
    exact ⟨rfl, file_at _ hg hasc hsrc (src_pk hg hsrc).lo he⟩
end Pa
