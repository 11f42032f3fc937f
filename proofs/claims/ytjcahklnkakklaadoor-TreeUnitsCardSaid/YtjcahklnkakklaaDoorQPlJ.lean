/- A number and a name in a source. Conditions: those of each theorem. -/
import Derived.Test.YtjcahklnkakklaaDoorQPlG
import Derived.Test.YtjcahklnkakklaaDoorQLwP
namespace Pa
open Bt
def unS (num nam : List UInt8) : List UInt8 := [120, 32, 123, 32, 121, 32] ++ num ++ [32] ++ nam ++ [59, 32, 125]
def uT (ks : List Node) : Node := ⟨0, [], 0, 0, 0, [⟨1, [120], 0, 0, 0, [⟨2, [121], 0, 0, 4, ks⟩]⟩]⟩
theorem stm_step {s u R : List UInt8} {k : Nat} {t : List UInt8} {a N : Nat} (hd : s.drop a = u ++ R) (hw : Whole u k t) (hs : Lx.stp R) : Lx.stm (N + 1) s a = (⟨k, t, (a : Nat)⟩, true) :: Lx.stm N s (a + u.length + Lx.skp false R) := by
  obtain ⟨h1, h2, h3, h4, h5⟩ := hw
  have ha := Lx.tk_app h1 h2 h3 hs
  have hi := Lx.tk_in h2
  have hp : 0 < u.length := List.length_pos_iff.2 h1
  have hlt : a < s.length := by have := congrArg List.length hd; rw [List.length_drop, List.length_append] at this; omega
  have ht : Lx.txt (u ++ R) = t := by
    rw [← h5]
    unfold Lx.txt
    rw [ha, List.drop_append_of_le_length (by omega), List.take_append_of_le_length (by rw [List.length_drop]; omega)]
  have hd2 : s.drop (a + u.length) = R := by rw [← List.drop_drop, hd, List.drop_left]
  rw [Lx.stm_tok hlt (by rw [hd, ha]; exact h2), hd, ht, ha, h3, hd2]
  have : (Lx.tk u).1 = k := by omega
  rw [this]
theorem dig_head {l : List UInt8} (hk : (Lx.tk l).1 = 1) : Lx.isD (l.getD 0 0) = true ∧ (Lx.tk l).2.2.2.1 = Lx.numN l ∧ Lx.txt l = l.take (Lx.numN l) := by
  unfold Lx.txt
  unfold Lx.tk at hk ⊢
  by_cases h1 : Lx.isL (l.getD 0 0) = true
  · rw [if_pos h1] at hk; cases hk
  · rw [if_neg h1] at hk ⊢
    by_cases h2 : Lx.isD (l.getD 0 0) = true
    · rw [if_pos h2]; exact ⟨h2, rfl, rfl⟩
    · rw [if_neg h2] at hk
      split at hk <;> cases hk
theorem let_head {l : List UInt8} (hk : (Lx.tk l).1 = 0) : Lx.isL (l.getD 0 0) = true ∧ (Lx.tk l).2.2.2.1 = Lx.run Lx.inN l ∧ Lx.txt l = l.take (Lx.run Lx.inN l) := by
  unfold Lx.txt
  unfold Lx.tk at hk ⊢
  by_cases h1 : Lx.isL (l.getD 0 0) = true
  · rw [if_pos h1]; exact ⟨h1, rfl, rfl⟩
  · rw [if_neg h1] at hk
    split at hk
    · cases hk
    · split at hk <;> cases hk
theorem skp_head {l : List UInt8} (h0 : 0 < l.length) (h : Lx.isD (l.getD 0 0) = true ∨ Lx.isL (l.getD 0 0) = true) : Lx.skp false l = 0 := by
  have h' : 48 ≤ (l.getD 0 0).toNat := by
    rcases h with h | h
    · simp only [Lx.isD, decide_eq_true_eq] at h; omega
    · simp only [Lx.isL, decide_eq_true_eq] at h; omega
  have := Lx.skp_no (l := l) (k := 0) h0 (by simp only [Lx.ws, decide_eq_false_iff_not]; omega) (by omega)
  rwa [List.drop_zero] at this
/-- the token at the head of what follows skipped space is u: nothing was skipped -/
theorem tok_here {s u R : List UInt8} {p N k : Nat} {M : List (Token × Bool)} (hd : s.drop p = u ++ R) (hp : p ≤ s.length) (hM : M = Lx.stm (N + 1) s (p + Lx.skp false (u ++ R))) (hok : ∀ x ∈ M, x.2 = true) (hk : k = 0 ∨ k = 1) (h1 : ((M.map fun x : Token × Bool => x.1).getD 0 default).Kind = (k : Int)) (h2 : ((M.map fun x : Token × Bool => x.1).getD 0 default).Text = u) :
    M = (⟨k, u, (p : Nat)⟩, true) :: Lx.stm N s (p + u.length + Lx.skp false R) := by
  subst hM
  have hsl := Lx.skp_le false (u ++ R)
  have hld : (u ++ R).length = s.length - p := by rw [← hd, List.length_drop]
  by_cases hlt : p + Lx.skp false (u ++ R) < s.length
  · cases hkk : (Lx.tk (s.drop (p + Lx.skp false (u ++ R)))).2.2.2.2 with
    | false =>
      rw [Lx.stm_bad hlt hkk] at hok
      have := hok _ (List.mem_singleton.2 rfl)
      cases this
    | true =>
      rw [Lx.stm_tok hlt hkk] at h1 h2
      have hk1 : (Lx.tk (s.drop (p + Lx.skp false (u ++ R)))).1 = k := by
        have : (((Lx.tk (s.drop (p + Lx.skp false (u ++ R)))).1 : Nat) : Int) = (k : Int) := h1
        omega
      have hx : Lx.txt (s.drop (p + Lx.skp false (u ++ R))) = u := h2
      have hdl : (s.drop (p + Lx.skp false (u ++ R))).length = s.length - (p + Lx.skp false (u ++ R)) := List.length_drop
      obtain ⟨hu1, hu2⟩ := Lx.tk_ok (l := s.drop (p + Lx.skp false (u ++ R))) (by omega) hkk
      have hex : ∃ q, q = (Lx.tk (s.drop (p + Lx.skp false (u ++ R)))).2.2.2.1 ∧ Lx.txt (s.drop (p + Lx.skp false (u ++ R))) = (s.drop (p + Lx.skp false (u ++ R))).take q ∧ (Lx.isD ((s.drop (p + Lx.skp false (u ++ R))).getD 0 0) = true ∨ Lx.isL ((s.drop (p + Lx.skp false (u ++ R))).getD 0 0) = true) := by
        rcases hk with rfl | rfl
        · obtain ⟨h3, h4, h5⟩ := let_head hk1
          exact ⟨_, h4.symm, h5, .inr h3⟩
        · obtain ⟨h3, h4, h5⟩ := dig_head hk1
          exact ⟨_, h4.symm, h5, .inl h3⟩
      obtain ⟨q, hq, hqt, hhd⟩ := hex
      rw [hqt] at hx
      have hul : u.length = q := by rw [← hx, List.length_take]; omega
      have hu0 : u.getD 0 0 = (s.drop (p + Lx.skp false (u ++ R))).getD 0 0 := by
        have h9 := Lx.getD_take (l := s.drop (p + Lx.skp false (u ++ R))) (k := 0) (m := q) (by omega)
        rw [hx] at h9; exact h9
      have hz : Lx.skp false (u ++ R) = 0 := skp_head (by rw [List.length_append]; omega) (by rw [Lx.getD_app (by omega), hu0]; exact hhd)
      rw [hz, Nat.add_zero] at hlt hkk hk1 hq hqt hx
      rw [hz]
      show Lx.stm (N + 1) s p = _
      rw [Lx.stm_tok hlt hkk, ← hq, ← hul, hk1, hqt, hx]
      have hd2 : s.drop (p + u.length) = R := by rw [← List.drop_drop, hd, List.drop_left]
      rw [hd2]
  · rw [Lx.stm_end (by omega)] at h1
    have : (4 : Int) = k := h1
    omega
theorem scan_units {num nam : List UInt8} (h0 : (Lx.scan (unS num nam)).2.1 = 0) (h3 : ((Lx.scan (unS num nam)).1.getD 3 default).Kind = 1) (h3t : ((Lx.scan (unS num nam)).1.getD 3 default).Text = num)
    (h4 : ((Lx.scan (unS num nam)).1.getD 4 default).Kind = 0) (h4t : ((Lx.scan (unS num nam)).1.getD 4 default).Text = nam) :
    ∃ e1 e2 e3 : Int, (Lx.scan (unS num nam)).1 = [⟨0, [120], 0⟩, ⟨3, [123], 2⟩, ⟨0, [121], 4⟩, ⟨1, num, 6⟩, ⟨0, nam, 7 + num.length⟩, ⟨3, [59], e1⟩, ⟨3, [125], e2⟩, ⟨4, [], e3⟩] := by
  obtain ⟨hg, _, _, hl, heq, hall⟩ := scan_good h0
  have hlen : (unS num nam).length = 10 + num.length + nam.length := by unfold unS; simp only [List.length_append, List.length_cons, List.length_nil]; omega
  have e0 : (unS num nam).drop 0 = [120] ++ (32 :: 123 :: 32 :: 121 :: 32 :: (num ++ (32 :: (nam ++ [59, 32, 125])))) := by unfold unS; simp
  have e2 : (unS num nam).drop 2 = [123] ++ (32 :: 121 :: 32 :: (num ++ (32 :: (nam ++ [59, 32, 125])))) := by unfold unS; simp
  have e4 : (unS num nam).drop 4 = [121] ++ (32 :: (num ++ (32 :: (nam ++ [59, 32, 125])))) := by unfold unS; simp
  have e6 : (unS num nam).drop 6 = num ++ (32 :: (nam ++ [59, 32, 125])) := by unfold unS; simp
  have e7 : (unS num nam).drop (7 + num.length) = nam ++ [59, 32, 125] := by
    rw [show 7 + num.length = 6 + (num.length + 1) by omega, ← List.drop_drop, e6, ← List.drop_drop, List.drop_left]; rfl
  have e8 : (unS num nam).drop (7 + num.length + nam.length) = [59] ++ [32, 125] := by rw [← List.drop_drop, e7, List.drop_left]; rfl
  have e9 : (unS num nam).drop (9 + num.length + nam.length) = [125] ++ [] := by
    rw [show 9 + num.length + nam.length = 7 + num.length + nam.length + 2 by omega, ← List.drop_drop, e8]; rfl
  have hsk : Lx.skp false (unS num nam) = 0 := rfl
  obtain ⟨N, hN⟩ : ∃ N, (unS num nam).length + 1 = N + 8 := ⟨3 + num.length + nam.length, by omega⟩
  have hs0 : Lx.seqT (unS num nam) = (⟨(0 : Nat), [120], ((0 : Nat) : Int)⟩, true) :: (⟨(3 : Nat), [123], ((2 : Nat) : Int)⟩, true) :: (⟨(0 : Nat), [121], ((4 : Nat) : Int)⟩, true) :: Lx.stm (N + 5) (unS num nam) (6 + Lx.skp false (num ++ (32 :: (nam ++ [59, 32, 125])))) := by
    unfold Lx.seqT
    rw [hN, hsk]
    rw [show N + 8 = N + 7 + 1 from rfl, stm_step (k := 0) e0 (whole_name (by decide)) (stp32 _)]
    rw [show 0 + ([120] : List UInt8).length + Lx.skp false (32 :: 123 :: 32 :: 121 :: 32 :: (num ++ (32 :: (nam ++ [59, 32, 125])))) = 2 from rfl, show N + 7 = N + 6 + 1 from rfl, stm_step (k := 3) (t := [123]) e2 ⟨by decide, by decide, by decide, by decide, by decide⟩ (stp32 _)]
    rw [show 2 + ([123] : List UInt8).length + Lx.skp false (32 :: 121 :: 32 :: (num ++ (32 :: (nam ++ [59, 32, 125])))) = 4 from rfl, show N + 6 = N + 5 + 1 from rfl, stm_step (k := 0) e4 (whole_name (by decide)) (stp32 _)]
    rw [show 4 + ([121] : List UInt8).length + Lx.skp false (32 :: (num ++ (32 :: (nam ++ [59, 32, 125])))) = 6 + Lx.skp false (num ++ (32 :: (nam ++ [59, 32, 125]))) by
      rw [Lx.skp, if_pos (by decide)]; simp only [List.length_cons, List.length_nil]; omega]
  rw [heq] at h3 h3t h4 h4t ⊢
  rw [hs0] at h3 h3t h4 h4t hall ⊢
  have hall3 := fun x hx => hall x (List.mem_cons_of_mem _ (List.mem_cons_of_mem _ (List.mem_cons_of_mem _ hx)))
  have g3 := tok_here (N := N + 4) (k := 1) e6 (by omega) rfl hall3 (.inr rfl) h3 h3t
  rw [g3] at h4 h4t hall3 ⊢
  have hq : 6 + num.length + Lx.skp false (32 :: (nam ++ [59, 32, 125])) = 7 + num.length + Lx.skp false (nam ++ [59, 32, 125]) := by
    rw [Lx.skp, if_pos (by decide)]; omega
  rw [hq] at h4 h4t hall3 ⊢
  have hall4 := fun x hx => hall3 x (List.mem_cons_of_mem _ hx)
  have g4 := tok_here (N := N + 3) (k := 0) e7 (by omega) rfl hall4 (.inl rfl) h4 h4t
  rw [g4]
  rw [show 7 + num.length + nam.length + Lx.skp false [59, 32, 125] = 7 + num.length + nam.length from rfl]
  rw [show N + 3 = N + 2 + 1 from rfl, stm_step (k := 3) (t := [59]) e8 ⟨by decide, by decide, by decide, by decide, by decide⟩ (stp32 _)]
  rw [show 7 + num.length + nam.length + ([59] : List UInt8).length + Lx.skp false [32, 125] = 9 + num.length + nam.length by
    rw [show Lx.skp false [32, 125] = 1 from rfl]; simp only [List.length_cons, List.length_nil]; omega]
  rw [show N + 2 = N + 1 + 1 from rfl, stm_step (k := 3) (t := [125]) e9 ⟨by decide, by decide, by decide, by decide, by decide⟩ (.inl rfl)]
  rw [Lx.stm_end (by rw [hlen]; simp only [List.length_cons, List.length_nil, Lx.skp]; omega)]
  refine ⟨((7 + num.length + nam.length : Nat) : Int), ((9 + num.length + nam.length : Nat) : Int), ((unS num nam).length : Nat), ?_⟩
  simp only [List.map_cons, List.map_nil]
  rw [show ((7 + num.length : Nat) : Int) = 7 + (num.length : Int) by omega]
  rfl
theorem unit_code {num nam : List UInt8} : (Un.okF num = true → ((Un.amt num nam).2.2 = 6 ↔ isUnit nam = false)) ∧ (Un.okF num = false → ∀ n, (Un.amt num n).2.2 = 2) := by
  refine ⟨fun ho => ?_, fun ho n => by rw [Un.amt_form ho]⟩
  have h1 : Un.okF [48] = true := by decide
  unfold isUnit
  cases hl : Un.look nam with
  | none => rw [Un.amt_none ho hl, Un.amt_none h1 hl]; simp
  | some m =>
    have : ∀ l, Un.okF l = true → (Un.amt l nam).2.2 ≠ 6 := fun l hl' => by
      rw [Un.amt_prod hl' hl]; split <;> simp
    simp [this num ho, this [48] h1]
/-- what Parse returns for a number and a name -/
theorem units {num nam : List UInt8} (h0 : (Lx.scan (unS num nam)).2.1 = 0) (h3 : ((Lx.scan (unS num nam)).1.getD 3 default).Kind = 1) (h3t : ((Lx.scan (unS num nam)).1.getD 3 default).Text = num)
    (h4 : ((Lx.scan (unS num nam)).1.getD 4 default).Kind = 0) (h4t : ((Lx.scan (unS num nam)).1.getD 4 default).Text = nam) :
    ((Un.amt num nam).2.2 ≠ 6 ∧ (Un.amt num nam).2.2 ≠ 0 ∧ parse (unS num nam) = (default, 7, 6)) ∨
    ((Un.amt num nam).2.2 = 0 ∧ parse (unS num nam) = (uT [⟨5, [], (Un.amt num nam).1, (Un.amt num nam).2.1, 6, []⟩], 0, 0)) ∨
    ((Un.amt num nam).2.2 = 6 ∧ (Un.amt num []).2.2 ≠ 0 ∧ parse (unS num nam) = (default, 7, 6)) ∨
    ((Un.amt num nam).2.2 = 6 ∧ (Un.amt num []).2.2 = 0 ∧ parse (unS num nam) = (uT [⟨5, [], (Un.amt num []).1, (Un.amt num []).2.1, 6, []⟩, ⟨3, nam, 0, 0, 7 + num.length, []⟩], 0, 0)) := by
  obtain ⟨e1, e2, e3, hL⟩ := scan_units h0 h3 h3t h4 h4t
  have hp : parse (unS num nam) = parseT (Lx.scan (unS num nam)).1 := by unfold parse; rw [if_pos h0]
  rw [hp, hL]
  obtain ⟨hc1, hc2⟩ := unit_code (num := num) (nam := nam)
  by_cases hu : isUnit nam = true
  · have ha : ∀ r, unitOf (⟨0, nam, 7 + (num.length : Int)⟩ :: r) = nam ∧ unitRest (⟨0, nam, 7 + (num.length : Int)⟩ :: r) = r := fun r => by
      unfold unitOf unitRest
      exact ⟨if_pos ⟨rfl, hu⟩, if_pos ⟨rfl, hu⟩⟩
    have hn6 : (Un.amt num nam).2.2 ≠ 6 := by
      cases ho : Un.okF num with
      | false => rw [hc2 ho]; decide
      | true => intro h9; rw [(hc1 ho).1 h9] at hu; cases hu
    by_cases hz : (Un.amt num nam).2.2 = 0
    · refine .inr (.inl ⟨hz, ?_⟩)
      simp [parseT, fileN, fileP, declP, nameP, many, propP, val0, valP, amtP, isS, pk, (ha _).1, (ha _).2, hz, uT]
    · refine .inl ⟨hn6, hz, ?_⟩
      simp [parseT, fileN, fileP, declP, nameP, many, propP, val0, valP, amtP, isS, pk, (ha _).1, hz]
  · have ha : ∀ r, unitOf (⟨0, nam, 7 + (num.length : Int)⟩ :: r) = [] ∧ unitRest (⟨0, nam, 7 + (num.length : Int)⟩ :: r) = ⟨0, nam, 7 + (num.length : Int)⟩ :: r := fun r => by
      unfold unitOf unitRest
      exact ⟨if_neg (fun h => hu h.2), if_neg (fun h => hu h.2)⟩
    have huf : isUnit nam = false := by simpa using hu
    by_cases hz : (Un.amt num []).2.2 = 0
    · have ho : Un.okF num = true := by
        cases ho : Un.okF num with
        | true => rfl
        | false => rw [hc2 ho] at hz; cases hz
      refine .inr (.inr (.inr ⟨(hc1 ho).2 huf, hz, ?_⟩))
      simp [parseT, fileN, fileP, declP, nameP, many, propP, val0, valP, amtP, wordP, wrd, isS, pk, (ha _).1, (ha _).2, hz, uT]
    · cases ho : Un.okF num with
      | true =>
        refine .inr (.inr (.inl ⟨(hc1 ho).2 huf, hz, ?_⟩))
        simp [parseT, fileN, fileP, declP, nameP, many, propP, val0, valP, amtP, isS, pk, (ha _).1, hz]
      | false =>
        refine .inl ⟨by rw [hc2 ho]; decide, by rw [hc2 ho]; decide, ?_⟩
        simp [parseT, fileN, fileP, declP, nameP, many, propP, val0, valP, amtP, isS, pk, (ha _).1, hz]
end Pa
