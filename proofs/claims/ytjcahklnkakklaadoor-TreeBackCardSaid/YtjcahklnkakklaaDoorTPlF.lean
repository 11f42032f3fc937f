/- Written forms are made of the tokens that they shall have. Conditions: those of each theorem. -/
import Derived.Test.YtjcahklnkakklaaDoorTPlD
namespace Lx
theorem run_app {p : UInt8 → Bool} {l r : List UInt8} (h : ∀ c ∈ l, p c = true) : run p (l ++ r) = l.length + run p r := by
  induction l with
  | nil => simp
  | cons c l ih =>
    rw [List.cons_append, run, if_pos (h c (List.mem_cons_self ..)), ih (fun x hx => h x (List.mem_cons_of_mem _ hx)), List.length_cons]
    omega
theorem run_stop {p : UInt8 → Bool} {l r : List UInt8} (h : run p l < l.length) : run p (l ++ r) = run p l := by
  induction l with
  | nil => simp at h
  | cons c l ih =>
    rw [List.cons_append]
    unfold run at h ⊢
    split
    · rename_i hc; rw [if_pos hc] at h; rw [ih (by simp only [List.length_cons] at h; omega)]
    · rfl
theorem run_whole {p : UInt8 → Bool} {l : List UInt8} (h : run p l = l.length) : ∀ c ∈ l, p c = true := by
  induction l with
  | nil => intro c hc; cases hc
  | cons a l ih =>
    unfold run at h
    split at h
    · rename_i hc
      intro x hx
      rcases List.mem_cons.1 hx with rfl | hx
      · exact hc
      · exact ih (by simp only [List.length_cons] at h; omega) x hx
    · simp at h
theorem run_take (p : UInt8 → Bool) : ∀ (l : List UInt8) (m : Nat), run p (l.take m) = min m (run p l)
  | [], m => by simp [run]
  | c :: l, 0 => by simp [run]
  | c :: l, m + 1 => by
    rw [List.take_succ_cons]
    unfold run
    split
    · rw [run_take p l m]; omega
    · simp
theorem run_head {p : UInt8 → Bool} {r : List UInt8} (h : r = [] ∨ p (r.getD 0 0) = false) : run p r = 0 := by
  cases r with
  | nil => rfl
  | cons c r =>
    rcases h with h | h
    · cases h
    · unfold run; rw [if_neg (by simpa using h)]
/-- a byte that ends every token -/
def stp (r : List UInt8) : Prop := r = [] ∨ (inN (r.getD 0 0) = false ∧ (r.getD 0 0).toNat ≠ 46 ∧ (r.getD 0 0).toNat ≠ 61)
theorem stp_cons {c : UInt8} {r : List UInt8} (h : inN c = false ∧ c.toNat ≠ 46 ∧ c.toNat ≠ 61) : stp (c :: r) := .inr h
theorem getD_app {l r : List UInt8} {k : Nat} (h : k < l.length) : (l ++ r).getD k 0 = l.getD k 0 := by
  rw [List.getD_eq_getElem?_getD, List.getD_eq_getElem?_getD, List.getElem?_append_left h]
theorem getD_app2 {l r : List UInt8} : (l ++ r).getD l.length 0 = r.getD 0 0 := by
  rw [List.getD_eq_getElem?_getD, List.getD_eq_getElem?_getD, List.getElem?_append_right (Nat.le_refl _), Nat.sub_self]
theorem getD_take {l : List UInt8} {k m : Nat} (h : k < m) : (l.take m).getD k 0 = l.getD k 0 := by
  rw [List.getD_eq_getElem?_getD, List.getD_eq_getElem?_getD, List.getElem?_take_of_lt h]
theorem isD_inN {c : UInt8} (h : isD c = true) : inN c = true := by unfold inN; rw [h]; simp
theorem num_app {l r : List UInt8} (h : numN l = l.length) (hs : stp r) : numN (l ++ r) = l.length := by
  have hd : r = [] ∨ isD (r.getD 0 0) = false := hs.imp id fun h => by
    cases hc : isD (r.getD 0 0) with
    | false => rfl
    | true => rw [isD_inN hc] at h; cases h.1
  unfold numN at h
  by_cases hw : run isD l = l.length
  · have h1 : run isD (l ++ r) = l.length := by rw [run_app (run_whole hw), run_head hd]; rfl
    unfold numN
    rw [h1, if_neg]
    rintro ⟨h2, h3, _⟩
    rw [getD_app2] at h3
    rcases hs with hs | hs
    · subst hs; simp at h2; omega
    · exact hs.2.1 h3
  · have hle := run_le isD l
    have h1 : run isD (l ++ r) = run isD l := run_stop (by omega)
    split at h
    · rename_i hc
      have h2 : run isD (l.drop (run isD l + 1)) = (l.drop (run isD l + 1)).length := by rw [List.length_drop]; omega
      unfold numN
      rw [h1, if_pos ⟨by rw [List.length_append]; omega, by rw [getD_app (by omega)]; exact hc.2.1, by rw [getD_app (by omega)]; exact hc.2.2⟩]
      rw [List.drop_append_of_le_length (by omega), run_app (run_whole h2), run_head hd, List.length_drop]
      omega
    · exact absurd h hw
theorem num_take {l : List UInt8} {m : Nat} (h : numN l ≤ m) : numN (l.take m) = numN l := by
  have hle := run_le isD l
  unfold numN at h ⊢
  split at h
  · rename_i hc
    have hle2 := run_le isD (l.drop (run isD l + 1))
    rw [List.length_drop] at hle2
    have hpos : 1 ≤ run isD (l.drop (run isD l + 1)) := run_pos (by rw [List.length_drop]; omega) (by rw [getD_drop]; exact hc.2.2)
    have h1 : run isD (l.take m) = run isD l := by rw [run_take]; omega
    rw [h1, if_pos ⟨by rw [List.length_take]; omega, by rw [getD_take (by omega)]; exact hc.2.1, by rw [getD_take (by omega)]; exact hc.2.2⟩, if_pos hc]
    rw [List.drop_take, run_take]; omega
  · rename_i hc
    have h1 : run isD (l.take m) = run isD l := by rw [run_take]; omega
    rw [h1, if_neg hc, if_neg]
    rintro ⟨h2, h3, h4⟩
    rw [List.length_take] at h2
    rw [getD_take (by omega)] at h3 h4
    exact hc ⟨by omega, h3, h4⟩
theorem sign_app {l r : List UInt8} (h0 : l ≠ []) (h : signN l = l.length) (hs : stp r) : signN (l ++ r) = l.length := by
  match l, h0 with
  | [c], _ =>
    unfold signN at h ⊢
    simp only [List.cons_append, List.nil_append, List.getD_cons_zero, List.getD_cons_succ, List.length_cons, List.length_nil] at h ⊢
    split at h
    · rename_i hc
      rw [if_pos hc]
      rw [if_neg (by omega)] at h
      rw [if_neg]
      · exact h
      · rintro ⟨h1, h2⟩
        rcases hs with hs | hs
        · subst hs; simp at h1
        · exact hs.2.2 h2
    · rename_i hc
      rw [if_neg hc]; exact h
  | c :: d :: l, _ =>
    unfold signN at h ⊢
    simp only [List.cons_append, List.getD_cons_zero, List.getD_cons_succ, List.length_cons] at h ⊢
    split at h
    · rename_i hc
      rw [if_pos hc]
      split at h
      · rename_i h1
        rw [if_pos ⟨by omega, h1.2⟩]; exact h
      · split at h <;> omega
    · split at h <;> omega
theorem sign_take {l : List UInt8} {m : Nat} (h0 : 0 < signN l) (h : signN l ≤ m) : signN (l.take m) = signN l := by
  match l, m with
  | [], m => simp
  | c :: l, 0 => omega
  | [c], m + 1 => simp
  | c :: d :: l, 1 =>
    unfold signN at h h0 ⊢
    simp only [List.take_succ_cons, List.take_zero, List.getD_cons_zero, List.getD_cons_succ, List.length_cons, List.length_nil] at h h0 ⊢
    split
    · rename_i hc
      rw [if_pos hc] at h h0
      rw [if_neg (by omega)]
      split at h
      · omega
      · rename_i h1; rw [if_neg h1]
    · rfl
  | c :: d :: l, m + 2 =>
    unfold signN
    simp only [List.take_succ_cons, List.getD_cons_zero, List.getD_cons_succ, List.length_cons]
    simp
/-- a token that is the whole text stays one in front of what ends it -/
theorem tk_app {l r : List UInt8} (h0 : l ≠ []) (hok : (tk l).2.2.2.2 = true) (hl : (tk l).2.2.2.1 = l.length) (hs : stp r) : tk (l ++ r) = tk l := by
  have hp : 0 < l.length := List.length_pos_iff.2 h0
  have hN : r = [] ∨ inN (r.getD 0 0) = false := hs.imp id (·.1)
  unfold tk at hok hl ⊢
  rw [getD_app hp]
  split at hok
  · rename_i h1
    rw [if_pos h1] at hl
    simp only [] at hl
    rw [if_pos h1, if_pos h1, run_app (run_whole hl), run_head hN, hl]; rfl
  · rename_i h1
    rw [if_neg h1] at hl ⊢
    rw [if_neg h1]
    split at hok
    · rename_i h2
      rw [if_pos h2] at hl
      simp only [] at hl
      rw [if_pos h2, if_pos h2, num_app hl hs, hl]
    · rename_i h2
      rw [if_neg h2] at hl ⊢
      rw [if_neg h2]
      split at hok
      · rename_i h3
        rw [if_pos h3] at hl
        simp only [decide_eq_true_eq] at hok hl
        rw [if_pos h3, if_pos h3]
        have h4 : run inS ((l ++ r).drop 1) = run inS (l.drop 1) := by
          rw [List.drop_append_of_le_length (show 1 ≤ l.length from hp)]; exact run_stop (by rw [List.length_drop]; omega)
        rw [h4, getD_app hok.1, decide_eq_true (by rw [List.length_append]; omega), decide_eq_true hok]
      · rename_i h3
        rw [if_neg h3] at hl
        simp only [decide_eq_true_eq] at hok hl
        rw [if_neg h3, if_neg h3, sign_app h0 hl hs, hl]
theorem tk_take {l : List UInt8} {m : Nat} (h0 : l ≠ []) (hok : (tk l).2.2.2.2 = true) (hl : (tk l).2.2.2.1 ≤ m) : tk (l.take m) = tk l := by
  have hp : 0 < l.length := List.length_pos_iff.2 h0
  obtain ⟨hu, _⟩ := tk_ok hp hok
  unfold tk at hok hl hu ⊢
  rw [getD_take (by omega)]
  split at hok
  · rename_i h1
    rw [if_pos h1] at hl
    simp only [] at hl
    rw [if_pos h1, if_pos h1, run_take, Nat.min_eq_right hl]
  · rename_i h1
    rw [if_neg h1] at hl ⊢
    rw [if_neg h1]
    split at hok
    · rename_i h2
      rw [if_pos h2] at hl
      simp only [] at hl
      rw [if_pos h2, if_pos h2, num_take hl]
    · rename_i h2
      rw [if_neg h2] at hl ⊢
      rw [if_neg h2]
      split at hok
      · rename_i h3
        rw [if_pos h3] at hl
        simp only [decide_eq_true_eq] at hok hl
        rw [if_pos h3, if_pos h3]
        have h4 : run inS ((l.take m).drop 1) = run inS (l.drop 1) := by
          rw [List.drop_take, run_take]; omega
        rw [h4, getD_take (by omega), decide_eq_true (by rw [List.length_take]; omega), decide_eq_true hok]
      · rename_i h3
        rw [if_neg h3] at hl
        simp only [decide_eq_true_eq] at hok hl
        rw [if_neg h3, if_neg h3, sign_take hok hl]
end Lx
namespace Lx
theorem tk_in {l : List UInt8} (hok : (tk l).2.2.2.2 = true) : (tk l).2.1 + (tk l).2.2.1 ≤ (tk l).2.2.2.1 := by
  unfold tk
  split
  · simp
  · split
    · simp
    · split
      · simp only []; omega
      · simp
theorem sign_no {l : List UInt8} (h : ws (l.getD 0 0) = true ∨ (l.getD 0 0).toNat = 35) : signN l = 0 := by
  have h' : (l.getD 0 0).toNat = 9 ∨ (l.getD 0 0).toNat = 10 ∨ (l.getD 0 0).toNat = 13 ∨ (l.getD 0 0).toNat = 32 ∨ (l.getD 0 0).toNat = 35 := by
    rcases h with h | h
    · simp only [ws, decide_eq_true_eq] at h; omega
    · omega
  unfold signN
  simp only []
  rw [if_neg (by omega), if_neg (by omega)]
theorem tk_head {l : List UInt8} (hok : (tk l).2.2.2.2 = true) : ws (l.getD 0 0) = false ∧ (l.getD 0 0).toNat ≠ 35 := by
  by_cases h : ws (l.getD 0 0) = true ∨ (l.getD 0 0).toNat = 35
  · exfalso
    have h' : (l.getD 0 0).toNat = 9 ∨ (l.getD 0 0).toNat = 10 ∨ (l.getD 0 0).toNat = 13 ∨ (l.getD 0 0).toNat = 32 ∨ (l.getD 0 0).toNat = 35 := by
      rcases h with h | h
      · simp only [ws, decide_eq_true_eq] at h; omega
      · omega
    have h1 : isL (l.getD 0 0) = false := by simp only [isL, decide_eq_false_iff_not]; omega
    have h2 : isD (l.getD 0 0) = false := by simp only [isD, decide_eq_false_iff_not]; omega
    unfold tk at hok
    rw [if_neg (by rw [h1]; simp), if_neg (by rw [h2]; simp), if_neg (by omega), sign_no h] at hok
    simp at hok
  · refine ⟨?_, fun h9 => h (.inr h9)⟩
    cases hw : ws (l.getD 0 0) with
    | false => rfl
    | true => exact absurd (.inl hw) h
end Lx
namespace Pa
open Bt
inductive LexS : List UInt8 → List Tk → Prop
  | nil : LexS [] [(4, [])]
  | ws {c : UInt8} {l : List UInt8} {E : List Tk} : Lx.ws c = true → LexS l E → LexS (c :: l) E
  | tok {l : List UInt8} {E : List Tk} : 0 < l.length → (Lx.tk l).2.2.2.2 = true → LexS (l.drop (Lx.tk l).2.2.2.1) E → LexS l ((((Lx.tk l).1 : Nat), Lx.txt l) :: E)
theorem lexS_stm {l : List UInt8} {E : List Tk} (h : LexS l E) : ∀ (s : List UInt8) (a n : Nat), s.drop a = l → a ≤ s.length → s.length - a < n → (Lx.stm n s (a + Lx.skp false l)).map (fun x => er x.1) = E ∧ ∀ x ∈ Lx.stm n s (a + Lx.skp false l), x.2 = true := by
  induction h with
  | nil =>
    intro s a n hd ha hn
    have hl : s.length ≤ a := by have := congrArg List.length hd; rw [List.length_drop, List.length_nil] at this; omega
    obtain ⟨m, rfl⟩ : ∃ m, n = m + 1 := ⟨n - 1, by omega⟩
    rw [Lx.stm_end (show s.length ≤ a + Lx.skp false [] by omega)]
    exact ⟨rfl, fun x hx => by rw [List.mem_singleton.1 hx]⟩
  | @ws c l E hc _ ih =>
    intro s a n hd ha hn
    have hlt : a < s.length := by
      have := congrArg List.length hd; rw [List.length_drop, List.length_cons] at this; omega
    have hd' : s.drop (a + 1) = l := by rw [← List.drop_drop, hd]; rfl
    have hs : Lx.skp false (c :: l) = Lx.skp false l + 1 := by rw [Lx.skp, if_pos hc]
    rw [hs, show a + (Lx.skp false l + 1) = a + 1 + Lx.skp false l by omega]
    exact ih s (a + 1) n hd' (by omega) (by omega)
  | @tok l E h0 hok _ ih =>
    intro s a n hd ha hn
    obtain ⟨h1, h2⟩ := Lx.tk_head hok
    have hs : Lx.skp false l = 0 := by have := Lx.skp_no h0 h1 h2; rwa [List.drop_zero] at this
    have hlen := congrArg List.length hd
    rw [List.length_drop] at hlen
    obtain ⟨h3, h4⟩ := Lx.tk_ok h0 hok
    obtain ⟨m, rfl⟩ : ∃ m, n = m + 1 := ⟨n - 1, by omega⟩
    rw [hs, show a + 0 = a from rfl, Lx.stm_tok (by omega) (by rw [hd]; exact hok)]
    have hd2 : s.drop (a + (Lx.tk l).2.2.2.1) = l.drop (Lx.tk l).2.2.2.1 := by rw [← List.drop_drop, hd]
    rw [hd, hd2]
    obtain ⟨h5, h6⟩ := ih s (a + (Lx.tk l).2.2.2.1) m hd2 (by omega) (by omega)
    refine ⟨by rw [List.map_cons, h5]; rfl, fun x hx => ?_⟩
    rcases List.mem_cons.1 hx with rfl | hx
    · rfl
    · exact h6 x hx
theorem lexS_scan {s : List UInt8} {E : List Tk} (h : LexS s E) (hl : s.length ≤ 65536) : ∃ L, Lx.scan s = (L, 0, 0) ∧ L.map er = E := by
  obtain ⟨h1, h2⟩ := lexS_stm h s 0 (s.length + 1) rfl (Nat.zero_le _) (by omega)
  rw [Nat.zero_add] at h1 h2
  refine ⟨_, Lx.scan_ok hl h2, ?_⟩
  rw [List.map_map]; exact h1
/-- u is one token -/
structure Whole (u : List UInt8) (k : Int) (t : List UInt8) : Prop where
  ne : u ≠ []
  ok : (Lx.tk u).2.2.2.2 = true
  all : (Lx.tk u).2.2.2.1 = u.length
  kind : ((Lx.tk u).1 : Int) = k
  text : Lx.txt u = t
theorem LexS.one {u R : List UInt8} {k : Int} {t : List UInt8} {E : List Tk} (h : Whole u k t) (hs : Lx.stp R) (hR : LexS R E) : LexS (u ++ R) ((k, t) :: E) := by
  obtain ⟨h1, h2, h3, h4, h5⟩ := h
  have ha := Lx.tk_app h1 h2 h3 hs
  have hi := Lx.tk_in h2
  have hp : 0 < u.length := List.length_pos_iff.2 h1
  have := LexS.tok (l := u ++ R) (E := E) (by rw [List.length_append]; omega) (by rw [ha]; exact h2) (by rw [ha, h3, List.drop_left]; exact hR)
  have ht : Lx.txt (u ++ R) = t := by
    rw [← h5]
    unfold Lx.txt
    rw [ha, List.drop_append_of_le_length (by omega), List.take_append_of_le_length (by rw [List.length_drop]; omega)]
  rw [ht, ha, h4] at this
  exact this
theorem whole_take {l : List UInt8} (h0 : 0 < l.length) (hok : (Lx.tk l).2.2.2.2 = true) : Whole (l.take (Lx.tk l).2.2.2.1) (((Lx.tk l).1 : Nat)) (Lx.txt l) := by
  obtain ⟨h1, h2⟩ := Lx.tk_ok h0 hok
  have hi := Lx.tk_in hok
  have ht := Lx.tk_take (l := l) (by intro h; rw [h] at h0; simp at h0) hok (Nat.le_refl _)
  refine ⟨fun h => ?_, by rw [ht]; exact hok, by rw [ht, List.length_take]; omega, by rw [ht], ?_⟩
  · have := congrArg List.length h; rw [List.length_take, List.length_nil] at this; omega
  · unfold Lx.txt
    rw [ht, List.drop_take, List.take_take, Nat.min_eq_left (by omega)]
theorem run_all {p : UInt8 → Bool} {l : List UInt8} (h : ∀ j, j < l.length → p (l.getD j 0) = true) : Lx.run p l = l.length := by
  have := Lx.run_app (p := p) (l := l) (r := []) (fun c hc => by
    obtain ⟨j, hj, rfl⟩ := List.mem_iff_getElem.1 hc
    have := h j hj
    rwa [List.getD_eq_getElem?_getD, List.getElem?_eq_getElem hj] at this)
  rw [List.append_nil] at this
  simpa [Lx.run] using this
theorem name_parts {t : List UInt8} (h : isName t = true) : (∀ j, j < t.length → nmAt t j) ∧ 1 ≤ t.length ∧ t.length ≤ 24 := by
  unfold isName at h
  simp only [Bool.and_eq_true, decide_eq_true_eq] at h
  exact ⟨h.1, h.2⟩
theorem whole_name {t : List UInt8} (h : isName t = true) : Whole t 0 t := by
  obtain ⟨h1, h2, h3⟩ := name_parts h
  have hL : Lx.isL (t.getD 0 0) = true := by
    have := h1 0 (by omega)
    unfold nmAt at this
    simp only [Lx.isL, decide_eq_true_eq]
    omega
  have hr : Lx.run Lx.inN t = t.length := run_all fun j hj => by
    have := h1 j hj
    unfold nmAt at this
    simp only [Lx.inN, Lx.isL, Lx.isD, Bool.or_eq_true, decide_eq_true_eq]
    omega
  have ht : Lx.tk t = (0, 0, t.length, t.length, true) := by unfold Lx.tk; rw [if_pos hL, hr, decide_eq_true h3]
  refine ⟨fun h => by rw [h] at h2; simp at h2, by rw [ht], by rw [ht], by rw [ht]; rfl, ?_⟩
  unfold Lx.txt; rw [ht]; simp
theorem text_parts {t : List UInt8} (h : isText t = true) : (∀ j, j < t.length → txAt t j) ∧ t.length ≤ 500 := by
  unfold isText at h
  simp only [Bool.and_eq_true, decide_eq_true_eq] at h
  exact h
theorem whole_text {t : List UInt8} (h : isText t = true) : Whole ([34] ++ t ++ [34]) 2 t := by
  obtain ⟨h1, h2⟩ := text_parts h
  have hr : Lx.run Lx.inS (t ++ [34]) = t.length := by
    rw [Lx.run_app (Lx.run_whole (run_all fun j hj => by
      have := h1 j hj
      unfold txAt at this
      simp only [Lx.inS, decide_eq_true_eq]
      exact this))]
    rfl
  have ht : Lx.tk ([34] ++ t ++ [34]) = (2, 1, t.length, t.length + 2, true) := by
    unfold Lx.tk
    rw [show ([34] ++ t ++ [34] : List UInt8).getD 0 0 = 34 from rfl, if_neg (by decide), if_neg (by decide), if_pos (by decide)]
    rw [show ([34] ++ t ++ [34] : List UInt8).drop 1 = t ++ [34] from rfl, hr]
    rw [decide_eq_true]
    refine ⟨by simp, ?_, h2⟩
    rw [show ([34] ++ t ++ [34] : List UInt8).getD (t.length + 1) 0 = (t ++ [34]).getD t.length 0 from rfl, Lx.getD_app2]
    rfl
  refine ⟨by simp, by rw [ht], by rw [ht]; simp, by rw [ht]; rfl, ?_⟩
  unfold Lx.txt; rw [ht]
  show (t ++ [34]).take t.length = t
  simp
theorem whole_num {t : List UInt8} (h : ∀ b ∈ t, Un.isD b = true) (h1 : 1 ≤ t.length) (h2 : t.length ≤ 24) : Whole t 1 t := by
  have hg : ∀ j, j < t.length → Lx.isD (t.getD j 0) = true := fun j hj => by
    have := Un.get_all h hj
    rw [Un.isD_iff] at this
    simp only [Lx.isD, decide_eq_true_eq]; exact this
  have hr : Lx.run Lx.isD t = t.length := run_all hg
  have hn : Lx.numN t = t.length := by
    unfold Lx.numN
    rw [hr, if_neg]; rintro ⟨h3, _⟩; omega
  have h0 := hg 0 (by omega)
  have hL : Lx.isL (t.getD 0 0) = false := by
    simp only [Lx.isD, decide_eq_true_eq] at h0
    simp only [Lx.isL, decide_eq_false_iff_not]; omega
  have ht : Lx.tk t = (1, 0, t.length, t.length, true) := by unfold Lx.tk; rw [hL, if_neg (by simp), if_pos h0, hn, decide_eq_true h2]
  refine ⟨fun h => by rw [h] at h1; simp at h1, by rw [ht], by rw [ht], by rw [ht]; rfl, ?_⟩
  unfold Lx.txt; rw [ht]; simp
theorem stp32 (R : List UInt8) : Lx.stp (32 :: R) := Lx.stp_cons (by decide)
theorem stp41 (R : List UInt8) : Lx.stp (41 :: R) := Lx.stp_cons (by decide)
theorem stp44 (R : List UInt8) : Lx.stp (44 :: R) := Lx.stp_cons (by decide)
theorem stp59 (R : List UInt8) : Lx.stp (59 :: R) := Lx.stp_cons (by decide)
theorem tk_sgn {c : UInt8} (R : List UInt8) (h : c = 123 ∨ c = 125 ∨ c = 40 ∨ c = 41 ∨ c = 44 ∨ c = 59) : Lx.tk (c :: R) = (3, 0, 1, 1, true) := by
  have hs : Lx.signN (c :: R) = 1 := by
    unfold Lx.signN
    rcases h with rfl | rfl | rfl | rfl | rfl | rfl <;> rfl
  unfold Lx.tk
  rw [hs]
  rcases h with rfl | rfl | rfl | rfl | rfl | rfl <;> rfl
theorem LexS.sgn {c : UInt8} {R : List UInt8} {E : List Tk} (h : c = 123 ∨ c = 125 ∨ c = 40 ∨ c = 41 ∨ c = 44 ∨ c = 59) (hR : LexS R E) : LexS (c :: R) ((3, [c]) :: E) := by
  have ht := tk_sgn R h
  have := LexS.tok (l := c :: R) (E := E) (by simp) (by rw [ht]) (by rw [ht]; exact hR)
  unfold Lx.txt at this
  rw [ht] at this
  exact this
theorem unit_names : ∀ d, d < 7 → d ≠ 0 → isName (Un.bases.getD d []) = true := by decide +kernel
theorem amt_lex {n d : Int} {R : List UInt8} {E : List Tk} (hw : Un.wri n d ≠ []) (hs : Lx.stp R) (hR : LexS R E) : LexS (Un.wri n d ++ R) (amtT n d ++ E) := by
  obtain ⟨u, e, rfl, rfl, hu, he⟩ := wri_ne hw
  have hin : 0 ≤ (e : Int) ∧ (e : Int) ≤ 6 ∧ 0 ≤ (u : Int) ∧ (u : Int) ≤ Un.M := by omega
  have hd : Whole (Go.Lib.decDigits u) 1 (Go.Lib.decDigits u) := whole_num (Un.dec_all u) (Un.dec_len_pos u) (by
    have := Un.dec_len_le (u := u) (k := 16) (by omega) (by unfold Un.M at hu; omega); omega)
  unfold Un.wri amtT
  rw [if_pos hin]
  by_cases h0 : e = 0
  · subst h0
    rw [if_pos (by omega), if_pos (by omega), Int.toNat_natCast]
    exact LexS.one hd hs hR
  · have hu := LexS.one (whole_name (unit_names e he h0)) hs hR
    rw [if_neg (by omega), if_neg (by omega), Int.toNat_natCast, Int.toNat_natCast]
    generalize Un.bases.getD e [] = bn at hu ⊢
    rw [List.append_assoc, List.append_assoc]
    exact LexS.one hd (stp32 _) (LexS.ws (by decide) hu)
mutual
theorem wr_lex : ∀ (x : Node) (g : Nat) (R : List UInt8) (E : List Tk), isVal g x = true → Lx.stp R → LexS R E → LexS (wr x ++ R) (tkV x ++ E)
  | ⟨k, t, n, d, a, ks⟩, g, R, E, hx, hs, hR => by
    rw [wr, tkV]
    by_cases h5 : k = 5
    · subst h5
      rw [isVal, if_pos rfl] at hx
      simp only [Bool.and_eq_true, decide_eq_true_eq] at hx
      rw [if_neg (by decide), if_pos rfl, if_pos rfl]
      exact amt_lex hx.2 hs hR
    · by_cases h6 : k = 6
      · subst h6
        rw [isVal, if_neg (by decide), if_pos rfl] at hx
        simp only [Bool.and_eq_true, decide_eq_true_eq] at hx
        rw [if_neg (by decide), if_neg (by decide), if_pos rfl, if_neg (by decide), if_pos rfl]
        rw [List.append_assoc, List.append_assoc]
        have hne : ks ≠ [] := fun h => by rw [h] at hx; exact hx.1.1.2 rfl
        exact LexS.sgn (by simp) (wrJ_lex ks (g + 1) R E hx.2 hne hR)
      · have hw := val_word hx h5 h6
        obtain ⟨_, _, _, h | h⟩ := word_cases hw
        · obtain ⟨h, h'⟩ := h
          simp only [] at h h'; subst h
          rw [if_neg (by decide), if_neg (by decide), if_neg (by decide), if_neg (by decide), if_neg (by decide), if_neg (by decide)]
          exact LexS.one (whole_name h') hs hR
        · obtain ⟨h, h'⟩ := h
          simp only [] at h h'; subst h
          rw [if_pos rfl, if_neg (by decide), if_neg (by decide), if_pos rfl]
          exact LexS.one (whole_text h') hs hR
theorem wrJ_lex : ∀ (xs : List Node) (g : Nat) (R : List UInt8) (E : List Tk), isVal.allVal g xs = true → xs ≠ [] → LexS R E → LexS (wr.wrJ xs ++ ([41] ++ R)) (tkV.tkL xs ++ E)
  | [x], g, R, E, hx, _, hR => by
    rw [isVal.allVal, Bool.and_eq_true] at hx
    rw [wr.wrJ, tkV.tkL, List.append_assoc]
    exact wr_lex x g _ _ hx.1 (stp41 _) (LexS.sgn (by simp) hR)
  | x :: y :: xs, g, R, E, hx, _, hR => by
    rw [isVal.allVal, Bool.and_eq_true] at hx
    rw [wr.wrJ, tkV.tkL, List.append_assoc, List.append_assoc, List.append_assoc]
    exact wr_lex x g _ _ hx.1 (stp44 _) (LexS.sgn (c := 44) (by simp) (LexS.ws (by decide) (wrJ_lex (y :: xs) g R E hx.2 (List.cons_ne_nil _ _) hR)))
end
theorem wrVs_stp (xs : List Node) {R : List UInt8} (hs : Lx.stp R) : Lx.stp (wrVs xs ++ R) := by
  cases xs with
  | nil => exact hs
  | cons x xs => exact stp32 _
theorem wrVs_lex : ∀ (xs : List Node) (R : List UInt8) (E : List Tk), (∀ x ∈ xs, isVal 0 x = true) → Lx.stp R → LexS R E → LexS (wrVs xs ++ R) (xs.flatMap tkV ++ E)
  | [], R, E, _, _, hR => hR
  | x :: xs, R, E, hx, hs, hR => by
    unfold wrVs
    rw [List.flatMap_cons, List.flatMap_cons, List.append_assoc, List.append_assoc, List.cons_append]
    exact LexS.ws (by decide) (wr_lex x 0 _ _ (hx x (List.mem_cons_self ..)) (wrVs_stp xs hs) (wrVs_lex xs R E (fun y hy => hx y (List.mem_cons_of_mem _ hy)) hs hR))
theorem goodP_all {l : List Node} (h : goodP l) : ∀ x ∈ l, isVal 0 x = true := fun x hx => by
  obtain ⟨i, hi, rfl⟩ := List.mem_iff_getElem.1 hx
  have := (h i hi).1
  rwa [List.getD_eq_getElem?_getD, List.getElem?_eq_getElem hi] at this
theorem wrProp_lex {x : Node} {R : List UInt8} {E : List Tk} (hx : isProp x = true) (hR : LexS R E) : LexS (wrProp x ++ R) (tkP x ++ E) := by
  obtain ⟨h1, h2, h3, h4, h5⟩ := prop_cases hx
  unfold wrProp tkP
  rw [show [32, 32] ++ x.Text ++ wrVs x.Kids ++ [59, 10] ++ R = 32 :: 32 :: (x.Text ++ (wrVs x.Kids ++ (59 :: 10 :: R))) by simp, show (0, x.Text) :: (x.Kids.flatMap tkV ++ [(3, [59])]) ++ E = (0, x.Text) :: (x.Kids.flatMap tkV ++ (3, [59]) :: E) by simp]
  exact LexS.ws (by decide) (LexS.ws (by decide) (LexS.one (whole_name h2) (wrVs_stp _ (stp59 _)) (wrVs_lex _ _ _ (goodP_all h5) (stp59 _) (LexS.sgn (by simp) (LexS.ws (by decide) hR)))))
theorem wrProps_lex : ∀ (xs : List Node) (R : List UInt8) (E : List Tk), (∀ x ∈ xs, isProp x = true) → LexS R E → LexS (xs.flatMap wrProp ++ R) (xs.flatMap tkP ++ E)
  | [], R, E, _, hR => hR
  | x :: xs, R, E, hx, hR => by
    rw [List.flatMap_cons, List.flatMap_cons, List.append_assoc, List.append_assoc]
    exact wrProp_lex (hx x (List.mem_cons_self ..)) (wrProps_lex xs R E (fun y hy => hx y (List.mem_cons_of_mem _ hy)) hR)
theorem prp_split {xs ys : List Node} (h1 : ∀ x ∈ xs, isWord x = true) (h2 : ∀ y ∈ ys, isProp y = true) : prpN (xs ++ ys) = xs.length := by
  unfold prpN
  induction xs with
  | nil =>
    cases ys with
    | nil => rfl
    | cons y ys => rw [List.nil_append, List.takeWhile_cons, decide_eq_true (prop_cases (h2 y (List.mem_cons_self ..))).1]; rfl
  | cons x xs ih =>
    have hk : x.Kind ≠ 2 := by have := word_kind (h1 x (List.mem_cons_self ..)); omega
    rw [List.cons_append, List.takeWhile_cons, decide_eq_false hk, if_pos (by decide), List.length_cons, List.length_cons, ih (fun z hz => h1 z (List.mem_cons_of_mem _ hz))]
theorem decl_prp {x : Node} (h : isDecl x = true) : prpN x.Kids = wrdN x.Kids := by
  obtain ⟨_, _, _, _, h1, h2⟩ := decl_cases h
  have h3 := prp_split h1 h2
  have h4 := wrdN_split h1 h2
  rw [List.take_append_drop] at h3 h4
  omega
theorem wrDecl_lex {x : Node} {R : List UInt8} {E : List Tk} (hx : isDecl x = true) (hR : LexS R E) : LexS (wrDecl x ++ R) (tkD x ++ E) := by
  obtain ⟨h1, h2, h3, h4, h5, h6⟩ := decl_cases hx
  unfold wrDecl tkD
  rw [decl_prp hx]
  rw [show x.Text ++ wrVs (x.Kids.take (wrdN x.Kids)) ++ [32, 123, 10] ++ (x.Kids.drop (wrdN x.Kids)).flatMap wrProp ++ [125, 10] ++ R = x.Text ++ (wrVs (x.Kids.take (wrdN x.Kids)) ++ (32 :: 123 :: 10 :: ((x.Kids.drop (wrdN x.Kids)).flatMap wrProp ++ (125 :: 10 :: R)))) by simp,
    show (0, x.Text) :: ((x.Kids.take (wrdN x.Kids)).flatMap tkV ++ (3, [123]) :: ((x.Kids.drop (wrdN x.Kids)).flatMap tkP ++ [(3, [125])])) ++ E = (0, x.Text) :: ((x.Kids.take (wrdN x.Kids)).flatMap tkV ++ ((3, [123]) :: ((x.Kids.drop (wrdN x.Kids)).flatMap tkP ++ (3, [125]) :: E))) by simp]
  exact LexS.one (whole_name h2) (wrVs_stp _ (stp32 _)) (wrVs_lex _ _ _ (fun y hy => isVal_word (h5 y hy)) (stp32 _) (LexS.ws (by decide) (LexS.sgn (by simp) (LexS.ws (by decide) (wrProps_lex _ _ _ h6 (LexS.sgn (by simp) (LexS.ws (by decide) hR)))))))
theorem wrDecls_lex : ∀ (xs : List Node) (R : List UInt8) (E : List Tk), (∀ x ∈ xs, isDecl x = true) → LexS R E → LexS (xs.flatMap wrDecl ++ R) (xs.flatMap tkD ++ E)
  | [], R, E, _, hR => hR
  | x :: xs, R, E, hx, hR => by
    rw [List.flatMap_cons, List.flatMap_cons, List.append_assoc, List.append_assoc]
    exact wrDecl_lex (hx x (List.mem_cons_self ..)) (wrDecls_lex xs R E (fun y hy => hx y (List.mem_cons_of_mem _ hy)) hR)
theorem write_lex {x : Node} (h : right x = true) : LexS (write x) (tkF x) := by
  unfold write tkF
  rw [if_pos h]
  have := wrDecls_lex x.Kids [] [(4, [])] (right_cases h).2.2.2.2 LexS.nil
  rwa [List.append_nil] at this
/-- a right tree is what is read from its written form -/
theorem parse_write {x : Node} (h : right x = true) (hl : (write x).length ≤ 65536) : ∃ y, parse (write x) = (y, 0, 0) ∧ eN y = eN x := by
  obtain ⟨L, h1, h2⟩ := lexS_scan (write_lex h) hl
  obtain ⟨y, r, h3, h4⟩ := fileN_all h h2
  refine ⟨y, ?_, h4⟩
  unfold parse parseT
  rw [h1]
  simp only [if_true, h3]
end Pa
