/- Lemmas. Conditions: those of each theorem. -/
import Derived.Test.YtnfmjfheciihjaaGreatDoorYLaidM
namespace Lx
def isL (c : UInt8) : Bool := decide ((97 ≤ c.toNat ∧ c.toNat ≤ 122) ∨ (65 ≤ c.toNat ∧ c.toNat ≤ 90))
def isD (c : UInt8) : Bool := decide (48 ≤ c.toNat ∧ c.toNat ≤ 57)
def inN (c : UInt8) : Bool := isL c || isD c || decide (c.toNat = 95)
def inS (c : UInt8) : Bool := decide (32 ≤ c.toNat ∧ c.toNat ≤ 126 ∧ c.toNat ≠ 34 ∧ c.toNat ≠ 92)
def nNl (c : UInt8) : Bool := decide (c.toNat ≠ 10)
def ws (c : UInt8) : Bool := decide (c.toNat = 9 ∨ c.toNat = 10 ∨ c.toNat = 13 ∨ c.toNat = 32)
def run (p : UInt8 → Bool) : List UInt8 → Nat
 | [] => 0
 | c :: r => if p c then run p r + 1 else 0
def skp : Bool → List UInt8 → Nat
 | _, [] => 0
 | true, c :: r => if c.toNat = 10 then skp false r + 1 else skp true r + 1
 | false, c :: r => if ws c then skp false r + 1 else if c.toNat = 35 then skp true r + 1 else 0
def signN (l : List UInt8) : Nat :=
 let c := (l.getD 0 0).toNat
 if c = 60 ∨ c = 62 ∨ c = 61 ∨ c = 33 then (if 1 < l.length ∧ (l.getD 1 0).toNat = 61 then 2 else if c ≠ 33 then 1 else 0)
 else if c = 123 ∨ c = 125 ∨ c = 40 ∨ c = 41 ∨ c = 44 ∨ c = 59 ∨ c = 58 ∨ c = 43 ∨ c = 45 ∨ c = 42 ∨ c = 47 ∨ c = 37 then 1 else 0
def numN (l : List UInt8) : Nat :=
 if run isD l + 1 < l.length ∧ (l.getD (run isD l) 0).toNat = 46 ∧ isD (l.getD (run isD l + 1) 0) = true then run isD l + 1 + run isD (l.drop (run isD l + 1)) else run isD l
def tk (l : List UInt8) : Nat × Nat × Nat × Nat × Bool :=
 if isL (l.getD 0 0) then (0, 0, run inN l, run inN l, decide (run inN l ≤ 24))
 else if isD (l.getD 0 0) then (1, 0, numN l, numN l, decide (numN l ≤ 24))
 else if (l.getD 0 0).toNat = 34 then (2, 1, run inS (l.drop 1), run inS (l.drop 1) + 2, decide (run inS (l.drop 1) + 1 < l.length ∧ (l.getD (run inS (l.drop 1) + 1) 0).toNat = 34 ∧ run inS (l.drop 1) ≤ 500))
 else (3, 0, signN l, signN l, decide (0 < signN l))
def txt (l : List UInt8) : List UInt8 := (l.drop (tk l).2.1).take (tk l).2.2.1
theorem run_le (p : UInt8 → Bool) : ∀ l, run p l ≤ l.length
 | [] => Nat.le_refl _
 | c :: r => by have := run_le p r; unfold run; split <;> simp <;> omega
theorem drop_cons {l : List UInt8} {k : Nat} (h : k < l.length) : l.drop k = l.getD k 0 :: l.drop (k + 1) := by
 rw [gDD, List.getElem?_eq_getElem h]; exact List.drop_eq_getElem_cons h
theorem run_yes {p : UInt8 → Bool} {l : List UInt8} {k : Nat} (h : k < l.length) (hp : p (l.getD k 0) = true) : run p (l.drop k) = run p (l.drop (k + 1)) + 1 := by
 rw [drop_cons h]; unfold run; rw [if_pos hp, run.eq_def]
theorem run_no {p : UInt8 → Bool} {l : List UInt8} {k : Nat} (h : k < l.length) (hp : p (l.getD k 0) = false) : run p (l.drop k) = 0 := by
 rw [drop_cons h]; unfold run; rw [if_neg (by rw [hp]; simp)]
theorem run_end {p : UInt8 → Bool} {l : List UInt8} {k : Nat} (h : l.length ≤ k) : run p (l.drop k) = 0 := by
 rw [List.drop_of_length_le h]; rfl
theorem run_drop_le (p : UInt8 → Bool) (l : List UInt8) (k : Nat) (h : k ≤ l.length) : k + run p (l.drop k) ≤ l.length := by
 have := run_le p (l.drop k); rw [List.length_drop] at this; omega
theorem skp_le : ∀ (b : Bool) (l : List UInt8), skp b l ≤ l.length
 | true, [] => Nat.le_refl _
 | false, [] => Nat.le_refl _
 | true, c :: r => by have h1 := skp_le true r; have h2 := skp_le false r; unfold skp; split <;> simp <;> omega
 | false, c :: r => by have h1 := skp_le true r; have h2 := skp_le false r; unfold skp; split <;> (try split) <;> simp <;> omega
theorem skp_true : ∀ (l : List UInt8), skp true l = run nNl l + skp false (l.drop (run nNl l))
 | [] => rfl
 | c :: r => by
  have ih := skp_true r
  unfold run
  by_cases hc : c.toNat = 10
  ·
   have hn : nNl c = false := by simp [nNl, hc]
   have hw : ws c = true := by simp [ws, hc]
   rw [hn, if_neg (by simp), Nat.zero_add, List.drop_zero]
   unfold skp
   rw [if_pos hc, if_pos hw]
  ·
   have hn : nNl c = true := by simp [nNl, hc]
   rw [hn, if_pos rfl, List.drop_succ_cons]
   rw [show skp true (c :: r) = skp true r + 1 by rw [skp]; rw [if_neg hc], ih]; omega
theorem skp_ws {l : List UInt8} {k : Nat} (h : k < l.length) (hw : ws (l.getD k 0) = true) : skp false (l.drop k) = skp false (l.drop (k + 1)) + 1 := by
 rw [drop_cons h, skp, if_pos hw]
theorem skp_com {l : List UInt8} {k : Nat} (h : k < l.length) (hc : (l.getD k 0).toNat = 35) : skp false (l.drop k) = run nNl (l.drop k) + skp false (l.drop (k + run nNl (l.drop k))) := by
 have hn : nNl (l.getD k 0) = true := by simp only [nNl, hc]; decide
 have hw : ws (l.getD k 0) = false := by simp only [ws, hc]; decide
 rw [run_yes h hn]
 rw [drop_cons h, skp, if_neg (by rw [hw]; simp), if_pos hc, skp_true, List.drop_drop]
 rw [show k + (run nNl (l.drop (k + 1)) + 1) = k + 1 + run nNl (l.drop (k + 1)) by omega]
 omega
theorem skp_no {l : List UInt8} {k : Nat} (h : k < l.length) (hw : ws (l.getD k 0) = false) (hc : (l.getD k 0).toNat ≠ 35) : skp false (l.drop k) = 0 := by
 rw [drop_cons h, skp, if_neg (by rw [hw]; simp), if_neg hc]
theorem skp_end {l : List UInt8} {k : Nat} (h : l.length ≤ k) : skp false (l.drop k) = 0 := by
 rw [List.drop_of_length_le h]; rfl
theorem getD_drop (l : List UInt8) (k i : Nat) : (l.drop k).getD i 0 = l.getD (k + i) 0 := by
 rw [gDD, gDD, List.getElem?_drop]
theorem signN_le (l : List UInt8) : signN l ≤ l.length := by
 unfold signN
 simp only []
 cases l with
 | nil => decide
 | cons c r => split <;> (try split) <;> (try split) <;> simp_all <;> omega
end Lx
namespace Bt
structure Token where
 Kind : Int
 Text : List UInt8
 At : Int
instance : Inhabited Token := ⟨⟨0, [], 0⟩⟩
end Bt
namespace Lx
theorem run_pos {p : UInt8 → Bool} {l : List UInt8} (h : 0 < l.length) (hp : p (l.getD 0 0) = true) : 1 ≤ run p l := by
 have := run_yes (p := p) (k := 0) h hp
 rw [List.drop_zero] at this; omega
theorem numN_le (l : List UInt8) : numN l ≤ l.length := by
 unfold numN
 have h1 := run_le isD l
 split
 ·
  have h2 := run_le isD (l.drop (run isD l + 1))
  rw [List.length_drop] at h2
  omega
 ·
  exact h1
theorem numN_pos {l : List UInt8} (h : 0 < l.length) (hp : isD (l.getD 0 0) = true) : 1 ≤ numN l := by
 have := run_pos (p := isD) h hp
 unfold numN
 split <;> omega
theorem tk_ok {l : List UInt8} (h : 0 < l.length) (hk : (tk l).2.2.2.2 = true) : 1 ≤ (tk l).2.2.2.1 ∧ (tk l).2.2.2.1 ≤ l.length := by
 unfold tk at hk ⊢
 split at hk <;> rename_i h1
 ·
  rw [if_pos h1]
  exact ⟨run_pos h (by unfold inN; rw [h1]; rfl), run_le _ _⟩
 ·
  rw [if_neg h1]
  split at hk <;> rename_i h2
  ·
   rw [if_pos h2]; exact ⟨numN_pos h h2, numN_le _⟩
  ·
   rw [if_neg h2]
   split at hk <;> rename_i h3
   ·
    rw [if_pos h3]
    simp only [decide_eq_true_eq] at hk
    exact ⟨by simp, by simp only []; omega⟩
   ·
    rw [if_neg h3]
    simp only [decide_eq_true_eq] at hk
    exact ⟨hk, signN_le l⟩
theorem txt_le (l : List UInt8) : (txt l).length ≤ l.length := by
 unfold txt; rw [List.length_take, List.length_drop]; omega
def stm : Nat → List UInt8 → Nat → List (Bt.Token × Bool)
 | 0, _, _ => []
 | n + 1, s, a => if a < s.length then
   (⟨((tk (s.drop a)).1 : Nat), txt (s.drop a), (a : Nat)⟩, (tk (s.drop a)).2.2.2.2) ::
    (if (tk (s.drop a)).2.2.2.2 then stm n s (a + (tk (s.drop a)).2.2.2.1 + skp false (s.drop (a + (tk (s.drop a)).2.2.2.1))) else [])
  else [(⟨4, [], s.length⟩, true)]
def seqT (s : List UInt8) : List (Bt.Token × Bool) := stm (s.length + 1) s (skp false s)
theorem stm_len : ∀ (n : Nat) (s : List UInt8) (a : Nat), (stm n s a).length ≤ n
 | 0, _, _ => Nat.le_refl _
 | n + 1, s, a => by
  unfold stm
  split
  ·
   split
   ·
    have := stm_len n s (a + (tk (s.drop a)).2.2.2.1 + skp false (s.drop (a + (tk (s.drop a)).2.2.2.1)))
    simp only [List.length_cons]; omega
   ·
    simp
  ·
   simp
theorem stm_end {n : Nat} {s : List UInt8} {a : Nat} (h : s.length ≤ a) : stm (n + 1) s a = [(⟨4, [], s.length⟩, true)] := by
 unfold stm; rw [if_neg (by omega)]
theorem stm_tok {n : Nat} {s : List UInt8} {a : Nat} (h : a < s.length) (hk : (tk (s.drop a)).2.2.2.2 = true) :
  stm (n + 1) s a = (⟨((tk (s.drop a)).1 : Nat), txt (s.drop a), (a : Nat)⟩, true) :: stm n s (a + (tk (s.drop a)).2.2.2.1 + skp false (s.drop (a + (tk (s.drop a)).2.2.2.1))) := by
 rw [stm, if_pos h, hk, if_pos rfl]
theorem stm_bad {n : Nat} {s : List UInt8} {a : Nat} (h : a < s.length) (hk : (tk (s.drop a)).2.2.2.2 = false) :
  stm (n + 1) s a = [(⟨((tk (s.drop a)).1 : Nat), txt (s.drop a), (a : Nat)⟩, false)] := by
 rw [stm, if_pos h, hk, if_neg (by simp)]
def wfT (N : Nat) (t : Bt.Token) : Prop := 0 ≤ t.Kind ∧ t.Kind ≤ 4 ∧ t.Text.length ≤ N ∧ 0 ≤ t.At ∧ t.At ≤ N
theorem tk_kind (l : List UInt8) : (tk l).1 ≤ 3 := by
 unfold tk; split <;> (try split) <;> (try split) <;> simp
theorem wf_tok {s : List UInt8} {a : Nat} (h : a ≤ s.length) : wfT s.length ⟨((tk (s.drop a)).1 : Nat), txt (s.drop a), (a : Nat)⟩ := by
 have h1 := tk_kind (s.drop a)
 have h2 := txt_le (s.drop a)
 rw [List.length_drop] at h2
 refine ⟨?_, ?_, ?_, ?_, ?_⟩ <;> simp only [] <;> omega
theorem wf_end (s : List UInt8) : wfT s.length ⟨4, [], s.length⟩ := by
 refine ⟨?_, ?_, ?_, ?_, ?_⟩ <;> simp
def scan (s : List UInt8) : List Bt.Token × Int × Int :=
 if 65536 < s.length then ([], 8, 0)
 else match (seqT s).find? (fun x => !x.2) with
  | some x => ([], 2, x.1.At)
  | none => ((seqT s).map (·.1), 0, 0)
end Lx
namespace Lx
theorem bad_find : ∀ (n : Nat) (s : List UInt8) (a : Nat) (y : Bt.Token × Bool), y ∈ stm n s a → y.2 = false → (stm n s a).find? (fun x => !x.2) = some y
 | 0, _, _, _, h, _ => by cases h
 | n + 1, s, a, y, h, hy => by
  by_cases ha : a < s.length
  ·
   cases hk : (tk (s.drop a)).2.2.2.2 with
   | true =>
    rw [stm_tok ha hk] at h ⊢
    rcases List.mem_cons.1 h with rfl | h
    ·
     cases hy
    ·
     rw [List.find?_cons_of_neg (by simp)]; exact bad_find n s _ y h hy
   | false =>
    rw [stm_bad ha hk] at h ⊢
    obtain rfl := List.mem_singleton.1 h
    rfl
  ·
   rw [stm_end (by omega)] at h
   obtain rfl := List.mem_singleton.1 h
   cases hy
theorem scan_ok {s : List UInt8} (h : s.length ≤ 65536) (ha : ∀ x ∈ seqT s, x.2 = true) : scan s = ((seqT s).map (·.1), 0, 0) := by
 unfold scan
 rw [if_neg (by omega), List.find?_eq_none.2 (fun x hx => by simp [ha x hx])]
theorem scan_bad {s : List UInt8} (h : s.length ≤ 65536) {y : Bt.Token × Bool} (hy : y ∈ seqT s) (hb : y.2 = false) : scan s = ([], 2, y.1.At) := by
 unfold scan
 rw [if_neg (by omega), show (seqT s).find? (fun x => !x.2) = some y from bad_find _ _ _ _ hy hb]
end Lx
namespace Un
open Go
theorem okF_bef {l : List UInt8} (h : okF l = true) : ∀ b ∈ bef l, isD b = true := fun b hb => okF_all h b (List.mem_append_left _ hb)
theorem okF_aft {l : List UInt8} (h : okF l = true) : ∀ b ∈ aft l, isD b = true := fun b hb => okF_all h b (List.mem_append_right _ hb)
theorem amt_none {l n : List UInt8} (h : okF l = true) (hf : look n = none) : amt l n = (0, 0, 6) := by
  unfold amt; rw [if_pos h, hf]
theorem amt_prod {l n : List UInt8} (h : okF l = true) {m : Mea} (hf : look n = some m) : amt l n = if (prod (valC (bef l)) (aft l) m).2 = true then ((prod (valC (bef l)) (aft l) m).1, m.2.1, 0) else (0, 0, 7) := by
  obtain ⟨_, hn1, _, hd1, _, hdn⟩ := ms_facts m (look_mem hf).1
  unfold amt
  rw [if_pos h, hf]
  simp only [val_append]
  by_cases hw : val (bef l) ≤ M
  · have e : valC (bef l) = val (bef l) := by rw [valC_eq]; omega
    rw [e]
    by_cases h1 : (val (bef l) * 10 ^ (aft l).length + val (aft l)) * m.2.2.1 % (10 ^ (aft l).length * m.2.2.2) = 0
    · by_cases h2 : (val (bef l) * 10 ^ (aft l).length + val (aft l)) * m.2.2.1 / (10 ^ (aft l).length * m.2.2.2) ≤ M
      · rw [if_pos ⟨h1, h2⟩, prod_yes hw h1 h2]; rfl
      · rw [if_neg (fun hh => h2 hh.2), prod_no (.inr (.inr (by omega)))]; rfl
    · rw [if_neg (fun hh => h1 hh.1), prod_no (.inr (.inl h1))]; rfl
  · have e : valC (bef l) = M + 1 := by rw [valC_eq]; omega
    rw [e, prod_no (.inl (by omega))]
    rw [if_neg (fun hh => too_great (F := val (aft l)) (f := (aft l).length) (by omega : M < val (bef l)) hdn hd1 hh.2)]; rfl
end Un
namespace Un
open Go
/-! ### for the reference's walks -/
end Un
namespace Bt
structure Node where
  Kind : Int
  Text : List UInt8
  N : Int
  Dim : Int
  At : Int
  Kids : List Node
instance : Inhabited Node := ⟨⟨0, [], 0, 0, 0, []⟩⟩
end Bt
namespace Un
theorem amt_le (l n : List UInt8) : (amt l n).1 ≤ 1125899906842624 ∧ (amt l n).2.1 ≤ 6 := by
  unfold amt
  split
  · split
    · simp
    · rename_i m hm
      have h1 := ms_facts m (look_mem hm).1
      split
      · rename_i h
        exact ⟨h.2, h1.1⟩
      · simp
  · simp
end Un
namespace Pa
open Bt
abbrev Er := Int × Int
abbrev R (α : Type) := Except Er (α × List Token)
def pk (ts : List Token) : Token := ts.headD default
def isS (c : List UInt8) (ts : List Token) : Bool := decide ((pk ts).Kind = 3) && decide ((pk ts).Text = c)
def wrd (k : Int) (t : Token) : Node := ⟨k, t.Text, 0, 0, t.At, []⟩
def fail {α : Type} (ts : List Token) : R α := .error (2, (pk ts).At)
def nameP (ts : List Token) : R Token := if (pk ts).Kind = 0 then .ok (pk ts, ts.tail) else fail ts
def wordP (ts : List Token) : R Node := if (pk ts).Kind = 0 then .ok (wrd 3 (pk ts), ts.tail) else if (pk ts).Kind = 2 then .ok (wrd 4 (pk ts), ts.tail) else fail ts
def isUnit (t : List UInt8) : Bool := !decide ((Un.amt [48] t).2.2 = 6)
def unitOf (ts : List Token) : List UInt8 := if (pk ts).Kind = 0 ∧ isUnit (pk ts).Text = true then (pk ts).Text else []
def unitRest (ts : List Token) : List Token := if (pk ts).Kind = 0 ∧ isUnit (pk ts).Text = true then ts.tail else ts
def amtP (ts : List Token) : R Node :=
  let a := Un.amt (pk ts).Text (unitOf ts.tail)
  if a.2.2 = 0 then .ok (⟨5, [], a.1, a.2.1, (pk ts).At, []⟩, unitRest ts.tail) else .error (7, (pk ts).At)
def grp (at_ : Int) (ks : List Node) : Node := ⟨6, [], 0, 0, at_, ks⟩
mutual
def valP : Nat → Nat → List Token → R Node
  | 0, _, _ => .error (0, 0)
  | f + 1, g, ts =>
    if (pk ts).Kind = 1 then amtP ts
    else if isS [40] ts = true then
      (if 40 ≤ g then .error (8, (pk ts).At) else match grpP f (g + 1) ts.tail with
        | .error e => .error e
        | .ok (xs, r) => .ok (grp (pk ts).At xs, r))
    else wordP ts
def grpP : Nat → Nat → List Token → R (List Node)
  | 0, _, _ => .error (0, 0)
  | f + 1, g, ts => match valP f g ts with
    | .error e => .error e
    | .ok (x, r) =>
      if isS [41] r = true then .ok ([x], r.tail)
      else if isS [44] r = true then (match grpP f g r.tail with
        | .error e => .error e
        | .ok (xs, r') => .ok (x :: xs, r'))
      else fail r
end
def many (c : List UInt8) (p : List Token → R Node) : Nat → List Token → R (List Node)
  | 0, _ => .error (0, 0)
  | f + 1, ts => if isS c ts = true then .ok ([], ts.tail) else match p ts with
    | .error e => .error e
    | .ok (x, r) => (match many c p f r with
      | .error e => .error e
      | .ok (xs, r') => .ok (x :: xs, r'))
def val0 (ts : List Token) : R Node := valP (2 * ts.length) 0 ts
def propP (ts : List Token) : R Node := match nameP ts with
  | .error e => .error e
  | .ok (t, r) => (match many [59] val0 r.length r with
    | .error e => .error e
    | .ok (xs, r') => .ok (⟨2, t.Text, 0, 0, t.At, xs⟩, r'))
def declP (ts : List Token) : R Node := match nameP ts with
  | .error e => .error e
  | .ok (t, r) => (match many [123] wordP r.length r with
    | .error e => .error e
    | .ok (xs, r') => (match many [125] propP r'.length r' with
      | .error e => .error e
      | .ok (ys, r'') => .ok (⟨1, t.Text, 0, 0, t.At, xs ++ ys⟩, r'')))
def fileP : Nat → List Token → R (List Node)
  | 0, _ => .error (0, 0)
  | f + 1, ts => if (pk ts).Kind = 4 then .ok ([], ts) else match declP ts with
    | .error e => .error e
    | .ok (x, r) => (match fileP f r with
      | .error e => .error e
      | .ok (xs, r') => .ok (x :: xs, r'))
def fileN (ts : List Token) : R Node := match fileP (ts.length + 1) ts with
  | .error e => .error e
  | .ok (xs, r) => .ok (⟨0, [], 0, 0, 0, xs⟩, r)
def parseT (ts : List Token) : Node × Int × Int := match fileN ts with
  | .error e => (default, e.1, e.2)
  | .ok (x, _) => (x, 0, 0)
def parse (s : List UInt8) : Node × Int × Int :=
  if (Lx.scan s).2.1 = 0 then parseT (Lx.scan s).1 else (default, (Lx.scan s).2.1, (Lx.scan s).2.2)
def good : List Token → Prop
  | [] => False
  | [t] => t.Kind = 4
  | _ :: u :: r => good (u :: r)
theorem good_ne {ts : List Token} (h : good ts) : ts ≠ [] := by rintro rfl; exact h
theorem good_tail {ts : List Token} (h : good ts) (hk : (pk ts).Kind ≠ 4) : good ts.tail ∧ ts.tail.length + 1 = ts.length := by
  match ts, h with
  | [t], h => exact absurd h hk
  | _ :: u :: r, h => exact ⟨h, rfl⟩
theorem suf_get {toks ts : List Token} (h : ts <:+ toks) (hn : ts ≠ []) : toks.length - ts.length < toks.length ∧ toks.getD (toks.length - ts.length) default = pk ts := by
  obtain ⟨pre, rfl⟩ := h
  have : 0 < ts.length := List.length_pos_iff.2 hn
  refine ⟨by rw [List.length_append]; omega, ?_⟩
  rw [List.length_append, Nat.add_sub_cancel, pk, gDD, List.getElem?_append_right (Nat.le_refl _), Nat.sub_self, List.headD_eq_head?_getD, List.head?_eq_getElem?]
theorem suf_len {toks ts : List Token} (h : ts <:+ toks) : ts.length ≤ toks.length := h.length_le
def Ad (ts r : List Token) : Prop := r <:+ ts ∧ good r ∧ r.length < ts.length
theorem Ad.trans {a b c : List Token} (h : Ad a b) (k : Ad b c) : Ad a c := ⟨k.1.trans h.1, k.2.1, Nat.lt_trans k.2.2 h.2.2⟩
theorem ad_tail {ts : List Token} (h : good ts) (hk : (pk ts).Kind ≠ 4) : Ad ts ts.tail := by
  obtain ⟨h1, h2⟩ := good_tail h hk
  exact ⟨List.tail_suffix _, h1, by omega⟩
theorem unit_ok {ts : List Token} (hg : good ts) : unitRest ts <:+ ts ∧ good (unitRest ts) ∧ (unitRest ts).length ≤ ts.length := by
  unfold unitRest
  split
  · rename_i h
    obtain ⟨h1, h2⟩ := good_tail hg (by omega)
    exact ⟨List.tail_suffix _, h1, by omega⟩
  · exact ⟨List.suffix_refl _, hg, Nat.le_refl _⟩
theorem stm_good {s : List UInt8} : ∀ (n a : Nat), s.length - a < n → a ≤ s.length → (∀ x ∈ Lx.stm n s a, x.2 = true) → good ((Lx.stm n s a).map (·.1)) ∧ ∀ t ∈ (Lx.stm n s a).map (·.1), Lx.wfT s.length t
  | 0, _, h, _, _ => by omega
  | n + 1, a, h, ha, hall => by
    by_cases hlt : a < s.length
    · cases hk : (Lx.tk (s.drop a)).2.2.2.2 with
      | false =>
        rw [Lx.stm_bad hlt hk] at hall
        have := hall _ (List.mem_singleton.2 rfl)
        cases this
      | true =>
        rw [Lx.stm_tok hlt hk] at hall ⊢
        have hld : (s.drop a).length = s.length - a := List.length_drop
        obtain ⟨h1, h2⟩ := Lx.tk_ok (l := s.drop a) (by omega) hk
        have h3 := Lx.skp_le false (s.drop (a + (Lx.tk (s.drop a)).2.2.2.1))
        rw [List.length_drop] at h3
        obtain ⟨h4, h5⟩ := stm_good n (a + (Lx.tk (s.drop a)).2.2.2.1 + Lx.skp false (s.drop (a + (Lx.tk (s.drop a)).2.2.2.1))) (by omega) (by omega) (fun x hx => hall x (List.mem_cons_of_mem _ hx))
        refine ⟨?_, fun t ht => ?_⟩
        · rw [List.map_cons]
          generalize (Lx.stm n s _).map (·.1) = L at h4
          cases L with
          | nil => exact h4.elim
          | cons u r => exact h4
        · rw [List.map_cons] at ht
          rcases List.mem_cons.1 ht with rfl | ht
          · exact Lx.wf_tok (by omega)
          · exact h5 t ht
    · rw [Lx.stm_end (by omega)]
      exact ⟨rfl, fun t ht => by obtain rfl := List.mem_singleton.1 ht; exact Lx.wf_end s⟩
theorem scan_good {s : List UInt8} (h : (Lx.scan s).2.1 = 0) : good (Lx.scan s).1 ∧ (∀ t ∈ (Lx.scan s).1, Lx.wfT 65536 t) ∧ (Lx.scan s).1.length ≤ 65537 ∧ s.length ≤ 65536 ∧ (Lx.scan s).1 = (Lx.seqT s).map (·.1) ∧ ∀ x ∈ Lx.seqT s, x.2 = true := by
  by_cases h1 : 65536 < s.length
  · unfold Lx.scan at h; rw [if_pos h1] at h; cases h
  · by_cases h2 : ∀ x ∈ Lx.seqT s, x.2 = true
    · rw [Lx.scan_ok (by omega) h2]
      have h0 := Lx.skp_le false s
      obtain ⟨h3, h4⟩ := stm_good (s := s) (s.length + 1) (Lx.skp false s) (by omega) h0 h2
      refine ⟨h3, fun t ht => ?_, ?_, by omega, rfl, h2⟩
      · obtain ⟨k1, k2, k3, k4, k5⟩ := h4 t ht
        exact ⟨k1, k2, by omega, k4, by omega⟩
      · have := Lx.stm_len (s.length + 1) s (Lx.skp false s)
        simp only [Lx.seqT, List.length_map]; omega
    · exfalso
      apply h2
      intro x hx
      cases hb : x.2 with
      | true => rfl
      | false => rw [Lx.scan_bad (by omega) hx hb] at h; cases h
end Pa
namespace Bt
structure Nd where
  Kind : Int
  n : Int
  of_ : Int
  of2 : Int
  At : Int
  name : Token
  owner : Token
  kids : List Nd
instance : Inhabited Nd := ⟨⟨0, 0, 0, 0, 0, default, default, []⟩⟩
structure Prm where
  name : Token
  kind : Int
instance : Inhabited Prm := ⟨⟨default, 0⟩⟩
structure Fn where
  name : Token
  params : List Prm
  result : Int
  body : Nd
instance : Inhabited Fn := ⟨⟨default, [], 0, default⟩⟩
structure Cl where
  link : Token
  cond : Nd
  value : Nd
instance : Inhabited Cl := ⟨⟨default, default, default⟩⟩
end Bt
namespace Ru
open Bt Pa
abbrev sIf : List UInt8 := [105, 102]
abbrev sThen : List UInt8 := [116, 104, 101, 110]
abbrev sElse : List UInt8 := [101, 108, 115, 101]
abbrev sOr : List UInt8 := [111, 114]
abbrev sAnd : List UInt8 := [97, 110, 100]
abbrev sPlus : List UInt8 := [43]
abbrev sMinus : List UInt8 := [45]
abbrev sStar : List UInt8 := [42]
abbrev sSlash : List UInt8 := [47]
abbrev sNot : List UInt8 := [110, 111, 116]
abbrev sLt : List UInt8 := [60]
abbrev sLe : List UInt8 := [60, 61]
abbrev sGt : List UInt8 := [62]
abbrev sGe : List UInt8 := [62, 61]
abbrev sEq : List UInt8 := [61, 61]
abbrev sNe : List UInt8 := [33, 61]
abbrev sLp : List UInt8 := [40]
abbrev sRp : List UInt8 := [41]
abbrev sComma : List UInt8 := [44]
abbrev sColon : List UInt8 := [58]
abbrev sIs : List UInt8 := [61]
abbrev sDef : List UInt8 := [100, 101, 102]
abbrev sWhen : List UInt8 := [119, 104, 101, 110]
abbrev sSet : List UInt8 := [115, 101, 116]
abbrev sTo : List UInt8 := [116, 111]
abbrev sInt : List UInt8 := [105, 110, 116]
abbrev sBool : List UInt8 := [98, 111, 111, 108]
abbrev sVolume : List UInt8 := [118, 111, 108, 117, 109, 101]
abbrev sLevel : List UInt8 := [108, 101, 118, 101, 108]
abbrev sOwned : List UInt8 := [111, 119, 110, 101, 100]
abbrev sPos : List UInt8 := [112, 111, 115]
abbrev sCrest : List UInt8 := [99, 114, 101, 115, 116]
abbrev sHour : List UInt8 := [104, 111, 117, 114]
abbrev sDay : List UInt8 := [100, 97, 121]
abbrev sMonth : List UInt8 := [109, 111, 110, 116, 104]
abbrev sTrue : List UInt8 := [116, 114, 117, 101]
abbrev sFalse : List UInt8 := [102, 97, 108, 115, 101]
abbrev S := List Token × Int
abbrev R (α : Type) := Except (Int × Int) (α × S)
def bnd {α β : Type} (x : R α) (k : α → S → R β) : R β := match x with
  | .error e => .error e
  | .ok (a, s) => k a s
def kw (t : List UInt8) : Bool := [sDef, sInt, sBool, sWhen, sThen, sSet, sTo, sIf, sElse, sOr, sAnd, sNot, sTrue, sFalse, sVolume, sLevel, sOwned, sPos, sCrest, sHour, sDay, sMonth].contains t
def factOf (t : List UInt8) : Option Int :=
  if t = sVolume then some 0 else if t = sLevel then some 1 else if t = sOwned then some 2 else if t = sPos then some 3 else if t = sHour then some 4 else if t = sDay then some 5 else if t = sMonth then some 6 else if t = sCrest then some 7 else none
def isT (c : List UInt8) (ts : List Token) : Bool := (decide ((pk ts).Kind = 0) || decide ((pk ts).Kind = 3)) && decide ((pk ts).Text = c)
def fail {α : Type} (s : S) : R α := .error ((pk s.1).At, s.2)
def exp (c : List UInt8) (s : S) : R Unit := if isT c s.1 = true then .ok ((), s.1.tail, s.2) else fail s
def nameR (s : S) : R Token := if (pk s.1).Kind = 0 then .ok (pk s.1, s.1.tail, s.2) else fail s
def identR (s : S) : R Token := if kw (pk s.1).Text = true then fail s else nameR s
def kindR (s : S) : R Int := if isT sInt s.1 = true then .ok (0, s.1.tail, s.2) else bnd (exp sBool s) fun _ s => .ok (1, s)
def nd (k a : Int) (ks : List Nd) : Nd := ⟨k, 0, 0, 0, a, default, default, ks⟩
def numR (s : S) : R Nd :=
  let a := Un.amt (pk s.1).Text (unitOf s.1.tail)
  .ok (⟨0, a.1, 0, 0, (pk s.1).At, default, default, []⟩, unitRest s.1.tail, if a.2.2 ≠ 0 ∧ s.2 < 0 then (pk s.1).At else s.2)
def truth (t : Token) : Nd := nd 10 t.At [nd 0 t.At [], ⟨0, if t.Text = sFalse then 1 else 0, 0, 0, t.At, default, default, []⟩]
def factR (t : Token) (k : Int) (s : S) : R Nd :=
  if k = 4 ∨ k = 5 ∨ k = 6 then .ok (⟨1, k, 0, 0, t.At, default, default, []⟩, s)
  else bnd (exp sLp s) fun _ s => bnd (nameR s) fun nm s =>
    if k = 2 then bnd (exp sComma s) fun _ s => bnd (nameR s) fun ow s => bnd (exp sRp s) fun _ s => .ok (⟨1, k, 0, 0, t.At, nm, ow, []⟩, s)
    else bnd (exp sRp s) fun _ s => .ok (⟨1, k, 0, 0, t.At, nm, default, []⟩, s)
def opOf (n : Nat) (ts : List Token) : Option Int :=
  if n = 0 then (if isT sOr ts then some 12 else none)
  else if n = 1 then (if isT sAnd ts then some 11 else none)
  else if n = 2 then (if isT sPlus ts then some 4 else if isT sMinus ts then some 5 else none)
  else (if isT sStar ts then some 6 else if isT sSlash ts then some 7 else none)
def cmpSign (t : List UInt8) : Bool := [sLt, sLe, sGt, sGe, sEq, sNe].contains t
def rel (op : List UInt8) (x y : Nd) : Nd :=
  if op = sLt then nd 8 x.At [x, y] else if op = sLe then nd 9 x.At [x, y] else if op = sGt then nd 8 x.At [y, x] else if op = sGe then nd 9 x.At [y, x]
  else if op = sNe then nd 3 x.At [nd 10 x.At [x, y]] else nd 10 x.At [x, y]
mutual
def expr : Nat → S → R Nd
  | 0, _ => .error (0, 0)
  | f + 1, s =>
    if isT sIf s.1 = true then
      bnd (expr f (s.1.tail, s.2)) fun x s1 => bnd (exp sThen s1) fun _ s2 => bnd (expr f s2) fun y s3 => bnd (exp sElse s3) fun _ s4 => bnd (expr f s4) fun z s5 => .ok (nd 13 (pk s.1).At [x, y, z], s5)
    else level f 0 s
def level : Nat → Nat → S → R Nd
  | 0, _, _ => .error (0, 0)
  | f + 1, n, s => bnd (below f n s) fun x s1 => lvl f n x s1
def lvl : Nat → Nat → Nd → S → R Nd
  | 0, _, _, _ => .error (0, 0)
  | f + 1, n, x, s => match opOf n s.1 with
    | none => .ok (x, s)
    | some k => bnd (below f n (s.1.tail, s.2)) fun y s1 => lvl f n (nd k x.At [x, y]) s1
def below : Nat → Nat → S → R Nd
  | 0, _, _ => .error (0, 0)
  | f + 1, n, s => if n = 1 then neg f s else if n = 3 then factor f s else level f (n + 1) s
def neg : Nat → S → R Nd
  | 0, _ => .error (0, 0)
  | f + 1, s => if isT sNot s.1 = true then bnd (neg f (s.1.tail, s.2)) fun x s1 => .ok (nd 3 (pk s.1).At [x], s1) else cmp f s
def cmp : Nat → S → R Nd
  | 0, _ => .error (0, 0)
  | f + 1, s => bnd (level f 2 s) fun x s1 =>
    if (pk s1.1).Kind = 3 ∧ cmpSign (pk s1.1).Text = true then bnd (level f 2 (s1.1.tail, s1.2)) fun y s2 => .ok (rel (pk s1.1).Text x y, s2) else .ok (x, s1)
def factor : Nat → S → R Nd
  | 0, _ => .error (0, 0)
  | f + 1, s => if isT sMinus s.1 = true then bnd (factor f (s.1.tail, s.2)) fun x s1 => .ok (nd 2 (pk s.1).At [x], s1) else prim f s
def prim : Nat → S → R Nd
  | 0, _ => .error (0, 0)
  | f + 1, s => if (pk s.1).Kind = 1 then numR s else if (pk s.1).Kind = 0 then word f s
    else bnd (exp sLp s) fun _ s1 => bnd (expr f s1) fun x s2 => bnd (exp sRp s2) fun _ s3 => .ok ({ x with At := (pk s.1).At }, s3)
def word : Nat → S → R Nd
  | 0, _ => .error (0, 0)
  | f + 1, s =>
    if (pk s.1).Text = sTrue ∨ (pk s.1).Text = sFalse then .ok (truth (pk s.1), s.1.tail, s.2)
    else match factOf (pk s.1).Text with
      | some k => factR (pk s.1) k (s.1.tail, s.2)
      | none => bnd (identR s) fun nm s1 =>
        if isT sLp s1.1 = true then
          (if isT sRp s1.1.tail = true then .ok (⟨14, 0, 0, 0, (pk s.1).At, nm, default, []⟩, s1.1.tail.tail, s1.2)
          else bnd (args f (s1.1.tail, s1.2)) fun ks s2 => .ok (⟨14, 0, 0, 0, (pk s.1).At, nm, default, ks⟩, s2))
        else .ok (⟨15, 0, 0, 0, (pk s.1).At, nm, default, []⟩, s1)
def args : Nat → S → R (List Nd)
  | 0, _ => .error (0, 0)
  | f + 1, s => bnd (expr f s) fun x s1 =>
    if isT sComma s1.1 = true then bnd (args f (s1.1.tail, s1.2)) fun xs s2 => .ok (x :: xs, s2)
    else bnd (exp sRp s1) fun _ s2 => .ok ([x], s2)
end
def fu (ts : List Token) : Nat := 20 * ts.length + 20
def expr0 (s : S) : R Nd := expr (fu s.1) s
def prms : Nat → S → R (List Prm)
  | 0, _ => .error (0, 0)
  | f + 1, s => bnd (identR s) fun nm s1 => bnd (exp sColon s1) fun _ s2 => bnd (kindR s2) fun k s3 =>
    if isT sComma s3.1 = true then bnd (prms f (s3.1.tail, s3.2)) fun xs s4 => .ok (⟨nm, k⟩ :: xs, s4)
    else bnd (exp sRp s3) fun _ s4 => .ok ([⟨nm, k⟩], s4)
def funR (s : S) : R Fn := bnd (identR s) fun nm s1 => bnd (exp sLp s1) fun _ s2 =>
  bnd (if isT sRp s2.1 = true then .ok ([], s2.1.tail, s2.2) else prms s2.1.length s2) fun ps s3 => bnd (exp sColon s3) fun _ s4 => bnd (kindR s4) fun k s5 => bnd (exp sIs s5) fun _ s6 => bnd (expr0 s6) fun b s7 => .ok (⟨nm, ps, k, b⟩, s7)
def clR (s : S) : R Cl := bnd (expr0 s) fun c s1 => bnd (exp sThen s1) fun _ s2 => bnd (exp sSet s2) fun _ s3 => bnd (nameR s3) fun l s4 => bnd (exp sTo s4) fun _ s5 => bnd (expr0 s5) fun v s6 => .ok (⟨l, c, v⟩, s6)
def defs : Nat → S → R (List Fn)
  | 0, _ => .error (0, 0)
  | f + 1, s => if isT sDef s.1 = true then bnd (funR (s.1.tail, s.2)) fun x s1 => bnd (defs f s1) fun xs s2 => .ok (x :: xs, s2) else .ok ([], s)
def whens : Nat → S → R (List Cl)
  | 0, _ => .error (0, 0)
  | f + 1, s => if isT sWhen s.1 = true then bnd (clR (s.1.tail, s.2)) fun x s1 => bnd (whens f s1) fun xs s2 => .ok (x :: xs, s2) else .ok ([], s)
def prgR (s : S) : R (List Fn × List Cl) := bnd (defs s.1.length s) fun fs s1 => bnd (whens s1.1.length s1) fun cs s2 => if (pk s2.1).Kind = 4 then .ok ((fs, cs), s2) else fail s2
def parse (ts : List Token) : (List Fn × List Cl) × Int × Int := match prgR (ts, -1) with
  | .error e => if 0 ≤ e.2 then (([], []), 7, e.2) else (([], []), 2, e.1)
  | .ok (p, s) => if 0 ≤ s.2 then (([], []), 7, s.2) else (p, 0, 0)
end Ru
namespace Ru
open Bt Pa
theorem bnd_ok {α β : Type} {x : R α} {k : α → S → R β} {b : β} {s : S} (h : bnd x k = .ok (b, s)) : ∃ a s1, x = .ok (a, s1) ∧ k a s1 = .ok (b, s) := by
  unfold bnd at h
  split at h
  · cases h
  · exact ⟨_, _, rfl, h⟩
theorem bnd_err {α β : Type} {x : R α} {k : α → S → R β} {e : Int × Int} (h : bnd x k = .error e) : x = .error e ∨ ∃ a s1, x = .ok (a, s1) ∧ k a s1 = .error e := by
  unfold bnd at h
  split at h
  · cases h; exact .inl rfl
  · exact .inr ⟨_, _, rfl, h⟩
theorem bnd_of_ok {α β : Type} {x : R α} {k : α → S → R β} {a : α} {s : S} (h : x = .ok (a, s)) : bnd x k = k a s := by rw [h]; rfl
theorem bnd_of_err {α β : Type} {x : R α} {k : α → S → R β} {e : Int × Int} (h : x = .error e) : bnd x k = .error e := by rw [h]; rfl
theorem isT_kind {c : List UInt8} {ts : List Token} (h : isT c ts = true) : (pk ts).Kind = 0 ∨ (pk ts).Kind = 3 := by
  unfold isT at h; simp only [Bool.and_eq_true, Bool.or_eq_true, decide_eq_true_eq] at h; exact h.1
theorem ad_isT {c : List UInt8} {ts : List Token} (hg : good ts) (h : isT c ts = true) : Ad ts ts.tail := ad_tail hg (by have := isT_kind h; omega)
theorem exp_ok {c : List UInt8} {s s' : S} {u : Unit} (hg : good s.1) (h : exp c s = .ok (u, s')) : Ad s.1 s'.1 ∧ s' = (s.1.tail, s.2) ∧ isT c s.1 = true := by
  unfold exp at h
  split at h
  · rename_i hs; cases h; exact ⟨ad_isT hg hs, rfl, hs⟩
  · cases h
theorem nameR_ok {s s' : S} {t : Token} (hg : good s.1) (h : nameR s = .ok (t, s')) : Ad s.1 s'.1 ∧ s' = (s.1.tail, s.2) ∧ t = pk s.1 := by
  unfold nameR at h
  split at h
  · rename_i hs; cases h; exact ⟨ad_tail hg (by omega), rfl, rfl⟩
  · cases h
theorem identR_ok {s s' : S} {t : Token} (hg : good s.1) (h : identR s = .ok (t, s')) : Ad s.1 s'.1 ∧ s' = (s.1.tail, s.2) ∧ t = pk s.1 := by
  unfold identR at h
  split at h
  · cases h
  · exact nameR_ok hg h
theorem kindR_ok {s s' : S} {k : Int} (hg : good s.1) (h : kindR s = .ok (k, s')) : Ad s.1 s'.1 ∧ s' = (s.1.tail, s.2) ∧ (k = 0 ∨ k = 1) := by
  unfold kindR at h
  split at h
  · rename_i hs; cases h; exact ⟨ad_isT hg hs, rfl, .inl rfl⟩
  · obtain ⟨_, s1, h1, h2⟩ := bnd_ok h
    obtain ⟨h3, h4, _⟩ := exp_ok hg h1
    cases h2
    subst h4
    exact ⟨h3, rfl, .inr rfl⟩
theorem numR_ok {s s' : S} {x : Nd} (hg : good s.1) (hk : (pk s.1).Kind = 1) (h : numR s = .ok (x, s')) : Ad s.1 s'.1 := by
  unfold numR at h
  cases h
  have h0 := ad_tail hg (by omega)
  obtain ⟨h1, h2, h3⟩ := unit_ok h0.2.1
  exact ⟨h1.trans h0.1, h2, Nat.lt_of_le_of_lt h3 h0.2.2⟩
def Le (ts r : List Token) : Prop := r <:+ ts ∧ good r
theorem Ad.le {ts r : List Token} (h : Ad ts r) : Le ts r := ⟨h.1, h.2.1⟩
theorem Ad.trans_le {a b c : List Token} (h : Ad a b) (k : Le b c) : Ad a c := ⟨k.1.trans h.1, k.2, Nat.lt_of_le_of_lt k.1.length_le h.2.2⟩
theorem factR_ok {t : Token} {k : Int} {s s' : S} {x : Nd} (hg : good s.1) (h : factR t k s = .ok (x, s')) : Le s.1 s'.1 := by
  unfold factR at h
  split at h
  · cases h; exact ⟨List.suffix_refl _, hg⟩
  · obtain ⟨_, s1, h1, h⟩ := bnd_ok h
    have g1 := (exp_ok hg h1).1
    obtain ⟨_, s2, h2, h⟩ := bnd_ok h
    have g2 := g1.trans (nameR_ok g1.2.1 h2).1
    split at h
    · obtain ⟨_, s3, h3, h⟩ := bnd_ok h
      have g3 := g2.trans (exp_ok g2.2.1 h3).1
      obtain ⟨_, s4, h4, h⟩ := bnd_ok h
      have g4 := g3.trans (nameR_ok g3.2.1 h4).1
      obtain ⟨_, s5, h5, h⟩ := bnd_ok h
      have g5 := g4.trans (exp_ok g4.2.1 h5).1
      cases h
      exact Ad.le g5
    · obtain ⟨_, s3, h3, h⟩ := bnd_ok h
      have g3 := g2.trans (exp_ok g2.2.1 h3).1
      cases h
      exact Ad.le g3
theorem opOf_kind {n : Nat} {ts : List Token} {k : Int} (h : opOf n ts = some k) : ((pk ts).Kind = 0 ∨ (pk ts).Kind = 3) ∧ 4 ≤ k ∧ k ≤ 12 := by
  unfold opOf at h
  repeat' split at h
  all_goals first | (rename_i hh; cases h; exact ⟨isT_kind hh, by omega, by omega⟩) | cases h
theorem ad_op {n : Nat} {ts : List Token} {k : Int} (hg : good ts) (h : opOf n ts = some k) : Ad ts ts.tail := ad_tail hg (by have := (opOf_kind h).1; omega)
theorem all_ok : ∀ f : Nat, (∀ (s s' : S) (x : Nd), good s.1 → expr f s = .ok (x, s') → Ad s.1 s'.1) ∧ (∀ (n : Nat) (s s' : S) (x : Nd), good s.1 → level f n s = .ok (x, s') → Ad s.1 s'.1) ∧ (∀ (n : Nat) (y : Nd) (s s' : S) (x : Nd), good s.1 → lvl f n y s = .ok (x, s') → Le s.1 s'.1) ∧
    (∀ (n : Nat) (s s' : S) (x : Nd), good s.1 → below f n s = .ok (x, s') → Ad s.1 s'.1) ∧ (∀ (s s' : S) (x : Nd), good s.1 → neg f s = .ok (x, s') → Ad s.1 s'.1) ∧ (∀ (s s' : S) (x : Nd), good s.1 → cmp f s = .ok (x, s') → Ad s.1 s'.1) ∧
    (∀ (s s' : S) (x : Nd), good s.1 → factor f s = .ok (x, s') → Ad s.1 s'.1) ∧ (∀ (s s' : S) (x : Nd), good s.1 → prim f s = .ok (x, s') → Ad s.1 s'.1) ∧ (∀ (s s' : S) (x : Nd), good s.1 → (pk s.1).Kind = 0 → word f s = .ok (x, s') → Ad s.1 s'.1) ∧ (∀ (s s' : S) (xs : List Nd), good s.1 → args f s = .ok (xs, s') → Ad s.1 s'.1)
  | 0 => ⟨fun s s' x _ h => (by rw [expr] at h; cases h), fun n s s' x _ h => (by rw [level] at h; cases h), fun n y s s' x _ h => (by rw [lvl] at h; cases h), fun n s s' x _ h => (by rw [below] at h; cases h), fun s s' x _ h => (by rw [neg] at h; cases h), fun s s' x _ h => (by rw [cmp] at h; cases h), fun s s' x _ h => (by rw [factor] at h; cases h), fun s s' x _ h => (by rw [prim] at h; cases h), fun s s' x _ _ h => (by rw [word] at h; cases h), fun s s' x _ h => (by rw [args] at h; cases h)⟩
  | f + 1 => by
    obtain ⟨iE, iL, iV, iB, iN, iC, iF, iP, iW, iA⟩ := all_ok f
    refine ⟨fun s s' x hg h => ?_, fun n s s' x hg h => ?_, fun n y s s' x hg h => ?_, fun n s s' x hg h => ?_, fun s s' x hg h => ?_, fun s s' x hg h => ?_, fun s s' x hg h => ?_, fun s s' x hg h => ?_, fun s s' x hg hk h => ?_, fun s s' x hg h => ?_⟩
    · rw [expr] at h
      split at h
      · rename_i hs
        have g0 := ad_isT hg hs
        obtain ⟨x1, s1, h1, h⟩ := bnd_ok h
        have g1 := g0.trans (iE _ _ _ g0.2.1 h1)
        obtain ⟨_, s2, h2, h⟩ := bnd_ok h
        have g2 := g1.trans (exp_ok g1.2.1 h2).1
        obtain ⟨x3, s3, h3, h⟩ := bnd_ok h
        have g3 := g2.trans (iE _ _ _ g2.2.1 h3)
        obtain ⟨_, s4, h4, h⟩ := bnd_ok h
        have g4 := g3.trans (exp_ok g3.2.1 h4).1
        obtain ⟨x5, s5, h5, h⟩ := bnd_ok h
        have g5 := g4.trans (iE _ _ _ g4.2.1 h5)
        cases h
        exact g5
      · exact iL _ _ _ _ hg h
    · rw [level] at h
      obtain ⟨x1, s1, h1, h⟩ := bnd_ok h
      have g1 := iB _ _ _ _ hg h1
      exact Ad.trans_le g1 (iV _ _ _ _ _ g1.2.1 h)
    · rw [lvl] at h
      split at h
      · cases h; exact ⟨List.suffix_refl _, hg⟩
      · rename_i k hk
        have g0 := ad_op hg hk
        obtain ⟨x1, s1, h1, h⟩ := bnd_ok h
        have g1 := g0.trans (iB _ _ _ _ g0.2.1 h1)
        exact Ad.le (Ad.trans_le g1 (iV _ _ _ _ _ g1.2.1 h))
    · rw [below] at h
      split at h
      · exact iN _ _ _ hg h
      · split at h
        · exact iF _ _ _ hg h
        · exact iL _ _ _ _ hg h
    · rw [neg] at h
      split at h
      · rename_i hs
        have g0 := ad_isT hg hs
        obtain ⟨x1, s1, h1, h⟩ := bnd_ok h
        cases h
        exact g0.trans (iN _ _ _ g0.2.1 h1)
      · exact iC _ _ _ hg h
    · rw [cmp] at h
      obtain ⟨x1, s1, h1, h⟩ := bnd_ok h
      have g1 := iL _ _ _ _ hg h1
      split at h
      · rename_i hs
        have g2 := g1.trans (ad_tail g1.2.1 (by omega))
        obtain ⟨x2, s2, h2, h⟩ := bnd_ok h
        cases h
        exact g2.trans (iL _ _ _ _ g2.2.1 h2)
      · cases h; exact g1
    · rw [factor] at h
      split at h
      · rename_i hs
        have g0 := ad_isT hg hs
        obtain ⟨x1, s1, h1, h⟩ := bnd_ok h
        cases h
        exact g0.trans (iF _ _ _ g0.2.1 h1)
      · exact iP _ _ _ hg h
    · rw [prim] at h
      split at h
      · rename_i hk; exact numR_ok hg hk h
      · split at h
        · rename_i hk; exact iW _ _ _ hg hk h
        · obtain ⟨_, s1, h1, h⟩ := bnd_ok h
          have g1 := (exp_ok hg h1).1
          obtain ⟨x2, s2, h2, h⟩ := bnd_ok h
          have g2 := g1.trans (iE _ _ _ g1.2.1 h2)
          obtain ⟨_, s3, h3, h⟩ := bnd_ok h
          have g3 := g2.trans (exp_ok g2.2.1 h3).1
          cases h
          exact g3
    · rw [word] at h
      have g0 := ad_tail hg (by omega)
      split at h
      · cases h; exact g0
      · split at h
        · rename_i k hk; exact Ad.trans_le g0 (factR_ok g0.2.1 h)
        · obtain ⟨nm, s1, h1, h⟩ := bnd_ok h
          have g1 := (identR_ok hg h1).1
          split at h
          · rename_i hs
            have g2 := g1.trans (ad_isT g1.2.1 hs)
            split at h
            · rename_i hs2
              cases h
              exact g2.trans (ad_isT g2.2.1 hs2)
            · obtain ⟨ks, s2, h2, h⟩ := bnd_ok h
              cases h
              exact g2.trans (iA _ _ _ g2.2.1 h2)
          · cases h; exact g1
    · rw [args] at h
      obtain ⟨x1, s1, h1, h⟩ := bnd_ok h
      have g1 := iE _ _ _ hg h1
      split at h
      · rename_i hs
        have g2 := g1.trans (ad_isT g1.2.1 hs)
        obtain ⟨xs, s2, h2, h⟩ := bnd_ok h
        cases h
        exact g2.trans (iA _ _ _ g2.2.1 h2)
      · obtain ⟨_, s2, h2, h⟩ := bnd_ok h
        cases h
        exact g1.trans (exp_ok g1.2.1 h2).1
theorem expr0_ok {s s' : S} {x : Nd} (hg : good s.1) (h : expr0 s = .ok (x, s')) : Ad s.1 s'.1 := (all_ok _).1 _ _ _ hg h
theorem prms_ok : ∀ (f : Nat) {s s' : S} {xs : List Prm}, good s.1 → prms f s = .ok (xs, s') → Ad s.1 s'.1
  | 0, _, _, _, _, h => by rw [prms] at h; cases h
  | f + 1, s, s', xs, hg, h => by
    rw [prms] at h
    obtain ⟨nm, s1, h1, h⟩ := bnd_ok h
    have g1 := (identR_ok hg h1).1
    obtain ⟨_, s2, h2, h⟩ := bnd_ok h
    have g2 := g1.trans (exp_ok g1.2.1 h2).1
    obtain ⟨k, s3, h3, h⟩ := bnd_ok h
    have g3 := g2.trans (kindR_ok g2.2.1 h3).1
    split at h
    · rename_i hs
      have g4 := g3.trans (ad_isT g3.2.1 hs)
      obtain ⟨ys, s4, h4, h⟩ := bnd_ok h
      cases h
      exact g4.trans (prms_ok f g4.2.1 h4)
    · obtain ⟨_, s4, h4, h⟩ := bnd_ok h
      cases h
      exact g3.trans (exp_ok g3.2.1 h4).1
theorem funR_ok {s s' : S} {x : Fn} (hg : good s.1) (h : funR s = .ok (x, s')) : Ad s.1 s'.1 := by
  unfold funR at h
  obtain ⟨nm, s1, h1, h⟩ := bnd_ok h
  have g1 := (identR_ok hg h1).1
  obtain ⟨_, s2, h2, h⟩ := bnd_ok h
  have g2 := g1.trans (exp_ok g1.2.1 h2).1
  obtain ⟨ps, s3, h3, h⟩ := bnd_ok h
  have g3 : Ad s.1 s3.1 := by
    split at h3
    · rename_i hs; cases h3; exact g2.trans (ad_isT g2.2.1 hs)
    · exact g2.trans (prms_ok _ g2.2.1 h3)
  obtain ⟨_, s4, h4, h⟩ := bnd_ok h
  have g4 := g3.trans (exp_ok g3.2.1 h4).1
  obtain ⟨k, s5, h5, h⟩ := bnd_ok h
  have g5 := g4.trans (kindR_ok g4.2.1 h5).1
  obtain ⟨_, s6, h6, h⟩ := bnd_ok h
  have g6 := g5.trans (exp_ok g5.2.1 h6).1
  obtain ⟨b, s7, h7, h⟩ := bnd_ok h
  cases h
  exact g6.trans (expr0_ok g6.2.1 h7)
theorem clR_ok {s s' : S} {x : Cl} (hg : good s.1) (h : clR s = .ok (x, s')) : Ad s.1 s'.1 := by
  unfold clR at h
  obtain ⟨c, s1, h1, h⟩ := bnd_ok h
  have g1 := expr0_ok hg h1
  obtain ⟨_, s2, h2, h⟩ := bnd_ok h
  have g2 := g1.trans (exp_ok g1.2.1 h2).1
  obtain ⟨_, s3, h3, h⟩ := bnd_ok h
  have g3 := g2.trans (exp_ok g2.2.1 h3).1
  obtain ⟨l, s4, h4, h⟩ := bnd_ok h
  have g4 := g3.trans (nameR_ok g3.2.1 h4).1
  obtain ⟨_, s5, h5, h⟩ := bnd_ok h
  have g5 := g4.trans (exp_ok g4.2.1 h5).1
  obtain ⟨v, s6, h6, h⟩ := bnd_ok h
  cases h
  exact g5.trans (expr0_ok g5.2.1 h6)
end Ru
namespace Bt
structure Expr where
  Kind : Int
  N : Int
  Of : Int
  Of2 : Int
  Kids : List Expr
instance : Inhabited Expr := ⟨⟨0, 0, 0, 0, []⟩⟩
structure RFunc where
  Name : List UInt8
  Params : List Int
  Result : Int
  Body : Expr
instance : Inhabited RFunc := ⟨⟨[], [], 0, default⟩⟩
structure RClause where
  If : Expr
  Link : Int
  To : Expr
instance : Inhabited RClause := ⟨⟨default, 0, default⟩⟩
structure Rule where
  Funcs : List RFunc
  Clauses : List RClause
instance : Inhabited Rule := ⟨⟨[], []⟩⟩
end Bt
namespace Ru
open Bt Pa
structure Env where
  places : List (List UInt8)
  owners : List (List UInt8)
  links : List (List UInt8)
  towns : List (List UInt8)
def ix (l : List (List UInt8)) (t : List UInt8) : Option Nat := l.findIdx? (fun x => decide (x = t))
def ixN (l : List (List UInt8)) (t : Token) : Int := ((ix l t.Text).getD 0 : Nat)
def ixB (l : List (List UInt8)) (t : Token) : List Int := if (ix l t.Text).isSome then [] else [t.At]
def lst (first a : Int) : Int := if first < 0 then a else min first a
def lstL (first : Int) (l : List Int) : Int := l.foldl lst first
def dep : Nd → Nat
  | ⟨_, _, _, _, _, _, _, ks⟩ => depL ks + 1
where depL : List Nd → Nat
  | [] => 0
  | x :: xs => max (dep x) (depL xs)
def trees (p : List Fn × List Cl) : List Nd := p.1.map (·.body) ++ p.2.flatMap fun c => [c.cond, c.value]
def tooDeep (p : List Fn × List Cl) : Int := match (trees p).find? (fun t => decide (40 < dep t)) with
  | some t => t.At
  | none => -1
def res (e : Env) (fs ps : List (List UInt8)) : Nd → Nd
  | ⟨k, n, a, b, at_, nm, ow, ks⟩ =>
    if k = 15 then ⟨k, ixN ps nm, a, b, at_, nm, ow, resL e fs ps ks⟩
    else if k = 14 then ⟨k, ixN fs nm, a, b, at_, nm, ow, resL e fs ps ks⟩
    else if k = 1 then
      (if n = 0 ∨ n = 1 then ⟨k, n, ixN e.places nm, b, at_, nm, ow, resL e fs ps ks⟩
      else if n = 2 then ⟨k, n, ixN e.places nm, ixN e.owners ow, at_, nm, ow, resL e fs ps ks⟩
      else if n = 3 then ⟨k, n, ixN e.links nm, b, at_, nm, ow, resL e fs ps ks⟩
      else if n = 7 then ⟨k, n, ixN e.towns nm, b, at_, nm, ow, resL e fs ps ks⟩
      else ⟨k, n, a, b, at_, nm, ow, resL e fs ps ks⟩)
    else ⟨k, n, a, b, at_, nm, ow, resL e fs ps ks⟩
where resL (e : Env) (fs ps : List (List UInt8)) : List Nd → List Nd
  | [] => []
  | x :: xs => res e fs ps x :: resL e fs ps xs
def bad (e : Env) (fs ps : List (List UInt8)) : Nd → List Int
  | ⟨k, n, _, _, _, nm, ow, ks⟩ =>
    (if k = 15 then ixB ps nm else if k = 14 then ixB fs nm else if k = 1 then
      (if n = 0 ∨ n = 1 then ixB e.places nm else if n = 2 then ixB e.places nm ++ ixB e.owners ow else if n = 3 then ixB e.links nm else if n = 7 then ixB e.towns nm else [])
    else []) ++ badL e fs ps ks
where badL (e : Env) (fs ps : List (List UInt8)) : List Nd → List Int
  | [] => []
  | x :: xs => bad e fs ps x ++ badL e fs ps xs
def toE : Nd → Expr
  | ⟨k, n, a, b, _, _, _, ks⟩ => ⟨k, n, a, b, toEL ks⟩
where toEL : List Nd → List Expr
  | [] => []
  | x :: xs => toE x :: toEL xs
def fnN (fs : List Fn) : List (List UInt8) := fs.map (·.name.Text)
def prN (ps : List Prm) : List (List UInt8) := ps.map (·.name.Text)
def dupP (ps : List Prm) : List Int := (ps.zipIdx.filter fun q => decide (ix (prN ps) q.1.name.Text ≠ some q.2)).map (·.1.name.At)
def resF (e : Env) (fs : List Fn) (f : Fn) : Fn := { f with body := res e (fnN fs) (prN f.params) f.body }
def badF (e : Env) (fs : List Fn) (i : Nat) (f : Fn) : List Int := (if ix (fnN fs) f.name.Text = some i then [] else [f.name.At]) ++ dupP f.params ++ bad e (fnN fs) (prN f.params) f.body
def resC (e : Env) (fs : List Fn) (c : Cl) : Cl := { c with cond := res e (fnN fs) [] c.cond, value := res e (fnN fs) [] c.value }
def badC (e : Env) (fs : List Fn) (c : Cl) : List Int := bad e (fnN fs) [] c.cond ++ ixB e.links c.link ++ bad e (fnN fs) [] c.value
def outF (f : Fn) : RFunc := ⟨f.name.Text, f.params.map (·.kind), f.result, toE f.body⟩
def outC (e : Env) (c : Cl) : RClause := ⟨toE c.cond, ixN e.links c.link, toE c.value⟩
def badP (e : Env) (p : List Fn × List Cl) : List Int := (p.1.zipIdx.flatMap fun q => badF e p.1 q.2 q.1) ++ p.2.flatMap (badC e p.1)
def ty (fs : List Fn) (ps : List Prm) : Nd → Int × List Int
  | ⟨k, n, _, _, _, nm, _, ks⟩ =>
    if k = 15 then ((ps.getD n.toNat default).kind, [])
    else if k = 14 then
      ((fs.getD n.toNat default).result, if ks.length = (fs.getD n.toNat default).params.length then tyW fs ps ks ((fs.getD n.toNat default).params.map (·.kind)) else nm.At :: tyA fs ps ks)
    else if k = 10 then (match ks with
      | [x, y] => (1, (ty fs ps x).2 ++ ((ty fs ps y).2 ++ if (ty fs ps y).1 = (ty fs ps x).1 then [] else [y.At]))
      | _ => (1, []))
    else if k = 13 then (match ks with
      | [x, y, z] => ((ty fs ps y).1, ((ty fs ps x).2 ++ if (ty fs ps x).1 = 1 then [] else [x.At]) ++ ((ty fs ps y).2 ++ ((ty fs ps z).2 ++ if (ty fs ps z).1 = (ty fs ps y).1 then [] else [z.At])))
      | _ => (0, []))
    else if k = 3 ∨ k = 11 ∨ k = 12 then (1, tyW fs ps ks (List.replicate ks.length 1))
    else if k = 8 ∨ k = 9 then (1, tyW fs ps ks (List.replicate ks.length 0))
    else (0, tyW fs ps ks (List.replicate ks.length 0))
where
  tyW (fs : List Fn) (ps : List Prm) : List Nd → List Int → List Int
  | [], _ => []
  | x :: xs, l => ((ty fs ps x).2 ++ if (ty fs ps x).1 = l.headD 0 then [] else [x.At]) ++ tyW fs ps xs l.tail
  tyA (fs : List Fn) (ps : List Prm) : List Nd → List Int
  | [] => []
  | x :: xs => (ty fs ps x).2 ++ tyA fs ps xs
def wantB (fs : List Fn) (ps : List Prm) (x : Nd) (k : Int) : List Int := (ty fs ps x).2 ++ if (ty fs ps x).1 = k then [] else [x.At]
def tyP (p : List Fn × List Cl) : List Int := (p.1.flatMap fun f => wantB p.1 f.params f.body f.result) ++ p.2.flatMap fun c => wantB p.1 [] c.cond 1 ++ wantB p.1 [] c.value 0
def resP (e : Env) (p : List Fn × List Cl) : List Fn × List Cl := (p.1.map (resF e p.1), p.2.map (resC e p.1))
def ruleParse (e : Env) (s : List UInt8) : Rule × Int × Int :=
  if 8192 < s.length then (default, 8, 0)
  else if (Lx.scan s).2.1 ≠ 0 then (default, (Lx.scan s).2.1, (Lx.scan s).2.2)
  else if (parse (Lx.scan s).1).2.1 ≠ 0 then (default, (parse (Lx.scan s).1).2.1, (parse (Lx.scan s).1).2.2)
  else
    let p := (parse (Lx.scan s).1).1
    if 0 ≤ tooDeep p then (default, 8, tooDeep p)
    else if 0 ≤ lstL (-1) (badP e p) then (default, 4, lstL (-1) (badP e p))
    else if 0 ≤ lstL (-1) (tyP (resP e p)) then (default, 5, lstL (-1) (tyP (resP e p)))
    else (⟨(resP e p).1.map outF, (resP e p).2.map (outC e)⟩, 0, 0)
end Ru
