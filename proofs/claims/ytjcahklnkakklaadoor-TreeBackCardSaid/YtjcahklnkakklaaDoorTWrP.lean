/- The lexer's functions as plain functions on lists of bytes. Conditions: those of each theorem. -/
import Derived.Test.YtjcahklnkakklaaDoorTUnPlB
import Derived.Lib.Join
namespace Lx
def isL (c : UInt8) : Bool := decide ((97 ≤ c.toNat ∧ c.toNat ≤ 122) ∨ (65 ≤ c.toNat ∧ c.toNat ≤ 90))
def isD (c : UInt8) : Bool := decide (48 ≤ c.toNat ∧ c.toNat ≤ 57)
def inN (c : UInt8) : Bool := isL c || isD c || decide (c.toNat = 95)
def inS (c : UInt8) : Bool := decide (32 ≤ c.toNat ∧ c.toNat ≤ 126 ∧ c.toNat ≠ 34 ∧ c.toNat ≠ 92)
def nNl (c : UInt8) : Bool := decide (c.toNat ≠ 10)
def ws (c : UInt8) : Bool := decide (c.toNat = 9 ∨ c.toNat = 10 ∨ c.toNat = 13 ∨ c.toNat = 32)
def run (p : UInt8 → Bool) : List UInt8 → Nat
 | [] => 0
 | c :: r => if p c then run p r + 1 else 0
def skp : Bool → List UInt8 → Nat
 | _, [] => 0
 | true, c :: r => if c.toNat = 10 then skp false r + 1 else skp true r + 1
 | false, c :: r => if ws c then skp false r + 1 else if c.toNat = 35 then skp true r + 1 else 0
def signN (l : List UInt8) : Nat :=
 let c := (l.getD 0 0).toNat
 if c = 60 ∨ c = 62 ∨ c = 61 ∨ c = 33 then (if 1 < l.length ∧ (l.getD 1 0).toNat = 61 then 2 else if c ≠ 33 then 1 else 0)
 else if c = 123 ∨ c = 125 ∨ c = 40 ∨ c = 41 ∨ c = 44 ∨ c = 59 ∨ c = 58 ∨ c = 43 ∨ c = 45 ∨ c = 42 ∨ c = 47 ∨ c = 37 then 1 else 0
def numN (l : List UInt8) : Nat :=
 if run isD l + 1 < l.length ∧ (l.getD (run isD l) 0).toNat = 46 ∧ isD (l.getD (run isD l + 1) 0) = true then run isD l + 1 + run isD (l.drop (run isD l + 1)) else run isD l
/-- the token at the head: kind, where its text begins, the text's length, what is used, is it one -/
def tk (l : List UInt8) : Nat × Nat × Nat × Nat × Bool :=
 if isL (l.getD 0 0) then (0, 0, run inN l, run inN l, decide (run inN l ≤ 24))
 else if isD (l.getD 0 0) then (1, 0, numN l, numN l, decide (numN l ≤ 24))
 else if (l.getD 0 0).toNat = 34 then (2, 1, run inS (l.drop 1), run inS (l.drop 1) + 2, decide (run inS (l.drop 1) + 1 < l.length ∧ (l.getD (run inS (l.drop 1) + 1) 0).toNat = 34 ∧ run inS (l.drop 1) ≤ 500))
 else (3, 0, signN l, signN l, decide (0 < signN l))
def txt (l : List UInt8) : List UInt8 := (l.drop (tk l).2.1).take (tk l).2.2.1
theorem run_le (p : UInt8 → Bool) : ∀ l, run p l ≤ l.length
 | [] => Nat.le_refl _
 | c :: r => by have := run_le p r; unfold run; split <;> simp <;> omega
theorem drop_cons {l : List UInt8} {k : Nat} (h : k < l.length) : l.drop k = l.getD k 0 :: l.drop (k + 1) := by
 rw [List.getD_eq_getElem?_getD, List.getElem?_eq_getElem h]; exact List.drop_eq_getElem_cons h
theorem run_yes {p : UInt8 → Bool} {l : List UInt8} {k : Nat} (h : k < l.length) (hp : p (l.getD k 0) = true) : run p (l.drop k) = run p (l.drop (k + 1)) + 1 := by
 rw [drop_cons h]; unfold run; rw [if_pos hp, run.eq_def]
theorem run_no {p : UInt8 → Bool} {l : List UInt8} {k : Nat} (h : k < l.length) (hp : p (l.getD k 0) = false) : run p (l.drop k) = 0 := by
 rw [drop_cons h]; unfold run; rw [if_neg (by rw [hp]; simp)]
theorem run_end {p : UInt8 → Bool} {l : List UInt8} {k : Nat} (h : l.length ≤ k) : run p (l.drop k) = 0 := by
 rw [List.drop_of_length_le h]; rfl
theorem run_drop_le (p : UInt8 → Bool) (l : List UInt8) (k : Nat) (h : k ≤ l.length) : k + run p (l.drop k) ≤ l.length := by
 have := run_le p (l.drop k); rw [List.length_drop] at this; omega
theorem skp_le : ∀ (b : Bool) (l : List UInt8), skp b l ≤ l.length
 | true, [] => Nat.le_refl _
 | false, [] => Nat.le_refl _
 | true, c :: r => by have h1 := skp_le true r; have h2 := skp_le false r; unfold skp; split <;> simp <;> omega
 | false, c :: r => by have h1 := skp_le true r; have h2 := skp_le false r; unfold skp; split <;> (try split) <;> simp <;> omega
theorem skp_true : ∀ (l : List UInt8), skp true l = run nNl l + skp false (l.drop (run nNl l))
 | [] => rfl
 | c :: r => by
  have ih := skp_true r
  unfold run
  by_cases hc : c.toNat = 10
  ·
   have hn : nNl c = false := by simp [nNl, hc]
   have hw : ws c = true := by simp [ws, hc]
   rw [hn, if_neg (by simp), Nat.zero_add, List.drop_zero]
   unfold skp
   rw [if_pos hc, if_pos hw]
  ·
   have hn : nNl c = true := by simp [nNl, hc]
   rw [hn, if_pos rfl, List.drop_succ_cons]
   rw [show skp true (c :: r) = skp true r + 1 by rw [skp]; rw [if_neg hc], ih]; omega
theorem skp_ws {l : List UInt8} {k : Nat} (h : k < l.length) (hw : ws (l.getD k 0) = true) : skp false (l.drop k) = skp false (l.drop (k + 1)) + 1 := by
 rw [drop_cons h, skp, if_pos hw]
theorem skp_com {l : List UInt8} {k : Nat} (h : k < l.length) (hc : (l.getD k 0).toNat = 35) : skp false (l.drop k) = run nNl (l.drop k) + skp false (l.drop (k + run nNl (l.drop k))) := by
 have hn : nNl (l.getD k 0) = true := by simp only [nNl, hc]; decide
 have hw : ws (l.getD k 0) = false := by simp only [ws, hc]; decide
 rw [run_yes h hn]
 rw [drop_cons h, skp, if_neg (by rw [hw]; simp), if_pos hc, skp_true, List.drop_drop]
 rw [show k + (run nNl (l.drop (k + 1)) + 1) = k + 1 + run nNl (l.drop (k + 1)) by omega]
 omega
theorem skp_no {l : List UInt8} {k : Nat} (h : k < l.length) (hw : ws (l.getD k 0) = false) (hc : (l.getD k 0).toNat ≠ 35) : skp false (l.drop k) = 0 := by
 rw [drop_cons h, skp, if_neg (by rw [hw]; simp), if_neg hc]
theorem skp_end {l : List UInt8} {k : Nat} (h : l.length ≤ k) : skp false (l.drop k) = 0 := by
 rw [List.drop_of_length_le h]; rfl
theorem getD_drop (l : List UInt8) (k i : Nat) : (l.drop k).getD i 0 = l.getD (k + i) 0 := by
 rw [List.getD_eq_getElem?_getD, List.getD_eq_getElem?_getD, List.getElem?_drop]
theorem signN_le (l : List UInt8) : signN l ≤ l.length := by
 unfold signN
 simp only []
 cases l with
 | nil => decide
 | cons c r => split <;> (try split) <;> (try split) <;> simp_all <;> omega
end Lx
namespace Bt
structure Token where
 Kind : Int
 Text : List UInt8
 At : Int
instance : Inhabited Token := ⟨⟨0, [], 0⟩⟩
end Bt
namespace Lx
theorem run_pos {p : UInt8 → Bool} {l : List UInt8} (h : 0 < l.length) (hp : p (l.getD 0 0) = true) : 1 ≤ run p l := by
 have := run_yes (p := p) (k := 0) h hp
 rw [List.drop_zero] at this; omega
theorem numN_le (l : List UInt8) : numN l ≤ l.length := by
 unfold numN
 have h1 := run_le isD l
 split
 ·
  have h2 := run_le isD (l.drop (run isD l + 1))
  rw [List.length_drop] at h2
  omega
 ·
  exact h1
theorem numN_pos {l : List UInt8} (h : 0 < l.length) (hp : isD (l.getD 0 0) = true) : 1 ≤ numN l := by
 have := run_pos (p := isD) h hp
 unfold numN
 split <;> omega
theorem tk_ok {l : List UInt8} (h : 0 < l.length) (hk : (tk l).2.2.2.2 = true) : 1 ≤ (tk l).2.2.2.1 ∧ (tk l).2.2.2.1 ≤ l.length := by
 unfold tk at hk ⊢
 split at hk <;> rename_i h1
 ·
  rw [if_pos h1]
  exact ⟨run_pos h (by unfold inN; rw [h1]; rfl), run_le _ _⟩
 ·
  rw [if_neg h1]
  split at hk <;> rename_i h2
  ·
   rw [if_pos h2]; exact ⟨numN_pos h h2, numN_le _⟩
  ·
   rw [if_neg h2]
   split at hk <;> rename_i h3
   ·
    rw [if_pos h3]
    simp only [decide_eq_true_eq] at hk
    exact ⟨by simp, by simp only []; omega⟩
   ·
    rw [if_neg h3]
    simp only [decide_eq_true_eq] at hk
    exact ⟨hk, signN_le l⟩
theorem txt_le (l : List UInt8) : (txt l).length ≤ l.length := by
 unfold txt; rw [List.length_take, List.length_drop]; omega
/-- what the iterator hands over from offset a on -/
def stm : Nat → List UInt8 → Nat → List (Bt.Token × Bool)
 | 0, _, _ => []
 | n + 1, s, a => if a < s.length then
   (⟨((tk (s.drop a)).1 : Nat), txt (s.drop a), (a : Nat)⟩, (tk (s.drop a)).2.2.2.2) ::
    (if (tk (s.drop a)).2.2.2.2 then stm n s (a + (tk (s.drop a)).2.2.2.1 + skp false (s.drop (a + (tk (s.drop a)).2.2.2.1))) else [])
  else [(⟨4, [], s.length⟩, true)]
def seqT (s : List UInt8) : List (Bt.Token × Bool) := stm (s.length + 1) s (skp false s)
theorem stm_len : ∀ (n : Nat) (s : List UInt8) (a : Nat), (stm n s a).length ≤ n
 | 0, _, _ => Nat.le_refl _
 | n + 1, s, a => by
  unfold stm
  split
  ·
   split
   ·
    have := stm_len n s (a + (tk (s.drop a)).2.2.2.1 + skp false (s.drop (a + (tk (s.drop a)).2.2.2.1)))
    simp only [List.length_cons]; omega
   ·
    simp
  ·
   simp
theorem stm_end {n : Nat} {s : List UInt8} {a : Nat} (h : s.length ≤ a) : stm (n + 1) s a = [(⟨4, [], s.length⟩, true)] := by
 unfold stm; rw [if_neg (by omega)]
theorem stm_tok {n : Nat} {s : List UInt8} {a : Nat} (h : a < s.length) (hk : (tk (s.drop a)).2.2.2.2 = true) :
  stm (n + 1) s a = (⟨((tk (s.drop a)).1 : Nat), txt (s.drop a), (a : Nat)⟩, true) :: stm n s (a + (tk (s.drop a)).2.2.2.1 + skp false (s.drop (a + (tk (s.drop a)).2.2.2.1))) := by
 rw [stm, if_pos h, hk, if_pos rfl]
theorem stm_bad {n : Nat} {s : List UInt8} {a : Nat} (h : a < s.length) (hk : (tk (s.drop a)).2.2.2.2 = false) :
  stm (n + 1) s a = [(⟨((tk (s.drop a)).1 : Nat), txt (s.drop a), (a : Nat)⟩, false)] := by
 rw [stm, if_pos h, hk, if_neg (by simp)]
def wfT (N : Nat) (t : Bt.Token) : Prop := 0 ≤ t.Kind ∧ t.Kind ≤ 4 ∧ t.Text.length ≤ N ∧ 0 ≤ t.At ∧ t.At ≤ N
theorem tk_kind (l : List UInt8) : (tk l).1 ≤ 3 := by
 unfold tk; split <;> (try split) <;> (try split) <;> simp
theorem wf_tok {s : List UInt8} {a : Nat} (h : a ≤ s.length) : wfT s.length ⟨((tk (s.drop a)).1 : Nat), txt (s.drop a), (a : Nat)⟩ := by
 have h1 := tk_kind (s.drop a)
 have h2 := txt_le (s.drop a)
 rw [List.length_drop] at h2
 refine ⟨?_, ?_, ?_, ?_, ?_⟩ <;> simp only [] <;> omega
theorem wf_end (s : List UInt8) : wfT s.length ⟨4, [], s.length⟩ := by
 refine ⟨?_, ?_, ?_, ?_, ?_⟩ <;> simp
/-- Scan: the tokens, or the offset at which there is none -/
def scan (s : List UInt8) : List Bt.Token × Int × Int :=
 if 65536 < s.length then ([], 8, 0)
 else match (seqT s).find? (fun x => !x.2) with
  | some x => ([], 2, x.1.At)
  | none => ((seqT s).map (·.1), 0, 0)
end Lx
namespace Lx
theorem bad_find : ∀ (n : Nat) (s : List UInt8) (a : Nat) (y : Bt.Token × Bool), y ∈ stm n s a → y.2 = false → (stm n s a).find? (fun x => !x.2) = some y
 | 0, _, _, _, h, _ => by cases h
 | n + 1, s, a, y, h, hy => by
  by_cases ha : a < s.length
  ·
   cases hk : (tk (s.drop a)).2.2.2.2 with
   | true =>
    rw [stm_tok ha hk] at h ⊢
    rcases List.mem_cons.1 h with rfl | h
    ·
     cases hy
    ·
     rw [List.find?_cons_of_neg (by simp)]; exact bad_find n s _ y h hy
   | false =>
    rw [stm_bad ha hk] at h ⊢
    obtain rfl := List.mem_singleton.1 h
    rfl
  ·
   rw [stm_end (by omega)] at h
   obtain rfl := List.mem_singleton.1 h
   cases hy
theorem scan_ok {s : List UInt8} (h : s.length ≤ 65536) (ha : ∀ x ∈ seqT s, x.2 = true) : scan s = ((seqT s).map (·.1), 0, 0) := by
 unfold scan
 rw [if_neg (by omega), List.find?_eq_none.2 (fun x hx => by simp [ha x hx])]
theorem scan_bad {s : List UInt8} (h : s.length ≤ 65536) {y : Bt.Token × Bool} (hy : y ∈ seqT s) (hb : y.2 = false) : scan s = ([], 2, y.1.At) := by
 unfold scan
 rw [if_neg (by omega), show (seqT s).find? (fun x => !x.2) = some y from bad_find _ _ _ _ hy hb]
end Lx
namespace Bt
structure Node where
  Kind : Int
  Text : List UInt8
  N : Int
  Dim : Int
  At : Int
  Kids : List Node
instance : Inhabited Node := ⟨⟨0, [], 0, 0, 0, []⟩⟩
end Bt
namespace Un
theorem amt_le (l n : List UInt8) : (amt l n).1 ≤ 1125899906842624 ∧ (amt l n).2.1 ≤ 6 := by
  unfold amt
  split
  · split
    · simp
    · rename_i m hm
      have h1 := ms_facts m (look_mem hm).1
      split
      · rename_i h
        exact ⟨h.2, h1.1⟩
      · simp
  · simp
end Un
namespace Pa
open Bt
abbrev Er := Int × Int
abbrev R (α : Type) := Except Er (α × List Token)
def pk (ts : List Token) : Token := ts.headD default
def isS (c : List UInt8) (ts : List Token) : Bool := decide ((pk ts).Kind = 3) && decide ((pk ts).Text = c)
def wrd (k : Int) (t : Token) : Node := ⟨k, t.Text, 0, 0, t.At, []⟩
def fail {α : Type} (ts : List Token) : R α := .error (2, (pk ts).At)
def nameP (ts : List Token) : R Token := if (pk ts).Kind = 0 then .ok (pk ts, ts.tail) else fail ts
def wordP (ts : List Token) : R Node := if (pk ts).Kind = 0 then .ok (wrd 3 (pk ts), ts.tail) else if (pk ts).Kind = 2 then .ok (wrd 4 (pk ts), ts.tail) else fail ts
def isUnit (t : List UInt8) : Bool := !decide ((Un.amt [48] t).2.2 = 6)
def unitOf (ts : List Token) : List UInt8 := if (pk ts).Kind = 0 ∧ isUnit (pk ts).Text = true then (pk ts).Text else []
def unitRest (ts : List Token) : List Token := if (pk ts).Kind = 0 ∧ isUnit (pk ts).Text = true then ts.tail else ts
def amtP (ts : List Token) : R Node :=
  let a := Un.amt (pk ts).Text (unitOf ts.tail)
  if a.2.2 = 0 then .ok (⟨5, [], a.1, a.2.1, (pk ts).At, []⟩, unitRest ts.tail) else .error (7, (pk ts).At)
def grp (at_ : Int) (ks : List Node) : Node := ⟨6, [], 0, 0, at_, ks⟩
mutual
def valP : Nat → Nat → List Token → R Node
  | 0, _, _ => .error (0, 0)
  | f + 1, g, ts =>
    if (pk ts).Kind = 1 then amtP ts
    else if isS [40] ts = true then
      (if 40 ≤ g then .error (8, (pk ts).At) else match grpP f (g + 1) ts.tail with
        | .error e => .error e
        | .ok (xs, r) => .ok (grp (pk ts).At xs, r))
    else wordP ts
def grpP : Nat → Nat → List Token → R (List Node)
  | 0, _, _ => .error (0, 0)
  | f + 1, g, ts => match valP f g ts with
    | .error e => .error e
    | .ok (x, r) =>
      if isS [41] r = true then .ok ([x], r.tail)
      else if isS [44] r = true then (match grpP f g r.tail with
        | .error e => .error e
        | .ok (xs, r') => .ok (x :: xs, r'))
      else fail r
end
/-- elements up to a closing sign -/
def many (c : List UInt8) (p : List Token → R Node) : Nat → List Token → R (List Node)
  | 0, _ => .error (0, 0)
  | f + 1, ts => if isS c ts = true then .ok ([], ts.tail) else match p ts with
    | .error e => .error e
    | .ok (x, r) => (match many c p f r with
      | .error e => .error e
      | .ok (xs, r') => .ok (x :: xs, r'))
def val0 (ts : List Token) : R Node := valP (2 * ts.length) 0 ts
def propP (ts : List Token) : R Node := match nameP ts with
  | .error e => .error e
  | .ok (t, r) => (match many [59] val0 r.length r with
    | .error e => .error e
    | .ok (xs, r') => .ok (⟨2, t.Text, 0, 0, t.At, xs⟩, r'))
def declP (ts : List Token) : R Node := match nameP ts with
  | .error e => .error e
  | .ok (t, r) => (match many [123] wordP r.length r with
    | .error e => .error e
    | .ok (xs, r') => (match many [125] propP r'.length r' with
      | .error e => .error e
      | .ok (ys, r'') => .ok (⟨1, t.Text, 0, 0, t.At, xs ++ ys⟩, r'')))
def fileP : Nat → List Token → R (List Node)
  | 0, _ => .error (0, 0)
  | f + 1, ts => if (pk ts).Kind = 4 then .ok ([], ts) else match declP ts with
    | .error e => .error e
    | .ok (x, r) => (match fileP f r with
      | .error e => .error e
      | .ok (xs, r') => .ok (x :: xs, r'))
def fileN (ts : List Token) : R Node := match fileP (ts.length + 1) ts with
  | .error e => .error e
  | .ok (xs, r) => .ok (⟨0, [], 0, 0, 0, xs⟩, r)
def parseT (ts : List Token) : Node × Int × Int := match fileN ts with
  | .error e => (default, e.1, e.2)
  | .ok (x, _) => (x, 0, 0)
def parse (s : List UInt8) : Node × Int × Int :=
  if (Lx.scan s).2.1 = 0 then parseT (Lx.scan s).1 else (default, (Lx.scan s).2.1, (Lx.scan s).2.2)
/-- the last token is an end -/
def good : List Token → Prop
  | [] => False
  | [t] => t.Kind = 4
  | _ :: u :: r => good (u :: r)
theorem good_ne {ts : List Token} (h : good ts) : ts ≠ [] := by rintro rfl; exact h
theorem good_tail {ts : List Token} (h : good ts) (hk : (pk ts).Kind ≠ 4) : good ts.tail ∧ ts.tail.length + 1 = ts.length := by
  match ts, h with
  | [t], h => exact absurd h hk
  | _ :: u :: r, h => exact ⟨h, rfl⟩
/-- what remains lies at the end -/
theorem suf_get {toks ts : List Token} (h : ts <:+ toks) (hn : ts ≠ []) : toks.length - ts.length < toks.length ∧ toks.getD (toks.length - ts.length) default = pk ts := by
  obtain ⟨pre, rfl⟩ := h
  have : 0 < ts.length := List.length_pos_iff.2 hn
  refine ⟨by rw [List.length_append]; omega, ?_⟩
  rw [List.length_append, Nat.add_sub_cancel, pk, List.getD_eq_getElem?_getD, List.getElem?_append_right (Nat.le_refl _), Nat.sub_self, List.headD_eq_head?_getD, List.head?_eq_getElem?]
theorem suf_len {toks ts : List Token} (h : ts <:+ toks) : ts.length ≤ toks.length := h.length_le
/-- r is what a step leaves of ts -/
def Ad (ts r : List Token) : Prop := r <:+ ts ∧ good r ∧ r.length < ts.length
theorem Ad.trans {a b c : List Token} (h : Ad a b) (k : Ad b c) : Ad a c := ⟨k.1.trans h.1, k.2.1, Nat.lt_trans k.2.2 h.2.2⟩
theorem ad_tail {ts : List Token} (h : good ts) (hk : (pk ts).Kind ≠ 4) : Ad ts ts.tail := by
  obtain ⟨h1, h2⟩ := good_tail h hk
  exact ⟨List.tail_suffix _, h1, by omega⟩
theorem isS_kind {c : List UInt8} {ts : List Token} (h : isS c ts = true) : (pk ts).Kind = 3 := by unfold isS at h; simp only [Bool.and_eq_true, decide_eq_true_eq] at h; exact h.1
theorem ad_sign {c : List UInt8} {ts : List Token} (h : good ts) (hs : isS c ts = true) : Ad ts ts.tail := ad_tail h (by have := isS_kind hs; omega)
theorem nameP_ok {ts r : List Token} {t : Token} (hg : good ts) (h : nameP ts = .ok (t, r)) : Ad ts r ∧ t = pk ts ∧ (pk ts).Kind = 0 := by
  unfold nameP at h
  split at h
  · rename_i hk
    cases h; exact ⟨ad_tail hg (by omega), rfl, hk⟩
  · cases h
theorem wordP_ok {ts r : List Token} {x : Node} (hg : good ts) (h : wordP ts = .ok (x, r)) : Ad ts r := by
  unfold wordP at h
  split at h
  · cases h; exact ad_tail hg (by omega)
  · split at h
    · cases h; exact ad_tail hg (by omega)
    · cases h
theorem unit_ok {ts : List Token} (hg : good ts) : unitRest ts <:+ ts ∧ good (unitRest ts) ∧ (unitRest ts).length ≤ ts.length := by
  unfold unitRest
  split
  · rename_i h
    obtain ⟨h1, h2⟩ := good_tail hg (by omega)
    exact ⟨List.tail_suffix _, h1, by omega⟩
  · exact ⟨List.suffix_refl _, hg, Nat.le_refl _⟩
theorem amtP_ok {ts r : List Token} {x : Node} (hg : good ts) (hk : (pk ts).Kind = 1) (h : amtP ts = .ok (x, r)) : Ad ts r := by
  unfold amtP at h
  have h0 := ad_tail hg (by omega)
  obtain ⟨h1, h2, h3⟩ := unit_ok h0.2.1
  simp only [] at h
  split at h
  · cases h
    exact ⟨h1.trans h0.1, h2, Nat.lt_of_le_of_lt h3 h0.2.2⟩
  · cases h
theorem val_grp_ok : ∀ (f : Nat), (∀ (g : Nat) (ts r : List Token) (x : Node), good ts → valP f g ts = .ok (x, r) → Ad ts r) ∧ (∀ (g : Nat) (ts r : List Token) (xs : List Node), good ts → grpP f g ts = .ok (xs, r) → Ad ts r)
  | 0 => ⟨fun g ts r x _ h => (by rw [valP] at h; cases h), fun g ts r x _ h => (by rw [grpP] at h; cases h)⟩
  | f + 1 => by
    obtain ⟨ih1, ih2⟩ := val_grp_ok f
    refine ⟨fun g ts r x hg h => ?_, fun g ts r xs hg h => ?_⟩
    · rw [valP] at h
      split at h
      · rename_i hk; exact amtP_ok hg hk h
      · split at h
        · rename_i hs
          split at h
          · cases h
          · have h0 := ad_sign hg hs
            split at h
            · cases h
            · rename_i xs r' he
              cases h
              exact h0.trans (ih2 _ _ _ _ h0.2.1 he)
        · exact wordP_ok hg h
    · rw [grpP] at h
      split at h
      · cases h
      · rename_i x r1 he
        have h1 := ih1 _ _ _ _ hg he
        split at h
        · rename_i hs
          cases h; exact h1.trans (ad_sign h1.2.1 hs)
        · split at h
          · rename_i hs
            have h2 := h1.trans (ad_sign h1.2.1 hs)
            split at h
            · cases h
            · rename_i xs r2 he2
              cases h
              exact h2.trans (ih2 _ _ _ _ h2.2.1 he2)
          · cases h
theorem valP_ok {f g : Nat} {ts r : List Token} {x : Node} (hg : good ts) (h : valP f g ts = .ok (x, r)) : Ad ts r := (val_grp_ok f).1 g ts r x hg h
theorem val0_ok {ts r : List Token} {x : Node} (hg : good ts) (h : val0 ts = .ok (x, r)) : Ad ts r := valP_ok hg h
theorem many_ok {c : List UInt8} {p : List Token → R Node} (hp : ∀ {ts r x}, good ts → p ts = .ok (x, r) → Ad ts r) : ∀ {f : Nat} {ts r : List Token} {xs : List Node}, good ts → many c p f ts = .ok (xs, r) → Ad ts r
  | 0, _, _, _, _, h => by rw [many] at h; cases h
  | f + 1, ts, r, xs, hg, h => by
    rw [many] at h
    split at h
    · rename_i hs
      cases h; exact ad_sign hg hs
    · split at h
      · cases h
      · rename_i x r1 he
        have h1 := hp hg he
        split at h
        · cases h
        · rename_i ys r2 he2
          cases h
          exact h1.trans (many_ok hp h1.2.1 he2)
theorem propP_ok {ts r : List Token} {x : Node} (hg : good ts) (h : propP ts = .ok (x, r)) : Ad ts r := by
  unfold propP at h
  split at h
  · cases h
  · rename_i t r1 he
    have h1 := (nameP_ok hg he).1
    split at h
    · cases h
    · rename_i xs r2 he2
      cases h
      exact h1.trans (many_ok val0_ok h1.2.1 he2)
theorem declP_ok {ts r : List Token} {x : Node} (hg : good ts) (h : declP ts = .ok (x, r)) : Ad ts r := by
  unfold declP at h
  split at h
  · cases h
  · rename_i t r1 he
    have h1 := (nameP_ok hg he).1
    split at h
    · cases h
    · rename_i xs r2 he2
      have h2 := h1.trans (many_ok wordP_ok h1.2.1 he2)
      split at h
      · cases h
      · rename_i ys r3 he3
        cases h
        exact h2.trans (many_ok propP_ok h2.2.1 he3)
theorem stm_good {s : List UInt8} : ∀ (n a : Nat), s.length - a < n → a ≤ s.length → (∀ x ∈ Lx.stm n s a, x.2 = true) → good ((Lx.stm n s a).map (·.1)) ∧ ∀ t ∈ (Lx.stm n s a).map (·.1), Lx.wfT s.length t
  | 0, _, h, _, _ => by omega
  | n + 1, a, h, ha, hall => by
    by_cases hlt : a < s.length
    · cases hk : (Lx.tk (s.drop a)).2.2.2.2 with
      | false =>
        rw [Lx.stm_bad hlt hk] at hall
        have := hall _ (List.mem_singleton.2 rfl)
        cases this
      | true =>
        rw [Lx.stm_tok hlt hk] at hall ⊢
        have hld : (s.drop a).length = s.length - a := List.length_drop
        obtain ⟨h1, h2⟩ := Lx.tk_ok (l := s.drop a) (by omega) hk
        have h3 := Lx.skp_le false (s.drop (a + (Lx.tk (s.drop a)).2.2.2.1))
        rw [List.length_drop] at h3
        obtain ⟨h4, h5⟩ := stm_good n (a + (Lx.tk (s.drop a)).2.2.2.1 + Lx.skp false (s.drop (a + (Lx.tk (s.drop a)).2.2.2.1))) (by omega) (by omega) (fun x hx => hall x (List.mem_cons_of_mem _ hx))
        refine ⟨?_, fun t ht => ?_⟩
        · rw [List.map_cons]
          generalize (Lx.stm n s _).map (·.1) = L at h4
          cases L with
          | nil => exact h4.elim
          | cons u r => exact h4
        · rw [List.map_cons] at ht
          rcases List.mem_cons.1 ht with rfl | ht
          · exact Lx.wf_tok (by omega)
          · exact h5 t ht
    · rw [Lx.stm_end (by omega)]
      exact ⟨rfl, fun t ht => by obtain rfl := List.mem_singleton.1 ht; exact Lx.wf_end s⟩
theorem scan_good {s : List UInt8} (h : (Lx.scan s).2.1 = 0) : good (Lx.scan s).1 ∧ (∀ t ∈ (Lx.scan s).1, Lx.wfT 65536 t) ∧ (Lx.scan s).1.length ≤ 65537 ∧ s.length ≤ 65536 ∧ (Lx.scan s).1 = (Lx.seqT s).map (·.1) ∧ ∀ x ∈ Lx.seqT s, x.2 = true := by
  by_cases h1 : 65536 < s.length
  · unfold Lx.scan at h; rw [if_pos h1] at h; cases h
  · by_cases h2 : ∀ x ∈ Lx.seqT s, x.2 = true
    · rw [Lx.scan_ok (by omega) h2]
      have h0 := Lx.skp_le false s
      obtain ⟨h3, h4⟩ := stm_good (s := s) (s.length + 1) (Lx.skp false s) (by omega) h0 h2
      refine ⟨h3, fun t ht => ?_, ?_, by omega, rfl, h2⟩
      · obtain ⟨k1, k2, k3, k4, k5⟩ := h4 t ht
        exact ⟨k1, k2, by omega, k4, by omega⟩
      · have := Lx.stm_len (s.length + 1) s (Lx.skp false s)
        simp only [Lx.seqT, List.length_map]; omega
    · exfalso
      apply h2
      intro x hx
      cases hb : x.2 with
      | true => rfl
      | false => rw [Lx.scan_bad (by omega) hx hb] at h; cases h
end Pa
namespace Pa
open Bt
/-- the byte at j may stand there in a name -/
def nmAt (l : List UInt8) (j : Nat) : Prop := (97 ≤ (l.getD j 0).toNat ∧ (l.getD j 0).toNat ≤ 122 ∨ 65 ≤ (l.getD j 0).toNat ∧ (l.getD j 0).toNat ≤ 90) ∨ (j ≠ 0 ∧ ((l.getD j 0).toNat = 95 ∨ 48 ≤ (l.getD j 0).toNat ∧ (l.getD j 0).toNat ≤ 57))
instance (l : List UInt8) (j : Nat) : Decidable (nmAt l j) := by unfold nmAt; infer_instance
def txAt (l : List UInt8) (j : Nat) : Prop := 32 ≤ (l.getD j 0).toNat ∧ (l.getD j 0).toNat ≤ 126 ∧ (l.getD j 0).toNat ≠ 34 ∧ (l.getD j 0).toNat ≠ 92
instance (l : List UInt8) (j : Nat) : Decidable (txAt l j) := by unfold txAt; infer_instance
def isName (l : List UInt8) : Bool := decide (∀ j, j < l.length → nmAt l j) && decide (1 ≤ l.length ∧ l.length ≤ 24)
def isText (l : List UInt8) : Bool := decide (∀ j, j < l.length → txAt l j) && decide (l.length ≤ 500)
def isWord (n : Node) : Bool := decide (n.Kids.length = 0) && decide (n.N = 0 ∧ n.Dim = 0) && (decide (n.Kind = 3) && isName n.Text || decide (n.Kind = 4) && isText n.Text)
/-- a right value that lies in g groups -/
def isVal : Nat → Node → Bool
  | g, ⟨k, t, n, d, a, ks⟩ =>
    if k = 5 then decide (t = []) && decide (ks.length = 0) && decide (Un.wri n d ≠ [])
    else if k = 6 then decide (t = []) && decide (n = 0 ∧ d = 0) && decide (ks.length ≠ 0) && decide (g < 40) && allVal (g + 1) ks
    else isWord ⟨k, t, n, d, a, ks⟩
where allVal : Nat → List Node → Bool
  | _, [] => true
  | g, x :: xs => isVal g x && allVal g xs
/-- a word that is a unit does not follow an amount without unit -/
def pairAt (l : List Node) (j : Nat) : Prop := ¬ (0 < j ∧ (l.getD j default).Kind = 3 ∧ isUnit (l.getD j default).Text = true ∧ (l.getD (j - 1) default).Kind = 5 ∧ (l.getD (j - 1) default).Dim = 0)
instance (l : List Node) (j : Nat) : Decidable (pairAt l j) := by unfold pairAt; infer_instance
def isProp (n : Node) : Bool := decide (n.Kind = 2) && isName n.Text && decide (n.N = 0 ∧ n.Dim = 0) && decide (∀ j, j < n.Kids.length → isVal 0 (n.Kids.getD j default) = true ∧ pairAt n.Kids j)
/-- how many words a declaration begins with -/
def wrdN (l : List Node) : Nat := (l.takeWhile isWord).length
def isDecl (n : Node) : Bool := decide (n.Kind = 1) && isName n.Text && decide (n.N = 0 ∧ n.Dim = 0) && decide (∀ j, j < n.Kids.length → wrdN n.Kids ≤ j → isProp (n.Kids.getD j default) = true)
def right (n : Node) : Bool := decide (n.Kind = 0) && decide (n.Text = []) && decide (n.N = 0 ∧ n.Dim = 0) && decide (∀ j, j < n.Kids.length → isDecl (n.Kids.getD j default) = true)
/-- the written form of a word or value -/
def wr : Node → List UInt8
  | ⟨k, t, n, d, _, ks⟩ => if k = 4 then [34] ++ t ++ [34] else if k = 5 then Un.wri n d else if k = 6 then [40] ++ wrJ ks ++ [41] else t
where wrJ : List Node → List UInt8
  | [] => []
  | [x] => wr x
  | x :: y :: xs => wr x ++ ([44, 32] ++ wrJ (y :: xs))
def wrVs (l : List Node) : List UInt8 := l.flatMap fun v => 32 :: wr v
def wrProp (n : Node) : List UInt8 := [32, 32] ++ n.Text ++ wrVs n.Kids ++ [59, 10]
def prpN (l : List Node) : Nat := (l.takeWhile fun k => !decide (k.Kind = 2)).length
def wrDecl (n : Node) : List UInt8 := n.Text ++ wrVs (n.Kids.take (prpN n.Kids)) ++ [32, 123, 10] ++ (n.Kids.drop (prpN n.Kids)).flatMap wrProp ++ [125, 10]
def write (n : Node) : List UInt8 := if right n = true then n.Kids.flatMap wrDecl else []
theorem allVal_iff {g : Nat} : ∀ {l : List Node}, isVal.allVal g l = decide (∀ j, j < l.length → isVal g (l.getD j default) = true)
  | [] => by rw [isVal.allVal, decide_eq_true]; intro j hj; simp at hj
  | x :: xs => by
    rw [isVal.allVal, allVal_iff (l := xs), Bool.eq_iff_iff]
    simp only [Bool.and_eq_true, decide_eq_true_eq]
    constructor
    · rintro ⟨h1, h2⟩ j hj
      cases j with
      | zero => simpa using h1
      | succ j => simpa using h2 j (by simpa using hj)
    · intro h
      exact ⟨by simpa using h 0 (by simp), fun j hj => by simpa using h (j + 1) (by simpa using hj)⟩
theorem isVal_5 {g : Nat} {x : Node} (h : x.Kind = 5) : isVal g x = (decide (x.Text = []) && decide (x.Kids.length = 0) && decide (Un.wri x.N x.Dim ≠ [])) := by
  obtain ⟨k, t, n, d, a, ks⟩ := x
  simp only [] at h; subst h; rw [isVal, if_pos rfl]
theorem isVal_6 {g : Nat} {x : Node} (h : x.Kind = 6) : isVal g x = (decide (x.Text = []) && decide (x.N = 0 ∧ x.Dim = 0) && decide (x.Kids.length ≠ 0) && decide (g < 40) && decide (∀ j, j < x.Kids.length → isVal (g + 1) (x.Kids.getD j default) = true)) := by
  obtain ⟨k, t, n, d, a, ks⟩ := x
  simp only [] at h; subst h; rw [isVal, if_neg (by decide), if_pos rfl, allVal_iff]
theorem isVal_w {g : Nat} {x : Node} (h5 : x.Kind ≠ 5) (h6 : x.Kind ≠ 6) : isVal g x = isWord x := by
  obtain ⟨k, t, n, d, a, ks⟩ := x
  simp only [] at h5 h6; rw [isVal, if_neg h5, if_neg h6]
theorem wrdN_at {l : List Node} {i : Nat} (h : ∀ j, j < i → isWord (l.getD j default) = true) (hi : i = l.length ∨ isWord (l.getD i default) = false) (hl : i ≤ l.length) : wrdN l = i := by
  unfold wrdN
  induction l generalizing i with
  | nil => simp at hl; simp [hl]
  | cons x l ih =>
    cases i with
    | zero =>
      rcases hi with hi | hi
      · simp at hi
      · rw [List.takeWhile_cons, if_neg (by simpa using hi)]; rfl
    | succ i =>
      rw [List.takeWhile_cons, if_pos (by simpa using h 0 (by omega)), List.length_cons, ih (i := i) (fun j hj => by simpa using h (j + 1) (by omega)) (by simpa using hi) (by simpa using hl)]
theorem prpN_at {l : List Node} {i : Nat} (h : ∀ j, j < i → (l.getD j default).Kind ≠ 2) (hi : i = l.length ∨ (l.getD i default).Kind = 2) (hl : i ≤ l.length) : prpN l = i := by
  unfold prpN
  induction l generalizing i with
  | nil => simp at hl; simp [hl]
  | cons x l ih =>
    cases i with
    | zero =>
      rcases hi with hi | hi
      · simp at hi
      · have hi' : x.Kind = 2 := by simpa using hi
        rw [List.takeWhile_cons, if_neg (by simp [hi'])]; rfl
    | succ i =>
      have h0 : x.Kind ≠ 2 := by simpa using h 0 (by omega)
      rw [List.takeWhile_cons, if_pos (by simp [h0]), List.length_cons, ih (i := i) (fun j hj => by simpa using h (j + 1) (by omega)) (by simpa using hi) (by simpa using hl)]
theorem wrJ_join : ∀ l : List Node, wr.wrJ l = Go.Lib.join (l.map wr) [44, 32]
  | [] => by rw [wr.wrJ]; rfl
  | [x] => by rw [wr.wrJ, List.map_cons, List.map_nil, Go.Lib.join_one]
  | x :: y :: xs => by
    rw [wr.wrJ, wrJ_join (y :: xs), List.map_cons, List.map_cons, Go.Lib.join_cons, Go.Lib.join_cons]; simp [Go.Lib.joinTail]
theorem wr_4 {x : Node} (h : x.Kind = 4) : wr x = [34] ++ x.Text ++ [34] := by
  obtain ⟨k, t, n, d, a, ks⟩ := x
  simp only [] at h; subst h; rw [wr, if_pos rfl]
theorem wr_5 {x : Node} (h : x.Kind = 5) : wr x = Un.wri x.N x.Dim := by
  obtain ⟨k, t, n, d, a, ks⟩ := x
  simp only [] at h; subst h; rw [wr, if_neg (by decide), if_pos rfl]
theorem wr_6 {x : Node} (h : x.Kind = 6) : wr x = [40] ++ Go.Lib.join (x.Kids.map wr) [44, 32] ++ [41] := by
  obtain ⟨k, t, n, d, a, ks⟩ := x
  simp only [] at h; subst h; rw [wr, if_neg (by decide), if_neg (by decide), if_pos rfl, wrJ_join]
theorem wr_o {x : Node} (h4 : x.Kind ≠ 4) (h5 : x.Kind ≠ 5) (h6 : x.Kind ≠ 6) : wr x = x.Text := by
  obtain ⟨k, t, n, d, a, ks⟩ := x
  simp only [] at h4 h5 h6; rw [wr, if_neg h4, if_neg h5, if_neg h6]
theorem join_mem_le {sep : List UInt8} : ∀ {l : List (List UInt8)} {u : List UInt8}, u ∈ l → u.length ≤ (Go.Lib.join l sep).length
  | x :: r, u, h => by
    rw [Go.Lib.join_cons, List.length_append]
    rcases List.mem_cons.1 h with rfl | h
    · omega
    · have : u.length ≤ (Go.Lib.joinTail sep r).length := by
        unfold Go.Lib.joinTail
        induction r with
        | nil => cases h
        | cons y r ih =>
          rw [List.map_cons, List.flatten_cons, List.length_append, List.length_append]
          rcases List.mem_cons.1 h with rfl | h
          · omega
          · have := ih (List.mem_cons_of_mem _ h) h; omega
      omega
theorem getD_mem {l : List Node} {i : Nat} (h : i < l.length) : l.getD i default ∈ l := by
  rw [List.getD_eq_getElem?_getD, List.getElem?_eq_getElem h]; exact List.getElem_mem h
theorem wr_kid {x : Node} (h : x.Kind = 6) {i : Nat} (hi : i < x.Kids.length) : (wr (x.Kids.getD i default)).length ≤ (wr x).length := by
  have := join_mem_le (sep := [44, 32]) (List.mem_map_of_mem (f := wr) (getD_mem hi))
  rw [wr_6 h, List.length_append, List.length_append]; omega
theorem strs_all {l : List Node} {L : List (List UInt8)} {i : Nat} (hl : L.length = l.length) (h : ∀ j, j < i → L.getD j [] = wr (l.getD j default)) (hi : l.length ≤ i) : L = l.map wr := by
  apply List.ext_getElem?
  intro j
  rcases Nat.lt_or_ge j l.length with hj | hj
  · have := h j (by omega)
    rw [List.getD_eq_getElem?_getD, List.getD_eq_getElem?_getD, List.getElem?_eq_getElem (by omega), List.getElem?_eq_getElem hj] at this
    rw [List.getElem?_map, List.getElem?_eq_getElem (by omega), List.getElem?_eq_getElem hj]
    simpa using this
  · rw [List.getElem?_eq_none (by omega), List.getElem?_eq_none (by simpa using hj)]
theorem strs_set {l : List Node} {L : List (List UInt8)} {i : Nat} (h : ∀ j, j < i → L.getD j [] = wr (l.getD j default)) (hi : i < L.length) : ∀ j, j < i + 1 → (L.set i (wr (l.getD i default))).getD j [] = wr (l.getD j default) := fun j hj => by
  rw [List.getD_eq_getElem?_getD, List.getElem?_set]
  by_cases h9 : i = j
  · subst h9; rw [if_pos rfl, if_pos hi]; rfl
  · rw [if_neg h9]; have := h j (by omega); rwa [List.getD_eq_getElem?_getD] at this
/-- the texts that lex.Write joins -/
def lexT1 (t : Token) : List (List UInt8) := if t.Kind = 0 ∨ t.Kind = 1 ∨ t.Kind = 3 then [t.Text] else if t.Kind = 2 then [[34] ++ t.Text ++ [34]] else []
def lexT (ts : List Token) : List (List UInt8) := ts.flatMap lexT1
def lexW (ts : List Token) : List UInt8 := Go.Lib.join (lexT ts) [32]
theorem take_snocN {l : List Node} {k : Nat} (hk : k < l.length) : l.take (k + 1) = l.take k ++ [l.getD k default] := by
  rw [List.take_add_one, List.getElem?_eq_getElem hk, List.getD_eq_getElem?_getD, List.getElem?_eq_getElem hk]; rfl
theorem flat_snoc {α : Type} {T : Node → List α} {l : List Node} {k : Nat} (hk : k < l.length) : (l.take (k + 1)).flatMap T = (l.take k).flatMap T ++ T (l.getD k default) := by
  rw [take_snocN hk, List.flatMap_append, List.flatMap_singleton]
theorem flat_take_le {α : Type} {T : Node → List α} {l : List Node} (k : Nat) : ((l.take k).flatMap T).length ≤ (l.flatMap T).length := by
  have : l.flatMap T = (l.take k).flatMap T ++ (l.drop k).flatMap T := by rw [← List.flatMap_append, List.take_append_drop]
  rw [this, List.length_append]; omega
theorem prpN_ge {l : List Node} {i : Nat} (h : ∀ j, j < i → (l.getD j default).Kind ≠ 2) (hl : i ≤ l.length) : i ≤ prpN l := by
  unfold prpN
  induction l generalizing i with
  | nil => simpa using hl
  | cons x l ih =>
    cases i with
    | zero => exact Nat.zero_le _
    | succ i =>
      have h0 : x.Kind ≠ 2 := by simpa using h 0 (by omega)
      rw [List.takeWhile_cons, if_pos (by simp [h0]), List.length_cons]
      have := ih (i := i) (fun j hj => by simpa using h (j + 1) (by omega)) (by simpa using hl)
      omega
theorem wrVs_snoc {l : List Node} {j : Nat} (hj : j < l.length) : wrVs (l.take (j + 1)) = wrVs (l.take j) ++ ([32] ++ wr (l.getD j default)) := flat_snoc hj
theorem wrVs_le {l : List Node} (j : Nat) : (wrVs (l.take j)).length ≤ (wrVs l).length := flat_take_le j
theorem wrVs_stepV {l : List Node} {j : Nat} (hj : j < l.length) : (wrVs (l.take j)).length + (1 + (wr (l.getD j default)).length) ≤ (wrVs l).length := by
  have h := wrVs_le (l := l) (j + 1)
  rw [wrVs_snoc hj, List.length_append, List.length_append] at h
  simpa using h
theorem wrVs_step {l : List Node} {j : Nat} (h : ∀ i, i < j → (l.getD i default).Kind ≠ 2) (hj : j < l.length) (h2 : (l.getD j default).Kind ≠ 2) : (wrVs (l.take j)).length + (1 + (wr (l.getD j default)).length) ≤ (wrVs (l.take (prpN l))).length := by
  have h1 := prpN_ge (l := l) (i := j + 1) (fun i hi => by
    by_cases h9 : i = j
    · rw [h9]; exact h2
    · exact h i (by omega)) hj
  have h3 := wrVs_stepV (l := l.take (prpN l)) (j := j) (by rw [List.length_take]; omega)
  rw [List.take_take, Nat.min_eq_left (by omega)] at h3
  rwa [List.getD_eq_getElem?_getD, List.getElem?_take_of_lt (by omega), ← List.getD_eq_getElem?_getD] at h3
theorem wrP_step {l : List Node} {k : Nat} (hk : k < l.length) : ((l.take k).flatMap wrProp).length + (wrProp (l.getD k default)).length ≤ (l.flatMap wrProp).length := by
  have h := flat_take_le (T := wrProp) (l := l) (k + 1)
  rw [flat_snoc hk, List.length_append] at h; exact h
theorem wrD_step {l : List Node} {k : Nat} (hk : k < l.length) : ((l.take k).flatMap wrDecl).length + (wrDecl (l.getD k default)).length ≤ (l.flatMap wrDecl).length := by
  have h := flat_take_le (T := wrDecl) (l := l) (k + 1)
  rw [flat_snoc hk, List.length_append] at h; exact h
theorem wrProp_len (p : Node) : (wrProp p).length = 2 + p.Text.length + (wrVs p.Kids).length + 2 := by
  simp [wrProp]; omega
theorem wrDecl_len (d : Node) : (wrDecl d).length = d.Text.length + (wrVs (d.Kids.take (prpN d.Kids))).length + 3 + ((d.Kids.drop (prpN d.Kids)).flatMap wrProp).length + 2 := by
  simp only [wrDecl, List.length_append, List.length_cons, List.length_nil]
end Pa
