/- Lemmas. Conditions: those of each theorem. -/
import Derived.Test.YtjmeeofdffdpnaaGreatDoorMLaidM
namespace Lx
def isL (c : UInt8) : Bool := decide ((97 ≤ c.toNat ∧ c.toNat ≤ 122) ∨ (65 ≤ c.toNat ∧ c.toNat ≤ 90))
def isD (c : UInt8) : Bool := decide (48 ≤ c.toNat ∧ c.toNat ≤ 57)
def inN (c : UInt8) : Bool := isL c || isD c || decide (c.toNat = 95)
def inS (c : UInt8) : Bool := decide (32 ≤ c.toNat ∧ c.toNat ≤ 126 ∧ c.toNat ≠ 34 ∧ c.toNat ≠ 92)
def nNl (c : UInt8) : Bool := decide (c.toNat ≠ 10)
def ws (c : UInt8) : Bool := decide (c.toNat = 9 ∨ c.toNat = 10 ∨ c.toNat = 13 ∨ c.toNat = 32)
def run (p : UInt8 → Bool) : List UInt8 → Nat
 | [] => 0
 | c :: r => if p c then run p r + 1 else 0
def skp : Bool → List UInt8 → Nat
 | _, [] => 0
 | true, c :: r => if c.toNat = 10 then skp false r + 1 else skp true r + 1
 | false, c :: r => if ws c then skp false r + 1 else if c.toNat = 35 then skp true r + 1 else 0
def signN (l : List UInt8) : Nat :=
 let c := (l.getD 0 0).toNat
 if c = 60 ∨ c = 62 ∨ c = 61 ∨ c = 33 then (if 1 < l.length ∧ (l.getD 1 0).toNat = 61 then 2 else if c ≠ 33 then 1 else 0)
 else if c = 123 ∨ c = 125 ∨ c = 40 ∨ c = 41 ∨ c = 44 ∨ c = 59 ∨ c = 58 ∨ c = 43 ∨ c = 45 ∨ c = 42 ∨ c = 47 ∨ c = 37 then 1 else 0
def numN (l : List UInt8) : Nat :=
 if run isD l + 1 < l.length ∧ (l.getD (run isD l) 0).toNat = 46 ∧ isD (l.getD (run isD l + 1) 0) = true then run isD l + 1 + run isD (l.drop (run isD l + 1)) else run isD l
def tk (l : List UInt8) : Nat × Nat × Nat × Nat × Bool :=
 if isL (l.getD 0 0) then (0, 0, run inN l, run inN l, decide (run inN l ≤ 24))
 else if isD (l.getD 0 0) then (1, 0, numN l, numN l, decide (numN l ≤ 24))
 else if (l.getD 0 0).toNat = 34 then (2, 1, run inS (l.drop 1), run inS (l.drop 1) + 2, decide (run inS (l.drop 1) + 1 < l.length ∧ (l.getD (run inS (l.drop 1) + 1) 0).toNat = 34 ∧ run inS (l.drop 1) ≤ 500))
 else (3, 0, signN l, signN l, decide (0 < signN l))
def txt (l : List UInt8) : List UInt8 := (l.drop (tk l).2.1).take (tk l).2.2.1
theorem run_le (p : UInt8 → Bool) : ∀ l, run p l ≤ l.length
 | [] => Nat.le_refl _
 | c :: r => by have := run_le p r; unfold run; split <;> simp <;> omega
theorem drop_cons {l : List UInt8} {k : Nat} (h : k < l.length) : l.drop k = l.getD k 0 :: l.drop (k + 1) := by
 rw [gDD, List.getElem?_eq_getElem h]; exact List.drop_eq_getElem_cons h
theorem run_yes {p : UInt8 → Bool} {l : List UInt8} {k : Nat} (h : k < l.length) (hp : p (l.getD k 0) = true) : run p (l.drop k) = run p (l.drop (k + 1)) + 1 := by
 rw [drop_cons h]; unfold run; rw [if_pos hp, run.eq_def]
theorem run_no {p : UInt8 → Bool} {l : List UInt8} {k : Nat} (h : k < l.length) (hp : p (l.getD k 0) = false) : run p (l.drop k) = 0 := by
 rw [drop_cons h]; unfold run; rw [if_neg (by rw [hp]; simp)]
theorem run_end {p : UInt8 → Bool} {l : List UInt8} {k : Nat} (h : l.length ≤ k) : run p (l.drop k) = 0 := by
 rw [List.drop_of_length_le h]; rfl
theorem run_drop_le (p : UInt8 → Bool) (l : List UInt8) (k : Nat) (h : k ≤ l.length) : k + run p (l.drop k) ≤ l.length := by
 have := run_le p (l.drop k); rw [List.length_drop] at this; omega
theorem skp_le : ∀ (b : Bool) (l : List UInt8), skp b l ≤ l.length
 | true, [] => Nat.le_refl _
 | false, [] => Nat.le_refl _
 | true, c :: r => by have h1 := skp_le true r; have h2 := skp_le false r; unfold skp; split <;> simp <;> omega
 | false, c :: r => by have h1 := skp_le true r; have h2 := skp_le false r; unfold skp; split <;> (try split) <;> simp <;> omega
theorem skp_true : ∀ (l : List UInt8), skp true l = run nNl l + skp false (l.drop (run nNl l))
 | [] => rfl
 | c :: r => by
  have ih := skp_true r
  unfold run
  by_cases hc : c.toNat = 10
  ·
   have hn : nNl c = false := by simp [nNl, hc]
   have hw : ws c = true := by simp [ws, hc]
   rw [hn, if_neg (by simp), Nat.zero_add, List.drop_zero]
   unfold skp
   rw [if_pos hc, if_pos hw]
  ·
   have hn : nNl c = true := by simp [nNl, hc]
   rw [hn, if_pos rfl, List.drop_succ_cons]
   rw [show skp true (c :: r) = skp true r + 1 by rw [skp]; rw [if_neg hc], ih]; omega
theorem skp_ws {l : List UInt8} {k : Nat} (h : k < l.length) (hw : ws (l.getD k 0) = true) : skp false (l.drop k) = skp false (l.drop (k + 1)) + 1 := by
 rw [drop_cons h, skp, if_pos hw]
theorem skp_com {l : List UInt8} {k : Nat} (h : k < l.length) (hc : (l.getD k 0).toNat = 35) : skp false (l.drop k) = run nNl (l.drop k) + skp false (l.drop (k + run nNl (l.drop k))) := by
 have hn : nNl (l.getD k 0) = true := by simp only [nNl, hc]; decide
 have hw : ws (l.getD k 0) = false := by simp only [ws, hc]; decide
 rw [run_yes h hn]
 rw [drop_cons h, skp, if_neg (by rw [hw]; simp), if_pos hc, skp_true, List.drop_drop]
 rw [show k + (run nNl (l.drop (k + 1)) + 1) = k + 1 + run nNl (l.drop (k + 1)) by omega]
 omega
theorem skp_no {l : List UInt8} {k : Nat} (h : k < l.length) (hw : ws (l.getD k 0) = false) (hc : (l.getD k 0).toNat ≠ 35) : skp false (l.drop k) = 0 := by
 rw [drop_cons h, skp, if_neg (by rw [hw]; simp), if_neg hc]
theorem skp_end {l : List UInt8} {k : Nat} (h : l.length ≤ k) : skp false (l.drop k) = 0 := by
 rw [List.drop_of_length_le h]; rfl
theorem getD_drop (l : List UInt8) (k i : Nat) : (l.drop k).getD i 0 = l.getD (k + i) 0 := by
 rw [gDD, gDD, List.getElem?_drop]
theorem signN_le (l : List UInt8) : signN l ≤ l.length := by
 unfold signN
 simp only []
 cases l with
 | nil => decide
 | cons c r => split <;> (try split) <;> (try split) <;> simp_all <;> omega
end Lx
namespace Bt
structure Token where
 Kind : Int
 Text : List UInt8
 At : Int
instance : Inhabited Token := ⟨⟨0, [], 0⟩⟩
end Bt
namespace Lx
theorem run_pos {p : UInt8 → Bool} {l : List UInt8} (h : 0 < l.length) (hp : p (l.getD 0 0) = true) : 1 ≤ run p l := by
 have := run_yes (p := p) (k := 0) h hp
 rw [List.drop_zero] at this; omega
theorem numN_le (l : List UInt8) : numN l ≤ l.length := by
 unfold numN
 have h1 := run_le isD l
 split
 ·
  have h2 := run_le isD (l.drop (run isD l + 1))
  rw [List.length_drop] at h2
  omega
 ·
  exact h1
theorem numN_pos {l : List UInt8} (h : 0 < l.length) (hp : isD (l.getD 0 0) = true) : 1 ≤ numN l := by
 have := run_pos (p := isD) h hp
 unfold numN
 split <;> omega
theorem tk_ok {l : List UInt8} (h : 0 < l.length) (hk : (tk l).2.2.2.2 = true) : 1 ≤ (tk l).2.2.2.1 ∧ (tk l).2.2.2.1 ≤ l.length := by
 unfold tk at hk ⊢
 split at hk <;> rename_i h1
 ·
  rw [if_pos h1]
  exact ⟨run_pos h (by unfold inN; rw [h1]; rfl), run_le _ _⟩
 ·
  rw [if_neg h1]
  split at hk <;> rename_i h2
  ·
   rw [if_pos h2]; exact ⟨numN_pos h h2, numN_le _⟩
  ·
   rw [if_neg h2]
   split at hk <;> rename_i h3
   ·
    rw [if_pos h3]
    simp only [decide_eq_true_eq] at hk
    exact ⟨by simp, by simp only []; omega⟩
   ·
    rw [if_neg h3]
    simp only [decide_eq_true_eq] at hk
    exact ⟨hk, signN_le l⟩
theorem txt_le (l : List UInt8) : (txt l).length ≤ l.length := by
 unfold txt; rw [List.length_take, List.length_drop]; omega
def stm : Nat → List UInt8 → Nat → List (Bt.Token × Bool)
 | 0, _, _ => []
 | n + 1, s, a => if a < s.length then
   (⟨((tk (s.drop a)).1 : Nat), txt (s.drop a), (a : Nat)⟩, (tk (s.drop a)).2.2.2.2) ::
    (if (tk (s.drop a)).2.2.2.2 then stm n s (a + (tk (s.drop a)).2.2.2.1 + skp false (s.drop (a + (tk (s.drop a)).2.2.2.1))) else [])
  else [(⟨4, [], s.length⟩, true)]
def seqT (s : List UInt8) : List (Bt.Token × Bool) := stm (s.length + 1) s (skp false s)
theorem stm_len : ∀ (n : Nat) (s : List UInt8) (a : Nat), (stm n s a).length ≤ n
 | 0, _, _ => Nat.le_refl _
 | n + 1, s, a => by
  unfold stm
  split
  ·
   split
   ·
    have := stm_len n s (a + (tk (s.drop a)).2.2.2.1 + skp false (s.drop (a + (tk (s.drop a)).2.2.2.1)))
    simp only [List.length_cons]; omega
   ·
    simp
  ·
   simp
theorem stm_end {n : Nat} {s : List UInt8} {a : Nat} (h : s.length ≤ a) : stm (n + 1) s a = [(⟨4, [], s.length⟩, true)] := by
 unfold stm; rw [if_neg (by omega)]
theorem stm_tok {n : Nat} {s : List UInt8} {a : Nat} (h : a < s.length) (hk : (tk (s.drop a)).2.2.2.2 = true) :
  stm (n + 1) s a = (⟨((tk (s.drop a)).1 : Nat), txt (s.drop a), (a : Nat)⟩, true) :: stm n s (a + (tk (s.drop a)).2.2.2.1 + skp false (s.drop (a + (tk (s.drop a)).2.2.2.1))) := by
 rw [stm, if_pos h, hk, if_pos rfl]
theorem stm_bad {n : Nat} {s : List UInt8} {a : Nat} (h : a < s.length) (hk : (tk (s.drop a)).2.2.2.2 = false) :
  stm (n + 1) s a = [(⟨((tk (s.drop a)).1 : Nat), txt (s.drop a), (a : Nat)⟩, false)] := by
 rw [stm, if_pos h, hk, if_neg (by simp)]
def wfT (N : Nat) (t : Bt.Token) : Prop := 0 ≤ t.Kind ∧ t.Kind ≤ 4 ∧ t.Text.length ≤ N ∧ 0 ≤ t.At ∧ t.At ≤ N
theorem tk_kind (l : List UInt8) : (tk l).1 ≤ 3 := by
 unfold tk; split <;> (try split) <;> (try split) <;> simp
theorem wf_tok {s : List UInt8} {a : Nat} (h : a ≤ s.length) : wfT s.length ⟨((tk (s.drop a)).1 : Nat), txt (s.drop a), (a : Nat)⟩ := by
 have h1 := tk_kind (s.drop a)
 have h2 := txt_le (s.drop a)
 rw [List.length_drop] at h2
 refine ⟨?_, ?_, ?_, ?_, ?_⟩ <;> simp only [] <;> omega
theorem wf_end (s : List UInt8) : wfT s.length ⟨4, [], s.length⟩ := by
 refine ⟨?_, ?_, ?_, ?_, ?_⟩ <;> simp
def scan (s : List UInt8) : List Bt.Token × Int × Int :=
 if 65536 < s.length then ([], 8, 0)
 else match (seqT s).find? (fun x => !x.2) with
  | some x => ([], 2, x.1.At)
  | none => ((seqT s).map (·.1), 0, 0)
end Lx
namespace Lx
theorem bad_find : ∀ (n : Nat) (s : List UInt8) (a : Nat) (y : Bt.Token × Bool), y ∈ stm n s a → y.2 = false → (stm n s a).find? (fun x => !x.2) = some y
 | 0, _, _, _, h, _ => by cases h
 | n + 1, s, a, y, h, hy => by
  by_cases ha : a < s.length
  ·
   cases hk : (tk (s.drop a)).2.2.2.2 with
   | true =>
    rw [stm_tok ha hk] at h ⊢
    rcases List.mem_cons.1 h with rfl | h
    ·
     cases hy
    ·
     rw [List.find?_cons_of_neg (by simp)]; exact bad_find n s _ y h hy
   | false =>
    rw [stm_bad ha hk] at h ⊢
    obtain rfl := List.mem_singleton.1 h
    rfl
  ·
   rw [stm_end (by omega)] at h
   obtain rfl := List.mem_singleton.1 h
   cases hy
theorem scan_ok {s : List UInt8} (h : s.length ≤ 65536) (ha : ∀ x ∈ seqT s, x.2 = true) : scan s = ((seqT s).map (·.1), 0, 0) := by
 unfold scan
 rw [if_neg (by omega), List.find?_eq_none.2 (fun x hx => by simp [ha x hx])]
theorem scan_bad {s : List UInt8} (h : s.length ≤ 65536) {y : Bt.Token × Bool} (hy : y ∈ seqT s) (hb : y.2 = false) : scan s = ([], 2, y.1.At) := by
 unfold scan
 rw [if_neg (by omega), show (seqT s).find? (fun x => !x.2) = some y from bad_find _ _ _ _ hy hb]
end Lx
namespace Un
open Go
end Un
namespace Un
open Go
/-! ### for the reference's walks -/
end Un
namespace Bt
structure Node where
  Kind : Int
  Text : List UInt8
  N : Int
  Dim : Int
  At : Int
  Kids : List Node
instance : Inhabited Node := ⟨⟨0, [], 0, 0, 0, []⟩⟩
end Bt
namespace Un
end Un
namespace Pa
open Bt
abbrev Er := Int × Int
abbrev R (α : Type) := Except Er (α × List Token)
def pk (ts : List Token) : Token := ts.headD default
def isS (c : List UInt8) (ts : List Token) : Bool := decide ((pk ts).Kind = 3) && decide ((pk ts).Text = c)
def wrd (k : Int) (t : Token) : Node := ⟨k, t.Text, 0, 0, t.At, []⟩
def fail {α : Type} (ts : List Token) : R α := .error (2, (pk ts).At)
def nameP (ts : List Token) : R Token := if (pk ts).Kind = 0 then .ok (pk ts, ts.tail) else fail ts
def wordP (ts : List Token) : R Node := if (pk ts).Kind = 0 then .ok (wrd 3 (pk ts), ts.tail) else if (pk ts).Kind = 2 then .ok (wrd 4 (pk ts), ts.tail) else fail ts
def isUnit (t : List UInt8) : Bool := !decide ((Un.amt [48] t).2.2 = 6)
def unitOf (ts : List Token) : List UInt8 := if (pk ts).Kind = 0 ∧ isUnit (pk ts).Text = true then (pk ts).Text else []
def unitRest (ts : List Token) : List Token := if (pk ts).Kind = 0 ∧ isUnit (pk ts).Text = true then ts.tail else ts
def amtP (ts : List Token) : R Node :=
  let a := Un.amt (pk ts).Text (unitOf ts.tail)
  if a.2.2 = 0 then .ok (⟨5, [], a.1, a.2.1, (pk ts).At, []⟩, unitRest ts.tail) else .error (7, (pk ts).At)
def grp (at_ : Int) (ks : List Node) : Node := ⟨6, [], 0, 0, at_, ks⟩
mutual
def valP : Nat → Nat → List Token → R Node
  | 0, _, _ => .error (0, 0)
  | f + 1, g, ts =>
    if (pk ts).Kind = 1 then amtP ts
    else if isS [40] ts = true then
      (if 40 ≤ g then .error (8, (pk ts).At) else match grpP f (g + 1) ts.tail with
        | .error e => .error e
        | .ok (xs, r) => .ok (grp (pk ts).At xs, r))
    else wordP ts
def grpP : Nat → Nat → List Token → R (List Node)
  | 0, _, _ => .error (0, 0)
  | f + 1, g, ts => match valP f g ts with
    | .error e => .error e
    | .ok (x, r) =>
      if isS [41] r = true then .ok ([x], r.tail)
      else if isS [44] r = true then (match grpP f g r.tail with
        | .error e => .error e
        | .ok (xs, r') => .ok (x :: xs, r'))
      else fail r
end
def many (c : List UInt8) (p : List Token → R Node) : Nat → List Token → R (List Node)
  | 0, _ => .error (0, 0)
  | f + 1, ts => if isS c ts = true then .ok ([], ts.tail) else match p ts with
    | .error e => .error e
    | .ok (x, r) => (match many c p f r with
      | .error e => .error e
      | .ok (xs, r') => .ok (x :: xs, r'))
def val0 (ts : List Token) : R Node := valP (2 * ts.length) 0 ts
def propP (ts : List Token) : R Node := match nameP ts with
  | .error e => .error e
  | .ok (t, r) => (match many [59] val0 r.length r with
    | .error e => .error e
    | .ok (xs, r') => .ok (⟨2, t.Text, 0, 0, t.At, xs⟩, r'))
def declP (ts : List Token) : R Node := match nameP ts with
  | .error e => .error e
  | .ok (t, r) => (match many [123] wordP r.length r with
    | .error e => .error e
    | .ok (xs, r') => (match many [125] propP r'.length r' with
      | .error e => .error e
      | .ok (ys, r'') => .ok (⟨1, t.Text, 0, 0, t.At, xs ++ ys⟩, r'')))
def fileP : Nat → List Token → R (List Node)
  | 0, _ => .error (0, 0)
  | f + 1, ts => if (pk ts).Kind = 4 then .ok ([], ts) else match declP ts with
    | .error e => .error e
    | .ok (x, r) => (match fileP f r with
      | .error e => .error e
      | .ok (xs, r') => .ok (x :: xs, r'))
def fileN (ts : List Token) : R Node := match fileP (ts.length + 1) ts with
  | .error e => .error e
  | .ok (xs, r) => .ok (⟨0, [], 0, 0, 0, xs⟩, r)
def parseT (ts : List Token) : Node × Int × Int := match fileN ts with
  | .error e => (default, e.1, e.2)
  | .ok (x, _) => (x, 0, 0)
def parse (s : List UInt8) : Node × Int × Int :=
  if (Lx.scan s).2.1 = 0 then parseT (Lx.scan s).1 else (default, (Lx.scan s).2.1, (Lx.scan s).2.2)
def good : List Token → Prop
  | [] => False
  | [t] => t.Kind = 4
  | _ :: u :: r => good (u :: r)
end Pa
namespace Bt
structure Nd where
  Kind : Int
  n : Int
  of_ : Int
  of2 : Int
  At : Int
  name : Token
  owner : Token
  kids : List Nd
instance : Inhabited Nd := ⟨⟨0, 0, 0, 0, 0, default, default, []⟩⟩
structure Prm where
  name : Token
  kind : Int
instance : Inhabited Prm := ⟨⟨default, 0⟩⟩
structure Fn where
  name : Token
  params : List Prm
  result : Int
  body : Nd
instance : Inhabited Fn := ⟨⟨default, [], 0, default⟩⟩
structure Cl where
  link : Token
  cond : Nd
  value : Nd
instance : Inhabited Cl := ⟨⟨default, default, default⟩⟩
end Bt
namespace Ru
open Bt Pa
abbrev sIf : List UInt8 := [105, 102]
abbrev sThen : List UInt8 := [116, 104, 101, 110]
abbrev sElse : List UInt8 := [101, 108, 115, 101]
abbrev sOr : List UInt8 := [111, 114]
abbrev sAnd : List UInt8 := [97, 110, 100]
abbrev sPlus : List UInt8 := [43]
abbrev sMinus : List UInt8 := [45]
abbrev sStar : List UInt8 := [42]
abbrev sSlash : List UInt8 := [47]
abbrev sNot : List UInt8 := [110, 111, 116]
abbrev sLt : List UInt8 := [60]
abbrev sLe : List UInt8 := [60, 61]
abbrev sGt : List UInt8 := [62]
abbrev sGe : List UInt8 := [62, 61]
abbrev sEq : List UInt8 := [61, 61]
abbrev sNe : List UInt8 := [33, 61]
abbrev sLp : List UInt8 := [40]
abbrev sRp : List UInt8 := [41]
abbrev sComma : List UInt8 := [44]
abbrev sColon : List UInt8 := [58]
abbrev sIs : List UInt8 := [61]
abbrev sDef : List UInt8 := [100, 101, 102]
abbrev sWhen : List UInt8 := [119, 104, 101, 110]
abbrev sSet : List UInt8 := [115, 101, 116]
abbrev sTo : List UInt8 := [116, 111]
abbrev sInt : List UInt8 := [105, 110, 116]
abbrev sBool : List UInt8 := [98, 111, 111, 108]
abbrev sVolume : List UInt8 := [118, 111, 108, 117, 109, 101]
abbrev sLevel : List UInt8 := [108, 101, 118, 101, 108]
abbrev sOwned : List UInt8 := [111, 119, 110, 101, 100]
abbrev sPos : List UInt8 := [112, 111, 115]
abbrev sCrest : List UInt8 := [99, 114, 101, 115, 116]
abbrev sHour : List UInt8 := [104, 111, 117, 114]
abbrev sDay : List UInt8 := [100, 97, 121]
abbrev sMonth : List UInt8 := [109, 111, 110, 116, 104]
abbrev sTrue : List UInt8 := [116, 114, 117, 101]
abbrev sFalse : List UInt8 := [102, 97, 108, 115, 101]
abbrev S := List Token × Int
abbrev R (α : Type) := Except (Int × Int) (α × S)
def bnd {α β : Type} (x : R α) (k : α → S → R β) : R β := match x with
  | .error e => .error e
  | .ok (a, s) => k a s
def kw (t : List UInt8) : Bool := [sDef, sInt, sBool, sWhen, sThen, sSet, sTo, sIf, sElse, sOr, sAnd, sNot, sTrue, sFalse, sVolume, sLevel, sOwned, sPos, sCrest, sHour, sDay, sMonth].contains t
def factOf (t : List UInt8) : Option Int :=
  if t = sVolume then some 0 else if t = sLevel then some 1 else if t = sOwned then some 2 else if t = sPos then some 3 else if t = sHour then some 4 else if t = sDay then some 5 else if t = sMonth then some 6 else if t = sCrest then some 7 else none
def isT (c : List UInt8) (ts : List Token) : Bool := (decide ((pk ts).Kind = 0) || decide ((pk ts).Kind = 3)) && decide ((pk ts).Text = c)
def fail {α : Type} (s : S) : R α := .error ((pk s.1).At, s.2)
def exp (c : List UInt8) (s : S) : R Unit := if isT c s.1 = true then .ok ((), s.1.tail, s.2) else fail s
def nameR (s : S) : R Token := if (pk s.1).Kind = 0 then .ok (pk s.1, s.1.tail, s.2) else fail s
def identR (s : S) : R Token := if kw (pk s.1).Text = true then fail s else nameR s
def kindR (s : S) : R Int := if isT sInt s.1 = true then .ok (0, s.1.tail, s.2) else bnd (exp sBool s) fun _ s => .ok (1, s)
def nd (k a : Int) (ks : List Nd) : Nd := ⟨k, 0, 0, 0, a, default, default, ks⟩
def numR (s : S) : R Nd :=
  let a := Un.amt (pk s.1).Text (unitOf s.1.tail)
  .ok (⟨0, a.1, 0, 0, (pk s.1).At, default, default, []⟩, unitRest s.1.tail, if a.2.2 ≠ 0 ∧ s.2 < 0 then (pk s.1).At else s.2)
def truth (t : Token) : Nd := nd 10 t.At [nd 0 t.At [], ⟨0, if t.Text = sFalse then 1 else 0, 0, 0, t.At, default, default, []⟩]
def factR (t : Token) (k : Int) (s : S) : R Nd :=
  if k = 4 ∨ k = 5 ∨ k = 6 then .ok (⟨1, k, 0, 0, t.At, default, default, []⟩, s)
  else bnd (exp sLp s) fun _ s => bnd (nameR s) fun nm s =>
    if k = 2 then bnd (exp sComma s) fun _ s => bnd (nameR s) fun ow s => bnd (exp sRp s) fun _ s => .ok (⟨1, k, 0, 0, t.At, nm, ow, []⟩, s)
    else bnd (exp sRp s) fun _ s => .ok (⟨1, k, 0, 0, t.At, nm, default, []⟩, s)
def opOf (n : Nat) (ts : List Token) : Option Int :=
  if n = 0 then (if isT sOr ts then some 12 else none)
  else if n = 1 then (if isT sAnd ts then some 11 else none)
  else if n = 2 then (if isT sPlus ts then some 4 else if isT sMinus ts then some 5 else none)
  else (if isT sStar ts then some 6 else if isT sSlash ts then some 7 else none)
def cmpSign (t : List UInt8) : Bool := [sLt, sLe, sGt, sGe, sEq, sNe].contains t
def rel (op : List UInt8) (x y : Nd) : Nd :=
  if op = sLt then nd 8 x.At [x, y] else if op = sLe then nd 9 x.At [x, y] else if op = sGt then nd 8 x.At [y, x] else if op = sGe then nd 9 x.At [y, x]
  else if op = sNe then nd 3 x.At [nd 10 x.At [x, y]] else nd 10 x.At [x, y]
mutual
def expr : Nat → S → R Nd
  | 0, _ => .error (0, 0)
  | f + 1, s =>
    if isT sIf s.1 = true then
      bnd (expr f (s.1.tail, s.2)) fun x s1 => bnd (exp sThen s1) fun _ s2 => bnd (expr f s2) fun y s3 => bnd (exp sElse s3) fun _ s4 => bnd (expr f s4) fun z s5 => .ok (nd 13 (pk s.1).At [x, y, z], s5)
    else level f 0 s
def level : Nat → Nat → S → R Nd
  | 0, _, _ => .error (0, 0)
  | f + 1, n, s => bnd (below f n s) fun x s1 => lvl f n x s1
def lvl : Nat → Nat → Nd → S → R Nd
  | 0, _, _, _ => .error (0, 0)
  | f + 1, n, x, s => match opOf n s.1 with
    | none => .ok (x, s)
    | some k => bnd (below f n (s.1.tail, s.2)) fun y s1 => lvl f n (nd k x.At [x, y]) s1
def below : Nat → Nat → S → R Nd
  | 0, _, _ => .error (0, 0)
  | f + 1, n, s => if n = 1 then neg f s else if n = 3 then factor f s else level f (n + 1) s
def neg : Nat → S → R Nd
  | 0, _ => .error (0, 0)
  | f + 1, s => if isT sNot s.1 = true then bnd (neg f (s.1.tail, s.2)) fun x s1 => .ok (nd 3 (pk s.1).At [x], s1) else cmp f s
def cmp : Nat → S → R Nd
  | 0, _ => .error (0, 0)
  | f + 1, s => bnd (level f 2 s) fun x s1 =>
    if (pk s1.1).Kind = 3 ∧ cmpSign (pk s1.1).Text = true then bnd (level f 2 (s1.1.tail, s1.2)) fun y s2 => .ok (rel (pk s1.1).Text x y, s2) else .ok (x, s1)
def factor : Nat → S → R Nd
  | 0, _ => .error (0, 0)
  | f + 1, s => if isT sMinus s.1 = true then bnd (factor f (s.1.tail, s.2)) fun x s1 => .ok (nd 2 (pk s.1).At [x], s1) else prim f s
def prim : Nat → S → R Nd
  | 0, _ => .error (0, 0)
  | f + 1, s => if (pk s.1).Kind = 1 then numR s else if (pk s.1).Kind = 0 then word f s
    else bnd (exp sLp s) fun _ s1 => bnd (expr f s1) fun x s2 => bnd (exp sRp s2) fun _ s3 => .ok ({ x with At := (pk s.1).At }, s3)
def word : Nat → S → R Nd
  | 0, _ => .error (0, 0)
  | f + 1, s =>
    if (pk s.1).Text = sTrue ∨ (pk s.1).Text = sFalse then .ok (truth (pk s.1), s.1.tail, s.2)
    else match factOf (pk s.1).Text with
      | some k => factR (pk s.1) k (s.1.tail, s.2)
      | none => bnd (identR s) fun nm s1 =>
        if isT sLp s1.1 = true then
          (if isT sRp s1.1.tail = true then .ok (⟨14, 0, 0, 0, (pk s.1).At, nm, default, []⟩, s1.1.tail.tail, s1.2)
          else bnd (args f (s1.1.tail, s1.2)) fun ks s2 => .ok (⟨14, 0, 0, 0, (pk s.1).At, nm, default, ks⟩, s2))
        else .ok (⟨15, 0, 0, 0, (pk s.1).At, nm, default, []⟩, s1)
def args : Nat → S → R (List Nd)
  | 0, _ => .error (0, 0)
  | f + 1, s => bnd (expr f s) fun x s1 =>
    if isT sComma s1.1 = true then bnd (args f (s1.1.tail, s1.2)) fun xs s2 => .ok (x :: xs, s2)
    else bnd (exp sRp s1) fun _ s2 => .ok ([x], s2)
end
def fu (ts : List Token) : Nat := 20 * ts.length + 20
def expr0 (s : S) : R Nd := expr (fu s.1) s
def prms : Nat → S → R (List Prm)
  | 0, _ => .error (0, 0)
  | f + 1, s => bnd (identR s) fun nm s1 => bnd (exp sColon s1) fun _ s2 => bnd (kindR s2) fun k s3 =>
    if isT sComma s3.1 = true then bnd (prms f (s3.1.tail, s3.2)) fun xs s4 => .ok (⟨nm, k⟩ :: xs, s4)
    else bnd (exp sRp s3) fun _ s4 => .ok ([⟨nm, k⟩], s4)
def funR (s : S) : R Fn := bnd (identR s) fun nm s1 => bnd (exp sLp s1) fun _ s2 =>
  bnd (if isT sRp s2.1 = true then .ok ([], s2.1.tail, s2.2) else prms s2.1.length s2) fun ps s3 => bnd (exp sColon s3) fun _ s4 => bnd (kindR s4) fun k s5 => bnd (exp sIs s5) fun _ s6 => bnd (expr0 s6) fun b s7 => .ok (⟨nm, ps, k, b⟩, s7)
def clR (s : S) : R Cl := bnd (expr0 s) fun c s1 => bnd (exp sThen s1) fun _ s2 => bnd (exp sSet s2) fun _ s3 => bnd (nameR s3) fun l s4 => bnd (exp sTo s4) fun _ s5 => bnd (expr0 s5) fun v s6 => .ok (⟨l, c, v⟩, s6)
def defs : Nat → S → R (List Fn)
  | 0, _ => .error (0, 0)
  | f + 1, s => if isT sDef s.1 = true then bnd (funR (s.1.tail, s.2)) fun x s1 => bnd (defs f s1) fun xs s2 => .ok (x :: xs, s2) else .ok ([], s)
def whens : Nat → S → R (List Cl)
  | 0, _ => .error (0, 0)
  | f + 1, s => if isT sWhen s.1 = true then bnd (clR (s.1.tail, s.2)) fun x s1 => bnd (whens f s1) fun xs s2 => .ok (x :: xs, s2) else .ok ([], s)
def prgR (s : S) : R (List Fn × List Cl) := bnd (defs s.1.length s) fun fs s1 => bnd (whens s1.1.length s1) fun cs s2 => if (pk s2.1).Kind = 4 then .ok ((fs, cs), s2) else fail s2
def parse (ts : List Token) : (List Fn × List Cl) × Int × Int := match prgR (ts, -1) with
  | .error e => if 0 ≤ e.2 then (([], []), 7, e.2) else (([], []), 2, e.1)
  | .ok (p, s) => if 0 ≤ s.2 then (([], []), 7, s.2) else (p, 0, 0)
end Ru
namespace Ru
open Bt Pa
theorem bnd_ok {α β : Type} {x : R α} {k : α → S → R β} {b : β} {s : S} (h : bnd x k = .ok (b, s)) : ∃ a s1, x = .ok (a, s1) ∧ k a s1 = .ok (b, s) := by
  unfold bnd at h
  split at h
  · cases h
  · exact ⟨_, _, rfl, h⟩
theorem bnd_err {α β : Type} {x : R α} {k : α → S → R β} {e : Int × Int} (h : bnd x k = .error e) : x = .error e ∨ ∃ a s1, x = .ok (a, s1) ∧ k a s1 = .error e := by
  unfold bnd at h
  split at h
  · cases h; exact .inl rfl
  · exact .inr ⟨_, _, rfl, h⟩
end Ru
namespace Bt
structure Expr where
  Kind : Int
  N : Int
  Of : Int
  Of2 : Int
  Kids : List Expr
instance : Inhabited Expr := ⟨⟨0, 0, 0, 0, []⟩⟩
structure RFunc where
  Name : List UInt8
  Params : List Int
  Result : Int
  Body : Expr
instance : Inhabited RFunc := ⟨⟨[], [], 0, default⟩⟩
structure RClause where
  If : Expr
  Link : Int
  To : Expr
instance : Inhabited RClause := ⟨⟨default, 0, default⟩⟩
structure Rule where
  Funcs : List RFunc
  Clauses : List RClause
instance : Inhabited Rule := ⟨⟨[], []⟩⟩
end Bt
namespace Ru
open Bt Pa
structure Env where
  places : List (List UInt8)
  owners : List (List UInt8)
  links : List (List UInt8)
  towns : List (List UInt8)
def ix (l : List (List UInt8)) (t : List UInt8) : Option Nat := l.findIdx? (fun x => decide (x = t))
def ixN (l : List (List UInt8)) (t : Token) : Int := ((ix l t.Text).getD 0 : Nat)
def trees (p : List Fn × List Cl) : List Nd := p.1.map (·.body) ++ p.2.flatMap fun c => [c.cond, c.value]
def res (e : Env) (fs ps : List (List UInt8)) : Nd → Nd
  | ⟨k, n, a, b, at_, nm, ow, ks⟩ =>
    if k = 15 then ⟨k, ixN ps nm, a, b, at_, nm, ow, resL e fs ps ks⟩
    else if k = 14 then ⟨k, ixN fs nm, a, b, at_, nm, ow, resL e fs ps ks⟩
    else if k = 1 then
      (if n = 0 ∨ n = 1 then ⟨k, n, ixN e.places nm, b, at_, nm, ow, resL e fs ps ks⟩
      else if n = 2 then ⟨k, n, ixN e.places nm, ixN e.owners ow, at_, nm, ow, resL e fs ps ks⟩
      else if n = 3 then ⟨k, n, ixN e.links nm, b, at_, nm, ow, resL e fs ps ks⟩
      else if n = 7 then ⟨k, n, ixN e.towns nm, b, at_, nm, ow, resL e fs ps ks⟩
      else ⟨k, n, a, b, at_, nm, ow, resL e fs ps ks⟩)
    else ⟨k, n, a, b, at_, nm, ow, resL e fs ps ks⟩
where resL (e : Env) (fs ps : List (List UInt8)) : List Nd → List Nd
  | [] => []
  | x :: xs => res e fs ps x :: resL e fs ps xs
def ty (fs : List Fn) (ps : List Prm) : Nd → Int × List Int
  | ⟨k, n, _, _, _, nm, _, ks⟩ =>
    if k = 15 then ((ps.getD n.toNat default).kind, [])
    else if k = 14 then
      ((fs.getD n.toNat default).result, if ks.length = (fs.getD n.toNat default).params.length then tyW fs ps ks ((fs.getD n.toNat default).params.map (·.kind)) else nm.At :: tyA fs ps ks)
    else if k = 10 then (match ks with
      | [x, y] => (1, (ty fs ps x).2 ++ ((ty fs ps y).2 ++ if (ty fs ps y).1 = (ty fs ps x).1 then [] else [y.At]))
      | _ => (1, []))
    else if k = 13 then (match ks with
      | [x, y, z] => ((ty fs ps y).1, ((ty fs ps x).2 ++ if (ty fs ps x).1 = 1 then [] else [x.At]) ++ ((ty fs ps y).2 ++ ((ty fs ps z).2 ++ if (ty fs ps z).1 = (ty fs ps y).1 then [] else [z.At])))
      | _ => (0, []))
    else if k = 3 ∨ k = 11 ∨ k = 12 then (1, tyW fs ps ks (List.replicate ks.length 1))
    else if k = 8 ∨ k = 9 then (1, tyW fs ps ks (List.replicate ks.length 0))
    else (0, tyW fs ps ks (List.replicate ks.length 0))
where
  tyW (fs : List Fn) (ps : List Prm) : List Nd → List Int → List Int
  | [], _ => []
  | x :: xs, l => ((ty fs ps x).2 ++ if (ty fs ps x).1 = l.headD 0 then [] else [x.At]) ++ tyW fs ps xs l.tail
  tyA (fs : List Fn) (ps : List Prm) : List Nd → List Int
  | [] => []
  | x :: xs => (ty fs ps x).2 ++ tyA fs ps xs
end Ru
namespace Vm
open Bt
structure Op where
  Kind : Int
  A : Int
  B : Int
deriving DecidableEq
structure Code where
  Ops : List Op
  Funcs : List Int
  Starts : List Int
deriving DecidableEq
def chC (kind : Int) (p : Nat) (A B other : List Op) : List Op :=
  A ++ (⟨kind, ((p + A.length + 1 + B.length + 1 : Nat) : Int), 0⟩ :: (B ++ (⟨12, ((p + A.length + 1 + B.length + 1 + other.length : Nat) : Int), 0⟩ :: other)))
def opOf (k : Int) : Int := if k = 2 then 3 else if k = 3 then 4 else if k = 4 then 5 else if k = 5 then 6 else if k = 6 then 7 else if k = 7 then 8 else if k = 8 then 9 else if k = 9 then 10 else 11
mutual
def cE : Nat → Expr → List Op
  | p, ⟨k, n, o, q, ks⟩ =>
    if k = 0 then [⟨0, n, 0⟩] else if k = 15 then [⟨1, n, 0⟩] else if k = 1 then [⟨2, n, 1024 * o + q⟩]
    else if k = 11 then chC 13 p ((cG 1 p ks).getD 0 []) ((cG 1 p ks).getD 1 []) [⟨0, 0, 0⟩]
    else if k = 12 then chC 14 p ((cG 1 p ks).getD 0 []) ((cG 1 p ks).getD 1 []) [⟨0, 1, 0⟩]
    else if k = 13 then chC 13 p ((cG 1 p ks).getD 0 []) ((cG 1 p ks).getD 1 []) ((cG 1 p ks).getD 2 [])
    else (cG 0 p ks).flatten ++ [if k = 14 then ⟨15, n, (ks.length : Int)⟩ else ⟨opOf k, 0, 0⟩]
def cG (g : Nat) : Nat → List Expr → List (List Op)
  | _, [] => []
  | p, x :: xs => cE p x :: cG g (p + (cE p x).length + g) xs
end
def cC (p : Nat) (c : RClause) : List Op :=
  let A := cE (p + 1) c.If
  let B := cE (p + 1 + A.length + 1) c.To
  let e := p + 1 + A.length + 1 + B.length + 1
  ⟨17, c.Link, (e : Int)⟩ :: (A ++ (⟨13, (e : Int), 0⟩ :: (B ++ [⟨18, c.Link, 0⟩])))
def cF (p : Nat) (f : RFunc) : List Op := cE p f.Body ++ [⟨16, 0, 0⟩]
def seqC {α : Type} (f : Nat → α → List Op) : Nat → List α → List Int × List Op
  | _, [] => ([], [])
  | p, x :: xs => let r := seqC f (p + (f p x).length) xs; ((p : Int) :: r.1, f p x ++ r.2)
def arE (r : Rule) (n : Int) : Nat := ((r.Funcs.map fun f => f.Params.length).getD n.toNat 0)
mutual
def soE (r : Rule) (ps : Nat) : Nat → Expr → Bool
  | d, ⟨k, n, o, q, ks⟩ => decide (d ≤ 40) && decide (0 ≤ k ∧ k < 16) && (if k = 15 then decide (0 ≤ n ∧ n < ps) else if k = 1 then decide (0 ≤ n ∧ n < 8 ∧ 0 ≤ o ∧ o < 1024 ∧ 0 ≤ q ∧ q < 1024) else if k = 14 then decide (0 ≤ n ∧ n < r.Funcs.length) else true)
    && decide (ks.length = if k = 0 ∨ k = 15 ∨ k = 1 then 0 else if k = 2 ∨ k = 3 then 1 else if k = 13 then 3 else if k = 14 then arE r n else 2) && soL r ps (d + 1) ks
def soL (r : Rule) (ps : Nat) : Nat → List Expr → Bool
  | _, [] => true
  | d, x :: xs => soE r ps d x && soL r ps d xs
end
def soP (r : Rule) : Bool := (r.Funcs.all fun f => soE r f.Params.length 1 f.Body) && r.Clauses.all fun c => soE r 0 1 c.If && soE r 0 1 c.To
def compile (r : Rule) : Code := if soP r then
    let c := seqC cC 0 r.Clauses
    let f := seqC cF (c.2.length + 1) r.Funcs
    ⟨c.2 ++ (⟨19, 0, 0⟩ :: f.2), f.1, c.1⟩
  else ⟨[], [], []⟩
/-! ### the shape of the code -/
def okO (r : Rule) (hi i : Nat) (o : Op) : Prop := ((o.Kind = 12 ∨ o.Kind = 13 ∨ o.Kind = 14) → (i : Int) < o.A ∧ o.A ≤ hi) ∧ (o.Kind = 17 → (i : Int) < o.B ∧ o.B ≤ hi) ∧ (o.Kind = 15 → 0 ≤ o.A ∧ o.A < r.Funcs.length ∧ o.B = arE r o.A)
end Vm
