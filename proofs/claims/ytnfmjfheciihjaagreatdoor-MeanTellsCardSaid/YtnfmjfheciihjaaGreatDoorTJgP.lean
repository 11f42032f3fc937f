/- Lemmas. Conditions: those of each theorem. -/
import Derived.Test.YtnfmjfheciihjaaGreatDoorTRuQ
namespace Bt
structure Expr where
  Kind : Int
  N : Int
  Of : Int
  Of2 : Int
  Kids : List Expr
instance : Inhabited Expr := ⟨⟨0, 0, 0, 0, []⟩⟩
structure RFunc where
  Name : List UInt8
  Params : List Int
  Result : Int
  Body : Expr
instance : Inhabited RFunc := ⟨⟨[], [], 0, default⟩⟩
structure RClause where
  If : Expr
  Link : Int
  To : Expr
instance : Inhabited RClause := ⟨⟨default, 0, default⟩⟩
structure Rule where
  Funcs : List RFunc
  Clauses : List RClause
instance : Inhabited Rule := ⟨⟨[], []⟩⟩
end Bt
namespace Ru
open Bt Pa
structure Env where
  places : List (List UInt8)
  owners : List (List UInt8)
  links : List (List UInt8)
  towns : List (List UInt8)
def ix (l : List (List UInt8)) (t : List UInt8) : Option Nat := l.findIdx? (fun x => decide (x = t))
def ixN (l : List (List UInt8)) (t : Token) : Int := ((ix l t.Text).getD 0 : Nat)
def trees (p : List Fn × List Cl) : List Nd := p.1.map (·.body) ++ p.2.flatMap fun c => [c.cond, c.value]
def res (e : Env) (fs ps : List (List UInt8)) : Nd → Nd
  | ⟨k, n, a, b, at_, nm, ow, ks⟩ =>
    if k = 15 then ⟨k, ixN ps nm, a, b, at_, nm, ow, resL e fs ps ks⟩
    else if k = 14 then ⟨k, ixN fs nm, a, b, at_, nm, ow, resL e fs ps ks⟩
    else if k = 1 then
      (if n = 0 ∨ n = 1 then ⟨k, n, ixN e.places nm, b, at_, nm, ow, resL e fs ps ks⟩
      else if n = 2 then ⟨k, n, ixN e.places nm, ixN e.owners ow, at_, nm, ow, resL e fs ps ks⟩
      else if n = 3 then ⟨k, n, ixN e.links nm, b, at_, nm, ow, resL e fs ps ks⟩
      else if n = 7 then ⟨k, n, ixN e.towns nm, b, at_, nm, ow, resL e fs ps ks⟩
      else ⟨k, n, a, b, at_, nm, ow, resL e fs ps ks⟩)
    else ⟨k, n, a, b, at_, nm, ow, resL e fs ps ks⟩
where resL (e : Env) (fs ps : List (List UInt8)) : List Nd → List Nd
  | [] => []
  | x :: xs => res e fs ps x :: resL e fs ps xs
def ty (fs : List Fn) (ps : List Prm) : Nd → Int × List Int
  | ⟨k, n, _, _, _, nm, _, ks⟩ =>
    if k = 15 then ((ps.getD n.toNat default).kind, [])
    else if k = 14 then
      ((fs.getD n.toNat default).result, if ks.length = (fs.getD n.toNat default).params.length then tyW fs ps ks ((fs.getD n.toNat default).params.map (·.kind)) else nm.At :: tyA fs ps ks)
    else if k = 10 then (match ks with
      | [x, y] => (1, (ty fs ps x).2 ++ ((ty fs ps y).2 ++ if (ty fs ps y).1 = (ty fs ps x).1 then [] else [y.At]))
      | _ => (1, []))
    else if k = 13 then (match ks with
      | [x, y, z] => ((ty fs ps y).1, ((ty fs ps x).2 ++ if (ty fs ps x).1 = 1 then [] else [x.At]) ++ ((ty fs ps y).2 ++ ((ty fs ps z).2 ++ if (ty fs ps z).1 = (ty fs ps y).1 then [] else [z.At])))
      | _ => (0, []))
    else if k = 3 ∨ k = 11 ∨ k = 12 then (1, tyW fs ps ks (List.replicate ks.length 1))
    else if k = 8 ∨ k = 9 then (1, tyW fs ps ks (List.replicate ks.length 0))
    else (0, tyW fs ps ks (List.replicate ks.length 0))
where
  tyW (fs : List Fn) (ps : List Prm) : List Nd → List Int → List Int
  | [], _ => []
  | x :: xs, l => ((ty fs ps x).2 ++ if (ty fs ps x).1 = l.headD 0 then [] else [x.At]) ++ tyW fs ps xs l.tail
  tyA (fs : List Fn) (ps : List Prm) : List Nd → List Int
  | [] => []
  | x :: xs => (ty fs ps x).2 ++ tyA fs ps xs
end Ru
namespace Ru
open Bt
def nmA (c : UInt8) : Bool := (decide (97 ≤ c.toNat) && decide (c.toNat ≤ 122)) || (decide (65 ≤ c.toNat) && decide (c.toNat ≤ 90))
def nmAt (i : Nat) (c : UInt8) : Bool := nmA c || (decide (i ≠ 0) && (decide (c.toNat = 95) || (decide (48 ≤ c.toNat) && decide (c.toNat ≤ 57))))
def isNm (l : List UInt8) : Bool := decide (l ≠ []) && decide (l.length ≤ 24) && (List.range l.length).all fun i => nmAt i (l.getD i 0)
abbrev nmT (i : Nat) (c : UInt8) : Bool := (!(((decide (((97 : Nat) : Int) ≤ ((c.toNat : Nat) : Int))) && (decide (((c.toNat : Nat) : Int) ≤ ((122 : Nat) : Int)))) || ((decide (((65 : Nat) : Int) ≤ ((c.toNat : Nat) : Int))) && (decide (((c.toNat : Nat) : Int) ≤ ((90 : Nat) : Int)))))) && ((decide ((i : Int) = 0)) || ((!decide (((c.toNat : Nat) : Int) = ((95 : Nat) : Int))) && ((decide (((c.toNat : Nat) : Int) < ((48 : Nat) : Int))) || (decide (((57 : Nat) : Int) < ((c.toNat : Nat) : Int))))))
theorem nmT_eq (i : Nat) (c : UInt8) : nmT i c = !nmAt i c := by
  unfold nmT nmAt nmA
  rw [Bool.eq_iff_iff]
  simp only [Bool.and_eq_true, Bool.or_eq_true, Bool.not_eq_true', decide_eq_true_eq, decide_eq_false_iff_not, Bool.or_eq_false_iff, Bool.and_eq_false_iff]
  omega
theorem isNm_0 {l : List UInt8} (h : (decide (l = ([] : List UInt8)) || decide ((24 : Int) < ((l.length : Nat) : Int))) = true) : isNm l = false := by
  unfold isNm
  simp only [Bool.or_eq_true, decide_eq_true_eq] at h
  rcases h with h | h
  · simp [h]
  · rw [show decide (l.length ≤ 24) = false by simp; omega]; simp
theorem isNm_1 {l : List UInt8} {i : Nat} (hi : i < l.length) (h : nmAt i (l.getD i 0) = false) : isNm l = false := by
  unfold isNm
  rw [Bool.and_eq_false_iff]
  refine .inr ?_
  rw [List.all_eq_false]
  exact ⟨i, List.mem_range.2 hi, by rw [h]; simp⟩
theorem isNm_2 {l : List UInt8} (h : (decide (l = ([] : List UInt8)) || decide ((24 : Int) < ((l.length : Nat) : Int))) = false) (ha : (List.range l.length).all (fun j => nmAt j (l.getD j 0)) = true) : isNm l = true := by
  unfold isNm
  simp only [Bool.or_eq_false_iff, decide_eq_false_iff_not] at h
  rw [ha, Bool.and_true, Bool.and_eq_true]
  exact ⟨decide_eq_true h.1, decide_eq_true (by omega)⟩
def den (l : List (List UInt8)) (i : Int) : Bool := decide (0 ≤ i) && decide (i < l.length) && isNm (l.getD i.toNat []) && decide (ix l (l.getD i.toNat []) = some i.toNat)
def jfact (e : Env) (x : Expr) : Bool :=
  if x.N = 0 ∨ x.N = 1 then den e.places x.Of && decide (x.Of2 = 0)
  else if x.N = 2 then den e.places x.Of && den e.owners x.Of2
  else if x.N = 3 then den e.links x.Of && decide (x.Of2 = 0)
  else if x.N = 7 then den e.towns x.Of && decide (x.Of2 = 0)
  else if x.N = 4 ∨ x.N = 5 ∨ x.N = 6 then decide (x.Of = 0) && decide (x.Of2 = 0)
  else false
def jop (k : Int) (l : List Int) : Int × Bool :=
  if k = 2 then (0, decide (l = [0]))
  else if k = 3 then (1, decide (l = [1]))
  else if k = 4 ∨ k = 5 ∨ k = 6 ∨ k = 7 then (0, decide (l = [0, 0]))
  else if k = 8 ∨ k = 9 then (1, decide (l = [0, 0]))
  else if k = 10 then (1, decide (l.length = 2) && decide (l.getD 0 0 = l.getD 1 0))
  else if k = 11 ∨ k = 12 then (1, decide (l = [1, 1]))
  else if k = 13 then (if l.length ≠ 3 ∨ l.getD 0 0 ≠ 1 ∨ l.getD 1 0 ≠ l.getD 2 0 then (0, false) else (l.getD 1 0, true))
  else (0, false)
def jxs (f : Expr → Int × Bool) : List Expr → Option (List Int)
  | [] => some []
  | x :: xs => if (f x).2 then (jxs f xs).map ((f x).1 :: ·) else none
def jnd (e : Env) (fs : List RFunc) (ps : List Int) (x : Expr) (ks : List Int) : Int × Bool :=
  if x.Kind = 0 then (0, decide (ks = []) && decide (0 ≤ x.N) && decide (x.N ≤ 1125899906842624))
  else if x.Kind = 1 then (0, decide (ks = []) && jfact e x)
  else if x.Kind = 15 then (if ks ≠ [] ∨ x.N < 0 ∨ (ps.length : Int) ≤ x.N then (0, false) else (ps.getD x.N.toNat 0, true))
  else if x.Kind = 14 then (if x.N < 0 ∨ (fs.length : Int) ≤ x.N then (0, false) else ((fs.getD x.N.toNat default).Result, decide (ks = (fs.getD x.N.toNat default).Params)))
  else if x.N ≠ 0 then (0, false) else jop x.Kind ks
def jx (e : Env) (fs : List RFunc) (ps : List Int) : Nat → Expr → Int × Bool
  | 0, _ => (0, false)
  | f + 1, x => if x.Kind ≠ 1 ∧ (x.Of ≠ 0 ∨ x.Of2 ≠ 0) then (0, false) else
    match jxs (jx e fs ps f) x.Kids with
    | none => (0, false)
    | some ks => jnd e fs ps x ks
def jhas (e : Env) (fs : List RFunc) (ps : List Int) (x : Expr) (k : Int) : Bool := (jx e fs ps 40 x).2 && decide ((jx e fs ps 40 x).1 = k)
def jhead : List (List UInt8) → List RFunc → Bool
  | _, [] => true
  | seen, f :: fs => isNm f.Name && !kw f.Name && !seen.contains f.Name && (decide (f.Result = 0) || decide (f.Result = 1)) && f.Params.all (fun t => decide (t = 0) || decide (t = 1)) && jhead (seen ++ [f.Name]) fs
def jcl (e : Env) (fs : List RFunc) (c : RClause) : Bool := den e.links c.Link && jhas e fs [] c.If 1 && jhas e fs [] c.To 0
def rightR (e : Env) (r : Rule) : Bool := jhead [] r.Funcs && r.Funcs.all (fun f => jhas e r.Funcs f.Params f.Body f.Result) && r.Clauses.all (jcl e r.Funcs)
theorem jxs_snoc {f : Expr → Int × Bool} : ∀ (xs : List Expr) (y : Expr), jxs f (xs ++ [y]) = (jxs f xs).bind fun l => if (f y).2 then some (l ++ [(f y).1]) else none
  | [], y => by simp [jxs]
  | x :: xs, y => by
    simp only [List.cons_append, jxs, jxs_snoc xs y]
    split
    · cases h : jxs f xs with
      | none => rfl
      | some l => simp only [Option.map_some, Option.bind_some]; split <;> rfl
    · rfl
theorem jxs_none {f : Expr → Int × Bool} : ∀ {xs : List Expr} {x : Expr}, x ∈ xs → (f x).2 = false → jxs f xs = none
  | [], _, h, _ => by cases h
  | y :: ys, x, h, hf => by
    unfold jxs
    rcases List.mem_cons.1 h with rfl | h
    · rw [if_neg (by simp [hf])]
    · rw [jxs_none h hf]; split <;> rfl
theorem jxs_mem {f : Expr → Int × Bool} : ∀ {xs : List Expr} {l : List Int}, jxs f xs = some l → l = xs.map (fun x => (f x).1) ∧ ∀ x ∈ xs, (f x).2 = true
  | [], l, h => by cases h; exact ⟨rfl, fun x hx => by cases hx⟩
  | y :: ys, l, h => by
    unfold jxs at h
    split at h
    · rename_i h1
      obtain ⟨l', h2, rfl⟩ := mS h
      obtain ⟨h3, h4⟩ := jxs_mem h2
      refine ⟨by rw [h3]; rfl, fun x hx => ?_⟩
      rcases List.mem_cons.1 hx with rfl | hx
      · exact h1
      · exact h4 x hx
    · cases h
theorem eqI_of {xs ys : List Int} (hl : xs.length = ys.length) (h : ∀ j, j < xs.length → xs.getD j 0 = ys.getD j 0) : xs = ys :=
  List.ext_getElem hl fun i h1 h2 => by
    have := h i h1
    rwa [gDD, gDD, List.getElem?_eq_getElem h1, List.getElem?_eq_getElem h2] at this
end Ru
