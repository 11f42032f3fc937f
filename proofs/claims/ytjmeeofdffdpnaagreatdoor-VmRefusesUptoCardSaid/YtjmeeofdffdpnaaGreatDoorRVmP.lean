/- Lemmas. Conditions: those of each theorem. -/
import Derived.Test.YtjmeeofdffdpnaaGreatDoorRRuP
namespace Ru
open Bt Pa
end Ru
namespace Bt
structure Expr where
  Kind : Int
  N : Int
  Of : Int
  Of2 : Int
  Kids : List Expr
instance : Inhabited Expr := ⟨⟨0, 0, 0, 0, []⟩⟩
structure RFunc where
  Name : List UInt8
  Params : List Int
  Result : Int
  Body : Expr
instance : Inhabited RFunc := ⟨⟨[], [], 0, default⟩⟩
structure RClause where
  If : Expr
  Link : Int
  To : Expr
instance : Inhabited RClause := ⟨⟨default, 0, default⟩⟩
structure Rule where
  Funcs : List RFunc
  Clauses : List RClause
instance : Inhabited Rule := ⟨⟨[], []⟩⟩
end Bt
namespace Ru
open Bt Pa
structure Env where
  places : List (List UInt8)
  owners : List (List UInt8)
  links : List (List UInt8)
  towns : List (List UInt8)
def ix (l : List (List UInt8)) (t : List UInt8) : Option Nat := l.findIdx? (fun x => decide (x = t))
def trees (p : List Fn × List Cl) : List Nd := p.1.map (·.body) ++ p.2.flatMap fun c => [c.cond, c.value]
def ty (fs : List Fn) (ps : List Prm) : Nd → Int × List Int
  | ⟨k, n, _, _, _, nm, _, ks⟩ =>
    if k = 15 then ((ps.getD n.toNat default).kind, [])
    else if k = 14 then
      ((fs.getD n.toNat default).result, if ks.length = (fs.getD n.toNat default).params.length then tyW fs ps ks ((fs.getD n.toNat default).params.map (·.kind)) else nm.At :: tyA fs ps ks)
    else if k = 10 then (match ks with
      | [x, y] => (1, (ty fs ps x).2 ++ ((ty fs ps y).2 ++ if (ty fs ps y).1 = (ty fs ps x).1 then [] else [y.At]))
      | _ => (1, []))
    else if k = 13 then (match ks with
      | [x, y, z] => ((ty fs ps y).1, ((ty fs ps x).2 ++ if (ty fs ps x).1 = 1 then [] else [x.At]) ++ ((ty fs ps y).2 ++ ((ty fs ps z).2 ++ if (ty fs ps z).1 = (ty fs ps y).1 then [] else [z.At])))
      | _ => (0, []))
    else if k = 3 ∨ k = 11 ∨ k = 12 then (1, tyW fs ps ks (List.replicate ks.length 1))
    else if k = 8 ∨ k = 9 then (1, tyW fs ps ks (List.replicate ks.length 0))
    else (0, tyW fs ps ks (List.replicate ks.length 0))
where
  tyW (fs : List Fn) (ps : List Prm) : List Nd → List Int → List Int
  | [], _ => []
  | x :: xs, l => ((ty fs ps x).2 ++ if (ty fs ps x).1 = l.headD 0 then [] else [x.At]) ++ tyW fs ps xs l.tail
  tyA (fs : List Fn) (ps : List Prm) : List Nd → List Int
  | [] => []
  | x :: xs => (ty fs ps x).2 ++ tyA fs ps xs
end Ru
namespace Vm
open Bt
structure Op where
  Kind : Int
  A : Int
  B : Int
deriving DecidableEq
structure Code where
  Ops : List Op
  Funcs : List Int
  Starts : List Int
deriving DecidableEq
def chC (kind : Int) (p : Nat) (A B other : List Op) : List Op :=
  A ++ (⟨kind, ((p + A.length + 1 + B.length + 1 : Nat) : Int), 0⟩ :: (B ++ (⟨12, ((p + A.length + 1 + B.length + 1 + other.length : Nat) : Int), 0⟩ :: other)))
def opOf (k : Int) : Int := if k = 2 then 3 else if k = 3 then 4 else if k = 4 then 5 else if k = 5 then 6 else if k = 6 then 7 else if k = 7 then 8 else if k = 8 then 9 else if k = 9 then 10 else 11
mutual
def cE : Nat → Expr → List Op
  | p, ⟨k, n, o, q, ks⟩ =>
    if k = 0 then [⟨0, n, 0⟩] else if k = 15 then [⟨1, n, 0⟩] else if k = 1 then [⟨2, n, 1024 * o + q⟩]
    else if k = 11 then chC 13 p ((cG 1 p ks).getD 0 []) ((cG 1 p ks).getD 1 []) [⟨0, 0, 0⟩]
    else if k = 12 then chC 14 p ((cG 1 p ks).getD 0 []) ((cG 1 p ks).getD 1 []) [⟨0, 1, 0⟩]
    else if k = 13 then chC 13 p ((cG 1 p ks).getD 0 []) ((cG 1 p ks).getD 1 []) ((cG 1 p ks).getD 2 [])
    else (cG 0 p ks).flatten ++ [if k = 14 then ⟨15, n, (ks.length : Int)⟩ else ⟨opOf k, 0, 0⟩]
def cG (g : Nat) : Nat → List Expr → List (List Op)
  | _, [] => []
  | p, x :: xs => cE p x :: cG g (p + (cE p x).length + g) xs
end
def cC (p : Nat) (c : RClause) : List Op :=
  let A := cE (p + 1) c.If
  let B := cE (p + 1 + A.length + 1) c.To
  let e := p + 1 + A.length + 1 + B.length + 1
  ⟨17, c.Link, (e : Int)⟩ :: (A ++ (⟨13, (e : Int), 0⟩ :: (B ++ [⟨18, c.Link, 0⟩])))
def cF (p : Nat) (f : RFunc) : List Op := cE p f.Body ++ [⟨16, 0, 0⟩]
def seqC {α : Type} (f : Nat → α → List Op) : Nat → List α → List Int × List Op
  | _, [] => ([], [])
  | p, x :: xs => let r := seqC f (p + (f p x).length) xs; ((p : Int) :: r.1, f p x ++ r.2)
def arE (r : Rule) (n : Int) : Nat := ((r.Funcs.map fun f => f.Params.length).getD n.toNat 0)
mutual
def soE (r : Rule) (ps : Nat) : Nat → Expr → Bool
  | d, ⟨k, n, o, q, ks⟩ => decide (d ≤ 40) && decide (0 ≤ k ∧ k < 16) && (if k = 15 then decide (0 ≤ n ∧ n < ps) else if k = 1 then decide (0 ≤ n ∧ n < 8 ∧ 0 ≤ o ∧ o < 1024 ∧ 0 ≤ q ∧ q < 1024) else if k = 14 then decide (0 ≤ n ∧ n < r.Funcs.length) else true)
    && decide (ks.length = if k = 0 ∨ k = 15 ∨ k = 1 then 0 else if k = 2 ∨ k = 3 then 1 else if k = 13 then 3 else if k = 14 then arE r n else 2) && soL r ps (d + 1) ks
def soL (r : Rule) (ps : Nat) : Nat → List Expr → Bool
  | _, [] => true
  | d, x :: xs => soE r ps d x && soL r ps d xs
end
def soP (r : Rule) : Bool := (r.Funcs.all fun f => soE r f.Params.length 1 f.Body) && r.Clauses.all fun c => soE r 0 1 c.If && soE r 0 1 c.To
def compile (r : Rule) : Code := if soP r then
    let c := seqC cC 0 r.Clauses
    let f := seqC cF (c.2.length + 1) r.Funcs
    ⟨c.2 ++ (⟨19, 0, 0⟩ :: f.2), f.1, c.1⟩
  else ⟨[], [], []⟩
/-! ### the shape of the code -/
def okO (r : Rule) (hi i : Nat) (o : Op) : Prop := ((o.Kind = 12 ∨ o.Kind = 13 ∨ o.Kind = 14) → (i : Int) < o.A ∧ o.A ≤ hi) ∧ (o.Kind = 17 → (i : Int) < o.B ∧ o.B ≤ hi) ∧ (o.Kind = 15 → 0 ≤ o.A ∧ o.A < r.Funcs.length ∧ o.B = arE r o.A)
end Vm
