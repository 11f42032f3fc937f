/- Lemmas. Conditions: those of each theorem. -/
import Derived.Test.YtjmeeofdffdpnaaGreatDoorHRuQ
namespace Bt
structure Expr where
  Kind : Int
  N : Int
  Of : Int
  Of2 : Int
  Kids : List Expr
instance : Inhabited Expr := ⟨⟨0, 0, 0, 0, []⟩⟩
structure RFunc where
  Name : List UInt8
  Params : List Int
  Result : Int
  Body : Expr
instance : Inhabited RFunc := ⟨⟨[], [], 0, default⟩⟩
structure RClause where
  If : Expr
  Link : Int
  To : Expr
instance : Inhabited RClause := ⟨⟨default, 0, default⟩⟩
structure Rule where
  Funcs : List RFunc
  Clauses : List RClause
instance : Inhabited Rule := ⟨⟨[], []⟩⟩
end Bt
namespace Ru
open Bt Pa
structure Env where
  places : List (List UInt8)
  owners : List (List UInt8)
  links : List (List UInt8)
  towns : List (List UInt8)
def ix (l : List (List UInt8)) (t : List UInt8) : Option Nat := l.findIdx? (fun x => decide (x = t))
def trees (p : List Fn × List Cl) : List Nd := p.1.map (·.body) ++ p.2.flatMap fun c => [c.cond, c.value]
def ty (fs : List Fn) (ps : List Prm) : Nd → Int × List Int
  | ⟨k, n, _, _, _, nm, _, ks⟩ =>
    if k = 15 then ((ps.getD n.toNat default).kind, [])
    else if k = 14 then
      ((fs.getD n.toNat default).result, if ks.length = (fs.getD n.toNat default).params.length then tyW fs ps ks ((fs.getD n.toNat default).params.map (·.kind)) else nm.At :: tyA fs ps ks)
    else if k = 10 then (match ks with
      | [x, y] => (1, (ty fs ps x).2 ++ ((ty fs ps y).2 ++ if (ty fs ps y).1 = (ty fs ps x).1 then [] else [y.At]))
      | _ => (1, []))
    else if k = 13 then (match ks with
      | [x, y, z] => ((ty fs ps y).1, ((ty fs ps x).2 ++ if (ty fs ps x).1 = 1 then [] else [x.At]) ++ ((ty fs ps y).2 ++ ((ty fs ps z).2 ++ if (ty fs ps z).1 = (ty fs ps y).1 then [] else [z.At])))
      | _ => (0, []))
    else if k = 3 ∨ k = 11 ∨ k = 12 then (1, tyW fs ps ks (List.replicate ks.length 1))
    else if k = 8 ∨ k = 9 then (1, tyW fs ps ks (List.replicate ks.length 0))
    else (0, tyW fs ps ks (List.replicate ks.length 0))
where
  tyW (fs : List Fn) (ps : List Prm) : List Nd → List Int → List Int
  | [], _ => []
  | x :: xs, l => ((ty fs ps x).2 ++ if (ty fs ps x).1 = l.headD 0 then [] else [x.At]) ++ tyW fs ps xs l.tail
  tyA (fs : List Fn) (ps : List Prm) : List Nd → List Int
  | [] => []
  | x :: xs => (ty fs ps x).2 ++ tyA fs ps xs
end Ru
namespace Vm
open Bt
structure Op where
  Kind : Int
  A : Int
  B : Int
deriving DecidableEq
structure Code where
  Ops : List Op
  Funcs : List Int
  Starts : List Int
deriving DecidableEq
def chC (kind : Int) (p : Nat) (A B other : List Op) : List Op :=
  A ++ (⟨kind, ((p + A.length + 1 + B.length + 1 : Nat) : Int), 0⟩ :: (B ++ (⟨12, ((p + A.length + 1 + B.length + 1 + other.length : Nat) : Int), 0⟩ :: other)))
def opOf (k : Int) : Int := if k = 2 then 3 else if k = 3 then 4 else if k = 4 then 5 else if k = 5 then 6 else if k = 6 then 7 else if k = 7 then 8 else if k = 8 then 9 else if k = 9 then 10 else 11
mutual
def cE : Nat → Expr → List Op
  | p, ⟨k, n, o, q, ks⟩ =>
    if k = 0 then [⟨0, n, 0⟩] else if k = 15 then [⟨1, n, 0⟩] else if k = 1 then [⟨2, n, 1024 * o + q⟩]
    else if k = 11 then chC 13 p ((cG 1 p ks).getD 0 []) ((cG 1 p ks).getD 1 []) [⟨0, 0, 0⟩]
    else if k = 12 then chC 14 p ((cG 1 p ks).getD 0 []) ((cG 1 p ks).getD 1 []) [⟨0, 1, 0⟩]
    else if k = 13 then chC 13 p ((cG 1 p ks).getD 0 []) ((cG 1 p ks).getD 1 []) ((cG 1 p ks).getD 2 [])
    else (cG 0 p ks).flatten ++ [if k = 14 then ⟨15, n, (ks.length : Int)⟩ else ⟨opOf k, 0, 0⟩]
def cG (g : Nat) : Nat → List Expr → List (List Op)
  | _, [] => []
  | p, x :: xs => cE p x :: cG g (p + (cE p x).length + g) xs
end
def cC (p : Nat) (c : RClause) : List Op :=
  let A := cE (p + 1) c.If
  let B := cE (p + 1 + A.length + 1) c.To
  let e := p + 1 + A.length + 1 + B.length + 1
  ⟨17, c.Link, (e : Int)⟩ :: (A ++ (⟨13, (e : Int), 0⟩ :: (B ++ [⟨18, c.Link, 0⟩])))
def cF (p : Nat) (f : RFunc) : List Op := cE p f.Body ++ [⟨16, 0, 0⟩]
def seqC {α : Type} (f : Nat → α → List Op) : Nat → List α → List Int × List Op
  | _, [] => ([], [])
  | p, x :: xs => let r := seqC f (p + (f p x).length) xs; ((p : Int) :: r.1, f p x ++ r.2)
def arE (r : Rule) (n : Int) : Nat := ((r.Funcs.map fun f => f.Params.length).getD n.toNat 0)
mutual
def soE (r : Rule) (ps : Nat) : Nat → Expr → Bool
  | d, ⟨k, n, o, q, ks⟩ => decide (d ≤ 40) && decide (0 ≤ k ∧ k < 16) && (if k = 15 then decide (0 ≤ n ∧ n < ps) else if k = 1 then decide (0 ≤ n ∧ n < 8 ∧ 0 ≤ o ∧ o < 1024 ∧ 0 ≤ q ∧ q < 1024) else if k = 14 then decide (0 ≤ n ∧ n < r.Funcs.length) else true)
    && decide (ks.length = if k = 0 ∨ k = 15 ∨ k = 1 then 0 else if k = 2 ∨ k = 3 then 1 else if k = 13 then 3 else if k = 14 then arE r n else 2) && soL r ps (d + 1) ks
def soL (r : Rule) (ps : Nat) : Nat → List Expr → Bool
  | _, [] => true
  | d, x :: xs => soE r ps d x && soL r ps d xs
end
def soP (r : Rule) : Bool := (r.Funcs.all fun f => soE r f.Params.length 1 f.Body) && r.Clauses.all fun c => soE r 0 1 c.If && soE r 0 1 c.To
def compile (r : Rule) : Code := if soP r then
    let c := seqC cC 0 r.Clauses
    let f := seqC cF (c.2.length + 1) r.Funcs
    ⟨c.2 ++ (⟨19, 0, 0⟩ :: f.2), f.1, c.1⟩
  else ⟨[], [], []⟩
/-! ### the shape of the code -/
def okO (r : Rule) (hi i : Nat) (o : Op) : Prop := ((o.Kind = 12 ∨ o.Kind = 13 ∨ o.Kind = 14) → (i : Int) < o.A ∧ o.A ≤ hi) ∧ (o.Kind = 17 → (i : Int) < o.B ∧ o.B ≤ hi) ∧ (o.Kind = 15 → 0 ≤ o.A ∧ o.A < r.Funcs.length ∧ o.B = arE r o.A)
def okL (r : Rule) (hi : Nat) : Nat → List Op → Prop
  | _, [] => True
  | i, o :: l => okO r hi i o ∧ okL r hi (i + 1) l
theorem okL_app {r : Rule} {hi : Nat} : ∀ {a b : List Op} {p : Nat}, okL r hi p (a ++ b) ↔ okL r hi p a ∧ okL r hi (p + a.length) b
  | [], b, p => by simp [okL]
  | x :: a, b, p => by
    simp only [List.cons_append, okL, okL_app (a := a), List.length_cons, and_assoc]
    rw [show p + 1 + a.length = p + (a.length + 1) by omega]
theorem okO_mono {r : Rule} {hi hi' i : Nat} {o : Op} (h : okO r hi i o) (hl : hi ≤ hi') : okO r hi' i o :=
  ⟨fun k => ⟨(h.1 k).1, by have := (h.1 k).2; omega⟩, fun k => ⟨(h.2.1 k).1, by have := (h.2.1 k).2; omega⟩, h.2.2⟩
theorem okL_mono {r : Rule} {hi hi' : Nat} (hl : hi ≤ hi') : ∀ {l : List Op} {p : Nat}, okL r hi p l → okL r hi' p l
  | [], _, _ => trivial
  | _ :: _, _, h => ⟨okO_mono h.1 hl, okL_mono hl h.2⟩
theorem okO_free {r : Rule} {hi i : Nat} {o : Op} (h : ¬ (o.Kind = 12 ∨ o.Kind = 13 ∨ o.Kind = 14 ∨ o.Kind = 15 ∨ o.Kind = 17)) : okO r hi i o :=
  ⟨fun k => absurd (by omega) h, fun k => absurd (by omega) h, fun k => absurd (by omega) h⟩
theorem okO_jump {r : Rule} {hi i : Nat} {k a b : Int} (hk : k = 12 ∨ k = 13 ∨ k = 14) (h : (i : Int) < a ∧ a ≤ hi) : okO r hi i ⟨k, a, b⟩ :=
  ⟨fun _ => h, fun e => by simp only at e; omega, fun e => by simp only at e; omega⟩
theorem chC_ok {r : Rule} {kind : Int} {p : Nat} {A B O : List Op} (hk : kind = 13 ∨ kind = 14) (hA : okL r (p + A.length) p A) (hB : okL r (p + A.length + 1 + B.length) (p + A.length + 1) B) (hO : okL r (p + A.length + 1 + B.length + 1 + O.length) (p + A.length + 1 + B.length + 1) O) :
    okL r (p + (chC kind p A B O).length) p (chC kind p A B O) := by
  have hl : (chC kind p A B O).length = A.length + 1 + B.length + 1 + O.length := by simp [chC]; omega
  rw [hl]
  unfold chC
  rw [okL_app]
  refine ⟨okL_mono (by omega) hA, okO_jump (by omega) ⟨by omega, by omega⟩, ?_⟩
  rw [okL_app]
  exact ⟨okL_mono (by omega) hB, okO_jump (.inl rfl) ⟨by omega, by omega⟩, okL_mono (hi := p + A.length + 1 + B.length + 1 + O.length) (by omega) hO⟩
theorem cG_flat {r : Rule} : ∀ (xs : List Expr) (p : Nat), (∀ x ∈ xs, ∀ p, okL r (p + (cE p x).length) p (cE p x)) → okL r (p + (cG 0 p xs).flatten.length) p (cG 0 p xs).flatten
  | [], p, _ => by unfold cG; trivial
  | x :: xs, p, h => by
    unfold cG
    rw [List.flatten_cons, List.length_append, okL_app]
    have ih := cG_flat xs (p + (cE p x).length + 0) fun y hy => h y (List.mem_cons_of_mem _ hy)
    refine ⟨okL_mono (by omega) (h x (List.mem_cons_self ..) p), ?_⟩
    rw [Nat.add_zero] at ih ⊢
    rw [← Nat.add_assoc]; exact ih
theorem opOf_free (k : Int) : ¬ (opOf k = 12 ∨ opOf k = 13 ∨ opOf k = 14 ∨ opOf k = 15 ∨ opOf k = 17) := by
  unfold opOf
  repeat' split
  all_goals omega
mutual
theorem cE_ok {r : Rule} {ps : Nat} : ∀ (e : Expr) (d : Nat), soE r ps d e = true → ∀ p, okL r (p + (cE p e).length) p (cE p e)
  | ⟨k, n, o, q, ks⟩, d, h, p => by
    unfold soE at h
    simp only [Bool.and_eq_true, decide_eq_true_eq] at h
    obtain ⟨⟨⟨⟨h1, h2⟩, h3⟩, h4⟩, h5⟩ := h
    have hs := cEl_ok ks (d + 1) h5
    unfold cE
    by_cases k0 : k = 0
    · rw [if_pos k0]; exact ⟨okO_free (by simp), trivial⟩
    rw [if_neg k0]
    by_cases k15 : k = 15
    · rw [if_pos k15]; exact ⟨okO_free (by simp), trivial⟩
    rw [if_neg k15]
    by_cases k1 : k = 1
    · rw [if_pos k1]; exact ⟨okO_free (by simp), trivial⟩
    rw [if_neg k1]
    rw [if_neg (by omega)] at h4
    by_cases k11 : k = 11
    · rw [if_pos k11]
      rw [if_neg (by omega), if_neg (by omega), if_neg (by omega)] at h4
      match ks, h4, hs with
      | [a, b], _, hs =>
        simp only [cG, List.getD_cons_zero, List.getD_cons_succ]
        exact chC_ok (.inl rfl) (hs a (by simp) p) (hs b (by simp) _) ⟨okO_free (by simp), trivial⟩
    rw [if_neg k11]
    by_cases k12 : k = 12
    · rw [if_pos k12]
      rw [if_neg (by omega), if_neg (by omega), if_neg (by omega)] at h4
      match ks, h4, hs with
      | [a, b], _, hs =>
        simp only [cG, List.getD_cons_zero, List.getD_cons_succ]
        exact chC_ok (.inr rfl) (hs a (by simp) p) (hs b (by simp) _) ⟨okO_free (by simp), trivial⟩
    rw [if_neg k12]
    by_cases k13 : k = 13
    · rw [if_pos k13]
      rw [if_neg (by omega), if_pos k13] at h4
      match ks, h4, hs with
      | [a, b, c], _, hs =>
        simp only [cG, List.getD_cons_zero, List.getD_cons_succ]
        exact chC_ok (.inl rfl) (hs a (by simp) p) (hs b (by simp) _) (hs c (by simp) _)
    rw [if_neg k13]
    rw [okL_app]
    refine ⟨okL_mono (by simp) (cG_flat ks p hs), ?_, trivial⟩
    by_cases k14 : k = 14
    · rw [if_pos k14]
      rw [if_neg (by omega), if_neg k13, if_pos k14] at h4
      rw [if_neg k15, if_neg k1, if_pos k14] at h3
      have h3 := odT h3
      exact ⟨fun e => by simp only at e; omega, fun e => by simp only at e; omega, fun _ => ⟨h3.1, h3.2, by rw [h4]⟩⟩
    · rw [if_neg k14]; exact okO_free (opOf_free k)
theorem cEl_ok {r : Rule} {ps : Nat} : ∀ (xs : List Expr) (d : Nat), soL r ps d xs = true → ∀ x ∈ xs, ∀ p, okL r (p + (cE p x).length) p (cE p x)
  | [], _, _, x, hx => by cases hx
  | y :: ys, d, h, x, hx => by
    unfold soL at h
    simp only [Bool.and_eq_true] at h
    rcases List.mem_cons.1 hx with h0 | h0
    · rw [h0]; exact cE_ok y d h.1
    · exact cEl_ok ys d h.2 x h0
end
theorem cC_ok {r : Rule} {c : RClause} (h1 : soE r 0 1 c.If = true) (h2 : soE r 0 1 c.To = true) (p : Nat) : okL r (p + (cC p c).length) p (cC p c) := by
  have hA := cE_ok c.If 1 h1 (p + 1)
  have hB := cE_ok c.To 1 h2 (p + 1 + (cE (p + 1) c.If).length + 1)
  have hl : (cC p c).length = 1 + (cE (p + 1) c.If).length + 1 + (cE (p + 1 + (cE (p + 1) c.If).length + 1) c.To).length + 1 := by simp [cC]; omega
  rw [hl]
  unfold cC
  simp only
  refine ⟨⟨fun e => by simp only at e; omega, fun _ => ⟨by simp only; omega, by simp only; omega⟩, fun e => by simp only at e; omega⟩, ?_⟩
  rw [okL_app]
  refine ⟨okL_mono (by omega) hA, okO_jump (.inr (.inl rfl)) ⟨by omega, by omega⟩, ?_⟩
  rw [okL_app]
  exact ⟨okL_mono (by omega) hB, okO_free (by simp), trivial⟩
theorem cF_ok {r : Rule} {f : RFunc} {ps : Nat} (h : soE r ps 1 f.Body = true) (p : Nat) : okL r (p + (cF p f).length) p (cF p f) := by
  have hA := cE_ok f.Body 1 h p
  unfold cF
  rw [List.length_append, okL_app]
  exact ⟨okL_mono (by omega) hA, okO_free (by simp), trivial⟩
end Vm
