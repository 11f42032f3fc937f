/- A region that draws its order and only makes new memory: a fact for each operation, in whatever order they come. Conditions: those of each theorem. -/
import Derived.Test.YtjcahklnkakklaaDoorTCore13
namespace Go.K
open Go Go.RowKit
abbrev Fact := Value → Hp → Prop
def DepF (ops : List Oper) (Fs : List Fact) (S : Nat → Value) (Φ : Hp) (j : Nat) : Prop :=
  match ops[j]?, Fs[j]? with
  | some o, some F => match o.dst with
    | some d => F (S d) Φ
    | none => True
  | _, _ => True
def StepF (P : Program) (J : Cls) (base : List (Nat × Value)) (ops : List Oper) (Fs : List Fact) (o : Oper) (F : Fact) : Prop :=
  ∀ (S : Nat → Value) (w : World), AllIn S base → J.p w → (∀ e ∈ o.after, Region.binds .any e = true → DepF ops Fs S (hp w) e.on) → effX P NoPn (fun v w' => Bel w.heap.size w w' ∧ F v (hp w')) ((execOp (ev S) o).run P w)
def StepsF (P : Program) (J : Cls) (base : List (Nat × Value)) (ops : List Oper) (Fs : List Fact) : List Oper → List Fact → Prop
  | [], [] => True
  | o :: l, F :: r => StepF P J base ops Fs o F ∧ StepsF P J base ops Fs l r
  | _, _ => False
theorem StepsF.get {P : Program} {J : Cls} {base : List (Nat × Value)} {ops : List Oper} {Fs : List Fact} : ∀ {l : List Oper} {r : List Fact}, StepsF P J base ops Fs l r → ∀ {i : Nat} {o : Oper}, l[i]? = some o → ∃ F, r[i]? = some F ∧ StepF P J base ops Fs o F
  | [], [], _, i, o, h => by simp at h
  | o' :: l, F :: r, hs, 0, o, h => by
    obtain rfl : o' = o := by simpa using h
    exact ⟨F, rfl, hs.1⟩
  | o' :: l, F :: r, hs, i + 1, o, h => by simpa using StepsF.get hs.2 (i := i) (by simpa using h)
  | [], _ :: _, hs, _, _, _ => hs.elim
  | _ :: _, [], hs, _, _, _ => hs.elim
/-- a guard's truth value is known to be the one that is wanted -/
def GuardsF (Fs : List Fact) : List Oper → Prop
  | [] => True
  | o :: l => (match o.guard with
    | none => True
    | some (j, want) => ∀ F, Fs[j]? = some F → ∀ v Φ, F v Φ → v = .bool want) ∧ GuardsF Fs l
theorem GuardsF.get {Fs : List Fact} : ∀ {l : List Oper}, GuardsF Fs l → ∀ {i : Nat} {o : Oper}, l[i]? = some o → ∀ {j : Nat} {want : Bool}, o.guard = some (j, want) → ∀ F, Fs[j]? = some F → ∀ v Φ, F v Φ → v = .bool want
  | [], _, i, o, h => by simp at h
  | o' :: l, hs, 0, o, h => fun hg => by
    obtain rfl : o' = o := by simpa using h
    have := hs.1
    rw [hg] at this
    exact this
  | o' :: l, hs, i + 1, o, h => GuardsF.get hs.2 (i := i) (by simpa using h)
section
variable {P : Program} {N : Nat} {D : List Deferred} {Q : Exit → Act → World → Prop} {f : Nat → Value} {s : List (Nat × Value)} {J : Cls}
end
end Go.K
namespace Go.K
open Go Go.RowKit
section
variable {P : Program} {f : Nat → Value} {s : List (Nat × Value)} {J : Cls} {w : World}
end
end Go.K
