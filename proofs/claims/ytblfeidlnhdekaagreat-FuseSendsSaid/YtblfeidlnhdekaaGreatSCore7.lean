/- Lemmas. Conditions: those of each theorem. -/
import Derived.Test.YtblfeidlnhdekaaGreatSCore6
namespace Go.K
open Go Go.RowKit
inductive TrO where
  | nil
  | q (o : Oper) (t : TrO)
  | e (o : Oper) (t : TrO)
  | f (o1 o2 : Oper) (t1 t2 : TrO)
section
variable {P : Program} {Pn : List PanicEntry → World → Prop} {N : Nat} {D : List Deferred} {ops : Array Oper} {md : Region.Mode} {Q : Exit → Act → World → Prop} {f : Nat → Value} {s : List (Nat × Value)} {J J0 : Cls}
variable {I : List (Nat × Value) → Cls → Prop} {t t1 t2 : TrO}
end
end Go.K
namespace Go.K
open Go Go.RowKit
theorem e_callX {P : Program} {Pn : List PanicEntry → World → Prop} {B : Bs} {Φ : Hp} {C : List Chunk} {f : Nat → Value} {s : List (Nat × Value)} {dst : Option Nat} {ty : TypeId} {pos : String} {af : Array Edge} {g : Option (Nat × Bool)} {x : Operand} {xs : Array Operand} {ts : Array TypeId} {k : FuncId} {first capt args : Array Value} {Y : Type} (V : Y → Value) (T : Y → Hp → Prop) (hk : Own P k) (hx : ev (fr f s) x = .func (.func k) first capt) (ha : first.toList ++ xs.toList.map (ev (fr f s)) ++ capt.toList = args.toList)
    (h : ∀ w, (St B Φ C).p w → Calls P k args w (RetS Φ w fun r Ψ => ∃ y, r = V y ∧ T y Ψ)) :
    ∀ w, (St B Φ C).p w → effX P Pn (fun v w' => ∃ y : {y : Y × Hp // T y.1 y.2 ∧ Hp.le Φ y.2}, v = V y.1.1 ∧ (St B y.1.2 C).p w') ((execOp (ev (fr f s)) ⟨dst, .call { callee := .value x, args := xs, argTypes := ts }, ty, pos, af, g⟩).run P w) :=
  e_call (V := fun y : {y : Y × Hp // T y.1 y.2 ∧ Hp.le Φ y.2} => V y.1.1) (J' := fun y => St B y.1.2 C) hk hx ha fun w hw => (h w hw).mono fun _ w' ⟨v, he, hb, y, hv, hT⟩ =>
    ⟨⟨(y, Go.K.ext Φ w.heap.size w'), hT, le_ext hb hw.phi⟩, by rw [he, hv], hw.call hb⟩
end Go.K
