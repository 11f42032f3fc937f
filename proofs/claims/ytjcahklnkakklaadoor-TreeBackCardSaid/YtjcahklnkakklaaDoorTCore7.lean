/- More rules: regions whose walk forks, a join behind a region or a branch. Conditions: none; plain lemmas over any program. -/
import Derived.Test.YtjcahklnkakklaaDoorTCore6
namespace Go.K
open Go Go.RowKit
/-- the walk of a region that draws its order, as a tree: q: quiet, taken first; e: the only one that may come up; f: one of two comes up -/
inductive Tr where
  | nil
  | q (k : Nat) (t : Tr)
  | e (k : Nat) (t : Tr)
  | f (k k2 : Nat) (t1 t2 : Tr)
inductive TrO where
  | nil
  | q (o : Oper) (t : TrO)
  | e (o : Oper) (t : TrO)
  | f (o1 o2 : Oper) (t1 t2 : TrO)
def Tr.depth : Tr → Nat
  | .nil => 0
  | .q _ t => t.depth + 1
  | .e _ t => t.depth + 1
  | .f _ _ t1 t2 => max t1.depth t2.depth + 1
def Tr.lastE : Tr → Bool
  | .nil => false
  | .e _ .nil => true
  | .q _ t => t.lastE
  | .e _ t => t.lastE
  | .f _ _ t _ => t.lastE
section
variable {P : Program} {Pn : List PanicEntry → World → Prop} {N : Nat} {D : List Deferred} {ops : Array Oper} {md : Region.Mode} {Q : Exit → Act → World → Prop} {f : Nat → Value} {s : List (Nat × Value)} {J J0 : Cls}
def HT (P : Program) (Pn : List PanicEntry → World → Prop) (ops : Array Oper) (J0 : Cls) (Q : Act → World → Prop) : TrO → Act → Cls → Prop
  | .nil, a, J => ∀ w, J.p w → Q a w
  | .q o t, a, J => (∀ w, J.p w → J0.p w) ∧ ∃ v, YieldsX P ops J0 o v a ∧ HT P Pn ops J0 Q t (a.put o.dst v) J
  | .e o t, a, J => opX P Pn ops o (fun a' J' => (t ≠ .nil → ∀ w, J'.p w → J0.p w) ∧ HT P Pn ops J0 Q t a' J') a J
  | .f o1 o2 t1 t2, a, J => opX P Pn ops o1 (fun a' J' => (∀ w, J'.p w → J0.p w) ∧ HT P Pn ops J0 Q t1 a' J') a J ∧ opX P Pn ops o2 (fun a' J' => (∀ w, J'.p w → J0.p w) ∧ HT P Pn ops J0 Q t2 a' J') a J
def Joined (N : Nat) (D : List Deferred) (I : List (Nat × Value) → Cls → Prop) (a : Act) (w : World) : Prop := ∃ f s J, I s J ∧ Rel N D (fr f s) a ∧ J.p w
def DT (P : Program) (Pn : List PanicEntry → World → Prop) (N : Nat) (D : List Deferred) (ops : Array Oper) (J0 : Cls) (I : List (Nat × Value) → Cls → Prop) (t : TrO) (f : Nat → Value) (s : List (Nat × Value)) (J : Cls) : Prop :=
  ∀ a, Rel N D (fr f s) a → HT P Pn ops J0 (Joined N D I) t a J
variable {I : List (Nat × Value) → Cls → Prop} {t t1 t2 : TrO}
theorem DT.nil {s' : List (Nat × Value)} {J' : Cls} (hI : I s' J') (hs : AllIn (fr f s) s') (hJ : ∀ w, J.p w → J'.p w) : DT P Pn N D ops J0 I .nil f s J := fun a ha w hw => ⟨fr f s, s', J', hI, by rw [fr_of_allIn hs]; exact ha, hJ w hw⟩
theorem DT.q {d : Nat} {op : Op} {ty : TypeId} {pos : String} {af : Array Edge} {v : Value}
    (hJ : ∀ w, J.p w → J0.p w) (hd : Nat.blt d N = true) (hq : Qt P J0 f s ⟨some d, op, ty, pos, af, none⟩ v) (k : DT P Pn N D ops J0 I t f ((d, v) :: s) J) :
    DT P Pn N D ops J0 I (.q ⟨some d, op, ty, pos, af, none⟩ t) f s J := fun a ha =>
  ⟨hJ, v, .inl ⟨rfl, fun w hw => by rw [ha.eval]; exact hq w hw⟩, k _ (ha.put hd v)⟩
theorem DT.g {d j gd : Nat} {want b : Bool} {op : Op} {ty : TypeId} {pos : String} {af : Array Edge} {v : Value}
    (hJ : ∀ w, J.p w → J0.p w) (hd : Nat.blt d N = true) (hy : (ops[j]?).bind (·.dst) = some gd) (hb : fr f s gd = .bool b)
    (hq : b = want → Qt P J0 f s ⟨some d, op, ty, pos, af, some (j, want)⟩ v) (k : DT P Pn N D ops J0 I t f ((d, gv b want v) :: s) J) :
    DT P Pn N D ops J0 I (.q ⟨some d, op, ty, pos, af, some (j, want)⟩ t) f s J := fun a ha => by
  have hyy := yielded_of (ops := ops) ha hy hb
  have hwant : Region.wanted ⟨some d, op, ty, pos, af, some (j, want)⟩ (yielded ops a.tmps) = (b == want) := by simp [Region.wanted, hyy]
  refine ⟨hJ, gv b want v, ?_, k _ (ha.put hd _)⟩
  by_cases hbw : b = want
  · exact .inl ⟨by rw [hwant]; simp [hbw], fun w hw => by rw [ha.eval, gv_pos hbw]; exact hq hbw w hw⟩
  · exact .inr ⟨by rw [hwant]; simp [hbw], gv_neg hbw⟩
theorem DT.gl {d j gd : Nat} {want : Bool} {op : Op} {ty : TypeId} {pos : String} {af : Array Edge} {v : Value}
    (hJ : ∀ w, J.p w → J0.p w) (hd : Nat.blt d N = true) (hy : (ops[j]?).bind (·.dst) = some gd) (hb : fr f s gd = .bool want)
    (hq : Qt P J0 f s ⟨some d, op, ty, pos, af, some (j, want)⟩ v) (k : DT P Pn N D ops J0 I t f ((d, v) :: s) J) :
    DT P Pn N D ops J0 I (.q ⟨some d, op, ty, pos, af, some (j, want)⟩ t) f s J :=
  DT.g hJ hd hy hb (fun _ => hq) (by rw [gv_pos rfl]; exact k)
theorem opX_eff {X : Type} (V : X → Value) (J' : X → Cls) {d : Nat} {op : Op} {ty : TypeId} {pos : String} {af : Array Edge} {g : Option (Nat × Bool)} {a : Act} {K : Act → Cls → Prop} (ha : Rel N D (fr f s) a) (hg : GOn ops (fr f s) g)
    (hd : Nat.blt d N = true) (h : ∀ w, J.p w → effX P Pn (fun v w' => ∃ x, v = V x ∧ (J' x).p w') ((execOp (ev (fr f s)) ⟨some d, op, ty, pos, af, g⟩).run P w))
    (k : ∀ x a', Rel N D (fr f ((d, V x) :: s)) a' → K a' (J' x)) : opX P Pn ops ⟨some d, op, ty, pos, af, g⟩ K a J := by
  unfold opX
  rw [if_pos (wanted_on ha hg)]
  intro w hw
  rw [ha.eval]
  exact effX_mono (fun v w' ⟨x, hv, hp⟩ => ⟨J' x, hp, by subst hv; exact k x _ (ha.put hd _)⟩) (h w hw)
theorem DT.eff {X : Type} (V : X → Value) (J' : X → Cls) {d : Nat} {op : Op} {ty : TypeId} {pos : String} {af : Array Edge}
    (hJ : t ≠ .nil → ∀ x w, (J' x).p w → J0.p w) (hd : Nat.blt d N = true) (h : ∀ w, J.p w → effX P Pn (fun v w' => ∃ x, v = V x ∧ (J' x).p w') ((execOp (ev (fr f s)) ⟨some d, op, ty, pos, af, none⟩).run P w))
    (k : ∀ x, DT P Pn N D ops J0 I t f ((d, V x) :: s) (J' x)) :
    DT P Pn N D ops J0 I (.e ⟨some d, op, ty, pos, af, none⟩ t) f s J := fun a ha =>
  opX_eff V J' ha trivial hd h fun x a' ha' => ⟨fun hr => hJ hr x, k x a' ha'⟩
theorem DT.effn {J' : Cls} {op : Op} {ty : TypeId} {pos : String} {af : Array Edge}
    (hJ : t ≠ .nil → ∀ w, J'.p w → J0.p w) (h : ∀ w, J.p w → effX P Pn (fun _ w' => J'.p w') ((execOp (ev (fr f s)) ⟨none, op, ty, pos, af, none⟩).run P w))
    (k : DT P Pn N D ops J0 I t f s J') :
    DT P Pn N D ops J0 I (.e ⟨none, op, ty, pos, af, none⟩ t) f s J := fun a ha => by
  show opX P Pn ops _ _ a J
  unfold opX
  rw [if_pos (show Region.wanted _ _ = true from rfl)]
  intro w hw
  rw [ha.eval]
  exact effX_mono (fun v w' hp => ⟨J', hp, hJ, k _ ha⟩) (h w hw)
end
end Go.K
namespace Go.K
open Go Go.RowKit
/-- a call whose result is made of parts that read in memory -/
theorem e_callX {P : Program} {Pn : List PanicEntry → World → Prop} {B : Bs} {Φ : Hp} {C : List Chunk} {f : Nat → Value} {s : List (Nat × Value)} {dst : Option Nat} {ty : TypeId} {pos : String} {af : Array Edge} {g : Option (Nat × Bool)} {x : Operand} {xs : Array Operand} {ts : Array TypeId} {k : FuncId} {first capt args : Array Value} {Y : Type} (V : Y → Value) (T : Y → Hp → Prop) (hk : Own P k) (hx : ev (fr f s) x = .func (.func k) first capt) (ha : first.toList ++ xs.toList.map (ev (fr f s)) ++ capt.toList = args.toList)
    (h : ∀ w, (St B Φ C).p w → Calls P k args w (RetS Φ w fun r Ψ => ∃ y, r = V y ∧ T y Ψ)) :
    ∀ w, (St B Φ C).p w → effX P Pn (fun v w' => ∃ y : {y : Y × Hp // T y.1 y.2 ∧ Hp.le Φ y.2}, v = V y.1.1 ∧ (St B y.1.2 C).p w') ((execOp (ev (fr f s)) ⟨dst, .call { callee := .value x, args := xs, argTypes := ts }, ty, pos, af, g⟩).run P w) :=
  e_call (V := fun y : {y : Y × Hp // T y.1 y.2 ∧ Hp.le Φ y.2} => V y.1.1) (J' := fun y => St B y.1.2 C) hk hx ha fun w hw => (h w hw).mono fun _ w' ⟨v, he, hb, y, hv, hT⟩ =>
    ⟨⟨(y, Go.K.ext Φ w.heap.size w'), hT, le_ext hb hw.phi⟩, by rw [he, hv], hw.call hb⟩
end Go.K
