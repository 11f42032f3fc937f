/- Lemmas. Conditions: those of each theorem. -/
import Derived.Test.YtjmeeofdffdpnaaGreatDoorMRndS
import Derived.Recover
namespace Go.K
open Go Go.RowKit
variable {Q : Exit → Act → World → Prop}
theorem Hp.le.trans {Φ Ψ Ξ : Hp} (h : Hp.le Φ Ψ) (k : Hp.le Ψ Ξ) : Hp.le Φ Ξ := fun b o e => k b o (h b o e)
variable {B : Bs} {Φ Ψ : Hp} {C : List Chunk} {W W' : World}
end Go.K
namespace Go.K
open Go Go.RowKit
variable {Q : Exit → Act → World → Prop}
variable {P : Program} {N : Nat} {D : List Deferred} {f : Nat → Value} {s : List (Nat × Value)} {J : Cls}
def recv (cs : List Frame) : Value × List Frame := match recoverD cs with
  | some x => x
  | none => (.nilIface, cs)
theorem rec_region {Q : Exit → Act → List Frame → World → Prop} {a : Act} {cs : List Frame} {w : World} {id d d2 : Nat} {ty ty2 : TypeId} {pos pos2 : String} {af af2 : Array Edge} {ats : Array TypeId} {v : Value} {cs' : List Frame} (hv : recv cs = (v, cs')) (ha : Rel N D (fr f s) a) (hd : Nat.blt d N = true) (hd2 : Nat.blt d2 N = true)
    (h : ∀ a', Rel N D (fr f ((d2, v) :: (d, v) :: s)) a' → Q .normal a' cs' w) :
    (Code.region id #[⟨some d, .call { callee := .builtin .recover, args := #[], argTypes := ats }, ty, pos, af, none⟩, ⟨some d2, .assign (.tmp d), ty2, pos2, af2, none⟩] false).wpS P Q a cs w := by
  refine wpS_region ?_
  have h1 : (execOp a.eval ⟨some d, .call { callee := .builtin .recover, args := #[], argTypes := ats }, ty, pos, af, none⟩).run P w = .ok .recover w := by simp [go_sem]
  have ha1 := ha.put (d := d) hd v
  have ha2 := ha1.put (d := d2) hd2 v
  have h2 : ∀ w, (execOp (a.put (some d) v).eval ⟨some d2, .assign (.tmp d), ty2, pos2, af2, none⟩).run P w = .ok (.value v) w := fun w => by
    rw [ha1.eval]
    have : ev (fr f ((d, v) :: s)) (.tmp d) = v := by simp [ev, fr]
    simp [execOp, this]
  show wpOpsS P _ Q [0, 1] a cs w
  simp only [wpOpsS]
  unfold recv at hv
  simp only [List.getElem?_toArray, List.getElem?_cons_zero, List.getElem?_cons_succ, Region.wanted, if_true, h1]
  split at hv
  · rename_i x hx
    subst hv
    simp only [hx, h2, Oper.upon]
    exact h _ ha2
  · rename_i hx
    cases hv
    simp only [hx, h2, Oper.upon]
    exact h _ ha2
theorem fin_S {fn : Func} {c₀ : Frame} {cs cs' : List Frame} {R : Ending → FrameMode → World → Prop} {e : Exit} (he : (match e with | .normal | .ret => true | _ => false) = true) (hr : fn.results = #[]) (u' : FrameMode) (hcs : cs' = { c₀ with mode := u' } :: cs) (hR : ∀ w, J.p w → R (.returned (.tuple #[])) u' w) :
    Post N [] (fun e a w => bodyPostS P fn c₀ cs R e a cs' w) e f s J := fun a w ha hw => by
  have h1 : (results fn a.tmps).run P w = .ok (.tuple #[]) w := results_run (rs := []) (vs := []) (S := fr f s) (J := J) hr ha.get hw trivial
  cases e <;> first | exact ⟨ha.defers, u', hcs, _, h1, hR w hw⟩ | cases he
theorem RW.dfr {ops : Array Oper} {x : Operand} {ty : TypeId} {pos : String} {af : Array Edge} {rest : List Oper} {ats : Array TypeId} {k : FuncId} {first capt : Array Value} (hx : ev (fr f s) x = .func (.func k) first capt)
    (kk : RW P N ({ target := .fn (.func k) capt, args := first } :: D) ops Q rest f s J) : RW P N D ops Q (⟨none, .defer { callee := .value x, args := #[], argTypes := ats }, ty, pos, af, none⟩ :: rest) f s J := fun a w ha hw => by
  refine wpList_plain rfl fun K hK => ?_
  unfold Oper.wp
  rw [ha.eval]
  have : (execOp (ev (fr f s)) ⟨none, .defer { callee := .value x, args := #[], argTypes := ats }, ty, pos, af, none⟩).run P w = .ok (.defer { target := .fn (.func k) capt, args := first }) w := by
    simp [execOp, resolve, hx, Deferred.ofValue]
  rw [this]
  exact hK _ _ (kk _ w ⟨ha.size, by show _ :: a.defers = _; rw [ha.defers], ha.get⟩ hw)
theorem fin_D0 {fn : Func} {R : Ending → World → Prop} {rs : List ResultVar} {vs : List Value} (hr : fn.results = rs.toArray) (h : ResAll P J (fr f s) rs vs) {v : Value} (hv : tup vs = v) (hR : ∀ w, J.p w → R (.returned v) w) :
    Post N [] (bodyPostD P fn R) .ret f s J := fun a w ha hw => by
  have h1 := results_run hr ha.get hw h
  rw [hv] at h1
  show Leaves P fn a.tmps R a.defers .returning w
  rw [ha.defers]
  exact ⟨v, h1, hR w hw⟩
theorem leaves_one {fn : Func} {tmps : Array Value} {R : Ending → World → Prop} {k : FuncId} {capt : Array Value} {u : FrameMode} {w : World} (hO : Go.K.Own P k) (hu : u ≠ .run) (h : CallsD P k capt u w fun e u' w' => (∃ v, e = .returned v) ∧ settle u' = .returning ∧ ∃ v, (results fn tmps).run P w' = .ok v w' ∧ R (.returned v) w') :
    Leaves P fn tmps R [{ target := .fn (.func k) capt, args := #[] }] u w := by
  refine leaves_cons hu (f := k) (args := capt) ?_ (h.mono fun e u' w' hh => ?_)
  · obtain ⟨fn1, h1, h2, h3⟩ := hO
    have h2' : ¬ fn1.name = "runtime.NumGoroutine" := by simpa using h2
    have h3' : ¬ fn1.body = none := by intro e; rw [e] at h3; cases h3
    simp [invoke, callFunc, h1, h2', h3']
  · obtain ⟨⟨v, rfl⟩, h2, h3⟩ := hh
    show Leaves P fn tmps R [] (settle u') w'
    rw [h2]; exact h3
theorem AW.go {c : Code} {a : Act} {w : World} (h : AW P N D c Q f s J) (ha : Rel N D (fr f s) a) (hw : J.p w) : c.wp P Q a w := h a w ha hw
end Go.K
