/- Lemmas. Conditions: those of each theorem. -/
import Derived.WalkKit
import Derived.Deep.Quiet
import Derived.KernelRfl
import Derived.Maps.AppendAt
namespace Go.K
theorem _root_.gDD {α : Type} {l : List α} {i : Nat} {a : α} : l.getD i a = l[i]?.getD a := List.getD_eq_getElem?_getD ..
theorem _root_.bI {α β : Type} {x : Option α} {f : α → Option β} {b : β} : x.bind f = some b ↔ ∃ a, x = some a ∧ f a = some b := Option.bind_eq_some_iff
theorem _root_.mI {α β : Type} {x : Option α} {f : α → β} {b : β} : x.map f = some b ↔ ∃ a, x = some a ∧ f a = b := Option.map_eq_some_iff
theorem _root_.bS {α β : Type} {x : Option α} {f : α → Option β} {b : β} (h : x.bind f = some b) : ∃ a, x = some a ∧ f a = some b := bI.1 h
theorem _root_.mS {α β : Type} {x : Option α} {f : α → β} {b : β} (h : x.map f = some b) : ∃ a, x = some a ∧ f a = b := mI.1 h
theorem _root_.sJ {α : Type} {a b : α} (h : some a = some b) : a = b := Option.some.inj h
theorem _root_.nB {a b : Nat} (h : Nat.beq a b = true) : a = b := Nat.eq_of_beq_eq_true h
theorem _root_.lBT {a b : Nat} (h : Nat.ble a b = true) : a ≤ b := Nat.le_of_ble_eq_true h
theorem _root_.odT {p : Prop} [Decidable p] (h : decide p = true) : p := of_decide_eq_true h
theorem _root_.odF {p : Prop} [Decidable p] (h : decide p = false) : ¬ p := of_decide_eq_false h
open Go Go.RowKit

def Kd : Nat := 1
structure Bel (B : Nat) (w w' : World) : Prop extends Below B w w' where
  drawn : w.drawn * Kd ≤ w'.drawn * Kd
theorem Bel.refl (B : Nat) (w : World) : Bel B w w := ⟨Below.refl B w, Nat.le_refl _⟩
theorem Bel.drew (B : Nat) (w : World) : Bel B w w.drew := ⟨⟨rfl, rfl, rfl, Nat.le_refl _, fun _ _ => rfl⟩, Nat.mul_le_mul_right _ (Nat.le_succ _)⟩
def fr (f : Nat → Value) : List (Nat × Value) → Nat → Value
  | [], t => f t
  | (d, v) :: l, t => bif Nat.beq t d then v else fr f l t

def ev (S : Nat → Value) : Operand → Value
  | .tmp t => S t
  | .const v => v
  | .global g => .pointer (some ⟨g, 0, none⟩)
  | .func f => .func (.func f) #[] #[]

structure Rel (N : Nat) (D : List Deferred) (S : Nat → Value) (a : Act) : Prop where
  size : a.tmps.size = N
  defers : a.defers = D
  get : ∀ t, a.tmps.getD t undef = S t

structure Cls where
  p : World → Prop
  ext : ∀ w w', p w → Bel w.heap.size w w' → p w'

theorem Rel.eval {N D S a} (h : Rel N D S a) : a.eval = ev S := by
  funext x
  cases x with
  | tmp t => exact h.get t
  | _ => rfl

theorem Rel.put {N D f s a d} (h : Rel N D (fr f s) a) (hd : Nat.blt d N = true) (v : Value) : Rel N D (fr f ((d, v) :: s)) (a.put (some d) v) := by
  have hd' : d < N := by simpa [Nat.blt_eq] using hd
  refine ⟨by simp [Act.put, h.size], by simp [Act.put, h.defers], fun t => ?_⟩
  simp only [Act.put, fr]
  by_cases ht : t = d
  · subst ht
    have : t < a.tmps.size := by rw [h.size]; exact hd'
    simp [Array.getD_eq_getD_getElem?, this]
  · have hb : Nat.beq t d = false := by
      cases hh : Nat.beq t d with
      | false => rfl
      | true => exact absurd (nB hh) ht
    rw [hb]
    have := h.get t
    simp only [Array.getD_eq_getD_getElem?, Array.getElem?_setIfInBounds_ne (Ne.symm ht)] at this ⊢
    exact this

def AllIn (S : Nat → Value) : List (Nat × Value) → Prop
  | [] => True
  | (t, v) :: l => S t = v ∧ AllIn S l

theorem fr_of_allIn {S : Nat → Value} : ∀ {l : List (Nat × Value)}, AllIn S l → fr S l = S
  | [], _ => rfl
  | (t, v) :: l, h => by
    funext u
    simp only [fr]
    cases hb : Nat.beq u t with
    | true =>
      have := nB hb
      subst this
      exact h.1.symm
    | false => exact congrFun (fr_of_allIn h.2) u

def quietX (P : Program) (w : World) (v : Value) : Result Next → Prop
  | .ok (.value u) w' => u = v ∧ Bel w.heap.size w w'
  | .ok .skip w' => v = undef ∧ Bel w.heap.size w w'
  | .ok (.enter f args) w' => w' = w ∧ Calls P f args w fun e w'' => e = .returned v ∧ Bel w.heap.size w w''
  | _ => False

def Qt (P : Program) (J : Cls) (f : Nat → Value) (s : List (Nat × Value)) (o : Oper) (v : Value) : Prop :=
  ∀ w, J.p w → quietX P w v ((execOp (ev (fr f s)) o).run P w)

def effX (P : Program) (Pn : List PanicEntry → World → Prop) (R : Value → World → Prop) : Result Next → Prop
  | .ok (.value u) w' => R u w'
  | .ok .skip w' => R undef w'
  | .ok (.enter f args) w' => Calls P f args w' fun e w'' => (∃ v, e = .returned v ∧ R v w'') ∨ (∃ c, e = .panicked c ∧ Pn c w'')
  | _ => False
class PanQ (D : List Deferred) (Q : Exit → Act → World → Prop) (Pn : outParam (List PanicEntry → World → Prop)) : Prop where
  h : ∀ c a w, a.defers = D → Pn c w → Q (.panic c) a w

def gv (b want : Bool) (v : Value) : Value := bif b == want then v else undef
theorem gv_pos {b want : Bool} {v : Value} (h : b = want) : gv b want v = v := by subst h; simp [gv]
theorem gv_neg {b want : Bool} {v : Value} (h : b ≠ want) : gv b want v = undef := by
  cases b <;> cases want <;> first | rfl | exact absurd rfl h

section
variable {P : Program} {Pn : List PanicEntry → World → Prop} {N : Nat} {D : List Deferred} {ops : Array Oper} {Q : Exit → Act → World → Prop} {f : Nat → Value} {s : List (Nat × Value)} {J J0 : Cls}

theorem upon_quiet {o : Oper} {a : Act} {w : World} {v : Value} {K : Act → World → Prop} (hq : quietX P w v ((execOp a.eval o).run P w)) (k : ∀ w', Bel w.heap.size w w' → K (a.put o.dst v) w') :
    o.wp P a w K Q := by
  unfold Oper.wp
  generalize (execOp a.eval o).run P w = r at hq
  cases r with
  | ok n w' =>
    cases n <;> simp only [quietX] at hq <;> simp only [Oper.upon]
    case value u => obtain ⟨rfl, hb⟩ := hq; exact k _ hb
    case skip => obtain ⟨rfl, hb⟩ := hq; exact k _ hb
    case enter g args =>
      obtain ⟨rfl, hc⟩ := hq
      exact hc.mono fun e w'' ⟨he, hb⟩ => by subst he; exact k _ hb
  | halt x w' => simp only [quietX] at hq

theorem upon_eff {o : Oper} {a : Act} {w : World} {R : Value → World → Prop} {K : Act → World → Prop} (hq : effX P Pn R ((execOp a.eval o).run P w)) (k : ∀ v w', R v w' → K (a.put o.dst v) w') (kp : ∀ c w', Pn c w' → Q (.panic c) a w') :
    o.wp P a w K Q := by
  unfold Oper.wp
  generalize (execOp a.eval o).run P w = r at hq
  cases r with
  | ok n w' =>
    cases n <;> simp only [effX] at hq <;> simp only [Oper.upon]
    case value u => exact k _ _ hq
    case skip => exact k _ _ hq
    case enter g args =>
      refine hq.mono fun e w'' hh => ?_
      rcases hh with ⟨v, he, hb⟩ | ⟨c, he, hb⟩
      · subst he; exact k _ _ hb
      · subst he; exact kp _ _ hb
  | halt x w' => simp only [effX] at hq

def Post (N : Nat) (D : List Deferred) (Q : Exit → Act → World → Prop) (e : Exit) (f : Nat → Value) (s : List (Nat × Value)) (J : Cls) : Prop :=
  ∀ a w, Rel N D (fr f s) a → J.p w → Q e a w

def RW (P : Program) (N : Nat) (D : List Deferred) (ops : Array Oper) (Q : Exit → Act → World → Prop) (l : List Oper) (f : Nat → Value) (s : List (Nat × Value)) (J : Cls) : Prop :=
  ∀ a w, Rel N D (fr f s) a → J.p w → wpList P ops Q l a w

theorem RW.nil (h : Post N D Q .normal f s J) : RW P N D ops Q [] f s J := fun a w ha hw => h a w ha hw

theorem RW.q {d : Nat} {op : Op} {ty : TypeId} {pos : String} {af : Array Edge} {rest : List Oper} {v : Value}
    (hd : Nat.blt d N = true) (hq : Qt P J f s ⟨some d, op, ty, pos, af, none⟩ v) (k : RW P N D ops Q rest f ((d, v) :: s) J) :
    RW P N D ops Q (⟨some d, op, ty, pos, af, none⟩ :: rest) f s J := fun a w ha hw => by
  refine wpList_plain rfl fun K hK => upon_quiet (v := v) ?_ fun w' hb => hK _ _ (k _ w' (ha.put hd v) (J.ext w w' hw hb))
  rw [ha.eval]; exact hq w hw

theorem yielded_of {a : Act} {j gd : Nat} {b : Bool} (ha : Rel N D (fr f s) a) (hy : (ops[j]?).bind (·.dst) = some gd) (hb : fr f s gd = .bool b) : yielded ops a.tmps j = some b := by
  have h := ha.get gd
  rw [hb] at h
  unfold yielded
  rw [hy]
  simp only [Option.bind_some]
  cases hg : a.tmps[gd]? with
  | none => simp [Array.getD_eq_getD_getElem?, hg, undef] at h
  | some x => simp [Array.getD_eq_getD_getElem?, hg] at h; subst h; rfl

theorem RW.g {d j gd : Nat} {want b : Bool} {op : Op} {ty : TypeId} {pos : String} {af : Array Edge} {rest : List Oper} {v : Value}
    (hd : Nat.blt d N = true) (hy : (ops[j]?).bind (·.dst) = some gd) (hb : fr f s gd = .bool b)
    (hq : b = want → Qt P J f s ⟨some d, op, ty, pos, af, some (j, want)⟩ v) (k : RW P N D ops Q rest f ((d, gv b want v) :: s) J) :
    RW P N D ops Q (⟨some d, op, ty, pos, af, some (j, want)⟩ :: rest) f s J := fun a w ha hw => by
  have hyy := yielded_of (ops := ops) ha hy hb
  have hwant : Region.wanted ⟨some d, op, ty, pos, af, some (j, want)⟩ (yielded ops a.tmps) = (b == want) := by simp [Region.wanted, hyy]
  refine wpList_step fun K hK => ?_
  rw [hwant]
  by_cases hbw : b = want
  · rw [gv_pos hbw] at k
    rw [if_pos (by simp [hbw])]
    refine upon_quiet (v := v) ?_ fun w' hb' => hK _ _ (k _ w' (ha.put hd v) (J.ext w w' hw hb'))
    rw [ha.eval]; exact hq hbw w hw
  · rw [gv_neg hbw] at k
    rw [if_neg (by simp [hbw])]
    exact hK _ _ (k _ w (ha.put hd _) hw)

theorem yielded_undef {a : Act} {j gd : Nat} (ha : Rel N D (fr f s) a) (hy : (ops[j]?).bind (·.dst) = some gd) (hb : fr f s gd = undef) : yielded ops a.tmps j = none := by
  have h := ha.get gd
  rw [hb] at h
  unfold yielded
  rw [hy]
  simp only [Option.bind_some]
  cases hg : a.tmps[gd]? with
  | none => rfl
  | some x => simp [Array.getD_eq_getD_getElem?, hg] at h; subst h; rfl

theorem RW.g2 {d j gd : Nat} {w1 want b1 b2 : Bool} {op : Op} {ty : TypeId} {pos : String} {af : Array Edge} {rest : List Oper} {v : Value}
    (hd : Nat.blt d N = true) (hy : (ops[j]?).bind (·.dst) = some gd) (hb : fr f s gd = gv b1 w1 (.bool b2))
    (hq : b1 = w1 → b2 = want → Qt P J f s ⟨some d, op, ty, pos, af, some (j, want)⟩ v) (k : RW P N D ops Q rest f ((d, gv b1 w1 (gv b2 want v)) :: s) J) :
    RW P N D ops Q (⟨some d, op, ty, pos, af, some (j, want)⟩ :: rest) f s J := by
  by_cases h1 : b1 = w1
  · rw [gv_pos h1] at hb k
    exact RW.g hd hy hb (hq h1) k
  · rw [gv_neg h1] at hb k
    intro a w ha hw
    have hyy := yielded_undef (ops := ops) ha hy hb
    refine wpList_step fun K hK => ?_
    rw [if_neg (by simp [Region.wanted, hyy])]
    exact hK _ _ (k _ w (ha.put hd _) hw)

theorem RW.gl {d j gd : Nat} {want : Bool} {op : Op} {ty : TypeId} {pos : String} {af : Array Edge} {rest : List Oper} {v : Value}
    (hd : Nat.blt d N = true) (hy : (ops[j]?).bind (·.dst) = some gd) (hb : fr f s gd = .bool want)
    (hq : Qt P J f s ⟨some d, op, ty, pos, af, some (j, want)⟩ v) (k : RW P N D ops Q rest f ((d, v) :: s) J) :
    RW P N D ops Q (⟨some d, op, ty, pos, af, some (j, want)⟩ :: rest) f s J :=
  RW.g hd hy hb (fun _ => hq) (by rw [gv_pos rfl]; exact k)
theorem RW.eff [hQ : PanQ D Q Pn] {X : Type} (V : X → Value) (J' : X → Cls) {d : Nat} {op : Op} {ty : TypeId} {pos : String} {af : Array Edge} {rest : List Oper}
    (hd : Nat.blt d N = true) (h : ∀ w, J.p w → effX P Pn (fun v w' => ∃ x, v = V x ∧ (J' x).p w') ((execOp (ev (fr f s)) ⟨some d, op, ty, pos, af, none⟩).run P w))
    (k : ∀ x, RW P N D ops Q rest f ((d, V x) :: s) (J' x)) :
    RW P N D ops Q (⟨some d, op, ty, pos, af, none⟩ :: rest) f s J := fun a w ha hw => by
  refine wpList_plain rfl fun K hK => upon_eff (R := fun v w' => ∃ x, v = V x ∧ (J' x).p w') ?_ (fun v w' ⟨x, hv, hw'⟩ => ?_) (fun c w' hc => hQ.h c a w' ha.defers hc)
  · rw [ha.eval]; exact h w hw
  · subst hv; exact hK _ _ (k x _ w' (ha.put hd _) hw')

theorem RW.effn [hQ : PanQ D Q Pn] {J' : Cls} {op : Op} {ty : TypeId} {pos : String} {af : Array Edge} {rest : List Oper}
    (h : ∀ w, J.p w → effX P Pn (fun _ w' => J'.p w') ((execOp (ev (fr f s)) ⟨none, op, ty, pos, af, none⟩).run P w))
    (k : RW P N D ops Q rest f s J') :
    RW P N D ops Q (⟨none, op, ty, pos, af, none⟩ :: rest) f s J := fun a w ha hw => by
  refine wpList_plain rfl fun K hK => upon_eff (R := fun _ w' => J'.p w') ?_ (fun v w' hw' => ?_) (fun c w' hc => hQ.h c a w' ha.defers hc)
  · rw [ha.eval]; exact h w hw
  · exact hK _ _ (k _ w' ha hw')

theorem RW.pan [hQ : PanQ D Q Pn] {x : Operand} {ty : TypeId} {pos : String} {af : Array Edge} {rest : List Oper} {v : Value} {T : TypeId} (hx : ev (fr f s) x = .iface T v) (h : ∀ w, J.p w → Pn [⟨.iface T v, false, false⟩] w) :
    RW P N D ops Q (⟨none, .panic x, ty, pos, af, none⟩ :: rest) f s J := fun a w ha hw => by
  refine wpList_plain rfl fun K hK => ?_
  unfold Oper.wp
  rw [ha.eval]
  have : (execOp (ev (fr f s)) ⟨none, .panic x, ty, pos, af, none⟩).run P w = .halt (.panic (.iface T v)) w := by
    simp [execOp, hx, go_sem, Instr.panic]
  rw [this]
  exact hQ.h _ a w ha.defers (h w hw)
theorem RW.wk {l : List Oper} {J' : Cls} (h : ∀ w, J.p w → J'.p w) (k : RW P N D ops Q l f s J') : RW P N D ops Q l f s J := fun a w ha hw => k a w ha (h w hw)

end
end Go.K

namespace Go.K
open Go Go.RowKit
section
variable {P : Program} {Pn : List PanicEntry → World → Prop} {N : Nat} {D : List Deferred} {ops : Array Oper} {md : Region.Mode} {Q : Exit → Act → World → Prop} {f : Nat → Value} {s : List (Nat × Value)} {J J0 : Cls}

/-! ### regions that draw their order -/
def YieldsX (P : Program) (ops : Array Oper) (J0 : Cls) (o : Oper) (v : Value) (a : Act) : Prop :=
  (Region.wanted o (yielded ops a.tmps) = true ∧ ∀ w, J0.p w → quietX P w v ((execOp a.eval o).run P w)) ∨
  (Region.wanted o (yielded ops a.tmps) = false ∧ v = undef)

theorem YieldsX.of_same {o : Oper} {v : Value} {a a' : Act} (hy : YieldsX P ops J0 o v a) (he : execOp a'.eval o = execOp a.eval o)
    (hw : Region.wanted o (yielded ops a'.tmps) = Region.wanted o (yielded ops a.tmps)) : YieldsX P ops J0 o v a' := by
  unfold YieldsX at *
  rw [he, hw]
  exact hy

def opX (P : Program) (Pn : List PanicEntry → World → Prop) (ops : Array Oper) (o : Oper) (K : Act → Cls → Prop) (a : Act) (J : Cls) : Prop :=
  if Region.wanted o (yielded ops a.tmps) then ∀ w, J.p w → effX P Pn (fun v w' => ∃ J' : Cls, J'.p w' ∧ K (a.put o.dst v) J') ((execOp a.eval o).run P w)
  else K (a.put o.dst undef) J

theorem effX_mono {R R' : Value → World → Prop} (h : ∀ v w, R v w → R' v w) {r : Result Next} (hr : effX P Pn R r) : effX P Pn R' r := by
  cases r with
  | ok n w' =>
    cases n <;> simp only [effX] at hr ⊢
    case value u => exact h _ _ hr
    case skip => exact h _ _ hr
    case enter g args => exact hr.mono fun e w'' hh => hh.imp (fun ⟨v, he, hb⟩ => ⟨v, he, h _ _ hb⟩) id
  | halt x w' => simp only [effX] at hr

theorem effX_of_quietX {w : World} {v : Value} {r : Result Next} (hq : quietX P w v r) : effX P Pn (fun u w' => u = v ∧ Bel w.heap.size w w') r := by
  cases r with
  | ok n w' =>
    cases n <;> simp only [quietX] at hq <;> simp only [effX]
    case value u => exact hq
    case skip => exact ⟨hq.1.symm, hq.2⟩
    case enter g args => obtain ⟨rfl, hc⟩ := hq; exact hc.mono fun e w'' ⟨he, hb⟩ => .inl ⟨v, he, rfl, hb⟩
  | halt x w' => simp only [quietX] at hq

theorem opX_mono {o : Oper} {K K' : Act → Cls → Prop} {a : Act} (h : ∀ a J, K a J → K' a J) (hh : opX P Pn ops o K a J) : opX P Pn ops o K' a J := by
  unfold opX at *
  split
  · rename_i hw
    rw [if_pos hw] at hh
    exact fun w hJ => effX_mono (fun v w' ⟨J', hp, hk⟩ => ⟨J', hp, h _ _ hk⟩) (hh w hJ)
  · rename_i hw
    rw [if_neg hw] at hh
    exact h _ _ hh

theorem YieldsX.opX {o : Oper} {v : Value} {a : Act} {K : Act → Cls → Prop} (hy : YieldsX P ops J0 o v a) (hJ : ∀ w, J.p w → J0.p w) (h : K (a.put o.dst v) J) : opX P Pn ops o K a J := by
  unfold Go.K.opX
  rcases hy with ⟨hw, hv⟩ | ⟨hw, rfl⟩
  · rw [if_pos hw]
    exact fun w hp => effX_mono (fun u w' ⟨e, hb⟩ => by subst e; exact ⟨J, J.ext _ _ hp hb, h⟩) (effX_of_quietX (hv w (hJ w hp)))
  · rw [if_neg (by simp [hw])]; exact h

theorem opX_put {oi oj : Oper} {v : Value} (hap : oi.apart ops oj = true)
    (hsi : ∀ cs b, oi.op ≠ .select cs b) (hsj : ∀ cs b, oj.op ≠ .select cs b) {K : Act → Cls → Prop} {a : Act}
    (hy : YieldsX P ops J0 oi v a) (h : opX P Pn ops oj K (a.put oi.dst v) J) :
    opX P Pn ops oj (fun a' J' => YieldsX P ops J0 oi v a' ∧ K (a'.put oi.dst v) J') a J := by
  obtain ⟨h1, h2, h3⟩ := Oper.apart_spec hap
  have keep : ∀ (a : Act), YieldsX P ops J0 oi v a → ∀ u, YieldsX P ops J0 oi v (a.put oj.dst u) := fun a hy u =>
    hy.of_same (execOp_put oi hsi a oj.dst u h3) (wanted_put oi a oj.dst u h3)
  unfold opX at *
  rw [wanted_put oj a oi.dst v h1] at h
  split
  · rename_i hw
    rw [if_pos hw] at h
    intro w hp
    have h' := h w hp
    rw [execOp_put oj hsj a oi.dst v h1] at h'
    exact effX_mono (fun u w' ⟨J', hp', hk⟩ => ⟨J', hp', keep a hy u, by rw [← Act.put_comm a v u h2]; exact hk⟩) h'
  · rename_i hw
    rw [if_neg hw] at h
    exact ⟨keep a hy _, by rw [← Act.put_comm a v undef h2]; exact h⟩

def wpAnyX (P : Program) (Pn : List PanicEntry → World → Prop) (md : Region.Mode) (ops : Array Oper) (J0 : Cls) (last : Nat) (Q : Act → World → Prop) : Nat → Array Bool → Act → Cls → Prop
  | 0, listed, a, J => Region.ready md ops listed = [] ∧ ∀ w, J.p w → Q a w
  | fuel + 1, listed, a, J => (Region.ready md ops listed = [] → ∀ w, J.p w → Q a w) ∧
    ∀ i ∈ Region.ready md ops listed, ∃ o, ops[i]? = some o ∧ opX P Pn ops o (fun a' J' => (i ≠ last → ∀ w, J'.p w → J0.p w) ∧ wpAnyX P Pn md ops J0 last Q fuel (listed.setIfInBounds i true) a' J') a J

theorem put_defers (a : Act) (d : Option Nat) (v : Value) : (a.put d v).defers = a.defers := by cases d <;> rfl
theorem wpAny_of_X [hP : PanQ D Q Pn] {last : Nat} {Q' : Act → World → Prop} (hQ : ∀ a w, Q' a w → Q .normal a w) : ∀ (fuel : Nat) (listed : Array Bool) (a : Act) (J : Cls), a.defers = D → wpAnyX P Pn md ops J0 last Q' fuel listed a J → ∀ w, J.p w → wpAny P md ops Q fuel listed a w
  | 0, _, _, _, _, h, w, hw => ⟨h.1, hQ _ _ (h.2 w hw)⟩
  | fuel + 1, _, a, J, hd, h, w, hw => ⟨fun h0 => hQ _ _ (h.1 h0 w hw), fun i hi => by
      obtain ⟨o, ho, hop⟩ := h.2 i hi
      unfold wpOp
      simp only [ho]
      unfold opX at hop
      split
      · rename_i hwt
        rw [if_pos hwt] at hop
        exact .inl (upon_eff (hop w hw) (fun v w' ⟨J', hp, hk⟩ => wpAny_of_X hQ fuel _ _ J' ((put_defers ..).trans hd) hk.2 w' hp) (fun c w' hc => hP.h c a w' hd hc))
      · rename_i hwt
        rw [if_neg hwt] at hop
        exact wpAny_of_X hQ fuel _ _ J ((put_defers ..).trans hd) hop.2 w hw⟩

def waitsAll (md : Region.Mode) (ops : Array Oper) (last : Nat) : Bool :=
  match ops[last]? with
  | none => true
  | some o => (List.range ops.size).all fun i => i == last || o.after.any fun e => Region.binds md e && e.on == i

theorem not_ready_last {last i : Nat} {listed : Array Bool} (hl : waitsAll md ops last = true) (hi : i ∈ Region.ready md ops listed) (hr : last ∈ Region.ready md ops listed) : i = last := by
  obtain ⟨hun, oi, hoi, _⟩ := mem_ready.1 hi
  obtain ⟨_, ol, hol, hall⟩ := mem_ready.1 hr
  unfold waitsAll at hl
  rw [hol] at hl
  have hil : i < ops.size := (Array.getElem?_eq_some_iff.1 hoi).1
  have h1 := List.all_eq_true.1 hl i (List.mem_range.2 hil)
  rcases Bool.or_eq_true_iff.1 h1 with h2 | h2
  · exact by simpa using h2
  · obtain ⟨e, he, hb⟩ := Array.any_eq_true'.1 h2
    simp only [Bool.and_eq_true, beq_iff_eq] at hb
    have h3 := hall e he hb.1
    rw [hb.2] at h3
    rcases Nat.lt_or_ge i listed.size with h' | h'
    · simp [h'] at hun h3; rw [hun] at h3; cases h3
    · simp [Array.getElem?_eq_none h'] at h3

theorem wpAnyX_first {last : Nat} {Q' : Act → World → Prop} {i : Nat} {oi : Oper} {v : Value} (hl : waitsAll md ops last = true) (hi : ops[i]? = some oi) (hsel : ∀ (j : Nat) (o : Oper) cs b, ops[j]? = some o → o.op ≠ .select cs b) :
    ∀ (fuel : Nat) (listed : Array Bool) (a : Act) (J : Cls), (∀ w, J.p w → J0.p w) →
      (∀ j oj, ops[j]? = some oj → j ≠ i → listed.getD j true = false → (∀ e ∈ oj.after, Region.binds md e = true → e.on ≠ i) → oi.apart ops oj = true) →
      i ∈ Region.ready md ops listed → YieldsX P ops J0 oi v a →
      wpAnyX P Pn md ops J0 last Q' fuel (listed.setIfInBounds i true) (a.put oi.dst v) J → wpAnyX P Pn md ops J0 last Q' (fuel + 1) listed a J := by
  intro fuel
  induction fuel with
  | zero =>
    intro listed a J hJ _ hr hy H
    refine ⟨fun h => (by rw [h] at hr; cases hr), fun j hj => ?_⟩
    by_cases hji : j = i
    · subst hji; exact ⟨oi, hi, hy.opX hJ ⟨fun _ => hJ, H⟩⟩
    · have := ready_mono hj hji
      rw [H.1] at this
      cases this
  | succ fuel ih =>
    intro listed a J hJ hfree hr hy H
    refine ⟨fun h => (by rw [h] at hr; cases hr), fun j hj => ?_⟩
    by_cases hji : j = i
    · subst hji; exact ⟨oi, hi, hy.opX hJ ⟨fun _ => hJ, H⟩⟩
    · obtain ⟨oj, hoj, h1⟩ := H.2 j (ready_mono hj hji)
      have hjl : j ≠ last := fun e => hji ((not_ready_last hl hr (e ▸ hj)).trans e.symm).symm
      obtain ⟨hjun, oj', hoj', hall⟩ := mem_ready.1 hj
      obtain rfl : oj' = oj := sJ (hoj'.symm.trans hoj)
      have hnot : ∀ e ∈ oj'.after, Region.binds md e = true → e.on ≠ i := fun e he hb heq => by
        have h1 := hall e he hb
        have h0 := (mem_ready.1 hr).1
        rw [heq] at h1
        rcases Nat.lt_or_ge i listed.size with h' | h'
        · simp [h'] at h0 h1; rw [h0] at h1; cases h1
        · simp [Array.getElem?_eq_none h'] at h1
      have h2 := opX_put (hfree j oj' hoj hji hjun hnot) (fun cs b => hsel i oi cs b hi) (fun cs b => hsel j oj' cs b hoj) hy h1
      have hfree' : ∀ k ok, ops[k]? = some ok → k ≠ i → (listed.setIfInBounds j true).getD k true = false →
          (∀ e ∈ ok.after, Region.binds md e = true → e.on ≠ i) → oi.apart ops ok = true := fun k ok hk hki hun hno => by
        refine hfree k ok hk hki ?_ hno
        by_cases hjk : j = k
        · subst hjk; exact hjun
        · rw [getD_set_ne true hjk] at hun; exact hun
      refine ⟨oj', hoj, opX_mono (fun a' J' h3 => ⟨fun _ => h3.2.1 hjl, ih (listed.setIfInBounds j true) a' J' (h3.2.1 hjl) hfree' (ready_mono hr (Ne.symm hji)) h3.1 ?_⟩) h2⟩
      rw [Array.setIfInBounds_comm _ _ hji]
      exact h3.2.2

inductive Tg where
  | q
  | e
  | p
def Tg.lastE : List Tg → Bool
  | [] => false
  | [.e] => true
  | _ :: l => lastE l
theorem Tg.lastE_cons {t : Tg} {l : List Tg} (h : Tg.lastE l = true) : Tg.lastE (t :: l) = true := by
  cases l with
  | nil => cases h
  | cons a l => cases t <;> exact h
def HW (P : Program) (Pn : List PanicEntry → World → Prop) (ops : Array Oper) (J0 : Cls) (Q : Act → World → Prop) : List Tg → List Oper → Act → Cls → Prop
  | .q :: tg, o :: r, a, J => (∀ w, J.p w → J0.p w) ∧ ∃ v, YieldsX P ops J0 o v a ∧ HW P Pn ops J0 Q tg r (a.put o.dst v) J
  | .e :: tg, o :: r, a, J => opX P Pn ops o (fun a' J' => (r ≠ [] → ∀ w, J'.p w → J0.p w) ∧ HW P Pn ops J0 Q tg r a' J') a J
  | .p :: _ :: tg, o1 :: o2 :: r, a, J =>
    opX P Pn ops o1 (fun a' J' => (∀ w, J'.p w → J0.p w) ∧ opX P Pn ops o2 (fun a'' J'' => (∀ w, J''.p w → J0.p w) ∧ HW P Pn ops J0 Q tg r a'' J'') a' J') a J ∧
    opX P Pn ops o2 (fun a' J' => (∀ w, J'.p w → J0.p w) ∧ opX P Pn ops o1 (fun a'' J'' => (∀ w, J''.p w → J0.p w) ∧ HW P Pn ops J0 Q tg r a'' J'') a' J') a J
  | [.p], _ :: _, _, _ => False
  | .p :: _ :: _, [_], _, _ => False
  | [], _ :: _, _, _ => False
  | _, [], a, J => ∀ w, J.p w → Q a w

def lexT (md : Region.Mode) (ops : Array Oper) : List Tg → List Nat → Array Bool → Bool
  | _, [], listed => (Region.ready md ops listed).isEmpty
  | .q :: tg, k :: r, listed => (Region.ready md ops listed).contains k && Region.free md ops listed k && lexT md ops tg r (listed.setIfInBounds k true)
  | .e :: tg, k :: r, listed => (Region.ready md ops listed) == [k] && lexT md ops tg r (listed.setIfInBounds k true)
  | .p :: _ :: tg, k :: k2 :: r, listed => (Region.ready md ops listed) == [k, k2] && (Region.ready md ops (listed.setIfInBounds k true)) == [k2] && (Region.ready md ops (listed.setIfInBounds k2 true)) == [k] && Nat.ble (k + 1) k2 &&
      lexT md ops tg r ((listed.setIfInBounds k true).setIfInBounds k2 true)
  | [.p], _ :: _, _ => false
  | .p :: _ :: _, [_], _ => false
  | [], _ :: _, _ => false
def pickOps (l : List Oper) : List Nat → List Oper
  | [] => []
  | i :: is => match l[i]? with
    | some o => o :: pickOps l is
    | none => []
def Along (ops : Array Oper) : List Nat → List Oper → Prop
  | [], [] => True
  | i :: is, o :: l => ops[i]? = some o ∧ Along ops is l
  | _, _ => False
theorem along_pick {l : List Oper} : ∀ (ord : List Nat), (ord.all fun i => Nat.blt i l.length) = true → Along l.toArray ord (pickOps l ord)
  | [], _ => trivial
  | i :: is, h => by
    rw [List.all_cons, Bool.and_eq_true] at h
    have hi : i < l.length := by simpa using h.1
    unfold pickOps
    rw [List.getElem?_eq_getElem hi]
    exact ⟨by simp [hi], along_pick is h.2⟩
def lastOf (ops : Array Oper) (tg : List Tg) : Nat := if Tg.lastE tg then ops.size - 1 else ops.size
def endsIn (tg : List Tg) (ord : List Nat) (n : Nat) : Bool := !Tg.lastE tg || ord.getLast? == some (n - 1)
def lexTB (md : Region.Mode) (ops : Array Oper) (tg : List Tg) (ord : List Nat) : Bool := Region.noSelect ops && waitsAll md ops (lastOf ops tg) && tg.length == ops.size && ord.length == ops.size && (ord.all fun i => Nat.blt i ops.size) && endsIn tg ord ops.size && lexT md ops tg ord (Array.replicate ops.size false)

theorem wpAnyX_lex {last : Nat} {Q' : Act → World → Prop} (hs : Region.noSelect ops = true) (hw : waitsAll md ops last = true) : ∀ (tg : List Tg) (l : List Oper) (ord : List Nat) (listed : Array Bool) (a : Act) (J : Cls), Along ops ord l →
    tg.length = l.length → (Tg.lastE tg = true → ord.getLast? = some last) →
    lexT md ops tg ord listed = true → HW P Pn ops J0 Q' tg l a J → wpAnyX P Pn md ops J0 last Q' l.length listed a J
  | tg, [], [], listed, a, J, _, _, _, hB, h => by
    have h' : ∀ w, J.p w → Q' a w := by cases tg with | nil => exact h | cons b t => cases b <;> cases t <;> exact h
    exact ⟨by cases tg with | nil => simpa [lexT] using hB | cons b t => cases b <;> cases t <;> simpa [lexT] using hB, h'⟩
  | .q :: tg, o :: l, k :: r, listed, a, J, hl, htl, hlast, hB, h => by
    have h0 : ops[k]? = some o := hl.1
    simp only [lexT, Bool.and_eq_true] at hB
    obtain ⟨⟨hr, hf⟩, hB'⟩ := hB
    obtain ⟨hJ, v, hy, hK⟩ := h
    refine wpAnyX_first hw h0 (Region.noSelect_spec hs) l.length listed a J hJ (Region.free_spec h0 hf) (by simpa using hr) hy
      (wpAnyX_lex hs hw tg l r _ _ J hl.2 (by simpa using htl) (fun hg => ?_) hB' hK)
    have := hlast (Tg.lastE_cons hg)
    cases r with
    | nil =>
      cases l with
      | nil => have : tg = [] := by cases tg with | nil => rfl | cons b t => simp at htl
               subst this; cases hg
      | cons x y => exact absurd hl.2 (by simp [Along])
    | cons x y => rw [List.getLast?_cons_cons] at this; exact this
  | .e :: tg, o :: l, k :: r, listed, a, J, hl, htl, hlast, hB, h => by
    have h0 : ops[k]? = some o := hl.1
    simp only [lexT, Bool.and_eq_true] at hB
    obtain ⟨hr, hB'⟩ := hB
    have hr' : Region.ready md ops listed = [k] := by simpa using hr
    have hlast' : Tg.lastE tg = true → r.getLast? = some last := fun hg => by
      have := hlast (Tg.lastE_cons hg)
      cases r with
      | nil =>
        cases l with
        | nil => have : tg = [] := by cases tg with | nil => rfl | cons b t => simp at htl
                 subst this; cases hg
        | cons x y => exact absurd hl.2 (by simp [Along])
      | cons x y => rw [List.getLast?_cons_cons] at this; exact this
    show wpAnyX P Pn md ops J0 last Q' (l.length + 1) listed a J
    refine ⟨fun he => by (rw [hr'] at he; cases he), fun i hi => ?_⟩
    rw [hr'] at hi
    obtain rfl : i = k := by simpa using hi
    refine ⟨o, h0, opX_mono (fun a' J' h3 => ⟨fun hne => h3.1 (fun hl0 => ?_), wpAnyX_lex hs hw tg l r _ a' J' hl.2 (by simpa using htl) hlast' hB' h3.2⟩) h⟩
    subst hl0
    have ht0 : tg = [] := by cases tg with | nil => rfl | cons b t => simp at htl
    subst ht0
    have hr0 : r = [] := by cases r with | nil => rfl | cons x y => exact absurd hl.2 (by simp [Along])
    subst hr0
    exact hne (by have := hlast rfl; simpa using this)
  | .p :: t2 :: tg, o1 :: o2 :: l, k :: k2 :: r, listed, a, J, hl, htl, hlast, hB, h => by
    have h0 : ops[k]? = some o1 := hl.1
    have h1 : ops[k2]? = some o2 := hl.2.1
    simp only [lexT, Bool.and_eq_true, beq_iff_eq] at hB
    obtain ⟨⟨⟨⟨hr, hr1⟩, hr2⟩, hlt⟩, hB'⟩ := hB
    have hne : k ≠ k2 := by have := Nat.le_of_ble_eq_true hlt; omega
    have htl' : tg.length = l.length := by simpa using htl
    have hlast' : Tg.lastE tg = true → r.getLast? = some last := fun hg => by
      have := hlast (Tg.lastE_cons (Tg.lastE_cons hg))
      cases r with
      | nil =>
        cases l with
        | nil => have : tg = [] := by cases tg with | nil => rfl | cons b t => simp at htl'
                 subst this; cases hg
        | cons x y => exact absurd hl.2.2 (by simp [Along])
      | cons x y => rw [List.getLast?_cons_cons, List.getLast?_cons_cons] at this; exact this
    show wpAnyX P Pn md ops J0 last Q' (l.length + 1 + 1) listed a J
    refine ⟨fun he => by (rw [hr] at he; cases he), fun i hi => ?_⟩
    rw [hr] at hi
    rcases List.mem_cons.1 hi with rfl | hi
    · refine ⟨o1, h0, opX_mono (fun a' J' h3 => ⟨fun _ => h3.1, fun he => by (rw [hr1] at he; cases he), fun i' hi' => ?_⟩) h.1⟩
      rw [hr1] at hi'
      obtain rfl : i' = k2 := by simpa using hi'
      exact ⟨o2, h1, opX_mono (fun a'' J'' h4 => ⟨fun _ => h4.1, wpAnyX_lex hs hw tg l r _ a'' J'' hl.2.2 htl' hlast' hB' h4.2⟩) h3.2⟩
    · obtain rfl : i = k2 := by simpa using hi
      refine ⟨o2, h1, opX_mono (fun a' J' h3 => ⟨fun _ => h3.1, fun he => by (rw [hr2] at he; cases he), fun i' hi' => ?_⟩) h.2⟩
      rw [hr2] at hi'
      obtain rfl : i' = k := by simpa using hi'
      refine ⟨o1, h0, opX_mono (fun a'' J'' h4 => ⟨fun _ => h4.1, ?_⟩) h3.2⟩
      rw [Array.setIfInBounds_comm _ _ (Ne.symm hne)]
      exact wpAnyX_lex hs hw tg l r _ a'' J'' hl.2.2 htl' hlast' hB' h4.2
  | [.p], o :: l, k :: r, listed, a, J, hl, htl, hlast, hB, h => by simp [lexT] at hB
  | .p :: t2 :: tg, [o], k :: r, listed, a, J, hl, htl, hlast, hB, h => by simp at htl
  | .p :: t2 :: tg, o1 :: o2 :: l, [k], listed, a, J, hl, htl, hlast, hB, h => by simp [lexT] at hB
  | [], o :: l, k :: r, listed, a, J, hl, htl, hlast, hB, h => by simp [lexT] at hB
  | _, [], k :: r, _, _, _, hl, _, _, _, _ => by simp [Along] at hl
  | _, o :: l, [], _, _, _, hl, _, _, _, _ => by simp [Along] at hl

def DW (P : Program) (Pn : List PanicEntry → World → Prop) (N : Nat) (D : List Deferred) (ops : Array Oper) (J0 : Cls) (Q : Exit → Act → World → Prop) (tg : List Tg) (l : List Oper) (f : Nat → Value) (s : List (Nat × Value)) (J : Cls) : Prop :=
  ∀ a, Rel N D (fr f s) a → HW P Pn ops J0 (Q .normal) tg l a J

theorem DW.nil (h : Post N D Q .normal f s J) : DW P Pn N D ops J0 Q [] [] f s J := fun a ha w hw => h a w ha hw

theorem DW.q {d : Nat} {op : Op} {ty : TypeId} {pos : String} {af : Array Edge} {tg : List Tg} {rest : List Oper} {v : Value}
    (hJ : ∀ w, J.p w → J0.p w) (hd : Nat.blt d N = true) (hq : Qt P J0 f s ⟨some d, op, ty, pos, af, none⟩ v) (k : DW P Pn N D ops J0 Q tg rest f ((d, v) :: s) J) :
    DW P Pn N D ops J0 Q (.q :: tg) (⟨some d, op, ty, pos, af, none⟩ :: rest) f s J := fun a ha =>
  ⟨hJ, v, .inl ⟨rfl, fun w hw => by rw [ha.eval]; exact hq w hw⟩, k _ (ha.put hd v)⟩

theorem DW.g {d j gd : Nat} {want b : Bool} {op : Op} {ty : TypeId} {pos : String} {af : Array Edge} {tg : List Tg} {rest : List Oper} {v : Value}
    (hJ : ∀ w, J.p w → J0.p w) (hd : Nat.blt d N = true) (hy : (ops[j]?).bind (·.dst) = some gd) (hb : fr f s gd = .bool b)
    (hq : b = want → Qt P J0 f s ⟨some d, op, ty, pos, af, some (j, want)⟩ v) (k : DW P Pn N D ops J0 Q tg rest f ((d, gv b want v) :: s) J) :
    DW P Pn N D ops J0 Q (.q :: tg) (⟨some d, op, ty, pos, af, some (j, want)⟩ :: rest) f s J := fun a ha => by
  have hyy := yielded_of (ops := ops) ha hy hb
  have hwant : Region.wanted ⟨some d, op, ty, pos, af, some (j, want)⟩ (yielded ops a.tmps) = (b == want) := by simp [Region.wanted, hyy]
  refine ⟨hJ, gv b want v, ?_, k _ (ha.put hd _)⟩
  by_cases hbw : b = want
  · exact .inl ⟨by rw [hwant]; simp [hbw], fun w hw => by rw [ha.eval, gv_pos hbw]; exact hq hbw w hw⟩
  · exact .inr ⟨by rw [hwant]; simp [hbw], gv_neg hbw⟩

theorem DW.g2 {d j gd : Nat} {w1 want b1 b2 : Bool} {op : Op} {ty : TypeId} {pos : String} {af : Array Edge} {tg : List Tg} {rest : List Oper} {v : Value}
    (hJ : ∀ w, J.p w → J0.p w) (hd : Nat.blt d N = true) (hy : (ops[j]?).bind (·.dst) = some gd) (hb : fr f s gd = gv b1 w1 (.bool b2))
    (hq : b1 = w1 → b2 = want → Qt P J0 f s ⟨some d, op, ty, pos, af, some (j, want)⟩ v) (k : DW P Pn N D ops J0 Q tg rest f ((d, gv b1 w1 (gv b2 want v)) :: s) J) :
    DW P Pn N D ops J0 Q (.q :: tg) (⟨some d, op, ty, pos, af, some (j, want)⟩ :: rest) f s J := by
  by_cases h1 : b1 = w1
  · rw [gv_pos h1] at hb k
    exact DW.g hJ hd hy hb (hq h1) k
  · rw [gv_neg h1] at hb k
    intro a ha
    have hyy := yielded_undef (ops := ops) ha hy hb
    exact ⟨hJ, undef, .inr ⟨by simp [Region.wanted, hyy], rfl⟩, k _ (ha.put hd _)⟩

theorem DW.gl {d j gd : Nat} {want : Bool} {op : Op} {ty : TypeId} {pos : String} {af : Array Edge} {tg : List Tg} {rest : List Oper} {v : Value}
    (hJ : ∀ w, J.p w → J0.p w) (hd : Nat.blt d N = true) (hy : (ops[j]?).bind (·.dst) = some gd) (hb : fr f s gd = .bool want)
    (hq : Qt P J0 f s ⟨some d, op, ty, pos, af, some (j, want)⟩ v) (k : DW P Pn N D ops J0 Q tg rest f ((d, v) :: s) J) :
    DW P Pn N D ops J0 Q (.q :: tg) (⟨some d, op, ty, pos, af, some (j, want)⟩ :: rest) f s J :=
  DW.g hJ hd hy hb (fun _ => hq) (by rw [gv_pos rfl]; exact k)
theorem DW.eff {X : Type} (V : X → Value) (J' : X → Cls) {d : Nat} {op : Op} {ty : TypeId} {pos : String} {af : Array Edge} {tg : List Tg} {rest : List Oper}
    (hJ : rest ≠ [] → ∀ x w, (J' x).p w → J0.p w) (hd : Nat.blt d N = true) (h : ∀ w, J.p w → effX P Pn (fun v w' => ∃ x, v = V x ∧ (J' x).p w') ((execOp (ev (fr f s)) ⟨some d, op, ty, pos, af, none⟩).run P w))
    (k : ∀ x, DW P Pn N D ops J0 Q tg rest f ((d, V x) :: s) (J' x)) :
    DW P Pn N D ops J0 Q (.e :: tg) (⟨some d, op, ty, pos, af, none⟩ :: rest) f s J := fun a ha => by
  show opX P Pn ops _ _ a J
  unfold opX
  rw [if_pos (show Region.wanted _ _ = true from rfl)]
  intro w hw
  rw [ha.eval]
  exact effX_mono (fun v w' ⟨x, hv, hp⟩ => ⟨J' x, hp, fun hr => hJ hr x, by subst hv; exact k x _ (ha.put hd _)⟩) (h w hw)

theorem DW.effn {J' : Cls} {op : Op} {ty : TypeId} {pos : String} {af : Array Edge} {tg : List Tg} {rest : List Oper}
    (hJ : rest ≠ [] → ∀ w, J'.p w → J0.p w) (h : ∀ w, J.p w → effX P Pn (fun _ w' => J'.p w') ((execOp (ev (fr f s)) ⟨none, op, ty, pos, af, none⟩).run P w))
    (k : DW P Pn N D ops J0 Q tg rest f s J') :
    DW P Pn N D ops J0 Q (.e :: tg) (⟨none, op, ty, pos, af, none⟩ :: rest) f s J := fun a ha => by
  show opX P Pn ops _ _ a J
  unfold opX
  rw [if_pos (show Region.wanted _ _ = true from rfl)]
  intro w hw
  rw [ha.eval]
  exact effX_mono (fun v w' hp => ⟨J', hp, hJ, k _ ha⟩) (h w hw)


def GOn (ops : Array Oper) (S : Nat → Value) : Option (Nat × Bool) → Prop
  | none => True
  | some (j, want) => ∃ gd, (ops[j]?).bind (·.dst) = some gd ∧ S gd = .bool want
theorem wanted_on {f : Nat → Value} {s : List (Nat × Value)} {a : Act} {o : Oper} (ha : Rel N D (fr f s) a) (h : GOn ops (fr f s) o.guard) : Region.wanted o (yielded ops a.tmps) = true := by
  obtain ⟨dst, op, ty, pos, af, g⟩ := o
  cases g with
  | none => rfl
  | some p =>
    obtain ⟨j, want⟩ := p
    obtain ⟨gd, h1, h2⟩ := h
    have hyy := yielded_of (ops := ops) ha h1 h2
    simp [Region.wanted, hyy]
theorem DW.effg {X : Type} (V : X → Value) (J' : X → Cls) {d j gd : Nat} {want : Bool} {op : Op} {ty : TypeId} {pos : String} {af : Array Edge} {tg : List Tg} {rest : List Oper}
    (hJ : rest ≠ [] → ∀ x w, (J' x).p w → J0.p w) (hd : Nat.blt d N = true) (hy : (ops[j]?).bind (·.dst) = some gd) (hb : fr f s gd = .bool want)
    (h : ∀ w, J.p w → effX P Pn (fun v w' => ∃ x, v = V x ∧ (J' x).p w') ((execOp (ev (fr f s)) ⟨some d, op, ty, pos, af, some (j, want)⟩).run P w))
    (k : ∀ x, DW P Pn N D ops J0 Q tg rest f ((d, V x) :: s) (J' x)) :
    DW P Pn N D ops J0 Q (.e :: tg) (⟨some d, op, ty, pos, af, some (j, want)⟩ :: rest) f s J := fun a ha => by
  show opX P Pn ops _ _ a J
  unfold opX
  rw [if_pos (wanted_on (o := ⟨some d, op, ty, pos, af, some (j, want)⟩) ha ⟨gd, hy, hb⟩)]
  intro w hw
  rw [ha.eval]
  exact effX_mono (fun v w' ⟨x, hv, hp⟩ => ⟨J' x, hp, fun hr => hJ hr x, by subst hv; exact k x _ (ha.put hd _)⟩) (h w hw)
theorem DW.qe {d : Nat} {op : Op} {ty : TypeId} {pos : String} {af : Array Edge} {tg : List Tg} {rest : List Oper} {v : Value}
    (hJ : rest ≠ [] → ∀ w, J.p w → J0.p w) (hd : Nat.blt d N = true) (hq : Qt P J f s ⟨some d, op, ty, pos, af, none⟩ v) (k : DW P Pn N D ops J0 Q tg rest f ((d, v) :: s) J) :
    DW P Pn N D ops J0 Q (.e :: tg) (⟨some d, op, ty, pos, af, none⟩ :: rest) f s J :=
  DW.eff (X := Unit) (fun _ => v) (fun _ => J) (fun hr _ => hJ hr) hd (fun w hw => effX_mono (fun _ _ ⟨e, hb⟩ => ⟨(), e, J.ext _ _ hw hb⟩) (effX_of_quietX (hq w hw))) (fun _ => k)
theorem fr_swap {f : Nat → Value} {s : List (Nat × Value)} {d1 d2 : Nat} {v u : Value} (h : Nat.beq d1 d2 = false) : fr f ((d1, v) :: (d2, u) :: s) = fr f ((d2, u) :: (d1, v) :: s) := by
  funext t
  simp only [fr]
  cases h1 : Nat.beq t d1 <;> cases h2 : Nat.beq t d2 <;> simp
  have e1 := nB h1
  have e2 := nB h2
  subst e1; subst e2; simp at h
/-! ### code -/
def AW (P : Program) (N : Nat) (D : List Deferred) (c : Code) (Q : Exit → Act → World → Prop) (f : Nat → Value) (s : List (Nat × Value)) (J : Cls) : Prop :=
  ∀ a w, Rel N D (fr f s) a → J.p w → c.wp P Q a w

theorem AW.seq {x y : Code} (h : AW P N D x (Exit.then (fun a w => y.wp P Q a w) Q) f s J) : AW P N D (.seq x y) Q f s J := fun a w ha hw => wp_seq (h a w ha hw)
theorem AW.skip (h : Post N D Q .normal f s J) : AW P N D .skip Q f s J := fun a w ha hw => wp_skip (h a w ha hw)
theorem AW.exit {id : Nat} (h : Post N D Q (.exit id) f s J) : AW P N D (.exit id) Q f s J := fun a w ha hw => wp_exit (h a w ha hw)
theorem AW.ret (h : Post N D Q .ret f s J) : AW P N D .ret Q f s J := fun a w ha hw => wp_ret (h a w ha hw)
theorem AW.block {id : Nat} {c : Code} (h : AW P N D c (Exit.inBlock id Q) f s J) : AW P N D (.block id c) Q f s J := fun a w ha hw => wp_block (h a w ha hw)
theorem AW.cond {c : Operand} {x y : Code} {b : Bool} (hc : ev (fr f s) c = .bool b) (ht : b = true → AW P N D x Q f s J) (hf : b = false → AW P N D y Q f s J) : AW P N D (.cond c x y) Q f s J :=
  fun a w ha hw => wp_cond_split (by rw [ha.eval]; exact hc) (fun h => ht h a w ha hw) (fun h => hf h a w ha hw)
theorem AW.region {id : Nat} {l : List Oper} (h : RW P N D l.toArray Q l f s J) : AW P N D (.region id l.toArray false) Q f s J := fun a w ha hw => wp_region_lit (h a w ha hw)
theorem AW.wk {c : Code} {J' : Cls} (h : ∀ w, J.p w → J'.p w) (k : AW P N D c Q f s J') : AW P N D c Q f s J := fun a w ha hw => k a w ha (h w hw)
theorem pick_len {l : List Oper} : ∀ (ord : List Nat), (ord.all fun i => Nat.blt i l.length) = true → (pickOps l ord).length = ord.length
  | [], _ => rfl
  | i :: is, h => by
    rw [List.all_cons, Bool.and_eq_true] at h
    have hi : i < l.length := by simpa using h.1
    unfold pickOps
    rw [List.getElem?_eq_getElem hi]
    simp [pick_len is h.2]
theorem DW.any [hP : PanQ D Q Pn] {l : List Oper} (tg : List Tg) (ord : List Nat) (hB : lexTB .any l.toArray tg ord = true) (h : DW P Pn N D l.toArray J0 Q tg (pickOps l ord) f s J) : ∀ a w, Rel N D (fr f s) a → J.p w → wpAny P .any l.toArray Q l.toArray.size (Array.replicate l.toArray.size false) a { w with drawn := w.drawn + 1 } := fun a w ha hw => by
  simp only [lexTB, Bool.and_eq_true] at hB
  obtain ⟨⟨⟨⟨⟨⟨hB1, hB2⟩, hB3⟩, hB5⟩, hB6⟩, hB7⟩, hB4⟩ := hB
  have hB6' : (ord.all fun i => Nat.blt i l.length) = true := by simpa using hB6
  have hpl := pick_len (l := l) ord hB6'
  have hol : ord.length = l.length := by simpa using hB5
  have hlen : tg.length = (pickOps l ord).length := by rw [hpl, hol]; simpa using hB3
  have h1 := wpAnyX_lex (P := P) (J0 := J0) (md := .any) (last := lastOf l.toArray tg) (Q' := Q .normal) hB1 hB2 tg (pickOps l ord) ord (Array.replicate l.toArray.size false) a J (along_pick ord hB6') hlen (fun hg => by
    unfold endsIn at hB7
    rw [hg] at hB7
    unfold lastOf
    rw [if_pos hg]
    simpa using hB7) hB4 (h a ha)
  rw [hpl, hol] at h1
  exact wpAny_of_X (Pn := Pn) (Q' := Q .normal) (fun _ _ h => h) _ _ a J ha.defers (by simpa using h1) _ (J.ext w _ hw (Bel.drew _ _))

theorem AW.draw [hP : PanQ D Q Pn] {id : Nat} {l : List Oper} (tg : List Tg) (ord : List Nat) (hm : P.follows .mixedOrders = true) (hB : lexTB .any l.toArray tg ord = true) (h : DW P Pn N D l.toArray J0 Q tg (pickOps l ord) f s J) : AW P N D (.region id l.toArray true) Q f s J := fun a w ha hw =>
  wp_region_any hm (DW.any tg ord hB h a w ha hw)

/-! ### exits -/
abbrev NoPn : List PanicEntry → World → Prop := fun _ _ => False
instance (priority := low) : PanQ D Q NoPn := ⟨fun _ _ _ _ h => h.elim⟩
instance [h : PanQ D Q Pn] {K : Act → World → Prop} : PanQ D (Exit.then K Q) Pn := ⟨fun c a w hd hp => h.h c a w hd hp⟩
instance [h : PanQ D Q Pn] {id : Nat} : PanQ D (Exit.inBlock id Q) Pn := ⟨fun c a w hd hp => h.h c a w hd hp⟩
instance {fn : Func} {R : Ending → World → Prop} : PanQ [] (bodyPost P fn R) (fun c w => R (.panicked c) w) := ⟨fun _ _ _ hd hp => ⟨hd, hp⟩⟩
theorem Post.then_n {y : Code} (h : AW P N D y Q f s J) : Post N D (Exit.then (fun a w => y.wp P Q a w) Q) .normal f s J := fun a w ha hw => h a w ha hw
theorem Post.then_x {K : Act → World → Prop} {i : Nat} (h : Post N D Q (.exit i) f s J) : Post N D (Exit.then K Q) (.exit i) f s J := h
theorem Post.then_r {K : Act → World → Prop} (h : Post N D Q .ret f s J) : Post N D (Exit.then K Q) .ret f s J := h
theorem Post.blk_n {id : Nat} (h : Post N D Q .normal f s J) : Post N D (Exit.inBlock id Q) .normal f s J := h
theorem Post.blk_r {id : Nat} (h : Post N D Q .ret f s J) : Post N D (Exit.inBlock id Q) .ret f s J := h
theorem Post.blk_hit {id : Nat} (h : Post N D Q .normal f s J) : Post N D (Exit.inBlock id Q) (.exit id) f s J := fun a w ha hw => by
  simp only [Exit.inBlock, if_true]; exact h a w ha hw
theorem Post.blk_miss {id i : Nat} (hi : Nat.beq i id = false) (h : Post N D Q (.exit i) f s J) : Post N D (Exit.inBlock id Q) (.exit i) f s J := fun a w ha hw => by
  have : i ≠ id := fun e => by subst e; simp at hi
  simp only [Exit.inBlock, if_neg this]; exact h a w ha hw

/-! ### loops -/
def Back (N : Nat) (D : List Deferred) (I : List (Nat × Value) → Cls → Nat → Prop) (m : Nat) (a : Act) (w : World) : Prop :=
  ∃ f s J m', m' < m ∧ I s J m' ∧ Rel N D (fr f s) a ∧ J.p w

theorem AW.loop {c : Code} (I : List (Nat × Value) → Cls → Nat → Prop) {m0 : Nat} {s0 : List (Nat × Value)} {J1 : Cls} (h0 : I s0 J1 m0) (hs : AllIn (fr f s) s0) (hJ : ∀ w, J.p w → J1.p w)
    (body : ∀ f' s' J' m, I s' J' m → AW P N D c (Exit.then (Back N D I m) Q) f' s' J') : AW P N D (.loop c) Q f s J := by
  intro a w ha hw b k cs
  have key : ∀ m f s J a w, I s J m → Rel N D (fr f s) a → J.p w →
      ∃ e a' w', Q e a' w' ∧ Arrives P (lone (b.at a (.code c :: .inLoop c :: k)) cs w) b k cs e a' w' := by
    intro m
    induction m using Nat.strongRecOn with
    | _ m ih =>
      intro f s J a w hI ha hw
      obtain ⟨e, a₁, w₁, hq, harr⟩ := body f s J m hI a w ha hw b (.inLoop c :: k) cs
      cases e with
      | normal =>
        obtain ⟨f', s', J', m', hlt, hI', ha', hw'⟩ := hq
        obtain ⟨e₂, a₂, w₂, hq₂, harr₂⟩ := ih m' hlt f' s' J' a₁ w₁ hI' ha' hw'
        exact ⟨e₂, a₂, w₂, hq₂, .of_steps (Steps.trans harr (.one step_inLoop)) harr₂⟩
      | exit id => exact ⟨_, a₁, w₁, hq, .pass (x := .inLoop c) rfl (fun _ _ => .inl (by simp)) harr⟩
      | goto l => exact ⟨_, a₁, w₁, hq, .pass (x := .inLoop c) rfl (fun _ _ => .inl (by simp)) harr⟩
      | ret => exact ⟨_, a₁, w₁, hq, .pass (x := .inLoop c) rfl (fun _ _ => .inl (by simp)) harr⟩
      | panic ch => exact ⟨_, a₁, w₁, hq, .pass (x := .inLoop c) rfl (fun _ _ => .inl (by simp)) harr⟩
      | outgrown => exact ⟨_, a₁, w₁, hq, .pass (x := .inLoop c) rfl (fun _ _ => .inl (by simp)) harr⟩
  obtain ⟨e, a', w', hq, harr⟩ := key m0 (fr f s) s0 J1 a w h0 (by rw [fr_of_allIn hs]; exact ha) (hJ w hw)
  exact ⟨e, a', w', hq, .of_steps (.one step_loop) harr⟩

theorem Post.back {I : List (Nat × Value) → Cls → Nat → Prop} {m m' : Nat} {s' : List (Nat × Value)} {J' : Cls} (hm : m' < m) (hI : I s' J' m') (hs : AllIn (fr f s) s') (hJ : ∀ w, J.p w → J'.p w) :
    Post N D (Exit.then (Back N D I m) Q) .normal f s J := fun a w ha hw => ⟨fr f s, s', J', m', hm, hI, by rw [fr_of_allIn hs]; exact ha, hJ w hw⟩

/-! ### a function -/
theorem rel_init {N : Nat} {args : List Value} (hn : args.length ≤ N) : Rel N [] (fr (fun _ => undef) (args.zipIdx.map fun p => (p.2, p.1))) { tmps := args.toArray ++ Array.replicate (N - args.toArray.size) undef, defers := [] } := by
  refine ⟨?_, rfl, fun t => ?_⟩
  · simp; omega
  · have key : ∀ (l : List Value) (k : Nat), fr (fun _ => undef) ((l.zipIdx k).map fun p => (p.2, p.1)) t = if k ≤ t then l.getD (t - k) undef else undef := by
      intro l
      induction l with
      | nil => intro k; simp [fr]
      | cons v l ih =>
        intro k
        simp only [List.zipIdx_cons, List.map_cons, fr]
        cases hb : Nat.beq t k with
        | true => have := nB hb; subst this; simp
        | false =>
          have hne : t ≠ k := fun e => by subst e; simp at hb
          rw [cond_false, ih]
          by_cases h1 : k ≤ t
          · rw [if_pos h1, if_pos (by omega), show t - k = (t - (k + 1)) + 1 by omega]; rfl
          · rw [if_neg h1, if_neg (by omega)]
    rw [key]
    simp only [Nat.zero_le, if_true, Nat.sub_zero]
    by_cases ht : t < args.length
    · simp [Array.getD_eq_getD_getElem?, Array.getElem?_append, ht]
    · simp only [Array.getD_eq_getD_getElem?, Array.getElem?_append, List.size_toArray, ht, if_false, gDD]
      rw [List.getElem?_eq_none (by omega)]
      by_cases h2 : t - args.length < N - args.length
      · simp [h2]
      · simp [h2]
theorem calls_of_AW {fid : FuncId} {fn : Func} {c : Code} {args : List Value} {w : World} {R : Ending → World → Prop} (hf : P.funcs[fid]? = some fn) (hb : fn.body = some c) (hn : args.length ≤ fn.ntmps)
    (J : Cls) (hJ : J.p w) (h : AW P fn.ntmps [] c (bodyPost P fn R) (fun _ => undef) (args.zipIdx.map fun p => (p.2, p.1)) J) : Calls P fid args.toArray w R := by
  exact calls_of_wp hf hb (h _ w (rel_init hn) hJ)
end
end Go.K

/-! ## memory -/
namespace Go.K
open Go Go.RowKit

abbrev Hp := Nat → Option Obj
def hp (w : World) : Hp := fun b => w.heap[b]?
def Hp.le (Φ Ψ : Hp) : Prop := ∀ b o, Φ b = some o → Ψ b = some o
theorem Hp.le_refl (Φ : Hp) : Hp.le Φ Φ := fun _ _ h => h
theorem Hp.le_trans {Φ Ψ Χ : Hp} (h : Hp.le Φ Ψ) (k : Hp.le Ψ Χ) : Hp.le Φ Χ := fun b o e => k b o (h b o e)
def ext (Φ : Hp) (n : Nat) (w' : World) : Hp := fun b => if b < n then Φ b else w'.heap[b]?
structure Chunk where
  fp : List Nat
  sat : Hp → Prop
  loc : ∀ Φ Ψ : Hp, (∀ b ∈ fp, Ψ b = Φ b) → sat Φ → sat Ψ
  dom : ∀ Φ : Hp, sat Φ → ∀ b ∈ fp, Φ b ≠ none

def Chunk.apart (c d : Chunk) : Prop := ∀ b ∈ c.fp, b ∉ d.fp
theorem Chunk.apart_symm {c d : Chunk} (h : c.apart d) : d.apart c := fun b hb hc => h b hc hb

structure Bs where
  w0 : World
  Φ0 : Hp
  E : List Nat

structure StP (B : Bs) (Φ : Hp) (C : List Chunk) (w : World) : Prop where
  os : w.os = B.w0.os
  tape : w.tape = B.w0.tape
  output : w.output = B.w0.output
  size : B.w0.heap.size ≤ w.heap.size
  drawn : B.w0.drawn * Kd ≤ w.drawn * Kd
  old : ∀ b, b < B.w0.heap.size → b ∉ B.E → w.heap[b]? = B.w0.heap[b]?
  phi : Hp.le Φ (hp w)
  orig : ∀ b o, Φ b = some o → b < B.w0.heap.size → B.Φ0 b = some o
  sat : ∀ c ∈ C, c.sat (hp w)
  sep : C.Pairwise Chunk.apart
  away : ∀ b ∈ C.flatMap (·.fp), Φ b = none ∧ (B.w0.heap.size ≤ b ∨ b ∈ B.E)

abbrev zw (w : World) : World := { w with drawn := 0 }
theorem StP.zb {w0 : World} {Φ0 Φ : Hp} {E : List Nat} {C : List Chunk} {w : World} (h : StP ⟨w0, Φ0, E⟩ Φ C w) : StP ⟨zw w0, Φ0, E⟩ Φ C w := { h with drawn := by simp }
theorem lt_of_some {w : World} {b : Nat} {o : Obj} (h : w.heap[b]? = some o) : b < w.heap.size := by
  rcases Nat.lt_or_ge b w.heap.size with h1 | h1
  · exact h1
  · rw [Array.getElem?_eq_none h1] at h; cases h
theorem lt_of_ne {w : World} {b : Nat} (h : w.heap[b]? ≠ none) : b < w.heap.size := by
  rcases Nat.lt_or_ge b w.heap.size with h1 | h1
  · exact h1
  · exact absurd (Array.getElem?_eq_none h1) h

theorem StP.fp_lt {B Φ C w} (h : StP B Φ C w) {b : Nat} (hb : b ∈ C.flatMap (·.fp)) : b < w.heap.size := by
  obtain ⟨c, hc, hbc⟩ := List.mem_flatMap.1 hb
  exact lt_of_ne (c.dom _ (h.sat c hc) b hbc)

theorem StP.step {B Φ C w} (h : StP B Φ C w) {w' : World} {Φ' : Hp} {C' : List Chunk} (ho : w'.os = w.os) (ht : w'.tape = w.tape) (hout : w'.output = w.output) (hs : w.heap.size ≤ w'.heap.size)
    (hold : ∀ b, b < w.heap.size → b ∉ C.flatMap (·.fp) → w'.heap[b]? = w.heap[b]?)
    (hphi : ∀ b o, Φ' b = some o → Φ b = some o ∨ (B.w0.heap.size ≤ b ∧ w'.heap[b]? = some o))
    (hsat : ∀ c ∈ C', c.sat (hp w')) (hsep : C'.Pairwise Chunk.apart)
    (haway : ∀ b ∈ C'.flatMap (·.fp), Φ' b = none ∧ (B.w0.heap.size ≤ b ∨ b ∈ B.E)) (hdr : w.drawn * Kd ≤ w'.drawn * Kd := by exact Nat.le_refl _) : StP B Φ' C' w' where
  drawn := Nat.le_trans h.drawn hdr
  os := ho.trans h.os
  tape := ht.trans h.tape
  output := hout.trans h.output
  size := Nat.le_trans h.size hs
  old := fun b hb hE => (hold b (Nat.lt_of_lt_of_le hb h.size) (fun hm => by
    rcases (h.away b hm).2 with h1 | h1
    · omega
    · exact hE h1)).trans (h.old b hb hE)
  phi := fun b o hbo => by
    rcases hphi b o hbo with h1 | ⟨_, h1⟩
    · have h2 := h.phi b o h1
      have h3 : b ∉ C.flatMap (·.fp) := fun hm => by rw [(h.away b hm).1] at h1; cases h1
      exact (hold b (lt_of_some h2) h3).trans h2
    · exact h1
  orig := fun b o hbo hb => by
    rcases hphi b o hbo with h1 | ⟨h1, _⟩
    · exact h.orig b o h1 hb
    · omega
  sat := hsat
  sep := hsep
  away := haway

theorem StP.ext {B Φ C w} (h : StP B Φ C w) {w' : World} (hb : Bel w.heap.size w w') : StP B Φ C w' :=
  h.step hb.os hb.tape hb.output hb.size (fun b hlt _ => hb.block b hlt) (fun _ _ e => .inl e)
    (fun c hc => c.loc _ _ (fun b hbc => hb.block b (h.fp_lt (List.mem_flatMap.2 ⟨c, hc, hbc⟩))) (h.sat c hc)) h.sep h.away hb.drawn

def St (B : Bs) (Φ : Hp) (C : List Chunk) : Cls := ⟨StP B Φ C, fun _ _ h hb => h.ext hb⟩

theorem StP.init (w : World) (Φ : Hp) (h : Hp.le Φ (hp w)) (E : List Nat) : StP ⟨w, Φ, E⟩ Φ [] w where
  os := rfl
  tape := rfl
  output := rfl
  size := Nat.le_refl _
  drawn := Nat.le_refl _
  old := fun _ _ _ => rfl
  phi := h
  orig := fun _ _ e _ => e
  sat := fun _ h => by cases h
  sep := by simp
  away := by simp

theorem StP.below {B Φ C w} (h : StP B Φ C w) (hE : B.E = []) : Bel B.w0.heap.size B.w0 w := ⟨⟨h.os, h.tape, h.output, h.size, fun b hb => h.old b hb (by rw [hE]; simp)⟩, h.drawn⟩
theorem StP.phi_ext {B Φ C w} (h : StP B Φ C w) : Hp.le Φ (Go.K.ext B.Φ0 B.w0.heap.size w) := fun b o e => by
  unfold Go.K.ext
  by_cases hb : b < B.w0.heap.size
  · rw [if_pos hb]; exact h.orig b o e hb
  · rw [if_neg hb]; exact h.phi b o e

theorem StP.drop {B Φ C w} (h : StP B Φ C w) {C' : List Chunk} (hs : C'.Sublist C) : StP B Φ C' w := by
  have hf : ∀ b ∈ C'.flatMap (·.fp), b ∈ C.flatMap (·.fp) := fun b hb => by
    obtain ⟨c, hc, hbc⟩ := List.mem_flatMap.1 hb
    exact List.mem_flatMap.2 ⟨c, hs.subset hc, hbc⟩
  exact { h with sat := fun c hc => h.sat c (hs.subset hc), sep := h.sep.sublist hs, away := fun b hb => h.away b (hf b hb) }

theorem StP.perm {B Φ C w} (h : StP B Φ C w) {C' : List Chunk} (hs : C'.Perm C) : StP B Φ C' w := by
  have hf : ∀ b ∈ C'.flatMap (·.fp), b ∈ C.flatMap (·.fp) := fun b hb => by
    obtain ⟨c, hc, hbc⟩ := List.mem_flatMap.1 hb
    exact List.mem_flatMap.2 ⟨c, hs.subset hc, hbc⟩
  exact { h with sat := fun c hc => h.sat c (hs.subset hc), sep := (hs.pairwise_iff Chunk.apart_symm).2 h.sep, away := fun b hb => h.away b (hf b hb) }

theorem StP.freeze {B Φ C w} {c : Chunk} (h : StP B Φ (c :: C) w) (hE : ∀ b ∈ c.fp, B.w0.heap.size ≤ b) : ∃ Φ', Hp.le Φ Φ' ∧ c.sat Φ' ∧ StP B Φ' C w := by
  have hsep : ∀ b ∈ c.fp, b ∉ C.flatMap (·.fp) := by
    intro b hb hm
    obtain ⟨d, hd, hbd⟩ := List.mem_flatMap.1 hm
    exact (List.pairwise_cons.1 h.sep).1 d hd b hb hbd
  refine ⟨fun b => if b ∈ c.fp then w.heap[b]? else Φ b, ?_, ?_, ?_⟩
  · intro b o e
    by_cases hb : b ∈ c.fp
    · have := (h.away b (by simp [hb])).1
      rw [e] at this; cases this
    · simp only [if_neg hb]; exact e
  · exact c.loc (hp w) _ (fun b hb => by simp only [if_pos hb]; rfl) (h.sat c (by simp))
  · refine { h with phi := ?_, orig := ?_, sat := fun c' hc' => h.sat c' (by simp [hc']), sep := ?_, away := ?_ }
    · intro b o e
      by_cases hb : b ∈ c.fp
      · simp only [if_pos hb] at e; exact e
      · simp only [if_neg hb] at e; exact h.phi b o e
    · intro b o e hlt
      by_cases hb : b ∈ c.fp
      · have := hE b hb; omega
      · simp only [if_neg hb] at e; exact h.orig b o e hlt
    · exact (List.pairwise_cons.1 h.sep).2
    · intro b hb
      have hn : b ∉ c.fp := fun hm => hsep b hm hb
      simp only [if_neg hn]
      exact h.away b (by simp only [List.flatMap_cons]; exact List.mem_append_right _ hb)

/-! ### chunks -/
def Chunk.blk (b : Nat) (T : TypeId) (cs : List Value) : Chunk where
  fp := [b]
  sat := fun Φ => Φ b = some (.cells cs.toArray T (0, 0))
  loc := fun Φ Ψ h hs => (h b (by simp)).trans hs
  dom := fun Φ hs b' hb => by obtain rfl : b' = b := by simpa using hb
                              rw [hs]; simp

def blks : Value → List Nat
  | .slice (some a) _ _ => [a.block]
  | _ => []

def RowS (Φ : Hp) (v : Value) (T : TypeId) (sz n : Nat) (xs : List Value) : Prop :=
  xs.length = n * sz ∧ ((v = .slice none 0 0 ∧ n = 0) ∨
    ∃ g cap cur, v = .slice (some ⟨g, 0, none⟩) n cap ∧ Φ g = some (.cells cur T (0, 0)) ∧ n ≤ cap ∧ cap ≤ maxLen ∧ cur.size = cap * sz ∧ cur.toList.take (n * sz) = xs)

theorem RowS.owns {w : World} {v T sz n xs} (h : RowS (hp w) v T sz n xs) : w.ownsRow 0 T sz v n xs :=
  ⟨h.1, h.2.imp id fun ⟨g, cap, cur, h1, h2, h3⟩ => ⟨g, cap, cur, h1, Nat.zero_le _, h2, h3⟩⟩
theorem RowS.of_owns {w : World} {v T sz n xs} {base : Nat} (h : w.ownsRow base T sz v n xs) : RowS (hp w) v T sz n xs :=
  ⟨h.1, h.2.imp id fun ⟨g, cap, cur, h1, _, h2, h3⟩ => ⟨g, cap, cur, h1, h2, h3⟩⟩

def Chunk.row (v : Value) (T : TypeId) (sz n : Nat) (xs : List Value) : Chunk where
  fp := blks v
  sat := fun Φ => RowS Φ v T sz n xs
  loc := fun Φ Ψ h hs => ⟨hs.1, hs.2.imp id fun ⟨g, cap, cur, h1, h2, h3⟩ => ⟨g, cap, cur, h1, (h g (by subst h1; simp [blks])).trans h2, h3⟩⟩
  dom := fun Φ hs b hb => by
    rcases hs.2 with ⟨rfl, _⟩ | ⟨g, cap, cur, rfl, h2, _⟩
    · simp [blks] at hb
    · obtain rfl : b = g := by simpa [blks] using hb
      rw [h2]; simp

def Value.at (v : Value) (k : Nat) : Addr := match v with | .slice (some a) _ _ => a.add k | _ => (default : Addr).add k
theorem add_add (a : Addr) (i j : Nat) : (a.add i).add j = a.add (i + j) := by
  unfold Addr.add
  by_cases hi : i = 0 <;> by_cases hj : j = 0 <;> simp [hi, hj, Nat.add_assoc]
theorem at_add {v : Value} {k j : Nat} : (Value.at v k).add j = Value.at v (k + j) := by
  unfold Value.at; split <;> exact add_add _ _ _

def IsSl (v : Value) (n : Nat) : Prop := ∃ A c, v = .slice A n c ∧ (0 < n → A.isSome = true) ∧ n ≤ c

theorem RowS.isSl {Φ v T sz n xs} (h : RowS Φ v T sz n xs) : IsSl v n := by
  rcases h.2 with ⟨rfl, rfl⟩ | ⟨g, cap, cur, rfl, _, hc, _⟩
  · exact ⟨none, 0, rfl, fun h => by omega, Nat.le_refl _⟩
  · exact ⟨_, cap, rfl, fun _ => rfl, hc⟩

def Cell (J : Cls) (p : Addr) (v : Value) : Prop := ∀ w, J.p w → w.cell? p = some v

theorem cell_of_hp {w : World} {b o : Nat} {cs : Array Value} {T fz} (h : hp w b = some (.cells cs T fz)) : w.cell? ⟨b, o, none⟩ = cs[o]? := by
  have h' : w.heap[b]? = some (.cells cs T fz) := h
  simp [World.cell?, h']

section
variable {B : Bs} {Φ : Hp} {C : List Chunk}
theorem Cell.blk {b T cs o v} (i : Nat) (hi : C[i]? = some (.blk b T cs)) (hv : cs[o]? = some v) : Cell (St B Φ C) ⟨b, o, none⟩ v := fun w hw => by
  have hs := hw.sat _ (List.mem_of_getElem? hi)
  rw [cell_of_hp (w := w) hs]
  simpa using hv
theorem cell_row {w : World} {v : Value} {T sz n : Nat} {xs : List Value} {k : Nat} {x : Value} (hs : RowS (hp w) v T sz n xs) (hv : xs[k]? = some x) : w.cell? (Value.at v k) = some x := by
  obtain ⟨hl, hs⟩ := hs
  have hk : k < xs.length := (List.getElem?_eq_some_iff.1 hv).1
  rcases hs with ⟨rfl, rfl⟩ | ⟨g, cap, cur, rfl, h2, h3, h4, h5, h6⟩
  · omega
  · have ha : Value.at (.slice (some ⟨g, 0, none⟩) n cap) k = ⟨g, k, none⟩ := by
      simp only [Value.at, Addr.add]; split <;> simp_all
    rw [ha, cell_of_hp h2]
    rw [← h6] at hv
    simp only [List.getElem?_take] at hv
    split at hv
    · simpa using hv
    · cases hv
theorem Cell.row {v T sz n xs k x} (i : Nat) (hi : C[i]? = some (.row v T sz n xs)) (hv : xs[k]? = some x) : Cell (St B Φ C) (Value.at v k) x := fun _ hw =>
  cell_row (hw.sat _ (List.mem_of_getElem? hi)) hv
def PCell (Φ : Hp) (p : Addr) (v : Value) : Prop := ∃ cs T fz, Φ p.block = some (.cells cs T fz) ∧ p.spot = none ∧ cs[p.off]? = some v
theorem PCell.mono {Φ Ψ : Hp} {p v} (h : PCell Φ p v) (hl : Hp.le Φ Ψ) : PCell Ψ p v := let ⟨cs, T, fz, h1, h2⟩ := h; ⟨cs, T, fz, hl _ _ h1, h2⟩
theorem PCell.cell {w : World} {p v} (h : PCell (hp w) p v) : w.cell? p = some v := by
  obtain ⟨cs, T, fz, h1, h2, h3⟩ := h
  have h1' : w.heap[p.block]? = some (.cells cs T fz) := h1
  simp [World.cell?, h1', h2, h3]
theorem Cell.phi {p v} (h : PCell Φ p v) : Cell (St B Φ C) p v := fun _ hw => (h.mono hw.phi).cell
end
end Go.K

/-! ## operations -/
namespace Go.K
open Go Go.RowKit
section
variable {P : Program} {Pn : List PanicEntry → World → Prop} {J : Cls} {f : Nat → Value} {s : List (Nat × Value)} {dst : Option Nat} {ty : TypeId} {pos : String} {af : Array Edge} {g : Option (Nat × Bool)}

theorem below_same (w : World) : Bel w.heap.size w w := Bel.refl _ _

theorem qt_val {o : Oper} {v : Value} (h : ∀ w, J.p w → (execOp (ev (fr f s)) o).run P w = .ok (.value v) w) : Qt P J f s o v := fun w hw => by
  rw [h w hw]; exact ⟨rfl, below_same w⟩

theorem q_move {x : Operand} {v : Value} (h : ev (fr f s) x = v) : Qt P J f s ⟨dst, .move x, ty, pos, af, g⟩ v := qt_val fun w _ => by
  subst h; simp [execOp]
theorem q_assign {x : Operand} {v : Value} (h : ev (fr f s) x = v) : Qt P J f s ⟨dst, .assign x, ty, pos, af, g⟩ v := qt_val fun w _ => by
  subst h; simp [execOp]
theorem q_pick {c a b : Operand} {t : Bool} {v : Value} (hc : ev (fr f s) c = .bool t) (ha : t = true → ev (fr f s) a = v) (hb : t = false → ev (fr f s) b = v) :
    Qt P J f s ⟨dst, .pick c a b, ty, pos, af, g⟩ v := qt_val fun w _ => by
  cases t
  · simp [execOp, hc, asBool, hb rfl]
  · simp [execOp, hc, asBool, ha rfl]

def I64 (n : Int) : Prop := -9223372036854775808 ≤ n ∧ n ≤ 9223372036854775807
theorem wrap64_of {n : Int} (h : I64 n) : IntKind.i64.wrap n = n := by
  unfold I64 at h
  rw [IntKind.wrap_i64]; omega

variable {x y : Operand} {t t' : TypeId} {k : IntKind} {a b : Int}
theorem eqGuard_int {op : BinOp} : ∀ w, (eqGuard op t x y (.int k a) (.int k b)).run P w = .ok () w := fun w => by
  cases op <;> simp [eqGuard]
theorem eqGuard_bool {op : BinOp} {p q : Bool} : ∀ w, (eqGuard op t x y (.bool p) (.bool q)).run P w = .ok () w := fun w => by
  cases op <;> simp [eqGuard]
theorem eqGuard_str {op : BinOp} {p q : ByteArray} : ∀ w, (eqGuard op t x y (.string p) (.string q)).run P w = .ok () w := fun w => by
  cases op <;> simp [eqGuard]

theorem q_cmp {op : BinOp} {r : Bool} (hx : ev (fr f s) x = .int k a) (hy : ev (fr f s) y = .int k b)
    (hr : Op.intCmp op a b = pure (.bool r)) (hop : (match op with | .eql | .neq | .lss | .leq | .gtr | .geq => true | _ => false) = true) : Qt P J f s ⟨dst, .binOp op t x y t', ty, pos, af, g⟩ (.bool r) := qt_val fun w _ => by
  cases op <;> first | (cases hop; done) | (simp only [execOp, hx, hy, Sem.run_bind, eqGuard_int, Result.andThen_ok, binOp, ne_eq, not_true_eq_false, if_false, hr, Sem.run_pure])
theorem q_lss (hx : ev (fr f s) x = .int k a) (hy : ev (fr f s) y = .int k b) : Qt P J f s ⟨dst, .binOp .lss t x y t', ty, pos, af, g⟩ (.bool (decide (a < b))) := q_cmp hx hy rfl rfl
theorem q_leq (hx : ev (fr f s) x = .int k a) (hy : ev (fr f s) y = .int k b) : Qt P J f s ⟨dst, .binOp .leq t x y t', ty, pos, af, g⟩ (.bool (decide (a ≤ b))) := q_cmp hx hy rfl rfl
theorem q_gtr (hx : ev (fr f s) x = .int k a) (hy : ev (fr f s) y = .int k b) : Qt P J f s ⟨dst, .binOp .gtr t x y t', ty, pos, af, g⟩ (.bool (decide (b < a))) := q_cmp hx hy rfl rfl
theorem q_geq (hx : ev (fr f s) x = .int k a) (hy : ev (fr f s) y = .int k b) : Qt P J f s ⟨dst, .binOp .geq t x y t', ty, pos, af, g⟩ (.bool (decide (b ≤ a))) := q_cmp hx hy rfl rfl
theorem q_eql (hx : ev (fr f s) x = .int k a) (hy : ev (fr f s) y = .int k b) : Qt P J f s ⟨dst, .binOp .eql t x y t', ty, pos, af, g⟩ (.bool (decide (a = b))) := q_cmp hx hy rfl rfl
theorem q_neq (hx : ev (fr f s) x = .int k a) (hy : ev (fr f s) y = .int k b) : Qt P J f s ⟨dst, .binOp .neq t x y t', ty, pos, af, g⟩ (.bool (!decide (a = b))) := q_cmp hx hy rfl rfl

theorem args1 {α : Type} {a a' : α} (h : a = a') : [a] = [a'] := by rw [h]
theorem args2 {α : Type} {a a' b b' : α} (h : a = a') (h2 : b = b') : [a, b] = [a', b'] := by rw [h, h2]
theorem args3 {α : Type} {a a' b b' c c' : α} (h : a = a') (h2 : b = b') (h3 : c = c') : [a, b, c] = [a', b', c'] := by rw [h, h2, h3]
theorem q_neqB {p q : Bool} (hx : ev (fr f s) x = .bool p) (hy : ev (fr f s) y = .bool q) (hT : P.underlying t = some .bool) : Qt P J f s ⟨dst, .binOp .neq t x y t', ty, pos, af, g⟩ (.bool (!(p == q))) := qt_val fun w _ => by
  simp only [execOp, hx, hy, Sem.run_bind, eqGuard_bool, Result.andThen_ok, run_neq_bool w t p q hT, Sem.run_pure]
theorem q_arith {op : BinOp} {r : Int} (hx : ev (fr f s) x = .int k a) (hy : ev (fr f s) y = .int k b)
    (hr : Op.intArith op k a b = pure (.int k r)) (hop : (match op with | .add | .sub | .mul => true | _ => false) = true) : Qt P J f s ⟨dst, .binOp op t x y t', ty, pos, af, g⟩ (.int k r) := qt_val fun w _ => by
  cases op <;> first | (cases hop; done) | (simp only [execOp, hx, hy, Sem.run_bind, eqGuard_int, Result.andThen_ok, binOp, ne_eq, not_true_eq_false, if_false, hr, Sem.run_pure])
theorem q_add {r : Int} (hx : ev (fr f s) x = .int .i64 a) (hy : ev (fr f s) y = .int .i64 b) (hr : a + b = r) (h : I64 r) : Qt P J f s ⟨dst, .binOp .add t x y t', ty, pos, af, g⟩ (.int .i64 r) := q_arith hx hy (by subst hr; simp only [Op.intArith, wrap64_of h]) rfl
theorem q_sub {r : Int} (hx : ev (fr f s) x = .int .i64 a) (hy : ev (fr f s) y = .int .i64 b) (hr : a - b = r) (h : I64 r) : Qt P J f s ⟨dst, .binOp .sub t x y t', ty, pos, af, g⟩ (.int .i64 r) := q_arith hx hy (by subst hr; simp only [Op.intArith, wrap64_of h]) rfl
theorem q_mul {r : Int} (hx : ev (fr f s) x = .int .i64 a) (hy : ev (fr f s) y = .int .i64 b) (hr : a * b = r) (h : I64 r) : Qt P J f s ⟨dst, .binOp .mul t x y t', ty, pos, af, g⟩ (.int .i64 r) := q_arith hx hy (by subst hr; simp only [Op.intArith, wrap64_of h]) rfl
theorem q_not {b : Bool} (hx : ev (fr f s) x = .bool b) : Qt P J f s ⟨dst, .unOp .not t x, ty, pos, af, g⟩ (.bool !b) := qt_val fun w _ => by
  simp [execOp, hx, Op.unary]
theorem q_extract {vs : Array Value} {i : Nat} {v : Value} (hx : ev (fr f s) x = .tuple vs) (hv : vs[i]? = some v) : Qt P J f s ⟨dst, .extract x i, ty, pos, af, g⟩ v := qt_val fun w _ => by
  simp [execOp, hx, Instr.extract, hv]
theorem q_makeFunc {fn : Fn} {first captured : Array Operand} {fs cs : List Value} (h1 : first.toList.map (ev (fr f s)) = fs) (h2 : captured.toList.map (ev (fr f s)) = cs) :
    Qt P J f s ⟨dst, .makeFunc fn first captured, ty, pos, af, g⟩ (.func fn fs.toArray cs.toArray) := qt_val fun w _ => by
  have h1' : first.map (ev (fr f s)) = fs.toArray := by rw [← h1]; apply Array.ext'; simp
  have h2' : captured.map (ev (fr f s)) = cs.toArray := by rw [← h2]; apply Array.ext'; simp
  simp only [execOp, h1', h2', Instr.makeFunc, Sem.run_bind, Sem.run_pure, Result.andThen_ok]

/-! ### slices -/
theorem q_len_sl {v : Value} {n : Nat} {o : TypeId} (hx : ev (fr f s) x = v) (hs : IsSl v n) {e : TypeId} (hT : P.underlying o = some (.slice e)) :
    Qt P J f s ⟨dst, .call { callee := .builtin .len, args := #[x], argTypes := #[o] }, ty, pos, af, g⟩ (.int .i64 n) := qt_val fun w _ => by
  obtain ⟨A, c, rfl, _⟩ := hs
  simp [execOp, resolve, invoke, builtin, hx, Builtin.len_, run_underlying hT, goInt]

theorem q_indexAddr {v : Value} {n : Nat} {sz : Nat} {e : TypeId} {i : Int} {p : Addr} (hx : ev (fr f s) x = v) (hy : ev (fr f s) y = .int .i64 i) (hs : IsSl v n) (hT : P.underlying t = some (.slice e))
    (hsz : (P.info? e).map (·.size) = some sz) (h0 : 0 ≤ i) (hn : i < n) (hp : p = Value.at v (i.toNat * sz)) : Qt P J f s ⟨dst, .indexAddr t x y, ty, pos, af, g⟩ (.pointer (some p)) := qt_val fun w _ => by
  obtain ⟨A, c, rfl, hA, _⟩ := hs
  obtain ⟨a, rfl⟩ := Option.isSome_iff_exists.1 (hA (by omega))
  obtain ⟨ti, hi, hti⟩ := mS hsz
  subst hp
  simp [execOp, hx, hy, Instr.indexAt, asIntOf, run_underlying hT, sizeOf, typeInfo, hi, hti, h0, hn, Value.at]

theorem q_fieldAddr {p q : Addr} {fs : Array Field} {fd : Field} {i : Nat} {n : Nat} (hx : ev (fr f s) x = .pointer (some p)) (hT : P.underlying t = some (.struct fs)) (hf : fs[i]? = some fd)
    (hsz : (P.info? fd.type).map (·.size) = some (n + 1)) (hq : p.add fd.offset = q) : Qt P J f s ⟨dst, .fieldAddr t x i, ty, pos, af, g⟩ (.pointer (some q)) := qt_val fun w _ => by
  obtain ⟨ti, hi, hti⟩ := mS hsz
  subst hq
  simp [execOp, hx, Instr.fieldAt, run_underlying hT, hf, Instr.sureAddr, fieldPlace, sizeOf, typeInfo, hi, hti]

def isAggD : TypeDesc → Bool
  | .struct _ | .array _ _ => true
  | _ => false
theorem run_isAgg {t : TypeId} {d : TypeDesc} (h : P.underlying t = some d) (w : World) : (isAgg t).run P w = .ok (isAggD d) w := by
  unfold isAgg
  rw [Sem.run_bind, run_underlying h]
  simp only [Result.andThen_ok]
  cases d <;> rfl

theorem q_load {p : Addr} {v : Value} {d : TypeDesc} (hx : ev (fr f s) x = .pointer (some p)) (hT : P.underlying t = some d) (hd : isAggD d = false) (hc : Cell J p v) :
    Qt P J f s ⟨dst, .load t x, ty, pos, af, g⟩ v := qt_val fun w hw => by
  simp [execOp, hx, Instr.loadAt, Instr.sureAddr, loadVar, run_isAgg hT, hd, hc w hw]

def Cells (J : Cls) (p : Addr) (cs : List Value) : Prop := ∀ j v, cs[j]? = some v → Cell J (p.add j) v
theorem q_loadAgg {p : Addr} {cs : List Value} {d : TypeDesc} {n : Nat} (hx : ev (fr f s) x = .pointer (some p)) (hT : P.underlying t = some d) (hd : isAggD d = true)
    (hsz : (P.info? t).map (·.size) = some n) (hn : cs.length = n) (hc : Cells J p cs) :
    Qt P J f s ⟨dst, .load t x, ty, pos, af, g⟩ (.agg cs.toArray) := qt_val fun w hw => by
  obtain ⟨ti, hi, hti⟩ := mS hsz
  have hl := run_loadCells_list (P := P) w p cs (fun j v hv => hc j v hv w hw)
  rw [hn] at hl
  simp [execOp, hx, Instr.loadAt, Instr.sureAddr, loadVar, run_isAgg hT, hd, sizeOf, typeInfo, hi, hti, hl]
end
end Go.K

/-! ## operations with an effect -/
namespace Go.K
open Go Go.RowKit
section
variable {P : Program} {Pn : List PanicEntry → World → Prop} {B : Bs} {Φ : Hp} {C : List Chunk} {f : Nat → Value} {s : List (Nat × Value)} {dst : Option Nat} {ty : TypeId} {pos : String} {af : Array Edge} {g : Option (Nat × Bool)}

theorem effX_val {R : Value → World → Prop} {r : Result Next} {v : Value} {w' : World} (h : r = .ok (.value v) w') (hR : R v w') : effX P Pn R r := by subst h; exact hR
theorem effX_skip {R : Value → World → Prop} {r : Result Next} {w' : World} (h : r = .ok .skip w') (hR : R undef w') : effX P Pn R r := by subst h; exact hR

theorem StP.alloc {w : World} (h : StP B Φ C w) (T : TypeId) (cs : Array Value) (c : Chunk) (hfp : c.fp = [w.heap.size]) (hc : c.sat (hp (w.alloc (.cells cs T)))) :
    StP B Φ (c :: C) (w.alloc (.cells cs T)) := by
  have hold : ∀ b, b < w.heap.size → (w.alloc (.cells cs T)).heap[b]? = w.heap[b]? := fun b hb => Below.heap_alloc w _ b hb
  refine h.step rfl rfl rfl (by simp) (fun b hb _ => hold b hb) (fun _ _ e => .inl e) ?_ ?_ ?_
  · intro c' hc'
    rcases List.mem_cons.1 hc' with rfl | hc'
    · exact hc
    · exact c'.loc _ _ (fun b hb => hold b (h.fp_lt (List.mem_flatMap.2 ⟨c', hc', hb⟩))) (h.sat c' hc')
  · refine List.pairwise_cons.2 ⟨fun d hd b hb hbd => ?_, h.sep⟩
    rw [hfp] at hb
    obtain rfl : b = w.heap.size := by simpa using hb
    have := h.fp_lt (List.mem_flatMap.2 ⟨d, hd, hbd⟩)
    omega
  · intro b hb
    simp only [List.flatMap_cons, hfp, List.singleton_append, List.mem_cons] at hb
    rcases hb with rfl | hb
    · refine ⟨?_, .inl h.size⟩
      cases hΦ : Φ w.heap.size with
      | none => rfl
      | some o => have := lt_of_some (h.phi _ _ hΦ); omega
    · exact h.away b hb

theorem hp_alloc_new (w : World) (o : Obj) : hp (w.alloc o) w.heap.size = some o := by
  show (w.heap.push o)[w.heap.size]? = _
  simp

theorem e_alloc {t : TypeId} {z : Value} (hz : (P.info? t).map (·.zero) = some (some z)) :
    ∀ w, (St B Φ C).p w → effX P Pn (fun v w' => ∃ b : Nat, v = .pointer (some ⟨b, 0, none⟩) ∧ (St B Φ (.blk b t z.cells.toList :: C)).p w') ((execOp (ev (fr f s)) ⟨dst, .alloc t, ty, pos, af, g⟩).run P w) := fun w hw => by
  obtain ⟨ti, hi, hti⟩ := mS hz
  refine effX_val (v := .pointer (some ⟨w.heap.size, 0, none⟩)) (w' := w.alloc (.cells z.cells t)) ?_ ⟨w.heap.size, rfl, hw.alloc t z.cells (.blk w.heap.size t z.cells.toList) rfl ?_⟩
  · simp [execOp, Instr.alloc, zeroValue, typeInfo, hi, hti, newVar, newRow]
  · show hp _ _ = _
    rw [hp_alloc_new]

theorem e_box {t : TypeId} {x : Operand} {v : Value} (hx : ev (fr f s) x = v) :
    ∀ w, (St B Φ C).p w → effX P Pn (fun u w' => ∃ b : Nat, u = .pointer (some ⟨b, 0, none⟩) ∧ (St B Φ (.blk b t v.cells.toList :: C)).p w') ((execOp (ev (fr f s)) ⟨dst, .box t x, ty, pos, af, g⟩).run P w) := fun w hw => by
  refine effX_val (v := .pointer (some ⟨w.heap.size, 0, none⟩)) (w' := w.alloc (.cells v.cells t)) ?_ ⟨w.heap.size, rfl, hw.alloc t v.cells (.blk w.heap.size t v.cells.toList) rfl ?_⟩
  · simp [execOp, hx, Instr.box, newVar, newRow]
  · show hp _ _ = _
    rw [hp_alloc_new]

/-! ### stores -/
def wset (w : World) (b : Nat) (o : Obj) : World := { w with heap := w.heap.setIfInBounds b o }
def splice (cs : List Value) (o : Nat) (vs : List Value) : List Value := cs.take o ++ vs ++ cs.drop (o + vs.length)

theorem setCell_wset {w : World} {b o : Nat} {cs : Array Value} {T : TypeId} (h : w.heap[b]? = some (.cells cs T (0, 0))) (v : Value) :
    w.setCell ⟨b, o, none⟩ v = wset w b (.cells (cs.setIfInBounds o v) T (0, 0)) := by
  have hb := lt_of_some h
  have hh : w.heap[b] = .cells cs T (0, 0) := by rw [Array.getElem?_eq_getElem hb] at h; exact sJ h
  unfold World.setCell wset
  congr 1
  apply Array.ext
  · simp
  · intro i h1 h2
    simp only [Array.getElem_modify]
    by_cases hi : b = i
    · subst hi; simp [hh]
    · rw [Array.getElem_setIfInBounds_ne (by simpa using h1) hi]; simp [hi]

theorem wset_get {w : World} {b : Nat} {o : Obj} (hb : b < w.heap.size) : (wset w b o).heap[b]? = some o := by simp [wset, hb]
theorem wset_ne {w : World} {b i : Nat} {o : Obj} (hi : i ≠ b) : (wset w b o).heap[i]? = w.heap[i]? := by simp [wset, Array.getElem?_setIfInBounds_ne (Ne.symm hi)]
theorem wset_wset {w : World} {b : Nat} {o o' : Obj} : wset (wset w b o) b o' = wset w b o' := by
  unfold wset
  congr 1
  apply Array.ext
  · simp
  · intro i h1 h2
    by_cases hi : b = i
    · subst hi; simp
    · have hs : i < w.heap.size := by simpa using h2
      rw [Array.getElem_setIfInBounds_ne (by simpa using hs) hi, Array.getElem_setIfInBounds_ne hs hi, Array.getElem_setIfInBounds_ne hs hi]

theorem run_storeCells {T : TypeId} {b : Nat} : ∀ (vs : List Value) (o i : Nat) (cs : Array Value) (w : World), w.heap[b]? = some (.cells cs T (0, 0)) → (∀ v ∈ vs, v.oneCell' = true) → o + i + vs.length ≤ cs.size →
    (storeCells ⟨b, o, none⟩ vs i).run P w = .ok () (wset w b (.cells (splice cs.toList (o + i) vs).toArray T (0, 0)))
  | [], o, i, cs, w, h, _, _ => by
    have : splice cs.toList (o + i) [] = cs.toList := by simp [splice]
    rw [this]
    have hb := lt_of_some h
    have hh : w.heap[b] = .cells cs T (0, 0) := by rw [Array.getElem?_eq_getElem hb] at h; exact sJ h
    have hw : wset w b (.cells cs.toList.toArray T (0, 0)) = w := by
      unfold wset
      have : w.heap.setIfInBounds b (.cells cs.toList.toArray T (0, 0)) = w.heap := by
        apply Array.ext
        · simp
        · intro i h1 h2
          by_cases hi : b = i
          · subst hi; simp [hh]
          · rw [Array.getElem_setIfInBounds_ne _ hi]
      rw [this]
    rw [hw]
    rfl
  | v :: vs, o, i, cs, w, h, h1, hn => by
    simp only [List.length_cons] at hn
    have ha : (⟨b, o, none⟩ : Addr).add i = ⟨b, o + i, none⟩ := by simp only [Addr.add]; split <;> simp_all
    have hc : w.cell? ⟨b, o + i, none⟩ = some (cs[o + i]'(by omega)) := by
      simp only [World.cell?, h]
      simp [show o + i < cs.size by omega]
    have hz : w.frozen? ⟨b, o + i, none⟩ = false := by simp only [World.frozen?, h]; simp
    have hb := lt_of_some h
    simp only [storeCells, Sem.run_bind, ha, run_store P w _ v .plain (h1 v (by simp)), hc, hz, Bool.false_eq_true, if_false, Result.andThen_ok]
    rw [setCell_wset h]
    rw [run_storeCells vs o (i + 1) _ _ (wset_get hb) (fun u hu => h1 u (by simp [hu])) (by simp; omega)]
    rw [wset_wset]
    congr 3
    simp only [splice, Array.toList_setIfInBounds, List.length_cons]
    rw [List.take_set, List.drop_set, show o + (i + 1) = o + i + 1 by omega, List.take_succ_eq_append_getElem (by simp; omega)]
    rw [List.set_append]
    have hl : (List.take (o + i) cs.toList).length = o + i := by simp; omega
    rw [hl]
    simp only [Nat.lt_irrefl, if_false, Nat.sub_self, List.set_cons_zero, List.append_assoc, List.cons_append, List.nil_append]
    rw [if_pos (by omega)]
    rw [show o + i + 1 + vs.length = o + i + (vs.length + 1) by omega]

theorem StP.wset {w : World} (h : StP B Φ C w) {i b : Nat} {c c' : Chunk} {o : Obj} (hi : C[i]? = some c) (hfp : c.fp = [b]) (hfp' : c'.fp = [b]) (hc : c'.sat (hp (wset w b o))) :
    StP B Φ (C.set i c') (wset w b o) := by
  have hil : i < C.length := (List.getElem?_eq_some_iff.1 hi).1
  have hci : C[i] = c := (List.getElem?_eq_some_iff.1 hi).2
  have hbm : b ∈ C.flatMap (·.fp) := List.mem_flatMap.2 ⟨c, List.mem_of_getElem? hi, by simp [hfp]⟩
  have hflat : (C.set i c').flatMap (·.fp) = C.flatMap (·.fp) := by
    rw [List.set_eq_take_append_cons_drop, if_pos hil]
    conv => rhs; rw [← List.take_append_drop i C, List.drop_eq_getElem_cons hil, hci]
    simp [List.flatMap_append, List.flatMap_cons, hfp, hfp']
  have hsep' : (C.set i c').Pairwise Chunk.apart := by
    rw [List.pairwise_iff_getElem]
    intro a d ha hd had
    have hp := List.pairwise_iff_getElem.1 h.sep a d (by simpa using ha) (by simpa using hd) had
    have hfs : ∀ (j : Nat) (hj : j < (C.set i c').length), (C.set i c')[j].fp = (C[j]'(by simpa using hj)).fp := fun j hj => by
      rw [List.getElem_set]
      by_cases hij : i = j
      · subst hij; rw [if_pos rfl, hci, hfp, hfp']
      · rw [if_neg hij]
    intro b hb
    rw [hfs] at hb ⊢
    exact hp b hb
  refine h.step rfl rfl rfl (by simp [Go.K.wset]) (fun k _ hk => wset_ne (fun e => hk (e ▸ hbm))) (fun _ _ e => .inl e) ?_ hsep' (by rw [hflat]; exact h.away)
  intro x hx
  obtain ⟨j, hj⟩ := List.mem_iff_getElem?.1 hx
  by_cases hji : i = j
  · subst hji
    rw [List.getElem?_set_self hil] at hj
    obtain rfl := sJ hj
    exact hc
  · rw [List.getElem?_set_ne hji] at hj
    have hxC := List.mem_of_getElem? hj
    refine x.loc _ _ (fun k hk => wset_ne (fun e => ?_)) (h.sat x hxC)
    subst e
    -- k is in both c and x
    have hp1 := List.pairwise_iff_getElem.1 h.sep
    have hjl : j < C.length := (List.getElem?_eq_some_iff.1 hj).1
    have hxj : C[j] = x := (List.getElem?_eq_some_iff.1 hj).2
    rcases Nat.lt_or_gt_of_ne hji with hlt | hlt
    · have := hp1 i j hil hjl hlt
      rw [hci, hxj] at this
      exact this k (by simp [hfp]) hk
    · have := hp1 j i hjl hil hlt
      rw [hci, hxj] at this
      exact this k hk (by simp [hfp])

theorem e_store {t T : TypeId} {x y : Operand} {b o : Nat} {v : Value} {cs cs' : List Value} {n : Nat} (i : Nat) (hi : C[i]? = some (.blk b T cs)) (hx : ev (fr f s) x = .pointer (some ⟨b, o, none⟩)) (hy : ev (fr f s) y = v)
    (hsz : (P.info? t).map (·.size) = some n) (hv : v.cells.size = n) (h1 : v.cells.toList.all Value.oneCell' = true) (hn : Nat.ble (o + n) cs.length = true) (hcs : splice cs o v.cells.toList = cs') {C' : List Chunk} (hC' : C.set i (.blk b T cs') = C') :
    ∀ w, (St B Φ C).p w → effX P Pn (fun _ w' => (St B Φ C').p w') ((execOp (ev (fr f s)) ⟨dst, .store t x y, ty, pos, af, g⟩).run P w) := fun w hw => by
  subst hC'
  obtain ⟨ti, hti, hts⟩ := mS hsz
  have hs : hp w b = some (.cells cs.toArray T (0, 0)) := hw.sat _ (List.mem_of_getElem? hi)
  have hn' : o + n ≤ cs.length := by simpa using hn
  have hr := run_storeCells (P := P) (T := T) (b := b) v.cells.toList o 0 cs.toArray w hs (List.all_eq_true.1 h1) (by simp [hv]; omega)
  refine effX_skip (w' := Go.K.wset w b (.cells cs'.toArray T (0, 0))) ?_ ?_
  · subst hcs
    simp only [Nat.add_zero] at hr
    simp [execOp, hx, hy, Instr.storeAt, Instr.sureAddr, storeVar, sizeOf, typeInfo, hti, hts, hv, hr]
  · refine StP.wset hw hi rfl rfl ?_
    exact wset_get (lt_of_some hs)

theorem e_storeRow {t T : TypeId} {x y : Operand} {v u : Value} {k sz m : Nat} {xs xs' : List Value} {n : Nat} (i : Nat) (hi : C[i]? = some (.row u T sz m xs)) (hx : ev (fr f s) x = .pointer (some (Value.at u k))) (hy : ev (fr f s) y = v)
    (hsz : (P.info? t).map (·.size) = some (n + 1)) (hv : v.cells.size = n + 1) (h1 : v.cells.toList.all Value.oneCell' = true) (hn : k + (n + 1) ≤ xs.length) (hxs : splice xs k v.cells.toList = xs') {C' : List Chunk} (hC' : C.set i (.row u T sz m xs') = C') :
    ∀ w, (St B Φ C).p w → effX P Pn (fun _ w' => (St B Φ C').p w') ((execOp (ev (fr f s)) ⟨dst, .store t x y, ty, pos, af, g⟩).run P w) := fun w hw => by
  subst hC'
  obtain ⟨ti, hti, hts⟩ := mS hsz
  have hs : RowS (hp w) u T sz m xs := hw.sat _ (List.mem_of_getElem? hi)
  obtain ⟨hl, hs⟩ := hs
  rcases hs with ⟨rfl, rfl⟩ | ⟨gb, cap, cur, rfl, h2, h3, h4, h5, h6⟩
  · omega
  · have ha : Value.at (.slice (some ⟨gb, 0, none⟩) m cap) k = ⟨gb, k, none⟩ := by simp only [Value.at, Addr.add]; split <;> simp_all
    rw [ha] at hx
    have hvl : v.cells.toList.length = n + 1 := by simpa using hv
    have hcur : m * sz ≤ cur.size := by rw [h5]; exact Nat.mul_le_mul_right _ h3
    have hr := run_storeCells (P := P) (T := T) (b := gb) v.cells.toList k 0 cur w h2 (List.all_eq_true.1 h1) (by simp [hv]; omega)
    refine effX_skip (w' := Go.K.wset w gb (.cells (splice cur.toList k v.cells.toList).toArray T (0, 0))) ?_ ?_
    · simp only [Nat.add_zero] at hr
      simp [execOp, hx, hy, Instr.storeAt, Instr.sureAddr, storeVar, sizeOf, typeInfo, hti, hts, hv, hr]
    · refine StP.wset (i := i) (b := gb) hw hi (by simp [Chunk.row, blks]) (by simp [Chunk.row, blks]) ?_
      have hsl : (splice cur.toList k v.cells.toList).length = cur.size := by
        simp only [splice, List.length_append, List.length_take, List.length_drop, hvl, Array.length_toList]; omega
      have hxl : xs'.length = xs.length := by
        rw [← hxs]; simp only [splice, List.length_append, List.length_take, List.length_drop, hvl]; omega
      refine ⟨by rw [hxl]; exact hl, .inr ⟨gb, cap, _, rfl, wset_get (lt_of_some h2), h3, h4, by simp only [List.size_toArray, hsl, h5], ?_⟩⟩
      rw [← hxs, ← h6]
      simp only [splice, hvl]
      have hkl : k ≤ m * sz := by omega
      rw [List.take_append, List.take_append]
      simp only [List.length_append, List.length_take, Array.length_toList, hvl]
      rw [List.take_take, List.take_take, Nat.min_eq_right hkl, Nat.min_eq_left hkl, Nat.min_eq_left (by omega), List.drop_take]
      rw [List.take_of_length_le (l := v.cells.toList) (by rw [hvl]; omega)]

end
end Go.K

namespace Go.K
open Go Go.RowKit
section
variable {P : Program} {Pn : List PanicEntry → World → Prop} {B : Bs} {Φ : Hp} {C : List Chunk} {f : Nat → Value} {s : List (Nat × Value)} {dst : Option Nat} {ty : TypeId} {pos : String} {af : Array Edge} {g : Option (Nat × Bool)}

theorem madeCells_size (z : Array Value) (n : Nat) : (madeCells z n).size = n := by simp [madeCells]
theorem madeCells_one (z : Value) (n : Nat) : (madeCells #[z] n).toList = List.replicate n z := by
  apply List.ext_getElem
  · simp [madeCells]
  · intro i h1 h2
    simp [madeCells, Nat.mod_one]

theorem e_makeSlice {t e : TypeId} {x y : Operand} {l c n : Nat} {z : Value} {sz bytes : Nat} {xs : List Value} (hx : ev (fr f s) x = .int .i64 l) (hy : ev (fr f s) y = .int .i64 c) (hT : P.underlying t = some (.slice e))
    (hi : (P.info? e).map (fun i => (i.zero, i.size, i.bytes)) = some (some z, sz, bytes)) (hlc : l ≤ c) (hb : bytes * c ≤ 281474976710656) (hc : c ≤ 9223372036854775807) (hn : l * sz = n)
    (hxs : (madeCells z.cells (c * sz)).toList.take n = xs) :
    ∀ w, (St B Φ C).p w → effX P Pn (fun v w' => ∃ b : Nat, v = .slice (some ⟨b, 0, none⟩) l c ∧ (St B Φ (.row (.slice (some ⟨b, 0, none⟩) l c) e sz l xs :: C)).p w') ((execOp (ev (fr f s)) ⟨dst, .makeSlice t x y, ty, pos, af, g⟩).run P w) := fun w hw => by
  obtain ⟨ti, hti, hz, hs, hby⟩ := info_parts hi
  have hb' : (ti.bytes : Int) * (c : Int) ≤ 281474976710656 := by
    have h : ((bytes * c : Nat) : Int) ≤ 281474976710656 := by omega
    rw [hby]; rwa [Int.natCast_mul] at h
  have hr := run_make (P := P) w t e ti z hT hti hz .i64 .i64 (l : Int) (c : Int) (by omega) (by omega) hb' (by omega)
  simp only [Int.toNat_natCast, hs] at hr
  refine effX_val (v := .slice (some ⟨w.heap.size, 0, none⟩) l c) (w' := w.alloc (.cells (madeCells z.cells (c * sz)) e)) ?_ ⟨w.heap.size, rfl, hw.alloc e _ (.row (.slice (some ⟨w.heap.size, 0, none⟩) l c) e sz l xs) (by simp [Chunk.row, blks]) ?_⟩
  · simp only [execOp, hx, hy, hr, Sem.run_bind, Result.andThen_ok, Sem.run_pure]
  · subst hn
    have hle : l * sz ≤ c * sz := Nat.mul_le_mul_right _ hlc
    refine ⟨?_, .inr ⟨w.heap.size, c, _, rfl, hp_alloc_new w _, hlc, by simp only [maxLen]; omega, madeCells_size _ _, hxs⟩⟩
    rw [← hxs, List.length_take, Array.length_toList, madeCells_size]; omega

theorem e_buildSlice {t e : TypeId} {len : Nat} {parts : Array (Nat × Operand)} {vals : List (Nat × Value)} {z : Value} {sz bytes : Nat} {cells : List Value} (hT : P.underlying t = some (.slice e))
    (hi : (P.info? e).map (fun i => (i.zero, i.size, i.bytes)) = some (some z, sz, bytes)) (hv : parts.toList.map (fun p => (p.1, ev (fr f s) p.2)) = vals) (hpos : Nat.ble 1 (len * sz) = true) (hsmall : Nat.ble (len * sz) 16777216 = true)
    (hf : Instr.fill (fun i => some (i * sz, sz)) ((Array.range (len * sz)).map (z.cells[· % z.cells.size]!)) vals = some cells.toArray) (hl : cells.length = len * sz) :
    ∀ w, (St B Φ C).p w → effX P Pn (fun v w' => ∃ b : Nat, v = .slice (some ⟨b, 0, none⟩) len len ∧ (St B Φ (.row (.slice (some ⟨b, 0, none⟩) len len) e sz len cells :: C)).p w') ((execOp (ev (fr f s)) ⟨dst, .buildSlice t len parts, ty, pos, af, g⟩).run P w) := fun w hw => by
  have hv' : (parts.map (fun (i, x) => (i, ev (fr f s) x))) = vals.toArray := by rw [← hv]; apply Array.ext'; simp
  obtain ⟨ti, hti, hz, hs, hby⟩ := info_parts hi
  have hp : 1 ≤ len * sz := by simpa using hpos
  have hsm : len * sz ≤ 16777216 := by simpa using hsmall
  have hsz : 1 ≤ sz := by
    rcases Nat.eq_zero_or_pos sz with h0 | h0
    · subst h0; simp at hp
    · exact h0
  have hlen : len ≤ 16777216 := Nat.le_trans (Nat.le_mul_of_pos_right _ hsz) hsm
  refine effX_val (v := .slice (some ⟨w.heap.size, 0, none⟩) len len) (w' := w.alloc (.cells cells.toArray e)) ?_ ⟨w.heap.size, rfl, hw.alloc e _ (.row (.slice (some ⟨w.heap.size, 0, none⟩) len len) e sz len cells) (by simp [Chunk.row, blks]) ?_⟩
  · have h1 : ¬ (len * sz > 2 ^ 24) := by omega
    have h2 : ¬ (len * sz = 0) := by omega
    simp [execOp, Instr.buildSlice, hv', run_underlying hT, sizeOf, typeInfo, hti, hs, h1, h2, zeroValue, hz, hf, newRow]
  · exact ⟨hl, .inr ⟨w.heap.size, len, _, rfl, hp_alloc_new w _, Nat.le_refl _, by simp only [maxLen]; omega, by simpa using hl, by rw [← hl]; simp⟩⟩

theorem append_drawn {P : Program} (w : World) (base : Nat) (t ty e : TypeId) (i : TypeInfo) (z : Value) (size bytes : Nat) (ht : P.underlying t = some (.slice e)) (hi : P.info? e = some i) (hz : i.zero = some z)
    (hsize : i.size = size) (hby : i.bytes = bytes) (_hzs : z.cells.size = size) (_hsz : 0 < size) (v : Value) (n : Nat) (xs : List Value) (hown : w.ownsRow base e size v n xs)
    (a : Addr) (m c : Nat) (news : List Value) (hl : news.length = m * size) (hnews : ∀ j u, news[j]? = some u → w.cell? (a.add j) = some u) (h1 : ∀ u ∈ news, u.oneCell' = true)
    (h63 : n + m ≤ maxLen) (hbytes : (n + m) * bytes ≤ 140737488355328) (v' : Value) (w' : World) (hrun : (Builtin.append_ #[t, t] ty #[v, .slice (some a) m c]).run P w = .ok v' w') : w.drawn ≤ w'.drawn := by
  subst hsize
  subst hby
  have hsmall : n + m ≤ 9223372036854775807 := by simp only [maxLen] at h63; omega
  have key : ∀ {u : Value} {x : World}, (Builtin.append_ #[t, t] ty #[v, .slice (some a) m c]).run P w = .ok u x → w.drawn ≤ x.drawn → w.drawn ≤ w'.drawn := fun h hd => by
    rw [h] at hrun
    injection hrun with _ e2
    rw [← e2]; exact hd
  rcases hown.2 with ⟨rfl, rfl⟩ | ⟨g, cap, cur, rfl, hbg, hg, hnc, hcm, hcs, htake⟩
  · by_cases hm : m = 0
    · subst hm
      have hr : (Builtin.append_ #[t, t] ty #[.slice none 0 0, .slice (some a) 0 c]).run P w = .ok (.slice none 0 0) w := by
        simp [Builtin.append_, run_underlying ht, sizeOf, typeInfo, hi, Builtin.lenOf, Builtin.firstCells, loadCells, loadCellsFrom]
      exact key hr (Nat.le_refl _)
    · exact key (run_append_nil (P := P) w t ty e i z ht hi hz a m c news hl hnews (by omega) (by omega) (by have hb := hbytes; simp only [Nat.zero_add] at hb; omega)) (Nat.le_succ _)
  · by_cases hroom : n + m ≤ cap
    · have hfit : n * i.size + news.length ≤ cur.size := by rw [hl, hcs, ← Nat.add_mul]; exact Nat.mul_le_mul_right _ hroom
      exact key (run_append_room (P := P) w t ty e i ht hi g n cap cur hg a m c news hl hnews h1 hroom hfit) (Nat.le_refl _)
    · have holds : ∀ j u, xs[j]? = some u → w.cell? ((⟨g, 0, none⟩ : Addr).add j) = some u := hown.cells (g := g) rfl
      exact key (run_append_grow (P := P) w t ty e i z ht hi hz ⟨g, 0, none⟩ n cap xs hown.1 holds a m c news hl hnews (by omega) (by omega) (growslice_fits (by omega) hbytes)) (Nat.le_succ _)
theorem StP.grown {w w' : World} (h : StP B Φ C w) {i : Nat} {v v' : Value} {T : TypeId} {sz n n' : Nat} {xs xs' : List Value} (hi : C[i]? = some (.row v T sz n xs)) (hg : w.grownBy w' v.ownBlock)
    (hs : RowS (hp w') v' T sz n' xs') (hv : v'.ownBlock = v.ownBlock ∨ v'.ownBlock = some w.heap.size) (hdr : w.drawn * Kd ≤ w'.drawn * Kd) : StP B Φ (C.set i (.row v' T sz n' xs')) w' := by
  have hil : i < C.length := (List.getElem?_eq_some_iff.1 hi).1
  have hci : C[i] = .row v T sz n xs := (List.getElem?_eq_some_iff.1 hi).2
  have hob : ∀ u : Value, blks u = u.ownBlock.toList := fun u => by
    cases u with
    | slice a n c => cases a <;> rfl
    | _ => rfl
  have hold : ∀ b, b < w.heap.size → b ∉ C.flatMap (·.fp) → w'.heap[b]? = w.heap[b]? := fun b hb hm => hg.block b hb (fun e => hm (List.mem_flatMap.2 ⟨_, List.mem_of_getElem? hi, by
    show b ∈ blks v
    rw [hob, ← e]; simp⟩))
  have hp1 := List.pairwise_iff_getElem.1 h.sep
  have hother : ∀ j, i ≠ j → ∀ (hj : j < C.length), ∀ b ∈ C[j].fp, b ∉ blks v := fun j hij hj b hb hbv => by
    rcases Nat.lt_or_gt_of_ne hij with hlt | hlt
    · have := hp1 i j hil hj hlt
      rw [hci] at this
      exact this b hbv hb
    · have := hp1 j i hj hil hlt
      rw [hci] at this
      exact this b hb hbv
  have hin : ∀ j (hj : j < C.length), ∀ b ∈ C[j].fp, b < w.heap.size := fun j hj b hb => h.fp_lt (List.mem_flatMap.2 ⟨_, List.getElem_mem hj, hb⟩)
  have hv' : ∀ b ∈ blks v', b ∈ blks v ∨ b = w.heap.size := fun b hb => by
    rw [hob] at hb ⊢
    rcases hv with e | e
    · rw [e] at hb; exact .inl hb
    · rw [e] at hb; exact .inr (by simpa using hb)
  have hmem : ∀ x ∈ C.set i (.row v' T sz n' xs'), x = .row v' T sz n' xs' ∨ ∃ j, i ≠ j ∧ ∃ hj : j < C.length, C[j] = x := fun x hx => by
    obtain ⟨j, hj⟩ := List.mem_iff_getElem?.1 hx
    by_cases hji : i = j
    · subst hji
      rw [List.getElem?_set_self hil] at hj
      exact .inl (sJ hj).symm
    · rw [List.getElem?_set_ne hji] at hj
      exact .inr ⟨j, hji, (List.getElem?_eq_some_iff.1 hj).1, (List.getElem?_eq_some_iff.1 hj).2⟩
  refine h.step hg.os hg.tape hg.output hg.size hold (fun _ _ e => .inl e) ?_ ?_ ?_ hdr
  · intro x hx
    rcases hmem x hx with rfl | ⟨j, hij, hj, rfl⟩
    · exact hs
    · refine C[j].loc _ _ (fun b hb => hg.block b (hin j hj b hb) (fun e => hother j hij hj b hb (by rw [hob, ← e]; simp))) (h.sat _ (List.getElem_mem hj))
  · rw [List.pairwise_iff_getElem]
    intro a b ha hb hab
    simp only [List.length_set] at ha hb
    rw [List.getElem_set, List.getElem_set]
    intro k hk1 hk2
    by_cases hia : i = a
    · have hib : i ≠ b := by omega
      rw [if_pos hia] at hk1
      rw [if_neg hib] at hk2
      rcases hv' k hk1 with h1 | h1
      · exact hother b hib hb k hk2 h1
      · have := hin b hb k hk2; omega
    · rw [if_neg hia] at hk1
      by_cases hib : i = b
      · rw [if_pos hib] at hk2
        rcases hv' k hk2 with h1 | h1
        · exact hother a hia ha k hk1 h1
        · have := hin a ha k hk1; omega
      · rw [if_neg hib] at hk2
        exact hp1 a b ha hb hab k hk1 hk2
  · intro b hb
    obtain ⟨x, hx, hbx⟩ := List.mem_flatMap.1 hb
    rcases hmem x hx with rfl | ⟨j, hij, hj, rfl⟩
    · rcases hv' b hbx with h1 | h1
      · exact h.away b (List.mem_flatMap.2 ⟨_, List.mem_of_getElem? hi, h1⟩)
      · subst h1
        refine ⟨?_, .inl h.size⟩
        cases hΦ : Φ w.heap.size with
        | none => rfl
        | some o => have := lt_of_some (h.phi _ _ hΦ); omega
    · exact h.away b (List.mem_flatMap.2 ⟨_, List.getElem_mem hj, hbx⟩)

theorem e_append {t e : TypeId} {x y : Operand} {v : Value} {a : Addr} {m c n sz bytes : Nat} {z : Value} {xs news : List Value} (i : Nat) (hi : C[i]? = some (.row v e sz n xs)) (hx : ev (fr f s) x = v)
    (hy : ev (fr f s) y = .slice (some a) m c) (hT : P.underlying t = some (.slice e)) (hinfo : (P.info? e).map (fun i => (i.zero, i.size, i.bytes)) = some (some z, sz, bytes)) (hzs : z.cells.size = sz) (hsz : Nat.ble 1 sz = true)
    (hnl : news.length = m * sz) (hnews : Cells (St B Φ C) a news) (h1 : news.all Value.oneCell' = true) (hlen : n + m ≤ 9223372036854775807) (hbytes : (n + m) * bytes ≤ 140737488355328)
    {C' : {v' : Value // IsSl v' (n + m)} → List Chunk} (hC' : ∀ v' : {v' : Value // IsSl v' (n + m)}, C.set i (.row v'.1 e sz (n + m) (xs ++ news)) = C' v') :
    ∀ w, (St B Φ C).p w → effX P Pn (fun u w' => ∃ v' : {v' : Value // IsSl v' (n + m)}, u = v'.1 ∧ (St B Φ (C' v')).p w')
      ((execOp (ev (fr f s)) ⟨dst, .call { callee := .builtin .append, args := #[x, y], argTypes := #[t, t] }, ty, pos, af, g⟩).run P w) := fun w hw => by
  obtain ⟨ti, hti, hz, hs, hby⟩ := info_parts hinfo
  have hown : w.ownsRow 0 e sz v n xs := RowS.owns (hw.sat _ (List.mem_of_getElem? hi))
  obtain ⟨v', w', hrun, how, hgr, _, hat⟩ := run_append_own_at (P := P) w 0 t ty e ti z sz bytes hT hti hz hs hby hzs (by have := Nat.le_of_ble_eq_true hsz; omega) v n xs hown a m c news hnl (fun j u hj => hnews j u hj w hw) (List.all_eq_true.1 h1)
    (by simp only [maxLen]; omega) hbytes (Nat.zero_le _)
  have hrs : RowS (hp w') v' e sz (n + m) (xs ++ news) := RowS.of_owns how
  refine effX_val (v := v') (w' := w') ?_ ⟨⟨v', hrs.isSl⟩, rfl, by rw [← hC']; exact StP.grown hw hi hgr hrs hat (Nat.mul_le_mul_right _ (append_drawn w 0 t ty e ti z sz bytes hT hti hz hs hby hzs (by have := Nat.le_of_ble_eq_true hsz; omega) v n xs hown a m c news hnl (fun j u hj => hnews j u hj w hw) (List.all_eq_true.1 h1) (by simp only [maxLen]; omega) hbytes v' w' hrun))⟩
  simp only [execOp, resolve, invoke, builtin, Sem.run_bind, Sem.run_pure, Result.andThen_ok, List.map_toArray, List.map_cons, List.map_nil, hx, hy, hrun]

/-! ### calls -/
def Own (P : Program) (k : FuncId) : Prop := ∃ fn, P.funcs[k]? = some fn ∧ (fn.name == "runtime.NumGoroutine") = false ∧ fn.body.isNone = false
theorem own_of {k : FuncId} (h : (P.funcs[k]?).map (fun fn => fn.name == "runtime.NumGoroutine" || fn.body.isNone) = some false) : Own P k := by
  obtain ⟨fn, h1, h2⟩ := mS h
  simp only [Bool.or_eq_false_iff] at h2
  exact ⟨fn, h1, h2.1, h2.2⟩

theorem run_call {x : Operand} {xs : Array Operand} {ts : Array TypeId} {k : FuncId} {first capt args : Array Value} (hk : Own P k) (hx : ev (fr f s) x = .func (.func k) first capt) (ha : first.toList ++ xs.toList.map (ev (fr f s)) ++ capt.toList = args.toList) (w : World) :
    (execOp (ev (fr f s)) ⟨dst, .call { callee := .value x, args := xs, argTypes := ts }, ty, pos, af, g⟩).run P w = .ok (.enter k args) w := by
  obtain ⟨fn, h1, h2, h3⟩ := hk
  obtain rfl : first ++ xs.map (ev (fr f s)) ++ capt = args := by apply Array.ext'; simpa using ha
  have h2' : ¬ fn.name = "runtime.NumGoroutine" := by simpa using h2
  have h3' : ¬ fn.body = none := by intro e; rw [e] at h3; cases h3
  simp [execOp, resolve, hx, Deferred.ofValue, invoke, callFunc, h1, h2', h3']

theorem q_call {J : Cls} {x : Operand} {xs : Array Operand} {ts : Array TypeId} {k : FuncId} {first capt args : Array Value} {v : Value} (hk : Own P k) (hx : ev (fr f s) x = .func (.func k) first capt) (ha : first.toList ++ xs.toList.map (ev (fr f s)) ++ capt.toList = args.toList)
    (h : ∀ w, J.p w → Calls P k args w fun e w' => e = .returned v ∧ Bel w.heap.size w w') :
    Qt P J f s ⟨dst, .call { callee := .value x, args := xs, argTypes := ts }, ty, pos, af, g⟩ v := fun w hw => by
  rw [run_call hk hx ha]; exact ⟨rfl, h w hw⟩

theorem e_call {J : Cls} {X : Type} {V : X → Value} {J' : X → Cls} {x : Operand} {xs : Array Operand} {ts : Array TypeId} {k : FuncId} {first capt args : Array Value} (hk : Own P k) (hx : ev (fr f s) x = .func (.func k) first capt) (ha : first.toList ++ xs.toList.map (ev (fr f s)) ++ capt.toList = args.toList)
    (h : ∀ w, J.p w → Calls P k args w fun e w' => ∃ y, e = .returned (V y) ∧ (J' y).p w') :
    ∀ w, J.p w → effX P Pn (fun v w' => ∃ y, v = V y ∧ (J' y).p w') ((execOp (ev (fr f s)) ⟨dst, .call { callee := .value x, args := xs, argTypes := ts }, ty, pos, af, g⟩).run P w) := fun w hw => by
  rw [run_call hk hx ha]
  exact (h w hw).mono fun e w' ⟨y, he, hy⟩ => .inl ⟨V y, he, y, rfl, hy⟩

theorem e_callP {J : Cls} {X : Type} {V : X → Value} {J' : X → Cls} {x : Operand} {xs : Array Operand} {ts : Array TypeId} {k : FuncId} {first capt args : Array Value} (hk : Own P k) (hx : ev (fr f s) x = .func (.func k) first capt) (ha : first.toList ++ xs.toList.map (ev (fr f s)) ++ capt.toList = args.toList)
    (h : ∀ w, J.p w → Calls P k args w fun e w' => (∃ y, e = .returned (V y) ∧ (J' y).p w') ∨ ∃ c, e = .panicked c ∧ Pn c w') :
    ∀ w, J.p w → effX P Pn (fun v w' => ∃ y, v = V y ∧ (J' y).p w') ((execOp (ev (fr f s)) ⟨dst, .call { callee := .value x, args := xs, argTypes := ts }, ty, pos, af, g⟩).run P w) := fun w hw => by
  rw [run_call hk hx ha]
  exact (h w hw).mono fun e w' hh => hh.imp (fun ⟨y, he, hy⟩ => ⟨V y, he, y, rfl, hy⟩) id

def RetS (Φ : Hp) (w : World) (T : Value → Hp → Prop) : Ending → World → Prop := fun e w' => ∃ v, e = .returned v ∧ Bel w.heap.size w w' ∧ T v (Go.K.ext Φ w.heap.size w')

theorem StP.call {w w' : World} (h : StP B Φ C w) (hb : Bel w.heap.size w w') : StP B (Go.K.ext Φ w.heap.size w') C w' := by
  have hΦ : ∀ b o, Φ b = some o → b < w.heap.size := fun b o e => lt_of_some (h.phi b o e)
  refine h.step hb.os hb.tape hb.output hb.size (fun b hlt _ => hb.block b hlt) ?_ (fun c hc => c.loc _ _ (fun b hbc => hb.block b (h.fp_lt (List.mem_flatMap.2 ⟨c, hc, hbc⟩))) (h.sat c hc)) h.sep ?_ hb.drawn
  · intro b o e
    unfold Go.K.ext at e
    by_cases hlt : b < w.heap.size
    · rw [if_pos hlt] at e; exact .inl e
    · rw [if_neg hlt] at e; exact .inr ⟨by have := h.size; omega, e⟩
  · intro b hbm
    refine ⟨?_, (h.away b hbm).2⟩
    unfold Go.K.ext
    rw [if_pos (h.fp_lt hbm)]
    exact (h.away b hbm).1
theorem le_ext {w w' : World} (_ : Bel w.heap.size w w') (h : Hp.le Φ (hp w)) : Hp.le Φ (Go.K.ext Φ w.heap.size w') := fun b o e => by
  unfold Go.K.ext
  rw [if_pos (lt_of_some (h b o e))]; exact e
theorem e_callS {x : Operand} {xs : Array Operand} {ts : Array TypeId} {k : FuncId} {first capt args : Array Value} {T : Value → Hp → Prop} (hk : Own P k) (hx : ev (fr f s) x = .func (.func k) first capt) (ha : first.toList ++ xs.toList.map (ev (fr f s)) ++ capt.toList = args.toList)
    (h : ∀ w, (St B Φ C).p w → Calls P k args w (RetS Φ w T)) :
    ∀ w, (St B Φ C).p w → effX P Pn (fun v w' => ∃ y : {y : Value × Hp // T y.1 y.2 ∧ Hp.le Φ y.2}, v = y.1.1 ∧ (St B y.1.2 C).p w') ((execOp (ev (fr f s)) ⟨dst, .call { callee := .value x, args := xs, argTypes := ts }, ty, pos, af, g⟩).run P w) :=
  e_call (V := fun y : {y : Value × Hp // T y.1 y.2 ∧ Hp.le Φ y.2} => y.1.1) (J' := fun y => St B y.1.2 C) hk hx ha fun w hw => (h w hw).mono fun _ w' ⟨v, he, hb, hT⟩ =>
    ⟨⟨(v, Go.K.ext Φ w.heap.size w'), hT, le_ext hb hw.phi⟩, he, hw.call hb⟩

end

/-! ### data in memory -/
class Rep (α : Type) where
  sz : Nat
  bytes : Nat
  rep : Hp → α → List Value → Prop
  len : ∀ {Φ x cs}, rep Φ x cs → cs.length = sz
  mono : ∀ {Φ Ψ x cs}, Hp.le Φ Ψ → rep Φ x cs → rep Ψ x cs
  one : ∀ {Φ x cs}, rep Φ x cs → ∀ u ∈ cs, u.oneCell' = true

instance : Rep Int where
  sz := 1
  bytes := 8
  rep := fun _ n cs => cs = [.int .i64 n] ∧ I64 n
  len := fun h => by rw [h.1]; rfl
  mono := fun _ h => h
  one := fun h u hu => by rw [h.1] at hu; obtain rfl : u = _ := by simpa using hu
                          rfl
instance : Rep Bool where
  sz := 1
  bytes := 1
  rep := fun _ n cs => cs = [.bool n]
  len := fun h => by rw [h]; rfl
  mono := fun _ h => h
  one := fun h u hu => by rw [h] at hu; obtain rfl : u = _ := by simpa using hu
                          rfl

def maxSl : Nat := 140737488355328
structure RepSl {α : Type} [Rep α] (Φ : Hp) (xs : List α) (v : Value) : Prop where
  sl : IsSl v xs.length
  max : xs.length * Rep.bytes α ≤ maxSl
  at_ : ∀ i (h : i < xs.length), ∃ cs, Rep.rep Φ xs[i] cs ∧ ∀ j u, cs[j]? = some u → PCell Φ (Value.at v (i * Rep.sz α + j)) u

theorem RepSl.mono {α : Type} [Rep α] {Φ Ψ : Hp} {xs : List α} {v : Value} (h : RepSl Φ xs v) (hl : Hp.le Φ Ψ) : RepSl Ψ xs v :=
  ⟨h.sl, h.max, fun i hi => let ⟨cs, h1, h2⟩ := h.at_ i hi; ⟨cs, Rep.mono hl h1, fun j u hj => (h2 j u hj).mono hl⟩⟩

instance {α : Type} [Rep α] : Rep (List α) where
  sz := 1
  bytes := 24
  rep := fun Φ xs cs => ∃ v, cs = [v] ∧ RepSl Φ xs v
  len := fun ⟨v, h, _⟩ => by rw [h]; rfl
  mono := fun hl ⟨v, h, hr⟩ => ⟨v, h, hr.mono hl⟩
  one := fun ⟨v, h, hr⟩ u hu => by
    rw [h] at hu; obtain rfl : u = v := by simpa using hu
    obtain ⟨A, c, rfl, _⟩ := hr.sl; rfl

theorem RepSl.int {Φ : Hp} {xs : List Int} {v : Value} (h : RepSl Φ xs v) {i : Nat} (hi : i < xs.length) : PCell Φ (Value.at v i) (.int .i64 xs[i]) ∧ I64 xs[i] := by
  obtain ⟨cs, ⟨h1, h2⟩, h3⟩ := h.at_ i hi
  have := h3 0 (.int .i64 xs[i]) (by rw [h1]; rfl)
  exact ⟨by simpa [Rep.sz] using this, h2⟩

theorem RowS.rep {α : Type} [Rep α] {Φ : Hp} {v : Value} {T : TypeId} {n : Nat} {cells : List Value} {xs : List α} (h : RowS Φ v T (Rep.sz α) n cells) (hn : xs.length = n) (hm : n * Rep.bytes α ≤ maxSl)
    (hr : ∀ i (hi : i < xs.length), ∃ cs, Rep.rep Φ xs[i] cs ∧ ∀ j u, cs[j]? = some u → cells[i * Rep.sz α + j]? = some u) : RepSl Φ xs v := by
  refine ⟨by rw [hn]; exact h.isSl, by rw [hn]; exact hm, fun i hi => ?_⟩
  obtain ⟨cs, h1, h2⟩ := hr i hi
  refine ⟨cs, h1, fun j u hj => ?_⟩
  have hc := h2 j u hj
  obtain ⟨hl, hs⟩ := h
  rcases hs with ⟨rfl, rfl⟩ | ⟨g, cap, cur, rfl, h2, h3, h4, h5, h6⟩
  · omega
  · have ha : Value.at (.slice (some ⟨g, 0, none⟩) n cap) (i * Rep.sz α + j) = ⟨g, i * Rep.sz α + j, none⟩ := by
      simp only [Value.at, Addr.add]; split <;> simp_all
    rw [ha]
    refine ⟨cur, T, (0, 0), h2, rfl, ?_⟩
    rw [← h6] at hc
    simp only [List.getElem?_take] at hc
    split at hc
    · simpa using hc
    · cases hc

theorem RowS.ints {Φ : Hp} {v : Value} {T : TypeId} {n : Nat} {xs : List Int} (h : RowS Φ v T 1 n (xs.map (Value.int .i64))) (hm : n * 8 ≤ maxSl) (hr : ∀ x ∈ xs, I64 x) : RepSl Φ xs v := by
  refine RowS.rep (α := Int) h (by have := h.1; simpa using this) hm fun i hi => ⟨[.int .i64 xs[i]], ⟨rfl, hr _ (List.getElem_mem hi)⟩, fun j u hj => ?_⟩
  match j, hj with
  | 0, hj =>
    obtain rfl : Value.int .i64 xs[i] = u := by simpa using hj
    show (xs.map (Value.int .i64))[i * 1 + 0]? = _
    simp [hi]

theorem pkAndT {q r : Bool} (h : q = true) : Value.bool r = .bool (q && r) := by subst h; rfl
theorem pkAndF {q r : Bool} (h : q = false) : Value.bool false = .bool (q && r) := by subst h; rfl
theorem pkOrT {q r : Bool} (h : q = true) : Value.bool true = .bool (q || r) := by subst h; rfl
theorem pkOrF {q r : Bool} (h : q = false) : Value.bool r = .bool (q || r) := by subst h; rfl
/-! ### small things for the walks -/
theorem isSl_nil : IsSl (.slice none 0 0) 0 := ⟨none, 0, rfl, fun h => by omega, Nat.le_refl _⟩
theorem isSl_mk {a : Addr} {n c : Nat} (h : n ≤ c := by first | exact Nat.le_refl _ | exact Nat.zero_le _ | omega) : IsSl (.slice (some a) n c) n := ⟨some a, c, rfl, fun _ => rfl, h⟩
theorem made_int {n c m : Nat} (h : n ≤ c) (hm : m = n * 1 := by rfl) : (madeCells (Value.int .i64 0).cells (c * 1)).toList.take m = (List.replicate n (0 : Int)).map (Value.int .i64) := by
  subst hm
  show (madeCells #[Value.int .i64 0] (c * 1)).toList.take (n * 1) = _
  rw [madeCells_one]; simp [List.take_replicate, Nat.min_eq_left h]
theorem made_bool {n c m : Nat} (h : n ≤ c) (hm : m = n * 1 := by rfl) : (madeCells (Value.bool false).cells (c * 1)).toList.take m = (List.replicate n false).map Value.bool := by
  subst hm
  show (madeCells #[Value.bool false] (c * 1)).toList.take (n * 1) = _
  rw [madeCells_one]; simp [List.take_replicate, Nat.min_eq_left h]
theorem splice_one {xs : List Value} {k : Nat} {u : Value} (h : k < xs.length) : splice xs (k * 1) [u] = xs.set k u := by
  rw [Nat.mul_one, splice, List.set_eq_take_append_cons_drop, if_pos h]; simp
theorem splice_int {xs : List Int} {k : Nat} {u : Int} (h : k < xs.length) : splice (xs.map (Value.int .i64)) (k * 1) (Value.int .i64 u).cells.toList = (xs.set k u).map (Value.int .i64) := by
  show splice _ _ [Value.int .i64 u] = _
  rw [splice_one (by simpa using h), List.map_set]
theorem splice_bool {xs : List Bool} {k : Nat} {u : Bool} (h : k < xs.length) : splice (xs.map Value.bool) (k * 1) (Value.bool u).cells.toList = (xs.set k u).map Value.bool := by
  show splice _ _ [Value.bool u] = _
  rw [splice_one (by simpa using h), List.map_set]
section
variable {B : Bs} {Φ : Hp} {C : List Chunk}
theorem Cells.row0 {b : Nat} {T sz n : Nat} {xs : List Value} (i : Nat) (hi : C[i]? = some (.row (.slice (some ⟨b, 0, none⟩) n n) T sz n xs)) : Cells (St B Φ C) ⟨b, 0, none⟩ xs := fun j v hj => by
  have := Cell.row (B := B) (Φ := Φ) (k := j) i hi hj
  exact this
theorem Cells.blk {b : Nat} {T : TypeId} {cs : List Value} (i : Nat) (hi : C[i]? = some (.blk b T cs)) : Cells (St B Φ C) ⟨b, 0, none⟩ cs := fun j v hj => by
  have := Cell.blk (B := B) (Φ := Φ) (o := j) i hi hj
  have e : (⟨b, 0, none⟩ : Addr).add j = ⟨b, j, none⟩ := by simp only [Addr.add]; split <;> simp_all
  rw [e]; exact this
theorem Cell.rowInt {v : Value} {T n k : Nat} {xs : List Int} (i : Nat) (hi : C[i]? = some (.row v T 1 n (xs.map (Value.int .i64)))) (hk : k < xs.length) : Cell (St B Φ C) (Value.at v (k * 1)) (.int .i64 (xs.getD k 0)) :=
  Cell.row i hi (by rw [Nat.mul_one]; simp [hk])
theorem Cell.rowBool {v : Value} {T n k : Nat} {xs : List Bool} (i : Nat) (hi : C[i]? = some (.row v T 1 n (xs.map Value.bool))) (hk : k < xs.length) : Cell (St B Φ C) (Value.at v (k * 1)) (.bool (xs.getD k false)) :=
  Cell.row i hi (by rw [Nat.mul_one]; simp [hk])
theorem Cell.repInt {v : Value} {k : Nat} {xs : List Int} (h : RepSl Φ xs v) (hk : k < xs.length) : Cell (St B Φ C) (Value.at v (k * 1)) (.int .i64 (xs.getD k 0)) := by
  have := (h.int hk).1
  rw [Nat.mul_one]
  exact Cell.phi (by simpa [gDD, hk] using this)
end
theorem RepSl.i64 {Φ : Hp} {v : Value} {xs : List Int} (h : RepSl Φ xs v) : ∀ x ∈ xs, I64 x := fun x hx => by
  obtain ⟨i, hi, rfl⟩ := List.mem_iff_getElem.1 hx
  exact (h.int hi).2
class RepE (α : Type) [Inhabited α] extends Rep α where
  cells : α → List Value
  wf : α → Prop
  iff : ∀ {Φ x cs}, rep Φ x cs ↔ cs = cells x ∧ wf x
section
variable {B : Bs} {Φ : Hp} {C : List Chunk} {α : Type} [Inhabited α] [RepE α]
theorem Cell.repE {v : Value} {k j : Nat} {u : Value} {xs : List α} (h : RepSl Φ xs v) (hk : k < xs.length) (hj : (RepE.cells (xs.getD k default))[j]? = some u) : Cell (St B Φ C) (Value.at v (k * Rep.sz α + j)) u := by
  obtain ⟨cs, h1, h2⟩ := h.at_ k hk
  obtain ⟨rfl, _⟩ := RepE.iff.1 h1
  refine Cell.phi (h2 j u ?_)
  simpa [gDD, hk] using hj
theorem Cells.repE {v : Value} {k : Nat} {cs : List Value} {xs : List α} (h : RepSl Φ xs v) (hk : k < xs.length) (hj : RepE.cells (xs.getD k default) = cs) : Cells (St B Φ C) (Value.at v (k * Rep.sz α)) cs := fun j u hu => by
  rw [at_add]; exact Cell.repE h hk (by rw [hj]; exact hu)
theorem RepSl.wfE {v : Value} {xs : List α} (h : RepSl Φ xs v) : ∀ x ∈ xs, RepE.wf x := fun x hx => by
  obtain ⟨i, hi, rfl⟩ := List.mem_iff_getElem.1 hx
  obtain ⟨cs, h1, _⟩ := h.at_ i hi
  exact (RepE.iff.1 h1).2
end
theorem fin_val {P : Program} {fn : Func} {w : World} {Φ0 Φ : Hp} {C : List Chunk} {N : Nat} {f : Nat → Value} {s : List (Nat × Value)} {t : Nat} {v v' : Value} {e : Exit} (hr : fn.results = #[.tmp t]) (he : (match e with | .normal | .ret => true | _ => false) = true) (hv : fr f s t = v') (hvv : v' = v) :
    Post N [] (bodyPost P fn fun e w' => e = .returned v ∧ Bel w.heap.size w w') e f s (St ⟨w, Φ0, []⟩ Φ C) := fun a w' ha hw => by
  have h1 : (results fn a.tmps).run P w' = .ok v w' := by rw [results_tmp hr, ha.get t, hv, hvv]
  have hb := hw.below rfl
  cases e <;> first | exact ⟨ha.defers, v, h1, rfl, hb⟩ | cases he
theorem fin_rep {P : Program} {fn : Func} {w : World} {Φ0 Φ : Hp} {C : List Chunk} {N : Nat} {f : Nat → Value} {s : List (Nat × Value)} {t : Nat} {v : Value} {e : Exit} {T : Value → Hp → Prop} {Φr : Hp} (hr : fn.results = #[.tmp t]) (he : (match e with | .normal | .ret => true | _ => false) = true) (hv : fr f s t = v)
    (hT : ∀ w', StP ⟨w, Φ0, []⟩ Φ C w' → T v (Go.K.ext Φr w.heap.size w')) :
    Post N [] (bodyPost P fn (RetS Φr w T)) e f s (St ⟨w, Φ0, []⟩ Φ C) := fun a w' ha hw => by
  have h1 : (results fn a.tmps).run P w' = .ok v w' := by rw [results_tmp hr, ha.get t, hv]
  have hb := hw.below rfl
  cases e <;> first | exact ⟨ha.defers, v, h1, v, rfl, hb, hT w' hw⟩ | cases he
theorem fin_rep2 {P : Program} {fn : Func} {w : World} {Φ0 Φ : Hp} {C : List Chunk} {N : Nat} {f : Nat → Value} {s : List (Nat × Value)} {t t' : Nat} {v u : Value} {e : Exit} {T : Value → Hp → Prop} {Φr : Hp} (hr : fn.results = #[.tmp t, .tmp t']) (he : (match e with | .normal | .ret => true | _ => false) = true) (hv : fr f s t = v) (hu : fr f s t' = u)
    (hT : ∀ w', StP ⟨w, Φ0, []⟩ Φ C w' → T (.tuple #[v, u]) (Go.K.ext Φr w.heap.size w')) :
    Post N [] (bodyPost P fn (RetS Φr w T)) e f s (St ⟨w, Φ0, []⟩ Φ C) := fun a w' ha hw => by
  have h1 : (results fn a.tmps).run P w' = .ok (.tuple #[v, u]) w' := by rw [results_tmp2 hr, ha.get t, ha.get t', hv, hu]
  have hb := hw.below rfl
  cases e <;> first | exact ⟨ha.defers, _, h1, _, rfl, hb, hT w' hw⟩ | cases he
theorem row_ext {w w' : World} {Φ0 Φ Φr : Hp} {C : List Chunk} {v : Value} {T sz n : Nat} {xs : List Value} (hw : StP ⟨w, Φ0, []⟩ Φ C w') (i : Nat) (hi : C[i]? = some (.row v T sz n xs)) : RowS (Go.K.ext Φr w.heap.size w') v T sz n xs := by
  refine (Chunk.row v T sz n xs).loc (hp w') _ (fun b hb => ?_) (hw.sat _ (List.mem_of_getElem? hi))
  have := (hw.away b (List.mem_flatMap.2 ⟨_, List.mem_of_getElem? hi, hb⟩)).2
  rcases this with h | h
  · unfold Go.K.ext; rw [if_neg (by show ¬ b < w.heap.size; have : w.heap.size ≤ b := h; omega)]; rfl
  · cases h
end Go.K


/-! ## elements of several cells; results of no value; blocks seen at the end -/
namespace Go.K
open Go Go.RowKit
section
variable {α : Type} [Inhabited α] [RepE α]
def flat (l : List α) : List Value := l.flatMap RepE.cells
def EvenE (α : Type) [Inhabited α] [RepE α] : Prop := ∀ x : α, (RepE.cells x).length = Rep.sz α
theorem flat_len (he : EvenE α) (l : List α) : (flat l).length = l.length * Rep.sz α := by
  induction l with
  | nil => simp [flat]
  | cons a l ih =>
    have : flat (a :: l) = RepE.cells a ++ flat l := by simp [flat]
    rw [this, List.length_append, he a, ih, List.length_cons, Nat.add_mul, Nat.one_mul, Nat.add_comm]
theorem flat_append (l r : List α) : flat (l ++ r) = flat l ++ flat r := by simp [flat]
theorem flat_take (he : EvenE α) (l : List α) (k : Nat) : (flat l).take (k * Rep.sz α) = flat (l.take k) := by
  induction l generalizing k with
  | nil => simp [flat]
  | cons a l ih =>
    cases k with
    | zero => simp [flat]
    | succ k =>
      have e : flat (a :: l) = RepE.cells a ++ flat l := by simp [flat]
      have e' : flat ((a :: l).take (k + 1)) = RepE.cells a ++ flat (l.take k) := by simp [flat]
      rw [e, e', Nat.add_mul, Nat.one_mul, Nat.add_comm, List.take_append, he a, List.take_of_length_le (by rw [he a]; omega), show Rep.sz α + k * Rep.sz α - Rep.sz α = k * Rep.sz α by omega, ih]
theorem flat_drop (he : EvenE α) (l : List α) (k : Nat) : (flat l).drop (k * Rep.sz α) = flat (l.drop k) := by
  have h1 := List.take_append_drop (k * Rep.sz α) (flat l)
  have h2 : flat l = flat (l.take k) ++ flat (l.drop k) := by rw [← flat_append, List.take_append_drop]
  rw [flat_take he, h2] at h1
  have h3 := List.append_cancel_left h1
  rw [← h2] at h3; exact h3
theorem flat_get (he : EvenE α) {l : List α} {k j : Nat} {u : Value} (hk : k < l.length) (hj : (RepE.cells (l.getD k default))[j]? = some u) : (flat l)[k * Rep.sz α + j]? = some u := by
  have h1 : (flat l).drop (k * Rep.sz α) = RepE.cells (l.getD k default) ++ flat (l.drop (k + 1)) := by
    rw [flat_drop he]
    simp only [flat]
    rw [List.drop_eq_getElem_cons hk, List.flatMap_cons]
    simp [hk]
  have h2 : ((flat l).drop (k * Rep.sz α))[j]? = some u := by
    rw [h1, List.getElem?_append_left (List.getElem?_eq_some_iff.1 hj).1]; exact hj
  rwa [List.getElem?_drop] at h2
theorem splice_E (he : EvenE α) {l : List α} {k : Nat} {x : α} {cs : List Value} (hk : k < l.length) (hcs : RepE.cells x = cs) : splice (flat l) (k * Rep.sz α) cs = flat (l.set k x) := by
  subst hcs
  unfold splice
  rw [flat_take he, he x, show k * Rep.sz α + Rep.sz α = (k + 1) * Rep.sz α by rw [Nat.add_mul, Nat.one_mul], flat_drop he, List.set_eq_take_append_cons_drop, if_pos hk]
  simp [flat]
theorem RowS.repE {Φ : Hp} {v : Value} {T n : Nat} {l : List α} (he : EvenE α) (h : RowS Φ v T (Rep.sz α) n (flat l)) (hn : l.length = n) (hm : n * Rep.bytes α ≤ maxSl) (hwf : ∀ x ∈ l, RepE.wf x) : RepSl Φ l v :=
  RowS.rep h hn hm fun i hi => ⟨RepE.cells l[i], RepE.iff.2 ⟨rfl, hwf _ (List.getElem_mem hi)⟩, fun j u hj => flat_get he hi (by simpa [gDD, hi] using hj)⟩
theorem Cell.rowE {B : Bs} {Φ : Hp} {C : List Chunk} {v : Value} {T n k j : Nat} {u : Value} {l : List α} (he : EvenE α) (i : Nat) (hi : C[i]? = some (.row v T (Rep.sz α) n (flat l))) (hk : k < l.length) (hj : (RepE.cells (l.getD k default))[j]? = some u) : Cell (St B Φ C) (Value.at v (k * Rep.sz α + j)) u :=
  Cell.row i hi (flat_get he hk hj)
end

theorem fin_none {P : Program} {fn : Func} {N : Nat} {f : Nat → Value} {s : List (Nat × Value)} {e : Exit} {J J' : Cls} {R : Ending → World → Prop} (hr : fn.results = #[]) (he : (match e with | .normal | .ret => true | _ => false) = true) (hJ : ∀ w, J.p w → J'.p w) (hR : ∀ w, J'.p w → R (.returned (.tuple #[])) w) :
    Post N [] (bodyPost P fn R) e f s J := fun a w' ha hw => by
  have h1 : (results fn a.tmps).run P w' = .ok (.tuple #[]) w' := results_none hr _ _ _
  cases e <;> first | exact ⟨ha.defers, _, h1, hR w' (hJ w' hw)⟩ | cases he

theorem blk_ext {w w' : World} {Φ0 Φ Φr : Hp} {C : List Chunk} {b T : Nat} {cs : List Value} (hw : StP ⟨w, Φ0, []⟩ Φ C w') (i : Nat) (hi : C[i]? = some (.blk b T cs)) : Go.K.ext Φr w.heap.size w' b = some (.cells cs.toArray T (0, 0)) := by
  refine (Chunk.blk b T cs).loc (hp w') _ (fun b' hb => ?_) (hw.sat _ (List.mem_of_getElem? hi))
  have := (hw.away b' (List.mem_flatMap.2 ⟨_, List.mem_of_getElem? hi, hb⟩)).2
  rcases this with h | h
  · unfold Go.K.ext; rw [if_neg (by show ¬ b' < w.heap.size; have : w.heap.size ≤ b' := h; omega)]; rfl
  · cases h

section
variable {P : Program} {Pn : List PanicEntry → World → Prop} {J : Cls} {f : Nat → Value} {s : List (Nat × Value)} {dst : Option Nat} {ty : TypeId} {pos : String} {af : Array Edge} {g : Option (Nat × Bool)}
theorem q_build {t : TypeId} {parts : Array (Nat × Operand)} {vals : List (Nat × Value)} {z : Value} {fs : Array Field} {ps : Array (Nat × Nat)} {cells : Array Value} (hz : (P.info? t).map (·.zero) = some (some z)) (hT : P.underlying t = some (.struct fs))
    (hps : ∀ w, ((fs.mapM fun f => do pure (f.offset, ← sizeOf f.type) : Sem (Array (Nat × Nat))).run P w) = .ok ps w) (hv : parts.toList.map (fun p => (p.1, ev (fr f s) p.2)) = vals)
    (hf : Instr.fill (ps[·]?) z.cells vals = some cells) : Qt P J f s ⟨dst, .build t parts, ty, pos, af, g⟩ (.agg cells) := qt_val fun w _ => by
  obtain ⟨ti, hti, hzz⟩ := mS hz
  have hv' : (parts.map (fun (i, x) => (i, ev (fr f s) x))).toList = vals := by rw [← hv]; simp
  subst hv'
  simp only [execOp, Instr.build, Sem.run_bind, zeroValue, typeInfo, run_program, Result.andThen_ok, hti, hzz, Sem.run_pure, run_underlying hT, hps, hf]
end

theorem RepSl.sub {α : Type} [Rep α] {Φ : Hp} {xss : List (List α)} {v : Value} (h : RepSl Φ xss v) {k : Nat} (hk : k < xss.length) : ∃ sv, RepSl Φ (xss.getD k []) sv ∧ PCell Φ (Value.at v (k * 1)) sv := by
  obtain ⟨cs, ⟨sv, h1, h2⟩, h3⟩ := h.at_ k hk
  refine ⟨sv, by simpa [gDD, hk] using h2, ?_⟩
  have := h3 0 sv (by rw [h1]; rfl)
  simpa [Rep.sz] using this
end Go.K

namespace Go.K
open Go Go.RowKit
section
variable {P : Program} {Pn : List PanicEntry → World → Prop} {B : Bs} {Φ : Hp} {C : List Chunk} {f : Nat → Value} {s : List (Nat × Value)} {dst : Option Nat} {ty : TypeId} {pos : String} {af : Array Edge} {g : Option (Nat × Bool)}
theorem e_boxSl {t : TypeId} {x : Operand} {v : Value} {m : Nat} (hx : ev (fr f s) x = v) (hs : IsSl v m) :
    ∀ w, (St B Φ C).p w → effX P Pn (fun u w' => ∃ b : Nat, u = .pointer (some ⟨b, 0, none⟩) ∧ (St B Φ (.blk b t [v] :: C)).p w') ((execOp (ev (fr f s)) ⟨dst, .box t x, ty, pos, af, g⟩).run P w) := by
  obtain ⟨A, c, rfl, _⟩ := hs
  exact e_box hx
theorem e_storeSl {t T : TypeId} {x y : Operand} {b o m : Nat} {v : Value} {cs cs' : List Value} (i : Nat) (hi : C[i]? = some (.blk b T cs)) (hx : ev (fr f s) x = .pointer (some ⟨b, o, none⟩)) (hy : ev (fr f s) y = v) (hs : IsSl v m)
    (hsz : (P.info? t).map (·.size) = some 1) (hn : Nat.ble (o + 1) cs.length = true) (hcs : splice cs o [v] = cs') {C' : List Chunk} (hC' : C.set i (.blk b T cs') = C') :
    ∀ w, (St B Φ C).p w → effX P Pn (fun _ w' => (St B Φ C').p w') ((execOp (ev (fr f s)) ⟨dst, .store t x y, ty, pos, af, g⟩).run P w) := by
  obtain ⟨A, c, rfl, _⟩ := hs
  exact e_store i hi hx hy hsz rfl rfl hn hcs hC'
end
end Go.K

namespace Go.K
open Go Go.RowKit
section
variable {P : Program} {Pn : List PanicEntry → World → Prop} {B : Bs} {Φ : Hp} {C : List Chunk} {f : Nat → Value} {s : List (Nat × Value)} {dst : Option Nat} {ty : TypeId} {pos : String} {af : Array Edge} {g : Option (Nat × Bool)}
end
end Go.K

namespace Go.K
open Go Go.RowKit
section
variable {P : Program} {Pn : List PanicEntry → World → Prop} {N : Nat} {D : List Deferred} {ops : Array Oper} {Q : Exit → Act → World → Prop} {f : Nat → Value} {s : List (Nat × Value)} {J : Cls}
theorem RW.frz {w0 : World} {Φ0 Φ : Hp} {c : Chunk} {C : List Chunk} {l : List Oper} (h : ∀ Φ', Hp.le Φ Φ' → c.sat Φ' → RW P N D ops Q l f s (St ⟨w0, Φ0, []⟩ Φ' C)) : RW P N D ops Q l f s (St ⟨w0, Φ0, []⟩ Φ (c :: C)) := fun a w ha hw => by
  obtain ⟨Φ', h1, h2, h3⟩ := StP.freeze hw (fun b hb => ((hw.away b (by simp [hb])).2).resolve_right (by simp))
  exact h Φ' h1 h2 a w ha h3
end
abbrev pV (b o : Nat) : Value := .pointer (some ⟨b, o, none⟩)
abbrev iV (x : Int) : Value := .int .i64 x
abbrev nS : Value := .slice none 0 0
theorem qpA {P : Program} {J : Cls} {f : Nat → Value} {s : List (Nat × Value)} {dst : Option Nat} {ty : TypeId} {pos : String} {af : Array Edge} {g : Option (Nat × Bool)} {x y z : Operand} {a b : Bool} (hx : ev (fr f s) x = .bool a) (hy : ev (fr f s) y = gv a true (.bool b)) (hz : ev (fr f s) z = .bool false) : Qt P J f s ⟨dst, .pick x y z, ty, pos, af, g⟩ (.bool (a && b)) := q_pick hx (fun hp => (hy.trans (gv_pos hp)).trans (pkAndT hp)) (fun hp => hz.trans (pkAndF hp))
theorem qpO {P : Program} {J : Cls} {f : Nat → Value} {s : List (Nat × Value)} {dst : Option Nat} {ty : TypeId} {pos : String} {af : Array Edge} {g : Option (Nat × Bool)} {x y z : Operand} {a b : Bool} (hx : ev (fr f s) x = .bool a) (hy : ev (fr f s) y = .bool true) (hz : ev (fr f s) z = gv a false (.bool b)) : Qt P J f s ⟨dst, .pick x y z, ty, pos, af, g⟩ (.bool (a || b)) := q_pick hx (fun hp => hy.trans (pkOrT hp)) (fun hp => (hz.trans (gv_pos hp)).trans (pkOrF hp))
theorem StP.sAt {B : Bs} {Φ : Hp} {C : List Chunk} {w : World} {c : Chunk} (h : StP B Φ C w) (i : Nat) (hi : C[i]? = some c) : c.sat (hp w) := h.sat _ (List.mem_of_getElem? hi)
abbrev Plc (P : Program) (fs : Array Field) (ps : Array (Nat × Nat)) : Prop := ∀ w, ((fs.mapM fun f => do pure (f.offset, ← sizeOf f.type) : Sem (Array (Nat × Nat))).run P w) = .ok ps w
abbrev fO {P : Program} {t : TypeId} {fs : Array Field} (_ : P.underlying t = some (.struct fs)) : Array Field := fs
end Go.K

