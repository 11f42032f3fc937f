/- Lemmas. Conditions: those of each theorem. -/
import Derived.Test.YtjmeeofdffdpnaaGreatDoorMParK
namespace Go.K
open Go Go.RowKit
variable {P : Program} {N : Nat} {D : List Deferred} {f : Nat → Value} {s : List (Nat × Value)} {J J2 : Cls}
theorem fin_D2 {fn : Func} {R : Ending → World → Prop} {rs : List ResultVar} {vs : List Value} {k : FuncId} {capt : Array Value} (hO : Go.K.Own P k) (hq : ∀ w, J.p w → CallsD P k capt .returning w fun e u' w' => (∃ v, e = .returned v) ∧ u' = .returning ∧ J2.p w')
    (hr : fn.results = rs.toArray) (h : ResAll P J2 (fr f s) rs vs) {v : Value} (hv : tup vs = v) (hR : ∀ w, J2.p w → R (.returned v) w) :
    Post N [{ target := .fn (.func k) capt, args := #[] }] (bodyPostD P fn R) .ret f s J := fun a w ha hw => by
  show Leaves P fn a.tmps R a.defers .returning w
  rw [ha.defers]
  refine leaves_one hO (by simp) ((hq w hw).mono fun e u' w' hh => ?_)
  obtain ⟨h1, rfl, h3⟩ := hh
  have h4 := results_run hr ha.get h3 h
  rw [hv] at h4
  exact ⟨h1, rfl, v, h4, hR w' h3⟩
theorem RW.ownQ {B : Bs} {Φ : Hp} {C : List Chunk} {ops : Array Oper} {Q : Exit → Act → World → Prop} {d : Nat} {ty : TypeId} {pos : String} {af : Array Edge} {rest : List Oper} {α ε ζ : Type} {A : List Chunk} {res : Except ε α} {V : α → ζ → Value} {K : α → ζ → List Chunk} {eV : ε → List PanicEntry} {KE : ε → List Chunk → Prop}
    {x : Operand} {xs : Array Operand} {ts : Array TypeId} {k : FuncId} {first capt args : Array Value} {C2 : List Chunk} (is : List Nat) (hn : is.Nodup) (hi : is.map (C[·]?) = (A ++ C2).map some) (hd : Nat.blt d N = true) (hk : Go.K.Own P k) (hx : ev (fr f s) x = .func (.func k) first capt) (ha : first.toList ++ xs.toList.map (ev (fr f s)) ++ capt.toList = args.toList)
    (h : ∀ w, StP ⟨w, Φ, fps A⟩ Φ A w → Calls P k args w (OwnK w Φ A res V K eV KE))
    (hPn : ∀ er CE a w', res = .error er → KE er CE → Rel N D (fr f s) a → StP B Φ (CE ++ C2) w' → Q (.panic (eV er)) a w')
    (kk : ∀ x z, res = .ok x → RW P N D ops Q rest f ((d, V x z) :: s) (St B Φ (K x z ++ C2))) : RW P N D ops Q (⟨some d, .call { callee := .value x, args := xs, argTypes := ts }, ty, pos, af, none⟩ :: rest) f s (St B Φ C) := fun a w hr hw => by
  refine wpList_plain rfl fun K2 hK => ?_
  have he := e_own (P := P) (B := B) (Φ := Φ) (C := C) (f := f) (s := s) (dst := some d) (ty := ty) (pos := pos) (af := af) (g := none) (Pn := fun c w' => ∃ er CE, res = .error er ∧ KE er CE ∧ c = eV er ∧ StP B Φ (CE ++ C2) w') (ts := ts) is hn hi hk hx ha h (fun er CE w' h1 h2 h3 => ⟨er, CE, h1, h2, rfl, h3⟩) w hw
  refine upon_eff (by rw [hr.eval]; exact he) (fun v w' hh => ?_) (fun c w' hh => ?_)
  · obtain ⟨y, rfl, hy⟩ := hh
    exact hK _ _ (kk y.1.1 y.1.2 y.2 _ w' (hr.put hd _) hy)
  · obtain ⟨er, CE, h1, h2, rfl, h3⟩ := hh
    exact hPn er CE a w' h1 h2 hr h3
theorem wp_mono2 {c : Code} {Q R : Exit → Act → World → Prop} {a : Act} {w : World} (h : c.wp P Q a w) (hm : ∀ e a w, Q e a w → R e a w) : c.wp P R a w := fun b k cs => by
  obtain ⟨e, a', w', q, r⟩ := h b k cs
  exact ⟨e, a', w', hm _ _ _ q, r⟩
theorem wpS_rec2 {r0 c1 rest : Code} {Q : Exit → Act → List Frame → World → Prop} {a : Act} {cs : List Frame} {w : World}
    (h : r0.wpS P (Exit.thenS (fun a cs w => c1.wp P (Exit.then (fun a w => rest.wp P (fun e a' w' => Q e a' cs w') a w) (fun e a' w' => Q e a' cs w')) a w) Q) a cs w) : ((r0.seq c1).seq rest).wpS P Q a cs w := by
  refine wpS_seq (wpS_seq fun b k hb hr => ?_)
  obtain ⟨e, a', cs', w', q, r⟩ := h b k hb hr
  refine ⟨e, a', cs', w', ?_, r⟩
  cases e with
  | normal =>
    refine wpS_of_wp (wp_mono2 q fun e a w hq => ?_)
    cases e with
    | normal => exact wpS_of_wp hq
    | _ => exact hq
  | _ => exact q
end Go.K
