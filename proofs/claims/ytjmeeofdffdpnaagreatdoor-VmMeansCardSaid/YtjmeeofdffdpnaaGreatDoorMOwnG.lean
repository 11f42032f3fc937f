/- Lemmas. Conditions: those of each theorem. -/
import Derived.Test.YtjmeeofdffdpnaaGreatDoorMParK
import Derived.Test.YtjmeeofdffdpnaaGreatDoorMCore10
namespace Go.K
open Go Go.RowKit
variable {P : Program} {Pn : List PanicEntry → World → Prop} {N : Nat} {D : List Deferred} {ops : Array Oper} {Q : Exit → Act → World → Prop} {f : Nat → Value} {af : Array Edge} {pos : String} {ty : TypeId} {dst : Option Nat} {rest : List Oper}
variable {B : Bs} {Φ Ψ : Hp} {C : List Chunk} {W W' w : World}
theorem StP.less (h : StP B Ψ C w) (hl : Hp.le Φ Ψ) : StP B Φ C w := { h with
  phi := fun b o e => h.phi b o (hl b o e)
  orig := fun b o e hlt => h.orig b o (hl b o e) hlt
  away := fun b hb => by
    refine ⟨?_, (h.away b hb).2⟩
    cases he : Φ b with
    | none => rfl
    | some o =>
      have := hl b o he
      rw [(h.away b hb).1] at this
      cases this }
theorem StP.freezeX {c : Chunk} (h : StP B Φ (c :: C) w) (hE : ∀ b ∈ B.E, ∃ c2 ∈ C, b ∈ c2.fp) : ∃ Φ', Hp.le Φ Φ' ∧ c.sat Φ' ∧ StP B Φ' C w :=
  StP.freeze h fun b hb => by
    rcases (h.away b (List.mem_flatMap.2 ⟨c, List.mem_cons_self .., hb⟩)).2 with h1 | h1
    · exact h1
    · obtain ⟨c2, h2, h3⟩ := hE b h1
      exact absurd h3 ((List.pairwise_cons.1 h.sep).1 c2 h2 b hb)
def OwnG {ζ : Type} (w : World) (Φ : Hp) (A : List Chunk) (V : ζ → Value) (K : ζ → List Chunk) (T : ζ → Hp → Prop) : Ending → World → Prop := fun e w' =>
  ∃ z Ψ, e = .returned (V z) ∧ Hp.le Φ Ψ ∧ StP ⟨w, Φ, fps A⟩ Ψ (K z) w' ∧ T z Ψ
theorem e_ownG {s : List (Nat × Value)} {g : Option (Nat × Bool)} {ζ : Type} {A : List Chunk} {V : ζ → Value} {K : ζ → List Chunk} {T : ζ → Hp → Prop}
    {x : Operand} {xs : Array Operand} {ts : Array TypeId} {k : FuncId} {first capt args : Array Value} {C2 : List Chunk} (is : List Nat) (hn : is.Nodup) (hi : is.map (C[·]?) = (A ++ C2).map some) (hk : Own P k) (hx : ev (fr f s) x = .func (.func k) first capt) (ha : first.toList ++ xs.toList.map (ev (fr f s)) ++ capt.toList = args.toList)
    (h : ∀ w, StP ⟨w, Φ, fps A⟩ Φ A w → Calls P k args w (OwnG w Φ A V K T)) :
    ∀ w, (St B Φ C).p w → effX P Pn (fun v w' => ∃ y : {y : ζ × Hp // Hp.le Φ y.2 ∧ T y.1 y.2}, v = V y.1.1 ∧ (St B y.1.2 (K y.1.1 ++ C2)).p w') ((execOp (ev (fr f s)) ⟨dst, .call { callee := .value x, args := xs, argTypes := ts }, ty, pos, af, g⟩).run P w) :=
  e_callP (V := fun y : {y : ζ × Hp // Hp.le Φ y.2 ∧ T y.1 y.2} => V y.1.1) (J' := fun y => St B y.1.2 (K y.1.1 ++ C2)) hk hx ha fun w hw => by
    have hw1 : StP B Φ (A ++ C2) w := StP.sel hw is hn hi
    refine (h w hw1.hand).mono fun e w' hh => ?_
    obtain ⟨z, Ψ, h1, h2, h3, h4⟩ := hh
    exact .inl ⟨⟨(z, Ψ), h2, h4⟩, h1, StP.frameL hw1 h3⟩
theorem RW.ownG [hQ : PanQ D Q Pn] {s : List (Nat × Value)} {d : Nat} {ζ : Type} {A : List Chunk} {V : ζ → Value} {K : ζ → List Chunk} {T : ζ → Hp → Prop}
    {x : Operand} {xs : Array Operand} {ts : Array TypeId} {k : FuncId} {first capt args : Array Value} {C2 : List Chunk} (is : List Nat) (hn : is.Nodup) (hi : is.map (C[·]?) = (A ++ C2).map some) (hd : Nat.blt d N = true) (hk : Own P k) (hx : ev (fr f s) x = .func (.func k) first capt) (ha : first.toList ++ xs.toList.map (ev (fr f s)) ++ capt.toList = args.toList)
    (h : ∀ w, StP ⟨w, Φ, fps A⟩ Φ A w → Calls P k args w (OwnG w Φ A V K T))
    (kk : ∀ z Ψ, Hp.le Φ Ψ → T z Ψ → RW P N D ops Q rest f ((d, V z) :: s) (St B Ψ (K z ++ C2))) : RW P N D ops Q (⟨some d, .call { callee := .value x, args := xs, argTypes := ts }, ty, pos, af, none⟩ :: rest) f s (St B Φ C) :=
  RW.eff _ _ hd (e_ownG is hn hi hk hx ha h) fun y => kk y.1.1 y.1.2 y.2.1 y.2.2
def OwnU {ζ : Type} (w : World) (Φ : Hp) (A : List Chunk) (V : ζ → Value) (K : ζ → List Chunk) : Ending → World → Prop := fun e w' => ∃ z, e = .returned (V z) ∧ StP ⟨w, Φ, fps A⟩ Φ (K z) w'
theorem e_ownU {s : List (Nat × Value)} {g : Option (Nat × Bool)} {ζ : Type} {A : List Chunk} {V : ζ → Value} {K : ζ → List Chunk}
    {x : Operand} {xs : Array Operand} {ts : Array TypeId} {k : FuncId} {first capt args : Array Value} {C2 : List Chunk} (is : List Nat) (hn : is.Nodup) (hi : is.map (C[·]?) = (A ++ C2).map some) (hk : Own P k) (hx : ev (fr f s) x = .func (.func k) first capt) (ha : first.toList ++ xs.toList.map (ev (fr f s)) ++ capt.toList = args.toList)
    (h : ∀ w, StP ⟨w, Φ, fps A⟩ Φ A w → Calls P k args w (OwnU w Φ A V K)) :
    ∀ w, (St B Φ C).p w → effX P Pn (fun v w' => ∃ z : ζ, v = V z ∧ (St B Φ (K z ++ C2)).p w') ((execOp (ev (fr f s)) ⟨dst, .call { callee := .value x, args := xs, argTypes := ts }, ty, pos, af, g⟩).run P w) :=
  e_call (V := V) (J' := fun z => St B Φ (K z ++ C2)) hk hx ha fun w hw => by
    have hw1 : StP B Φ (A ++ C2) w := StP.sel hw is hn hi
    refine (h w hw1.hand).mono fun e w' hh => ?_
    obtain ⟨z, h1, h2⟩ := hh
    exact ⟨z, h1, StP.frameL hw1 h2⟩
theorem RW.ownU [hQ : PanQ D Q Pn] {s : List (Nat × Value)} {d : Nat} {ζ : Type} {A : List Chunk} {V : ζ → Value} {K : ζ → List Chunk}
    {x : Operand} {xs : Array Operand} {ts : Array TypeId} {k : FuncId} {first capt args : Array Value} {C2 : List Chunk} (is : List Nat) (hn : is.Nodup) (hi : is.map (C[·]?) = (A ++ C2).map some) (hd : Nat.blt d N = true) (hk : Own P k) (hx : ev (fr f s) x = .func (.func k) first capt) (ha : first.toList ++ xs.toList.map (ev (fr f s)) ++ capt.toList = args.toList)
    (h : ∀ w, StP ⟨w, Φ, fps A⟩ Φ A w → Calls P k args w (OwnU w Φ A V K))
    (kk : ∀ z, RW P N D ops Q rest f ((d, V z) :: s) (St B Φ (K z ++ C2))) : RW P N D ops Q (⟨some d, .call { callee := .value x, args := xs, argTypes := ts }, ty, pos, af, none⟩ :: rest) f s (St B Φ C) :=
  RW.eff _ _ hd (e_ownU is hn hi hk hx ha h) kk
theorem DW.ownU {s : List (Nat × Value)} {d : Nat} {tg : List Tg} {J0 : Cls} {ζ : Type} {A : List Chunk} {V : ζ → Value} {K : ζ → List Chunk}
    {x : Operand} {xs : Array Operand} {ts : Array TypeId} {k : FuncId} {first capt args : Array Value} {C2 : List Chunk} (is : List Nat) (hn : is.Nodup) (hi : is.map (C[·]?) = (A ++ C2).map some) (hd : Nat.blt d N = true) (hk : Own P k) (hx : ev (fr f s) x = .func (.func k) first capt) (ha : first.toList ++ xs.toList.map (ev (fr f s)) ++ capt.toList = args.toList)
    (h : ∀ w, StP ⟨w, Φ, fps A⟩ Φ A w → Calls P k args w (OwnU w Φ A V K)) (hJ : ∀ z w, StP B Φ (K z ++ C2) w → J0.p w)
    (kk : ∀ z, DW P Pn N D ops J0 Q tg rest f ((d, V z) :: s) (St B Φ (K z ++ C2))) : DW P Pn N D ops J0 Q (.e :: tg) (⟨some d, .call { callee := .value x, args := xs, argTypes := ts }, ty, pos, af, none⟩ :: rest) f s (St B Φ C) :=
  DW.eff _ _ (fun _ z w hw => hJ z w hw) hd (e_ownU is hn hi hk hx ha h) kk
section
variable {P : Program} {f : Nat → Value} {s : List (Nat × Value)} {dst : Option Nat} {ty : TypeId} {pos : String} {af : Array Edge} {g : Option (Nat × Bool)} {x y z : Operand} {t kt et : TypeId} {κ β : Type} {L : KL P kt κ} {ew : β → Value}
theorem q_kLookP1 {b : Nat} {M : κ → Option β} {k : κ} {d : β} (hm : (Chunk.kmap L ew b M).sat Φ) (hx : ev (fr f s) x = .map (some b)) (hy : ev (fr f s) y = L.enc k) (hk : L.good k) (hT : P.underlying t = some (.map kt et))
    (hz : (P.info? et).map (·.zero) = some (some (ew d))) : Qt P (St B Φ C) f s ⟨dst, .lookup t x y false, ty, pos, af, g⟩ (ew ((M k).getD d)) := qt_val fun w hw => by
  obtain ⟨es, clock, hes, hm⟩ := hm
  have hb : w.heap[b]? = some (.map es clock) := hw.phi b _ hes
  have hzz : ∀ w, (zeroValue et).run P w = .ok (ew d) w := fun w => by
    obtain ⟨ti, hti, hzz⟩ := mS hz
    simp only [zeroValue, typeInfo, Sem.run_bind, run_program, Result.andThen_ok, hti, hzz, Sem.run_pure]
  have hg : (getObj b).run P w = .ok (.map es clock) w := by simp [getObj, Sem.run, hb]
  have hc := L.check w es.isEmpty k hk
  simp only [execOp, hx, hy, Instr.lookup, Sem.run_bind, run_underlying hT, Result.andThen_ok, hg, Sem.run_pure, hc]
  rcases hm.find hk w with ⟨h1, h2⟩ | ⟨j, e, v, h1, _, _, h4, h5⟩
  · simp [h1, h2, hzz]
  · simp [h1, h4, h5]
theorem q_kLookN {k : κ} {d : β} (hx : ev (fr f s) x = .map none) (hy : ev (fr f s) y = L.enc k) (hk : L.good k) (hT : P.underlying t = some (.map kt et))
    (hz : (P.info? et).map (·.zero) = some (some (ew d))) : Qt P (St B Φ C) f s ⟨dst, .lookup t x y true, ty, pos, af, g⟩ (.tuple #[ew d, .bool false]) := qt_val fun w hw => by
  have hzz : ∀ w, (zeroValue et).run P w = .ok (ew d) w := fun w => by
    obtain ⟨ti, hti, hzz⟩ := mS hz
    simp only [zeroValue, typeInfo, Sem.run_bind, run_program, Result.andThen_ok, hti, hzz, Sem.run_pure]
  have hc := L.check w true k hk
  have hf : (Instr.findKey kt (L.enc k) []).run P w = .ok none w := by
    rcases L.find w k hk [] (fun e he => by cases he) with ⟨h1, _⟩ | ⟨j, e, _, h2, _⟩
    · exact h1
    · simp at h2
  simp [execOp, hx, hy, Instr.lookup, Sem.run_bind, run_underlying hT, Result.andThen_ok, hc, hzz, hf]
end
end Go.K
