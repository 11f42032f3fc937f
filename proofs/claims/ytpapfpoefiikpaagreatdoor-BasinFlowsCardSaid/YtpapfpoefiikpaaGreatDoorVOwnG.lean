/- Lemmas. Conditions: those of each theorem. -/
import Derived.Test.YtpapfpoefiikpaaGreatDoorVParK
import Derived.Test.YtpapfpoefiikpaaGreatDoorVCore10
namespace Go.K
open Go Go.RowKit
variable {B : Bs} {Φ Ψ : Hp} {C : List Chunk} {W W' w : World}
theorem StP.less (h : StP B Ψ C w) (hl : Hp.le Φ Ψ) : StP B Φ C w := { h with
  phi := fun b o e => h.phi b o (hl b o e)
  orig := fun b o e hlt => h.orig b o (hl b o e) hlt
  away := fun b hb => by
    refine ⟨?_, (h.away b hb).2⟩
    cases he : Φ b with
    | none => rfl
    | some o =>
      have := hl b o he
      rw [(h.away b hb).1] at this
      cases this }
def OwnU {ζ : Type} (w : World) (Φ : Hp) (A : List Chunk) (V : ζ → Value) (K : ζ → List Chunk) : Ending → World → Prop := fun e w' => ∃ z, e = .returned (V z) ∧ StP ⟨w, Φ, fps A⟩ Φ (K z) w'
section
variable {P : Program} {f : Nat → Value} {s : List (Nat × Value)} {dst : Option Nat} {ty : TypeId} {pos : String} {af : Array Edge} {g : Option (Nat × Bool)} {x y z : Operand} {t kt et : TypeId} {κ β : Type} {L : KL P kt κ} {ew : β → Value}
theorem q_kLookP {b : Nat} {M : κ → Option β} {k : κ} {d : β} (hm : (Chunk.kmap L ew b M).sat Φ) (hx : ev (fr f s) x = .map (some b)) (hy : ev (fr f s) y = L.enc k) (hk : L.good k) (hT : P.underlying t = some (.map kt et))
    (hz : (P.info? et).map (·.zero) = some (some (ew d))) : Qt P (St B Φ C) f s ⟨dst, .lookup t x y true, ty, pos, af, g⟩ (.tuple #[ew ((M k).getD d), .bool (M k).isSome]) := qt_val fun w hw => by
  obtain ⟨es, clock, hes, hm⟩ := hm
  have hb : w.heap[b]? = some (.map es clock) := hw.phi b _ hes
  have hzz : ∀ w, (zeroValue et).run P w = .ok (ew d) w := fun w => by
    obtain ⟨ti, hti, hzz⟩ := mS hz
    simp only [zeroValue, typeInfo, Sem.run_bind, run_program, Result.andThen_ok, hti, hzz, Sem.run_pure]
  have hg : (getObj b).run P w = .ok (.map es clock) w := by simp [getObj, Sem.run, hb]
  have hc := L.check w es.isEmpty k hk
  simp only [execOp, hx, hy, Instr.lookup, Sem.run_bind, run_underlying hT, Result.andThen_ok, hg, Sem.run_pure, hc]
  rcases hm.find hk w with ⟨h1, h2⟩ | ⟨j, e, v, h1, _, _, h4, h5⟩
  · simp [h1, h2, hzz]
  · simp [h1, h4, h5]
theorem q_kLookP1 {b : Nat} {M : κ → Option β} {k : κ} {d : β} (hm : (Chunk.kmap L ew b M).sat Φ) (hx : ev (fr f s) x = .map (some b)) (hy : ev (fr f s) y = L.enc k) (hk : L.good k) (hT : P.underlying t = some (.map kt et))
    (hz : (P.info? et).map (·.zero) = some (some (ew d))) : Qt P (St B Φ C) f s ⟨dst, .lookup t x y false, ty, pos, af, g⟩ (ew ((M k).getD d)) := qt_val fun w hw => by
  obtain ⟨es, clock, hes, hm⟩ := hm
  have hb : w.heap[b]? = some (.map es clock) := hw.phi b _ hes
  have hzz : ∀ w, (zeroValue et).run P w = .ok (ew d) w := fun w => by
    obtain ⟨ti, hti, hzz⟩ := mS hz
    simp only [zeroValue, typeInfo, Sem.run_bind, run_program, Result.andThen_ok, hti, hzz, Sem.run_pure]
  have hg : (getObj b).run P w = .ok (.map es clock) w := by simp [getObj, Sem.run, hb]
  have hc := L.check w es.isEmpty k hk
  simp only [execOp, hx, hy, Instr.lookup, Sem.run_bind, run_underlying hT, Result.andThen_ok, hg, Sem.run_pure, hc]
  rcases hm.find hk w with ⟨h1, h2⟩ | ⟨j, e, v, h1, _, _, h4, h5⟩
  · simp [h1, h2, hzz]
  · simp [h1, h4, h5]
end
end Go.K
