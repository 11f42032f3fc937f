/- Lemmas. Conditions: those of each theorem. -/
import Derived.Test.YtpeojogjeopfaaaKParK
import Derived.Test.YtpeojogjeopfaaaKCore10
namespace Go.K
open Go Go.RowKit
variable {B : Bs} {Φ Ψ : Hp} {C : List Chunk} {W W' w : World}
theorem StP.less (h : StP B Ψ C w) (hl : Hp.le Φ Ψ) : StP B Φ C w := { h with
  phi := fun b o e => h.phi b o (hl b o e)
  orig := fun b o e hlt => h.orig b o (hl b o e) hlt
  away := fun b hb => by
    refine ⟨?_, (h.away b hb).2⟩
    cases he : Φ b with
    | none => rfl
    | some o =>
      have := hl b o he
      rw [(h.away b hb).1] at this
      cases this }
section
variable {P : Program} {f : Nat → Value} {s : List (Nat × Value)} {dst : Option Nat} {ty : TypeId} {pos : String} {af : Array Edge} {g : Option (Nat × Bool)} {x y z : Operand} {t kt et : TypeId} {κ β : Type} {L : KL P kt κ} {ew : β → Value}
theorem q_kLookN {k : κ} {d : β} (hx : ev (fr f s) x = .map none) (hy : ev (fr f s) y = L.enc k) (hk : L.good k) (hT : P.underlying t = some (.map kt et))
    (hz : (P.info? et).map (·.zero) = some (some (ew d))) : Qt P (St B Φ C) f s ⟨dst, .lookup t x y true, ty, pos, af, g⟩ (.tuple #[ew d, .bool false]) := qt_val fun w hw => by
  have hzz : ∀ w, (zeroValue et).run P w = .ok (ew d) w := fun w => by
    obtain ⟨ti, hti, hzz⟩ := mS hz
    simp only [zeroValue, typeInfo, Sem.run_bind, run_program, Result.andThen_ok, hti, hzz, Sem.run_pure]
  have hc := L.check w true k hk
  have hf : (Instr.findKey kt (L.enc k) []).run P w = .ok none w := by
    rcases L.find w k hk [] (fun e he => by cases he) with ⟨h1, _⟩ | ⟨j, e, _, h2, _⟩
    · exact h1
    · simp at h2
  simp [execOp, hx, hy, Instr.lookup, Sem.run_bind, run_underlying hT, Result.andThen_ok, hc, hzz, hf]
end
end Go.K
