/- Arrays of the call's own: built, indexed, compared. Conditions: those of each theorem. -/
import Derived.Test.YtblfeidlnhdekaaVCore9
import Derived.ChangeKeysEq
namespace Go.K
open Go Go.RowKit
section
variable {P : Program} {J : Cls} {f : Nat → Value} {s : List (Nat × Value)} {dst : Option Nat} {ty : TypeId} {pos : String} {af : Array Edge} {g : Option (Nat × Bool)} {x y : Operand} {t e : TypeId} {n sz : Nat}
theorem q_buildArr {parts : Array (Nat × Operand)} {vals : List (Nat × Value)} {z : Value} {cells : Array Value} (hz : (P.info? t).map (·.zero) = some (some z)) (hT : P.underlying t = some (.array n e)) (hsz : (P.info? e).map (·.size) = some sz)
    (hv : parts.toList.map (fun p => (p.1, ev (fr f s) p.2)) = vals) (hf : Instr.fill (fun i => some (i * sz, sz)) z.cells vals = some cells) : Qt P J f s ⟨dst, .build t parts, ty, pos, af, g⟩ (.agg cells) := qt_val fun w _ => by
  obtain ⟨ti, hti, hzz⟩ := Option.map_eq_some_iff.1 hz
  obtain ⟨ei, hei, hes⟩ := Option.map_eq_some_iff.1 hsz
  have hv' : (parts.map (fun (i, x) => (i, ev (fr f s) x))).toList = vals := by rw [← hv]; simp
  subst hv'
  simp only [execOp, Instr.build, Sem.run_bind, zeroValue, typeInfo, run_program, Result.andThen_ok, hti, hzz, Sem.run_pure, run_underlying hT, sizeOf, hei, hes, hf]
theorem q_indexAddrA {p q : Addr} {i : Int} (hx : ev (fr f s) x = .pointer (some p)) (hy : ev (fr f s) y = .int .i64 i) (hT : P.underlying t = some (.array n e)) (hsz : (P.info? e).map (·.size) = some sz) (h0 : 0 ≤ i) (hn : i < n) (hq : q = p.add (i.toNat * sz)) :
    Qt P J f s ⟨dst, .indexAddr t x y, ty, pos, af, g⟩ (.pointer (some q)) := qt_val fun w _ => by
  obtain ⟨ti, hi, hti⟩ := Option.map_eq_some_iff.1 hsz
  subst hq
  simp [execOp, hx, hy, Instr.indexAt, asIntOf, run_underlying hT, sizeOf, typeInfo, hi, hti, h0, hn, Instr.sureAddr]
end
end Go.K
