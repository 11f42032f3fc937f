/- Lemmas. Conditions: those of each theorem. -/
import Derived.Test.YtpapfpoefiikpaaGreatDoorVDrz
import Derived.Test.YtpapfpoefiikpaaGreatDoorVDfq
namespace Go.K
open Go Go.RowKit
variable {P : Program} {Pn : List PanicEntry → World → Prop} {N : Nat} {D : List Deferred} {ops : Array Oper} {md : Region.Mode} {Q : Exit → Act → World → Prop} {f : Nat → Value} {s : List (Nat × Value)} {J J0 : Cls}
class PanK (D : List Deferred) (sl : Nat) (v : Value) (Q : Exit → Act → World → Prop) (Pn : outParam (List PanicEntry → World → Prop)) : Prop where
  h : ∀ c a w, a.defers = D → a.tmps.getD sl undef = v → Pn c w → Q (.panic c) a w
instance {sl : Nat} {v : Value} [h : PanK D sl v Q Pn] {K : Act → World → Prop} : PanK D sl v (Exit.then K Q) Pn := ⟨fun c a w hd hs hp => h.h c a w hd hs hp⟩
instance {sl : Nat} {v : Value} [h : PanK D sl v Q Pn] {id : Nat} : PanK D sl v (Exit.inBlock id Q) Pn := ⟨fun c a w hd hs hp => h.h c a w hd hs hp⟩
theorem DW.skp {d j gd : Nat} {want b : Bool} {op : Op} {ty : TypeId} {pos : String} {af : Array Edge} {tg : List Tg} {rest : List Oper}
    (hJ : rest ≠ [] → ∀ w, J.p w → J0.p w) (hd : Nat.blt d N = true) (hy : (ops[j]?).bind (·.dst) = some gd) (hb : fr f s gd = .bool b) (hn : b ≠ want)
    (k : DW P Pn N D ops J0 Q tg rest f ((d, undef) :: s) J) :
    DW P Pn N D ops J0 Q (.e :: tg) (⟨some d, op, ty, pos, af, some (j, want)⟩ :: rest) f s J := fun a ha => by
  have hyy := yielded_of (ops := ops) ha hy hb
  have hwant : Region.wanted ⟨some d, op, ty, pos, af, some (j, want)⟩ (yielded ops a.tmps) = false := by simp [Region.wanted, hyy, hn]
  show opX P Pn ops _ _ a J
  unfold opX
  rw [if_neg (by rw [hwant]; simp)]
  exact ⟨fun hr => hJ hr, k _ (ha.put hd _)⟩
section
variable {B : Bs} {Φ : Hp} {C : List Chunk}
end
end Go.K
