/- More rules: library entries without a body, parts of arrays, results in cells. Conditions: those of each theorem. -/
import Derived.Test.YtblfeidlnhdekaaVCore4
import Derived.Lib.Bytealg
import Derived.Laws.Externs
namespace Go.K
open Go Go.RowKit
section
variable {P : Program} {J : Cls} {f : Nat → Value} {s : List (Nat × Value)} {dst : Option Nat} {ty : TypeId} {pos : String} {af : Array Edge} {g : Option (Nat × Bool)} {x y : Operand} {t t' : TypeId}
end
section
variable {P : Program} {fn : Func} {N : Nat} {f : Nat → Value} {s : List (Nat × Value)} {e : Exit} {J : Cls} {R : Ending → World → Prop}
theorem run_loadCell {p : Addr} {cs : List Value} {d : TypeDesc} {n T : Nat} (hT : P.underlying T = some d) (hd : isAggD d = true) (hsz : (P.info? T).map (·.size) = some n) (hn : cs.length = n) (hc : Cells J p cs) {w : World} (hw : J.p w) : (loadVar T p).run P w = .ok (.agg cs.toArray) w := by
  obtain ⟨ti, hi, hti⟩ := Option.map_eq_some_iff.1 hsz
  have hl := run_loadCells_list (P := P) w p cs (fun j v hv => hc j v hv w hw)
  rw [hn] at hl
  simp [loadVar, run_isAgg hT, hd, sizeOf, typeInfo, hi, hti, hl]
/-- two results, the first one a struct in a cell -/
theorem fin_cell2 {t T u n : Nat} {p : Addr} {cs : List Value} {v : Value} {d : TypeDesc} (hr : fn.results = #[.cell t T, .tmp u]) (he : (match e with | .normal | .ret => true | _ => false) = true) (ht : fr f s t = .pointer (some p)) (hu : fr f s u = v)
    (hT : P.underlying T = some d) (hd : isAggD d = true) (hsz : (P.info? T).map (·.size) = some n) (hn : cs.length = n) (hc : Cells J p cs) (hR : ∀ w, J.p w → R (.returned (.tuple #[.agg cs.toArray, v])) w) :
    Post N [] (bodyPost P fn R) e f s J := fun a w' ha hw => by
  have h1 : (results fn a.tmps).run P w' = .ok (.tuple #[.agg cs.toArray, v]) w' := by
    rw [results_cell_tmp hr, ha.get t, ha.get u, ht, hu]
    simp [asAddr, run_loadCell hT hd hsz hn hc hw]
  cases e <;> first | exact ⟨ha.defers, _, h1, hR w' hw⟩ | cases he
/-- one result, a struct in a cell -/
theorem fin_cell1 {t T n : Nat} {p : Addr} {cs : List Value} {d : TypeDesc} (hr : fn.results = #[.cell t T]) (he : (match e with | .normal | .ret => true | _ => false) = true) (ht : fr f s t = .pointer (some p))
    (hT : P.underlying T = some d) (hd : isAggD d = true) (hsz : (P.info? T).map (·.size) = some n) (hn : cs.length = n) (hc : Cells J p cs) (hR : ∀ w, J.p w → R (.returned (.agg cs.toArray)) w) :
    Post N [] (bodyPost P fn R) e f s J := fun a w' ha hw => by
  have ht' := (ha.get t).trans ht
  rw [Array.getD_eq_getD_getElem?] at ht'
  have h1 : (results fn a.tmps).run P w' = .ok (.agg cs.toArray) w' := by
    simp [results, hr, ht', asAddr, run_loadCell hT hd hsz hn hc hw]
  cases e <;> first | exact ⟨ha.defers, _, h1, hR w' hw⟩ | cases he
end
/-- something that holds in every world in which the known memory lies -/
def Knows (Φ : Hp) (p : World → Prop) : Prop := ∀ w, Hp.le Φ (hp w) → p w
theorem Knows.mono {Φ Ψ : Hp} {p : World → Prop} (h : Knows Φ p) (hl : Hp.le Φ Ψ) : Knows Ψ p := fun w hw => h w (Hp.le_trans hl hw)
end Go.K
namespace Go.K
open Go Go.RowKit
end Go.K
namespace Go.K
open Go Go.RowKit
end Go.K
namespace Go.K
open Go Go.RowKit
section
variable {P : Program} {J : Cls} {f : Nat → Value} {s : List (Nat × Value)} {dst : Option Nat} {ty : TypeId} {pos : String} {af : Array Edge} {g : Option (Nat × Bool)} {x y : Operand} {t t' : TypeId}
end
end Go.K
