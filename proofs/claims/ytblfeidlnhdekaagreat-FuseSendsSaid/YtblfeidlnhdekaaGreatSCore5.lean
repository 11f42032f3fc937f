/- Lemmas. Conditions: those of each theorem. -/
import Derived.Test.YtblfeidlnhdekaaGreatSCore3
import Derived.Laws.Strings
import Derived.Laws.Strings2
import Derived.Laws.Strings3
import Derived.Laws.Concat
import Derived.Laws.BytesString
import Derived.Laws.BitsAllLaws
import Derived.Lib.Bytealg
import Derived.Laws.Externs
namespace Go.K
open Go Go.RowKit
def bs (l : List UInt8) : ByteArray := ⟨l.toArray⟩
theorem bs_size (l : List UInt8) : (bs l).size = l.length := by show l.toArray.size = _; simp
theorem bs_toList (l : List UInt8) : (bs l).toList = l := ByteArray.toList_mk l
theorem bs_get {l : List UInt8} {k : Nat} (h : k < (bs l).size) : (bs l)[k] = l.getD k 0 := by
  have h' : k < l.length := by rwa [bs_size] at h
  show l.toArray[k] = _
  simp [h']
section
variable {P : Program} {J : Cls} {f : Nat → Value} {s : List (Nat × Value)} {dst : Option Nat} {ty : TypeId} {pos : String} {af : Array Edge} {g : Option (Nat × Bool)} {x y z : Operand} {t t' : TypeId} {l r : List UInt8}
theorem q_lenS {o : TypeId} (hx : ev (fr f s) x = .string (bs l)) (hT : P.underlying o = some .string) : Qt P J f s ⟨dst, .call { callee := .builtin .len, args := #[x], argTypes := #[o] }, ty, pos, af, g⟩ (.int .i64 (l.length : Int)) := qt_val fun w _ => by
  simp [execOp, resolve, invoke, builtin, hx, run_len_string w o ty (bs l) hT, goInt, bs_size]
theorem q_indexS {k : IntKind} {i : Int} (hx : ev (fr f s) x = .string (bs l)) (hy : ev (fr f s) y = .int k i) (hT : P.underlying t = some .string) (h0 : 0 ≤ i) (hn : i < l.length) :
    Qt P J f s ⟨dst, .index t x y, ty, pos, af, g⟩ (.int .u8 (((l.getD i.toNat 0).toNat : Nat) : Int)) := qt_val fun w _ => by
  have h : 0 ≤ i ∧ i < (bs l).size := ⟨h0, by rw [bs_size]; exact hn⟩
  simp only [execOp, hx, hy, run_index_string w t (bs l) k i hT, dif_pos h, Sem.run_bind, Result.andThen_ok, Sem.run_pure, bs_get]
theorem q_eqlStr (hx : ev (fr f s) x = .string (bs l)) (hy : ev (fr f s) y = .string (bs r)) : Qt P J f s ⟨dst, .binOp .eql t x y t', ty, pos, af, g⟩ (.bool (decide (l = r))) := qt_val fun w _ => by
  have e : (l == r) = decide (l = r) := by
    by_cases h : l = r <;> simp [h]
  simp only [execOp, hx, hy, Sem.run_bind, eqGuard_str, Result.andThen_ok, binOp_string_eql, bs_toList, e, Sem.run_pure]
theorem q_neqStr (hx : ev (fr f s) x = .string (bs l)) (hy : ev (fr f s) y = .string (bs r)) : Qt P J f s ⟨dst, .binOp .neq t x y t', ty, pos, af, g⟩ (.bool (!decide (l = r))) := qt_val fun w _ => by
  have e : (l == r) = decide (l = r) := by
    by_cases h : l = r <;> simp [h]
  simp only [execOp, hx, hy, Sem.run_bind, eqGuard_str, Result.andThen_ok, binOp_string_neq, bs_toList, e, Sem.run_pure]
end
section
variable {P : Program} {J : Cls} {f : Nat → Value} {s : List (Nat × Value)} {dst : Option Nat} {ty : TypeId} {pos : String} {af : Array Edge} {g : Option (Nat × Bool)} {x y : Operand} {t t' : TypeId}
theorem q_orU {a b : Nat} (hx : ev (fr f s) x = .int .u64 (a : Int)) (hy : ev (fr f s) y = .int .u64 (b : Int)) (ha : a < 18446744073709551616) (hb : b < 18446744073709551616) : Qt P J f s ⟨dst, .binOp .or t x y t', ty, pos, af, g⟩ (.int .u64 ((a ||| b : Nat) : Int)) := qt_val fun w _ => by
  have e2 : Op.intBits .or .u64 (a : Int) (b : Int) = pure (.int .u64 ((a ||| b : Nat) : Int)) := by rw [← bits_or_u64_nat a b ha hb]; rfl
  simp only [execOp, hx, hy, Sem.run_bind, eqGuard_int, Result.andThen_ok, binOp, ne_eq, not_true_eq_false, if_false, e2, Sem.run_pure]
theorem q_shlU {a c r : Nat} {k : IntKind} (hx : ev (fr f s) x = .int .u64 (a : Int)) (hy : ev (fr f s) y = .int k (c : Int)) (hc : c ≤ 64) (hr : a * 2 ^ c % 18446744073709551616 = r) : Qt P J f s ⟨dst, .binOp .shl t x y t', ty, pos, af, g⟩ (.int .u64 (r : Int)) := qt_val fun w _ => by
  have e : Op.shift .shl .u64 (a : Int) k (c : Int) = pure (.int .u64 (r : Int)) := by
    unfold Op.shift
    rw [if_neg (by omega)]
    simp only [Int.toNat_natCast, show IntKind.u64.bits = 64 from rfl, Nat.min_eq_left hc]
    rw [show (a : Int) * 2 ^ c = ((a * 2 ^ c : Nat) : Int) by simp, wrapU, hr]
  have e0 : (eqGuard .shl t x y (.int .u64 (a : Int)) (.int k (c : Int))).run P w = .ok () w := by simp [eqGuard]
  simp only [execOp, hx, hy, Sem.run_bind, e0, Result.andThen_ok, binOp, e, Sem.run_pure]
theorem q_shrU' {a c : Nat} {k : IntKind} (hx : ev (fr f s) x = .int .u64 (a : Int)) (hy : ev (fr f s) y = .int k (c : Int)) (hc : c ≤ 64) : Qt P J f s ⟨dst, .binOp .shr t x y t', ty, pos, af, g⟩ (.int .u64 ((a / 2 ^ c : Nat) : Int)) := q_shrU hx hy (by simpa using hc)
/-! bytes -/
end
section
variable {P : Program} {B : Bs} {Φ : Hp} {C : List Chunk} {f : Nat → Value} {s : List (Nat × Value)} {dst : Option Nat} {ty : TypeId} {pos : String} {af : Array Edge} {g : Option (Nat × Bool)} {x : Operand} {t t' e : TypeId}
end
end Go.K
namespace Go.K
open Go Go.RowKit
section
variable {P : Program} {J : Cls} {f : Nat → Value} {s : List (Nat × Value)} {dst : Option Nat} {ty : TypeId} {pos : String} {af : Array Edge} {g : Option (Nat × Bool)} {x y : Operand} {t t' : TypeId}
end
section
variable {P : Program} {fn : Func} {N : Nat} {f : Nat → Value} {s : List (Nat × Value)} {e : Exit} {J : Cls} {R : Ending → World → Prop}
theorem run_loadCell {p : Addr} {cs : List Value} {d : TypeDesc} {n T : Nat} (hT : P.underlying T = some d) (hd : isAggD d = true) (hsz : (P.info? T).map (·.size) = some n) (hn : cs.length = n) (hc : Cells J p cs) {w : World} (hw : J.p w) : (loadVar T p).run P w = .ok (.agg cs.toArray) w := by
  obtain ⟨ti, hi, hti⟩ := mS hsz
  have hl := run_loadCells_list (P := P) w p cs (fun j v hv => hc j v hv w hw)
  rw [hn] at hl
  simp [loadVar, run_isAgg hT, hd, sizeOf, typeInfo, hi, hti, hl]
theorem fin_cell2 {t T u n : Nat} {p : Addr} {cs : List Value} {v : Value} {d : TypeDesc} (hr : fn.results = #[.cell t T, .tmp u]) (he : (match e with | .normal | .ret => true | _ => false) = true) (ht : fr f s t = .pointer (some p)) (hu : fr f s u = v)
    (hT : P.underlying T = some d) (hd : isAggD d = true) (hsz : (P.info? T).map (·.size) = some n) (hn : cs.length = n) (hc : Cells J p cs) (hR : ∀ w, J.p w → R (.returned (.tuple #[.agg cs.toArray, v])) w) :
    Post N [] (bodyPost P fn R) e f s J := fun a w' ha hw => by
  have h1 : (results fn a.tmps).run P w' = .ok (.tuple #[.agg cs.toArray, v]) w' := by
    rw [results_cell_tmp hr, ha.get t, ha.get u, ht, hu]
    simp [asAddr, run_loadCell hT hd hsz hn hc hw]
  cases e <;> first | exact ⟨ha.defers, _, h1, hR w' hw⟩ | cases he
theorem fin_cell1 {t T n : Nat} {p : Addr} {cs : List Value} {d : TypeDesc} (hr : fn.results = #[.cell t T]) (he : (match e with | .normal | .ret => true | _ => false) = true) (ht : fr f s t = .pointer (some p))
    (hT : P.underlying T = some d) (hd : isAggD d = true) (hsz : (P.info? T).map (·.size) = some n) (hn : cs.length = n) (hc : Cells J p cs) (hR : ∀ w, J.p w → R (.returned (.agg cs.toArray)) w) :
    Post N [] (bodyPost P fn R) e f s J := fun a w' ha hw => by
  have ht' := (ha.get t).trans ht
  rw [Array.getD_eq_getD_getElem?] at ht'
  have h1 : (results fn a.tmps).run P w' = .ok (.agg cs.toArray) w' := by
    simp [results, hr, ht', asAddr, run_loadCell hT hd hsz hn hc hw]
  cases e <;> first | exact ⟨ha.defers, _, h1, hR w' hw⟩ | cases he
end
end Go.K
namespace Go.K
open Go Go.RowKit
end Go.K
namespace Go.K
open Go Go.RowKit
end Go.K
namespace Go.K
open Go Go.RowKit
section
variable {P : Program} {J : Cls} {f : Nat → Value} {s : List (Nat × Value)} {dst : Option Nat} {ty : TypeId} {pos : String} {af : Array Edge} {g : Option (Nat × Bool)} {x y : Operand} {t t' : TypeId}
end
end Go.K
