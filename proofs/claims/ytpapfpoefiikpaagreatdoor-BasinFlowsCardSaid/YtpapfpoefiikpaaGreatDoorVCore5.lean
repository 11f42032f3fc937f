/- Lemmas. Conditions: those of each theorem. -/
import Derived.Test.YtpapfpoefiikpaaGreatDoorVCore3
import Derived.Laws.Strings
import Derived.Laws.Strings2
import Derived.Laws.Strings3
import Derived.Laws.Concat
import Derived.Laws.BytesString
import Derived.Laws.BitsAllLaws
import Derived.Lib.Bytealg
import Derived.Laws.Externs
namespace Go.K
open Go Go.RowKit
def bs (l : List UInt8) : ByteArray := ⟨l.toArray⟩
theorem bs_data (s : ByteArray) : bs s.data.toList = s := rfl
theorem bs_size (l : List UInt8) : (bs l).size = l.length := by show l.toArray.size = _; simp
theorem bs_toList (l : List UInt8) : (bs l).toList = l := ByteArray.toList_mk l
theorem bs_append (l r : List UInt8) : bs l ++ bs r = bs (l ++ r) := ByteArray.mk_append_mk l r
theorem bs_extract (l : List UInt8) (a b : Nat) : (bs l).extract a b = bs ((l.drop a).take (b - a)) := ByteArray.extract_mk l a b
theorem bs_inj {l r : List UInt8} (h : bs l = bs r) : l = r := by
  have := congrArg ByteArray.toList h
  rwa [bs_toList, bs_toList] at this
theorem bs_get {l : List UInt8} {k : Nat} (h : k < (bs l).size) : (bs l)[k] = l.getD k 0 := by
  have h' : k < l.length := by rwa [bs_size] at h
  show l.toArray[k] = _
  simp [h']
section
variable {P : Program} {J : Cls} {f : Nat → Value} {s : List (Nat × Value)} {dst : Option Nat} {ty : TypeId} {pos : String} {af : Array Edge} {g : Option (Nat × Bool)} {x y z : Operand} {t t' : TypeId} {l r : List UInt8}
theorem q_lenS {o : TypeId} (hx : ev (fr f s) x = .string (bs l)) (hT : P.underlying o = some .string) : Qt P J f s ⟨dst, .call { callee := .builtin .len, args := #[x], argTypes := #[o] }, ty, pos, af, g⟩ (.int .i64 (l.length : Int)) := qt_val fun w _ => by
  simp [execOp, resolve, invoke, builtin, hx, run_len_string w o ty (bs l) hT, goInt, bs_size]
theorem q_indexS {k : IntKind} {i : Int} (hx : ev (fr f s) x = .string (bs l)) (hy : ev (fr f s) y = .int k i) (hT : P.underlying t = some .string) (h0 : 0 ≤ i) (hn : i < l.length) :
    Qt P J f s ⟨dst, .index t x y, ty, pos, af, g⟩ (.int .u8 (((l.getD i.toNat 0).toNat : Nat) : Int)) := qt_val fun w _ => by
  have h : 0 ≤ i ∧ i < (bs l).size := ⟨h0, by rw [bs_size]; exact hn⟩
  simp only [execOp, hx, hy, run_index_string w t (bs l) k i hT, dif_pos h, Sem.run_bind, Result.andThen_ok, Sem.run_pure, bs_get]
theorem q_eqlStr (hx : ev (fr f s) x = .string (bs l)) (hy : ev (fr f s) y = .string (bs r)) : Qt P J f s ⟨dst, .binOp .eql t x y t', ty, pos, af, g⟩ (.bool (decide (l = r))) := qt_val fun w _ => by
  have e : (l == r) = decide (l = r) := by
    by_cases h : l = r <;> simp [h]
  simp only [execOp, hx, hy, Sem.run_bind, eqGuard_str, Result.andThen_ok, binOp_string_eql, bs_toList, e, Sem.run_pure]
theorem q_neqStr (hx : ev (fr f s) x = .string (bs l)) (hy : ev (fr f s) y = .string (bs r)) : Qt P J f s ⟨dst, .binOp .neq t x y t', ty, pos, af, g⟩ (.bool (!decide (l = r))) := qt_val fun w _ => by
  have e : (l == r) = decide (l = r) := by
    by_cases h : l = r <;> simp [h]
  simp only [execOp, hx, hy, Sem.run_bind, eqGuard_str, Result.andThen_ok, binOp_string_neq, bs_toList, e, Sem.run_pure]
theorem q_catStr {lr : List UInt8} (hx : ev (fr f s) x = .string (bs l)) (hy : ev (fr f s) y = .string (bs r)) (hn : l.length + r.length ≤ 9223372036854775807) (hr : l ++ r = lr) : Qt P J f s ⟨dst, .binOp .add t x y t', ty, pos, af, g⟩ (.string (bs lr)) := qt_val fun w _ => by
  subst hr
  have e := run_string_add_sum (P := P) (w := w) (bs l) (bs r) (by rw [bs_size, bs_size]; exact hn)
  simp only [execOp, hx, hy, Sem.run_bind, eqGuard_str, Result.andThen_ok, binOp_string_add, e, bs_append, Sem.run_pure]
theorem run_sliceAt_str (hT : P.underlying t = some .string) (v : Value) (lo hi mx : Option Value) (w : World) : (Instr.sliceAt t v lo hi mx).run P w = (Instr.slice t v lo hi mx).run P w := by
  simp [Instr.sliceAt, run_underlying hT]
theorem q_sliceSLH {k k' : IntKind} {i j : Int} (hx : ev (fr f s) x = .string (bs l)) (hy : ev (fr f s) y = .int k i) (hz : ev (fr f s) z = .int k' j) (hT : P.underlying t = some .string) (h0 : 0 ≤ i) (hl : i ≤ j) (hm : j ≤ l.length) :
    Qt P J f s ⟨dst, .slice t x (some y) (some z) none, ty, pos, af, g⟩ (.string (bs ((l.drop i.toNat).take (j.toNat - i.toNat)))) := qt_val fun w _ => by
  have hmx : max j 0 = j := by omega
  have h : (Instr.slice t (.string (bs l)) (some (.int k i)) (some (.int k' j)) none).run P w = .ok (.string ((bs l).extract i.toNat j.toNat)) w := by
    simp [Instr.slice, Instr.sliceBounds, Instr.sliceBound, asIntOf, run_underlying hT, bs_size, h0, hl, hm, show (0 : Int) ≤ j by omega, hmx]
  simp only [execOp, hx, hy, hz, Option.map_some, Option.map_none, run_sliceAt_str hT, h, Sem.run_bind, Result.andThen_ok, Sem.run_pure, bs_extract]
theorem q_sliceSH {k' : IntKind} {j : Int} (hx : ev (fr f s) x = .string (bs l)) (hz : ev (fr f s) z = .int k' j) (hT : P.underlying t = some .string) (h0 : 0 ≤ j) (hm : j ≤ l.length) :
    Qt P J f s ⟨dst, .slice t x none (some z) none, ty, pos, af, g⟩ (.string (bs (l.take j.toNat))) := qt_val fun w _ => by
  have h : (Instr.slice t (.string (bs l)) none (some (.int k' j)) none).run P w = .ok (.string ((bs l).extract 0 j.toNat)) w := by
    simp [Instr.slice, Instr.sliceBounds, Instr.sliceBound, asIntOf, run_underlying hT, bs_size, h0, hm]
  simp only [execOp, hx, hz, Option.map_some, Option.map_none, run_sliceAt_str hT, h, Sem.run_bind, Result.andThen_ok, Sem.run_pure, bs_extract, List.drop_zero, Nat.sub_zero]
theorem q_sliceSL {k : IntKind} {i : Int} (hx : ev (fr f s) x = .string (bs l)) (hy : ev (fr f s) y = .int k i) (hT : P.underlying t = some .string) (h0 : 0 ≤ i) (hl : i ≤ l.length) :
    Qt P J f s ⟨dst, .slice t x (some y) none none, ty, pos, af, g⟩ (.string (bs (l.drop i.toNat))) := qt_val fun w _ => by
  have h : (Instr.slice t (.string (bs l)) (some (.int k i)) none none).run P w = .ok (.string ((bs l).extract i.toNat (bs l).size)) w := by
    simp [Instr.slice, Instr.sliceBounds, Instr.sliceBound, asIntOf, run_underlying hT, bs_size, h0, hl]
  have e : (l.drop i.toNat).take (l.length - i.toNat) = l.drop i.toNat := List.take_of_length_le (by simp)
  simp only [execOp, hx, hy, Option.map_some, Option.map_none, run_sliceAt_str hT, h, Sem.run_bind, Result.andThen_ok, Sem.run_pure, bs_extract, bs_size, e]
end
section
variable {P : Program} {J : Cls} {f : Nat → Value} {s : List (Nat × Value)} {dst : Option Nat} {ty : TypeId} {pos : String} {af : Array Edge} {g : Option (Nat × Bool)} {x y : Operand} {t t' : TypeId}
theorem q_orU {a b : Nat} (hx : ev (fr f s) x = .int .u64 (a : Int)) (hy : ev (fr f s) y = .int .u64 (b : Int)) (ha : a < 18446744073709551616) (hb : b < 18446744073709551616) : Qt P J f s ⟨dst, .binOp .or t x y t', ty, pos, af, g⟩ (.int .u64 ((a ||| b : Nat) : Int)) := qt_val fun w _ => by
  have e2 : Op.intBits .or .u64 (a : Int) (b : Int) = pure (.int .u64 ((a ||| b : Nat) : Int)) := by rw [← bits_or_u64_nat a b ha hb]; rfl
  simp only [execOp, hx, hy, Sem.run_bind, eqGuard_int, Result.andThen_ok, binOp, ne_eq, not_true_eq_false, if_false, e2, Sem.run_pure]
theorem q_shlU {a c r : Nat} {k : IntKind} (hx : ev (fr f s) x = .int .u64 (a : Int)) (hy : ev (fr f s) y = .int k (c : Int)) (hc : c ≤ 64) (hr : a * 2 ^ c % 18446744073709551616 = r) : Qt P J f s ⟨dst, .binOp .shl t x y t', ty, pos, af, g⟩ (.int .u64 (r : Int)) := qt_val fun w _ => by
  have e : Op.shift .shl .u64 (a : Int) k (c : Int) = pure (.int .u64 (r : Int)) := by
    unfold Op.shift
    rw [if_neg (by omega)]
    simp only [Int.toNat_natCast, show IntKind.u64.bits = 64 from rfl, Nat.min_eq_left hc]
    rw [show (a : Int) * 2 ^ c = ((a * 2 ^ c : Nat) : Int) by simp, wrapU, hr]
  have e0 : (eqGuard .shl t x y (.int .u64 (a : Int)) (.int k (c : Int))).run P w = .ok () w := by simp [eqGuard]
  simp only [execOp, hx, hy, Sem.run_bind, e0, Result.andThen_ok, binOp, e, Sem.run_pure]
theorem q_shrU' {a c : Nat} {k : IntKind} (hx : ev (fr f s) x = .int .u64 (a : Int)) (hy : ev (fr f s) y = .int k (c : Int)) (hc : c ≤ 64) : Qt P J f s ⟨dst, .binOp .shr t x y t', ty, pos, af, g⟩ (.int .u64 ((a / 2 ^ c : Nat) : Int)) := q_shrU hx hy (by simpa using hc)
/-! bytes -/
theorem wrapB (a : Nat) : IntKind.u8.wrap (a : Int) = ((a % 256 : Nat) : Int) := by rw [IntKind.wrap_u8']; omega
theorem q_subB {a b r : Nat} (hx : ev (fr f s) x = .int .u8 (a : Int)) (hy : ev (fr f s) y = .int .u8 (b : Int)) (hb : b ≤ a) (hr : a - b = r) (ha : a < 256) : Qt P J f s ⟨dst, .binOp .sub t x y t', ty, pos, af, g⟩ (.int .u8 (r : Int)) := qt_val fun w _ => by
  have e : IntKind.u8.wrap ((a : Int) - b) = (r : Int) := by rw [show (a : Int) - b = (r : Int) by omega, wrapB, Nat.mod_eq_of_lt (by omega)]
  simp only [execOp, hx, hy, Sem.run_bind, eqGuard_int, Result.andThen_ok, binOp, ne_eq, not_true_eq_false, if_false, Op.intArith, e, Sem.run_pure]
theorem q_toK {a : Int} {k k' : IntKind} {d : TypeDesc} (hx : ev (fr f s) x = .int k' a) (h1 : P.underlying t = some d) (h2 : P.underlying t' = some (.int k)) (hw : k.wrap a = a) : Qt P J f s ⟨dst, .convert t t' x, ty, pos, af, g⟩ (.int k a) := qt_val fun w _ => by
  simp only [execOp, hx, convert, Sem.run_bind, run_underlying h1, run_underlying h2, Result.andThen_ok, Conv.intToInt, hw, Sem.run_pure]
end
section
variable {P : Program} {B : Bs} {Φ : Hp} {C : List Chunk} {f : Nat → Value} {s : List (Nat × Value)} {dst : Option Nat} {ty : TypeId} {pos : String} {af : Array Edge} {g : Option (Nat × Bool)} {x : Operand} {t t' e : TypeId}
end
end Go.K
namespace Go.K
open Go Go.RowKit
section
variable {P : Program} {J : Cls} {f : Nat → Value} {s : List (Nat × Value)} {dst : Option Nat} {ty : TypeId} {pos : String} {af : Array Edge} {g : Option (Nat × Bool)} {x y : Operand} {t t' : TypeId}
theorem q_indexByte {xs : Array Operand} {ts : Array TypeId} {k : FuncId} {fn : Func} {l : List UInt8} {c : UInt8} (hf : P.funcs[k]? = some fn) (hname : (fn.name == "runtime.NumGoroutine") = false) (hb : fn.body.isNone = true) (hn : Extern.findNext fn = none) (he : Extern.find fn = some Extern.BytealgIndexByte.indexByte)
    (hx : ev (fr f s) x = .func (.func k) #[] #[]) (ha : xs.toList.map (ev (fr f s)) = [.string (bs l), .int .u8 ((c.toNat : Nat) : Int)]) :
    Qt P J f s ⟨dst, .call { callee := .value x, args := xs, argTypes := ts }, ty, pos, af, g⟩ (.int .i64 (Lib.indexByte l c)) := qt_val fun w _ => by
  have hxs : xs.map (ev (fr f s)) = #[.string (bs l), .int .u8 ((c.toNat : Nat) : Int)] := by apply Array.ext'; simpa using ha
  have h := run_callFunc_extern (P := P) hf hname hb hn he #[.string (bs l), .int .u8 ((c.toNat : Nat) : Int)] w
  rw [Lib.run_indexByteString] at h
  have e : ((c.toNat : Nat) : Int).toNat.toUInt8 = c := by rw [Int.toNat_natCast]; exact UInt8.ofNat_toNat
  have e2 : (bs l).data.toList = l := rfl
  rw [e, e2] at h
  simp only [Result.andThen_ok] at h
  simp only [execOp, resolve, hx, Deferred.ofValue, invoke, hxs, Array.append_empty, Array.empty_append, Sem.run_bind, Sem.run_pure, Result.andThen_ok]
  exact h
theorem q_indexArr {cs : Array Value} {es : List Value} {n sz : Nat} {e : TypeId} {d : TypeDesc} {k : IntKind} {i : Int} (hx : ev (fr f s) x = .agg cs) (hy : ev (fr f s) y = .int k i) (hT : P.underlying t = some (.array n e)) (he : P.underlying e = some d) (hd : isAggD d = true) (hsz : (P.info? e).map (·.size) = some sz)
    (h0 : 0 ≤ i) (hn : i < n) (hlen : es.length = sz) (hes : ∀ j v, es[j]? = some v → cs[i.toNat * sz + j]? = some v) : Qt P J f s ⟨dst, .index t x y, ty, pos, af, g⟩ (.agg es.toArray) := qt_val fun w _ => by
  obtain ⟨ti, hi, hti⟩ := mS hsz
  have hsize : ∀ w, (sizeOf e).run P w = .ok sz w := fun w => by simp [sizeOf, typeInfo, hi, hti]
  have hex : cs.extract (i.toNat * sz) (i.toNat * sz + sz) = es.toArray := by
    apply Array.ext_getElem?
    intro j
    rw [Array.getElem?_extract]
    by_cases hj : j < sz
    · have hjl : j < es.length := by omega
      have hs := hes j es[j] (List.getElem?_eq_getElem hjl)
      have hlt := (Array.getElem?_eq_some_iff.1 hs).1
      rw [if_pos (by omega), hs]
      simp [hjl]
    · rw [if_neg (by omega)]
      simp; omega
  have hlast : sz = 0 ∨ i.toNat * sz + sz ≤ cs.size := by
    rcases Nat.eq_zero_or_pos sz with h | h
    · exact .inl h
    · have hs := hes (sz - 1) (es[sz - 1]'(by omega)) (List.getElem?_eq_getElem _)
      have := (Array.getElem?_eq_some_iff.1 hs).1
      exact .inr (by omega)
  have hpart : (part e cs (i.toNat * sz)).run P w = .ok (.agg es.toArray) w := by
    simp only [part, Sem.run_bind, run_isAgg he, hd, hsize, Result.andThen_ok, if_true, hex, Sem.run_pure]
  simp only [execOp, hx, hy, Instr.index, asIntOf, Sem.run_bind, Sem.run_pure, run_underlying hT, Result.andThen_ok, if_pos (And.intro h0 hn), hsize, hpart]
end
section
variable {P : Program} {fn : Func} {N : Nat} {f : Nat → Value} {s : List (Nat × Value)} {e : Exit} {J : Cls} {R : Ending → World → Prop}
theorem run_loadCell {p : Addr} {cs : List Value} {d : TypeDesc} {n T : Nat} (hT : P.underlying T = some d) (hd : isAggD d = true) (hsz : (P.info? T).map (·.size) = some n) (hn : cs.length = n) (hc : Cells J p cs) {w : World} (hw : J.p w) : (loadVar T p).run P w = .ok (.agg cs.toArray) w := by
  obtain ⟨ti, hi, hti⟩ := mS hsz
  have hl := run_loadCells_list (P := P) w p cs (fun j v hv => hc j v hv w hw)
  rw [hn] at hl
  simp [loadVar, run_isAgg hT, hd, sizeOf, typeInfo, hi, hti, hl]
theorem fin_cell2 {t T u n : Nat} {p : Addr} {cs : List Value} {v : Value} {d : TypeDesc} (hr : fn.results = #[.cell t T, .tmp u]) (he : (match e with | .normal | .ret => true | _ => false) = true) (ht : fr f s t = .pointer (some p)) (hu : fr f s u = v)
    (hT : P.underlying T = some d) (hd : isAggD d = true) (hsz : (P.info? T).map (·.size) = some n) (hn : cs.length = n) (hc : Cells J p cs) (hR : ∀ w, J.p w → R (.returned (.tuple #[.agg cs.toArray, v])) w) :
    Post N [] (bodyPost P fn R) e f s J := fun a w' ha hw => by
  have h1 : (results fn a.tmps).run P w' = .ok (.tuple #[.agg cs.toArray, v]) w' := by
    rw [results_cell_tmp hr, ha.get t, ha.get u, ht, hu]
    simp [asAddr, run_loadCell hT hd hsz hn hc hw]
  cases e <;> first | exact ⟨ha.defers, _, h1, hR w' hw⟩ | cases he
end
def Knows (Φ : Hp) (p : World → Prop) : Prop := ∀ w, Hp.le Φ (hp w) → p w
theorem Knows.mono {Φ Ψ : Hp} {p : World → Prop} (h : Knows Φ p) (hl : Hp.le Φ Ψ) : Knows Ψ p := fun w hw => h w (Hp.le_trans hl hw)
end Go.K
namespace Go.K
open Go Go.RowKit
end Go.K
namespace Go.K
open Go Go.RowKit
theorem q_ext {P : Program} {J : Cls} {f : Nat → Value} {s : List (Nat × Value)} {dst : Option Nat} {ty : TypeId} {pos : String} {af : Array Edge} {g : Option (Nat × Bool)} {x : Operand} {xs : Array Operand} {ts : Array TypeId} {k : FuncId} {fn : Func} {e : Array Value → Sem Value} {args : List Value} {v : Value}
    (hf : P.funcs[k]? = some fn) (hname : (fn.name == "runtime.NumGoroutine") = false) (hb : fn.body.isNone = true) (hn : Extern.findNext fn = none) (he : Extern.find fn = some e)
    (hx : ev (fr f s) x = .func (.func k) #[] #[]) (ha : xs.toList.map (ev (fr f s)) = args) (hr : ∀ w, (e args.toArray).run P w = .ok v w) :
    Qt P J f s ⟨dst, .call { callee := .value x, args := xs, argTypes := ts }, ty, pos, af, g⟩ v := qt_val fun w _ => by
  have hxs : xs.map (ev (fr f s)) = args.toArray := by apply Array.ext'; simpa using ha
  have h := run_callFunc_extern (P := P) hf hname hb hn he args.toArray w
  rw [hr w] at h
  simp only [Result.andThen_ok] at h
  simp only [execOp, resolve, hx, Deferred.ofValue, invoke, hxs, Array.append_empty, Array.empty_append, Sem.run_bind, Sem.run_pure, Result.andThen_ok]
  exact h
end Go.K
namespace Go.K
open Go Go.RowKit
section
variable {P : Program} {J : Cls} {f : Nat → Value} {s : List (Nat × Value)} {dst : Option Nat} {ty : TypeId} {pos : String} {af : Array Edge} {g : Option (Nat × Bool)} {x y : Operand} {t t' : TypeId}
end
end Go.K
