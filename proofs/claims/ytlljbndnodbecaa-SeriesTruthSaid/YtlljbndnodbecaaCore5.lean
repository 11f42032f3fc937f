/- More rules: library entries without a body, parts of arrays, results in cells. Conditions: those of each theorem. -/
import Derived.Test.YtlljbndnodbecaaCore4
import Derived.Lib.Bytealg
import Derived.Laws.Externs
namespace Go.K
open Go Go.RowKit
section
variable {P : Program} {J : Cls} {f : Nat → Value} {s : List (Nat × Value)} {dst : Option Nat} {ty : TypeId} {pos : String} {af : Array Edge} {g : Option (Nat × Bool)} {x y : Operand} {t t' : TypeId}
/-- internal/bytealg.IndexByteString -/
theorem q_indexByte {xs : Array Operand} {ts : Array TypeId} {k : FuncId} {fn : Func} {l : List UInt8} {c : UInt8} (hf : P.funcs[k]? = some fn) (hname : (fn.name == "runtime.NumGoroutine") = false) (hb : fn.body.isNone = true) (hn : Extern.findNext fn = none) (he : Extern.find fn = some Extern.BytealgIndexByte.indexByte)
    (hx : ev (fr f s) x = .func (.func k) #[] #[]) (ha : xs.toList.map (ev (fr f s)) = [.string (bs l), .int .u8 ((c.toNat : Nat) : Int)]) :
    Qt P J f s ⟨dst, .call { callee := .value x, args := xs, argTypes := ts }, ty, pos, af, g⟩ (.int .i64 (Lib.indexByte l c)) := qt_val fun w _ => by
  have hxs : xs.map (ev (fr f s)) = #[.string (bs l), .int .u8 ((c.toNat : Nat) : Int)] := by apply Array.ext'; simpa using ha
  have h := run_callFunc_extern (P := P) hf hname hb hn he #[.string (bs l), .int .u8 ((c.toNat : Nat) : Int)] w
  rw [Lib.run_indexByteString] at h
  have e : ((c.toNat : Nat) : Int).toNat.toUInt8 = c := by rw [Int.toNat_natCast]; exact UInt8.ofNat_toNat
  have e2 : (bs l).data.toList = l := rfl
  rw [e, e2] at h
  simp only [Result.andThen_ok] at h
  simp only [execOp, resolve, hx, Deferred.ofValue, invoke, hxs, Array.append_empty, Array.empty_append, Sem.run_bind, Sem.run_pure, Result.andThen_ok]
  exact h
/-- an element of several cells of an array's value -/
theorem q_indexArr {cs : Array Value} {es : List Value} {n sz : Nat} {e : TypeId} {d : TypeDesc} {k : IntKind} {i : Int} (hx : ev (fr f s) x = .agg cs) (hy : ev (fr f s) y = .int k i) (hT : P.underlying t = some (.array n e)) (he : P.underlying e = some d) (hd : isAggD d = true) (hsz : (P.info? e).map (·.size) = some sz)
    (h0 : 0 ≤ i) (hn : i < n) (hlen : es.length = sz) (hes : ∀ j v, es[j]? = some v → cs[i.toNat * sz + j]? = some v) : Qt P J f s ⟨dst, .index t x y, ty, pos, af, g⟩ (.agg es.toArray) := qt_val fun w _ => by
  obtain ⟨ti, hi, hti⟩ := Option.map_eq_some_iff.1 hsz
  have hsize : ∀ w, (sizeOf e).run P w = .ok sz w := fun w => by simp [sizeOf, typeInfo, hi, hti]
  have hex : cs.extract (i.toNat * sz) (i.toNat * sz + sz) = es.toArray := by
    apply Array.ext_getElem?
    intro j
    rw [Array.getElem?_extract]
    by_cases hj : j < sz
    · have hjl : j < es.length := by omega
      have hs := hes j es[j] (List.getElem?_eq_getElem hjl)
      have hlt := (Array.getElem?_eq_some_iff.1 hs).1
      rw [if_pos (by omega), hs]
      simp [hjl]
    · rw [if_neg (by omega)]
      simp; omega
  have hlast : sz = 0 ∨ i.toNat * sz + sz ≤ cs.size := by
    rcases Nat.eq_zero_or_pos sz with h | h
    · exact .inl h
    · have hs := hes (sz - 1) (es[sz - 1]'(by omega)) (List.getElem?_eq_getElem _)
      have := (Array.getElem?_eq_some_iff.1 hs).1
      exact .inr (by omega)
  have hpart : (part e cs (i.toNat * sz)).run P w = .ok (.agg es.toArray) w := by
    simp only [part, Sem.run_bind, run_isAgg he, hd, hsize, Result.andThen_ok, if_true, hex, Sem.run_pure]
  simp only [execOp, hx, hy, Instr.index, asIntOf, Sem.run_bind, Sem.run_pure, run_underlying hT, Result.andThen_ok, if_pos (And.intro h0 hn), hsize, hpart]
end
section
variable {P : Program} {fn : Func} {N : Nat} {f : Nat → Value} {s : List (Nat × Value)} {e : Exit} {J : Cls} {R : Ending → World → Prop}
theorem run_loadCell {p : Addr} {cs : List Value} {d : TypeDesc} {n T : Nat} (hT : P.underlying T = some d) (hd : isAggD d = true) (hsz : (P.info? T).map (·.size) = some n) (hn : cs.length = n) (hc : Cells J p cs) {w : World} (hw : J.p w) : (loadVar T p).run P w = .ok (.agg cs.toArray) w := by
  obtain ⟨ti, hi, hti⟩ := Option.map_eq_some_iff.1 hsz
  have hl := run_loadCells_list (P := P) w p cs (fun j v hv => hc j v hv w hw)
  rw [hn] at hl
  simp [loadVar, run_isAgg hT, hd, sizeOf, typeInfo, hi, hti, hl]
/-- two results, the first one a struct in a cell -/
theorem fin_cell2 {t T u n : Nat} {p : Addr} {cs : List Value} {v : Value} {d : TypeDesc} (hr : fn.results = #[.cell t T, .tmp u]) (he : (match e with | .normal | .ret => true | _ => false) = true) (ht : fr f s t = .pointer (some p)) (hu : fr f s u = v)
    (hT : P.underlying T = some d) (hd : isAggD d = true) (hsz : (P.info? T).map (·.size) = some n) (hn : cs.length = n) (hc : Cells J p cs) (hR : ∀ w, J.p w → R (.returned (.tuple #[.agg cs.toArray, v])) w) :
    Post N [] (bodyPost P fn R) e f s J := fun a w' ha hw => by
  have h1 : (results fn a.tmps).run P w' = .ok (.tuple #[.agg cs.toArray, v]) w' := by
    rw [results_cell_tmp hr, ha.get t, ha.get u, ht, hu]
    simp [asAddr, run_loadCell hT hd hsz hn hc hw]
  cases e <;> first | exact ⟨ha.defers, _, h1, hR w' hw⟩ | cases he
/-- one result, a struct in a cell -/
theorem fin_cell1 {t T n : Nat} {p : Addr} {cs : List Value} {d : TypeDesc} (hr : fn.results = #[.cell t T]) (he : (match e with | .normal | .ret => true | _ => false) = true) (ht : fr f s t = .pointer (some p))
    (hT : P.underlying T = some d) (hd : isAggD d = true) (hsz : (P.info? T).map (·.size) = some n) (hn : cs.length = n) (hc : Cells J p cs) (hR : ∀ w, J.p w → R (.returned (.agg cs.toArray)) w) :
    Post N [] (bodyPost P fn R) e f s J := fun a w' ha hw => by
  have ht' := (ha.get t).trans ht
  rw [Array.getD_eq_getD_getElem?] at ht'
  have h1 : (results fn a.tmps).run P w' = .ok (.agg cs.toArray) w' := by
    simp [results, hr, ht', asAddr, run_loadCell hT hd hsz hn hc hw]
  cases e <;> first | exact ⟨ha.defers, _, h1, hR w' hw⟩ | cases he
end
/-- something that holds in every world in which the known memory lies -/
def Knows (Φ : Hp) (p : World → Prop) : Prop := ∀ w, Hp.le Φ (hp w) → p w
theorem Knows.mono {Φ Ψ : Hp} {p : World → Prop} (h : Knows Φ p) (hl : Hp.le Φ Ψ) : Knows Ψ p := fun w hw => h w (Hp.le_trans hl hw)
end Go.K
namespace Go.K
open Go Go.RowKit
theorem byte_ofNat (n : Nat) : (UInt8.ofNat n).toNat = n % 256 := by simp
theorem Cell.rowStr {B : Bs} {Φ : Hp} {C : List Chunk} {v : Value} {T n k : Nat} {xs : List (List UInt8)} (i : Nat) (hi : C[i]? = some (.row v T 1 n (xs.map fun l => Value.string (bs l)))) (hk : k < xs.length) : Cell (St B Φ C) (Value.at v (k * 1)) (.string (bs (xs.getD k []))) :=
  Cell.row i hi (by rw [Nat.mul_one]; simp [List.getD_eq_getElem?_getD, hk])
end Go.K
namespace Go.K
open Go Go.RowKit
/-- a library function without a body -/
theorem q_ext {P : Program} {J : Cls} {f : Nat → Value} {s : List (Nat × Value)} {dst : Option Nat} {ty : TypeId} {pos : String} {af : Array Edge} {g : Option (Nat × Bool)} {x : Operand} {xs : Array Operand} {ts : Array TypeId} {k : FuncId} {fn : Func} {e : Array Value → Sem Value} {args : List Value} {v : Value}
    (hf : P.funcs[k]? = some fn) (hname : (fn.name == "runtime.NumGoroutine") = false) (hb : fn.body.isNone = true) (hn : Extern.findNext fn = none) (he : Extern.find fn = some e)
    (hx : ev (fr f s) x = .func (.func k) #[] #[]) (ha : xs.toList.map (ev (fr f s)) = args) (hr : ∀ w, (e args.toArray).run P w = .ok v w) :
    Qt P J f s ⟨dst, .call { callee := .value x, args := xs, argTypes := ts }, ty, pos, af, g⟩ v := qt_val fun w _ => by
  have hxs : xs.map (ev (fr f s)) = args.toArray := by apply Array.ext'; simpa using ha
  have h := run_callFunc_extern (P := P) hf hname hb hn he args.toArray w
  rw [hr w] at h
  simp only [Result.andThen_ok] at h
  simp only [execOp, resolve, hx, Deferred.ofValue, invoke, hxs, Array.append_empty, Array.empty_append, Sem.run_bind, Sem.run_pure, Result.andThen_ok]
  exact h
end Go.K
namespace Go.K
open Go Go.RowKit
section
variable {P : Program} {J : Cls} {f : Nat → Value} {s : List (Nat × Value)} {dst : Option Nat} {ty : TypeId} {pos : String} {af : Array Edge} {g : Option (Nat × Bool)} {x y : Operand} {t t' : TypeId}
theorem q_quoN {a b : Nat} (hx : ev (fr f s) x = .int .i64 (a : Int)) (hy : ev (fr f s) y = .int .i64 (b : Int)) (hb : 0 < b) (ha : a ≤ 9223372036854775807) : Qt P J f s ⟨dst, .binOp .quo t x y t', ty, pos, af, g⟩ (.int .i64 ((a / b : Nat) : Int)) :=
  q_quo hx hy (by omega) (Int.ofNat_tdiv a b).symm (by have h1 := Nat.div_le_self a b; generalize a / b = q at *; unfold I64; omega)
theorem q_remN {a b : Nat} (hx : ev (fr f s) x = .int .i64 (a : Int)) (hy : ev (fr f s) y = .int .i64 (b : Int)) (hb : 0 < b) : Qt P J f s ⟨dst, .binOp .rem t x y t', ty, pos, af, g⟩ (.int .i64 ((a % b : Nat) : Int)) :=
  q_rem hx hy (by omega) (Int.ofNat_tmod a b).symm
end
theorem fin_out5 {P : Program} {fn : Func} {N : Nat} {f : Nat → Value} {s : List (Nat × Value)} {e : Exit} {J : Cls} {R : Ending → World → Prop} {t1 t2 t3 t4 t5 : Nat} {v1 v2 v3 v4 v5 : Value} (hr : fn.results = #[.tmp t1, .tmp t2, .tmp t3, .tmp t4, .tmp t5]) (he : (match e with | .normal | .ret => true | _ => false) = true)
    (h1 : fr f s t1 = v1) (h2 : fr f s t2 = v2) (h3 : fr f s t3 = v3) (h4 : fr f s t4 = v4) (h5 : fr f s t5 = v5) (hR : ∀ w, J.p w → R (.returned (.tuple #[v1, v2, v3, v4, v5])) w) :
    Post N [] (bodyPost P fn R) e f s J := fun a w' ha hw => by
  have h : (results fn a.tmps).run P w' = .ok (.tuple #[v1, v2, v3, v4, v5]) w' := by
    unfold results
    rw [hr]
    have g1 := (ha.get t1).trans h1
    have g2 := (ha.get t2).trans h2
    have g3 := (ha.get t3).trans h3
    have g4 := (ha.get t4).trans h4
    have g5 := (ha.get t5).trans h5
    rw [Array.getD_eq_getD_getElem?] at g1 g2 g3 g4 g5
    simp [g1, g2, g3, g4, g5]
  cases e <;> first | exact ⟨ha.defers, _, h, hR w' hw⟩ | cases he
end Go.K
