/- Lemmas. Conditions: those of each theorem. -/
import Derived.Test.YtpapfpoefiikpaaGreatDoorVCore2
import Derived.Laws.Bits64b
import Derived.Lib.Mul64
namespace Go.K
open Go Go.RowKit
section
variable {P : Program} {Pn : List PanicEntry → World → Prop} {J : Cls} {f : Nat → Value} {s : List (Nat × Value)} {dst : Option Nat} {ty : TypeId} {pos : String} {af : Array Edge} {g : Option (Nat × Bool)} {x y : Operand} {t t' : TypeId}
/-! unsigned 64 bit numbers -/
theorem wrapU (a : Nat) : IntKind.u64.wrap (a : Int) = ((a % 18446744073709551616 : Nat) : Int) := by rw [IntKind.wrap_u64]; omega
theorem q_addU {a b r : Nat} (hx : ev (fr f s) x = .int .u64 (a : Int)) (hy : ev (fr f s) y = .int .u64 (b : Int)) (hr : (a + b) % 18446744073709551616 = r) : Qt P J f s ⟨dst, .binOp .add t x y t', ty, pos, af, g⟩ (.int .u64 (r : Int)) := qt_val fun w _ => by
  have e : IntKind.u64.wrap ((a : Int) + b) = (r : Int) := by rw [← Int.natCast_add, wrapU, hr]
  simp only [execOp, hx, hy, Sem.run_bind, eqGuard_int, Result.andThen_ok, binOp, ne_eq, not_true_eq_false, if_false, Op.intArith, e, Sem.run_pure]
theorem q_mulU {a b r : Nat} (hx : ev (fr f s) x = .int .u64 (a : Int)) (hy : ev (fr f s) y = .int .u64 (b : Int)) (hr : (a * b) % 18446744073709551616 = r) : Qt P J f s ⟨dst, .binOp .mul t x y t', ty, pos, af, g⟩ (.int .u64 (r : Int)) := qt_val fun w _ => by
  have e : IntKind.u64.wrap ((a : Int) * b) = (r : Int) := by rw [← Int.natCast_mul, wrapU, hr]
  simp only [execOp, hx, hy, Sem.run_bind, eqGuard_int, Result.andThen_ok, binOp, ne_eq, not_true_eq_false, if_false, Op.intArith, e, Sem.run_pure]
theorem q_subU {a b r : Nat} (hx : ev (fr f s) x = .int .u64 (a : Int)) (hy : ev (fr f s) y = .int .u64 (b : Int)) (hr : ((a : Int) - b) % 18446744073709551616 = r) : Qt P J f s ⟨dst, .binOp .sub t x y t', ty, pos, af, g⟩ (.int .u64 (r : Int)) := qt_val fun w _ => by
  have e : IntKind.u64.wrap ((a : Int) - b) = (r : Int) := by rw [IntKind.wrap_u64, hr]
  simp only [execOp, hx, hy, Sem.run_bind, eqGuard_int, Result.andThen_ok, binOp, ne_eq, not_true_eq_false, if_false, Op.intArith, e, Sem.run_pure]
theorem q_quoU {a b : Nat} (hx : ev (fr f s) x = .int .u64 (a : Int)) (hy : ev (fr f s) y = .int .u64 (b : Int)) (hb : 0 < b) (ha : a < 18446744073709551616) : Qt P J f s ⟨dst, .binOp .quo t x y t', ty, pos, af, g⟩ (.int .u64 ((a / b : Nat) : Int)) := qt_val fun w _ => by
  have hd : a / b ≤ a := Nat.div_le_self a b
  have e : IntKind.u64.wrap ((a : Int).tdiv b) = ((a / b : Nat) : Int) := by rw [← Int.ofNat_tdiv, wrapU, Nat.mod_eq_of_lt (by omega)]
  have hb' : (b : Int) ≠ 0 := by omega
  simp only [execOp, hx, hy, Sem.run_bind, eqGuard_int, Result.andThen_ok, binOp, ne_eq, not_true_eq_false, if_false, Op.intDiv, hb', e, Sem.run_pure]
theorem q_remU {a b : Nat} (hx : ev (fr f s) x = .int .u64 (a : Int)) (hy : ev (fr f s) y = .int .u64 (b : Int)) (hb : 0 < b) : Qt P J f s ⟨dst, .binOp .rem t x y t', ty, pos, af, g⟩ (.int .u64 ((a % b : Nat) : Int)) := qt_val fun w _ => by
  have e : (a : Int).tmod b = ((a % b : Nat) : Int) := (Int.ofNat_tmod a b).symm
  have hb' : (b : Int) ≠ 0 := by omega
  simp only [execOp, hx, hy, Sem.run_bind, eqGuard_int, Result.andThen_ok, binOp, ne_eq, not_true_eq_false, if_false, Op.intDiv, hb', e, Sem.run_pure]
theorem q_andU {a b : Nat} (hx : ev (fr f s) x = .int .u64 (a : Int)) (hy : ev (fr f s) y = .int .u64 (b : Int)) (ha : a < 18446744073709551616) (hb : b < 18446744073709551616) : Qt P J f s ⟨dst, .binOp .and t x y t', ty, pos, af, g⟩ (.int .u64 ((a &&& b : Nat) : Int)) := qt_val fun w _ => by
  have e2 : Op.intBits .and .u64 (a : Int) (b : Int) = pure (.int .u64 ((a &&& b : Nat) : Int)) := by rw [← bits_and_u64_nat a b ha hb]; rfl
  simp only [execOp, hx, hy, Sem.run_bind, eqGuard_int, Result.andThen_ok, binOp, ne_eq, not_true_eq_false, if_false, e2, Sem.run_pure]
theorem q_shrU {a c : Nat} {k : IntKind} (hx : ev (fr f s) x = .int .u64 (a : Int)) (hy : ev (fr f s) y = .int k (c : Int)) (hc : Nat.ble c 64 = true) : Qt P J f s ⟨dst, .binOp .shr t x y t', ty, pos, af, g⟩ (.int .u64 ((a / 2 ^ c : Nat) : Int)) := qt_val fun w _ => by
  have hc' : c ≤ 64 := by simpa using hc
  have e : Op.shift .shr .u64 (a : Int) k (c : Int) = pure (.int .u64 ((a / 2 ^ c : Nat) : Int)) := by
    unfold Op.shift
    rw [if_neg (by omega)]
    simp only [Int.toNat_natCast, show IntKind.u64.bits = 64 from rfl, Nat.min_eq_left hc']
    rw [show (a : Int).fdiv (2 ^ c) = ((a / 2 ^ c : Nat) : Int) by rw [Int.fdiv_eq_ediv_of_nonneg _ (by exact_mod_cast Nat.zero_le _)]; simp]
  have e0 : (eqGuard .shr t x y (.int .u64 (a : Int)) (.int k (c : Int))).run P w = .ok () w := by simp [eqGuard]
  simp only [execOp, hx, hy, Sem.run_bind, e0, Result.andThen_ok, binOp, e, Sem.run_pure]
theorem q_toU {a : Int} {r : Nat} {d : TypeDesc} (hx : ev (fr f s) x = .int .i64 a) (h1 : P.underlying t = some d) (h2 : P.underlying t' = some (.int .u64)) (ha : a = (r : Int)) (hr : r < 18446744073709551616) : Qt P J f s ⟨dst, .convert t t' x, ty, pos, af, g⟩ (.int .u64 (r : Int)) := qt_val fun w _ => by
  subst ha
  have e : IntKind.u64.wrap (r : Int) = (r : Int) := by rw [wrapU, Nat.mod_eq_of_lt hr]
  simp only [execOp, hx, convert, Sem.run_bind, run_underlying h1, run_underlying h2, Result.andThen_ok, Conv.intToInt, e, Sem.run_pure]
theorem q_ofU {a : Nat} {d : TypeDesc} (hx : ev (fr f s) x = .int .u64 (a : Int)) (h1 : P.underlying t = some d) (h2 : P.underlying t' = some (.int .i64)) (ha : a < 9223372036854775808) : Qt P J f s ⟨dst, .convert t t' x, ty, pos, af, g⟩ (.int .i64 (a : Int)) := qt_val fun w _ => by
  have e : IntKind.i64.wrap (a : Int) = (a : Int) := wrap64_of (by unfold I64; omega)
  simp only [execOp, hx, convert, Sem.run_bind, run_underlying h1, run_underlying h2, Result.andThen_ok, Conv.intToInt, e, Sem.run_pure]
end
section
variable {P : Program} {Pn : List PanicEntry → World → Prop} {J : Cls} {f : Nat → Value} {s : List (Nat × Value)} {dst : Option Nat} {ty : TypeId} {pos : String} {af : Array Edge} {g : Option (Nat × Bool)} {x y : Operand} {t t' : TypeId}
theorem q_maskU {a : Nat} (hx : ev (fr f s) x = .int .u64 (a : Int)) (hy : ev (fr f s) y = .int .u64 ((4294967295 : Nat) : Int)) (ha : a < 18446744073709551616) : Qt P J f s ⟨dst, .binOp .and t x y t', ty, pos, af, g⟩ (.int .u64 ((a % 4294967296 : Nat) : Int)) := by
  have h := q_andU (J := J) (P := P) (dst := dst) (ty := ty) (pos := pos) (af := af) (g := g) (t := t) (t' := t') hx hy ha (by omega)
  have e : a &&& 4294967295 = a % 4294967296 := Nat.and_two_pow_sub_one_eq_mod a 32
  rwa [e] at h
theorem q_shr32U {a : Nat} {k : IntKind} (hx : ev (fr f s) x = .int .u64 (a : Int)) (hy : ev (fr f s) y = .int k ((32 : Nat) : Int)) : Qt P J f s ⟨dst, .binOp .shr t x y t', ty, pos, af, g⟩ (.int .u64 ((a / 4294967296 : Nat) : Int)) := by
  have h := q_shrU (J := J) (P := P) (dst := dst) (ty := ty) (pos := pos) (af := af) (g := g) (t := t) (t' := t') hx hy rfl
  exact h
theorem fin_out3 {fn : Func} {N : Nat} {e : Exit} {R : Ending → World → Prop} {t1 t2 t3 : Nat} {v1 v2 v3 : Value} (hr : fn.results = #[.tmp t1, .tmp t2, .tmp t3]) (he : (match e with | .normal | .ret => true | _ => false) = true) (h1 : fr f s t1 = v1) (h2 : fr f s t2 = v2) (h3 : fr f s t3 = v3) (hR : ∀ w, J.p w → R (.returned (.tuple #[v1, v2, v3])) w) :
    Post N [] (bodyPost P fn R) e f s J := fun a w' ha hw => by
  have h : (results fn a.tmps).run P w' = .ok (.tuple #[v1, v2, v3]) w' := by
    unfold results
    rw [hr]
    have g1 := (ha.get t1).trans h1
    have g2 := (ha.get t2).trans h2
    have g3 := (ha.get t3).trans h3
    rw [Array.getD_eq_getD_getElem?] at g1 g2 g3
    simp [g1, g2, g3]
  cases e <;> first | exact ⟨ha.defers, _, h, hR w' hw⟩ | cases he
end
/-! ### maps with integer keys, of the call's own -/
theorem StP.allocO {B : Bs} {Φ : Hp} {C : List Chunk} {w : World} (h : StP B Φ C w) (o : Obj) (c : Chunk) (hfp : c.fp = [w.heap.size]) (hc : c.sat (hp (w.alloc o))) : StP B Φ (c :: C) (w.alloc o) := by
  have hold : ∀ b, b < w.heap.size → (w.alloc o).heap[b]? = w.heap[b]? := fun b hb => Below.heap_alloc w _ b hb
  refine h.step rfl rfl rfl (by simp) (fun b hb _ => hold b hb) (fun _ _ e => .inl e) ?_ ?_ ?_
  · intro c' hc'
    rcases List.mem_cons.1 hc' with rfl | hc'
    · exact hc
    · exact c'.loc _ _ (fun b hb => hold b (h.fp_lt (List.mem_flatMap.2 ⟨c', hc', hb⟩))) (h.sat c' hc')
  · refine List.pairwise_cons.2 ⟨fun d hd b hb hbd => ?_, h.sep⟩
    rw [hfp] at hb
    obtain rfl : b = w.heap.size := by simpa using hb
    have := h.fp_lt (List.mem_flatMap.2 ⟨d, hd, hbd⟩)
    omega
  · intro b hb
    simp only [List.flatMap_cons, hfp, List.singleton_append, List.mem_cons] at hb
    rcases hb with rfl | hb
    · refine ⟨Option.eq_none_iff_forall_ne_some.2 fun o' he => ?_, .inl h.size⟩
      have := lt_of_some (h.phi _ o' he)
      omega
    · exact h.away b hb
section
variable {P : Program} {Pn : List PanicEntry → World → Prop} {B : Bs} {Φ : Hp} {C : List Chunk} {f : Nat → Value} {s : List (Nat × Value)} {dst : Option Nat} {ty : TypeId} {pos : String} {af : Array Edge} {g : Option (Nat × Bool)} {x y z : Operand} {t kt et : TypeId}
end
end Go.K
