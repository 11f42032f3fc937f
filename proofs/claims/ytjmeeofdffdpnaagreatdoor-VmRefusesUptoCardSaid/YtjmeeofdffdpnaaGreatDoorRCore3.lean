/- Lemmas. Conditions: those of each theorem. -/
import Derived.Test.YtjmeeofdffdpnaaGreatDoorRCore2
import Derived.Laws.Bits64b
import Derived.Lib.Mul64
namespace Go.K
open Go Go.RowKit
section
variable {P : Program} {Pn : List PanicEntry → World → Prop} {J : Cls} {f : Nat → Value} {s : List (Nat × Value)} {dst : Option Nat} {ty : TypeId} {pos : String} {af : Array Edge} {g : Option (Nat × Bool)} {x y : Operand} {t t' : TypeId}
theorem toNat_ofInt {a : Nat} (ha : a < 18446744073709551616) : (BitVec.ofInt 64 (a : Int)).toNat = a := by
  rw [BitVec.ofInt_natCast, BitVec.toNat_ofNat]; exact Nat.mod_eq_of_lt (by omega)
theorem q_andN {a b : Nat} (hx : ev (fr f s) x = .int .i64 (a : Int)) (hy : ev (fr f s) y = .int .i64 (b : Int)) (ha : a < 9223372036854775808) (hb : b < 9223372036854775808) : Qt P J f s ⟨dst, .binOp .and t x y t', ty, pos, af, g⟩ (.int .i64 ((a &&& b : Nat) : Int)) := qt_val fun w _ => by
  have hlt : a &&& b < 2 ^ 63 := Nat.and_lt_two_pow _ (by omega)
  have e : IntKind.i64.wrap (((BitVec.ofInt 64 (a : Int) &&& BitVec.ofInt 64 (b : Int)).toNat : Nat) : Int) = ((a &&& b : Nat) : Int) := by
    rw [BitVec.toNat_and, toNat_ofInt (by omega), toNat_ofInt (by omega)]
    exact wrap64_of (by unfold I64; omega)
  have e2 : Op.intBits .and .i64 (a : Int) (b : Int) = pure (.int .i64 ((a &&& b : Nat) : Int)) := by rw [← e]; rfl
  simp only [execOp, hx, hy, Sem.run_bind, eqGuard_int, Result.andThen_ok, binOp, ne_eq, not_true_eq_false, if_false, e2, Sem.run_pure]
/-! unsigned 64 bit numbers -/
theorem q_andU {a b : Nat} (hx : ev (fr f s) x = .int .u64 (a : Int)) (hy : ev (fr f s) y = .int .u64 (b : Int)) (ha : a < 18446744073709551616) (hb : b < 18446744073709551616) : Qt P J f s ⟨dst, .binOp .and t x y t', ty, pos, af, g⟩ (.int .u64 ((a &&& b : Nat) : Int)) := qt_val fun w _ => by
  have e2 : Op.intBits .and .u64 (a : Int) (b : Int) = pure (.int .u64 ((a &&& b : Nat) : Int)) := by rw [← bits_and_u64_nat a b ha hb]; rfl
  simp only [execOp, hx, hy, Sem.run_bind, eqGuard_int, Result.andThen_ok, binOp, ne_eq, not_true_eq_false, if_false, e2, Sem.run_pure]
end
section
variable {P : Program} {Pn : List PanicEntry → World → Prop} {J : Cls} {f : Nat → Value} {s : List (Nat × Value)} {dst : Option Nat} {ty : TypeId} {pos : String} {af : Array Edge} {g : Option (Nat × Bool)} {x y : Operand} {t t' : TypeId}
end
/-! ### maps with integer keys, of the call's own -/
theorem StP.allocO {B : Bs} {Φ : Hp} {C : List Chunk} {w : World} (h : StP B Φ C w) (o : Obj) (c : Chunk) (hfp : c.fp = [w.heap.size]) (hc : c.sat (hp (w.alloc o))) : StP B Φ (c :: C) (w.alloc o) := by
  have hold : ∀ b, b < w.heap.size → (w.alloc o).heap[b]? = w.heap[b]? := fun b hb => Below.heap_alloc w _ b hb
  refine h.step rfl rfl rfl (by simp) (fun b hb _ => hold b hb) (fun _ _ e => .inl e) ?_ ?_ ?_
  · intro c' hc'
    rcases List.mem_cons.1 hc' with rfl | hc'
    · exact hc
    · exact c'.loc _ _ (fun b hb => hold b (h.fp_lt (List.mem_flatMap.2 ⟨c', hc', hb⟩))) (h.sat c' hc')
  · refine List.pairwise_cons.2 ⟨fun d hd b hb hbd => ?_, h.sep⟩
    rw [hfp] at hb
    obtain rfl : b = w.heap.size := by simpa using hb
    have := h.fp_lt (List.mem_flatMap.2 ⟨d, hd, hbd⟩)
    omega
  · intro b hb
    simp only [List.flatMap_cons, hfp, List.singleton_append, List.mem_cons] at hb
    rcases hb with rfl | hb
    · refine ⟨Option.eq_none_iff_forall_ne_some.2 fun o' he => ?_, .inl h.size⟩
      have := lt_of_some (h.phi _ o' he)
      omega
    · exact h.away b hb
section
variable {P : Program} {Pn : List PanicEntry → World → Prop} {B : Bs} {Φ : Hp} {C : List Chunk} {f : Nat → Value} {s : List (Nat × Value)} {dst : Option Nat} {ty : TypeId} {pos : String} {af : Array Edge} {g : Option (Nat × Bool)} {x y z : Operand} {t kt et : TypeId}
end
end Go.K
