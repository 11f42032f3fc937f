/- Arrays of the call's own: built, indexed, compared. Conditions: those of each theorem. -/
import Derived.Test.YtlljbndnodbecaaCore9
import Derived.ChangeKeysEq
namespace Go.K
open Go Go.RowKit
section
variable {P : Program} {J : Cls} {f : Nat → Value} {s : List (Nat × Value)} {dst : Option Nat} {ty : TypeId} {pos : String} {af : Array Edge} {g : Option (Nat × Bool)} {x y : Operand} {t e : TypeId} {n sz : Nat}
theorem q_buildArr {parts : Array (Nat × Operand)} {vals : List (Nat × Value)} {z : Value} {cells : Array Value} (hz : (P.info? t).map (·.zero) = some (some z)) (hT : P.underlying t = some (.array n e)) (hsz : (P.info? e).map (·.size) = some sz)
    (hv : parts.toList.map (fun p => (p.1, ev (fr f s) p.2)) = vals) (hf : Instr.fill (fun i => some (i * sz, sz)) z.cells vals = some cells) : Qt P J f s ⟨dst, .build t parts, ty, pos, af, g⟩ (.agg cells) := qt_val fun w _ => by
  obtain ⟨ti, hti, hzz⟩ := Option.map_eq_some_iff.1 hz
  obtain ⟨ei, hei, hes⟩ := Option.map_eq_some_iff.1 hsz
  have hv' : (parts.map (fun (i, x) => (i, ev (fr f s) x))).toList = vals := by rw [← hv]; simp
  subst hv'
  simp only [execOp, Instr.build, Sem.run_bind, zeroValue, typeInfo, run_program, Result.andThen_ok, hti, hzz, Sem.run_pure, run_underlying hT, sizeOf, hei, hes, hf]
theorem q_indexAddrA {p q : Addr} {i : Int} (hx : ev (fr f s) x = .pointer (some p)) (hy : ev (fr f s) y = .int .i64 i) (hT : P.underlying t = some (.array n e)) (hsz : (P.info? e).map (·.size) = some sz) (h0 : 0 ≤ i) (hn : i < n) (hq : q = p.add (i.toNat * sz)) :
    Qt P J f s ⟨dst, .indexAddr t x y, ty, pos, af, g⟩ (.pointer (some q)) := qt_val fun w _ => by
  obtain ⟨ti, hi, hti⟩ := Option.map_eq_some_iff.1 hsz
  subst hq
  simp [execOp, hx, hy, Instr.indexAt, asIntOf, run_underlying hT, sizeOf, typeInfo, hi, hti, h0, hn, Instr.sureAddr]
theorem q_indexA1 {cs : Array Value} {v : Value} {i : Int} {d : TypeDesc} (hx : ev (fr f s) x = .agg cs) (hy : ev (fr f s) y = .int .i64 i) (hT : P.underlying t = some (.array n e)) (hE : P.underlying e = some d) (hd : isAggD d = false) (hsz : (P.info? e).map (·.size) = some 1) (h0 : 0 ≤ i) (hn : i < n) (hv : cs[i.toNat]? = some v) :
    Qt P J f s ⟨dst, .index t x y, ty, pos, af, g⟩ v := qt_val fun w _ => by
  have hsize : ∀ w, (sizeOf e).run P w = .ok 1 w := run_size hsz
  have hp := run_part1 (P := P) hE hd (cs := cs) (o := i.toNat) hv w
  simp only [execOp, hx, hy, Instr.index, asIntOf, Sem.run_bind, Sem.run_pure, run_underlying hT, Result.andThen_ok, if_pos (And.intro h0 hn), hsize, Nat.mul_one, hp]
theorem run_eqItems_int {k : IntKind} (hE : P.underlying e = some (.int k)) (d : Nat) (w : World) : ∀ (as bs : List Int) (o : Nat) (xs ys : Array Value), as.length = bs.length → (∀ j, j < as.length → xs[o + j]? = some (.int k (as.getD j 0))) → (∀ j, j < bs.length → ys[o + j]? = some (.int k (bs.getD j 0))) →
    (Op.eqItems (d + 1) e 1 xs ys (List.range' o as.length)).run P w = .ok (decide (as = bs)) w
  | [], [], o, xs, ys, _, _, _ => by simp [Op.eqItems]
  | [], _ :: _, _, _, _, h, _, _ => by simp at h
  | _ :: _, [], _, _, _, h, _, _ => by simp at h
  | a :: as, b :: bs, o, xs, ys, hl, h1, h2 => by
    have p1 := run_part1 (P := P) hE rfl (cs := xs) (o := o) (h1 0 (by simp)) w
    have p2 := run_part1 (P := P) hE rfl (cs := ys) (o := o) (h2 0 (by simp)) w
    have ih := run_eqItems_int hE d w as bs (o + 1) xs ys (by simpa using hl) (fun j hj => by have := h1 (j + 1) (by simpa using hj); rw [show o + (j + 1) = o + 1 + j by omega] at this; simpa using this) (fun j hj => by have := h2 (j + 1) (by simpa using hj); rw [show o + (j + 1) = o + 1 + j by omega] at this; simpa using this)
    rw [List.length_cons, List.range'_succ]
    simp only [Op.eqItems, Nat.mul_one, Sem.run_bind, p1, p2, Result.andThen_ok, List.getD_cons_zero, run_equalIn_int w d e k k a b hE]
    by_cases hab : a = b
    · subst hab
      simp [ih]
    · have : (a == b) = false := by simpa using hab
      simp [this, hab]
theorem run_equal_ints {k : IntKind} (hT : P.underlying t = some (.array n e)) (hE : P.underlying e = some (.int k)) (hi : ∃ ti, P.info? e = some ti) (hc : P.cellsOf e = 1) (as bs : List Int) (ha : as.length = n) (hb : bs.length = n) (w : World) :
    (Op.equal t (.agg (as.map (Value.int k)).toArray) (.agg (bs.map (Value.int k)).toArray)).run P w = .ok (decide (as = bs)) w := by
  obtain ⟨ti, hti⟩ := hi
  show (Op.equalIn (9999 + 1) t _ _).run P w = _
  rw [run_equalIn_array w 9999 _ _ hT hti, hc, List.range_eq_range', ← ha]
  exact run_eqItems_int hE 9998 w as bs 0 _ _ (ha.trans hb.symm) (fun j hj => by simp [hj, List.getD_eq_getElem?_getD]) (fun j hj => by simp [hj, List.getD_eq_getElem?_getD])
end
end Go.K
