/- Lemmas. Conditions: those of each theorem. -/
import Derived.Test.YtjmeeofdffdpnaaGreatDoorMCore2
import Derived.Laws.Bits64b
import Derived.Lib.Mul64
namespace Go.K
open Go Go.RowKit
section
variable {P : Program} {Pn : List PanicEntry → World → Prop} {J : Cls} {f : Nat → Value} {s : List (Nat × Value)} {dst : Option Nat} {ty : TypeId} {pos : String} {af : Array Edge} {g : Option (Nat × Bool)} {x y : Operand} {t t' : TypeId}
theorem q_quo {a b r : Int} (hx : ev (fr f s) x = .int .i64 a) (hy : ev (fr f s) y = .int .i64 b) (hb : b ≠ 0) (hr : a.tdiv b = r) (h : I64 r) : Qt P J f s ⟨dst, .binOp .quo t x y t', ty, pos, af, g⟩ (.int .i64 r) := qt_val fun w _ => by
  subst hr
  simp only [execOp, hx, hy, Sem.run_bind, eqGuard_int, Result.andThen_ok, binOp, ne_eq, not_true_eq_false, if_false, Op.intDiv, hb, wrap64_of h, Sem.run_pure]
theorem q_rem {a b r : Int} (hx : ev (fr f s) x = .int .i64 a) (hy : ev (fr f s) y = .int .i64 b) (hb : b ≠ 0) (hr : a.tmod b = r) : Qt P J f s ⟨dst, .binOp .rem t x y t', ty, pos, af, g⟩ (.int .i64 r) := qt_val fun w _ => by
  subst hr
  simp only [execOp, hx, hy, Sem.run_bind, eqGuard_int, Result.andThen_ok, binOp, ne_eq, not_true_eq_false, if_false, Op.intDiv, hb, Sem.run_pure]
theorem toNat_ofInt {a : Nat} (ha : a < 18446744073709551616) : (BitVec.ofInt 64 (a : Int)).toNat = a := by
  rw [BitVec.ofInt_natCast, BitVec.toNat_ofNat]; exact Nat.mod_eq_of_lt (by omega)
theorem q_andN {a b : Nat} (hx : ev (fr f s) x = .int .i64 (a : Int)) (hy : ev (fr f s) y = .int .i64 (b : Int)) (ha : a < 9223372036854775808) (hb : b < 9223372036854775808) : Qt P J f s ⟨dst, .binOp .and t x y t', ty, pos, af, g⟩ (.int .i64 ((a &&& b : Nat) : Int)) := qt_val fun w _ => by
  have hlt : a &&& b < 2 ^ 63 := Nat.and_lt_two_pow _ (by omega)
  have e : IntKind.i64.wrap (((BitVec.ofInt 64 (a : Int) &&& BitVec.ofInt 64 (b : Int)).toNat : Nat) : Int) = ((a &&& b : Nat) : Int) := by
    rw [BitVec.toNat_and, toNat_ofInt (by omega), toNat_ofInt (by omega)]
    exact wrap64_of (by unfold I64; omega)
  have e2 : Op.intBits .and .i64 (a : Int) (b : Int) = pure (.int .i64 ((a &&& b : Nat) : Int)) := by rw [← e]; rfl
  simp only [execOp, hx, hy, Sem.run_bind, eqGuard_int, Result.andThen_ok, binOp, ne_eq, not_true_eq_false, if_false, e2, Sem.run_pure]
/-! unsigned 64 bit numbers -/
theorem wrapU (a : Nat) : IntKind.u64.wrap (a : Int) = ((a % 18446744073709551616 : Nat) : Int) := by rw [IntKind.wrap_u64]; omega
theorem q_addU {a b r : Nat} (hx : ev (fr f s) x = .int .u64 (a : Int)) (hy : ev (fr f s) y = .int .u64 (b : Int)) (hr : (a + b) % 18446744073709551616 = r) : Qt P J f s ⟨dst, .binOp .add t x y t', ty, pos, af, g⟩ (.int .u64 (r : Int)) := qt_val fun w _ => by
  have e : IntKind.u64.wrap ((a : Int) + b) = (r : Int) := by rw [← Int.natCast_add, wrapU, hr]
  simp only [execOp, hx, hy, Sem.run_bind, eqGuard_int, Result.andThen_ok, binOp, ne_eq, not_true_eq_false, if_false, Op.intArith, e, Sem.run_pure]
theorem q_mulU {a b r : Nat} (hx : ev (fr f s) x = .int .u64 (a : Int)) (hy : ev (fr f s) y = .int .u64 (b : Int)) (hr : (a * b) % 18446744073709551616 = r) : Qt P J f s ⟨dst, .binOp .mul t x y t', ty, pos, af, g⟩ (.int .u64 (r : Int)) := qt_val fun w _ => by
  have e : IntKind.u64.wrap ((a : Int) * b) = (r : Int) := by rw [← Int.natCast_mul, wrapU, hr]
  simp only [execOp, hx, hy, Sem.run_bind, eqGuard_int, Result.andThen_ok, binOp, ne_eq, not_true_eq_false, if_false, Op.intArith, e, Sem.run_pure]
theorem q_andU {a b : Nat} (hx : ev (fr f s) x = .int .u64 (a : Int)) (hy : ev (fr f s) y = .int .u64 (b : Int)) (ha : a < 18446744073709551616) (hb : b < 18446744073709551616) : Qt P J f s ⟨dst, .binOp .and t x y t', ty, pos, af, g⟩ (.int .u64 ((a &&& b : Nat) : Int)) := qt_val fun w _ => by
  have e2 : Op.intBits .and .u64 (a : Int) (b : Int) = pure (.int .u64 ((a &&& b : Nat) : Int)) := by rw [← bits_and_u64_nat a b ha hb]; rfl
  simp only [execOp, hx, hy, Sem.run_bind, eqGuard_int, Result.andThen_ok, binOp, ne_eq, not_true_eq_false, if_false, e2, Sem.run_pure]
theorem q_shrU {a c : Nat} {k : IntKind} (hx : ev (fr f s) x = .int .u64 (a : Int)) (hy : ev (fr f s) y = .int k (c : Int)) (hc : Nat.ble c 64 = true) : Qt P J f s ⟨dst, .binOp .shr t x y t', ty, pos, af, g⟩ (.int .u64 ((a / 2 ^ c : Nat) : Int)) := qt_val fun w _ => by
  have hc' : c ≤ 64 := by simpa using hc
  have e : Op.shift .shr .u64 (a : Int) k (c : Int) = pure (.int .u64 ((a / 2 ^ c : Nat) : Int)) := by
    unfold Op.shift
    rw [if_neg (by omega)]
    simp only [Int.toNat_natCast, show IntKind.u64.bits = 64 from rfl, Nat.min_eq_left hc']
    rw [show (a : Int).fdiv (2 ^ c) = ((a / 2 ^ c : Nat) : Int) by rw [Int.fdiv_eq_ediv_of_nonneg _ (by exact_mod_cast Nat.zero_le _)]; simp]
  have e0 : (eqGuard .shr t x y (.int .u64 (a : Int)) (.int k (c : Int))).run P w = .ok () w := by simp [eqGuard]
  simp only [execOp, hx, hy, Sem.run_bind, e0, Result.andThen_ok, binOp, e, Sem.run_pure]
end
section
variable {P : Program} {Pn : List PanicEntry → World → Prop} {J : Cls} {f : Nat → Value} {s : List (Nat × Value)} {dst : Option Nat} {ty : TypeId} {pos : String} {af : Array Edge} {g : Option (Nat × Bool)} {x y : Operand} {t t' : TypeId}
theorem q_maskU {a : Nat} (hx : ev (fr f s) x = .int .u64 (a : Int)) (hy : ev (fr f s) y = .int .u64 ((4294967295 : Nat) : Int)) (ha : a < 18446744073709551616) : Qt P J f s ⟨dst, .binOp .and t x y t', ty, pos, af, g⟩ (.int .u64 ((a % 4294967296 : Nat) : Int)) := by
  have h := q_andU (J := J) (P := P) (dst := dst) (ty := ty) (pos := pos) (af := af) (g := g) (t := t) (t' := t') hx hy ha (by omega)
  have e : a &&& 4294967295 = a % 4294967296 := Nat.and_two_pow_sub_one_eq_mod a 32
  rwa [e] at h
theorem q_shr32U {a : Nat} {k : IntKind} (hx : ev (fr f s) x = .int .u64 (a : Int)) (hy : ev (fr f s) y = .int k ((32 : Nat) : Int)) : Qt P J f s ⟨dst, .binOp .shr t x y t', ty, pos, af, g⟩ (.int .u64 ((a / 4294967296 : Nat) : Int)) := by
  have h := q_shrU (J := J) (P := P) (dst := dst) (ty := ty) (pos := pos) (af := af) (g := g) (t := t) (t' := t') hx hy rfl
  exact h
end
/-! ### maps with integer keys, of the call's own -/
def mlook : List MapEntry → Int → Option Value
  | [], _ => none
  | e :: es, k => match e.key with
    | .int .i64 a => if k = a then some e.val else mlook es k
    | _ => mlook es k
def IntKeys (es : List MapEntry) : Prop := ∀ e ∈ es, ∃ k, e.key = .int .i64 k
theorem findNow_int {k : Int} : ∀ (es : List MapEntry) (i : Nat), IntKeys es → ∃ r, Instr.findNow (.int .i64) (.int .i64 k) es i = some r ∧ r.map (·.2) = mlook es k
  | [], i, _ => ⟨none, rfl, rfl⟩
  | e :: es, i, h => by
    obtain ⟨a, ha⟩ := h e (by simp)
    obtain ⟨r, hr, hm⟩ := findNow_int (k := k) es (i + 1) (fun x hx => h x (by simp [hx]))
    by_cases hk : k = a
    · refine ⟨some (i, e.val), ?_, ?_⟩
      · simp [Instr.findNow, Instr.sameNow, ha, hk]
      · simp [mlook, ha, hk]
    · refine ⟨r, ?_, ?_⟩
      · have hb : (k == a) = false := by simpa using hk
        simp [Instr.findNow, Instr.sameNow, ha, hb, hr]
      · simp [mlook, ha, hk, hm]
theorem mlook_push {k0 : Int} {v : Value} {n : Nat} : ∀ (es : List MapEntry), mlook es k0 = none → ∀ k, mlook (es ++ [⟨.int .i64 k0, v, n⟩]) k = if k = k0 then some v else mlook es k
  | [], _, k => by simp [mlook]
  | e :: es, h, k => by
    have ih := mlook_push (k0 := k0) (v := v) (n := n) es
    rw [List.cons_append]
    unfold mlook at h ⊢
    split
    · rename_i a ha
      rw [ha] at h
      simp only at h
      by_cases h1 : k0 = a
      · rw [if_pos h1] at h; cases h
      · rw [if_neg h1] at h
        by_cases h2 : k = a
        · rw [if_pos h2, if_neg (fun e => h1 (e.symm.trans h2)), if_pos h2]
        · rw [if_neg h2, ih h k, if_neg h2]
    · rename_i hne
      have h' : mlook es k0 = none := by
        split at h
        · rename_i a ha; exact absurd ha (hne a)
        · exact h
      exact ih h' k
def MapIs (es : Array MapEntry) (m : Int → Option Value) : Prop := IntKeys es.toList ∧ ∀ k, mlook es.toList k = m k
def Chunk.imap (b : Nat) (m : Int → Option Value) : Chunk where
  fp := [b]
  sat := fun Φ => ∃ es clock, Φ b = some (.map es clock) ∧ MapIs es m
  loc := fun Φ Ψ h ⟨es, c, hs, hm⟩ => ⟨es, c, (h b (by simp)).trans hs, hm⟩
  dom := fun Φ ⟨es, c, hs, _⟩ b' hb => by obtain rfl : b' = b := by simpa using hb
                                          rw [hs]; simp
theorem StP.allocO {B : Bs} {Φ : Hp} {C : List Chunk} {w : World} (h : StP B Φ C w) (o : Obj) (c : Chunk) (hfp : c.fp = [w.heap.size]) (hc : c.sat (hp (w.alloc o))) : StP B Φ (c :: C) (w.alloc o) := by
  have hold : ∀ b, b < w.heap.size → (w.alloc o).heap[b]? = w.heap[b]? := fun b hb => Below.heap_alloc w _ b hb
  refine h.step rfl rfl rfl (by simp) (fun b hb _ => hold b hb) (fun _ _ e => .inl e) ?_ ?_ ?_
  · intro c' hc'
    rcases List.mem_cons.1 hc' with rfl | hc'
    · exact hc
    · exact c'.loc _ _ (fun b hb => hold b (h.fp_lt (List.mem_flatMap.2 ⟨c', hc', hb⟩))) (h.sat c' hc')
  · refine List.pairwise_cons.2 ⟨fun d hd b hb hbd => ?_, h.sep⟩
    rw [hfp] at hb
    obtain rfl : b = w.heap.size := by simpa using hb
    have := h.fp_lt (List.mem_flatMap.2 ⟨d, hd, hbd⟩)
    omega
  · intro b hb
    simp only [List.flatMap_cons, hfp, List.singleton_append, List.mem_cons] at hb
    rcases hb with rfl | hb
    · refine ⟨Option.eq_none_iff_forall_ne_some.2 fun o' he => ?_, .inl h.size⟩
      have := lt_of_some (h.phi _ o' he)
      omega
    · exact h.away b hb
section
variable {P : Program} {Pn : List PanicEntry → World → Prop} {B : Bs} {Φ : Hp} {C : List Chunk} {f : Nat → Value} {s : List (Nat × Value)} {dst : Option Nat} {ty : TypeId} {pos : String} {af : Array Edge} {g : Option (Nat × Bool)} {x y z : Operand} {t kt et : TypeId}
theorem run_checkKey_int {e : Bool} {k : Int} (hk : P.underlying kt = some (.int .i64)) (w : World) : (Instr.checkKey e 10000 kt (.int .i64 k)).run P w = .ok () w := by
  show (Instr.checkKey e (9999 + 1) kt (.int .i64 k)).run P w = _
  unfold Instr.checkKey
  simp only [Sem.run_bind, run_underlying hk, Result.andThen_ok, Sem.run_pure]
theorem e_makeMap : ∀ w, (St B Φ C).p w → effX P Pn (fun u w' => ∃ b : Nat, u = .map (some b) ∧ (St B Φ (.imap b (fun _ => none) :: C)).p w') ((execOp (ev (fr f s)) ⟨dst, .makeMap t none, ty, pos, af, g⟩).run P w) := fun w hw => by
  refine effX_val (v := .map (some w.heap.size)) (w' := w.alloc (.map #[] 0)) ?_ ⟨w.heap.size, rfl, StP.allocO hw _ (.imap w.heap.size fun _ => none) rfl ⟨#[], 0, hp_alloc_new _ _, fun e he => absurd he (by simp), fun k => rfl⟩⟩
  simp [execOp, Instr.makeMap]
theorem e_mapPut {b : Nat} {m : Int → Option Value} {k : Int} {v : Value} (i : Nat) (hi : C[i]? = some (.imap b m)) (hx : ev (fr f s) x = .map (some b)) (hy : ev (fr f s) y = .int .i64 k) (hv : ev (fr f s) z = v) (hT : P.underlying t = some (.map kt et)) (hk : P.underlying kt = some (.int .i64))
    (hnew : m k = none) {C' : List Chunk} (hC' : C.set i (.imap b (fun j => if j = k then some v else m j)) = C') : ∀ w, (St B Φ C).p w → effX P Pn (fun _ w' => (St B Φ C').p w') ((execOp (ev (fr f s)) ⟨none, .mapUpdate t x y z, ty, pos, af, g⟩).run P w) := fun w hw => by
  obtain ⟨es, clock, hes, hik, hm⟩ := hw.sat _ (List.mem_of_getElem? hi)
  have hb : w.heap[b]? = some (.map es clock) := hes
  have hbl : b < w.heap.size := (Array.getElem?_eq_some_iff.1 hb).1
  obtain ⟨r, hr, hrm⟩ := findNow_int (k := k) es.toList 0 hik
  rw [hm k, hnew] at hrm
  have hr0 : r = none := by cases r with | none => rfl | some p => cases hrm
  subst hr0
  have hg : (getObj b).run P w = .ok (.map es clock) w := by simp [getObj, Sem.run, hb]
  have hc : (Instr.checkKey false 10000 kt (.int .i64 k)).run P w = .ok () w := run_checkKey_int hk w
  have hf : (Instr.findKey kt (.int .i64 k) es.toList).run P w = .ok none w := by simp [Instr.findKey, run_underlying hk, hr]
  have hset : (setObj b (.map (es.push ⟨.int .i64 k, v, clock⟩) (clock + 1))).run P w = .ok () (wset w b (.map (es.push ⟨.int .i64 k, v, clock⟩) (clock + 1))) := by simp [setObj, Sem.run, hb, wset]
  subst hC'
  refine effX_skip (w' := wset w b (.map (es.push ⟨.int .i64 k, v, clock⟩) (clock + 1))) ?_ (StP.wset hw hi rfl rfl ⟨_, _, wset_get hbl, ?_, fun j => ?_⟩)
  · simp only [execOp, hx, hy, hv, Instr.mapUpdate, Sem.run_bind, run_underlying hT, Result.andThen_ok, hg, Sem.run_pure, hc, hf, hset]
  · intro e he
    rw [Array.toList_push] at he
    rcases List.mem_append.1 he with he | he
    · exact hik e he
    · obtain rfl : e = _ := by simpa using he
      exact ⟨k, rfl⟩
  · rw [Array.toList_push, mlook_push _ (by rw [hm k]; exact hnew), hm j]
end
end Go.K
