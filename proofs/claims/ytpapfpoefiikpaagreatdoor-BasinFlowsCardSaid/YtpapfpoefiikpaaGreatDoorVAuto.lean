/- Lemmas. Conditions: those of each theorem. -/
import Derived.Test.YtpapfpoefiikpaaGreatDoorVCore14
namespace Go.K
open Go
end Go.K
namespace Go.K
open Go
theorem RepSl.whole {α : Type} [Inhabited α] [Rep α] {Φ : Hp} {xs : List α} {v : Value} {k : Nat} (h : RepSl Φ xs v) (hk : k < xs.length) : ∃ cs, RepV Φ (xs.getD k default) cs ∧ ∀ j u, cs[j]? = some u → PCell Φ (Value.at v (k * Rep.sz α + j)) u := by
  obtain ⟨cs, h1, h2⟩ := h.at_ k hk
  have hg : xs.getD k default = xs[k] := by simp [hk]
  exact ⟨cs, by rw [hg]; exact h1, h2⟩
theorem Cells.phiK {B : Bs} {Φ : Hp} {C : List Chunk} {v : Value} {n : Nat} {cs : List Value} (h : ∀ j u, cs[j]? = some u → PCell Φ (Value.at v (n + j)) u) : Cells (St B Φ C) (Value.at v n) cs := fun j u hu => by
  rw [at_add]; exact Cell.phi (h j u hu)
theorem RepSl.strAt {Φ : Hp} {xs : List ByteArray} {v : Value} {k : Nat} (h : RepSl Φ xs v) (hk : k < xs.length) : (xs.getD k default).size ≤ maxLen ∧ PCell Φ (Value.at v (k * 1)) (.string (xs.getD k default)) := by
  obtain ⟨cs, ⟨rfl, h1⟩, h2⟩ := h.at_ k hk
  have hg : xs.getD k default = xs[k] := by simp [hk]
  exact ⟨by rw [hg]; exact h1, by rw [hg]; exact h2 0 _ rfl⟩
end Go.K
namespace Go.K
open Go
structure Kt (B : Prop) : Prop where
  r : B
def look : List (Nat × Value) → Nat → Option Value
  | [], _ => none
  | (d, v) :: l, t => bif Nat.beq t d then some v else look l t
theorem look_fr {f : Nat → Value} : ∀ {s : List (Nat × Value)} {t : Nat} {v : Value}, look s t = some v → fr f s t = v
  | (d, u) :: l, t, v, h => by
    unfold look at h; unfold fr
    cases hb : Nat.beq t d with
    | true => rw [hb] at h; simpa using h
    | false => rw [hb] at h; simpa using look_fr (f := f) (s := l) (by simpa using h)
def lk (s : List (Nat × Value)) : Operand → Option Value
  | .tmp t => look s t
  | .const v => some v
  | .global g => some (.pointer (some ⟨g, 0, none⟩))
  | .func g => some (.func (.func g) #[] #[])
theorem lk_ev {f : Nat → Value} {s : List (Nat × Value)} {x : Operand} {v : Value} (h : lk s x = some v) : ev (fr f s) x = v := by
  cases x with
  | tmp t => exact look_fr h
  | _ => exact sJ h
theorem St.one {B : Bs} {Φ : Hp} {C : List Chunk} {c : Chunk} {w : World} (i : Nat) (hi : C[i]? = some c) (h : StP B Φ C w) : StP B Φ [c] w := StP.drop h (List.singleton_sublist.2 (List.mem_of_getElem? hi))
theorem St.oneK {B : Bs} {Φ Ψ : Hp} {C : List Chunk} {c : Chunk} {w : World} (i : Nat) (hl : Hp.le Ψ Φ) (hi : C[i]? = some c) (h : StP B Φ C w) : StP B Ψ [c] w := StP.know hl (St.one i hi h)
class ZL (P : Program) (t : TypeId) (cs : outParam (List Value)) : Prop where
  h : ∃ z : Value, (P.info? t).map (·.zero) = some (some z) ∧ z.cells.toList = cs
def nth {α : Type} : List α → Nat → Option α
  | [], _ => none
  | a :: _, 0 => some a
  | _ :: l, n + 1 => nth l n
theorem nth_get {α : Type} : ∀ {l : List α} {n : Nat} {a : α}, nth l n = some a → l[n]? = some a
  | a :: _, 0, _, h => by simpa [nth] using h
  | _ :: l, n + 1, _, h => by simpa using nth_get (l := l) (by simpa [nth] using h)
class SetL {α : Type} (l : List α) (i : Nat) (x : α) (r : outParam (List α)) : Prop where
  h : l.set i x = r
instance {α : Type} {a x : α} {l : List α} : SetL (a :: l) 0 x (x :: l) := ⟨rfl⟩
instance {α : Type} {a x : α} {l r : List α} {i : Nat} [h : SetL l i x r] : SetL (a :: l) (i + 1) x (a :: r) := ⟨by rw [List.set_cons_succ, h.h]⟩
class NA (P : Program) (t : TypeId) : Prop where
  h : ∃ d, P.underlying t = some d ∧ isAggD d = false
class AG (P : Program) (t : TypeId) (n : outParam Nat) : Prop where
  h : ∃ d, P.underlying t = some d ∧ isAggD d = true ∧ (P.info? t).map (·.size) = some n
class SY (P : Program) (t : TypeId) : Prop where
  h : ∃ e, P.underlying t = some (.slice e)
class SZ (P : Program) (t : TypeId) (n : outParam Nat) : Prop where
  h : (P.info? t).map (·.size) = some n
class FA (P : Program) (t : TypeId) (i : Nat) (o : outParam Nat) : Prop where
  h : ∃ fs fd n, P.underlying t = some (.struct fs) ∧ fs[i]? = some fd ∧ fd.offset = o ∧ (P.info? fd.type).map (·.size) = some (n + 1)
theorem fA {P : Program} {t : TypeId} {i o n : Nat} {fs : Array Field} {fd : Field} (h : P.underlying t = some (.struct fs)) (hi : fs[i]? = some fd) (h2 : (P.info? fd.type).map (·.size) = some (n + 1)) (ho : fd.offset = o := by rfl) : FA P t i o := ⟨fs, fd, n, h, hi, ho, h2⟩
class FO (P : Program) (t : TypeId) (i : Nat) (o : outParam Nat) : Prop where
  h : ∃ fs fd d, P.underlying t = some (.struct fs) ∧ fs[i]? = some fd ∧ fd.offset = o ∧ P.underlying fd.type = some d ∧ isAggD d = false
def isIfD : TypeDesc → Bool
  | .interface _ => true
  | _ => false
class NI (P : Program) (t : TypeId) : Prop where
  h : ∃ d, P.underlying t = some d ∧ isIfD d = false
section
variable {P : Program} {N : Nat} {D : List Deferred} {ops : Array Oper} {Q : Exit → Act → World → Prop} {f : Nat → Value} {s : List (Nat × Value)} {J J0 : Cls} {d : Nat} {ty : TypeId} {pos : String} {af : Array Edge} {rest : List Oper} {x : Operand} {dst : Option Nat} {g : Option (Nat × Bool)} {t : TypeId}
theorem qa_fld {cs : List Value} {i o : Nat} {v : Value} [h : FO P t i o] (hx : ev (fr f s) x = .agg cs.toArray) (hv : nth cs o = some v) : Qt P J f s ⟨dst, .field t x i, ty, pos, af, g⟩ v := qt_val fun w _ => by
  obtain ⟨fs, fd, d, h1, h2, h3, h4, h5⟩ := h.h
  have h6 : cs.toArray[fd.offset]? = some v := by rw [h3]; simpa using nth_get hv
  simp [execOp, hx, Instr.field, run_underlying h1, h2, asAgg, run_part1 h4 h5 h6]
theorem qa_mi {v : Value} [h : NI P t] (hx : ev (fr f s) x = v) : Qt P J f s ⟨dst, .makeInterface t x, ty, pos, af, g⟩ (.iface t v) := qt_val fun w _ => by
  obtain ⟨d, h1, h2⟩ := h.h
  cases d <;> first | (cases h2; done) | simp [execOp, hx, Instr.makeInterface, run_underlying h1]
theorem qa_nc {p : Addr} (hx : ev (fr f s) x = .pointer (some p)) : Qt P J f s ⟨dst, .nilCheck x, ty, pos, af, g⟩ (.pointer (some p)) := q_nilCheck hx
theorem qa_mv {v : Value} (h : lk s x = some v) : Qt P J f s ⟨dst, .move x, ty, pos, af, g⟩ v := q_move (lk_ev h)
theorem qa_as {v : Value} (h : lk s x = some v) : Qt P J f s ⟨dst, .assign x, ty, pos, af, g⟩ v := q_assign (lk_ev h)
theorem qa_fa0 {b i o : Nat} [h : FA P t i o] (hx : ev (fr f s) x = .pointer (some ⟨b, 0, none⟩)) : Qt P J f s ⟨dst, .fieldAddr t x i, ty, pos, af, g⟩ (.pointer (some ⟨b, o, none⟩)) := by
  obtain ⟨fs, fd, n, h1, h2, h3, h4⟩ := h.h
  exact q_fieldAddr hx h1 h2 h4 (by rw [h3]; simp [Addr.add]; exact fun h => h.symm)
theorem qa_fab {b i o p : Nat} [h : FA P t i o] (hx : ev (fr f s) x = .pointer (some ⟨b, p, none⟩)) : Qt P J f s ⟨dst, .fieldAddr t x i, ty, pos, af, g⟩ (.pointer (some ⟨b, p + o, none⟩)) := by
  obtain ⟨fs, fd, n, h1, h2, h3, h4⟩ := h.h
  exact q_fieldAddr hx h1 h2 h4 (by rw [h3]; simp [Addr.add])
theorem qa_fat {v : Value} {i o p : Nat} [h : FA P t i o] (hx : ev (fr f s) x = .pointer (some (Value.at v p))) : Qt P J f s ⟨dst, .fieldAddr t x i, ty, pos, af, g⟩ (.pointer (some (Value.at v (p + o)))) := by
  obtain ⟨fs, fd, n, h1, h2, h3, h4⟩ := h.h
  exact q_fieldAddr hx h1 h2 h4 (by rw [h3]; exact at_add)
theorem qa_ld {p : Addr} {v : Value} [h : NA P t] (hx : ev (fr f s) x = .pointer (some p)) (hc : Cell J p v) : Qt P J f s ⟨dst, .load t x, ty, pos, af, g⟩ v := by
  obtain ⟨d, h1, h2⟩ := h.h
  exact q_load hx h1 h2 hc
theorem qa_ldA {p : Addr} {cs : List Value} {n : Nat} [h : AG P t n] (hx : ev (fr f s) x = .pointer (some p)) (hc : Cells J p cs) (hn : cs.length = n) : Qt P J f s ⟨dst, .load t x, ty, pos, af, g⟩ (.agg cs.toArray) := by
  obtain ⟨d, h1, h2, h3⟩ := h.h
  exact q_loadAgg hx h1 h2 h3 hn hc
theorem qa_addNL {m k : Nat} (hx : ev (fr f s) x = .int .i64 (m : Int)) {y : Operand} (hy : ev (fr f s) y = .int .i64 (OfNat.ofNat k)) {t' : TypeId} (h : m + OfNat.ofNat k ≤ 9223372036854775807) : Qt P J f s ⟨dst, .binOp .add t x y t', ty, pos, af, g⟩ (.int .i64 ((m + OfNat.ofNat k : Nat) : Int)) := by
  have e1 : (OfNat.ofNat k : Int) = (k : Int) := rfl
  have e2 : (OfNat.ofNat k : Nat) = k := rfl
  exact q_add hx hy (by rw [e1, e2]; omega) (by unfold I64; rw [e2] at *; omega)
theorem qa_addNN {m n : Nat} (hx : ev (fr f s) x = .int .i64 (m : Int)) {y : Operand} (hy : ev (fr f s) y = .int .i64 (n : Int)) {t' : TypeId} (h : m + n ≤ 9223372036854775807) : Qt P J f s ⟨dst, .binOp .add t x y t', ty, pos, af, g⟩ (.int .i64 ((m + n : Nat) : Int)) := q_add hx hy (by omega) (by unfold I64; omega)
theorem qa_add {a b : Int} (hx : ev (fr f s) x = .int .i64 a) {y : Operand} (hy : ev (fr f s) y = .int .i64 b) {t' : TypeId} (h : I64 (a + b)) : Qt P J f s ⟨dst, .binOp .add t x y t', ty, pos, af, g⟩ (.int .i64 (a + b)) := q_add hx hy rfl h
theorem qa_sub {a b : Int} (hx : ev (fr f s) x = .int .i64 a) {y : Operand} (hy : ev (fr f s) y = .int .i64 b) {t' : TypeId} (h : I64 (a - b)) : Qt P J f s ⟨dst, .binOp .sub t x y t', ty, pos, af, g⟩ (.int .i64 (a - b)) := q_sub hx hy rfl h
theorem qa_ex {vs : List Value} {i : Nat} {v : Value} (hx : ev (fr f s) x = .tuple vs.toArray) (hv : nth vs i = some v) : Qt P J f s ⟨dst, .extract x i, ty, pos, af, g⟩ v := q_extract hx (by simpa using nth_get hv)
theorem qa_len {v : Value} {n : Nat} {o : TypeId} [h : SY P o] (hx : ev (fr f s) x = v) (hs : IsSl v n) : Qt P J f s ⟨dst, .call { callee := .builtin .len, args := #[x], argTypes := #[o] }, ty, pos, af, g⟩ (.int .i64 ((n : Nat) : Int)) := by
  obtain ⟨e, h1⟩ := h.h
  exact q_len_sl hx hs h1
theorem AW.condT {c : Operand} {a b : Code} (hc : ev (fr f s) c = .bool true) (k : AW P N D a Q f s J) : AW P N D (.cond c a b) Q f s J := AW.cond hc (fun _ => k) (fun h => nomatch h)
theorem AW.condF {c : Operand} {a b : Code} (hc : ev (fr f s) c = .bool false) (k : AW P N D b Q f s J) : AW P N D (.cond c a b) Q f s J := AW.cond hc (fun h => nomatch h) (fun _ => k)
section
variable {B : Bs} {Φ : Hp} {C : List Chunk}
theorem RW.alc {cs : List Value} [hz : ZL P t cs] (hd : Nat.blt d N = true) (k : ∀ b : Nat, RW P N D ops Q rest f ((d, .pointer (some ⟨b, 0, none⟩)) :: s) (St B Φ (.blk b t cs :: C))) : RW P N D ops Q (⟨some d, .alloc t, ty, pos, af, none⟩ :: rest) f s (St B Φ C) := by
  obtain ⟨z, h1, rfl⟩ := hz.h
  exact RW.eff _ _ hd (e_alloc h1) k
theorem RW.bxA {cs : List Value} (hd : Nat.blt d N = true) (hx : ev (fr f s) x = .agg cs.toArray) (k : ∀ b : Nat, RW P N D ops Q rest f ((d, .pointer (some ⟨b, 0, none⟩)) :: s) (St B Φ (.blk b t cs :: C))) : RW P N D ops Q (⟨some d, .box t x, ty, pos, af, none⟩ :: rest) f s (St B Φ C) :=
  RW.eff _ _ hd (e_boxA hx) k
theorem e_sto {Pn : List PanicEntry → World → Prop} {y : Operand} {T : TypeId} {b o : Nat} {v : Value} {cs cs' : List Value} {C' : List Chunk} (i : Nat) [hs : SZ P t 1] (hi : C[i]? = some (.blk b T cs)) (hx : ev (fr f s) x = .pointer (some ⟨b, o, none⟩)) (hy : lk s y = some v) (hc : v.cells.toList = [v]) (ho : v.oneCell' = true) (hn : Nat.ble (o + 1) cs.length = true) [h1 : SetL cs o v cs'] [h2 : SetL C i (.blk b T cs') C'] :
    ∀ w, (St B Φ C).p w → effX P Pn (fun _ w' => (St B Φ C').p w') ((execOp (ev (fr f s)) ⟨dst, .store t x y, ty, pos, af, g⟩).run P w) := by
  have hl : o + 1 ≤ cs.length := by simpa using hn
  exact e_store i hi hx (lk_ev hy) hs.h (by have := congrArg List.length hc; simpa using this) (by rw [hc]; simpa using ho) hn (by rw [hc, ← h1.h, splice, List.set_eq_take_append_cons_drop, if_pos (by omega)]; simp) h2.h
theorem RW.sto {y : Operand} {T : TypeId} {b o : Nat} {v : Value} {cs cs' : List Value} {C' : List Chunk} (i : Nat) [hs : SZ P t 1] (hi : C[i]? = some (.blk b T cs)) (hx : ev (fr f s) x = .pointer (some ⟨b, o, none⟩)) (hy : lk s y = some v) (hc : v.cells.toList = [v]) (ho : v.oneCell' = true) (hn : Nat.ble (o + 1) cs.length = true) [h1 : SetL cs o v cs'] [h2 : SetL C i (.blk b T cs') C'] (k : RW P N D ops Q rest f s (St B Φ C')) : RW P N D ops Q (⟨none, .store t x y, ty, pos, af, none⟩ :: rest) f s (St B Φ C) :=
  RW.effn (e_sto i hi hx hy hc ho hn) k
theorem e_stA {Pn : List PanicEntry → World → Prop} {y : Operand} {T : TypeId} {b n : Nat} {cs cs' : List Value} {C' : List Chunk} (i : Nat) [hs : SZ P t n] (hi : C[i]? = some (.blk b T cs)) (hx : ev (fr f s) x = .pointer (some ⟨b, 0, none⟩)) (hy : ev (fr f s) y = .agg cs'.toArray) (ho : cs'.all Value.oneCell' = true) (hl : Nat.beq cs.length n = true) (hl' : Nat.beq cs'.length n = true) [h2 : SetL C i (.blk b T cs') C'] :
    ∀ w, (St B Φ C).p w → effX P Pn (fun _ w' => (St B Φ C').p w') ((execOp (ev (fr f s)) ⟨dst, .store t x y, ty, pos, af, g⟩).run P w) := by
  have hl := nB hl
  have hl' := nB hl'
  have h3 : (Value.agg cs'.toArray).cells.toList = cs' := rfl
  exact e_store i hi hx hy hs.h (by have := congrArg List.length h3; simp only [Array.length_toList] at this; omega) (by rw [h3]; exact ho) (by simp; omega) (by rw [h3, splice]; simp; omega) h2.h
theorem RW.stA {y : Operand} {T : TypeId} {b n : Nat} {cs cs' : List Value} {C' : List Chunk} (i : Nat) [hs : SZ P t n] (hi : C[i]? = some (.blk b T cs)) (hx : ev (fr f s) x = .pointer (some ⟨b, 0, none⟩)) (hy : ev (fr f s) y = .agg cs'.toArray) (ho : cs'.all Value.oneCell' = true) (hl : Nat.beq cs.length n = true) (hl' : Nat.beq cs'.length n = true) [h2 : SetL C i (.blk b T cs') C'] (k : RW P N D ops Q rest f s (St B Φ C')) : RW P N D ops Q (⟨none, .store t x y, ty, pos, af, none⟩ :: rest) f s (St B Φ C) :=
  RW.effn (e_stA i hi hx hy ho hl hl') k
theorem DW.sto {Pn : List PanicEntry → World → Prop} {tg : List Tg} {y : Operand} {T : TypeId} {b o : Nat} {v : Value} {cs cs' : List Value} {C' : List Chunk} (i : Nat) [hs : SZ P t 1] (hi : C[i]? = some (.blk b T cs)) (hx : ev (fr f s) x = .pointer (some ⟨b, o, none⟩)) (hy : lk s y = some v) (hc : v.cells.toList = [v]) (ho : v.oneCell' = true) (hn : Nat.ble (o + 1) cs.length = true) [h1 : SetL cs o v cs'] [h2 : SetL C i (.blk b T cs') C'] (k : DW P Pn N D ops J0 Q tg [] f s (St B Φ C')) : DW P Pn N D ops J0 Q (.e :: tg) [⟨none, .store t x y, ty, pos, af, none⟩] f s (St B Φ C) :=
  DW.effn (fun h => absurd rfl h) (e_sto i hi hx hy hc ho hn) k
theorem DW.stA {Pn : List PanicEntry → World → Prop} {tg : List Tg} {y : Operand} {T : TypeId} {b n : Nat} {cs cs' : List Value} {C' : List Chunk} (i : Nat) [hs : SZ P t n] (hi : C[i]? = some (.blk b T cs)) (hx : ev (fr f s) x = .pointer (some ⟨b, 0, none⟩)) (hy : ev (fr f s) y = .agg cs'.toArray) (ho : cs'.all Value.oneCell' = true) (hl : Nat.beq cs.length n = true) (hl' : Nat.beq cs'.length n = true) [h2 : SetL C i (.blk b T cs') C'] (k : DW P Pn N D ops J0 Q tg [] f s (St B Φ C')) : DW P Pn N D ops J0 Q (.e :: tg) [⟨none, .store t x y, ty, pos, af, none⟩] f s (St B Φ C) :=
  DW.effn (fun h => absurd rfl h) (e_stA i hi hx hy ho hl hl') k
end
end
theorem g1 {A B : Prop} (k : B) (h : Kt B → A := by
  intro k
  first
  | apply RW.q
    exact rfl
    first
    | apply qa_mv
      exact rfl
    | apply qa_as
      exact rfl
    | apply qa_fa0
      exact rfl
    | apply qa_ld
      exact rfl
      first | exact Cell.blk 0 rfl rfl | exact Cell.blk 1 rfl rfl | exact Cell.blk 2 rfl rfl | exact Cell.blk 3 rfl rfl | exact Cell.blk 4 rfl rfl | exact Cell.blk 5 rfl rfl | exact Cell.blk 6 rfl rfl | exact Cell.blk 7 rfl rfl
    | apply q_lss
      exact rfl
      exact rfl
    | apply q_eql
      exact rfl
      exact rfl
    | apply q_neq
      exact rfl
      exact rfl
    | apply q_leq
      exact rfl
      exact rfl
    | apply q_gtr
      exact rfl
      exact rfl
    | apply q_geq
      exact rfl
      exact rfl
    | apply qa_len
      exact lk_ev rfl
      first | assumption | exact isSl_mk | exact RepSl.sl (by assumption) | exact isSl_nil
    | apply qa_addNL
      exact rfl
      exact rfl
      omega
    | apply qa_addNN
      exact rfl
      exact rfl
      omega
    | apply qa_add
      exact rfl
      exact rfl
      unfold I64; omega
    | apply qa_sub
      exact rfl
      exact rfl
      unfold I64; omega
    | apply qa_fat
      exact rfl
    | apply qa_fab
      exact rfl
    | apply qa_ldA
      exact rfl
      first | exact Cells.blk 0 rfl | exact Cells.blk 1 rfl | exact Cells.blk 2 rfl | exact Cells.blk 3 rfl | exact Cells.blk 4 rfl | exact Cells.blk 5 rfl | exact Cells.blk 6 rfl | exact Cells.blk 7 rfl
      exact rfl
    | apply q_not
      exact rfl
    | apply qa_ex
      exact rfl
      exact rfl
    | apply q_min
      exact rfl
      exact rfl
    | apply q_max
      exact rfl
      exact rfl
    | apply q_makeFunc
      exact rfl
      exact rfl
    | apply qa_nc
      exact rfl
    | apply qa_fld
      exact rfl
      exact rfl
    | apply qa_mi
      exact rfl
    exact k.r
  | apply RW.nil
    exact k.r
  | apply Post.then_n
    exact k.r
  | apply AW.seq
    exact k.r
  | apply AW.region
    exact k.r
  | apply RW.gl
    exact rfl
    exact rfl
    exact rfl
    first
    | apply qa_mv
      exact rfl
    | apply qa_as
      exact rfl
    | apply qa_fa0
      exact rfl
    | apply qa_ld
      exact rfl
      first | exact Cell.blk 0 rfl rfl | exact Cell.blk 1 rfl rfl | exact Cell.blk 2 rfl rfl | exact Cell.blk 3 rfl rfl | exact Cell.blk 4 rfl rfl | exact Cell.blk 5 rfl rfl | exact Cell.blk 6 rfl rfl | exact Cell.blk 7 rfl rfl
    | apply q_lss
      exact rfl
      exact rfl
    | apply q_eql
      exact rfl
      exact rfl
    | apply q_neq
      exact rfl
      exact rfl
    | apply q_leq
      exact rfl
      exact rfl
    | apply q_gtr
      exact rfl
      exact rfl
    | apply q_geq
      exact rfl
      exact rfl
    | apply qa_len
      exact lk_ev rfl
      first | assumption | exact isSl_mk | exact RepSl.sl (by assumption) | exact isSl_nil
    | apply qa_addNL
      exact rfl
      exact rfl
      omega
    | apply qa_addNN
      exact rfl
      exact rfl
      omega
    | apply qa_add
      exact rfl
      exact rfl
      unfold I64; omega
    | apply qa_sub
      exact rfl
      exact rfl
      unfold I64; omega
    | apply qa_fat
      exact rfl
    | apply qa_fab
      exact rfl
    | apply qa_ldA
      exact rfl
      first | exact Cells.blk 0 rfl | exact Cells.blk 1 rfl | exact Cells.blk 2 rfl | exact Cells.blk 3 rfl | exact Cells.blk 4 rfl | exact Cells.blk 5 rfl | exact Cells.blk 6 rfl | exact Cells.blk 7 rfl
      exact rfl
    | apply q_not
      exact rfl
    | apply qa_ex
      exact rfl
      exact rfl
    | apply q_min
      exact rfl
      exact rfl
    | apply q_max
      exact rfl
      exact rfl
    | apply q_makeFunc
      exact rfl
      exact rfl
    | apply qa_nc
      exact rfl
    | apply qa_fld
      exact rfl
      exact rfl
    | apply qa_mi
      exact rfl
    exact k.r
  | apply RW.g
    exact rfl
    exact rfl
    exact rfl
    intro hh
    first
    | apply q_move
      exact gv_pos hh
    | apply qa_mv
      exact rfl
    | apply qa_as
      exact rfl
    | apply qa_fa0
      first | exact rfl | exact gv_pos hh
    | apply qa_ld
      first | exact rfl | exact gv_pos hh
      first | exact Cell.blk 0 rfl rfl | exact Cell.blk 1 rfl rfl | exact Cell.blk 2 rfl rfl | exact Cell.blk 3 rfl rfl | exact Cell.blk 4 rfl rfl | exact Cell.blk 5 rfl rfl | exact Cell.blk 6 rfl rfl | exact Cell.blk 7 rfl rfl
    | apply q_lss
      first | exact rfl | exact gv_pos hh
      first | exact rfl | exact gv_pos hh
    | apply q_eql
      first | exact rfl | exact gv_pos hh
      first | exact rfl | exact gv_pos hh
    | apply q_neq
      first | exact rfl | exact gv_pos hh
      first | exact rfl | exact gv_pos hh
    | apply q_leq
      first | exact rfl | exact gv_pos hh
      first | exact rfl | exact gv_pos hh
    | apply q_gtr
      first | exact rfl | exact gv_pos hh
      first | exact rfl | exact gv_pos hh
    | apply q_geq
      first | exact rfl | exact gv_pos hh
      first | exact rfl | exact gv_pos hh
    | apply qa_len
      first | exact rfl | exact gv_pos hh
      first | assumption | exact isSl_mk | exact RepSl.sl (by assumption) | exact isSl_nil
    | apply q_not
      first | exact rfl | exact gv_pos hh
    | apply qa_fat
      first | exact rfl | exact gv_pos hh
    | apply qa_fab
      first | exact rfl | exact gv_pos hh
    | apply qa_ldA
      first | exact rfl | exact gv_pos hh
      first | exact Cells.blk 0 rfl | exact Cells.blk 1 rfl | exact Cells.blk 2 rfl | exact Cells.blk 3 rfl | exact Cells.blk 4 rfl | exact Cells.blk 5 rfl | exact Cells.blk 6 rfl | exact Cells.blk 7 rfl
      exact rfl
    exact k.r
  | apply DW.q
    first | exact fun _ h => h | exact fun _ h => St.one 0 rfl h | exact fun _ h => St.one 1 rfl h | exact fun _ h => St.one 2 rfl h | exact fun _ h => St.one 3 rfl h | exact fun _ h => St.one 4 rfl h | exact fun _ h => St.oneK 0 (by assumption) rfl h | exact fun _ h => St.oneK 1 (by assumption) rfl h | exact fun _ h => St.oneK 2 (by assumption) rfl h | exact fun _ h => St.oneK 3 (by assumption) rfl h | exact fun _ h => St.oneK 4 (by assumption) rfl h
    exact rfl
    first
    | apply qa_mv
      exact rfl
    | apply qa_as
      exact rfl
    | apply qa_fa0
      exact rfl
    | apply qa_ld
      exact rfl
      first | exact Cell.blk 0 rfl rfl | exact Cell.blk 1 rfl rfl | exact Cell.blk 2 rfl rfl | exact Cell.blk 3 rfl rfl | exact Cell.blk 4 rfl rfl | exact Cell.blk 5 rfl rfl | exact Cell.blk 6 rfl rfl | exact Cell.blk 7 rfl rfl
    | apply q_lss
      exact rfl
      exact rfl
    | apply q_eql
      exact rfl
      exact rfl
    | apply q_neq
      exact rfl
      exact rfl
    | apply q_leq
      exact rfl
      exact rfl
    | apply q_gtr
      exact rfl
      exact rfl
    | apply q_geq
      exact rfl
      exact rfl
    | apply qa_len
      exact lk_ev rfl
      first | assumption | exact isSl_mk | exact RepSl.sl (by assumption) | exact isSl_nil
    | apply qa_addNL
      exact rfl
      exact rfl
      omega
    | apply qa_addNN
      exact rfl
      exact rfl
      omega
    | apply qa_add
      exact rfl
      exact rfl
      unfold I64; omega
    | apply qa_sub
      exact rfl
      exact rfl
      unfold I64; omega
    | apply qa_fat
      exact rfl
    | apply qa_fab
      exact rfl
    | apply qa_ldA
      exact rfl
      first | exact Cells.blk 0 rfl | exact Cells.blk 1 rfl | exact Cells.blk 2 rfl | exact Cells.blk 3 rfl | exact Cells.blk 4 rfl | exact Cells.blk 5 rfl | exact Cells.blk 6 rfl | exact Cells.blk 7 rfl
      exact rfl
    | apply q_not
      exact rfl
    | apply qa_ex
      exact rfl
      exact rfl
    | apply q_min
      exact rfl
      exact rfl
    | apply q_max
      exact rfl
      exact rfl
    | apply q_makeFunc
      exact rfl
      exact rfl
    | apply qa_nc
      exact rfl
    | apply qa_fld
      exact rfl
      exact rfl
    | apply qa_mi
      exact rfl
    exact k.r
  | apply DW.g
    first | exact fun _ h => h | exact fun _ h => St.one 0 rfl h | exact fun _ h => St.one 1 rfl h | exact fun _ h => St.one 2 rfl h | exact fun _ h => St.one 3 rfl h | exact fun _ h => St.one 4 rfl h | exact fun _ h => St.oneK 0 (by assumption) rfl h | exact fun _ h => St.oneK 1 (by assumption) rfl h | exact fun _ h => St.oneK 2 (by assumption) rfl h | exact fun _ h => St.oneK 3 (by assumption) rfl h | exact fun _ h => St.oneK 4 (by assumption) rfl h
    exact rfl
    exact rfl
    exact rfl
    intro hh
    first
    | apply q_move
      exact gv_pos hh
    | apply qa_mv
      exact rfl
    | apply qa_as
      exact rfl
    | apply qa_fa0
      first | exact rfl | exact gv_pos hh
    | apply qa_ld
      first | exact rfl | exact gv_pos hh
      first | exact Cell.blk 0 rfl rfl | exact Cell.blk 1 rfl rfl | exact Cell.blk 2 rfl rfl | exact Cell.blk 3 rfl rfl | exact Cell.blk 4 rfl rfl | exact Cell.blk 5 rfl rfl | exact Cell.blk 6 rfl rfl | exact Cell.blk 7 rfl rfl
    | apply q_lss
      first | exact rfl | exact gv_pos hh
      first | exact rfl | exact gv_pos hh
    | apply q_eql
      first | exact rfl | exact gv_pos hh
      first | exact rfl | exact gv_pos hh
    | apply q_neq
      first | exact rfl | exact gv_pos hh
      first | exact rfl | exact gv_pos hh
    | apply q_leq
      first | exact rfl | exact gv_pos hh
      first | exact rfl | exact gv_pos hh
    | apply q_gtr
      first | exact rfl | exact gv_pos hh
      first | exact rfl | exact gv_pos hh
    | apply q_geq
      first | exact rfl | exact gv_pos hh
      first | exact rfl | exact gv_pos hh
    | apply qa_len
      first | exact rfl | exact gv_pos hh
      first | assumption | exact isSl_mk | exact RepSl.sl (by assumption) | exact isSl_nil
    | apply q_not
      first | exact rfl | exact gv_pos hh
    | apply qa_fat
      first | exact rfl | exact gv_pos hh
    | apply qa_fab
      first | exact rfl | exact gv_pos hh
    | apply qa_ldA
      first | exact rfl | exact gv_pos hh
      first | exact Cells.blk 0 rfl | exact Cells.blk 1 rfl | exact Cells.blk 2 rfl | exact Cells.blk 3 rfl | exact Cells.blk 4 rfl | exact Cells.blk 5 rfl | exact Cells.blk 6 rfl | exact Cells.blk 7 rfl
      exact rfl
    exact k.r
  | exact RW.sto 0 rfl rfl rfl rfl rfl rfl k.r
  | exact RW.sto 1 rfl rfl rfl rfl rfl rfl k.r
  | exact RW.sto 2 rfl rfl rfl rfl rfl rfl k.r
  | exact RW.sto 3 rfl rfl rfl rfl rfl rfl k.r
  | exact RW.sto 4 rfl rfl rfl rfl rfl rfl k.r
  | exact RW.sto 5 rfl rfl rfl rfl rfl rfl k.r
  | exact RW.sto 6 rfl rfl rfl rfl rfl rfl k.r
  | exact RW.stA 0 rfl rfl rfl rfl rfl rfl k.r
  | exact RW.stA 1 rfl rfl rfl rfl rfl rfl k.r
  | exact RW.stA 2 rfl rfl rfl rfl rfl rfl k.r
  | exact RW.stA 3 rfl rfl rfl rfl rfl rfl k.r
  | exact RW.stA 4 rfl rfl rfl rfl rfl rfl k.r
  | exact RW.stA 5 rfl rfl rfl rfl rfl rfl k.r
  | exact RW.stA 6 rfl rfl rfl rfl rfl rfl k.r
  | exact DW.sto 0 rfl rfl rfl rfl rfl rfl k.r
  | exact DW.sto 1 rfl rfl rfl rfl rfl rfl k.r
  | exact DW.sto 2 rfl rfl rfl rfl rfl rfl k.r
  | exact DW.sto 3 rfl rfl rfl rfl rfl rfl k.r
  | exact DW.sto 4 rfl rfl rfl rfl rfl rfl k.r
  | exact DW.stA 0 rfl rfl rfl rfl rfl rfl k.r
  | exact DW.stA 1 rfl rfl rfl rfl rfl rfl k.r
  | exact DW.stA 2 rfl rfl rfl rfl rfl rfl k.r
  | exact DW.stA 3 rfl rfl rfl rfl rfl rfl k.r
  | exact DW.stA 4 rfl rfl rfl rfl rfl rfl k.r
  | exact AW.skip k.r
  | exact AW.condF rfl k.r
  | exact AW.condT rfl k.r
  | exact AW.block k.r
  | exact AW.exit k.r
  | exact AW.ret k.r
  | exact Post.then_r k.r
  | exact Post.then_x k.r
  | exact Post.blk_n k.r
  | exact Post.blk_r k.r
  | exact Post.blk_hit k.r
  | exact Post.blk_miss rfl k.r
  | exact DW.nil k.r
  ) : A := h ⟨k⟩
theorem g2 {A B : Prop} (k : B) (h : Kt B → A := by
  intro k; refine g1 ?_; refine g1 ?_; exact k.r) : A := h ⟨k⟩
theorem g3 {A B : Prop} (k : B) (h : Kt B → A := by
  intro k; refine g2 ?_; refine g1 ?_; exact k.r) : A := h ⟨k⟩
theorem g4 {A B : Prop} (k : B) (h : Kt B → A := by
  intro k; refine g2 ?_; refine g2 ?_; exact k.r) : A := h ⟨k⟩
theorem g5 {A B : Prop} (k : B) (h : Kt B → A := by
  intro k; refine g3 ?_; refine g2 ?_; exact k.r) : A := h ⟨k⟩
theorem g6 {A B : Prop} (k : B) (h : Kt B → A := by
  intro k; refine g3 ?_; refine g3 ?_; exact k.r) : A := h ⟨k⟩
theorem g7 {A B : Prop} (k : B) (h : Kt B → A := by
  intro k; refine g4 ?_; refine g3 ?_; exact k.r) : A := h ⟨k⟩
theorem g8 {A B : Prop} (k : B) (h : Kt B → A := by
  intro k; refine g4 ?_; refine g4 ?_; exact k.r) : A := h ⟨k⟩
theorem g9 {A B : Prop} (k : B) (h : Kt B → A := by
  intro k; refine g5 ?_; refine g4 ?_; exact k.r) : A := h ⟨k⟩
theorem g10 {A B : Prop} (k : B) (h : Kt B → A := by
  intro k; refine g5 ?_; refine g5 ?_; exact k.r) : A := h ⟨k⟩
theorem g11 {A B : Prop} (k : B) (h : Kt B → A := by
  intro k; refine g6 ?_; refine g5 ?_; exact k.r) : A := h ⟨k⟩
theorem g12 {A B : Prop} (k : B) (h : Kt B → A := by
  intro k; refine g6 ?_; refine g6 ?_; exact k.r) : A := h ⟨k⟩
theorem g13 {A B : Prop} (k : B) (h : Kt B → A := by
  intro k; refine g7 ?_; refine g6 ?_; exact k.r) : A := h ⟨k⟩
theorem g14 {A B : Prop} (k : B) (h : Kt B → A := by
  intro k; refine g7 ?_; refine g7 ?_; exact k.r) : A := h ⟨k⟩
end Go.K
