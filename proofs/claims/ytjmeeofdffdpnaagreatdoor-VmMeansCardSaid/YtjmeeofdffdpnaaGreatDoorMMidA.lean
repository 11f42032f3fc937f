/- Lemmas. Conditions: those of each theorem. -/
import Derived.Test.YtjmeeofdffdpnaaGreatDoorMRsK
set_option maxRecDepth 8000
set_option maxHeartbeats 16000000
namespace Go.K
open Go Go.RowKit
section
variable {P : Program} {f : Nat → Value} {s : List (Nat × Value)} {J : Cls} {ty : TypeId} {pos : String} {af : Array Edge} {x y : Operand} {dst : Option Nat} {g : Option (Nat × Bool)} {t t' : TypeId}
theorem q_cvt {a r : Int} {k k' : IntKind} {d : TypeDesc} (hx : ev (fr f s) x = .int k' a) (h1 : P.underlying t = some d) (h2 : P.underlying t' = some (.int k)) (hw : k.wrap a = r) : Qt P J f s ⟨dst, .convert t t' x, ty, pos, af, g⟩ (.int k r) := qt_val fun w _ => by
 simp only [execOp, hx, convert, Sem.run_bind, run_underlying h1, run_underlying h2, Result.andThen_ok, Conv.intToInt, hw, Sem.run_pure]
theorem q_negW {a r : Int} {k : IntKind} (hx : ev (fr f s) x = .int k a) (hw : k.wrap (-a) = r) : Qt P J f s ⟨dst, .unOp .neg t x, ty, pos, af, g⟩ (.int k r) := qt_val fun w _ => by
 simp [execOp, hx, Op.unary, Op.intArith, hw]
end
theorem wrap_i64 (n : Int) : IntKind.i64.wrap n = if n % 18446744073709551616 ≥ 9223372036854775808 then n % 18446744073709551616 - 18446744073709551616 else n % 18446744073709551616 := by simp [IntKind.wrap, IntKind.bits, IntKind.signed]
end Go.K
namespace Go.Proofs.YtjmeeofdffdpnaaGreatDoor
open Go Go.K Go.RowKit
attribute [local irreducible] AW RW DW Post Qt
theorem mat_c (w : World) {xs : List Int} {v1 : Value} {i : Int} (h1 : RepSl (hp w) xs v1) : Calls pg 148 #[v1, iV i] w fun e w' => e = .returned (iV (Mn.atL xs i)) ∧ Bel w.heap.size w w' := by
 refine calls_of_AW (args := [v1, iV i]) Tryz.func148 rfl (lBT rfl) (St ⟨w, hp w, []⟩ (hp w) []) (StP.init w (hp w) (Hp.le_refl _) []) ?_
 show AW _ _ [] _ _ _ [(0, v1), (1, iV i)] _
 have hsl := h1.sl
 repeat refine gs1 ?_
 refine RW.g (b := decide (i < 0)) (v := iV (xs.length : Int)) rfl rfl rfl (fun h => q_len_sl (gv_pos h) hsl uT29) ?_
 repeat refine gs1 ?_
 refine RW.q (v := .bool (decide (i < 0) || decide ((xs.length : Int) ≤ i))) rfl (qpO rfl rfl rfl) ?_
 repeat refine gs1 ?_
 refine AW.cond rfl (fun h => ?_) fun h => ?_
 ·
  have h : i < 0 ∨ (xs.length : Int) ≤ i := by simpa using h
  repeat refine gs1 ?_
  exact fin_res (vs := [iV 0]) rfl rfl ⟨.tmp rfl, trivial⟩ rfl (fun w' hw => ⟨by unfold Mn.atL; rw [if_pos h]; rfl, hw.below rfl⟩)
 ·
  have h : ¬ (i < 0 ∨ (xs.length : Int) ≤ i) := by simpa using h
  obtain ⟨n, rfl⟩ : ∃ n : Nat, i = n := ⟨i.toNat, by omega⟩
  have hn : n < xs.length := by omega
  have pe : PCell (hp w) (Value.at v1 (n * 1)) (iV (xs.getD n 0)) := by
   have := (h1.int hn).1
   rw [Nat.mul_one, gDD, List.getElem?_eq_getElem hn]; exact this
  repeat refine gs1 ?_
  exact fin_res (vs := [iV (xs.getD n 0)]) rfl rfl ⟨.tmp rfl, trivial⟩ rfl (fun w' hw => ⟨by unfold Mn.atL; rw [if_neg h, Int.toNat_natCast]; rfl, hw.below rfl⟩)
theorem size_c (w : World) {a : Int} (ha : I64 a) : Calls pg 172 #[iV a] w fun e w' => e = .returned (.int .u64 (a.natAbs : Int)) ∧ Bel w.heap.size w w' := by
 refine calls_of_AW (args := [iV a]) Tryz.func172 rfl (lBT rfl) (St ⟨w, hp w, []⟩ (hp w) []) (StP.init w (hp w) (Hp.le_refl _) []) ?_
 show AW _ _ [] _ _ _ [(0, iV a)] _
 unfold I64 at ha
 repeat refine gs1 ?_
 refine AW.cond rfl (fun h => ?_) fun h => ?_
 ·
  have h : a < 0 := odT h
  repeat refine gs1 ?_
  refine RW.q (v := .int .u64 (a + 18446744073709551616)) rfl (q_cvt rfl uT3 uT234 (by rw [IntKind.wrap_u64]; omega)) (RW.q (v := .int .u64 (a.natAbs : Int)) rfl (q_negW rfl (by rw [IntKind.wrap_u64]; omega)) ?_)
  repeat refine gs1 ?_
  exact fin_res (vs := [.int .u64 (a.natAbs : Int)]) rfl rfl ⟨.tmp rfl, trivial⟩ rfl (fun w' hw => ⟨rfl, hw.below rfl⟩)
 ·
  have h : ¬ a < 0 := odF h
  repeat refine gs1 ?_
  refine RW.q (v := .int .u64 (a.natAbs : Int)) rfl (q_cvt rfl uT3 uT234 (by rw [IntKind.wrap_u64]; omega)) ?_
  repeat refine gs1 ?_
  exact fin_res (vs := [.int .u64 (a.natAbs : Int)]) rfl rfl ⟨.tmp rfl, trivial⟩ rfl (fun w' hw => ⟨rfl, hw.below rfl⟩)
theorem abs_neg {a b : Int} (h : decide (a < 0) ≠ decide (b < 0)) : a * b = -((a.natAbs * b.natAbs : Nat) : Int) := by
 rw [Int.natCast_mul]
 by_cases ha : a < 0
 ·
  have hb : ¬ b < 0 := fun hb => h (by simp [ha, hb])
  rw [show (a.natAbs : Int) = -a by omega, show (b.natAbs : Int) = b by omega, Int.neg_mul, Int.neg_neg]
 ·
  have hb : b < 0 := by
   by_cases hb : b < 0
   ·
    exact hb
   ·
    exact absurd (by simp [ha, hb]) h
  rw [show (a.natAbs : Int) = a by omega, show (b.natAbs : Int) = -b by omega, Int.mul_neg, Int.neg_neg]
theorem abs_pos {a b : Int} (h : decide (a < 0) = decide (b < 0)) : a * b = ((a.natAbs * b.natAbs : Nat) : Int) := by
 rw [Int.natCast_mul]
 by_cases ha : a < 0
 ·
  have hb : b < 0 := by
   by_cases hb : b < 0
   ·
    exact hb
   ·
    simp [ha, hb] at h
  rw [show (a.natAbs : Int) = -a by omega, show (b.natAbs : Int) = -b by omega, Int.neg_mul_neg]
 ·
  have hb : ¬ b < 0 := fun hb => by simp [ha, hb] at h
  rw [show (a.natAbs : Int) = a by omega, show (b.natAbs : Int) = b by omega]
theorem mproduct_c (w : World) {a b : Int} (ha : I64 a) (hb : I64 b) : Calls pg 150 #[iV a, iV b] w fun e w' => e = .returned (iV (Mn.lim (a * b))) ∧ Bel w.heap.size w w' := by
 refine calls_of_AW (args := [iV a, iV b]) Tryz.func150 rfl (lBT rfl) (St ⟨w, hp w, []⟩ (hp w) []) (StP.init w (hp w) (Hp.le_refl _) []) ?_
 show AW _ _ [] _ _ _ [(0, iV a), (1, iV b)] _
 have ha0 := ha
 have hb0 := hb
 unfold I64 at ha0 hb0
 repeat refine gs1 ?_
 refine RW.q rfl (q_call (args := #[iV a]) oK rfl rfl (fun w1 hw1 => size_c w1 ha)) ?_
 repeat refine gs1 ?_
 refine RW.q rfl (q_call (args := #[iV b]) oK rfl rfl (fun w1 hw1 => size_c w1 hb)) (RW.q rfl (q_call (args := #[.int .u64 (a.natAbs : Int), .int .u64 (b.natAbs : Int)]) oK rfl rfl (fun w1 hw1 => Mul64_c w1 (hp w1) (Hp.le_refl _) (by omega) (by omega))) ?_)
 repeat refine gs1 ?_
 generalize hm : a.natAbs * b.natAbs = m
 have hd := Nat.div_add_mod m 18446744073709551616
 have hr := Nat.mod_lt m (show 0 < 18446744073709551616 by omega)
 generalize hh : m / 18446744073709551616 = hi at *
 generalize hlo : m % 18446744073709551616 = lo at *
 refine RW.q (v := .bool (!(decide (a < 0) == decide (b < 0)))) rfl (q_neqB rfl rfl uT4) ?_
 repeat refine gs1 ?_
 refine AW.cond rfl (fun h => ?_) fun h => ?_
 ·
  have h : decide (a < 0) ≠ decide (b < 0) := by simpa using h
  have hp1 := abs_neg h
  rw [hm] at hp1
  repeat refine gs1 ?_
  refine RW.q (v := .bool (!decide ((hi : Int) = 0) || decide ((9223372036854775808 : Int) < (lo : Int)))) rfl (qpO rfl rfl rfl) ?_
  repeat refine gs1 ?_
  refine AW.cond rfl (fun h2 => ?_) fun h2 => ?_
  ·
   have h2 : ¬ hi = 0 ∨ 9223372036854775808 < lo := by simp only [Bool.or_eq_true, Bool.not_eq_true', decide_eq_false_iff_not, decide_eq_true_eq] at h2; omega
   repeat refine gs1 ?_
   exact fin_res (vs := [iV (-9223372036854775808)]) rfl rfl ⟨.tmp rfl, trivial⟩ rfl (fun w' hw => ⟨by rw [hp1]; unfold Mn.lim Mn.mn Mn.mx; rw [if_pos (by omega)]; rfl, hw.below rfl⟩)
  ·
   have h2 : hi = 0 ∧ lo ≤ 9223372036854775808 := by simp only [Bool.or_eq_false_iff, Bool.not_eq_false', decide_eq_true_eq, decide_eq_false_iff_not] at h2; omega
   repeat refine gs1 ?_
   refine RW.q (v := .int .u64 ((-(lo : Int)) % 18446744073709551616)) rfl (q_negW rfl (by rw [IntKind.wrap_u64])) (RW.q (v := iV (-(lo : Int))) rfl (q_cvt rfl uT234 uT3 (by rw [wrap_i64]; split <;> omega)) ?_)
   repeat refine gs1 ?_
   exact fin_res (vs := [iV (-(lo : Int))]) rfl rfl ⟨.tmp rfl, trivial⟩ rfl (fun w' hw => ⟨by rw [hp1]; unfold Mn.lim Mn.mn Mn.mx; rw [if_neg (by omega), if_neg (by omega), show (m : Int) = lo by omega]; rfl, hw.below rfl⟩)
 ·
  have h : decide (a < 0) = decide (b < 0) := by simpa using h
  have hp1 := abs_pos h
  rw [hm] at hp1
  repeat refine gs1 ?_
  refine RW.q (v := .bool (!decide ((hi : Int) = 0) || decide ((9223372036854775807 : Int) < (lo : Int)))) rfl (qpO rfl rfl rfl) ?_
  repeat refine gs1 ?_
  refine AW.cond rfl (fun h2 => ?_) fun h2 => ?_
  ·
   have h2 : ¬ hi = 0 ∨ 9223372036854775807 < lo := by simp only [Bool.or_eq_true, Bool.not_eq_true', decide_eq_false_iff_not, decide_eq_true_eq] at h2; omega
   repeat refine gs1 ?_
   exact fin_res (vs := [iV 9223372036854775807]) rfl rfl ⟨.tmp rfl, trivial⟩ rfl (fun w' hw => ⟨by rw [hp1]; unfold Mn.lim Mn.mn Mn.mx; rw [if_neg (by omega), if_pos (by omega)]; rfl, hw.below rfl⟩)
  ·
   have h2 : hi = 0 ∧ lo ≤ 9223372036854775807 := by simp only [Bool.or_eq_false_iff, Bool.not_eq_false', decide_eq_true_eq, decide_eq_false_iff_not] at h2; omega
   repeat refine gs1 ?_
   refine RW.q (v := iV (lo : Int)) rfl (q_cvt rfl uT234 uT3 (by rw [wrap_i64]; split <;> omega)) ?_
   repeat refine gs1 ?_
   exact fin_res (vs := [iV (lo : Int)]) rfl rfl ⟨.tmp rfl, trivial⟩ rfl (fun w' hw => ⟨by rw [hp1]; unfold Mn.lim Mn.mn Mn.mx; rw [if_neg (by omega), if_neg (by omega), show (m : Int) = lo by omega]; rfl, hw.below rfl⟩)
end Go.Proofs.YtjmeeofdffdpnaaGreatDoor
namespace Bt
structure Facts where
 Volume : List Int
 Level : List Int
 Owned : List (List Int)
 Pos : List Int
 Hour : Int
 Crest : List Int
instance : Inhabited Facts := ⟨⟨[], [], [], [], 0, []⟩⟩
end Bt
namespace Mn
open Bt
abbrev Dt := Int × Int × Int × Int
def wr (n : Int) : Int := Go.IntKind.wrap .i64 n
def factV (f : Facts) (d : Dt) (n o q : Int) : Int :=
 if n = 0 then atL f.Volume o else if n = 1 then atL f.Level o
 else if n = 2 then (if o < 0 ∨ (f.Owned.length : Int) ≤ o then 0 else atL (f.Owned.getD o.toNat []) q)
 else if n = 3 then atL f.Pos o else if n = 4 then d.2.2.2 else if n = 5 then d.2.2.1 else if n = 6 then d.2.1
 else if n = 7 then (if o < 0 ∨ (f.Crest.length : Int) ≤ o then -1 else f.Crest.getD o.toNat 0) else 0
def op2 (k x y : Int) : Except Int Int :=
 if k = 4 then .ok (lim (x + y)) else if k = 5 then .ok (lim (x - y)) else if k = 6 then .ok (lim (x * y))
 else if k = 7 then (if y = 0 then .error 1 else .ok (lim (x.tdiv y)))
 else if k = 8 then .ok (if x < y then 1 else 0) else if k = 9 then .ok (if x ≤ y then 1 else 0) else .ok (if x = y then 1 else 0)
abbrev R (α : Type) := Except (Int × Int) (α × Int)
def bnd {α β : Type} (x : R α) (k : α → Int → R β) : R β := match x with
 | .error e => .error e
 | .ok (a, u) => k a u
def evs (f : Expr → Int → R Int) : List Expr → Int → R (List Int)
 | [], u => .ok ([], u)
 | e :: es, u => bnd (f e u) fun v u => bnd (evs f es u) fun vs u => .ok (v :: vs, u)
def kid (e : Expr) (i : Nat) : Expr := e.Kids.getD i default
def ev (fs : List RFunc) (f : Facts) (d : Dt) : Nat → Int → Expr → List Int → Int → R Int
 | 0, _, _, _, _ => .error (0, 0)
 | g + 1, c, e, ps, u =>
  if e.Kind = 0 then .ok (e.N, u)
  else if e.Kind = 15 then .ok (ps.getD e.N.toNat 0, u)
  else if e.Kind = 1 then .ok (factV f d e.N e.Of e.Of2, u)
  else if e.Kind = 2 then bnd (ev fs f d g c (kid e 0) ps u) fun v u => .ok (lim (0 - v), u)
  else if e.Kind = 3 then bnd (ev fs f d g c (kid e 0) ps u) fun v u => .ok (wr (1 - v), u)
  else if e.Kind = 11 then bnd (ev fs f d g c (kid e 0) ps u) fun v u => if v = 0 then .ok (0, u) else ev fs f d g c (kid e 1) ps u
  else if e.Kind = 12 then bnd (ev fs f d g c (kid e 0) ps u) fun v u => if v ≠ 0 then .ok (1, u) else ev fs f d g c (kid e 1) ps u
  else if e.Kind = 13 then bnd (ev fs f d g c (kid e 0) ps u) fun v u => if v ≠ 0 then ev fs f d g c (kid e 1) ps u else ev fs f d g c (kid e 2) ps u
  else if e.Kind = 14 then bnd (evs (fun x u => ev fs f d g c x ps u) e.Kids u) fun vs u =>
   if 10000 ≤ u then .error (14, u) else if 100 ≤ c then .error (8, u + 1) else ev fs f d g (c + 1) (fs.getD e.N.toNat default).Body vs (u + 1)
  else bnd (ev fs f d g c (kid e 0) ps u) fun x u => bnd (ev fs f d g c (kid e 1) ps u) fun y u => match op2 e.Kind x y with
   | .error k => .error (k, u)
   | .ok v => .ok (v, u)
theorem bnd_ok {α β : Type} {x : R α} {k : α → Int → R β} {a : α} {u : Int} (h : x = .ok (a, u)) : bnd x k = k a u := by rw [h]; rfl
theorem bnd_err {α β : Type} {x : R α} {k : α → Int → R β} {e : Int × Int} (h : x = .error e) : bnd x k = .error e := by rw [h]; rfl
end Mn
namespace Go.Proofs.YtjmeeofdffdpnaaGreatDoor
open Go Go.K Go.RowKit
open Ru (pB)
attribute [local irreducible] AW RW DW Post Qt
structure FcV where
 vol : Value
 lev : Value
 own : Value
 pos : Value
 cre : Value
structure FcV.ok (Φ : Hp) (v : FcV) (f : Bt.Facts) : Prop where
 vol : RepSl Φ f.Volume v.vol
 lev : RepSl Φ f.Level v.lev
 own : RepSl Φ f.Owned v.own
 pos : RepSl Φ f.Pos v.pos
 cre : RepSl Φ f.Crest v.cre
theorem FcV.ok.mono {Φ Ψ : Hp} {v : FcV} {f : Bt.Facts} (h : v.ok Φ f) (hl : Hp.le Φ Ψ) : v.ok Ψ f := ⟨h.vol.mono hl, h.lev.mono hl, h.own.mono hl, h.pos.mono hl, h.cre.mono hl⟩
structure RnV where
 rf : Value
 rc : Value
 fc : FcV
 hr : Int
 d : Mn.Dt
 tv : Value
 sv : Value
abbrev RnV.cs (y : RnV) (u c : Int) : List Value := [y.rf, y.rc, y.fc.vol, y.fc.lev, y.fc.own, y.fc.pos, iV y.hr, y.fc.cre, iV y.d.1, iV y.d.2.1, iV y.d.2.2.1, iV y.d.2.2.2, iV u, iV c, y.tv, y.sv]
abbrev fE (e : Int × Int) : List PanicEntry := [⟨.iface 125 (.agg #[iV e.1]), false, false⟩]
abbrev opR (w : World) (Φ : Hp) (res : Except Int Int) : Ending → World → Prop := OwnK w Φ [] res (fun v (_ : Unit) => iV v) (fun _ _ => []) (fun k => fE (k, 0)) fun _ CE => CE = []
theorem tdiv_le (x y : Int) : (x.tdiv y).natAbs ≤ x.natAbs := by
 rw [Int.natAbs_tdiv]; exact Nat.div_le_self _ _
theorem operate_c (w : World) {Φ : Hp} (hΦ : Hp.le Φ (hp w)) {k x y : Int} (hx : I64 x) (hy : I64 y) : Calls pg 109 #[iV k, iV x, iV y] w (opR w Φ (Mn.op2 k x y)) := by
 refine calls_of_AW (args := [iV k, iV x, iV y]) Tryz.func109 rfl (lBT rfl) (St ⟨w, Φ, []⟩ Φ []) (StP.init w Φ hΦ []) ?_
 show AW _ _ [] _ _ _ [(0, iV k), (1, iV x), (2, iV y)] _
 have fin : ∀ {v : Int} {w' : World}, Mn.op2 k x y = .ok v → (St ⟨w, Φ, []⟩ Φ []).p w' → opR w Φ (Mn.op2 k x y) (.returned (iV v)) w' := fun h hw => .inl ⟨_, (), h, rfl, hw⟩
 repeat refine gs1 ?_
 refine AW.cond rfl (fun h => ?_) fun h4 => ?_
 ·
  have h : k = 4 := odT h
  repeat refine gs1 ?_
  refine RW.q rfl (q_call (args := #[iV x, iV y]) oK rfl rfl (fun w1 hw1 => Add_c w1 (hp w1) (Hp.le_refl _) hx hy)) ?_
  repeat refine gs1 ?_
  exact fin_res (vs := [iV (Mn.lim (x + y))]) rfl rfl ⟨.tmp rfl, trivial⟩ rfl (fun w' hw => fin (by unfold Mn.op2; rw [if_pos h]) hw)
 have h4 : k ≠ 4 := odF h4
 repeat refine gs1 ?_
 refine AW.cond rfl (fun h => ?_) fun h5 => ?_
 ·
  have h : k = 5 := odT h
  repeat refine gs1 ?_
  refine RW.q rfl (q_call (args := #[iV x, iV y]) oK rfl rfl (fun w1 hw1 => Sub_c w1 (hp w1) (Hp.le_refl _) hx hy)) ?_
  repeat refine gs1 ?_
  exact fin_res (vs := [iV (Mn.lim (x - y))]) rfl rfl ⟨.tmp rfl, trivial⟩ rfl (fun w' hw => fin (by unfold Mn.op2; rw [if_neg h4, if_pos h]) hw)
 have h5 : k ≠ 5 := odF h5
 repeat refine gs1 ?_
 refine AW.cond rfl (fun h => ?_) fun h6 => ?_
 ·
  have h : k = 6 := odT h
  repeat refine gs1 ?_
  refine RW.q rfl (q_call (args := #[iV x, iV y]) oK rfl rfl (fun w1 hw1 => mproduct_c w1 hx hy)) ?_
  repeat refine gs1 ?_
  exact fin_res (vs := [iV (Mn.lim (x * y))]) rfl rfl ⟨.tmp rfl, trivial⟩ rfl (fun w' hw => fin (by unfold Mn.op2; rw [if_neg h4, if_neg h5, if_pos h]) hw)
 have h6 : k ≠ 6 := odF h6
 repeat refine gs1 ?_
 refine AW.cond rfl (fun h => ?_) fun h7 => ?_
 ·
  have h : k = 7 := odT h
  repeat refine gs1 ?_
  refine AW.cond rfl (fun h0 => ?_) fun h0 => ?_
  ·
   have h0 : y = 0 := odT h0
   repeat refine gs1 ?_
   refine RW.q (v := .agg #[iV 1]) rfl (q_build (vals := [(0, iV 1)]) zero125 uT125 places125 rfl rfl) ?_
   repeat refine gs1 ?_
   exact RW.pan rfl (fun w' hw => .inr ⟨1, [], by unfold Mn.op2; rw [if_neg h4, if_neg h5, if_neg h6, if_pos h, if_pos h0], rfl, rfl, hw⟩)
  ·
   have h0 : y ≠ 0 := odF h0
   repeat refine gs1 ?_
   refine RW.q (v := .bool (decide (x = -9223372036854775808) && decide (y = -1))) rfl (qpA rfl rfl rfl) ?_
   repeat refine gs1 ?_
   have hdl := tdiv_le x y
   have ho : Mn.op2 k x y = .ok (Mn.lim (x.tdiv y)) := by unfold Mn.op2; rw [if_neg h4, if_neg h5, if_neg h6, if_pos h, if_neg h0]
   unfold I64 at hx hy
   refine AW.cond rfl (fun hm => ?_) fun hm => ?_
   ·
    have hm : x = -9223372036854775808 ∧ y = -1 := by simpa using hm
    repeat refine gs1 ?_
    exact fin_res (vs := [iV 9223372036854775807]) rfl rfl ⟨.tmp rfl, trivial⟩ rfl (fun w' hw => fin (by rw [ho, hm.1, hm.2]; rfl) hw)
   ·
    have hm : ¬ (x = -9223372036854775808 ∧ y = -1) := by simpa using hm
    have hin : -9223372036854775808 ≤ x.tdiv y ∧ x.tdiv y ≤ 9223372036854775807 := by
     by_cases hx0 : x = -9223372036854775808
     ·
      have hy1 : y ≠ -1 := fun hh => hm ⟨hx0, hh⟩
      refine ⟨by omega, ?_⟩
      by_cases hyp : 0 < y
      ·
       have h1 : x.tdiv y ≤ 0 := by
        rw [hx0, Int.neg_tdiv]
        have := Int.tdiv_nonneg (a := 9223372036854775808) (b := y) (by omega) (by omega)
        omega
       omega
      ·
       have h2 : (x.tdiv y).natAbs = x.natAbs / y.natAbs := Int.natAbs_tdiv x y
       have h3 : x.natAbs / y.natAbs ≤ x.natAbs / 2 := Nat.div_le_div_left (by omega) (by omega)
       omega
     ·
      omega
    repeat refine gs1 ?_
    refine RW.q rfl (q_quo rfl rfl h0 rfl hin) ?_
    repeat refine gs1 ?_
    exact fin_res (vs := [iV (x.tdiv y)]) rfl rfl ⟨.tmp rfl, trivial⟩ rfl (fun w' hw => fin (by rw [ho]; unfold Mn.lim Mn.mn Mn.mx; rw [if_neg (by omega), if_neg (by omega)]) hw)
 have h7 : k ≠ 7 := odF h7
 repeat refine gs1 ?_
 refine AW.cond rfl (fun h => ?_) fun h8 => ?_
 ·
  have h : k = 8 := odT h
  repeat refine gs1 ?_
  refine RW.q rfl (q_call (args := #[.bool (decide (x < y))]) oK rfl rfl (fun w1 hw1 => truth1_c w1 (hp w1) (Hp.le_refl _))) ?_
  repeat refine gs1 ?_
  exact fin_res (vs := [iV (if decide (x < y) then 1 else 0)]) rfl rfl ⟨.tmp rfl, trivial⟩ rfl (fun w' hw => fin (by unfold Mn.op2; rw [if_neg h4, if_neg h5, if_neg h6, if_neg h7, if_pos h]; simp) hw)
 have h8 : k ≠ 8 := odF h8
 repeat refine gs1 ?_
 refine AW.cond rfl (fun h => ?_) fun h9 => ?_
 ·
  have h : k = 9 := odT h
  repeat refine gs1 ?_
  refine RW.q rfl (q_call (args := #[.bool (decide (x ≤ y))]) oK rfl rfl (fun w1 hw1 => truth1_c w1 (hp w1) (Hp.le_refl _))) ?_
  repeat refine gs1 ?_
  exact fin_res (vs := [iV (if decide (x ≤ y) then 1 else 0)]) rfl rfl ⟨.tmp rfl, trivial⟩ rfl (fun w' hw => fin (by unfold Mn.op2; rw [if_neg h4, if_neg h5, if_neg h6, if_neg h7, if_neg h8, if_pos h]; simp) hw)
 have h9 : k ≠ 9 := odF h9
 repeat refine gs1 ?_
 refine RW.q rfl (q_call (args := #[.bool (decide (x = y))]) oK rfl rfl (fun w1 hw1 => truth1_c w1 (hp w1) (Hp.le_refl _))) ?_
 repeat refine gs1 ?_
 exact fin_res (vs := [iV (if decide (x = y) then 1 else 0)]) rfl rfl ⟨.tmp rfl, trivial⟩ rfl (fun w' hw => fin (by unfold Mn.op2; rw [if_neg h4, if_neg h5, if_neg h6, if_neg h7, if_neg h8, if_neg h9]; simp) hw)
abbrev rB (x : Nat) (y : RnV) (u c : Int) : Chunk := .blk x 123 (y.cs u c)
theorem RepSl.gi {Φ : Hp} {xs : List Int} {v : Value} {n : Nat} (h : RepSl Φ xs v) (hn : n < xs.length) : PCell Φ (Value.at v (n * 1)) (iV (xs.getD n 0)) := by
 have := (h.int hn).1
 rw [Nat.mul_one, gDD, List.getElem?_eq_getElem hn]; exact this
theorem mfact_c (w : World) {xb : Nat} {y : RnV} {u c : Int} {f : Bt.Facts} {k n o q : Int} {ks : List Bt.Expr} {v : Value} (hb : hp w xb = some (.cells (y.cs u c).toArray 123 (0, 0))) (hf : y.fc.ok (hp w) f) :
  Calls pg 106 #[pB xb, .agg (exC ⟨k, n, o, q, ks⟩ v).toArray] w fun e w' => e = .returned (iV (Mn.factV f y.d n o q)) ∧ Bel w.heap.size w w' := by
 refine calls_of_AW (args := [pB xb, .agg (exC ⟨k, n, o, q, ks⟩ v).toArray]) Tryz.func106 rfl (lBT rfl) (St ⟨w, hp w, []⟩ (hp w) []) (StP.init w (hp w) (Hp.le_refl _) []) ?_
 show AW _ _ [] _ _ _ [(0, pB xb), (1, .agg (exC ⟨k, n, o, q, ks⟩ v).toArray)] _
 have pvol : PCell (hp w) ⟨xb, 2, none⟩ y.fc.vol := PCell.blk (cs := y.cs u c) hb rfl
 have svol := hf.vol.sl
 have plev : PCell (hp w) ⟨xb, 3, none⟩ y.fc.lev := PCell.blk (cs := y.cs u c) hb rfl
 have slev := hf.lev.sl
 have pown : PCell (hp w) ⟨xb, 4, none⟩ y.fc.own := PCell.blk (cs := y.cs u c) hb rfl
 have sown := hf.own.sl
 have ppos : PCell (hp w) ⟨xb, 5, none⟩ y.fc.pos := PCell.blk (cs := y.cs u c) hb rfl
 have spos := hf.pos.sl
 have pcre : PCell (hp w) ⟨xb, 7, none⟩ y.fc.cre := PCell.blk (cs := y.cs u c) hb rfl
 have scre := hf.cre.sl
 have pd9 : PCell (hp w) ⟨xb, 9, none⟩ (iV y.d.2.1) := PCell.blk (cs := y.cs u c) hb rfl
 have pd10 : PCell (hp w) ⟨xb, 10, none⟩ (iV y.d.2.2.1) := PCell.blk (cs := y.cs u c) hb rfl
 have pd11 : PCell (hp w) ⟨xb, 11, none⟩ (iV y.d.2.2.2) := PCell.blk (cs := y.cs u c) hb rfl
 repeat refine gs1 ?_
 refine RW.bxA (cs := exC ⟨k, n, o, q, ks⟩ v) rfl rfl fun b3 => ?_
 repeat refine gs1 ?_
 refine AW.cond rfl (fun h => ?_) fun n0 => ?_
 ·
  have h : n = 0 := odT h
  repeat refine gs1 ?_
  refine AW.drawZ (J0 := St ⟨w, hp w, []⟩ (hp w) [.blk b3 59 (exC ⟨k, n, o, q, ks⟩ v)]) [.q, .q, .q, .q, .q, .q, .q, .e, .q] [0, 1, 2, 3, 4, 5, 6, 7, 8] hmix (by kernel_rfl) ?_
  repeat refine gs1 ?_
  refine DW.qe (fun _ _ h => h) rfl (q_call (args := #[y.fc.vol, iV o]) oK rfl rfl (fun w1 hw1 => mat_c w1 (hf.vol.mono hw1.phi))) ?_
  repeat refine gs1 ?_
  exact fin_res (vs := [iV (Mn.atL f.Volume o)]) rfl rfl ⟨.tmp rfl, trivial⟩ rfl (fun w' hw => ⟨by unfold Mn.factV; rw [if_pos h]; rfl, hw.below rfl⟩)
 have n0 : n ≠ 0 := odF n0
 repeat refine gs1 ?_
 refine AW.cond rfl (fun h => ?_) fun n1 => ?_
 ·
  have h : n = 1 := odT h
  repeat refine gs1 ?_
  refine AW.drawZ (J0 := St ⟨w, hp w, []⟩ (hp w) [.blk b3 59 (exC ⟨k, n, o, q, ks⟩ v)]) [.q, .q, .q, .q, .q, .q, .q, .e, .q] [0, 1, 2, 3, 4, 5, 6, 7, 8] hmix (by kernel_rfl) ?_
  repeat refine gs1 ?_
  refine DW.qe (fun _ _ h => h) rfl (q_call (args := #[y.fc.lev, iV o]) oK rfl rfl (fun w1 hw1 => mat_c w1 (hf.lev.mono hw1.phi))) ?_
  repeat refine gs1 ?_
  exact fin_res (vs := [iV (Mn.atL f.Level o)]) rfl rfl ⟨.tmp rfl, trivial⟩ rfl (fun w' hw => ⟨by unfold Mn.factV; rw [if_neg n0, if_pos h]; rfl, hw.below rfl⟩)
 have n1 : n ≠ 1 := odF n1
 repeat refine gs1 ?_
 refine AW.cond rfl (fun h => ?_) fun n2 => ?_
 ·
  have h : n = 2 := odT h
  repeat refine gs1 ?_
  refine AW.drawZ (J0 := St ⟨w, hp w, []⟩ (hp w) [.blk b3 59 (exC ⟨k, n, o, q, ks⟩ v)]) [.q, .q, .q, .q, .q, .q, .q, .q, .q, .q, .q, .q, .q, .q] [0, 1, 2, 3, 4, 5, 6, 7, 8, 9, 10, 11, 12, 13] hmix (by kernel_rfl) ?_
  repeat refine gs1 ?_
  refine DW.g (b := decide (o < 0)) (v := pB xb) (fun _ h => h) rfl rfl rfl (fun h => qa_nc (gv_pos h)) (DW.g (b := decide (o < 0)) (v := .pointer (some ⟨xb, 2, none⟩)) (fun _ h => h) rfl rfl rfl (fun h => qa_fa0 (gv_pos h)) (DW.g (b := decide (o < 0)) (v := .pointer (some ⟨xb, 2 + 2, none⟩)) (fun _ h => h) rfl rfl rfl (fun h => qa_fab (p := 2) (gv_pos h)) (DW.g (b := decide (o < 0)) (v := y.fc.own) (fun _ h => h) rfl rfl rfl (fun h => qa_ld (gv_pos h) (Cell.phi pown)) (DW.g (b := decide (o < 0)) (v := iV (f.Owned.length : Int)) (fun _ h => h) rfl rfl rfl (fun h => q_len_sl (gv_pos h) sown uT39) ?_))))
  repeat refine gs1 ?_
  refine DW.q (v := .bool (decide (o < 0) || decide ((f.Owned.length : Int) ≤ o))) (fun _ h => h) rfl (qpO rfl rfl rfl) ?_
  repeat refine gs1 ?_
  refine AW.cond rfl (fun hi => ?_) fun hi => ?_
  ·
   have hi : o < 0 ∨ (f.Owned.length : Int) ≤ o := by simpa using hi
   repeat refine gs1 ?_
   exact fin_res (vs := [iV (0)]) rfl rfl ⟨.tmp rfl, trivial⟩ rfl (fun w' hw => ⟨by unfold Mn.factV; rw [if_neg n0, if_neg n1, if_pos h, if_pos hi]; rfl, hw.below rfl⟩)
  have hi : ¬ (o < 0 ∨ (f.Owned.length : Int) ≤ o) := by simpa using hi
  have a0 := n0
  have a1 := n1
  have ah := h
  obtain ⟨m, rfl⟩ : ∃ m : Nat, o = m := ⟨o.toNat, by omega⟩
  have hm : m < f.Owned.length := by omega
  obtain ⟨sv, hsv, hpv⟩ := hf.own.sub hm
  repeat refine gs1 ?_
  refine AW.drawZ (J0 := St ⟨w, hp w, []⟩ (hp w) [.blk b3 59 (exC ⟨k, n, (m : Int), q, ks⟩ v)]) [.q, .q, .q, .q, .q, .q, .q, .q, .q, .q, .q, .e, .q] [0, 1, 2, 3, 4, 5, 6, 7, 8, 9, 10, 11, 12] hmix (by kernel_rfl) ?_
  repeat refine gs1 ?_
  refine DW.qe (fun _ _ h => h) rfl (q_call (args := #[sv, iV q]) oK rfl rfl (fun w1 hw1 => mat_c w1 (hsv.mono hw1.phi))) ?_
  repeat refine gs1 ?_
  exact fin_res (vs := [iV (Mn.atL (f.Owned.getD m []) q)]) rfl rfl ⟨.tmp rfl, trivial⟩ rfl (fun w' hw => ⟨by unfold Mn.factV; rw [if_neg a0, if_neg a1, if_pos ah, if_neg hi, Int.toNat_natCast]; rfl, hw.below rfl⟩)
 have n2 : n ≠ 2 := odF n2
 repeat refine gs1 ?_
 refine AW.cond rfl (fun h => ?_) fun n3 => ?_
 ·
  have h : n = 3 := odT h
  repeat refine gs1 ?_
  refine AW.drawZ (J0 := St ⟨w, hp w, []⟩ (hp w) [.blk b3 59 (exC ⟨k, n, o, q, ks⟩ v)]) [.q, .q, .q, .q, .q, .q, .q, .e, .q] [0, 1, 2, 3, 4, 5, 6, 7, 8] hmix (by kernel_rfl) ?_
  repeat refine gs1 ?_
  refine DW.qe (fun _ _ h => h) rfl (q_call (args := #[y.fc.pos, iV o]) oK rfl rfl (fun w1 hw1 => mat_c w1 (hf.pos.mono hw1.phi))) ?_
  repeat refine gs1 ?_
  exact fin_res (vs := [iV (Mn.atL f.Pos o)]) rfl rfl ⟨.tmp rfl, trivial⟩ rfl (fun w' hw => ⟨by unfold Mn.factV; rw [if_neg n0, if_neg n1, if_neg n2, if_pos h]; rfl, hw.below rfl⟩)
 have n3 : n ≠ 3 := odF n3
 repeat refine gs1 ?_
 refine AW.cond rfl (fun h => ?_) fun n4 => ?_
 ·
  have h : n = 4 := odT h
  repeat refine gs1 ?_
  exact fin_res (vs := [iV (y.d.2.2.2)]) rfl rfl ⟨.tmp rfl, trivial⟩ rfl (fun w' hw => ⟨by unfold Mn.factV; rw [if_neg n0, if_neg n1, if_neg n2, if_neg n3, if_pos h]; rfl, hw.below rfl⟩)
 have n4 : n ≠ 4 := odF n4
 repeat refine gs1 ?_
 refine AW.cond rfl (fun h => ?_) fun n5 => ?_
 ·
  have h : n = 5 := odT h
  repeat refine gs1 ?_
  exact fin_res (vs := [iV (y.d.2.2.1)]) rfl rfl ⟨.tmp rfl, trivial⟩ rfl (fun w' hw => ⟨by unfold Mn.factV; rw [if_neg n0, if_neg n1, if_neg n2, if_neg n3, if_neg n4, if_pos h]; rfl, hw.below rfl⟩)
 have n5 : n ≠ 5 := odF n5
 repeat refine gs1 ?_
 refine AW.cond rfl (fun h => ?_) fun n6 => ?_
 ·
  have h : n = 6 := odT h
  repeat refine gs1 ?_
  exact fin_res (vs := [iV (y.d.2.1)]) rfl rfl ⟨.tmp rfl, trivial⟩ rfl (fun w' hw => ⟨by unfold Mn.factV; rw [if_neg n0, if_neg n1, if_neg n2, if_neg n3, if_neg n4, if_neg n5, if_pos h]; rfl, hw.below rfl⟩)
 have n6 : n ≠ 6 := odF n6
 repeat refine gs1 ?_
 refine AW.cond rfl (fun h => ?_) fun n7 => ?_
 ·
  have h : n = 7 := odT h
  repeat refine gs1 ?_
  refine AW.drawZ (J0 := St ⟨w, hp w, []⟩ (hp w) [.blk b3 59 (exC ⟨k, n, o, q, ks⟩ v)]) [.q, .q, .q, .q, .q, .q, .q, .q, .q, .q, .q, .q, .q, .q] [0, 1, 2, 3, 4, 5, 6, 7, 8, 9, 10, 11, 12, 13] hmix (by kernel_rfl) ?_
  repeat refine gs1 ?_
  refine DW.g (b := decide (o < 0)) (v := pB xb) (fun _ h => h) rfl rfl rfl (fun h => qa_nc (gv_pos h)) (DW.g (b := decide (o < 0)) (v := .pointer (some ⟨xb, 2, none⟩)) (fun _ h => h) rfl rfl rfl (fun h => qa_fa0 (gv_pos h)) (DW.g (b := decide (o < 0)) (v := .pointer (some ⟨xb, 2 + 5, none⟩)) (fun _ h => h) rfl rfl rfl (fun h => qa_fab (p := 2) (gv_pos h)) (DW.g (b := decide (o < 0)) (v := y.fc.cre) (fun _ h => h) rfl rfl rfl (fun h => qa_ld (gv_pos h) (Cell.phi pcre)) (DW.g (b := decide (o < 0)) (v := iV (f.Crest.length : Int)) (fun _ h => h) rfl rfl rfl (fun h => q_len_sl (gv_pos h) scre uT29) ?_))))
  repeat refine gs1 ?_
  refine DW.q (v := .bool (decide (o < 0) || decide ((f.Crest.length : Int) ≤ o))) (fun _ h => h) rfl (qpO rfl rfl rfl) ?_
  repeat refine gs1 ?_
  refine AW.cond rfl (fun hi => ?_) fun hi => ?_
  ·
   have hi : o < 0 ∨ (f.Crest.length : Int) ≤ o := by simpa using hi
   repeat refine gs1 ?_
   exact fin_res (vs := [iV (-1)]) rfl rfl ⟨.tmp rfl, trivial⟩ rfl (fun w' hw => ⟨by unfold Mn.factV; rw [if_neg n0, if_neg n1, if_neg n2, if_neg n3, if_neg n4, if_neg n5, if_neg n6, if_pos h, if_pos hi]; rfl, hw.below rfl⟩)
  have hi : ¬ (o < 0 ∨ (f.Crest.length : Int) ≤ o) := by simpa using hi
  have a0 := n0
  have a1 := n1
  have a2 := n2
  have a3 := n3
  have a4 := n4
  have a5 := n5
  have a6 := n6
  have ah := h
  obtain ⟨m, rfl⟩ : ∃ m : Nat, o = m := ⟨o.toNat, by omega⟩
  have hm : m < f.Crest.length := by omega
  have pe := RepSl.gi hf.cre hm
  repeat refine gs1 ?_
  refine AW.drawZ (J0 := St ⟨w, hp w, []⟩ (hp w) [.blk b3 59 (exC ⟨k, n, (m : Int), q, ks⟩ v)]) [.q, .q, .q, .q, .q, .q, .q, .q, .q, .q] [0, 1, 2, 3, 4, 5, 6, 7, 8, 9] hmix (by kernel_rfl) ?_
  repeat refine gs1 ?_
  exact fin_res (vs := [iV (f.Crest.getD m 0)]) rfl rfl ⟨.tmp rfl, trivial⟩ rfl (fun w' hw => ⟨by unfold Mn.factV; rw [if_neg a0, if_neg a1, if_neg a2, if_neg a3, if_neg a4, if_neg a5, if_neg a6, if_pos ah, if_neg hi, Int.toNat_natCast]; rfl, hw.below rfl⟩)
 have n7 : n ≠ 7 := odF n7
 repeat refine gs1 ?_
 repeat refine gs1 ?_
 exact fin_res (vs := [iV (0)]) rfl rfl ⟨.tmp rfl, trivial⟩ rfl (fun w' hw => ⟨by unfold Mn.factV; rw [if_neg n0, if_neg n1, if_neg n2, if_neg n3, if_neg n4, if_neg n5, if_neg n6, if_neg n7]; rfl, hw.below rfl⟩)
abbrev stR (w : World) (Φ : Hp) (x : Nat) (y : RnV) (u c : Int) : Ending → World → Prop := OwnK w Φ [rB x y u c] (if 10000 ≤ u then (.error (14, u) : Except (Int × Int) Int) else .ok (u + 1)) (fun _ (_ : Unit) => .tuple #[]) (fun u' _ => [rB x y u' c]) fE fun er CE => ∃ c', CE = [rB x y er.2 c']
theorem step_c (w : World) {Φ : Hp} {x : Nat} {y : RnV} {u c : Int} (hu : 0 ≤ u) (h0 : StP ⟨w, Φ, fps [rB x y u c]⟩ Φ [rB x y u c] w) : Calls pg 52 #[pB x] w (stR w Φ x y u c) := by
 refine calls_of_AW (args := [pB x]) Tryz.func52 rfl (lBT rfl) (St ⟨w, Φ, fps [rB x y u c]⟩ Φ [rB x y u c]) h0 ?_
 show AW _ _ [] _ _ _ [(0, pB x)] _
 repeat refine gs1 ?_
 refine AW.cond rfl (fun h => ?_) fun h => ?_
 ·
  have h : 10000 ≤ u := odT h
  repeat refine gs1 ?_
  refine RW.q (v := .agg #[iV 14]) rfl (q_build (vals := [(0, iV 14)]) zero125 uT125 places125 rfl rfl) ?_
  repeat refine gs1 ?_
  exact RW.pan rfl (fun w' hw => .inr ⟨(14, u), _, if_pos h, rfl, ⟨c, rfl⟩, hw⟩)
 ·
  have h : ¬ 10000 ≤ u := odF h
  repeat refine gs1 ?_
  exact fin_none (J' := St ⟨w, Φ, fps [rB x y u c]⟩ Φ [rB x y (u + 1) c]) rfl rfl (fun _ h => h) (fun w1 hw1 => .inl ⟨u + 1, (), if_neg h, rfl, hw1⟩)
end Go.Proofs.YtjmeeofdffdpnaaGreatDoor
namespace Go.Proofs.YtjmeeofdffdpnaaGreatDoor
open Go Go.K Go.RowKit
open Ru (pB BasV)
attribute [local irreducible] AW RW DW Post Qt
structure MnV where
  b : BasV
  o2 : Value
  f2 : Value
  t2 : Value
  fc : FcV
  hr : Int
  d : Mn.Dt
  tv : Value
  sv : Value
abbrev MnV.cs (y : MnV) (pc : Nat) (ks kc : Value) (u fa : Int) (en : Bool) : List Value := [.string (bs y.b.nm), y.b.ov, .int .i64 y.b.ce, y.b.pv, y.b.lv, y.b.tv, y.b.gv, y.b.rv, y.b.sv, y.b.mv, .int .i64 y.b.er, y.o2, y.f2, y.t2, y.fc.vol, y.fc.lev, y.fc.own, y.fc.pos, .int .i64 y.hr, y.fc.cre, .int .i64 y.d.1, .int .i64 y.d.2.1, .int .i64 y.d.2.2.1, .int .i64 y.d.2.2.2, .int .i64 (pc : Int), ks, kc, .int .i64 u, y.tv, y.sv, .int .i64 fa, .bool en]
abbrev mB (x : Nat) (y : MnV) (pc : Nat) (ks kc : Value) (u fa : Int) (en : Bool) : Chunk := .blk x 91 (y.cs pc ks kc u fa en)
abbrev sR (ks : Value) (S : List Int) : Chunk := .row ks 3 1 S.length (S.map (Value.int .i64))
variable {x pc : Nat} {y : MnV} {ks kc : Value} {u fa : Int} {en : Bool} {S : List Int}
theorem sR_snoc {v : Int} : sR ks (S ++ [v]) = .row ks 3 1 (S.length + 1) (S.map (Value.int .i64) ++ [.int .i64 v]) := by
  unfold sR; rw [List.map_append, List.length_append]; rfl
theorem mpush_c (w : World) {Φ : Hp} (v : Int) (hb : S.length ≤ 1000000000) (h0 : StP ⟨w, Φ, fps [mB x y pc ks kc u fa en, sR ks S]⟩ Φ [mB x y pc ks kc u fa en, sR ks S] w) :
    Calls pg 130 #[pB x, .int .i64 v] w (OwnU w Φ [mB x y pc ks kc u fa en, sR ks S] (fun _ : Value => .tuple #[]) fun z => [mB x y pc z kc u fa en, sR z (S ++ [v])]) := by
  refine calls_of_AW (args := [pB x, .int .i64 v]) Tryz.func130 rfl (lBT rfl) (St ⟨w, Φ, fps [mB x y pc ks kc u fa en, sR ks S]⟩ Φ [mB x y pc ks kc u fa en, sR ks S]) h0 ?_
  show AW _ _ [] _ _ _ [(0, pB x), (1, .int .i64 v)] _
  generalize hE : fps [mB x y pc ks kc u fa en, sR ks S] = E
  repeat refine gs1 ?_
  refine RW.eff _ _ rfl (e_buildSlice (vals := [(0, .int .i64 v)]) (cells := [.int .i64 v]) Tryz.underlying29 inf3 rfl rfl rfl (by kernel_rfl) rfl) fun b10 => ?_
  refine RW.eff (fun xv : {vq : Value // IsSl vq (S.length + 1)} => xv.1) (fun xv => St ⟨w, Φ, E⟩ Φ [.row (.slice (some ⟨b10, 0, none⟩) 1 1) 3 1 1 [.int .i64 v], mB x y pc ks kc u fa en, .row xv.1 3 1 (S.length + 1) (S.map (Value.int .i64) ++ [.int .i64 v])]) rfl (e_append 2 rfl rfl rfl Tryz.underlying29 inf3 rfl rfl rfl (Cells.row0 0 rfl) rfl (by omega) (by omega) (fun _ => rfl)) ?_
  rintro ⟨z, hz⟩
  simp only
  repeat refine gs1 ?_
  refine RW.effn (J' := St ⟨w, Φ, E⟩ Φ [.row (.slice (some ⟨b10, 0, none⟩) 1 1) 3 1 1 [.int .i64 v], mB x y pc z kc u fa en, .row z 3 1 (S.length + 1) (S.map (Value.int .i64) ++ [.int .i64 v])]) (e_storeSl (v := z) 1 rfl rfl rfl hz sz29 rfl rfl rfl) ?_
  repeat refine gs1 ?_
  exact fin_none (J' := St ⟨w, Φ, E⟩ Φ [.row (.slice (some ⟨b10, 0, none⟩) 1 1) 3 1 1 [.int .i64 v], mB x y pc z kc u fa en, .row z 3 1 (S.length + 1) (S.map (Value.int .i64) ++ [.int .i64 v])]) rfl rfl (fun _ h => h) (fun w1 hw1 => ⟨z, rfl, by
    subst hE
    show StP _ Φ [mB x y pc z kc u fa en, sR z (S ++ [v])] w1
    rw [sR_snoc]
    exact StP.sel hw1 [1, 2] (by decide) rfl⟩)
theorem mpop_c (w : World) {Φ : Hp} {v : Int} (hb : S.length ≤ 1000000000) (h0 : StP ⟨w, Φ, fps [mB x y pc ks kc u fa en, sR ks (S ++ [v])]⟩ Φ [mB x y pc ks kc u fa en, sR ks (S ++ [v])] w) :
    Calls pg 132 #[pB x] w (OwnU w Φ [mB x y pc ks kc u fa en, sR ks (S ++ [v])] (fun _ : Value => .int .i64 v) fun z => [mB x y pc z kc u fa en, sR z S]) := by
  have hsl : IsSl ks (S.length + 1) := by
    have : RowS (hp w) ks 3 1 (S ++ [v]).length _ := h0.sat (sR ks (S ++ [v])) (by simp)
    simpa using this.isSl
  refine calls_of_AW (args := [pB x]) Tryz.func132 rfl (lBT rfl) (St ⟨w, Φ, fps [mB x y pc ks kc u fa en, sR ks (S ++ [v])]⟩ Φ [mB x y pc ks kc u fa en, sR ks (S ++ [v])]) h0 ?_
  show AW _ _ [] _ _ _ [(0, pB x)] _
  generalize hE : fps [mB x y pc ks kc u fa en, sR ks (S ++ [v])] = E
  rw [sR_snoc]
  repeat refine gs1 ?_
  refine AW.drawZ (J0 := St ⟨w, Φ, E⟩ Φ [mB x y pc ks kc u fa en, .row ks 3 1 (S.length + 1) (S.map (Value.int .i64) ++ [.int .i64 v])]) [.q, .q, .q, .q, .q, .q, .q, .q, .q, .q, .q, .q, .q] [0, 1, 2, 3, 4, 5, 6, 7, 8, 9, 10, 11, 12] hmix (by kernel_rfl) ?_
  repeat refine gs1 ?_
  refine DW.q (fun _ h => h) rfl (qa_ixN (n := S.length + 1) (i := S.length) rfl (by show Value.int .i64 (((S.length + 1 : Nat) : Int) - 1) = _; congr 1; omega) hsl (by omega)) ?_
  refine DW.q (v := .int .i64 v) (fun _ h => h) rfl (qa_ld rfl (Cell.row 1 rfl (by rw [Nat.mul_one, List.getElem?_append_right (by simp)]; simp))) ?_
  repeat refine gs1 ?_
  refine AW.drawZ (J0 := St ⟨w, Φ, E⟩ Φ [mB x y pc ks kc u fa en, .row ks 3 1 (S.length + 1) (S.map (Value.int .i64) ++ [.int .i64 v])]) [.q, .q, .q, .q, .q, .q, .q, .q, .q, .q, .q, .q, .q, .q, .e] [0, 1, 2, 3, 4, 5, 6, 7, 8, 9, 10, 11, 12, 13, 14] hmix (by kernel_rfl) ?_
  repeat refine gs1 ?_
  refine DW.q (v := subSl ks 0 S.length 1) (fun _ h => h) rfl (q_sliceH (m := ((S.length : Nat) : Int)) rfl (by show Value.int .i64 (((S.length + 1 : Nat) : Int) - 1) = _; congr 1; omega) hsl Tryz.underlying29 (by kernel_rfl) (by omega) (by omega)) ?_
  repeat refine gs1 ?_
  refine DW.effn (J' := St ⟨w, Φ, E⟩ Φ [mB x y pc (subSl ks 0 S.length 1) kc u fa en, .row ks 3 1 (S.length + 1) (S.map (Value.int .i64) ++ [.int .i64 v])]) (fun h => absurd rfl h) (e_storeSl (v := subSl ks 0 S.length 1) (m := S.length) 0 rfl rfl rfl (by have := isSl_sub (l := 0) (s := 1) hsl (Nat.zero_le S.length) (by omega); rwa [Nat.sub_zero] at this) sz29 rfl rfl rfl) ?_
  repeat refine gs1 ?_
  exact fin_res (vs := [.int .i64 v]) rfl rfl ⟨.tmp rfl, trivial⟩ rfl (fun w1 hw1 => ⟨subSl ks 0 S.length 1, rfl, by
    subst hE
    have hw2 : StP _ Φ [.row ks 3 1 (S.length + 1) (S.map (Value.int .i64) ++ [.int .i64 v]), mB x y pc (subSl ks 0 S.length 1) kc u fa en] w1 := StP.sel hw1 [1, 0] (by decide) rfl
    have := StP.rowTake (k := S.length) hw2 (by omega)
    rw [Nat.mul_one, List.take_left' (by simp)] at this
    exact StP.sel this [1, 0] (by decide) rfl⟩)
theorem mstop_c (w : World) {Φ : Hp} (k : Int) (h0 : StP ⟨w, Φ, fps [mB x y pc ks kc u fa en]⟩ Φ [mB x y pc ks kc u fa en] w) :
    Calls pg 134 #[pB x, .int .i64 k] w (OwnU w Φ [mB x y pc ks kc u fa en] (fun _ : Unit => .tuple #[]) fun _ => [mB x y pc ks kc u k true]) := by
  refine calls_of_AW (args := [pB x, .int .i64 k]) Tryz.func134 rfl (lBT rfl) (St ⟨w, Φ, fps [mB x y pc ks kc u fa en]⟩ Φ [mB x y pc ks kc u fa en]) h0 ?_
  show AW _ _ [] _ _ _ [(0, pB x), (1, .int .i64 k)] _
  repeat refine gs1 ?_
  exact fin_none (J' := St ⟨w, Φ, fps [mB x y pc ks kc u fa en]⟩ Φ [mB x y pc ks kc u k true]) rfl rfl (fun _ h => h) (fun w1 hw1 => ⟨(), rfl, hw1⟩)
abbrev mS (x : Nat) (y : MnV) (pc : Nat) (ks kc : Value) (u fa : Int) (en : Bool) : List Chunk := [if 10000 ≤ u then mB x y pc ks kc u 14 true else mB x y pc ks kc (u + 1) fa en]
theorem mstep_c (w : World) {Φ : Hp} (hu : 0 ≤ u ∧ u ≤ 10000) (h0 : StP ⟨w, Φ, fps [mB x y pc ks kc u fa en]⟩ Φ [mB x y pc ks kc u fa en] w) :
    Calls pg 135 #[pB x] w (OwnU w Φ [mB x y pc ks kc u fa en] (fun _ : Unit => .bool (!decide (10000 ≤ u))) fun _ => mS x y pc ks kc u fa en) := by
  refine calls_of_AW (args := [pB x]) Tryz.func135 rfl (lBT rfl) (St ⟨w, Φ, fps [mB x y pc ks kc u fa en]⟩ Φ [mB x y pc ks kc u fa en]) h0 ?_
  show AW _ _ [] _ _ _ [(0, pB x)] _
  repeat refine gs1 ?_
  refine AW.cond rfl (fun h => ?_) fun h => ?_
  · have h : 10000 ≤ u := odT h
    repeat refine gs1 ?_
    refine RW.ownU (args := #[pB x, .int .i64 14]) (C2 := []) [0] (by decide) rfl rfl oK rfl rfl (fun w1 hw1 => mstop_c w1 14 hw1) fun _ => ?_
    repeat refine gs1 ?_
    exact fin_res (vs := [.bool false]) rfl rfl ⟨.tmp rfl, trivial⟩ rfl (fun w1 hw1 => ⟨(), by rw [decide_eq_true h]; rfl, by unfold mS; rw [if_pos h]; exact hw1⟩)
  · have h : ¬ 10000 ≤ u := odF h
    repeat refine gs1 ?_
    exact fin_res (vs := [.bool true]) rfl rfl ⟨.tmp rfl, trivial⟩ rfl (fun w1 hw1 => ⟨(), by rw [decide_eq_false h]; rfl, by unfold mS; rw [if_neg h]; exact hw1⟩)
def atO (l : List Int) (i o : Int) : Int := if i < 0 ∨ (l.length : Int) ≤ i then o else l.getD i.toNat 0
theorem vat_c (w : World) {xs : List Int} {v1 : Value} {i o : Int} (h1 : RepSl (hp w) xs v1) : Calls pg 131 #[v1, .int .i64 i, .int .i64 o] w fun e w' => e = .returned (.int .i64 (atO xs i o)) ∧ Bel w.heap.size w w' := by
  refine calls_of_AW (args := [v1, .int .i64 i, .int .i64 o]) Tryz.func131 rfl (lBT rfl) (St ⟨w, hp w, []⟩ (hp w) []) (StP.init w (hp w) (Hp.le_refl _) []) ?_
  show AW _ _ [] _ _ _ [(0, v1), (1, .int .i64 i), (2, .int .i64 o)] _
  have hsl := h1.sl
  repeat refine gs1 ?_
  refine RW.g (b := decide (i < 0)) (v := .int .i64 ((xs.length : Nat) : Int)) rfl rfl rfl (fun h => q_len_sl (gv_pos h) hsl Tryz.underlying29) ?_
  repeat refine gs1 ?_
  refine RW.q (v := .bool (decide (i < 0) || decide ((xs.length : Int) ≤ i))) rfl (qpO rfl rfl rfl) ?_
  repeat refine gs1 ?_
  refine AW.cond rfl (fun h => ?_) fun h => ?_
  · have h : i < 0 ∨ (xs.length : Int) ≤ i := by simpa using h
    repeat refine gs1 ?_
    exact fin_res (vs := [.int .i64 o]) rfl rfl ⟨.tmp rfl, trivial⟩ rfl (fun w' hw => ⟨by unfold atO; rw [if_pos h]; rfl, hw.below rfl⟩)
  · have h : ¬ (i < 0 ∨ (xs.length : Int) ≤ i) := by simpa using h
    obtain ⟨n, rfl⟩ : ∃ n : Nat, i = n := ⟨i.toNat, by omega⟩
    have hn : n < xs.length := by omega
    have pe : PCell (hp w) (Value.at v1 (n * 1)) (.int .i64 (xs.getD n 0)) := by
      have := (h1.int hn).1
      rw [Nat.mul_one, gDD, List.getElem?_eq_getElem hn]; exact this
    repeat refine gs1 ?_
    exact fin_res (vs := [.int .i64 (xs.getD n 0)]) rfl rfl ⟨.tmp rfl, trivial⟩ rfl (fun w' hw => ⟨by unfold atO; rw [if_neg h, Int.toNat_natCast]; rfl, hw.below rfl⟩)
theorem vtruth_c (w : World) (t : Bool) : Calls pg 166 #[.bool t] w fun e w' => e = .returned (.int .i64 (if t then 1 else 0)) ∧ Bel w.heap.size w w' := by
  refine calls_of_AW (args := [.bool t]) Tryz.func166 rfl (lBT rfl) (St ⟨w, hp w, []⟩ (hp w) []) (StP.init w (hp w) (Hp.le_refl _) []) ?_
  show AW _ _ [] _ _ _ [(0, .bool t)] _
  repeat refine gs1 ?_
  refine AW.cond rfl (fun h => ?_) fun h => ?_
  · repeat refine gs1 ?_
    exact fin_res (vs := [.int .i64 1]) rfl rfl ⟨.tmp rfl, trivial⟩ rfl (fun w' hw => ⟨by rw [h]; rfl, hw.below rfl⟩)
  · repeat refine gs1 ?_
    exact fin_res (vs := [.int .i64 0]) rfl rfl ⟨.tmp rfl, trivial⟩ rfl (fun w' hw => ⟨by rw [h]; rfl, hw.below rfl⟩)
theorem prod_words {a b : Int} (ha : I64 a) (hb : I64 b) {m hi lo : Nat} (hm : (a % 18446744073709551616).toNat * (b % 18446744073709551616).toNat = m) (hh : m / 18446744073709551616 = hi) (hl : m % 18446744073709551616 = lo) :
    ∃ q : Int, a * b = q * 18446744073709551616 + lo ∧ ((hi : Int) - (if a < 0 then b % 18446744073709551616 else 0) - (if b < 0 then a % 18446744073709551616 else 0)) % 18446744073709551616 = q % 18446744073709551616 := by
  unfold I64 at ha hb
  have ea : ((a % 18446744073709551616).toNat : Int) = a + (if a < 0 then 18446744073709551616 else 0) := by split <;> omega
  have eb : ((b % 18446744073709551616).toNat : Int) = b + (if b < 0 then 18446744073709551616 else 0) := by split <;> omega
  have hm2 : (m : Int) = a * b + (if b < 0 then 18446744073709551616 else 0) * a + (if a < 0 then 18446744073709551616 else 0) * b + (if a < 0 then 18446744073709551616 else 0) * (if b < 0 then 18446744073709551616 else 0) := by
    rw [← hm, Int.natCast_mul, ea, eb, Int.add_mul, Int.mul_add, Int.mul_add, Int.mul_comm a (if b < 0 then _ else _)]; omega
  have hdm := Nat.div_add_mod m 18446744073709551616
  rw [hh, hl] at hdm
  generalize hP : a * b = p at hm2 ⊢
  by_cases h1 : a < 0 <;> by_cases h2 : b < 0 <;> simp only [h1, h2, if_true, if_false, Int.zero_mul, Int.add_zero, Int.mul_zero] at hm2 ⊢
  · exact ⟨(hi : Int) - a - b - 18446744073709551616, by omega, by omega⟩
  · exact ⟨(hi : Int) - b, by omega, by omega⟩
  · exact ⟨(hi : Int) - a, by omega, by omega⟩
  · exact ⟨(hi : Int), by omega, by omega⟩
end Go.Proofs.YtjmeeofdffdpnaaGreatDoor
namespace Go.Proofs.YtjmeeofdffdpnaaGreatDoor
open Go Go.K Go.RowKit
attribute [local irreducible] AW RW DW DT Post Qt
theorem _root_.Go.K.AW.mid {P : Program} {N : Nat} {D : List Deferred} {Q : Exit → Act → World → Prop} {f : Nat → Value} {s : List (Nat × Value)} {J : Cls} {x : Code} (I : List (Nat × Value) → Cls → Prop) (h : AW P N D x (Mid N D I Q) f s J) (k : ∀ f' s' J', I s' J' → Post N D Q .normal f' s' J') : AW P N D x Q f s J := by
  unfold AW at *
  exact fun a w ha hw => Code.wp_mono (fun e a' w' hQ => by
    cases e with
    | normal =>
      obtain ⟨f', s', J', hI, hr, hp⟩ := hQ
      have hk := k f' s' J' hI
      unfold Post at hk
      exact hk a' w' hr hp
    | _ => exact hQ) (h a w ha hw)
theorem pos1 : (∀ x ∈ ([1048576, 2] : List Int), I64 x) := fun x hx => by
  simp only [List.mem_cons, List.not_mem_nil, or_false] at hx
  rcases hx with rfl | rfl <;> (unfold I64; omega)
end Go.Proofs.YtjmeeofdffdpnaaGreatDoor
