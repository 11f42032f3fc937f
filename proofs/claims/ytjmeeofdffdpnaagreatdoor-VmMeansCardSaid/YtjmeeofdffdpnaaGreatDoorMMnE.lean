/- Lemmas. Conditions: those of each theorem. -/
import Derived.Test.YtjmeeofdffdpnaaGreatDoorMMidA
set_option maxRecDepth 8000
set_option maxHeartbeats 16000000
namespace Go.K
open Go Go.RowKit
section
variable {P : Program} {J : Cls} {f : Nat → Value} {s : List (Nat × Value)} {dst : Option Nat} {ty : TypeId} {pos : String} {af : Array Edge} {g : Option (Nat × Bool)} {t t' : TypeId} {x y : Operand}
theorem q_subZ {a b r : Int} {k : IntKind} (hx : ev (fr f s) x = .int k a) (hy : ev (fr f s) y = .int k b) (hr : k.wrap (a - b) = r) : Qt P J f s ⟨dst, .binOp .sub t x y t', ty, pos, af, g⟩ (.int k r) := by
  subst hr
  exact q_arith hx hy (by simp only [Op.intArith]) rfl
theorem q_sar63 {a r : Int} {k : IntKind} (hx : ev (fr f s) x = .int .i64 a) (hy : ev (fr f s) y = .int k ((63 : Nat) : Int)) (hr : a.fdiv (2 ^ 63) = r) : Qt P J f s ⟨dst, .binOp .shr t x y t', ty, pos, af, g⟩ (.int .i64 r) := qt_val fun w _ => by
  have e : Op.shift .shr .i64 a k ((63 : Nat) : Int) = pure (.int .i64 r) := by
    unfold Op.shift
    rw [if_neg (by omega)]
    simp only [Int.toNat_natCast, show IntKind.i64.bits = 64 from rfl, Nat.min_eq_left (show 63 ≤ 64 by omega), hr]
  have e0 : (eqGuard .shr t x y (.int .i64 a) (.int k ((63 : Nat) : Int))).run P w = .ok () w := by simp [eqGuard]
  simp only [execOp, hx, hy, Sem.run_bind, e0, Result.andThen_ok, binOp, e, Sem.run_pure]
end
end Go.K
namespace Go.Proofs.YtjmeeofdffdpnaaGreatDoor
open Go Go.K Go.RowKit
attribute [local irreducible] AW RW DW Post Qt
abbrev xK (X : Bt.Expr) (i : Nat) (A : Option Addr) (c : Nat) : List Value := exC (Mn.kid X i) (.slice A (Mn.kid X i).Kids.length c)
theorem mul_rng {a b : Int} (ha : I64 a) (hb : I64 b) : -85070591730234615865843651857942052864 ≤ a * b ∧ a * b ≤ 85070591730234615865843651857942052864 := by
  unfold I64 at ha hb
  have h1 : (a * b).natAbs ≤ 9223372036854775808 * 9223372036854775808 := by rw [Int.natAbs_mul]; exact Nat.mul_le_mul (by omega) (by omega)
  omega
theorem vproduct_c (w : World) {a b : Int} (ha : I64 a) (hb : I64 b) : Calls pg 165 #[.int .i64 a, .int .i64 b] w fun e w' => e = .returned (.int .i64 (Mn.lim (a * b))) ∧ Bel w.heap.size w w' := by
  refine calls_of_AW (args := [.int .i64 a, .int .i64 b]) Tryz.func165 rfl (lBT rfl) (St ⟨w, hp w, []⟩ (hp w) []) (StP.init w (hp w) (Hp.le_refl _) []) ?_
  show AW _ _ [] _ _ _ [(0, .int .i64 a), (1, .int .i64 b)] _
  have ha0 := ha
  have hb0 := hb
  have hmr := mul_rng ha hb
  unfold I64 at ha0 hb0
  generalize hA : (a % 18446744073709551616).toNat = A
  generalize hB : (b % 18446744073709551616).toNat = B
  have eA : (a % 18446744073709551616) = (A : Int) := by omega
  have eB : (b % 18446744073709551616) = (B : Int) := by omega
  repeat refine gs1 ?_
  refine RW.q (v := .int .u64 (A : Int)) rfl (q_cvt rfl Tryz.underlying3 Tryz.underlying234 (by rw [IntKind.wrap_u64]; omega)) ?_
  repeat refine gs1 ?_
  refine RW.q (v := .int .u64 (B : Int)) rfl (q_cvt rfl Tryz.underlying3 Tryz.underlying234 (by rw [IntKind.wrap_u64]; omega)) ?_
  refine RW.q rfl (q_call (args := #[.int .u64 (A : Int), .int .u64 (B : Int)]) oK rfl rfl (fun w1 hw1 => Mul64_c w1 (hp w1) (Hp.le_refl _) (by omega) (by omega))) ?_
  repeat refine gs1 ?_
  generalize hm : A * B = m
  generalize hh : m / 18446744073709551616 = hi
  generalize hlo : m % 18446744073709551616 = lo
  obtain ⟨q, hq, hqm⟩ := prod_words ha hb (by rw [hA, hB]; exact hm) hh hlo
  have hlr : lo < 18446744073709551616 := by rw [← hlo]; exact Nat.mod_lt _ (by omega)
  generalize hP : a * b = p at hq hmr
  obtain ⟨h1, e1⟩ : ∃ h1, h1 = ((hi : Int) - (if a < 0 then b % 18446744073709551616 else 0)) % 18446744073709551616 := ⟨_, rfl⟩
  obtain ⟨h2, e2⟩ : ∃ h2, h2 = (h1 - (if b < 0 then a % 18446744073709551616 else 0)) % 18446744073709551616 := ⟨_, rfl⟩
  have hhi : hi < 18446744073709551616 := by
    have h3 : m < 18446744073709551616 * 18446744073709551616 := by
      rw [← hm]; exact Nat.mul_lt_mul'' (by omega) (by omega)
    rw [← hh]; omega
  have h2q : h2 = q % 18446744073709551616 := by rw [e2, e1, ← hqm]; omega
  have hqr : -4611686018427387905 ≤ q ∧ q ≤ 4611686018427387905 := by omega
  refine AW.mid (fun s J => s = [(0, .int .i64 a), (1, .int .i64 b), (5, .int .u64 h1), (6, .int .u64 (lo : Int))] ∧ J = St ⟨w, hp w, []⟩ (hp w) []) ?_ ?_
  · refine AW.cond rfl (fun c => ?_) fun c => ?_
    · have c : a < 0 := odT c
      rw [if_pos c] at e1
      repeat refine gs1 ?_
      refine RW.q (v := .int .u64 (B : Int)) rfl (q_cvt rfl Tryz.underlying3 Tryz.underlying234 (by rw [IntKind.wrap_u64]; omega)) ?_
      refine RW.q (v := .int .u64 h1) rfl (q_subZ rfl rfl (by rw [IntKind.wrap_u64, e1, eB])) ?_
      repeat refine gs1 ?_
      exact Post.mid_n (s' := _) (J' := _) ⟨rfl, rfl⟩ ⟨rfl, rfl, rfl, rfl, trivial⟩ (fun _ h => h)
    · have c : ¬ a < 0 := odF c
      rw [if_neg c] at e1
      repeat refine gs1 ?_
      exact Post.mid_n (s' := _) (J' := _) ⟨rfl, rfl⟩ ⟨rfl, rfl, (by show Value.int .u64 (hi : Int) = _; congr 1; omega), rfl, trivial⟩ (fun _ h => h)
  rintro f1 _ _ ⟨rfl, rfl⟩
  repeat refine gs1 ?_
  refine AW.mid (fun s J => s = [(0, .int .i64 a), (1, .int .i64 b), (5, .int .u64 h2), (6, .int .u64 (lo : Int))] ∧ J = St ⟨w, hp w, []⟩ (hp w) []) ?_ ?_
  · refine AW.cond rfl (fun c => ?_) fun c => ?_
    · have c : b < 0 := odT c
      rw [if_pos c] at e2
      repeat refine gs1 ?_
      refine RW.q (v := .int .u64 (A : Int)) rfl (q_cvt rfl Tryz.underlying3 Tryz.underlying234 (by rw [IntKind.wrap_u64]; omega)) ?_
      refine RW.q (v := .int .u64 h2) rfl (q_subZ rfl rfl (by rw [IntKind.wrap_u64, e2, eA])) ?_
      repeat refine gs1 ?_
      exact Post.mid_n (s' := _) (J' := _) ⟨rfl, rfl⟩ ⟨rfl, rfl, rfl, rfl, trivial⟩ (fun _ h => h)
    · have c : ¬ b < 0 := odF c
      rw [if_neg c] at e2
      repeat refine gs1 ?_
      exact Post.mid_n (s' := _) (J' := _) ⟨rfl, rfl⟩ ⟨rfl, rfl, (by show Value.int .u64 h1 = _; congr 1; omega), rfl, trivial⟩ (fun _ h => h)
  rintro f2 _ _ ⟨rfl, rfl⟩
  obtain ⟨L, eL⟩ : ∃ L : Int, L = if (9223372036854775808 : Int) ≤ lo then (lo : Int) - 18446744073709551616 else lo := ⟨_, rfl⟩
  have hLr : -9223372036854775808 ≤ L ∧ L ≤ 9223372036854775807 := by split at eL <;> omega
  repeat refine gs1 ?_
  refine RW.q (v := .int .i64 q) rfl (q_cvt rfl Tryz.underlying234 Tryz.underlying3 (by rw [wrap_i64, h2q]; split <;> omega)) ?_
  repeat refine gs1 ?_
  refine RW.q (v := .int .i64 L) rfl (q_cvt rfl Tryz.underlying234 Tryz.underlying3 (by clear hq hqm e1 e2 h2q hqr hmr; rw [wrap_i64, eL]; split <;> split <;> omega)) ?_
  refine RW.q (v := .int .i64 (if L < 0 then -1 else 0)) rfl (q_sar63 rfl rfl (by rw [Int.fdiv_eq_ediv_of_nonneg _ (by decide)]; split <;> omega)) ?_
  repeat refine gs1 ?_
  refine AW.cond rfl (fun c => ?_) fun c => ?_
  · have c : q = if L < 0 then -1 else 0 := odT c
    repeat refine gs1 ?_
    refine RW.q (v := .int .i64 L) rfl (q_cvt rfl Tryz.underlying234 Tryz.underlying3 (by clear hq hqm e1 e2 h2q hqr hmr; rw [wrap_i64, eL]; split <;> split <;> omega)) ?_
    repeat refine gs1 ?_
    have hL : Mn.lim p = L := by
      have hpl : p = L := by split at c <;> split at eL <;> omega
      unfold Mn.lim Mn.mn Mn.mx
      rw [if_neg (by omega), if_neg (by omega)]
      exact hpl
    exact fin_res (vs := [.int .i64 L]) rfl rfl ⟨.tmp rfl, trivial⟩ rfl (fun w' hw => ⟨by rw [hL]; rfl, hw.below rfl⟩)
  have c : ¬ q = if L < 0 then -1 else 0 := odF c
  repeat refine gs1 ?_
  refine RW.q (v := .bool (!(decide (a < 0) == decide (b < 0)))) rfl (q_neqB rfl rfl Tryz.underlying4) ?_
  repeat refine gs1 ?_
  refine AW.cond rfl (fun h => ?_) fun h => ?_
  · have h : decide (a < 0) ≠ decide (b < 0) := by simpa using h
    have hp1 := abs_neg h
    rw [hP] at hp1
    repeat refine gs1 ?_
    exact fin_res (vs := [.int .i64 (-9223372036854775808)]) rfl rfl ⟨.tmp rfl, trivial⟩ rfl (fun w' hw => ⟨by unfold Mn.lim Mn.mn Mn.mx; rw [if_pos (by split at c <;> split at eL <;> omega)]; rfl, hw.below rfl⟩)
  · have h : decide (a < 0) = decide (b < 0) := by simpa using h
    have hp1 := abs_pos h
    rw [hP] at hp1
    repeat refine gs1 ?_
    exact fin_res (vs := [.int .i64 9223372036854775807]) rfl rfl ⟨.tmp rfl, trivial⟩ rfl (fun w' hw => ⟨by unfold Mn.lim Mn.mn Mn.mx; rw [if_neg (by split at c <;> split at eL <;> omega), if_pos (by split at c <;> split at eL <;> omega)]; rfl, hw.below rfl⟩)
def op2T (k x y : Int) : Int := if k = 5 then Mn.lim (x + y) else if k = 6 then Mn.lim (x - y) else if k = 7 then Mn.lim (x * y) else if k = 9 then (if x < y then 1 else 0) else if k = 10 then (if x ≤ y then 1 else 0) else if x = y then 1 else 0
theorem voperate_c (w : World) {k x y : Int} (hx : I64 x) (hy : I64 y) : Calls pg 133 #[.int .i64 k, .int .i64 x, .int .i64 y] w fun e w' => e = .returned (.int .i64 (op2T k x y)) ∧ Bel w.heap.size w w' := by
  refine calls_of_AW (args := [.int .i64 k, .int .i64 x, .int .i64 y]) Tryz.func133 rfl (lBT rfl) (St ⟨w, hp w, []⟩ (hp w) []) (StP.init w (hp w) (Hp.le_refl _) []) ?_
  show AW _ _ [] _ _ _ [(0, .int .i64 k), (1, .int .i64 x), (2, .int .i64 y)] _
  repeat refine gs1 ?_
  refine AW.cond rfl (fun h => ?_) fun h4 => ?_
  · have h : k = 5 := odT h
    repeat refine gs1 ?_
    refine RW.q rfl (q_call (args := #[.int .i64 x, .int .i64 y]) oK rfl rfl (fun w1 hw1 => Add_c w1 (hp w1) (Hp.le_refl _) hx hy)) ?_
    repeat refine gs1 ?_
    exact fin_res (vs := [.int .i64 (Mn.lim (x + y))]) rfl rfl ⟨.tmp rfl, trivial⟩ rfl (fun w' hw => ⟨by unfold op2T; rw [if_pos h]; rfl, hw.below rfl⟩)
  have h4 : k ≠ 5 := odF h4
  repeat refine gs1 ?_
  refine AW.cond rfl (fun h => ?_) fun h5 => ?_
  · have h : k = 6 := odT h
    repeat refine gs1 ?_
    refine RW.q rfl (q_call (args := #[.int .i64 x, .int .i64 y]) oK rfl rfl (fun w1 hw1 => Sub_c w1 (hp w1) (Hp.le_refl _) hx hy)) ?_
    repeat refine gs1 ?_
    exact fin_res (vs := [.int .i64 (Mn.lim (x - y))]) rfl rfl ⟨.tmp rfl, trivial⟩ rfl (fun w' hw => ⟨by unfold op2T; rw [if_neg h4, if_pos h]; rfl, hw.below rfl⟩)
  have h5 : k ≠ 6 := odF h5
  repeat refine gs1 ?_
  refine AW.cond rfl (fun h => ?_) fun h6 => ?_
  · have h : k = 7 := odT h
    repeat refine gs1 ?_
    refine RW.q rfl (q_call (args := #[.int .i64 x, .int .i64 y]) oK rfl rfl (fun w1 hw1 => vproduct_c w1 hx hy)) ?_
    repeat refine gs1 ?_
    exact fin_res (vs := [.int .i64 (Mn.lim (x * y))]) rfl rfl ⟨.tmp rfl, trivial⟩ rfl (fun w' hw => ⟨by unfold op2T; rw [if_neg h4, if_neg h5, if_pos h]; rfl, hw.below rfl⟩)
  have h6 : k ≠ 7 := odF h6
  repeat refine gs1 ?_
  refine AW.cond rfl (fun h => ?_) fun h7 => ?_
  · have h : k = 9 := odT h
    repeat refine gs1 ?_
    refine RW.q rfl (q_call (args := #[.bool (decide (x < y))]) oK rfl rfl (fun w1 hw1 => vtruth_c w1 _)) ?_
    repeat refine gs1 ?_
    exact fin_res (vs := [.int .i64 (if decide (x < y) then 1 else 0)]) rfl rfl ⟨.tmp rfl, trivial⟩ rfl (fun w' hw => ⟨by unfold op2T; rw [if_neg h4, if_neg h5, if_neg h6, if_pos h]; simp [tup], hw.below rfl⟩)
  have h7 : k ≠ 9 := odF h7
  repeat refine gs1 ?_
  refine AW.cond rfl (fun h => ?_) fun h8 => ?_
  · have h : k = 10 := odT h
    repeat refine gs1 ?_
    refine RW.q rfl (q_call (args := #[.bool (decide (x ≤ y))]) oK rfl rfl (fun w1 hw1 => vtruth_c w1 _)) ?_
    repeat refine gs1 ?_
    exact fin_res (vs := [.int .i64 (if decide (x ≤ y) then 1 else 0)]) rfl rfl ⟨.tmp rfl, trivial⟩ rfl (fun w' hw => ⟨by unfold op2T; rw [if_neg h4, if_neg h5, if_neg h6, if_neg h7, if_pos h]; simp [tup], hw.below rfl⟩)
  have h8 : k ≠ 10 := odF h8
  repeat refine gs1 ?_
  refine RW.q rfl (q_call (args := #[.bool (decide (x = y))]) oK rfl rfl (fun w1 hw1 => vtruth_c w1 _)) ?_
  repeat refine gs1 ?_
  exact fin_res (vs := [.int .i64 (if decide (x = y) then 1 else 0)]) rfl rfl ⟨.tmp rfl, trivial⟩ rfl (fun w' hw => ⟨by unfold op2T; rw [if_neg h4, if_neg h5, if_neg h6, if_neg h7, if_neg h8]; simp [tup], hw.below rfl⟩)
end Go.Proofs.YtjmeeofdffdpnaaGreatDoor
namespace Ru
open Bt
def nmA (c : UInt8) : Bool := (decide (97 ≤ c.toNat) && decide (c.toNat ≤ 122)) || (decide (65 ≤ c.toNat) && decide (c.toNat ≤ 90))
def nmAt (i : Nat) (c : UInt8) : Bool := nmA c || (decide (i ≠ 0) && (decide (c.toNat = 95) || (decide (48 ≤ c.toNat) && decide (c.toNat ≤ 57))))
def isNm (l : List UInt8) : Bool := decide (l ≠ []) && decide (l.length ≤ 24) && (List.range l.length).all fun i => nmAt i (l.getD i 0)
abbrev nmT (i : Nat) (c : UInt8) : Bool := (!(((decide (((97 : Nat) : Int) ≤ ((c.toNat : Nat) : Int))) && (decide (((c.toNat : Nat) : Int) ≤ ((122 : Nat) : Int)))) || ((decide (((65 : Nat) : Int) ≤ ((c.toNat : Nat) : Int))) && (decide (((c.toNat : Nat) : Int) ≤ ((90 : Nat) : Int)))))) && ((decide ((i : Int) = 0)) || ((!decide (((c.toNat : Nat) : Int) = ((95 : Nat) : Int))) && ((decide (((c.toNat : Nat) : Int) < ((48 : Nat) : Int))) || (decide (((57 : Nat) : Int) < ((c.toNat : Nat) : Int))))))
theorem nmT_eq (i : Nat) (c : UInt8) : nmT i c = !nmAt i c := by
  unfold nmT nmAt nmA
  rw [Bool.eq_iff_iff]
  simp only [Bool.and_eq_true, Bool.or_eq_true, Bool.not_eq_true', decide_eq_true_eq, decide_eq_false_iff_not, Bool.or_eq_false_iff, Bool.and_eq_false_iff]
  omega
theorem isNm_0 {l : List UInt8} (h : (decide (l = ([] : List UInt8)) || decide ((24 : Int) < ((l.length : Nat) : Int))) = true) : isNm l = false := by
  unfold isNm
  simp only [Bool.or_eq_true, decide_eq_true_eq] at h
  rcases h with h | h
  · simp [h]
  · rw [show decide (l.length ≤ 24) = false by simp; omega]; simp
theorem isNm_1 {l : List UInt8} {i : Nat} (hi : i < l.length) (h : nmAt i (l.getD i 0) = false) : isNm l = false := by
  unfold isNm
  rw [Bool.and_eq_false_iff]
  refine .inr ?_
  rw [List.all_eq_false]
  exact ⟨i, List.mem_range.2 hi, by rw [h]; simp⟩
theorem isNm_2 {l : List UInt8} (h : (decide (l = ([] : List UInt8)) || decide ((24 : Int) < ((l.length : Nat) : Int))) = false) (ha : (List.range l.length).all (fun j => nmAt j (l.getD j 0)) = true) : isNm l = true := by
  unfold isNm
  simp only [Bool.or_eq_false_iff, decide_eq_false_iff_not] at h
  rw [ha, Bool.and_true, Bool.and_eq_true]
  exact ⟨decide_eq_true h.1, decide_eq_true (by omega)⟩
def den (l : List (List UInt8)) (i : Int) : Bool := decide (0 ≤ i) && decide (i < l.length) && isNm (l.getD i.toNat []) && decide (ix l (l.getD i.toNat []) = some i.toNat)
def jfact (e : Env) (x : Expr) : Bool :=
  if x.N = 0 ∨ x.N = 1 then den e.places x.Of && decide (x.Of2 = 0)
  else if x.N = 2 then den e.places x.Of && den e.owners x.Of2
  else if x.N = 3 then den e.links x.Of && decide (x.Of2 = 0)
  else if x.N = 7 then den e.towns x.Of && decide (x.Of2 = 0)
  else if x.N = 4 ∨ x.N = 5 ∨ x.N = 6 then decide (x.Of = 0) && decide (x.Of2 = 0)
  else false
def jop (k : Int) (l : List Int) : Int × Bool :=
  if k = 2 then (0, decide (l = [0]))
  else if k = 3 then (1, decide (l = [1]))
  else if k = 4 ∨ k = 5 ∨ k = 6 ∨ k = 7 then (0, decide (l = [0, 0]))
  else if k = 8 ∨ k = 9 then (1, decide (l = [0, 0]))
  else if k = 10 then (1, decide (l.length = 2) && decide (l.getD 0 0 = l.getD 1 0))
  else if k = 11 ∨ k = 12 then (1, decide (l = [1, 1]))
  else if k = 13 then (if l.length ≠ 3 ∨ l.getD 0 0 ≠ 1 ∨ l.getD 1 0 ≠ l.getD 2 0 then (0, false) else (l.getD 1 0, true))
  else (0, false)
def jxs (f : Expr → Int × Bool) : List Expr → Option (List Int)
  | [] => some []
  | x :: xs => if (f x).2 then (jxs f xs).map ((f x).1 :: ·) else none
def jnd (e : Env) (fs : List RFunc) (ps : List Int) (x : Expr) (ks : List Int) : Int × Bool :=
  if x.Kind = 0 then (0, decide (ks = []) && decide (0 ≤ x.N) && decide (x.N ≤ 1125899906842624))
  else if x.Kind = 1 then (0, decide (ks = []) && jfact e x)
  else if x.Kind = 15 then (if ks ≠ [] ∨ x.N < 0 ∨ (ps.length : Int) ≤ x.N then (0, false) else (ps.getD x.N.toNat 0, true))
  else if x.Kind = 14 then (if x.N < 0 ∨ (fs.length : Int) ≤ x.N then (0, false) else ((fs.getD x.N.toNat default).Result, decide (ks = (fs.getD x.N.toNat default).Params)))
  else if x.N ≠ 0 then (0, false) else jop x.Kind ks
def jx (e : Env) (fs : List RFunc) (ps : List Int) : Nat → Expr → Int × Bool
  | 0, _ => (0, false)
  | f + 1, x => if x.Kind ≠ 1 ∧ (x.Of ≠ 0 ∨ x.Of2 ≠ 0) then (0, false) else
    match jxs (jx e fs ps f) x.Kids with
    | none => (0, false)
    | some ks => jnd e fs ps x ks
def jhas (e : Env) (fs : List RFunc) (ps : List Int) (x : Expr) (k : Int) : Bool := (jx e fs ps 40 x).2 && decide ((jx e fs ps 40 x).1 = k)
def jhead : List (List UInt8) → List RFunc → Bool
  | _, [] => true
  | seen, f :: fs => isNm f.Name && !kw f.Name && !seen.contains f.Name && (decide (f.Result = 0) || decide (f.Result = 1)) && f.Params.all (fun t => decide (t = 0) || decide (t = 1)) && jhead (seen ++ [f.Name]) fs
def jcl (e : Env) (fs : List RFunc) (c : RClause) : Bool := den e.links c.Link && jhas e fs [] c.If 1 && jhas e fs [] c.To 0
def rightR (e : Env) (r : Rule) : Bool := jhead [] r.Funcs && r.Funcs.all (fun f => jhas e r.Funcs f.Params f.Body f.Result) && r.Clauses.all (jcl e r.Funcs)
theorem jxs_snoc {f : Expr → Int × Bool} : ∀ (xs : List Expr) (y : Expr), jxs f (xs ++ [y]) = (jxs f xs).bind fun l => if (f y).2 then some (l ++ [(f y).1]) else none
  | [], y => by simp [jxs]
  | x :: xs, y => by
    simp only [List.cons_append, jxs, jxs_snoc xs y]
    split
    · cases h : jxs f xs with
      | none => rfl
      | some l => simp only [Option.map_some, Option.bind_some]; split <;> rfl
    · rfl
theorem jxs_none {f : Expr → Int × Bool} : ∀ {xs : List Expr} {x : Expr}, x ∈ xs → (f x).2 = false → jxs f xs = none
  | [], _, h, _ => by cases h
  | y :: ys, x, h, hf => by
    unfold jxs
    rcases List.mem_cons.1 h with rfl | h
    · rw [if_neg (by simp [hf])]
    · rw [jxs_none h hf]; split <;> rfl
theorem jxs_mem {f : Expr → Int × Bool} : ∀ {xs : List Expr} {l : List Int}, jxs f xs = some l → l = xs.map (fun x => (f x).1) ∧ ∀ x ∈ xs, (f x).2 = true
  | [], l, h => by cases h; exact ⟨rfl, fun x hx => by cases hx⟩
  | y :: ys, l, h => by
    unfold jxs at h
    split at h
    · rename_i h1
      obtain ⟨l', h2, rfl⟩ := mS h
      obtain ⟨h3, h4⟩ := jxs_mem h2
      refine ⟨by rw [h3]; rfl, fun x hx => ?_⟩
      rcases List.mem_cons.1 hx with rfl | hx
      · exact h1
      · exact h4 x hx
    · cases h
theorem eqI_of {xs ys : List Int} (hl : xs.length = ys.length) (h : ∀ j, j < xs.length → xs.getD j 0 = ys.getD j 0) : xs = ys :=
  List.ext_getElem hl fun i h1 h2 => by
    have := h i h1
    rwa [gDD, gDD, List.getElem?_eq_getElem h1, List.getElem?_eq_getElem h2] at this
end Ru
namespace Ru
open Bt
structure Jn (fs : List RFunc) (nt : Nat) (x : Expr) : Prop where
  k0 : x.Kind = 0 → 0 ≤ x.N ∧ x.N ≤ 1125899906842624
  k15 : x.Kind = 15 → 0 ≤ x.N ∧ x.N < nt
  k14 : x.Kind = 14 → 0 ≤ x.N ∧ x.N < fs.length ∧ x.Kids.length = (fs.getD x.N.toNat default).Params.length
  a1 : x.Kind = 2 ∨ x.Kind = 3 → x.Kids.length = 1
  a3 : x.Kind = 13 → x.Kids.length = 3
  a2 : x.Kind ≠ 0 → x.Kind ≠ 1 → x.Kind ≠ 2 → x.Kind ≠ 3 → x.Kind ≠ 13 → x.Kind ≠ 14 → x.Kind ≠ 15 → x.Kids.length = 2 ∧ 4 ≤ x.Kind ∧ x.Kind ≤ 12
variable {e : Env} {fs : List RFunc} {ts : List Int} {j : Nat} {x : Expr}
theorem jx_ok (h : (jx e fs ts (j + 1) x).2 = true) : ∃ ks, jxs (jx e fs ts j) x.Kids = some ks ∧ jx e fs ts (j + 1) x = jnd e fs ts x ks ∧ (jnd e fs ts x ks).2 = true := by
  have h0 := h
  unfold jx at h
  split at h
  · cases h
  · rename_i hk
    split at h
    · cases h
    · rename_i ks hks
      exact ⟨ks, hks, by rw [jx, if_neg hk, hks], h⟩
theorem jx_zero : (jx e fs ts 0 x).2 = false := rfl
theorem jx_kid (h : (jx e fs ts (j + 1) x).2 = true) : ∀ y ∈ x.Kids, (jx e fs ts j y).2 = true := by
  obtain ⟨ks, h1, _⟩ := jx_ok h
  exact (jxs_mem h1).2
theorem jop_len {k : Int} {l : List Int} (h : (jop k l).2 = true) : (k = 2 ∨ k = 3 → l.length = 1) ∧ (k = 13 → l.length = 3) ∧ (k ≠ 2 → k ≠ 3 → k ≠ 13 → l.length = 2 ∧ 4 ≤ k ∧ k ≤ 12) := by
  unfold jop at h
  repeat' split at h
  all_goals simp only [Bool.and_eq_true, decide_eq_true_eq] at h
  · subst h; subst_vars; exact ⟨fun _ => rfl, fun h => by omega, fun h => by omega⟩
  · subst h; subst_vars; exact ⟨fun _ => rfl, fun h => by omega, fun h => by omega⟩
  · subst h; exact ⟨fun h => by omega, fun h => by omega, fun _ _ _ => ⟨rfl, by omega, by omega⟩⟩
  · subst h; exact ⟨fun h => by omega, fun h => by omega, fun _ _ _ => ⟨rfl, by omega, by omega⟩⟩
  · exact ⟨fun h => by omega, fun h => by omega, fun _ _ _ => ⟨h.1, by omega, by omega⟩⟩
  · subst h; exact ⟨fun h => by omega, fun h => by omega, fun _ _ _ => ⟨rfl, by omega, by omega⟩⟩
  · cases h
  · rename_i h2
    exact ⟨fun h => by omega, fun _ => Classical.byContradiction fun hc => h2 (.inl hc), fun _ _ hh => by omega⟩
  · cases h
theorem jx_node (h : (jx e fs ts (j + 1) x).2 = true) : Jn fs ts.length x := by
  obtain ⟨ks, h1, _, h2⟩ := jx_ok h
  obtain ⟨h3, _⟩ := jxs_mem h1
  have hl : x.Kids.length = ks.length := by rw [h3, List.length_map]
  unfold jnd at h2
  split at h2
  · rename_i hk
    simp only [Bool.and_eq_true, decide_eq_true_eq] at h2
    exact ⟨fun _ => ⟨h2.1.2, h2.2⟩, fun h => by omega, fun h => by omega, fun h => by omega, fun h => by omega, fun h => by omega⟩
  · split at h2
    · exact ⟨fun h => by omega, fun h => by omega, fun h => by omega, fun h => by omega, fun h => by omega, fun _ h => by omega⟩
    · split at h2
      · split at h2
        · cases h2
        · exact ⟨fun h => by omega, fun _ => by omega, fun h => by omega, fun h => by omega, fun h => by omega, fun _ _ _ _ _ _ h => by omega⟩
      · split at h2
        · split at h2
          · cases h2
          · simp only [decide_eq_true_eq] at h2
            exact ⟨fun h => by omega, fun h => by omega, fun _ => ⟨by omega, by omega, by rw [hl, h2]⟩, fun h => by omega, fun h => by omega, fun _ _ _ _ _ h => by omega⟩
        · split at h2
          · cases h2
          · have := jop_len h2
            exact ⟨fun h => by omega, fun h => by omega, fun h => by omega, fun h => by have := this.1 h; omega, fun h => by have := this.2.1 h; omega, fun _ _ a b c _ _ => by have := this.2.2 a b c; omega⟩
end Ru
namespace Mn
open Bt Ru
open Go.K (I64)
theorem bnd_okE {α β : Type} {x : R α} {k : α → Int → R β} {r : β × Int} (h : bnd x k = .ok r) : ∃ a u, x = .ok (a, u) ∧ k a u = .ok r := by
  cases x with
  | error e => cases h
  | ok p => exact ⟨p.1, p.2, rfl, h⟩
theorem lim_i (n : Int) : I64 (lim n) := by
  have := lim_I64 n
  unfold I64; unfold mn mx at this; omega
theorem wr_i (n : Int) : I64 (wr n) := by
  unfold wr I64; rw [Go.K.wrap_i64]; split <;> omega
theorem op2_i {k x y v : Int} (h : op2 k x y = .ok v) : I64 v := by
  unfold op2 at h
  repeat' split at h
  all_goals cases h
  all_goals first | exact lim_i _ | (unfold I64; omega)
theorem evs_app {f : Expr → Int → R Int} : ∀ (xs ys : List Expr) (u : Int), evs f (xs ++ ys) u = bnd (evs f xs u) fun l u => bnd (evs f ys u) fun m u => .ok (l ++ m, u)
  | [], ys, u => by
    simp only [List.nil_append, evs, bnd]
    cases evs f ys u <;> rfl
  | x :: xs, ys, u => by
    simp only [List.cons_append, evs]
    cases h : f x u with
    | error e => rfl
    | ok p =>
      obtain ⟨v, u1⟩ := p
      simp only [bnd, evs_app xs ys u1]
      cases h2 : evs f xs u1 with
      | error e => rfl
      | ok q =>
        obtain ⟨l, u2⟩ := q
        simp only
        cases h3 : evs f ys u2 <;> rfl
theorem evs_rng {f : Expr → Int → R Int} : ∀ {xs : List Expr} {u : Int} {l : List Int} {u' : Int}, (∀ x ∈ xs, ∀ u v u', f x u = .ok (v, u') → I64 v ∧ u ≤ u') → evs f xs u = .ok (l, u') → l.length = xs.length ∧ (∀ v ∈ l, I64 v) ∧ u ≤ u'
  | [], u, l, u', _, h => by cases h; exact ⟨rfl, fun v hv => absurd hv (List.not_mem_nil), Int.le_refl _⟩
  | x :: xs, u, l, u', hf, h => by
    unfold evs at h
    obtain ⟨v, u1, h1, h⟩ := bnd_okE h
    obtain ⟨vs, u2, h2, h⟩ := bnd_okE h
    cases h
    obtain ⟨i1, i2⟩ := hf x (List.mem_cons_self ..) _ _ _ h1
    obtain ⟨j1, j2, j3⟩ := evs_rng (fun y hy => hf y (List.mem_cons_of_mem _ hy)) h2
    refine ⟨by simp [j1], fun y hy => ?_, by omega⟩
    rcases List.mem_cons.1 hy with rfl | hy
    · exact i1
    · exact j2 y hy
theorem kid_mem {x : Expr} {i : Nat} (h : i < x.Kids.length) : kid x i ∈ x.Kids := by
  unfold kid
  rw [gDD, List.getElem?_eq_getElem h]
  exact List.getElem_mem h
theorem kid_get {x : Expr} {i : Nat} (h : i < x.Kids.length) : kid x i = x.Kids[i] := by
  unfold kid
  rw [gDD, List.getElem?_eq_getElem h]; rfl
variable {e : Env} {fs : List RFunc} {f : Facts} {d : Dt}
theorem ev_rngA (hJ : ∀ q ∈ fs, (jx e fs q.Params 40 q.Body).2 = true) (hF : ∀ n o q, I64 (factV f d n o q)) : ∀ (g : Nat) (c : Int) (x : Expr) (ts ps : List Int) (j : Nat) (u v u' : Int), (jx e fs ts j x).2 = true → ps.length = ts.length → (∀ p ∈ ps, I64 p) → ev fs f d g c x ps u = .ok (v, u') → I64 v ∧ u ≤ u' := by
  intro g
  induction g with
  | zero => intro c x ts ps j u v u' _ _ _ h; rw [ev] at h; cases h
  | succ g ih =>
    intro c x ts ps j u v u' hj hl hp h
    cases j with
    | zero => exact absurd hj (by rw [jx_zero]; simp)
    | succ j =>
    have hn := jx_node hj
    have hk := jx_kid hj
    have hI : ∀ {y : Expr} {u v u' : Int}, y ∈ x.Kids → ev fs f d g c y ps u = .ok (v, u') → I64 v ∧ u ≤ u' := fun hy h => ih _ _ _ _ _ _ _ _ (hk _ hy) hl hp h
    rw [ev] at h
    by_cases k0 : x.Kind = 0
    · rw [if_pos k0] at h
      have k := k0
      cases h
      have := hn.k0 k
      exact ⟨by unfold I64; omega, Int.le_refl _⟩
    rw [if_neg k0] at h
    by_cases k15 : x.Kind = 15
    · rw [if_pos k15] at h
      have k := k15
      cases h
      have := hn.k15 k
      refine ⟨?_, Int.le_refl _⟩
      rw [gDD, List.getElem?_eq_getElem (by omega)]
      exact hp _ (List.getElem_mem _)
    rw [if_neg k15] at h
    by_cases k1 : x.Kind = 1
    · rw [if_pos k1] at h
      have k := k1
      cases h; exact ⟨hF _ _ _, Int.le_refl _⟩
    rw [if_neg k1] at h
    by_cases k2 : x.Kind = 2
    · rw [if_pos k2] at h
      have k := k2
      obtain ⟨a, u1, h1, h⟩ := bnd_okE h
      cases h
      exact ⟨lim_i _, (hI (kid_mem (by have := hn.a1 (.inl k); omega)) h1).2⟩
    rw [if_neg k2] at h
    by_cases k3 : x.Kind = 3
    · rw [if_pos k3] at h
      have k := k3
      obtain ⟨a, u1, h1, h⟩ := bnd_okE h
      cases h
      exact ⟨wr_i _, (hI (kid_mem (by have := hn.a1 (.inr k); omega)) h1).2⟩
    rw [if_neg k3] at h
    by_cases k11 : x.Kind = 11
    · rw [if_pos k11] at h
      have k := k11
      have hl2 := hn.a2 (by omega) (by omega) (by omega) (by omega) (by omega) (by omega) (by omega)
      obtain ⟨a, u1, h1, h⟩ := bnd_okE h
      have i1 := (hI (kid_mem (by omega)) h1).2
      split at h
      · cases h; exact ⟨by unfold I64; omega, i1⟩
      · have := hI (kid_mem (by omega)) h
        exact ⟨this.1, by omega⟩
    rw [if_neg k11] at h
    by_cases k12 : x.Kind = 12
    · rw [if_pos k12] at h
      have k := k12
      have hl2 := hn.a2 (by omega) (by omega) (by omega) (by omega) (by omega) (by omega) (by omega)
      obtain ⟨a, u1, h1, h⟩ := bnd_okE h
      have i1 := (hI (kid_mem (by omega)) h1).2
      split at h
      · cases h; exact ⟨by unfold I64; omega, i1⟩
      · have := hI (kid_mem (by omega)) h
        exact ⟨this.1, by omega⟩
    rw [if_neg k12] at h
    by_cases k13 : x.Kind = 13
    · rw [if_pos k13] at h
      have k := k13
      have hl3 := hn.a3 k
      obtain ⟨a, u1, h1, h⟩ := bnd_okE h
      have i1 := (hI (kid_mem (by omega)) h1).2
      split at h
      · have := hI (kid_mem (by omega)) h
        exact ⟨this.1, by omega⟩
      · have := hI (kid_mem (by omega)) h
        exact ⟨this.1, by omega⟩
    rw [if_neg k13] at h
    by_cases k14 : x.Kind = 14
    · rw [if_pos k14] at h
      have k := k14
      obtain ⟨h14a, h14b, h14c⟩ := hn.k14 k
      obtain ⟨vs, u1, h1, h⟩ := bnd_okE h
      obtain ⟨r1, r2, r3⟩ := evs_rng (fun y hy u v u' h => hI hy h) h1
      split at h
      · cases h
      split at h
      · cases h
      have hm : fs.getD x.N.toNat default ∈ fs := by
        rw [gDD, List.getElem?_eq_getElem (by omega)]
        exact List.getElem_mem _
      have := ih _ _ _ _ _ _ _ _ (hJ _ hm) (by omega) r2 h
      exact ⟨this.1, by omega⟩
    rw [if_neg k14] at h
    · have hl2 := hn.a2 (by omega) (by omega) (by omega) (by omega) (by omega) (by omega) (by omega)
      obtain ⟨a, u1, h1, h⟩ := bnd_okE h
      obtain ⟨b, u2, h2, h⟩ := bnd_okE h
      have i1 := (hI (kid_mem (by omega)) h1).2
      have i2 := (hI (kid_mem (by omega)) h2).2
      split at h
      · cases h
      · rename_i ho
        cases h
        exact ⟨op2_i ho, by omega⟩
theorem ev_rng (hJ : ∀ q ∈ fs, (jx e fs q.Params 40 q.Body).2 = true) (hF : ∀ n o q, I64 (factV f d n o q)) (g : Nat) {c : Int} {x : Expr} {ts ps : List Int} {j : Nat} {u v u' : Int} (hj : (jx e fs ts j x).2 = true) (hl : ps.length = ts.length) (hp : ∀ p ∈ ps, I64 p) (h : ev fs f d g c x ps u = .ok (v, u')) : I64 v ∧ u ≤ u' := ev_rngA hJ hF g c x ts ps j u v u' hj hl hp h
end Mn
namespace Go.K
open Go Go.RowKit
section
variable {P : Program} {f : Nat → Value} {s : List (Nat × Value)} {J : Cls} {ty : TypeId} {pos : String} {af : Array Edge} {x y : Operand} {dst : Option Nat} {g : Option (Nat × Bool)} {t t' : TypeId}
theorem q_subW {a b : Int} (hx : ev (fr f s) x = iV a) (hy : ev (fr f s) y = iV b) : Qt P J f s ⟨dst, .binOp .sub t x y t', ty, pos, af, g⟩ (iV (IntKind.wrap .i64 (a - b))) := q_arith hx hy (by simp only [Op.intArith]) rfl
end
end Go.K
namespace Go.Proofs.YtjmeeofdffdpnaaGreatDoor
open Go Go.K Go.RowKit
open Ru (pB)
attribute [local irreducible] AW RW DW Post Qt
structure ECtx (Φ : Hp) (e : Ru.Env) (fs : List Bt.RFunc) (f : Bt.Facts) (y : RnV) : Prop where
 rf : RepSl Φ fs y.rf
 fc : y.fc.ok Φ f
 J : ∀ q ∈ fs, (Ru.jx e fs q.Params 40 q.Body).2 = true
 F : ∀ n o q, I64 (Mn.factV f y.d n o q)
theorem ECtx.mono {Φ Ψ : Hp} {e : Ru.Env} {fs : List Bt.RFunc} {f : Bt.Facts} {y : RnV} (h : ECtx Φ e fs f y) (hl : Hp.le Φ Ψ) : ECtx Ψ e fs f y := ⟨h.rf.mono hl, h.fc.mono hl, h.J, h.F⟩
abbrev evR (w : World) (Φ : Hp) (x : Nat) (y : RnV) (u c : Int) (res : Mn.R Int) : Ending → World → Prop := OwnK w Φ [rB x y u c] res (fun v (_ : Unit) => iV v.1) (fun v _ => [rB x y v.2 c]) fE fun er CE => ∃ c', CE = [rB x y er.2 c']
def EvOK (e : Ru.Env) (fs : List Bt.RFunc) (f : Bt.Facts) (x : Nat) (y : RnV) (g : Nat) : Prop := ∀ (Φ : Hp) (X : Bt.Expr) (v : Value) (w : World) (j : Nat) (ts ps : List Int) (pv : Value) (u c : Int), ECtx Φ e fs f y → RepSl Φ X.Kids v → (Ru.jx e fs ts j X).2 = true → ps.length = ts.length → RepSl Φ ps pv → 0 ≤ u → 0 ≤ c → c ≤ 100 → (j : Int) + 41 * (101 - c) ≤ g →
 StP ⟨w, Φ, fps [rB x y u c]⟩ Φ [rB x y u c] w → Calls pg 53 #[pB x, .agg (exC X v).toArray, pv] w (evR w Φ x y u c (Mn.ev fs f y.d g c X ps u))
theorem evR.ok {w w' : World} {Φ : Hp} {x : Nat} {y : RnV} {u c v u' : Int} {res : Mn.R Int} (h : res = .ok (v, u')) {C : List Chunk} (hw : StP ⟨w, Φ, fps [rB x y u c]⟩ Φ (rB x y u' c :: C) w') : evR w Φ x y u c res (.returned (iV v)) w' := .inl ⟨(v, u'), (), h, rfl, StP.sel hw [0] (by decide) rfl⟩
theorem evR.ok1 {w w' : World} {Φ : Hp} {x : Nat} {y : RnV} {u c v u' : Int} {res : Mn.R Int} {k : Chunk} (h : res = .ok (v, u')) {C : List Chunk} (hw : StP ⟨w, Φ, fps [rB x y u c]⟩ Φ (k :: rB x y u' c :: C) w') : evR w Φ x y u c res (.returned (iV v)) w' := .inl ⟨(v, u'), (), h, rfl, StP.sel hw [1] (by decide) rfl⟩
theorem evR.pn {w w' : World} {Φ : Hp} {x : Nat} {y : RnV} {u c : Int} {res : Mn.R Int} {er : Int × Int} {CE C : List Chunk} (h : res = .error er) (hk : ∃ c', CE = [rB x y er.2 c']) (hw : StP ⟨w, Φ, fps [rB x y u c]⟩ Φ (CE ++ C) w') : evR w Φ x y u c res (.panicked (fE er)) w' := by
 obtain ⟨c', rfl⟩ := hk
 exact .inr ⟨er, _, h, rfl, ⟨c', rfl⟩, StP.sel hw [0] (by decide) rfl⟩
theorem kidV {Φ : Hp} {xs : List Bt.Expr} {v : Value} (h : RepSl Φ xs v) {i : Nat} (hi : i < xs.length) : ∃ A c, PCells Φ (Value.at v (i * 5)) (exC (xs.getD i default) (.slice A (xs.getD i default).Kids.length c)) ∧ RepSl Φ (xs.getD i default).Kids (.slice A (xs.getD i default).Kids.length c) := by
 obtain ⟨cs, h1, h2⟩ := h.at_ i hi
 obtain ⟨kv, rfl, h3, h4⟩ := repE'.1 h1
 obtain ⟨A, c, rfl, _⟩ := h4.sl
 have he : xs[i] = xs.getD i default := by rw [gDD, List.getElem?_eq_getElem hi]; rfl
 rw [he] at h2 h4
 refine ⟨A, c, fun q u hq => ?_, h4⟩
 rw [at_add]
 exact h2 q u hq
section
variable {e : Ru.Env} {fs : List Bt.RFunc} {f : Bt.Facts} {x : Nat} {y : RnV}
theorem eval_of {g : Nat} (ih : EvOK e fs f x y g) (hcall : ∀ (Φ : Hp) (X : Bt.Expr) (v : Value) (w : World) (j : Nat) (ts ps : List Int) (pv : Value) (u c : Int), ECtx Φ e fs f y → RepSl Φ X.Kids v → X.Kind = 14 → (Ru.jx e fs ts (j + 1) X).2 = true → ps.length = ts.length → RepSl Φ ps pv → 0 ≤ u → 0 ≤ c → c ≤ 100 → (j : Int) + 41 * (101 - c) ≤ g → StP ⟨w, Φ, fps [rB x y u c]⟩ Φ [rB x y u c] w → Calls pg 108 #[pB x, .agg (exC X v).toArray, pv] w (evR w Φ x y u c (Mn.ev fs f y.d (g + 1) c X ps u))) : EvOK e fs f x y (g + 1) := by
 intro Φ X v w j ts ps pv u c hC hv hj hlen hpv hu hc0 hc1 hg h0
 cases j with
 | zero => rw [Ru.jx_zero] at hj; cases hj
 | succ j =>
 have hn := Ru.jx_node hj
 have hkj := Ru.jx_kid hj
 have hlim : (j : Int) + 41 * (101 - c) ≤ g := by omega
 have hpi := hpv.i64
 have hI : ∀ {i : Nat} {u v u' : Int}, i < X.Kids.length → Mn.ev fs f y.d g c (Mn.kid X i) ps u = .ok (v, u') → I64 v ∧ u ≤ u' := fun hi h => Mn.ev_rng hC.J hC.F g (hkj _ (Mn.kid_mem hi)) hlen hpi h
 have hK : ∀ {i : Nat} (hi : i < X.Kids.length) {A : Option Addr} {cc : Nat} {u1 : Int} {w1 : World}, 0 ≤ u1 → RepSl Φ (Mn.kid X i).Kids (.slice A (Mn.kid X i).Kids.length cc) → StP ⟨w1, Φ, fps [rB x y u1 c]⟩ Φ [rB x y u1 c] w1 → Calls pg 53 #[pB x, .agg (exC (Mn.kid X i) (.slice A (Mn.kid X i).Kids.length cc)).toArray, pv] w1 (evR w1 Φ x y u1 c (Mn.ev fs f y.d g c (Mn.kid X i) ps u1)) := fun {i} hi {A cc u1 w1} hu1 hr hw => ih Φ _ _ _ j ts ps pv _ c hC hr (hkj _ (Mn.kid_mem hi)) hlen hpv hu1 hc0 hc1 hlim hw
 obtain ⟨vA, vc, rfl, _⟩ := hv.sl
 have hvs := hv.sl
 obtain ⟨pA, pc, rfl, _⟩ := hpv.sl
 have hps := hpv.sl
 generalize hev : Mn.ev fs f y.d (g + 1) c X ps u = res
 rw [Mn.ev] at hev
 refine calls_of_AW (args := [pB x, .agg (exC X (.slice vA X.Kids.length vc)).toArray, .slice pA ps.length pc]) Tryz.func53 rfl (lBT rfl) (St ⟨w, Φ, fps [rB x y u c]⟩ Φ [rB x y u c]) h0 ?_
 show AW _ _ [] _ _ _ [(0, pB x), (1, .agg (exC X (.slice vA X.Kids.length vc)).toArray), (2, .slice pA ps.length pc)] _
 repeat refine gs1 ?_
 refine RW.bxA (cs := (exC X (.slice vA X.Kids.length vc))) rfl rfl fun b4 => ?_
 repeat refine gs1 ?_
 refine AW.cond rfl (fun h => ?_) fun n0 => ?_
 ·
  have h : X.Kind = 0 := odT h
  rw [if_pos h] at hev
  repeat refine gs1 ?_
  exact fin_res (vs := [iV (X.N)]) rfl rfl ⟨.tmp rfl, trivial⟩ rfl (fun w1 hw1 => evR.ok1 hev.symm hw1)
 have n0 : X.Kind ≠ 0 := odF n0
 rw [if_neg n0] at hev
 repeat refine gs1 ?_
 refine AW.cond rfl (fun h => ?_) fun n15 => ?_
 ·
  have h : X.Kind = 15 := odT h
  rw [if_pos h] at hev
  have h15 := hn.k15 h
  obtain ⟨m, hm⟩ : ∃ m : Nat, X.N = m := ⟨X.N.toNat, by omega⟩
  have hml : m < ps.length := by omega
  have pe := RepSl.gi hpv hml
  repeat refine gs1 ?_
  refine RW.q (v := .pointer (some (Value.at (.slice pA ps.length pc) (m * 1)))) rfl (qa_ixN (n := ps.length) (i := m) rfl (by show Value.int .i64 X.N = _; rw [hm]) hps hml) ?_
  repeat refine gs1 ?_
  exact fin_res (vs := [iV (ps.getD m 0)]) rfl rfl ⟨.tmp rfl, trivial⟩ rfl (fun w1 hw1 => evR.ok1 (by rw [← hev, hm, Int.toNat_natCast]) hw1)
 have n15 : X.Kind ≠ 15 := odF n15
 rw [if_neg n15] at hev
 repeat refine gs1 ?_
 refine AW.cond rfl (fun h => ?_) fun n1 => ?_
 ·
  have h : X.Kind = 1 := odT h
  rw [if_pos h] at hev
  repeat refine gs1 ?_
  refine RW.q rfl (q_call (args := #[pB x, .agg (exC X (.slice vA X.Kids.length vc)).toArray]) oK rfl rfl (fun w1 hw1 => mfact_c w1 (y := y) (u := u) (c := c) (ks := X.Kids) (hw1.sAt 1 rfl) (hC.fc.mono hw1.phi))) ?_
  repeat refine gs1 ?_
  exact fin_res (vs := [iV (Mn.factV f y.d X.N X.Of X.Of2)]) rfl rfl ⟨.tmp rfl, trivial⟩ rfl (fun w1 hw1 => evR.ok1 hev.symm hw1)
 have n1 : X.Kind ≠ 1 := odF n1
 rw [if_neg n1] at hev
 repeat refine gs1 ?_
 refine AW.cond rfl (fun h => ?_) fun n2 => ?_
 ·
  have h : X.Kind = 2 := odT h
  rw [if_pos h] at hev
  have hl := hn.a1 (.inl h)
  obtain ⟨Aa, ca, hpa, hra⟩ := kidV hv (i := 0) (by omega)
  change PCells Φ _ (xK X 0 Aa ca) at hpa
  change RepSl Φ (Mn.kid X 0).Kids (.slice Aa (Mn.kid X 0).Kids.length ca) at hra
  repeat refine gs1 ?_
  refine RW.q (v := .pointer (some (Value.at (.slice vA X.Kids.length vc) (0 * 5)))) rfl (qa_ixL (n := X.Kids.length) (i := 0) rfl rfl hvs (by omega)) (RW.q (v := .agg (xK X 0 Aa ca).toArray) rfl (qa_ldA (cs := xK X 0 Aa ca) rfl (Cells.phi hpa) rfl) ?_)
  repeat refine gs1 ?_
  refine RW.own (args := #[pB x, .agg (xK X 0 Aa ca).toArray, .slice pA ps.length pc]) (C2 := [.blk b4 59 (exC X (.slice vA X.Kids.length vc))]) [1, 0] (by decide) rfl rfl oK rfl rfl (fun w1 hw1 => hK (i := 0) (by omega) (hu) hra hw1) (fun er CE w2 he hk hw => evR.pn (by rw [← hev]; exact Mn.bnd_err he) hk hw) ?_
  rintro ⟨va, ua⟩ _ hr
  rw [Mn.bnd_ok hr] at hev
  have hIa := hI (by omega) hr
  simp only at hIa ⊢
  repeat refine gs1 ?_
  refine RW.q rfl (q_call (args := #[iV 0, iV va]) oK rfl rfl (fun w1 hw1 => Sub_c w1 (hp w1) (Hp.le_refl _) (by unfold I64; omega) hIa.1)) ?_
  repeat refine gs1 ?_
  exact fin_res (vs := [iV (Mn.lim (0 - va))]) rfl rfl ⟨.tmp rfl, trivial⟩ rfl (fun w1 hw1 => evR.ok hev.symm hw1)
 have n2 : X.Kind ≠ 2 := odF n2
 rw [if_neg n2] at hev
 repeat refine gs1 ?_
 refine AW.cond rfl (fun h => ?_) fun n3 => ?_
 ·
  have h : X.Kind = 3 := odT h
  rw [if_pos h] at hev
  have hl := hn.a1 (.inr h)
  obtain ⟨Aa, ca, hpa, hra⟩ := kidV hv (i := 0) (by omega)
  change PCells Φ _ (xK X 0 Aa ca) at hpa
  change RepSl Φ (Mn.kid X 0).Kids (.slice Aa (Mn.kid X 0).Kids.length ca) at hra
  repeat refine gs1 ?_
  refine RW.q (v := .pointer (some (Value.at (.slice vA X.Kids.length vc) (0 * 5)))) rfl (qa_ixL (n := X.Kids.length) (i := 0) rfl rfl hvs (by omega)) (RW.q (v := .agg (xK X 0 Aa ca).toArray) rfl (qa_ldA (cs := xK X 0 Aa ca) rfl (Cells.phi hpa) rfl) ?_)
  repeat refine gs1 ?_
  refine RW.own (args := #[pB x, .agg (xK X 0 Aa ca).toArray, .slice pA ps.length pc]) (C2 := [.blk b4 59 (exC X (.slice vA X.Kids.length vc))]) [1, 0] (by decide) rfl rfl oK rfl rfl (fun w1 hw1 => hK (i := 0) (by omega) (hu) hra hw1) (fun er CE w2 he hk hw => evR.pn (by rw [← hev]; exact Mn.bnd_err he) hk hw) ?_
  rintro ⟨va, ua⟩ _ hr
  rw [Mn.bnd_ok hr] at hev
  have hIa := hI (by omega) hr
  simp only at hIa ⊢
  repeat refine gs1 ?_
  refine RW.q (v := iV (Mn.wr (1 - va))) rfl (q_subW rfl rfl) ?_
  repeat refine gs1 ?_
  exact fin_res (vs := [iV (Mn.wr (1 - va))]) rfl rfl ⟨.tmp rfl, trivial⟩ rfl (fun w1 hw1 => evR.ok hev.symm hw1)
 have n3 : X.Kind ≠ 3 := odF n3
 rw [if_neg n3] at hev
 repeat refine gs1 ?_
 refine AW.cond rfl (fun h => ?_) fun n11 => ?_
 ·
  have h : X.Kind = 11 := odT h
  rw [if_pos h] at hev
  have hl := hn.a2 n0 n1 n2 n3 (by omega) (by omega) n15
  obtain ⟨Aa, ca, hpa, hra⟩ := kidV hv (i := 0) (by omega)
  change PCells Φ _ (xK X 0 Aa ca) at hpa
  change RepSl Φ (Mn.kid X 0).Kids (.slice Aa (Mn.kid X 0).Kids.length ca) at hra
  repeat refine gs1 ?_
  refine RW.q (v := .pointer (some (Value.at (.slice vA X.Kids.length vc) (0 * 5)))) rfl (qa_ixL (n := X.Kids.length) (i := 0) rfl rfl hvs (by omega)) (RW.q (v := .agg (xK X 0 Aa ca).toArray) rfl (qa_ldA (cs := xK X 0 Aa ca) rfl (Cells.phi hpa) rfl) ?_)
  repeat refine gs1 ?_
  refine RW.own (args := #[pB x, .agg (xK X 0 Aa ca).toArray, .slice pA ps.length pc]) (C2 := [.blk b4 59 (exC X (.slice vA X.Kids.length vc))]) [1, 0] (by decide) rfl rfl oK rfl rfl (fun w1 hw1 => hK (i := 0) (by omega) (hu) hra hw1) (fun er CE w2 he hk hw => evR.pn (by rw [← hev]; exact Mn.bnd_err he) hk hw) ?_
  rintro ⟨va, ua⟩ _ hr
  rw [Mn.bnd_ok hr] at hev
  have hIa := hI (by omega) hr
  simp only at hIa ⊢
  repeat refine gs1 ?_
  refine AW.cond rfl (fun hc => ?_) fun hc => ?_
  ·
   have hc : va = 0 := odT hc
   rw [if_pos hc] at hev
   repeat refine gs1 ?_
   exact fin_res (vs := [iV (0)]) rfl rfl ⟨.tmp rfl, trivial⟩ rfl (fun w1 hw1 => evR.ok hev.symm hw1)
  have hc : va ≠ 0 := odF hc
  rw [if_neg hc] at hev
  obtain ⟨Ab, cb, hpb, hrb⟩ := kidV hv (i := 1) (by omega)
  change PCells Φ _ (xK X 1 Ab cb) at hpb
  change RepSl Φ (Mn.kid X 1).Kids (.slice Ab (Mn.kid X 1).Kids.length cb) at hrb
  repeat refine gs1 ?_
  refine RW.q (v := .pointer (some (Value.at (.slice vA X.Kids.length vc) (1 * 5)))) rfl (qa_ixL (n := X.Kids.length) (i := 1) rfl rfl hvs (by omega)) (RW.q (v := .agg (xK X 1 Ab cb).toArray) rfl (qa_ldA (cs := xK X 1 Ab cb) rfl (Cells.phi hpb) rfl) ?_)
  repeat refine gs1 ?_
  refine RW.own (args := #[pB x, .agg (xK X 1 Ab cb).toArray, .slice pA ps.length pc]) (C2 := [.blk b4 59 (exC X (.slice vA X.Kids.length vc))]) [0, 1] (by decide) rfl rfl oK rfl rfl (fun w1 hw1 => hK (i := 1) (by omega) (by omega) hrb hw1) (fun er CE w2 he hk hw => evR.pn (hev.symm.trans he) hk hw) ?_
  rintro ⟨vb, ub⟩ _ hr
  simp only
  repeat refine gs1 ?_
  exact fin_res (vs := [iV (vb)]) rfl rfl ⟨.tmp rfl, trivial⟩ rfl (fun w1 hw1 => evR.ok (hev.symm.trans hr) hw1)
 have n11 : X.Kind ≠ 11 := odF n11
 rw [if_neg n11] at hev
 repeat refine gs1 ?_
 refine AW.cond rfl (fun h => ?_) fun n12 => ?_
 ·
  have h : X.Kind = 12 := odT h
  rw [if_pos h] at hev
  have hl := hn.a2 n0 n1 n2 n3 (by omega) (by omega) n15
  obtain ⟨Aa, ca, hpa, hra⟩ := kidV hv (i := 0) (by omega)
  change PCells Φ _ (xK X 0 Aa ca) at hpa
  change RepSl Φ (Mn.kid X 0).Kids (.slice Aa (Mn.kid X 0).Kids.length ca) at hra
  repeat refine gs1 ?_
  refine RW.q (v := .pointer (some (Value.at (.slice vA X.Kids.length vc) (0 * 5)))) rfl (qa_ixL (n := X.Kids.length) (i := 0) rfl rfl hvs (by omega)) (RW.q (v := .agg (xK X 0 Aa ca).toArray) rfl (qa_ldA (cs := xK X 0 Aa ca) rfl (Cells.phi hpa) rfl) ?_)
  repeat refine gs1 ?_
  refine RW.own (args := #[pB x, .agg (xK X 0 Aa ca).toArray, .slice pA ps.length pc]) (C2 := [.blk b4 59 (exC X (.slice vA X.Kids.length vc))]) [1, 0] (by decide) rfl rfl oK rfl rfl (fun w1 hw1 => hK (i := 0) (by omega) (hu) hra hw1) (fun er CE w2 he hk hw => evR.pn (by rw [← hev]; exact Mn.bnd_err he) hk hw) ?_
  rintro ⟨va, ua⟩ _ hr
  rw [Mn.bnd_ok hr] at hev
  have hIa := hI (by omega) hr
  simp only at hIa ⊢
  repeat refine gs1 ?_
  refine AW.cond rfl (fun hc => ?_) fun hc => ?_
  ·
   have hc : va ≠ 0 := by simpa using hc
   rw [if_pos hc] at hev
   repeat refine gs1 ?_
   exact fin_res (vs := [iV (1)]) rfl rfl ⟨.tmp rfl, trivial⟩ rfl (fun w1 hw1 => evR.ok hev.symm hw1)
  have hc : va = 0 := by simpa using hc
  rw [if_neg (by omega)] at hev
  obtain ⟨Ab, cb, hpb, hrb⟩ := kidV hv (i := 1) (by omega)
  change PCells Φ _ (xK X 1 Ab cb) at hpb
  change RepSl Φ (Mn.kid X 1).Kids (.slice Ab (Mn.kid X 1).Kids.length cb) at hrb
  repeat refine gs1 ?_
  refine RW.q (v := .pointer (some (Value.at (.slice vA X.Kids.length vc) (1 * 5)))) rfl (qa_ixL (n := X.Kids.length) (i := 1) rfl rfl hvs (by omega)) (RW.q (v := .agg (xK X 1 Ab cb).toArray) rfl (qa_ldA (cs := xK X 1 Ab cb) rfl (Cells.phi hpb) rfl) ?_)
  repeat refine gs1 ?_
  refine RW.own (args := #[pB x, .agg (xK X 1 Ab cb).toArray, .slice pA ps.length pc]) (C2 := [.blk b4 59 (exC X (.slice vA X.Kids.length vc))]) [0, 1] (by decide) rfl rfl oK rfl rfl (fun w1 hw1 => hK (i := 1) (by omega) (by omega) hrb hw1) (fun er CE w2 he hk hw => evR.pn (hev.symm.trans he) hk hw) ?_
  rintro ⟨vb, ub⟩ _ hr
  simp only
  repeat refine gs1 ?_
  exact fin_res (vs := [iV (vb)]) rfl rfl ⟨.tmp rfl, trivial⟩ rfl (fun w1 hw1 => evR.ok (hev.symm.trans hr) hw1)
 have n12 : X.Kind ≠ 12 := odF n12
 rw [if_neg n12] at hev
 repeat refine gs1 ?_
 refine AW.cond rfl (fun h => ?_) fun n13 => ?_
 ·
  have h : X.Kind = 13 := odT h
  rw [if_pos h] at hev
  have hl := hn.a3 h
  obtain ⟨Aa, ca, hpa, hra⟩ := kidV hv (i := 0) (by omega)
  change PCells Φ _ (xK X 0 Aa ca) at hpa
  change RepSl Φ (Mn.kid X 0).Kids (.slice Aa (Mn.kid X 0).Kids.length ca) at hra
  repeat refine gs1 ?_
  refine RW.q (v := .pointer (some (Value.at (.slice vA X.Kids.length vc) (0 * 5)))) rfl (qa_ixL (n := X.Kids.length) (i := 0) rfl rfl hvs (by omega)) (RW.q (v := .agg (xK X 0 Aa ca).toArray) rfl (qa_ldA (cs := xK X 0 Aa ca) rfl (Cells.phi hpa) rfl) ?_)
  repeat refine gs1 ?_
  refine RW.own (args := #[pB x, .agg (xK X 0 Aa ca).toArray, .slice pA ps.length pc]) (C2 := [.blk b4 59 (exC X (.slice vA X.Kids.length vc))]) [1, 0] (by decide) rfl rfl oK rfl rfl (fun w1 hw1 => hK (i := 0) (by omega) (hu) hra hw1) (fun er CE w2 he hk hw => evR.pn (by rw [← hev]; exact Mn.bnd_err he) hk hw) ?_
  rintro ⟨va, ua⟩ _ hr
  rw [Mn.bnd_ok hr] at hev
  have hIa := hI (by omega) hr
  simp only at hIa ⊢
  repeat refine gs1 ?_
  refine AW.cond rfl (fun hc => ?_) fun hc => ?_
  ·
   have hc : va ≠ 0 := by simpa using hc
   rw [if_pos hc] at hev
   obtain ⟨Ab, cb, hpb, hrb⟩ := kidV hv (i := 1) (by omega)
   change PCells Φ _ (xK X 1 Ab cb) at hpb
   change RepSl Φ (Mn.kid X 1).Kids (.slice Ab (Mn.kid X 1).Kids.length cb) at hrb
   repeat refine gs1 ?_
   refine RW.q (v := .pointer (some (Value.at (.slice vA X.Kids.length vc) (1 * 5)))) rfl (qa_ixL (n := X.Kids.length) (i := 1) rfl rfl hvs (by omega)) (RW.q (v := .agg (xK X 1 Ab cb).toArray) rfl (qa_ldA (cs := xK X 1 Ab cb) rfl (Cells.phi hpb) rfl) ?_)
   repeat refine gs1 ?_
   refine RW.own (args := #[pB x, .agg (xK X 1 Ab cb).toArray, .slice pA ps.length pc]) (C2 := [.blk b4 59 (exC X (.slice vA X.Kids.length vc))]) [0, 1] (by decide) rfl rfl oK rfl rfl (fun w1 hw1 => hK (i := 1) (by omega) (by omega) hrb hw1) (fun er CE w2 he hk hw => evR.pn (hev.symm.trans he) hk hw) ?_
   rintro ⟨vb, ub⟩ _ hr
   simp only
   repeat refine gs1 ?_
   exact fin_res (vs := [iV (vb)]) rfl rfl ⟨.tmp rfl, trivial⟩ rfl (fun w1 hw1 => evR.ok (hev.symm.trans hr) hw1)
  have hc : va = 0 := by simpa using hc
  rw [if_neg (by omega)] at hev
  obtain ⟨Ab, cb, hpb, hrb⟩ := kidV hv (i := 2) (by omega)
  change PCells Φ _ (exC (Mn.kid X 2) (.slice Ab (Mn.kid X 2).Kids.length cb)) at hpb
  change RepSl Φ (Mn.kid X 2).Kids (.slice Ab (Mn.kid X 2).Kids.length cb) at hrb
  repeat refine gs1 ?_
  refine RW.q (v := .pointer (some (Value.at (.slice vA X.Kids.length vc) (2 * 5)))) rfl (qa_ixL (n := X.Kids.length) (i := 2) rfl rfl hvs (by omega)) (RW.q (v := .agg (exC (Mn.kid X 2) (.slice Ab (Mn.kid X 2).Kids.length cb)).toArray) rfl (qa_ldA (cs := exC (Mn.kid X 2) (.slice Ab (Mn.kid X 2).Kids.length cb)) rfl (Cells.phi hpb) rfl) ?_)
  repeat refine gs1 ?_
  refine RW.own (args := #[pB x, .agg (exC (Mn.kid X 2) (.slice Ab (Mn.kid X 2).Kids.length cb)).toArray, .slice pA ps.length pc]) (C2 := [.blk b4 59 (exC X (.slice vA X.Kids.length vc))]) [0, 1] (by decide) rfl rfl oK rfl rfl (fun w1 hw1 => hK (i := 2) (by omega) (by omega) hrb hw1) (fun er CE w2 he hk hw => evR.pn (hev.symm.trans he) hk hw) ?_
  rintro ⟨vb, ub⟩ _ hr
  simp only
  repeat refine gs1 ?_
  exact fin_res (vs := [iV (vb)]) rfl rfl ⟨.tmp rfl, trivial⟩ rfl (fun w1 hw1 => evR.ok (hev.symm.trans hr) hw1)
 have n13 : X.Kind ≠ 13 := odF n13
 rw [if_neg n13] at hev
 repeat refine gs1 ?_
 refine AW.cond rfl (fun h => ?_) fun n14 => ?_
 ·
  have h : X.Kind = 14 := odT h
  rw [if_pos h] at hev
  have hev2 : Mn.ev fs f y.d (g + 1) c X ps u = res := by rw [Mn.ev, if_neg n0, if_neg n15, if_neg n1, if_neg n2, if_neg n3, if_neg n11, if_neg n12, if_neg n13, if_pos h]; exact hev
  repeat refine gs1 ?_
  refine RW.own (args := #[pB x, .agg (exC X (.slice vA X.Kids.length vc)).toArray, .slice pA ps.length pc]) (C2 := [.blk b4 59 (exC X (.slice vA X.Kids.length vc))]) [1, 0] (by decide) rfl rfl oK rfl rfl (fun w1 hw1 => hcall Φ X _ w1 j ts ps _ u c hC hv h hj hlen hpv hu hc0 hc1 hlim hw1) (fun er CE w2 he hk hw => evR.pn (hev2.symm.trans he) hk hw) ?_
  rintro ⟨vb, ub⟩ _ hr
  simp only
  repeat refine gs1 ?_
  exact fin_res (vs := [iV (vb)]) rfl rfl ⟨.tmp rfl, trivial⟩ rfl (fun w1 hw1 => evR.ok (hev2.symm.trans hr) hw1)
 have n14 : X.Kind ≠ 14 := odF n14
 rw [if_neg n14] at hev
 repeat refine gs1 ?_
 have hl := hn.a2 n0 n1 n2 n3 n13 n14 n15
 obtain ⟨Aa, ca, hpa, hra⟩ := kidV hv (i := 0) (by omega)
 change PCells Φ _ (xK X 0 Aa ca) at hpa
 change RepSl Φ (Mn.kid X 0).Kids (.slice Aa (Mn.kid X 0).Kids.length ca) at hra
 repeat refine gs1 ?_
 refine RW.q (v := .pointer (some (Value.at (.slice vA X.Kids.length vc) (0 * 5)))) rfl (qa_ixL (n := X.Kids.length) (i := 0) rfl rfl hvs (by omega)) (RW.q (v := .agg (xK X 0 Aa ca).toArray) rfl (qa_ldA (cs := xK X 0 Aa ca) rfl (Cells.phi hpa) rfl) ?_)
 repeat refine gs1 ?_
 refine RW.own (args := #[pB x, .agg (xK X 0 Aa ca).toArray, .slice pA ps.length pc]) (C2 := [.blk b4 59 (exC X (.slice vA X.Kids.length vc))]) [1, 0] (by decide) rfl rfl oK rfl rfl (fun w1 hw1 => hK (i := 0) (by omega) (hu) hra hw1) (fun er CE w2 he hk hw => evR.pn (by rw [← hev]; exact Mn.bnd_err he) hk hw) ?_
 rintro ⟨va, ua⟩ _ hr
 rw [Mn.bnd_ok hr] at hev
 have hIa := hI (by omega) hr
 simp only at hIa ⊢
 repeat refine gs1 ?_
 obtain ⟨Ab, cb, hpb, hrb⟩ := kidV hv (i := 1) (by omega)
 change PCells Φ _ (xK X 1 Ab cb) at hpb
 change RepSl Φ (Mn.kid X 1).Kids (.slice Ab (Mn.kid X 1).Kids.length cb) at hrb
 refine AW.draw (J0 := St ⟨w, Φ, fps [rB x y u c]⟩ Φ [.blk b4 59 (exC X (.slice vA X.Kids.length vc))]) [.q, .q, .q, .q, .q, .q, .q, .q, .q, .e, .e, .q] [0, 1, 2, 3, 4, 5, 6, 7, 8, 9, 10, 11] hmix (by kernel_rfl) ?_
 repeat refine gs1 ?_
 refine DW.q (v := .pointer (some (Value.at (.slice vA X.Kids.length vc) (1 * 5)))) (fun _ h => St.one 1 rfl h) rfl (qa_ixL (n := X.Kids.length) (i := 1) rfl rfl hvs (by omega)) (DW.q (v := .agg (xK X 1 Ab cb).toArray) (fun _ h => St.one 1 rfl h) rfl (qa_ldA (cs := xK X 1 Ab cb) rfl (Cells.phi hpb) rfl) ?_)
 repeat refine gs1 ?_
 refine DW.own (args := #[pB x, .agg (xK X 1 Ab cb).toArray, .slice pA ps.length pc]) (C2 := [.blk b4 59 (exC X (.slice vA X.Kids.length vc))]) [0, 1] (by decide) rfl rfl oK rfl rfl (fun w1 hw1 => hK (i := 1) (by omega) (by omega) hrb hw1) (fun er CE w2 he hk hw => evR.pn (by rw [← hev]; exact Mn.bnd_err he) hk hw) (fun _ _ _ h => St.one 1 rfl h) ?_
 rintro ⟨vb, ub⟩ _ hr
 rw [Mn.bnd_ok hr] at hev
 have hIb := hI (by omega) hr
 simp only at hIb ⊢
 repeat refine gs1 ?_
 refine DW.own (args := #[iV X.Kind, iV va, iV vb]) (A := []) (C2 := [rB x y ub c, .blk b4 59 (exC X (.slice vA X.Kids.length vc))]) [0, 1] (by decide) rfl rfl oK rfl rfl (fun w1 hw1 => operate_c w1 hw1.phi hIa.1 hIb.1) (fun er CE w2 he hk hw => ?_) (fun _ _ _ h => St.one 1 rfl h) ?_
 ·
  obtain rfl := hk
  exact evR.pn (er := (er, ub)) (CE := [rB x y ub c]) (by rw [← hev, he]) ⟨c, rfl⟩ hw
 rintro vo _ hr2
 rw [hr2] at hev
 repeat refine gs1 ?_
 exact fin_res (vs := [iV (vo)]) rfl rfl ⟨.tmp rfl, trivial⟩ rfl (fun w1 hw1 => evR.ok hev.symm hw1)
end
end Go.Proofs.YtjmeeofdffdpnaaGreatDoor
