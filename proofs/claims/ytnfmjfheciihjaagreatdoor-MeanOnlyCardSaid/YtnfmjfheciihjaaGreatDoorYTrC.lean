/- Lemmas. Conditions: those of each theorem. -/
import Derived.Test.YtnfmjfheciihjaaGreatDoorYRuR
import Derived.Test.YtnfmjfheciihjaaGreatDoorYParK
set_option maxRecDepth 8000
set_option maxHeartbeats 16000000
namespace Ru
open Bt
def nmA (c : UInt8) : Bool := (decide (97 ≤ c.toNat) && decide (c.toNat ≤ 122)) || (decide (65 ≤ c.toNat) && decide (c.toNat ≤ 90))
def nmAt (i : Nat) (c : UInt8) : Bool := nmA c || (decide (i ≠ 0) && (decide (c.toNat = 95) || (decide (48 ≤ c.toNat) && decide (c.toNat ≤ 57))))
def isNm (l : List UInt8) : Bool := decide (l ≠ []) && decide (l.length ≤ 24) && (List.range l.length).all fun i => nmAt i (l.getD i 0)
abbrev nmT (i : Nat) (c : UInt8) : Bool := (!(((decide (((97 : Nat) : Int) ≤ ((c.toNat : Nat) : Int))) && (decide (((c.toNat : Nat) : Int) ≤ ((122 : Nat) : Int)))) || ((decide (((65 : Nat) : Int) ≤ ((c.toNat : Nat) : Int))) && (decide (((c.toNat : Nat) : Int) ≤ ((90 : Nat) : Int)))))) && ((decide ((i : Int) = 0)) || ((!decide (((c.toNat : Nat) : Int) = ((95 : Nat) : Int))) && ((decide (((c.toNat : Nat) : Int) < ((48 : Nat) : Int))) || (decide (((57 : Nat) : Int) < ((c.toNat : Nat) : Int))))))
theorem nmT_eq (i : Nat) (c : UInt8) : nmT i c = !nmAt i c := by
  unfold nmT nmAt nmA
  rw [Bool.eq_iff_iff]
  simp only [Bool.and_eq_true, Bool.or_eq_true, Bool.not_eq_true', decide_eq_true_eq, decide_eq_false_iff_not, Bool.or_eq_false_iff, Bool.and_eq_false_iff]
  omega
theorem isNm_0 {l : List UInt8} (h : (decide (l = ([] : List UInt8)) || decide ((24 : Int) < ((l.length : Nat) : Int))) = true) : isNm l = false := by
  unfold isNm
  simp only [Bool.or_eq_true, decide_eq_true_eq] at h
  rcases h with h | h
  · simp [h]
  · rw [show decide (l.length ≤ 24) = false by simp; omega]; simp
theorem isNm_1 {l : List UInt8} {i : Nat} (hi : i < l.length) (h : nmAt i (l.getD i 0) = false) : isNm l = false := by
  unfold isNm
  rw [Bool.and_eq_false_iff]
  refine .inr ?_
  rw [List.all_eq_false]
  exact ⟨i, List.mem_range.2 hi, by rw [h]; simp⟩
theorem isNm_2 {l : List UInt8} (h : (decide (l = ([] : List UInt8)) || decide ((24 : Int) < ((l.length : Nat) : Int))) = false) (ha : (List.range l.length).all (fun j => nmAt j (l.getD j 0)) = true) : isNm l = true := by
  unfold isNm
  simp only [Bool.or_eq_false_iff, decide_eq_false_iff_not] at h
  rw [ha, Bool.and_true, Bool.and_eq_true]
  exact ⟨decide_eq_true h.1, decide_eq_true (by omega)⟩
def den (l : List (List UInt8)) (i : Int) : Bool := decide (0 ≤ i) && decide (i < l.length) && isNm (l.getD i.toNat []) && decide (ix l (l.getD i.toNat []) = some i.toNat)
def jfact (e : Env) (x : Expr) : Bool :=
  if x.N = 0 ∨ x.N = 1 then den e.places x.Of && decide (x.Of2 = 0)
  else if x.N = 2 then den e.places x.Of && den e.owners x.Of2
  else if x.N = 3 then den e.links x.Of && decide (x.Of2 = 0)
  else if x.N = 7 then den e.towns x.Of && decide (x.Of2 = 0)
  else if x.N = 4 ∨ x.N = 5 ∨ x.N = 6 then decide (x.Of = 0) && decide (x.Of2 = 0)
  else false
def jop (k : Int) (l : List Int) : Int × Bool :=
  if k = 2 then (0, decide (l = [0]))
  else if k = 3 then (1, decide (l = [1]))
  else if k = 4 ∨ k = 5 ∨ k = 6 ∨ k = 7 then (0, decide (l = [0, 0]))
  else if k = 8 ∨ k = 9 then (1, decide (l = [0, 0]))
  else if k = 10 then (1, decide (l.length = 2) && decide (l.getD 0 0 = l.getD 1 0))
  else if k = 11 ∨ k = 12 then (1, decide (l = [1, 1]))
  else if k = 13 then (if l.length ≠ 3 ∨ l.getD 0 0 ≠ 1 ∨ l.getD 1 0 ≠ l.getD 2 0 then (0, false) else (l.getD 1 0, true))
  else (0, false)
def jxs (f : Expr → Int × Bool) : List Expr → Option (List Int)
  | [] => some []
  | x :: xs => if (f x).2 then (jxs f xs).map ((f x).1 :: ·) else none
def jnd (e : Env) (fs : List RFunc) (ps : List Int) (x : Expr) (ks : List Int) : Int × Bool :=
  if x.Kind = 0 then (0, decide (ks = []) && decide (0 ≤ x.N) && decide (x.N ≤ 1125899906842624))
  else if x.Kind = 1 then (0, decide (ks = []) && jfact e x)
  else if x.Kind = 15 then (if ks ≠ [] ∨ x.N < 0 ∨ (ps.length : Int) ≤ x.N then (0, false) else (ps.getD x.N.toNat 0, true))
  else if x.Kind = 14 then (if x.N < 0 ∨ (fs.length : Int) ≤ x.N then (0, false) else ((fs.getD x.N.toNat default).Result, decide (ks = (fs.getD x.N.toNat default).Params)))
  else if x.N ≠ 0 then (0, false) else jop x.Kind ks
def jx (e : Env) (fs : List RFunc) (ps : List Int) : Nat → Expr → Int × Bool
  | 0, _ => (0, false)
  | f + 1, x => if x.Kind ≠ 1 ∧ (x.Of ≠ 0 ∨ x.Of2 ≠ 0) then (0, false) else
    match jxs (jx e fs ps f) x.Kids with
    | none => (0, false)
    | some ks => jnd e fs ps x ks
def jhas (e : Env) (fs : List RFunc) (ps : List Int) (x : Expr) (k : Int) : Bool := (jx e fs ps 40 x).2 && decide ((jx e fs ps 40 x).1 = k)
def jhead : List (List UInt8) → List RFunc → Bool
  | _, [] => true
  | seen, f :: fs => isNm f.Name && !kw f.Name && !seen.contains f.Name && (decide (f.Result = 0) || decide (f.Result = 1)) && f.Params.all (fun t => decide (t = 0) || decide (t = 1)) && jhead (seen ++ [f.Name]) fs
def jcl (e : Env) (fs : List RFunc) (c : RClause) : Bool := den e.links c.Link && jhas e fs [] c.If 1 && jhas e fs [] c.To 0
def rightR (e : Env) (r : Rule) : Bool := jhead [] r.Funcs && r.Funcs.all (fun f => jhas e r.Funcs f.Params f.Body f.Result) && r.Clauses.all (jcl e r.Funcs)
theorem jxs_snoc {f : Expr → Int × Bool} : ∀ (xs : List Expr) (y : Expr), jxs f (xs ++ [y]) = (jxs f xs).bind fun l => if (f y).2 then some (l ++ [(f y).1]) else none
  | [], y => by simp [jxs]
  | x :: xs, y => by
    simp only [List.cons_append, jxs, jxs_snoc xs y]
    split
    · cases h : jxs f xs with
      | none => rfl
      | some l => simp only [Option.map_some, Option.bind_some]; split <;> rfl
    · rfl
theorem jxs_none {f : Expr → Int × Bool} : ∀ {xs : List Expr} {x : Expr}, x ∈ xs → (f x).2 = false → jxs f xs = none
  | [], _, h, _ => by cases h
  | y :: ys, x, h, hf => by
    unfold jxs
    rcases List.mem_cons.1 h with rfl | h
    · rw [if_neg (by simp [hf])]
    · rw [jxs_none h hf]; split <;> rfl
theorem jxs_mem {f : Expr → Int × Bool} : ∀ {xs : List Expr} {l : List Int}, jxs f xs = some l → l = xs.map (fun x => (f x).1) ∧ ∀ x ∈ xs, (f x).2 = true
  | [], l, h => by cases h; exact ⟨rfl, fun x hx => by cases hx⟩
  | y :: ys, l, h => by
    unfold jxs at h
    split at h
    · rename_i h1
      obtain ⟨l', h2, rfl⟩ := Option.map_eq_some_iff.1 h
      obtain ⟨h3, h4⟩ := jxs_mem h2
      refine ⟨by rw [h3]; rfl, fun x hx => ?_⟩
      rcases List.mem_cons.1 hx with rfl | hx
      · exact h1
      · exact h4 x hx
    · cases h
theorem eqI_of {xs ys : List Int} (hl : xs.length = ys.length) (h : ∀ j, j < xs.length → xs.getD j 0 = ys.getD j 0) : xs = ys :=
  List.ext_getElem hl fun i h1 h2 => by
    have := h i h1
    rwa [gDD, gDD, List.getElem?_eq_getElem h1, List.getElem?_eq_getElem h2] at this
end Ru
namespace Mn
open Bt
abbrev mx : Int := 9223372036854775807
abbrev mn : Int := -9223372036854775808
def lim (n : Int) : Int := if n < mn then mn else if mx < n then mx else n
def clampI (n lo hi : Int) : Int := if n < lo then lo else if hi < n then hi else n
theorem lim_I64 (n : Int) : mn ≤ lim n ∧ lim n ≤ mx := by unfold lim mn mx; split <;> (try split) <;> omega
def atL (l : List Int) (i : Int) : Int := if i < 0 ∨ (l.length : Int) ≤ i then 0 else l.getD i.toNat 0
def bef (y : Int) : Int := 365 * (y - 2000) + (y - 2000 + 3) / 4 - (y - 2000 + 99) / 100 + (y - 2000 + 399) / 400
def leap (y : Int) : Bool := decide (y % 4 = 0) && (decide (y % 100 ≠ 0) || decide (y % 400 = 0))
def months : List Int := [31, 29, 31, 30, 31, 30, 31, 31, 30, 31, 30, 31]
def mlen (y m : Int) : Int := if m = 2 ∧ leap y = false then 28 else months.getD (m - 1).toNat 0
def yearF : Nat → Int → Int → Int
  | 0, _, y => y
  | f + 1, d, y => if bef (y + 1) ≤ d then yearF f d (y + 1) else y
def monF : Nat → Int → Int → Int → Int × Int
  | 0, _, d, m => (d, m)
  | f + 1, y, d, m => if mlen y m ≤ d then monF f y (d - mlen y m) (m + 1) else (d, m)
def ymd (h : Int) : Int × Int × Int :=
  let y := yearF 2000 (h / 24) (2000 + h / 24 / 366)
  let r := monF 12 y (h / 24 - bef y) 1
  (y, r.2, r.1 + 1)
def dateOf (h : Int) : (Int × Int × Int × Int) × Bool :=
  if h < 0 ∨ 16777216 < h then ((0, 0, 0, 0), false) else (((ymd h).1, (ymd h).2.1, (ymd h).2.2, h % 24), true)
theorem bef_ge {y : Int} (h : 2000 ≤ y) : 365 * (y - 2000) ≤ bef y ∧ bef y ≤ 366 * (y - 2000) := by unfold bef; omega
theorem bef_next (y : Int) (_ : 2000 ≤ y) : bef (y + 1) - bef y = if leap y = true then 366 else 365 := by
  unfold bef leap
  split
  · rename_i hl
    simp only [Bool.and_eq_true, Bool.or_eq_true, decide_eq_true_eq] at hl
    omega
  · rename_i hl
    simp only [Bool.and_eq_true, Bool.or_eq_true, decide_eq_true_eq] at hl
    omega
theorem yearF_ok : ∀ (f : Nat) (d y : Int), 2000 ≤ y → 0 ≤ d → bef y ≤ d → d < 365 * (y + f - 2000) → 2000 ≤ yearF f d y ∧ bef (yearF f d y) ≤ d ∧ d < bef (yearF f d y + 1)
  | 0, d, y, h1, h2, h3, h4 => by have := bef_ge h1; omega
  | f + 1, d, y, h1, h2, h3, h4 => by
    unfold yearF
    split
    · rename_i h
      exact yearF_ok f d (y + 1) (by omega) h2 h (by omega)
    · rename_i h
      exact ⟨h1, h3, by omega⟩
end Mn
namespace Go.Proofs.YtnfmjfheciihjaaGreatDoor
open Go Go.K Go.RowKit
attribute [local irreducible] AW RW DW Post Qt
theorem Clamp_c (w : World) (Φ : Hp) (hΦ : Hp.le Φ (hp w)) {a b d : Int} :
  Calls pg 15 #[iV a, iV b, iV d] w fun e w' => e = .returned (iV (Mn.clampI a b d)) ∧ Bel w.heap.size w w' := by
 refine calls_of_AW (args := [iV a, iV b, iV d]) Tryz.func15 rfl (lBT rfl) (St ⟨w, Φ, []⟩ Φ []) (StP.init w Φ hΦ []) ?_
 show AW pg 16 [] _ _ _ [(0, iV a), (1, iV b), (2, iV d)] _
 refine g13 ?_
 refine AW.cond rfl (fun hc1 => ?_) fun hc1 => ?_
 ·
  simp [-List.getD_eq_getElem?_getD] at hc1
  refine g8 ?_
  exact fin_val (v' := iV b) rfl rfl rfl (congrArg (Value.int .i64) (by unfold Mn.clampI; rw [if_pos (by omega)]))
 ·
  simp [-List.getD_eq_getElem?_getD] at hc1
  refine g10 ?_
  refine AW.cond rfl (fun hc2 => ?_) fun hc2 => ?_
  ·
   simp [-List.getD_eq_getElem?_getD] at hc2
   refine g8 ?_
   exact fin_val (v' := iV d) rfl rfl rfl (congrArg (Value.int .i64) (by unfold Mn.clampI; rw [if_neg (by omega), if_pos (by omega)]))
  ·
   simp [-List.getD_eq_getElem?_getD] at hc2
   refine g9 ?_
   exact fin_val (v' := iV a) rfl rfl rfl (congrArg (Value.int .i64) (by unfold Mn.clampI; rw [if_neg (by omega), if_neg (by omega)]))
theorem Add_c (w : World) (Φ : Hp) (hΦ : Hp.le Φ (hp w)) {a b : Int} (ha : I64 a) (hb : I64 b) :
  Calls pg 79 #[iV a, iV b] w fun e w' => e = .returned (iV (Mn.lim (a + b))) ∧ Bel w.heap.size w w' := by
 refine calls_of_AW (args := [iV a, iV b]) Tryz.func79 rfl (lBT rfl) (St ⟨w, Φ, []⟩ Φ []) (StP.init w Φ hΦ []) ?_
 show AW pg 24 [] _ _ _ [(0, iV a), (1, iV b)] _
 have ha0 := ha
 have hb0 := hb
 unfold I64 at ha0 hb0
 refine g13 ?_
 refine RW.g (b := (decide ((0 : Int) < b))) (v := iV (9223372036854775807 - b)) rfl rfl rfl (fun h => q_sub rfl (gv_pos h) (by (try simp [-List.getD_eq_getElem?_getD] at h); omega) (by (try simp [-List.getD_eq_getElem?_getD] at h); unfold I64; omega)) ?_
 refine g1 ?_
 obtain ⟨qb1, hqb1⟩ : ∃ qz : Bool, ((decide ((0 : Int) < b)) && (decide (9223372036854775807 - b < a))) = qz := ⟨_, rfl⟩
 refine RW.q (v := .bool qb1) rfl (q_as (v := .bool ((decide ((0 : Int) < b)) && (decide (9223372036854775807 - b < a)))) (qpA rfl rfl rfl) (congrArg Value.bool hqb1)) ?_
 subst hqb1
 refine g2 ?_
 refine AW.cond rfl (fun hc1 => ?_) fun hc1 => ?_
 ·
  simp [-List.getD_eq_getElem?_getD] at hc1
  refine g7 ?_
  exact fin_val (v' := iV 9223372036854775807) rfl rfl rfl (congrArg (Value.int .i64) (by unfold Mn.lim Mn.mn Mn.mx; unfold I64 at ha hb; first | omega | (split <;> first | omega | (split <;> omega))))
 ·
  simp [-List.getD_eq_getElem?_getD] at hc1
  refine g10 ?_
  refine RW.g (b := (decide (b < 0))) (v := iV ((-9223372036854775808) - b)) rfl rfl rfl (fun h => q_sub rfl (gv_pos h) (by (try simp [-List.getD_eq_getElem?_getD] at h); omega) (by (try simp [-List.getD_eq_getElem?_getD] at h); unfold I64; omega)) ?_
  refine g1 ?_
  obtain ⟨qb2, hqb2⟩ : ∃ qz : Bool, ((decide (b < 0)) && (decide (a < (-9223372036854775808) - b))) = qz := ⟨_, rfl⟩
  refine RW.q (v := .bool qb2) rfl (q_as (v := .bool ((decide (b < 0)) && (decide (a < (-9223372036854775808) - b)))) (qpA rfl rfl rfl) (congrArg Value.bool hqb2)) ?_
  subst hqb2
  refine g2 ?_
  refine AW.cond rfl (fun hc2 => ?_) fun hc2 => ?_
  ·
   simp [-List.getD_eq_getElem?_getD] at hc2
   refine g7 ?_
   exact fin_val (v' := iV (-9223372036854775808)) rfl rfl rfl (congrArg (Value.int .i64) (by unfold Mn.lim Mn.mn Mn.mx; unfold I64 at ha hb; first | omega | (split <;> first | omega | (split <;> omega))))
  ·
   simp [-List.getD_eq_getElem?_getD] at hc2
   refine g11 ?_
   exact fin_val (v' := iV (a + b)) rfl rfl rfl (congrArg (Value.int .i64) (by unfold Mn.lim Mn.mn Mn.mx; unfold I64 at ha hb; first | omega | (split <;> first | omega | (split <;> omega))))
theorem Sub_c (w : World) (Φ : Hp) (hΦ : Hp.le Φ (hp w)) {a b : Int} (ha : I64 a) (hb : I64 b) :
  Calls pg 49 #[iV a, iV b] w fun e w' => e = .returned (iV (Mn.lim (a - b))) ∧ Bel w.heap.size w w' := by
 refine calls_of_AW (args := [iV a, iV b]) Tryz.func49 rfl (lBT rfl) (St ⟨w, Φ, []⟩ Φ []) (StP.init w Φ hΦ []) ?_
 show AW pg 24 [] _ _ _ [(0, iV a), (1, iV b)] _
 have ha0 := ha
 have hb0 := hb
 unfold I64 at ha0 hb0
 refine g13 ?_
 refine RW.g (b := (decide (b < 0))) (v := iV (9223372036854775807 + b)) rfl rfl rfl (fun h => q_add rfl (gv_pos h) (by (try simp [-List.getD_eq_getElem?_getD] at h); omega) (by (try simp [-List.getD_eq_getElem?_getD] at h); unfold I64; omega)) ?_
 refine g1 ?_
 obtain ⟨qb1, hqb1⟩ : ∃ qz : Bool, ((decide (b < 0)) && (decide (9223372036854775807 + b < a))) = qz := ⟨_, rfl⟩
 refine RW.q (v := .bool qb1) rfl (q_as (v := .bool ((decide (b < 0)) && (decide (9223372036854775807 + b < a)))) (qpA rfl rfl rfl) (congrArg Value.bool hqb1)) ?_
 subst hqb1
 refine g2 ?_
 refine AW.cond rfl (fun hc1 => ?_) fun hc1 => ?_
 ·
  simp [-List.getD_eq_getElem?_getD] at hc1
  refine g7 ?_
  exact fin_val (v' := iV 9223372036854775807) rfl rfl rfl (congrArg (Value.int .i64) (by unfold Mn.lim Mn.mn Mn.mx; unfold I64 at ha hb; first | omega | (split <;> first | omega | (split <;> omega))))
 ·
  simp [-List.getD_eq_getElem?_getD] at hc1
  refine g10 ?_
  refine RW.g (b := (decide ((0 : Int) < b))) (v := iV ((-9223372036854775808) + b)) rfl rfl rfl (fun h => q_add rfl (gv_pos h) (by (try simp [-List.getD_eq_getElem?_getD] at h); omega) (by (try simp [-List.getD_eq_getElem?_getD] at h); unfold I64; omega)) ?_
  refine g1 ?_
  obtain ⟨qb2, hqb2⟩ : ∃ qz : Bool, ((decide ((0 : Int) < b)) && (decide (a < (-9223372036854775808) + b))) = qz := ⟨_, rfl⟩
  refine RW.q (v := .bool qb2) rfl (q_as (v := .bool ((decide ((0 : Int) < b)) && (decide (a < (-9223372036854775808) + b)))) (qpA rfl rfl rfl) (congrArg Value.bool hqb2)) ?_
  subst hqb2
  refine g2 ?_
  refine AW.cond rfl (fun hc2 => ?_) fun hc2 => ?_
  ·
   simp [-List.getD_eq_getElem?_getD] at hc2
   refine g7 ?_
   exact fin_val (v' := iV (-9223372036854775808)) rfl rfl rfl (congrArg (Value.int .i64) (by unfold Mn.lim Mn.mn Mn.mx; unfold I64 at ha hb; first | omega | (split <;> first | omega | (split <;> omega))))
  ·
   simp [-List.getD_eq_getElem?_getD] at hc2
   refine g11 ?_
   exact fin_val (v' := iV (a - b)) rfl rfl rfl (congrArg (Value.int .i64) (by unfold Mn.lim Mn.mn Mn.mx; unfold I64 at ha hb; first | omega | (split <;> first | omega | (split <;> omega))))
theorem truth1_c (w : World) (Φ : Hp) (hΦ : Hp.le Φ (hp w)) {t : Bool} :
  Calls pg 81 #[.bool t] w fun e w' => e = .returned (iV (if t then 1 else 0)) ∧ Bel w.heap.size w w' := by
 refine calls_of_AW (args := [.bool t]) Tryz.func81 rfl (lBT rfl) (St ⟨w, Φ, []⟩ Φ []) (StP.init w Φ hΦ []) ?_
 show AW pg 4 [] _ _ _ [(0, .bool t)] _
 refine g11 ?_
 refine AW.cond rfl (fun hc1 => ?_) fun hc1 => ?_
 ·
  refine g7 ?_
  exact fin_val (v' := iV 1) rfl rfl rfl (congrArg (Value.int .i64) (by simp_all))
 ·
  refine g8 ?_
  exact fin_val (v' := iV 0) rfl rfl rfl (congrArg (Value.int .i64) (by simp_all))
theorem isType_c (w : World) (Φ : Hp) (hΦ : Hp.le Φ (hp w)) {a : Int} :
  Calls pg 42 #[iV a] w fun e w' => e = .returned (.bool (decide (a = 0) || decide (a = 1))) ∧ Bel w.heap.size w w' := by
 refine calls_of_AW (args := [iV a]) Tryz.func42 rfl (lBT rfl) (St ⟨w, Φ, []⟩ Φ []) (StP.init w Φ hΦ []) ?_
 show AW pg 9 [] _ _ _ [(0, iV a)] _
 refine g12 ?_
 obtain ⟨qb1, hqb1⟩ : ∃ qz : Bool, ((decide (a = 0)) || (decide (a = 1))) = qz := ⟨_, rfl⟩
 refine RW.q (v := .bool qb1) rfl (q_as (v := .bool ((decide (a = 0)) || (decide (a = 1)))) (qpO rfl rfl rfl) (congrArg Value.bool hqb1)) ?_
 refine g1 ?_
 subst hqb1
 refine g3 ?_
 exact fin_val (v' := .bool ((decide (a = 0)) || (decide (a = 1)))) rfl rfl rfl (rfl)
theorem leap_c (w : World) (Φ : Hp) (hΦ : Hp.le Φ (hp w)) {a : Nat} :
  Calls pg 77 #[iV (a : Int)] w fun e w' => e = .returned (.bool (Mn.leap (a : Int))) ∧ Bel w.heap.size w w' := by
 refine calls_of_AW (args := [iV (a : Int)]) Tryz.func77 rfl (lBT rfl) (St ⟨w, Φ, []⟩ Φ []) (StP.init w Φ hΦ []) ?_
 show AW pg 16 [] _ _ _ [(0, iV (a : Int))] _
 refine g8 ?_
 refine RW.q (v := iV ((a % 4 : Nat) : Int)) rfl (q_remN (a := a) (b := 4) rfl rfl (by omega)) ?_
 refine g3 ?_
 refine RW.g (b := (decide (((a % 4 : Nat) : Int) = 0))) (v := iV ((a % 100 : Nat) : Int)) rfl rfl rfl (fun h => q_remN (a := a) (b := 100) (gv_pos h) rfl (by (try simp [-List.getD_eq_getElem?_getD] at h); omega)) ?_
 refine g2 ?_
 refine RW.g2 (b1 := (decide (((a % 4 : Nat) : Int) = 0))) (b2 := (!decide (((a % 100 : Nat) : Int) = 0))) (v := iV (a : Int)) rfl rfl rfl (fun hg1 hg2 => q_move rfl) (RW.g2 (b1 := (decide (((a % 4 : Nat) : Int) = 0))) (b2 := (!decide (((a % 100 : Nat) : Int) = 0))) (v := iV ((a % 400 : Nat) : Int)) rfl rfl rfl (fun hg1 hg2 => q_remN (a := a) (b := 400) ((gv_pos hg1).trans (gv_pos hg2)) rfl (by (try simp [-List.getD_eq_getElem?_getD] at hg1); (try simp [-List.getD_eq_getElem?_getD] at hg2); omega)) ?_)
 refine RW.g2 (b1 := (decide (((a % 4 : Nat) : Int) = 0))) (b2 := (!decide (((a % 100 : Nat) : Int) = 0))) (v := .bool (decide (((a % 400 : Nat) : Int) = 0))) rfl rfl rfl (fun hg1 hg2 => q_eql ((gv_pos hg1).trans (gv_pos hg2)) rfl) ?_
 obtain ⟨qb1, hqb1⟩ : ∃ qz : Bool, ((!decide (((a % 100 : Nat) : Int) = 0)) || (decide (((a % 400 : Nat) : Int) = 0))) = qz := ⟨_, rfl⟩
 refine RW.g (b := (decide (((a % 4 : Nat) : Int) = 0))) (v := .bool qb1) rfl rfl rfl (fun h => q_as (v := .bool ((!decide (((a % 100 : Nat) : Int) = 0)) || (decide (((a % 400 : Nat) : Int) = 0)))) (q_pick (gv_pos h) (fun hp => pkOrT hp) (fun hp => (gv_pos h).trans ((gv_pos hp).trans (pkOrF hp)))) (congrArg Value.bool hqb1)) ?_
 obtain ⟨qb2, hqb2⟩ : ∃ qz : Bool, ((decide (((a % 4 : Nat) : Int) = 0)) && qb1) = qz := ⟨_, rfl⟩
 refine RW.q (v := .bool qb2) rfl (q_as (v := .bool ((decide (((a % 4 : Nat) : Int) = 0)) && qb1)) (qpA rfl rfl rfl) (congrArg Value.bool hqb2)) ?_
 refine g1 ?_
 subst hqb2 hqb1
 refine g3 ?_
 exact fin_val (v' := .bool ((decide (((a % 4 : Nat) : Int) = 0)) && ((!decide (((a % 100 : Nat) : Int) = 0)) || (decide (((a % 400 : Nat) : Int) = 0))))) rfl rfl rfl (congrArg Value.bool (by unfold Mn.leap; rw [Bool.eq_iff_iff]; simp only [Bool.and_eq_true, Bool.or_eq_true, decide_eq_true_eq, Bool.not_eq_true', decide_eq_false_iff_not]; omega))
end Go.Proofs.YtnfmjfheciihjaaGreatDoor
namespace Ru
open Go Go.K Bt
abbrev pB (b : Nat) : Value := .pointer (some ⟨b, 0, none⟩)
abbrev nC (k n o q a : Int) (nm ow : Token) (kv : Value) : List Value := [iV k, iV n, iV o, iV q, iV a, iV nm.Kind, .string (bs nm.Text), iV nm.At, iV ow.Kind, .string (bs ow.Text), iV ow.At, kv]
def wfK (t : Token) : Prop := I64 t.Kind ∧ t.Text.length ≤ 65536 ∧ I64 t.At
def wfH (k n o q a : Int) (nm ow : Token) : Prop := I64 k ∧ I64 n ∧ I64 o ∧ I64 q ∧ I64 a ∧ wfK nm ∧ wfK ow
def TrF (H : Hp) : Nd → Nat → List Nat → Prop
 | ⟨k, n, o, q, a, nm, ow, ks⟩, b, F => ∃ kv l G, H b = some (.cells (nC k n o q a nm ow kv).toArray 153 (0, 0)) ∧ RowS H kv 145 1 ks.length (l.map pB) ∧ TrL H ks l G ∧ F = b :: (blks kv ++ G) ∧ wfH k n o q a nm ow
where TrL (H : Hp) : List Nd → List Nat → List Nat → Prop
 | [], l, F => l = [] ∧ F = []
 | x :: xs, l, F => ∃ b l2 F1 F2, l = b :: l2 ∧ F = F1 ++ F2 ∧ TrF H x b F1 ∧ TrL H xs l2 F2
abbrev TrL := TrF.TrL
mutual
theorem TrF.loc {Φ Ψ : Hp} : ∀ (x : Nd) (b : Nat) (F : List Nat), (∀ b ∈ F, Ψ b = Φ b) → TrF Φ x b F → TrF Ψ x b F
 | ⟨k, n, o, q, a, nm, ow, ks⟩, b, F, h, ⟨kv, l, G, h1, h2, h3, h4, h5⟩ => by
  subst h4
  refine ⟨kv, l, G, (h b (List.mem_cons_self ..)).trans h1, ?_, TrL.loc ks l G (fun b hb => h b (List.mem_cons_of_mem _ (List.mem_append_right _ hb))) h3, rfl, h5⟩
  exact (Chunk.row kv 145 1 ks.length (l.map pB)).loc Φ Ψ (fun b hb => h b (List.mem_cons_of_mem _ (List.mem_append_left _ hb))) h2
theorem TrL.loc {Φ Ψ : Hp} : ∀ (xs : List Nd) (l F : List Nat), (∀ b ∈ F, Ψ b = Φ b) → TrL Φ xs l F → TrL Ψ xs l F
 | [], _, _, _, h => h
 | x :: xs, l, F, h, ⟨b, l2, F1, F2, h1, h2, h3, h4⟩ => by
  subst h2
  exact ⟨b, l2, F1, F2, h1, rfl, TrF.loc x b F1 (fun b hb => h b (List.mem_append_left _ hb)) h3, TrL.loc xs l2 F2 (fun b hb => h b (List.mem_append_right _ hb)) h4⟩
end
mutual
theorem TrF.dom {Φ : Hp} : ∀ (x : Nd) (b : Nat) (F : List Nat), TrF Φ x b F → ∀ c ∈ F, Φ c ≠ none
 | ⟨k, n, o, q, a, nm, ow, ks⟩, b, F, ⟨kv, l, G, h1, h2, h3, h4, h5⟩, c, hc => by
  subst h4
  rcases List.mem_cons.1 hc with rfl | hc
  ·
   rw [h1]; simp
  ·
   rcases List.mem_append.1 hc with hc | hc
   ·
    exact (Chunk.row kv 145 1 ks.length (l.map pB)).dom Φ h2 c hc
   ·
    exact TrL.dom ks l G h3 c hc
theorem TrL.dom {Φ : Hp} : ∀ (xs : List Nd) (l F : List Nat), TrL Φ xs l F → ∀ c ∈ F, Φ c ≠ none
 | [], l, F, h, c, hc => by rw [h.2] at hc; cases hc
 | x :: xs, l, F, ⟨b, l2, F1, F2, h1, h2, h3, h4⟩, c, hc => by
  subst h2
  rcases List.mem_append.1 hc with hc | hc
  ·
   exact TrF.dom x b F1 h3 c hc
  ·
   exact TrL.dom xs l2 F2 h4 c hc
end
theorem TrL.len {H : Hp} : ∀ {xs : List Nd} {l F : List Nat}, TrL H xs l F → l.length = xs.length
 | [], _, _, h => by rw [h.1]; rfl
 | _ :: _, _, _, ⟨_, _, _, _, h1, _, _, h4⟩ => by rw [h1, List.length_cons, List.length_cons, TrL.len h4]
theorem TrL.app {H : Hp} : ∀ {xs ys : List Nd} {l m F G : List Nat}, TrL H xs l F → TrL H ys m G → TrL H (xs ++ ys) (l ++ m) (F ++ G)
 | [], _, _, _, _, _, h, k => by rw [h.1, h.2]; exact k
 | _ :: _, _, _, _, _, _, ⟨b, l2, F1, F2, h1, h2, h3, h4⟩, k => ⟨b, _, F1, _, by rw [h1, List.cons_append], by rw [h2, List.append_assoc], h3, TrL.app h4 k⟩
theorem TrL.split {H : Hp} : ∀ {xs ys : List Nd} {l F : List Nat}, TrL H (xs ++ ys) l F → ∃ l1 l2 F1 F2, l = l1 ++ l2 ∧ F = F1 ++ F2 ∧ TrL H xs l1 F1 ∧ TrL H ys l2 F2
 | [], _, l, F, h => ⟨[], l, [], F, rfl, rfl, ⟨rfl, rfl⟩, h⟩
 | x :: xs, ys, l, F, ⟨b, l2, F1, F2, h1, h2, h3, h4⟩ => by
  obtain ⟨m1, m2, G1, G2, e1, e2, k1, k2⟩ := TrL.split h4
  exact ⟨b :: m1, m2, F1 ++ G1, G2, by rw [h1, e1, List.cons_append], by rw [h2, e2, List.append_assoc], ⟨b, m1, F1, G1, rfl, rfl, h3, k1⟩, k2⟩
def tr (x : Nd) (b : Nat) (F : List Nat) : Chunk := ⟨F, fun H => TrF H x b F ∧ F.Nodup, fun _ _ h hs => ⟨TrF.loc x b F h hs.1, hs.2⟩, fun _ hs => TrF.dom x b F hs.1⟩
def trs (xs : List Nd) (l F : List Nat) : Chunk := ⟨F, fun H => TrL H xs l F ∧ F.Nodup, fun _ _ h hs => ⟨TrL.loc xs l F h hs.1, hs.2⟩, fun _ hs => TrL.dom xs l F hs.1⟩
variable {B : Bs} {Φ Ψ : Hp} {C : List Chunk} {w : World}
theorem blks_nodup (v : Value) : (blks v).Nodup := by
 unfold blks; split <;> simp
theorem tr_cut {k n o q a : Int} {nm ow : Token} {ks : List Nd} {b : Nat} {F : List Nat} (h : StP B Φ (tr ⟨k, n, o, q, a, nm, ow, ks⟩ b F :: C) w) :
  ∃ kv l G, F = b :: (blks kv ++ G) ∧ wfH k n o q a nm ow ∧ l.length = ks.length ∧ StP B Φ (.blk b 153 (nC k n o q a nm ow kv) :: .row kv 145 1 ks.length (l.map pB) :: trs ks l G :: C) w := by
 obtain ⟨⟨kv, l, G, h1, h2, h3, h4, h5⟩, hn⟩ := h.sat _ (List.mem_cons_self ..)
 subst h4
 obtain ⟨hn1, hn2⟩ := List.nodup_cons.1 hn
 obtain ⟨_, hn3, hn4⟩ := List.nodup_append.1 hn2
 refine ⟨kv, l, G, rfl, h5, TrL.len h3, StP.recut (C1 := [tr _ b _]) (C2 := [.blk b 153 (nC k n o q a nm ow kv), .row kv 145 1 ks.length (l.map pB), trs ks l G]) h ?_ ?_ ?_⟩
 ·
  intro c hc
  simp only [List.mem_cons, List.not_mem_nil, or_false] at hc
  rcases hc with rfl | rfl | rfl
  ·
   exact h1
  ·
   exact h2
  ·
   exact ⟨h3, hn3⟩
 ·
  refine List.pairwise_cons.2 ⟨fun d hd c hc => ?_, List.pairwise_cons.2 ⟨fun d hd c hc => ?_, List.pairwise_singleton ..⟩⟩
  ·
   obtain rfl : c = b := by simpa [Chunk.blk] using hc
   simp only [List.mem_cons, List.not_mem_nil, or_false] at hd
   rcases hd with rfl | rfl
   ·
    exact fun hm => hn1 (List.mem_append_left _ hm)
   ·
    exact fun hm => hn1 (List.mem_append_right _ hm)
  ·
   simp only [List.mem_cons, List.not_mem_nil, or_false] at hd
   subst hd
   exact fun hm => hn4 c hc c hm rfl
 ·
  intro c hc
  simpa [Chunk.blk, Chunk.row, trs, tr] using hc
theorem tr_join {k n o q a : Int} {nm ow : Token} {ks : List Nd} {b : Nat} {G l : List Nat} {kv : Value} (hwf : wfH k n o q a nm ow) (h : StP B Φ (.blk b 153 (nC k n o q a nm ow kv) :: .row kv 145 1 ks.length (l.map pB) :: trs ks l G :: C) w) :
  StP B Φ (tr ⟨k, n, o, q, a, nm, ow, ks⟩ b (b :: (blks kv ++ G)) :: C) w := by
 have h1 := h.sat _ (List.mem_cons_self ..)
 have h2 := h.sat _ (List.mem_cons_of_mem _ (List.mem_cons_self ..))
 have h3 := h.sat _ (List.mem_cons_of_mem _ (List.mem_cons_of_mem _ (List.mem_cons_self ..)))
 obtain ⟨s1, s2⟩ := List.pairwise_cons.1 h.sep
 obtain ⟨s3, _⟩ := List.pairwise_cons.1 s2
 refine StP.recut (C1 := [.blk b 153 (nC k n o q a nm ow kv), .row kv 145 1 ks.length (l.map pB), trs ks l G]) (C2 := [tr ⟨k, n, o, q, a, nm, ow, ks⟩ b (b :: (blks kv ++ G))]) h ?_ (List.pairwise_singleton ..) ?_
 ·
  intro c hc
  obtain rfl := List.mem_singleton.1 hc
  refine ⟨⟨kv, l, G, h1, h2, h3.1, rfl, hwf⟩, List.nodup_cons.2 ⟨fun hm => ?_, List.nodup_append.2 ⟨blks_nodup kv, h3.2, fun c hc d hd e => ?_⟩⟩⟩
  ·
   rcases List.mem_append.1 hm with hm | hm
   ·
    exact s1 _ (List.mem_cons_self ..) b (List.mem_singleton.2 rfl) hm
   ·
    exact s1 _ (List.mem_cons_of_mem _ (List.mem_cons_self ..)) b (List.mem_singleton.2 rfl) hm
  ·
   subst e
   exact s3 _ (List.mem_cons_self ..) c hc hd
 ·
  intro c hc
  simpa [Chunk.blk, Chunk.row, trs, tr] using hc
theorem trs_nil (h : StP B Φ C w) : StP B Φ (trs [] [] [] :: C) w :=
 StP.recut (C1 := []) (C2 := [trs [] [] []]) h (fun c hc => by obtain rfl := List.mem_singleton.1 hc; exact ⟨⟨rfl, rfl⟩, List.nodup_nil⟩) (List.pairwise_singleton ..) (fun c hc => by simp [trs] at hc)
theorem trs_one {x : Nd} {b : Nat} {F : List Nat} (h : StP B Φ (tr x b F :: C) w) : StP B Φ (trs [x] [b] F :: C) w :=
 StP.recut (C1 := [tr x b F]) (C2 := [trs [x] [b] F]) h (fun c hc => by
  obtain rfl := List.mem_singleton.1 hc
  obtain ⟨h1, h2⟩ := h.sat _ (List.mem_cons_self ..)
  exact ⟨⟨b, [], F, [], rfl, (List.append_nil _).symm, h1, rfl, rfl⟩, h2⟩) (List.pairwise_singleton ..) (fun c hc => by simpa [trs, tr] using hc)
theorem trs_app {xs ys : List Nd} {l m F G : List Nat} (h : StP B Φ (trs xs l F :: trs ys m G :: C) w) : StP B Φ (trs (xs ++ ys) (l ++ m) (F ++ G) :: C) w :=
 StP.recut (C1 := [trs xs l F, trs ys m G]) (C2 := [trs (xs ++ ys) (l ++ m) (F ++ G)]) h (fun c hc => by
  obtain rfl := List.mem_singleton.1 hc
  obtain ⟨h1, h2⟩ := h.sat _ (List.mem_cons_self ..)
  obtain ⟨h3, h4⟩ := h.sat _ (List.mem_cons_of_mem _ (List.mem_cons_self ..))
  refine ⟨TrL.app h1 h3, List.nodup_append.2 ⟨h2, h4, fun c hc d hd e => ?_⟩⟩
  subst e
  exact (List.pairwise_cons.1 h.sep).1 _ (List.mem_cons_self ..) c hc hd) (List.pairwise_singleton ..) (fun c hc => by simpa [trs, tr] using hc)
theorem trs_split {xs ys : List Nd} {l F : List Nat} (h : StP B Φ (trs (xs ++ ys) l F :: C) w) : ∃ l1 l2 F1 F2, l = l1 ++ l2 ∧ F = F1 ++ F2 ∧ l1.length = xs.length ∧ l2.length = ys.length ∧ StP B Φ (trs xs l1 F1 :: trs ys l2 F2 :: C) w := by
 obtain ⟨h1, hn⟩ := h.sat _ (List.mem_cons_self ..)
 obtain ⟨l1, l2, F1, F2, rfl, rfl, h2, h3⟩ := TrL.split h1
 obtain ⟨n1, n2, n3⟩ := List.nodup_append.1 hn
 refine ⟨l1, l2, F1, F2, rfl, rfl, TrL.len h2, TrL.len h3, StP.recut (C1 := [trs (xs ++ ys) _ _]) (C2 := [trs xs l1 F1, trs ys l2 F2]) h ?_ ?_ ?_⟩
 ·
  intro c hc
  simp only [List.mem_cons, List.not_mem_nil, or_false] at hc
  rcases hc with rfl | rfl
  ·
   exact ⟨h2, n1⟩
  ·
   exact ⟨h3, n2⟩
 ·
  refine List.pairwise_cons.2 ⟨fun d hd c hc => ?_, List.pairwise_singleton ..⟩
  obtain rfl := List.mem_singleton.1 hd
  exact fun hm => n3 c hc c hm rfl
 ·
  intro c hc
  simpa [trs] using hc
theorem trs_to1 {x : Nd} {l F : List Nat} (h : StP B Φ (trs [x] l F :: C) w) : ∃ b, l = [b] ∧ StP B Φ (tr x b F :: C) w := by
 obtain ⟨⟨b, l2, F1, F2, rfl, rfl, h3, h4, h5⟩, hn⟩ := h.sat _ (List.mem_cons_self ..)
 subst h4; subst h5
 refine ⟨b, rfl, StP.recut (C1 := [trs [x] [b] (F1 ++ [])]) (C2 := [tr x b (F1 ++ [])]) h (fun c hc => ?_) (List.pairwise_singleton ..) (fun c hc => by simpa [trs, tr] using hc)⟩
 obtain rfl := List.mem_singleton.1 hc
 exact ⟨by rw [List.append_nil]; exact h3, hn⟩
theorem tr_join0 {k n o q a : Int} {nm ow : Token} {b : Nat} (hwf : wfH k n o q a nm ow) (h : StP B Φ (.blk b 153 (nC k n o q a nm ow nS) :: C) w) :
  StP B Φ (tr ⟨k, n, o, q, a, nm, ow, []⟩ b [b] :: C) w :=
 tr_join (kv := .slice none 0 0) (ks := []) (l := []) (G := []) hwf ((addNil (T := 145) (sz := 1) (trs_nil h)).perm (List.perm_middle (l₁ := [_, _])).symm)
theorem tr_join1 {k n o q a : Int} {nm ow : Token} {x : Nd} {b b1 : Nat} {F1 : List Nat} {kv : Value} (hwf : wfH k n o q a nm ow) (h : StP B Φ (.blk b 153 (nC k n o q a nm ow kv) :: .row kv 145 1 1 [pB b1] :: tr x b1 F1 :: C) w) :
  ∃ F, StP B Φ (tr ⟨k, n, o, q, a, nm, ow, [x]⟩ b F :: C) w :=
 ⟨_, tr_join (ks := [x]) (l := [b1]) hwf ((trs_one (h.perm (List.perm_middle (l₁ := [_, _])).symm)).perm (List.perm_middle (l₁ := [_, _])))⟩
theorem tr_join2 {k n o q a : Int} {nm ow : Token} {x y : Nd} {b b1 b2 : Nat} {F1 F2 : List Nat} {kv : Value} (hwf : wfH k n o q a nm ow) (h : StP B Φ (.blk b 153 (nC k n o q a nm ow kv) :: .row kv 145 1 2 [pB b1, pB b2] :: tr x b1 F1 :: tr y b2 F2 :: C) w) :
  ∃ F, StP B Φ (tr ⟨k, n, o, q, a, nm, ow, [x, y]⟩ b F :: C) w := by
 have h1 := trs_one (h.perm (List.perm_middle (l₁ := [_, _])).symm)
 have h2 := trs_one (h1.perm (List.perm_middle (l₁ := [_, _, _])).symm)
 have h3 := trs_app (h2.perm (List.Perm.swap _ _ _))
 exact ⟨_, tr_join (ks := [x, y]) (l := [b1, b2]) hwf (h3.perm (List.perm_middle (l₁ := [_, _])))⟩
theorem tr_join3 {k n o q a : Int} {nm ow : Token} {x y z : Nd} {b b1 b2 b3 : Nat} {F1 F2 F3 : List Nat} {kv : Value} (hwf : wfH k n o q a nm ow) (h : StP B Φ (.blk b 153 (nC k n o q a nm ow kv) :: .row kv 145 1 3 [pB b1, pB b2, pB b3] :: tr x b1 F1 :: tr y b2 F2 :: tr z b3 F3 :: C) w) :
  ∃ F, StP B Φ (tr ⟨k, n, o, q, a, nm, ow, [x, y, z]⟩ b F :: C) w := by
 have h1 := trs_one (h.perm (List.perm_middle (l₁ := [_, _])).symm)
 have h2 := trs_one (h1.perm (List.perm_middle (l₁ := [_, _, _])).symm)
 have h3 := trs_app (h2.perm (List.Perm.swap _ _ _))
 have h4 := trs_one (h3.perm (List.perm_middle (l₁ := [_, _, _])).symm)
 have h5 := trs_app (h4.perm (List.Perm.swap _ _ _))
 exact ⟨_, tr_join (ks := [x, y, z]) (l := [b1, b2, b3]) hwf (h5.perm (List.perm_middle (l₁ := [_, _])))⟩
theorem tr_join2x {k n o q a : Int} {nm ow : Token} {x y : Nd} {b b1 b2 : Nat} {F1 F2 : List Nat} {kv : Value} (hwf : wfH k n o q a nm ow) (h : StP B Φ (.blk b 153 (nC k n o q a nm ow kv) :: .row kv 145 1 2 [pB b1, pB b2] :: tr x b1 F1 :: tr y b2 F2 :: C) w) :
  StP B Φ (tr ⟨k, n, o, q, a, nm, ow, [x, y]⟩ b (b :: (blks kv ++ (F1 ++ F2))) :: C) w := by
 have h1 := trs_one (h.perm (List.perm_middle (l₁ := [_, _])).symm)
 have h2 := trs_one (h1.perm (List.perm_middle (l₁ := [_, _, _])).symm)
 have h3 := trs_app (h2.perm (List.Perm.swap _ _ _))
 exact tr_join (ks := [x, y]) (l := [b1, b2]) hwf (h3.perm (List.perm_middle (l₁ := [_, _])))
theorem tr_fin0 {k n o q a : Int} {nm ow : Token} {b : Nat} {cp : Chunk} (is : List Nat) (hn : is.Nodup) (hi : is.map (C[·]?) = [some (.blk b 153 (nC k n o q a nm ow nS)), some cp]) (hwf : wfH k n o q a nm ow) (h : StP B Φ C w) :
  ∃ F, StP B Φ [cp, tr ⟨k, n, o, q, a, nm, ow, []⟩ b F] w :=
 ⟨_, (tr_join0 hwf (h.sel (C' := [.blk b 153 (nC k n o q a nm ow nS), cp]) is hn hi)).sel [1, 0] (by decide) rfl⟩
theorem tr_fin1 {k n o q a : Int} {nm ow : Token} {x : Nd} {b b1 : Nat} {F1 : List Nat} {kv : Value} {cp : Chunk} (is : List Nat) (hn : is.Nodup) (hi : is.map (C[·]?) = [some (.blk b 153 (nC k n o q a nm ow kv)), some (.row kv 145 1 1 [pB b1]), some (tr x b1 F1), some cp]) (hwf : wfH k n o q a nm ow) (h : StP B Φ C w) :
  ∃ F, StP B Φ [cp, tr ⟨k, n, o, q, a, nm, ow, [x]⟩ b F] w := by
 obtain ⟨F, hF⟩ := tr_join1 hwf (h.sel (C' := [.blk b 153 (nC k n o q a nm ow kv), .row kv 145 1 1 [pB b1], tr x b1 F1, cp]) is hn hi)
 exact ⟨F, hF.sel [1, 0] (by decide) rfl⟩
theorem tr_fin2 {k n o q a : Int} {nm ow : Token} {x y : Nd} {b b1 b2 : Nat} {F1 F2 : List Nat} {kv : Value} {cp : Chunk} (is : List Nat) (hn : is.Nodup) (hi : is.map (C[·]?) = [some (.blk b 153 (nC k n o q a nm ow kv)), some (.row kv 145 1 2 [pB b1, pB b2]), some (tr x b1 F1), some (tr y b2 F2), some cp]) (hwf : wfH k n o q a nm ow) (h : StP B Φ C w) :
  ∃ F, StP B Φ [cp, tr ⟨k, n, o, q, a, nm, ow, [x, y]⟩ b F] w := by
 obtain ⟨F, hF⟩ := tr_join2 hwf (h.sel (C' := [.blk b 153 (nC k n o q a nm ow kv), .row kv 145 1 2 [pB b1, pB b2], tr x b1 F1, tr y b2 F2, cp]) is hn hi)
 exact ⟨F, hF.sel [1, 0] (by decide) rfl⟩
theorem tr_fin3 {k n o q a : Int} {nm ow : Token} {x y z : Nd} {b b1 b2 b3 : Nat} {F1 F2 F3 : List Nat} {kv : Value} {cp : Chunk} (is : List Nat) (hn : is.Nodup) (hi : is.map (C[·]?) = [some (.blk b 153 (nC k n o q a nm ow kv)), some (.row kv 145 1 3 [pB b1, pB b2, pB b3]), some (tr x b1 F1), some (tr y b2 F2), some (tr z b3 F3), some cp]) (hwf : wfH k n o q a nm ow) (h : StP B Φ C w) :
  ∃ F, StP B Φ [cp, tr ⟨k, n, o, q, a, nm, ow, [x, y, z]⟩ b F] w := by
 obtain ⟨F, hF⟩ := tr_join3 hwf (h.sel (C' := [.blk b 153 (nC k n o q a nm ow kv), .row kv 145 1 3 [pB b1, pB b2, pB b3], tr x b1 F1, tr y b2 F2, tr z b3 F3, cp]) is hn hi)
 exact ⟨F, hF.sel [1, 0] (by decide) rfl⟩
theorem tr_fin2L {k n o q a k1 n1 o1 q1 a1 k2 n2 o2 q2 a2 : Int} {nm ow nm1 ow1 nm2 ow2 : Token} {b b1 b2 : Nat} {kv : Value} (is : List Nat) (hn : is.Nodup)
  (hi : is.map (C[·]?) = [some (.blk b 153 (nC k n o q a nm ow kv)), some (.row kv 145 1 2 [pB b1, pB b2]), some (.blk b1 153 (nC k1 n1 o1 q1 a1 nm1 ow1 nS)), some (.blk b2 153 (nC k2 n2 o2 q2 a2 nm2 ow2 nS))]) (hwf : wfH k n o q a nm ow) (hw1 : wfH k1 n1 o1 q1 a1 nm1 ow1) (hw2 : wfH k2 n2 o2 q2 a2 nm2 ow2) (h : StP B Φ C w) :
  ∃ F, StP B Φ [tr ⟨k, n, o, q, a, nm, ow, [⟨k1, n1, o1, q1, a1, nm1, ow1, []⟩, ⟨k2, n2, o2, q2, a2, nm2, ow2, []⟩]⟩ b F] w := by
 have h0 := h.sel (C' := [.blk b 153 (nC k n o q a nm ow kv), .row kv 145 1 2 [pB b1, pB b2], .blk b1 153 (nC k1 n1 o1 q1 a1 nm1 ow1 nS), .blk b2 153 (nC k2 n2 o2 q2 a2 nm2 ow2 nS)]) is hn hi
 have h1 := tr_join0 hw1 (h0.sel (C' := [.blk b1 153 (nC k1 n1 o1 q1 a1 nm1 ow1 nS), .blk b 153 (nC k n o q a nm ow kv), .row kv 145 1 2 [pB b1, pB b2], .blk b2 153 (nC k2 n2 o2 q2 a2 nm2 ow2 nS)]) [2, 0, 1, 3] (by decide) rfl)
 have h2 := tr_join0 hw2 (h1.sel (C' := [.blk b2 153 (nC k2 n2 o2 q2 a2 nm2 ow2 nS), tr ⟨k1, n1, o1, q1, a1, nm1, ow1, []⟩ b1 [b1], .blk b 153 (nC k n o q a nm ow kv), .row kv 145 1 2 [pB b1, pB b2]]) [3, 0, 1, 2] (by decide) rfl)
 exact tr_join2 hwf (h2.sel (C' := [.blk b 153 (nC k n o q a nm ow kv), .row kv 145 1 2 [pB b1, pB b2], tr ⟨k1, n1, o1, q1, a1, nm1, ow1, []⟩ b1 [b1], tr ⟨k2, n2, o2, q2, a2, nm2, ow2, []⟩ b2 [b2]]) [2, 3, 1, 0] (by decide) rfl)
theorem tr_at {x : Nd} {b : Nat} {F : List Nat} (i : Nat) (hi : C[i]? = some (tr x b F)) : Cell (St B Φ C) ⟨b, 4, none⟩ (iV x.At) := fun w hw => by
 obtain ⟨k, n, o, q, a, nm, ow, ks⟩ := x
 obtain ⟨⟨kv, l, G, h1, _⟩, _⟩ := hw.sat _ (List.mem_of_getElem? hi)
 exact (cell_of_hp h1).trans rfl
theorem tr_wf {x : Nd} {b : Nat} {F : List Nat} {w : World} (i : Nat) (hi : C[i]? = some (tr x b F)) (hw : StP B Φ C w) : wfH x.Kind x.n x.of_ x.of2 x.At x.name x.owner := by
 obtain ⟨k, n, o, q, a, nm, ow, ks⟩ := x
 obtain ⟨⟨kv, l, G, _, _, _, _, h5⟩, _⟩ := hw.sat _ (List.mem_of_getElem? hi)
 exact h5
theorem RW.cut {P : Program} {N : Nat} {D : List Deferred} {ops : Array Oper} {Q : Exit → Act → World → Prop} {l0 : List Oper} {f : Nat → Value} {s : List (Nat × Value)} {x : Nd} {b : Nat} {F : List Nat}
  (h : ∀ kv l G, F = b :: (blks kv ++ G) → wfH x.Kind x.n x.of_ x.of2 x.At x.name x.owner → l.length = x.kids.length → RW P N D ops Q l0 f s (St B Φ (.blk b 153 (nC x.Kind x.n x.of_ x.of2 x.At x.name x.owner kv) :: .row kv 145 1 x.kids.length (l.map pB) :: trs x.kids l G :: C))) : RW P N D ops Q l0 f s (St B Φ (tr x b F :: C)) := fun a w ha hw => by
 obtain ⟨k, n, o, q, a0, nm, ow, ks⟩ := x
 obtain ⟨kv, l, G, h1, h2, h3, h4⟩ := tr_cut hw
 exact h kv l G h1 h2 h3 a w ha h4
theorem AW.cut {P : Program} {N : Nat} {D : List Deferred} {Q : Exit → Act → World → Prop} {c0 : Code} {f : Nat → Value} {s : List (Nat × Value)} {x : Nd} {b : Nat} {F : List Nat}
  (h : ∀ kv l G, F = b :: (blks kv ++ G) → wfH x.Kind x.n x.of_ x.of2 x.At x.name x.owner → l.length = x.kids.length → AW P N D c0 Q f s (St B Φ (.blk b 153 (nC x.Kind x.n x.of_ x.of2 x.At x.name x.owner kv) :: .row kv 145 1 x.kids.length (l.map pB) :: trs x.kids l G :: C))) : AW P N D c0 Q f s (St B Φ (tr x b F :: C)) := fun a w ha hw => by
 obtain ⟨k, n, o, q, a0, nm, ow, ks⟩ := x
 obtain ⟨kv, l, G, h1, h2, h3, h4⟩ := tr_cut hw
 exact h kv l G h1 h2 h3 a w ha h4
end Ru
