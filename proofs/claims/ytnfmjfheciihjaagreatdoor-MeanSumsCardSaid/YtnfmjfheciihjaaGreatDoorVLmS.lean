/- Lemmas. Conditions: those of each theorem. -/
import Derived.Test.YtnfmjfheciihjaaGreatDoorVLxF
set_option maxRecDepth 8000
set_option maxHeartbeats 16000000
namespace Ru
open Bt Pa
def pf {α : Type} (r : R α) : Option (α × Int) := match r with
  | .ok (p, s) => some (p, s.2)
  | .error _ => none
def chk (e : Env) (p : List Fn × List Cl) : (Int × Int × Int) × Rule := ((tooDeep p, lstL (-1) (badP e p), lstL (-1) (tyP (resP e p))), ⟨(resP e p).1.map outF, (resP e p).2.map (outC e)⟩)
theorem parse_src {e : Env} {s : List UInt8} {E : List Tk} {r : Rule} {st : List Int → Int} (hl : s.length ≤ 8192) (hE : LexS s E) (hp : ∀ al, (pf (prgR (toksF E al, -1))).map (fun z => (chk e z.1, z.2)) = some (((-1, -1, -1), r), st al)) (hst : ∀ al, st al < 0) : ruleParse e s = (r, 0, 0) := by
  obtain ⟨L, h1, h2⟩ := lexS_scan hE (by omega)
  have h3 := toksF_eq L
  rw [h2] at h3
  have h4 := hp (L.map (·.At))
  rw [← h3] at h4
  have h5 := hst (L.map (·.At))
  obtain ⟨z, h6, h7⟩ := Option.map_eq_some_iff.1 h4
  obtain ⟨p, q⟩ := z
  simp only [chk, Prod.mk.injEq] at h7
  obtain ⟨⟨⟨a1, a2, a3⟩, a4⟩, a5⟩ := h7
  have h8 : ∃ ts, prgR (L, -1) = .ok (p, ts, q) := by
    unfold pf at h6
    split at h6
    · rename_i p' s' heq
      cases h6
      exact ⟨s'.1, heq⟩
    · cases h6
  obtain ⟨ts, h8⟩ := h8
  have hpa : parse L = (p, 0, 0) := by
    unfold parse; rw [h8]
    show (if 0 ≤ q then _ else _) = _
    rw [if_neg (by omega)]
  unfold ruleParse
  rw [if_neg (by omega), h1, if_neg (by simp), hpa]
  simp only [ne_eq, not_true_eq_false, if_false, a1, a2, a3]
  rw [if_neg (by omega), if_neg (by omega), if_neg (by omega), a4]
abbrev num (n : Nat) : List UInt8 := Go.Lib.decDigits n
theorem num_amt {n : Nat} (h : n ≤ Un.M) : Un.amt (num n) [] = (n, 0, 0) := Un.amt_back (d := 0) h (by omega)
theorem num_whole {n : Nat} (h : n < 10 ^ 20) : Whole (num n) 1 (num n) := whole_num (Un.dec_all n) (Un.dec_len_pos n) (by have := Un.dec_len_le (u := n) (k := 20) (by omega) h; show (Go.Lib.decDigits n).length ≤ 24; omega)
/-! the sources of sums -/
def sW : List UInt8 := [119, 104, 101, 110, 32]
def sC1 : List UInt8 := [32, 111, 114, 32, 49, 32, 60, 32, 48, 32, 97, 110, 100, 32, 49, 32, 47, 32, 48, 32, 61, 61, 32, 48, 32, 116, 104, 101, 110, 32, 115, 101, 116, 32, 103, 49, 32, 116, 111, 32, 49, 10, 119, 104, 101, 110, 32, 116, 114, 117, 101, 32, 116, 104, 101, 110, 32, 115, 101, 116, 32, 103, 49, 32, 116, 111, 32, 48, 10]
def sV0 : List UInt8 := [119, 104, 101, 110, 32, 48, 32, 60, 32, 49, 32, 116, 104, 101, 110, 32, 115, 101, 116, 32, 103, 49, 32, 116, 111, 32]
def ops : List (List UInt8) := [[43], [45], [42], [47], [60], [60, 61], [62], [62, 61], [61, 61], [33, 61]]
def srcV (k : Nat) (x y : List UInt8) : List UInt8 := sV0 ++ (x ++ (([32] ++ ops.getD k [] ++ [32]) ++ (y ++ [10])))
def srcC (k : Nat) (x y : List UInt8) : List UInt8 := sW ++ (x ++ (([32] ++ ops.getD k [] ++ [32]) ++ (y ++ sC1)))
def tkV0 : List Tk := (lexLit 100 sV0).getD []
def tkW : List Tk := (lexLit 100 sW).getD []
def tkC1 : List Tk := (lexLit 100 sC1).getD []
theorem lexV {k : Nat} (hk : k < 10) {x y : List UInt8} (hx : Whole x 1 x) (hy : Whole y 1 y) : LexS (srcV k x y) (tkV0 ++ ((1, x) :: ((3, ops.getD k []) :: ((1, y) :: [(4, [])])))) := by
  refine lexLit_ok 100 sV0 tkV0 (by kernel_rfl) (LexS.one hx (stp32 _) ?_)
  have hm : ∀ k, k < 10 → lexLit 10 ([32] ++ ops.getD k [] ++ [32]) = some [(3, ops.getD k [])] := by decide +kernel
  exact lexLit_ok 10 _ [(3, ops.getD k [])] (hm k hk) (LexS.one hy (stp10 _) (LexS.ws (by decide) LexS.nil))
theorem lexC {k : Nat} (hk : k < 10) {x y : List UInt8} (hx : Whole x 1 x) (hy : Whole y 1 y) : LexS (srcC k x y) (tkW ++ ((1, x) :: ((3, ops.getD k []) :: ((1, y) :: (tkC1 ++ [(4, [])]))))) := by
  refine lexLit_ok 100 sW tkW (by kernel_rfl) (LexS.one hx (stp32 _) ?_)
  have hm : ∀ k, k < 10 → lexLit 10 ([32] ++ ops.getD k [] ++ [32]) = some [(3, ops.getD k [])] := by decide +kernel
  refine lexLit_ok 10 _ [(3, ops.getD k [])] (hm k hk) (LexS.one hy (stp32 _) ?_)
  have h := lexLit_ok 100 sC1 tkC1 (by kernel_rfl) (R := []) LexS.nil
  rwa [List.append_nil] at h
def nd2 (k : Int) (x y : Expr) : Expr := ⟨k, 0, 0, 0, [x, y]⟩
def opE (k : Nat) (x y : Expr) : Expr := match k with
  | 0 => nd2 4 x y | 1 => nd2 5 x y | 2 => nd2 6 x y | 3 => nd2 7 x y | 4 => nd2 8 x y | 5 => nd2 9 x y | 6 => nd2 8 y x | 7 => nd2 9 y x | 8 => nd2 10 x y | _ => ⟨3, 0, 0, 0, [nd2 10 x y]⟩
def ruleV (k : Nat) (a b : Int) : Rule := ⟨[], [⟨nd2 8 (lit 0) (lit 1), 0, opE k (lit a) (lit b)⟩]⟩
def ruleC (k : Nat) (a b : Int) : Rule := ⟨[], [⟨nd2 12 (opE k (lit a) (lit b)) (nd2 11 (nd2 8 (lit 1) (lit 0)) (nd2 10 (nd2 7 (lit 1) (lit 0)) (lit 0))), 0, lit 1⟩, ⟨tru, 0, lit 0⟩]⟩
def atN : Nat → List Int → Int
  | 0, l => l.headD 0
  | n + 1, l => atN n l.tail
abbrev stN (t : List UInt8) (a st : Int) : Int := if (Un.amt t []).2.2 ≠ 0 ∧ st < 0 then a else st
theorem prgV (x y : List UInt8) (al : List Int) : ∀ k, k < 4 → (pf (prgR (toksF (tkV0 ++ ((1, x) :: ((3, ops.getD k []) :: ((1, y) :: [(4, [])])))) al, -1))).map (fun z => (chk env0 z.1, z.2)) = some (((-1, -1, -1), ruleV k ((Un.amt x []).1 : Nat) ((Un.amt y []).1 : Nat)), stN y (atN 10 al) (stN x (atN 8 al) (-1)))
  | 0, _ => by kernel_rfl
  | 1, _ => by kernel_rfl
  | 2, _ => by kernel_rfl
  | 3, _ => by kernel_rfl
  | k + 4, h => by omega
theorem prgC (x y : List UInt8) (al : List Int) : ∀ k, 4 ≤ k → k < 10 → (pf (prgR (toksF (tkW ++ ((1, x) :: ((3, ops.getD k []) :: ((1, y) :: (tkC1 ++ [(4, [])]))))) al, -1))).map (fun z => (chk env0 z.1, z.2)) = some (((-1, -1, -1), ruleC k ((Un.amt x []).1 : Nat) ((Un.amt y []).1 : Nat)), stN y (atN 3 al) (stN x (atN 1 al) (-1)))
  | 0, h, _ => by omega
  | 1, h, _ => by omega
  | 2, h, _ => by omega
  | 3, h, _ => by omega
  | 4, _, _ => by kernel_rfl
  | 5, _, _ => by kernel_rfl
  | 6, _, _ => by kernel_rfl
  | 7, _, _ => by kernel_rfl
  | 8, _, _ => by kernel_rfl
  | 9, _, _ => by kernel_rfl
  | k + 10, _, h => by omega
theorem num_len {n : Nat} (h : n < 10 ^ 20) : (num n).length ≤ 20 := Un.dec_len_le (u := n) (k := 20) (by omega) h
theorem ops_len : ∀ k, k < 10 → (ops.getD k []).length ≤ 2 := by decide
theorem stN_ok {n : Nat} (h : n ≤ Un.M) {a st : Int} : stN (num n) a st = st := by unfold stN; rw [num_amt h]; simp
theorem M_lt : Un.M < 10 ^ 20 := by decide
theorem parse_V {k m n : Nat} (hk : k < 4) (hm : m ≤ Un.M) (hn : n ≤ Un.M) : ruleParse env0 (srcV k (num m) (num n)) = (ruleV k m n, 0, 0) := by
  have hm' : m < 10 ^ 20 := Nat.lt_of_le_of_lt hm M_lt
  have hn' : n < 10 ^ 20 := Nat.lt_of_le_of_lt hn M_lt
  refine parse_src (st := fun _ => -1) ?_ (lexV (by omega) (num_whole hm') (num_whole hn')) (fun al => ?_) (fun _ => by omega)
  · have h1 := num_len hm'
    have h2 := num_len hn'
    have h3 := ops_len k (by omega)
    simp only [srcV, List.length_append, sV0, List.length_cons, List.length_nil]; omega
  · rw [prgV _ _ al k hk, stN_ok hm, stN_ok hn, num_amt hm, num_amt hn]
theorem parse_C {k m n : Nat} (hk4 : 4 ≤ k) (hk : k < 10) (hm : m ≤ Un.M) (hn : n ≤ Un.M) : ruleParse env0 (srcC k (num m) (num n)) = (ruleC k m n, 0, 0) := by
  have hm' : m < 10 ^ 20 := Nat.lt_of_le_of_lt hm M_lt
  have hn' : n < 10 ^ 20 := Nat.lt_of_le_of_lt hn M_lt
  refine parse_src (st := fun _ => -1) ?_ (lexC (by omega) (num_whole hm') (num_whole hn')) (fun al => ?_) (fun _ => by omega)
  · have h1 := num_len hm'
    have h2 := num_len hn'
    have h3 := ops_len k (by omega)
    simp only [srcC, List.length_append, sW, sC1, List.length_cons, List.length_nil]; omega
  · rw [prgC _ _ al k hk4 hk, stN_ok hm, stN_ok hn, num_amt hm, num_amt hn]
/-! these programs are right -/
theorem jx_lit {e : Env} {fs : List RFunc} {ps : List Int} {f : Nat} {a : Int} (h1 : 0 ≤ a) (h2 : a ≤ 1125899906842624) : jx e fs ps (f + 1) (lit a) = (0, true) := by
  simp [jx, lit, jxs, jnd, h1, h2]
theorem jx_nd2 {e : Env} {fs : List RFunc} {ps : List Int} {f : Nat} {k t1 t2 : Int} {x y : Expr} (h1 : jx e fs ps f x = (t1, true)) (h2 : jx e fs ps f y = (t2, true)) : jx e fs ps (f + 1) (nd2 k x y) = jnd e fs ps (nd2 k x y) [t1, t2] := by
  simp [jx, nd2, jxs, h1, h2]
theorem jx_nd1 {e : Env} {fs : List RFunc} {ps : List Int} {f : Nat} {k t1 : Int} {x : Expr} (h1 : jx e fs ps f x = (t1, true)) : jx e fs ps (f + 1) ⟨k, 0, 0, 0, [x]⟩ = jnd e fs ps ⟨k, 0, 0, 0, [x]⟩ [t1] := by
  simp [jx, jxs, h1]
theorem right_V {k : Nat} {a b : Int} (hk : k < 4) (ha : 0 ≤ a ∧ a ≤ 1125899906842624) (hb : 0 ≤ b ∧ b ≤ 1125899906842624) : rightR env0 (ruleV k a b) = true := by
  have h1 : ∀ f, jx env0 [] [] (f + 1) (lit a) = (0, true) := fun f => jx_lit ha.1 ha.2
  have h2 : ∀ f, jx env0 [] [] (f + 1) (lit b) = (0, true) := fun f => jx_lit hb.1 hb.2
  have h3 : (jx env0 [] [] 40 (opE k (lit a) (lit b))) = (0, true) := by
    match k, hk with
    | 0, _ => exact (jx_nd2 (f := 39) (h1 38) (h2 38)).trans rfl
    | 1, _ => exact (jx_nd2 (f := 39) (h1 38) (h2 38)).trans rfl
    | 2, _ => exact (jx_nd2 (f := 39) (h1 38) (h2 38)).trans rfl
    | 3, _ => exact (jx_nd2 (f := 39) (h1 38) (h2 38)).trans rfl
  have h4 : jhas env0 [] [] (opE k (lit a) (lit b)) 0 = true := by unfold jhas; rw [h3]; rfl
  have h5 : jhas env0 [] [] (nd2 8 (lit 0) (lit 1)) 1 = true := by kernel_rfl
  have h6 : den env0.links 0 = true := by kernel_rfl
  simp only [rightR, ruleV, jhead, List.all_nil, List.all_cons, jcl, h4, h5, h6, Bool.and_self]
theorem right_C {k : Nat} {a b : Int} (hk4 : 4 ≤ k) (hk : k < 10) (ha : 0 ≤ a ∧ a ≤ 1125899906842624) (hb : 0 ≤ b ∧ b ≤ 1125899906842624) : rightR env0 (ruleC k a b) = true := by
  have h1 : ∀ f, jx env0 [] [] (f + 1) (lit a) = (0, true) := fun f => jx_lit ha.1 ha.2
  have h2 : ∀ f, jx env0 [] [] (f + 1) (lit b) = (0, true) := fun f => jx_lit hb.1 hb.2
  have h3 : (jx env0 [] [] 39 (opE k (lit a) (lit b))) = (1, true) := by
    match k, hk4, hk with
    | 4, _, _ => exact (jx_nd2 (f := 38) (h1 37) (h2 37)).trans rfl
    | 5, _, _ => exact (jx_nd2 (f := 38) (h1 37) (h2 37)).trans rfl
    | 6, _, _ => exact (jx_nd2 (f := 38) (h2 37) (h1 37)).trans rfl
    | 7, _, _ => exact (jx_nd2 (f := 38) (h2 37) (h1 37)).trans rfl
    | 8, _, _ => exact (jx_nd2 (f := 38) (h1 37) (h2 37)).trans rfl
    | 9, _, _ =>
      have h := (jx_nd2 (k := 10) (f := 37) (h1 36) (h2 36)).trans (show _ = ((1 : Int), true) from rfl)
      exact (jx_nd1 (k := 3) (f := 38) h).trans rfl
  have h7 : jx env0 [] [] 39 (nd2 11 (nd2 8 (lit 1) (lit 0)) (nd2 10 (nd2 7 (lit 1) (lit 0)) (lit 0))) = (1, true) := by kernel_rfl
  have h4 : jhas env0 [] [] (nd2 12 (opE k (lit a) (lit b)) (nd2 11 (nd2 8 (lit 1) (lit 0)) (nd2 10 (nd2 7 (lit 1) (lit 0)) (lit 0)))) 1 = true := by unfold jhas; rw [jx_nd2 (f := 39) h3 h7]; rfl
  have h5 : jhas env0 [] [] (lit 1) 0 = true := by kernel_rfl
  have h6 : den env0.links 0 = true := by kernel_rfl
  have h8 : jcl env0 [] ⟨tru, 0, lit 0⟩ = true := by kernel_rfl
  simp only [rightR, ruleC, jhead, List.all_nil, List.all_cons, h8, Bool.and_true]
  simp only [jcl, h4, h5, h6, Bool.and_self]
end Ru
namespace Mn
open Bt Ru
def op2k (k : Nat) : Int := match k with | 0 => 4 | 1 => 5 | 2 => 6 | _ => 7
theorem ev_V {k : Nat} (hk : k < 4) {a b u : Int} {d : Dt} {g : Nat} : ev [] fct0 d (g + 2) 0 (opE k (lit a) (lit b)) [] u = (match op2 (op2k k) a b with | .error e => .error (e, u) | .ok v => .ok (v, u)) := by
  match k, hk with
  | 0, _ => rfl
  | 1, _ => rfl
  | 2, _ => rfl
  | 3, _ => rfl
def sumO (p : Int) : Except Int Int → Order
  | .error e => ⟨[], 1, e⟩
  | .ok v => ⟨[(0, clampI v 0 p)], 1, 0⟩
theorem run_V {k : Nat} (hk : k < 4) {a b : Int} {p q : Int} : runR [p, q] (ruleV k a b) fct0 = sumO p (op2 (op2k k) a b) := by
  have h1 : ∀ d u, ev [] fct0 d big 0 (nd2 8 (lit 0) (lit 1)) [] u = .ok (1, u) := fun d u => by kernel_rfl
  have h2 : ∀ d u, ev [] fct0 d big 0 (opE k (lit a) (lit b)) [] u = _ := fun d u => ev_V (g := 4998) hk
  unfold runR ruleV
  simp only [cls]
  rw [if_neg (by omega), if_neg (by simp), h1]
  simp only [bnd]
  rw [if_neg (by omega), h2]
  cases op2 (op2k k) a b with
  | error e => rfl
  | ok v => rfl
end Mn
namespace Go.Proofs.YtnfmjfheciihjaaGreatDoor
open Go Go.K Go.RowKit
open Ru (pB NmS BasV)
attribute [local irreducible] AW RW DW DT Post Qt
theorem _root_.Go.K.AW.mid {P : Program} {N : Nat} {D : List Deferred} {Q : Exit → Act → World → Prop} {f : Nat → Value} {s : List (Nat × Value)} {J : Cls} {x : Code} (I : List (Nat × Value) → Cls → Prop) (h : AW P N D x (Mid N D I Q) f s J) (k : ∀ f' s' J', I s' J' → Post N D Q .normal f' s' J') : AW P N D x Q f s J := by
 unfold AW at *
 exact fun a w ha hw => Code.wp_mono (fun e a' w' hQ => by
  cases e with
  | normal =>
   obtain ⟨f', s', J', hI, hr, hp⟩ := hQ
   have hk := k f' s' J' hI
   unfold Post at hk
   exact hk a' w' hr hp
  | _ => exact hQ) (h a w ha hw)
theorem pos1 : (∀ x ∈ ([1048576, 2] : List Int), I64 x) := fun x hx => by
 simp only [List.mem_cons, List.not_mem_nil, or_false] at hx
 rcases hx with rfl | rfl <;> (unfold I64; omega)
theorem wrap_small {n : Int} (h : 0 ≤ n ∧ n ≤ 255) : IntKind.i64.wrap n = n := by rw [wrap_i64]; split <;> omega
theorem e1l : ([1048576, 2] : List Int).length = Ru.env0.links.length := rfl
theorem e1m : ([1048576, 2] : List Int).length * 200 ≤ maxSl := by decide
end Go.Proofs.YtnfmjfheciihjaaGreatDoor
namespace Mn
open Bt Ru
def val2 (m n : Nat) : Int := if 0 < m ∧ 1048576 < n then 1048576 else (m : Int) * n
def val3 (m n : Nat) : Int := if 0 < n then ((m / n : Nat) : Int) else 0
def vals (m n : Nat) : List Int := [(m : Int) + n, (m : Int) - n, val2 m n, val3 m n]
def tr (m n : Nat) : List Bool := [decide ((m : Int) < n), decide ((m : Int) ≤ n), decide ((n : Int) < m), decide ((n : Int) ≤ m), decide ((m : Int) = n), !decide ((m : Int) = n)]
def want (k m n : Nat) : Int := if k < 4 then clampI ((vals m n).getD k 0) 0 1048576 else if (tr m n).getD (k - 4) false = true then 1 else 0
def ruleS (k m n : Nat) : Rule := if k < 4 then ruleV k m n else ruleC k m n
def srcS (k : Nat) (x y : List UInt8) : List UInt8 := if k < 4 then srcV k x y else srcC k x y
theorem parse_S {k m n : Nat} (hk : k < 10) (hm : m ≤ 1099511627776) (hn : n ≤ 1099511627776) : ruleParse env0 (srcS k (num m) (num n)) = (ruleS k m n, 0, 0) := by
  unfold srcS ruleS
  split
  · rename_i h; exact parse_V h (by unfold Un.M; omega) (by unfold Un.M; omega)
  · rename_i h; exact parse_C (by omega) hk (by unfold Un.M; omega) (by unfold Un.M; omega)
theorem lim_id {n : Int} (h1 : mn ≤ n) (h2 : n ≤ mx) : lim n = n := by unfold lim; rw [if_neg (by omega), if_neg (by omega)]
theorem mul_bound {m n : Nat} (hm : m ≤ 1099511627776) (h : ¬ (0 < m ∧ 1048576 < n)) : (m : Int) * n ≤ 1152921504606846976 ∧ 0 ≤ (m : Int) * n := by
  have h0 : 0 ≤ (m : Int) * n := Int.mul_nonneg (by omega) (by omega)
  refine ⟨?_, h0⟩
  by_cases hm0 : m = 0
  · subst hm0; simp
  · have hn : n ≤ 1048576 := by omega
    have : m * n ≤ 1099511627776 * 1048576 := Nat.mul_le_mul hm hn
    have e : ((m * n : Nat) : Int) = (m : Int) * n := Int.natCast_mul m n
    omega
theorem op2_S {k m n : Nat} (hk : k < 4) (hm : m ≤ 1099511627776) (hn : n ≤ 1099511627776) (h3 : ¬ (k = 3 ∧ n = 0)) : ∃ v, op2 (op2k k) m n = .ok v ∧ clampI v 0 1048576 = clampI ((vals m n).getD k 0) 0 1048576 := by
  match k, hk with
  | 0, _ => exact ⟨_, rfl, by rw [lim_id (by unfold mn; omega) (by unfold mx; omega)]; rfl⟩
  | 1, _ => exact ⟨_, rfl, by rw [lim_id (by unfold mn; omega) (by unfold mx; omega)]; rfl⟩
  | 2, _ =>
    refine ⟨_, rfl, ?_⟩
    show clampI (lim ((m : Int) * n)) 0 1048576 = clampI (val2 m n) 0 1048576
    unfold val2
    split
    · rename_i h
      have h1 : 1 * 1048577 ≤ m * n := Nat.mul_le_mul (by omega) (by omega)
      have e : ((m * n : Nat) : Int) = (m : Int) * n := Int.natCast_mul m n
      unfold clampI lim mn mx
      rw [← e]
      generalize m * n = q at *
      split <;> (try split) <;> (try split) <;> omega
    · rename_i h
      have hb := mul_bound hm h
      rw [lim_id (by unfold mn; omega) (by unfold mx; omega)]
  | 3, _ =>
    have hn0 : 0 < n := by omega
    have hd : m / n ≤ m := Nat.div_le_self m n
    refine ⟨lim ((m : Int).tdiv n), ?_, ?_⟩
    · show (if (n : Int) = 0 then Except.error 1 else Except.ok (lim ((m : Int).tdiv n))) = _
      rw [if_neg (by omega)]
    · show clampI (lim ((m : Int).tdiv n)) 0 1048576 = clampI (val3 m n) 0 1048576
      rw [show (m : Int).tdiv n = ((m / n : Nat) : Int) from (Int.ofNat_tdiv m n).symm]
      unfold val3; rw [if_pos hn0]
      generalize m / n = q at hd ⊢
      rw [lim_id (by unfold mn; omega) (by unfold mx; omega)]
theorem ev_C {k m n : Nat} (h4 : 4 ≤ k) (hk : k < 10) {d : Dt} {u : Int} {g : Nat} : ev [] fct0 d (g + 3) 0 (opE k (lit m) (lit n)) [] u = .ok ((if (tr m n).getD (k - 4) false = true then 1 else 0), u) := by
  have key : ∀ (b : Bool) (p : Prop) [Decidable p], b = decide p → (Except.ok ((if p then (1 : Int) else 0), u) : R Int) = .ok ((if b = true then 1 else 0), u) := fun b p _ hb => by subst hb; simp
  match k, h4, hk with
  | 4, _, _ => exact key _ ((m : Int) < n) rfl
  | 5, _, _ => exact key _ ((m : Int) ≤ n) rfl
  | 6, _, _ => exact key _ ((n : Int) < m) rfl
  | 7, _, _ => exact key _ ((n : Int) ≤ m) rfl
  | 8, _, _ => exact key _ ((m : Int) = n) rfl
  | 9, _, _ =>
    show (Except.ok (wr (1 - (if (m : Int) = n then 1 else 0)), u) : R Int) = .ok ((if (!decide ((m : Int) = n)) = true then 1 else 0), u)
    by_cases h : (m : Int) = n
    · rw [if_pos h, if_neg (by simp [h])]; rfl
    · rw [if_neg h, if_pos (by simp [h])]; rfl
theorem ev_or {fs : List RFunc} {f : Facts} {d : Dt} {g : Nat} {c u : Int} {X Y : Expr} {ps : List Int} : ev fs f d (g + 1) c (nd2 12 X Y) ps u = bnd (ev fs f d g c X ps u) fun v u => if v ≠ 0 then .ok (1, u) else ev fs f d g c Y ps u := rfl
theorem run_C {k m n : Nat} (h4 : 4 ≤ k) (hk : k < 10) : ∃ u, runR [1048576, 2] (ruleC k m n) fct0 = ⟨[(0, if (tr m n).getD (k - 4) false = true then 1 else 0)], u, 0⟩ := by
  have h0 : ∀ d u, ev [] fct0 d 4999 0 (opE k (lit m) (lit n)) [] u = _ := fun d u => ev_C (g := 4996) h4 hk
  have h2 : ∀ d u, ev [] fct0 d 4999 0 (nd2 11 (nd2 8 (lit 1) (lit 0)) (nd2 10 (nd2 7 (lit 1) (lit 0)) (lit 0))) [] u = .ok (0, u) := fun d u => by kernel_rfl
  unfold runR ruleC
  simp only [cls]
  rw [if_neg (by omega), if_neg (by simp), show big = 4999 + 1 from rfl, ev_or, h0]
  simp only [bnd, h2]
  by_cases h : (tr m n).getD (k - 4) false = true
  · rw [if_pos h, if_pos (by omega)]
    exact ⟨2, by kernel_rfl⟩
  · rw [if_neg h, if_neg (by omega)]
    exact ⟨2, by kernel_rfl⟩
theorem run_S0 {m : Nat} (hm : m ≤ 1099511627776) : run env0 [1048576, 2] (ruleS 3 m 0) fct0 = ⟨[], 1, 1⟩ := by
  unfold run
  show (if rightR env0 (ruleV 3 m (0 : Nat)) = true then _ else _) = _
  rw [if_pos (right_V (by omega) (by omega) (by omega))]
  show runR [1048576, 2] (ruleV 3 m (0 : Nat)) fct0 = _
  rw [run_V (by omega)]; rfl
theorem run_S {k m n : Nat} (hk : k < 10) (hm : m ≤ 1099511627776) (hn : n ≤ 1099511627776) (h3 : ¬ (k = 3 ∧ n = 0)) : ∃ u, run env0 [1048576, 2] (ruleS k m n) fct0 = ⟨[(0, want k m n)], u, 0⟩ := by
  unfold run ruleS want
  split
  · rename_i h
    rw [if_pos (right_V h (by omega) (by omega)), run_V h]
    obtain ⟨v, h1, h2⟩ := op2_S h hm hn h3
    rw [h1]
    exact ⟨1, by show Order.mk _ _ _ = _; rw [h2]⟩
  · rename_i h
    rw [if_pos (right_C (by omega) hk (by omega) (by omega))]
    exact run_C (by omega) hk
end Mn
namespace Go.Proofs.YtnfmjfheciihjaaGreatDoor
open Go Go.K Go.RowKit
open Ru (pB NmS BasV)
attribute [local irreducible] AW RW DW DT Post Qt
theorem ops_map : ([sV [43], sV [45], sV [42], sV [47], sV [60], sV [60, 61], sV [62], sV [62, 61], sV [61, 61], sV [33, 61]] : List Value) = Ru.ops.map sV := rfl
abbrev vR4 (m n : Nat) : List Value := [iV ((m + n : Nat) : Int), iV ((m : Int) - n), iV (Mn.val2 m n), iV (Mn.val3 m n)]
theorem MeanSums_c (w : World) (Φ : Hp) (hΦ : Hp.le Φ (hp w)) (hG : Knows Φ Glob) {m0 n0 k0 : Int} (hk0 : 0 ≤ k0 ∧ k0 ≤ 255) : Calls pg 5 #[iV m0, iV n0, .int .u8 k0] w fun e w' => e = .returned (.bool true) ∧ Bel w.heap.size w w' := by
 refine calls_of_AW (args := [iV m0, iV n0, .int .u8 k0]) Tryz.func5 rfl (lBT rfl) (St ⟨w, Φ, []⟩ Φ []) (StP.init w Φ hΦ []) ?_
 show AW _ _ [] _ _ _ [(0, iV m0), (1, iV n0), (2, .int .u8 k0)] _
 repeat refine gs1 ?_
 refine RW.q (v := .bool true) rfl (q_call (args := #[]) oK rfl rfl (fun w1 hw1 => small_c w1 Φ hw1.phi hG)) ?_
 repeat refine gs1 ?_
 refine RW.q (v := .bool (decide (m0 < 0) || decide (1099511627776 < m0))) rfl (qpO rfl rfl rfl) ?_
 repeat refine gs1 ?_
 refine RW.q (v := .bool ((decide (m0 < 0) || decide (1099511627776 < m0)) || decide (n0 < 0))) rfl (qpO rfl rfl rfl) ?_
 repeat refine gs1 ?_
 refine RW.q (v := .bool (((decide (m0 < 0) || decide (1099511627776 < m0)) || decide (n0 < 0)) || decide (1099511627776 < n0))) rfl (qpO rfl rfl rfl) ?_
 repeat refine gs1 ?_
 refine AW.cond rfl (fun h => ?_) fun h => ?_
 ·
  repeat refine gs1 ?_
  exact fin_res (vs := [.bool true]) rfl rfl ⟨.tmp rfl, trivial⟩ rfl (fun w' hw => ⟨rfl, hw.below rfl⟩)
 have h : ((¬ m0 < 0 ∧ ¬ 1099511627776 < m0) ∧ ¬ n0 < 0) ∧ ¬ 1099511627776 < n0 := by simpa using h
 obtain ⟨m, rfl⟩ : ∃ m : Nat, m0 = m := ⟨m0.toNat, by omega⟩
 obtain ⟨n, rfl⟩ : ∃ n : Nat, n0 = n := ⟨n0.toNat, by omega⟩
 obtain ⟨kk, rfl⟩ : ∃ n : Nat, k0 = n := ⟨k0.toNat, by omega⟩
 have hm : m ≤ 1099511627776 := by omega
 have hn : n ≤ 1099511627776 := by omega
 repeat refine gs1 ?_
 refine RW.q rfl (q_call (args := #[iV (m : Int)]) oK rfl rfl (fun w1 hw1 => ldigits_c w1 hm)) ?_
 repeat refine gs1 ?_
 refine RW.q rfl (q_call (args := #[iV (n : Int)]) oK rfl rfl (fun w1 hw1 => ldigits_c w1 hn)) ?_
 repeat refine gs1 ?_
 have lX : (Go.Lib.decDigits m).length ≤ 20 := Ru.num_len (n := m) (by omega)
 have lY : (Go.Lib.decDigits n).length ≤ 20 := Ru.num_len (n := n) (by omega)
 generalize hX : Go.Lib.decDigits m = X at lX ⊢
 generalize hY : Go.Lib.decDigits n = Y at lY ⊢
 refine RW.eff _ _ rfl (e_buildSlice (vals := [(0, sV [43]), (1, sV [45]), (2, sV [42]), (3, sV [47]), (4, sV [60]), (5, sV [60, 61]), (6, sV [62]), (7, sV [62, 61]), (8, sV [61, 61]), (9, sV [33, 61])]) (cells := [sV [43], sV [45], sV [42], sV [47], sV [60], sV [60, 61], sV [62], sV [62, 61], sV [61, 61], sV [33, 61]]) uT22 inf9 rfl rfl rfl (by kernel_rfl) rfl) fun bo => (RW.frzB rfl fun Φ1 hl1 hro => ?_)
 rw [ops_map] at hro
 have hG1 := hG.mono hl1
 repeat refine gs1 ?_
 refine RW.q (v := iV (kk : Int)) rfl (q_cvt rfl uT5 uT3 (wrap_small (by omega))) (RW.q (v := iV ((kk % 10 : Nat) : Int)) rfl (q_remN (b := 10) rfl rfl (by omega)) ?_)
 have hk : kk % 10 < 10 := Nat.mod_lt _ (by omega)
 generalize kk % 10 = k at hk ⊢
 have hop : ∀ {C : List Chunk} {Ψ : Hp}, Hp.le Φ1 Ψ → Cell (St ⟨w, Φ, []⟩ Ψ C) (Value.at (nR bo 10) (k * 1)) (.string (bs (Ru.ops.getD k []))) := fun hle => Cell.phi ((RowS.pc hro (k := k * 1) (by rw [Nat.mul_one, List.getElem?_map, gDD, List.getElem?_eq_getElem (show k < Ru.ops.length from hk)]; rfl)).mono hle)
 have lO : (Ru.ops.getD k []).length ≤ 2 := Ru.ops_len k hk
 generalize hO : Ru.ops.getD k [] = O at lO hop
 repeat refine gs1 ?_
 refine RW.eff _ _ rfl (e_buildSlice (vals := [(0, .bool (decide ((m : Int) < n))), (1, .bool (decide ((m : Int) ≤ n))), (2, .bool (decide ((n : Int) < m))), (3, .bool (decide ((n : Int) ≤ m))), (4, .bool (decide ((m : Int) = n))), (5, .bool (!decide ((m : Int) = n)))]) (cells := [.bool (decide ((m : Int) < n)), .bool (decide ((m : Int) ≤ n)), .bool (decide ((n : Int) < m)), .bool (decide ((n : Int) ≤ m)), .bool (decide ((m : Int) = n)), .bool (!decide ((m : Int) = n))]) uT52 inf4 rfl rfl rfl (by kernel_rfl) rfl) fun bb => (RW.frzB rfl fun Φ2 hl2 hrb => ?_)
 have hrb : RowS Φ2 (nR bb 6) 4 1 6 ((Mn.tr m n).map Value.bool) := hrb
 have hG2 := hG1.mono hl2
 repeat refine gs1 ?_
 refine RW.eff _ _ rfl (e_buildSlice (vals := [(0, iV ((m + n : Nat) : Int)), (1, iV ((m : Int) - n)), (2, iV 0), (3, iV 0)]) (cells := [iV ((m + n : Nat) : Int), iV ((m : Int) - n), iV 0, iV 0]) uT29 inf3 rfl rfl rfl (by kernel_rfl) rfl) fun bv => ?_
 repeat refine gs1 ?_
 refine RW.q (v := .bool (decide ((0 : Int) < m) && decide ((1048576 : Int) < n))) rfl (qpA rfl rfl rfl) ?_
 repeat refine gs1 ?_
 refine AW.mid (fun s J => s = [(0, iV (m : Int)), (1, iV (n : Int)), (7, .bool true), (8, .string (bs X)), (9, .string (bs Y)), (10, nR bo 10), (11, iV (k : Int)), (12, nR bb 6), (13, nR bv 4)] ∧ J = St ⟨w, Φ, []⟩ Φ2 [.row (nR bv 4) 3 1 4 [iV ((m + n : Nat) : Int), iV ((m : Int) - n), iV (Mn.val2 m n), iV 0]]) ?_ ?_
 ·
  refine AW.cond rfl (fun h => ?_) fun h => ?_
  ·
   have h : (0 : Int) < m ∧ (1048576 : Int) < n := by simpa using h
   have hv : Mn.val2 m n = 1048576 := by unfold Mn.val2; rw [if_pos (by omega)]
   repeat refine gs1 ?_
   refine RW.q (v := .pointer (some (Value.at (nR bv 4) (2 * 1)))) rfl (qa_ixL (n := 4) (i := 2) rfl rfl (isSl_mk (Nat.le_refl _)) (by omega)) (RW.effn (J' := St ⟨w, Φ, []⟩ Φ2 [.row (nR bv 4) 3 1 4 [iV ((m + n : Nat) : Int), iV ((m : Int) - n), iV 1048576, iV 0]]) (e_storeRow (n := 0) 0 rfl rfl rfl sz3 rfl rfl (by simp) rfl rfl) ?_)
   repeat refine gs1 ?_
   exact Post.mid_n (s' := _) (J' := _) ⟨rfl, rfl⟩ ⟨rfl, rfl, rfl, rfl, rfl, rfl, rfl, rfl, rfl, trivial⟩ (fun _ h => by rw [hv]; exact h)
  ·
   have h : ¬ (0 < m ∧ 1048576 < n) := by
    have := h
    simp only [Bool.and_eq_false_iff, decide_eq_false_iff_not] at this
    omega
   have hv : Mn.val2 m n = (m : Int) * n := by unfold Mn.val2; rw [if_neg h]
   have hmb := Mn.mul_bound hm h
   repeat refine gs1 ?_
   refine RW.q (v := iV ((m : Int) * n)) rfl (q_mul rfl rfl rfl (by unfold I64; omega)) (RW.q (v := .pointer (some (Value.at (nR bv 4) (2 * 1)))) rfl (qa_ixL (n := 4) (i := 2) rfl rfl (isSl_mk (Nat.le_refl _)) (by omega)) (RW.effn (J' := St ⟨w, Φ, []⟩ Φ2 [.row (nR bv 4) 3 1 4 [iV ((m + n : Nat) : Int), iV ((m : Int) - n), iV ((m : Int) * n), iV 0]]) (e_storeRow (n := 0) 0 rfl rfl rfl sz3 rfl rfl (by simp) rfl rfl) ?_))
   repeat refine gs1 ?_
   exact Post.mid_n (s' := _) (J' := _) ⟨rfl, rfl⟩ ⟨rfl, rfl, rfl, rfl, rfl, rfl, rfl, rfl, rfl, trivial⟩ (fun _ h => by rw [hv]; exact h)
 rintro f1 _ _ ⟨rfl, rfl⟩
 repeat refine gs1 ?_
 refine AW.mid (fun s J => s = [(0, iV (m : Int)), (1, iV (n : Int)), (7, .bool true), (8, .string (bs X)), (9, .string (bs Y)), (10, nR bo 10), (11, iV (k : Int)), (12, nR bb 6), (13, nR bv 4)] ∧ J = St ⟨w, Φ, []⟩ Φ2 [.row (nR bv 4) 3 1 4 (vR4 m n)]) ?_ ?_
 ·
  refine AW.cond rfl (fun h => ?_) fun h => ?_
  ·
   have h : 0 < n := by have := odT h; omega
   have hv : Mn.val3 m n = ((m / n : Nat) : Int) := by unfold Mn.val3; rw [if_pos h]
   repeat refine gs1 ?_
   refine RW.q (v := iV ((m / n : Nat) : Int)) rfl (q_quoN rfl rfl h (by omega)) (RW.q (v := .pointer (some (Value.at (nR bv 4) (3 * 1)))) rfl (qa_ixL (n := 4) (i := 3) rfl rfl (isSl_mk (Nat.le_refl _)) (by omega)) (RW.effn (J' := St ⟨w, Φ, []⟩ Φ2 [.row (nR bv 4) 3 1 4 [iV ((m + n : Nat) : Int), iV ((m : Int) - n), iV (Mn.val2 m n), iV ((m / n : Nat) : Int)]]) (e_storeRow (n := 0) 0 rfl rfl rfl sz3 rfl rfl (by simp) rfl rfl) ?_))
   repeat refine gs1 ?_
   exact Post.mid_n (s' := _) (J' := _) ⟨rfl, rfl⟩ ⟨rfl, rfl, rfl, rfl, rfl, rfl, rfl, rfl, rfl, trivial⟩ (fun _ h => by unfold vR4; rw [hv]; exact h)
  ·
   have h : ¬ 0 < n := by have := odF h; omega
   have hv : Mn.val3 m n = 0 := by unfold Mn.val3; rw [if_neg h]
   repeat refine gs1 ?_
   exact Post.mid_n (s' := _) (J' := _) ⟨rfl, rfl⟩ ⟨rfl, rfl, rfl, rfl, rfl, rfl, rfl, rfl, rfl, trivial⟩ (fun _ h => by unfold vR4; rw [hv]; exact h)
 rintro f2 _ _ ⟨rfl, rfl⟩
 repeat refine gs1 ?_
 refine RW.mk (args := #[]) rfl oK rfl rfl (fun w1 hw1 => plainM_c w1) fun z => ?_
 obtain ⟨p1, p2, p3, p4⟩ := z
 refine RW.alc rfl fun b14 => ?_
 refine RW.effn (e_stA (cs' := (plB (p1, p2, p3, p4)).cs) 0 rfl rfl rfl rfl rfl rfl) ?_
 repeat refine gs1 ?_
 refine RW.q (v := .pointer (some (Value.at (nR p3 2) (0 * 18)))) rfl (qa_ixL (n := 2) (i := 0) rfl rfl (isSl_mk (Nat.le_refl _)) (by omega)) (RW.q rfl (qa_fat rfl) (RW.effn (J' := St ⟨w, Φ, []⟩ Φ2 [.blk b14 31 (plB (p1, p2, p3, p4)).cs, .row (nR p3 2) 58 18 2 (lkC [103, 49] 1048576 ++ lkC [103, 50] 2), .row (nR p4 1) 94 7 1 (tnC [111, 108, 100, 116, 111, 119, 110]), .row (nR p2 2) 92 12 2 (plC [108, 97, 107, 101] ++ plC [98, 114, 111, 111, 107]), .row (nR p1 1) 9 1 1 [sV [112, 117, 98, 108, 105, 99]], .row (nR bv 4) 3 1 4 (vR4 m n)]) (e_storeRow (n := 0) 1 rfl rfl rfl sz3 rfl rfl (by simp) rfl rfl) (RW.wk (J' := St ⟨w, Φ, []⟩ Φ2 [.row (nR p3 2) 58 18 2 (lkC [103, 49] 1048576 ++ lkC [103, 50] 2), .row (nR p4 1) 94 7 1 (tnC [111, 108, 100, 116, 111, 119, 110]), .row (nR p2 2) 92 12 2 (plC [108, 97, 107, 101] ++ plC [98, 114, 111, 111, 107]), .row (nR p1 1) 9 1 1 [sV [112, 117, 98, 108, 105, 99]], .row (nR bv 4) 3 1 4 (vR4 m n), .blk b14 31 (plB (p1, p2, p3, p4)).cs]) (fun _ h => StP.sel h [1, 2, 3, 4, 5, 0] (by decide) rfl) (RW.frzB rfl fun Φ3 hl3 r3 => (RW.frzB rfl fun Φ4 hl4 r4 => (RW.frzB rfl fun Φ5 hl5 r2 => (RW.frzB rfl fun Φ6 hl6 r1 => (RW.frzB rfl fun Φ7 hl7 rv => ?_))))))))
 have r3 := RowS.up r3 (((hl4.trans hl5).trans hl6).trans hl7)
 have r4 := RowS.up r4 ((hl5.trans hl6).trans hl7)
 have r2 := RowS.up r2 (hl6.trans hl7)
 have r1 := RowS.up r1 hl7
 have hl27 : Hp.le Φ2 Φ7 := (((hl3.trans hl4).trans hl5).trans hl6).trans hl7
 have rb := RowS.up hrb hl27
 have hG7 := hG2.mono hl27
 have hop := fun {C} => hop (C := C) (hl2.trans hl27)
 have hb : (plB (p1, p2, p3, p4)).ok Φ7 Ru.env0 := ⟨nms1 r1 rfl (by decide), nms2 r2 rfl rfl (by decide) (by decide), nms2 r3 rfl rfl (by decide) (by decide), nms1 r4 rfl (by decide)⟩
 have hps : PosS Φ7 (plB (p1, p2, p3, p4)).lv [1048576, 2] := fun i hi => by
  match i, hi with
  | 0, _ => exact RowS.pc r3 (k := 7) rfl
  | 1, _ => exact RowS.pc r3 (k := 25) rfl
 have rv : RowS Φ7 (nR bv 4) 3 1 4 ((Mn.vals m n).map (Value.int .i64)) := rv
 have w1 : Ru.sW.length ≤ 100 := by decide
 have w2 : Ru.sC1.length ≤ 100 := by decide
 have w3 : Ru.sV0.length ≤ 100 := by decide
 repeat refine gs1 ?_
 refine RW.q (v := .string (bs (Ru.sW ++ X))) rfl (q_catStr rfl rfl (by simp only [List.length_cons, List.length_nil]; omega) rfl) (RW.q (v := .string (bs (Ru.sW ++ X ++ [32]))) rfl (q_catStr rfl rfl (by simp only [List.length_append, List.length_cons, List.length_nil]; omega) rfl) ?_)
 repeat refine gs1 ?_
 refine RW.q (v := .string (bs O)) rfl (qa_ld rfl hop) (RW.q (v := .string (bs (Ru.sW ++ X ++ [32] ++ O))) rfl (q_catStr rfl rfl (by simp only [List.length_append, List.length_cons, List.length_nil]; omega) rfl) (RW.q (v := .string (bs (Ru.sW ++ X ++ [32] ++ O ++ [32]))) rfl (q_catStr rfl rfl (by simp only [List.length_append, List.length_cons, List.length_nil]; omega) rfl) ?_))
 repeat refine gs1 ?_
 refine RW.q (v := .string (bs (Ru.sW ++ X ++ [32] ++ O ++ [32] ++ Y))) rfl (q_catStr rfl rfl (by simp only [List.length_append, List.length_cons, List.length_nil]; omega) rfl) (RW.q (v := .string (bs (Ru.sW ++ X ++ [32] ++ O ++ [32] ++ Y ++ Ru.sC1))) rfl (q_catStr (r := Ru.sC1) rfl rfl (by simp only [List.length_append, List.length_cons, List.length_nil]; omega) rfl) ?_)
 repeat refine gs1 ?_
 refine AW.mid (fun s J => s = [(1, iV (n : Int)), (7, .bool true), (11, iV (k : Int)), (14, pB b14), (15, .string (bs (Mn.srcS k X Y))), (16, iV (Mn.want k m n))] ∧ J = St ⟨w, Φ, []⟩ Φ7 [.blk b14 31 (plB (p1, p2, p3, p4)).cs]) ?_ ?_
 ·
  refine AW.cond rfl (fun h => ?_) fun h => ?_
  ·
   have h : k < 4 := by have := odT h; omega
   repeat refine gs1 ?_
   refine RW.q (v := .string (bs (Ru.sV0 ++ X))) rfl (q_catStr rfl rfl (by simp only [List.length_cons, List.length_nil]; omega) rfl) (RW.q (v := .string (bs (Ru.sV0 ++ X ++ [32]))) rfl (q_catStr rfl rfl (by simp only [List.length_append, List.length_cons, List.length_nil]; omega) rfl) ?_)
   repeat refine gs1 ?_
   refine RW.q (v := .string (bs O)) rfl (qa_ld rfl hop) (RW.q (v := .string (bs (Ru.sV0 ++ X ++ [32] ++ O))) rfl (q_catStr rfl rfl (by simp only [List.length_append, List.length_cons, List.length_nil]; omega) rfl) (RW.q (v := .string (bs (Ru.sV0 ++ X ++ [32] ++ O ++ [32]))) rfl (q_catStr rfl rfl (by simp only [List.length_append, List.length_cons, List.length_nil]; omega) rfl) ?_))
   repeat refine gs1 ?_
   refine RW.q (v := .string (bs (Ru.sV0 ++ X ++ [32] ++ O ++ [32] ++ Y))) rfl (q_catStr rfl rfl (by simp only [List.length_append, List.length_cons, List.length_nil]; omega) rfl) (RW.q (v := .string (bs (Ru.sV0 ++ X ++ [32] ++ O ++ [32] ++ Y ++ [10]))) rfl (q_catStr rfl rfl (by simp only [List.length_append, List.length_cons, List.length_nil]; omega) rfl) ?_)
   repeat refine gs1 ?_
   refine RW.q (v := iV ((Mn.vals m n).getD k 0)) rfl (qa_ld rfl (Cell.phi (RowS.pc rv (k := k * 1) (by rw [Nat.mul_one, List.getElem?_map, gDD, List.getElem?_eq_getElem (show k < (Mn.vals m n).length from h)]; rfl)))) ?_
   refine RW.q (v := iV (Mn.clampI ((Mn.vals m n).getD k 0) 0 1048576)) rfl (q_call (args := #[iV ((Mn.vals m n).getD k 0), iV 0, iV 1048576]) oK rfl rfl (fun w1 hw1 => Clamp_c w1 (hp w1) (Hp.le_refl _))) ?_
   repeat refine gs1 ?_
   have h15 : Value.string (bs (Ru.sV0 ++ X ++ [32] ++ O ++ [32] ++ Y ++ [10])) = .string (bs (Mn.srcS k X Y)) := by unfold Mn.srcS; rw [if_pos h]; unfold Ru.srcV; rw [hO]; simp only [List.append_assoc]
   have h16 : Value.int .i64 (Mn.clampI ((Mn.vals m n).getD k 0) 0 1048576) = iV (Mn.want k m n) := by unfold Mn.want; rw [if_pos h]
   exact Post.mid_n (s' := _) (J' := _) ⟨rfl, rfl⟩ ⟨rfl, rfl, rfl, rfl, h15, h16, trivial⟩ (fun _ h => h)
  ·
   have h : ¬ k < 4 := by have := odF h; omega
   have h15 : Value.string (bs (Ru.sW ++ X ++ [32] ++ O ++ [32] ++ Y ++ Ru.sC1)) = .string (bs (Mn.srcS k X Y)) := by unfold Mn.srcS; rw [if_neg h]; unfold Ru.srcC; rw [hO]; simp only [List.append_assoc]
   repeat refine gs1 ?_
   refine RW.q (v := .pointer (some (Value.at (nR bb 6) ((k - 4) * 1)))) rfl (qa_ixN (n := 6) (i := k - 4) rfl (show Value.int .i64 ((k : Int) - 4) = _ by rw [show (k : Int) - 4 = ((k - 4 : Nat) : Int) by omega]) (isSl_mk (Nat.le_refl _)) (by omega)) (RW.q (v := .bool ((Mn.tr m n).getD (k - 4) false)) rfl (qa_ld rfl (Cell.phi (RowS.pc rb (k := (k - 4) * 1) (by rw [Nat.mul_one, List.getElem?_map, gDD, List.getElem?_eq_getElem (show k - 4 < (Mn.tr m n).length by show k - 4 < 6; omega)]; rfl)))) ?_)
   repeat refine gs1 ?_
   refine AW.cond rfl (fun ht => ?_) fun ht => ?_
   ·
    have h16 : Value.int .i64 1 = iV (Mn.want k m n) := by unfold Mn.want; rw [if_neg h, if_pos ht]
    repeat refine gs1 ?_
    exact Post.mid_n (s' := _) (J' := _) ⟨rfl, rfl⟩ ⟨rfl, rfl, rfl, rfl, h15, h16, trivial⟩ (fun _ h => h)
   ·
    have h16 : Value.int .i64 0 = iV (Mn.want k m n) := by unfold Mn.want; rw [if_neg h, if_neg (by rw [ht]; simp)]
    repeat refine gs1 ?_
    exact Post.mid_n (s' := _) (J' := _) ⟨rfl, rfl⟩ ⟨rfl, rfl, rfl, rfl, h15, h16, trivial⟩ (fun _ h => h)
 rintro f3 _ _ ⟨rfl, rfl⟩
 have hps2 : Ru.ruleParse Ru.env0 (Mn.srcS k X Y) = (Mn.ruleS k m n, 0, 0) := by rw [← hX, ← hY]; exact Mn.parse_S hk hm hn
 have hln : (Mn.srcS k X Y).length ≤ maxLen := by
  refine Nat.le_trans (m := 1000) ?_ (by decide)
  unfold Mn.srcS; split <;> (simp only [Ru.srcV, Ru.srcC, hO, List.length_append, List.length_cons, List.length_nil]; omega)
 repeat refine gs1 ?_
 refine RW.eff _ _ rfl (e_callS (args := #[.agg (plB (p1, p2, p3, p4)).cs.toArray, .string (bs (Mn.srcS k X Y))]) oK rfl rfl (fun w1 hw1 => parse_x hps2 (rParse_c w1 Φ7 hw1.phi hG7 hb (l := Mn.srcS k X Y) hln))) ?_
 rintro ⟨⟨v, Ψ⟩, ⟨y, hv, hyf, hyc⟩, hle⟩
 simp only at hv hyf hyc hle ⊢
 subst hv
 repeat refine gs1 ?_
 refine RW.alc rfl fun b17 => ?_
 repeat refine gs1 ?_
 refine RW.q (v := .agg (fcC (fc1 nS) 0).toArray) rfl (q_build (vals := []) zero38 uT38 places38 rfl rfl) ?_
 by_cases h3 : k = 3 ∧ n = 0
 ·
  obtain ⟨rfl, rfl⟩ := h3
  have hrun := Mn.run_S0 hm
  refine RW.eff _ _ rfl (e_callS (args := #[.agg (plB (p1, p2, p3, p4)).cs.toArray, .agg #[.slice y.1 _ y.2.1, .slice y.2.2.1 _ y.2.2.2], .agg (fcC (fc1 nS) 0).toArray]) oK rfl rfl (fun w1 hw1 => run_x (hrun ▸ mRun_c w1 Ψ hw1.phi (hG7.mono hle) (hb.mono hle) (hps.mono hle) e1l e1m pos1 hyf hyc (f := Mn.fct0) (fc1_ok (l := []) repSl_nil) (i64_lit (n := 0) (by omega))))) ?_
  rintro ⟨⟨v, Ψ2⟩, ⟨⟨oA, oc⟩, hv, ho⟩, hle2⟩
  simp only at hv ho hle2 ⊢
  subst hv
  repeat refine gs1 ?_
  refine RW.alc rfl fun b20 => ?_
  repeat refine gs1 ?_
  refine RW.q rfl (qkT rfl rfl) ?_
  repeat refine gs1 ?_
  refine RW.q rfl (qkT rfl rfl) (RW.q rfl (q_move rfl) (RW.g rfl rfl rfl (fun _ => qa_fa0 rfl) (RW.g rfl rfl rfl (fun _ => qa_ld rfl (Cell.blk 0 rfl rfl)) (RW.g (v := .bool true) rfl rfl rfl (fun _ => q_as (q_eql rfl rfl) rfl) (RW.q rfl (qkT rfl rfl) (RW.q rfl (q_move rfl) (RW.g rfl rfl rfl (fun _ => qa_fa0 rfl) (RW.g rfl rfl rfl (fun _ => qa_ld rfl (Cell.blk 0 rfl rfl)) (RW.g (v := iV 0) rfl rfl rfl (fun _ => q_len_sl rfl ho.sl uT42) ?_)))))))))
  refine RW.g (v := .bool true) rfl rfl rfl (fun _ => q_as (q_eql rfl rfl) rfl) (RW.q rfl (qkT rfl rfl) ?_)
  repeat refine gs1 ?_
  exact fin_res (vs := [.bool true]) rfl rfl ⟨.tmp rfl, trivial⟩ rfl (fun w' hw => ⟨rfl, hw.below rfl⟩)
 ·
  obtain ⟨uu, hrun⟩ := Mn.run_S hk hm hn h3
  refine RW.eff _ _ rfl (e_callS (args := #[.agg (plB (p1, p2, p3, p4)).cs.toArray, .agg #[.slice y.1 _ y.2.1, .slice y.2.2.1 _ y.2.2.2], .agg (fcC (fc1 nS) 0).toArray]) oK rfl rfl (fun w1 hw1 => run_x (hrun ▸ mRun_c w1 Ψ hw1.phi (hG7.mono hle) (hb.mono hle) (hps.mono hle) e1l e1m pos1 hyf hyc (f := Mn.fct0) (fc1_ok (l := []) repSl_nil) (i64_lit (n := 0) (by omega))))) ?_
  rintro ⟨⟨v, Ψ2⟩, ⟨⟨oA, oc⟩, hv, ho⟩, hle2⟩
  simp only at hv ho hle2 ⊢
  subst hv
  repeat refine gs1 ?_
  refine RW.alc rfl fun b20 => ?_
  repeat refine gs1 ?_
  refine RW.q (v := .bool (decide ((k : Int) = 3) && decide ((n : Int) = 0))) rfl (qpA rfl rfl rfl) ?_
  repeat refine gs1 ?_
  refine AW.cond rfl (fun hc => absurd (show k = 3 ∧ n = 0 by simp only [Bool.and_eq_true, decide_eq_true_eq] at hc; omega) h3) fun _ => ?_
  repeat refine gs1 ?_
  refine RW.q rfl (qkT rfl rfl) (RW.q rfl (q_move rfl) (RW.g rfl rfl rfl (fun _ => qa_fa0 rfl) (RW.g rfl rfl rfl (fun _ => qa_ld rfl (Cell.blk 0 rfl rfl)) (RW.g (v := .bool true) rfl rfl rfl (fun _ => q_as (q_eql rfl rfl) rfl) (RW.q rfl (qkT rfl rfl) (RW.q rfl (q_move rfl) (RW.g rfl rfl rfl (fun _ => qa_fa0 rfl) (RW.g rfl rfl rfl (fun _ => qa_ld rfl (Cell.blk 0 rfl rfl)) (RW.g (v := iV 1) rfl rfl rfl (fun _ => q_len_sl rfl ho.sl uT42) ?_)))))))))
  refine RW.g (v := .bool true) rfl rfl rfl (fun _ => q_as (q_eql rfl rfl) rfl) (RW.q rfl (qkT rfl rfl) (RW.q rfl (q_move rfl) (RW.g rfl rfl rfl (fun _ => qa_fa0 rfl) (RW.g rfl rfl rfl (fun _ => qa_ld rfl (Cell.blk 0 rfl rfl)) (RW.g (v := .pointer (some (Value.at (.slice oA 1 oc) (0 * 2)))) rfl rfl rfl (fun _ => qa_ixL (n := 1) (i := 0) rfl rfl ho.sl (by omega)) (RW.g (v := .agg #[iV 0, iV (Mn.want k m n)]) rfl rfl rfl (fun _ => qa_ldA (cs := [iV 0, iV (Mn.want k m n)]) rfl (Cells.repE (k := 0) ho (by simp) rfl) rfl) (RW.g rfl rfl rfl (fun _ => q_move rfl) (RW.g (v := .agg #[iV 0, iV (Mn.want k m n)]) rfl rfl rfl (fun _ => q_build (vals := [(0, iV 0), (1, iV (Mn.want k m n))]) zero49 uT49 places49 rfl rfl) (RW.g (v := .bool true) rfl rfl rfl (fun _ => q_as (q_eqlS rfl rfl (eqS49 _ _ _ _) eqG49) (congrArg Value.bool (by simp))) ?_)))))))))
  refine RW.q rfl (qkT rfl rfl) ?_
  repeat refine gs1 ?_
  exact fin_res (vs := [.bool true]) rfl rfl ⟨.tmp rfl, trivial⟩ rfl (fun w' hw => ⟨rfl, hw.below rfl⟩)
end Go.Proofs.YtnfmjfheciihjaaGreatDoor
