/- Lemmas. Conditions: those of each theorem. -/
import Derived.Test.YtnfmjfheciihjaaGreatDoorYFwA
set_option maxRecDepth 8000
set_option maxHeartbeats 16000000
namespace Go.Proofs.YtnfmjfheciihjaaGreatDoor
open Go Go.K Go.RowKit
open Ru (pB)
attribute [local irreducible] AW RW DW Post Qt
theorem inside_c : ∀ (g : Nat) (w : World) {x : Bt.Expr} {v : Value} {o : Int}, SizeOf.sizeOf x ≤ g → RepSl (hp w) x.Kids v →
    Calls pg 34 #[.agg (exC x v).toArray, .int .i64 o] w fun e w' => e = .returned (.bool (Mn.inside x o)) ∧ Bel w.heap.size w w'
  | 0, w, ⟨k, n, a, b, ks⟩, v, o, hs, hv => by simp at hs
  | g + 1, w, x, v, o, hs, hv => by
    have hxb : x.Kids.length * 56 ≤ maxSl := hv.max
    simp only [maxSl] at hxb
    obtain ⟨vA, vc, rfl, _⟩ := hv.sl
    have hvs := hv.sl
    refine calls_of_AW (args := [.agg (exC x (.slice vA x.Kids.length vc)).toArray, .int .i64 o]) Tryz.func34 rfl (lBT rfl) (St ⟨w, hp w, []⟩ (hp w) []) (StP.init w (hp w) (Hp.le_refl _) []) ?_
    show AW _ _ [] _ _ _ [(0, .agg (exC x (.slice vA x.Kids.length vc)).toArray), (1, .int .i64 o)] _
    refine gR ?_
    refine RW.bxA (cs := exC x (.slice vA x.Kids.length vc)) rfl rfl fun b2 => ?_
    refine gR ?_
    refine RW.q (v := .bool (decide (x.Kind = 1) && decide (x.Of = o))) rfl (qpA rfl rfl rfl) ?_
    refine gR ?_
    refine AW.cond rfl (fun h => ?_) fun h => ?_
    · refine gR ?_
      exact fin_res (vs := [.bool true]) rfl rfl ⟨.tmp rfl, trivial⟩ rfl (fun w' hw => ⟨by rw [Mn.inside_eq, h]; rfl, hw.below rfl⟩)
    refine gR ?_
    refine AW.loop (fun s J q => ∃ i : Nat, s = [(1, .int .i64 o), (2, pB b2), (5, .int .i64 (i : Int))] ∧ J = St ⟨w, hp w, []⟩ (hp w) [.blk b2 69 (exC x (.slice vA x.Kids.length vc))] ∧ q = x.Kids.length - i ∧ i ≤ x.Kids.length ∧ Mn.inside.insideL (x.Kids.drop i) o = Mn.inside x o) (s0 := [(1, .int .i64 o), (2, pB b2), (5, .int .i64 ((0 : Nat) : Int))]) (J1 := _) (m0 := _) ⟨0, rfl, rfl, rfl, Nat.zero_le _, by rw [Mn.inside_eq, h]; rfl⟩ ⟨rfl, rfl, rfl, trivial⟩ (fun _ h => h) ?_
    rintro _ _ _ _ ⟨i, rfl, rfl, rfl, hi, hL⟩
    refine gR ?_
    refine AW.cond rfl (fun h => ?_) fun h => ?_
    · have h : i < x.Kids.length := by have := odT h; omega
      obtain ⟨Aa, ca, hpa, hra⟩ := kidV hv (i := i) h
      have hsz : SizeOf.sizeOf (x.Kids.getD i default) ≤ g := by
        have h1 : x.Kids.getD i default ∈ x.Kids := by rw [gDD, List.getElem?_eq_getElem h]; exact List.getElem_mem _
        have h2 := List.sizeOf_lt_of_mem h1
        have h3 : SizeOf.sizeOf x.Kids < SizeOf.sizeOf x := by obtain ⟨k, n, a, b, ks⟩ := x; simp; omega
        omega
      have hdr : x.Kids.drop i = x.Kids.getD i default :: x.Kids.drop (i + 1) := by rw [List.drop_eq_getElem_cons h, gDD, List.getElem?_eq_getElem h]; rfl
      rw [hdr, Mn.inside.insideL] at hL
      refine gR ?_
      refine RW.q rfl (q_call (args := #[.agg (exC (x.Kids.getD i default) (.slice Aa (x.Kids.getD i default).Kids.length ca)).toArray, .int .i64 o]) oK rfl rfl (fun w1 hw1 => inside_c g w1 hsz (hra.mono hw1.phi))) ?_
      refine gR ?_
      refine AW.cond rfl (fun hn => ?_) fun hn => ?_
      · rw [hn, Bool.true_or] at hL
        refine gR ?_
        exact fin_res (vs := [.bool true]) rfl rfl ⟨.tmp rfl, trivial⟩ rfl (fun w' hw => ⟨by rw [← hL]; rfl, hw.below rfl⟩)
      · rw [hn, Bool.false_or] at hL
        refine gR ?_
        exact Post.back (s' := _) (J' := _) (m' := _) (by omega) ⟨i + 1, rfl, rfl, rfl, by omega, hL⟩ ⟨rfl, rfl, rfl, trivial⟩ (fun _ h => h)
    · have h : i = x.Kids.length := by have := odF h; omega
      subst h
      rw [List.drop_length, Mn.inside.insideL] at hL
      refine gR ?_
      exact fin_res (vs := [.bool false]) rfl rfl ⟨.tmp rfl, trivial⟩ rfl (fun w' hw => ⟨by rw [← hL]; rfl, hw.below rfl⟩)
theorem names_c (w : World) {r : Bt.Rule} {fv cv : Value} {o : Int} (hf : RepSl (hp w) r.Funcs fv) (hc : RepSl (hp w) r.Clauses cv) :
    Calls pg 17 #[.agg #[fv, cv], .int .i64 o] w fun e w' => e = .returned (.bool (!Mn.few r || Mn.namesR r o)) ∧ Bel w.heap.size w w' := by
  obtain ⟨fA, fc, rfl, _⟩ := hf.sl
  obtain ⟨cA, cc, rfl, _⟩ := hc.sl
  have hfs := hf.sl
  have hcs := hc.sl
  refine calls_of_AW (args := [.agg #[.slice fA r.Funcs.length fc, .slice cA r.Clauses.length cc], .int .i64 o]) Tryz.func17 rfl (lBT rfl) (St ⟨w, hp w, []⟩ (hp w) []) (StP.init w (hp w) (Hp.le_refl _) []) ?_
  show AW _ _ [] _ _ _ [(0, .agg #[.slice fA r.Funcs.length fc, .slice cA r.Clauses.length cc]), (1, .int .i64 o)] _
  refine gR ?_
  refine RW.bxA (cs := (rS2 fA fc cA cc r)) rfl rfl fun b2 => ?_
  refine gR ?_
  refine RW.q (v := .bool (Mn.few r)) rfl (q_call (args := #[.agg #[.slice fA r.Funcs.length fc, .slice cA r.Clauses.length cc]]) oK rfl rfl (fun w1 hw1 => few_c w1 (hf.mono hw1.phi) (hc.mono hw1.phi))) ?_
  refine gR ?_
  refine AW.cond rfl (fun h => ?_) fun h => ?_
  · refine gR ?_
    exact fin_res (vs := [.bool true]) rfl rfl ⟨.tmp rfl, trivial⟩ rfl (fun w' hw => ⟨by rw [h]; rfl, hw.below rfl⟩)
  have hls : r.Funcs.length ≤ 12 ∧ r.Clauses.length ≤ 12 := by
    unfold Mn.few at h
    split at h
    · cases h
    · omega
  have hN : (!Mn.few r || Mn.namesR r o) = (((r.Funcs.drop 0).any fun q => Mn.inside q.Body o) || r.Clauses.any fun c => Mn.clIn c o) := by rw [h]; rfl
  refine gR ?_
  refine AW.loop (fun s J q => ∃ i : Nat, s = [(1, .int .i64 o), (2, pB b2), (6, .int .i64 (i : Int))] ∧ J = St ⟨w, hp w, []⟩ (hp w) [.blk b2 35 (rS2 fA fc cA cc r)] ∧ q = r.Funcs.length - i ∧ i ≤ r.Funcs.length ∧ (!Mn.few r || Mn.namesR r o) = (((r.Funcs.drop i).any fun q => Mn.inside q.Body o) || r.Clauses.any fun c => Mn.clIn c o)) (s0 := [(1, .int .i64 o), (2, pB b2), (6, .int .i64 ((0 : Nat) : Int))]) (J1 := _) (m0 := _) ⟨0, rfl, rfl, rfl, Nat.zero_le _, hN⟩ ⟨rfl, rfl, rfl, trivial⟩ (fun _ h => h) ?_
  rintro _ _ _ _ ⟨i, rfl, rfl, rfl, hi, hN⟩
  refine gR ?_
  refine AW.cond rfl (fun h => ?_) fun h => ?_
  · have h : i < r.Funcs.length := by have := odT h; omega
    obtain ⟨Aa, ca, hpa, hra⟩ := funV hf h
    have hdr : r.Funcs.drop i = r.Funcs.getD i default :: r.Funcs.drop (i + 1) := by rw [List.drop_eq_getElem_cons h, gDD, List.getElem?_eq_getElem h]; rfl
    rw [hdr, List.any_cons] at hN
    refine gR ?_
    refine RW.q rfl (q_call (args := #[.agg (exC (r.Funcs.getD i default).Body (.slice Aa (r.Funcs.getD i default).Body.Kids.length ca)).toArray, .int .i64 o]) oK rfl rfl (fun w1 hw1 => inside_c _ w1 (Nat.le_refl _) (hra.mono hw1.phi))) ?_
    refine gR ?_
    refine AW.cond rfl (fun hn => ?_) fun hn => ?_
    · rw [hn] at hN
      refine gR ?_
      exact fin_res (vs := [.bool true]) rfl rfl ⟨.tmp rfl, trivial⟩ rfl (fun w' hw => ⟨by rw [hN]; rfl, hw.below rfl⟩)
    · rw [hn, Bool.false_or] at hN
      refine gR ?_
      exact Post.back (s' := _) (J' := _) (m' := _) (by omega) ⟨i + 1, rfl, rfl, rfl, by omega, hN⟩ ⟨rfl, rfl, rfl, trivial⟩ (fun _ h => h)
  have h : i = r.Funcs.length := by have := odF h; omega
  subst h
  rw [List.drop_length] at hN
  refine gR ?_
  refine AW.loop (fun s J q => ∃ i : Nat, s = [(1, .int .i64 o), (2, pB b2), (8, .int .i64 (i : Int))] ∧ J = St ⟨w, hp w, []⟩ (hp w) [.blk b2 35 (rS2 fA fc cA cc r)] ∧ q = r.Clauses.length - i ∧ i ≤ r.Clauses.length ∧ (!Mn.few r || Mn.namesR r o) = (r.Clauses.drop i).any fun c => Mn.clIn c o) (s0 := [(1, .int .i64 o), (2, pB b2), (8, .int .i64 ((0 : Nat) : Int))]) (J1 := _) (m0 := _) ⟨0, rfl, rfl, rfl, Nat.zero_le _, hN⟩ ⟨rfl, rfl, rfl, trivial⟩ (fun _ h => h) ?_
  rintro _ _ _ _ ⟨i, rfl, rfl, rfl, hi, hN⟩
  refine gR ?_
  refine AW.cond rfl (fun h => ?_) fun h => ?_
  · have h : i < r.Clauses.length := by have := odT h; omega
    obtain ⟨Aa, ca, Ab, cb, hpi, hpt, hki, hkt⟩ := clP2 hc h
    have hdr : r.Clauses.drop i = r.Clauses.getD i default :: r.Clauses.drop (i + 1) := by rw [List.drop_eq_getElem_cons h, gDD, List.getElem?_eq_getElem h]; rfl
    rw [hdr, List.any_cons] at hN
    refine gR ?_
    refine RW.q rfl (q_call (args := #[.agg (exC (r.Clauses.getD i default).If (.slice Aa (r.Clauses.getD i default).If.Kids.length ca)).toArray, .int .i64 o]) oK rfl rfl (fun w1 hw1 => inside_c _ w1 (Nat.le_refl _) (hki.mono hw1.phi))) ?_
    refine gR ?_
    refine RW.q rfl (q_call (args := #[.agg (exC (r.Clauses.getD i default).To (.slice Ab (r.Clauses.getD i default).To.Kids.length cb)).toArray, .int .i64 o]) oK rfl rfl (fun w1 hw1 => inside_c _ w1 (Nat.le_refl _) (hkt.mono hw1.phi))) ?_
    refine gR ?_
    refine RW.q (v := .bool (Mn.clIn (r.Clauses.getD i default) o)) rfl (qpO rfl rfl rfl) ?_
    refine gR ?_
    refine AW.cond rfl (fun hn => ?_) fun hn => ?_
    · rw [hn] at hN
      refine gR ?_
      exact fin_res (vs := [.bool true]) rfl rfl ⟨.tmp rfl, trivial⟩ rfl (fun w' hw => ⟨by rw [hN]; rfl, hw.below rfl⟩)
    · rw [hn, Bool.false_or] at hN
      refine gR ?_
      exact Post.back (s' := _) (J' := _) (m' := _) (by omega) ⟨i + 1, rfl, rfl, rfl, by omega, hN⟩ ⟨rfl, rfl, rfl, trivial⟩ (fun _ h => h)
  have h : i = r.Clauses.length := by have := odF h; omega
  subst h
  rw [List.drop_length] at hN
  refine gR ?_
  exact fin_res (vs := [.bool false]) rfl rfl ⟨.tmp rfl, trivial⟩ rfl (fun w' hw => ⟨by rw [hN]; rfl, hw.below rfl⟩)
end Go.Proofs.YtnfmjfheciihjaaGreatDoor
namespace Ru
open Bt
def env0 : Env := ⟨[[108, 97, 107, 101], [98, 114, 111, 111, 107]], [[112, 117, 98, 108, 105, 99]], [[103, 49], [103, 50]], [[111, 108, 100, 116, 111, 119, 110]]⟩
def srcA : List UInt8 := [119, 104, 101, 110, 32, 118, 111, 108, 117, 109, 101, 40, 108, 97, 107, 101, 41, 32, 62, 32, 49, 48, 32, 116, 104, 101, 110, 32, 115, 101, 116, 32, 103, 49, 32, 116, 111, 32, 57, 10, 119, 104, 101, 110, 32, 116, 114, 117, 101, 32, 116, 104, 101, 110, 32, 115, 101, 116, 32, 103, 49, 32, 116, 111, 32, 49, 10, 119, 104, 101, 110, 32, 116, 114, 117, 101, 32, 116, 104, 101, 110, 32, 115, 101, 116, 32, 103, 50, 32, 116, 111, 32, 48, 32, 45, 32, 53, 10]
def srcB : List UInt8 := [100, 101, 102, 32, 102, 40, 110, 58, 32, 105, 110, 116, 41, 58, 32, 98, 111, 111, 108, 32, 61, 32, 102, 40, 110, 41, 10, 119, 104, 101, 110, 32, 102, 40, 49, 41, 32, 116, 104, 101, 110, 32, 115, 101, 116, 32, 103, 49, 32, 116, 111, 32, 49, 10]
def lit (n : Int) : Expr := ⟨0, n, 0, 0, []⟩
def tru : Expr := ⟨10, 0, 0, 0, [lit 0, lit 0]⟩
def ruleA : Rule := ⟨[], [⟨⟨8, 0, 0, 0, [lit 10, ⟨1, 0, 0, 0, []⟩]⟩, 0, lit 9⟩, ⟨tru, 0, lit 1⟩, ⟨tru, 1, ⟨5, 0, 0, 0, [lit 0, lit 5]⟩⟩]⟩
def ruleB : Rule := ⟨[⟨[102], [0], 1, ⟨14, 0, 0, 0, [⟨15, 0, 0, 0, []⟩]⟩⟩], [⟨⟨14, 0, 0, 0, [lit 1]⟩, 0, lit 1⟩]⟩
theorem parse_A : ruleParse env0 srcA = (ruleA, 0, 0) := by
  kernel_rfl
theorem parse_B : ruleParse env0 srcB = (ruleB, 0, 0) := by
  kernel_rfl
end Ru
namespace Mn
open Bt Ru
def fctA (n : Int) : Facts := ⟨[n], [], [], [], 0, []⟩
def fct0 : Facts := ⟨[], [], [], [], 0, []⟩
theorem run_A1 : run env0 [4, 2] ruleA (fctA 11) = ⟨[(0, 4), (1, 0)], 3, 0⟩ := by kernel_rfl
theorem run_A2 : run env0 [4, 2] ruleA (fctA 10) = ⟨[(0, 1), (1, 0)], 3, 0⟩ := by kernel_rfl
theorem run_B : run env0 [4, 2] ruleB fct0 = ⟨[], 102, 8⟩ := by kernel_rfl
end Mn
namespace Go.Proofs.YtnfmjfheciihjaaGreatDoor
open Go Go.K Go.RowKit
open Ru (pB NmS BasV)
attribute [local irreducible] AW RW DW Post Qt
theorem eqF49 (a b c d : Int) (n : Nat) (w : World) : (Op.eqFields (n + 1) #[iV a, iV b] #[iV c, iV d] (pg.fieldsOf 49).toList).run pg w = .ok (decide (a = c) && decide (b = d)) w := by
 unfold Program.fieldsOf
 rw [uT49]
 have hp : ∀ {cs : Array Value} {o : Nat} {v : Value} (h : cs[o]? = some v) (w : World), (part 3 cs o).run pg w = .ok v w := fun h w => run_part1 uT3 rfl h w
 have hq : ∀ (x y : Int) (w : World), (Op.equalIn (n + 1) 3 (iV x) (iV y)).run pg w = .ok (x == y) w := fun x y w => run_equalIn_int w n 3 .i64 .i64 x y uT3
 simp only [Op.eqFields, ne_eq, String.reduceEq, not_false_eq_true, if_true, Sem.run_bind, hp (show #[Value.int .i64 a, Value.int .i64 b][0]? = some (iV a) from rfl), hp (show #[Value.int .i64 c, Value.int .i64 d][0]? = some (iV c) from rfl), hp (show #[Value.int .i64 a, Value.int .i64 b][1]? = some (iV b) from rfl), hp (show #[Value.int .i64 c, Value.int .i64 d][1]? = some (iV d) from rfl), hq, Result.andThen_ok, Sem.run_ite, Sem.run_pure]
 by_cases h1 : a = c <;> by_cases h2 : b = d <;> simp [h1, h2]
theorem eqS49 (a b c d : Int) : ∀ w, (Op.equal 49 (.agg #[iV a, iV b]) (.agg #[iV c, iV d])).run pg w = .ok (decide (a = c) && decide (b = d)) w := fun w => by
 have hT : pg.underlying 49 = some (.struct (pg.fieldsOf 49)) := by unfold Program.fieldsOf; rw [uT49]
 show (Op.equalIn (9998 + 1 + 1) 49 _ _).run pg w = _
 rw [run_equalIn_struct w (9998 + 1) 49 _ _ hT (by kernel_rfl)]
 exact eqF49 a b c d 9998 w
theorem eqG49 : Program.eqGuardType pg pg.depth 49 = false := by kernel_rfl
theorem RowS.pc {Φ : Hp} {v : Value} {T sz n : Nat} {xs : List Value} (h : RowS Φ v T sz n xs) {k : Nat} {x : Value} (hx : xs[k]? = some x) : PCell Φ (Value.at v k) x := by
 obtain ⟨hl, hs⟩ := h
 have hk : k < xs.length := (List.getElem?_eq_some_iff.1 hx).1
 rcases hs with ⟨rfl, rfl⟩ | ⟨g, cap, cur, rfl, h2, h3, h4, h5, h6⟩
 ·
  omega
 ·
  have ha : Value.at (.slice (some ⟨g, 0, none⟩) n cap) k = ⟨g, k, none⟩ := by
   simp only [Value.at, Addr.add]; split <;> simp_all
  rw [ha]
  refine ⟨cur, T, (0, 0), h2, rfl, ?_⟩
  rw [← h6] at hx
  simp only [List.getElem?_take] at hx
  split at hx
  ·
   simpa using hx
  ·
   cases hx
abbrev sV (l : List UInt8) : Value := .string (bs l)
abbrev plC (nm : List UInt8) : List Value := [sV nm, iV 0, iV 0, iV 0, nS, nS, iV 0, iV 0, iV 0, iV 0, iV 0, nS]
abbrev lkC (nm : List UInt8) (p : Int) : List Value := [sV nm, iV 0, iV 0, iV 0, nS, nS, nS, iV p, iV 0, iV 0, iV 0, iV 0, iV 0, iV 0, iV 0, iV 0, iV 0, iV 0]
abbrev tnC (nm : List UInt8) : List Value := [sV nm, iV 0, iV 0, iV 0, iV 0, iV 0, iV 0]
theorem nms1 {Φ : Hp} {v : Value} {T sz : Nat} {xs : List Value} {a : List UInt8} (h : RowS Φ v T sz 1 xs) (h1 : xs[0]? = some (sV a)) (ha : a.length ≤ maxLen) : NmS Φ v sz [a] := ⟨h.isSl, fun i hi => by
 obtain rfl : i = 0 := by simpa using hi
 rw [Nat.zero_mul]; exact RowS.pc h h1, fun n hn => by
 obtain rfl : n = a := by simpa using hn
 exact ha, by simp⟩
theorem nms2 {Φ : Hp} {v : Value} {T sz : Nat} {xs : List Value} {a b : List UInt8} (h : RowS Φ v T sz 2 xs) (h1 : xs[0]? = some (sV a)) (h2 : xs[sz]? = some (sV b)) (ha : a.length ≤ maxLen) (hb : b.length ≤ maxLen) : NmS Φ v sz [a, b] := ⟨h.isSl, fun i hi => by
 match i, hi with
 | 0, _ => rw [Nat.zero_mul]; exact RowS.pc h h1
 | 1, _ => rw [Nat.one_mul]; exact RowS.pc h h2, fun n hn => by
 rcases (by simpa using hn : n = a ∨ n = b) with rfl | rfl
 ·
  exact ha
 ·
  exact hb, by simp⟩
abbrev plK (z : Nat × Nat × Nat × Nat) : List Chunk := [.row (nR z.2.2.1 2) 58 18 2 (lkC [103, 49] 4 ++ lkC [103, 50] 2), .row (nR z.2.2.2 1) 94 7 1 (tnC [111, 108, 100, 116, 111, 119, 110]), .row (nR z.2.1 2) 92 12 2 (plC [108, 97, 107, 101] ++ plC [98, 114, 111, 111, 107]), .row (nR z.1 1) 9 1 1 [sV [112, 117, 98, 108, 105, 99]]]
abbrev plB (z : Nat × Nat × Nat × Nat) : BasV := ⟨[], nR z.1 1, 0, nR z.2.1 2, nR z.2.2.1 2, nR z.2.2.2 1, nS, nS, nS, nS, 0⟩
theorem plainM_c (w : World) : Calls pg 14 #[] w (MkR w (fun z => .agg (plB z).cs.toArray) plK) := by
 refine calls_of_AW (args := []) Tryz.func14 rfl (lBT rfl) (St ⟨w, hp w, []⟩ (hp w) []) (StP.init w (hp w) (Hp.le_refl _) []) ?_
 show AW _ _ [] _ _ _ [] _
 refine gR ?_
 refine RW.alc rfl fun b0 => ?_
 refine gR ?_
 refine RW.eff _ _ rfl (e_buildSlice (vals := [(0, sV [112, 117, 98, 108, 105, 99])]) (cells := [sV [112, 117, 98, 108, 105, 99]]) uT22 inf9 rfl rfl rfl (by kernel_rfl) rfl) fun b1 => (RW.q (v := .agg (plC [108, 97, 107, 101]).toArray) rfl (q_build (vals := [(0, sV [108, 97, 107, 101])]) zero92 uT92 places92 rfl rfl) (RW.q (v := .agg (plC [98, 114, 111, 111, 107]).toArray) rfl (q_build (vals := [(0, sV [98, 114, 111, 111, 107])]) zero92 uT92 places92 rfl rfl) (RW.eff _ _ rfl (e_buildSlice (vals := [(0, .agg (plC [108, 97, 107, 101]).toArray), (1, .agg (plC [98, 114, 111, 111, 107]).toArray)]) (cells := plC [108, 97, 107, 101] ++ plC [98, 114, 111, 111, 107]) uT23 inf92 rfl rfl rfl (by kernel_rfl) rfl) fun b4 => (RW.q (v := .agg (lkC [103, 49] 4).toArray) rfl (q_build (vals := [(0, sV [103, 49]), (6, iV 4)]) zero58 uT58 places58 rfl rfl) (RW.q (v := .agg (lkC [103, 50] 2).toArray) rfl (q_build (vals := [(0, sV [103, 50]), (6, iV 2)]) zero58 uT58 places58 rfl rfl) (RW.eff _ _ rfl (e_buildSlice (vals := [(0, .agg (lkC [103, 49] 4).toArray), (1, .agg (lkC [103, 50] 2).toArray)]) (cells := lkC [103, 49] 4 ++ lkC [103, 50] 2) uT24 inf58 rfl rfl rfl (by kernel_rfl) rfl) fun b7 => (RW.q (v := .agg (tnC [111, 108, 100, 116, 111, 119, 110]).toArray) rfl (q_build (vals := [(0, sV [111, 108, 100, 116, 111, 119, 110])]) zero94 uT94 places94 rfl rfl) (RW.eff _ _ rfl (e_buildSlice (vals := [(0, .agg (tnC [111, 108, 100, 116, 111, 119, 110]).toArray)]) (cells := tnC [111, 108, 100, 116, 111, 119, 110]) uT25 inf94 rfl rfl rfl (by kernel_rfl) rfl) fun b9 => (RW.q (v := .agg (plB (b1, b4, b7, b9)).cs.toArray) rfl (q_build (vals := [(1, nR b1 1), (3, nR b4 2), (4, nR b7 2), (5, nR b9 1)]) zero31 uT31 places31 rfl rfl) ?_)))))))))
 refine RW.wk (J' := St ⟨w, hp w, []⟩ (hp w) (.blk b0 31 [.string (bs []), nS, iV 0, nS, nS, nS, nS, nS, nS, nS, iV 0] :: plK (b1, b4, b7, b9))) (fun _ h => StP.sel h [4, 1, 0, 2, 3] (by decide) rfl) (RW.effn (J' := St ⟨w, hp w, []⟩ (hp w) (.blk b0 31 (plB (b1, b4, b7, b9)).cs :: plK (b1, b4, b7, b9))) (e_store (v := .agg (plB (b1, b4, b7, b9)).cs.toArray) 0 rfl rfl rfl sz31 rfl rfl rfl rfl rfl) ?_)
 refine gR ?_
 exact fin_res (vs := [.agg (plB (b1, b4, b7, b9)).cs.toArray]) rfl rfl ⟨.agg rfl rfl (Cells.blk 0 rfl), trivial⟩ rfl (fun w' hw => ⟨(b1, b4, b7, b9), rfl, StP.sel hw [1, 2, 3, 4] (by decide) rfl⟩)
theorem plain_c (w : World) (Φ : Hp) (_ : Hp.le Φ (hp w)) : Calls pg 14 #[] w (RetS Φ w fun v Ψ => ∃ b : BasV, v = .agg b.cs.toArray ∧ b.ok Ψ Ru.env0 ∧ PosS Ψ b.lv [4, 2] ∧ b.cs.all Value.oneCell' = true) := (plainM_c w).mono fun e w' hh => by
 obtain ⟨z, rfl, hw⟩ := hh
 have r3 := row_ext (Φr := Φ) hw 0 rfl
 refine ⟨_, rfl, hw.below rfl, plB z, rfl, ⟨nms1 (row_ext hw 3 rfl) rfl (by decide), nms2 (row_ext hw 2 rfl) rfl rfl (by decide) (by decide), nms2 r3 rfl rfl (by decide) (by decide), nms1 (row_ext hw 1 rfl) rfl (by decide)⟩, fun i hi => ?_, rfl⟩
 match i, hi with
 | 0, _ => exact RowS.pc r3 (k := 7) rfl
 | 1, _ => exact RowS.pc r3 (k := 25) rfl
def _root_.Mn.sameO (a b : Bt.Order) : Bool := decide (a.Used = b.Used) && decide (a.Fault = b.Fault) && decide (a.Cmds = b.Cmds)
theorem oSame_c (w : World) {a b : Bt.Order} {v1 v2 : Value} (h1 : RepSl (hp w) a.Cmds v1) (h2 : RepSl (hp w) b.Cmds v2) :
  Calls pg 10 #[.agg (orC v1 a.Used a.Fault).toArray, .agg (orC v2 b.Used b.Fault).toArray] w fun e w' => e = .returned (.bool (Mn.sameO a b)) ∧ Bel w.heap.size w w' := by
 obtain ⟨A1, c1, rfl, _⟩ := h1.sl
 obtain ⟨A2, c2, rfl, _⟩ := h2.sl
 have s1 := h1.sl
 have s2 := h2.sl
 have m1 := h1.max
 simp only [Rep.bytes, maxSl] at m1
 refine calls_of_AW (args := [.agg (orC (.slice A1 a.Cmds.length c1) a.Used a.Fault).toArray, .agg (orC (.slice A2 b.Cmds.length c2) b.Used b.Fault).toArray]) Tryz.func10 rfl (lBT rfl) (St ⟨w, hp w, []⟩ (hp w) []) (StP.init w (hp w) (Hp.le_refl _) []) ?_
 show AW _ _ [] _ _ _ [(0, .agg (orC (.slice A1 a.Cmds.length c1) a.Used a.Fault).toArray), (1, .agg (orC (.slice A2 b.Cmds.length c2) b.Used b.Fault).toArray)] _
 refine gR ?_
 refine RW.bxA (cs := orC (.slice A1 a.Cmds.length c1) a.Used a.Fault) rfl rfl fun b2 => ?_
 refine RW.bxA (cs := orC (.slice A2 b.Cmds.length c2) b.Used b.Fault) rfl rfl fun b3 => ?_
 refine gR ?_
 refine RW.q (v := .bool ((!decide (a.Used = b.Used)) || !decide (a.Fault = b.Fault))) rfl (qpO rfl rfl rfl) ?_
 refine gR ?_
 refine RW.g (b := ((!decide (a.Used = b.Used)) || !decide (a.Fault = b.Fault))) (v := iV (a.Cmds.length : Int)) rfl rfl rfl (fun h => q_len_sl (gv_pos h) s1 uT42) ?_
 refine gR ?_
 refine RW.g (b := ((!decide (a.Used = b.Used)) || !decide (a.Fault = b.Fault))) (v := iV (b.Cmds.length : Int)) rfl rfl rfl (fun h => q_len_sl (gv_pos h) s2 uT42) ?_
 refine gR ?_
 refine RW.q (v := .bool (((!decide (a.Used = b.Used)) || !decide (a.Fault = b.Fault)) || !decide ((a.Cmds.length : Int) = (b.Cmds.length : Int)))) rfl (qpO rfl rfl rfl) ?_
 refine gR ?_
 refine AW.cond rfl (fun h => ?_) fun h => ?_
 ·
  refine gR ?_
  exact fin_res (vs := [.bool false]) rfl rfl ⟨.tmp rfl, trivial⟩ rfl (fun w' hw => ⟨by
   have hz : Mn.sameO a b = false := by
    unfold Mn.sameO
    by_cases h1 : a.Used = b.Used
    ·
     by_cases h2 : a.Fault = b.Fault
     ·
      have : a.Cmds ≠ b.Cmds := fun he => by simp [h1, h2, he] at h
      simp [this]
     ·
      simp [h2]
    ·
     simp [h1]
   rw [hz]; rfl, hw.below rfl⟩)
 have h : (a.Used = b.Used ∧ a.Fault = b.Fault) ∧ a.Cmds.length = b.Cmds.length := by
  simp at h; exact ⟨⟨h.1.1, h.1.2⟩, by omega⟩
 obtain ⟨⟨hu, hfl⟩, hlen⟩ := h
 refine gR ?_
 refine AW.loop (fun s J q => ∃ i : Nat, s = [(2, pB b2), (3, pB b3), (5, iV (i : Int))] ∧ J = St ⟨w, hp w, []⟩ (hp w) [.blk b3 45 (orC (.slice A2 b.Cmds.length c2) b.Used b.Fault), .blk b2 45 (orC (.slice A1 a.Cmds.length c1) a.Used a.Fault)] ∧ q = a.Cmds.length - i ∧ i ≤ a.Cmds.length ∧ ∀ j, j < i → a.Cmds.getD j (0, 0) = b.Cmds.getD j (0, 0)) (s0 := [(2, pB b2), (3, pB b3), (5, iV ((0 : Nat) : Int))]) (J1 := _) (m0 := _) ⟨0, rfl, rfl, rfl, Nat.zero_le _, fun j hj => by omega⟩ ⟨rfl, rfl, rfl, trivial⟩ (fun _ h => h) ?_
 rintro _ _ _ _ ⟨i, rfl, rfl, rfl, hi, hall⟩
 refine gR ?_
 refine AW.cond rfl (fun h => ?_) fun h => ?_
 ·
  have h : i < a.Cmds.length := by have := odT h; omega
  have hb : i < b.Cmds.length := by omega
  refine gR ?_
  refine AW.drawZ (J0 := St ⟨w, hp w, []⟩ (hp w) [.blk b3 45 (orC (.slice A2 b.Cmds.length c2) b.Used b.Fault), .blk b2 45 (orC (.slice A1 a.Cmds.length c1) a.Used a.Fault)]) (tq11 []) od11 hmix (by kernel_rfl) ?_
  refine gR ?_
  refine DW.q (v := .agg #[iV (a.Cmds.getD i (0, 0)).1, iV (a.Cmds.getD i (0, 0)).2]) (fun _ h => h) rfl (qa_ldA (cs := [iV (a.Cmds.getD i (0, 0)).1, iV (a.Cmds.getD i (0, 0)).2]) rfl (Cells.repE h1 h rfl) rfl) ?_
  refine gR ?_
  refine DW.q (v := .agg #[iV (b.Cmds.getD i (0, 0)).1, iV (b.Cmds.getD i (0, 0)).2]) (fun _ h => h) rfl (qa_ldA (cs := [iV (b.Cmds.getD i (0, 0)).1, iV (b.Cmds.getD i (0, 0)).2]) rfl (Cells.repE h2 hb rfl) rfl) (DW.q (v := .bool (!(decide ((a.Cmds.getD i (0, 0)).1 = (b.Cmds.getD i (0, 0)).1) && decide ((a.Cmds.getD i (0, 0)).2 = (b.Cmds.getD i (0, 0)).2)))) (fun _ h => h) rfl (q_neqS rfl rfl (eqS49 _ _ _ _) eqG49) ?_)
  refine gR ?_
  refine AW.cond rfl (fun hc => ?_) fun hc => ?_
  ·
   refine gR ?_
   exact fin_res (vs := [.bool false]) rfl rfl ⟨.tmp rfl, trivial⟩ rfl (fun w' hw => ⟨by
    have hz : Mn.sameO a b = false := by
     unfold Mn.sameO
     have : a.Cmds ≠ b.Cmds := fun he => by simp [he] at hc
     simp [this]
    rw [hz]; rfl, hw.below rfl⟩)
  ·
   have hc : a.Cmds.getD i (0, 0) = b.Cmds.getD i (0, 0) := by
    simp only [Bool.not_eq_false', Bool.and_eq_true, decide_eq_true_eq] at hc
    exact Prod.ext hc.1 hc.2
   refine gR ?_
   exact Post.back (s' := _) (J' := _) (m' := _) (by omega) ⟨i + 1, rfl, rfl, rfl, by omega, fun j hj => by
    by_cases hji : j = i
    ·
     subst hji; exact hc
    ·
     exact hall j (by omega)⟩ ⟨rfl, rfl, rfl, trivial⟩ (fun _ h => h)
 ·
  have h : i = a.Cmds.length := by have := odF h; omega
  subst h
  refine gR ?_
  exact fin_res (vs := [.bool true]) rfl rfl ⟨.tmp rfl, trivial⟩ rfl (fun w' hw => ⟨by
   have hz : Mn.sameO a b = true := by
    unfold Mn.sameO
    have : a.Cmds = b.Cmds := List.ext_getElem hlen fun i h1 h2 => by
     have := hall i h1
     rwa [gDD, gDD, List.getElem?_eq_getElem h1, List.getElem?_eq_getElem h2] at this
    simp [this, hu, hfl]
   rw [hz]; rfl, hw.below rfl⟩)
theorem ints1 {Φ : Hp} {b : Nat} {n : Int} (h : RowS Φ (nR b 1) 3 1 1 [iV n]) (hn : I64 n) : RepSl Φ [n] (nR b 1) := RowS.ints (xs := [n]) h (by decide) (List.forall_mem_singleton.2 hn)
theorem i64_lit {n : Nat} (h : n ≤ 1099511627776) : I64 (n : Int) := I64.nat h
abbrev fc1 (v : Value) : FcV := ⟨v, nS, nS, nS, .slice none 0 0⟩
theorem fc1_ok {Φ : Hp} {v : Value} {l : List Int} (h : RepSl Φ l v) : (fc1 v).ok Φ ⟨l, [], [], [], 0, []⟩ := ⟨h, repSl_nil, repSl_nil, repSl_nil, repSl_nil⟩
theorem pos0 : (∀ x ∈ ([4, 2] : List Int), I64 x) := fun x hx => by
 simp only [List.mem_cons, List.not_mem_nil, or_false] at hx
 rcases hx with rfl | rfl <;> (unfold I64; omega)
theorem parse_x {w : World} {Φ : Hp} {b : BasV} {e : Ru.Env} {l : List UInt8} {r : Bt.Rule} (hp : Ru.ruleParse e l = (r, 0, 0)) (h : Calls pg 16 #[.agg b.cs.toArray, .string (bs l)] w (ParR2 w Φ (Ru.ruleParse e l))) :
  Calls pg 16 #[.agg b.cs.toArray, .string (bs l)] w (RetS Φ w fun v Ψ => ∃ y : Option Addr × Nat × Option Addr × Nat, v = .tuple #[.agg #[.slice y.1 r.Funcs.length y.2.1, .slice y.2.2.1 r.Clauses.length y.2.2.2], iV 0, iV 0] ∧ RepSl Ψ r.Funcs (.slice y.1 r.Funcs.length y.2.1) ∧ RepSl Ψ r.Clauses (.slice y.2.2.1 r.Clauses.length y.2.2.2)) := by
 rw [hp] at h
 refine h.mono fun e w' hh => ?_
 obtain ⟨v, h1, h2, ⟨v1, v2⟩, rfl, h3, h4⟩ := hh
 obtain ⟨fA, fc, h5, _⟩ := h3.sl
 obtain ⟨cA, cc, h6, _⟩ := h4.sl
 simp only at h3 h4 h5 h6
 subst h5; subst h6
 exact ⟨_, h1, h2, (fA, fc, cA, cc), rfl, h3, h4⟩
theorem run_x {w : World} {Φ : Hp} {args : Array Value} {o : Bt.Order} (h : Calls pg 11 args w (OrdR w Φ o)) :
  Calls pg 11 args w (RetS Φ w fun v Ψ => ∃ y : Option Addr × Nat, v = .agg #[.slice y.1 o.Cmds.length y.2, iV o.Used, iV o.Fault] ∧ RepSl Ψ o.Cmds (.slice y.1 o.Cmds.length y.2)) := by
 refine h.mono fun e w' hh => ?_
 obtain ⟨v, h1, h2, cv, rfl, h3⟩ := hh
 obtain ⟨cA, cc, rfl, _⟩ := h3.sl
 exact ⟨_, h1, h2, (cA, cc), rfl, h3⟩
theorem cmd2_wf {a b : Int} (ha : I64 a) (hb : I64 b) : ∀ x ∈ [(a, b), ((1 : Int), (0 : Int))], RepE.wf x := fun x hx => by
 simp only [List.mem_cons, List.not_mem_nil, or_false] at hx
 rcases hx with rfl | rfl
 ·
  exact ⟨ha, hb⟩
 ·
  exact ⟨by unfold I64; omega, by unfold I64; omega⟩
theorem e0l : ([4, 2] : List Int).length = Ru.env0.links.length := rfl
theorem e0m : ([4, 2] : List Int).length * 200 ≤ maxSl := by decide
theorem small_c (w : World) (Φ : Hp) (hΦ : Hp.le Φ (hp w)) (hG : Knows Φ Glob) : Calls pg 8 #[] w (fun e w' => e = .returned (.bool true) ∧ Bel w.heap.size w w') := by
 refine calls_of_AW (args := []) Tryz.func8 rfl (lBT rfl) (St ⟨w, Φ, []⟩ Φ []) (StP.init w Φ hΦ []) ?_
 show AW _ _ [] _ _ _ [] _
 refine gR ?_
 refine RW.eff _ _ rfl (e_callS (args := #[]) oK rfl rfl (fun w1 hw1 => plain_c w1 Φ hw1.phi)) ?_
 rintro ⟨⟨v, Φ1⟩, ⟨b, hv, hb, hp1, hone⟩, hl1⟩
 simp only at hv hb hp1 hl1 ⊢
 subst hv
 have hG1 := hG.mono hl1
 have hb1 := hb
 refine RW.alc rfl fun b1 => ?_
 refine RW.effn (e_stA (cs' := b.cs) 0 rfl rfl rfl hone rfl rfl) ?_
 refine gR ?_
 refine RW.eff _ _ rfl (e_callS (args := #[.agg b.cs.toArray, .string (bs Ru.srcA)]) oK rfl rfl (fun w1 hw1 => parse_x Ru.parse_A (rParse_c w1 Φ1 hw1.phi hG1 hb1 (l := Ru.srcA) (by decide)))) ?_
 rintro ⟨⟨v, Φ2⟩, ⟨⟨fAA, fcA, cAA, ccA⟩, hv, hfA, hcA⟩, hl2⟩
 simp only at hv hfA hcA hl2 ⊢
 subst hv
 have hG2 := hG1.mono hl2
 have hb2 := hb1.mono hl2
 have hp2 := hp1.mono hl2
 refine gR ?_
 refine RW.alc rfl fun b2 => ?_
 refine gR ?_
 refine RW.eff _ _ rfl (e_buildSlice (vals := [(0, iV 11)]) (cells := [iV 11]) uT29 inf3 rfl rfl rfl (by kernel_rfl) rfl) fun d1 => (RW.frzB rfl fun Φ3 hl3 hr3 => ?_)
 have hr3 := ints1 hr3 (by unfold I64; omega)
 have hfA := hfA.mono hl3
 have hcA := hcA.mono hl3
 have hG3 := hG2.mono hl3
 have hb3 := hb2.mono hl3
 have hp3 := hp2.mono hl3
 refine RW.q (v := .agg (fcC (fc1 (nR d1 1)) 0).toArray) rfl (q_build (vals := [(0, nR d1 1)]) zero38 uT38 places38 rfl rfl) (RW.eff _ _ rfl (e_callS (args := #[.agg b.cs.toArray, .agg #[.slice fAA _ fcA, .slice cAA _ ccA], .agg (fcC (fc1 (nR d1 1)) 0).toArray]) oK rfl rfl (fun w1 hw1 => run_x (Mn.run_A1 ▸ mRun_c w1 Φ3 hw1.phi hG3 hb3 hp3 e0l e0m pos0 hfA hcA (f := Mn.fctA 11) (fc1_ok hr3) (i64_lit (n := 0) (by omega))))) ?_)
 rintro ⟨⟨v, Φ4⟩, ⟨⟨oA, kA⟩, hv, hoA⟩, hl4⟩
 simp only at hv hoA hl4 ⊢
 subst hv
 have hfA := hfA.mono hl4
 have hcA := hcA.mono hl4
 have hG4 := hG3.mono hl4
 have hb4 := hb3.mono hl4
 have hp4 := hp3.mono hl4
 refine gR ?_
 refine RW.alc rfl fun b5 => ?_
 refine gR ?_
 refine RW.eff _ _ rfl (e_buildSlice (vals := [(0, iV 10)]) (cells := [iV 10]) uT29 inf3 rfl rfl rfl (by kernel_rfl) rfl) fun d2 => (RW.frzB rfl fun Φ5 hl5 hr5 => ?_)
 have hr5 := ints1 hr5 (by unfold I64; omega)
 have hfA := hfA.mono hl5
 have hcA := hcA.mono hl5
 have hoA := hoA.mono hl5
 have hG5 := hG4.mono hl5
 have hb5 := hb4.mono hl5
 have hp5 := hp4.mono hl5
 refine RW.q (v := .agg (fcC (fc1 (nR d2 1)) 0).toArray) rfl (q_build (vals := [(0, nR d2 1)]) zero38 uT38 places38 rfl rfl) (RW.eff _ _ rfl (e_callS (args := #[.agg b.cs.toArray, .agg #[.slice fAA _ fcA, .slice cAA _ ccA], .agg (fcC (fc1 (nR d2 1)) 0).toArray]) oK rfl rfl (fun w1 hw1 => run_x (Mn.run_A2 ▸ mRun_c w1 Φ5 hw1.phi hG5 hb5 hp5 e0l e0m pos0 hfA hcA (f := Mn.fctA 10) (fc1_ok hr5) (i64_lit (n := 0) (by omega))))) ?_)
 rintro ⟨⟨v, Φ6⟩, ⟨⟨oB, kB⟩, hv, hoB⟩, hl6⟩
 simp only at hv hoB hl6 ⊢
 subst hv
 have hfA := hfA.mono hl6
 have hcA := hcA.mono hl6
 have hoA := hoA.mono hl6
 have hG6 := hG5.mono hl6
 have hb6 := hb5.mono hl6
 have hp6 := hp5.mono hl6
 refine gR ?_
 refine RW.alc rfl fun b6 => ?_
 refine gR ?_
 refine RW.eff _ _ rfl (e_callS (args := #[.agg b.cs.toArray, .string (bs Ru.srcB)]) oK rfl rfl (fun w1 hw1 => parse_x Ru.parse_B (rParse_c w1 Φ6 hw1.phi hG6 hb6 (l := Ru.srcB) (by decide)))) ?_
 rintro ⟨⟨v, Φ7⟩, ⟨⟨fAB, fcB, cAB, ccB⟩, hv, hfB, hcB⟩, hl7⟩
 simp only at hv hfB hcB hl7 ⊢
 subst hv
 have hG7 := hG6.mono hl7
 have hb7 := hb6.mono hl7
 have hp7 := hp6.mono hl7
 refine gR ?_
 refine RW.alc rfl fun b7 => ?_
 refine gR ?_
 have hoA := hoA.mono hl7
 have hoB := hoB.mono hl7
 refine RW.q (v := .agg (fcC (fc1 nS) 0).toArray) rfl (q_build (vals := []) zero38 uT38 places38 rfl rfl) (RW.eff _ _ rfl (e_callS (args := #[.agg b.cs.toArray, .agg #[.slice fAB _ fcB, .slice cAB _ ccB], .agg (fcC (fc1 nS) 0).toArray]) oK rfl rfl (fun w1 hw1 => run_x (Mn.run_B ▸ mRun_c w1 Φ7 hw1.phi hG7 hb7 hp7 e0l e0m pos0 hfB hcB (f := Mn.fct0) (fc1_ok (l := []) repSl_nil) (i64_lit (n := 0) (by omega))))) ?_)
 rintro ⟨⟨v, Φ8⟩, ⟨⟨oC, kC⟩, hv, hoC⟩, hl8⟩
 simp only at hv hoC hl8 ⊢
 subst hv
 have hoA := hoA.mono hl8
 have hoB := hoB.mono hl8
 have hG8 := hG7.mono hl8
 have hb8 := hb7.mono hl8
 have hp8 := hp7.mono hl8
 refine gR ?_
 refine RW.alc rfl fun b10 => ?_
 refine gR ?_
 refine RW.q (v := .agg #[iV 0, iV 4]) rfl (q_build (vals := [(0, iV 0), (1, iV 4)]) zero49 uT49 places49 rfl rfl) (RW.q (v := .agg #[iV 1, iV 0]) rfl (q_build (vals := [(0, iV 1)]) zero49 uT49 places49 rfl rfl) (RW.eff _ _ rfl (e_buildSlice (vals := [(0, .agg #[iV 0, iV 4]), (1, .agg #[iV 1, iV 0])]) (cells := [iV 0, iV 4, iV 1, iV 0]) uT42 inf49 rfl rfl rfl (by kernel_rfl) rfl) fun d3 => (RW.frzB rfl fun Φ9 hl9 hr9 => ?_)))
 have hr9 : RepSl Φ9 [((0 : Int), (4 : Int)), (1, 0)] (nR d3 2) := RowS.repE evenCmd hr9 rfl (by decide) (cmd2_wf (by unfold I64; omega) (by unfold I64; omega))
 have hoA := hoA.mono hl9
 have hoB := hoB.mono hl9
 refine RW.q (v := .agg (orC (nR d3 2) 3 0).toArray) rfl (q_build (vals := [(0, nR d3 2), (1, iV 3)]) zero45 uT45 places45 rfl rfl) (RW.q (v := .bool true) rfl (q_call (args := #[.agg (orC (.slice oA _ kA) 3 0).toArray, .agg (orC (nR d3 2) 3 0).toArray]) oK rfl rfl (fun w1 hw1 => oSame_c w1 (a := ⟨[(0, 4), (1, 0)], 3, 0⟩) (b := ⟨[(0, 4), (1, 0)], 3, 0⟩) (hoA.mono hw1.phi) (hr9.mono hw1.phi))) ?_)
 refine gR ?_
 refine RW.q (v := .agg #[iV 0, iV 1]) rfl (q_build (vals := [(0, iV 0), (1, iV 1)]) zero49 uT49 places49 rfl rfl) (RW.q (v := .agg #[iV 1, iV 0]) rfl (q_build (vals := [(0, iV 1)]) zero49 uT49 places49 rfl rfl) (RW.eff _ _ rfl (e_buildSlice (vals := [(0, .agg #[iV 0, iV 1]), (1, .agg #[iV 1, iV 0])]) (cells := [iV 0, iV 1, iV 1, iV 0]) uT42 inf49 rfl rfl rfl (by kernel_rfl) rfl) fun d4 => (RW.frzB rfl fun Φ10 hl10 hr10 => ?_)))
 have hr10 : RepSl Φ10 [((0 : Int), (1 : Int)), (1, 0)] (nR d4 2) := RowS.repE evenCmd hr10 rfl (by decide) (cmd2_wf (by unfold I64; omega) (by unfold I64; omega))
 have hoA := hoA.mono hl10
 have hoB := hoB.mono hl10
 refine RW.q (v := .agg (orC (nR d4 2) 3 0).toArray) rfl (q_build (vals := [(0, nR d4 2), (1, iV 3)]) zero45 uT45 places45 rfl rfl) (RW.q (v := .bool true) rfl (q_call (args := #[.agg (orC (.slice oB _ kB) 3 0).toArray, .agg (orC (nR d4 2) 3 0).toArray]) oK rfl rfl (fun w1 hw1 => oSame_c w1 (a := ⟨[(0, 1), (1, 0)], 3, 0⟩) (b := ⟨[(0, 1), (1, 0)], 3, 0⟩) (hoB.mono hw1.phi) (hr10.mono hw1.phi))) ?_)
 refine gR ?_
 refine RW.q (v := .bool true) rfl (q_pick (t := true) rfl (fun _ => rfl) (fun h => nomatch h)) (RW.q rfl (q_move rfl) (RW.g (b := true) rfl rfl rfl (fun _ => q_move rfl) (RW.q (v := .bool true) rfl (q_pick (t := true) rfl (fun _ => rfl) (fun h => nomatch h)) (RW.q rfl (q_move rfl) (RW.g (b := true) rfl rfl rfl (fun _ => q_move rfl) (RW.q (v := .bool true) rfl (q_pick (t := true) rfl (fun _ => rfl) (fun h => nomatch h)) (RW.q rfl (q_move rfl) (RW.g (b := true) rfl rfl rfl (fun _ => qa_fa0 rfl) (RW.g (b := true) rfl rfl rfl (fun _ => qa_ld rfl (Cell.blk 0 rfl rfl)) ?_)))))))))
 refine RW.g (b := true) (v := .bool true) rfl rfl rfl (fun _ => q_as (q_eql rfl rfl) rfl) (RW.q (v := .bool true) rfl (q_pick (t := true) rfl (fun _ => rfl) (fun h => nomatch h)) (RW.q rfl (q_move rfl) (RW.g (b := true) rfl rfl rfl (fun _ => qa_fa0 rfl) (RW.g (b := true) rfl rfl rfl (fun _ => qa_ld rfl (Cell.blk 0 rfl rfl)) (RW.g (b := true) (v := .bool true) rfl rfl rfl (fun _ => q_as (q_eql rfl rfl) rfl) (RW.q (v := .bool true) rfl (q_pick (t := true) rfl (fun _ => rfl) (fun h => nomatch h)) ?_))))))
 refine gR ?_
 exact fin_res (vs := [.bool true]) rfl rfl ⟨.tmp rfl, trivial⟩ rfl (fun w' hw => ⟨rfl, hw.below rfl⟩)
end Go.Proofs.YtnfmjfheciihjaaGreatDoor
