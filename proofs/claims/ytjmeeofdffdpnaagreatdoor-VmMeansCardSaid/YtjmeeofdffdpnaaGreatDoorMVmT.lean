/- Lemmas. Conditions: those of each theorem. -/
import Derived.Test.YtjmeeofdffdpnaaGreatDoorMVmF
import Derived.Test.YtjmeeofdffdpnaaGreatDoorMMnI
set_option maxRecDepth 8000
set_option maxHeartbeats 16000000
namespace Mn
open Bt
def light : Expr → Int → Int → Int
  | ⟨_, _, _, _, ks⟩, l, d => if l < 1 ∨ 60 < d then -1 else lightL ks (l - 1) d
where lightL : List Expr → Int → Int → Int
  | [], l, _ => l
  | k :: ks, l, d => if light k l (d + 1) < 0 then -1 else lightL ks (light k l (d + 1)) d
theorem light_eq (x : Expr) (l d : Int) : light x l d = if l < 1 ∨ 60 < d then -1 else light.lightL x.Kids (l - 1) d := by
  obtain ⟨k, n, a, b, ks⟩ := x
  rw [light]
mutual
theorem light_rng : ∀ (x : Expr) (l d : Int), -1 ≤ l → l ≤ 300 → -1 ≤ light x l d ∧ light x l d ≤ 300
  | ⟨k, n, a, b, ks⟩, l, d, h1, h2 => by
    rw [light]
    split
    · omega
    · exact lightL_rng ks (l - 1) d (by omega) (by omega)
theorem lightL_rng : ∀ (xs : List Expr) (l d : Int), -1 ≤ l → l ≤ 300 → -1 ≤ light.lightL xs l d ∧ light.lightL xs l d ≤ 300
  | [], l, d, h1, h2 => by rw [light.lightL]; omega
  | x :: xs, l, d, h1, h2 => by
    rw [light.lightL]
    split
    · omega
    · have h3 := light_rng x l (d + 1) h1 h2
      exact lightL_rng xs _ d h3.1 h3.2
end
def fewL (xs : List Expr) (l : Int) : Int := xs.foldl (fun l x => light x l 0) l
def few (r : Rule) : Bool := if 12 < r.Funcs.length ∨ 12 < r.Clauses.length then false else decide (0 ≤ fewL (r.Funcs.map (·.Body) ++ r.Clauses.flatMap fun c => [c.If, c.To]) 300)
theorem fewL_app (xs ys : List Expr) (l : Int) : fewL (xs ++ ys) l = fewL ys (fewL xs l) := by unfold fewL; rw [List.foldl_append]
theorem fewL_funs {r : Rule} {i : Nat} {l : Int} (h : i < r.Funcs.length) : fewL ((r.Funcs.drop i).map (·.Body)) l = fewL ((r.Funcs.drop (i + 1)).map (·.Body)) (light (r.Funcs.getD i default).Body l 0) := by
  rw [List.drop_eq_getElem_cons h, gDD, List.getElem?_eq_getElem h]; rfl
theorem fewL_cls {r : Rule} {i : Nat} {l : Int} (h : i < r.Clauses.length) : fewL ((r.Clauses.drop i).flatMap fun c => [c.If, c.To]) l = fewL ((r.Clauses.drop (i + 1)).flatMap fun c => [c.If, c.To]) (light (r.Clauses.getD i default).To (light (r.Clauses.getD i default).If l 0) 0) := by
  rw [List.drop_eq_getElem_cons h, gDD, List.getElem?_eq_getElem h]; rfl
end Mn
namespace Go.Proofs.YtjmeeofdffdpnaaGreatDoor
open Go Go.K Go.RowKit
open Ru (pB)
attribute [local irreducible] AW RW DW Post Qt
theorem kidQ {Φ : Hp} {xs : List Bt.Expr} {v : Value} (h : RepSl Φ xs v) {i : Nat} (hi : i < xs.length) : ∃ A c, PCells Φ (Value.at v (i * 5)) (exC (xs.getD i default) (.slice A (xs.getD i default).Kids.length c)) ∧ RepSl Φ (xs.getD i default).Kids (.slice A (xs.getD i default).Kids.length c) := by
  obtain ⟨cs, h1, h2⟩ := h.at_ i hi
  obtain ⟨kv, rfl, h3, h4⟩ := repE'.1 h1
  obtain ⟨A, c, rfl, _⟩ := h4.sl
  have he : xs[i] = xs.getD i default := by rw [gDD, List.getElem?_eq_getElem hi]; rfl
  rw [he] at h2 h4
  refine ⟨A, c, fun q u hq => ?_, h4⟩
  rw [at_add]
  exact h2 q u hq
theorem funQ {Φ : Hp} {xs : List Bt.RFunc} {v : Value} (h : RepSl Φ xs v) {i : Nat} (hi : i < xs.length) : ∃ A c, PCells Φ (Value.at v (i * 8 + 3)) (exC (xs.getD i default).Body (.slice A (xs.getD i default).Body.Kids.length c)) ∧ RepSl Φ (xs.getD i default).Body.Kids (.slice A (xs.getD i default).Body.Kids.length c) := by
  obtain ⟨cs, h1, h2⟩ := h.at_ i hi
  obtain ⟨pv, kv, rfl, _, _, _, h3, h4⟩ := h1
  obtain ⟨A, c, rfl, _⟩ := h4.sl
  have he : xs[i] = xs.getD i default := by rw [gDD, List.getElem?_eq_getElem hi]; rfl
  rw [he] at h2 h4
  refine ⟨A, c, fun q u hq => ?_, h4⟩
  rw [at_add, Nat.add_assoc]
  refine h2 (3 + q) u ?_
  rw [Nat.add_comm 3 q]
  exact hq
theorem light_c : ∀ (g : Nat) (w : World) {x : Bt.Expr} {v : Value} {l d : Int}, SizeOf.sizeOf x ≤ g → RepSl (hp w) x.Kids v → -1 ≤ l → l ≤ 300 → 0 ≤ d → d ≤ 1000 + 61 →
    Calls pg 25 #[.agg (exC x v).toArray, .int .i64 l, .int .i64 d] w fun e w' => e = .returned (.int .i64 (Mn.light x l d)) ∧ Bel w.heap.size w w'
  | 0, w, ⟨k, n, a, b, ks⟩, v, l, d, hs, hv, hl0, hl1, hd0, hd1 => by simp at hs
  | g + 1, w, x, v, l, d, hs, hv, hl0, hl1, hd0, hd1 => by
    obtain ⟨vA, vc, rfl, _⟩ := hv.sl
    have hvs := hv.sl
    have hxm := hv.max
    have hxb : x.Kids.length * 56 ≤ maxSl := hxm
    simp only [maxSl] at hxb
    refine calls_of_AW (args := [.agg (exC x (.slice vA x.Kids.length vc)).toArray, .int .i64 l, .int .i64 d]) Tryz.func25 rfl (lBT rfl) (St ⟨w, hp w, []⟩ (hp w) []) (StP.init w (hp w) (Hp.le_refl _) []) ?_
    show AW _ _ [] _ _ _ [(0, .agg (exC x (.slice vA x.Kids.length vc)).toArray), (1, .int .i64 l), (2, .int .i64 d)] _
    repeat refine gs1 ?_
    refine RW.bxA (cs := exC x (.slice vA x.Kids.length vc)) rfl rfl fun b3 => ?_
    repeat refine gs1 ?_
    refine RW.q (v := .bool (decide (l < 1) || decide (60 < d))) rfl (qpO rfl rfl rfl) ?_
    repeat refine gs1 ?_
    refine AW.cond rfl (fun h => ?_) fun h => ?_
    · have h : l < 1 ∨ 60 < d := by simpa using h
      repeat refine gs1 ?_
      exact fin_res (vs := [.int .i64 (-1)]) rfl rfl ⟨.tmp rfl, trivial⟩ rfl (fun w' hw => ⟨by rw [Mn.light_eq, if_pos h]; rfl, hw.below rfl⟩)
    have h : ¬ (l < 1 ∨ 60 < d) := by simpa using h
    repeat refine gs1 ?_
    refine AW.loop (fun s J q => ∃ (i : Nat) (l2 : Int), s = [(1, .int .i64 l2), (2, .int .i64 d), (3, pB b3), (7, .int .i64 (i : Int))] ∧ J = St ⟨w, hp w, []⟩ (hp w) [.blk b3 59 (exC x (.slice vA x.Kids.length vc))] ∧ q = x.Kids.length - i ∧ i ≤ x.Kids.length ∧ 0 ≤ l2 ∧ l2 ≤ 300 ∧ Mn.light.lightL (x.Kids.drop i) l2 d = Mn.light x l d) (s0 := [(1, .int .i64 (l - 1)), (2, .int .i64 d), (3, pB b3), (7, .int .i64 ((0 : Nat) : Int))]) (J1 := _) (m0 := _) ⟨0, l - 1, rfl, rfl, rfl, Nat.zero_le _, by omega, by omega, by rw [Mn.light_eq, if_neg h]; rfl⟩ ⟨rfl, rfl, rfl, rfl, trivial⟩ (fun _ h => h) ?_
    rintro _ _ _ _ ⟨i, l2, rfl, rfl, rfl, hi, h20, h21, hL⟩
    repeat refine gs1 ?_
    refine AW.cond rfl (fun h => ?_) fun h => ?_
    · have h : i < x.Kids.length := by have := odT h; omega
      obtain ⟨Aa, ca, hpa, hra⟩ := kidQ hv (i := i) h
      have hsz : SizeOf.sizeOf (x.Kids.getD i default) ≤ g := by
        have h1 : x.Kids.getD i default ∈ x.Kids := by rw [gDD, List.getElem?_eq_getElem h]; exact List.getElem_mem _
        have h2 := List.sizeOf_lt_of_mem h1
        have h3 : SizeOf.sizeOf x.Kids < SizeOf.sizeOf x := by obtain ⟨k, n, a, b, ks⟩ := x; simp; omega
        omega
      have hdr : x.Kids.drop i = x.Kids.getD i default :: x.Kids.drop (i + 1) := by rw [List.drop_eq_getElem_cons h, gDD, List.getElem?_eq_getElem h]; rfl
      rw [hdr, Mn.light.lightL] at hL
      have hr := Mn.light_rng (x.Kids.getD i default) l2 (d + 1) (by omega) h21
      repeat refine gs1 ?_
      refine RW.q rfl (q_call (args := #[.agg (exC (x.Kids.getD i default) (.slice Aa (x.Kids.getD i default).Kids.length ca)).toArray, .int .i64 l2, .int .i64 (d + 1)]) oK rfl rfl (fun w1 hw1 => light_c g w1 hsz (hra.mono hw1.phi) (by omega) h21 (by omega) (by omega))) ?_
      repeat refine gs1 ?_
      refine AW.cond rfl (fun hn => ?_) fun hn => ?_
      · have hn : Mn.light (x.Kids.getD i default) l2 (d + 1) < 0 := odT hn
        rw [if_pos hn] at hL
        repeat refine gs1 ?_
        exact fin_res (vs := [.int .i64 (-1)]) rfl rfl ⟨.tmp rfl, trivial⟩ rfl (fun w' hw => ⟨by rw [← hL]; rfl, hw.below rfl⟩)
      · have hn : ¬ Mn.light (x.Kids.getD i default) l2 (d + 1) < 0 := odF hn
        rw [if_neg hn] at hL
        repeat refine gs1 ?_
        exact Post.back (s' := _) (J' := _) (m' := _) (by omega) ⟨i + 1, _, rfl, rfl, rfl, by omega, by omega, hr.2, hL⟩ ⟨rfl, rfl, rfl, rfl, trivial⟩ (fun _ h => h)
    · have h : i = x.Kids.length := by have := odF h; omega
      subst h
      rw [List.drop_length, Mn.light.lightL] at hL
      repeat refine gs1 ?_
      exact fin_res (vs := [.int .i64 l2]) rfl rfl ⟨.tmp rfl, trivial⟩ rfl (fun w' hw => ⟨by rw [← hL]; rfl, hw.below rfl⟩)
theorem clP2 {Φ : Hp} {xs : List Bt.RClause} {v : Value} (h : RepSl Φ xs v) {i : Nat} (hi : i < xs.length) : ∃ A c A2 c2, PCells Φ (Value.at v (i * 11)) (exC (xs.getD i default).If (.slice A (xs.getD i default).If.Kids.length c)) ∧ PCells Φ (Value.at v (i * 11 + 6)) (exC (xs.getD i default).To (.slice A2 (xs.getD i default).To.Kids.length c2)) ∧ RepSl Φ (xs.getD i default).If.Kids (.slice A (xs.getD i default).If.Kids.length c) ∧ RepSl Φ (xs.getD i default).To.Kids (.slice A2 (xs.getD i default).To.Kids.length c2) := by
  obtain ⟨A, c, A2, c2, hpb, hki, hkt, _⟩ := clV h hi
  refine ⟨A, c, A2, c2, fun q u hq => hpb q u ((List.getElem?_append_left (List.getElem?_eq_some_iff.1 hq).1).trans hq), fun q u hq => ?_, hki, hkt⟩
  rw [at_add, Nat.add_assoc, ← at_add]
  refine hpb (6 + q) u ?_
  rw [Nat.add_comm 6 q]
  exact hq
theorem few_c (w : World) {r : Bt.Rule} {fv cv : Value} (hf : RepSl (hp w) r.Funcs fv) (hc : RepSl (hp w) r.Clauses cv) :
    Calls pg 10 #[.agg #[fv, cv]] w fun e w' => e = .returned (.bool (Mn.few r)) ∧ Bel w.heap.size w w' := by
  obtain ⟨fA, fc, rfl, _⟩ := hf.sl
  obtain ⟨cA, cc, rfl, _⟩ := hc.sl
  have hfs := hf.sl
  have hcs := hc.sl
  refine calls_of_AW (args := [.agg #[.slice fA r.Funcs.length fc, .slice cA r.Clauses.length cc]]) Tryz.func10 rfl (lBT rfl) (St ⟨w, hp w, []⟩ (hp w) []) (StP.init w (hp w) (Hp.le_refl _) []) ?_
  show AW _ _ [] _ _ _ [(0, .agg #[.slice fA r.Funcs.length fc, .slice cA r.Clauses.length cc])] _
  repeat refine gs1 ?_
  refine RW.bxA (cs := (rS2 fA fc cA cc r)) rfl rfl fun b1 => ?_
  repeat refine gs1 ?_
  refine RW.g (b := decide ((12 : Int) < (r.Funcs.length : Int))) (v := .int .i64 ((r.Clauses.length : Nat) : Int)) rfl rfl rfl (fun h => q_len_sl (gv_pos h) hcs Tryz.underlying33) ?_
  repeat refine gs1 ?_
  refine RW.q (v := .bool (decide ((12 : Int) < (r.Funcs.length : Int)) || decide ((12 : Int) < (r.Clauses.length : Int)))) rfl (qpO rfl rfl rfl) ?_
  repeat refine gs1 ?_
  refine AW.cond rfl (fun h => ?_) fun h => ?_
  · have h : 12 < r.Funcs.length ∨ 12 < r.Clauses.length := by simp only [Bool.or_eq_true, decide_eq_true_eq] at h; omega
    repeat refine gs1 ?_
    exact fin_res (vs := [.bool false]) rfl rfl ⟨.tmp rfl, trivial⟩ rfl (fun w' hw => ⟨by unfold Mn.few; rw [if_pos h]; rfl, hw.below rfl⟩)
  have h : ¬ (12 < r.Funcs.length ∨ 12 < r.Clauses.length) := by simp only [Bool.or_eq_false_iff, decide_eq_false_iff_not] at h; omega
  have hfew : Mn.few r = decide (0 ≤ Mn.fewL ((r.Clauses.drop 0).flatMap fun c => [c.If, c.To]) (Mn.fewL ((r.Funcs.drop 0).map (·.Body)) 300)) := by
    unfold Mn.few; rw [if_neg h, Mn.fewL_app]; rfl
  repeat refine gs1 ?_
  refine AW.loop (fun s J q => ∃ (i : Nat) (l : Int), s = [(1, pB b1), (3, .int .i64 l), (4, .int .i64 (i : Int))] ∧ J = St ⟨w, hp w, []⟩ (hp w) [.blk b1 35 (rS2 fA fc cA cc r)] ∧ q = r.Funcs.length - i ∧ i ≤ r.Funcs.length ∧ -1 ≤ l ∧ l ≤ 300 ∧ Mn.few r = decide (0 ≤ Mn.fewL ((r.Clauses.drop 0).flatMap fun c => [c.If, c.To]) (Mn.fewL ((r.Funcs.drop i).map (·.Body)) l))) (s0 := [(1, pB b1), (3, .int .i64 300), (4, .int .i64 ((0 : Nat) : Int))]) (J1 := _) (m0 := _) ⟨0, 300, rfl, rfl, rfl, Nat.zero_le _, by omega, by omega, hfew⟩ ⟨rfl, rfl, rfl, trivial⟩ (fun _ h => h) ?_
  rintro _ _ _ _ ⟨i, l, rfl, rfl, rfl, hi, hl0, hl1, hF⟩
  repeat refine gs1 ?_
  refine AW.cond rfl (fun h => ?_) fun h => ?_
  · have h : i < r.Funcs.length := by have := odT h; omega
    obtain ⟨Aa, ca, hpa, hra⟩ := funQ hf h
    rw [Mn.fewL_funs h] at hF
    have hr := Mn.light_rng (r.Funcs.getD i default).Body l 0 hl0 hl1
    repeat refine gs1 ?_
    refine RW.q rfl (q_call (args := #[.agg (exC (r.Funcs.getD i default).Body (.slice Aa (r.Funcs.getD i default).Body.Kids.length ca)).toArray, .int .i64 l, .int .i64 0]) oK rfl rfl (fun w1 hw1 => light_c _ w1 (Nat.le_refl _) (hra.mono hw1.phi) hl0 hl1 (by omega) (by omega))) ?_
    repeat refine gs1 ?_
    exact Post.back (s' := _) (J' := _) (m' := _) (by omega) ⟨i + 1, _, rfl, rfl, rfl, by omega, hr.1, hr.2, hF⟩ ⟨rfl, rfl, rfl, trivial⟩ (fun _ h => h)
  have h : i = r.Funcs.length := by have := odF h; omega
  subst h
  rw [List.drop_length] at hF
  repeat refine gs1 ?_
  refine AW.loop (fun s J q => ∃ (i : Nat) (l : Int), s = [(1, pB b1), (3, .int .i64 l), (5, .int .i64 (i : Int))] ∧ J = St ⟨w, hp w, []⟩ (hp w) [.blk b1 35 (rS2 fA fc cA cc r)] ∧ q = r.Clauses.length - i ∧ i ≤ r.Clauses.length ∧ -1 ≤ l ∧ l ≤ 300 ∧ Mn.few r = decide (0 ≤ Mn.fewL ((r.Clauses.drop i).flatMap fun c => [c.If, c.To]) l)) (s0 := [(1, pB b1), (3, .int .i64 l), (5, .int .i64 ((0 : Nat) : Int))]) (J1 := _) (m0 := _) ⟨0, l, rfl, rfl, rfl, Nat.zero_le _, hl0, hl1, hF⟩ ⟨rfl, rfl, rfl, trivial⟩ (fun _ h => h) ?_
  rintro _ _ _ _ ⟨i, l, rfl, rfl, rfl, hi, hl0, hl1, hF⟩
  repeat refine gs1 ?_
  refine AW.cond rfl (fun h => ?_) fun h => ?_
  · have h : i < r.Clauses.length := by have := odT h; omega
    obtain ⟨Aa, ca, Ab, cb, hpi, hpt, hki, hkt⟩ := clP2 hc h
    rw [Mn.fewL_cls h] at hF
    have hr := Mn.light_rng (r.Clauses.getD i default).If l 0 hl0 hl1
    have hr2 := Mn.light_rng (r.Clauses.getD i default).To _ 0 hr.1 hr.2
    repeat refine gs1 ?_
    refine RW.q rfl (q_call (args := #[.agg (exC (r.Clauses.getD i default).If (.slice Aa (r.Clauses.getD i default).If.Kids.length ca)).toArray, .int .i64 l, .int .i64 0]) oK rfl rfl (fun w1 hw1 => light_c _ w1 (Nat.le_refl _) (hki.mono hw1.phi) hl0 hl1 (by omega) (by omega))) ?_
    repeat refine gs1 ?_
    refine RW.q rfl (q_call (args := #[.agg (exC (r.Clauses.getD i default).To (.slice Ab (r.Clauses.getD i default).To.Kids.length cb)).toArray, .int .i64 (Mn.light (r.Clauses.getD i default).If l 0), .int .i64 0]) oK rfl rfl (fun w1 hw1 => light_c _ w1 (Nat.le_refl _) (hkt.mono hw1.phi) hr.1 hr.2 (by omega) (by omega))) ?_
    repeat refine gs1 ?_
    exact Post.back (s' := _) (J' := _) (m' := _) (by omega) ⟨i + 1, _, rfl, rfl, rfl, by omega, hr2.1, hr2.2, hF⟩ ⟨rfl, rfl, rfl, trivial⟩ (fun _ h => h)
  have h : i = r.Clauses.length := by have := odF h; omega
  subst h
  rw [List.drop_length] at hF
  repeat refine gs1 ?_
  exact fin_res (vs := [.bool (decide (0 ≤ l))]) rfl rfl ⟨.tmp rfl, trivial⟩ rfl (fun w' hw => ⟨by rw [hF]; rfl, hw.below rfl⟩)
end Go.Proofs.YtjmeeofdffdpnaaGreatDoor
namespace Vm
open Bt
mutual
def nd : Expr → Nat
  | ⟨_, _, _, _, ks⟩ => ndL ks + 1
def ndL : List Expr → Nat
  | [] => 0
  | x :: xs => nd x + ndL xs
end
theorem nd_eq (x : Expr) : nd x = ndL x.Kids + 1 := by
  obtain ⟨k, n, a, b, ks⟩ := x
  rw [nd]
theorem nd_pos (x : Expr) : 1 ≤ nd x := by rw [nd_eq]; omega
mutual
theorem nd_light : ∀ (x : Expr) (l d : Int), 0 ≤ Mn.light x l d → (nd x : Int) + Mn.light x l d ≤ l
  | ⟨k, n, a, b, ks⟩, l, d, h => by
    rw [Mn.light] at h ⊢
    split at h
    · omega
    · rename_i hc
      rw [if_neg hc]
      have := ndL_light ks (l - 1) d h
      rw [nd]
      omega
theorem ndL_light : ∀ (xs : List Expr) (l d : Int), 0 ≤ Mn.light.lightL xs l d → (ndL xs : Int) + Mn.light.lightL xs l d ≤ l
  | [], l, d, h => by rw [Mn.light.lightL, ndL]; omega
  | x :: xs, l, d, h => by
    rw [Mn.light.lightL] at h ⊢
    split at h
    · omega
    · rename_i hc
      rw [if_neg hc, ndL]
      have h1 := nd_light x l (d + 1) (by omega)
      have h2 := ndL_light xs _ d h
      omega
end
theorem fewL_nd : ∀ (xs : List Expr) (l : Int), 0 ≤ Mn.fewL xs l → (ndL xs : Int) ≤ l
  | [], l, h => by rw [ndL]; exact h
  | x :: xs, l, h => by
    have h1 : 0 ≤ Mn.fewL xs (Mn.light x l 0) := h
    have h2 := fewL_nd xs _ h1
    have h3 := nd_light x l 0 (by omega)
    rw [ndL]
    omega
def ndR (r : Rule) : Nat := ndL (r.Funcs.map (·.Body) ++ r.Clauses.flatMap fun c => [c.If, c.To])
theorem few_nd {r : Rule} (h : Mn.few r = true) : ndR r ≤ 300 := by
  unfold Mn.few at h
  split at h
  · cases h
  · have := fewL_nd _ _ (odT h)
    unfold ndR
    omega
mutual
theorem cE_len : ∀ (e : Expr) (p : Nat), (cE p e).length + 2 ≤ 5 * nd e
  | ⟨k, n, o, q, ks⟩, p => by
    unfold cE
    rw [nd]
    have hp := nd_pos
    by_cases k0 : k = 0
    · rw [if_pos k0]; simp; omega
    rw [if_neg k0]
    by_cases k15 : k = 15
    · rw [if_pos k15]; simp; omega
    rw [if_neg k15]
    by_cases k1 : k = 1
    · rw [if_pos k1]; simp; omega
    rw [if_neg k1]
    have h3 : ∀ g, ((cG g p ks).getD 0 []).length + ((cG g p ks).getD 1 []).length + ((cG g p ks).getD 2 []).length ≤ 5 * ndL ks := fun g => cG_three ks g p
    have hf := cG_flen ks p
    have hc : ∀ kind A B O, (chC kind p A B O).length = A.length + B.length + O.length + 2 := fun kind A B O => by simp [chC]; omega
    by_cases k11 : k = 11
    · rw [if_pos k11, hc]; have := h3 1; simp only [List.length_singleton]; omega
    rw [if_neg k11]
    by_cases k12 : k = 12
    · rw [if_pos k12, hc]; have := h3 1; simp only [List.length_singleton]; omega
    rw [if_neg k12]
    by_cases k13 : k = 13
    · rw [if_pos k13, hc]; have := h3 1; omega
    rw [if_neg k13, List.length_append, List.length_singleton]
    omega
theorem cG_flen : ∀ (xs : List Expr) (p : Nat), (cG 0 p xs).flatten.length ≤ 5 * ndL xs
  | [], p => by unfold cG; simp
  | x :: xs, p => by
    unfold cG
    rw [List.flatten_cons, List.length_append, ndL]
    have h1 := cE_len x p
    have h2 := cG_flen xs (p + (cE p x).length + 0)
    omega
theorem cG_three : ∀ (xs : List Expr) (g p : Nat), ((cG g p xs).getD 0 []).length + ((cG g p xs).getD 1 []).length + ((cG g p xs).getD 2 []).length ≤ 5 * ndL xs
  | [], g, p => by unfold cG; simp
  | [a], g, p => by
    have h1 := cE_len a p
    simp only [cG, ndL, List.getD_cons_zero, List.getD_cons_succ, List.getD_nil, List.length_nil]
    omega
  | [a, b], g, p => by
    have h1 := cE_len a p
    have h2 := cE_len b (p + (cE p a).length + g)
    simp only [cG, ndL, List.getD_cons_zero, List.getD_cons_succ, List.getD_nil, List.length_nil]
    omega
  | a :: b :: c :: l, g, p => by
    have h1 := cE_len a p
    have h2 := cE_len b (p + (cE p a).length + g)
    have h3 := cE_len c (p + (cE p a).length + g + (cE (p + (cE p a).length + g) b).length + g)
    simp only [cG, ndL, List.getD_cons_zero, List.getD_cons_succ]
    omega
end
theorem ndL_app : ∀ (a b : List Expr), ndL (a ++ b) = ndL a + ndL b
  | [], b => by simp [ndL]
  | x :: a, b => by rw [List.cons_append, ndL, ndL, ndL_app a b]; omega
theorem seqC_len {α : Type} {f : Nat → α → List Op} {g : α → Nat} (h : ∀ p x, (f p x).length ≤ g x) : ∀ (xs : List α) (p : Nat), (seqC f p xs).2.length ≤ (xs.map g).sum
  | [], _ => by simp [seqC]
  | x :: xs, p => by
    have h1 := h p x
    have h2 := seqC_len h xs (p + (f p x).length)
    simp only [seqC, List.length_append, List.map_cons, List.sum_cons]
    omega
theorem cC_len (p : Nat) (c : RClause) : (cC p c).length ≤ 5 * (nd c.If + nd c.To) := by
  have h1 := cE_len c.If (p + 1)
  have h2 := cE_len c.To (p + 1 + (cE (p + 1) c.If).length + 1)
  simp only [cC, List.length_cons, List.length_append, List.length_nil]
  omega
theorem cF_len (p : Nat) (f : RFunc) : (cF p f).length ≤ 5 * nd f.Body := by
  have h1 := cE_len f.Body p
  simp only [cF, List.length_append, List.length_singleton]
  omega
theorem sumC : ∀ (cs : List RClause), (cs.map fun c => 5 * (nd c.If + nd c.To)).sum = 5 * ndL (cs.flatMap fun c => [c.If, c.To])
  | [] => by simp [ndL]
  | c :: cs => by
    rw [List.map_cons, List.sum_cons, List.flatMap_cons, ndL_app, sumC cs]
    simp only [ndL]
    omega
theorem sumF : ∀ (fs : List RFunc), (fs.map fun f => 5 * nd f.Body).sum = 5 * ndL (fs.map (·.Body))
  | [] => by simp [ndL]
  | f :: fs => by
    rw [List.map_cons, List.sum_cons, List.map_cons, ndL, sumF fs]
    omega
theorem cops_len (r : Rule) : (cops r).length ≤ 5 * ndR r + 1 := by
  have h1 := seqC_len (f := cC) cC_len r.Clauses 0
  have h2 := seqC_len (f := cF) cF_len r.Funcs ((seqC cC 0 r.Clauses).2.length + 1)
  rw [sumC] at h1
  rw [sumF] at h2
  unfold cops ndR
  rw [List.length_append, List.length_cons, ndL_app]
  omega
end Vm
namespace Go.Proofs.YtjmeeofdffdpnaaGreatDoor
open Go Go.K Go.RowKit
attribute [local irreducible] AW RW DW Post Qt

end Go.Proofs.YtjmeeofdffdpnaaGreatDoor
namespace Lx
def quo (l : List UInt8) : Nat := if run inS (l.drop 1) + 1 < l.length ∧ (l.getD (run inS (l.drop 1) + 1) 0).toNat = 34 ∧ run inS (l.drop 1) ≤ 500 then run inS (l.drop 1) + 2 else 0
end Lx
namespace Go.Proofs.YtjmeeofdffdpnaaGreatDoor
open Go Go.K Go.RowKit
attribute [local irreducible] AW RW DW Post Qt

end Go.Proofs.YtjmeeofdffdpnaaGreatDoor
namespace Lx
end Lx
namespace Go.Proofs.YtjmeeofdffdpnaaGreatDoor
open Go Go.K Go.RowKit
attribute [local irreducible] AW RW DW Post Qt
end Go.Proofs.YtjmeeofdffdpnaaGreatDoor
namespace Lx
end Lx
namespace Go.Proofs.YtjmeeofdffdpnaaGreatDoor
open Go Go.K Go.RowKit
attribute [local irreducible] AW RW DW Post Qt
open Ru (pB NmS BasV)
theorem take_snoc {α : Type} {l : List α} {i : Nat} (h : i < l.length) : l.take (i + 1) = l.take i ++ [l[i]] := by
  rw [List.take_add_one, List.getElem?_eq_getElem h]; rfl
end Go.Proofs.YtjmeeofdffdpnaaGreatDoor
namespace Ru
open Bt
structure BigE (e : Env) : Prop where
  p : e.places.length * 16 ≤ Go.K.maxSl
  l : e.links.length * 16 ≤ Go.K.maxSl
  t : e.towns.length * 16 ≤ Go.K.maxSl
def kidsN (e : Env) (fs : List RFunc) (np : Int) (x : Expr) : Int :=
  if x.Kind ≠ 1 ∧ (x.Of ≠ 0 ∨ x.Of2 ≠ 0) then -1
  else if x.Kind = 0 then (if 0 ≤ x.N ∧ x.N ≤ 1125899906842624 then 0 else -1)
  else if x.Kind = 1 then (if jfact e x then 0 else -1)
  else if x.Kind = 15 then (if 0 ≤ x.N ∧ x.N < np then 0 else -1)
  else if x.Kind = 14 then (if 0 ≤ x.N ∧ x.N < fs.length then ((fs.getD x.N.toNat default).Params.length : Nat) else -1)
  else if x.N ≠ 0 then -1
  else if x.Kind = 2 ∨ x.Kind = 3 then 1
  else if x.Kind = 13 then 3
  else if x.Kind = 4 ∨ x.Kind = 5 ∨ x.Kind = 6 ∨ x.Kind = 7 ∨ x.Kind = 8 ∨ x.Kind = 9 ∨ x.Kind = 10 ∨ x.Kind = 11 ∨ x.Kind = 12 then 2
  else -1
end Ru
namespace Go.Proofs.YtjmeeofdffdpnaaGreatDoor
open Go Go.K Go.RowKit
open Ru (pB NmS BasV BigE)
attribute [local irreducible] AW RW DW Post Qt
end Go.Proofs.YtjmeeofdffdpnaaGreatDoor
namespace Ru
open Bt
def kindV (fs : List RFunc) (ts : List Int) (x : Expr) (ks : List Int) : Int :=
  if x.Kind = 15 then ts.getD x.N.toNat 0
  else if x.Kind = 14 then (fs.getD x.N.toNat default).Result
  else if x.Kind = 13 then ks.getD 1 0
  else if x.Kind = 3 ∨ x.Kind = 8 ∨ x.Kind = 9 ∨ x.Kind = 10 ∨ x.Kind = 11 ∨ x.Kind = 12 then 1
  else 0
def wantV (fs : List RFunc) (x : Expr) (ks : List Int) (i : Nat) : Int :=
  if x.Kind = 3 ∨ x.Kind = 11 ∨ x.Kind = 12 then 1
  else if x.Kind = 14 then (fs.getD x.N.toNat default).Params.getD i 0
  else if x.Kind = 10 then ks.getD 0 0
  else if x.Kind = 13 then (if i = 0 then 1 else ks.getD 1 0)
  else 0
variable {e : Env} {fs : List RFunc} {ts ks : List Int} {j : Nat} {x : Expr}
theorem len3L {l : List Int} (h : l.length = 3) : ∃ a b d, l = [a, b, d] := match l, h with
  | [a, b, d], _ => ⟨a, b, d, rfl⟩
theorem len2L {l : List Int} (h : l.length = 2) : ∃ a b, l = [a, b] := match l, h with
  | [a, b], _ => ⟨a, b, rfl⟩
theorem jop_v {k : Int} {l : List Int} (h : (jop k l).2 = true) : (jop k l).1 = if k = 13 then l.getD 1 0 else if k = 3 ∨ k = 8 ∨ k = 9 ∨ k = 10 ∨ k = 11 ∨ k = 12 then 1 else 0 := by
  unfold jop at h ⊢
  by_cases k2 : k = 2
  · subst k2; simp
  by_cases k3 : k = 3
  · subst k3; simp
  simp only [if_neg k2, if_neg k3] at h ⊢
  by_cases k4 : k = 4 ∨ k = 5 ∨ k = 6 ∨ k = 7
  · rw [if_pos k4, if_neg (by omega), if_neg (by omega)]
  simp only [if_neg k4] at h ⊢
  by_cases k8 : k = 8 ∨ k = 9
  · rw [if_pos k8, if_neg (by omega), if_pos (by omega)]
  simp only [if_neg k8] at h ⊢
  by_cases k10 : k = 10
  · subst k10; simp
  simp only [if_neg k10] at h ⊢
  by_cases k11 : k = 11 ∨ k = 12
  · rw [if_pos k11, if_neg (by omega), if_pos (by omega)]
  simp only [if_neg k11] at h ⊢
  by_cases k13 : k = 13
  · simp only [if_pos k13] at h ⊢
    split at h
    · cases h
    · rename_i hh; rw [if_neg hh]
  · simp only [if_neg k13] at h
    cases h
theorem jnd_v (h : (jnd e fs ts x ks).2 = true) : (jnd e fs ts x ks).1 = kindV fs ts x ks := by
  unfold jnd at h ⊢
  unfold kindV
  by_cases k0 : x.Kind = 0
  · simp [k0]
  by_cases k1 : x.Kind = 1
  · simp [k1]
  simp only [if_neg k0, if_neg k1] at h ⊢
  by_cases k15 : x.Kind = 15
  · simp only [if_pos k15] at h ⊢
    split at h
    · cases h
    · rename_i hh; rw [if_neg hh]
  simp only [if_neg k15] at h ⊢
  by_cases k14 : x.Kind = 14
  · simp only [if_pos k14] at h ⊢
    split at h
    · cases h
    · rename_i hh; rw [if_neg hh]
  simp only [if_neg k14] at h ⊢
  split at h
  · cases h
  · rename_i hh
    rw [if_neg hh]
    exact jop_v h
theorem jnd_len (c : ¬ (x.Kind ≠ 1 ∧ (x.Of ≠ 0 ∨ x.Of2 ≠ 0))) (h : (jnd e fs ts x ks).2 = true) : kidsN e fs ts.length x = (ks.length : Int) := by
  unfold kidsN
  rw [if_neg c]
  unfold jnd at h
  by_cases k0 : x.Kind = 0
  · simp only [if_pos k0, Bool.and_eq_true, decide_eq_true_eq] at h ⊢
    rw [if_pos ⟨h.1.2, h.2⟩, h.1.1]; rfl
  simp only [if_neg k0] at h ⊢
  by_cases k1 : x.Kind = 1
  · simp only [if_pos k1, Bool.and_eq_true, decide_eq_true_eq] at h ⊢
    rw [if_pos h.2, h.1]; rfl
  simp only [if_neg k1] at h ⊢
  by_cases k15 : x.Kind = 15
  · simp only [if_pos k15] at h ⊢
    split at h
    · cases h
    · rename_i hh
      rw [if_pos (by omega)]
      have : ks = [] := Classical.byContradiction fun hc => hh (.inl hc)
      rw [this]; rfl
  simp only [if_neg k15] at h ⊢
  by_cases k14 : x.Kind = 14
  · simp only [if_pos k14] at h ⊢
    split at h
    · cases h
    · rw [if_pos (by omega), odT h]
  simp only [if_neg k14] at h ⊢
  split at h
  · cases h
  · rename_i hh
    rw [if_neg hh]
    have := jop_len h
    by_cases k23 : x.Kind = 2 ∨ x.Kind = 3
    · rw [if_pos k23, this.1 k23]; rfl
    rw [if_neg k23]
    by_cases k13 : x.Kind = 13
    · rw [if_pos k13, this.2.1 k13]; rfl
    rw [if_neg k13]
    have h2 := this.2.2 (by omega) (by omega) k13
    rw [if_pos (by omega), h2.1]; rfl
theorem jnd_ref (c : ¬ (x.Kind ≠ 1 ∧ (x.Of ≠ 0 ∨ x.Of2 ≠ 0))) (h : kidsN e fs ts.length x = (ks.length : Int)) : (jnd e fs ts x ks).2 = true ↔ ∀ i, i < ks.length → ks.getD i 0 = wantV fs x ks i := by
  unfold kidsN at h
  rw [if_neg c] at h
  unfold jnd wantV
  by_cases k0 : x.Kind = 0
  · simp only [if_pos k0] at h ⊢
    split at h
    · obtain rfl : ks = [] := List.length_eq_zero_iff.1 (by omega)
      rename_i hh; simp [hh.1, hh.2]
    · omega
  simp only [if_neg k0] at h ⊢
  by_cases k1 : x.Kind = 1
  · simp only [if_pos k1] at h ⊢
    split at h
    · obtain rfl : ks = [] := List.length_eq_zero_iff.1 (by omega)
      rename_i hh; simp [hh]
    · omega
  simp only [if_neg k1] at h ⊢
  by_cases k15 : x.Kind = 15
  · simp only [if_pos k15] at h ⊢
    split at h
    · obtain rfl : ks = [] := List.length_eq_zero_iff.1 (by omega)
      rename_i hh
      rw [if_neg (by intro h9; rcases h9 with h9 | h9; exact h9 rfl; omega)]
      simp
    · omega
  simp only [if_neg k15] at h ⊢
  by_cases k14 : x.Kind = 14
  · have k3 : ¬ (x.Kind = 3 ∨ x.Kind = 11 ∨ x.Kind = 12) := by omega
    simp only [if_pos k14, if_neg k3] at h ⊢
    split at h
    · rename_i hh
      rw [if_neg (by omega)]
      simp only [decide_eq_true_eq]
      constructor
      · rintro rfl i _; rfl
      · intro h2; exact eqI_of (by omega) h2
    · omega
  simp only [if_neg k14] at h ⊢
  split at h
  · omega
  rename_i hN
  rw [if_neg hN]
  split at h
  · rename_i k23
    obtain ⟨a, rfl⟩ : ∃ a, ks = [a] := List.length_eq_one_iff.1 (by omega)
    unfold jop
    rcases k23 with k2 | k3
    · simp [k2]
    · simp [k3]
  split at h
  · rename_i _ k13
    obtain ⟨a, b, d, rfl⟩ : ∃ a b d, ks = [a, b, d] := len3L (by omega)
    unfold jop
    simp only [k13]
    constructor
    · intro h2 i hi
      simp at h2
      split at h2
      · cases h2
      rename_i hh
      have : i = 0 ∨ i = 1 ∨ i = 2 := by simp at hi; omega
      rcases this with rfl | rfl | rfl <;> simp <;> omega
    · intro h2
      have h3 := h2 0 (by simp)
      have h4 := h2 2 (by simp)
      simp at h3 h4
      simp [h3, h4]
  split at h
  · rename_i k2_12
    obtain ⟨a, b, rfl⟩ : ∃ a b, ks = [a, b] := len2L (by omega)
    unfold jop
    have h2 : ∀ P : Nat → Prop, (∀ i, i < [a, b].length → P i) ↔ P 0 ∧ P 1 := fun P => ⟨fun h => ⟨h 0 (by simp), h 1 (by simp)⟩, fun h i hi => by
      have : i = 0 ∨ i = 1 := by simp at hi; omega
      rcases this with rfl | rfl
      · exact h.1
      · exact h.2⟩
    rw [h2]
    rcases k2_12 with k | k | k | k | k | k | k | k | k <;> simp [k] <;> omega
  · omega
theorem jxs_all {f : Expr → Int × Bool} : ∀ {xs : List Expr}, (∀ y ∈ xs, (f y).2 = true) → jxs f xs = some (xs.map fun y => (f y).1)
  | [], _ => rfl
  | y :: ys, h => by
    unfold jxs
    rw [if_pos (h y (List.mem_cons_self ..)), jxs_all fun z hz => h z (List.mem_cons_of_mem _ hz)]; rfl
theorem jx_iff (h : kidsN e fs ts.length x = (x.Kids.length : Int)) (hk : ∀ y ∈ x.Kids, (jx e fs ts j y).2 = true) : (jx e fs ts (j + 1) x).2 = true ↔ ∀ i, i < x.Kids.length → (x.Kids.map fun y => (jx e fs ts j y).1).getD i 0 = wantV fs x (x.Kids.map fun y => (jx e fs ts j y).1) i := by
  have c : ¬ (x.Kind ≠ 1 ∧ (x.Of ≠ 0 ∨ x.Of2 ≠ 0)) := fun hc => by
    unfold kidsN at h; rw [if_pos hc] at h; omega
  rw [jx, if_neg c, jxs_all hk]
  have := jnd_ref (e := e) (fs := fs) (ts := ts) (ks := x.Kids.map fun y => (jx e fs ts j y).1) c (by rw [List.length_map]; exact h)
  rw [List.length_map] at this
  exact this
theorem jx_v (h : (jx e fs ts (j + 1) x).2 = true) : (jx e fs ts (j + 1) x).1 = kindV fs ts x (x.Kids.map fun y => (jx e fs ts j y).1) := by
  obtain ⟨ks, h1, h2, h3⟩ := jx_ok h
  obtain ⟨h4, _⟩ := jxs_mem h1
  rw [h2, jnd_v h3, h4]
end Ru
namespace Mn
open Bt Ru
theorem evs_typ {f : Expr → Int → R Int} {P : Expr → Int → Prop} : ∀ {xs : List Expr} {u : Int} {l : List Int} {u' : Int}, (∀ x ∈ xs, ∀ u v u', f x u = .ok (v, u') → P x v) → evs f xs u = .ok (l, u') → l.length = xs.length ∧ ∀ i, i < xs.length → P (xs.getD i default) (l.getD i 0)
  | [], u, l, u', _, h => by cases h; exact ⟨rfl, fun i hi => absurd hi (by simp)⟩
  | x :: xs, u, l, u', hf, h => by
    unfold evs at h
    obtain ⟨v, u1, h1, h⟩ := bnd_okE h
    obtain ⟨vs, u2, h2, h⟩ := bnd_okE h
    cases h
    obtain ⟨j1, j2⟩ := evs_typ (fun y hy => hf y (List.mem_cons_of_mem _ hy)) h2
    refine ⟨by simp [j1], fun i hi => ?_⟩
    cases i with
    | zero => exact hf x (List.mem_cons_self ..) _ _ _ h1
    | succ i =>
      rw [List.getD_cons_succ, List.getD_cons_succ]
      exact j2 i (by simpa using hi)
variable {e : Env} {fs : List RFunc} {f : Facts} {d : Dt}
abbrev B01 (v : Int) : Prop := v = 0 ∨ v = 1
theorem getD_gd {xs : List Expr} {i : Nat} (h : i < xs.length) {g : Expr → Int} : (xs.map g).getD i 0 = g (xs.getD i default) := by
  rw [gDD, List.getElem?_map, List.getElem?_eq_getElem h, gDD, List.getElem?_eq_getElem h]; rfl
theorem ev_typ (hJ : ∀ q ∈ fs, (jx e fs q.Params 40 q.Body).2 = true ∧ (jx e fs q.Params 40 q.Body).1 = q.Result) : ∀ (g : Nat) (c : Int) (x : Expr) (ts ps : List Int) (j : Nat) (u v u' : Int), (jx e fs ts j x).2 = true → (∀ i, i < ts.length → ts.getD i 0 = 1 → B01 (ps.getD i 0)) → (jx e fs ts j x).1 = 1 → ev fs f d g c x ps u = .ok (v, u') → B01 v := by
  intro g
  induction g with
  | zero => intro c x ts ps j u v u' _ _ _ h; rw [ev] at h; cases h
  | succ g ih =>
    intro c x ts ps j u v u' hj hp ht h
    cases j with
    | zero => exact absurd hj (by rw [jx_zero]; simp)
    | succ j =>
    have hn := jx_node hj
    have hk := jx_kid hj
    have hV := jx_v hj
    rw [ht] at hV
    have hIF : ∀ i, i < x.Kids.length → (x.Kids.map fun y => (jx e fs ts j y).1).getD i 0 = wantV fs x (x.Kids.map fun y => (jx e fs ts j y).1) i := by
      obtain ⟨ks, h1, h2, h3⟩ := jx_ok hj
      obtain ⟨h4, _⟩ := jxs_mem h1
      have hc : ¬ (x.Kind ≠ 1 ∧ (x.Of ≠ 0 ∨ x.Of2 ≠ 0)) := fun hc => by rw [jx, if_pos hc] at hj; cases hj
      have hN := (jnd_len hc h3).trans (by rw [h4, List.length_map] : (ks.length : Int) = (x.Kids.length : Int))
      exact (jx_iff hN hk).1 hj
    have hT : ∀ i, i < x.Kids.length → (x.Kids.map fun y => (jx e fs ts j y).1).getD i 0 = (jx e fs ts j (kid x i)).1 := fun i hi => getD_gd hi
    have hI : ∀ {i : Nat} {u v u' : Int}, i < x.Kids.length → (jx e fs ts j (kid x i)).1 = 1 → ev fs f d g c (kid x i) ps u = .ok (v, u') → B01 v := fun hi h1 h => ih _ _ _ _ _ _ _ _ (hk _ (kid_mem hi)) hp h1 h
    unfold kindV at hV
    rw [ev] at h
    by_cases k0 : x.Kind = 0
    · simp [k0] at hV
    rw [if_neg k0] at h
    by_cases k15 : x.Kind = 15
    · rw [if_pos k15] at h
      cases h
      rw [if_pos k15] at hV
      have := hn.k15 k15
      exact hp _ (by omega) hV.symm
    rw [if_neg k15] at h hV
    by_cases k1 : x.Kind = 1
    · simp [k1] at hV
    rw [if_neg k1] at h
    by_cases k2 : x.Kind = 2
    · simp [k2] at hV
    rw [if_neg k2] at h
    by_cases k3 : x.Kind = 3
    · rw [if_pos k3] at h
      obtain ⟨a, u1, h1, h⟩ := bnd_okE h
      have hl : 0 < x.Kids.length := by have := hn.a1 (.inr k3); omega
      have hw := hIF 0 hl
      rw [hT 0 hl, wantV, if_pos (.inl k3)] at hw
      cases h
      rcases hI hl hw h1 with rfl | rfl
      · right; decide
      · left; decide
    rw [if_neg k3] at h
    by_cases k11 : x.Kind = 11
    · rw [if_pos k11] at h
      have hl2 := hn.a2 (by omega) (by omega) (by omega) (by omega) (by omega) (by omega) (by omega)
      obtain ⟨a, u1, h1, h⟩ := bnd_okE h
      split at h
      · cases h; exact .inl rfl
      · have hw := hIF 1 (by omega)
        rw [hT 1 (by omega), wantV, if_pos (.inr (.inl k11))] at hw
        exact hI (by omega) hw h
    rw [if_neg k11] at h
    by_cases k12 : x.Kind = 12
    · rw [if_pos k12] at h
      have hl2 := hn.a2 (by omega) (by omega) (by omega) (by omega) (by omega) (by omega) (by omega)
      obtain ⟨a, u1, h1, h⟩ := bnd_okE h
      split at h
      · cases h; exact .inr rfl
      · have hw := hIF 1 (by omega)
        rw [hT 1 (by omega), wantV, if_pos (.inr (.inr k12))] at hw
        exact hI (by omega) hw h
    rw [if_neg k12] at h
    by_cases k13 : x.Kind = 13
    · rw [if_pos k13] at h
      have hl3 := hn.a3 k13
      rw [if_neg (by omega), if_pos k13, hT 1 (by omega)] at hV
      have hw := hIF 2 (by omega)
      rw [hT 2 (by omega), wantV, if_neg (by omega), if_neg (by omega), if_neg (by omega), if_pos k13, if_neg (by omega), hT 1 (by omega), ← hV] at hw
      obtain ⟨a, u1, h1, h⟩ := bnd_okE h
      split at h
      · exact hI (by omega) hV.symm h
      · exact hI (by omega) hw h
    rw [if_neg k13] at h
    by_cases k14 : x.Kind = 14
    · rw [if_pos k14] at h hV
      obtain ⟨h14a, h14b, h14c⟩ := hn.k14 k14
      obtain ⟨vs, u1, h1, h⟩ := bnd_okE h
      split at h
      · cases h
      split at h
      · cases h
      have hm : fs.getD x.N.toNat default ∈ fs := by
        rw [gDD, List.getElem?_eq_getElem (by omega)]
        exact List.getElem_mem _
      obtain ⟨q1, q2⟩ := hJ _ hm
      obtain ⟨r1, r2⟩ := evs_typ (P := fun y v => (jx e fs ts j y).1 = 1 → B01 v) (fun y hy u v u' h2 h3 => ih _ _ _ _ _ _ _ _ (hk _ hy) hp h3 h2) h1
      refine ih _ _ _ _ _ _ _ _ q1 (fun i hi h2 => r2 i (by omega) ?_) (q2.trans hV.symm) h
      have hw := hIF i (by omega)
      rw [wantV, if_neg (by omega), if_pos k14, h2] at hw
      exact (hT i (by omega)).symm.trans hw
    rw [if_neg k14] at h hV
    rw [if_neg k13] at hV
    obtain ⟨a, u1, h1, h⟩ := bnd_okE h
    obtain ⟨b, u2, h2, h⟩ := bnd_okE h
    split at hV
    · rename_i hk8
      split at h
      · cases h
      · rename_i w hw
        cases h
        unfold op2 at hw
        rw [if_neg (by omega), if_neg (by omega), if_neg (by omega), if_neg (by omega)] at hw
        repeat' split at hw
        all_goals (cases hw; first | exact .inl rfl | exact .inr rfl | (split <;> first | exact .inl rfl | exact .inr rfl))
    · cases hV
end Mn
namespace Vm
open Bt Mn Ru
structure Cx where
  c : Code
  f : Facts
  d : Dt
  ps : List Int
structure M where
  pc : Nat
  st : List Int
  cl : List (Nat × List Int)
  u : Int
  tg : List Int
  se : List Bool
  fa : Int
  en : Bool
abbrev V (pc : Nat) (st : List Int) (cl : List (Nat × List Int)) (u : Int) (tg : List Int) (se : List Bool) : M := ⟨pc, st, cl, u, tg, se, 0, false⟩
def M.push (m : M) (v : Int) : M := { m with st := m.st ++ [v] }
def M.stop (m : M) (k : Int) : M := { m with fa := k, en := true }
def M.jmp (m : M) (a : Int) : Option M := if 0 ≤ a then some { m with pc := a.toNat } else none
def M.pop (m : M) : Option (Int × M) := m.st.getLast?.map fun v => (v, { m with st := m.st.dropLast })
def stepO (X : Cx) (o : Op) (m : M) : Option M :=
  if o.Kind = 0 then some (m.push o.A)
  else if o.Kind = 1 then m.cl.getLast?.bind fun q => if 0 ≤ o.A ∧ o.A < q.2.length then some (m.push (q.2.getD o.A.toNat 0)) else none
  else if o.Kind = 2 then (if 0 ≤ o.A ∧ o.A < 8 ∧ 0 ≤ o.B then some (m.push (factV X.f X.d o.A (o.B / 1024) (o.B % 1024))) else none)
  else if o.Kind = 3 then m.pop.bind fun q => some (q.2.push (lim (0 - q.1)))
  else if o.Kind = 4 then m.pop.bind fun q => some (q.2.push (wr (1 - q.1)))
  else if 5 ≤ o.Kind ∧ o.Kind ≤ 11 then m.pop.bind fun y => y.2.pop.bind fun x => match op2 (o.Kind - 1) x.1 y.1 with
    | .ok v => some (x.2.push v)
    | .error k => some (x.2.stop k)
  else if o.Kind = 12 then m.jmp o.A
  else if o.Kind = 13 then m.pop.bind fun q => if q.1 = 0 then q.2.jmp o.A else some q.2
  else if o.Kind = 14 then m.pop.bind fun q => if q.1 = 1 then q.2.jmp o.A else some q.2
  else if o.Kind = 15 then
    if 10000 ≤ m.u then some (m.stop 14)
    else if 100 ≤ m.cl.length then some ({ m with u := m.u + 1 }.stop 8)
    else if 0 ≤ o.B ∧ o.B ≤ m.st.length ∧ 0 ≤ o.A then X.c.Funcs[o.A.toNat]?.bind fun q => M.jmp { m with u := m.u + 1, st := m.st.take (m.st.length - o.B.toNat), cl := m.cl ++ [(m.pc, m.st.drop (m.st.length - o.B.toNat))] } q
    else none
  else if o.Kind = 16 then m.cl.getLast?.bind fun q => some { m with pc := q.1, cl := m.cl.dropLast }
  else if o.Kind = 17 then
    if 10000 ≤ m.u then some (m.stop 14)
    else if 0 ≤ o.A ∧ o.A < m.se.length then (if m.se.getD o.A.toNat false = true then M.jmp { m with u := m.u + 1 } o.B else some { m with u := m.u + 1 }) else none
  else if o.Kind = 18 then (if 0 ≤ o.A ∧ o.A < m.se.length then m.pop.bind fun q => some { q.2 with tg := q.2.tg.set o.A.toNat (clampI q.1 0 (X.ps.getD o.A.toNat 0)), se := q.2.se.set o.A.toNat true } else none)
  else if o.Kind = 19 then some { m with en := true }
  else none
def stepM (X : Cx) (m : M) : Option M := if m.en = true then none else X.c.Ops[m.pc]?.bind fun o => stepO X o { m with pc := m.pc + 1 }
def stepN (X : Cx) : Nat → M → Option M
  | 0, m => some m
  | n + 1, m => (stepM X m).bind (stepN X n)
def Goes (X : Cx) (m m' : M) (b : Int) : Prop := ∃ n : Nat, (n : Int) ≤ b ∧ stepN X n m = some m'
theorem stepN_add {X : Cx} : ∀ {a b : Nat} {m m' m'' : M}, stepN X a m = some m' → stepN X b m' = some m'' → stepN X (a + b) m = some m''
  | 0, b, m, m', m'', h1, h2 => by cases h1; rwa [Nat.zero_add]
  | a + 1, b, m, m', m'', h1, h2 => by
    rw [stepN] at h1
    obtain ⟨m1, h3, h4⟩ := bS h1
    rw [show a + 1 + b = (a + b) + 1 by omega, stepN, h3]
    exact stepN_add h4 h2
theorem Goes.refl {X : Cx} {m : M} {b : Int} (h : 0 ≤ b) : Goes X m m b := ⟨0, h, rfl⟩
theorem Goes.trans {X : Cx} {m m' m'' : M} {a b c : Int} (h1 : Goes X m m' a) (h2 : Goes X m' m'' b) (h : a + b ≤ c) : Goes X m m'' c := by
  obtain ⟨n, h3, h4⟩ := h1
  obtain ⟨k, h5, h6⟩ := h2
  exact ⟨n + k, by omega, stepN_add h4 h6⟩
theorem Goes.one {X : Cx} {m m' : M} {b : Int} (h : stepM X m = some m') (hb : 1 ≤ b) : Goes X m m' b := ⟨1, hb, by rw [stepN, h]; rfl⟩
def Out {α : Type} (X : Cx) (m : M) (L : Int) (res : Mn.R α) (F : α → Int → M) : Prop := match res with
  | .ok (a, u') => m.u ≤ u' ∧ Goes X m (F a u') (L + (u' - m.u) * 2000)
  | .error (k, u') => k ≠ 0 ∧ m.u ≤ u' ∧ ∃ m', Goes X m m' (L + (u' - m.u) * 2000) ∧ m'.en = true ∧ m'.fa = k ∧ m'.u = u'
theorem Out.bnd {α β : Type} {X : Cx} {m : M} {L1 L2 L : Int} {r : Mn.R α} {F1 : α → Int → M} {k : α → Int → Mn.R β} {F2 : β → Int → M} (h1 : Out X m L1 r F1) (h2 : ∀ a u1, r = .ok (a, u1) → (F1 a u1).u = u1 ∧ Out X (F1 a u1) L2 (k a u1) F2) (hL : L1 + L2 ≤ L) (h0 : 0 ≤ L2) : Out X m L (bnd r k) F2 := by
  cases r with
  | error e =>
    obtain ⟨a, b⟩ := e
    obtain ⟨h3, h4, m', h5, h6⟩ := h1
    exact ⟨h3, h4, m', h5.trans (.refl h0) (by omega), h6⟩
  | ok p =>
    obtain ⟨a, u1⟩ := p
    obtain ⟨h3, h4⟩ := h1
    obtain ⟨h5, h6⟩ := h2 a u1 rfl
    show Out X m L (k a u1) F2
    cases hk : k a u1 with
    | error e =>
      obtain ⟨a2, b2⟩ := e
      rw [hk] at h6
      obtain ⟨h7, h8, m', h9, h10⟩ := h6
      exact ⟨h7, by omega, m', h4.trans h9 (by omega), h10⟩
    | ok q =>
      obtain ⟨a2, u2⟩ := q
      rw [hk] at h6
      obtain ⟨h7, h8⟩ := h6
      exact ⟨by omega, h4.trans h8 (by omega)⟩
theorem Out.pre {α : Type} {X : Cx} {m m1 : M} {L L' : Int} {r : Mn.R α} {F : α → Int → M} (h : Goes X m m1 L') (hu : m.u ≤ m1.u) {L2 : Int} (h2 : Out X m1 L r F) (hL : L' + L ≤ L2 + (m1.u - m.u) * 2000) : Out X m L2 r F := by
  cases r with
  | error e =>
    obtain ⟨a, b⟩ := e
    obtain ⟨h3, h4, m', h5, h6⟩ := h2
    exact ⟨h3, by omega, m', h.trans h5 (by omega), h6⟩
  | ok p =>
    obtain ⟨a, u1⟩ := p
    obtain ⟨h3, h4⟩ := h2
    exact ⟨by omega, h.trans h4 (by omega)⟩
theorem Out.post {α : Type} {X : Cx} {m : M} {L L' L2 : Int} {r : Mn.R α} {F F' : α → Int → M} (h : Out X m L r F) (h2 : ∀ a u', r = .ok (a, u') → Goes X (F a u') (F' a u') L') (hL : L + L' ≤ L2) (h0 : 0 ≤ L') : Out X m L2 r F' := by
  cases r with
  | error e =>
    obtain ⟨a, b⟩ := e
    obtain ⟨h3, h4, m', h5, h6⟩ := h
    exact ⟨h3, by omega, m', h5.trans (.refl h0) (by omega), h6⟩
  | ok p =>
    obtain ⟨a, u1⟩ := p
    obtain ⟨h3, h4⟩ := h
    exact ⟨by omega, h4.trans (h2 a u1 rfl) (by omega)⟩
theorem Out.ok {α : Type} {X : Cx} {m : M} {L : Int} {a : α} {u : Int} {F : α → Int → M} (hu : m.u = u) (h : Goes X m (F a u) L) : Out X m L (.ok (a, u)) F := ⟨by omega, h.trans (.refl (Int.le_refl 0)) (by omega)⟩
theorem Out.err {α : Type} {X : Cx} {m m' : M} {L k u : Int} {F : α → Int → M} (hk : k ≠ 0) (hu : m.u ≤ u) (h : Goes X m m' L) (h2 : m'.en = true) (h3 : m'.fa = k) (h4 : m'.u = u) : Out X m L (.error (k, u)) F := ⟨hk, hu, m', h.trans (.refl (Int.le_refl 0)) (by omega), h2, h3, h4⟩
theorem jmp_nat {m : M} {n : Nat} : m.jmp (n : Int) = some { m with pc := n } := by unfold M.jmp; rw [if_pos (by omega), Int.toNat_natCast]
def Seg (ops : List Op) (p : Nat) (l : List Op) : Prop := ∀ i, i < l.length → ops[p + i]? = l[i]?
theorem Seg.app {ops : List Op} {p : Nat} {a b : List Op} (h : Seg ops p (a ++ b)) : Seg ops p a ∧ Seg ops (p + a.length) b := by
  refine ⟨fun i hi => ?_, fun i hi => ?_⟩
  · rw [h i (by rw [List.length_append]; omega), List.getElem?_append_left hi]
  · rw [Nat.add_assoc, h (a.length + i) (by rw [List.length_append]; omega), List.getElem?_append_right (by omega), Nat.add_sub_cancel_left]
theorem Seg.hd {ops : List Op} {p : Nat} {o : Op} {b : List Op} (h : Seg ops p (o :: b)) : ops[p]? = some o ∧ Seg ops (p + 1) b :=
  ⟨by have := h 0 (by simp); simpa using this, fun i hi => by have := h (i + 1) (by simpa using hi); rw [show p + 1 + i = p + (i + 1) by omega, this]; rfl⟩
theorem Seg.mid {a l b : List Op} : Seg (a ++ (l ++ b)) a.length l := fun i hi => by
  rw [List.getElem?_append_right (by omega), Nat.add_sub_cancel_left, List.getElem?_append_left hi]
theorem stepM_V {X : Cx} {p : Nat} {S : List Int} {cl : List (Nat × List Int)} {u : Int} {tg : List Int} {se : List Bool} {o : Op} (h : X.c.Ops[p]? = some o) : stepM X (V p S cl u tg se) = stepO X o (V (p + 1) S cl u tg se) := by
  unfold stepM; rw [if_neg (by simp), h]; rfl
theorem pop_V {p : Nat} {S : List Int} {v : Int} {cl : List (Nat × List Int)} {u : Int} {tg : List Int} {se : List Bool} : (V p (S ++ [v]) cl u tg se).pop = some (v, V p S cl u tg se) := by
  unfold M.pop; simp
section
variable {X : Cx} {p : Nat} {S : List Int} {cl : List (Nat × List Int)} {u : Int} {tg : List Int} {se : List Bool} {a b v : Int}
theorem st_push (h : X.c.Ops[p]? = some ⟨0, a, b⟩) : stepM X (V p S cl u tg se) = some (V (p + 1) (S ++ [a]) cl u tg se) := by
  rw [stepM_V h]; rfl
theorem st_load {q : Nat × List Int} (h : X.c.Ops[p]? = some ⟨1, a, b⟩) (hq : cl.getLast? = some q) (h2 : 0 ≤ a ∧ a < q.2.length) : stepM X (V p S cl u tg se) = some (V (p + 1) (S ++ [q.2.getD a.toNat 0]) cl u tg se) := by
  rw [stepM_V h]; unfold stepO; simp only [Int.reduceEq, if_false, if_true]; rw [hq, Option.bind_some, if_pos h2]; rfl
theorem st_fact (h : X.c.Ops[p]? = some ⟨2, a, b⟩) (h2 : 0 ≤ a ∧ a < 8 ∧ 0 ≤ b) : stepM X (V p S cl u tg se) = some (V (p + 1) (S ++ [factV X.f X.d a (b / 1024) (b % 1024)]) cl u tg se) := by
  rw [stepM_V h]; unfold stepO; simp only [Int.reduceEq, if_false, if_true]; rw [if_pos h2]; rfl
theorem st_neg (h : X.c.Ops[p]? = some ⟨3, a, b⟩) : stepM X (V p (S ++ [v]) cl u tg se) = some (V (p + 1) (S ++ [lim (0 - v)]) cl u tg se) := by
  rw [stepM_V h]; unfold stepO; simp only [Int.reduceEq, if_false, if_true]; rw [pop_V]; rfl
theorem st_not (h : X.c.Ops[p]? = some ⟨4, a, b⟩) : stepM X (V p (S ++ [v]) cl u tg se) = some (V (p + 1) (S ++ [wr (1 - v)]) cl u tg se) := by
  rw [stepM_V h]; unfold stepO; simp only [Int.reduceEq, if_false, if_true]; rw [pop_V]; rfl
theorem st_two {k x y : Int} (h : X.c.Ops[p]? = some ⟨k, a, b⟩) (hk : 5 ≤ k ∧ k ≤ 11) : stepM X (V p (S ++ [x, y]) cl u tg se) = match op2 (k - 1) x y with
    | .ok v => some (V (p + 1) (S ++ [v]) cl u tg se)
    | .error k => some ((V (p + 1) S cl u tg se).stop k) := by
  rw [stepM_V h]; unfold stepO
  simp only
  rw [if_neg (by omega), if_neg (by omega), if_neg (by omega), if_neg (by omega), if_neg (by omega), if_pos hk, show S ++ [x, y] = (S ++ [x]) ++ [y] by simp, pop_V, Option.bind_some, pop_V, Option.bind_some]
  rfl
theorem st_jmp {n : Nat} (h : X.c.Ops[p]? = some ⟨12, (n : Int), b⟩) : stepM X (V p S cl u tg se) = some (V n S cl u tg se) := by
  rw [stepM_V h]; unfold stepO; simp only [Int.reduceEq, if_false, if_true, Int.reduceLE, and_false]; unfold M.jmp; rw [if_pos (by omega), Int.toNat_natCast]
theorem st_false {n : Nat} (h : X.c.Ops[p]? = some ⟨13, (n : Int), b⟩) : stepM X (V p (S ++ [v]) cl u tg se) = some (V (if v = 0 then n else p + 1) S cl u tg se) := by
  rw [stepM_V h]; unfold stepO; simp only [Int.reduceEq, if_false, if_true, Int.reduceLE, and_false]; rw [pop_V, Option.bind_some]
  simp only [jmp_nat]; split <;> rfl
theorem st_true {n : Nat} (h : X.c.Ops[p]? = some ⟨14, (n : Int), b⟩) : stepM X (V p (S ++ [v]) cl u tg se) = some (V (if v = 1 then n else p + 1) S cl u tg se) := by
  rw [stepM_V h]; unfold stepO; simp only [Int.reduceEq, if_false, if_true, Int.reduceLE, and_false]; rw [pop_V, Option.bind_some]
  simp only [jmp_nat]; split <;> rfl
theorem st_callF {n : Int} (h : X.c.Ops[p]? = some ⟨15, n, b⟩) (hu : 10000 ≤ u) : stepM X (V p S cl u tg se) = some ((V (p + 1) S cl u tg se).stop 14) := by
  rw [stepM_V h]; unfold stepO; simp only [Int.reduceEq, if_false, if_true, Int.reduceLE, and_false]; rw [if_pos hu]
theorem st_callE {n : Int} (h : X.c.Ops[p]? = some ⟨15, n, b⟩) (hu : ¬ 10000 ≤ u) (hc : 100 ≤ cl.length) : stepM X (V p S cl u tg se) = some ((V (p + 1) S cl (u + 1) tg se).stop 8) := by
  rw [stepM_V h]; unfold stepO; simp only [Int.reduceEq, if_false, if_true, Int.reduceLE, and_false]; rw [if_neg hu, if_pos hc]
theorem st_call {n q : Nat} {vs : List Int} (h : X.c.Ops[p]? = some ⟨15, (n : Int), (vs.length : Int)⟩) (hu : ¬ 10000 ≤ u) (hc : ¬ 100 ≤ cl.length) (hq : X.c.Funcs[n]? = some (q : Int)) : stepM X (V p (S ++ vs) cl u tg se) = some (V q S (cl ++ [(p + 1, vs)]) (u + 1) tg se) := by
  rw [stepM_V h]; unfold stepO; simp only [Int.reduceEq, if_false, if_true, Int.reduceLE, and_false]
  rw [if_neg hu, if_neg hc, if_pos (by rw [List.length_append]; omega), Int.toNat_natCast, hq, Option.bind_some]
  unfold M.jmp; rw [if_pos (by omega), Int.toNat_natCast, Int.toNat_natCast, List.length_append, Nat.add_sub_cancel, List.take_left, List.drop_left]
theorem st_ret {q : Nat × List Int} (h : X.c.Ops[p]? = some ⟨16, a, b⟩) : stepM X (V p S (cl ++ [q]) u tg se) = some (V q.1 S cl u tg se) := by
  rw [stepM_V h]; unfold stepO; simp only [Int.reduceEq, if_false, if_true, Int.reduceLE, and_false]; simp
theorem st_clF {n : Int} (h : X.c.Ops[p]? = some ⟨17, n, b⟩) (hu : 10000 ≤ u) : stepM X (V p S cl u tg se) = some ((V (p + 1) S cl u tg se).stop 14) := by
  rw [stepM_V h]; unfold stepO; simp only [Int.reduceEq, if_false, if_true, Int.reduceLE, and_false]; rw [if_pos hu]
theorem st_cl {n q : Nat} (h : X.c.Ops[p]? = some ⟨17, (n : Int), (q : Int)⟩) (hu : ¬ 10000 ≤ u) (hn : n < se.length) : stepM X (V p S cl u tg se) = some (V (if se.getD n false = true then q else p + 1) S cl (u + 1) tg se) := by
  rw [stepM_V h]; unfold stepO; simp only [Int.reduceEq, if_false, if_true, Int.reduceLE, and_false]
  rw [if_neg hu, if_pos (by omega), Int.toNat_natCast]
  simp only [jmp_nat]; split <;> rfl
theorem st_set {n : Nat} (h : X.c.Ops[p]? = some ⟨18, (n : Int), b⟩) (hn : n < se.length) : stepM X (V p (S ++ [v]) cl u tg se) = some (V (p + 1) S cl u (tg.set n (clampI v 0 (X.ps.getD n 0))) (se.set n true)) := by
  rw [stepM_V h]; unfold stepO; simp only [Int.reduceEq, if_false, if_true, Int.reduceLE, and_false]
  rw [if_pos (by omega), Int.toNat_natCast, pop_V]; rfl
theorem st_end (h : X.c.Ops[p]? = some ⟨19, a, b⟩) : stepM X (V p S cl u tg se) = some { V (p + 1) S cl u tg se with en := true } := by
  rw [stepM_V h]; unfold stepO; simp only [Int.reduceEq, if_false, if_true, Int.reduceLE, and_false]
end
end Vm
