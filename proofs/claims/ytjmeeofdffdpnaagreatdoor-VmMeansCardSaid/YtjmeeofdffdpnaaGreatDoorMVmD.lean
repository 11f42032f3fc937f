/- Lemmas. Conditions: those of each theorem. -/
import Derived.Test.YtjmeeofdffdpnaaGreatDoorMJgE
set_option maxRecDepth 8000
set_option maxHeartbeats 16000000
namespace Vm
open Bt
theorem soL_all (r : Rule) (ps : Nat) : ∀ (xs : List Expr) (d : Nat), soL r ps d xs = xs.all (soE r ps d)
  | [], _ => by rw [soL]; rfl
  | x :: xs, d => by rw [soL, soL_all r ps xs d]; rfl
def arK (r : Rule) (x : Expr) : Nat := if x.Kind = 0 ∨ x.Kind = 15 ∨ x.Kind = 1 then 0 else if x.Kind = 2 ∨ x.Kind = 3 then 1 else if x.Kind = 13 then 3 else if x.Kind = 14 then arE r x.N else 2
def okK (r : Rule) (ps : Nat) (x : Expr) : Bool := if x.Kind = 15 then decide (0 ≤ x.N ∧ x.N < ps) else if x.Kind = 1 then decide (0 ≤ x.N ∧ x.N < 8 ∧ 0 ≤ x.Of ∧ x.Of < 1024 ∧ 0 ≤ x.Of2 ∧ x.Of2 < 1024) else if x.Kind = 14 then decide (0 ≤ x.N ∧ x.N < r.Funcs.length) else true
theorem soE_eq (r : Rule) (ps d : Nat) (x : Expr) : soE r ps d x = (decide (d ≤ 40) && decide (0 ≤ x.Kind ∧ x.Kind < 16) && okK r ps x && decide (x.Kids.length = arK r x) && x.Kids.all (soE r ps (d + 1))) := by
  obtain ⟨k, n, o, q, ks⟩ := x
  rw [soE, soL_all]
  rfl
end Vm
namespace Go.Proofs.YtjmeeofdffdpnaaGreatDoor
open Go Go.K Go.RowKit
open Ru (pB)
attribute [local irreducible] AW RW DW Post Qt
def SoOK (r : Bt.Rule) (fv cv : Value) (n : Nat) : Prop := ∀ (w : World) (Φ : Hp) (X : Bt.Expr) (v : Value) (ps d : Nat), Hp.le Φ (hp w) → RepSl Φ r.Funcs fv → wfE X → RepSl Φ X.Kids v → ps ≤ 140737488355328 → n + d = 41 →
  Calls pg 66 #[.agg #[fv, cv], .agg (exC X v).toArray, .int .i64 (ps : Int), .int .i64 (d : Int)] w fun e' w' => e' = .returned (.bool (Vm.soE r ps d X)) ∧ Bel w.heap.size w w'
section
variable {r : Bt.Rule} {fv cv : Value}
theorem sound_of {n : Nat} (hcv : ∃ m, IsSl cv m) (ih : ∀ m, n = m + 1 → SoOK r fv cv m) : SoOK r fv cv n := by
  intro w Φ X v ps d hΦ hf hX hv hps hnd
  obtain ⟨cm, cA, cc, rfl, _⟩ := hcv
  obtain ⟨vA, vc, rfl, _⟩ := hv.sl
  have hvs := hv.sl
  obtain ⟨fA, fc, rfl, _⟩ := hf.sl
  have hfs := hf.sl
  have hxb : X.Kids.length * 56 ≤ maxSl := hv.max
  simp only [maxSl] at hxb
  refine calls_of_AW (args := [.agg #[.slice fA r.Funcs.length fc, .slice cA cm cc], .agg (exC X (.slice vA X.Kids.length vc)).toArray, .int .i64 (ps : Int), .int .i64 (d : Int)]) Tryz.func66 rfl (lBT rfl) (St ⟨w, Φ, []⟩ Φ []) (StP.init w Φ hΦ []) ?_
  show AW _ _ [] _ _ _ [(0, .agg #[.slice fA r.Funcs.length fc, .slice cA cm cc]), (1, .agg (exC X (.slice vA X.Kids.length vc)).toArray), (2, .int .i64 (ps : Int)), (3, .int .i64 (d : Int))] _
  repeat refine gs1 ?_
  refine RW.bxA (cs := [.slice fA r.Funcs.length fc, .slice cA cm cc]) rfl rfl fun b4 => ?_
  refine RW.bxA (cs := exC X (.slice vA X.Kids.length vc)) rfl rfl fun b5 => ?_
  repeat refine gs1 ?_
  refine RW.q (v := .bool (decide ((40 : Int) < (d : Int)) || decide (X.Kind < 0))) rfl (qpO rfl rfl rfl) ?_
  repeat refine gs1 ?_
  refine RW.q (v := .bool (decide ((40 : Int) < (d : Int)) || decide (X.Kind < 0) || decide ((16 : Int) ≤ X.Kind))) rfl (qpO rfl rfl rfl) ?_
  repeat refine gs1 ?_
  refine AW.cond rfl (fun hc => ?_) fun hc => ?_
  · have hc : (40 : Int) < d ∨ X.Kind < 0 ∨ 16 ≤ X.Kind := by simpa [or_assoc, and_assoc] using hc
    repeat refine gs1 ?_
    exact fin_res (vs := [.bool false]) rfl rfl ⟨.tmp rfl, trivial⟩ rfl (fun w' hw => ⟨by rw [Vm.soE_eq, show (decide (d ≤ 40) && decide (0 ≤ X.Kind ∧ X.Kind < 16)) = false by rw [Bool.and_eq_false_iff, decide_eq_false_iff_not, decide_eq_false_iff_not]; omega]; rfl, hw.below rfl⟩)
  have hc : ¬ ((40 : Int) < d ∨ X.Kind < 0 ∨ 16 ≤ X.Kind) := by simpa [or_assoc, and_assoc] using hc
  have h0 : (decide (d ≤ 40) && decide (0 ≤ X.Kind ∧ X.Kind < 16)) = true := by rw [Bool.and_eq_true, decide_eq_true_eq, decide_eq_true_eq]; omega
  obtain ⟨m, rfl⟩ : ∃ m, n = m + 1 := ⟨n - 1, by omega⟩
  have ih := ih m rfl
  have hno : Vm.okK r ps X = false → (Vm.soE r ps d X) = false := fun h => by rw [Vm.soE_eq, h]; simp
  repeat refine gs1 ?_
  refine AW.mid (fun s J => s = [(2, .int .i64 (ps : Int)), (3, .int .i64 (d : Int)), (4, pB b4), (5, pB b5), (9, .int .i64 ((Vm.arK r X : Nat) : Int))] ∧ J = St ⟨w, Φ, []⟩ Φ [.blk b5 59 (exC X (.slice vA X.Kids.length vc)), .blk b4 35 [.slice fA r.Funcs.length fc, .slice cA cm cc]] ∧ Vm.okK r ps X = true) ?_ ?_
  · refine AW.cond rfl (fun k => ?_) fun k0 => ?_
    · have k : X.Kind = 0 := odT k
      have hK : Vm.arK r X = 0 := by unfold Vm.arK; rw [if_pos (by omega)]
      have hok : Vm.okK r ps X = true := by unfold Vm.okK; rw [if_neg (by omega), if_neg (by omega), if_neg (by omega)]
      repeat refine gs1 ?_
      exact Post.mid_n (s' := _) (J' := _) ⟨rfl, rfl, hok⟩ ⟨rfl, rfl, rfl, rfl, (by rw [hK]; rfl), trivial⟩ (fun _ h => h)
    have k0 : X.Kind ≠ 0 := odF k0
    repeat refine gs1 ?_
    refine AW.cond rfl (fun k => ?_) fun k15 => ?_
    · have k : X.Kind = 15 := odT k
      have hK : Vm.arK r X = 0 := by unfold Vm.arK; rw [if_pos (by omega)]
      have hkk : Vm.okK r ps X = decide (0 ≤ X.N ∧ X.N < ps) := by unfold Vm.okK; rw [if_pos k]
      repeat refine gs1 ?_
      refine RW.q (v := .bool (decide (X.N < 0) || decide ((ps : Int) ≤ X.N))) rfl (qpO rfl rfl rfl) ?_
      repeat refine gs1 ?_
      refine AW.cond rfl (fun c => ?_) fun c => ?_
      · have c : X.N < 0 ∨ (ps : Int) ≤ X.N := by simpa using c
        have hok : Vm.okK r ps X = false := by rw [hkk, decide_eq_false_iff_not]; omega
        repeat refine gs1 ?_
        refine Post.mid_r ?_
        repeat refine gs1 ?_
        exact fin_res (vs := [.bool false]) rfl rfl ⟨.tmp rfl, trivial⟩ rfl (fun w' hw => ⟨by rw [hno hok]; rfl, hw.below rfl⟩)
      have c : ¬ (X.N < 0 ∨ (ps : Int) ≤ X.N) := by simpa using c
      have hok : Vm.okK r ps X = true := by rw [hkk, decide_eq_true_eq]; omega
      repeat refine gs1 ?_
      exact Post.mid_n (s' := _) (J' := _) ⟨rfl, rfl, hok⟩ ⟨rfl, rfl, rfl, rfl, (by rw [hK]; rfl), trivial⟩ (fun _ h => h)
    have k15 : X.Kind ≠ 15 := odF k15
    repeat refine gs1 ?_
    refine AW.cond rfl (fun k => ?_) fun k1 => ?_
    · have k : X.Kind = 1 := odT k
      have hK : Vm.arK r X = 0 := by unfold Vm.arK; rw [if_pos (by omega)]
      have hkk : Vm.okK r ps X = decide (0 ≤ X.N ∧ X.N < 8 ∧ 0 ≤ X.Of ∧ X.Of < 1024 ∧ 0 ≤ X.Of2 ∧ X.Of2 < 1024) := by unfold Vm.okK; rw [if_neg k15, if_pos k]
      repeat refine gs1 ?_
      refine RW.q (v := .bool (decide (X.N < 0) || decide ((8 : Int) ≤ X.N))) rfl (qpO rfl rfl rfl) ?_
      repeat refine gs1 ?_
      refine RW.q (v := .bool (decide (X.N < 0) || decide ((8 : Int) ≤ X.N) || decide (X.Of < 0))) rfl (qpO rfl rfl rfl) ?_
      repeat refine gs1 ?_
      refine RW.q (v := .bool (decide (X.N < 0) || decide ((8 : Int) ≤ X.N) || decide (X.Of < 0) || decide ((1024 : Int) ≤ X.Of))) rfl (qpO rfl rfl rfl) ?_
      repeat refine gs1 ?_
      refine RW.q (v := .bool (decide (X.N < 0) || decide ((8 : Int) ≤ X.N) || decide (X.Of < 0) || decide ((1024 : Int) ≤ X.Of) || decide (X.Of2 < 0))) rfl (qpO rfl rfl rfl) ?_
      repeat refine gs1 ?_
      refine RW.q (v := .bool (decide (X.N < 0) || decide ((8 : Int) ≤ X.N) || decide (X.Of < 0) || decide ((1024 : Int) ≤ X.Of) || decide (X.Of2 < 0) || decide ((1024 : Int) ≤ X.Of2))) rfl (qpO rfl rfl rfl) ?_
      repeat refine gs1 ?_
      refine AW.cond rfl (fun c => ?_) fun c => ?_
      · have c : X.N < 0 ∨ 8 ≤ X.N ∨ X.Of < 0 ∨ 1024 ≤ X.Of ∨ X.Of2 < 0 ∨ 1024 ≤ X.Of2 := by simpa [or_assoc, and_assoc] using c
        have hok : Vm.okK r ps X = false := by rw [hkk, decide_eq_false_iff_not]; omega
        repeat refine gs1 ?_
        refine Post.mid_r ?_
        repeat refine gs1 ?_
        exact fin_res (vs := [.bool false]) rfl rfl ⟨.tmp rfl, trivial⟩ rfl (fun w' hw => ⟨by rw [hno hok]; rfl, hw.below rfl⟩)
      have c : ¬ (X.N < 0 ∨ 8 ≤ X.N ∨ X.Of < 0 ∨ 1024 ≤ X.Of ∨ X.Of2 < 0 ∨ 1024 ≤ X.Of2) := by simpa [or_assoc, and_assoc] using c
      have hok : Vm.okK r ps X = true := by rw [hkk, decide_eq_true_eq]; omega
      repeat refine gs1 ?_
      exact Post.mid_n (s' := _) (J' := _) ⟨rfl, rfl, hok⟩ ⟨rfl, rfl, rfl, rfl, (by rw [hK]; rfl), trivial⟩ (fun _ h => h)
    have k1 : X.Kind ≠ 1 := odF k1
    repeat refine gs1 ?_
    refine AW.orCh (kd := .i64) (t := 69) (x := 25) (a := X.Kind) rfl rfl _ rfl rfl rfl rfl fun f' => ?_
    repeat refine gs1 ?_
    refine AW.cond rfl (fun k => ?_) fun k23 => ?_
    · have k : X.Kind = 2 ∨ X.Kind = 3 := by simpa using k
      have hK : Vm.arK r X = 1 := by unfold Vm.arK; rw [if_neg (by omega), if_pos (by omega)]
      have hok : Vm.okK r ps X = true := by unfold Vm.okK; rw [if_neg (by omega), if_neg (by omega), if_neg (by omega)]
      repeat refine gs1 ?_
      exact Post.mid_n (s' := _) (J' := _) ⟨rfl, rfl, hok⟩ ⟨rfl, rfl, rfl, rfl, (by rw [hK]; rfl), trivial⟩ (fun _ h => h)
    have k23 : ¬ (X.Kind = 2 ∨ X.Kind = 3) := by simpa using k23
    repeat refine gs1 ?_
    refine AW.cond rfl (fun k => ?_) fun k13 => ?_
    · have k : X.Kind = 13 := odT k
      have hK : Vm.arK r X = 3 := by unfold Vm.arK; rw [if_neg (by omega), if_neg (by omega), if_pos k]
      have hok : Vm.okK r ps X = true := by unfold Vm.okK; rw [if_neg (by omega), if_neg (by omega), if_neg (by omega)]
      repeat refine gs1 ?_
      exact Post.mid_n (s' := _) (J' := _) ⟨rfl, rfl, hok⟩ ⟨rfl, rfl, rfl, rfl, (by rw [hK]; rfl), trivial⟩ (fun _ h => h)
    have k13 : X.Kind ≠ 13 := odF k13
    repeat refine gs1 ?_
    refine AW.cond rfl (fun k => ?_) fun k14 => ?_
    · have k : X.Kind = 14 := odT k
      have hkk : Vm.okK r ps X = decide (0 ≤ X.N ∧ X.N < r.Funcs.length) := by unfold Vm.okK; rw [if_neg k15, if_neg k1, if_pos k]
      repeat refine gs1 ?_
      refine RW.g (b := decide (X.N < 0)) (v := .int .i64 ((r.Funcs.length : Nat) : Int)) rfl rfl rfl (fun h => q_len_sl (gv_pos h) hfs Tryz.underlying32) ?_
      repeat refine gs1 ?_
      refine RW.q (v := .bool (decide (X.N < 0) || decide ((r.Funcs.length : Int) ≤ X.N))) rfl (qpO rfl rfl rfl) ?_
      repeat refine gs1 ?_
      refine AW.cond rfl (fun c => ?_) fun c => ?_
      · have c : X.N < 0 ∨ (r.Funcs.length : Int) ≤ X.N := by simpa using c
        have hok : Vm.okK r ps X = false := by rw [hkk, decide_eq_false_iff_not]; omega
        repeat refine gs1 ?_
        refine Post.mid_r ?_
        repeat refine gs1 ?_
        exact fin_res (vs := [.bool false]) rfl rfl ⟨.tmp rfl, trivial⟩ rfl (fun w' hw => ⟨by rw [hno hok]; rfl, hw.below rfl⟩)
      have c : ¬ (X.N < 0 ∨ (r.Funcs.length : Int) ≤ X.N) := by simpa using c
      have hok : Vm.okK r ps X = true := by rw [hkk, decide_eq_true_eq]; omega
      obtain ⟨m, hm⟩ : ∃ m : Nat, X.N = m := ⟨X.N.toNat, by omega⟩
      have hml : m < r.Funcs.length := by omega
      obtain ⟨qv, Ab, cb, hpb, hqv, hbk, hwb, hnl, hres⟩ := funW hf hml
      obtain ⟨qA, qc, rfl, _⟩ := hqv.sl
      have hqs := hqv.sl
      have hK : Vm.arK r X = (r.Funcs.getD m default).Params.length := by
        unfold Vm.arK Vm.arE
        rw [if_neg (by omega), if_neg (by omega), if_neg k13, if_pos k, hm, Int.toNat_natCast, gDD, List.getElem?_map, List.getElem?_eq_getElem hml, gDD, List.getElem?_eq_getElem hml]
        rfl
      have pp : PCell Φ (Value.at (.slice fA r.Funcs.length fc) (m * 8 + 1)) (.slice qA (r.Funcs.getD m default).Params.length qc) := by have := hpb 1 _ rfl; rwa [at_add] at this
      clear hpb
      repeat refine gs1 ?_
      refine RW.q (v := .pointer (some (Value.at (.slice fA r.Funcs.length fc) (m * 8)))) rfl (qa_ixN (n := r.Funcs.length) (i := m) rfl (by show Value.int .i64 X.N = _; rw [hm]) hfs hml) ?_
      repeat refine gs1 ?_
      exact Post.mid_n (s' := _) (J' := _) ⟨rfl, rfl, hok⟩ ⟨rfl, rfl, rfl, rfl, (by rw [hK]; rfl), trivial⟩ (fun _ h => h)
    have k14 : X.Kind ≠ 14 := odF k14
    have hK : Vm.arK r X = 2 := by unfold Vm.arK; rw [if_neg (by omega), if_neg (by omega), if_neg k13, if_neg k14]
    have hok : Vm.okK r ps X = true := by unfold Vm.okK; rw [if_neg k15, if_neg k1, if_neg k14]
    repeat refine gs1 ?_
    exact Post.mid_n (s' := _) (J' := _) ⟨rfl, rfl, hok⟩ ⟨rfl, rfl, rfl, rfl, (by rw [hK]; rfl), trivial⟩ (fun _ h => h)
  · rintro f1 _ _ ⟨rfl, rfl, hok⟩
    have hse : Vm.soE r ps d X = (decide (X.Kids.length = Vm.arK r X) && X.Kids.all (Vm.soE r ps (d + 1))) := by rw [Vm.soE_eq, h0, hok]; simp
    repeat refine gs1 ?_
    refine AW.cond rfl (fun c => ?_) fun c => ?_
    · have c : X.Kids.length ≠ Vm.arK r X := fun h => by rw [h] at c; simp at c
      repeat refine gs1 ?_
      exact fin_res (vs := [.bool false]) rfl rfl ⟨.tmp rfl, trivial⟩ rfl (fun w' hw => ⟨by rw [hse, decide_eq_false c]; rfl, hw.below rfl⟩)
    have c : X.Kids.length = Vm.arK r X := by
      by_cases h : X.Kids.length = Vm.arK r X
      · exact h
      · have : ((X.Kids.length : Nat) : Int) ≠ ((Vm.arK r X : Nat) : Int) := by omega
        simp [this] at c
    rw [decide_eq_true c, Bool.true_and] at hse
    repeat refine gs1 ?_
    refine AW.loop (fun s J q => ∃ (i : Nat), s = [(2, .int .i64 (ps : Int)), (3, .int .i64 (d : Int)), (4, pB b4), (5, pB b5), (101, .slice vA X.Kids.length vc), (102, .int .i64 ((X.Kids.length : Nat) : Int)), (103, .int .i64 (i : Int))] ∧ J = St ⟨w, Φ, []⟩ Φ [.blk b5 59 (exC X (.slice vA X.Kids.length vc)), .blk b4 35 [.slice fA r.Funcs.length fc, .slice cA cm cc]] ∧ q = X.Kids.length - i ∧ i ≤ X.Kids.length ∧ (X.Kids.take i).all (Vm.soE r ps (d + 1)) = true) (s0 := _) (J1 := _) (m0 := _) ⟨0, rfl, rfl, rfl, Nat.zero_le _, rfl⟩ ⟨rfl, rfl, rfl, rfl, rfl, rfl, rfl, trivial⟩ (fun _ h => h) ?_
    rintro _ _ _ _ ⟨i, rfl, rfl, rfl, hi, he1⟩
    repeat refine gs1 ?_
    refine AW.cond rfl (fun h => ?_) fun h => ?_
    · have h : i < X.Kids.length := by have := odT h; omega
      obtain ⟨Aa, ca, hpa, hra, hwa⟩ := kidW hv (i := i) h
      have hget : X.Kids.getD i default = X.Kids[i] := by rw [gDD, List.getElem?_eq_getElem h]; rfl
      have htk : X.Kids.take (i + 1) = X.Kids.take i ++ [X.Kids.getD i default] := by rw [Ru.take_snoc h, hget]
      repeat refine gs1 ?_
      refine RW.alc rfl fun b9 => ?_
      repeat refine gs1 ?_
      refine RW.q rfl (q_call (args := #[.agg #[.slice fA r.Funcs.length fc, .slice cA cm cc], .agg (exC (X.Kids.getD i default) (.slice Aa (X.Kids.getD i default).Kids.length ca)).toArray, .int .i64 (ps : Int), .int .i64 ((d + 1 : Nat) : Int)]) oK rfl rfl (fun w1 hw1 => ih w1 Φ _ _ ps (d + 1) hw1.phi hf hwa hra hps (by omega))) ?_
      repeat refine gs1 ?_
      refine AW.cond rfl (fun hok => ?_) fun hok => ?_
      · have hok : Vm.soE r ps (d + 1) (X.Kids.getD i default) = false := by simpa using hok
        repeat refine gs1 ?_
        exact fin_res (vs := [.bool false]) rfl rfl ⟨.tmp rfl, trivial⟩ rfl (fun w' hw => ⟨by rw [hse, List.all_eq_false.2 ⟨X.Kids.getD i default, (by rw [hget]; exact List.getElem_mem h), by rw [hok]; simp⟩]; rfl, hw.below rfl⟩)
      have hok : Vm.soE r ps (d + 1) (X.Kids.getD i default) = true := by simpa using hok
      repeat refine gs1 ?_
      exact Post.back (s' := _) (J' := _) (m' := _) (by omega) ⟨i + 1, rfl, rfl, rfl, by omega, by rw [htk, List.all_append, he1]; simpa using hok⟩ ⟨rfl, rfl, rfl, rfl, rfl, rfl, rfl, trivial⟩ (fun _ h => StP.sel h [1, 2] (by decide) rfl)
    have h : i = X.Kids.length := by have := odF h; omega
    subst h
    rw [List.take_length] at he1
    repeat refine gs1 ?_
    exact fin_res (vs := [.bool true]) rfl rfl ⟨.tmp rfl, trivial⟩ rfl (fun w' hw => ⟨by rw [hse, he1]; rfl, hw.below rfl⟩)
theorem sound_c (hcv : ∃ m, IsSl cv m) : ∀ n, SoOK r fv cv n
  | 0 => sound_of hcv fun m h => by omega
  | n + 1 => sound_of hcv fun m h => by
    obtain rfl : n = m := by omega
    exact sound_c hcv n
end
end Go.Proofs.YtjmeeofdffdpnaaGreatDoor
namespace Vm
open Bt
theorem cG_app : ∀ (xs ys : List Expr) (p : Nat), (cG 0 p (xs ++ ys)).flatten = (cG 0 p xs).flatten ++ (cG 0 (p + (cG 0 p xs).flatten.length) ys).flatten
  | [], ys, p => by simp [cG]
  | x :: xs, ys, p => by
    rw [List.cons_append, cG, cG, List.flatten_cons, List.flatten_cons, cG_app xs ys, List.append_assoc, List.length_append]
    simp only [Nat.add_zero, Nat.add_assoc]
theorem cG_one (x : Expr) (p : Nat) : (cG 0 p [x]).flatten = cE p x := by simp [cG]
theorem cG_pre : ∀ (xs : List Expr) (p i : Nat), (cG 0 p (xs.take i)).flatten.length ≤ (cG 0 p xs).flatten.length
  | [], _, i => by simp [cG]
  | x :: xs, p, 0 => by simp [cG]
  | x :: xs, p, i + 1 => by
    rw [List.take_succ_cons, cG, cG, List.flatten_cons, List.flatten_cons, List.length_append, List.length_append]
    have := cG_pre xs (p + (cE p x).length + 0) i
    omega
end Vm
namespace Go.Proofs.YtjmeeofdffdpnaaGreatDoor
open Go Go.K Go.RowKit
open Ru (pB)
attribute [local irreducible] AW RW DW Post Qt
abbrev czK (bc : Nat) (kv : Value) (xs : List Vm.Op) (b2 b3 : Nat) (X : Bt.Expr) (v : Value) : List Chunk := [.blk bc 78 [kv], .row kv 56 3 xs.length (xs.flatMap opC), .blk b2 156 [pB bc], .blk b3 59 (exC X v)]
abbrev addR (w : World) (Φ : Hp) (bc : Nat) (kv : Value) (xs O : List Vm.Op) : Ending → World → Prop := OwnU w Φ (coK bc kv xs) (fun _ : Value => .tuple #[]) fun v => coK bc v (xs ++ O)
abbrev addZ (w : World) (Φ : Hp) (bc : Nat) (kv : Value) (xs O : List Vm.Op) (b2 b3 : Nat) (X : Bt.Expr) (v : Value) : Ending → World → Prop := OwnU w Φ (czK bc kv xs b2 b3 X v) (fun _ : Value => .tuple #[]) fun u => czK bc u (xs ++ O) b2 b3 X v
def CloOK (Φ : Hp) (bc b2 b3 : Nat) (X : Bt.Expr) (v : Value) (k : FuncId) (capt : Array Value) (O : Nat → List Vm.Op) : Prop := ∀ (w : World) (kv : Value) (xs : List Vm.Op), xs.length + (O xs.length).length ≤ 1000000000 → StP ⟨w, Φ, fps (czK bc kv xs b2 b3 X v)⟩ Φ (czK bc kv xs b2 b3 X v) w → Calls pg k capt w (addZ w Φ bc kv xs (O xs.length) b2 b3 X v)
def ExAt (Φ : Hp) (bc : Nat) (X : Bt.Expr) (v : Value) : Prop := ∀ (w : World) (kv : Value) (xs : List Vm.Op), xs.length + (Vm.cE xs.length X).length ≤ 1000000000 → StP ⟨w, Φ, fps (coK bc kv xs)⟩ Φ (coK bc kv xs) w → Calls pg 28 #[pB bc, .agg (exC X v).toArray] w (addR w Φ bc kv xs (Vm.cE xs.length X))
section
variable {Φ : Hp} {bc b2 b3 : Nat} {X : Bt.Expr} {v : Value}
theorem xclo1_c : CloOK Φ bc b2 b3 X v 68 #[pB b2] (fun _ => [⟨0, 0, 0⟩]) := by
  intro w kv xs hb h0
  simp only [List.length_singleton] at hb
  refine calls_of_AW (args := [pB b2]) Tryz.func68 rfl (lBT rfl) (St ⟨w, Φ, fps (czK bc kv xs b2 b3 X v)⟩ Φ (czK bc kv xs b2 b3 X v)) h0 ?_
  show AW _ _ [] _ _ _ [(0, pB b2)] _
  repeat refine gs1 ?_
  refine RW.ownU (args := #[pB bc, .int .i64 0, .int .i64 0, .int .i64 0]) (C2 := [.blk b2 156 [pB bc], .blk b3 59 (exC X v)]) [0, 1, 2, 3] (by decide) rfl rfl oK rfl rfl (fun w1 hw1 => emit_c w1 0 0 0 (by omega) hw1) fun kv' => ?_
  repeat refine gs1 ?_
  exact fin_none (J' := St ⟨w, Φ, fps (czK bc kv xs b2 b3 X v)⟩ Φ (czK bc kv' (xs ++ ([⟨0, 0, 0⟩] : List Vm.Op)) b2 b3 X v)) rfl rfl (fun _ h => h) (fun w1 hw1 => ⟨kv', rfl, hw1⟩)
theorem xclo2_c : CloOK Φ bc b2 b3 X v 69 #[pB b2] (fun _ => [⟨0, 1, 0⟩]) := by
  intro w kv xs hb h0
  simp only [List.length_singleton] at hb
  refine calls_of_AW (args := [pB b2]) Tryz.func69 rfl (lBT rfl) (St ⟨w, Φ, fps (czK bc kv xs b2 b3 X v)⟩ Φ (czK bc kv xs b2 b3 X v)) h0 ?_
  show AW _ _ [] _ _ _ [(0, pB b2)] _
  repeat refine gs1 ?_
  refine RW.ownU (args := #[pB bc, .int .i64 0, .int .i64 1, .int .i64 0]) (C2 := [.blk b2 156 [pB bc], .blk b3 59 (exC X v)]) [0, 1, 2, 3] (by decide) rfl rfl oK rfl rfl (fun w1 hw1 => emit_c w1 0 1 0 (by omega) hw1) fun kv' => ?_
  repeat refine gs1 ?_
  exact fin_none (J' := St ⟨w, Φ, fps (czK bc kv xs b2 b3 X v)⟩ Φ (czK bc kv' (xs ++ ([⟨0, 1, 0⟩] : List Vm.Op)) b2 b3 X v)) rfl rfl (fun _ h => h) (fun w1 hw1 => ⟨kv', rfl, hw1⟩)
theorem xclo3_c {Aa : Option Addr} {ca n : Nat} {vA : Option Addr} {vc : Nat} (_ : X.Kids.length = n) (h2 : 2 < n) (hvs : IsSl (.slice vA n vc) n) (hpa : PCells Φ (Value.at (.slice vA n vc) (2 * 5)) (exC (X.Kids.getD 2 default) (.slice Aa (X.Kids.getD 2 default).Kids.length ca))) (hE : ExAt Φ bc (X.Kids.getD 2 default) (.slice Aa (X.Kids.getD 2 default).Kids.length ca)) :
    CloOK Φ bc b2 b3 X (.slice vA n vc) 70 #[pB b2, pB b3] (fun p => Vm.cE p (X.Kids.getD 2 default)) := by
  intro w kv xs hb h0
  refine calls_of_AW (args := [pB b2, pB b3]) Tryz.func70 rfl (lBT rfl) (St ⟨w, Φ, fps (czK bc kv xs b2 b3 X (.slice vA n vc))⟩ Φ (czK bc kv xs b2 b3 X (.slice vA n vc))) h0 ?_
  show AW _ _ [] _ _ _ [(0, pB b2), (1, pB b3)] _
  repeat refine gs1 ?_
  refine AW.drawZ (J0 := St ⟨w, Φ, fps (czK bc kv xs b2 b3 X (.slice vA n vc))⟩ Φ [.blk b2 156 [pB bc], .blk b3 59 (exC X (.slice vA n vc))]) [.q, .q, .q, .q, .q, .e] [0, 1, 2, 3, 4, 5] hmix (by kernel_rfl) ?_
  refine DW.q (fun _ h => StP.sel h [2, 3] (by decide) rfl) rfl (qa_ld rfl (Cell.blk 0 rfl rfl)) ?_
  refine DW.q (fun _ h => StP.sel h [2, 3] (by decide) rfl) rfl (qa_fa0 rfl) ?_
  refine DW.q (fun _ h => StP.sel h [2, 3] (by decide) rfl) rfl (qa_ld rfl (Cell.blk 1 rfl rfl)) ?_
  refine DW.q (v := .pointer (some (Value.at (.slice vA n vc) (2 * 5)))) (fun _ h => StP.sel h [2, 3] (by decide) rfl) rfl (qa_ixL (n := n) (i := 2) rfl rfl hvs h2) ?_
  refine DW.q (v := .agg (exC (X.Kids.getD 2 default) (.slice Aa (X.Kids.getD 2 default).Kids.length ca)).toArray) (fun _ h => StP.sel h [2, 3] (by decide) rfl) rfl (qa_ldA rfl (fun j u hj => Cell.phi (hpa j u hj)) rfl) ?_
  refine DW.ownU (args := #[pB bc, .agg (exC (X.Kids.getD 2 default) (.slice Aa (X.Kids.getD 2 default).Kids.length ca)).toArray]) (C2 := [.blk b2 156 [pB bc], .blk b3 59 (exC X (.slice vA n vc))]) [0, 1, 2, 3] (by decide) rfl rfl oK rfl rfl (fun w1 hw1 => hE w1 kv xs hb hw1) (fun _ _ h => StP.sel h [2, 3] (by decide) rfl) fun kv' => ?_
  repeat refine gs1 ?_
  exact fin_none (J' := St ⟨w, Φ, fps (czK bc kv xs b2 b3 X (.slice vA n vc))⟩ Φ (czK bc kv' (xs ++ Vm.cE xs.length (X.Kids.getD 2 default)) b2 b3 X (.slice vA n vc))) rfl rfl (fun _ h => h) (fun w1 hw1 => ⟨kv', rfl, hw1⟩)
theorem choice_list {kind : Int} {xs A B O L1 L2 L3 L4 L5 L6 : List Vm.Op} (h1 : L1 = xs ++ A) (h2 : L2 = L1 ++ [⟨kind, 0, 0⟩]) (h3 : L3 = L2 ++ B) (h4 : L4 = L3 ++ [⟨12, 0, 0⟩]) (h5 : L5 = L1 ++ ⟨kind, ((L4.length : Nat) : Int), 0⟩ :: (B ++ [⟨12, 0, 0⟩])) (h6 : L6 = L5 ++ O) :
    L1 ++ ⟨kind, ((L4.length : Nat) : Int), 0⟩ :: B ++ ⟨12, ((L6.length : Nat) : Int), 0⟩ :: O = xs ++ Vm.chC kind xs.length A B O := by
  have e4 : L4.length = xs.length + A.length + 1 + B.length + 1 := by rw [h4, h3, h2, h1]; simp; omega
  have e6 : L6.length = xs.length + A.length + 1 + B.length + 1 + O.length := by rw [h6, h5, h1]; simp; omega
  rw [e4, e6, h1]
  simp only [Vm.chC, List.append_assoc, List.cons_append]
theorem choice_c (kind : Int) {Y1 Y2 : Bt.Expr} {v1 v2 : Value} {k : FuncId} {capt : Array Value} {O : Nat → List Vm.Op} (h1 : ExAt Φ bc Y1 v1) (h2 : ExAt Φ bc Y2 v2) (hk : Go.K.Own pg k) (hO : CloOK Φ bc b2 b3 X v k capt O)
    (w : World) (kv : Value) (xs A B C : List Vm.Op) (hA : A = Vm.cE xs.length Y1) (hB : B = Vm.cE (xs.length + A.length + 1) Y2) (hC : C = O (xs.length + A.length + 1 + B.length + 1)) (hb : xs.length + (Vm.chC kind xs.length A B C).length ≤ 1000000000) (h0 : StP ⟨w, Φ, fps (czK bc kv xs b2 b3 X v)⟩ Φ (czK bc kv xs b2 b3 X v) w) :
    Calls pg 67 #[pB bc, .int .i64 kind, .agg (exC Y1 v1).toArray, .agg (exC Y2 v2).toArray, .func (.func k) #[] capt] w (addZ w Φ bc kv xs (Vm.chC kind xs.length A B C) b2 b3 X v) := by
  have hl : (Vm.chC kind xs.length A B C).length = A.length + 1 + B.length + 1 + C.length := by simp [Vm.chC]; omega
  obtain ⟨L1, e1⟩ : ∃ L, L = xs ++ A := ⟨_, rfl⟩
  obtain ⟨L2, e2⟩ : ∃ L : List Vm.Op, L = L1 ++ [⟨kind, 0, 0⟩] := ⟨_, rfl⟩
  obtain ⟨L3, e3⟩ : ∃ L, L = L2 ++ B := ⟨_, rfl⟩
  obtain ⟨L4, e4⟩ : ∃ L : List Vm.Op, L = L3 ++ [⟨12, 0, 0⟩] := ⟨_, rfl⟩
  obtain ⟨L5, e5⟩ : ∃ L : List Vm.Op, L = L1 ++ ⟨kind, ((L4.length : Nat) : Int), 0⟩ :: (B ++ [⟨12, 0, 0⟩]) := ⟨_, rfl⟩
  obtain ⟨L6, e6⟩ : ∃ L, L = L5 ++ C := ⟨_, rfl⟩
  have n1 : L1.length = xs.length + A.length := by rw [e1]; simp
  have n2 : L2.length = xs.length + A.length + 1 := by rw [e2]; simp [n1]
  have n3 : L3.length = xs.length + A.length + 1 + B.length := by rw [e3]; simp [n2]
  have n4 : L4.length = xs.length + A.length + 1 + B.length + 1 := by rw [e4]; simp [n3]
  have n5 : L5.length = xs.length + A.length + 1 + B.length + 1 := by rw [e5]; simp [n1]; omega
  have n6 : L6.length = xs.length + A.length + 1 + B.length + 1 + C.length := by rw [e6]; simp [n5]
  have hA' : xs ++ Vm.cE xs.length Y1 = L1 := by rw [← hA, e1]
  have hB' : L2 ++ Vm.cE L2.length Y2 = L3 := by rw [n2, ← hB, e3]
  have hC' : L5 ++ O L5.length = L6 := by rw [n5, ← hC, e6]
  have hfin := choice_list e1 e2 e3 e4 e5 e6
  refine calls_of_AW (args := [pB bc, .int .i64 kind, .agg (exC Y1 v1).toArray, .agg (exC Y2 v2).toArray, .func (.func k) #[] capt]) Tryz.func67 rfl (lBT rfl) (St ⟨w, Φ, fps (czK bc kv xs b2 b3 X v)⟩ Φ (czK bc kv xs b2 b3 X v)) h0 ?_
  show AW _ _ [] _ _ _ [(0, pB bc), (1, .int .i64 kind), (2, .agg (exC Y1 v1).toArray), (3, .agg (exC Y2 v2).toArray), (4, .func (.func k) #[] capt)] _
  repeat refine gs1 ?_
  refine RW.bxA (cs := exC Y1 v1) rfl rfl fun b7 => ?_
  refine RW.bxA (cs := exC Y2 v2) rfl rfl fun b8 => ?_
  repeat refine gs1 ?_
  refine RW.ownU (args := #[pB bc, .agg (exC Y1 v1).toArray]) (C2 := [.blk b8 59 (exC Y2 v2), .blk b7 59 (exC Y1 v1), .blk b2 156 [pB bc], .blk b3 59 (exC X v)]) [2, 3, 0, 1, 4, 5] (by decide) rfl rfl oK rfl rfl (fun w1 hw1 => h1 w1 kv xs (by rw [← hA]; omega) hw1) fun kv1 => ?_
  rw [hA']
  repeat refine gs1 ?_
  refine RW.ownU (args := #[pB bc, .int .i64 kind, .int .i64 0, .int .i64 0]) (C2 := [.blk b8 59 (exC Y2 v2), .blk b7 59 (exC Y1 v1), .blk b2 156 [pB bc], .blk b3 59 (exC X v)]) [0, 1, 2, 3, 4, 5] (by decide) rfl rfl oK rfl rfl (fun w1 hw1 => emit_c w1 kind 0 0 (by omega) hw1) fun kv2 => ?_
  rw [← e2]
  repeat refine gs1 ?_
  refine RW.ownU (args := #[pB bc, .agg (exC Y2 v2).toArray]) (C2 := [.blk b8 59 (exC Y2 v2), .blk b7 59 (exC Y1 v1), .blk b2 156 [pB bc], .blk b3 59 (exC X v)]) [0, 1, 2, 3, 4, 5] (by decide) rfl rfl oK rfl rfl (fun w1 hw1 => h2 w1 kv2 L2 (by rw [n2, ← hB]; omega) hw1) fun kv3 => ?_
  rw [hB']
  repeat refine gs1 ?_
  refine RW.ownU (args := #[pB bc, .int .i64 12, .int .i64 0, .int .i64 0]) (C2 := [.blk b8 59 (exC Y2 v2), .blk b7 59 (exC Y1 v1), .blk b2 156 [pB bc], .blk b3 59 (exC X v)]) [0, 1, 2, 3, 4, 5] (by decide) rfl rfl oK rfl rfl (fun w1 hw1 => emit_c w1 12 0 0 (by omega) hw1) fun kv4 => ?_
  rw [← e4]
  repeat refine gs1 ?_
  refine RW.ownU (args := #[pB bc, .int .i64 ((L1.length : Nat) : Int)]) (C2 := [.blk b8 59 (exC Y2 v2), .blk b7 59 (exC Y1 v1), .blk b2 156 [pB bc], .blk b3 59 (exC X v)]) [0, 1, 2, 3, 4, 5] (by decide) rfl rfl oK rfl rfl (fun w1 hw1 => land_c w1 (P := L1) (o := ⟨kind, 0, 0⟩) (Q := B ++ [⟨12, 0, 0⟩]) (by rw [e4, e3, e2]; simp) rfl (by omega) hw1) fun _ => ?_
  rw [← e5]
  repeat refine gs1 ?_
  refine RW.ownU (args := capt) (C2 := [.blk b8 59 (exC Y2 v2), .blk b7 59 (exC Y1 v1)]) [0, 1, 4, 5, 2, 3] (by decide) rfl rfl hk rfl (by simp) (fun w1 hw1 => hO w1 kv4 L5 (by rw [n5, ← hC]; omega) hw1) fun kv5 => ?_
  rw [hC']
  repeat refine gs1 ?_
  refine RW.ownU (args := #[pB bc, .int .i64 ((L3.length : Nat) : Int)]) (C2 := [.blk b2 156 [pB bc], .blk b3 59 (exC X v), .blk b8 59 (exC Y2 v2), .blk b7 59 (exC Y1 v1)]) [0, 1, 2, 3, 4, 5] (by decide) rfl rfl oK rfl rfl (fun w1 hw1 => land_c w1 (P := L1 ++ ⟨kind, ((L4.length : Nat) : Int), 0⟩ :: B) (o := ⟨12, 0, 0⟩) (Q := C) (by rw [e6, e5]; simp) (by rw [n3]; simp [n1]; omega) (by omega) hw1) fun _ => ?_
  rw [hfin]
  repeat refine gs1 ?_
  exact fin_none (J' := St ⟨w, Φ, fps (czK bc kv xs b2 b3 X v)⟩ Φ (czK bc kv5 (xs ++ Vm.chC kind xs.length A B C) b2 b3 X v)) rfl rfl (fun w2 h => StP.sel h [0, 1, 2, 3] (by decide) rfl) (fun w1 hw1 => ⟨kv5, rfl, hw1⟩)
end
end Go.Proofs.YtjmeeofdffdpnaaGreatDoor
namespace Vm
open Bt
instance : Inhabited Op := ⟨⟨0, 0, 0⟩⟩
def part (r : Rule) (ops : List Op) (lo hi : Nat) : Prop := lo < hi ∧ hi ≤ ops.length ∧ ∀ i, lo ≤ i → i < hi → okO r hi i (ops.getD i default)
def begs {α : Type} (f : Nat → α → List Op) : Nat → List α → List Nat
  | _, [] => []
  | p, x :: xs => p :: begs f (p + (f p x).length) xs
theorem seqC_begs {α : Type} {f : Nat → α → List Op} : ∀ (xs : List α) (p : Nat), (seqC f p xs).1 = (begs f p xs).map fun (n : Nat) => (n : Int)
  | [], _ => rfl
  | x :: xs, p => by simp only [seqC, begs, List.map_cons, seqC_begs xs]
theorem begs_len {α : Type} {f : Nat → α → List Op} : ∀ (xs : List α) (p : Nat), (begs f p xs).length = xs.length
  | [], _ => rfl
  | x :: xs, p => by simp [begs, begs_len xs]
theorem cF_pos (p : Nat) (f : RFunc) : 0 < (cF p f).length := by simp [cF]
def parts (r : Rule) : List Nat := begs cC 0 r.Clauses ++ ((seqC cC 0 r.Clauses).2.length :: (begs cF ((seqC cC 0 r.Clauses).2.length + 1) r.Funcs ++ [(compile r).Ops.length]))
theorem soP_iff {r : Rule} (h : soP r = true) : (∀ f ∈ r.Funcs, soE r f.Params.length 1 f.Body = true) ∧ ∀ c ∈ r.Clauses, soE r 0 1 c.If = true ∧ soE r 0 1 c.To = true := by
  unfold soP at h
  rw [Bool.and_eq_true, List.all_eq_true, List.all_eq_true] at h
  exact ⟨h.1, fun c hc => by have := h.2 c hc; rwa [Bool.and_eq_true] at this⟩
theorem compile_ops {r : Rule} (h : soP r = true) : (compile r).Ops = (seqC cC 0 r.Clauses).2 ++ (⟨19, 0, 0⟩ :: (seqC cF ((seqC cC 0 r.Clauses).2.length + 1) r.Funcs).2) := by unfold compile; rw [if_pos h]
end Vm
namespace Vm
open Bt
theorem two {α : Type} {l : List α} {d : α} (h : l.length = 2) : l = [l.getD 0 d, l.getD 1 d] := match l, h with
  | [_, _], _ => rfl
theorem three {α : Type} {l : List α} {d : α} (h : l.length = 3) : l = [l.getD 0 d, l.getD 1 d, l.getD 2 d] := match l, h with
  | [_, _, _], _ => rfl
theorem cE_2 (x : Expr) (p : Nat) (hl : x.Kids.length = 2) (hk : x.Kind = 11 ∨ x.Kind = 12) : cE p x = chC (if x.Kind = 11 then 13 else 14) p (cE p (x.Kids.getD 0 default)) (cE (p + (cE p (x.Kids.getD 0 default)).length + 1) (x.Kids.getD 1 default)) [⟨0, if x.Kind = 11 then 0 else 1, 0⟩] := by
  obtain ⟨k, n, a, b, ks⟩ := x
  simp only at hl hk ⊢
  rw [two (d := default) hl]
  rcases hk with rfl | rfl <;> (rw [cE]; simp [cG])
theorem cE_3 (x : Expr) (p : Nat) (hl : x.Kids.length = 3) (hk : x.Kind = 13) : cE p x = chC 13 p (cE p (x.Kids.getD 0 default)) (cE (p + (cE p (x.Kids.getD 0 default)).length + 1) (x.Kids.getD 1 default)) (cE (p + (cE p (x.Kids.getD 0 default)).length + 1 + (cE (p + (cE p (x.Kids.getD 0 default)).length + 1) (x.Kids.getD 1 default)).length + 1) (x.Kids.getD 2 default)) := by
  obtain ⟨k, n, a, b, ks⟩ := x
  simp only at hl hk ⊢
  rw [three (d := default) hl]
  subst hk
  rw [cE]; simp [cG]
theorem cE_df (x : Expr) (p : Nat) (h : x.Kind ≠ 0 ∧ x.Kind ≠ 15 ∧ x.Kind ≠ 1 ∧ x.Kind ≠ 11 ∧ x.Kind ≠ 12 ∧ x.Kind ≠ 13) : cE p x = (cG 0 p x.Kids).flatten ++ [if x.Kind = 14 then ⟨15, x.N, (x.Kids.length : Int)⟩ else ⟨opOf x.Kind, 0, 0⟩] := by
  obtain ⟨k, n, a, b, ks⟩ := x
  rw [cE, if_neg h.1, if_neg h.2.1, if_neg h.2.2.1, if_neg h.2.2.2.1, if_neg h.2.2.2.2.1, if_neg h.2.2.2.2.2]
theorem cE_leaf (x : Expr) (p : Nat) : (x.Kind = 0 → cE p x = [⟨0, x.N, 0⟩]) ∧ (x.Kind = 15 → cE p x = [⟨1, x.N, 0⟩]) ∧ (x.Kind = 1 → cE p x = [⟨2, x.N, 1024 * x.Of + x.Of2⟩]) := by
  obtain ⟨k, n, a, b, ks⟩ := x
  refine ⟨fun h => ?_, fun h => ?_, fun h => ?_⟩ <;> (simp only at h; subst h; rw [cE]; rfl)
end Vm
namespace Go.Proofs.YtjmeeofdffdpnaaGreatDoor
open Go Go.K Go.RowKit
open Ru (pB)
attribute [local irreducible] AW RW DW Post Qt
def ExN (r : Bt.Rule) (n : Nat) : Prop := ∀ (Φ : Hp) (bc : Nat) (X : Bt.Expr) (v : Value) (ps d : Nat), n + d = 41 → Vm.soE r ps d X = true → wfE X → RepSl Φ X.Kids v → ExAt Φ bc X v
theorem xexpr_of {r : Bt.Rule} {n : Nat} (ih : ∀ m, n = m + 1 → ExN r m) : ExN r n := by
  intro Φ bc X v ps d hnd hso hX hv w kv xs hb h0
  obtain ⟨vA, vc, rfl, _⟩ := hv.sl
  have hvs := hv.sl
  have hxb : X.Kids.length * 56 ≤ maxSl := hv.max
  simp only [maxSl] at hxb
  rw [Vm.soE_eq] at hso
  simp only [Bool.and_eq_true, decide_eq_true_eq] at hso
  obtain ⟨⟨⟨⟨hd40, hkr⟩, hok⟩, har⟩, hall⟩ := hso
  obtain ⟨m, rfl⟩ : ∃ m, n = m + 1 := ⟨n - 1, by omega⟩
  have ih := ih m rfl
  have hkid : ∀ {i : Nat} {A : Option Addr} {c : Nat}, i < X.Kids.length → RepSl Φ (X.Kids.getD i default).Kids (.slice A (X.Kids.getD i default).Kids.length c) → wfE (X.Kids.getD i default) → ExAt Φ bc (X.Kids.getD i default) (.slice A (X.Kids.getD i default).Kids.length c) := fun {i A c} hi hr hw => ih Φ bc _ _ ps (d + 1) (by omega) (List.all_eq_true.1 hall _ (by rw [gDD, List.getElem?_eq_getElem hi]; exact List.getElem_mem hi)) hw hr
  obtain ⟨hl0, hl15, hl1⟩ := Vm.cE_leaf X xs.length
  refine calls_of_AW (args := [pB bc, .agg (exC X (.slice vA X.Kids.length vc)).toArray]) Tryz.func28 rfl (lBT rfl) (St ⟨w, Φ, fps (coK bc kv xs)⟩ Φ (coK bc kv xs)) h0 ?_
  show AW _ _ [] _ _ _ [(0, pB bc), (1, .agg (exC X (.slice vA X.Kids.length vc)).toArray)] _
  repeat refine gs1 ?_
  refine RW.eff (fun b : Nat => pB b) (fun b => St ⟨w, Φ, fps (coK bc kv xs)⟩ Φ (.blk b 156 [pB bc] :: coK bc kv xs)) rfl (e_box (v := pB bc) rfl) fun b2 => ?_
  refine RW.bxA (cs := exC X (.slice vA X.Kids.length vc)) rfl rfl fun b3 => ?_
  repeat refine gs1 ?_
  refine AW.cond rfl (fun k => ?_) fun k0 => ?_
  · have k : X.Kind = 0 := odT k
    rw [hl0 k]
    rw [hl0 k] at hb
    simp only [List.length_singleton] at hb
    repeat refine gs1 ?_
    refine RW.ownU (args := #[pB bc, .int .i64 0, .int .i64 X.N, .int .i64 0]) (C2 := [.blk b3 59 (exC X (.slice vA X.Kids.length vc)), .blk b2 156 [pB bc]]) [2, 3, 0, 1] (by decide) rfl rfl oK rfl rfl (fun w1 hw1 => emit_c w1 0 X.N 0 (by omega) hw1) fun kv' => ?_
    repeat refine gs1 ?_
    exact fin_none (J' := St ⟨w, Φ, fps (coK bc kv xs)⟩ Φ (coK bc kv' (xs ++ ([⟨0, X.N, 0⟩] : List Vm.Op)))) rfl rfl (fun _ h => StP.sel h [0, 1] (by decide) rfl) (fun w1 hw1 => ⟨kv', rfl, hw1⟩)
  have k0 : X.Kind ≠ 0 := odF k0
  repeat refine gs1 ?_
  refine AW.cond rfl (fun k => ?_) fun k15 => ?_
  · have k : X.Kind = 15 := odT k
    rw [hl15 k]
    rw [hl15 k] at hb
    simp only [List.length_singleton] at hb
    repeat refine gs1 ?_
    refine RW.ownU (args := #[pB bc, .int .i64 1, .int .i64 X.N, .int .i64 0]) (C2 := [.blk b3 59 (exC X (.slice vA X.Kids.length vc)), .blk b2 156 [pB bc]]) [2, 3, 0, 1] (by decide) rfl rfl oK rfl rfl (fun w1 hw1 => emit_c w1 1 X.N 0 (by omega) hw1) fun kv' => ?_
    repeat refine gs1 ?_
    exact fin_none (J' := St ⟨w, Φ, fps (coK bc kv xs)⟩ Φ (coK bc kv' (xs ++ ([⟨1, X.N, 0⟩] : List Vm.Op)))) rfl rfl (fun _ h => StP.sel h [0, 1] (by decide) rfl) (fun w1 hw1 => ⟨kv', rfl, hw1⟩)
  have k15 : X.Kind ≠ 15 := odF k15
  repeat refine gs1 ?_
  refine AW.cond rfl (fun k => ?_) fun k1 => ?_
  · have k : X.Kind = 1 := odT k
    rw [hl1 k]
    rw [hl1 k] at hb
    simp only [List.length_singleton] at hb
    repeat refine gs1 ?_
    have hfx : 0 ≤ X.Of ∧ X.Of < 1024 ∧ 0 ≤ X.Of2 ∧ X.Of2 < 1024 := by have := hok; unfold Vm.okK at this; rw [if_neg k15, if_pos k] at this; have := odT this; omega
    refine RW.q (v := .int .i64 (1024 * X.Of)) rfl (q_mul rfl rfl rfl (by unfold I64; omega)) ?_
    repeat refine gs1 ?_
    refine RW.ownU (args := #[pB bc, .int .i64 2, .int .i64 X.N, .int .i64 (1024 * X.Of + X.Of2)]) (C2 := [.blk b3 59 (exC X (.slice vA X.Kids.length vc)), .blk b2 156 [pB bc]]) [2, 3, 0, 1] (by decide) rfl rfl oK rfl rfl (fun w1 hw1 => emit_c w1 2 X.N (1024 * X.Of + X.Of2) (by omega) hw1) fun kv' => ?_
    repeat refine gs1 ?_
    exact fin_none (J' := St ⟨w, Φ, fps (coK bc kv xs)⟩ Φ (coK bc kv' (xs ++ ([⟨2, X.N, (1024 * X.Of + X.Of2)⟩] : List Vm.Op)))) rfl rfl (fun _ h => StP.sel h [0, 1] (by decide) rfl) (fun w1 hw1 => ⟨kv', rfl, hw1⟩)
  have k1 : X.Kind ≠ 1 := odF k1
  repeat refine gs1 ?_
  refine AW.cond rfl (fun k => ?_) fun k11 => ?_
  · have k : X.Kind = 11 := odT k
    have hl : X.Kids.length = 2 := by rw [har]; unfold Vm.arK; rw [if_neg (by omega), if_neg (by omega), if_neg (by omega), if_neg (by omega)]
    obtain ⟨A0, c0, hp0, hr0, hw0⟩ := kidW hv (i := 0) (by omega)
    obtain ⟨A1, c1, hp1, hr1, hw1⟩ := kidW hv (i := 1) (by omega)
    have hi0 : 0 < X.Kids.length := by omega
    have hi1 : 1 < X.Kids.length := by omega
    obtain ⟨A, hA⟩ : ∃ A, A = Vm.cE xs.length (X.Kids.getD 0 default) := ⟨_, rfl⟩
    obtain ⟨B, hB⟩ : ∃ B, B = Vm.cE (xs.length + A.length + 1) (X.Kids.getD 1 default) := ⟨_, rfl⟩
    have he : Vm.cE xs.length X = Vm.chC 13 xs.length A B ([⟨0, 0, 0⟩]) := by subst hB; subst hA; exact (Vm.cE_2 X xs.length hl (.inl k)).trans (by rw [k]; rfl)
    rw [he] at hb ⊢
    have hBK : ∀ w1, (St ⟨w, Φ, fps (coK bc kv xs)⟩ Φ [.blk b3 59 (exC X (.slice vA X.Kids.length vc)), .blk b2 156 [pB bc], .blk bc 78 [kv], .row kv 56 3 xs.length (xs.flatMap opC)]).p w1 → (St ⟨w, Φ, fps (coK bc kv xs)⟩ Φ [.blk b3 59 (exC X (.slice vA X.Kids.length vc)), .blk b2 156 [pB bc]]).p w1 := fun _ h => StP.sel h [0, 1] (by decide) rfl
    repeat refine gs1 ?_
    refine AW.drawZ (J0 := St ⟨w, Φ, fps (coK bc kv xs)⟩ Φ [.blk b3 59 (exC X (.slice vA X.Kids.length vc)), .blk b2 156 [pB bc]]) [.q, .q, .q, .q, .q, .q, .q, .q, .q, .q, .e] [0, 1, 2, 3, 4, 5, 6, 7, 8, 9, 10] hmix (by kernel_rfl) ?_
    refine DW.q hBK rfl (qa_ld rfl (Cell.blk 1 rfl rfl)) ?_
    refine DW.q hBK rfl (qa_fa0 rfl) ?_
    refine DW.q hBK rfl (qa_ld rfl (Cell.blk 0 rfl rfl)) ?_
    refine DW.q (v := .pointer (some (Value.at (.slice vA X.Kids.length vc) (0 * 5)))) hBK rfl (qa_ixL (n := X.Kids.length) (i := 0) rfl rfl hvs hi0) ?_
    refine DW.q (v := .agg (exC (X.Kids.getD 0 default) (.slice A0 (X.Kids.getD 0 default).Kids.length c0)).toArray) hBK rfl (qa_ldA rfl (fun j u hj => Cell.phi (hp0 j u hj)) rfl) ?_
    refine DW.q hBK rfl (qa_fa0 rfl) ?_
    refine DW.q hBK rfl (qa_ld rfl (Cell.blk 0 rfl rfl)) ?_
    refine DW.q (v := .pointer (some (Value.at (.slice vA X.Kids.length vc) (1 * 5)))) hBK rfl (qa_ixL (n := X.Kids.length) (i := 1) rfl rfl hvs hi1) ?_
    refine DW.q (v := .agg (exC (X.Kids.getD 1 default) (.slice A1 (X.Kids.getD 1 default).Kids.length c1)).toArray) hBK rfl (qa_ldA rfl (fun j u hj => Cell.phi (hp1 j u hj)) rfl) ?_
    refine DW.q (v := .func (.func 68) #[] #[pB b2]) hBK rfl (q_makeFunc (fs := []) (cs := [pB b2]) rfl rfl) ?_
    refine DW.ownU (args := #[pB bc, .int .i64 13, .agg (exC (X.Kids.getD 0 default) (.slice A0 (X.Kids.getD 0 default).Kids.length c0)).toArray, .agg (exC (X.Kids.getD 1 default) (.slice A1 (X.Kids.getD 1 default).Kids.length c1)).toArray, .func (.func 68) #[] #[pB b2]]) (C2 := []) [2, 3, 1, 0] (by decide) rfl rfl oK rfl rfl (fun w1 hz => choice_c 13 (hkid hi0 hr0 hw0) (hkid hi1 hr1 hw1) oK xclo1_c w1 kv xs A B _ hA hB rfl hb hz) (fun _ _ h => StP.sel h [3, 2] (by decide) rfl) fun kv' => ?_
    repeat refine gs1 ?_
    exact fin_none (J' := St ⟨w, Φ, fps (coK bc kv xs)⟩ Φ (coK bc kv' (xs ++ Vm.chC 13 xs.length A B ([⟨0, 0, 0⟩])))) rfl rfl (fun _ h => StP.sel h [0, 1] (by decide) rfl) (fun w1 hw1 => ⟨kv', rfl, hw1⟩)
  have k11 : X.Kind ≠ 11 := odF k11
  repeat refine gs1 ?_
  refine AW.cond rfl (fun k => ?_) fun k12 => ?_
  · have k : X.Kind = 12 := odT k
    have hl : X.Kids.length = 2 := by rw [har]; unfold Vm.arK; rw [if_neg (by omega), if_neg (by omega), if_neg (by omega), if_neg (by omega)]
    obtain ⟨A0, c0, hp0, hr0, hw0⟩ := kidW hv (i := 0) (by omega)
    obtain ⟨A1, c1, hp1, hr1, hw1⟩ := kidW hv (i := 1) (by omega)
    have hi0 : 0 < X.Kids.length := by omega
    have hi1 : 1 < X.Kids.length := by omega
    obtain ⟨A, hA⟩ : ∃ A, A = Vm.cE xs.length (X.Kids.getD 0 default) := ⟨_, rfl⟩
    obtain ⟨B, hB⟩ : ∃ B, B = Vm.cE (xs.length + A.length + 1) (X.Kids.getD 1 default) := ⟨_, rfl⟩
    have he : Vm.cE xs.length X = Vm.chC 14 xs.length A B ([⟨0, 1, 0⟩]) := by subst hB; subst hA; exact (Vm.cE_2 X xs.length hl (.inr k)).trans (by rw [k]; rfl)
    rw [he] at hb ⊢
    have hBK : ∀ w1, (St ⟨w, Φ, fps (coK bc kv xs)⟩ Φ [.blk b3 59 (exC X (.slice vA X.Kids.length vc)), .blk b2 156 [pB bc], .blk bc 78 [kv], .row kv 56 3 xs.length (xs.flatMap opC)]).p w1 → (St ⟨w, Φ, fps (coK bc kv xs)⟩ Φ [.blk b3 59 (exC X (.slice vA X.Kids.length vc)), .blk b2 156 [pB bc]]).p w1 := fun _ h => StP.sel h [0, 1] (by decide) rfl
    repeat refine gs1 ?_
    refine AW.drawZ (J0 := St ⟨w, Φ, fps (coK bc kv xs)⟩ Φ [.blk b3 59 (exC X (.slice vA X.Kids.length vc)), .blk b2 156 [pB bc]]) [.q, .q, .q, .q, .q, .q, .q, .q, .q, .q, .e] [0, 1, 2, 3, 4, 5, 6, 7, 8, 9, 10] hmix (by kernel_rfl) ?_
    refine DW.q hBK rfl (qa_ld rfl (Cell.blk 1 rfl rfl)) ?_
    refine DW.q hBK rfl (qa_fa0 rfl) ?_
    refine DW.q hBK rfl (qa_ld rfl (Cell.blk 0 rfl rfl)) ?_
    refine DW.q (v := .pointer (some (Value.at (.slice vA X.Kids.length vc) (0 * 5)))) hBK rfl (qa_ixL (n := X.Kids.length) (i := 0) rfl rfl hvs hi0) ?_
    refine DW.q (v := .agg (exC (X.Kids.getD 0 default) (.slice A0 (X.Kids.getD 0 default).Kids.length c0)).toArray) hBK rfl (qa_ldA rfl (fun j u hj => Cell.phi (hp0 j u hj)) rfl) ?_
    refine DW.q hBK rfl (qa_fa0 rfl) ?_
    refine DW.q hBK rfl (qa_ld rfl (Cell.blk 0 rfl rfl)) ?_
    refine DW.q (v := .pointer (some (Value.at (.slice vA X.Kids.length vc) (1 * 5)))) hBK rfl (qa_ixL (n := X.Kids.length) (i := 1) rfl rfl hvs hi1) ?_
    refine DW.q (v := .agg (exC (X.Kids.getD 1 default) (.slice A1 (X.Kids.getD 1 default).Kids.length c1)).toArray) hBK rfl (qa_ldA rfl (fun j u hj => Cell.phi (hp1 j u hj)) rfl) ?_
    refine DW.q (v := .func (.func 69) #[] #[pB b2]) hBK rfl (q_makeFunc (fs := []) (cs := [pB b2]) rfl rfl) ?_
    refine DW.ownU (args := #[pB bc, .int .i64 14, .agg (exC (X.Kids.getD 0 default) (.slice A0 (X.Kids.getD 0 default).Kids.length c0)).toArray, .agg (exC (X.Kids.getD 1 default) (.slice A1 (X.Kids.getD 1 default).Kids.length c1)).toArray, .func (.func 69) #[] #[pB b2]]) (C2 := []) [2, 3, 1, 0] (by decide) rfl rfl oK rfl rfl (fun w1 hz => choice_c 14 (hkid hi0 hr0 hw0) (hkid hi1 hr1 hw1) oK xclo2_c w1 kv xs A B _ hA hB rfl hb hz) (fun _ _ h => StP.sel h [3, 2] (by decide) rfl) fun kv' => ?_
    repeat refine gs1 ?_
    exact fin_none (J' := St ⟨w, Φ, fps (coK bc kv xs)⟩ Φ (coK bc kv' (xs ++ Vm.chC 14 xs.length A B ([⟨0, 1, 0⟩])))) rfl rfl (fun _ h => StP.sel h [0, 1] (by decide) rfl) (fun w1 hw1 => ⟨kv', rfl, hw1⟩)
  have k12 : X.Kind ≠ 12 := odF k12
  repeat refine gs1 ?_
  refine AW.cond rfl (fun k => ?_) fun k13 => ?_
  · have k : X.Kind = 13 := odT k
    have hl : X.Kids.length = 3 := by rw [har]; unfold Vm.arK; rw [if_neg (by omega), if_neg (by omega), if_pos k]
    obtain ⟨A0, c0, hp0, hr0, hw0⟩ := kidW hv (i := 0) (by omega)
    obtain ⟨A1, c1, hp1, hr1, hw1⟩ := kidW hv (i := 1) (by omega)
    obtain ⟨A2, c2, hp2, hr2, hw2⟩ := kidW hv (i := 2) (by omega)
    have hi2 : 2 < X.Kids.length := by omega
    have hi0 : 0 < X.Kids.length := by omega
    have hi1 : 1 < X.Kids.length := by omega
    obtain ⟨A, hA⟩ : ∃ A, A = Vm.cE xs.length (X.Kids.getD 0 default) := ⟨_, rfl⟩
    obtain ⟨B, hB⟩ : ∃ B, B = Vm.cE (xs.length + A.length + 1) (X.Kids.getD 1 default) := ⟨_, rfl⟩
    have he : Vm.cE xs.length X = Vm.chC 13 xs.length A B (Vm.cE (xs.length + A.length + 1 + B.length + 1) (X.Kids.getD 2 default)) := by subst hB; subst hA; exact Vm.cE_3 X xs.length hl k
    rw [he] at hb ⊢
    have hBK : ∀ w1, (St ⟨w, Φ, fps (coK bc kv xs)⟩ Φ [.blk b3 59 (exC X (.slice vA X.Kids.length vc)), .blk b2 156 [pB bc], .blk bc 78 [kv], .row kv 56 3 xs.length (xs.flatMap opC)]).p w1 → (St ⟨w, Φ, fps (coK bc kv xs)⟩ Φ [.blk b3 59 (exC X (.slice vA X.Kids.length vc)), .blk b2 156 [pB bc]]).p w1 := fun _ h => StP.sel h [0, 1] (by decide) rfl
    repeat refine gs1 ?_
    refine AW.drawZ (J0 := St ⟨w, Φ, fps (coK bc kv xs)⟩ Φ [.blk b3 59 (exC X (.slice vA X.Kids.length vc)), .blk b2 156 [pB bc]]) [.q, .q, .q, .q, .q, .q, .q, .q, .q, .q, .e] [0, 1, 2, 3, 4, 5, 6, 7, 8, 9, 10] hmix (by kernel_rfl) ?_
    refine DW.q hBK rfl (qa_ld rfl (Cell.blk 1 rfl rfl)) ?_
    refine DW.q hBK rfl (qa_fa0 rfl) ?_
    refine DW.q hBK rfl (qa_ld rfl (Cell.blk 0 rfl rfl)) ?_
    refine DW.q (v := .pointer (some (Value.at (.slice vA X.Kids.length vc) (0 * 5)))) hBK rfl (qa_ixL (n := X.Kids.length) (i := 0) rfl rfl hvs hi0) ?_
    refine DW.q (v := .agg (exC (X.Kids.getD 0 default) (.slice A0 (X.Kids.getD 0 default).Kids.length c0)).toArray) hBK rfl (qa_ldA rfl (fun j u hj => Cell.phi (hp0 j u hj)) rfl) ?_
    refine DW.q hBK rfl (qa_fa0 rfl) ?_
    refine DW.q hBK rfl (qa_ld rfl (Cell.blk 0 rfl rfl)) ?_
    refine DW.q (v := .pointer (some (Value.at (.slice vA X.Kids.length vc) (1 * 5)))) hBK rfl (qa_ixL (n := X.Kids.length) (i := 1) rfl rfl hvs hi1) ?_
    refine DW.q (v := .agg (exC (X.Kids.getD 1 default) (.slice A1 (X.Kids.getD 1 default).Kids.length c1)).toArray) hBK rfl (qa_ldA rfl (fun j u hj => Cell.phi (hp1 j u hj)) rfl) ?_
    refine DW.q (v := .func (.func 70) #[] #[pB b2, pB b3]) hBK rfl (q_makeFunc (fs := []) (cs := [pB b2, pB b3]) rfl rfl) ?_
    refine DW.ownU (args := #[pB bc, .int .i64 13, .agg (exC (X.Kids.getD 0 default) (.slice A0 (X.Kids.getD 0 default).Kids.length c0)).toArray, .agg (exC (X.Kids.getD 1 default) (.slice A1 (X.Kids.getD 1 default).Kids.length c1)).toArray, .func (.func 70) #[] #[pB b2, pB b3]]) (C2 := []) [2, 3, 1, 0] (by decide) rfl rfl oK rfl rfl (fun w1 hz => choice_c 13 (hkid hi0 hr0 hw0) (hkid hi1 hr1 hw1) oK (xclo3_c rfl hi2 hvs hp2 (hkid hi2 hr2 hw2)) w1 kv xs A B _ hA hB rfl hb hz) (fun _ _ h => StP.sel h [3, 2] (by decide) rfl) fun kv' => ?_
    repeat refine gs1 ?_
    exact fin_none (J' := St ⟨w, Φ, fps (coK bc kv xs)⟩ Φ (coK bc kv' (xs ++ Vm.chC 13 xs.length A B (Vm.cE (xs.length + A.length + 1 + B.length + 1) (X.Kids.getD 2 default))))) rfl rfl (fun _ h => StP.sel h [0, 1] (by decide) rfl) (fun w1 hw1 => ⟨kv', rfl, hw1⟩)
  have k13 : X.Kind ≠ 13 := odF k13
  repeat refine gs1 ?_
  have hdf := Vm.cE_df X xs.length ⟨k0, k15, k1, k11, k12, k13⟩
  obtain ⟨K, hK⟩ : ∃ K, K = (Vm.cG 0 xs.length X.Kids).flatten := ⟨_, rfl⟩
  rw [hdf, ← hK] at hb ⊢
  rw [List.length_append, List.length_singleton] at hb
  have hpre : ∀ i, (Vm.cG 0 xs.length (X.Kids.take i)).flatten.length ≤ K.length := fun i => by rw [hK]; exact Vm.cG_pre X.Kids xs.length i
  refine AW.loop (fun s J q => ∃ (i : Nat) (kv' : Value), s = [(2, pB b2), (3, pB b3), (9, .slice vA X.Kids.length vc), (10, .int .i64 ((X.Kids.length : Nat) : Int)), (11, .int .i64 (i : Int))] ∧ J = St ⟨w, Φ, fps (coK bc kv xs)⟩ Φ [.blk b3 59 (exC X (.slice vA X.Kids.length vc)), .blk b2 156 [pB bc], .blk bc 78 [kv'], .row kv' 56 3 (xs ++ (Vm.cG 0 xs.length (X.Kids.take i)).flatten).length ((xs ++ (Vm.cG 0 xs.length (X.Kids.take i)).flatten).flatMap opC)] ∧ q = X.Kids.length - i ∧ i ≤ X.Kids.length) (s0 := _) (J1 := St ⟨w, Φ, fps (coK bc kv xs)⟩ Φ [.blk b3 59 (exC X (.slice vA X.Kids.length vc)), .blk b2 156 [pB bc], .blk bc 78 [kv], .row kv 56 3 (xs ++ []).length ((xs ++ []).flatMap opC)]) (m0 := _) ⟨0, kv, rfl, by rw [List.take_zero, Vm.cG]; rfl, rfl, Nat.zero_le _⟩ ⟨rfl, rfl, rfl, rfl, rfl, trivial⟩ (fun _ h => by rw [List.append_nil]; exact h) ?_
  rintro _ _ _ _ ⟨i, kv', rfl, rfl, rfl, hi⟩
  obtain ⟨Y, hY⟩ : ∃ Y, Y = xs ++ (Vm.cG 0 xs.length (X.Kids.take i)).flatten := ⟨_, rfl⟩
  have hYl : Y.length = xs.length + (Vm.cG 0 xs.length (X.Kids.take i)).flatten.length := by rw [hY, List.length_append]
  rw [← hY]
  repeat refine gs1 ?_
  refine AW.cond rfl (fun h => ?_) fun h => ?_
  · have h : i < X.Kids.length := by have := odT h; omega
    obtain ⟨Aa, ca, hpa, hra, hwa⟩ := kidW hv (i := i) h
    have hget : X.Kids.getD i default = X.Kids[i] := by rw [gDD, List.getElem?_eq_getElem h]; rfl
    have htk : X.Kids.take (i + 1) = X.Kids.take i ++ [X.Kids.getD i default] := by rw [Ru.take_snoc h, hget]
    have hY2 : Y ++ Vm.cE Y.length (X.Kids.getD i default) = xs ++ (Vm.cG 0 xs.length (X.Kids.take (i + 1))).flatten := by rw [htk, Vm.cG_app, Vm.cG_one, ← hYl, hY, List.append_assoc]
    have hle : Y.length + (Vm.cE Y.length (X.Kids.getD i default)).length ≤ 1000000000 := by
      have h5 := hpre (i + 1)
      have h6 := congrArg List.length hY2
      rw [List.length_append, List.length_append] at h6
      omega
    repeat refine gs1 ?_
    refine RW.alc rfl fun b9 => ?_
    repeat refine gs1 ?_
    refine RW.ownU (args := #[pB bc, .agg (exC (X.Kids.getD i default) (.slice Aa (X.Kids.getD i default).Kids.length ca)).toArray]) (C2 := [.blk b9 59 (exC (X.Kids.getD i default) (.slice Aa (X.Kids.getD i default).Kids.length ca)), .blk b3 59 (exC X (.slice vA X.Kids.length vc)), .blk b2 156 [pB bc]]) [3, 4, 0, 1, 2] (by decide) rfl rfl oK rfl rfl (fun w1 hw1 => hkid h hra hwa w1 kv' Y hle hw1) fun kv2 => ?_
    rw [hY2]
    repeat refine gs1 ?_
    exact Post.back (s' := _) (J' := _) (m' := _) (by omega) ⟨i + 1, kv2, rfl, rfl, rfl, by omega⟩ ⟨rfl, rfl, rfl, rfl, rfl, trivial⟩ (fun _ h => StP.sel h [3, 4, 0, 1] (by decide) rfl)
  have h : i = X.Kids.length := by have := odF h; omega
  subst h
  rw [List.take_length, ← hK] at hY hYl
  repeat refine gs1 ?_
  refine AW.cond rfl (fun k => ?_) fun k14 => ?_
  · have k : X.Kind = 14 := odT k
    rw [if_pos k]
    repeat refine gs1 ?_
    refine RW.ownU (args := #[pB bc, .int .i64 15, .int .i64 X.N, .int .i64 ((X.Kids.length : Nat) : Int)]) (C2 := [.blk b3 59 (exC X (.slice vA X.Kids.length vc)), .blk b2 156 [pB bc]]) [2, 3, 0, 1] (by decide) rfl rfl oK rfl rfl (fun w1 hw1 => emit_c w1 15 X.N ((X.Kids.length : Nat) : Int) (by omega) hw1) fun kv2 => ?_
    repeat refine gs1 ?_
    exact fin_none (J' := St ⟨w, Φ, fps (coK bc kv xs)⟩ Φ (coK bc kv2 (Y ++ [⟨15, X.N, ((X.Kids.length : Nat) : Int)⟩]))) rfl rfl (fun _ h => StP.sel h [0, 1] (by decide) rfl) (fun w1 hw1 => ⟨kv2, rfl, by show StP _ Φ (coK bc kv2 (xs ++ (K ++ [_]))) w1; rw [← List.append_assoc, ← hY]; exact hw1⟩)
  have k14 : X.Kind ≠ 14 := odF k14
  rw [if_neg k14]
  repeat refine gs1 ?_
  refine AW.drawZ (J0 := St ⟨w, Φ, fps (coK bc kv xs)⟩ Φ [.blk b3 59 (exC X (.slice vA X.Kids.length vc)), .blk b2 156 [pB bc]]) [.q, .q, .q, .q, .e] [0, 1, 2, 3, 4] hmix (by kernel_rfl) ?_
  have hBK : ∀ w1, (St ⟨w, Φ, fps (coK bc kv xs)⟩ Φ [.blk b3 59 (exC X (.slice vA X.Kids.length vc)), .blk b2 156 [pB bc], .blk bc 78 [kv'], .row kv' 56 3 Y.length (Y.flatMap opC)]).p w1 → (St ⟨w, Φ, fps (coK bc kv xs)⟩ Φ [.blk b3 59 (exC X (.slice vA X.Kids.length vc)), .blk b2 156 [pB bc]]).p w1 := fun _ h => StP.sel h [0, 1] (by decide) rfl
  refine DW.q hBK rfl (qa_ld rfl (Cell.blk 1 rfl rfl)) ?_
  refine DW.q hBK rfl (qa_fa0 rfl) ?_
  refine DW.q hBK rfl (qa_ld rfl (Cell.blk 0 rfl rfl)) ?_
  refine DW.q hBK rfl (q_call (args := #[.int .i64 X.Kind]) oK rfl rfl (fun w1 _ => operation_c w1 X.Kind)) ?_
  refine DW.ownU (args := #[pB bc, .int .i64 (Vm.opOf X.Kind), .int .i64 0, .int .i64 0]) (C2 := [.blk b3 59 (exC X (.slice vA X.Kids.length vc)), .blk b2 156 [pB bc]]) [2, 3, 0, 1] (by decide) rfl rfl oK rfl rfl (fun w1 hw1 => emit_c w1 (Vm.opOf X.Kind) 0 0 (by omega) hw1) (fun _ _ h => StP.sel h [2, 3] (by decide) rfl) fun kv2 => ?_
  repeat refine gs1 ?_
  exact fin_none (J' := St ⟨w, Φ, fps (coK bc kv xs)⟩ Φ (coK bc kv2 (Y ++ [⟨Vm.opOf X.Kind, 0, 0⟩]))) rfl rfl (fun _ h => StP.sel h [0, 1] (by decide) rfl) (fun w1 hw1 => ⟨kv2, rfl, by show StP _ Φ (coK bc kv2 (xs ++ (K ++ [_]))) w1; rw [← List.append_assoc, ← hY]; exact hw1⟩)
theorem xexpr_c {r : Bt.Rule} : ∀ n, ExN r n
  | 0 => xexpr_of fun m h => by omega
  | n + 1 => xexpr_of fun m h => by
    obtain rfl : n = m := by omega
    exact xexpr_c n
end Go.Proofs.YtjmeeofdffdpnaaGreatDoor
