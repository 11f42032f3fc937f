/- Lemmas. Conditions: those of each theorem. -/
import Derived.Test.YtjmeeofdffdpnaaGreatDoorMVmD
import Derived.Test.YtjmeeofdffdpnaaGreatDoorMMnH
set_option maxRecDepth 8000
set_option maxHeartbeats 16000000
namespace Go.Proofs.YtjmeeofdffdpnaaGreatDoor
open Go Go.K Go.RowKit
open Ru (pB)
attribute [local irreducible] AW RW DW Post Qt
instance : Rep Vm.Op where
  sz := 3
  bytes := 24
  rep := fun _ x cs => cs = opC x ∧ True
  len := fun h => by rw [h.1]; rfl
  mono := fun _ h => h
  one := fun h u hu => by
    rw [h.1] at hu
    simp only [List.mem_cons, List.not_mem_nil, or_false] at hu
    rcases hu with rfl | rfl | rfl <;> rfl
instance : RepE Vm.Op where
  cells := fun x => opC x
  wf := fun _ => True
  iff := Iff.rfl
theorem evenOp : EvenE Vm.Op := fun _ => rfl
theorem eqFO (a b c d e f : Int) (n : Nat) (w : World) : (Op.eqFields (n + 1) #[.int .i64 a, .int .i64 b, .int .i64 c] #[.int .i64 d, .int .i64 e, .int .i64 f] (pg.fieldsOf 56).toList).run pg w = .ok (decide (a = d) && (decide (b = e) && decide (c = f))) w := by
  unfold Program.fieldsOf
  rw [Tryz.underlying56]
  have hp : ∀ {cs : Array Value} {o : Nat} {v : Value} (h : cs[o]? = some v) (w : World), (part 3 cs o).run pg w = .ok v w := fun h w => run_part1 Tryz.underlying3 rfl h w
  have hq : ∀ (x y : Int) (w : World), (Op.equalIn (n + 1) 3 (.int .i64 x) (.int .i64 y)).run pg w = .ok (x == y) w := fun x y w => run_equalIn_int w n 3 .i64 .i64 x y Tryz.underlying3
  simp only [Op.eqFields, ne_eq, String.reduceEq, not_false_eq_true, if_true, Sem.run_bind, hp (show #[Value.int .i64 a, Value.int .i64 b, Value.int .i64 c][0]? = some (.int .i64 a) from rfl), hp (show #[Value.int .i64 d, Value.int .i64 e, Value.int .i64 f][0]? = some (.int .i64 d) from rfl), hp (show #[Value.int .i64 a, Value.int .i64 b, Value.int .i64 c][1]? = some (.int .i64 b) from rfl), hp (show #[Value.int .i64 d, Value.int .i64 e, Value.int .i64 f][1]? = some (.int .i64 e) from rfl), hp (show #[Value.int .i64 a, Value.int .i64 b, Value.int .i64 c][2]? = some (.int .i64 c) from rfl), hp (show #[Value.int .i64 d, Value.int .i64 e, Value.int .i64 f][2]? = some (.int .i64 f) from rfl), hq, Result.andThen_ok, Sem.run_ite, Sem.run_pure]
  by_cases h1 : a = d <;> by_cases h2 : b = e <;> by_cases h3 : c = f <;> simp [h1, h2, h3]
theorem eqSO (x y : Vm.Op) : ∀ w, (Op.equal 56 (.agg (opC x).toArray) (.agg (opC y).toArray)).run pg w = .ok (decide (x = y)) w := fun w => by
  have hT : pg.underlying 56 = some (.struct (pg.fieldsOf 56)) := by unfold Program.fieldsOf; rw [Tryz.underlying56]
  show (Op.equalIn (9998 + 1 + 1) 56 _ _).run pg w = _
  rw [run_equalIn_struct w (9998 + 1) 56 _ _ hT (by kernel_rfl)]
  have e : decide (x = y) = (decide (x.Kind = y.Kind) && (decide (x.A = y.A) && decide (x.B = y.B))) := by
    obtain ⟨a, b, c⟩ := x
    obtain ⟨d, e, f⟩ := y
    rw [Bool.eq_iff_iff]
    simp only [decide_eq_true_eq, Bool.and_eq_true, Vm.Op.mk.injEq]
  rw [e]
  exact eqFO _ _ _ _ _ _ 9998 w
theorem eqGO : Program.eqGuardType pg pg.depth 56 = false := by kernel_rfl
abbrev cdC (v1 v2 v3 : Value) : List Value := [v1, v2, v3]
theorem getD_eq {α : Type} {xs ys : List α} {d : α} (hl : xs.length = ys.length) (h : ∀ j, j < xs.length → xs.getD j d = ys.getD j d) : xs = ys := List.ext_getElem hl fun i h1 h2 => by
  have := h i h1
  rwa [gDD, gDD, List.getElem?_eq_getElem h1, List.getElem?_eq_getElem h2] at this
theorem eqOps_c (w : World) {xs ys : List Vm.Op} {v1 v2 : Value} (h1 : RepSl (hp w) xs v1) (h2 : RepSl (hp w) ys v2) :
    Calls pg 38 #[v1, v2] w fun e w' => e = .returned (.bool (decide (xs = ys))) ∧ Bel w.heap.size w w' := by
  obtain ⟨A1, c1, rfl, _⟩ := h1.sl
  obtain ⟨A2, c2, rfl, _⟩ := h2.sl
  have s1 := h1.sl
  have s2 := h2.sl
  have m1 := h1.max
  simp only [Rep.bytes, maxSl] at m1
  refine calls_of_AW (args := [.slice A1 xs.length c1, .slice A2 ys.length c2]) Tryz.func38 rfl (lBT rfl) (St ⟨w, hp w, []⟩ (hp w) []) (StP.init w (hp w) (Hp.le_refl _) []) ?_
  show AW _ _ [] _ _ _ [(0, .slice A1 xs.length c1), (1, .slice A2 ys.length c2)] _
  repeat refine gs1 ?_
  refine AW.cond rfl (fun h => ?_) fun h => ?_
  · have h : xs ≠ ys := fun he => by simp [he] at h
    repeat refine gs1 ?_
    exact fin_res (vs := [.bool false]) rfl rfl ⟨.tmp rfl, trivial⟩ rfl (fun w' hw => ⟨by rw [decide_eq_false h]; rfl, hw.below rfl⟩)
  have hlen : xs.length = ys.length := by simp at h; omega
  repeat refine gs1 ?_
  refine AW.loop (fun s J q => ∃ i : Nat, s = [(0, .slice A1 xs.length c1), (1, .slice A2 ys.length c2), (12, .int .i64 ((xs.length : Nat) : Int)), (13, .int .i64 (i : Int))] ∧ J = St ⟨w, hp w, []⟩ (hp w) [] ∧ q = xs.length - i ∧ i ≤ xs.length ∧ ∀ j, j < i → xs.getD j default = ys.getD j default) (s0 := _) (J1 := _) (m0 := _) ⟨0, rfl, rfl, rfl, Nat.zero_le _, fun j hj => by omega⟩ ⟨rfl, rfl, rfl, rfl, trivial⟩ (fun _ h => h) ?_
  rintro _ _ _ _ ⟨i, rfl, rfl, rfl, hi, hall⟩
  repeat refine gs1 ?_
  refine AW.cond rfl (fun h => ?_) fun h => ?_
  · have h : i < xs.length := by have := odT h; omega
    have hb : i < ys.length := by omega
    repeat refine gs1 ?_
    refine AW.drawZ (J0 := St ⟨w, hp w, []⟩ (hp w) []) [.q, .q, .q, .q, .q, .q, .q, .q, .q] [0, 1, 2, 3, 4, 5, 6, 7, 8] hmix (by kernel_rfl) ?_
    repeat refine gs1 ?_
    refine DW.q (v := .agg (opC (xs.getD i default)).toArray) (fun _ h => h) rfl (qa_ldA (cs := opC (xs.getD i default)) rfl (Cells.repE h1 h rfl) rfl) ?_
    repeat refine gs1 ?_
    refine DW.q (v := .agg (opC (ys.getD i default)).toArray) (fun _ h => h) rfl (qa_ldA (cs := opC (ys.getD i default)) rfl (Cells.repE h2 hb rfl) rfl) ?_
    refine DW.q (v := .bool (!decide (xs.getD i default = ys.getD i default))) (fun _ h => h) rfl (q_neqS rfl rfl (eqSO _ _) eqGO) ?_
    repeat refine gs1 ?_
    refine AW.cond rfl (fun hc => ?_) fun hc => ?_
    · have hc : xs ≠ ys := fun he => by simp [he] at hc
      repeat refine gs1 ?_
      exact fin_res (vs := [.bool false]) rfl rfl ⟨.tmp rfl, trivial⟩ rfl (fun w' hw => ⟨by rw [decide_eq_false hc]; rfl, hw.below rfl⟩)
    · have hc : xs.getD i default = ys.getD i default := by simpa using hc
      repeat refine gs1 ?_
      exact Post.back (s' := _) (J' := _) (m' := _) (by omega) ⟨i + 1, rfl, rfl, rfl, by omega, fun j hj => by
        by_cases hji : j = i
        · subst hji; exact hc
        · exact hall j (by omega)⟩ ⟨rfl, rfl, rfl, rfl, trivial⟩ (fun _ h => h)
  · have h : i = xs.length := by have := odF h; omega
    subst h
    repeat refine gs1 ?_
    exact fin_res (vs := [.bool true]) rfl rfl ⟨.tmp rfl, trivial⟩ rfl (fun w' hw => ⟨by rw [decide_eq_true (getD_eq hlen hall)]; rfl, hw.below rfl⟩)
theorem code_eq {a b : Vm.Code} : decide (a = b) = (decide (a.Ops = b.Ops) && decide (a.Funcs = b.Funcs) && decide (a.Starts = b.Starts)) := by
  obtain ⟨x, y, z⟩ := a
  obtain ⟨x2, y2, z2⟩ := b
  rw [Bool.eq_iff_iff]
  simp only [decide_eq_true_eq, Bool.and_eq_true, Vm.Code.mk.injEq, and_assoc]
end Go.Proofs.YtjmeeofdffdpnaaGreatDoor
namespace Vm
open Bt
theorem seqC_snoc {α : Type} {f : Nat → α → List Op} : ∀ (xs : List α) (x : α) (p : Nat), seqC f p (xs ++ [x]) = ((seqC f p xs).1 ++ [((p + (seqC f p xs).2.length : Nat) : Int)], (seqC f p xs).2 ++ f (p + (seqC f p xs).2.length) x)
  | [], x, p => by simp [seqC]
  | y :: ys, x, p => by
    have ih := seqC_snoc (f := f) ys x (p + (f p y).length)
    simp only [List.cons_append, seqC, ih, List.length_append, List.append_assoc, Nat.add_assoc]
theorem seqC_pre {α : Type} {f : Nat → α → List Op} : ∀ (xs : List α) (p i : Nat), (seqC f p (xs.take i)).2.length ≤ (seqC f p xs).2.length
  | [], _, i => by simp [seqC]
  | x :: xs, p, 0 => by simp [seqC]
  | x :: xs, p, i + 1 => by
    simp only [List.take_succ_cons, seqC, List.length_append]
    have := seqC_pre (f := f) xs (p + (f p x).length) i
    omega
theorem cC_list {L L1 L2 L3 L4 L5 L6 A B : List Op} {x : RClause} (h1 : L1 = L ++ [⟨17, x.Link, 0⟩]) (hA : A = cE L1.length x.If) (h2 : L2 = L1 ++ A) (h3 : L3 = L2 ++ [⟨13, 0, 0⟩]) (hB : B = cE L3.length x.To) (h4 : L4 = L3 ++ B) (h5 : L5 = L4 ++ [⟨18, x.Link, 0⟩]) (h6 : L6 = L ++ ⟨17, x.Link, ((L5.length : Nat) : Int)⟩ :: (A ++ ⟨13, 0, 0⟩ :: (B ++ [⟨18, x.Link, 0⟩]))) :
    L ++ ⟨17, x.Link, ((L5.length : Nat) : Int)⟩ :: A ++ ⟨13, ((L6.length : Nat) : Int), 0⟩ :: (B ++ [⟨18, x.Link, 0⟩]) = L ++ cC L.length x := by
  have n1 : L1.length = L.length + 1 := by rw [h1]; simp
  have n3 : L3.length = L.length + 1 + A.length + 1 := by rw [h3, h2]; simp [n1]; omega
  have n5 : L5.length = L.length + 1 + A.length + 1 + B.length + 1 := by rw [h5, h4]; simp [n3]; omega
  have n6 : L6.length = L.length + 1 + A.length + 1 + B.length + 1 := by rw [h6]; simp; omega
  rw [n1] at hA
  rw [n3] at hB
  unfold cC
  simp only
  rw [← hA, ← hB, n5, n6]
  simp
theorem seqC_flen {α : Type} {f : Nat → α → List Op} (xs : List α) (p : Nat) : (seqC f p xs).1.length = xs.length := by rw [seqC_begs, List.length_map, begs_len]
def cops (r : Rule) : List Op := (seqC cC 0 r.Clauses).2 ++ (⟨19, 0, 0⟩ :: (seqC cF ((seqC cC 0 r.Clauses).2.length + 1) r.Funcs).2)
end Vm
namespace Go.Proofs.YtjmeeofdffdpnaaGreatDoor
open Go Go.K Go.RowKit
open Ru (pB)
theorem RW.know {P : Program} {N : Nat} {D : List Deferred} {ops : Array Oper} {Q : Exit → Act → World → Prop} {f : Nat → Value} {s : List (Nat × Value)} {rest : List Oper} {J : Cls} {p : Prop} (hp : ∀ w, J.p w → p) (k : p → RW P N D ops Q rest f s J) : RW P N D ops Q rest f s J := fun a w ha hw => k (hp w hw) a w ha hw
attribute [local irreducible] AW RW DW Post Qt
theorem row_sl {B : Bs} {Φ : Hp} {C : List Chunk} {v : Value} {T sz n : Nat} {xs : List Value} (i : Nat) (hi : C[i]? = some (.row v T sz n xs)) : ∀ w, (St B Φ C).p w → IsSl v n := fun w hw => by
  have : RowS (hp w) v T sz n xs := hw.sat _ (List.mem_of_getElem? hi)
  exact this.isSl
theorem soundP_c (w : World) (Φ : Hp) (hΦ : Hp.le Φ (hp w)) {r : Bt.Rule} {fv cv : Value} (hf : RepSl Φ r.Funcs fv) (hc : RepSl Φ r.Clauses cv) :
    Calls pg 26 #[.agg #[fv, cv]] w fun e' w' => e' = .returned (.bool (Vm.soP r)) ∧ Bel w.heap.size w w' := by
  have hcv : ∃ m, IsSl cv m := ⟨_, hc.sl⟩
  obtain ⟨fA, fc, rfl, _⟩ := hf.sl
  obtain ⟨cA, cc, rfl, _⟩ := hc.sl
  have hfs := hf.sl
  have hcs := hc.sl
  have hfm := hf.max
  have hcm := hc.max
  simp only [Rep.bytes, maxSl] at hfm hcm
  refine calls_of_AW (args := [.agg #[.slice fA r.Funcs.length fc, .slice cA r.Clauses.length cc]]) Tryz.func26 rfl (lBT rfl) (St ⟨w, Φ, []⟩ Φ []) (StP.init w Φ hΦ []) ?_
  show AW _ _ [] _ _ _ [(0, .agg #[.slice fA r.Funcs.length fc, .slice cA r.Clauses.length cc])] _
  repeat refine gs1 ?_
  refine RW.bxA (cs := (rS2 fA fc cA cc r)) rfl rfl fun b1 => ?_
  repeat refine gs1 ?_
  refine AW.loop (fun s J q => ∃ i : Nat, s = [(1, pB b1), (8, .slice fA r.Funcs.length fc), (9, .int .i64 ((r.Funcs.length : Nat) : Int)), (10, .int .i64 (i : Int))] ∧ J = St ⟨w, Φ, []⟩ Φ [.blk b1 35 (rS2 fA fc cA cc r)] ∧ q = r.Funcs.length - i ∧ i ≤ r.Funcs.length ∧ ((r.Funcs.take i).all fun f => Vm.soE r f.Params.length 1 f.Body) = true) (s0 := _) (J1 := _) (m0 := _) ⟨0, rfl, rfl, rfl, Nat.zero_le _, rfl⟩ ⟨rfl, rfl, rfl, rfl, trivial⟩ (fun _ h => h) ?_
  rintro _ _ _ _ ⟨i, rfl, rfl, rfl, hi, hbd⟩
  repeat refine gs1 ?_
  refine AW.cond rfl (fun h => ?_) fun h => ?_
  · have h : i < r.Funcs.length := by have := odT h; omega
    obtain ⟨qv, Ab, cb, hpb, hqv, hbk, hwb, hnl, hres⟩ := funW hf h
    obtain ⟨qA, qc, rfl, _⟩ := hqv.sl
    have hqm := hqv.max
    simp only [Rep.bytes, maxSl] at hqm
    have hget : r.Funcs.getD i default = r.Funcs[i] := by rw [gDD, List.getElem?_eq_getElem h]; rfl
    repeat refine gs1 ?_
    refine RW.alc rfl fun b10 => ?_
    repeat refine gs1 ?_
    refine RW.q (v := .agg (exC (r.Funcs.getD i default).Body (.slice Ab (r.Funcs.getD i default).Body.Kids.length cb)).toArray) rfl (qa_ldA (cs := (exC (r.Funcs.getD i default).Body (.slice Ab (r.Funcs.getD i default).Body.Kids.length cb))) rfl (Cells.blkP 0 rfl (fun j u hj => by rw [Nat.add_comm]; exact hj)) rfl) ?_
    repeat refine gs1 ?_
    refine RW.q rfl (q_call (args := #[.agg #[.slice fA r.Funcs.length fc, .slice cA r.Clauses.length cc], .agg (exC (r.Funcs.getD i default).Body (.slice Ab (r.Funcs.getD i default).Body.Kids.length cb)).toArray, .int .i64 (((r.Funcs.getD i default).Params.length : Nat) : Int), .int .i64 ((1 : Nat) : Int)]) oK rfl rfl (fun w1 hw1 => sound_c hcv 40 w1 Φ _ _ _ 1 hw1.phi hf hwb hbk (by omega) rfl)) ?_
    repeat refine gs1 ?_
    refine AW.cond rfl (fun c => ?_) fun c => ?_
    · have c : Vm.soE r (r.Funcs.getD i default).Params.length 1 (r.Funcs.getD i default).Body = false := by simpa using c
      have hz : Vm.soP r = false := by unfold Vm.soP; rw [show (r.Funcs.all fun f => Vm.soE r f.Params.length 1 f.Body) = false from List.all_eq_false.2 ⟨(r.Funcs.getD i default), by rw [hget]; exact List.getElem_mem h, by rw [c]; simp⟩]; rfl
      repeat refine gs1 ?_
      exact fin_res (vs := [.bool false]) rfl rfl ⟨.tmp rfl, trivial⟩ rfl (fun w' hw => ⟨by rw [hz]; rfl, hw.below rfl⟩)
    have c : Vm.soE r (r.Funcs.getD i default).Params.length 1 (r.Funcs.getD i default).Body = true := by simpa using c
    repeat refine gs1 ?_
    exact Post.back (s' := _) (J' := _) (m' := _) (by omega) ⟨i + 1, rfl, rfl, rfl, by omega, by rw [Ru.take_snoc h, List.all_append, hbd, ← hget, List.all_cons, List.all_nil, c]; rfl⟩ ⟨rfl, rfl, rfl, rfl, trivial⟩ (fun _ h => StP.sel h [1] (by decide) rfl)
  have h : i = r.Funcs.length := by have := odF h; omega
  subst h
  rw [List.take_length] at hbd
  repeat refine gs1 ?_
  refine AW.loop (fun s J q => ∃ i : Nat, s = [(1, pB b1), (24, .slice cA r.Clauses.length cc), (25, .int .i64 ((r.Clauses.length : Nat) : Int)), (26, .int .i64 (i : Int))] ∧ J = St ⟨w, Φ, []⟩ Φ [.blk b1 35 (rS2 fA fc cA cc r)] ∧ q = r.Clauses.length - i ∧ i ≤ r.Clauses.length ∧ ((r.Clauses.take i).all fun c => Vm.soE r 0 1 c.If && Vm.soE r 0 1 c.To) = true) (s0 := _) (J1 := _) (m0 := _) ⟨0, rfl, rfl, rfl, Nat.zero_le _, rfl⟩ ⟨rfl, rfl, rfl, rfl, trivial⟩ (fun _ h => h) ?_
  rintro _ _ _ _ ⟨i, rfl, rfl, rfl, hi, hcd⟩
  repeat refine gs1 ?_
  refine AW.cond rfl (fun h => ?_) fun h => ?_
  · have h : i < r.Clauses.length := by have := odT h; omega
    obtain ⟨Aa, ca, Ab, cb, hpb, hki, hkt, hwi, hwt, hlk⟩ := clV hc h
    have hget : r.Clauses.getD i default = r.Clauses[i] := by rw [gDD, List.getElem?_eq_getElem h]; rfl
    repeat refine gs1 ?_
    refine RW.alc rfl fun b12 => ?_
    repeat refine gs1 ?_
    refine RW.q (v := .agg (exC (r.Clauses.getD i default).If (.slice Aa (r.Clauses.getD i default).If.Kids.length ca)).toArray) rfl (qa_ldA (cs := (exC (r.Clauses.getD i default).If (.slice Aa (r.Clauses.getD i default).If.Kids.length ca))) rfl (Cells.blkP 0 rfl (fun j u hj => by rw [Nat.zero_add]; exact (List.getElem?_append_left (List.getElem?_eq_some_iff.1 hj).1).trans hj)) rfl) ?_
    refine RW.q (v := .bool (Vm.soE r 0 1 (r.Clauses.getD i default).If)) rfl (q_call (args := #[.agg #[.slice fA r.Funcs.length fc, .slice cA r.Clauses.length cc], .agg (exC (r.Clauses.getD i default).If (.slice Aa (r.Clauses.getD i default).If.Kids.length ca)).toArray, .int .i64 ((0 : Nat) : Int), .int .i64 ((1 : Nat) : Int)]) oK rfl rfl (fun w1 hw1 => sound_c hcv 40 w1 Φ _ _ 0 1 hw1.phi hf hwi hki (by omega) rfl)) ?_
    repeat refine gs1 ?_
    refine RW.g (b := (!Vm.soE r 0 1 (r.Clauses.getD i default).If)) (v := .agg (exC (r.Clauses.getD i default).To (.slice Ab (r.Clauses.getD i default).To.Kids.length cb)).toArray) rfl rfl rfl (fun h => qa_ldA (cs := (exC (r.Clauses.getD i default).To (.slice Ab (r.Clauses.getD i default).To.Kids.length cb))) (gv_pos h) (Cells.blkP 0 rfl (fun j u hj => by rw [Nat.add_comm]; exact hj)) rfl) ?_
    refine RW.g (b := (!Vm.soE r 0 1 (r.Clauses.getD i default).If)) (v := .bool (Vm.soE r 0 1 (r.Clauses.getD i default).To)) rfl rfl rfl (fun h => q_call (args := #[.agg #[.slice fA r.Funcs.length fc, .slice cA r.Clauses.length cc], .agg (exC (r.Clauses.getD i default).To (.slice Ab (r.Clauses.getD i default).To.Kids.length cb)).toArray, .int .i64 ((0 : Nat) : Int), .int .i64 ((1 : Nat) : Int)]) oK rfl (a4 (gv_pos h) (gv_pos h) rfl rfl) (fun w1 hw1 => sound_c hcv 40 w1 Φ _ _ 0 1 hw1.phi hf hwt hkt (by omega) rfl)) ?_
    repeat refine gs1 ?_
    refine RW.q (v := .bool ((!Vm.soE r 0 1 (r.Clauses.getD i default).If) || !Vm.soE r 0 1 (r.Clauses.getD i default).To)) rfl (qpO rfl rfl rfl) ?_
    repeat refine gs1 ?_
    refine AW.cond rfl (fun c => ?_) fun c => ?_
    · have c : (Vm.soE r 0 1 (r.Clauses.getD i default).If && Vm.soE r 0 1 (r.Clauses.getD i default).To) = false := by rw [← Bool.not_eq_true', Bool.not_and]; exact c
      have hz : Vm.soP r = false := by unfold Vm.soP; rw [show (r.Clauses.all fun c => Vm.soE r 0 1 c.If && Vm.soE r 0 1 c.To) = false from List.all_eq_false.2 ⟨(r.Clauses.getD i default), by rw [hget]; exact List.getElem_mem h, by rw [c]; simp⟩]; simp
      repeat refine gs1 ?_
      exact fin_res (vs := [.bool false]) rfl rfl ⟨.tmp rfl, trivial⟩ rfl (fun w' hw => ⟨by rw [hz]; rfl, hw.below rfl⟩)
    have c : (Vm.soE r 0 1 (r.Clauses.getD i default).If && Vm.soE r 0 1 (r.Clauses.getD i default).To) = true := by rw [← Bool.not_eq_false', Bool.not_and]; exact c
    repeat refine gs1 ?_
    exact Post.back (s' := _) (J' := _) (m' := _) (by omega) ⟨i + 1, rfl, rfl, rfl, by omega, by rw [Ru.take_snoc h, List.all_append, hcd, ← hget, List.all_cons, List.all_nil, c]; rfl⟩ ⟨rfl, rfl, rfl, rfl, trivial⟩ (fun _ h => StP.sel h [1] (by decide) rfl)
  have h : i = r.Clauses.length := by have := odF h; omega
  subst h
  rw [List.take_length] at hcd
  repeat refine gs1 ?_
  exact fin_res (vs := [.bool true]) rfl rfl ⟨.tmp rfl, trivial⟩ rfl (fun w' hw => ⟨by unfold Vm.soP; rw [hbd, hcd]; rfl, hw.below rfl⟩)
abbrev nilV : Value := .slice none 0 0
abbrev cmpK (z : Value × Value × Value) (c : Vm.Code) : List Chunk := [.row z.1 56 3 c.Ops.length (c.Ops.flatMap opC), .row z.2.1 3 1 c.Funcs.length (c.Funcs.map (Value.int .i64)), .row z.2.2 3 1 c.Starts.length (c.Starts.map (Value.int .i64))]
theorem compM_c (w : World) {r : Bt.Rule} {fv cv : Value} (hf : RepSl (hp w) r.Funcs fv) (hc : RepSl (hp w) r.Clauses cv) (hb : (Vm.cops r).length ≤ 900000000) :
    Calls pg 12 #[.agg #[fv, cv]] w (MkR w (fun z : Value × Value × Value => .agg (cdC z.1 z.2.1 z.2.2).toArray) fun z => cmpK z (Vm.compile r)) := by
  obtain ⟨fA, fc, rfl, _⟩ := hf.sl
  obtain ⟨cA, cc, rfl, _⟩ := hc.sl
  have hfs := hf.sl
  have hcs := hc.sl
  have hfm := hf.max
  have hcm := hc.max
  simp only [Rep.bytes, maxSl] at hfm hcm
  refine calls_of_AW (args := [.agg #[.slice fA r.Funcs.length fc, .slice cA r.Clauses.length cc]]) Tryz.func12 rfl (lBT rfl) (St ⟨w, hp w, []⟩ (hp w) []) (StP.init w (hp w) (Hp.le_refl _) []) ?_
  show AW _ _ [] _ _ _ [(0, .agg #[.slice fA r.Funcs.length fc, .slice cA r.Clauses.length cc])] _
  repeat refine gs1 ?_
  refine RW.bxA (cs := (rS2 fA fc cA cc r)) rfl rfl fun b1 => ?_
  refine RW.alc rfl fun b2 => ?_
  repeat refine gs1 ?_
  refine RW.q rfl (q_call (args := #[.agg #[.slice fA r.Funcs.length fc, .slice cA r.Clauses.length cc]]) oK rfl rfl (fun w1 hw1 => soundP_c w1 (hp w) hw1.phi hf hc)) ?_
  repeat refine gs1 ?_
  refine AW.cond rfl (fun c => ?_) fun c => ?_
  · have c : Vm.soP r = false := by simpa using c
    have hz : Vm.compile r = ⟨[], [], []⟩ := by unfold Vm.compile; rw [c]; rfl
    repeat refine gs1 ?_
    refine RW.q (v := .agg (cdC nilV nilV nilV).toArray) rfl (q_build (vals := []) zero38 Tryz.underlying38 places38 rfl rfl) ?_
    refine RW.effn (J' := St ⟨w, hp w, []⟩ (hp w) [.blk b2 38 (cdC nilV nilV nilV), .blk b1 35 (rS2 fA fc cA cc r)]) (e_store (v := .agg (cdC nilV nilV nilV).toArray) 0 rfl rfl rfl sz38 rfl rfl rfl rfl rfl) ?_
    repeat refine gs1 ?_
    exact fin_res (vs := [.agg (cdC nilV nilV nilV).toArray]) rfl rfl ⟨.agg rfl rfl (Cells.blk 0 rfl), trivial⟩ rfl (fun w' hw => ⟨(nilV, nilV, nilV), rfl, by
      rw [hz]
      exact StP.nilRow (StP.nilRow (StP.nilRow (StP.drop hw (List.nil_sublist _)) 3 1) 3 1) 56 3⟩)
  have c : Vm.soP r = true := by simpa using c
  have hso := Vm.soP_iff c
  obtain ⟨CL, hCL⟩ : ∃ CL, CL = (Vm.seqC Vm.cC 0 r.Clauses).2 := ⟨_, rfl⟩
  have hcop : Vm.cops r = CL ++ (⟨19, 0, 0⟩ :: (Vm.seqC Vm.cF (CL.length + 1) r.Funcs).2) := by rw [hCL]; rfl
  have hz : Vm.compile r = ⟨Vm.cops r, (Vm.seqC Vm.cF (CL.length + 1) r.Funcs).1, (Vm.seqC Vm.cC 0 r.Clauses).1⟩ := by rw [hcop, hCL]; unfold Vm.compile; rw [c]; rfl
  rw [hcop] at hb
  simp only [List.length_append, List.length_cons] at hb
  have hpre : ∀ i, (Vm.seqC Vm.cC 0 (r.Clauses.take i)).2.length ≤ CL.length := fun i => by rw [hCL]; exact Vm.seqC_pre r.Clauses 0 i
  repeat refine gs1 ?_
  refine RW.alc rfl fun b3 => ?_
  refine RW.wk (J' := St ⟨w, hp w, []⟩ (hp w) (.row (.slice none 0 0) 56 3 0 [] :: [.blk b3 78 [.slice none 0 0], .blk b2 38 [.slice none 0 0, .slice none 0 0, .slice none 0 0], .blk b1 35 (rS2 fA fc cA cc r)])) (fun _ h => StP.nilRow h 56 3) ?_
  repeat refine gs1 ?_
  refine RW.alc rfl fun b4 => ?_
  refine RW.wk (J' := St ⟨w, hp w, []⟩ (hp w) (.row (.slice none 0 0) 3 1 0 [] :: .row (.slice none 0 0) 3 1 0 [] :: [.blk b4 38 [.slice none 0 0, .slice none 0 0, .slice none 0 0], .row (.slice none 0 0) 56 3 0 [], .blk b3 78 [.slice none 0 0], .blk b2 38 [.slice none 0 0, .slice none 0 0, .slice none 0 0], .blk b1 35 (rS2 fA fc cA cc r)])) (fun _ h => StP.nilRow (StP.nilRow h 3 1) 3 1) ?_
  repeat refine gs1 ?_
  refine AW.loop (fun s J q => ∃ (i : Nat) (kv sv : Value) (L : List Vm.Op), s = [(1, pB b1), (2, pB b2), (3, pB b3), (4, pB b4), (16, .slice cA r.Clauses.length cc), (17, .int .i64 ((r.Clauses.length : Nat) : Int)), (18, .int .i64 (i : Int))] ∧ J = St ⟨w, hp w, []⟩ (hp w) [.blk b4 38 [.slice none 0 0, .slice none 0 0, sv], .blk b3 78 [kv], .row kv 56 3 L.length (L.flatMap opC), .row (.slice none 0 0) 3 1 0 [], .row sv 3 1 i ((Vm.seqC Vm.cC 0 (r.Clauses.take i)).1.map (Value.int .i64)), .blk b2 38 [.slice none 0 0, .slice none 0 0, .slice none 0 0], .blk b1 35 (rS2 fA fc cA cc r)] ∧ q = r.Clauses.length - i ∧ i ≤ r.Clauses.length ∧ L = (Vm.seqC Vm.cC 0 (r.Clauses.take i)).2) (s0 := _) (J1 := St ⟨w, hp w, []⟩ (hp w) [.blk b4 38 [.slice none 0 0, .slice none 0 0, .slice none 0 0], .blk b3 78 [.slice none 0 0], .row (.slice none 0 0) 56 3 0 [], .row (.slice none 0 0) 3 1 0 [], .row (.slice none 0 0) 3 1 0 [], .blk b2 38 [.slice none 0 0, .slice none 0 0, .slice none 0 0], .blk b1 35 (rS2 fA fc cA cc r)]) (m0 := _) ⟨0, nilV, nilV, [], rfl, rfl, rfl, Nat.zero_le _, rfl⟩ ⟨rfl, rfl, rfl, rfl, rfl, rfl, rfl, trivial⟩ (fun _ h => StP.sel h [2, 4, 3, 0, 1, 5, 6] (by decide) rfl) ?_
  rintro _ _ _ _ ⟨i, kv, sv, L, rfl, rfl, rfl, hi, hL⟩
  have hLl := hpre i
  rw [← hL] at hLl
  repeat refine gs1 ?_
  refine AW.cond rfl (fun h => ?_) fun h => ?_
  · have h : i < r.Clauses.length := by have := odT h; omega
    obtain ⟨Aa, ca, Ab, cb, hpb, hki, hkt, hwi, hwt, hlk⟩ := clV hc h
    have hget : r.Clauses.getD i default = r.Clauses[i] := by rw [gDD, List.getElem?_eq_getElem h]; rfl
    have htk : r.Clauses.take (i + 1) = r.Clauses.take i ++ [r.Clauses.getD i default] := by rw [Ru.take_snoc h, hget]
    obtain ⟨x, hx⟩ : ∃ x, x = r.Clauses.getD i default := ⟨_, rfl⟩
    rw [← hx] at hpb hki hkt hwi hwt hlk htk
    have hmem : x ∈ r.Clauses := by rw [hx, hget]; exact List.getElem_mem h
    have hEi : ExAt (hp w) b3 x.If (.slice Aa x.If.Kids.length ca) := xexpr_c 40 (hp w) b3 x.If _ 0 1 rfl (hso.2 x hmem).1 hwi hki
    have hEt : ExAt (hp w) b3 x.To (.slice Ab x.To.Kids.length cb) := xexpr_c 40 (hp w) b3 x.To _ 0 1 rfl (hso.2 x hmem).2 hwt hkt
    have hsn := Vm.seqC_snoc (f := Vm.cC) (r.Clauses.take i) x 0
    rw [← htk, ← hL, Nat.zero_add] at hsn
    have hle := hpre (i + 1)
    rw [hsn] at hle
    simp only [List.length_append] at hle
    obtain ⟨L1, e1⟩ : ∃ L' : List Vm.Op, L' = L ++ [⟨17, x.Link, 0⟩] := ⟨_, rfl⟩
    obtain ⟨A, eA⟩ : ∃ A, A = Vm.cE L1.length x.If := ⟨_, rfl⟩
    obtain ⟨L2, e2⟩ : ∃ L', L' = L1 ++ A := ⟨_, rfl⟩
    obtain ⟨L3, e3⟩ : ∃ L' : List Vm.Op, L' = L2 ++ [⟨13, 0, 0⟩] := ⟨_, rfl⟩
    obtain ⟨B, eB⟩ : ∃ B, B = Vm.cE L3.length x.To := ⟨_, rfl⟩
    obtain ⟨L4, e4⟩ : ∃ L', L' = L3 ++ B := ⟨_, rfl⟩
    obtain ⟨L5, e5⟩ : ∃ L' : List Vm.Op, L' = L4 ++ [⟨18, x.Link, 0⟩] := ⟨_, rfl⟩
    obtain ⟨L6, e6⟩ : ∃ L' : List Vm.Op, L' = L ++ ⟨17, x.Link, ((L5.length : Nat) : Int)⟩ :: (A ++ ⟨13, 0, 0⟩ :: (B ++ [⟨18, x.Link, 0⟩])) := ⟨_, rfl⟩
    have hfin := Vm.cC_list e1 eA e2 e3 eB e4 e5 e6
    have n1 : L1.length = L.length + 1 := by rw [e1]; simp
    have n2 : L2.length = L.length + 1 + A.length := by rw [e2]; simp [n1]
    have n3 : L3.length = L.length + 1 + A.length + 1 := by rw [e3]; simp [n2]
    have n4 : L4.length = L.length + 1 + A.length + 1 + B.length := by rw [e4]; simp [n3]
    have n5 : L5.length = L.length + 1 + A.length + 1 + B.length + 1 := by rw [e5]; simp [n4]
    have n6 : L6.length = L.length + 1 + A.length + 1 + B.length + 1 := by rw [e6]; simp; omega
    have n7 : (Vm.cC L.length x).length = 1 + A.length + 1 + B.length + 1 := by
      have := congrArg List.length hfin
      simp only [List.length_append, List.length_cons, List.length_nil] at this
      omega
    repeat refine gs1 ?_
    refine RW.know (row_sl 2 rfl) fun hks => ?_
    have hks2 := hks
    obtain ⟨kA, kc, rfl, _⟩ := hks
    refine RW.alc rfl fun b6 => ?_
    repeat refine gs1 ?_
    refine RW.eff _ _ rfl (e_buildSlice (vals := [(0, .int .i64 ((L.length : Nat) : Int))]) (cells := [.int .i64 ((L.length : Nat) : Int)]) Tryz.underlying29 inf3 rfl rfl rfl (by kernel_rfl) rfl) fun b8 => ?_
    refine RW.eff (fun xv : {vq : Value // IsSl vq (i + 1)} => xv.1) (fun xv => St ⟨w, hp w, []⟩ (hp w) [.row (.slice (some ⟨b8, 0, none⟩) 1 1) 3 1 1 [.int .i64 ((L.length : Nat) : Int)], .blk b6 76 (rcC x (.slice Aa x.If.Kids.length ca) (.slice Ab x.To.Kids.length cb)), .blk b4 38 [.slice none 0 0, .slice none 0 0, sv], .blk b3 78 [(.slice kA L.length kc)], .row (.slice kA L.length kc) 56 3 L.length (L.flatMap opC), .row (.slice none 0 0) 3 1 0 [], .row xv.1 3 1 (i + 1) ((Vm.seqC Vm.cC 0 (r.Clauses.take i)).1.map (Value.int .i64) ++ [.int .i64 ((L.length : Nat) : Int)]), .blk b2 38 [.slice none 0 0, .slice none 0 0, .slice none 0 0], .blk b1 35 (rS2 fA fc cA cc r)]) rfl (e_append 6 rfl rfl rfl Tryz.underlying29 inf3 rfl rfl rfl (Cells.row0 0 rfl) rfl (by omega) (by omega) (fun _ => rfl)) ?_
    rintro ⟨sv2, hsv2⟩
    simp only
    repeat refine gs1 ?_
    refine RW.effn (J' := St ⟨w, hp w, []⟩ (hp w) [.row (.slice (some ⟨b8, 0, none⟩) 1 1) 3 1 1 [.int .i64 ((L.length : Nat) : Int)], .blk b6 76 (rcC x (.slice Aa x.If.Kids.length ca) (.slice Ab x.To.Kids.length cb)), .blk b4 38 [.slice none 0 0, .slice none 0 0, sv2], .blk b3 78 [(.slice kA L.length kc)], .row (.slice kA L.length kc) 56 3 L.length (L.flatMap opC), .row (.slice none 0 0) 3 1 0 [], .row sv2 3 1 (i + 1) ((Vm.seqC Vm.cC 0 (r.Clauses.take i)).1.map (Value.int .i64) ++ [.int .i64 ((L.length : Nat) : Int)]), .blk b2 38 [.slice none 0 0, .slice none 0 0, .slice none 0 0], .blk b1 35 (rS2 fA fc cA cc r)]) (e_storeSl (v := sv2) 2 rfl rfl rfl hsv2 sz29 rfl rfl rfl) ?_
    refine RW.wk (J' := St ⟨w, hp w, []⟩ (hp w) (coK b3 (.slice kA L.length kc) L ++ [.blk b6 76 (rcC x (.slice Aa x.If.Kids.length ca) (.slice Ab x.To.Kids.length cb)), .blk b4 38 [.slice none 0 0, .slice none 0 0, sv2], .row (.slice none 0 0) 3 1 0 [], .row sv2 3 1 (i + 1) ((Vm.seqC Vm.cC 0 (r.Clauses.take i)).1.map (Value.int .i64) ++ [.int .i64 ((L.length : Nat) : Int)]), .blk b2 38 [.slice none 0 0, .slice none 0 0, .slice none 0 0], .blk b1 35 (rS2 fA fc cA cc r)])) (fun _ h => StP.sel h [3, 4, 1, 2, 5, 6, 7, 8] (by decide) rfl) ?_
    repeat refine gs1 ?_
    refine RW.ownU (args := #[pB b3, .int .i64 17, .int .i64 x.Link, .int .i64 0]) (C2 := [.blk b6 76 (rcC x (.slice Aa x.If.Kids.length ca) (.slice Ab x.To.Kids.length cb)), .blk b4 38 [.slice none 0 0, .slice none 0 0, sv2], .row (.slice none 0 0) 3 1 0 [], .row sv2 3 1 (i + 1) ((Vm.seqC Vm.cC 0 (r.Clauses.take i)).1.map (Value.int .i64) ++ [.int .i64 ((L.length : Nat) : Int)]), .blk b2 38 [.slice none 0 0, .slice none 0 0, .slice none 0 0], .blk b1 35 (rS2 fA fc cA cc r)]) [0, 1, 2, 3, 4, 5, 6, 7] (by decide) rfl rfl oK rfl rfl (fun w1 hw1 => emit_c w1 17 x.Link 0 (by omega) hw1) fun kv1 => ?_
    rw [← e1]
    repeat refine gs1 ?_
    refine RW.q (v := .agg (exC x.If (.slice Aa x.If.Kids.length ca)).toArray) rfl (qa_ldA (cs := exC x.If (.slice Aa x.If.Kids.length ca)) rfl (Cells.blkP 2 rfl (fun j u hj => by rw [Nat.zero_add]; exact (List.getElem?_append_left (List.getElem?_eq_some_iff.1 hj).1).trans hj)) rfl) ?_
    refine RW.ownU (args := #[pB b3, .agg (exC x.If (.slice Aa x.If.Kids.length ca)).toArray]) (C2 := [.blk b6 76 (rcC x (.slice Aa x.If.Kids.length ca) (.slice Ab x.To.Kids.length cb)), .blk b4 38 [.slice none 0 0, .slice none 0 0, sv2], .row (.slice none 0 0) 3 1 0 [], .row sv2 3 1 (i + 1) ((Vm.seqC Vm.cC 0 (r.Clauses.take i)).1.map (Value.int .i64) ++ [.int .i64 ((L.length : Nat) : Int)]), .blk b2 38 [.slice none 0 0, .slice none 0 0, .slice none 0 0], .blk b1 35 (rS2 fA fc cA cc r)]) [0, 1, 2, 3, 4, 5, 6, 7] (by decide) rfl rfl oK rfl rfl (fun w1 hw1 => hEi w1 kv1 L1 (by rw [← eA]; omega) hw1) fun kv2 => ?_
    rw [← eA, ← e2]
    repeat refine gs1 ?_
    refine RW.ownU (args := #[pB b3, .int .i64 13, .int .i64 0, .int .i64 0]) (C2 := [.blk b6 76 (rcC x (.slice Aa x.If.Kids.length ca) (.slice Ab x.To.Kids.length cb)), .blk b4 38 [.slice none 0 0, .slice none 0 0, sv2], .row (.slice none 0 0) 3 1 0 [], .row sv2 3 1 (i + 1) ((Vm.seqC Vm.cC 0 (r.Clauses.take i)).1.map (Value.int .i64) ++ [.int .i64 ((L.length : Nat) : Int)]), .blk b2 38 [.slice none 0 0, .slice none 0 0, .slice none 0 0], .blk b1 35 (rS2 fA fc cA cc r)]) [0, 1, 2, 3, 4, 5, 6, 7] (by decide) rfl rfl oK rfl rfl (fun w1 hw1 => emit_c w1 13 0 0 (by omega) hw1) fun kv3 => ?_
    rw [← e3]
    repeat refine gs1 ?_
    refine RW.q (v := .agg (exC x.To (.slice Ab x.To.Kids.length cb)).toArray) rfl (qa_ldA (cs := exC x.To (.slice Ab x.To.Kids.length cb)) rfl (Cells.blkP 2 rfl (fun j u hj => by rw [Nat.add_comm]; exact hj)) rfl) ?_
    refine RW.ownU (args := #[pB b3, .agg (exC x.To (.slice Ab x.To.Kids.length cb)).toArray]) (C2 := [.blk b6 76 (rcC x (.slice Aa x.If.Kids.length ca) (.slice Ab x.To.Kids.length cb)), .blk b4 38 [.slice none 0 0, .slice none 0 0, sv2], .row (.slice none 0 0) 3 1 0 [], .row sv2 3 1 (i + 1) ((Vm.seqC Vm.cC 0 (r.Clauses.take i)).1.map (Value.int .i64) ++ [.int .i64 ((L.length : Nat) : Int)]), .blk b2 38 [.slice none 0 0, .slice none 0 0, .slice none 0 0], .blk b1 35 (rS2 fA fc cA cc r)]) [0, 1, 2, 3, 4, 5, 6, 7] (by decide) rfl rfl oK rfl rfl (fun w1 hw1 => hEt w1 kv3 L3 (by rw [← eB]; omega) hw1) fun kv4 => ?_
    rw [← eB, ← e4]
    repeat refine gs1 ?_
    refine RW.ownU (args := #[pB b3, .int .i64 18, .int .i64 x.Link, .int .i64 0]) (C2 := [.blk b6 76 (rcC x (.slice Aa x.If.Kids.length ca) (.slice Ab x.To.Kids.length cb)), .blk b4 38 [.slice none 0 0, .slice none 0 0, sv2], .row (.slice none 0 0) 3 1 0 [], .row sv2 3 1 (i + 1) ((Vm.seqC Vm.cC 0 (r.Clauses.take i)).1.map (Value.int .i64) ++ [.int .i64 ((L.length : Nat) : Int)]), .blk b2 38 [.slice none 0 0, .slice none 0 0, .slice none 0 0], .blk b1 35 (rS2 fA fc cA cc r)]) [0, 1, 2, 3, 4, 5, 6, 7] (by decide) rfl rfl oK rfl rfl (fun w1 hw1 => emit_c w1 18 x.Link 0 (by omega) hw1) fun kv5 => ?_
    rw [← e5]
    refine RW.know (row_sl 1 rfl) fun hk5 => ?_
    have hs5 := hk5
    obtain ⟨kA5, kc5, rfl, _⟩ := hk5
    have hi5 : L.length < L5.length := by omega
    have h56 : L5 = L ++ ⟨17, x.Link, 0⟩ :: (A ++ ⟨13, 0, 0⟩ :: (B ++ [⟨18, x.Link, 0⟩])) := by rw [e5, e4, e3, e2, e1]; simp
    have h65 : L5.length = L6.length := by omega
    have hspl : splice (L5.flatMap opC) (L.length * 3 + 2) [.int .i64 ((L5.length : Nat) : Int)] = L6.flatMap opC := by
      rw [e6]
      have h57 := splice_B L ⟨17, x.Link, 0⟩ (A ++ ⟨13, 0, 0⟩ :: (B ++ [⟨18, x.Link, 0⟩])) ((L5.length : Nat) : Int)
      rw [← h56] at h57
      exact h57
    repeat refine gs1 ?_
    refine RW.effn (J' := St ⟨w, hp w, []⟩ (hp w) (coK b3 (.slice kA5 L5.length kc5) L6 ++ [.blk b6 76 (rcC x (.slice Aa x.If.Kids.length ca) (.slice Ab x.To.Kids.length cb)), .blk b4 38 [.slice none 0 0, .slice none 0 0, sv2], .row (.slice none 0 0) 3 1 0 [], .row sv2 3 1 (i + 1) ((Vm.seqC Vm.cC 0 (r.Clauses.take i)).1.map (Value.int .i64) ++ [.int .i64 ((L.length : Nat) : Int)]), .blk b2 38 [.slice none 0 0, .slice none 0 0, .slice none 0 0], .blk b1 35 (rS2 fA fc cA cc r)])) (e_storeRow (n := 0) 1 rfl rfl rfl sz3 rfl rfl (by rw [opC_len]; omega) hspl (by rw [h65]; rfl)) ?_
    repeat refine gs1 ?_
    refine RW.ownU (args := #[pB b3, .int .i64 ((L2.length : Nat) : Int)]) (C2 := [.blk b6 76 (rcC x (.slice Aa x.If.Kids.length ca) (.slice Ab x.To.Kids.length cb)), .blk b4 38 [.slice none 0 0, .slice none 0 0, sv2], .row (.slice none 0 0) 3 1 0 [], .row sv2 3 1 (i + 1) ((Vm.seqC Vm.cC 0 (r.Clauses.take i)).1.map (Value.int .i64) ++ [.int .i64 ((L.length : Nat) : Int)]), .blk b2 38 [.slice none 0 0, .slice none 0 0, .slice none 0 0], .blk b1 35 (rS2 fA fc cA cc r)]) [0, 1, 2, 3, 4, 5, 6, 7] (by decide) rfl rfl oK rfl rfl (fun w1 hw1 => land_c w1 (P := L ++ ⟨17, x.Link, ((L5.length : Nat) : Int)⟩ :: A) (o := ⟨13, 0, 0⟩) (Q := B ++ [⟨18, x.Link, 0⟩]) (by rw [e6]; simp) (by rw [n2]; simp; omega) (by omega) hw1) fun _ => ?_
    rw [hfin]
    repeat refine gs1 ?_
    have hsn1 : (Vm.seqC Vm.cC 0 (r.Clauses.take (i + 1))).1.map (Value.int .i64) = ((Vm.seqC Vm.cC 0 (r.Clauses.take i)).1.map (Value.int .i64) ++ [.int .i64 ((L.length : Nat) : Int)]) := by rw [hsn, List.map_append]; rfl
    exact Post.back (s' := _) (J' := _) (m' := _) (by omega) ⟨i + 1, .slice kA5 L5.length kc5, sv2, L ++ Vm.cC L.length x, rfl, rfl, rfl, by omega, by rw [hsn]⟩ ⟨rfl, rfl, rfl, rfl, rfl, rfl, rfl, trivial⟩ (fun _ h => by rw [hsn1]; exact StP.sel h [3, 0, 1, 4, 5, 6, 7] (by decide) rfl)
  have h : i = r.Clauses.length := by have := odF h; omega
  subst h
  rw [List.take_length] at hL
  rw [← hCL] at hL
  have hL := hL.symm
  subst hL
  rw [List.take_length]
  repeat refine gs1 ?_
  refine RW.ownU (args := #[pB b3, .int .i64 19, .int .i64 0, .int .i64 0]) (C2 := [.blk b4 38 [.slice none 0 0, .slice none 0 0, sv], .row (.slice none 0 0) 3 1 0 [], .row sv 3 1 r.Clauses.length ((Vm.seqC Vm.cC 0 r.Clauses).1.map (Value.int .i64)), .blk b2 38 [.slice none 0 0, .slice none 0 0, .slice none 0 0], .blk b1 35 (rS2 fA fc cA cc r)]) [1, 2, 0, 3, 4, 5, 6] (by decide) rfl rfl oK rfl rfl (fun w1 hw1 => emit_c w1 19 0 0 (by omega) hw1) fun kv1 => ?_
  repeat refine gs1 ?_
  refine AW.loop (fun s J q => ∃ (i : Nat) (kv fv : Value) (L : List Vm.Op), s = [(2, pB b2), (3, pB b3), (4, pB b4), (56, .slice fA r.Funcs.length fc), (57, .int .i64 ((r.Funcs.length : Nat) : Int)), (58, .int .i64 (i : Int))] ∧ J = St ⟨w, hp w, []⟩ (hp w) (coK b3 kv L ++ [.blk b4 38 [.slice none 0 0, fv, sv], .row fv 3 1 i ((Vm.seqC Vm.cF (CL.length + 1) (r.Funcs.take i)).1.map (Value.int .i64)), .row sv 3 1 r.Clauses.length ((Vm.seqC Vm.cC 0 r.Clauses).1.map (Value.int .i64)), .blk b2 38 [.slice none 0 0, .slice none 0 0, .slice none 0 0], .blk b1 35 (rS2 fA fc cA cc r)]) ∧ q = r.Funcs.length - i ∧ i ≤ r.Funcs.length ∧ L = CL ++ ⟨19, 0, 0⟩ :: (Vm.seqC Vm.cF (CL.length + 1) (r.Funcs.take i)).2) (s0 := _) (J1 := St ⟨w, hp w, []⟩ (hp w) (coK b3 kv1 (CL ++ [⟨19, 0, 0⟩]) ++ [.blk b4 38 [.slice none 0 0, .slice none 0 0, sv], .row (.slice none 0 0) 3 1 0 [], .row sv 3 1 r.Clauses.length ((Vm.seqC Vm.cC 0 r.Clauses).1.map (Value.int .i64)), .blk b2 38 [.slice none 0 0, .slice none 0 0, .slice none 0 0], .blk b1 35 (rS2 fA fc cA cc r)])) (m0 := _) ⟨0, kv1, nilV, CL ++ [⟨19, 0, 0⟩], rfl, rfl, rfl, Nat.zero_le _, rfl⟩ ⟨rfl, rfl, rfl, rfl, rfl, rfl, trivial⟩ (fun _ h => h) ?_
  rintro _ _ _ _ ⟨i, kv, fv, L, rfl, rfl, rfl, hi, hL⟩
  have hpf := Vm.seqC_pre (f := Vm.cF) r.Funcs (CL.length + 1) i
  have hLl : L.length = CL.length + 1 + (Vm.seqC Vm.cF (CL.length + 1) (r.Funcs.take i)).2.length := by rw [hL]; simp; omega
  repeat refine gs1 ?_
  refine AW.cond rfl (fun h => ?_) fun h => ?_
  · have h : i < r.Funcs.length := by have := odT h; omega
    obtain ⟨qv, Ab, cb, hpb, hqv, hbk, hwb, hnl, hres⟩ := funW hf h
    obtain ⟨qA, qc, rfl, _⟩ := hqv.sl
    have hget : r.Funcs.getD i default = r.Funcs[i] := by rw [gDD, List.getElem?_eq_getElem h]; rfl
    have htk : r.Funcs.take (i + 1) = r.Funcs.take i ++ [r.Funcs.getD i default] := by rw [Ru.take_snoc h, hget]
    obtain ⟨x, hx⟩ : ∃ x, x = r.Funcs.getD i default := ⟨_, rfl⟩
    rw [← hx] at hpb hqv hbk hwb hnl hres htk
    have hmem : x ∈ r.Funcs := by rw [hx, hget]; exact List.getElem_mem h
    have hEb : ExAt (hp w) b3 x.Body (.slice Ab x.Body.Kids.length cb) := xexpr_c 40 (hp w) b3 x.Body _ _ 1 rfl (hso.1 x hmem) hwb hbk
    have hsn := Vm.seqC_snoc (f := Vm.cF) (r.Funcs.take i) x (CL.length + 1)
    rw [← htk, ← hLl] at hsn
    have hle := Vm.seqC_pre (f := Vm.cF) r.Funcs (CL.length + 1) (i + 1)
    rw [hsn] at hle
    simp only [List.length_append] at hle
    obtain ⟨A, eA⟩ : ∃ A, A = Vm.cE L.length x.Body := ⟨_, rfl⟩
    have hcF : Vm.cF L.length x = A ++ [⟨16, 0, 0⟩] := by rw [eA]; rfl
    rw [hcF, List.length_append, List.length_singleton] at hle
    repeat refine gs1 ?_
    refine RW.know (row_sl 1 rfl) fun hks => ?_
    have hks2 := hks
    obtain ⟨kA, kc, rfl, _⟩ := hks
    refine RW.alc rfl fun b10 => ?_
    repeat refine gs1 ?_
    refine RW.eff _ _ rfl (e_buildSlice (vals := [(0, .int .i64 ((L.length : Nat) : Int))]) (cells := [.int .i64 ((L.length : Nat) : Int)]) Tryz.underlying29 inf3 rfl rfl rfl (by kernel_rfl) rfl) fun b8 => ?_
    refine RW.eff (fun xv : {vq : Value // IsSl vq (i + 1)} => xv.1) (fun xv => St ⟨w, hp w, []⟩ (hp w) [.row (.slice (some ⟨b8, 0, none⟩) 1 1) 3 1 1 [.int .i64 ((L.length : Nat) : Int)], .blk b10 61 (rfC x (.slice qA x.Params.length qc) (.slice Ab x.Body.Kids.length cb)), .blk b3 78 [(.slice kA L.length kc)], .row (.slice kA L.length kc) 56 3 L.length (L.flatMap opC), .blk b4 38 [.slice none 0 0, fv, sv], .row xv.1 3 1 (i + 1) ((Vm.seqC Vm.cF (CL.length + 1) (r.Funcs.take i)).1.map (Value.int .i64) ++ [.int .i64 ((L.length : Nat) : Int)]), .row sv 3 1 r.Clauses.length ((Vm.seqC Vm.cC 0 r.Clauses).1.map (Value.int .i64)), .blk b2 38 [.slice none 0 0, .slice none 0 0, .slice none 0 0], .blk b1 35 (rS2 fA fc cA cc r)]) rfl (e_append 5 rfl rfl rfl Tryz.underlying29 inf3 rfl rfl rfl (Cells.row0 0 rfl) rfl (by omega) (by omega) (fun _ => rfl)) ?_
    rintro ⟨fv2, hfv2⟩
    simp only
    repeat refine gs1 ?_
    refine RW.effn (J' := St ⟨w, hp w, []⟩ (hp w) [.row (.slice (some ⟨b8, 0, none⟩) 1 1) 3 1 1 [.int .i64 ((L.length : Nat) : Int)], .blk b10 61 (rfC x (.slice qA x.Params.length qc) (.slice Ab x.Body.Kids.length cb)), .blk b3 78 [(.slice kA L.length kc)], .row (.slice kA L.length kc) 56 3 L.length (L.flatMap opC), .blk b4 38 [.slice none 0 0, fv2, sv], .row fv2 3 1 (i + 1) ((Vm.seqC Vm.cF (CL.length + 1) (r.Funcs.take i)).1.map (Value.int .i64) ++ [.int .i64 ((L.length : Nat) : Int)]), .row sv 3 1 r.Clauses.length ((Vm.seqC Vm.cC 0 r.Clauses).1.map (Value.int .i64)), .blk b2 38 [.slice none 0 0, .slice none 0 0, .slice none 0 0], .blk b1 35 (rS2 fA fc cA cc r)]) (e_storeSl (v := fv2) 4 rfl rfl rfl hfv2 sz29 rfl rfl rfl) ?_
    refine RW.wk (J' := St ⟨w, hp w, []⟩ (hp w) (coK b3 (.slice kA L.length kc) L ++ [.blk b10 61 (rfC x (.slice qA x.Params.length qc) (.slice Ab x.Body.Kids.length cb)), .blk b4 38 [.slice none 0 0, fv2, sv], .row fv2 3 1 (i + 1) ((Vm.seqC Vm.cF (CL.length + 1) (r.Funcs.take i)).1.map (Value.int .i64) ++ [.int .i64 ((L.length : Nat) : Int)]), .row sv 3 1 r.Clauses.length ((Vm.seqC Vm.cC 0 r.Clauses).1.map (Value.int .i64)), .blk b2 38 [.slice none 0 0, .slice none 0 0, .slice none 0 0], .blk b1 35 (rS2 fA fc cA cc r)])) (fun _ h => StP.sel h [2, 3, 1, 4, 5, 6, 7, 8] (by decide) rfl) ?_
    repeat refine gs1 ?_
    refine RW.q (v := .agg (exC x.Body (.slice Ab x.Body.Kids.length cb)).toArray) rfl (qa_ldA (cs := exC x.Body (.slice Ab x.Body.Kids.length cb)) rfl (Cells.blkP 2 rfl (fun j u hj => by rw [Nat.add_comm]; exact hj)) rfl) ?_
    refine RW.ownU (args := #[pB b3, .agg (exC x.Body (.slice Ab x.Body.Kids.length cb)).toArray]) (C2 := [.blk b10 61 (rfC x (.slice qA x.Params.length qc) (.slice Ab x.Body.Kids.length cb)), .blk b4 38 [.slice none 0 0, fv2, sv], .row fv2 3 1 (i + 1) ((Vm.seqC Vm.cF (CL.length + 1) (r.Funcs.take i)).1.map (Value.int .i64) ++ [.int .i64 ((L.length : Nat) : Int)]), .row sv 3 1 r.Clauses.length ((Vm.seqC Vm.cC 0 r.Clauses).1.map (Value.int .i64)), .blk b2 38 [.slice none 0 0, .slice none 0 0, .slice none 0 0], .blk b1 35 (rS2 fA fc cA cc r)]) [0, 1, 2, 3, 4, 5, 6, 7] (by decide) rfl rfl oK rfl rfl (fun w1 hw1 => hEb w1 (.slice kA L.length kc) L (by rw [← eA]; omega) hw1) fun kv2 => ?_
    rw [← eA]
    repeat refine gs1 ?_
    refine RW.ownU (args := #[pB b3, .int .i64 16, .int .i64 0, .int .i64 0]) (C2 := [.blk b10 61 (rfC x (.slice qA x.Params.length qc) (.slice Ab x.Body.Kids.length cb)), .blk b4 38 [.slice none 0 0, fv2, sv], .row fv2 3 1 (i + 1) ((Vm.seqC Vm.cF (CL.length + 1) (r.Funcs.take i)).1.map (Value.int .i64) ++ [.int .i64 ((L.length : Nat) : Int)]), .row sv 3 1 r.Clauses.length ((Vm.seqC Vm.cC 0 r.Clauses).1.map (Value.int .i64)), .blk b2 38 [.slice none 0 0, .slice none 0 0, .slice none 0 0], .blk b1 35 (rS2 fA fc cA cc r)]) [0, 1, 2, 3, 4, 5, 6, 7] (by decide) rfl rfl oK rfl rfl (fun w1 hw1 => emit_c w1 16 0 0 (by simp only [List.length_append]; omega) hw1) fun kv3 => ?_
    rw [List.append_assoc, ← hcF]
    repeat refine gs1 ?_
    have hsn1 : (Vm.seqC Vm.cF (CL.length + 1) (r.Funcs.take (i + 1))).1.map (Value.int .i64) = ((Vm.seqC Vm.cF (CL.length + 1) (r.Funcs.take i)).1.map (Value.int .i64) ++ [.int .i64 ((L.length : Nat) : Int)]) := by rw [hsn, List.map_append]; rfl
    exact Post.back (s' := _) (J' := _) (m' := _) (by omega) ⟨i + 1, kv3, fv2, L ++ Vm.cF L.length x, rfl, rfl, rfl, by omega, by rw [hsn, hL]; simp⟩ ⟨rfl, rfl, rfl, rfl, rfl, rfl, trivial⟩ (fun _ h => by rw [hsn1]; exact StP.sel h [0, 1, 3, 4, 5, 6, 7] (by decide) rfl)
  have h : i = r.Funcs.length := by have := odF h; omega
  subst h
  rw [List.take_length] at hL ⊢
  rw [← hcop] at hL
  subst hL
  repeat refine gs1 ?_
  refine RW.know (row_sl 1 rfl) fun hk1 => ?_
  refine RW.know (row_sl 3 rfl) fun hk2 => ?_
  refine RW.know (row_sl 4 rfl) fun hk3 => ?_
  obtain ⟨k1, k2, rfl, _⟩ := hk1
  obtain ⟨k3, k4, rfl, _⟩ := hk2
  obtain ⟨k5, k6, rfl, _⟩ := hk3
  repeat refine gs1 ?_
  exact fin_res (vs := [.agg (cdC (.slice k1 (Vm.cops r).length k2) (.slice k3 r.Funcs.length k4) (.slice k5 r.Clauses.length k6)).toArray]) rfl rfl ⟨.agg rfl rfl (Cells.blk 5 rfl), trivial⟩ rfl (fun w' hw => ⟨(.slice k1 (Vm.cops r).length k2, .slice k3 r.Funcs.length k4, .slice k5 r.Clauses.length k6), rfl, by
    show StP _ _ (cmpK _ (Vm.compile r)) w'
    rw [hz]
    unfold cmpK
    simp only [Vm.seqC_flen]
    exact StP.sel hw [1, 3, 4] (by decide) rfl⟩)
structure CodeR (Ψ : Hp) (z : Value × Value × Value) (c : Vm.Code) : Prop where
  o : RepSl Ψ c.Ops z.1
  f : RepSl Ψ c.Funcs z.2.1
  s : RepSl Ψ c.Starts z.2.2
theorem begs_le {α : Type} {f : Nat → α → List Vm.Op} : ∀ (xs : List α) (p : Nat), ∀ n ∈ Vm.begs f p xs, n ≤ p + (Vm.seqC f p xs).2.length
  | [], _, n, h => by cases h
  | x :: xs, p, n, h => by
    rcases List.mem_cons.1 h with rfl | h
    · omega
    · have := begs_le xs (p + (f p x).length) n h
      simp only [Vm.seqC, List.length_append]
      omega
theorem comp_ints {r : Bt.Rule} (hb : (Vm.cops r).length ≤ 900000000) : (∀ x ∈ (Vm.compile r).Funcs, I64 x) ∧ (∀ x ∈ (Vm.compile r).Starts, I64 x) ∧ (Vm.compile r).Ops.length ≤ 900000000 := by
  unfold Vm.compile
  split
  · simp only
    rw [Vm.seqC_begs, Vm.seqC_begs]
    have hb2 := hb
    unfold Vm.cops at hb2
    simp only [List.length_append, List.length_cons] at hb2
    refine ⟨fun x hx => ?_, fun x hx => ?_, hb⟩
    · obtain ⟨n, hn, rfl⟩ := List.mem_map.1 hx
      have := begs_le _ _ n hn
      unfold I64
      omega
    · obtain ⟨n, hn, rfl⟩ := List.mem_map.1 hx
      have := begs_le _ _ n hn
      unfold I64
      omega
  · exact ⟨fun x hx => (by cases hx), fun x hx => (by cases hx), by simp⟩
theorem comp_len {r : Bt.Rule} : (Vm.compile r).Funcs.length ≤ r.Funcs.length ∧ (Vm.compile r).Starts.length ≤ r.Clauses.length := by
  unfold Vm.compile
  split
  · simp only [Vm.seqC_flen]; omega
  · simp
theorem comp_c (w : World) (Φ : Hp) {r : Bt.Rule} {fv cv : Value} (hf : RepSl (hp w) r.Funcs fv) (hc : RepSl (hp w) r.Clauses cv) (hb : (Vm.cops r).length ≤ 900000000) :
    Calls pg 12 #[.agg #[fv, cv]] w (RetS Φ w fun v Ψ => ∃ z : Value × Value × Value, v = .agg (cdC z.1 z.2.1 z.2.2).toArray ∧ CodeR Ψ z (Vm.compile r)) := by
  have hfm := hf.max
  have hcm := hc.max
  simp only [Rep.bytes, maxSl] at hfm hcm
  obtain ⟨i1, i2, i3⟩ := comp_ints hb
  obtain ⟨l1, l2⟩ := comp_len (r := r)
  refine (compM_c w hf hc hb).mono fun e w' hh => ?_
  obtain ⟨z, rfl, hw⟩ := hh
  refine ⟨_, rfl, hw.below rfl, z, rfl, ?_, ?_, ?_⟩
  · exact RowS.repE evenOp (row_ext (Φr := Φ) hw 0 rfl) rfl (by simp only [Rep.bytes, maxSl]; omega) fun _ _ => trivial
  · exact RowS.ints (row_ext (Φr := Φ) hw 1 rfl) (by simp only [maxSl]; omega) i1
  · exact RowS.ints (row_ext (Φr := Φ) hw 2 rfl) (by simp only [maxSl]; omega) i2
end Go.Proofs.YtjmeeofdffdpnaaGreatDoor
