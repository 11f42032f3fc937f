/- Walks (part TrB), printed by walk2.py. Conditions: those of each theorem. -/
import Derived.Test.YtjcahklnkakklaaDoorTTrA
import Derived.Test.YtjcahklnkakklaaDoorTNodeD
import Derived.Test.YtjcahklnkakklaaDoorTUnC
import Derived.Test.YtjcahklnkakklaaDoorTCore6
import Derived.Test.YtjcahklnkakklaaDoorTAuto
namespace Go.Proofs.YtjcahklnkakklaaDoor
open Go Go.K Go.RowKit

theorem eqF23 (a0 a1 b0 b1 : Int) (n : Nat) (w : World) : (Op.eqFields (n + 1) #[.int .i64 a0, .int .i64 a1] #[.int .i64 b0, .int .i64 b1] (Tryd.prog.fieldsOf 23).toList).run Tryd.prog w = .ok (decide (a0 = b0) && decide (a1 = b1)) w := by
  unfold Program.fieldsOf
  rw [Tryd.underlying23]
  have hp3 : ∀ {cs : Array Value} {o : Nat} {v : Value} (h : cs[o]? = some v) (w : World), (part 3 cs o).run Tryd.prog w = .ok v w := fun h w => run_part1 Tryd.underlying3 rfl h w
  have hq3 : ∀ (x y : Int) (w : World), (Op.equalIn (n + 1) 3 (.int .i64 x) (.int .i64 y)).run Tryd.prog w = .ok (x == y) w := fun x y w => run_equalIn_int w (n + 0) 3 .i64 .i64 x y Tryd.underlying3
  simp only [Op.eqFields, ne_eq, String.reduceEq, not_false_eq_true, if_true, Sem.run_bind, hp3 (show #[Value.int .i64 a0, Value.int .i64 a1][0]? = some (.int .i64 a0) from rfl), hp3 (show #[Value.int .i64 b0, Value.int .i64 b1][0]? = some (.int .i64 b0) from rfl), hp3 (show #[Value.int .i64 a0, Value.int .i64 a1][1]? = some (.int .i64 a1) from rfl), hp3 (show #[Value.int .i64 b0, Value.int .i64 b1][1]? = some (.int .i64 b1) from rfl), hq3, Result.andThen_ok, Sem.run_ite, Sem.run_pure]
  by_cases h0 : a0 = b0 <;> by_cases h1 : a1 = b1 <;> simp [*]
theorem eqS23 (a0 a1 b0 b1 : Int) : ∀ w, (Op.equal 23 (.agg #[.int .i64 a0, .int .i64 a1]) (.agg #[.int .i64 b0, .int .i64 b1])).run Tryd.prog w = .ok (decide (a0 = b0) && decide (a1 = b1)) w := fun w => by
  have hT : Tryd.prog.underlying 23 = some (.struct (Tryd.prog.fieldsOf 23)) := by unfold Program.fieldsOf; rw [Tryd.underlying23]
  show (Op.equalIn (9999 + 1) 23 _ _).run Tryd.prog w = _
  rw [run_equalIn_struct w 9999 23 _ _ hT (by kernel_rfl)]
  exact eqF23 a0 a1 b0 b1 9998 w
theorem eqG23 : Program.eqGuardType Tryd.prog Tryd.prog.depth 23 = false := by kernel_rfl
set_option maxRecDepth 8000 in
set_option maxHeartbeats 1000000 in
theorem isWord_c (w : World) (Φ : Hp) (hΦ : Hp.le Φ (hp w)) {x : Bt.Node} {kv : Value} (hk : RepSl Φ x.Kids kv) (hwx : wfN x) :
    Calls Tryd.prog 35 #[.agg (ndC x kv).toArray] w fun e w' => e = .returned (.bool (Pa.isWord x)) ∧ Bel w.heap.size w w' := by
  refine calls_of_AW (args := [.agg #[.int .i64 x.Kind, .string (bs x.Text), .int .i64 x.N, .int .i64 x.Dim, .int .i64 x.At, kv]]) Tryd.func35 rfl (Nat.le_of_ble_eq_true rfl) (St ⟨w, Φ, []⟩ Φ []) (StP.init w Φ hΦ []) ?_
  show AW Tryd.prog 31 [] _ _ _ [(0, .agg #[.int .i64 x.Kind, .string (bs x.Text), .int .i64 x.N, .int .i64 x.Dim, .int .i64 x.At, kv])] _
  have htl : x.Text.length ≤ maxLen := hwx.2.1
  refine AW.seq ?_
  refine AW.region ?_
  refine RW.eff (fun b1 : Nat => .pointer (some (⟨b1, 0, none⟩))) (fun b1 => St ⟨w, Φ, []⟩ Φ [.blk b1 26 [.int .i64 x.Kind, .string (bs x.Text), .int .i64 x.N, .int .i64 x.Dim, .int .i64 x.At, kv]]) rfl (e_boxA (cs := [.int .i64 x.Kind, .string (bs x.Text), .int .i64 x.N, .int .i64 x.Dim, .int .i64 x.At, kv]) rfl) ?_
  intro b1
  refine RW.q (v := .bool false) rfl (q_assign rfl) ?_
  refine RW.nil ?_
  refine Post.then_n ?_
  refine AW.seq ?_
  refine AW.seq ?_
  refine AW.region ?_
  refine RW.q (v := .pointer (some (⟨b1, 5, none⟩))) rfl (q_fieldAddr rfl Tryd.underlying26 rfl sz24 rfl) ?_
  refine RW.q (v := kv) rfl (q_load rfl Tryd.underlying24 rfl (Cell.blk 0 rfl rfl)) ?_
  refine RW.q (v := .int .i64 ((x.Kids.length : Nat) : Int)) rfl (q_len_sl rfl hk.sl Tryd.underlying24) ?_
  refine RW.q (v := .bool (decide ((0 : Int) < ((x.Kids.length : Nat) : Int)))) rfl (q_gtr rfl rfl) ?_
  refine RW.q (v := .bool (decide ((0 : Int) < ((x.Kids.length : Nat) : Int)))) rfl (q_move rfl) ?_
  refine RW.g (b := (decide ((0 : Int) < ((x.Kids.length : Nat) : Int)))) (v := .pointer (some (⟨b1, 2, none⟩))) rfl rfl rfl (fun h => q_fieldAddr rfl Tryd.underlying26 rfl sz23 rfl) ?_
  refine RW.g (b := (decide ((0 : Int) < ((x.Kids.length : Nat) : Int)))) (v := .agg #[.int .i64 x.N, .int .i64 x.Dim]) rfl rfl rfl (fun h => q_loadAgg (gv_pos h) Tryd.underlying23 rfl sz23 rfl (Cells.blkP (off := 2) 0 rfl (fun j u hu => (by rcases j with _ | (_ | _) <;> first | exact hu | cases hu)))) ?_
  refine RW.g (b := (decide ((0 : Int) < ((x.Kids.length : Nat) : Int)))) (v := .agg #[.int .i64 0, .int .i64 0]) rfl rfl rfl (fun h => q_build (vals := []) zero23 Tryd.underlying23 places23 rfl rfl) ?_
  refine RW.g (b := (decide ((0 : Int) < ((x.Kids.length : Nat) : Int)))) (v := .bool (!(decide (x.N = 0) && decide (x.Dim = 0)))) rfl rfl rfl (fun h => q_neqS (gv_pos h) (gv_pos h) (eqS23 _ _ _ _) eqG23) ?_
  obtain ⟨qb1, hqb1⟩ : ∃ qz : Bool, ((decide ((0 : Int) < ((x.Kids.length : Nat) : Int))) || (!(decide (x.N = 0) && decide (x.Dim = 0)))) = qz := ⟨_, rfl⟩
  refine RW.q (v := .bool qb1) rfl (q_as (v := .bool ((decide ((0 : Int) < ((x.Kids.length : Nat) : Int))) || (!(decide (x.N = 0) && decide (x.Dim = 0))))) (q_pick rfl (fun hp => pkOrT hp) (fun hp => (gv_pos hp).trans (pkOrF hp))) (congrArg Value.bool hqb1)) ?_
  subst hqb1
  refine RW.nil ?_
  refine Post.then_n ?_
  refine AW.cond (b := ((decide ((0 : Int) < ((x.Kids.length : Nat) : Int))) || (!(decide (x.N = 0) && decide (x.Dim = 0))))) rfl (fun hc1 => ?_) (fun hc1 => ?_)
  · simp [-List.getD_eq_getElem?_getD] at hc1
    refine AW.seq ?_
    refine AW.region ?_
    refine RW.q (v := .bool false) rfl (q_assign rfl) ?_
    refine RW.nil ?_
    refine Post.then_n ?_
    refine AW.ret ?_
    refine Post.then_r ?_
    exact fin_val (v' := .bool false) rfl rfl rfl (congrArg Value.bool (by unfold Pa.isWord; rcases hc1 with h | h; rw [decide_eq_false (by omega)]; rfl; rw [decide_eq_false (p := x.N = 0 ∧ x.Dim = 0) (by omega), Bool.and_false]; rfl))
  · simp [-List.getD_eq_getElem?_getD] at hc1
    refine AW.skip ?_
    refine Post.then_n ?_
    refine AW.seq ?_
    refine AW.region ?_
    refine RW.q (v := .pointer (some (⟨b1, 0, none⟩))) rfl (q_fieldAddr rfl Tryd.underlying26 rfl sz3 rfl) ?_
    refine RW.q (v := .int .i64 x.Kind) rfl (q_load rfl Tryd.underlying3 rfl (Cell.blk 0 rfl rfl)) ?_
    refine RW.q (v := .bool (decide (x.Kind = 3))) rfl (q_eql rfl rfl) ?_
    refine RW.q (v := .bool (decide (x.Kind = 3))) rfl (q_move rfl) ?_
    refine RW.g (b := (decide (x.Kind = 3))) (v := .pointer (some (⟨b1, 1, none⟩))) rfl rfl rfl (fun h => q_fieldAddr rfl Tryd.underlying26 rfl sz9 rfl) ?_
    refine RW.g (b := (decide (x.Kind = 3))) (v := .string (bs x.Text)) rfl rfl rfl (fun h => q_load (gv_pos h) Tryd.underlying9 rfl (Cell.blk 0 rfl rfl)) ?_
    refine RW.g (b := (decide (x.Kind = 3))) (v := .bool (Pa.isName x.Text)) rfl rfl rfl (fun h => q_call (args := #[.string (bs x.Text)]) own34 rfl (args1 (gv_pos h)) (fun w1 hw1 => isName_c w1 (Go.K.hp w1) (Hp.le_refl _) (by (try simp [-List.getD_eq_getElem?_getD] at h); omega))) ?_
    obtain ⟨qb2, hqb2⟩ : ∃ qz : Bool, ((decide (x.Kind = 3)) && (Pa.isName x.Text)) = qz := ⟨_, rfl⟩
    refine RW.q (v := .bool qb2) rfl (q_as (v := .bool ((decide (x.Kind = 3)) && (Pa.isName x.Text))) (q_pick rfl (fun hp => (gv_pos hp).trans (pkAndT hp)) (fun hp => pkAndF hp)) (congrArg Value.bool hqb2)) ?_
    refine RW.q (v := .bool qb2) rfl (q_move rfl) ?_
    refine RW.g (b := qb2) (v := .pointer (some (⟨b1, 0, none⟩))) rfl rfl rfl (fun h => q_fieldAddr rfl Tryd.underlying26 rfl sz3 rfl) ?_
    refine RW.g (b := qb2) (v := .int .i64 x.Kind) rfl rfl rfl (fun h => q_load (gv_pos h) Tryd.underlying3 rfl (Cell.blk 0 rfl rfl)) ?_
    refine RW.g (b := qb2) (v := .bool (decide (x.Kind = 4))) rfl rfl rfl (fun h => q_eql (gv_pos h) rfl) ?_
    refine RW.g (b := qb2) (v := .bool (decide (x.Kind = 4))) rfl rfl rfl (fun h => q_move (gv_pos h)) ?_
    refine RW.g2 (b1 := qb2) (b2 := (decide (x.Kind = 4))) (v := .pointer (some (⟨b1, 1, none⟩))) rfl rfl rfl (fun hg1 hg2 => q_fieldAddr rfl Tryd.underlying26 rfl sz9 rfl) ?_
    refine RW.g2 (b1 := qb2) (b2 := (decide (x.Kind = 4))) (v := .string (bs x.Text)) rfl rfl rfl (fun hg1 hg2 => q_load ((gv_pos hg1).trans (gv_pos hg2)) Tryd.underlying9 rfl (Cell.blk 0 rfl rfl)) ?_
    refine RW.g2 (b1 := qb2) (b2 := (decide (x.Kind = 4))) (v := .bool (Pa.isText x.Text)) rfl rfl rfl (fun hg1 hg2 => q_call (args := #[.string (bs x.Text)]) own50 rfl (args1 ((gv_pos hg1).trans (gv_pos hg2))) (fun w1 hw1 => isText_c w1 (Go.K.hp w1) (Hp.le_refl _) (by subst hqb2; (try simp [-List.getD_eq_getElem?_getD] at hg1); (try simp [-List.getD_eq_getElem?_getD] at hg2); omega))) ?_
    obtain ⟨qb3, hqb3⟩ : ∃ qz : Bool, ((decide (x.Kind = 4)) && (Pa.isText x.Text)) = qz := ⟨_, rfl⟩
    refine RW.g (b := qb2) (v := .bool qb3) rfl rfl rfl (fun h => q_as (v := .bool ((decide (x.Kind = 4)) && (Pa.isText x.Text))) (q_pick (gv_pos h) (fun hp => (gv_pos h).trans ((gv_pos hp).trans (pkAndT hp))) (fun hp => pkAndF hp)) (congrArg Value.bool hqb3)) ?_
    refine RW.q (v := .bool (qb2 || qb3)) rfl (q_pick rfl (fun hp => pkOrT hp) (fun hp => (gv_pos hp).trans (pkOrF hp))) ?_
    refine RW.q (v := .bool (qb2 || qb3)) rfl (q_assign rfl) ?_
    subst hqb3 hqb2
    refine RW.nil ?_
    refine Post.then_n ?_
    refine AW.ret ?_
    exact fin_val (v' := .bool (((decide (x.Kind = 3)) && (Pa.isName x.Text)) || ((decide (x.Kind = 4)) && (Pa.isText x.Text)))) rfl rfl rfl (congrArg Value.bool (by unfold Pa.isWord; rw [decide_eq_true (p := x.Kids.length = 0) (by first | omega | simp [hc1]), decide_eq_true (p := x.N = 0 ∧ x.Dim = 0) (by first | omega | simp [hc1])]; rfl))

set_option maxRecDepth 8000 in
set_option maxHeartbeats 1000000 in
theorem isValue_s (w : World) (Φ : Hp) (hΦ : Hp.le Φ (hp w)) (hG : Knows Φ Glob) {x : Bt.Node} {kv : Value} (hk : RepSl Φ x.Kids kv) (hwx : wfN x) {g : Nat} (hg : g ≤ 40) (ih : ∀ k, k < x.Kids.length → ∀ (w : World) (Φ : Hp), Hp.le Φ (hp w) → Knows Φ Glob → ∀ {kv : Value}, RepSl Φ (x.Kids.getD k default).Kids kv → wfN (x.Kids.getD k default) → ∀ {g : Nat}, g ≤ 40 → Calls Tryd.prog 51 #[.agg (ndC (x.Kids.getD k default) kv).toArray, .int .i64 (g : Int)] w fun e w' => e = .returned (.bool (Pa.isVal g (x.Kids.getD k default))) ∧ Bel w.heap.size w w') :
    Calls Tryd.prog 51 #[.agg (ndC x kv).toArray, .int .i64 (g : Int)] w fun e w' => e = .returned (.bool (Pa.isVal g x)) ∧ Bel w.heap.size w w' := by
  refine calls_of_AW (args := [.agg #[.int .i64 x.Kind, .string (bs x.Text), .int .i64 x.N, .int .i64 x.Dim, .int .i64 x.At, kv], .int .i64 (g : Int)]) Tryd.func51 rfl (Nat.le_of_ble_eq_true rfl) (St ⟨w, Φ, []⟩ Φ []) (StP.init w Φ hΦ []) ?_
  show AW Tryd.prog 62 [] _ _ _ [(0, .agg #[.int .i64 x.Kind, .string (bs x.Text), .int .i64 x.N, .int .i64 x.Dim, .int .i64 x.At, kv]), (1, .int .i64 (g : Int))] _
  have hkm : x.Kids.length * 72 ≤ 140737488355328 := hk.max
  refine AW.seq ?_
  refine AW.region ?_
  refine RW.eff (fun b1 : Nat => .pointer (some (⟨b1, 0, none⟩))) (fun b1 => St ⟨w, Φ, []⟩ Φ [.blk b1 26 [.int .i64 x.Kind, .string (bs x.Text), .int .i64 x.N, .int .i64 x.Dim, .int .i64 x.At, kv]]) rfl (e_boxA (cs := [.int .i64 x.Kind, .string (bs x.Text), .int .i64 x.N, .int .i64 x.Dim, .int .i64 x.At, kv]) rfl) ?_
  intro b1
  refine RW.q (v := .bool false) rfl (q_assign rfl) ?_
  refine RW.nil ?_
  refine Post.then_n ?_
  refine AW.seq ?_
  refine AW.seq ?_
  refine AW.region ?_
  refine RW.q (v := .pointer (some (⟨b1, 0, none⟩))) rfl (q_fieldAddr rfl Tryd.underlying26 rfl sz3 rfl) ?_
  refine RW.q (v := .int .i64 x.Kind) rfl (q_load rfl Tryd.underlying3 rfl (Cell.blk 0 rfl rfl)) ?_
  refine RW.nil ?_
  refine Post.then_n ?_
  refine AW.block ?_
  refine AW.seq ?_
  refine AW.region ?_
  refine RW.q (v := .bool (decide (x.Kind = 5))) rfl (q_eql rfl rfl) ?_
  refine RW.q (v := .bool (decide (x.Kind = 5))) rfl (q_assign rfl) ?_
  refine RW.nil ?_
  refine Post.then_n ?_
  refine AW.cond (b := decide (x.Kind = 5)) rfl (fun hc1 => ?_) (fun hc1 => ?_)
  · simp [-List.getD_eq_getElem?_getD] at hc1
    refine AW.seq ?_
    refine AW.region ?_
    refine RW.q (v := .pointer (some (⟨b1, 1, none⟩))) rfl (q_fieldAddr rfl Tryd.underlying26 rfl sz9 rfl) ?_
    refine RW.q (v := .string (bs x.Text)) rfl (q_load rfl Tryd.underlying9 rfl (Cell.blk 0 rfl rfl)) ?_
    refine RW.q (v := .bool (decide (x.Text = ([] : List UInt8)))) rfl (q_eqlStr (l := x.Text) (r := ([] : List UInt8)) rfl rfl) ?_
    refine RW.q (v := .bool (decide (x.Text = ([] : List UInt8)))) rfl (q_move rfl) ?_
    refine RW.g (b := (decide (x.Text = ([] : List UInt8)))) (v := .pointer (some (⟨b1, 5, none⟩))) rfl rfl rfl (fun h => q_fieldAddr rfl Tryd.underlying26 rfl sz24 rfl) ?_
    refine RW.g (b := (decide (x.Text = ([] : List UInt8)))) (v := kv) rfl rfl rfl (fun h => q_load (gv_pos h) Tryd.underlying24 rfl (Cell.blk 0 rfl rfl)) ?_
    refine RW.g (b := (decide (x.Text = ([] : List UInt8)))) (v := .int .i64 ((x.Kids.length : Nat) : Int)) rfl rfl rfl (fun h => q_len_sl (gv_pos h) hk.sl Tryd.underlying24) ?_
    refine RW.g (b := (decide (x.Text = ([] : List UInt8)))) (v := .bool (decide (((x.Kids.length : Nat) : Int) = 0))) rfl rfl rfl (fun h => q_eql (gv_pos h) rfl) ?_
    obtain ⟨qb1, hqb1⟩ : ∃ qz : Bool, ((decide (x.Text = ([] : List UInt8))) && (decide (((x.Kids.length : Nat) : Int) = 0))) = qz := ⟨_, rfl⟩
    refine RW.q (v := .bool qb1) rfl (q_as (v := .bool ((decide (x.Text = ([] : List UInt8))) && (decide (((x.Kids.length : Nat) : Int) = 0)))) (q_pick rfl (fun hp => (gv_pos hp).trans (pkAndT hp)) (fun hp => pkAndF hp)) (congrArg Value.bool hqb1)) ?_
    refine RW.q (v := .bool qb1) rfl (q_move rfl) ?_
    refine RW.g (b := qb1) (v := .pointer (some (⟨b1, 2, none⟩))) rfl rfl rfl (fun h => q_fieldAddr rfl Tryd.underlying26 rfl sz23 rfl) ?_
    refine RW.g (b := qb1) (v := .agg #[.int .i64 x.N, .int .i64 x.Dim]) rfl rfl rfl (fun h => q_loadAgg (gv_pos h) Tryd.underlying23 rfl sz23 rfl (Cells.blkP (off := 2) 0 rfl (fun j u hu => (by rcases j with _ | (_ | _) <;> first | exact hu | cases hu)))) ?_
    refine RW.g (b := qb1) (v := .string (bs (Un.wri x.N x.Dim))) rfl rfl rfl (fun h => q_call (args := #[.agg #[.int .i64 x.N, .int .i64 x.Dim]]) own33 rfl (args1 (gv_pos h)) (fun w1 hw1 => Write_c w1 (Go.K.hp w1) (Hp.le_refl _) (hG.mono hw1.phi))) ?_
    refine RW.g (b := qb1) (v := .bool (!decide (Un.wri x.N x.Dim = ([] : List UInt8)))) rfl rfl rfl (fun h => q_neqStr (l := Un.wri x.N x.Dim) (r := ([] : List UInt8)) (gv_pos h) rfl) ?_
    obtain ⟨qb2, hqb2⟩ : ∃ qz : Bool, (qb1 && (!decide (Un.wri x.N x.Dim = ([] : List UInt8)))) = qz := ⟨_, rfl⟩
    refine RW.q (v := .bool qb2) rfl (q_as (v := .bool (qb1 && (!decide (Un.wri x.N x.Dim = ([] : List UInt8))))) (q_pick rfl (fun hp => (gv_pos hp).trans (pkAndT hp)) (fun hp => pkAndF hp)) (congrArg Value.bool hqb2)) ?_
    refine RW.q (v := .bool qb2) rfl (q_assign rfl) ?_
    subst hqb2 hqb1
    refine RW.nil ?_
    refine Post.then_n ?_
    refine AW.ret ?_
    refine Post.blk_r (Post.then_r ?_)
    exact fin_val (v' := .bool (((decide (x.Text = ([] : List UInt8))) && (decide (((x.Kids.length : Nat) : Int) = 0))) && (!decide (Un.wri x.N x.Dim = ([] : List UInt8))))) rfl rfl rfl (congrArg Value.bool (by rw [Pa.isVal_5 hc1, Bool.eq_iff_iff]; simp only [Bool.and_eq_true, decide_eq_true_eq, Bool.not_eq_true', decide_eq_false_iff_not]; constructor <;> rintro ⟨⟨h1, h2⟩, h3⟩ <;> exact ⟨⟨h1, by omega⟩, h3⟩))
  · simp [-List.getD_eq_getElem?_getD] at hc1
    refine AW.seq ?_
    refine AW.region ?_
    refine RW.q (v := .bool (decide (x.Kind = 6))) rfl (q_eql rfl rfl) ?_
    refine RW.q (v := .bool (decide (x.Kind = 6))) rfl (q_assign rfl) ?_
    refine RW.nil ?_
    refine Post.then_n ?_
    refine AW.cond (b := decide (x.Kind = 6)) rfl (fun hc2 => ?_) (fun hc2 => ?_)
    · simp [-List.getD_eq_getElem?_getD] at hc2
      refine AW.seq ?_
      refine AW.seq ?_
      refine AW.region ?_
      refine RW.q (v := .pointer (some (⟨b1, 1, none⟩))) rfl (q_fieldAddr rfl Tryd.underlying26 rfl sz9 rfl) ?_
      refine RW.q (v := .string (bs x.Text)) rfl (q_load rfl Tryd.underlying9 rfl (Cell.blk 0 rfl rfl)) ?_
      refine RW.q (v := .bool (!decide (x.Text = ([] : List UInt8)))) rfl (q_neqStr (l := x.Text) (r := ([] : List UInt8)) rfl rfl) ?_
      refine RW.q (v := .bool (!decide (x.Text = ([] : List UInt8)))) rfl (q_move rfl) ?_
      refine RW.g (b := (!decide (x.Text = ([] : List UInt8)))) (v := .pointer (some (⟨b1, 2, none⟩))) rfl rfl rfl (fun h => q_fieldAddr rfl Tryd.underlying26 rfl sz23 rfl) ?_
      refine RW.g (b := (!decide (x.Text = ([] : List UInt8)))) (v := .agg #[.int .i64 x.N, .int .i64 x.Dim]) rfl rfl rfl (fun h => q_loadAgg (gv_pos h) Tryd.underlying23 rfl sz23 rfl (Cells.blkP (off := 2) 0 rfl (fun j u hu => (by rcases j with _ | (_ | _) <;> first | exact hu | cases hu)))) ?_
      refine RW.g (b := (!decide (x.Text = ([] : List UInt8)))) (v := .agg #[.int .i64 0, .int .i64 0]) rfl rfl rfl (fun h => q_build (vals := []) zero23 Tryd.underlying23 places23 rfl rfl) ?_
      refine RW.g (b := (!decide (x.Text = ([] : List UInt8)))) (v := .bool (!(decide (x.N = 0) && decide (x.Dim = 0)))) rfl rfl rfl (fun h => q_neqS (gv_pos h) (gv_pos h) (eqS23 _ _ _ _) eqG23) ?_
      obtain ⟨qb3, hqb3⟩ : ∃ qz : Bool, ((!decide (x.Text = ([] : List UInt8))) || (!(decide (x.N = 0) && decide (x.Dim = 0)))) = qz := ⟨_, rfl⟩
      refine RW.q (v := .bool qb3) rfl (q_as (v := .bool ((!decide (x.Text = ([] : List UInt8))) || (!(decide (x.N = 0) && decide (x.Dim = 0))))) (q_pick rfl (fun hp => pkOrT hp) (fun hp => (gv_pos hp).trans (pkOrF hp))) (congrArg Value.bool hqb3)) ?_
      refine RW.q (v := .bool qb3) rfl (q_move rfl) ?_
      refine RW.g (b := qb3) (v := .pointer (some (⟨b1, 5, none⟩))) rfl rfl rfl (fun h => q_fieldAddr rfl Tryd.underlying26 rfl sz24 rfl) ?_
      refine RW.g (b := qb3) (v := kv) rfl rfl rfl (fun h => q_load (gv_pos h) Tryd.underlying24 rfl (Cell.blk 0 rfl rfl)) ?_
      refine RW.g (b := qb3) (v := .int .i64 ((x.Kids.length : Nat) : Int)) rfl rfl rfl (fun h => q_len_sl (gv_pos h) hk.sl Tryd.underlying24) ?_
      refine RW.g (b := qb3) (v := .bool (decide (((x.Kids.length : Nat) : Int) = 0))) rfl rfl rfl (fun h => q_eql (gv_pos h) rfl) ?_
      obtain ⟨qb4, hqb4⟩ : ∃ qz : Bool, (qb3 || (decide (((x.Kids.length : Nat) : Int) = 0))) = qz := ⟨_, rfl⟩
      refine RW.q (v := .bool qb4) rfl (q_as (v := .bool (qb3 || (decide (((x.Kids.length : Nat) : Int) = 0)))) (q_pick rfl (fun hp => pkOrT hp) (fun hp => (gv_pos hp).trans (pkOrF hp))) (congrArg Value.bool hqb4)) ?_
      refine RW.q (v := .bool qb4) rfl (q_move rfl) ?_
      refine RW.g (b := qb4) (v := .int .i64 (g : Int)) rfl rfl rfl (fun h => q_move rfl) ?_
      refine RW.g (b := qb4) (v := .bool (decide ((40 : Int) ≤ (g : Int)))) rfl rfl rfl (fun h => q_geq (gv_pos h) rfl) ?_
      obtain ⟨qb5, hqb5⟩ : ∃ qz : Bool, (qb4 || (decide ((40 : Int) ≤ (g : Int)))) = qz := ⟨_, rfl⟩
      refine RW.q (v := .bool qb5) rfl (q_as (v := .bool (qb4 || (decide ((40 : Int) ≤ (g : Int))))) (q_pick rfl (fun hp => pkOrT hp) (fun hp => (gv_pos hp).trans (pkOrF hp))) (congrArg Value.bool hqb5)) ?_
      subst hqb5 hqb4 hqb3
      refine RW.nil ?_
      refine Post.then_n ?_
      refine AW.cond (b := ((((!decide (x.Text = ([] : List UInt8))) || (!(decide (x.N = 0) && decide (x.Dim = 0)))) || (decide (((x.Kids.length : Nat) : Int) = 0))) || (decide ((40 : Int) ≤ (g : Int))))) rfl (fun hc3 => ?_) (fun hc3 => ?_)
      · simp [-List.getD_eq_getElem?_getD] at hc3
        refine AW.seq ?_
        refine AW.region ?_
        refine RW.q (v := .bool false) rfl (q_assign rfl) ?_
        refine RW.nil ?_
        refine Post.then_n ?_
        refine AW.ret ?_
        refine Post.then_r (Post.blk_r (Post.then_r ?_))
        exact fin_val (v' := .bool false) rfl rfl rfl (congrArg Value.bool (by rw [Pa.isVal_6 hc2, eq_comm, Bool.eq_false_iff]; intro h9; simp only [Bool.and_eq_true, decide_eq_true_eq] at h9; obtain ⟨⟨⟨⟨h1, h2⟩, h3⟩, h4⟩, _⟩ := h9; simp [h1, h2] at hc3; rcases hc3 with h | h; exact h3 (by rw [h]; rfl); omega))
      · simp [-List.getD_eq_getElem?_getD] at hc3
        refine AW.skip ?_
        refine Post.then_n ?_
        refine AW.seq ?_
        refine AW.seq ?_
        refine AW.region ?_
        refine RW.q (v := .pointer (some (⟨b1, 5, none⟩))) rfl (q_fieldAddr rfl Tryd.underlying26 rfl sz24 rfl) ?_
        refine RW.q (v := kv) rfl (q_load rfl Tryd.underlying24 rfl (Cell.blk 0 rfl rfl)) ?_
        refine RW.q (v := .int .i64 ((x.Kids.length : Nat) : Int)) rfl (q_len_sl rfl hk.sl Tryd.underlying24) ?_
        refine RW.q (v := .int .i64 0) rfl (q_move rfl) ?_
        refine RW.nil ?_
        refine Post.then_n ?_
        refine AW.block ?_
        refine AW.loop (fun s J m => ∃ (i : Nat), s = [(1, .int .i64 (g : Int)), (2, .pointer (some (⟨b1, 0, none⟩))), (48, kv), (50, .int .i64 (i : Int)), (49, .int .i64 ((x.Kids.length : Nat) : Int))] ∧ J = St ⟨w, Φ, []⟩ Φ [.blk b1 26 [.int .i64 x.Kind, .string (bs x.Text), .int .i64 x.N, .int .i64 x.Dim, .int .i64 x.At, kv]] ∧ m = x.Kids.length - i ∧ (i ≤ x.Kids.length) ∧ (∀ j, j < i → Pa.isVal (g + 1) (x.Kids.getD j default) = true)) (s0 := _) (J1 := _) (m0 := _) ⟨0, rfl, rfl, rfl, (Nat.zero_le _), (fun j hj => absurd hj (Nat.not_lt_zero j))⟩ ⟨rfl, rfl, rfl, rfl, rfl, trivial⟩ (fun _ h => h) ?_
        rintro _ _ _ _ ⟨i, rfl, rfl, rfl, hil, hA⟩
        refine AW.seq ?_
        refine AW.region ?_
        refine RW.q (v := .bool (decide ((i : Int) < ((x.Kids.length : Nat) : Int)))) rfl (q_lss rfl rfl) ?_
        refine RW.nil ?_
        refine Post.then_n ?_
        refine AW.seq ?_
        refine AW.cond (b := decide ((i : Int) < ((x.Kids.length : Nat) : Int))) rfl (fun hc4 => ?_) (fun hc4 => ?_)
        · simp [-List.getD_eq_getElem?_getD] at hc4
          refine AW.skip ?_
          refine Post.then_n ?_
          refine AW.seq ?_
          refine AW.block ?_
          refine AW.seq ?_
          refine AW.region ?_
          refine RW.q (v := .pointer (some (Value.at kv (i * 6)))) rfl (q_indexAddr rfl rfl hk.sl Tryd.underlying24 sz26 (by omega) (by omega) rfl) ?_
          obtain ⟨cv1, hcr1, hcc1⟩ := RepSl.whole (k := i) hk (by omega)
          obtain ⟨sv1, hcE1, hcw1, hsv1⟩ := repN.1 hcr1
          subst hcE1
          refine RW.q (v := .agg #[.int .i64 ((x.Kids.getD i default).Kind), .string (bs ((x.Kids.getD i default).Text)), .int .i64 ((x.Kids.getD i default).N), .int .i64 ((x.Kids.getD i default).Dim), .int .i64 ((x.Kids.getD i default).At), sv1]) rfl (q_loadAgg rfl Tryd.underlying26 rfl sz26 rfl (Cells.phiK hcc1)) ?_
          refine RW.eff (fun b2 : Nat => .pointer (some (⟨b2, 0, none⟩))) (fun b2 => St ⟨w, Φ, []⟩ Φ [.blk b2 26 [.int .i64 0, .string (bs ([])), .int .i64 0, .int .i64 0, .int .i64 0, (.slice none 0 0)], .blk b1 26 [.int .i64 x.Kind, .string (bs x.Text), .int .i64 x.N, .int .i64 x.Dim, .int .i64 x.At, kv]]) rfl (e_alloc zero26) ?_
          intro b2
          refine RW.effn (J' := St ⟨w, Φ, []⟩ Φ [.blk b2 26 [.int .i64 ((x.Kids.getD i default).Kind), .string (bs ((x.Kids.getD i default).Text)), .int .i64 ((x.Kids.getD i default).N), .int .i64 ((x.Kids.getD i default).Dim), .int .i64 ((x.Kids.getD i default).At), sv1], .blk b1 26 [.int .i64 x.Kind, .string (bs x.Text), .int .i64 x.N, .int .i64 x.Dim, .int .i64 x.At, kv]]) (e_store (v := .agg #[.int .i64 ((x.Kids.getD i default).Kind), .string (bs ((x.Kids.getD i default).Text)), .int .i64 ((x.Kids.getD i default).N), .int .i64 ((x.Kids.getD i default).Dim), .int .i64 ((x.Kids.getD i default).At), sv1]) 0 rfl rfl rfl sz26 rfl (List.all_eq_true.2 (fun u hu => Rep.one (show Rep.rep _ _ _ from hcr1) u hu)) rfl rfl rfl) ?_
          refine RW.nil ?_
          refine Post.then_n ?_
          refine AW.seq ?_
          refine AW.region ?_
          refine RW.q (v := .agg #[.int .i64 ((x.Kids.getD i default).Kind), .string (bs ((x.Kids.getD i default).Text)), .int .i64 ((x.Kids.getD i default).N), .int .i64 ((x.Kids.getD i default).Dim), .int .i64 ((x.Kids.getD i default).At), sv1]) rfl (q_loadAgg rfl Tryd.underlying26 rfl sz26 rfl (Cells.blk 0 rfl)) ?_
          refine RW.q (v := .int .i64 (g : Int)) rfl (q_move rfl) ?_
          refine RW.q (v := .int .i64 ((g + 1 : Nat) : Int)) rfl (q_add rfl rfl (by omega) (by unfold I64; omega)) ?_
          refine RW.q (v := .bool (Pa.isVal (g + 1) (x.Kids.getD i default))) rfl (q_call (args := #[.agg #[.int .i64 ((x.Kids.getD i default).Kind), .string (bs ((x.Kids.getD i default).Text)), .int .i64 ((x.Kids.getD i default).N), .int .i64 ((x.Kids.getD i default).Dim), .int .i64 ((x.Kids.getD i default).At), sv1], .int .i64 ((g + 1 : Nat) : Int)]) own51 rfl rfl (fun w1 hw1 => ih i (by omega) w1 (Go.K.hp w1) (Hp.le_refl _) (hG.mono hw1.phi) (hsv1.mono hw1.phi) hcw1 (by omega))) ?_
          refine RW.q (v := .bool (!(Pa.isVal (g + 1) (x.Kids.getD i default)))) rfl (q_not rfl) ?_
          refine RW.nil ?_
          refine Post.then_n ?_
          refine AW.cond (b := !(Pa.isVal (g + 1) (x.Kids.getD i default))) rfl (fun hc5 => ?_) (fun hc5 => ?_)
          · simp [-List.getD_eq_getElem?_getD] at hc5
            refine AW.seq ?_
            refine AW.region ?_
            refine RW.q (v := .bool false) rfl (q_assign rfl) ?_
            refine RW.nil ?_
            refine Post.then_n ?_
            refine AW.ret ?_
            refine Post.blk_r (Post.then_r (Post.then_r (Post.blk_r (Post.then_r (Post.blk_r (Post.then_r ?_))))))
            exact fin_val (v' := .bool false) rfl rfl rfl (congrArg Value.bool (by rw [Pa.isVal_6 hc2, eq_comm, Bool.eq_false_iff]; intro h9; simp only [Bool.and_eq_true, decide_eq_true_eq] at h9; have h8 := h9.2 i (by omega); rw [h8] at hc5; cases hc5))
          · simp [-List.getD_eq_getElem?_getD] at hc5
            refine AW.skip ?_
            refine Post.blk_n (Post.then_n ?_)
            refine AW.region ?_
            refine RW.q (v := .int .i64 ((i + 1 : Nat) : Int)) rfl (q_add rfl rfl (by omega) (by unfold I64; omega)) ?_
            refine RW.q (v := .int .i64 ((i + 1 : Nat) : Int)) rfl (q_move rfl) ?_
            refine RW.nil ?_
            exact Post.back (s' := _) (J' := _) (m' := _) (by omega) ⟨i + 1, rfl, rfl, rfl, (by omega), (fun j hj => (by by_cases h9 : j = i; (subst h9; assumption); exact hA j (by omega)))⟩ ⟨rfl, rfl, rfl, rfl, rfl, trivial⟩ (fun _ h => StP.drop h (by exact .cons _ (.cons_cons _ (.slnil))))
        · simp [-List.getD_eq_getElem?_getD] at hc4
          refine AW.exit ?_
          refine Post.then_x (Post.then_x (Post.blk_hit (Post.then_n ?_)))
          refine AW.seq ?_
          refine AW.region ?_
          refine RW.q (v := .bool true) rfl (q_assign rfl) ?_
          refine RW.nil ?_
          refine Post.then_n ?_
          refine AW.ret ?_
          refine Post.blk_r (Post.then_r ?_)
          exact fin_val (v' := .bool true) rfl rfl rfl (congrArg Value.bool (by rw [Pa.isVal_6 hc2, eq_comm]; simp only [Bool.and_eq_true, decide_eq_true_eq]; exact ⟨⟨⟨⟨hc3.1.1.1, hc3.1.1.2⟩, fun h => hc3.1.2 (List.length_eq_zero_iff.1 h)⟩, by omega⟩, fun j hj => hA j (by omega)⟩))
    · simp [-List.getD_eq_getElem?_getD] at hc2
      refine AW.skip ?_
      refine Post.blk_n (Post.then_n ?_)
      refine AW.seq ?_
      refine AW.region ?_
      refine RW.q (v := .agg #[.int .i64 x.Kind, .string (bs x.Text), .int .i64 x.N, .int .i64 x.Dim, .int .i64 x.At, kv]) rfl (q_loadAgg rfl Tryd.underlying26 rfl sz26 rfl (Cells.blk 0 rfl)) ?_
      refine RW.q (v := .bool (Pa.isWord x)) rfl (q_call (args := #[.agg #[.int .i64 x.Kind, .string (bs x.Text), .int .i64 x.N, .int .i64 x.Dim, .int .i64 x.At, kv]]) own35 rfl rfl (fun w1 hw1 => isWord_c w1 (Go.K.hp w1) (Hp.le_refl _) (hk.mono hw1.phi) hwx)) ?_
      refine RW.q (v := .bool (Pa.isWord x)) rfl (q_assign rfl) ?_
      refine RW.nil ?_
      refine Post.then_n ?_
      refine AW.ret ?_
      exact fin_val (v' := .bool (Pa.isWord x)) rfl rfl rfl (congrArg Value.bool (Pa.isVal_w hc1 hc2).symm)

theorem isValue_c : ∀ (x : Bt.Node) (w : World) (Φ : Hp), Hp.le Φ (hp w) → Knows Φ Glob → ∀ {kv : Value}, RepSl Φ x.Kids kv → wfN x → ∀ {g : Nat}, g ≤ 40 → Calls Tryd.prog 51 #[.agg (ndC x kv).toArray, .int .i64 (g : Int)] w fun e w' => e = .returned (.bool (Pa.isVal g x)) ∧ Bel w.heap.size w w'
  | ⟨k, t, n, d, a, ks⟩, w, Φ, hΦ, hG, kv, hk, hwx, g, hg => isValue_s w Φ hΦ hG hk hwx hg fun j hj w1 Φ1 hΦ1 hG1 kv1 hk1 hw1 g1 hg1 => isValue_c (ks.getD j default) w1 Φ1 hΦ1 hG1 hk1 hw1 hg1
termination_by x => SizeOf.sizeOf x
decreasing_by
  have hlt : j < ks.length := hj
  rw [List.getD_eq_getElem?_getD, List.getElem?_eq_getElem hlt, Option.getD_some]
  have h9 := List.sizeOf_lt_of_mem (List.getElem_mem hlt)
  simp only [Bt.Node.mk.sizeOf_spec]; omega

end Go.Proofs.YtjcahklnkakklaaDoor
