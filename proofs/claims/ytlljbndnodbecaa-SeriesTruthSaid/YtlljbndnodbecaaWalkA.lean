/- Walks (part WalkA), printed by walk2.py. Conditions: those of each theorem. -/
import Derived.Test.YtlljbndnodbecaaLibA
import Derived.Test.YtlljbndnodbecaaPlainC
namespace Go.Proofs.Ytlljbndnodbecaa
open Go Go.K Go.RowKit

set_option maxRecDepth 8000 in
set_option maxHeartbeats 1000000 in
theorem isNaN_c (w : World) (Φ : Hp) (hΦ : Hp.le Φ (hp w)) {x : Int} :
    Calls Try.prog 43 #[.int .i64 x] w fun e w' => e = .returned (.bool false) ∧ Bel w.heap.size w w' := by
  refine calls_of_AW (args := [.int .i64 x]) Try.func43 rfl (Nat.le_of_ble_eq_true rfl) (St ⟨w, Φ, []⟩ Φ []) (StP.init w Φ hΦ []) ?_
  show AW Try.prog 6 [] _ _ _ [(0, .int .i64 x)] _
  refine AW.seq ?_
  refine AW.region ?_
  refine RW.q (v := .bool false) rfl (q_assign rfl) ?_
  refine RW.nil ?_
  refine Post.then_n ?_
  refine AW.seq ?_
  refine AW.region ?_
  refine RW.q (v := .int .i64 x) rfl (q_move rfl) ?_
  refine RW.q (v := .int .i64 x) rfl (q_move rfl) ?_
  refine RW.q (v := .bool (!decide (x = x))) rfl (q_neq rfl rfl) ?_
  refine RW.q (v := .bool (!decide (x = x))) rfl (q_assign rfl) ?_
  refine RW.nil ?_
  refine Post.then_n ?_
  refine AW.ret ?_
  exact fin_val (v' := .bool (!decide (x = x))) rfl rfl rfl (by simp)

set_option maxRecDepth 8000 in
set_option maxHeartbeats 1000000 in
theorem Compare_c (w : World) (Φ : Hp) (hΦ : Hp.le Φ (hp w)) {x y : Int} :
    Calls Try.prog 34 #[.int .i64 x, .int .i64 y] w fun e w' => e = .returned (.int .i64 (Se.cI x y)) ∧ Bel w.heap.size w w' := by
  refine calls_of_AW (args := [.int .i64 x, .int .i64 y]) Try.func34 rfl (Nat.le_of_ble_eq_true rfl) (St ⟨w, Φ, []⟩ Φ []) (StP.init w Φ hΦ []) ?_
  show AW Try.prog 20 [] _ _ _ [(0, .int .i64 x), (1, .int .i64 y)] _
  refine AW.seq ?_
  refine AW.region ?_
  refine RW.q (v := .int .i64 0) rfl (q_assign rfl) ?_
  refine RW.nil ?_
  refine Post.then_n ?_
  refine AW.seq ?_
  refine AW.region ?_
  refine RW.q (v := .int .i64 x) rfl (q_move rfl) ?_
  refine RW.q (v := .bool false) rfl (q_call (args := #[.int .i64 x]) own43 rfl rfl (fun w1 hw1 => isNaN_c w1 (Go.K.hp w1) (Hp.le_refl _))) ?_
  refine RW.q (v := .bool false) rfl (q_assign rfl) ?_
  refine RW.nil ?_
  refine Post.then_n ?_
  refine AW.seq ?_
  refine AW.region ?_
  refine RW.q (v := .int .i64 y) rfl (q_move rfl) ?_
  refine RW.q (v := .bool false) rfl (q_call (args := #[.int .i64 y]) own43 rfl rfl (fun w1 hw1 => isNaN_c w1 (Go.K.hp w1) (Hp.le_refl _))) ?_
  refine RW.q (v := .bool false) rfl (q_assign rfl) ?_
  refine RW.nil ?_
  refine Post.then_n ?_
  refine AW.seq ?_
  refine AW.seq ?_
  refine AW.region ?_
  refine RW.q (v := .bool false) rfl (q_move rfl) ?_
  refine RW.nil ?_
  refine Post.then_n ?_
  refine AW.cond (b := false) rfl (fun hc1 => ?_) (fun hc1 => ?_)
  · cases hc1
  · skip
    refine AW.skip ?_
    refine Post.then_n ?_
    refine AW.seq ?_
    refine AW.seq ?_
    refine AW.region ?_
    refine RW.q (v := .bool false) rfl (q_move rfl) ?_
    refine RW.nil ?_
    refine Post.then_n ?_
    refine AW.cond (b := false) rfl (fun hc2 => ?_) (fun hc2 => ?_)
    · cases hc2
    · skip
      refine AW.skip ?_
      refine Post.then_n ?_
      refine AW.seq ?_
      refine AW.seq ?_
      refine AW.region ?_
      refine RW.q (v := .int .i64 x) rfl (q_move rfl) ?_
      refine RW.q (v := .int .i64 y) rfl (q_move rfl) ?_
      refine RW.q (v := .bool (decide (x < y))) rfl (q_lss rfl rfl) ?_
      refine RW.nil ?_
      refine Post.then_n ?_
      refine AW.cond (b := decide (x < y)) rfl (fun hc3 => ?_) (fun hc3 => ?_)
      · simp [-List.getD_eq_getElem?_getD] at hc3
        refine AW.seq ?_
        refine AW.region ?_
        refine RW.q (v := .int .i64 (-1)) rfl (q_assign rfl) ?_
        refine RW.nil ?_
        refine Post.then_n ?_
        refine AW.ret ?_
        refine Post.then_r ?_
        exact fin_val (v' := .int .i64 (-1)) rfl rfl rfl (by unfold Se.cI; rw [if_pos (by omega)])
      · simp [-List.getD_eq_getElem?_getD] at hc3
        refine AW.skip ?_
        refine Post.then_n ?_
        refine AW.seq ?_
        refine AW.seq ?_
        refine AW.region ?_
        refine RW.q (v := .int .i64 x) rfl (q_move rfl) ?_
        refine RW.q (v := .int .i64 y) rfl (q_move rfl) ?_
        refine RW.q (v := .bool (decide (y < x))) rfl (q_gtr rfl rfl) ?_
        refine RW.nil ?_
        refine Post.then_n ?_
        refine AW.cond (b := decide (y < x)) rfl (fun hc4 => ?_) (fun hc4 => ?_)
        · simp [-List.getD_eq_getElem?_getD] at hc4
          refine AW.seq ?_
          refine AW.region ?_
          refine RW.q (v := .int .i64 1) rfl (q_assign rfl) ?_
          refine RW.nil ?_
          refine Post.then_n ?_
          refine AW.ret ?_
          refine Post.then_r ?_
          exact fin_val (v' := .int .i64 1) rfl rfl rfl (by unfold Se.cI; rw [if_neg (by omega), if_pos (by omega)])
        · simp [-List.getD_eq_getElem?_getD] at hc4
          refine AW.skip ?_
          refine Post.then_n ?_
          refine AW.seq ?_
          refine AW.region ?_
          refine RW.q (v := .int .i64 0) rfl (q_assign rfl) ?_
          refine RW.nil ?_
          refine Post.then_n ?_
          refine AW.ret ?_
          exact fin_val (v' := .int .i64 0) rfl rfl rfl (by unfold Se.cI; rw [if_neg (by omega), if_neg (by omega)])

set_option maxRecDepth 8000 in
set_option maxHeartbeats 1000000 in
theorem CompStr_c (w : World) (Φ : Hp) (hΦ : Hp.le Φ (hp w)) {x y : ByteArray} :
    Calls Try.prog 54 #[.string x, .string y] w fun e w' => e = .returned (.int .i64 (Lib.compareBytes x.data.toList y.data.toList)) ∧ Bel w.heap.size w w' := by
  refine calls_of_AW (args := [.string x, .string y]) Try.func54 rfl (Nat.le_of_ble_eq_true rfl) (St ⟨w, Φ, []⟩ Φ []) (StP.init w Φ hΦ []) ?_
  show AW Try.prog 8 [] _ _ _ [(0, .string x), (1, .string y)] _
  refine AW.seq ?_
  refine AW.region ?_
  refine RW.q (v := .int .i64 0) rfl (q_assign rfl) ?_
  refine RW.nil ?_
  refine Post.then_n ?_
  refine AW.seq ?_
  refine AW.region ?_
  refine RW.q (v := .string x) rfl (q_move rfl) ?_
  refine RW.q (v := .string y) rfl (q_move rfl) ?_
  refine RW.q (v := .int .i64 (Lib.compareBytes x.data.toList y.data.toList)) rfl (q_ext (e := Extern.BytealgCompare.compare) (args := [.string x, .string y]) Try.func68 rfl rfl (by kernel_rfl) (by kernel_rfl) rfl rfl (Lib.run_compareString _ _)) ?_
  refine RW.q (v := .int .i64 (Lib.compareBytes x.data.toList y.data.toList)) rfl (q_assign rfl) ?_
  refine RW.nil ?_
  refine Post.then_n ?_
  refine AW.ret ?_
  exact fin_val (v' := .int .i64 (Lib.compareBytes x.data.toList y.data.toList)) rfl rfl rfl (rfl)

set_option maxRecDepth 8000 in
set_option maxHeartbeats 1000000 in
theorem sCompare_c (w : World) (Φ : Hp) (hΦ : Hp.le Φ (hp w)) {x y : ByteArray} :
    Calls Try.prog 39 #[.string x, .string y] w fun e w' => e = .returned (.int .i64 (Lib.compareBytes x.data.toList y.data.toList)) ∧ Bel w.heap.size w w' := by
  refine calls_of_AW (args := [.string x, .string y]) Try.func39 rfl (Nat.le_of_ble_eq_true rfl) (St ⟨w, Φ, []⟩ Φ []) (StP.init w Φ hΦ []) ?_
  show AW Try.prog 8 [] _ _ _ [(0, .string x), (1, .string y)] _
  refine AW.seq ?_
  refine AW.region ?_
  refine RW.q (v := .int .i64 0) rfl (q_assign rfl) ?_
  refine RW.nil ?_
  refine Post.then_n ?_
  refine AW.seq ?_
  refine AW.region ?_
  refine RW.q (v := .string x) rfl (q_move rfl) ?_
  refine RW.q (v := .string y) rfl (q_move rfl) ?_
  refine RW.q (v := .int .i64 (Lib.compareBytes x.data.toList y.data.toList)) rfl (q_call (args := #[.string x, .string y]) own54 rfl rfl (fun w1 hw1 => CompStr_c w1 (Go.K.hp w1) (Hp.le_refl _))) ?_
  refine RW.q (v := .int .i64 (Lib.compareBytes x.data.toList y.data.toList)) rfl (q_assign rfl) ?_
  refine RW.nil ?_
  refine Post.then_n ?_
  refine AW.ret ?_
  exact fin_val (v' := .int .i64 (Lib.compareBytes x.data.toList y.data.toList)) rfl rfl rfl (rfl)

set_option maxRecDepth 8000 in
set_option maxHeartbeats 1000000 in
theorem Or_c (w : World) (Φ : Hp) (hΦ : Hp.le Φ (hp w)) {xs : List Int} {v1 : Value} (h1 : RepSl Φ xs v1) :
    Calls Try.prog 33 #[v1] w fun e w' => e = .returned (.int .i64 (Se.orL xs)) ∧ Bel w.heap.size w w' := by
  refine calls_of_AW (args := [v1]) Try.func33 rfl (Nat.le_of_ble_eq_true rfl) (St ⟨w, Φ, []⟩ Φ []) (StP.init w Φ hΦ []) ?_
  show AW Try.prog 18 [] _ _ _ [(0, v1)] _
  have hm1 : xs.length * 8 ≤ 140737488355328 := h1.max
  refine AW.seq ?_
  refine AW.region ?_
  refine RW.q (v := .int .i64 0) rfl (q_assign rfl) ?_
  refine RW.nil ?_
  refine Post.then_n ?_
  refine AW.seq ?_
  refine AW.region ?_
  refine RW.q (v := .int .i64 0) rfl (q_assign rfl) ?_
  refine RW.nil ?_
  refine Post.then_n ?_
  refine AW.seq ?_
  refine AW.seq ?_
  refine AW.region ?_
  refine RW.q (v := v1) rfl (q_move rfl) ?_
  refine RW.q (v := .int .i64 ((xs.length : Nat) : Int)) rfl (q_len_sl rfl h1.sl Try.underlying39) ?_
  refine RW.q (v := .int .i64 0) rfl (q_move rfl) ?_
  refine RW.nil ?_
  refine Post.then_n ?_
  refine AW.block ?_
  refine AW.loop (fun s J m => ∃ (k : Nat), s = [(3, .int .i64 0), (6, v1), (7, .int .i64 ((xs.length : Nat) : Int)), (8, .int .i64 (k : Int))] ∧ J = St ⟨w, Φ, []⟩ Φ [] ∧ m = xs.length - k ∧ (k ≤ xs.length) ∧ (∀ j, j < k → xs.getD j 0 = 0)) (s0 := _) (J1 := _) (m0 := _) ⟨0, rfl, rfl, rfl, (by omega), (by omega)⟩ ⟨rfl, rfl, rfl, rfl, trivial⟩ (fun _ h => h) ?_
  rintro _ _ _ _ ⟨k, rfl, rfl, rfl, hk, hz⟩
  refine AW.seq ?_
  refine AW.region ?_
  refine RW.q (v := .bool (decide ((k : Int) < ((xs.length : Nat) : Int)))) rfl (q_lss rfl rfl) ?_
  refine RW.nil ?_
  refine Post.then_n ?_
  refine AW.seq ?_
  refine AW.cond (b := decide ((k : Int) < ((xs.length : Nat) : Int))) rfl (fun hc1 => ?_) (fun hc1 => ?_)
  · simp [-List.getD_eq_getElem?_getD] at hc1
    refine AW.skip ?_
    refine Post.then_n ?_
    refine AW.seq ?_
    refine AW.block ?_
    refine AW.seq ?_
    refine AW.region ?_
    refine RW.q (v := .pointer (some (Value.at v1 (k * 1)))) rfl (q_indexAddr rfl rfl h1.sl Try.underlying39 sz3 (by omega) (by omega) rfl) ?_
    refine RW.q (v := .int .i64 (xs.getD k 0)) rfl (q_load rfl Try.underlying3 rfl (Cell.repInt h1 (by omega))) ?_
    refine RW.q (v := .int .i64 (xs.getD k 0)) rfl (q_assign rfl) ?_
    refine RW.nil ?_
    refine Post.then_n ?_
    refine AW.seq ?_
    refine AW.region ?_
    refine RW.q (v := .int .i64 (xs.getD k 0)) rfl (q_move rfl) ?_
    refine RW.q (v := .int .i64 0) rfl (q_move rfl) ?_
    refine RW.q (v := .bool (!decide (xs.getD k 0 = 0))) rfl (q_neq rfl rfl) ?_
    refine RW.nil ?_
    refine Post.then_n ?_
    refine AW.cond (b := !decide (xs.getD k 0 = 0)) rfl (fun hc2 => ?_) (fun hc2 => ?_)
    · simp [-List.getD_eq_getElem?_getD] at hc2
      refine AW.seq ?_
      refine AW.region ?_
      refine RW.q (v := .int .i64 (xs.getD k 0)) rfl (q_move rfl) ?_
      refine RW.q (v := .int .i64 (xs.getD k 0)) rfl (q_assign rfl) ?_
      refine RW.nil ?_
      refine Post.then_n ?_
      refine AW.ret ?_
      refine Post.blk_r (Post.then_r (Post.then_r (Post.blk_r (Post.then_r ?_))))
      exact fin_val (v' := .int .i64 (xs.getD k 0)) rfl rfl rfl (by rw [Se.orL_hit (by omega) hz hc2])
    · simp [-List.getD_eq_getElem?_getD] at hc2
      refine AW.skip ?_
      refine Post.blk_n (Post.then_n ?_)
      refine AW.region ?_
      refine RW.q (v := .int .i64 ((k + 1 : Nat) : Int)) rfl (q_add rfl rfl (by omega) (by unfold I64; omega)) ?_
      refine RW.q (v := .int .i64 ((k + 1 : Nat) : Int)) rfl (q_move rfl) ?_
      refine RW.nil ?_
      exact Post.back (s' := _) (J' := _) (m' := _) (by omega) ⟨k + 1, rfl, rfl, rfl, (by omega), (Se.lt_succ hz (by omega))⟩ ⟨rfl, rfl, rfl, rfl, trivial⟩ (fun _ h => h)
  · simp [-List.getD_eq_getElem?_getD] at hc1
    refine AW.exit ?_
    refine Post.then_x (Post.then_x (Post.blk_hit (Post.then_n ?_)))
    refine AW.seq ?_
    refine AW.region ?_
    refine RW.q (v := .int .i64 0) rfl (q_move rfl) ?_
    refine RW.q (v := .int .i64 0) rfl (q_assign rfl) ?_
    refine RW.nil ?_
    refine Post.then_n ?_
    refine AW.ret ?_
    exact fin_val (v' := .int .i64 0) rfl rfl rfl (by rw [Se.orL_miss (fun j hj => hz j (by omega))])

set_option maxRecDepth 8000 in
set_option maxHeartbeats 1000000 in
theorem compare_c (w : World) (Φ : Hp) (hΦ : Hp.le Φ (hp w)) {x y : Bt.Gram} :
    Calls Try.prog 23 #[.agg #[.int .i64 x.Gauge, .int .i64 x.Seq, .int .i64 x.Clock, .int .i64 x.Value, .string x.Tag], .agg #[.int .i64 y.Gauge, .int .i64 y.Seq, .int .i64 y.Clock, .int .i64 y.Value, .string y.Tag]] w fun e w' => e = .returned (.int .i64 (Se.cG x y)) ∧ Bel w.heap.size w w' := by
  refine calls_of_AW (args := [.agg #[.int .i64 x.Gauge, .int .i64 x.Seq, .int .i64 x.Clock, .int .i64 x.Value, .string x.Tag], .agg #[.int .i64 y.Gauge, .int .i64 y.Seq, .int .i64 y.Clock, .int .i64 y.Value, .string y.Tag]]) Try.func23 rfl (Nat.le_of_ble_eq_true rfl) (St ⟨w, Φ, []⟩ Φ []) (StP.init w Φ hΦ []) ?_
  show AW Try.prog 32 [] _ _ _ [(0, .agg #[.int .i64 x.Gauge, .int .i64 x.Seq, .int .i64 x.Clock, .int .i64 x.Value, .string x.Tag]), (1, .agg #[.int .i64 y.Gauge, .int .i64 y.Seq, .int .i64 y.Clock, .int .i64 y.Value, .string y.Tag])] _
  refine AW.seq ?_
  refine AW.region ?_
  refine RW.eff (fun b1 : Nat => .pointer (some (⟨b1, 0, none⟩))) (fun b1 => St ⟨w, Φ, []⟩ Φ [.blk b1 29 [.int .i64 x.Gauge, .int .i64 x.Seq, .int .i64 x.Clock, .int .i64 x.Value, .string x.Tag]]) rfl (e_boxA (cs := [.int .i64 x.Gauge, .int .i64 x.Seq, .int .i64 x.Clock, .int .i64 x.Value, .string x.Tag]) rfl) ?_
  intro b1
  refine RW.eff (fun b2 : Nat => .pointer (some (⟨b2, 0, none⟩))) (fun b2 => St ⟨w, Φ, []⟩ Φ [.blk b2 29 [.int .i64 y.Gauge, .int .i64 y.Seq, .int .i64 y.Clock, .int .i64 y.Value, .string y.Tag], .blk b1 29 [.int .i64 x.Gauge, .int .i64 x.Seq, .int .i64 x.Clock, .int .i64 x.Value, .string x.Tag]]) rfl (e_boxA (cs := [.int .i64 y.Gauge, .int .i64 y.Seq, .int .i64 y.Clock, .int .i64 y.Value, .string y.Tag]) rfl) ?_
  intro b2
  refine RW.q (v := .int .i64 0) rfl (q_assign rfl) ?_
  refine RW.nil ?_
  refine Post.then_n ?_
  refine AW.seq ?_
  refine AW.draw (J0 := St ⟨w, Φ, []⟩ Φ [.blk b2 29 [.int .i64 y.Gauge, .int .i64 y.Seq, .int .i64 y.Clock, .int .i64 y.Value, .string y.Tag], .blk b1 29 [.int .i64 x.Gauge, .int .i64 x.Seq, .int .i64 x.Clock, .int .i64 x.Value, .string x.Tag]]) [.q, .q, .q, .q, .q, .q, .q, .q, .q, .q, .q, .q, .q, .q, .q, .q, .q, .q, .q, .q, .q, .q, .q, .q, .q, .e, .e, .q] [0, 1, 2, 3, 4, 5, 6, 7, 8, 9, 10, 11, 12, 13, 14, 15, 16, 17, 18, 19, 20, 21, 22, 23, 24, 25, 26, 27] hmix (by kernel_rfl) ?_
  refine DW.q (v := .pointer (some (⟨b1, 0, none⟩))) (fun _ h => h) rfl (q_fieldAddr rfl Try.underlying29 rfl sz3 rfl) ?_
  refine DW.q (v := .int .i64 x.Gauge) (fun _ h => h) rfl (q_load rfl Try.underlying3 rfl (Cell.blk 1 rfl rfl)) ?_
  refine DW.q (v := .pointer (some (⟨b2, 0, none⟩))) (fun _ h => h) rfl (q_fieldAddr rfl Try.underlying29 rfl sz3 rfl) ?_
  refine DW.q (v := .int .i64 y.Gauge) (fun _ h => h) rfl (q_load rfl Try.underlying3 rfl (Cell.blk 0 rfl rfl)) ?_
  refine DW.q (v := .int .i64 (Se.cI x.Gauge y.Gauge)) (fun _ h => h) rfl (q_call (args := #[.int .i64 x.Gauge, .int .i64 y.Gauge]) own34 rfl rfl (fun w1 hw1 => Compare_c w1 (Go.K.hp w1) (Hp.le_refl _))) ?_
  refine DW.q (v := .pointer (some (⟨b1, 1, none⟩))) (fun _ h => h) rfl (q_fieldAddr rfl Try.underlying29 rfl sz3 rfl) ?_
  refine DW.q (v := .int .i64 x.Seq) (fun _ h => h) rfl (q_load rfl Try.underlying3 rfl (Cell.blk 1 rfl rfl)) ?_
  refine DW.q (v := .pointer (some (⟨b2, 1, none⟩))) (fun _ h => h) rfl (q_fieldAddr rfl Try.underlying29 rfl sz3 rfl) ?_
  refine DW.q (v := .int .i64 y.Seq) (fun _ h => h) rfl (q_load rfl Try.underlying3 rfl (Cell.blk 0 rfl rfl)) ?_
  refine DW.q (v := .int .i64 (Se.cI x.Seq y.Seq)) (fun _ h => h) rfl (q_call (args := #[.int .i64 x.Seq, .int .i64 y.Seq]) own34 rfl rfl (fun w1 hw1 => Compare_c w1 (Go.K.hp w1) (Hp.le_refl _))) ?_
  refine DW.q (v := .pointer (some (⟨b1, 2, none⟩))) (fun _ h => h) rfl (q_fieldAddr rfl Try.underlying29 rfl sz3 rfl) ?_
  refine DW.q (v := .int .i64 x.Clock) (fun _ h => h) rfl (q_load rfl Try.underlying3 rfl (Cell.blk 1 rfl rfl)) ?_
  refine DW.q (v := .pointer (some (⟨b2, 2, none⟩))) (fun _ h => h) rfl (q_fieldAddr rfl Try.underlying29 rfl sz3 rfl) ?_
  refine DW.q (v := .int .i64 y.Clock) (fun _ h => h) rfl (q_load rfl Try.underlying3 rfl (Cell.blk 0 rfl rfl)) ?_
  refine DW.q (v := .int .i64 (Se.cI x.Clock y.Clock)) (fun _ h => h) rfl (q_call (args := #[.int .i64 x.Clock, .int .i64 y.Clock]) own34 rfl rfl (fun w1 hw1 => Compare_c w1 (Go.K.hp w1) (Hp.le_refl _))) ?_
  refine DW.q (v := .pointer (some (⟨b1, 3, none⟩))) (fun _ h => h) rfl (q_fieldAddr rfl Try.underlying29 rfl sz3 rfl) ?_
  refine DW.q (v := .int .i64 x.Value) (fun _ h => h) rfl (q_load rfl Try.underlying3 rfl (Cell.blk 1 rfl rfl)) ?_
  refine DW.q (v := .pointer (some (⟨b2, 3, none⟩))) (fun _ h => h) rfl (q_fieldAddr rfl Try.underlying29 rfl sz3 rfl) ?_
  refine DW.q (v := .int .i64 y.Value) (fun _ h => h) rfl (q_load rfl Try.underlying3 rfl (Cell.blk 0 rfl rfl)) ?_
  refine DW.q (v := .int .i64 (Se.cI x.Value y.Value)) (fun _ h => h) rfl (q_call (args := #[.int .i64 x.Value, .int .i64 y.Value]) own34 rfl rfl (fun w1 hw1 => Compare_c w1 (Go.K.hp w1) (Hp.le_refl _))) ?_
  refine DW.q (v := .pointer (some (⟨b1, 4, none⟩))) (fun _ h => h) rfl (q_fieldAddr rfl Try.underlying29 rfl sz9 rfl) ?_
  refine DW.q (v := .string x.Tag) (fun _ h => h) rfl (q_load rfl Try.underlying9 rfl (Cell.blk 1 rfl rfl)) ?_
  refine DW.q (v := .pointer (some (⟨b2, 4, none⟩))) (fun _ h => h) rfl (q_fieldAddr rfl Try.underlying29 rfl sz9 rfl) ?_
  refine DW.q (v := .string y.Tag) (fun _ h => h) rfl (q_load rfl Try.underlying9 rfl (Cell.blk 0 rfl rfl)) ?_
  refine DW.q (v := .int .i64 (Lib.compareBytes x.Tag.data.toList y.Tag.data.toList)) (fun _ h => h) rfl (q_call (args := #[.string x.Tag, .string y.Tag]) own39 rfl rfl (fun w1 hw1 => sCompare_c w1 (Go.K.hp w1) (Hp.le_refl _))) ?_
  refine DW.eff (fun b3 : Nat => (.slice (some ⟨b3, 0, none⟩) 5 5)) (fun b3 => St ⟨w, Φ, []⟩ Φ [.row (.slice (some ⟨b3, 0, none⟩) 5 5) 3 1 5 ([.int .i64 (Se.cI x.Gauge y.Gauge), .int .i64 (Se.cI x.Seq y.Seq), .int .i64 (Se.cI x.Clock y.Clock), .int .i64 (Se.cI x.Value y.Value), .int .i64 (Lib.compareBytes x.Tag.data.toList y.Tag.data.toList)]), .blk b2 29 [.int .i64 y.Gauge, .int .i64 y.Seq, .int .i64 y.Clock, .int .i64 y.Value, .string y.Tag], .blk b1 29 [.int .i64 x.Gauge, .int .i64 x.Seq, .int .i64 x.Clock, .int .i64 x.Value, .string x.Tag]]) (fun _ _ => (fun _ h => (StP.drop h (by exact .cons _ (.cons_cons _ (.cons_cons _ (.slnil))))))) rfl (e_buildSlice (vals := [(0, .int .i64 (Se.cI x.Gauge y.Gauge)), (1, .int .i64 (Se.cI x.Seq y.Seq)), (2, .int .i64 (Se.cI x.Clock y.Clock)), (3, .int .i64 (Se.cI x.Value y.Value)), (4, .int .i64 (Lib.compareBytes x.Tag.data.toList y.Tag.data.toList))]) (cells := [.int .i64 (Se.cI x.Gauge y.Gauge), .int .i64 (Se.cI x.Seq y.Seq), .int .i64 (Se.cI x.Clock y.Clock), .int .i64 (Se.cI x.Value y.Value), .int .i64 (Lib.compareBytes x.Tag.data.toList y.Tag.data.toList)]) Try.underlying39 inf3 rfl rfl rfl (by kernel_rfl) rfl) ?_
  intro b3
  refine DW.qe (v := .int .i64 (Se.orL ([Se.cI x.Gauge y.Gauge, Se.cI x.Seq y.Seq, Se.cI x.Clock y.Clock, Se.cI x.Value y.Value, Lib.compareBytes x.Tag.data.toList y.Tag.data.toList] : List Int))) (fun _ => (fun _ h => (StP.drop h (by exact .cons _ (.cons_cons _ (.cons_cons _ (.slnil))))))) rfl (q_call (args := #[(.slice (some ⟨b3, 0, none⟩) 5 5)]) own33 rfl rfl (fun w1 hw1 => Or_c w1 (Go.K.hp w1) (Hp.le_refl _) (RowS.ints (xs := [Se.cI x.Gauge y.Gauge, Se.cI x.Seq y.Seq, Se.cI x.Clock y.Clock, Se.cI x.Value y.Value, Lib.compareBytes x.Tag.data.toList y.Tag.data.toList]) (show RowS (Go.K.hp w1) (.slice (some ⟨b3, 0, none⟩) 5 5) 3 1 (5) ([.int .i64 (Se.cI x.Gauge y.Gauge), .int .i64 (Se.cI x.Seq y.Seq), .int .i64 (Se.cI x.Clock y.Clock), .int .i64 (Se.cI x.Value y.Value), .int .i64 (Lib.compareBytes x.Tag.data.toList y.Tag.data.toList)]) from hw1.sat _ (List.mem_of_getElem? (i := 0) rfl)) (by decide) (Se.wf5 _ _ _ _ _ _ _ _ _ _)))) ?_
  refine DW.q (v := .int .i64 (Se.orL ([Se.cI x.Gauge y.Gauge, Se.cI x.Seq y.Seq, Se.cI x.Clock y.Clock, Se.cI x.Value y.Value, Lib.compareBytes x.Tag.data.toList y.Tag.data.toList] : List Int))) (fun _ h => (StP.drop h (by exact .cons _ (.cons_cons _ (.cons_cons _ (.slnil)))))) rfl (q_assign rfl) ?_
  refine DW.nil ?_
  refine Post.then_n ?_
  refine AW.ret ?_
  exact fin_val (v' := .int .i64 (Se.orL ([Se.cI x.Gauge y.Gauge, Se.cI x.Seq y.Seq, Se.cI x.Clock y.Clock, Se.cI x.Value y.Value, Lib.compareBytes x.Tag.data.toList y.Tag.data.toList] : List Int))) rfl rfl rfl (by rw [Se.cG_or])

set_option maxRecDepth 8000 in
set_option maxHeartbeats 1000000 in
theorem cmpR_c (w : World) (Φ : Hp) (hΦ : Hp.le Φ (hp w)) {x y : Bt.Reading} :
    Calls Try.prog 32 #[.agg #[.int .i64 x.Gauge, .int .i64 x.Hour, .int .i64 x.Value.Lo, .int .i64 x.Value.Hi], .agg #[.int .i64 y.Gauge, .int .i64 y.Hour, .int .i64 y.Value.Lo, .int .i64 y.Value.Hi]] w fun e w' => e = .returned (.int .i64 (Se.cR x y)) ∧ Bel w.heap.size w w' := by
  refine calls_of_AW (args := [.agg #[.int .i64 x.Gauge, .int .i64 x.Hour, .int .i64 x.Value.Lo, .int .i64 x.Value.Hi], .agg #[.int .i64 y.Gauge, .int .i64 y.Hour, .int .i64 y.Value.Lo, .int .i64 y.Value.Hi]]) Try.func32 rfl (Nat.le_of_ble_eq_true rfl) (St ⟨w, Φ, []⟩ Φ []) (StP.init w Φ hΦ []) ?_
  show AW Try.prog 17 [] _ _ _ [(0, .agg #[.int .i64 x.Gauge, .int .i64 x.Hour, .int .i64 x.Value.Lo, .int .i64 x.Value.Hi]), (1, .agg #[.int .i64 y.Gauge, .int .i64 y.Hour, .int .i64 y.Value.Lo, .int .i64 y.Value.Hi])] _
  refine AW.seq ?_
  refine AW.region ?_
  refine RW.eff (fun b1 : Nat => .pointer (some (⟨b1, 0, none⟩))) (fun b1 => St ⟨w, Φ, []⟩ Φ [.blk b1 49 [.int .i64 x.Gauge, .int .i64 x.Hour, .int .i64 x.Value.Lo, .int .i64 x.Value.Hi]]) rfl (e_boxA (cs := [.int .i64 x.Gauge, .int .i64 x.Hour, .int .i64 x.Value.Lo, .int .i64 x.Value.Hi]) rfl) ?_
  intro b1
  refine RW.eff (fun b2 : Nat => .pointer (some (⟨b2, 0, none⟩))) (fun b2 => St ⟨w, Φ, []⟩ Φ [.blk b2 49 [.int .i64 y.Gauge, .int .i64 y.Hour, .int .i64 y.Value.Lo, .int .i64 y.Value.Hi], .blk b1 49 [.int .i64 x.Gauge, .int .i64 x.Hour, .int .i64 x.Value.Lo, .int .i64 x.Value.Hi]]) rfl (e_boxA (cs := [.int .i64 y.Gauge, .int .i64 y.Hour, .int .i64 y.Value.Lo, .int .i64 y.Value.Hi]) rfl) ?_
  intro b2
  refine RW.q (v := .int .i64 0) rfl (q_assign rfl) ?_
  refine RW.nil ?_
  refine Post.then_n ?_
  refine AW.seq ?_
  refine AW.draw (J0 := St ⟨w, Φ, []⟩ Φ [.blk b2 49 [.int .i64 y.Gauge, .int .i64 y.Hour, .int .i64 y.Value.Lo, .int .i64 y.Value.Hi], .blk b1 49 [.int .i64 x.Gauge, .int .i64 x.Hour, .int .i64 x.Value.Lo, .int .i64 x.Value.Hi]]) [.q, .q, .q, .q, .q, .q, .q, .q, .q, .q, .e, .e, .q] [0, 1, 2, 3, 4, 5, 6, 7, 8, 9, 10, 11, 12] hmix (by kernel_rfl) ?_
  refine DW.q (v := .pointer (some (⟨b1, 1, none⟩))) (fun _ h => h) rfl (q_fieldAddr rfl Try.underlying49 rfl sz3 rfl) ?_
  refine DW.q (v := .int .i64 x.Hour) (fun _ h => h) rfl (q_load rfl Try.underlying3 rfl (Cell.blk 1 rfl rfl)) ?_
  refine DW.q (v := .pointer (some (⟨b2, 1, none⟩))) (fun _ h => h) rfl (q_fieldAddr rfl Try.underlying49 rfl sz3 rfl) ?_
  refine DW.q (v := .int .i64 y.Hour) (fun _ h => h) rfl (q_load rfl Try.underlying3 rfl (Cell.blk 0 rfl rfl)) ?_
  refine DW.q (v := .int .i64 (Se.cI x.Hour y.Hour)) (fun _ h => h) rfl (q_call (args := #[.int .i64 x.Hour, .int .i64 y.Hour]) own34 rfl rfl (fun w1 hw1 => Compare_c w1 (Go.K.hp w1) (Hp.le_refl _))) ?_
  refine DW.q (v := .pointer (some (⟨b1, 0, none⟩))) (fun _ h => h) rfl (q_fieldAddr rfl Try.underlying49 rfl sz3 rfl) ?_
  refine DW.q (v := .int .i64 x.Gauge) (fun _ h => h) rfl (q_load rfl Try.underlying3 rfl (Cell.blk 1 rfl rfl)) ?_
  refine DW.q (v := .pointer (some (⟨b2, 0, none⟩))) (fun _ h => h) rfl (q_fieldAddr rfl Try.underlying49 rfl sz3 rfl) ?_
  refine DW.q (v := .int .i64 y.Gauge) (fun _ h => h) rfl (q_load rfl Try.underlying3 rfl (Cell.blk 0 rfl rfl)) ?_
  refine DW.q (v := .int .i64 (Se.cI x.Gauge y.Gauge)) (fun _ h => h) rfl (q_call (args := #[.int .i64 x.Gauge, .int .i64 y.Gauge]) own34 rfl rfl (fun w1 hw1 => Compare_c w1 (Go.K.hp w1) (Hp.le_refl _))) ?_
  refine DW.eff (fun b3 : Nat => (.slice (some ⟨b3, 0, none⟩) 2 2)) (fun b3 => St ⟨w, Φ, []⟩ Φ [.row (.slice (some ⟨b3, 0, none⟩) 2 2) 3 1 2 ([.int .i64 (Se.cI x.Hour y.Hour), .int .i64 (Se.cI x.Gauge y.Gauge)]), .blk b2 49 [.int .i64 y.Gauge, .int .i64 y.Hour, .int .i64 y.Value.Lo, .int .i64 y.Value.Hi], .blk b1 49 [.int .i64 x.Gauge, .int .i64 x.Hour, .int .i64 x.Value.Lo, .int .i64 x.Value.Hi]]) (fun _ _ => (fun _ h => (StP.drop h (by exact .cons _ (.cons_cons _ (.cons_cons _ (.slnil))))))) rfl (e_buildSlice (vals := [(0, .int .i64 (Se.cI x.Hour y.Hour)), (1, .int .i64 (Se.cI x.Gauge y.Gauge))]) (cells := [.int .i64 (Se.cI x.Hour y.Hour), .int .i64 (Se.cI x.Gauge y.Gauge)]) Try.underlying39 inf3 rfl rfl rfl (by kernel_rfl) rfl) ?_
  intro b3
  refine DW.qe (v := .int .i64 (Se.orL ([Se.cI x.Hour y.Hour, Se.cI x.Gauge y.Gauge] : List Int))) (fun _ => (fun _ h => (StP.drop h (by exact .cons _ (.cons_cons _ (.cons_cons _ (.slnil))))))) rfl (q_call (args := #[(.slice (some ⟨b3, 0, none⟩) 2 2)]) own33 rfl rfl (fun w1 hw1 => Or_c w1 (Go.K.hp w1) (Hp.le_refl _) (RowS.ints (xs := [Se.cI x.Hour y.Hour, Se.cI x.Gauge y.Gauge]) (show RowS (Go.K.hp w1) (.slice (some ⟨b3, 0, none⟩) 2 2) 3 1 (2) ([.int .i64 (Se.cI x.Hour y.Hour), .int .i64 (Se.cI x.Gauge y.Gauge)]) from hw1.sat _ (List.mem_of_getElem? (i := 0) rfl)) (by decide) (Se.wf2 _ _ _ _)))) ?_
  refine DW.q (v := .int .i64 (Se.orL ([Se.cI x.Hour y.Hour, Se.cI x.Gauge y.Gauge] : List Int))) (fun _ h => (StP.drop h (by exact .cons _ (.cons_cons _ (.cons_cons _ (.slnil)))))) rfl (q_assign rfl) ?_
  refine DW.nil ?_
  refine Post.then_n ?_
  refine AW.ret ?_
  exact fin_val (v' := .int .i64 (Se.orL ([Se.cI x.Hour y.Hour, Se.cI x.Gauge y.Gauge] : List Int))) rfl rfl rfl (by rw [Se.cR_or])

end Go.Proofs.Ytlljbndnodbecaa
