/- Walks (part WalkC), printed by walk2.py. Conditions: those of each theorem. -/
import Derived.Test.YthiflhoobldioaaDoorWalkB
import Derived.Test.YthiflhoobldioaaDoorPlainB
namespace Go.Proofs.YthiflhoobldioaaDoor
open Go Go.K Go.RowKit

set_option maxRecDepth 8000 in
set_option maxHeartbeats 1000000 in
theorem Amount_c (w : World) (Φ : Hp) (hΦ : Hp.le Φ (hp w)) (hG : Knows Φ Glob) {l n : List UInt8} (hl : l.length ≤ 1099511627776) :
    Calls Tryd.prog 9 #[.string (bs l), .string (bs n)] w fun e w' => e = .returned (.tuple #[.agg #[.int .i64 ((Un.amt l n).1 : Int), .int .i64 ((Un.amt l n).2.1 : Int)], .int .i64 ((Un.amt l n).2.2 : Int)]) ∧ Below w.heap.size w w' := by
  refine calls_of_AW (args := [.string (bs l), .string (bs n)]) Tryd.func9 rfl (Nat.le_of_ble_eq_true rfl) (St ⟨w, Φ, []⟩ Φ []) (StP.init w Φ hΦ []) ?_
  show AW Tryd.prog 53 [] _ _ _ [(0, .string (bs l)), (1, .string (bs n))] _
  have hbl := Un.bef_len l
  have hal := Un.aft_len l
  refine AW.seq ?_
  refine AW.region ?_
  refine RW.eff (fun b1 : Nat => .pointer (some (⟨b1, 0, none⟩))) (fun b1 => St ⟨w, Φ, []⟩ Φ [.blk b1 23 [.int .i64 0, .int .i64 0]]) rfl (e_alloc zero23) ?_
  intro b1
  refine RW.q (v := .int .i64 0) rfl (q_assign rfl) ?_
  refine RW.nil ?_
  refine Post.then_n ?_
  refine AW.seq ?_
  refine AW.region ?_
  refine RW.q (v := .string (bs l)) rfl (q_move rfl) ?_
  refine RW.q (v := .tuple #[.string (bs (Un.bef l)), .string (bs (Un.aft l)), .bool (Un.pt l)]) rfl (q_call (args := #[.string (bs l), .string (bs ([46] : List UInt8))]) own19 rfl rfl (fun w1 hw1 => sCut_c w1 (Go.K.hp w1) (Hp.le_refl _) (by omega))) ?_
  refine RW.q (v := .tuple #[.string (bs (Un.bef l)), .string (bs (Un.aft l)), .bool (Un.pt l)]) rfl (q_move rfl) ?_
  refine RW.q (v := .string (bs (Un.bef l))) rfl (q_extract rfl rfl) ?_
  refine RW.q (v := .string (bs (Un.aft l))) rfl (q_extract rfl rfl) ?_
  refine RW.q (v := .bool (Un.pt l)) rfl (q_extract rfl rfl) ?_
  refine RW.q (v := .string (bs (Un.bef l))) rfl (q_assign rfl) ?_
  refine RW.q (v := .string (bs (Un.aft l))) rfl (q_assign rfl) ?_
  refine RW.q (v := .bool (Un.pt l)) rfl (q_assign rfl) ?_
  refine RW.nil ?_
  refine Post.then_n ?_
  refine AW.seq ?_
  refine AW.seq ?_
  refine AW.region ?_
  refine RW.q (v := .string (bs (Un.bef l))) rfl (q_move rfl) ?_
  refine RW.q (v := .bool (Un.digs (Un.bef l) 20)) rfl (q_call (args := #[.string (bs (Un.bef l)), .int .i64 20]) own20 rfl rfl (fun w1 hw1 => digits_c w1 (Go.K.hp w1) (Hp.le_refl _) (by omega))) ?_
  refine RW.q (v := .bool (!(Un.digs (Un.bef l) 20))) rfl (q_not rfl) ?_
  refine RW.q (v := .bool (!(Un.digs (Un.bef l) 20))) rfl (q_move rfl) ?_
  refine RW.g (b := (!(Un.digs (Un.bef l) 20))) (v := .bool (Un.pt l)) rfl rfl rfl (fun h => q_move rfl) ?_
  refine RW.g (b := (!(Un.digs (Un.bef l) 20))) (v := .bool (Un.pt l)) rfl rfl rfl (fun h => q_move (gv_pos h)) ?_
  refine RW.g2 (b1 := (!(Un.digs (Un.bef l) 20))) (b2 := (Un.pt l)) (v := .string (bs (Un.aft l))) rfl rfl rfl (fun hg1 hg2 => q_move rfl) ?_
  refine RW.g2 (b1 := (!(Un.digs (Un.bef l) 20))) (b2 := (Un.pt l)) (v := .bool (Un.digs (Un.aft l) 9)) rfl rfl rfl (fun hg1 hg2 => q_call (args := #[.string (bs (Un.aft l)), .int .i64 9]) own20 rfl (args2 ((gv_pos hg1).trans (gv_pos hg2)) rfl) (fun w1 hw1 => digits_c w1 (Go.K.hp w1) (Hp.le_refl _) (by (try simp [-List.getD_eq_getElem?_getD] at hg1); (try simp [-List.getD_eq_getElem?_getD] at hg2); omega))) ?_
  refine RW.g2 (b1 := (!(Un.digs (Un.bef l) 20))) (b2 := (Un.pt l)) (v := .bool (!(Un.digs (Un.aft l) 9))) rfl rfl rfl (fun hg1 hg2 => q_not ((gv_pos hg1).trans (gv_pos hg2))) ?_
  refine RW.g (b := (!(Un.digs (Un.bef l) 20))) (v := .bool ((Un.pt l) && (!(Un.digs (Un.aft l) 9)))) rfl rfl rfl (fun h => q_pick (gv_pos h) (fun hp => (gv_pos h).trans ((gv_pos hp).trans (pkAndT hp))) (fun hp => pkAndF hp)) ?_
  refine RW.q (v := .bool ((!(Un.digs (Un.bef l) 20)) || ((Un.pt l) && (!(Un.digs (Un.aft l) 9))))) rfl (q_pick rfl (fun hp => pkOrT hp) (fun hp => (gv_pos hp).trans (pkOrF hp))) ?_
  refine RW.nil ?_
  refine Post.then_n ?_
  refine AW.cond (b := (!(Un.digs (Un.bef l) 20)) || ((Un.pt l) && (!(Un.digs (Un.aft l) 9)))) rfl (fun hc1 => ?_) (fun hc1 => ?_)
  · simp [-List.getD_eq_getElem?_getD] at hc1
    refine AW.seq ?_
    refine AW.region ?_
    refine RW.q (v := .agg #[.int .i64 0, .int .i64 0]) rfl (q_build (vals := []) zero23 Tryd.underlying23 places23 rfl rfl) ?_
    refine RW.effn (J' := St ⟨w, Φ, []⟩ Φ [.blk b1 23 [.int .i64 0, .int .i64 0]]) (e_store (v := .agg #[.int .i64 0, .int .i64 0]) 0 rfl rfl rfl sz23 rfl rfl rfl rfl rfl) ?_
    refine RW.q (v := .int .i64 2) rfl (q_assign rfl) ?_
    refine RW.nil ?_
    refine Post.then_n ?_
    refine AW.ret ?_
    refine Post.then_r ?_
    refine fin_cell2 (cs := [.int .i64 0, .int .i64 0]) (v := .int .i64 2) rfl rfl rfl rfl Tryd.underlying23 rfl sz23 rfl (Cells.blk 0 rfl) (fun w' hw => ?_)
    refine ⟨?_, hw.below rfl⟩
    have hok : Un.okF l = false := by
      unfold Un.okF
      rcases hc1 with h | h
      · rw [h]; rfl
      · rw [h.1, h.2]; simp
    rw [Un.amt_form hok]
    rfl
  · simp [-List.getD_eq_getElem?_getD] at hc1
    refine AW.skip ?_
    refine Post.then_n ?_
    refine AW.seq ?_
    have hok : Un.okF l = true := by
      unfold Un.okF
      rw [hc1.1, Bool.true_and]
      cases hp : Un.pt l with
      | false => rfl
      | true => exact hc1.2 hp
    obtain ⟨hb1, hb2, ha9, _⟩ := Un.okF_len hok
    refine AW.region ?_
    refine RW.q (v := .string (bs n)) rfl (q_move rfl) ?_
    refine RW.q (v := .tuple #[.agg #[.string (bs ((Un.fdM n).1)), .int .i64 (((Un.fdM n).2.1 : Nat) : Int), .int .i64 (((Un.fdM n).2.2.1 : Nat) : Int), .int .i64 (((Un.fdM n).2.2.2 : Nat) : Int)], .bool ((Un.look n).isSome)]) rfl (q_call (args := #[.string (bs n)]) own21 rfl rfl (fun w1 hw1 => find_c w1 (Go.K.hp w1) (Hp.le_refl _) (hG.mono hw1.phi))) ?_
    refine RW.q (v := .tuple #[.agg #[.string (bs ((Un.fdM n).1)), .int .i64 (((Un.fdM n).2.1 : Nat) : Int), .int .i64 (((Un.fdM n).2.2.1 : Nat) : Int), .int .i64 (((Un.fdM n).2.2.2 : Nat) : Int)], .bool ((Un.look n).isSome)]) rfl (q_move rfl) ?_
    refine RW.q (v := .agg #[.string (bs ((Un.fdM n).1)), .int .i64 (((Un.fdM n).2.1 : Nat) : Int), .int .i64 (((Un.fdM n).2.2.1 : Nat) : Int), .int .i64 (((Un.fdM n).2.2.2 : Nat) : Int)]) rfl (q_extract rfl rfl) ?_
    refine RW.q (v := .bool ((Un.look n).isSome)) rfl (q_extract rfl rfl) ?_
    refine RW.eff (fun b2 : Nat => .pointer (some (⟨b2, 0, none⟩))) (fun b2 => St ⟨w, Φ, []⟩ Φ [.blk b2 48 [.string (bs ([])), .int .i64 0, .int .i64 0, .int .i64 0], .blk b1 23 [.int .i64 0, .int .i64 0]]) rfl (e_alloc zero48) ?_
    intro b2
    refine RW.effn (J' := St ⟨w, Φ, []⟩ Φ [.blk b2 48 [.string (bs ((Un.fdM n).1)), .int .i64 (((Un.fdM n).2.1 : Nat) : Int), .int .i64 (((Un.fdM n).2.2.1 : Nat) : Int), .int .i64 (((Un.fdM n).2.2.2 : Nat) : Int)], .blk b1 23 [.int .i64 0, .int .i64 0]]) (e_store (v := .agg #[.string (bs ((Un.fdM n).1)), .int .i64 (((Un.fdM n).2.1 : Nat) : Int), .int .i64 (((Un.fdM n).2.2.1 : Nat) : Int), .int .i64 (((Un.fdM n).2.2.2 : Nat) : Int)]) 0 rfl rfl rfl sz48 rfl rfl rfl rfl rfl) ?_
    refine RW.q (v := .bool ((Un.look n).isSome)) rfl (q_assign rfl) ?_
    refine RW.nil ?_
    refine Post.then_n ?_
    refine AW.seq ?_
    refine AW.seq ?_
    refine AW.region ?_
    refine RW.q (v := .bool ((Un.look n).isSome)) rfl (q_move rfl) ?_
    refine RW.q (v := .bool (!((Un.look n).isSome))) rfl (q_not rfl) ?_
    refine RW.nil ?_
    refine Post.then_n ?_
    refine AW.cond (b := !((Un.look n).isSome)) rfl (fun hc2 => ?_) (fun hc2 => ?_)
    · simp [-List.getD_eq_getElem?_getD] at hc2
      refine AW.seq ?_
      refine AW.region ?_
      refine RW.q (v := .agg #[.int .i64 0, .int .i64 0]) rfl (q_build (vals := []) zero23 Tryd.underlying23 places23 rfl rfl) ?_
      refine RW.effn (J' := St ⟨w, Φ, []⟩ Φ [.blk b2 48 [.string (bs ((Un.fdM n).1)), .int .i64 (((Un.fdM n).2.1 : Nat) : Int), .int .i64 (((Un.fdM n).2.2.1 : Nat) : Int), .int .i64 (((Un.fdM n).2.2.2 : Nat) : Int)], .blk b1 23 [.int .i64 0, .int .i64 0]]) (e_store (v := .agg #[.int .i64 0, .int .i64 0]) 1 rfl rfl rfl sz23 rfl rfl rfl rfl rfl) ?_
      refine RW.q (v := .int .i64 6) rfl (q_assign rfl) ?_
      refine RW.nil ?_
      refine Post.then_n ?_
      refine AW.ret ?_
      refine Post.then_r ?_
      refine fin_cell2 (cs := [.int .i64 0, .int .i64 0]) (v := .int .i64 6) rfl rfl rfl rfl Tryd.underlying23 rfl sz23 rfl (Cells.blk 1 rfl) (fun w' hw => ?_)
      refine ⟨?_, hw.below rfl⟩
      rw [Un.amt_none hok (by simpa using hc2)]
      rfl
    · simp [-List.getD_eq_getElem?_getD] at hc2
      refine AW.skip ?_
      refine Post.then_n ?_
      refine AW.seq ?_
      obtain ⟨me, hlk⟩ := Option.isSome_iff_exists.1 hc2
      have hfd : Un.fdM n = me := by unfold Un.fdM; rw [hlk]; rfl
      rw [hfd]
      refine AW.draw (J0 := St ⟨w, Φ, []⟩ Φ [.blk b2 48 [.string (bs me.1), .int .i64 ((me.2.1 : Nat) : Int), .int .i64 ((me.2.2.1 : Nat) : Int), .int .i64 ((me.2.2.2 : Nat) : Int)], .blk b1 23 [.int .i64 0, .int .i64 0]]) [.q, .q, .q, .q, .q, .q, .q, .q, .q, .q] [0, 1, 2, 3, 4, 5, 6, 7, 8, 9] hmix (by kernel_rfl) ?_
      refine DW.q (v := .string (bs (Un.bef l))) (fun _ h => h) rfl (q_move rfl) ?_
      refine DW.q (v := .int .i64 ((Un.valC (Un.bef l) : Nat) : Int)) (fun _ h => h) rfl (q_call (args := #[.string (bs (Un.bef l))]) own23 rfl rfl (fun w1 hw1 => value_c w1 (Go.K.hp w1) (Hp.le_refl _) (by omega) (Un.okF_bef hok))) ?_
      refine DW.q (v := .string (bs (Un.aft l))) (fun _ h => h) rfl (q_move rfl) ?_
      refine DW.q (v := .agg #[.string (bs me.1), .int .i64 ((me.2.1 : Nat) : Int), .int .i64 ((me.2.2.1 : Nat) : Int), .int .i64 ((me.2.2.2 : Nat) : Int)]) (fun _ h => h) rfl (q_loadAgg rfl Tryd.underlying48 rfl sz48 rfl (Cells.blk 0 rfl)) ?_
      refine DW.q (v := .tuple #[.int .i64 (((Un.prod (Un.valC (Un.bef l)) (Un.aft l) me).1 : Nat) : Int), .bool ((Un.prod (Un.valC (Un.bef l)) (Un.aft l) me).2)]) (fun _ h => h) rfl (q_call (args := #[.int .i64 ((Un.valC (Un.bef l) : Nat) : Int), .string (bs (Un.aft l)), .agg #[.string (bs me.1), .int .i64 ((me.2.1 : Nat) : Int), .int .i64 ((me.2.2.1 : Nat) : Int), .int .i64 ((me.2.2.2 : Nat) : Int)]]) own22 rfl rfl (fun w1 hw1 => product_c w1 (Go.K.hp w1) (Hp.le_refl _) (Un.valC_le _) (Un.look_mem hlk).1 (by omega) (Un.okF_aft hok))) ?_
      refine DW.q (v := .tuple #[.int .i64 (((Un.prod (Un.valC (Un.bef l)) (Un.aft l) me).1 : Nat) : Int), .bool ((Un.prod (Un.valC (Un.bef l)) (Un.aft l) me).2)]) (fun _ h => h) rfl (q_move rfl) ?_
      refine DW.q (v := .int .i64 (((Un.prod (Un.valC (Un.bef l)) (Un.aft l) me).1 : Nat) : Int)) (fun _ h => h) rfl (q_extract rfl rfl) ?_
      refine DW.q (v := .bool ((Un.prod (Un.valC (Un.bef l)) (Un.aft l) me).2)) (fun _ h => h) rfl (q_extract rfl rfl) ?_
      refine DW.q (v := .int .i64 (((Un.prod (Un.valC (Un.bef l)) (Un.aft l) me).1 : Nat) : Int)) (fun _ h => h) rfl (q_assign rfl) ?_
      refine DW.q (v := .bool ((Un.prod (Un.valC (Un.bef l)) (Un.aft l) me).2)) (fun _ h => h) rfl (q_assign rfl) ?_
      refine DW.nil ?_
      refine Post.then_n ?_
      refine AW.seq ?_
      refine AW.seq ?_
      refine AW.region ?_
      refine RW.q (v := .bool ((Un.prod (Un.valC (Un.bef l)) (Un.aft l) me).2)) rfl (q_move rfl) ?_
      refine RW.q (v := .bool (!((Un.prod (Un.valC (Un.bef l)) (Un.aft l) me).2))) rfl (q_not rfl) ?_
      refine RW.nil ?_
      refine Post.then_n ?_
      refine AW.cond (b := !((Un.prod (Un.valC (Un.bef l)) (Un.aft l) me).2)) rfl (fun hc3 => ?_) (fun hc3 => ?_)
      · simp [-List.getD_eq_getElem?_getD] at hc3
        refine AW.seq ?_
        refine AW.region ?_
        refine RW.q (v := .agg #[.int .i64 0, .int .i64 0]) rfl (q_build (vals := []) zero23 Tryd.underlying23 places23 rfl rfl) ?_
        refine RW.effn (J' := St ⟨w, Φ, []⟩ Φ [.blk b2 48 [.string (bs me.1), .int .i64 ((me.2.1 : Nat) : Int), .int .i64 ((me.2.2.1 : Nat) : Int), .int .i64 ((me.2.2.2 : Nat) : Int)], .blk b1 23 [.int .i64 0, .int .i64 0]]) (e_store (v := .agg #[.int .i64 0, .int .i64 0]) 1 rfl rfl rfl sz23 rfl rfl rfl rfl rfl) ?_
        refine RW.q (v := .int .i64 7) rfl (q_assign rfl) ?_
        refine RW.nil ?_
        refine Post.then_n ?_
        refine AW.ret ?_
        refine Post.then_r ?_
        refine fin_cell2 (cs := [.int .i64 0, .int .i64 0]) (v := .int .i64 7) rfl rfl rfl rfl Tryd.underlying23 rfl sz23 rfl (Cells.blk 1 rfl) (fun w' hw => ?_)
        refine ⟨?_, hw.below rfl⟩
        rw [Un.amt_prod hok hlk, if_neg (by rw [hc3]; simp)]
        rfl
      · simp [-List.getD_eq_getElem?_getD] at hc3
        refine AW.skip ?_
        refine Post.then_n ?_
        refine AW.seq ?_
        refine AW.region ?_
        refine RW.q (v := .int .i64 (((Un.prod (Un.valC (Un.bef l)) (Un.aft l) me).1 : Nat) : Int)) rfl (q_move rfl) ?_
        refine RW.q (v := .pointer (some (⟨b2, 1, none⟩))) rfl (q_fieldAddr rfl Tryd.underlying48 rfl sz3 rfl) ?_
        refine RW.q (v := .int .i64 ((me.2.1 : Nat) : Int)) rfl (q_load rfl Tryd.underlying3 rfl (Cell.blk 0 rfl rfl)) ?_
        refine RW.q (v := .agg #[.int .i64 (((Un.prod (Un.valC (Un.bef l)) (Un.aft l) me).1 : Nat) : Int), .int .i64 ((me.2.1 : Nat) : Int)]) rfl (q_build (vals := [(0, .int .i64 (((Un.prod (Un.valC (Un.bef l)) (Un.aft l) me).1 : Nat) : Int)), (1, .int .i64 ((me.2.1 : Nat) : Int))]) zero23 Tryd.underlying23 places23 rfl rfl) ?_
        refine RW.effn (J' := St ⟨w, Φ, []⟩ Φ [.blk b2 48 [.string (bs me.1), .int .i64 ((me.2.1 : Nat) : Int), .int .i64 ((me.2.2.1 : Nat) : Int), .int .i64 ((me.2.2.2 : Nat) : Int)], .blk b1 23 [.int .i64 (((Un.prod (Un.valC (Un.bef l)) (Un.aft l) me).1 : Nat) : Int), .int .i64 ((me.2.1 : Nat) : Int)]]) (e_store (v := .agg #[.int .i64 (((Un.prod (Un.valC (Un.bef l)) (Un.aft l) me).1 : Nat) : Int), .int .i64 ((me.2.1 : Nat) : Int)]) 1 rfl rfl rfl sz23 rfl rfl rfl rfl rfl) ?_
        refine RW.q (v := .int .i64 0) rfl (q_assign rfl) ?_
        refine RW.nil ?_
        refine Post.then_n ?_
        refine AW.ret ?_
        refine fin_cell2 (cs := [.int .i64 (((Un.prod (Un.valC (Un.bef l)) (Un.aft l) me).1 : Nat) : Int), .int .i64 ((me.2.1 : Nat) : Int)]) (v := .int .i64 0) rfl rfl rfl rfl Tryd.underlying23 rfl sz23 rfl (Cells.blk 1 rfl) (fun w' hw => ?_)
        refine ⟨?_, hw.below rfl⟩
        rw [Un.amt_prod hok hlk, if_pos hc3]
        rfl

set_option maxRecDepth 8000 in
set_option maxHeartbeats 1000000 in
theorem Write_c (w : World) (Φ : Hp) (hΦ : Hp.le Φ (hp w)) (hG : Knows Φ Glob) {N D : Int} :
    Calls Tryd.prog 11 #[.agg #[.int .i64 N, .int .i64 D]] w fun e w' => e = .returned (.string (bs (Un.wri N D))) ∧ Below w.heap.size w w' := by
  refine calls_of_AW (args := [.agg #[.int .i64 N, .int .i64 D]]) Tryd.func11 rfl (Nat.le_of_ble_eq_true rfl) (St ⟨w, Φ, []⟩ Φ []) (StP.init w Φ hΦ []) ?_
  show AW Tryd.prog 35 [] _ _ _ [(0, .agg #[.int .i64 N, .int .i64 D])] _
  refine AW.seq ?_
  refine AW.region ?_
  refine RW.eff (fun b1 : Nat => .pointer (some (⟨b1, 0, none⟩))) (fun b1 => St ⟨w, Φ, []⟩ Φ [.blk b1 23 [.int .i64 N, .int .i64 D]]) rfl (e_boxA (cs := [.int .i64 N, .int .i64 D]) rfl) ?_
  intro b1
  refine RW.q (v := .string (bs ([] : List UInt8))) rfl (q_assign rfl) ?_
  refine RW.nil ?_
  refine Post.then_n ?_
  refine AW.seq ?_
  refine AW.seq ?_
  refine AW.region ?_
  refine RW.q (v := .pointer (some (⟨b1, 1, none⟩))) rfl (q_fieldAddr rfl Tryd.underlying23 rfl sz3 rfl) ?_
  refine RW.q (v := .int .i64 D) rfl (q_load rfl Tryd.underlying3 rfl (Cell.blk 0 rfl rfl)) ?_
  refine RW.q (v := .bool (decide (D < 0))) rfl (q_lss rfl rfl) ?_
  refine RW.q (v := .bool (decide (D < 0))) rfl (q_move rfl) ?_
  refine RW.g (b := (decide (D < 0))) (v := .pointer (some (⟨b1, 1, none⟩))) rfl rfl rfl (fun h => q_fieldAddr rfl Tryd.underlying23 rfl sz3 rfl) ?_
  refine RW.g (b := (decide (D < 0))) (v := .int .i64 D) rfl rfl rfl (fun h => q_load (gv_pos h) Tryd.underlying3 rfl (Cell.blk 0 rfl rfl)) ?_
  refine RW.g (b := (decide (D < 0))) (v := .bool (decide ((6 : Int) < D))) rfl rfl rfl (fun h => q_gtr (gv_pos h) rfl) ?_
  refine RW.q (v := .bool ((decide (D < 0)) || (decide ((6 : Int) < D)))) rfl (q_pick rfl (fun hp => pkOrT hp) (fun hp => (gv_pos hp).trans (pkOrF hp))) ?_
  refine RW.q (v := .bool ((decide (D < 0)) || (decide ((6 : Int) < D)))) rfl (q_move rfl) ?_
  refine RW.g (b := ((decide (D < 0)) || (decide ((6 : Int) < D)))) (v := .pointer (some (⟨b1, 0, none⟩))) rfl rfl rfl (fun h => q_fieldAddr rfl Tryd.underlying23 rfl sz3 rfl) ?_
  refine RW.g (b := ((decide (D < 0)) || (decide ((6 : Int) < D)))) (v := .int .i64 N) rfl rfl rfl (fun h => q_load (gv_pos h) Tryd.underlying3 rfl (Cell.blk 0 rfl rfl)) ?_
  refine RW.g (b := ((decide (D < 0)) || (decide ((6 : Int) < D)))) (v := .bool (decide (N < 0))) rfl rfl rfl (fun h => q_lss (gv_pos h) rfl) ?_
  refine RW.q (v := .bool (((decide (D < 0)) || (decide ((6 : Int) < D))) || (decide (N < 0)))) rfl (q_pick rfl (fun hp => pkOrT hp) (fun hp => (gv_pos hp).trans (pkOrF hp))) ?_
  refine RW.q (v := .bool (((decide (D < 0)) || (decide ((6 : Int) < D))) || (decide (N < 0)))) rfl (q_move rfl) ?_
  refine RW.g (b := (((decide (D < 0)) || (decide ((6 : Int) < D))) || (decide (N < 0)))) (v := .pointer (some (⟨b1, 0, none⟩))) rfl rfl rfl (fun h => q_fieldAddr rfl Tryd.underlying23 rfl sz3 rfl) ?_
  refine RW.g (b := (((decide (D < 0)) || (decide ((6 : Int) < D))) || (decide (N < 0)))) (v := .int .i64 N) rfl rfl rfl (fun h => q_load (gv_pos h) Tryd.underlying3 rfl (Cell.blk 0 rfl rfl)) ?_
  refine RW.g (b := (((decide (D < 0)) || (decide ((6 : Int) < D))) || (decide (N < 0)))) (v := .bool (decide ((1125899906842624 : Int) < N))) rfl rfl rfl (fun h => q_gtr (gv_pos h) rfl) ?_
  refine RW.q (v := .bool ((((decide (D < 0)) || (decide ((6 : Int) < D))) || (decide (N < 0))) || (decide ((1125899906842624 : Int) < N)))) rfl (q_pick rfl (fun hp => pkOrT hp) (fun hp => (gv_pos hp).trans (pkOrF hp))) ?_
  refine RW.nil ?_
  refine Post.then_n ?_
  refine AW.cond (b := (((decide (D < 0)) || (decide ((6 : Int) < D))) || (decide (N < 0))) || (decide ((1125899906842624 : Int) < N))) rfl (fun hc1 => ?_) (fun hc1 => ?_)
  · simp [-List.getD_eq_getElem?_getD] at hc1
    refine AW.seq ?_
    refine AW.region ?_
    refine RW.q (v := .string (bs ([] : List UInt8))) rfl (q_assign rfl) ?_
    refine RW.nil ?_
    refine Post.then_n ?_
    refine AW.ret ?_
    refine Post.then_r ?_
    exact fin_val (v' := .string (bs ([] : List UInt8))) rfl rfl rfl (by unfold Un.wri; rw [if_neg (by unfold Un.M; omega)])
  · simp [-List.getD_eq_getElem?_getD] at hc1
    refine AW.skip ?_
    refine Post.then_n ?_
    refine AW.seq ?_
    refine AW.seq ?_
    obtain ⟨n, rfl⟩ := Int.eq_ofNat_of_zero_le (show 0 ≤ N by omega)
    obtain ⟨d, rfl⟩ := Int.eq_ofNat_of_zero_le (show 0 ≤ D by omega)
    have hdl : (Lib.decDigits n).length ≤ 16 := Un.dec_len_le (by omega) (by omega)
    have hbl := Un.bases_len d
    refine AW.region ?_
    refine RW.q (v := .pointer (some (⟨b1, 1, none⟩))) rfl (q_fieldAddr rfl Tryd.underlying23 rfl sz3 rfl) ?_
    refine RW.q (v := .int .i64 (d : Int)) rfl (q_load rfl Tryd.underlying3 rfl (Cell.blk 0 rfl rfl)) ?_
    refine RW.q (v := .bool (decide ((d : Int) = 0))) rfl (q_eql rfl rfl) ?_
    refine RW.nil ?_
    refine Post.then_n ?_
    refine AW.cond (b := decide ((d : Int) = 0)) rfl (fun hc2 => ?_) (fun hc2 => ?_)
    · simp [-List.getD_eq_getElem?_getD] at hc2
      refine AW.seq ?_
      refine AW.region ?_
      refine RW.q (v := .pointer (some (⟨b1, 0, none⟩))) rfl (q_fieldAddr rfl Tryd.underlying23 rfl sz3 rfl) ?_
      refine RW.q (v := .int .i64 (n : Int)) rfl (q_load rfl Tryd.underlying3 rfl (Cell.blk 0 rfl rfl)) ?_
      refine RW.q (v := .string (bs (Lib.decDigits n))) rfl (q_call (args := #[.int .i64 (n : Int)]) own26 rfl rfl (fun w1 hw1 => Tryd.itoa_c (n := n) (by omega) w1 (hG w1 hw1.phi).2)) ?_
      refine RW.q (v := .string (bs (Lib.decDigits n))) rfl (q_assign rfl) ?_
      refine RW.nil ?_
      refine Post.then_n ?_
      refine AW.ret ?_
      refine Post.then_r ?_
      have hin : 0 ≤ (d : Int) ∧ (d : Int) ≤ 6 ∧ 0 ≤ (n : Int) ∧ (n : Int) ≤ Un.M := by unfold Un.M; omega
      exact fin_val (v' := .string (bs (Lib.decDigits n))) rfl rfl rfl (by unfold Un.wri; rw [if_pos hin, if_pos (by omega), Int.toNat_natCast])
    · simp [-List.getD_eq_getElem?_getD] at hc2
      refine AW.skip ?_
      refine Post.then_n ?_
      refine AW.seq ?_
      refine AW.draw (J0 := St ⟨w, Φ, []⟩ Φ [.blk b1 23 [.int .i64 (n : Int), .int .i64 (d : Int)]]) [.q, .q, .q, .q, .q, .q, .q, .q, .q] [0, 1, 2, 3, 4, 5, 6, 7, 8] hmix (by kernel_rfl) ?_
      refine DW.q (v := .pointer (some (⟨b1, 0, none⟩))) (fun _ h => h) rfl (q_fieldAddr rfl Tryd.underlying23 rfl sz3 rfl) ?_
      refine DW.q (v := .int .i64 (n : Int)) (fun _ h => h) rfl (q_load rfl Tryd.underlying3 rfl (Cell.blk 0 rfl rfl)) ?_
      refine DW.q (v := .string (bs (Lib.decDigits n))) (fun _ h => h) rfl (q_call (args := #[.int .i64 (n : Int)]) own26 rfl rfl (fun w1 hw1 => Tryd.itoa_c (n := n) (by omega) w1 (hG w1 hw1.phi).2)) ?_
      refine DW.q (v := .string (bs ((Lib.decDigits n) ++ ([32] : List UInt8)))) (fun _ h => h) rfl (q_catStr (l := Lib.decDigits n) (r := ([32] : List UInt8)) rfl rfl (by simp only [List.length_append, List.length_cons, List.length_nil]; omega) rfl) ?_
      refine DW.q (v := .pointer (some (⟨b1, 1, none⟩))) (fun _ h => h) rfl (q_fieldAddr rfl Tryd.underlying23 rfl sz3 rfl) ?_
      refine DW.q (v := .int .i64 (d : Int)) (fun _ h => h) rfl (q_load rfl Tryd.underlying3 rfl (Cell.blk 0 rfl rfl)) ?_
      refine DW.q (v := .string (bs (Un.bases.getD d []))) (fun _ h => h) rfl (q_call (args := #[.int .i64 (d : Int)]) own27 rfl rfl (fun w1 hw1 => base_c w1 (Go.K.hp w1) (Hp.le_refl _) (hG.mono hw1.phi) (by omega))) ?_
      refine DW.q (v := .string (bs (((Lib.decDigits n) ++ ([32] : List UInt8)) ++ (Un.bases.getD d [])))) (fun _ h => h) rfl (q_catStr (l := (Lib.decDigits n) ++ ([32] : List UInt8)) (r := Un.bases.getD d []) rfl rfl (by simp only [List.length_append, List.length_cons, List.length_nil]; omega) rfl) ?_
      refine DW.q (v := .string (bs (((Lib.decDigits n) ++ ([32] : List UInt8)) ++ (Un.bases.getD d [])))) (fun _ h => h) rfl (q_assign rfl) ?_
      refine DW.nil ?_
      refine Post.then_n ?_
      refine AW.ret ?_
      have hin : 0 ≤ (d : Int) ∧ (d : Int) ≤ 6 ∧ 0 ≤ (n : Int) ∧ (n : Int) ≤ Un.M := by unfold Un.M; omega
      exact fin_val (v' := .string (bs (((Lib.decDigits n) ++ ([32] : List UInt8)) ++ (Un.bases.getD d [])))) rfl rfl rfl (by unfold Un.wri; rw [if_pos hin, if_neg (by omega), Int.toNat_natCast, Int.toNat_natCast])

end Go.Proofs.YthiflhoobldioaaDoor
