/- Walks (part WalkI), printed by walk2.py. Conditions: those of each theorem. -/
import Derived.Test.YtblfeidlnhdekaaVWalkH
namespace Go.Proofs.Ytblfeidlnhdekaa
open Go Go.K Go.RowKit

set_option maxRecDepth 8000 in
set_option maxHeartbeats 1000000 in
theorem Same_c (w : World) (Φ : Hp) (hΦ : Hp.le Φ (hp w)) {x : Bt.Hull} {xcs : List Value} (xH : RepV Φ x xcs) {y : Bt.Hull} {ycs : List Value} (yH : RepV Φ y ycs) :
  Calls Try.prog 14 #[.agg xcs.toArray, .agg ycs.toArray] w fun e w' => e = .returned (.bool (decide (Fu.sameH x y))) ∧ Bel w.heap.size w w' := by
 obtain ⟨xv1, xv2, xv3, xhcs, xhw, xr1, xr2, xr3⟩ := (show Rep.rep Φ x xcs from xH)
 subst xhcs
 have xm1 : x.Vol.length * 16 ≤ 140737488355328 := xr1.max
 have xm2 : x.Queue.length * 32 ≤ 140737488355328 := xr2.max
 have xm3 : x.Links.length * 40 ≤ 140737488355328 := xr3.max
 obtain ⟨yv1, yv2, yv3, yhcs, yhw, yr1, yr2, yr3⟩ := (show Rep.rep Φ y ycs from yH)
 subst yhcs
 have ym1 : y.Vol.length * 16 ≤ 140737488355328 := yr1.max
 have ym2 : y.Queue.length * 32 ≤ 140737488355328 := yr2.max
 have ym3 : y.Links.length * 40 ≤ 140737488355328 := yr3.max
 refine calls_of_AW (args := [.agg #[.int .i64 x.Hour, xv1, xv2, xv3], .agg #[.int .i64 y.Hour, yv1, yv2, yv3]]) Try.func14 rfl (Nat.le_of_ble_eq_true rfl) (St ⟨w, Φ, []⟩ Φ []) (StP.init w Φ hΦ []) ?_
 show AW Try.prog 74 [] _ _ _ [(0, .agg #[.int .i64 x.Hour, xv1, xv2, xv3]), (1, .agg #[.int .i64 y.Hour, yv1, yv2, yv3])] _
 refine AW.seq (AW.region (RW.eff (fun b1 : Nat => .pointer (some (⟨b1, 0, none⟩))) (fun b1 => St ⟨w, Φ, []⟩ Φ [.blk b1 36 [.int .i64 x.Hour, xv1, xv2, xv3]]) rfl (e_boxA (cs := [.int .i64 x.Hour, xv1, xv2, xv3]) rfl) ?_))
 intro b1
 refine RW.eff (fun b2 : Nat => .pointer (some (⟨b2, 0, none⟩))) (fun b2 => St ⟨w, Φ, []⟩ Φ [.blk b2 36 [.int .i64 y.Hour, yv1, yv2, yv3], .blk b1 36 [.int .i64 x.Hour, xv1, xv2, xv3]]) rfl (e_boxA (cs := [.int .i64 y.Hour, yv1, yv2, yv3]) rfl) ?_
 intro b2
 refine RW.as rfl (RW.nil (Post.then_n (AW.seq (AW.seq (AW.region (RW.q (v := .pointer (some (⟨b1, 0, none⟩))) rfl (q_fieldAddr rfl uT36 rfl sz3 rfl) (RW.q (v := .int .i64 x.Hour) rfl (q_load rfl uT3 rfl (Cell.blk 1 rfl rfl)) (RW.q (v := .pointer (some (⟨b2, 0, none⟩))) rfl (q_fieldAddr rfl uT36 rfl sz3 rfl) (RW.q (v := .int .i64 y.Hour) rfl (q_load rfl uT3 rfl (Cell.blk 0 rfl rfl)) ?_)))))))))
 refine RW.q (v := .bool (!decide (x.Hour = y.Hour))) rfl (q_neq rfl rfl) (RW.mv rfl (RW.g (b := (!decide (x.Hour = y.Hour))) (v := .pointer (some (⟨b1, 2, none⟩))) rfl rfl rfl (fun h => q_fieldAddr rfl uT36 rfl sz33 rfl) (RW.g (b := (!decide (x.Hour = y.Hour))) (v := xv2) rfl rfl rfl (fun h => q_load (gv_pos h) uT33 rfl (Cell.blk 1 rfl rfl)) (RW.g (b := (!decide (x.Hour = y.Hour))) (v := .int .i64 ((x.Queue.length : Nat) : Int)) rfl rfl rfl (fun h => q_len_sl (gv_pos h) xr2.sl uT33) (RW.g (b := (!decide (x.Hour = y.Hour))) (v := .pointer (some (⟨b2, 2, none⟩))) rfl rfl rfl (fun h => q_fieldAddr rfl uT36 rfl sz33 rfl) (RW.g (b := (!decide (x.Hour = y.Hour))) (v := yv2) rfl rfl rfl (fun h => q_load (gv_pos h) uT33 rfl (Cell.blk 0 rfl rfl)) (RW.g (b := (!decide (x.Hour = y.Hour))) (v := .int .i64 ((y.Queue.length : Nat) : Int)) rfl rfl rfl (fun h => q_len_sl (gv_pos h) yr2.sl uT33) (RW.g (b := (!decide (x.Hour = y.Hour))) (v := .bool (!decide (((x.Queue.length : Nat) : Int) = ((y.Queue.length : Nat) : Int)))) rfl rfl rfl (fun h => q_neq (gv_pos h) (gv_pos h)) ?_))))))))
 obtain ⟨qb1, hqb1⟩ : ∃ z : Bool, ((!decide (x.Hour = y.Hour)) || (!decide (((x.Queue.length : Nat) : Int) = ((y.Queue.length : Nat) : Int)))) = z := ⟨_, rfl⟩
 refine RW.q (v := .bool qb1) rfl (q_as (v := .bool ((!decide (x.Hour = y.Hour)) || (!decide (((x.Queue.length : Nat) : Int) = ((y.Queue.length : Nat) : Int))))) (q_pick rfl (fun hp => pkOrT hp) (fun hp => (gv_pos hp).trans (pkOrF hp))) (congrArg Value.bool hqb1)) (RW.mv rfl (RW.g (b := qb1) (v := .pointer (some (⟨b1, 3, none⟩))) rfl rfl rfl (fun h => q_fieldAddr rfl uT36 rfl sz34 rfl) (RW.g (b := qb1) (v := xv3) rfl rfl rfl (fun h => q_load (gv_pos h) uT34 rfl (Cell.blk 1 rfl rfl)) (RW.g (b := qb1) (v := .int .i64 ((x.Links.length : Nat) : Int)) rfl rfl rfl (fun h => q_len_sl (gv_pos h) xr3.sl uT34) (RW.g (b := qb1) (v := .pointer (some (⟨b2, 3, none⟩))) rfl rfl rfl (fun h => q_fieldAddr rfl uT36 rfl sz34 rfl) (RW.g (b := qb1) (v := yv3) rfl rfl rfl (fun h => q_load (gv_pos h) uT34 rfl (Cell.blk 0 rfl rfl)) (RW.g (b := qb1) (v := .int .i64 ((y.Links.length : Nat) : Int)) rfl rfl rfl (fun h => q_len_sl (gv_pos h) yr3.sl uT34) (RW.g (b := qb1) (v := .bool (!decide (((x.Links.length : Nat) : Int) = ((y.Links.length : Nat) : Int)))) rfl rfl rfl (fun h => q_neq (gv_pos h) (gv_pos h)) ?_))))))))
 obtain ⟨qb2, hqb2⟩ : ∃ z : Bool, (qb1 || (!decide (((x.Links.length : Nat) : Int) = ((y.Links.length : Nat) : Int)))) = z := ⟨_, rfl⟩
 refine RW.q (v := .bool qb2) rfl (q_as (v := .bool (qb1 || (!decide (((x.Links.length : Nat) : Int) = ((y.Links.length : Nat) : Int))))) (q_pick rfl (fun hp => pkOrT hp) (fun hp => (gv_pos hp).trans (pkOrF hp))) (congrArg Value.bool hqb2)) (RW.mv rfl (RW.g (b := qb2) (v := .pointer (some (⟨b1, 1, none⟩))) rfl rfl rfl (fun h => q_fieldAddr rfl uT36 rfl sz32 rfl) (RW.g (b := qb2) (v := xv1) rfl rfl rfl (fun h => q_load (gv_pos h) uT32 rfl (Cell.blk 1 rfl rfl)) (RW.g (b := qb2) (v := .pointer (some (⟨b2, 1, none⟩))) rfl rfl rfl (fun h => q_fieldAddr rfl uT36 rfl sz32 rfl) (RW.g (b := qb2) (v := yv1) rfl rfl rfl (fun h => q_load (gv_pos h) uT32 rfl (Cell.blk 0 rfl rfl)) (RW.g (b := qb2) (v := .bool (decide (x.Vol = y.Vol))) rfl rfl rfl (fun h => q_call (args := #[xv1, yv1]) own18 rfl (args2 (gv_pos h) (gv_pos h)) (fun w1 hw1 => SameAll_c w1 (Go.K.hp w1) (Hp.le_refl _) (xr1.mono hw1.phi) (yr1.mono hw1.phi))) (RW.g (b := qb2) (v := .bool (!(decide (x.Vol = y.Vol)))) rfl rfl rfl (fun h => q_not (gv_pos h)) (RW.q (v := .bool (qb2 || (!(decide (x.Vol = y.Vol))))) rfl (q_pick rfl (fun hp => pkOrT hp) (fun hp => (gv_pos hp).trans (pkOrF hp))) ?_))))))))
 subst hqb2 hqb1
 refine RW.nil (Post.then_n (AW.cond (b := (((!decide (x.Hour = y.Hour)) || (!decide (((x.Queue.length : Nat) : Int) = ((y.Queue.length : Nat) : Int)))) || (!decide (((x.Links.length : Nat) : Int) = ((y.Links.length : Nat) : Int)))) || (!(decide (x.Vol = y.Vol)))) rfl (fun hc1 => ?_) (fun hc1 => ?_)))
 ·
  simp [-List.getD_eq_getElem?_getD] at hc1
  refine AW.seq (AW.region (RW.as rfl (RW.nil (Post.then_n (AW.ret (Post.then_r ?_))))))
  exact fin_val (v' := .bool false) rfl rfl rfl (by rw [decide_eq_false (fun e => by obtain ⟨e1, e2, e3, e4⟩ := e; rcases hc1 with ((h1 | h1) | h1) | h1; exact h1 e1; exact h1 (by rw [e3]); exact h1 (by rw [e4]); exact h1 e2)])
 ·
  simp [-List.getD_eq_getElem?_getD] at hc1
  refine AW.skip (Post.then_n (AW.seq (AW.seq (AW.region (RW.as rfl (RW.nil (Post.then_n (AW.block (AW.loop (fun s J m => ∃ (k : Nat), s = [(2, .pointer (some (⟨b1, 0, none⟩))), (3, .pointer (some (⟨b2, 0, none⟩))), (5, .int .i64 (k : Int))] ∧ J = St ⟨w, Φ, []⟩ Φ [.blk b2 36 [.int .i64 y.Hour, yv1, yv2, yv3], .blk b1 36 [.int .i64 x.Hour, xv1, xv2, xv3]] ∧ m = x.Queue.length - k ∧ (k ≤ x.Queue.length) ∧ (∀ j, j < k → x.Queue.getD j default = y.Queue.getD j default)) (s0 := _) (J1 := _) (m0 := _) ⟨0, rfl, rfl, rfl, (by omega), (by omega)⟩ ⟨rfl, rfl, rfl, trivial⟩ (fun _ h => h) ?_)))))))))
  rintro _ _ _ _ ⟨k, rfl, rfl, rfl, hk, heq⟩
  refine AW.seq (AW.seq (AW.region (RW.mv rfl (RW.q (v := .pointer (some (⟨b1, 2, none⟩))) rfl (q_fieldAddr rfl uT36 rfl sz33 rfl) (RW.q (v := xv2) rfl (q_load rfl uT33 rfl (Cell.blk 1 rfl rfl)) (RW.q (v := .int .i64 ((x.Queue.length : Nat) : Int)) rfl (q_len_sl rfl xr2.sl uT33) (RW.q (v := .bool (decide ((k : Int) < ((x.Queue.length : Nat) : Int)))) rfl (q_lss rfl rfl) (RW.nil (Post.then_n ?_)))))))))
  refine AW.cond (b := decide ((k : Int) < ((x.Queue.length : Nat) : Int))) rfl (fun hc2 => ?_) (fun hc2 => ?_)
  ·
   simp [-List.getD_eq_getElem?_getD] at hc2
   refine AW.skip (Post.then_n (AW.seq (AW.block (AW.seq (AW.draw (J0 := St ⟨w, Φ, []⟩ Φ [.blk b2 36 [.int .i64 y.Hour, yv1, yv2, yv3], .blk b1 36 [.int .i64 x.Hour, xv1, xv2, xv3]]) [.q, .q, .q, .q, .q, .q, .q, .q, .q, .q, .q] [0, 1, 2, 3, 4, 5, 6, 7, 8, 9, 10] hmix (by kernel_rfl) (DW.q (v := .pointer (some (⟨b1, 2, none⟩))) (fun _ h => h) rfl (q_fieldAddr rfl uT36 rfl sz33 rfl) (DW.q (v := xv2) (fun _ h => h) rfl (q_load rfl uT33 rfl (Cell.blk 1 rfl rfl)) (DW.q (v := .int .i64 (k : Int)) (fun _ h => h) rfl (q_move rfl) (DW.q (v := .pointer (some (Value.at xv2 (k * 4)))) (fun _ h => h) rfl (q_indexAddr rfl rfl xr2.sl uT33 sz93 (by omega) (by omega) rfl) ?_)))))))))
   refine DW.q (v := .agg (cl93 (x.Queue.getD k default)).toArray) (fun _ h => h) rfl (q_loadAgg rfl uT93 rfl sz93 rfl (Cells.repE xr2 (by omega) rfl)) (DW.q (v := .pointer (some (⟨b2, 2, none⟩))) (fun _ h => h) rfl (q_fieldAddr rfl uT36 rfl sz33 rfl) (DW.q (v := yv2) (fun _ h => h) rfl (q_load rfl uT33 rfl (Cell.blk 0 rfl rfl)) (DW.q (v := .int .i64 (k : Int)) (fun _ h => h) rfl (q_move rfl) (DW.q (v := .pointer (some (Value.at yv2 (k * 4)))) (fun _ h => h) rfl (q_indexAddr rfl rfl yr2.sl uT33 sz93 (by omega) (by omega) rfl) (DW.q (v := .agg (cl93 (y.Queue.getD k default)).toArray) (fun _ h => h) rfl (q_loadAgg rfl uT93 rfl sz93 rfl (Cells.repE yr2 (by omega) rfl)) (DW.q (v := .bool (!(decide ((x.Queue.getD k default).At = (y.Queue.getD k default).At) && decide ((x.Queue.getD k default).To = (y.Queue.getD k default).To) && decide ((x.Queue.getD k default).Vol.Lo = (y.Queue.getD k default).Vol.Lo) && decide ((x.Queue.getD k default).Vol.Hi = (y.Queue.getD k default).Vol.Hi)))) (fun _ h => h) rfl (q_neqS rfl rfl (eqS93 _ _ _ _ _ _ _ _) eqG93) (DW.nil (Post.then_n (AW.cond (b := !(decide ((x.Queue.getD k default).At = (y.Queue.getD k default).At) && decide ((x.Queue.getD k default).To = (y.Queue.getD k default).To) && decide ((x.Queue.getD k default).Vol.Lo = (y.Queue.getD k default).Vol.Lo) && decide ((x.Queue.getD k default).Vol.Hi = (y.Queue.getD k default).Vol.Hi))) rfl (fun hc3 => ?_) (fun hc3 => ?_))))))))))
   ·
    simp [-List.getD_eq_getElem?_getD] at hc3
    refine AW.seq ?_
    have hnq : x.Queue ≠ y.Queue := fun e => by rw [e] at hc3; simp [-List.getD_eq_getElem?_getD] at hc3
    refine AW.region (RW.as rfl (RW.nil (Post.then_n (AW.ret (Post.blk_r (Post.then_r (Post.then_r (Post.blk_r (Post.then_r ?_)))))))))
    exact fin_val (v' := .bool false) rfl rfl rfl (by rw [decide_eq_false (fun e => hnq e.2.2.1)])
   ·
    simp [-List.getD_eq_getElem?_getD] at hc3
    refine AW.skip (Post.blk_n (Post.then_n ?_))
    refine AW.region (RW.mv rfl (RW.q (v := .int .i64 ((k + 1 : Nat) : Int)) rfl (q_add rfl rfl (by omega) (by unfold I64; omega)) (RW.as rfl (RW.nil ?_))))
    exact Post.back (s' := _) (J' := _) (m' := _) (by omega) ⟨k + 1, rfl, rfl, rfl, (by omega), (Fu.lt_succ heq (Fu.sum_ext (by simpa using hc3)))⟩ ⟨rfl, rfl, rfl, trivial⟩ (fun _ h => h)
  ·
   simp [-List.getD_eq_getElem?_getD] at hc2
   refine AW.exit (Post.then_x (Post.then_x (Post.blk_hit (Post.then_n ?_))))
   refine AW.seq (AW.seq (AW.region (RW.as rfl (RW.nil (Post.then_n (AW.block ?_))))))
   have hQ : x.Queue = y.Queue := Fu.getD_ext default (by omega) (fun j hj => heq j (by omega))
   refine AW.loop (fun s J m => ∃ (k : Nat), s = [(2, .pointer (some (⟨b1, 0, none⟩))), (3, .pointer (some (⟨b2, 0, none⟩))), (6, .int .i64 (k : Int))] ∧ J = St ⟨w, Φ, []⟩ Φ [.blk b2 36 [.int .i64 y.Hour, yv1, yv2, yv3], .blk b1 36 [.int .i64 x.Hour, xv1, xv2, xv3]] ∧ m = x.Links.length - k ∧ (k ≤ x.Links.length) ∧ (∀ j, j < k → x.Links.getD j default = y.Links.getD j default)) (s0 := _) (J1 := _) (m0 := _) ⟨0, rfl, rfl, rfl, (by omega), (by omega)⟩ ⟨rfl, rfl, rfl, trivial⟩ (fun _ h => h) ?_
   rintro _ _ _ _ ⟨k, rfl, rfl, rfl, hk, heq⟩
   refine AW.seq (AW.seq (AW.region (RW.mv rfl (RW.q (v := .pointer (some (⟨b1, 3, none⟩))) rfl (q_fieldAddr rfl uT36 rfl sz34 rfl) (RW.q (v := xv3) rfl (q_load rfl uT34 rfl (Cell.blk 1 rfl rfl)) (RW.q (v := .int .i64 ((x.Links.length : Nat) : Int)) rfl (q_len_sl rfl xr3.sl uT34) (RW.q (v := .bool (decide ((k : Int) < ((x.Links.length : Nat) : Int)))) rfl (q_lss rfl rfl) (RW.nil (Post.then_n ?_)))))))))
   refine AW.cond (b := decide ((k : Int) < ((x.Links.length : Nat) : Int))) rfl (fun hc4 => ?_) (fun hc4 => ?_)
   ·
    simp [-List.getD_eq_getElem?_getD] at hc4
    refine AW.skip (Post.then_n (AW.seq (AW.block (AW.seq (AW.draw (J0 := St ⟨w, Φ, []⟩ Φ [.blk b2 36 [.int .i64 y.Hour, yv1, yv2, yv3], .blk b1 36 [.int .i64 x.Hour, xv1, xv2, xv3]]) [.q, .q, .q, .q, .q, .q, .q, .q, .q, .q, .q] [0, 1, 2, 3, 4, 5, 6, 7, 8, 9, 10] hmix (by kernel_rfl) (DW.q (v := .pointer (some (⟨b1, 3, none⟩))) (fun _ h => h) rfl (q_fieldAddr rfl uT36 rfl sz34 rfl) (DW.q (v := xv3) (fun _ h => h) rfl (q_load rfl uT34 rfl (Cell.blk 1 rfl rfl)) (DW.q (v := .int .i64 (k : Int)) (fun _ h => h) rfl (q_move rfl) (DW.q (v := .pointer (some (Value.at xv3 (k * 5)))) (fun _ h => h) rfl (q_indexAddr rfl rfl xr3.sl uT34 sz79 (by omega) (by omega) rfl) ?_)))))))))
    refine DW.q (v := .agg (cl79 (x.Links.getD k default)).toArray) (fun _ h => h) rfl (q_loadAgg rfl uT79 rfl sz79 rfl (Cells.repE xr3 (by omega) rfl)) (DW.q (v := .pointer (some (⟨b2, 3, none⟩))) (fun _ h => h) rfl (q_fieldAddr rfl uT36 rfl sz34 rfl) (DW.q (v := yv3) (fun _ h => h) rfl (q_load rfl uT34 rfl (Cell.blk 0 rfl rfl)) (DW.q (v := .int .i64 (k : Int)) (fun _ h => h) rfl (q_move rfl) (DW.q (v := .pointer (some (Value.at yv3 (k * 5)))) (fun _ h => h) rfl (q_indexAddr rfl rfl yr3.sl uT34 sz79 (by omega) (by omega) rfl) (DW.q (v := .agg (cl79 (y.Links.getD k default)).toArray) (fun _ h => h) rfl (q_loadAgg rfl uT79 rfl sz79 rfl (Cells.repE yr3 (by omega) rfl)) (DW.q (v := .bool (!(decide ((x.Links.getD k default).Pos.Lo = (y.Links.getD k default).Pos.Lo) && decide ((x.Links.getD k default).Pos.Hi = (y.Links.getD k default).Pos.Hi) && decide ((x.Links.getD k default).Target = (y.Links.getD k default).Target) && decide ((x.Links.getD k default).Open.Lo = (y.Links.getD k default).Open.Lo) && decide ((x.Links.getD k default).Open.Hi = (y.Links.getD k default).Open.Hi)))) (fun _ h => h) rfl (q_neqS rfl rfl (eqS79 _ _ _ _ _ _ _ _ _ _) eqG79) (DW.nil (Post.then_n (AW.cond (b := !(decide ((x.Links.getD k default).Pos.Lo = (y.Links.getD k default).Pos.Lo) && decide ((x.Links.getD k default).Pos.Hi = (y.Links.getD k default).Pos.Hi) && decide ((x.Links.getD k default).Target = (y.Links.getD k default).Target) && decide ((x.Links.getD k default).Open.Lo = (y.Links.getD k default).Open.Lo) && decide ((x.Links.getD k default).Open.Hi = (y.Links.getD k default).Open.Hi))) rfl (fun hc5 => ?_) (fun hc5 => ?_))))))))))
    ·
     simp [-List.getD_eq_getElem?_getD] at hc5
     refine AW.seq ?_
     have hnl : x.Links ≠ y.Links := fun e => by rw [e] at hc5; simp [-List.getD_eq_getElem?_getD] at hc5
     refine AW.region (RW.as rfl (RW.nil (Post.then_n (AW.ret (Post.blk_r (Post.then_r (Post.then_r (Post.blk_r (Post.then_r ?_)))))))))
     exact fin_val (v' := .bool false) rfl rfl rfl (by rw [decide_eq_false (fun e => hnl e.2.2.2)])
    ·
     simp [-List.getD_eq_getElem?_getD] at hc5
     refine AW.skip (Post.blk_n (Post.then_n ?_))
     refine AW.region (RW.mv rfl (RW.q (v := .int .i64 ((k + 1 : Nat) : Int)) rfl (q_add rfl rfl (by omega) (by unfold I64; omega)) (RW.as rfl (RW.nil ?_))))
     exact Post.back (s' := _) (J' := _) (m' := _) (by omega) ⟨k + 1, rfl, rfl, rfl, (by omega), (Fu.lt_succ heq (Fu.known_ext (by simpa using hc5)))⟩ ⟨rfl, rfl, rfl, trivial⟩ (fun _ h => h)
   ·
    simp [-List.getD_eq_getElem?_getD] at hc4
    refine AW.exit (Post.then_x (Post.then_x (Post.blk_hit (Post.then_n ?_))))
    refine AW.seq (AW.region (RW.as rfl (RW.nil (Post.then_n (AW.ret ?_)))))
    exact fin_val (v' := .bool true) rfl rfl rfl (by rw [decide_eq_true]; obtain ⟨⟨⟨e1, e2⟩, e3⟩, e4⟩ := hc1; exact ⟨e1, e4, hQ, Fu.getD_ext default (by omega) (fun j hj => heq j (by omega))⟩)

end Go.Proofs.Ytblfeidlnhdekaa
