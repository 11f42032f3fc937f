/- Walks (part WalkI), printed by walk2.py. Conditions: those of each theorem. -/
import Derived.Test.YtblfeidlnhdekaaXWalkH
namespace Go.Proofs.Ytblfeidlnhdekaa
open Go Go.K Go.RowKit
set_option maxRecDepth 8000
set_option maxHeartbeats 1000000
attribute [local irreducible] AW RW DW Post Qt
theorem Same_c (w : World) (Φ : Hp) (hΦ : Hp.le Φ (hp w)) {x : Bt.Hull} {xcs : List Value} (xH : RepV Φ x xcs) {y : Bt.Hull} {ycs : List Value} (yH : RepV Φ y ycs) :
  Calls Try.prog 14 #[.agg xcs.toArray, .agg ycs.toArray] w fun e w' => e = .returned (.bool (decide (Fu.sameH x y))) ∧ Bel w.heap.size w w' := by
 obtain ⟨xv1, xv2, xv3, xhcs, xhw, xr1, xr2, xr3⟩ := (show Rep.rep Φ x xcs from xH)
 subst xhcs
 have xm1 : x.Vol.length * 16 ≤ 140737488355328 := xr1.max
 have xm2 : x.Queue.length * 32 ≤ 140737488355328 := xr2.max
 have xm3 : x.Links.length * 40 ≤ 140737488355328 := xr3.max
 obtain ⟨yv1, yv2, yv3, yhcs, yhw, yr1, yr2, yr3⟩ := (show Rep.rep Φ y ycs from yH)
 subst yhcs
 have ym1 : y.Vol.length * 16 ≤ 140737488355328 := yr1.max
 have ym2 : y.Queue.length * 32 ≤ 140737488355328 := yr2.max
 have ym3 : y.Links.length * 40 ≤ 140737488355328 := yr3.max
 refine calls_of_AW (args := [.agg #[iV x.Hour, xv1, xv2, xv3], .agg #[iV y.Hour, yv1, yv2, yv3]]) Try.func14 rfl (Nat.le_of_ble_eq_true rfl) (St ⟨w, Φ, []⟩ Φ []) (StP.init w Φ hΦ []) ?_
 show AW Try.prog 74 [] _ _ _ [(0, .agg #[iV x.Hour, xv1, xv2, xv3]), (1, .agg #[iV y.Hour, yv1, yv2, yv3])] _
 refine g2 ?_
 refine RW.bxA rfl rfl fun b1 => ?_
 refine RW.bxA rfl rfl fun b2 => ?_
 refine RW.q (v := .bool false) rfl (q_assign rfl) (RW.nil (Post.then_n (AW.seq (AW.seq (AW.region (RW.q (v := pV b1 0) rfl (q_fieldAddr rfl uT36 rfl sz3 rfl) (RW.q (v := iV x.Hour) rfl (q_load rfl uT3 rfl (Cell.blk 1 rfl rfl)) (RW.q (v := pV b2 0) rfl (q_fieldAddr rfl uT36 rfl sz3 rfl) (RW.q (v := iV y.Hour) rfl (q_load rfl uT3 rfl (Cell.blk 0 rfl rfl)) ?_)))))))))
 refine RW.q (v := .bool (!decide (x.Hour = y.Hour))) rfl (q_neq rfl rfl) (RW.q (v := .bool (!decide (x.Hour = y.Hour))) rfl (q_move rfl) (RW.g (b := (!decide (x.Hour = y.Hour))) (v := pV b1 2) rfl rfl rfl (fun h => q_fieldAddr rfl uT36 rfl sz33 rfl) (RW.g (b := (!decide (x.Hour = y.Hour))) (v := xv2) rfl rfl rfl (fun h => q_load (gv_pos h) uT33 rfl (Cell.blk 1 rfl rfl)) (RW.g (b := (!decide (x.Hour = y.Hour))) (v := iV (x.Queue.length : Int)) rfl rfl rfl (fun h => q_len_sl (gv_pos h) xr2.sl uT33) (RW.g (b := (!decide (x.Hour = y.Hour))) (v := pV b2 2) rfl rfl rfl (fun h => q_fieldAddr rfl uT36 rfl sz33 rfl) (RW.g (b := (!decide (x.Hour = y.Hour))) (v := yv2) rfl rfl rfl (fun h => q_load (gv_pos h) uT33 rfl (Cell.blk 0 rfl rfl)) (RW.g (b := (!decide (x.Hour = y.Hour))) (v := iV (y.Queue.length : Int)) rfl rfl rfl (fun h => q_len_sl (gv_pos h) yr2.sl uT33) (RW.g (b := (!decide (x.Hour = y.Hour))) (v := .bool (!decide ((x.Queue.length : Int) = (y.Queue.length : Int)))) rfl rfl rfl (fun h => q_neq (gv_pos h) (gv_pos h)) ?_))))))))
 obtain ⟨qb1, hqb1⟩ : ∃ z : Bool, ((!decide (x.Hour = y.Hour)) || (!decide ((x.Queue.length : Int) = (y.Queue.length : Int)))) = z := ⟨_, rfl⟩
 refine RW.q (v := .bool qb1) rfl (q_as (v := .bool ((!decide (x.Hour = y.Hour)) || (!decide ((x.Queue.length : Int) = (y.Queue.length : Int))))) (q_pick rfl (fun hp => pkOrT hp) (fun hp => (gv_pos hp).trans (pkOrF hp))) (congrArg Value.bool hqb1)) (RW.q (v := .bool qb1) rfl (q_move rfl) (RW.g (b := qb1) (v := pV b1 3) rfl rfl rfl (fun h => q_fieldAddr rfl uT36 rfl sz34 rfl) (RW.g (b := qb1) (v := xv3) rfl rfl rfl (fun h => q_load (gv_pos h) uT34 rfl (Cell.blk 1 rfl rfl)) (RW.g (b := qb1) (v := iV (x.Links.length : Int)) rfl rfl rfl (fun h => q_len_sl (gv_pos h) xr3.sl uT34) (RW.g (b := qb1) (v := pV b2 3) rfl rfl rfl (fun h => q_fieldAddr rfl uT36 rfl sz34 rfl) (RW.g (b := qb1) (v := yv3) rfl rfl rfl (fun h => q_load (gv_pos h) uT34 rfl (Cell.blk 0 rfl rfl)) (RW.g (b := qb1) (v := iV (y.Links.length : Int)) rfl rfl rfl (fun h => q_len_sl (gv_pos h) yr3.sl uT34) (RW.g (b := qb1) (v := .bool (!decide ((x.Links.length : Int) = (y.Links.length : Int)))) rfl rfl rfl (fun h => q_neq (gv_pos h) (gv_pos h)) ?_))))))))
 obtain ⟨qb2, hqb2⟩ : ∃ z : Bool, (qb1 || (!decide ((x.Links.length : Int) = (y.Links.length : Int)))) = z := ⟨_, rfl⟩
 refine RW.q (v := .bool qb2) rfl (q_as (v := .bool (qb1 || (!decide ((x.Links.length : Int) = (y.Links.length : Int))))) (q_pick rfl (fun hp => pkOrT hp) (fun hp => (gv_pos hp).trans (pkOrF hp))) (congrArg Value.bool hqb2)) ?_
 refine g5 ?_
 refine RW.g (b := qb2) (v := .bool (decide (x.Vol = y.Vol))) rfl rfl rfl (fun h => q_call (args := #[xv1, yv1]) own18 rfl (args2 (gv_pos h) (gv_pos h)) (fun w1 hw1 => SameAll_c w1 (Go.K.hp w1) (Hp.le_refl _) (xr1.mono hw1.phi) (yr1.mono hw1.phi))) ?_
 refine g1 ?_
 refine RW.q (v := .bool (qb2 || (!(decide (x.Vol = y.Vol))))) rfl (q_pick rfl (fun hp => pkOrT hp) (fun hp => (gv_pos hp).trans (pkOrF hp))) ?_
 subst hqb2 hqb1
 refine g2 ?_
 refine AW.cond rfl (fun hc1 => ?_) fun hc1 => ?_
 ·
  simp [-List.getD_eq_getElem?_getD] at hc1
  refine g7 ?_
  exact fin_val (v' := .bool false) rfl rfl rfl (by rw [decide_eq_false (fun e => by obtain ⟨e1, e2, e3, e4⟩ := e; rcases hc1 with ((h1 | h1) | h1) | h1; exact h1 e1; exact h1 (by rw [e3]); exact h1 (by rw [e4]); exact h1 e2)])
 ·
  simp [-List.getD_eq_getElem?_getD] at hc1
  refine g9 ?_
  refine AW.loop (fun s J m => ∃ (k : Nat), s = [(2, pV b1 0), (3, pV b2 0), (5, iV (k : Int))] ∧ J = St ⟨w, Φ, []⟩ Φ [.blk b2 36 [iV y.Hour, yv1, yv2, yv3], .blk b1 36 [iV x.Hour, xv1, xv2, xv3]] ∧ m = x.Queue.length - k ∧ (k ≤ x.Queue.length) ∧ (∀ j, j < k → x.Queue.getD j default = y.Queue.getD j default)) (s0 := _) (J1 := _) (m0 := _) ⟨0, rfl, rfl, rfl, (by omega), (by omega)⟩ ⟨rfl, rfl, rfl, trivial⟩ (fun _ h => h) ?_
  rintro _ _ _ _ ⟨k, rfl, rfl, rfl, hk, heq⟩
  refine g10 ?_
  refine AW.cond rfl (fun hc2 => ?_) fun hc2 => ?_
  ·
   simp [-List.getD_eq_getElem?_getD] at hc2
   refine g5 ?_
   refine AW.draw (J0 := St ⟨w, Φ, []⟩ Φ [.blk b2 36 [iV y.Hour, yv1, yv2, yv3], .blk b1 36 [iV x.Hour, xv1, xv2, xv3]]) [.q, .q, .q, .q, .q, .q, .q, .q, .q, .q, .q] [0, 1, 2, 3, 4, 5, 6, 7, 8, 9, 10] hmix (by kernel_rfl) ?_
   refine g3 ?_
   refine DW.q (v := .pointer (some (Value.at xv2 (k * 4)))) (fun _ h => h) rfl (q_indexAddr rfl rfl xr2.sl uT33 sz93 (by omega) (by omega) rfl) (DW.q (v := .agg (cl93 (x.Queue.getD k default)).toArray) (fun _ h => h) rfl (q_loadAgg rfl uT93 rfl sz93 rfl (Cells.repE xr2 (by omega) rfl)) ?_)
   refine g3 ?_
   refine DW.q (v := .pointer (some (Value.at yv2 (k * 4)))) (fun _ h => h) rfl (q_indexAddr rfl rfl yr2.sl uT33 sz93 (by omega) (by omega) rfl) (DW.q (v := .agg (cl93 (y.Queue.getD k default)).toArray) (fun _ h => h) rfl (q_loadAgg rfl uT93 rfl sz93 rfl (Cells.repE yr2 (by omega) rfl)) (DW.q (v := .bool (!(decide ((x.Queue.getD k default).At = (y.Queue.getD k default).At) && decide ((x.Queue.getD k default).To = (y.Queue.getD k default).To) && decide ((x.Queue.getD k default).Vol.Lo = (y.Queue.getD k default).Vol.Lo) && decide ((x.Queue.getD k default).Vol.Hi = (y.Queue.getD k default).Vol.Hi)))) (fun _ h => h) rfl (q_neqS rfl rfl (eqS93 _ _ _ _ _ _ _ _) eqG93) ?_))
   refine g2 ?_
   refine AW.cond rfl (fun hc3 => ?_) fun hc3 => ?_
   ·
    simp [-List.getD_eq_getElem?_getD] at hc3
    refine g1 ?_
    have hnq : x.Queue ≠ y.Queue := fun e => by rw [e] at hc3; simp [-List.getD_eq_getElem?_getD] at hc3
    refine g10 ?_
    exact fin_val (v' := .bool false) rfl rfl rfl (by rw [decide_eq_false (fun e => hnq e.2.2.1)])
   ·
    simp [-List.getD_eq_getElem?_getD] at hc3
    refine g8 ?_
    exact Post.back (s' := _) (J' := _) (m' := _) (by omega) ⟨k + 1, rfl, rfl, rfl, (by omega), (Fu.lt_succ heq (Fu.sum_ext (by simpa using hc3)))⟩ ⟨rfl, rfl, rfl, trivial⟩ (fun _ h => h)
  ·
   simp [-List.getD_eq_getElem?_getD] at hc2
   refine g12 ?_
   have hQ : x.Queue = y.Queue := Fu.getD_ext default (by omega) (fun j hj => heq j (by omega))
   refine AW.loop (fun s J m => ∃ (k : Nat), s = [(2, pV b1 0), (3, pV b2 0), (6, iV (k : Int))] ∧ J = St ⟨w, Φ, []⟩ Φ [.blk b2 36 [iV y.Hour, yv1, yv2, yv3], .blk b1 36 [iV x.Hour, xv1, xv2, xv3]] ∧ m = x.Links.length - k ∧ (k ≤ x.Links.length) ∧ (∀ j, j < k → x.Links.getD j default = y.Links.getD j default)) (s0 := _) (J1 := _) (m0 := _) ⟨0, rfl, rfl, rfl, (by omega), (by omega)⟩ ⟨rfl, rfl, rfl, trivial⟩ (fun _ h => h) ?_
   rintro _ _ _ _ ⟨k, rfl, rfl, rfl, hk, heq⟩
   refine g10 ?_
   refine AW.cond rfl (fun hc4 => ?_) fun hc4 => ?_
   ·
    simp [-List.getD_eq_getElem?_getD] at hc4
    refine g5 ?_
    refine AW.draw (J0 := St ⟨w, Φ, []⟩ Φ [.blk b2 36 [iV y.Hour, yv1, yv2, yv3], .blk b1 36 [iV x.Hour, xv1, xv2, xv3]]) [.q, .q, .q, .q, .q, .q, .q, .q, .q, .q, .q] [0, 1, 2, 3, 4, 5, 6, 7, 8, 9, 10] hmix (by kernel_rfl) ?_
    refine g3 ?_
    refine DW.q (v := .pointer (some (Value.at xv3 (k * 5)))) (fun _ h => h) rfl (q_indexAddr rfl rfl xr3.sl uT34 sz79 (by omega) (by omega) rfl) (DW.q (v := .agg (cl79 (x.Links.getD k default)).toArray) (fun _ h => h) rfl (q_loadAgg rfl uT79 rfl sz79 rfl (Cells.repE xr3 (by omega) rfl)) ?_)
    refine g3 ?_
    refine DW.q (v := .pointer (some (Value.at yv3 (k * 5)))) (fun _ h => h) rfl (q_indexAddr rfl rfl yr3.sl uT34 sz79 (by omega) (by omega) rfl) (DW.q (v := .agg (cl79 (y.Links.getD k default)).toArray) (fun _ h => h) rfl (q_loadAgg rfl uT79 rfl sz79 rfl (Cells.repE yr3 (by omega) rfl)) (DW.q (v := .bool (!(decide ((x.Links.getD k default).Pos.Lo = (y.Links.getD k default).Pos.Lo) && decide ((x.Links.getD k default).Pos.Hi = (y.Links.getD k default).Pos.Hi) && decide ((x.Links.getD k default).Target = (y.Links.getD k default).Target) && decide ((x.Links.getD k default).Open.Lo = (y.Links.getD k default).Open.Lo) && decide ((x.Links.getD k default).Open.Hi = (y.Links.getD k default).Open.Hi)))) (fun _ h => h) rfl (q_neqS rfl rfl (eqS79 _ _ _ _ _ _ _ _ _ _) eqG79) ?_))
    refine g2 ?_
    refine AW.cond rfl (fun hc5 => ?_) fun hc5 => ?_
    ·
     simp [-List.getD_eq_getElem?_getD] at hc5
     refine g1 ?_
     have hnl : x.Links ≠ y.Links := fun e => by rw [e] at hc5; simp [-List.getD_eq_getElem?_getD] at hc5
     refine g10 ?_
     exact fin_val (v' := .bool false) rfl rfl rfl (by rw [decide_eq_false (fun e => hnl e.2.2.2)])
    ·
     simp [-List.getD_eq_getElem?_getD] at hc5
     refine g8 ?_
     exact Post.back (s' := _) (J' := _) (m' := _) (by omega) ⟨k + 1, rfl, rfl, rfl, (by omega), (Fu.lt_succ heq (Fu.known_ext (by simpa using hc5)))⟩ ⟨rfl, rfl, rfl, trivial⟩ (fun _ h => h)
   ·
    simp [-List.getD_eq_getElem?_getD] at hc4
    refine g11 ?_
    exact fin_val (v' := .bool true) rfl rfl rfl (by rw [decide_eq_true]; obtain ⟨⟨⟨e1, e2⟩, e3⟩, e4⟩ := hc1; exact ⟨e1, e4, hQ, Fu.getD_ext default (by omega) (fun j hj => heq j (by omega))⟩)
end Go.Proofs.Ytblfeidlnhdekaa
