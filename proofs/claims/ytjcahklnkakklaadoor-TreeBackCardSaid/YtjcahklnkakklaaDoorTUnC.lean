/- Walks (part UnC), printed by walk2.py. Conditions: those of each theorem. -/
import Derived.Test.YtjcahklnkakklaaDoorTUnB
import Derived.Test.YtjcahklnkakklaaDoorTUnPlB
namespace Go.Proofs.YtjcahklnkakklaaDoor
open Go Go.K Go.RowKit
set_option maxRecDepth 8000
set_option maxHeartbeats 1000000
attribute [local irreducible] AW RW DW Post Qt
theorem Amount_c (w : World) (Φ : Hp) (hΦ : Hp.le Φ (hp w)) (hG : Knows Φ Glob) {l n : List UInt8} (hl : l.length ≤ 1099511627776) :
  Calls Tryd.prog 15 #[.string (bs l), .string (bs n)] w fun e w' => e = .returned (.tuple #[.agg #[iV ((Un.amt l n).1 : Int), iV ((Un.amt l n).2.1 : Int)], iV ((Un.amt l n).2.2 : Int)]) ∧ Bel w.heap.size w w' := by
 refine calls_of_AW (args := [.string (bs l), .string (bs n)]) Tryd.func15 rfl (Nat.le_of_ble_eq_true rfl) (St ⟨w, Φ, []⟩ Φ []) (StP.init w Φ hΦ []) ?_
 show AW Tryd.prog 53 [] _ _ _ [(0, .string (bs l)), (1, .string (bs n))] _
 have hbl := Un.bef_len l
 have hal := Un.aft_len l
 refine g2 ?_
 refine RW.alc rfl fun b1 => ?_
 refine g6 ?_
 refine RW.q (v := .tuple #[.string (bs (Un.bef l)), .string (bs (Un.aft l)), .bool (Un.pt l)]) rfl (q_call (args := #[.string (bs l), .string (bs ([46] : List UInt8))]) own25 rfl rfl (fun w1 hw1 => sCut_c w1 (Go.K.hp w1) (Hp.le_refl _) (by omega))) ?_
 refine RW.q (v := .tuple #[.string (bs (Un.bef l)), .string (bs (Un.aft l)), .bool (Un.pt l)]) rfl (q_move rfl) ?_
 refine g12 ?_
 refine RW.q (v := .bool (Un.digs (Un.bef l) 20)) rfl (q_call (args := #[.string (bs (Un.bef l)), iV 20]) own26 rfl rfl (fun w1 hw1 => digits_c w1 (Go.K.hp w1) (Hp.le_refl _) (by omega))) ?_
 refine g4 ?_
 refine RW.g2 (b1 := (!(Un.digs (Un.bef l) 20))) (b2 := (Un.pt l)) (v := .string (bs (Un.aft l))) rfl rfl rfl (fun hg1 hg2 => q_move rfl) ?_
 refine RW.g2 (b1 := (!(Un.digs (Un.bef l) 20))) (b2 := (Un.pt l)) (v := .bool (Un.digs (Un.aft l) 9)) rfl rfl rfl (fun hg1 hg2 => q_call (args := #[.string (bs (Un.aft l)), iV 9]) own26 rfl (args2 ((gv_pos hg1).trans (gv_pos hg2)) rfl) (fun w1 hw1 => digits_c w1 (Go.K.hp w1) (Hp.le_refl _) (by (try simp [-List.getD_eq_getElem?_getD] at hg1); (try simp [-List.getD_eq_getElem?_getD] at hg2); omega))) ?_
 refine RW.g2 (b1 := (!(Un.digs (Un.bef l) 20))) (b2 := (Un.pt l)) (v := .bool (!(Un.digs (Un.aft l) 9))) rfl rfl rfl (fun hg1 hg2 => q_not ((gv_pos hg1).trans (gv_pos hg2))) ?_
 obtain ⟨qb1, hqb1⟩ : ∃ qz : Bool, ((Un.pt l) && (!(Un.digs (Un.aft l) 9))) = qz := ⟨_, rfl⟩
 refine RW.g (b := (!(Un.digs (Un.bef l) 20))) (v := .bool qb1) rfl rfl rfl (fun h => q_as (v := .bool ((Un.pt l) && (!(Un.digs (Un.aft l) 9)))) (q_pick (gv_pos h) (fun hp => (gv_pos h).trans ((gv_pos hp).trans (pkAndT hp))) (fun hp => pkAndF hp)) (congrArg Value.bool hqb1)) ?_
 refine RW.q (v := .bool ((!(Un.digs (Un.bef l) 20)) || qb1)) rfl (q_pick rfl (fun hp => pkOrT hp) (fun hp => (gv_pos hp).trans (pkOrF hp))) ?_
 subst hqb1
 refine g2 ?_
 refine AW.cond rfl (fun hc1 => ?_) fun hc1 => ?_
 ·
  simp [-List.getD_eq_getElem?_getD] at hc1
  refine g2 ?_
  refine RW.q (v := .agg #[iV 0, iV 0]) rfl (q_build (vals := []) zero23 uT23 places23 rfl rfl) ?_
  refine RW.effn (J' := St ⟨w, Φ, []⟩ Φ [.blk b1 23 [iV 0, iV 0]]) (e_store (v := .agg #[iV 0, iV 0]) 0 rfl rfl rfl sz23 rfl rfl rfl rfl rfl) ?_
  refine g5 ?_
  refine fin_cell2 (cs := [iV 0, iV 0]) (v := iV 2) rfl rfl rfl rfl uT23 rfl sz23 rfl (Cells.blk 0 rfl) (fun w' hw => ?_)
  refine ⟨?_, hw.below rfl⟩
  have hok : Un.okF l = false := by
   unfold Un.okF
   rcases hc1 with h | h
   ·
    rw [h]; rfl
   ·
    rw [h.1, h.2]; simp
  rw [Un.amt_form hok]
  rfl
 ·
  simp [-List.getD_eq_getElem?_getD] at hc1
  refine g3 ?_
  have hok : Un.okF l = true := by
   unfold Un.okF
   rw [hc1.1, Bool.true_and]
   cases hp : Un.pt l with
   | false => rfl
   | true => exact hc1.2 hp
  obtain ⟨hb1, hb2, ha9, _⟩ := Un.okF_len hok
  refine g2 ?_
  refine RW.q (v := .tuple #[.agg #[.string (bs ((Un.fdM n).1)), iV (((Un.fdM n).2.1 : Nat) : Int), iV (((Un.fdM n).2.2.1 : Nat) : Int), iV (((Un.fdM n).2.2.2 : Nat) : Int)], .bool ((Un.look n).isSome)]) rfl (q_call (args := #[.string (bs n)]) own27 rfl rfl (fun w1 hw1 => find_c w1 (Go.K.hp w1) (Hp.le_refl _) (hG.mono hw1.phi))) ?_
  refine RW.q (v := .tuple #[.agg #[.string (bs ((Un.fdM n).1)), iV (((Un.fdM n).2.1 : Nat) : Int), iV (((Un.fdM n).2.2.1 : Nat) : Int), iV (((Un.fdM n).2.2.2 : Nat) : Int)], .bool ((Un.look n).isSome)]) rfl (q_move rfl) ?_
  refine g2 ?_
  refine RW.alc rfl fun b2 => ?_
  refine RW.effn (J' := St ⟨w, Φ, []⟩ Φ [.blk b2 70 [.string (bs ((Un.fdM n).1)), iV (((Un.fdM n).2.1 : Nat) : Int), iV (((Un.fdM n).2.2.1 : Nat) : Int), iV (((Un.fdM n).2.2.2 : Nat) : Int)], .blk b1 23 [iV 0, iV 0]]) (e_store (v := .agg #[.string (bs ((Un.fdM n).1)), iV (((Un.fdM n).2.1 : Nat) : Int), iV (((Un.fdM n).2.2.1 : Nat) : Int), iV (((Un.fdM n).2.2.2 : Nat) : Int)]) 0 rfl rfl rfl sz70 rfl rfl rfl rfl rfl) ?_
  refine g10 ?_
  refine AW.cond rfl (fun hc2 => ?_) fun hc2 => ?_
  ·
   simp [-List.getD_eq_getElem?_getD] at hc2
   refine g2 ?_
   refine RW.q (v := .agg #[iV 0, iV 0]) rfl (q_build (vals := []) zero23 uT23 places23 rfl rfl) ?_
   refine RW.effn (J' := St ⟨w, Φ, []⟩ Φ [.blk b2 70 [.string (bs ((Un.fdM n).1)), iV (((Un.fdM n).2.1 : Nat) : Int), iV (((Un.fdM n).2.2.1 : Nat) : Int), iV (((Un.fdM n).2.2.2 : Nat) : Int)], .blk b1 23 [iV 0, iV 0]]) (e_store (v := .agg #[iV 0, iV 0]) 1 rfl rfl rfl sz23 rfl rfl rfl rfl rfl) ?_
   refine g5 ?_
   refine fin_cell2 (cs := [iV 0, iV 0]) (v := iV 6) rfl rfl rfl rfl uT23 rfl sz23 rfl (Cells.blk 1 rfl) (fun w' hw => ?_)
   refine ⟨?_, hw.below rfl⟩
   rw [Un.amt_none hok (by simpa using hc2)]
   rfl
  ·
   simp [-List.getD_eq_getElem?_getD] at hc2
   refine g3 ?_
   obtain ⟨me, hlk⟩ := Option.isSome_iff_exists.1 hc2
   have hfd : Un.fdM n = me := by unfold Un.fdM; rw [hlk]; rfl
   rw [hfd]
   refine AW.draw (J0 := St ⟨w, Φ, []⟩ Φ [.blk b2 70 [.string (bs me.1), iV (me.2.1 : Int), iV (me.2.2.1 : Int), iV (me.2.2.2 : Int)], .blk b1 23 [iV 0, iV 0]]) [.q, .q, .q, .q, .q, .q, .q, .q, .q, .q] [0, 1, 2, 3, 4, 5, 6, 7, 8, 9] hmix (by kernel_rfl) ?_
   refine g1 ?_
   refine DW.q (v := iV ((Un.valC (Un.bef l) : Nat) : Int)) (fun _ h => h) rfl (q_call (args := #[.string (bs (Un.bef l))]) own29 rfl rfl (fun w1 hw1 => value_c w1 (Go.K.hp w1) (Hp.le_refl _) (by omega) (Un.okF_bef hok))) ?_
   refine g2 ?_
   refine DW.q (v := .tuple #[iV (((Un.prod (Un.valC (Un.bef l)) (Un.aft l) me).1 : Nat) : Int), .bool ((Un.prod (Un.valC (Un.bef l)) (Un.aft l) me).2)]) (fun _ h => h) rfl (q_call (args := #[iV ((Un.valC (Un.bef l) : Nat) : Int), .string (bs (Un.aft l)), .agg #[.string (bs me.1), iV (me.2.1 : Int), iV (me.2.2.1 : Int), iV (me.2.2.2 : Int)]]) own28 rfl rfl (fun w1 hw1 => product_c w1 (Go.K.hp w1) (Hp.le_refl _) (Un.valC_le _) (Un.look_mem hlk).1 (by omega) (Un.okF_aft hok))) ?_
   refine DW.q (v := .tuple #[iV (((Un.prod (Un.valC (Un.bef l)) (Un.aft l) me).1 : Nat) : Int), .bool ((Un.prod (Un.valC (Un.bef l)) (Un.aft l) me).2)]) (fun _ h => h) rfl (q_move rfl) ?_
   refine g13 ?_
   refine AW.cond rfl (fun hc3 => ?_) fun hc3 => ?_
   ·
    simp [-List.getD_eq_getElem?_getD] at hc3
    refine g2 ?_
    refine RW.q (v := .agg #[iV 0, iV 0]) rfl (q_build (vals := []) zero23 uT23 places23 rfl rfl) ?_
    refine RW.effn (J' := St ⟨w, Φ, []⟩ Φ [.blk b2 70 [.string (bs me.1), iV (me.2.1 : Int), iV (me.2.2.1 : Int), iV (me.2.2.2 : Int)], .blk b1 23 [iV 0, iV 0]]) (e_store (v := .agg #[iV 0, iV 0]) 1 rfl rfl rfl sz23 rfl rfl rfl rfl rfl) ?_
    refine g5 ?_
    refine fin_cell2 (cs := [iV 0, iV 0]) (v := iV 7) rfl rfl rfl rfl uT23 rfl sz23 rfl (Cells.blk 1 rfl) (fun w' hw => ?_)
    refine ⟨?_, hw.below rfl⟩
    rw [Un.amt_prod hok hlk, if_neg (by rw [hc3]; simp)]
    rfl
   ·
    simp [-List.getD_eq_getElem?_getD] at hc3
    refine g7 ?_
    refine RW.q (v := .agg #[iV (((Un.prod (Un.valC (Un.bef l)) (Un.aft l) me).1 : Nat) : Int), iV (me.2.1 : Int)]) rfl (q_build (vals := [(0, iV (((Un.prod (Un.valC (Un.bef l)) (Un.aft l) me).1 : Nat) : Int)), (1, iV (me.2.1 : Int))]) zero23 uT23 places23 rfl rfl) ?_
    refine RW.effn (J' := St ⟨w, Φ, []⟩ Φ [.blk b2 70 [.string (bs me.1), iV (me.2.1 : Int), iV (me.2.2.1 : Int), iV (me.2.2.2 : Int)], .blk b1 23 [iV (((Un.prod (Un.valC (Un.bef l)) (Un.aft l) me).1 : Nat) : Int), iV (me.2.1 : Int)]]) (e_store (v := .agg #[iV (((Un.prod (Un.valC (Un.bef l)) (Un.aft l) me).1 : Nat) : Int), iV (me.2.1 : Int)]) 1 rfl rfl rfl sz23 rfl rfl rfl rfl rfl) ?_
    refine g4 ?_
    refine fin_cell2 (cs := [iV (((Un.prod (Un.valC (Un.bef l)) (Un.aft l) me).1 : Nat) : Int), iV (me.2.1 : Int)]) (v := iV 0) rfl rfl rfl rfl uT23 rfl sz23 rfl (Cells.blk 1 rfl) (fun w' hw => ?_)
    refine ⟨?_, hw.below rfl⟩
    rw [Un.amt_prod hok hlk, if_pos hc3]
    rfl
theorem Write_c (w : World) (Φ : Hp) (hΦ : Hp.le Φ (hp w)) (hG : Knows Φ Glob) {N D : Int} :
  Calls Tryd.prog 33 #[.agg #[iV N, iV D]] w fun e w' => e = .returned (.string (bs (Un.wri N D))) ∧ Bel w.heap.size w w' := by
 refine calls_of_AW (args := [.agg #[iV N, iV D]]) Tryd.func33 rfl (Nat.le_of_ble_eq_true rfl) (St ⟨w, Φ, []⟩ Φ []) (StP.init w Φ hΦ []) ?_
 show AW Tryd.prog 35 [] _ _ _ [(0, .agg #[iV N, iV D])] _
 refine g2 ?_
 refine RW.bxA rfl rfl fun b1 => ?_
 refine g13 ?_
 obtain ⟨qb1, hqb1⟩ : ∃ qz : Bool, ((decide (D < 0)) || (decide ((6 : Int) < D))) = qz := ⟨_, rfl⟩
 refine RW.q (v := .bool qb1) rfl (q_as (v := .bool ((decide (D < 0)) || (decide ((6 : Int) < D)))) (q_pick rfl (fun hp => pkOrT hp) (fun hp => (gv_pos hp).trans (pkOrF hp))) (congrArg Value.bool hqb1)) ?_
 refine g4 ?_
 refine RW.q (v := .bool (qb1 || (decide (N < 0)))) rfl (q_pick rfl (fun hp => pkOrT hp) (fun hp => (gv_pos hp).trans (pkOrF hp))) ?_
 refine g4 ?_
 obtain ⟨qb2, hqb2⟩ : ∃ qz : Bool, ((qb1 || (decide (N < 0))) || (decide ((1125899906842624 : Int) < N))) = qz := ⟨_, rfl⟩
 refine RW.q (v := .bool qb2) rfl (q_as (v := .bool ((qb1 || (decide (N < 0))) || (decide ((1125899906842624 : Int) < N)))) (q_pick rfl (fun hp => pkOrT hp) (fun hp => (gv_pos hp).trans (pkOrF hp))) (congrArg Value.bool hqb2)) ?_
 subst hqb2 hqb1
 refine g2 ?_
 refine AW.cond rfl (fun hc1 => ?_) fun hc1 => ?_
 ·
  simp [-List.getD_eq_getElem?_getD] at hc1
  refine g7 ?_
  exact fin_val (v' := .string (bs ([] : List UInt8))) rfl rfl rfl (by unfold Un.wri; rw [if_neg (by unfold Un.M; omega)])
 ·
  simp [-List.getD_eq_getElem?_getD] at hc1
  refine g4 ?_
  obtain ⟨n, rfl⟩ := Int.eq_ofNat_of_zero_le (show 0 ≤ N by omega)
  obtain ⟨d, rfl⟩ := Int.eq_ofNat_of_zero_le (show 0 ≤ D by omega)
  have hdl : (Lib.decDigits n).length ≤ 16 := Un.dec_len_le (by omega) (by omega)
  have hbl := Un.bases_len d
  refine g6 ?_
  refine AW.cond rfl (fun hc2 => ?_) fun hc2 => ?_
  ·
   simp [-List.getD_eq_getElem?_getD] at hc2
   refine g4 ?_
   refine RW.q (v := .string (bs (Lib.decDigits n))) rfl (q_call (args := #[iV (n : Int)]) own48 rfl rfl (fun w1 hw1 => Tryd.itoa_c (n := n) (by omega) w1 (hG w1 hw1.phi).2)) ?_
   refine g5 ?_
   have hin : 0 ≤ (d : Int) ∧ (d : Int) ≤ 6 ∧ 0 ≤ (n : Int) ∧ (n : Int) ≤ Un.M := by unfold Un.M; omega
   exact fin_val (v' := .string (bs (Lib.decDigits n))) rfl rfl rfl (by unfold Un.wri; rw [if_pos hin, if_pos (by omega), Int.toNat_natCast])
  ·
   simp [-List.getD_eq_getElem?_getD] at hc2
   refine g3 ?_
   refine AW.draw (J0 := St ⟨w, Φ, []⟩ Φ [.blk b1 23 [iV (n : Int), iV (d : Int)]]) [.q, .q, .q, .q, .q, .q, .q, .q, .q] [0, 1, 2, 3, 4, 5, 6, 7, 8] hmix (by kernel_rfl) ?_
   refine g2 ?_
   refine DW.q (v := .string (bs (Lib.decDigits n))) (fun _ h => h) rfl (q_call (args := #[iV (n : Int)]) own48 rfl rfl (fun w1 hw1 => Tryd.itoa_c (n := n) (by omega) w1 (hG w1 hw1.phi).2)) ?_
   refine DW.q (v := .string (bs ((Lib.decDigits n) ++ ([32] : List UInt8)))) (fun _ h => h) rfl (q_catStr (l := Lib.decDigits n) (r := ([32] : List UInt8)) rfl rfl (by simp only [List.length_append, List.length_cons, List.length_nil]; omega) rfl) ?_
   refine g2 ?_
   refine DW.q (v := .string (bs (Un.bases.getD d []))) (fun _ h => h) rfl (q_call (args := #[iV (d : Int)]) own49 rfl rfl (fun w1 hw1 => base_c w1 (Go.K.hp w1) (Hp.le_refl _) (hG.mono hw1.phi) (by omega))) ?_
   refine DW.q (v := .string (bs (((Lib.decDigits n) ++ ([32] : List UInt8)) ++ (Un.bases.getD d [])))) (fun _ h => h) rfl (q_catStr (l := (Lib.decDigits n) ++ ([32] : List UInt8)) (r := Un.bases.getD d []) rfl rfl (by simp only [List.length_append, List.length_cons, List.length_nil]; omega) rfl) ?_
   refine g4 ?_
   have hin : 0 ≤ (d : Int) ∧ (d : Int) ≤ 6 ∧ 0 ≤ (n : Int) ∧ (n : Int) ≤ Un.M := by unfold Un.M; omega
   exact fin_val (v' := .string (bs (((Lib.decDigits n) ++ ([32] : List UInt8)) ++ (Un.bases.getD d [])))) rfl rfl rfl (by unfold Un.wri; rw [if_pos hin, if_neg (by omega), Int.toNat_natCast, Int.toNat_natCast])
end Go.Proofs.YtjcahklnkakklaaDoor
