/- Lemmas. Conditions: those of each theorem. -/
import Derived.Test.YtpapfpoefiikpaaGreatDoorVWalkBe
set_option maxRecDepth 8000
set_option maxHeartbeats 16000000
namespace Go.Proofs.YtpapfpoefiikpaaGreatDoor
open Go Go.K Go.RowKit
attribute [local irreducible] AW RW DW Post Qt
def townBad (b : Bt.Basin) (k : Nat) : Bool := ((((((!(decide (0 ≤ (b.Towns.getD k default).Place ∧ (b.Towns.getD k default).Place < (b.Places.length : Int)))) || (!(decide (0 ≤ (b.Towns.getD k default).Flood ∧ (b.Towns.getD k default).Flood ≤ 1125899906842624)))) || (!(decide (0 ≤ (b.Towns.getD k default).Lead ∧ (b.Towns.getD k default).Lead ≤ 24)))) || (!(decide (0 ≤ (b.Towns.getD k default).People ∧ (b.Towns.getD k default).People ≤ 1073741824)))) || (!(decide (0 ≤ (b.Towns.getD k default).Watch ∧ (b.Towns.getD k default).Watch ≤ 1125899906842624)))) || (!(decide (0 ≤ (b.Towns.getD k default).Quorum ∧ (b.Towns.getD k default).Quorum ≤ 128))))
def shelBad (b : Bt.Basin) (k : Nat) : Bool := !(decide (0 ≤ (b.Shelters.getD k default).Room ∧ (b.Shelters.getD k default).Room ≤ 1073741824))
def RTowns (b : Bt.Basin) : Prop := (∀ k, k < b.Towns.length → townBad b k = false) ∧ ∀ k, k < b.Shelters.length → shelBad b k = false
instance (b : Bt.Basin) : Decidable (RTowns b) := inferInstanceAs (Decidable ((∀ k, k < b.Towns.length → townBad b k = false) ∧ ∀ k, k < b.Shelters.length → shelBad b k = false))
theorem rTowns_c (w : World) (Φ : Hp) (hΦ : Hp.le Φ (hp w)) {b : Bt.Basin} {cs : List Value} (hB : RepV Φ b cs)  :
  Calls pg 43 #[.agg cs.toArray] w fun e w' => e = .returned (.bool (decide (RTowns b))) ∧ Bel w.heap.size w w' := by
 obtain ⟨v1, v3, v4, v5, v6, v7, v8, v9, hcs, hBw, r1, r3, r4, r5, r6, r7, r8, r9⟩ := (show Rep.rep Φ b cs from hB)
 subst hcs
 have hpm : b.Places.length * 152 ≤ 140737488355328 := r3.max
 refine in1 64 Tryz.func43 rfl rfl hΦ ?_
 have hnl : b.Name.data.toList.length ≤ 9223372036854775807 := hBw.1
 have hom : b.Owners.length * 16 ≤ 140737488355328 := r1.max
 have hlm : b.Links.length * 200 ≤ 140737488355328 := r4.max
 have htm : b.Towns.length * 64 ≤ 140737488355328 := r5.max
 have hgm_ : b.Gauges.length * 48 ≤ 140737488355328 := r6.max
 have hrm : b.Roads.length * 64 ≤ 140737488355328 := r7.max
 have hsm : b.Shelters.length * 24 ≤ 140737488355328 := r8.max
 have hom2 : b.Room.length * 8 ≤ 140737488355328 := r9.max
 refine gs2 ?_
 refine RW.bxA rfl rfl fun b1 => ?_
 refine gs13 ?_
 refine AW.lp (fun s J m => ∃ (k : Nat), s = [(1, pV b1 0), (8, v5), (9, iV (b.Towns.length : Int)), (10, iV (k : Int))] ∧ J = St ⟨w, Φ, []⟩ Φ [.blk b1 31 (cl31 b v1 v3 v4 v5 v6 v7 v8 v9)] ∧ m = b.Towns.length - k ∧ (k ≤ b.Towns.length) ∧ (∀ j, j < k → townBad b j = false)) ⟨0, rfl, rfl, rfl, (by omega), (fun j hj => absurd hj (by omega))⟩ ?_
 rintro _ _ _ _ ⟨k, rfl, rfl, rfl, hk, hall⟩
 refine gs6 ?_
 refine AW.cond rfl (fun hc1 => ?_) fun hc1 => ?_
 ·
  simp [-List.getD_eq_getElem?_getD, -Array.length_toList] at hc1
  refine gs7 ?_
  refine RW.q (v := .agg (cl84 (b.Towns.getD k default)).toArray) rfl (q_loadAgg rfl uT84 rfl sz84 rfl (Cells.repE r5 (by omega) rfl)) ?_
  refine RW.alc rfl fun b2 => ?_
  refine gs10 ?_
  refine RW.c rfl (fun w1 hw1 => bIdx_c w1 (Go.K.hp w1) (Hp.le_refl _) (by omega)) rfl rfl ?_
  refine gs4 ?_
  refine RW.gc rfl rfl rfl (fun w1 hw1 => bVol_c w1 (Go.K.hp w1) (Hp.le_refl _)) rfl (fun h => args1 (gv_pos h)) ?_
  refine gs1 ?_
  refine RW.pkO rfl rfl rfl rfl fun qb1 hqb1 => ?_
  refine gs3 ?_
  refine RW.gc rfl rfl rfl (fun w1 hw1 => bIn_c w1 (Go.K.hp w1) (Hp.le_refl _)) rfl (fun h => args3 (gv_pos h) rfl rfl) ?_
  refine gs1 ?_
  refine RW.pkO rfl rfl rfl rfl fun qb2 hqb2 => ?_
  refine gs3 ?_
  refine RW.gc rfl rfl rfl (fun w1 hw1 => bIn_c w1 (Go.K.hp w1) (Hp.le_refl _)) rfl (fun h => args3 (gv_pos h) rfl rfl) ?_
  refine gs1 ?_
  refine RW.pkO rfl rfl rfl rfl fun qb3 hqb3 => ?_
  refine gs3 ?_
  refine RW.gc rfl rfl rfl (fun w1 hw1 => bVol_c w1 (Go.K.hp w1) (Hp.le_refl _)) rfl (fun h => args1 (gv_pos h)) ?_
  refine gs1 ?_
  refine RW.pkO rfl rfl rfl rfl fun qb4 hqb4 => ?_
  refine gs3 ?_
  refine RW.gc rfl rfl rfl (fun w1 hw1 => bIn_c w1 (Go.K.hp w1) (Hp.le_refl _)) rfl (fun h => args3 (gv_pos h) rfl rfl) ?_
  refine gs1 ?_
  refine RW.pkO rfl rfl rfl rfl fun qb5 hqb5 => ?_
  subst hqb5 hqb4 hqb3 hqb2 hqb1
  refine gs2 ?_
  refine AW.cond rfl (fun hc2 => ?_) fun hc2 => ?_
  ·
   refine gs11 ?_
   exact fin_val (v' := .bool false) rfl rfl rfl (congrArg Value.bool (decide_eq_false (fun h9 => Bool.noConfusion ((h9.1 k (by omega)).symm.trans hc2))).symm)
  ·
   refine gs7 ?_
   exact Post.bk ⟨k + 1, rfl, rfl, rfl, (by omega), (Fu.lt_succ hall hc2)⟩
 ·
  simp [-List.getD_eq_getElem?_getD, -Array.length_toList] at hc1
  refine gs15 ?_
  refine AW.lp (fun s J m => ∃ (k : Nat), s = [(53, v8), (54, iV (b.Shelters.length : Int)), (55, iV (k : Int))] ∧ J = St ⟨w, Φ, []⟩ Φ [.blk b1 31 (cl31 b v1 v3 v4 v5 v6 v7 v8 v9)] ∧ m = b.Shelters.length - k ∧ (k ≤ b.Shelters.length) ∧ (∀ j, j < k → shelBad b j = false)) ⟨0, rfl, rfl, rfl, (by omega), (fun j hj => absurd hj (by omega))⟩ ?_
  rintro _ _ _ _ ⟨k, rfl, rfl, rfl, hk, hal2⟩
  refine gs6 ?_
  refine AW.cond rfl (fun hc3 => ?_) fun hc3 => ?_
  ·
   simp [-List.getD_eq_getElem?_getD, -Array.length_toList] at hc3
   refine gs7 ?_
   refine RW.q (v := .agg #[.string ((b.Shelters.getD k default).Name), iV ((b.Shelters.getD k default).Room)]) rfl (q_loadAgg rfl uT95 rfl sz95 rfl (Cells.repE r8 (by omega) rfl)) ?_
   refine RW.alc rfl fun b3 => ?_
   refine gs7 ?_
   refine RW.c rfl (fun w1 hw1 => bIn_c w1 (Go.K.hp w1) (Hp.le_refl _)) rfl rfl ?_
   refine gs3 ?_
   refine AW.cond rfl (fun hc4 => ?_) fun hc4 => ?_
   ·
    refine gs11 ?_
    exact fin_val (v' := .bool false) rfl rfl rfl (congrArg Value.bool (decide_eq_false (fun h9 => Bool.noConfusion ((h9.2 k (by omega)).symm.trans hc4))).symm)
   ·
    refine gs7 ?_
    exact Post.bk ⟨k + 1, rfl, rfl, rfl, (by omega), (Fu.lt_succ hal2 hc4)⟩
  ·
   simp [-List.getD_eq_getElem?_getD, -Array.length_toList] at hc3
   refine gs11 ?_
   exact fin_val (v' := .bool true) rfl rfl rfl (congrArg Value.bool (decide_eq_true (show RTowns b from ⟨fun j hj => hall j (by omega), fun j hj => hal2 j (by omega)⟩)).symm)
theorem sz152 : (pg.info? 152).map (·.size) = some 3 := by kernel_rfl
theorem zero152 : (pg.info? 152).map (·.zero) = some (some (.agg #[iV 0, iV 0, iV 0])) := by kernel_rfl
def gaugeBad (b : Bt.Basin) (k : Nat) : Bool := (((!(decide (0 ≤ (b.Gauges.getD k default).Kind ∧ (b.Gauges.getD k default).Kind ≤ 2))) || (!(decide (0 ≤ (b.Gauges.getD k default).Err ∧ (b.Gauges.getD k default).Err ≤ 1099511627776)))) || (!(decide (0 ≤ (b.Gauges.getD k default).Drift ∧ (b.Gauges.getD k default).Drift ≤ 1440))))
def tgBad (b : Bt.Basin) (k : Nat) : Bool := if (b.Gauges.getD k default).Kind = 0 then !(decide (0 ≤ (b.Gauges.getD k default).Target ∧ (b.Gauges.getD k default).Target < (b.Places.length : Int))) else if (b.Gauges.getD k default).Kind = 1 then !(decide (0 ≤ (b.Gauges.getD k default).Target ∧ (b.Gauges.getD k default).Target < b.Cells)) else !(decide (0 ≤ (b.Gauges.getD k default).Target ∧ (b.Gauges.getD k default).Target < (b.Links.length : Int)))
def RGauges (b : Bt.Basin) : Prop := ∀ k, k < b.Gauges.length → gaugeBad b k = false ∧ tgBad b k = false
instance (b : Bt.Basin) : Decidable (RGauges b) := inferInstanceAs (Decidable (∀ k, k < b.Gauges.length → gaugeBad b k = false ∧ tgBad b k = false))
theorem rGauges_c (w : World) (Φ : Hp) (hΦ : Hp.le Φ (hp w)) {b : Bt.Basin} {cs : List Value} (hB : RepV Φ b cs) (hh : RHead b) :
  Calls pg 44 #[.agg cs.toArray] w fun e w' => e = .returned (.bool (decide (RGauges b))) ∧ Bel w.heap.size w w' := by
 obtain ⟨v1, v3, v4, v5, v6, v7, v8, v9, hcs, hBw, r1, r3, r4, r5, r6, r7, r8, r9⟩ := (show Rep.rep Φ b cs from hB)
 subst hcs
 have hpm : b.Places.length * 152 ≤ 140737488355328 := r3.max
 refine in1 47 Tryz.func44 rfl rfl hΦ ?_
 have hnl : b.Name.data.toList.length ≤ 9223372036854775807 := hBw.1
 have hom : b.Owners.length * 16 ≤ 140737488355328 := r1.max
 have hlm : b.Links.length * 200 ≤ 140737488355328 := r4.max
 have htm : b.Towns.length * 64 ≤ 140737488355328 := r5.max
 have hgm_ : b.Gauges.length * 48 ≤ 140737488355328 := r6.max
 have hrm : b.Roads.length * 64 ≤ 140737488355328 := r7.max
 have hsm : b.Shelters.length * 24 ≤ 140737488355328 := r8.max
 have hom2 : b.Room.length * 8 ≤ 140737488355328 := r9.max
 have hdb := hh.1
 unfold headBad at hdb
 simp [-List.getD_eq_getElem?_getD, -Array.length_toList] at hdb
 refine gs2 ?_
 refine RW.bxA rfl rfl fun b1 => ?_
 refine gs13 ?_
 refine AW.lp (fun s J m => ∃ (k : Nat), s = [(1, pV b1 0), (7, v6), (8, iV (b.Gauges.length : Int)), (9, iV (k : Int))] ∧ J = St ⟨w, Φ, []⟩ Φ [.blk b1 31 (cl31 b v1 v3 v4 v5 v6 v7 v8 v9)] ∧ m = b.Gauges.length - k ∧ (k ≤ b.Gauges.length) ∧ (∀ j, j < k → gaugeBad b j = false ∧ tgBad b j = false)) ⟨0, rfl, rfl, rfl, (by omega), (fun j hj => absurd hj (by omega))⟩ ?_
 rintro _ _ _ _ ⟨k, rfl, rfl, rfl, hk, hall⟩
 refine gs6 ?_
 refine AW.cond rfl (fun hc1 => ?_) fun hc1 => ?_
 ·
  simp [-List.getD_eq_getElem?_getD, -Array.length_toList] at hc1
  refine gs7 ?_
  refine RW.q (v := .agg (cl89 (b.Gauges.getD k default)).toArray) rfl (q_loadAgg rfl uT89 rfl sz89 rfl (Cells.repE r6 (by omega) rfl)) ?_
  refine RW.alc rfl fun b2 => ?_
  refine gs8 ?_
  refine RW.c rfl (fun w1 hw1 => bIn_c w1 (Go.K.hp w1) (Hp.le_refl _)) rfl rfl ?_
  refine gs4 ?_
  refine RW.gc rfl rfl rfl (fun w1 hw1 => bIn_c w1 (Go.K.hp w1) (Hp.le_refl _)) rfl (fun h => args3 (gv_pos h) rfl rfl) ?_
  refine gs1 ?_
  refine RW.pkO rfl rfl rfl rfl fun qb1 hqb1 => ?_
  refine gs3 ?_
  refine RW.gc rfl rfl rfl (fun w1 hw1 => bIn_c w1 (Go.K.hp w1) (Hp.le_refl _)) rfl (fun h => args3 (gv_pos h) rfl rfl) ?_
  refine gs1 ?_
  refine RW.pkO rfl rfl rfl rfl fun qb2 hqb2 => ?_
  subst hqb2 hqb1
  refine gs2 ?_
  refine AW.cond rfl (fun hc2 => ?_) fun hc2 => ?_
  ·
   refine gs12 ?_
   exact fin_val (v' := .bool false) rfl rfl rfl (congrArg Value.bool (decide_eq_false (fun h9 => Bool.noConfusion (((h9 k (by omega)).1).symm.trans hc2))).symm)
  ·
   refine gs12 ?_
   refine RW.q (v := .agg #[iV (b.Places.length : Int), iV b.Cells, iV (b.Links.length : Int)]) rfl (q_buildArr (vals := [(0, iV (b.Places.length : Int)), (1, iV b.Cells), (2, iV (b.Links.length : Int))]) zero152 uT152 sz3 rfl rfl) (RW.eff (fun b3 : Nat => pV b3 0) (fun b3 => St ⟨w, Φ, []⟩ Φ [.blk b3 152 [iV 0, iV 0, iV 0], .blk b2 89 (cl89 (b.Gauges.getD k default)), .blk b1 31 (cl31 b v1 v3 v4 v5 v6 v7 v8 v9)]) rfl (e_alloc zero152) ?_)
   intro b3
   refine RW.effn (J' := St ⟨w, Φ, []⟩ Φ [.blk b3 152 [iV (b.Places.length : Int), iV b.Cells, iV (b.Links.length : Int)], .blk b2 89 (cl89 (b.Gauges.getD k default)), .blk b1 31 (cl31 b v1 v3 v4 v5 v6 v7 v8 v9)]) (e_store (v := .agg #[iV (b.Places.length : Int), iV b.Cells, iV (b.Links.length : Int)]) 0 rfl rfl rfl sz152 rfl rfl rfl rfl rfl) ?_
   refine gs3 ?_
   rcases (show (b.Gauges.getD k default).Kind = 0 ∨ (b.Gauges.getD k default).Kind = 1 ∨ (b.Gauges.getD k default).Kind = 2 by have h9 := hc2; simp [-List.getD_eq_getElem?_getD, -Array.length_toList] at h9; omega) with hK | hK | hK
   ·
    refine AW.draw (J0 := St ⟨w, Φ, []⟩ Φ [.blk b3 152 [iV (b.Places.length : Int), iV b.Cells, iV (b.Links.length : Int)], .blk b2 89 (cl89 (b.Gauges.getD k default)), .blk b1 31 (cl31 b v1 v3 v4 v5 v6 v7 v8 v9)]) [.q, .q, .q, .q, .q, .q, .q, .q] [0, 1, 2, 3, 4, 5, 6, 7] hmix (by kernel_rfl) ?_
    refine gs3 ?_
    refine DW.q (v := iV (0 : Int)) (fun _ h => h) rfl (q_as (v := iV ((b.Gauges.getD k default).Kind)) (q_load rfl uT3 rfl (Cell.blk 1 rfl rfl)) (congrArg (Value.int .i64) (hK))) (DW.q (v := pV b3 0) (fun _ h => h) rfl (q_indexAddrA (i := ((0 : Nat) : Int)) rfl rfl uT152 sz3 (by decide) (by decide) rfl) ?_)
    refine gs1 ?_
    refine DW.c (fun _ h => h) rfl (fun w1 hw1 => bIdx_c w1 (Go.K.hp w1) (Hp.le_refl _) (by omega)) rfl rfl ?_
    refine gs3 ?_
    refine AW.cond rfl (fun hc3 => ?_) fun hc3 => ?_
    ·
     refine gs11 ?_
     exact fin_val (v' := .bool false) rfl rfl rfl (congrArg Value.bool (decide_eq_false (fun h9 => by have h8 := (h9 k (by omega)).2; unfold tgBad at h8; rw [if_pos hK] at h8; exact Bool.noConfusion (h8.symm.trans hc3))).symm)
    ·
     refine gs7 ?_
     exact Post.bk ⟨k + 1, rfl, rfl, rfl, (by omega), (Fu.lt_succ hall ⟨hc2, by unfold tgBad; rw [if_pos hK]; exact hc3⟩)⟩
   ·
    refine AW.draw (J0 := St ⟨w, Φ, []⟩ Φ [.blk b3 152 [iV (b.Places.length : Int), iV b.Cells, iV (b.Links.length : Int)], .blk b2 89 (cl89 (b.Gauges.getD k default)), .blk b1 31 (cl31 b v1 v3 v4 v5 v6 v7 v8 v9)]) [.q, .q, .q, .q, .q, .q, .q, .q] [0, 1, 2, 3, 4, 5, 6, 7] hmix (by kernel_rfl) ?_
    refine gs3 ?_
    refine DW.q (v := iV (1 : Int)) (fun _ h => h) rfl (q_as (v := iV ((b.Gauges.getD k default).Kind)) (q_load rfl uT3 rfl (Cell.blk 1 rfl rfl)) (congrArg (Value.int .i64) (hK))) (DW.q (v := pV b3 1) (fun _ h => h) rfl (q_indexAddrA (i := ((1 : Nat) : Int)) rfl rfl uT152 sz3 (by decide) (by decide) rfl) ?_)
    refine gs1 ?_
    refine DW.c (fun _ h => h) rfl (fun w1 hw1 => bIdx_c w1 (Go.K.hp w1) (Hp.le_refl _) (by omega)) rfl rfl ?_
    refine gs3 ?_
    refine AW.cond rfl (fun hc4 => ?_) fun hc4 => ?_
    ·
     refine gs11 ?_
     exact fin_val (v' := .bool false) rfl rfl rfl (congrArg Value.bool (decide_eq_false (fun h9 => by have h8 := (h9 k (by omega)).2; unfold tgBad at h8; rw [if_neg (by omega), if_pos hK] at h8; exact Bool.noConfusion (h8.symm.trans hc4))).symm)
    ·
     refine gs7 ?_
     exact Post.bk ⟨k + 1, rfl, rfl, rfl, (by omega), (Fu.lt_succ hall ⟨hc2, by unfold tgBad; rw [if_neg (by omega), if_pos hK]; exact hc4⟩)⟩
   ·
    refine AW.draw (J0 := St ⟨w, Φ, []⟩ Φ [.blk b3 152 [iV (b.Places.length : Int), iV b.Cells, iV (b.Links.length : Int)], .blk b2 89 (cl89 (b.Gauges.getD k default)), .blk b1 31 (cl31 b v1 v3 v4 v5 v6 v7 v8 v9)]) [.q, .q, .q, .q, .q, .q, .q, .q] [0, 1, 2, 3, 4, 5, 6, 7] hmix (by kernel_rfl) ?_
    refine gs3 ?_
    refine DW.q (v := iV (2 : Int)) (fun _ h => h) rfl (q_as (v := iV ((b.Gauges.getD k default).Kind)) (q_load rfl uT3 rfl (Cell.blk 1 rfl rfl)) (congrArg (Value.int .i64) (hK))) (DW.q (v := pV b3 2) (fun _ h => h) rfl (q_indexAddrA (i := ((2 : Nat) : Int)) rfl rfl uT152 sz3 (by decide) (by decide) rfl) ?_)
    refine gs1 ?_
    refine DW.c (fun _ h => h) rfl (fun w1 hw1 => bIdx_c w1 (Go.K.hp w1) (Hp.le_refl _) (by omega)) rfl rfl ?_
    refine gs3 ?_
    refine AW.cond rfl (fun hc5 => ?_) fun hc5 => ?_
    ·
     refine gs11 ?_
     exact fin_val (v' := .bool false) rfl rfl rfl (congrArg Value.bool (decide_eq_false (fun h9 => by have h8 := (h9 k (by omega)).2; unfold tgBad at h8; rw [if_neg (by omega), if_neg (by omega)] at h8; exact Bool.noConfusion (h8.symm.trans hc5))).symm)
    ·
     refine gs7 ?_
     exact Post.bk ⟨k + 1, rfl, rfl, rfl, (by omega), (Fu.lt_succ hall ⟨hc2, by unfold tgBad; rw [if_neg (by omega), if_neg (by omega)]; exact hc5⟩)⟩
 ·
  simp [-List.getD_eq_getElem?_getD, -Array.length_toList] at hc1
  refine gs11 ?_
  exact fin_val (v' := .bool true) rfl rfl rfl (congrArg Value.bool (decide_eq_true (show RGauges b from fun j hj => hall j (by omega))).symm)
def roadBad (b : Bt.Basin) (k : Nat) : Bool := ((((((!(decide (0 ≤ (b.Roads.getD k default).From ∧ (b.Roads.getD k default).From < (b.Towns.length : Int)))) || (!(decide (0 ≤ (b.Roads.getD k default).To ∧ (b.Roads.getD k default).To < ((b.Towns.length + b.Shelters.length : Nat) : Int))))) || (decide ((b.Roads.getD k default).From = (b.Roads.getD k default).To))) || (!(decide (1 ≤ (b.Roads.getD k default).Hours ∧ (b.Roads.getD k default).Hours ≤ 24)))) || (!(decide (0 ≤ (b.Roads.getD k default).Flow ∧ (b.Roads.getD k default).Flow ≤ 1073741824)))) || (!(decide (0 ≤ (b.Roads.getD k default).Limit ∧ (b.Roads.getD k default).Limit ≤ 1125899906842624))))
def roadBa2 (b : Bt.Basin) (k : Nat) : Bool := ((decide ((b.Roads.getD k default).By = (-1))) && (!decide ((b.Roads.getD k default).Limit = 0))) || ((!decide ((b.Roads.getD k default).By = (-1))) && (!(decide (0 ≤ (b.Roads.getD k default).By ∧ (b.Roads.getD k default).By < (b.Places.length : Int)))))
def RRoads (b : Bt.Basin) : Prop := ∀ k, k < b.Roads.length → roadBad b k = false ∧ roadBa2 b k = false
instance (b : Bt.Basin) : Decidable (RRoads b) := inferInstanceAs (Decidable (∀ k, k < b.Roads.length → roadBad b k = false ∧ roadBa2 b k = false))
theorem rRoads_c (w : World) (Φ : Hp) (hΦ : Hp.le Φ (hp w)) {b : Bt.Basin} {cs : List Value} (hB : RepV Φ b cs)  :
  Calls pg 45 #[.agg cs.toArray] w fun e w' => e = .returned (.bool (decide (RRoads b))) ∧ Bel w.heap.size w w' := by
 obtain ⟨v1, v3, v4, v5, v6, v7, v8, v9, hcs, hBw, r1, r3, r4, r5, r6, r7, r8, r9⟩ := (show Rep.rep Φ b cs from hB)
 subst hcs
 have hpm : b.Places.length * 152 ≤ 140737488355328 := r3.max
 refine in1 80 Tryz.func45 rfl rfl hΦ ?_
 have hnl : b.Name.data.toList.length ≤ 9223372036854775807 := hBw.1
 have hom : b.Owners.length * 16 ≤ 140737488355328 := r1.max
 have hlm : b.Links.length * 200 ≤ 140737488355328 := r4.max
 have htm : b.Towns.length * 64 ≤ 140737488355328 := r5.max
 have hgm_ : b.Gauges.length * 48 ≤ 140737488355328 := r6.max
 have hrm : b.Roads.length * 64 ≤ 140737488355328 := r7.max
 have hsm : b.Shelters.length * 24 ≤ 140737488355328 := r8.max
 have hom2 : b.Room.length * 8 ≤ 140737488355328 := r9.max
 refine gs2 ?_
 refine RW.bxA rfl rfl fun b1 => ?_
 refine gs13 ?_
 refine AW.lp (fun s J m => ∃ (k : Nat), s = [(1, pV b1 0), (6, v7), (7, iV (b.Roads.length : Int)), (8, iV (k : Int))] ∧ J = St ⟨w, Φ, []⟩ Φ [.blk b1 31 (cl31 b v1 v3 v4 v5 v6 v7 v8 v9)] ∧ m = b.Roads.length - k ∧ (k ≤ b.Roads.length) ∧ (∀ j, j < k → roadBad b j = false ∧ roadBa2 b j = false)) ⟨0, rfl, rfl, rfl, (by omega), (fun j hj => absurd hj (by omega))⟩ ?_
 rintro _ _ _ _ ⟨k, rfl, rfl, rfl, hk, hall⟩
 refine gs6 ?_
 refine AW.cond rfl (fun hc1 => ?_) fun hc1 => ?_
 ·
  simp [-List.getD_eq_getElem?_getD, -Array.length_toList] at hc1
  refine gs7 ?_
  refine RW.q (v := .agg (cl92 (b.Roads.getD k default)).toArray) rfl (q_loadAgg rfl uT92 rfl sz92 rfl (Cells.repE r7 (by omega) rfl)) ?_
  refine RW.alc rfl fun b2 => ?_
  refine gs11 ?_
  refine RW.c rfl (fun w1 hw1 => bIdx_c w1 (Go.K.hp w1) (Hp.le_refl _) (by omega)) rfl rfl ?_
  refine gs10 ?_
  refine RW.g (b := (!(decide (0 ≤ (b.Roads.getD k default).From ∧ (b.Roads.getD k default).From < (b.Towns.length : Int))))) (v := iV ((b.Towns.length + b.Shelters.length : Nat) : Int)) rfl rfl rfl (fun h => q_add (gv_pos h) (gv_pos h) (by (try simp [-List.getD_eq_getElem?_getD, -Array.length_toList] at h); omega) (by (try simp [-List.getD_eq_getElem?_getD, -Array.length_toList] at h); unfold I64; omega)) ?_
  refine RW.gc rfl rfl rfl (fun w1 hw1 => bIdx_c w1 (Go.K.hp w1) (Hp.le_refl _) (by (try simp [-List.getD_eq_getElem?_getD, -Array.length_toList] at h); omega)) rfl (fun h => args2 (gv_pos h) (gv_pos h)) ?_
  refine gs1 ?_
  refine RW.pkO rfl rfl rfl rfl fun qb1 hqb1 => ?_
  refine gs6 ?_
  refine RW.pkO rfl rfl rfl rfl fun qb2 hqb2 => ?_
  refine gs3 ?_
  refine RW.gc rfl rfl rfl (fun w1 hw1 => bIn_c w1 (Go.K.hp w1) (Hp.le_refl _)) rfl (fun h => args3 (gv_pos h) rfl rfl) ?_
  refine gs1 ?_
  refine RW.pkO rfl rfl rfl rfl fun qb3 hqb3 => ?_
  refine gs3 ?_
  refine RW.gc rfl rfl rfl (fun w1 hw1 => bIn_c w1 (Go.K.hp w1) (Hp.le_refl _)) rfl (fun h => args3 (gv_pos h) rfl rfl) ?_
  refine gs1 ?_
  refine RW.pkO rfl rfl rfl rfl fun qb4 hqb4 => ?_
  refine gs3 ?_
  refine RW.gc rfl rfl rfl (fun w1 hw1 => bVol_c w1 (Go.K.hp w1) (Hp.le_refl _)) rfl (fun h => args1 (gv_pos h)) ?_
  refine gs1 ?_
  refine RW.pkO rfl rfl rfl rfl fun qb5 hqb5 => ?_
  subst hqb5 hqb4 hqb3 hqb2 hqb1
  refine gs2 ?_
  refine AW.cond rfl (fun hc2 => ?_) fun hc2 => ?_
  ·
   refine gs12 ?_
   exact fin_val (v' := .bool false) rfl rfl rfl (congrArg Value.bool (decide_eq_false (fun h9 => Bool.noConfusion (((h9 k (by omega)).1).symm.trans hc2))).symm)
  ·
   refine gs11 ?_
   refine RW.pkA rfl rfl rfl rfl fun qb6 hqb6 => ?_
   refine gs5 ?_
   refine RW.g2 (b1 := qb6) (b2 := (!decide ((b.Roads.getD k default).By = (-1)))) (v := pV b2 5) rfl rfl rfl (fun hg1 hg2 => q_fieldAddr rfl uT92 rfl sz3 rfl) (RW.g2 (b1 := qb6) (b2 := (!decide ((b.Roads.getD k default).By = (-1)))) (v := iV ((b.Roads.getD k default).By)) rfl rfl rfl (fun hg1 hg2 => q_load ((gv_pos hg1).trans (gv_pos hg2)) uT3 rfl (Cell.blk 0 rfl rfl)) (RW.g2 (b1 := qb6) (b2 := (!decide ((b.Roads.getD k default).By = (-1)))) (v := pV b1 3) rfl rfl rfl (fun hg1 hg2 => q_fieldAddr rfl uT31 rfl sz23 rfl) (RW.g2 (b1 := qb6) (b2 := (!decide ((b.Roads.getD k default).By = (-1)))) (v := v3) rfl rfl rfl (fun hg1 hg2 => q_load ((gv_pos hg1).trans (gv_pos hg2)) uT23 rfl (Cell.blk 1 rfl rfl)) (RW.g2 (b1 := qb6) (b2 := (!decide ((b.Roads.getD k default).By = (-1)))) (v := iV (b.Places.length : Int)) rfl rfl rfl (fun hg1 hg2 => q_len_sl ((gv_pos hg1).trans (gv_pos hg2)) r3.sl uT23) (RW.g2 (b1 := qb6) (b2 := (!decide ((b.Roads.getD k default).By = (-1)))) (v := .bool (decide (0 ≤ (b.Roads.getD k default).By ∧ (b.Roads.getD k default).By < (b.Places.length : Int)))) rfl rfl rfl (fun hg1 hg2 => q_call (args := #[iV ((b.Roads.getD k default).By), iV (b.Places.length : Int)]) oK rfl (args2 ((gv_pos hg1).trans (gv_pos hg2)) ((gv_pos hg1).trans (gv_pos hg2))) (fun w1 hw1 => bIdx_c w1 (Go.K.hp w1) (Hp.le_refl _) (by subst hqb6; (try simp [-List.getD_eq_getElem?_getD, -Array.length_toList] at hg1); (try simp [-List.getD_eq_getElem?_getD, -Array.length_toList] at hg2); omega))) ?_)))))
   refine RW.g2 (b1 := qb6) (b2 := (!decide ((b.Roads.getD k default).By = (-1)))) (v := .bool (!(decide (0 ≤ (b.Roads.getD k default).By ∧ (b.Roads.getD k default).By < (b.Places.length : Int))))) rfl rfl rfl (fun hg1 hg2 => q_not ((gv_pos hg1).trans (gv_pos hg2))) ?_
   obtain ⟨qb7, hqb7⟩ : ∃ z : Bool, ((!decide ((b.Roads.getD k default).By = (-1))) && (!(decide (0 ≤ (b.Roads.getD k default).By ∧ (b.Roads.getD k default).By < (b.Places.length : Int))))) = z := ⟨_, rfl⟩
   refine RW.g (b := qb6) (v := .bool qb7) rfl rfl rfl (fun h => q_as (v := .bool ((!decide ((b.Roads.getD k default).By = (-1))) && (!(decide (0 ≤ (b.Roads.getD k default).By ∧ (b.Roads.getD k default).By < (b.Places.length : Int)))))) (q_pick (gv_pos h) (fun hp => (gv_pos h).trans ((gv_pos hp).trans (pkAndT hp))) (fun hp => pkAndF hp)) (congrArg Value.bool hqb7)) (RW.q (v := .bool (qb6 || qb7)) rfl (qpO rfl rfl rfl) ?_)
   subst hqb7 hqb6
   refine gs2 ?_
   refine AW.cond rfl (fun hc3 => ?_) fun hc3 => ?_
   ·
    refine gs11 ?_
    exact fin_val (v' := .bool false) rfl rfl rfl (congrArg Value.bool (decide_eq_false (fun h9 => Bool.noConfusion (((h9 k (by omega)).2).symm.trans hc3))).symm)
   ·
    refine gs7 ?_
    exact Post.bk ⟨k + 1, rfl, rfl, rfl, (by omega), (Fu.lt_succ hall ⟨hc2, hc3⟩)⟩
 ·
  simp [-List.getD_eq_getElem?_getD, -Array.length_toList] at hc1
  refine gs11 ?_
  exact fin_val (v' := .bool true) rfl rfl rfl (congrArg Value.bool (decide_eq_true (show RRoads b from fun j hj => hall j (by omega))).symm)
def rightB (b : Bt.Basin) : Bool := (((((((((decide (RHead b)) && (RNames b)) && (decide (RPlaces b))) && (decide (RLinks b))) && (decide (ROffices b))) && (decide (RSlopes b))) && (decide (RTowns b))) && (decide (RGauges b))) && (decide (RRoads b)))
theorem bRight_c (w : World) (Φ : Hp) (hΦ : Hp.le Φ (hp w)) {b : Bt.Basin} {cs : List Value} (hB : RepV Φ b cs)  :
  Calls pg 11 #[.agg cs.toArray] w fun e w' => e = .returned (.bool (rightB b)) ∧ Bel w.heap.size w w' := by
 obtain ⟨v1, v3, v4, v5, v6, v7, v8, v9, hcs, hBw, r1, r3, r4, r5, r6, r7, r8, r9⟩ := (show Rep.rep Φ b cs from hB)
 subst hcs
 have hpm : b.Places.length * 152 ≤ 140737488355328 := r3.max
 refine in1 37 Tryz.func11 rfl rfl hΦ ?_
 have hnl : b.Name.data.toList.length ≤ 9223372036854775807 := hBw.1
 have hom : b.Owners.length * 16 ≤ 140737488355328 := r1.max
 have hlm : b.Links.length * 200 ≤ 140737488355328 := r4.max
 have htm : b.Towns.length * 64 ≤ 140737488355328 := r5.max
 have hgm_ : b.Gauges.length * 48 ≤ 140737488355328 := r6.max
 have hrm : b.Roads.length * 64 ≤ 140737488355328 := r7.max
 have hsm : b.Shelters.length * 24 ≤ 140737488355328 := r8.max
 have hom2 : b.Room.length * 8 ≤ 140737488355328 := r9.max
 refine gs2 ?_
 refine RW.bxA rfl rfl fun b1 => ?_
 refine gs6 ?_
 refine RW.c rfl (fun w1 hw1 => rHead_c w1 (Go.K.hp w1) (Hp.le_refl _) (hB.mono hw1.phi)) rfl rfl ?_
 refine gs2 ?_
 refine RW.gc rfl rfl rfl (fun w1 hw1 => rNames_c w1 (Go.K.hp w1) (Hp.le_refl _) (hB.mono hw1.phi)) rfl (fun h => args1 (gv_pos h)) (RW.q (v := .bool ((decide (RHead b)) && (RNames b))) rfl (qpA rfl rfl rfl) ?_)
 refine gs2 ?_
 refine RW.g (b := ((decide (RHead b)) && (RNames b))) (v := .bool (decide (RPlaces b))) rfl rfl rfl (fun h => q_call (args := #[.agg (cl31 b v1 v3 v4 v5 v6 v7 v8 v9).toArray]) oK rfl (args1 (gv_pos h)) (fun w1 hw1 => rPlaces_c w1 (Go.K.hp w1) (Hp.le_refl _) (hB.mono hw1.phi) (by simp only [Bool.and_eq_true, decide_eq_true_eq] at h; exact h.1))) ?_
 refine RW.pkA rfl rfl rfl rfl fun qb1 hqb1 => ?_
 refine gs2 ?_
 refine RW.gc rfl rfl rfl (fun w1 hw1 => rLinks_c w1 (Go.K.hp w1) (Hp.le_refl _) (hB.mono hw1.phi)) rfl (fun h => args1 (gv_pos h)) (RW.q (v := .bool (qb1 && (decide (RLinks b)))) rfl (qpA rfl rfl rfl) ?_)
 refine gs2 ?_
 refine RW.g (b := (qb1 && (decide (RLinks b)))) (v := .bool (decide (ROffices b))) rfl rfl rfl (fun h => q_call (args := #[.agg (cl31 b v1 v3 v4 v5 v6 v7 v8 v9).toArray]) oK rfl (args1 (gv_pos h)) (fun w1 hw1 => rOffices_c w1 (Go.K.hp w1) (Hp.le_refl _) (hB.mono hw1.phi) (by subst hqb1; simp only [Bool.and_eq_true, decide_eq_true_eq] at h; exact h.1.2) (by subst hqb1; simp only [Bool.and_eq_true, decide_eq_true_eq] at h; exact h.2))) ?_
 refine RW.pkA rfl rfl rfl rfl fun qb2 hqb2 => ?_
 refine gs2 ?_
 refine RW.g (b := qb2) (v := .bool (decide (RSlopes b))) rfl rfl rfl (fun h => q_call (args := #[.agg (cl31 b v1 v3 v4 v5 v6 v7 v8 v9).toArray]) oK rfl (args1 (gv_pos h)) (fun w1 hw1 => rSlopes_c w1 (Go.K.hp w1) (Hp.le_refl _) (hB.mono hw1.phi) (by subst hqb2 hqb1; simp only [Bool.and_eq_true, decide_eq_true_eq] at h; exact h.1.1.1.1) (by subst hqb2 hqb1; simp only [Bool.and_eq_true, decide_eq_true_eq] at h; exact h.1.1.2) (by subst hqb2 hqb1; simp only [Bool.and_eq_true, decide_eq_true_eq] at h; exact h.1.2))) (RW.q (v := .bool (qb2 && (decide (RSlopes b)))) rfl (qpA rfl rfl rfl) ?_)
 refine gs2 ?_
 refine RW.gc rfl rfl rfl (fun w1 hw1 => rTowns_c w1 (Go.K.hp w1) (Hp.le_refl _) (hB.mono hw1.phi) ) rfl (fun h => args1 (gv_pos h)) ?_
 refine RW.pkA rfl rfl rfl rfl fun qb3 hqb3 => ?_
 refine gs2 ?_
 refine RW.g (b := qb3) (v := .bool (decide (RGauges b))) rfl rfl rfl (fun h => q_call (args := #[.agg (cl31 b v1 v3 v4 v5 v6 v7 v8 v9).toArray]) oK rfl (args1 (gv_pos h)) (fun w1 hw1 => rGauges_c w1 (Go.K.hp w1) (Hp.le_refl _) (hB.mono hw1.phi) (by subst hqb3 hqb2 hqb1; simp only [Bool.and_eq_true, decide_eq_true_eq] at h; exact h.1.1.1.1.1.1))) (RW.q (v := .bool (qb3 && (decide (RGauges b)))) rfl (qpA rfl rfl rfl) ?_)
 refine gs2 ?_
 refine RW.gc rfl rfl rfl (fun w1 hw1 => rRoads_c w1 (Go.K.hp w1) (Hp.le_refl _) (hB.mono hw1.phi) ) rfl (fun h => args1 (gv_pos h)) ?_
 refine RW.pkA rfl rfl rfl rfl fun qb4 hqb4 => ?_
 refine gs1 ?_
 subst hqb4 hqb3 hqb2 hqb1
 refine gs3 ?_
 exact fin_val (v' := .bool (((((((((decide (RHead b)) && (RNames b)) && (decide (RPlaces b))) && (decide (RLinks b))) && (decide (ROffices b))) && (decide (RSlopes b))) && (decide (RTowns b))) && (decide (RGauges b))) && (decide (RRoads b)))) rfl rfl rfl (rfl)
end Go.Proofs.YtpapfpoefiikpaaGreatDoor
namespace Go.Proofs.YtpapfpoefiikpaaGreatDoor
open Go Go.K Go.RowKit
attribute [local irreducible] AW RW DW Post Qt DT
theorem zero_rep {Φ : Hp} : Rep.rep Φ Bc.zeroB z31 := ⟨_, _, _, _, _, _, _, _, rfl, ⟨Nat.zero_le _, ⟨by decide, by decide⟩, ⟨by decide, by decide⟩⟩, repSl_nil, repSl_nil, repSl_nil, repSl_nil, repSl_nil, repSl_nil, repSl_nil, repSl_nil⟩
theorem Compile_c (w : World) (Φ : Hp) (hΦ : Hp.le Φ (hp w)) (hG : Knows Φ Glob) {l : List UInt8} (hl : l.length ≤ maxLen) :
    Calls pg 14 #[.string (bs l)] w (RetS Φ (zw w) fun r Ψ => ∃ cs, r = .tuple #[.agg cs.toArray, .int .i64 (Bc.compile isNm frsB putB rightB l).2.1, .int .i64 (Bc.compile isNm frsB putB rightB l).2.2] ∧ Rep.rep Ψ (Bc.compile isNm frsB putB rightB l).1 cs) := by
  have hll : l.length ≤ 9223372036854775807 := hl
  refine inJ1 77 Tryz.func14 rfl rfl (J := St ⟨zw w, Φ, []⟩ Φ []) (StP.zb (StP.init w Φ hΦ [])) ?_
  repeat refine g1 ?_
  refine RW.alc rfl fun b2 => ?_
  repeat refine g1 ?_
  refine RW.cZ rfl rfl (fun w1 hw1 => Parse_c w1 Φ hw1.phi hG hl) rfl rfl ?_
  rintro _ Ψ ⟨kv, rfl, hwf, hk⟩ hlΨ
  obtain ⟨R, hR⟩ : ∃ R, Bc.compile isNm frsB putB rightB l = R := ⟨_, rfl⟩
  have hC : R = if (Pa.parse l).2.1 ≠ 0 then (Bc.zeroB, (Pa.parse l).2) else Bc.comp isNm frsB putB rightB l.length (Pa.parse l).1 := hR.symm
  rw [hR]
  clear hR
  generalize Pa.parse l = p at *
  obtain ⟨f, e1, e2⟩ := p
  simp only at hC hk hwf
  have hfin : ∀ (a b : Int), R = (Bc.zeroB, a, b) → ∀ {Ψ : Hp} {C : List Chunk} (w' : World), StP ⟨zw w, Φ, []⟩ Ψ C w' → RetS Φ (zw w) (fun r Ψ => ∃ cs, r = .tuple #[.agg cs.toArray, .int .i64 R.2.1, .int .i64 R.2.2] ∧ Rep.rep Ψ R.1 cs) (.returned (.tuple #[.agg z31.toArray, .int .i64 a, .int .i64 b])) w' := fun a b h Ψ C w' hw => by
    subst h
    exact ⟨_, rfl, hw.below rfl, z31, rfl, zero_rep⟩
  repeat refine g1 ?_
  refine RW.alc rfl fun b5 => ?_
  repeat refine g1 ?_
  refine RW.stA 0 rfl rfl rfl (ndC_one hk.sl) rfl rfl ?_
  rcases Decidable.em (e1 = 0) with h1 | h1
  · rw [if_neg (fun h => h h1)] at hC
    repeat first | refine t2 ?_ | refine t3 ?_ | refine g1 ?_
    refine RW.c rfl (fun w1 hw1 => examine_c w1 Ψ hw1.phi hk) rfl rfl ?_
    unfold Bc.comp at hC
    have hD := Bc.exL_ok f.Kids (c := fun _ => none)
    have hS := @Bc.examine_sm f (Bc.collect f)
    change (Bc.examine f).1 = 0 → _ at hD
    generalize Bc.examine f = ex at *
    rcases Decidable.em (ex.1 = 0) with h2 | h2
    · rw [if_neg (fun h => h h2)] at hC
      replace hD := (hD h2).1
      have hok := Bc.collect_ok f (by have : f.Kids.length * 72 ≤ 140737488355328 := hk.max; omega)
      replace hS := hS h2 fun d hd => by
        obtain ⟨_, kd, hkd⟩ := wf_mem hk d hd
        obtain ⟨v, hv⟩ := valsD_rep hkd [111, 119, 110, 101, 114, 115]
        have : (Bc.valsD d [111, 119, 110, 101, 114, 115]).length * 72 ≤ 140737488355328 := hv.max
        omega
      repeat first | refine t2 ?_ | refine t3 ?_ | refine g1 ?_
      have hkm : f.Kids.length * 72 ≤ 140737488355328 := hk.max
      obtain ⟨H, hH⟩ : ∃ H, Bc.headL none f.Kids = H := ⟨_, rfl⟩
      rw [hH] at hC
      have hks : kv = kv := rfl
      obtain ⟨A, c, rfl, _⟩ := hk.sl
      repeat refine g1 ?_
      refine AW.lp (fun s J m => ∃ (i : Nat) (o : Option Int), s = [(42, .int .i64 (i : Int)), (41, .int .i64 ((f.Kids.length : Nat) : Int)), (40, .slice A f.Kids.length c), (10, .int .i64 (o.getD (-1))), (11, .bool o.isSome), (5, .pointer (some ⟨b5, 0, none⟩)), (2, .pointer (some ⟨b2, 0, none⟩)), (0, .string (bs l))] ∧ J = St ⟨zw w, Φ, []⟩ Ψ [.blk b5 40 (ndC f (.slice A f.Kids.length c)), .blk b2 31 z31] ∧ m = f.Kids.length - i ∧ i ≤ f.Kids.length ∧ Bc.headL o (f.Kids.drop i) = H) ⟨0, none, rfl, rfl, rfl, Nat.zero_le _, hH⟩ ?_
      rintro _ _ _ _ ⟨i, o, rfl, rfl, rfl, hi, hu⟩
      repeat refine g1 ?_
      refine AW.cond rfl (fun h => ?_) fun h => ?_
      · have h : i < f.Kids.length := by simpa using h
        rw [drop_at h, Bc.headL] at hu
        repeat refine g1 ?_
        refine RW.nd hk h rfl rfl rfl rfl fun kd q hkd hwd => ?_
        generalize f.Kids.getD i default = d at *
        rcases Decidable.em (d.Text = [98, 97, 115, 105, 110]) with h3 | h3
        · rw [if_pos h3] at hu
          repeat first | refine t2 ?_ | refine t3 ?_ | refine g1 ?_
          exact Post.bk ⟨i + 1, some d.At, rfl, rfl, rfl, h, hu⟩
        · rw [if_neg h3] at hu
          repeat first | refine t2 ?_ | refine t3 ?_ | refine g1 ?_
          exact Post.bk ⟨i + 1, o, rfl, rfl, rfl, h, hu⟩
      · have h : i = f.Kids.length := by have := odF h; omega
        rw [h, List.drop_length, Bc.headL] at hu
        subst hu
        cases o with
        | none =>
          repeat first | refine t2 ?_ | refine g1 ?_
          refine RW.q (v := .agg z31.toArray) rfl (q_build (vals := []) zero31 Tryz.underlying31 places31 rfl rfl) ?_
          repeat first | refine t2 ?_ | refine g1 ?_
          refine RW.q rfl (q_lenS (l := l) rfl Tryz.underlying9) ?_
          repeat first | refine t2 ?_ | refine g1 ?_
          exact fin_res (vs := [.agg z31.toArray, .int .i64 2, .int .i64 ((l.length : Nat) : Int)]) rfl rfl ⟨.agg rfl rfl (Cells.blk 1 rfl), .tmp rfl, .tmp rfl, trivial⟩ rfl (hfin _ _ hC)
        | some hd =>
          repeat first | refine t2 ?_ | refine g1 ?_
          refine RW.cS rfl (fun w1 hw1 => collect_c w1 Ψ hw1.phi hk (fun d hd => (hD d hd).1)) rfl rfl ?_
          rintro _ Ψ2 hn hl2
          have hk2 := hk.mono hl2
          generalize Bc.collect f = n at *
          have hn2 := hn
          obtain ⟨m1, m2, m3, m4, rfl, -⟩ := hn2
          refine RW.alc rfl fun b14 => ?_
          repeat refine g1 ?_
          refine RW.c rfl (fun w1 hw1 => wrongName_c w1 Ψ2 hw1.phi hk2 hn hD) rfl rfl ?_
          simp only at hC
          generalize Bc.wnL isNm frsB putB n (fun _ => none) f.Kids = wn at *
          cases wn with
          | some a =>
            repeat first | refine t2 ?_ | refine g1 ?_
            refine RW.q (v := .agg z31.toArray) rfl (q_build (vals := []) zero31 Tryz.underlying31 places31 rfl rfl) ?_
            repeat first | refine t2 ?_ | refine g1 ?_
            exact fin_res (vs := [.agg z31.toArray, .int .i64 4, .int .i64 a]) rfl rfl ⟨.agg rfl rfl (Cells.blk 2 rfl), .tmp rfl, .tmp rfl, trivial⟩ rfl (hfin _ _ hC)
          | none =>
            repeat first | refine t2 ?_ | refine g1 ?_
            refine RW.cS rfl (fun w1 hw1 => build_c w1 Ψ2 hw1.phi hk2 hn hok (fun d hd => (hD d hd).bd) hS) rfl rfl ?_
            rintro _ Ψ3 ⟨cs, rfl, hrep⟩ hl3
            simp only at hC
            generalize Bc.build f n = b at *
            have hrep0 := hrep
            have hone := List.all_eq_true.2 (Rep.one hrep)
            obtain ⟨v1, v3, v4, v5, v6, v7, v8, v9, rfl, hw9⟩ := hrep
            refine RW.alc rfl fun b17 => ?_
            refine RW.stA 0 rfl rfl rfl hone rfl rfl ?_
            repeat first | refine t2 ?_ | refine g1 ?_
            refine RW.c rfl (fun w1 hw1 => bRight_c w1 Ψ3 hw1.phi hrep0) rfl rfl ?_
            cases hr : rightB b with
            | false =>
              rw [if_pos hr] at hC
              repeat first | refine t2 ?_ | refine g1 ?_
              refine RW.q (v := .agg z31.toArray) rfl (q_build (vals := []) zero31 Tryz.underlying31 places31 rfl rfl) ?_
              repeat first | refine t2 ?_ | refine g1 ?_
              exact fin_res (vs := [.agg z31.toArray, .int .i64 7, .int .i64 hd]) rfl rfl ⟨.agg rfl rfl (Cells.blk 3 rfl), .tmp rfl, .tmp rfl, trivial⟩ rfl (hfin _ _ hC)
            | true =>
              rw [if_neg (by rw [hr]; simp)] at hC
              repeat first | refine t2 ?_ | refine g1 ?_
              refine RW.stA 3 rfl rfl rfl hone rfl rfl ?_
              repeat first | refine t2 ?_ | refine g1 ?_
              refine fin_res (vs := [.agg #[.string b.Name, v1, .int .i64 b.Cells, v3, v4, v5, v6, v7, v8, v9, .int .i64 b.Err], .int .i64 0, .int .i64 0]) rfl rfl ⟨.agg rfl rfl (Cells.blk 3 rfl), .tmp rfl, .tmp rfl, trivial⟩ rfl (fun w' hw => ?_)
              subst hC
              exact ⟨_, rfl, hw.below rfl, _, rfl, Rep.mono hw.phi_ext hrep0⟩
    · rw [if_pos h2] at hC
      repeat first | refine t2 ?_ | refine t3 ?_ | refine g1 ?_
      refine RW.q (v := .agg z31.toArray) rfl (q_build (vals := []) zero31 Tryz.underlying31 places31 rfl rfl) ?_
      repeat first | refine t2 ?_ | refine g1 ?_
      exact fin_res (vs := [.agg z31.toArray, .int .i64 ex.1, .int .i64 ex.2]) rfl rfl ⟨.agg rfl rfl (Cells.blk 1 rfl), .tmp rfl, .tmp rfl, trivial⟩ rfl (hfin _ _ hC)
  · rw [if_pos h1] at hC
    repeat first | refine t2 ?_ | refine t3 ?_ | refine g1 ?_
    refine RW.q (v := .agg z31.toArray) rfl (q_build (vals := []) zero31 Tryz.underlying31 places31 rfl rfl) ?_
    repeat first | refine t2 ?_ | refine g1 ?_
    exact fin_res (vs := [.agg z31.toArray, .int .i64 e1, .int .i64 e2]) rfl rfl ⟨.agg rfl rfl (Cells.blk 1 rfl), .tmp rfl, .tmp rfl, trivial⟩ rfl (hfin _ _ hC)
end Go.Proofs.YtpapfpoefiikpaaGreatDoor
namespace Go.Proofs.YtpapfpoefiikpaaGreatDoor
open Go Go.K
def src16 : List UInt8 := [98, 97, 115, 105, 110, 32, 34, 77, 105, 108, 108, 32, 118, 97, 108, 108, 101, 121, 34, 32, 123, 32, 101, 114, 114, 32, 53, 48, 32, 108, 59, 32, 99, 101, 108, 108, 115, 32, 49, 59, 32, 111, 119, 110, 101, 114, 115, 32, 112, 117, 98, 108, 105, 99, 32, 109, 105, 108, 108, 59, 32, 114, 111, 111, 109, 32, 57, 32, 77, 76, 32, 57, 32, 77, 76, 32, 57, 32, 77, 76, 59, 32, 125, 10, 108, 97, 107, 101, 32, 117, 112, 112, 101, 114, 32, 123, 32, 111, 102, 102, 105, 99, 101, 32, 48, 59, 32, 99, 97, 112, 32, 52, 32, 77, 76, 59, 32, 108, 101, 118, 101, 108, 32, 40, 48, 32, 108, 44, 32, 48, 32, 109, 109, 41, 32, 40, 52, 32, 77, 76, 44, 32, 56, 32, 109, 41, 59, 32, 115, 116, 97, 114, 116, 32, 49, 32, 77, 76, 32, 53, 48, 48, 32, 109, 51, 59, 32, 100, 111, 119, 110, 32, 98, 114, 111, 111, 107, 59, 32, 100, 101, 108, 97, 121, 32, 48, 32, 104, 59, 32, 102, 108, 111, 111, 114, 32, 49, 48, 48, 32, 109, 51, 59, 32, 114, 97, 105, 110, 32, 40, 48, 44, 32, 50, 32, 107, 109, 50, 41, 59, 32, 125, 10, 114, 101, 97, 99, 104, 32, 98, 114, 111, 111, 107, 32, 123, 32, 111, 102, 102, 105, 99, 101, 32, 49, 59, 32, 99, 97, 112, 32, 50, 32, 77, 76, 59, 32, 108, 101, 118, 101, 108, 32, 40, 48, 32, 108, 44, 32, 48, 32, 109, 109, 41, 32, 40, 50, 32, 77, 76, 44, 32, 51, 32, 109, 41, 59, 32, 115, 116, 97, 114, 116, 32, 48, 32, 108, 32, 48, 32, 108, 59, 32, 114, 111, 117, 116, 101, 32, 49, 32, 54, 59, 32, 100, 111, 119, 110, 32, 112, 111, 110, 100, 59, 32, 100, 101, 108, 97, 121, 32, 50, 32, 104, 59, 32, 102, 108, 111, 111, 114, 32, 48, 32, 108, 59, 32, 125, 10, 108, 97, 107, 101, 32, 112, 111, 110, 100, 32, 123, 32, 111, 102, 102, 105, 99, 101, 32, 50, 59, 32, 99, 97, 112, 32, 51, 32, 77, 76, 59, 32, 108, 101, 118, 101, 108, 32, 40, 48, 32, 108, 44, 32, 48, 32, 109, 109, 41, 32, 40, 51, 32, 77, 76, 44, 32, 52, 32, 109, 41, 59, 32, 115, 116, 97, 114, 116, 32, 48, 32, 108, 32, 48, 32, 108, 59, 32, 100, 111, 119, 110, 32, 111, 117, 116, 59, 32, 100, 101, 108, 97, 121, 32, 48, 32, 104, 59, 32, 102, 108, 111, 111, 114, 32, 48, 32, 108, 59, 32, 125, 10, 103, 97, 116, 101, 32, 115, 108, 117, 105, 99, 101, 32, 123, 32, 102, 114, 111, 109, 32, 117, 112, 112, 101, 114, 59, 32, 116, 111, 32, 98, 114, 111, 111, 107, 59, 32, 114, 97, 116, 101, 32, 40, 48, 32, 108, 44, 32, 48, 32, 108, 112, 104, 41, 32, 40, 52, 32, 77, 76, 44, 32, 50, 46, 52, 32, 77, 76, 112, 100, 41, 59, 32, 108, 111, 119, 32, 40, 48, 32, 108, 44, 32, 48, 32, 108, 112, 104, 41, 59, 32, 104, 105, 103, 104, 32, 40, 48, 32, 108, 44, 32, 50, 46, 52, 32, 77, 76, 112, 100, 41, 59, 32, 112, 111, 115, 105, 116, 105, 111, 110, 115, 32, 52, 59, 32, 115, 112, 101, 101, 100, 32, 49, 59, 32, 108, 101, 97, 107, 32, 49, 48, 32, 108, 112, 104, 59, 32, 100, 101, 108, 97, 121, 32, 49, 32, 104, 59, 32, 125, 10]
def B16 : Bt.Basin := ⟨bs [77, 105, 108, 108, 32, 118, 97, 108, 108, 101, 121], [bs [112, 117, 98, 108, 105, 99], bs [109, 105, 108, 108]], 1, [⟨bs [117, 112, 112, 101, 114], 1, 0, 4000000, [⟨0, 0⟩, ⟨4000000, 8000⟩], [1000000, 500000], 0, 0, 1, 0, 100000, [⟨0, 2000000⟩]⟩, ⟨bs [98, 114, 111, 111, 107], 0, 1, 2000000, [⟨0, 0⟩, ⟨2000000, 3000⟩], [0, 0], 1, 6, 2, 2, 0, []⟩, ⟨bs [112, 111, 110, 100], 1, 2, 3000000, [⟨0, 0⟩, ⟨3000000, 4000⟩], [0, 0], 0, 0, -1, 0, 0, []⟩], [⟨bs [115, 108, 117, 105, 99, 101], 0, 0, 1, [⟨0, 0⟩, ⟨4000000, 100000⟩], ⟨[⟨0, 0⟩], [⟨0, 100000⟩]⟩, 4, 1, 10, 0, 0, 0, 0, 0, 0, 0, 1⟩], [], [], [], [], [9000000, 9000000, 9000000], 50⟩
theorem cmp1 : Bc.compile isNm frsB putB rightB src16 = (B16, 0, 0) := by kernel_rfl
theorem cmp2 : (Bc.compile isNm frsB putB rightB [108, 97, 107, 101, 32, 120, 32, 123, 32, 125]).2.1 = 2 := by decide +kernel
theorem cmp3 : (Bc.compile isNm frsB putB rightB [35, 32, 110, 111, 116, 104, 105, 110, 103]).2 = (2, 9) := by decide +kernel
theorem right16 : rightB B16 = true := by decide +kernel
theorem right0 : rightB Bc.zeroB = false := by decide +kernel
end Go.Proofs.YtpapfpoefiikpaaGreatDoor
namespace Go.Proofs.YtpapfpoefiikpaaGreatDoor
open Go Go.K Go.RowKit
section
variable {N : Nat} {D : List Deferred} {ops : Array Oper} {Q : Exit → Act → World → Prop} {Pn : List PanicEntry → World → Prop} [hQ : PanQ D Q Pn] {f : Nat → Value} {s : List (Nat × Value)} {B : Bs} {Φ : Hp} {C : List Chunk} {rest : List Oper} {ty1 ty2 ty3 ty4 ty5 : TypeId} {p1 p2 p3 p4 p5 : String} {e1 e2 e3 e4 e5 : Array Edge} {a b c u u2 : Nat} {x y : Operand} {v : Value} {α : Type} [Inhabited α] [Rep α] {S T : TypeId} {n : Nat} {zs : List Value}
theorem RW.el [hI : IX pg S n] [hA : AG pg T n] [hz : ZL pg T zs] [hS : SZ pg T n] {xs : List α} {i : Nat} (hn : Rep.sz α = n) (hzl : Nat.beq zs.length n = true) (hk : RepSl Φ xs v) (hi : i < xs.length) (hN : (Nat.blt a N && Nat.blt b N && Nat.blt c N) = true) (hca : Nat.beq b c = false) (hx : ev (fr f s) x = v) (hy : ev (fr f s) y = .int .i64 (i : Int))
    (k : ∀ cs q, Rep.rep Φ (xs.getD i default) cs → RW pg N D ops Q rest f ((c, .pointer (some ⟨q, 0, none⟩)) :: (b, .agg cs.toArray) :: (a, .pointer (some (Value.at v (i * n)))) :: s) (St B Φ (.blk q T cs :: C))) :
    RW pg N D ops Q (⟨some a, .indexAddr S x y, ty1, p1, e1, none⟩ :: ⟨some b, .load T (.tmp a), ty2, p2, e2, none⟩ :: ⟨some c, .alloc T, ty3, p3, e3, none⟩ :: ⟨none, .store T (.tmp c) (.tmp b), ty4, p4, e4, none⟩ :: rest) f s (St B Φ C) := by
  simp only [Bool.and_eq_true] at hN
  obtain ⟨cs, h1, h2⟩ := hk.whole hi
  have hl : cs.length = n := by rw [← hn]; exact Rep.len h1
  rw [hn] at h2
  refine RW.q hN.1.1 (qa_ixN hx hy hk.sl hi) (RW.q (v := .agg cs.toArray) hN.1.2 (qa_ldA (by simp [ev, fr]) (Cells.phiK (n := i * n) h2) hl) (RW.alc hN.2 fun q => ?_))
  refine RW.effn (J' := St B Φ (.blk q T cs :: C)) (e_stA (C' := .blk q T cs :: C) 0 rfl (by simp [ev, fr]) (by simp [ev, fr, hca]) (List.all_eq_true.2 (Rep.one h1)) hzl (by rw [hl]; exact Nat.beq_refl n)) (k cs q h1)
theorem RW.el6 [hI : IX pg S n] [hA : AG pg T n] [hz : ZL pg T zs] [hS : SZ pg T n] {xs : List α} {i : Nat} (hn : Rep.sz α = n) (hzl : Nat.beq zs.length n = true) (hk : RepSl Φ xs v) (hi : i < xs.length) (hN : (Nat.blt u2 N && Nat.blt a N && Nat.blt b N && Nat.blt c N) = true) (hne : (!(Nat.beq b c) && !(Nat.beq b u2) && !(Nat.beq c u2) && !(Nat.beq u c) && !(Nat.beq u b) && !(Nat.beq u a)) = true) (hx : ev (fr f s) x = v) (hy : ev (fr f s) y = .int .i64 (i : Int)) (hu : fr f s u = .int .i64 (i : Int))
    (k : ∀ cs q, Rep.rep Φ (xs.getD i default) cs → RW pg N D ops Q rest f ((u2, .int .i64 (i : Int)) :: (c, .pointer (some ⟨q, 0, none⟩)) :: (b, .agg cs.toArray) :: (a, .pointer (some (Value.at v (i * n)))) :: s) (St B Φ (.blk q T cs :: C))) :
    RW pg N D ops Q (⟨some a, .indexAddr S x y, ty1, p1, e1, none⟩ :: ⟨some b, .load T (.tmp a), ty2, p2, e2, none⟩ :: ⟨some c, .alloc T, ty3, p3, e3, none⟩ :: ⟨some u2, .assign (.tmp u), ty5, p5, e5, none⟩ :: ⟨none, .store T (.tmp c) (.tmp b), ty4, p4, e4, none⟩ :: rest) f s (St B Φ C) := by
  simp only [Bool.and_eq_true, Bool.not_eq_true'] at hN hne
  obtain ⟨cs, h1, h2⟩ := hk.whole hi
  have hl : cs.length = n := by rw [← hn]; exact Rep.len h1
  rw [hn] at h2
  refine RW.q hN.1.1.2 (qa_ixN hx hy hk.sl hi) (RW.q (v := .agg cs.toArray) hN.1.2 (qa_ldA (by simp [ev, fr]) (Cells.phiK (n := i * n) h2) hl) (RW.alc hN.2 fun q => ?_))
  refine RW.q hN.1.1.1 (q_assign (v := .int .i64 (i : Int)) (by simp [ev, fr, hne, hu])) ?_
  refine RW.effn (J' := St B Φ (.blk q T cs :: C)) (e_stA (C' := .blk q T cs :: C) 0 rfl (by simp [ev, fr, hne]) (by simp [ev, fr, hne]) (List.all_eq_true.2 (Rep.one h1)) hzl (by rw [hl]; exact Nat.beq_refl n)) (k cs q h1)
end
attribute [local irreducible] AW RW DW Post Qt
def ofc (ps : List Bt.Place) (o : Int) (k : Nat) : List Int := ((List.range k).filter fun i => decide ((ps.getD i default).Office = o)).map fun i => ((i : Nat) : Int)
theorem ofc_succ (ps : List Bt.Place) (o : Int) (k : Nat) : ofc ps o (k + 1) = ofc ps o k ++ if (ps.getD k default).Office = o then [((k : Nat) : Int)] else [] := by
  unfold ofc
  rw [List.range_succ, List.filter_append, List.map_append]
  congr 1
  rw [List.filter_cons]
  by_cases h : (ps.getD k default).Office = o
  · rw [if_pos h, if_pos (decide_eq_true h)]; rfl
  · rw [if_neg h, if_neg (fun h' => h (odT h'))]; rfl
theorem ofc_len (ps : List Bt.Place) (o : Int) (k : Nat) : (ofc ps o k).length ≤ k := by
  unfold ofc
  rw [List.length_map]
  exact Nat.le_trans (List.length_filter_le ..) (by simp)
theorem Office_c (w : World) (Φ : Hp) (hΦ : Hp.le Φ (hp w)) {b : Bt.Basin} {cs : List Value} (hB : RepV Φ b cs) {o : Int} :
    Calls pg 18 #[.agg cs.toArray, .int .i64 o] w (RetS Φ w fun r Ψ => RepSl Ψ (ofc b.Places o b.Places.length) r) := by
  obtain ⟨v1, v3, v4, v5, v6, v7, v8, v9, rfl, hBw, r1, r3, r4, r5, r6, r7, r8, r9⟩ := (show Rep.rep Φ b cs from hB)
  have hpm : b.Places.length * 152 ≤ 140737488355328 := r3.max
  refine in2 26 Tryz.func18 rfl rfl hΦ ?_
  repeat refine g1 ?_
  refine RW.bxA rfl rfl fun b1 => ?_
  generalize b.Places = ps at *
  obtain ⟨A, c, rfl, _⟩ := r3.sl
  repeat refine g1 ?_
  refine AW.wk (J' := St ⟨w, Φ, []⟩ Φ [.row (.slice none 0 0) 3 1 0 []]) (fun _ h => (addNil h).drop (.cons_cons _ (List.nil_sublist _))) ?_
  refine AW.lp (fun s J m => ∃ (i : Nat) (v2 : Value), s = [(11, .int .i64 (i : Int)), (10, .int .i64 ((ps.length : Nat) : Int)), (9, .slice A ps.length c), (5, v2), (1, .int .i64 o)] ∧ J = St ⟨w, Φ, []⟩ Φ [.row v2 3 1 (ofc ps o i).length ((ofc ps o i).map (Value.int .i64))] ∧ m = ps.length - i ∧ i ≤ ps.length ∧ IsSl v2 (ofc ps o i).length) ⟨0, _, rfl, rfl, rfl, Nat.zero_le _, isSl_nil⟩ ?_
  rintro _ _ _ _ ⟨i, v2, rfl, rfl, rfl, hi, hs2⟩
  repeat refine g1 ?_
  refine AW.cond rfl (fun h => ?_) fun h => ?_
  · have h : i < ps.length := by simpa using h
    have hol := ofc_len ps o i
    have hos := ofc_succ ps o i
    repeat refine g1 ?_
    refine RW.el6 rfl rfl r3 h rfl rfl rfl rfl rfl fun cs q hrep => ?_
    obtain ⟨w4, w5, w6, rfl, hw9⟩ := hrep
    rcases Decidable.em ((ps.getD i default).Office = o) with h2 | h2
    · rw [if_pos h2] at hos
      repeat first | refine t2 ?_ | refine t3 ?_ | refine g1 ?_
      refine RW.ap1 (cs := [.int .i64 (i : Int)]) 1 rfl Tryz.underlying29 inf3 rfl rfl rfl rfl rfl rfl rfl (by kernel_rfl) rfl rfl (by omega) (by omega) fun va w2 hva => ?_
      repeat refine g1 ?_
      refine Post.bk (hJ := fun _ h => ?_) ⟨i + 1, va, rfl, rfl, rfl, h, by rw [hos, List.length_append]; exact hva⟩
      rw [hos, List.length_append, List.map_append]
      exact StP.drop h (.cons _ (List.Sublist.refl _))
    · rw [if_neg h2, List.append_nil] at hos
      repeat first | refine t2 ?_ | refine t3 ?_ | refine g1 ?_
      refine Post.bk (hJ := fun _ h => ?_) ⟨i + 1, v2, rfl, rfl, rfl, h, by rw [hos]; exact hs2⟩
      rw [hos]
      exact StP.drop h (.cons _ (List.Sublist.refl _))
  · have h : i = ps.length := by have := odF h; omega
    subst h
    have hol := ofc_len ps o ps.length
    repeat refine g1 ?_
    refine fin_rep rfl rfl rfl fun w' hw => ?_
    exact RowS.ints (T := 3) (row_ext hw 0 rfl) (by simp only [maxSl]; omega) (fun y hy => by
      unfold ofc at hy
      obtain ⟨z, hz, rfl⟩ := List.mem_map.1 hy
      have := List.mem_range.1 (List.mem_filter.1 hz).1
      unfold I64
      omega)
end Go.Proofs.YtpapfpoefiikpaaGreatDoor
namespace Gr

structure Arc where
  From : Int
  To : Int
  deriving Inhabited, DecidableEq

def succs (arcs : List Arc) (v : Int) : List Int := (arcs.filter fun a => decide (a.From = v)).map (·.To)
/-! ### breadth first search as the code does it -/
abbrev St := List Int × List Int
def visit (u : Int) (st : St) (w : Int) : St := if st.1.getD w.toNat 0 < 0 then (st.1.set w.toNat (st.1.getD u.toNat 0 + 1), st.2 ++ [w]) else st
def step (arcs : List Arc) (st : St) (i : Nat) : St := (succs arcs (st.2.getD i 0)).foldl (visit (st.2.getD i 0)) st
def D (st : St) (w : Int) : Int := st.1.getD w.toNat 0

/-! ### what the small functions return -/
def okB (n : Int) (a : Arc) : Bool := decide (0 ≤ a.From) && decide (a.From < n) && decide (0 ≤ a.To) && decide (a.To < n)
def rightB (n : Int) (arcs : List Arc) : Bool := decide (0 ≤ n ∧ n ≤ 256 ∧ arcs.length ≤ 4096) && arcs.all (okB n)
theorem lt_succ {p : Nat → Prop} {k : Nat} (h : ∀ j, j < k → p j) (hk : p k) : ∀ j, j < k + 1 → p j := fun j hj => by
  rcases Nat.lt_or_ge j k with h1 | h1
  · exact h j h1
  · obtain rfl : j = k := by omega
    exact hk
theorem take_snoc {arcs : List Arc} {k : Nat} (hk : k < arcs.length) : arcs.take (k + 1) = arcs.take k ++ [arcs.getD k default] := by
  rw [List.take_succ_eq_append_getElem hk]; simp [hk]
def table (n : Nat) (arcs : List Arc) : List (List Int) := (List.range n).map fun i : Nat => succs arcs (i : Int)
/-! ### the closest successor, ways, cycles, orders: what the code reckons -/
def closeStep (d : List Int) (best w : Int) : Int :=
  if d.getD w.toNat 0 < 0 then best else if best < 0 ∨ d.getD w.toNat 0 < d.getD best.toNat 0 ∨ (d.getD w.toNat 0 = d.getD best.toNat 0 ∧ w < best) then w else best
def closest (arcs : List Arc) (d : List Int) (v : Int) : Int := (succs arcs v).foldl (closeStep d) (-1)
/-! ### results -/
end Gr

namespace Gr
/-! ### ways -/
/-! ### cycles -/
/-! ### orders -/
end Gr

namespace Gr
/-! ### the waits of an order -/
def dec (W : List Int) (w : Int) : List Int := W.set w.toNat (W.getD w.toNat 0 - 1)
end Gr
namespace Go.Proofs.YtpapfpoefiikpaaGreatDoor
open Go Go.K Go.RowKit
instance : Rep Gr.Arc where
  sz := 2
  bytes := 16
  rep := fun _ a cs => cs = [.int .i64 a.From, .int .i64 a.To] ∧ I64 a.From ∧ I64 a.To
  len := fun h => by rw [h.1]; rfl
  mono := fun _ h => h
  one := fun h u hu => by
    rw [h.1] at hu
    rcases List.mem_cons.1 hu with rfl | hu
    · rfl
    · obtain rfl : u = _ := by simpa using hu
      rfl
instance : RepE Gr.Arc where
  cells := fun a => [.int .i64 a.From, .int .i64 a.To]
  wf := fun a => I64 a.From ∧ I64 a.To
  iff := Iff.rfl
end Go.Proofs.YtpapfpoefiikpaaGreatDoor
namespace Ad
open Bt
/-! ### arcs -/
def addA (L : List Gr.Arc) (f t : Int) : List Gr.Arc := if 0 ≤ f ∧ 0 ≤ t then L ++ [⟨f, t⟩] else L
def aP (ps : List Place) : Nat → List Gr.Arc
  | 0 => []
  | k + 1 => addA (aP ps k) (k : Int) (ps.getD k default).Down
def aLk (L : List Gr.Arc) (l : Link) : List Gr.Arc := if l.Kind = 4 then addA (addA L l.From l.To) l.To l.From else addA L l.From l.To
def aL (b : Basin) : Nat → List Gr.Arc
  | 0 => aP b.Places b.Places.length
  | k + 1 => aLk (aL b k) (b.Links.getD k default)
def arcs (b : Basin) : List Gr.Arc := aL b b.Links.length
theorem addA_len (L : List Gr.Arc) (f t : Int) : (addA L f t).length ≤ L.length + 1 := by unfold addA; split <;> simp
theorem addA_sub {L : List Gr.Arc} {f t : Int} {a : Gr.Arc} (h : a ∈ L) : a ∈ addA L f t := by unfold addA; split <;> simp [h]
theorem aP_len (ps : List Place) : ∀ k, (aP ps k).length ≤ k
  | 0 => by simp [aP]
  | k + 1 => by have h1 := aP_len ps k; have h2 := addA_len (aP ps k) (k : Int) (ps.getD k default).Down; simp only [aP]; omega
theorem aLk_len (L : List Gr.Arc) (l : Link) : (aLk L l).length ≤ L.length + 2 := by
  unfold aLk
  split
  · have h1 := addA_len L l.From l.To; have h2 := addA_len (addA L l.From l.To) l.To l.From; omega
  · have h1 := addA_len L l.From l.To; omega
theorem aL_len (b : Basin) : ∀ k, (aL b k).length ≤ b.Places.length + 2 * k
  | 0 => by have h1 := aP_len b.Places b.Places.length; simp only [aL]; omega
  | k + 1 => by have h1 := aL_len b k; have h2 := aLk_len (aL b k) (b.Links.getD k default); simp only [aL]; omega
theorem aLk_sub {L : List Gr.Arc} {l : Link} {a : Gr.Arc} (h : a ∈ L) : a ∈ aLk L l := by
  unfold aLk
  split
  · exact addA_sub (addA_sub h)
  · exact addA_sub h
theorem aL_sub {b : Basin} {a : Gr.Arc} (h : a ∈ aP b.Places b.Places.length) : ∀ k, a ∈ aL b k
  | 0 => h
  | k + 1 => aLk_sub (aL_sub h k)
theorem aP_mem {ps : List Place} {i : Nat} (hd : 0 ≤ (ps.getD i default).Down) : ∀ k, i < k → (⟨(i : Int), (ps.getD i default).Down⟩ : Gr.Arc) ∈ aP ps k
  | 0, h => absurd h (by omega)
  | k + 1, h => by
    by_cases e : i = k
    · subst e; simp only [aP]; unfold addA; rw [if_pos ⟨by omega, hd⟩]; simp
    · exact addA_sub (aP_mem hd k (by omega))
end Ad
