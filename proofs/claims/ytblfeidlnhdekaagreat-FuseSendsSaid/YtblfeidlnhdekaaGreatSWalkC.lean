/- Lemmas. Conditions: those of each theorem. -/
import Derived.Test.YtblfeidlnhdekaaGreatSWalkBe
set_option maxRecDepth 8000
set_option maxHeartbeats 16000000
namespace Go.Proofs.YtblfeidlnhdekaaGreat
open Go Go.K Go.RowKit
attribute [local irreducible] AW RW DW Post Qt
def townBad (b : Bt.Basin) (k : Nat) : Bool := ((((((!(decide (0 ≤ (b.Towns.getD k default).Place ∧ (b.Towns.getD k default).Place < (b.Places.length : Int)))) || (!(decide (0 ≤ (b.Towns.getD k default).Flood ∧ (b.Towns.getD k default).Flood ≤ 1125899906842624)))) || (!(decide (0 ≤ (b.Towns.getD k default).Lead ∧ (b.Towns.getD k default).Lead ≤ 24)))) || (!(decide (0 ≤ (b.Towns.getD k default).People ∧ (b.Towns.getD k default).People ≤ 1073741824)))) || (!(decide (0 ≤ (b.Towns.getD k default).Watch ∧ (b.Towns.getD k default).Watch ≤ 1125899906842624)))) || (!(decide (0 ≤ (b.Towns.getD k default).Quorum ∧ (b.Towns.getD k default).Quorum ≤ 128))))
def shelBad (b : Bt.Basin) (k : Nat) : Bool := !(decide (0 ≤ (b.Shelters.getD k default).Room ∧ (b.Shelters.getD k default).Room ≤ 1073741824))
def RTowns (b : Bt.Basin) : Prop := (∀ k, k < b.Towns.length → townBad b k = false) ∧ ∀ k, k < b.Shelters.length → shelBad b k = false
instance (b : Bt.Basin) : Decidable (RTowns b) := inferInstanceAs (Decidable ((∀ k, k < b.Towns.length → townBad b k = false) ∧ ∀ k, k < b.Shelters.length → shelBad b k = false))
theorem rTowns_c (w : World) (Φ : Hp) (hΦ : Hp.le Φ (hp w)) {b : Bt.Basin} {cs : List Value} (hB : RepV Φ b cs)  :
  Calls pg 57 #[.agg cs.toArray] w fun e w' => e = .returned (.bool (decide (RTowns b))) ∧ Bel w.heap.size w w' := by
 obtain ⟨v1, v3, v4, v5, v6, v7, v8, v9, hcs, hBw, r1, r3, r4, r5, r6, r7, r8, r9⟩ := (show Rep.rep Φ b cs from hB)
 subst hcs
 have hpm : b.Places.length * 152 ≤ 140737488355328 := r3.max
 refine in1 64 Tryz.func57 rfl rfl hΦ ?_
 have hnl : b.Name.data.toList.length ≤ 9223372036854775807 := hBw.1
 have hom : b.Owners.length * 16 ≤ 140737488355328 := r1.max
 have hlm : b.Links.length * 200 ≤ 140737488355328 := r4.max
 have htm : b.Towns.length * 64 ≤ 140737488355328 := r5.max
 have hgm_ : b.Gauges.length * 48 ≤ 140737488355328 := r6.max
 have hrm : b.Roads.length * 64 ≤ 140737488355328 := r7.max
 have hsm : b.Shelters.length * 24 ≤ 140737488355328 := r8.max
 have hom2 : b.Room.length * 8 ≤ 140737488355328 := r9.max
 refine gs2 ?_
 refine RW.bxA rfl rfl fun b1 => ?_
 refine gs13 ?_
 refine AW.lp (fun s J m => ∃ (k : Nat), s = [(1, pV b1 0), (8, v5), (9, iV (b.Towns.length : Int)), (10, iV (k : Int))] ∧ J = St ⟨w, Φ, []⟩ Φ [.blk b1 31 (cl31 b v1 v3 v4 v5 v6 v7 v8 v9)] ∧ m = b.Towns.length - k ∧ (k ≤ b.Towns.length) ∧ (∀ j, j < k → townBad b j = false)) ⟨0, rfl, rfl, rfl, (by omega), (fun j hj => absurd hj (by omega))⟩ ?_
 rintro _ _ _ _ ⟨k, rfl, rfl, rfl, hk, hall⟩
 refine gs6 ?_
 refine AW.cond rfl (fun hc1 => ?_) fun hc1 => ?_
 ·
  simp [-List.getD_eq_getElem?_getD, -Array.length_toList] at hc1
  refine gs7 ?_
  refine RW.q (v := .agg (cl158 (b.Towns.getD k default)).toArray) rfl (q_loadAgg rfl uT158 rfl sz158 rfl (Cells.repE r5 (by omega) rfl)) ?_
  refine RW.alc rfl fun b2 => ?_
  refine gs10 ?_
  refine RW.c rfl (fun w1 hw1 => bIdx_c w1 (Go.K.hp w1) (Hp.le_refl _) (by omega)) rfl rfl ?_
  refine gs4 ?_
  refine RW.gc rfl rfl rfl (fun w1 hw1 => bVol_c w1 (Go.K.hp w1) (Hp.le_refl _)) rfl (fun h => args1 (gv_pos h)) ?_
  refine gs1 ?_
  refine RW.pkO rfl rfl rfl rfl fun qb1 hqb1 => ?_
  refine gs3 ?_
  refine RW.gc rfl rfl rfl (fun w1 hw1 => bIn_c w1 (Go.K.hp w1) (Hp.le_refl _)) rfl (fun h => args3 (gv_pos h) rfl rfl) ?_
  refine gs1 ?_
  refine RW.pkO rfl rfl rfl rfl fun qb2 hqb2 => ?_
  refine gs3 ?_
  refine RW.gc rfl rfl rfl (fun w1 hw1 => bIn_c w1 (Go.K.hp w1) (Hp.le_refl _)) rfl (fun h => args3 (gv_pos h) rfl rfl) ?_
  refine gs1 ?_
  refine RW.pkO rfl rfl rfl rfl fun qb3 hqb3 => ?_
  refine gs3 ?_
  refine RW.gc rfl rfl rfl (fun w1 hw1 => bVol_c w1 (Go.K.hp w1) (Hp.le_refl _)) rfl (fun h => args1 (gv_pos h)) ?_
  refine gs1 ?_
  refine RW.pkO rfl rfl rfl rfl fun qb4 hqb4 => ?_
  refine gs3 ?_
  refine RW.gc rfl rfl rfl (fun w1 hw1 => bIn_c w1 (Go.K.hp w1) (Hp.le_refl _)) rfl (fun h => args3 (gv_pos h) rfl rfl) ?_
  refine gs1 ?_
  refine RW.pkO rfl rfl rfl rfl fun qb5 hqb5 => ?_
  subst hqb5 hqb4 hqb3 hqb2 hqb1
  refine gs2 ?_
  refine AW.cond rfl (fun hc2 => ?_) fun hc2 => ?_
  ·
   refine gs11 ?_
   exact fin_val (v' := .bool false) rfl rfl rfl (congrArg Value.bool (decide_eq_false (fun h9 => Bool.noConfusion ((h9.1 k (by omega)).symm.trans hc2))).symm)
  ·
   refine gs7 ?_
   exact Post.bk ⟨k + 1, rfl, rfl, rfl, (by omega), (Fu.lt_succ hall hc2)⟩
 ·
  simp [-List.getD_eq_getElem?_getD, -Array.length_toList] at hc1
  refine gs15 ?_
  refine AW.lp (fun s J m => ∃ (k : Nat), s = [(53, v8), (54, iV (b.Shelters.length : Int)), (55, iV (k : Int))] ∧ J = St ⟨w, Φ, []⟩ Φ [.blk b1 31 (cl31 b v1 v3 v4 v5 v6 v7 v8 v9)] ∧ m = b.Shelters.length - k ∧ (k ≤ b.Shelters.length) ∧ (∀ j, j < k → shelBad b j = false)) ⟨0, rfl, rfl, rfl, (by omega), (fun j hj => absurd hj (by omega))⟩ ?_
  rintro _ _ _ _ ⟨k, rfl, rfl, rfl, hk, hal2⟩
  refine gs6 ?_
  refine AW.cond rfl (fun hc3 => ?_) fun hc3 => ?_
  ·
   simp [-List.getD_eq_getElem?_getD, -Array.length_toList] at hc3
   refine gs7 ?_
   refine RW.q (v := .agg #[.string ((b.Shelters.getD k default).Name), iV ((b.Shelters.getD k default).Room)]) rfl (q_loadAgg rfl uT160 rfl sz160 rfl (Cells.repE r8 (by omega) rfl)) ?_
   refine RW.alc rfl fun b3 => ?_
   refine gs7 ?_
   refine RW.c rfl (fun w1 hw1 => bIn_c w1 (Go.K.hp w1) (Hp.le_refl _)) rfl rfl ?_
   refine gs3 ?_
   refine AW.cond rfl (fun hc4 => ?_) fun hc4 => ?_
   ·
    refine gs11 ?_
    exact fin_val (v' := .bool false) rfl rfl rfl (congrArg Value.bool (decide_eq_false (fun h9 => Bool.noConfusion ((h9.2 k (by omega)).symm.trans hc4))).symm)
   ·
    refine gs7 ?_
    exact Post.bk ⟨k + 1, rfl, rfl, rfl, (by omega), (Fu.lt_succ hal2 hc4)⟩
  ·
   simp [-List.getD_eq_getElem?_getD, -Array.length_toList] at hc3
   refine gs11 ?_
   exact fin_val (v' := .bool true) rfl rfl rfl (congrArg Value.bool (decide_eq_true (show RTowns b from ⟨fun j hj => hall j (by omega), fun j hj => hal2 j (by omega)⟩)).symm)
theorem sz168 : (pg.info? 168).map (·.size) = some 3 := by kernel_rfl
theorem zero168 : (pg.info? 168).map (·.zero) = some (some (.agg #[iV 0, iV 0, iV 0])) := by kernel_rfl
def gaugeBad (b : Bt.Basin) (k : Nat) : Bool := (((!(decide (0 ≤ (b.Gauges.getD k default).Kind ∧ (b.Gauges.getD k default).Kind ≤ 2))) || (!(decide (0 ≤ (b.Gauges.getD k default).Err ∧ (b.Gauges.getD k default).Err ≤ 1099511627776)))) || (!(decide (0 ≤ (b.Gauges.getD k default).Drift ∧ (b.Gauges.getD k default).Drift ≤ 1440))))
def tgBad (b : Bt.Basin) (k : Nat) : Bool := if (b.Gauges.getD k default).Kind = 0 then !(decide (0 ≤ (b.Gauges.getD k default).Target ∧ (b.Gauges.getD k default).Target < (b.Places.length : Int))) else if (b.Gauges.getD k default).Kind = 1 then !(decide (0 ≤ (b.Gauges.getD k default).Target ∧ (b.Gauges.getD k default).Target < b.Cells)) else !(decide (0 ≤ (b.Gauges.getD k default).Target ∧ (b.Gauges.getD k default).Target < (b.Links.length : Int)))
def RGauges (b : Bt.Basin) : Prop := ∀ k, k < b.Gauges.length → gaugeBad b k = false ∧ tgBad b k = false
instance (b : Bt.Basin) : Decidable (RGauges b) := inferInstanceAs (Decidable (∀ k, k < b.Gauges.length → gaugeBad b k = false ∧ tgBad b k = false))
theorem rGauges_c (w : World) (Φ : Hp) (hΦ : Hp.le Φ (hp w)) {b : Bt.Basin} {cs : List Value} (hB : RepV Φ b cs) (hh : RHead b) :
  Calls pg 58 #[.agg cs.toArray] w fun e w' => e = .returned (.bool (decide (RGauges b))) ∧ Bel w.heap.size w w' := by
 obtain ⟨v1, v3, v4, v5, v6, v7, v8, v9, hcs, hBw, r1, r3, r4, r5, r6, r7, r8, r9⟩ := (show Rep.rep Φ b cs from hB)
 subst hcs
 have hpm : b.Places.length * 152 ≤ 140737488355328 := r3.max
 refine in1 47 Tryz.func58 rfl rfl hΦ ?_
 have hnl : b.Name.data.toList.length ≤ 9223372036854775807 := hBw.1
 have hom : b.Owners.length * 16 ≤ 140737488355328 := r1.max
 have hlm : b.Links.length * 200 ≤ 140737488355328 := r4.max
 have htm : b.Towns.length * 64 ≤ 140737488355328 := r5.max
 have hgm_ : b.Gauges.length * 48 ≤ 140737488355328 := r6.max
 have hrm : b.Roads.length * 64 ≤ 140737488355328 := r7.max
 have hsm : b.Shelters.length * 24 ≤ 140737488355328 := r8.max
 have hom2 : b.Room.length * 8 ≤ 140737488355328 := r9.max
 have hdb := hh.1
 unfold headBad at hdb
 simp [-List.getD_eq_getElem?_getD, -Array.length_toList] at hdb
 refine gs2 ?_
 refine RW.bxA rfl rfl fun b1 => ?_
 refine gs13 ?_
 refine AW.lp (fun s J m => ∃ (k : Nat), s = [(1, pV b1 0), (7, v6), (8, iV (b.Gauges.length : Int)), (9, iV (k : Int))] ∧ J = St ⟨w, Φ, []⟩ Φ [.blk b1 31 (cl31 b v1 v3 v4 v5 v6 v7 v8 v9)] ∧ m = b.Gauges.length - k ∧ (k ≤ b.Gauges.length) ∧ (∀ j, j < k → gaugeBad b j = false ∧ tgBad b j = false)) ⟨0, rfl, rfl, rfl, (by omega), (fun j hj => absurd hj (by omega))⟩ ?_
 rintro _ _ _ _ ⟨k, rfl, rfl, rfl, hk, hall⟩
 refine gs6 ?_
 refine AW.cond rfl (fun hc1 => ?_) fun hc1 => ?_
 ·
  simp [-List.getD_eq_getElem?_getD, -Array.length_toList] at hc1
  refine gs7 ?_
  refine RW.q (v := .agg (cl49 (b.Gauges.getD k default)).toArray) rfl (q_loadAgg rfl uT49 rfl sz49 rfl (Cells.repE r6 (by omega) rfl)) ?_
  refine RW.alc rfl fun b2 => ?_
  refine gs8 ?_
  refine RW.c rfl (fun w1 hw1 => bIn_c w1 (Go.K.hp w1) (Hp.le_refl _)) rfl rfl ?_
  refine gs4 ?_
  refine RW.gc rfl rfl rfl (fun w1 hw1 => bIn_c w1 (Go.K.hp w1) (Hp.le_refl _)) rfl (fun h => args3 (gv_pos h) rfl rfl) ?_
  refine gs1 ?_
  refine RW.pkO rfl rfl rfl rfl fun qb1 hqb1 => ?_
  refine gs3 ?_
  refine RW.gc rfl rfl rfl (fun w1 hw1 => bIn_c w1 (Go.K.hp w1) (Hp.le_refl _)) rfl (fun h => args3 (gv_pos h) rfl rfl) ?_
  refine gs1 ?_
  refine RW.pkO rfl rfl rfl rfl fun qb2 hqb2 => ?_
  subst hqb2 hqb1
  refine gs2 ?_
  refine AW.cond rfl (fun hc2 => ?_) fun hc2 => ?_
  ·
   refine gs12 ?_
   exact fin_val (v' := .bool false) rfl rfl rfl (congrArg Value.bool (decide_eq_false (fun h9 => Bool.noConfusion (((h9 k (by omega)).1).symm.trans hc2))).symm)
  ·
   refine gs12 ?_
   refine RW.q (v := .agg #[iV (b.Places.length : Int), iV b.Cells, iV (b.Links.length : Int)]) rfl (q_buildArr (vals := [(0, iV (b.Places.length : Int)), (1, iV b.Cells), (2, iV (b.Links.length : Int))]) zero168 uT168 sz3 rfl rfl) (RW.eff (fun b3 : Nat => pV b3 0) (fun b3 => St ⟨w, Φ, []⟩ Φ [.blk b3 168 [iV 0, iV 0, iV 0], .blk b2 49 (cl49 (b.Gauges.getD k default)), .blk b1 31 (cl31 b v1 v3 v4 v5 v6 v7 v8 v9)]) rfl (e_alloc zero168) ?_)
   intro b3
   refine RW.effn (J' := St ⟨w, Φ, []⟩ Φ [.blk b3 168 [iV (b.Places.length : Int), iV b.Cells, iV (b.Links.length : Int)], .blk b2 49 (cl49 (b.Gauges.getD k default)), .blk b1 31 (cl31 b v1 v3 v4 v5 v6 v7 v8 v9)]) (e_store (v := .agg #[iV (b.Places.length : Int), iV b.Cells, iV (b.Links.length : Int)]) 0 rfl rfl rfl sz168 rfl rfl rfl rfl rfl) ?_
   refine gs3 ?_
   rcases (show (b.Gauges.getD k default).Kind = 0 ∨ (b.Gauges.getD k default).Kind = 1 ∨ (b.Gauges.getD k default).Kind = 2 by have h9 := hc2; simp [-List.getD_eq_getElem?_getD, -Array.length_toList] at h9; omega) with hK | hK | hK
   ·
    refine AW.draw (J0 := St ⟨w, Φ, []⟩ Φ [.blk b3 168 [iV (b.Places.length : Int), iV b.Cells, iV (b.Links.length : Int)], .blk b2 49 (cl49 (b.Gauges.getD k default)), .blk b1 31 (cl31 b v1 v3 v4 v5 v6 v7 v8 v9)]) [.q, .q, .q, .q, .q, .q, .q, .q] [0, 1, 2, 3, 4, 5, 6, 7] hmix (by kernel_rfl) ?_
    refine gs3 ?_
    refine DW.q (v := iV (0 : Int)) (fun _ h => h) rfl (q_as (v := iV ((b.Gauges.getD k default).Kind)) (q_load rfl uT3 rfl (Cell.blk 1 rfl rfl)) (congrArg (Value.int .i64) (hK))) (DW.q (v := pV b3 0) (fun _ h => h) rfl (q_indexAddrA (i := ((0 : Nat) : Int)) rfl rfl uT168 sz3 (by decide) (by decide) rfl) ?_)
    refine gs1 ?_
    refine DW.c (fun _ h => h) rfl (fun w1 hw1 => bIdx_c w1 (Go.K.hp w1) (Hp.le_refl _) (by omega)) rfl rfl ?_
    refine gs3 ?_
    refine AW.cond rfl (fun hc3 => ?_) fun hc3 => ?_
    ·
     refine gs11 ?_
     exact fin_val (v' := .bool false) rfl rfl rfl (congrArg Value.bool (decide_eq_false (fun h9 => by have h8 := (h9 k (by omega)).2; unfold tgBad at h8; rw [if_pos hK] at h8; exact Bool.noConfusion (h8.symm.trans hc3))).symm)
    ·
     refine gs7 ?_
     exact Post.bk ⟨k + 1, rfl, rfl, rfl, (by omega), (Fu.lt_succ hall ⟨hc2, by unfold tgBad; rw [if_pos hK]; exact hc3⟩)⟩
   ·
    refine AW.draw (J0 := St ⟨w, Φ, []⟩ Φ [.blk b3 168 [iV (b.Places.length : Int), iV b.Cells, iV (b.Links.length : Int)], .blk b2 49 (cl49 (b.Gauges.getD k default)), .blk b1 31 (cl31 b v1 v3 v4 v5 v6 v7 v8 v9)]) [.q, .q, .q, .q, .q, .q, .q, .q] [0, 1, 2, 3, 4, 5, 6, 7] hmix (by kernel_rfl) ?_
    refine gs3 ?_
    refine DW.q (v := iV (1 : Int)) (fun _ h => h) rfl (q_as (v := iV ((b.Gauges.getD k default).Kind)) (q_load rfl uT3 rfl (Cell.blk 1 rfl rfl)) (congrArg (Value.int .i64) (hK))) (DW.q (v := pV b3 1) (fun _ h => h) rfl (q_indexAddrA (i := ((1 : Nat) : Int)) rfl rfl uT168 sz3 (by decide) (by decide) rfl) ?_)
    refine gs1 ?_
    refine DW.c (fun _ h => h) rfl (fun w1 hw1 => bIdx_c w1 (Go.K.hp w1) (Hp.le_refl _) (by omega)) rfl rfl ?_
    refine gs3 ?_
    refine AW.cond rfl (fun hc4 => ?_) fun hc4 => ?_
    ·
     refine gs11 ?_
     exact fin_val (v' := .bool false) rfl rfl rfl (congrArg Value.bool (decide_eq_false (fun h9 => by have h8 := (h9 k (by omega)).2; unfold tgBad at h8; rw [if_neg (by omega), if_pos hK] at h8; exact Bool.noConfusion (h8.symm.trans hc4))).symm)
    ·
     refine gs7 ?_
     exact Post.bk ⟨k + 1, rfl, rfl, rfl, (by omega), (Fu.lt_succ hall ⟨hc2, by unfold tgBad; rw [if_neg (by omega), if_pos hK]; exact hc4⟩)⟩
   ·
    refine AW.draw (J0 := St ⟨w, Φ, []⟩ Φ [.blk b3 168 [iV (b.Places.length : Int), iV b.Cells, iV (b.Links.length : Int)], .blk b2 49 (cl49 (b.Gauges.getD k default)), .blk b1 31 (cl31 b v1 v3 v4 v5 v6 v7 v8 v9)]) [.q, .q, .q, .q, .q, .q, .q, .q] [0, 1, 2, 3, 4, 5, 6, 7] hmix (by kernel_rfl) ?_
    refine gs3 ?_
    refine DW.q (v := iV (2 : Int)) (fun _ h => h) rfl (q_as (v := iV ((b.Gauges.getD k default).Kind)) (q_load rfl uT3 rfl (Cell.blk 1 rfl rfl)) (congrArg (Value.int .i64) (hK))) (DW.q (v := pV b3 2) (fun _ h => h) rfl (q_indexAddrA (i := ((2 : Nat) : Int)) rfl rfl uT168 sz3 (by decide) (by decide) rfl) ?_)
    refine gs1 ?_
    refine DW.c (fun _ h => h) rfl (fun w1 hw1 => bIdx_c w1 (Go.K.hp w1) (Hp.le_refl _) (by omega)) rfl rfl ?_
    refine gs3 ?_
    refine AW.cond rfl (fun hc5 => ?_) fun hc5 => ?_
    ·
     refine gs11 ?_
     exact fin_val (v' := .bool false) rfl rfl rfl (congrArg Value.bool (decide_eq_false (fun h9 => by have h8 := (h9 k (by omega)).2; unfold tgBad at h8; rw [if_neg (by omega), if_neg (by omega)] at h8; exact Bool.noConfusion (h8.symm.trans hc5))).symm)
    ·
     refine gs7 ?_
     exact Post.bk ⟨k + 1, rfl, rfl, rfl, (by omega), (Fu.lt_succ hall ⟨hc2, by unfold tgBad; rw [if_neg (by omega), if_neg (by omega)]; exact hc5⟩)⟩
 ·
  simp [-List.getD_eq_getElem?_getD, -Array.length_toList] at hc1
  refine gs11 ?_
  exact fin_val (v' := .bool true) rfl rfl rfl (congrArg Value.bool (decide_eq_true (show RGauges b from fun j hj => hall j (by omega))).symm)
def roadBad (b : Bt.Basin) (k : Nat) : Bool := ((((((!(decide (0 ≤ (b.Roads.getD k default).From ∧ (b.Roads.getD k default).From < (b.Towns.length : Int)))) || (!(decide (0 ≤ (b.Roads.getD k default).To ∧ (b.Roads.getD k default).To < ((b.Towns.length + b.Shelters.length : Nat) : Int))))) || (decide ((b.Roads.getD k default).From = (b.Roads.getD k default).To))) || (!(decide (1 ≤ (b.Roads.getD k default).Hours ∧ (b.Roads.getD k default).Hours ≤ 24)))) || (!(decide (0 ≤ (b.Roads.getD k default).Flow ∧ (b.Roads.getD k default).Flow ≤ 1073741824)))) || (!(decide (0 ≤ (b.Roads.getD k default).Limit ∧ (b.Roads.getD k default).Limit ≤ 1125899906842624))))
def roadBa2 (b : Bt.Basin) (k : Nat) : Bool := ((decide ((b.Roads.getD k default).By = (-1))) && (!decide ((b.Roads.getD k default).Limit = 0))) || ((!decide ((b.Roads.getD k default).By = (-1))) && (!(decide (0 ≤ (b.Roads.getD k default).By ∧ (b.Roads.getD k default).By < (b.Places.length : Int)))))
def RRoads (b : Bt.Basin) : Prop := ∀ k, k < b.Roads.length → roadBad b k = false ∧ roadBa2 b k = false
instance (b : Bt.Basin) : Decidable (RRoads b) := inferInstanceAs (Decidable (∀ k, k < b.Roads.length → roadBad b k = false ∧ roadBa2 b k = false))
theorem rRoads_c (w : World) (Φ : Hp) (hΦ : Hp.le Φ (hp w)) {b : Bt.Basin} {cs : List Value} (hB : RepV Φ b cs)  :
  Calls pg 59 #[.agg cs.toArray] w fun e w' => e = .returned (.bool (decide (RRoads b))) ∧ Bel w.heap.size w w' := by
 obtain ⟨v1, v3, v4, v5, v6, v7, v8, v9, hcs, hBw, r1, r3, r4, r5, r6, r7, r8, r9⟩ := (show Rep.rep Φ b cs from hB)
 subst hcs
 have hpm : b.Places.length * 152 ≤ 140737488355328 := r3.max
 refine in1 80 Tryz.func59 rfl rfl hΦ ?_
 have hnl : b.Name.data.toList.length ≤ 9223372036854775807 := hBw.1
 have hom : b.Owners.length * 16 ≤ 140737488355328 := r1.max
 have hlm : b.Links.length * 200 ≤ 140737488355328 := r4.max
 have htm : b.Towns.length * 64 ≤ 140737488355328 := r5.max
 have hgm_ : b.Gauges.length * 48 ≤ 140737488355328 := r6.max
 have hrm : b.Roads.length * 64 ≤ 140737488355328 := r7.max
 have hsm : b.Shelters.length * 24 ≤ 140737488355328 := r8.max
 have hom2 : b.Room.length * 8 ≤ 140737488355328 := r9.max
 refine gs2 ?_
 refine RW.bxA rfl rfl fun b1 => ?_
 refine gs13 ?_
 refine AW.lp (fun s J m => ∃ (k : Nat), s = [(1, pV b1 0), (6, v7), (7, iV (b.Roads.length : Int)), (8, iV (k : Int))] ∧ J = St ⟨w, Φ, []⟩ Φ [.blk b1 31 (cl31 b v1 v3 v4 v5 v6 v7 v8 v9)] ∧ m = b.Roads.length - k ∧ (k ≤ b.Roads.length) ∧ (∀ j, j < k → roadBad b j = false ∧ roadBa2 b j = false)) ⟨0, rfl, rfl, rfl, (by omega), (fun j hj => absurd hj (by omega))⟩ ?_
 rintro _ _ _ _ ⟨k, rfl, rfl, rfl, hk, hall⟩
 refine gs6 ?_
 refine AW.cond rfl (fun hc1 => ?_) fun hc1 => ?_
 ·
  simp [-List.getD_eq_getElem?_getD, -Array.length_toList] at hc1
  refine gs7 ?_
  refine RW.q (v := .agg (cl162 (b.Roads.getD k default)).toArray) rfl (q_loadAgg rfl uT162 rfl sz162 rfl (Cells.repE r7 (by omega) rfl)) ?_
  refine RW.alc rfl fun b2 => ?_
  refine gs11 ?_
  refine RW.c rfl (fun w1 hw1 => bIdx_c w1 (Go.K.hp w1) (Hp.le_refl _) (by omega)) rfl rfl ?_
  refine gs10 ?_
  refine RW.g (b := (!(decide (0 ≤ (b.Roads.getD k default).From ∧ (b.Roads.getD k default).From < (b.Towns.length : Int))))) (v := iV ((b.Towns.length + b.Shelters.length : Nat) : Int)) rfl rfl rfl (fun h => q_add (gv_pos h) (gv_pos h) (by (try simp [-List.getD_eq_getElem?_getD, -Array.length_toList] at h); omega) (by (try simp [-List.getD_eq_getElem?_getD, -Array.length_toList] at h); unfold I64; omega)) ?_
  refine RW.gc rfl rfl rfl (fun w1 hw1 => bIdx_c w1 (Go.K.hp w1) (Hp.le_refl _) (by (try simp [-List.getD_eq_getElem?_getD, -Array.length_toList] at h); omega)) rfl (fun h => args2 (gv_pos h) (gv_pos h)) ?_
  refine gs1 ?_
  refine RW.pkO rfl rfl rfl rfl fun qb1 hqb1 => ?_
  refine gs6 ?_
  refine RW.pkO rfl rfl rfl rfl fun qb2 hqb2 => ?_
  refine gs3 ?_
  refine RW.gc rfl rfl rfl (fun w1 hw1 => bIn_c w1 (Go.K.hp w1) (Hp.le_refl _)) rfl (fun h => args3 (gv_pos h) rfl rfl) ?_
  refine gs1 ?_
  refine RW.pkO rfl rfl rfl rfl fun qb3 hqb3 => ?_
  refine gs3 ?_
  refine RW.gc rfl rfl rfl (fun w1 hw1 => bIn_c w1 (Go.K.hp w1) (Hp.le_refl _)) rfl (fun h => args3 (gv_pos h) rfl rfl) ?_
  refine gs1 ?_
  refine RW.pkO rfl rfl rfl rfl fun qb4 hqb4 => ?_
  refine gs3 ?_
  refine RW.gc rfl rfl rfl (fun w1 hw1 => bVol_c w1 (Go.K.hp w1) (Hp.le_refl _)) rfl (fun h => args1 (gv_pos h)) ?_
  refine gs1 ?_
  refine RW.pkO rfl rfl rfl rfl fun qb5 hqb5 => ?_
  subst hqb5 hqb4 hqb3 hqb2 hqb1
  refine gs2 ?_
  refine AW.cond rfl (fun hc2 => ?_) fun hc2 => ?_
  ·
   refine gs12 ?_
   exact fin_val (v' := .bool false) rfl rfl rfl (congrArg Value.bool (decide_eq_false (fun h9 => Bool.noConfusion (((h9 k (by omega)).1).symm.trans hc2))).symm)
  ·
   refine gs11 ?_
   refine RW.pkA rfl rfl rfl rfl fun qb6 hqb6 => ?_
   refine gs5 ?_
   refine RW.g2 (b1 := qb6) (b2 := (!decide ((b.Roads.getD k default).By = (-1)))) (v := pV b2 5) rfl rfl rfl (fun hg1 hg2 => q_fieldAddr rfl uT162 rfl sz3 rfl) (RW.g2 (b1 := qb6) (b2 := (!decide ((b.Roads.getD k default).By = (-1)))) (v := iV ((b.Roads.getD k default).By)) rfl rfl rfl (fun hg1 hg2 => q_load ((gv_pos hg1).trans (gv_pos hg2)) uT3 rfl (Cell.blk 0 rfl rfl)) (RW.g2 (b1 := qb6) (b2 := (!decide ((b.Roads.getD k default).By = (-1)))) (v := pV b1 3) rfl rfl rfl (fun hg1 hg2 => q_fieldAddr rfl uT31 rfl sz23 rfl) (RW.g2 (b1 := qb6) (b2 := (!decide ((b.Roads.getD k default).By = (-1)))) (v := v3) rfl rfl rfl (fun hg1 hg2 => q_load ((gv_pos hg1).trans (gv_pos hg2)) uT23 rfl (Cell.blk 1 rfl rfl)) (RW.g2 (b1 := qb6) (b2 := (!decide ((b.Roads.getD k default).By = (-1)))) (v := iV (b.Places.length : Int)) rfl rfl rfl (fun hg1 hg2 => q_len_sl ((gv_pos hg1).trans (gv_pos hg2)) r3.sl uT23) (RW.g2 (b1 := qb6) (b2 := (!decide ((b.Roads.getD k default).By = (-1)))) (v := .bool (decide (0 ≤ (b.Roads.getD k default).By ∧ (b.Roads.getD k default).By < (b.Places.length : Int)))) rfl rfl rfl (fun hg1 hg2 => q_call (args := #[iV ((b.Roads.getD k default).By), iV (b.Places.length : Int)]) oK rfl (args2 ((gv_pos hg1).trans (gv_pos hg2)) ((gv_pos hg1).trans (gv_pos hg2))) (fun w1 hw1 => bIdx_c w1 (Go.K.hp w1) (Hp.le_refl _) (by subst hqb6; (try simp [-List.getD_eq_getElem?_getD, -Array.length_toList] at hg1); (try simp [-List.getD_eq_getElem?_getD, -Array.length_toList] at hg2); omega))) ?_)))))
   refine RW.g2 (b1 := qb6) (b2 := (!decide ((b.Roads.getD k default).By = (-1)))) (v := .bool (!(decide (0 ≤ (b.Roads.getD k default).By ∧ (b.Roads.getD k default).By < (b.Places.length : Int))))) rfl rfl rfl (fun hg1 hg2 => q_not ((gv_pos hg1).trans (gv_pos hg2))) ?_
   obtain ⟨qb7, hqb7⟩ : ∃ z : Bool, ((!decide ((b.Roads.getD k default).By = (-1))) && (!(decide (0 ≤ (b.Roads.getD k default).By ∧ (b.Roads.getD k default).By < (b.Places.length : Int))))) = z := ⟨_, rfl⟩
   refine RW.g (b := qb6) (v := .bool qb7) rfl rfl rfl (fun h => q_as (v := .bool ((!decide ((b.Roads.getD k default).By = (-1))) && (!(decide (0 ≤ (b.Roads.getD k default).By ∧ (b.Roads.getD k default).By < (b.Places.length : Int)))))) (q_pick (gv_pos h) (fun hp => (gv_pos h).trans ((gv_pos hp).trans (pkAndT hp))) (fun hp => pkAndF hp)) (congrArg Value.bool hqb7)) (RW.q (v := .bool (qb6 || qb7)) rfl (qpO rfl rfl rfl) ?_)
   subst hqb7 hqb6
   refine gs2 ?_
   refine AW.cond rfl (fun hc3 => ?_) fun hc3 => ?_
   ·
    refine gs11 ?_
    exact fin_val (v' := .bool false) rfl rfl rfl (congrArg Value.bool (decide_eq_false (fun h9 => Bool.noConfusion (((h9 k (by omega)).2).symm.trans hc3))).symm)
   ·
    refine gs7 ?_
    exact Post.bk ⟨k + 1, rfl, rfl, rfl, (by omega), (Fu.lt_succ hall ⟨hc2, hc3⟩)⟩
 ·
  simp [-List.getD_eq_getElem?_getD, -Array.length_toList] at hc1
  refine gs11 ?_
  exact fin_val (v' := .bool true) rfl rfl rfl (congrArg Value.bool (decide_eq_true (show RRoads b from fun j hj => hall j (by omega))).symm)
def rightB (b : Bt.Basin) : Bool := (((((((((decide (RHead b)) && (RNames b)) && (decide (RPlaces b))) && (decide (RLinks b))) && (decide (ROffices b))) && (decide (RSlopes b))) && (decide (RTowns b))) && (decide (RGauges b))) && (decide (RRoads b)))
theorem bRight_c (w : World) (Φ : Hp) (hΦ : Hp.le Φ (hp w)) {b : Bt.Basin} {cs : List Value} (hB : RepV Φ b cs)  :
  Calls pg 15 #[.agg cs.toArray] w fun e w' => e = .returned (.bool (rightB b)) ∧ Bel w.heap.size w w' := by
 obtain ⟨v1, v3, v4, v5, v6, v7, v8, v9, hcs, hBw, r1, r3, r4, r5, r6, r7, r8, r9⟩ := (show Rep.rep Φ b cs from hB)
 subst hcs
 have hpm : b.Places.length * 152 ≤ 140737488355328 := r3.max
 refine in1 37 Tryz.func15 rfl rfl hΦ ?_
 have hnl : b.Name.data.toList.length ≤ 9223372036854775807 := hBw.1
 have hom : b.Owners.length * 16 ≤ 140737488355328 := r1.max
 have hlm : b.Links.length * 200 ≤ 140737488355328 := r4.max
 have htm : b.Towns.length * 64 ≤ 140737488355328 := r5.max
 have hgm_ : b.Gauges.length * 48 ≤ 140737488355328 := r6.max
 have hrm : b.Roads.length * 64 ≤ 140737488355328 := r7.max
 have hsm : b.Shelters.length * 24 ≤ 140737488355328 := r8.max
 have hom2 : b.Room.length * 8 ≤ 140737488355328 := r9.max
 refine gs2 ?_
 refine RW.bxA rfl rfl fun b1 => ?_
 refine gs6 ?_
 refine RW.c rfl (fun w1 hw1 => rHead_c w1 (Go.K.hp w1) (Hp.le_refl _) (hB.mono hw1.phi)) rfl rfl ?_
 refine gs2 ?_
 refine RW.gc rfl rfl rfl (fun w1 hw1 => rNames_c w1 (Go.K.hp w1) (Hp.le_refl _) (hB.mono hw1.phi)) rfl (fun h => args1 (gv_pos h)) (RW.q (v := .bool ((decide (RHead b)) && (RNames b))) rfl (qpA rfl rfl rfl) ?_)
 refine gs2 ?_
 refine RW.g (b := ((decide (RHead b)) && (RNames b))) (v := .bool (decide (RPlaces b))) rfl rfl rfl (fun h => q_call (args := #[.agg (cl31 b v1 v3 v4 v5 v6 v7 v8 v9).toArray]) oK rfl (args1 (gv_pos h)) (fun w1 hw1 => rPlaces_c w1 (Go.K.hp w1) (Hp.le_refl _) (hB.mono hw1.phi) (by simp only [Bool.and_eq_true, decide_eq_true_eq] at h; exact h.1))) ?_
 refine RW.pkA rfl rfl rfl rfl fun qb1 hqb1 => ?_
 refine gs2 ?_
 refine RW.gc rfl rfl rfl (fun w1 hw1 => rLinks_c w1 (Go.K.hp w1) (Hp.le_refl _) (hB.mono hw1.phi)) rfl (fun h => args1 (gv_pos h)) (RW.q (v := .bool (qb1 && (decide (RLinks b)))) rfl (qpA rfl rfl rfl) ?_)
 refine gs2 ?_
 refine RW.g (b := (qb1 && (decide (RLinks b)))) (v := .bool (decide (ROffices b))) rfl rfl rfl (fun h => q_call (args := #[.agg (cl31 b v1 v3 v4 v5 v6 v7 v8 v9).toArray]) oK rfl (args1 (gv_pos h)) (fun w1 hw1 => rOffices_c w1 (Go.K.hp w1) (Hp.le_refl _) (hB.mono hw1.phi) (by subst hqb1; simp only [Bool.and_eq_true, decide_eq_true_eq] at h; exact h.1.2) (by subst hqb1; simp only [Bool.and_eq_true, decide_eq_true_eq] at h; exact h.2))) ?_
 refine RW.pkA rfl rfl rfl rfl fun qb2 hqb2 => ?_
 refine gs2 ?_
 refine RW.g (b := qb2) (v := .bool (decide (RSlopes b))) rfl rfl rfl (fun h => q_call (args := #[.agg (cl31 b v1 v3 v4 v5 v6 v7 v8 v9).toArray]) oK rfl (args1 (gv_pos h)) (fun w1 hw1 => rSlopes_c w1 (Go.K.hp w1) (Hp.le_refl _) (hB.mono hw1.phi) (by subst hqb2 hqb1; simp only [Bool.and_eq_true, decide_eq_true_eq] at h; exact h.1.1.1.1) (by subst hqb2 hqb1; simp only [Bool.and_eq_true, decide_eq_true_eq] at h; exact h.1.1.2) (by subst hqb2 hqb1; simp only [Bool.and_eq_true, decide_eq_true_eq] at h; exact h.1.2))) (RW.q (v := .bool (qb2 && (decide (RSlopes b)))) rfl (qpA rfl rfl rfl) ?_)
 refine gs2 ?_
 refine RW.gc rfl rfl rfl (fun w1 hw1 => rTowns_c w1 (Go.K.hp w1) (Hp.le_refl _) (hB.mono hw1.phi) ) rfl (fun h => args1 (gv_pos h)) ?_
 refine RW.pkA rfl rfl rfl rfl fun qb3 hqb3 => ?_
 refine gs2 ?_
 refine RW.g (b := qb3) (v := .bool (decide (RGauges b))) rfl rfl rfl (fun h => q_call (args := #[.agg (cl31 b v1 v3 v4 v5 v6 v7 v8 v9).toArray]) oK rfl (args1 (gv_pos h)) (fun w1 hw1 => rGauges_c w1 (Go.K.hp w1) (Hp.le_refl _) (hB.mono hw1.phi) (by subst hqb3 hqb2 hqb1; simp only [Bool.and_eq_true, decide_eq_true_eq] at h; exact h.1.1.1.1.1.1))) (RW.q (v := .bool (qb3 && (decide (RGauges b)))) rfl (qpA rfl rfl rfl) ?_)
 refine gs2 ?_
 refine RW.gc rfl rfl rfl (fun w1 hw1 => rRoads_c w1 (Go.K.hp w1) (Hp.le_refl _) (hB.mono hw1.phi) ) rfl (fun h => args1 (gv_pos h)) ?_
 refine RW.pkA rfl rfl rfl rfl fun qb4 hqb4 => ?_
 refine gs1 ?_
 subst hqb4 hqb3 hqb2 hqb1
 refine gs3 ?_
 exact fin_val (v' := .bool (((((((((decide (RHead b)) && (RNames b)) && (decide (RPlaces b))) && (decide (RLinks b))) && (decide (ROffices b))) && (decide (RSlopes b))) && (decide (RTowns b))) && (decide (RGauges b))) && (decide (RRoads b)))) rfl rfl rfl (rfl)
theorem Volume_c (w : World) (Φ : Hp) (hΦ : Hp.le Φ (hp w)) {b : Bt.Basin} {cs : List Value} (hB : RepV Φ b cs) {r : Bt.Reading} (hr : I64 r.Value.Lo ∧ I64 r.Value.Hi) :
  Calls pg 12 #[.agg cs.toArray, .agg #[iV r.Gauge, iV r.Hour, iV r.Value.Lo, iV r.Value.Hi]] w fun e w' => e = .returned (.tuple #[.agg #[iV (Fu.loOf (Fu.volR b r)), iV (Fu.hiOf (Fu.volR b r))], .bool (Fu.volR b r).isSome]) ∧ Bel w.heap.size w w' := by
 obtain ⟨v1, v3, v4, v5, v6, v7, v8, v9, hcs, hBw, r1, r3, r4, r5, r6, r7, r8, r9⟩ := (show Rep.rep Φ b cs from hB)
 subst hcs
 have hpm : b.Places.length * 152 ≤ 140737488355328 := r3.max
 have hgm : b.Gauges.length * 48 ≤ 140737488355328 := r6.max
 obtain ⟨hr1, hr2⟩ := hr
 have hu1 := hr1
 have hu2 := hr2
 unfold I64 at hu1 hu2
 refine in2 81 Tryz.func12 rfl rfl hΦ ?_
 refine gs2 ?_
 refine RW.bxA rfl rfl fun b1 => ?_
 refine RW.bxA rfl rfl fun b2 => ?_
 refine RW.alc rfl fun b3 => ?_
 refine gs7 ?_
 refine RW.c rfl (fun w1 hw1 => gaugeOf_c w1 (Go.K.hp w1) (Hp.le_refl _) (hB.mono hw1.phi) (r := r)) rfl rfl (RW.q rfl (q_move rfl) ?_)
 refine gs2 ?_
 refine RW.alc rfl fun b4 => ?_
 refine gs13 ?_
 refine RW.pkO rfl rfl rfl rfl fun qb1 hqb1 => ?_
 refine gs4 ?_
 refine RW.pkO rfl rfl rfl rfl fun qb2 hqb2 => ?_
 refine gs7 ?_
 refine RW.pkO rfl rfl rfl rfl fun qb3 hqb3 => ?_
 subst hqb3 hqb2 hqb1
 refine gs2 ?_
 refine AW.cond rfl (fun hc1 => ?_) fun hc1 => ?_
 ·
  simp [-List.getD_eq_getElem?_getD] at hc1
  refine gs2 ?_
  refine RW.q (v := .agg #[iV 0, iV 0]) rfl (q_build (vals := []) zero51 uT51 places51 rfl rfl) ?_
  refine gs6 ?_
  refine fin_cell2 (cs := [iV 0, iV 0]) (v := .bool false) rfl rfl rfl rfl uT51 rfl sz51 rfl (Cells.blk 1 rfl) (fun w' hw => ?_)
  refine ⟨?_, hw.below rfl⟩
  rw [Fu.volR_no (fun h => ?_)]
  ·
   rfl
  obtain ⟨h1, h2, h3, h4⟩ := h
  rcases hc1 with ((h5 | h5) | h5) | h5
  ·
   exact h5 h1
  ·
   exact h5 h2
  ·
   omega
  ·
   omega
 ·
  simp [-List.getD_eq_getElem?_getD] at hc1
  refine gs3 ?_
  have hLv : Fu.levelOf b r = (b.Places.getD (Fu.gaugeAt b.Gauges r.Gauge).Target.toNat default).Level := rfl
  have hvo : Fu.VolOk b r := ⟨hc1.1.1.1, hc1.1.1.2, hc1.1.2, hc1.2⟩
  refine gs5 ?_
  refine RW.q (v := .pointer (some (Value.at v3 ((((Fu.gaugeAt b.Gauges r.Gauge).Target).toNat) * 12)))) rfl (q_indexAddr rfl rfl r3.sl uT23 sz71 (by omega) (by omega) rfl) ?_
  refine gs1 ?_
  obtain ⟨sv1, hsv1, hpc1⟩ := leaf71_4 r3 (k := ((Fu.gaugeAt b.Gauges r.Gauge).Target).toNat) (by omega)
  refine RW.q (v := sv1) rfl (q_load rfl uT68 rfl (Cell.phi hpc1)) ?_
  refine gs7 ?_
  refine RW.c rfl (fun w1 hw1 => cRight_c w1 (Go.K.hp w1) (Hp.le_refl _) (hsv1.mono hw1.phi)) rfl rfl ?_
  refine gs3 ?_
  refine AW.cond rfl (fun hc2 => ?_) fun hc2 => ?_
  ·
   simp [-List.getD_eq_getElem?_getD] at hc2
   refine gs2 ?_
   refine RW.q (v := .agg #[iV 0, iV 0]) rfl (q_build (vals := []) zero51 uT51 places51 rfl rfl) ?_
   refine gs6 ?_
   refine fin_cell2 (cs := [iV 0, iV 0]) (v := .bool false) rfl rfl rfl rfl uT51 rfl sz51 rfl (Cells.blk 1 rfl) (fun w' hw => ?_)
   refine ⟨?_, hw.below rfl⟩
   rw [Fu.volR_yes hvo, Fu.volL_bad (by rw [hLv]; simpa using hc2)]; rfl
  ·
   simp [-List.getD_eq_getElem?_getD] at hc2
   refine gs8 ?_
   refine RW.c rfl (fun w1 hw1 => Least_c w1 (Go.K.hp w1) (Hp.le_refl _) (hsv1.mono hw1.phi) hr1) rfl rfl (RW.q (v := .tuple #[iV (Fu.intOf (Fu.leastC ((b.Places.getD (((Fu.gaugeAt b.Gauges r.Gauge).Target).toNat) default).Level) r.Value.Lo)), .bool ((Fu.leastC ((b.Places.getD (((Fu.gaugeAt b.Gauges r.Gauge).Target).toNat) default).Level) r.Value.Lo).isSome)]) rfl (q_move rfl) ?_)
   refine gs13 ?_
   refine AW.cond rfl (fun hc3 => ?_) fun hc3 => ?_
   ·
    simp [-List.getD_eq_getElem?_getD] at hc3
    refine gs2 ?_
    refine RW.q (v := .agg #[iV 0, iV 0]) rfl (q_build (vals := []) zero51 uT51 places51 rfl rfl) ?_
    refine gs6 ?_
    refine fin_cell2 (cs := [iV 0, iV 0]) (v := .bool false) rfl rfl rfl rfl uT51 rfl sz51 rfl (Cells.blk 1 rfl) (fun w' hw => ?_)
    refine ⟨?_, hw.below rfl⟩
    rw [Fu.volR_yes hvo, Fu.volL_none (by rw [hLv]; simpa using hc3)]; rfl
   ·
    simp [-List.getD_eq_getElem?_getD] at hc3
    refine gs14 ?_
    refine RW.c rfl (fun w1 hw1 => Add_c w1 (Go.K.hp w1) (Hp.le_refl _) hr2 (by unfold I64; omega)) rfl rfl (RW.c rfl (fun w1 hw1 => Least_c w1 (Go.K.hp w1) (Hp.le_refl _) (hsv1.mono hw1.phi) (by unfold I64; exact Fu.addS_rng _ _)) rfl rfl (RW.q (v := .tuple #[iV (Fu.intOf (Fu.leastC ((b.Places.getD (((Fu.gaugeAt b.Gauges r.Gauge).Target).toNat) default).Level) (Fu.addS r.Value.Hi 1))), .bool ((Fu.leastC ((b.Places.getD (((Fu.gaugeAt b.Gauges r.Gauge).Target).toNat) default).Level) (Fu.addS r.Value.Hi 1)).isSome)]) rfl (q_move rfl) ?_))
    refine gs11 ?_
    refine AW.cond rfl (fun hc4 => ?_) fun hc4 => ?_
    ·
     have hlr := Fu.least_rng (b.Places.getD (Fu.gaugeAt b.Gauges r.Gauge).Target.toNat default).Level (Fu.addS r.Value.Hi 1)
     refine gs10 ?_
     refine RW.q (v := .agg #[iV (Fu.intOf (Fu.leastC ((b.Places.getD (((Fu.gaugeAt b.Gauges r.Gauge).Target).toNat) default).Level) r.Value.Lo)), iV ((Fu.intOf (Fu.leastC ((b.Places.getD (((Fu.gaugeAt b.Gauges r.Gauge).Target).toNat) default).Level) (Fu.addS r.Value.Hi 1))) - 1)]) rfl (q_build (vals := [(0, iV (Fu.intOf (Fu.leastC ((b.Places.getD (((Fu.gaugeAt b.Gauges r.Gauge).Target).toNat) default).Level) r.Value.Lo))), (1, iV ((Fu.intOf (Fu.leastC ((b.Places.getD (((Fu.gaugeAt b.Gauges r.Gauge).Target).toNat) default).Level) (Fu.addS r.Value.Hi 1))) - 1))]) zero51 uT51 places51 rfl rfl) (RW.q (v := .agg #[iV 0, iV 1125899906842624]) rfl (q_build (vals := [(0, iV 0), (1, iV 1125899906842624)]) zero51 uT51 places51 rfl rfl) (RW.c rfl (fun w1 hw1 => Meet_c w1 (Go.K.hp w1) (Hp.le_refl _)) rfl rfl ?_))
     refine gs7 ?_
     refine fin_cell2 (cs := [iV (Fu.loOf (Fu.meet (Fu.intOf (Fu.leastC ((b.Places.getD (((Fu.gaugeAt b.Gauges r.Gauge).Target).toNat) default).Level) r.Value.Lo)) ((Fu.intOf (Fu.leastC ((b.Places.getD (((Fu.gaugeAt b.Gauges r.Gauge).Target).toNat) default).Level) (Fu.addS r.Value.Hi 1))) - 1) 0 1125899906842624)), iV (Fu.hiOf (Fu.meet (Fu.intOf (Fu.leastC ((b.Places.getD (((Fu.gaugeAt b.Gauges r.Gauge).Target).toNat) default).Level) r.Value.Lo)) ((Fu.intOf (Fu.leastC ((b.Places.getD (((Fu.gaugeAt b.Gauges r.Gauge).Target).toNat) default).Level) (Fu.addS r.Value.Hi 1))) - 1) 0 1125899906842624))]) (v := .bool ((Fu.meet (Fu.intOf (Fu.leastC ((b.Places.getD (((Fu.gaugeAt b.Gauges r.Gauge).Target).toNat) default).Level) r.Value.Lo)) ((Fu.intOf (Fu.leastC ((b.Places.getD (((Fu.gaugeAt b.Gauges r.Gauge).Target).toNat) default).Level) (Fu.addS r.Value.Hi 1))) - 1) 0 1125899906842624).isSome)) rfl rfl rfl rfl uT51 rfl sz51 rfl (Cells.blk 1 rfl) (fun w' hw => ?_)
     refine ⟨?_, hw.below rfl⟩
     rw [Fu.volR_yes hvo, Fu.volL_mid (by rw [hLv]; simpa using hc3) (by rw [hLv]; simpa using hc4)]; rfl
    ·
     refine gs6 ?_
     refine RW.q (v := .agg #[iV (Fu.intOf (Fu.leastC ((b.Places.getD (((Fu.gaugeAt b.Gauges r.Gauge).Target).toNat) default).Level) r.Value.Lo)), iV 1125899906842624]) rfl (q_build (vals := [(0, iV (Fu.intOf (Fu.leastC ((b.Places.getD (((Fu.gaugeAt b.Gauges r.Gauge).Target).toNat) default).Level) r.Value.Lo))), (1, iV 1125899906842624)]) zero51 uT51 places51 rfl rfl) (RW.q (v := .agg #[iV 0, iV 1125899906842624]) rfl (q_build (vals := [(0, iV 0), (1, iV 1125899906842624)]) zero51 uT51 places51 rfl rfl) (RW.c rfl (fun w1 hw1 => Meet_c w1 (Go.K.hp w1) (Hp.le_refl _)) rfl rfl ?_))
     refine gs7 ?_
     refine fin_cell2 (cs := [iV (Fu.loOf (Fu.meet (Fu.intOf (Fu.leastC ((b.Places.getD (((Fu.gaugeAt b.Gauges r.Gauge).Target).toNat) default).Level) r.Value.Lo)) 1125899906842624 0 1125899906842624)), iV (Fu.hiOf (Fu.meet (Fu.intOf (Fu.leastC ((b.Places.getD (((Fu.gaugeAt b.Gauges r.Gauge).Target).toNat) default).Level) r.Value.Lo)) 1125899906842624 0 1125899906842624))]) (v := .bool ((Fu.meet (Fu.intOf (Fu.leastC ((b.Places.getD (((Fu.gaugeAt b.Gauges r.Gauge).Target).toNat) default).Level) r.Value.Lo)) 1125899906842624 0 1125899906842624).isSome)) rfl rfl rfl rfl uT51 rfl sz51 rfl (Cells.blk 1 rfl) (fun w' hw => ?_)
     refine ⟨?_, hw.below rfl⟩
     rw [Fu.volR_yes hvo, Fu.volL_top (by rw [hLv]; simpa using hc3) (by rw [hLv]; simpa using hc4)]; rfl
theorem few_c (w : World) (Φ : Hp) (hΦ : Hp.le Φ (hp w)) {b : Bt.Basin} {cs : List Value} (hB : RepV Φ b cs) {h : Bt.Hull} {hcs : List Value} (hH : RepV Φ h hcs) :
  Calls pg 14 #[.agg cs.toArray, .agg hcs.toArray] w fun e w' => e = .returned (.bool (decide (Fu.Few b h))) ∧ Bel w.heap.size w w' := by
 obtain ⟨v1, v3, v4, v5, v6, v7, v8, v9, hcs, hBw, r1, r3, r4, r5, r6, r7, r8, r9⟩ := (show Rep.rep Φ b cs from hB)
 subst hcs
 have hpm : b.Places.length * 152 ≤ 140737488355328 := r3.max
 have hgm : b.Gauges.length * 48 ≤ 140737488355328 := r6.max
 obtain ⟨hv1, hv2, hv3, hhcs, hhw, hr1, hr2, hr3⟩ := (show Rep.rep Φ h hcs from hH)
 subst hhcs
 have hm1 : h.Vol.length * 16 ≤ 140737488355328 := hr1.max
 have hm2 : h.Queue.length * 32 ≤ 140737488355328 := hr2.max
 have hm3 : h.Links.length * 40 ≤ 140737488355328 := hr3.max
 refine in2 53 Tryz.func14 rfl rfl hΦ ?_
 refine gs2 ?_
 refine RW.bxA rfl rfl fun b1 => ?_
 refine RW.bxA rfl rfl fun b2 => ?_
 refine gs10 ?_
 refine AW.lp (fun s J m => ∃ (k : Nat), s = [(2, pV b1 0), (3, pV b2 0), (5, iV (k : Int))] ∧ J = St ⟨w, Φ, []⟩ Φ [.blk b2 41 [iV h.Hour, hv1, hv2, hv3], .blk b1 31 (cl31 b v1 v3 v4 v5 v6 v7 v8 v9)] ∧ m = b.Places.length - k ∧ (k ≤ b.Places.length) ∧ (k ≤ 21) ∧ (∀ j, j < k → (b.Places.getD j default).Level.length ≤ 40)) ⟨0, rfl, rfl, rfl, (by omega), (by omega), (by omega)⟩ ?_
 rintro _ _ _ _ ⟨k, rfl, rfl, rfl, hk, hk2, hall⟩
 refine gs11 ?_
 refine RW.pkA rfl rfl rfl rfl fun qb1 hqb1 => ?_
 subst hqb1
 refine gs2 ?_
 refine AW.cond rfl (fun hc1 => ?_) fun hc1 => ?_
 ·
  simp [-List.getD_eq_getElem?_getD] at hc1
  refine gs11 ?_
  obtain ⟨sv1, hsv1, hpc1⟩ := leaf71_4 r3 (k := k) (by omega)
  refine RW.q (v := sv1) rfl (q_load rfl uT68 rfl (Cell.phi hpc1)) ?_
  refine gs4 ?_
  refine AW.cond rfl (fun hc2 => ?_) fun hc2 => ?_
  ·
   simp [-List.getD_eq_getElem?_getD] at hc2
   refine gs11 ?_
   exact fin_val (v' := .bool false) rfl rfl rfl (by rw [decide_eq_false (fun hf => by have := hf.1 k (by omega) (by omega); omega)])
  ·
   simp [-List.getD_eq_getElem?_getD] at hc2
   refine gs8 ?_
   exact Post.bk ⟨k + 1, rfl, rfl, rfl, (by omega), (by omega), (Fu.lt_succ hall (by omega))⟩
 ·
  simp [-List.getD_eq_getElem?_getD] at hc1
  refine gs16 ?_
  refine RW.pkA rfl rfl rfl rfl fun qb2 hqb2 => ?_
  refine gs5 ?_
  refine RW.pkA rfl rfl rfl rfl fun qb3 hqb3 => ?_
  refine gs5 ?_
  refine RW.pkA rfl rfl rfl rfl fun qb4 hqb4 => ?_
  refine gs5 ?_
  refine RW.pkA rfl rfl rfl rfl fun qb5 hqb5 => ?_
  refine gs1 ?_
  subst hqb5 hqb4 hqb3 hqb2
  refine gs3 ?_
  exact fin_val (v' := .bool (((((decide ((b.Places.length : Int) ≤ 20)) && (decide ((b.Gauges.length : Int) ≤ 20))) && (decide ((h.Vol.length : Int) ≤ 20))) && (decide ((h.Links.length : Int) ≤ 20))) && (decide ((h.Queue.length : Int) ≤ 60)))) rfl rfl rfl (by congr 1; simp only [← Bool.decide_and, decide_eq_decide]; unfold Fu.Few; constructor <;> intro hh <;> refine ⟨?_, ?_⟩ <;> first | omega | (intro j hj hj2; exact hall j (by omega)))
end Go.Proofs.YtblfeidlnhdekaaGreat
