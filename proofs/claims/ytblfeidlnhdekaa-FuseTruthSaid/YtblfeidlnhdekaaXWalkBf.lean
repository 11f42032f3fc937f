/- Walks (part WalkBf), printed by walk2.py. Conditions: those of each theorem. -/
import Derived.Test.YtblfeidlnhdekaaXWalkBe
namespace Go.Proofs.Ytblfeidlnhdekaa
open Go Go.K Go.RowKit
set_option maxRecDepth 8000
set_option maxHeartbeats 1000000
attribute [local irreducible] AW RW DW Post Qt
def townBad (b : Bt.Basin) (k : Nat) : Bool := ((((((!(decide (0 ≤ (b.Towns.getD k default).Place ∧ (b.Towns.getD k default).Place < (b.Places.length : Int)))) || (!(decide (0 ≤ (b.Towns.getD k default).Flood ∧ (b.Towns.getD k default).Flood ≤ 1125899906842624)))) || (!(decide (0 ≤ (b.Towns.getD k default).Lead ∧ (b.Towns.getD k default).Lead ≤ 24)))) || (!(decide (0 ≤ (b.Towns.getD k default).People ∧ (b.Towns.getD k default).People ≤ 1073741824)))) || (!(decide (0 ≤ (b.Towns.getD k default).Watch ∧ (b.Towns.getD k default).Watch ≤ 1125899906842624)))) || (!(decide (0 ≤ (b.Towns.getD k default).Quorum ∧ (b.Towns.getD k default).Quorum ≤ 128))))
def shelBad (b : Bt.Basin) (k : Nat) : Bool := !(decide (0 ≤ (b.Shelters.getD k default).Room ∧ (b.Shelters.getD k default).Room ≤ 1073741824))
def RTowns (b : Bt.Basin) : Prop := (∀ k, k < b.Towns.length → townBad b k = false) ∧ ∀ k, k < b.Shelters.length → shelBad b k = false
instance (b : Bt.Basin) : Decidable (RTowns b) := inferInstanceAs (Decidable ((∀ k, k < b.Towns.length → townBad b k = false) ∧ ∀ k, k < b.Shelters.length → shelBad b k = false))
theorem rTowns_c (w : World) (Φ : Hp) (hΦ : Hp.le Φ (hp w)) {b : Bt.Basin} {cs : List Value} (hB : RepV Φ b cs)  :
  Calls Try.prog 57 #[.agg cs.toArray] w fun e w' => e = .returned (.bool (decide (RTowns b))) ∧ Bel w.heap.size w w' := by
 obtain ⟨v1, v3, v4, v5, v6, v7, v8, v9, hcs, hBw, r1, r3, r4, r5, r6, r7, r8, r9⟩ := (show Rep.rep Φ b cs from hB)
 subst hcs
 have hpm : b.Places.length * 152 ≤ 140737488355328 := r3.max
 refine calls_of_AW (args := [.agg (cl31 b v1 v3 v4 v5 v6 v7 v8 v9).toArray]) Try.func57 rfl (Nat.le_of_ble_eq_true rfl) (St ⟨w, Φ, []⟩ Φ []) (StP.init w Φ hΦ []) ?_
 show AW Try.prog 64 [] _ _ _ [(0, .agg (cl31 b v1 v3 v4 v5 v6 v7 v8 v9).toArray)] _
 have hnl : b.Name.data.toList.length ≤ 9223372036854775807 := hBw.1
 have hom : b.Owners.length * 16 ≤ 140737488355328 := r1.max
 have hlm : b.Links.length * 200 ≤ 140737488355328 := r4.max
 have htm : b.Towns.length * 64 ≤ 140737488355328 := r5.max
 have hgm_ : b.Gauges.length * 48 ≤ 140737488355328 := r6.max
 have hrm : b.Roads.length * 64 ≤ 140737488355328 := r7.max
 have hsm : b.Shelters.length * 24 ≤ 140737488355328 := r8.max
 have hom2 : b.Room.length * 8 ≤ 140737488355328 := r9.max
 refine g2 ?_
 refine RW.bxA rfl rfl fun b1 => ?_
 refine g13 ?_
 refine AW.loop (fun s J m => ∃ (k : Nat), s = [(1, pV b1 0), (8, v5), (9, iV (b.Towns.length : Int)), (10, iV (k : Int))] ∧ J = St ⟨w, Φ, []⟩ Φ [.blk b1 31 (cl31 b v1 v3 v4 v5 v6 v7 v8 v9)] ∧ m = b.Towns.length - k ∧ (k ≤ b.Towns.length) ∧ (∀ j, j < k → townBad b j = false)) (s0 := _) (J1 := _) (m0 := _) ⟨0, rfl, rfl, rfl, (by omega), (fun j hj => absurd hj (by omega))⟩ ⟨rfl, rfl, rfl, rfl, trivial⟩ (fun _ h => h) ?_
 rintro _ _ _ _ ⟨k, rfl, rfl, rfl, hk, hall⟩
 refine g6 ?_
 refine AW.cond rfl (fun hc1 => ?_) fun hc1 => ?_
 ·
  simp [-List.getD_eq_getElem?_getD, -Array.length_toList] at hc1
  refine g6 ?_
  refine RW.q (v := .pointer (some (Value.at v5 (k * 7)))) rfl (q_indexAddr rfl rfl r5.sl uT25 sz134 (by omega) (by omega) rfl) (RW.q (v := .agg (cl134 (b.Towns.getD k default)).toArray) rfl (q_loadAgg rfl uT134 rfl sz134 rfl (Cells.repE r5 (by omega) rfl)) (RW.eff (fun b2 : Nat => pV b2 0) (fun b2 => St ⟨w, Φ, []⟩ Φ [.blk b2 134 [.string (bs ([])), iV 0, iV 0, iV 0, iV 0, iV 0, iV 0], .blk b1 31 (cl31 b v1 v3 v4 v5 v6 v7 v8 v9)]) rfl (e_alloc zero134) ?_))
  intro b2
  refine RW.effn (J' := St ⟨w, Φ, []⟩ Φ [.blk b2 134 (cl134 (b.Towns.getD k default)), .blk b1 31 (cl31 b v1 v3 v4 v5 v6 v7 v8 v9)]) (e_store (v := .agg (cl134 (b.Towns.getD k default)).toArray) 0 rfl rfl rfl sz134 rfl rfl rfl rfl rfl) ?_
  refine g9 ?_
  refine RW.q (v := .bool (decide (0 ≤ (b.Towns.getD k default).Place ∧ (b.Towns.getD k default).Place < (b.Places.length : Int)))) rfl (q_call (args := #[iV ((b.Towns.getD k default).Place), iV (b.Places.length : Int)]) own84 rfl rfl (fun w1 hw1 => bIdx_c w1 (Go.K.hp w1) (Hp.le_refl _) (by omega))) ?_
  refine g4 ?_
  refine RW.g (b := (!(decide (0 ≤ (b.Towns.getD k default).Place ∧ (b.Towns.getD k default).Place < (b.Places.length : Int))))) (v := .bool (decide (0 ≤ (b.Towns.getD k default).Flood ∧ (b.Towns.getD k default).Flood ≤ 1125899906842624))) rfl rfl rfl (fun h => q_call (args := #[iV ((b.Towns.getD k default).Flood)]) own79 rfl (args1 (gv_pos h)) (fun w1 hw1 => bVol_c w1 (Go.K.hp w1) (Hp.le_refl _))) ?_
  refine g1 ?_
  obtain ⟨qb1, hqb1⟩ : ∃ z : Bool, ((!(decide (0 ≤ (b.Towns.getD k default).Place ∧ (b.Towns.getD k default).Place < (b.Places.length : Int)))) || (!(decide (0 ≤ (b.Towns.getD k default).Flood ∧ (b.Towns.getD k default).Flood ≤ 1125899906842624)))) = z := ⟨_, rfl⟩
  refine RW.q (v := .bool qb1) rfl (q_as (v := .bool ((!(decide (0 ≤ (b.Towns.getD k default).Place ∧ (b.Towns.getD k default).Place < (b.Places.length : Int)))) || (!(decide (0 ≤ (b.Towns.getD k default).Flood ∧ (b.Towns.getD k default).Flood ≤ 1125899906842624))))) (q_pick rfl (fun hp => pkOrT hp) (fun hp => (gv_pos hp).trans (pkOrF hp))) (congrArg Value.bool hqb1)) ?_
  refine g3 ?_
  refine RW.g (b := qb1) (v := .bool (decide (0 ≤ (b.Towns.getD k default).Lead ∧ (b.Towns.getD k default).Lead ≤ 24))) rfl rfl rfl (fun h => q_call (args := #[iV ((b.Towns.getD k default).Lead), iV 0, iV 24]) own78 rfl (args3 (gv_pos h) rfl rfl) (fun w1 hw1 => bIn_c w1 (Go.K.hp w1) (Hp.le_refl _))) ?_
  refine g1 ?_
  obtain ⟨qb2, hqb2⟩ : ∃ z : Bool, (qb1 || (!(decide (0 ≤ (b.Towns.getD k default).Lead ∧ (b.Towns.getD k default).Lead ≤ 24)))) = z := ⟨_, rfl⟩
  refine RW.q (v := .bool qb2) rfl (q_as (v := .bool (qb1 || (!(decide (0 ≤ (b.Towns.getD k default).Lead ∧ (b.Towns.getD k default).Lead ≤ 24))))) (q_pick rfl (fun hp => pkOrT hp) (fun hp => (gv_pos hp).trans (pkOrF hp))) (congrArg Value.bool hqb2)) ?_
  refine g3 ?_
  refine RW.g (b := qb2) (v := .bool (decide (0 ≤ (b.Towns.getD k default).People ∧ (b.Towns.getD k default).People ≤ 1073741824))) rfl rfl rfl (fun h => q_call (args := #[iV ((b.Towns.getD k default).People), iV 0, iV 1073741824]) own78 rfl (args3 (gv_pos h) rfl rfl) (fun w1 hw1 => bIn_c w1 (Go.K.hp w1) (Hp.le_refl _))) ?_
  refine g1 ?_
  obtain ⟨qb3, hqb3⟩ : ∃ z : Bool, (qb2 || (!(decide (0 ≤ (b.Towns.getD k default).People ∧ (b.Towns.getD k default).People ≤ 1073741824)))) = z := ⟨_, rfl⟩
  refine RW.q (v := .bool qb3) rfl (q_as (v := .bool (qb2 || (!(decide (0 ≤ (b.Towns.getD k default).People ∧ (b.Towns.getD k default).People ≤ 1073741824))))) (q_pick rfl (fun hp => pkOrT hp) (fun hp => (gv_pos hp).trans (pkOrF hp))) (congrArg Value.bool hqb3)) ?_
  refine g3 ?_
  refine RW.g (b := qb3) (v := .bool (decide (0 ≤ (b.Towns.getD k default).Watch ∧ (b.Towns.getD k default).Watch ≤ 1125899906842624))) rfl rfl rfl (fun h => q_call (args := #[iV ((b.Towns.getD k default).Watch)]) own79 rfl (args1 (gv_pos h)) (fun w1 hw1 => bVol_c w1 (Go.K.hp w1) (Hp.le_refl _))) ?_
  refine g1 ?_
  obtain ⟨qb4, hqb4⟩ : ∃ z : Bool, (qb3 || (!(decide (0 ≤ (b.Towns.getD k default).Watch ∧ (b.Towns.getD k default).Watch ≤ 1125899906842624)))) = z := ⟨_, rfl⟩
  refine RW.q (v := .bool qb4) rfl (q_as (v := .bool (qb3 || (!(decide (0 ≤ (b.Towns.getD k default).Watch ∧ (b.Towns.getD k default).Watch ≤ 1125899906842624))))) (q_pick rfl (fun hp => pkOrT hp) (fun hp => (gv_pos hp).trans (pkOrF hp))) (congrArg Value.bool hqb4)) ?_
  refine g3 ?_
  refine RW.g (b := qb4) (v := .bool (decide (0 ≤ (b.Towns.getD k default).Quorum ∧ (b.Towns.getD k default).Quorum ≤ 128))) rfl rfl rfl (fun h => q_call (args := #[iV ((b.Towns.getD k default).Quorum), iV 0, iV 128]) own78 rfl (args3 (gv_pos h) rfl rfl) (fun w1 hw1 => bIn_c w1 (Go.K.hp w1) (Hp.le_refl _))) ?_
  refine g1 ?_
  obtain ⟨qb5, hqb5⟩ : ∃ z : Bool, (qb4 || (!(decide (0 ≤ (b.Towns.getD k default).Quorum ∧ (b.Towns.getD k default).Quorum ≤ 128)))) = z := ⟨_, rfl⟩
  refine RW.q (v := .bool qb5) rfl (q_as (v := .bool (qb4 || (!(decide (0 ≤ (b.Towns.getD k default).Quorum ∧ (b.Towns.getD k default).Quorum ≤ 128))))) (q_pick rfl (fun hp => pkOrT hp) (fun hp => (gv_pos hp).trans (pkOrF hp))) (congrArg Value.bool hqb5)) ?_
  subst hqb5 hqb4 hqb3 hqb2 hqb1
  refine g2 ?_
  refine AW.cond rfl (fun hc2 => ?_) fun hc2 => ?_
  ·
   refine g11 ?_
   exact fin_val (v' := .bool false) rfl rfl rfl (congrArg Value.bool (decide_eq_false (fun h9 => Bool.noConfusion ((h9.1 k (by omega)).symm.trans hc2))).symm)
  ·
   refine g7 ?_
   exact Post.back (s' := _) (J' := _) (m' := _) (by omega) ⟨k + 1, rfl, rfl, rfl, (by omega), (Fu.lt_succ hall hc2)⟩ ⟨rfl, rfl, rfl, rfl, trivial⟩ (fun _ h => StP.drop h (by exact .cons _ (.cons_cons _ (.slnil))))
 ·
  simp [-List.getD_eq_getElem?_getD, -Array.length_toList] at hc1
  refine g15 ?_
  refine AW.loop (fun s J m => ∃ (k : Nat), s = [(53, v8), (54, iV (b.Shelters.length : Int)), (55, iV (k : Int))] ∧ J = St ⟨w, Φ, []⟩ Φ [.blk b1 31 (cl31 b v1 v3 v4 v5 v6 v7 v8 v9)] ∧ m = b.Shelters.length - k ∧ (k ≤ b.Shelters.length) ∧ (∀ j, j < k → shelBad b j = false)) (s0 := _) (J1 := _) (m0 := _) ⟨0, rfl, rfl, rfl, (by omega), (fun j hj => absurd hj (by omega))⟩ ⟨rfl, rfl, rfl, trivial⟩ (fun _ h => h) ?_
  rintro _ _ _ _ ⟨k, rfl, rfl, rfl, hk, hal2⟩
  refine g6 ?_
  refine AW.cond rfl (fun hc3 => ?_) fun hc3 => ?_
  ·
   simp [-List.getD_eq_getElem?_getD, -Array.length_toList] at hc3
   refine g6 ?_
   refine RW.q (v := .pointer (some (Value.at v8 (k * 2)))) rfl (q_indexAddr rfl rfl r8.sl uT28 sz136 (by omega) (by omega) rfl) (RW.q (v := .agg #[.string ((b.Shelters.getD k default).Name), iV ((b.Shelters.getD k default).Room)]) rfl (q_loadAgg rfl uT136 rfl sz136 rfl (Cells.repE r8 (by omega) rfl)) (RW.eff (fun b3 : Nat => pV b3 0) (fun b3 => St ⟨w, Φ, []⟩ Φ [.blk b3 136 [.string (bs ([])), iV 0], .blk b1 31 (cl31 b v1 v3 v4 v5 v6 v7 v8 v9)]) rfl (e_alloc zero136) ?_))
   intro b3
   refine RW.effn (J' := St ⟨w, Φ, []⟩ Φ [.blk b3 136 [.string ((b.Shelters.getD k default).Name), iV ((b.Shelters.getD k default).Room)], .blk b1 31 (cl31 b v1 v3 v4 v5 v6 v7 v8 v9)]) (e_store (v := .agg #[.string ((b.Shelters.getD k default).Name), iV ((b.Shelters.getD k default).Room)]) 0 rfl rfl rfl sz136 rfl rfl rfl rfl rfl) ?_
   refine g6 ?_
   refine RW.q (v := .bool (decide (0 ≤ (b.Shelters.getD k default).Room ∧ (b.Shelters.getD k default).Room ≤ 1073741824))) rfl (q_call (args := #[iV ((b.Shelters.getD k default).Room), iV 0, iV 1073741824]) own78 rfl rfl (fun w1 hw1 => bIn_c w1 (Go.K.hp w1) (Hp.le_refl _))) ?_
   refine g3 ?_
   refine AW.cond rfl (fun hc4 => ?_) fun hc4 => ?_
   ·
    refine g11 ?_
    exact fin_val (v' := .bool false) rfl rfl rfl (congrArg Value.bool (decide_eq_false (fun h9 => Bool.noConfusion ((h9.2 k (by omega)).symm.trans hc4))).symm)
   ·
    refine g7 ?_
    exact Post.back (s' := _) (J' := _) (m' := _) (by omega) ⟨k + 1, rfl, rfl, rfl, (by omega), (Fu.lt_succ hal2 hc4)⟩ ⟨rfl, rfl, rfl, trivial⟩ (fun _ h => StP.drop h (by exact .cons _ (.cons_cons _ (.slnil))))
  ·
   simp [-List.getD_eq_getElem?_getD, -Array.length_toList] at hc3
   refine g11 ?_
   exact fin_val (v' := .bool true) rfl rfl rfl (congrArg Value.bool (decide_eq_true (show RTowns b from ⟨fun j hj => hall j (by omega), fun j hj => hal2 j (by omega)⟩)).symm)
theorem sz145 : (Try.prog.info? 145).map (·.size) = some 3 := by kernel_rfl
theorem zero145 : (Try.prog.info? 145).map (·.zero) = some (some (.agg #[iV 0, iV 0, iV 0])) := by kernel_rfl
def gaugeBad (b : Bt.Basin) (k : Nat) : Bool := (((!(decide (0 ≤ (b.Gauges.getD k default).Kind ∧ (b.Gauges.getD k default).Kind ≤ 2))) || (!(decide (0 ≤ (b.Gauges.getD k default).Err ∧ (b.Gauges.getD k default).Err ≤ 1099511627776)))) || (!(decide (0 ≤ (b.Gauges.getD k default).Drift ∧ (b.Gauges.getD k default).Drift ≤ 1440))))
def tgBad (b : Bt.Basin) (k : Nat) : Bool := if (b.Gauges.getD k default).Kind = 0 then !(decide (0 ≤ (b.Gauges.getD k default).Target ∧ (b.Gauges.getD k default).Target < (b.Places.length : Int))) else if (b.Gauges.getD k default).Kind = 1 then !(decide (0 ≤ (b.Gauges.getD k default).Target ∧ (b.Gauges.getD k default).Target < b.Cells)) else !(decide (0 ≤ (b.Gauges.getD k default).Target ∧ (b.Gauges.getD k default).Target < (b.Links.length : Int)))
def RGauges (b : Bt.Basin) : Prop := ∀ k, k < b.Gauges.length → gaugeBad b k = false ∧ tgBad b k = false
instance (b : Bt.Basin) : Decidable (RGauges b) := inferInstanceAs (Decidable (∀ k, k < b.Gauges.length → gaugeBad b k = false ∧ tgBad b k = false))
theorem rGauges_c (w : World) (Φ : Hp) (hΦ : Hp.le Φ (hp w)) {b : Bt.Basin} {cs : List Value} (hB : RepV Φ b cs) (hh : RHead b) :
  Calls Try.prog 58 #[.agg cs.toArray] w fun e w' => e = .returned (.bool (decide (RGauges b))) ∧ Bel w.heap.size w w' := by
 obtain ⟨v1, v3, v4, v5, v6, v7, v8, v9, hcs, hBw, r1, r3, r4, r5, r6, r7, r8, r9⟩ := (show Rep.rep Φ b cs from hB)
 subst hcs
 have hpm : b.Places.length * 152 ≤ 140737488355328 := r3.max
 refine calls_of_AW (args := [.agg (cl31 b v1 v3 v4 v5 v6 v7 v8 v9).toArray]) Try.func58 rfl (Nat.le_of_ble_eq_true rfl) (St ⟨w, Φ, []⟩ Φ []) (StP.init w Φ hΦ []) ?_
 show AW Try.prog 47 [] _ _ _ [(0, .agg (cl31 b v1 v3 v4 v5 v6 v7 v8 v9).toArray)] _
 have hnl : b.Name.data.toList.length ≤ 9223372036854775807 := hBw.1
 have hom : b.Owners.length * 16 ≤ 140737488355328 := r1.max
 have hlm : b.Links.length * 200 ≤ 140737488355328 := r4.max
 have htm : b.Towns.length * 64 ≤ 140737488355328 := r5.max
 have hgm_ : b.Gauges.length * 48 ≤ 140737488355328 := r6.max
 have hrm : b.Roads.length * 64 ≤ 140737488355328 := r7.max
 have hsm : b.Shelters.length * 24 ≤ 140737488355328 := r8.max
 have hom2 : b.Room.length * 8 ≤ 140737488355328 := r9.max
 have hdb := hh.1
 unfold headBad at hdb
 simp [-List.getD_eq_getElem?_getD, -Array.length_toList] at hdb
 refine g2 ?_
 refine RW.bxA rfl rfl fun b1 => ?_
 refine g13 ?_
 refine AW.loop (fun s J m => ∃ (k : Nat), s = [(1, pV b1 0), (7, v6), (8, iV (b.Gauges.length : Int)), (9, iV (k : Int))] ∧ J = St ⟨w, Φ, []⟩ Φ [.blk b1 31 (cl31 b v1 v3 v4 v5 v6 v7 v8 v9)] ∧ m = b.Gauges.length - k ∧ (k ≤ b.Gauges.length) ∧ (∀ j, j < k → gaugeBad b j = false ∧ tgBad b j = false)) (s0 := _) (J1 := _) (m0 := _) ⟨0, rfl, rfl, rfl, (by omega), (fun j hj => absurd hj (by omega))⟩ ⟨rfl, rfl, rfl, rfl, trivial⟩ (fun _ h => h) ?_
 rintro _ _ _ _ ⟨k, rfl, rfl, rfl, hk, hall⟩
 refine g6 ?_
 refine AW.cond rfl (fun hc1 => ?_) fun hc1 => ?_
 ·
  simp [-List.getD_eq_getElem?_getD, -Array.length_toList] at hc1
  refine g6 ?_
  refine RW.q (v := .pointer (some (Value.at v6 (k * 5)))) rfl (q_indexAddr rfl rfl r6.sl uT26 sz58 (by omega) (by omega) rfl) (RW.q (v := .agg (cl58 (b.Gauges.getD k default)).toArray) rfl (q_loadAgg rfl uT58 rfl sz58 rfl (Cells.repE r6 (by omega) rfl)) ?_)
  refine RW.alc rfl fun b2 => ?_
  refine RW.effn (J' := St ⟨w, Φ, []⟩ Φ [.blk b2 58 (cl58 (b.Gauges.getD k default)), .blk b1 31 (cl31 b v1 v3 v4 v5 v6 v7 v8 v9)]) (e_store (v := .agg (cl58 (b.Gauges.getD k default)).toArray) 0 rfl rfl rfl sz58 rfl rfl rfl rfl rfl) ?_
  refine g7 ?_
  refine RW.q (v := .bool (decide (0 ≤ (b.Gauges.getD k default).Kind ∧ (b.Gauges.getD k default).Kind ≤ 2))) rfl (q_call (args := #[iV ((b.Gauges.getD k default).Kind), iV 0, iV 2]) own78 rfl rfl (fun w1 hw1 => bIn_c w1 (Go.K.hp w1) (Hp.le_refl _))) ?_
  refine g4 ?_
  refine RW.g (b := (!(decide (0 ≤ (b.Gauges.getD k default).Kind ∧ (b.Gauges.getD k default).Kind ≤ 2)))) (v := .bool (decide (0 ≤ (b.Gauges.getD k default).Err ∧ (b.Gauges.getD k default).Err ≤ 1099511627776))) rfl rfl rfl (fun h => q_call (args := #[iV ((b.Gauges.getD k default).Err), iV 0, iV 1099511627776]) own78 rfl (args3 (gv_pos h) rfl rfl) (fun w1 hw1 => bIn_c w1 (Go.K.hp w1) (Hp.le_refl _))) ?_
  refine g1 ?_
  obtain ⟨qb1, hqb1⟩ : ∃ z : Bool, ((!(decide (0 ≤ (b.Gauges.getD k default).Kind ∧ (b.Gauges.getD k default).Kind ≤ 2))) || (!(decide (0 ≤ (b.Gauges.getD k default).Err ∧ (b.Gauges.getD k default).Err ≤ 1099511627776)))) = z := ⟨_, rfl⟩
  refine RW.q (v := .bool qb1) rfl (q_as (v := .bool ((!(decide (0 ≤ (b.Gauges.getD k default).Kind ∧ (b.Gauges.getD k default).Kind ≤ 2))) || (!(decide (0 ≤ (b.Gauges.getD k default).Err ∧ (b.Gauges.getD k default).Err ≤ 1099511627776))))) (q_pick rfl (fun hp => pkOrT hp) (fun hp => (gv_pos hp).trans (pkOrF hp))) (congrArg Value.bool hqb1)) ?_
  refine g3 ?_
  refine RW.g (b := qb1) (v := .bool (decide (0 ≤ (b.Gauges.getD k default).Drift ∧ (b.Gauges.getD k default).Drift ≤ 1440))) rfl rfl rfl (fun h => q_call (args := #[iV ((b.Gauges.getD k default).Drift), iV 0, iV 1440]) own78 rfl (args3 (gv_pos h) rfl rfl) (fun w1 hw1 => bIn_c w1 (Go.K.hp w1) (Hp.le_refl _))) ?_
  refine g1 ?_
  obtain ⟨qb2, hqb2⟩ : ∃ z : Bool, (qb1 || (!(decide (0 ≤ (b.Gauges.getD k default).Drift ∧ (b.Gauges.getD k default).Drift ≤ 1440)))) = z := ⟨_, rfl⟩
  refine RW.q (v := .bool qb2) rfl (q_as (v := .bool (qb1 || (!(decide (0 ≤ (b.Gauges.getD k default).Drift ∧ (b.Gauges.getD k default).Drift ≤ 1440))))) (q_pick rfl (fun hp => pkOrT hp) (fun hp => (gv_pos hp).trans (pkOrF hp))) (congrArg Value.bool hqb2)) ?_
  subst hqb2 hqb1
  refine g2 ?_
  refine AW.cond rfl (fun hc2 => ?_) fun hc2 => ?_
  ·
   refine g12 ?_
   exact fin_val (v' := .bool false) rfl rfl rfl (congrArg Value.bool (decide_eq_false (fun h9 => Bool.noConfusion (((h9 k (by omega)).1).symm.trans hc2))).symm)
  ·
   refine g12 ?_
   refine RW.q (v := .agg #[iV (b.Places.length : Int), iV b.Cells, iV (b.Links.length : Int)]) rfl (q_buildArr (vals := [(0, iV (b.Places.length : Int)), (1, iV b.Cells), (2, iV (b.Links.length : Int))]) zero145 uT145 sz3 rfl rfl) (RW.eff (fun b3 : Nat => pV b3 0) (fun b3 => St ⟨w, Φ, []⟩ Φ [.blk b3 145 [iV 0, iV 0, iV 0], .blk b2 58 (cl58 (b.Gauges.getD k default)), .blk b1 31 (cl31 b v1 v3 v4 v5 v6 v7 v8 v9)]) rfl (e_alloc zero145) ?_)
   intro b3
   refine RW.effn (J' := St ⟨w, Φ, []⟩ Φ [.blk b3 145 [iV (b.Places.length : Int), iV b.Cells, iV (b.Links.length : Int)], .blk b2 58 (cl58 (b.Gauges.getD k default)), .blk b1 31 (cl31 b v1 v3 v4 v5 v6 v7 v8 v9)]) (e_store (v := .agg #[iV (b.Places.length : Int), iV b.Cells, iV (b.Links.length : Int)]) 0 rfl rfl rfl sz145 rfl rfl rfl rfl rfl) ?_
   refine g3 ?_
   rcases (show (b.Gauges.getD k default).Kind = 0 ∨ (b.Gauges.getD k default).Kind = 1 ∨ (b.Gauges.getD k default).Kind = 2 by have h9 := hc2; simp [-List.getD_eq_getElem?_getD, -Array.length_toList] at h9; omega) with hK | hK | hK
   ·
    refine AW.draw (J0 := St ⟨w, Φ, []⟩ Φ [.blk b3 145 [iV (b.Places.length : Int), iV b.Cells, iV (b.Links.length : Int)], .blk b2 58 (cl58 (b.Gauges.getD k default)), .blk b1 31 (cl31 b v1 v3 v4 v5 v6 v7 v8 v9)]) [.q, .q, .q, .q, .q, .q, .q, .q] [0, 1, 2, 3, 4, 5, 6, 7] hmix (by kernel_rfl) ?_
    refine g3 ?_
    refine DW.q (v := iV (0 : Int)) (fun _ h => h) rfl (q_as (v := iV ((b.Gauges.getD k default).Kind)) (q_load rfl uT3 rfl (Cell.blk 1 rfl rfl)) (congrArg (Value.int .i64) (hK))) (DW.q (v := pV b3 0) (fun _ h => h) rfl (q_indexAddrA (i := ((0 : Nat) : Int)) rfl rfl uT145 sz3 (by decide) (by decide) rfl) ?_)
    refine g1 ?_
    refine DW.q (v := .bool (decide (0 ≤ (b.Gauges.getD k default).Target ∧ (b.Gauges.getD k default).Target < (b.Places.length : Int)))) (fun _ h => h) rfl (q_call (args := #[iV ((b.Gauges.getD k default).Target), iV (b.Places.length : Int)]) own84 rfl rfl (fun w1 hw1 => bIdx_c w1 (Go.K.hp w1) (Hp.le_refl _) (by omega))) ?_
    refine g3 ?_
    refine AW.cond rfl (fun hc3 => ?_) fun hc3 => ?_
    ·
     refine g11 ?_
     exact fin_val (v' := .bool false) rfl rfl rfl (congrArg Value.bool (decide_eq_false (fun h9 => by have h8 := (h9 k (by omega)).2; unfold tgBad at h8; rw [if_pos hK] at h8; exact Bool.noConfusion (h8.symm.trans hc3))).symm)
    ·
     refine g7 ?_
     exact Post.back (s' := _) (J' := _) (m' := _) (by omega) ⟨k + 1, rfl, rfl, rfl, (by omega), (Fu.lt_succ hall ⟨hc2, by unfold tgBad; rw [if_pos hK]; exact hc3⟩)⟩ ⟨rfl, rfl, rfl, rfl, trivial⟩ (fun _ h => StP.drop h (by exact .cons _ (.cons _ (.cons_cons _ (.slnil)))))
   ·
    refine AW.draw (J0 := St ⟨w, Φ, []⟩ Φ [.blk b3 145 [iV (b.Places.length : Int), iV b.Cells, iV (b.Links.length : Int)], .blk b2 58 (cl58 (b.Gauges.getD k default)), .blk b1 31 (cl31 b v1 v3 v4 v5 v6 v7 v8 v9)]) [.q, .q, .q, .q, .q, .q, .q, .q] [0, 1, 2, 3, 4, 5, 6, 7] hmix (by kernel_rfl) ?_
    refine g3 ?_
    refine DW.q (v := iV (1 : Int)) (fun _ h => h) rfl (q_as (v := iV ((b.Gauges.getD k default).Kind)) (q_load rfl uT3 rfl (Cell.blk 1 rfl rfl)) (congrArg (Value.int .i64) (hK))) (DW.q (v := pV b3 1) (fun _ h => h) rfl (q_indexAddrA (i := ((1 : Nat) : Int)) rfl rfl uT145 sz3 (by decide) (by decide) rfl) ?_)
    refine g1 ?_
    refine DW.q (v := .bool (decide (0 ≤ (b.Gauges.getD k default).Target ∧ (b.Gauges.getD k default).Target < b.Cells))) (fun _ h => h) rfl (q_call (args := #[iV ((b.Gauges.getD k default).Target), iV b.Cells]) own84 rfl rfl (fun w1 hw1 => bIdx_c w1 (Go.K.hp w1) (Hp.le_refl _) (by omega))) ?_
    refine g3 ?_
    refine AW.cond rfl (fun hc4 => ?_) fun hc4 => ?_
    ·
     refine g11 ?_
     exact fin_val (v' := .bool false) rfl rfl rfl (congrArg Value.bool (decide_eq_false (fun h9 => by have h8 := (h9 k (by omega)).2; unfold tgBad at h8; rw [if_neg (by omega), if_pos hK] at h8; exact Bool.noConfusion (h8.symm.trans hc4))).symm)
    ·
     refine g7 ?_
     exact Post.back (s' := _) (J' := _) (m' := _) (by omega) ⟨k + 1, rfl, rfl, rfl, (by omega), (Fu.lt_succ hall ⟨hc2, by unfold tgBad; rw [if_neg (by omega), if_pos hK]; exact hc4⟩)⟩ ⟨rfl, rfl, rfl, rfl, trivial⟩ (fun _ h => StP.drop h (by exact .cons _ (.cons _ (.cons_cons _ (.slnil)))))
   ·
    refine AW.draw (J0 := St ⟨w, Φ, []⟩ Φ [.blk b3 145 [iV (b.Places.length : Int), iV b.Cells, iV (b.Links.length : Int)], .blk b2 58 (cl58 (b.Gauges.getD k default)), .blk b1 31 (cl31 b v1 v3 v4 v5 v6 v7 v8 v9)]) [.q, .q, .q, .q, .q, .q, .q, .q] [0, 1, 2, 3, 4, 5, 6, 7] hmix (by kernel_rfl) ?_
    refine g3 ?_
    refine DW.q (v := iV (2 : Int)) (fun _ h => h) rfl (q_as (v := iV ((b.Gauges.getD k default).Kind)) (q_load rfl uT3 rfl (Cell.blk 1 rfl rfl)) (congrArg (Value.int .i64) (hK))) (DW.q (v := pV b3 2) (fun _ h => h) rfl (q_indexAddrA (i := ((2 : Nat) : Int)) rfl rfl uT145 sz3 (by decide) (by decide) rfl) ?_)
    refine g1 ?_
    refine DW.q (v := .bool (decide (0 ≤ (b.Gauges.getD k default).Target ∧ (b.Gauges.getD k default).Target < (b.Links.length : Int)))) (fun _ h => h) rfl (q_call (args := #[iV ((b.Gauges.getD k default).Target), iV (b.Links.length : Int)]) own84 rfl rfl (fun w1 hw1 => bIdx_c w1 (Go.K.hp w1) (Hp.le_refl _) (by omega))) ?_
    refine g3 ?_
    refine AW.cond rfl (fun hc5 => ?_) fun hc5 => ?_
    ·
     refine g11 ?_
     exact fin_val (v' := .bool false) rfl rfl rfl (congrArg Value.bool (decide_eq_false (fun h9 => by have h8 := (h9 k (by omega)).2; unfold tgBad at h8; rw [if_neg (by omega), if_neg (by omega)] at h8; exact Bool.noConfusion (h8.symm.trans hc5))).symm)
    ·
     refine g7 ?_
     exact Post.back (s' := _) (J' := _) (m' := _) (by omega) ⟨k + 1, rfl, rfl, rfl, (by omega), (Fu.lt_succ hall ⟨hc2, by unfold tgBad; rw [if_neg (by omega), if_neg (by omega)]; exact hc5⟩)⟩ ⟨rfl, rfl, rfl, rfl, trivial⟩ (fun _ h => StP.drop h (by exact .cons _ (.cons _ (.cons_cons _ (.slnil)))))
 ·
  simp [-List.getD_eq_getElem?_getD, -Array.length_toList] at hc1
  refine g11 ?_
  exact fin_val (v' := .bool true) rfl rfl rfl (congrArg Value.bool (decide_eq_true (show RGauges b from fun j hj => hall j (by omega))).symm)
def roadBad (b : Bt.Basin) (k : Nat) : Bool := ((((((!(decide (0 ≤ (b.Roads.getD k default).From ∧ (b.Roads.getD k default).From < (b.Towns.length : Int)))) || (!(decide (0 ≤ (b.Roads.getD k default).To ∧ (b.Roads.getD k default).To < ((b.Towns.length + b.Shelters.length : Nat) : Int))))) || (decide ((b.Roads.getD k default).From = (b.Roads.getD k default).To))) || (!(decide (1 ≤ (b.Roads.getD k default).Hours ∧ (b.Roads.getD k default).Hours ≤ 24)))) || (!(decide (0 ≤ (b.Roads.getD k default).Flow ∧ (b.Roads.getD k default).Flow ≤ 1073741824)))) || (!(decide (0 ≤ (b.Roads.getD k default).Limit ∧ (b.Roads.getD k default).Limit ≤ 1125899906842624))))
def roadBa2 (b : Bt.Basin) (k : Nat) : Bool := ((decide ((b.Roads.getD k default).By = (-1))) && (!decide ((b.Roads.getD k default).Limit = 0))) || ((!decide ((b.Roads.getD k default).By = (-1))) && (!(decide (0 ≤ (b.Roads.getD k default).By ∧ (b.Roads.getD k default).By < (b.Places.length : Int)))))
def RRoads (b : Bt.Basin) : Prop := ∀ k, k < b.Roads.length → roadBad b k = false ∧ roadBa2 b k = false
instance (b : Bt.Basin) : Decidable (RRoads b) := inferInstanceAs (Decidable (∀ k, k < b.Roads.length → roadBad b k = false ∧ roadBa2 b k = false))
theorem rRoads_c (w : World) (Φ : Hp) (hΦ : Hp.le Φ (hp w)) {b : Bt.Basin} {cs : List Value} (hB : RepV Φ b cs)  :
  Calls Try.prog 59 #[.agg cs.toArray] w fun e w' => e = .returned (.bool (decide (RRoads b))) ∧ Bel w.heap.size w w' := by
 obtain ⟨v1, v3, v4, v5, v6, v7, v8, v9, hcs, hBw, r1, r3, r4, r5, r6, r7, r8, r9⟩ := (show Rep.rep Φ b cs from hB)
 subst hcs
 have hpm : b.Places.length * 152 ≤ 140737488355328 := r3.max
 refine calls_of_AW (args := [.agg (cl31 b v1 v3 v4 v5 v6 v7 v8 v9).toArray]) Try.func59 rfl (Nat.le_of_ble_eq_true rfl) (St ⟨w, Φ, []⟩ Φ []) (StP.init w Φ hΦ []) ?_
 show AW Try.prog 80 [] _ _ _ [(0, .agg (cl31 b v1 v3 v4 v5 v6 v7 v8 v9).toArray)] _
 have hnl : b.Name.data.toList.length ≤ 9223372036854775807 := hBw.1
 have hom : b.Owners.length * 16 ≤ 140737488355328 := r1.max
 have hlm : b.Links.length * 200 ≤ 140737488355328 := r4.max
 have htm : b.Towns.length * 64 ≤ 140737488355328 := r5.max
 have hgm_ : b.Gauges.length * 48 ≤ 140737488355328 := r6.max
 have hrm : b.Roads.length * 64 ≤ 140737488355328 := r7.max
 have hsm : b.Shelters.length * 24 ≤ 140737488355328 := r8.max
 have hom2 : b.Room.length * 8 ≤ 140737488355328 := r9.max
 refine g2 ?_
 refine RW.bxA rfl rfl fun b1 => ?_
 refine g13 ?_
 refine AW.loop (fun s J m => ∃ (k : Nat), s = [(1, pV b1 0), (6, v7), (7, iV (b.Roads.length : Int)), (8, iV (k : Int))] ∧ J = St ⟨w, Φ, []⟩ Φ [.blk b1 31 (cl31 b v1 v3 v4 v5 v6 v7 v8 v9)] ∧ m = b.Roads.length - k ∧ (k ≤ b.Roads.length) ∧ (∀ j, j < k → roadBad b j = false ∧ roadBa2 b j = false)) (s0 := _) (J1 := _) (m0 := _) ⟨0, rfl, rfl, rfl, (by omega), (fun j hj => absurd hj (by omega))⟩ ⟨rfl, rfl, rfl, rfl, trivial⟩ (fun _ h => h) ?_
 rintro _ _ _ _ ⟨k, rfl, rfl, rfl, hk, hall⟩
 refine g6 ?_
 refine AW.cond rfl (fun hc1 => ?_) fun hc1 => ?_
 ·
  simp [-List.getD_eq_getElem?_getD, -Array.length_toList] at hc1
  refine g6 ?_
  refine RW.q (v := .pointer (some (Value.at v7 (k * 7)))) rfl (q_indexAddr rfl rfl r7.sl uT27 sz138 (by omega) (by omega) rfl) (RW.q (v := .agg (cl138 (b.Roads.getD k default)).toArray) rfl (q_loadAgg rfl uT138 rfl sz138 rfl (Cells.repE r7 (by omega) rfl)) (RW.eff (fun b2 : Nat => pV b2 0) (fun b2 => St ⟨w, Φ, []⟩ Φ [.blk b2 138 [.string (bs ([])), iV 0, iV 0, iV 0, iV 0, iV 0, iV 0], .blk b1 31 (cl31 b v1 v3 v4 v5 v6 v7 v8 v9)]) rfl (e_alloc zero138) ?_))
  intro b2
  refine RW.effn (J' := St ⟨w, Φ, []⟩ Φ [.blk b2 138 (cl138 (b.Roads.getD k default)), .blk b1 31 (cl31 b v1 v3 v4 v5 v6 v7 v8 v9)]) (e_store (v := .agg (cl138 (b.Roads.getD k default)).toArray) 0 rfl rfl rfl sz138 rfl rfl rfl rfl rfl) ?_
  refine g10 ?_
  refine RW.q (v := .bool (decide (0 ≤ (b.Roads.getD k default).From ∧ (b.Roads.getD k default).From < (b.Towns.length : Int)))) rfl (q_call (args := #[iV ((b.Roads.getD k default).From), iV (b.Towns.length : Int)]) own84 rfl rfl (fun w1 hw1 => bIdx_c w1 (Go.K.hp w1) (Hp.le_refl _) (by omega))) (RW.q (v := .bool (!(decide (0 ≤ (b.Roads.getD k default).From ∧ (b.Roads.getD k default).From < (b.Towns.length : Int))))) rfl (q_not rfl) (RW.q (v := .bool (!(decide (0 ≤ (b.Roads.getD k default).From ∧ (b.Roads.getD k default).From < (b.Towns.length : Int))))) rfl (q_move rfl) (RW.g (b := (!(decide (0 ≤ (b.Roads.getD k default).From ∧ (b.Roads.getD k default).From < (b.Towns.length : Int))))) (v := pV b2 2) rfl rfl rfl (fun h => q_fieldAddr rfl uT138 rfl sz3 rfl) (RW.g (b := (!(decide (0 ≤ (b.Roads.getD k default).From ∧ (b.Roads.getD k default).From < (b.Towns.length : Int))))) (v := iV ((b.Roads.getD k default).To)) rfl rfl rfl (fun h => q_load (gv_pos h) uT3 rfl (Cell.blk 0 rfl rfl)) (RW.g (b := (!(decide (0 ≤ (b.Roads.getD k default).From ∧ (b.Roads.getD k default).From < (b.Towns.length : Int))))) (v := pV b1 5) rfl rfl rfl (fun h => q_fieldAddr rfl uT31 rfl sz25 rfl) (RW.g (b := (!(decide (0 ≤ (b.Roads.getD k default).From ∧ (b.Roads.getD k default).From < (b.Towns.length : Int))))) (v := v5) rfl rfl rfl (fun h => q_load (gv_pos h) uT25 rfl (Cell.blk 1 rfl rfl)) (RW.g (b := (!(decide (0 ≤ (b.Roads.getD k default).From ∧ (b.Roads.getD k default).From < (b.Towns.length : Int))))) (v := iV (b.Towns.length : Int)) rfl rfl rfl (fun h => q_len_sl (gv_pos h) r5.sl uT25) (RW.g (b := (!(decide (0 ≤ (b.Roads.getD k default).From ∧ (b.Roads.getD k default).From < (b.Towns.length : Int))))) (v := pV b1 8) rfl rfl rfl (fun h => q_fieldAddr rfl uT31 rfl sz28 rfl) (RW.g (b := (!(decide (0 ≤ (b.Roads.getD k default).From ∧ (b.Roads.getD k default).From < (b.Towns.length : Int))))) (v := v8) rfl rfl rfl (fun h => q_load (gv_pos h) uT28 rfl (Cell.blk 1 rfl rfl)) ?_)))))))))
  refine RW.g (b := (!(decide (0 ≤ (b.Roads.getD k default).From ∧ (b.Roads.getD k default).From < (b.Towns.length : Int))))) (v := iV (b.Shelters.length : Int)) rfl rfl rfl (fun h => q_len_sl (gv_pos h) r8.sl uT28) (RW.g (b := (!(decide (0 ≤ (b.Roads.getD k default).From ∧ (b.Roads.getD k default).From < (b.Towns.length : Int))))) (v := iV ((b.Towns.length + b.Shelters.length : Nat) : Int)) rfl rfl rfl (fun h => q_add (gv_pos h) (gv_pos h) (by (try simp [-List.getD_eq_getElem?_getD, -Array.length_toList] at h); omega) (by (try simp [-List.getD_eq_getElem?_getD, -Array.length_toList] at h); unfold I64; omega)) ?_)
  refine RW.g (b := (!(decide (0 ≤ (b.Roads.getD k default).From ∧ (b.Roads.getD k default).From < (b.Towns.length : Int))))) (v := .bool (decide (0 ≤ (b.Roads.getD k default).To ∧ (b.Roads.getD k default).To < ((b.Towns.length + b.Shelters.length : Nat) : Int)))) rfl rfl rfl (fun h => q_call (args := #[iV ((b.Roads.getD k default).To), iV ((b.Towns.length + b.Shelters.length : Nat) : Int)]) own84 rfl (args2 (gv_pos h) (gv_pos h)) (fun w1 hw1 => bIdx_c w1 (Go.K.hp w1) (Hp.le_refl _) (by (try simp [-List.getD_eq_getElem?_getD, -Array.length_toList] at h); omega))) ?_
  refine g1 ?_
  obtain ⟨qb1, hqb1⟩ : ∃ z : Bool, ((!(decide (0 ≤ (b.Roads.getD k default).From ∧ (b.Roads.getD k default).From < (b.Towns.length : Int)))) || (!(decide (0 ≤ (b.Roads.getD k default).To ∧ (b.Roads.getD k default).To < ((b.Towns.length + b.Shelters.length : Nat) : Int))))) = z := ⟨_, rfl⟩
  refine RW.q (v := .bool qb1) rfl (q_as (v := .bool ((!(decide (0 ≤ (b.Roads.getD k default).From ∧ (b.Roads.getD k default).From < (b.Towns.length : Int)))) || (!(decide (0 ≤ (b.Roads.getD k default).To ∧ (b.Roads.getD k default).To < ((b.Towns.length + b.Shelters.length : Nat) : Int)))))) (q_pick rfl (fun hp => pkOrT hp) (fun hp => (gv_pos hp).trans (pkOrF hp))) (congrArg Value.bool hqb1)) ?_
  refine g6 ?_
  obtain ⟨qb2, hqb2⟩ : ∃ z : Bool, (qb1 || (decide ((b.Roads.getD k default).From = (b.Roads.getD k default).To))) = z := ⟨_, rfl⟩
  refine RW.q (v := .bool qb2) rfl (q_as (v := .bool (qb1 || (decide ((b.Roads.getD k default).From = (b.Roads.getD k default).To)))) (q_pick rfl (fun hp => pkOrT hp) (fun hp => (gv_pos hp).trans (pkOrF hp))) (congrArg Value.bool hqb2)) ?_
  refine g3 ?_
  refine RW.g (b := qb2) (v := .bool (decide (1 ≤ (b.Roads.getD k default).Hours ∧ (b.Roads.getD k default).Hours ≤ 24))) rfl rfl rfl (fun h => q_call (args := #[iV ((b.Roads.getD k default).Hours), iV 1, iV 24]) own78 rfl (args3 (gv_pos h) rfl rfl) (fun w1 hw1 => bIn_c w1 (Go.K.hp w1) (Hp.le_refl _))) ?_
  refine g1 ?_
  obtain ⟨qb3, hqb3⟩ : ∃ z : Bool, (qb2 || (!(decide (1 ≤ (b.Roads.getD k default).Hours ∧ (b.Roads.getD k default).Hours ≤ 24)))) = z := ⟨_, rfl⟩
  refine RW.q (v := .bool qb3) rfl (q_as (v := .bool (qb2 || (!(decide (1 ≤ (b.Roads.getD k default).Hours ∧ (b.Roads.getD k default).Hours ≤ 24))))) (q_pick rfl (fun hp => pkOrT hp) (fun hp => (gv_pos hp).trans (pkOrF hp))) (congrArg Value.bool hqb3)) ?_
  refine g3 ?_
  refine RW.g (b := qb3) (v := .bool (decide (0 ≤ (b.Roads.getD k default).Flow ∧ (b.Roads.getD k default).Flow ≤ 1073741824))) rfl rfl rfl (fun h => q_call (args := #[iV ((b.Roads.getD k default).Flow), iV 0, iV 1073741824]) own78 rfl (args3 (gv_pos h) rfl rfl) (fun w1 hw1 => bIn_c w1 (Go.K.hp w1) (Hp.le_refl _))) ?_
  refine g1 ?_
  obtain ⟨qb4, hqb4⟩ : ∃ z : Bool, (qb3 || (!(decide (0 ≤ (b.Roads.getD k default).Flow ∧ (b.Roads.getD k default).Flow ≤ 1073741824)))) = z := ⟨_, rfl⟩
  refine RW.q (v := .bool qb4) rfl (q_as (v := .bool (qb3 || (!(decide (0 ≤ (b.Roads.getD k default).Flow ∧ (b.Roads.getD k default).Flow ≤ 1073741824))))) (q_pick rfl (fun hp => pkOrT hp) (fun hp => (gv_pos hp).trans (pkOrF hp))) (congrArg Value.bool hqb4)) ?_
  refine g3 ?_
  refine RW.g (b := qb4) (v := .bool (decide (0 ≤ (b.Roads.getD k default).Limit ∧ (b.Roads.getD k default).Limit ≤ 1125899906842624))) rfl rfl rfl (fun h => q_call (args := #[iV ((b.Roads.getD k default).Limit)]) own79 rfl (args1 (gv_pos h)) (fun w1 hw1 => bVol_c w1 (Go.K.hp w1) (Hp.le_refl _))) ?_
  refine g1 ?_
  obtain ⟨qb5, hqb5⟩ : ∃ z : Bool, (qb4 || (!(decide (0 ≤ (b.Roads.getD k default).Limit ∧ (b.Roads.getD k default).Limit ≤ 1125899906842624)))) = z := ⟨_, rfl⟩
  refine RW.q (v := .bool qb5) rfl (q_as (v := .bool (qb4 || (!(decide (0 ≤ (b.Roads.getD k default).Limit ∧ (b.Roads.getD k default).Limit ≤ 1125899906842624))))) (q_pick rfl (fun hp => pkOrT hp) (fun hp => (gv_pos hp).trans (pkOrF hp))) (congrArg Value.bool hqb5)) ?_
  subst hqb5 hqb4 hqb3 hqb2 hqb1
  refine g2 ?_
  refine AW.cond rfl (fun hc2 => ?_) fun hc2 => ?_
  ·
   refine g12 ?_
   exact fin_val (v' := .bool false) rfl rfl rfl (congrArg Value.bool (decide_eq_false (fun h9 => Bool.noConfusion (((h9 k (by omega)).1).symm.trans hc2))).symm)
  ·
   refine g11 ?_
   obtain ⟨qb6, hqb6⟩ : ∃ z : Bool, ((decide ((b.Roads.getD k default).By = (-1))) && (!decide ((b.Roads.getD k default).Limit = 0))) = z := ⟨_, rfl⟩
   refine RW.q (v := .bool qb6) rfl (q_as (v := .bool ((decide ((b.Roads.getD k default).By = (-1))) && (!decide ((b.Roads.getD k default).Limit = 0)))) (q_pick rfl (fun hp => (gv_pos hp).trans (pkAndT hp)) (fun hp => pkAndF hp)) (congrArg Value.bool hqb6)) ?_
   refine g3 ?_
   refine RW.g (b := qb6) (v := .bool (!decide ((b.Roads.getD k default).By = (-1)))) rfl rfl rfl (fun h => q_neq (gv_pos h) rfl) (RW.g (b := qb6) (v := .bool (!decide ((b.Roads.getD k default).By = (-1)))) rfl rfl rfl (fun h => q_move (gv_pos h)) (RW.g2 (b1 := qb6) (b2 := (!decide ((b.Roads.getD k default).By = (-1)))) (v := pV b2 5) rfl rfl rfl (fun hg1 hg2 => q_fieldAddr rfl uT138 rfl sz3 rfl) (RW.g2 (b1 := qb6) (b2 := (!decide ((b.Roads.getD k default).By = (-1)))) (v := iV ((b.Roads.getD k default).By)) rfl rfl rfl (fun hg1 hg2 => q_load ((gv_pos hg1).trans (gv_pos hg2)) uT3 rfl (Cell.blk 0 rfl rfl)) (RW.g2 (b1 := qb6) (b2 := (!decide ((b.Roads.getD k default).By = (-1)))) (v := pV b1 3) rfl rfl rfl (fun hg1 hg2 => q_fieldAddr rfl uT31 rfl sz23 rfl) (RW.g2 (b1 := qb6) (b2 := (!decide ((b.Roads.getD k default).By = (-1)))) (v := v3) rfl rfl rfl (fun hg1 hg2 => q_load ((gv_pos hg1).trans (gv_pos hg2)) uT23 rfl (Cell.blk 1 rfl rfl)) (RW.g2 (b1 := qb6) (b2 := (!decide ((b.Roads.getD k default).By = (-1)))) (v := iV (b.Places.length : Int)) rfl rfl rfl (fun hg1 hg2 => q_len_sl ((gv_pos hg1).trans (gv_pos hg2)) r3.sl uT23) (RW.g2 (b1 := qb6) (b2 := (!decide ((b.Roads.getD k default).By = (-1)))) (v := .bool (decide (0 ≤ (b.Roads.getD k default).By ∧ (b.Roads.getD k default).By < (b.Places.length : Int)))) rfl rfl rfl (fun hg1 hg2 => q_call (args := #[iV ((b.Roads.getD k default).By), iV (b.Places.length : Int)]) own84 rfl (args2 ((gv_pos hg1).trans (gv_pos hg2)) ((gv_pos hg1).trans (gv_pos hg2))) (fun w1 hw1 => bIdx_c w1 (Go.K.hp w1) (Hp.le_refl _) (by subst hqb6; (try simp [-List.getD_eq_getElem?_getD, -Array.length_toList] at hg1); (try simp [-List.getD_eq_getElem?_getD, -Array.length_toList] at hg2); omega))) ?_)))))))
   refine RW.g2 (b1 := qb6) (b2 := (!decide ((b.Roads.getD k default).By = (-1)))) (v := .bool (!(decide (0 ≤ (b.Roads.getD k default).By ∧ (b.Roads.getD k default).By < (b.Places.length : Int))))) rfl rfl rfl (fun hg1 hg2 => q_not ((gv_pos hg1).trans (gv_pos hg2))) ?_
   obtain ⟨qb7, hqb7⟩ : ∃ z : Bool, ((!decide ((b.Roads.getD k default).By = (-1))) && (!(decide (0 ≤ (b.Roads.getD k default).By ∧ (b.Roads.getD k default).By < (b.Places.length : Int))))) = z := ⟨_, rfl⟩
   refine RW.g (b := qb6) (v := .bool qb7) rfl rfl rfl (fun h => q_as (v := .bool ((!decide ((b.Roads.getD k default).By = (-1))) && (!(decide (0 ≤ (b.Roads.getD k default).By ∧ (b.Roads.getD k default).By < (b.Places.length : Int)))))) (q_pick (gv_pos h) (fun hp => (gv_pos h).trans ((gv_pos hp).trans (pkAndT hp))) (fun hp => pkAndF hp)) (congrArg Value.bool hqb7)) (RW.q (v := .bool (qb6 || qb7)) rfl (q_pick rfl (fun hp => pkOrT hp) (fun hp => (gv_pos hp).trans (pkOrF hp))) ?_)
   subst hqb7 hqb6
   refine g2 ?_
   refine AW.cond rfl (fun hc3 => ?_) fun hc3 => ?_
   ·
    refine g11 ?_
    exact fin_val (v' := .bool false) rfl rfl rfl (congrArg Value.bool (decide_eq_false (fun h9 => Bool.noConfusion (((h9 k (by omega)).2).symm.trans hc3))).symm)
   ·
    refine g7 ?_
    exact Post.back (s' := _) (J' := _) (m' := _) (by omega) ⟨k + 1, rfl, rfl, rfl, (by omega), (Fu.lt_succ hall ⟨hc2, hc3⟩)⟩ ⟨rfl, rfl, rfl, rfl, trivial⟩ (fun _ h => StP.drop h (by exact .cons _ (.cons_cons _ (.slnil))))
 ·
  simp [-List.getD_eq_getElem?_getD, -Array.length_toList] at hc1
  refine g11 ?_
  exact fin_val (v' := .bool true) rfl rfl rfl (congrArg Value.bool (decide_eq_true (show RRoads b from fun j hj => hall j (by omega))).symm)
def rightB (b : Bt.Basin) : Bool := (((((((((decide (RHead b)) && (RNames b)) && (decide (RPlaces b))) && (decide (RLinks b))) && (decide (ROffices b))) && (decide (RSlopes b))) && (decide (RTowns b))) && (decide (RGauges b))) && (decide (RRoads b)))
theorem bRight_c (w : World) (Φ : Hp) (hΦ : Hp.le Φ (hp w)) {b : Bt.Basin} {cs : List Value} (hB : RepV Φ b cs)  :
  Calls Try.prog 19 #[.agg cs.toArray] w fun e w' => e = .returned (.bool (rightB b)) ∧ Bel w.heap.size w w' := by
 obtain ⟨v1, v3, v4, v5, v6, v7, v8, v9, hcs, hBw, r1, r3, r4, r5, r6, r7, r8, r9⟩ := (show Rep.rep Φ b cs from hB)
 subst hcs
 have hpm : b.Places.length * 152 ≤ 140737488355328 := r3.max
 refine calls_of_AW (args := [.agg (cl31 b v1 v3 v4 v5 v6 v7 v8 v9).toArray]) Try.func19 rfl (Nat.le_of_ble_eq_true rfl) (St ⟨w, Φ, []⟩ Φ []) (StP.init w Φ hΦ []) ?_
 show AW Try.prog 37 [] _ _ _ [(0, .agg (cl31 b v1 v3 v4 v5 v6 v7 v8 v9).toArray)] _
 have hnl : b.Name.data.toList.length ≤ 9223372036854775807 := hBw.1
 have hom : b.Owners.length * 16 ≤ 140737488355328 := r1.max
 have hlm : b.Links.length * 200 ≤ 140737488355328 := r4.max
 have htm : b.Towns.length * 64 ≤ 140737488355328 := r5.max
 have hgm_ : b.Gauges.length * 48 ≤ 140737488355328 := r6.max
 have hrm : b.Roads.length * 64 ≤ 140737488355328 := r7.max
 have hsm : b.Shelters.length * 24 ≤ 140737488355328 := r8.max
 have hom2 : b.Room.length * 8 ≤ 140737488355328 := r9.max
 refine g2 ?_
 refine RW.bxA rfl rfl fun b1 => ?_
 refine g6 ?_
 refine RW.q (v := .bool (decide (RHead b))) rfl (q_call (args := #[.agg (cl31 b v1 v3 v4 v5 v6 v7 v8 v9).toArray]) own51 rfl rfl (fun w1 hw1 => rHead_c w1 (Go.K.hp w1) (Hp.le_refl _) (hB.mono hw1.phi))) ?_
 refine g2 ?_
 refine RW.g (b := (decide (RHead b))) (v := .bool (RNames b)) rfl rfl rfl (fun h => q_call (args := #[.agg (cl31 b v1 v3 v4 v5 v6 v7 v8 v9).toArray]) own52 rfl (args1 (gv_pos h)) (fun w1 hw1 => rNames_c w1 (Go.K.hp w1) (Hp.le_refl _) (hB.mono hw1.phi))) (RW.q (v := .bool ((decide (RHead b)) && (RNames b))) rfl (q_pick rfl (fun hp => (gv_pos hp).trans (pkAndT hp)) (fun hp => pkAndF hp)) ?_)
 refine g2 ?_
 refine RW.g (b := ((decide (RHead b)) && (RNames b))) (v := .bool (decide (RPlaces b))) rfl rfl rfl (fun h => q_call (args := #[.agg (cl31 b v1 v3 v4 v5 v6 v7 v8 v9).toArray]) own53 rfl (args1 (gv_pos h)) (fun w1 hw1 => rPlaces_c w1 (Go.K.hp w1) (Hp.le_refl _) (hB.mono hw1.phi) (by simp only [Bool.and_eq_true, decide_eq_true_eq] at h; exact h.1))) ?_
 obtain ⟨qb1, hqb1⟩ : ∃ z : Bool, (((decide (RHead b)) && (RNames b)) && (decide (RPlaces b))) = z := ⟨_, rfl⟩
 refine RW.q (v := .bool qb1) rfl (q_as (v := .bool (((decide (RHead b)) && (RNames b)) && (decide (RPlaces b)))) (q_pick rfl (fun hp => (gv_pos hp).trans (pkAndT hp)) (fun hp => pkAndF hp)) (congrArg Value.bool hqb1)) ?_
 refine g2 ?_
 refine RW.g (b := qb1) (v := .bool (decide (RLinks b))) rfl rfl rfl (fun h => q_call (args := #[.agg (cl31 b v1 v3 v4 v5 v6 v7 v8 v9).toArray]) own54 rfl (args1 (gv_pos h)) (fun w1 hw1 => rLinks_c w1 (Go.K.hp w1) (Hp.le_refl _) (hB.mono hw1.phi))) (RW.q (v := .bool (qb1 && (decide (RLinks b)))) rfl (q_pick rfl (fun hp => (gv_pos hp).trans (pkAndT hp)) (fun hp => pkAndF hp)) ?_)
 refine g2 ?_
 refine RW.g (b := (qb1 && (decide (RLinks b)))) (v := .bool (decide (ROffices b))) rfl rfl rfl (fun h => q_call (args := #[.agg (cl31 b v1 v3 v4 v5 v6 v7 v8 v9).toArray]) own55 rfl (args1 (gv_pos h)) (fun w1 hw1 => rOffices_c w1 (Go.K.hp w1) (Hp.le_refl _) (hB.mono hw1.phi) (by subst hqb1; simp only [Bool.and_eq_true, decide_eq_true_eq] at h; exact h.1.2) (by subst hqb1; simp only [Bool.and_eq_true, decide_eq_true_eq] at h; exact h.2))) ?_
 obtain ⟨qb2, hqb2⟩ : ∃ z : Bool, ((qb1 && (decide (RLinks b))) && (decide (ROffices b))) = z := ⟨_, rfl⟩
 refine RW.q (v := .bool qb2) rfl (q_as (v := .bool ((qb1 && (decide (RLinks b))) && (decide (ROffices b)))) (q_pick rfl (fun hp => (gv_pos hp).trans (pkAndT hp)) (fun hp => pkAndF hp)) (congrArg Value.bool hqb2)) ?_
 refine g2 ?_
 refine RW.g (b := qb2) (v := .bool (decide (RSlopes b))) rfl rfl rfl (fun h => q_call (args := #[.agg (cl31 b v1 v3 v4 v5 v6 v7 v8 v9).toArray]) own56 rfl (args1 (gv_pos h)) (fun w1 hw1 => rSlopes_c w1 (Go.K.hp w1) (Hp.le_refl _) (hB.mono hw1.phi) (by subst hqb2 hqb1; simp only [Bool.and_eq_true, decide_eq_true_eq] at h; exact h.1.1.1.1) (by subst hqb2 hqb1; simp only [Bool.and_eq_true, decide_eq_true_eq] at h; exact h.1.1.2) (by subst hqb2 hqb1; simp only [Bool.and_eq_true, decide_eq_true_eq] at h; exact h.1.2))) (RW.q (v := .bool (qb2 && (decide (RSlopes b)))) rfl (q_pick rfl (fun hp => (gv_pos hp).trans (pkAndT hp)) (fun hp => pkAndF hp)) ?_)
 refine g2 ?_
 refine RW.g (b := (qb2 && (decide (RSlopes b)))) (v := .bool (decide (RTowns b))) rfl rfl rfl (fun h => q_call (args := #[.agg (cl31 b v1 v3 v4 v5 v6 v7 v8 v9).toArray]) own57 rfl (args1 (gv_pos h)) (fun w1 hw1 => rTowns_c w1 (Go.K.hp w1) (Hp.le_refl _) (hB.mono hw1.phi) )) ?_
 obtain ⟨qb3, hqb3⟩ : ∃ z : Bool, ((qb2 && (decide (RSlopes b))) && (decide (RTowns b))) = z := ⟨_, rfl⟩
 refine RW.q (v := .bool qb3) rfl (q_as (v := .bool ((qb2 && (decide (RSlopes b))) && (decide (RTowns b)))) (q_pick rfl (fun hp => (gv_pos hp).trans (pkAndT hp)) (fun hp => pkAndF hp)) (congrArg Value.bool hqb3)) ?_
 refine g2 ?_
 refine RW.g (b := qb3) (v := .bool (decide (RGauges b))) rfl rfl rfl (fun h => q_call (args := #[.agg (cl31 b v1 v3 v4 v5 v6 v7 v8 v9).toArray]) own58 rfl (args1 (gv_pos h)) (fun w1 hw1 => rGauges_c w1 (Go.K.hp w1) (Hp.le_refl _) (hB.mono hw1.phi) (by subst hqb3 hqb2 hqb1; simp only [Bool.and_eq_true, decide_eq_true_eq] at h; exact h.1.1.1.1.1.1))) (RW.q (v := .bool (qb3 && (decide (RGauges b)))) rfl (q_pick rfl (fun hp => (gv_pos hp).trans (pkAndT hp)) (fun hp => pkAndF hp)) ?_)
 refine g2 ?_
 refine RW.g (b := (qb3 && (decide (RGauges b)))) (v := .bool (decide (RRoads b))) rfl rfl rfl (fun h => q_call (args := #[.agg (cl31 b v1 v3 v4 v5 v6 v7 v8 v9).toArray]) own59 rfl (args1 (gv_pos h)) (fun w1 hw1 => rRoads_c w1 (Go.K.hp w1) (Hp.le_refl _) (hB.mono hw1.phi) )) ?_
 obtain ⟨qb4, hqb4⟩ : ∃ z : Bool, ((qb3 && (decide (RGauges b))) && (decide (RRoads b))) = z := ⟨_, rfl⟩
 refine RW.q (v := .bool qb4) rfl (q_as (v := .bool ((qb3 && (decide (RGauges b))) && (decide (RRoads b)))) (q_pick rfl (fun hp => (gv_pos hp).trans (pkAndT hp)) (fun hp => pkAndF hp)) (congrArg Value.bool hqb4)) ?_
 refine g1 ?_
 subst hqb4 hqb3 hqb2 hqb1
 refine g3 ?_
 exact fin_val (v' := .bool (((((((((decide (RHead b)) && (RNames b)) && (decide (RPlaces b))) && (decide (RLinks b))) && (decide (ROffices b))) && (decide (RSlopes b))) && (decide (RTowns b))) && (decide (RGauges b))) && (decide (RRoads b)))) rfl rfl rfl (rfl)
end Go.Proofs.Ytblfeidlnhdekaa
