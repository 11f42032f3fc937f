/- Walks (part WalkBd), printed by walk2.py. Conditions: those of each theorem. -/
import Derived.Test.YtblfeidlnhdekaaXWalkBc
namespace Go.Proofs.Ytblfeidlnhdekaa
open Go Go.K Go.RowKit
set_option maxRecDepth 8000
set_option maxHeartbeats 1000000
attribute [local irreducible] AW RW DW Post Qt
def rainLast (p : Bt.Place) : Nat → Int
 | 0 => -1
 | j + 1 => (p.Rain.getD j default).Index
def placeBad (b : Bt.Basin) (k : Nat) : Bool := (((((((((!(decide (0 ≤ (b.Places.getD k default).Kind ∧ (b.Places.getD k default).Kind ≤ 3))) || (!(decide (0 ≤ (b.Places.getD k default).Office ∧ (b.Places.getD k default).Office ≤ 2)))) || (!(decide (0 ≤ (b.Places.getD k default).Delay ∧ (b.Places.getD k default).Delay ≤ 240)))) || (!(decide (0 ≤ (b.Places.getD k default).Cap ∧ (b.Places.getD k default).Cap ≤ 1125899906842624)))) || (!(decide (0 ≤ (b.Places.getD k default).Floor ∧ (b.Places.getD k default).Floor ≤ 1125899906842624)))) || (!(decide (Fu.RightC ((b.Places.getD k default).Level))))) || (!decide (((((b.Places.getD k default).Start).length : Nat) : Int) = (b.Owners.length : Int)))) || (!(decide ((0 ≤ (b.Places.getD k default).Num ∧ (b.Places.getD k default).Num ≤ 1125899906842624) ∧ (0 ≤ (b.Places.getD k default).Den ∧ (b.Places.getD k default).Den ≤ 1125899906842624) ∧ ((b.Places.getD k default).Den = 0 → (b.Places.getD k default).Num = 0))))) || (!(decide ((b.Places.getD k default).Down = -1 ∨ (0 ≤ (b.Places.getD k default).Down ∧ (b.Places.getD k default).Down < (b.Places.length : Int)) ∧ (b.Places.getD k default).Down ≠ (k : Int)))))
def startBad (b : Bt.Basin) (k i : Nat) : Bool := !(decide (0 ≤ ((b.Places.getD k default).Start).getD i 0 ∧ ((b.Places.getD k default).Start).getD i 0 ≤ 1125899906842624))
def rainBad (b : Bt.Basin) (k j : Nat) : Bool := (((decide ((((b.Places.getD k default).Rain).getD j default).Index ≤ rainLast (b.Places.getD k default) j)) || (decide (b.Cells ≤ (((b.Places.getD k default).Rain).getD j default).Index))) || (!(decide (0 ≤ (((b.Places.getD k default).Rain).getD j default).Area ∧ (((b.Places.getD k default).Rain).getD j default).Area ≤ 1125899906842624))))
def PlaceOk (b : Bt.Basin) (k : Nat) : Prop := placeBad b k = false ∧ (∀ i, i < (b.Places.getD k default).Start.length → startBad b k i = false) ∧ ∀ j, j < (b.Places.getD k default).Rain.length → rainBad b k j = false
instance (b : Bt.Basin) (k : Nat) : Decidable (PlaceOk b k) := inferInstanceAs (Decidable (placeBad b k = false ∧ (∀ i, i < (b.Places.getD k default).Start.length → startBad b k i = false) ∧ ∀ j, j < (b.Places.getD k default).Rain.length → rainBad b k j = false))
def RPlaces (b : Bt.Basin) : Prop := (∀ k, k < b.Places.length → PlaceOk b k) ∧ Ba.startTo b.Places b.Places.length ≤ 1125899906842624
instance (b : Bt.Basin) : Decidable (RPlaces b) := inferInstanceAs (Decidable ((∀ k, k < b.Places.length → PlaceOk b k) ∧ Ba.startTo b.Places b.Places.length ≤ 1125899906842624))
set_option maxRecDepth 8000 in
set_option maxHeartbeats 2000000 in
theorem rPlaces_c (w : World) (Φ : Hp) (hΦ : Hp.le Φ (hp w)) {b : Bt.Basin} {cs : List Value} (hB : RepV Φ b cs) (hh : RHead b) :
  Calls Try.prog 53 #[.agg cs.toArray] w fun e w' => e = .returned (.bool (decide (RPlaces b))) ∧ Bel w.heap.size w w' := by
 obtain ⟨v1, v3, v4, v5, v6, v7, v8, v9, hcs, hBw, r1, r3, r4, r5, r6, r7, r8, r9⟩ := (show Rep.rep Φ b cs from hB)
 subst hcs
 have hpm : b.Places.length * 152 ≤ 140737488355328 := r3.max
 refine calls_of_AW (args := [.agg (cl31 b v1 v3 v4 v5 v6 v7 v8 v9).toArray]) Try.func53 rfl (Nat.le_of_ble_eq_true rfl) (St ⟨w, Φ, []⟩ Φ []) (StP.init w Φ hΦ []) ?_
 show AW Try.prog 122 [] _ _ _ [(0, .agg (cl31 b v1 v3 v4 v5 v6 v7 v8 v9).toArray)] _
 have hnl : b.Name.data.toList.length ≤ 9223372036854775807 := hBw.1
 have hom : b.Owners.length * 16 ≤ 140737488355328 := r1.max
 have hlm : b.Links.length * 200 ≤ 140737488355328 := r4.max
 have htm : b.Towns.length * 64 ≤ 140737488355328 := r5.max
 have hgm_ : b.Gauges.length * 48 ≤ 140737488355328 := r6.max
 have hrm : b.Roads.length * 64 ≤ 140737488355328 := r7.max
 have hsm : b.Shelters.length * 24 ≤ 140737488355328 := r8.max
 have hom2 : b.Room.length * 8 ≤ 140737488355328 := r9.max
 have hdb := hh.1
 unfold headBad at hdb
 simp [-List.getD_eq_getElem?_getD, -Array.length_toList] at hdb
 refine g2 ?_
 refine RW.bxA rfl rfl fun b1 => ?_
 refine g18 ?_
 refine AW.loop (fun s J m => ∃ (k : Nat), ∃ (u : Int), s = [(1, pV b1 0), (12, v3), (13, iV (b.Places.length : Int)), (3, iV u), (14, iV (k : Int))] ∧ J = St ⟨w, Φ, []⟩ Φ [.blk b1 31 (cl31 b v1 v3 v4 v5 v6 v7 v8 v9)] ∧ m = b.Places.length - k ∧ (k ≤ b.Places.length) ∧ (u = Ba.startTo b.Places k) ∧ (0 ≤ u ∧ u ≤ (k : Int) * 18014398509481984) ∧ (∀ j, j < k → PlaceOk b j)) (s0 := _) (J1 := _) (m0 := _) ⟨0, 0, rfl, rfl, rfl, (by omega), rfl, (by omega), (fun j hj => absurd hj (by omega))⟩ ⟨rfl, rfl, rfl, rfl, rfl, trivial⟩ (fun _ h => h) ?_
 rintro _ _ _ _ ⟨k, u, rfl, rfl, rfl, hk, hu, hub, hall⟩
 refine g6 ?_
 refine AW.cond rfl (fun hc1 => ?_) fun hc1 => ?_
 ·
  simp [-List.getD_eq_getElem?_getD, -Array.length_toList] at hc1
  refine g7 ?_
  refine RW.q (v := .pointer (some (Value.at v3 (k * 12)))) rfl (q_indexAddr rfl rfl r3.sl uT23 sz63 (by omega) (by omega) rfl) ?_
  obtain ⟨cv1, hcr1, hcc1⟩ := RepSl.whole (k := k) r3 (by omega)
  obtain ⟨sv1, sv2, sv3, hcE1, hcw1, hsv1, hsv2, hsv3⟩ := (show Rep.rep _ _ _ from hcr1)
  subst hcE1
  refine RW.q (v := .agg (cl63 (b.Places.getD k default) sv1 sv2 sv3).toArray) rfl (q_loadAgg rfl uT63 rfl sz63 rfl (Cells.phiK hcc1)) ?_
  refine RW.alc rfl fun b2 => ?_
  refine g1 ?_
  refine RW.effn (J' := St ⟨w, Φ, []⟩ Φ [.blk b2 63 (cl63 (b.Places.getD k default) sv1 sv2 sv3), .blk b1 31 (cl31 b v1 v3 v4 v5 v6 v7 v8 v9)]) (e_store (v := .agg (cl63 (b.Places.getD k default) sv1 sv2 sv3).toArray) 0 rfl rfl rfl sz63 rfl (List.all_eq_true.2 (fun u hu => Rep.one (show Rep.rep _ _ _ from hcr1) u hu)) rfl rfl rfl) ?_
  refine g7 ?_
  refine RW.q (v := .bool (decide (0 ≤ (b.Places.getD k default).Kind ∧ (b.Places.getD k default).Kind ≤ 3))) rfl (q_call (args := #[iV ((b.Places.getD k default).Kind), iV 0, iV 3]) own78 rfl rfl (fun w1 hw1 => bIn_c w1 (Go.K.hp w1) (Hp.le_refl _))) ?_
  refine g4 ?_
  refine RW.g (b := (!(decide (0 ≤ (b.Places.getD k default).Kind ∧ (b.Places.getD k default).Kind ≤ 3)))) (v := .bool (decide (0 ≤ (b.Places.getD k default).Office ∧ (b.Places.getD k default).Office ≤ 2))) rfl rfl rfl (fun h => q_call (args := #[iV ((b.Places.getD k default).Office), iV 0, iV 2]) own78 rfl (args3 (gv_pos h) rfl rfl) (fun w1 hw1 => bIn_c w1 (Go.K.hp w1) (Hp.le_refl _))) ?_
  refine g1 ?_
  obtain ⟨qb1, hqb1⟩ : ∃ z : Bool, ((!(decide (0 ≤ (b.Places.getD k default).Kind ∧ (b.Places.getD k default).Kind ≤ 3))) || (!(decide (0 ≤ (b.Places.getD k default).Office ∧ (b.Places.getD k default).Office ≤ 2)))) = z := ⟨_, rfl⟩
  refine RW.q (v := .bool qb1) rfl (q_as (v := .bool ((!(decide (0 ≤ (b.Places.getD k default).Kind ∧ (b.Places.getD k default).Kind ≤ 3))) || (!(decide (0 ≤ (b.Places.getD k default).Office ∧ (b.Places.getD k default).Office ≤ 2))))) (q_pick rfl (fun hp => pkOrT hp) (fun hp => (gv_pos hp).trans (pkOrF hp))) (congrArg Value.bool hqb1)) ?_
  refine g3 ?_
  refine RW.g (b := qb1) (v := .bool (decide (0 ≤ (b.Places.getD k default).Delay ∧ (b.Places.getD k default).Delay ≤ 240))) rfl rfl rfl (fun h => q_call (args := #[iV ((b.Places.getD k default).Delay), iV 0, iV 240]) own78 rfl (args3 (gv_pos h) rfl rfl) (fun w1 hw1 => bIn_c w1 (Go.K.hp w1) (Hp.le_refl _))) ?_
  refine g1 ?_
  obtain ⟨qb2, hqb2⟩ : ∃ z : Bool, (qb1 || (!(decide (0 ≤ (b.Places.getD k default).Delay ∧ (b.Places.getD k default).Delay ≤ 240)))) = z := ⟨_, rfl⟩
  refine RW.q (v := .bool qb2) rfl (q_as (v := .bool (qb1 || (!(decide (0 ≤ (b.Places.getD k default).Delay ∧ (b.Places.getD k default).Delay ≤ 240))))) (q_pick rfl (fun hp => pkOrT hp) (fun hp => (gv_pos hp).trans (pkOrF hp))) (congrArg Value.bool hqb2)) ?_
  refine g3 ?_
  refine RW.g (b := qb2) (v := .bool (decide (0 ≤ (b.Places.getD k default).Cap ∧ (b.Places.getD k default).Cap ≤ 1125899906842624))) rfl rfl rfl (fun h => q_call (args := #[iV ((b.Places.getD k default).Cap)]) own79 rfl (args1 (gv_pos h)) (fun w1 hw1 => bVol_c w1 (Go.K.hp w1) (Hp.le_refl _))) ?_
  refine g1 ?_
  obtain ⟨qb3, hqb3⟩ : ∃ z : Bool, (qb2 || (!(decide (0 ≤ (b.Places.getD k default).Cap ∧ (b.Places.getD k default).Cap ≤ 1125899906842624)))) = z := ⟨_, rfl⟩
  refine RW.q (v := .bool qb3) rfl (q_as (v := .bool (qb2 || (!(decide (0 ≤ (b.Places.getD k default).Cap ∧ (b.Places.getD k default).Cap ≤ 1125899906842624))))) (q_pick rfl (fun hp => pkOrT hp) (fun hp => (gv_pos hp).trans (pkOrF hp))) (congrArg Value.bool hqb3)) ?_
  refine g3 ?_
  refine RW.g (b := qb3) (v := .bool (decide (0 ≤ (b.Places.getD k default).Floor ∧ (b.Places.getD k default).Floor ≤ 1125899906842624))) rfl rfl rfl (fun h => q_call (args := #[iV ((b.Places.getD k default).Floor)]) own79 rfl (args1 (gv_pos h)) (fun w1 hw1 => bVol_c w1 (Go.K.hp w1) (Hp.le_refl _))) ?_
  refine g1 ?_
  obtain ⟨qb4, hqb4⟩ : ∃ z : Bool, (qb3 || (!(decide (0 ≤ (b.Places.getD k default).Floor ∧ (b.Places.getD k default).Floor ≤ 1125899906842624)))) = z := ⟨_, rfl⟩
  refine RW.q (v := .bool qb4) rfl (q_as (v := .bool (qb3 || (!(decide (0 ≤ (b.Places.getD k default).Floor ∧ (b.Places.getD k default).Floor ≤ 1125899906842624))))) (q_pick rfl (fun hp => pkOrT hp) (fun hp => (gv_pos hp).trans (pkOrF hp))) (congrArg Value.bool hqb4)) ?_
  refine g3 ?_
  refine RW.g (b := qb4) (v := .bool (decide (Fu.RightC ((b.Places.getD k default).Level)))) rfl rfl rfl (fun h => q_call (args := #[sv1]) own27 rfl (args1 (gv_pos h)) (fun w1 hw1 => cRight_c w1 (Go.K.hp w1) (Hp.le_refl _) (hsv1.mono hw1.phi))) ?_
  refine g1 ?_
  obtain ⟨qb5, hqb5⟩ : ∃ z : Bool, (qb4 || (!(decide (Fu.RightC ((b.Places.getD k default).Level))))) = z := ⟨_, rfl⟩
  refine RW.q (v := .bool qb5) rfl (q_as (v := .bool (qb4 || (!(decide (Fu.RightC ((b.Places.getD k default).Level)))))) (q_pick rfl (fun hp => pkOrT hp) (fun hp => (gv_pos hp).trans (pkOrF hp))) (congrArg Value.bool hqb5)) (RW.q (v := .bool qb5) rfl (q_move rfl) (RW.g (b := qb5) (v := pV b2 5) rfl rfl rfl (fun h => q_fieldAddr rfl uT63 rfl sz29 rfl) (RW.g (b := qb5) (v := sv2) rfl rfl rfl (fun h => q_load (gv_pos h) uT29 rfl (Cell.blk 0 rfl rfl)) (RW.g (b := qb5) (v := iV ((((b.Places.getD k default).Start).length : Nat) : Int)) rfl rfl rfl (fun h => q_len_sl (gv_pos h) hsv2.sl uT29) (RW.g (b := qb5) (v := pV b1 1) rfl rfl rfl (fun h => q_fieldAddr rfl uT31 rfl sz22 rfl) (RW.g (b := qb5) (v := v1) rfl rfl rfl (fun h => q_load (gv_pos h) uT22 rfl (Cell.blk 1 rfl rfl)) (RW.g (b := qb5) (v := iV (b.Owners.length : Int)) rfl rfl rfl (fun h => q_len_sl (gv_pos h) r1.sl uT22) (RW.g (b := qb5) (v := .bool (!decide (((((b.Places.getD k default).Start).length : Nat) : Int) = (b.Owners.length : Int)))) rfl rfl rfl (fun h => q_neq (gv_pos h) (gv_pos h)) ?_))))))))
  obtain ⟨qb6, hqb6⟩ : ∃ z : Bool, (qb5 || (!decide (((((b.Places.getD k default).Start).length : Nat) : Int) = (b.Owners.length : Int)))) = z := ⟨_, rfl⟩
  refine RW.q (v := .bool qb6) rfl (q_as (v := .bool (qb5 || (!decide (((((b.Places.getD k default).Start).length : Nat) : Int) = (b.Owners.length : Int))))) (q_pick rfl (fun hp => pkOrT hp) (fun hp => (gv_pos hp).trans (pkOrF hp))) (congrArg Value.bool hqb6)) ?_
  refine g5 ?_
  refine RW.g (b := qb6) (v := .bool (decide ((0 ≤ (b.Places.getD k default).Num ∧ (b.Places.getD k default).Num ≤ 1125899906842624) ∧ (0 ≤ (b.Places.getD k default).Den ∧ (b.Places.getD k default).Den ≤ 1125899906842624) ∧ ((b.Places.getD k default).Den = 0 → (b.Places.getD k default).Num = 0)))) rfl rfl rfl (fun h => q_call (args := #[iV ((b.Places.getD k default).Num), iV ((b.Places.getD k default).Den)]) own82 rfl (args2 (gv_pos h) (gv_pos h)) (fun w1 hw1 => bFrac_c w1 (Go.K.hp w1) (Hp.le_refl _))) ?_
  refine g1 ?_
  obtain ⟨qb7, hqb7⟩ : ∃ z : Bool, (qb6 || (!(decide ((0 ≤ (b.Places.getD k default).Num ∧ (b.Places.getD k default).Num ≤ 1125899906842624) ∧ (0 ≤ (b.Places.getD k default).Den ∧ (b.Places.getD k default).Den ≤ 1125899906842624) ∧ ((b.Places.getD k default).Den = 0 → (b.Places.getD k default).Num = 0))))) = z := ⟨_, rfl⟩
  refine RW.q (v := .bool qb7) rfl (q_as (v := .bool (qb6 || (!(decide ((0 ≤ (b.Places.getD k default).Num ∧ (b.Places.getD k default).Num ≤ 1125899906842624) ∧ (0 ≤ (b.Places.getD k default).Den ∧ (b.Places.getD k default).Den ≤ 1125899906842624) ∧ ((b.Places.getD k default).Den = 0 → (b.Places.getD k default).Num = 0)))))) (q_pick rfl (fun hp => pkOrT hp) (fun hp => (gv_pos hp).trans (pkOrF hp))) (congrArg Value.bool hqb7)) ?_
  refine g5 ?_
  refine RW.g (b := qb7) (v := .bool (decide ((b.Places.getD k default).Down = -1 ∨ (0 ≤ (b.Places.getD k default).Down ∧ (b.Places.getD k default).Down < (b.Places.length : Int)) ∧ (b.Places.getD k default).Down ≠ (k : Int)))) rfl rfl rfl (fun h => q_call (args := #[.agg (cl31 b v1 v3 v4 v5 v6 v7 v8 v9).toArray, iV (k : Int), iV ((b.Places.getD k default).Down)]) own83 rfl (args3 (gv_pos h) (gv_pos h) (gv_pos h)) (fun w1 hw1 => bTgt_c w1 (Go.K.hp w1) (Hp.le_refl _) (hB.mono hw1.phi))) ?_
  refine g1 ?_
  obtain ⟨qb8, hqb8⟩ : ∃ z : Bool, (qb7 || (!(decide ((b.Places.getD k default).Down = -1 ∨ (0 ≤ (b.Places.getD k default).Down ∧ (b.Places.getD k default).Down < (b.Places.length : Int)) ∧ (b.Places.getD k default).Down ≠ (k : Int))))) = z := ⟨_, rfl⟩
  refine RW.q (v := .bool qb8) rfl (q_as (v := .bool (qb7 || (!(decide ((b.Places.getD k default).Down = -1 ∨ (0 ≤ (b.Places.getD k default).Down ∧ (b.Places.getD k default).Down < (b.Places.length : Int)) ∧ (b.Places.getD k default).Down ≠ (k : Int)))))) (q_pick rfl (fun hp => pkOrT hp) (fun hp => (gv_pos hp).trans (pkOrF hp))) (congrArg Value.bool hqb8)) ?_
  subst hqb8 hqb7 hqb6 hqb5 hqb4 hqb3 hqb2 hqb1
  refine g2 ?_
  refine AW.cond rfl (fun hc2 => ?_) fun hc2 => ?_
  ·
   refine g12 ?_
   exact fin_val (v' := .bool false) rfl rfl rfl (congrArg Value.bool (decide_eq_false (fun h9 => Bool.noConfusion (((h9.1 k (by omega)).1).symm.trans hc2))).symm)
  ·
   refine g4 ?_
   have hsl : (b.Places.getD k default).Start.length = b.Owners.length := by have h9 := hc2; simp [-List.getD_eq_getElem?_getD, -Array.length_toList] at h9; omega
   have hsm_ : (b.Places.getD k default).Start.length * 8 ≤ 140737488355328 := hsv2.max
   refine g8 ?_
   refine AW.loop (fun s J m => ∃ (i : Nat), ∃ (v : Int), s = [(1, pV b1 0), (4, iV (k : Int)), (5, pV b2 0), (12, v3), (13, iV (b.Places.length : Int)), (14, iV (k : Int)), (79, sv2), (80, iV ((((b.Places.getD k default).Start).length : Nat) : Int)), (3, iV v), (81, iV (i : Int))] ∧ J = St ⟨w, Φ, []⟩ Φ [.blk b2 63 (cl63 (b.Places.getD k default) sv1 sv2 sv3), .blk b1 31 (cl31 b v1 v3 v4 v5 v6 v7 v8 v9)] ∧ m = (b.Places.getD k default).Start.length - i ∧ (i ≤ (b.Places.getD k default).Start.length) ∧ (v = u + Ba.sumTo (b.Places.getD k default).Start i) ∧ (u ≤ v ∧ v ≤ u + (i : Int) * 1125899906842624) ∧ (∀ j, j < i → startBad b k j = false)) (s0 := _) (J1 := _) (m0 := _) ⟨0, u, rfl, rfl, rfl, (by omega), (by show u = u + 0; omega), (by omega), (fun j hj => absurd hj (by omega))⟩ ⟨rfl, rfl, rfl, rfl, rfl, rfl, rfl, rfl, rfl, rfl, trivial⟩ (fun _ h => h) ?_
   rintro _ _ _ _ ⟨i, v, rfl, rfl, rfl, hi, hv, hvb, hst⟩
   refine g6 ?_
   refine AW.cond rfl (fun hc3 => ?_) fun hc3 => ?_
   ·
    simp [-List.getD_eq_getElem?_getD, -Array.length_toList] at hc3
    refine g6 ?_
    refine RW.q (v := .pointer (some (Value.at sv2 (i * 1)))) rfl (q_indexAddr rfl rfl hsv2.sl uT29 sz3 (by omega) (by omega) rfl) (RW.q (v := iV (((b.Places.getD k default).Start).getD i 0)) rfl (q_load rfl uT3 rfl (Cell.repInt hsv2 (by omega))) ?_)
    refine g5 ?_
    have hnI : I64 ((b.Places.getD k default).Start.getD i 0) := hsv2.i64 _ (Fu.getD_memI (by omega))
    refine g2 ?_
    refine RW.q (v := .bool (decide (0 ≤ ((b.Places.getD k default).Start).getD i 0 ∧ ((b.Places.getD k default).Start).getD i 0 ≤ 1125899906842624))) rfl (q_call (args := #[iV (((b.Places.getD k default).Start).getD i 0)]) own79 rfl rfl (fun w1 hw1 => bVol_c w1 (Go.K.hp w1) (Hp.le_refl _))) ?_
    refine g3 ?_
    refine AW.cond rfl (fun hc4 => ?_) fun hc4 => ?_
    ·
     refine g17 ?_
     exact fin_val (v' := .bool false) rfl rfl rfl (congrArg Value.bool (decide_eq_false (fun h9 => Bool.noConfusion (((h9.1 k (by omega)).2.1 i (by omega)).symm.trans hc4))).symm)
    ·
     refine g2 ?_
     have hnb : 0 ≤ (b.Places.getD k default).Start.getD i 0 ∧ (b.Places.getD k default).Start.getD i 0 ≤ 1125899906842624 := by have h9 := hc4; simp [-List.getD_eq_getElem?_getD] at h9; omega
     refine g12 ?_
     exact Post.back (s' := _) (J' := _) (m' := _) (by omega) ⟨i + 1, _, rfl, rfl, rfl, (by omega), (by rw [hv]; show u + Ba.sumTo (b.Places.getD k default).Start i + (b.Places.getD k default).Start.getD i 0 = u + (Ba.sumTo (b.Places.getD k default).Start i + (b.Places.getD k default).Start.getD i 0); omega), (by push_cast; omega), (Fu.lt_succ hst hc4)⟩ ⟨rfl, rfl, rfl, rfl, rfl, rfl, rfl, rfl, rfl, rfl, trivial⟩ (fun _ h => h)
   ·
    simp [-List.getD_eq_getElem?_getD, -Array.length_toList] at hc3
    refine g11 ?_
    have hrm_ : (b.Places.getD k default).Rain.length * 16 ≤ 140737488355328 := hsv3.max
    refine AW.region (RW.q (v := pV b2 11) rfl (q_fieldAddr rfl uT63 rfl sz61 rfl) (RW.q (v := sv3) rfl (q_load rfl uT61 rfl (Cell.blk 0 rfl rfl)) (RW.q (v := iV ((((b.Places.getD k default).Rain).length : Nat) : Int)) rfl (q_len_sl rfl hsv3.sl uT61) (RW.q (v := iV 0) rfl (q_move rfl) (RW.nil (Post.then_n (AW.block (AW.loop (fun s J m => ∃ (j : Nat), s = [(1, pV b1 0), (3, iV v), (4, iV (k : Int)), (5, pV b2 0), (12, v3), (13, iV (b.Places.length : Int)), (14, iV (k : Int)), (93, sv3), (94, iV ((((b.Places.getD k default).Rain).length : Nat) : Int)), (8, iV (rainLast (b.Places.getD k default) j)), (95, iV (j : Int))] ∧ J = St ⟨w, Φ, []⟩ Φ [.blk b2 63 (cl63 (b.Places.getD k default) sv1 sv2 sv3), .blk b1 31 (cl31 b v1 v3 v4 v5 v6 v7 v8 v9)] ∧ m = (b.Places.getD k default).Rain.length - j ∧ (j ≤ (b.Places.getD k default).Rain.length) ∧ (∀ i, i < j → rainBad b k i = false)) (s0 := _) (J1 := _) (m0 := _) ⟨0, rfl, rfl, rfl, (by omega), (fun i hi => absurd hi (by omega))⟩ ⟨rfl, rfl, rfl, rfl, rfl, rfl, rfl, rfl, rfl, rfl, rfl, trivial⟩ (fun _ h => h) ?_))))))))
    rintro _ _ _ _ ⟨j, rfl, rfl, rfl, hj, hrn⟩
    refine g6 ?_
    refine AW.cond (b := decide ((j : Int) < ((((b.Places.getD k default).Rain).length : Nat) : Int))) rfl (fun hc5 => ?_) (fun hc5 => ?_)
    ·
     simp [-List.getD_eq_getElem?_getD, -Array.length_toList] at hc5
     refine g6 ?_
     refine RW.q (v := .pointer (some (Value.at sv3 (j * 2)))) rfl (q_indexAddr rfl rfl hsv3.sl uT61 sz142 (by omega) (by omega) rfl) (RW.q (v := .agg #[iV ((((b.Places.getD k default).Rain).getD j default).Index), iV ((((b.Places.getD k default).Rain).getD j default).Area)]) rfl (q_loadAgg rfl uT142 rfl sz142 rfl (Cells.repE hsv3 (by omega) rfl)) (RW.eff (fun b3 : Nat => pV b3 0) (fun b3 => St ⟨w, Φ, []⟩ Φ [.blk b3 142 [iV 0, iV 0], .blk b2 63 (cl63 (b.Places.getD k default) sv1 sv2 sv3), .blk b1 31 (cl31 b v1 v3 v4 v5 v6 v7 v8 v9)]) rfl (e_alloc zero142) ?_))
     intro b3
     refine RW.effn (J' := St ⟨w, Φ, []⟩ Φ [.blk b3 142 [iV ((((b.Places.getD k default).Rain).getD j default).Index), iV ((((b.Places.getD k default).Rain).getD j default).Area)], .blk b2 63 (cl63 (b.Places.getD k default) sv1 sv2 sv3), .blk b1 31 (cl31 b v1 v3 v4 v5 v6 v7 v8 v9)]) (e_store (v := .agg #[iV ((((b.Places.getD k default).Rain).getD j default).Index), iV ((((b.Places.getD k default).Rain).getD j default).Area)]) 0 rfl rfl rfl sz142 rfl rfl rfl rfl rfl) ?_
     refine g15 ?_
     obtain ⟨qb9, hqb9⟩ : ∃ z : Bool, ((decide ((((b.Places.getD k default).Rain).getD j default).Index ≤ rainLast (b.Places.getD k default) j)) || (decide (b.Cells ≤ (((b.Places.getD k default).Rain).getD j default).Index))) = z := ⟨_, rfl⟩
     refine RW.q (v := .bool qb9) rfl (q_as (v := .bool ((decide ((((b.Places.getD k default).Rain).getD j default).Index ≤ rainLast (b.Places.getD k default) j)) || (decide (b.Cells ≤ (((b.Places.getD k default).Rain).getD j default).Index)))) (q_pick rfl (fun hp => pkOrT hp) (fun hp => (gv_pos hp).trans (pkOrF hp))) (congrArg Value.bool hqb9)) ?_
     refine g3 ?_
     refine RW.g (b := qb9) (v := .bool (decide (0 ≤ (((b.Places.getD k default).Rain).getD j default).Area ∧ (((b.Places.getD k default).Rain).getD j default).Area ≤ 1125899906842624))) rfl rfl rfl (fun h => q_call (args := #[iV ((((b.Places.getD k default).Rain).getD j default).Area)]) own79 rfl (args1 (gv_pos h)) (fun w1 hw1 => bVol_c w1 (Go.K.hp w1) (Hp.le_refl _))) ?_
     refine g1 ?_
     obtain ⟨qb10, hqb10⟩ : ∃ z : Bool, (qb9 || (!(decide (0 ≤ (((b.Places.getD k default).Rain).getD j default).Area ∧ (((b.Places.getD k default).Rain).getD j default).Area ≤ 1125899906842624)))) = z := ⟨_, rfl⟩
     refine RW.q (v := .bool qb10) rfl (q_as (v := .bool (qb9 || (!(decide (0 ≤ (((b.Places.getD k default).Rain).getD j default).Area ∧ (((b.Places.getD k default).Rain).getD j default).Area ≤ 1125899906842624))))) (q_pick rfl (fun hp => pkOrT hp) (fun hp => (gv_pos hp).trans (pkOrF hp))) (congrArg Value.bool hqb10)) ?_
     subst hqb10 hqb9
     refine g2 ?_
     refine AW.cond rfl (fun hc6 => ?_) fun hc6 => ?_
     ·
      refine g16 ?_
      exact fin_val (v' := .bool false) rfl rfl rfl (congrArg Value.bool (decide_eq_false (fun h9 => Bool.noConfusion (((h9.1 k (by omega)).2.2 j (by omega)).symm.trans hc6))).symm)
     ·
      refine g13 ?_
      exact Post.back (s' := _) (J' := _) (m' := _) (by omega) ⟨j + 1, rfl, rfl, rfl, (by omega), (Fu.lt_succ hrn hc6)⟩ ⟨rfl, rfl, rfl, rfl, rfl, rfl, rfl, rfl, rfl, rfl, rfl, trivial⟩ (fun _ h => StP.drop h (by exact .cons _ (.cons_cons _ (.cons_cons _ (.slnil)))))
    ·
     simp [-List.getD_eq_getElem?_getD, -Array.length_toList] at hc5
     refine g10 ?_
     exact Post.back (s' := _) (J' := _) (m' := _) (by omega) ⟨k + 1, v, rfl, rfl, rfl, (by omega), (by rw [hv, hu, show i = (b.Places.getD k default).Start.length by omega]; rfl), (by push_cast; omega), (Fu.lt_succ hall ⟨hc2, fun j hj => hst j (by omega), fun j hj => hrn j (by omega)⟩)⟩ ⟨rfl, rfl, rfl, rfl, rfl, trivial⟩ (fun _ h => StP.drop h (by exact .cons _ (.cons_cons _ (.slnil))))
 ·
  simp [-List.getD_eq_getElem?_getD, -Array.length_toList] at hc1
  refine g13 ?_
  exact fin_val (v' := .bool (decide (u ≤ 1125899906842624))) rfl rfl rfl (congrArg Value.bool (decide_eq_decide.2 (show u ≤ 1125899906842624 ↔ RPlaces b from by have hke : k = b.Places.length := (by omega); rw [hu, hke]; exact ⟨fun h9 => ⟨fun j hj => hall j (by omega), h9⟩, fun h9 => h9.2⟩)))
def fieldsB (l : Bt.Link) : Bool := if l.Kind = 0 then (((((((((decide (Fu.RightC l.Rate)) && (decide (Fu.RightC l.Band.Lo))) && (decide (Fu.RightC l.Band.Hi))) && (decide (Ba.underC l.Band.Lo l.Rate))) && (decide (Ba.underC l.Rate l.Band.Hi))) && (decide (0 ≤ l.Positions ∧ l.Positions ≤ 64))) && (decide (0 ≤ l.Speed ∧ l.Speed ≤ l.Positions))) && (decide (0 ≤ l.Leak ∧ l.Leak ≤ 1125899906842624))) && (decide ((0 ≤ l.BackNum ∧ l.BackNum ≤ 1125899906842624) ∧ (0 ≤ l.BackDen ∧ l.BackDen ≤ 1125899906842624) ∧ (l.BackDen = 0 → l.BackNum = 0)))) && ((!decide (l.To = (-1))) || (decide (l.BackDen = 0))) else if l.Kind = 1 ∨ l.Kind = 5 then (((decide (0 ≤ l.Crest ∧ l.Crest ≤ 1125899906842624)) && (decide (0 ≤ l.Num ∧ l.Num ≤ 1125899906842624))) && (decide (1 ≤ l.Den ∧ l.Den ≤ 1125899906842624))) else if l.Kind = 2 then (((decide (0 ≤ l.Num ∧ l.Num ≤ 1125899906842624)) && (decide (1 ≤ l.Positions ∧ l.Positions ≤ 64))) && (decide (0 ≤ l.Speed ∧ l.Speed ≤ l.Positions))) else if l.Kind = 3 then (((((decide (0 ≤ l.Num ∧ l.Num ≤ 1125899906842624)) && (decide (1 ≤ l.Den ∧ l.Den ≤ 1125899906842624))) && (decide (0 ≤ l.Prime ∧ l.Prime ≤ 1125899906842624))) && (decide (0 ≤ l.Break ∧ l.Break ≤ 1125899906842624))) && (decide (l.Break < l.Prime))) else (((decide (0 ≤ l.Num ∧ l.Num ≤ 1125899906842624)) && (decide (1 ≤ l.Den ∧ l.Den ≤ 1125899906842624))) && (decide ((0 ≤ l.BackNum ∧ l.BackNum ≤ 1125899906842624) ∧ (0 ≤ l.BackDen ∧ l.BackDen ≤ 1125899906842624) ∧ (l.BackDen = 0 → l.BackNum = 0)))) && (!decide (l.To = (-1)))
set_option maxRecDepth 8000 in
set_option maxHeartbeats 2000000 in
theorem fields_c (w : World) (Φ : Hp) (hΦ : Hp.le Φ (hp w)) {l : Bt.Link} {cs : List Value} (hL : RepV Φ l cs) :
  Calls Try.prog 85 #[.agg cs.toArray] w fun e w' => e = .returned (.bool (fieldsB l)) ∧ Bel w.heap.size w w' := by
 obtain ⟨v4, v5, v6, hcs, hLw, r4, r5, r6⟩ := (show Rep.rep Φ l cs from hL)
 subst hcs
 refine calls_of_AW (args := [.agg (cl132 l v4 v5 v6).toArray]) Try.func85 rfl (Nat.le_of_ble_eq_true rfl) (St ⟨w, Φ, []⟩ Φ []) (StP.init w Φ hΦ []) ?_
 show AW Try.prog 152 [] _ _ _ [(0, .agg (cl132 l v4 v5 v6).toArray)] _
 refine g2 ?_
 refine RW.bxA rfl rfl fun b1 => ?_
 refine g17 ?_
 refine AW.cond rfl (fun hc1 => ?_) fun hc1 => ?_
 ·
  simp [-List.getD_eq_getElem?_getD, -Array.length_toList] at hc1
  refine g3 ?_
  refine RW.q (v := v4) rfl (q_load rfl uT60 rfl (Cell.blk 0 rfl rfl)) (RW.q (v := .bool (decide (Fu.RightC l.Rate))) rfl (q_call (args := #[v4]) own27 rfl rfl (fun w1 hw1 => cRight_c w1 (Go.K.hp w1) (Hp.le_refl _) (r4.mono hw1.phi))) (RW.q (v := .bool (decide (Fu.RightC l.Rate))) rfl (q_move rfl) (RW.g (b := (decide (Fu.RightC l.Rate))) (v := pV b1 5) rfl rfl rfl (fun h => q_fieldAddr rfl uT132 rfl sz130 rfl) (RW.g (b := (decide (Fu.RightC l.Rate))) (v := pV b1 5) rfl rfl rfl (fun h => q_fieldAddr (gv_pos h) uT130 rfl sz60 rfl) (RW.g (b := (decide (Fu.RightC l.Rate))) (v := v5) rfl rfl rfl (fun h => q_load (gv_pos h) uT60 rfl (Cell.blk 0 rfl rfl)) (RW.g (b := (decide (Fu.RightC l.Rate))) (v := .bool (decide (Fu.RightC l.Band.Lo))) rfl rfl rfl (fun h => q_call (args := #[v5]) own27 rfl (args1 (gv_pos h)) (fun w1 hw1 => cRight_c w1 (Go.K.hp w1) (Hp.le_refl _) (r5.mono hw1.phi))) ?_))))))
  obtain ⟨qb1, hqb1⟩ : ∃ z : Bool, ((decide (Fu.RightC l.Rate)) && (decide (Fu.RightC l.Band.Lo))) = z := ⟨_, rfl⟩
  refine RW.q (v := .bool qb1) rfl (q_as (v := .bool ((decide (Fu.RightC l.Rate)) && (decide (Fu.RightC l.Band.Lo)))) (q_pick rfl (fun hp => (gv_pos hp).trans (pkAndT hp)) (fun hp => pkAndF hp)) (congrArg Value.bool hqb1)) (RW.q (v := .bool qb1) rfl (q_move rfl) (RW.g (b := qb1) (v := pV b1 5) rfl rfl rfl (fun h => q_fieldAddr rfl uT132 rfl sz130 rfl) (RW.g (b := qb1) (v := pV b1 6) rfl rfl rfl (fun h => q_fieldAddr (gv_pos h) uT130 rfl sz60 rfl) (RW.g (b := qb1) (v := v6) rfl rfl rfl (fun h => q_load (gv_pos h) uT60 rfl (Cell.blk 0 rfl rfl)) (RW.g (b := qb1) (v := .bool (decide (Fu.RightC l.Band.Hi))) rfl rfl rfl (fun h => q_call (args := #[v6]) own27 rfl (args1 (gv_pos h)) (fun w1 hw1 => cRight_c w1 (Go.K.hp w1) (Hp.le_refl _) (r6.mono hw1.phi))) ?_)))))
  obtain ⟨qb2, hqb2⟩ : ∃ z : Bool, (qb1 && (decide (Fu.RightC l.Band.Hi))) = z := ⟨_, rfl⟩
  refine RW.q (v := .bool qb2) rfl (q_as (v := .bool (qb1 && (decide (Fu.RightC l.Band.Hi)))) (q_pick rfl (fun hp => (gv_pos hp).trans (pkAndT hp)) (fun hp => pkAndF hp)) (congrArg Value.bool hqb2)) (RW.q (v := .bool qb2) rfl (q_move rfl) (RW.g (b := qb2) (v := pV b1 5) rfl rfl rfl (fun h => q_fieldAddr rfl uT132 rfl sz130 rfl) (RW.g (b := qb2) (v := pV b1 5) rfl rfl rfl (fun h => q_fieldAddr (gv_pos h) uT130 rfl sz60 rfl) (RW.g (b := qb2) (v := v5) rfl rfl rfl (fun h => q_load (gv_pos h) uT60 rfl (Cell.blk 0 rfl rfl)) (RW.g (b := qb2) (v := pV b1 4) rfl rfl rfl (fun h => q_fieldAddr rfl uT132 rfl sz60 rfl) (RW.g (b := qb2) (v := v4) rfl rfl rfl (fun h => q_load (gv_pos h) uT60 rfl (Cell.blk 0 rfl rfl)) (RW.g (b := qb2) (v := .bool (decide (Ba.underC l.Band.Lo l.Rate))) rfl rfl rfl (fun h => q_call (args := #[v5, v4]) own102 rfl (args2 (gv_pos h) (gv_pos h)) (fun w1 hw1 => Under_c w1 (Go.K.hp w1) (Hp.le_refl _) (r5.mono hw1.phi) (r4.mono hw1.phi))) ?_)))))))
  obtain ⟨qb3, hqb3⟩ : ∃ z : Bool, (qb2 && (decide (Ba.underC l.Band.Lo l.Rate))) = z := ⟨_, rfl⟩
  refine RW.q (v := .bool qb3) rfl (q_as (v := .bool (qb2 && (decide (Ba.underC l.Band.Lo l.Rate)))) (q_pick rfl (fun hp => (gv_pos hp).trans (pkAndT hp)) (fun hp => pkAndF hp)) (congrArg Value.bool hqb3)) (RW.q (v := .bool qb3) rfl (q_move rfl) (RW.g (b := qb3) (v := pV b1 4) rfl rfl rfl (fun h => q_fieldAddr rfl uT132 rfl sz60 rfl) (RW.g (b := qb3) (v := v4) rfl rfl rfl (fun h => q_load (gv_pos h) uT60 rfl (Cell.blk 0 rfl rfl)) (RW.g (b := qb3) (v := pV b1 5) rfl rfl rfl (fun h => q_fieldAddr rfl uT132 rfl sz130 rfl) (RW.g (b := qb3) (v := pV b1 6) rfl rfl rfl (fun h => q_fieldAddr (gv_pos h) uT130 rfl sz60 rfl) (RW.g (b := qb3) (v := v6) rfl rfl rfl (fun h => q_load (gv_pos h) uT60 rfl (Cell.blk 0 rfl rfl)) (RW.g (b := qb3) (v := .bool (decide (Ba.underC l.Rate l.Band.Hi))) rfl rfl rfl (fun h => q_call (args := #[v4, v6]) own102 rfl (args2 (gv_pos h) (gv_pos h)) (fun w1 hw1 => Under_c w1 (Go.K.hp w1) (Hp.le_refl _) (r4.mono hw1.phi) (r6.mono hw1.phi))) ?_)))))))
  obtain ⟨qb4, hqb4⟩ : ∃ z : Bool, (qb3 && (decide (Ba.underC l.Rate l.Band.Hi))) = z := ⟨_, rfl⟩
  refine RW.q (v := .bool qb4) rfl (q_as (v := .bool (qb3 && (decide (Ba.underC l.Rate l.Band.Hi)))) (q_pick rfl (fun hp => (gv_pos hp).trans (pkAndT hp)) (fun hp => pkAndF hp)) (congrArg Value.bool hqb4)) ?_
  refine g3 ?_
  refine RW.g (b := qb4) (v := .bool (decide (0 ≤ l.Positions ∧ l.Positions ≤ 64))) rfl rfl rfl (fun h => q_call (args := #[iV l.Positions, iV 0, iV 64]) own78 rfl (args3 (gv_pos h) rfl rfl) (fun w1 hw1 => bIn_c w1 (Go.K.hp w1) (Hp.le_refl _))) ?_
  obtain ⟨qb5, hqb5⟩ : ∃ z : Bool, (qb4 && (decide (0 ≤ l.Positions ∧ l.Positions ≤ 64))) = z := ⟨_, rfl⟩
  refine RW.q (v := .bool qb5) rfl (q_as (v := .bool (qb4 && (decide (0 ≤ l.Positions ∧ l.Positions ≤ 64)))) (q_pick rfl (fun hp => (gv_pos hp).trans (pkAndT hp)) (fun hp => pkAndF hp)) (congrArg Value.bool hqb5)) ?_
  refine g5 ?_
  refine RW.g (b := qb5) (v := .bool (decide (0 ≤ l.Speed ∧ l.Speed ≤ l.Positions))) rfl rfl rfl (fun h => q_call (args := #[iV l.Speed, iV 0, iV l.Positions]) own78 rfl (args3 (gv_pos h) rfl (gv_pos h)) (fun w1 hw1 => bIn_c w1 (Go.K.hp w1) (Hp.le_refl _))) ?_
  obtain ⟨qb6, hqb6⟩ : ∃ z : Bool, (qb5 && (decide (0 ≤ l.Speed ∧ l.Speed ≤ l.Positions))) = z := ⟨_, rfl⟩
  refine RW.q (v := .bool qb6) rfl (q_as (v := .bool (qb5 && (decide (0 ≤ l.Speed ∧ l.Speed ≤ l.Positions)))) (q_pick rfl (fun hp => (gv_pos hp).trans (pkAndT hp)) (fun hp => pkAndF hp)) (congrArg Value.bool hqb6)) ?_
  refine g3 ?_
  refine RW.g (b := qb6) (v := .bool (decide (0 ≤ l.Leak ∧ l.Leak ≤ 1125899906842624))) rfl rfl rfl (fun h => q_call (args := #[iV l.Leak]) own79 rfl (args1 (gv_pos h)) (fun w1 hw1 => bVol_c w1 (Go.K.hp w1) (Hp.le_refl _))) ?_
  obtain ⟨qb7, hqb7⟩ : ∃ z : Bool, (qb6 && (decide (0 ≤ l.Leak ∧ l.Leak ≤ 1125899906842624))) = z := ⟨_, rfl⟩
  refine RW.q (v := .bool qb7) rfl (q_as (v := .bool (qb6 && (decide (0 ≤ l.Leak ∧ l.Leak ≤ 1125899906842624)))) (q_pick rfl (fun hp => (gv_pos hp).trans (pkAndT hp)) (fun hp => pkAndF hp)) (congrArg Value.bool hqb7)) ?_
  refine g5 ?_
  refine RW.g (b := qb7) (v := .bool (decide ((0 ≤ l.BackNum ∧ l.BackNum ≤ 1125899906842624) ∧ (0 ≤ l.BackDen ∧ l.BackDen ≤ 1125899906842624) ∧ (l.BackDen = 0 → l.BackNum = 0)))) rfl rfl rfl (fun h => q_call (args := #[iV l.BackNum, iV l.BackDen]) own82 rfl (args2 (gv_pos h) (gv_pos h)) (fun w1 hw1 => bFrac_c w1 (Go.K.hp w1) (Hp.le_refl _))) ?_
  obtain ⟨qb8, hqb8⟩ : ∃ z : Bool, (qb7 && (decide ((0 ≤ l.BackNum ∧ l.BackNum ≤ 1125899906842624) ∧ (0 ≤ l.BackDen ∧ l.BackDen ≤ 1125899906842624) ∧ (l.BackDen = 0 → l.BackNum = 0)))) = z := ⟨_, rfl⟩
  refine RW.q (v := .bool qb8) rfl (q_as (v := .bool (qb7 && (decide ((0 ≤ l.BackNum ∧ l.BackNum ≤ 1125899906842624) ∧ (0 ≤ l.BackDen ∧ l.BackDen ≤ 1125899906842624) ∧ (l.BackDen = 0 → l.BackNum = 0))))) (q_pick rfl (fun hp => (gv_pos hp).trans (pkAndT hp)) (fun hp => pkAndF hp)) (congrArg Value.bool hqb8)) ?_
  refine g2 ?_
  refine RW.g (b := qb8) (v := iV l.To) rfl rfl rfl (fun h => q_load (gv_pos h) uT3 rfl (Cell.blk 0 rfl rfl)) (RW.g (b := qb8) (v := .bool (!decide (l.To = (-1)))) rfl rfl rfl (fun h => q_neq (gv_pos h) rfl) (RW.g (b := qb8) (v := .bool (!decide (l.To = (-1)))) rfl rfl rfl (fun h => q_move (gv_pos h)) (RW.g2 (b1 := qb8) (b2 := (!decide (l.To = (-1)))) (v := pV b1 16) rfl rfl rfl (fun hg1 hg2 => q_fieldAddr rfl uT132 rfl sz3 rfl) (RW.g2 (b1 := qb8) (b2 := (!decide (l.To = (-1)))) (v := iV l.BackDen) rfl rfl rfl (fun hg1 hg2 => q_load ((gv_pos hg1).trans (gv_pos hg2)) uT3 rfl (Cell.blk 0 rfl rfl)) (RW.g2 (b1 := qb8) (b2 := (!decide (l.To = (-1)))) (v := .bool (decide (l.BackDen = 0))) rfl rfl rfl (fun hg1 hg2 => q_eql ((gv_pos hg1).trans (gv_pos hg2)) rfl) ?_)))))
  obtain ⟨qb9, hqb9⟩ : ∃ z : Bool, ((!decide (l.To = (-1))) || (decide (l.BackDen = 0))) = z := ⟨_, rfl⟩
  refine RW.g (b := qb8) (v := .bool qb9) rfl rfl rfl (fun h => q_as (v := .bool ((!decide (l.To = (-1))) || (decide (l.BackDen = 0)))) (q_pick (gv_pos h) (fun hp => pkOrT hp) (fun hp => (gv_pos h).trans ((gv_pos hp).trans (pkOrF hp)))) (congrArg Value.bool hqb9)) (RW.q (v := .bool (qb8 && qb9)) rfl (q_pick rfl (fun hp => (gv_pos hp).trans (pkAndT hp)) (fun hp => pkAndF hp)) ?_)
  refine g1 ?_
  subst hqb9 hqb8 hqb7 hqb6 hqb5 hqb4 hqb3 hqb2 hqb1
  refine g5 ?_
  exact fin_val (v' := .bool ((((((((((decide (Fu.RightC l.Rate)) && (decide (Fu.RightC l.Band.Lo))) && (decide (Fu.RightC l.Band.Hi))) && (decide (Ba.underC l.Band.Lo l.Rate))) && (decide (Ba.underC l.Rate l.Band.Hi))) && (decide (0 ≤ l.Positions ∧ l.Positions ≤ 64))) && (decide (0 ≤ l.Speed ∧ l.Speed ≤ l.Positions))) && (decide (0 ≤ l.Leak ∧ l.Leak ≤ 1125899906842624))) && (decide ((0 ≤ l.BackNum ∧ l.BackNum ≤ 1125899906842624) ∧ (0 ≤ l.BackDen ∧ l.BackDen ≤ 1125899906842624) ∧ (l.BackDen = 0 → l.BackNum = 0)))) && ((!decide (l.To = (-1))) || (decide (l.BackDen = 0))))) rfl rfl rfl (by first | (exfalso; omega) | (unfold fieldsB; first | rw [if_pos (by omega)] | rw [if_neg (by omega), if_pos (by omega)] | rw [if_neg (by omega), if_neg (by omega), if_pos (by omega)] | rw [if_neg (by omega), if_neg (by omega), if_neg (by omega), if_pos (by omega)] | rw [if_neg (by omega), if_neg (by omega), if_neg (by omega), if_neg (by omega)]))
 ·
  simp [-List.getD_eq_getElem?_getD, -Array.length_toList] at hc1
  refine g7 ?_
  refine AW.cond rfl (fun hc2 => ?_) fun hc2 => ?_
  ·
   simp [-List.getD_eq_getElem?_getD, -Array.length_toList] at hc2
   refine g2 ?_
   refine AW.cond rfl (fun hc3 => ?_) fun hc3 => ?_
   ·
    simp [-List.getD_eq_getElem?_getD, -Array.length_toList] at hc3
    refine g4 ?_
    refine RW.q (v := .bool (decide (0 ≤ l.Crest ∧ l.Crest ≤ 1125899906842624))) rfl (q_call (args := #[iV l.Crest]) own79 rfl rfl (fun w1 hw1 => bVol_c w1 (Go.K.hp w1) (Hp.le_refl _))) ?_
    refine g3 ?_
    refine RW.g (b := (decide (0 ≤ l.Crest ∧ l.Crest ≤ 1125899906842624))) (v := .bool (decide (0 ≤ l.Num ∧ l.Num ≤ 1125899906842624))) rfl rfl rfl (fun h => q_call (args := #[iV l.Num]) own79 rfl (args1 (gv_pos h)) (fun w1 hw1 => bVol_c w1 (Go.K.hp w1) (Hp.le_refl _))) ?_
    obtain ⟨qb10, hqb10⟩ : ∃ z : Bool, ((decide (0 ≤ l.Crest ∧ l.Crest ≤ 1125899906842624)) && (decide (0 ≤ l.Num ∧ l.Num ≤ 1125899906842624))) = z := ⟨_, rfl⟩
    refine RW.q (v := .bool qb10) rfl (q_as (v := .bool ((decide (0 ≤ l.Crest ∧ l.Crest ≤ 1125899906842624)) && (decide (0 ≤ l.Num ∧ l.Num ≤ 1125899906842624)))) (q_pick rfl (fun hp => (gv_pos hp).trans (pkAndT hp)) (fun hp => pkAndF hp)) (congrArg Value.bool hqb10)) ?_
    refine g3 ?_
    refine RW.g (b := qb10) (v := .bool (decide (1 ≤ l.Den ∧ l.Den ≤ 1125899906842624))) rfl rfl rfl (fun h => q_call (args := #[iV l.Den, iV 1, iV 1125899906842624]) own78 rfl (args3 (gv_pos h) rfl rfl) (fun w1 hw1 => bIn_c w1 (Go.K.hp w1) (Hp.le_refl _))) ?_
    obtain ⟨qb11, hqb11⟩ : ∃ z : Bool, (qb10 && (decide (1 ≤ l.Den ∧ l.Den ≤ 1125899906842624))) = z := ⟨_, rfl⟩
    refine RW.q (v := .bool qb11) rfl (q_as (v := .bool (qb10 && (decide (1 ≤ l.Den ∧ l.Den ≤ 1125899906842624)))) (q_pick rfl (fun hp => (gv_pos hp).trans (pkAndT hp)) (fun hp => pkAndF hp)) (congrArg Value.bool hqb11)) ?_
    refine g1 ?_
    subst hqb11 hqb10
    refine g5 ?_
    exact fin_val (v' := .bool (((decide (0 ≤ l.Crest ∧ l.Crest ≤ 1125899906842624)) && (decide (0 ≤ l.Num ∧ l.Num ≤ 1125899906842624))) && (decide (1 ≤ l.Den ∧ l.Den ≤ 1125899906842624)))) rfl rfl rfl (by first | (exfalso; omega) | (unfold fieldsB; first | rw [if_pos (by omega)] | rw [if_neg (by omega), if_pos (by omega)] | rw [if_neg (by omega), if_neg (by omega), if_pos (by omega)] | rw [if_neg (by omega), if_neg (by omega), if_neg (by omega), if_pos (by omega)] | rw [if_neg (by omega), if_neg (by omega), if_neg (by omega), if_neg (by omega)]))
   ·
    simp [-List.getD_eq_getElem?_getD, -Array.length_toList] at hc3
    refine g6 ?_
    refine AW.cond rfl (fun hc4 => ?_) fun hc4 => ?_
    ·
     simp [-List.getD_eq_getElem?_getD, -Array.length_toList] at hc4
     refine g4 ?_
     refine RW.q (v := .bool (decide (0 ≤ l.Num ∧ l.Num ≤ 1125899906842624))) rfl (q_call (args := #[iV l.Num]) own79 rfl rfl (fun w1 hw1 => bVol_c w1 (Go.K.hp w1) (Hp.le_refl _))) ?_
     refine g3 ?_
     refine RW.g (b := (decide (0 ≤ l.Num ∧ l.Num ≤ 1125899906842624))) (v := .bool (decide (1 ≤ l.Positions ∧ l.Positions ≤ 64))) rfl rfl rfl (fun h => q_call (args := #[iV l.Positions, iV 1, iV 64]) own78 rfl (args3 (gv_pos h) rfl rfl) (fun w1 hw1 => bIn_c w1 (Go.K.hp w1) (Hp.le_refl _))) ?_
     obtain ⟨qb12, hqb12⟩ : ∃ z : Bool, ((decide (0 ≤ l.Num ∧ l.Num ≤ 1125899906842624)) && (decide (1 ≤ l.Positions ∧ l.Positions ≤ 64))) = z := ⟨_, rfl⟩
     refine RW.q (v := .bool qb12) rfl (q_as (v := .bool ((decide (0 ≤ l.Num ∧ l.Num ≤ 1125899906842624)) && (decide (1 ≤ l.Positions ∧ l.Positions ≤ 64)))) (q_pick rfl (fun hp => (gv_pos hp).trans (pkAndT hp)) (fun hp => pkAndF hp)) (congrArg Value.bool hqb12)) ?_
     refine g5 ?_
     refine RW.g (b := qb12) (v := .bool (decide (0 ≤ l.Speed ∧ l.Speed ≤ l.Positions))) rfl rfl rfl (fun h => q_call (args := #[iV l.Speed, iV 0, iV l.Positions]) own78 rfl (args3 (gv_pos h) rfl (gv_pos h)) (fun w1 hw1 => bIn_c w1 (Go.K.hp w1) (Hp.le_refl _))) ?_
     obtain ⟨qb13, hqb13⟩ : ∃ z : Bool, (qb12 && (decide (0 ≤ l.Speed ∧ l.Speed ≤ l.Positions))) = z := ⟨_, rfl⟩
     refine RW.q (v := .bool qb13) rfl (q_as (v := .bool (qb12 && (decide (0 ≤ l.Speed ∧ l.Speed ≤ l.Positions)))) (q_pick rfl (fun hp => (gv_pos hp).trans (pkAndT hp)) (fun hp => pkAndF hp)) (congrArg Value.bool hqb13)) ?_
     refine g1 ?_
     subst hqb13 hqb12
     refine g5 ?_
     exact fin_val (v' := .bool (((decide (0 ≤ l.Num ∧ l.Num ≤ 1125899906842624)) && (decide (1 ≤ l.Positions ∧ l.Positions ≤ 64))) && (decide (0 ≤ l.Speed ∧ l.Speed ≤ l.Positions)))) rfl rfl rfl (by first | (exfalso; omega) | (unfold fieldsB; first | rw [if_pos (by omega)] | rw [if_neg (by omega), if_pos (by omega)] | rw [if_neg (by omega), if_neg (by omega), if_pos (by omega)] | rw [if_neg (by omega), if_neg (by omega), if_neg (by omega), if_pos (by omega)] | rw [if_neg (by omega), if_neg (by omega), if_neg (by omega), if_neg (by omega)]))
    ·
     simp [-List.getD_eq_getElem?_getD, -Array.length_toList] at hc4
     refine g6 ?_
     refine AW.cond rfl (fun hc5 => ?_) fun hc5 => ?_
     ·
      simp [-List.getD_eq_getElem?_getD, -Array.length_toList] at hc5
      refine g4 ?_
      refine RW.q (v := .bool (decide (0 ≤ l.Num ∧ l.Num ≤ 1125899906842624))) rfl (q_call (args := #[iV l.Num]) own79 rfl rfl (fun w1 hw1 => bVol_c w1 (Go.K.hp w1) (Hp.le_refl _))) ?_
      refine g3 ?_
      refine RW.g (b := (decide (0 ≤ l.Num ∧ l.Num ≤ 1125899906842624))) (v := .bool (decide (1 ≤ l.Den ∧ l.Den ≤ 1125899906842624))) rfl rfl rfl (fun h => q_call (args := #[iV l.Den, iV 1, iV 1125899906842624]) own78 rfl (args3 (gv_pos h) rfl rfl) (fun w1 hw1 => bIn_c w1 (Go.K.hp w1) (Hp.le_refl _))) ?_
      obtain ⟨qb14, hqb14⟩ : ∃ z : Bool, ((decide (0 ≤ l.Num ∧ l.Num ≤ 1125899906842624)) && (decide (1 ≤ l.Den ∧ l.Den ≤ 1125899906842624))) = z := ⟨_, rfl⟩
      refine RW.q (v := .bool qb14) rfl (q_as (v := .bool ((decide (0 ≤ l.Num ∧ l.Num ≤ 1125899906842624)) && (decide (1 ≤ l.Den ∧ l.Den ≤ 1125899906842624)))) (q_pick rfl (fun hp => (gv_pos hp).trans (pkAndT hp)) (fun hp => pkAndF hp)) (congrArg Value.bool hqb14)) ?_
      refine g3 ?_
      refine RW.g (b := qb14) (v := .bool (decide (0 ≤ l.Prime ∧ l.Prime ≤ 1125899906842624))) rfl rfl rfl (fun h => q_call (args := #[iV l.Prime]) own79 rfl (args1 (gv_pos h)) (fun w1 hw1 => bVol_c w1 (Go.K.hp w1) (Hp.le_refl _))) ?_
      obtain ⟨qb15, hqb15⟩ : ∃ z : Bool, (qb14 && (decide (0 ≤ l.Prime ∧ l.Prime ≤ 1125899906842624))) = z := ⟨_, rfl⟩
      refine RW.q (v := .bool qb15) rfl (q_as (v := .bool (qb14 && (decide (0 ≤ l.Prime ∧ l.Prime ≤ 1125899906842624)))) (q_pick rfl (fun hp => (gv_pos hp).trans (pkAndT hp)) (fun hp => pkAndF hp)) (congrArg Value.bool hqb15)) ?_
      refine g3 ?_
      refine RW.g (b := qb15) (v := .bool (decide (0 ≤ l.Break ∧ l.Break ≤ 1125899906842624))) rfl rfl rfl (fun h => q_call (args := #[iV l.Break]) own79 rfl (args1 (gv_pos h)) (fun w1 hw1 => bVol_c w1 (Go.K.hp w1) (Hp.le_refl _))) ?_
      obtain ⟨qb16, hqb16⟩ : ∃ z : Bool, (qb15 && (decide (0 ≤ l.Break ∧ l.Break ≤ 1125899906842624))) = z := ⟨_, rfl⟩
      refine RW.q (v := .bool qb16) rfl (q_as (v := .bool (qb15 && (decide (0 ≤ l.Break ∧ l.Break ≤ 1125899906842624)))) (q_pick rfl (fun hp => (gv_pos hp).trans (pkAndT hp)) (fun hp => pkAndF hp)) (congrArg Value.bool hqb16)) ?_
      refine g6 ?_
      obtain ⟨qb17, hqb17⟩ : ∃ z : Bool, (qb16 && (decide (l.Break < l.Prime))) = z := ⟨_, rfl⟩
      refine RW.q (v := .bool qb17) rfl (q_as (v := .bool (qb16 && (decide (l.Break < l.Prime)))) (q_pick rfl (fun hp => (gv_pos hp).trans (pkAndT hp)) (fun hp => pkAndF hp)) (congrArg Value.bool hqb17)) ?_
      refine g1 ?_
      subst hqb17 hqb16 hqb15 hqb14
      refine g5 ?_
      exact fin_val (v' := .bool (((((decide (0 ≤ l.Num ∧ l.Num ≤ 1125899906842624)) && (decide (1 ≤ l.Den ∧ l.Den ≤ 1125899906842624))) && (decide (0 ≤ l.Prime ∧ l.Prime ≤ 1125899906842624))) && (decide (0 ≤ l.Break ∧ l.Break ≤ 1125899906842624))) && (decide (l.Break < l.Prime)))) rfl rfl rfl (by first | (exfalso; omega) | (unfold fieldsB; first | rw [if_pos (by omega)] | rw [if_neg (by omega), if_pos (by omega)] | rw [if_neg (by omega), if_neg (by omega), if_pos (by omega)] | rw [if_neg (by omega), if_neg (by omega), if_neg (by omega), if_pos (by omega)] | rw [if_neg (by omega), if_neg (by omega), if_neg (by omega), if_neg (by omega)]))
     ·
      simp [-List.getD_eq_getElem?_getD, -Array.length_toList] at hc5
      refine g7 ?_
      refine RW.q (v := .bool (decide (0 ≤ l.Num ∧ l.Num ≤ 1125899906842624))) rfl (q_call (args := #[iV l.Num]) own79 rfl rfl (fun w1 hw1 => bVol_c w1 (Go.K.hp w1) (Hp.le_refl _))) ?_
      refine g3 ?_
      refine RW.g (b := (decide (0 ≤ l.Num ∧ l.Num ≤ 1125899906842624))) (v := .bool (decide (1 ≤ l.Den ∧ l.Den ≤ 1125899906842624))) rfl rfl rfl (fun h => q_call (args := #[iV l.Den, iV 1, iV 1125899906842624]) own78 rfl (args3 (gv_pos h) rfl rfl) (fun w1 hw1 => bIn_c w1 (Go.K.hp w1) (Hp.le_refl _))) ?_
      obtain ⟨qb18, hqb18⟩ : ∃ z : Bool, ((decide (0 ≤ l.Num ∧ l.Num ≤ 1125899906842624)) && (decide (1 ≤ l.Den ∧ l.Den ≤ 1125899906842624))) = z := ⟨_, rfl⟩
      refine RW.q (v := .bool qb18) rfl (q_as (v := .bool ((decide (0 ≤ l.Num ∧ l.Num ≤ 1125899906842624)) && (decide (1 ≤ l.Den ∧ l.Den ≤ 1125899906842624)))) (q_pick rfl (fun hp => (gv_pos hp).trans (pkAndT hp)) (fun hp => pkAndF hp)) (congrArg Value.bool hqb18)) ?_
      refine g5 ?_
      refine RW.g (b := qb18) (v := .bool (decide ((0 ≤ l.BackNum ∧ l.BackNum ≤ 1125899906842624) ∧ (0 ≤ l.BackDen ∧ l.BackDen ≤ 1125899906842624) ∧ (l.BackDen = 0 → l.BackNum = 0)))) rfl rfl rfl (fun h => q_call (args := #[iV l.BackNum, iV l.BackDen]) own82 rfl (args2 (gv_pos h) (gv_pos h)) (fun w1 hw1 => bFrac_c w1 (Go.K.hp w1) (Hp.le_refl _))) ?_
      obtain ⟨qb19, hqb19⟩ : ∃ z : Bool, (qb18 && (decide ((0 ≤ l.BackNum ∧ l.BackNum ≤ 1125899906842624) ∧ (0 ≤ l.BackDen ∧ l.BackDen ≤ 1125899906842624) ∧ (l.BackDen = 0 → l.BackNum = 0)))) = z := ⟨_, rfl⟩
      refine RW.q (v := .bool qb19) rfl (q_as (v := .bool (qb18 && (decide ((0 ≤ l.BackNum ∧ l.BackNum ≤ 1125899906842624) ∧ (0 ≤ l.BackDen ∧ l.BackDen ≤ 1125899906842624) ∧ (l.BackDen = 0 → l.BackNum = 0))))) (q_pick rfl (fun hp => (gv_pos hp).trans (pkAndT hp)) (fun hp => pkAndF hp)) (congrArg Value.bool hqb19)) ?_
      refine g4 ?_
      refine RW.q (v := .bool (qb19 && (!decide (l.To = (-1))))) rfl (q_pick rfl (fun hp => (gv_pos hp).trans (pkAndT hp)) (fun hp => pkAndF hp)) ?_
      refine g1 ?_
      subst hqb19 hqb18
      refine g3 ?_
      exact fin_val (v' := .bool ((((decide (0 ≤ l.Num ∧ l.Num ≤ 1125899906842624)) && (decide (1 ≤ l.Den ∧ l.Den ≤ 1125899906842624))) && (decide ((0 ≤ l.BackNum ∧ l.BackNum ≤ 1125899906842624) ∧ (0 ≤ l.BackDen ∧ l.BackDen ≤ 1125899906842624) ∧ (l.BackDen = 0 → l.BackNum = 0)))) && (!decide (l.To = (-1))))) rfl rfl rfl (by first | (exfalso; omega) | (unfold fieldsB; first | rw [if_pos (by omega)] | rw [if_neg (by omega), if_pos (by omega)] | rw [if_neg (by omega), if_neg (by omega), if_pos (by omega)] | rw [if_neg (by omega), if_neg (by omega), if_neg (by omega), if_pos (by omega)] | rw [if_neg (by omega), if_neg (by omega), if_neg (by omega), if_neg (by omega)]))
  ·
   simp [-List.getD_eq_getElem?_getD, -Array.length_toList] at hc2
   refine g5 ?_
   refine AW.cond rfl (fun hc6 => ?_) fun hc6 => ?_
   ·
    simp [-List.getD_eq_getElem?_getD, -Array.length_toList] at hc6
    refine g4 ?_
    refine RW.q (v := .bool (decide (0 ≤ l.Crest ∧ l.Crest ≤ 1125899906842624))) rfl (q_call (args := #[iV l.Crest]) own79 rfl rfl (fun w1 hw1 => bVol_c w1 (Go.K.hp w1) (Hp.le_refl _))) ?_
    refine g3 ?_
    refine RW.g (b := (decide (0 ≤ l.Crest ∧ l.Crest ≤ 1125899906842624))) (v := .bool (decide (0 ≤ l.Num ∧ l.Num ≤ 1125899906842624))) rfl rfl rfl (fun h => q_call (args := #[iV l.Num]) own79 rfl (args1 (gv_pos h)) (fun w1 hw1 => bVol_c w1 (Go.K.hp w1) (Hp.le_refl _))) ?_
    obtain ⟨qb20, hqb20⟩ : ∃ z : Bool, ((decide (0 ≤ l.Crest ∧ l.Crest ≤ 1125899906842624)) && (decide (0 ≤ l.Num ∧ l.Num ≤ 1125899906842624))) = z := ⟨_, rfl⟩
    refine RW.q (v := .bool qb20) rfl (q_as (v := .bool ((decide (0 ≤ l.Crest ∧ l.Crest ≤ 1125899906842624)) && (decide (0 ≤ l.Num ∧ l.Num ≤ 1125899906842624)))) (q_pick rfl (fun hp => (gv_pos hp).trans (pkAndT hp)) (fun hp => pkAndF hp)) (congrArg Value.bool hqb20)) ?_
    refine g3 ?_
    refine RW.g (b := qb20) (v := .bool (decide (1 ≤ l.Den ∧ l.Den ≤ 1125899906842624))) rfl rfl rfl (fun h => q_call (args := #[iV l.Den, iV 1, iV 1125899906842624]) own78 rfl (args3 (gv_pos h) rfl rfl) (fun w1 hw1 => bIn_c w1 (Go.K.hp w1) (Hp.le_refl _))) ?_
    obtain ⟨qb21, hqb21⟩ : ∃ z : Bool, (qb20 && (decide (1 ≤ l.Den ∧ l.Den ≤ 1125899906842624))) = z := ⟨_, rfl⟩
    refine RW.q (v := .bool qb21) rfl (q_as (v := .bool (qb20 && (decide (1 ≤ l.Den ∧ l.Den ≤ 1125899906842624)))) (q_pick rfl (fun hp => (gv_pos hp).trans (pkAndT hp)) (fun hp => pkAndF hp)) (congrArg Value.bool hqb21)) ?_
    refine g1 ?_
    subst hqb21 hqb20
    refine g5 ?_
    exact fin_val (v' := .bool (((decide (0 ≤ l.Crest ∧ l.Crest ≤ 1125899906842624)) && (decide (0 ≤ l.Num ∧ l.Num ≤ 1125899906842624))) && (decide (1 ≤ l.Den ∧ l.Den ≤ 1125899906842624)))) rfl rfl rfl (by first | (exfalso; omega) | (unfold fieldsB; first | rw [if_pos (by omega)] | rw [if_neg (by omega), if_pos (by omega)] | rw [if_neg (by omega), if_neg (by omega), if_pos (by omega)] | rw [if_neg (by omega), if_neg (by omega), if_neg (by omega), if_pos (by omega)] | rw [if_neg (by omega), if_neg (by omega), if_neg (by omega), if_neg (by omega)]))
   ·
    simp [-List.getD_eq_getElem?_getD, -Array.length_toList] at hc6
    refine g6 ?_
    refine AW.cond rfl (fun hc7 => ?_) fun hc7 => ?_
    ·
     simp [-List.getD_eq_getElem?_getD, -Array.length_toList] at hc7
     refine g4 ?_
     refine RW.q (v := .bool (decide (0 ≤ l.Num ∧ l.Num ≤ 1125899906842624))) rfl (q_call (args := #[iV l.Num]) own79 rfl rfl (fun w1 hw1 => bVol_c w1 (Go.K.hp w1) (Hp.le_refl _))) ?_
     refine g3 ?_
     refine RW.g (b := (decide (0 ≤ l.Num ∧ l.Num ≤ 1125899906842624))) (v := .bool (decide (1 ≤ l.Positions ∧ l.Positions ≤ 64))) rfl rfl rfl (fun h => q_call (args := #[iV l.Positions, iV 1, iV 64]) own78 rfl (args3 (gv_pos h) rfl rfl) (fun w1 hw1 => bIn_c w1 (Go.K.hp w1) (Hp.le_refl _))) ?_
     obtain ⟨qb22, hqb22⟩ : ∃ z : Bool, ((decide (0 ≤ l.Num ∧ l.Num ≤ 1125899906842624)) && (decide (1 ≤ l.Positions ∧ l.Positions ≤ 64))) = z := ⟨_, rfl⟩
     refine RW.q (v := .bool qb22) rfl (q_as (v := .bool ((decide (0 ≤ l.Num ∧ l.Num ≤ 1125899906842624)) && (decide (1 ≤ l.Positions ∧ l.Positions ≤ 64)))) (q_pick rfl (fun hp => (gv_pos hp).trans (pkAndT hp)) (fun hp => pkAndF hp)) (congrArg Value.bool hqb22)) ?_
     refine g5 ?_
     refine RW.g (b := qb22) (v := .bool (decide (0 ≤ l.Speed ∧ l.Speed ≤ l.Positions))) rfl rfl rfl (fun h => q_call (args := #[iV l.Speed, iV 0, iV l.Positions]) own78 rfl (args3 (gv_pos h) rfl (gv_pos h)) (fun w1 hw1 => bIn_c w1 (Go.K.hp w1) (Hp.le_refl _))) ?_
     obtain ⟨qb23, hqb23⟩ : ∃ z : Bool, (qb22 && (decide (0 ≤ l.Speed ∧ l.Speed ≤ l.Positions))) = z := ⟨_, rfl⟩
     refine RW.q (v := .bool qb23) rfl (q_as (v := .bool (qb22 && (decide (0 ≤ l.Speed ∧ l.Speed ≤ l.Positions)))) (q_pick rfl (fun hp => (gv_pos hp).trans (pkAndT hp)) (fun hp => pkAndF hp)) (congrArg Value.bool hqb23)) ?_
     refine g1 ?_
     subst hqb23 hqb22
     refine g5 ?_
     exact fin_val (v' := .bool (((decide (0 ≤ l.Num ∧ l.Num ≤ 1125899906842624)) && (decide (1 ≤ l.Positions ∧ l.Positions ≤ 64))) && (decide (0 ≤ l.Speed ∧ l.Speed ≤ l.Positions)))) rfl rfl rfl (by first | (exfalso; omega) | (unfold fieldsB; first | rw [if_pos (by omega)] | rw [if_neg (by omega), if_pos (by omega)] | rw [if_neg (by omega), if_neg (by omega), if_pos (by omega)] | rw [if_neg (by omega), if_neg (by omega), if_neg (by omega), if_pos (by omega)] | rw [if_neg (by omega), if_neg (by omega), if_neg (by omega), if_neg (by omega)]))
    ·
     simp [-List.getD_eq_getElem?_getD, -Array.length_toList] at hc7
     refine g6 ?_
     refine AW.cond rfl (fun hc8 => ?_) fun hc8 => ?_
     ·
      simp [-List.getD_eq_getElem?_getD, -Array.length_toList] at hc8
      refine g4 ?_
      refine RW.q (v := .bool (decide (0 ≤ l.Num ∧ l.Num ≤ 1125899906842624))) rfl (q_call (args := #[iV l.Num]) own79 rfl rfl (fun w1 hw1 => bVol_c w1 (Go.K.hp w1) (Hp.le_refl _))) ?_
      refine g3 ?_
      refine RW.g (b := (decide (0 ≤ l.Num ∧ l.Num ≤ 1125899906842624))) (v := .bool (decide (1 ≤ l.Den ∧ l.Den ≤ 1125899906842624))) rfl rfl rfl (fun h => q_call (args := #[iV l.Den, iV 1, iV 1125899906842624]) own78 rfl (args3 (gv_pos h) rfl rfl) (fun w1 hw1 => bIn_c w1 (Go.K.hp w1) (Hp.le_refl _))) ?_
      obtain ⟨qb24, hqb24⟩ : ∃ z : Bool, ((decide (0 ≤ l.Num ∧ l.Num ≤ 1125899906842624)) && (decide (1 ≤ l.Den ∧ l.Den ≤ 1125899906842624))) = z := ⟨_, rfl⟩
      refine RW.q (v := .bool qb24) rfl (q_as (v := .bool ((decide (0 ≤ l.Num ∧ l.Num ≤ 1125899906842624)) && (decide (1 ≤ l.Den ∧ l.Den ≤ 1125899906842624)))) (q_pick rfl (fun hp => (gv_pos hp).trans (pkAndT hp)) (fun hp => pkAndF hp)) (congrArg Value.bool hqb24)) ?_
      refine g3 ?_
      refine RW.g (b := qb24) (v := .bool (decide (0 ≤ l.Prime ∧ l.Prime ≤ 1125899906842624))) rfl rfl rfl (fun h => q_call (args := #[iV l.Prime]) own79 rfl (args1 (gv_pos h)) (fun w1 hw1 => bVol_c w1 (Go.K.hp w1) (Hp.le_refl _))) ?_
      obtain ⟨qb25, hqb25⟩ : ∃ z : Bool, (qb24 && (decide (0 ≤ l.Prime ∧ l.Prime ≤ 1125899906842624))) = z := ⟨_, rfl⟩
      refine RW.q (v := .bool qb25) rfl (q_as (v := .bool (qb24 && (decide (0 ≤ l.Prime ∧ l.Prime ≤ 1125899906842624)))) (q_pick rfl (fun hp => (gv_pos hp).trans (pkAndT hp)) (fun hp => pkAndF hp)) (congrArg Value.bool hqb25)) ?_
      refine g3 ?_
      refine RW.g (b := qb25) (v := .bool (decide (0 ≤ l.Break ∧ l.Break ≤ 1125899906842624))) rfl rfl rfl (fun h => q_call (args := #[iV l.Break]) own79 rfl (args1 (gv_pos h)) (fun w1 hw1 => bVol_c w1 (Go.K.hp w1) (Hp.le_refl _))) ?_
      obtain ⟨qb26, hqb26⟩ : ∃ z : Bool, (qb25 && (decide (0 ≤ l.Break ∧ l.Break ≤ 1125899906842624))) = z := ⟨_, rfl⟩
      refine RW.q (v := .bool qb26) rfl (q_as (v := .bool (qb25 && (decide (0 ≤ l.Break ∧ l.Break ≤ 1125899906842624)))) (q_pick rfl (fun hp => (gv_pos hp).trans (pkAndT hp)) (fun hp => pkAndF hp)) (congrArg Value.bool hqb26)) ?_
      refine g6 ?_
      obtain ⟨qb27, hqb27⟩ : ∃ z : Bool, (qb26 && (decide (l.Break < l.Prime))) = z := ⟨_, rfl⟩
      refine RW.q (v := .bool qb27) rfl (q_as (v := .bool (qb26 && (decide (l.Break < l.Prime)))) (q_pick rfl (fun hp => (gv_pos hp).trans (pkAndT hp)) (fun hp => pkAndF hp)) (congrArg Value.bool hqb27)) ?_
      refine g1 ?_
      subst hqb27 hqb26 hqb25 hqb24
      refine g5 ?_
      exact fin_val (v' := .bool (((((decide (0 ≤ l.Num ∧ l.Num ≤ 1125899906842624)) && (decide (1 ≤ l.Den ∧ l.Den ≤ 1125899906842624))) && (decide (0 ≤ l.Prime ∧ l.Prime ≤ 1125899906842624))) && (decide (0 ≤ l.Break ∧ l.Break ≤ 1125899906842624))) && (decide (l.Break < l.Prime)))) rfl rfl rfl (by first | (exfalso; omega) | (unfold fieldsB; first | rw [if_pos (by omega)] | rw [if_neg (by omega), if_pos (by omega)] | rw [if_neg (by omega), if_neg (by omega), if_pos (by omega)] | rw [if_neg (by omega), if_neg (by omega), if_neg (by omega), if_pos (by omega)] | rw [if_neg (by omega), if_neg (by omega), if_neg (by omega), if_neg (by omega)]))
     ·
      simp [-List.getD_eq_getElem?_getD, -Array.length_toList] at hc8
      refine g7 ?_
      refine RW.q (v := .bool (decide (0 ≤ l.Num ∧ l.Num ≤ 1125899906842624))) rfl (q_call (args := #[iV l.Num]) own79 rfl rfl (fun w1 hw1 => bVol_c w1 (Go.K.hp w1) (Hp.le_refl _))) ?_
      refine g3 ?_
      refine RW.g (b := (decide (0 ≤ l.Num ∧ l.Num ≤ 1125899906842624))) (v := .bool (decide (1 ≤ l.Den ∧ l.Den ≤ 1125899906842624))) rfl rfl rfl (fun h => q_call (args := #[iV l.Den, iV 1, iV 1125899906842624]) own78 rfl (args3 (gv_pos h) rfl rfl) (fun w1 hw1 => bIn_c w1 (Go.K.hp w1) (Hp.le_refl _))) ?_
      obtain ⟨qb28, hqb28⟩ : ∃ z : Bool, ((decide (0 ≤ l.Num ∧ l.Num ≤ 1125899906842624)) && (decide (1 ≤ l.Den ∧ l.Den ≤ 1125899906842624))) = z := ⟨_, rfl⟩
      refine RW.q (v := .bool qb28) rfl (q_as (v := .bool ((decide (0 ≤ l.Num ∧ l.Num ≤ 1125899906842624)) && (decide (1 ≤ l.Den ∧ l.Den ≤ 1125899906842624)))) (q_pick rfl (fun hp => (gv_pos hp).trans (pkAndT hp)) (fun hp => pkAndF hp)) (congrArg Value.bool hqb28)) ?_
      refine g5 ?_
      refine RW.g (b := qb28) (v := .bool (decide ((0 ≤ l.BackNum ∧ l.BackNum ≤ 1125899906842624) ∧ (0 ≤ l.BackDen ∧ l.BackDen ≤ 1125899906842624) ∧ (l.BackDen = 0 → l.BackNum = 0)))) rfl rfl rfl (fun h => q_call (args := #[iV l.BackNum, iV l.BackDen]) own82 rfl (args2 (gv_pos h) (gv_pos h)) (fun w1 hw1 => bFrac_c w1 (Go.K.hp w1) (Hp.le_refl _))) ?_
      obtain ⟨qb29, hqb29⟩ : ∃ z : Bool, (qb28 && (decide ((0 ≤ l.BackNum ∧ l.BackNum ≤ 1125899906842624) ∧ (0 ≤ l.BackDen ∧ l.BackDen ≤ 1125899906842624) ∧ (l.BackDen = 0 → l.BackNum = 0)))) = z := ⟨_, rfl⟩
      refine RW.q (v := .bool qb29) rfl (q_as (v := .bool (qb28 && (decide ((0 ≤ l.BackNum ∧ l.BackNum ≤ 1125899906842624) ∧ (0 ≤ l.BackDen ∧ l.BackDen ≤ 1125899906842624) ∧ (l.BackDen = 0 → l.BackNum = 0))))) (q_pick rfl (fun hp => (gv_pos hp).trans (pkAndT hp)) (fun hp => pkAndF hp)) (congrArg Value.bool hqb29)) ?_
      refine g4 ?_
      refine RW.q (v := .bool (qb29 && (!decide (l.To = (-1))))) rfl (q_pick rfl (fun hp => (gv_pos hp).trans (pkAndT hp)) (fun hp => pkAndF hp)) ?_
      refine g1 ?_
      subst hqb29 hqb28
      refine g3 ?_
      exact fin_val (v' := .bool ((((decide (0 ≤ l.Num ∧ l.Num ≤ 1125899906842624)) && (decide (1 ≤ l.Den ∧ l.Den ≤ 1125899906842624))) && (decide ((0 ≤ l.BackNum ∧ l.BackNum ≤ 1125899906842624) ∧ (0 ≤ l.BackDen ∧ l.BackDen ≤ 1125899906842624) ∧ (l.BackDen = 0 → l.BackNum = 0)))) && (!decide (l.To = (-1))))) rfl rfl rfl (by first | (exfalso; omega) | (unfold fieldsB; first | rw [if_pos (by omega)] | rw [if_neg (by omega), if_pos (by omega)] | rw [if_neg (by omega), if_neg (by omega), if_pos (by omega)] | rw [if_neg (by omega), if_neg (by omega), if_neg (by omega), if_pos (by omega)] | rw [if_neg (by omega), if_neg (by omega), if_neg (by omega), if_neg (by omega)]))
def unusedB (l : Bt.Link) : Bool := !(((!(decide (l.Kind = 0))) && ((((decide ((0 : Int) < (l.Rate.length : Int))) || (decide ((0 : Int) < (l.Band.Lo.length : Int)))) || (decide ((0 : Int) < (l.Band.Hi.length : Int)))) || (!decide (l.Leak = 0))))) && (!(((!(decide (l.Kind = 0))) && (!decide (l.Kind = 2))) && ((!decide (l.Positions = 0)) || (!decide (l.Speed = 0)))) && (!(((!decide (l.Kind = 1)) && (!decide (l.Kind = 5))) && (!decide (l.Crest = 0))) && (!((((decide (l.Kind = 0)) && (!decide (l.Num = 0))) || (((decide (l.Kind = 0)) || (decide (l.Kind = 2))) && (!decide (l.Den = 0))))) && (!((!decide (l.Kind = 3)) && ((!decide (l.Prime = 0)) || (!decide (l.Break = 0)))) && (((decide (l.Kind = 0)) || (decide (l.Kind = 4))) || ((decide (l.BackNum = 0)) && (decide (l.BackDen = 0))))))))
theorem unused_c (w : World) (Φ : Hp) (hΦ : Hp.le Φ (hp w)) {l : Bt.Link} {cs : List Value} (hL : RepV Φ l cs) :
  Calls Try.prog 86 #[.agg cs.toArray] w fun e w' => e = .returned (.bool (unusedB l)) ∧ Bel w.heap.size w w' := by
 obtain ⟨v4, v5, v6, hcs, hLw, r4, r5, r6⟩ := (show Rep.rep Φ l cs from hL)
 subst hcs
 refine calls_of_AW (args := [.agg (cl132 l v4 v5 v6).toArray]) Try.func86 rfl (Nat.le_of_ble_eq_true rfl) (St ⟨w, Φ, []⟩ Φ []) (StP.init w Φ hΦ []) ?_
 show AW Try.prog 112 [] _ _ _ [(0, .agg (cl132 l v4 v5 v6).toArray)] _
 refine g2 ?_
 refine RW.eff (fun b1 : Nat => pV b1 0) (fun b1 => St ⟨w, Φ, []⟩ Φ [.blk b1 132 (cl132 l v4 v5 v6)]) rfl (e_boxA (cs := cl132 l v4 v5 v6) rfl) ?_
 intro b1
 refine RW.q (v := .bool false) rfl (q_assign rfl) (RW.nil (Post.then_n (AW.seq (AW.region (RW.q (v := pV b1 1) rfl (q_fieldAddr rfl uT132 rfl sz3 rfl) (RW.q (v := iV l.Kind) rfl (q_load rfl uT3 rfl (Cell.blk 0 rfl rfl)) (RW.q (v := .bool (decide (l.Kind = 0))) rfl (q_eql rfl rfl) (RW.q (v := .bool (decide (l.Kind = 0))) rfl (q_assign rfl) (RW.nil ?_)))))))))
 refine Post.then_n (AW.seq (AW.seq (AW.region (RW.q (v := .bool (decide (l.Kind = 0))) rfl (q_move rfl) (RW.q (v := .bool (!(decide (l.Kind = 0)))) rfl (q_not rfl) (RW.q (v := .bool (!(decide (l.Kind = 0)))) rfl (q_move rfl) (RW.g (b := (!(decide (l.Kind = 0)))) (v := pV b1 4) rfl rfl rfl (fun h => q_fieldAddr rfl uT132 rfl sz60 rfl) (RW.g (b := (!(decide (l.Kind = 0)))) (v := v4) rfl rfl rfl (fun h => q_load (gv_pos h) uT60 rfl (Cell.blk 0 rfl rfl)) (RW.g (b := (!(decide (l.Kind = 0)))) (v := iV (l.Rate.length : Int)) rfl rfl rfl (fun h => q_len_sl (gv_pos h) r4.sl uT60) ?_)))))))))
 refine RW.g (b := (!(decide (l.Kind = 0)))) (v := .bool (decide ((0 : Int) < (l.Rate.length : Int)))) rfl rfl rfl (fun h => q_gtr (gv_pos h) rfl) (RW.g (b := (!(decide (l.Kind = 0)))) (v := .bool (decide ((0 : Int) < (l.Rate.length : Int)))) rfl rfl rfl (fun h => q_move (gv_pos h)) (RW.g2 (b1 := (!(decide (l.Kind = 0)))) (b2 := (decide ((0 : Int) < (l.Rate.length : Int)))) (v := pV b1 5) rfl rfl rfl (fun hg1 hg2 => q_fieldAddr rfl uT132 rfl sz130 rfl) (RW.g2 (b1 := (!(decide (l.Kind = 0)))) (b2 := (decide ((0 : Int) < (l.Rate.length : Int)))) (v := pV b1 5) rfl rfl rfl (fun hg1 hg2 => q_fieldAddr ((gv_pos hg1).trans (gv_pos hg2)) uT130 rfl sz60 rfl) (RW.g2 (b1 := (!(decide (l.Kind = 0)))) (b2 := (decide ((0 : Int) < (l.Rate.length : Int)))) (v := v5) rfl rfl rfl (fun hg1 hg2 => q_load ((gv_pos hg1).trans (gv_pos hg2)) uT60 rfl (Cell.blk 0 rfl rfl)) (RW.g2 (b1 := (!(decide (l.Kind = 0)))) (b2 := (decide ((0 : Int) < (l.Rate.length : Int)))) (v := iV (l.Band.Lo.length : Int)) rfl rfl rfl (fun hg1 hg2 => q_len_sl ((gv_pos hg1).trans (gv_pos hg2)) r5.sl uT60) (RW.g2 (b1 := (!(decide (l.Kind = 0)))) (b2 := (decide ((0 : Int) < (l.Rate.length : Int)))) (v := .bool (decide ((0 : Int) < (l.Band.Lo.length : Int)))) rfl rfl rfl (fun hg1 hg2 => q_gtr ((gv_pos hg1).trans (gv_pos hg2)) rfl) ?_))))))
 obtain ⟨qb1, hqb1⟩ : ∃ z : Bool, ((decide ((0 : Int) < (l.Rate.length : Int))) || (decide ((0 : Int) < (l.Band.Lo.length : Int)))) = z := ⟨_, rfl⟩
 refine RW.g (b := (!(decide (l.Kind = 0)))) (v := .bool qb1) rfl rfl rfl (fun h => q_as (v := .bool ((decide ((0 : Int) < (l.Rate.length : Int))) || (decide ((0 : Int) < (l.Band.Lo.length : Int))))) (q_pick (gv_pos h) (fun hp => pkOrT hp) (fun hp => (gv_pos h).trans ((gv_pos hp).trans (pkOrF hp)))) (congrArg Value.bool hqb1)) (RW.g (b := (!(decide (l.Kind = 0)))) (v := .bool qb1) rfl rfl rfl (fun h => q_move (gv_pos h)) (RW.g2 (b1 := (!(decide (l.Kind = 0)))) (b2 := qb1) (v := pV b1 5) rfl rfl rfl (fun hg1 hg2 => q_fieldAddr rfl uT132 rfl sz130 rfl) (RW.g2 (b1 := (!(decide (l.Kind = 0)))) (b2 := qb1) (v := pV b1 6) rfl rfl rfl (fun hg1 hg2 => q_fieldAddr ((gv_pos hg1).trans (gv_pos hg2)) uT130 rfl sz60 rfl) (RW.g2 (b1 := (!(decide (l.Kind = 0)))) (b2 := qb1) (v := v6) rfl rfl rfl (fun hg1 hg2 => q_load ((gv_pos hg1).trans (gv_pos hg2)) uT60 rfl (Cell.blk 0 rfl rfl)) (RW.g2 (b1 := (!(decide (l.Kind = 0)))) (b2 := qb1) (v := iV (l.Band.Hi.length : Int)) rfl rfl rfl (fun hg1 hg2 => q_len_sl ((gv_pos hg1).trans (gv_pos hg2)) r6.sl uT60) (RW.g2 (b1 := (!(decide (l.Kind = 0)))) (b2 := qb1) (v := .bool (decide ((0 : Int) < (l.Band.Hi.length : Int)))) rfl rfl rfl (fun hg1 hg2 => q_gtr ((gv_pos hg1).trans (gv_pos hg2)) rfl) ?_))))))
 obtain ⟨qb2, hqb2⟩ : ∃ z : Bool, (qb1 || (decide ((0 : Int) < (l.Band.Hi.length : Int)))) = z := ⟨_, rfl⟩
 refine RW.g (b := (!(decide (l.Kind = 0)))) (v := .bool qb2) rfl rfl rfl (fun h => q_as (v := .bool (qb1 || (decide ((0 : Int) < (l.Band.Hi.length : Int))))) (q_pick (gv_pos h) (fun hp => pkOrT hp) (fun hp => (gv_pos h).trans ((gv_pos hp).trans (pkOrF hp)))) (congrArg Value.bool hqb2)) (RW.g (b := (!(decide (l.Kind = 0)))) (v := .bool qb2) rfl rfl rfl (fun h => q_move (gv_pos h)) (RW.g2 (b1 := (!(decide (l.Kind = 0)))) (b2 := qb2) (v := pV b1 9) rfl rfl rfl (fun hg1 hg2 => q_fieldAddr rfl uT132 rfl sz3 rfl) (RW.g2 (b1 := (!(decide (l.Kind = 0)))) (b2 := qb2) (v := iV l.Leak) rfl rfl rfl (fun hg1 hg2 => q_load ((gv_pos hg1).trans (gv_pos hg2)) uT3 rfl (Cell.blk 0 rfl rfl)) (RW.g2 (b1 := (!(decide (l.Kind = 0)))) (b2 := qb2) (v := .bool (!decide (l.Leak = 0))) rfl rfl rfl (fun hg1 hg2 => q_neq ((gv_pos hg1).trans (gv_pos hg2)) rfl) (RW.g (b := (!(decide (l.Kind = 0)))) (v := .bool (qb2 || (!decide (l.Leak = 0)))) rfl rfl rfl (fun h => q_pick (gv_pos h) (fun hp => pkOrT hp) (fun hp => (gv_pos h).trans ((gv_pos hp).trans (pkOrF hp)))) ?_)))))
 obtain ⟨qb3, hqb3⟩ : ∃ z : Bool, ((!(decide (l.Kind = 0))) && (qb2 || (!decide (l.Leak = 0)))) = z := ⟨_, rfl⟩
 refine RW.q (v := .bool qb3) rfl (q_as (v := .bool ((!(decide (l.Kind = 0))) && (qb2 || (!decide (l.Leak = 0))))) (q_pick rfl (fun hp => (gv_pos hp).trans (pkAndT hp)) (fun hp => pkAndF hp)) (congrArg Value.bool hqb3)) ?_
 subst hqb3 hqb2 hqb1
 refine g2 ?_
 refine AW.cond rfl (fun hc1 => ?_) fun hc1 => ?_
 ·
  refine g7 ?_
  exact fin_val (v' := .bool false) rfl rfl rfl (by unfold unusedB; rw [hc1]; rfl)
 ·
  refine g11 ?_
  obtain ⟨qb4, hqb4⟩ : ∃ z : Bool, ((!(decide (l.Kind = 0))) && (!decide (l.Kind = 2))) = z := ⟨_, rfl⟩
  refine RW.q (v := .bool qb4) rfl (q_as (v := .bool ((!(decide (l.Kind = 0))) && (!decide (l.Kind = 2)))) (q_pick rfl (fun hp => (gv_pos hp).trans (pkAndT hp)) (fun hp => pkAndF hp)) (congrArg Value.bool hqb4)) ?_
  refine g2 ?_
  refine RW.g (b := qb4) (v := iV l.Positions) rfl rfl rfl (fun h => q_load (gv_pos h) uT3 rfl (Cell.blk 0 rfl rfl)) (RW.g (b := qb4) (v := .bool (!decide (l.Positions = 0))) rfl rfl rfl (fun h => q_neq (gv_pos h) rfl) (RW.g (b := qb4) (v := .bool (!decide (l.Positions = 0))) rfl rfl rfl (fun h => q_move (gv_pos h)) (RW.g2 (b1 := qb4) (b2 := (!decide (l.Positions = 0))) (v := pV b1 8) rfl rfl rfl (fun hg1 hg2 => q_fieldAddr rfl uT132 rfl sz3 rfl) (RW.g2 (b1 := qb4) (b2 := (!decide (l.Positions = 0))) (v := iV l.Speed) rfl rfl rfl (fun hg1 hg2 => q_load ((gv_pos hg1).trans (gv_pos hg2)) uT3 rfl (Cell.blk 0 rfl rfl)) (RW.g2 (b1 := qb4) (b2 := (!decide (l.Positions = 0))) (v := .bool (!decide (l.Speed = 0))) rfl rfl rfl (fun hg1 hg2 => q_neq ((gv_pos hg1).trans (gv_pos hg2)) rfl) ?_)))))
  obtain ⟨qb5, hqb5⟩ : ∃ z : Bool, ((!decide (l.Positions = 0)) || (!decide (l.Speed = 0))) = z := ⟨_, rfl⟩
  refine RW.g (b := qb4) (v := .bool qb5) rfl rfl rfl (fun h => q_as (v := .bool ((!decide (l.Positions = 0)) || (!decide (l.Speed = 0)))) (q_pick (gv_pos h) (fun hp => pkOrT hp) (fun hp => (gv_pos h).trans ((gv_pos hp).trans (pkOrF hp)))) (congrArg Value.bool hqb5)) (RW.q (v := .bool (qb4 && qb5)) rfl (q_pick rfl (fun hp => (gv_pos hp).trans (pkAndT hp)) (fun hp => pkAndF hp)) ?_)
  subst hqb5 hqb4
  refine g2 ?_
  refine AW.cond rfl (fun hc2 => ?_) fun hc2 => ?_
  ·
   refine g7 ?_
   exact fin_val (v' := .bool false) rfl rfl rfl (by unfold unusedB; rw [hc1, hc2]; rfl)
  ·
   refine g12 ?_
   obtain ⟨qb6, hqb6⟩ : ∃ z : Bool, ((!decide (l.Kind = 1)) && (!decide (l.Kind = 5))) = z := ⟨_, rfl⟩
   refine RW.q (v := .bool qb6) rfl (q_as (v := .bool ((!decide (l.Kind = 1)) && (!decide (l.Kind = 5)))) (q_pick rfl (fun hp => (gv_pos hp).trans (pkAndT hp)) (fun hp => pkAndF hp)) (congrArg Value.bool hqb6)) ?_
   refine g4 ?_
   refine RW.q (v := .bool (qb6 && (!decide (l.Crest = 0)))) rfl (q_pick rfl (fun hp => (gv_pos hp).trans (pkAndT hp)) (fun hp => pkAndF hp)) ?_
   subst hqb6
   refine g2 ?_
   refine AW.cond rfl (fun hc3 => ?_) fun hc3 => ?_
   ·
    refine g7 ?_
    exact fin_val (v' := .bool false) rfl rfl rfl (by unfold unusedB; rw [hc1, hc2, hc3]; rfl)
   ·
    refine g5 ?_
    refine RW.q (v := .bool (decide (l.Kind = 0))) rfl (q_move rfl) (RW.q (v := .bool (decide (l.Kind = 0))) rfl (q_move rfl) (RW.g (b := (decide (l.Kind = 0))) (v := pV b1 11) rfl rfl rfl (fun h => q_fieldAddr rfl uT132 rfl sz3 rfl) (RW.g (b := (decide (l.Kind = 0))) (v := iV l.Num) rfl rfl rfl (fun h => q_load (gv_pos h) uT3 rfl (Cell.blk 0 rfl rfl)) (RW.g (b := (decide (l.Kind = 0))) (v := .bool (!decide (l.Num = 0))) rfl rfl rfl (fun h => q_neq (gv_pos h) rfl) ?_))))
    obtain ⟨qb7, hqb7⟩ : ∃ z : Bool, ((decide (l.Kind = 0)) && (!decide (l.Num = 0))) = z := ⟨_, rfl⟩
    refine RW.q (v := .bool qb7) rfl (q_as (v := .bool ((decide (l.Kind = 0)) && (!decide (l.Num = 0)))) (q_pick rfl (fun hp => (gv_pos hp).trans (pkAndT hp)) (fun hp => pkAndF hp)) (congrArg Value.bool hqb7)) (RW.q (v := .bool qb7) rfl (q_move rfl) (RW.g (b := qb7) (v := .bool (decide (l.Kind = 0))) rfl rfl rfl (fun h => q_move rfl) (RW.g (b := qb7) (v := .bool (decide (l.Kind = 0))) rfl rfl rfl (fun h => q_move (gv_pos h)) (RW.g2 (b1 := qb7) (b2 := (decide (l.Kind = 0))) (v := pV b1 1) rfl rfl rfl (fun hg1 hg2 => q_fieldAddr rfl uT132 rfl sz3 rfl) (RW.g2 (b1 := qb7) (b2 := (decide (l.Kind = 0))) (v := iV l.Kind) rfl rfl rfl (fun hg1 hg2 => q_load ((gv_pos hg1).trans (gv_pos hg2)) uT3 rfl (Cell.blk 0 rfl rfl)) (RW.g2 (b1 := qb7) (b2 := (decide (l.Kind = 0))) (v := .bool (decide (l.Kind = 2))) rfl rfl rfl (fun hg1 hg2 => q_eql ((gv_pos hg1).trans (gv_pos hg2)) rfl) ?_))))))
    obtain ⟨qb8, hqb8⟩ : ∃ z : Bool, ((decide (l.Kind = 0)) || (decide (l.Kind = 2))) = z := ⟨_, rfl⟩
    refine RW.g (b := qb7) (v := .bool qb8) rfl rfl rfl (fun h => q_as (v := .bool ((decide (l.Kind = 0)) || (decide (l.Kind = 2)))) (q_pick (gv_pos h) (fun hp => pkOrT hp) (fun hp => (gv_pos h).trans ((gv_pos hp).trans (pkOrF hp)))) (congrArg Value.bool hqb8)) (RW.g (b := qb7) (v := .bool qb8) rfl rfl rfl (fun h => q_move (gv_pos h)) (RW.g2 (b1 := qb7) (b2 := qb8) (v := pV b1 12) rfl rfl rfl (fun hg1 hg2 => q_fieldAddr rfl uT132 rfl sz3 rfl) (RW.g2 (b1 := qb7) (b2 := qb8) (v := iV l.Den) rfl rfl rfl (fun hg1 hg2 => q_load ((gv_pos hg1).trans (gv_pos hg2)) uT3 rfl (Cell.blk 0 rfl rfl)) (RW.g2 (b1 := qb7) (b2 := qb8) (v := .bool (!decide (l.Den = 0))) rfl rfl rfl (fun hg1 hg2 => q_neq ((gv_pos hg1).trans (gv_pos hg2)) rfl) (RW.g (b := qb7) (v := .bool (qb8 && (!decide (l.Den = 0)))) rfl rfl rfl (fun h => q_pick (gv_pos h) (fun hp => (gv_pos h).trans ((gv_pos hp).trans (pkAndT hp))) (fun hp => pkAndF hp)) ?_)))))
    obtain ⟨qb9, hqb9⟩ : ∃ z : Bool, (qb7 || (qb8 && (!decide (l.Den = 0)))) = z := ⟨_, rfl⟩
    refine RW.q (v := .bool qb9) rfl (q_as (v := .bool (qb7 || (qb8 && (!decide (l.Den = 0))))) (q_pick rfl (fun hp => pkOrT hp) (fun hp => (gv_pos hp).trans (pkOrF hp))) (congrArg Value.bool hqb9)) ?_
    subst hqb9 hqb8 hqb7
    refine g2 ?_
    refine AW.cond (b := (((decide (l.Kind = 0)) && (!decide (l.Num = 0))) || (((decide (l.Kind = 0)) || (decide (l.Kind = 2))) && (!decide (l.Den = 0))))) rfl (fun hc4 => ?_) (fun hc4 => ?_)
    ·
     refine g7 ?_
     exact fin_val (v' := .bool false) rfl rfl rfl (by unfold unusedB; rw [hc1, hc2, hc3, hc4]; rfl)
    ·
     refine g7 ?_
     refine RW.q (v := .bool (!decide (l.Kind = 3))) rfl (q_neq rfl rfl) (RW.q (v := .bool (!decide (l.Kind = 3))) rfl (q_move rfl) (RW.g (b := (!decide (l.Kind = 3))) (v := pV b1 13) rfl rfl rfl (fun h => q_fieldAddr rfl uT132 rfl sz3 rfl) (RW.g (b := (!decide (l.Kind = 3))) (v := iV l.Prime) rfl rfl rfl (fun h => q_load (gv_pos h) uT3 rfl (Cell.blk 0 rfl rfl)) (RW.g (b := (!decide (l.Kind = 3))) (v := .bool (!decide (l.Prime = 0))) rfl rfl rfl (fun h => q_neq (gv_pos h) rfl) (RW.g (b := (!decide (l.Kind = 3))) (v := .bool (!decide (l.Prime = 0))) rfl rfl rfl (fun h => q_move (gv_pos h)) (RW.g2 (b1 := (!decide (l.Kind = 3))) (b2 := (!decide (l.Prime = 0))) (v := pV b1 14) rfl rfl rfl (fun hg1 hg2 => q_fieldAddr rfl uT132 rfl sz3 rfl) (RW.g2 (b1 := (!decide (l.Kind = 3))) (b2 := (!decide (l.Prime = 0))) (v := iV l.Break) rfl rfl rfl (fun hg1 hg2 => q_load ((gv_pos hg1).trans (gv_pos hg2)) uT3 rfl (Cell.blk 0 rfl rfl)) (RW.g2 (b1 := (!decide (l.Kind = 3))) (b2 := (!decide (l.Prime = 0))) (v := .bool (!decide (l.Break = 0))) rfl rfl rfl (fun hg1 hg2 => q_neq ((gv_pos hg1).trans (gv_pos hg2)) rfl) ?_))))))))
     obtain ⟨qb10, hqb10⟩ : ∃ z : Bool, ((!decide (l.Prime = 0)) || (!decide (l.Break = 0))) = z := ⟨_, rfl⟩
     refine RW.g (b := (!decide (l.Kind = 3))) (v := .bool qb10) rfl rfl rfl (fun h => q_as (v := .bool ((!decide (l.Prime = 0)) || (!decide (l.Break = 0)))) (q_pick (gv_pos h) (fun hp => pkOrT hp) (fun hp => (gv_pos h).trans ((gv_pos hp).trans (pkOrF hp)))) (congrArg Value.bool hqb10)) (RW.q (v := .bool ((!decide (l.Kind = 3)) && qb10)) rfl (q_pick rfl (fun hp => (gv_pos hp).trans (pkAndT hp)) (fun hp => pkAndF hp)) ?_)
     subst hqb10
     refine g2 ?_
     refine AW.cond (b := (!decide (l.Kind = 3)) && ((!decide (l.Prime = 0)) || (!decide (l.Break = 0)))) rfl (fun hc5 => ?_) (fun hc5 => ?_)
     ·
      refine g7 ?_
      exact fin_val (v' := .bool false) rfl rfl rfl (by unfold unusedB; rw [hc1, hc2, hc3, hc4, hc5]; rfl)
     ·
      refine g8 ?_
      refine RW.g (b := (decide (l.Kind = 0))) (v := .bool (decide (l.Kind = 4))) rfl rfl rfl (fun h => q_eql (gv_pos h) rfl) ?_
      obtain ⟨qb11, hqb11⟩ : ∃ z : Bool, ((decide (l.Kind = 0)) || (decide (l.Kind = 4))) = z := ⟨_, rfl⟩
      refine RW.q (v := .bool qb11) rfl (q_as (v := .bool ((decide (l.Kind = 0)) || (decide (l.Kind = 4)))) (q_pick rfl (fun hp => pkOrT hp) (fun hp => (gv_pos hp).trans (pkOrF hp))) (congrArg Value.bool hqb11)) (RW.q (v := .bool qb11) rfl (q_move rfl) (RW.g (b := qb11) (v := pV b1 15) rfl rfl rfl (fun h => q_fieldAddr rfl uT132 rfl sz3 rfl) (RW.g (b := qb11) (v := iV l.BackNum) rfl rfl rfl (fun h => q_load (gv_pos h) uT3 rfl (Cell.blk 0 rfl rfl)) (RW.g (b := qb11) (v := .bool (decide (l.BackNum = 0))) rfl rfl rfl (fun h => q_eql (gv_pos h) rfl) (RW.g (b := qb11) (v := .bool (decide (l.BackNum = 0))) rfl rfl rfl (fun h => q_move (gv_pos h)) (RW.g2 (b1 := qb11) (b2 := (decide (l.BackNum = 0))) (v := pV b1 16) rfl rfl rfl (fun hg1 hg2 => q_fieldAddr rfl uT132 rfl sz3 rfl) (RW.g2 (b1 := qb11) (b2 := (decide (l.BackNum = 0))) (v := iV l.BackDen) rfl rfl rfl (fun hg1 hg2 => q_load ((gv_pos hg1).trans (gv_pos hg2)) uT3 rfl (Cell.blk 0 rfl rfl)) (RW.g2 (b1 := qb11) (b2 := (decide (l.BackNum = 0))) (v := .bool (decide (l.BackDen = 0))) rfl rfl rfl (fun hg1 hg2 => q_eql ((gv_pos hg1).trans (gv_pos hg2)) rfl) ?_))))))))
      obtain ⟨qb12, hqb12⟩ : ∃ z : Bool, ((decide (l.BackNum = 0)) && (decide (l.BackDen = 0))) = z := ⟨_, rfl⟩
      refine RW.g (b := qb11) (v := .bool qb12) rfl rfl rfl (fun h => q_as (v := .bool ((decide (l.BackNum = 0)) && (decide (l.BackDen = 0)))) (q_pick (gv_pos h) (fun hp => (gv_pos h).trans ((gv_pos hp).trans (pkAndT hp))) (fun hp => pkAndF hp)) (congrArg Value.bool hqb12)) (RW.q (v := .bool (qb11 || qb12)) rfl (q_pick rfl (fun hp => pkOrT hp) (fun hp => (gv_pos hp).trans (pkOrF hp))) ?_)
      refine g1 ?_
      subst hqb12 hqb11
      refine g3 ?_
      exact fin_val (v' := .bool (((decide (l.Kind = 0)) || (decide (l.Kind = 4))) || ((decide (l.BackNum = 0)) && (decide (l.BackDen = 0))))) rfl rfl rfl (by unfold unusedB; rw [hc1, hc2, hc3, hc4, hc5]; rfl)
def linkBad (b : Bt.Basin) (k : Nat) : Bool := ((((((!(decide (0 ≤ (b.Links.getD k default).Kind ∧ (b.Links.getD k default).Kind ≤ 5))) || (!(decide (0 ≤ (b.Links.getD k default).From ∧ (b.Links.getD k default).From < (b.Places.length : Int))))) || (!(decide ((b.Links.getD k default).To = -1 ∨ (0 ≤ (b.Links.getD k default).To ∧ (b.Links.getD k default).To < (b.Places.length : Int)) ∧ (b.Links.getD k default).To ≠ (b.Links.getD k default).From)))) || (!(decide (0 ≤ (b.Links.getD k default).Delay ∧ (b.Links.getD k default).Delay ≤ 240)))) || (!(fieldsB (b.Links.getD k default)))) || (!(unusedB (b.Links.getD k default))))
def RLinks (b : Bt.Basin) : Prop := ∀ k, k < b.Links.length → linkBad b k = false
instance (b : Bt.Basin) : Decidable (RLinks b) := inferInstanceAs (Decidable (∀ k, k < b.Links.length → linkBad b k = false))
theorem rLinks_c (w : World) (Φ : Hp) (hΦ : Hp.le Φ (hp w)) {b : Bt.Basin} {cs : List Value} (hB : RepV Φ b cs)  :
  Calls Try.prog 54 #[.agg cs.toArray] w fun e w' => e = .returned (.bool (decide (RLinks b))) ∧ Bel w.heap.size w w' := by
 obtain ⟨v1, v3, v4, v5, v6, v7, v8, v9, hcs, hBw, r1, r3, r4, r5, r6, r7, r8, r9⟩ := (show Rep.rep Φ b cs from hB)
 subst hcs
 have hpm : b.Places.length * 152 ≤ 140737488355328 := r3.max
 refine calls_of_AW (args := [.agg (cl31 b v1 v3 v4 v5 v6 v7 v8 v9).toArray]) Try.func54 rfl (Nat.le_of_ble_eq_true rfl) (St ⟨w, Φ, []⟩ Φ []) (StP.init w Φ hΦ []) ?_
 show AW Try.prog 51 [] _ _ _ [(0, .agg (cl31 b v1 v3 v4 v5 v6 v7 v8 v9).toArray)] _
 have hnl : b.Name.data.toList.length ≤ 9223372036854775807 := hBw.1
 have hom : b.Owners.length * 16 ≤ 140737488355328 := r1.max
 have hlm : b.Links.length * 200 ≤ 140737488355328 := r4.max
 have htm : b.Towns.length * 64 ≤ 140737488355328 := r5.max
 have hgm_ : b.Gauges.length * 48 ≤ 140737488355328 := r6.max
 have hrm : b.Roads.length * 64 ≤ 140737488355328 := r7.max
 have hsm : b.Shelters.length * 24 ≤ 140737488355328 := r8.max
 have hom2 : b.Room.length * 8 ≤ 140737488355328 := r9.max
 refine g2 ?_
 refine RW.bxA rfl rfl fun b1 => ?_
 refine g13 ?_
 refine AW.loop (fun s J m => ∃ (k : Nat), s = [(1, pV b1 0), (6, v4), (7, iV (b.Links.length : Int)), (8, iV (k : Int))] ∧ J = St ⟨w, Φ, []⟩ Φ [.blk b1 31 (cl31 b v1 v3 v4 v5 v6 v7 v8 v9)] ∧ m = b.Links.length - k ∧ (k ≤ b.Links.length) ∧ (∀ j, j < k → linkBad b j = false)) (s0 := _) (J1 := _) (m0 := _) ⟨0, rfl, rfl, rfl, (by omega), (fun j hj => absurd hj (by omega))⟩ ⟨rfl, rfl, rfl, rfl, trivial⟩ (fun _ h => h) ?_
 rintro _ _ _ _ ⟨k, rfl, rfl, rfl, hk, hall⟩
 refine g6 ?_
 refine AW.cond rfl (fun hc1 => ?_) fun hc1 => ?_
 ·
  simp [-List.getD_eq_getElem?_getD, -Array.length_toList] at hc1
  refine g6 ?_
  refine RW.q (v := .pointer (some (Value.at v4 (k * 18)))) rfl (q_indexAddr rfl rfl r4.sl uT24 sz132 (by omega) (by omega) rfl) ?_
  obtain ⟨cv1, hcr1, hcc1⟩ := RepSl.whole (k := k) r4 (by omega)
  obtain ⟨sv1, sv2, sv3, hcE1, hcw1, hsv1, hsv2, hsv3⟩ := (show Rep.rep _ _ _ from hcr1)
  subst hcE1
  refine RW.q (v := .agg (cl132 (b.Links.getD k default) sv1 sv2 sv3).toArray) rfl (q_loadAgg rfl uT132 rfl sz132 rfl (Cells.phiK hcc1)) (RW.eff (fun b2 : Nat => pV b2 0) (fun b2 => St ⟨w, Φ, []⟩ Φ [.blk b2 132 [.string (bs ([])), iV 0, iV 0, iV 0, nS, nS, nS, iV 0, iV 0, iV 0, iV 0, iV 0, iV 0, iV 0, iV 0, iV 0, iV 0, iV 0], .blk b1 31 (cl31 b v1 v3 v4 v5 v6 v7 v8 v9)]) rfl (e_alloc zero132) ?_)
  intro b2
  refine RW.effn (J' := St ⟨w, Φ, []⟩ Φ [.blk b2 132 (cl132 (b.Links.getD k default) sv1 sv2 sv3), .blk b1 31 (cl31 b v1 v3 v4 v5 v6 v7 v8 v9)]) (e_store (v := .agg (cl132 (b.Links.getD k default) sv1 sv2 sv3).toArray) 0 rfl rfl rfl sz132 rfl (List.all_eq_true.2 (fun u hu => Rep.one (show Rep.rep _ _ _ from hcr1) u hu)) rfl rfl rfl) ?_
  refine g6 ?_
  refine RW.q (v := .bool (decide (0 ≤ (b.Links.getD k default).Kind ∧ (b.Links.getD k default).Kind ≤ 5))) rfl (q_call (args := #[iV ((b.Links.getD k default).Kind), iV 0, iV 5]) own78 rfl rfl (fun w1 hw1 => bIn_c w1 (Go.K.hp w1) (Hp.le_refl _))) (RW.q (v := .bool (!(decide (0 ≤ (b.Links.getD k default).Kind ∧ (b.Links.getD k default).Kind ≤ 5)))) rfl (q_not rfl) (RW.q (v := .bool (!(decide (0 ≤ (b.Links.getD k default).Kind ∧ (b.Links.getD k default).Kind ≤ 5)))) rfl (q_move rfl) (RW.g (b := (!(decide (0 ≤ (b.Links.getD k default).Kind ∧ (b.Links.getD k default).Kind ≤ 5)))) (v := pV b2 2) rfl rfl rfl (fun h => q_fieldAddr rfl uT132 rfl sz3 rfl) (RW.g (b := (!(decide (0 ≤ (b.Links.getD k default).Kind ∧ (b.Links.getD k default).Kind ≤ 5)))) (v := iV ((b.Links.getD k default).From)) rfl rfl rfl (fun h => q_load (gv_pos h) uT3 rfl (Cell.blk 0 rfl rfl)) (RW.g (b := (!(decide (0 ≤ (b.Links.getD k default).Kind ∧ (b.Links.getD k default).Kind ≤ 5)))) (v := pV b1 3) rfl rfl rfl (fun h => q_fieldAddr rfl uT31 rfl sz23 rfl) (RW.g (b := (!(decide (0 ≤ (b.Links.getD k default).Kind ∧ (b.Links.getD k default).Kind ≤ 5)))) (v := v3) rfl rfl rfl (fun h => q_load (gv_pos h) uT23 rfl (Cell.blk 1 rfl rfl)) (RW.g (b := (!(decide (0 ≤ (b.Links.getD k default).Kind ∧ (b.Links.getD k default).Kind ≤ 5)))) (v := iV (b.Places.length : Int)) rfl rfl rfl (fun h => q_len_sl (gv_pos h) r3.sl uT23) (RW.g (b := (!(decide (0 ≤ (b.Links.getD k default).Kind ∧ (b.Links.getD k default).Kind ≤ 5)))) (v := .bool (decide (0 ≤ (b.Links.getD k default).From ∧ (b.Links.getD k default).From < (b.Places.length : Int)))) rfl rfl rfl (fun h => q_call (args := #[iV ((b.Links.getD k default).From), iV (b.Places.length : Int)]) own84 rfl (args2 (gv_pos h) (gv_pos h)) (fun w1 hw1 => bIdx_c w1 (Go.K.hp w1) (Hp.le_refl _) (by (try simp [-List.getD_eq_getElem?_getD, -Array.length_toList] at h); omega))) ?_))))))))
  refine g1 ?_
  obtain ⟨qb1, hqb1⟩ : ∃ z : Bool, ((!(decide (0 ≤ (b.Links.getD k default).Kind ∧ (b.Links.getD k default).Kind ≤ 5))) || (!(decide (0 ≤ (b.Links.getD k default).From ∧ (b.Links.getD k default).From < (b.Places.length : Int))))) = z := ⟨_, rfl⟩
  refine RW.q (v := .bool qb1) rfl (q_as (v := .bool ((!(decide (0 ≤ (b.Links.getD k default).Kind ∧ (b.Links.getD k default).Kind ≤ 5))) || (!(decide (0 ≤ (b.Links.getD k default).From ∧ (b.Links.getD k default).From < (b.Places.length : Int)))))) (q_pick rfl (fun hp => pkOrT hp) (fun hp => (gv_pos hp).trans (pkOrF hp))) (congrArg Value.bool hqb1)) ?_
  refine g6 ?_
  refine RW.g (b := qb1) (v := .bool (decide ((b.Links.getD k default).To = -1 ∨ (0 ≤ (b.Links.getD k default).To ∧ (b.Links.getD k default).To < (b.Places.length : Int)) ∧ (b.Links.getD k default).To ≠ (b.Links.getD k default).From))) rfl rfl rfl (fun h => q_call (args := #[.agg (cl31 b v1 v3 v4 v5 v6 v7 v8 v9).toArray, iV ((b.Links.getD k default).From), iV ((b.Links.getD k default).To)]) own83 rfl (args3 (gv_pos h) (gv_pos h) (gv_pos h)) (fun w1 hw1 => bTgt_c w1 (Go.K.hp w1) (Hp.le_refl _) (hB.mono hw1.phi))) ?_
  refine g1 ?_
  obtain ⟨qb2, hqb2⟩ : ∃ z : Bool, (qb1 || (!(decide ((b.Links.getD k default).To = -1 ∨ (0 ≤ (b.Links.getD k default).To ∧ (b.Links.getD k default).To < (b.Places.length : Int)) ∧ (b.Links.getD k default).To ≠ (b.Links.getD k default).From)))) = z := ⟨_, rfl⟩
  refine RW.q (v := .bool qb2) rfl (q_as (v := .bool (qb1 || (!(decide ((b.Links.getD k default).To = -1 ∨ (0 ≤ (b.Links.getD k default).To ∧ (b.Links.getD k default).To < (b.Places.length : Int)) ∧ (b.Links.getD k default).To ≠ (b.Links.getD k default).From))))) (q_pick rfl (fun hp => pkOrT hp) (fun hp => (gv_pos hp).trans (pkOrF hp))) (congrArg Value.bool hqb2)) ?_
  refine g3 ?_
  refine RW.g (b := qb2) (v := .bool (decide (0 ≤ (b.Links.getD k default).Delay ∧ (b.Links.getD k default).Delay ≤ 240))) rfl rfl rfl (fun h => q_call (args := #[iV ((b.Links.getD k default).Delay), iV 0, iV 240]) own78 rfl (args3 (gv_pos h) rfl rfl) (fun w1 hw1 => bIn_c w1 (Go.K.hp w1) (Hp.le_refl _))) (RW.g (b := qb2) (v := .bool (!(decide (0 ≤ (b.Links.getD k default).Delay ∧ (b.Links.getD k default).Delay ≤ 240)))) rfl rfl rfl (fun h => q_not (gv_pos h)) ?_)
  obtain ⟨qb3, hqb3⟩ : ∃ z : Bool, (qb2 || (!(decide (0 ≤ (b.Links.getD k default).Delay ∧ (b.Links.getD k default).Delay ≤ 240)))) = z := ⟨_, rfl⟩
  refine RW.q (v := .bool qb3) rfl (q_as (v := .bool (qb2 || (!(decide (0 ≤ (b.Links.getD k default).Delay ∧ (b.Links.getD k default).Delay ≤ 240))))) (q_pick rfl (fun hp => pkOrT hp) (fun hp => (gv_pos hp).trans (pkOrF hp))) (congrArg Value.bool hqb3)) (RW.q (v := .bool qb3) rfl (q_move rfl) (RW.g (b := qb3) (v := .agg (cl132 (b.Links.getD k default) sv1 sv2 sv3).toArray) rfl rfl rfl (fun h => q_loadAgg rfl uT132 rfl sz132 rfl (Cells.blk 0 rfl)) (RW.g (b := qb3) (v := .bool (fieldsB (b.Links.getD k default))) rfl rfl rfl (fun h => q_call (args := #[.agg (cl132 (b.Links.getD k default) sv1 sv2 sv3).toArray]) own85 rfl (args1 (gv_pos h)) (fun w1 hw1 => fields_c w1 (Go.K.hp w1) (Hp.le_refl _) (hcr1.mono hw1.phi))) (RW.g (b := qb3) (v := .bool (!(fieldsB (b.Links.getD k default)))) rfl rfl rfl (fun h => q_not (gv_pos h)) ?_))))
  obtain ⟨qb4, hqb4⟩ : ∃ z : Bool, (qb3 || (!(fieldsB (b.Links.getD k default)))) = z := ⟨_, rfl⟩
  refine RW.q (v := .bool qb4) rfl (q_as (v := .bool (qb3 || (!(fieldsB (b.Links.getD k default))))) (q_pick rfl (fun hp => pkOrT hp) (fun hp => (gv_pos hp).trans (pkOrF hp))) (congrArg Value.bool hqb4)) (RW.q (v := .bool qb4) rfl (q_move rfl) (RW.g (b := qb4) (v := .agg (cl132 (b.Links.getD k default) sv1 sv2 sv3).toArray) rfl rfl rfl (fun h => q_loadAgg rfl uT132 rfl sz132 rfl (Cells.blk 0 rfl)) (RW.g (b := qb4) (v := .bool (unusedB (b.Links.getD k default))) rfl rfl rfl (fun h => q_call (args := #[.agg (cl132 (b.Links.getD k default) sv1 sv2 sv3).toArray]) own86 rfl (args1 (gv_pos h)) (fun w1 hw1 => unused_c w1 (Go.K.hp w1) (Hp.le_refl _) (hcr1.mono hw1.phi))) ?_)))
  refine g1 ?_
  obtain ⟨qb5, hqb5⟩ : ∃ z : Bool, (qb4 || (!(unusedB (b.Links.getD k default)))) = z := ⟨_, rfl⟩
  refine RW.q (v := .bool qb5) rfl (q_as (v := .bool (qb4 || (!(unusedB (b.Links.getD k default))))) (q_pick rfl (fun hp => pkOrT hp) (fun hp => (gv_pos hp).trans (pkOrF hp))) (congrArg Value.bool hqb5)) ?_
  subst hqb5 hqb4 hqb3 hqb2 hqb1
  refine g2 ?_
  refine AW.cond rfl (fun hc2 => ?_) fun hc2 => ?_
  ·
   refine g11 ?_
   exact fin_val (v' := .bool false) rfl rfl rfl (congrArg Value.bool (decide_eq_false (fun h9 => Bool.noConfusion ((h9 k (by omega)).symm.trans hc2))).symm)
  ·
   refine g7 ?_
   exact Post.back (s' := _) (J' := _) (m' := _) (by omega) ⟨k + 1, rfl, rfl, rfl, (by omega), (Fu.lt_succ hall hc2)⟩ ⟨rfl, rfl, rfl, rfl, trivial⟩ (fun _ h => StP.drop h (by exact .cons _ (.cons_cons _ (.slnil))))
 ·
  simp [-List.getD_eq_getElem?_getD, -Array.length_toList] at hc1
  refine g11 ?_
  exact fin_val (v' := .bool true) rfl rfl rfl (congrArg Value.bool (decide_eq_true (show RLinks b from fun j hj => hall j (by omega))).symm)
end Go.Proofs.Ytblfeidlnhdekaa
