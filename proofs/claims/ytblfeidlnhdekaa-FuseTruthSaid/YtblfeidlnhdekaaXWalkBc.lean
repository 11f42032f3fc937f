/- Walks (part WalkBc), printed by walk2.py. Conditions: those of each theorem. -/
import Derived.Test.YtblfeidlnhdekaaXWalkBb
import Derived.Test.YtblfeidlnhdekaaXPlainE
namespace Go.Proofs.Ytblfeidlnhdekaa
open Go Go.K Go.RowKit
set_option maxRecDepth 8000
set_option maxHeartbeats 1000000
attribute [local irreducible] AW RW DW Post Qt
def headBad (b : Bt.Basin) : Bool := (((((((((((decide ((500 : Int) < (b.Name.data.toList.length : Int))) || (!(decide (1 ≤ (b.Owners.length : Int) ∧ (b.Owners.length : Int) ≤ 16)))) || (!(decide (0 ≤ b.Cells ∧ b.Cells ≤ 64)))) || (!(decide (1 ≤ (b.Places.length : Int) ∧ (b.Places.length : Int) ≤ 64)))) || (decide ((96 : Int) < (b.Links.length : Int)))) || (decide ((40 : Int) < (b.Towns.length : Int)))) || (decide ((128 : Int) < (b.Gauges.length : Int)))) || (decide ((128 : Int) < (b.Roads.length : Int)))) || (decide ((40 : Int) < (b.Shelters.length : Int)))) || (!decide ((b.Room.length : Int) = 3))) || (!(decide (0 ≤ b.Err ∧ b.Err ≤ 1099511627776))))
def nameBad (b : Bt.Basin) (k : Nat) : Bool := ((((decide ((((b.Name.data.toList.getD k 0).toNat : Nat) : Int) < ((32 : Nat) : Int))) || (decide (((126 : Nat) : Int) < (((b.Name.data.toList.getD k 0).toNat : Nat) : Int)))) || (decide ((((b.Name.data.toList.getD k 0).toNat : Nat) : Int) = ((34 : Nat) : Int)))) || (decide ((((b.Name.data.toList.getD k 0).toNat : Nat) : Int) = ((92 : Nat) : Int))))
def roomBad (b : Bt.Basin) (i : Nat) : Bool := !(decide (0 ≤ b.Room.getD i 0 ∧ b.Room.getD i 0 ≤ 1125899906842624))
def RHead (b : Bt.Basin) : Prop := headBad b = false ∧ (∀ k, k < b.Name.data.toList.length → nameBad b k = false) ∧ ∀ k, k < b.Room.length → roomBad b k = false
instance (b : Bt.Basin) : Decidable (RHead b) := inferInstanceAs (Decidable (headBad b = false ∧ (∀ k, k < b.Name.data.toList.length → nameBad b k = false) ∧ ∀ k, k < b.Room.length → roomBad b k = false))
theorem rHead_c (w : World) (Φ : Hp) (hΦ : Hp.le Φ (hp w)) {b : Bt.Basin} {cs : List Value} (hB : RepV Φ b cs)  :
  Calls Try.prog 51 #[.agg cs.toArray] w fun e w' => e = .returned (.bool (decide (RHead b))) ∧ Bel w.heap.size w w' := by
 obtain ⟨v1, v3, v4, v5, v6, v7, v8, v9, hcs, hBw, r1, r3, r4, r5, r6, r7, r8, r9⟩ := (show Rep.rep Φ b cs from hB)
 subst hcs
 have hpm : b.Places.length * 152 ≤ 140737488355328 := r3.max
 refine calls_of_AW (args := [.agg (cl31 b v1 v3 v4 v5 v6 v7 v8 v9).toArray]) Try.func51 rfl (Nat.le_of_ble_eq_true rfl) (St ⟨w, Φ, []⟩ Φ []) (StP.init w Φ hΦ []) ?_
 show AW Try.prog 109 [] _ _ _ [(0, .agg (cl31 b v1 v3 v4 v5 v6 v7 v8 v9).toArray)] _
 have hnl : b.Name.data.toList.length ≤ 9223372036854775807 := hBw.1
 have hom : b.Owners.length * 16 ≤ 140737488355328 := r1.max
 have hlm : b.Links.length * 200 ≤ 140737488355328 := r4.max
 have htm : b.Towns.length * 64 ≤ 140737488355328 := r5.max
 have hgm_ : b.Gauges.length * 48 ≤ 140737488355328 := r6.max
 have hrm : b.Roads.length * 64 ≤ 140737488355328 := r7.max
 have hsm : b.Shelters.length * 24 ≤ 140737488355328 := r8.max
 have hom2 : b.Room.length * 8 ≤ 140737488355328 := r9.max
 refine g2 ?_
 refine RW.eff (fun b1 : Nat => pV b1 0) (fun b1 => St ⟨w, Φ, []⟩ Φ [.blk b1 31 (cl31 b v1 v3 v4 v5 v6 v7 v8 v9)]) rfl (e_boxA (cs := cl31 b v1 v3 v4 v5 v6 v7 v8 v9) rfl) ?_
 intro b1
 refine g5 ?_
 refine AW.region (RW.q (v := pV b1 0) rfl (q_fieldAddr rfl uT31 rfl sz9 rfl) (RW.q (v := .string b.Name) rfl (q_load rfl uT9 rfl (Cell.blk 0 rfl rfl)) (RW.q (v := iV (b.Name.data.toList.length : Int)) rfl (q_lenS (l := b.Name.data.toList) rfl uT9) (RW.q (v := .bool (decide ((500 : Int) < (b.Name.data.toList.length : Int)))) rfl (q_gtr rfl rfl) (RW.q (v := .bool (decide ((500 : Int) < (b.Name.data.toList.length : Int)))) rfl (q_move rfl) (RW.g (b := (decide ((500 : Int) < (b.Name.data.toList.length : Int)))) (v := pV b1 1) rfl rfl rfl (fun h => q_fieldAddr rfl uT31 rfl sz22 rfl) (RW.g (b := (decide ((500 : Int) < (b.Name.data.toList.length : Int)))) (v := v1) rfl rfl rfl (fun h => q_load (gv_pos h) uT22 rfl (Cell.blk 0 rfl rfl)) (RW.g (b := (decide ((500 : Int) < (b.Name.data.toList.length : Int)))) (v := iV (b.Owners.length : Int)) rfl rfl rfl (fun h => q_len_sl (gv_pos h) r1.sl uT22) (RW.g (b := (decide ((500 : Int) < (b.Name.data.toList.length : Int)))) (v := .bool (decide (1 ≤ (b.Owners.length : Int) ∧ (b.Owners.length : Int) ≤ 16))) rfl rfl rfl (fun h => q_call (args := #[iV (b.Owners.length : Int), iV 1, iV 16]) own78 rfl (args3 (gv_pos h) rfl rfl) (fun w1 hw1 => bIn_c w1 (Go.K.hp w1) (Hp.le_refl _))) ?_)))))))))
 refine RW.g (b := (decide ((500 : Int) < (b.Name.data.toList.length : Int)))) (v := .bool (!(decide (1 ≤ (b.Owners.length : Int) ∧ (b.Owners.length : Int) ≤ 16)))) rfl rfl rfl (fun h => q_not (gv_pos h)) ?_
 obtain ⟨qb1, hqb1⟩ : ∃ z : Bool, ((decide ((500 : Int) < (b.Name.data.toList.length : Int))) || (!(decide (1 ≤ (b.Owners.length : Int) ∧ (b.Owners.length : Int) ≤ 16)))) = z := ⟨_, rfl⟩
 refine RW.q (v := .bool qb1) rfl (q_as (v := .bool ((decide ((500 : Int) < (b.Name.data.toList.length : Int))) || (!(decide (1 ≤ (b.Owners.length : Int) ∧ (b.Owners.length : Int) ≤ 16))))) (q_pick rfl (fun hp => pkOrT hp) (fun hp => (gv_pos hp).trans (pkOrF hp))) (congrArg Value.bool hqb1)) (RW.q (v := .bool qb1) rfl (q_move rfl) (RW.g (b := qb1) (v := pV b1 2) rfl rfl rfl (fun h => q_fieldAddr rfl uT31 rfl sz3 rfl) (RW.g (b := qb1) (v := iV b.Cells) rfl rfl rfl (fun h => q_load (gv_pos h) uT3 rfl (Cell.blk 0 rfl rfl)) (RW.g (b := qb1) (v := .bool (decide (0 ≤ b.Cells ∧ b.Cells ≤ 64))) rfl rfl rfl (fun h => q_call (args := #[iV b.Cells, iV 0, iV 64]) own78 rfl (args3 (gv_pos h) rfl rfl) (fun w1 hw1 => bIn_c w1 (Go.K.hp w1) (Hp.le_refl _))) (RW.g (b := qb1) (v := .bool (!(decide (0 ≤ b.Cells ∧ b.Cells ≤ 64)))) rfl rfl rfl (fun h => q_not (gv_pos h)) ?_)))))
 obtain ⟨qb2, hqb2⟩ : ∃ z : Bool, (qb1 || (!(decide (0 ≤ b.Cells ∧ b.Cells ≤ 64)))) = z := ⟨_, rfl⟩
 refine RW.q (v := .bool qb2) rfl (q_as (v := .bool (qb1 || (!(decide (0 ≤ b.Cells ∧ b.Cells ≤ 64))))) (q_pick rfl (fun hp => pkOrT hp) (fun hp => (gv_pos hp).trans (pkOrF hp))) (congrArg Value.bool hqb2)) (RW.q (v := .bool qb2) rfl (q_move rfl) (RW.g (b := qb2) (v := pV b1 3) rfl rfl rfl (fun h => q_fieldAddr rfl uT31 rfl sz23 rfl) (RW.g (b := qb2) (v := v3) rfl rfl rfl (fun h => q_load (gv_pos h) uT23 rfl (Cell.blk 0 rfl rfl)) (RW.g (b := qb2) (v := iV (b.Places.length : Int)) rfl rfl rfl (fun h => q_len_sl (gv_pos h) r3.sl uT23) (RW.g (b := qb2) (v := .bool (decide (1 ≤ (b.Places.length : Int) ∧ (b.Places.length : Int) ≤ 64))) rfl rfl rfl (fun h => q_call (args := #[iV (b.Places.length : Int), iV 1, iV 64]) own78 rfl (args3 (gv_pos h) rfl rfl) (fun w1 hw1 => bIn_c w1 (Go.K.hp w1) (Hp.le_refl _))) (RW.g (b := qb2) (v := .bool (!(decide (1 ≤ (b.Places.length : Int) ∧ (b.Places.length : Int) ≤ 64)))) rfl rfl rfl (fun h => q_not (gv_pos h)) ?_))))))
 obtain ⟨qb3, hqb3⟩ : ∃ z : Bool, (qb2 || (!(decide (1 ≤ (b.Places.length : Int) ∧ (b.Places.length : Int) ≤ 64)))) = z := ⟨_, rfl⟩
 refine RW.q (v := .bool qb3) rfl (q_as (v := .bool (qb2 || (!(decide (1 ≤ (b.Places.length : Int) ∧ (b.Places.length : Int) ≤ 64))))) (q_pick rfl (fun hp => pkOrT hp) (fun hp => (gv_pos hp).trans (pkOrF hp))) (congrArg Value.bool hqb3)) (RW.q (v := .bool qb3) rfl (q_move rfl) (RW.g (b := qb3) (v := pV b1 4) rfl rfl rfl (fun h => q_fieldAddr rfl uT31 rfl sz24 rfl) (RW.g (b := qb3) (v := v4) rfl rfl rfl (fun h => q_load (gv_pos h) uT24 rfl (Cell.blk 0 rfl rfl)) (RW.g (b := qb3) (v := iV (b.Links.length : Int)) rfl rfl rfl (fun h => q_len_sl (gv_pos h) r4.sl uT24) (RW.g (b := qb3) (v := .bool (decide ((96 : Int) < (b.Links.length : Int)))) rfl rfl rfl (fun h => q_gtr (gv_pos h) rfl) ?_)))))
 obtain ⟨qb4, hqb4⟩ : ∃ z : Bool, (qb3 || (decide ((96 : Int) < (b.Links.length : Int)))) = z := ⟨_, rfl⟩
 refine RW.q (v := .bool qb4) rfl (q_as (v := .bool (qb3 || (decide ((96 : Int) < (b.Links.length : Int))))) (q_pick rfl (fun hp => pkOrT hp) (fun hp => (gv_pos hp).trans (pkOrF hp))) (congrArg Value.bool hqb4)) (RW.q (v := .bool qb4) rfl (q_move rfl) (RW.g (b := qb4) (v := pV b1 5) rfl rfl rfl (fun h => q_fieldAddr rfl uT31 rfl sz25 rfl) (RW.g (b := qb4) (v := v5) rfl rfl rfl (fun h => q_load (gv_pos h) uT25 rfl (Cell.blk 0 rfl rfl)) (RW.g (b := qb4) (v := iV (b.Towns.length : Int)) rfl rfl rfl (fun h => q_len_sl (gv_pos h) r5.sl uT25) (RW.g (b := qb4) (v := .bool (decide ((40 : Int) < (b.Towns.length : Int)))) rfl rfl rfl (fun h => q_gtr (gv_pos h) rfl) ?_)))))
 obtain ⟨qb5, hqb5⟩ : ∃ z : Bool, (qb4 || (decide ((40 : Int) < (b.Towns.length : Int)))) = z := ⟨_, rfl⟩
 refine RW.q (v := .bool qb5) rfl (q_as (v := .bool (qb4 || (decide ((40 : Int) < (b.Towns.length : Int))))) (q_pick rfl (fun hp => pkOrT hp) (fun hp => (gv_pos hp).trans (pkOrF hp))) (congrArg Value.bool hqb5)) (RW.q (v := .bool qb5) rfl (q_move rfl) (RW.g (b := qb5) (v := pV b1 6) rfl rfl rfl (fun h => q_fieldAddr rfl uT31 rfl sz26 rfl) (RW.g (b := qb5) (v := v6) rfl rfl rfl (fun h => q_load (gv_pos h) uT26 rfl (Cell.blk 0 rfl rfl)) (RW.g (b := qb5) (v := iV (b.Gauges.length : Int)) rfl rfl rfl (fun h => q_len_sl (gv_pos h) r6.sl uT26) (RW.g (b := qb5) (v := .bool (decide ((128 : Int) < (b.Gauges.length : Int)))) rfl rfl rfl (fun h => q_gtr (gv_pos h) rfl) ?_)))))
 obtain ⟨qb6, hqb6⟩ : ∃ z : Bool, (qb5 || (decide ((128 : Int) < (b.Gauges.length : Int)))) = z := ⟨_, rfl⟩
 refine RW.q (v := .bool qb6) rfl (q_as (v := .bool (qb5 || (decide ((128 : Int) < (b.Gauges.length : Int))))) (q_pick rfl (fun hp => pkOrT hp) (fun hp => (gv_pos hp).trans (pkOrF hp))) (congrArg Value.bool hqb6)) (RW.q (v := .bool qb6) rfl (q_move rfl) (RW.g (b := qb6) (v := pV b1 7) rfl rfl rfl (fun h => q_fieldAddr rfl uT31 rfl sz27 rfl) (RW.g (b := qb6) (v := v7) rfl rfl rfl (fun h => q_load (gv_pos h) uT27 rfl (Cell.blk 0 rfl rfl)) (RW.g (b := qb6) (v := iV (b.Roads.length : Int)) rfl rfl rfl (fun h => q_len_sl (gv_pos h) r7.sl uT27) (RW.g (b := qb6) (v := .bool (decide ((128 : Int) < (b.Roads.length : Int)))) rfl rfl rfl (fun h => q_gtr (gv_pos h) rfl) ?_)))))
 obtain ⟨qb7, hqb7⟩ : ∃ z : Bool, (qb6 || (decide ((128 : Int) < (b.Roads.length : Int)))) = z := ⟨_, rfl⟩
 refine RW.q (v := .bool qb7) rfl (q_as (v := .bool (qb6 || (decide ((128 : Int) < (b.Roads.length : Int))))) (q_pick rfl (fun hp => pkOrT hp) (fun hp => (gv_pos hp).trans (pkOrF hp))) (congrArg Value.bool hqb7)) (RW.q (v := .bool qb7) rfl (q_move rfl) (RW.g (b := qb7) (v := pV b1 8) rfl rfl rfl (fun h => q_fieldAddr rfl uT31 rfl sz28 rfl) (RW.g (b := qb7) (v := v8) rfl rfl rfl (fun h => q_load (gv_pos h) uT28 rfl (Cell.blk 0 rfl rfl)) (RW.g (b := qb7) (v := iV (b.Shelters.length : Int)) rfl rfl rfl (fun h => q_len_sl (gv_pos h) r8.sl uT28) (RW.g (b := qb7) (v := .bool (decide ((40 : Int) < (b.Shelters.length : Int)))) rfl rfl rfl (fun h => q_gtr (gv_pos h) rfl) ?_)))))
 obtain ⟨qb8, hqb8⟩ : ∃ z : Bool, (qb7 || (decide ((40 : Int) < (b.Shelters.length : Int)))) = z := ⟨_, rfl⟩
 refine RW.q (v := .bool qb8) rfl (q_as (v := .bool (qb7 || (decide ((40 : Int) < (b.Shelters.length : Int))))) (q_pick rfl (fun hp => pkOrT hp) (fun hp => (gv_pos hp).trans (pkOrF hp))) (congrArg Value.bool hqb8)) (RW.q (v := .bool qb8) rfl (q_move rfl) (RW.g (b := qb8) (v := pV b1 9) rfl rfl rfl (fun h => q_fieldAddr rfl uT31 rfl sz29 rfl) (RW.g (b := qb8) (v := v9) rfl rfl rfl (fun h => q_load (gv_pos h) uT29 rfl (Cell.blk 0 rfl rfl)) (RW.g (b := qb8) (v := iV (b.Room.length : Int)) rfl rfl rfl (fun h => q_len_sl (gv_pos h) r9.sl uT29) (RW.g (b := qb8) (v := .bool (!decide ((b.Room.length : Int) = 3))) rfl rfl rfl (fun h => q_neq (gv_pos h) rfl) ?_)))))
 obtain ⟨qb9, hqb9⟩ : ∃ z : Bool, (qb8 || (!decide ((b.Room.length : Int) = 3))) = z := ⟨_, rfl⟩
 refine RW.q (v := .bool qb9) rfl (q_as (v := .bool (qb8 || (!decide ((b.Room.length : Int) = 3)))) (q_pick rfl (fun hp => pkOrT hp) (fun hp => (gv_pos hp).trans (pkOrF hp))) (congrArg Value.bool hqb9)) ?_
 refine g3 ?_
 refine RW.g (b := qb9) (v := .bool (decide (0 ≤ b.Err ∧ b.Err ≤ 1099511627776))) rfl rfl rfl (fun h => q_call (args := #[iV b.Err, iV 0, iV 1099511627776]) own78 rfl (args3 (gv_pos h) rfl rfl) (fun w1 hw1 => bIn_c w1 (Go.K.hp w1) (Hp.le_refl _))) ?_
 refine g1 ?_
 obtain ⟨qb10, hqb10⟩ : ∃ z : Bool, (qb9 || (!(decide (0 ≤ b.Err ∧ b.Err ≤ 1099511627776)))) = z := ⟨_, rfl⟩
 refine RW.q (v := .bool qb10) rfl (q_as (v := .bool (qb9 || (!(decide (0 ≤ b.Err ∧ b.Err ≤ 1099511627776))))) (q_pick rfl (fun hp => pkOrT hp) (fun hp => (gv_pos hp).trans (pkOrF hp))) (congrArg Value.bool hqb10)) ?_
 subst hqb10 hqb9 hqb8 hqb7 hqb6 hqb5 hqb4 hqb3 hqb2 hqb1
 refine g2 ?_
 refine AW.cond rfl (fun hc1 => ?_) fun hc1 => ?_
 ·
  refine g7 ?_
  exact fin_val (v' := .bool false) rfl rfl rfl (congrArg Value.bool (decide_eq_false (fun h9 => Bool.noConfusion ((h9.1).symm.trans hc1))).symm)
 ·
  refine g7 ?_
  refine RW.q (v := iV (b.Name.data.toList.length : Int)) rfl (q_lenS (l := b.Name.data.toList) rfl uT9) ?_
  refine g4 ?_
  refine AW.loop (fun s J m => ∃ (k : Nat), s = [(1, pV b1 0), (75, iV (b.Name.data.toList.length : Int)), (76, iV (k : Int))] ∧ J = St ⟨w, Φ, []⟩ Φ [.blk b1 31 (cl31 b v1 v3 v4 v5 v6 v7 v8 v9)] ∧ m = b.Name.data.toList.length - k ∧ (k ≤ b.Name.data.toList.length) ∧ (∀ j, j < k → nameBad b j = false)) (s0 := _) (J1 := _) (m0 := _) ⟨0, rfl, rfl, rfl, (by omega), (fun j hj => absurd hj (by omega))⟩ ⟨rfl, rfl, rfl, trivial⟩ (fun _ h => h) ?_
  rintro _ _ _ _ ⟨k, rfl, rfl, rfl, hk, hall⟩
  refine g6 ?_
  refine AW.cond rfl (fun hc2 => ?_) fun hc2 => ?_
  ·
   simp [-List.getD_eq_getElem?_getD, -Array.length_toList] at hc2
   refine g15 ?_
   refine RW.q (v := .int .u8 (((b.Name.data.toList.getD k 0).toNat : Nat) : Int)) rfl (q_indexS (l := b.Name.data.toList) (i := (k : Int)) rfl rfl uT9 (by omega) (by omega)) ?_
   refine g6 ?_
   refine RW.q (v := .bool (decide ((((b.Name.data.toList.getD k 0).toNat : Nat) : Int) < ((32 : Nat) : Int)))) rfl (q_lss (a := (((b.Name.data.toList.getD k 0).toNat : Nat) : Int)) (b := ((32 : Nat) : Int)) rfl rfl) ?_
   refine g2 ?_
   refine RW.g (b := (decide ((((b.Name.data.toList.getD k 0).toNat : Nat) : Int) < ((32 : Nat) : Int)))) (v := .bool (decide (((126 : Nat) : Int) < (((b.Name.data.toList.getD k 0).toNat : Nat) : Int)))) rfl rfl rfl (fun h => q_gtr (a := (((b.Name.data.toList.getD k 0).toNat : Nat) : Int)) (b := ((126 : Nat) : Int)) (gv_pos h) rfl) ?_
   obtain ⟨qb11, hqb11⟩ : ∃ z : Bool, ((decide ((((b.Name.data.toList.getD k 0).toNat : Nat) : Int) < ((32 : Nat) : Int))) || (decide (((126 : Nat) : Int) < (((b.Name.data.toList.getD k 0).toNat : Nat) : Int)))) = z := ⟨_, rfl⟩
   refine RW.q (v := .bool qb11) rfl (q_as (v := .bool ((decide ((((b.Name.data.toList.getD k 0).toNat : Nat) : Int) < ((32 : Nat) : Int))) || (decide (((126 : Nat) : Int) < (((b.Name.data.toList.getD k 0).toNat : Nat) : Int))))) (q_pick rfl (fun hp => pkOrT hp) (fun hp => (gv_pos hp).trans (pkOrF hp))) (congrArg Value.bool hqb11)) ?_
   refine g2 ?_
   refine RW.g (b := qb11) (v := .bool (decide ((((b.Name.data.toList.getD k 0).toNat : Nat) : Int) = ((34 : Nat) : Int)))) rfl rfl rfl (fun h => q_eql (a := (((b.Name.data.toList.getD k 0).toNat : Nat) : Int)) (b := ((34 : Nat) : Int)) (gv_pos h) rfl) ?_
   obtain ⟨qb12, hqb12⟩ : ∃ z : Bool, (qb11 || (decide ((((b.Name.data.toList.getD k 0).toNat : Nat) : Int) = ((34 : Nat) : Int)))) = z := ⟨_, rfl⟩
   refine RW.q (v := .bool qb12) rfl (q_as (v := .bool (qb11 || (decide ((((b.Name.data.toList.getD k 0).toNat : Nat) : Int) = ((34 : Nat) : Int))))) (q_pick rfl (fun hp => pkOrT hp) (fun hp => (gv_pos hp).trans (pkOrF hp))) (congrArg Value.bool hqb12)) ?_
   refine g2 ?_
   refine RW.g (b := qb12) (v := .bool (decide ((((b.Name.data.toList.getD k 0).toNat : Nat) : Int) = ((92 : Nat) : Int)))) rfl rfl rfl (fun h => q_eql (a := (((b.Name.data.toList.getD k 0).toNat : Nat) : Int)) (b := ((92 : Nat) : Int)) (gv_pos h) rfl) ?_
   obtain ⟨qb13, hqb13⟩ : ∃ z : Bool, (qb12 || (decide ((((b.Name.data.toList.getD k 0).toNat : Nat) : Int) = ((92 : Nat) : Int)))) = z := ⟨_, rfl⟩
   refine RW.q (v := .bool qb13) rfl (q_as (v := .bool (qb12 || (decide ((((b.Name.data.toList.getD k 0).toNat : Nat) : Int) = ((92 : Nat) : Int))))) (q_pick rfl (fun hp => pkOrT hp) (fun hp => (gv_pos hp).trans (pkOrF hp))) (congrArg Value.bool hqb13)) ?_
   subst hqb13 hqb12 hqb11
   refine g2 ?_
   refine AW.cond rfl (fun hc3 => ?_) fun hc3 => ?_
   ·
    refine g11 ?_
    exact fin_val (v' := .bool false) rfl rfl rfl (congrArg Value.bool (decide_eq_false (fun h9 => Bool.noConfusion ((h9.2.1 k (by omega)).symm.trans hc3))).symm)
   ·
    refine g7 ?_
    exact Post.back (s' := _) (J' := _) (m' := _) (by omega) ⟨k + 1, rfl, rfl, rfl, (by omega), (Fu.lt_succ hall hc3)⟩ ⟨rfl, rfl, rfl, trivial⟩ (fun _ h => h)
  ·
   simp [-List.getD_eq_getElem?_getD, -Array.length_toList] at hc2
   refine g15 ?_
   refine AW.loop (fun s J m => ∃ (i : Nat), s = [(99, v9), (100, iV (b.Room.length : Int)), (101, iV (i : Int))] ∧ J = St ⟨w, Φ, []⟩ Φ [.blk b1 31 (cl31 b v1 v3 v4 v5 v6 v7 v8 v9)] ∧ m = b.Room.length - i ∧ (i ≤ b.Room.length) ∧ (∀ j, j < i → roomBad b j = false)) (s0 := _) (J1 := _) (m0 := _) ⟨0, rfl, rfl, rfl, (by omega), (fun j hj => absurd hj (by omega))⟩ ⟨rfl, rfl, rfl, trivial⟩ (fun _ h => h) ?_
   rintro _ _ _ _ ⟨i, rfl, rfl, rfl, hi, hal2⟩
   refine g6 ?_
   refine AW.cond rfl (fun hc4 => ?_) fun hc4 => ?_
   ·
    simp [-List.getD_eq_getElem?_getD, -Array.length_toList] at hc4
    refine g6 ?_
    refine RW.q (v := .pointer (some (Value.at v9 (i * 1)))) rfl (q_indexAddr rfl rfl r9.sl uT29 sz3 (by omega) (by omega) rfl) (RW.q (v := iV (b.Room.getD i 0)) rfl (q_load rfl uT3 rfl (Cell.repInt r9 (by omega))) ?_)
    refine g6 ?_
    refine RW.q (v := .bool (decide (0 ≤ b.Room.getD i 0 ∧ b.Room.getD i 0 ≤ 1125899906842624))) rfl (q_call (args := #[iV (b.Room.getD i 0)]) own79 rfl rfl (fun w1 hw1 => bVol_c w1 (Go.K.hp w1) (Hp.le_refl _))) ?_
    refine g3 ?_
    refine AW.cond rfl (fun hc5 => ?_) fun hc5 => ?_
    ·
     refine g11 ?_
     exact fin_val (v' := .bool false) rfl rfl rfl (congrArg Value.bool (decide_eq_false (fun h9 => Bool.noConfusion ((h9.2.2 i (by omega)).symm.trans hc5))).symm)
    ·
     refine g7 ?_
     exact Post.back (s' := _) (J' := _) (m' := _) (by omega) ⟨i + 1, rfl, rfl, rfl, (by omega), (Fu.lt_succ hal2 hc5)⟩ ⟨rfl, rfl, rfl, trivial⟩ (fun _ h => h)
   ·
    simp [-List.getD_eq_getElem?_getD, -Array.length_toList] at hc4
    refine g11 ?_
    exact fin_val (v' := .bool true) rfl rfl rfl (congrArg Value.bool (decide_eq_true (show RHead b from ⟨hc1, fun j hj => hall j (by omega), fun j hj => hal2 j (by omega)⟩)).symm)
def chkS (s : (Ba.Mk → Option Bool) × Bool) (p : Ba.Mk) : (Ba.Mk → Option Bool) × Bool := (putB s.1 p.1 p.2, frsB s.1 p.1 p.2 && s.2)
def chk0 : (Ba.Mk → Option Bool) × Bool := (fun _ => none, true)
def nmF0 (x : ByteArray) : Ba.Mk := ((bs [111, 119, 110, 101, 114]), x)
def nmF1 (x : Bt.Place) : Ba.Mk := ((bs [112, 108, 97, 99, 101]), x.Name)
def nmF2 (x : Bt.Link) : Ba.Mk := ((bs [108, 105, 110, 107]), x.Name)
def nmF3 (x : Bt.Town) : Ba.Mk := ((bs [116, 111, 119, 110]), x.Name)
def nmF4 (x : Bt.Shelter) : Ba.Mk := ((bs [115, 104, 101, 108, 116, 101, 114]), x.Name)
def nmF5 (x : Bt.Gauge) : Ba.Mk := ((bs [103, 97, 117, 103, 101]), x.Name)
def nmF6 (x : Bt.Road) : Ba.Mk := ((bs [114, 111, 97, 100]), x.Name)
def nmL0 (b : Bt.Basin) : List Ba.Mk := []
def nmL1 (b : Bt.Basin) : List Ba.Mk := nmL0 b ++ b.Owners.map nmF0
def nmL2 (b : Bt.Basin) : List Ba.Mk := nmL1 b ++ b.Places.map nmF1
def nmL3 (b : Bt.Basin) : List Ba.Mk := nmL2 b ++ b.Links.map nmF2
def nmL4 (b : Bt.Basin) : List Ba.Mk := nmL3 b ++ b.Towns.map nmF3
def nmL5 (b : Bt.Basin) : List Ba.Mk := nmL4 b ++ b.Shelters.map nmF4
def nmL6 (b : Bt.Basin) : List Ba.Mk := nmL5 b ++ b.Gauges.map nmF5
def nmL7 (b : Bt.Basin) : List Ba.Mk := nmL6 b ++ b.Roads.map nmF6
def RNames (b : Bt.Basin) : Bool := ((nmL7 b).foldl chkS chk0).2
set_option maxRecDepth 8000 in
set_option maxHeartbeats 2000000 in
theorem rNames_c (w : World) (Φ : Hp) (hΦ : Hp.le Φ (hp w)) {b : Bt.Basin} {cs : List Value} (hB : RepV Φ b cs)  :
  Calls Try.prog 52 #[.agg cs.toArray] w fun e w' => e = .returned (.bool (RNames b)) ∧ Bel w.heap.size w w' := by
 obtain ⟨v1, v3, v4, v5, v6, v7, v8, v9, hcs, hBw, r1, r3, r4, r5, r6, r7, r8, r9⟩ := (show Rep.rep Φ b cs from hB)
 subst hcs
 have hpm : b.Places.length * 152 ≤ 140737488355328 := r3.max
 refine calls_of_AW (args := [.agg (cl31 b v1 v3 v4 v5 v6 v7 v8 v9).toArray]) Try.func52 rfl (Nat.le_of_ble_eq_true rfl) (St ⟨w, Φ, []⟩ Φ []) (StP.init w Φ hΦ []) ?_
 show AW Try.prog 106 [] _ _ _ [(0, .agg (cl31 b v1 v3 v4 v5 v6 v7 v8 v9).toArray)] _
 have hnl : b.Name.data.toList.length ≤ 9223372036854775807 := hBw.1
 have hom : b.Owners.length * 16 ≤ 140737488355328 := r1.max
 have hlm : b.Links.length * 200 ≤ 140737488355328 := r4.max
 have htm : b.Towns.length * 64 ≤ 140737488355328 := r5.max
 have hgm_ : b.Gauges.length * 48 ≤ 140737488355328 := r6.max
 have hrm : b.Roads.length * 64 ≤ 140737488355328 := r7.max
 have hsm : b.Shelters.length * 24 ≤ 140737488355328 := r8.max
 have hom2 : b.Room.length * 8 ≤ 140737488355328 := r9.max
 refine g2 ?_
 refine RW.bxA rfl rfl fun b1 => ?_
 refine g5 ?_
 refine RW.eff (fun b2 : Nat => .map (some b2)) (fun b2 => St ⟨w, Φ, []⟩ Φ [.kmap kMark Value.bool b2 (fun _ => none), .blk b1 31 (cl31 b v1 v3 v4 v5 v6 v7 v8 v9)]) rfl (e_kmake kMark Value.bool) ?_
 intro b2
 refine RW.eff (fun b3 : Nat => pV b3 0) (fun b3 => St ⟨w, Φ, []⟩ Φ [.blk b3 126 [.map none], .kmap kMark Value.bool b2 (fun _ => none), .blk b1 31 (cl31 b v1 v3 v4 v5 v6 v7 v8 v9)]) rfl (e_alloc zero126) ?_
 intro b3
 refine RW.effn (J' := St ⟨w, Φ, []⟩ Φ [.blk b3 126 [.map (some b2)], .kmap kMark Value.bool b2 (fun _ => none), .blk b1 31 (cl31 b v1 v3 v4 v5 v6 v7 v8 v9)]) (e_store (v := .map (some b2)) 0 rfl rfl rfl sz126 rfl rfl rfl rfl rfl) (RW.nil (Post.then_n (AW.seq (AW.region (RW.eff (fun b4 : Nat => pV b4 0) (fun b4 => St ⟨w, Φ, []⟩ Φ [.blk b4 4 [.bool false], .blk b3 126 [.map (some b2)], .kmap kMark Value.bool b2 (fun _ => none), .blk b1 31 (cl31 b v1 v3 v4 v5 v6 v7 v8 v9)]) rfl (e_alloc zero4) ?_)))))
 intro b4
 refine g5 ?_
 refine RW.q (v := .func (.func 80) #[] #[pV b3 0, pV b4 0]) rfl (q_makeFunc rfl rfl) ?_
 refine g13 ?_
 refine AW.loop (fun s J m => ∃ (k : Nat), ∃ (M : Ba.Mk → Option Bool), ∃ (t : Bool), s = [(1, pV b1 0), (4, pV b4 0), (5, .func (.func 80) #[] #[pV b3 0, pV b4 0]), (23, v1), (24, iV (b.Owners.length : Int)), (25, iV (k : Int))] ∧ J = St ⟨w, Φ, []⟩ Φ [.blk b4 4 [.bool t], .blk b3 126 [.map (some b2)], .kmap kMark Value.bool b2 (M), .blk b1 31 (cl31 b v1 v3 v4 v5 v6 v7 v8 v9)] ∧ m = b.Owners.length - k ∧ (k ≤ b.Owners.length) ∧ ((M, t) = (nmL0 b ++ (b.Owners.map nmF0).take k).foldl chkS chk0)) (s0 := _) (J1 := _) (m0 := _) ⟨0, fun _ => none, true, rfl, rfl, rfl, (by omega), rfl⟩ ⟨rfl, rfl, rfl, rfl, rfl, rfl, trivial⟩ (fun _ h => h) ?_
 rintro _ _ _ _ ⟨k, M, t, rfl, rfl, rfl, hk, hS⟩
 refine g6 ?_
 refine AW.cond rfl (fun hc1 => ?_) fun hc1 => ?_
 ·
  simp [-List.getD_eq_getElem?_getD, -Array.length_toList] at hc1
  refine g6 ?_
  refine RW.q (v := .pointer (some (Value.at v1 (k * 1)))) rfl (q_indexAddr rfl rfl r1.sl uT22 sz9 (by omega) (by omega) rfl) ?_
  have hstr1 := RepSl.strAt (k := k) r1 (by omega)
  refine RW.q (v := .string (b.Owners.getD k default)) rfl (q_load rfl uT9 rfl (Cell.phi hstr1.2)) ?_
  refine g3 ?_
  have hnm : (b.Owners.getD k default).size ≤ maxLen := hstr1.1
  refine g3 ?_
  refine RW.eff (fun u1 : Unit => .tuple #[]) (fun u1 => St ⟨w, Φ, []⟩ Φ [.blk b4 4 [.bool (frsB M (bs ([111, 119, 110, 101, 114] : List UInt8)) (b.Owners.getD k default) && t)], .blk b3 126 [.map (some b2)], .kmap kMark Value.bool b2 (putB M (bs ([111, 119, 110, 101, 114] : List UInt8)) (b.Owners.getD k default)), .blk b1 31 (cl31 b v1 v3 v4 v5 v6 v7 v8 v9)]) rfl (e_call (args := #[.string (bs ([111, 119, 110, 101, 114] : List UInt8)), .string (b.Owners.getD k default), pV b3 0, pV b4 0]) own80 rfl rfl (fun w1 hw1 => check_c (C := [.blk b1 31 (cl31 b v1 v3 v4 v5 v6 v7 v8 v9)]) rfl (by show (5 : Nat) ≤ maxLen; decide) hnm w1 hw1)) ?_
  intro u1
  refine g7 ?_
  exact Post.back (s' := _) (J' := _) (m' := _) (by omega) ⟨k + 1, putB M (bs ([111, 119, 110, 101, 114] : List UInt8)) (b.Owners.getD k default), frsB M (bs ([111, 119, 110, 101, 114] : List UInt8)) (b.Owners.getD k default) && t, rfl, rfl, rfl, (by omega), (Ba.fold_snoc chkS chk0 (nmL0 b) nmF0 (show k < b.Owners.length by omega) hS)⟩ ⟨rfl, rfl, rfl, rfl, rfl, rfl, trivial⟩ (fun _ h => h)
 ·
  simp [-List.getD_eq_getElem?_getD, -Array.length_toList] at hc1
  refine g15 ?_
  have hE : (M, t) = (nmL1 b).foldl chkS chk0 := Ba.fold_end chkS chk0 (nmL0 b) nmF0 (by omega) hS
  refine AW.loop (fun s J m => ∃ (k : Nat), ∃ (M : Ba.Mk → Option Bool), ∃ (t : Bool), s = [(1, pV b1 0), (4, pV b4 0), (5, .func (.func 80) #[] #[pV b3 0, pV b4 0]), (34, v3), (35, iV (b.Places.length : Int)), (36, iV (k : Int))] ∧ J = St ⟨w, Φ, []⟩ Φ [.blk b4 4 [.bool t], .blk b3 126 [.map (some b2)], .kmap kMark Value.bool b2 (M), .blk b1 31 (cl31 b v1 v3 v4 v5 v6 v7 v8 v9)] ∧ m = b.Places.length - k ∧ (k ≤ b.Places.length) ∧ ((M, t) = (nmL1 b ++ (b.Places.map nmF1).take k).foldl chkS chk0)) (s0 := _) (J1 := _) (m0 := _) ⟨0, M, t, rfl, rfl, rfl, (by omega), (by rw [List.take_zero, List.append_nil]; exact hE)⟩ ⟨rfl, rfl, rfl, rfl, rfl, rfl, trivial⟩ (fun _ h => h) ?_
  rintro _ _ _ _ ⟨k, M, t, rfl, rfl, rfl, hk, hS⟩
  refine g6 ?_
  refine AW.cond rfl (fun hc2 => ?_) fun hc2 => ?_
  ·
   simp [-List.getD_eq_getElem?_getD, -Array.length_toList] at hc2
   refine g6 ?_
   refine RW.q (v := .pointer (some (Value.at v3 (k * 12)))) rfl (q_indexAddr rfl rfl r3.sl uT23 sz63 (by omega) (by omega) rfl) ?_
   obtain ⟨cv1, hcr1, hcc1⟩ := RepSl.whole (k := k) r3 (by omega)
   obtain ⟨sv1, sv2, sv3, hcE1, hcw1, hsv1, hsv2, hsv3⟩ := (show Rep.rep _ _ _ from hcr1)
   subst hcE1
   refine RW.q (v := .agg (cl63 (b.Places.getD k default) sv1 sv2 sv3).toArray) rfl (q_loadAgg rfl uT63 rfl sz63 rfl (Cells.phiK hcc1)) ?_
   refine RW.alc rfl fun b5 => ?_
   refine RW.effn (J' := St ⟨w, Φ, []⟩ Φ [.blk b5 63 (cl63 (b.Places.getD k default) sv1 sv2 sv3), .blk b4 4 [.bool t], .blk b3 126 [.map (some b2)], .kmap kMark Value.bool b2 (M), .blk b1 31 (cl31 b v1 v3 v4 v5 v6 v7 v8 v9)]) (e_store (v := .agg (cl63 (b.Places.getD k default) sv1 sv2 sv3).toArray) 0 rfl rfl rfl sz63 rfl (List.all_eq_true.2 (fun u hu => Rep.one (show Rep.rep _ _ _ from hcr1) u hu)) rfl rfl rfl) ?_
   refine g2 ?_
   have hnm : (b.Places.getD k default).Name.size ≤ maxLen := hcw1.1
   refine g4 ?_
   refine RW.eff (fun u2 : Unit => .tuple #[]) (fun u2 => St ⟨w, Φ, []⟩ Φ [.blk b5 63 (cl63 (b.Places.getD k default) sv1 sv2 sv3), .blk b4 4 [.bool (frsB M (bs ([112, 108, 97, 99, 101] : List UInt8)) ((b.Places.getD k default).Name) && t)], .blk b3 126 [.map (some b2)], .kmap kMark Value.bool b2 (putB M (bs ([112, 108, 97, 99, 101] : List UInt8)) ((b.Places.getD k default).Name)), .blk b1 31 (cl31 b v1 v3 v4 v5 v6 v7 v8 v9)]) rfl (e_call (args := #[.string (bs ([112, 108, 97, 99, 101] : List UInt8)), .string ((b.Places.getD k default).Name), pV b3 0, pV b4 0]) own80 rfl rfl (fun w1 hw1 => (check_c (C := [.blk b5 63 (cl63 (b.Places.getD k default) sv1 sv2 sv3), .blk b1 31 (cl31 b v1 v3 v4 v5 v6 v7 v8 v9)]) rfl (by show (5 : Nat) ≤ maxLen; decide) hnm w1 (hw1.perm (List.perm_middle (a := (.blk b5 63 (cl63 (b.Places.getD k default) sv1 sv2 sv3) : Chunk)) (l₁ := ([.blk b4 4 [.bool t], .blk b3 126 [.map (some b2)], .kmap kMark Value.bool b2 (M)] : List Chunk)) (l₂ := ([.blk b1 31 (cl31 b v1 v3 v4 v5 v6 v7 v8 v9)] : List Chunk))))).mono fun e w2 ⟨x, he, hp⟩ => ⟨x, he, hp.perm (List.perm_middle (a := (.blk b5 63 (cl63 (b.Places.getD k default) sv1 sv2 sv3) : Chunk)) (l₁ := ([.blk b4 4 [.bool (frsB M (bs ([112, 108, 97, 99, 101] : List UInt8)) ((b.Places.getD k default).Name) && t)], .blk b3 126 [.map (some b2)], .kmap kMark Value.bool b2 (putB M (bs ([112, 108, 97, 99, 101] : List UInt8)) ((b.Places.getD k default).Name))] : List Chunk)) (l₂ := ([.blk b1 31 (cl31 b v1 v3 v4 v5 v6 v7 v8 v9)] : List Chunk))).symm⟩)) ?_
   intro u2
   refine g7 ?_
   exact Post.back (s' := _) (J' := _) (m' := _) (by omega) ⟨k + 1, putB M (bs ([112, 108, 97, 99, 101] : List UInt8)) ((b.Places.getD k default).Name), frsB M (bs ([112, 108, 97, 99, 101] : List UInt8)) ((b.Places.getD k default).Name) && t, rfl, rfl, rfl, (by omega), (Ba.fold_snoc chkS chk0 (nmL1 b) nmF1 (show k < b.Places.length by omega) hS)⟩ ⟨rfl, rfl, rfl, rfl, rfl, rfl, trivial⟩ (fun _ h => StP.drop h (by exact .cons _ (.cons_cons _ (.cons_cons _ (.cons_cons _ (.cons_cons _ (.slnil)))))))
  ·
   simp [-List.getD_eq_getElem?_getD, -Array.length_toList] at hc2
   refine g15 ?_
   have hE : (M, t) = (nmL2 b).foldl chkS chk0 := Ba.fold_end chkS chk0 (nmL1 b) nmF1 (by omega) hS
   refine AW.loop (fun s J m => ∃ (k : Nat), ∃ (M : Ba.Mk → Option Bool), ∃ (t : Bool), s = [(1, pV b1 0), (4, pV b4 0), (5, .func (.func 80) #[] #[pV b3 0, pV b4 0]), (46, v4), (47, iV (b.Links.length : Int)), (48, iV (k : Int))] ∧ J = St ⟨w, Φ, []⟩ Φ [.blk b4 4 [.bool t], .blk b3 126 [.map (some b2)], .kmap kMark Value.bool b2 (M), .blk b1 31 (cl31 b v1 v3 v4 v5 v6 v7 v8 v9)] ∧ m = b.Links.length - k ∧ (k ≤ b.Links.length) ∧ ((M, t) = (nmL2 b ++ (b.Links.map nmF2).take k).foldl chkS chk0)) (s0 := _) (J1 := _) (m0 := _) ⟨0, M, t, rfl, rfl, rfl, (by omega), (by rw [List.take_zero, List.append_nil]; exact hE)⟩ ⟨rfl, rfl, rfl, rfl, rfl, rfl, trivial⟩ (fun _ h => h) ?_
   rintro _ _ _ _ ⟨k, M, t, rfl, rfl, rfl, hk, hS⟩
   refine g6 ?_
   refine AW.cond (b := decide ((k : Int) < (b.Links.length : Int))) rfl (fun hc3 => ?_) (fun hc3 => ?_)
   ·
    simp [-List.getD_eq_getElem?_getD, -Array.length_toList] at hc3
    refine g6 ?_
    refine RW.q (v := .pointer (some (Value.at v4 (k * 18)))) rfl (q_indexAddr rfl rfl r4.sl uT24 sz132 (by omega) (by omega) rfl) ?_
    obtain ⟨cv2, hcr2, hcc2⟩ := RepSl.whole (k := k) r4 (by omega)
    obtain ⟨sv4, sv5, sv6, hcE2, hcw2, hsv4, hsv5, hsv6⟩ := (show Rep.rep _ _ _ from hcr2)
    subst hcE2
    refine RW.q (v := .agg (cl132 (b.Links.getD k default) sv4 sv5 sv6).toArray) rfl (q_loadAgg rfl uT132 rfl sz132 rfl (Cells.phiK hcc2)) (RW.eff (fun b6 : Nat => pV b6 0) (fun b6 => St ⟨w, Φ, []⟩ Φ [.blk b6 132 [.string (bs ([])), iV 0, iV 0, iV 0, nS, nS, nS, iV 0, iV 0, iV 0, iV 0, iV 0, iV 0, iV 0, iV 0, iV 0, iV 0, iV 0], .blk b4 4 [.bool t], .blk b3 126 [.map (some b2)], .kmap kMark Value.bool b2 (M), .blk b1 31 (cl31 b v1 v3 v4 v5 v6 v7 v8 v9)]) rfl (e_alloc zero132) ?_)
    intro b6
    refine RW.effn (J' := St ⟨w, Φ, []⟩ Φ [.blk b6 132 (cl132 (b.Links.getD k default) sv4 sv5 sv6), .blk b4 4 [.bool t], .blk b3 126 [.map (some b2)], .kmap kMark Value.bool b2 (M), .blk b1 31 (cl31 b v1 v3 v4 v5 v6 v7 v8 v9)]) (e_store (v := .agg (cl132 (b.Links.getD k default) sv4 sv5 sv6).toArray) 0 rfl rfl rfl sz132 rfl (List.all_eq_true.2 (fun u hu => Rep.one (show Rep.rep _ _ _ from hcr2) u hu)) rfl rfl rfl) ?_
    refine g2 ?_
    have hnm : (b.Links.getD k default).Name.size ≤ maxLen := hcw2.1
    refine g4 ?_
    refine RW.eff (fun u3 : Unit => .tuple #[]) (fun u3 => St ⟨w, Φ, []⟩ Φ [.blk b6 132 (cl132 (b.Links.getD k default) sv4 sv5 sv6), .blk b4 4 [.bool (frsB M (bs ([108, 105, 110, 107] : List UInt8)) ((b.Links.getD k default).Name) && t)], .blk b3 126 [.map (some b2)], .kmap kMark Value.bool b2 (putB M (bs ([108, 105, 110, 107] : List UInt8)) ((b.Links.getD k default).Name)), .blk b1 31 (cl31 b v1 v3 v4 v5 v6 v7 v8 v9)]) rfl (e_call (args := #[.string (bs ([108, 105, 110, 107] : List UInt8)), .string ((b.Links.getD k default).Name), pV b3 0, pV b4 0]) own80 rfl rfl (fun w1 hw1 => (check_c (C := [.blk b6 132 (cl132 (b.Links.getD k default) sv4 sv5 sv6), .blk b1 31 (cl31 b v1 v3 v4 v5 v6 v7 v8 v9)]) rfl (by show (4 : Nat) ≤ maxLen; decide) hnm w1 (hw1.perm (List.perm_middle (a := (.blk b6 132 (cl132 (b.Links.getD k default) sv4 sv5 sv6) : Chunk)) (l₁ := ([.blk b4 4 [.bool t], .blk b3 126 [.map (some b2)], .kmap kMark Value.bool b2 (M)] : List Chunk)) (l₂ := ([.blk b1 31 (cl31 b v1 v3 v4 v5 v6 v7 v8 v9)] : List Chunk))))).mono fun e w2 ⟨x, he, hp⟩ => ⟨x, he, hp.perm (List.perm_middle (a := (.blk b6 132 (cl132 (b.Links.getD k default) sv4 sv5 sv6) : Chunk)) (l₁ := ([.blk b4 4 [.bool (frsB M (bs ([108, 105, 110, 107] : List UInt8)) ((b.Links.getD k default).Name) && t)], .blk b3 126 [.map (some b2)], .kmap kMark Value.bool b2 (putB M (bs ([108, 105, 110, 107] : List UInt8)) ((b.Links.getD k default).Name))] : List Chunk)) (l₂ := ([.blk b1 31 (cl31 b v1 v3 v4 v5 v6 v7 v8 v9)] : List Chunk))).symm⟩)) ?_
    intro u3
    refine g7 ?_
    exact Post.back (s' := _) (J' := _) (m' := _) (by omega) ⟨k + 1, putB M (bs ([108, 105, 110, 107] : List UInt8)) ((b.Links.getD k default).Name), frsB M (bs ([108, 105, 110, 107] : List UInt8)) ((b.Links.getD k default).Name) && t, rfl, rfl, rfl, (by omega), (Ba.fold_snoc chkS chk0 (nmL2 b) nmF2 (show k < b.Links.length by omega) hS)⟩ ⟨rfl, rfl, rfl, rfl, rfl, rfl, trivial⟩ (fun _ h => StP.drop h (by exact .cons _ (.cons_cons _ (.cons_cons _ (.cons_cons _ (.cons_cons _ (.slnil)))))))
   ·
    simp [-List.getD_eq_getElem?_getD, -Array.length_toList] at hc3
    refine g15 ?_
    have hE : (M, t) = (nmL3 b).foldl chkS chk0 := Ba.fold_end chkS chk0 (nmL2 b) nmF2 (by omega) hS
    refine AW.loop (fun s J m => ∃ (k : Nat), ∃ (M : Ba.Mk → Option Bool), ∃ (t : Bool), s = [(1, pV b1 0), (4, pV b4 0), (5, .func (.func 80) #[] #[pV b3 0, pV b4 0]), (58, v5), (59, iV (b.Towns.length : Int)), (60, iV (k : Int))] ∧ J = St ⟨w, Φ, []⟩ Φ [.blk b4 4 [.bool t], .blk b3 126 [.map (some b2)], .kmap kMark Value.bool b2 (M), .blk b1 31 (cl31 b v1 v3 v4 v5 v6 v7 v8 v9)] ∧ m = b.Towns.length - k ∧ (k ≤ b.Towns.length) ∧ ((M, t) = (nmL3 b ++ (b.Towns.map nmF3).take k).foldl chkS chk0)) (s0 := _) (J1 := _) (m0 := _) ⟨0, M, t, rfl, rfl, rfl, (by omega), (by rw [List.take_zero, List.append_nil]; exact hE)⟩ ⟨rfl, rfl, rfl, rfl, rfl, rfl, trivial⟩ (fun _ h => h) ?_
    rintro _ _ _ _ ⟨k, M, t, rfl, rfl, rfl, hk, hS⟩
    refine g6 ?_
    refine AW.cond (b := decide ((k : Int) < (b.Towns.length : Int))) rfl (fun hc4 => ?_) (fun hc4 => ?_)
    ·
     simp [-List.getD_eq_getElem?_getD, -Array.length_toList] at hc4
     refine g6 ?_
     refine RW.q (v := .pointer (some (Value.at v5 (k * 7)))) rfl (q_indexAddr rfl rfl r5.sl uT25 sz134 (by omega) (by omega) rfl) (RW.q (v := .agg (cl134 (b.Towns.getD k default)).toArray) rfl (q_loadAgg rfl uT134 rfl sz134 rfl (Cells.repE r5 (by omega) rfl)) (RW.eff (fun b7 : Nat => pV b7 0) (fun b7 => St ⟨w, Φ, []⟩ Φ [.blk b7 134 [.string (bs ([])), iV 0, iV 0, iV 0, iV 0, iV 0, iV 0], .blk b4 4 [.bool t], .blk b3 126 [.map (some b2)], .kmap kMark Value.bool b2 (M), .blk b1 31 (cl31 b v1 v3 v4 v5 v6 v7 v8 v9)]) rfl (e_alloc zero134) ?_))
     intro b7
     refine RW.effn (J' := St ⟨w, Φ, []⟩ Φ [.blk b7 134 (cl134 (b.Towns.getD k default)), .blk b4 4 [.bool t], .blk b3 126 [.map (some b2)], .kmap kMark Value.bool b2 (M), .blk b1 31 (cl31 b v1 v3 v4 v5 v6 v7 v8 v9)]) (e_store (v := .agg (cl134 (b.Towns.getD k default)).toArray) 0 rfl rfl rfl sz134 rfl rfl rfl rfl rfl) ?_
     refine g2 ?_
     have hnm : (b.Towns.getD k default).Name.size ≤ maxLen := (r5.wfE _ (Fu.getD_mem (by omega))).1
     refine g4 ?_
     refine RW.eff (fun u4 : Unit => .tuple #[]) (fun u4 => St ⟨w, Φ, []⟩ Φ [.blk b7 134 (cl134 (b.Towns.getD k default)), .blk b4 4 [.bool (frsB M (bs ([116, 111, 119, 110] : List UInt8)) ((b.Towns.getD k default).Name) && t)], .blk b3 126 [.map (some b2)], .kmap kMark Value.bool b2 (putB M (bs ([116, 111, 119, 110] : List UInt8)) ((b.Towns.getD k default).Name)), .blk b1 31 (cl31 b v1 v3 v4 v5 v6 v7 v8 v9)]) rfl (e_call (args := #[.string (bs ([116, 111, 119, 110] : List UInt8)), .string ((b.Towns.getD k default).Name), pV b3 0, pV b4 0]) own80 rfl rfl (fun w1 hw1 => (check_c (C := [.blk b7 134 (cl134 (b.Towns.getD k default)), .blk b1 31 (cl31 b v1 v3 v4 v5 v6 v7 v8 v9)]) rfl (by show (4 : Nat) ≤ maxLen; decide) hnm w1 (hw1.perm (List.perm_middle (a := (.blk b7 134 (cl134 (b.Towns.getD k default)) : Chunk)) (l₁ := ([.blk b4 4 [.bool t], .blk b3 126 [.map (some b2)], .kmap kMark Value.bool b2 (M)] : List Chunk)) (l₂ := ([.blk b1 31 (cl31 b v1 v3 v4 v5 v6 v7 v8 v9)] : List Chunk))))).mono fun e w2 ⟨x, he, hp⟩ => ⟨x, he, hp.perm (List.perm_middle (a := (.blk b7 134 (cl134 (b.Towns.getD k default)) : Chunk)) (l₁ := ([.blk b4 4 [.bool (frsB M (bs ([116, 111, 119, 110] : List UInt8)) ((b.Towns.getD k default).Name) && t)], .blk b3 126 [.map (some b2)], .kmap kMark Value.bool b2 (putB M (bs ([116, 111, 119, 110] : List UInt8)) ((b.Towns.getD k default).Name))] : List Chunk)) (l₂ := ([.blk b1 31 (cl31 b v1 v3 v4 v5 v6 v7 v8 v9)] : List Chunk))).symm⟩)) ?_
     intro u4
     refine g7 ?_
     exact Post.back (s' := _) (J' := _) (m' := _) (by omega) ⟨k + 1, putB M (bs ([116, 111, 119, 110] : List UInt8)) ((b.Towns.getD k default).Name), frsB M (bs ([116, 111, 119, 110] : List UInt8)) ((b.Towns.getD k default).Name) && t, rfl, rfl, rfl, (by omega), (Ba.fold_snoc chkS chk0 (nmL3 b) nmF3 (show k < b.Towns.length by omega) hS)⟩ ⟨rfl, rfl, rfl, rfl, rfl, rfl, trivial⟩ (fun _ h => StP.drop h (by exact .cons _ (.cons_cons _ (.cons_cons _ (.cons_cons _ (.cons_cons _ (.slnil)))))))
    ·
     simp [-List.getD_eq_getElem?_getD, -Array.length_toList] at hc4
     refine g15 ?_
     have hE : (M, t) = (nmL4 b).foldl chkS chk0 := Ba.fold_end chkS chk0 (nmL3 b) nmF3 (by omega) hS
     refine AW.loop (fun s J m => ∃ (k : Nat), ∃ (M : Ba.Mk → Option Bool), ∃ (t : Bool), s = [(1, pV b1 0), (4, pV b4 0), (5, .func (.func 80) #[] #[pV b3 0, pV b4 0]), (70, v8), (71, iV (b.Shelters.length : Int)), (72, iV (k : Int))] ∧ J = St ⟨w, Φ, []⟩ Φ [.blk b4 4 [.bool t], .blk b3 126 [.map (some b2)], .kmap kMark Value.bool b2 (M), .blk b1 31 (cl31 b v1 v3 v4 v5 v6 v7 v8 v9)] ∧ m = b.Shelters.length - k ∧ (k ≤ b.Shelters.length) ∧ ((M, t) = (nmL4 b ++ (b.Shelters.map nmF4).take k).foldl chkS chk0)) (s0 := _) (J1 := _) (m0 := _) ⟨0, M, t, rfl, rfl, rfl, (by omega), (by rw [List.take_zero, List.append_nil]; exact hE)⟩ ⟨rfl, rfl, rfl, rfl, rfl, rfl, trivial⟩ (fun _ h => h) ?_
     rintro _ _ _ _ ⟨k, M, t, rfl, rfl, rfl, hk, hS⟩
     refine g6 ?_
     refine AW.cond (b := decide ((k : Int) < (b.Shelters.length : Int))) rfl (fun hc5 => ?_) (fun hc5 => ?_)
     ·
      simp [-List.getD_eq_getElem?_getD, -Array.length_toList] at hc5
      refine g6 ?_
      refine RW.q (v := .pointer (some (Value.at v8 (k * 2)))) rfl (q_indexAddr rfl rfl r8.sl uT28 sz136 (by omega) (by omega) rfl) (RW.q (v := .agg #[.string ((b.Shelters.getD k default).Name), iV ((b.Shelters.getD k default).Room)]) rfl (q_loadAgg rfl uT136 rfl sz136 rfl (Cells.repE r8 (by omega) rfl)) (RW.eff (fun b8 : Nat => pV b8 0) (fun b8 => St ⟨w, Φ, []⟩ Φ [.blk b8 136 [.string (bs ([])), iV 0], .blk b4 4 [.bool t], .blk b3 126 [.map (some b2)], .kmap kMark Value.bool b2 (M), .blk b1 31 (cl31 b v1 v3 v4 v5 v6 v7 v8 v9)]) rfl (e_alloc zero136) ?_))
      intro b8
      refine RW.effn (J' := St ⟨w, Φ, []⟩ Φ [.blk b8 136 [.string ((b.Shelters.getD k default).Name), iV ((b.Shelters.getD k default).Room)], .blk b4 4 [.bool t], .blk b3 126 [.map (some b2)], .kmap kMark Value.bool b2 (M), .blk b1 31 (cl31 b v1 v3 v4 v5 v6 v7 v8 v9)]) (e_store (v := .agg #[.string ((b.Shelters.getD k default).Name), iV ((b.Shelters.getD k default).Room)]) 0 rfl rfl rfl sz136 rfl rfl rfl rfl rfl) ?_
      refine g2 ?_
      have hnm : (b.Shelters.getD k default).Name.size ≤ maxLen := (r8.wfE _ (Fu.getD_mem (by omega))).1
      refine g4 ?_
      refine RW.eff (fun u5 : Unit => .tuple #[]) (fun u5 => St ⟨w, Φ, []⟩ Φ [.blk b8 136 [.string ((b.Shelters.getD k default).Name), iV ((b.Shelters.getD k default).Room)], .blk b4 4 [.bool (frsB M (bs ([115, 104, 101, 108, 116, 101, 114] : List UInt8)) ((b.Shelters.getD k default).Name) && t)], .blk b3 126 [.map (some b2)], .kmap kMark Value.bool b2 (putB M (bs ([115, 104, 101, 108, 116, 101, 114] : List UInt8)) ((b.Shelters.getD k default).Name)), .blk b1 31 (cl31 b v1 v3 v4 v5 v6 v7 v8 v9)]) rfl (e_call (args := #[.string (bs ([115, 104, 101, 108, 116, 101, 114] : List UInt8)), .string ((b.Shelters.getD k default).Name), pV b3 0, pV b4 0]) own80 rfl rfl (fun w1 hw1 => (check_c (C := [.blk b8 136 [.string ((b.Shelters.getD k default).Name), iV ((b.Shelters.getD k default).Room)], .blk b1 31 (cl31 b v1 v3 v4 v5 v6 v7 v8 v9)]) rfl (by show (7 : Nat) ≤ maxLen; decide) hnm w1 (hw1.perm (List.perm_middle (a := (.blk b8 136 [.string ((b.Shelters.getD k default).Name), iV ((b.Shelters.getD k default).Room)] : Chunk)) (l₁ := ([.blk b4 4 [.bool t], .blk b3 126 [.map (some b2)], .kmap kMark Value.bool b2 (M)] : List Chunk)) (l₂ := ([.blk b1 31 (cl31 b v1 v3 v4 v5 v6 v7 v8 v9)] : List Chunk))))).mono fun e w2 ⟨x, he, hp⟩ => ⟨x, he, hp.perm (List.perm_middle (a := (.blk b8 136 [.string ((b.Shelters.getD k default).Name), iV ((b.Shelters.getD k default).Room)] : Chunk)) (l₁ := ([.blk b4 4 [.bool (frsB M (bs ([115, 104, 101, 108, 116, 101, 114] : List UInt8)) ((b.Shelters.getD k default).Name) && t)], .blk b3 126 [.map (some b2)], .kmap kMark Value.bool b2 (putB M (bs ([115, 104, 101, 108, 116, 101, 114] : List UInt8)) ((b.Shelters.getD k default).Name))] : List Chunk)) (l₂ := ([.blk b1 31 (cl31 b v1 v3 v4 v5 v6 v7 v8 v9)] : List Chunk))).symm⟩)) ?_
      intro u5
      refine g7 ?_
      exact Post.back (s' := _) (J' := _) (m' := _) (by omega) ⟨k + 1, putB M (bs ([115, 104, 101, 108, 116, 101, 114] : List UInt8)) ((b.Shelters.getD k default).Name), frsB M (bs ([115, 104, 101, 108, 116, 101, 114] : List UInt8)) ((b.Shelters.getD k default).Name) && t, rfl, rfl, rfl, (by omega), (Ba.fold_snoc chkS chk0 (nmL4 b) nmF4 (show k < b.Shelters.length by omega) hS)⟩ ⟨rfl, rfl, rfl, rfl, rfl, rfl, trivial⟩ (fun _ h => StP.drop h (by exact .cons _ (.cons_cons _ (.cons_cons _ (.cons_cons _ (.cons_cons _ (.slnil)))))))
     ·
      simp [-List.getD_eq_getElem?_getD, -Array.length_toList] at hc5
      refine g15 ?_
      have hE : (M, t) = (nmL5 b).foldl chkS chk0 := Ba.fold_end chkS chk0 (nmL4 b) nmF4 (by omega) hS
      refine AW.loop (fun s J m => ∃ (k : Nat), ∃ (M : Ba.Mk → Option Bool), ∃ (t : Bool), s = [(1, pV b1 0), (4, pV b4 0), (5, .func (.func 80) #[] #[pV b3 0, pV b4 0]), (82, v6), (83, iV (b.Gauges.length : Int)), (84, iV (k : Int))] ∧ J = St ⟨w, Φ, []⟩ Φ [.blk b4 4 [.bool t], .blk b3 126 [.map (some b2)], .kmap kMark Value.bool b2 (M), .blk b1 31 (cl31 b v1 v3 v4 v5 v6 v7 v8 v9)] ∧ m = b.Gauges.length - k ∧ (k ≤ b.Gauges.length) ∧ ((M, t) = (nmL5 b ++ (b.Gauges.map nmF5).take k).foldl chkS chk0)) (s0 := _) (J1 := _) (m0 := _) ⟨0, M, t, rfl, rfl, rfl, (by omega), (by rw [List.take_zero, List.append_nil]; exact hE)⟩ ⟨rfl, rfl, rfl, rfl, rfl, rfl, trivial⟩ (fun _ h => h) ?_
      rintro _ _ _ _ ⟨k, M, t, rfl, rfl, rfl, hk, hS⟩
      refine g6 ?_
      refine AW.cond rfl (fun hc6 => ?_) fun hc6 => ?_
      ·
       simp [-List.getD_eq_getElem?_getD, -Array.length_toList] at hc6
       refine g6 ?_
       refine RW.q (v := .pointer (some (Value.at v6 (k * 5)))) rfl (q_indexAddr rfl rfl r6.sl uT26 sz58 (by omega) (by omega) rfl) (RW.q (v := .agg (cl58 (b.Gauges.getD k default)).toArray) rfl (q_loadAgg rfl uT58 rfl sz58 rfl (Cells.repE r6 (by omega) rfl)) ?_)
       refine RW.alc rfl fun b9 => ?_
       refine RW.effn (J' := St ⟨w, Φ, []⟩ Φ [.blk b9 58 (cl58 (b.Gauges.getD k default)), .blk b4 4 [.bool t], .blk b3 126 [.map (some b2)], .kmap kMark Value.bool b2 (M), .blk b1 31 (cl31 b v1 v3 v4 v5 v6 v7 v8 v9)]) (e_store (v := .agg (cl58 (b.Gauges.getD k default)).toArray) 0 rfl rfl rfl sz58 rfl rfl rfl rfl rfl) ?_
       refine g2 ?_
       have hnm : (b.Gauges.getD k default).Name.size ≤ maxLen := (r6.wfE _ (Fu.getD_mem (by omega))).1
       refine g4 ?_
       refine RW.eff (fun u6 : Unit => .tuple #[]) (fun u6 => St ⟨w, Φ, []⟩ Φ [.blk b9 58 (cl58 (b.Gauges.getD k default)), .blk b4 4 [.bool (frsB M (bs ([103, 97, 117, 103, 101] : List UInt8)) ((b.Gauges.getD k default).Name) && t)], .blk b3 126 [.map (some b2)], .kmap kMark Value.bool b2 (putB M (bs ([103, 97, 117, 103, 101] : List UInt8)) ((b.Gauges.getD k default).Name)), .blk b1 31 (cl31 b v1 v3 v4 v5 v6 v7 v8 v9)]) rfl (e_call (args := #[.string (bs ([103, 97, 117, 103, 101] : List UInt8)), .string ((b.Gauges.getD k default).Name), pV b3 0, pV b4 0]) own80 rfl rfl (fun w1 hw1 => (check_c (C := [.blk b9 58 (cl58 (b.Gauges.getD k default)), .blk b1 31 (cl31 b v1 v3 v4 v5 v6 v7 v8 v9)]) rfl (by show (5 : Nat) ≤ maxLen; decide) hnm w1 (hw1.perm (List.perm_middle (a := (.blk b9 58 (cl58 (b.Gauges.getD k default)) : Chunk)) (l₁ := ([.blk b4 4 [.bool t], .blk b3 126 [.map (some b2)], .kmap kMark Value.bool b2 (M)] : List Chunk)) (l₂ := ([.blk b1 31 (cl31 b v1 v3 v4 v5 v6 v7 v8 v9)] : List Chunk))))).mono fun e w2 ⟨x, he, hp⟩ => ⟨x, he, hp.perm (List.perm_middle (a := (.blk b9 58 (cl58 (b.Gauges.getD k default)) : Chunk)) (l₁ := ([.blk b4 4 [.bool (frsB M (bs ([103, 97, 117, 103, 101] : List UInt8)) ((b.Gauges.getD k default).Name) && t)], .blk b3 126 [.map (some b2)], .kmap kMark Value.bool b2 (putB M (bs ([103, 97, 117, 103, 101] : List UInt8)) ((b.Gauges.getD k default).Name))] : List Chunk)) (l₂ := ([.blk b1 31 (cl31 b v1 v3 v4 v5 v6 v7 v8 v9)] : List Chunk))).symm⟩)) ?_
       intro u6
       refine g7 ?_
       exact Post.back (s' := _) (J' := _) (m' := _) (by omega) ⟨k + 1, putB M (bs ([103, 97, 117, 103, 101] : List UInt8)) ((b.Gauges.getD k default).Name), frsB M (bs ([103, 97, 117, 103, 101] : List UInt8)) ((b.Gauges.getD k default).Name) && t, rfl, rfl, rfl, (by omega), (Ba.fold_snoc chkS chk0 (nmL5 b) nmF5 (show k < b.Gauges.length by omega) hS)⟩ ⟨rfl, rfl, rfl, rfl, rfl, rfl, trivial⟩ (fun _ h => StP.drop h (by exact .cons _ (.cons_cons _ (.cons_cons _ (.cons_cons _ (.cons_cons _ (.slnil)))))))
      ·
       simp [-List.getD_eq_getElem?_getD, -Array.length_toList] at hc6
       refine g15 ?_
       have hE : (M, t) = (nmL6 b).foldl chkS chk0 := Ba.fold_end chkS chk0 (nmL5 b) nmF5 (by omega) hS
       refine AW.loop (fun s J m => ∃ (k : Nat), ∃ (M : Ba.Mk → Option Bool), ∃ (t : Bool), s = [(1, pV b1 0), (4, pV b4 0), (5, .func (.func 80) #[] #[pV b3 0, pV b4 0]), (94, v7), (95, iV (b.Roads.length : Int)), (96, iV (k : Int))] ∧ J = St ⟨w, Φ, []⟩ Φ [.blk b4 4 [.bool t], .blk b3 126 [.map (some b2)], .kmap kMark Value.bool b2 (M), .blk b1 31 (cl31 b v1 v3 v4 v5 v6 v7 v8 v9)] ∧ m = b.Roads.length - k ∧ (k ≤ b.Roads.length) ∧ ((M, t) = (nmL6 b ++ (b.Roads.map nmF6).take k).foldl chkS chk0)) (s0 := _) (J1 := _) (m0 := _) ⟨0, M, t, rfl, rfl, rfl, (by omega), (by rw [List.take_zero, List.append_nil]; exact hE)⟩ ⟨rfl, rfl, rfl, rfl, rfl, rfl, trivial⟩ (fun _ h => h) ?_
       rintro _ _ _ _ ⟨k, M, t, rfl, rfl, rfl, hk, hS⟩
       refine g6 ?_
       refine AW.cond (b := decide ((k : Int) < (b.Roads.length : Int))) rfl (fun hc7 => ?_) (fun hc7 => ?_)
       ·
        simp [-List.getD_eq_getElem?_getD, -Array.length_toList] at hc7
        refine g6 ?_
        refine RW.q (v := .pointer (some (Value.at v7 (k * 7)))) rfl (q_indexAddr rfl rfl r7.sl uT27 sz138 (by omega) (by omega) rfl) (RW.q (v := .agg (cl138 (b.Roads.getD k default)).toArray) rfl (q_loadAgg rfl uT138 rfl sz138 rfl (Cells.repE r7 (by omega) rfl)) (RW.eff (fun b10 : Nat => pV b10 0) (fun b10 => St ⟨w, Φ, []⟩ Φ [.blk b10 138 [.string (bs ([])), iV 0, iV 0, iV 0, iV 0, iV 0, iV 0], .blk b4 4 [.bool t], .blk b3 126 [.map (some b2)], .kmap kMark Value.bool b2 (M), .blk b1 31 (cl31 b v1 v3 v4 v5 v6 v7 v8 v9)]) rfl (e_alloc zero138) ?_))
        intro b10
        refine RW.effn (J' := St ⟨w, Φ, []⟩ Φ [.blk b10 138 (cl138 (b.Roads.getD k default)), .blk b4 4 [.bool t], .blk b3 126 [.map (some b2)], .kmap kMark Value.bool b2 (M), .blk b1 31 (cl31 b v1 v3 v4 v5 v6 v7 v8 v9)]) (e_store (v := .agg (cl138 (b.Roads.getD k default)).toArray) 0 rfl rfl rfl sz138 rfl rfl rfl rfl rfl) ?_
        refine g2 ?_
        have hnm : (b.Roads.getD k default).Name.size ≤ maxLen := (r7.wfE _ (Fu.getD_mem (by omega))).1
        refine g4 ?_
        refine RW.eff (fun u7 : Unit => .tuple #[]) (fun u7 => St ⟨w, Φ, []⟩ Φ [.blk b10 138 (cl138 (b.Roads.getD k default)), .blk b4 4 [.bool (frsB M (bs ([114, 111, 97, 100] : List UInt8)) ((b.Roads.getD k default).Name) && t)], .blk b3 126 [.map (some b2)], .kmap kMark Value.bool b2 (putB M (bs ([114, 111, 97, 100] : List UInt8)) ((b.Roads.getD k default).Name)), .blk b1 31 (cl31 b v1 v3 v4 v5 v6 v7 v8 v9)]) rfl (e_call (args := #[.string (bs ([114, 111, 97, 100] : List UInt8)), .string ((b.Roads.getD k default).Name), pV b3 0, pV b4 0]) own80 rfl rfl (fun w1 hw1 => (check_c (C := [.blk b10 138 (cl138 (b.Roads.getD k default)), .blk b1 31 (cl31 b v1 v3 v4 v5 v6 v7 v8 v9)]) rfl (by show (4 : Nat) ≤ maxLen; decide) hnm w1 (hw1.perm (List.perm_middle (a := (.blk b10 138 (cl138 (b.Roads.getD k default)) : Chunk)) (l₁ := ([.blk b4 4 [.bool t], .blk b3 126 [.map (some b2)], .kmap kMark Value.bool b2 (M)] : List Chunk)) (l₂ := ([.blk b1 31 (cl31 b v1 v3 v4 v5 v6 v7 v8 v9)] : List Chunk))))).mono fun e w2 ⟨x, he, hp⟩ => ⟨x, he, hp.perm (List.perm_middle (a := (.blk b10 138 (cl138 (b.Roads.getD k default)) : Chunk)) (l₁ := ([.blk b4 4 [.bool (frsB M (bs ([114, 111, 97, 100] : List UInt8)) ((b.Roads.getD k default).Name) && t)], .blk b3 126 [.map (some b2)], .kmap kMark Value.bool b2 (putB M (bs ([114, 111, 97, 100] : List UInt8)) ((b.Roads.getD k default).Name))] : List Chunk)) (l₂ := ([.blk b1 31 (cl31 b v1 v3 v4 v5 v6 v7 v8 v9)] : List Chunk))).symm⟩)) ?_
        intro u7
        refine g7 ?_
        exact Post.back (s' := _) (J' := _) (m' := _) (by omega) ⟨k + 1, putB M (bs ([114, 111, 97, 100] : List UInt8)) ((b.Roads.getD k default).Name), frsB M (bs ([114, 111, 97, 100] : List UInt8)) ((b.Roads.getD k default).Name) && t, rfl, rfl, rfl, (by omega), (Ba.fold_snoc chkS chk0 (nmL6 b) nmF6 (show k < b.Roads.length by omega) hS)⟩ ⟨rfl, rfl, rfl, rfl, rfl, rfl, trivial⟩ (fun _ h => StP.drop h (by exact .cons _ (.cons_cons _ (.cons_cons _ (.cons_cons _ (.cons_cons _ (.slnil)))))))
       ·
        simp [-List.getD_eq_getElem?_getD, -Array.length_toList] at hc7
        refine g12 ?_
        exact fin_val (v' := .bool t) rfl rfl rfl (congrArg Value.bool (by have hE : (M, t) = (nmL7 b).foldl chkS chk0 := Ba.fold_end chkS chk0 (nmL6 b) nmF6 (by omega) hS; unfold RNames; rw [← hE]))
end Go.Proofs.Ytblfeidlnhdekaa
