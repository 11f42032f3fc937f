/- Lemmas. Conditions: those of each theorem. -/
import Derived.Test.YtpapfpoefiikpaaGreatDoorVWalkBc
set_option maxRecDepth 8000
set_option maxHeartbeats 16000000
namespace Go.Proofs.YtpapfpoefiikpaaGreatDoor
open Go Go.K Go.RowKit
attribute [local irreducible] AW RW DW Post Qt
def rainLast (p : Bt.Place) : Nat → Int
 | 0 => -1
 | j + 1 => (p.Rain.getD j default).Index
def placeBad (b : Bt.Basin) (k : Nat) : Bool := (((((((((!(decide (0 ≤ (b.Places.getD k default).Kind ∧ (b.Places.getD k default).Kind ≤ 3))) || (!(decide (0 ≤ (b.Places.getD k default).Office ∧ (b.Places.getD k default).Office ≤ 2)))) || (!(decide (0 ≤ (b.Places.getD k default).Delay ∧ (b.Places.getD k default).Delay ≤ 240)))) || (!(decide (0 ≤ (b.Places.getD k default).Cap ∧ (b.Places.getD k default).Cap ≤ 1125899906842624)))) || (!(decide (0 ≤ (b.Places.getD k default).Floor ∧ (b.Places.getD k default).Floor ≤ 1125899906842624)))) || (!(decide (Fu.RightC ((b.Places.getD k default).Level))))) || (!decide (((((b.Places.getD k default).Start).length : Nat) : Int) = (b.Owners.length : Int)))) || (!(decide ((0 ≤ (b.Places.getD k default).Num ∧ (b.Places.getD k default).Num ≤ 1125899906842624) ∧ (0 ≤ (b.Places.getD k default).Den ∧ (b.Places.getD k default).Den ≤ 1125899906842624) ∧ ((b.Places.getD k default).Den = 0 → (b.Places.getD k default).Num = 0))))) || (!(decide ((b.Places.getD k default).Down = -1 ∨ (0 ≤ (b.Places.getD k default).Down ∧ (b.Places.getD k default).Down < (b.Places.length : Int)) ∧ (b.Places.getD k default).Down ≠ (k : Int)))))
def startBad (b : Bt.Basin) (k i : Nat) : Bool := !(decide (0 ≤ ((b.Places.getD k default).Start).getD i 0 ∧ ((b.Places.getD k default).Start).getD i 0 ≤ 1125899906842624))
def rainBad (b : Bt.Basin) (k j : Nat) : Bool := (((decide ((((b.Places.getD k default).Rain).getD j default).Index ≤ rainLast (b.Places.getD k default) j)) || (decide (b.Cells ≤ (((b.Places.getD k default).Rain).getD j default).Index))) || (!(decide (0 ≤ (((b.Places.getD k default).Rain).getD j default).Area ∧ (((b.Places.getD k default).Rain).getD j default).Area ≤ 1125899906842624))))
def PlaceOk (b : Bt.Basin) (k : Nat) : Prop := placeBad b k = false ∧ (∀ i, i < (b.Places.getD k default).Start.length → startBad b k i = false) ∧ ∀ j, j < (b.Places.getD k default).Rain.length → rainBad b k j = false
instance (b : Bt.Basin) (k : Nat) : Decidable (PlaceOk b k) := inferInstanceAs (Decidable (placeBad b k = false ∧ (∀ i, i < (b.Places.getD k default).Start.length → startBad b k i = false) ∧ ∀ j, j < (b.Places.getD k default).Rain.length → rainBad b k j = false))
def RPlaces (b : Bt.Basin) : Prop := (∀ k, k < b.Places.length → PlaceOk b k) ∧ Ba.startTo b.Places b.Places.length ≤ 1125899906842624
instance (b : Bt.Basin) : Decidable (RPlaces b) := inferInstanceAs (Decidable ((∀ k, k < b.Places.length → PlaceOk b k) ∧ Ba.startTo b.Places b.Places.length ≤ 1125899906842624))
theorem rPlaces_c (w : World) (Φ : Hp) (hΦ : Hp.le Φ (hp w)) {b : Bt.Basin} {cs : List Value} (hB : RepV Φ b cs) (hh : RHead b) :
  Calls pg 39 #[.agg cs.toArray] w fun e w' => e = .returned (.bool (decide (RPlaces b))) ∧ Bel w.heap.size w w' := by
 obtain ⟨v1, v3, v4, v5, v6, v7, v8, v9, hcs, hBw, r1, r3, r4, r5, r6, r7, r8, r9⟩ := (show Rep.rep Φ b cs from hB)
 subst hcs
 have hpm : b.Places.length * 152 ≤ 140737488355328 := r3.max
 refine in1 122 Tryz.func39 rfl rfl hΦ ?_
 have hnl : b.Name.data.toList.length ≤ 9223372036854775807 := hBw.1
 have hom : b.Owners.length * 16 ≤ 140737488355328 := r1.max
 have hlm : b.Links.length * 200 ≤ 140737488355328 := r4.max
 have htm : b.Towns.length * 64 ≤ 140737488355328 := r5.max
 have hgm_ : b.Gauges.length * 48 ≤ 140737488355328 := r6.max
 have hrm : b.Roads.length * 64 ≤ 140737488355328 := r7.max
 have hsm : b.Shelters.length * 24 ≤ 140737488355328 := r8.max
 have hom2 : b.Room.length * 8 ≤ 140737488355328 := r9.max
 have hdb := hh.1
 unfold headBad at hdb
 simp [-List.getD_eq_getElem?_getD, -Array.length_toList] at hdb
 refine gs2 ?_
 refine RW.bxA rfl rfl fun b1 => ?_
 refine gs18 ?_
 refine AW.lp (fun s J m => ∃ (k : Nat), ∃ (u : Int), s = [(1, pV b1 0), (12, v3), (13, iV (b.Places.length : Int)), (3, iV u), (14, iV (k : Int))] ∧ J = St ⟨w, Φ, []⟩ Φ [.blk b1 31 (cl31 b v1 v3 v4 v5 v6 v7 v8 v9)] ∧ m = b.Places.length - k ∧ (k ≤ b.Places.length) ∧ (u = Ba.startTo b.Places k) ∧ (0 ≤ u ∧ u ≤ (k : Int) * 18014398509481984) ∧ (∀ j, j < k → PlaceOk b j)) ⟨0, 0, rfl, rfl, rfl, (by omega), rfl, (by omega), (fun j hj => absurd hj (by omega))⟩ ?_
 rintro _ _ _ _ ⟨k, u, rfl, rfl, rfl, hk, hu, hub, hall⟩
 refine gs6 ?_
 refine AW.cond rfl (fun hc1 => ?_) fun hc1 => ?_
 ·
  simp [-List.getD_eq_getElem?_getD, -Array.length_toList] at hc1
  refine gs8 ?_
  obtain ⟨cv1, hcr1, hcc1⟩ := RepSl.whole (k := k) r3 (by omega)
  obtain ⟨sv1, sv2, sv3, hcE1, hcw1, hsv1, hsv2, hsv3⟩ := (show Rep.rep _ _ _ from hcr1)
  subst hcE1
  refine RW.q (v := .agg (cl58 (b.Places.getD k default) sv1 sv2 sv3).toArray) rfl (q_loadAgg rfl uT58 rfl sz58 rfl (Cells.phiK hcc1)) ?_
  refine RW.alc rfl fun b2 => ?_
  refine gs1 ?_
  refine RW.effn (J' := St ⟨w, Φ, []⟩ Φ [.blk b2 58 (cl58 (b.Places.getD k default) sv1 sv2 sv3), .blk b1 31 (cl31 b v1 v3 v4 v5 v6 v7 v8 v9)]) (e_store (v := .agg (cl58 (b.Places.getD k default) sv1 sv2 sv3).toArray) 0 rfl rfl rfl sz58 rfl (List.all_eq_true.2 (fun u hu => Rep.one (show Rep.rep _ _ _ from hcr1) u hu)) rfl rfl rfl) ?_
  refine gs7 ?_
  refine RW.c rfl (fun w1 hw1 => bIn_c w1 (Go.K.hp w1) (Hp.le_refl _)) rfl rfl ?_
  refine gs4 ?_
  refine RW.gc rfl rfl rfl (fun w1 hw1 => bIn_c w1 (Go.K.hp w1) (Hp.le_refl _)) rfl (fun h => args3 (gv_pos h) rfl rfl) ?_
  refine gs1 ?_
  refine RW.pkO rfl rfl rfl rfl fun qb1 hqb1 => ?_
  refine gs3 ?_
  refine RW.gc rfl rfl rfl (fun w1 hw1 => bIn_c w1 (Go.K.hp w1) (Hp.le_refl _)) rfl (fun h => args3 (gv_pos h) rfl rfl) ?_
  refine gs1 ?_
  refine RW.pkO rfl rfl rfl rfl fun qb2 hqb2 => ?_
  refine gs3 ?_
  refine RW.gc rfl rfl rfl (fun w1 hw1 => bVol_c w1 (Go.K.hp w1) (Hp.le_refl _)) rfl (fun h => args1 (gv_pos h)) ?_
  refine gs1 ?_
  refine RW.pkO rfl rfl rfl rfl fun qb3 hqb3 => ?_
  refine gs3 ?_
  refine RW.gc rfl rfl rfl (fun w1 hw1 => bVol_c w1 (Go.K.hp w1) (Hp.le_refl _)) rfl (fun h => args1 (gv_pos h)) ?_
  refine gs1 ?_
  refine RW.pkO rfl rfl rfl rfl fun qb4 hqb4 => ?_
  refine gs3 ?_
  refine RW.gc rfl rfl rfl (fun w1 hw1 => cRight_c w1 (Go.K.hp w1) (Hp.le_refl _) (hsv1.mono hw1.phi)) rfl (fun h => args1 (gv_pos h)) ?_
  refine gs1 ?_
  refine RW.pkO rfl rfl rfl rfl fun qb5 hqb5 => ?_
  refine gs8 ?_
  refine RW.pkO rfl rfl rfl rfl fun qb6 hqb6 => ?_
  refine gs5 ?_
  refine RW.gc rfl rfl rfl (fun w1 hw1 => bFrac_c w1 (Go.K.hp w1) (Hp.le_refl _)) rfl (fun h => args2 (gv_pos h) (gv_pos h)) ?_
  refine gs1 ?_
  refine RW.pkO rfl rfl rfl rfl fun qb7 hqb7 => ?_
  refine gs5 ?_
  refine RW.gc rfl rfl rfl (fun w1 hw1 => bTgt_c w1 (Go.K.hp w1) (Hp.le_refl _) (hB.mono hw1.phi)) rfl (fun h => args3 (gv_pos h) (gv_pos h) (gv_pos h)) ?_
  refine gs1 ?_
  refine RW.pkO rfl rfl rfl rfl fun qb8 hqb8 => ?_
  subst hqb8 hqb7 hqb6 hqb5 hqb4 hqb3 hqb2 hqb1
  refine gs2 ?_
  refine AW.cond rfl (fun hc2 => ?_) fun hc2 => ?_
  ·
   refine gs12 ?_
   exact fin_val (v' := .bool false) rfl rfl rfl (congrArg Value.bool (decide_eq_false (fun h9 => Bool.noConfusion (((h9.1 k (by omega)).1).symm.trans hc2))).symm)
  ·
   refine gs4 ?_
   have hsl : (b.Places.getD k default).Start.length = b.Owners.length := by have h9 := hc2; simp [-List.getD_eq_getElem?_getD, -Array.length_toList] at h9; omega
   have hsm_ : (b.Places.getD k default).Start.length * 8 ≤ 140737488355328 := hsv2.max
   refine gs8 ?_
   refine AW.lp (fun s J m => ∃ (i : Nat), ∃ (v : Int), s = [(1, pV b1 0), (4, iV (k : Int)), (5, pV b2 0), (12, v3), (13, iV (b.Places.length : Int)), (14, iV (k : Int)), (79, sv2), (80, iV ((((b.Places.getD k default).Start).length : Nat) : Int)), (3, iV v), (81, iV (i : Int))] ∧ J = St ⟨w, Φ, []⟩ Φ [.blk b2 58 (cl58 (b.Places.getD k default) sv1 sv2 sv3), .blk b1 31 (cl31 b v1 v3 v4 v5 v6 v7 v8 v9)] ∧ m = (b.Places.getD k default).Start.length - i ∧ (i ≤ (b.Places.getD k default).Start.length) ∧ (v = u + Ba.sumTo (b.Places.getD k default).Start i) ∧ (u ≤ v ∧ v ≤ u + (i : Int) * 1125899906842624) ∧ (∀ j, j < i → startBad b k j = false)) ⟨0, u, rfl, rfl, rfl, (by omega), (by show u = u + 0; omega), (by omega), (fun j hj => absurd hj (by omega))⟩ ?_
   rintro _ _ _ _ ⟨i, v, rfl, rfl, rfl, hi, hv, hvb, hst⟩
   refine gs6 ?_
   refine AW.cond rfl (fun hc3 => ?_) fun hc3 => ?_
   ·
    simp [-List.getD_eq_getElem?_getD, -Array.length_toList] at hc3
    refine gs7 ?_
    refine RW.q (v := iV (((b.Places.getD k default).Start).getD i 0)) rfl (q_load rfl uT3 rfl (Cell.repInt hsv2 (by omega))) ?_
    refine gs5 ?_
    have hnI : I64 ((b.Places.getD k default).Start.getD i 0) := hsv2.i64 _ (Fu.getD_memI (by omega))
    refine gs2 ?_
    refine RW.c rfl (fun w1 hw1 => bVol_c w1 (Go.K.hp w1) (Hp.le_refl _)) rfl rfl ?_
    refine gs3 ?_
    refine AW.cond rfl (fun hc4 => ?_) fun hc4 => ?_
    ·
     refine gs17 ?_
     exact fin_val (v' := .bool false) rfl rfl rfl (congrArg Value.bool (decide_eq_false (fun h9 => Bool.noConfusion (((h9.1 k (by omega)).2.1 i (by omega)).symm.trans hc4))).symm)
    ·
     refine gs2 ?_
     have hnb : 0 ≤ (b.Places.getD k default).Start.getD i 0 ∧ (b.Places.getD k default).Start.getD i 0 ≤ 1125899906842624 := by have h9 := hc4; simp [-List.getD_eq_getElem?_getD] at h9; omega
     refine gs12 ?_
     exact Post.back (s' := _) (J' := _) (m' := _) (by omega) ⟨i + 1, _, rfl, rfl, rfl, (by omega), (by rw [hv]; show u + Ba.sumTo (b.Places.getD k default).Start i + (b.Places.getD k default).Start.getD i 0 = u + (Ba.sumTo (b.Places.getD k default).Start i + (b.Places.getD k default).Start.getD i 0); omega), (by push_cast; omega), (Fu.lt_succ hst hc4)⟩ ⟨rfl, rfl, rfl, rfl, rfl, rfl, rfl, rfl, rfl, rfl, trivial⟩ (fun _ h => h)
   ·
    simp [-List.getD_eq_getElem?_getD, -Array.length_toList] at hc3
    refine gs11 ?_
    have hrm_ : (b.Places.getD k default).Rain.length * 16 ≤ 140737488355328 := hsv3.max
    refine gs8 ?_
    refine AW.lp (fun s J m => ∃ (j : Nat), s = [(1, pV b1 0), (3, iV v), (4, iV (k : Int)), (5, pV b2 0), (12, v3), (13, iV (b.Places.length : Int)), (14, iV (k : Int)), (93, sv3), (94, iV ((((b.Places.getD k default).Rain).length : Nat) : Int)), (8, iV (rainLast (b.Places.getD k default) j)), (95, iV (j : Int))] ∧ J = St ⟨w, Φ, []⟩ Φ [.blk b2 58 (cl58 (b.Places.getD k default) sv1 sv2 sv3), .blk b1 31 (cl31 b v1 v3 v4 v5 v6 v7 v8 v9)] ∧ m = (b.Places.getD k default).Rain.length - j ∧ (j ≤ (b.Places.getD k default).Rain.length) ∧ (∀ i, i < j → rainBad b k i = false)) ⟨0, rfl, rfl, rfl, (by omega), (fun i hi => absurd hi (by omega))⟩ ?_
    rintro _ _ _ _ ⟨j, rfl, rfl, rfl, hj, hrn⟩
    refine gs6 ?_
    refine AW.cond rfl (fun hc5 => ?_) fun hc5 => ?_
    ·
     simp [-List.getD_eq_getElem?_getD, -Array.length_toList] at hc5
     refine gs7 ?_
     refine RW.q (v := .agg #[iV ((((b.Places.getD k default).Rain).getD j default).Index), iV ((((b.Places.getD k default).Rain).getD j default).Area)]) rfl (q_loadAgg rfl uT138 rfl sz138 rfl (Cells.repE hsv3 (by omega) rfl)) ?_
     refine RW.alc rfl fun b3 => ?_
     refine gs16 ?_
     refine RW.pkO rfl rfl rfl rfl fun qb9 hqb9 => ?_
     refine gs3 ?_
     refine RW.gc rfl rfl rfl (fun w1 hw1 => bVol_c w1 (Go.K.hp w1) (Hp.le_refl _)) rfl (fun h => args1 (gv_pos h)) ?_
     refine gs1 ?_
     refine RW.pkO rfl rfl rfl rfl fun qb10 hqb10 => ?_
     subst hqb10 hqb9
     refine gs2 ?_
     refine AW.cond rfl (fun hc6 => ?_) fun hc6 => ?_
     ·
      refine gs16 ?_
      exact fin_val (v' := .bool false) rfl rfl rfl (congrArg Value.bool (decide_eq_false (fun h9 => Bool.noConfusion (((h9.1 k (by omega)).2.2 j (by omega)).symm.trans hc6))).symm)
     ·
      refine gs13 ?_
      exact Post.bk ⟨j + 1, rfl, rfl, rfl, (by omega), (Fu.lt_succ hrn hc6)⟩
    ·
     simp [-List.getD_eq_getElem?_getD, -Array.length_toList] at hc5
     refine gs10 ?_
     exact Post.bk ⟨k + 1, v, rfl, rfl, rfl, (by omega), (by rw [hv, hu, show i = (b.Places.getD k default).Start.length by omega]; rfl), (by push_cast; omega), (Fu.lt_succ hall ⟨hc2, fun j hj => hst j (by omega), fun j hj => hrn j (by omega)⟩)⟩
 ·
  simp [-List.getD_eq_getElem?_getD, -Array.length_toList] at hc1
  refine gs13 ?_
  exact fin_val (v' := .bool (decide (u ≤ 1125899906842624))) rfl rfl rfl (congrArg Value.bool (decide_eq_decide.2 (show u ≤ 1125899906842624 ↔ RPlaces b from by have hke : k = b.Places.length := (by omega); rw [hu, hke]; exact ⟨fun h9 => ⟨fun j hj => hall j (by omega), h9⟩, fun h9 => h9.2⟩)))
def fieldsB (l : Bt.Link) : Bool := if l.Kind = 0 then (((((((((decide (Fu.RightC l.Rate)) && (decide (Fu.RightC l.Band.Lo))) && (decide (Fu.RightC l.Band.Hi))) && (decide (Ba.underC l.Band.Lo l.Rate))) && (decide (Ba.underC l.Rate l.Band.Hi))) && (decide (0 ≤ l.Positions ∧ l.Positions ≤ 64))) && (decide (0 ≤ l.Speed ∧ l.Speed ≤ l.Positions))) && (decide (0 ≤ l.Leak ∧ l.Leak ≤ 1125899906842624))) && (decide ((0 ≤ l.BackNum ∧ l.BackNum ≤ 1125899906842624) ∧ (0 ≤ l.BackDen ∧ l.BackDen ≤ 1125899906842624) ∧ (l.BackDen = 0 → l.BackNum = 0)))) && ((!decide (l.To = (-1))) || (decide (l.BackDen = 0))) else if l.Kind = 1 ∨ l.Kind = 5 then (((decide (0 ≤ l.Crest ∧ l.Crest ≤ 1125899906842624)) && (decide (0 ≤ l.Num ∧ l.Num ≤ 1125899906842624))) && (decide (1 ≤ l.Den ∧ l.Den ≤ 1125899906842624))) else if l.Kind = 2 then (((decide (0 ≤ l.Num ∧ l.Num ≤ 1125899906842624)) && (decide (1 ≤ l.Positions ∧ l.Positions ≤ 64))) && (decide (0 ≤ l.Speed ∧ l.Speed ≤ l.Positions))) else if l.Kind = 3 then (((((decide (0 ≤ l.Num ∧ l.Num ≤ 1125899906842624)) && (decide (1 ≤ l.Den ∧ l.Den ≤ 1125899906842624))) && (decide (0 ≤ l.Prime ∧ l.Prime ≤ 1125899906842624))) && (decide (0 ≤ l.Break ∧ l.Break ≤ 1125899906842624))) && (decide (l.Break < l.Prime))) else (((decide (0 ≤ l.Num ∧ l.Num ≤ 1125899906842624)) && (decide (1 ≤ l.Den ∧ l.Den ≤ 1125899906842624))) && (decide ((0 ≤ l.BackNum ∧ l.BackNum ≤ 1125899906842624) ∧ (0 ≤ l.BackDen ∧ l.BackDen ≤ 1125899906842624) ∧ (l.BackDen = 0 → l.BackNum = 0)))) && (!decide (l.To = (-1)))
theorem fields_c (w : World) (Φ : Hp) (hΦ : Hp.le Φ (hp w)) {l : Bt.Link} {cs : List Value} (hL : RepV Φ l cs) :
  Calls pg 83 #[.agg cs.toArray] w fun e w' => e = .returned (.bool (fieldsB l)) ∧ Bel w.heap.size w w' := by
 obtain ⟨v4, v5, v6, hcs, hLw, r4, r5, r6⟩ := (show Rep.rep Φ l cs from hL)
 subst hcs
 refine in1 152 Tryz.func83 rfl rfl hΦ ?_
 refine gs2 ?_
 refine RW.bxA rfl rfl fun b1 => ?_
 refine gs17 ?_
 refine AW.cond rfl (fun hc1 => ?_) fun hc1 => ?_
 ·
  simp [-List.getD_eq_getElem?_getD, -Array.length_toList] at hc1
  refine gs4 ?_
  refine RW.c rfl (fun w1 hw1 => cRight_c w1 (Go.K.hp w1) (Hp.le_refl _) (r4.mono hw1.phi)) rfl rfl ?_
  refine gs4 ?_
  refine RW.gc rfl rfl rfl (fun w1 hw1 => cRight_c w1 (Go.K.hp w1) (Hp.le_refl _) (r5.mono hw1.phi)) rfl (fun h => args1 (gv_pos h)) ?_
  refine RW.pkA rfl rfl rfl rfl fun qb1 hqb1 => ?_
  refine gs4 ?_
  refine RW.gc rfl rfl rfl (fun w1 hw1 => cRight_c w1 (Go.K.hp w1) (Hp.le_refl _) (r6.mono hw1.phi)) rfl (fun h => args1 (gv_pos h)) ?_
  refine RW.pkA rfl rfl rfl rfl fun qb2 hqb2 => ?_
  refine gs6 ?_
  refine RW.gc rfl rfl rfl (fun w1 hw1 => Under_c w1 (Go.K.hp w1) (Hp.le_refl _) (r5.mono hw1.phi) (r4.mono hw1.phi)) rfl (fun h => args2 (gv_pos h) (gv_pos h)) ?_
  refine RW.pkA rfl rfl rfl rfl fun qb3 hqb3 => ?_
  refine gs6 ?_
  refine RW.gc rfl rfl rfl (fun w1 hw1 => Under_c w1 (Go.K.hp w1) (Hp.le_refl _) (r4.mono hw1.phi) (r6.mono hw1.phi)) rfl (fun h => args2 (gv_pos h) (gv_pos h)) ?_
  refine RW.pkA rfl rfl rfl rfl fun qb4 hqb4 => ?_
  refine gs3 ?_
  refine RW.gc rfl rfl rfl (fun w1 hw1 => bIn_c w1 (Go.K.hp w1) (Hp.le_refl _)) rfl (fun h => args3 (gv_pos h) rfl rfl) ?_
  refine RW.pkA rfl rfl rfl rfl fun qb5 hqb5 => ?_
  refine gs5 ?_
  refine RW.gc rfl rfl rfl (fun w1 hw1 => bIn_c w1 (Go.K.hp w1) (Hp.le_refl _)) rfl (fun h => args3 (gv_pos h) rfl (gv_pos h)) ?_
  refine RW.pkA rfl rfl rfl rfl fun qb6 hqb6 => ?_
  refine gs3 ?_
  refine RW.gc rfl rfl rfl (fun w1 hw1 => bVol_c w1 (Go.K.hp w1) (Hp.le_refl _)) rfl (fun h => args1 (gv_pos h)) ?_
  refine RW.pkA rfl rfl rfl rfl fun qb7 hqb7 => ?_
  refine gs5 ?_
  refine RW.gc rfl rfl rfl (fun w1 hw1 => bFrac_c w1 (Go.K.hp w1) (Hp.le_refl _)) rfl (fun h => args2 (gv_pos h) (gv_pos h)) ?_
  refine RW.pkA rfl rfl rfl rfl fun qb8 hqb8 => ?_
  refine gs5 ?_
  refine RW.g2 (b1 := qb8) (b2 := (!decide (l.To = (-1)))) (v := pV b1 16) rfl rfl rfl (fun hg1 hg2 => q_fieldAddr rfl uT72 rfl sz3 rfl) (RW.g2 (b1 := qb8) (b2 := (!decide (l.To = (-1)))) (v := iV l.BackDen) rfl rfl rfl (fun hg1 hg2 => q_load ((gv_pos hg1).trans (gv_pos hg2)) uT3 rfl (Cell.blk 0 rfl rfl)) (RW.g2 (b1 := qb8) (b2 := (!decide (l.To = (-1)))) (v := .bool (decide (l.BackDen = 0))) rfl rfl rfl (fun hg1 hg2 => q_eql ((gv_pos hg1).trans (gv_pos hg2)) rfl) ?_))
  obtain ⟨qb9, hqb9⟩ : ∃ z : Bool, ((!decide (l.To = (-1))) || (decide (l.BackDen = 0))) = z := ⟨_, rfl⟩
  refine RW.g (b := qb8) (v := .bool qb9) rfl rfl rfl (fun h => q_as (v := .bool ((!decide (l.To = (-1))) || (decide (l.BackDen = 0)))) (q_pick (gv_pos h) (fun hp => pkOrT hp) (fun hp => (gv_pos h).trans ((gv_pos hp).trans (pkOrF hp)))) (congrArg Value.bool hqb9)) (RW.q (v := .bool (qb8 && qb9)) rfl (qpA rfl rfl rfl) ?_)
  refine gs1 ?_
  subst hqb9 hqb8 hqb7 hqb6 hqb5 hqb4 hqb3 hqb2 hqb1
  refine gs5 ?_
  exact fin_val (v' := .bool ((((((((((decide (Fu.RightC l.Rate)) && (decide (Fu.RightC l.Band.Lo))) && (decide (Fu.RightC l.Band.Hi))) && (decide (Ba.underC l.Band.Lo l.Rate))) && (decide (Ba.underC l.Rate l.Band.Hi))) && (decide (0 ≤ l.Positions ∧ l.Positions ≤ 64))) && (decide (0 ≤ l.Speed ∧ l.Speed ≤ l.Positions))) && (decide (0 ≤ l.Leak ∧ l.Leak ≤ 1125899906842624))) && (decide ((0 ≤ l.BackNum ∧ l.BackNum ≤ 1125899906842624) ∧ (0 ≤ l.BackDen ∧ l.BackDen ≤ 1125899906842624) ∧ (l.BackDen = 0 → l.BackNum = 0)))) && ((!decide (l.To = (-1))) || (decide (l.BackDen = 0))))) rfl rfl rfl (by first | (exfalso; omega) | (unfold fieldsB; first | rw [if_pos (by omega)] | rw [if_neg (by omega), if_pos (by omega)] | rw [if_neg (by omega), if_neg (by omega), if_pos (by omega)] | rw [if_neg (by omega), if_neg (by omega), if_neg (by omega), if_pos (by omega)] | rw [if_neg (by omega), if_neg (by omega), if_neg (by omega), if_neg (by omega)]))
 ·
  simp [-List.getD_eq_getElem?_getD, -Array.length_toList] at hc1
  refine gs7 ?_
  refine AW.cond rfl (fun hc2 => ?_) fun hc2 => ?_
  ·
   simp [-List.getD_eq_getElem?_getD, -Array.length_toList] at hc2
   refine gs2 ?_
   refine AW.cond rfl (fun hc3 => ?_) fun hc3 => ?_
   ·
    simp [-List.getD_eq_getElem?_getD, -Array.length_toList] at hc3
    refine gs4 ?_
    refine RW.c rfl (fun w1 hw1 => bVol_c w1 (Go.K.hp w1) (Hp.le_refl _)) rfl rfl ?_
    refine gs3 ?_
    refine RW.gc rfl rfl rfl (fun w1 hw1 => bVol_c w1 (Go.K.hp w1) (Hp.le_refl _)) rfl (fun h => args1 (gv_pos h)) ?_
    refine RW.pkA rfl rfl rfl rfl fun qb10 hqb10 => ?_
    refine gs3 ?_
    refine RW.gc rfl rfl rfl (fun w1 hw1 => bIn_c w1 (Go.K.hp w1) (Hp.le_refl _)) rfl (fun h => args3 (gv_pos h) rfl rfl) ?_
    refine RW.pkA rfl rfl rfl rfl fun qb11 hqb11 => ?_
    refine gs1 ?_
    subst hqb11 hqb10
    refine gs5 ?_
    exact fin_val (v' := .bool (((decide (0 ≤ l.Crest ∧ l.Crest ≤ 1125899906842624)) && (decide (0 ≤ l.Num ∧ l.Num ≤ 1125899906842624))) && (decide (1 ≤ l.Den ∧ l.Den ≤ 1125899906842624)))) rfl rfl rfl (by first | (exfalso; omega) | (unfold fieldsB; first | rw [if_pos (by omega)] | rw [if_neg (by omega), if_pos (by omega)] | rw [if_neg (by omega), if_neg (by omega), if_pos (by omega)] | rw [if_neg (by omega), if_neg (by omega), if_neg (by omega), if_pos (by omega)] | rw [if_neg (by omega), if_neg (by omega), if_neg (by omega), if_neg (by omega)]))
   ·
    simp [-List.getD_eq_getElem?_getD, -Array.length_toList] at hc3
    refine gs6 ?_
    refine AW.cond rfl (fun hc4 => ?_) fun hc4 => ?_
    ·
     simp [-List.getD_eq_getElem?_getD, -Array.length_toList] at hc4
     refine gs4 ?_
     refine RW.c rfl (fun w1 hw1 => bVol_c w1 (Go.K.hp w1) (Hp.le_refl _)) rfl rfl ?_
     refine gs3 ?_
     refine RW.gc rfl rfl rfl (fun w1 hw1 => bIn_c w1 (Go.K.hp w1) (Hp.le_refl _)) rfl (fun h => args3 (gv_pos h) rfl rfl) ?_
     refine RW.pkA rfl rfl rfl rfl fun qb12 hqb12 => ?_
     refine gs5 ?_
     refine RW.gc rfl rfl rfl (fun w1 hw1 => bIn_c w1 (Go.K.hp w1) (Hp.le_refl _)) rfl (fun h => args3 (gv_pos h) rfl (gv_pos h)) ?_
     refine RW.pkA rfl rfl rfl rfl fun qb13 hqb13 => ?_
     refine gs1 ?_
     subst hqb13 hqb12
     refine gs5 ?_
     exact fin_val (v' := .bool (((decide (0 ≤ l.Num ∧ l.Num ≤ 1125899906842624)) && (decide (1 ≤ l.Positions ∧ l.Positions ≤ 64))) && (decide (0 ≤ l.Speed ∧ l.Speed ≤ l.Positions)))) rfl rfl rfl (by first | (exfalso; omega) | (unfold fieldsB; first | rw [if_pos (by omega)] | rw [if_neg (by omega), if_pos (by omega)] | rw [if_neg (by omega), if_neg (by omega), if_pos (by omega)] | rw [if_neg (by omega), if_neg (by omega), if_neg (by omega), if_pos (by omega)] | rw [if_neg (by omega), if_neg (by omega), if_neg (by omega), if_neg (by omega)]))
    ·
     simp [-List.getD_eq_getElem?_getD, -Array.length_toList] at hc4
     refine gs6 ?_
     refine AW.cond rfl (fun hc5 => ?_) fun hc5 => ?_
     ·
      simp [-List.getD_eq_getElem?_getD, -Array.length_toList] at hc5
      refine gs4 ?_
      refine RW.c rfl (fun w1 hw1 => bVol_c w1 (Go.K.hp w1) (Hp.le_refl _)) rfl rfl ?_
      refine gs3 ?_
      refine RW.gc rfl rfl rfl (fun w1 hw1 => bIn_c w1 (Go.K.hp w1) (Hp.le_refl _)) rfl (fun h => args3 (gv_pos h) rfl rfl) ?_
      refine RW.pkA rfl rfl rfl rfl fun qb14 hqb14 => ?_
      refine gs3 ?_
      refine RW.gc rfl rfl rfl (fun w1 hw1 => bVol_c w1 (Go.K.hp w1) (Hp.le_refl _)) rfl (fun h => args1 (gv_pos h)) ?_
      refine RW.pkA rfl rfl rfl rfl fun qb15 hqb15 => ?_
      refine gs3 ?_
      refine RW.gc rfl rfl rfl (fun w1 hw1 => bVol_c w1 (Go.K.hp w1) (Hp.le_refl _)) rfl (fun h => args1 (gv_pos h)) ?_
      refine RW.pkA rfl rfl rfl rfl fun qb16 hqb16 => ?_
      refine gs6 ?_
      refine RW.pkA rfl rfl rfl rfl fun qb17 hqb17 => ?_
      refine gs1 ?_
      subst hqb17 hqb16 hqb15 hqb14
      refine gs5 ?_
      exact fin_val (v' := .bool (((((decide (0 ≤ l.Num ∧ l.Num ≤ 1125899906842624)) && (decide (1 ≤ l.Den ∧ l.Den ≤ 1125899906842624))) && (decide (0 ≤ l.Prime ∧ l.Prime ≤ 1125899906842624))) && (decide (0 ≤ l.Break ∧ l.Break ≤ 1125899906842624))) && (decide (l.Break < l.Prime)))) rfl rfl rfl (by first | (exfalso; omega) | (unfold fieldsB; first | rw [if_pos (by omega)] | rw [if_neg (by omega), if_pos (by omega)] | rw [if_neg (by omega), if_neg (by omega), if_pos (by omega)] | rw [if_neg (by omega), if_neg (by omega), if_neg (by omega), if_pos (by omega)] | rw [if_neg (by omega), if_neg (by omega), if_neg (by omega), if_neg (by omega)]))
     ·
      simp [-List.getD_eq_getElem?_getD, -Array.length_toList] at hc5
      refine gs7 ?_
      refine RW.c rfl (fun w1 hw1 => bVol_c w1 (Go.K.hp w1) (Hp.le_refl _)) rfl rfl ?_
      refine gs3 ?_
      refine RW.gc rfl rfl rfl (fun w1 hw1 => bIn_c w1 (Go.K.hp w1) (Hp.le_refl _)) rfl (fun h => args3 (gv_pos h) rfl rfl) ?_
      refine RW.pkA rfl rfl rfl rfl fun qb18 hqb18 => ?_
      refine gs5 ?_
      refine RW.gc rfl rfl rfl (fun w1 hw1 => bFrac_c w1 (Go.K.hp w1) (Hp.le_refl _)) rfl (fun h => args2 (gv_pos h) (gv_pos h)) ?_
      refine RW.pkA rfl rfl rfl rfl fun qb19 hqb19 => ?_
      refine gs4 ?_
      refine RW.q (v := .bool (qb19 && (!decide (l.To = (-1))))) rfl (qpA rfl rfl rfl) ?_
      refine gs1 ?_
      subst hqb19 hqb18
      refine gs3 ?_
      exact fin_val (v' := .bool ((((decide (0 ≤ l.Num ∧ l.Num ≤ 1125899906842624)) && (decide (1 ≤ l.Den ∧ l.Den ≤ 1125899906842624))) && (decide ((0 ≤ l.BackNum ∧ l.BackNum ≤ 1125899906842624) ∧ (0 ≤ l.BackDen ∧ l.BackDen ≤ 1125899906842624) ∧ (l.BackDen = 0 → l.BackNum = 0)))) && (!decide (l.To = (-1))))) rfl rfl rfl (by first | (exfalso; omega) | (unfold fieldsB; first | rw [if_pos (by omega)] | rw [if_neg (by omega), if_pos (by omega)] | rw [if_neg (by omega), if_neg (by omega), if_pos (by omega)] | rw [if_neg (by omega), if_neg (by omega), if_neg (by omega), if_pos (by omega)] | rw [if_neg (by omega), if_neg (by omega), if_neg (by omega), if_neg (by omega)]))
  ·
   simp [-List.getD_eq_getElem?_getD, -Array.length_toList] at hc2
   refine gs5 ?_
   refine AW.cond rfl (fun hc6 => ?_) fun hc6 => ?_
   ·
    simp [-List.getD_eq_getElem?_getD, -Array.length_toList] at hc6
    refine gs4 ?_
    refine RW.c rfl (fun w1 hw1 => bVol_c w1 (Go.K.hp w1) (Hp.le_refl _)) rfl rfl ?_
    refine gs3 ?_
    refine RW.gc rfl rfl rfl (fun w1 hw1 => bVol_c w1 (Go.K.hp w1) (Hp.le_refl _)) rfl (fun h => args1 (gv_pos h)) ?_
    refine RW.pkA rfl rfl rfl rfl fun qb20 hqb20 => ?_
    refine gs3 ?_
    refine RW.gc rfl rfl rfl (fun w1 hw1 => bIn_c w1 (Go.K.hp w1) (Hp.le_refl _)) rfl (fun h => args3 (gv_pos h) rfl rfl) ?_
    refine RW.pkA rfl rfl rfl rfl fun qb21 hqb21 => ?_
    refine gs1 ?_
    subst hqb21 hqb20
    refine gs5 ?_
    exact fin_val (v' := .bool (((decide (0 ≤ l.Crest ∧ l.Crest ≤ 1125899906842624)) && (decide (0 ≤ l.Num ∧ l.Num ≤ 1125899906842624))) && (decide (1 ≤ l.Den ∧ l.Den ≤ 1125899906842624)))) rfl rfl rfl (by first | (exfalso; omega) | (unfold fieldsB; first | rw [if_pos (by omega)] | rw [if_neg (by omega), if_pos (by omega)] | rw [if_neg (by omega), if_neg (by omega), if_pos (by omega)] | rw [if_neg (by omega), if_neg (by omega), if_neg (by omega), if_pos (by omega)] | rw [if_neg (by omega), if_neg (by omega), if_neg (by omega), if_neg (by omega)]))
   ·
    simp [-List.getD_eq_getElem?_getD, -Array.length_toList] at hc6
    refine gs6 ?_
    refine AW.cond rfl (fun hc7 => ?_) fun hc7 => ?_
    ·
     simp [-List.getD_eq_getElem?_getD, -Array.length_toList] at hc7
     refine gs4 ?_
     refine RW.c rfl (fun w1 hw1 => bVol_c w1 (Go.K.hp w1) (Hp.le_refl _)) rfl rfl ?_
     refine gs3 ?_
     refine RW.gc rfl rfl rfl (fun w1 hw1 => bIn_c w1 (Go.K.hp w1) (Hp.le_refl _)) rfl (fun h => args3 (gv_pos h) rfl rfl) ?_
     refine RW.pkA rfl rfl rfl rfl fun qb22 hqb22 => ?_
     refine gs5 ?_
     refine RW.gc rfl rfl rfl (fun w1 hw1 => bIn_c w1 (Go.K.hp w1) (Hp.le_refl _)) rfl (fun h => args3 (gv_pos h) rfl (gv_pos h)) ?_
     refine RW.pkA rfl rfl rfl rfl fun qb23 hqb23 => ?_
     refine gs1 ?_
     subst hqb23 hqb22
     refine gs5 ?_
     exact fin_val (v' := .bool (((decide (0 ≤ l.Num ∧ l.Num ≤ 1125899906842624)) && (decide (1 ≤ l.Positions ∧ l.Positions ≤ 64))) && (decide (0 ≤ l.Speed ∧ l.Speed ≤ l.Positions)))) rfl rfl rfl (by first | (exfalso; omega) | (unfold fieldsB; first | rw [if_pos (by omega)] | rw [if_neg (by omega), if_pos (by omega)] | rw [if_neg (by omega), if_neg (by omega), if_pos (by omega)] | rw [if_neg (by omega), if_neg (by omega), if_neg (by omega), if_pos (by omega)] | rw [if_neg (by omega), if_neg (by omega), if_neg (by omega), if_neg (by omega)]))
    ·
     simp [-List.getD_eq_getElem?_getD, -Array.length_toList] at hc7
     refine gs6 ?_
     refine AW.cond rfl (fun hc8 => ?_) fun hc8 => ?_
     ·
      simp [-List.getD_eq_getElem?_getD, -Array.length_toList] at hc8
      refine gs4 ?_
      refine RW.c rfl (fun w1 hw1 => bVol_c w1 (Go.K.hp w1) (Hp.le_refl _)) rfl rfl ?_
      refine gs3 ?_
      refine RW.gc rfl rfl rfl (fun w1 hw1 => bIn_c w1 (Go.K.hp w1) (Hp.le_refl _)) rfl (fun h => args3 (gv_pos h) rfl rfl) ?_
      refine RW.pkA rfl rfl rfl rfl fun qb24 hqb24 => ?_
      refine gs3 ?_
      refine RW.gc rfl rfl rfl (fun w1 hw1 => bVol_c w1 (Go.K.hp w1) (Hp.le_refl _)) rfl (fun h => args1 (gv_pos h)) ?_
      refine RW.pkA rfl rfl rfl rfl fun qb25 hqb25 => ?_
      refine gs3 ?_
      refine RW.gc rfl rfl rfl (fun w1 hw1 => bVol_c w1 (Go.K.hp w1) (Hp.le_refl _)) rfl (fun h => args1 (gv_pos h)) ?_
      refine RW.pkA rfl rfl rfl rfl fun qb26 hqb26 => ?_
      refine gs6 ?_
      refine RW.pkA rfl rfl rfl rfl fun qb27 hqb27 => ?_
      refine gs1 ?_
      subst hqb27 hqb26 hqb25 hqb24
      refine gs5 ?_
      exact fin_val (v' := .bool (((((decide (0 ≤ l.Num ∧ l.Num ≤ 1125899906842624)) && (decide (1 ≤ l.Den ∧ l.Den ≤ 1125899906842624))) && (decide (0 ≤ l.Prime ∧ l.Prime ≤ 1125899906842624))) && (decide (0 ≤ l.Break ∧ l.Break ≤ 1125899906842624))) && (decide (l.Break < l.Prime)))) rfl rfl rfl (by first | (exfalso; omega) | (unfold fieldsB; first | rw [if_pos (by omega)] | rw [if_neg (by omega), if_pos (by omega)] | rw [if_neg (by omega), if_neg (by omega), if_pos (by omega)] | rw [if_neg (by omega), if_neg (by omega), if_neg (by omega), if_pos (by omega)] | rw [if_neg (by omega), if_neg (by omega), if_neg (by omega), if_neg (by omega)]))
     ·
      simp [-List.getD_eq_getElem?_getD, -Array.length_toList] at hc8
      refine gs7 ?_
      refine RW.c rfl (fun w1 hw1 => bVol_c w1 (Go.K.hp w1) (Hp.le_refl _)) rfl rfl ?_
      refine gs3 ?_
      refine RW.gc rfl rfl rfl (fun w1 hw1 => bIn_c w1 (Go.K.hp w1) (Hp.le_refl _)) rfl (fun h => args3 (gv_pos h) rfl rfl) ?_
      refine RW.pkA rfl rfl rfl rfl fun qb28 hqb28 => ?_
      refine gs5 ?_
      refine RW.gc rfl rfl rfl (fun w1 hw1 => bFrac_c w1 (Go.K.hp w1) (Hp.le_refl _)) rfl (fun h => args2 (gv_pos h) (gv_pos h)) ?_
      refine RW.pkA rfl rfl rfl rfl fun qb29 hqb29 => ?_
      refine gs4 ?_
      refine RW.q (v := .bool (qb29 && (!decide (l.To = (-1))))) rfl (qpA rfl rfl rfl) ?_
      refine gs1 ?_
      subst hqb29 hqb28
      refine gs3 ?_
      exact fin_val (v' := .bool ((((decide (0 ≤ l.Num ∧ l.Num ≤ 1125899906842624)) && (decide (1 ≤ l.Den ∧ l.Den ≤ 1125899906842624))) && (decide ((0 ≤ l.BackNum ∧ l.BackNum ≤ 1125899906842624) ∧ (0 ≤ l.BackDen ∧ l.BackDen ≤ 1125899906842624) ∧ (l.BackDen = 0 → l.BackNum = 0)))) && (!decide (l.To = (-1))))) rfl rfl rfl (by first | (exfalso; omega) | (unfold fieldsB; first | rw [if_pos (by omega)] | rw [if_neg (by omega), if_pos (by omega)] | rw [if_neg (by omega), if_neg (by omega), if_pos (by omega)] | rw [if_neg (by omega), if_neg (by omega), if_neg (by omega), if_pos (by omega)] | rw [if_neg (by omega), if_neg (by omega), if_neg (by omega), if_neg (by omega)]))
def unusedB (l : Bt.Link) : Bool := !(((!(decide (l.Kind = 0))) && ((((decide ((0 : Int) < (l.Rate.length : Int))) || (decide ((0 : Int) < (l.Band.Lo.length : Int)))) || (decide ((0 : Int) < (l.Band.Hi.length : Int)))) || (!decide (l.Leak = 0))))) && (!(((!(decide (l.Kind = 0))) && (!decide (l.Kind = 2))) && ((!decide (l.Positions = 0)) || (!decide (l.Speed = 0)))) && (!(((!decide (l.Kind = 1)) && (!decide (l.Kind = 5))) && (!decide (l.Crest = 0))) && (!((((decide (l.Kind = 0)) && (!decide (l.Num = 0))) || (((decide (l.Kind = 0)) || (decide (l.Kind = 2))) && (!decide (l.Den = 0))))) && (!((!decide (l.Kind = 3)) && ((!decide (l.Prime = 0)) || (!decide (l.Break = 0)))) && (((decide (l.Kind = 0)) || (decide (l.Kind = 4))) || ((decide (l.BackNum = 0)) && (decide (l.BackDen = 0))))))))
theorem unused_c (w : World) (Φ : Hp) (hΦ : Hp.le Φ (hp w)) {l : Bt.Link} {cs : List Value} (hL : RepV Φ l cs) :
  Calls pg 84 #[.agg cs.toArray] w fun e w' => e = .returned (.bool (unusedB l)) ∧ Bel w.heap.size w w' := by
 obtain ⟨v4, v5, v6, hcs, hLw, r4, r5, r6⟩ := (show Rep.rep Φ l cs from hL)
 subst hcs
 refine in1 112 Tryz.func84 rfl rfl hΦ ?_
 refine gs2 ?_
 refine RW.bxA rfl rfl fun b1 => ?_
 refine gs22 ?_
 refine RW.g2 (b1 := (!(decide (l.Kind = 0)))) (b2 := (decide ((0 : Int) < (l.Rate.length : Int)))) (v := pV b1 5) rfl rfl rfl (fun hg1 hg2 => q_fieldAddr rfl uT72 rfl sz70 rfl) (RW.g2 (b1 := (!(decide (l.Kind = 0)))) (b2 := (decide ((0 : Int) < (l.Rate.length : Int)))) (v := pV b1 5) rfl rfl rfl (fun hg1 hg2 => q_fieldAddr ((gv_pos hg1).trans (gv_pos hg2)) uT70 rfl sz55 rfl) (RW.g2 (b1 := (!(decide (l.Kind = 0)))) (b2 := (decide ((0 : Int) < (l.Rate.length : Int)))) (v := v5) rfl rfl rfl (fun hg1 hg2 => q_load ((gv_pos hg1).trans (gv_pos hg2)) uT55 rfl (Cell.blk 0 rfl rfl)) (RW.g2 (b1 := (!(decide (l.Kind = 0)))) (b2 := (decide ((0 : Int) < (l.Rate.length : Int)))) (v := iV (l.Band.Lo.length : Int)) rfl rfl rfl (fun hg1 hg2 => q_len_sl ((gv_pos hg1).trans (gv_pos hg2)) r5.sl uT55) (RW.g2 (b1 := (!(decide (l.Kind = 0)))) (b2 := (decide ((0 : Int) < (l.Rate.length : Int)))) (v := .bool (decide ((0 : Int) < (l.Band.Lo.length : Int)))) rfl rfl rfl (fun hg1 hg2 => q_gtr ((gv_pos hg1).trans (gv_pos hg2)) rfl) ?_))))
 obtain ⟨qb1, hqb1⟩ : ∃ z : Bool, ((decide ((0 : Int) < (l.Rate.length : Int))) || (decide ((0 : Int) < (l.Band.Lo.length : Int)))) = z := ⟨_, rfl⟩
 refine RW.g (b := (!(decide (l.Kind = 0)))) (v := .bool qb1) rfl rfl rfl (fun h => q_as (v := .bool ((decide ((0 : Int) < (l.Rate.length : Int))) || (decide ((0 : Int) < (l.Band.Lo.length : Int))))) (q_pick (gv_pos h) (fun hp => pkOrT hp) (fun hp => (gv_pos h).trans ((gv_pos hp).trans (pkOrF hp)))) (congrArg Value.bool hqb1)) ?_
 refine gs1 ?_
 refine RW.g2 (b1 := (!(decide (l.Kind = 0)))) (b2 := qb1) (v := pV b1 5) rfl rfl rfl (fun hg1 hg2 => q_fieldAddr rfl uT72 rfl sz70 rfl) (RW.g2 (b1 := (!(decide (l.Kind = 0)))) (b2 := qb1) (v := pV b1 6) rfl rfl rfl (fun hg1 hg2 => q_fieldAddr ((gv_pos hg1).trans (gv_pos hg2)) uT70 rfl sz55 rfl) (RW.g2 (b1 := (!(decide (l.Kind = 0)))) (b2 := qb1) (v := v6) rfl rfl rfl (fun hg1 hg2 => q_load ((gv_pos hg1).trans (gv_pos hg2)) uT55 rfl (Cell.blk 0 rfl rfl)) (RW.g2 (b1 := (!(decide (l.Kind = 0)))) (b2 := qb1) (v := iV (l.Band.Hi.length : Int)) rfl rfl rfl (fun hg1 hg2 => q_len_sl ((gv_pos hg1).trans (gv_pos hg2)) r6.sl uT55) (RW.g2 (b1 := (!(decide (l.Kind = 0)))) (b2 := qb1) (v := .bool (decide ((0 : Int) < (l.Band.Hi.length : Int)))) rfl rfl rfl (fun hg1 hg2 => q_gtr ((gv_pos hg1).trans (gv_pos hg2)) rfl) ?_))))
 obtain ⟨qb2, hqb2⟩ : ∃ z : Bool, (qb1 || (decide ((0 : Int) < (l.Band.Hi.length : Int)))) = z := ⟨_, rfl⟩
 refine RW.g (b := (!(decide (l.Kind = 0)))) (v := .bool qb2) rfl rfl rfl (fun h => q_as (v := .bool (qb1 || (decide ((0 : Int) < (l.Band.Hi.length : Int))))) (q_pick (gv_pos h) (fun hp => pkOrT hp) (fun hp => (gv_pos h).trans ((gv_pos hp).trans (pkOrF hp)))) (congrArg Value.bool hqb2)) ?_
 refine gs1 ?_
 refine RW.g2 (b1 := (!(decide (l.Kind = 0)))) (b2 := qb2) (v := pV b1 9) rfl rfl rfl (fun hg1 hg2 => q_fieldAddr rfl uT72 rfl sz3 rfl) (RW.g2 (b1 := (!(decide (l.Kind = 0)))) (b2 := qb2) (v := iV l.Leak) rfl rfl rfl (fun hg1 hg2 => q_load ((gv_pos hg1).trans (gv_pos hg2)) uT3 rfl (Cell.blk 0 rfl rfl)) (RW.g2 (b1 := (!(decide (l.Kind = 0)))) (b2 := qb2) (v := .bool (!decide (l.Leak = 0))) rfl rfl rfl (fun hg1 hg2 => q_neq ((gv_pos hg1).trans (gv_pos hg2)) rfl) (RW.g (b := (!(decide (l.Kind = 0)))) (v := .bool (qb2 || (!decide (l.Leak = 0)))) rfl rfl rfl (fun h => q_pick (gv_pos h) (fun hp => pkOrT hp) (fun hp => (gv_pos h).trans ((gv_pos hp).trans (pkOrF hp)))) ?_)))
 refine RW.pkA rfl rfl rfl rfl fun qb3 hqb3 => ?_
 subst hqb3 hqb2 hqb1
 refine gs2 ?_
 refine AW.cond rfl (fun hc1 => ?_) fun hc1 => ?_
 ·
  refine gs7 ?_
  exact fin_val (v' := .bool false) rfl rfl rfl (by unfold unusedB; rw [hc1]; rfl)
 ·
  refine gs11 ?_
  refine RW.pkA rfl rfl rfl rfl fun qb4 hqb4 => ?_
  refine gs5 ?_
  refine RW.g2 (b1 := qb4) (b2 := (!decide (l.Positions = 0))) (v := pV b1 8) rfl rfl rfl (fun hg1 hg2 => q_fieldAddr rfl uT72 rfl sz3 rfl) (RW.g2 (b1 := qb4) (b2 := (!decide (l.Positions = 0))) (v := iV l.Speed) rfl rfl rfl (fun hg1 hg2 => q_load ((gv_pos hg1).trans (gv_pos hg2)) uT3 rfl (Cell.blk 0 rfl rfl)) (RW.g2 (b1 := qb4) (b2 := (!decide (l.Positions = 0))) (v := .bool (!decide (l.Speed = 0))) rfl rfl rfl (fun hg1 hg2 => q_neq ((gv_pos hg1).trans (gv_pos hg2)) rfl) ?_))
  obtain ⟨qb5, hqb5⟩ : ∃ z : Bool, ((!decide (l.Positions = 0)) || (!decide (l.Speed = 0))) = z := ⟨_, rfl⟩
  refine RW.g (b := qb4) (v := .bool qb5) rfl rfl rfl (fun h => q_as (v := .bool ((!decide (l.Positions = 0)) || (!decide (l.Speed = 0)))) (q_pick (gv_pos h) (fun hp => pkOrT hp) (fun hp => (gv_pos h).trans ((gv_pos hp).trans (pkOrF hp)))) (congrArg Value.bool hqb5)) (RW.q (v := .bool (qb4 && qb5)) rfl (qpA rfl rfl rfl) ?_)
  subst hqb5 hqb4
  refine gs2 ?_
  refine AW.cond rfl (fun hc2 => ?_) fun hc2 => ?_
  ·
   refine gs7 ?_
   exact fin_val (v' := .bool false) rfl rfl rfl (by unfold unusedB; rw [hc1, hc2]; rfl)
  ·
   refine gs12 ?_
   refine RW.pkA rfl rfl rfl rfl fun qb6 hqb6 => ?_
   refine gs4 ?_
   refine RW.q (v := .bool (qb6 && (!decide (l.Crest = 0)))) rfl (qpA rfl rfl rfl) ?_
   subst hqb6
   refine gs2 ?_
   refine AW.cond rfl (fun hc3 => ?_) fun hc3 => ?_
   ·
    refine gs7 ?_
    exact fin_val (v' := .bool false) rfl rfl rfl (by unfold unusedB; rw [hc1, hc2, hc3]; rfl)
   ·
    refine gs10 ?_
    refine RW.pkA rfl rfl rfl rfl fun qb7 hqb7 => ?_
    refine gs3 ?_
    refine RW.g2 (b1 := qb7) (b2 := (decide (l.Kind = 0))) (v := pV b1 1) rfl rfl rfl (fun hg1 hg2 => q_fieldAddr rfl uT72 rfl sz3 rfl) (RW.g2 (b1 := qb7) (b2 := (decide (l.Kind = 0))) (v := iV l.Kind) rfl rfl rfl (fun hg1 hg2 => q_load ((gv_pos hg1).trans (gv_pos hg2)) uT3 rfl (Cell.blk 0 rfl rfl)) (RW.g2 (b1 := qb7) (b2 := (decide (l.Kind = 0))) (v := .bool (decide (l.Kind = 2))) rfl rfl rfl (fun hg1 hg2 => q_eql ((gv_pos hg1).trans (gv_pos hg2)) rfl) ?_))
    obtain ⟨qb8, hqb8⟩ : ∃ z : Bool, ((decide (l.Kind = 0)) || (decide (l.Kind = 2))) = z := ⟨_, rfl⟩
    refine RW.g (b := qb7) (v := .bool qb8) rfl rfl rfl (fun h => q_as (v := .bool ((decide (l.Kind = 0)) || (decide (l.Kind = 2)))) (q_pick (gv_pos h) (fun hp => pkOrT hp) (fun hp => (gv_pos h).trans ((gv_pos hp).trans (pkOrF hp)))) (congrArg Value.bool hqb8)) ?_
    refine gs1 ?_
    refine RW.g2 (b1 := qb7) (b2 := qb8) (v := pV b1 12) rfl rfl rfl (fun hg1 hg2 => q_fieldAddr rfl uT72 rfl sz3 rfl) (RW.g2 (b1 := qb7) (b2 := qb8) (v := iV l.Den) rfl rfl rfl (fun hg1 hg2 => q_load ((gv_pos hg1).trans (gv_pos hg2)) uT3 rfl (Cell.blk 0 rfl rfl)) (RW.g2 (b1 := qb7) (b2 := qb8) (v := .bool (!decide (l.Den = 0))) rfl rfl rfl (fun hg1 hg2 => q_neq ((gv_pos hg1).trans (gv_pos hg2)) rfl) (RW.g (b := qb7) (v := .bool (qb8 && (!decide (l.Den = 0)))) rfl rfl rfl (fun h => q_pick (gv_pos h) (fun hp => (gv_pos h).trans ((gv_pos hp).trans (pkAndT hp))) (fun hp => pkAndF hp)) ?_)))
    refine RW.pkO rfl rfl rfl rfl fun qb9 hqb9 => ?_
    subst hqb9 hqb8 hqb7
    refine gs2 ?_
    refine AW.cond rfl (fun hc4 => ?_) fun hc4 => ?_
    ·
     refine gs7 ?_
     exact fin_val (v' := .bool false) rfl rfl rfl (by unfold unusedB; rw [hc1, hc2, hc3, hc4]; rfl)
    ·
     refine gs13 ?_
     refine RW.g2 (b1 := (!decide (l.Kind = 3))) (b2 := (!decide (l.Prime = 0))) (v := pV b1 14) rfl rfl rfl (fun hg1 hg2 => q_fieldAddr rfl uT72 rfl sz3 rfl) (RW.g2 (b1 := (!decide (l.Kind = 3))) (b2 := (!decide (l.Prime = 0))) (v := iV l.Break) rfl rfl rfl (fun hg1 hg2 => q_load ((gv_pos hg1).trans (gv_pos hg2)) uT3 rfl (Cell.blk 0 rfl rfl)) (RW.g2 (b1 := (!decide (l.Kind = 3))) (b2 := (!decide (l.Prime = 0))) (v := .bool (!decide (l.Break = 0))) rfl rfl rfl (fun hg1 hg2 => q_neq ((gv_pos hg1).trans (gv_pos hg2)) rfl) ?_))
     obtain ⟨qb10, hqb10⟩ : ∃ z : Bool, ((!decide (l.Prime = 0)) || (!decide (l.Break = 0))) = z := ⟨_, rfl⟩
     refine RW.g (b := (!decide (l.Kind = 3))) (v := .bool qb10) rfl rfl rfl (fun h => q_as (v := .bool ((!decide (l.Prime = 0)) || (!decide (l.Break = 0)))) (q_pick (gv_pos h) (fun hp => pkOrT hp) (fun hp => (gv_pos h).trans ((gv_pos hp).trans (pkOrF hp)))) (congrArg Value.bool hqb10)) (RW.q (v := .bool ((!decide (l.Kind = 3)) && qb10)) rfl (qpA rfl rfl rfl) ?_)
     subst hqb10
     refine gs2 ?_
     refine AW.cond rfl (fun hc5 => ?_) fun hc5 => ?_
     ·
      refine gs7 ?_
      exact fin_val (v' := .bool false) rfl rfl rfl (by unfold unusedB; rw [hc1, hc2, hc3, hc4, hc5]; rfl)
     ·
      refine gs9 ?_
      refine RW.pkO rfl rfl rfl rfl fun qb11 hqb11 => ?_
      refine gs5 ?_
      refine RW.g2 (b1 := qb11) (b2 := (decide (l.BackNum = 0))) (v := pV b1 16) rfl rfl rfl (fun hg1 hg2 => q_fieldAddr rfl uT72 rfl sz3 rfl) (RW.g2 (b1 := qb11) (b2 := (decide (l.BackNum = 0))) (v := iV l.BackDen) rfl rfl rfl (fun hg1 hg2 => q_load ((gv_pos hg1).trans (gv_pos hg2)) uT3 rfl (Cell.blk 0 rfl rfl)) (RW.g2 (b1 := qb11) (b2 := (decide (l.BackNum = 0))) (v := .bool (decide (l.BackDen = 0))) rfl rfl rfl (fun hg1 hg2 => q_eql ((gv_pos hg1).trans (gv_pos hg2)) rfl) ?_))
      obtain ⟨qb12, hqb12⟩ : ∃ z : Bool, ((decide (l.BackNum = 0)) && (decide (l.BackDen = 0))) = z := ⟨_, rfl⟩
      refine RW.g (b := qb11) (v := .bool qb12) rfl rfl rfl (fun h => q_as (v := .bool ((decide (l.BackNum = 0)) && (decide (l.BackDen = 0)))) (q_pick (gv_pos h) (fun hp => (gv_pos h).trans ((gv_pos hp).trans (pkAndT hp))) (fun hp => pkAndF hp)) (congrArg Value.bool hqb12)) (RW.q (v := .bool (qb11 || qb12)) rfl (qpO rfl rfl rfl) ?_)
      refine gs1 ?_
      subst hqb12 hqb11
      refine gs3 ?_
      exact fin_val (v' := .bool (((decide (l.Kind = 0)) || (decide (l.Kind = 4))) || ((decide (l.BackNum = 0)) && (decide (l.BackDen = 0))))) rfl rfl rfl (by unfold unusedB; rw [hc1, hc2, hc3, hc4, hc5]; rfl)
def linkBad (b : Bt.Basin) (k : Nat) : Bool := ((((((!(decide (0 ≤ (b.Links.getD k default).Kind ∧ (b.Links.getD k default).Kind ≤ 5))) || (!(decide (0 ≤ (b.Links.getD k default).From ∧ (b.Links.getD k default).From < (b.Places.length : Int))))) || (!(decide ((b.Links.getD k default).To = -1 ∨ (0 ≤ (b.Links.getD k default).To ∧ (b.Links.getD k default).To < (b.Places.length : Int)) ∧ (b.Links.getD k default).To ≠ (b.Links.getD k default).From)))) || (!(decide (0 ≤ (b.Links.getD k default).Delay ∧ (b.Links.getD k default).Delay ≤ 240)))) || (!(fieldsB (b.Links.getD k default)))) || (!(unusedB (b.Links.getD k default))))
def RLinks (b : Bt.Basin) : Prop := ∀ k, k < b.Links.length → linkBad b k = false
instance (b : Bt.Basin) : Decidable (RLinks b) := inferInstanceAs (Decidable (∀ k, k < b.Links.length → linkBad b k = false))
theorem rLinks_c (w : World) (Φ : Hp) (hΦ : Hp.le Φ (hp w)) {b : Bt.Basin} {cs : List Value} (hB : RepV Φ b cs)  :
  Calls pg 40 #[.agg cs.toArray] w fun e w' => e = .returned (.bool (decide (RLinks b))) ∧ Bel w.heap.size w w' := by
 obtain ⟨v1, v3, v4, v5, v6, v7, v8, v9, hcs, hBw, r1, r3, r4, r5, r6, r7, r8, r9⟩ := (show Rep.rep Φ b cs from hB)
 subst hcs
 have hpm : b.Places.length * 152 ≤ 140737488355328 := r3.max
 refine in1 51 Tryz.func40 rfl rfl hΦ ?_
 have hnl : b.Name.data.toList.length ≤ 9223372036854775807 := hBw.1
 have hom : b.Owners.length * 16 ≤ 140737488355328 := r1.max
 have hlm : b.Links.length * 200 ≤ 140737488355328 := r4.max
 have htm : b.Towns.length * 64 ≤ 140737488355328 := r5.max
 have hgm_ : b.Gauges.length * 48 ≤ 140737488355328 := r6.max
 have hrm : b.Roads.length * 64 ≤ 140737488355328 := r7.max
 have hsm : b.Shelters.length * 24 ≤ 140737488355328 := r8.max
 have hom2 : b.Room.length * 8 ≤ 140737488355328 := r9.max
 refine gs2 ?_
 refine RW.bxA rfl rfl fun b1 => ?_
 refine gs13 ?_
 refine AW.lp (fun s J m => ∃ (k : Nat), s = [(1, pV b1 0), (6, v4), (7, iV (b.Links.length : Int)), (8, iV (k : Int))] ∧ J = St ⟨w, Φ, []⟩ Φ [.blk b1 31 (cl31 b v1 v3 v4 v5 v6 v7 v8 v9)] ∧ m = b.Links.length - k ∧ (k ≤ b.Links.length) ∧ (∀ j, j < k → linkBad b j = false)) ⟨0, rfl, rfl, rfl, (by omega), (fun j hj => absurd hj (by omega))⟩ ?_
 rintro _ _ _ _ ⟨k, rfl, rfl, rfl, hk, hall⟩
 refine gs6 ?_
 refine AW.cond rfl (fun hc1 => ?_) fun hc1 => ?_
 ·
  simp [-List.getD_eq_getElem?_getD, -Array.length_toList] at hc1
  refine gs7 ?_
  obtain ⟨cv1, hcr1, hcc1⟩ := RepSl.whole (k := k) r4 (by omega)
  obtain ⟨sv1, sv2, sv3, hcE1, hcw1, hsv1, hsv2, hsv3⟩ := (show Rep.rep _ _ _ from hcr1)
  subst hcE1
  refine RW.q (v := .agg (cl72 (b.Links.getD k default) sv1 sv2 sv3).toArray) rfl (q_loadAgg rfl uT72 rfl sz72 rfl (Cells.phiK hcc1)) ?_
  refine RW.alc rfl fun b2 => ?_
  refine RW.effn (J' := St ⟨w, Φ, []⟩ Φ [.blk b2 72 (cl72 (b.Links.getD k default) sv1 sv2 sv3), .blk b1 31 (cl31 b v1 v3 v4 v5 v6 v7 v8 v9)]) (e_store (v := .agg (cl72 (b.Links.getD k default) sv1 sv2 sv3).toArray) 0 rfl rfl rfl sz72 rfl (List.all_eq_true.2 (fun u hu => Rep.one (show Rep.rep _ _ _ from hcr1) u hu)) rfl rfl rfl) ?_
  refine gs6 ?_
  refine RW.c rfl (fun w1 hw1 => bIn_c w1 (Go.K.hp w1) (Hp.le_refl _)) rfl rfl ?_
  refine gs7 ?_
  refine RW.gc rfl rfl rfl (fun w1 hw1 => bIdx_c w1 (Go.K.hp w1) (Hp.le_refl _) (by (try simp [-List.getD_eq_getElem?_getD, -Array.length_toList] at h); omega)) rfl (fun h => args2 (gv_pos h) (gv_pos h)) ?_
  refine gs1 ?_
  refine RW.pkO rfl rfl rfl rfl fun qb1 hqb1 => ?_
  refine gs6 ?_
  refine RW.gc rfl rfl rfl (fun w1 hw1 => bTgt_c w1 (Go.K.hp w1) (Hp.le_refl _) (hB.mono hw1.phi)) rfl (fun h => args3 (gv_pos h) (gv_pos h) (gv_pos h)) ?_
  refine gs1 ?_
  refine RW.pkO rfl rfl rfl rfl fun qb2 hqb2 => ?_
  refine gs3 ?_
  refine RW.gc rfl rfl rfl (fun w1 hw1 => bIn_c w1 (Go.K.hp w1) (Hp.le_refl _)) rfl (fun h => args3 (gv_pos h) rfl rfl) ?_
  refine gs1 ?_
  refine RW.pkO rfl rfl rfl rfl fun qb3 hqb3 => ?_
  refine gs2 ?_
  refine RW.gc rfl rfl rfl (fun w1 hw1 => fields_c w1 (Go.K.hp w1) (Hp.le_refl _) (hcr1.mono hw1.phi)) rfl (fun h => args1 (gv_pos h)) ?_
  refine gs1 ?_
  refine RW.pkO rfl rfl rfl rfl fun qb4 hqb4 => ?_
  refine gs2 ?_
  refine RW.gc rfl rfl rfl (fun w1 hw1 => unused_c w1 (Go.K.hp w1) (Hp.le_refl _) (hcr1.mono hw1.phi)) rfl (fun h => args1 (gv_pos h)) ?_
  refine gs1 ?_
  refine RW.pkO rfl rfl rfl rfl fun qb5 hqb5 => ?_
  subst hqb5 hqb4 hqb3 hqb2 hqb1
  refine gs2 ?_
  refine AW.cond rfl (fun hc2 => ?_) fun hc2 => ?_
  ·
   refine gs11 ?_
   exact fin_val (v' := .bool false) rfl rfl rfl (congrArg Value.bool (decide_eq_false (fun h9 => Bool.noConfusion ((h9 k (by omega)).symm.trans hc2))).symm)
  ·
   refine gs7 ?_
   exact Post.bk ⟨k + 1, rfl, rfl, rfl, (by omega), (Fu.lt_succ hall hc2)⟩
 ·
  simp [-List.getD_eq_getElem?_getD, -Array.length_toList] at hc1
  refine gs11 ?_
  exact fin_val (v' := .bool true) rfl rfl rfl (congrArg Value.bool (decide_eq_true (show RLinks b from fun j hj => hall j (by omega))).symm)
end Go.Proofs.YtpapfpoefiikpaaGreatDoor
