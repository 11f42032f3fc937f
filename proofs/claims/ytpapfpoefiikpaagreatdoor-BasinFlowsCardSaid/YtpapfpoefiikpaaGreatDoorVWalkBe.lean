/- Lemmas. Conditions: those of each theorem. -/
import Derived.Test.YtpapfpoefiikpaaGreatDoorVWalkBd
set_option maxRecDepth 8000
set_option maxHeartbeats 16000000
namespace Go.Proofs.YtpapfpoefiikpaaGreatDoor
open Go Go.K Go.RowKit
attribute [local irreducible] AW RW DW Post Qt
theorem place_f {b : Bt.Basin} {k : Nat} (h : placeBad b k = false) : (0 ≤ (b.Places.getD k default).Office ∧ (b.Places.getD k default).Office ≤ 2) ∧ ((b.Places.getD k default).Down = -1 ∨ (0 ≤ (b.Places.getD k default).Down ∧ (b.Places.getD k default).Down < (b.Places.length : Int)) ∧ (b.Places.getD k default).Down ≠ (k : Int)) ∧ (0 ≤ (b.Places.getD k default).Num ∧ (b.Places.getD k default).Num ≤ 1125899906842624) ∧ (0 ≤ (b.Places.getD k default).Den ∧ (b.Places.getD k default).Den ≤ 1125899906842624) ∧ Fu.RightC (b.Places.getD k default).Level ∧ (b.Places.getD k default).Start.length = b.Owners.length := by
 unfold placeBad at h
 simp [-List.getD_eq_getElem?_getD, -Array.length_toList] at h
 obtain ⟨⟨⟨⟨⟨⟨⟨⟨h1, h2⟩, h3⟩, h4⟩, h5⟩, h6⟩, h7⟩, h8⟩, h9⟩ := h
 exact ⟨by omega, by omega, by omega, by omega, h6, by omega⟩
theorem link_f {b : Bt.Basin} {k : Nat} (h : linkBad b k = false) : (0 ≤ (b.Links.getD k default).From ∧ (b.Links.getD k default).From < (b.Places.length : Int)) ∧ ((b.Links.getD k default).To = -1 ∨ (0 ≤ (b.Links.getD k default).To ∧ (b.Links.getD k default).To < (b.Places.length : Int)) ∧ (b.Links.getD k default).To ≠ (b.Links.getD k default).From) ∧ (0 ≤ (b.Links.getD k default).Kind ∧ (b.Links.getD k default).Kind ≤ 5) ∧ fieldsB (b.Links.getD k default) = true := by
 unfold linkBad at h
 simp [-List.getD_eq_getElem?_getD, -Array.length_toList] at h
 obtain ⟨⟨⟨⟨⟨h1, h2⟩, h3⟩, h4⟩, h5⟩, h6⟩ := h
 exact ⟨by omega, by omega, by omega, h5⟩
theorem field_0 {l : Bt.Link} (h : fieldsB l = true) (hk : l.Kind = 0) : (Fu.RightC l.Rate ∧ Fu.RightC l.Band.Lo ∧ Fu.RightC l.Band.Hi) ∧ (0 ≤ l.BackNum ∧ l.BackNum ≤ 1125899906842624) ∧ (0 ≤ l.BackDen ∧ l.BackDen ≤ 1125899906842624) ∧ (0 ≤ l.Positions ∧ l.Positions ≤ 64) := by
 unfold fieldsB at h
 rw [if_pos hk] at h
 simp [-List.getD_eq_getElem?_getD, -Array.length_toList] at h
 obtain ⟨⟨⟨⟨⟨⟨⟨⟨⟨h1, h2⟩, h3⟩, h4⟩, h5⟩, h6⟩, h7⟩, h8⟩, h9⟩, h10⟩ := h
 exact ⟨⟨h1, h2, h3⟩, by omega, by omega, by omega⟩
theorem field_1 {l : Bt.Link} (h : fieldsB l = true) (hk : l.Kind = 1 ∨ l.Kind = 5 ∨ l.Kind = 3) : (0 ≤ l.Num ∧ l.Num ≤ 1125899906842624) ∧ (0 ≤ l.Den ∧ l.Den ≤ 1125899906842624) := by
 unfold fieldsB at h
 rw [if_neg (by omega)] at h
 by_cases h1 : l.Kind = 3
 ·
  rw [if_neg (by omega), if_neg (by omega), if_pos h1] at h
  simp [-List.getD_eq_getElem?_getD, -Array.length_toList] at h
  omega
 ·
  rw [if_pos (by omega)] at h
  simp [-List.getD_eq_getElem?_getD, -Array.length_toList] at h
  omega
theorem field_4 {l : Bt.Link} (h : fieldsB l = true) (hk : l.Kind = 4) : (0 ≤ l.Num ∧ l.Num ≤ 1125899906842624) ∧ (0 ≤ l.Den ∧ l.Den ≤ 1125899906842624) ∧ (0 ≤ l.BackNum ∧ l.BackNum ≤ 1125899906842624) ∧ (0 ≤ l.BackDen ∧ l.BackDen ≤ 1125899906842624) ∧ l.To ≠ -1 := by
 unfold fieldsB at h
 rw [if_neg (by omega), if_neg (by omega), if_neg (by omega), if_neg (by omega)] at h
 simp [-List.getD_eq_getElem?_getD, -Array.length_toList] at h
 omega
def offP (b : Bt.Basin) (k : Nat) : Bool := !(decide (((b.Places.getD k default).Down = -1 → (b.Places.getD k default).Office = 2) ∧ ((b.Places.getD k default).Down ≠ -1 → (b.Places.getD ((b.Places.getD k default).Down).toNat default).Office = (b.Places.getD k default).Office ∨ (b.Places.getD ((b.Places.getD k default).Down).toNat default).Office = ((b.Places.getD k default).Office) + 1)))
def offL (b : Bt.Basin) (k : Nat) : Bool := ((!(decide (((b.Links.getD k default).To = -1 → (b.Places.getD (((b.Links.getD k default).From).toNat) default).Office = 2) ∧ ((b.Links.getD k default).To ≠ -1 → (b.Places.getD ((b.Links.getD k default).To).toNat default).Office = (b.Places.getD (((b.Links.getD k default).From).toNat) default).Office ∨ (b.Places.getD ((b.Links.getD k default).To).toNat default).Office = ((b.Places.getD (((b.Links.getD k default).From).toNat) default).Office) + 1)))) || ((decide ((b.Links.getD k default).Kind = 4)) && (!decide ((b.Places.getD (((b.Links.getD k default).To).toNat) default).Office = (b.Places.getD (((b.Links.getD k default).From).toNat) default).Office))))
def ROffices (b : Bt.Basin) : Prop := (∀ k, k < b.Places.length → offP b k = false) ∧ ∀ k, k < b.Links.length → offL b k = false
instance (b : Bt.Basin) : Decidable (ROffices b) := inferInstanceAs (Decidable ((∀ k, k < b.Places.length → offP b k = false) ∧ ∀ k, k < b.Links.length → offL b k = false))
theorem rOffices_c (w : World) (Φ : Hp) (hΦ : Hp.le Φ (hp w)) {b : Bt.Basin} {cs : List Value} (hB : RepV Φ b cs) (hp : RPlaces b) (hl : RLinks b) :
  Calls pg 41 #[.agg cs.toArray] w fun e w' => e = .returned (.bool (decide (ROffices b))) ∧ Bel w.heap.size w w' := by
 obtain ⟨v1, v3, v4, v5, v6, v7, v8, v9, hcs, hBw, r1, r3, r4, r5, r6, r7, r8, r9⟩ := (show Rep.rep Φ b cs from hB)
 subst hcs
 have hpm : b.Places.length * 152 ≤ 140737488355328 := r3.max
 refine in1 60 Tryz.func41 rfl rfl hΦ ?_
 have hnl : b.Name.data.toList.length ≤ 9223372036854775807 := hBw.1
 have hom : b.Owners.length * 16 ≤ 140737488355328 := r1.max
 have hlm : b.Links.length * 200 ≤ 140737488355328 := r4.max
 have htm : b.Towns.length * 64 ≤ 140737488355328 := r5.max
 have hgm_ : b.Gauges.length * 48 ≤ 140737488355328 := r6.max
 have hrm : b.Roads.length * 64 ≤ 140737488355328 := r7.max
 have hsm : b.Shelters.length * 24 ≤ 140737488355328 := r8.max
 have hom2 : b.Room.length * 8 ≤ 140737488355328 := r9.max
 refine gs2 ?_
 refine RW.bxA rfl rfl fun b1 => ?_
 refine gs13 ?_
 refine AW.lp (fun s J m => ∃ (k : Nat), s = [(1, pV b1 0), (9, v3), (10, iV (b.Places.length : Int)), (11, iV (k : Int))] ∧ J = St ⟨w, Φ, []⟩ Φ [.blk b1 31 (cl31 b v1 v3 v4 v5 v6 v7 v8 v9)] ∧ m = b.Places.length - k ∧ (k ≤ b.Places.length) ∧ (∀ j, j < k → offP b j = false)) ⟨0, rfl, rfl, rfl, (by omega), (fun j hj => absurd hj (by omega))⟩ ?_
 rintro _ _ _ _ ⟨k, rfl, rfl, rfl, hk, hall⟩
 refine gs6 ?_
 refine AW.cond rfl (fun hc1 => ?_) fun hc1 => ?_
 ·
  simp [-List.getD_eq_getElem?_getD, -Array.length_toList] at hc1
  refine gs7 ?_
  obtain ⟨cv1, hcr1, hcc1⟩ := RepSl.whole (k := k) r3 (by omega)
  obtain ⟨sv1, sv2, sv3, hcE1, hcw1, hsv1, hsv2, hsv3⟩ := (show Rep.rep _ _ _ from hcr1)
  subst hcE1
  refine RW.q (v := .agg (cl58 (b.Places.getD k default) sv1 sv2 sv3).toArray) rfl (q_loadAgg rfl uT58 rfl sz58 rfl (Cells.phiK hcc1)) ?_
  refine RW.alc rfl fun b2 => ?_
  refine RW.effn (J' := St ⟨w, Φ, []⟩ Φ [.blk b2 58 (cl58 (b.Places.getD k default) sv1 sv2 sv3), .blk b1 31 (cl31 b v1 v3 v4 v5 v6 v7 v8 v9)]) (e_store (v := .agg (cl58 (b.Places.getD k default) sv1 sv2 sv3).toArray) 0 rfl rfl rfl sz58 rfl (List.all_eq_true.2 (fun u hu => Rep.one (show Rep.rep _ _ _ from hcr1) u hu)) rfl rfl rfl) ?_
  refine gs3 ?_
  have hpf := place_f (hp.1 k (by omega)).1
  refine gs6 ?_
  refine RW.c rfl (fun w1 hw1 => bNext_c w1 (Go.K.hp w1) (Hp.le_refl _) (hB.mono hw1.phi) (by omega) hpf.1) rfl rfl ?_
  refine gs3 ?_
  refine AW.cond rfl (fun hc2 => ?_) fun hc2 => ?_
  ·
   refine gs11 ?_
   exact fin_val (v' := .bool false) rfl rfl rfl (congrArg Value.bool (decide_eq_false (fun h9 => Bool.noConfusion ((h9.1 k (by omega)).symm.trans hc2))).symm)
  ·
   refine gs7 ?_
   exact Post.bk ⟨k + 1, rfl, rfl, rfl, (by omega), (Fu.lt_succ hall hc2)⟩
 ·
  simp [-List.getD_eq_getElem?_getD, -Array.length_toList] at hc1
  refine gs15 ?_
  refine AW.lp (fun s J m => ∃ (k : Nat), s = [(1, pV b1 0), (24, v4), (25, iV (b.Links.length : Int)), (26, iV (k : Int))] ∧ J = St ⟨w, Φ, []⟩ Φ [.blk b1 31 (cl31 b v1 v3 v4 v5 v6 v7 v8 v9)] ∧ m = b.Links.length - k ∧ (k ≤ b.Links.length) ∧ (∀ j, j < k → offL b j = false)) ⟨0, rfl, rfl, rfl, (by omega), (fun j hj => absurd hj (by omega))⟩ ?_
  rintro _ _ _ _ ⟨k, rfl, rfl, rfl, hk, hal2⟩
  refine gs6 ?_
  refine AW.cond rfl (fun hc3 => ?_) fun hc3 => ?_
  ·
   simp [-List.getD_eq_getElem?_getD, -Array.length_toList] at hc3
   refine gs7 ?_
   obtain ⟨cv2, hcr2, hcc2⟩ := RepSl.whole (k := k) r4 (by omega)
   obtain ⟨sv4, sv5, sv6, hcE2, hcw2, hsv4, hsv5, hsv6⟩ := (show Rep.rep _ _ _ from hcr2)
   subst hcE2
   refine RW.q (v := .agg (cl72 (b.Links.getD k default) sv4 sv5 sv6).toArray) rfl (q_loadAgg rfl uT72 rfl sz72 rfl (Cells.phiK hcc2)) ?_
   refine RW.alc rfl fun b3 => ?_
   refine RW.effn (J' := St ⟨w, Φ, []⟩ Φ [.blk b3 72 (cl72 (b.Links.getD k default) sv4 sv5 sv6), .blk b1 31 (cl31 b v1 v3 v4 v5 v6 v7 v8 v9)]) (e_store (v := .agg (cl72 (b.Links.getD k default) sv4 sv5 sv6).toArray) 0 rfl rfl rfl sz72 rfl (List.all_eq_true.2 (fun u hu => Rep.one (show Rep.rep _ _ _ from hcr2) u hu)) rfl rfl rfl) ?_
   refine gs3 ?_
   have hlf := link_f (hl k (by omega))
   have hl4 : (b.Links.getD k default).Kind = 4 → 0 ≤ (b.Links.getD k default).To ∧ (b.Links.getD k default).To < (b.Places.length : Int) := fun h4 => by have h3 := field_4 hlf.2.2.2 h4; have h2 := hlf.2.1; omega
   have hof := (place_f (hp.1 (b.Links.getD k default).From.toNat (by omega)).1).1
   refine gs5 ?_
   refine RW.q rfl (qa_ixZ rfl rfl r3.sl (by omega) (by omega)) ?_
   refine gs1 ?_
   refine RW.q (v := iV ((b.Places.getD (((b.Links.getD k default).From).toNat) default).Office)) rfl (q_load rfl uT3 rfl (Cell.repJ (j := 2) r3 (by omega) (fun h => leaf58_2 h))) ?_
   refine gs9 ?_
   refine RW.c rfl (fun w1 hw1 => bNext_c w1 (Go.K.hp w1) (Hp.le_refl _) (hB.mono hw1.phi) (by omega) hof) rfl rfl ?_
   refine gs6 ?_
   refine RW.g2 (b1 := (!(decide (((b.Links.getD k default).To = -1 → (b.Places.getD (((b.Links.getD k default).From).toNat) default).Office = 2) ∧ ((b.Links.getD k default).To ≠ -1 → (b.Places.getD ((b.Links.getD k default).To).toNat default).Office = (b.Places.getD (((b.Links.getD k default).From).toNat) default).Office ∨ (b.Places.getD ((b.Links.getD k default).To).toNat default).Office = ((b.Places.getD (((b.Links.getD k default).From).toNat) default).Office) + 1))))) (b2 := (decide ((b.Links.getD k default).Kind = 4))) (v := pV b1 3) rfl rfl rfl (fun hg1 hg2 => q_fieldAddr rfl uT31 rfl sz23 rfl) (RW.g2 (b1 := (!(decide (((b.Links.getD k default).To = -1 → (b.Places.getD (((b.Links.getD k default).From).toNat) default).Office = 2) ∧ ((b.Links.getD k default).To ≠ -1 → (b.Places.getD ((b.Links.getD k default).To).toNat default).Office = (b.Places.getD (((b.Links.getD k default).From).toNat) default).Office ∨ (b.Places.getD ((b.Links.getD k default).To).toNat default).Office = ((b.Places.getD (((b.Links.getD k default).From).toNat) default).Office) + 1))))) (b2 := (decide ((b.Links.getD k default).Kind = 4))) (v := v3) rfl rfl rfl (fun hg1 hg2 => q_load ((gv_pos hg1).trans (gv_pos hg2)) uT23 rfl (Cell.blk 1 rfl rfl)) (RW.g2 (b1 := (!(decide (((b.Links.getD k default).To = -1 → (b.Places.getD (((b.Links.getD k default).From).toNat) default).Office = 2) ∧ ((b.Links.getD k default).To ≠ -1 → (b.Places.getD ((b.Links.getD k default).To).toNat default).Office = (b.Places.getD (((b.Links.getD k default).From).toNat) default).Office ∨ (b.Places.getD ((b.Links.getD k default).To).toNat default).Office = ((b.Places.getD (((b.Links.getD k default).From).toNat) default).Office) + 1))))) (b2 := (decide ((b.Links.getD k default).Kind = 4))) (v := pV b3 3) rfl rfl rfl (fun hg1 hg2 => q_fieldAddr rfl uT72 rfl sz3 rfl) (RW.g2 (b1 := (!(decide (((b.Links.getD k default).To = -1 → (b.Places.getD (((b.Links.getD k default).From).toNat) default).Office = 2) ∧ ((b.Links.getD k default).To ≠ -1 → (b.Places.getD ((b.Links.getD k default).To).toNat default).Office = (b.Places.getD (((b.Links.getD k default).From).toNat) default).Office ∨ (b.Places.getD ((b.Links.getD k default).To).toNat default).Office = ((b.Places.getD (((b.Links.getD k default).From).toNat) default).Office) + 1))))) (b2 := (decide ((b.Links.getD k default).Kind = 4))) (v := iV ((b.Links.getD k default).To)) rfl rfl rfl (fun hg1 hg2 => q_load ((gv_pos hg1).trans (gv_pos hg2)) uT3 rfl (Cell.blk 0 rfl rfl)) (RW.g2 (b1 := (!(decide (((b.Links.getD k default).To = -1 → (b.Places.getD (((b.Links.getD k default).From).toNat) default).Office = 2) ∧ ((b.Links.getD k default).To ≠ -1 → (b.Places.getD ((b.Links.getD k default).To).toNat default).Office = (b.Places.getD (((b.Links.getD k default).From).toNat) default).Office ∨ (b.Places.getD ((b.Links.getD k default).To).toNat default).Office = ((b.Places.getD (((b.Links.getD k default).From).toNat) default).Office) + 1))))) (b2 := (decide ((b.Links.getD k default).Kind = 4))) (v := .pointer (some (Value.at v3 ((((b.Links.getD k default).To).toNat) * 12)))) rfl rfl rfl (fun hg1 hg2 => q_indexAddr ((gv_pos hg1).trans (gv_pos hg2)) ((gv_pos hg1).trans (gv_pos hg2)) r3.sl uT23 sz58 (by (try simp [-List.getD_eq_getElem?_getD, -Array.length_toList] at hg1); (try simp [-List.getD_eq_getElem?_getD, -Array.length_toList] at hg2); omega) (by (try simp [-List.getD_eq_getElem?_getD, -Array.length_toList] at hg1); (try simp [-List.getD_eq_getElem?_getD, -Array.length_toList] at hg2); omega) rfl) ?_))))
   refine RW.g2 (b1 := (!(decide (((b.Links.getD k default).To = -1 → (b.Places.getD (((b.Links.getD k default).From).toNat) default).Office = 2) ∧ ((b.Links.getD k default).To ≠ -1 → (b.Places.getD ((b.Links.getD k default).To).toNat default).Office = (b.Places.getD (((b.Links.getD k default).From).toNat) default).Office ∨ (b.Places.getD ((b.Links.getD k default).To).toNat default).Office = ((b.Places.getD (((b.Links.getD k default).From).toNat) default).Office) + 1))))) (b2 := (decide ((b.Links.getD k default).Kind = 4))) (v := .pointer (some (Value.at v3 ((((b.Links.getD k default).To).toNat) * 12 + 2)))) rfl rfl rfl (fun hg1 hg2 => q_fieldAddr ((gv_pos hg1).trans (gv_pos hg2)) uT58 rfl sz3 at_add) (RW.g2 (b1 := (!(decide (((b.Links.getD k default).To = -1 → (b.Places.getD (((b.Links.getD k default).From).toNat) default).Office = 2) ∧ ((b.Links.getD k default).To ≠ -1 → (b.Places.getD ((b.Links.getD k default).To).toNat default).Office = (b.Places.getD (((b.Links.getD k default).From).toNat) default).Office ∨ (b.Places.getD ((b.Links.getD k default).To).toNat default).Office = ((b.Places.getD (((b.Links.getD k default).From).toNat) default).Office) + 1))))) (b2 := (decide ((b.Links.getD k default).Kind = 4))) (v := iV ((b.Places.getD (((b.Links.getD k default).To).toNat) default).Office)) rfl rfl rfl (fun hg1 hg2 => q_load ((gv_pos hg1).trans (gv_pos hg2)) uT3 rfl (Cell.repJ (j := 2) r3 (by (try simp [-List.getD_eq_getElem?_getD, -Array.length_toList] at hg1); (try simp [-List.getD_eq_getElem?_getD, -Array.length_toList] at hg2); omega) (fun h => leaf58_2 h))) ?_)
   refine RW.g2 (b1 := (!(decide (((b.Links.getD k default).To = -1 → (b.Places.getD (((b.Links.getD k default).From).toNat) default).Office = 2) ∧ ((b.Links.getD k default).To ≠ -1 → (b.Places.getD ((b.Links.getD k default).To).toNat default).Office = (b.Places.getD (((b.Links.getD k default).From).toNat) default).Office ∨ (b.Places.getD ((b.Links.getD k default).To).toNat default).Office = ((b.Places.getD (((b.Links.getD k default).From).toNat) default).Office) + 1))))) (b2 := (decide ((b.Links.getD k default).Kind = 4))) (v := iV ((b.Places.getD (((b.Links.getD k default).From).toNat) default).Office)) rfl rfl rfl (fun hg1 hg2 => q_move rfl) (RW.g2 (b1 := (!(decide (((b.Links.getD k default).To = -1 → (b.Places.getD (((b.Links.getD k default).From).toNat) default).Office = 2) ∧ ((b.Links.getD k default).To ≠ -1 → (b.Places.getD ((b.Links.getD k default).To).toNat default).Office = (b.Places.getD (((b.Links.getD k default).From).toNat) default).Office ∨ (b.Places.getD ((b.Links.getD k default).To).toNat default).Office = ((b.Places.getD (((b.Links.getD k default).From).toNat) default).Office) + 1))))) (b2 := (decide ((b.Links.getD k default).Kind = 4))) (v := .bool (!decide ((b.Places.getD (((b.Links.getD k default).To).toNat) default).Office = (b.Places.getD (((b.Links.getD k default).From).toNat) default).Office))) rfl rfl rfl (fun hg1 hg2 => q_neq ((gv_pos hg1).trans (gv_pos hg2)) ((gv_pos hg1).trans (gv_pos hg2))) ?_)
   obtain ⟨qb1, hqb1⟩ : ∃ z : Bool, ((decide ((b.Links.getD k default).Kind = 4)) && (!decide ((b.Places.getD (((b.Links.getD k default).To).toNat) default).Office = (b.Places.getD (((b.Links.getD k default).From).toNat) default).Office))) = z := ⟨_, rfl⟩
   refine RW.g (b := (!(decide (((b.Links.getD k default).To = -1 → (b.Places.getD (((b.Links.getD k default).From).toNat) default).Office = 2) ∧ ((b.Links.getD k default).To ≠ -1 → (b.Places.getD ((b.Links.getD k default).To).toNat default).Office = (b.Places.getD (((b.Links.getD k default).From).toNat) default).Office ∨ (b.Places.getD ((b.Links.getD k default).To).toNat default).Office = ((b.Places.getD (((b.Links.getD k default).From).toNat) default).Office) + 1))))) (v := .bool qb1) rfl rfl rfl (fun h => q_as (v := .bool ((decide ((b.Links.getD k default).Kind = 4)) && (!decide ((b.Places.getD (((b.Links.getD k default).To).toNat) default).Office = (b.Places.getD (((b.Links.getD k default).From).toNat) default).Office)))) (q_pick (gv_pos h) (fun hp => (gv_pos h).trans ((gv_pos hp).trans (pkAndT hp))) (fun hp => pkAndF hp)) (congrArg Value.bool hqb1)) ?_
   refine RW.pkO rfl rfl rfl rfl fun qb2 hqb2 => ?_
   subst hqb2 hqb1
   refine gs2 ?_
   refine AW.cond rfl (fun hc4 => ?_) fun hc4 => ?_
   ·
    refine gs11 ?_
    exact fin_val (v' := .bool false) rfl rfl rfl (congrArg Value.bool (decide_eq_false (fun h9 => Bool.noConfusion ((h9.2 k (by omega)).symm.trans hc4))).symm)
   ·
    refine gs7 ?_
    exact Post.bk ⟨k + 1, rfl, rfl, rfl, (by omega), (Fu.lt_succ hal2 hc4)⟩
  ·
   simp [-List.getD_eq_getElem?_getD, -Array.length_toList] at hc3
   refine gs11 ?_
   exact fin_val (v' := .bool true) rfl rfl rfl (congrArg Value.bool (decide_eq_true (show ROffices b from ⟨fun j hj => hall j (by omega), fun j hj => hal2 j (by omega)⟩)).symm)
def slp0 (b : Bt.Basin) : List Int := b.Places.map fun p => Ba.slope p.Num p.Den
def addF (S : List Int) (i v : Int) : List Int := S.set i.toNat (S.getD i.toNat 0 + v)
def addL (S : List Int) (l : Bt.Link) : List Int := if l.Kind = 0 then (if l.To = -1 then addF S l.From (Ba.stAll [l.Rate, l.Band.Lo, l.Band.Hi]) else addF (addF S l.From (Ba.stAll [l.Rate, l.Band.Lo, l.Band.Hi])) l.To (Ba.slope l.BackNum l.BackDen)) else if l.Kind = 1 ∨ l.Kind = 5 ∨ l.Kind = 3 then addF S l.From (Ba.slope l.Num l.Den) else if l.Kind = 4 then addF (addF S l.From (2 * Ba.slope l.Num l.Den)) l.To (2 * Ba.slope l.BackNum l.BackDen) else S
def sumsB (b : Bt.Basin) : List Int := b.Links.foldl addL (slp0 b)
theorem addL_len (S : List Int) (l : Bt.Link) : (addL S l).length = S.length := by
 unfold addL addF
 split
 ·
  split <;> simp
 ·
  split
  ·
   simp
  ·
   split <;> simp
def RSlopes (b : Bt.Basin) : Prop := ∀ j, j < b.Places.length → (sumsB b).getD j 0 ≤ 1099511627776
instance (b : Bt.Basin) : Decidable (RSlopes b) := inferInstanceAs (Decidable (∀ j, j < b.Places.length → (sumsB b).getD j 0 ≤ 1099511627776))
theorem rSlopes_c (w : World) (Φ : Hp) (hΦ : Hp.le Φ (hp w)) {b : Bt.Basin} {cs : List Value} (hB : RepV Φ b cs) (hh : RHead b) (hp : RPlaces b) (hl : RLinks b) :
  Calls pg 42 #[.agg cs.toArray] w fun e w' => e = .returned (.bool (decide (RSlopes b))) ∧ Bel w.heap.size w w' := by
 obtain ⟨v1, v3, v4, v5, v6, v7, v8, v9, hcs, hBw, r1, r3, r4, r5, r6, r7, r8, r9⟩ := (show Rep.rep Φ b cs from hB)
 subst hcs
 have hpm : b.Places.length * 152 ≤ 140737488355328 := r3.max
 refine in1 128 Tryz.func42 rfl rfl hΦ ?_
 have hnl : b.Name.data.toList.length ≤ 9223372036854775807 := hBw.1
 have hom : b.Owners.length * 16 ≤ 140737488355328 := r1.max
 have hlm : b.Links.length * 200 ≤ 140737488355328 := r4.max
 have htm : b.Towns.length * 64 ≤ 140737488355328 := r5.max
 have hgm_ : b.Gauges.length * 48 ≤ 140737488355328 := r6.max
 have hrm : b.Roads.length * 64 ≤ 140737488355328 := r7.max
 have hsm : b.Shelters.length * 24 ≤ 140737488355328 := r8.max
 have hom2 : b.Room.length * 8 ≤ 140737488355328 := r9.max
 have hdb := hh.1
 unfold headBad at hdb
 simp [-List.getD_eq_getElem?_getD, -Array.length_toList] at hdb
 refine gs2 ?_
 refine RW.bxA rfl rfl fun b1 => ?_
 refine gs8 ?_
 refine RW.eff (fun b2 : Nat => (.slice (some ⟨b2, 0, none⟩) b.Places.length b.Places.length)) (fun b2 => St ⟨w, Φ, []⟩ Φ [.row (.slice (some ⟨b2, 0, none⟩) b.Places.length b.Places.length) 3 1 b.Places.length ((List.replicate b.Places.length 0).map (Value.int .i64)), .blk b1 31 (cl31 b v1 v3 v4 v5 v6 v7 v8 v9)]) rfl (e_makeSlice rfl rfl uT29 inf3 (by omega) (by omega) (by omega) rfl (made_int (n := b.Places.length) (by omega))) ?_
 intro b2
 refine gs13 ?_
 refine AW.lp (fun s J m => ∃ (k : Nat), ∃ (S : List Int), s = [(1, pV b1 0), (3, (.slice (some ⟨b2, 0, none⟩) b.Places.length b.Places.length)), (15, v3), (16, iV (b.Places.length : Int)), (17, iV (k : Int))] ∧ J = St ⟨w, Φ, []⟩ Φ [.row (.slice (some ⟨b2, 0, none⟩) b.Places.length b.Places.length) 3 1 b.Places.length (S.map (Value.int .i64)), .blk b1 31 (cl31 b v1 v3 v4 v5 v6 v7 v8 v9)] ∧ m = b.Places.length - k ∧ (k ≤ b.Places.length) ∧ (S = (slp0 b).take k ++ List.replicate (b.Places.length - k) (0 : Int))) ⟨0, List.replicate b.Places.length (0 : Int), rfl, rfl, rfl, (by omega), (by simp)⟩ ?_
 rintro _ _ _ _ ⟨k, S, rfl, rfl, rfl, hk, hS⟩
 refine gs6 ?_
 refine AW.cond rfl (fun hc1 => ?_) fun hc1 => ?_
 ·
  simp [-List.getD_eq_getElem?_getD, -Array.length_toList] at hc1
  refine gs8 ?_
  obtain ⟨cv1, hcr1, hcc1⟩ := RepSl.whole (k := k) r3 (by omega)
  obtain ⟨sv1, sv2, sv3, hcE1, hcw1, hsv1, hsv2, hsv3⟩ := (show Rep.rep _ _ _ from hcr1)
  subst hcE1
  refine RW.q (v := .agg (cl58 (b.Places.getD k default) sv1 sv2 sv3).toArray) rfl (q_loadAgg rfl uT58 rfl sz58 rfl (Cells.phiK hcc1)) ?_
  refine RW.alc rfl fun b3 => ?_
  refine gs1 ?_
  refine RW.effn (J' := St ⟨w, Φ, []⟩ Φ [.blk b3 58 (cl58 (b.Places.getD k default) sv1 sv2 sv3), .row (.slice (some ⟨b2, 0, none⟩) b.Places.length b.Places.length) 3 1 b.Places.length (S.map (Value.int .i64)), .blk b1 31 (cl31 b v1 v3 v4 v5 v6 v7 v8 v9)]) (e_store (v := .agg (cl58 (b.Places.getD k default) sv1 sv2 sv3).toArray) 0 rfl rfl rfl sz58 rfl (List.all_eq_true.2 (fun u hu => Rep.one (show Rep.rep _ _ _ from hcr1) u hu)) rfl rfl rfl) ?_
  refine gs2 ?_
  have hpf := place_f (hp.1 k (by omega)).1
  have hSk : S.length = b.Places.length := by rw [hS]; simp [slp0]; omega
  refine gs7 ?_
  refine RW.c rfl (fun w1 hw1 => slope_c w1 (Go.K.hp w1) (Hp.le_refl _) (by omega) (by omega)) rfl rfl ?_
  refine gs1 ?_
  refine RW.effn (J' := St ⟨w, Φ, []⟩ Φ [.blk b3 58 (cl58 (b.Places.getD k default) sv1 sv2 sv3), .row (.slice (some ⟨b2, 0, none⟩) b.Places.length b.Places.length) 3 1 b.Places.length ((S.set k (Ba.slope ((b.Places.getD k default).Num) ((b.Places.getD k default).Den))).map (Value.int .i64)), .blk b1 31 (cl31 b v1 v3 v4 v5 v6 v7 v8 v9)]) (e_storeRow (v := iV (Ba.slope ((b.Places.getD k default).Num) ((b.Places.getD k default).Den))) 1 rfl rfl rfl sz3 rfl rfl (by simp [-List.getD_eq_getElem?_getD]; omega) (splice_int (by omega)) rfl) ?_
  refine gs7 ?_
  exact Post.bk ⟨k + 1, S.set k (Ba.slope ((b.Places.getD k default).Num) ((b.Places.getD k default).Den)), rfl, rfl, rfl, (by omega), (by rw [hS]; exact Ba.set_fill (by simp [slp0]) (by omega) (by simp [slp0, show k < b.Places.length by omega]))⟩
 ·
  simp [-List.getD_eq_getElem?_getD, -Array.length_toList] at hc1
  refine gs15 ?_
  have hSe : S = slp0 b := by rw [hS, List.take_of_length_le (by simp [slp0]; omega), show b.Places.length - k = 0 by omega]; simp
  rw [hSe]
  refine AW.lp (fun s J m => ∃ (k : Nat), ∃ (S : List Int), s = [(3, (.slice (some ⟨b2, 0, none⟩) b.Places.length b.Places.length)), (32, v4), (33, iV (b.Links.length : Int)), (34, iV (k : Int))] ∧ J = St ⟨w, Φ, []⟩ Φ [.row (.slice (some ⟨b2, 0, none⟩) b.Places.length b.Places.length) 3 1 b.Places.length (S.map (Value.int .i64)), .blk b1 31 (cl31 b v1 v3 v4 v5 v6 v7 v8 v9)] ∧ m = b.Links.length - k ∧ (k ≤ b.Links.length) ∧ (S = (b.Links.take k).foldl addL (slp0 b)) ∧ (S.length = b.Places.length) ∧ (Ba.Bnd S (1099511627777 + 6597069766662 * (k : Int)))) ⟨0, slp0 b, rfl, rfl, rfl, (by omega), rfl, (by simp [slp0]), (Ba.bnd_map (by omega) (fun x hx => by obtain ⟨i9, hi9, rfl⟩ := List.mem_iff_getElem.1 hx; have h9 := place_f (hp.1 i9 hi9).1; rw [gDD, List.getElem?_eq_getElem hi9] at h9; have h8 := Ba.slope_rng h9.2.2.1.1 h9.2.2.2.1.1; simp only [Option.getD_some] at h8; omega))⟩ ?_
  rintro _ _ _ _ ⟨k, S, rfl, rfl, rfl, hk, hS, hSl, hB⟩
  refine gs6 ?_
  refine AW.cond rfl (fun hc2 => ?_) fun hc2 => ?_
  ·
   simp [-List.getD_eq_getElem?_getD, -Array.length_toList] at hc2
   refine gs7 ?_
   obtain ⟨cv2, hcr2, hcc2⟩ := RepSl.whole (k := k) r4 (by omega)
   obtain ⟨sv4, sv5, sv6, hcE2, hcw2, hsv4, hsv5, hsv6⟩ := (show Rep.rep _ _ _ from hcr2)
   subst hcE2
   refine RW.q (v := .agg (cl72 (b.Links.getD k default) sv4 sv5 sv6).toArray) rfl (q_loadAgg rfl uT72 rfl sz72 rfl (Cells.phiK hcc2)) ?_
   refine RW.alc rfl fun b4 => ?_
   refine RW.effn (J' := St ⟨w, Φ, []⟩ Φ [.blk b4 72 (cl72 (b.Links.getD k default) sv4 sv5 sv6), .row (.slice (some ⟨b2, 0, none⟩) b.Places.length b.Places.length) 3 1 b.Places.length (S.map (Value.int .i64)), .blk b1 31 (cl31 b v1 v3 v4 v5 v6 v7 v8 v9)]) (e_store (v := .agg (cl72 (b.Links.getD k default) sv4 sv5 sv6).toArray) 0 rfl rfl rfl sz72 rfl (List.all_eq_true.2 (fun u hu => Rep.one (show Rep.rep _ _ _ from hcr2) u hu)) rfl rfl rfl) ?_
   refine gs3 ?_
   have hlf := link_f (hl k (by omega))
   have hll : b.Links.length ≤ 96 := by omega
   refine gs12 ?_
   refine AW.cond rfl (fun hc3 => ?_) fun hc3 => ?_
   ·
    simp [-List.getD_eq_getElem?_getD, -Array.length_toList] at hc3
    refine gs1 ?_
    have hf0 := field_0 hlf.2.2.2 (by omega)
    have hRs : ∀ c ∈ [(b.Links.getD k default).Rate, (b.Links.getD k default).Band.Lo, (b.Links.getD k default).Band.Hi], Fu.RightC c := fun c hc => by
     simp only [List.mem_cons, List.not_mem_nil, or_false] at hc
     rcases hc with rfl | rfl | rfl
     ·
      exact hf0.1.1
     ·
      exact hf0.1.2.1
     ·
      exact hf0.1.2.2
    have hst := Ba.stAll_rng hRs
    have hbF := hB (b.Links.getD k default).From.toNat
    have hB_0 := hB
    have r1_0 := r1
    have r3_0 := r3
    have r4_0 := r4
    have r5_0 := r5
    have r6_0 := r6
    have r7_0 := r7
    have r8_0 := r8
    have r9_0 := r9
    have hcr2_0 := hcr2
    have hsv4_0 := hsv4
    have hsv5_0 := hsv5
    have hsv6_0 := hsv6
    refine AW.draw (J0 := St ⟨w, Φ, []⟩ Φ [.blk b4 72 (cl72 (b.Links.getD k default) sv4 sv5 sv6), .row (.slice (some ⟨b2, 0, none⟩) b.Places.length b.Places.length) 3 1 b.Places.length (S.map (Value.int .i64)), .blk b1 31 (cl31 b v1 v3 v4 v5 v6 v7 v8 v9)]) [.q, .q, .q, .q, .q, .q, .q, .q, .q, .q, .q, .q, .q, .e, .e, .q, .q, .e] [0, 1, 2, 3, 4, 5, 6, 7, 8, 9, 10, 11, 12, 13, 14, 15, 16, 17] hmix (by kernel_rfl) ?_
    refine gs3 ?_
    refine DW.q (fun _ h => h) rfl (qa_ixZ rfl rfl isSl_mk (by omega) (by omega)) (DW.q (v := iV ((S).getD (((b.Links.getD k default).From).toNat) 0)) (fun _ h => h) rfl (q_load rfl uT3 rfl (Cell.rowInt 1 rfl (by omega))) ?_)
    refine gs8 ?_
    refine DW.eff (fun b5 : Nat => (.slice (some ⟨b5, 0, none⟩) 3 3)) (fun b5 => St ⟨w, Φ, []⟩ Φ [.row (.slice (some ⟨b5, 0, none⟩) 3 3) 55 1 3 ([sv4, sv5, sv6]), .blk b4 72 (cl72 (b.Links.getD k default) sv4 sv5 sv6), .row (.slice (some ⟨b2, 0, none⟩) b.Places.length b.Places.length) 3 1 b.Places.length (S.map (Value.int .i64)), .blk b1 31 (cl31 b v1 v3 v4 v5 v6 v7 v8 v9)]) (fun _ _ => (fun _ h => (StP.drop h (by exact .cons _ (.cons_cons _ (.cons_cons _ (.cons_cons _ (.slnil)))))))) rfl (e_buildSlice (vals := [(0, sv4), (1, sv5), (2, sv6)]) (cells := [sv4, sv5, sv6]) uT196 inf55 rfl rfl rfl (by obtain ⟨A0, c0, rfl, _, _⟩ := hsv4.sl; obtain ⟨A1, c1, rfl, _, _⟩ := hsv5.sl; obtain ⟨A2, c2, rfl, _, _⟩ := hsv6.sl; kernel_rfl) rfl) ?_
    intro b5
    refine DW.qe (v := iV (Ba.stAll [((b.Links.getD k default).Rate), ((b.Links.getD k default).Band.Lo), ((b.Links.getD k default).Band.Hi)])) (fun _ => (fun _ h => (StP.drop h (by exact .cons _ (.cons_cons _ (.cons_cons _ (.cons_cons _ (.slnil)))))))) rfl (q_call (args := #[(.slice (some ⟨b5, 0, none⟩) 3 3)]) oK rfl rfl (fun w1 hw1 => steepest_c w1 (Go.K.hp w1) (Hp.le_refl _) (RowS.reps (xs := ([((b.Links.getD k default).Rate), ((b.Links.getD k default).Band.Lo), ((b.Links.getD k default).Band.Hi)] : List (List Bt.Point))) (cs := [[sv4], [sv5], [sv6]]) (show RowS (Go.K.hp w1) (.slice (some ⟨b5, 0, none⟩) 3 3) 55 1 (3) ([sv4, sv5, sv6]) from hw1.sAt 0 rfl) rfl ⟨⟨_, rfl, hsv4.mono hw1.phi⟩, ⟨_, rfl, hsv5.mono hw1.phi⟩, ⟨_, rfl, hsv6.mono hw1.phi⟩, trivial⟩ rfl (by decide)) hRs)) (DW.q (v := iV (((S).getD (((b.Links.getD k default).From).toNat) 0) + (Ba.stAll [((b.Links.getD k default).Rate), ((b.Links.getD k default).Band.Lo), ((b.Links.getD k default).Band.Hi)]))) (fun _ h => (StP.drop h (by exact .cons _ (.cons_cons _ (.cons_cons _ (.cons_cons _ (.slnil))))))) rfl (q_add rfl rfl (by omega) (by unfold I64; omega)) (DW.q (fun _ h => (StP.drop h (by exact .cons _ (.cons_cons _ (.cons_cons _ (.cons_cons _ (.slnil))))))) rfl (qa_ixZ rfl rfl isSl_mk (by omega) (by omega)) (DW.effn (J' := St ⟨w, Φ, []⟩ Φ [.row (.slice (some ⟨b5, 0, none⟩) 3 3) 55 1 3 ([sv4, sv5, sv6]), .blk b4 72 (cl72 (b.Links.getD k default) sv4 sv5 sv6), .row (.slice (some ⟨b2, 0, none⟩) b.Places.length b.Places.length) 3 1 b.Places.length ((S.set (((b.Links.getD k default).From).toNat) (((S).getD (((b.Links.getD k default).From).toNat) 0) + (Ba.stAll [((b.Links.getD k default).Rate), ((b.Links.getD k default).Band.Lo), ((b.Links.getD k default).Band.Hi)]))).map (Value.int .i64)), .blk b1 31 (cl31 b v1 v3 v4 v5 v6 v7 v8 v9)]) (fun h => absurd rfl h) (e_storeRow (v := iV (((S).getD (((b.Links.getD k default).From).toNat) 0) + (Ba.stAll [((b.Links.getD k default).Rate), ((b.Links.getD k default).Band.Lo), ((b.Links.getD k default).Band.Hi)]))) 2 rfl rfl rfl sz3 rfl rfl (by simp [-List.getD_eq_getElem?_getD]; omega) (splice_int (by omega)) rfl) ?_)))
    refine gs3 ?_
    have hS1l : (S.set (((b.Links.getD k default).From).toNat) (((S).getD (((b.Links.getD k default).From).toNat) 0) + (Ba.stAll [((b.Links.getD k default).Rate), ((b.Links.getD k default).Band.Lo), ((b.Links.getD k default).Band.Hi)]))).length = b.Places.length := by simp [hSl]
    have hB1 : Ba.Bnd (S.set (((b.Links.getD k default).From).toNat) (((S).getD (((b.Links.getD k default).From).toNat) 0) + (Ba.stAll [((b.Links.getD k default).Rate), ((b.Links.getD k default).Band.Lo), ((b.Links.getD k default).Band.Hi)]))) ((1099511627777 + 6597069766662 * (k : Int)) + 2199023255554) := hB.set (by omega) (by omega) (by omega)
    refine gs6 ?_
    refine AW.cond rfl (fun hc4 => ?_) fun hc4 => ?_
    ·
     simp [-List.getD_eq_getElem?_getD, -Array.length_toList] at hc4
     have hsb := Ba.slope_rng (a := (b.Links.getD k default).BackNum) (d := (b.Links.getD k default).BackDen) hf0.2.1.1 hf0.2.2.1.1
     have hbT := hB1 (b.Links.getD k default).To.toNat
     have hB_0 := hB
     have r1_0 := r1
     have r3_0 := r3
     have r4_0 := r4
     have r5_0 := r5
     have r6_0 := r6
     have r7_0 := r7
     have r8_0 := r8
     have r9_0 := r9
     have hcr2_0 := hcr2
     have hsv4_0 := hsv4
     have hsv5_0 := hsv5
     have hsv6_0 := hsv6
     refine AW.draw (J0 := St ⟨w, Φ, []⟩ Φ [.row (.slice (some ⟨b5, 0, none⟩) 3 3) 55 1 3 ([sv4, sv5, sv6]), .blk b4 72 (cl72 (b.Links.getD k default) sv4 sv5 sv6), .row (.slice (some ⟨b2, 0, none⟩) b.Places.length b.Places.length) 3 1 b.Places.length ((S.set (((b.Links.getD k default).From).toNat) (((S).getD (((b.Links.getD k default).From).toNat) 0) + (Ba.stAll [((b.Links.getD k default).Rate), ((b.Links.getD k default).Band.Lo), ((b.Links.getD k default).Band.Hi)]))).map (Value.int .i64)), .blk b1 31 (cl31 b v1 v3 v4 v5 v6 v7 v8 v9)]) [.q, .q, .q, .q, .q, .q, .q, .q, .q, .q, .q, .q, .e] [0, 1, 2, 3, 4, 5, 6, 7, 8, 9, 10, 11, 12] hmix (by kernel_rfl) ?_
     refine gs3 ?_
     refine DW.q (fun _ h => h) rfl (qa_ixZ rfl rfl isSl_mk (by omega) (by omega)) (DW.q (v := iV ((S.set (((b.Links.getD k default).From).toNat) (((S).getD (((b.Links.getD k default).From).toNat) 0) + (Ba.stAll [((b.Links.getD k default).Rate), ((b.Links.getD k default).Band.Lo), ((b.Links.getD k default).Band.Hi)]))).getD (((b.Links.getD k default).To).toNat) 0)) (fun _ h => h) rfl (q_load rfl uT3 rfl (Cell.rowInt 2 rfl (by omega))) ?_)
     refine gs4 ?_
     refine DW.c (fun _ h => h) rfl (fun w1 hw1 => slope_c w1 (Go.K.hp w1) (Hp.le_refl _) (by omega) (by omega)) rfl rfl ?_
     refine gs1 ?_
     refine DW.q (fun _ h => h) rfl (qa_ixZ rfl rfl isSl_mk (by omega) (by omega)) (DW.effn (J' := St ⟨w, Φ, []⟩ Φ [.row (.slice (some ⟨b5, 0, none⟩) 3 3) 55 1 3 ([sv4, sv5, sv6]), .blk b4 72 (cl72 (b.Links.getD k default) sv4 sv5 sv6), .row (.slice (some ⟨b2, 0, none⟩) b.Places.length b.Places.length) 3 1 b.Places.length (((S.set (((b.Links.getD k default).From).toNat) (((S).getD (((b.Links.getD k default).From).toNat) 0) + (Ba.stAll [((b.Links.getD k default).Rate), ((b.Links.getD k default).Band.Lo), ((b.Links.getD k default).Band.Hi)]))).set (((b.Links.getD k default).To).toNat) (((S.set (((b.Links.getD k default).From).toNat) (((S).getD (((b.Links.getD k default).From).toNat) 0) + (Ba.stAll [((b.Links.getD k default).Rate), ((b.Links.getD k default).Band.Lo), ((b.Links.getD k default).Band.Hi)]))).getD (((b.Links.getD k default).To).toNat) 0) + (Ba.slope ((b.Links.getD k default).BackNum) ((b.Links.getD k default).BackDen)))).map (Value.int .i64)), .blk b1 31 (cl31 b v1 v3 v4 v5 v6 v7 v8 v9)]) (fun h => absurd rfl h) (e_storeRow (v := iV (((S.set (((b.Links.getD k default).From).toNat) (((S).getD (((b.Links.getD k default).From).toNat) 0) + (Ba.stAll [((b.Links.getD k default).Rate), ((b.Links.getD k default).Band.Lo), ((b.Links.getD k default).Band.Hi)]))).getD (((b.Links.getD k default).To).toNat) 0) + (Ba.slope ((b.Links.getD k default).BackNum) ((b.Links.getD k default).BackDen)))) 2 rfl rfl rfl sz3 rfl rfl (by simp [-List.getD_eq_getElem?_getD]; omega) (splice_int (by omega)) rfl) ?_)
     refine gs8 ?_
     have hB2 : Ba.Bnd ((S.set (((b.Links.getD k default).From).toNat) (((S).getD (((b.Links.getD k default).From).toNat) 0) + (Ba.stAll [((b.Links.getD k default).Rate), ((b.Links.getD k default).Band.Lo), ((b.Links.getD k default).Band.Hi)]))).set (((b.Links.getD k default).To).toNat) (((S.set (((b.Links.getD k default).From).toNat) (((S).getD (((b.Links.getD k default).From).toNat) 0) + (Ba.stAll [((b.Links.getD k default).Rate), ((b.Links.getD k default).Band.Lo), ((b.Links.getD k default).Band.Hi)]))).getD (((b.Links.getD k default).To).toNat) 0) + (Ba.slope ((b.Links.getD k default).BackNum) ((b.Links.getD k default).BackDen)))) ((1099511627777 + 6597069766662 * (k : Int)) + 4398046511108) := hB1.set (by omega) (by omega) (by omega)
     have hadd : addL S (b.Links.getD k default) = (S.set (((b.Links.getD k default).From).toNat) (((S).getD (((b.Links.getD k default).From).toNat) 0) + (Ba.stAll [((b.Links.getD k default).Rate), ((b.Links.getD k default).Band.Lo), ((b.Links.getD k default).Band.Hi)]))).set (((b.Links.getD k default).To).toNat) (((S.set (((b.Links.getD k default).From).toNat) (((S).getD (((b.Links.getD k default).From).toNat) 0) + (Ba.stAll [((b.Links.getD k default).Rate), ((b.Links.getD k default).Band.Lo), ((b.Links.getD k default).Band.Hi)]))).getD (((b.Links.getD k default).To).toNat) 0) + (Ba.slope ((b.Links.getD k default).BackNum) ((b.Links.getD k default).BackDen))) := by
      first
      | (exfalso; omega)
      | (unfold addL addF; first | rw [if_pos (by omega), if_pos (by omega)] | rw [if_pos (by omega), if_neg (by omega)] | rw [if_neg (by omega), if_pos (by omega)] | rw [if_neg (by omega), if_neg (by omega), if_pos (by omega)] | rw [if_neg (by omega), if_neg (by omega), if_neg (by omega)])
     exact Post.bk ⟨k + 1, (S.set (((b.Links.getD k default).From).toNat) (((S).getD (((b.Links.getD k default).From).toNat) 0) + (Ba.stAll [((b.Links.getD k default).Rate), ((b.Links.getD k default).Band.Lo), ((b.Links.getD k default).Band.Hi)]))).set (((b.Links.getD k default).To).toNat) (((S.set (((b.Links.getD k default).From).toNat) (((S).getD (((b.Links.getD k default).From).toNat) 0) + (Ba.stAll [((b.Links.getD k default).Rate), ((b.Links.getD k default).Band.Lo), ((b.Links.getD k default).Band.Hi)]))).getD (((b.Links.getD k default).To).toNat) 0) + (Ba.slope ((b.Links.getD k default).BackNum) ((b.Links.getD k default).BackDen))), rfl, rfl, rfl, (by omega), (by rw [← hadd]; exact Ba.foldl_snoc addL (slp0 b) (by omega) hS), (by rw [← hadd, addL_len]; exact hSl), (hB2.mono (by push_cast; omega))⟩
    ·
     simp [-List.getD_eq_getElem?_getD, -Array.length_toList] at hc4
     refine gs8 ?_
     have hS1l : (S.set (((b.Links.getD k default).From).toNat) (((S).getD (((b.Links.getD k default).From).toNat) 0) + (Ba.stAll [((b.Links.getD k default).Rate), ((b.Links.getD k default).Band.Lo), ((b.Links.getD k default).Band.Hi)]))).length = b.Places.length := by simp [hSl]
     have hB1 : Ba.Bnd (S.set (((b.Links.getD k default).From).toNat) (((S).getD (((b.Links.getD k default).From).toNat) 0) + (Ba.stAll [((b.Links.getD k default).Rate), ((b.Links.getD k default).Band.Lo), ((b.Links.getD k default).Band.Hi)]))) ((1099511627777 + 6597069766662 * (k : Int)) + 2199023255554) := hB.set (by omega) (by omega) (by omega)
     have hadd : addL S (b.Links.getD k default) = S.set (((b.Links.getD k default).From).toNat) (((S).getD (((b.Links.getD k default).From).toNat) 0) + (Ba.stAll [((b.Links.getD k default).Rate), ((b.Links.getD k default).Band.Lo), ((b.Links.getD k default).Band.Hi)])) := by
      first
      | (exfalso; omega)
      | (unfold addL addF; first | rw [if_pos (by omega), if_pos (by omega)] | rw [if_pos (by omega), if_neg (by omega)] | rw [if_neg (by omega), if_pos (by omega)] | rw [if_neg (by omega), if_neg (by omega), if_pos (by omega)] | rw [if_neg (by omega), if_neg (by omega), if_neg (by omega)])
     exact Post.bk ⟨k + 1, S.set (((b.Links.getD k default).From).toNat) (((S).getD (((b.Links.getD k default).From).toNat) 0) + (Ba.stAll [((b.Links.getD k default).Rate), ((b.Links.getD k default).Band.Lo), ((b.Links.getD k default).Band.Hi)])), rfl, rfl, rfl, (by omega), (by rw [← hadd]; exact Ba.foldl_snoc addL (slp0 b) (by omega) hS), (by rw [← hadd, addL_len]; exact hSl), (hB1.mono (by push_cast; omega))⟩
   ·
    simp [-List.getD_eq_getElem?_getD, -Array.length_toList] at hc3
    refine gs7 ?_
    refine AW.cond rfl (fun hc5 => ?_) fun hc5 => ?_
    ·
     simp [-List.getD_eq_getElem?_getD, -Array.length_toList] at hc5
     refine gs2 ?_
     refine AW.cond rfl (fun hc6 => ?_) fun hc6 => ?_
     ·
      simp [-List.getD_eq_getElem?_getD, -Array.length_toList] at hc6
      have hf1 := field_1 hlf.2.2.2 (by omega)
      have hsn := Ba.slope_rng (a := (b.Links.getD k default).Num) (d := (b.Links.getD k default).Den) hf1.1.1 hf1.2.1
      have hbF := hB (b.Links.getD k default).From.toNat
      have hB_0 := hB
      have r1_0 := r1
      have r3_0 := r3
      have r4_0 := r4
      have r5_0 := r5
      have r6_0 := r6
      have r7_0 := r7
      have r8_0 := r8
      have r9_0 := r9
      have hcr2_0 := hcr2
      have hsv4_0 := hsv4
      have hsv5_0 := hsv5
      have hsv6_0 := hsv6
      refine AW.draw (J0 := St ⟨w, Φ, []⟩ Φ [.blk b4 72 (cl72 (b.Links.getD k default) sv4 sv5 sv6), .row (.slice (some ⟨b2, 0, none⟩) b.Places.length b.Places.length) 3 1 b.Places.length (S.map (Value.int .i64)), .blk b1 31 (cl31 b v1 v3 v4 v5 v6 v7 v8 v9)]) [.q, .q, .q, .q, .q, .q, .q, .q, .q, .q, .q, .q, .e] [0, 1, 2, 3, 4, 5, 6, 7, 8, 9, 10, 11, 12] hmix (by kernel_rfl) ?_
      refine gs3 ?_
      refine DW.q (fun _ h => h) rfl (qa_ixZ rfl rfl isSl_mk (by omega) (by omega)) (DW.q (v := iV ((S).getD (((b.Links.getD k default).From).toNat) 0)) (fun _ h => h) rfl (q_load rfl uT3 rfl (Cell.rowInt 1 rfl (by omega))) ?_)
      refine gs4 ?_
      refine DW.c (fun _ h => h) rfl (fun w1 hw1 => slope_c w1 (Go.K.hp w1) (Hp.le_refl _) (by omega) (by omega)) rfl rfl ?_
      refine gs1 ?_
      refine DW.q (fun _ h => h) rfl (qa_ixZ rfl rfl isSl_mk (by omega) (by omega)) (DW.effn (J' := St ⟨w, Φ, []⟩ Φ [.blk b4 72 (cl72 (b.Links.getD k default) sv4 sv5 sv6), .row (.slice (some ⟨b2, 0, none⟩) b.Places.length b.Places.length) 3 1 b.Places.length ((S.set (((b.Links.getD k default).From).toNat) (((S).getD (((b.Links.getD k default).From).toNat) 0) + (Ba.slope ((b.Links.getD k default).Num) ((b.Links.getD k default).Den)))).map (Value.int .i64)), .blk b1 31 (cl31 b v1 v3 v4 v5 v6 v7 v8 v9)]) (fun h => absurd rfl h) (e_storeRow (v := iV (((S).getD (((b.Links.getD k default).From).toNat) 0) + (Ba.slope ((b.Links.getD k default).Num) ((b.Links.getD k default).Den)))) 1 rfl rfl rfl sz3 rfl rfl (by simp [-List.getD_eq_getElem?_getD]; omega) (splice_int (by omega)) rfl) ?_)
      refine gs8 ?_
      have hS1l : (S.set (((b.Links.getD k default).From).toNat) (((S).getD (((b.Links.getD k default).From).toNat) 0) + (Ba.slope ((b.Links.getD k default).Num) ((b.Links.getD k default).Den)))).length = b.Places.length := by simp [hSl]
      have hB1 : Ba.Bnd (S.set (((b.Links.getD k default).From).toNat) (((S).getD (((b.Links.getD k default).From).toNat) 0) + (Ba.slope ((b.Links.getD k default).Num) ((b.Links.getD k default).Den)))) ((1099511627777 + 6597069766662 * (k : Int)) + 2199023255554) := hB.set (by omega) (by omega) (by omega)
      have hadd : addL S (b.Links.getD k default) = S.set (((b.Links.getD k default).From).toNat) (((S).getD (((b.Links.getD k default).From).toNat) 0) + (Ba.slope ((b.Links.getD k default).Num) ((b.Links.getD k default).Den))) := by
       first
       | (exfalso; omega)
       | (unfold addL addF; first | rw [if_pos (by omega), if_pos (by omega)] | rw [if_pos (by omega), if_neg (by omega)] | rw [if_neg (by omega), if_pos (by omega)] | rw [if_neg (by omega), if_neg (by omega), if_pos (by omega)] | rw [if_neg (by omega), if_neg (by omega), if_neg (by omega)])
      exact Post.bk ⟨k + 1, S.set (((b.Links.getD k default).From).toNat) (((S).getD (((b.Links.getD k default).From).toNat) 0) + (Ba.slope ((b.Links.getD k default).Num) ((b.Links.getD k default).Den))), rfl, rfl, rfl, (by omega), (by rw [← hadd]; exact Ba.foldl_snoc addL (slp0 b) (by omega) hS), (by rw [← hadd, addL_len]; exact hSl), (hB1.mono (by push_cast; omega))⟩
     ·
      simp [-List.getD_eq_getElem?_getD, -Array.length_toList] at hc6
      refine gs6 ?_
      refine AW.cond rfl (fun hc7 => ?_) fun hc7 => ?_
      ·
       simp [-List.getD_eq_getElem?_getD, -Array.length_toList] at hc7
       refine gs1 ?_
       have hf4 := field_4 hlf.2.2.2 (by omega)
       have hsn := Ba.slope_rng (a := (b.Links.getD k default).Num) (d := (b.Links.getD k default).Den) hf4.1.1 hf4.2.1.1
       have hsb := Ba.slope_rng (a := (b.Links.getD k default).BackNum) (d := (b.Links.getD k default).BackDen) hf4.2.2.1.1 hf4.2.2.2.1.1
       have hbF := hB (b.Links.getD k default).From.toNat
       have hB_0 := hB
       have r1_0 := r1
       have r3_0 := r3
       have r4_0 := r4
       have r5_0 := r5
       have r6_0 := r6
       have r7_0 := r7
       have r8_0 := r8
       have r9_0 := r9
       have hcr2_0 := hcr2
       have hsv4_0 := hsv4
       have hsv5_0 := hsv5
       have hsv6_0 := hsv6
       refine AW.draw (J0 := St ⟨w, Φ, []⟩ Φ [.blk b4 72 (cl72 (b.Links.getD k default) sv4 sv5 sv6), .row (.slice (some ⟨b2, 0, none⟩) b.Places.length b.Places.length) 3 1 b.Places.length (S.map (Value.int .i64)), .blk b1 31 (cl31 b v1 v3 v4 v5 v6 v7 v8 v9)]) [.q, .q, .q, .q, .q, .q, .q, .q, .q, .q, .q, .q, .q, .e] [0, 1, 2, 3, 4, 5, 6, 7, 8, 9, 10, 11, 12, 13] hmix (by kernel_rfl) ?_
       refine gs3 ?_
       refine DW.q (fun _ h => h) rfl (qa_ixZ rfl rfl isSl_mk (by omega) (by omega)) (DW.q (v := iV ((S).getD (((b.Links.getD k default).From).toNat) 0)) (fun _ h => h) rfl (q_load rfl uT3 rfl (Cell.rowInt 1 rfl (by omega))) ?_)
       refine gs4 ?_
       refine DW.c (fun _ h => h) rfl (fun w1 hw1 => slope_c w1 (Go.K.hp w1) (Hp.le_refl _) (by omega) (by omega)) rfl rfl (DW.q (v := iV (2 * (Ba.slope ((b.Links.getD k default).Num) ((b.Links.getD k default).Den)))) (fun _ h => h) rfl (q_mul rfl rfl rfl (by unfold I64; omega)) ?_)
       refine gs1 ?_
       refine DW.q (fun _ h => h) rfl (qa_ixZ rfl rfl isSl_mk (by omega) (by omega)) (DW.effn (J' := St ⟨w, Φ, []⟩ Φ [.blk b4 72 (cl72 (b.Links.getD k default) sv4 sv5 sv6), .row (.slice (some ⟨b2, 0, none⟩) b.Places.length b.Places.length) 3 1 b.Places.length ((S.set (((b.Links.getD k default).From).toNat) (((S).getD (((b.Links.getD k default).From).toNat) 0) + (2 * (Ba.slope ((b.Links.getD k default).Num) ((b.Links.getD k default).Den))))).map (Value.int .i64)), .blk b1 31 (cl31 b v1 v3 v4 v5 v6 v7 v8 v9)]) (fun h => absurd rfl h) (e_storeRow (v := iV (((S).getD (((b.Links.getD k default).From).toNat) 0) + (2 * (Ba.slope ((b.Links.getD k default).Num) ((b.Links.getD k default).Den))))) 1 rfl rfl rfl sz3 rfl rfl (by simp [-List.getD_eq_getElem?_getD]; omega) (splice_int (by omega)) rfl) ?_)
       refine gs2 ?_
       have hS1l : (S.set (((b.Links.getD k default).From).toNat) (((S).getD (((b.Links.getD k default).From).toNat) 0) + (2 * (Ba.slope ((b.Links.getD k default).Num) ((b.Links.getD k default).Den))))).length = b.Places.length := by simp [hSl]
       have hB1 : Ba.Bnd (S.set (((b.Links.getD k default).From).toNat) (((S).getD (((b.Links.getD k default).From).toNat) 0) + (2 * (Ba.slope ((b.Links.getD k default).Num) ((b.Links.getD k default).Den))))) ((1099511627777 + 6597069766662 * (k : Int)) + 2199023255554) := hB.set (by omega) (by omega) (by omega)
       have hbT := hB1 (b.Links.getD k default).To.toNat
       have hB_0 := hB
       have r1_0 := r1
       have r3_0 := r3
       have r4_0 := r4
       have r5_0 := r5
       have r6_0 := r6
       have r7_0 := r7
       have r8_0 := r8
       have r9_0 := r9
       have hcr2_0 := hcr2
       have hsv4_0 := hsv4
       have hsv5_0 := hsv5
       have hsv6_0 := hsv6
       refine AW.draw (J0 := St ⟨w, Φ, []⟩ Φ [.blk b4 72 (cl72 (b.Links.getD k default) sv4 sv5 sv6), .row (.slice (some ⟨b2, 0, none⟩) b.Places.length b.Places.length) 3 1 b.Places.length ((S.set (((b.Links.getD k default).From).toNat) (((S).getD (((b.Links.getD k default).From).toNat) 0) + (2 * (Ba.slope ((b.Links.getD k default).Num) ((b.Links.getD k default).Den))))).map (Value.int .i64)), .blk b1 31 (cl31 b v1 v3 v4 v5 v6 v7 v8 v9)]) [.q, .q, .q, .q, .q, .q, .q, .q, .q, .q, .q, .q, .q, .e] [0, 1, 2, 3, 4, 5, 6, 7, 8, 9, 10, 11, 12, 13] hmix (by kernel_rfl) ?_
       refine gs3 ?_
       refine DW.q (fun _ h => h) rfl (qa_ixZ rfl rfl isSl_mk (by omega) (by omega)) (DW.q (v := iV ((S.set (((b.Links.getD k default).From).toNat) (((S).getD (((b.Links.getD k default).From).toNat) 0) + (2 * (Ba.slope ((b.Links.getD k default).Num) ((b.Links.getD k default).Den))))).getD (((b.Links.getD k default).To).toNat) 0)) (fun _ h => h) rfl (q_load rfl uT3 rfl (Cell.rowInt 1 rfl (by omega))) ?_)
       refine gs4 ?_
       refine DW.c (fun _ h => h) rfl (fun w1 hw1 => slope_c w1 (Go.K.hp w1) (Hp.le_refl _) (by omega) (by omega)) rfl rfl (DW.q (v := iV (2 * (Ba.slope ((b.Links.getD k default).BackNum) ((b.Links.getD k default).BackDen)))) (fun _ h => h) rfl (q_mul rfl rfl rfl (by unfold I64; omega)) ?_)
       refine gs1 ?_
       refine DW.q (fun _ h => h) rfl (qa_ixZ rfl rfl isSl_mk (by omega) (by omega)) (DW.effn (J' := St ⟨w, Φ, []⟩ Φ [.blk b4 72 (cl72 (b.Links.getD k default) sv4 sv5 sv6), .row (.slice (some ⟨b2, 0, none⟩) b.Places.length b.Places.length) 3 1 b.Places.length (((S.set (((b.Links.getD k default).From).toNat) (((S).getD (((b.Links.getD k default).From).toNat) 0) + (2 * (Ba.slope ((b.Links.getD k default).Num) ((b.Links.getD k default).Den))))).set (((b.Links.getD k default).To).toNat) (((S.set (((b.Links.getD k default).From).toNat) (((S).getD (((b.Links.getD k default).From).toNat) 0) + (2 * (Ba.slope ((b.Links.getD k default).Num) ((b.Links.getD k default).Den))))).getD (((b.Links.getD k default).To).toNat) 0) + (2 * (Ba.slope ((b.Links.getD k default).BackNum) ((b.Links.getD k default).BackDen))))).map (Value.int .i64)), .blk b1 31 (cl31 b v1 v3 v4 v5 v6 v7 v8 v9)]) (fun h => absurd rfl h) (e_storeRow (v := iV (((S.set (((b.Links.getD k default).From).toNat) (((S).getD (((b.Links.getD k default).From).toNat) 0) + (2 * (Ba.slope ((b.Links.getD k default).Num) ((b.Links.getD k default).Den))))).getD (((b.Links.getD k default).To).toNat) 0) + (2 * (Ba.slope ((b.Links.getD k default).BackNum) ((b.Links.getD k default).BackDen))))) 1 rfl rfl rfl sz3 rfl rfl (by simp [-List.getD_eq_getElem?_getD]; omega) (splice_int (by omega)) rfl) ?_)
       refine gs8 ?_
       have hB2 : Ba.Bnd ((S.set (((b.Links.getD k default).From).toNat) (((S).getD (((b.Links.getD k default).From).toNat) 0) + (2 * (Ba.slope ((b.Links.getD k default).Num) ((b.Links.getD k default).Den))))).set (((b.Links.getD k default).To).toNat) (((S.set (((b.Links.getD k default).From).toNat) (((S).getD (((b.Links.getD k default).From).toNat) 0) + (2 * (Ba.slope ((b.Links.getD k default).Num) ((b.Links.getD k default).Den))))).getD (((b.Links.getD k default).To).toNat) 0) + (2 * (Ba.slope ((b.Links.getD k default).BackNum) ((b.Links.getD k default).BackDen))))) ((1099511627777 + 6597069766662 * (k : Int)) + 4398046511108) := hB1.set (by omega) (by omega) (by omega)
       have hadd : addL S (b.Links.getD k default) = (S.set (((b.Links.getD k default).From).toNat) (((S).getD (((b.Links.getD k default).From).toNat) 0) + (2 * (Ba.slope ((b.Links.getD k default).Num) ((b.Links.getD k default).Den))))).set (((b.Links.getD k default).To).toNat) (((S.set (((b.Links.getD k default).From).toNat) (((S).getD (((b.Links.getD k default).From).toNat) 0) + (2 * (Ba.slope ((b.Links.getD k default).Num) ((b.Links.getD k default).Den))))).getD (((b.Links.getD k default).To).toNat) 0) + (2 * (Ba.slope ((b.Links.getD k default).BackNum) ((b.Links.getD k default).BackDen)))) := by
        first
        | (exfalso; omega)
        | (unfold addL addF; first | rw [if_pos (by omega), if_pos (by omega)] | rw [if_pos (by omega), if_neg (by omega)] | rw [if_neg (by omega), if_pos (by omega)] | rw [if_neg (by omega), if_neg (by omega), if_pos (by omega)] | rw [if_neg (by omega), if_neg (by omega), if_neg (by omega)])
       exact Post.bk ⟨k + 1, (S.set (((b.Links.getD k default).From).toNat) (((S).getD (((b.Links.getD k default).From).toNat) 0) + (2 * (Ba.slope ((b.Links.getD k default).Num) ((b.Links.getD k default).Den))))).set (((b.Links.getD k default).To).toNat) (((S.set (((b.Links.getD k default).From).toNat) (((S).getD (((b.Links.getD k default).From).toNat) 0) + (2 * (Ba.slope ((b.Links.getD k default).Num) ((b.Links.getD k default).Den))))).getD (((b.Links.getD k default).To).toNat) 0) + (2 * (Ba.slope ((b.Links.getD k default).BackNum) ((b.Links.getD k default).BackDen)))), rfl, rfl, rfl, (by omega), (by rw [← hadd]; exact Ba.foldl_snoc addL (slp0 b) (by omega) hS), (by rw [← hadd, addL_len]; exact hSl), (hB2.mono (by push_cast; omega))⟩
      ·
       simp [-List.getD_eq_getElem?_getD, -Array.length_toList] at hc7
       refine gs8 ?_
       have hadd : addL S (b.Links.getD k default) = S := by
        first
        | (exfalso; omega)
        | (unfold addL addF; first | rw [if_pos (by omega), if_pos (by omega)] | rw [if_pos (by omega), if_neg (by omega)] | rw [if_neg (by omega), if_pos (by omega)] | rw [if_neg (by omega), if_neg (by omega), if_pos (by omega)] | rw [if_neg (by omega), if_neg (by omega), if_neg (by omega)])
       exact Post.bk ⟨k + 1, S, rfl, rfl, rfl, (by omega), (by rw [← hadd]; exact Ba.foldl_snoc addL (slp0 b) (by omega) hS), (by rw [← hadd, addL_len]; exact hSl), (hB.mono (by push_cast; omega))⟩
    ·
     simp [-List.getD_eq_getElem?_getD, -Array.length_toList] at hc5
     refine gs6 ?_
     refine AW.cond rfl (fun hc8 => ?_) fun hc8 => ?_
     ·
      simp [-List.getD_eq_getElem?_getD, -Array.length_toList] at hc8
      refine gs2 ?_
      refine AW.cond rfl (fun hc9 => ?_) fun hc9 => ?_
      ·
       simp [-List.getD_eq_getElem?_getD, -Array.length_toList] at hc9
       have hf1 := field_1 hlf.2.2.2 (by omega)
       have hsn := Ba.slope_rng (a := (b.Links.getD k default).Num) (d := (b.Links.getD k default).Den) hf1.1.1 hf1.2.1
       have hbF := hB (b.Links.getD k default).From.toNat
       have hB_0 := hB
       have r1_0 := r1
       have r3_0 := r3
       have r4_0 := r4
       have r5_0 := r5
       have r6_0 := r6
       have r7_0 := r7
       have r8_0 := r8
       have r9_0 := r9
       have hcr2_0 := hcr2
       have hsv4_0 := hsv4
       have hsv5_0 := hsv5
       have hsv6_0 := hsv6
       refine AW.draw (J0 := St ⟨w, Φ, []⟩ Φ [.blk b4 72 (cl72 (b.Links.getD k default) sv4 sv5 sv6), .row (.slice (some ⟨b2, 0, none⟩) b.Places.length b.Places.length) 3 1 b.Places.length (S.map (Value.int .i64)), .blk b1 31 (cl31 b v1 v3 v4 v5 v6 v7 v8 v9)]) [.q, .q, .q, .q, .q, .q, .q, .q, .q, .q, .q, .q, .e] [0, 1, 2, 3, 4, 5, 6, 7, 8, 9, 10, 11, 12] hmix (by kernel_rfl) ?_
       refine gs3 ?_
       refine DW.q (fun _ h => h) rfl (qa_ixZ rfl rfl isSl_mk (by omega) (by omega)) (DW.q (v := iV ((S).getD (((b.Links.getD k default).From).toNat) 0)) (fun _ h => h) rfl (q_load rfl uT3 rfl (Cell.rowInt 1 rfl (by omega))) ?_)
       refine gs4 ?_
       refine DW.c (fun _ h => h) rfl (fun w1 hw1 => slope_c w1 (Go.K.hp w1) (Hp.le_refl _) (by omega) (by omega)) rfl rfl ?_
       refine gs1 ?_
       refine DW.q (fun _ h => h) rfl (qa_ixZ rfl rfl isSl_mk (by omega) (by omega)) (DW.effn (J' := St ⟨w, Φ, []⟩ Φ [.blk b4 72 (cl72 (b.Links.getD k default) sv4 sv5 sv6), .row (.slice (some ⟨b2, 0, none⟩) b.Places.length b.Places.length) 3 1 b.Places.length ((S.set (((b.Links.getD k default).From).toNat) (((S).getD (((b.Links.getD k default).From).toNat) 0) + (Ba.slope ((b.Links.getD k default).Num) ((b.Links.getD k default).Den)))).map (Value.int .i64)), .blk b1 31 (cl31 b v1 v3 v4 v5 v6 v7 v8 v9)]) (fun h => absurd rfl h) (e_storeRow (v := iV (((S).getD (((b.Links.getD k default).From).toNat) 0) + (Ba.slope ((b.Links.getD k default).Num) ((b.Links.getD k default).Den)))) 1 rfl rfl rfl sz3 rfl rfl (by simp [-List.getD_eq_getElem?_getD]; omega) (splice_int (by omega)) rfl) ?_)
       refine gs8 ?_
       have hS1l : (S.set (((b.Links.getD k default).From).toNat) (((S).getD (((b.Links.getD k default).From).toNat) 0) + (Ba.slope ((b.Links.getD k default).Num) ((b.Links.getD k default).Den)))).length = b.Places.length := by simp [hSl]
       have hB1 : Ba.Bnd (S.set (((b.Links.getD k default).From).toNat) (((S).getD (((b.Links.getD k default).From).toNat) 0) + (Ba.slope ((b.Links.getD k default).Num) ((b.Links.getD k default).Den)))) ((1099511627777 + 6597069766662 * (k : Int)) + 2199023255554) := hB.set (by omega) (by omega) (by omega)
       have hadd : addL S (b.Links.getD k default) = S.set (((b.Links.getD k default).From).toNat) (((S).getD (((b.Links.getD k default).From).toNat) 0) + (Ba.slope ((b.Links.getD k default).Num) ((b.Links.getD k default).Den))) := by
        first
        | (exfalso; omega)
        | (unfold addL addF; first | rw [if_pos (by omega), if_pos (by omega)] | rw [if_pos (by omega), if_neg (by omega)] | rw [if_neg (by omega), if_pos (by omega)] | rw [if_neg (by omega), if_neg (by omega), if_pos (by omega)] | rw [if_neg (by omega), if_neg (by omega), if_neg (by omega)])
       exact Post.bk ⟨k + 1, S.set (((b.Links.getD k default).From).toNat) (((S).getD (((b.Links.getD k default).From).toNat) 0) + (Ba.slope ((b.Links.getD k default).Num) ((b.Links.getD k default).Den))), rfl, rfl, rfl, (by omega), (by rw [← hadd]; exact Ba.foldl_snoc addL (slp0 b) (by omega) hS), (by rw [← hadd, addL_len]; exact hSl), (hB1.mono (by push_cast; omega))⟩
      ·
       simp [-List.getD_eq_getElem?_getD, -Array.length_toList] at hc9
       refine gs6 ?_
       refine AW.cond rfl (fun hc10 => ?_) fun hc10 => ?_
       ·
        simp [-List.getD_eq_getElem?_getD, -Array.length_toList] at hc10
        refine gs1 ?_
        have hf4 := field_4 hlf.2.2.2 (by omega)
        have hsn := Ba.slope_rng (a := (b.Links.getD k default).Num) (d := (b.Links.getD k default).Den) hf4.1.1 hf4.2.1.1
        have hsb := Ba.slope_rng (a := (b.Links.getD k default).BackNum) (d := (b.Links.getD k default).BackDen) hf4.2.2.1.1 hf4.2.2.2.1.1
        have hbF := hB (b.Links.getD k default).From.toNat
        have hB_0 := hB
        have r1_0 := r1
        have r3_0 := r3
        have r4_0 := r4
        have r5_0 := r5
        have r6_0 := r6
        have r7_0 := r7
        have r8_0 := r8
        have r9_0 := r9
        have hcr2_0 := hcr2
        have hsv4_0 := hsv4
        have hsv5_0 := hsv5
        have hsv6_0 := hsv6
        refine AW.draw (J0 := St ⟨w, Φ, []⟩ Φ [.blk b4 72 (cl72 (b.Links.getD k default) sv4 sv5 sv6), .row (.slice (some ⟨b2, 0, none⟩) b.Places.length b.Places.length) 3 1 b.Places.length (S.map (Value.int .i64)), .blk b1 31 (cl31 b v1 v3 v4 v5 v6 v7 v8 v9)]) [.q, .q, .q, .q, .q, .q, .q, .q, .q, .q, .q, .q, .q, .e] [0, 1, 2, 3, 4, 5, 6, 7, 8, 9, 10, 11, 12, 13] hmix (by kernel_rfl) ?_
        refine gs3 ?_
        refine DW.q (fun _ h => h) rfl (qa_ixZ rfl rfl isSl_mk (by omega) (by omega)) (DW.q (v := iV ((S).getD (((b.Links.getD k default).From).toNat) 0)) (fun _ h => h) rfl (q_load rfl uT3 rfl (Cell.rowInt 1 rfl (by omega))) ?_)
        refine gs4 ?_
        refine DW.c (fun _ h => h) rfl (fun w1 hw1 => slope_c w1 (Go.K.hp w1) (Hp.le_refl _) (by omega) (by omega)) rfl rfl (DW.q (v := iV (2 * (Ba.slope ((b.Links.getD k default).Num) ((b.Links.getD k default).Den)))) (fun _ h => h) rfl (q_mul rfl rfl rfl (by unfold I64; omega)) ?_)
        refine gs1 ?_
        refine DW.q (fun _ h => h) rfl (qa_ixZ rfl rfl isSl_mk (by omega) (by omega)) (DW.effn (J' := St ⟨w, Φ, []⟩ Φ [.blk b4 72 (cl72 (b.Links.getD k default) sv4 sv5 sv6), .row (.slice (some ⟨b2, 0, none⟩) b.Places.length b.Places.length) 3 1 b.Places.length ((S.set (((b.Links.getD k default).From).toNat) (((S).getD (((b.Links.getD k default).From).toNat) 0) + (2 * (Ba.slope ((b.Links.getD k default).Num) ((b.Links.getD k default).Den))))).map (Value.int .i64)), .blk b1 31 (cl31 b v1 v3 v4 v5 v6 v7 v8 v9)]) (fun h => absurd rfl h) (e_storeRow (v := iV (((S).getD (((b.Links.getD k default).From).toNat) 0) + (2 * (Ba.slope ((b.Links.getD k default).Num) ((b.Links.getD k default).Den))))) 1 rfl rfl rfl sz3 rfl rfl (by simp [-List.getD_eq_getElem?_getD]; omega) (splice_int (by omega)) rfl) ?_)
        refine gs2 ?_
        have hS1l : (S.set (((b.Links.getD k default).From).toNat) (((S).getD (((b.Links.getD k default).From).toNat) 0) + (2 * (Ba.slope ((b.Links.getD k default).Num) ((b.Links.getD k default).Den))))).length = b.Places.length := by simp [hSl]
        have hB1 : Ba.Bnd (S.set (((b.Links.getD k default).From).toNat) (((S).getD (((b.Links.getD k default).From).toNat) 0) + (2 * (Ba.slope ((b.Links.getD k default).Num) ((b.Links.getD k default).Den))))) ((1099511627777 + 6597069766662 * (k : Int)) + 2199023255554) := hB.set (by omega) (by omega) (by omega)
        have hbT := hB1 (b.Links.getD k default).To.toNat
        have hB_0 := hB
        have r1_0 := r1
        have r3_0 := r3
        have r4_0 := r4
        have r5_0 := r5
        have r6_0 := r6
        have r7_0 := r7
        have r8_0 := r8
        have r9_0 := r9
        have hcr2_0 := hcr2
        have hsv4_0 := hsv4
        have hsv5_0 := hsv5
        have hsv6_0 := hsv6
        refine AW.draw (J0 := St ⟨w, Φ, []⟩ Φ [.blk b4 72 (cl72 (b.Links.getD k default) sv4 sv5 sv6), .row (.slice (some ⟨b2, 0, none⟩) b.Places.length b.Places.length) 3 1 b.Places.length ((S.set (((b.Links.getD k default).From).toNat) (((S).getD (((b.Links.getD k default).From).toNat) 0) + (2 * (Ba.slope ((b.Links.getD k default).Num) ((b.Links.getD k default).Den))))).map (Value.int .i64)), .blk b1 31 (cl31 b v1 v3 v4 v5 v6 v7 v8 v9)]) [.q, .q, .q, .q, .q, .q, .q, .q, .q, .q, .q, .q, .q, .e] [0, 1, 2, 3, 4, 5, 6, 7, 8, 9, 10, 11, 12, 13] hmix (by kernel_rfl) ?_
        refine gs3 ?_
        refine DW.q (fun _ h => h) rfl (qa_ixZ rfl rfl isSl_mk (by omega) (by omega)) (DW.q (v := iV ((S.set (((b.Links.getD k default).From).toNat) (((S).getD (((b.Links.getD k default).From).toNat) 0) + (2 * (Ba.slope ((b.Links.getD k default).Num) ((b.Links.getD k default).Den))))).getD (((b.Links.getD k default).To).toNat) 0)) (fun _ h => h) rfl (q_load rfl uT3 rfl (Cell.rowInt 1 rfl (by omega))) ?_)
        refine gs4 ?_
        refine DW.c (fun _ h => h) rfl (fun w1 hw1 => slope_c w1 (Go.K.hp w1) (Hp.le_refl _) (by omega) (by omega)) rfl rfl (DW.q (v := iV (2 * (Ba.slope ((b.Links.getD k default).BackNum) ((b.Links.getD k default).BackDen)))) (fun _ h => h) rfl (q_mul rfl rfl rfl (by unfold I64; omega)) ?_)
        refine gs1 ?_
        refine DW.q (fun _ h => h) rfl (qa_ixZ rfl rfl isSl_mk (by omega) (by omega)) (DW.effn (J' := St ⟨w, Φ, []⟩ Φ [.blk b4 72 (cl72 (b.Links.getD k default) sv4 sv5 sv6), .row (.slice (some ⟨b2, 0, none⟩) b.Places.length b.Places.length) 3 1 b.Places.length (((S.set (((b.Links.getD k default).From).toNat) (((S).getD (((b.Links.getD k default).From).toNat) 0) + (2 * (Ba.slope ((b.Links.getD k default).Num) ((b.Links.getD k default).Den))))).set (((b.Links.getD k default).To).toNat) (((S.set (((b.Links.getD k default).From).toNat) (((S).getD (((b.Links.getD k default).From).toNat) 0) + (2 * (Ba.slope ((b.Links.getD k default).Num) ((b.Links.getD k default).Den))))).getD (((b.Links.getD k default).To).toNat) 0) + (2 * (Ba.slope ((b.Links.getD k default).BackNum) ((b.Links.getD k default).BackDen))))).map (Value.int .i64)), .blk b1 31 (cl31 b v1 v3 v4 v5 v6 v7 v8 v9)]) (fun h => absurd rfl h) (e_storeRow (v := iV (((S.set (((b.Links.getD k default).From).toNat) (((S).getD (((b.Links.getD k default).From).toNat) 0) + (2 * (Ba.slope ((b.Links.getD k default).Num) ((b.Links.getD k default).Den))))).getD (((b.Links.getD k default).To).toNat) 0) + (2 * (Ba.slope ((b.Links.getD k default).BackNum) ((b.Links.getD k default).BackDen))))) 1 rfl rfl rfl sz3 rfl rfl (by simp [-List.getD_eq_getElem?_getD]; omega) (splice_int (by omega)) rfl) ?_)
        refine gs8 ?_
        have hB2 : Ba.Bnd ((S.set (((b.Links.getD k default).From).toNat) (((S).getD (((b.Links.getD k default).From).toNat) 0) + (2 * (Ba.slope ((b.Links.getD k default).Num) ((b.Links.getD k default).Den))))).set (((b.Links.getD k default).To).toNat) (((S.set (((b.Links.getD k default).From).toNat) (((S).getD (((b.Links.getD k default).From).toNat) 0) + (2 * (Ba.slope ((b.Links.getD k default).Num) ((b.Links.getD k default).Den))))).getD (((b.Links.getD k default).To).toNat) 0) + (2 * (Ba.slope ((b.Links.getD k default).BackNum) ((b.Links.getD k default).BackDen))))) ((1099511627777 + 6597069766662 * (k : Int)) + 4398046511108) := hB1.set (by omega) (by omega) (by omega)
        have hadd : addL S (b.Links.getD k default) = (S.set (((b.Links.getD k default).From).toNat) (((S).getD (((b.Links.getD k default).From).toNat) 0) + (2 * (Ba.slope ((b.Links.getD k default).Num) ((b.Links.getD k default).Den))))).set (((b.Links.getD k default).To).toNat) (((S.set (((b.Links.getD k default).From).toNat) (((S).getD (((b.Links.getD k default).From).toNat) 0) + (2 * (Ba.slope ((b.Links.getD k default).Num) ((b.Links.getD k default).Den))))).getD (((b.Links.getD k default).To).toNat) 0) + (2 * (Ba.slope ((b.Links.getD k default).BackNum) ((b.Links.getD k default).BackDen)))) := by
         first
         | (exfalso; omega)
         | (unfold addL addF; first | rw [if_pos (by omega), if_pos (by omega)] | rw [if_pos (by omega), if_neg (by omega)] | rw [if_neg (by omega), if_pos (by omega)] | rw [if_neg (by omega), if_neg (by omega), if_pos (by omega)] | rw [if_neg (by omega), if_neg (by omega), if_neg (by omega)])
        exact Post.bk ⟨k + 1, (S.set (((b.Links.getD k default).From).toNat) (((S).getD (((b.Links.getD k default).From).toNat) 0) + (2 * (Ba.slope ((b.Links.getD k default).Num) ((b.Links.getD k default).Den))))).set (((b.Links.getD k default).To).toNat) (((S.set (((b.Links.getD k default).From).toNat) (((S).getD (((b.Links.getD k default).From).toNat) 0) + (2 * (Ba.slope ((b.Links.getD k default).Num) ((b.Links.getD k default).Den))))).getD (((b.Links.getD k default).To).toNat) 0) + (2 * (Ba.slope ((b.Links.getD k default).BackNum) ((b.Links.getD k default).BackDen)))), rfl, rfl, rfl, (by omega), (by rw [← hadd]; exact Ba.foldl_snoc addL (slp0 b) (by omega) hS), (by rw [← hadd, addL_len]; exact hSl), (hB2.mono (by push_cast; omega))⟩
       ·
        simp [-List.getD_eq_getElem?_getD, -Array.length_toList] at hc10
        refine gs8 ?_
        have hadd : addL S (b.Links.getD k default) = S := by
         first
         | (exfalso; omega)
         | (unfold addL addF; first | rw [if_pos (by omega), if_pos (by omega)] | rw [if_pos (by omega), if_neg (by omega)] | rw [if_neg (by omega), if_pos (by omega)] | rw [if_neg (by omega), if_neg (by omega), if_pos (by omega)] | rw [if_neg (by omega), if_neg (by omega), if_neg (by omega)])
        exact Post.bk ⟨k + 1, S, rfl, rfl, rfl, (by omega), (by rw [← hadd]; exact Ba.foldl_snoc addL (slp0 b) (by omega) hS), (by rw [← hadd, addL_len]; exact hSl), (hB.mono (by push_cast; omega))⟩
     ·
      simp [-List.getD_eq_getElem?_getD, -Array.length_toList] at hc8
      refine gs5 ?_
      refine AW.cond rfl (fun hc11 => ?_) fun hc11 => ?_
      ·
       simp [-List.getD_eq_getElem?_getD, -Array.length_toList] at hc11
       have hf1 := field_1 hlf.2.2.2 (by omega)
       have hsn := Ba.slope_rng (a := (b.Links.getD k default).Num) (d := (b.Links.getD k default).Den) hf1.1.1 hf1.2.1
       have hbF := hB (b.Links.getD k default).From.toNat
       have hB_0 := hB
       have r1_0 := r1
       have r3_0 := r3
       have r4_0 := r4
       have r5_0 := r5
       have r6_0 := r6
       have r7_0 := r7
       have r8_0 := r8
       have r9_0 := r9
       have hcr2_0 := hcr2
       have hsv4_0 := hsv4
       have hsv5_0 := hsv5
       have hsv6_0 := hsv6
       refine AW.draw (J0 := St ⟨w, Φ, []⟩ Φ [.blk b4 72 (cl72 (b.Links.getD k default) sv4 sv5 sv6), .row (.slice (some ⟨b2, 0, none⟩) b.Places.length b.Places.length) 3 1 b.Places.length (S.map (Value.int .i64)), .blk b1 31 (cl31 b v1 v3 v4 v5 v6 v7 v8 v9)]) [.q, .q, .q, .q, .q, .q, .q, .q, .q, .q, .q, .q, .e] [0, 1, 2, 3, 4, 5, 6, 7, 8, 9, 10, 11, 12] hmix (by kernel_rfl) ?_
       refine gs3 ?_
       refine DW.q (fun _ h => h) rfl (qa_ixZ rfl rfl isSl_mk (by omega) (by omega)) (DW.q (v := iV ((S).getD (((b.Links.getD k default).From).toNat) 0)) (fun _ h => h) rfl (q_load rfl uT3 rfl (Cell.rowInt 1 rfl (by omega))) ?_)
       refine gs4 ?_
       refine DW.c (fun _ h => h) rfl (fun w1 hw1 => slope_c w1 (Go.K.hp w1) (Hp.le_refl _) (by omega) (by omega)) rfl rfl ?_
       refine gs1 ?_
       refine DW.q (fun _ h => h) rfl (qa_ixZ rfl rfl isSl_mk (by omega) (by omega)) (DW.effn (J' := St ⟨w, Φ, []⟩ Φ [.blk b4 72 (cl72 (b.Links.getD k default) sv4 sv5 sv6), .row (.slice (some ⟨b2, 0, none⟩) b.Places.length b.Places.length) 3 1 b.Places.length ((S.set (((b.Links.getD k default).From).toNat) (((S).getD (((b.Links.getD k default).From).toNat) 0) + (Ba.slope ((b.Links.getD k default).Num) ((b.Links.getD k default).Den)))).map (Value.int .i64)), .blk b1 31 (cl31 b v1 v3 v4 v5 v6 v7 v8 v9)]) (fun h => absurd rfl h) (e_storeRow (v := iV (((S).getD (((b.Links.getD k default).From).toNat) 0) + (Ba.slope ((b.Links.getD k default).Num) ((b.Links.getD k default).Den)))) 1 rfl rfl rfl sz3 rfl rfl (by simp [-List.getD_eq_getElem?_getD]; omega) (splice_int (by omega)) rfl) ?_)
       refine gs8 ?_
       have hS1l : (S.set (((b.Links.getD k default).From).toNat) (((S).getD (((b.Links.getD k default).From).toNat) 0) + (Ba.slope ((b.Links.getD k default).Num) ((b.Links.getD k default).Den)))).length = b.Places.length := by simp [hSl]
       have hB1 : Ba.Bnd (S.set (((b.Links.getD k default).From).toNat) (((S).getD (((b.Links.getD k default).From).toNat) 0) + (Ba.slope ((b.Links.getD k default).Num) ((b.Links.getD k default).Den)))) ((1099511627777 + 6597069766662 * (k : Int)) + 2199023255554) := hB.set (by omega) (by omega) (by omega)
       have hadd : addL S (b.Links.getD k default) = S.set (((b.Links.getD k default).From).toNat) (((S).getD (((b.Links.getD k default).From).toNat) 0) + (Ba.slope ((b.Links.getD k default).Num) ((b.Links.getD k default).Den))) := by
        first
        | (exfalso; omega)
        | (unfold addL addF; first | rw [if_pos (by omega), if_pos (by omega)] | rw [if_pos (by omega), if_neg (by omega)] | rw [if_neg (by omega), if_pos (by omega)] | rw [if_neg (by omega), if_neg (by omega), if_pos (by omega)] | rw [if_neg (by omega), if_neg (by omega), if_neg (by omega)])
       exact Post.bk ⟨k + 1, S.set (((b.Links.getD k default).From).toNat) (((S).getD (((b.Links.getD k default).From).toNat) 0) + (Ba.slope ((b.Links.getD k default).Num) ((b.Links.getD k default).Den))), rfl, rfl, rfl, (by omega), (by rw [← hadd]; exact Ba.foldl_snoc addL (slp0 b) (by omega) hS), (by rw [← hadd, addL_len]; exact hSl), (hB1.mono (by push_cast; omega))⟩
      ·
       simp [-List.getD_eq_getElem?_getD, -Array.length_toList] at hc11
       refine gs6 ?_
       refine AW.cond rfl (fun hc12 => ?_) fun hc12 => ?_
       ·
        simp [-List.getD_eq_getElem?_getD, -Array.length_toList] at hc12
        refine gs1 ?_
        have hf4 := field_4 hlf.2.2.2 (by omega)
        have hsn := Ba.slope_rng (a := (b.Links.getD k default).Num) (d := (b.Links.getD k default).Den) hf4.1.1 hf4.2.1.1
        have hsb := Ba.slope_rng (a := (b.Links.getD k default).BackNum) (d := (b.Links.getD k default).BackDen) hf4.2.2.1.1 hf4.2.2.2.1.1
        have hbF := hB (b.Links.getD k default).From.toNat
        have hB_0 := hB
        have r1_0 := r1
        have r3_0 := r3
        have r4_0 := r4
        have r5_0 := r5
        have r6_0 := r6
        have r7_0 := r7
        have r8_0 := r8
        have r9_0 := r9
        have hcr2_0 := hcr2
        have hsv4_0 := hsv4
        have hsv5_0 := hsv5
        have hsv6_0 := hsv6
        refine AW.draw (J0 := St ⟨w, Φ, []⟩ Φ [.blk b4 72 (cl72 (b.Links.getD k default) sv4 sv5 sv6), .row (.slice (some ⟨b2, 0, none⟩) b.Places.length b.Places.length) 3 1 b.Places.length (S.map (Value.int .i64)), .blk b1 31 (cl31 b v1 v3 v4 v5 v6 v7 v8 v9)]) [.q, .q, .q, .q, .q, .q, .q, .q, .q, .q, .q, .q, .q, .e] [0, 1, 2, 3, 4, 5, 6, 7, 8, 9, 10, 11, 12, 13] hmix (by kernel_rfl) ?_
        refine gs3 ?_
        refine DW.q (fun _ h => h) rfl (qa_ixZ rfl rfl isSl_mk (by omega) (by omega)) (DW.q (v := iV ((S).getD (((b.Links.getD k default).From).toNat) 0)) (fun _ h => h) rfl (q_load rfl uT3 rfl (Cell.rowInt 1 rfl (by omega))) ?_)
        refine gs4 ?_
        refine DW.c (fun _ h => h) rfl (fun w1 hw1 => slope_c w1 (Go.K.hp w1) (Hp.le_refl _) (by omega) (by omega)) rfl rfl (DW.q (v := iV (2 * (Ba.slope ((b.Links.getD k default).Num) ((b.Links.getD k default).Den)))) (fun _ h => h) rfl (q_mul rfl rfl rfl (by unfold I64; omega)) ?_)
        refine gs1 ?_
        refine DW.q (fun _ h => h) rfl (qa_ixZ rfl rfl isSl_mk (by omega) (by omega)) (DW.effn (J' := St ⟨w, Φ, []⟩ Φ [.blk b4 72 (cl72 (b.Links.getD k default) sv4 sv5 sv6), .row (.slice (some ⟨b2, 0, none⟩) b.Places.length b.Places.length) 3 1 b.Places.length ((S.set (((b.Links.getD k default).From).toNat) (((S).getD (((b.Links.getD k default).From).toNat) 0) + (2 * (Ba.slope ((b.Links.getD k default).Num) ((b.Links.getD k default).Den))))).map (Value.int .i64)), .blk b1 31 (cl31 b v1 v3 v4 v5 v6 v7 v8 v9)]) (fun h => absurd rfl h) (e_storeRow (v := iV (((S).getD (((b.Links.getD k default).From).toNat) 0) + (2 * (Ba.slope ((b.Links.getD k default).Num) ((b.Links.getD k default).Den))))) 1 rfl rfl rfl sz3 rfl rfl (by simp [-List.getD_eq_getElem?_getD]; omega) (splice_int (by omega)) rfl) ?_)
        refine gs2 ?_
        have hS1l : (S.set (((b.Links.getD k default).From).toNat) (((S).getD (((b.Links.getD k default).From).toNat) 0) + (2 * (Ba.slope ((b.Links.getD k default).Num) ((b.Links.getD k default).Den))))).length = b.Places.length := by simp [hSl]
        have hB1 : Ba.Bnd (S.set (((b.Links.getD k default).From).toNat) (((S).getD (((b.Links.getD k default).From).toNat) 0) + (2 * (Ba.slope ((b.Links.getD k default).Num) ((b.Links.getD k default).Den))))) ((1099511627777 + 6597069766662 * (k : Int)) + 2199023255554) := hB.set (by omega) (by omega) (by omega)
        have hbT := hB1 (b.Links.getD k default).To.toNat
        have hB_0 := hB
        have r1_0 := r1
        have r3_0 := r3
        have r4_0 := r4
        have r5_0 := r5
        have r6_0 := r6
        have r7_0 := r7
        have r8_0 := r8
        have r9_0 := r9
        have hcr2_0 := hcr2
        have hsv4_0 := hsv4
        have hsv5_0 := hsv5
        have hsv6_0 := hsv6
        refine AW.draw (J0 := St ⟨w, Φ, []⟩ Φ [.blk b4 72 (cl72 (b.Links.getD k default) sv4 sv5 sv6), .row (.slice (some ⟨b2, 0, none⟩) b.Places.length b.Places.length) 3 1 b.Places.length ((S.set (((b.Links.getD k default).From).toNat) (((S).getD (((b.Links.getD k default).From).toNat) 0) + (2 * (Ba.slope ((b.Links.getD k default).Num) ((b.Links.getD k default).Den))))).map (Value.int .i64)), .blk b1 31 (cl31 b v1 v3 v4 v5 v6 v7 v8 v9)]) [.q, .q, .q, .q, .q, .q, .q, .q, .q, .q, .q, .q, .q, .e] [0, 1, 2, 3, 4, 5, 6, 7, 8, 9, 10, 11, 12, 13] hmix (by kernel_rfl) ?_
        refine gs3 ?_
        refine DW.q (fun _ h => h) rfl (qa_ixZ rfl rfl isSl_mk (by omega) (by omega)) (DW.q (v := iV ((S.set (((b.Links.getD k default).From).toNat) (((S).getD (((b.Links.getD k default).From).toNat) 0) + (2 * (Ba.slope ((b.Links.getD k default).Num) ((b.Links.getD k default).Den))))).getD (((b.Links.getD k default).To).toNat) 0)) (fun _ h => h) rfl (q_load rfl uT3 rfl (Cell.rowInt 1 rfl (by omega))) ?_)
        refine gs4 ?_
        refine DW.c (fun _ h => h) rfl (fun w1 hw1 => slope_c w1 (Go.K.hp w1) (Hp.le_refl _) (by omega) (by omega)) rfl rfl (DW.q (v := iV (2 * (Ba.slope ((b.Links.getD k default).BackNum) ((b.Links.getD k default).BackDen)))) (fun _ h => h) rfl (q_mul rfl rfl rfl (by unfold I64; omega)) ?_)
        refine gs1 ?_
        refine DW.q (fun _ h => h) rfl (qa_ixZ rfl rfl isSl_mk (by omega) (by omega)) (DW.effn (J' := St ⟨w, Φ, []⟩ Φ [.blk b4 72 (cl72 (b.Links.getD k default) sv4 sv5 sv6), .row (.slice (some ⟨b2, 0, none⟩) b.Places.length b.Places.length) 3 1 b.Places.length (((S.set (((b.Links.getD k default).From).toNat) (((S).getD (((b.Links.getD k default).From).toNat) 0) + (2 * (Ba.slope ((b.Links.getD k default).Num) ((b.Links.getD k default).Den))))).set (((b.Links.getD k default).To).toNat) (((S.set (((b.Links.getD k default).From).toNat) (((S).getD (((b.Links.getD k default).From).toNat) 0) + (2 * (Ba.slope ((b.Links.getD k default).Num) ((b.Links.getD k default).Den))))).getD (((b.Links.getD k default).To).toNat) 0) + (2 * (Ba.slope ((b.Links.getD k default).BackNum) ((b.Links.getD k default).BackDen))))).map (Value.int .i64)), .blk b1 31 (cl31 b v1 v3 v4 v5 v6 v7 v8 v9)]) (fun h => absurd rfl h) (e_storeRow (v := iV (((S.set (((b.Links.getD k default).From).toNat) (((S).getD (((b.Links.getD k default).From).toNat) 0) + (2 * (Ba.slope ((b.Links.getD k default).Num) ((b.Links.getD k default).Den))))).getD (((b.Links.getD k default).To).toNat) 0) + (2 * (Ba.slope ((b.Links.getD k default).BackNum) ((b.Links.getD k default).BackDen))))) 1 rfl rfl rfl sz3 rfl rfl (by simp [-List.getD_eq_getElem?_getD]; omega) (splice_int (by omega)) rfl) ?_)
        refine gs8 ?_
        have hB2 : Ba.Bnd ((S.set (((b.Links.getD k default).From).toNat) (((S).getD (((b.Links.getD k default).From).toNat) 0) + (2 * (Ba.slope ((b.Links.getD k default).Num) ((b.Links.getD k default).Den))))).set (((b.Links.getD k default).To).toNat) (((S.set (((b.Links.getD k default).From).toNat) (((S).getD (((b.Links.getD k default).From).toNat) 0) + (2 * (Ba.slope ((b.Links.getD k default).Num) ((b.Links.getD k default).Den))))).getD (((b.Links.getD k default).To).toNat) 0) + (2 * (Ba.slope ((b.Links.getD k default).BackNum) ((b.Links.getD k default).BackDen))))) ((1099511627777 + 6597069766662 * (k : Int)) + 4398046511108) := hB1.set (by omega) (by omega) (by omega)
        have hadd : addL S (b.Links.getD k default) = (S.set (((b.Links.getD k default).From).toNat) (((S).getD (((b.Links.getD k default).From).toNat) 0) + (2 * (Ba.slope ((b.Links.getD k default).Num) ((b.Links.getD k default).Den))))).set (((b.Links.getD k default).To).toNat) (((S.set (((b.Links.getD k default).From).toNat) (((S).getD (((b.Links.getD k default).From).toNat) 0) + (2 * (Ba.slope ((b.Links.getD k default).Num) ((b.Links.getD k default).Den))))).getD (((b.Links.getD k default).To).toNat) 0) + (2 * (Ba.slope ((b.Links.getD k default).BackNum) ((b.Links.getD k default).BackDen)))) := by
         first
         | (exfalso; omega)
         | (unfold addL addF; first | rw [if_pos (by omega), if_pos (by omega)] | rw [if_pos (by omega), if_neg (by omega)] | rw [if_neg (by omega), if_pos (by omega)] | rw [if_neg (by omega), if_neg (by omega), if_pos (by omega)] | rw [if_neg (by omega), if_neg (by omega), if_neg (by omega)])
        exact Post.bk ⟨k + 1, (S.set (((b.Links.getD k default).From).toNat) (((S).getD (((b.Links.getD k default).From).toNat) 0) + (2 * (Ba.slope ((b.Links.getD k default).Num) ((b.Links.getD k default).Den))))).set (((b.Links.getD k default).To).toNat) (((S.set (((b.Links.getD k default).From).toNat) (((S).getD (((b.Links.getD k default).From).toNat) 0) + (2 * (Ba.slope ((b.Links.getD k default).Num) ((b.Links.getD k default).Den))))).getD (((b.Links.getD k default).To).toNat) 0) + (2 * (Ba.slope ((b.Links.getD k default).BackNum) ((b.Links.getD k default).BackDen)))), rfl, rfl, rfl, (by omega), (by rw [← hadd]; exact Ba.foldl_snoc addL (slp0 b) (by omega) hS), (by rw [← hadd, addL_len]; exact hSl), (hB2.mono (by push_cast; omega))⟩
       ·
        simp [-List.getD_eq_getElem?_getD, -Array.length_toList] at hc12
        refine gs8 ?_
        have hadd : addL S (b.Links.getD k default) = S := by
         first
         | (exfalso; omega)
         | (unfold addL addF; first | rw [if_pos (by omega), if_pos (by omega)] | rw [if_pos (by omega), if_neg (by omega)] | rw [if_neg (by omega), if_pos (by omega)] | rw [if_neg (by omega), if_neg (by omega), if_pos (by omega)] | rw [if_neg (by omega), if_neg (by omega), if_neg (by omega)])
        exact Post.bk ⟨k + 1, S, rfl, rfl, rfl, (by omega), (by rw [← hadd]; exact Ba.foldl_snoc addL (slp0 b) (by omega) hS), (by rw [← hadd, addL_len]; exact hSl), (hB.mono (by push_cast; omega))⟩
  ·
   simp [-List.getD_eq_getElem?_getD, -Array.length_toList] at hc2
   refine gs14 ?_
   have hSe : S = sumsB b := by rw [hS, List.take_of_length_le (by omega)]; rfl
   refine AW.lp (fun s J m => ∃ (i : Nat), s = [(119, (.slice (some ⟨b2, 0, none⟩) b.Places.length b.Places.length)), (120, iV (b.Places.length : Int)), (121, iV (i : Int))] ∧ J = St ⟨w, Φ, []⟩ Φ [.row (.slice (some ⟨b2, 0, none⟩) b.Places.length b.Places.length) 3 1 b.Places.length (S.map (Value.int .i64)), .blk b1 31 (cl31 b v1 v3 v4 v5 v6 v7 v8 v9)] ∧ m = b.Places.length - i ∧ (i ≤ b.Places.length) ∧ (∀ j, j < i → S.getD j 0 ≤ 1099511627776)) ⟨0, rfl, rfl, rfl, (by omega), (fun j hj => absurd hj (by omega))⟩ ?_
   rintro _ _ _ _ ⟨i, rfl, rfl, rfl, hi, hal3⟩
   refine gs6 ?_
   refine AW.cond rfl (fun hc13 => ?_) fun hc13 => ?_
   ·
    simp [-List.getD_eq_getElem?_getD, -Array.length_toList] at hc13
    refine gs7 ?_
    refine RW.q (v := iV ((S).getD i 0)) rfl (q_load rfl uT3 rfl (Cell.rowInt 0 rfl (by omega))) ?_
    refine gs9 ?_
    refine AW.cond rfl (fun hc14 => ?_) fun hc14 => ?_
    ·
     simp [-List.getD_eq_getElem?_getD, -Array.length_toList] at hc14
     refine gs11 ?_
     exact fin_val (v' := .bool false) rfl rfl rfl (congrArg Value.bool (decide_eq_false (fun h9 => by have h8 := h9 i (by omega); rw [← hSe] at h8; omega)).symm)
    ·
     simp [-List.getD_eq_getElem?_getD, -Array.length_toList] at hc14
     refine gs7 ?_
     exact Post.bk ⟨i + 1, rfl, rfl, rfl, (by omega), (Fu.lt_succ hal3 (by omega))⟩
   ·
    simp [-List.getD_eq_getElem?_getD, -Array.length_toList] at hc13
    refine gs11 ?_
    exact fin_val (v' := .bool true) rfl rfl rfl (congrArg Value.bool (decide_eq_true (show RSlopes b from fun j hj => by rw [← hSe]; exact hal3 j (by omega))).symm)
end Go.Proofs.YtpapfpoefiikpaaGreatDoor
