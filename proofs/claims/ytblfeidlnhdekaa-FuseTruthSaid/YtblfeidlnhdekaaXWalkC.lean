/- Walks (part WalkC), printed by walk2.py. Conditions: those of each theorem. -/
import Derived.Test.YtblfeidlnhdekaaXWalkB
namespace Go.Proofs.Ytblfeidlnhdekaa
open Go Go.K Go.RowKit
set_option maxRecDepth 8000
set_option maxHeartbeats 1000000
attribute [local irreducible] AW RW DW Post Qt
theorem Volume_c (w : World) (Φ : Hp) (hΦ : Hp.le Φ (hp w)) {b : Bt.Basin} {cs : List Value} (hB : RepV Φ b cs) {r : Bt.Reading} (hr : I64 r.Value.Lo ∧ I64 r.Value.Hi) :
  Calls Try.prog 10 #[.agg cs.toArray, .agg #[iV r.Gauge, iV r.Hour, iV r.Value.Lo, iV r.Value.Hi]] w fun e w' => e = .returned (.tuple #[.agg #[iV (Fu.loOf (Fu.volR b r)), iV (Fu.hiOf (Fu.volR b r))], .bool (Fu.volR b r).isSome]) ∧ Bel w.heap.size w w' := by
 obtain ⟨v1, v3, v4, v5, v6, v7, v8, v9, hcs, hBw, r1, r3, r4, r5, r6, r7, r8, r9⟩ := (show Rep.rep Φ b cs from hB)
 subst hcs
 have hpm : b.Places.length * 152 ≤ 140737488355328 := r3.max
 have hgm : b.Gauges.length * 48 ≤ 140737488355328 := r6.max
 obtain ⟨hr1, hr2⟩ := hr
 have hu1 := hr1
 have hu2 := hr2
 unfold I64 at hu1 hu2
 refine calls_of_AW (args := [.agg (cl31 b v1 v3 v4 v5 v6 v7 v8 v9).toArray, .agg #[iV r.Gauge, iV r.Hour, iV r.Value.Lo, iV r.Value.Hi]]) Try.func10 rfl (Nat.le_of_ble_eq_true rfl) (St ⟨w, Φ, []⟩ Φ []) (StP.init w Φ hΦ []) ?_
 show AW Try.prog 81 [] _ _ _ [(0, .agg (cl31 b v1 v3 v4 v5 v6 v7 v8 v9).toArray), (1, .agg #[iV r.Gauge, iV r.Hour, iV r.Value.Lo, iV r.Value.Hi])] _
 refine g2 ?_
 refine RW.bxA rfl rfl fun b1 => ?_
 refine RW.bxA rfl rfl fun b2 => ?_
 refine RW.alc rfl fun b3 => ?_
 refine g7 ?_
 refine RW.q (v := .tuple #[.agg #[.string ((Fu.gaugeAt b.Gauges r.Gauge).Name), iV ((Fu.gaugeAt b.Gauges r.Gauge).Kind), iV ((Fu.gaugeAt b.Gauges r.Gauge).Target), iV ((Fu.gaugeAt b.Gauges r.Gauge).Err), iV ((Fu.gaugeAt b.Gauges r.Gauge).Drift)], .bool (decide (Fu.inG b.Gauges r.Gauge))]) rfl (q_call (args := #[.agg (cl31 b v1 v3 v4 v5 v6 v7 v8 v9).toArray, .agg #[iV r.Gauge, iV r.Hour, iV r.Value.Lo, iV r.Value.Hi]]) own26 rfl rfl (fun w1 hw1 => gaugeOf_c w1 (Go.K.hp w1) (Hp.le_refl _) (hB.mono hw1.phi) (r := r))) (RW.q (v := .tuple #[.agg #[.string ((Fu.gaugeAt b.Gauges r.Gauge).Name), iV ((Fu.gaugeAt b.Gauges r.Gauge).Kind), iV ((Fu.gaugeAt b.Gauges r.Gauge).Target), iV ((Fu.gaugeAt b.Gauges r.Gauge).Err), iV ((Fu.gaugeAt b.Gauges r.Gauge).Drift)], .bool (decide (Fu.inG b.Gauges r.Gauge))]) rfl (q_move rfl) ?_)
 refine g2 ?_
 refine RW.alc rfl fun b4 => ?_
 refine RW.effn (J' := St ⟨w, Φ, []⟩ Φ [.blk b4 58 [.string ((Fu.gaugeAt b.Gauges r.Gauge).Name), iV ((Fu.gaugeAt b.Gauges r.Gauge).Kind), iV ((Fu.gaugeAt b.Gauges r.Gauge).Target), iV ((Fu.gaugeAt b.Gauges r.Gauge).Err), iV ((Fu.gaugeAt b.Gauges r.Gauge).Drift)], .blk b3 42 [iV 0, iV 0], .blk b2 46 [iV r.Gauge, iV r.Hour, iV r.Value.Lo, iV r.Value.Hi], .blk b1 31 (cl31 b v1 v3 v4 v5 v6 v7 v8 v9)]) (e_store (v := .agg #[.string ((Fu.gaugeAt b.Gauges r.Gauge).Name), iV ((Fu.gaugeAt b.Gauges r.Gauge).Kind), iV ((Fu.gaugeAt b.Gauges r.Gauge).Target), iV ((Fu.gaugeAt b.Gauges r.Gauge).Err), iV ((Fu.gaugeAt b.Gauges r.Gauge).Drift)]) 0 rfl rfl rfl sz58 rfl rfl rfl rfl rfl) ?_
 refine g12 ?_
 obtain ⟨qb1, hqb1⟩ : ∃ z : Bool, ((!(decide (Fu.inG b.Gauges r.Gauge))) || (!decide ((Fu.gaugeAt b.Gauges r.Gauge).Kind = 0))) = z := ⟨_, rfl⟩
 refine RW.q (v := .bool qb1) rfl (q_as (v := .bool ((!(decide (Fu.inG b.Gauges r.Gauge))) || (!decide ((Fu.gaugeAt b.Gauges r.Gauge).Kind = 0)))) (q_pick rfl (fun hp => pkOrT hp) (fun hp => (gv_pos hp).trans (pkOrF hp))) (congrArg Value.bool hqb1)) ?_
 refine g4 ?_
 obtain ⟨qb2, hqb2⟩ : ∃ z : Bool, (qb1 || (decide ((Fu.gaugeAt b.Gauges r.Gauge).Target < 0))) = z := ⟨_, rfl⟩
 refine RW.q (v := .bool qb2) rfl (q_as (v := .bool (qb1 || (decide ((Fu.gaugeAt b.Gauges r.Gauge).Target < 0)))) (q_pick rfl (fun hp => pkOrT hp) (fun hp => (gv_pos hp).trans (pkOrF hp))) (congrArg Value.bool hqb2)) (RW.q (v := .bool qb2) rfl (q_move rfl) (RW.g (b := qb2) (v := pV b4 2) rfl rfl rfl (fun h => q_fieldAddr rfl uT58 rfl sz3 rfl) (RW.g (b := qb2) (v := iV ((Fu.gaugeAt b.Gauges r.Gauge).Target)) rfl rfl rfl (fun h => q_load (gv_pos h) uT3 rfl (Cell.blk 0 rfl rfl)) (RW.g (b := qb2) (v := pV b1 3) rfl rfl rfl (fun h => q_fieldAddr rfl uT31 rfl sz23 rfl) (RW.g (b := qb2) (v := v3) rfl rfl rfl (fun h => q_load (gv_pos h) uT23 rfl (Cell.blk 3 rfl rfl)) (RW.g (b := qb2) (v := iV (b.Places.length : Int)) rfl rfl rfl (fun h => q_len_sl (gv_pos h) r3.sl uT23) (RW.g (b := qb2) (v := .bool (decide ((b.Places.length : Int) ≤ (Fu.gaugeAt b.Gauges r.Gauge).Target))) rfl rfl rfl (fun h => q_geq (gv_pos h) (gv_pos h)) ?_)))))))
 obtain ⟨qb3, hqb3⟩ : ∃ z : Bool, (qb2 || (decide ((b.Places.length : Int) ≤ (Fu.gaugeAt b.Gauges r.Gauge).Target))) = z := ⟨_, rfl⟩
 refine RW.q (v := .bool qb3) rfl (q_as (v := .bool (qb2 || (decide ((b.Places.length : Int) ≤ (Fu.gaugeAt b.Gauges r.Gauge).Target)))) (q_pick rfl (fun hp => pkOrT hp) (fun hp => (gv_pos hp).trans (pkOrF hp))) (congrArg Value.bool hqb3)) ?_
 subst hqb3 hqb2 hqb1
 refine g2 ?_
 refine AW.cond rfl (fun hc1 => ?_) fun hc1 => ?_
 ·
  simp [-List.getD_eq_getElem?_getD] at hc1
  refine g2 ?_
  refine RW.q (v := .agg #[iV 0, iV 0]) rfl (q_build (vals := []) zero42 uT42 places42 rfl rfl) (RW.effn (J' := St ⟨w, Φ, []⟩ Φ [.blk b4 58 [.string ((Fu.gaugeAt b.Gauges r.Gauge).Name), iV ((Fu.gaugeAt b.Gauges r.Gauge).Kind), iV ((Fu.gaugeAt b.Gauges r.Gauge).Target), iV ((Fu.gaugeAt b.Gauges r.Gauge).Err), iV ((Fu.gaugeAt b.Gauges r.Gauge).Drift)], .blk b3 42 [iV 0, iV 0], .blk b2 46 [iV r.Gauge, iV r.Hour, iV r.Value.Lo, iV r.Value.Hi], .blk b1 31 (cl31 b v1 v3 v4 v5 v6 v7 v8 v9)]) (e_store (v := .agg #[iV 0, iV 0]) 1 rfl rfl rfl sz42 rfl rfl rfl rfl rfl) ?_)
  refine g5 ?_
  refine fin_cell2 (cs := [iV 0, iV 0]) (v := .bool false) rfl rfl rfl rfl uT42 rfl sz42 rfl (Cells.blk 1 rfl) (fun w' hw => ?_)
  refine ⟨?_, hw.below rfl⟩
  rw [Fu.volR_no (fun h => ?_)]
  ·
   rfl
  obtain ⟨h1, h2, h3, h4⟩ := h
  rcases hc1 with ((h5 | h5) | h5) | h5
  ·
   exact h5 h1
  ·
   exact h5 h2
  ·
   omega
  ·
   omega
 ·
  simp [-List.getD_eq_getElem?_getD] at hc1
  refine g3 ?_
  have hLv : Fu.levelOf b r = (b.Places.getD (Fu.gaugeAt b.Gauges r.Gauge).Target.toNat default).Level := rfl
  have hvo : Fu.VolOk b r := ⟨hc1.1.1.1, hc1.1.1.2, hc1.1.2, hc1.2⟩
  refine g5 ?_
  refine RW.q (v := .pointer (some (Value.at v3 ((((Fu.gaugeAt b.Gauges r.Gauge).Target).toNat) * 12)))) rfl (q_indexAddr rfl rfl r3.sl uT23 sz63 (by omega) (by omega) rfl) ?_
  refine g1 ?_
  obtain ⟨sv1, hsv1, hpc1⟩ := leaf63_4 r3 (k := ((Fu.gaugeAt b.Gauges r.Gauge).Target).toNat) (by omega)
  refine RW.q (v := sv1) rfl (q_load rfl uT60 rfl (Cell.phi hpc1)) ?_
  refine g7 ?_
  refine RW.q (v := .bool (decide (Fu.RightC ((b.Places.getD (((Fu.gaugeAt b.Gauges r.Gauge).Target).toNat) default).Level)))) rfl (q_call (args := #[sv1]) own27 rfl rfl (fun w1 hw1 => cRight_c w1 (Go.K.hp w1) (Hp.le_refl _) (hsv1.mono hw1.phi))) ?_
  refine g3 ?_
  refine AW.cond rfl (fun hc2 => ?_) fun hc2 => ?_
  ·
   simp [-List.getD_eq_getElem?_getD] at hc2
   refine g2 ?_
   refine RW.q (v := .agg #[iV 0, iV 0]) rfl (q_build (vals := []) zero42 uT42 places42 rfl rfl) (RW.effn (J' := St ⟨w, Φ, []⟩ Φ [.blk b4 58 [.string ((Fu.gaugeAt b.Gauges r.Gauge).Name), iV ((Fu.gaugeAt b.Gauges r.Gauge).Kind), iV ((Fu.gaugeAt b.Gauges r.Gauge).Target), iV ((Fu.gaugeAt b.Gauges r.Gauge).Err), iV ((Fu.gaugeAt b.Gauges r.Gauge).Drift)], .blk b3 42 [iV 0, iV 0], .blk b2 46 [iV r.Gauge, iV r.Hour, iV r.Value.Lo, iV r.Value.Hi], .blk b1 31 (cl31 b v1 v3 v4 v5 v6 v7 v8 v9)]) (e_store (v := .agg #[iV 0, iV 0]) 1 rfl rfl rfl sz42 rfl rfl rfl rfl rfl) ?_)
   refine g5 ?_
   refine fin_cell2 (cs := [iV 0, iV 0]) (v := .bool false) rfl rfl rfl rfl uT42 rfl sz42 rfl (Cells.blk 1 rfl) (fun w' hw => ?_)
   refine ⟨?_, hw.below rfl⟩
   rw [Fu.volR_yes hvo, Fu.volL_bad (by rw [hLv]; simpa using hc2)]; rfl
  ·
   simp [-List.getD_eq_getElem?_getD] at hc2
   refine g8 ?_
   refine RW.q (v := .tuple #[iV (Fu.intOf (Fu.leastC ((b.Places.getD (((Fu.gaugeAt b.Gauges r.Gauge).Target).toNat) default).Level) r.Value.Lo)), .bool ((Fu.leastC ((b.Places.getD (((Fu.gaugeAt b.Gauges r.Gauge).Target).toNat) default).Level) r.Value.Lo).isSome)]) rfl (q_call (args := #[sv1, iV r.Value.Lo]) own28 rfl rfl (fun w1 hw1 => Least_c w1 (Go.K.hp w1) (Hp.le_refl _) (hsv1.mono hw1.phi) hr1)) (RW.q (v := .tuple #[iV (Fu.intOf (Fu.leastC ((b.Places.getD (((Fu.gaugeAt b.Gauges r.Gauge).Target).toNat) default).Level) r.Value.Lo)), .bool ((Fu.leastC ((b.Places.getD (((Fu.gaugeAt b.Gauges r.Gauge).Target).toNat) default).Level) r.Value.Lo).isSome)]) rfl (q_move rfl) ?_)
   refine g13 ?_
   refine AW.cond rfl (fun hc3 => ?_) fun hc3 => ?_
   ·
    simp [-List.getD_eq_getElem?_getD] at hc3
    refine g2 ?_
    refine RW.q (v := .agg #[iV 0, iV 0]) rfl (q_build (vals := []) zero42 uT42 places42 rfl rfl) (RW.effn (J' := St ⟨w, Φ, []⟩ Φ [.blk b4 58 [.string ((Fu.gaugeAt b.Gauges r.Gauge).Name), iV ((Fu.gaugeAt b.Gauges r.Gauge).Kind), iV ((Fu.gaugeAt b.Gauges r.Gauge).Target), iV ((Fu.gaugeAt b.Gauges r.Gauge).Err), iV ((Fu.gaugeAt b.Gauges r.Gauge).Drift)], .blk b3 42 [iV 0, iV 0], .blk b2 46 [iV r.Gauge, iV r.Hour, iV r.Value.Lo, iV r.Value.Hi], .blk b1 31 (cl31 b v1 v3 v4 v5 v6 v7 v8 v9)]) (e_store (v := .agg #[iV 0, iV 0]) 1 rfl rfl rfl sz42 rfl rfl rfl rfl rfl) ?_)
    refine g5 ?_
    refine fin_cell2 (cs := [iV 0, iV 0]) (v := .bool false) rfl rfl rfl rfl uT42 rfl sz42 rfl (Cells.blk 1 rfl) (fun w' hw => ?_)
    refine ⟨?_, hw.below rfl⟩
    rw [Fu.volR_yes hvo, Fu.volL_none (by rw [hLv]; simpa using hc3)]; rfl
   ·
    simp [-List.getD_eq_getElem?_getD] at hc3
    refine g14 ?_
    refine RW.q (v := iV (Fu.addS r.Value.Hi 1)) rfl (q_call (args := #[iV r.Value.Hi, iV 1]) own29 rfl rfl (fun w1 hw1 => Add_c w1 (Go.K.hp w1) (Hp.le_refl _) hr2 (by unfold I64; omega))) (RW.q (v := .tuple #[iV (Fu.intOf (Fu.leastC ((b.Places.getD (((Fu.gaugeAt b.Gauges r.Gauge).Target).toNat) default).Level) (Fu.addS r.Value.Hi 1))), .bool ((Fu.leastC ((b.Places.getD (((Fu.gaugeAt b.Gauges r.Gauge).Target).toNat) default).Level) (Fu.addS r.Value.Hi 1)).isSome)]) rfl (q_call (args := #[sv1, iV (Fu.addS r.Value.Hi 1)]) own28 rfl rfl (fun w1 hw1 => Least_c w1 (Go.K.hp w1) (Hp.le_refl _) (hsv1.mono hw1.phi) (by unfold I64; exact Fu.addS_rng _ _))) (RW.q (v := .tuple #[iV (Fu.intOf (Fu.leastC ((b.Places.getD (((Fu.gaugeAt b.Gauges r.Gauge).Target).toNat) default).Level) (Fu.addS r.Value.Hi 1))), .bool ((Fu.leastC ((b.Places.getD (((Fu.gaugeAt b.Gauges r.Gauge).Target).toNat) default).Level) (Fu.addS r.Value.Hi 1)).isSome)]) rfl (q_move rfl) ?_))
    refine g11 ?_
    refine AW.cond rfl (fun hc4 => ?_) fun hc4 => ?_
    ·
     have hlr := Fu.least_rng (b.Places.getD (Fu.gaugeAt b.Gauges r.Gauge).Target.toNat default).Level (Fu.addS r.Value.Hi 1)
     refine g10 ?_
     refine RW.q (v := .agg #[iV (Fu.intOf (Fu.leastC ((b.Places.getD (((Fu.gaugeAt b.Gauges r.Gauge).Target).toNat) default).Level) r.Value.Lo)), iV ((Fu.intOf (Fu.leastC ((b.Places.getD (((Fu.gaugeAt b.Gauges r.Gauge).Target).toNat) default).Level) (Fu.addS r.Value.Hi 1))) - 1)]) rfl (q_build (vals := [(0, iV (Fu.intOf (Fu.leastC ((b.Places.getD (((Fu.gaugeAt b.Gauges r.Gauge).Target).toNat) default).Level) r.Value.Lo))), (1, iV ((Fu.intOf (Fu.leastC ((b.Places.getD (((Fu.gaugeAt b.Gauges r.Gauge).Target).toNat) default).Level) (Fu.addS r.Value.Hi 1))) - 1))]) zero42 uT42 places42 rfl rfl) (RW.q (v := .agg #[iV 0, iV 1125899906842624]) rfl (q_build (vals := [(0, iV 0), (1, iV 1125899906842624)]) zero42 uT42 places42 rfl rfl) (RW.q (v := .tuple #[.agg #[iV (Fu.loOf (Fu.meet (Fu.intOf (Fu.leastC ((b.Places.getD (((Fu.gaugeAt b.Gauges r.Gauge).Target).toNat) default).Level) r.Value.Lo)) ((Fu.intOf (Fu.leastC ((b.Places.getD (((Fu.gaugeAt b.Gauges r.Gauge).Target).toNat) default).Level) (Fu.addS r.Value.Hi 1))) - 1) 0 1125899906842624)), iV (Fu.hiOf (Fu.meet (Fu.intOf (Fu.leastC ((b.Places.getD (((Fu.gaugeAt b.Gauges r.Gauge).Target).toNat) default).Level) r.Value.Lo)) ((Fu.intOf (Fu.leastC ((b.Places.getD (((Fu.gaugeAt b.Gauges r.Gauge).Target).toNat) default).Level) (Fu.addS r.Value.Hi 1))) - 1) 0 1125899906842624))], .bool ((Fu.meet (Fu.intOf (Fu.leastC ((b.Places.getD (((Fu.gaugeAt b.Gauges r.Gauge).Target).toNat) default).Level) r.Value.Lo)) ((Fu.intOf (Fu.leastC ((b.Places.getD (((Fu.gaugeAt b.Gauges r.Gauge).Target).toNat) default).Level) (Fu.addS r.Value.Hi 1))) - 1) 0 1125899906842624).isSome)]) rfl (q_call (args := #[.agg #[iV (Fu.intOf (Fu.leastC ((b.Places.getD (((Fu.gaugeAt b.Gauges r.Gauge).Target).toNat) default).Level) r.Value.Lo)), iV ((Fu.intOf (Fu.leastC ((b.Places.getD (((Fu.gaugeAt b.Gauges r.Gauge).Target).toNat) default).Level) (Fu.addS r.Value.Hi 1))) - 1)], .agg #[iV 0, iV 1125899906842624]]) own30 rfl rfl (fun w1 hw1 => Meet_c w1 (Go.K.hp w1) (Hp.le_refl _))) ?_))
     refine g2 ?_
     refine RW.effn (J' := St ⟨w, Φ, []⟩ Φ [.blk b4 58 [.string ((Fu.gaugeAt b.Gauges r.Gauge).Name), iV ((Fu.gaugeAt b.Gauges r.Gauge).Kind), iV ((Fu.gaugeAt b.Gauges r.Gauge).Target), iV ((Fu.gaugeAt b.Gauges r.Gauge).Err), iV ((Fu.gaugeAt b.Gauges r.Gauge).Drift)], .blk b3 42 [iV (Fu.loOf (Fu.meet (Fu.intOf (Fu.leastC ((b.Places.getD (((Fu.gaugeAt b.Gauges r.Gauge).Target).toNat) default).Level) r.Value.Lo)) ((Fu.intOf (Fu.leastC ((b.Places.getD (((Fu.gaugeAt b.Gauges r.Gauge).Target).toNat) default).Level) (Fu.addS r.Value.Hi 1))) - 1) 0 1125899906842624)), iV (Fu.hiOf (Fu.meet (Fu.intOf (Fu.leastC ((b.Places.getD (((Fu.gaugeAt b.Gauges r.Gauge).Target).toNat) default).Level) r.Value.Lo)) ((Fu.intOf (Fu.leastC ((b.Places.getD (((Fu.gaugeAt b.Gauges r.Gauge).Target).toNat) default).Level) (Fu.addS r.Value.Hi 1))) - 1) 0 1125899906842624))], .blk b2 46 [iV r.Gauge, iV r.Hour, iV r.Value.Lo, iV r.Value.Hi], .blk b1 31 (cl31 b v1 v3 v4 v5 v6 v7 v8 v9)]) (e_store (v := .agg #[iV (Fu.loOf (Fu.meet (Fu.intOf (Fu.leastC ((b.Places.getD (((Fu.gaugeAt b.Gauges r.Gauge).Target).toNat) default).Level) r.Value.Lo)) ((Fu.intOf (Fu.leastC ((b.Places.getD (((Fu.gaugeAt b.Gauges r.Gauge).Target).toNat) default).Level) (Fu.addS r.Value.Hi 1))) - 1) 0 1125899906842624)), iV (Fu.hiOf (Fu.meet (Fu.intOf (Fu.leastC ((b.Places.getD (((Fu.gaugeAt b.Gauges r.Gauge).Target).toNat) default).Level) r.Value.Lo)) ((Fu.intOf (Fu.leastC ((b.Places.getD (((Fu.gaugeAt b.Gauges r.Gauge).Target).toNat) default).Level) (Fu.addS r.Value.Hi 1))) - 1) 0 1125899906842624))]) 1 rfl rfl rfl sz42 rfl rfl rfl rfl rfl) ?_
     refine g4 ?_
     refine fin_cell2 (cs := [iV (Fu.loOf (Fu.meet (Fu.intOf (Fu.leastC ((b.Places.getD (((Fu.gaugeAt b.Gauges r.Gauge).Target).toNat) default).Level) r.Value.Lo)) ((Fu.intOf (Fu.leastC ((b.Places.getD (((Fu.gaugeAt b.Gauges r.Gauge).Target).toNat) default).Level) (Fu.addS r.Value.Hi 1))) - 1) 0 1125899906842624)), iV (Fu.hiOf (Fu.meet (Fu.intOf (Fu.leastC ((b.Places.getD (((Fu.gaugeAt b.Gauges r.Gauge).Target).toNat) default).Level) r.Value.Lo)) ((Fu.intOf (Fu.leastC ((b.Places.getD (((Fu.gaugeAt b.Gauges r.Gauge).Target).toNat) default).Level) (Fu.addS r.Value.Hi 1))) - 1) 0 1125899906842624))]) (v := .bool ((Fu.meet (Fu.intOf (Fu.leastC ((b.Places.getD (((Fu.gaugeAt b.Gauges r.Gauge).Target).toNat) default).Level) r.Value.Lo)) ((Fu.intOf (Fu.leastC ((b.Places.getD (((Fu.gaugeAt b.Gauges r.Gauge).Target).toNat) default).Level) (Fu.addS r.Value.Hi 1))) - 1) 0 1125899906842624).isSome)) rfl rfl rfl rfl uT42 rfl sz42 rfl (Cells.blk 1 rfl) (fun w' hw => ?_)
     refine ⟨?_, hw.below rfl⟩
     rw [Fu.volR_yes hvo, Fu.volL_mid (by rw [hLv]; simpa using hc3) (by rw [hLv]; simpa using hc4)]; rfl
    ·
     refine g6 ?_
     refine RW.q (v := .agg #[iV (Fu.intOf (Fu.leastC ((b.Places.getD (((Fu.gaugeAt b.Gauges r.Gauge).Target).toNat) default).Level) r.Value.Lo)), iV 1125899906842624]) rfl (q_build (vals := [(0, iV (Fu.intOf (Fu.leastC ((b.Places.getD (((Fu.gaugeAt b.Gauges r.Gauge).Target).toNat) default).Level) r.Value.Lo))), (1, iV 1125899906842624)]) zero42 uT42 places42 rfl rfl) (RW.q (v := .agg #[iV 0, iV 1125899906842624]) rfl (q_build (vals := [(0, iV 0), (1, iV 1125899906842624)]) zero42 uT42 places42 rfl rfl) (RW.q (v := .tuple #[.agg #[iV (Fu.loOf (Fu.meet (Fu.intOf (Fu.leastC ((b.Places.getD (((Fu.gaugeAt b.Gauges r.Gauge).Target).toNat) default).Level) r.Value.Lo)) 1125899906842624 0 1125899906842624)), iV (Fu.hiOf (Fu.meet (Fu.intOf (Fu.leastC ((b.Places.getD (((Fu.gaugeAt b.Gauges r.Gauge).Target).toNat) default).Level) r.Value.Lo)) 1125899906842624 0 1125899906842624))], .bool ((Fu.meet (Fu.intOf (Fu.leastC ((b.Places.getD (((Fu.gaugeAt b.Gauges r.Gauge).Target).toNat) default).Level) r.Value.Lo)) 1125899906842624 0 1125899906842624).isSome)]) rfl (q_call (args := #[.agg #[iV (Fu.intOf (Fu.leastC ((b.Places.getD (((Fu.gaugeAt b.Gauges r.Gauge).Target).toNat) default).Level) r.Value.Lo)), iV 1125899906842624], .agg #[iV 0, iV 1125899906842624]]) own30 rfl rfl (fun w1 hw1 => Meet_c w1 (Go.K.hp w1) (Hp.le_refl _))) ?_))
     refine g2 ?_
     refine RW.effn (J' := St ⟨w, Φ, []⟩ Φ [.blk b4 58 [.string ((Fu.gaugeAt b.Gauges r.Gauge).Name), iV ((Fu.gaugeAt b.Gauges r.Gauge).Kind), iV ((Fu.gaugeAt b.Gauges r.Gauge).Target), iV ((Fu.gaugeAt b.Gauges r.Gauge).Err), iV ((Fu.gaugeAt b.Gauges r.Gauge).Drift)], .blk b3 42 [iV (Fu.loOf (Fu.meet (Fu.intOf (Fu.leastC ((b.Places.getD (((Fu.gaugeAt b.Gauges r.Gauge).Target).toNat) default).Level) r.Value.Lo)) 1125899906842624 0 1125899906842624)), iV (Fu.hiOf (Fu.meet (Fu.intOf (Fu.leastC ((b.Places.getD (((Fu.gaugeAt b.Gauges r.Gauge).Target).toNat) default).Level) r.Value.Lo)) 1125899906842624 0 1125899906842624))], .blk b2 46 [iV r.Gauge, iV r.Hour, iV r.Value.Lo, iV r.Value.Hi], .blk b1 31 (cl31 b v1 v3 v4 v5 v6 v7 v8 v9)]) (e_store (v := .agg #[iV (Fu.loOf (Fu.meet (Fu.intOf (Fu.leastC ((b.Places.getD (((Fu.gaugeAt b.Gauges r.Gauge).Target).toNat) default).Level) r.Value.Lo)) 1125899906842624 0 1125899906842624)), iV (Fu.hiOf (Fu.meet (Fu.intOf (Fu.leastC ((b.Places.getD (((Fu.gaugeAt b.Gauges r.Gauge).Target).toNat) default).Level) r.Value.Lo)) 1125899906842624 0 1125899906842624))]) 1 rfl rfl rfl sz42 rfl rfl rfl rfl rfl) ?_
     refine g4 ?_
     refine fin_cell2 (cs := [iV (Fu.loOf (Fu.meet (Fu.intOf (Fu.leastC ((b.Places.getD (((Fu.gaugeAt b.Gauges r.Gauge).Target).toNat) default).Level) r.Value.Lo)) 1125899906842624 0 1125899906842624)), iV (Fu.hiOf (Fu.meet (Fu.intOf (Fu.leastC ((b.Places.getD (((Fu.gaugeAt b.Gauges r.Gauge).Target).toNat) default).Level) r.Value.Lo)) 1125899906842624 0 1125899906842624))]) (v := .bool ((Fu.meet (Fu.intOf (Fu.leastC ((b.Places.getD (((Fu.gaugeAt b.Gauges r.Gauge).Target).toNat) default).Level) r.Value.Lo)) 1125899906842624 0 1125899906842624).isSome)) rfl rfl rfl rfl uT42 rfl sz42 rfl (Cells.blk 1 rfl) (fun w' hw => ?_)
     refine ⟨?_, hw.below rfl⟩
     rw [Fu.volR_yes hvo, Fu.volL_top (by rw [hLv]; simpa using hc3) (by rw [hLv]; simpa using hc4)]; rfl
theorem few_c (w : World) (Φ : Hp) (hΦ : Hp.le Φ (hp w)) {b : Bt.Basin} {cs : List Value} (hB : RepV Φ b cs) {h : Bt.Hull} {hcs : List Value} (hH : RepV Φ h hcs) :
  Calls Try.prog 9 #[.agg cs.toArray, .agg hcs.toArray] w fun e w' => e = .returned (.bool (decide (Fu.Few b h))) ∧ Bel w.heap.size w w' := by
 obtain ⟨v1, v3, v4, v5, v6, v7, v8, v9, hcs, hBw, r1, r3, r4, r5, r6, r7, r8, r9⟩ := (show Rep.rep Φ b cs from hB)
 subst hcs
 have hpm : b.Places.length * 152 ≤ 140737488355328 := r3.max
 have hgm : b.Gauges.length * 48 ≤ 140737488355328 := r6.max
 obtain ⟨hv1, hv2, hv3, hhcs, hhw, hr1, hr2, hr3⟩ := (show Rep.rep Φ h hcs from hH)
 subst hhcs
 have hm1 : h.Vol.length * 16 ≤ 140737488355328 := hr1.max
 have hm2 : h.Queue.length * 32 ≤ 140737488355328 := hr2.max
 have hm3 : h.Links.length * 40 ≤ 140737488355328 := hr3.max
 refine calls_of_AW (args := [.agg (cl31 b v1 v3 v4 v5 v6 v7 v8 v9).toArray, .agg #[iV h.Hour, hv1, hv2, hv3]]) Try.func9 rfl (Nat.le_of_ble_eq_true rfl) (St ⟨w, Φ, []⟩ Φ []) (StP.init w Φ hΦ []) ?_
 show AW Try.prog 53 [] _ _ _ [(0, .agg (cl31 b v1 v3 v4 v5 v6 v7 v8 v9).toArray), (1, .agg #[iV h.Hour, hv1, hv2, hv3])] _
 refine g2 ?_
 refine RW.bxA rfl rfl fun b1 => ?_
 refine RW.bxA rfl rfl fun b2 => ?_
 refine g10 ?_
 refine AW.loop (fun s J m => ∃ (k : Nat), s = [(2, pV b1 0), (3, pV b2 0), (5, iV (k : Int))] ∧ J = St ⟨w, Φ, []⟩ Φ [.blk b2 36 [iV h.Hour, hv1, hv2, hv3], .blk b1 31 (cl31 b v1 v3 v4 v5 v6 v7 v8 v9)] ∧ m = b.Places.length - k ∧ (k ≤ b.Places.length) ∧ (k ≤ 21) ∧ (∀ j, j < k → (b.Places.getD j default).Level.length ≤ 40)) (s0 := _) (J1 := _) (m0 := _) ⟨0, rfl, rfl, rfl, (by omega), (by omega), (by omega)⟩ ⟨rfl, rfl, rfl, trivial⟩ (fun _ h => h) ?_
 rintro _ _ _ _ ⟨k, rfl, rfl, rfl, hk, hk2, hall⟩
 refine g11 ?_
 obtain ⟨qb1, hqb1⟩ : ∃ z : Bool, ((decide ((k : Int) < (b.Places.length : Int))) && (decide ((k : Int) < 21))) = z := ⟨_, rfl⟩
 refine RW.q (v := .bool qb1) rfl (q_as (v := .bool ((decide ((k : Int) < (b.Places.length : Int))) && (decide ((k : Int) < 21)))) (q_pick rfl (fun hp => (gv_pos hp).trans (pkAndT hp)) (fun hp => pkAndF hp)) (congrArg Value.bool hqb1)) ?_
 subst hqb1
 refine g2 ?_
 refine AW.cond rfl (fun hc1 => ?_) fun hc1 => ?_
 ·
  simp [-List.getD_eq_getElem?_getD] at hc1
  refine g9 ?_
  refine RW.q (v := .pointer (some (Value.at v3 (k * 12)))) rfl (q_indexAddr rfl rfl r3.sl uT23 sz63 (by omega) (by omega) rfl) ?_
  refine g1 ?_
  obtain ⟨sv1, hsv1, hpc1⟩ := leaf63_4 r3 (k := k) (by omega)
  refine RW.q (v := sv1) rfl (q_load rfl uT60 rfl (Cell.phi hpc1)) ?_
  refine g4 ?_
  refine AW.cond rfl (fun hc2 => ?_) fun hc2 => ?_
  ·
   simp [-List.getD_eq_getElem?_getD] at hc2
   refine g11 ?_
   exact fin_val (v' := .bool false) rfl rfl rfl (by rw [decide_eq_false (fun hf => by have := hf.1 k (by omega) (by omega); omega)])
  ·
   simp [-List.getD_eq_getElem?_getD] at hc2
   refine g7 ?_
   refine RW.nil ?_
   exact Post.back (s' := _) (J' := _) (m' := _) (by omega) ⟨k + 1, rfl, rfl, rfl, (by omega), (by omega), (Fu.lt_succ hall (by omega))⟩ ⟨rfl, rfl, rfl, trivial⟩ (fun _ h => h)
 ·
  simp [-List.getD_eq_getElem?_getD] at hc1
  refine AW.exit (Post.then_x (Post.then_x (Post.blk_hit (Post.then_n ?_))))
  refine AW.seq (AW.region (RW.q (v := pV b1 3) rfl (q_fieldAddr rfl uT31 rfl sz23 rfl) (RW.q (v := v3) rfl (q_load rfl uT23 rfl (Cell.blk 1 rfl rfl)) (RW.q (v := iV (b.Places.length : Int)) rfl (q_len_sl rfl r3.sl uT23) (RW.q (v := .bool (decide ((b.Places.length : Int) ≤ 20))) rfl (q_leq rfl rfl) (RW.q (v := .bool (decide ((b.Places.length : Int) ≤ 20))) rfl (q_move rfl) (RW.g (b := (decide ((b.Places.length : Int) ≤ 20))) (v := pV b1 6) rfl rfl rfl (fun h => q_fieldAddr rfl uT31 rfl sz26 rfl) (RW.g (b := (decide ((b.Places.length : Int) ≤ 20))) (v := v6) rfl rfl rfl (fun h => q_load (gv_pos h) uT26 rfl (Cell.blk 1 rfl rfl)) (RW.g (b := (decide ((b.Places.length : Int) ≤ 20))) (v := iV (b.Gauges.length : Int)) rfl rfl rfl (fun h => q_len_sl (gv_pos h) r6.sl uT26) ?_)))))))))
  refine RW.g (b := (decide ((b.Places.length : Int) ≤ 20))) (v := .bool (decide ((b.Gauges.length : Int) ≤ 20))) rfl rfl rfl (fun h => q_leq (gv_pos h) rfl) ?_
  obtain ⟨qb2, hqb2⟩ : ∃ z : Bool, ((decide ((b.Places.length : Int) ≤ 20)) && (decide ((b.Gauges.length : Int) ≤ 20))) = z := ⟨_, rfl⟩
  refine RW.q (v := .bool qb2) rfl (q_as (v := .bool ((decide ((b.Places.length : Int) ≤ 20)) && (decide ((b.Gauges.length : Int) ≤ 20)))) (q_pick rfl (fun hp => (gv_pos hp).trans (pkAndT hp)) (fun hp => pkAndF hp)) (congrArg Value.bool hqb2)) (RW.q (v := .bool qb2) rfl (q_move rfl) (RW.g (b := qb2) (v := pV b2 1) rfl rfl rfl (fun h => q_fieldAddr rfl uT36 rfl sz32 rfl) (RW.g (b := qb2) (v := hv1) rfl rfl rfl (fun h => q_load (gv_pos h) uT32 rfl (Cell.blk 0 rfl rfl)) (RW.g (b := qb2) (v := iV (h.Vol.length : Int)) rfl rfl rfl (fun h => q_len_sl (gv_pos h) hr1.sl uT32) (RW.g (b := qb2) (v := .bool (decide ((h.Vol.length : Int) ≤ 20))) rfl rfl rfl (fun h => q_leq (gv_pos h) rfl) ?_)))))
  obtain ⟨qb3, hqb3⟩ : ∃ z : Bool, (qb2 && (decide ((h.Vol.length : Int) ≤ 20))) = z := ⟨_, rfl⟩
  refine RW.q (v := .bool qb3) rfl (q_as (v := .bool (qb2 && (decide ((h.Vol.length : Int) ≤ 20)))) (q_pick rfl (fun hp => (gv_pos hp).trans (pkAndT hp)) (fun hp => pkAndF hp)) (congrArg Value.bool hqb3)) (RW.q (v := .bool qb3) rfl (q_move rfl) (RW.g (b := qb3) (v := pV b2 3) rfl rfl rfl (fun h => q_fieldAddr rfl uT36 rfl sz34 rfl) (RW.g (b := qb3) (v := hv3) rfl rfl rfl (fun h => q_load (gv_pos h) uT34 rfl (Cell.blk 0 rfl rfl)) (RW.g (b := qb3) (v := iV (h.Links.length : Int)) rfl rfl rfl (fun h => q_len_sl (gv_pos h) hr3.sl uT34) (RW.g (b := qb3) (v := .bool (decide ((h.Links.length : Int) ≤ 20))) rfl rfl rfl (fun h => q_leq (gv_pos h) rfl) ?_)))))
  obtain ⟨qb4, hqb4⟩ : ∃ z : Bool, (qb3 && (decide ((h.Links.length : Int) ≤ 20))) = z := ⟨_, rfl⟩
  refine RW.q (v := .bool qb4) rfl (q_as (v := .bool (qb3 && (decide ((h.Links.length : Int) ≤ 20)))) (q_pick rfl (fun hp => (gv_pos hp).trans (pkAndT hp)) (fun hp => pkAndF hp)) (congrArg Value.bool hqb4)) (RW.q (v := .bool qb4) rfl (q_move rfl) (RW.g (b := qb4) (v := pV b2 2) rfl rfl rfl (fun h => q_fieldAddr rfl uT36 rfl sz33 rfl) (RW.g (b := qb4) (v := hv2) rfl rfl rfl (fun h => q_load (gv_pos h) uT33 rfl (Cell.blk 0 rfl rfl)) (RW.g (b := qb4) (v := iV (h.Queue.length : Int)) rfl rfl rfl (fun h => q_len_sl (gv_pos h) hr2.sl uT33) (RW.g (b := qb4) (v := .bool (decide ((h.Queue.length : Int) ≤ 60))) rfl rfl rfl (fun h => q_leq (gv_pos h) rfl) ?_)))))
  obtain ⟨qb5, hqb5⟩ : ∃ z : Bool, (qb4 && (decide ((h.Queue.length : Int) ≤ 60))) = z := ⟨_, rfl⟩
  refine RW.q (v := .bool qb5) rfl (q_as (v := .bool (qb4 && (decide ((h.Queue.length : Int) ≤ 60)))) (q_pick rfl (fun hp => (gv_pos hp).trans (pkAndT hp)) (fun hp => pkAndF hp)) (congrArg Value.bool hqb5)) ?_
  refine g1 ?_
  subst hqb5 hqb4 hqb3 hqb2
  refine g3 ?_
  exact fin_val (v' := .bool (((((decide ((b.Places.length : Int) ≤ 20)) && (decide ((b.Gauges.length : Int) ≤ 20))) && (decide ((h.Vol.length : Int) ≤ 20))) && (decide ((h.Links.length : Int) ≤ 20))) && (decide ((h.Queue.length : Int) ≤ 60)))) rfl rfl rfl (by congr 1; simp only [← Bool.decide_and, decide_eq_decide]; unfold Fu.Few; constructor <;> intro hh <;> refine ⟨?_, ?_⟩ <;> first | omega | (intro j hj hj2; exact hall j (by omega)))
end Go.Proofs.Ytblfeidlnhdekaa
