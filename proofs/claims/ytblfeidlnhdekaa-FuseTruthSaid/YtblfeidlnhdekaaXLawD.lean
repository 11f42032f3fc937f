/- Walks (part LawD), printed by walk2.py. Conditions: those of each theorem. -/
import Derived.Test.YtblfeidlnhdekaaXWalkBf
import Derived.Test.YtblfeidlnhdekaaXWalkN
import Derived.Test.YtblfeidlnhdekaaXPlainH
namespace Go.Proofs.Ytblfeidlnhdekaa
open Go Go.K Go.RowKit
set_option maxRecDepth 8000
set_option maxHeartbeats 1000000
theorem sHas_c (w : World) (Φ : Hp) (hΦ : Hp.le Φ (hp w)) {aL aH x : Int} :
  Calls Try.prog 21 #[.agg #[iV aL, iV aH], iV x] w fun e w' => e = .returned (.bool (decide (aL ≤ x) && decide (x ≤ aH))) ∧ Bel w.heap.size w w' := by
 refine calls_of_AW (args := [.agg #[iV aL, iV aH], iV x]) Try.func21 rfl (Nat.le_of_ble_eq_true rfl) (St ⟨w, Φ, []⟩ Φ []) (StP.init w Φ hΦ []) ?_
 show AW Try.prog 15 [] _ _ _ [(0, .agg #[iV aL, iV aH]), (1, iV x)] _
 refine AW.seq (AW.region (RW.eff (fun b1 : Nat => pV b1 0) (fun b1 => St ⟨w, Φ, []⟩ Φ [.blk b1 42 [iV aL, iV aH]]) rfl (e_boxA (cs := [iV aL, iV aH]) rfl) ?_))
 intro b1
 refine RW.q (v := .bool false) rfl (q_assign rfl) (RW.nil (Post.then_n (AW.seq (AW.region (RW.q (v := pV b1 0) rfl (q_fieldAddr rfl uT42 rfl sz3 rfl) (RW.q (v := iV aL) rfl (q_load rfl uT3 rfl (Cell.blk 0 rfl rfl)) (RW.q (v := iV x) rfl (q_move rfl) (RW.q (v := .bool (decide (aL ≤ x))) rfl (q_leq rfl rfl) (RW.q (v := .bool (decide (aL ≤ x))) rfl (q_move rfl) ?_)))))))))
 refine RW.g (b := (decide (aL ≤ x))) (v := iV x) rfl rfl rfl (fun h => q_move rfl) (RW.g (b := (decide (aL ≤ x))) (v := pV b1 1) rfl rfl rfl (fun h => q_fieldAddr rfl uT42 rfl sz3 rfl) (RW.g (b := (decide (aL ≤ x))) (v := iV aH) rfl rfl rfl (fun h => q_load (gv_pos h) uT3 rfl (Cell.blk 0 rfl rfl)) (RW.g (b := (decide (aL ≤ x))) (v := .bool (decide (x ≤ aH))) rfl rfl rfl (fun h => q_leq (gv_pos h) (gv_pos h)) ?_)))
 obtain ⟨qb1, hqb1⟩ : ∃ z : Bool, ((decide (aL ≤ x)) && (decide (x ≤ aH))) = z := ⟨_, rfl⟩
 refine RW.q (v := .bool qb1) rfl (q_as (v := .bool ((decide (aL ≤ x)) && (decide (x ≤ aH)))) (q_pick rfl (fun hp => (gv_pos hp).trans (pkAndT hp)) (fun hp => pkAndF hp)) (congrArg Value.bool hqb1)) (RW.q (v := .bool qb1) rfl (q_assign rfl) ?_)
 subst hqb1
 refine RW.nil (Post.then_n (AW.ret ?_))
 exact fin_val (v' := .bool ((decide (aL ≤ x)) && (decide (x ≤ aH)))) rfl rfl rfl (rfl)
theorem sJoin_c (w : World) (Φ : Hp) (hΦ : Hp.le Φ (hp w)) {aL aH bL bH : Int} :
  Calls Try.prog 61 #[.agg #[iV aL, iV aH], .agg #[iV bL, iV bH]] w fun e w' => e = .returned (.agg #[iV (min aL bL), iV (max aH bH)]) ∧ Bel w.heap.size w w' := by
 refine calls_of_AW (args := [.agg #[iV aL, iV aH], .agg #[iV bL, iV bH]]) Try.func61 rfl (Nat.le_of_ble_eq_true rfl) (St ⟨w, Φ, []⟩ Φ []) (StP.init w Φ hΦ []) ?_
 show AW Try.prog 16 [] _ _ _ [(0, .agg #[iV aL, iV aH]), (1, .agg #[iV bL, iV bH])] _
 refine AW.seq (AW.region (RW.eff (fun b1 : Nat => pV b1 0) (fun b1 => St ⟨w, Φ, []⟩ Φ [.blk b1 42 [iV aL, iV aH]]) rfl (e_boxA (cs := [iV aL, iV aH]) rfl) ?_))
 intro b1
 refine RW.eff (fun b2 : Nat => pV b2 0) (fun b2 => St ⟨w, Φ, []⟩ Φ [.blk b2 42 [iV bL, iV bH], .blk b1 42 [iV aL, iV aH]]) rfl (e_boxA (cs := [iV bL, iV bH]) rfl) ?_
 intro b2
 refine RW.eff (fun b3 : Nat => pV b3 0) (fun b3 => St ⟨w, Φ, []⟩ Φ [.blk b3 42 [iV 0, iV 0], .blk b2 42 [iV bL, iV bH], .blk b1 42 [iV aL, iV aH]]) rfl (e_alloc zero42) ?_
 intro b3
 refine RW.nil (Post.then_n (AW.seq (AW.region (RW.q (v := pV b1 0) rfl (q_fieldAddr rfl uT42 rfl sz3 rfl) (RW.q (v := iV aL) rfl (q_load rfl uT3 rfl (Cell.blk 2 rfl rfl)) (RW.q (v := pV b2 0) rfl (q_fieldAddr rfl uT42 rfl sz3 rfl) (RW.q (v := iV bL) rfl (q_load rfl uT3 rfl (Cell.blk 1 rfl rfl)) (RW.q (v := iV (min aL bL)) rfl (q_min rfl rfl) (RW.q (v := pV b1 1) rfl (q_fieldAddr rfl uT42 rfl sz3 rfl) ?_)))))))))
 refine RW.q (v := iV aH) rfl (q_load rfl uT3 rfl (Cell.blk 2 rfl rfl)) (RW.q (v := pV b2 1) rfl (q_fieldAddr rfl uT42 rfl sz3 rfl) (RW.q (v := iV bH) rfl (q_load rfl uT3 rfl (Cell.blk 1 rfl rfl)) (RW.q (v := iV (max aH bH)) rfl (q_max rfl rfl) (RW.q (v := .agg #[iV (min aL bL), iV (max aH bH)]) rfl (q_build (vals := [(0, iV (min aL bL)), (1, iV (max aH bH))]) zero42 uT42 places42 rfl rfl) (RW.effn (J' := St ⟨w, Φ, []⟩ Φ [.blk b3 42 [iV (min aL bL), iV (max aH bH)], .blk b2 42 [iV bL, iV bH], .blk b1 42 [iV aL, iV aH]]) (e_store (v := .agg #[iV (min aL bL), iV (max aH bH)]) 0 rfl rfl rfl sz42 rfl rfl rfl rfl rfl) (RW.nil (Post.then_n (AW.ret (fin_cell1 (cs := [iV (min aL bL), iV (max aH bH)]) rfl rfl rfl uT42 rfl sz42 rfl (Cells.blk 0 rfl) (fun w' hw => ?_))))))))))
 refine ⟨?_, hw.below rfl⟩
 rfl
theorem sWithin_c (w : World) (Φ : Hp) (hΦ : Hp.le Φ (hp w)) {aL aH bL bH : Int} :
  Calls Try.prog 22 #[.agg #[iV aL, iV aH], .agg #[iV bL, iV bH]] w fun e w' => e = .returned (.bool (decide (bL ≤ aL ∧ aH ≤ bH))) ∧ Bel w.heap.size w w' := by
 refine calls_of_AW (args := [.agg #[iV aL, iV aH], .agg #[iV bL, iV bH]]) Try.func22 rfl (Nat.le_of_ble_eq_true rfl) (St ⟨w, Φ, []⟩ Φ []) (StP.init w Φ hΦ []) ?_
 show AW Try.prog 10 [] _ _ _ [(0, .agg #[iV aL, iV aH]), (1, .agg #[iV bL, iV bH])] _
 refine AW.seq (AW.region (RW.eff (fun b1 : Nat => pV b1 0) (fun b1 => St ⟨w, Φ, []⟩ Φ [.blk b1 42 [iV aL, iV aH]]) rfl (e_boxA (cs := [iV aL, iV aH]) rfl) ?_))
 intro b1
 refine RW.eff (fun b2 : Nat => pV b2 0) (fun b2 => St ⟨w, Φ, []⟩ Φ [.blk b2 42 [iV bL, iV bH], .blk b1 42 [iV aL, iV aH]]) rfl (e_boxA (cs := [iV bL, iV bH]) rfl) ?_
 intro b2
 refine RW.q (v := .bool false) rfl (q_assign rfl) (RW.nil (Post.then_n (AW.seq (AW.draw (J0 := St ⟨w, Φ, []⟩ Φ [.blk b2 42 [iV bL, iV bH], .blk b1 42 [iV aL, iV aH]]) [.q, .q, .q, .q, .q, .q] [0, 1, 2, 3, 4, 5] hmix (by kernel_rfl) (DW.q (v := .agg #[iV aL, iV aH]) (fun _ h => h) rfl (q_loadAgg rfl uT42 rfl sz42 rfl (Cells.blk 1 rfl)) (DW.q (v := .agg #[iV bL, iV bH]) (fun _ h => h) rfl (q_loadAgg rfl uT42 rfl sz42 rfl (Cells.blk 0 rfl)) (DW.q (v := .agg #[iV (min aL bL), iV (max aH bH)]) (fun _ h => h) rfl (q_call (args := #[.agg #[iV aL, iV aH], .agg #[iV bL, iV bH]]) own61 rfl rfl (fun w1 hw1 => sJoin_c w1 (Go.K.hp w1) (Hp.le_refl _))) (DW.q (v := .agg #[iV bL, iV bH]) (fun _ h => h) rfl (q_loadAgg rfl uT42 rfl sz42 rfl (Cells.blk 0 rfl)) (DW.q (v := .bool (decide (min aL bL = bL) && decide (max aH bH = bH))) (fun _ h => h) rfl (q_eqlS rfl rfl (eqS42 _ _ _ _) eqG42) ?_)))))))))
 refine DW.q (v := .bool (decide (min aL bL = bL) && decide (max aH bH = bH))) (fun _ h => h) rfl (q_assign rfl) (DW.nil (Post.then_n (AW.ret ?_)))
 exact fin_val (v' := .bool (decide (min aL bL = bL) && decide (max aH bH = bH))) rfl rfl rfl (congrArg Value.bool (by rw [← Bool.decide_and]; exact decide_eq_decide.2 (by omega)))
theorem right_f {b : Bt.Basin} (h : rightB b = true) : RHead b ∧ RPlaces b ∧ RLinks b ∧ ROffices b ∧ RSlopes b ∧ RTowns b ∧ RGauges b ∧ RRoads b := by
 unfold rightB at h
 simp only [Bool.and_eq_true, decide_eq_true_eq] at h
 obtain ⟨⟨⟨⟨⟨⟨⟨⟨h1, _⟩, h2⟩, h3⟩, h4⟩, h5⟩, h6⟩, h7⟩, h8⟩ := h
 exact ⟨h1, h2, h3, h4, h5, h6, h7, h8⟩
theorem gauge_v {b : Bt.Basin} (hg : RGauges b) {k : Nat} (hk : k < b.Gauges.length) (h0 : (b.Gauges.getD k default).Kind = 0) : 0 ≤ (b.Gauges.getD k default).Target ∧ (b.Gauges.getD k default).Target < (b.Places.length : Int) := by
 have h := (hg k hk).2
 unfold tgBad at h
 rw [if_pos h0] at h
 simp [-List.getD_eq_getElem?_getD] at h
 exact h
end Go.Proofs.Ytblfeidlnhdekaa
