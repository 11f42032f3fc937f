/- Walks (part WalkK), printed by walk2.py. Conditions: those of each theorem. -/
import Derived.Test.YtblfeidlnhdekaaWalkJ
namespace Go.Proofs.Ytblfeidlnhdekaa
open Go Go.K Go.RowKit

set_option maxRecDepth 8000 in
set_option maxHeartbeats 2000000 in
theorem narrowed_c (w : World) (Φ : Hp) (hΦ : Hp.le Φ (hp w)) {b : Bt.Basin} {cs : List Value} (hB : RepV Φ b cs) {h : Bt.Hull} {hcs : List Value} (hH : RepV Φ h hcs) {x : Bt.Reading} (hwx0 : I64 x.Value.Lo ∧ I64 x.Value.Hi) (hfV : h.Vol.length ≤ 1000) (hfK : h.Links.length ≤ 1000) :
    Calls Try.prog 45 #[.agg cs.toArray, .agg hcs.toArray, .agg #[.int .i64 x.Gauge, .int .i64 x.Hour, .int .i64 x.Value.Lo, .int .i64 x.Value.Hi]] w (RetS Φ w fun r Ψ => ∃ hcs2 : List Value, r = .tuple #[.agg hcs2.toArray, .bool (Fu.badF b h x)] ∧ RepV Ψ (Fu.hullOf h (Fu.narF b h x)) hcs2) := by
  obtain ⟨v1, v3, v4, v5, v6, v7, v8, v9, hcs, hBw, r1, r3, r4, r5, r6, r7, r8, r9⟩ := (show Rep.rep Φ b cs from hB)
  subst hcs
  have hpm : b.Places.length * 152 ≤ 140737488355328 := r3.max
  have hgm : b.Gauges.length * 48 ≤ 140737488355328 := r6.max
  obtain ⟨hv1, hv2, hv3, hhcs, hhw, hr1, hr2, hr3⟩ := (show Rep.rep Φ h hcs from hH)
  subst hhcs
  have hm1 : h.Vol.length * 16 ≤ 140737488355328 := hr1.max
  have hm2 : h.Queue.length * 32 ≤ 140737488355328 := hr2.max
  have hm3 : h.Links.length * 40 ≤ 140737488355328 := hr3.max
  refine calls_of_AW (args := [.agg #[.string b.Name, v1, .int .i64 b.Cells, v3, v4, v5, v6, v7, v8, v9, .int .i64 b.Err], .agg #[.int .i64 h.Hour, hv1, hv2, hv3], .agg #[.int .i64 x.Gauge, .int .i64 x.Hour, .int .i64 x.Value.Lo, .int .i64 x.Value.Hi]]) Try.func45 rfl (Nat.le_of_ble_eq_true rfl) (St ⟨w, Φ, []⟩ Φ []) (StP.init w Φ hΦ []) ?_
  show AW Try.prog 121 [] _ _ _ [(0, .agg #[.string b.Name, v1, .int .i64 b.Cells, v3, v4, v5, v6, v7, v8, v9, .int .i64 b.Err]), (1, .agg #[.int .i64 h.Hour, hv1, hv2, hv3]), (2, .agg #[.int .i64 x.Gauge, .int .i64 x.Hour, .int .i64 x.Value.Lo, .int .i64 x.Value.Hi])] _
  have hwx := hwx0
  obtain ⟨hx1, hx2⟩ := hwx
  refine AW.seq ?_
  refine AW.region ?_
  refine RW.eff (fun b1 : Nat => .pointer (some (⟨b1, 0, none⟩))) (fun b1 => St ⟨w, Φ, []⟩ Φ [.blk b1 31 [.string b.Name, v1, .int .i64 b.Cells, v3, v4, v5, v6, v7, v8, v9, .int .i64 b.Err]]) rfl (e_boxA (cs := [.string b.Name, v1, .int .i64 b.Cells, v3, v4, v5, v6, v7, v8, v9, .int .i64 b.Err]) rfl) ?_
  intro b1
  refine RW.eff (fun b2 : Nat => .pointer (some (⟨b2, 0, none⟩))) (fun b2 => St ⟨w, Φ, []⟩ Φ [.blk b2 36 [.int .i64 h.Hour, hv1, hv2, hv3], .blk b1 31 [.string b.Name, v1, .int .i64 b.Cells, v3, v4, v5, v6, v7, v8, v9, .int .i64 b.Err]]) rfl (e_boxA (cs := [.int .i64 h.Hour, hv1, hv2, hv3]) rfl) ?_
  intro b2
  refine RW.eff (fun b3 : Nat => .pointer (some (⟨b3, 0, none⟩))) (fun b3 => St ⟨w, Φ, []⟩ Φ [.blk b3 46 [.int .i64 x.Gauge, .int .i64 x.Hour, .int .i64 x.Value.Lo, .int .i64 x.Value.Hi], .blk b2 36 [.int .i64 h.Hour, hv1, hv2, hv3], .blk b1 31 [.string b.Name, v1, .int .i64 b.Cells, v3, v4, v5, v6, v7, v8, v9, .int .i64 b.Err]]) rfl (e_boxA (cs := [.int .i64 x.Gauge, .int .i64 x.Hour, .int .i64 x.Value.Lo, .int .i64 x.Value.Hi]) rfl) ?_
  intro b3
  refine RW.eff (fun b4 : Nat => .pointer (some (⟨b4, 0, none⟩))) (fun b4 => St ⟨w, Φ, []⟩ Φ [.blk b4 36 [.int .i64 0, (.slice none 0 0), (.slice none 0 0), (.slice none 0 0)], .blk b3 46 [.int .i64 x.Gauge, .int .i64 x.Hour, .int .i64 x.Value.Lo, .int .i64 x.Value.Hi], .blk b2 36 [.int .i64 h.Hour, hv1, hv2, hv3], .blk b1 31 [.string b.Name, v1, .int .i64 b.Cells, v3, v4, v5, v6, v7, v8, v9, .int .i64 b.Err]]) rfl (e_alloc zero36) ?_
  intro b4
  refine RW.q (v := .bool false) rfl (q_assign rfl) ?_
  refine RW.nil ?_
  refine Post.then_n ?_
  refine AW.seq ?_
  refine AW.region ?_
  refine RW.q (v := .agg #[.string b.Name, v1, .int .i64 b.Cells, v3, v4, v5, v6, v7, v8, v9, .int .i64 b.Err]) rfl (q_loadAgg rfl Try.underlying31 rfl sz31 rfl (Cells.blk 3 rfl)) ?_
  refine RW.q (v := .agg #[.int .i64 x.Gauge, .int .i64 x.Hour, .int .i64 x.Value.Lo, .int .i64 x.Value.Hi]) rfl (q_loadAgg rfl Try.underlying46 rfl sz46 rfl (Cells.blk 1 rfl)) ?_
  refine RW.q (v := .tuple #[.agg #[.string ((Fu.gaugeAt b.Gauges x.Gauge).Name), .int .i64 ((Fu.gaugeAt b.Gauges x.Gauge).Kind), .int .i64 ((Fu.gaugeAt b.Gauges x.Gauge).Target), .int .i64 ((Fu.gaugeAt b.Gauges x.Gauge).Err), .int .i64 ((Fu.gaugeAt b.Gauges x.Gauge).Drift)], .bool (decide (Fu.inG b.Gauges x.Gauge))]) rfl (q_call (args := #[.agg #[.string b.Name, v1, .int .i64 b.Cells, v3, v4, v5, v6, v7, v8, v9, .int .i64 b.Err], .agg #[.int .i64 x.Gauge, .int .i64 x.Hour, .int .i64 x.Value.Lo, .int .i64 x.Value.Hi]]) own31 rfl rfl (fun w1 hw1 => gauged_c w1 (Go.K.hp w1) (Hp.le_refl _) (hB.mono hw1.phi) (r := x))) ?_
  refine RW.q (v := .tuple #[.agg #[.string ((Fu.gaugeAt b.Gauges x.Gauge).Name), .int .i64 ((Fu.gaugeAt b.Gauges x.Gauge).Kind), .int .i64 ((Fu.gaugeAt b.Gauges x.Gauge).Target), .int .i64 ((Fu.gaugeAt b.Gauges x.Gauge).Err), .int .i64 ((Fu.gaugeAt b.Gauges x.Gauge).Drift)], .bool (decide (Fu.inG b.Gauges x.Gauge))]) rfl (q_move rfl) ?_
  refine RW.q (v := .agg #[.string ((Fu.gaugeAt b.Gauges x.Gauge).Name), .int .i64 ((Fu.gaugeAt b.Gauges x.Gauge).Kind), .int .i64 ((Fu.gaugeAt b.Gauges x.Gauge).Target), .int .i64 ((Fu.gaugeAt b.Gauges x.Gauge).Err), .int .i64 ((Fu.gaugeAt b.Gauges x.Gauge).Drift)]) rfl (q_extract rfl rfl) ?_
  refine RW.q (v := .bool (decide (Fu.inG b.Gauges x.Gauge))) rfl (q_extract rfl rfl) ?_
  refine RW.eff (fun b5 : Nat => .pointer (some (⟨b5, 0, none⟩))) (fun b5 => St ⟨w, Φ, []⟩ Φ [.blk b5 58 [.string (bs ([])), .int .i64 0, .int .i64 0, .int .i64 0, .int .i64 0], .blk b4 36 [.int .i64 0, (.slice none 0 0), (.slice none 0 0), (.slice none 0 0)], .blk b3 46 [.int .i64 x.Gauge, .int .i64 x.Hour, .int .i64 x.Value.Lo, .int .i64 x.Value.Hi], .blk b2 36 [.int .i64 h.Hour, hv1, hv2, hv3], .blk b1 31 [.string b.Name, v1, .int .i64 b.Cells, v3, v4, v5, v6, v7, v8, v9, .int .i64 b.Err]]) rfl (e_alloc zero58) ?_
  intro b5
  refine RW.effn (J' := St ⟨w, Φ, []⟩ Φ [.blk b5 58 [.string ((Fu.gaugeAt b.Gauges x.Gauge).Name), .int .i64 ((Fu.gaugeAt b.Gauges x.Gauge).Kind), .int .i64 ((Fu.gaugeAt b.Gauges x.Gauge).Target), .int .i64 ((Fu.gaugeAt b.Gauges x.Gauge).Err), .int .i64 ((Fu.gaugeAt b.Gauges x.Gauge).Drift)], .blk b4 36 [.int .i64 0, (.slice none 0 0), (.slice none 0 0), (.slice none 0 0)], .blk b3 46 [.int .i64 x.Gauge, .int .i64 x.Hour, .int .i64 x.Value.Lo, .int .i64 x.Value.Hi], .blk b2 36 [.int .i64 h.Hour, hv1, hv2, hv3], .blk b1 31 [.string b.Name, v1, .int .i64 b.Cells, v3, v4, v5, v6, v7, v8, v9, .int .i64 b.Err]]) (e_store (v := .agg #[.string ((Fu.gaugeAt b.Gauges x.Gauge).Name), .int .i64 ((Fu.gaugeAt b.Gauges x.Gauge).Kind), .int .i64 ((Fu.gaugeAt b.Gauges x.Gauge).Target), .int .i64 ((Fu.gaugeAt b.Gauges x.Gauge).Err), .int .i64 ((Fu.gaugeAt b.Gauges x.Gauge).Drift)]) 0 rfl rfl rfl sz58 rfl rfl rfl rfl rfl) ?_
  refine RW.q (v := .bool (decide (Fu.inG b.Gauges x.Gauge))) rfl (q_assign rfl) ?_
  refine RW.nil ?_
  refine Post.then_n ?_
  refine AW.seq ?_
  refine AW.seq ?_
  refine AW.region ?_
  refine RW.q (v := .bool (decide (Fu.inG b.Gauges x.Gauge))) rfl (q_move rfl) ?_
  refine RW.q (v := .bool (!(decide (Fu.inG b.Gauges x.Gauge)))) rfl (q_not rfl) ?_
  refine RW.nil ?_
  refine Post.then_n ?_
  refine AW.cond (b := !(decide (Fu.inG b.Gauges x.Gauge))) rfl (fun hc1 => ?_) (fun hc1 => ?_)
  · simp [-List.getD_eq_getElem?_getD] at hc1
    refine AW.seq ?_
    refine AW.region ?_
    refine RW.q (v := .agg #[.int .i64 h.Hour, hv1, hv2, hv3]) rfl (q_loadAgg rfl Try.underlying36 rfl sz36 rfl (Cells.blk 3 rfl)) ?_
    refine RW.effn (J' := St ⟨w, Φ, []⟩ Φ [.blk b5 58 [.string ((Fu.gaugeAt b.Gauges x.Gauge).Name), .int .i64 ((Fu.gaugeAt b.Gauges x.Gauge).Kind), .int .i64 ((Fu.gaugeAt b.Gauges x.Gauge).Target), .int .i64 ((Fu.gaugeAt b.Gauges x.Gauge).Err), .int .i64 ((Fu.gaugeAt b.Gauges x.Gauge).Drift)], .blk b4 36 [.int .i64 h.Hour, hv1, hv2, hv3], .blk b3 46 [.int .i64 x.Gauge, .int .i64 x.Hour, .int .i64 x.Value.Lo, .int .i64 x.Value.Hi], .blk b2 36 [.int .i64 h.Hour, hv1, hv2, hv3], .blk b1 31 [.string b.Name, v1, .int .i64 b.Cells, v3, v4, v5, v6, v7, v8, v9, .int .i64 b.Err]]) (e_store (v := .agg #[.int .i64 h.Hour, hv1, hv2, hv3]) 1 rfl rfl rfl sz36 rfl (by show List.all [_, hv1, hv2, hv3] _ = true; simp only [List.all_cons, List.all_nil, oneCell_sl hr1.sl, oneCell_sl hr2.sl, oneCell_sl hr3.sl]; rfl) rfl rfl rfl) ?_
    refine RW.q (v := .bool false) rfl (q_assign rfl) ?_
    refine RW.nil ?_
    refine Post.then_n ?_
    refine AW.ret ?_
    refine Post.then_r ?_
    obtain ⟨e1, e2⟩ := (Fu.nar0 (b := b) (h := h) (r := x) (Fu.kind0 (.inl (by simpa using hc1))))
    refine fin_cell2 (cs := [.int .i64 h.Hour, hv1, hv2, hv3]) (v := .bool false) rfl rfl rfl rfl Try.underlying36 rfl sz36 rfl (Cells.blk 1 rfl) (fun w' hw => ?_)
    refine ⟨_, rfl, hw.below rfl, [.int .i64 h.Hour, hv1, hv2, hv3], ?_, ?_⟩
    · rw [e2]
    · rw [e1]
      refine ⟨_, _, _, rfl, hhw, ?_, hr2.mono hw.phi_ext, ?_⟩
      · exact hr1.mono hw.phi_ext
      · exact hr3.mono hw.phi_ext
  · simp [-List.getD_eq_getElem?_getD] at hc1
    refine AW.skip ?_
    refine Post.then_n ?_
    refine AW.seq ?_
    refine AW.seq ?_
    have hin : Fu.inG b.Gauges x.Gauge := by simpa using hc1
    refine AW.region ?_
    refine RW.q (v := .pointer (some (⟨b5, 1, none⟩))) rfl (q_fieldAddr rfl Try.underlying58 rfl sz3 rfl) ?_
    refine RW.q (v := .int .i64 ((Fu.gaugeAt b.Gauges x.Gauge).Kind)) rfl (q_load rfl Try.underlying3 rfl (Cell.blk 0 rfl rfl)) ?_
    refine RW.q (v := .bool (decide ((Fu.gaugeAt b.Gauges x.Gauge).Kind = 0))) rfl (q_eql rfl rfl) ?_
    refine RW.q (v := .bool (decide ((Fu.gaugeAt b.Gauges x.Gauge).Kind = 0))) rfl (q_move rfl) ?_
    refine RW.g (b := (decide ((Fu.gaugeAt b.Gauges x.Gauge).Kind = 0))) (v := .pointer (some (⟨b5, 2, none⟩))) rfl rfl rfl (fun h => q_fieldAddr rfl Try.underlying58 rfl sz3 rfl) ?_
    refine RW.g (b := (decide ((Fu.gaugeAt b.Gauges x.Gauge).Kind = 0))) (v := .int .i64 ((Fu.gaugeAt b.Gauges x.Gauge).Target)) rfl rfl rfl (fun h => q_load (gv_pos h) Try.underlying3 rfl (Cell.blk 0 rfl rfl)) ?_
    refine RW.g (b := (decide ((Fu.gaugeAt b.Gauges x.Gauge).Kind = 0))) (v := .bool (decide ((0 : Int) ≤ (Fu.gaugeAt b.Gauges x.Gauge).Target))) rfl rfl rfl (fun h => q_geq (gv_pos h) rfl) ?_
    refine RW.q (v := .bool ((decide ((Fu.gaugeAt b.Gauges x.Gauge).Kind = 0)) && (decide ((0 : Int) ≤ (Fu.gaugeAt b.Gauges x.Gauge).Target)))) rfl (q_pick rfl (fun hp => (gv_pos hp).trans (pkAndT hp)) (fun hp => pkAndF hp)) ?_
    refine RW.q (v := .bool ((decide ((Fu.gaugeAt b.Gauges x.Gauge).Kind = 0)) && (decide ((0 : Int) ≤ (Fu.gaugeAt b.Gauges x.Gauge).Target)))) rfl (q_move rfl) ?_
    refine RW.g (b := ((decide ((Fu.gaugeAt b.Gauges x.Gauge).Kind = 0)) && (decide ((0 : Int) ≤ (Fu.gaugeAt b.Gauges x.Gauge).Target)))) (v := .pointer (some (⟨b5, 2, none⟩))) rfl rfl rfl (fun h => q_fieldAddr rfl Try.underlying58 rfl sz3 rfl) ?_
    refine RW.g (b := ((decide ((Fu.gaugeAt b.Gauges x.Gauge).Kind = 0)) && (decide ((0 : Int) ≤ (Fu.gaugeAt b.Gauges x.Gauge).Target)))) (v := .int .i64 ((Fu.gaugeAt b.Gauges x.Gauge).Target)) rfl rfl rfl (fun h => q_load (gv_pos h) Try.underlying3 rfl (Cell.blk 0 rfl rfl)) ?_
    refine RW.g (b := ((decide ((Fu.gaugeAt b.Gauges x.Gauge).Kind = 0)) && (decide ((0 : Int) ≤ (Fu.gaugeAt b.Gauges x.Gauge).Target)))) (v := .pointer (some (⟨b2, 1, none⟩))) rfl rfl rfl (fun h => q_fieldAddr rfl Try.underlying36 rfl sz32 rfl) ?_
    refine RW.g (b := ((decide ((Fu.gaugeAt b.Gauges x.Gauge).Kind = 0)) && (decide ((0 : Int) ≤ (Fu.gaugeAt b.Gauges x.Gauge).Target)))) (v := hv1) rfl rfl rfl (fun h => q_load (gv_pos h) Try.underlying32 rfl (Cell.blk 3 rfl rfl)) ?_
    refine RW.g (b := ((decide ((Fu.gaugeAt b.Gauges x.Gauge).Kind = 0)) && (decide ((0 : Int) ≤ (Fu.gaugeAt b.Gauges x.Gauge).Target)))) (v := .int .i64 ((h.Vol.length : Nat) : Int)) rfl rfl rfl (fun h => q_len_sl (gv_pos h) hr1.sl Try.underlying32) ?_
    refine RW.g (b := ((decide ((Fu.gaugeAt b.Gauges x.Gauge).Kind = 0)) && (decide ((0 : Int) ≤ (Fu.gaugeAt b.Gauges x.Gauge).Target)))) (v := .bool (decide ((Fu.gaugeAt b.Gauges x.Gauge).Target < ((h.Vol.length : Nat) : Int)))) rfl rfl rfl (fun h => q_lss (gv_pos h) (gv_pos h)) ?_
    refine RW.q (v := .bool (((decide ((Fu.gaugeAt b.Gauges x.Gauge).Kind = 0)) && (decide ((0 : Int) ≤ (Fu.gaugeAt b.Gauges x.Gauge).Target))) && (decide ((Fu.gaugeAt b.Gauges x.Gauge).Target < ((h.Vol.length : Nat) : Int))))) rfl (q_pick rfl (fun hp => (gv_pos hp).trans (pkAndT hp)) (fun hp => pkAndF hp)) ?_
    refine RW.nil ?_
    refine Post.then_n ?_
    refine AW.cond (b := ((decide ((Fu.gaugeAt b.Gauges x.Gauge).Kind = 0)) && (decide ((0 : Int) ≤ (Fu.gaugeAt b.Gauges x.Gauge).Target))) && (decide ((Fu.gaugeAt b.Gauges x.Gauge).Target < ((h.Vol.length : Nat) : Int)))) rfl (fun hc2 => ?_) (fun hc2 => ?_)
    · simp [-List.getD_eq_getElem?_getD] at hc2
      refine AW.seq ?_
      refine AW.region ?_
      refine RW.q (v := .agg #[.string b.Name, v1, .int .i64 b.Cells, v3, v4, v5, v6, v7, v8, v9, .int .i64 b.Err]) rfl (q_loadAgg rfl Try.underlying31 rfl sz31 rfl (Cells.blk 4 rfl)) ?_
      refine RW.q (v := .agg #[.int .i64 x.Gauge, .int .i64 x.Hour, .int .i64 x.Value.Lo, .int .i64 x.Value.Hi]) rfl (q_loadAgg rfl Try.underlying46 rfl sz46 rfl (Cells.blk 2 rfl)) ?_
      refine RW.q (v := .tuple #[.agg #[.int .i64 (Fu.loOf (Fu.volR b x)), .int .i64 (Fu.hiOf (Fu.volR b x))], .bool ((Fu.volR b x).isSome)]) rfl (q_call (args := #[.agg #[.string b.Name, v1, .int .i64 b.Cells, v3, v4, v5, v6, v7, v8, v9, .int .i64 b.Err], .agg #[.int .i64 x.Gauge, .int .i64 x.Hour, .int .i64 x.Value.Lo, .int .i64 x.Value.Hi]]) own11 rfl rfl (fun w1 hw1 => rVolume_c w1 (Go.K.hp w1) (Hp.le_refl _) (hB.mono hw1.phi) (r := x) ⟨hx1, hx2⟩)) ?_
      refine RW.q (v := .tuple #[.agg #[.int .i64 (Fu.loOf (Fu.volR b x)), .int .i64 (Fu.hiOf (Fu.volR b x))], .bool ((Fu.volR b x).isSome)]) rfl (q_move rfl) ?_
      refine RW.q (v := .agg #[.int .i64 (Fu.loOf (Fu.volR b x)), .int .i64 (Fu.hiOf (Fu.volR b x))]) rfl (q_extract rfl rfl) ?_
      refine RW.q (v := .bool ((Fu.volR b x).isSome)) rfl (q_extract rfl rfl) ?_
      refine RW.eff (fun b6 : Nat => .pointer (some (⟨b6, 0, none⟩))) (fun b6 => St ⟨w, Φ, []⟩ Φ [.blk b6 42 [.int .i64 0, .int .i64 0], .blk b5 58 [.string ((Fu.gaugeAt b.Gauges x.Gauge).Name), .int .i64 ((Fu.gaugeAt b.Gauges x.Gauge).Kind), .int .i64 ((Fu.gaugeAt b.Gauges x.Gauge).Target), .int .i64 ((Fu.gaugeAt b.Gauges x.Gauge).Err), .int .i64 ((Fu.gaugeAt b.Gauges x.Gauge).Drift)], .blk b4 36 [.int .i64 0, (.slice none 0 0), (.slice none 0 0), (.slice none 0 0)], .blk b3 46 [.int .i64 x.Gauge, .int .i64 x.Hour, .int .i64 x.Value.Lo, .int .i64 x.Value.Hi], .blk b2 36 [.int .i64 h.Hour, hv1, hv2, hv3], .blk b1 31 [.string b.Name, v1, .int .i64 b.Cells, v3, v4, v5, v6, v7, v8, v9, .int .i64 b.Err]]) rfl (e_alloc zero42) ?_
      intro b6
      refine RW.effn (J' := St ⟨w, Φ, []⟩ Φ [.blk b6 42 [.int .i64 (Fu.loOf (Fu.volR b x)), .int .i64 (Fu.hiOf (Fu.volR b x))], .blk b5 58 [.string ((Fu.gaugeAt b.Gauges x.Gauge).Name), .int .i64 ((Fu.gaugeAt b.Gauges x.Gauge).Kind), .int .i64 ((Fu.gaugeAt b.Gauges x.Gauge).Target), .int .i64 ((Fu.gaugeAt b.Gauges x.Gauge).Err), .int .i64 ((Fu.gaugeAt b.Gauges x.Gauge).Drift)], .blk b4 36 [.int .i64 0, (.slice none 0 0), (.slice none 0 0), (.slice none 0 0)], .blk b3 46 [.int .i64 x.Gauge, .int .i64 x.Hour, .int .i64 x.Value.Lo, .int .i64 x.Value.Hi], .blk b2 36 [.int .i64 h.Hour, hv1, hv2, hv3], .blk b1 31 [.string b.Name, v1, .int .i64 b.Cells, v3, v4, v5, v6, v7, v8, v9, .int .i64 b.Err]]) (e_store (v := .agg #[.int .i64 (Fu.loOf (Fu.volR b x)), .int .i64 (Fu.hiOf (Fu.volR b x))]) 0 rfl rfl rfl sz42 rfl rfl rfl rfl rfl) ?_
      refine RW.q (v := .bool ((Fu.volR b x).isSome)) rfl (q_assign rfl) ?_
      refine RW.nil ?_
      refine Post.then_n ?_
      refine AW.seq ?_
      have hB_0 := hB
      have r3_0 := r3
      have r6_0 := r6
      have hH_0 := hH
      have hr1_0 := hr1
      have hr2_0 := hr2
      have hr3_0 := hr3
      refine AW.draw (J0 := St ⟨w, Φ, []⟩ Φ [.blk b6 42 [.int .i64 (Fu.loOf (Fu.volR b x)), .int .i64 (Fu.hiOf (Fu.volR b x))], .blk b5 58 [.string ((Fu.gaugeAt b.Gauges x.Gauge).Name), .int .i64 ((Fu.gaugeAt b.Gauges x.Gauge).Kind), .int .i64 ((Fu.gaugeAt b.Gauges x.Gauge).Target), .int .i64 ((Fu.gaugeAt b.Gauges x.Gauge).Err), .int .i64 ((Fu.gaugeAt b.Gauges x.Gauge).Drift)], .blk b4 36 [.int .i64 0, (.slice none 0 0), (.slice none 0 0), (.slice none 0 0)], .blk b3 46 [.int .i64 x.Gauge, .int .i64 x.Hour, .int .i64 x.Value.Lo, .int .i64 x.Value.Hi], .blk b2 36 [.int .i64 h.Hour, hv1, hv2, hv3], .blk b1 31 [.string b.Name, v1, .int .i64 b.Cells, v3, v4, v5, v6, v7, v8, v9, .int .i64 b.Err]]) [.q, .q, .q, .q, .q, .q, .q, .q, .q, .q, .q, .e, .e, .q] [0, 1, 2, 3, 4, 5, 6, 7, 8, 9, 10, 11, 12, 13] hmix (by kernel_rfl) ?_
      refine DW.q (v := .pointer (some (⟨b2, 1, none⟩))) (fun _ h => h) rfl (q_fieldAddr rfl Try.underlying36 rfl sz32 rfl) ?_
      refine DW.q (v := hv1) (fun _ h => h) rfl (q_load rfl Try.underlying32 rfl (Cell.blk 4 rfl rfl)) ?_
      refine DW.q (v := .pointer (some (⟨b5, 2, none⟩))) (fun _ h => h) rfl (q_fieldAddr rfl Try.underlying58 rfl sz3 rfl) ?_
      refine DW.q (v := .int .i64 ((Fu.gaugeAt b.Gauges x.Gauge).Target)) (fun _ h => h) rfl (q_load rfl Try.underlying3 rfl (Cell.blk 1 rfl rfl)) ?_
      refine DW.q (v := .pointer (some (Value.at hv1 ((((Fu.gaugeAt b.Gauges x.Gauge).Target).toNat) * 2)))) (fun _ h => h) rfl (q_indexAddr rfl rfl hr1.sl Try.underlying32 sz42 (by omega) (by omega) rfl) ?_
      refine DW.q (v := .agg #[.int .i64 ((h.Vol.getD (((Fu.gaugeAt b.Gauges x.Gauge).Target).toNat) default).Lo), .int .i64 ((h.Vol.getD (((Fu.gaugeAt b.Gauges x.Gauge).Target).toNat) default).Hi)]) (fun _ h => h) rfl (q_loadAgg rfl Try.underlying42 rfl sz42 rfl (Cells.repE hr1 (by omega) rfl)) ?_
      refine DW.q (v := .agg #[.int .i64 (Fu.loOf (Fu.volR b x)), .int .i64 (Fu.hiOf (Fu.volR b x))]) (fun _ h => h) rfl (q_loadAgg rfl Try.underlying42 rfl sz42 rfl (Cells.blk 0 rfl)) ?_
      refine DW.q (v := .tuple #[.agg #[.int .i64 (Fu.loOf (Fu.meet ((h.Vol.getD (((Fu.gaugeAt b.Gauges x.Gauge).Target).toNat) default).Lo) ((h.Vol.getD (((Fu.gaugeAt b.Gauges x.Gauge).Target).toNat) default).Hi) (Fu.loOf (Fu.volR b x)) (Fu.hiOf (Fu.volR b x)))), .int .i64 (Fu.hiOf (Fu.meet ((h.Vol.getD (((Fu.gaugeAt b.Gauges x.Gauge).Target).toNat) default).Lo) ((h.Vol.getD (((Fu.gaugeAt b.Gauges x.Gauge).Target).toNat) default).Hi) (Fu.loOf (Fu.volR b x)) (Fu.hiOf (Fu.volR b x))))], .bool ((Fu.meet ((h.Vol.getD (((Fu.gaugeAt b.Gauges x.Gauge).Target).toNat) default).Lo) ((h.Vol.getD (((Fu.gaugeAt b.Gauges x.Gauge).Target).toNat) default).Hi) (Fu.loOf (Fu.volR b x)) (Fu.hiOf (Fu.volR b x))).isSome)]) (fun _ h => h) rfl (q_call (args := #[.agg #[.int .i64 ((h.Vol.getD (((Fu.gaugeAt b.Gauges x.Gauge).Target).toNat) default).Lo), .int .i64 ((h.Vol.getD (((Fu.gaugeAt b.Gauges x.Gauge).Target).toNat) default).Hi)], .agg #[.int .i64 (Fu.loOf (Fu.volR b x)), .int .i64 (Fu.hiOf (Fu.volR b x))]]) own75 rfl rfl (fun w1 hw1 => rMeet_c w1 (Go.K.hp w1) (Hp.le_refl _))) ?_
      refine DW.q (v := .tuple #[.agg #[.int .i64 (Fu.loOf (Fu.meet ((h.Vol.getD (((Fu.gaugeAt b.Gauges x.Gauge).Target).toNat) default).Lo) ((h.Vol.getD (((Fu.gaugeAt b.Gauges x.Gauge).Target).toNat) default).Hi) (Fu.loOf (Fu.volR b x)) (Fu.hiOf (Fu.volR b x)))), .int .i64 (Fu.hiOf (Fu.meet ((h.Vol.getD (((Fu.gaugeAt b.Gauges x.Gauge).Target).toNat) default).Lo) ((h.Vol.getD (((Fu.gaugeAt b.Gauges x.Gauge).Target).toNat) default).Hi) (Fu.loOf (Fu.volR b x)) (Fu.hiOf (Fu.volR b x))))], .bool ((Fu.meet ((h.Vol.getD (((Fu.gaugeAt b.Gauges x.Gauge).Target).toNat) default).Lo) ((h.Vol.getD (((Fu.gaugeAt b.Gauges x.Gauge).Target).toNat) default).Hi) (Fu.loOf (Fu.volR b x)) (Fu.hiOf (Fu.volR b x))).isSome)]) (fun _ h => h) rfl (q_move rfl) ?_
      refine DW.q (v := .agg #[.int .i64 (Fu.loOf (Fu.meet ((h.Vol.getD (((Fu.gaugeAt b.Gauges x.Gauge).Target).toNat) default).Lo) ((h.Vol.getD (((Fu.gaugeAt b.Gauges x.Gauge).Target).toNat) default).Hi) (Fu.loOf (Fu.volR b x)) (Fu.hiOf (Fu.volR b x)))), .int .i64 (Fu.hiOf (Fu.meet ((h.Vol.getD (((Fu.gaugeAt b.Gauges x.Gauge).Target).toNat) default).Lo) ((h.Vol.getD (((Fu.gaugeAt b.Gauges x.Gauge).Target).toNat) default).Hi) (Fu.loOf (Fu.volR b x)) (Fu.hiOf (Fu.volR b x))))]) (fun _ h => h) rfl (q_extract rfl rfl) ?_
      refine DW.q (v := .bool ((Fu.meet ((h.Vol.getD (((Fu.gaugeAt b.Gauges x.Gauge).Target).toNat) default).Lo) ((h.Vol.getD (((Fu.gaugeAt b.Gauges x.Gauge).Target).toNat) default).Hi) (Fu.loOf (Fu.volR b x)) (Fu.hiOf (Fu.volR b x))).isSome)) (fun _ h => h) rfl (q_extract rfl rfl) ?_
      refine DW.eff (fun b7 : Nat => .pointer (some (⟨b7, 0, none⟩))) (fun b7 => St ⟨w, Φ, []⟩ Φ [.blk b7 42 [.int .i64 0, .int .i64 0], .blk b6 42 [.int .i64 (Fu.loOf (Fu.volR b x)), .int .i64 (Fu.hiOf (Fu.volR b x))], .blk b5 58 [.string ((Fu.gaugeAt b.Gauges x.Gauge).Name), .int .i64 ((Fu.gaugeAt b.Gauges x.Gauge).Kind), .int .i64 ((Fu.gaugeAt b.Gauges x.Gauge).Target), .int .i64 ((Fu.gaugeAt b.Gauges x.Gauge).Err), .int .i64 ((Fu.gaugeAt b.Gauges x.Gauge).Drift)], .blk b4 36 [.int .i64 0, (.slice none 0 0), (.slice none 0 0), (.slice none 0 0)], .blk b3 46 [.int .i64 x.Gauge, .int .i64 x.Hour, .int .i64 x.Value.Lo, .int .i64 x.Value.Hi], .blk b2 36 [.int .i64 h.Hour, hv1, hv2, hv3], .blk b1 31 [.string b.Name, v1, .int .i64 b.Cells, v3, v4, v5, v6, v7, v8, v9, .int .i64 b.Err]]) (fun _ _ => (fun _ h => (StP.drop h (by exact .cons _ (.cons_cons _ (.cons_cons _ (.cons_cons _ (.cons_cons _ (.cons_cons _ (.cons_cons _ (.slnil))))))))))) rfl (e_alloc zero42) ?_
      intro b7
      refine DW.effn (J' := St ⟨w, Φ, []⟩ Φ [.blk b7 42 [.int .i64 (Fu.loOf (Fu.meet ((h.Vol.getD (((Fu.gaugeAt b.Gauges x.Gauge).Target).toNat) default).Lo) ((h.Vol.getD (((Fu.gaugeAt b.Gauges x.Gauge).Target).toNat) default).Hi) (Fu.loOf (Fu.volR b x)) (Fu.hiOf (Fu.volR b x)))), .int .i64 (Fu.hiOf (Fu.meet ((h.Vol.getD (((Fu.gaugeAt b.Gauges x.Gauge).Target).toNat) default).Lo) ((h.Vol.getD (((Fu.gaugeAt b.Gauges x.Gauge).Target).toNat) default).Hi) (Fu.loOf (Fu.volR b x)) (Fu.hiOf (Fu.volR b x))))], .blk b6 42 [.int .i64 (Fu.loOf (Fu.volR b x)), .int .i64 (Fu.hiOf (Fu.volR b x))], .blk b5 58 [.string ((Fu.gaugeAt b.Gauges x.Gauge).Name), .int .i64 ((Fu.gaugeAt b.Gauges x.Gauge).Kind), .int .i64 ((Fu.gaugeAt b.Gauges x.Gauge).Target), .int .i64 ((Fu.gaugeAt b.Gauges x.Gauge).Err), .int .i64 ((Fu.gaugeAt b.Gauges x.Gauge).Drift)], .blk b4 36 [.int .i64 0, (.slice none 0 0), (.slice none 0 0), (.slice none 0 0)], .blk b3 46 [.int .i64 x.Gauge, .int .i64 x.Hour, .int .i64 x.Value.Lo, .int .i64 x.Value.Hi], .blk b2 36 [.int .i64 h.Hour, hv1, hv2, hv3], .blk b1 31 [.string b.Name, v1, .int .i64 b.Cells, v3, v4, v5, v6, v7, v8, v9, .int .i64 b.Err]]) (fun _ => (fun _ h => (StP.drop h (by exact .cons _ (.cons_cons _ (.cons_cons _ (.cons_cons _ (.cons_cons _ (.cons_cons _ (.cons_cons _ (.slnil))))))))))) (e_store (v := .agg #[.int .i64 (Fu.loOf (Fu.meet ((h.Vol.getD (((Fu.gaugeAt b.Gauges x.Gauge).Target).toNat) default).Lo) ((h.Vol.getD (((Fu.gaugeAt b.Gauges x.Gauge).Target).toNat) default).Hi) (Fu.loOf (Fu.volR b x)) (Fu.hiOf (Fu.volR b x)))), .int .i64 (Fu.hiOf (Fu.meet ((h.Vol.getD (((Fu.gaugeAt b.Gauges x.Gauge).Target).toNat) default).Lo) ((h.Vol.getD (((Fu.gaugeAt b.Gauges x.Gauge).Target).toNat) default).Hi) (Fu.loOf (Fu.volR b x)) (Fu.hiOf (Fu.volR b x))))]) 0 rfl rfl rfl sz42 rfl rfl rfl rfl rfl) ?_
      refine DW.q (v := .bool ((Fu.meet ((h.Vol.getD (((Fu.gaugeAt b.Gauges x.Gauge).Target).toNat) default).Lo) ((h.Vol.getD (((Fu.gaugeAt b.Gauges x.Gauge).Target).toNat) default).Hi) (Fu.loOf (Fu.volR b x)) (Fu.hiOf (Fu.volR b x))).isSome)) (fun _ h => (StP.drop h (by exact .cons _ (.cons_cons _ (.cons_cons _ (.cons_cons _ (.cons_cons _ (.cons_cons _ (.cons_cons _ (.slnil)))))))))) rfl (q_assign rfl) ?_
      refine DW.nil ?_
      refine Post.then_n ?_
      refine AW.seq ?_
      refine AW.seq ?_
      refine AW.region ?_
      refine RW.q (v := .bool ((Fu.volR b x).isSome)) rfl (q_move rfl) ?_
      refine RW.q (v := .bool (!((Fu.volR b x).isSome))) rfl (q_not rfl) ?_
      refine RW.q (v := .bool (!((Fu.volR b x).isSome))) rfl (q_move rfl) ?_
      refine RW.g (b := (!((Fu.volR b x).isSome))) (v := .bool ((Fu.meet ((h.Vol.getD (((Fu.gaugeAt b.Gauges x.Gauge).Target).toNat) default).Lo) ((h.Vol.getD (((Fu.gaugeAt b.Gauges x.Gauge).Target).toNat) default).Hi) (Fu.loOf (Fu.volR b x)) (Fu.hiOf (Fu.volR b x))).isSome)) rfl rfl rfl (fun h => q_move rfl) ?_
      refine RW.g (b := (!((Fu.volR b x).isSome))) (v := .bool (!((Fu.meet ((h.Vol.getD (((Fu.gaugeAt b.Gauges x.Gauge).Target).toNat) default).Lo) ((h.Vol.getD (((Fu.gaugeAt b.Gauges x.Gauge).Target).toNat) default).Hi) (Fu.loOf (Fu.volR b x)) (Fu.hiOf (Fu.volR b x))).isSome))) rfl rfl rfl (fun h => q_not (gv_pos h)) ?_
      refine RW.q (v := .bool ((!((Fu.volR b x).isSome)) || (!((Fu.meet ((h.Vol.getD (((Fu.gaugeAt b.Gauges x.Gauge).Target).toNat) default).Lo) ((h.Vol.getD (((Fu.gaugeAt b.Gauges x.Gauge).Target).toNat) default).Hi) (Fu.loOf (Fu.volR b x)) (Fu.hiOf (Fu.volR b x))).isSome)))) rfl (q_pick rfl (fun hp => pkOrT hp) (fun hp => (gv_pos hp).trans (pkOrF hp))) ?_
      refine RW.nil ?_
      refine Post.then_n ?_
      refine AW.cond (b := (!((Fu.volR b x).isSome)) || (!((Fu.meet ((h.Vol.getD (((Fu.gaugeAt b.Gauges x.Gauge).Target).toNat) default).Lo) ((h.Vol.getD (((Fu.gaugeAt b.Gauges x.Gauge).Target).toNat) default).Hi) (Fu.loOf (Fu.volR b x)) (Fu.hiOf (Fu.volR b x))).isSome))) rfl (fun hc3 => ?_) (fun hc3 => ?_)
      · simp [-List.getD_eq_getElem?_getD] at hc3
        refine AW.seq ?_
        refine AW.region ?_
        refine RW.q (v := .agg #[.int .i64 h.Hour, hv1, hv2, hv3]) rfl (q_loadAgg rfl Try.underlying36 rfl sz36 rfl (Cells.blk 5 rfl)) ?_
        refine RW.effn (J' := St ⟨w, Φ, []⟩ Φ [.blk b7 42 [.int .i64 (Fu.loOf (Fu.meet ((h.Vol.getD (((Fu.gaugeAt b.Gauges x.Gauge).Target).toNat) default).Lo) ((h.Vol.getD (((Fu.gaugeAt b.Gauges x.Gauge).Target).toNat) default).Hi) (Fu.loOf (Fu.volR b x)) (Fu.hiOf (Fu.volR b x)))), .int .i64 (Fu.hiOf (Fu.meet ((h.Vol.getD (((Fu.gaugeAt b.Gauges x.Gauge).Target).toNat) default).Lo) ((h.Vol.getD (((Fu.gaugeAt b.Gauges x.Gauge).Target).toNat) default).Hi) (Fu.loOf (Fu.volR b x)) (Fu.hiOf (Fu.volR b x))))], .blk b6 42 [.int .i64 (Fu.loOf (Fu.volR b x)), .int .i64 (Fu.hiOf (Fu.volR b x))], .blk b5 58 [.string ((Fu.gaugeAt b.Gauges x.Gauge).Name), .int .i64 ((Fu.gaugeAt b.Gauges x.Gauge).Kind), .int .i64 ((Fu.gaugeAt b.Gauges x.Gauge).Target), .int .i64 ((Fu.gaugeAt b.Gauges x.Gauge).Err), .int .i64 ((Fu.gaugeAt b.Gauges x.Gauge).Drift)], .blk b4 36 [.int .i64 h.Hour, hv1, hv2, hv3], .blk b3 46 [.int .i64 x.Gauge, .int .i64 x.Hour, .int .i64 x.Value.Lo, .int .i64 x.Value.Hi], .blk b2 36 [.int .i64 h.Hour, hv1, hv2, hv3], .blk b1 31 [.string b.Name, v1, .int .i64 b.Cells, v3, v4, v5, v6, v7, v8, v9, .int .i64 b.Err]]) (e_store (v := .agg #[.int .i64 h.Hour, hv1, hv2, hv3]) 3 rfl rfl rfl sz36 rfl (by show List.all [_, hv1, hv2, hv3] _ = true; simp only [List.all_cons, List.all_nil, oneCell_sl hr1.sl, oneCell_sl hr2.sl, oneCell_sl hr3.sl]; rfl) rfl rfl rfl) ?_
        refine RW.q (v := .bool true) rfl (q_assign rfl) ?_
        refine RW.nil ?_
        refine Post.then_n ?_
        refine AW.ret ?_
        refine Post.then_r (Post.then_r ?_)
        have hkd : Fu.kindOf b h.Vol.length h.Links.length x = 1 := Fu.kind1 (fun h9 => h9.elim (fun h8 => h8 hin) (fun h8 => by omega)) ⟨by omega, by omega⟩
        have hok : Fu.okV b h.Vol x = false := by unfold Fu.okV Fu.tgt; rcases hc3 with h9 | h9 <;> simp [-List.getD_eq_getElem?_getD, h9]
        obtain ⟨e1, e2⟩ := (Fu.nar1n hkd hok)
        refine fin_cell2 (cs := [.int .i64 h.Hour, hv1, hv2, hv3]) (v := .bool true) rfl rfl rfl rfl Try.underlying36 rfl sz36 rfl (Cells.blk 3 rfl) (fun w' hw => ?_)
        refine ⟨_, rfl, hw.below rfl, [.int .i64 h.Hour, hv1, hv2, hv3], ?_, ?_⟩
        · rw [e2]
        · rw [e1]
          refine ⟨_, _, _, rfl, hhw, ?_, hr2.mono hw.phi_ext, ?_⟩
          · exact hr1.mono hw.phi_ext
          · exact hr3.mono hw.phi_ext
      · simp [-List.getD_eq_getElem?_getD] at hc3
        refine AW.skip ?_
        refine Post.then_n ?_
        refine AW.seq ?_
        refine AW.region ?_
        refine RW.eff (fun b8 : Nat => (.slice (some ⟨b8, 0, none⟩) 0 0)) (fun b8 => St ⟨w, Φ, []⟩ Φ [.row (.slice (some ⟨b8, 0, none⟩) 0 0) 42 2 0 (flat ([] : List Bt.Span)), .blk b7 42 [.int .i64 (Fu.loOf (Fu.meet ((h.Vol.getD (((Fu.gaugeAt b.Gauges x.Gauge).Target).toNat) default).Lo) ((h.Vol.getD (((Fu.gaugeAt b.Gauges x.Gauge).Target).toNat) default).Hi) (Fu.loOf (Fu.volR b x)) (Fu.hiOf (Fu.volR b x)))), .int .i64 (Fu.hiOf (Fu.meet ((h.Vol.getD (((Fu.gaugeAt b.Gauges x.Gauge).Target).toNat) default).Lo) ((h.Vol.getD (((Fu.gaugeAt b.Gauges x.Gauge).Target).toNat) default).Hi) (Fu.loOf (Fu.volR b x)) (Fu.hiOf (Fu.volR b x))))], .blk b6 42 [.int .i64 (Fu.loOf (Fu.volR b x)), .int .i64 (Fu.hiOf (Fu.volR b x))], .blk b5 58 [.string ((Fu.gaugeAt b.Gauges x.Gauge).Name), .int .i64 ((Fu.gaugeAt b.Gauges x.Gauge).Kind), .int .i64 ((Fu.gaugeAt b.Gauges x.Gauge).Target), .int .i64 ((Fu.gaugeAt b.Gauges x.Gauge).Err), .int .i64 ((Fu.gaugeAt b.Gauges x.Gauge).Drift)], .blk b4 36 [.int .i64 0, (.slice none 0 0), (.slice none 0 0), (.slice none 0 0)], .blk b3 46 [.int .i64 x.Gauge, .int .i64 x.Hour, .int .i64 x.Value.Lo, .int .i64 x.Value.Hi], .blk b2 36 [.int .i64 h.Hour, hv1, hv2, hv3], .blk b1 31 [.string b.Name, v1, .int .i64 b.Cells, v3, v4, v5, v6, v7, v8, v9, .int .i64 b.Err]]) rfl (e_buildSlice0 Try.underlying32 inf42) ?_
        intro b8
        refine RW.q (v := .pointer (some (⟨b2, 1, none⟩))) rfl (q_fieldAddr rfl Try.underlying36 rfl sz32 rfl) ?_
        refine RW.q (v := hv1) rfl (q_load rfl Try.underlying32 rfl (Cell.blk 6 rfl rfl)) ?_
        refine RW.eff (fun xv : {vq : Value // IsSl vq (0 + h.Vol.length)} => xv.1) (fun xv => St ⟨w, Φ, []⟩ Φ [.row xv.1 42 2 ((([] : List Bt.Span) ++ h.Vol).length) (flat (([] : List Bt.Span) ++ h.Vol)), .blk b7 42 [.int .i64 (Fu.loOf (Fu.meet ((h.Vol.getD (((Fu.gaugeAt b.Gauges x.Gauge).Target).toNat) default).Lo) ((h.Vol.getD (((Fu.gaugeAt b.Gauges x.Gauge).Target).toNat) default).Hi) (Fu.loOf (Fu.volR b x)) (Fu.hiOf (Fu.volR b x)))), .int .i64 (Fu.hiOf (Fu.meet ((h.Vol.getD (((Fu.gaugeAt b.Gauges x.Gauge).Target).toNat) default).Lo) ((h.Vol.getD (((Fu.gaugeAt b.Gauges x.Gauge).Target).toNat) default).Hi) (Fu.loOf (Fu.volR b x)) (Fu.hiOf (Fu.volR b x))))], .blk b6 42 [.int .i64 (Fu.loOf (Fu.volR b x)), .int .i64 (Fu.hiOf (Fu.volR b x))], .blk b5 58 [.string ((Fu.gaugeAt b.Gauges x.Gauge).Name), .int .i64 ((Fu.gaugeAt b.Gauges x.Gauge).Kind), .int .i64 ((Fu.gaugeAt b.Gauges x.Gauge).Target), .int .i64 ((Fu.gaugeAt b.Gauges x.Gauge).Err), .int .i64 ((Fu.gaugeAt b.Gauges x.Gauge).Drift)], .blk b4 36 [.int .i64 0, (.slice none 0 0), (.slice none 0 0), (.slice none 0 0)], .blk b3 46 [.int .i64 x.Gauge, .int .i64 x.Hour, .int .i64 x.Value.Lo, .int .i64 x.Value.Hi], .blk b2 36 [.int .i64 h.Hour, hv1, hv2, hv3], .blk b1 31 [.string b.Name, v1, .int .i64 b.Cells, v3, v4, v5, v6, v7, v8, v9, .int .i64 b.Err]]) rfl (e_appendPhi (yv := hv1) 0 rfl rfl rfl hr1.sl Try.underlying32 inf42 rfl rfl (flat_len even42 _) (repE_cells even42 hr1) (flat_one hr1) (by simp; omega) (by simp; omega) (fun _ => by simp [flat])) ?_
        rintro ⟨va1, hva1⟩
        refine RW.q (v := .pointer (some (⟨b2, 1, none⟩))) rfl (q_fieldAddr rfl Try.underlying36 rfl sz32 rfl) ?_
        refine RW.effn (J' := St ⟨w, Φ, []⟩ Φ [.row va1 42 2 ((([] : List Bt.Span) ++ h.Vol).length) (flat (([] : List Bt.Span) ++ h.Vol)), .blk b7 42 [.int .i64 (Fu.loOf (Fu.meet ((h.Vol.getD (((Fu.gaugeAt b.Gauges x.Gauge).Target).toNat) default).Lo) ((h.Vol.getD (((Fu.gaugeAt b.Gauges x.Gauge).Target).toNat) default).Hi) (Fu.loOf (Fu.volR b x)) (Fu.hiOf (Fu.volR b x)))), .int .i64 (Fu.hiOf (Fu.meet ((h.Vol.getD (((Fu.gaugeAt b.Gauges x.Gauge).Target).toNat) default).Lo) ((h.Vol.getD (((Fu.gaugeAt b.Gauges x.Gauge).Target).toNat) default).Hi) (Fu.loOf (Fu.volR b x)) (Fu.hiOf (Fu.volR b x))))], .blk b6 42 [.int .i64 (Fu.loOf (Fu.volR b x)), .int .i64 (Fu.hiOf (Fu.volR b x))], .blk b5 58 [.string ((Fu.gaugeAt b.Gauges x.Gauge).Name), .int .i64 ((Fu.gaugeAt b.Gauges x.Gauge).Kind), .int .i64 ((Fu.gaugeAt b.Gauges x.Gauge).Target), .int .i64 ((Fu.gaugeAt b.Gauges x.Gauge).Err), .int .i64 ((Fu.gaugeAt b.Gauges x.Gauge).Drift)], .blk b4 36 [.int .i64 0, (.slice none 0 0), (.slice none 0 0), (.slice none 0 0)], .blk b3 46 [.int .i64 x.Gauge, .int .i64 x.Hour, .int .i64 x.Value.Lo, .int .i64 x.Value.Hi], .blk b2 36 [.int .i64 h.Hour, va1, hv2, hv3], .blk b1 31 [.string b.Name, v1, .int .i64 b.Cells, v3, v4, v5, v6, v7, v8, v9, .int .i64 b.Err]]) (e_storeSl (v := va1) 6 rfl rfl rfl hva1 sz32 rfl rfl rfl) ?_
        refine RW.nil ?_
        refine Post.then_n ?_
        refine AW.region ?_
        refine RW.q (v := .pointer (some (⟨b2, 1, none⟩))) rfl (q_fieldAddr rfl Try.underlying36 rfl sz32 rfl) ?_
        refine RW.q (v := va1) rfl (q_load rfl Try.underlying32 rfl (Cell.blk 6 rfl rfl)) ?_
        refine RW.q (v := .pointer (some (⟨b5, 2, none⟩))) rfl (q_fieldAddr rfl Try.underlying58 rfl sz3 rfl) ?_
        refine RW.q (v := .int .i64 ((Fu.gaugeAt b.Gauges x.Gauge).Target)) rfl (q_load rfl Try.underlying3 rfl (Cell.blk 3 rfl rfl)) ?_
        refine RW.q (v := .agg #[.int .i64 (Fu.loOf (Fu.meet ((h.Vol.getD (((Fu.gaugeAt b.Gauges x.Gauge).Target).toNat) default).Lo) ((h.Vol.getD (((Fu.gaugeAt b.Gauges x.Gauge).Target).toNat) default).Hi) (Fu.loOf (Fu.volR b x)) (Fu.hiOf (Fu.volR b x)))), .int .i64 (Fu.hiOf (Fu.meet ((h.Vol.getD (((Fu.gaugeAt b.Gauges x.Gauge).Target).toNat) default).Lo) ((h.Vol.getD (((Fu.gaugeAt b.Gauges x.Gauge).Target).toNat) default).Hi) (Fu.loOf (Fu.volR b x)) (Fu.hiOf (Fu.volR b x))))]) rfl (q_loadAgg rfl Try.underlying42 rfl sz42 rfl (Cells.blk 1 rfl)) ?_
        refine RW.q (v := .pointer (some (Value.at va1 ((((Fu.gaugeAt b.Gauges x.Gauge).Target).toNat) * 2)))) rfl (q_indexAddr rfl rfl hva1 Try.underlying32 sz42 (by omega) (by omega) rfl) ?_
        refine RW.effn (J' := St ⟨w, Φ, []⟩ Φ [.row va1 42 2 ((([] : List Bt.Span) ++ h.Vol).length) (flat ((([] : List Bt.Span) ++ h.Vol).set (((Fu.gaugeAt b.Gauges x.Gauge).Target).toNat) (⟨Fu.loOf (Fu.meet ((h.Vol.getD (((Fu.gaugeAt b.Gauges x.Gauge).Target).toNat) default).Lo) ((h.Vol.getD (((Fu.gaugeAt b.Gauges x.Gauge).Target).toNat) default).Hi) (Fu.loOf (Fu.volR b x)) (Fu.hiOf (Fu.volR b x))), Fu.hiOf (Fu.meet ((h.Vol.getD (((Fu.gaugeAt b.Gauges x.Gauge).Target).toNat) default).Lo) ((h.Vol.getD (((Fu.gaugeAt b.Gauges x.Gauge).Target).toNat) default).Hi) (Fu.loOf (Fu.volR b x)) (Fu.hiOf (Fu.volR b x)))⟩ : Bt.Span))), .blk b7 42 [.int .i64 (Fu.loOf (Fu.meet ((h.Vol.getD (((Fu.gaugeAt b.Gauges x.Gauge).Target).toNat) default).Lo) ((h.Vol.getD (((Fu.gaugeAt b.Gauges x.Gauge).Target).toNat) default).Hi) (Fu.loOf (Fu.volR b x)) (Fu.hiOf (Fu.volR b x)))), .int .i64 (Fu.hiOf (Fu.meet ((h.Vol.getD (((Fu.gaugeAt b.Gauges x.Gauge).Target).toNat) default).Lo) ((h.Vol.getD (((Fu.gaugeAt b.Gauges x.Gauge).Target).toNat) default).Hi) (Fu.loOf (Fu.volR b x)) (Fu.hiOf (Fu.volR b x))))], .blk b6 42 [.int .i64 (Fu.loOf (Fu.volR b x)), .int .i64 (Fu.hiOf (Fu.volR b x))], .blk b5 58 [.string ((Fu.gaugeAt b.Gauges x.Gauge).Name), .int .i64 ((Fu.gaugeAt b.Gauges x.Gauge).Kind), .int .i64 ((Fu.gaugeAt b.Gauges x.Gauge).Target), .int .i64 ((Fu.gaugeAt b.Gauges x.Gauge).Err), .int .i64 ((Fu.gaugeAt b.Gauges x.Gauge).Drift)], .blk b4 36 [.int .i64 0, (.slice none 0 0), (.slice none 0 0), (.slice none 0 0)], .blk b3 46 [.int .i64 x.Gauge, .int .i64 x.Hour, .int .i64 x.Value.Lo, .int .i64 x.Value.Hi], .blk b2 36 [.int .i64 h.Hour, va1, hv2, hv3], .blk b1 31 [.string b.Name, v1, .int .i64 b.Cells, v3, v4, v5, v6, v7, v8, v9, .int .i64 b.Err]]) (e_storeRow (v := .agg #[.int .i64 (Fu.loOf (Fu.meet ((h.Vol.getD (((Fu.gaugeAt b.Gauges x.Gauge).Target).toNat) default).Lo) ((h.Vol.getD (((Fu.gaugeAt b.Gauges x.Gauge).Target).toNat) default).Hi) (Fu.loOf (Fu.volR b x)) (Fu.hiOf (Fu.volR b x)))), .int .i64 (Fu.hiOf (Fu.meet ((h.Vol.getD (((Fu.gaugeAt b.Gauges x.Gauge).Target).toNat) default).Lo) ((h.Vol.getD (((Fu.gaugeAt b.Gauges x.Gauge).Target).toNat) default).Hi) (Fu.loOf (Fu.volR b x)) (Fu.hiOf (Fu.volR b x))))]) 0 rfl rfl rfl sz42 rfl rfl (by rw [flat_len even42]; simp [Rep.sz]; omega) (splice_E even42 (k := ((Fu.gaugeAt b.Gauges x.Gauge).Target).toNat) (x := (⟨Fu.loOf (Fu.meet ((h.Vol.getD (((Fu.gaugeAt b.Gauges x.Gauge).Target).toNat) default).Lo) ((h.Vol.getD (((Fu.gaugeAt b.Gauges x.Gauge).Target).toNat) default).Hi) (Fu.loOf (Fu.volR b x)) (Fu.hiOf (Fu.volR b x))), Fu.hiOf (Fu.meet ((h.Vol.getD (((Fu.gaugeAt b.Gauges x.Gauge).Target).toNat) default).Lo) ((h.Vol.getD (((Fu.gaugeAt b.Gauges x.Gauge).Target).toNat) default).Hi) (Fu.loOf (Fu.volR b x)) (Fu.hiOf (Fu.volR b x)))⟩ : Bt.Span)) (by simp; omega) rfl) rfl) ?_
        refine RW.nil ?_
        refine Post.then_n ?_
        refine AW.seq ?_
        refine AW.seq ?_
        refine AW.region ?_
        refine RW.q (v := .pointer (some (⟨b5, 1, none⟩))) rfl (q_fieldAddr rfl Try.underlying58 rfl sz3 rfl) ?_
        refine RW.q (v := .int .i64 ((Fu.gaugeAt b.Gauges x.Gauge).Kind)) rfl (q_load rfl Try.underlying3 rfl (Cell.blk 3 rfl rfl)) ?_
        refine RW.q (v := .bool (decide ((Fu.gaugeAt b.Gauges x.Gauge).Kind = 2))) rfl (q_eql rfl rfl) ?_
        refine RW.q (v := .bool (decide ((Fu.gaugeAt b.Gauges x.Gauge).Kind = 2))) rfl (q_move rfl) ?_
        refine RW.g (b := (decide ((Fu.gaugeAt b.Gauges x.Gauge).Kind = 2))) (v := .pointer (some (⟨b5, 2, none⟩))) rfl rfl rfl (fun h => q_fieldAddr rfl Try.underlying58 rfl sz3 rfl) ?_
        refine RW.g (b := (decide ((Fu.gaugeAt b.Gauges x.Gauge).Kind = 2))) (v := .int .i64 ((Fu.gaugeAt b.Gauges x.Gauge).Target)) rfl rfl rfl (fun h => q_load (gv_pos h) Try.underlying3 rfl (Cell.blk 3 rfl rfl)) ?_
        refine RW.g (b := (decide ((Fu.gaugeAt b.Gauges x.Gauge).Kind = 2))) (v := .bool (decide ((0 : Int) ≤ (Fu.gaugeAt b.Gauges x.Gauge).Target))) rfl rfl rfl (fun h => q_geq (gv_pos h) rfl) ?_
        refine RW.q (v := .bool ((decide ((Fu.gaugeAt b.Gauges x.Gauge).Kind = 2)) && (decide ((0 : Int) ≤ (Fu.gaugeAt b.Gauges x.Gauge).Target)))) rfl (q_pick rfl (fun hp => (gv_pos hp).trans (pkAndT hp)) (fun hp => pkAndF hp)) ?_
        refine RW.q (v := .bool ((decide ((Fu.gaugeAt b.Gauges x.Gauge).Kind = 2)) && (decide ((0 : Int) ≤ (Fu.gaugeAt b.Gauges x.Gauge).Target)))) rfl (q_move rfl) ?_
        refine RW.g (b := ((decide ((Fu.gaugeAt b.Gauges x.Gauge).Kind = 2)) && (decide ((0 : Int) ≤ (Fu.gaugeAt b.Gauges x.Gauge).Target)))) (v := .pointer (some (⟨b5, 2, none⟩))) rfl rfl rfl (fun h => q_fieldAddr rfl Try.underlying58 rfl sz3 rfl) ?_
        refine RW.g (b := ((decide ((Fu.gaugeAt b.Gauges x.Gauge).Kind = 2)) && (decide ((0 : Int) ≤ (Fu.gaugeAt b.Gauges x.Gauge).Target)))) (v := .int .i64 ((Fu.gaugeAt b.Gauges x.Gauge).Target)) rfl rfl rfl (fun h => q_load (gv_pos h) Try.underlying3 rfl (Cell.blk 3 rfl rfl)) ?_
        refine RW.g (b := ((decide ((Fu.gaugeAt b.Gauges x.Gauge).Kind = 2)) && (decide ((0 : Int) ≤ (Fu.gaugeAt b.Gauges x.Gauge).Target)))) (v := .pointer (some (⟨b2, 3, none⟩))) rfl rfl rfl (fun h => q_fieldAddr rfl Try.underlying36 rfl sz34 rfl) ?_
        refine RW.g (b := ((decide ((Fu.gaugeAt b.Gauges x.Gauge).Kind = 2)) && (decide ((0 : Int) ≤ (Fu.gaugeAt b.Gauges x.Gauge).Target)))) (v := hv3) rfl rfl rfl (fun h => q_load (gv_pos h) Try.underlying34 rfl (Cell.blk 6 rfl rfl)) ?_
        refine RW.g (b := ((decide ((Fu.gaugeAt b.Gauges x.Gauge).Kind = 2)) && (decide ((0 : Int) ≤ (Fu.gaugeAt b.Gauges x.Gauge).Target)))) (v := .int .i64 ((h.Links.length : Nat) : Int)) rfl rfl rfl (fun h => q_len_sl (gv_pos h) hr3.sl Try.underlying34) ?_
        refine RW.g (b := ((decide ((Fu.gaugeAt b.Gauges x.Gauge).Kind = 2)) && (decide ((0 : Int) ≤ (Fu.gaugeAt b.Gauges x.Gauge).Target)))) (v := .bool (decide ((Fu.gaugeAt b.Gauges x.Gauge).Target < ((h.Links.length : Nat) : Int)))) rfl rfl rfl (fun h => q_lss (gv_pos h) (gv_pos h)) ?_
        refine RW.q (v := .bool (((decide ((Fu.gaugeAt b.Gauges x.Gauge).Kind = 2)) && (decide ((0 : Int) ≤ (Fu.gaugeAt b.Gauges x.Gauge).Target))) && (decide ((Fu.gaugeAt b.Gauges x.Gauge).Target < ((h.Links.length : Nat) : Int))))) rfl (q_pick rfl (fun hp => (gv_pos hp).trans (pkAndT hp)) (fun hp => pkAndF hp)) ?_
        refine RW.nil ?_
        refine Post.then_n ?_
        refine AW.cond (b := ((decide ((Fu.gaugeAt b.Gauges x.Gauge).Kind = 2)) && (decide ((0 : Int) ≤ (Fu.gaugeAt b.Gauges x.Gauge).Target))) && (decide ((Fu.gaugeAt b.Gauges x.Gauge).Target < ((h.Links.length : Nat) : Int)))) rfl (fun hc4 => ?_) (fun hc4 => ?_)
        · simp [-List.getD_eq_getElem?_getD] at hc4
          exfalso
          omega
        · simp [-List.getD_eq_getElem?_getD] at hc4
          refine AW.skip ?_
          refine Post.then_n ?_
          refine AW.seq ?_
          refine AW.region ?_
          refine RW.q (v := .agg #[.int .i64 h.Hour, va1, hv2, hv3]) rfl (q_loadAgg rfl Try.underlying36 rfl sz36 rfl (Cells.blk 6 rfl)) ?_
          refine RW.effn (J' := St ⟨w, Φ, []⟩ Φ [.row va1 42 2 ((([] : List Bt.Span) ++ h.Vol).length) (flat ((([] : List Bt.Span) ++ h.Vol).set (((Fu.gaugeAt b.Gauges x.Gauge).Target).toNat) (⟨Fu.loOf (Fu.meet ((h.Vol.getD (((Fu.gaugeAt b.Gauges x.Gauge).Target).toNat) default).Lo) ((h.Vol.getD (((Fu.gaugeAt b.Gauges x.Gauge).Target).toNat) default).Hi) (Fu.loOf (Fu.volR b x)) (Fu.hiOf (Fu.volR b x))), Fu.hiOf (Fu.meet ((h.Vol.getD (((Fu.gaugeAt b.Gauges x.Gauge).Target).toNat) default).Lo) ((h.Vol.getD (((Fu.gaugeAt b.Gauges x.Gauge).Target).toNat) default).Hi) (Fu.loOf (Fu.volR b x)) (Fu.hiOf (Fu.volR b x)))⟩ : Bt.Span))), .blk b7 42 [.int .i64 (Fu.loOf (Fu.meet ((h.Vol.getD (((Fu.gaugeAt b.Gauges x.Gauge).Target).toNat) default).Lo) ((h.Vol.getD (((Fu.gaugeAt b.Gauges x.Gauge).Target).toNat) default).Hi) (Fu.loOf (Fu.volR b x)) (Fu.hiOf (Fu.volR b x)))), .int .i64 (Fu.hiOf (Fu.meet ((h.Vol.getD (((Fu.gaugeAt b.Gauges x.Gauge).Target).toNat) default).Lo) ((h.Vol.getD (((Fu.gaugeAt b.Gauges x.Gauge).Target).toNat) default).Hi) (Fu.loOf (Fu.volR b x)) (Fu.hiOf (Fu.volR b x))))], .blk b6 42 [.int .i64 (Fu.loOf (Fu.volR b x)), .int .i64 (Fu.hiOf (Fu.volR b x))], .blk b5 58 [.string ((Fu.gaugeAt b.Gauges x.Gauge).Name), .int .i64 ((Fu.gaugeAt b.Gauges x.Gauge).Kind), .int .i64 ((Fu.gaugeAt b.Gauges x.Gauge).Target), .int .i64 ((Fu.gaugeAt b.Gauges x.Gauge).Err), .int .i64 ((Fu.gaugeAt b.Gauges x.Gauge).Drift)], .blk b4 36 [.int .i64 h.Hour, va1, hv2, hv3], .blk b3 46 [.int .i64 x.Gauge, .int .i64 x.Hour, .int .i64 x.Value.Lo, .int .i64 x.Value.Hi], .blk b2 36 [.int .i64 h.Hour, va1, hv2, hv3], .blk b1 31 [.string b.Name, v1, .int .i64 b.Cells, v3, v4, v5, v6, v7, v8, v9, .int .i64 b.Err]]) (e_store (v := .agg #[.int .i64 h.Hour, va1, hv2, hv3]) 4 rfl rfl rfl sz36 rfl (by show List.all [_, va1, hv2, hv3] _ = true; simp only [List.all_cons, List.all_nil, oneCell_sl hva1, oneCell_sl hr2.sl, oneCell_sl hr3.sl]; rfl) rfl rfl rfl) ?_
          refine RW.q (v := .bool false) rfl (q_assign rfl) ?_
          refine RW.nil ?_
          refine Post.then_n ?_
          refine AW.ret ?_
          have hkd : Fu.kindOf b h.Vol.length h.Links.length x = 1 := Fu.kind1 (fun h9 => h9.elim (fun h8 => h8 hin) (fun h8 => by omega)) ⟨by omega, by omega⟩
          have hok : Fu.okV b h.Vol x = true := by unfold Fu.okV Fu.tgt; simpa [-List.getD_eq_getElem?_getD] using hc3
          have hVw := hr1.wfE
          have hvr := Fu.volR_rng b x
          have hset : (([] : List Bt.Span) ++ h.Vol).set (Fu.gaugeAt b.Gauges x.Gauge).Target.toNat ⟨Fu.loOf (Fu.meet (h.Vol.getD (Fu.gaugeAt b.Gauges x.Gauge).Target.toNat default).Lo (h.Vol.getD (Fu.gaugeAt b.Gauges x.Gauge).Target.toNat default).Hi (Fu.loOf (Fu.volR b x)) (Fu.hiOf (Fu.volR b x))), Fu.hiOf (Fu.meet (h.Vol.getD (Fu.gaugeAt b.Gauges x.Gauge).Target.toNat default).Lo (h.Vol.getD (Fu.gaugeAt b.Gauges x.Gauge).Target.toNat default).Hi (Fu.loOf (Fu.volR b x)) (Fu.hiOf (Fu.volR b x)))⟩ = Fu.narV h.Vol (Fu.tgt b x) (Fu.loOf (Fu.volR b x)) (Fu.hiOf (Fu.volR b x)) := by rw [Fu.narV_some (by unfold Fu.okV at hok; rw [Bool.and_eq_true] at hok; exact hok.2)]; rfl
          obtain ⟨e1, e2⟩ := (Fu.nar1 hkd hok)
          refine fin_cell2 (cs := [.int .i64 h.Hour, va1, hv2, hv3]) (v := .bool false) rfl rfl rfl rfl Try.underlying36 rfl sz36 rfl (Cells.blk 4 rfl) (fun w' hw => ?_)
          refine ⟨_, rfl, hw.below rfl, [.int .i64 h.Hour, va1, hv2, hv3], ?_, ?_⟩
          · rw [e2]
          · rw [e1]
            refine ⟨_, _, _, rfl, hhw, ?_, hr2.mono hw.phi_ext, ?_⟩
            · exact RowS.repE even42 (by rw [← hset]; exact row_ext hw 0 rfl) (by rw [Fu.narV_len]; simp) (by simp only [maxSl]; simp <;> omega) (Fu.narV_wf (show (Fu.gaugeAt b.Gauges x.Gauge).Target.toNat < h.Vol.length by omega) hVw hvr.1 hvr.2)
            · exact hr3.mono hw.phi_ext
    · simp [-List.getD_eq_getElem?_getD] at hc2
      refine AW.skip ?_
      refine Post.then_n ?_
      refine AW.seq ?_
      refine AW.seq ?_
      refine AW.region ?_
      refine RW.q (v := .pointer (some (⟨b5, 1, none⟩))) rfl (q_fieldAddr rfl Try.underlying58 rfl sz3 rfl) ?_
      refine RW.q (v := .int .i64 ((Fu.gaugeAt b.Gauges x.Gauge).Kind)) rfl (q_load rfl Try.underlying3 rfl (Cell.blk 0 rfl rfl)) ?_
      refine RW.q (v := .bool (decide ((Fu.gaugeAt b.Gauges x.Gauge).Kind = 2))) rfl (q_eql rfl rfl) ?_
      refine RW.q (v := .bool (decide ((Fu.gaugeAt b.Gauges x.Gauge).Kind = 2))) rfl (q_move rfl) ?_
      refine RW.g (b := (decide ((Fu.gaugeAt b.Gauges x.Gauge).Kind = 2))) (v := .pointer (some (⟨b5, 2, none⟩))) rfl rfl rfl (fun h => q_fieldAddr rfl Try.underlying58 rfl sz3 rfl) ?_
      refine RW.g (b := (decide ((Fu.gaugeAt b.Gauges x.Gauge).Kind = 2))) (v := .int .i64 ((Fu.gaugeAt b.Gauges x.Gauge).Target)) rfl rfl rfl (fun h => q_load (gv_pos h) Try.underlying3 rfl (Cell.blk 0 rfl rfl)) ?_
      refine RW.g (b := (decide ((Fu.gaugeAt b.Gauges x.Gauge).Kind = 2))) (v := .bool (decide ((0 : Int) ≤ (Fu.gaugeAt b.Gauges x.Gauge).Target))) rfl rfl rfl (fun h => q_geq (gv_pos h) rfl) ?_
      refine RW.q (v := .bool ((decide ((Fu.gaugeAt b.Gauges x.Gauge).Kind = 2)) && (decide ((0 : Int) ≤ (Fu.gaugeAt b.Gauges x.Gauge).Target)))) rfl (q_pick rfl (fun hp => (gv_pos hp).trans (pkAndT hp)) (fun hp => pkAndF hp)) ?_
      refine RW.q (v := .bool ((decide ((Fu.gaugeAt b.Gauges x.Gauge).Kind = 2)) && (decide ((0 : Int) ≤ (Fu.gaugeAt b.Gauges x.Gauge).Target)))) rfl (q_move rfl) ?_
      refine RW.g (b := ((decide ((Fu.gaugeAt b.Gauges x.Gauge).Kind = 2)) && (decide ((0 : Int) ≤ (Fu.gaugeAt b.Gauges x.Gauge).Target)))) (v := .pointer (some (⟨b5, 2, none⟩))) rfl rfl rfl (fun h => q_fieldAddr rfl Try.underlying58 rfl sz3 rfl) ?_
      refine RW.g (b := ((decide ((Fu.gaugeAt b.Gauges x.Gauge).Kind = 2)) && (decide ((0 : Int) ≤ (Fu.gaugeAt b.Gauges x.Gauge).Target)))) (v := .int .i64 ((Fu.gaugeAt b.Gauges x.Gauge).Target)) rfl rfl rfl (fun h => q_load (gv_pos h) Try.underlying3 rfl (Cell.blk 0 rfl rfl)) ?_
      refine RW.g (b := ((decide ((Fu.gaugeAt b.Gauges x.Gauge).Kind = 2)) && (decide ((0 : Int) ≤ (Fu.gaugeAt b.Gauges x.Gauge).Target)))) (v := .pointer (some (⟨b2, 3, none⟩))) rfl rfl rfl (fun h => q_fieldAddr rfl Try.underlying36 rfl sz34 rfl) ?_
      refine RW.g (b := ((decide ((Fu.gaugeAt b.Gauges x.Gauge).Kind = 2)) && (decide ((0 : Int) ≤ (Fu.gaugeAt b.Gauges x.Gauge).Target)))) (v := hv3) rfl rfl rfl (fun h => q_load (gv_pos h) Try.underlying34 rfl (Cell.blk 3 rfl rfl)) ?_
      refine RW.g (b := ((decide ((Fu.gaugeAt b.Gauges x.Gauge).Kind = 2)) && (decide ((0 : Int) ≤ (Fu.gaugeAt b.Gauges x.Gauge).Target)))) (v := .int .i64 ((h.Links.length : Nat) : Int)) rfl rfl rfl (fun h => q_len_sl (gv_pos h) hr3.sl Try.underlying34) ?_
      refine RW.g (b := ((decide ((Fu.gaugeAt b.Gauges x.Gauge).Kind = 2)) && (decide ((0 : Int) ≤ (Fu.gaugeAt b.Gauges x.Gauge).Target)))) (v := .bool (decide ((Fu.gaugeAt b.Gauges x.Gauge).Target < ((h.Links.length : Nat) : Int)))) rfl rfl rfl (fun h => q_lss (gv_pos h) (gv_pos h)) ?_
      refine RW.q (v := .bool (((decide ((Fu.gaugeAt b.Gauges x.Gauge).Kind = 2)) && (decide ((0 : Int) ≤ (Fu.gaugeAt b.Gauges x.Gauge).Target))) && (decide ((Fu.gaugeAt b.Gauges x.Gauge).Target < ((h.Links.length : Nat) : Int))))) rfl (q_pick rfl (fun hp => (gv_pos hp).trans (pkAndT hp)) (fun hp => pkAndF hp)) ?_
      refine RW.nil ?_
      refine Post.then_n ?_
      refine AW.cond (b := ((decide ((Fu.gaugeAt b.Gauges x.Gauge).Kind = 2)) && (decide ((0 : Int) ≤ (Fu.gaugeAt b.Gauges x.Gauge).Target))) && (decide ((Fu.gaugeAt b.Gauges x.Gauge).Target < ((h.Links.length : Nat) : Int)))) rfl (fun hc5 => ?_) (fun hc5 => ?_)
      · simp [-List.getD_eq_getElem?_getD] at hc5
        refine AW.seq ?_
        have hB_0 := hB
        have r3_0 := r3
        have r6_0 := r6
        have hH_0 := hH
        have hr1_0 := hr1
        have hr2_0 := hr2
        have hr3_0 := hr3
        refine AW.draw (J0 := St ⟨w, Φ, []⟩ Φ [.blk b5 58 [.string ((Fu.gaugeAt b.Gauges x.Gauge).Name), .int .i64 ((Fu.gaugeAt b.Gauges x.Gauge).Kind), .int .i64 ((Fu.gaugeAt b.Gauges x.Gauge).Target), .int .i64 ((Fu.gaugeAt b.Gauges x.Gauge).Err), .int .i64 ((Fu.gaugeAt b.Gauges x.Gauge).Drift)], .blk b4 36 [.int .i64 0, (.slice none 0 0), (.slice none 0 0), (.slice none 0 0)], .blk b3 46 [.int .i64 x.Gauge, .int .i64 x.Hour, .int .i64 x.Value.Lo, .int .i64 x.Value.Hi], .blk b2 36 [.int .i64 h.Hour, hv1, hv2, hv3], .blk b1 31 [.string b.Name, v1, .int .i64 b.Cells, v3, v4, v5, v6, v7, v8, v9, .int .i64 b.Err]]) [.q, .q, .q, .q, .q, .q, .q, .q, .q, .q, .q, .q, .q, .e, .e, .q] [0, 1, 2, 3, 4, 5, 6, 7, 8, 9, 10, 11, 12, 13, 14, 15] hmix (by kernel_rfl) ?_
        refine DW.q (v := .pointer (some (⟨b2, 3, none⟩))) (fun _ h => h) rfl (q_fieldAddr rfl Try.underlying36 rfl sz34 rfl) ?_
        refine DW.q (v := hv3) (fun _ h => h) rfl (q_load rfl Try.underlying34 rfl (Cell.blk 3 rfl rfl)) ?_
        refine DW.q (v := .pointer (some (⟨b5, 2, none⟩))) (fun _ h => h) rfl (q_fieldAddr rfl Try.underlying58 rfl sz3 rfl) ?_
        refine DW.q (v := .int .i64 ((Fu.gaugeAt b.Gauges x.Gauge).Target)) (fun _ h => h) rfl (q_load rfl Try.underlying3 rfl (Cell.blk 0 rfl rfl)) ?_
        refine DW.q (v := .pointer (some (Value.at hv3 ((((Fu.gaugeAt b.Gauges x.Gauge).Target).toNat) * 5)))) (fun _ h => h) rfl (q_indexAddr rfl rfl hr3.sl Try.underlying34 sz79 (by omega) (by omega) rfl) ?_
        refine DW.q (v := .pointer (some (Value.at hv3 ((((Fu.gaugeAt b.Gauges x.Gauge).Target).toNat) * 5 + 0)))) (fun _ h => h) rfl (q_fieldAddr rfl Try.underlying79 rfl sz42 at_add) ?_
        refine DW.q (v := .agg #[.int .i64 ((h.Links.getD (((Fu.gaugeAt b.Gauges x.Gauge).Target).toNat) default).Pos.Lo), .int .i64 ((h.Links.getD (((Fu.gaugeAt b.Gauges x.Gauge).Target).toNat) default).Pos.Hi)]) (fun _ h => h) rfl (q_loadAgg rfl Try.underlying42 rfl sz42 rfl (Cells.repP (off := 0) hr3 (by omega) (fun j u hu => (by rcases j with _ | (_ | _) <;> first | exact hu | cases hu)))) ?_
        refine DW.q (v := .pointer (some (⟨b3, 2, none⟩))) (fun _ h => h) rfl (q_fieldAddr rfl Try.underlying46 rfl sz42 rfl) ?_
        refine DW.q (v := .agg #[.int .i64 x.Value.Lo, .int .i64 x.Value.Hi]) (fun _ h => h) rfl (q_loadAgg rfl Try.underlying42 rfl sz42 rfl (Cells.blkP (off := 2) 2 rfl (fun j u hu => (by rcases j with _ | (_ | _) <;> first | exact hu | cases hu)))) ?_
        refine DW.q (v := .tuple #[.agg #[.int .i64 (Fu.loOf (Fu.meet ((h.Links.getD (((Fu.gaugeAt b.Gauges x.Gauge).Target).toNat) default).Pos.Lo) ((h.Links.getD (((Fu.gaugeAt b.Gauges x.Gauge).Target).toNat) default).Pos.Hi) x.Value.Lo x.Value.Hi)), .int .i64 (Fu.hiOf (Fu.meet ((h.Links.getD (((Fu.gaugeAt b.Gauges x.Gauge).Target).toNat) default).Pos.Lo) ((h.Links.getD (((Fu.gaugeAt b.Gauges x.Gauge).Target).toNat) default).Pos.Hi) x.Value.Lo x.Value.Hi))], .bool ((Fu.meet ((h.Links.getD (((Fu.gaugeAt b.Gauges x.Gauge).Target).toNat) default).Pos.Lo) ((h.Links.getD (((Fu.gaugeAt b.Gauges x.Gauge).Target).toNat) default).Pos.Hi) x.Value.Lo x.Value.Hi).isSome)]) (fun _ h => h) rfl (q_call (args := #[.agg #[.int .i64 ((h.Links.getD (((Fu.gaugeAt b.Gauges x.Gauge).Target).toNat) default).Pos.Lo), .int .i64 ((h.Links.getD (((Fu.gaugeAt b.Gauges x.Gauge).Target).toNat) default).Pos.Hi)], .agg #[.int .i64 x.Value.Lo, .int .i64 x.Value.Hi]]) own75 rfl rfl (fun w1 hw1 => rMeet_c w1 (Go.K.hp w1) (Hp.le_refl _))) ?_
        refine DW.q (v := .tuple #[.agg #[.int .i64 (Fu.loOf (Fu.meet ((h.Links.getD (((Fu.gaugeAt b.Gauges x.Gauge).Target).toNat) default).Pos.Lo) ((h.Links.getD (((Fu.gaugeAt b.Gauges x.Gauge).Target).toNat) default).Pos.Hi) x.Value.Lo x.Value.Hi)), .int .i64 (Fu.hiOf (Fu.meet ((h.Links.getD (((Fu.gaugeAt b.Gauges x.Gauge).Target).toNat) default).Pos.Lo) ((h.Links.getD (((Fu.gaugeAt b.Gauges x.Gauge).Target).toNat) default).Pos.Hi) x.Value.Lo x.Value.Hi))], .bool ((Fu.meet ((h.Links.getD (((Fu.gaugeAt b.Gauges x.Gauge).Target).toNat) default).Pos.Lo) ((h.Links.getD (((Fu.gaugeAt b.Gauges x.Gauge).Target).toNat) default).Pos.Hi) x.Value.Lo x.Value.Hi).isSome)]) (fun _ h => h) rfl (q_move rfl) ?_
        refine DW.q (v := .agg #[.int .i64 (Fu.loOf (Fu.meet ((h.Links.getD (((Fu.gaugeAt b.Gauges x.Gauge).Target).toNat) default).Pos.Lo) ((h.Links.getD (((Fu.gaugeAt b.Gauges x.Gauge).Target).toNat) default).Pos.Hi) x.Value.Lo x.Value.Hi)), .int .i64 (Fu.hiOf (Fu.meet ((h.Links.getD (((Fu.gaugeAt b.Gauges x.Gauge).Target).toNat) default).Pos.Lo) ((h.Links.getD (((Fu.gaugeAt b.Gauges x.Gauge).Target).toNat) default).Pos.Hi) x.Value.Lo x.Value.Hi))]) (fun _ h => h) rfl (q_extract rfl rfl) ?_
        refine DW.q (v := .bool ((Fu.meet ((h.Links.getD (((Fu.gaugeAt b.Gauges x.Gauge).Target).toNat) default).Pos.Lo) ((h.Links.getD (((Fu.gaugeAt b.Gauges x.Gauge).Target).toNat) default).Pos.Hi) x.Value.Lo x.Value.Hi).isSome)) (fun _ h => h) rfl (q_extract rfl rfl) ?_
        refine DW.eff (fun b9 : Nat => .pointer (some (⟨b9, 0, none⟩))) (fun b9 => St ⟨w, Φ, []⟩ Φ [.blk b9 42 [.int .i64 0, .int .i64 0], .blk b5 58 [.string ((Fu.gaugeAt b.Gauges x.Gauge).Name), .int .i64 ((Fu.gaugeAt b.Gauges x.Gauge).Kind), .int .i64 ((Fu.gaugeAt b.Gauges x.Gauge).Target), .int .i64 ((Fu.gaugeAt b.Gauges x.Gauge).Err), .int .i64 ((Fu.gaugeAt b.Gauges x.Gauge).Drift)], .blk b4 36 [.int .i64 0, (.slice none 0 0), (.slice none 0 0), (.slice none 0 0)], .blk b3 46 [.int .i64 x.Gauge, .int .i64 x.Hour, .int .i64 x.Value.Lo, .int .i64 x.Value.Hi], .blk b2 36 [.int .i64 h.Hour, hv1, hv2, hv3], .blk b1 31 [.string b.Name, v1, .int .i64 b.Cells, v3, v4, v5, v6, v7, v8, v9, .int .i64 b.Err]]) (fun _ _ => (fun _ h => (StP.drop h (by exact .cons _ (.cons_cons _ (.cons_cons _ (.cons_cons _ (.cons_cons _ (.cons_cons _ (.slnil)))))))))) rfl (e_alloc zero42) ?_
        intro b9
        refine DW.effn (J' := St ⟨w, Φ, []⟩ Φ [.blk b9 42 [.int .i64 (Fu.loOf (Fu.meet ((h.Links.getD (((Fu.gaugeAt b.Gauges x.Gauge).Target).toNat) default).Pos.Lo) ((h.Links.getD (((Fu.gaugeAt b.Gauges x.Gauge).Target).toNat) default).Pos.Hi) x.Value.Lo x.Value.Hi)), .int .i64 (Fu.hiOf (Fu.meet ((h.Links.getD (((Fu.gaugeAt b.Gauges x.Gauge).Target).toNat) default).Pos.Lo) ((h.Links.getD (((Fu.gaugeAt b.Gauges x.Gauge).Target).toNat) default).Pos.Hi) x.Value.Lo x.Value.Hi))], .blk b5 58 [.string ((Fu.gaugeAt b.Gauges x.Gauge).Name), .int .i64 ((Fu.gaugeAt b.Gauges x.Gauge).Kind), .int .i64 ((Fu.gaugeAt b.Gauges x.Gauge).Target), .int .i64 ((Fu.gaugeAt b.Gauges x.Gauge).Err), .int .i64 ((Fu.gaugeAt b.Gauges x.Gauge).Drift)], .blk b4 36 [.int .i64 0, (.slice none 0 0), (.slice none 0 0), (.slice none 0 0)], .blk b3 46 [.int .i64 x.Gauge, .int .i64 x.Hour, .int .i64 x.Value.Lo, .int .i64 x.Value.Hi], .blk b2 36 [.int .i64 h.Hour, hv1, hv2, hv3], .blk b1 31 [.string b.Name, v1, .int .i64 b.Cells, v3, v4, v5, v6, v7, v8, v9, .int .i64 b.Err]]) (fun _ => (fun _ h => (StP.drop h (by exact .cons _ (.cons_cons _ (.cons_cons _ (.cons_cons _ (.cons_cons _ (.cons_cons _ (.slnil)))))))))) (e_store (v := .agg #[.int .i64 (Fu.loOf (Fu.meet ((h.Links.getD (((Fu.gaugeAt b.Gauges x.Gauge).Target).toNat) default).Pos.Lo) ((h.Links.getD (((Fu.gaugeAt b.Gauges x.Gauge).Target).toNat) default).Pos.Hi) x.Value.Lo x.Value.Hi)), .int .i64 (Fu.hiOf (Fu.meet ((h.Links.getD (((Fu.gaugeAt b.Gauges x.Gauge).Target).toNat) default).Pos.Lo) ((h.Links.getD (((Fu.gaugeAt b.Gauges x.Gauge).Target).toNat) default).Pos.Hi) x.Value.Lo x.Value.Hi))]) 0 rfl rfl rfl sz42 rfl rfl rfl rfl rfl) ?_
        refine DW.q (v := .bool ((Fu.meet ((h.Links.getD (((Fu.gaugeAt b.Gauges x.Gauge).Target).toNat) default).Pos.Lo) ((h.Links.getD (((Fu.gaugeAt b.Gauges x.Gauge).Target).toNat) default).Pos.Hi) x.Value.Lo x.Value.Hi).isSome)) (fun _ h => (StP.drop h (by exact .cons _ (.cons_cons _ (.cons_cons _ (.cons_cons _ (.cons_cons _ (.cons_cons _ (.slnil))))))))) rfl (q_assign rfl) ?_
        refine DW.nil ?_
        refine Post.then_n ?_
        refine AW.seq ?_
        refine AW.seq ?_
        refine AW.region ?_
        refine RW.q (v := .bool ((Fu.meet ((h.Links.getD (((Fu.gaugeAt b.Gauges x.Gauge).Target).toNat) default).Pos.Lo) ((h.Links.getD (((Fu.gaugeAt b.Gauges x.Gauge).Target).toNat) default).Pos.Hi) x.Value.Lo x.Value.Hi).isSome)) rfl (q_move rfl) ?_
        refine RW.q (v := .bool (!((Fu.meet ((h.Links.getD (((Fu.gaugeAt b.Gauges x.Gauge).Target).toNat) default).Pos.Lo) ((h.Links.getD (((Fu.gaugeAt b.Gauges x.Gauge).Target).toNat) default).Pos.Hi) x.Value.Lo x.Value.Hi).isSome))) rfl (q_not rfl) ?_
        refine RW.nil ?_
        refine Post.then_n ?_
        refine AW.cond (b := !((Fu.meet ((h.Links.getD (((Fu.gaugeAt b.Gauges x.Gauge).Target).toNat) default).Pos.Lo) ((h.Links.getD (((Fu.gaugeAt b.Gauges x.Gauge).Target).toNat) default).Pos.Hi) x.Value.Lo x.Value.Hi).isSome)) rfl (fun hc6 => ?_) (fun hc6 => ?_)
        · simp [-List.getD_eq_getElem?_getD] at hc6
          refine AW.seq ?_
          refine AW.region ?_
          refine RW.q (v := .agg #[.int .i64 h.Hour, hv1, hv2, hv3]) rfl (q_loadAgg rfl Try.underlying36 rfl sz36 rfl (Cells.blk 4 rfl)) ?_
          refine RW.effn (J' := St ⟨w, Φ, []⟩ Φ [.blk b9 42 [.int .i64 (Fu.loOf (Fu.meet ((h.Links.getD (((Fu.gaugeAt b.Gauges x.Gauge).Target).toNat) default).Pos.Lo) ((h.Links.getD (((Fu.gaugeAt b.Gauges x.Gauge).Target).toNat) default).Pos.Hi) x.Value.Lo x.Value.Hi)), .int .i64 (Fu.hiOf (Fu.meet ((h.Links.getD (((Fu.gaugeAt b.Gauges x.Gauge).Target).toNat) default).Pos.Lo) ((h.Links.getD (((Fu.gaugeAt b.Gauges x.Gauge).Target).toNat) default).Pos.Hi) x.Value.Lo x.Value.Hi))], .blk b5 58 [.string ((Fu.gaugeAt b.Gauges x.Gauge).Name), .int .i64 ((Fu.gaugeAt b.Gauges x.Gauge).Kind), .int .i64 ((Fu.gaugeAt b.Gauges x.Gauge).Target), .int .i64 ((Fu.gaugeAt b.Gauges x.Gauge).Err), .int .i64 ((Fu.gaugeAt b.Gauges x.Gauge).Drift)], .blk b4 36 [.int .i64 h.Hour, hv1, hv2, hv3], .blk b3 46 [.int .i64 x.Gauge, .int .i64 x.Hour, .int .i64 x.Value.Lo, .int .i64 x.Value.Hi], .blk b2 36 [.int .i64 h.Hour, hv1, hv2, hv3], .blk b1 31 [.string b.Name, v1, .int .i64 b.Cells, v3, v4, v5, v6, v7, v8, v9, .int .i64 b.Err]]) (e_store (v := .agg #[.int .i64 h.Hour, hv1, hv2, hv3]) 2 rfl rfl rfl sz36 rfl (by show List.all [_, hv1, hv2, hv3] _ = true; simp only [List.all_cons, List.all_nil, oneCell_sl hr1.sl, oneCell_sl hr2.sl, oneCell_sl hr3.sl]; rfl) rfl rfl rfl) ?_
          refine RW.q (v := .bool true) rfl (q_assign rfl) ?_
          refine RW.nil ?_
          refine Post.then_n ?_
          refine AW.ret ?_
          refine Post.then_r (Post.then_r ?_)
          have hkd : Fu.kindOf b h.Vol.length h.Links.length x = 2 := Fu.kind2 (fun h9 => h9.elim (fun h8 => h8 hin) (fun h8 => by omega)) (fun h9 => by omega) ⟨by omega, by omega⟩
          have hok : Fu.okK b h.Links x = false := by unfold Fu.okK Fu.tgt; simpa [-List.getD_eq_getElem?_getD] using hc6
          obtain ⟨e1, e2⟩ := (Fu.nar2n hkd hok)
          refine fin_cell2 (cs := [.int .i64 h.Hour, hv1, hv2, hv3]) (v := .bool true) rfl rfl rfl rfl Try.underlying36 rfl sz36 rfl (Cells.blk 2 rfl) (fun w' hw => ?_)
          refine ⟨_, rfl, hw.below rfl, [.int .i64 h.Hour, hv1, hv2, hv3], ?_, ?_⟩
          · rw [e2]
          · rw [e1]
            refine ⟨_, _, _, rfl, hhw, ?_, hr2.mono hw.phi_ext, ?_⟩
            · exact hr1.mono hw.phi_ext
            · exact hr3.mono hw.phi_ext
        · simp [-List.getD_eq_getElem?_getD] at hc6
          refine AW.skip ?_
          refine Post.then_n ?_
          refine AW.seq ?_
          refine AW.region ?_
          refine RW.eff (fun b10 : Nat => (.slice (some ⟨b10, 0, none⟩) 0 0)) (fun b10 => St ⟨w, Φ, []⟩ Φ [.row (.slice (some ⟨b10, 0, none⟩) 0 0) 79 5 0 (flat ([] : List Bt.Known)), .blk b9 42 [.int .i64 (Fu.loOf (Fu.meet ((h.Links.getD (((Fu.gaugeAt b.Gauges x.Gauge).Target).toNat) default).Pos.Lo) ((h.Links.getD (((Fu.gaugeAt b.Gauges x.Gauge).Target).toNat) default).Pos.Hi) x.Value.Lo x.Value.Hi)), .int .i64 (Fu.hiOf (Fu.meet ((h.Links.getD (((Fu.gaugeAt b.Gauges x.Gauge).Target).toNat) default).Pos.Lo) ((h.Links.getD (((Fu.gaugeAt b.Gauges x.Gauge).Target).toNat) default).Pos.Hi) x.Value.Lo x.Value.Hi))], .blk b5 58 [.string ((Fu.gaugeAt b.Gauges x.Gauge).Name), .int .i64 ((Fu.gaugeAt b.Gauges x.Gauge).Kind), .int .i64 ((Fu.gaugeAt b.Gauges x.Gauge).Target), .int .i64 ((Fu.gaugeAt b.Gauges x.Gauge).Err), .int .i64 ((Fu.gaugeAt b.Gauges x.Gauge).Drift)], .blk b4 36 [.int .i64 0, (.slice none 0 0), (.slice none 0 0), (.slice none 0 0)], .blk b3 46 [.int .i64 x.Gauge, .int .i64 x.Hour, .int .i64 x.Value.Lo, .int .i64 x.Value.Hi], .blk b2 36 [.int .i64 h.Hour, hv1, hv2, hv3], .blk b1 31 [.string b.Name, v1, .int .i64 b.Cells, v3, v4, v5, v6, v7, v8, v9, .int .i64 b.Err]]) rfl (e_buildSlice0 Try.underlying34 inf79) ?_
          intro b10
          refine RW.q (v := .pointer (some (⟨b2, 3, none⟩))) rfl (q_fieldAddr rfl Try.underlying36 rfl sz34 rfl) ?_
          refine RW.q (v := hv3) rfl (q_load rfl Try.underlying34 rfl (Cell.blk 5 rfl rfl)) ?_
          refine RW.eff (fun xv : {vq : Value // IsSl vq (0 + h.Links.length)} => xv.1) (fun xv => St ⟨w, Φ, []⟩ Φ [.row xv.1 79 5 ((([] : List Bt.Known) ++ h.Links).length) (flat (([] : List Bt.Known) ++ h.Links)), .blk b9 42 [.int .i64 (Fu.loOf (Fu.meet ((h.Links.getD (((Fu.gaugeAt b.Gauges x.Gauge).Target).toNat) default).Pos.Lo) ((h.Links.getD (((Fu.gaugeAt b.Gauges x.Gauge).Target).toNat) default).Pos.Hi) x.Value.Lo x.Value.Hi)), .int .i64 (Fu.hiOf (Fu.meet ((h.Links.getD (((Fu.gaugeAt b.Gauges x.Gauge).Target).toNat) default).Pos.Lo) ((h.Links.getD (((Fu.gaugeAt b.Gauges x.Gauge).Target).toNat) default).Pos.Hi) x.Value.Lo x.Value.Hi))], .blk b5 58 [.string ((Fu.gaugeAt b.Gauges x.Gauge).Name), .int .i64 ((Fu.gaugeAt b.Gauges x.Gauge).Kind), .int .i64 ((Fu.gaugeAt b.Gauges x.Gauge).Target), .int .i64 ((Fu.gaugeAt b.Gauges x.Gauge).Err), .int .i64 ((Fu.gaugeAt b.Gauges x.Gauge).Drift)], .blk b4 36 [.int .i64 0, (.slice none 0 0), (.slice none 0 0), (.slice none 0 0)], .blk b3 46 [.int .i64 x.Gauge, .int .i64 x.Hour, .int .i64 x.Value.Lo, .int .i64 x.Value.Hi], .blk b2 36 [.int .i64 h.Hour, hv1, hv2, hv3], .blk b1 31 [.string b.Name, v1, .int .i64 b.Cells, v3, v4, v5, v6, v7, v8, v9, .int .i64 b.Err]]) rfl (e_appendPhi (yv := hv3) 0 rfl rfl rfl hr3.sl Try.underlying34 inf79 rfl rfl (flat_len even79 _) (repE_cells even79 hr3) (flat_one hr3) (by simp; omega) (by simp; omega) (fun _ => by simp [flat])) ?_
          rintro ⟨va2, hva2⟩
          refine RW.q (v := .pointer (some (⟨b2, 3, none⟩))) rfl (q_fieldAddr rfl Try.underlying36 rfl sz34 rfl) ?_
          refine RW.effn (J' := St ⟨w, Φ, []⟩ Φ [.row va2 79 5 ((([] : List Bt.Known) ++ h.Links).length) (flat (([] : List Bt.Known) ++ h.Links)), .blk b9 42 [.int .i64 (Fu.loOf (Fu.meet ((h.Links.getD (((Fu.gaugeAt b.Gauges x.Gauge).Target).toNat) default).Pos.Lo) ((h.Links.getD (((Fu.gaugeAt b.Gauges x.Gauge).Target).toNat) default).Pos.Hi) x.Value.Lo x.Value.Hi)), .int .i64 (Fu.hiOf (Fu.meet ((h.Links.getD (((Fu.gaugeAt b.Gauges x.Gauge).Target).toNat) default).Pos.Lo) ((h.Links.getD (((Fu.gaugeAt b.Gauges x.Gauge).Target).toNat) default).Pos.Hi) x.Value.Lo x.Value.Hi))], .blk b5 58 [.string ((Fu.gaugeAt b.Gauges x.Gauge).Name), .int .i64 ((Fu.gaugeAt b.Gauges x.Gauge).Kind), .int .i64 ((Fu.gaugeAt b.Gauges x.Gauge).Target), .int .i64 ((Fu.gaugeAt b.Gauges x.Gauge).Err), .int .i64 ((Fu.gaugeAt b.Gauges x.Gauge).Drift)], .blk b4 36 [.int .i64 0, (.slice none 0 0), (.slice none 0 0), (.slice none 0 0)], .blk b3 46 [.int .i64 x.Gauge, .int .i64 x.Hour, .int .i64 x.Value.Lo, .int .i64 x.Value.Hi], .blk b2 36 [.int .i64 h.Hour, hv1, hv2, va2], .blk b1 31 [.string b.Name, v1, .int .i64 b.Cells, v3, v4, v5, v6, v7, v8, v9, .int .i64 b.Err]]) (e_storeSl (v := va2) 5 rfl rfl rfl hva2 sz34 rfl rfl rfl) ?_
          refine RW.nil ?_
          refine Post.then_n ?_
          refine AW.region ?_
          refine RW.q (v := .pointer (some (⟨b2, 3, none⟩))) rfl (q_fieldAddr rfl Try.underlying36 rfl sz34 rfl) ?_
          refine RW.q (v := va2) rfl (q_load rfl Try.underlying34 rfl (Cell.blk 5 rfl rfl)) ?_
          refine RW.q (v := .pointer (some (⟨b5, 2, none⟩))) rfl (q_fieldAddr rfl Try.underlying58 rfl sz3 rfl) ?_
          refine RW.q (v := .int .i64 ((Fu.gaugeAt b.Gauges x.Gauge).Target)) rfl (q_load rfl Try.underlying3 rfl (Cell.blk 2 rfl rfl)) ?_
          refine RW.q (v := .agg #[.int .i64 (Fu.loOf (Fu.meet ((h.Links.getD (((Fu.gaugeAt b.Gauges x.Gauge).Target).toNat) default).Pos.Lo) ((h.Links.getD (((Fu.gaugeAt b.Gauges x.Gauge).Target).toNat) default).Pos.Hi) x.Value.Lo x.Value.Hi)), .int .i64 (Fu.hiOf (Fu.meet ((h.Links.getD (((Fu.gaugeAt b.Gauges x.Gauge).Target).toNat) default).Pos.Lo) ((h.Links.getD (((Fu.gaugeAt b.Gauges x.Gauge).Target).toNat) default).Pos.Hi) x.Value.Lo x.Value.Hi))]) rfl (q_loadAgg rfl Try.underlying42 rfl sz42 rfl (Cells.blk 1 rfl)) ?_
          refine RW.q (v := .pointer (some (Value.at va2 ((((Fu.gaugeAt b.Gauges x.Gauge).Target).toNat) * 5)))) rfl (q_indexAddr rfl rfl hva2 Try.underlying34 sz79 (by omega) (by omega) rfl) ?_
          refine RW.q (v := .pointer (some (Value.at va2 ((((Fu.gaugeAt b.Gauges x.Gauge).Target).toNat) * 5 + 0)))) rfl (q_fieldAddr rfl Try.underlying79 rfl sz42 at_add) ?_
          refine RW.effn (J' := St ⟨w, Φ, []⟩ Φ [.row va2 79 5 ((([] : List Bt.Known) ++ h.Links).length) (flat ((([] : List Bt.Known) ++ h.Links).set (((Fu.gaugeAt b.Gauges x.Gauge).Target).toNat) (⟨⟨Fu.loOf (Fu.meet ((h.Links.getD (((Fu.gaugeAt b.Gauges x.Gauge).Target).toNat) default).Pos.Lo) ((h.Links.getD (((Fu.gaugeAt b.Gauges x.Gauge).Target).toNat) default).Pos.Hi) x.Value.Lo x.Value.Hi), Fu.hiOf (Fu.meet ((h.Links.getD (((Fu.gaugeAt b.Gauges x.Gauge).Target).toNat) default).Pos.Lo) ((h.Links.getD (((Fu.gaugeAt b.Gauges x.Gauge).Target).toNat) default).Pos.Hi) x.Value.Lo x.Value.Hi)⟩, ((([] : List Bt.Known) ++ h.Links).getD (((Fu.gaugeAt b.Gauges x.Gauge).Target).toNat) default).Target, ⟨((([] : List Bt.Known) ++ h.Links).getD (((Fu.gaugeAt b.Gauges x.Gauge).Target).toNat) default).Open.Lo, ((([] : List Bt.Known) ++ h.Links).getD (((Fu.gaugeAt b.Gauges x.Gauge).Target).toNat) default).Open.Hi⟩⟩ : Bt.Known))), .blk b9 42 [.int .i64 (Fu.loOf (Fu.meet ((h.Links.getD (((Fu.gaugeAt b.Gauges x.Gauge).Target).toNat) default).Pos.Lo) ((h.Links.getD (((Fu.gaugeAt b.Gauges x.Gauge).Target).toNat) default).Pos.Hi) x.Value.Lo x.Value.Hi)), .int .i64 (Fu.hiOf (Fu.meet ((h.Links.getD (((Fu.gaugeAt b.Gauges x.Gauge).Target).toNat) default).Pos.Lo) ((h.Links.getD (((Fu.gaugeAt b.Gauges x.Gauge).Target).toNat) default).Pos.Hi) x.Value.Lo x.Value.Hi))], .blk b5 58 [.string ((Fu.gaugeAt b.Gauges x.Gauge).Name), .int .i64 ((Fu.gaugeAt b.Gauges x.Gauge).Kind), .int .i64 ((Fu.gaugeAt b.Gauges x.Gauge).Target), .int .i64 ((Fu.gaugeAt b.Gauges x.Gauge).Err), .int .i64 ((Fu.gaugeAt b.Gauges x.Gauge).Drift)], .blk b4 36 [.int .i64 0, (.slice none 0 0), (.slice none 0 0), (.slice none 0 0)], .blk b3 46 [.int .i64 x.Gauge, .int .i64 x.Hour, .int .i64 x.Value.Lo, .int .i64 x.Value.Hi], .blk b2 36 [.int .i64 h.Hour, hv1, hv2, va2], .blk b1 31 [.string b.Name, v1, .int .i64 b.Cells, v3, v4, v5, v6, v7, v8, v9, .int .i64 b.Err]]) (e_storeRow (v := .agg #[.int .i64 (Fu.loOf (Fu.meet ((h.Links.getD (((Fu.gaugeAt b.Gauges x.Gauge).Target).toNat) default).Pos.Lo) ((h.Links.getD (((Fu.gaugeAt b.Gauges x.Gauge).Target).toNat) default).Pos.Hi) x.Value.Lo x.Value.Hi)), .int .i64 (Fu.hiOf (Fu.meet ((h.Links.getD (((Fu.gaugeAt b.Gauges x.Gauge).Target).toNat) default).Pos.Lo) ((h.Links.getD (((Fu.gaugeAt b.Gauges x.Gauge).Target).toNat) default).Pos.Hi) x.Value.Lo x.Value.Hi))]) 0 rfl rfl rfl sz42 rfl rfl (by rw [flat_len even79]; simp [Rep.sz]; omega) (splice_P even79 (k := ((Fu.gaugeAt b.Gauges x.Gauge).Target).toNat) (off := 0) (x := (⟨⟨Fu.loOf (Fu.meet ((h.Links.getD (((Fu.gaugeAt b.Gauges x.Gauge).Target).toNat) default).Pos.Lo) ((h.Links.getD (((Fu.gaugeAt b.Gauges x.Gauge).Target).toNat) default).Pos.Hi) x.Value.Lo x.Value.Hi), Fu.hiOf (Fu.meet ((h.Links.getD (((Fu.gaugeAt b.Gauges x.Gauge).Target).toNat) default).Pos.Lo) ((h.Links.getD (((Fu.gaugeAt b.Gauges x.Gauge).Target).toNat) default).Pos.Hi) x.Value.Lo x.Value.Hi)⟩, ((([] : List Bt.Known) ++ h.Links).getD (((Fu.gaugeAt b.Gauges x.Gauge).Target).toNat) default).Target, ⟨((([] : List Bt.Known) ++ h.Links).getD (((Fu.gaugeAt b.Gauges x.Gauge).Target).toNat) default).Open.Lo, ((([] : List Bt.Known) ++ h.Links).getD (((Fu.gaugeAt b.Gauges x.Gauge).Target).toNat) default).Open.Hi⟩⟩ : Bt.Known)) (by simp; omega) rfl (Nat.le_of_ble_eq_true rfl)) rfl) ?_
          refine RW.nil ?_
          refine Post.then_n ?_
          refine AW.seq ?_
          refine AW.region ?_
          refine RW.q (v := .agg #[.int .i64 h.Hour, hv1, hv2, va2]) rfl (q_loadAgg rfl Try.underlying36 rfl sz36 rfl (Cells.blk 5 rfl)) ?_
          refine RW.effn (J' := St ⟨w, Φ, []⟩ Φ [.row va2 79 5 ((([] : List Bt.Known) ++ h.Links).length) (flat ((([] : List Bt.Known) ++ h.Links).set (((Fu.gaugeAt b.Gauges x.Gauge).Target).toNat) (⟨⟨Fu.loOf (Fu.meet ((h.Links.getD (((Fu.gaugeAt b.Gauges x.Gauge).Target).toNat) default).Pos.Lo) ((h.Links.getD (((Fu.gaugeAt b.Gauges x.Gauge).Target).toNat) default).Pos.Hi) x.Value.Lo x.Value.Hi), Fu.hiOf (Fu.meet ((h.Links.getD (((Fu.gaugeAt b.Gauges x.Gauge).Target).toNat) default).Pos.Lo) ((h.Links.getD (((Fu.gaugeAt b.Gauges x.Gauge).Target).toNat) default).Pos.Hi) x.Value.Lo x.Value.Hi)⟩, ((([] : List Bt.Known) ++ h.Links).getD (((Fu.gaugeAt b.Gauges x.Gauge).Target).toNat) default).Target, ⟨((([] : List Bt.Known) ++ h.Links).getD (((Fu.gaugeAt b.Gauges x.Gauge).Target).toNat) default).Open.Lo, ((([] : List Bt.Known) ++ h.Links).getD (((Fu.gaugeAt b.Gauges x.Gauge).Target).toNat) default).Open.Hi⟩⟩ : Bt.Known))), .blk b9 42 [.int .i64 (Fu.loOf (Fu.meet ((h.Links.getD (((Fu.gaugeAt b.Gauges x.Gauge).Target).toNat) default).Pos.Lo) ((h.Links.getD (((Fu.gaugeAt b.Gauges x.Gauge).Target).toNat) default).Pos.Hi) x.Value.Lo x.Value.Hi)), .int .i64 (Fu.hiOf (Fu.meet ((h.Links.getD (((Fu.gaugeAt b.Gauges x.Gauge).Target).toNat) default).Pos.Lo) ((h.Links.getD (((Fu.gaugeAt b.Gauges x.Gauge).Target).toNat) default).Pos.Hi) x.Value.Lo x.Value.Hi))], .blk b5 58 [.string ((Fu.gaugeAt b.Gauges x.Gauge).Name), .int .i64 ((Fu.gaugeAt b.Gauges x.Gauge).Kind), .int .i64 ((Fu.gaugeAt b.Gauges x.Gauge).Target), .int .i64 ((Fu.gaugeAt b.Gauges x.Gauge).Err), .int .i64 ((Fu.gaugeAt b.Gauges x.Gauge).Drift)], .blk b4 36 [.int .i64 h.Hour, hv1, hv2, va2], .blk b3 46 [.int .i64 x.Gauge, .int .i64 x.Hour, .int .i64 x.Value.Lo, .int .i64 x.Value.Hi], .blk b2 36 [.int .i64 h.Hour, hv1, hv2, va2], .blk b1 31 [.string b.Name, v1, .int .i64 b.Cells, v3, v4, v5, v6, v7, v8, v9, .int .i64 b.Err]]) (e_store (v := .agg #[.int .i64 h.Hour, hv1, hv2, va2]) 3 rfl rfl rfl sz36 rfl (by show List.all [_, hv1, hv2, va2] _ = true; simp only [List.all_cons, List.all_nil, oneCell_sl hr1.sl, oneCell_sl hr2.sl, oneCell_sl hva2]; rfl) rfl rfl rfl) ?_
          refine RW.q (v := .bool false) rfl (q_assign rfl) ?_
          refine RW.nil ?_
          refine Post.then_n ?_
          refine AW.ret ?_
          have hkd : Fu.kindOf b h.Vol.length h.Links.length x = 2 := Fu.kind2 (fun h9 => h9.elim (fun h8 => h8 hin) (fun h8 => by omega)) (fun h9 => by omega) ⟨by omega, by omega⟩
          have hok : Fu.okK b h.Links x = true := by unfold Fu.okK Fu.tgt; simpa [-List.getD_eq_getElem?_getD] using hc6
          have hKw := hr3.wfE
          have hset : (([] : List Bt.Known) ++ h.Links).set (Fu.gaugeAt b.Gauges x.Gauge).Target.toNat ⟨⟨Fu.loOf (Fu.meet (h.Links.getD (Fu.gaugeAt b.Gauges x.Gauge).Target.toNat default).Pos.Lo (h.Links.getD (Fu.gaugeAt b.Gauges x.Gauge).Target.toNat default).Pos.Hi x.Value.Lo x.Value.Hi), Fu.hiOf (Fu.meet (h.Links.getD (Fu.gaugeAt b.Gauges x.Gauge).Target.toNat default).Pos.Lo (h.Links.getD (Fu.gaugeAt b.Gauges x.Gauge).Target.toNat default).Pos.Hi x.Value.Lo x.Value.Hi)⟩, (h.Links.getD (Fu.gaugeAt b.Gauges x.Gauge).Target.toNat default).Target, ⟨(h.Links.getD (Fu.gaugeAt b.Gauges x.Gauge).Target.toNat default).Open.Lo, (h.Links.getD (Fu.gaugeAt b.Gauges x.Gauge).Target.toNat default).Open.Hi⟩⟩ = Fu.narL h.Links (Fu.tgt b x) x.Value.Lo x.Value.Hi := by rw [Fu.narL_some hok]; rfl
          obtain ⟨e1, e2⟩ := (Fu.nar2 hkd hok)
          refine fin_cell2 (cs := [.int .i64 h.Hour, hv1, hv2, va2]) (v := .bool false) rfl rfl rfl rfl Try.underlying36 rfl sz36 rfl (Cells.blk 3 rfl) (fun w' hw => ?_)
          refine ⟨_, rfl, hw.below rfl, [.int .i64 h.Hour, hv1, hv2, va2], ?_, ?_⟩
          · rw [e2]
          · rw [e1]
            refine ⟨_, _, _, rfl, hhw, ?_, hr2.mono hw.phi_ext, ?_⟩
            · exact hr1.mono hw.phi_ext
            · exact RowS.repE even79 (by rw [← hset]; exact row_ext hw 0 rfl) (by rw [Fu.narL_len]; simp) (by simp only [maxSl]; simp <;> omega) (Fu.narL_wf (show (Fu.gaugeAt b.Gauges x.Gauge).Target.toNat < h.Links.length by omega) (fun x => (show (I64 x.Pos.Lo ∧ I64 x.Pos.Hi ∧ I64 x.Target ∧ I64 x.Open.Lo ∧ I64 x.Open.Hi) ↔ _ from by unfold I64 Fu.Ok64; constructor <;> intro h9 <;> omega)) hKw hx1 hx2)
      · simp [-List.getD_eq_getElem?_getD] at hc5
        refine AW.skip ?_
        refine Post.then_n ?_
        refine AW.seq ?_
        refine AW.region ?_
        refine RW.q (v := .agg #[.int .i64 h.Hour, hv1, hv2, hv3]) rfl (q_loadAgg rfl Try.underlying36 rfl sz36 rfl (Cells.blk 3 rfl)) ?_
        refine RW.effn (J' := St ⟨w, Φ, []⟩ Φ [.blk b5 58 [.string ((Fu.gaugeAt b.Gauges x.Gauge).Name), .int .i64 ((Fu.gaugeAt b.Gauges x.Gauge).Kind), .int .i64 ((Fu.gaugeAt b.Gauges x.Gauge).Target), .int .i64 ((Fu.gaugeAt b.Gauges x.Gauge).Err), .int .i64 ((Fu.gaugeAt b.Gauges x.Gauge).Drift)], .blk b4 36 [.int .i64 h.Hour, hv1, hv2, hv3], .blk b3 46 [.int .i64 x.Gauge, .int .i64 x.Hour, .int .i64 x.Value.Lo, .int .i64 x.Value.Hi], .blk b2 36 [.int .i64 h.Hour, hv1, hv2, hv3], .blk b1 31 [.string b.Name, v1, .int .i64 b.Cells, v3, v4, v5, v6, v7, v8, v9, .int .i64 b.Err]]) (e_store (v := .agg #[.int .i64 h.Hour, hv1, hv2, hv3]) 1 rfl rfl rfl sz36 rfl (by show List.all [_, hv1, hv2, hv3] _ = true; simp only [List.all_cons, List.all_nil, oneCell_sl hr1.sl, oneCell_sl hr2.sl, oneCell_sl hr3.sl]; rfl) rfl rfl rfl) ?_
        refine RW.q (v := .bool false) rfl (q_assign rfl) ?_
        refine RW.nil ?_
        refine Post.then_n ?_
        refine AW.ret ?_
        have hkd : Fu.kindOf b h.Vol.length h.Links.length x = 0 := by
          rcases Int.lt_or_le (Fu.gaugeAt b.Gauges x.Gauge).Target 0 with h8 | h8
          · exact Fu.kind0 (.inr h8)
          · exact Fu.kind3 (fun h9 => by omega) (fun h9 => by omega)
        obtain ⟨e1, e2⟩ := (Fu.nar0 hkd)
        refine fin_cell2 (cs := [.int .i64 h.Hour, hv1, hv2, hv3]) (v := .bool false) rfl rfl rfl rfl Try.underlying36 rfl sz36 rfl (Cells.blk 1 rfl) (fun w' hw => ?_)
        refine ⟨_, rfl, hw.below rfl, [.int .i64 h.Hour, hv1, hv2, hv3], ?_, ?_⟩
        · rw [e2]
        · rw [e1]
          refine ⟨_, _, _, rfl, hhw, ?_, hr2.mono hw.phi_ext, ?_⟩
          · exact hr1.mono hw.phi_ext
          · exact hr3.mono hw.phi_ext

end Go.Proofs.Ytblfeidlnhdekaa
