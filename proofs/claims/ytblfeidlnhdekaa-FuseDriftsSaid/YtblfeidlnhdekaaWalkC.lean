/- Walks (part WalkC), printed by walk2.py. Conditions: those of each theorem. -/
import Derived.Test.YtblfeidlnhdekaaWalkB
namespace Go.Proofs.Ytblfeidlnhdekaa
open Go Go.K Go.RowKit

set_option maxRecDepth 8000 in
set_option maxHeartbeats 1000000 in
theorem At_c (w : World) (Φ : Hp) (hΦ : Hp.le Φ (hp w)) {c : List Bt.Point} {v1 : Value} (h1 : RepSl Φ c v1) {x : Int} :
    Calls Try.prog 72 #[v1, .int .i64 x] w fun e w' => e = .returned (.int .i64 (Fu.atC c x)) ∧ Below w.heap.size w w' := by
  refine calls_of_AW (args := [v1, .int .i64 x]) Try.func72 rfl (Nat.le_of_ble_eq_true rfl) (St ⟨w, Φ, []⟩ Φ []) (StP.init w Φ hΦ []) ?_
  show AW Try.prog 17 [] _ _ _ [(0, v1), (1, .int .i64 x)] _
  refine AW.seq ?_
  refine AW.region ?_
  refine RW.q (v := .int .i64 0) rfl (q_assign rfl) ?_
  refine RW.nil ?_
  refine Post.then_n ?_
  refine AW.seq ?_
  refine AW.seq ?_
  refine AW.region ?_
  refine RW.q (v := v1) rfl (q_move rfl) ?_
  refine RW.q (v := .bool (decide (Fu.RightC c))) rfl (q_call (args := #[v1]) own32 rfl rfl (fun w1 hw1 => rcRight_c w1 (Go.K.hp w1) (Hp.le_refl _) (h1.mono hw1.phi))) ?_
  refine RW.q (v := .bool (!(decide (Fu.RightC c)))) rfl (q_not rfl) ?_
  refine RW.nil ?_
  refine Post.then_n ?_
  refine AW.cond (b := !(decide (Fu.RightC c))) rfl (fun hc1 => ?_) (fun hc1 => ?_)
  · simp [-List.getD_eq_getElem?_getD] at hc1
    refine AW.seq ?_
    refine AW.region ?_
    refine RW.q (v := .int .i64 0) rfl (q_assign rfl) ?_
    refine RW.nil ?_
    refine Post.then_n ?_
    refine AW.ret ?_
    refine Post.then_r ?_
    exact fin_val (v' := .int .i64 0) rfl rfl rfl (by unfold Fu.atC; rw [if_neg (by simpa using hc1)])
  · simp [-List.getD_eq_getElem?_getD] at hc1
    refine AW.skip ?_
    refine Post.then_n ?_
    refine AW.seq ?_
    refine AW.region ?_
    refine RW.q (v := v1) rfl (q_move rfl) ?_
    refine RW.q (v := .int .i64 x) rfl (q_move rfl) ?_
    refine RW.q (v := .tuple #[.int .i64 (Fu.valC c x), .bool (Fu.remC c x)]) rfl (q_call (args := #[v1, .int .i64 x]) own98 rfl rfl (fun w1 hw1 => rvalue_c w1 (Go.K.hp w1) (Hp.le_refl _) (h1.mono hw1.phi) (by simpa using hc1))) ?_
    refine RW.q (v := .tuple #[.int .i64 (Fu.valC c x), .bool (Fu.remC c x)]) rfl (q_move rfl) ?_
    refine RW.q (v := .int .i64 (Fu.valC c x)) rfl (q_extract rfl rfl) ?_
    refine RW.q (v := .bool (Fu.remC c x)) rfl (q_extract rfl rfl) ?_
    refine RW.q (v := .int .i64 (Fu.valC c x)) rfl (q_assign rfl) ?_
    refine RW.q (v := .bool (Fu.remC c x)) rfl (q_assign rfl) ?_
    refine RW.nil ?_
    refine Post.then_n ?_
    refine AW.seq ?_
    refine AW.region ?_
    refine RW.q (v := .int .i64 (Fu.valC c x)) rfl (q_move rfl) ?_
    refine RW.q (v := .int .i64 (Fu.valC c x)) rfl (q_assign rfl) ?_
    refine RW.nil ?_
    refine Post.then_n ?_
    refine AW.ret ?_
    exact fin_val (v' := .int .i64 (Fu.valC c x)) rfl rfl rfl (by unfold Fu.atC; rw [if_pos (by simpa using hc1)])

set_option maxRecDepth 8000 in
set_option maxHeartbeats 1000000 in
theorem first_c (w : World) (Φ : Hp) (hΦ : Hp.le Φ (hp w)) {c : List Bt.Point} {v1 : Value} (h1 : RepSl Φ c v1) (hR : Fu.RightC c) {y : Int} :
    Calls Try.prog 33 #[v1, .int .i64 y] w fun e w' => e = .returned (.int .i64 (Fu.firstC c y)) ∧ Below w.heap.size w w' := by
  refine calls_of_AW (args := [v1, .int .i64 y]) Try.func33 rfl (Nat.le_of_ble_eq_true rfl) (St ⟨w, Φ, []⟩ Φ []) (StP.init w Φ hΦ []) ?_
  show AW Try.prog 24 [] _ _ _ [(0, v1), (1, .int .i64 y)] _
  have hfr := Fu.first_rng hR y
  refine AW.seq ?_
  refine AW.region ?_
  refine RW.q (v := .int .i64 0) rfl (q_assign rfl) ?_
  refine RW.nil ?_
  refine Post.then_n ?_
  refine AW.seq ?_
  refine AW.region ?_
  refine RW.q (v := .int .i64 0) rfl (q_assign rfl) ?_
  refine RW.nil ?_
  refine Post.then_n ?_
  refine AW.seq ?_
  refine AW.region ?_
  refine RW.q (v := .int .i64 1125899906842625) rfl (q_assign rfl) ?_
  refine RW.nil ?_
  refine Post.then_n ?_
  refine AW.seq ?_
  refine AW.block ?_
  refine AW.loop (fun s J m => ∃ (u : Nat), ∃ (v : Nat), s = [(0, v1), (1, .int .i64 y), (5, .int .i64 (u : Int)), (6, .int .i64 (v : Int))] ∧ J = St ⟨w, Φ, []⟩ Φ [] ∧ m = v - u ∧ (u ≤ v) ∧ ((u : Int) ≤ Fu.firstC c y) ∧ (Fu.firstC c y ≤ (v : Int)) ∧ (v ≤ 1125899906842625)) (s0 := _) (J1 := _) (m0 := _) ⟨0, 1125899906842625, rfl, rfl, rfl, (by omega), (by omega), (by omega), (by omega)⟩ ⟨rfl, rfl, rfl, rfl, trivial⟩ (fun _ h => h) ?_
  rintro _ _ _ _ ⟨u, v, rfl, rfl, rfl, huv, hu, hv, hvM⟩
  refine AW.seq ?_
  refine AW.seq ?_
  refine AW.region ?_
  refine RW.q (v := .int .i64 (u : Int)) rfl (q_move rfl) ?_
  refine RW.q (v := .int .i64 (v : Int)) rfl (q_move rfl) ?_
  refine RW.q (v := .bool (decide ((u : Int) < (v : Int)))) rfl (q_lss rfl rfl) ?_
  refine RW.nil ?_
  refine Post.then_n ?_
  refine AW.cond (b := decide ((u : Int) < (v : Int))) rfl (fun hc1 => ?_) (fun hc1 => ?_)
  · simp [-List.getD_eq_getElem?_getD] at hc1
    refine AW.skip ?_
    refine Post.then_n ?_
    refine AW.block ?_
    refine AW.seq ?_
    obtain ⟨q, hq⟩ : ∃ q, (u + v) / 2 = q := ⟨_, rfl⟩
    refine AW.region ?_
    refine RW.q (v := .int .i64 (u : Int)) rfl (q_move rfl) ?_
    refine RW.q (v := .int .i64 (v : Int)) rfl (q_move rfl) ?_
    refine RW.q (v := .int .i64 ((u + v : Nat) : Int)) rfl (q_add rfl rfl (by omega) (by unfold I64; omega)) ?_
    refine RW.q (v := .int .i64 (q : Int)) rfl (q_as (v := .int .i64 (((u + v) / 2 : Nat) : Int)) (q_quoN (a := u + v) (b := 2) rfl rfl (by omega) (by omega)) (congrArg (Value.int .i64) (by rw [hq]))) ?_
    refine RW.q (v := .int .i64 (q : Int)) rfl (q_assign rfl) ?_
    refine RW.nil ?_
    refine Post.then_n ?_
    refine AW.seq ?_
    refine AW.region ?_
    refine RW.q (v := v1) rfl (q_move rfl) ?_
    refine RW.q (v := .int .i64 (q : Int)) rfl (q_move rfl) ?_
    refine RW.q (v := .int .i64 (Fu.atC c (q : Int))) rfl (q_call (args := #[v1, .int .i64 (q : Int)]) own72 rfl rfl (fun w1 hw1 => At_c w1 (Go.K.hp w1) (Hp.le_refl _) (h1.mono hw1.phi))) ?_
    refine RW.q (v := .int .i64 y) rfl (q_move rfl) ?_
    refine RW.q (v := .bool (decide (y < Fu.atC c (q : Int)))) rfl (q_gtr rfl rfl) ?_
    refine RW.nil ?_
    refine Post.then_n ?_
    refine AW.cond (b := decide (y < Fu.atC c (q : Int))) rfl (fun hc2 => ?_) (fun hc2 => ?_)
    · simp [-List.getD_eq_getElem?_getD] at hc2
      refine AW.region ?_
      refine RW.q (v := .int .i64 (q : Int)) rfl (q_move rfl) ?_
      refine RW.q (v := .int .i64 (q : Int)) rfl (q_assign rfl) ?_
      refine RW.nil ?_
      refine Post.blk_n ?_
      exact Post.back (s' := _) (J' := _) (m' := _) (by omega) ⟨u, q, rfl, rfl, rfl, (by omega), (by have := (Fu.first_iff hR (y := y) (v := ((q : Nat) : Int)) (by omega) (by omega)); omega), (by have := (Fu.first_iff hR (y := y) (v := ((q : Nat) : Int)) (by omega) (by omega)); omega), (by omega)⟩ ⟨rfl, rfl, rfl, rfl, trivial⟩ (fun _ h => h)
    · simp [-List.getD_eq_getElem?_getD] at hc2
      refine AW.region ?_
      refine RW.q (v := .int .i64 (q : Int)) rfl (q_move rfl) ?_
      refine RW.q (v := .int .i64 ((q + 1 : Nat) : Int)) rfl (q_add rfl rfl (by omega) (by unfold I64; omega)) ?_
      refine RW.q (v := .int .i64 ((q + 1 : Nat) : Int)) rfl (q_assign rfl) ?_
      refine RW.nil ?_
      refine Post.blk_n ?_
      exact Post.back (s' := _) (J' := _) (m' := _) (by omega) ⟨q + 1, v, rfl, rfl, rfl, (by omega), (by have := (Fu.first_iff hR (y := y) (v := ((q : Nat) : Int)) (by omega) (by omega)); omega), (by have := (Fu.first_iff hR (y := y) (v := ((q : Nat) : Int)) (by omega) (by omega)); omega), (by omega)⟩ ⟨rfl, rfl, rfl, rfl, trivial⟩ (fun _ h => h)
  · simp [-List.getD_eq_getElem?_getD] at hc1
    refine AW.exit ?_
    refine Post.then_x (Post.then_x (Post.blk_hit (Post.then_n ?_)))
    refine AW.seq ?_
    refine AW.region ?_
    refine RW.q (v := .int .i64 (u : Int)) rfl (q_move rfl) ?_
    refine RW.q (v := .int .i64 (u : Int)) rfl (q_assign rfl) ?_
    refine RW.nil ?_
    refine Post.then_n ?_
    refine AW.ret ?_
    exact fin_val (v' := .int .i64 (u : Int)) rfl rfl rfl (by rw [show Fu.firstC c y = ((u : Nat) : Int) by omega])

set_option maxRecDepth 8000 in
set_option maxHeartbeats 1000000 in
theorem Volume_c (w : World) (Φ : Hp) (hΦ : Hp.le Φ (hp w)) {b : Bt.Basin} {cs : List Value} (hB : RepV Φ b cs) {r : Bt.Reading} (hr : I64 r.Value.Lo ∧ I64 r.Value.Hi) :
    Calls Try.prog 10 #[.agg cs.toArray, .agg #[.int .i64 r.Gauge, .int .i64 r.Hour, .int .i64 r.Value.Lo, .int .i64 r.Value.Hi]] w fun e w' => e = .returned (.tuple #[.agg #[.int .i64 (Fu.loOf (Fu.volR b r)), .int .i64 (Fu.hiOf (Fu.volR b r))], .bool (Fu.volR b r).isSome]) ∧ Below w.heap.size w w' := by
  obtain ⟨v1, v3, v4, v5, v6, v7, v8, v9, hcs, hBw, r1, r3, r4, r5, r6, r7, r8, r9⟩ := (show Rep.rep Φ b cs from hB)
  subst hcs
  have hpm : b.Places.length * 152 ≤ 140737488355328 := r3.max
  have hgm : b.Gauges.length * 48 ≤ 140737488355328 := r6.max
  obtain ⟨hr1, hr2⟩ := hr
  have hu1 := hr1
  have hu2 := hr2
  unfold I64 at hu1 hu2
  refine calls_of_AW (args := [.agg #[.string b.Name, v1, .int .i64 b.Cells, v3, v4, v5, v6, v7, v8, v9, .int .i64 b.Err], .agg #[.int .i64 r.Gauge, .int .i64 r.Hour, .int .i64 r.Value.Lo, .int .i64 r.Value.Hi]]) Try.func10 rfl (Nat.le_of_ble_eq_true rfl) (St ⟨w, Φ, []⟩ Φ []) (StP.init w Φ hΦ []) ?_
  show AW Try.prog 81 [] _ _ _ [(0, .agg #[.string b.Name, v1, .int .i64 b.Cells, v3, v4, v5, v6, v7, v8, v9, .int .i64 b.Err]), (1, .agg #[.int .i64 r.Gauge, .int .i64 r.Hour, .int .i64 r.Value.Lo, .int .i64 r.Value.Hi])] _
  refine AW.seq ?_
  refine AW.region ?_
  refine RW.eff (fun b1 : Nat => .pointer (some (⟨b1, 0, none⟩))) (fun b1 => St ⟨w, Φ, []⟩ Φ [.blk b1 31 [.string b.Name, v1, .int .i64 b.Cells, v3, v4, v5, v6, v7, v8, v9, .int .i64 b.Err]]) rfl (e_boxA (cs := [.string b.Name, v1, .int .i64 b.Cells, v3, v4, v5, v6, v7, v8, v9, .int .i64 b.Err]) rfl) ?_
  intro b1
  refine RW.eff (fun b2 : Nat => .pointer (some (⟨b2, 0, none⟩))) (fun b2 => St ⟨w, Φ, []⟩ Φ [.blk b2 46 [.int .i64 r.Gauge, .int .i64 r.Hour, .int .i64 r.Value.Lo, .int .i64 r.Value.Hi], .blk b1 31 [.string b.Name, v1, .int .i64 b.Cells, v3, v4, v5, v6, v7, v8, v9, .int .i64 b.Err]]) rfl (e_boxA (cs := [.int .i64 r.Gauge, .int .i64 r.Hour, .int .i64 r.Value.Lo, .int .i64 r.Value.Hi]) rfl) ?_
  intro b2
  refine RW.eff (fun b3 : Nat => .pointer (some (⟨b3, 0, none⟩))) (fun b3 => St ⟨w, Φ, []⟩ Φ [.blk b3 42 [.int .i64 0, .int .i64 0], .blk b2 46 [.int .i64 r.Gauge, .int .i64 r.Hour, .int .i64 r.Value.Lo, .int .i64 r.Value.Hi], .blk b1 31 [.string b.Name, v1, .int .i64 b.Cells, v3, v4, v5, v6, v7, v8, v9, .int .i64 b.Err]]) rfl (e_alloc zero42) ?_
  intro b3
  refine RW.q (v := .bool false) rfl (q_assign rfl) ?_
  refine RW.nil ?_
  refine Post.then_n ?_
  refine AW.seq ?_
  refine AW.region ?_
  refine RW.q (v := .agg #[.string b.Name, v1, .int .i64 b.Cells, v3, v4, v5, v6, v7, v8, v9, .int .i64 b.Err]) rfl (q_loadAgg rfl Try.underlying31 rfl sz31 rfl (Cells.blk 2 rfl)) ?_
  refine RW.q (v := .agg #[.int .i64 r.Gauge, .int .i64 r.Hour, .int .i64 r.Value.Lo, .int .i64 r.Value.Hi]) rfl (q_loadAgg rfl Try.underlying46 rfl sz46 rfl (Cells.blk 1 rfl)) ?_
  refine RW.q (v := .tuple #[.agg #[.string ((Fu.gaugeAt b.Gauges r.Gauge).Name), .int .i64 ((Fu.gaugeAt b.Gauges r.Gauge).Kind), .int .i64 ((Fu.gaugeAt b.Gauges r.Gauge).Target), .int .i64 ((Fu.gaugeAt b.Gauges r.Gauge).Err), .int .i64 ((Fu.gaugeAt b.Gauges r.Gauge).Drift)], .bool (decide (Fu.inG b.Gauges r.Gauge))]) rfl (q_call (args := #[.agg #[.string b.Name, v1, .int .i64 b.Cells, v3, v4, v5, v6, v7, v8, v9, .int .i64 b.Err], .agg #[.int .i64 r.Gauge, .int .i64 r.Hour, .int .i64 r.Value.Lo, .int .i64 r.Value.Hi]]) own26 rfl rfl (fun w1 hw1 => gaugeOf_c w1 (Go.K.hp w1) (Hp.le_refl _) (hB.mono hw1.phi) (r := r))) ?_
  refine RW.q (v := .tuple #[.agg #[.string ((Fu.gaugeAt b.Gauges r.Gauge).Name), .int .i64 ((Fu.gaugeAt b.Gauges r.Gauge).Kind), .int .i64 ((Fu.gaugeAt b.Gauges r.Gauge).Target), .int .i64 ((Fu.gaugeAt b.Gauges r.Gauge).Err), .int .i64 ((Fu.gaugeAt b.Gauges r.Gauge).Drift)], .bool (decide (Fu.inG b.Gauges r.Gauge))]) rfl (q_move rfl) ?_
  refine RW.q (v := .agg #[.string ((Fu.gaugeAt b.Gauges r.Gauge).Name), .int .i64 ((Fu.gaugeAt b.Gauges r.Gauge).Kind), .int .i64 ((Fu.gaugeAt b.Gauges r.Gauge).Target), .int .i64 ((Fu.gaugeAt b.Gauges r.Gauge).Err), .int .i64 ((Fu.gaugeAt b.Gauges r.Gauge).Drift)]) rfl (q_extract rfl rfl) ?_
  refine RW.q (v := .bool (decide (Fu.inG b.Gauges r.Gauge))) rfl (q_extract rfl rfl) ?_
  refine RW.eff (fun b4 : Nat => .pointer (some (⟨b4, 0, none⟩))) (fun b4 => St ⟨w, Φ, []⟩ Φ [.blk b4 58 [.string (bs ([])), .int .i64 0, .int .i64 0, .int .i64 0, .int .i64 0], .blk b3 42 [.int .i64 0, .int .i64 0], .blk b2 46 [.int .i64 r.Gauge, .int .i64 r.Hour, .int .i64 r.Value.Lo, .int .i64 r.Value.Hi], .blk b1 31 [.string b.Name, v1, .int .i64 b.Cells, v3, v4, v5, v6, v7, v8, v9, .int .i64 b.Err]]) rfl (e_alloc zero58) ?_
  intro b4
  refine RW.effn (J' := St ⟨w, Φ, []⟩ Φ [.blk b4 58 [.string ((Fu.gaugeAt b.Gauges r.Gauge).Name), .int .i64 ((Fu.gaugeAt b.Gauges r.Gauge).Kind), .int .i64 ((Fu.gaugeAt b.Gauges r.Gauge).Target), .int .i64 ((Fu.gaugeAt b.Gauges r.Gauge).Err), .int .i64 ((Fu.gaugeAt b.Gauges r.Gauge).Drift)], .blk b3 42 [.int .i64 0, .int .i64 0], .blk b2 46 [.int .i64 r.Gauge, .int .i64 r.Hour, .int .i64 r.Value.Lo, .int .i64 r.Value.Hi], .blk b1 31 [.string b.Name, v1, .int .i64 b.Cells, v3, v4, v5, v6, v7, v8, v9, .int .i64 b.Err]]) (e_store (v := .agg #[.string ((Fu.gaugeAt b.Gauges r.Gauge).Name), .int .i64 ((Fu.gaugeAt b.Gauges r.Gauge).Kind), .int .i64 ((Fu.gaugeAt b.Gauges r.Gauge).Target), .int .i64 ((Fu.gaugeAt b.Gauges r.Gauge).Err), .int .i64 ((Fu.gaugeAt b.Gauges r.Gauge).Drift)]) 0 rfl rfl rfl sz58 rfl rfl rfl rfl rfl) ?_
  refine RW.q (v := .bool (decide (Fu.inG b.Gauges r.Gauge))) rfl (q_assign rfl) ?_
  refine RW.nil ?_
  refine Post.then_n ?_
  refine AW.seq ?_
  refine AW.seq ?_
  refine AW.region ?_
  refine RW.q (v := .bool (decide (Fu.inG b.Gauges r.Gauge))) rfl (q_move rfl) ?_
  refine RW.q (v := .bool (!(decide (Fu.inG b.Gauges r.Gauge)))) rfl (q_not rfl) ?_
  refine RW.q (v := .bool (!(decide (Fu.inG b.Gauges r.Gauge)))) rfl (q_move rfl) ?_
  refine RW.g (b := (!(decide (Fu.inG b.Gauges r.Gauge)))) (v := .pointer (some (⟨b4, 1, none⟩))) rfl rfl rfl (fun h => q_fieldAddr rfl Try.underlying58 rfl sz3 rfl) ?_
  refine RW.g (b := (!(decide (Fu.inG b.Gauges r.Gauge)))) (v := .int .i64 ((Fu.gaugeAt b.Gauges r.Gauge).Kind)) rfl rfl rfl (fun h => q_load (gv_pos h) Try.underlying3 rfl (Cell.blk 0 rfl rfl)) ?_
  refine RW.g (b := (!(decide (Fu.inG b.Gauges r.Gauge)))) (v := .bool (!decide ((Fu.gaugeAt b.Gauges r.Gauge).Kind = 0))) rfl rfl rfl (fun h => q_neq (gv_pos h) rfl) ?_
  refine RW.q (v := .bool ((!(decide (Fu.inG b.Gauges r.Gauge))) || (!decide ((Fu.gaugeAt b.Gauges r.Gauge).Kind = 0)))) rfl (q_pick rfl (fun hp => pkOrT hp) (fun hp => (gv_pos hp).trans (pkOrF hp))) ?_
  refine RW.q (v := .bool ((!(decide (Fu.inG b.Gauges r.Gauge))) || (!decide ((Fu.gaugeAt b.Gauges r.Gauge).Kind = 0)))) rfl (q_move rfl) ?_
  refine RW.g (b := ((!(decide (Fu.inG b.Gauges r.Gauge))) || (!decide ((Fu.gaugeAt b.Gauges r.Gauge).Kind = 0)))) (v := .pointer (some (⟨b4, 2, none⟩))) rfl rfl rfl (fun h => q_fieldAddr rfl Try.underlying58 rfl sz3 rfl) ?_
  refine RW.g (b := ((!(decide (Fu.inG b.Gauges r.Gauge))) || (!decide ((Fu.gaugeAt b.Gauges r.Gauge).Kind = 0)))) (v := .int .i64 ((Fu.gaugeAt b.Gauges r.Gauge).Target)) rfl rfl rfl (fun h => q_load (gv_pos h) Try.underlying3 rfl (Cell.blk 0 rfl rfl)) ?_
  refine RW.g (b := ((!(decide (Fu.inG b.Gauges r.Gauge))) || (!decide ((Fu.gaugeAt b.Gauges r.Gauge).Kind = 0)))) (v := .bool (decide ((Fu.gaugeAt b.Gauges r.Gauge).Target < 0))) rfl rfl rfl (fun h => q_lss (gv_pos h) rfl) ?_
  refine RW.q (v := .bool (((!(decide (Fu.inG b.Gauges r.Gauge))) || (!decide ((Fu.gaugeAt b.Gauges r.Gauge).Kind = 0))) || (decide ((Fu.gaugeAt b.Gauges r.Gauge).Target < 0)))) rfl (q_pick rfl (fun hp => pkOrT hp) (fun hp => (gv_pos hp).trans (pkOrF hp))) ?_
  refine RW.q (v := .bool (((!(decide (Fu.inG b.Gauges r.Gauge))) || (!decide ((Fu.gaugeAt b.Gauges r.Gauge).Kind = 0))) || (decide ((Fu.gaugeAt b.Gauges r.Gauge).Target < 0)))) rfl (q_move rfl) ?_
  refine RW.g (b := (((!(decide (Fu.inG b.Gauges r.Gauge))) || (!decide ((Fu.gaugeAt b.Gauges r.Gauge).Kind = 0))) || (decide ((Fu.gaugeAt b.Gauges r.Gauge).Target < 0)))) (v := .pointer (some (⟨b4, 2, none⟩))) rfl rfl rfl (fun h => q_fieldAddr rfl Try.underlying58 rfl sz3 rfl) ?_
  refine RW.g (b := (((!(decide (Fu.inG b.Gauges r.Gauge))) || (!decide ((Fu.gaugeAt b.Gauges r.Gauge).Kind = 0))) || (decide ((Fu.gaugeAt b.Gauges r.Gauge).Target < 0)))) (v := .int .i64 ((Fu.gaugeAt b.Gauges r.Gauge).Target)) rfl rfl rfl (fun h => q_load (gv_pos h) Try.underlying3 rfl (Cell.blk 0 rfl rfl)) ?_
  refine RW.g (b := (((!(decide (Fu.inG b.Gauges r.Gauge))) || (!decide ((Fu.gaugeAt b.Gauges r.Gauge).Kind = 0))) || (decide ((Fu.gaugeAt b.Gauges r.Gauge).Target < 0)))) (v := .pointer (some (⟨b1, 3, none⟩))) rfl rfl rfl (fun h => q_fieldAddr rfl Try.underlying31 rfl sz23 rfl) ?_
  refine RW.g (b := (((!(decide (Fu.inG b.Gauges r.Gauge))) || (!decide ((Fu.gaugeAt b.Gauges r.Gauge).Kind = 0))) || (decide ((Fu.gaugeAt b.Gauges r.Gauge).Target < 0)))) (v := v3) rfl rfl rfl (fun h => q_load (gv_pos h) Try.underlying23 rfl (Cell.blk 3 rfl rfl)) ?_
  refine RW.g (b := (((!(decide (Fu.inG b.Gauges r.Gauge))) || (!decide ((Fu.gaugeAt b.Gauges r.Gauge).Kind = 0))) || (decide ((Fu.gaugeAt b.Gauges r.Gauge).Target < 0)))) (v := .int .i64 ((b.Places.length : Nat) : Int)) rfl rfl rfl (fun h => q_len_sl (gv_pos h) r3.sl Try.underlying23) ?_
  refine RW.g (b := (((!(decide (Fu.inG b.Gauges r.Gauge))) || (!decide ((Fu.gaugeAt b.Gauges r.Gauge).Kind = 0))) || (decide ((Fu.gaugeAt b.Gauges r.Gauge).Target < 0)))) (v := .bool (decide (((b.Places.length : Nat) : Int) ≤ (Fu.gaugeAt b.Gauges r.Gauge).Target))) rfl rfl rfl (fun h => q_geq (gv_pos h) (gv_pos h)) ?_
  refine RW.q (v := .bool ((((!(decide (Fu.inG b.Gauges r.Gauge))) || (!decide ((Fu.gaugeAt b.Gauges r.Gauge).Kind = 0))) || (decide ((Fu.gaugeAt b.Gauges r.Gauge).Target < 0))) || (decide (((b.Places.length : Nat) : Int) ≤ (Fu.gaugeAt b.Gauges r.Gauge).Target)))) rfl (q_pick rfl (fun hp => pkOrT hp) (fun hp => (gv_pos hp).trans (pkOrF hp))) ?_
  refine RW.nil ?_
  refine Post.then_n ?_
  refine AW.cond (b := (((!(decide (Fu.inG b.Gauges r.Gauge))) || (!decide ((Fu.gaugeAt b.Gauges r.Gauge).Kind = 0))) || (decide ((Fu.gaugeAt b.Gauges r.Gauge).Target < 0))) || (decide (((b.Places.length : Nat) : Int) ≤ (Fu.gaugeAt b.Gauges r.Gauge).Target))) rfl (fun hc1 => ?_) (fun hc1 => ?_)
  · simp [-List.getD_eq_getElem?_getD] at hc1
    refine AW.seq ?_
    refine AW.region ?_
    refine RW.q (v := .agg #[.int .i64 0, .int .i64 0]) rfl (q_build (vals := []) zero42 Try.underlying42 places42 rfl rfl) ?_
    refine RW.effn (J' := St ⟨w, Φ, []⟩ Φ [.blk b4 58 [.string ((Fu.gaugeAt b.Gauges r.Gauge).Name), .int .i64 ((Fu.gaugeAt b.Gauges r.Gauge).Kind), .int .i64 ((Fu.gaugeAt b.Gauges r.Gauge).Target), .int .i64 ((Fu.gaugeAt b.Gauges r.Gauge).Err), .int .i64 ((Fu.gaugeAt b.Gauges r.Gauge).Drift)], .blk b3 42 [.int .i64 0, .int .i64 0], .blk b2 46 [.int .i64 r.Gauge, .int .i64 r.Hour, .int .i64 r.Value.Lo, .int .i64 r.Value.Hi], .blk b1 31 [.string b.Name, v1, .int .i64 b.Cells, v3, v4, v5, v6, v7, v8, v9, .int .i64 b.Err]]) (e_store (v := .agg #[.int .i64 0, .int .i64 0]) 1 rfl rfl rfl sz42 rfl rfl rfl rfl rfl) ?_
    refine RW.q (v := .bool false) rfl (q_assign rfl) ?_
    refine RW.nil ?_
    refine Post.then_n ?_
    refine AW.ret ?_
    refine Post.then_r ?_
    refine fin_cell2 (cs := [.int .i64 0, .int .i64 0]) (v := .bool false) rfl rfl rfl rfl Try.underlying42 rfl sz42 rfl (Cells.blk 1 rfl) (fun w' hw => ?_)
    refine ⟨?_, hw.below rfl⟩
    rw [Fu.volR_no (fun h => ?_)]
    · rfl
    obtain ⟨h1, h2, h3, h4⟩ := h
    rcases hc1 with ((h5 | h5) | h5) | h5
    · exact h5 h1
    · exact h5 h2
    · omega
    · omega
  · simp [-List.getD_eq_getElem?_getD] at hc1
    refine AW.skip ?_
    refine Post.then_n ?_
    refine AW.seq ?_
    have hLv : Fu.levelOf b r = (b.Places.getD (Fu.gaugeAt b.Gauges r.Gauge).Target.toNat default).Level := rfl
    have hvo : Fu.VolOk b r := ⟨hc1.1.1.1, hc1.1.1.2, hc1.1.2, hc1.2⟩
    refine AW.region ?_
    refine RW.q (v := .pointer (some (⟨b1, 3, none⟩))) rfl (q_fieldAddr rfl Try.underlying31 rfl sz23 rfl) ?_
    refine RW.q (v := v3) rfl (q_load rfl Try.underlying23 rfl (Cell.blk 3 rfl rfl)) ?_
    refine RW.q (v := .pointer (some (⟨b4, 2, none⟩))) rfl (q_fieldAddr rfl Try.underlying58 rfl sz3 rfl) ?_
    refine RW.q (v := .int .i64 ((Fu.gaugeAt b.Gauges r.Gauge).Target)) rfl (q_load rfl Try.underlying3 rfl (Cell.blk 0 rfl rfl)) ?_
    refine RW.q (v := .pointer (some (Value.at v3 ((((Fu.gaugeAt b.Gauges r.Gauge).Target).toNat) * 12)))) rfl (q_indexAddr rfl rfl r3.sl Try.underlying23 sz63 (by omega) (by omega) rfl) ?_
    refine RW.q (v := .pointer (some (Value.at v3 ((((Fu.gaugeAt b.Gauges r.Gauge).Target).toNat) * 12 + 4)))) rfl (q_fieldAddr rfl Try.underlying63 rfl sz60 at_add) ?_
    obtain ⟨sv1, hsv1, hpc1⟩ := leaf63_4 r3 (k := ((Fu.gaugeAt b.Gauges r.Gauge).Target).toNat) (by omega)
    refine RW.q (v := sv1) rfl (q_load rfl Try.underlying60 rfl (Cell.phi hpc1)) ?_
    refine RW.q (v := sv1) rfl (q_assign rfl) ?_
    refine RW.nil ?_
    refine Post.then_n ?_
    refine AW.seq ?_
    refine AW.seq ?_
    refine AW.region ?_
    refine RW.q (v := sv1) rfl (q_move rfl) ?_
    refine RW.q (v := .bool (decide (Fu.RightC ((b.Places.getD (((Fu.gaugeAt b.Gauges r.Gauge).Target).toNat) default).Level)))) rfl (q_call (args := #[sv1]) own27 rfl rfl (fun w1 hw1 => cRight_c w1 (Go.K.hp w1) (Hp.le_refl _) (hsv1.mono hw1.phi))) ?_
    refine RW.q (v := .bool (!(decide (Fu.RightC ((b.Places.getD (((Fu.gaugeAt b.Gauges r.Gauge).Target).toNat) default).Level))))) rfl (q_not rfl) ?_
    refine RW.nil ?_
    refine Post.then_n ?_
    refine AW.cond (b := !(decide (Fu.RightC ((b.Places.getD (((Fu.gaugeAt b.Gauges r.Gauge).Target).toNat) default).Level)))) rfl (fun hc2 => ?_) (fun hc2 => ?_)
    · simp [-List.getD_eq_getElem?_getD] at hc2
      refine AW.seq ?_
      refine AW.region ?_
      refine RW.q (v := .agg #[.int .i64 0, .int .i64 0]) rfl (q_build (vals := []) zero42 Try.underlying42 places42 rfl rfl) ?_
      refine RW.effn (J' := St ⟨w, Φ, []⟩ Φ [.blk b4 58 [.string ((Fu.gaugeAt b.Gauges r.Gauge).Name), .int .i64 ((Fu.gaugeAt b.Gauges r.Gauge).Kind), .int .i64 ((Fu.gaugeAt b.Gauges r.Gauge).Target), .int .i64 ((Fu.gaugeAt b.Gauges r.Gauge).Err), .int .i64 ((Fu.gaugeAt b.Gauges r.Gauge).Drift)], .blk b3 42 [.int .i64 0, .int .i64 0], .blk b2 46 [.int .i64 r.Gauge, .int .i64 r.Hour, .int .i64 r.Value.Lo, .int .i64 r.Value.Hi], .blk b1 31 [.string b.Name, v1, .int .i64 b.Cells, v3, v4, v5, v6, v7, v8, v9, .int .i64 b.Err]]) (e_store (v := .agg #[.int .i64 0, .int .i64 0]) 1 rfl rfl rfl sz42 rfl rfl rfl rfl rfl) ?_
      refine RW.q (v := .bool false) rfl (q_assign rfl) ?_
      refine RW.nil ?_
      refine Post.then_n ?_
      refine AW.ret ?_
      refine Post.then_r ?_
      refine fin_cell2 (cs := [.int .i64 0, .int .i64 0]) (v := .bool false) rfl rfl rfl rfl Try.underlying42 rfl sz42 rfl (Cells.blk 1 rfl) (fun w' hw => ?_)
      refine ⟨?_, hw.below rfl⟩
      rw [Fu.volR_yes hvo, Fu.volL_bad (by rw [hLv]; simpa using hc2)]; rfl
    · simp [-List.getD_eq_getElem?_getD] at hc2
      refine AW.skip ?_
      refine Post.then_n ?_
      refine AW.seq ?_
      refine AW.region ?_
      refine RW.q (v := sv1) rfl (q_move rfl) ?_
      refine RW.q (v := .pointer (some (⟨b2, 2, none⟩))) rfl (q_fieldAddr rfl Try.underlying46 rfl sz42 rfl) ?_
      refine RW.q (v := .pointer (some (⟨b2, 2, none⟩))) rfl (q_fieldAddr rfl Try.underlying42 rfl sz3 rfl) ?_
      refine RW.q (v := .int .i64 r.Value.Lo) rfl (q_load rfl Try.underlying3 rfl (Cell.blk 2 rfl rfl)) ?_
      refine RW.q (v := .tuple #[.int .i64 (Fu.intOf (Fu.leastC ((b.Places.getD (((Fu.gaugeAt b.Gauges r.Gauge).Target).toNat) default).Level) r.Value.Lo)), .bool ((Fu.leastC ((b.Places.getD (((Fu.gaugeAt b.Gauges r.Gauge).Target).toNat) default).Level) r.Value.Lo).isSome)]) rfl (q_call (args := #[sv1, .int .i64 r.Value.Lo]) own28 rfl rfl (fun w1 hw1 => Least_c w1 (Go.K.hp w1) (Hp.le_refl _) (hsv1.mono hw1.phi) hr1)) ?_
      refine RW.q (v := .tuple #[.int .i64 (Fu.intOf (Fu.leastC ((b.Places.getD (((Fu.gaugeAt b.Gauges r.Gauge).Target).toNat) default).Level) r.Value.Lo)), .bool ((Fu.leastC ((b.Places.getD (((Fu.gaugeAt b.Gauges r.Gauge).Target).toNat) default).Level) r.Value.Lo).isSome)]) rfl (q_move rfl) ?_
      refine RW.q (v := .int .i64 (Fu.intOf (Fu.leastC ((b.Places.getD (((Fu.gaugeAt b.Gauges r.Gauge).Target).toNat) default).Level) r.Value.Lo))) rfl (q_extract rfl rfl) ?_
      refine RW.q (v := .bool ((Fu.leastC ((b.Places.getD (((Fu.gaugeAt b.Gauges r.Gauge).Target).toNat) default).Level) r.Value.Lo).isSome)) rfl (q_extract rfl rfl) ?_
      refine RW.q (v := .int .i64 (Fu.intOf (Fu.leastC ((b.Places.getD (((Fu.gaugeAt b.Gauges r.Gauge).Target).toNat) default).Level) r.Value.Lo))) rfl (q_assign rfl) ?_
      refine RW.q (v := .bool ((Fu.leastC ((b.Places.getD (((Fu.gaugeAt b.Gauges r.Gauge).Target).toNat) default).Level) r.Value.Lo).isSome)) rfl (q_assign rfl) ?_
      refine RW.nil ?_
      refine Post.then_n ?_
      refine AW.seq ?_
      refine AW.seq ?_
      refine AW.region ?_
      refine RW.q (v := .bool ((Fu.leastC ((b.Places.getD (((Fu.gaugeAt b.Gauges r.Gauge).Target).toNat) default).Level) r.Value.Lo).isSome)) rfl (q_move rfl) ?_
      refine RW.q (v := .bool (!((Fu.leastC ((b.Places.getD (((Fu.gaugeAt b.Gauges r.Gauge).Target).toNat) default).Level) r.Value.Lo).isSome))) rfl (q_not rfl) ?_
      refine RW.nil ?_
      refine Post.then_n ?_
      refine AW.cond (b := !((Fu.leastC ((b.Places.getD (((Fu.gaugeAt b.Gauges r.Gauge).Target).toNat) default).Level) r.Value.Lo).isSome)) rfl (fun hc3 => ?_) (fun hc3 => ?_)
      · simp [-List.getD_eq_getElem?_getD] at hc3
        refine AW.seq ?_
        refine AW.region ?_
        refine RW.q (v := .agg #[.int .i64 0, .int .i64 0]) rfl (q_build (vals := []) zero42 Try.underlying42 places42 rfl rfl) ?_
        refine RW.effn (J' := St ⟨w, Φ, []⟩ Φ [.blk b4 58 [.string ((Fu.gaugeAt b.Gauges r.Gauge).Name), .int .i64 ((Fu.gaugeAt b.Gauges r.Gauge).Kind), .int .i64 ((Fu.gaugeAt b.Gauges r.Gauge).Target), .int .i64 ((Fu.gaugeAt b.Gauges r.Gauge).Err), .int .i64 ((Fu.gaugeAt b.Gauges r.Gauge).Drift)], .blk b3 42 [.int .i64 0, .int .i64 0], .blk b2 46 [.int .i64 r.Gauge, .int .i64 r.Hour, .int .i64 r.Value.Lo, .int .i64 r.Value.Hi], .blk b1 31 [.string b.Name, v1, .int .i64 b.Cells, v3, v4, v5, v6, v7, v8, v9, .int .i64 b.Err]]) (e_store (v := .agg #[.int .i64 0, .int .i64 0]) 1 rfl rfl rfl sz42 rfl rfl rfl rfl rfl) ?_
        refine RW.q (v := .bool false) rfl (q_assign rfl) ?_
        refine RW.nil ?_
        refine Post.then_n ?_
        refine AW.ret ?_
        refine Post.then_r ?_
        refine fin_cell2 (cs := [.int .i64 0, .int .i64 0]) (v := .bool false) rfl rfl rfl rfl Try.underlying42 rfl sz42 rfl (Cells.blk 1 rfl) (fun w' hw => ?_)
        refine ⟨?_, hw.below rfl⟩
        rw [Fu.volR_yes hvo, Fu.volL_none (by rw [hLv]; simpa using hc3)]; rfl
      · simp [-List.getD_eq_getElem?_getD] at hc3
        refine AW.skip ?_
        refine Post.then_n ?_
        refine AW.seq ?_
        refine AW.region ?_
        refine RW.q (v := .int .i64 1125899906842624) rfl (q_assign rfl) ?_
        refine RW.nil ?_
        refine Post.then_n ?_
        refine AW.seq ?_
        refine AW.seq ?_
        refine AW.region ?_
        refine RW.q (v := sv1) rfl (q_move rfl) ?_
        refine RW.q (v := .pointer (some (⟨b2, 2, none⟩))) rfl (q_fieldAddr rfl Try.underlying46 rfl sz42 rfl) ?_
        refine RW.q (v := .pointer (some (⟨b2, 3, none⟩))) rfl (q_fieldAddr rfl Try.underlying42 rfl sz3 rfl) ?_
        refine RW.q (v := .int .i64 r.Value.Hi) rfl (q_load rfl Try.underlying3 rfl (Cell.blk 2 rfl rfl)) ?_
        refine RW.q (v := .int .i64 (Fu.addS r.Value.Hi 1)) rfl (q_call (args := #[.int .i64 r.Value.Hi, .int .i64 1]) own29 rfl rfl (fun w1 hw1 => Add_c w1 (Go.K.hp w1) (Hp.le_refl _) hr2 (by unfold I64; omega))) ?_
        refine RW.q (v := .tuple #[.int .i64 (Fu.intOf (Fu.leastC ((b.Places.getD (((Fu.gaugeAt b.Gauges r.Gauge).Target).toNat) default).Level) (Fu.addS r.Value.Hi 1))), .bool ((Fu.leastC ((b.Places.getD (((Fu.gaugeAt b.Gauges r.Gauge).Target).toNat) default).Level) (Fu.addS r.Value.Hi 1)).isSome)]) rfl (q_call (args := #[sv1, .int .i64 (Fu.addS r.Value.Hi 1)]) own28 rfl rfl (fun w1 hw1 => Least_c w1 (Go.K.hp w1) (Hp.le_refl _) (hsv1.mono hw1.phi) (by unfold I64; exact Fu.addS_rng _ _))) ?_
        refine RW.q (v := .tuple #[.int .i64 (Fu.intOf (Fu.leastC ((b.Places.getD (((Fu.gaugeAt b.Gauges r.Gauge).Target).toNat) default).Level) (Fu.addS r.Value.Hi 1))), .bool ((Fu.leastC ((b.Places.getD (((Fu.gaugeAt b.Gauges r.Gauge).Target).toNat) default).Level) (Fu.addS r.Value.Hi 1)).isSome)]) rfl (q_move rfl) ?_
        refine RW.q (v := .int .i64 (Fu.intOf (Fu.leastC ((b.Places.getD (((Fu.gaugeAt b.Gauges r.Gauge).Target).toNat) default).Level) (Fu.addS r.Value.Hi 1)))) rfl (q_extract rfl rfl) ?_
        refine RW.q (v := .bool ((Fu.leastC ((b.Places.getD (((Fu.gaugeAt b.Gauges r.Gauge).Target).toNat) default).Level) (Fu.addS r.Value.Hi 1)).isSome)) rfl (q_extract rfl rfl) ?_
        refine RW.q (v := .int .i64 (Fu.intOf (Fu.leastC ((b.Places.getD (((Fu.gaugeAt b.Gauges r.Gauge).Target).toNat) default).Level) (Fu.addS r.Value.Hi 1)))) rfl (q_assign rfl) ?_
        refine RW.q (v := .bool ((Fu.leastC ((b.Places.getD (((Fu.gaugeAt b.Gauges r.Gauge).Target).toNat) default).Level) (Fu.addS r.Value.Hi 1)).isSome)) rfl (q_assign rfl) ?_
        refine RW.nil ?_
        refine Post.then_n ?_
        refine AW.seq ?_
        refine AW.region ?_
        refine RW.q (v := .bool ((Fu.leastC ((b.Places.getD (((Fu.gaugeAt b.Gauges r.Gauge).Target).toNat) default).Level) (Fu.addS r.Value.Hi 1)).isSome)) rfl (q_move rfl) ?_
        refine RW.nil ?_
        refine Post.then_n ?_
        refine AW.cond (b := (Fu.leastC ((b.Places.getD (((Fu.gaugeAt b.Gauges r.Gauge).Target).toNat) default).Level) (Fu.addS r.Value.Hi 1)).isSome) rfl (fun hc4 => ?_) (fun hc4 => ?_)
        · skip
          have hlr := Fu.least_rng (b.Places.getD (Fu.gaugeAt b.Gauges r.Gauge).Target.toNat default).Level (Fu.addS r.Value.Hi 1)
          refine AW.region ?_
          refine RW.q (v := .int .i64 (Fu.intOf (Fu.leastC ((b.Places.getD (((Fu.gaugeAt b.Gauges r.Gauge).Target).toNat) default).Level) (Fu.addS r.Value.Hi 1)))) rfl (q_move rfl) ?_
          refine RW.q (v := .int .i64 ((Fu.intOf (Fu.leastC ((b.Places.getD (((Fu.gaugeAt b.Gauges r.Gauge).Target).toNat) default).Level) (Fu.addS r.Value.Hi 1))) - 1)) rfl (q_sub rfl rfl (by omega) (by unfold I64; omega)) ?_
          refine RW.q (v := .int .i64 ((Fu.intOf (Fu.leastC ((b.Places.getD (((Fu.gaugeAt b.Gauges r.Gauge).Target).toNat) default).Level) (Fu.addS r.Value.Hi 1))) - 1)) rfl (q_assign rfl) ?_
          refine RW.nil ?_
          refine Post.then_n ?_
          refine AW.seq ?_
          refine AW.region ?_
          refine RW.q (v := .int .i64 (Fu.intOf (Fu.leastC ((b.Places.getD (((Fu.gaugeAt b.Gauges r.Gauge).Target).toNat) default).Level) r.Value.Lo))) rfl (q_move rfl) ?_
          refine RW.q (v := .int .i64 ((Fu.intOf (Fu.leastC ((b.Places.getD (((Fu.gaugeAt b.Gauges r.Gauge).Target).toNat) default).Level) (Fu.addS r.Value.Hi 1))) - 1)) rfl (q_move rfl) ?_
          refine RW.q (v := .agg #[.int .i64 (Fu.intOf (Fu.leastC ((b.Places.getD (((Fu.gaugeAt b.Gauges r.Gauge).Target).toNat) default).Level) r.Value.Lo)), .int .i64 ((Fu.intOf (Fu.leastC ((b.Places.getD (((Fu.gaugeAt b.Gauges r.Gauge).Target).toNat) default).Level) (Fu.addS r.Value.Hi 1))) - 1)]) rfl (q_build (vals := [(0, .int .i64 (Fu.intOf (Fu.leastC ((b.Places.getD (((Fu.gaugeAt b.Gauges r.Gauge).Target).toNat) default).Level) r.Value.Lo))), (1, .int .i64 ((Fu.intOf (Fu.leastC ((b.Places.getD (((Fu.gaugeAt b.Gauges r.Gauge).Target).toNat) default).Level) (Fu.addS r.Value.Hi 1))) - 1))]) zero42 Try.underlying42 places42 rfl rfl) ?_
          refine RW.q (v := .agg #[.int .i64 0, .int .i64 1125899906842624]) rfl (q_build (vals := [(0, .int .i64 0), (1, .int .i64 1125899906842624)]) zero42 Try.underlying42 places42 rfl rfl) ?_
          refine RW.q (v := .tuple #[.agg #[.int .i64 (Fu.loOf (Fu.meet (Fu.intOf (Fu.leastC ((b.Places.getD (((Fu.gaugeAt b.Gauges r.Gauge).Target).toNat) default).Level) r.Value.Lo)) ((Fu.intOf (Fu.leastC ((b.Places.getD (((Fu.gaugeAt b.Gauges r.Gauge).Target).toNat) default).Level) (Fu.addS r.Value.Hi 1))) - 1) 0 1125899906842624)), .int .i64 (Fu.hiOf (Fu.meet (Fu.intOf (Fu.leastC ((b.Places.getD (((Fu.gaugeAt b.Gauges r.Gauge).Target).toNat) default).Level) r.Value.Lo)) ((Fu.intOf (Fu.leastC ((b.Places.getD (((Fu.gaugeAt b.Gauges r.Gauge).Target).toNat) default).Level) (Fu.addS r.Value.Hi 1))) - 1) 0 1125899906842624))], .bool ((Fu.meet (Fu.intOf (Fu.leastC ((b.Places.getD (((Fu.gaugeAt b.Gauges r.Gauge).Target).toNat) default).Level) r.Value.Lo)) ((Fu.intOf (Fu.leastC ((b.Places.getD (((Fu.gaugeAt b.Gauges r.Gauge).Target).toNat) default).Level) (Fu.addS r.Value.Hi 1))) - 1) 0 1125899906842624).isSome)]) rfl (q_call (args := #[.agg #[.int .i64 (Fu.intOf (Fu.leastC ((b.Places.getD (((Fu.gaugeAt b.Gauges r.Gauge).Target).toNat) default).Level) r.Value.Lo)), .int .i64 ((Fu.intOf (Fu.leastC ((b.Places.getD (((Fu.gaugeAt b.Gauges r.Gauge).Target).toNat) default).Level) (Fu.addS r.Value.Hi 1))) - 1)], .agg #[.int .i64 0, .int .i64 1125899906842624]]) own30 rfl rfl (fun w1 hw1 => Meet_c w1 (Go.K.hp w1) (Hp.le_refl _))) ?_
          refine RW.q (v := .agg #[.int .i64 (Fu.loOf (Fu.meet (Fu.intOf (Fu.leastC ((b.Places.getD (((Fu.gaugeAt b.Gauges r.Gauge).Target).toNat) default).Level) r.Value.Lo)) ((Fu.intOf (Fu.leastC ((b.Places.getD (((Fu.gaugeAt b.Gauges r.Gauge).Target).toNat) default).Level) (Fu.addS r.Value.Hi 1))) - 1) 0 1125899906842624)), .int .i64 (Fu.hiOf (Fu.meet (Fu.intOf (Fu.leastC ((b.Places.getD (((Fu.gaugeAt b.Gauges r.Gauge).Target).toNat) default).Level) r.Value.Lo)) ((Fu.intOf (Fu.leastC ((b.Places.getD (((Fu.gaugeAt b.Gauges r.Gauge).Target).toNat) default).Level) (Fu.addS r.Value.Hi 1))) - 1) 0 1125899906842624))]) rfl (q_extract rfl rfl) ?_
          refine RW.q (v := .bool ((Fu.meet (Fu.intOf (Fu.leastC ((b.Places.getD (((Fu.gaugeAt b.Gauges r.Gauge).Target).toNat) default).Level) r.Value.Lo)) ((Fu.intOf (Fu.leastC ((b.Places.getD (((Fu.gaugeAt b.Gauges r.Gauge).Target).toNat) default).Level) (Fu.addS r.Value.Hi 1))) - 1) 0 1125899906842624).isSome)) rfl (q_extract rfl rfl) ?_
          refine RW.effn (J' := St ⟨w, Φ, []⟩ Φ [.blk b4 58 [.string ((Fu.gaugeAt b.Gauges r.Gauge).Name), .int .i64 ((Fu.gaugeAt b.Gauges r.Gauge).Kind), .int .i64 ((Fu.gaugeAt b.Gauges r.Gauge).Target), .int .i64 ((Fu.gaugeAt b.Gauges r.Gauge).Err), .int .i64 ((Fu.gaugeAt b.Gauges r.Gauge).Drift)], .blk b3 42 [.int .i64 (Fu.loOf (Fu.meet (Fu.intOf (Fu.leastC ((b.Places.getD (((Fu.gaugeAt b.Gauges r.Gauge).Target).toNat) default).Level) r.Value.Lo)) ((Fu.intOf (Fu.leastC ((b.Places.getD (((Fu.gaugeAt b.Gauges r.Gauge).Target).toNat) default).Level) (Fu.addS r.Value.Hi 1))) - 1) 0 1125899906842624)), .int .i64 (Fu.hiOf (Fu.meet (Fu.intOf (Fu.leastC ((b.Places.getD (((Fu.gaugeAt b.Gauges r.Gauge).Target).toNat) default).Level) r.Value.Lo)) ((Fu.intOf (Fu.leastC ((b.Places.getD (((Fu.gaugeAt b.Gauges r.Gauge).Target).toNat) default).Level) (Fu.addS r.Value.Hi 1))) - 1) 0 1125899906842624))], .blk b2 46 [.int .i64 r.Gauge, .int .i64 r.Hour, .int .i64 r.Value.Lo, .int .i64 r.Value.Hi], .blk b1 31 [.string b.Name, v1, .int .i64 b.Cells, v3, v4, v5, v6, v7, v8, v9, .int .i64 b.Err]]) (e_store (v := .agg #[.int .i64 (Fu.loOf (Fu.meet (Fu.intOf (Fu.leastC ((b.Places.getD (((Fu.gaugeAt b.Gauges r.Gauge).Target).toNat) default).Level) r.Value.Lo)) ((Fu.intOf (Fu.leastC ((b.Places.getD (((Fu.gaugeAt b.Gauges r.Gauge).Target).toNat) default).Level) (Fu.addS r.Value.Hi 1))) - 1) 0 1125899906842624)), .int .i64 (Fu.hiOf (Fu.meet (Fu.intOf (Fu.leastC ((b.Places.getD (((Fu.gaugeAt b.Gauges r.Gauge).Target).toNat) default).Level) r.Value.Lo)) ((Fu.intOf (Fu.leastC ((b.Places.getD (((Fu.gaugeAt b.Gauges r.Gauge).Target).toNat) default).Level) (Fu.addS r.Value.Hi 1))) - 1) 0 1125899906842624))]) 1 rfl rfl rfl sz42 rfl rfl rfl rfl rfl) ?_
          refine RW.q (v := .bool ((Fu.meet (Fu.intOf (Fu.leastC ((b.Places.getD (((Fu.gaugeAt b.Gauges r.Gauge).Target).toNat) default).Level) r.Value.Lo)) ((Fu.intOf (Fu.leastC ((b.Places.getD (((Fu.gaugeAt b.Gauges r.Gauge).Target).toNat) default).Level) (Fu.addS r.Value.Hi 1))) - 1) 0 1125899906842624).isSome)) rfl (q_assign rfl) ?_
          refine RW.nil ?_
          refine Post.then_n ?_
          refine AW.ret ?_
          refine fin_cell2 (cs := [.int .i64 (Fu.loOf (Fu.meet (Fu.intOf (Fu.leastC ((b.Places.getD (((Fu.gaugeAt b.Gauges r.Gauge).Target).toNat) default).Level) r.Value.Lo)) ((Fu.intOf (Fu.leastC ((b.Places.getD (((Fu.gaugeAt b.Gauges r.Gauge).Target).toNat) default).Level) (Fu.addS r.Value.Hi 1))) - 1) 0 1125899906842624)), .int .i64 (Fu.hiOf (Fu.meet (Fu.intOf (Fu.leastC ((b.Places.getD (((Fu.gaugeAt b.Gauges r.Gauge).Target).toNat) default).Level) r.Value.Lo)) ((Fu.intOf (Fu.leastC ((b.Places.getD (((Fu.gaugeAt b.Gauges r.Gauge).Target).toNat) default).Level) (Fu.addS r.Value.Hi 1))) - 1) 0 1125899906842624))]) (v := .bool ((Fu.meet (Fu.intOf (Fu.leastC ((b.Places.getD (((Fu.gaugeAt b.Gauges r.Gauge).Target).toNat) default).Level) r.Value.Lo)) ((Fu.intOf (Fu.leastC ((b.Places.getD (((Fu.gaugeAt b.Gauges r.Gauge).Target).toNat) default).Level) (Fu.addS r.Value.Hi 1))) - 1) 0 1125899906842624).isSome)) rfl rfl rfl rfl Try.underlying42 rfl sz42 rfl (Cells.blk 1 rfl) (fun w' hw => ?_)
          refine ⟨?_, hw.below rfl⟩
          rw [Fu.volR_yes hvo, Fu.volL_mid (by rw [hLv]; simpa using hc3) (by rw [hLv]; simpa using hc4)]; rfl
        · skip
          refine AW.skip ?_
          refine Post.then_n ?_
          refine AW.seq ?_
          refine AW.region ?_
          refine RW.q (v := .int .i64 (Fu.intOf (Fu.leastC ((b.Places.getD (((Fu.gaugeAt b.Gauges r.Gauge).Target).toNat) default).Level) r.Value.Lo))) rfl (q_move rfl) ?_
          refine RW.q (v := .int .i64 1125899906842624) rfl (q_move rfl) ?_
          refine RW.q (v := .agg #[.int .i64 (Fu.intOf (Fu.leastC ((b.Places.getD (((Fu.gaugeAt b.Gauges r.Gauge).Target).toNat) default).Level) r.Value.Lo)), .int .i64 1125899906842624]) rfl (q_build (vals := [(0, .int .i64 (Fu.intOf (Fu.leastC ((b.Places.getD (((Fu.gaugeAt b.Gauges r.Gauge).Target).toNat) default).Level) r.Value.Lo))), (1, .int .i64 1125899906842624)]) zero42 Try.underlying42 places42 rfl rfl) ?_
          refine RW.q (v := .agg #[.int .i64 0, .int .i64 1125899906842624]) rfl (q_build (vals := [(0, .int .i64 0), (1, .int .i64 1125899906842624)]) zero42 Try.underlying42 places42 rfl rfl) ?_
          refine RW.q (v := .tuple #[.agg #[.int .i64 (Fu.loOf (Fu.meet (Fu.intOf (Fu.leastC ((b.Places.getD (((Fu.gaugeAt b.Gauges r.Gauge).Target).toNat) default).Level) r.Value.Lo)) 1125899906842624 0 1125899906842624)), .int .i64 (Fu.hiOf (Fu.meet (Fu.intOf (Fu.leastC ((b.Places.getD (((Fu.gaugeAt b.Gauges r.Gauge).Target).toNat) default).Level) r.Value.Lo)) 1125899906842624 0 1125899906842624))], .bool ((Fu.meet (Fu.intOf (Fu.leastC ((b.Places.getD (((Fu.gaugeAt b.Gauges r.Gauge).Target).toNat) default).Level) r.Value.Lo)) 1125899906842624 0 1125899906842624).isSome)]) rfl (q_call (args := #[.agg #[.int .i64 (Fu.intOf (Fu.leastC ((b.Places.getD (((Fu.gaugeAt b.Gauges r.Gauge).Target).toNat) default).Level) r.Value.Lo)), .int .i64 1125899906842624], .agg #[.int .i64 0, .int .i64 1125899906842624]]) own30 rfl rfl (fun w1 hw1 => Meet_c w1 (Go.K.hp w1) (Hp.le_refl _))) ?_
          refine RW.q (v := .agg #[.int .i64 (Fu.loOf (Fu.meet (Fu.intOf (Fu.leastC ((b.Places.getD (((Fu.gaugeAt b.Gauges r.Gauge).Target).toNat) default).Level) r.Value.Lo)) 1125899906842624 0 1125899906842624)), .int .i64 (Fu.hiOf (Fu.meet (Fu.intOf (Fu.leastC ((b.Places.getD (((Fu.gaugeAt b.Gauges r.Gauge).Target).toNat) default).Level) r.Value.Lo)) 1125899906842624 0 1125899906842624))]) rfl (q_extract rfl rfl) ?_
          refine RW.q (v := .bool ((Fu.meet (Fu.intOf (Fu.leastC ((b.Places.getD (((Fu.gaugeAt b.Gauges r.Gauge).Target).toNat) default).Level) r.Value.Lo)) 1125899906842624 0 1125899906842624).isSome)) rfl (q_extract rfl rfl) ?_
          refine RW.effn (J' := St ⟨w, Φ, []⟩ Φ [.blk b4 58 [.string ((Fu.gaugeAt b.Gauges r.Gauge).Name), .int .i64 ((Fu.gaugeAt b.Gauges r.Gauge).Kind), .int .i64 ((Fu.gaugeAt b.Gauges r.Gauge).Target), .int .i64 ((Fu.gaugeAt b.Gauges r.Gauge).Err), .int .i64 ((Fu.gaugeAt b.Gauges r.Gauge).Drift)], .blk b3 42 [.int .i64 (Fu.loOf (Fu.meet (Fu.intOf (Fu.leastC ((b.Places.getD (((Fu.gaugeAt b.Gauges r.Gauge).Target).toNat) default).Level) r.Value.Lo)) 1125899906842624 0 1125899906842624)), .int .i64 (Fu.hiOf (Fu.meet (Fu.intOf (Fu.leastC ((b.Places.getD (((Fu.gaugeAt b.Gauges r.Gauge).Target).toNat) default).Level) r.Value.Lo)) 1125899906842624 0 1125899906842624))], .blk b2 46 [.int .i64 r.Gauge, .int .i64 r.Hour, .int .i64 r.Value.Lo, .int .i64 r.Value.Hi], .blk b1 31 [.string b.Name, v1, .int .i64 b.Cells, v3, v4, v5, v6, v7, v8, v9, .int .i64 b.Err]]) (e_store (v := .agg #[.int .i64 (Fu.loOf (Fu.meet (Fu.intOf (Fu.leastC ((b.Places.getD (((Fu.gaugeAt b.Gauges r.Gauge).Target).toNat) default).Level) r.Value.Lo)) 1125899906842624 0 1125899906842624)), .int .i64 (Fu.hiOf (Fu.meet (Fu.intOf (Fu.leastC ((b.Places.getD (((Fu.gaugeAt b.Gauges r.Gauge).Target).toNat) default).Level) r.Value.Lo)) 1125899906842624 0 1125899906842624))]) 1 rfl rfl rfl sz42 rfl rfl rfl rfl rfl) ?_
          refine RW.q (v := .bool ((Fu.meet (Fu.intOf (Fu.leastC ((b.Places.getD (((Fu.gaugeAt b.Gauges r.Gauge).Target).toNat) default).Level) r.Value.Lo)) 1125899906842624 0 1125899906842624).isSome)) rfl (q_assign rfl) ?_
          refine RW.nil ?_
          refine Post.then_n ?_
          refine AW.ret ?_
          refine fin_cell2 (cs := [.int .i64 (Fu.loOf (Fu.meet (Fu.intOf (Fu.leastC ((b.Places.getD (((Fu.gaugeAt b.Gauges r.Gauge).Target).toNat) default).Level) r.Value.Lo)) 1125899906842624 0 1125899906842624)), .int .i64 (Fu.hiOf (Fu.meet (Fu.intOf (Fu.leastC ((b.Places.getD (((Fu.gaugeAt b.Gauges r.Gauge).Target).toNat) default).Level) r.Value.Lo)) 1125899906842624 0 1125899906842624))]) (v := .bool ((Fu.meet (Fu.intOf (Fu.leastC ((b.Places.getD (((Fu.gaugeAt b.Gauges r.Gauge).Target).toNat) default).Level) r.Value.Lo)) 1125899906842624 0 1125899906842624).isSome)) rfl rfl rfl rfl Try.underlying42 rfl sz42 rfl (Cells.blk 1 rfl) (fun w' hw => ?_)
          refine ⟨?_, hw.below rfl⟩
          rw [Fu.volR_yes hvo, Fu.volL_top (by rw [hLv]; simpa using hc3) (by rw [hLv]; simpa using hc4)]; rfl

set_option maxRecDepth 8000 in
set_option maxHeartbeats 1000000 in
theorem rVolume_c (w : World) (Φ : Hp) (hΦ : Hp.le Φ (hp w)) {b : Bt.Basin} {cs : List Value} (hB : RepV Φ b cs) {r : Bt.Reading} (hr : I64 r.Value.Lo ∧ I64 r.Value.Hi) :
    Calls Try.prog 11 #[.agg cs.toArray, .agg #[.int .i64 r.Gauge, .int .i64 r.Hour, .int .i64 r.Value.Lo, .int .i64 r.Value.Hi]] w fun e w' => e = .returned (.tuple #[.agg #[.int .i64 (Fu.loOf (Fu.volR b r)), .int .i64 (Fu.hiOf (Fu.volR b r))], .bool (Fu.volR b r).isSome]) ∧ Below w.heap.size w w' := by
  obtain ⟨v1, v3, v4, v5, v6, v7, v8, v9, hcs, hBw, r1, r3, r4, r5, r6, r7, r8, r9⟩ := (show Rep.rep Φ b cs from hB)
  subst hcs
  have hpm : b.Places.length * 152 ≤ 140737488355328 := r3.max
  have hgm : b.Gauges.length * 48 ≤ 140737488355328 := r6.max
  obtain ⟨hr1, hr2⟩ := hr
  have hu1 := hr1
  have hu2 := hr2
  unfold I64 at hu1 hu2
  refine calls_of_AW (args := [.agg #[.string b.Name, v1, .int .i64 b.Cells, v3, v4, v5, v6, v7, v8, v9, .int .i64 b.Err], .agg #[.int .i64 r.Gauge, .int .i64 r.Hour, .int .i64 r.Value.Lo, .int .i64 r.Value.Hi]]) Try.func11 rfl (Nat.le_of_ble_eq_true rfl) (St ⟨w, Φ, []⟩ Φ []) (StP.init w Φ hΦ []) ?_
  show AW Try.prog 81 [] _ _ _ [(0, .agg #[.string b.Name, v1, .int .i64 b.Cells, v3, v4, v5, v6, v7, v8, v9, .int .i64 b.Err]), (1, .agg #[.int .i64 r.Gauge, .int .i64 r.Hour, .int .i64 r.Value.Lo, .int .i64 r.Value.Hi])] _
  refine AW.seq ?_
  refine AW.region ?_
  refine RW.eff (fun b1 : Nat => .pointer (some (⟨b1, 0, none⟩))) (fun b1 => St ⟨w, Φ, []⟩ Φ [.blk b1 31 [.string b.Name, v1, .int .i64 b.Cells, v3, v4, v5, v6, v7, v8, v9, .int .i64 b.Err]]) rfl (e_boxA (cs := [.string b.Name, v1, .int .i64 b.Cells, v3, v4, v5, v6, v7, v8, v9, .int .i64 b.Err]) rfl) ?_
  intro b1
  refine RW.eff (fun b2 : Nat => .pointer (some (⟨b2, 0, none⟩))) (fun b2 => St ⟨w, Φ, []⟩ Φ [.blk b2 46 [.int .i64 r.Gauge, .int .i64 r.Hour, .int .i64 r.Value.Lo, .int .i64 r.Value.Hi], .blk b1 31 [.string b.Name, v1, .int .i64 b.Cells, v3, v4, v5, v6, v7, v8, v9, .int .i64 b.Err]]) rfl (e_boxA (cs := [.int .i64 r.Gauge, .int .i64 r.Hour, .int .i64 r.Value.Lo, .int .i64 r.Value.Hi]) rfl) ?_
  intro b2
  refine RW.eff (fun b3 : Nat => .pointer (some (⟨b3, 0, none⟩))) (fun b3 => St ⟨w, Φ, []⟩ Φ [.blk b3 42 [.int .i64 0, .int .i64 0], .blk b2 46 [.int .i64 r.Gauge, .int .i64 r.Hour, .int .i64 r.Value.Lo, .int .i64 r.Value.Hi], .blk b1 31 [.string b.Name, v1, .int .i64 b.Cells, v3, v4, v5, v6, v7, v8, v9, .int .i64 b.Err]]) rfl (e_alloc zero42) ?_
  intro b3
  refine RW.q (v := .bool false) rfl (q_assign rfl) ?_
  refine RW.nil ?_
  refine Post.then_n ?_
  refine AW.seq ?_
  refine AW.region ?_
  refine RW.q (v := .agg #[.string b.Name, v1, .int .i64 b.Cells, v3, v4, v5, v6, v7, v8, v9, .int .i64 b.Err]) rfl (q_loadAgg rfl Try.underlying31 rfl sz31 rfl (Cells.blk 2 rfl)) ?_
  refine RW.q (v := .agg #[.int .i64 r.Gauge, .int .i64 r.Hour, .int .i64 r.Value.Lo, .int .i64 r.Value.Hi]) rfl (q_loadAgg rfl Try.underlying46 rfl sz46 rfl (Cells.blk 1 rfl)) ?_
  refine RW.q (v := .tuple #[.agg #[.string ((Fu.gaugeAt b.Gauges r.Gauge).Name), .int .i64 ((Fu.gaugeAt b.Gauges r.Gauge).Kind), .int .i64 ((Fu.gaugeAt b.Gauges r.Gauge).Target), .int .i64 ((Fu.gaugeAt b.Gauges r.Gauge).Err), .int .i64 ((Fu.gaugeAt b.Gauges r.Gauge).Drift)], .bool (decide (Fu.inG b.Gauges r.Gauge))]) rfl (q_call (args := #[.agg #[.string b.Name, v1, .int .i64 b.Cells, v3, v4, v5, v6, v7, v8, v9, .int .i64 b.Err], .agg #[.int .i64 r.Gauge, .int .i64 r.Hour, .int .i64 r.Value.Lo, .int .i64 r.Value.Hi]]) own31 rfl rfl (fun w1 hw1 => gauged_c w1 (Go.K.hp w1) (Hp.le_refl _) (hB.mono hw1.phi) (r := r))) ?_
  refine RW.q (v := .tuple #[.agg #[.string ((Fu.gaugeAt b.Gauges r.Gauge).Name), .int .i64 ((Fu.gaugeAt b.Gauges r.Gauge).Kind), .int .i64 ((Fu.gaugeAt b.Gauges r.Gauge).Target), .int .i64 ((Fu.gaugeAt b.Gauges r.Gauge).Err), .int .i64 ((Fu.gaugeAt b.Gauges r.Gauge).Drift)], .bool (decide (Fu.inG b.Gauges r.Gauge))]) rfl (q_move rfl) ?_
  refine RW.q (v := .agg #[.string ((Fu.gaugeAt b.Gauges r.Gauge).Name), .int .i64 ((Fu.gaugeAt b.Gauges r.Gauge).Kind), .int .i64 ((Fu.gaugeAt b.Gauges r.Gauge).Target), .int .i64 ((Fu.gaugeAt b.Gauges r.Gauge).Err), .int .i64 ((Fu.gaugeAt b.Gauges r.Gauge).Drift)]) rfl (q_extract rfl rfl) ?_
  refine RW.q (v := .bool (decide (Fu.inG b.Gauges r.Gauge))) rfl (q_extract rfl rfl) ?_
  refine RW.eff (fun b4 : Nat => .pointer (some (⟨b4, 0, none⟩))) (fun b4 => St ⟨w, Φ, []⟩ Φ [.blk b4 58 [.string (bs ([])), .int .i64 0, .int .i64 0, .int .i64 0, .int .i64 0], .blk b3 42 [.int .i64 0, .int .i64 0], .blk b2 46 [.int .i64 r.Gauge, .int .i64 r.Hour, .int .i64 r.Value.Lo, .int .i64 r.Value.Hi], .blk b1 31 [.string b.Name, v1, .int .i64 b.Cells, v3, v4, v5, v6, v7, v8, v9, .int .i64 b.Err]]) rfl (e_alloc zero58) ?_
  intro b4
  refine RW.effn (J' := St ⟨w, Φ, []⟩ Φ [.blk b4 58 [.string ((Fu.gaugeAt b.Gauges r.Gauge).Name), .int .i64 ((Fu.gaugeAt b.Gauges r.Gauge).Kind), .int .i64 ((Fu.gaugeAt b.Gauges r.Gauge).Target), .int .i64 ((Fu.gaugeAt b.Gauges r.Gauge).Err), .int .i64 ((Fu.gaugeAt b.Gauges r.Gauge).Drift)], .blk b3 42 [.int .i64 0, .int .i64 0], .blk b2 46 [.int .i64 r.Gauge, .int .i64 r.Hour, .int .i64 r.Value.Lo, .int .i64 r.Value.Hi], .blk b1 31 [.string b.Name, v1, .int .i64 b.Cells, v3, v4, v5, v6, v7, v8, v9, .int .i64 b.Err]]) (e_store (v := .agg #[.string ((Fu.gaugeAt b.Gauges r.Gauge).Name), .int .i64 ((Fu.gaugeAt b.Gauges r.Gauge).Kind), .int .i64 ((Fu.gaugeAt b.Gauges r.Gauge).Target), .int .i64 ((Fu.gaugeAt b.Gauges r.Gauge).Err), .int .i64 ((Fu.gaugeAt b.Gauges r.Gauge).Drift)]) 0 rfl rfl rfl sz58 rfl rfl rfl rfl rfl) ?_
  refine RW.q (v := .bool (decide (Fu.inG b.Gauges r.Gauge))) rfl (q_assign rfl) ?_
  refine RW.nil ?_
  refine Post.then_n ?_
  refine AW.seq ?_
  refine AW.seq ?_
  refine AW.region ?_
  refine RW.q (v := .bool (decide (Fu.inG b.Gauges r.Gauge))) rfl (q_move rfl) ?_
  refine RW.q (v := .bool (!(decide (Fu.inG b.Gauges r.Gauge)))) rfl (q_not rfl) ?_
  refine RW.q (v := .bool (!(decide (Fu.inG b.Gauges r.Gauge)))) rfl (q_move rfl) ?_
  refine RW.g (b := (!(decide (Fu.inG b.Gauges r.Gauge)))) (v := .pointer (some (⟨b4, 1, none⟩))) rfl rfl rfl (fun h => q_fieldAddr rfl Try.underlying58 rfl sz3 rfl) ?_
  refine RW.g (b := (!(decide (Fu.inG b.Gauges r.Gauge)))) (v := .int .i64 ((Fu.gaugeAt b.Gauges r.Gauge).Kind)) rfl rfl rfl (fun h => q_load (gv_pos h) Try.underlying3 rfl (Cell.blk 0 rfl rfl)) ?_
  refine RW.g (b := (!(decide (Fu.inG b.Gauges r.Gauge)))) (v := .bool (!decide ((Fu.gaugeAt b.Gauges r.Gauge).Kind = 0))) rfl rfl rfl (fun h => q_neq (gv_pos h) rfl) ?_
  refine RW.q (v := .bool ((!(decide (Fu.inG b.Gauges r.Gauge))) || (!decide ((Fu.gaugeAt b.Gauges r.Gauge).Kind = 0)))) rfl (q_pick rfl (fun hp => pkOrT hp) (fun hp => (gv_pos hp).trans (pkOrF hp))) ?_
  refine RW.q (v := .bool ((!(decide (Fu.inG b.Gauges r.Gauge))) || (!decide ((Fu.gaugeAt b.Gauges r.Gauge).Kind = 0)))) rfl (q_move rfl) ?_
  refine RW.g (b := ((!(decide (Fu.inG b.Gauges r.Gauge))) || (!decide ((Fu.gaugeAt b.Gauges r.Gauge).Kind = 0)))) (v := .pointer (some (⟨b4, 2, none⟩))) rfl rfl rfl (fun h => q_fieldAddr rfl Try.underlying58 rfl sz3 rfl) ?_
  refine RW.g (b := ((!(decide (Fu.inG b.Gauges r.Gauge))) || (!decide ((Fu.gaugeAt b.Gauges r.Gauge).Kind = 0)))) (v := .int .i64 ((Fu.gaugeAt b.Gauges r.Gauge).Target)) rfl rfl rfl (fun h => q_load (gv_pos h) Try.underlying3 rfl (Cell.blk 0 rfl rfl)) ?_
  refine RW.g (b := ((!(decide (Fu.inG b.Gauges r.Gauge))) || (!decide ((Fu.gaugeAt b.Gauges r.Gauge).Kind = 0)))) (v := .bool (decide ((Fu.gaugeAt b.Gauges r.Gauge).Target < 0))) rfl rfl rfl (fun h => q_lss (gv_pos h) rfl) ?_
  refine RW.q (v := .bool (((!(decide (Fu.inG b.Gauges r.Gauge))) || (!decide ((Fu.gaugeAt b.Gauges r.Gauge).Kind = 0))) || (decide ((Fu.gaugeAt b.Gauges r.Gauge).Target < 0)))) rfl (q_pick rfl (fun hp => pkOrT hp) (fun hp => (gv_pos hp).trans (pkOrF hp))) ?_
  refine RW.q (v := .bool (((!(decide (Fu.inG b.Gauges r.Gauge))) || (!decide ((Fu.gaugeAt b.Gauges r.Gauge).Kind = 0))) || (decide ((Fu.gaugeAt b.Gauges r.Gauge).Target < 0)))) rfl (q_move rfl) ?_
  refine RW.g (b := (((!(decide (Fu.inG b.Gauges r.Gauge))) || (!decide ((Fu.gaugeAt b.Gauges r.Gauge).Kind = 0))) || (decide ((Fu.gaugeAt b.Gauges r.Gauge).Target < 0)))) (v := .pointer (some (⟨b4, 2, none⟩))) rfl rfl rfl (fun h => q_fieldAddr rfl Try.underlying58 rfl sz3 rfl) ?_
  refine RW.g (b := (((!(decide (Fu.inG b.Gauges r.Gauge))) || (!decide ((Fu.gaugeAt b.Gauges r.Gauge).Kind = 0))) || (decide ((Fu.gaugeAt b.Gauges r.Gauge).Target < 0)))) (v := .int .i64 ((Fu.gaugeAt b.Gauges r.Gauge).Target)) rfl rfl rfl (fun h => q_load (gv_pos h) Try.underlying3 rfl (Cell.blk 0 rfl rfl)) ?_
  refine RW.g (b := (((!(decide (Fu.inG b.Gauges r.Gauge))) || (!decide ((Fu.gaugeAt b.Gauges r.Gauge).Kind = 0))) || (decide ((Fu.gaugeAt b.Gauges r.Gauge).Target < 0)))) (v := .pointer (some (⟨b1, 3, none⟩))) rfl rfl rfl (fun h => q_fieldAddr rfl Try.underlying31 rfl sz23 rfl) ?_
  refine RW.g (b := (((!(decide (Fu.inG b.Gauges r.Gauge))) || (!decide ((Fu.gaugeAt b.Gauges r.Gauge).Kind = 0))) || (decide ((Fu.gaugeAt b.Gauges r.Gauge).Target < 0)))) (v := v3) rfl rfl rfl (fun h => q_load (gv_pos h) Try.underlying23 rfl (Cell.blk 3 rfl rfl)) ?_
  refine RW.g (b := (((!(decide (Fu.inG b.Gauges r.Gauge))) || (!decide ((Fu.gaugeAt b.Gauges r.Gauge).Kind = 0))) || (decide ((Fu.gaugeAt b.Gauges r.Gauge).Target < 0)))) (v := .int .i64 ((b.Places.length : Nat) : Int)) rfl rfl rfl (fun h => q_len_sl (gv_pos h) r3.sl Try.underlying23) ?_
  refine RW.g (b := (((!(decide (Fu.inG b.Gauges r.Gauge))) || (!decide ((Fu.gaugeAt b.Gauges r.Gauge).Kind = 0))) || (decide ((Fu.gaugeAt b.Gauges r.Gauge).Target < 0)))) (v := .bool (decide (((b.Places.length : Nat) : Int) ≤ (Fu.gaugeAt b.Gauges r.Gauge).Target))) rfl rfl rfl (fun h => q_geq (gv_pos h) (gv_pos h)) ?_
  refine RW.q (v := .bool ((((!(decide (Fu.inG b.Gauges r.Gauge))) || (!decide ((Fu.gaugeAt b.Gauges r.Gauge).Kind = 0))) || (decide ((Fu.gaugeAt b.Gauges r.Gauge).Target < 0))) || (decide (((b.Places.length : Nat) : Int) ≤ (Fu.gaugeAt b.Gauges r.Gauge).Target)))) rfl (q_pick rfl (fun hp => pkOrT hp) (fun hp => (gv_pos hp).trans (pkOrF hp))) ?_
  refine RW.nil ?_
  refine Post.then_n ?_
  refine AW.cond (b := (((!(decide (Fu.inG b.Gauges r.Gauge))) || (!decide ((Fu.gaugeAt b.Gauges r.Gauge).Kind = 0))) || (decide ((Fu.gaugeAt b.Gauges r.Gauge).Target < 0))) || (decide (((b.Places.length : Nat) : Int) ≤ (Fu.gaugeAt b.Gauges r.Gauge).Target))) rfl (fun hc1 => ?_) (fun hc1 => ?_)
  · simp [-List.getD_eq_getElem?_getD] at hc1
    refine AW.seq ?_
    refine AW.region ?_
    refine RW.q (v := .agg #[.int .i64 0, .int .i64 0]) rfl (q_build (vals := []) zero42 Try.underlying42 places42 rfl rfl) ?_
    refine RW.effn (J' := St ⟨w, Φ, []⟩ Φ [.blk b4 58 [.string ((Fu.gaugeAt b.Gauges r.Gauge).Name), .int .i64 ((Fu.gaugeAt b.Gauges r.Gauge).Kind), .int .i64 ((Fu.gaugeAt b.Gauges r.Gauge).Target), .int .i64 ((Fu.gaugeAt b.Gauges r.Gauge).Err), .int .i64 ((Fu.gaugeAt b.Gauges r.Gauge).Drift)], .blk b3 42 [.int .i64 0, .int .i64 0], .blk b2 46 [.int .i64 r.Gauge, .int .i64 r.Hour, .int .i64 r.Value.Lo, .int .i64 r.Value.Hi], .blk b1 31 [.string b.Name, v1, .int .i64 b.Cells, v3, v4, v5, v6, v7, v8, v9, .int .i64 b.Err]]) (e_store (v := .agg #[.int .i64 0, .int .i64 0]) 1 rfl rfl rfl sz42 rfl rfl rfl rfl rfl) ?_
    refine RW.q (v := .bool false) rfl (q_assign rfl) ?_
    refine RW.nil ?_
    refine Post.then_n ?_
    refine AW.ret ?_
    refine Post.then_r ?_
    refine fin_cell2 (cs := [.int .i64 0, .int .i64 0]) (v := .bool false) rfl rfl rfl rfl Try.underlying42 rfl sz42 rfl (Cells.blk 1 rfl) (fun w' hw => ?_)
    refine ⟨?_, hw.below rfl⟩
    rw [Fu.volR_no (fun h => ?_)]
    · rfl
    obtain ⟨h1, h2, h3, h4⟩ := h
    rcases hc1 with ((h5 | h5) | h5) | h5
    · exact h5 h1
    · exact h5 h2
    · omega
    · omega
  · simp [-List.getD_eq_getElem?_getD] at hc1
    refine AW.skip ?_
    refine Post.then_n ?_
    refine AW.seq ?_
    have hLv : Fu.levelOf b r = (b.Places.getD (Fu.gaugeAt b.Gauges r.Gauge).Target.toNat default).Level := rfl
    have hvo : Fu.VolOk b r := ⟨hc1.1.1.1, hc1.1.1.2, hc1.1.2, hc1.2⟩
    refine AW.region ?_
    refine RW.q (v := .pointer (some (⟨b1, 3, none⟩))) rfl (q_fieldAddr rfl Try.underlying31 rfl sz23 rfl) ?_
    refine RW.q (v := v3) rfl (q_load rfl Try.underlying23 rfl (Cell.blk 3 rfl rfl)) ?_
    refine RW.q (v := .pointer (some (⟨b4, 2, none⟩))) rfl (q_fieldAddr rfl Try.underlying58 rfl sz3 rfl) ?_
    refine RW.q (v := .int .i64 ((Fu.gaugeAt b.Gauges r.Gauge).Target)) rfl (q_load rfl Try.underlying3 rfl (Cell.blk 0 rfl rfl)) ?_
    refine RW.q (v := .pointer (some (Value.at v3 ((((Fu.gaugeAt b.Gauges r.Gauge).Target).toNat) * 12)))) rfl (q_indexAddr rfl rfl r3.sl Try.underlying23 sz63 (by omega) (by omega) rfl) ?_
    refine RW.q (v := .pointer (some (Value.at v3 ((((Fu.gaugeAt b.Gauges r.Gauge).Target).toNat) * 12 + 4)))) rfl (q_fieldAddr rfl Try.underlying63 rfl sz60 at_add) ?_
    obtain ⟨sv1, hsv1, hpc1⟩ := leaf63_4 r3 (k := ((Fu.gaugeAt b.Gauges r.Gauge).Target).toNat) (by omega)
    refine RW.q (v := sv1) rfl (q_load rfl Try.underlying60 rfl (Cell.phi hpc1)) ?_
    refine RW.q (v := sv1) rfl (q_assign rfl) ?_
    refine RW.nil ?_
    refine Post.then_n ?_
    refine AW.seq ?_
    refine AW.seq ?_
    refine AW.region ?_
    refine RW.q (v := sv1) rfl (q_move rfl) ?_
    refine RW.q (v := .bool (decide (Fu.RightC ((b.Places.getD (((Fu.gaugeAt b.Gauges r.Gauge).Target).toNat) default).Level)))) rfl (q_call (args := #[sv1]) own32 rfl rfl (fun w1 hw1 => rcRight_c w1 (Go.K.hp w1) (Hp.le_refl _) (hsv1.mono hw1.phi))) ?_
    refine RW.q (v := .bool (!(decide (Fu.RightC ((b.Places.getD (((Fu.gaugeAt b.Gauges r.Gauge).Target).toNat) default).Level))))) rfl (q_not rfl) ?_
    refine RW.q (v := .bool (!(decide (Fu.RightC ((b.Places.getD (((Fu.gaugeAt b.Gauges r.Gauge).Target).toNat) default).Level))))) rfl (q_move rfl) ?_
    refine RW.g (b := (!(decide (Fu.RightC ((b.Places.getD (((Fu.gaugeAt b.Gauges r.Gauge).Target).toNat) default).Level))))) (v := .pointer (some (⟨b2, 2, none⟩))) rfl rfl rfl (fun h => q_fieldAddr rfl Try.underlying46 rfl sz42 rfl) ?_
    refine RW.g (b := (!(decide (Fu.RightC ((b.Places.getD (((Fu.gaugeAt b.Gauges r.Gauge).Target).toNat) default).Level))))) (v := .pointer (some (⟨b2, 2, none⟩))) rfl rfl rfl (fun h => q_fieldAddr (gv_pos h) Try.underlying42 rfl sz3 rfl) ?_
    refine RW.g (b := (!(decide (Fu.RightC ((b.Places.getD (((Fu.gaugeAt b.Gauges r.Gauge).Target).toNat) default).Level))))) (v := .int .i64 r.Value.Lo) rfl rfl rfl (fun h => q_load (gv_pos h) Try.underlying3 rfl (Cell.blk 2 rfl rfl)) ?_
    refine RW.g (b := (!(decide (Fu.RightC ((b.Places.getD (((Fu.gaugeAt b.Gauges r.Gauge).Target).toNat) default).Level))))) (v := .pointer (some (⟨b2, 2, none⟩))) rfl rfl rfl (fun h => q_fieldAddr rfl Try.underlying46 rfl sz42 rfl) ?_
    refine RW.g (b := (!(decide (Fu.RightC ((b.Places.getD (((Fu.gaugeAt b.Gauges r.Gauge).Target).toNat) default).Level))))) (v := .pointer (some (⟨b2, 3, none⟩))) rfl rfl rfl (fun h => q_fieldAddr (gv_pos h) Try.underlying42 rfl sz3 rfl) ?_
    refine RW.g (b := (!(decide (Fu.RightC ((b.Places.getD (((Fu.gaugeAt b.Gauges r.Gauge).Target).toNat) default).Level))))) (v := .int .i64 r.Value.Hi) rfl rfl rfl (fun h => q_load (gv_pos h) Try.underlying3 rfl (Cell.blk 2 rfl rfl)) ?_
    refine RW.g (b := (!(decide (Fu.RightC ((b.Places.getD (((Fu.gaugeAt b.Gauges r.Gauge).Target).toNat) default).Level))))) (v := .bool (decide (r.Value.Hi < r.Value.Lo))) rfl rfl rfl (fun h => q_gtr (gv_pos h) (gv_pos h)) ?_
    refine RW.q (v := .bool ((!(decide (Fu.RightC ((b.Places.getD (((Fu.gaugeAt b.Gauges r.Gauge).Target).toNat) default).Level)))) || (decide (r.Value.Hi < r.Value.Lo)))) rfl (q_pick rfl (fun hp => pkOrT hp) (fun hp => (gv_pos hp).trans (pkOrF hp))) ?_
    refine RW.nil ?_
    refine Post.then_n ?_
    refine AW.cond (b := (!(decide (Fu.RightC ((b.Places.getD (((Fu.gaugeAt b.Gauges r.Gauge).Target).toNat) default).Level)))) || (decide (r.Value.Hi < r.Value.Lo))) rfl (fun hc2 => ?_) (fun hc2 => ?_)
    · simp [-List.getD_eq_getElem?_getD] at hc2
      refine AW.seq ?_
      refine AW.region ?_
      refine RW.q (v := .agg #[.int .i64 0, .int .i64 0]) rfl (q_build (vals := []) zero42 Try.underlying42 places42 rfl rfl) ?_
      refine RW.effn (J' := St ⟨w, Φ, []⟩ Φ [.blk b4 58 [.string ((Fu.gaugeAt b.Gauges r.Gauge).Name), .int .i64 ((Fu.gaugeAt b.Gauges r.Gauge).Kind), .int .i64 ((Fu.gaugeAt b.Gauges r.Gauge).Target), .int .i64 ((Fu.gaugeAt b.Gauges r.Gauge).Err), .int .i64 ((Fu.gaugeAt b.Gauges r.Gauge).Drift)], .blk b3 42 [.int .i64 0, .int .i64 0], .blk b2 46 [.int .i64 r.Gauge, .int .i64 r.Hour, .int .i64 r.Value.Lo, .int .i64 r.Value.Hi], .blk b1 31 [.string b.Name, v1, .int .i64 b.Cells, v3, v4, v5, v6, v7, v8, v9, .int .i64 b.Err]]) (e_store (v := .agg #[.int .i64 0, .int .i64 0]) 1 rfl rfl rfl sz42 rfl rfl rfl rfl rfl) ?_
      refine RW.q (v := .bool false) rfl (q_assign rfl) ?_
      refine RW.nil ?_
      refine Post.then_n ?_
      refine AW.ret ?_
      refine Post.then_r ?_
      refine fin_cell2 (cs := [.int .i64 0, .int .i64 0]) (v := .bool false) rfl rfl rfl rfl Try.underlying42 rfl sz42 rfl (Cells.blk 1 rfl) (fun w' hw => ?_)
      refine ⟨?_, hw.below rfl⟩
      rw [Fu.volR_half hvo hu2, Fu.volH_no (fun h => ?_)]
      · rfl
      obtain ⟨h1, h2⟩ := h
      unfold Fu.levelOf at h1
      simp only [h1, true_and, forall_const, not_true_eq_false, false_or] at hc2
      omega
    · simp [-List.getD_eq_getElem?_getD] at hc2
      refine AW.skip ?_
      refine Post.then_n ?_
      refine AW.seq ?_
      refine AW.region ?_
      refine RW.q (v := .int .i64 0) rfl (q_assign rfl) ?_
      refine RW.nil ?_
      refine Post.then_n ?_
      refine AW.seq ?_
      refine AW.seq ?_
      refine AW.region ?_
      refine RW.q (v := .pointer (some (⟨b2, 2, none⟩))) rfl (q_fieldAddr rfl Try.underlying46 rfl sz42 rfl) ?_
      refine RW.q (v := .pointer (some (⟨b2, 2, none⟩))) rfl (q_fieldAddr rfl Try.underlying42 rfl sz3 rfl) ?_
      refine RW.q (v := .int .i64 r.Value.Lo) rfl (q_load rfl Try.underlying3 rfl (Cell.blk 2 rfl rfl)) ?_
      refine RW.q (v := .bool (decide ((0 : Int) < r.Value.Lo))) rfl (q_gtr rfl rfl) ?_
      refine RW.nil ?_
      refine Post.then_n ?_
      refine AW.cond (b := decide ((0 : Int) < r.Value.Lo)) rfl (fun hc3 => ?_) (fun hc3 => ?_)
      · simp [-List.getD_eq_getElem?_getD] at hc3
        refine AW.region ?_
        refine RW.q (v := sv1) rfl (q_move rfl) ?_
        refine RW.q (v := .pointer (some (⟨b2, 2, none⟩))) rfl (q_fieldAddr rfl Try.underlying46 rfl sz42 rfl) ?_
        refine RW.q (v := .pointer (some (⟨b2, 2, none⟩))) rfl (q_fieldAddr rfl Try.underlying42 rfl sz3 rfl) ?_
        refine RW.q (v := .int .i64 r.Value.Lo) rfl (q_load rfl Try.underlying3 rfl (Cell.blk 2 rfl rfl)) ?_
        refine RW.q (v := .int .i64 (r.Value.Lo - 1)) rfl (q_sub rfl rfl (by omega) (by unfold I64; omega)) ?_
        refine RW.q (v := .int .i64 (Fu.firstC ((b.Places.getD (((Fu.gaugeAt b.Gauges r.Gauge).Target).toNat) default).Level) (r.Value.Lo - 1))) rfl (q_call (args := #[sv1, .int .i64 (r.Value.Lo - 1)]) own33 rfl rfl (fun w1 hw1 => first_c w1 (Go.K.hp w1) (Hp.le_refl _) (hsv1.mono hw1.phi) hc2.1)) ?_
        refine RW.q (v := .int .i64 (Fu.firstC ((b.Places.getD (((Fu.gaugeAt b.Gauges r.Gauge).Target).toNat) default).Level) (r.Value.Lo - 1))) rfl (q_assign rfl) ?_
        refine RW.nil ?_
        refine Post.then_n ?_
        refine AW.seq ?_
        have hf := Fu.first_rng hc2.1 r.Value.Hi
        refine AW.region ?_
        refine RW.q (v := sv1) rfl (q_move rfl) ?_
        refine RW.q (v := .pointer (some (⟨b2, 2, none⟩))) rfl (q_fieldAddr rfl Try.underlying46 rfl sz42 rfl) ?_
        refine RW.q (v := .pointer (some (⟨b2, 3, none⟩))) rfl (q_fieldAddr rfl Try.underlying42 rfl sz3 rfl) ?_
        refine RW.q (v := .int .i64 r.Value.Hi) rfl (q_load rfl Try.underlying3 rfl (Cell.blk 2 rfl rfl)) ?_
        refine RW.q (v := .int .i64 (Fu.firstC ((b.Places.getD (((Fu.gaugeAt b.Gauges r.Gauge).Target).toNat) default).Level) r.Value.Hi)) rfl (q_call (args := #[sv1, .int .i64 r.Value.Hi]) own33 rfl rfl (fun w1 hw1 => first_c w1 (Go.K.hp w1) (Hp.le_refl _) (hsv1.mono hw1.phi) hc2.1)) ?_
        refine RW.q (v := .int .i64 ((Fu.firstC ((b.Places.getD (((Fu.gaugeAt b.Gauges r.Gauge).Target).toNat) default).Level) r.Value.Hi) - 1)) rfl (q_sub rfl rfl (by omega) (by unfold I64; omega)) ?_
        refine RW.q (v := .int .i64 ((Fu.firstC ((b.Places.getD (((Fu.gaugeAt b.Gauges r.Gauge).Target).toNat) default).Level) r.Value.Hi) - 1)) rfl (q_assign rfl) ?_
        refine RW.nil ?_
        refine Post.then_n ?_
        refine AW.seq ?_
        refine AW.seq ?_
        refine AW.region ?_
        refine RW.q (v := .int .i64 (Fu.firstC ((b.Places.getD (((Fu.gaugeAt b.Gauges r.Gauge).Target).toNat) default).Level) (r.Value.Lo - 1))) rfl (q_move rfl) ?_
        refine RW.q (v := .int .i64 ((Fu.firstC ((b.Places.getD (((Fu.gaugeAt b.Gauges r.Gauge).Target).toNat) default).Level) r.Value.Hi) - 1)) rfl (q_move rfl) ?_
        refine RW.q (v := .bool (decide ((Fu.firstC ((b.Places.getD (((Fu.gaugeAt b.Gauges r.Gauge).Target).toNat) default).Level) r.Value.Hi) - 1 < Fu.firstC ((b.Places.getD (((Fu.gaugeAt b.Gauges r.Gauge).Target).toNat) default).Level) (r.Value.Lo - 1)))) rfl (q_gtr rfl rfl) ?_
        refine RW.nil ?_
        refine Post.then_n ?_
        refine AW.cond (b := decide ((Fu.firstC ((b.Places.getD (((Fu.gaugeAt b.Gauges r.Gauge).Target).toNat) default).Level) r.Value.Hi) - 1 < Fu.firstC ((b.Places.getD (((Fu.gaugeAt b.Gauges r.Gauge).Target).toNat) default).Level) (r.Value.Lo - 1))) rfl (fun hc4 => ?_) (fun hc4 => ?_)
        · simp [-List.getD_eq_getElem?_getD] at hc4
          refine AW.seq ?_
          refine AW.region ?_
          refine RW.q (v := .agg #[.int .i64 0, .int .i64 0]) rfl (q_build (vals := []) zero42 Try.underlying42 places42 rfl rfl) ?_
          refine RW.effn (J' := St ⟨w, Φ, []⟩ Φ [.blk b4 58 [.string ((Fu.gaugeAt b.Gauges r.Gauge).Name), .int .i64 ((Fu.gaugeAt b.Gauges r.Gauge).Kind), .int .i64 ((Fu.gaugeAt b.Gauges r.Gauge).Target), .int .i64 ((Fu.gaugeAt b.Gauges r.Gauge).Err), .int .i64 ((Fu.gaugeAt b.Gauges r.Gauge).Drift)], .blk b3 42 [.int .i64 0, .int .i64 0], .blk b2 46 [.int .i64 r.Gauge, .int .i64 r.Hour, .int .i64 r.Value.Lo, .int .i64 r.Value.Hi], .blk b1 31 [.string b.Name, v1, .int .i64 b.Cells, v3, v4, v5, v6, v7, v8, v9, .int .i64 b.Err]]) (e_store (v := .agg #[.int .i64 0, .int .i64 0]) 1 rfl rfl rfl sz42 rfl rfl rfl rfl rfl) ?_
          refine RW.q (v := .bool false) rfl (q_assign rfl) ?_
          refine RW.nil ?_
          refine Post.then_n ?_
          refine AW.ret ?_
          refine Post.then_r ?_
          refine fin_cell2 (cs := [.int .i64 0, .int .i64 0]) (v := .bool false) rfl rfl rfl rfl Try.underlying42 rfl sz42 rfl (Cells.blk 1 rfl) (fun w' hw => ?_)
          refine ⟨?_, hw.below rfl⟩
          rw [Fu.volR_half hvo hu2, Fu.volH_yes (c := Fu.levelOf b r) hc2 (low := (Fu.firstC (Fu.levelOf b r) (r.Value.Lo - 1))) (high := Fu.firstC (Fu.levelOf b r) r.Value.Hi - 1) (by rw [if_pos (by omega)]) rfl, if_neg (by unfold Fu.levelOf; omega)]
          rfl
        · simp [-List.getD_eq_getElem?_getD] at hc4
          refine AW.skip ?_
          refine Post.then_n ?_
          refine AW.seq ?_
          refine AW.region ?_
          refine RW.q (v := .int .i64 (Fu.firstC ((b.Places.getD (((Fu.gaugeAt b.Gauges r.Gauge).Target).toNat) default).Level) (r.Value.Lo - 1))) rfl (q_move rfl) ?_
          refine RW.q (v := .int .i64 ((Fu.firstC ((b.Places.getD (((Fu.gaugeAt b.Gauges r.Gauge).Target).toNat) default).Level) r.Value.Hi) - 1)) rfl (q_move rfl) ?_
          refine RW.q (v := .agg #[.int .i64 (Fu.firstC ((b.Places.getD (((Fu.gaugeAt b.Gauges r.Gauge).Target).toNat) default).Level) (r.Value.Lo - 1)), .int .i64 ((Fu.firstC ((b.Places.getD (((Fu.gaugeAt b.Gauges r.Gauge).Target).toNat) default).Level) r.Value.Hi) - 1)]) rfl (q_build (vals := [(0, .int .i64 (Fu.firstC ((b.Places.getD (((Fu.gaugeAt b.Gauges r.Gauge).Target).toNat) default).Level) (r.Value.Lo - 1))), (1, .int .i64 ((Fu.firstC ((b.Places.getD (((Fu.gaugeAt b.Gauges r.Gauge).Target).toNat) default).Level) r.Value.Hi) - 1))]) zero42 Try.underlying42 places42 rfl rfl) ?_
          refine RW.effn (J' := St ⟨w, Φ, []⟩ Φ [.blk b4 58 [.string ((Fu.gaugeAt b.Gauges r.Gauge).Name), .int .i64 ((Fu.gaugeAt b.Gauges r.Gauge).Kind), .int .i64 ((Fu.gaugeAt b.Gauges r.Gauge).Target), .int .i64 ((Fu.gaugeAt b.Gauges r.Gauge).Err), .int .i64 ((Fu.gaugeAt b.Gauges r.Gauge).Drift)], .blk b3 42 [.int .i64 (Fu.firstC ((b.Places.getD (((Fu.gaugeAt b.Gauges r.Gauge).Target).toNat) default).Level) (r.Value.Lo - 1)), .int .i64 ((Fu.firstC ((b.Places.getD (((Fu.gaugeAt b.Gauges r.Gauge).Target).toNat) default).Level) r.Value.Hi) - 1)], .blk b2 46 [.int .i64 r.Gauge, .int .i64 r.Hour, .int .i64 r.Value.Lo, .int .i64 r.Value.Hi], .blk b1 31 [.string b.Name, v1, .int .i64 b.Cells, v3, v4, v5, v6, v7, v8, v9, .int .i64 b.Err]]) (e_store (v := .agg #[.int .i64 (Fu.firstC ((b.Places.getD (((Fu.gaugeAt b.Gauges r.Gauge).Target).toNat) default).Level) (r.Value.Lo - 1)), .int .i64 ((Fu.firstC ((b.Places.getD (((Fu.gaugeAt b.Gauges r.Gauge).Target).toNat) default).Level) r.Value.Hi) - 1)]) 1 rfl rfl rfl sz42 rfl rfl rfl rfl rfl) ?_
          refine RW.q (v := .bool true) rfl (q_assign rfl) ?_
          refine RW.nil ?_
          refine Post.then_n ?_
          refine AW.ret ?_
          refine fin_cell2 (cs := [.int .i64 (Fu.firstC ((b.Places.getD (((Fu.gaugeAt b.Gauges r.Gauge).Target).toNat) default).Level) (r.Value.Lo - 1)), .int .i64 ((Fu.firstC ((b.Places.getD (((Fu.gaugeAt b.Gauges r.Gauge).Target).toNat) default).Level) r.Value.Hi) - 1)]) (v := .bool true) rfl rfl rfl rfl Try.underlying42 rfl sz42 rfl (Cells.blk 1 rfl) (fun w' hw => ?_)
          refine ⟨?_, hw.below rfl⟩
          rw [Fu.volR_half hvo hu2, Fu.volH_yes (c := Fu.levelOf b r) hc2 (low := (Fu.firstC (Fu.levelOf b r) (r.Value.Lo - 1))) (high := Fu.firstC (Fu.levelOf b r) r.Value.Hi - 1) (by rw [if_pos (by omega)]) rfl, if_pos (by unfold Fu.levelOf; omega)]
          rfl
      · simp [-List.getD_eq_getElem?_getD] at hc3
        refine AW.skip ?_
        refine Post.then_n ?_
        refine AW.seq ?_
        have hf := Fu.first_rng hc2.1 r.Value.Hi
        refine AW.region ?_
        refine RW.q (v := sv1) rfl (q_move rfl) ?_
        refine RW.q (v := .pointer (some (⟨b2, 2, none⟩))) rfl (q_fieldAddr rfl Try.underlying46 rfl sz42 rfl) ?_
        refine RW.q (v := .pointer (some (⟨b2, 3, none⟩))) rfl (q_fieldAddr rfl Try.underlying42 rfl sz3 rfl) ?_
        refine RW.q (v := .int .i64 r.Value.Hi) rfl (q_load rfl Try.underlying3 rfl (Cell.blk 2 rfl rfl)) ?_
        refine RW.q (v := .int .i64 (Fu.firstC ((b.Places.getD (((Fu.gaugeAt b.Gauges r.Gauge).Target).toNat) default).Level) r.Value.Hi)) rfl (q_call (args := #[sv1, .int .i64 r.Value.Hi]) own33 rfl rfl (fun w1 hw1 => first_c w1 (Go.K.hp w1) (Hp.le_refl _) (hsv1.mono hw1.phi) hc2.1)) ?_
        refine RW.q (v := .int .i64 ((Fu.firstC ((b.Places.getD (((Fu.gaugeAt b.Gauges r.Gauge).Target).toNat) default).Level) r.Value.Hi) - 1)) rfl (q_sub rfl rfl (by omega) (by unfold I64; omega)) ?_
        refine RW.q (v := .int .i64 ((Fu.firstC ((b.Places.getD (((Fu.gaugeAt b.Gauges r.Gauge).Target).toNat) default).Level) r.Value.Hi) - 1)) rfl (q_assign rfl) ?_
        refine RW.nil ?_
        refine Post.then_n ?_
        refine AW.seq ?_
        refine AW.seq ?_
        refine AW.region ?_
        refine RW.q (v := .int .i64 0) rfl (q_move rfl) ?_
        refine RW.q (v := .int .i64 ((Fu.firstC ((b.Places.getD (((Fu.gaugeAt b.Gauges r.Gauge).Target).toNat) default).Level) r.Value.Hi) - 1)) rfl (q_move rfl) ?_
        refine RW.q (v := .bool (decide ((Fu.firstC ((b.Places.getD (((Fu.gaugeAt b.Gauges r.Gauge).Target).toNat) default).Level) r.Value.Hi) - 1 < 0))) rfl (q_gtr rfl rfl) ?_
        refine RW.nil ?_
        refine Post.then_n ?_
        refine AW.cond (b := decide ((Fu.firstC ((b.Places.getD (((Fu.gaugeAt b.Gauges r.Gauge).Target).toNat) default).Level) r.Value.Hi) - 1 < 0)) rfl (fun hc5 => ?_) (fun hc5 => ?_)
        · simp [-List.getD_eq_getElem?_getD] at hc5
          refine AW.seq ?_
          refine AW.region ?_
          refine RW.q (v := .agg #[.int .i64 0, .int .i64 0]) rfl (q_build (vals := []) zero42 Try.underlying42 places42 rfl rfl) ?_
          refine RW.effn (J' := St ⟨w, Φ, []⟩ Φ [.blk b4 58 [.string ((Fu.gaugeAt b.Gauges r.Gauge).Name), .int .i64 ((Fu.gaugeAt b.Gauges r.Gauge).Kind), .int .i64 ((Fu.gaugeAt b.Gauges r.Gauge).Target), .int .i64 ((Fu.gaugeAt b.Gauges r.Gauge).Err), .int .i64 ((Fu.gaugeAt b.Gauges r.Gauge).Drift)], .blk b3 42 [.int .i64 0, .int .i64 0], .blk b2 46 [.int .i64 r.Gauge, .int .i64 r.Hour, .int .i64 r.Value.Lo, .int .i64 r.Value.Hi], .blk b1 31 [.string b.Name, v1, .int .i64 b.Cells, v3, v4, v5, v6, v7, v8, v9, .int .i64 b.Err]]) (e_store (v := .agg #[.int .i64 0, .int .i64 0]) 1 rfl rfl rfl sz42 rfl rfl rfl rfl rfl) ?_
          refine RW.q (v := .bool false) rfl (q_assign rfl) ?_
          refine RW.nil ?_
          refine Post.then_n ?_
          refine AW.ret ?_
          refine Post.then_r ?_
          refine fin_cell2 (cs := [.int .i64 0, .int .i64 0]) (v := .bool false) rfl rfl rfl rfl Try.underlying42 rfl sz42 rfl (Cells.blk 1 rfl) (fun w' hw => ?_)
          refine ⟨?_, hw.below rfl⟩
          rw [Fu.volR_half hvo hu2, Fu.volH_yes (c := Fu.levelOf b r) hc2 (low := 0) (high := Fu.firstC (Fu.levelOf b r) r.Value.Hi - 1) (by rw [if_neg (by omega)]) rfl, if_neg (by unfold Fu.levelOf; omega)]
          rfl
        · simp [-List.getD_eq_getElem?_getD] at hc5
          refine AW.skip ?_
          refine Post.then_n ?_
          refine AW.seq ?_
          refine AW.region ?_
          refine RW.q (v := .int .i64 0) rfl (q_move rfl) ?_
          refine RW.q (v := .int .i64 ((Fu.firstC ((b.Places.getD (((Fu.gaugeAt b.Gauges r.Gauge).Target).toNat) default).Level) r.Value.Hi) - 1)) rfl (q_move rfl) ?_
          refine RW.q (v := .agg #[.int .i64 0, .int .i64 ((Fu.firstC ((b.Places.getD (((Fu.gaugeAt b.Gauges r.Gauge).Target).toNat) default).Level) r.Value.Hi) - 1)]) rfl (q_build (vals := [(0, .int .i64 0), (1, .int .i64 ((Fu.firstC ((b.Places.getD (((Fu.gaugeAt b.Gauges r.Gauge).Target).toNat) default).Level) r.Value.Hi) - 1))]) zero42 Try.underlying42 places42 rfl rfl) ?_
          refine RW.effn (J' := St ⟨w, Φ, []⟩ Φ [.blk b4 58 [.string ((Fu.gaugeAt b.Gauges r.Gauge).Name), .int .i64 ((Fu.gaugeAt b.Gauges r.Gauge).Kind), .int .i64 ((Fu.gaugeAt b.Gauges r.Gauge).Target), .int .i64 ((Fu.gaugeAt b.Gauges r.Gauge).Err), .int .i64 ((Fu.gaugeAt b.Gauges r.Gauge).Drift)], .blk b3 42 [.int .i64 0, .int .i64 ((Fu.firstC ((b.Places.getD (((Fu.gaugeAt b.Gauges r.Gauge).Target).toNat) default).Level) r.Value.Hi) - 1)], .blk b2 46 [.int .i64 r.Gauge, .int .i64 r.Hour, .int .i64 r.Value.Lo, .int .i64 r.Value.Hi], .blk b1 31 [.string b.Name, v1, .int .i64 b.Cells, v3, v4, v5, v6, v7, v8, v9, .int .i64 b.Err]]) (e_store (v := .agg #[.int .i64 0, .int .i64 ((Fu.firstC ((b.Places.getD (((Fu.gaugeAt b.Gauges r.Gauge).Target).toNat) default).Level) r.Value.Hi) - 1)]) 1 rfl rfl rfl sz42 rfl rfl rfl rfl rfl) ?_
          refine RW.q (v := .bool true) rfl (q_assign rfl) ?_
          refine RW.nil ?_
          refine Post.then_n ?_
          refine AW.ret ?_
          refine fin_cell2 (cs := [.int .i64 0, .int .i64 ((Fu.firstC ((b.Places.getD (((Fu.gaugeAt b.Gauges r.Gauge).Target).toNat) default).Level) r.Value.Hi) - 1)]) (v := .bool true) rfl rfl rfl rfl Try.underlying42 rfl sz42 rfl (Cells.blk 1 rfl) (fun w' hw => ?_)
          refine ⟨?_, hw.below rfl⟩
          rw [Fu.volR_half hvo hu2, Fu.volH_yes (c := Fu.levelOf b r) hc2 (low := 0) (high := Fu.firstC (Fu.levelOf b r) r.Value.Hi - 1) (by rw [if_neg (by omega)]) rfl, if_pos (by unfold Fu.levelOf; omega)]
          rfl

set_option maxRecDepth 8000 in
set_option maxHeartbeats 1000000 in
theorem few_c (w : World) (Φ : Hp) (hΦ : Hp.le Φ (hp w)) {b : Bt.Basin} {cs : List Value} (hB : RepV Φ b cs) {h : Bt.Hull} {hcs : List Value} (hH : RepV Φ h hcs) :
    Calls Try.prog 9 #[.agg cs.toArray, .agg hcs.toArray] w fun e w' => e = .returned (.bool (decide (Fu.Few b h))) ∧ Below w.heap.size w w' := by
  obtain ⟨v1, v3, v4, v5, v6, v7, v8, v9, hcs, hBw, r1, r3, r4, r5, r6, r7, r8, r9⟩ := (show Rep.rep Φ b cs from hB)
  subst hcs
  have hpm : b.Places.length * 152 ≤ 140737488355328 := r3.max
  have hgm : b.Gauges.length * 48 ≤ 140737488355328 := r6.max
  obtain ⟨hv1, hv2, hv3, hhcs, hhw, hr1, hr2, hr3⟩ := (show Rep.rep Φ h hcs from hH)
  subst hhcs
  have hm1 : h.Vol.length * 16 ≤ 140737488355328 := hr1.max
  have hm2 : h.Queue.length * 32 ≤ 140737488355328 := hr2.max
  have hm3 : h.Links.length * 40 ≤ 140737488355328 := hr3.max
  refine calls_of_AW (args := [.agg #[.string b.Name, v1, .int .i64 b.Cells, v3, v4, v5, v6, v7, v8, v9, .int .i64 b.Err], .agg #[.int .i64 h.Hour, hv1, hv2, hv3]]) Try.func9 rfl (Nat.le_of_ble_eq_true rfl) (St ⟨w, Φ, []⟩ Φ []) (StP.init w Φ hΦ []) ?_
  show AW Try.prog 53 [] _ _ _ [(0, .agg #[.string b.Name, v1, .int .i64 b.Cells, v3, v4, v5, v6, v7, v8, v9, .int .i64 b.Err]), (1, .agg #[.int .i64 h.Hour, hv1, hv2, hv3])] _
  refine AW.seq ?_
  refine AW.region ?_
  refine RW.eff (fun b1 : Nat => .pointer (some (⟨b1, 0, none⟩))) (fun b1 => St ⟨w, Φ, []⟩ Φ [.blk b1 31 [.string b.Name, v1, .int .i64 b.Cells, v3, v4, v5, v6, v7, v8, v9, .int .i64 b.Err]]) rfl (e_boxA (cs := [.string b.Name, v1, .int .i64 b.Cells, v3, v4, v5, v6, v7, v8, v9, .int .i64 b.Err]) rfl) ?_
  intro b1
  refine RW.eff (fun b2 : Nat => .pointer (some (⟨b2, 0, none⟩))) (fun b2 => St ⟨w, Φ, []⟩ Φ [.blk b2 36 [.int .i64 h.Hour, hv1, hv2, hv3], .blk b1 31 [.string b.Name, v1, .int .i64 b.Cells, v3, v4, v5, v6, v7, v8, v9, .int .i64 b.Err]]) rfl (e_boxA (cs := [.int .i64 h.Hour, hv1, hv2, hv3]) rfl) ?_
  intro b2
  refine RW.q (v := .bool false) rfl (q_assign rfl) ?_
  refine RW.nil ?_
  refine Post.then_n ?_
  refine AW.seq ?_
  refine AW.seq ?_
  refine AW.region ?_
  refine RW.q (v := .int .i64 0) rfl (q_assign rfl) ?_
  refine RW.nil ?_
  refine Post.then_n ?_
  refine AW.block ?_
  refine AW.loop (fun s J m => ∃ (k : Nat), s = [(2, .pointer (some (⟨b1, 0, none⟩))), (3, .pointer (some (⟨b2, 0, none⟩))), (5, .int .i64 (k : Int))] ∧ J = St ⟨w, Φ, []⟩ Φ [.blk b2 36 [.int .i64 h.Hour, hv1, hv2, hv3], .blk b1 31 [.string b.Name, v1, .int .i64 b.Cells, v3, v4, v5, v6, v7, v8, v9, .int .i64 b.Err]] ∧ m = b.Places.length - k ∧ (k ≤ b.Places.length) ∧ (k ≤ 21) ∧ (∀ j, j < k → (b.Places.getD j default).Level.length ≤ 40)) (s0 := _) (J1 := _) (m0 := _) ⟨0, rfl, rfl, rfl, (by omega), (by omega), (by omega)⟩ ⟨rfl, rfl, rfl, trivial⟩ (fun _ h => h) ?_
  rintro _ _ _ _ ⟨k, rfl, rfl, rfl, hk, hk2, hall⟩
  refine AW.seq ?_
  refine AW.seq ?_
  refine AW.region ?_
  refine RW.q (v := .int .i64 (k : Int)) rfl (q_move rfl) ?_
  refine RW.q (v := .pointer (some (⟨b1, 3, none⟩))) rfl (q_fieldAddr rfl Try.underlying31 rfl sz23 rfl) ?_
  refine RW.q (v := v3) rfl (q_load rfl Try.underlying23 rfl (Cell.blk 1 rfl rfl)) ?_
  refine RW.q (v := .int .i64 ((b.Places.length : Nat) : Int)) rfl (q_len_sl rfl r3.sl Try.underlying23) ?_
  refine RW.q (v := .bool (decide ((k : Int) < ((b.Places.length : Nat) : Int)))) rfl (q_lss rfl rfl) ?_
  refine RW.q (v := .bool (decide ((k : Int) < ((b.Places.length : Nat) : Int)))) rfl (q_move rfl) ?_
  refine RW.g (b := (decide ((k : Int) < ((b.Places.length : Nat) : Int)))) (v := .int .i64 (k : Int)) rfl rfl rfl (fun h => q_move rfl) ?_
  refine RW.g (b := (decide ((k : Int) < ((b.Places.length : Nat) : Int)))) (v := .bool (decide ((k : Int) < 21))) rfl rfl rfl (fun h => q_lss (gv_pos h) rfl) ?_
  refine RW.q (v := .bool ((decide ((k : Int) < ((b.Places.length : Nat) : Int))) && (decide ((k : Int) < 21)))) rfl (q_pick rfl (fun hp => (gv_pos hp).trans (pkAndT hp)) (fun hp => pkAndF hp)) ?_
  refine RW.nil ?_
  refine Post.then_n ?_
  refine AW.cond (b := (decide ((k : Int) < ((b.Places.length : Nat) : Int))) && (decide ((k : Int) < 21))) rfl (fun hc1 => ?_) (fun hc1 => ?_)
  · simp [-List.getD_eq_getElem?_getD] at hc1
    refine AW.skip ?_
    refine Post.then_n ?_
    refine AW.seq ?_
    refine AW.block ?_
    refine AW.seq ?_
    refine AW.region ?_
    refine RW.q (v := .pointer (some (⟨b1, 3, none⟩))) rfl (q_fieldAddr rfl Try.underlying31 rfl sz23 rfl) ?_
    refine RW.q (v := v3) rfl (q_load rfl Try.underlying23 rfl (Cell.blk 1 rfl rfl)) ?_
    refine RW.q (v := .int .i64 (k : Int)) rfl (q_move rfl) ?_
    refine RW.q (v := .pointer (some (Value.at v3 (k * 12)))) rfl (q_indexAddr rfl rfl r3.sl Try.underlying23 sz63 (by omega) (by omega) rfl) ?_
    refine RW.q (v := .pointer (some (Value.at v3 (k * 12 + 4)))) rfl (q_fieldAddr rfl Try.underlying63 rfl sz60 at_add) ?_
    obtain ⟨sv1, hsv1, hpc1⟩ := leaf63_4 r3 (k := k) (by omega)
    refine RW.q (v := sv1) rfl (q_load rfl Try.underlying60 rfl (Cell.phi hpc1)) ?_
    refine RW.q (v := .int .i64 ((((b.Places.getD k default).Level).length : Nat) : Int)) rfl (q_len_sl rfl hsv1.sl Try.underlying60) ?_
    refine RW.q (v := .bool (decide ((40 : Int) < ((((b.Places.getD k default).Level).length : Nat) : Int)))) rfl (q_gtr rfl rfl) ?_
    refine RW.nil ?_
    refine Post.then_n ?_
    refine AW.cond (b := decide ((40 : Int) < ((((b.Places.getD k default).Level).length : Nat) : Int))) rfl (fun hc2 => ?_) (fun hc2 => ?_)
    · simp [-List.getD_eq_getElem?_getD] at hc2
      refine AW.seq ?_
      refine AW.region ?_
      refine RW.q (v := .bool false) rfl (q_assign rfl) ?_
      refine RW.nil ?_
      refine Post.then_n ?_
      refine AW.ret ?_
      refine Post.blk_r (Post.then_r (Post.then_r (Post.blk_r (Post.then_r ?_))))
      exact fin_val (v' := .bool false) rfl rfl rfl (by rw [decide_eq_false (fun hf => by have := hf.1 k (by omega) (by omega); omega)])
    · simp [-List.getD_eq_getElem?_getD] at hc2
      refine AW.skip ?_
      refine Post.blk_n (Post.then_n ?_)
      refine AW.region ?_
      refine RW.q (v := .int .i64 (k : Int)) rfl (q_move rfl) ?_
      refine RW.q (v := .int .i64 ((k + 1 : Nat) : Int)) rfl (q_add rfl rfl (by omega) (by unfold I64; omega)) ?_
      refine RW.q (v := .int .i64 ((k + 1 : Nat) : Int)) rfl (q_assign rfl) ?_
      refine RW.nil ?_
      exact Post.back (s' := _) (J' := _) (m' := _) (by omega) ⟨k + 1, rfl, rfl, rfl, (by omega), (by omega), (Fu.lt_succ hall (by omega))⟩ ⟨rfl, rfl, rfl, trivial⟩ (fun _ h => h)
  · simp [-List.getD_eq_getElem?_getD] at hc1
    refine AW.exit ?_
    refine Post.then_x (Post.then_x (Post.blk_hit (Post.then_n ?_)))
    refine AW.seq ?_
    refine AW.region ?_
    refine RW.q (v := .pointer (some (⟨b1, 3, none⟩))) rfl (q_fieldAddr rfl Try.underlying31 rfl sz23 rfl) ?_
    refine RW.q (v := v3) rfl (q_load rfl Try.underlying23 rfl (Cell.blk 1 rfl rfl)) ?_
    refine RW.q (v := .int .i64 ((b.Places.length : Nat) : Int)) rfl (q_len_sl rfl r3.sl Try.underlying23) ?_
    refine RW.q (v := .bool (decide (((b.Places.length : Nat) : Int) ≤ 20))) rfl (q_leq rfl rfl) ?_
    refine RW.q (v := .bool (decide (((b.Places.length : Nat) : Int) ≤ 20))) rfl (q_move rfl) ?_
    refine RW.g (b := (decide (((b.Places.length : Nat) : Int) ≤ 20))) (v := .pointer (some (⟨b1, 6, none⟩))) rfl rfl rfl (fun h => q_fieldAddr rfl Try.underlying31 rfl sz26 rfl) ?_
    refine RW.g (b := (decide (((b.Places.length : Nat) : Int) ≤ 20))) (v := v6) rfl rfl rfl (fun h => q_load (gv_pos h) Try.underlying26 rfl (Cell.blk 1 rfl rfl)) ?_
    refine RW.g (b := (decide (((b.Places.length : Nat) : Int) ≤ 20))) (v := .int .i64 ((b.Gauges.length : Nat) : Int)) rfl rfl rfl (fun h => q_len_sl (gv_pos h) r6.sl Try.underlying26) ?_
    refine RW.g (b := (decide (((b.Places.length : Nat) : Int) ≤ 20))) (v := .bool (decide (((b.Gauges.length : Nat) : Int) ≤ 20))) rfl rfl rfl (fun h => q_leq (gv_pos h) rfl) ?_
    refine RW.q (v := .bool ((decide (((b.Places.length : Nat) : Int) ≤ 20)) && (decide (((b.Gauges.length : Nat) : Int) ≤ 20)))) rfl (q_pick rfl (fun hp => (gv_pos hp).trans (pkAndT hp)) (fun hp => pkAndF hp)) ?_
    refine RW.q (v := .bool ((decide (((b.Places.length : Nat) : Int) ≤ 20)) && (decide (((b.Gauges.length : Nat) : Int) ≤ 20)))) rfl (q_move rfl) ?_
    refine RW.g (b := ((decide (((b.Places.length : Nat) : Int) ≤ 20)) && (decide (((b.Gauges.length : Nat) : Int) ≤ 20)))) (v := .pointer (some (⟨b2, 1, none⟩))) rfl rfl rfl (fun h => q_fieldAddr rfl Try.underlying36 rfl sz32 rfl) ?_
    refine RW.g (b := ((decide (((b.Places.length : Nat) : Int) ≤ 20)) && (decide (((b.Gauges.length : Nat) : Int) ≤ 20)))) (v := hv1) rfl rfl rfl (fun h => q_load (gv_pos h) Try.underlying32 rfl (Cell.blk 0 rfl rfl)) ?_
    refine RW.g (b := ((decide (((b.Places.length : Nat) : Int) ≤ 20)) && (decide (((b.Gauges.length : Nat) : Int) ≤ 20)))) (v := .int .i64 ((h.Vol.length : Nat) : Int)) rfl rfl rfl (fun h => q_len_sl (gv_pos h) hr1.sl Try.underlying32) ?_
    refine RW.g (b := ((decide (((b.Places.length : Nat) : Int) ≤ 20)) && (decide (((b.Gauges.length : Nat) : Int) ≤ 20)))) (v := .bool (decide (((h.Vol.length : Nat) : Int) ≤ 20))) rfl rfl rfl (fun h => q_leq (gv_pos h) rfl) ?_
    refine RW.q (v := .bool (((decide (((b.Places.length : Nat) : Int) ≤ 20)) && (decide (((b.Gauges.length : Nat) : Int) ≤ 20))) && (decide (((h.Vol.length : Nat) : Int) ≤ 20)))) rfl (q_pick rfl (fun hp => (gv_pos hp).trans (pkAndT hp)) (fun hp => pkAndF hp)) ?_
    refine RW.q (v := .bool (((decide (((b.Places.length : Nat) : Int) ≤ 20)) && (decide (((b.Gauges.length : Nat) : Int) ≤ 20))) && (decide (((h.Vol.length : Nat) : Int) ≤ 20)))) rfl (q_move rfl) ?_
    refine RW.g (b := (((decide (((b.Places.length : Nat) : Int) ≤ 20)) && (decide (((b.Gauges.length : Nat) : Int) ≤ 20))) && (decide (((h.Vol.length : Nat) : Int) ≤ 20)))) (v := .pointer (some (⟨b2, 3, none⟩))) rfl rfl rfl (fun h => q_fieldAddr rfl Try.underlying36 rfl sz34 rfl) ?_
    refine RW.g (b := (((decide (((b.Places.length : Nat) : Int) ≤ 20)) && (decide (((b.Gauges.length : Nat) : Int) ≤ 20))) && (decide (((h.Vol.length : Nat) : Int) ≤ 20)))) (v := hv3) rfl rfl rfl (fun h => q_load (gv_pos h) Try.underlying34 rfl (Cell.blk 0 rfl rfl)) ?_
    refine RW.g (b := (((decide (((b.Places.length : Nat) : Int) ≤ 20)) && (decide (((b.Gauges.length : Nat) : Int) ≤ 20))) && (decide (((h.Vol.length : Nat) : Int) ≤ 20)))) (v := .int .i64 ((h.Links.length : Nat) : Int)) rfl rfl rfl (fun h => q_len_sl (gv_pos h) hr3.sl Try.underlying34) ?_
    refine RW.g (b := (((decide (((b.Places.length : Nat) : Int) ≤ 20)) && (decide (((b.Gauges.length : Nat) : Int) ≤ 20))) && (decide (((h.Vol.length : Nat) : Int) ≤ 20)))) (v := .bool (decide (((h.Links.length : Nat) : Int) ≤ 20))) rfl rfl rfl (fun h => q_leq (gv_pos h) rfl) ?_
    refine RW.q (v := .bool ((((decide (((b.Places.length : Nat) : Int) ≤ 20)) && (decide (((b.Gauges.length : Nat) : Int) ≤ 20))) && (decide (((h.Vol.length : Nat) : Int) ≤ 20))) && (decide (((h.Links.length : Nat) : Int) ≤ 20)))) rfl (q_pick rfl (fun hp => (gv_pos hp).trans (pkAndT hp)) (fun hp => pkAndF hp)) ?_
    refine RW.q (v := .bool ((((decide (((b.Places.length : Nat) : Int) ≤ 20)) && (decide (((b.Gauges.length : Nat) : Int) ≤ 20))) && (decide (((h.Vol.length : Nat) : Int) ≤ 20))) && (decide (((h.Links.length : Nat) : Int) ≤ 20)))) rfl (q_move rfl) ?_
    refine RW.g (b := ((((decide (((b.Places.length : Nat) : Int) ≤ 20)) && (decide (((b.Gauges.length : Nat) : Int) ≤ 20))) && (decide (((h.Vol.length : Nat) : Int) ≤ 20))) && (decide (((h.Links.length : Nat) : Int) ≤ 20)))) (v := .pointer (some (⟨b2, 2, none⟩))) rfl rfl rfl (fun h => q_fieldAddr rfl Try.underlying36 rfl sz33 rfl) ?_
    refine RW.g (b := ((((decide (((b.Places.length : Nat) : Int) ≤ 20)) && (decide (((b.Gauges.length : Nat) : Int) ≤ 20))) && (decide (((h.Vol.length : Nat) : Int) ≤ 20))) && (decide (((h.Links.length : Nat) : Int) ≤ 20)))) (v := hv2) rfl rfl rfl (fun h => q_load (gv_pos h) Try.underlying33 rfl (Cell.blk 0 rfl rfl)) ?_
    refine RW.g (b := ((((decide (((b.Places.length : Nat) : Int) ≤ 20)) && (decide (((b.Gauges.length : Nat) : Int) ≤ 20))) && (decide (((h.Vol.length : Nat) : Int) ≤ 20))) && (decide (((h.Links.length : Nat) : Int) ≤ 20)))) (v := .int .i64 ((h.Queue.length : Nat) : Int)) rfl rfl rfl (fun h => q_len_sl (gv_pos h) hr2.sl Try.underlying33) ?_
    refine RW.g (b := ((((decide (((b.Places.length : Nat) : Int) ≤ 20)) && (decide (((b.Gauges.length : Nat) : Int) ≤ 20))) && (decide (((h.Vol.length : Nat) : Int) ≤ 20))) && (decide (((h.Links.length : Nat) : Int) ≤ 20)))) (v := .bool (decide (((h.Queue.length : Nat) : Int) ≤ 60))) rfl rfl rfl (fun h => q_leq (gv_pos h) rfl) ?_
    refine RW.q (v := .bool (((((decide (((b.Places.length : Nat) : Int) ≤ 20)) && (decide (((b.Gauges.length : Nat) : Int) ≤ 20))) && (decide (((h.Vol.length : Nat) : Int) ≤ 20))) && (decide (((h.Links.length : Nat) : Int) ≤ 20))) && (decide (((h.Queue.length : Nat) : Int) ≤ 60)))) rfl (q_pick rfl (fun hp => (gv_pos hp).trans (pkAndT hp)) (fun hp => pkAndF hp)) ?_
    refine RW.q (v := .bool (((((decide (((b.Places.length : Nat) : Int) ≤ 20)) && (decide (((b.Gauges.length : Nat) : Int) ≤ 20))) && (decide (((h.Vol.length : Nat) : Int) ≤ 20))) && (decide (((h.Links.length : Nat) : Int) ≤ 20))) && (decide (((h.Queue.length : Nat) : Int) ≤ 60)))) rfl (q_assign rfl) ?_
    refine RW.nil ?_
    refine Post.then_n ?_
    refine AW.ret ?_
    exact fin_val (v' := .bool (((((decide (((b.Places.length : Nat) : Int) ≤ 20)) && (decide (((b.Gauges.length : Nat) : Int) ≤ 20))) && (decide (((h.Vol.length : Nat) : Int) ≤ 20))) && (decide (((h.Links.length : Nat) : Int) ≤ 20))) && (decide (((h.Queue.length : Nat) : Int) ≤ 60)))) rfl rfl rfl (by congr 1; simp only [← Bool.decide_and, decide_eq_decide]; unfold Fu.Few; constructor <;> intro hh <;> refine ⟨?_, ?_⟩ <;> first | omega | (intro j hj hj2; exact hall j (by omega)))

end Go.Proofs.Ytblfeidlnhdekaa
