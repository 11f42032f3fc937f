/- Walks (part WalkH), printed by walk2.py. Conditions: those of each theorem. -/
import Derived.Test.YtlljbndnodbecaaWalkG
import Derived.Test.YtlljbndnodbecaaPlainK
import Derived.Test.YtlljbndnodbecaaCore15
namespace Go.Proofs.Ytlljbndnodbecaa
open Go Go.K Go.RowKit

set_option maxRecDepth 8000 in
set_option maxHeartbeats 1000000 in
theorem limited_c (w : World) (Φ : Hp) (hΦ : Hp.le Φ (hp w)) {b : Bt.Basin} {cs : List Value} (hB : RepV Φ b cs) :
    Calls Try.prog 16 #[.agg cs.toArray] w fun e w' => e = .returned (.bool (decide (Se.Lim b))) ∧ Bel w.heap.size w w' := by
  obtain ⟨v1, v3, v4, v5, v6, v7, v8, v9, hcs, hBw, r1, r3, r4, r5, r6, r7, r8, r9⟩ := (show Rep.rep Φ b cs from hB)
  subst hcs
  have hgm : b.Gauges.length * 48 ≤ 140737488355328 := r6.max
  refine calls_of_AW (args := [.agg #[.string b.Name, v1, .int .i64 b.Cells, v3, v4, v5, v6, v7, v8, v9, .int .i64 b.Err]]) Try.func16 rfl (Nat.le_of_ble_eq_true rfl) (St ⟨w, Φ, []⟩ Φ []) (StP.init w Φ hΦ []) ?_
  show AW Try.prog 45 [] _ _ _ [(0, .agg #[.string b.Name, v1, .int .i64 b.Cells, v3, v4, v5, v6, v7, v8, v9, .int .i64 b.Err])] _
  refine AW.seq ?_
  refine AW.region ?_
  refine RW.eff (fun b1 : Nat => .pointer (some (⟨b1, 0, none⟩))) (fun b1 => St ⟨w, Φ, []⟩ Φ [.blk b1 41 [.string b.Name, v1, .int .i64 b.Cells, v3, v4, v5, v6, v7, v8, v9, .int .i64 b.Err]]) rfl (e_boxA (cs := [.string b.Name, v1, .int .i64 b.Cells, v3, v4, v5, v6, v7, v8, v9, .int .i64 b.Err]) rfl) ?_
  intro b1
  refine RW.q (v := .bool false) rfl (q_assign rfl) ?_
  refine RW.nil ?_
  refine Post.then_n ?_
  refine AW.seq ?_
  refine AW.seq ?_
  refine AW.region ?_
  refine RW.q (v := .int .i64 0) rfl (q_assign rfl) ?_
  refine RW.nil ?_
  refine Post.then_n ?_
  refine AW.block ?_
  refine AW.loop (fun s J m => ∃ (k : Nat), s = [(1, .pointer (some (⟨b1, 0, none⟩))), (3, .int .i64 (k : Int))] ∧ J = St ⟨w, Φ, []⟩ Φ [.blk b1 41 [.string b.Name, v1, .int .i64 b.Cells, v3, v4, v5, v6, v7, v8, v9, .int .i64 b.Err]] ∧ m = b.Gauges.length - k ∧ (k ≤ b.Gauges.length) ∧ (∀ j, j < k → 0 ≤ (b.Gauges.getD j default).Err ∧ (b.Gauges.getD j default).Err ≤ 1073741824 ∧ 0 ≤ (b.Gauges.getD j default).Drift ∧ (b.Gauges.getD j default).Drift ≤ 1440)) (s0 := _) (J1 := _) (m0 := _) ⟨0, rfl, rfl, rfl, (by omega), (by omega)⟩ ⟨rfl, rfl, trivial⟩ (fun _ h => h) ?_
  rintro _ _ _ _ ⟨k, rfl, rfl, rfl, hk, hall⟩
  refine AW.seq ?_
  refine AW.seq ?_
  refine AW.region ?_
  refine RW.q (v := .int .i64 (k : Int)) rfl (q_move rfl) ?_
  refine RW.q (v := .pointer (some (⟨b1, 6, none⟩))) rfl (q_fieldAddr rfl Try.underlying41 rfl sz36 rfl) ?_
  refine RW.q (v := v6) rfl (q_load rfl Try.underlying36 rfl (Cell.blk 0 rfl rfl)) ?_
  refine RW.q (v := .int .i64 ((b.Gauges.length : Nat) : Int)) rfl (q_len_sl rfl r6.sl Try.underlying36) ?_
  refine RW.q (v := .bool (decide ((k : Int) < ((b.Gauges.length : Nat) : Int)))) rfl (q_lss rfl rfl) ?_
  refine RW.nil ?_
  refine Post.then_n ?_
  refine AW.cond (b := decide ((k : Int) < ((b.Gauges.length : Nat) : Int))) rfl (fun hc1 => ?_) (fun hc1 => ?_)
  · simp [-List.getD_eq_getElem?_getD] at hc1
    refine AW.skip ?_
    refine Post.then_n ?_
    refine AW.seq ?_
    refine AW.block ?_
    refine AW.seq ?_
    refine AW.region ?_
    refine RW.q (v := .pointer (some (⟨b1, 6, none⟩))) rfl (q_fieldAddr rfl Try.underlying41 rfl sz36 rfl) ?_
    refine RW.q (v := v6) rfl (q_load rfl Try.underlying36 rfl (Cell.blk 0 rfl rfl)) ?_
    refine RW.q (v := .int .i64 (k : Int)) rfl (q_move rfl) ?_
    refine RW.q (v := .pointer (some (Value.at v6 (k * 5)))) rfl (q_indexAddr rfl rfl r6.sl Try.underlying36 sz63 (by omega) (by omega) rfl) ?_
    refine RW.q (v := .agg #[.string ((b.Gauges.getD k default).Name), .int .i64 ((b.Gauges.getD k default).Kind), .int .i64 ((b.Gauges.getD k default).Target), .int .i64 ((b.Gauges.getD k default).Err), .int .i64 ((b.Gauges.getD k default).Drift)]) rfl (q_loadAgg rfl Try.underlying63 rfl sz63 rfl (Cells.repE r6 (by omega) rfl)) ?_
    refine RW.eff (fun b2 : Nat => .pointer (some (⟨b2, 0, none⟩))) (fun b2 => St ⟨w, Φ, []⟩ Φ [.blk b2 63 [.string (bs ([])), .int .i64 0, .int .i64 0, .int .i64 0, .int .i64 0], .blk b1 41 [.string b.Name, v1, .int .i64 b.Cells, v3, v4, v5, v6, v7, v8, v9, .int .i64 b.Err]]) rfl (e_alloc zero63) ?_
    intro b2
    refine RW.effn (J' := St ⟨w, Φ, []⟩ Φ [.blk b2 63 [.string ((b.Gauges.getD k default).Name), .int .i64 ((b.Gauges.getD k default).Kind), .int .i64 ((b.Gauges.getD k default).Target), .int .i64 ((b.Gauges.getD k default).Err), .int .i64 ((b.Gauges.getD k default).Drift)], .blk b1 41 [.string b.Name, v1, .int .i64 b.Cells, v3, v4, v5, v6, v7, v8, v9, .int .i64 b.Err]]) (e_store (v := .agg #[.string ((b.Gauges.getD k default).Name), .int .i64 ((b.Gauges.getD k default).Kind), .int .i64 ((b.Gauges.getD k default).Target), .int .i64 ((b.Gauges.getD k default).Err), .int .i64 ((b.Gauges.getD k default).Drift)]) 0 rfl rfl rfl sz63 rfl rfl rfl rfl rfl) ?_
    refine RW.nil ?_
    refine Post.then_n ?_
    refine AW.seq ?_
    refine AW.region ?_
    refine RW.q (v := .pointer (some (⟨b2, 3, none⟩))) rfl (q_fieldAddr rfl Try.underlying63 rfl sz3 rfl) ?_
    refine RW.q (v := .int .i64 ((b.Gauges.getD k default).Err)) rfl (q_load rfl Try.underlying3 rfl (Cell.blk 0 rfl rfl)) ?_
    refine RW.q (v := .bool (decide ((b.Gauges.getD k default).Err < 0))) rfl (q_lss rfl rfl) ?_
    refine RW.q (v := .bool (decide ((b.Gauges.getD k default).Err < 0))) rfl (q_move rfl) ?_
    refine RW.g (b := (decide ((b.Gauges.getD k default).Err < 0))) (v := .pointer (some (⟨b2, 3, none⟩))) rfl rfl rfl (fun h => q_fieldAddr rfl Try.underlying63 rfl sz3 rfl) ?_
    refine RW.g (b := (decide ((b.Gauges.getD k default).Err < 0))) (v := .int .i64 ((b.Gauges.getD k default).Err)) rfl rfl rfl (fun h => q_load (gv_pos h) Try.underlying3 rfl (Cell.blk 0 rfl rfl)) ?_
    refine RW.g (b := (decide ((b.Gauges.getD k default).Err < 0))) (v := .bool (decide ((1073741824 : Int) < (b.Gauges.getD k default).Err))) rfl rfl rfl (fun h => q_gtr (gv_pos h) rfl) ?_
    refine RW.q (v := .bool ((decide ((b.Gauges.getD k default).Err < 0)) || (decide ((1073741824 : Int) < (b.Gauges.getD k default).Err)))) rfl (q_pick rfl (fun hp => pkOrT hp) (fun hp => (gv_pos hp).trans (pkOrF hp))) ?_
    refine RW.q (v := .bool ((decide ((b.Gauges.getD k default).Err < 0)) || (decide ((1073741824 : Int) < (b.Gauges.getD k default).Err)))) rfl (q_move rfl) ?_
    refine RW.g (b := ((decide ((b.Gauges.getD k default).Err < 0)) || (decide ((1073741824 : Int) < (b.Gauges.getD k default).Err)))) (v := .pointer (some (⟨b2, 4, none⟩))) rfl rfl rfl (fun h => q_fieldAddr rfl Try.underlying63 rfl sz3 rfl) ?_
    refine RW.g (b := ((decide ((b.Gauges.getD k default).Err < 0)) || (decide ((1073741824 : Int) < (b.Gauges.getD k default).Err)))) (v := .int .i64 ((b.Gauges.getD k default).Drift)) rfl rfl rfl (fun h => q_load (gv_pos h) Try.underlying3 rfl (Cell.blk 0 rfl rfl)) ?_
    refine RW.g (b := ((decide ((b.Gauges.getD k default).Err < 0)) || (decide ((1073741824 : Int) < (b.Gauges.getD k default).Err)))) (v := .bool (decide ((b.Gauges.getD k default).Drift < 0))) rfl rfl rfl (fun h => q_lss (gv_pos h) rfl) ?_
    refine RW.q (v := .bool (((decide ((b.Gauges.getD k default).Err < 0)) || (decide ((1073741824 : Int) < (b.Gauges.getD k default).Err))) || (decide ((b.Gauges.getD k default).Drift < 0)))) rfl (q_pick rfl (fun hp => pkOrT hp) (fun hp => (gv_pos hp).trans (pkOrF hp))) ?_
    refine RW.q (v := .bool (((decide ((b.Gauges.getD k default).Err < 0)) || (decide ((1073741824 : Int) < (b.Gauges.getD k default).Err))) || (decide ((b.Gauges.getD k default).Drift < 0)))) rfl (q_move rfl) ?_
    refine RW.g (b := (((decide ((b.Gauges.getD k default).Err < 0)) || (decide ((1073741824 : Int) < (b.Gauges.getD k default).Err))) || (decide ((b.Gauges.getD k default).Drift < 0)))) (v := .pointer (some (⟨b2, 4, none⟩))) rfl rfl rfl (fun h => q_fieldAddr rfl Try.underlying63 rfl sz3 rfl) ?_
    refine RW.g (b := (((decide ((b.Gauges.getD k default).Err < 0)) || (decide ((1073741824 : Int) < (b.Gauges.getD k default).Err))) || (decide ((b.Gauges.getD k default).Drift < 0)))) (v := .int .i64 ((b.Gauges.getD k default).Drift)) rfl rfl rfl (fun h => q_load (gv_pos h) Try.underlying3 rfl (Cell.blk 0 rfl rfl)) ?_
    refine RW.g (b := (((decide ((b.Gauges.getD k default).Err < 0)) || (decide ((1073741824 : Int) < (b.Gauges.getD k default).Err))) || (decide ((b.Gauges.getD k default).Drift < 0)))) (v := .bool (decide ((1440 : Int) < (b.Gauges.getD k default).Drift))) rfl rfl rfl (fun h => q_gtr (gv_pos h) rfl) ?_
    refine RW.q (v := .bool ((((decide ((b.Gauges.getD k default).Err < 0)) || (decide ((1073741824 : Int) < (b.Gauges.getD k default).Err))) || (decide ((b.Gauges.getD k default).Drift < 0))) || (decide ((1440 : Int) < (b.Gauges.getD k default).Drift)))) rfl (q_pick rfl (fun hp => pkOrT hp) (fun hp => (gv_pos hp).trans (pkOrF hp))) ?_
    refine RW.nil ?_
    refine Post.then_n ?_
    refine AW.cond (b := (((decide ((b.Gauges.getD k default).Err < 0)) || (decide ((1073741824 : Int) < (b.Gauges.getD k default).Err))) || (decide ((b.Gauges.getD k default).Drift < 0))) || (decide ((1440 : Int) < (b.Gauges.getD k default).Drift))) rfl (fun hc2 => ?_) (fun hc2 => ?_)
    · simp [-List.getD_eq_getElem?_getD] at hc2
      refine AW.seq ?_
      refine AW.region ?_
      refine RW.q (v := .bool false) rfl (q_assign rfl) ?_
      refine RW.nil ?_
      refine Post.then_n ?_
      refine AW.ret ?_
      refine Post.blk_r (Post.then_r (Post.then_r (Post.blk_r (Post.then_r ?_))))
      exact fin_val (v' := .bool false) rfl rfl rfl (by rw [decide_eq_false (fun hf => by have := hf.1 k (by omega); omega)])
    · simp [-List.getD_eq_getElem?_getD] at hc2
      refine AW.skip ?_
      refine Post.blk_n (Post.then_n ?_)
      refine AW.region ?_
      refine RW.q (v := .int .i64 (k : Int)) rfl (q_move rfl) ?_
      refine RW.q (v := .int .i64 ((k + 1 : Nat) : Int)) rfl (q_add rfl rfl (by omega) (by unfold I64; omega)) ?_
      refine RW.q (v := .int .i64 ((k + 1 : Nat) : Int)) rfl (q_assign rfl) ?_
      refine RW.nil ?_
      exact Post.back (s' := _) (J' := _) (m' := _) (by omega) ⟨k + 1, rfl, rfl, rfl, (by omega), (Se.lt_succ hall (by omega))⟩ ⟨rfl, rfl, trivial⟩ (fun _ h => StP.drop h (by exact .cons _ (.cons_cons _ (.slnil))))
  · simp [-List.getD_eq_getElem?_getD] at hc1
    refine AW.exit ?_
    refine Post.then_x (Post.then_x (Post.blk_hit (Post.then_n ?_)))
    refine AW.seq ?_
    refine AW.region ?_
    refine RW.q (v := .pointer (some (⟨b1, 6, none⟩))) rfl (q_fieldAddr rfl Try.underlying41 rfl sz36 rfl) ?_
    refine RW.q (v := v6) rfl (q_load rfl Try.underlying36 rfl (Cell.blk 0 rfl rfl)) ?_
    refine RW.q (v := .int .i64 ((b.Gauges.length : Nat) : Int)) rfl (q_len_sl rfl r6.sl Try.underlying36) ?_
    refine RW.q (v := .bool (decide ((1 : Int) ≤ ((b.Gauges.length : Nat) : Int)))) rfl (q_geq rfl rfl) ?_
    refine RW.q (v := .bool (decide ((1 : Int) ≤ ((b.Gauges.length : Nat) : Int)))) rfl (q_move rfl) ?_
    refine RW.g (b := (decide ((1 : Int) ≤ ((b.Gauges.length : Nat) : Int)))) (v := .pointer (some (⟨b1, 6, none⟩))) rfl rfl rfl (fun h => q_fieldAddr rfl Try.underlying41 rfl sz36 rfl) ?_
    refine RW.g (b := (decide ((1 : Int) ≤ ((b.Gauges.length : Nat) : Int)))) (v := v6) rfl rfl rfl (fun h => q_load (gv_pos h) Try.underlying36 rfl (Cell.blk 0 rfl rfl)) ?_
    refine RW.g (b := (decide ((1 : Int) ≤ ((b.Gauges.length : Nat) : Int)))) (v := .int .i64 ((b.Gauges.length : Nat) : Int)) rfl rfl rfl (fun h => q_len_sl (gv_pos h) r6.sl Try.underlying36) ?_
    refine RW.g (b := (decide ((1 : Int) ≤ ((b.Gauges.length : Nat) : Int)))) (v := .bool (decide (((b.Gauges.length : Nat) : Int) ≤ 20))) rfl rfl rfl (fun h => q_leq (gv_pos h) rfl) ?_
    refine RW.q (v := .bool ((decide ((1 : Int) ≤ ((b.Gauges.length : Nat) : Int))) && (decide (((b.Gauges.length : Nat) : Int) ≤ 20)))) rfl (q_pick rfl (fun hp => (gv_pos hp).trans (pkAndT hp)) (fun hp => pkAndF hp)) ?_
    refine RW.q (v := .bool ((decide ((1 : Int) ≤ ((b.Gauges.length : Nat) : Int))) && (decide (((b.Gauges.length : Nat) : Int) ≤ 20)))) rfl (q_assign rfl) ?_
    refine RW.nil ?_
    refine Post.then_n ?_
    refine AW.ret ?_
    exact fin_val (v' := .bool ((decide ((1 : Int) ≤ ((b.Gauges.length : Nat) : Int))) && (decide (((b.Gauges.length : Nat) : Int) ≤ 20)))) rfl rfl rfl (congrArg Value.bool (Se.lim_iff (fun j hj => hall j (by omega))))

set_option maxRecDepth 8000 in
set_option maxHeartbeats 1000000 in
theorem find_c (w : World) (Φ : Hp) (hΦ : Hp.le Φ (hp w)) {xs : List Bt.Reading} {v1 : Value} (h1 : RepSl Φ xs v1) {q u : Int} :
    Calls Try.prog 19 #[v1, .int .i64 q, .int .i64 u] w fun e w' => e = .returned (.tuple #[.agg #[.int .i64 (((Se.findR xs q u).getD default).Gauge), .int .i64 (((Se.findR xs q u).getD default).Hour), .int .i64 (((Se.findR xs q u).getD default).Value.Lo), .int .i64 (((Se.findR xs q u).getD default).Value.Hi)], .bool (Se.findR xs q u).isSome]) ∧ Bel w.heap.size w w' := by
  refine calls_of_AW (args := [v1, .int .i64 q, .int .i64 u]) Try.func19 rfl (Nat.le_of_ble_eq_true rfl) (St ⟨w, Φ, []⟩ Φ []) (StP.init w Φ hΦ []) ?_
  show AW Try.prog 36 [] _ _ _ [(0, v1), (1, .int .i64 q), (2, .int .i64 u)] _
  have hm1 : xs.length * 32 ≤ 140737488355328 := h1.max
  refine AW.seq ?_
  refine AW.region ?_
  refine RW.eff (fun b1 : Nat => .pointer (some (⟨b1, 0, none⟩))) (fun b1 => St ⟨w, Φ, []⟩ Φ [.blk b1 49 [.int .i64 0, .int .i64 0, .int .i64 0, .int .i64 0]]) rfl (e_alloc zero49) ?_
  intro b1
  refine RW.q (v := .bool false) rfl (q_assign rfl) ?_
  refine RW.nil ?_
  refine Post.then_n ?_
  refine AW.seq ?_
  refine AW.seq ?_
  refine AW.region ?_
  refine RW.q (v := .int .i64 0) rfl (q_assign rfl) ?_
  refine RW.nil ?_
  refine Post.then_n ?_
  refine AW.block ?_
  refine AW.loop (fun s J m => ∃ (k : Nat), s = [(0, v1), (1, .int .i64 q), (2, .int .i64 u), (6, .pointer (some (⟨b1, 0, none⟩))), (8, .int .i64 (k : Int))] ∧ J = St ⟨w, Φ, []⟩ Φ [.blk b1 49 [.int .i64 0, .int .i64 0, .int .i64 0, .int .i64 0]] ∧ m = xs.length - k ∧ (k ≤ xs.length) ∧ (∀ j, j < k → ¬ ((xs.getD j default).Gauge = q ∧ (xs.getD j default).Hour = u))) (s0 := _) (J1 := _) (m0 := _) ⟨0, rfl, rfl, rfl, (by omega), (by omega)⟩ ⟨rfl, rfl, rfl, rfl, rfl, trivial⟩ (fun _ h => h) ?_
  rintro _ _ _ _ ⟨k, rfl, rfl, rfl, hk, hz⟩
  refine AW.seq ?_
  refine AW.seq ?_
  refine AW.region ?_
  refine RW.q (v := .int .i64 (k : Int)) rfl (q_move rfl) ?_
  refine RW.q (v := v1) rfl (q_move rfl) ?_
  refine RW.q (v := .int .i64 ((xs.length : Nat) : Int)) rfl (q_len_sl rfl h1.sl Try.underlying43) ?_
  refine RW.q (v := .bool (decide ((k : Int) < ((xs.length : Nat) : Int)))) rfl (q_lss rfl rfl) ?_
  refine RW.nil ?_
  refine Post.then_n ?_
  refine AW.cond (b := decide ((k : Int) < ((xs.length : Nat) : Int))) rfl (fun hc1 => ?_) (fun hc1 => ?_)
  · simp [-List.getD_eq_getElem?_getD] at hc1
    refine AW.skip ?_
    refine Post.then_n ?_
    refine AW.seq ?_
    refine AW.block ?_
    refine AW.seq ?_
    refine AW.region ?_
    refine RW.q (v := v1) rfl (q_move rfl) ?_
    refine RW.q (v := .int .i64 (k : Int)) rfl (q_move rfl) ?_
    refine RW.q (v := .pointer (some (Value.at v1 (k * 4)))) rfl (q_indexAddr rfl rfl h1.sl Try.underlying43 sz49 (by omega) (by omega) rfl) ?_
    refine RW.q (v := .pointer (some (Value.at v1 (k * 4 + 0)))) rfl (q_fieldAddr rfl Try.underlying49 rfl sz3 at_add) ?_
    refine RW.q (v := .int .i64 ((xs.getD k default).Gauge)) rfl (q_load rfl Try.underlying3 rfl (Cell.repE (j := 0) h1 (by omega) rfl)) ?_
    refine RW.q (v := .int .i64 q) rfl (q_move rfl) ?_
    refine RW.q (v := .bool (decide ((xs.getD k default).Gauge = q))) rfl (q_eql rfl rfl) ?_
    refine RW.q (v := .bool (decide ((xs.getD k default).Gauge = q))) rfl (q_move rfl) ?_
    refine RW.g (b := (decide ((xs.getD k default).Gauge = q))) (v := v1) rfl rfl rfl (fun h => q_move rfl) ?_
    refine RW.g (b := (decide ((xs.getD k default).Gauge = q))) (v := .int .i64 (k : Int)) rfl rfl rfl (fun h => q_move rfl) ?_
    refine RW.g (b := (decide ((xs.getD k default).Gauge = q))) (v := .pointer (some (Value.at v1 (k * 4)))) rfl rfl rfl (fun h => q_indexAddr (gv_pos h) (gv_pos h) h1.sl Try.underlying43 sz49 (by (try simp [-List.getD_eq_getElem?_getD] at h); omega) (by (try simp [-List.getD_eq_getElem?_getD] at h); omega) rfl) ?_
    refine RW.g (b := (decide ((xs.getD k default).Gauge = q))) (v := .pointer (some (Value.at v1 (k * 4 + 1)))) rfl rfl rfl (fun h => q_fieldAddr (gv_pos h) Try.underlying49 rfl sz3 at_add) ?_
    refine RW.g (b := (decide ((xs.getD k default).Gauge = q))) (v := .int .i64 ((xs.getD k default).Hour)) rfl rfl rfl (fun h => q_load (gv_pos h) Try.underlying3 rfl (Cell.repE (j := 1) h1 (by (try simp [-List.getD_eq_getElem?_getD] at h); omega) rfl)) ?_
    refine RW.g (b := (decide ((xs.getD k default).Gauge = q))) (v := .int .i64 u) rfl rfl rfl (fun h => q_move rfl) ?_
    refine RW.g (b := (decide ((xs.getD k default).Gauge = q))) (v := .bool (decide ((xs.getD k default).Hour = u))) rfl rfl rfl (fun h => q_eql (gv_pos h) (gv_pos h)) ?_
    refine RW.q (v := .bool ((decide ((xs.getD k default).Gauge = q)) && (decide ((xs.getD k default).Hour = u)))) rfl (q_pick rfl (fun hp => (gv_pos hp).trans (pkAndT hp)) (fun hp => pkAndF hp)) ?_
    refine RW.nil ?_
    refine Post.then_n ?_
    refine AW.cond (b := (decide ((xs.getD k default).Gauge = q)) && (decide ((xs.getD k default).Hour = u))) rfl (fun hc2 => ?_) (fun hc2 => ?_)
    · simp [-List.getD_eq_getElem?_getD] at hc2
      refine AW.seq ?_
      refine AW.region ?_
      refine RW.q (v := v1) rfl (q_move rfl) ?_
      refine RW.q (v := .int .i64 (k : Int)) rfl (q_move rfl) ?_
      refine RW.q (v := .pointer (some (Value.at v1 (k * 4)))) rfl (q_indexAddr rfl rfl h1.sl Try.underlying43 sz49 (by omega) (by omega) rfl) ?_
      refine RW.q (v := .agg #[.int .i64 ((xs.getD k default).Gauge), .int .i64 ((xs.getD k default).Hour), .int .i64 ((xs.getD k default).Value.Lo), .int .i64 ((xs.getD k default).Value.Hi)]) rfl (q_loadAgg rfl Try.underlying49 rfl sz49 rfl (Cells.repE h1 (by omega) rfl)) ?_
      refine RW.effn (J' := St ⟨w, Φ, []⟩ Φ [.blk b1 49 [.int .i64 ((xs.getD k default).Gauge), .int .i64 ((xs.getD k default).Hour), .int .i64 ((xs.getD k default).Value.Lo), .int .i64 ((xs.getD k default).Value.Hi)]]) (e_store (v := .agg #[.int .i64 ((xs.getD k default).Gauge), .int .i64 ((xs.getD k default).Hour), .int .i64 ((xs.getD k default).Value.Lo), .int .i64 ((xs.getD k default).Value.Hi)]) 0 rfl rfl rfl sz49 rfl rfl rfl rfl rfl) ?_
      refine RW.q (v := .bool true) rfl (q_assign rfl) ?_
      refine RW.nil ?_
      refine Post.then_n ?_
      refine AW.ret ?_
      refine Post.blk_r (Post.then_r (Post.then_r (Post.blk_r (Post.then_r ?_))))
      refine fin_cell2 (cs := [.int .i64 ((xs.getD k default).Gauge), .int .i64 ((xs.getD k default).Hour), .int .i64 ((xs.getD k default).Value.Lo), .int .i64 ((xs.getD k default).Value.Hi)]) (v := .bool true) rfl rfl rfl rfl Try.underlying49 rfl sz49 rfl (Cells.blk 0 rfl) (fun w' hw => ?_)
      refine ⟨?_, hw.below rfl⟩
      rw [Se.findR_hit (by omega) hz hc2]
      rfl
    · simp [-List.getD_eq_getElem?_getD] at hc2
      refine AW.skip ?_
      refine Post.blk_n (Post.then_n ?_)
      refine AW.region ?_
      refine RW.q (v := .int .i64 (k : Int)) rfl (q_move rfl) ?_
      refine RW.q (v := .int .i64 ((k + 1 : Nat) : Int)) rfl (q_add rfl rfl (by omega) (by unfold I64; omega)) ?_
      refine RW.q (v := .int .i64 ((k + 1 : Nat) : Int)) rfl (q_assign rfl) ?_
      refine RW.nil ?_
      exact Post.back (s' := _) (J' := _) (m' := _) (by omega) ⟨k + 1, rfl, rfl, rfl, (by omega), (Se.lt_succ hz (by intro h9; exact hc2 h9.1 h9.2))⟩ ⟨rfl, rfl, rfl, rfl, rfl, trivial⟩ (fun _ h => h)
  · simp [-List.getD_eq_getElem?_getD] at hc1
    refine AW.exit ?_
    refine Post.then_x (Post.then_x (Post.blk_hit (Post.then_n ?_)))
    refine AW.seq ?_
    refine AW.region ?_
    refine RW.q (v := .agg #[.int .i64 0, .int .i64 0, .int .i64 0, .int .i64 0]) rfl (q_build (vals := []) zero49 Try.underlying49 places49 rfl rfl) ?_
    refine RW.effn (J' := St ⟨w, Φ, []⟩ Φ [.blk b1 49 [.int .i64 0, .int .i64 0, .int .i64 0, .int .i64 0]]) (e_store (v := .agg #[.int .i64 0, .int .i64 0, .int .i64 0, .int .i64 0]) 0 rfl rfl rfl sz49 rfl rfl rfl rfl rfl) ?_
    refine RW.q (v := .bool false) rfl (q_assign rfl) ?_
    refine RW.nil ?_
    refine Post.then_n ?_
    refine AW.ret ?_
    refine fin_cell2 (cs := [.int .i64 0, .int .i64 0, .int .i64 0, .int .i64 0]) (v := .bool false) rfl rfl rfl rfl Try.underlying49 rfl sz49 rfl (Cells.blk 0 rfl) (fun w' hw => ?_)
    refine ⟨?_, hw.below rfl⟩
    rw [Se.findR_miss (fun j hj => hz j (by omega))]
    rfl

set_option maxRecDepth 8000 in
set_option maxHeartbeats 1000000 in
theorem sJoin_c (w : World) (Φ : Hp) (hΦ : Hp.le Φ (hp w)) {aL aH bL bH : Int} :
    Calls Try.prog 35 #[.agg #[.int .i64 aL, .int .i64 aH], .agg #[.int .i64 bL, .int .i64 bH]] w fun e w' => e = .returned (.agg #[.int .i64 (min aL bL), .int .i64 (max aH bH)]) ∧ Bel w.heap.size w w' := by
  refine calls_of_AW (args := [.agg #[.int .i64 aL, .int .i64 aH], .agg #[.int .i64 bL, .int .i64 bH]]) Try.func35 rfl (Nat.le_of_ble_eq_true rfl) (St ⟨w, Φ, []⟩ Φ []) (StP.init w Φ hΦ []) ?_
  show AW Try.prog 16 [] _ _ _ [(0, .agg #[.int .i64 aL, .int .i64 aH]), (1, .agg #[.int .i64 bL, .int .i64 bH])] _
  refine AW.seq ?_
  refine AW.region ?_
  refine RW.eff (fun b1 : Nat => .pointer (some (⟨b1, 0, none⟩))) (fun b1 => St ⟨w, Φ, []⟩ Φ [.blk b1 47 [.int .i64 aL, .int .i64 aH]]) rfl (e_boxA (cs := [.int .i64 aL, .int .i64 aH]) rfl) ?_
  intro b1
  refine RW.eff (fun b2 : Nat => .pointer (some (⟨b2, 0, none⟩))) (fun b2 => St ⟨w, Φ, []⟩ Φ [.blk b2 47 [.int .i64 bL, .int .i64 bH], .blk b1 47 [.int .i64 aL, .int .i64 aH]]) rfl (e_boxA (cs := [.int .i64 bL, .int .i64 bH]) rfl) ?_
  intro b2
  refine RW.eff (fun b3 : Nat => .pointer (some (⟨b3, 0, none⟩))) (fun b3 => St ⟨w, Φ, []⟩ Φ [.blk b3 47 [.int .i64 0, .int .i64 0], .blk b2 47 [.int .i64 bL, .int .i64 bH], .blk b1 47 [.int .i64 aL, .int .i64 aH]]) rfl (e_alloc zero47) ?_
  intro b3
  refine RW.nil ?_
  refine Post.then_n ?_
  refine AW.seq ?_
  refine AW.region ?_
  refine RW.q (v := .pointer (some (⟨b1, 0, none⟩))) rfl (q_fieldAddr rfl Try.underlying47 rfl sz3 rfl) ?_
  refine RW.q (v := .int .i64 aL) rfl (q_load rfl Try.underlying3 rfl (Cell.blk 2 rfl rfl)) ?_
  refine RW.q (v := .pointer (some (⟨b2, 0, none⟩))) rfl (q_fieldAddr rfl Try.underlying47 rfl sz3 rfl) ?_
  refine RW.q (v := .int .i64 bL) rfl (q_load rfl Try.underlying3 rfl (Cell.blk 1 rfl rfl)) ?_
  refine RW.q (v := .int .i64 (min aL bL)) rfl (q_min rfl rfl) ?_
  refine RW.q (v := .pointer (some (⟨b1, 1, none⟩))) rfl (q_fieldAddr rfl Try.underlying47 rfl sz3 rfl) ?_
  refine RW.q (v := .int .i64 aH) rfl (q_load rfl Try.underlying3 rfl (Cell.blk 2 rfl rfl)) ?_
  refine RW.q (v := .pointer (some (⟨b2, 1, none⟩))) rfl (q_fieldAddr rfl Try.underlying47 rfl sz3 rfl) ?_
  refine RW.q (v := .int .i64 bH) rfl (q_load rfl Try.underlying3 rfl (Cell.blk 1 rfl rfl)) ?_
  refine RW.q (v := .int .i64 (max aH bH)) rfl (q_max rfl rfl) ?_
  refine RW.q (v := .agg #[.int .i64 (min aL bL), .int .i64 (max aH bH)]) rfl (q_build (vals := [(0, .int .i64 (min aL bL)), (1, .int .i64 (max aH bH))]) zero47 Try.underlying47 places47 rfl rfl) ?_
  refine RW.effn (J' := St ⟨w, Φ, []⟩ Φ [.blk b3 47 [.int .i64 (min aL bL), .int .i64 (max aH bH)], .blk b2 47 [.int .i64 bL, .int .i64 bH], .blk b1 47 [.int .i64 aL, .int .i64 aH]]) (e_store (v := .agg #[.int .i64 (min aL bL), .int .i64 (max aH bH)]) 0 rfl rfl rfl sz47 rfl rfl rfl rfl rfl) ?_
  refine RW.nil ?_
  refine Post.then_n ?_
  refine AW.ret ?_
  refine fin_cell1 (cs := [.int .i64 (min aL bL), .int .i64 (max aH bH)]) rfl rfl rfl Try.underlying47 rfl sz47 rfl (Cells.blk 0 rfl) (fun w' hw => ?_)
  refine ⟨?_, hw.below rfl⟩
  rfl

set_option maxRecDepth 8000 in
set_option maxHeartbeats 1000000 in
theorem sWithin_c (w : World) (Φ : Hp) (hΦ : Hp.le Φ (hp w)) {aL aH bL bH : Int} :
    Calls Try.prog 20 #[.agg #[.int .i64 aL, .int .i64 aH], .agg #[.int .i64 bL, .int .i64 bH]] w fun e w' => e = .returned (.bool (decide (bL ≤ aL ∧ aH ≤ bH))) ∧ Bel w.heap.size w w' := by
  refine calls_of_AW (args := [.agg #[.int .i64 aL, .int .i64 aH], .agg #[.int .i64 bL, .int .i64 bH]]) Try.func20 rfl (Nat.le_of_ble_eq_true rfl) (St ⟨w, Φ, []⟩ Φ []) (StP.init w Φ hΦ []) ?_
  show AW Try.prog 10 [] _ _ _ [(0, .agg #[.int .i64 aL, .int .i64 aH]), (1, .agg #[.int .i64 bL, .int .i64 bH])] _
  refine AW.seq ?_
  refine AW.region ?_
  refine RW.eff (fun b1 : Nat => .pointer (some (⟨b1, 0, none⟩))) (fun b1 => St ⟨w, Φ, []⟩ Φ [.blk b1 47 [.int .i64 aL, .int .i64 aH]]) rfl (e_boxA (cs := [.int .i64 aL, .int .i64 aH]) rfl) ?_
  intro b1
  refine RW.eff (fun b2 : Nat => .pointer (some (⟨b2, 0, none⟩))) (fun b2 => St ⟨w, Φ, []⟩ Φ [.blk b2 47 [.int .i64 bL, .int .i64 bH], .blk b1 47 [.int .i64 aL, .int .i64 aH]]) rfl (e_boxA (cs := [.int .i64 bL, .int .i64 bH]) rfl) ?_
  intro b2
  refine RW.q (v := .bool false) rfl (q_assign rfl) ?_
  refine RW.nil ?_
  refine Post.then_n ?_
  refine AW.seq ?_
  refine AW.draw (J0 := St ⟨w, Φ, []⟩ Φ [.blk b2 47 [.int .i64 bL, .int .i64 bH], .blk b1 47 [.int .i64 aL, .int .i64 aH]]) [.q, .q, .q, .q, .q, .q] [0, 1, 2, 3, 4, 5] hmix (by kernel_rfl) ?_
  refine DW.q (v := .agg #[.int .i64 aL, .int .i64 aH]) (fun _ h => h) rfl (q_loadAgg rfl Try.underlying47 rfl sz47 rfl (Cells.blk 1 rfl)) ?_
  refine DW.q (v := .agg #[.int .i64 bL, .int .i64 bH]) (fun _ h => h) rfl (q_loadAgg rfl Try.underlying47 rfl sz47 rfl (Cells.blk 0 rfl)) ?_
  refine DW.q (v := .agg #[.int .i64 (min aL bL), .int .i64 (max aH bH)]) (fun _ h => h) rfl (q_call (args := #[.agg #[.int .i64 aL, .int .i64 aH], .agg #[.int .i64 bL, .int .i64 bH]]) own35 rfl rfl (fun w1 hw1 => sJoin_c w1 (Go.K.hp w1) (Hp.le_refl _))) ?_
  refine DW.q (v := .agg #[.int .i64 bL, .int .i64 bH]) (fun _ h => h) rfl (q_loadAgg rfl Try.underlying47 rfl sz47 rfl (Cells.blk 0 rfl)) ?_
  refine DW.q (v := .bool (decide (min aL bL = bL) && decide (max aH bH = bH))) (fun _ h => h) rfl (q_eqlS rfl rfl (eqS47 _ _ _ _) eqG47) ?_
  refine DW.q (v := .bool (decide (min aL bL = bL) && decide (max aH bH = bH))) (fun _ h => h) rfl (q_assign rfl) ?_
  refine DW.nil ?_
  refine Post.then_n ?_
  refine AW.ret ?_
  exact fin_val (v' := .bool (decide (min aL bL = bL) && decide (max aH bH = bH))) rfl rfl rfl (congrArg Value.bool (by rw [← Bool.decide_and]; exact decide_eq_decide.2 (by omega)))

set_option maxRecDepth 8000 in
set_option maxHeartbeats 1000000 in
theorem honest_c (w : World) (Φ : Hp) (hΦ : Hp.le Φ (hp w)) {b : Bt.Basin} {cs : List Value} (hB : RepV Φ b cs) (hl : Se.Lim b) {tr : List Int} {v3x : Value} (h3 : RepSl Φ tr v3x) (ht : Se.TrOk tr) {x : Bt.Notice} (hx : I64 x.Gauge ∧ I64 x.Minute ∧ I64 x.Late ∧ I64 x.More) {n : Int} :
    Calls Try.prog 17 #[.agg cs.toArray, .agg #[.int .i64 x.Gauge, .int .i64 x.Minute, .int .i64 x.Late, .int .i64 x.More], v3x, .int .i64 n] w fun e w' => e = .returned (.tuple #[.agg #[.int .i64 ((Se.honG b tr x n).Gauge), .int .i64 ((Se.honG b tr x n).Seq), .int .i64 ((Se.honG b tr x n).Clock), .int .i64 ((Se.honG b tr x n).Value), .string ((Se.honG b tr x n).Tag)], .bool (Se.honK b tr x)]) ∧ Bel w.heap.size w w' := by
  obtain ⟨v1, v3, v4, v5, v6, v7, v8, v9, hcs, hBw, r1, r3, r4, r5, r6, r7, r8, r9⟩ := (show Rep.rep Φ b cs from hB)
  subst hcs
  have hgm : b.Gauges.length * 48 ≤ 140737488355328 := r6.max
  refine calls_of_AW (args := [.agg #[.string b.Name, v1, .int .i64 b.Cells, v3, v4, v5, v6, v7, v8, v9, .int .i64 b.Err], .agg #[.int .i64 x.Gauge, .int .i64 x.Minute, .int .i64 x.Late, .int .i64 x.More], v3x, .int .i64 n]) Try.func17 rfl (Nat.le_of_ble_eq_true rfl) (St ⟨w, Φ, []⟩ Φ []) (StP.init w Φ hΦ []) ?_
  show AW Try.prog 83 [] _ _ _ [(0, .agg #[.string b.Name, v1, .int .i64 b.Cells, v3, v4, v5, v6, v7, v8, v9, .int .i64 b.Err]), (1, .agg #[.int .i64 x.Gauge, .int .i64 x.Minute, .int .i64 x.Late, .int .i64 x.More]), (2, v3x), (3, .int .i64 n)] _
  have htl := ht.len
  have hX := hx
  unfold I64 at hX
  refine AW.seq ?_
  refine AW.region ?_
  refine RW.eff (fun b1 : Nat => .pointer (some (⟨b1, 0, none⟩))) (fun b1 => St ⟨w, Φ, []⟩ Φ [.blk b1 41 [.string b.Name, v1, .int .i64 b.Cells, v3, v4, v5, v6, v7, v8, v9, .int .i64 b.Err]]) rfl (e_boxA (cs := [.string b.Name, v1, .int .i64 b.Cells, v3, v4, v5, v6, v7, v8, v9, .int .i64 b.Err]) rfl) ?_
  intro b1
  refine RW.eff (fun b2 : Nat => .pointer (some (⟨b2, 0, none⟩))) (fun b2 => St ⟨w, Φ, []⟩ Φ [.blk b2 57 [.int .i64 x.Gauge, .int .i64 x.Minute, .int .i64 x.Late, .int .i64 x.More], .blk b1 41 [.string b.Name, v1, .int .i64 b.Cells, v3, v4, v5, v6, v7, v8, v9, .int .i64 b.Err]]) rfl (e_boxA (cs := [.int .i64 x.Gauge, .int .i64 x.Minute, .int .i64 x.Late, .int .i64 x.More]) rfl) ?_
  intro b2
  refine RW.eff (fun b3 : Nat => .pointer (some (⟨b3, 0, none⟩))) (fun b3 => St ⟨w, Φ, []⟩ Φ [.blk b3 29 [.int .i64 0, .int .i64 0, .int .i64 0, .int .i64 0, .string (bs ([]))], .blk b2 57 [.int .i64 x.Gauge, .int .i64 x.Minute, .int .i64 x.Late, .int .i64 x.More], .blk b1 41 [.string b.Name, v1, .int .i64 b.Cells, v3, v4, v5, v6, v7, v8, v9, .int .i64 b.Err]]) rfl (e_alloc zero29) ?_
  intro b3
  refine RW.q (v := .bool false) rfl (q_assign rfl) ?_
  refine RW.nil ?_
  refine Post.then_n ?_
  refine AW.seq ?_
  refine AW.seq ?_
  refine AW.region ?_
  refine RW.q (v := .pointer (some (⟨b2, 0, none⟩))) rfl (q_fieldAddr rfl Try.underlying57 rfl sz3 rfl) ?_
  refine RW.q (v := .int .i64 x.Gauge) rfl (q_load rfl Try.underlying3 rfl (Cell.blk 1 rfl rfl)) ?_
  refine RW.q (v := .bool (decide (x.Gauge < 0))) rfl (q_lss rfl rfl) ?_
  refine RW.q (v := .bool (decide (x.Gauge < 0))) rfl (q_move rfl) ?_
  refine RW.g (b := (decide (x.Gauge < 0))) (v := .pointer (some (⟨b2, 0, none⟩))) rfl rfl rfl (fun h => q_fieldAddr rfl Try.underlying57 rfl sz3 rfl) ?_
  refine RW.g (b := (decide (x.Gauge < 0))) (v := .int .i64 x.Gauge) rfl rfl rfl (fun h => q_load (gv_pos h) Try.underlying3 rfl (Cell.blk 1 rfl rfl)) ?_
  refine RW.g (b := (decide (x.Gauge < 0))) (v := .pointer (some (⟨b1, 6, none⟩))) rfl rfl rfl (fun h => q_fieldAddr rfl Try.underlying41 rfl sz36 rfl) ?_
  refine RW.g (b := (decide (x.Gauge < 0))) (v := v6) rfl rfl rfl (fun h => q_load (gv_pos h) Try.underlying36 rfl (Cell.blk 2 rfl rfl)) ?_
  refine RW.g (b := (decide (x.Gauge < 0))) (v := .int .i64 ((b.Gauges.length : Nat) : Int)) rfl rfl rfl (fun h => q_len_sl (gv_pos h) r6.sl Try.underlying36) ?_
  refine RW.g (b := (decide (x.Gauge < 0))) (v := .bool (decide (((b.Gauges.length : Nat) : Int) ≤ x.Gauge))) rfl rfl rfl (fun h => q_geq (gv_pos h) (gv_pos h)) ?_
  refine RW.q (v := .bool ((decide (x.Gauge < 0)) || (decide (((b.Gauges.length : Nat) : Int) ≤ x.Gauge)))) rfl (q_pick rfl (fun hp => pkOrT hp) (fun hp => (gv_pos hp).trans (pkOrF hp))) ?_
  refine RW.q (v := .bool ((decide (x.Gauge < 0)) || (decide (((b.Gauges.length : Nat) : Int) ≤ x.Gauge)))) rfl (q_move rfl) ?_
  refine RW.g (b := ((decide (x.Gauge < 0)) || (decide (((b.Gauges.length : Nat) : Int) ≤ x.Gauge)))) (v := .pointer (some (⟨b2, 1, none⟩))) rfl rfl rfl (fun h => q_fieldAddr rfl Try.underlying57 rfl sz3 rfl) ?_
  refine RW.g (b := ((decide (x.Gauge < 0)) || (decide (((b.Gauges.length : Nat) : Int) ≤ x.Gauge)))) (v := .int .i64 x.Minute) rfl rfl rfl (fun h => q_load (gv_pos h) Try.underlying3 rfl (Cell.blk 1 rfl rfl)) ?_
  refine RW.g (b := ((decide (x.Gauge < 0)) || (decide (((b.Gauges.length : Nat) : Int) ≤ x.Gauge)))) (v := .bool (decide (x.Minute < 0))) rfl rfl rfl (fun h => q_lss (gv_pos h) rfl) ?_
  refine RW.q (v := .bool (((decide (x.Gauge < 0)) || (decide (((b.Gauges.length : Nat) : Int) ≤ x.Gauge))) || (decide (x.Minute < 0)))) rfl (q_pick rfl (fun hp => pkOrT hp) (fun hp => (gv_pos hp).trans (pkOrF hp))) ?_
  refine RW.q (v := .bool (((decide (x.Gauge < 0)) || (decide (((b.Gauges.length : Nat) : Int) ≤ x.Gauge))) || (decide (x.Minute < 0)))) rfl (q_move rfl) ?_
  refine RW.g (b := (((decide (x.Gauge < 0)) || (decide (((b.Gauges.length : Nat) : Int) ≤ x.Gauge))) || (decide (x.Minute < 0)))) (v := .pointer (some (⟨b2, 1, none⟩))) rfl rfl rfl (fun h => q_fieldAddr rfl Try.underlying57 rfl sz3 rfl) ?_
  refine RW.g (b := (((decide (x.Gauge < 0)) || (decide (((b.Gauges.length : Nat) : Int) ≤ x.Gauge))) || (decide (x.Minute < 0)))) (v := .int .i64 x.Minute) rfl rfl rfl (fun h => q_load (gv_pos h) Try.underlying3 rfl (Cell.blk 1 rfl rfl)) ?_
  refine RW.g (b := (((decide (x.Gauge < 0)) || (decide (((b.Gauges.length : Nat) : Int) ≤ x.Gauge))) || (decide (x.Minute < 0)))) (v := v3x) rfl rfl rfl (fun h => q_move rfl) ?_
  refine RW.g (b := (((decide (x.Gauge < 0)) || (decide (((b.Gauges.length : Nat) : Int) ≤ x.Gauge))) || (decide (x.Minute < 0)))) (v := .int .i64 ((tr.length : Nat) : Int)) rfl rfl rfl (fun h => q_len_sl (gv_pos h) h3.sl Try.underlying39) ?_
  refine RW.g (b := (((decide (x.Gauge < 0)) || (decide (((b.Gauges.length : Nat) : Int) ≤ x.Gauge))) || (decide (x.Minute < 0)))) (v := .int .i64 (60 * ((tr.length : Nat) : Int))) rfl rfl rfl (fun h => q_mul rfl (gv_pos h) rfl (by (try simp [-List.getD_eq_getElem?_getD] at h); unfold I64; omega)) ?_
  refine RW.g (b := (((decide (x.Gauge < 0)) || (decide (((b.Gauges.length : Nat) : Int) ≤ x.Gauge))) || (decide (x.Minute < 0)))) (v := .bool (decide (60 * ((tr.length : Nat) : Int) ≤ x.Minute))) rfl rfl rfl (fun h => q_geq (gv_pos h) (gv_pos h)) ?_
  refine RW.q (v := .bool ((((decide (x.Gauge < 0)) || (decide (((b.Gauges.length : Nat) : Int) ≤ x.Gauge))) || (decide (x.Minute < 0))) || (decide (60 * ((tr.length : Nat) : Int) ≤ x.Minute)))) rfl (q_pick rfl (fun hp => pkOrT hp) (fun hp => (gv_pos hp).trans (pkOrF hp))) ?_
  refine RW.nil ?_
  refine Post.then_n ?_
  refine AW.cond (b := (((decide (x.Gauge < 0)) || (decide (((b.Gauges.length : Nat) : Int) ≤ x.Gauge))) || (decide (x.Minute < 0))) || (decide (60 * ((tr.length : Nat) : Int) ≤ x.Minute))) rfl (fun hc1 => ?_) (fun hc1 => ?_)
  · simp [-List.getD_eq_getElem?_getD] at hc1
    refine AW.seq ?_
    refine AW.region ?_
    refine RW.q (v := .agg #[.int .i64 0, .int .i64 0, .int .i64 0, .int .i64 0, .string (bs ([]))]) rfl (q_build (vals := []) zero29 Try.underlying29 places29 rfl rfl) ?_
    refine RW.effn (J' := St ⟨w, Φ, []⟩ Φ [.blk b3 29 [.int .i64 0, .int .i64 0, .int .i64 0, .int .i64 0, .string (bs ([]))], .blk b2 57 [.int .i64 x.Gauge, .int .i64 x.Minute, .int .i64 x.Late, .int .i64 x.More], .blk b1 41 [.string b.Name, v1, .int .i64 b.Cells, v3, v4, v5, v6, v7, v8, v9, .int .i64 b.Err]]) (e_store (v := .agg #[.int .i64 0, .int .i64 0, .int .i64 0, .int .i64 0, .string (bs ([]))]) 0 rfl rfl rfl sz29 rfl rfl rfl rfl rfl) ?_
    refine RW.q (v := .bool false) rfl (q_assign rfl) ?_
    refine RW.nil ?_
    refine Post.then_n ?_
    refine AW.ret ?_
    refine Post.then_r ?_
    refine fin_cell2 (cs := [.int .i64 0, .int .i64 0, .int .i64 0, .int .i64 0, .string (bs ([]))]) (v := .bool false) rfl rfl rfl rfl Try.underlying29 rfl sz29 rfl (Cells.blk 0 rfl) (fun w' hw => ?_)
    refine ⟨?_, hw.below rfl⟩
    have hno : ¬ Se.HonIn b tr x := by unfold Se.HonIn; omega
    rw [Se.honG_out hno, show Se.honK b tr x = false from by unfold Se.honK; rw [decide_eq_false hno]; rfl]
    try rfl
  · simp [-List.getD_eq_getElem?_getD] at hc1
    refine AW.skip ?_
    refine Post.then_n ?_
    refine AW.seq ?_
    have hin : Se.HonIn b tr x := by unfold Se.HonIn; omega
    have hg : 0 ≤ (b.Gauges.getD x.Gauge.toNat default).Err ∧ (b.Gauges.getD x.Gauge.toNat default).Err ≤ 1073741824 ∧ 0 ≤ (b.Gauges.getD x.Gauge.toNat default).Drift ∧ (b.Gauges.getD x.Gauge.toNat default).Drift ≤ 1440 := hl.1 x.Gauge.toNat (by omega)
    have htv := ht.rng (x.Minute / 60).toNat (by omega)
    refine AW.region ?_
    refine RW.q (v := .pointer (some (⟨b1, 6, none⟩))) rfl (q_fieldAddr rfl Try.underlying41 rfl sz36 rfl) ?_
    refine RW.q (v := v6) rfl (q_load rfl Try.underlying36 rfl (Cell.blk 2 rfl rfl)) ?_
    refine RW.q (v := .pointer (some (⟨b2, 0, none⟩))) rfl (q_fieldAddr rfl Try.underlying57 rfl sz3 rfl) ?_
    refine RW.q (v := .int .i64 x.Gauge) rfl (q_load rfl Try.underlying3 rfl (Cell.blk 1 rfl rfl)) ?_
    refine RW.q (v := .pointer (some (Value.at v6 (x.Gauge.toNat * 5)))) rfl (q_indexAddr rfl rfl r6.sl Try.underlying36 sz63 (by omega) (by omega) rfl) ?_
    refine RW.q (v := .agg #[.string ((b.Gauges.getD x.Gauge.toNat default).Name), .int .i64 ((b.Gauges.getD x.Gauge.toNat default).Kind), .int .i64 ((b.Gauges.getD x.Gauge.toNat default).Target), .int .i64 ((b.Gauges.getD x.Gauge.toNat default).Err), .int .i64 ((b.Gauges.getD x.Gauge.toNat default).Drift)]) rfl (q_loadAgg rfl Try.underlying63 rfl sz63 rfl (Cells.repE r6 (by omega) rfl)) ?_
    refine RW.eff (fun b4 : Nat => .pointer (some (⟨b4, 0, none⟩))) (fun b4 => St ⟨w, Φ, []⟩ Φ [.blk b4 63 [.string (bs ([])), .int .i64 0, .int .i64 0, .int .i64 0, .int .i64 0], .blk b3 29 [.int .i64 0, .int .i64 0, .int .i64 0, .int .i64 0, .string (bs ([]))], .blk b2 57 [.int .i64 x.Gauge, .int .i64 x.Minute, .int .i64 x.Late, .int .i64 x.More], .blk b1 41 [.string b.Name, v1, .int .i64 b.Cells, v3, v4, v5, v6, v7, v8, v9, .int .i64 b.Err]]) rfl (e_alloc zero63) ?_
    intro b4
    refine RW.effn (J' := St ⟨w, Φ, []⟩ Φ [.blk b4 63 [.string ((b.Gauges.getD x.Gauge.toNat default).Name), .int .i64 ((b.Gauges.getD x.Gauge.toNat default).Kind), .int .i64 ((b.Gauges.getD x.Gauge.toNat default).Target), .int .i64 ((b.Gauges.getD x.Gauge.toNat default).Err), .int .i64 ((b.Gauges.getD x.Gauge.toNat default).Drift)], .blk b3 29 [.int .i64 0, .int .i64 0, .int .i64 0, .int .i64 0, .string (bs ([]))], .blk b2 57 [.int .i64 x.Gauge, .int .i64 x.Minute, .int .i64 x.Late, .int .i64 x.More], .blk b1 41 [.string b.Name, v1, .int .i64 b.Cells, v3, v4, v5, v6, v7, v8, v9, .int .i64 b.Err]]) (e_store (v := .agg #[.string ((b.Gauges.getD x.Gauge.toNat default).Name), .int .i64 ((b.Gauges.getD x.Gauge.toNat default).Kind), .int .i64 ((b.Gauges.getD x.Gauge.toNat default).Target), .int .i64 ((b.Gauges.getD x.Gauge.toNat default).Err), .int .i64 ((b.Gauges.getD x.Gauge.toNat default).Drift)]) 0 rfl rfl rfl sz63 rfl rfl rfl rfl rfl) ?_
    refine RW.nil ?_
    refine Post.then_n ?_
    refine AW.seq ?_
    refine AW.region ?_
    refine RW.q (v := .pointer (some (⟨b4, 4, none⟩))) rfl (q_fieldAddr rfl Try.underlying63 rfl sz3 rfl) ?_
    refine RW.q (v := .int .i64 ((b.Gauges.getD x.Gauge.toNat default).Drift)) rfl (q_load rfl Try.underlying3 rfl (Cell.blk 0 rfl rfl)) ?_
    refine RW.q (v := .int .i64 (-((b.Gauges.getD x.Gauge.toNat default).Drift))) rfl (q_neg rfl rfl (by unfold I64; omega)) ?_
    refine RW.q (v := .pointer (some (⟨b2, 2, none⟩))) rfl (q_fieldAddr rfl Try.underlying57 rfl sz3 rfl) ?_
    refine RW.q (v := .int .i64 x.Late) rfl (q_load rfl Try.underlying3 rfl (Cell.blk 2 rfl rfl)) ?_
    refine RW.q (v := .pointer (some (⟨b4, 4, none⟩))) rfl (q_fieldAddr rfl Try.underlying63 rfl sz3 rfl) ?_
    refine RW.q (v := .int .i64 ((b.Gauges.getD x.Gauge.toNat default).Drift)) rfl (q_load rfl Try.underlying3 rfl (Cell.blk 0 rfl rfl)) ?_
    refine RW.q (v := .int .i64 (min x.Late ((b.Gauges.getD x.Gauge.toNat default).Drift))) rfl (q_min rfl rfl) ?_
    refine RW.q (v := .int .i64 (max (-((b.Gauges.getD x.Gauge.toNat default).Drift)) (min x.Late ((b.Gauges.getD x.Gauge.toNat default).Drift)))) rfl (q_max rfl rfl) ?_
    refine RW.q (v := .int .i64 (max (-((b.Gauges.getD x.Gauge.toNat default).Drift)) (min x.Late ((b.Gauges.getD x.Gauge.toNat default).Drift)))) rfl (q_assign rfl) ?_
    refine RW.nil ?_
    refine Post.then_n ?_
    refine AW.seq ?_
    refine AW.region ?_
    refine RW.q (v := .pointer (some (⟨b4, 3, none⟩))) rfl (q_fieldAddr rfl Try.underlying63 rfl sz3 rfl) ?_
    refine RW.q (v := .int .i64 ((b.Gauges.getD x.Gauge.toNat default).Err)) rfl (q_load rfl Try.underlying3 rfl (Cell.blk 0 rfl rfl)) ?_
    refine RW.q (v := .int .i64 (-((b.Gauges.getD x.Gauge.toNat default).Err))) rfl (q_neg rfl rfl (by unfold I64; omega)) ?_
    refine RW.q (v := .pointer (some (⟨b2, 3, none⟩))) rfl (q_fieldAddr rfl Try.underlying57 rfl sz3 rfl) ?_
    refine RW.q (v := .int .i64 x.More) rfl (q_load rfl Try.underlying3 rfl (Cell.blk 2 rfl rfl)) ?_
    refine RW.q (v := .pointer (some (⟨b4, 3, none⟩))) rfl (q_fieldAddr rfl Try.underlying63 rfl sz3 rfl) ?_
    refine RW.q (v := .int .i64 ((b.Gauges.getD x.Gauge.toNat default).Err)) rfl (q_load rfl Try.underlying3 rfl (Cell.blk 0 rfl rfl)) ?_
    refine RW.q (v := .int .i64 (min x.More ((b.Gauges.getD x.Gauge.toNat default).Err))) rfl (q_min rfl rfl) ?_
    refine RW.q (v := .int .i64 (max (-((b.Gauges.getD x.Gauge.toNat default).Err)) (min x.More ((b.Gauges.getD x.Gauge.toNat default).Err)))) rfl (q_max rfl rfl) ?_
    refine RW.q (v := .int .i64 (max (-((b.Gauges.getD x.Gauge.toNat default).Err)) (min x.More ((b.Gauges.getD x.Gauge.toNat default).Err)))) rfl (q_assign rfl) ?_
    refine RW.nil ?_
    refine Post.then_n ?_
    refine AW.seq ?_
    have hB_0 := hB
    have r6_0 := r6
    have h3_0 := h3
    refine AW.draw (J0 := St ⟨w, Φ, []⟩ Φ [.blk b4 63 [.string ((b.Gauges.getD x.Gauge.toNat default).Name), .int .i64 ((b.Gauges.getD x.Gauge.toNat default).Kind), .int .i64 ((b.Gauges.getD x.Gauge.toNat default).Target), .int .i64 ((b.Gauges.getD x.Gauge.toNat default).Err), .int .i64 ((b.Gauges.getD x.Gauge.toNat default).Drift)], .blk b2 57 [.int .i64 x.Gauge, .int .i64 x.Minute, .int .i64 x.Late, .int .i64 x.More], .blk b1 41 [.string b.Name, v1, .int .i64 b.Cells, v3, v4, v5, v6, v7, v8, v9, .int .i64 b.Err]]) [.q, .q, .q, .q, .q, .q, .q, .q, .q, .q, .q, .q, .q, .q, .q, .q, .q, .q, .q, .q, .q, .e, .q] [0, 1, 2, 3, 4, 5, 6, 7, 8, 9, 10, 11, 12, 13, 14, 15, 16, 17, 18, 19, 20, 21, 22] hmix (by kernel_rfl) ?_
    refine DW.q (v := .pointer (some (⟨b2, 0, none⟩))) (fun _ h => (StP.drop h (by exact .cons_cons _ (.cons _ (.cons_cons _ (.cons_cons _ (.slnil))))))) rfl (q_fieldAddr rfl Try.underlying57 rfl sz3 rfl) ?_
    refine DW.q (v := .int .i64 x.Gauge) (fun _ h => (StP.drop h (by exact .cons_cons _ (.cons _ (.cons_cons _ (.cons_cons _ (.slnil))))))) rfl (q_load rfl Try.underlying3 rfl (Cell.blk 1 rfl rfl)) ?_
    refine DW.q (v := .int .i64 n) (fun _ h => (StP.drop h (by exact .cons_cons _ (.cons _ (.cons_cons _ (.cons_cons _ (.slnil))))))) rfl (q_move rfl) ?_
    refine DW.q (v := .pointer (some (⟨b2, 1, none⟩))) (fun _ h => (StP.drop h (by exact .cons_cons _ (.cons _ (.cons_cons _ (.cons_cons _ (.slnil))))))) rfl (q_fieldAddr rfl Try.underlying57 rfl sz3 rfl) ?_
    refine DW.q (v := .int .i64 x.Minute) (fun _ h => (StP.drop h (by exact .cons_cons _ (.cons _ (.cons_cons _ (.cons_cons _ (.slnil))))))) rfl (q_load rfl Try.underlying3 rfl (Cell.blk 1 rfl rfl)) ?_
    refine DW.q (v := .int .i64 (max (-((b.Gauges.getD x.Gauge.toNat default).Drift)) (min x.Late ((b.Gauges.getD x.Gauge.toNat default).Drift)))) (fun _ h => (StP.drop h (by exact .cons_cons _ (.cons _ (.cons_cons _ (.cons_cons _ (.slnil))))))) rfl (q_move rfl) ?_
    refine DW.q (v := .int .i64 (x.Minute + (max (-((b.Gauges.getD x.Gauge.toNat default).Drift)) (min x.Late ((b.Gauges.getD x.Gauge.toNat default).Drift))))) (fun _ h => (StP.drop h (by exact .cons_cons _ (.cons _ (.cons_cons _ (.cons_cons _ (.slnil))))))) rfl (q_add rfl rfl (by omega) (by unfold I64; omega)) ?_
    refine DW.q (v := v3x) (fun _ h => (StP.drop h (by exact .cons_cons _ (.cons _ (.cons_cons _ (.cons_cons _ (.slnil))))))) rfl (q_move rfl) ?_
    refine DW.q (v := .pointer (some (⟨b2, 1, none⟩))) (fun _ h => (StP.drop h (by exact .cons_cons _ (.cons _ (.cons_cons _ (.cons_cons _ (.slnil))))))) rfl (q_fieldAddr rfl Try.underlying57 rfl sz3 rfl) ?_
    refine DW.q (v := .int .i64 x.Minute) (fun _ h => (StP.drop h (by exact .cons_cons _ (.cons _ (.cons_cons _ (.cons_cons _ (.slnil))))))) rfl (q_load rfl Try.underlying3 rfl (Cell.blk 1 rfl rfl)) ?_
    refine DW.q (v := .int .i64 (x.Minute / 60)) (fun _ h => (StP.drop h (by exact .cons_cons _ (.cons _ (.cons_cons _ (.cons_cons _ (.slnil))))))) rfl (q_quo rfl rfl (by omega) (Int.tdiv_eq_ediv_of_nonneg (by omega)) (by unfold I64; omega)) ?_
    refine DW.q (v := .pointer (some (Value.at v3x (((x.Minute / 60).toNat) * 1)))) (fun _ h => (StP.drop h (by exact .cons_cons _ (.cons _ (.cons_cons _ (.cons_cons _ (.slnil))))))) rfl (q_indexAddr rfl rfl h3.sl Try.underlying39 sz3 (by omega) (by omega) rfl) ?_
    refine DW.q (v := .int .i64 (tr.getD ((x.Minute / 60).toNat) 0)) (fun _ h => (StP.drop h (by exact .cons_cons _ (.cons _ (.cons_cons _ (.cons_cons _ (.slnil))))))) rfl (q_load rfl Try.underlying3 rfl (Cell.repInt h3 (by omega))) ?_
    refine DW.q (v := .int .i64 (max (-((b.Gauges.getD x.Gauge.toNat default).Err)) (min x.More ((b.Gauges.getD x.Gauge.toNat default).Err)))) (fun _ h => (StP.drop h (by exact .cons_cons _ (.cons _ (.cons_cons _ (.cons_cons _ (.slnil))))))) rfl (q_move rfl) ?_
    refine DW.q (v := .int .i64 ((tr.getD ((x.Minute / 60).toNat) 0) + (max (-((b.Gauges.getD x.Gauge.toNat default).Err)) (min x.More ((b.Gauges.getD x.Gauge.toNat default).Err))))) (fun _ h => (StP.drop h (by exact .cons_cons _ (.cons _ (.cons_cons _ (.cons_cons _ (.slnil))))))) rfl (q_add rfl rfl (by omega) (by unfold I64; omega)) ?_
    refine DW.q (v := .agg #[.int .i64 x.Gauge, .int .i64 n, .int .i64 (x.Minute + (max (-((b.Gauges.getD x.Gauge.toNat default).Drift)) (min x.Late ((b.Gauges.getD x.Gauge.toNat default).Drift)))), .int .i64 ((tr.getD ((x.Minute / 60).toNat) 0) + (max (-((b.Gauges.getD x.Gauge.toNat default).Err)) (min x.More ((b.Gauges.getD x.Gauge.toNat default).Err)))), .string (bs ([49, 50, 51, 52, 53, 54, 55, 56] : List UInt8))]) (fun _ h => (StP.drop h (by exact .cons_cons _ (.cons _ (.cons_cons _ (.cons_cons _ (.slnil))))))) rfl (q_build (vals := [(0, .int .i64 x.Gauge), (1, .int .i64 n), (2, .int .i64 (x.Minute + (max (-((b.Gauges.getD x.Gauge.toNat default).Drift)) (min x.Late ((b.Gauges.getD x.Gauge.toNat default).Drift))))), (3, .int .i64 ((tr.getD ((x.Minute / 60).toNat) 0) + (max (-((b.Gauges.getD x.Gauge.toNat default).Err)) (min x.More ((b.Gauges.getD x.Gauge.toNat default).Err))))), (4, .string (bs ([49, 50, 51, 52, 53, 54, 55, 56] : List UInt8)))]) zero29 Try.underlying29 places29 rfl rfl) ?_
    refine DW.q (v := .pointer (some (⟨b2, 1, none⟩))) (fun _ h => (StP.drop h (by exact .cons_cons _ (.cons _ (.cons_cons _ (.cons_cons _ (.slnil))))))) rfl (q_fieldAddr rfl Try.underlying57 rfl sz3 rfl) ?_
    refine DW.q (v := .int .i64 x.Minute) (fun _ h => (StP.drop h (by exact .cons_cons _ (.cons _ (.cons_cons _ (.cons_cons _ (.slnil))))))) rfl (q_load rfl Try.underlying3 rfl (Cell.blk 1 rfl rfl)) ?_
    refine DW.q (v := .int .i64 (max (-((b.Gauges.getD x.Gauge.toNat default).Drift)) (min x.Late ((b.Gauges.getD x.Gauge.toNat default).Drift)))) (fun _ h => (StP.drop h (by exact .cons_cons _ (.cons _ (.cons_cons _ (.cons_cons _ (.slnil))))))) rfl (q_move rfl) ?_
    refine DW.q (v := .int .i64 (x.Minute + (max (-((b.Gauges.getD x.Gauge.toNat default).Drift)) (min x.Late ((b.Gauges.getD x.Gauge.toNat default).Drift))))) (fun _ h => (StP.drop h (by exact .cons_cons _ (.cons _ (.cons_cons _ (.cons_cons _ (.slnil))))))) rfl (q_add rfl rfl (by omega) (by unfold I64; omega)) ?_
    refine DW.q (v := .bool (decide ((0 : Int) ≤ x.Minute + (max (-((b.Gauges.getD x.Gauge.toNat default).Drift)) (min x.Late ((b.Gauges.getD x.Gauge.toNat default).Drift)))))) (fun _ h => (StP.drop h (by exact .cons_cons _ (.cons _ (.cons_cons _ (.cons_cons _ (.slnil))))))) rfl (q_geq rfl rfl) ?_
    refine DW.effn (J' := St ⟨w, Φ, []⟩ Φ [.blk b4 63 [.string ((b.Gauges.getD x.Gauge.toNat default).Name), .int .i64 ((b.Gauges.getD x.Gauge.toNat default).Kind), .int .i64 ((b.Gauges.getD x.Gauge.toNat default).Target), .int .i64 ((b.Gauges.getD x.Gauge.toNat default).Err), .int .i64 ((b.Gauges.getD x.Gauge.toNat default).Drift)], .blk b3 29 [.int .i64 x.Gauge, .int .i64 n, .int .i64 (x.Minute + (max (-((b.Gauges.getD x.Gauge.toNat default).Drift)) (min x.Late ((b.Gauges.getD x.Gauge.toNat default).Drift)))), .int .i64 ((tr.getD ((x.Minute / 60).toNat) 0) + (max (-((b.Gauges.getD x.Gauge.toNat default).Err)) (min x.More ((b.Gauges.getD x.Gauge.toNat default).Err)))), .string (bs ([49, 50, 51, 52, 53, 54, 55, 56] : List UInt8))], .blk b2 57 [.int .i64 x.Gauge, .int .i64 x.Minute, .int .i64 x.Late, .int .i64 x.More], .blk b1 41 [.string b.Name, v1, .int .i64 b.Cells, v3, v4, v5, v6, v7, v8, v9, .int .i64 b.Err]]) (fun _ => (fun _ h => (StP.drop h (by exact .cons_cons _ (.cons _ (.cons_cons _ (.cons_cons _ (.slnil)))))))) (e_store (v := .agg #[.int .i64 x.Gauge, .int .i64 n, .int .i64 (x.Minute + (max (-((b.Gauges.getD x.Gauge.toNat default).Drift)) (min x.Late ((b.Gauges.getD x.Gauge.toNat default).Drift)))), .int .i64 ((tr.getD ((x.Minute / 60).toNat) 0) + (max (-((b.Gauges.getD x.Gauge.toNat default).Err)) (min x.More ((b.Gauges.getD x.Gauge.toNat default).Err)))), .string (bs ([49, 50, 51, 52, 53, 54, 55, 56] : List UInt8))]) 1 rfl rfl rfl sz29 rfl rfl rfl rfl rfl) ?_
    refine DW.q (v := .bool (decide ((0 : Int) ≤ x.Minute + (max (-((b.Gauges.getD x.Gauge.toNat default).Drift)) (min x.Late ((b.Gauges.getD x.Gauge.toNat default).Drift)))))) (fun _ h => (StP.drop h (by exact .cons_cons _ (.cons _ (.cons_cons _ (.cons_cons _ (.slnil))))))) rfl (q_assign rfl) ?_
    refine DW.nil ?_
    refine Post.then_n ?_
    refine AW.ret ?_
    refine fin_cell2 (cs := [.int .i64 x.Gauge, .int .i64 n, .int .i64 (x.Minute + (max (-((b.Gauges.getD x.Gauge.toNat default).Drift)) (min x.Late ((b.Gauges.getD x.Gauge.toNat default).Drift)))), .int .i64 ((tr.getD ((x.Minute / 60).toNat) 0) + (max (-((b.Gauges.getD x.Gauge.toNat default).Err)) (min x.More ((b.Gauges.getD x.Gauge.toNat default).Err)))), .string (bs ([49, 50, 51, 52, 53, 54, 55, 56] : List UInt8))]) (v := .bool (decide ((0 : Int) ≤ x.Minute + (max (-((b.Gauges.getD x.Gauge.toNat default).Drift)) (min x.Late ((b.Gauges.getD x.Gauge.toNat default).Drift)))))) rfl rfl rfl rfl Try.underlying29 rfl sz29 rfl (Cells.blk 1 rfl) (fun w' hw => ?_)
    refine ⟨?_, hw.below rfl⟩
    rw [Se.honG_in hin, show Se.honK b tr x = decide (0 ≤ x.Minute + Se.lateN b x) from by unfold Se.honK; rw [decide_eq_true hin]; rfl]
    try rfl

end Go.Proofs.Ytlljbndnodbecaa
