/- Walks (part WalkB), printed by walk2.py. Conditions: those of each theorem. -/
import Derived.Test.YtlljbndnodbecaaWalkA
import Derived.Test.YtlljbndnodbecaaPlainD
namespace Go.Proofs.Ytlljbndnodbecaa
open Go Go.K Go.RowKit

set_option maxRecDepth 8000 in
set_option maxHeartbeats 1000000 in
theorem Add_c (w : World) (Φ : Hp) (hΦ : Hp.le Φ (hp w)) {x y : Int} (hx : I64 x) (hy : I64 y) :
    Calls Try.prog 29 #[.int .i64 x, .int .i64 y] w fun e w' => e = .returned (.int .i64 (Se.addS x y)) ∧ Bel w.heap.size w w' := by
  refine calls_of_AW (args := [.int .i64 x, .int .i64 y]) Try.func29 rfl (Nat.le_of_ble_eq_true rfl) (St ⟨w, Φ, []⟩ Φ []) (StP.init w Φ hΦ []) ?_
  show AW Try.prog 24 [] _ _ _ [(0, .int .i64 x), (1, .int .i64 y)] _
  unfold I64 at hx hy
  refine AW.seq ?_
  refine AW.region ?_
  refine RW.q (v := .int .i64 0) rfl (q_assign rfl) ?_
  refine RW.nil ?_
  refine Post.then_n ?_
  refine AW.seq ?_
  refine AW.seq ?_
  refine AW.region ?_
  refine RW.q (v := .int .i64 y) rfl (q_move rfl) ?_
  refine RW.q (v := .bool (decide ((0 : Int) < y))) rfl (q_gtr rfl rfl) ?_
  refine RW.q (v := .bool (decide ((0 : Int) < y))) rfl (q_move rfl) ?_
  refine RW.g (b := (decide ((0 : Int) < y))) (v := .int .i64 x) rfl rfl rfl (fun h => q_move rfl) ?_
  refine RW.g (b := (decide ((0 : Int) < y))) (v := .int .i64 y) rfl rfl rfl (fun h => q_move rfl) ?_
  refine RW.g (b := (decide ((0 : Int) < y))) (v := .int .i64 (9223372036854775807 - y)) rfl rfl rfl (fun h => q_sub rfl (gv_pos h) (by (try simp [-List.getD_eq_getElem?_getD] at h); omega) (by (try simp [-List.getD_eq_getElem?_getD] at h); unfold I64; omega)) ?_
  refine RW.g (b := (decide ((0 : Int) < y))) (v := .bool (decide (9223372036854775807 - y < x))) rfl rfl rfl (fun h => q_gtr (gv_pos h) (gv_pos h)) ?_
  refine RW.q (v := .bool ((decide ((0 : Int) < y)) && (decide (9223372036854775807 - y < x)))) rfl (q_pick rfl (fun hp => (gv_pos hp).trans (pkAndT hp)) (fun hp => pkAndF hp)) ?_
  refine RW.nil ?_
  refine Post.then_n ?_
  refine AW.cond (b := (decide ((0 : Int) < y)) && (decide (9223372036854775807 - y < x))) rfl (fun hc1 => ?_) (fun hc1 => ?_)
  · simp [-List.getD_eq_getElem?_getD] at hc1
    refine AW.seq ?_
    refine AW.region ?_
    refine RW.q (v := .int .i64 9223372036854775807) rfl (q_assign rfl) ?_
    refine RW.nil ?_
    refine Post.then_n ?_
    refine AW.ret ?_
    refine Post.then_r ?_
    exact fin_val (v' := .int .i64 9223372036854775807) rfl rfl rfl (by unfold Se.addS; rw [if_pos (by omega)])
  · simp [-List.getD_eq_getElem?_getD] at hc1
    refine AW.skip ?_
    refine Post.then_n ?_
    refine AW.seq ?_
    refine AW.seq ?_
    refine AW.region ?_
    refine RW.q (v := .int .i64 y) rfl (q_move rfl) ?_
    refine RW.q (v := .bool (decide (y < 0))) rfl (q_lss rfl rfl) ?_
    refine RW.q (v := .bool (decide (y < 0))) rfl (q_move rfl) ?_
    refine RW.g (b := (decide (y < 0))) (v := .int .i64 x) rfl rfl rfl (fun h => q_move rfl) ?_
    refine RW.g (b := (decide (y < 0))) (v := .int .i64 y) rfl rfl rfl (fun h => q_move rfl) ?_
    refine RW.g (b := (decide (y < 0))) (v := .int .i64 ((-9223372036854775808) - y)) rfl rfl rfl (fun h => q_sub rfl (gv_pos h) (by (try simp [-List.getD_eq_getElem?_getD] at h); omega) (by (try simp [-List.getD_eq_getElem?_getD] at h); unfold I64; omega)) ?_
    refine RW.g (b := (decide (y < 0))) (v := .bool (decide (x < (-9223372036854775808) - y))) rfl rfl rfl (fun h => q_lss (gv_pos h) (gv_pos h)) ?_
    refine RW.q (v := .bool ((decide (y < 0)) && (decide (x < (-9223372036854775808) - y)))) rfl (q_pick rfl (fun hp => (gv_pos hp).trans (pkAndT hp)) (fun hp => pkAndF hp)) ?_
    refine RW.nil ?_
    refine Post.then_n ?_
    refine AW.cond (b := (decide (y < 0)) && (decide (x < (-9223372036854775808) - y))) rfl (fun hc2 => ?_) (fun hc2 => ?_)
    · simp [-List.getD_eq_getElem?_getD] at hc2
      refine AW.seq ?_
      refine AW.region ?_
      refine RW.q (v := .int .i64 (-9223372036854775808)) rfl (q_assign rfl) ?_
      refine RW.nil ?_
      refine Post.then_n ?_
      refine AW.ret ?_
      refine Post.then_r ?_
      exact fin_val (v' := .int .i64 (-9223372036854775808)) rfl rfl rfl (by unfold Se.addS; rw [if_neg (by omega), if_pos (by omega)])
    · simp [-List.getD_eq_getElem?_getD] at hc2
      refine AW.skip ?_
      refine Post.then_n ?_
      refine AW.seq ?_
      refine AW.region ?_
      refine RW.q (v := .int .i64 x) rfl (q_move rfl) ?_
      refine RW.q (v := .int .i64 y) rfl (q_move rfl) ?_
      refine RW.q (v := .int .i64 (x + y)) rfl (q_add rfl rfl (by omega) (by unfold I64; omega)) ?_
      refine RW.q (v := .int .i64 (x + y)) rfl (q_assign rfl) ?_
      refine RW.nil ?_
      refine Post.then_n ?_
      refine AW.ret ?_
      exact fin_val (v' := .int .i64 (x + y)) rfl rfl rfl (by unfold Se.addS; rw [if_neg (by omega), if_neg (by omega)])

set_option maxRecDepth 8000 in
set_option maxHeartbeats 1000000 in
theorem Sub_c (w : World) (Φ : Hp) (hΦ : Hp.le Φ (hp w)) {x y : Int} (hx : I64 x) (hy : I64 y) :
    Calls Try.prog 28 #[.int .i64 x, .int .i64 y] w fun e w' => e = .returned (.int .i64 (Se.subS x y)) ∧ Bel w.heap.size w w' := by
  refine calls_of_AW (args := [.int .i64 x, .int .i64 y]) Try.func28 rfl (Nat.le_of_ble_eq_true rfl) (St ⟨w, Φ, []⟩ Φ []) (StP.init w Φ hΦ []) ?_
  show AW Try.prog 24 [] _ _ _ [(0, .int .i64 x), (1, .int .i64 y)] _
  unfold I64 at hx hy
  refine AW.seq ?_
  refine AW.region ?_
  refine RW.q (v := .int .i64 0) rfl (q_assign rfl) ?_
  refine RW.nil ?_
  refine Post.then_n ?_
  refine AW.seq ?_
  refine AW.seq ?_
  refine AW.region ?_
  refine RW.q (v := .int .i64 y) rfl (q_move rfl) ?_
  refine RW.q (v := .bool (decide (y < 0))) rfl (q_lss rfl rfl) ?_
  refine RW.q (v := .bool (decide (y < 0))) rfl (q_move rfl) ?_
  refine RW.g (b := (decide (y < 0))) (v := .int .i64 x) rfl rfl rfl (fun h => q_move rfl) ?_
  refine RW.g (b := (decide (y < 0))) (v := .int .i64 y) rfl rfl rfl (fun h => q_move rfl) ?_
  refine RW.g (b := (decide (y < 0))) (v := .int .i64 (9223372036854775807 + y)) rfl rfl rfl (fun h => q_add rfl (gv_pos h) (by (try simp [-List.getD_eq_getElem?_getD] at h); omega) (by (try simp [-List.getD_eq_getElem?_getD] at h); unfold I64; omega)) ?_
  refine RW.g (b := (decide (y < 0))) (v := .bool (decide (9223372036854775807 + y < x))) rfl rfl rfl (fun h => q_gtr (gv_pos h) (gv_pos h)) ?_
  refine RW.q (v := .bool ((decide (y < 0)) && (decide (9223372036854775807 + y < x)))) rfl (q_pick rfl (fun hp => (gv_pos hp).trans (pkAndT hp)) (fun hp => pkAndF hp)) ?_
  refine RW.nil ?_
  refine Post.then_n ?_
  refine AW.cond (b := (decide (y < 0)) && (decide (9223372036854775807 + y < x))) rfl (fun hc1 => ?_) (fun hc1 => ?_)
  · simp [-List.getD_eq_getElem?_getD] at hc1
    refine AW.seq ?_
    refine AW.region ?_
    refine RW.q (v := .int .i64 9223372036854775807) rfl (q_assign rfl) ?_
    refine RW.nil ?_
    refine Post.then_n ?_
    refine AW.ret ?_
    refine Post.then_r ?_
    exact fin_val (v' := .int .i64 9223372036854775807) rfl rfl rfl (by unfold Se.subS; rw [if_pos (by omega)])
  · simp [-List.getD_eq_getElem?_getD] at hc1
    refine AW.skip ?_
    refine Post.then_n ?_
    refine AW.seq ?_
    refine AW.seq ?_
    refine AW.region ?_
    refine RW.q (v := .int .i64 y) rfl (q_move rfl) ?_
    refine RW.q (v := .bool (decide ((0 : Int) < y))) rfl (q_gtr rfl rfl) ?_
    refine RW.q (v := .bool (decide ((0 : Int) < y))) rfl (q_move rfl) ?_
    refine RW.g (b := (decide ((0 : Int) < y))) (v := .int .i64 x) rfl rfl rfl (fun h => q_move rfl) ?_
    refine RW.g (b := (decide ((0 : Int) < y))) (v := .int .i64 y) rfl rfl rfl (fun h => q_move rfl) ?_
    refine RW.g (b := (decide ((0 : Int) < y))) (v := .int .i64 ((-9223372036854775808) + y)) rfl rfl rfl (fun h => q_add rfl (gv_pos h) (by (try simp [-List.getD_eq_getElem?_getD] at h); omega) (by (try simp [-List.getD_eq_getElem?_getD] at h); unfold I64; omega)) ?_
    refine RW.g (b := (decide ((0 : Int) < y))) (v := .bool (decide (x < (-9223372036854775808) + y))) rfl rfl rfl (fun h => q_lss (gv_pos h) (gv_pos h)) ?_
    refine RW.q (v := .bool ((decide ((0 : Int) < y)) && (decide (x < (-9223372036854775808) + y)))) rfl (q_pick rfl (fun hp => (gv_pos hp).trans (pkAndT hp)) (fun hp => pkAndF hp)) ?_
    refine RW.nil ?_
    refine Post.then_n ?_
    refine AW.cond (b := (decide ((0 : Int) < y)) && (decide (x < (-9223372036854775808) + y))) rfl (fun hc2 => ?_) (fun hc2 => ?_)
    · simp [-List.getD_eq_getElem?_getD] at hc2
      refine AW.seq ?_
      refine AW.region ?_
      refine RW.q (v := .int .i64 (-9223372036854775808)) rfl (q_assign rfl) ?_
      refine RW.nil ?_
      refine Post.then_n ?_
      refine AW.ret ?_
      refine Post.then_r ?_
      exact fin_val (v' := .int .i64 (-9223372036854775808)) rfl rfl rfl (by unfold Se.subS; rw [if_neg (by omega), if_pos (by omega)])
    · simp [-List.getD_eq_getElem?_getD] at hc2
      refine AW.skip ?_
      refine Post.then_n ?_
      refine AW.seq ?_
      refine AW.region ?_
      refine RW.q (v := .int .i64 x) rfl (q_move rfl) ?_
      refine RW.q (v := .int .i64 y) rfl (q_move rfl) ?_
      refine RW.q (v := .int .i64 (x - y)) rfl (q_sub rfl rfl (by omega) (by unfold I64; omega)) ?_
      refine RW.q (v := .int .i64 (x - y)) rfl (q_assign rfl) ?_
      refine RW.nil ?_
      refine Post.then_n ?_
      refine AW.ret ?_
      exact fin_val (v' := .int .i64 (x - y)) rfl rfl rfl (by unfold Se.subS; rw [if_neg (by omega), if_neg (by omega)])

set_option maxRecDepth 8000 in
set_option maxHeartbeats 1000000 in
theorem sRight_c (w : World) (Φ : Hp) (hΦ : Hp.le Φ (hp w)) {aL aH : Int} :
    Calls Try.prog 30 #[.agg #[.int .i64 aL, .int .i64 aH]] w fun e w' => e = .returned (.bool (decide (aL ≤ aH))) ∧ Bel w.heap.size w w' := by
  refine calls_of_AW (args := [.agg #[.int .i64 aL, .int .i64 aH]]) Try.func30 rfl (Nat.le_of_ble_eq_true rfl) (St ⟨w, Φ, []⟩ Φ []) (StP.init w Φ hΦ []) ?_
  show AW Try.prog 8 [] _ _ _ [(0, .agg #[.int .i64 aL, .int .i64 aH])] _
  refine AW.seq ?_
  refine AW.region ?_
  refine RW.eff (fun b1 : Nat => .pointer (some (⟨b1, 0, none⟩))) (fun b1 => St ⟨w, Φ, []⟩ Φ [.blk b1 47 [.int .i64 aL, .int .i64 aH]]) rfl (e_boxA (cs := [.int .i64 aL, .int .i64 aH]) rfl) ?_
  intro b1
  refine RW.q (v := .bool false) rfl (q_assign rfl) ?_
  refine RW.nil ?_
  refine Post.then_n ?_
  refine AW.seq ?_
  refine AW.region ?_
  refine RW.q (v := .pointer (some (⟨b1, 0, none⟩))) rfl (q_fieldAddr rfl Try.underlying47 rfl sz3 rfl) ?_
  refine RW.q (v := .int .i64 aL) rfl (q_load rfl Try.underlying3 rfl (Cell.blk 0 rfl rfl)) ?_
  refine RW.q (v := .pointer (some (⟨b1, 1, none⟩))) rfl (q_fieldAddr rfl Try.underlying47 rfl sz3 rfl) ?_
  refine RW.q (v := .int .i64 aH) rfl (q_load rfl Try.underlying3 rfl (Cell.blk 0 rfl rfl)) ?_
  refine RW.q (v := .bool (decide (aL ≤ aH))) rfl (q_leq rfl rfl) ?_
  refine RW.q (v := .bool (decide (aL ≤ aH))) rfl (q_assign rfl) ?_
  refine RW.nil ?_
  refine Post.then_n ?_
  refine AW.ret ?_
  exact fin_val (v' := .bool (decide (aL ≤ aH))) rfl rfl rfl (rfl)

set_option maxRecDepth 8000 in
set_option maxHeartbeats 1000000 in
theorem sHas_c (w : World) (Φ : Hp) (hΦ : Hp.le Φ (hp w)) {aL aH x : Int} :
    Calls Try.prog 18 #[.agg #[.int .i64 aL, .int .i64 aH], .int .i64 x] w fun e w' => e = .returned (.bool (decide (aL ≤ x) && decide (x ≤ aH))) ∧ Bel w.heap.size w w' := by
  refine calls_of_AW (args := [.agg #[.int .i64 aL, .int .i64 aH], .int .i64 x]) Try.func18 rfl (Nat.le_of_ble_eq_true rfl) (St ⟨w, Φ, []⟩ Φ []) (StP.init w Φ hΦ []) ?_
  show AW Try.prog 15 [] _ _ _ [(0, .agg #[.int .i64 aL, .int .i64 aH]), (1, .int .i64 x)] _
  refine AW.seq ?_
  refine AW.region ?_
  refine RW.eff (fun b1 : Nat => .pointer (some (⟨b1, 0, none⟩))) (fun b1 => St ⟨w, Φ, []⟩ Φ [.blk b1 47 [.int .i64 aL, .int .i64 aH]]) rfl (e_boxA (cs := [.int .i64 aL, .int .i64 aH]) rfl) ?_
  intro b1
  refine RW.q (v := .bool false) rfl (q_assign rfl) ?_
  refine RW.nil ?_
  refine Post.then_n ?_
  refine AW.seq ?_
  refine AW.region ?_
  refine RW.q (v := .pointer (some (⟨b1, 0, none⟩))) rfl (q_fieldAddr rfl Try.underlying47 rfl sz3 rfl) ?_
  refine RW.q (v := .int .i64 aL) rfl (q_load rfl Try.underlying3 rfl (Cell.blk 0 rfl rfl)) ?_
  refine RW.q (v := .int .i64 x) rfl (q_move rfl) ?_
  refine RW.q (v := .bool (decide (aL ≤ x))) rfl (q_leq rfl rfl) ?_
  refine RW.q (v := .bool (decide (aL ≤ x))) rfl (q_move rfl) ?_
  refine RW.g (b := (decide (aL ≤ x))) (v := .int .i64 x) rfl rfl rfl (fun h => q_move rfl) ?_
  refine RW.g (b := (decide (aL ≤ x))) (v := .pointer (some (⟨b1, 1, none⟩))) rfl rfl rfl (fun h => q_fieldAddr rfl Try.underlying47 rfl sz3 rfl) ?_
  refine RW.g (b := (decide (aL ≤ x))) (v := .int .i64 aH) rfl rfl rfl (fun h => q_load (gv_pos h) Try.underlying3 rfl (Cell.blk 0 rfl rfl)) ?_
  refine RW.g (b := (decide (aL ≤ x))) (v := .bool (decide (x ≤ aH))) rfl rfl rfl (fun h => q_leq (gv_pos h) (gv_pos h)) ?_
  refine RW.q (v := .bool ((decide (aL ≤ x)) && (decide (x ≤ aH)))) rfl (q_pick rfl (fun hp => (gv_pos hp).trans (pkAndT hp)) (fun hp => pkAndF hp)) ?_
  refine RW.q (v := .bool ((decide (aL ≤ x)) && (decide (x ≤ aH)))) rfl (q_assign rfl) ?_
  refine RW.nil ?_
  refine Post.then_n ?_
  refine AW.ret ?_
  exact fin_val (v' := .bool ((decide (aL ≤ x)) && (decide (x ≤ aH)))) rfl rfl rfl (rfl)

set_option maxRecDepth 8000 in
set_option maxHeartbeats 1000000 in
theorem floor_c (w : World) (Φ : Hp) (hΦ : Hp.le Φ (hp w)) {n : Int} (hn : I64 n) :
    Calls Try.prog 41 #[.int .i64 n] w fun e w' => e = .returned (.int .i64 (n / 60)) ∧ Bel w.heap.size w w' := by
  refine calls_of_AW (args := [.int .i64 n]) Try.func41 rfl (Nat.le_of_ble_eq_true rfl) (St ⟨w, Φ, []⟩ Φ []) (StP.init w Φ hΦ []) ?_
  show AW Try.prog 12 [] _ _ _ [(0, .int .i64 n)] _
  have h1 := Int.mul_tdiv_add_tmod n 60
  have h2 := Int.tmod_lt_of_pos n (show (0 : Int) < 60 by decide)
  have h3 := Int.lt_tmod_of_pos n (show (0 : Int) < 60 by decide)
  unfold I64 at hn
  refine AW.seq ?_
  refine AW.region ?_
  refine RW.q (v := .int .i64 0) rfl (q_assign rfl) ?_
  refine RW.nil ?_
  refine Post.then_n ?_
  refine AW.seq ?_
  refine AW.region ?_
  refine RW.q (v := .int .i64 n) rfl (q_move rfl) ?_
  refine RW.q (v := .int .i64 (n.tdiv 60)) rfl (q_quo rfl rfl (by omega) rfl (by unfold I64; omega)) ?_
  refine RW.q (v := .int .i64 (n.tdiv 60)) rfl (q_assign rfl) ?_
  refine RW.nil ?_
  refine Post.then_n ?_
  refine AW.seq ?_
  refine AW.seq ?_
  refine AW.region ?_
  refine RW.q (v := .int .i64 n) rfl (q_move rfl) ?_
  refine RW.q (v := .int .i64 (n.tmod 60)) rfl (q_rem rfl rfl (by omega) rfl) ?_
  refine RW.q (v := .bool (decide (n.tmod 60 < 0))) rfl (q_lss rfl rfl) ?_
  refine RW.nil ?_
  refine Post.then_n ?_
  refine AW.cond (b := decide (n.tmod 60 < 0)) rfl (fun hc1 => ?_) (fun hc1 => ?_)
  · simp [-List.getD_eq_getElem?_getD] at hc1
    refine AW.region ?_
    refine RW.q (v := .int .i64 (n.tdiv 60)) rfl (q_move rfl) ?_
    refine RW.q (v := .int .i64 ((n.tdiv 60) - 1)) rfl (q_sub rfl rfl (by omega) (by unfold I64; omega)) ?_
    refine RW.q (v := .int .i64 ((n.tdiv 60) - 1)) rfl (q_assign rfl) ?_
    refine RW.nil ?_
    refine Post.then_n ?_
    refine AW.seq ?_
    refine AW.region ?_
    refine RW.q (v := .int .i64 ((n.tdiv 60) - 1)) rfl (q_move rfl) ?_
    refine RW.q (v := .int .i64 ((n.tdiv 60) - 1)) rfl (q_assign rfl) ?_
    refine RW.nil ?_
    refine Post.then_n ?_
    refine AW.ret ?_
    exact fin_val (v' := .int .i64 ((n.tdiv 60) - 1)) rfl rfl rfl (congrArg (Value.int .i64) (by omega))
  · simp [-List.getD_eq_getElem?_getD] at hc1
    refine AW.skip ?_
    refine Post.then_n ?_
    refine AW.seq ?_
    refine AW.region ?_
    refine RW.q (v := .int .i64 (n.tdiv 60)) rfl (q_move rfl) ?_
    refine RW.q (v := .int .i64 (n.tdiv 60)) rfl (q_assign rfl) ?_
    refine RW.nil ?_
    refine Post.then_n ?_
    refine AW.ret ?_
    exact fin_val (v' := .int .i64 (n.tdiv 60)) rfl rfl rfl (congrArg (Value.int .i64) (by omega))

set_option maxRecDepth 8000 in
set_option maxHeartbeats 1000000 in
theorem hourOf_c (w : World) (Φ : Hp) (hΦ : Hp.le Φ (hp w)) {q : Bt.Gauge} {t : Bt.Gram} (hck : 0 ≤ t.Clock ∧ t.Clock ≤ 1006633019) :
    Calls Try.prog 27 #[.agg #[.string q.Name, .int .i64 q.Kind, .int .i64 q.Target, .int .i64 q.Err, .int .i64 q.Drift], .agg #[.int .i64 t.Gauge, .int .i64 t.Seq, .int .i64 t.Clock, .int .i64 t.Value, .string t.Tag]] w fun e w' => e = .returned (.tuple #[.int .i64 (if 0 ≤ q.Drift ∧ q.Drift < 60 then Se.hourT q t else 0), .bool (decide (Se.Sure q t))]) ∧ Bel w.heap.size w w' := by
  refine calls_of_AW (args := [.agg #[.string q.Name, .int .i64 q.Kind, .int .i64 q.Target, .int .i64 q.Err, .int .i64 q.Drift], .agg #[.int .i64 t.Gauge, .int .i64 t.Seq, .int .i64 t.Clock, .int .i64 t.Value, .string t.Tag]]) Try.func27 rfl (Nat.le_of_ble_eq_true rfl) (St ⟨w, Φ, []⟩ Φ []) (StP.init w Φ hΦ []) ?_
  show AW Try.prog 30 [] _ _ _ [(0, .agg #[.string q.Name, .int .i64 q.Kind, .int .i64 q.Target, .int .i64 q.Err, .int .i64 q.Drift]), (1, .agg #[.int .i64 t.Gauge, .int .i64 t.Seq, .int .i64 t.Clock, .int .i64 t.Value, .string t.Tag])] _
  have hc := hck
  refine AW.seq ?_
  refine AW.region ?_
  refine RW.eff (fun b1 : Nat => .pointer (some (⟨b1, 0, none⟩))) (fun b1 => St ⟨w, Φ, []⟩ Φ [.blk b1 63 [.string q.Name, .int .i64 q.Kind, .int .i64 q.Target, .int .i64 q.Err, .int .i64 q.Drift]]) rfl (e_boxA (cs := [.string q.Name, .int .i64 q.Kind, .int .i64 q.Target, .int .i64 q.Err, .int .i64 q.Drift]) rfl) ?_
  intro b1
  refine RW.eff (fun b2 : Nat => .pointer (some (⟨b2, 0, none⟩))) (fun b2 => St ⟨w, Φ, []⟩ Φ [.blk b2 29 [.int .i64 t.Gauge, .int .i64 t.Seq, .int .i64 t.Clock, .int .i64 t.Value, .string t.Tag], .blk b1 63 [.string q.Name, .int .i64 q.Kind, .int .i64 q.Target, .int .i64 q.Err, .int .i64 q.Drift]]) rfl (e_boxA (cs := [.int .i64 t.Gauge, .int .i64 t.Seq, .int .i64 t.Clock, .int .i64 t.Value, .string t.Tag]) rfl) ?_
  intro b2
  refine RW.q (v := .int .i64 0) rfl (q_assign rfl) ?_
  refine RW.q (v := .bool false) rfl (q_assign rfl) ?_
  refine RW.nil ?_
  refine Post.then_n ?_
  refine AW.seq ?_
  refine AW.seq ?_
  refine AW.region ?_
  refine RW.q (v := .pointer (some (⟨b1, 4, none⟩))) rfl (q_fieldAddr rfl Try.underlying63 rfl sz3 rfl) ?_
  refine RW.q (v := .int .i64 q.Drift) rfl (q_load rfl Try.underlying3 rfl (Cell.blk 1 rfl rfl)) ?_
  refine RW.q (v := .bool (decide (q.Drift < 0))) rfl (q_lss rfl rfl) ?_
  refine RW.q (v := .bool (decide (q.Drift < 0))) rfl (q_move rfl) ?_
  refine RW.g (b := (decide (q.Drift < 0))) (v := .pointer (some (⟨b1, 4, none⟩))) rfl rfl rfl (fun h => q_fieldAddr rfl Try.underlying63 rfl sz3 rfl) ?_
  refine RW.g (b := (decide (q.Drift < 0))) (v := .int .i64 q.Drift) rfl rfl rfl (fun h => q_load (gv_pos h) Try.underlying3 rfl (Cell.blk 1 rfl rfl)) ?_
  refine RW.g (b := (decide (q.Drift < 0))) (v := .bool (decide ((60 : Int) ≤ q.Drift))) rfl rfl rfl (fun h => q_geq (gv_pos h) rfl) ?_
  refine RW.q (v := .bool ((decide (q.Drift < 0)) || (decide ((60 : Int) ≤ q.Drift)))) rfl (q_pick rfl (fun hp => pkOrT hp) (fun hp => (gv_pos hp).trans (pkOrF hp))) ?_
  refine RW.nil ?_
  refine Post.then_n ?_
  refine AW.cond (b := (decide (q.Drift < 0)) || (decide ((60 : Int) ≤ q.Drift))) rfl (fun hc1 => ?_) (fun hc1 => ?_)
  · simp [-List.getD_eq_getElem?_getD] at hc1
    refine AW.seq ?_
    refine AW.region ?_
    refine RW.q (v := .int .i64 0) rfl (q_assign rfl) ?_
    refine RW.q (v := .bool false) rfl (q_assign rfl) ?_
    refine RW.nil ?_
    refine Post.then_n ?_
    refine AW.ret ?_
    refine Post.then_r ?_
    refine fin_out2 (v := .int .i64 0) (u := .bool false) rfl rfl rfl rfl (fun w' hw => ?_)
    refine ⟨?_, hw.below rfl⟩
    rw [if_neg (by omega), decide_eq_false (fun h => by have h1 := h.1; have h2 := h.2.1; omega)]
  · simp [-List.getD_eq_getElem?_getD] at hc1
    refine AW.skip ?_
    refine Post.then_n ?_
    refine AW.seq ?_
    refine AW.region ?_
    refine RW.q (v := .pointer (some (⟨b2, 2, none⟩))) rfl (q_fieldAddr rfl Try.underlying29 rfl sz3 rfl) ?_
    refine RW.q (v := .int .i64 t.Clock) rfl (q_load rfl Try.underlying3 rfl (Cell.blk 0 rfl rfl)) ?_
    refine RW.q (v := .pointer (some (⟨b1, 4, none⟩))) rfl (q_fieldAddr rfl Try.underlying63 rfl sz3 rfl) ?_
    refine RW.q (v := .int .i64 q.Drift) rfl (q_load rfl Try.underlying3 rfl (Cell.blk 1 rfl rfl)) ?_
    refine RW.q (v := .int .i64 (t.Clock - q.Drift)) rfl (q_sub rfl rfl (by omega) (by unfold I64; omega)) ?_
    refine RW.q (v := .int .i64 ((t.Clock - q.Drift) / 60)) rfl (q_call (args := #[.int .i64 (t.Clock - q.Drift)]) own41 rfl rfl (fun w1 hw1 => floor_c w1 (Go.K.hp w1) (Hp.le_refl _) (by unfold I64; omega))) ?_
    refine RW.q (v := .int .i64 ((t.Clock - q.Drift) / 60)) rfl (q_assign rfl) ?_
    refine RW.nil ?_
    refine Post.then_n ?_
    refine AW.seq ?_
    refine AW.region ?_
    refine RW.q (v := .int .i64 ((t.Clock - q.Drift) / 60)) rfl (q_move rfl) ?_
    refine RW.q (v := .int .i64 ((t.Clock - q.Drift) / 60)) rfl (q_move rfl) ?_
    refine RW.q (v := .pointer (some (⟨b2, 2, none⟩))) rfl (q_fieldAddr rfl Try.underlying29 rfl sz3 rfl) ?_
    refine RW.q (v := .int .i64 t.Clock) rfl (q_load rfl Try.underlying3 rfl (Cell.blk 0 rfl rfl)) ?_
    refine RW.q (v := .pointer (some (⟨b1, 4, none⟩))) rfl (q_fieldAddr rfl Try.underlying63 rfl sz3 rfl) ?_
    refine RW.q (v := .int .i64 q.Drift) rfl (q_load rfl Try.underlying3 rfl (Cell.blk 1 rfl rfl)) ?_
    refine RW.q (v := .int .i64 (t.Clock + q.Drift)) rfl (q_add rfl rfl (by omega) (by unfold I64; omega)) ?_
    refine RW.q (v := .int .i64 ((t.Clock + q.Drift) / 60)) rfl (q_call (args := #[.int .i64 (t.Clock + q.Drift)]) own41 rfl rfl (fun w1 hw1 => floor_c w1 (Go.K.hp w1) (Hp.le_refl _) (by unfold I64; omega))) ?_
    refine RW.q (v := .bool (decide ((t.Clock - q.Drift) / 60 = (t.Clock + q.Drift) / 60))) rfl (q_eql rfl rfl) ?_
    refine RW.q (v := .int .i64 ((t.Clock - q.Drift) / 60)) rfl (q_assign rfl) ?_
    refine RW.q (v := .bool (decide ((t.Clock - q.Drift) / 60 = (t.Clock + q.Drift) / 60))) rfl (q_assign rfl) ?_
    refine RW.nil ?_
    refine Post.then_n ?_
    refine AW.ret ?_
    refine fin_out2 (v := .int .i64 ((t.Clock - q.Drift) / 60)) (u := .bool (decide ((t.Clock - q.Drift) / 60 = (t.Clock + q.Drift) / 60))) rfl rfl rfl rfl (fun w' hw => ?_)
    refine ⟨?_, hw.below rfl⟩
    rw [if_pos (by omega)]
    unfold Se.hourT
    rw [show decide (Se.Sure q t) = decide ((t.Clock - q.Drift) / 60 = (t.Clock + q.Drift) / 60) from decide_eq_decide.2 ⟨fun h => h.2.2, fun h => ⟨by omega, by omega, h⟩⟩]

set_option maxRecDepth 8000 in
set_option maxHeartbeats 1000000 in
theorem numbers_c (w : World) (Φ : Hp) (hΦ : Hp.le Φ (hp w)) {t : Bt.Gram} :
    Calls Try.prog 40 #[.agg #[.int .i64 t.Gauge, .int .i64 t.Seq, .int .i64 t.Clock, .int .i64 t.Value, .string t.Tag]] w fun e w' => e = .returned (.agg #[.int .i64 t.Gauge, .int .i64 t.Seq, .int .i64 t.Clock, .int .i64 t.Value]) ∧ Bel w.heap.size w w' := by
  refine calls_of_AW (args := [.agg #[.int .i64 t.Gauge, .int .i64 t.Seq, .int .i64 t.Clock, .int .i64 t.Value, .string t.Tag]]) Try.func40 rfl (Nat.le_of_ble_eq_true rfl) (St ⟨w, Φ, []⟩ Φ []) (StP.init w Φ hΦ []) ?_
  show AW Try.prog 12 [] _ _ _ [(0, .agg #[.int .i64 t.Gauge, .int .i64 t.Seq, .int .i64 t.Clock, .int .i64 t.Value, .string t.Tag])] _
  refine AW.seq ?_
  refine AW.region ?_
  refine RW.eff (fun b1 : Nat => .pointer (some (⟨b1, 0, none⟩))) (fun b1 => St ⟨w, Φ, []⟩ Φ [.blk b1 29 [.int .i64 t.Gauge, .int .i64 t.Seq, .int .i64 t.Clock, .int .i64 t.Value, .string t.Tag]]) rfl (e_boxA (cs := [.int .i64 t.Gauge, .int .i64 t.Seq, .int .i64 t.Clock, .int .i64 t.Value, .string t.Tag]) rfl) ?_
  intro b1
  refine RW.eff (fun b2 : Nat => .pointer (some (⟨b2, 0, none⟩))) (fun b2 => St ⟨w, Φ, []⟩ Φ [.blk b2 93 [.int .i64 0, .int .i64 0, .int .i64 0, .int .i64 0], .blk b1 29 [.int .i64 t.Gauge, .int .i64 t.Seq, .int .i64 t.Clock, .int .i64 t.Value, .string t.Tag]]) rfl (e_alloc zero93) ?_
  intro b2
  refine RW.nil ?_
  refine Post.then_n ?_
  refine AW.seq ?_
  refine AW.region ?_
  refine RW.q (v := .pointer (some (⟨b1, 0, none⟩))) rfl (q_fieldAddr rfl Try.underlying29 rfl sz3 rfl) ?_
  refine RW.q (v := .int .i64 t.Gauge) rfl (q_load rfl Try.underlying3 rfl (Cell.blk 1 rfl rfl)) ?_
  refine RW.q (v := .pointer (some (⟨b1, 1, none⟩))) rfl (q_fieldAddr rfl Try.underlying29 rfl sz3 rfl) ?_
  refine RW.q (v := .int .i64 t.Seq) rfl (q_load rfl Try.underlying3 rfl (Cell.blk 1 rfl rfl)) ?_
  refine RW.q (v := .pointer (some (⟨b1, 2, none⟩))) rfl (q_fieldAddr rfl Try.underlying29 rfl sz3 rfl) ?_
  refine RW.q (v := .int .i64 t.Clock) rfl (q_load rfl Try.underlying3 rfl (Cell.blk 1 rfl rfl)) ?_
  refine RW.q (v := .pointer (some (⟨b1, 3, none⟩))) rfl (q_fieldAddr rfl Try.underlying29 rfl sz3 rfl) ?_
  refine RW.q (v := .int .i64 t.Value) rfl (q_load rfl Try.underlying3 rfl (Cell.blk 1 rfl rfl)) ?_
  refine RW.q (v := .agg #[.int .i64 t.Gauge, .int .i64 t.Seq, .int .i64 t.Clock, .int .i64 t.Value]) rfl (q_buildArr (vals := [(0, .int .i64 t.Gauge), (1, .int .i64 t.Seq), (2, .int .i64 t.Clock), (3, .int .i64 t.Value)]) zero93 Try.underlying93 sz3 rfl rfl) ?_
  refine RW.effn (J' := St ⟨w, Φ, []⟩ Φ [.blk b2 93 [.int .i64 t.Gauge, .int .i64 t.Seq, .int .i64 t.Clock, .int .i64 t.Value], .blk b1 29 [.int .i64 t.Gauge, .int .i64 t.Seq, .int .i64 t.Clock, .int .i64 t.Value, .string t.Tag]]) (e_store (v := .agg #[.int .i64 t.Gauge, .int .i64 t.Seq, .int .i64 t.Clock, .int .i64 t.Value]) 0 rfl rfl rfl sz93 rfl rfl rfl rfl rfl) ?_
  refine RW.nil ?_
  refine Post.then_n ?_
  refine AW.ret ?_
  refine fin_cell1 (cs := [.int .i64 t.Gauge, .int .i64 t.Seq, .int .i64 t.Clock, .int .i64 t.Value]) rfl rfl rfl Try.underlying93 rfl sz93 rfl (Cells.blk 0 rfl) (fun w' hw => ?_)
  refine ⟨?_, hw.below rfl⟩
  rfl

set_option maxRecDepth 8000 in
set_option maxHeartbeats 2000000 in
theorem wellFormed_c (w : World) (Φ : Hp) (hΦ : Hp.le Φ (hp w)) {t : Bt.Gram} :
    Calls Try.prog 26 #[.agg #[.int .i64 t.Gauge, .int .i64 t.Seq, .int .i64 t.Clock, .int .i64 t.Value, .string t.Tag]] w fun e w' => e = .returned (.bool (decide (Se.Formed t))) ∧ Bel w.heap.size w w' := by
  refine calls_of_AW (args := [.agg #[.int .i64 t.Gauge, .int .i64 t.Seq, .int .i64 t.Clock, .int .i64 t.Value, .string t.Tag]]) Try.func26 rfl (Nat.le_of_ble_eq_true rfl) (St ⟨w, Φ, []⟩ Φ []) (StP.init w Φ hΦ []) ?_
  show AW Try.prog 39 [] _ _ _ [(0, .agg #[.int .i64 t.Gauge, .int .i64 t.Seq, .int .i64 t.Clock, .int .i64 t.Value, .string t.Tag])] _
  refine AW.seq ?_
  refine AW.region ?_
  refine RW.eff (fun b1 : Nat => .pointer (some (⟨b1, 0, none⟩))) (fun b1 => St ⟨w, Φ, []⟩ Φ [.blk b1 29 [.int .i64 t.Gauge, .int .i64 t.Seq, .int .i64 t.Clock, .int .i64 t.Value, .string t.Tag]]) rfl (e_boxA (cs := [.int .i64 t.Gauge, .int .i64 t.Seq, .int .i64 t.Clock, .int .i64 t.Value, .string t.Tag]) rfl) ?_
  intro b1
  refine RW.q (v := .bool false) rfl (q_assign rfl) ?_
  refine RW.nil ?_
  refine Post.then_n ?_
  refine AW.seq ?_
  refine AW.region ?_
  refine RW.q (v := .agg #[.int .i64 0, .int .i64 0, .int .i64 0, .int .i64 (-1099511627776)]) rfl (q_buildArr (vals := [(0, .int .i64 0), (1, .int .i64 0), (2, .int .i64 0), (3, .int .i64 (-1099511627776))]) zero93 Try.underlying93 sz3 rfl rfl) ?_
  refine RW.eff (fun b2 : Nat => .pointer (some (⟨b2, 0, none⟩))) (fun b2 => St ⟨w, Φ, []⟩ Φ [.blk b2 93 [.int .i64 0, .int .i64 0, .int .i64 0, .int .i64 0], .blk b1 29 [.int .i64 t.Gauge, .int .i64 t.Seq, .int .i64 t.Clock, .int .i64 t.Value, .string t.Tag]]) rfl (e_alloc zero93) ?_
  intro b2
  refine RW.effn (J' := St ⟨w, Φ, []⟩ Φ [.blk b2 93 [.int .i64 0, .int .i64 0, .int .i64 0, .int .i64 (-1099511627776)], .blk b1 29 [.int .i64 t.Gauge, .int .i64 t.Seq, .int .i64 t.Clock, .int .i64 t.Value, .string t.Tag]]) (e_store (v := .agg #[.int .i64 0, .int .i64 0, .int .i64 0, .int .i64 (-1099511627776)]) 0 rfl rfl rfl sz93 rfl rfl rfl rfl rfl) ?_
  refine RW.nil ?_
  refine Post.then_n ?_
  refine AW.seq ?_
  refine AW.region ?_
  refine RW.q (v := .agg #[.int .i64 127, .int .i64 1099511627776, .int .i64 1006633019, .int .i64 1099511627776]) rfl (q_buildArr (vals := [(0, .int .i64 127), (1, .int .i64 1099511627776), (2, .int .i64 1006633019), (3, .int .i64 1099511627776)]) zero93 Try.underlying93 sz3 rfl rfl) ?_
  refine RW.eff (fun b3 : Nat => .pointer (some (⟨b3, 0, none⟩))) (fun b3 => St ⟨w, Φ, []⟩ Φ [.blk b3 93 [.int .i64 0, .int .i64 0, .int .i64 0, .int .i64 0], .blk b2 93 [.int .i64 0, .int .i64 0, .int .i64 0, .int .i64 (-1099511627776)], .blk b1 29 [.int .i64 t.Gauge, .int .i64 t.Seq, .int .i64 t.Clock, .int .i64 t.Value, .string t.Tag]]) rfl (e_alloc zero93) ?_
  intro b3
  refine RW.effn (J' := St ⟨w, Φ, []⟩ Φ [.blk b3 93 [.int .i64 127, .int .i64 1099511627776, .int .i64 1006633019, .int .i64 1099511627776], .blk b2 93 [.int .i64 0, .int .i64 0, .int .i64 0, .int .i64 (-1099511627776)], .blk b1 29 [.int .i64 t.Gauge, .int .i64 t.Seq, .int .i64 t.Clock, .int .i64 t.Value, .string t.Tag]]) (e_store (v := .agg #[.int .i64 127, .int .i64 1099511627776, .int .i64 1006633019, .int .i64 1099511627776]) 0 rfl rfl rfl sz93 rfl rfl rfl rfl rfl) ?_
  refine RW.nil ?_
  refine Post.then_n ?_
  refine AW.seq ?_
  refine AW.region ?_
  refine RW.q (v := .agg #[.int .i64 t.Gauge, .int .i64 t.Seq, .int .i64 t.Clock, .int .i64 t.Value, .string t.Tag]) rfl (q_loadAgg rfl Try.underlying29 rfl sz29 rfl (Cells.blk 2 rfl)) ?_
  refine RW.q (v := .agg #[.int .i64 t.Gauge, .int .i64 t.Seq, .int .i64 t.Clock, .int .i64 t.Value]) rfl (q_call (args := #[.agg #[.int .i64 t.Gauge, .int .i64 t.Seq, .int .i64 t.Clock, .int .i64 t.Value, .string t.Tag]]) own40 rfl rfl (fun w1 hw1 => numbers_c w1 (Go.K.hp w1) (Hp.le_refl _) (t := t))) ?_
  refine RW.eff (fun b4 : Nat => .pointer (some (⟨b4, 0, none⟩))) (fun b4 => St ⟨w, Φ, []⟩ Φ [.blk b4 93 [.int .i64 0, .int .i64 0, .int .i64 0, .int .i64 0], .blk b3 93 [.int .i64 127, .int .i64 1099511627776, .int .i64 1006633019, .int .i64 1099511627776], .blk b2 93 [.int .i64 0, .int .i64 0, .int .i64 0, .int .i64 (-1099511627776)], .blk b1 29 [.int .i64 t.Gauge, .int .i64 t.Seq, .int .i64 t.Clock, .int .i64 t.Value, .string t.Tag]]) rfl (e_alloc zero93) ?_
  intro b4
  refine RW.effn (J' := St ⟨w, Φ, []⟩ Φ [.blk b4 93 [.int .i64 t.Gauge, .int .i64 t.Seq, .int .i64 t.Clock, .int .i64 t.Value], .blk b3 93 [.int .i64 127, .int .i64 1099511627776, .int .i64 1006633019, .int .i64 1099511627776], .blk b2 93 [.int .i64 0, .int .i64 0, .int .i64 0, .int .i64 (-1099511627776)], .blk b1 29 [.int .i64 t.Gauge, .int .i64 t.Seq, .int .i64 t.Clock, .int .i64 t.Value, .string t.Tag]]) (e_store (v := .agg #[.int .i64 t.Gauge, .int .i64 t.Seq, .int .i64 t.Clock, .int .i64 t.Value]) 0 rfl rfl rfl sz93 rfl rfl rfl rfl rfl) ?_
  refine RW.nil ?_
  refine Post.then_n ?_
  refine AW.seq ?_
  refine AW.seq ?_
  refine AW.region ?_
  refine RW.q (v := .agg #[.int .i64 t.Gauge, .int .i64 t.Seq, .int .i64 t.Clock, .int .i64 t.Value]) rfl (q_loadAgg rfl Try.underlying93 rfl sz93 rfl (Cells.blk 0 rfl)) ?_
  refine RW.q (v := .int .i64 0) rfl (q_move rfl) ?_
  refine RW.nil ?_
  refine Post.then_n ?_
  refine AW.block ?_
  refine AW.loop (fun s J m => ∃ (k : Nat), ∃ (c0 : Int), ∃ (c1 : Int), ∃ (c2 : Int), ∃ (c3 : Int), s = [(1, .pointer (some (⟨b1, 0, none⟩))), (2, .bool false), (3, .pointer (some (⟨b2, 0, none⟩))), (4, .pointer (some (⟨b3, 0, none⟩))), (5, .pointer (some (⟨b4, 0, none⟩))), (12, .agg #[.int .i64 t.Gauge, .int .i64 t.Seq, .int .i64 t.Clock, .int .i64 t.Value]), (13, .int .i64 (k : Int))] ∧ J = St ⟨w, Φ, []⟩ Φ [.blk b4 93 [.int .i64 c0, .int .i64 c1, .int .i64 c2, .int .i64 c3], .blk b3 93 [.int .i64 127, .int .i64 1099511627776, .int .i64 1006633019, .int .i64 1099511627776], .blk b2 93 [.int .i64 0, .int .i64 0, .int .i64 0, .int .i64 (-1099511627776)], .blk b1 29 [.int .i64 t.Gauge, .int .i64 t.Seq, .int .i64 t.Clock, .int .i64 t.Value, .string t.Tag]] ∧ m = 4 - k ∧ (k ≤ 4) ∧ (c0 = if 0 < k then max 0 (min 127 t.Gauge) else t.Gauge) ∧ (c1 = if 1 < k then max 0 (min 1099511627776 t.Seq) else t.Seq) ∧ (c2 = if 2 < k then max 0 (min 1006633019 t.Clock) else t.Clock) ∧ (c3 = if 3 < k then max (-1099511627776) (min 1099511627776 t.Value) else t.Value)) (s0 := _) (J1 := _) (m0 := _) ⟨0, t.Gauge, t.Seq, t.Clock, t.Value, rfl, rfl, rfl, (by omega), rfl, rfl, rfl, rfl⟩ ⟨rfl, rfl, rfl, rfl, rfl, rfl, rfl, trivial⟩ (fun _ h => h) ?_
  rintro _ _ _ _ ⟨k, c0, c1, c2, c3, rfl, rfl, rfl, hk, hc0_, hc1_, hc2_, hc3_⟩
  refine AW.seq ?_
  refine AW.region ?_
  refine RW.q (v := .bool (decide ((k : Int) < 4))) rfl (q_lss rfl rfl) ?_
  refine RW.nil ?_
  refine Post.then_n ?_
  refine AW.seq ?_
  refine AW.cond (b := decide ((k : Int) < 4)) rfl (fun hc1 => ?_) (fun hc1 => ?_)
  · simp [-List.getD_eq_getElem?_getD] at hc1
    refine AW.skip ?_
    refine Post.then_n ?_
    refine AW.seq ?_
    refine AW.block ?_
    refine AW.seq ?_
    rcases (show k = 0 ∨ k = 1 ∨ k = 2 ∨ k = 3 by omega) with rfl | rfl | rfl | rfl
    · skip
      refine AW.region ?_
      refine RW.q (v := .int .i64 (0 : Int)) rfl (q_move rfl) ?_
      refine RW.q (v := .int .i64 t.Gauge) rfl (q_indexA1 (cs := #[.int .i64 t.Gauge, .int .i64 t.Seq, .int .i64 t.Clock, .int .i64 t.Value]) rfl rfl Try.underlying93 Try.underlying3 rfl sz3 (by decide) (by decide) rfl) ?_
      refine RW.q (v := .int .i64 (0 : Int)) rfl (q_assign rfl) ?_
      refine RW.q (v := .int .i64 t.Gauge) rfl (q_assign rfl) ?_
      refine RW.nil ?_
      refine Post.then_n ?_
      refine AW.draw (J0 := St ⟨w, Φ, []⟩ Φ [.blk b4 93 [.int .i64 c0, .int .i64 c1, .int .i64 c2, .int .i64 c3], .blk b3 93 [.int .i64 127, .int .i64 1099511627776, .int .i64 1006633019, .int .i64 1099511627776], .blk b2 93 [.int .i64 0, .int .i64 0, .int .i64 0, .int .i64 (-1099511627776)], .blk b1 29 [.int .i64 t.Gauge, .int .i64 t.Seq, .int .i64 t.Clock, .int .i64 t.Value, .string t.Tag]]) [.q, .q, .q, .q, .q, .q, .q, .q, .q, .q, .q, .e] [0, 1, 2, 3, 4, 5, 6, 7, 8, 9, 10, 11] hmix (by kernel_rfl) ?_
      refine DW.q (v := .int .i64 (0 : Int)) (fun _ h => h) rfl (q_move rfl) ?_
      refine DW.q (v := .int .i64 (0 : Int)) (fun _ h => h) rfl (q_move rfl) ?_
      refine DW.q (v := .pointer (some (⟨b2, 0, none⟩))) (fun _ h => h) rfl (q_indexAddrA (i := ((0 : Nat) : Int)) rfl rfl Try.underlying93 sz3 (by decide) (by decide) rfl) ?_
      refine DW.q (v := .int .i64 0) (fun _ h => h) rfl (q_load rfl Try.underlying3 rfl (Cell.blk 2 rfl rfl)) ?_
      refine DW.q (v := .int .i64 (0 : Int)) (fun _ h => h) rfl (q_move rfl) ?_
      refine DW.q (v := .pointer (some (⟨b3, 0, none⟩))) (fun _ h => h) rfl (q_indexAddrA (i := ((0 : Nat) : Int)) rfl rfl Try.underlying93 sz3 (by decide) (by decide) rfl) ?_
      refine DW.q (v := .int .i64 127) (fun _ h => h) rfl (q_load rfl Try.underlying3 rfl (Cell.blk 1 rfl rfl)) ?_
      refine DW.q (v := .int .i64 t.Gauge) (fun _ h => h) rfl (q_move rfl) ?_
      refine DW.q (v := .int .i64 (min 127 t.Gauge)) (fun _ h => h) rfl (q_min rfl rfl) ?_
      refine DW.q (v := .int .i64 (max 0 (min 127 t.Gauge))) (fun _ h => h) rfl (q_max rfl rfl) ?_
      refine DW.q (v := .pointer (some (⟨b4, 0, none⟩))) (fun _ h => h) rfl (q_indexAddrA (i := ((0 : Nat) : Int)) rfl rfl Try.underlying93 sz3 (by decide) (by decide) rfl) ?_
      refine DW.effn (J' := St ⟨w, Φ, []⟩ Φ [.blk b4 93 [.int .i64 (max 0 (min 127 t.Gauge)), .int .i64 c1, .int .i64 c2, .int .i64 c3], .blk b3 93 [.int .i64 127, .int .i64 1099511627776, .int .i64 1006633019, .int .i64 1099511627776], .blk b2 93 [.int .i64 0, .int .i64 0, .int .i64 0, .int .i64 (-1099511627776)], .blk b1 29 [.int .i64 t.Gauge, .int .i64 t.Seq, .int .i64 t.Clock, .int .i64 t.Value, .string t.Tag]]) (fun h => absurd rfl h) (e_store (v := .int .i64 (max 0 (min 127 t.Gauge))) 0 rfl rfl rfl sz3 rfl rfl rfl rfl rfl) ?_
      refine DW.nil ?_
      refine Post.blk_n (Post.then_n ?_)
      refine AW.region ?_
      refine RW.q (v := .int .i64 ((0 + 1 : Nat) : Int)) rfl (q_add rfl rfl (by omega) (by unfold I64; omega)) ?_
      refine RW.q (v := .int .i64 ((0 + 1 : Nat) : Int)) rfl (q_move rfl) ?_
      refine RW.nil ?_
      exact Post.back (s' := _) (J' := _) (m' := _) (by omega) ⟨1, max 0 (min 127 t.Gauge), c1, c2, c3, rfl, rfl, rfl, (by omega), (by first | rfl | (rw [hc0_]; rfl)), (by first | rfl | (rw [hc1_]; rfl)), (by first | rfl | (rw [hc2_]; rfl)), (by first | rfl | (rw [hc3_]; rfl))⟩ ⟨rfl, rfl, rfl, rfl, rfl, rfl, rfl, trivial⟩ (fun _ h => StP.drop h (by exact .cons_cons _ (.cons_cons _ (.cons_cons _ (.cons_cons _ (.slnil))))))
    · skip
      refine AW.region ?_
      refine RW.q (v := .int .i64 (1 : Int)) rfl (q_move rfl) ?_
      refine RW.q (v := .int .i64 t.Seq) rfl (q_indexA1 (cs := #[.int .i64 t.Gauge, .int .i64 t.Seq, .int .i64 t.Clock, .int .i64 t.Value]) rfl rfl Try.underlying93 Try.underlying3 rfl sz3 (by decide) (by decide) rfl) ?_
      refine RW.q (v := .int .i64 (1 : Int)) rfl (q_assign rfl) ?_
      refine RW.q (v := .int .i64 t.Seq) rfl (q_assign rfl) ?_
      refine RW.nil ?_
      refine Post.then_n ?_
      refine AW.draw (J0 := St ⟨w, Φ, []⟩ Φ [.blk b4 93 [.int .i64 c0, .int .i64 c1, .int .i64 c2, .int .i64 c3], .blk b3 93 [.int .i64 127, .int .i64 1099511627776, .int .i64 1006633019, .int .i64 1099511627776], .blk b2 93 [.int .i64 0, .int .i64 0, .int .i64 0, .int .i64 (-1099511627776)], .blk b1 29 [.int .i64 t.Gauge, .int .i64 t.Seq, .int .i64 t.Clock, .int .i64 t.Value, .string t.Tag]]) [.q, .q, .q, .q, .q, .q, .q, .q, .q, .q, .q, .e] [0, 1, 2, 3, 4, 5, 6, 7, 8, 9, 10, 11] hmix (by kernel_rfl) ?_
      refine DW.q (v := .int .i64 (1 : Int)) (fun _ h => h) rfl (q_move rfl) ?_
      refine DW.q (v := .int .i64 (1 : Int)) (fun _ h => h) rfl (q_move rfl) ?_
      refine DW.q (v := .pointer (some (⟨b2, 1, none⟩))) (fun _ h => h) rfl (q_indexAddrA (i := ((1 : Nat) : Int)) rfl rfl Try.underlying93 sz3 (by decide) (by decide) rfl) ?_
      refine DW.q (v := .int .i64 0) (fun _ h => h) rfl (q_load rfl Try.underlying3 rfl (Cell.blk 2 rfl rfl)) ?_
      refine DW.q (v := .int .i64 (1 : Int)) (fun _ h => h) rfl (q_move rfl) ?_
      refine DW.q (v := .pointer (some (⟨b3, 1, none⟩))) (fun _ h => h) rfl (q_indexAddrA (i := ((1 : Nat) : Int)) rfl rfl Try.underlying93 sz3 (by decide) (by decide) rfl) ?_
      refine DW.q (v := .int .i64 1099511627776) (fun _ h => h) rfl (q_load rfl Try.underlying3 rfl (Cell.blk 1 rfl rfl)) ?_
      refine DW.q (v := .int .i64 t.Seq) (fun _ h => h) rfl (q_move rfl) ?_
      refine DW.q (v := .int .i64 (min 1099511627776 t.Seq)) (fun _ h => h) rfl (q_min rfl rfl) ?_
      refine DW.q (v := .int .i64 (max 0 (min 1099511627776 t.Seq))) (fun _ h => h) rfl (q_max rfl rfl) ?_
      refine DW.q (v := .pointer (some (⟨b4, 1, none⟩))) (fun _ h => h) rfl (q_indexAddrA (i := ((1 : Nat) : Int)) rfl rfl Try.underlying93 sz3 (by decide) (by decide) rfl) ?_
      refine DW.effn (J' := St ⟨w, Φ, []⟩ Φ [.blk b4 93 [.int .i64 c0, .int .i64 (max 0 (min 1099511627776 t.Seq)), .int .i64 c2, .int .i64 c3], .blk b3 93 [.int .i64 127, .int .i64 1099511627776, .int .i64 1006633019, .int .i64 1099511627776], .blk b2 93 [.int .i64 0, .int .i64 0, .int .i64 0, .int .i64 (-1099511627776)], .blk b1 29 [.int .i64 t.Gauge, .int .i64 t.Seq, .int .i64 t.Clock, .int .i64 t.Value, .string t.Tag]]) (fun h => absurd rfl h) (e_store (v := .int .i64 (max 0 (min 1099511627776 t.Seq))) 0 rfl rfl rfl sz3 rfl rfl rfl rfl rfl) ?_
      refine DW.nil ?_
      refine Post.blk_n (Post.then_n ?_)
      refine AW.region ?_
      refine RW.q (v := .int .i64 ((1 + 1 : Nat) : Int)) rfl (q_add rfl rfl (by omega) (by unfold I64; omega)) ?_
      refine RW.q (v := .int .i64 ((1 + 1 : Nat) : Int)) rfl (q_move rfl) ?_
      refine RW.nil ?_
      exact Post.back (s' := _) (J' := _) (m' := _) (by omega) ⟨2, c0, max 0 (min 1099511627776 t.Seq), c2, c3, rfl, rfl, rfl, (by omega), (by first | rfl | (rw [hc0_]; rfl)), (by first | rfl | (rw [hc1_]; rfl)), (by first | rfl | (rw [hc2_]; rfl)), (by first | rfl | (rw [hc3_]; rfl))⟩ ⟨rfl, rfl, rfl, rfl, rfl, rfl, rfl, trivial⟩ (fun _ h => StP.drop h (by exact .cons_cons _ (.cons_cons _ (.cons_cons _ (.cons_cons _ (.slnil))))))
    · skip
      refine AW.region ?_
      refine RW.q (v := .int .i64 (2 : Int)) rfl (q_move rfl) ?_
      refine RW.q (v := .int .i64 t.Clock) rfl (q_indexA1 (cs := #[.int .i64 t.Gauge, .int .i64 t.Seq, .int .i64 t.Clock, .int .i64 t.Value]) rfl rfl Try.underlying93 Try.underlying3 rfl sz3 (by decide) (by decide) rfl) ?_
      refine RW.q (v := .int .i64 (2 : Int)) rfl (q_assign rfl) ?_
      refine RW.q (v := .int .i64 t.Clock) rfl (q_assign rfl) ?_
      refine RW.nil ?_
      refine Post.then_n ?_
      refine AW.draw (J0 := St ⟨w, Φ, []⟩ Φ [.blk b4 93 [.int .i64 c0, .int .i64 c1, .int .i64 c2, .int .i64 c3], .blk b3 93 [.int .i64 127, .int .i64 1099511627776, .int .i64 1006633019, .int .i64 1099511627776], .blk b2 93 [.int .i64 0, .int .i64 0, .int .i64 0, .int .i64 (-1099511627776)], .blk b1 29 [.int .i64 t.Gauge, .int .i64 t.Seq, .int .i64 t.Clock, .int .i64 t.Value, .string t.Tag]]) [.q, .q, .q, .q, .q, .q, .q, .q, .q, .q, .q, .e] [0, 1, 2, 3, 4, 5, 6, 7, 8, 9, 10, 11] hmix (by kernel_rfl) ?_
      refine DW.q (v := .int .i64 (2 : Int)) (fun _ h => h) rfl (q_move rfl) ?_
      refine DW.q (v := .int .i64 (2 : Int)) (fun _ h => h) rfl (q_move rfl) ?_
      refine DW.q (v := .pointer (some (⟨b2, 2, none⟩))) (fun _ h => h) rfl (q_indexAddrA (i := ((2 : Nat) : Int)) rfl rfl Try.underlying93 sz3 (by decide) (by decide) rfl) ?_
      refine DW.q (v := .int .i64 0) (fun _ h => h) rfl (q_load rfl Try.underlying3 rfl (Cell.blk 2 rfl rfl)) ?_
      refine DW.q (v := .int .i64 (2 : Int)) (fun _ h => h) rfl (q_move rfl) ?_
      refine DW.q (v := .pointer (some (⟨b3, 2, none⟩))) (fun _ h => h) rfl (q_indexAddrA (i := ((2 : Nat) : Int)) rfl rfl Try.underlying93 sz3 (by decide) (by decide) rfl) ?_
      refine DW.q (v := .int .i64 1006633019) (fun _ h => h) rfl (q_load rfl Try.underlying3 rfl (Cell.blk 1 rfl rfl)) ?_
      refine DW.q (v := .int .i64 t.Clock) (fun _ h => h) rfl (q_move rfl) ?_
      refine DW.q (v := .int .i64 (min 1006633019 t.Clock)) (fun _ h => h) rfl (q_min rfl rfl) ?_
      refine DW.q (v := .int .i64 (max 0 (min 1006633019 t.Clock))) (fun _ h => h) rfl (q_max rfl rfl) ?_
      refine DW.q (v := .pointer (some (⟨b4, 2, none⟩))) (fun _ h => h) rfl (q_indexAddrA (i := ((2 : Nat) : Int)) rfl rfl Try.underlying93 sz3 (by decide) (by decide) rfl) ?_
      refine DW.effn (J' := St ⟨w, Φ, []⟩ Φ [.blk b4 93 [.int .i64 c0, .int .i64 c1, .int .i64 (max 0 (min 1006633019 t.Clock)), .int .i64 c3], .blk b3 93 [.int .i64 127, .int .i64 1099511627776, .int .i64 1006633019, .int .i64 1099511627776], .blk b2 93 [.int .i64 0, .int .i64 0, .int .i64 0, .int .i64 (-1099511627776)], .blk b1 29 [.int .i64 t.Gauge, .int .i64 t.Seq, .int .i64 t.Clock, .int .i64 t.Value, .string t.Tag]]) (fun h => absurd rfl h) (e_store (v := .int .i64 (max 0 (min 1006633019 t.Clock))) 0 rfl rfl rfl sz3 rfl rfl rfl rfl rfl) ?_
      refine DW.nil ?_
      refine Post.blk_n (Post.then_n ?_)
      refine AW.region ?_
      refine RW.q (v := .int .i64 ((2 + 1 : Nat) : Int)) rfl (q_add rfl rfl (by omega) (by unfold I64; omega)) ?_
      refine RW.q (v := .int .i64 ((2 + 1 : Nat) : Int)) rfl (q_move rfl) ?_
      refine RW.nil ?_
      exact Post.back (s' := _) (J' := _) (m' := _) (by omega) ⟨3, c0, c1, max 0 (min 1006633019 t.Clock), c3, rfl, rfl, rfl, (by omega), (by first | rfl | (rw [hc0_]; rfl)), (by first | rfl | (rw [hc1_]; rfl)), (by first | rfl | (rw [hc2_]; rfl)), (by first | rfl | (rw [hc3_]; rfl))⟩ ⟨rfl, rfl, rfl, rfl, rfl, rfl, rfl, trivial⟩ (fun _ h => StP.drop h (by exact .cons_cons _ (.cons_cons _ (.cons_cons _ (.cons_cons _ (.slnil))))))
    · skip
      refine AW.region ?_
      refine RW.q (v := .int .i64 (3 : Int)) rfl (q_move rfl) ?_
      refine RW.q (v := .int .i64 t.Value) rfl (q_indexA1 (cs := #[.int .i64 t.Gauge, .int .i64 t.Seq, .int .i64 t.Clock, .int .i64 t.Value]) rfl rfl Try.underlying93 Try.underlying3 rfl sz3 (by decide) (by decide) rfl) ?_
      refine RW.q (v := .int .i64 (3 : Int)) rfl (q_assign rfl) ?_
      refine RW.q (v := .int .i64 t.Value) rfl (q_assign rfl) ?_
      refine RW.nil ?_
      refine Post.then_n ?_
      refine AW.draw (J0 := St ⟨w, Φ, []⟩ Φ [.blk b4 93 [.int .i64 c0, .int .i64 c1, .int .i64 c2, .int .i64 c3], .blk b3 93 [.int .i64 127, .int .i64 1099511627776, .int .i64 1006633019, .int .i64 1099511627776], .blk b2 93 [.int .i64 0, .int .i64 0, .int .i64 0, .int .i64 (-1099511627776)], .blk b1 29 [.int .i64 t.Gauge, .int .i64 t.Seq, .int .i64 t.Clock, .int .i64 t.Value, .string t.Tag]]) [.q, .q, .q, .q, .q, .q, .q, .q, .q, .q, .q, .e] [0, 1, 2, 3, 4, 5, 6, 7, 8, 9, 10, 11] hmix (by kernel_rfl) ?_
      refine DW.q (v := .int .i64 (3 : Int)) (fun _ h => h) rfl (q_move rfl) ?_
      refine DW.q (v := .int .i64 (3 : Int)) (fun _ h => h) rfl (q_move rfl) ?_
      refine DW.q (v := .pointer (some (⟨b2, 3, none⟩))) (fun _ h => h) rfl (q_indexAddrA (i := ((3 : Nat) : Int)) rfl rfl Try.underlying93 sz3 (by decide) (by decide) rfl) ?_
      refine DW.q (v := .int .i64 (-1099511627776)) (fun _ h => h) rfl (q_load rfl Try.underlying3 rfl (Cell.blk 2 rfl rfl)) ?_
      refine DW.q (v := .int .i64 (3 : Int)) (fun _ h => h) rfl (q_move rfl) ?_
      refine DW.q (v := .pointer (some (⟨b3, 3, none⟩))) (fun _ h => h) rfl (q_indexAddrA (i := ((3 : Nat) : Int)) rfl rfl Try.underlying93 sz3 (by decide) (by decide) rfl) ?_
      refine DW.q (v := .int .i64 1099511627776) (fun _ h => h) rfl (q_load rfl Try.underlying3 rfl (Cell.blk 1 rfl rfl)) ?_
      refine DW.q (v := .int .i64 t.Value) (fun _ h => h) rfl (q_move rfl) ?_
      refine DW.q (v := .int .i64 (min 1099511627776 t.Value)) (fun _ h => h) rfl (q_min rfl rfl) ?_
      refine DW.q (v := .int .i64 (max (-1099511627776) (min 1099511627776 t.Value))) (fun _ h => h) rfl (q_max rfl rfl) ?_
      refine DW.q (v := .pointer (some (⟨b4, 3, none⟩))) (fun _ h => h) rfl (q_indexAddrA (i := ((3 : Nat) : Int)) rfl rfl Try.underlying93 sz3 (by decide) (by decide) rfl) ?_
      refine DW.effn (J' := St ⟨w, Φ, []⟩ Φ [.blk b4 93 [.int .i64 c0, .int .i64 c1, .int .i64 c2, .int .i64 (max (-1099511627776) (min 1099511627776 t.Value))], .blk b3 93 [.int .i64 127, .int .i64 1099511627776, .int .i64 1006633019, .int .i64 1099511627776], .blk b2 93 [.int .i64 0, .int .i64 0, .int .i64 0, .int .i64 (-1099511627776)], .blk b1 29 [.int .i64 t.Gauge, .int .i64 t.Seq, .int .i64 t.Clock, .int .i64 t.Value, .string t.Tag]]) (fun h => absurd rfl h) (e_store (v := .int .i64 (max (-1099511627776) (min 1099511627776 t.Value))) 0 rfl rfl rfl sz3 rfl rfl rfl rfl rfl) ?_
      refine DW.nil ?_
      refine Post.blk_n (Post.then_n ?_)
      refine AW.region ?_
      refine RW.q (v := .int .i64 ((3 + 1 : Nat) : Int)) rfl (q_add rfl rfl (by omega) (by unfold I64; omega)) ?_
      refine RW.q (v := .int .i64 ((3 + 1 : Nat) : Int)) rfl (q_move rfl) ?_
      refine RW.nil ?_
      exact Post.back (s' := _) (J' := _) (m' := _) (by omega) ⟨4, c0, c1, c2, max (-1099511627776) (min 1099511627776 t.Value), rfl, rfl, rfl, (by omega), (by first | rfl | (rw [hc0_]; rfl)), (by first | rfl | (rw [hc1_]; rfl)), (by first | rfl | (rw [hc2_]; rfl)), (by first | rfl | (rw [hc3_]; rfl))⟩ ⟨rfl, rfl, rfl, rfl, rfl, rfl, rfl, trivial⟩ (fun _ h => StP.drop h (by exact .cons_cons _ (.cons_cons _ (.cons_cons _ (.cons_cons _ (.slnil))))))
  · simp [-List.getD_eq_getElem?_getD] at hc1
    refine AW.exit ?_
    refine Post.then_x (Post.then_x (Post.blk_hit (Post.then_n ?_)))
    refine AW.seq ?_
    have hk4 : k = 4 := by omega
    subst hk4
    rw [if_pos (by decide)] at hc0_ hc1_ hc2_ hc3_
    refine AW.draw (J0 := St ⟨w, Φ, []⟩ Φ [.blk b4 93 [.int .i64 c0, .int .i64 c1, .int .i64 c2, .int .i64 c3], .blk b3 93 [.int .i64 127, .int .i64 1099511627776, .int .i64 1006633019, .int .i64 1099511627776], .blk b2 93 [.int .i64 0, .int .i64 0, .int .i64 0, .int .i64 (-1099511627776)], .blk b1 29 [.int .i64 t.Gauge, .int .i64 t.Seq, .int .i64 t.Clock, .int .i64 t.Value, .string t.Tag]]) [.q, .q, .q, .q, .q, .q, .q, .q, .q, .q, .q] [0, 1, 2, 3, 4, 5, 6, 7, 8, 9, 10] hmix (by kernel_rfl) ?_
    refine DW.q (v := .agg #[.int .i64 c0, .int .i64 c1, .int .i64 c2, .int .i64 c3]) (fun _ h => h) rfl (q_loadAgg rfl Try.underlying93 rfl sz93 rfl (Cells.blk 0 rfl)) ?_
    refine DW.q (v := .agg #[.int .i64 t.Gauge, .int .i64 t.Seq, .int .i64 t.Clock, .int .i64 t.Value, .string t.Tag]) (fun _ h => h) rfl (q_loadAgg rfl Try.underlying29 rfl sz29 rfl (Cells.blk 3 rfl)) ?_
    refine DW.q (v := .agg #[.int .i64 t.Gauge, .int .i64 t.Seq, .int .i64 t.Clock, .int .i64 t.Value]) (fun _ h => h) rfl (q_call (args := #[.agg #[.int .i64 t.Gauge, .int .i64 t.Seq, .int .i64 t.Clock, .int .i64 t.Value, .string t.Tag]]) own40 rfl rfl (fun w1 hw1 => numbers_c w1 (Go.K.hp w1) (Hp.le_refl _) (t := t))) ?_
    refine DW.q (v := .bool (decide (c0 = t.Gauge) && decide (c1 = t.Seq) && decide (c2 = t.Clock) && decide (c3 = t.Value))) (fun _ h => h) rfl (q_eqlS rfl rfl (eqS93 _ _ _ _ _ _ _ _) eqG93) ?_
    refine DW.q (v := .bool (decide (c0 = t.Gauge) && decide (c1 = t.Seq) && decide (c2 = t.Clock) && decide (c3 = t.Value))) (fun _ h => h) rfl (q_move rfl) ?_
    refine DW.g (b := (decide (c0 = t.Gauge) && decide (c1 = t.Seq) && decide (c2 = t.Clock) && decide (c3 = t.Value))) (v := .pointer (some (⟨b1, 4, none⟩))) (fun _ h => h) rfl rfl rfl (fun h => q_fieldAddr rfl Try.underlying29 rfl sz9 rfl) ?_
    refine DW.g (b := (decide (c0 = t.Gauge) && decide (c1 = t.Seq) && decide (c2 = t.Clock) && decide (c3 = t.Value))) (v := .string t.Tag) (fun _ h => h) rfl rfl rfl (fun h => q_load (gv_pos h) Try.underlying9 rfl (Cell.blk 3 rfl rfl)) ?_
    refine DW.g (b := (decide (c0 = t.Gauge) && decide (c1 = t.Seq) && decide (c2 = t.Clock) && decide (c3 = t.Value))) (v := .int .i64 ((t.Tag.data.toList.length : Nat) : Int)) (fun _ h => h) rfl rfl rfl (fun h => q_lenS (l := t.Tag.data.toList) (gv_pos h) Try.underlying9) ?_
    refine DW.g (b := (decide (c0 = t.Gauge) && decide (c1 = t.Seq) && decide (c2 = t.Clock) && decide (c3 = t.Value))) (v := .bool (decide (((t.Tag.data.toList.length : Nat) : Int) = 8))) (fun _ h => h) rfl rfl rfl (fun h => q_eql (gv_pos h) rfl) ?_
    refine DW.q (v := .bool ((decide (c0 = t.Gauge) && decide (c1 = t.Seq) && decide (c2 = t.Clock) && decide (c3 = t.Value)) && (decide (((t.Tag.data.toList.length : Nat) : Int) = 8)))) (fun _ h => h) rfl (q_pick rfl (fun hp => (gv_pos hp).trans (pkAndT hp)) (fun hp => pkAndF hp)) ?_
    refine DW.q (v := .bool ((decide (c0 = t.Gauge) && decide (c1 = t.Seq) && decide (c2 = t.Clock) && decide (c3 = t.Value)) && (decide (((t.Tag.data.toList.length : Nat) : Int) = 8)))) (fun _ h => h) rfl (q_assign rfl) ?_
    refine DW.nil ?_
    refine Post.then_n ?_
    refine AW.ret ?_
    exact fin_val (v' := .bool ((decide (c0 = t.Gauge) && decide (c1 = t.Seq) && decide (c2 = t.Clock) && decide (c3 = t.Value)) && (decide (((t.Tag.data.toList.length : Nat) : Int) = 8)))) rfl rfl rfl (by rw [hc0_, hc1_, hc2_, hc3_]; exact congrArg Value.bool (Se.formed_iff t))

set_option maxRecDepth 8000 in
set_option maxHeartbeats 1000000 in
theorem Right_c (w : World) (Φ : Hp) (hΦ : Hp.le Φ (hp w)) {b : Bt.Basin} {cs : List Value} (hB : RepV Φ b cs) {t : Bt.Gram} :
    Calls Try.prog 13 #[.agg cs.toArray, .agg #[.int .i64 t.Gauge, .int .i64 t.Seq, .int .i64 t.Clock, .int .i64 t.Value, .string t.Tag]] w fun e w' => e = .returned (.bool (decide (Se.Right b.Gauges.length t))) ∧ Bel w.heap.size w w' := by
  obtain ⟨v1, v3, v4, v5, v6, v7, v8, v9, hcs, hBw, r1, r3, r4, r5, r6, r7, r8, r9⟩ := (show Rep.rep Φ b cs from hB)
  subst hcs
  have hgm : b.Gauges.length * 48 ≤ 140737488355328 := r6.max
  refine calls_of_AW (args := [.agg #[.string b.Name, v1, .int .i64 b.Cells, v3, v4, v5, v6, v7, v8, v9, .int .i64 b.Err], .agg #[.int .i64 t.Gauge, .int .i64 t.Seq, .int .i64 t.Clock, .int .i64 t.Value, .string t.Tag]]) Try.func13 rfl (Nat.le_of_ble_eq_true rfl) (St ⟨w, Φ, []⟩ Φ []) (StP.init w Φ hΦ []) ?_
  show AW Try.prog 15 [] _ _ _ [(0, .agg #[.string b.Name, v1, .int .i64 b.Cells, v3, v4, v5, v6, v7, v8, v9, .int .i64 b.Err]), (1, .agg #[.int .i64 t.Gauge, .int .i64 t.Seq, .int .i64 t.Clock, .int .i64 t.Value, .string t.Tag])] _
  refine AW.seq ?_
  refine AW.region ?_
  refine RW.eff (fun b1 : Nat => .pointer (some (⟨b1, 0, none⟩))) (fun b1 => St ⟨w, Φ, []⟩ Φ [.blk b1 41 [.string b.Name, v1, .int .i64 b.Cells, v3, v4, v5, v6, v7, v8, v9, .int .i64 b.Err]]) rfl (e_boxA (cs := [.string b.Name, v1, .int .i64 b.Cells, v3, v4, v5, v6, v7, v8, v9, .int .i64 b.Err]) rfl) ?_
  intro b1
  refine RW.eff (fun b2 : Nat => .pointer (some (⟨b2, 0, none⟩))) (fun b2 => St ⟨w, Φ, []⟩ Φ [.blk b2 29 [.int .i64 t.Gauge, .int .i64 t.Seq, .int .i64 t.Clock, .int .i64 t.Value, .string t.Tag], .blk b1 41 [.string b.Name, v1, .int .i64 b.Cells, v3, v4, v5, v6, v7, v8, v9, .int .i64 b.Err]]) rfl (e_boxA (cs := [.int .i64 t.Gauge, .int .i64 t.Seq, .int .i64 t.Clock, .int .i64 t.Value, .string t.Tag]) rfl) ?_
  intro b2
  refine RW.q (v := .bool false) rfl (q_assign rfl) ?_
  refine RW.nil ?_
  refine Post.then_n ?_
  refine AW.seq ?_
  refine AW.region ?_
  refine RW.q (v := .agg #[.int .i64 t.Gauge, .int .i64 t.Seq, .int .i64 t.Clock, .int .i64 t.Value, .string t.Tag]) rfl (q_loadAgg rfl Try.underlying29 rfl sz29 rfl (Cells.blk 0 rfl)) ?_
  refine RW.q (v := .bool (decide (Se.Formed t))) rfl (q_call (args := #[.agg #[.int .i64 t.Gauge, .int .i64 t.Seq, .int .i64 t.Clock, .int .i64 t.Value, .string t.Tag]]) own26 rfl rfl (fun w1 hw1 => wellFormed_c w1 (Go.K.hp w1) (Hp.le_refl _) (t := t))) ?_
  refine RW.q (v := .bool (decide (Se.Formed t))) rfl (q_move rfl) ?_
  refine RW.g (b := (decide (Se.Formed t))) (v := .pointer (some (⟨b2, 0, none⟩))) rfl rfl rfl (fun h => q_fieldAddr rfl Try.underlying29 rfl sz3 rfl) ?_
  refine RW.g (b := (decide (Se.Formed t))) (v := .int .i64 t.Gauge) rfl rfl rfl (fun h => q_load (gv_pos h) Try.underlying3 rfl (Cell.blk 0 rfl rfl)) ?_
  refine RW.g (b := (decide (Se.Formed t))) (v := .pointer (some (⟨b1, 6, none⟩))) rfl rfl rfl (fun h => q_fieldAddr rfl Try.underlying41 rfl sz36 rfl) ?_
  refine RW.g (b := (decide (Se.Formed t))) (v := v6) rfl rfl rfl (fun h => q_load (gv_pos h) Try.underlying36 rfl (Cell.blk 1 rfl rfl)) ?_
  refine RW.g (b := (decide (Se.Formed t))) (v := .int .i64 ((b.Gauges.length : Nat) : Int)) rfl rfl rfl (fun h => q_len_sl (gv_pos h) r6.sl Try.underlying36) ?_
  refine RW.g (b := (decide (Se.Formed t))) (v := .bool (decide (t.Gauge < ((b.Gauges.length : Nat) : Int)))) rfl rfl rfl (fun h => q_lss (gv_pos h) (gv_pos h)) ?_
  refine RW.q (v := .bool ((decide (Se.Formed t)) && (decide (t.Gauge < ((b.Gauges.length : Nat) : Int))))) rfl (q_pick rfl (fun hp => (gv_pos hp).trans (pkAndT hp)) (fun hp => pkAndF hp)) ?_
  refine RW.q (v := .bool ((decide (Se.Formed t)) && (decide (t.Gauge < ((b.Gauges.length : Nat) : Int))))) rfl (q_assign rfl) ?_
  refine RW.nil ?_
  refine Post.then_n ?_
  refine AW.ret ?_
  exact fin_val (v' := .bool ((decide (Se.Formed t)) && (decide (t.Gauge < ((b.Gauges.length : Nat) : Int))))) rfl rfl rfl (by rw [← Se.right_iff])

set_option maxRecDepth 8000 in
set_option maxHeartbeats 1000000 in
theorem few_c (w : World) (Φ : Hp) (hΦ : Hp.le Φ (hp w)) {xs : List Bt.Gram} {v1 : Value} (h1 : RepSl Φ xs v1) :
    Calls Try.prog 8 #[v1] w fun e w' => e = .returned (.bool (decide (Se.Few xs))) ∧ Bel w.heap.size w w' := by
  refine calls_of_AW (args := [v1]) Try.func8 rfl (Nat.le_of_ble_eq_true rfl) (St ⟨w, Φ, []⟩ Φ []) (StP.init w Φ hΦ []) ?_
  show AW Try.prog 20 [] _ _ _ [(0, v1)] _
  have hm1 : xs.length * 48 ≤ 140737488355328 := h1.max
  refine AW.seq ?_
  refine AW.region ?_
  refine RW.q (v := .bool false) rfl (q_assign rfl) ?_
  refine RW.nil ?_
  refine Post.then_n ?_
  refine AW.seq ?_
  refine AW.seq ?_
  refine AW.region ?_
  refine RW.q (v := .int .i64 0) rfl (q_assign rfl) ?_
  refine RW.nil ?_
  refine Post.then_n ?_
  refine AW.block ?_
  refine AW.loop (fun s J m => ∃ (k : Nat), s = [(0, v1), (3, .int .i64 (k : Int))] ∧ J = St ⟨w, Φ, []⟩ Φ [] ∧ m = xs.length - k ∧ (k ≤ xs.length) ∧ (∀ j, j < k → (xs.getD j default).Tag.size ≤ 100)) (s0 := _) (J1 := _) (m0 := _) ⟨0, rfl, rfl, rfl, (by omega), (by omega)⟩ ⟨rfl, rfl, trivial⟩ (fun _ h => h) ?_
  rintro _ _ _ _ ⟨k, rfl, rfl, rfl, hk, hall⟩
  refine AW.seq ?_
  refine AW.seq ?_
  refine AW.region ?_
  refine RW.q (v := .int .i64 (k : Int)) rfl (q_move rfl) ?_
  refine RW.q (v := v1) rfl (q_move rfl) ?_
  refine RW.q (v := .int .i64 ((xs.length : Nat) : Int)) rfl (q_len_sl rfl h1.sl Try.underlying22) ?_
  refine RW.q (v := .bool (decide ((k : Int) < ((xs.length : Nat) : Int)))) rfl (q_lss rfl rfl) ?_
  refine RW.nil ?_
  refine Post.then_n ?_
  refine AW.cond (b := decide ((k : Int) < ((xs.length : Nat) : Int))) rfl (fun hc1 => ?_) (fun hc1 => ?_)
  · simp [-List.getD_eq_getElem?_getD] at hc1
    refine AW.skip ?_
    refine Post.then_n ?_
    refine AW.seq ?_
    refine AW.block ?_
    refine AW.seq ?_
    refine AW.region ?_
    refine RW.q (v := v1) rfl (q_move rfl) ?_
    refine RW.q (v := .int .i64 (k : Int)) rfl (q_move rfl) ?_
    refine RW.q (v := .pointer (some (Value.at v1 (k * 5)))) rfl (q_indexAddr rfl rfl h1.sl Try.underlying22 sz29 (by omega) (by omega) rfl) ?_
    refine RW.q (v := .pointer (some (Value.at v1 (k * 5 + 4)))) rfl (q_fieldAddr rfl Try.underlying29 rfl sz9 at_add) ?_
    refine RW.q (v := .string ((xs.getD k default).Tag)) rfl (q_load rfl Try.underlying9 rfl (Cell.repE (j := 4) h1 (by omega) rfl)) ?_
    refine RW.q (v := .int .i64 (((((xs.getD k default).Tag).data.toList).length : Nat) : Int)) rfl (q_lenS (l := ((xs.getD k default).Tag).data.toList) rfl Try.underlying9) ?_
    refine RW.q (v := .bool (decide ((100 : Int) < (((((xs.getD k default).Tag).data.toList).length : Nat) : Int)))) rfl (q_gtr rfl rfl) ?_
    refine RW.nil ?_
    refine Post.then_n ?_
    refine AW.cond (b := decide ((100 : Int) < (((((xs.getD k default).Tag).data.toList).length : Nat) : Int))) rfl (fun hc2 => ?_) (fun hc2 => ?_)
    · simp [-List.getD_eq_getElem?_getD] at hc2
      refine AW.seq ?_
      refine AW.region ?_
      refine RW.q (v := .bool false) rfl (q_assign rfl) ?_
      refine RW.nil ?_
      refine Post.then_n ?_
      refine AW.ret ?_
      refine Post.blk_r (Post.then_r (Post.then_r (Post.blk_r (Post.then_r ?_))))
      exact fin_val (v' := .bool false) rfl rfl rfl (by rw [decide_eq_false (fun hf => by have := hf.1 k (by omega); omega)])
    · simp [-List.getD_eq_getElem?_getD] at hc2
      refine AW.skip ?_
      refine Post.blk_n (Post.then_n ?_)
      refine AW.region ?_
      refine RW.q (v := .int .i64 (k : Int)) rfl (q_move rfl) ?_
      refine RW.q (v := .int .i64 ((k + 1 : Nat) : Int)) rfl (q_add rfl rfl (by omega) (by unfold I64; omega)) ?_
      refine RW.q (v := .int .i64 ((k + 1 : Nat) : Int)) rfl (q_assign rfl) ?_
      refine RW.nil ?_
      exact Post.back (s' := _) (J' := _) (m' := _) (by omega) ⟨k + 1, rfl, rfl, rfl, (by omega), (Se.lt_succ hall (by omega))⟩ ⟨rfl, rfl, trivial⟩ (fun _ h => h)
  · simp [-List.getD_eq_getElem?_getD] at hc1
    refine AW.exit ?_
    refine Post.then_x (Post.then_x (Post.blk_hit (Post.then_n ?_)))
    refine AW.seq ?_
    refine AW.region ?_
    refine RW.q (v := v1) rfl (q_move rfl) ?_
    refine RW.q (v := .int .i64 ((xs.length : Nat) : Int)) rfl (q_len_sl rfl h1.sl Try.underlying22) ?_
    refine RW.q (v := .bool (decide (((xs.length : Nat) : Int) ≤ 60))) rfl (q_leq rfl rfl) ?_
    refine RW.q (v := .bool (decide (((xs.length : Nat) : Int) ≤ 60))) rfl (q_assign rfl) ?_
    refine RW.nil ?_
    refine Post.then_n ?_
    refine AW.ret ?_
    exact fin_val (v' := .bool (decide (((xs.length : Nat) : Int) ≤ 60))) rfl rfl rfl (by congr 1; exact decide_eq_decide.2 ⟨fun hh => ⟨fun j hj => hall j (by omega), by omega⟩, fun hh => by have := hh.2; omega⟩)

set_option maxRecDepth 8000 in
set_option maxHeartbeats 1000000 in
theorem has_c (w : World) (Φ : Hp) (hΦ : Hp.le Φ (hp w)) {xs : List Bt.Gram} {v1 : Value} (h1 : RepSl Φ xs v1) {t : Bt.Gram} :
    Calls Try.prog 11 #[v1, .agg #[.int .i64 t.Gauge, .int .i64 t.Seq, .int .i64 t.Clock, .int .i64 t.Value, .string t.Tag]] w fun e w' => e = .returned (.bool (decide (t ∈ xs))) ∧ Bel w.heap.size w w' := by
  refine calls_of_AW (args := [v1, .agg #[.int .i64 t.Gauge, .int .i64 t.Seq, .int .i64 t.Clock, .int .i64 t.Value, .string t.Tag]]) Try.func11 rfl (Nat.le_of_ble_eq_true rfl) (St ⟨w, Φ, []⟩ Φ []) (StP.init w Φ hΦ []) ?_
  show AW Try.prog 18 [] _ _ _ [(0, v1), (1, .agg #[.int .i64 t.Gauge, .int .i64 t.Seq, .int .i64 t.Clock, .int .i64 t.Value, .string t.Tag])] _
  have hm1 : xs.length * 48 ≤ 140737488355328 := h1.max
  refine AW.seq ?_
  refine AW.region ?_
  refine RW.eff (fun b1 : Nat => .pointer (some (⟨b1, 0, none⟩))) (fun b1 => St ⟨w, Φ, []⟩ Φ [.blk b1 29 [.int .i64 t.Gauge, .int .i64 t.Seq, .int .i64 t.Clock, .int .i64 t.Value, .string t.Tag]]) rfl (e_boxA (cs := [.int .i64 t.Gauge, .int .i64 t.Seq, .int .i64 t.Clock, .int .i64 t.Value, .string t.Tag]) rfl) ?_
  intro b1
  refine RW.q (v := .bool false) rfl (q_assign rfl) ?_
  refine RW.nil ?_
  refine Post.then_n ?_
  refine AW.seq ?_
  refine AW.seq ?_
  refine AW.region ?_
  refine RW.q (v := .int .i64 0) rfl (q_assign rfl) ?_
  refine RW.nil ?_
  refine Post.then_n ?_
  refine AW.block ?_
  refine AW.loop (fun s J m => ∃ (k : Nat), s = [(0, v1), (3, .pointer (some (⟨b1, 0, none⟩))), (5, .int .i64 (k : Int))] ∧ J = St ⟨w, Φ, []⟩ Φ [.blk b1 29 [.int .i64 t.Gauge, .int .i64 t.Seq, .int .i64 t.Clock, .int .i64 t.Value, .string t.Tag]] ∧ m = xs.length - k ∧ (k ≤ xs.length) ∧ (∀ j, j < k → xs.getD j default ≠ t)) (s0 := _) (J1 := _) (m0 := _) ⟨0, rfl, rfl, rfl, (by omega), (by omega)⟩ ⟨rfl, rfl, rfl, trivial⟩ (fun _ h => h) ?_
  rintro _ _ _ _ ⟨k, rfl, rfl, rfl, hk, heq⟩
  refine AW.seq ?_
  refine AW.seq ?_
  refine AW.region ?_
  refine RW.q (v := .int .i64 (k : Int)) rfl (q_move rfl) ?_
  refine RW.q (v := v1) rfl (q_move rfl) ?_
  refine RW.q (v := .int .i64 ((xs.length : Nat) : Int)) rfl (q_len_sl rfl h1.sl Try.underlying22) ?_
  refine RW.q (v := .bool (decide ((k : Int) < ((xs.length : Nat) : Int)))) rfl (q_lss rfl rfl) ?_
  refine RW.nil ?_
  refine Post.then_n ?_
  refine AW.cond (b := decide ((k : Int) < ((xs.length : Nat) : Int))) rfl (fun hc1 => ?_) (fun hc1 => ?_)
  · simp [-List.getD_eq_getElem?_getD] at hc1
    refine AW.skip ?_
    refine Post.then_n ?_
    refine AW.seq ?_
    refine AW.block ?_
    refine AW.seq ?_
    refine AW.draw (J0 := St ⟨w, Φ, []⟩ Φ [.blk b1 29 [.int .i64 t.Gauge, .int .i64 t.Seq, .int .i64 t.Clock, .int .i64 t.Value, .string t.Tag]]) [.q, .q, .q, .q, .q, .q] [0, 1, 2, 3, 4, 5] hmix (by kernel_rfl) ?_
    refine DW.q (v := v1) (fun _ h => h) rfl (q_move rfl) ?_
    refine DW.q (v := .int .i64 (k : Int)) (fun _ h => h) rfl (q_move rfl) ?_
    refine DW.q (v := .pointer (some (Value.at v1 (k * 5)))) (fun _ h => h) rfl (q_indexAddr rfl rfl h1.sl Try.underlying22 sz29 (by omega) (by omega) rfl) ?_
    refine DW.q (v := .agg #[.int .i64 ((xs.getD k default).Gauge), .int .i64 ((xs.getD k default).Seq), .int .i64 ((xs.getD k default).Clock), .int .i64 ((xs.getD k default).Value), .string ((xs.getD k default).Tag)]) (fun _ h => h) rfl (q_loadAgg rfl Try.underlying29 rfl sz29 rfl (Cells.repE h1 (by omega) rfl)) ?_
    refine DW.q (v := .agg #[.int .i64 t.Gauge, .int .i64 t.Seq, .int .i64 t.Clock, .int .i64 t.Value, .string t.Tag]) (fun _ h => h) rfl (q_loadAgg rfl Try.underlying29 rfl sz29 rfl (Cells.blk 0 rfl)) ?_
    refine DW.q (v := .bool (decide ((xs.getD k default).Gauge = t.Gauge) && decide ((xs.getD k default).Seq = t.Seq) && decide ((xs.getD k default).Clock = t.Clock) && decide ((xs.getD k default).Value = t.Value) && decide (((xs.getD k default).Tag).data.toList = t.Tag.data.toList))) (fun _ h => h) rfl (q_eqlS rfl rfl (eqS29 _ _ _ _ _ _ _ _ _ _) eqG29) ?_
    refine DW.nil ?_
    refine Post.then_n ?_
    refine AW.cond (b := decide ((xs.getD k default).Gauge = t.Gauge) && decide ((xs.getD k default).Seq = t.Seq) && decide ((xs.getD k default).Clock = t.Clock) && decide ((xs.getD k default).Value = t.Value) && decide (((xs.getD k default).Tag).data.toList = t.Tag.data.toList)) rfl (fun hc2 => ?_) (fun hc2 => ?_)
    · simp [-List.getD_eq_getElem?_getD] at hc2
      refine AW.seq ?_
      refine AW.region ?_
      refine RW.q (v := .bool true) rfl (q_assign rfl) ?_
      refine RW.nil ?_
      refine Post.then_n ?_
      refine AW.ret ?_
      refine Post.blk_r (Post.then_r (Post.then_r (Post.blk_r (Post.then_r ?_))))
      exact fin_val (v' := .bool true) rfl rfl rfl (by rw [decide_eq_true (Se.mem_t (by omega) (Se.gram_eqB hc2))])
    · simp [-List.getD_eq_getElem?_getD] at hc2
      refine AW.skip ?_
      refine Post.blk_n (Post.then_n ?_)
      refine AW.region ?_
      refine RW.q (v := .int .i64 (k : Int)) rfl (q_move rfl) ?_
      refine RW.q (v := .int .i64 ((k + 1 : Nat) : Int)) rfl (q_add rfl rfl (by omega) (by unfold I64; omega)) ?_
      refine RW.q (v := .int .i64 ((k + 1 : Nat) : Int)) rfl (q_assign rfl) ?_
      refine RW.nil ?_
      exact Post.back (s' := _) (J' := _) (m' := _) (by omega) ⟨k + 1, rfl, rfl, rfl, (by omega), (Se.lt_succ heq (fun e => by rw [e] at hc2; simp at hc2))⟩ ⟨rfl, rfl, rfl, trivial⟩ (fun _ h => h)
  · simp [-List.getD_eq_getElem?_getD] at hc1
    refine AW.exit ?_
    refine Post.then_x (Post.then_x (Post.blk_hit (Post.then_n ?_)))
    refine AW.seq ?_
    refine AW.region ?_
    refine RW.q (v := .bool false) rfl (q_assign rfl) ?_
    refine RW.nil ?_
    refine Post.then_n ?_
    refine AW.ret ?_
    exact fin_val (v' := .bool false) rfl rfl rfl (by rw [decide_eq_false (Se.mem_f (fun j hj => heq j (by omega)))])

set_option maxRecDepth 8000 in
set_option maxHeartbeats 1000000 in
theorem SameG_c (w : World) (Φ : Hp) (hΦ : Hp.le Φ (hp w)) {xs ys : List Bt.Gram} {v1 v2 : Value} (h1 : RepSl Φ xs v1) (h2 : RepSl Φ ys v2) :
    Calls Try.prog 10 #[v1, v2] w fun e w' => e = .returned (.bool (decide (xs = ys))) ∧ Bel w.heap.size w w' := by
  refine calls_of_AW (args := [v1, v2]) Try.func10 rfl (Nat.le_of_ble_eq_true rfl) (St ⟨w, Φ, []⟩ Φ []) (StP.init w Φ hΦ []) ?_
  show AW Try.prog 26 [] _ _ _ [(0, v1), (1, v2)] _
  have hm1 : xs.length * 48 ≤ 140737488355328 := h1.max
  have hm2 : ys.length * 48 ≤ 140737488355328 := h2.max
  refine AW.seq ?_
  refine AW.region ?_
  refine RW.q (v := .bool false) rfl (q_assign rfl) ?_
  refine RW.nil ?_
  refine Post.then_n ?_
  refine AW.seq ?_
  refine AW.seq ?_
  refine AW.region ?_
  refine RW.q (v := v1) rfl (q_move rfl) ?_
  refine RW.q (v := .int .i64 ((xs.length : Nat) : Int)) rfl (q_len_sl rfl h1.sl Try.underlying22) ?_
  refine RW.q (v := v2) rfl (q_move rfl) ?_
  refine RW.q (v := .int .i64 ((ys.length : Nat) : Int)) rfl (q_len_sl rfl h2.sl Try.underlying22) ?_
  refine RW.q (v := .bool (!decide (((xs.length : Nat) : Int) = ((ys.length : Nat) : Int)))) rfl (q_neq rfl rfl) ?_
  refine RW.nil ?_
  refine Post.then_n ?_
  refine AW.cond (b := !decide (((xs.length : Nat) : Int) = ((ys.length : Nat) : Int))) rfl (fun hc1 => ?_) (fun hc1 => ?_)
  · simp [-List.getD_eq_getElem?_getD] at hc1
    refine AW.seq ?_
    refine AW.region ?_
    refine RW.q (v := .bool false) rfl (q_assign rfl) ?_
    refine RW.nil ?_
    refine Post.then_n ?_
    refine AW.ret ?_
    refine Post.then_r ?_
    exact fin_val (v' := .bool false) rfl rfl rfl (by rw [decide_eq_false (fun e => hc1 (by rw [e]))])
  · simp [-List.getD_eq_getElem?_getD] at hc1
    refine AW.skip ?_
    refine Post.then_n ?_
    refine AW.seq ?_
    refine AW.seq ?_
    refine AW.region ?_
    refine RW.q (v := .int .i64 0) rfl (q_assign rfl) ?_
    refine RW.nil ?_
    refine Post.then_n ?_
    refine AW.block ?_
    refine AW.loop (fun s J m => ∃ (k : Nat), s = [(0, v1), (1, v2), (5, .int .i64 (k : Int))] ∧ J = St ⟨w, Φ, []⟩ Φ [] ∧ m = xs.length - k ∧ (k ≤ xs.length) ∧ (∀ j, j < k → xs.getD j default = ys.getD j default)) (s0 := _) (J1 := _) (m0 := _) ⟨0, rfl, rfl, rfl, (by omega), (by omega)⟩ ⟨rfl, rfl, rfl, trivial⟩ (fun _ h => h) ?_
    rintro _ _ _ _ ⟨k, rfl, rfl, rfl, hk, heq⟩
    refine AW.seq ?_
    refine AW.seq ?_
    refine AW.region ?_
    refine RW.q (v := .int .i64 (k : Int)) rfl (q_move rfl) ?_
    refine RW.q (v := v1) rfl (q_move rfl) ?_
    refine RW.q (v := .int .i64 ((xs.length : Nat) : Int)) rfl (q_len_sl rfl h1.sl Try.underlying22) ?_
    refine RW.q (v := .bool (decide ((k : Int) < ((xs.length : Nat) : Int)))) rfl (q_lss rfl rfl) ?_
    refine RW.nil ?_
    refine Post.then_n ?_
    refine AW.cond (b := decide ((k : Int) < ((xs.length : Nat) : Int))) rfl (fun hc2 => ?_) (fun hc2 => ?_)
    · simp [-List.getD_eq_getElem?_getD] at hc2
      refine AW.skip ?_
      refine Post.then_n ?_
      refine AW.seq ?_
      refine AW.block ?_
      refine AW.seq ?_
      refine AW.draw (J0 := St ⟨w, Φ, []⟩ Φ []) [.q, .q, .q, .q, .q, .q, .q, .q, .q] [0, 1, 2, 3, 4, 5, 6, 7, 8] hmix (by kernel_rfl) ?_
      refine DW.q (v := v1) (fun _ h => h) rfl (q_move rfl) ?_
      refine DW.q (v := .int .i64 (k : Int)) (fun _ h => h) rfl (q_move rfl) ?_
      refine DW.q (v := .pointer (some (Value.at v1 (k * 5)))) (fun _ h => h) rfl (q_indexAddr rfl rfl h1.sl Try.underlying22 sz29 (by omega) (by omega) rfl) ?_
      refine DW.q (v := .agg #[.int .i64 ((xs.getD k default).Gauge), .int .i64 ((xs.getD k default).Seq), .int .i64 ((xs.getD k default).Clock), .int .i64 ((xs.getD k default).Value), .string ((xs.getD k default).Tag)]) (fun _ h => h) rfl (q_loadAgg rfl Try.underlying29 rfl sz29 rfl (Cells.repE h1 (by omega) rfl)) ?_
      refine DW.q (v := v2) (fun _ h => h) rfl (q_move rfl) ?_
      refine DW.q (v := .int .i64 (k : Int)) (fun _ h => h) rfl (q_move rfl) ?_
      refine DW.q (v := .pointer (some (Value.at v2 (k * 5)))) (fun _ h => h) rfl (q_indexAddr rfl rfl h2.sl Try.underlying22 sz29 (by omega) (by omega) rfl) ?_
      refine DW.q (v := .agg #[.int .i64 ((ys.getD k default).Gauge), .int .i64 ((ys.getD k default).Seq), .int .i64 ((ys.getD k default).Clock), .int .i64 ((ys.getD k default).Value), .string ((ys.getD k default).Tag)]) (fun _ h => h) rfl (q_loadAgg rfl Try.underlying29 rfl sz29 rfl (Cells.repE h2 (by omega) rfl)) ?_
      refine DW.q (v := .bool (!(decide ((xs.getD k default).Gauge = (ys.getD k default).Gauge) && decide ((xs.getD k default).Seq = (ys.getD k default).Seq) && decide ((xs.getD k default).Clock = (ys.getD k default).Clock) && decide ((xs.getD k default).Value = (ys.getD k default).Value) && decide (((xs.getD k default).Tag).data.toList = ((ys.getD k default).Tag).data.toList)))) (fun _ h => h) rfl (q_neqS rfl rfl (eqS29 _ _ _ _ _ _ _ _ _ _) eqG29) ?_
      refine DW.nil ?_
      refine Post.then_n ?_
      refine AW.cond (b := !(decide ((xs.getD k default).Gauge = (ys.getD k default).Gauge) && decide ((xs.getD k default).Seq = (ys.getD k default).Seq) && decide ((xs.getD k default).Clock = (ys.getD k default).Clock) && decide ((xs.getD k default).Value = (ys.getD k default).Value) && decide (((xs.getD k default).Tag).data.toList = ((ys.getD k default).Tag).data.toList))) rfl (fun hc3 => ?_) (fun hc3 => ?_)
      · simp [-List.getD_eq_getElem?_getD] at hc3
        refine AW.seq ?_
        refine AW.region ?_
        refine RW.q (v := .bool false) rfl (q_assign rfl) ?_
        refine RW.nil ?_
        refine Post.then_n ?_
        refine AW.ret ?_
        refine Post.blk_r (Post.then_r (Post.then_r (Post.blk_r (Post.then_r ?_))))
        exact fin_val (v' := .bool false) rfl rfl rfl (by rw [decide_eq_false (fun e => by rw [e] at hc3; simp at hc3)])
      · simp [-List.getD_eq_getElem?_getD] at hc3
        refine AW.skip ?_
        refine Post.blk_n (Post.then_n ?_)
        refine AW.region ?_
        refine RW.q (v := .int .i64 (k : Int)) rfl (q_move rfl) ?_
        refine RW.q (v := .int .i64 ((k + 1 : Nat) : Int)) rfl (q_add rfl rfl (by omega) (by unfold I64; omega)) ?_
        refine RW.q (v := .int .i64 ((k + 1 : Nat) : Int)) rfl (q_assign rfl) ?_
        refine RW.nil ?_
        exact Post.back (s' := _) (J' := _) (m' := _) (by omega) ⟨k + 1, rfl, rfl, rfl, (by omega), (Se.lt_succ heq (Se.gram_eqP (by simpa [-List.getD_eq_getElem?_getD] using hc3)))⟩ ⟨rfl, rfl, rfl, trivial⟩ (fun _ h => h)
    · simp [-List.getD_eq_getElem?_getD] at hc2
      refine AW.exit ?_
      refine Post.then_x (Post.then_x (Post.blk_hit (Post.then_n ?_)))
      refine AW.seq ?_
      refine AW.region ?_
      refine RW.q (v := .bool true) rfl (q_assign rfl) ?_
      refine RW.nil ?_
      refine Post.then_n ?_
      refine AW.ret ?_
      exact fin_val (v' := .bool true) rfl rfl rfl (by rw [decide_eq_true (Se.getD_ext default (by omega) (fun j hj => heq j (by omega)))])

set_option maxRecDepth 8000 in
set_option maxHeartbeats 1000000 in
theorem SameR_c (w : World) (Φ : Hp) (hΦ : Hp.le Φ (hp w)) {xs ys : List Bt.Reading} {v1 v2 : Value} (h1 : RepSl Φ xs v1) (h2 : RepSl Φ ys v2) :
    Calls Try.prog 15 #[v1, v2] w fun e w' => e = .returned (.bool (decide (xs = ys))) ∧ Bel w.heap.size w w' := by
  refine calls_of_AW (args := [v1, v2]) Try.func15 rfl (Nat.le_of_ble_eq_true rfl) (St ⟨w, Φ, []⟩ Φ []) (StP.init w Φ hΦ []) ?_
  show AW Try.prog 26 [] _ _ _ [(0, v1), (1, v2)] _
  have hm1 : xs.length * 32 ≤ 140737488355328 := h1.max
  have hm2 : ys.length * 32 ≤ 140737488355328 := h2.max
  refine AW.seq ?_
  refine AW.region ?_
  refine RW.q (v := .bool false) rfl (q_assign rfl) ?_
  refine RW.nil ?_
  refine Post.then_n ?_
  refine AW.seq ?_
  refine AW.seq ?_
  refine AW.region ?_
  refine RW.q (v := v1) rfl (q_move rfl) ?_
  refine RW.q (v := .int .i64 ((xs.length : Nat) : Int)) rfl (q_len_sl rfl h1.sl Try.underlying43) ?_
  refine RW.q (v := v2) rfl (q_move rfl) ?_
  refine RW.q (v := .int .i64 ((ys.length : Nat) : Int)) rfl (q_len_sl rfl h2.sl Try.underlying43) ?_
  refine RW.q (v := .bool (!decide (((xs.length : Nat) : Int) = ((ys.length : Nat) : Int)))) rfl (q_neq rfl rfl) ?_
  refine RW.nil ?_
  refine Post.then_n ?_
  refine AW.cond (b := !decide (((xs.length : Nat) : Int) = ((ys.length : Nat) : Int))) rfl (fun hc1 => ?_) (fun hc1 => ?_)
  · simp [-List.getD_eq_getElem?_getD] at hc1
    refine AW.seq ?_
    refine AW.region ?_
    refine RW.q (v := .bool false) rfl (q_assign rfl) ?_
    refine RW.nil ?_
    refine Post.then_n ?_
    refine AW.ret ?_
    refine Post.then_r ?_
    exact fin_val (v' := .bool false) rfl rfl rfl (by rw [decide_eq_false (fun e => hc1 (by rw [e]))])
  · simp [-List.getD_eq_getElem?_getD] at hc1
    refine AW.skip ?_
    refine Post.then_n ?_
    refine AW.seq ?_
    refine AW.seq ?_
    refine AW.region ?_
    refine RW.q (v := .int .i64 0) rfl (q_assign rfl) ?_
    refine RW.nil ?_
    refine Post.then_n ?_
    refine AW.block ?_
    refine AW.loop (fun s J m => ∃ (k : Nat), s = [(0, v1), (1, v2), (5, .int .i64 (k : Int))] ∧ J = St ⟨w, Φ, []⟩ Φ [] ∧ m = xs.length - k ∧ (k ≤ xs.length) ∧ (∀ j, j < k → xs.getD j default = ys.getD j default)) (s0 := _) (J1 := _) (m0 := _) ⟨0, rfl, rfl, rfl, (by omega), (by omega)⟩ ⟨rfl, rfl, rfl, trivial⟩ (fun _ h => h) ?_
    rintro _ _ _ _ ⟨k, rfl, rfl, rfl, hk, heq⟩
    refine AW.seq ?_
    refine AW.seq ?_
    refine AW.region ?_
    refine RW.q (v := .int .i64 (k : Int)) rfl (q_move rfl) ?_
    refine RW.q (v := v1) rfl (q_move rfl) ?_
    refine RW.q (v := .int .i64 ((xs.length : Nat) : Int)) rfl (q_len_sl rfl h1.sl Try.underlying43) ?_
    refine RW.q (v := .bool (decide ((k : Int) < ((xs.length : Nat) : Int)))) rfl (q_lss rfl rfl) ?_
    refine RW.nil ?_
    refine Post.then_n ?_
    refine AW.cond (b := decide ((k : Int) < ((xs.length : Nat) : Int))) rfl (fun hc2 => ?_) (fun hc2 => ?_)
    · simp [-List.getD_eq_getElem?_getD] at hc2
      refine AW.skip ?_
      refine Post.then_n ?_
      refine AW.seq ?_
      refine AW.block ?_
      refine AW.seq ?_
      refine AW.draw (J0 := St ⟨w, Φ, []⟩ Φ []) [.q, .q, .q, .q, .q, .q, .q, .q, .q] [0, 1, 2, 3, 4, 5, 6, 7, 8] hmix (by kernel_rfl) ?_
      refine DW.q (v := v1) (fun _ h => h) rfl (q_move rfl) ?_
      refine DW.q (v := .int .i64 (k : Int)) (fun _ h => h) rfl (q_move rfl) ?_
      refine DW.q (v := .pointer (some (Value.at v1 (k * 4)))) (fun _ h => h) rfl (q_indexAddr rfl rfl h1.sl Try.underlying43 sz49 (by omega) (by omega) rfl) ?_
      refine DW.q (v := .agg #[.int .i64 ((xs.getD k default).Gauge), .int .i64 ((xs.getD k default).Hour), .int .i64 ((xs.getD k default).Value.Lo), .int .i64 ((xs.getD k default).Value.Hi)]) (fun _ h => h) rfl (q_loadAgg rfl Try.underlying49 rfl sz49 rfl (Cells.repE h1 (by omega) rfl)) ?_
      refine DW.q (v := v2) (fun _ h => h) rfl (q_move rfl) ?_
      refine DW.q (v := .int .i64 (k : Int)) (fun _ h => h) rfl (q_move rfl) ?_
      refine DW.q (v := .pointer (some (Value.at v2 (k * 4)))) (fun _ h => h) rfl (q_indexAddr rfl rfl h2.sl Try.underlying43 sz49 (by omega) (by omega) rfl) ?_
      refine DW.q (v := .agg #[.int .i64 ((ys.getD k default).Gauge), .int .i64 ((ys.getD k default).Hour), .int .i64 ((ys.getD k default).Value.Lo), .int .i64 ((ys.getD k default).Value.Hi)]) (fun _ h => h) rfl (q_loadAgg rfl Try.underlying49 rfl sz49 rfl (Cells.repE h2 (by omega) rfl)) ?_
      refine DW.q (v := .bool (!(decide ((xs.getD k default).Gauge = (ys.getD k default).Gauge) && decide ((xs.getD k default).Hour = (ys.getD k default).Hour) && decide ((xs.getD k default).Value.Lo = (ys.getD k default).Value.Lo) && decide ((xs.getD k default).Value.Hi = (ys.getD k default).Value.Hi)))) (fun _ h => h) rfl (q_neqS rfl rfl (eqS49 _ _ _ _ _ _ _ _) eqG49) ?_
      refine DW.nil ?_
      refine Post.then_n ?_
      refine AW.cond (b := !(decide ((xs.getD k default).Gauge = (ys.getD k default).Gauge) && decide ((xs.getD k default).Hour = (ys.getD k default).Hour) && decide ((xs.getD k default).Value.Lo = (ys.getD k default).Value.Lo) && decide ((xs.getD k default).Value.Hi = (ys.getD k default).Value.Hi))) rfl (fun hc3 => ?_) (fun hc3 => ?_)
      · simp [-List.getD_eq_getElem?_getD] at hc3
        refine AW.seq ?_
        refine AW.region ?_
        refine RW.q (v := .bool false) rfl (q_assign rfl) ?_
        refine RW.nil ?_
        refine Post.then_n ?_
        refine AW.ret ?_
        refine Post.blk_r (Post.then_r (Post.then_r (Post.blk_r (Post.then_r ?_))))
        exact fin_val (v' := .bool false) rfl rfl rfl (by rw [decide_eq_false (fun e => by rw [e] at hc3; simp at hc3)])
      · simp [-List.getD_eq_getElem?_getD] at hc3
        refine AW.skip ?_
        refine Post.blk_n (Post.then_n ?_)
        refine AW.region ?_
        refine RW.q (v := .int .i64 (k : Int)) rfl (q_move rfl) ?_
        refine RW.q (v := .int .i64 ((k + 1 : Nat) : Int)) rfl (q_add rfl rfl (by omega) (by unfold I64; omega)) ?_
        refine RW.q (v := .int .i64 ((k + 1 : Nat) : Int)) rfl (q_assign rfl) ?_
        refine RW.nil ?_
        exact Post.back (s' := _) (J' := _) (m' := _) (by omega) ⟨k + 1, rfl, rfl, rfl, (by omega), (Se.lt_succ heq (Se.read_eqP (by simpa [-List.getD_eq_getElem?_getD] using hc3)))⟩ ⟨rfl, rfl, rfl, trivial⟩ (fun _ h => h)
    · simp [-List.getD_eq_getElem?_getD] at hc2
      refine AW.exit ?_
      refine Post.then_x (Post.then_x (Post.blk_hit (Post.then_n ?_)))
      refine AW.seq ?_
      refine AW.region ?_
      refine RW.q (v := .bool true) rfl (q_assign rfl) ?_
      refine RW.nil ?_
      refine Post.then_n ?_
      refine AW.ret ?_
      exact fin_val (v' := .bool true) rfl rfl rfl (by rw [decide_eq_true (Se.getD_ext default (by omega) (fun j hj => heq j (by omega)))])

end Go.Proofs.Ytlljbndnodbecaa
