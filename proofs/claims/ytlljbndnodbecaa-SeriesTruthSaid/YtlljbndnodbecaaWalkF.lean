/- Walks (part WalkF), printed by walk2.py. Conditions: those of each theorem. -/
import Derived.Test.YtlljbndnodbecaaWalkE
import Derived.Test.YtlljbndnodbecaaPlainG
namespace Go.Proofs.Ytlljbndnodbecaa
open Go Go.K Go.RowKit

set_option maxRecDepth 8000 in
set_option maxHeartbeats 4000000 in
theorem Readings_c (w : World) (Φ : Hp) (hΦ : Hp.le Φ (hp w)) {b : Bt.Basin} {cs : List Value} (hB : RepV Φ b cs) {xs : List Bt.Gram} {v2x : Value} (h2 : RepSl Φ xs v2x) (hxl : xs.length ≤ 100000) {u v : Int} (hu : I64 u) (hv : I64 v) :
    Calls Try.prog 14 #[.agg cs.toArray, v2x, .int .i64 u, .int .i64 v] w (RetS noHp w fun r Ψ => ∃ R, RepSl Ψ R r ∧ Se.Rds b xs u v R) := by
  obtain ⟨v1, v3, v4, v5, v6, v7, v8, v9, hcs, hBw, r1, r3, r4, r5, r6, r7, r8, r9⟩ := (show Rep.rep Φ b cs from hB)
  subst hcs
  have hgm : b.Gauges.length * 48 ≤ 140737488355328 := r6.max
  refine calls_of_AW (args := [.agg #[.string b.Name, v1, .int .i64 b.Cells, v3, v4, v5, v6, v7, v8, v9, .int .i64 b.Err], v2x, .int .i64 u, .int .i64 v]) Try.func14 rfl (Nat.le_of_ble_eq_true rfl) (St ⟨w, Φ, []⟩ Φ []) (StP.init w Φ hΦ []) ?_
  show AW Try.prog 124 [] _ _ _ [(0, .agg #[.string b.Name, v1, .int .i64 b.Cells, v3, v4, v5, v6, v7, v8, v9, .int .i64 b.Err]), (1, v2x), (2, .int .i64 u), (3, .int .i64 v)] _
  have hmx : xs.length * 48 ≤ 140737488355328 := h2.max
  have hu0 := hu
  have hv0 := hv
  unfold I64 at hu0 hv0
  refine AW.seq ?_
  refine AW.region ?_
  refine RW.eff (fun b1 : Nat => .pointer (some (⟨b1, 0, none⟩))) (fun b1 => St ⟨w, Φ, []⟩ Φ [.blk b1 41 [.string b.Name, v1, .int .i64 b.Cells, v3, v4, v5, v6, v7, v8, v9, .int .i64 b.Err]]) rfl (e_boxA (cs := [.string b.Name, v1, .int .i64 b.Cells, v3, v4, v5, v6, v7, v8, v9, .int .i64 b.Err]) rfl) ?_
  intro b1
  refine RW.q (v := (.slice none 0 0)) rfl (q_assign rfl) ?_
  refine RW.nil ?_
  refine Post.then_n ?_
  refine AW.seq ?_
  refine AW.region ?_
  refine RW.q (v := v2x) rfl (q_move rfl) ?_
  refine RW.eff (fun b2 : Nat => .map (some b2)) (fun b2 => St ⟨w, Φ, []⟩ Φ [.kmap kInt Value.bool b2 (Se.voidM xs), .blk b1 41 [.string b.Name, v1, .int .i64 b.Cells, v3, v4, v5, v6, v7, v8, v9, .int .i64 b.Err]]) rfl (e_call (args := #[v2x]) own25 rfl rfl (fun w1 hw1 => voids_c rfl h2 w1 hw1)) ?_
  intro b2
  refine RW.q (v := .map (some b2)) rfl (q_assign rfl) ?_
  refine RW.nil ?_
  refine Post.then_n ?_
  refine AW.seq ?_
  refine AW.region ?_
  refine RW.eff (fun b3 : Nat => .map (some b3)) (fun b3 => St ⟨w, Φ, []⟩ Φ [.kmap kPlc spanV b3 (fun _ => none), .kmap kInt Value.bool b2 (Se.voidM xs), .blk b1 41 [.string b.Name, v1, .int .i64 b.Cells, v3, v4, v5, v6, v7, v8, v9, .int .i64 b.Err]]) rfl (e_kmake kPlc spanV) ?_
  intro b3
  refine RW.q (v := .map (some b3)) rfl (q_assign rfl) ?_
  refine RW.nil ?_
  refine Post.then_n ?_
  refine AW.seq ?_
  refine AW.seq ?_
  refine AW.region ?_
  refine RW.q (v := v2x) rfl (q_move rfl) ?_
  refine RW.q (v := .int .i64 ((xs.length : Nat) : Int)) rfl (q_len_sl rfl h2.sl Try.underlying22) ?_
  refine RW.q (v := .int .i64 0) rfl (q_move rfl) ?_
  refine RW.nil ?_
  refine Post.then_n ?_
  refine AW.block ?_
  refine AW.loop (fun s J m => ∃ (k : Nat), s = [(2, .int .i64 u), (3, .int .i64 v), (4, .pointer (some (⟨b1, 0, none⟩))), (9, .map (some b2)), (10, .map (some b3)), (26, v2x), (27, .int .i64 ((xs.length : Nat) : Int)), (28, .int .i64 (k : Int))] ∧ J = St ⟨w, Φ, []⟩ Φ [.kmap kPlc spanV b3 (Se.valM b xs u v (xs.take k)), .kmap kInt Value.bool b2 (Se.voidM xs), .blk b1 41 [.string b.Name, v1, .int .i64 b.Cells, v3, v4, v5, v6, v7, v8, v9, .int .i64 b.Err]] ∧ m = xs.length - k ∧ (k ≤ xs.length)) (s0 := _) (J1 := _) (m0 := _) ⟨0, rfl, rfl, rfl, (by omega)⟩ ⟨rfl, rfl, rfl, rfl, rfl, rfl, rfl, rfl, trivial⟩ (fun _ h => by rw [show Se.valM b xs u v (xs.take 0) = fun _ => none from Se.valM_nil b xs u v]; exact h) ?_
  rintro _ _ _ _ ⟨k, rfl, rfl, rfl, hk⟩
  refine AW.seq ?_
  refine AW.region ?_
  refine RW.q (v := .bool (decide ((k : Int) < ((xs.length : Nat) : Int)))) rfl (q_lss rfl rfl) ?_
  refine RW.nil ?_
  refine Post.then_n ?_
  refine AW.seq ?_
  refine AW.cond (b := decide ((k : Int) < ((xs.length : Nat) : Int))) rfl (fun hc1 => ?_) (fun hc1 => ?_)
  · simp [-List.getD_eq_getElem?_getD] at hc1
    refine AW.skip ?_
    refine Post.then_n ?_
    refine AW.seq ?_
    refine AW.block ?_
    refine AW.seq ?_
    refine AW.region ?_
    refine RW.q (v := .pointer (some (Value.at v2x (k * 5)))) rfl (q_indexAddr rfl rfl h2.sl Try.underlying22 sz29 (by omega) (by omega) rfl) ?_
    refine RW.q (v := .agg #[.int .i64 ((xs.getD k default).Gauge), .int .i64 ((xs.getD k default).Seq), .int .i64 ((xs.getD k default).Clock), .int .i64 ((xs.getD k default).Value), .string ((xs.getD k default).Tag)]) rfl (q_loadAgg rfl Try.underlying29 rfl sz29 rfl (Cells.repE h2 (by omega) rfl)) ?_
    refine RW.eff (fun b4 : Nat => .pointer (some (⟨b4, 0, none⟩))) (fun b4 => St ⟨w, Φ, []⟩ Φ [.blk b4 29 [.int .i64 0, .int .i64 0, .int .i64 0, .int .i64 0, .string (bs ([]))], .kmap kPlc spanV b3 (Se.valM b xs u v (xs.take k)), .kmap kInt Value.bool b2 (Se.voidM xs), .blk b1 41 [.string b.Name, v1, .int .i64 b.Cells, v3, v4, v5, v6, v7, v8, v9, .int .i64 b.Err]]) rfl (e_alloc zero29) ?_
    intro b4
    refine RW.effn (J' := St ⟨w, Φ, []⟩ Φ [.blk b4 29 [.int .i64 ((xs.getD k default).Gauge), .int .i64 ((xs.getD k default).Seq), .int .i64 ((xs.getD k default).Clock), .int .i64 ((xs.getD k default).Value), .string ((xs.getD k default).Tag)], .kmap kPlc spanV b3 (Se.valM b xs u v (xs.take k)), .kmap kInt Value.bool b2 (Se.voidM xs), .blk b1 41 [.string b.Name, v1, .int .i64 b.Cells, v3, v4, v5, v6, v7, v8, v9, .int .i64 b.Err]]) (e_store (v := .agg #[.int .i64 ((xs.getD k default).Gauge), .int .i64 ((xs.getD k default).Seq), .int .i64 ((xs.getD k default).Clock), .int .i64 ((xs.getD k default).Value), .string ((xs.getD k default).Tag)]) 0 rfl rfl rfl sz29 rfl rfl rfl rfl rfl) ?_
    refine RW.nil ?_
    refine Post.then_n ?_
    refine AW.seq ?_
    refine AW.seq ?_
    have hwk : I64 (xs.getD k default).Gauge ∧ I64 (xs.getD k default).Seq ∧ I64 (xs.getD k default).Clock ∧ I64 (xs.getD k default).Value ∧ (xs.getD k default).Tag.size ≤ maxLen := h2.wfE _ (Se.getD_mem (by omega))
    have hwg : kInt.good (xs.getD k default).Gauge := hwk.1
    refine AW.region ?_
    refine RW.q (v := .agg #[.string b.Name, v1, .int .i64 b.Cells, v3, v4, v5, v6, v7, v8, v9, .int .i64 b.Err]) rfl (q_loadAgg rfl Try.underlying41 rfl sz41 rfl (Cells.blk 3 rfl)) ?_
    refine RW.q (v := .agg #[.int .i64 ((xs.getD k default).Gauge), .int .i64 ((xs.getD k default).Seq), .int .i64 ((xs.getD k default).Clock), .int .i64 ((xs.getD k default).Value), .string ((xs.getD k default).Tag)]) rfl (q_loadAgg rfl Try.underlying29 rfl sz29 rfl (Cells.blk 0 rfl)) ?_
    refine RW.q (v := .bool (decide (Se.Right b.Gauges.length (xs.getD k default)))) rfl (q_call (args := #[.agg #[.string b.Name, v1, .int .i64 b.Cells, v3, v4, v5, v6, v7, v8, v9, .int .i64 b.Err], .agg #[.int .i64 ((xs.getD k default).Gauge), .int .i64 ((xs.getD k default).Seq), .int .i64 ((xs.getD k default).Clock), .int .i64 ((xs.getD k default).Value), .string ((xs.getD k default).Tag)]]) own13 rfl rfl (fun w1 hw1 => Right_c w1 (Go.K.hp w1) (Hp.le_refl _) (hB.mono hw1.phi) (t := (xs.getD k default)))) ?_
    refine RW.q (v := .bool (!(decide (Se.Right b.Gauges.length (xs.getD k default))))) rfl (q_not rfl) ?_
    refine RW.q (v := .bool (!(decide (Se.Right b.Gauges.length (xs.getD k default))))) rfl (q_move rfl) ?_
    refine RW.g (b := (!(decide (Se.Right b.Gauges.length (xs.getD k default))))) (v := .map (some b2)) rfl rfl rfl (fun h => q_move rfl) ?_
    refine RW.g (b := (!(decide (Se.Right b.Gauges.length (xs.getD k default))))) (v := .pointer (some (⟨b4, 0, none⟩))) rfl rfl rfl (fun h => q_fieldAddr rfl Try.underlying29 rfl sz3 rfl) ?_
    refine RW.g (b := (!(decide (Se.Right b.Gauges.length (xs.getD k default))))) (v := .int .i64 ((xs.getD k default).Gauge)) rfl rfl rfl (fun h => q_load (gv_pos h) Try.underlying3 rfl (Cell.blk 0 rfl rfl)) ?_
    refine RW.g (b := (!(decide (Se.Right b.Gauges.length (xs.getD k default))))) (v := .bool (decide (Se.VoidP xs ((xs.getD k default).Gauge)))) rfl rfl rfl (fun h => q_as (q_kLook1 (L := kInt) (ew := Value.bool) (M := Se.voidM xs) (k := (xs.getD k default).Gauge) (d := false) 2 rfl (gv_pos h) (gv_pos h) (by assumption) Try.underlying69 zero4) (show Value.bool (((Se.voidM xs) ((xs.getD k default).Gauge)).getD false) = _ from congrArg Value.bool (Se.voidM_dec _ _))) ?_
    refine RW.q (v := .bool ((!(decide (Se.Right b.Gauges.length (xs.getD k default)))) || (decide (Se.VoidP xs ((xs.getD k default).Gauge))))) rfl (q_pick rfl (fun hp => pkOrT hp) (fun hp => (gv_pos hp).trans (pkOrF hp))) ?_
    refine RW.nil ?_
    refine Post.then_n ?_
    refine AW.cond (b := (!(decide (Se.Right b.Gauges.length (xs.getD k default)))) || (decide (Se.VoidP xs ((xs.getD k default).Gauge)))) rfl (fun hc2 => ?_) (fun hc2 => ?_)
    · simp [-List.getD_eq_getElem?_getD] at hc2
      refine AW.exit ?_
      refine Post.then_x (Post.blk_hit (Post.then_n ?_))
      refine AW.region ?_
      refine RW.q (v := .int .i64 ((k + 1 : Nat) : Int)) rfl (q_add rfl rfl (by omega) (by unfold I64; omega)) ?_
      refine RW.q (v := .int .i64 ((k + 1 : Nat) : Int)) rfl (q_move rfl) ?_
      refine RW.nil ?_
      have hno : ¬ Se.Use b xs u v (xs.getD k default) := fun hU => by
        rcases hc2 with h9 | h9
        · exact h9 hU.1
        · exact hU.2.1 h9
      exact Post.back (s' := _) (J' := _) (m' := _) (by omega) ⟨k + 1, rfl, rfl, rfl, (by omega)⟩ ⟨rfl, rfl, rfl, rfl, rfl, rfl, rfl, rfl, trivial⟩ (fun _ h => by rw [Se.take_snoc (show k < xs.length by omega), Se.valM_skip hno]; exact StP.drop h (by exact .cons _ (.cons_cons _ (.cons_cons _ (.cons_cons _ (.slnil))))))
    · simp [-List.getD_eq_getElem?_getD] at hc2
      refine AW.skip ?_
      refine Post.then_n ?_
      refine AW.seq ?_
      have hrt := hc2.1
      unfold Se.Right at hrt
      have hgi : (xs.getD k default).Gauge.toNat < b.Gauges.length := by omega
      have hck : 0 ≤ (xs.getD k default).Clock ∧ (xs.getD k default).Clock ≤ 1006633019 := hrt.2.2.1
      refine AW.region ?_
      refine RW.q (v := .pointer (some (⟨b1, 6, none⟩))) rfl (q_fieldAddr rfl Try.underlying41 rfl sz36 rfl) ?_
      refine RW.q (v := v6) rfl (q_load rfl Try.underlying36 rfl (Cell.blk 3 rfl rfl)) ?_
      refine RW.q (v := .pointer (some (⟨b4, 0, none⟩))) rfl (q_fieldAddr rfl Try.underlying29 rfl sz3 rfl) ?_
      refine RW.q (v := .int .i64 (((xs.getD k default).Gauge.toNat : Nat) : Int)) rfl (q_as (v := .int .i64 ((xs.getD k default).Gauge)) (q_load rfl Try.underlying3 rfl (Cell.blk 0 rfl rfl)) (congrArg (Value.int .i64) ((Int.toNat_of_nonneg (by omega)).symm))) ?_
      refine RW.q (v := .pointer (some (Value.at v6 (((xs.getD k default).Gauge.toNat) * 5)))) rfl (q_indexAddr rfl rfl r6.sl Try.underlying36 sz63 (by omega) (by omega) rfl) ?_
      refine RW.q (v := .agg #[.string ((b.Gauges.getD ((xs.getD k default).Gauge.toNat) default).Name), .int .i64 ((b.Gauges.getD ((xs.getD k default).Gauge.toNat) default).Kind), .int .i64 ((b.Gauges.getD ((xs.getD k default).Gauge.toNat) default).Target), .int .i64 ((b.Gauges.getD ((xs.getD k default).Gauge.toNat) default).Err), .int .i64 ((b.Gauges.getD ((xs.getD k default).Gauge.toNat) default).Drift)]) rfl (q_loadAgg rfl Try.underlying63 rfl sz63 rfl (Cells.repE r6 (by omega) rfl)) ?_
      refine RW.eff (fun b5 : Nat => .pointer (some (⟨b5, 0, none⟩))) (fun b5 => St ⟨w, Φ, []⟩ Φ [.blk b5 63 [.string (bs ([])), .int .i64 0, .int .i64 0, .int .i64 0, .int .i64 0], .blk b4 29 [.int .i64 ((xs.getD k default).Gauge), .int .i64 ((xs.getD k default).Seq), .int .i64 ((xs.getD k default).Clock), .int .i64 ((xs.getD k default).Value), .string ((xs.getD k default).Tag)], .kmap kPlc spanV b3 (Se.valM b xs u v (xs.take k)), .kmap kInt Value.bool b2 (Se.voidM xs), .blk b1 41 [.string b.Name, v1, .int .i64 b.Cells, v3, v4, v5, v6, v7, v8, v9, .int .i64 b.Err]]) rfl (e_alloc zero63) ?_
      intro b5
      refine RW.effn (J' := St ⟨w, Φ, []⟩ Φ [.blk b5 63 [.string ((b.Gauges.getD ((xs.getD k default).Gauge.toNat) default).Name), .int .i64 ((b.Gauges.getD ((xs.getD k default).Gauge.toNat) default).Kind), .int .i64 ((b.Gauges.getD ((xs.getD k default).Gauge.toNat) default).Target), .int .i64 ((b.Gauges.getD ((xs.getD k default).Gauge.toNat) default).Err), .int .i64 ((b.Gauges.getD ((xs.getD k default).Gauge.toNat) default).Drift)], .blk b4 29 [.int .i64 ((xs.getD k default).Gauge), .int .i64 ((xs.getD k default).Seq), .int .i64 ((xs.getD k default).Clock), .int .i64 ((xs.getD k default).Value), .string ((xs.getD k default).Tag)], .kmap kPlc spanV b3 (Se.valM b xs u v (xs.take k)), .kmap kInt Value.bool b2 (Se.voidM xs), .blk b1 41 [.string b.Name, v1, .int .i64 b.Cells, v3, v4, v5, v6, v7, v8, v9, .int .i64 b.Err]]) (e_store (v := .agg #[.string ((b.Gauges.getD ((xs.getD k default).Gauge.toNat) default).Name), .int .i64 ((b.Gauges.getD ((xs.getD k default).Gauge.toNat) default).Kind), .int .i64 ((b.Gauges.getD ((xs.getD k default).Gauge.toNat) default).Target), .int .i64 ((b.Gauges.getD ((xs.getD k default).Gauge.toNat) default).Err), .int .i64 ((b.Gauges.getD ((xs.getD k default).Gauge.toNat) default).Drift)]) 0 rfl rfl rfl sz63 rfl rfl rfl rfl rfl) ?_
      refine RW.nil ?_
      refine Post.then_n ?_
      refine AW.seq ?_
      refine AW.region ?_
      refine RW.q (v := .agg #[.string ((b.Gauges.getD ((xs.getD k default).Gauge.toNat) default).Name), .int .i64 ((b.Gauges.getD ((xs.getD k default).Gauge.toNat) default).Kind), .int .i64 ((b.Gauges.getD ((xs.getD k default).Gauge.toNat) default).Target), .int .i64 ((b.Gauges.getD ((xs.getD k default).Gauge.toNat) default).Err), .int .i64 ((b.Gauges.getD ((xs.getD k default).Gauge.toNat) default).Drift)]) rfl (q_loadAgg rfl Try.underlying63 rfl sz63 rfl (Cells.blk 0 rfl)) ?_
      refine RW.q (v := .agg #[.int .i64 ((xs.getD k default).Gauge), .int .i64 ((xs.getD k default).Seq), .int .i64 ((xs.getD k default).Clock), .int .i64 ((xs.getD k default).Value), .string ((xs.getD k default).Tag)]) rfl (q_loadAgg rfl Try.underlying29 rfl sz29 rfl (Cells.blk 1 rfl)) ?_
      refine RW.q (v := .tuple #[.int .i64 (Se.hr (b.Gauges.getD (xs.getD k default).Gauge.toNat default) (xs.getD k default)), .bool (decide (Se.Sure (b.Gauges.getD (xs.getD k default).Gauge.toNat default) (xs.getD k default)))]) rfl (q_call (args := #[.agg #[.string ((b.Gauges.getD ((xs.getD k default).Gauge.toNat) default).Name), .int .i64 ((b.Gauges.getD ((xs.getD k default).Gauge.toNat) default).Kind), .int .i64 ((b.Gauges.getD ((xs.getD k default).Gauge.toNat) default).Target), .int .i64 ((b.Gauges.getD ((xs.getD k default).Gauge.toNat) default).Err), .int .i64 ((b.Gauges.getD ((xs.getD k default).Gauge.toNat) default).Drift)], .agg #[.int .i64 ((xs.getD k default).Gauge), .int .i64 ((xs.getD k default).Seq), .int .i64 ((xs.getD k default).Clock), .int .i64 ((xs.getD k default).Value), .string ((xs.getD k default).Tag)]]) own27 rfl rfl (fun w1 hw1 => hourOf_c w1 (Go.K.hp w1) (Hp.le_refl _) (q := (b.Gauges.getD (xs.getD k default).Gauge.toNat default)) (t := (xs.getD k default)) (by assumption))) ?_
      refine RW.q (v := .tuple #[.int .i64 (Se.hr (b.Gauges.getD (xs.getD k default).Gauge.toNat default) (xs.getD k default)), .bool (decide (Se.Sure (b.Gauges.getD (xs.getD k default).Gauge.toNat default) (xs.getD k default)))]) rfl (q_move rfl) ?_
      refine RW.q (v := .int .i64 (Se.hr (b.Gauges.getD (xs.getD k default).Gauge.toNat default) (xs.getD k default))) rfl (q_extract rfl rfl) ?_
      refine RW.q (v := .bool (decide (Se.Sure (b.Gauges.getD (xs.getD k default).Gauge.toNat default) (xs.getD k default)))) rfl (q_extract rfl rfl) ?_
      refine RW.q (v := .int .i64 (Se.hr (b.Gauges.getD (xs.getD k default).Gauge.toNat default) (xs.getD k default))) rfl (q_assign rfl) ?_
      refine RW.q (v := .bool (decide (Se.Sure (b.Gauges.getD (xs.getD k default).Gauge.toNat default) (xs.getD k default)))) rfl (q_assign rfl) ?_
      refine RW.nil ?_
      refine Post.then_n ?_
      refine AW.seq ?_
      refine AW.seq ?_
      refine AW.region ?_
      refine RW.q (v := .bool (decide (Se.Sure (b.Gauges.getD (xs.getD k default).Gauge.toNat default) (xs.getD k default)))) rfl (q_move rfl) ?_
      refine RW.q (v := .bool (!(decide (Se.Sure (b.Gauges.getD (xs.getD k default).Gauge.toNat default) (xs.getD k default))))) rfl (q_not rfl) ?_
      refine RW.q (v := .bool (!(decide (Se.Sure (b.Gauges.getD (xs.getD k default).Gauge.toNat default) (xs.getD k default))))) rfl (q_move rfl) ?_
      refine RW.g (b := (!(decide (Se.Sure (b.Gauges.getD (xs.getD k default).Gauge.toNat default) (xs.getD k default))))) (v := .int .i64 (Se.hr (b.Gauges.getD (xs.getD k default).Gauge.toNat default) (xs.getD k default))) rfl rfl rfl (fun h => q_move rfl) ?_
      refine RW.g (b := (!(decide (Se.Sure (b.Gauges.getD (xs.getD k default).Gauge.toNat default) (xs.getD k default))))) (v := .int .i64 u) rfl rfl rfl (fun h => q_move rfl) ?_
      refine RW.g (b := (!(decide (Se.Sure (b.Gauges.getD (xs.getD k default).Gauge.toNat default) (xs.getD k default))))) (v := .bool (decide (Se.hr (b.Gauges.getD (xs.getD k default).Gauge.toNat default) (xs.getD k default) < u))) rfl rfl rfl (fun h => q_lss (gv_pos h) (gv_pos h)) ?_
      refine RW.q (v := .bool ((!(decide (Se.Sure (b.Gauges.getD (xs.getD k default).Gauge.toNat default) (xs.getD k default)))) || (decide (Se.hr (b.Gauges.getD (xs.getD k default).Gauge.toNat default) (xs.getD k default) < u)))) rfl (q_pick rfl (fun hp => pkOrT hp) (fun hp => (gv_pos hp).trans (pkOrF hp))) ?_
      refine RW.q (v := .bool ((!(decide (Se.Sure (b.Gauges.getD (xs.getD k default).Gauge.toNat default) (xs.getD k default)))) || (decide (Se.hr (b.Gauges.getD (xs.getD k default).Gauge.toNat default) (xs.getD k default) < u)))) rfl (q_move rfl) ?_
      refine RW.g (b := ((!(decide (Se.Sure (b.Gauges.getD (xs.getD k default).Gauge.toNat default) (xs.getD k default)))) || (decide (Se.hr (b.Gauges.getD (xs.getD k default).Gauge.toNat default) (xs.getD k default) < u)))) (v := .int .i64 (Se.hr (b.Gauges.getD (xs.getD k default).Gauge.toNat default) (xs.getD k default))) rfl rfl rfl (fun h => q_move rfl) ?_
      refine RW.g (b := ((!(decide (Se.Sure (b.Gauges.getD (xs.getD k default).Gauge.toNat default) (xs.getD k default)))) || (decide (Se.hr (b.Gauges.getD (xs.getD k default).Gauge.toNat default) (xs.getD k default) < u)))) (v := .int .i64 v) rfl rfl rfl (fun h => q_move rfl) ?_
      refine RW.g (b := ((!(decide (Se.Sure (b.Gauges.getD (xs.getD k default).Gauge.toNat default) (xs.getD k default)))) || (decide (Se.hr (b.Gauges.getD (xs.getD k default).Gauge.toNat default) (xs.getD k default) < u)))) (v := .bool (decide (v ≤ Se.hr (b.Gauges.getD (xs.getD k default).Gauge.toNat default) (xs.getD k default)))) rfl rfl rfl (fun h => q_geq (gv_pos h) (gv_pos h)) ?_
      refine RW.q (v := .bool (((!(decide (Se.Sure (b.Gauges.getD (xs.getD k default).Gauge.toNat default) (xs.getD k default)))) || (decide (Se.hr (b.Gauges.getD (xs.getD k default).Gauge.toNat default) (xs.getD k default) < u))) || (decide (v ≤ Se.hr (b.Gauges.getD (xs.getD k default).Gauge.toNat default) (xs.getD k default))))) rfl (q_pick rfl (fun hp => pkOrT hp) (fun hp => (gv_pos hp).trans (pkOrF hp))) ?_
      refine RW.nil ?_
      refine Post.then_n ?_
      refine AW.cond (b := ((!(decide (Se.Sure (b.Gauges.getD (xs.getD k default).Gauge.toNat default) (xs.getD k default)))) || (decide (Se.hr (b.Gauges.getD (xs.getD k default).Gauge.toNat default) (xs.getD k default) < u))) || (decide (v ≤ Se.hr (b.Gauges.getD (xs.getD k default).Gauge.toNat default) (xs.getD k default)))) rfl (fun hc3 => ?_) (fun hc3 => ?_)
      · simp [-List.getD_eq_getElem?_getD] at hc3
        refine AW.exit ?_
        refine Post.then_x (Post.blk_hit (Post.then_n ?_))
        refine AW.region ?_
        refine RW.q (v := .int .i64 ((k + 1 : Nat) : Int)) rfl (q_add rfl rfl (by omega) (by unfold I64; omega)) ?_
        refine RW.q (v := .int .i64 ((k + 1 : Nat) : Int)) rfl (q_move rfl) ?_
        refine RW.nil ?_
        have hno : ¬ Se.Use b xs u v (xs.getD k default) := fun hU => by
          have hh : Se.hr (b.Gauges.getD (xs.getD k default).Gauge.toNat default) (xs.getD k default) = Se.hourT (b.Gauges.getD (xs.getD k default).Gauge.toNat default) (xs.getD k default) := Se.hr_sure hU.2.2.1
          have hu1 : u ≤ Se.hourT (b.Gauges.getD (xs.getD k default).Gauge.toNat default) (xs.getD k default) := hU.2.2.2.1
          have hu2 : Se.hourT (b.Gauges.getD (xs.getD k default).Gauge.toNat default) (xs.getD k default) < v := hU.2.2.2.2
          rcases hc3 with (h9 | h9) | h9
          · exact h9 hU.2.2.1
          · omega
          · omega
        exact Post.back (s' := _) (J' := _) (m' := _) (by omega) ⟨k + 1, rfl, rfl, rfl, (by omega)⟩ ⟨rfl, rfl, rfl, rfl, rfl, rfl, rfl, rfl, trivial⟩ (fun _ h => by rw [Se.take_snoc (show k < xs.length by omega), Se.valM_skip hno]; exact StP.drop h (by exact .cons _ (.cons _ (.cons_cons _ (.cons_cons _ (.cons_cons _ (.slnil)))))))
      · simp [-List.getD_eq_getElem?_getD] at hc3
        refine AW.skip ?_
        refine Post.then_n ?_
        refine AW.seq ?_
        have hwq := r6.wfE _ (Se.getD_mem hgi)
        have hxv : I64 (xs.getD k default).Value := hwk.2.2.2.1
        have hxe : I64 (b.Gauges.getD (xs.getD k default).Gauge.toNat default).Err := hwq.2.2.2.1
        have hB_0 := hB
        have r6_0 := r6
        have h2_0 := h2
        refine AW.draw (J0 := St ⟨w, Φ, []⟩ Φ [.blk b5 63 [.string ((b.Gauges.getD ((xs.getD k default).Gauge.toNat) default).Name), .int .i64 ((b.Gauges.getD ((xs.getD k default).Gauge.toNat) default).Kind), .int .i64 ((b.Gauges.getD ((xs.getD k default).Gauge.toNat) default).Target), .int .i64 ((b.Gauges.getD ((xs.getD k default).Gauge.toNat) default).Err), .int .i64 ((b.Gauges.getD ((xs.getD k default).Gauge.toNat) default).Drift)], .blk b4 29 [.int .i64 ((xs.getD k default).Gauge), .int .i64 ((xs.getD k default).Seq), .int .i64 ((xs.getD k default).Clock), .int .i64 ((xs.getD k default).Value), .string ((xs.getD k default).Tag)], .kmap kPlc spanV b3 (Se.valM b xs u v (xs.take k)), .kmap kInt Value.bool b2 (Se.voidM xs), .blk b1 41 [.string b.Name, v1, .int .i64 b.Cells, v3, v4, v5, v6, v7, v8, v9, .int .i64 b.Err]]) [.q, .q, .q, .q, .q, .q, .q, .q, .q, .q, .q, .e, .e] [0, 1, 2, 3, 4, 5, 6, 7, 8, 9, 10, 11, 12] hmix (by kernel_rfl) ?_
        refine DW.q (v := .pointer (some (⟨b4, 3, none⟩))) (fun _ h => h) rfl (q_fieldAddr rfl Try.underlying29 rfl sz3 rfl) ?_
        refine DW.q (v := .int .i64 ((xs.getD k default).Value)) (fun _ h => h) rfl (q_load rfl Try.underlying3 rfl (Cell.blk 1 rfl rfl)) ?_
        refine DW.q (v := .pointer (some (⟨b5, 3, none⟩))) (fun _ h => h) rfl (q_fieldAddr rfl Try.underlying63 rfl sz3 rfl) ?_
        refine DW.q (v := .int .i64 ((b.Gauges.getD ((xs.getD k default).Gauge.toNat) default).Err)) (fun _ h => h) rfl (q_load rfl Try.underlying3 rfl (Cell.blk 0 rfl rfl)) ?_
        refine DW.q (v := .int .i64 (Se.subS ((xs.getD k default).Value) ((b.Gauges.getD ((xs.getD k default).Gauge.toNat) default).Err))) (fun _ h => h) rfl (q_call (args := #[.int .i64 ((xs.getD k default).Value), .int .i64 ((b.Gauges.getD ((xs.getD k default).Gauge.toNat) default).Err)]) own28 rfl rfl (fun w1 hw1 => Sub_c w1 (Go.K.hp w1) (Hp.le_refl _) (by assumption) (by assumption))) ?_
        refine DW.q (v := .pointer (some (⟨b4, 3, none⟩))) (fun _ h => h) rfl (q_fieldAddr rfl Try.underlying29 rfl sz3 rfl) ?_
        refine DW.q (v := .int .i64 ((xs.getD k default).Value)) (fun _ h => h) rfl (q_load rfl Try.underlying3 rfl (Cell.blk 1 rfl rfl)) ?_
        refine DW.q (v := .pointer (some (⟨b5, 3, none⟩))) (fun _ h => h) rfl (q_fieldAddr rfl Try.underlying63 rfl sz3 rfl) ?_
        refine DW.q (v := .int .i64 ((b.Gauges.getD ((xs.getD k default).Gauge.toNat) default).Err)) (fun _ h => h) rfl (q_load rfl Try.underlying3 rfl (Cell.blk 0 rfl rfl)) ?_
        refine DW.q (v := .int .i64 (Se.addS ((xs.getD k default).Value) ((b.Gauges.getD ((xs.getD k default).Gauge.toNat) default).Err))) (fun _ h => h) rfl (q_call (args := #[.int .i64 ((xs.getD k default).Value), .int .i64 ((b.Gauges.getD ((xs.getD k default).Gauge.toNat) default).Err)]) own29 rfl rfl (fun w1 hw1 => Add_c w1 (Go.K.hp w1) (Hp.le_refl _) (by assumption) (by assumption))) ?_
        refine DW.q (v := .agg #[.int .i64 (Se.subS ((xs.getD k default).Value) ((b.Gauges.getD ((xs.getD k default).Gauge.toNat) default).Err)), .int .i64 (Se.addS ((xs.getD k default).Value) ((b.Gauges.getD ((xs.getD k default).Gauge.toNat) default).Err))]) (fun _ h => h) rfl (q_build (vals := [(0, .int .i64 (Se.subS ((xs.getD k default).Value) ((b.Gauges.getD ((xs.getD k default).Gauge.toNat) default).Err))), (1, .int .i64 (Se.addS ((xs.getD k default).Value) ((b.Gauges.getD ((xs.getD k default).Gauge.toNat) default).Err)))]) zero47 Try.underlying47 places47 rfl rfl) ?_
        refine DW.eff (fun b6 : Nat => .pointer (some (⟨b6, 0, none⟩))) (fun b6 => St ⟨w, Φ, []⟩ Φ [.blk b6 47 [.int .i64 0, .int .i64 0], .blk b5 63 [.string ((b.Gauges.getD ((xs.getD k default).Gauge.toNat) default).Name), .int .i64 ((b.Gauges.getD ((xs.getD k default).Gauge.toNat) default).Kind), .int .i64 ((b.Gauges.getD ((xs.getD k default).Gauge.toNat) default).Target), .int .i64 ((b.Gauges.getD ((xs.getD k default).Gauge.toNat) default).Err), .int .i64 ((b.Gauges.getD ((xs.getD k default).Gauge.toNat) default).Drift)], .blk b4 29 [.int .i64 ((xs.getD k default).Gauge), .int .i64 ((xs.getD k default).Seq), .int .i64 ((xs.getD k default).Clock), .int .i64 ((xs.getD k default).Value), .string ((xs.getD k default).Tag)], .kmap kPlc spanV b3 (Se.valM b xs u v (xs.take k)), .kmap kInt Value.bool b2 (Se.voidM xs), .blk b1 41 [.string b.Name, v1, .int .i64 b.Cells, v3, v4, v5, v6, v7, v8, v9, .int .i64 b.Err]]) (fun _ _ => (fun _ h => (StP.drop h (by exact .cons _ (.cons_cons _ (.cons_cons _ (.cons_cons _ (.cons_cons _ (.cons_cons _ (.slnil)))))))))) rfl (e_alloc zero47) ?_
        intro b6
        refine DW.effn (J' := St ⟨w, Φ, []⟩ Φ [.blk b6 47 [.int .i64 (Se.subS ((xs.getD k default).Value) ((b.Gauges.getD ((xs.getD k default).Gauge.toNat) default).Err)), .int .i64 (Se.addS ((xs.getD k default).Value) ((b.Gauges.getD ((xs.getD k default).Gauge.toNat) default).Err))], .blk b5 63 [.string ((b.Gauges.getD ((xs.getD k default).Gauge.toNat) default).Name), .int .i64 ((b.Gauges.getD ((xs.getD k default).Gauge.toNat) default).Kind), .int .i64 ((b.Gauges.getD ((xs.getD k default).Gauge.toNat) default).Target), .int .i64 ((b.Gauges.getD ((xs.getD k default).Gauge.toNat) default).Err), .int .i64 ((b.Gauges.getD ((xs.getD k default).Gauge.toNat) default).Drift)], .blk b4 29 [.int .i64 ((xs.getD k default).Gauge), .int .i64 ((xs.getD k default).Seq), .int .i64 ((xs.getD k default).Clock), .int .i64 ((xs.getD k default).Value), .string ((xs.getD k default).Tag)], .kmap kPlc spanV b3 (Se.valM b xs u v (xs.take k)), .kmap kInt Value.bool b2 (Se.voidM xs), .blk b1 41 [.string b.Name, v1, .int .i64 b.Cells, v3, v4, v5, v6, v7, v8, v9, .int .i64 b.Err]]) (fun h => absurd rfl h) (e_store (v := .agg #[.int .i64 (Se.subS ((xs.getD k default).Value) ((b.Gauges.getD ((xs.getD k default).Gauge.toNat) default).Err)), .int .i64 (Se.addS ((xs.getD k default).Value) ((b.Gauges.getD ((xs.getD k default).Gauge.toNat) default).Err))]) 0 rfl rfl rfl sz47 rfl rfl rfl rfl rfl) ?_
        refine DW.nil ?_
        refine Post.then_n ?_
        refine AW.seq ?_
        refine AW.region ?_
        refine RW.q (v := .int .i64 (Se.hr (b.Gauges.getD (xs.getD k default).Gauge.toNat default) (xs.getD k default))) rfl (q_move rfl) ?_
        refine RW.q (v := .pointer (some (⟨b4, 0, none⟩))) rfl (q_fieldAddr rfl Try.underlying29 rfl sz3 rfl) ?_
        refine RW.q (v := .int .i64 ((xs.getD k default).Gauge)) rfl (q_load rfl Try.underlying3 rfl (Cell.blk 2 rfl rfl)) ?_
        refine RW.q (v := .agg #[.int .i64 (Se.hr (b.Gauges.getD (xs.getD k default).Gauge.toNat default) (xs.getD k default)), .int .i64 ((xs.getD k default).Gauge)]) rfl (q_build (vals := [(0, .int .i64 (Se.hr (b.Gauges.getD (xs.getD k default).Gauge.toNat default) (xs.getD k default))), (1, .int .i64 ((xs.getD k default).Gauge))]) zero77 Try.underlying77 places77 rfl rfl) ?_
        refine RW.eff (fun b7 : Nat => .pointer (some (⟨b7, 0, none⟩))) (fun b7 => St ⟨w, Φ, []⟩ Φ [.blk b7 77 [.int .i64 0, .int .i64 0], .blk b6 47 [.int .i64 (Se.subS ((xs.getD k default).Value) ((b.Gauges.getD ((xs.getD k default).Gauge.toNat) default).Err)), .int .i64 (Se.addS ((xs.getD k default).Value) ((b.Gauges.getD ((xs.getD k default).Gauge.toNat) default).Err))], .blk b5 63 [.string ((b.Gauges.getD ((xs.getD k default).Gauge.toNat) default).Name), .int .i64 ((b.Gauges.getD ((xs.getD k default).Gauge.toNat) default).Kind), .int .i64 ((b.Gauges.getD ((xs.getD k default).Gauge.toNat) default).Target), .int .i64 ((b.Gauges.getD ((xs.getD k default).Gauge.toNat) default).Err), .int .i64 ((b.Gauges.getD ((xs.getD k default).Gauge.toNat) default).Drift)], .blk b4 29 [.int .i64 ((xs.getD k default).Gauge), .int .i64 ((xs.getD k default).Seq), .int .i64 ((xs.getD k default).Clock), .int .i64 ((xs.getD k default).Value), .string ((xs.getD k default).Tag)], .kmap kPlc spanV b3 (Se.valM b xs u v (xs.take k)), .kmap kInt Value.bool b2 (Se.voidM xs), .blk b1 41 [.string b.Name, v1, .int .i64 b.Cells, v3, v4, v5, v6, v7, v8, v9, .int .i64 b.Err]]) rfl (e_alloc zero77) ?_
        intro b7
        refine RW.effn (J' := St ⟨w, Φ, []⟩ Φ [.blk b7 77 [.int .i64 (Se.hr (b.Gauges.getD (xs.getD k default).Gauge.toNat default) (xs.getD k default)), .int .i64 ((xs.getD k default).Gauge)], .blk b6 47 [.int .i64 (Se.subS ((xs.getD k default).Value) ((b.Gauges.getD ((xs.getD k default).Gauge.toNat) default).Err)), .int .i64 (Se.addS ((xs.getD k default).Value) ((b.Gauges.getD ((xs.getD k default).Gauge.toNat) default).Err))], .blk b5 63 [.string ((b.Gauges.getD ((xs.getD k default).Gauge.toNat) default).Name), .int .i64 ((b.Gauges.getD ((xs.getD k default).Gauge.toNat) default).Kind), .int .i64 ((b.Gauges.getD ((xs.getD k default).Gauge.toNat) default).Target), .int .i64 ((b.Gauges.getD ((xs.getD k default).Gauge.toNat) default).Err), .int .i64 ((b.Gauges.getD ((xs.getD k default).Gauge.toNat) default).Drift)], .blk b4 29 [.int .i64 ((xs.getD k default).Gauge), .int .i64 ((xs.getD k default).Seq), .int .i64 ((xs.getD k default).Clock), .int .i64 ((xs.getD k default).Value), .string ((xs.getD k default).Tag)], .kmap kPlc spanV b3 (Se.valM b xs u v (xs.take k)), .kmap kInt Value.bool b2 (Se.voidM xs), .blk b1 41 [.string b.Name, v1, .int .i64 b.Cells, v3, v4, v5, v6, v7, v8, v9, .int .i64 b.Err]]) (e_store (v := .agg #[.int .i64 (Se.hr (b.Gauges.getD (xs.getD k default).Gauge.toNat default) (xs.getD k default)), .int .i64 ((xs.getD k default).Gauge)]) 0 rfl rfl rfl sz77 rfl rfl rfl rfl rfl) ?_
        refine RW.nil ?_
        refine Post.then_n ?_
        refine AW.seq ?_
        refine AW.seq ?_
        have hpk : kPlc.good (Se.hr (b.Gauges.getD (xs.getD k default).Gauge.toNat default) (xs.getD k default), (xs.getD k default).Gauge) := ⟨by show I64 (Se.hr _ _); unfold I64; omega, hwk.1⟩
        refine AW.region ?_
        refine RW.q (v := .map (some b3)) rfl (q_move rfl) ?_
        refine RW.q (v := .agg #[.int .i64 (Se.hr (b.Gauges.getD (xs.getD k default).Gauge.toNat default) (xs.getD k default)), .int .i64 ((xs.getD k default).Gauge)]) rfl (q_loadAgg rfl Try.underlying77 rfl sz77 rfl (Cells.blk 0 rfl)) ?_
        refine RW.q (v := .tuple #[.agg #[.int .i64 ((((Se.valM b xs u v (xs.take k)) (Se.hr (b.Gauges.getD (xs.getD k default).Gauge.toNat default) (xs.getD k default), (xs.getD k default).Gauge)).getD default).Lo), .int .i64 ((((Se.valM b xs u v (xs.take k)) (Se.hr (b.Gauges.getD (xs.getD k default).Gauge.toNat default) (xs.getD k default), (xs.getD k default).Gauge)).getD default).Hi)], .bool (((Se.valM b xs u v (xs.take k)) (Se.hr (b.Gauges.getD (xs.getD k default).Gauge.toNat default) (xs.getD k default), (xs.getD k default).Gauge)).isSome)]) rfl (q_kLook (L := kPlc) (ew := spanV) (M := Se.valM b xs u v (xs.take k)) (k := (Se.hr (b.Gauges.getD (xs.getD k default).Gauge.toNat default) (xs.getD k default), (xs.getD k default).Gauge)) (d := default) 4 rfl rfl rfl (by assumption) Try.underlying72 zero47) ?_
        refine RW.q (v := .tuple #[.agg #[.int .i64 ((((Se.valM b xs u v (xs.take k)) (Se.hr (b.Gauges.getD (xs.getD k default).Gauge.toNat default) (xs.getD k default), (xs.getD k default).Gauge)).getD default).Lo), .int .i64 ((((Se.valM b xs u v (xs.take k)) (Se.hr (b.Gauges.getD (xs.getD k default).Gauge.toNat default) (xs.getD k default), (xs.getD k default).Gauge)).getD default).Hi)], .bool (((Se.valM b xs u v (xs.take k)) (Se.hr (b.Gauges.getD (xs.getD k default).Gauge.toNat default) (xs.getD k default), (xs.getD k default).Gauge)).isSome)]) rfl (q_move rfl) ?_
        refine RW.q (v := .agg #[.int .i64 ((((Se.valM b xs u v (xs.take k)) (Se.hr (b.Gauges.getD (xs.getD k default).Gauge.toNat default) (xs.getD k default), (xs.getD k default).Gauge)).getD default).Lo), .int .i64 ((((Se.valM b xs u v (xs.take k)) (Se.hr (b.Gauges.getD (xs.getD k default).Gauge.toNat default) (xs.getD k default), (xs.getD k default).Gauge)).getD default).Hi)]) rfl (q_extract rfl rfl) ?_
        refine RW.q (v := .bool (((Se.valM b xs u v (xs.take k)) (Se.hr (b.Gauges.getD (xs.getD k default).Gauge.toNat default) (xs.getD k default), (xs.getD k default).Gauge)).isSome)) rfl (q_extract rfl rfl) ?_
        refine RW.eff (fun b8 : Nat => .pointer (some (⟨b8, 0, none⟩))) (fun b8 => St ⟨w, Φ, []⟩ Φ [.blk b8 47 [.int .i64 0, .int .i64 0], .blk b7 77 [.int .i64 (Se.hr (b.Gauges.getD (xs.getD k default).Gauge.toNat default) (xs.getD k default)), .int .i64 ((xs.getD k default).Gauge)], .blk b6 47 [.int .i64 (Se.subS ((xs.getD k default).Value) ((b.Gauges.getD ((xs.getD k default).Gauge.toNat) default).Err)), .int .i64 (Se.addS ((xs.getD k default).Value) ((b.Gauges.getD ((xs.getD k default).Gauge.toNat) default).Err))], .blk b5 63 [.string ((b.Gauges.getD ((xs.getD k default).Gauge.toNat) default).Name), .int .i64 ((b.Gauges.getD ((xs.getD k default).Gauge.toNat) default).Kind), .int .i64 ((b.Gauges.getD ((xs.getD k default).Gauge.toNat) default).Target), .int .i64 ((b.Gauges.getD ((xs.getD k default).Gauge.toNat) default).Err), .int .i64 ((b.Gauges.getD ((xs.getD k default).Gauge.toNat) default).Drift)], .blk b4 29 [.int .i64 ((xs.getD k default).Gauge), .int .i64 ((xs.getD k default).Seq), .int .i64 ((xs.getD k default).Clock), .int .i64 ((xs.getD k default).Value), .string ((xs.getD k default).Tag)], .kmap kPlc spanV b3 (Se.valM b xs u v (xs.take k)), .kmap kInt Value.bool b2 (Se.voidM xs), .blk b1 41 [.string b.Name, v1, .int .i64 b.Cells, v3, v4, v5, v6, v7, v8, v9, .int .i64 b.Err]]) rfl (e_alloc zero47) ?_
        intro b8
        refine RW.effn (J' := St ⟨w, Φ, []⟩ Φ [.blk b8 47 [.int .i64 ((((Se.valM b xs u v (xs.take k)) (Se.hr (b.Gauges.getD (xs.getD k default).Gauge.toNat default) (xs.getD k default), (xs.getD k default).Gauge)).getD default).Lo), .int .i64 ((((Se.valM b xs u v (xs.take k)) (Se.hr (b.Gauges.getD (xs.getD k default).Gauge.toNat default) (xs.getD k default), (xs.getD k default).Gauge)).getD default).Hi)], .blk b7 77 [.int .i64 (Se.hr (b.Gauges.getD (xs.getD k default).Gauge.toNat default) (xs.getD k default)), .int .i64 ((xs.getD k default).Gauge)], .blk b6 47 [.int .i64 (Se.subS ((xs.getD k default).Value) ((b.Gauges.getD ((xs.getD k default).Gauge.toNat) default).Err)), .int .i64 (Se.addS ((xs.getD k default).Value) ((b.Gauges.getD ((xs.getD k default).Gauge.toNat) default).Err))], .blk b5 63 [.string ((b.Gauges.getD ((xs.getD k default).Gauge.toNat) default).Name), .int .i64 ((b.Gauges.getD ((xs.getD k default).Gauge.toNat) default).Kind), .int .i64 ((b.Gauges.getD ((xs.getD k default).Gauge.toNat) default).Target), .int .i64 ((b.Gauges.getD ((xs.getD k default).Gauge.toNat) default).Err), .int .i64 ((b.Gauges.getD ((xs.getD k default).Gauge.toNat) default).Drift)], .blk b4 29 [.int .i64 ((xs.getD k default).Gauge), .int .i64 ((xs.getD k default).Seq), .int .i64 ((xs.getD k default).Clock), .int .i64 ((xs.getD k default).Value), .string ((xs.getD k default).Tag)], .kmap kPlc spanV b3 (Se.valM b xs u v (xs.take k)), .kmap kInt Value.bool b2 (Se.voidM xs), .blk b1 41 [.string b.Name, v1, .int .i64 b.Cells, v3, v4, v5, v6, v7, v8, v9, .int .i64 b.Err]]) (e_store (v := .agg #[.int .i64 ((((Se.valM b xs u v (xs.take k)) (Se.hr (b.Gauges.getD (xs.getD k default).Gauge.toNat default) (xs.getD k default), (xs.getD k default).Gauge)).getD default).Lo), .int .i64 ((((Se.valM b xs u v (xs.take k)) (Se.hr (b.Gauges.getD (xs.getD k default).Gauge.toNat default) (xs.getD k default), (xs.getD k default).Gauge)).getD default).Hi)]) 0 rfl rfl rfl sz47 rfl rfl rfl rfl rfl) ?_
        refine RW.q (v := .bool (((Se.valM b xs u v (xs.take k)) (Se.hr (b.Gauges.getD (xs.getD k default).Gauge.toNat default) (xs.getD k default), (xs.getD k default).Gauge)).isSome)) rfl (q_assign rfl) ?_
        refine RW.nil ?_
        refine Post.then_n ?_
        refine AW.seq ?_
        refine AW.region ?_
        refine RW.q (v := .bool (((Se.valM b xs u v (xs.take k)) (Se.hr (b.Gauges.getD (xs.getD k default).Gauge.toNat default) (xs.getD k default), (xs.getD k default).Gauge)).isSome)) rfl (q_move rfl) ?_
        refine RW.nil ?_
        refine Post.then_n ?_
        refine AW.cond (b := ((Se.valM b xs u v (xs.take k)) (Se.hr (b.Gauges.getD (xs.getD k default).Gauge.toNat default) (xs.getD k default), (xs.getD k default).Gauge)).isSome) rfl (fun hc4 => ?_) (fun hc4 => ?_)
        · skip
          refine AW.region ?_
          refine RW.q (v := .pointer (some (⟨b8, 0, none⟩))) rfl (q_fieldAddr rfl Try.underlying47 rfl sz3 rfl) ?_
          refine RW.q (v := .int .i64 ((((Se.valM b xs u v (xs.take k)) (Se.hr (b.Gauges.getD (xs.getD k default).Gauge.toNat default) (xs.getD k default), (xs.getD k default).Gauge)).getD default).Lo)) rfl (q_load rfl Try.underlying3 rfl (Cell.blk 0 rfl rfl)) ?_
          refine RW.q (v := .pointer (some (⟨b6, 0, none⟩))) rfl (q_fieldAddr rfl Try.underlying47 rfl sz3 rfl) ?_
          refine RW.q (v := .int .i64 (Se.subS ((xs.getD k default).Value) ((b.Gauges.getD ((xs.getD k default).Gauge.toNat) default).Err))) rfl (q_load rfl Try.underlying3 rfl (Cell.blk 2 rfl rfl)) ?_
          refine RW.q (v := .int .i64 (max ((((Se.valM b xs u v (xs.take k)) (Se.hr (b.Gauges.getD (xs.getD k default).Gauge.toNat default) (xs.getD k default), (xs.getD k default).Gauge)).getD default).Lo) (Se.subS ((xs.getD k default).Value) ((b.Gauges.getD ((xs.getD k default).Gauge.toNat) default).Err)))) rfl (q_max rfl rfl) ?_
          refine RW.q (v := .pointer (some (⟨b8, 1, none⟩))) rfl (q_fieldAddr rfl Try.underlying47 rfl sz3 rfl) ?_
          refine RW.q (v := .int .i64 ((((Se.valM b xs u v (xs.take k)) (Se.hr (b.Gauges.getD (xs.getD k default).Gauge.toNat default) (xs.getD k default), (xs.getD k default).Gauge)).getD default).Hi)) rfl (q_load rfl Try.underlying3 rfl (Cell.blk 0 rfl rfl)) ?_
          refine RW.q (v := .pointer (some (⟨b6, 1, none⟩))) rfl (q_fieldAddr rfl Try.underlying47 rfl sz3 rfl) ?_
          refine RW.q (v := .int .i64 (Se.addS ((xs.getD k default).Value) ((b.Gauges.getD ((xs.getD k default).Gauge.toNat) default).Err))) rfl (q_load rfl Try.underlying3 rfl (Cell.blk 2 rfl rfl)) ?_
          refine RW.q (v := .int .i64 (min ((((Se.valM b xs u v (xs.take k)) (Se.hr (b.Gauges.getD (xs.getD k default).Gauge.toNat default) (xs.getD k default), (xs.getD k default).Gauge)).getD default).Hi) (Se.addS ((xs.getD k default).Value) ((b.Gauges.getD ((xs.getD k default).Gauge.toNat) default).Err)))) rfl (q_min rfl rfl) ?_
          refine RW.q (v := .agg #[.int .i64 (max ((((Se.valM b xs u v (xs.take k)) (Se.hr (b.Gauges.getD (xs.getD k default).Gauge.toNat default) (xs.getD k default), (xs.getD k default).Gauge)).getD default).Lo) (Se.subS ((xs.getD k default).Value) ((b.Gauges.getD ((xs.getD k default).Gauge.toNat) default).Err))), .int .i64 (min ((((Se.valM b xs u v (xs.take k)) (Se.hr (b.Gauges.getD (xs.getD k default).Gauge.toNat default) (xs.getD k default), (xs.getD k default).Gauge)).getD default).Hi) (Se.addS ((xs.getD k default).Value) ((b.Gauges.getD ((xs.getD k default).Gauge.toNat) default).Err)))]) rfl (q_build (vals := [(0, .int .i64 (max ((((Se.valM b xs u v (xs.take k)) (Se.hr (b.Gauges.getD (xs.getD k default).Gauge.toNat default) (xs.getD k default), (xs.getD k default).Gauge)).getD default).Lo) (Se.subS ((xs.getD k default).Value) ((b.Gauges.getD ((xs.getD k default).Gauge.toNat) default).Err)))), (1, .int .i64 (min ((((Se.valM b xs u v (xs.take k)) (Se.hr (b.Gauges.getD (xs.getD k default).Gauge.toNat default) (xs.getD k default), (xs.getD k default).Gauge)).getD default).Hi) (Se.addS ((xs.getD k default).Value) ((b.Gauges.getD ((xs.getD k default).Gauge.toNat) default).Err))))]) zero47 Try.underlying47 places47 rfl rfl) ?_
          refine RW.effn (J' := St ⟨w, Φ, []⟩ Φ [.blk b8 47 [.int .i64 ((((Se.valM b xs u v (xs.take k)) (Se.hr (b.Gauges.getD (xs.getD k default).Gauge.toNat default) (xs.getD k default), (xs.getD k default).Gauge)).getD default).Lo), .int .i64 ((((Se.valM b xs u v (xs.take k)) (Se.hr (b.Gauges.getD (xs.getD k default).Gauge.toNat default) (xs.getD k default), (xs.getD k default).Gauge)).getD default).Hi)], .blk b7 77 [.int .i64 (Se.hr (b.Gauges.getD (xs.getD k default).Gauge.toNat default) (xs.getD k default)), .int .i64 ((xs.getD k default).Gauge)], .blk b6 47 [.int .i64 (max ((((Se.valM b xs u v (xs.take k)) (Se.hr (b.Gauges.getD (xs.getD k default).Gauge.toNat default) (xs.getD k default), (xs.getD k default).Gauge)).getD default).Lo) (Se.subS ((xs.getD k default).Value) ((b.Gauges.getD ((xs.getD k default).Gauge.toNat) default).Err))), .int .i64 (min ((((Se.valM b xs u v (xs.take k)) (Se.hr (b.Gauges.getD (xs.getD k default).Gauge.toNat default) (xs.getD k default), (xs.getD k default).Gauge)).getD default).Hi) (Se.addS ((xs.getD k default).Value) ((b.Gauges.getD ((xs.getD k default).Gauge.toNat) default).Err)))], .blk b5 63 [.string ((b.Gauges.getD ((xs.getD k default).Gauge.toNat) default).Name), .int .i64 ((b.Gauges.getD ((xs.getD k default).Gauge.toNat) default).Kind), .int .i64 ((b.Gauges.getD ((xs.getD k default).Gauge.toNat) default).Target), .int .i64 ((b.Gauges.getD ((xs.getD k default).Gauge.toNat) default).Err), .int .i64 ((b.Gauges.getD ((xs.getD k default).Gauge.toNat) default).Drift)], .blk b4 29 [.int .i64 ((xs.getD k default).Gauge), .int .i64 ((xs.getD k default).Seq), .int .i64 ((xs.getD k default).Clock), .int .i64 ((xs.getD k default).Value), .string ((xs.getD k default).Tag)], .kmap kPlc spanV b3 (Se.valM b xs u v (xs.take k)), .kmap kInt Value.bool b2 (Se.voidM xs), .blk b1 41 [.string b.Name, v1, .int .i64 b.Cells, v3, v4, v5, v6, v7, v8, v9, .int .i64 b.Err]]) (e_store (v := .agg #[.int .i64 (max ((((Se.valM b xs u v (xs.take k)) (Se.hr (b.Gauges.getD (xs.getD k default).Gauge.toNat default) (xs.getD k default), (xs.getD k default).Gauge)).getD default).Lo) (Se.subS ((xs.getD k default).Value) ((b.Gauges.getD ((xs.getD k default).Gauge.toNat) default).Err))), .int .i64 (min ((((Se.valM b xs u v (xs.take k)) (Se.hr (b.Gauges.getD (xs.getD k default).Gauge.toNat default) (xs.getD k default), (xs.getD k default).Gauge)).getD default).Hi) (Se.addS ((xs.getD k default).Value) ((b.Gauges.getD ((xs.getD k default).Gauge.toNat) default).Err)))]) 2 rfl rfl rfl sz47 rfl rfl rfl rfl rfl) ?_
          refine RW.nil ?_
          refine Post.then_n ?_
          refine AW.region ?_
          refine RW.q (v := .map (some b3)) rfl (q_move rfl) ?_
          refine RW.q (v := .agg #[.int .i64 (Se.hr (b.Gauges.getD (xs.getD k default).Gauge.toNat default) (xs.getD k default)), .int .i64 ((xs.getD k default).Gauge)]) rfl (q_loadAgg rfl Try.underlying77 rfl sz77 rfl (Cells.blk 1 rfl)) ?_
          refine RW.q (v := .agg #[.int .i64 (max ((((Se.valM b xs u v (xs.take k)) (Se.hr (b.Gauges.getD (xs.getD k default).Gauge.toNat default) (xs.getD k default), (xs.getD k default).Gauge)).getD default).Lo) (Se.subS ((xs.getD k default).Value) ((b.Gauges.getD ((xs.getD k default).Gauge.toNat) default).Err))), .int .i64 (min ((((Se.valM b xs u v (xs.take k)) (Se.hr (b.Gauges.getD (xs.getD k default).Gauge.toNat default) (xs.getD k default), (xs.getD k default).Gauge)).getD default).Hi) (Se.addS ((xs.getD k default).Value) ((b.Gauges.getD ((xs.getD k default).Gauge.toNat) default).Err)))]) rfl (q_loadAgg rfl Try.underlying47 rfl sz47 rfl (Cells.blk 2 rfl)) ?_
          refine RW.effn (J' := St ⟨w, Φ, []⟩ Φ [.blk b8 47 [.int .i64 ((((Se.valM b xs u v (xs.take k)) (Se.hr (b.Gauges.getD (xs.getD k default).Gauge.toNat default) (xs.getD k default), (xs.getD k default).Gauge)).getD default).Lo), .int .i64 ((((Se.valM b xs u v (xs.take k)) (Se.hr (b.Gauges.getD (xs.getD k default).Gauge.toNat default) (xs.getD k default), (xs.getD k default).Gauge)).getD default).Hi)], .blk b7 77 [.int .i64 (Se.hr (b.Gauges.getD (xs.getD k default).Gauge.toNat default) (xs.getD k default)), .int .i64 ((xs.getD k default).Gauge)], .blk b6 47 [.int .i64 (max ((((Se.valM b xs u v (xs.take k)) (Se.hr (b.Gauges.getD (xs.getD k default).Gauge.toNat default) (xs.getD k default), (xs.getD k default).Gauge)).getD default).Lo) (Se.subS ((xs.getD k default).Value) ((b.Gauges.getD ((xs.getD k default).Gauge.toNat) default).Err))), .int .i64 (min ((((Se.valM b xs u v (xs.take k)) (Se.hr (b.Gauges.getD (xs.getD k default).Gauge.toNat default) (xs.getD k default), (xs.getD k default).Gauge)).getD default).Hi) (Se.addS ((xs.getD k default).Value) ((b.Gauges.getD ((xs.getD k default).Gauge.toNat) default).Err)))], .blk b5 63 [.string ((b.Gauges.getD ((xs.getD k default).Gauge.toNat) default).Name), .int .i64 ((b.Gauges.getD ((xs.getD k default).Gauge.toNat) default).Kind), .int .i64 ((b.Gauges.getD ((xs.getD k default).Gauge.toNat) default).Target), .int .i64 ((b.Gauges.getD ((xs.getD k default).Gauge.toNat) default).Err), .int .i64 ((b.Gauges.getD ((xs.getD k default).Gauge.toNat) default).Drift)], .blk b4 29 [.int .i64 ((xs.getD k default).Gauge), .int .i64 ((xs.getD k default).Seq), .int .i64 ((xs.getD k default).Clock), .int .i64 ((xs.getD k default).Value), .string ((xs.getD k default).Tag)], .kmap kPlc spanV b3 (fun j => if j = (Se.hr (b.Gauges.getD (xs.getD k default).Gauge.toNat default) (xs.getD k default), (xs.getD k default).Gauge) then some (⟨max ((((Se.valM b xs u v (xs.take k)) (Se.hr (b.Gauges.getD (xs.getD k default).Gauge.toNat default) (xs.getD k default), (xs.getD k default).Gauge)).getD default).Lo) (Se.subS ((xs.getD k default).Value) ((b.Gauges.getD ((xs.getD k default).Gauge.toNat) default).Err)), min ((((Se.valM b xs u v (xs.take k)) (Se.hr (b.Gauges.getD (xs.getD k default).Gauge.toNat default) (xs.getD k default), (xs.getD k default).Gauge)).getD default).Hi) (Se.addS ((xs.getD k default).Value) ((b.Gauges.getD ((xs.getD k default).Gauge.toNat) default).Err))⟩ : Bt.Span) else (Se.valM b xs u v (xs.take k)) j), .kmap kInt Value.bool b2 (Se.voidM xs), .blk b1 41 [.string b.Name, v1, .int .i64 b.Cells, v3, v4, v5, v6, v7, v8, v9, .int .i64 b.Err]]) (e_kPut (L := kPlc) (ew := spanV) (M := Se.valM b xs u v (xs.take k)) (k := (Se.hr (b.Gauges.getD (xs.getD k default).Gauge.toNat default) (xs.getD k default), (xs.getD k default).Gauge)) (v := (⟨max ((((Se.valM b xs u v (xs.take k)) (Se.hr (b.Gauges.getD (xs.getD k default).Gauge.toNat default) (xs.getD k default), (xs.getD k default).Gauge)).getD default).Lo) (Se.subS ((xs.getD k default).Value) ((b.Gauges.getD ((xs.getD k default).Gauge.toNat) default).Err)), min ((((Se.valM b xs u v (xs.take k)) (Se.hr (b.Gauges.getD (xs.getD k default).Gauge.toNat default) (xs.getD k default), (xs.getD k default).Gauge)).getD default).Hi) (Se.addS ((xs.getD k default).Value) ((b.Gauges.getD ((xs.getD k default).Gauge.toNat) default).Err))⟩ : Bt.Span)) 5 rfl rfl rfl rfl (by assumption) Try.underlying72 rfl) ?_
          refine RW.nil ?_
          refine Post.blk_n (Post.then_n ?_)
          refine AW.region ?_
          refine RW.q (v := .int .i64 ((k + 1 : Nat) : Int)) rfl (q_add rfl rfl (by omega) (by unfold I64; omega)) ?_
          refine RW.q (v := .int .i64 ((k + 1 : Nat) : Int)) rfl (q_move rfl) ?_
          refine RW.nil ?_
          have hU : Se.Use b xs u v (xs.getD k default) := ⟨hc2.1, hc2.2, hc3.1.1, by have h9 : Se.hr (b.Gauges.getD (xs.getD k default).Gauge.toNat default) (xs.getD k default) = Se.hourT (b.Gauges.getD (xs.getD k default).Gauge.toNat default) (xs.getD k default) := Se.hr_sure hc3.1.1; show u ≤ Se.hourT (b.Gauges.getD (xs.getD k default).Gauge.toNat default) (xs.getD k default); omega, by have h9 : Se.hr (b.Gauges.getD (xs.getD k default).Gauge.toNat default) (xs.getD k default) = Se.hourT (b.Gauges.getD (xs.getD k default).Gauge.toNat default) (xs.getD k default) := Se.hr_sure hc3.1.1; show Se.hourT (b.Gauges.getD (xs.getD k default).Gauge.toNat default) (xs.getD k default) < v; omega⟩
          obtain ⟨oz, hoz⟩ := Option.isSome_iff_exists.1 (show (Se.valM b xs u v (xs.take k) (Se.hr (b.Gauges.getD (xs.getD k default).Gauge.toNat default) (xs.getD k default), (xs.getD k default).Gauge)).isSome = true by simpa using hc4)
          have hJ : Se.joinV (Se.valM b xs u v (xs.take k) (Se.hr (b.Gauges.getD (xs.getD k default).Gauge.toNat default) (xs.getD k default), (xs.getD k default).Gauge)) (Se.loT b (xs.getD k default)) (Se.hiT b (xs.getD k default)) = ⟨max ((Se.valM b xs u v (xs.take k) (Se.hr (b.Gauges.getD (xs.getD k default).Gauge.toNat default) (xs.getD k default), (xs.getD k default).Gauge)).getD default).Lo (Se.subS (xs.getD k default).Value (b.Gauges.getD (xs.getD k default).Gauge.toNat default).Err), min ((Se.valM b xs u v (xs.take k) (Se.hr (b.Gauges.getD (xs.getD k default).Gauge.toNat default) (xs.getD k default), (xs.getD k default).Gauge)).getD default).Hi (Se.addS (xs.getD k default).Value (b.Gauges.getD (xs.getD k default).Gauge.toNat default).Err)⟩ := by rw [hoz]; rfl
          exact Post.back (s' := _) (J' := _) (m' := _) (by omega) ⟨k + 1, rfl, rfl, rfl, (by omega)⟩ ⟨rfl, rfl, rfl, rfl, rfl, rfl, rfl, rfl, trivial⟩ (fun _ h => by rw [Se.take_snoc (show k < xs.length by omega), ← Se.val_put hU rfl hJ]; exact StP.drop h (by exact .cons _ (.cons _ (.cons _ (.cons _ (.cons _ (.cons_cons _ (.cons_cons _ (.cons_cons _ (.slnil))))))))))
        · skip
          refine AW.skip ?_
          refine Post.then_n ?_
          refine AW.region ?_
          refine RW.q (v := .map (some b3)) rfl (q_move rfl) ?_
          refine RW.q (v := .agg #[.int .i64 (Se.hr (b.Gauges.getD (xs.getD k default).Gauge.toNat default) (xs.getD k default)), .int .i64 ((xs.getD k default).Gauge)]) rfl (q_loadAgg rfl Try.underlying77 rfl sz77 rfl (Cells.blk 1 rfl)) ?_
          refine RW.q (v := .agg #[.int .i64 (Se.subS ((xs.getD k default).Value) ((b.Gauges.getD ((xs.getD k default).Gauge.toNat) default).Err)), .int .i64 (Se.addS ((xs.getD k default).Value) ((b.Gauges.getD ((xs.getD k default).Gauge.toNat) default).Err))]) rfl (q_loadAgg rfl Try.underlying47 rfl sz47 rfl (Cells.blk 2 rfl)) ?_
          refine RW.effn (J' := St ⟨w, Φ, []⟩ Φ [.blk b8 47 [.int .i64 ((((Se.valM b xs u v (xs.take k)) (Se.hr (b.Gauges.getD (xs.getD k default).Gauge.toNat default) (xs.getD k default), (xs.getD k default).Gauge)).getD default).Lo), .int .i64 ((((Se.valM b xs u v (xs.take k)) (Se.hr (b.Gauges.getD (xs.getD k default).Gauge.toNat default) (xs.getD k default), (xs.getD k default).Gauge)).getD default).Hi)], .blk b7 77 [.int .i64 (Se.hr (b.Gauges.getD (xs.getD k default).Gauge.toNat default) (xs.getD k default)), .int .i64 ((xs.getD k default).Gauge)], .blk b6 47 [.int .i64 (Se.subS ((xs.getD k default).Value) ((b.Gauges.getD ((xs.getD k default).Gauge.toNat) default).Err)), .int .i64 (Se.addS ((xs.getD k default).Value) ((b.Gauges.getD ((xs.getD k default).Gauge.toNat) default).Err))], .blk b5 63 [.string ((b.Gauges.getD ((xs.getD k default).Gauge.toNat) default).Name), .int .i64 ((b.Gauges.getD ((xs.getD k default).Gauge.toNat) default).Kind), .int .i64 ((b.Gauges.getD ((xs.getD k default).Gauge.toNat) default).Target), .int .i64 ((b.Gauges.getD ((xs.getD k default).Gauge.toNat) default).Err), .int .i64 ((b.Gauges.getD ((xs.getD k default).Gauge.toNat) default).Drift)], .blk b4 29 [.int .i64 ((xs.getD k default).Gauge), .int .i64 ((xs.getD k default).Seq), .int .i64 ((xs.getD k default).Clock), .int .i64 ((xs.getD k default).Value), .string ((xs.getD k default).Tag)], .kmap kPlc spanV b3 (fun j => if j = (Se.hr (b.Gauges.getD (xs.getD k default).Gauge.toNat default) (xs.getD k default), (xs.getD k default).Gauge) then some (⟨Se.subS ((xs.getD k default).Value) ((b.Gauges.getD ((xs.getD k default).Gauge.toNat) default).Err), Se.addS ((xs.getD k default).Value) ((b.Gauges.getD ((xs.getD k default).Gauge.toNat) default).Err)⟩ : Bt.Span) else (Se.valM b xs u v (xs.take k)) j), .kmap kInt Value.bool b2 (Se.voidM xs), .blk b1 41 [.string b.Name, v1, .int .i64 b.Cells, v3, v4, v5, v6, v7, v8, v9, .int .i64 b.Err]]) (e_kPut (L := kPlc) (ew := spanV) (M := Se.valM b xs u v (xs.take k)) (k := (Se.hr (b.Gauges.getD (xs.getD k default).Gauge.toNat default) (xs.getD k default), (xs.getD k default).Gauge)) (v := (⟨Se.subS ((xs.getD k default).Value) ((b.Gauges.getD ((xs.getD k default).Gauge.toNat) default).Err), Se.addS ((xs.getD k default).Value) ((b.Gauges.getD ((xs.getD k default).Gauge.toNat) default).Err)⟩ : Bt.Span)) 5 rfl rfl rfl rfl (by assumption) Try.underlying72 rfl) ?_
          refine RW.nil ?_
          refine Post.blk_n (Post.then_n ?_)
          refine AW.region ?_
          refine RW.q (v := .int .i64 ((k + 1 : Nat) : Int)) rfl (q_add rfl rfl (by omega) (by unfold I64; omega)) ?_
          refine RW.q (v := .int .i64 ((k + 1 : Nat) : Int)) rfl (q_move rfl) ?_
          refine RW.nil ?_
          have hU : Se.Use b xs u v (xs.getD k default) := ⟨hc2.1, hc2.2, hc3.1.1, by have h9 : Se.hr (b.Gauges.getD (xs.getD k default).Gauge.toNat default) (xs.getD k default) = Se.hourT (b.Gauges.getD (xs.getD k default).Gauge.toNat default) (xs.getD k default) := Se.hr_sure hc3.1.1; show u ≤ Se.hourT (b.Gauges.getD (xs.getD k default).Gauge.toNat default) (xs.getD k default); omega, by have h9 : Se.hr (b.Gauges.getD (xs.getD k default).Gauge.toNat default) (xs.getD k default) = Se.hourT (b.Gauges.getD (xs.getD k default).Gauge.toNat default) (xs.getD k default) := Se.hr_sure hc3.1.1; show Se.hourT (b.Gauges.getD (xs.getD k default).Gauge.toNat default) (xs.getD k default) < v; omega⟩
          have hoz : Se.valM b xs u v (xs.take k) (Se.hr (b.Gauges.getD (xs.getD k default).Gauge.toNat default) (xs.getD k default), (xs.getD k default).Gauge) = none := by simpa using hc4
          have hJ : Se.joinV (Se.valM b xs u v (xs.take k) (Se.hr (b.Gauges.getD (xs.getD k default).Gauge.toNat default) (xs.getD k default), (xs.getD k default).Gauge)) (Se.loT b (xs.getD k default)) (Se.hiT b (xs.getD k default)) = ⟨Se.subS (xs.getD k default).Value (b.Gauges.getD (xs.getD k default).Gauge.toNat default).Err, Se.addS (xs.getD k default).Value (b.Gauges.getD (xs.getD k default).Gauge.toNat default).Err⟩ := by rw [hoz]; rfl
          exact Post.back (s' := _) (J' := _) (m' := _) (by omega) ⟨k + 1, rfl, rfl, rfl, (by omega)⟩ ⟨rfl, rfl, rfl, rfl, rfl, rfl, rfl, rfl, trivial⟩ (fun _ h => by rw [Se.take_snoc (show k < xs.length by omega), ← Se.val_put hU rfl hJ]; exact StP.drop h (by exact .cons _ (.cons _ (.cons _ (.cons _ (.cons _ (.cons_cons _ (.cons_cons _ (.cons_cons _ (.slnil))))))))))
  · simp [-List.getD_eq_getElem?_getD] at hc1
    refine AW.exit ?_
    refine Post.then_x (Post.then_x (Post.blk_hit (Post.then_n ?_)))
    refine AW.seq ?_
    rw [show xs.take k = xs from List.take_of_length_le (by omega)]
    refine AW.region ?_
    refine RW.q (v := (.slice none 0 0)) rfl (q_assign rfl) ?_
    refine RW.nil ?_
    refine Post.then_n ?_
    refine AW.seq ?_
    refine AW.seq ?_
    refine AW.region ?_
    refine RW.q (v := .map (some b3)) rfl (q_move rfl) ?_
    refine RW.eff (fun x : {q : Nat × Array MapEntry × Nat // KM kPlc spanV q.2.1 q.2.2 (Se.valM b xs u v xs)} => .pointer (some ⟨x.1.1, 0, none⟩)) (fun x => St ⟨w, Φ, []⟩ Φ [.obj x.1.1 (.mapIter (some b3) x.1.2.2 #[] x.1.2.2), .obj b3 (.map x.1.2.1 x.1.2.2), .kmap kInt Value.bool b2 (Se.voidM xs), .blk b1 41 [.string b.Name, v1, .int .i64 b.Cells, v3, v4, v5, v6, v7, v8, v9, .int .i64 b.Err]]) rfl (e_krange (L := kPlc) (ew := spanV) (M := Se.valM b xs u v xs) 0 rfl rfl Try.underlying72) ?_
    rintro ⟨⟨it1, es1, ck1⟩, hkm1⟩
    replace hkm1 : KM kPlc spanV es1 ck1 (Se.valM b xs u v xs) := hkm1
    refine RW.nil ?_
    refine Post.then_n ?_
    refine AW.block ?_
    refine AW.loop (fun s J m => ∃ (seen : Array Nat), ∃ (R : List Bt.Reading), ∃ (rv : Value), s = [(20, rv), (104, .pointer (some (⟨it1, 0, none⟩)))] ∧ J = St ⟨w, Φ, []⟩ Φ [.row rv 49 4 R.length (flat R), .obj it1 (.mapIter (some b3) ck1 seen ck1), .obj b3 (.map es1 ck1), .kmap kInt Value.bool b2 (Se.voidM xs), .blk b1 41 [.string b.Name, v1, .int .i64 b.Cells, v3, v4, v5, v6, v7, v8, v9, .int .i64 b.Err]] ∧ m = Se.left es1 seen ∧ (IsSl rv R.length) ∧ (Se.RdI es1 (Se.valM b xs u v xs) seen R)) (s0 := _) (J1 := _) (m0 := _) ⟨#[], [], _, rfl, rfl, rfl, isSl_nil, Se.RdI.start⟩ ⟨rfl, rfl, trivial⟩ (fun _ h => addNil h) ?_
    rintro _ _ _ _ ⟨seen, R, rv, rfl, rfl, rfl, hrv, hRI⟩
    refine AW.seq ?_
    refine AW.nextR (L := kPlc) (ew := spanV) (M := Se.valM b xs u v xs) 1 2 rfl rfl rfl hkm1 rfl rfl (C' := fun bn => [.row rv 49 4 R.length (flat R), .obj it1 (.mapIter (some b3) ck1 (seen.push bn) ck1), .obj b3 (.map es1 ck1), .kmap kInt Value.bool b2 (Se.voidM xs), .blk b1 41 [.string b.Name, v1, .int .i64 b.Cells, v3, v4, v5, v6, v7, v8, v9, .int .i64 b.Err]]) (fun _ => rfl) ?_ ?_
    · intro hall
      refine Post.then_n ?_
      refine AW.seq ?_
      refine AW.cond (b := false) rfl (fun hc5 => ?_) (fun hc5 => ?_)
      · cases hc5
      · skip
        refine AW.exit ?_
        refine Post.then_x (Post.then_x (Post.blk_hit (Post.then_n ?_)))
        refine AW.seq ?_
        have hRl := hRI.len hu hv
        refine AW.region ?_
        refine RW.q (v := rv) rfl (q_move rfl) ?_
        refine RW.eff (fun x : {d : List Bt.Reading // d.Perm R ∧ d.Pairwise (fun x y => Go.Proofs.ltOf Se.cR y x = false)} => (.tuple #[])) (fun x => St ⟨w, Φ, []⟩ Φ [.row rv 49 4 R.length (flat x.1), .obj it1 (.mapIter (some b3) ck1 seen ck1), .obj b3 (.map es1 ck1), .kmap kInt Value.bool b2 (Se.voidM xs), .blk b1 41 [.string b.Name, v1, .int .i64 b.Cells, v3, v4, v5, v6, v7, v8, v9, .int .i64 b.Err]]) rfl (e_call (args := #[rv, .func (.func 32) #[] #[]]) own31 rfl rfl (fun w1 hw1 => sortR_c rfl (by omega) w1 hw1)) ?_
        rintro ⟨d1, hd1⟩
        refine RW.nil ?_
        refine Post.then_n ?_
        refine AW.seq ?_
        refine AW.region ?_
        refine RW.q (v := rv) rfl (q_move rfl) ?_
        refine RW.q (v := rv) rfl (q_assign rfl) ?_
        refine RW.nil ?_
        refine Post.then_n ?_
        refine AW.ret ?_
        have hdl := hd1.1.length_eq
        have hRw := hRI.wf hu hv
        exact fin_rep rfl rfl rfl (fun w' hw => ⟨d1, RowS.repE even49 (row_ext hw 0 rfl) hdl (by simp only [maxSl]; rw [show Rep.bytes Bt.Reading = 32 from rfl]; omega) (fun x hx => hRw x (hd1.1.mem_iff.1 hx)), Se.rds_of hd1.1 hd1.2 hRI.dst (fun r => hRI.mem hkm1 hall r)⟩)
    · intro e kk xx he hns hgk hek hMk hev
      refine Post.then_n ?_
      refine AW.seq ?_
      refine AW.cond (b := true) rfl (fun hc6 => ?_) (fun hc6 => ?_)
      · skip
        refine AW.skip ?_
        refine Post.then_n ?_
        refine AW.block ?_
        refine AW.seq ?_
        refine AW.region ?_
        refine RW.q (v := .tuple #[.agg #[.int .i64 kk.1, .int .i64 kk.2], .agg #[.int .i64 xx.Lo, .int .i64 xx.Hi]]) rfl (q_kentry2 (L := kPlc) (ew := spanV) (M := Se.valM b xs u v xs) (k := kk) (v := xx) 1 2 rfl rfl rfl hkm1 he hek hev) ?_
        refine RW.q (v := .agg #[.int .i64 kk.1, .int .i64 kk.2]) rfl (q_extract rfl rfl) ?_
        refine RW.q (v := .agg #[.int .i64 xx.Lo, .int .i64 xx.Hi]) rfl (q_extract rfl rfl) ?_
        refine RW.eff (fun b9 : Nat => .pointer (some (⟨b9, 0, none⟩))) (fun b9 => St ⟨w, Φ, []⟩ Φ [.blk b9 77 [.int .i64 0, .int .i64 0], .row rv 49 4 R.length (flat R), .obj it1 (.mapIter (some b3) ck1 (seen.push e.born) ck1), .obj b3 (.map es1 ck1), .kmap kInt Value.bool b2 (Se.voidM xs), .blk b1 41 [.string b.Name, v1, .int .i64 b.Cells, v3, v4, v5, v6, v7, v8, v9, .int .i64 b.Err]]) rfl (e_alloc zero77) ?_
        intro b9
        refine RW.eff (fun b10 : Nat => .pointer (some (⟨b10, 0, none⟩))) (fun b10 => St ⟨w, Φ, []⟩ Φ [.blk b10 47 [.int .i64 0, .int .i64 0], .blk b9 77 [.int .i64 0, .int .i64 0], .row rv 49 4 R.length (flat R), .obj it1 (.mapIter (some b3) ck1 (seen.push e.born) ck1), .obj b3 (.map es1 ck1), .kmap kInt Value.bool b2 (Se.voidM xs), .blk b1 41 [.string b.Name, v1, .int .i64 b.Cells, v3, v4, v5, v6, v7, v8, v9, .int .i64 b.Err]]) rfl (e_alloc zero47) ?_
        intro b10
        refine RW.effn (J' := St ⟨w, Φ, []⟩ Φ [.blk b10 47 [.int .i64 0, .int .i64 0], .blk b9 77 [.int .i64 kk.1, .int .i64 kk.2], .row rv 49 4 R.length (flat R), .obj it1 (.mapIter (some b3) ck1 (seen.push e.born) ck1), .obj b3 (.map es1 ck1), .kmap kInt Value.bool b2 (Se.voidM xs), .blk b1 41 [.string b.Name, v1, .int .i64 b.Cells, v3, v4, v5, v6, v7, v8, v9, .int .i64 b.Err]]) (e_store (v := .agg #[.int .i64 kk.1, .int .i64 kk.2]) 1 rfl rfl rfl sz77 rfl rfl rfl rfl rfl) ?_
        refine RW.effn (J' := St ⟨w, Φ, []⟩ Φ [.blk b10 47 [.int .i64 xx.Lo, .int .i64 xx.Hi], .blk b9 77 [.int .i64 kk.1, .int .i64 kk.2], .row rv 49 4 R.length (flat R), .obj it1 (.mapIter (some b3) ck1 (seen.push e.born) ck1), .obj b3 (.map es1 ck1), .kmap kInt Value.bool b2 (Se.voidM xs), .blk b1 41 [.string b.Name, v1, .int .i64 b.Cells, v3, v4, v5, v6, v7, v8, v9, .int .i64 b.Err]]) (e_store (v := .agg #[.int .i64 xx.Lo, .int .i64 xx.Hi]) 0 rfl rfl rfl sz47 rfl rfl rfl rfl rfl) ?_
        refine RW.nil ?_
        refine Post.then_n ?_
        refine AW.seq ?_
        refine AW.region ?_
        refine RW.q (v := .agg #[.int .i64 xx.Lo, .int .i64 xx.Hi]) rfl (q_loadAgg rfl Try.underlying47 rfl sz47 rfl (Cells.blk 0 rfl)) ?_
        refine RW.q (v := .bool (decide (xx.Lo ≤ xx.Hi))) rfl (q_call (args := #[.agg #[.int .i64 xx.Lo, .int .i64 xx.Hi]]) own30 rfl rfl (fun w1 hw1 => sRight_c w1 (Go.K.hp w1) (Hp.le_refl _))) ?_
        refine RW.nil ?_
        refine Post.then_n ?_
        refine AW.cond (b := decide (xx.Lo ≤ xx.Hi)) rfl (fun hc7 => ?_) (fun hc7 => ?_)
        · simp [-List.getD_eq_getElem?_getD] at hc7
          have hRl := hRI.len hu hv
          refine AW.region ?_
          refine RW.q (v := rv) rfl (q_move rfl) ?_
          refine RW.q (v := .pointer (some (⟨b9, 1, none⟩))) rfl (q_fieldAddr rfl Try.underlying77 rfl sz3 rfl) ?_
          refine RW.q (v := .int .i64 kk.2) rfl (q_load rfl Try.underlying3 rfl (Cell.blk 1 rfl rfl)) ?_
          refine RW.q (v := .pointer (some (⟨b9, 0, none⟩))) rfl (q_fieldAddr rfl Try.underlying77 rfl sz3 rfl) ?_
          refine RW.q (v := .int .i64 kk.1) rfl (q_load rfl Try.underlying3 rfl (Cell.blk 1 rfl rfl)) ?_
          refine RW.q (v := .agg #[.int .i64 xx.Lo, .int .i64 xx.Hi]) rfl (q_loadAgg rfl Try.underlying47 rfl sz47 rfl (Cells.blk 0 rfl)) ?_
          refine RW.q (v := .agg #[.int .i64 kk.2, .int .i64 kk.1, .int .i64 xx.Lo, .int .i64 xx.Hi]) rfl (q_build (vals := [(0, .int .i64 kk.2), (1, .int .i64 kk.1), (2, .agg #[.int .i64 xx.Lo, .int .i64 xx.Hi])]) zero49 Try.underlying49 places49 rfl rfl) ?_
          refine RW.eff (fun b11 : Nat => (.slice (some ⟨b11, 0, none⟩) 1 1)) (fun b11 => St ⟨w, Φ, []⟩ Φ [.row (.slice (some ⟨b11, 0, none⟩) 1 1) 49 4 1 ([.int .i64 kk.2, .int .i64 kk.1, .int .i64 xx.Lo, .int .i64 xx.Hi]), .blk b10 47 [.int .i64 xx.Lo, .int .i64 xx.Hi], .blk b9 77 [.int .i64 kk.1, .int .i64 kk.2], .row rv 49 4 R.length (flat R), .obj it1 (.mapIter (some b3) ck1 (seen.push e.born) ck1), .obj b3 (.map es1 ck1), .kmap kInt Value.bool b2 (Se.voidM xs), .blk b1 41 [.string b.Name, v1, .int .i64 b.Cells, v3, v4, v5, v6, v7, v8, v9, .int .i64 b.Err]]) rfl (e_buildSlice (vals := [(0, .agg #[.int .i64 kk.2, .int .i64 kk.1, .int .i64 xx.Lo, .int .i64 xx.Hi])]) (cells := [.int .i64 kk.2, .int .i64 kk.1, .int .i64 xx.Lo, .int .i64 xx.Hi]) Try.underlying43 inf49 rfl rfl rfl (by kernel_rfl) rfl) ?_
          intro b11
          refine RW.eff (fun xv : {vq : Value // IsSl vq (R.length + 1)} => xv.1) (fun xv => St ⟨w, Φ, []⟩ Φ [.row (.slice (some ⟨b11, 0, none⟩) 1 1) 49 4 1 ([.int .i64 kk.2, .int .i64 kk.1, .int .i64 xx.Lo, .int .i64 xx.Hi]), .blk b10 47 [.int .i64 xx.Lo, .int .i64 xx.Hi], .blk b9 77 [.int .i64 kk.1, .int .i64 kk.2], .row xv.1 49 4 ((R ++ [(⟨kk.2, kk.1, ⟨xx.Lo, xx.Hi⟩⟩ : Bt.Reading)]).length) (flat (R ++ [(⟨kk.2, kk.1, ⟨xx.Lo, xx.Hi⟩⟩ : Bt.Reading)])), .obj it1 (.mapIter (some b3) ck1 (seen.push e.born) ck1), .obj b3 (.map es1 ck1), .kmap kInt Value.bool b2 (Se.voidM xs), .blk b1 41 [.string b.Name, v1, .int .i64 b.Cells, v3, v4, v5, v6, v7, v8, v9, .int .i64 b.Err]]) rfl (e_append 3 rfl rfl rfl Try.underlying43 inf49 rfl rfl rfl (Cells.row0 0 rfl) rfl (by omega) (by omega) (fun _ => by simp [flat] <;> rfl)) ?_
          rintro ⟨va1, hva1⟩
          refine RW.wk (J' := St ⟨w, Φ, []⟩ Φ [.blk b10 47 [.int .i64 xx.Lo, .int .i64 xx.Hi], .blk b9 77 [.int .i64 kk.1, .int .i64 kk.2], .row va1 49 4 ((R ++ [(⟨kk.2, kk.1, ⟨xx.Lo, xx.Hi⟩⟩ : Bt.Reading)]).length) (flat (R ++ [(⟨kk.2, kk.1, ⟨xx.Lo, xx.Hi⟩⟩ : Bt.Reading)])), .obj it1 (.mapIter (some b3) ck1 (seen.push e.born) ck1), .obj b3 (.map es1 ck1), .kmap kInt Value.bool b2 (Se.voidM xs), .blk b1 41 [.string b.Name, v1, .int .i64 b.Cells, v3, v4, v5, v6, v7, v8, v9, .int .i64 b.Err]]) (fun _ h => StP.drop h (by exact .cons _ (.cons_cons _ (.cons_cons _ (.cons_cons _ (.cons_cons _ (.cons_cons _ (.cons_cons _ (.cons_cons _ (.slnil)))))))))) ?_
          refine RW.q (v := va1) rfl (q_assign rfl) ?_
          refine RW.nil ?_
          refine Post.blk_n ?_
          exact Post.back (s' := _) (J' := _) (m' := _) (Se.left_lt he hns) ⟨seen.push e.born, R ++ [⟨kk.2, kk.1, xx⟩], va1, rfl, rfl, rfl, (by simpa using hva1), (hRI.add hkm1 he hns hek hMk hc7)⟩ ⟨rfl, rfl, trivial⟩ (fun _ h => StP.drop h (by exact .cons _ (.cons _ (.cons_cons _ (.cons_cons _ (.cons_cons _ (.cons_cons _ (.cons_cons _ (.slnil)))))))))
        · simp [-List.getD_eq_getElem?_getD] at hc7
          refine AW.skip ?_
          refine Post.blk_n ?_
          exact Post.back (s' := _) (J' := _) (m' := _) (Se.left_lt he hns) ⟨seen.push e.born, R, rv, rfl, rfl, rfl, hrv, (hRI.skip hkm1 he hek hMk (by omega))⟩ ⟨rfl, rfl, trivial⟩ (fun _ h => StP.drop h (by exact .cons _ (.cons _ (.cons_cons _ (.cons_cons _ (.cons_cons _ (.cons_cons _ (.cons_cons _ (.slnil)))))))))
      · cases hc6

end Go.Proofs.Ytlljbndnodbecaa
