/- Walks (part LawC), printed by walk2.py. Conditions: those of each theorem. -/
import Derived.Test.YtlljbndnodbecaaWalkG
import Derived.Test.YtlljbndnodbecaaPlainJ
namespace Go.Proofs.Ytlljbndnodbecaa
open Go Go.K Go.RowKit

set_option maxRecDepth 8000 in
set_option maxHeartbeats 1000000 in
theorem SeriesSets_c (w : World) (Φ : Hp) (hΦ : Hp.le Φ (hp w)) {b : Bt.Basin} {cs : List Value} (hB : RepV Φ b cs) {xs : List Bt.Gram} {v2x : Value} (h2 : RepSl Φ xs v2x) {u mm v q : Int} (hu : I64 u) (hm : I64 mm) (hv : I64 v) (hq : I64 q) :
    Calls Try.prog 4 #[.agg cs.toArray, v2x, .int .i64 u, .int .i64 mm, .int .i64 v, .int .i64 q] w fun e w' => e = .returned (.bool true) ∧ Bel w.heap.size w w' := by
  obtain ⟨v1, v3, v4, v5, v6, v7, v8, v9, hcs, hBw, r1, r3, r4, r5, r6, r7, r8, r9⟩ := (show Rep.rep Φ b cs from hB)
  subst hcs
  have hgm : b.Gauges.length * 48 ≤ 140737488355328 := r6.max
  refine calls_of_AW (args := [.agg #[.string b.Name, v1, .int .i64 b.Cells, v3, v4, v5, v6, v7, v8, v9, .int .i64 b.Err], v2x, .int .i64 u, .int .i64 mm, .int .i64 v, .int .i64 q]) Try.func4 rfl (Nat.le_of_ble_eq_true rfl) (St ⟨w, Φ, []⟩ Φ []) (StP.init w Φ hΦ []) ?_
  show AW Try.prog 181 [] _ _ _ [(0, .agg #[.string b.Name, v1, .int .i64 b.Cells, v3, v4, v5, v6, v7, v8, v9, .int .i64 b.Err]), (1, v2x), (2, .int .i64 u), (3, .int .i64 mm), (4, .int .i64 v), (5, .int .i64 q)] _
  have hmx : xs.length * 48 ≤ 140737488355328 := h2.max
  refine AW.seq ?_
  refine AW.region ?_
  refine RW.eff (fun b1 : Nat => .pointer (some (⟨b1, 0, none⟩))) (fun b1 => St ⟨w, Φ, []⟩ Φ [.blk b1 41 [.string b.Name, v1, .int .i64 b.Cells, v3, v4, v5, v6, v7, v8, v9, .int .i64 b.Err]]) rfl (e_boxA (cs := [.string b.Name, v1, .int .i64 b.Cells, v3, v4, v5, v6, v7, v8, v9, .int .i64 b.Err]) rfl) ?_
  intro b1
  refine RW.q (v := .bool false) rfl (q_assign rfl) ?_
  refine RW.nil ?_
  refine Post.then_n ?_
  refine AW.seq ?_
  refine AW.region ?_
  refine RW.q (v := .bool true) rfl (q_call (args := #[]) own7 rfl rfl (fun w1 hw1 => small_c w1 (Go.K.hp w1) (Hp.le_refl _))) ?_
  refine RW.q (v := .bool true) rfl (q_assign rfl) ?_
  refine RW.nil ?_
  refine Post.then_n ?_
  refine AW.seq ?_
  refine AW.seq ?_
  refine AW.region ?_
  refine RW.q (v := .pointer (some (⟨b1, 6, none⟩))) rfl (q_fieldAddr rfl Try.underlying41 rfl sz36 rfl) ?_
  refine RW.q (v := v6) rfl (q_load rfl Try.underlying36 rfl (Cell.blk 0 rfl rfl)) ?_
  refine RW.q (v := .int .i64 ((b.Gauges.length : Nat) : Int)) rfl (q_len_sl rfl r6.sl Try.underlying36) ?_
  refine RW.q (v := .bool (decide ((20 : Int) < ((b.Gauges.length : Nat) : Int)))) rfl (q_gtr rfl rfl) ?_
  refine RW.q (v := .bool (decide ((20 : Int) < ((b.Gauges.length : Nat) : Int)))) rfl (q_move rfl) ?_
  refine RW.g (b := (decide ((20 : Int) < ((b.Gauges.length : Nat) : Int)))) (v := v2x) rfl rfl rfl (fun h => q_move rfl) ?_
  refine RW.g (b := (decide ((20 : Int) < ((b.Gauges.length : Nat) : Int)))) (v := .bool (decide (Se.Few xs))) rfl rfl rfl (fun h => q_call (args := #[v2x]) own8 rfl (args1 (gv_pos h)) (fun w1 hw1 => few_c w1 (Go.K.hp w1) (Hp.le_refl _) (h2.mono hw1.phi))) ?_
  refine RW.g (b := (decide ((20 : Int) < ((b.Gauges.length : Nat) : Int)))) (v := .bool (!(decide (Se.Few xs)))) rfl rfl rfl (fun h => q_not (gv_pos h)) ?_
  refine RW.q (v := .bool ((decide ((20 : Int) < ((b.Gauges.length : Nat) : Int))) || (!(decide (Se.Few xs))))) rfl (q_pick rfl (fun hp => pkOrT hp) (fun hp => (gv_pos hp).trans (pkOrF hp))) ?_
  refine RW.q (v := .bool ((decide ((20 : Int) < ((b.Gauges.length : Nat) : Int))) || (!(decide (Se.Few xs))))) rfl (q_move rfl) ?_
  refine RW.g (b := ((decide ((20 : Int) < ((b.Gauges.length : Nat) : Int))) || (!(decide (Se.Few xs))))) (v := .int .i64 u) rfl rfl rfl (fun h => q_move rfl) ?_
  refine RW.g (b := ((decide ((20 : Int) < ((b.Gauges.length : Nat) : Int))) || (!(decide (Se.Few xs))))) (v := .int .i64 mm) rfl rfl rfl (fun h => q_move rfl) ?_
  refine RW.g (b := ((decide ((20 : Int) < ((b.Gauges.length : Nat) : Int))) || (!(decide (Se.Few xs))))) (v := .bool (decide (mm < u))) rfl rfl rfl (fun h => q_gtr (gv_pos h) (gv_pos h)) ?_
  refine RW.q (v := .bool (((decide ((20 : Int) < ((b.Gauges.length : Nat) : Int))) || (!(decide (Se.Few xs)))) || (decide (mm < u)))) rfl (q_pick rfl (fun hp => pkOrT hp) (fun hp => (gv_pos hp).trans (pkOrF hp))) ?_
  refine RW.q (v := .bool (((decide ((20 : Int) < ((b.Gauges.length : Nat) : Int))) || (!(decide (Se.Few xs)))) || (decide (mm < u)))) rfl (q_move rfl) ?_
  refine RW.g (b := (((decide ((20 : Int) < ((b.Gauges.length : Nat) : Int))) || (!(decide (Se.Few xs)))) || (decide (mm < u)))) (v := .int .i64 mm) rfl rfl rfl (fun h => q_move rfl) ?_
  refine RW.g (b := (((decide ((20 : Int) < ((b.Gauges.length : Nat) : Int))) || (!(decide (Se.Few xs)))) || (decide (mm < u)))) (v := .int .i64 v) rfl rfl rfl (fun h => q_move rfl) ?_
  refine RW.g (b := (((decide ((20 : Int) < ((b.Gauges.length : Nat) : Int))) || (!(decide (Se.Few xs)))) || (decide (mm < u)))) (v := .bool (decide (v < mm))) rfl rfl rfl (fun h => q_gtr (gv_pos h) (gv_pos h)) ?_
  refine RW.q (v := .bool ((((decide ((20 : Int) < ((b.Gauges.length : Nat) : Int))) || (!(decide (Se.Few xs)))) || (decide (mm < u))) || (decide (v < mm)))) rfl (q_pick rfl (fun hp => pkOrT hp) (fun hp => (gv_pos hp).trans (pkOrF hp))) ?_
  refine RW.nil ?_
  refine Post.then_n ?_
  refine AW.cond (b := (((decide ((20 : Int) < ((b.Gauges.length : Nat) : Int))) || (!(decide (Se.Few xs)))) || (decide (mm < u))) || (decide (v < mm))) rfl (fun hc1 => ?_) (fun hc1 => ?_)
  · simp [-List.getD_eq_getElem?_getD] at hc1
    refine AW.seq ?_
    refine AW.region ?_
    refine RW.q (v := .bool true) rfl (q_move rfl) ?_
    refine RW.q (v := .bool true) rfl (q_assign rfl) ?_
    refine RW.nil ?_
    refine Post.then_n ?_
    refine AW.ret ?_
    refine Post.then_r ?_
    exact fin_val (v' := .bool true) rfl rfl rfl (rfl)
  · simp [-List.getD_eq_getElem?_getD] at hc1
    refine AW.skip ?_
    refine Post.then_n ?_
    refine AW.seq ?_
    have hfx := hc1.1.1.2.2
    refine AW.region ?_
    refine RW.q (v := (.slice none 0 0)) rfl (q_assign rfl) ?_
    refine RW.nil ?_
    refine Post.then_n ?_
    refine AW.seq ?_
    refine AW.region ?_
    refine RW.q (v := (.slice none 0 0)) rfl (q_assign rfl) ?_
    refine RW.nil ?_
    refine Post.then_n ?_
    refine AW.seq ?_
    refine AW.region ?_
    refine RW.q (v := (.slice none 0 0)) rfl (q_assign rfl) ?_
    refine RW.nil ?_
    refine Post.then_n ?_
    refine AW.seq ?_
    refine AW.seq ?_
    refine AW.region ?_
    refine RW.q (v := v2x) rfl (q_move rfl) ?_
    refine RW.q (v := .int .i64 ((xs.length : Nat) : Int)) rfl (q_len_sl rfl h2.sl Try.underlying22) ?_
    refine RW.q (v := .int .i64 (((xs.length : Nat) : Int) - 1)) rfl (q_sub rfl rfl (by omega) (by unfold I64; omega)) ?_
    refine RW.q (v := .int .i64 (((xs.length : Nat) : Int) - 1)) rfl (q_assign rfl) ?_
    refine RW.nil ?_
    refine Post.then_n ?_
    refine AW.block ?_
    refine AW.loop (fun s J m => ∃ (j : Nat), ∃ (X : List Bt.Gram), ∃ (Y : List Bt.Gram), ∃ (Z : List Bt.Gram), ∃ (pX : Value), ∃ (pY : Value), ∃ (pZ : Value), s = [(1, v2x), (2, .int .i64 u), (3, .int .i64 mm), (4, .int .i64 v), (5, .int .i64 q), (6, .pointer (some (⟨b1, 0, none⟩))), (12, .bool false), (13, .bool true), (14, pX), (15, pY), (16, pZ), (17, .int .i64 (((j : Nat) : Int) - 1))] ∧ J = St ⟨w, Φ, []⟩ Φ [.row pX 29 5 X.length (flat X), .row pY 29 5 Y.length (flat Y), .row pZ 29 5 Z.length (flat Z), .blk b1 41 [.string b.Name, v1, .int .i64 b.Cells, v3, v4, v5, v6, v7, v8, v9, .int .i64 b.Err]] ∧ m = j + 0 * j ∧ (j ≤ xs.length) ∧ (IsSl pX X.length) ∧ (IsSl pY Y.length) ∧ (IsSl pZ Z.length) ∧ (Se.Bk b xs q j X Y Z)) (s0 := _) (J1 := _) (m0 := _) ⟨xs.length, [], [], [], _, _, _, rfl, rfl, rfl, (by omega), isSl_nil, isSl_nil, isSl_nil, Se.Bk.start⟩ ⟨rfl, rfl, rfl, rfl, rfl, rfl, rfl, rfl, rfl, rfl, rfl, rfl, trivial⟩ (fun _ h => addNil (addNil (addNil h))) ?_
    rintro _ _ _ _ ⟨j, X, Y, Z, pX, pY, pZ, rfl, rfl, rfl, hj, hxv, hyv, hzv, hBk⟩
    refine AW.seq ?_
    refine AW.seq ?_
    have hXl := hBk.xl
    have hYl := hBk.yl
    have hZl := hBk.zl
    refine AW.region ?_
    refine RW.q (v := .int .i64 (((j : Nat) : Int) - 1)) rfl (q_move rfl) ?_
    refine RW.q (v := .bool (decide ((0 : Int) ≤ ((j : Nat) : Int) - 1))) rfl (q_geq rfl rfl) ?_
    refine RW.nil ?_
    refine Post.then_n ?_
    refine AW.cond (b := decide ((0 : Int) ≤ ((j : Nat) : Int) - 1)) rfl (fun hc2 => ?_) (fun hc2 => ?_)
    · simp [-List.getD_eq_getElem?_getD] at hc2
      refine AW.skip ?_
      refine Post.then_n ?_
      refine AW.seq ?_
      refine AW.block ?_
      refine AW.seq ?_
      have hB_0 := hB
      have r6_0 := r6
      have h2_0 := h2
      refine AW.draw (J0 := St ⟨w, Φ, []⟩ Φ [.row pY 29 5 Y.length (flat Y), .row pZ 29 5 Z.length (flat Z), .blk b1 41 [.string b.Name, v1, .int .i64 b.Cells, v3, v4, v5, v6, v7, v8, v9, .int .i64 b.Err]]) [.q, .q, .q, .q, .q, .q, .q, .q, .q, .q, .e, .e, .q] [0, 1, 2, 3, 4, 5, 6, 7, 8, 9, 10, 11, 12] hmix (by kernel_rfl) ?_
      refine DW.q (v := pX) (fun _ h => (StP.drop h (by exact .cons _ (.cons_cons _ (.cons_cons _ (.cons_cons _ (.slnil))))))) rfl (q_move rfl) ?_
      refine DW.q (v := v2x) (fun _ h => (StP.drop h (by exact .cons _ (.cons_cons _ (.cons_cons _ (.cons_cons _ (.slnil))))))) rfl (q_move rfl) ?_
      refine DW.q (v := .int .i64 ((j - 1 : Nat) : Int)) (fun _ h => (StP.drop h (by exact .cons _ (.cons_cons _ (.cons_cons _ (.cons_cons _ (.slnil))))))) rfl (q_as (v := .int .i64 (((j : Nat) : Int) - 1)) (q_move rfl) (congrArg (Value.int .i64) ((by omega)))) ?_
      refine DW.q (v := .pointer (some (Value.at v2x ((j - 1) * 5)))) (fun _ h => (StP.drop h (by exact .cons _ (.cons_cons _ (.cons_cons _ (.cons_cons _ (.slnil))))))) rfl (q_indexAddr rfl rfl h2.sl Try.underlying22 sz29 (by omega) (by omega) rfl) ?_
      refine DW.q (v := .agg #[.int .i64 ((xs.getD (j - 1) default).Gauge), .int .i64 ((xs.getD (j - 1) default).Seq), .int .i64 ((xs.getD (j - 1) default).Clock), .int .i64 ((xs.getD (j - 1) default).Value), .string ((xs.getD (j - 1) default).Tag)]) (fun _ h => (StP.drop h (by exact .cons _ (.cons_cons _ (.cons_cons _ (.cons_cons _ (.slnil))))))) rfl (q_loadAgg rfl Try.underlying29 rfl sz29 rfl (Cells.repE h2 (by omega) rfl)) ?_
      refine DW.q (v := v2x) (fun _ h => (StP.drop h (by exact .cons _ (.cons_cons _ (.cons_cons _ (.cons_cons _ (.slnil))))))) rfl (q_move rfl) ?_
      refine DW.q (v := .int .i64 ((j - 1 : Nat) : Int)) (fun _ h => (StP.drop h (by exact .cons _ (.cons_cons _ (.cons_cons _ (.cons_cons _ (.slnil))))))) rfl (q_as (v := .int .i64 (((j : Nat) : Int) - 1)) (q_move rfl) (congrArg (Value.int .i64) ((by omega)))) ?_
      refine DW.q (v := .int .i64 (((j - 1) / 2 : Nat) : Int)) (fun _ h => (StP.drop h (by exact .cons _ (.cons_cons _ (.cons_cons _ (.cons_cons _ (.slnil))))))) rfl (q_quoN (a := j - 1) (b := 2) rfl rfl (by omega) (by omega)) ?_
      refine DW.q (v := .pointer (some (Value.at v2x (((j - 1) / 2) * 5)))) (fun _ h => (StP.drop h (by exact .cons _ (.cons_cons _ (.cons_cons _ (.cons_cons _ (.slnil))))))) rfl (q_indexAddr rfl rfl h2.sl Try.underlying22 sz29 (by omega) (by omega) rfl) ?_
      refine DW.q (v := .agg #[.int .i64 ((xs.getD ((j - 1) / 2) default).Gauge), .int .i64 ((xs.getD ((j - 1) / 2) default).Seq), .int .i64 ((xs.getD ((j - 1) / 2) default).Clock), .int .i64 ((xs.getD ((j - 1) / 2) default).Value), .string ((xs.getD ((j - 1) / 2) default).Tag)]) (fun _ h => (StP.drop h (by exact .cons _ (.cons_cons _ (.cons_cons _ (.cons_cons _ (.slnil))))))) rfl (q_loadAgg rfl Try.underlying29 rfl sz29 rfl (Cells.repE h2 (by omega) rfl)) ?_
      refine DW.eff (fun b2 : Nat => (.slice (some ⟨b2, 0, none⟩) 2 2)) (fun b2 => St ⟨w, Φ, []⟩ Φ [.row (.slice (some ⟨b2, 0, none⟩) 2 2) 29 5 2 ([.int .i64 ((xs.getD (j - 1) default).Gauge), .int .i64 ((xs.getD (j - 1) default).Seq), .int .i64 ((xs.getD (j - 1) default).Clock), .int .i64 ((xs.getD (j - 1) default).Value), .string ((xs.getD (j - 1) default).Tag), .int .i64 ((xs.getD ((j - 1) / 2) default).Gauge), .int .i64 ((xs.getD ((j - 1) / 2) default).Seq), .int .i64 ((xs.getD ((j - 1) / 2) default).Clock), .int .i64 ((xs.getD ((j - 1) / 2) default).Value), .string ((xs.getD ((j - 1) / 2) default).Tag)]), .row pX 29 5 X.length (flat X), .row pY 29 5 Y.length (flat Y), .row pZ 29 5 Z.length (flat Z), .blk b1 41 [.string b.Name, v1, .int .i64 b.Cells, v3, v4, v5, v6, v7, v8, v9, .int .i64 b.Err]]) (fun _ _ => (fun _ h => (StP.drop h (by exact .cons _ (.cons _ (.cons_cons _ (.cons_cons _ (.cons_cons _ (.slnil))))))))) rfl (e_buildSlice (vals := [(0, .agg #[.int .i64 ((xs.getD (j - 1) default).Gauge), .int .i64 ((xs.getD (j - 1) default).Seq), .int .i64 ((xs.getD (j - 1) default).Clock), .int .i64 ((xs.getD (j - 1) default).Value), .string ((xs.getD (j - 1) default).Tag)]), (1, .agg #[.int .i64 ((xs.getD ((j - 1) / 2) default).Gauge), .int .i64 ((xs.getD ((j - 1) / 2) default).Seq), .int .i64 ((xs.getD ((j - 1) / 2) default).Clock), .int .i64 ((xs.getD ((j - 1) / 2) default).Value), .string ((xs.getD ((j - 1) / 2) default).Tag)])]) (cells := [.int .i64 ((xs.getD (j - 1) default).Gauge), .int .i64 ((xs.getD (j - 1) default).Seq), .int .i64 ((xs.getD (j - 1) default).Clock), .int .i64 ((xs.getD (j - 1) default).Value), .string ((xs.getD (j - 1) default).Tag), .int .i64 ((xs.getD ((j - 1) / 2) default).Gauge), .int .i64 ((xs.getD ((j - 1) / 2) default).Seq), .int .i64 ((xs.getD ((j - 1) / 2) default).Clock), .int .i64 ((xs.getD ((j - 1) / 2) default).Value), .string ((xs.getD ((j - 1) / 2) default).Tag)]) Try.underlying22 inf29 rfl rfl rfl (by kernel_rfl) rfl) ?_
      intro b2
      refine DW.eff (fun xv : {vq : Value // IsSl vq (X.length + 2)} => xv.1) (fun xv => St ⟨w, Φ, []⟩ Φ [.row (.slice (some ⟨b2, 0, none⟩) 2 2) 29 5 2 ([.int .i64 ((xs.getD (j - 1) default).Gauge), .int .i64 ((xs.getD (j - 1) default).Seq), .int .i64 ((xs.getD (j - 1) default).Clock), .int .i64 ((xs.getD (j - 1) default).Value), .string ((xs.getD (j - 1) default).Tag), .int .i64 ((xs.getD ((j - 1) / 2) default).Gauge), .int .i64 ((xs.getD ((j - 1) / 2) default).Seq), .int .i64 ((xs.getD ((j - 1) / 2) default).Clock), .int .i64 ((xs.getD ((j - 1) / 2) default).Value), .string ((xs.getD ((j - 1) / 2) default).Tag)]), .row xv.1 29 5 ((X ++ [(xs.getD (j - 1) default), (xs.getD ((j - 1) / 2) default)]).length) (flat (X ++ [(xs.getD (j - 1) default), (xs.getD ((j - 1) / 2) default)])), .row pY 29 5 Y.length (flat Y), .row pZ 29 5 Z.length (flat Z), .blk b1 41 [.string b.Name, v1, .int .i64 b.Cells, v3, v4, v5, v6, v7, v8, v9, .int .i64 b.Err]]) (fun _ _ => (fun _ h => (StP.drop h (by exact .cons _ (.cons _ (.cons_cons _ (.cons_cons _ (.cons_cons _ (.slnil))))))))) rfl (e_append 1 rfl rfl rfl Try.underlying22 inf29 rfl rfl rfl (Cells.row0 0 rfl) rfl (by omega) (by omega) (fun _ => by simp [flat] <;> rfl)) ?_
      rintro ⟨va1, hva1⟩
      refine DW.q (v := va1) (fun _ h => (StP.drop h (by exact .cons _ (.cons _ (.cons_cons _ (.cons_cons _ (.cons_cons _ (.slnil)))))))) rfl (q_assign rfl) ?_
      refine DW.nil ?_
      refine Post.then_n ?_
      refine AW.seq ?_
      refine AW.seq ?_
      refine AW.draw (J0 := St ⟨w, Φ, []⟩ Φ [.row (.slice (some ⟨b2, 0, none⟩) 2 2) 29 5 2 ([.int .i64 ((xs.getD (j - 1) default).Gauge), .int .i64 ((xs.getD (j - 1) default).Seq), .int .i64 ((xs.getD (j - 1) default).Clock), .int .i64 ((xs.getD (j - 1) default).Value), .string ((xs.getD (j - 1) default).Tag), .int .i64 ((xs.getD ((j - 1) / 2) default).Gauge), .int .i64 ((xs.getD ((j - 1) / 2) default).Seq), .int .i64 ((xs.getD ((j - 1) / 2) default).Clock), .int .i64 ((xs.getD ((j - 1) / 2) default).Value), .string ((xs.getD ((j - 1) / 2) default).Tag)]), .row va1 29 5 ((X ++ [(xs.getD (j - 1) default), (xs.getD ((j - 1) / 2) default)]).length) (flat (X ++ [(xs.getD (j - 1) default), (xs.getD ((j - 1) / 2) default)])), .row pY 29 5 Y.length (flat Y), .row pZ 29 5 Z.length (flat Z), .blk b1 41 [.string b.Name, v1, .int .i64 b.Cells, v3, v4, v5, v6, v7, v8, v9, .int .i64 b.Err]]) [.q, .q, .q, .q, .q, .q, .q, .q, .q, .q, .q, .q, .q, .q, .q, .q, .q, .q, .q, .q, .q, .q, .q, .q, .q] [0, 1, 2, 3, 4, 5, 6, 7, 8, 9, 10, 11, 12, 13, 14, 15, 16, 17, 18, 19, 20, 21, 22, 23, 24] hmix (by kernel_rfl) ?_
      refine DW.q (v := .agg #[.string b.Name, v1, .int .i64 b.Cells, v3, v4, v5, v6, v7, v8, v9, .int .i64 b.Err]) (fun _ h => h) rfl (q_loadAgg rfl Try.underlying41 rfl sz41 rfl (Cells.blk 4 rfl)) ?_
      refine DW.q (v := v2x) (fun _ h => h) rfl (q_move rfl) ?_
      refine DW.q (v := .int .i64 ((j - 1 : Nat) : Int)) (fun _ h => h) rfl (q_as (v := .int .i64 (((j : Nat) : Int) - 1)) (q_move rfl) (congrArg (Value.int .i64) ((by omega)))) ?_
      refine DW.q (v := .pointer (some (Value.at v2x ((j - 1) * 5)))) (fun _ h => h) rfl (q_indexAddr rfl rfl h2.sl Try.underlying22 sz29 (by omega) (by omega) rfl) ?_
      refine DW.q (v := .agg #[.int .i64 ((xs.getD (j - 1) default).Gauge), .int .i64 ((xs.getD (j - 1) default).Seq), .int .i64 ((xs.getD (j - 1) default).Clock), .int .i64 ((xs.getD (j - 1) default).Value), .string ((xs.getD (j - 1) default).Tag)]) (fun _ h => h) rfl (q_loadAgg rfl Try.underlying29 rfl sz29 rfl (Cells.repE h2 (by omega) rfl)) ?_
      refine DW.q (v := .bool (decide (Se.Right b.Gauges.length (xs.getD (j - 1) default)))) (fun _ h => h) rfl (q_call (args := #[.agg #[.string b.Name, v1, .int .i64 b.Cells, v3, v4, v5, v6, v7, v8, v9, .int .i64 b.Err], .agg #[.int .i64 ((xs.getD (j - 1) default).Gauge), .int .i64 ((xs.getD (j - 1) default).Seq), .int .i64 ((xs.getD (j - 1) default).Clock), .int .i64 ((xs.getD (j - 1) default).Value), .string ((xs.getD (j - 1) default).Tag)]]) own13 rfl rfl (fun w1 hw1 => Right_c w1 (Go.K.hp w1) (Hp.le_refl _) (hB.mono hw1.phi) (t := (xs.getD (j - 1) default)))) ?_
      refine DW.q (v := .bool (decide (Se.Right b.Gauges.length (xs.getD (j - 1) default)))) (fun _ h => h) rfl (q_move rfl) ?_
      refine DW.g (b := (decide (Se.Right b.Gauges.length (xs.getD (j - 1) default)))) (v := v2x) (fun _ h => h) rfl rfl rfl (fun h => q_move rfl) ?_
      refine DW.g (b := (decide (Se.Right b.Gauges.length (xs.getD (j - 1) default)))) (v := .int .i64 ((j - 1 : Nat) : Int)) (fun _ h => h) rfl rfl rfl (fun h => q_as (v := .int .i64 (((j : Nat) : Int) - 1)) (q_move rfl) (congrArg (Value.int .i64) ((by omega)))) ?_
      refine DW.g (b := (decide (Se.Right b.Gauges.length (xs.getD (j - 1) default)))) (v := .pointer (some (Value.at v2x ((j - 1) * 5)))) (fun _ h => h) rfl rfl rfl (fun h => q_indexAddr (gv_pos h) (gv_pos h) h2.sl Try.underlying22 sz29 (by (try simp [-List.getD_eq_getElem?_getD] at h); omega) (by (try simp [-List.getD_eq_getElem?_getD] at h); omega) rfl) ?_
      refine DW.g (b := (decide (Se.Right b.Gauges.length (xs.getD (j - 1) default)))) (v := .pointer (some (Value.at v2x ((j - 1) * 5 + 0)))) (fun _ h => h) rfl rfl rfl (fun h => q_fieldAddr (gv_pos h) Try.underlying29 rfl sz3 at_add) ?_
      refine DW.g (b := (decide (Se.Right b.Gauges.length (xs.getD (j - 1) default)))) (v := .int .i64 ((xs.getD (j - 1) default).Gauge)) (fun _ h => h) rfl rfl rfl (fun h => q_load (gv_pos h) Try.underlying3 rfl (Cell.repE (j := 0) h2 (by (try simp [-List.getD_eq_getElem?_getD] at h); omega) rfl)) ?_
      refine DW.g (b := (decide (Se.Right b.Gauges.length (xs.getD (j - 1) default)))) (v := .bool (decide ((0 : Int) ≤ (xs.getD (j - 1) default).Gauge))) (fun _ h => h) rfl rfl rfl (fun h => q_geq (gv_pos h) rfl) ?_
      refine DW.g (b := (decide (Se.Right b.Gauges.length (xs.getD (j - 1) default)))) (v := .bool (decide ((0 : Int) ≤ (xs.getD (j - 1) default).Gauge))) (fun _ h => h) rfl rfl rfl (fun h => q_move (gv_pos h)) ?_
      refine DW.g2 (b1 := (decide (Se.Right b.Gauges.length (xs.getD (j - 1) default)))) (b2 := (decide ((0 : Int) ≤ (xs.getD (j - 1) default).Gauge))) (v := v2x) (fun _ h => h) rfl rfl rfl (fun hg1 hg2 => q_move rfl) ?_
      refine DW.g2 (b1 := (decide (Se.Right b.Gauges.length (xs.getD (j - 1) default)))) (b2 := (decide ((0 : Int) ≤ (xs.getD (j - 1) default).Gauge))) (v := .int .i64 (((j : Nat) : Int) - 1)) (fun _ h => h) rfl rfl rfl (fun hg1 hg2 => q_move rfl) ?_
      refine DW.g2 (b1 := (decide (Se.Right b.Gauges.length (xs.getD (j - 1) default)))) (b2 := (decide ((0 : Int) ≤ (xs.getD (j - 1) default).Gauge))) (v := .pointer (some (Value.at v2x (((((j : Nat) : Int) - 1).toNat) * 5)))) (fun _ h => h) rfl rfl rfl (fun hg1 hg2 => q_indexAddr ((gv_pos hg1).trans (gv_pos hg2)) ((gv_pos hg1).trans (gv_pos hg2)) h2.sl Try.underlying22 sz29 (by (try simp [-List.getD_eq_getElem?_getD] at hg1); (try simp [-List.getD_eq_getElem?_getD] at hg2); omega) (by (try simp [-List.getD_eq_getElem?_getD] at hg1); (try simp [-List.getD_eq_getElem?_getD] at hg2); omega) rfl) ?_
      refine DW.g2 (b1 := (decide (Se.Right b.Gauges.length (xs.getD (j - 1) default)))) (b2 := (decide ((0 : Int) ≤ (xs.getD (j - 1) default).Gauge))) (v := .pointer (some (Value.at v2x (((((j : Nat) : Int) - 1).toNat) * 5 + 0)))) (fun _ h => h) rfl rfl rfl (fun hg1 hg2 => q_fieldAddr ((gv_pos hg1).trans (gv_pos hg2)) Try.underlying29 rfl sz3 at_add) ?_
      refine DW.g2 (b1 := (decide (Se.Right b.Gauges.length (xs.getD (j - 1) default)))) (b2 := (decide ((0 : Int) ≤ (xs.getD (j - 1) default).Gauge))) (v := .int .i64 ((xs.getD ((((j : Nat) : Int) - 1).toNat) default).Gauge)) (fun _ h => h) rfl rfl rfl (fun hg1 hg2 => q_load ((gv_pos hg1).trans (gv_pos hg2)) Try.underlying3 rfl (Cell.repE (j := 0) h2 (by (try simp [-List.getD_eq_getElem?_getD] at hg1); (try simp [-List.getD_eq_getElem?_getD] at hg2); omega) rfl)) ?_
      refine DW.g2 (b1 := (decide (Se.Right b.Gauges.length (xs.getD (j - 1) default)))) (b2 := (decide ((0 : Int) ≤ (xs.getD (j - 1) default).Gauge))) (v := .pointer (some (⟨b1, 6, none⟩))) (fun _ h => h) rfl rfl rfl (fun hg1 hg2 => q_fieldAddr rfl Try.underlying41 rfl sz36 rfl) ?_
      refine DW.g2 (b1 := (decide (Se.Right b.Gauges.length (xs.getD (j - 1) default)))) (b2 := (decide ((0 : Int) ≤ (xs.getD (j - 1) default).Gauge))) (v := v6) (fun _ h => h) rfl rfl rfl (fun hg1 hg2 => q_load ((gv_pos hg1).trans (gv_pos hg2)) Try.underlying36 rfl (Cell.blk 4 rfl rfl)) ?_
      refine DW.g2 (b1 := (decide (Se.Right b.Gauges.length (xs.getD (j - 1) default)))) (b2 := (decide ((0 : Int) ≤ (xs.getD (j - 1) default).Gauge))) (v := .int .i64 ((b.Gauges.length : Nat) : Int)) (fun _ h => h) rfl rfl rfl (fun hg1 hg2 => q_len_sl ((gv_pos hg1).trans (gv_pos hg2)) r6.sl Try.underlying36) ?_
      refine DW.g2 (b1 := (decide (Se.Right b.Gauges.length (xs.getD (j - 1) default)))) (b2 := (decide ((0 : Int) ≤ (xs.getD (j - 1) default).Gauge))) (v := .bool (decide ((xs.getD ((((j : Nat) : Int) - 1).toNat) default).Gauge < ((b.Gauges.length : Nat) : Int)))) (fun _ h => h) rfl rfl rfl (fun hg1 hg2 => q_lss ((gv_pos hg1).trans (gv_pos hg2)) ((gv_pos hg1).trans (gv_pos hg2))) ?_
      refine DW.g (b := (decide (Se.Right b.Gauges.length (xs.getD (j - 1) default)))) (v := .bool ((decide ((0 : Int) ≤ (xs.getD (j - 1) default).Gauge)) && (decide ((xs.getD ((((j : Nat) : Int) - 1).toNat) default).Gauge < ((b.Gauges.length : Nat) : Int))))) (fun _ h => h) rfl rfl rfl (fun h => q_pick (gv_pos h) (fun hp => (gv_pos h).trans ((gv_pos hp).trans (pkAndT hp))) (fun hp => pkAndF hp)) ?_
      refine DW.q (v := .bool ((decide (Se.Right b.Gauges.length (xs.getD (j - 1) default))) || ((decide ((0 : Int) ≤ (xs.getD (j - 1) default).Gauge)) && (decide ((xs.getD ((((j : Nat) : Int) - 1).toNat) default).Gauge < ((b.Gauges.length : Nat) : Int)))))) (fun _ h => h) rfl (q_pick rfl (fun hp => pkOrT hp) (fun hp => (gv_pos hp).trans (pkOrF hp))) ?_
      refine DW.nil ?_
      refine Post.then_n ?_
      refine AW.cond (b := (decide (Se.Right b.Gauges.length (xs.getD (j - 1) default))) || ((decide ((0 : Int) ≤ (xs.getD (j - 1) default).Gauge)) && (decide ((xs.getD ((((j : Nat) : Int) - 1).toNat) default).Gauge < ((b.Gauges.length : Nat) : Int))))) rfl (fun hc3 => ?_) (fun hc3 => ?_)
      · simp [-List.getD_eq_getElem?_getD] at hc3
        refine AW.region ?_
        refine RW.q (v := pY) rfl (q_move rfl) ?_
        refine RW.q (v := v2x) rfl (q_move rfl) ?_
        refine RW.q (v := .int .i64 ((j - 1 : Nat) : Int)) rfl (q_as (v := .int .i64 (((j : Nat) : Int) - 1)) (q_move rfl) (congrArg (Value.int .i64) ((by omega)))) ?_
        refine RW.q (v := .pointer (some (Value.at v2x ((j - 1) * 5)))) rfl (q_indexAddr rfl rfl h2.sl Try.underlying22 sz29 (by omega) (by omega) rfl) ?_
        refine RW.q (v := .agg #[.int .i64 ((xs.getD (j - 1) default).Gauge), .int .i64 ((xs.getD (j - 1) default).Seq), .int .i64 ((xs.getD (j - 1) default).Clock), .int .i64 ((xs.getD (j - 1) default).Value), .string ((xs.getD (j - 1) default).Tag)]) rfl (q_loadAgg rfl Try.underlying29 rfl sz29 rfl (Cells.repE h2 (by omega) rfl)) ?_
        refine RW.eff (fun b3 : Nat => (.slice (some ⟨b3, 0, none⟩) 1 1)) (fun b3 => St ⟨w, Φ, []⟩ Φ [.row (.slice (some ⟨b3, 0, none⟩) 1 1) 29 5 1 ([.int .i64 ((xs.getD (j - 1) default).Gauge), .int .i64 ((xs.getD (j - 1) default).Seq), .int .i64 ((xs.getD (j - 1) default).Clock), .int .i64 ((xs.getD (j - 1) default).Value), .string ((xs.getD (j - 1) default).Tag)]), .row (.slice (some ⟨b2, 0, none⟩) 2 2) 29 5 2 ([.int .i64 ((xs.getD (j - 1) default).Gauge), .int .i64 ((xs.getD (j - 1) default).Seq), .int .i64 ((xs.getD (j - 1) default).Clock), .int .i64 ((xs.getD (j - 1) default).Value), .string ((xs.getD (j - 1) default).Tag), .int .i64 ((xs.getD ((j - 1) / 2) default).Gauge), .int .i64 ((xs.getD ((j - 1) / 2) default).Seq), .int .i64 ((xs.getD ((j - 1) / 2) default).Clock), .int .i64 ((xs.getD ((j - 1) / 2) default).Value), .string ((xs.getD ((j - 1) / 2) default).Tag)]), .row va1 29 5 ((X ++ [(xs.getD (j - 1) default), (xs.getD ((j - 1) / 2) default)]).length) (flat (X ++ [(xs.getD (j - 1) default), (xs.getD ((j - 1) / 2) default)])), .row pY 29 5 Y.length (flat Y), .row pZ 29 5 Z.length (flat Z), .blk b1 41 [.string b.Name, v1, .int .i64 b.Cells, v3, v4, v5, v6, v7, v8, v9, .int .i64 b.Err]]) rfl (e_buildSlice (vals := [(0, .agg #[.int .i64 ((xs.getD (j - 1) default).Gauge), .int .i64 ((xs.getD (j - 1) default).Seq), .int .i64 ((xs.getD (j - 1) default).Clock), .int .i64 ((xs.getD (j - 1) default).Value), .string ((xs.getD (j - 1) default).Tag)])]) (cells := [.int .i64 ((xs.getD (j - 1) default).Gauge), .int .i64 ((xs.getD (j - 1) default).Seq), .int .i64 ((xs.getD (j - 1) default).Clock), .int .i64 ((xs.getD (j - 1) default).Value), .string ((xs.getD (j - 1) default).Tag)]) Try.underlying22 inf29 rfl rfl rfl (by kernel_rfl) rfl) ?_
        intro b3
        refine RW.eff (fun xv : {vq : Value // IsSl vq (Y.length + 1)} => xv.1) (fun xv => St ⟨w, Φ, []⟩ Φ [.row (.slice (some ⟨b3, 0, none⟩) 1 1) 29 5 1 ([.int .i64 ((xs.getD (j - 1) default).Gauge), .int .i64 ((xs.getD (j - 1) default).Seq), .int .i64 ((xs.getD (j - 1) default).Clock), .int .i64 ((xs.getD (j - 1) default).Value), .string ((xs.getD (j - 1) default).Tag)]), .row (.slice (some ⟨b2, 0, none⟩) 2 2) 29 5 2 ([.int .i64 ((xs.getD (j - 1) default).Gauge), .int .i64 ((xs.getD (j - 1) default).Seq), .int .i64 ((xs.getD (j - 1) default).Clock), .int .i64 ((xs.getD (j - 1) default).Value), .string ((xs.getD (j - 1) default).Tag), .int .i64 ((xs.getD ((j - 1) / 2) default).Gauge), .int .i64 ((xs.getD ((j - 1) / 2) default).Seq), .int .i64 ((xs.getD ((j - 1) / 2) default).Clock), .int .i64 ((xs.getD ((j - 1) / 2) default).Value), .string ((xs.getD ((j - 1) / 2) default).Tag)]), .row va1 29 5 ((X ++ [(xs.getD (j - 1) default), (xs.getD ((j - 1) / 2) default)]).length) (flat (X ++ [(xs.getD (j - 1) default), (xs.getD ((j - 1) / 2) default)])), .row xv.1 29 5 ((Y ++ [(xs.getD (j - 1) default)]).length) (flat (Y ++ [(xs.getD (j - 1) default)])), .row pZ 29 5 Z.length (flat Z), .blk b1 41 [.string b.Name, v1, .int .i64 b.Cells, v3, v4, v5, v6, v7, v8, v9, .int .i64 b.Err]]) rfl (e_append 3 rfl rfl rfl Try.underlying22 inf29 rfl rfl rfl (Cells.row0 0 rfl) rfl (by omega) (by omega) (fun _ => by simp [flat] <;> rfl)) ?_
        rintro ⟨va2, hva2⟩
        refine RW.wk (J' := St ⟨w, Φ, []⟩ Φ [.row (.slice (some ⟨b2, 0, none⟩) 2 2) 29 5 2 ([.int .i64 ((xs.getD (j - 1) default).Gauge), .int .i64 ((xs.getD (j - 1) default).Seq), .int .i64 ((xs.getD (j - 1) default).Clock), .int .i64 ((xs.getD (j - 1) default).Value), .string ((xs.getD (j - 1) default).Tag), .int .i64 ((xs.getD ((j - 1) / 2) default).Gauge), .int .i64 ((xs.getD ((j - 1) / 2) default).Seq), .int .i64 ((xs.getD ((j - 1) / 2) default).Clock), .int .i64 ((xs.getD ((j - 1) / 2) default).Value), .string ((xs.getD ((j - 1) / 2) default).Tag)]), .row va1 29 5 ((X ++ [(xs.getD (j - 1) default), (xs.getD ((j - 1) / 2) default)]).length) (flat (X ++ [(xs.getD (j - 1) default), (xs.getD ((j - 1) / 2) default)])), .row va2 29 5 ((Y ++ [(xs.getD (j - 1) default)]).length) (flat (Y ++ [(xs.getD (j - 1) default)])), .row pZ 29 5 Z.length (flat Z), .blk b1 41 [.string b.Name, v1, .int .i64 b.Cells, v3, v4, v5, v6, v7, v8, v9, .int .i64 b.Err]]) (fun _ h => StP.drop h (by exact .cons _ (.cons_cons _ (.cons_cons _ (.cons_cons _ (.cons_cons _ (.cons_cons _ (.slnil)))))))) ?_
        refine RW.q (v := va2) rfl (q_assign rfl) ?_
        refine RW.nil ?_
        refine Post.then_n ?_
        refine AW.seq ?_
        refine AW.region ?_
        refine RW.q (v := v2x) rfl (q_move rfl) ?_
        refine RW.q (v := .int .i64 ((j - 1 : Nat) : Int)) rfl (q_as (v := .int .i64 (((j : Nat) : Int) - 1)) (q_move rfl) (congrArg (Value.int .i64) ((by omega)))) ?_
        refine RW.q (v := .pointer (some (Value.at v2x ((j - 1) * 5)))) rfl (q_indexAddr rfl rfl h2.sl Try.underlying22 sz29 (by omega) (by omega) rfl) ?_
        refine RW.q (v := .pointer (some (Value.at v2x ((j - 1) * 5 + 0)))) rfl (q_fieldAddr rfl Try.underlying29 rfl sz3 at_add) ?_
        refine RW.q (v := .int .i64 ((xs.getD (j - 1) default).Gauge)) rfl (q_load rfl Try.underlying3 rfl (Cell.repE (j := 0) h2 (by omega) rfl)) ?_
        refine RW.q (v := .int .i64 q) rfl (q_move rfl) ?_
        refine RW.q (v := .bool (decide ((xs.getD (j - 1) default).Gauge = q))) rfl (q_eql rfl rfl) ?_
        refine RW.nil ?_
        refine Post.then_n ?_
        refine AW.cond (b := decide ((xs.getD (j - 1) default).Gauge = q)) rfl (fun hc4 => ?_) (fun hc4 => ?_)
        · simp [-List.getD_eq_getElem?_getD] at hc4
          refine AW.region ?_
          refine RW.q (v := pZ) rfl (q_move rfl) ?_
          refine RW.q (v := v2x) rfl (q_move rfl) ?_
          refine RW.q (v := .int .i64 ((j - 1 : Nat) : Int)) rfl (q_as (v := .int .i64 (((j : Nat) : Int) - 1)) (q_move rfl) (congrArg (Value.int .i64) ((by omega)))) ?_
          refine RW.q (v := .pointer (some (Value.at v2x ((j - 1) * 5)))) rfl (q_indexAddr rfl rfl h2.sl Try.underlying22 sz29 (by omega) (by omega) rfl) ?_
          refine RW.q (v := .agg #[.int .i64 ((xs.getD (j - 1) default).Gauge), .int .i64 ((xs.getD (j - 1) default).Seq), .int .i64 ((xs.getD (j - 1) default).Clock), .int .i64 ((xs.getD (j - 1) default).Value), .string ((xs.getD (j - 1) default).Tag)]) rfl (q_loadAgg rfl Try.underlying29 rfl sz29 rfl (Cells.repE h2 (by omega) rfl)) ?_
          refine RW.eff (fun b4 : Nat => (.slice (some ⟨b4, 0, none⟩) 1 1)) (fun b4 => St ⟨w, Φ, []⟩ Φ [.row (.slice (some ⟨b4, 0, none⟩) 1 1) 29 5 1 ([.int .i64 ((xs.getD (j - 1) default).Gauge), .int .i64 ((xs.getD (j - 1) default).Seq), .int .i64 ((xs.getD (j - 1) default).Clock), .int .i64 ((xs.getD (j - 1) default).Value), .string ((xs.getD (j - 1) default).Tag)]), .row (.slice (some ⟨b2, 0, none⟩) 2 2) 29 5 2 ([.int .i64 ((xs.getD (j - 1) default).Gauge), .int .i64 ((xs.getD (j - 1) default).Seq), .int .i64 ((xs.getD (j - 1) default).Clock), .int .i64 ((xs.getD (j - 1) default).Value), .string ((xs.getD (j - 1) default).Tag), .int .i64 ((xs.getD ((j - 1) / 2) default).Gauge), .int .i64 ((xs.getD ((j - 1) / 2) default).Seq), .int .i64 ((xs.getD ((j - 1) / 2) default).Clock), .int .i64 ((xs.getD ((j - 1) / 2) default).Value), .string ((xs.getD ((j - 1) / 2) default).Tag)]), .row va1 29 5 ((X ++ [(xs.getD (j - 1) default), (xs.getD ((j - 1) / 2) default)]).length) (flat (X ++ [(xs.getD (j - 1) default), (xs.getD ((j - 1) / 2) default)])), .row va2 29 5 ((Y ++ [(xs.getD (j - 1) default)]).length) (flat (Y ++ [(xs.getD (j - 1) default)])), .row pZ 29 5 Z.length (flat Z), .blk b1 41 [.string b.Name, v1, .int .i64 b.Cells, v3, v4, v5, v6, v7, v8, v9, .int .i64 b.Err]]) rfl (e_buildSlice (vals := [(0, .agg #[.int .i64 ((xs.getD (j - 1) default).Gauge), .int .i64 ((xs.getD (j - 1) default).Seq), .int .i64 ((xs.getD (j - 1) default).Clock), .int .i64 ((xs.getD (j - 1) default).Value), .string ((xs.getD (j - 1) default).Tag)])]) (cells := [.int .i64 ((xs.getD (j - 1) default).Gauge), .int .i64 ((xs.getD (j - 1) default).Seq), .int .i64 ((xs.getD (j - 1) default).Clock), .int .i64 ((xs.getD (j - 1) default).Value), .string ((xs.getD (j - 1) default).Tag)]) Try.underlying22 inf29 rfl rfl rfl (by kernel_rfl) rfl) ?_
          intro b4
          refine RW.eff (fun xv : {vq : Value // IsSl vq (Z.length + 1)} => xv.1) (fun xv => St ⟨w, Φ, []⟩ Φ [.row (.slice (some ⟨b4, 0, none⟩) 1 1) 29 5 1 ([.int .i64 ((xs.getD (j - 1) default).Gauge), .int .i64 ((xs.getD (j - 1) default).Seq), .int .i64 ((xs.getD (j - 1) default).Clock), .int .i64 ((xs.getD (j - 1) default).Value), .string ((xs.getD (j - 1) default).Tag)]), .row (.slice (some ⟨b2, 0, none⟩) 2 2) 29 5 2 ([.int .i64 ((xs.getD (j - 1) default).Gauge), .int .i64 ((xs.getD (j - 1) default).Seq), .int .i64 ((xs.getD (j - 1) default).Clock), .int .i64 ((xs.getD (j - 1) default).Value), .string ((xs.getD (j - 1) default).Tag), .int .i64 ((xs.getD ((j - 1) / 2) default).Gauge), .int .i64 ((xs.getD ((j - 1) / 2) default).Seq), .int .i64 ((xs.getD ((j - 1) / 2) default).Clock), .int .i64 ((xs.getD ((j - 1) / 2) default).Value), .string ((xs.getD ((j - 1) / 2) default).Tag)]), .row va1 29 5 ((X ++ [(xs.getD (j - 1) default), (xs.getD ((j - 1) / 2) default)]).length) (flat (X ++ [(xs.getD (j - 1) default), (xs.getD ((j - 1) / 2) default)])), .row va2 29 5 ((Y ++ [(xs.getD (j - 1) default)]).length) (flat (Y ++ [(xs.getD (j - 1) default)])), .row xv.1 29 5 ((Z ++ [(xs.getD (j - 1) default)]).length) (flat (Z ++ [(xs.getD (j - 1) default)])), .blk b1 41 [.string b.Name, v1, .int .i64 b.Cells, v3, v4, v5, v6, v7, v8, v9, .int .i64 b.Err]]) rfl (e_append 4 rfl rfl rfl Try.underlying22 inf29 rfl rfl rfl (Cells.row0 0 rfl) rfl (by omega) (by omega) (fun _ => by simp [flat] <;> rfl)) ?_
          rintro ⟨va3, hva3⟩
          refine RW.wk (J' := St ⟨w, Φ, []⟩ Φ [.row (.slice (some ⟨b2, 0, none⟩) 2 2) 29 5 2 ([.int .i64 ((xs.getD (j - 1) default).Gauge), .int .i64 ((xs.getD (j - 1) default).Seq), .int .i64 ((xs.getD (j - 1) default).Clock), .int .i64 ((xs.getD (j - 1) default).Value), .string ((xs.getD (j - 1) default).Tag), .int .i64 ((xs.getD ((j - 1) / 2) default).Gauge), .int .i64 ((xs.getD ((j - 1) / 2) default).Seq), .int .i64 ((xs.getD ((j - 1) / 2) default).Clock), .int .i64 ((xs.getD ((j - 1) / 2) default).Value), .string ((xs.getD ((j - 1) / 2) default).Tag)]), .row va1 29 5 ((X ++ [(xs.getD (j - 1) default), (xs.getD ((j - 1) / 2) default)]).length) (flat (X ++ [(xs.getD (j - 1) default), (xs.getD ((j - 1) / 2) default)])), .row va2 29 5 ((Y ++ [(xs.getD (j - 1) default)]).length) (flat (Y ++ [(xs.getD (j - 1) default)])), .row va3 29 5 ((Z ++ [(xs.getD (j - 1) default)]).length) (flat (Z ++ [(xs.getD (j - 1) default)])), .blk b1 41 [.string b.Name, v1, .int .i64 b.Cells, v3, v4, v5, v6, v7, v8, v9, .int .i64 b.Err]]) (fun _ h => StP.drop h (by exact .cons _ (.cons_cons _ (.cons_cons _ (.cons_cons _ (.cons_cons _ (.cons_cons _ (.slnil)))))))) ?_
          refine RW.q (v := va3) rfl (q_assign rfl) ?_
          refine RW.nil ?_
          refine Post.blk_n (Post.then_n ?_)
          refine AW.region ?_
          refine RW.q (v := .int .i64 ((j - 1 : Nat) : Int)) rfl (q_as (v := .int .i64 (((j : Nat) : Int) - 1)) (q_move rfl) (congrArg (Value.int .i64) ((by omega)))) ?_
          refine RW.q (v := .int .i64 (((j - 1 : Nat) : Int) - 1)) rfl (q_sub rfl rfl (by omega) (by unfold I64; omega)) ?_
          refine RW.q (v := .int .i64 (((j - 1 : Nat) : Int) - 1)) rfl (q_assign rfl) ?_
          refine RW.nil ?_
          have hRt : Se.Rgt b (xs.getD (j - 1) default) := by unfold Se.Rgt; simpa [-List.getD_eq_getElem?_getD] using hc3
          have hOw : (xs.getD (j - 1) default).Gauge = q := by simpa [-List.getD_eq_getElem?_getD] using hc4
          exact Post.back (s' := _) (J' := _) (m' := _) (by omega) ⟨j - 1, X ++ [(xs.getD (j - 1) default), (xs.getD ((j - 1) / 2) default)], Y ++ [(xs.getD (j - 1) default)], Z ++ [(xs.getD (j - 1) default)], va1, va2, va3, rfl, rfl, rfl, (by omega), (by simpa using hva1), (by simpa using hva2), (by simpa using hva3), (hBk.step (by omega) hj rfl (Se.getD_mem (by omega)) (.inl ⟨hRt, rfl⟩) (.inl ⟨hOw, rfl⟩))⟩ ⟨rfl, rfl, rfl, rfl, rfl, rfl, rfl, rfl, rfl, rfl, rfl, rfl, trivial⟩ (fun _ h => StP.drop h (by exact .cons _ (.cons_cons _ (.cons_cons _ (.cons_cons _ (.cons_cons _ (.slnil)))))))
        · simp [-List.getD_eq_getElem?_getD] at hc4
          refine AW.skip ?_
          refine Post.blk_n (Post.then_n ?_)
          refine AW.region ?_
          refine RW.q (v := .int .i64 ((j - 1 : Nat) : Int)) rfl (q_as (v := .int .i64 (((j : Nat) : Int) - 1)) (q_move rfl) (congrArg (Value.int .i64) ((by omega)))) ?_
          refine RW.q (v := .int .i64 (((j - 1 : Nat) : Int) - 1)) rfl (q_sub rfl rfl (by omega) (by unfold I64; omega)) ?_
          refine RW.q (v := .int .i64 (((j - 1 : Nat) : Int) - 1)) rfl (q_assign rfl) ?_
          refine RW.nil ?_
          have hRt : Se.Rgt b (xs.getD (j - 1) default) := by unfold Se.Rgt; simpa [-List.getD_eq_getElem?_getD] using hc3
          have hOw : (xs.getD (j - 1) default).Gauge ≠ q := by simpa [-List.getD_eq_getElem?_getD] using hc4
          exact Post.back (s' := _) (J' := _) (m' := _) (by omega) ⟨j - 1, X ++ [(xs.getD (j - 1) default), (xs.getD ((j - 1) / 2) default)], Y ++ [(xs.getD (j - 1) default)], Z, va1, va2, pZ, rfl, rfl, rfl, (by omega), (by simpa using hva1), (by simpa using hva2), hzv, (hBk.step (by omega) hj rfl (Se.getD_mem (by omega)) (.inl ⟨hRt, rfl⟩) (.inr ⟨hOw, rfl⟩))⟩ ⟨rfl, rfl, rfl, rfl, rfl, rfl, rfl, rfl, rfl, rfl, rfl, rfl, trivial⟩ (fun _ h => StP.drop h (by exact .cons _ (.cons_cons _ (.cons_cons _ (.cons_cons _ (.cons_cons _ (.slnil)))))))
      · simp [-List.getD_eq_getElem?_getD] at hc3
        refine AW.skip ?_
        refine Post.then_n ?_
        refine AW.seq ?_
        refine AW.region ?_
        refine RW.q (v := v2x) rfl (q_move rfl) ?_
        refine RW.q (v := .int .i64 ((j - 1 : Nat) : Int)) rfl (q_as (v := .int .i64 (((j : Nat) : Int) - 1)) (q_move rfl) (congrArg (Value.int .i64) ((by omega)))) ?_
        refine RW.q (v := .pointer (some (Value.at v2x ((j - 1) * 5)))) rfl (q_indexAddr rfl rfl h2.sl Try.underlying22 sz29 (by omega) (by omega) rfl) ?_
        refine RW.q (v := .pointer (some (Value.at v2x ((j - 1) * 5 + 0)))) rfl (q_fieldAddr rfl Try.underlying29 rfl sz3 at_add) ?_
        refine RW.q (v := .int .i64 ((xs.getD (j - 1) default).Gauge)) rfl (q_load rfl Try.underlying3 rfl (Cell.repE (j := 0) h2 (by omega) rfl)) ?_
        refine RW.q (v := .int .i64 q) rfl (q_move rfl) ?_
        refine RW.q (v := .bool (decide ((xs.getD (j - 1) default).Gauge = q))) rfl (q_eql rfl rfl) ?_
        refine RW.nil ?_
        refine Post.then_n ?_
        refine AW.cond (b := decide ((xs.getD (j - 1) default).Gauge = q)) rfl (fun hc5 => ?_) (fun hc5 => ?_)
        · simp [-List.getD_eq_getElem?_getD] at hc5
          refine AW.region ?_
          refine RW.q (v := pZ) rfl (q_move rfl) ?_
          refine RW.q (v := v2x) rfl (q_move rfl) ?_
          refine RW.q (v := .int .i64 ((j - 1 : Nat) : Int)) rfl (q_as (v := .int .i64 (((j : Nat) : Int) - 1)) (q_move rfl) (congrArg (Value.int .i64) ((by omega)))) ?_
          refine RW.q (v := .pointer (some (Value.at v2x ((j - 1) * 5)))) rfl (q_indexAddr rfl rfl h2.sl Try.underlying22 sz29 (by omega) (by omega) rfl) ?_
          refine RW.q (v := .agg #[.int .i64 ((xs.getD (j - 1) default).Gauge), .int .i64 ((xs.getD (j - 1) default).Seq), .int .i64 ((xs.getD (j - 1) default).Clock), .int .i64 ((xs.getD (j - 1) default).Value), .string ((xs.getD (j - 1) default).Tag)]) rfl (q_loadAgg rfl Try.underlying29 rfl sz29 rfl (Cells.repE h2 (by omega) rfl)) ?_
          refine RW.eff (fun b5 : Nat => (.slice (some ⟨b5, 0, none⟩) 1 1)) (fun b5 => St ⟨w, Φ, []⟩ Φ [.row (.slice (some ⟨b5, 0, none⟩) 1 1) 29 5 1 ([.int .i64 ((xs.getD (j - 1) default).Gauge), .int .i64 ((xs.getD (j - 1) default).Seq), .int .i64 ((xs.getD (j - 1) default).Clock), .int .i64 ((xs.getD (j - 1) default).Value), .string ((xs.getD (j - 1) default).Tag)]), .row (.slice (some ⟨b2, 0, none⟩) 2 2) 29 5 2 ([.int .i64 ((xs.getD (j - 1) default).Gauge), .int .i64 ((xs.getD (j - 1) default).Seq), .int .i64 ((xs.getD (j - 1) default).Clock), .int .i64 ((xs.getD (j - 1) default).Value), .string ((xs.getD (j - 1) default).Tag), .int .i64 ((xs.getD ((j - 1) / 2) default).Gauge), .int .i64 ((xs.getD ((j - 1) / 2) default).Seq), .int .i64 ((xs.getD ((j - 1) / 2) default).Clock), .int .i64 ((xs.getD ((j - 1) / 2) default).Value), .string ((xs.getD ((j - 1) / 2) default).Tag)]), .row va1 29 5 ((X ++ [(xs.getD (j - 1) default), (xs.getD ((j - 1) / 2) default)]).length) (flat (X ++ [(xs.getD (j - 1) default), (xs.getD ((j - 1) / 2) default)])), .row pY 29 5 Y.length (flat Y), .row pZ 29 5 Z.length (flat Z), .blk b1 41 [.string b.Name, v1, .int .i64 b.Cells, v3, v4, v5, v6, v7, v8, v9, .int .i64 b.Err]]) rfl (e_buildSlice (vals := [(0, .agg #[.int .i64 ((xs.getD (j - 1) default).Gauge), .int .i64 ((xs.getD (j - 1) default).Seq), .int .i64 ((xs.getD (j - 1) default).Clock), .int .i64 ((xs.getD (j - 1) default).Value), .string ((xs.getD (j - 1) default).Tag)])]) (cells := [.int .i64 ((xs.getD (j - 1) default).Gauge), .int .i64 ((xs.getD (j - 1) default).Seq), .int .i64 ((xs.getD (j - 1) default).Clock), .int .i64 ((xs.getD (j - 1) default).Value), .string ((xs.getD (j - 1) default).Tag)]) Try.underlying22 inf29 rfl rfl rfl (by kernel_rfl) rfl) ?_
          intro b5
          refine RW.eff (fun xv : {vq : Value // IsSl vq (Z.length + 1)} => xv.1) (fun xv => St ⟨w, Φ, []⟩ Φ [.row (.slice (some ⟨b5, 0, none⟩) 1 1) 29 5 1 ([.int .i64 ((xs.getD (j - 1) default).Gauge), .int .i64 ((xs.getD (j - 1) default).Seq), .int .i64 ((xs.getD (j - 1) default).Clock), .int .i64 ((xs.getD (j - 1) default).Value), .string ((xs.getD (j - 1) default).Tag)]), .row (.slice (some ⟨b2, 0, none⟩) 2 2) 29 5 2 ([.int .i64 ((xs.getD (j - 1) default).Gauge), .int .i64 ((xs.getD (j - 1) default).Seq), .int .i64 ((xs.getD (j - 1) default).Clock), .int .i64 ((xs.getD (j - 1) default).Value), .string ((xs.getD (j - 1) default).Tag), .int .i64 ((xs.getD ((j - 1) / 2) default).Gauge), .int .i64 ((xs.getD ((j - 1) / 2) default).Seq), .int .i64 ((xs.getD ((j - 1) / 2) default).Clock), .int .i64 ((xs.getD ((j - 1) / 2) default).Value), .string ((xs.getD ((j - 1) / 2) default).Tag)]), .row va1 29 5 ((X ++ [(xs.getD (j - 1) default), (xs.getD ((j - 1) / 2) default)]).length) (flat (X ++ [(xs.getD (j - 1) default), (xs.getD ((j - 1) / 2) default)])), .row pY 29 5 Y.length (flat Y), .row xv.1 29 5 ((Z ++ [(xs.getD (j - 1) default)]).length) (flat (Z ++ [(xs.getD (j - 1) default)])), .blk b1 41 [.string b.Name, v1, .int .i64 b.Cells, v3, v4, v5, v6, v7, v8, v9, .int .i64 b.Err]]) rfl (e_append 4 rfl rfl rfl Try.underlying22 inf29 rfl rfl rfl (Cells.row0 0 rfl) rfl (by omega) (by omega) (fun _ => by simp [flat] <;> rfl)) ?_
          rintro ⟨va4, hva4⟩
          refine RW.wk (J' := St ⟨w, Φ, []⟩ Φ [.row (.slice (some ⟨b2, 0, none⟩) 2 2) 29 5 2 ([.int .i64 ((xs.getD (j - 1) default).Gauge), .int .i64 ((xs.getD (j - 1) default).Seq), .int .i64 ((xs.getD (j - 1) default).Clock), .int .i64 ((xs.getD (j - 1) default).Value), .string ((xs.getD (j - 1) default).Tag), .int .i64 ((xs.getD ((j - 1) / 2) default).Gauge), .int .i64 ((xs.getD ((j - 1) / 2) default).Seq), .int .i64 ((xs.getD ((j - 1) / 2) default).Clock), .int .i64 ((xs.getD ((j - 1) / 2) default).Value), .string ((xs.getD ((j - 1) / 2) default).Tag)]), .row va1 29 5 ((X ++ [(xs.getD (j - 1) default), (xs.getD ((j - 1) / 2) default)]).length) (flat (X ++ [(xs.getD (j - 1) default), (xs.getD ((j - 1) / 2) default)])), .row pY 29 5 Y.length (flat Y), .row va4 29 5 ((Z ++ [(xs.getD (j - 1) default)]).length) (flat (Z ++ [(xs.getD (j - 1) default)])), .blk b1 41 [.string b.Name, v1, .int .i64 b.Cells, v3, v4, v5, v6, v7, v8, v9, .int .i64 b.Err]]) (fun _ h => StP.drop h (by exact .cons _ (.cons_cons _ (.cons_cons _ (.cons_cons _ (.cons_cons _ (.cons_cons _ (.slnil)))))))) ?_
          refine RW.q (v := va4) rfl (q_assign rfl) ?_
          refine RW.nil ?_
          refine Post.blk_n (Post.then_n ?_)
          refine AW.region ?_
          refine RW.q (v := .int .i64 ((j - 1 : Nat) : Int)) rfl (q_as (v := .int .i64 (((j : Nat) : Int) - 1)) (q_move rfl) (congrArg (Value.int .i64) ((by omega)))) ?_
          refine RW.q (v := .int .i64 (((j - 1 : Nat) : Int) - 1)) rfl (q_sub rfl rfl (by omega) (by unfold I64; omega)) ?_
          refine RW.q (v := .int .i64 (((j - 1 : Nat) : Int) - 1)) rfl (q_assign rfl) ?_
          refine RW.nil ?_
          have hRt : ¬ Se.Rgt b (xs.getD (j - 1) default) := fun hR => by
            rcases hR with h9 | h9
            · exact hc3.1 h9
            · have := hc3.2 h9.1; omega
          have hOw : (xs.getD (j - 1) default).Gauge = q := by simpa [-List.getD_eq_getElem?_getD] using hc5
          exact Post.back (s' := _) (J' := _) (m' := _) (by omega) ⟨j - 1, X ++ [(xs.getD (j - 1) default), (xs.getD ((j - 1) / 2) default)], Y, Z ++ [(xs.getD (j - 1) default)], va1, pY, va4, rfl, rfl, rfl, (by omega), (by simpa using hva1), hyv, (by simpa using hva4), (hBk.step (by omega) hj rfl (Se.getD_mem (by omega)) (.inr ⟨hRt, rfl⟩) (.inl ⟨hOw, rfl⟩))⟩ ⟨rfl, rfl, rfl, rfl, rfl, rfl, rfl, rfl, rfl, rfl, rfl, rfl, trivial⟩ (fun _ h => StP.drop h (by exact .cons _ (.cons_cons _ (.cons_cons _ (.cons_cons _ (.cons_cons _ (.slnil)))))))
        · simp [-List.getD_eq_getElem?_getD] at hc5
          refine AW.skip ?_
          refine Post.blk_n (Post.then_n ?_)
          refine AW.region ?_
          refine RW.q (v := .int .i64 ((j - 1 : Nat) : Int)) rfl (q_as (v := .int .i64 (((j : Nat) : Int) - 1)) (q_move rfl) (congrArg (Value.int .i64) ((by omega)))) ?_
          refine RW.q (v := .int .i64 (((j - 1 : Nat) : Int) - 1)) rfl (q_sub rfl rfl (by omega) (by unfold I64; omega)) ?_
          refine RW.q (v := .int .i64 (((j - 1 : Nat) : Int) - 1)) rfl (q_assign rfl) ?_
          refine RW.nil ?_
          have hRt : ¬ Se.Rgt b (xs.getD (j - 1) default) := fun hR => by
            rcases hR with h9 | h9
            · exact hc3.1 h9
            · have := hc3.2 h9.1; omega
          have hOw : (xs.getD (j - 1) default).Gauge ≠ q := by simpa [-List.getD_eq_getElem?_getD] using hc5
          exact Post.back (s' := _) (J' := _) (m' := _) (by omega) ⟨j - 1, X ++ [(xs.getD (j - 1) default), (xs.getD ((j - 1) / 2) default)], Y, Z, va1, pY, pZ, rfl, rfl, rfl, (by omega), (by simpa using hva1), hyv, hzv, (hBk.step (by omega) hj rfl (Se.getD_mem (by omega)) (.inr ⟨hRt, rfl⟩) (.inr ⟨hOw, rfl⟩))⟩ ⟨rfl, rfl, rfl, rfl, rfl, rfl, rfl, rfl, rfl, rfl, rfl, rfl, trivial⟩ (fun _ h => StP.drop h (by exact .cons _ (.cons_cons _ (.cons_cons _ (.cons_cons _ (.cons_cons _ (.slnil)))))))
    · simp [-List.getD_eq_getElem?_getD] at hc2
      refine AW.exit ?_
      refine Post.then_x (Post.then_x (Post.blk_hit (Post.then_n ?_)))
      refine AW.seq ?_
      have hX := hBk.xl
      have hY := hBk.yl
      have hZ := hBk.zl
      obtain rfl : j = 0 := by omega
      have hwfX : ∀ x ∈ X, RepE.wf x := fun x hx => h2.wfE x (hBk.x1 x hx)
      have hwfY : ∀ x ∈ Y, RepE.wf x := fun x hx => h2.wfE x (hBk.subY hx)
      have hwfZ : ∀ x ∈ Z, RepE.wf x := fun x hx => h2.wfE x (hBk.subZ hx)
      refine AW.region ?_
      refine RW.q (v := .agg #[.string b.Name, v1, .int .i64 b.Cells, v3, v4, v5, v6, v7, v8, v9, .int .i64 b.Err]) rfl (q_loadAgg rfl Try.underlying41 rfl sz41 rfl (Cells.blk 3 rfl)) ?_
      refine RW.q (v := v2x) rfl (q_move rfl) ?_
      refine RW.q (v := .int .i64 u) rfl (q_move rfl) ?_
      refine RW.q (v := .int .i64 v) rfl (q_move rfl) ?_
      refine RW.eff (fun x : {y : Value × Hp // (fun r Ψ => ∃ R, RepSl Ψ R r ∧ Se.Rds b xs u v R) y.1 y.2 ∧ Hp.le Φ y.2} => x.1.1) (fun x => St ⟨w, Φ, []⟩ x.1.2 [.row pX 29 5 X.length (flat X), .row pY 29 5 Y.length (flat Y), .row pZ 29 5 Z.length (flat Z), .blk b1 41 [.string b.Name, v1, .int .i64 b.Cells, v3, v4, v5, v6, v7, v8, v9, .int .i64 b.Err]]) rfl (e_callS (T := fun r Ψ => ∃ R, RepSl Ψ R r ∧ Se.Rds b xs u v R) (args := #[.agg #[.string b.Name, v1, .int .i64 b.Cells, v3, v4, v5, v6, v7, v8, v9, .int .i64 b.Err], v2x, .int .i64 u, .int .i64 v]) own14 rfl rfl (fun w1 hw1 => (Readings_c w1 (Go.K.hp w1) (Hp.le_refl _) (hB.mono hw1.phi) (h2.mono hw1.phi) (by omega) (u := u) (v := v) (by assumption) (by assumption)).mono fun _ _ => retS_up (fun _ _ _ hl ⟨R, h1, h2⟩ => ⟨R, h1.mono hl, h2⟩))) ?_
      rintro ⟨⟨lv1, Φ1⟩, hlv1, hlΦ1⟩
      replace hlv1 : ∃ R, RepSl Φ1 R lv1 ∧ Se.Rds b xs u v R := hlv1
      replace hlΦ1 : Hp.le Φ Φ1 := hlΦ1
      replace hB := hB.mono hlΦ1
      replace r6 := r6.mono hlΦ1
      replace h2 := h2.mono hlΦ1
      obtain ⟨R1, hlv1, hR1⟩ := hlv1
      have hR1l := hR1.len
      refine RW.q (v := lv1) rfl (q_assign rfl) ?_
      refine RW.nil ?_
      refine Post.then_n ?_
      refine AW.seq ?_
      have hB_0 := hB
      have r6_0 := r6
      have h2_0 := h2
      have hlv1_0 := hlv1
      refine AW.draw (J0 := St ⟨w, Φ, []⟩ Φ1 [.row pX 29 5 X.length (flat X), .row pY 29 5 Y.length (flat Y), .row pZ 29 5 Z.length (flat Z), .blk b1 41 [.string b.Name, v1, .int .i64 b.Cells, v3, v4, v5, v6, v7, v8, v9, .int .i64 b.Err]]) [.q, .q, .q, .q, .q, .q, .q, .q, .p, .e, .e, .e, .e, .q] [1, 2, 3, 4, 7, 8, 9, 10, 0, 5, 6, 11, 12, 13] hmix (by kernel_rfl) ?_
      refine DW.q (v := .agg #[.string b.Name, v1, .int .i64 b.Cells, v3, v4, v5, v6, v7, v8, v9, .int .i64 b.Err]) (fun _ h => h) rfl (q_loadAgg rfl Try.underlying41 rfl sz41 rfl (Cells.blk 3 rfl)) ?_
      refine DW.q (v := v2x) (fun _ h => h) rfl (q_move rfl) ?_
      refine DW.q (v := .int .i64 u) (fun _ h => h) rfl (q_move rfl) ?_
      refine DW.q (v := .int .i64 mm) (fun _ h => h) rfl (q_move rfl) ?_
      refine DW.q (v := .agg #[.string b.Name, v1, .int .i64 b.Cells, v3, v4, v5, v6, v7, v8, v9, .int .i64 b.Err]) (fun _ h => h) rfl (q_loadAgg rfl Try.underlying41 rfl sz41 rfl (Cells.blk 3 rfl)) ?_
      refine DW.q (v := v2x) (fun _ h => h) rfl (q_move rfl) ?_
      refine DW.q (v := .int .i64 mm) (fun _ h => h) rfl (q_move rfl) ?_
      refine DW.q (v := .int .i64 v) (fun _ h => h) rfl (q_move rfl) ?_
      refine DW.pair (X := Nat) (Y := {y : Value × Hp // (fun r Ψ => ∃ R, RepSl Ψ R r ∧ Se.Rds b xs u mm R) y.1 y.2 ∧ Hp.le Φ1 y.2}) (fun b6 => (.slice (some ⟨b6, 0, none⟩) 0 0)) (fun y => y.1.1) (fun b6 => St ⟨w, Φ, []⟩ Φ1 [.row (.slice (some ⟨b6, 0, none⟩) 0 0) 49 4 0 (flat ([] : List Bt.Reading)), .row pX 29 5 X.length (flat X), .row pY 29 5 Y.length (flat Y), .row pZ 29 5 Z.length (flat Z), .blk b1 41 [.string b.Name, v1, .int .i64 b.Cells, v3, v4, v5, v6, v7, v8, v9, .int .i64 b.Err]]) (fun y => St ⟨w, Φ, []⟩ y.1.2 [.row pX 29 5 X.length (flat X), .row pY 29 5 Y.length (flat Y), .row pZ 29 5 Z.length (flat Z), .blk b1 41 [.string b.Name, v1, .int .i64 b.Cells, v3, v4, v5, v6, v7, v8, v9, .int .i64 b.Err]]) (fun b6 y => St ⟨w, Φ, []⟩ y.1.2 [.row (.slice (some ⟨b6, 0, none⟩) 0 0) 49 4 0 (flat ([] : List Bt.Reading)), .row pX 29 5 X.length (flat X), .row pY 29 5 Y.length (flat Y), .row pZ 29 5 Z.length (flat Z), .blk b1 41 [.string b.Name, v1, .int .i64 b.Cells, v3, v4, v5, v6, v7, v8, v9, .int .i64 b.Err]]) rfl rfl rfl trivial trivial (fun _ => trivial) (fun _ => trivial) (fun b6 _ h => (StP.drop h (by exact .cons _ (.cons_cons _ (.cons_cons _ (.cons_cons _ (.cons_cons _ (.slnil)))))))) (fun y _ h => StP.know y.2.2 h) (fun b6 y _ h => StP.know y.2.2 (StP.drop h (by exact .cons _ (.cons_cons _ (.cons_cons _ (.cons_cons _ (.cons_cons _ (.slnil)))))))) (e_buildSlice0 Try.underlying43 inf49) (fun b6 => e_callS (T := fun r Ψ => ∃ R, RepSl Ψ R r ∧ Se.Rds b xs u mm R) (args := #[.agg #[.string b.Name, v1, .int .i64 b.Cells, v3, v4, v5, v6, v7, v8, v9, .int .i64 b.Err], v2x, .int .i64 u, .int .i64 mm]) own14 rfl rfl (fun w1 hw1 => (Readings_c w1 (Go.K.hp w1) (Hp.le_refl _) (hB.mono hw1.phi) (h2.mono hw1.phi) (by omega) (u := u) (v := mm) (by assumption) (by assumption)).mono fun _ _ => retS_up (fun _ _ _ hl ⟨R, h1, h2⟩ => ⟨R, h1.mono hl, h2⟩))) (e_callS (T := fun r Ψ => ∃ R, RepSl Ψ R r ∧ Se.Rds b xs u mm R) (args := #[.agg #[.string b.Name, v1, .int .i64 b.Cells, v3, v4, v5, v6, v7, v8, v9, .int .i64 b.Err], v2x, .int .i64 u, .int .i64 mm]) own14 rfl rfl (fun w1 hw1 => (Readings_c w1 (Go.K.hp w1) (Hp.le_refl _) (hB.mono hw1.phi) (h2.mono hw1.phi) (by omega) (u := u) (v := mm) (by assumption) (by assumption)).mono fun _ _ => retS_up (fun _ _ _ hl ⟨R, h1, h2⟩ => ⟨R, h1.mono hl, h2⟩))) (fun y => e_buildSlice0 Try.underlying43 inf49) ?_
      rintro b6 ⟨⟨lv2, Φ2⟩, hlv2, hlΦ2⟩
      replace hlv2 : ∃ R, RepSl Φ2 R lv2 ∧ Se.Rds b xs u mm R := hlv2
      replace hlΦ2 : Hp.le Φ1 Φ2 := hlΦ2
      replace hB := hB.mono hlΦ2
      replace r6 := r6.mono hlΦ2
      replace h2 := h2.mono hlΦ2
      replace hlv1 := hlv1.mono hlΦ2
      obtain ⟨R2, hlv2, hR2⟩ := hlv2
      have hR2l := hR2.len
      refine DW.eff (fun xv : {vq : Value // IsSl vq (0 + R2.length)} => xv.1) (fun xv => St ⟨w, Φ, []⟩ Φ2 [.row xv.1 49 4 ((([] : List Bt.Reading) ++ R2).length) (flat (([] : List Bt.Reading) ++ R2)), .row pX 29 5 X.length (flat X), .row pY 29 5 Y.length (flat Y), .row pZ 29 5 Z.length (flat Z), .blk b1 41 [.string b.Name, v1, .int .i64 b.Cells, v3, v4, v5, v6, v7, v8, v9, .int .i64 b.Err]]) (fun _ _ => (fun _ h => StP.know hlΦ2 (StP.drop h (by exact .cons _ (.cons_cons _ (.cons_cons _ (.cons_cons _ (.cons_cons _ (.slnil))))))))) rfl (e_appendPhi (yv := lv2) 0 rfl rfl rfl hlv2.sl Try.underlying43 inf49 rfl rfl (flat_len even49 _) (repE_cells even49 hlv2) (flat_one hlv2) (by first | omega | (simp; omega)) (by first | omega | (simp; omega)) (fun _ => by simp [flat])) ?_
      rintro ⟨va5, hva5⟩
      refine DW.eff (fun x : {y : Value × Hp // (fun r Ψ => ∃ R, RepSl Ψ R r ∧ Se.Rds b xs mm v R) y.1 y.2 ∧ Hp.le Φ2 y.2} => x.1.1) (fun x => St ⟨w, Φ, []⟩ x.1.2 [.row va5 49 4 ((([] : List Bt.Reading) ++ R2).length) (flat (([] : List Bt.Reading) ++ R2)), .row pX 29 5 X.length (flat X), .row pY 29 5 Y.length (flat Y), .row pZ 29 5 Z.length (flat Z), .blk b1 41 [.string b.Name, v1, .int .i64 b.Cells, v3, v4, v5, v6, v7, v8, v9, .int .i64 b.Err]]) (fun _ x => (fun _ h => StP.know (Hp.le_trans hlΦ2 x.2.2) (StP.drop h (by exact .cons _ (.cons_cons _ (.cons_cons _ (.cons_cons _ (.cons_cons _ (.slnil))))))))) rfl (e_callS (T := fun r Ψ => ∃ R, RepSl Ψ R r ∧ Se.Rds b xs mm v R) (args := #[.agg #[.string b.Name, v1, .int .i64 b.Cells, v3, v4, v5, v6, v7, v8, v9, .int .i64 b.Err], v2x, .int .i64 mm, .int .i64 v]) own14 rfl rfl (fun w1 hw1 => (Readings_c w1 (Go.K.hp w1) (Hp.le_refl _) (hB.mono hw1.phi) (h2.mono hw1.phi) (by omega) (u := mm) (v := v) (by assumption) (by assumption)).mono fun _ _ => retS_up (fun _ _ _ hl ⟨R, h1, h2⟩ => ⟨R, h1.mono hl, h2⟩))) ?_
      rintro ⟨⟨lv4, Φ4⟩, hlv4, hlΦ4⟩
      replace hlv4 : ∃ R, RepSl Φ4 R lv4 ∧ Se.Rds b xs mm v R := hlv4
      replace hlΦ4 : Hp.le Φ2 Φ4 := hlΦ4
      replace hB := hB.mono hlΦ4
      replace r6 := r6.mono hlΦ4
      replace h2 := h2.mono hlΦ4
      replace hlv1 := hlv1.mono hlΦ4
      replace hlv2 := hlv2.mono hlΦ4
      obtain ⟨R4, hlv4, hR4⟩ := hlv4
      have hR4l := hR4.len
      refine DW.eff (fun xv : {vq : Value // IsSl vq ((([] : List Bt.Reading) ++ R2).length + R4.length)} => xv.1) (fun xv => St ⟨w, Φ, []⟩ Φ4 [.row xv.1 49 4 (((([] : List Bt.Reading) ++ R2) ++ R4).length) (flat ((([] : List Bt.Reading) ++ R2) ++ R4)), .row pX 29 5 X.length (flat X), .row pY 29 5 Y.length (flat Y), .row pZ 29 5 Z.length (flat Z), .blk b1 41 [.string b.Name, v1, .int .i64 b.Cells, v3, v4, v5, v6, v7, v8, v9, .int .i64 b.Err]]) (fun _ _ => (fun _ h => StP.know (Hp.le_trans hlΦ2 hlΦ4) (StP.drop h (by exact .cons _ (.cons_cons _ (.cons_cons _ (.cons_cons _ (.cons_cons _ (.slnil))))))))) rfl (e_appendPhi (yv := lv4) 0 rfl rfl rfl hlv4.sl Try.underlying43 inf49 rfl rfl (flat_len even49 _) (repE_cells even49 hlv4) (flat_one hlv4) (by first | omega | (simp; omega)) (by first | omega | (simp; omega)) (fun _ => by simp [flat])) ?_
      rintro ⟨va6, hva6⟩
      refine DW.q (v := va6) (fun _ h => StP.know (Hp.le_trans hlΦ2 hlΦ4) (StP.drop h (by exact .cons _ (.cons_cons _ (.cons_cons _ (.cons_cons _ (.cons_cons _ (.slnil)))))))) rfl (q_assign rfl) ?_
      refine DW.nil ?_
      refine Post.then_n ?_
      refine AW.seq ?_
      have hwfP : ∀ x ∈ (([] : List Bt.Reading) ++ R2) ++ R4, RepE.wf x := fun x hx => by
        rcases List.mem_append.1 hx with h9 | h9
        · rcases List.mem_append.1 h9 with g9 | g9
          · cases g9
          · exact hlv2.wfE x g9
        · exact hlv4.wfE x h9
      refine AW.region ?_
      refine RW.q (v := lv1) rfl (q_move rfl) ?_
      refine RW.q (v := .agg #[.string b.Name, v1, .int .i64 b.Cells, v3, v4, v5, v6, v7, v8, v9, .int .i64 b.Err]) rfl (q_loadAgg rfl Try.underlying41 rfl sz41 rfl (Cells.blk 4 rfl)) ?_
      refine RW.q (v := pX) rfl (q_move rfl) ?_
      refine RW.q (v := .int .i64 u) rfl (q_move rfl) ?_
      refine RW.q (v := .int .i64 v) rfl (q_move rfl) ?_
      refine RW.eff (fun x : {y : Value × Hp // (fun r Ψ => ∃ R, RepSl Ψ R r ∧ Se.Rds b X u v R) y.1 y.2 ∧ Hp.le Φ4 y.2} => x.1.1) (fun x => St ⟨w, Φ, []⟩ x.1.2 [.row va6 49 4 (((([] : List Bt.Reading) ++ R2) ++ R4).length) (flat ((([] : List Bt.Reading) ++ R2) ++ R4)), .row pX 29 5 X.length (flat X), .row pY 29 5 Y.length (flat Y), .row pZ 29 5 Z.length (flat Z), .blk b1 41 [.string b.Name, v1, .int .i64 b.Cells, v3, v4, v5, v6, v7, v8, v9, .int .i64 b.Err]]) rfl (e_callS (T := fun r Ψ => ∃ R, RepSl Ψ R r ∧ Se.Rds b X u v R) (args := #[.agg #[.string b.Name, v1, .int .i64 b.Cells, v3, v4, v5, v6, v7, v8, v9, .int .i64 b.Err], pX, .int .i64 u, .int .i64 v]) own14 rfl rfl (fun w1 hw1 => (Readings_c w1 (Go.K.hp w1) (Hp.le_refl _) (hB.mono hw1.phi) (RowS.repE even29 (l := X) (show RowS (Go.K.hp w1) pX 29 5 (X.length) (flat X) from hw1.sat _ (List.mem_of_getElem? (i := 1) rfl)) rfl (by simp only [maxSl, Rep.bytes]; omega) hwfX) (by omega) (u := u) (v := v) (by assumption) (by assumption)).mono fun _ _ => retS_up (fun _ _ _ hl ⟨R, h1, h2⟩ => ⟨R, h1.mono hl, h2⟩))) ?_
      rintro ⟨⟨lv5, Φ5⟩, hlv5, hlΦ5⟩
      replace hlv5 : ∃ R, RepSl Φ5 R lv5 ∧ Se.Rds b X u v R := hlv5
      replace hlΦ5 : Hp.le Φ4 Φ5 := hlΦ5
      replace hB := hB.mono hlΦ5
      replace r6 := r6.mono hlΦ5
      replace h2 := h2.mono hlΦ5
      replace hlv1 := hlv1.mono hlΦ5
      replace hlv2 := hlv2.mono hlΦ5
      replace hlv4 := hlv4.mono hlΦ5
      obtain ⟨R5, hlv5, hR5⟩ := hlv5
      have hR5l := hR5.len
      refine RW.q (v := .bool true) rfl (q_as (v := .bool (decide (R1 = R5))) (q_call (args := #[lv1, lv5]) own15 rfl rfl (fun w1 hw1 => SameR_c w1 (Go.K.hp w1) (Hp.le_refl _) (hlv1.mono hw1.phi) (hlv5.mono hw1.phi))) (congrArg Value.bool (decide_eq_true (Se.rds_same hBk.same hR1 hR5)))) ?_
      refine RW.q (v := .bool true) rfl (q_move rfl) ?_
      refine RW.gl (v := lv1) rfl rfl rfl (q_move rfl) ?_
      refine RW.gl (v := va6) rfl rfl rfl (q_move rfl) ?_
      refine RW.gl (v := .bool true) rfl rfl rfl (q_as (v := .bool (decide (R1 = ((([] : List Bt.Reading) ++ R2) ++ R4)))) (q_call (args := #[lv1, va6]) own15 rfl rfl (fun w1 hw1 => SameR_c w1 (Go.K.hp w1) (Hp.le_refl _) (hlv1.mono hw1.phi) (RowS.repE even49 (l := (([] : List Bt.Reading) ++ R2) ++ R4) (show RowS (Go.K.hp w1) va6 49 4 (((([] : List Bt.Reading) ++ R2) ++ R4).length) (flat ((([] : List Bt.Reading) ++ R2) ++ R4)) from hw1.sat _ (List.mem_of_getElem? (i := 0) rfl)) rfl (by simp [maxSl, Rep.bytes]; omega) hwfP))) (congrArg Value.bool (decide_eq_true (Se.rds_parts hc1.1.2 hc1.2 hR1 hR2 hR4)))) ?_
      refine RW.q (v := .bool true) rfl (q_pick (t := true) rfl (fun _ => rfl) (fun hp => nomatch hp)) ?_
      refine RW.q (v := .bool true) rfl (q_move rfl) ?_
      refine RW.gl (v := lv1) rfl rfl rfl (q_move rfl) ?_
      refine RW.gl (v := .agg #[.string b.Name, v1, .int .i64 b.Cells, v3, v4, v5, v6, v7, v8, v9, .int .i64 b.Err]) rfl rfl rfl (q_loadAgg rfl Try.underlying41 rfl sz41 rfl (Cells.blk 4 rfl)) ?_
      refine RW.gl (v := pY) rfl rfl rfl (q_move rfl) ?_
      refine RW.gl (v := .int .i64 u) rfl rfl rfl (q_move rfl) ?_
      refine RW.gl (v := .int .i64 v) rfl rfl rfl (q_move rfl) ?_
      refine RW.effg (fun x : {y : Value × Hp // (fun r Ψ => ∃ R, RepSl Ψ R r ∧ Se.Rds b Y u v R) y.1 y.2 ∧ Hp.le Φ5 y.2} => x.1.1) (fun x => St ⟨w, Φ, []⟩ x.1.2 [.row va6 49 4 (((([] : List Bt.Reading) ++ R2) ++ R4).length) (flat ((([] : List Bt.Reading) ++ R2) ++ R4)), .row pX 29 5 X.length (flat X), .row pY 29 5 Y.length (flat Y), .row pZ 29 5 Z.length (flat Z), .blk b1 41 [.string b.Name, v1, .int .i64 b.Cells, v3, v4, v5, v6, v7, v8, v9, .int .i64 b.Err]]) rfl rfl rfl (e_callS (T := fun r Ψ => ∃ R, RepSl Ψ R r ∧ Se.Rds b Y u v R) (args := #[.agg #[.string b.Name, v1, .int .i64 b.Cells, v3, v4, v5, v6, v7, v8, v9, .int .i64 b.Err], pY, .int .i64 u, .int .i64 v]) own14 rfl rfl (fun w1 hw1 => (Readings_c w1 (Go.K.hp w1) (Hp.le_refl _) (hB.mono hw1.phi) (RowS.repE even29 (l := Y) (show RowS (Go.K.hp w1) pY 29 5 (Y.length) (flat Y) from hw1.sat _ (List.mem_of_getElem? (i := 2) rfl)) rfl (by simp only [maxSl, Rep.bytes]; omega) hwfY) (by omega) (u := u) (v := v) (by assumption) (by assumption)).mono fun _ _ => retS_up (fun _ _ _ hl ⟨R, h1, h2⟩ => ⟨R, h1.mono hl, h2⟩))) ?_
      rintro ⟨⟨lv6, Φ6⟩, hlv6, hlΦ6⟩
      replace hlv6 : ∃ R, RepSl Φ6 R lv6 ∧ Se.Rds b Y u v R := hlv6
      replace hlΦ6 : Hp.le Φ5 Φ6 := hlΦ6
      replace hB := hB.mono hlΦ6
      replace r6 := r6.mono hlΦ6
      replace h2 := h2.mono hlΦ6
      replace hlv1 := hlv1.mono hlΦ6
      replace hlv2 := hlv2.mono hlΦ6
      replace hlv4 := hlv4.mono hlΦ6
      replace hlv5 := hlv5.mono hlΦ6
      obtain ⟨R6, hlv6, hR6⟩ := hlv6
      have hR6l := hR6.len
      refine RW.gl (v := .bool true) rfl rfl rfl (q_as (v := .bool (decide (R1 = R6))) (q_call (args := #[lv1, lv6]) own15 rfl rfl (fun w1 hw1 => SameR_c w1 (Go.K.hp w1) (Hp.le_refl _) (hlv1.mono hw1.phi) (hlv6.mono hw1.phi))) (congrArg Value.bool (decide_eq_true (Se.rds_right hBk.right hR1 hR6)))) ?_
      refine RW.q (v := .bool true) rfl (q_pick (t := true) rfl (fun _ => rfl) (fun hp => nomatch hp)) ?_
      refine RW.q (v := .bool true) rfl (q_assign rfl) ?_
      refine RW.nil ?_
      refine Post.then_n ?_
      refine AW.seq ?_
      refine AW.region ?_
      refine RW.q (v := (.slice none 0 0)) rfl (q_assign rfl) ?_
      refine RW.nil ?_
      refine Post.then_n ?_
      refine AW.seq ?_
      refine AW.seq ?_
      refine AW.region ?_
      refine RW.q (v := .int .i64 0) rfl (q_assign rfl) ?_
      refine RW.nil ?_
      refine Post.then_n ?_
      refine AW.block ?_
      refine AW.loop (fun s J m => ∃ (k : Nat), ∃ (L : List Bt.Reading), ∃ (rv : Value), s = [(2, .int .i64 u), (4, .int .i64 v), (5, .int .i64 q), (6, .pointer (some (⟨b1, 0, none⟩))), (12, .bool false), (13, .bool true), (16, pZ), (18, lv1), (20, .bool true), (21, rv), (22, .int .i64 (k : Int))] ∧ J = St ⟨w, Φ, []⟩ Φ6 [.row rv 49 4 L.length (flat L), .row va6 49 4 (((([] : List Bt.Reading) ++ R2) ++ R4).length) (flat ((([] : List Bt.Reading) ++ R2) ++ R4)), .row pX 29 5 X.length (flat X), .row pY 29 5 Y.length (flat Y), .row pZ 29 5 Z.length (flat Z), .blk b1 41 [.string b.Name, v1, .int .i64 b.Cells, v3, v4, v5, v6, v7, v8, v9, .int .i64 b.Err]] ∧ m = R1.length - k ∧ (k ≤ R1.length) ∧ (IsSl rv L.length) ∧ (L = (R1.take k).filter fun r => decide (r.Gauge = q)) ∧ (L.length ≤ k)) (s0 := _) (J1 := _) (m0 := _) ⟨0, [], _, rfl, rfl, rfl, (by omega), isSl_nil, rfl, (by simp)⟩ ⟨rfl, rfl, rfl, rfl, rfl, rfl, rfl, rfl, rfl, rfl, rfl, trivial⟩ (fun _ h => addNil h) ?_
      rintro _ _ _ _ ⟨k, L, rv, rfl, rfl, rfl, hk, hrv, hL, hLl⟩
      refine AW.seq ?_
      refine AW.seq ?_
      refine AW.region ?_
      refine RW.q (v := .int .i64 (k : Int)) rfl (q_move rfl) ?_
      refine RW.q (v := lv1) rfl (q_move rfl) ?_
      refine RW.q (v := .int .i64 ((R1.length : Nat) : Int)) rfl (q_len_sl rfl hlv1.sl Try.underlying43) ?_
      refine RW.q (v := .bool (decide ((k : Int) < ((R1.length : Nat) : Int)))) rfl (q_lss rfl rfl) ?_
      refine RW.nil ?_
      refine Post.then_n ?_
      refine AW.cond (b := decide ((k : Int) < ((R1.length : Nat) : Int))) rfl (fun hc6 => ?_) (fun hc6 => ?_)
      · simp [-List.getD_eq_getElem?_getD] at hc6
        refine AW.skip ?_
        refine Post.then_n ?_
        refine AW.seq ?_
        refine AW.block ?_
        refine AW.seq ?_
        refine AW.region ?_
        refine RW.q (v := lv1) rfl (q_move rfl) ?_
        refine RW.q (v := .int .i64 (k : Int)) rfl (q_move rfl) ?_
        refine RW.q (v := .pointer (some (Value.at lv1 (k * 4)))) rfl (q_indexAddr rfl rfl hlv1.sl Try.underlying43 sz49 (by omega) (by omega) rfl) ?_
        refine RW.q (v := .pointer (some (Value.at lv1 (k * 4 + 0)))) rfl (q_fieldAddr rfl Try.underlying49 rfl sz3 at_add) ?_
        refine RW.q (v := .int .i64 ((R1.getD k default).Gauge)) rfl (q_load rfl Try.underlying3 rfl (Cell.repE (j := 0) hlv1 (by omega) rfl)) ?_
        refine RW.q (v := .int .i64 q) rfl (q_move rfl) ?_
        refine RW.q (v := .bool (decide ((R1.getD k default).Gauge = q))) rfl (q_eql rfl rfl) ?_
        refine RW.nil ?_
        refine Post.then_n ?_
        refine AW.cond (b := decide ((R1.getD k default).Gauge = q)) rfl (fun hc7 => ?_) (fun hc7 => ?_)
        · simp [-List.getD_eq_getElem?_getD] at hc7
          refine AW.region ?_
          refine RW.q (v := rv) rfl (q_move rfl) ?_
          refine RW.q (v := lv1) rfl (q_move rfl) ?_
          refine RW.q (v := .int .i64 (k : Int)) rfl (q_move rfl) ?_
          refine RW.q (v := .pointer (some (Value.at lv1 (k * 4)))) rfl (q_indexAddr rfl rfl hlv1.sl Try.underlying43 sz49 (by omega) (by omega) rfl) ?_
          refine RW.q (v := .agg #[.int .i64 ((R1.getD k default).Gauge), .int .i64 ((R1.getD k default).Hour), .int .i64 ((R1.getD k default).Value.Lo), .int .i64 ((R1.getD k default).Value.Hi)]) rfl (q_loadAgg rfl Try.underlying49 rfl sz49 rfl (Cells.repE hlv1 (by omega) rfl)) ?_
          refine RW.eff (fun b8 : Nat => (.slice (some ⟨b8, 0, none⟩) 1 1)) (fun b8 => St ⟨w, Φ, []⟩ Φ6 [.row (.slice (some ⟨b8, 0, none⟩) 1 1) 49 4 1 ([.int .i64 ((R1.getD k default).Gauge), .int .i64 ((R1.getD k default).Hour), .int .i64 ((R1.getD k default).Value.Lo), .int .i64 ((R1.getD k default).Value.Hi)]), .row rv 49 4 L.length (flat L), .row va6 49 4 (((([] : List Bt.Reading) ++ R2) ++ R4).length) (flat ((([] : List Bt.Reading) ++ R2) ++ R4)), .row pX 29 5 X.length (flat X), .row pY 29 5 Y.length (flat Y), .row pZ 29 5 Z.length (flat Z), .blk b1 41 [.string b.Name, v1, .int .i64 b.Cells, v3, v4, v5, v6, v7, v8, v9, .int .i64 b.Err]]) rfl (e_buildSlice (vals := [(0, .agg #[.int .i64 ((R1.getD k default).Gauge), .int .i64 ((R1.getD k default).Hour), .int .i64 ((R1.getD k default).Value.Lo), .int .i64 ((R1.getD k default).Value.Hi)])]) (cells := [.int .i64 ((R1.getD k default).Gauge), .int .i64 ((R1.getD k default).Hour), .int .i64 ((R1.getD k default).Value.Lo), .int .i64 ((R1.getD k default).Value.Hi)]) Try.underlying43 inf49 rfl rfl rfl (by kernel_rfl) rfl) ?_
          intro b8
          refine RW.eff (fun xv : {vq : Value // IsSl vq (L.length + 1)} => xv.1) (fun xv => St ⟨w, Φ, []⟩ Φ6 [.row (.slice (some ⟨b8, 0, none⟩) 1 1) 49 4 1 ([.int .i64 ((R1.getD k default).Gauge), .int .i64 ((R1.getD k default).Hour), .int .i64 ((R1.getD k default).Value.Lo), .int .i64 ((R1.getD k default).Value.Hi)]), .row xv.1 49 4 ((L ++ [(R1.getD k default)]).length) (flat (L ++ [(R1.getD k default)])), .row va6 49 4 (((([] : List Bt.Reading) ++ R2) ++ R4).length) (flat ((([] : List Bt.Reading) ++ R2) ++ R4)), .row pX 29 5 X.length (flat X), .row pY 29 5 Y.length (flat Y), .row pZ 29 5 Z.length (flat Z), .blk b1 41 [.string b.Name, v1, .int .i64 b.Cells, v3, v4, v5, v6, v7, v8, v9, .int .i64 b.Err]]) rfl (e_append 1 rfl rfl rfl Try.underlying43 inf49 rfl rfl rfl (Cells.row0 0 rfl) rfl (by omega) (by omega) (fun _ => by simp [flat] <;> rfl)) ?_
          rintro ⟨va7, hva7⟩
          refine RW.wk (J' := St ⟨w, Φ, []⟩ Φ6 [.row va7 49 4 ((L ++ [(R1.getD k default)]).length) (flat (L ++ [(R1.getD k default)])), .row va6 49 4 (((([] : List Bt.Reading) ++ R2) ++ R4).length) (flat ((([] : List Bt.Reading) ++ R2) ++ R4)), .row pX 29 5 X.length (flat X), .row pY 29 5 Y.length (flat Y), .row pZ 29 5 Z.length (flat Z), .blk b1 41 [.string b.Name, v1, .int .i64 b.Cells, v3, v4, v5, v6, v7, v8, v9, .int .i64 b.Err]]) (fun _ h => StP.drop h (by exact .cons _ (.cons_cons _ (.cons_cons _ (.cons_cons _ (.cons_cons _ (.cons_cons _ (.cons_cons _ (.slnil))))))))) ?_
          refine RW.q (v := va7) rfl (q_assign rfl) ?_
          refine RW.nil ?_
          refine Post.blk_n (Post.then_n ?_)
          refine AW.region ?_
          refine RW.q (v := .int .i64 (k : Int)) rfl (q_move rfl) ?_
          refine RW.q (v := .int .i64 ((k + 1 : Nat) : Int)) rfl (q_add rfl rfl (by omega) (by unfold I64; omega)) ?_
          refine RW.q (v := .int .i64 ((k + 1 : Nat) : Int)) rfl (q_assign rfl) ?_
          refine RW.nil ?_
          have hkl : k < R1.length := by omega
          have hne9 : (R1.getD k default).Gauge = q := by simpa [-List.getD_eq_getElem?_getD] using hc7
          exact Post.back (s' := _) (J' := _) (m' := _) (by omega) ⟨k + 1, L ++ [(R1.getD k default)], va7, rfl, rfl, rfl, (by omega), (by simpa using hva7), (by rw [Se.take_snoc hkl, List.filter_append, ← hL]; simp [-List.getD_eq_getElem?_getD, hne9]), (by simp; omega)⟩ ⟨rfl, rfl, rfl, rfl, rfl, rfl, rfl, rfl, rfl, rfl, rfl, trivial⟩ (fun _ h => h)
        · simp [-List.getD_eq_getElem?_getD] at hc7
          refine AW.skip ?_
          refine Post.blk_n (Post.then_n ?_)
          refine AW.region ?_
          refine RW.q (v := .int .i64 (k : Int)) rfl (q_move rfl) ?_
          refine RW.q (v := .int .i64 ((k + 1 : Nat) : Int)) rfl (q_add rfl rfl (by omega) (by unfold I64; omega)) ?_
          refine RW.q (v := .int .i64 ((k + 1 : Nat) : Int)) rfl (q_assign rfl) ?_
          refine RW.nil ?_
          have hkl : k < R1.length := by omega
          have hne9 : (R1.getD k default).Gauge ≠ q := by simpa [-List.getD_eq_getElem?_getD] using hc7
          exact Post.back (s' := _) (J' := _) (m' := _) (by omega) ⟨k + 1, L, rv, rfl, rfl, rfl, (by omega), hrv, (by rw [Se.take_snoc hkl, List.filter_append, ← hL]; simp [-List.getD_eq_getElem?_getD, hne9]), (by omega)⟩ ⟨rfl, rfl, rfl, rfl, rfl, rfl, rfl, rfl, rfl, rfl, rfl, trivial⟩ (fun _ h => h)
      · simp [-List.getD_eq_getElem?_getD] at hc6
        refine AW.exit ?_
        refine Post.then_x (Post.then_x (Post.blk_hit (Post.then_n ?_)))
        refine AW.seq ?_
        have hwfL : ∀ x ∈ L, RepE.wf x := fun x hx => hlv1.wfE x (by rw [hL] at hx; exact List.mem_of_mem_take (List.mem_filter.1 hx).1)
        refine AW.region ?_
        refine RW.q (v := .bool true) rfl (q_move rfl) ?_
        refine RW.q (v := .bool true) rfl (q_move rfl) ?_
        refine RW.gl (v := .bool true) rfl rfl rfl (q_move rfl) ?_
        refine RW.q (v := .bool true) rfl (q_pick (t := true) rfl (fun _ => rfl) (fun hp => nomatch hp)) ?_
        refine RW.q (v := .bool true) rfl (q_move rfl) ?_
        refine RW.gl (v := rv) rfl rfl rfl (q_move rfl) ?_
        refine RW.gl (v := .agg #[.string b.Name, v1, .int .i64 b.Cells, v3, v4, v5, v6, v7, v8, v9, .int .i64 b.Err]) rfl rfl rfl (q_loadAgg rfl Try.underlying41 rfl sz41 rfl (Cells.blk 5 rfl)) ?_
        refine RW.gl (v := pZ) rfl rfl rfl (q_move rfl) ?_
        refine RW.gl (v := .int .i64 u) rfl rfl rfl (q_move rfl) ?_
        refine RW.gl (v := .int .i64 v) rfl rfl rfl (q_move rfl) ?_
        refine RW.effg (fun x : {y : Value × Hp // (fun r Ψ => ∃ R, RepSl Ψ R r ∧ Se.Rds b Z u v R) y.1 y.2 ∧ Hp.le Φ6 y.2} => x.1.1) (fun x => St ⟨w, Φ, []⟩ x.1.2 [.row rv 49 4 L.length (flat L), .row va6 49 4 (((([] : List Bt.Reading) ++ R2) ++ R4).length) (flat ((([] : List Bt.Reading) ++ R2) ++ R4)), .row pX 29 5 X.length (flat X), .row pY 29 5 Y.length (flat Y), .row pZ 29 5 Z.length (flat Z), .blk b1 41 [.string b.Name, v1, .int .i64 b.Cells, v3, v4, v5, v6, v7, v8, v9, .int .i64 b.Err]]) rfl rfl rfl (e_callS (T := fun r Ψ => ∃ R, RepSl Ψ R r ∧ Se.Rds b Z u v R) (args := #[.agg #[.string b.Name, v1, .int .i64 b.Cells, v3, v4, v5, v6, v7, v8, v9, .int .i64 b.Err], pZ, .int .i64 u, .int .i64 v]) own14 rfl rfl (fun w1 hw1 => (Readings_c w1 (Go.K.hp w1) (Hp.le_refl _) (hB.mono hw1.phi) (RowS.repE even29 (l := Z) (show RowS (Go.K.hp w1) pZ 29 5 (Z.length) (flat Z) from hw1.sat _ (List.mem_of_getElem? (i := 4) rfl)) rfl (by simp only [maxSl, Rep.bytes]; omega) hwfZ) (by omega) (u := u) (v := v) (by assumption) (by assumption)).mono fun _ _ => retS_up (fun _ _ _ hl ⟨R, h1, h2⟩ => ⟨R, h1.mono hl, h2⟩))) ?_
        rintro ⟨⟨lv7, Φ7⟩, hlv7, hlΦ7⟩
        replace hlv7 : ∃ R, RepSl Φ7 R lv7 ∧ Se.Rds b Z u v R := hlv7
        replace hlΦ7 : Hp.le Φ6 Φ7 := hlΦ7
        replace hB := hB.mono hlΦ7
        replace r6 := r6.mono hlΦ7
        replace h2 := h2.mono hlΦ7
        replace hlv1 := hlv1.mono hlΦ7
        replace hlv2 := hlv2.mono hlΦ7
        replace hlv4 := hlv4.mono hlΦ7
        replace hlv5 := hlv5.mono hlΦ7
        replace hlv6 := hlv6.mono hlΦ7
        obtain ⟨R7, hlv7, hR7⟩ := hlv7
        have hR7l := hR7.len
        refine RW.gl (v := .bool true) rfl rfl rfl (q_as (v := .bool (decide (L = R7))) (q_call (args := #[rv, lv7]) own15 rfl rfl (fun w1 hw1 => SameR_c w1 (Go.K.hp w1) (Hp.le_refl _) (RowS.repE even49 (l := L) (show RowS (Go.K.hp w1) rv 49 4 (L.length) (flat L) from hw1.sat _ (List.mem_of_getElem? (i := 0) rfl)) rfl (by simp only [maxSl, Rep.bytes]; omega) hwfL) (hlv7.mono hw1.phi))) (congrArg Value.bool (decide_eq_true (by rw [hL, List.take_of_length_le (by omega)]; exact Se.rds_own hBk.own hR1 hR7)))) ?_
        refine RW.q (v := .bool true) rfl (q_pick (t := true) rfl (fun _ => rfl) (fun hp => nomatch hp)) ?_
        refine RW.q (v := .bool true) rfl (q_assign rfl) ?_
        refine RW.nil ?_
        refine Post.then_n ?_
        refine AW.ret ?_
        exact fin_val (v' := .bool true) rfl rfl rfl (rfl)

end Go.Proofs.Ytlljbndnodbecaa
