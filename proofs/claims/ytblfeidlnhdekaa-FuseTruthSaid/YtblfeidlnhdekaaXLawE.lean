/- Walks (part LawE), printed by walk2.py. Conditions: those of each theorem. -/
import Derived.Test.YtblfeidlnhdekaaXKeyFl
import Derived.Test.YtblfeidlnhdekaaXWalkN
import Derived.Test.YtblfeidlnhdekaaXCore7
namespace Go.Proofs.Ytblfeidlnhdekaa
open Go Go.K Go.RowKit
set_option maxRecDepth 8000
set_option maxHeartbeats 1000000
attribute [local irreducible] AW RW DW Post Qt
set_option maxRecDepth 8000 in
set_option maxHeartbeats 4000000 in
theorem FuseTruth_c (w : World) (Φ : Hp) (hΦ : Hp.le Φ (hp w)) {b : Bt.Basin} {cs : List Value} (hB : RepV Φ b cs) {z : Bt.State} {zcs : List Value} (tH : RepV Φ z zcs) {yy : Bt.Hull} {yycs : List Value} (yyH : RepV Φ yy yycs) {l : List Bt.Look} {lv : Value} (hl : RepSl Φ l lv) :
  Calls Try.prog 7 #[.agg cs.toArray, .agg zcs.toArray, .agg yycs.toArray, lv] w fun e w' => e = .returned (.bool true) ∧ Bel w.heap.size w w' := by
 obtain ⟨v1, v3, v4, v5, v6, v7, v8, v9, hcs, hBw, r1, r3, r4, r5, r6, r7, r8, r9⟩ := (show Rep.rep Φ b cs from hB)
 subst hcs
 have hpm : b.Places.length * 152 ≤ 140737488355328 := r3.max
 obtain ⟨tv1, tv2, tv3, tv4, tv5, tv6, hzcs, hzw, tr1, tr2, tr3, tr4, tr5, tr6⟩ := (show Rep.rep Φ z zcs from tH)
 subst hzcs
 have ztm : z.Own.length * 24 ≤ 140737488355328 := tr1.max
 have zqm : z.Queue.length * 40 ≤ 140737488355328 := tr3.max
 have zgm : z.Gates.length * 24 ≤ 140737488355328 := tr4.max
 obtain ⟨yyv1, yyv2, yyv3, yyhcs, yyhw, yyr1, yyr2, yyr3⟩ := (show Rep.rep Φ yy yycs from yyH)
 subst yyhcs
 have yym1 : yy.Vol.length * 16 ≤ 140737488355328 := yyr1.max
 have yym2 : yy.Queue.length * 32 ≤ 140737488355328 := yyr2.max
 have yym3 : yy.Links.length * 40 ≤ 140737488355328 := yyr3.max
 refine calls_of_AW (args := [.agg (cl31 b v1 v3 v4 v5 v6 v7 v8 v9).toArray, .agg (cl70 z tv1 tv2 tv3 tv4 tv5 tv6).toArray, .agg #[iV yy.Hour, yyv1, yyv2, yyv3], lv]) Try.func7 rfl (Nat.le_of_ble_eq_true rfl) (St ⟨w, Φ, []⟩ Φ []) (StP.init w Φ hΦ []) ?_
 show AW Try.prog 236 [] _ _ _ [(0, .agg (cl31 b v1 v3 v4 v5 v6 v7 v8 v9).toArray), (1, .agg (cl70 z tv1 tv2 tv3 tv4 tv5 tv6).toArray), (2, .agg #[iV yy.Hour, yyv1, yyv2, yyv3]), (3, lv)] _
 have hnl : b.Name.data.toList.length ≤ 9223372036854775807 := hBw.1
 have hom : b.Owners.length * 16 ≤ 140737488355328 := r1.max
 have hlm : b.Links.length * 200 ≤ 140737488355328 := r4.max
 have htm : b.Towns.length * 64 ≤ 140737488355328 := r5.max
 have hgm_ : b.Gauges.length * 48 ≤ 140737488355328 := r6.max
 have hrm : b.Roads.length * 64 ≤ 140737488355328 := r7.max
 have hsm : b.Shelters.length * 24 ≤ 140737488355328 := r8.max
 have hom2 : b.Room.length * 8 ≤ 140737488355328 := r9.max
 have hlm : l.length * 24 ≤ 140737488355328 := hl.max
 refine g2 ?_
 refine RW.bxA rfl rfl fun b1 => ?_
 refine RW.bxA rfl rfl fun b2 => ?_
 refine RW.bxA rfl rfl fun b3 => ?_
 refine g5 ?_
 refine RW.q (v := .bool true) rfl (q_call (args := #[]) own8 rfl rfl (fun w1 hw1 => small_c w1 (Go.K.hp w1) (Hp.le_refl _))) (RW.q (v := .bool true) rfl (q_assign rfl) (RW.nil (Post.then_n (AW.seq (AW.seq (AW.region (RW.q (v := lv) rfl (q_move rfl) (RW.q (v := iV (l.length : Int)) rfl (q_len_sl rfl hl.sl uT71) (RW.q (v := .bool (decide ((40 : Int) < (l.length : Int)))) rfl (q_gtr rfl rfl) ?_)))))))))
 refine RW.q (v := .bool (decide ((40 : Int) < (l.length : Int)))) rfl (q_move rfl) (RW.g (b := (decide ((40 : Int) < (l.length : Int)))) (v := .agg (cl31 b v1 v3 v4 v5 v6 v7 v8 v9).toArray) rfl rfl rfl (fun h => q_loadAgg rfl uT31 rfl sz31 rfl (Cells.blk 2 rfl)) (RW.g (b := (decide ((40 : Int) < (l.length : Int)))) (v := .agg (cl70 z tv1 tv2 tv3 tv4 tv5 tv6).toArray) rfl rfl rfl (fun h => q_loadAgg rfl uT70 rfl sz70 rfl (Cells.blk 1 rfl)) (RW.g (b := (decide ((40 : Int) < (l.length : Int)))) (v := .agg #[iV yy.Hour, yyv1, yyv2, yyv3]) rfl rfl rfl (fun h => q_loadAgg rfl uT36 rfl sz36 rfl (Cells.blk 0 rfl)) (RW.g (b := (decide ((40 : Int) < (l.length : Int)))) (v := .bool (lightB b z yy)) rfl rfl rfl (fun h => q_call (args := #[.agg (cl31 b v1 v3 v4 v5 v6 v7 v8 v9).toArray, .agg (cl70 z tv1 tv2 tv3 tv4 tv5 tv6).toArray, .agg #[iV yy.Hour, yyv1, yyv2, yyv3]]) own23 rfl (args3 (gv_pos h) (gv_pos h) (gv_pos h)) (fun w1 hw1 => light_c w1 (Go.K.hp w1) (Hp.le_refl _) (hB.mono hw1.phi) (tH.mono hw1.phi) (yyH.mono hw1.phi))) ?_))))
 refine g1 ?_
 obtain ⟨qb1, hqb1⟩ : ∃ qz : Bool, ((decide ((40 : Int) < (l.length : Int))) || (!(lightB b z yy))) = qz := ⟨_, rfl⟩
 refine RW.q (v := .bool qb1) rfl (q_as (v := .bool ((decide ((40 : Int) < (l.length : Int))) || (!(lightB b z yy)))) (q_pick rfl (fun hp => pkOrT hp) (fun hp => (gv_pos hp).trans (pkOrF hp))) (congrArg Value.bool hqb1)) ?_
 subst hqb1
 refine g2 ?_
 refine AW.cond rfl (fun hc1 => ?_) fun hc1 => ?_
 ·
  simp [-List.getD_eq_getElem?_getD, -Array.length_toList] at hc1
  refine g8 ?_
  exact fin_val (v' := .bool true) rfl rfl rfl (rfl)
 ·
  simp [-List.getD_eq_getElem?_getD, -Array.length_toList] at hc1
  refine g3 ?_
  have hL := light_f hc1.2
  have hl40 := hc1.1
  have hfew := hL.few
  have hzH : I64 z.Hour := hzw
  obtain ⟨hf1, hf2, hf3, hf4, hf5, hf6⟩ := hfew
  refine g16 ?_
  refine AW.loop (fun s J m => ∃ (k : Nat), ∃ (M : List Bt.Reading), ∃ (N : List Bt.Reading), ∃ (rv : Value), ∃ (bv : Value), s = [(3, lv), (4, pV b1 0), (5, pV b2 0), (6, pV b3 0), (9, .bool true), (10, rv), (11, bv), (12, iV (k : Int))] ∧ J = St ⟨w, Φ, []⟩ Φ [.row bv 46 4 N.length (flat N), .row rv 46 4 M.length (flat M), .blk b3 36 [iV yy.Hour, yyv1, yyv2, yyv3], .blk b2 70 (cl70 z tv1 tv2 tv3 tv4 tv5 tv6), .blk b1 31 (cl31 b v1 v3 v4 v5 v6 v7 v8 v9)] ∧ m = l.length - k ∧ (k ≤ l.length) ∧ (M = rdTo b z l k) ∧ (N = M.reverse) ∧ (IsSl rv M.length) ∧ (IsSl bv N.length) ∧ (M.length ≤ k)) (s0 := _) (J1 := _) (m0 := _) ⟨0, [], [], _, _, rfl, rfl, rfl, (by omega), rfl, rfl, isSl_nil, isSl_nil, (by simp)⟩ ⟨rfl, rfl, rfl, rfl, rfl, rfl, rfl, rfl, trivial⟩ (fun _ h => addNil (addNil h)) ?_
  rintro _ _ _ _ ⟨k, M, N, rv, bv, rfl, rfl, rfl, hk, hM, hN, hrv, hbv, hMl⟩
  refine g9 ?_
  refine AW.cond rfl (fun hc2 => ?_) fun hc2 => ?_
  ·
   simp [-List.getD_eq_getElem?_getD, -Array.length_toList] at hc2
   refine g7 ?_
   refine RW.q (v := iV (k : Int)) rfl (q_move rfl) (RW.q (v := .pointer (some (Value.at lv (k * 3)))) rfl (q_indexAddr rfl rfl hl.sl uT71 sz74 (by omega) (by omega) rfl) (RW.q (v := .agg #[iV ((l.getD k default).Gauge), iV ((l.getD k default).Less), iV ((l.getD k default).More)]) rfl (q_loadAgg rfl uT74 rfl sz74 rfl (Cells.repE hl (by omega) rfl)) (RW.eff (fun b4 : Nat => pV b4 0) (fun b4 => St ⟨w, Φ, []⟩ Φ [.blk b4 74 [iV 0, iV 0, iV 0], .row bv 46 4 N.length (flat N), .row rv 46 4 M.length (flat M), .blk b3 36 [iV yy.Hour, yyv1, yyv2, yyv3], .blk b2 70 (cl70 z tv1 tv2 tv3 tv4 tv5 tv6), .blk b1 31 (cl31 b v1 v3 v4 v5 v6 v7 v8 v9)]) rfl (e_alloc zero74) ?_)))
   intro b4
   refine RW.effn (J' := St ⟨w, Φ, []⟩ Φ [.blk b4 74 [iV ((l.getD k default).Gauge), iV ((l.getD k default).Less), iV ((l.getD k default).More)], .row bv 46 4 N.length (flat N), .row rv 46 4 M.length (flat M), .blk b3 36 [iV yy.Hour, yyv1, yyv2, yyv3], .blk b2 70 (cl70 z tv1 tv2 tv3 tv4 tv5 tv6), .blk b1 31 (cl31 b v1 v3 v4 v5 v6 v7 v8 v9)]) (e_store (v := .agg #[iV ((l.getD k default).Gauge), iV ((l.getD k default).Less), iV ((l.getD k default).More)]) 0 rfl rfl rfl sz74 rfl rfl rfl rfl rfl) (RW.nil (Post.then_n (AW.seq (AW.seq (AW.region (RW.q (v := pV b4 0) rfl (q_fieldAddr rfl uT74 rfl sz3 rfl) (RW.q (v := iV ((l.getD k default).Gauge)) rfl (q_load rfl uT3 rfl (Cell.blk 0 rfl rfl)) (RW.q (v := .bool (decide ((l.getD k default).Gauge < 0))) rfl (q_lss rfl rfl) (RW.q (v := .bool (decide ((l.getD k default).Gauge < 0))) rfl (q_move rfl) ?_)))))))))
   refine RW.g (b := (decide ((l.getD k default).Gauge < 0))) (v := pV b4 0) rfl rfl rfl (fun h => q_fieldAddr rfl uT74 rfl sz3 rfl) (RW.g (b := (decide ((l.getD k default).Gauge < 0))) (v := iV ((l.getD k default).Gauge)) rfl rfl rfl (fun h => q_load (gv_pos h) uT3 rfl (Cell.blk 0 rfl rfl)) (RW.g (b := (decide ((l.getD k default).Gauge < 0))) (v := pV b1 6) rfl rfl rfl (fun h => q_fieldAddr rfl uT31 rfl sz26 rfl) (RW.g (b := (decide ((l.getD k default).Gauge < 0))) (v := v6) rfl rfl rfl (fun h => q_load (gv_pos h) uT26 rfl (Cell.blk 5 rfl rfl)) (RW.g (b := (decide ((l.getD k default).Gauge < 0))) (v := iV (b.Gauges.length : Int)) rfl rfl rfl (fun h => q_len_sl (gv_pos h) r6.sl uT26) (RW.g (b := (decide ((l.getD k default).Gauge < 0))) (v := .bool (decide ((b.Gauges.length : Int) ≤ (l.getD k default).Gauge))) rfl rfl rfl (fun h => q_geq (gv_pos h) (gv_pos h)) ?_)))))
   obtain ⟨qb2, hqb2⟩ : ∃ qz : Bool, ((decide ((l.getD k default).Gauge < 0)) || (decide ((b.Gauges.length : Int) ≤ (l.getD k default).Gauge))) = qz := ⟨_, rfl⟩
   refine RW.q (v := .bool qb2) rfl (q_as (v := .bool ((decide ((l.getD k default).Gauge < 0)) || (decide ((b.Gauges.length : Int) ≤ (l.getD k default).Gauge)))) (q_pick rfl (fun hp => pkOrT hp) (fun hp => (gv_pos hp).trans (pkOrF hp))) (congrArg Value.bool hqb2)) ?_
   refine g4 ?_
   obtain ⟨qb3, hqb3⟩ : ∃ qz : Bool, (qb2 || (decide ((l.getD k default).Less < 0))) = qz := ⟨_, rfl⟩
   refine RW.q (v := .bool qb3) rfl (q_as (v := .bool (qb2 || (decide ((l.getD k default).Less < 0)))) (q_pick rfl (fun hp => pkOrT hp) (fun hp => (gv_pos hp).trans (pkOrF hp))) (congrArg Value.bool hqb3)) ?_
   refine g4 ?_
   obtain ⟨qb4, hqb4⟩ : ∃ qz : Bool, (qb3 || (decide ((1099511627776 : Int) < (l.getD k default).Less))) = qz := ⟨_, rfl⟩
   refine RW.q (v := .bool qb4) rfl (q_as (v := .bool (qb3 || (decide ((1099511627776 : Int) < (l.getD k default).Less)))) (q_pick rfl (fun hp => pkOrT hp) (fun hp => (gv_pos hp).trans (pkOrF hp))) (congrArg Value.bool hqb4)) ?_
   refine g4 ?_
   obtain ⟨qb5, hqb5⟩ : ∃ qz : Bool, (qb4 || (decide ((l.getD k default).More < 0))) = qz := ⟨_, rfl⟩
   refine RW.q (v := .bool qb5) rfl (q_as (v := .bool (qb4 || (decide ((l.getD k default).More < 0)))) (q_pick rfl (fun hp => pkOrT hp) (fun hp => (gv_pos hp).trans (pkOrF hp))) (congrArg Value.bool hqb5)) ?_
   refine g4 ?_
   obtain ⟨qb6, hqb6⟩ : ∃ qz : Bool, (qb5 || (decide ((1099511627776 : Int) < (l.getD k default).More))) = qz := ⟨_, rfl⟩
   refine RW.q (v := .bool qb6) rfl (q_as (v := .bool (qb5 || (decide ((1099511627776 : Int) < (l.getD k default).More)))) (q_pick rfl (fun hp => pkOrT hp) (fun hp => (gv_pos hp).trans (pkOrF hp))) (congrArg Value.bool hqb6)) ?_
   subst hqb6 hqb5 hqb4 hqb3 hqb2
   refine g2 ?_
   refine AW.cond rfl (fun hc3 => ?_) fun hc3 => ?_
   ·
    simp [-List.getD_eq_getElem?_getD, -Array.length_toList] at hc3
    refine g9 ?_
    exact Post.back (s' := _) (J' := _) (m' := _) (by omega) ⟨k + 1, M, N, rv, bv, rfl, rfl, rfl, (by omega), (by show _ = rdTo b z l k ++ rdOf b z (l.getD k default); rw [rd_no (fun h9 => by unfold lkOk at h9; omega), List.append_nil]; exact hM), hN, hrv, hbv, (by omega)⟩ ⟨rfl, rfl, rfl, rfl, rfl, rfl, rfl, rfl, trivial⟩ (fun _ h => StP.drop h (by exact .cons _ (.cons_cons _ (.cons_cons _ (.cons_cons _ (.cons_cons _ (.cons_cons _ (.slnil))))))))
   ·
    simp [-List.getD_eq_getElem?_getD, -Array.length_toList] at hc3
    refine g3 ?_
    have hlk : lkOk b (l.getD k default) := by unfold lkOk; omega
    have htq : 0 ≤ (l.getD k default).Gauge ∧ (l.getD k default).Gauge < (b.Gauges.length : Int) := hlk.1
    have htu : 0 ≤ (l.getD k default).Less ∧ (l.getD k default).Less ≤ 1099511627776 := hlk.2.1
    have htv : 0 ≤ (l.getD k default).More ∧ (l.getD k default).More ≤ 1099511627776 := hlk.2.2
    have ht0 : (b.Gauges.getD (l.getD k default).Gauge.toNat default).Kind = 0 → 0 ≤ (b.Gauges.getD (l.getD k default).Gauge.toNat default).Target ∧ (b.Gauges.getD (l.getD k default).Gauge.toNat default).Target < (b.Places.length : Int) ∧ (b.Gauges.getD (l.getD k default).Gauge.toNat default).Target < (z.Own.length : Int) := fun h9 => by have h8 := hL.g0 (l.getD k default).Gauge.toNat (by omega) h9; have h7 := hL.ol; omega
    have ht2 : (b.Gauges.getD (l.getD k default).Gauge.toNat default).Kind = 2 → 0 ≤ (b.Gauges.getD (l.getD k default).Gauge.toNat default).Target ∧ (b.Gauges.getD (l.getD k default).Gauge.toNat default).Target < (z.Gates.length : Int) ∧ 0 ≤ (z.Gates.getD (b.Gauges.getD (l.getD k default).Gauge.toNat default).Target.toNat default).Pos ∧ (z.Gates.getD (b.Gauges.getD (l.getD k default).Gauge.toNat default).Target.toNat default).Pos ≤ 1099511627776 := fun h9 => by have h8 := hL.g2 (l.getD k default).Gauge.toNat (by omega) h9; have h7 := hL.gl; have h6 := hL.pos (b.Gauges.getD (l.getD k default).Gauge.toNat default).Target.toNat (by omega); unfold posZ at h6; omega
    refine AW.region (RW.q (v := .agg (cl31 b v1 v3 v4 v5 v6 v7 v8 v9).toArray) rfl (q_loadAgg rfl uT31 rfl sz31 rfl (Cells.blk 5 rfl)) (RW.q (v := .agg (cl70 z tv1 tv2 tv3 tv4 tv5 tv6).toArray) rfl (q_loadAgg rfl uT70 rfl sz70 rfl (Cells.blk 4 rfl)) (RW.q (v := pV b4 0) rfl (q_fieldAddr rfl uT74 rfl sz3 rfl) (RW.q (v := iV ((l.getD k default).Gauge)) rfl (q_load rfl uT3 rfl (Cell.blk 0 rfl rfl)) (RW.q (v := pV b4 1) rfl (q_fieldAddr rfl uT74 rfl sz3 rfl) (RW.q (v := iV ((l.getD k default).Less)) rfl (q_load rfl uT3 rfl (Cell.blk 0 rfl rfl)) (RW.q (v := pV b4 2) rfl (q_fieldAddr rfl uT74 rfl sz3 rfl) (RW.q (v := iV ((l.getD k default).More)) rfl (q_load rfl uT3 rfl (Cell.blk 0 rfl rfl)) (RW.q (v := .tuple #[.agg #[iV ((truR b z ((l.getD k default).Gauge) ((l.getD k default).Less) ((l.getD k default).More)).Gauge), iV ((truR b z ((l.getD k default).Gauge) ((l.getD k default).Less) ((l.getD k default).More)).Hour), iV ((truR b z ((l.getD k default).Gauge) ((l.getD k default).Less) ((l.getD k default).More)).Value.Lo), iV ((truR b z ((l.getD k default).Gauge) ((l.getD k default).Less) ((l.getD k default).More)).Value.Hi)], .bool (trK b ((l.getD k default).Gauge))]) rfl (q_call (args := #[.agg (cl31 b v1 v3 v4 v5 v6 v7 v8 v9).toArray, .agg (cl70 z tv1 tv2 tv3 tv4 tv5 tv6).toArray, iV ((l.getD k default).Gauge), iV ((l.getD k default).Less), iV ((l.getD k default).More)]) own24 rfl rfl (fun w1 hw1 => truth_c w1 (Go.K.hp w1) (Hp.le_refl _) (hB.mono hw1.phi) (tH.mono hw1.phi) (q := (l.getD k default).Gauge) (u := (l.getD k default).Less) (v := (l.getD k default).More) (by assumption) (by assumption) (by assumption) (by assumption) (by assumption))) ?_)))))))))
    refine RW.q (v := .tuple #[.agg #[iV ((truR b z ((l.getD k default).Gauge) ((l.getD k default).Less) ((l.getD k default).More)).Gauge), iV ((truR b z ((l.getD k default).Gauge) ((l.getD k default).Less) ((l.getD k default).More)).Hour), iV ((truR b z ((l.getD k default).Gauge) ((l.getD k default).Less) ((l.getD k default).More)).Value.Lo), iV ((truR b z ((l.getD k default).Gauge) ((l.getD k default).Less) ((l.getD k default).More)).Value.Hi)], .bool (trK b ((l.getD k default).Gauge))]) rfl (q_move rfl) ?_
    refine g2 ?_
    refine RW.alc rfl fun b5 => ?_
    refine RW.effn (J' := St ⟨w, Φ, []⟩ Φ [.blk b5 46 [iV ((truR b z ((l.getD k default).Gauge) ((l.getD k default).Less) ((l.getD k default).More)).Gauge), iV ((truR b z ((l.getD k default).Gauge) ((l.getD k default).Less) ((l.getD k default).More)).Hour), iV ((truR b z ((l.getD k default).Gauge) ((l.getD k default).Less) ((l.getD k default).More)).Value.Lo), iV ((truR b z ((l.getD k default).Gauge) ((l.getD k default).Less) ((l.getD k default).More)).Value.Hi)], .blk b4 74 [iV ((l.getD k default).Gauge), iV ((l.getD k default).Less), iV ((l.getD k default).More)], .row bv 46 4 N.length (flat N), .row rv 46 4 M.length (flat M), .blk b3 36 [iV yy.Hour, yyv1, yyv2, yyv3], .blk b2 70 (cl70 z tv1 tv2 tv3 tv4 tv5 tv6), .blk b1 31 (cl31 b v1 v3 v4 v5 v6 v7 v8 v9)]) (e_store (v := .agg #[iV ((truR b z ((l.getD k default).Gauge) ((l.getD k default).Less) ((l.getD k default).More)).Gauge), iV ((truR b z ((l.getD k default).Gauge) ((l.getD k default).Less) ((l.getD k default).More)).Hour), iV ((truR b z ((l.getD k default).Gauge) ((l.getD k default).Less) ((l.getD k default).More)).Value.Lo), iV ((truR b z ((l.getD k default).Gauge) ((l.getD k default).Less) ((l.getD k default).More)).Value.Hi)]) 0 rfl rfl rfl sz46 rfl rfl rfl rfl rfl) ?_
    refine g8 ?_
    refine AW.cond rfl (fun hc4 => ?_) fun hc4 => ?_
    ·
     refine g4 ?_
     refine RW.eff (fun b6 : Nat => (.slice (some ⟨b6, 0, none⟩) 1 1)) (fun b6 => St ⟨w, Φ, []⟩ Φ [.row (.slice (some ⟨b6, 0, none⟩) 1 1) 46 4 1 ([iV ((truR b z ((l.getD k default).Gauge) ((l.getD k default).Less) ((l.getD k default).More)).Gauge), iV ((truR b z ((l.getD k default).Gauge) ((l.getD k default).Less) ((l.getD k default).More)).Hour), iV ((truR b z ((l.getD k default).Gauge) ((l.getD k default).Less) ((l.getD k default).More)).Value.Lo), iV ((truR b z ((l.getD k default).Gauge) ((l.getD k default).Less) ((l.getD k default).More)).Value.Hi)]), .blk b5 46 [iV ((truR b z ((l.getD k default).Gauge) ((l.getD k default).Less) ((l.getD k default).More)).Gauge), iV ((truR b z ((l.getD k default).Gauge) ((l.getD k default).Less) ((l.getD k default).More)).Hour), iV ((truR b z ((l.getD k default).Gauge) ((l.getD k default).Less) ((l.getD k default).More)).Value.Lo), iV ((truR b z ((l.getD k default).Gauge) ((l.getD k default).Less) ((l.getD k default).More)).Value.Hi)], .blk b4 74 [iV ((l.getD k default).Gauge), iV ((l.getD k default).Less), iV ((l.getD k default).More)], .row bv 46 4 N.length (flat N), .row rv 46 4 M.length (flat M), .blk b3 36 [iV yy.Hour, yyv1, yyv2, yyv3], .blk b2 70 (cl70 z tv1 tv2 tv3 tv4 tv5 tv6), .blk b1 31 (cl31 b v1 v3 v4 v5 v6 v7 v8 v9)]) rfl (e_buildSlice (vals := [(0, .agg #[iV ((truR b z ((l.getD k default).Gauge) ((l.getD k default).Less) ((l.getD k default).More)).Gauge), iV ((truR b z ((l.getD k default).Gauge) ((l.getD k default).Less) ((l.getD k default).More)).Hour), iV ((truR b z ((l.getD k default).Gauge) ((l.getD k default).Less) ((l.getD k default).More)).Value.Lo), iV ((truR b z ((l.getD k default).Gauge) ((l.getD k default).Less) ((l.getD k default).More)).Value.Hi)])]) (cells := [iV ((truR b z ((l.getD k default).Gauge) ((l.getD k default).Less) ((l.getD k default).More)).Gauge), iV ((truR b z ((l.getD k default).Gauge) ((l.getD k default).Less) ((l.getD k default).More)).Hour), iV ((truR b z ((l.getD k default).Gauge) ((l.getD k default).Less) ((l.getD k default).More)).Value.Lo), iV ((truR b z ((l.getD k default).Gauge) ((l.getD k default).Less) ((l.getD k default).More)).Value.Hi)]) uT37 inf46 rfl rfl rfl (by kernel_rfl) rfl) ?_
     intro b6
     refine RW.eff (fun xv : {vq : Value // IsSl vq (M.length + 1)} => xv.1) (fun xv => St ⟨w, Φ, []⟩ Φ [.row (.slice (some ⟨b6, 0, none⟩) 1 1) 46 4 1 ([iV ((truR b z ((l.getD k default).Gauge) ((l.getD k default).Less) ((l.getD k default).More)).Gauge), iV ((truR b z ((l.getD k default).Gauge) ((l.getD k default).Less) ((l.getD k default).More)).Hour), iV ((truR b z ((l.getD k default).Gauge) ((l.getD k default).Less) ((l.getD k default).More)).Value.Lo), iV ((truR b z ((l.getD k default).Gauge) ((l.getD k default).Less) ((l.getD k default).More)).Value.Hi)]), .blk b5 46 [iV ((truR b z ((l.getD k default).Gauge) ((l.getD k default).Less) ((l.getD k default).More)).Gauge), iV ((truR b z ((l.getD k default).Gauge) ((l.getD k default).Less) ((l.getD k default).More)).Hour), iV ((truR b z ((l.getD k default).Gauge) ((l.getD k default).Less) ((l.getD k default).More)).Value.Lo), iV ((truR b z ((l.getD k default).Gauge) ((l.getD k default).Less) ((l.getD k default).More)).Value.Hi)], .blk b4 74 [iV ((l.getD k default).Gauge), iV ((l.getD k default).Less), iV ((l.getD k default).More)], .row bv 46 4 N.length (flat N), .row xv.1 46 4 ((M ++ [(⟨(truR b z ((l.getD k default).Gauge) ((l.getD k default).Less) ((l.getD k default).More)).Gauge, (truR b z ((l.getD k default).Gauge) ((l.getD k default).Less) ((l.getD k default).More)).Hour, ⟨(truR b z ((l.getD k default).Gauge) ((l.getD k default).Less) ((l.getD k default).More)).Value.Lo, (truR b z ((l.getD k default).Gauge) ((l.getD k default).Less) ((l.getD k default).More)).Value.Hi⟩⟩ : Bt.Reading)]).length) (flat (M ++ [(⟨(truR b z ((l.getD k default).Gauge) ((l.getD k default).Less) ((l.getD k default).More)).Gauge, (truR b z ((l.getD k default).Gauge) ((l.getD k default).Less) ((l.getD k default).More)).Hour, ⟨(truR b z ((l.getD k default).Gauge) ((l.getD k default).Less) ((l.getD k default).More)).Value.Lo, (truR b z ((l.getD k default).Gauge) ((l.getD k default).Less) ((l.getD k default).More)).Value.Hi⟩⟩ : Bt.Reading)])), .blk b3 36 [iV yy.Hour, yyv1, yyv2, yyv3], .blk b2 70 (cl70 z tv1 tv2 tv3 tv4 tv5 tv6), .blk b1 31 (cl31 b v1 v3 v4 v5 v6 v7 v8 v9)]) rfl (e_append 4 rfl rfl rfl uT37 inf46 rfl rfl rfl (Cells.row0 0 rfl) rfl (by omega) (by omega) (fun _ => by simp [flat] <;> rfl)) ?_
     rintro ⟨va1, hva1⟩
     refine RW.wk (J' := St ⟨w, Φ, []⟩ Φ [.blk b5 46 [iV ((truR b z ((l.getD k default).Gauge) ((l.getD k default).Less) ((l.getD k default).More)).Gauge), iV ((truR b z ((l.getD k default).Gauge) ((l.getD k default).Less) ((l.getD k default).More)).Hour), iV ((truR b z ((l.getD k default).Gauge) ((l.getD k default).Less) ((l.getD k default).More)).Value.Lo), iV ((truR b z ((l.getD k default).Gauge) ((l.getD k default).Less) ((l.getD k default).More)).Value.Hi)], .blk b4 74 [iV ((l.getD k default).Gauge), iV ((l.getD k default).Less), iV ((l.getD k default).More)], .row bv 46 4 N.length (flat N), .row va1 46 4 ((M ++ [(⟨(truR b z ((l.getD k default).Gauge) ((l.getD k default).Less) ((l.getD k default).More)).Gauge, (truR b z ((l.getD k default).Gauge) ((l.getD k default).Less) ((l.getD k default).More)).Hour, ⟨(truR b z ((l.getD k default).Gauge) ((l.getD k default).Less) ((l.getD k default).More)).Value.Lo, (truR b z ((l.getD k default).Gauge) ((l.getD k default).Less) ((l.getD k default).More)).Value.Hi⟩⟩ : Bt.Reading)]).length) (flat (M ++ [(⟨(truR b z ((l.getD k default).Gauge) ((l.getD k default).Less) ((l.getD k default).More)).Gauge, (truR b z ((l.getD k default).Gauge) ((l.getD k default).Less) ((l.getD k default).More)).Hour, ⟨(truR b z ((l.getD k default).Gauge) ((l.getD k default).Less) ((l.getD k default).More)).Value.Lo, (truR b z ((l.getD k default).Gauge) ((l.getD k default).Less) ((l.getD k default).More)).Value.Hi⟩⟩ : Bt.Reading)])), .blk b3 36 [iV yy.Hour, yyv1, yyv2, yyv3], .blk b2 70 (cl70 z tv1 tv2 tv3 tv4 tv5 tv6), .blk b1 31 (cl31 b v1 v3 v4 v5 v6 v7 v8 v9)]) (fun _ h => StP.drop h (by exact .cons _ (.cons_cons _ (.cons_cons _ (.cons_cons _ (.cons_cons _ (.cons_cons _ (.cons_cons _ (.cons_cons _ (.slnil)))))))))) ?_
     refine g3 ?_
     have hNl : N.length = M.length := by rw [hN, List.length_reverse]
     have hNw : ∀ x ∈ N, RepE.wf x := fun x hx => rdTo_wf hL hzH (hM ▸ (List.mem_reverse.1 (hN ▸ hx)))
     refine AW.wk (J' := St ⟨w, Φ, []⟩ Φ [.row bv 46 4 N.length (flat N), .blk b5 46 [iV ((truR b z ((l.getD k default).Gauge) ((l.getD k default).Less) ((l.getD k default).More)).Gauge), iV ((truR b z ((l.getD k default).Gauge) ((l.getD k default).Less) ((l.getD k default).More)).Hour), iV ((truR b z ((l.getD k default).Gauge) ((l.getD k default).Less) ((l.getD k default).More)).Value.Lo), iV ((truR b z ((l.getD k default).Gauge) ((l.getD k default).Less) ((l.getD k default).More)).Value.Hi)], .blk b4 74 [iV ((l.getD k default).Gauge), iV ((l.getD k default).Less), iV ((l.getD k default).More)], .row va1 46 4 ((M ++ [(⟨(truR b z ((l.getD k default).Gauge) ((l.getD k default).Less) ((l.getD k default).More)).Gauge, (truR b z ((l.getD k default).Gauge) ((l.getD k default).Less) ((l.getD k default).More)).Hour, ⟨(truR b z ((l.getD k default).Gauge) ((l.getD k default).Less) ((l.getD k default).More)).Value.Lo, (truR b z ((l.getD k default).Gauge) ((l.getD k default).Less) ((l.getD k default).More)).Value.Hi⟩⟩ : Bt.Reading)]).length) (flat (M ++ [(⟨(truR b z ((l.getD k default).Gauge) ((l.getD k default).Less) ((l.getD k default).More)).Gauge, (truR b z ((l.getD k default).Gauge) ((l.getD k default).Less) ((l.getD k default).More)).Hour, ⟨(truR b z ((l.getD k default).Gauge) ((l.getD k default).Less) ((l.getD k default).More)).Value.Lo, (truR b z ((l.getD k default).Gauge) ((l.getD k default).Less) ((l.getD k default).More)).Value.Hi⟩⟩ : Bt.Reading)])), .blk b3 36 [iV yy.Hour, yyv1, yyv2, yyv3], .blk b2 70 (cl70 z tv1 tv2 tv3 tv4 tv5 tv6), .blk b1 31 (cl31 b v1 v3 v4 v5 v6 v7 v8 v9)]) (fun w9 h9 => StP.perm h9 (List.Perm.symm (.trans (.cons _ (.trans (.cons _ (.refl _)) (.swap _ _ _))) (.swap _ _ _)))) (AW.frz (fun Φ1 hlΦ1 hshkb => ?_))
     replace hB := hB.mono hlΦ1
     replace r1 := r1.mono hlΦ1
     replace r3 := r3.mono hlΦ1
     replace r4 := r4.mono hlΦ1
     replace r5 := r5.mono hlΦ1
     replace r6 := r6.mono hlΦ1
     replace r7 := r7.mono hlΦ1
     replace r8 := r8.mono hlΦ1
     replace r9 := r9.mono hlΦ1
     replace tH := tH.mono hlΦ1
     replace tr1 := tr1.mono hlΦ1
     replace tr2 := tr2.mono hlΦ1
     replace tr3 := tr3.mono hlΦ1
     replace tr4 := tr4.mono hlΦ1
     replace tr5 := tr5.mono hlΦ1
     replace tr6 := tr6.mono hlΦ1
     replace yyH := yyH.mono hlΦ1
     replace yyr1 := yyr1.mono hlΦ1
     replace yyr2 := yyr2.mono hlΦ1
     replace yyr3 := yyr3.mono hlΦ1
     replace hl := hl.mono hlΦ1
     have hkb : RepSl Φ1 N bv := RowS.repE even46 hshkb rfl (by simp only [maxSl]; show N.length * 32 ≤ _; omega) hNw
     refine g2 ?_
     refine RW.eff (fun b7 : Nat => (.slice (some ⟨b7, 0, none⟩) 1 1)) (fun b7 => St ⟨w, Φ, []⟩ Φ1 [.row (.slice (some ⟨b7, 0, none⟩) 1 1) 46 4 1 ([iV ((truR b z ((l.getD k default).Gauge) ((l.getD k default).Less) ((l.getD k default).More)).Gauge), iV ((truR b z ((l.getD k default).Gauge) ((l.getD k default).Less) ((l.getD k default).More)).Hour), iV ((truR b z ((l.getD k default).Gauge) ((l.getD k default).Less) ((l.getD k default).More)).Value.Lo), iV ((truR b z ((l.getD k default).Gauge) ((l.getD k default).Less) ((l.getD k default).More)).Value.Hi)]), .blk b5 46 [iV ((truR b z ((l.getD k default).Gauge) ((l.getD k default).Less) ((l.getD k default).More)).Gauge), iV ((truR b z ((l.getD k default).Gauge) ((l.getD k default).Less) ((l.getD k default).More)).Hour), iV ((truR b z ((l.getD k default).Gauge) ((l.getD k default).Less) ((l.getD k default).More)).Value.Lo), iV ((truR b z ((l.getD k default).Gauge) ((l.getD k default).Less) ((l.getD k default).More)).Value.Hi)], .blk b4 74 [iV ((l.getD k default).Gauge), iV ((l.getD k default).Less), iV ((l.getD k default).More)], .row va1 46 4 ((M ++ [(⟨(truR b z ((l.getD k default).Gauge) ((l.getD k default).Less) ((l.getD k default).More)).Gauge, (truR b z ((l.getD k default).Gauge) ((l.getD k default).Less) ((l.getD k default).More)).Hour, ⟨(truR b z ((l.getD k default).Gauge) ((l.getD k default).Less) ((l.getD k default).More)).Value.Lo, (truR b z ((l.getD k default).Gauge) ((l.getD k default).Less) ((l.getD k default).More)).Value.Hi⟩⟩ : Bt.Reading)]).length) (flat (M ++ [(⟨(truR b z ((l.getD k default).Gauge) ((l.getD k default).Less) ((l.getD k default).More)).Gauge, (truR b z ((l.getD k default).Gauge) ((l.getD k default).Less) ((l.getD k default).More)).Hour, ⟨(truR b z ((l.getD k default).Gauge) ((l.getD k default).Less) ((l.getD k default).More)).Value.Lo, (truR b z ((l.getD k default).Gauge) ((l.getD k default).Less) ((l.getD k default).More)).Value.Hi⟩⟩ : Bt.Reading)])), .blk b3 36 [iV yy.Hour, yyv1, yyv2, yyv3], .blk b2 70 (cl70 z tv1 tv2 tv3 tv4 tv5 tv6), .blk b1 31 (cl31 b v1 v3 v4 v5 v6 v7 v8 v9)]) rfl (e_buildSlice (vals := [(0, .agg #[iV ((truR b z ((l.getD k default).Gauge) ((l.getD k default).Less) ((l.getD k default).More)).Gauge), iV ((truR b z ((l.getD k default).Gauge) ((l.getD k default).Less) ((l.getD k default).More)).Hour), iV ((truR b z ((l.getD k default).Gauge) ((l.getD k default).Less) ((l.getD k default).More)).Value.Lo), iV ((truR b z ((l.getD k default).Gauge) ((l.getD k default).Less) ((l.getD k default).More)).Value.Hi)])]) (cells := [iV ((truR b z ((l.getD k default).Gauge) ((l.getD k default).Less) ((l.getD k default).More)).Gauge), iV ((truR b z ((l.getD k default).Gauge) ((l.getD k default).Less) ((l.getD k default).More)).Hour), iV ((truR b z ((l.getD k default).Gauge) ((l.getD k default).Less) ((l.getD k default).More)).Value.Lo), iV ((truR b z ((l.getD k default).Gauge) ((l.getD k default).Less) ((l.getD k default).More)).Value.Hi)]) uT37 inf46 rfl rfl rfl (by kernel_rfl) rfl) ?_
     intro b7
     refine g1 ?_
     refine RW.eff (fun xv : {vq : Value // IsSl vq (1 + N.length)} => xv.1) (fun xv => St ⟨w, Φ, []⟩ Φ1 [.row xv.1 46 4 ((([(⟨(truR b z ((l.getD k default).Gauge) ((l.getD k default).Less) ((l.getD k default).More)).Gauge, (truR b z ((l.getD k default).Gauge) ((l.getD k default).Less) ((l.getD k default).More)).Hour, ⟨(truR b z ((l.getD k default).Gauge) ((l.getD k default).Less) ((l.getD k default).More)).Value.Lo, (truR b z ((l.getD k default).Gauge) ((l.getD k default).Less) ((l.getD k default).More)).Value.Hi⟩⟩ : Bt.Reading)]) ++ N).length) (flat (([(⟨(truR b z ((l.getD k default).Gauge) ((l.getD k default).Less) ((l.getD k default).More)).Gauge, (truR b z ((l.getD k default).Gauge) ((l.getD k default).Less) ((l.getD k default).More)).Hour, ⟨(truR b z ((l.getD k default).Gauge) ((l.getD k default).Less) ((l.getD k default).More)).Value.Lo, (truR b z ((l.getD k default).Gauge) ((l.getD k default).Less) ((l.getD k default).More)).Value.Hi⟩⟩ : Bt.Reading)]) ++ N)), .blk b5 46 [iV ((truR b z ((l.getD k default).Gauge) ((l.getD k default).Less) ((l.getD k default).More)).Gauge), iV ((truR b z ((l.getD k default).Gauge) ((l.getD k default).Less) ((l.getD k default).More)).Hour), iV ((truR b z ((l.getD k default).Gauge) ((l.getD k default).Less) ((l.getD k default).More)).Value.Lo), iV ((truR b z ((l.getD k default).Gauge) ((l.getD k default).Less) ((l.getD k default).More)).Value.Hi)], .blk b4 74 [iV ((l.getD k default).Gauge), iV ((l.getD k default).Less), iV ((l.getD k default).More)], .row va1 46 4 ((M ++ [(⟨(truR b z ((l.getD k default).Gauge) ((l.getD k default).Less) ((l.getD k default).More)).Gauge, (truR b z ((l.getD k default).Gauge) ((l.getD k default).Less) ((l.getD k default).More)).Hour, ⟨(truR b z ((l.getD k default).Gauge) ((l.getD k default).Less) ((l.getD k default).More)).Value.Lo, (truR b z ((l.getD k default).Gauge) ((l.getD k default).Less) ((l.getD k default).More)).Value.Hi⟩⟩ : Bt.Reading)]).length) (flat (M ++ [(⟨(truR b z ((l.getD k default).Gauge) ((l.getD k default).Less) ((l.getD k default).More)).Gauge, (truR b z ((l.getD k default).Gauge) ((l.getD k default).Less) ((l.getD k default).More)).Hour, ⟨(truR b z ((l.getD k default).Gauge) ((l.getD k default).Less) ((l.getD k default).More)).Value.Lo, (truR b z ((l.getD k default).Gauge) ((l.getD k default).Less) ((l.getD k default).More)).Value.Hi⟩⟩ : Bt.Reading)])), .blk b3 36 [iV yy.Hour, yyv1, yyv2, yyv3], .blk b2 70 (cl70 z tv1 tv2 tv3 tv4 tv5 tv6), .blk b1 31 (cl31 b v1 v3 v4 v5 v6 v7 v8 v9)]) rfl (e_appendPhi (yv := bv) 0 rfl rfl rfl hkb.sl uT37 inf46 rfl rfl (flat_len even46 _) (repE_cells even46 hkb) (flat_one hkb) (by omega) (by omega) (fun _ => by first | (simp [flat]; done) | (show (Chunk.row _ _ _ _ _ :: _) = (Chunk.row _ _ _ _ _ :: _); congr 2; all_goals first | rfl | exact Nat.add_comm 1 _))) ?_
     rintro ⟨va2, hva2⟩
     refine g9 ?_
     exact Post.back (s' := _) (J' := _) (m' := _) (by omega) ⟨k + 1, M ++ [truR b z (l.getD k default).Gauge (l.getD k default).Less (l.getD k default).More], [truR b z (l.getD k default).Gauge (l.getD k default).Less (l.getD k default).More] ++ N, va1, va2, rfl, rfl, rfl, (by omega), (by show _ = rdTo b z l k ++ rdOf b z (l.getD k default); rw [rd_yes hlk (by assumption), ← hM]), (by rw [hN]; simp), (by have h9 := hva1; simpa using h9), (by have h9 := hva2; rw [Nat.add_comm] at h9; exact h9), (by simp; omega)⟩ ⟨rfl, rfl, rfl, rfl, rfl, rfl, rfl, rfl, trivial⟩ (fun _ h => StP.know (by assumption) (StP.drop h (by exact .cons_cons _ (.cons _ (.cons _ (.cons_cons _ (.cons_cons _ (.cons_cons _ (.cons_cons _ (.slnil))))))))))
    ·
     refine g8 ?_
     exact Post.back (s' := _) (J' := _) (m' := _) (by omega) ⟨k + 1, M, N, rv, bv, rfl, rfl, rfl, (by omega), (by show _ = rdTo b z l k ++ rdOf b z (l.getD k default); rw [rd_no2 (by assumption), List.append_nil]; exact hM), hN, hrv, hbv, (by omega)⟩ ⟨rfl, rfl, rfl, rfl, rfl, rfl, rfl, rfl, trivial⟩ (fun _ h => StP.drop h (by exact .cons _ (.cons _ (.cons_cons _ (.cons_cons _ (.cons_cons _ (.cons_cons _ (.cons_cons _ (.slnil)))))))))
  ·
   simp [-List.getD_eq_getElem?_getD, -Array.length_toList] at hc2
   refine g6 ?_
   have hMe : M = rdTo b z l l.length := by rw [hM, show k = l.length by omega]
   have hMw : ∀ x ∈ M, RepE.wf x := fun x hx => rdTo_wf hL hzH (hMe ▸ hx)
   have hNw : ∀ x ∈ N, RepE.wf x := fun x hx => hMw x (by rw [hN] at hx; exact List.mem_reverse.1 hx)
   have hNl : N.length = M.length := by rw [hN, List.length_reverse]
   refine AW.wk (J' := St ⟨w, Φ, []⟩ Φ [.row rv 46 4 M.length (flat M), .row bv 46 4 N.length (flat N), .blk b3 36 [iV yy.Hour, yyv1, yyv2, yyv3], .blk b2 70 (cl70 z tv1 tv2 tv3 tv4 tv5 tv6), .blk b1 31 (cl31 b v1 v3 v4 v5 v6 v7 v8 v9)]) (fun w9 h9 => StP.perm h9 (List.Perm.symm (.trans (.cons _ (.refl _)) (.swap _ _ _)))) (AW.frz (fun Φ2 hlΦ2 hshkr => ?_))
   replace hB := hB.mono hlΦ2
   replace r1 := r1.mono hlΦ2
   replace r3 := r3.mono hlΦ2
   replace r4 := r4.mono hlΦ2
   replace r5 := r5.mono hlΦ2
   replace r6 := r6.mono hlΦ2
   replace r7 := r7.mono hlΦ2
   replace r8 := r8.mono hlΦ2
   replace r9 := r9.mono hlΦ2
   replace tH := tH.mono hlΦ2
   replace tr1 := tr1.mono hlΦ2
   replace tr2 := tr2.mono hlΦ2
   replace tr3 := tr3.mono hlΦ2
   replace tr4 := tr4.mono hlΦ2
   replace tr5 := tr5.mono hlΦ2
   replace tr6 := tr6.mono hlΦ2
   replace yyH := yyH.mono hlΦ2
   replace yyr1 := yyr1.mono hlΦ2
   replace yyr2 := yyr2.mono hlΦ2
   replace yyr3 := yyr3.mono hlΦ2
   replace hl := hl.mono hlΦ2
   have hkr : RepSl Φ2 M rv := RowS.repE even46 hshkr rfl (by simp only [maxSl]; show M.length * 32 ≤ _; omega) hMw
   refine AW.frz (fun Φ3 hlΦ3 hshkb => ?_)
   replace hB := hB.mono hlΦ3
   replace r1 := r1.mono hlΦ3
   replace r3 := r3.mono hlΦ3
   replace r4 := r4.mono hlΦ3
   replace r5 := r5.mono hlΦ3
   replace r6 := r6.mono hlΦ3
   replace r7 := r7.mono hlΦ3
   replace r8 := r8.mono hlΦ3
   replace r9 := r9.mono hlΦ3
   replace tH := tH.mono hlΦ3
   replace tr1 := tr1.mono hlΦ3
   replace tr2 := tr2.mono hlΦ3
   replace tr3 := tr3.mono hlΦ3
   replace tr4 := tr4.mono hlΦ3
   replace tr5 := tr5.mono hlΦ3
   replace tr6 := tr6.mono hlΦ3
   replace yyH := yyH.mono hlΦ3
   replace yyr1 := yyr1.mono hlΦ3
   replace yyr2 := yyr2.mono hlΦ3
   replace yyr3 := yyr3.mono hlΦ3
   replace hl := hl.mono hlΦ3
   replace hkr := hkr.mono hlΦ3
   have hkb : RepSl Φ3 N bv := RowS.repE even46 hshkb rfl (by simp only [maxSl]; show N.length * 32 ≤ _; omega) hNw
   obtain ⟨hv1, hk1, hiV, hiK, hn1, hn2, hn3, hs2, hs3, ht1, htk⟩ := Fu.fuse_true (b := b) (h := yy) (l := M) hL.inV hL.inK (by rw [hMe]; exact rdTo_true hL l l.length)
   rw [← hN] at hn3 hs3
   have hhas : hasB b (Fu.hullOf yy (Fu.fuse b yy M)) z = true := has_keep hL hv1 hk1 hiV hiK (fun p hp => (htk p hp).2.2)
   refine g4 ?_
   refine RW.eff (fun x : {z : (Value × Value × Value × Value) × Hp // (fun (y : Value × Value × Value × Value) (Ψ : Hp) => (RepSl Ψ (Fu.fuse b yy M).V y.1) ∧ (RepSl Ψ yy.Queue y.2.1) ∧ (RepSl Ψ (Fu.fuse b yy M).K y.2.2.1) ∧ (RepSl Ψ (Fu.comp (Fu.fuse b yy M).N) y.2.2.2) ∧ (RepV Ψ (Fu.hullOf yy (Fu.fuse b yy M)) [iV yy.Hour, y.1, y.2.1, y.2.2.1])) z.1 z.2 ∧ Hp.le Φ3 z.2} => .tuple #[.agg #[iV yy.Hour, x.1.1.1, x.1.1.2.1, x.1.1.2.2.1], x.1.1.2.2.2]) (fun x => St ⟨w, Φ, []⟩ x.1.2 [.blk b3 36 [iV yy.Hour, yyv1, yyv2, yyv3], .blk b2 70 (cl70 z tv1 tv2 tv3 tv4 tv5 tv6), .blk b1 31 (cl31 b v1 v3 v4 v5 v6 v7 v8 v9)]) rfl (e_callX (fun (y : Value × Value × Value × Value) => .tuple #[.agg #[iV yy.Hour, y.1, y.2.1, y.2.2.1], y.2.2.2]) (fun (y : Value × Value × Value × Value) (Ψ : Hp) => (RepSl Ψ (Fu.fuse b yy M).V y.1) ∧ (RepSl Ψ yy.Queue y.2.1) ∧ (RepSl Ψ (Fu.fuse b yy M).K y.2.2.1) ∧ (RepSl Ψ (Fu.comp (Fu.fuse b yy M).N) y.2.2.2) ∧ (RepV Ψ (Fu.hullOf yy (Fu.fuse b yy M)) [iV yy.Hour, y.1, y.2.1, y.2.2.1])) (args := #[.agg (cl31 b v1 v3 v4 v5 v6 v7 v8 v9).toArray, .agg #[iV yy.Hour, yyv1, yyv2, yyv3], rv]) own12 rfl rfl (fun w1 hw1 => ((((Fuse_c w1 (Go.K.hp w1) (Hp.le_refl _) (hB.mono hw1.phi) (yyH.mono hw1.phi) (hkr.mono hw1.phi) (by omega) (by omega) (by omega) (by omega)).mono fun _ _ => retS_up (fun _ _ _ hl ⟨a, b, c, d, e, h1, h2, h3, h4⟩ => ⟨a, b, c, d, e, h1.mono hl, h2.mono hl, h3.mono hl, h4.mono hl⟩))).mono fun e w2 hr => by obtain ⟨v9, he9, hb9, u1, u2, u3, u4, hr9, q1, q2, q3, q4⟩ := hr; exact (show RetS _ _ (fun r Ψ => ∃ u1 u2 u3 u4 : Value, r = .tuple #[.agg #[iV yy.Hour, u1, u2, u3], u4] ∧ RepSl Ψ (Fu.fuse b yy M).V u1 ∧ RepSl Ψ yy.Queue u2 ∧ RepSl Ψ (Fu.fuse b yy M).K u3 ∧ RepSl Ψ (Fu.comp (Fu.fuse b yy M).N) u4 ∧ RepV Ψ (Fu.hullOf yy (Fu.fuse b yy M)) [iV yy.Hour, u1, u2, u3]) _ _ from ⟨v9, he9, hb9, u1, u2, u3, u4, hr9, q1, q2, q3, q4, ⟨_, _, _, rfl, (show I64 yy.Hour from hourOf yyH), q1, q2, q3⟩⟩)).mono fun e w2 hr => by obtain ⟨v9, he9, hb9, u1, u2, u3, u4, hr9, q1, q2, q3, q4, q5⟩ := hr; exact ⟨v9, he9, hb9, (u1, u2, u3, u4), hr9, q1, q2, q3, q4, q5⟩)) ?_
   rintro ⟨⟨⟨fv1, fv2, fv3, fv4⟩, Φ4⟩, ⟨kfv1, kfv2, kfv3, kfv4, Hfv1⟩, hlΦ4⟩
   replace kfv1 : RepSl Φ4 (Fu.fuse b yy M).V fv1 := kfv1
   replace kfv2 : RepSl Φ4 yy.Queue fv2 := kfv2
   replace kfv3 : RepSl Φ4 (Fu.fuse b yy M).K fv3 := kfv3
   replace kfv4 : RepSl Φ4 (Fu.comp (Fu.fuse b yy M).N) fv4 := kfv4
   replace Hfv1 : RepV Φ4 (Fu.hullOf yy (Fu.fuse b yy M)) [iV yy.Hour, fv1, fv2, fv3] := Hfv1
   replace hlΦ4 : Hp.le Φ3 Φ4 := hlΦ4
   replace hB := hB.mono hlΦ4
   replace r1 := r1.mono hlΦ4
   replace r3 := r3.mono hlΦ4
   replace r4 := r4.mono hlΦ4
   replace r5 := r5.mono hlΦ4
   replace r6 := r6.mono hlΦ4
   replace r7 := r7.mono hlΦ4
   replace r8 := r8.mono hlΦ4
   replace r9 := r9.mono hlΦ4
   replace tH := tH.mono hlΦ4
   replace tr1 := tr1.mono hlΦ4
   replace tr2 := tr2.mono hlΦ4
   replace tr3 := tr3.mono hlΦ4
   replace tr4 := tr4.mono hlΦ4
   replace tr5 := tr5.mono hlΦ4
   replace tr6 := tr6.mono hlΦ4
   replace yyH := yyH.mono hlΦ4
   replace yyr1 := yyr1.mono hlΦ4
   replace yyr2 := yyr2.mono hlΦ4
   replace yyr3 := yyr3.mono hlΦ4
   replace hl := hl.mono hlΦ4
   replace hkr := hkr.mono hlΦ4
   replace hkb := hkb.mono hlΦ4
   refine RW.q (v := .tuple #[.agg #[iV yy.Hour, fv1, fv2, fv3], fv4]) rfl (q_move rfl) ?_
   refine g2 ?_
   refine RW.alc rfl fun b8 => ?_
   refine RW.effn (J' := St ⟨w, Φ, []⟩ Φ4 [.blk b8 36 [iV yy.Hour, fv1, fv2, fv3], .blk b3 36 [iV yy.Hour, yyv1, yyv2, yyv3], .blk b2 70 (cl70 z tv1 tv2 tv3 tv4 tv5 tv6), .blk b1 31 (cl31 b v1 v3 v4 v5 v6 v7 v8 v9)]) (e_store (v := .agg #[iV yy.Hour, fv1, fv2, fv3]) 0 rfl rfl rfl sz36 rfl (by show List.all [_, fv1, fv2, fv3] _ = true; simp only [List.all_cons, List.all_nil, oneCell_sl kfv1.sl, oneCell_sl kfv2.sl, oneCell_sl kfv3.sl]; rfl) rfl rfl rfl) ?_
   refine g8 ?_
   refine RW.eff (fun x : {z : (Value × Value × Value × Value) × Hp // (fun (y : Value × Value × Value × Value) (Ψ : Hp) => (RepSl Ψ (Fu.fuse b (Fu.hullOf yy (Fu.fuse b yy M)) M).V y.1) ∧ (RepSl Ψ (Fu.hullOf yy (Fu.fuse b yy M)).Queue y.2.1) ∧ (RepSl Ψ (Fu.fuse b (Fu.hullOf yy (Fu.fuse b yy M)) M).K y.2.2.1) ∧ (RepSl Ψ (Fu.comp (Fu.fuse b (Fu.hullOf yy (Fu.fuse b yy M)) M).N) y.2.2.2) ∧ (RepV Ψ (Fu.hullOf (Fu.hullOf yy (Fu.fuse b yy M)) (Fu.fuse b (Fu.hullOf yy (Fu.fuse b yy M)) M)) [iV (Fu.hullOf yy (Fu.fuse b yy M)).Hour, y.1, y.2.1, y.2.2.1])) z.1 z.2 ∧ Hp.le Φ4 z.2} => .tuple #[.agg #[iV ((Fu.hullOf yy (Fu.fuse b yy M)).Hour), x.1.1.1, x.1.1.2.1, x.1.1.2.2.1], x.1.1.2.2.2]) (fun x => St ⟨w, Φ, []⟩ x.1.2 [.blk b8 36 [iV yy.Hour, fv1, fv2, fv3], .blk b3 36 [iV yy.Hour, yyv1, yyv2, yyv3], .blk b2 70 (cl70 z tv1 tv2 tv3 tv4 tv5 tv6), .blk b1 31 (cl31 b v1 v3 v4 v5 v6 v7 v8 v9)]) rfl (e_callX (fun (y : Value × Value × Value × Value) => .tuple #[.agg #[iV ((Fu.hullOf yy (Fu.fuse b yy M)).Hour), y.1, y.2.1, y.2.2.1], y.2.2.2]) (fun (y : Value × Value × Value × Value) (Ψ : Hp) => (RepSl Ψ (Fu.fuse b (Fu.hullOf yy (Fu.fuse b yy M)) M).V y.1) ∧ (RepSl Ψ (Fu.hullOf yy (Fu.fuse b yy M)).Queue y.2.1) ∧ (RepSl Ψ (Fu.fuse b (Fu.hullOf yy (Fu.fuse b yy M)) M).K y.2.2.1) ∧ (RepSl Ψ (Fu.comp (Fu.fuse b (Fu.hullOf yy (Fu.fuse b yy M)) M).N) y.2.2.2) ∧ (RepV Ψ (Fu.hullOf (Fu.hullOf yy (Fu.fuse b yy M)) (Fu.fuse b (Fu.hullOf yy (Fu.fuse b yy M)) M)) [iV (Fu.hullOf yy (Fu.fuse b yy M)).Hour, y.1, y.2.1, y.2.2.1])) (args := #[.agg (cl31 b v1 v3 v4 v5 v6 v7 v8 v9).toArray, .agg #[iV yy.Hour, fv1, fv2, fv3], rv]) own12 rfl rfl (fun w1 hw1 => ((((Fuse_c w1 (Go.K.hp w1) (Hp.le_refl _) (hB.mono hw1.phi) (Hfv1.mono hw1.phi) (hkr.mono hw1.phi) (by omega) (by show (Fu.fuse b yy M).V.length ≤ 1000; omega) (by show yy.Queue.length ≤ 1000; omega) (by show (Fu.fuse b yy M).K.length ≤ 1000; omega)).mono fun _ _ => retS_up (fun _ _ _ hl ⟨a, b, c, d, e, h1, h2, h3, h4⟩ => ⟨a, b, c, d, e, h1.mono hl, h2.mono hl, h3.mono hl, h4.mono hl⟩))).mono fun e w2 hr => by obtain ⟨v9, he9, hb9, u1, u2, u3, u4, hr9, q1, q2, q3, q4⟩ := hr; exact (show RetS _ _ (fun r Ψ => ∃ u1 u2 u3 u4 : Value, r = .tuple #[.agg #[iV (Fu.hullOf yy (Fu.fuse b yy M)).Hour, u1, u2, u3], u4] ∧ RepSl Ψ (Fu.fuse b (Fu.hullOf yy (Fu.fuse b yy M)) M).V u1 ∧ RepSl Ψ (Fu.hullOf yy (Fu.fuse b yy M)).Queue u2 ∧ RepSl Ψ (Fu.fuse b (Fu.hullOf yy (Fu.fuse b yy M)) M).K u3 ∧ RepSl Ψ (Fu.comp (Fu.fuse b (Fu.hullOf yy (Fu.fuse b yy M)) M).N) u4 ∧ RepV Ψ (Fu.hullOf (Fu.hullOf yy (Fu.fuse b yy M)) (Fu.fuse b (Fu.hullOf yy (Fu.fuse b yy M)) M)) [iV (Fu.hullOf yy (Fu.fuse b yy M)).Hour, u1, u2, u3]) _ _ from ⟨v9, he9, hb9, u1, u2, u3, u4, hr9, q1, q2, q3, q4, ⟨_, _, _, rfl, (show I64 (Fu.hullOf yy (Fu.fuse b yy M)).Hour from hourOf Hfv1), q1, q2, q3⟩⟩)).mono fun e w2 hr => by obtain ⟨v9, he9, hb9, u1, u2, u3, u4, hr9, q1, q2, q3, q4, q5⟩ := hr; exact ⟨v9, he9, hb9, (u1, u2, u3, u4), hr9, q1, q2, q3, q4, q5⟩)) ?_
   rintro ⟨⟨⟨fv5, fv6, fv7, fv8⟩, Φ5⟩, ⟨kfv5, kfv6, kfv7, kfv8, Hfv5⟩, hlΦ5⟩
   replace kfv5 : RepSl Φ5 (Fu.fuse b (Fu.hullOf yy (Fu.fuse b yy M)) M).V fv5 := kfv5
   replace kfv6 : RepSl Φ5 (Fu.hullOf yy (Fu.fuse b yy M)).Queue fv6 := kfv6
   replace kfv7 : RepSl Φ5 (Fu.fuse b (Fu.hullOf yy (Fu.fuse b yy M)) M).K fv7 := kfv7
   replace kfv8 : RepSl Φ5 (Fu.comp (Fu.fuse b (Fu.hullOf yy (Fu.fuse b yy M)) M).N) fv8 := kfv8
   replace Hfv5 : RepV Φ5 (Fu.hullOf (Fu.hullOf yy (Fu.fuse b yy M)) (Fu.fuse b (Fu.hullOf yy (Fu.fuse b yy M)) M)) [iV (Fu.hullOf yy (Fu.fuse b yy M)).Hour, fv5, fv6, fv7] := Hfv5
   replace hlΦ5 : Hp.le Φ4 Φ5 := hlΦ5
   replace hB := hB.mono hlΦ5
   replace r1 := r1.mono hlΦ5
   replace r3 := r3.mono hlΦ5
   replace r4 := r4.mono hlΦ5
   replace r5 := r5.mono hlΦ5
   replace r6 := r6.mono hlΦ5
   replace r7 := r7.mono hlΦ5
   replace r8 := r8.mono hlΦ5
   replace r9 := r9.mono hlΦ5
   replace tH := tH.mono hlΦ5
   replace tr1 := tr1.mono hlΦ5
   replace tr2 := tr2.mono hlΦ5
   replace tr3 := tr3.mono hlΦ5
   replace tr4 := tr4.mono hlΦ5
   replace tr5 := tr5.mono hlΦ5
   replace tr6 := tr6.mono hlΦ5
   replace yyH := yyH.mono hlΦ5
   replace yyr1 := yyr1.mono hlΦ5
   replace yyr2 := yyr2.mono hlΦ5
   replace yyr3 := yyr3.mono hlΦ5
   replace hl := hl.mono hlΦ5
   replace hkr := hkr.mono hlΦ5
   replace hkb := hkb.mono hlΦ5
   replace kfv1 := kfv1.mono hlΦ5
   replace kfv2 := kfv2.mono hlΦ5
   replace kfv3 := kfv3.mono hlΦ5
   replace kfv4 := kfv4.mono hlΦ5
   replace Hfv1 := Hfv1.mono hlΦ5
   refine RW.q (v := .tuple #[.agg #[iV ((Fu.hullOf yy (Fu.fuse b yy M)).Hour), fv5, fv6, fv7], fv8]) rfl (q_move rfl) ?_
   refine g2 ?_
   refine RW.alc rfl fun b9 => ?_
   refine RW.effn (J' := St ⟨w, Φ, []⟩ Φ5 [.blk b9 36 [iV ((Fu.hullOf yy (Fu.fuse b yy M)).Hour), fv5, fv6, fv7], .blk b8 36 [iV yy.Hour, fv1, fv2, fv3], .blk b3 36 [iV yy.Hour, yyv1, yyv2, yyv3], .blk b2 70 (cl70 z tv1 tv2 tv3 tv4 tv5 tv6), .blk b1 31 (cl31 b v1 v3 v4 v5 v6 v7 v8 v9)]) (e_store (v := .agg #[iV ((Fu.hullOf yy (Fu.fuse b yy M)).Hour), fv5, fv6, fv7]) 0 rfl rfl rfl sz36 rfl (by show List.all [_, fv5, fv6, fv7] _ = true; simp only [List.all_cons, List.all_nil, oneCell_sl kfv5.sl, oneCell_sl kfv6.sl, oneCell_sl kfv7.sl]; rfl) rfl rfl rfl) ?_
   refine g8 ?_
   refine RW.eff (fun x : {z : (Value × Value × Value × Value) × Hp // (fun (y : Value × Value × Value × Value) (Ψ : Hp) => (RepSl Ψ (Fu.fuse b yy N).V y.1) ∧ (RepSl Ψ yy.Queue y.2.1) ∧ (RepSl Ψ (Fu.fuse b yy N).K y.2.2.1) ∧ (RepSl Ψ (Fu.comp (Fu.fuse b yy N).N) y.2.2.2) ∧ (RepV Ψ (Fu.hullOf yy (Fu.fuse b yy N)) [iV yy.Hour, y.1, y.2.1, y.2.2.1])) z.1 z.2 ∧ Hp.le Φ5 z.2} => .tuple #[.agg #[iV yy.Hour, x.1.1.1, x.1.1.2.1, x.1.1.2.2.1], x.1.1.2.2.2]) (fun x => St ⟨w, Φ, []⟩ x.1.2 [.blk b9 36 [iV ((Fu.hullOf yy (Fu.fuse b yy M)).Hour), fv5, fv6, fv7], .blk b8 36 [iV yy.Hour, fv1, fv2, fv3], .blk b3 36 [iV yy.Hour, yyv1, yyv2, yyv3], .blk b2 70 (cl70 z tv1 tv2 tv3 tv4 tv5 tv6), .blk b1 31 (cl31 b v1 v3 v4 v5 v6 v7 v8 v9)]) rfl (e_callX (fun (y : Value × Value × Value × Value) => .tuple #[.agg #[iV yy.Hour, y.1, y.2.1, y.2.2.1], y.2.2.2]) (fun (y : Value × Value × Value × Value) (Ψ : Hp) => (RepSl Ψ (Fu.fuse b yy N).V y.1) ∧ (RepSl Ψ yy.Queue y.2.1) ∧ (RepSl Ψ (Fu.fuse b yy N).K y.2.2.1) ∧ (RepSl Ψ (Fu.comp (Fu.fuse b yy N).N) y.2.2.2) ∧ (RepV Ψ (Fu.hullOf yy (Fu.fuse b yy N)) [iV yy.Hour, y.1, y.2.1, y.2.2.1])) (args := #[.agg (cl31 b v1 v3 v4 v5 v6 v7 v8 v9).toArray, .agg #[iV yy.Hour, yyv1, yyv2, yyv3], bv]) own12 rfl rfl (fun w1 hw1 => ((((Fuse_c w1 (Go.K.hp w1) (Hp.le_refl _) (hB.mono hw1.phi) (yyH.mono hw1.phi) (hkb.mono hw1.phi) (by omega) (by omega) (by omega) (by omega)).mono fun _ _ => retS_up (fun _ _ _ hl ⟨a, b, c, d, e, h1, h2, h3, h4⟩ => ⟨a, b, c, d, e, h1.mono hl, h2.mono hl, h3.mono hl, h4.mono hl⟩))).mono fun e w2 hr => by obtain ⟨v9, he9, hb9, u1, u2, u3, u4, hr9, q1, q2, q3, q4⟩ := hr; exact (show RetS _ _ (fun r Ψ => ∃ u1 u2 u3 u4 : Value, r = .tuple #[.agg #[iV yy.Hour, u1, u2, u3], u4] ∧ RepSl Ψ (Fu.fuse b yy N).V u1 ∧ RepSl Ψ yy.Queue u2 ∧ RepSl Ψ (Fu.fuse b yy N).K u3 ∧ RepSl Ψ (Fu.comp (Fu.fuse b yy N).N) u4 ∧ RepV Ψ (Fu.hullOf yy (Fu.fuse b yy N)) [iV yy.Hour, u1, u2, u3]) _ _ from ⟨v9, he9, hb9, u1, u2, u3, u4, hr9, q1, q2, q3, q4, ⟨_, _, _, rfl, (show I64 yy.Hour from hourOf yyH), q1, q2, q3⟩⟩)).mono fun e w2 hr => by obtain ⟨v9, he9, hb9, u1, u2, u3, u4, hr9, q1, q2, q3, q4, q5⟩ := hr; exact ⟨v9, he9, hb9, (u1, u2, u3, u4), hr9, q1, q2, q3, q4, q5⟩)) ?_
   rintro ⟨⟨⟨fv9, fv10, fv11, fv12⟩, Φ6⟩, ⟨kfv9, kfv10, kfv11, kfv12, Hfv9⟩, hlΦ6⟩
   replace kfv9 : RepSl Φ6 (Fu.fuse b yy N).V fv9 := kfv9
   replace kfv10 : RepSl Φ6 yy.Queue fv10 := kfv10
   replace kfv11 : RepSl Φ6 (Fu.fuse b yy N).K fv11 := kfv11
   replace kfv12 : RepSl Φ6 (Fu.comp (Fu.fuse b yy N).N) fv12 := kfv12
   replace Hfv9 : RepV Φ6 (Fu.hullOf yy (Fu.fuse b yy N)) [iV yy.Hour, fv9, fv10, fv11] := Hfv9
   replace hlΦ6 : Hp.le Φ5 Φ6 := hlΦ6
   replace hB := hB.mono hlΦ6
   replace r1 := r1.mono hlΦ6
   replace r3 := r3.mono hlΦ6
   replace r4 := r4.mono hlΦ6
   replace r5 := r5.mono hlΦ6
   replace r6 := r6.mono hlΦ6
   replace r7 := r7.mono hlΦ6
   replace r8 := r8.mono hlΦ6
   replace r9 := r9.mono hlΦ6
   replace tH := tH.mono hlΦ6
   replace tr1 := tr1.mono hlΦ6
   replace tr2 := tr2.mono hlΦ6
   replace tr3 := tr3.mono hlΦ6
   replace tr4 := tr4.mono hlΦ6
   replace tr5 := tr5.mono hlΦ6
   replace tr6 := tr6.mono hlΦ6
   replace yyH := yyH.mono hlΦ6
   replace yyr1 := yyr1.mono hlΦ6
   replace yyr2 := yyr2.mono hlΦ6
   replace yyr3 := yyr3.mono hlΦ6
   replace hl := hl.mono hlΦ6
   replace hkr := hkr.mono hlΦ6
   replace hkb := hkb.mono hlΦ6
   replace kfv1 := kfv1.mono hlΦ6
   replace kfv2 := kfv2.mono hlΦ6
   replace kfv3 := kfv3.mono hlΦ6
   replace kfv4 := kfv4.mono hlΦ6
   replace Hfv1 := Hfv1.mono hlΦ6
   replace kfv5 := kfv5.mono hlΦ6
   replace kfv6 := kfv6.mono hlΦ6
   replace kfv7 := kfv7.mono hlΦ6
   replace kfv8 := kfv8.mono hlΦ6
   replace Hfv5 := Hfv5.mono hlΦ6
   refine RW.q (v := .tuple #[.agg #[iV yy.Hour, fv9, fv10, fv11], fv12]) rfl (q_move rfl) ?_
   refine g2 ?_
   refine RW.alc rfl fun b10 => ?_
   refine RW.effn (J' := St ⟨w, Φ, []⟩ Φ6 [.blk b10 36 [iV yy.Hour, fv9, fv10, fv11], .blk b9 36 [iV ((Fu.hullOf yy (Fu.fuse b yy M)).Hour), fv5, fv6, fv7], .blk b8 36 [iV yy.Hour, fv1, fv2, fv3], .blk b3 36 [iV yy.Hour, yyv1, yyv2, yyv3], .blk b2 70 (cl70 z tv1 tv2 tv3 tv4 tv5 tv6), .blk b1 31 (cl31 b v1 v3 v4 v5 v6 v7 v8 v9)]) (e_store (v := .agg #[iV yy.Hour, fv9, fv10, fv11]) 0 rfl rfl rfl sz36 rfl (by show List.all [_, fv9, fv10, fv11] _ = true; simp only [List.all_cons, List.all_nil, oneCell_sl kfv9.sl, oneCell_sl kfv10.sl, oneCell_sl kfv11.sl]; rfl) rfl rfl rfl) ?_
   refine g5 ?_
   have hz1 : (Fu.comp (Fu.fuse b yy M).N).length = 0 := by rw [hn1]; rfl
   have hz2 : (Fu.comp (Fu.fuse b (Fu.hullOf yy (Fu.fuse b yy M)) M).N).length = 0 := by rw [hn2]; rfl
   have hz3 : (Fu.comp (Fu.fuse b yy N).N).length = 0 := by rw [hn3]; rfl
   refine AW.region (RW.q (v := fv4) rfl (q_move rfl) (RW.q (v := iV (((Fu.comp (Fu.fuse b yy M).N).length : Nat) : Int)) rfl (q_len_sl rfl kfv4.sl uT29) (RW.q (v := fv8) rfl (q_move rfl) (RW.q (v := iV (((Fu.comp (Fu.fuse b (Fu.hullOf yy (Fu.fuse b yy M)) M).N).length : Nat) : Int)) rfl (q_len_sl rfl kfv8.sl uT29) (RW.q (v := iV (((Fu.comp (Fu.fuse b yy M).N).length + (Fu.comp (Fu.fuse b (Fu.hullOf yy (Fu.fuse b yy M)) M).N).length : Nat) : Int)) rfl (q_add rfl rfl (by omega) (by unfold I64; omega)) (RW.q (v := fv12) rfl (q_move rfl) (RW.q (v := iV (((Fu.comp (Fu.fuse b yy N).N).length : Nat) : Int)) rfl (q_len_sl rfl kfv12.sl uT29) (RW.q (v := iV (((Fu.comp (Fu.fuse b yy M).N).length + (Fu.comp (Fu.fuse b (Fu.hullOf yy (Fu.fuse b yy M)) M).N).length + (Fu.comp (Fu.fuse b yy N).N).length : Nat) : Int)) rfl (q_add rfl rfl (by omega) (by unfold I64; omega)) (RW.q (v := .bool (decide ((0 : Int) < (((Fu.comp (Fu.fuse b yy M).N).length + (Fu.comp (Fu.fuse b (Fu.hullOf yy (Fu.fuse b yy M)) M).N).length + (Fu.comp (Fu.fuse b yy N).N).length : Nat) : Int)))) rfl (q_gtr rfl rfl) ?_)))))))))
   refine RW.q (v := .bool (decide ((0 : Int) < (((Fu.comp (Fu.fuse b yy M).N).length + (Fu.comp (Fu.fuse b (Fu.hullOf yy (Fu.fuse b yy M)) M).N).length + (Fu.comp (Fu.fuse b yy N).N).length : Nat) : Int)))) rfl (q_move rfl) (RW.g (b := (decide ((0 : Int) < (((Fu.comp (Fu.fuse b yy M).N).length + (Fu.comp (Fu.fuse b (Fu.hullOf yy (Fu.fuse b yy M)) M).N).length + (Fu.comp (Fu.fuse b yy N).N).length : Nat) : Int)))) (v := .agg (cl31 b v1 v3 v4 v5 v6 v7 v8 v9).toArray) rfl rfl rfl (fun h => q_loadAgg rfl uT31 rfl sz31 rfl (Cells.blk 5 rfl)) (RW.g (b := (decide ((0 : Int) < (((Fu.comp (Fu.fuse b yy M).N).length + (Fu.comp (Fu.fuse b (Fu.hullOf yy (Fu.fuse b yy M)) M).N).length + (Fu.comp (Fu.fuse b yy N).N).length : Nat) : Int)))) (v := .agg #[iV yy.Hour, fv1, fv2, fv3]) rfl rfl rfl (fun h => q_loadAgg rfl uT36 rfl sz36 rfl (Cells.blk 2 rfl)) (RW.g (b := (decide ((0 : Int) < (((Fu.comp (Fu.fuse b yy M).N).length + (Fu.comp (Fu.fuse b (Fu.hullOf yy (Fu.fuse b yy M)) M).N).length + (Fu.comp (Fu.fuse b yy N).N).length : Nat) : Int)))) (v := .agg (cl70 z tv1 tv2 tv3 tv4 tv5 tv6).toArray) rfl rfl rfl (fun h => q_loadAgg rfl uT70 rfl sz70 rfl (Cells.blk 4 rfl)) (RW.g (b := (decide ((0 : Int) < (((Fu.comp (Fu.fuse b yy M).N).length + (Fu.comp (Fu.fuse b (Fu.hullOf yy (Fu.fuse b yy M)) M).N).length + (Fu.comp (Fu.fuse b yy N).N).length : Nat) : Int)))) (v := .bool (hasB b (Fu.hullOf yy (Fu.fuse b yy M)) z)) rfl rfl rfl (fun h => q_call (args := #[.agg (cl31 b v1 v3 v4 v5 v6 v7 v8 v9).toArray, .agg #[iV yy.Hour, fv1, fv2, fv3], .agg (cl70 z tv1 tv2 tv3 tv4 tv5 tv6).toArray]) own25 rfl (args3 (gv_pos h) (gv_pos h) (gv_pos h)) (fun w1 hw1 => hHas_c w1 (Go.K.hp w1) (Hp.le_refl _) (hB.mono hw1.phi) (Hfv1.mono hw1.phi) (tH.mono hw1.phi))) ?_))))
   refine g1 ?_
   obtain ⟨qb7, hqb7⟩ : ∃ qz : Bool, ((decide ((0 : Int) < (((Fu.comp (Fu.fuse b yy M).N).length + (Fu.comp (Fu.fuse b (Fu.hullOf yy (Fu.fuse b yy M)) M).N).length + (Fu.comp (Fu.fuse b yy N).N).length : Nat) : Int))) || (!(hasB b (Fu.hullOf yy (Fu.fuse b yy M)) z))) = qz := ⟨_, rfl⟩
   refine RW.q (v := .bool qb7) rfl (q_as (v := .bool ((decide ((0 : Int) < (((Fu.comp (Fu.fuse b yy M).N).length + (Fu.comp (Fu.fuse b (Fu.hullOf yy (Fu.fuse b yy M)) M).N).length + (Fu.comp (Fu.fuse b yy N).N).length : Nat) : Int))) || (!(hasB b (Fu.hullOf yy (Fu.fuse b yy M)) z)))) (q_pick rfl (fun hp => pkOrT hp) (fun hp => (gv_pos hp).trans (pkOrF hp))) (congrArg Value.bool hqb7)) ?_
   refine g3 ?_
   refine RW.g (b := qb7) (v := .bool (decide (Fu.sameH (Fu.hullOf (Fu.hullOf yy (Fu.fuse b yy M)) (Fu.fuse b (Fu.hullOf yy (Fu.fuse b yy M)) M)) (Fu.hullOf yy (Fu.fuse b yy M))))) rfl rfl rfl (fun h => q_call (args := #[.agg #[iV ((Fu.hullOf yy (Fu.fuse b yy M)).Hour), fv5, fv6, fv7], .agg #[iV yy.Hour, fv1, fv2, fv3]]) own14 rfl (args2 (gv_pos h) (gv_pos h)) (fun w1 hw1 => Same_c w1 (Go.K.hp w1) (Hp.le_refl _) (Hfv5.mono hw1.phi) (Hfv1.mono hw1.phi))) ?_
   refine g1 ?_
   obtain ⟨qb8, hqb8⟩ : ∃ qz : Bool, (qb7 || (!(decide (Fu.sameH (Fu.hullOf (Fu.hullOf yy (Fu.fuse b yy M)) (Fu.fuse b (Fu.hullOf yy (Fu.fuse b yy M)) M)) (Fu.hullOf yy (Fu.fuse b yy M)))))) = qz := ⟨_, rfl⟩
   refine RW.q (v := .bool qb8) rfl (q_as (v := .bool (qb7 || (!(decide (Fu.sameH (Fu.hullOf (Fu.hullOf yy (Fu.fuse b yy M)) (Fu.fuse b (Fu.hullOf yy (Fu.fuse b yy M)) M)) (Fu.hullOf yy (Fu.fuse b yy M))))))) (q_pick rfl (fun hp => pkOrT hp) (fun hp => (gv_pos hp).trans (pkOrF hp))) (congrArg Value.bool hqb8)) ?_
   refine g3 ?_
   refine RW.g (b := qb8) (v := .bool (decide (Fu.sameH (Fu.hullOf yy (Fu.fuse b yy N)) (Fu.hullOf yy (Fu.fuse b yy M))))) rfl rfl rfl (fun h => q_call (args := #[.agg #[iV yy.Hour, fv9, fv10, fv11], .agg #[iV yy.Hour, fv1, fv2, fv3]]) own14 rfl (args2 (gv_pos h) (gv_pos h)) (fun w1 hw1 => Same_c w1 (Go.K.hp w1) (Hp.le_refl _) (Hfv9.mono hw1.phi) (Hfv1.mono hw1.phi))) (RW.g (b := qb8) (v := .bool (!(decide (Fu.sameH (Fu.hullOf yy (Fu.fuse b yy N)) (Fu.hullOf yy (Fu.fuse b yy M)))))) rfl rfl rfl (fun h => q_not (gv_pos h)) ?_)
   obtain ⟨qb9, hqb9⟩ : ∃ qz : Bool, (qb8 || (!(decide (Fu.sameH (Fu.hullOf yy (Fu.fuse b yy N)) (Fu.hullOf yy (Fu.fuse b yy M)))))) = qz := ⟨_, rfl⟩
   refine RW.q (v := .bool qb9) rfl (q_as (v := .bool (qb8 || (!(decide (Fu.sameH (Fu.hullOf yy (Fu.fuse b yy N)) (Fu.hullOf yy (Fu.fuse b yy M))))))) (q_pick rfl (fun hp => pkOrT hp) (fun hp => (gv_pos hp).trans (pkOrF hp))) (congrArg Value.bool hqb9)) (RW.q (v := .bool qb9) rfl (q_move rfl) (RW.g (b := qb9) (v := pV b8 1) rfl rfl rfl (fun h => q_fieldAddr rfl uT36 rfl sz32 rfl) (RW.g (b := qb9) (v := fv1) rfl rfl rfl (fun h => q_load (gv_pos h) uT32 rfl (Cell.blk 2 rfl rfl)) (RW.g (b := qb9) (v := iV ((((Fu.fuse b yy M).V).length : Nat) : Int)) rfl rfl rfl (fun h => q_len_sl (gv_pos h) kfv1.sl uT32) (RW.g (b := qb9) (v := pV b3 1) rfl rfl rfl (fun h => q_fieldAddr rfl uT36 rfl sz32 rfl) (RW.g (b := qb9) (v := yyv1) rfl rfl rfl (fun h => q_load (gv_pos h) uT32 rfl (Cell.blk 3 rfl rfl)) (RW.g (b := qb9) (v := iV (yy.Vol.length : Int)) rfl rfl rfl (fun h => q_len_sl (gv_pos h) yyr1.sl uT32) (RW.g (b := qb9) (v := .bool (!decide (((((Fu.fuse b yy M).V).length : Nat) : Int) = (yy.Vol.length : Int)))) rfl rfl rfl (fun h => q_neq (gv_pos h) (gv_pos h)) ?_))))))))
   obtain ⟨qb10, hqb10⟩ : ∃ qz : Bool, (qb9 || (!decide (((((Fu.fuse b yy M).V).length : Nat) : Int) = (yy.Vol.length : Int)))) = qz := ⟨_, rfl⟩
   refine RW.q (v := .bool qb10) rfl (q_as (v := .bool (qb9 || (!decide (((((Fu.fuse b yy M).V).length : Nat) : Int) = (yy.Vol.length : Int))))) (q_pick rfl (fun hp => pkOrT hp) (fun hp => (gv_pos hp).trans (pkOrF hp))) (congrArg Value.bool hqb10)) (RW.q (v := .bool qb10) rfl (q_move rfl) (RW.g (b := qb10) (v := pV b8 3) rfl rfl rfl (fun h => q_fieldAddr rfl uT36 rfl sz34 rfl) (RW.g (b := qb10) (v := fv3) rfl rfl rfl (fun h => q_load (gv_pos h) uT34 rfl (Cell.blk 2 rfl rfl)) (RW.g (b := qb10) (v := iV ((((Fu.fuse b yy M).K).length : Nat) : Int)) rfl rfl rfl (fun h => q_len_sl (gv_pos h) kfv3.sl uT34) (RW.g (b := qb10) (v := pV b3 3) rfl rfl rfl (fun h => q_fieldAddr rfl uT36 rfl sz34 rfl) (RW.g (b := qb10) (v := yyv3) rfl rfl rfl (fun h => q_load (gv_pos h) uT34 rfl (Cell.blk 3 rfl rfl)) (RW.g (b := qb10) (v := iV (yy.Links.length : Int)) rfl rfl rfl (fun h => q_len_sl (gv_pos h) yyr3.sl uT34) (RW.g (b := qb10) (v := .bool (!decide (((((Fu.fuse b yy M).K).length : Nat) : Int) = (yy.Links.length : Int)))) rfl rfl rfl (fun h => q_neq (gv_pos h) (gv_pos h)) ?_))))))))
   obtain ⟨qb11, hqb11⟩ : ∃ qz : Bool, (qb10 || (!decide (((((Fu.fuse b yy M).K).length : Nat) : Int) = (yy.Links.length : Int)))) = qz := ⟨_, rfl⟩
   refine RW.q (v := .bool qb11) rfl (q_as (v := .bool (qb10 || (!decide (((((Fu.fuse b yy M).K).length : Nat) : Int) = (yy.Links.length : Int))))) (q_pick rfl (fun hp => pkOrT hp) (fun hp => (gv_pos hp).trans (pkOrF hp))) (congrArg Value.bool hqb11)) ?_
   subst hqb11 hqb10 hqb9 hqb8 hqb7
   refine g2 ?_
   refine AW.cond rfl (fun hc5 => ?_) fun hc5 => ?_
   ·
    exfalso
    have hq9 := hc5
    simp [hn1, hn2, hn3, hhas, hs2, hs3, hv1, hk1] at hq9
   ·
    refine g9 ?_
    refine AW.loop (fun s J m => ∃ (p : Nat), s = [(4, pV b1 0), (5, pV b2 0), (6, pV b3 0), (9, .bool true), (16, pV b8 0), (22, iV (p : Int))] ∧ J = St ⟨w, Φ, []⟩ Φ6 [.blk b10 36 [iV yy.Hour, fv9, fv10, fv11], .blk b9 36 [iV ((Fu.hullOf yy (Fu.fuse b yy M)).Hour), fv5, fv6, fv7], .blk b8 36 [iV yy.Hour, fv1, fv2, fv3], .blk b3 36 [iV yy.Hour, yyv1, yyv2, yyv3], .blk b2 70 (cl70 z tv1 tv2 tv3 tv4 tv5 tv6), .blk b1 31 (cl31 b v1 v3 v4 v5 v6 v7 v8 v9)] ∧ m = yy.Vol.length - p ∧ (p ≤ yy.Vol.length)) (s0 := _) (J1 := _) (m0 := _) ⟨0, rfl, rfl, rfl, (by omega)⟩ ⟨rfl, rfl, rfl, rfl, rfl, rfl, trivial⟩ (fun _ h => h) ?_
    rintro _ _ _ _ ⟨p, rfl, rfl, rfl, hp⟩
    refine g10 ?_
    refine AW.cond rfl (fun hc6 => ?_) fun hc6 => ?_
    ·
     simp [-List.getD_eq_getElem?_getD, -Array.length_toList] at hc6
     refine g5 ?_
     refine AW.draw (J0 := St ⟨w, Φ, []⟩ Φ6 [.blk b10 36 [iV yy.Hour, fv9, fv10, fv11], .blk b9 36 [iV ((Fu.hullOf yy (Fu.fuse b yy M)).Hour), fv5, fv6, fv7], .blk b8 36 [iV yy.Hour, fv1, fv2, fv3], .blk b3 36 [iV yy.Hour, yyv1, yyv2, yyv3], .blk b2 70 (cl70 z tv1 tv2 tv3 tv4 tv5 tv6), .blk b1 31 (cl31 b v1 v3 v4 v5 v6 v7 v8 v9)]) [.q, .q, .q, .q, .q, .q, .q, .q, .q, .q, .q, .q] [0, 1, 2, 3, 4, 5, 6, 7, 8, 9, 10, 11] hmix (by kernel_rfl) ?_
     refine g3 ?_
     refine DW.q (v := .pointer (some (Value.at fv1 (p * 2)))) (fun _ h => h) rfl (q_indexAddr rfl rfl kfv1.sl uT32 sz42 (by omega) (by omega) rfl) (DW.q (v := .agg #[iV ((((Fu.fuse b yy M).V).getD p default).Lo), iV ((((Fu.fuse b yy M).V).getD p default).Hi)]) (fun _ h => h) rfl (q_loadAgg rfl uT42 rfl sz42 rfl (Cells.repE kfv1 (by omega) rfl)) ?_)
     refine g3 ?_
     refine DW.q (v := .pointer (some (Value.at yyv1 (p * 2)))) (fun _ h => h) rfl (q_indexAddr rfl rfl yyr1.sl uT32 sz42 (by omega) (by omega) rfl) (DW.q (v := .agg #[iV ((yy.Vol.getD p default).Lo), iV ((yy.Vol.getD p default).Hi)]) (fun _ h => h) rfl (q_loadAgg rfl uT42 rfl sz42 rfl (Cells.repE yyr1 (by omega) rfl)) (DW.q (v := .bool (decide ((yy.Vol.getD p default).Lo ≤ (((Fu.fuse b yy M).V).getD p default).Lo ∧ (((Fu.fuse b yy M).V).getD p default).Hi ≤ (yy.Vol.getD p default).Hi))) (fun _ h => h) rfl (q_call (args := #[.agg #[iV ((((Fu.fuse b yy M).V).getD p default).Lo), iV ((((Fu.fuse b yy M).V).getD p default).Hi)], .agg #[iV ((yy.Vol.getD p default).Lo), iV ((yy.Vol.getD p default).Hi)]]) own22 rfl rfl (fun w1 hw1 => sWithin_c w1 (Go.K.hp w1) (Hp.le_refl _))) ?_))
     refine g3 ?_
     refine AW.cond rfl (fun hc7 => ?_) fun hc7 => ?_
     ·
      exfalso
      have h9 := ht1 p (by omega)
      have hq9 := hc7
      simp [-List.getD_eq_getElem?_getD] at hq9
      omega
     ·
      refine g8 ?_
      exact Post.back (s' := _) (J' := _) (m' := _) (by omega) ⟨p + 1, rfl, rfl, rfl, (by omega)⟩ ⟨rfl, rfl, rfl, rfl, rfl, rfl, trivial⟩ (fun _ h => h)
    ·
     simp [-List.getD_eq_getElem?_getD, -Array.length_toList] at hc6
     refine g12 ?_
     refine AW.loop (fun s J m => ∃ (p : Nat), s = [(6, pV b3 0), (9, .bool true), (16, pV b8 0), (23, iV (p : Int))] ∧ J = St ⟨w, Φ, []⟩ Φ6 [.blk b10 36 [iV yy.Hour, fv9, fv10, fv11], .blk b9 36 [iV ((Fu.hullOf yy (Fu.fuse b yy M)).Hour), fv5, fv6, fv7], .blk b8 36 [iV yy.Hour, fv1, fv2, fv3], .blk b3 36 [iV yy.Hour, yyv1, yyv2, yyv3], .blk b2 70 (cl70 z tv1 tv2 tv3 tv4 tv5 tv6), .blk b1 31 (cl31 b v1 v3 v4 v5 v6 v7 v8 v9)] ∧ m = yy.Links.length - p ∧ (p ≤ yy.Links.length)) (s0 := _) (J1 := _) (m0 := _) ⟨0, rfl, rfl, rfl, (by omega)⟩ ⟨rfl, rfl, rfl, rfl, trivial⟩ (fun _ h => h) ?_
     rintro _ _ _ _ ⟨p, rfl, rfl, rfl, hp⟩
     refine g10 ?_
     refine AW.cond rfl (fun hc8 => ?_) fun hc8 => ?_
     ·
      simp [-List.getD_eq_getElem?_getD, -Array.length_toList] at hc8
      refine g5 ?_
      refine AW.draw (J0 := St ⟨w, Φ, []⟩ Φ6 [.blk b10 36 [iV yy.Hour, fv9, fv10, fv11], .blk b9 36 [iV ((Fu.hullOf yy (Fu.fuse b yy M)).Hour), fv5, fv6, fv7], .blk b8 36 [iV yy.Hour, fv1, fv2, fv3], .blk b3 36 [iV yy.Hour, yyv1, yyv2, yyv3], .blk b2 70 (cl70 z tv1 tv2 tv3 tv4 tv5 tv6), .blk b1 31 (cl31 b v1 v3 v4 v5 v6 v7 v8 v9)]) [.q, .q, .q, .q, .q, .q, .q, .q, .q, .q, .q, .q, .q, .q, .q, .q, .q, .q, .q, .q, .q, .q, .q, .q, .q, .q, .q, .q, .q, .q, .q, .q, .q, .q, .q, .q, .q, .q, .q, .q, .q, .q, .q, .q] [0, 1, 2, 3, 4, 5, 6, 7, 8, 9, 10, 11, 12, 13, 14, 15, 16, 17, 18, 19, 20, 21, 22, 23, 24, 25, 26, 27, 28, 29, 30, 31, 32, 33, 34, 35, 36, 37, 38, 39, 40, 41, 42, 43] hmix (by kernel_rfl) ?_
      refine g3 ?_
      refine DW.q (v := .pointer (some (Value.at fv3 (p * 5)))) (fun _ h => h) rfl (q_indexAddr rfl rfl kfv3.sl uT34 sz79 (by omega) (by omega) rfl) ?_
      refine g1 ?_
      refine DW.q (v := .agg #[iV ((((Fu.fuse b yy M).K).getD p default).Pos.Lo), iV ((((Fu.fuse b yy M).K).getD p default).Pos.Hi)]) (fun _ h => h) rfl (q_loadAgg rfl uT42 rfl sz42 rfl (Cells.repP (off := 0) kfv3 (by omega) (fun j u hu => (by rcases j with _ | (_ | _) <;> first | exact hu | cases hu)))) ?_
      refine g3 ?_
      refine DW.q (v := .pointer (some (Value.at yyv3 (p * 5)))) (fun _ h => h) rfl (q_indexAddr rfl rfl yyr3.sl uT34 sz79 (by omega) (by omega) rfl) ?_
      refine g1 ?_
      refine DW.q (v := .agg #[iV ((yy.Links.getD p default).Pos.Lo), iV ((yy.Links.getD p default).Pos.Hi)]) (fun _ h => h) rfl (q_loadAgg rfl uT42 rfl sz42 rfl (Cells.repP (off := 0) yyr3 (by omega) (fun j u hu => (by rcases j with _ | (_ | _) <;> first | exact hu | cases hu)))) (DW.q (v := .bool (decide ((yy.Links.getD p default).Pos.Lo ≤ (((Fu.fuse b yy M).K).getD p default).Pos.Lo ∧ (((Fu.fuse b yy M).K).getD p default).Pos.Hi ≤ (yy.Links.getD p default).Pos.Hi))) (fun _ h => h) rfl (q_call (args := #[.agg #[iV ((((Fu.fuse b yy M).K).getD p default).Pos.Lo), iV ((((Fu.fuse b yy M).K).getD p default).Pos.Hi)], .agg #[iV ((yy.Links.getD p default).Pos.Lo), iV ((yy.Links.getD p default).Pos.Hi)]]) own22 rfl rfl (fun w1 hw1 => sWithin_c w1 (Go.K.hp w1) (Hp.le_refl _))) ?_)
      refine g5 ?_
      refine DW.g (b := (!(decide ((yy.Links.getD p default).Pos.Lo ≤ (((Fu.fuse b yy M).K).getD p default).Pos.Lo ∧ (((Fu.fuse b yy M).K).getD p default).Pos.Hi ≤ (yy.Links.getD p default).Pos.Hi)))) (v := .pointer (some (Value.at fv3 (p * 5)))) (fun _ h => h) rfl rfl rfl (fun h => q_indexAddr (gv_pos h) (gv_pos h) kfv3.sl uT34 sz79 (by (try simp [-List.getD_eq_getElem?_getD, -Array.length_toList] at h); omega) (by (try simp [-List.getD_eq_getElem?_getD, -Array.length_toList] at h); omega) rfl) ?_
      refine g1 ?_
      refine DW.g (b := (!(decide ((yy.Links.getD p default).Pos.Lo ≤ (((Fu.fuse b yy M).K).getD p default).Pos.Lo ∧ (((Fu.fuse b yy M).K).getD p default).Pos.Hi ≤ (yy.Links.getD p default).Pos.Hi)))) (v := iV ((((Fu.fuse b yy M).K).getD p default).Target)) (fun _ h => h) rfl rfl rfl (fun h => q_load (gv_pos h) uT3 rfl (Cell.repE (j := 2) kfv3 (by (try simp [-List.getD_eq_getElem?_getD, -Array.length_toList] at h); omega) rfl)) ?_
      refine g3 ?_
      refine DW.g (b := (!(decide ((yy.Links.getD p default).Pos.Lo ≤ (((Fu.fuse b yy M).K).getD p default).Pos.Lo ∧ (((Fu.fuse b yy M).K).getD p default).Pos.Hi ≤ (yy.Links.getD p default).Pos.Hi)))) (v := .pointer (some (Value.at yyv3 (p * 5)))) (fun _ h => h) rfl rfl rfl (fun h => q_indexAddr (gv_pos h) (gv_pos h) yyr3.sl uT34 sz79 (by (try simp [-List.getD_eq_getElem?_getD, -Array.length_toList] at h); omega) (by (try simp [-List.getD_eq_getElem?_getD, -Array.length_toList] at h); omega) rfl) ?_
      refine g1 ?_
      refine DW.g (b := (!(decide ((yy.Links.getD p default).Pos.Lo ≤ (((Fu.fuse b yy M).K).getD p default).Pos.Lo ∧ (((Fu.fuse b yy M).K).getD p default).Pos.Hi ≤ (yy.Links.getD p default).Pos.Hi)))) (v := iV ((yy.Links.getD p default).Target)) (fun _ h => h) rfl rfl rfl (fun h => q_load (gv_pos h) uT3 rfl (Cell.repE (j := 2) yyr3 (by (try simp [-List.getD_eq_getElem?_getD, -Array.length_toList] at h); omega) rfl)) ?_
      refine g1 ?_
      obtain ⟨qb12, hqb12⟩ : ∃ qz : Bool, ((!(decide ((yy.Links.getD p default).Pos.Lo ≤ (((Fu.fuse b yy M).K).getD p default).Pos.Lo ∧ (((Fu.fuse b yy M).K).getD p default).Pos.Hi ≤ (yy.Links.getD p default).Pos.Hi))) || (!decide ((((Fu.fuse b yy M).K).getD p default).Target = (yy.Links.getD p default).Target))) = qz := ⟨_, rfl⟩
      refine DW.q (v := .bool qb12) (fun _ h => h) rfl (q_as (v := .bool ((!(decide ((yy.Links.getD p default).Pos.Lo ≤ (((Fu.fuse b yy M).K).getD p default).Pos.Lo ∧ (((Fu.fuse b yy M).K).getD p default).Pos.Hi ≤ (yy.Links.getD p default).Pos.Hi))) || (!decide ((((Fu.fuse b yy M).K).getD p default).Target = (yy.Links.getD p default).Target)))) (q_pick rfl (fun hp => pkOrT hp) (fun hp => (gv_pos hp).trans (pkOrF hp))) (congrArg Value.bool hqb12)) ?_
      refine g4 ?_
      refine DW.g (b := qb12) (v := .pointer (some (Value.at fv3 (p * 5)))) (fun _ h => h) rfl rfl rfl (fun h => q_indexAddr (gv_pos h) (gv_pos h) kfv3.sl uT34 sz79 (by subst hqb12; (try simp [-List.getD_eq_getElem?_getD, -Array.length_toList] at h); omega) (by subst hqb12; (try simp [-List.getD_eq_getElem?_getD, -Array.length_toList] at h); omega) rfl) ?_
      refine g1 ?_
      refine DW.g (b := qb12) (v := .agg #[iV ((((Fu.fuse b yy M).K).getD p default).Open.Lo), iV ((((Fu.fuse b yy M).K).getD p default).Open.Hi)]) (fun _ h => h) rfl rfl rfl (fun h => q_loadAgg (gv_pos h) uT42 rfl sz42 rfl (Cells.repP (off := 3) kfv3 (by subst hqb12; (try simp [-List.getD_eq_getElem?_getD, -Array.length_toList] at h); omega) (fun j u hu => (by rcases j with _ | (_ | _) <;> first | exact hu | cases hu)))) ?_
      refine g3 ?_
      refine DW.g (b := qb12) (v := .pointer (some (Value.at yyv3 (p * 5)))) (fun _ h => h) rfl rfl rfl (fun h => q_indexAddr (gv_pos h) (gv_pos h) yyr3.sl uT34 sz79 (by subst hqb12; (try simp [-List.getD_eq_getElem?_getD, -Array.length_toList] at h); omega) (by subst hqb12; (try simp [-List.getD_eq_getElem?_getD, -Array.length_toList] at h); omega) rfl) ?_
      refine g1 ?_
      refine DW.g (b := qb12) (v := .agg #[iV ((yy.Links.getD p default).Open.Lo), iV ((yy.Links.getD p default).Open.Hi)]) (fun _ h => h) rfl rfl rfl (fun h => q_loadAgg (gv_pos h) uT42 rfl sz42 rfl (Cells.repP (off := 3) yyr3 (by subst hqb12; (try simp [-List.getD_eq_getElem?_getD, -Array.length_toList] at h); omega) (fun j u hu => (by rcases j with _ | (_ | _) <;> first | exact hu | cases hu)))) ?_
      refine DW.g (b := qb12) (v := .bool (!(decide ((((Fu.fuse b yy M).K).getD p default).Open.Lo = (yy.Links.getD p default).Open.Lo) && decide ((((Fu.fuse b yy M).K).getD p default).Open.Hi = (yy.Links.getD p default).Open.Hi)))) (fun _ h => h) rfl rfl rfl (fun h => q_neqS (gv_pos h) (gv_pos h) (eqS42 _ _ _ _) eqG42) ?_
      obtain ⟨qb13, hqb13⟩ : ∃ qz : Bool, (qb12 || (!(decide ((((Fu.fuse b yy M).K).getD p default).Open.Lo = (yy.Links.getD p default).Open.Lo) && decide ((((Fu.fuse b yy M).K).getD p default).Open.Hi = (yy.Links.getD p default).Open.Hi)))) = qz := ⟨_, rfl⟩
      refine DW.q (v := .bool qb13) (fun _ h => h) rfl (q_as (v := .bool (qb12 || (!(decide ((((Fu.fuse b yy M).K).getD p default).Open.Lo = (yy.Links.getD p default).Open.Lo) && decide ((((Fu.fuse b yy M).K).getD p default).Open.Hi = (yy.Links.getD p default).Open.Hi))))) (q_pick rfl (fun hp => pkOrT hp) (fun hp => (gv_pos hp).trans (pkOrF hp))) (congrArg Value.bool hqb13)) ?_
      subst hqb13 hqb12
      refine g2 ?_
      refine AW.cond rfl (fun hc9 => ?_) fun hc9 => ?_
      ·
       exfalso
       have h9 := htk p (by omega)
       have hq9 := hc9
       rw [h9.2.1, h9.2.2] at hq9
       simp [-List.getD_eq_getElem?_getD] at hq9
       omega
      ·
       refine g8 ?_
       exact Post.back (s' := _) (J' := _) (m' := _) (by omega) ⟨p + 1, rfl, rfl, rfl, (by omega)⟩ ⟨rfl, rfl, rfl, rfl, trivial⟩ (fun _ h => h)
     ·
      simp [-List.getD_eq_getElem?_getD, -Array.length_toList] at hc8
      refine g12 ?_
      exact fin_val (v' := .bool true) rfl rfl rfl (rfl)
end Go.Proofs.Ytblfeidlnhdekaa
