/- Lemmas. Conditions: those of each theorem. -/
import Derived.Test.YtblfeidlnhdekaaGreatSFsB
set_option maxRecDepth 8000
set_option maxHeartbeats 16000000
namespace Go.Proofs.YtblfeidlnhdekaaGreat
open Go Go.K Go.RowKit
attribute [local irreducible] AW RW DW Post Qt
theorem FuseSends_c (w : World) (Φ : Hp) (hΦ : Hp.le Φ (hp w)) {b : Bt.Basin} {cs : List Value} (hB : RepV Φ b cs) {z : Bt.State} {zcs : List Value} (tH : RepV Φ z zcs) {yy : Bt.Hull} {yycs : List Value} (yyH : RepV Φ yy yycs) {l : List Bt.Look} {lv : Value} (hl : RepSl Φ l lv) {tw : Int} (_ : I64 tw) :
  Calls pg 3 #[.agg cs.toArray, .agg zcs.toArray, .agg yycs.toArray, lv, iV tw] w fun e w' => e = .returned (.bool true) ∧ Bel w.heap.size w w' := by
 obtain ⟨v1, v3, v4, v5, v6, v7, v8, v9, hcs, hBw, r1, r3, r4, r5, r6, r7, r8, r9⟩ := (show Rep.rep Φ b cs from hB)
 subst hcs
 have hpm : b.Places.length * 152 ≤ 140737488355328 := r3.max
 obtain ⟨tv1, tv2, tv3, tv4, tv5, tv6, hzcs, hzw, tr1, tr2, tr3, tr4, tr5, tr6⟩ := (show Rep.rep Φ z zcs from tH)
 subst hzcs
 have ztm : z.Own.length * 24 ≤ 140737488355328 := tr1.max
 have zqm : z.Queue.length * 40 ≤ 140737488355328 := tr3.max
 have zgm : z.Gates.length * 24 ≤ 140737488355328 := tr4.max
 obtain ⟨yyv1, yyv2, yyv3, yyhcs, yyhw, yyr1, yyr2, yyr3⟩ := (show Rep.rep Φ yy yycs from yyH)
 subst yyhcs
 have yym1 : yy.Vol.length * 16 ≤ 140737488355328 := yyr1.max
 have yym2 : yy.Queue.length * 32 ≤ 140737488355328 := yyr2.max
 have yym3 : yy.Links.length * 40 ≤ 140737488355328 := yyr3.max
 refine in5 240 Tryz.func3 rfl rfl hΦ ?_
 have hnl : b.Name.data.toList.length ≤ 9223372036854775807 := hBw.1
 have hom : b.Owners.length * 16 ≤ 140737488355328 := r1.max
 have hlm : b.Links.length * 200 ≤ 140737488355328 := r4.max
 have htm : b.Towns.length * 64 ≤ 140737488355328 := r5.max
 have hgm_ : b.Gauges.length * 48 ≤ 140737488355328 := r6.max
 have hrm : b.Roads.length * 64 ≤ 140737488355328 := r7.max
 have hsm : b.Shelters.length * 24 ≤ 140737488355328 := r8.max
 have hom2 : b.Room.length * 8 ≤ 140737488355328 := r9.max
 have hlm : l.length * 24 ≤ 140737488355328 := hl.max
 refine gs2 ?_
 refine RW.bxA rfl rfl fun b1 => ?_
 refine RW.bxA rfl rfl fun b2 => ?_
 refine RW.bxA rfl rfl fun b3 => ?_
 refine gs5 ?_
 refine RW.c rfl (fun w1 hw1 => small_c w1 (Go.K.hp w1) (Hp.le_refl _)) rfl rfl ?_
 refine gs13 ?_
 refine RW.gc rfl rfl rfl (fun w1 hw1 => light_c w1 (Go.K.hp w1) (Hp.le_refl _) (hB.mono hw1.phi) (tH.mono hw1.phi) (yyH.mono hw1.phi)) rfl (fun h => args3 (gv_pos h) (gv_pos h) (gv_pos h)) ?_
 refine gs1 ?_
 obtain ⟨qb1, hqb1⟩ : ∃ qz : Bool, ((decide ((40 : Int) < (l.length : Int))) || (!(lightB b z yy))) = qz := ⟨_, rfl⟩
 refine RW.q (v := .bool qb1) rfl (q_as (v := .bool ((decide ((40 : Int) < (l.length : Int))) || (!(lightB b z yy)))) (qpO rfl rfl rfl) (congrArg Value.bool hqb1)) ?_
 refine gs4 ?_
 obtain ⟨qb2, hqb2⟩ : ∃ qz : Bool, (qb1 || (decide ((16777216 : Int) ≤ z.Hour))) = qz := ⟨_, rfl⟩
 refine RW.q (v := .bool qb2) rfl (q_as (v := .bool (qb1 || (decide ((16777216 : Int) ≤ z.Hour)))) (qpO rfl rfl rfl) (congrArg Value.bool hqb2)) ?_
 subst hqb2 hqb1
 refine gs2 ?_
 refine AW.cond rfl (fun hc1 => ?_) fun hc1 => ?_
 ·
  simp [-List.getD_eq_getElem?_getD, -Array.length_toList] at hc1
  refine gs8 ?_
  exact fin_val (v' := .bool true) rfl rfl rfl (rfl)
 ·
  simp [-List.getD_eq_getElem?_getD, -Array.length_toList] at hc1
  refine gs3 ?_
  have hL := light_f hc1.1.2
  have hSF := light_send hc1.1.2 (by omega)
  have hl40 := hc1.1.1
  have hz0 := hSF.h0
  have hz1 := hSF.h1
  obtain ⟨hf1, hf2, hf3, hf4, hf5, hf6⟩ := hL.few
  refine gs11 ?_
  refine AW.loop (fun s J m => ∃ (k : Nat), ∃ (G : List Bt.Gram), ∃ (gv : Value), s = [(3, lv), (4, iV tw), (5, pV b1 0), (6, pV b2 0), (7, pV b3 0), (11, .bool true), (12, gv), (13, iV (k : Int))] ∧ J = St ⟨w, Φ, []⟩ Φ [.row gv 57 5 G.length (flat G), .blk b3 41 [iV yy.Hour, yyv1, yyv2, yyv3], .blk b2 36 (cl36 z tv1 tv2 tv3 tv4 tv5 tv6), .blk b1 31 (cl31 b v1 v3 v4 v5 v6 v7 v8 v9)] ∧ m = l.length - k ∧ (k ≤ l.length) ∧ (G = sdTo b z l k) ∧ (IsSl gv G.length) ∧ (G.length ≤ k)) (s0 := _) (J1 := _) (m0 := _) ⟨0, [], _, rfl, rfl, rfl, (by omega), rfl, isSl_nil, (by simp)⟩ ⟨rfl, rfl, rfl, rfl, rfl, rfl, rfl, rfl, trivial⟩ (fun _ h => addNil h) ?_
  rintro _ _ _ _ ⟨k, G, gv, rfl, rfl, rfl, hk, hG, hgv, hGl⟩
  refine gs9 ?_
  refine AW.cond rfl (fun hc2 => ?_) fun hc2 => ?_
  ·
   simp [-List.getD_eq_getElem?_getD, -Array.length_toList] at hc2
   refine gs9 ?_
   refine RW.q (v := .agg #[iV ((l.getD k default).Gauge), iV ((l.getD k default).Less), iV ((l.getD k default).More)]) rfl (q_loadAgg rfl uT47 rfl sz47 rfl (Cells.repE hl (by omega) rfl)) ?_
   refine RW.alc rfl fun b4 => ?_
   refine gs16 ?_
   obtain ⟨qb3, hqb3⟩ : ∃ qz : Bool, ((decide ((l.getD k default).Gauge < 0)) || (decide ((b.Gauges.length : Int) ≤ (l.getD k default).Gauge))) = qz := ⟨_, rfl⟩
   refine RW.q (v := .bool qb3) rfl (q_as (v := .bool ((decide ((l.getD k default).Gauge < 0)) || (decide ((b.Gauges.length : Int) ≤ (l.getD k default).Gauge)))) (qpO rfl rfl rfl) (congrArg Value.bool hqb3)) ?_
   subst hqb3
   refine gs2 ?_
   refine AW.cond rfl (fun hc3 => ?_) fun hc3 => ?_
   ·
    simp [-List.getD_eq_getElem?_getD, -Array.length_toList] at hc3
    refine gs9 ?_
    exact Post.bk ⟨k + 1, G, gv, rfl, rfl, rfl, (by omega), (by rw [sd_no (fun h9 => by unfold SdOk at h9; omega)]; exact hG), hgv, (by omega)⟩
   ·
    simp [-List.getD_eq_getElem?_getD, -Array.length_toList] at hc3
    refine gs8 ?_
    refine RW.q rfl (qa_ixZ rfl rfl r6.sl (by omega) (by omega)) (RW.q (v := .agg (cl49 (b.Gauges.getD (((l.getD k default).Gauge).toNat) default)).toArray) rfl (q_loadAgg rfl uT49 rfl sz49 rfl (Cells.repE r6 (by omega) rfl)) ?_)
    refine RW.alc rfl fun b5 => ?_
    refine gs4 ?_
    have ht0 : (b.Gauges.getD (l.getD k default).Gauge.toNat default).Kind = 0 → 0 ≤ (b.Gauges.getD (l.getD k default).Gauge.toNat default).Target ∧ (b.Gauges.getD (l.getD k default).Gauge.toNat default).Target < (b.Places.length : Int) ∧ (b.Gauges.getD (l.getD k default).Gauge.toNat default).Target < (z.Own.length : Int) := fun h9 => by have h8 := hL.g0 (l.getD k default).Gauge.toNat (by omega) h9; have h7 := hL.ol; omega
    have ht2 : (b.Gauges.getD (l.getD k default).Gauge.toNat default).Kind = 2 → 0 ≤ (b.Gauges.getD (l.getD k default).Gauge.toNat default).Target ∧ (b.Gauges.getD (l.getD k default).Gauge.toNat default).Target < (z.Gates.length : Int) ∧ 0 ≤ (z.Gates.getD (b.Gauges.getD (l.getD k default).Gauge.toNat default).Target.toNat default).Pos ∧ (z.Gates.getD (b.Gauges.getD (l.getD k default).Gauge.toNat default).Target.toNat default).Pos ≤ 1099511627776 := fun h9 => by have h8 := hL.g2 (l.getD k default).Gauge.toNat (by omega) h9; have h7 := hL.gl; have h6 := hL.pos (b.Gauges.getD (l.getD k default).Gauge.toNat default).Target.toNat (by omega); unfold posZ at h6; omega
    have hgl := hSF.lim (l.getD k default).Gauge.toNat (by omega)
    refine gs5 ?_
    refine RW.c rfl (fun w1 hw1 => truth_c w1 (Go.K.hp w1) (Hp.le_refl _) (hB.mono hw1.phi) (tH.mono hw1.phi) (q := (l.getD k default).Gauge) (u := 0) (v := 0) (by assumption) (by assumption) (by assumption) (by omega) (by omega)) rfl rfl (RW.q rfl (q_move rfl) ?_)
    refine gs2 ?_
    refine RW.alc rfl fun b6 => ?_
    refine gs13 ?_
    obtain ⟨qb4, hqb4⟩ : ∃ qz : Bool, ((!(trK b ((l.getD k default).Gauge))) || (decide ((29 : Int) < (b.Gauges.getD (((l.getD k default).Gauge).toNat) default).Drift))) = qz := ⟨_, rfl⟩
    refine RW.q (v := .bool qb4) rfl (q_as (v := .bool ((!(trK b ((l.getD k default).Gauge))) || (decide ((29 : Int) < (b.Gauges.getD (((l.getD k default).Gauge).toNat) default).Drift)))) (qpO rfl rfl rfl) (congrArg Value.bool hqb4)) ?_
    subst hqb4
    refine gs2 ?_
    refine AW.cond rfl (fun hc4 => ?_) fun hc4 => ?_
    ·
     simp [-List.getD_eq_getElem?_getD, -Array.length_toList] at hc4
     refine gs9 ?_
     exact Post.bk ⟨k + 1, G, gv, rfl, rfl, rfl, (by omega), (by rw [sd_no (fun h9 => by rcases hc4 with h8 | h8; exact Bool.noConfusion (h8.symm.trans h9.2.1); have h7 := h9.2.2.1; unfold gQ at h7; omega)]; exact hG), hgv, (by omega)⟩
    ·
     simp [-List.getD_eq_getElem?_getD, -Array.length_toList] at hc4
     refine gs3 ?_
     have hnr := hL.trN_rng hc3 hc4.1
     have hte := truR_lo (z := z) hc4.1
     refine gs3 ?_
     refine RW.q (v := iV (-((b.Gauges.getD (((l.getD k default).Gauge).toNat) default).Err))) rfl (q_neg rfl rfl (by unfold I64; omega)) ?_
     refine gs13 ?_
     refine RW.q (v := iV (-((b.Gauges.getD (((l.getD k default).Gauge).toNat) default).Drift))) rfl (q_neg rfl rfl (by unfold I64; omega)) ?_
     refine gs13 ?_
     refine RW.q (v := iV (trN b z (l.getD k default).Gauge)) rfl (q_as (v := iV ((truR b z ((l.getD k default).Gauge) 0 0).Value.Lo)) (q_load rfl uT3 rfl (Cell.blk 0 rfl rfl)) (congrArg (Value.int .i64) (hte))) ?_
     refine gs13 ?_
     obtain ⟨qb5, hqb5⟩ : ∃ qz : Bool, ((decide ((1099511627776 : Int) < (trN b z (l.getD k default).Gauge) + (max (-((b.Gauges.getD (((l.getD k default).Gauge).toNat) default).Err)) (min ((b.Gauges.getD (((l.getD k default).Gauge).toNat) default).Err) ((l.getD k default).Less))))) || (decide ((trN b z (l.getD k default).Gauge) + (max (-((b.Gauges.getD (((l.getD k default).Gauge).toNat) default).Err)) (min ((b.Gauges.getD (((l.getD k default).Gauge).toNat) default).Err) ((l.getD k default).Less))) < (-1099511627776)))) = qz := ⟨_, rfl⟩
     refine RW.q (v := .bool qb5) rfl (q_as (v := .bool ((decide ((1099511627776 : Int) < (trN b z (l.getD k default).Gauge) + (max (-((b.Gauges.getD (((l.getD k default).Gauge).toNat) default).Err)) (min ((b.Gauges.getD (((l.getD k default).Gauge).toNat) default).Err) ((l.getD k default).Less))))) || (decide ((trN b z (l.getD k default).Gauge) + (max (-((b.Gauges.getD (((l.getD k default).Gauge).toNat) default).Err)) (min ((b.Gauges.getD (((l.getD k default).Gauge).toNat) default).Err) ((l.getD k default).Less))) < (-1099511627776))))) (qpO rfl rfl rfl) (congrArg Value.bool hqb5)) ?_
     subst hqb5
     refine gs2 ?_
     refine AW.cond rfl (fun hc5 => ?_) fun hc5 => ?_
     ·
      simp [-List.getD_eq_getElem?_getD, -Array.length_toList] at hc5
      refine gs9 ?_
      exact Post.bk ⟨k + 1, G, gv, rfl, rfl, rfl, (by omega), (by rw [sd_no (fun h9 => by have h7 := h9.2.2.2; unfold offQ gQ at h7; omega)]; exact hG), hgv, (by omega)⟩
     ·
      simp [-List.getD_eq_getElem?_getD, -Array.length_toList] at hc5
      refine gs9 ?_
      refine RW.q (v := iV (60 * z.Hour)) rfl (q_mul rfl rfl rfl (by unfold I64; omega)) ?_
      refine gs4 ?_
      refine RW.q (v := .agg #[iV ((l.getD k default).Gauge), iV (k : Int), iV (((60 * z.Hour) + 30) + (max (-((b.Gauges.getD (((l.getD k default).Gauge).toNat) default).Drift)) (min ((b.Gauges.getD (((l.getD k default).Gauge).toNat) default).Drift) ((l.getD k default).More)))), iV ((trN b z (l.getD k default).Gauge) + (max (-((b.Gauges.getD (((l.getD k default).Gauge).toNat) default).Err)) (min ((b.Gauges.getD (((l.getD k default).Gauge).toNat) default).Err) ((l.getD k default).Less)))), .string (bs ([49, 50, 51, 52, 53, 54, 55, 56] : List UInt8))]) rfl (q_build (vals := [(0, iV ((l.getD k default).Gauge)), (1, iV (k : Int)), (2, iV (((60 * z.Hour) + 30) + (max (-((b.Gauges.getD (((l.getD k default).Gauge).toNat) default).Drift)) (min ((b.Gauges.getD (((l.getD k default).Gauge).toNat) default).Drift) ((l.getD k default).More))))), (3, iV ((trN b z (l.getD k default).Gauge) + (max (-((b.Gauges.getD (((l.getD k default).Gauge).toNat) default).Err)) (min ((b.Gauges.getD (((l.getD k default).Gauge).toNat) default).Err) ((l.getD k default).Less))))), (4, .string (bs ([49, 50, 51, 52, 53, 54, 55, 56] : List UInt8)))]) zero57 uT57 places57 rfl rfl) (RW.eff (fun b7 : Nat => (.slice (some ⟨b7, 0, none⟩) 1 1)) (fun b7 => St ⟨w, Φ, []⟩ Φ [.row (.slice (some ⟨b7, 0, none⟩) 1 1) 57 5 1 ([iV ((l.getD k default).Gauge), iV (k : Int), iV (((60 * z.Hour) + 30) + (max (-((b.Gauges.getD (((l.getD k default).Gauge).toNat) default).Drift)) (min ((b.Gauges.getD (((l.getD k default).Gauge).toNat) default).Drift) ((l.getD k default).More)))), iV ((trN b z (l.getD k default).Gauge) + (max (-((b.Gauges.getD (((l.getD k default).Gauge).toNat) default).Err)) (min ((b.Gauges.getD (((l.getD k default).Gauge).toNat) default).Err) ((l.getD k default).Less)))), .string (bs ([49, 50, 51, 52, 53, 54, 55, 56] : List UInt8))]), .blk b6 53 [iV ((truR b z ((l.getD k default).Gauge) 0 0).Gauge), iV ((truR b z ((l.getD k default).Gauge) 0 0).Hour), iV ((truR b z ((l.getD k default).Gauge) 0 0).Value.Lo), iV ((truR b z ((l.getD k default).Gauge) 0 0).Value.Hi)], .blk b5 49 (cl49 (b.Gauges.getD (((l.getD k default).Gauge).toNat) default)), .blk b4 47 [iV ((l.getD k default).Gauge), iV ((l.getD k default).Less), iV ((l.getD k default).More)], .row gv 57 5 G.length (flat G), .blk b3 41 [iV yy.Hour, yyv1, yyv2, yyv3], .blk b2 36 (cl36 z tv1 tv2 tv3 tv4 tv5 tv6), .blk b1 31 (cl31 b v1 v3 v4 v5 v6 v7 v8 v9)]) rfl (e_buildSlice (vals := [(0, .agg #[iV ((l.getD k default).Gauge), iV (k : Int), iV (((60 * z.Hour) + 30) + (max (-((b.Gauges.getD (((l.getD k default).Gauge).toNat) default).Drift)) (min ((b.Gauges.getD (((l.getD k default).Gauge).toNat) default).Drift) ((l.getD k default).More)))), iV ((trN b z (l.getD k default).Gauge) + (max (-((b.Gauges.getD (((l.getD k default).Gauge).toNat) default).Err)) (min ((b.Gauges.getD (((l.getD k default).Gauge).toNat) default).Err) ((l.getD k default).Less)))), .string (bs ([49, 50, 51, 52, 53, 54, 55, 56] : List UInt8))])]) (cells := [iV ((l.getD k default).Gauge), iV (k : Int), iV (((60 * z.Hour) + 30) + (max (-((b.Gauges.getD (((l.getD k default).Gauge).toNat) default).Drift)) (min ((b.Gauges.getD (((l.getD k default).Gauge).toNat) default).Drift) ((l.getD k default).More)))), iV ((trN b z (l.getD k default).Gauge) + (max (-((b.Gauges.getD (((l.getD k default).Gauge).toNat) default).Err)) (min ((b.Gauges.getD (((l.getD k default).Gauge).toNat) default).Err) ((l.getD k default).Less)))), .string (bs ([49, 50, 51, 52, 53, 54, 55, 56] : List UInt8))]) uT45 inf57 rfl rfl rfl (by kernel_rfl) rfl) ?_)
      intro b7
      refine RW.eff (fun xv : {vq : Value // IsSl vq (G.length + 1)} => xv.1) (fun xv => St ⟨w, Φ, []⟩ Φ [.row (.slice (some ⟨b7, 0, none⟩) 1 1) 57 5 1 ([iV ((l.getD k default).Gauge), iV (k : Int), iV (((60 * z.Hour) + 30) + (max (-((b.Gauges.getD (((l.getD k default).Gauge).toNat) default).Drift)) (min ((b.Gauges.getD (((l.getD k default).Gauge).toNat) default).Drift) ((l.getD k default).More)))), iV ((trN b z (l.getD k default).Gauge) + (max (-((b.Gauges.getD (((l.getD k default).Gauge).toNat) default).Err)) (min ((b.Gauges.getD (((l.getD k default).Gauge).toNat) default).Err) ((l.getD k default).Less)))), .string (bs ([49, 50, 51, 52, 53, 54, 55, 56] : List UInt8))]), .blk b6 53 [iV ((truR b z ((l.getD k default).Gauge) 0 0).Gauge), iV ((truR b z ((l.getD k default).Gauge) 0 0).Hour), iV ((truR b z ((l.getD k default).Gauge) 0 0).Value.Lo), iV ((truR b z ((l.getD k default).Gauge) 0 0).Value.Hi)], .blk b5 49 (cl49 (b.Gauges.getD (((l.getD k default).Gauge).toNat) default)), .blk b4 47 [iV ((l.getD k default).Gauge), iV ((l.getD k default).Less), iV ((l.getD k default).More)], .row xv.1 57 5 (G.length + 1) ((flat G) ++ [iV ((l.getD k default).Gauge), iV (k : Int), iV (((60 * z.Hour) + 30) + (max (-((b.Gauges.getD (((l.getD k default).Gauge).toNat) default).Drift)) (min ((b.Gauges.getD (((l.getD k default).Gauge).toNat) default).Drift) ((l.getD k default).More)))), iV ((trN b z (l.getD k default).Gauge) + (max (-((b.Gauges.getD (((l.getD k default).Gauge).toNat) default).Err)) (min ((b.Gauges.getD (((l.getD k default).Gauge).toNat) default).Err) ((l.getD k default).Less)))), .string (bs ([49, 50, 51, 52, 53, 54, 55, 56] : List UInt8))]), .blk b3 41 [iV yy.Hour, yyv1, yyv2, yyv3], .blk b2 36 (cl36 z tv1 tv2 tv3 tv4 tv5 tv6), .blk b1 31 (cl31 b v1 v3 v4 v5 v6 v7 v8 v9)]) rfl (e_append 4 rfl rfl rfl uT45 inf57 rfl rfl rfl (Cells.row0 0 rfl) rfl (by omega) (by omega) (fun _ => rfl)) ?_
      rintro ⟨va1, hva1⟩
      refine RW.wk (J' := St ⟨w, Φ, []⟩ Φ [.blk b6 53 [iV ((truR b z ((l.getD k default).Gauge) 0 0).Gauge), iV ((truR b z ((l.getD k default).Gauge) 0 0).Hour), iV ((truR b z ((l.getD k default).Gauge) 0 0).Value.Lo), iV ((truR b z ((l.getD k default).Gauge) 0 0).Value.Hi)], .blk b5 49 (cl49 (b.Gauges.getD (((l.getD k default).Gauge).toNat) default)), .blk b4 47 [iV ((l.getD k default).Gauge), iV ((l.getD k default).Less), iV ((l.getD k default).More)], .row va1 57 5 (G.length + 1) ((flat G) ++ [iV ((l.getD k default).Gauge), iV (k : Int), iV (((60 * z.Hour) + 30) + (max (-((b.Gauges.getD (((l.getD k default).Gauge).toNat) default).Drift)) (min ((b.Gauges.getD (((l.getD k default).Gauge).toNat) default).Drift) ((l.getD k default).More)))), iV ((trN b z (l.getD k default).Gauge) + (max (-((b.Gauges.getD (((l.getD k default).Gauge).toNat) default).Err)) (min ((b.Gauges.getD (((l.getD k default).Gauge).toNat) default).Err) ((l.getD k default).Less)))), .string (bs ([49, 50, 51, 52, 53, 54, 55, 56] : List UInt8))]), .blk b3 41 [iV yy.Hour, yyv1, yyv2, yyv3], .blk b2 36 (cl36 z tv1 tv2 tv3 tv4 tv5 tv6), .blk b1 31 (cl31 b v1 v3 v4 v5 v6 v7 v8 v9)]) (fun _ h => StP.drop h (by exact .cons _ (.cons_cons _ (.cons_cons _ (.cons_cons _ (.cons_cons _ (.cons_cons _ (.cons_cons _ (.cons_cons _ (.slnil)))))))))) ?_
      refine gs9 ?_
      have hsd : SdOk b z (l.getD k default) := ⟨hc3, hc4.1, hc4.2, by unfold offQ gQ; omega, by unfold offQ gQ; omega⟩
      exact Post.back (s' := _) (J' := _) (m' := _) (by omega) ⟨k + 1, G ++ [sdG b z (l.getD k default) (k : Int)], va1, rfl, rfl, rfl, (by omega), (by rw [sd_yes hsd, ← hG]), (by simpa using hva1), (by simp; omega)⟩ ⟨rfl, rfl, rfl, rfl, rfl, rfl, rfl, rfl, trivial⟩ (fun _ h => by rw [List.length_append, show flat (G ++ [sdG b z (l.getD k default) (k : Int)]) = flat G ++ RepE.cells (sdG b z (l.getD k default) (k : Int)) by simp [flat]]; exact StP.drop h (by exact .cons _ (.cons _ (.cons _ (.cons_cons _ (.cons_cons _ (.cons_cons _ (.cons_cons _ (.slnil)))))))))
  ·
   simp [-List.getD_eq_getElem?_getD, -Array.length_toList] at hc2
   refine gs6 ?_
   have hGe : G = sdTo b z l l.length := by rw [hG, show k = l.length by omega]
   have hGw : ∀ x ∈ G, RepE.wf x := fun x hx => sd_wf hSF (n := l.length) (by omega) (hGe ▸ hx)
   refine AW.frz (fun Φ1 hlΦ1 hshkg => ?_)
   replace hB := hB.mono hlΦ1
   replace tH := tH.mono hlΦ1
   replace yyH := yyH.mono hlΦ1
   replace yyr1 := yyr1.mono hlΦ1
   replace yyr2 := yyr2.mono hlΦ1
   replace yyr3 := yyr3.mono hlΦ1
   have hkg : RepSl Φ1 G gv := RowS.repE even57 hshkg rfl (by simp only [maxSl]; show G.length * 48 ≤ _; omega) hGw
   refine gs8 ?_
   refine RW.eff (fun x : {y : Value × Hp // (fun r Ψ => ∃ R, RepSl Ψ R r ∧ Se.Rds b G z.Hour (z.Hour + 1) R) y.1 y.2 ∧ Hp.le Φ1 y.2} => x.1.1) (fun x => St ⟨w, Φ, []⟩ x.1.2 [.blk b3 41 [iV yy.Hour, yyv1, yyv2, yyv3], .blk b2 36 (cl36 z tv1 tv2 tv3 tv4 tv5 tv6), .blk b1 31 (cl31 b v1 v3 v4 v5 v6 v7 v8 v9)]) rfl (e_callS (T := fun r Ψ => ∃ R, RepSl Ψ R r ∧ Se.Rds b G z.Hour (z.Hour + 1) R) (args := #[.agg (cl31 b v1 v3 v4 v5 v6 v7 v8 v9).toArray, gv, iV z.Hour, iV (z.Hour + 1)]) oK rfl rfl (fun w1 hw1 => (Sr.Readings_c w1 (Go.K.hp w1) (Hp.le_refl _) (hB.mono hw1.phi) (hkg.mono hw1.phi) (by omega) (u := z.Hour) (v := z.Hour + 1) (by unfold I64; omega) (by unfold I64; omega)).mono fun _ _ => retS_up (fun _ _ _ hl ⟨R, h1, h2⟩ => ⟨R, h1.mono hl, h2⟩))) ?_
   rintro ⟨⟨lv1, Φ2⟩, hlv1, hlΦ2⟩
   replace hlv1 : ∃ R, RepSl Φ2 R lv1 ∧ Se.Rds b G z.Hour (z.Hour + 1) R := hlv1
   replace hlΦ2 : Hp.le Φ1 Φ2 := hlΦ2
   replace hB := hB.mono hlΦ2
   replace tH := tH.mono hlΦ2
   replace yyH := yyH.mono hlΦ2
   replace yyr1 := yyr1.mono hlΦ2
   replace yyr2 := yyr2.mono hlΦ2
   replace yyr3 := yyr3.mono hlΦ2
   replace hkg := hkg.mono hlΦ2
   obtain ⟨R1, hlv1, hR1⟩ := hlv1
   have hR1l := hR1.len
   refine gs4 ?_
   have hRl : R1.length ≤ G.length := hR1.len
   refine gs4 ?_
   refine RW.eff (fun x : {z : (Value × Value × Value × Value) × Hp // (fun (y : Value × Value × Value × Value) (Ψ : Hp) => (RepSl Ψ (Fu.fuse b yy R1).V y.1) ∧ (RepSl Ψ yy.Queue y.2.1) ∧ (RepSl Ψ (Fu.fuse b yy R1).K y.2.2.1) ∧ (RepSl Ψ (Fu.comp (Fu.fuse b yy R1).N) y.2.2.2) ∧ (RepV Ψ (Fu.hullOf yy (Fu.fuse b yy R1)) [iV yy.Hour, y.1, y.2.1, y.2.2.1])) z.1 z.2 ∧ Hp.le Φ2 z.2} => .tuple #[.agg #[iV yy.Hour, x.1.1.1, x.1.1.2.1, x.1.1.2.2.1], x.1.1.2.2.2]) (fun x => St ⟨w, Φ, []⟩ x.1.2 [.blk b3 41 [iV yy.Hour, yyv1, yyv2, yyv3], .blk b2 36 (cl36 z tv1 tv2 tv3 tv4 tv5 tv6), .blk b1 31 (cl31 b v1 v3 v4 v5 v6 v7 v8 v9)]) rfl (e_callX (fun (y : Value × Value × Value × Value) => .tuple #[.agg #[iV yy.Hour, y.1, y.2.1, y.2.2.1], y.2.2.2]) (fun (y : Value × Value × Value × Value) (Ψ : Hp) => (RepSl Ψ (Fu.fuse b yy R1).V y.1) ∧ (RepSl Ψ yy.Queue y.2.1) ∧ (RepSl Ψ (Fu.fuse b yy R1).K y.2.2.1) ∧ (RepSl Ψ (Fu.comp (Fu.fuse b yy R1).N) y.2.2.2) ∧ (RepV Ψ (Fu.hullOf yy (Fu.fuse b yy R1)) [iV yy.Hour, y.1, y.2.1, y.2.2.1])) (args := #[.agg (cl31 b v1 v3 v4 v5 v6 v7 v8 v9).toArray, .agg #[iV yy.Hour, yyv1, yyv2, yyv3], lv1]) oK rfl rfl (fun w1 hw1 => ((((Fuse_c w1 (Go.K.hp w1) (Hp.le_refl _) (hB.mono hw1.phi) (yyH.mono hw1.phi) (hlv1.mono hw1.phi) (by omega) (by omega) (by omega) (by omega)).mono fun _ _ => retS_up (fun _ _ _ hl ⟨a, b, c, d, e, h1, h2, h3, h4⟩ => ⟨a, b, c, d, e, h1.mono hl, h2.mono hl, h3.mono hl, h4.mono hl⟩))).mono fun e w2 hr => by obtain ⟨v9, he9, hb9, u1, u2, u3, u4, hr9, q1, q2, q3, q4⟩ := hr; exact (show RetS _ _ (fun r Ψ => ∃ u1 u2 u3 u4 : Value, r = .tuple #[.agg #[iV yy.Hour, u1, u2, u3], u4] ∧ RepSl Ψ (Fu.fuse b yy R1).V u1 ∧ RepSl Ψ yy.Queue u2 ∧ RepSl Ψ (Fu.fuse b yy R1).K u3 ∧ RepSl Ψ (Fu.comp (Fu.fuse b yy R1).N) u4 ∧ RepV Ψ (Fu.hullOf yy (Fu.fuse b yy R1)) [iV yy.Hour, u1, u2, u3]) _ _ from ⟨v9, he9, hb9, u1, u2, u3, u4, hr9, q1, q2, q3, q4, ⟨_, _, _, rfl, (show I64 yy.Hour from hourOf yyH), q1, q2, q3⟩⟩)).mono fun e w2 hr => by obtain ⟨v9, he9, hb9, u1, u2, u3, u4, hr9, q1, q2, q3, q4, q5⟩ := hr; exact ⟨v9, he9, hb9, (u1, u2, u3, u4), hr9, q1, q2, q3, q4, q5⟩)) ?_
   rintro ⟨⟨⟨fv1, fv2, fv3, fv4⟩, Φ3⟩, ⟨kfv1, kfv2, kfv3, kfv4, Hfv1⟩, hlΦ3⟩
   replace kfv1 : RepSl Φ3 (Fu.fuse b yy R1).V fv1 := kfv1
   replace kfv2 : RepSl Φ3 yy.Queue fv2 := kfv2
   replace kfv3 : RepSl Φ3 (Fu.fuse b yy R1).K fv3 := kfv3
   replace kfv4 : RepSl Φ3 (Fu.comp (Fu.fuse b yy R1).N) fv4 := kfv4
   replace Hfv1 : RepV Φ3 (Fu.hullOf yy (Fu.fuse b yy R1)) [iV yy.Hour, fv1, fv2, fv3] := Hfv1
   replace hlΦ3 : Hp.le Φ2 Φ3 := hlΦ3
   replace hB := hB.mono hlΦ3
   replace tH := tH.mono hlΦ3
   replace yyH := yyH.mono hlΦ3
   replace yyr1 := yyr1.mono hlΦ3
   replace yyr2 := yyr2.mono hlΦ3
   replace yyr3 := yyr3.mono hlΦ3
   replace hkg := hkg.mono hlΦ3
   replace hlv1 := hlv1.mono hlΦ3
   refine RW.q rfl (q_move rfl) ?_
   refine gs2 ?_
   refine RW.alc rfl fun b8 => ?_
   refine RW.effn (J' := St ⟨w, Φ, []⟩ Φ3 [.blk b8 41 [iV yy.Hour, fv1, fv2, fv3], .blk b3 41 [iV yy.Hour, yyv1, yyv2, yyv3], .blk b2 36 (cl36 z tv1 tv2 tv3 tv4 tv5 tv6), .blk b1 31 (cl31 b v1 v3 v4 v5 v6 v7 v8 v9)]) (e_store (v := .agg #[iV yy.Hour, fv1, fv2, fv3]) 0 rfl rfl rfl sz41 rfl (by show List.all [_, fv1, fv2, fv3] _ = true; simp only [List.all_cons, List.all_nil, oneCell_sl kfv1.sl, oneCell_sl kfv2.sl, oneCell_sl kfv3.sl]; rfl) rfl rfl rfl) ?_
   refine gs5 ?_
   obtain ⟨hv1, hk1, hiV, hiK, hn1, _, _, _, _, _, htk⟩ := Fu.fuse_true (b := b) (h := yy) (l := R1) hL.inV hL.inK (sd_rds hL hSF (n := l.length) (by omega) (hGe ▸ hR1))
   have hhas : hasB b (Fu.hullOf yy (Fu.fuse b yy R1)) z = true := has_keep hL hv1 hk1 hiV hiK (fun p hp => (htk p hp).2.2)
   refine gs8 ?_
   refine RW.gc rfl rfl rfl (fun w1 hw1 => hHas_c w1 (Go.K.hp w1) (Hp.le_refl _) (hB.mono hw1.phi) (Hfv1.mono hw1.phi) (tH.mono hw1.phi)) rfl (fun h => args3 (gv_pos h) (gv_pos h) (gv_pos h)) ?_
   refine gs1 ?_
   obtain ⟨qb6, hqb6⟩ : ∃ qz : Bool, ((decide ((0 : Int) < (((Fu.comp (Fu.fuse b yy R1).N).length : Nat) : Int))) || (!(hasB b (Fu.hullOf yy (Fu.fuse b yy R1)) z))) = qz := ⟨_, rfl⟩
   refine RW.q (v := .bool qb6) rfl (q_as (v := .bool ((decide ((0 : Int) < (((Fu.comp (Fu.fuse b yy R1).N).length : Nat) : Int))) || (!(hasB b (Fu.hullOf yy (Fu.fuse b yy R1)) z)))) (qpO rfl rfl rfl) (congrArg Value.bool hqb6)) ?_
   subst hqb6
   refine gs2 ?_
   refine AW.cond rfl (fun hc6 => ?_) fun hc6 => ?_
   ·
    exfalso
    have hq9 := hc6
    simp [hn1, hhas] at hq9
   ·
    refine gs12 ?_
    obtain ⟨qb7, hqb7⟩ : ∃ qz : Bool, ((decide (tw < 0)) || (decide ((G.length : Int) ≤ tw))) = qz := ⟨_, rfl⟩
    refine RW.q (v := .bool qb7) rfl (q_as (v := .bool ((decide (tw < 0)) || (decide ((G.length : Int) ≤ tw)))) (qpO rfl rfl rfl) (congrArg Value.bool hqb7)) ?_
    subst hqb7
    refine gs2 ?_
    refine AW.cond rfl (fun hc7 => ?_) fun hc7 => ?_
    ·
     simp [-List.getD_eq_getElem?_getD, -Array.length_toList] at hc7
     refine gs8 ?_
     exact fin_val (v' := .bool true) rfl rfl rfl (rfl)
    ·
     simp [-List.getD_eq_getElem?_getD, -Array.length_toList] at hc7
     refine gs6 ?_
     refine RW.q rfl (qa_ixZ rfl rfl hkg.sl (by omega) (by omega)) (RW.q (v := .agg (cl57 (G.getD tw.toNat default)).toArray) rfl (q_loadAgg rfl uT57 rfl sz57 rfl (Cells.repE hkg (by omega) rfl)) ?_)
     refine RW.alc rfl fun b9 => ?_
     refine gs15 ?_
     refine AW.loop (fun s J m => ∃ (k : Nat), ∃ (RS : List Bt.Gram), ∃ (qv : Value), s = [(5, pV b1 0), (6, pV b2 0), (7, pV b3 0), (11, .bool true), (12, gv), (24, pV b9 0), (25, qv), (26, iV (k : Int))] ∧ J = St ⟨w, Φ, []⟩ Φ3 [.row qv 57 5 RS.length (flat RS), .blk b9 57 (cl57 (G.getD tw.toNat default)), .blk b8 41 [iV yy.Hour, fv1, fv2, fv3], .blk b3 41 [iV yy.Hour, yyv1, yyv2, yyv3], .blk b2 36 (cl36 z tv1 tv2 tv3 tv4 tv5 tv6), .blk b1 31 (cl31 b v1 v3 v4 v5 v6 v7 v8 v9)] ∧ m = G.length - k ∧ (k ≤ G.length) ∧ (RS = (G.take k).filter fun t => decide (t.Gauge ≠ (G.getD tw.toNat default).Gauge)) ∧ (IsSl qv RS.length) ∧ (RS.length ≤ k)) (s0 := _) (J1 := _) (m0 := _) ⟨0, [], _, rfl, rfl, rfl, (by omega), rfl, isSl_nil, (by simp)⟩ ⟨rfl, rfl, rfl, rfl, rfl, rfl, rfl, rfl, trivial⟩ (fun _ h => addNil h) ?_
     rintro _ _ _ _ ⟨k, RS, qv, rfl, rfl, rfl, hk, hRS, hqv, hRl2⟩
     refine gs9 ?_
     refine AW.cond rfl (fun hc8 => ?_) fun hc8 => ?_
     ·
      simp [-List.getD_eq_getElem?_getD, -Array.length_toList] at hc8
      refine gs5 ?_
      refine AW.draw (J0 := St ⟨w, Φ, []⟩ Φ3 [.row qv 57 5 RS.length (flat RS), .blk b9 57 (cl57 (G.getD tw.toNat default)), .blk b8 41 [iV yy.Hour, fv1, fv2, fv3], .blk b3 41 [iV yy.Hour, yyv1, yyv2, yyv3], .blk b2 36 (cl36 z tv1 tv2 tv3 tv4 tv5 tv6), .blk b1 31 (cl31 b v1 v3 v4 v5 v6 v7 v8 v9)]) [.q, .q, .q, .q, .q, .q, .q, .q] [0, 1, 2, 3, 4, 5, 6, 7] hmix (by kernel_rfl) ?_
      refine gs4 ?_
      refine DW.q (v := iV ((G.getD k default).Gauge)) (fun _ h => h) rfl (q_load rfl uT3 rfl (Cell.repE (j := 0) hkg (by omega) rfl)) ?_
      refine gs5 ?_
      refine AW.cond rfl (fun hc9 => ?_) fun hc9 => ?_
      ·
       simp [-List.getD_eq_getElem?_getD, -Array.length_toList] at hc9
       refine gs5 ?_
       refine RW.q (v := .agg (cl57 (G.getD k default)).toArray) rfl (q_loadAgg rfl uT57 rfl sz57 rfl (Cells.repE hkg (by omega) rfl)) (RW.eff (fun b10 : Nat => (.slice (some ⟨b10, 0, none⟩) 1 1)) (fun b10 => St ⟨w, Φ, []⟩ Φ3 [.row (.slice (some ⟨b10, 0, none⟩) 1 1) 57 5 1 ([iV ((G.getD k default).Gauge), iV ((G.getD k default).Seq), iV ((G.getD k default).Clock), iV ((G.getD k default).Value), .string ((G.getD k default).Tag)]), .row qv 57 5 RS.length (flat RS), .blk b9 57 (cl57 (G.getD tw.toNat default)), .blk b8 41 [iV yy.Hour, fv1, fv2, fv3], .blk b3 41 [iV yy.Hour, yyv1, yyv2, yyv3], .blk b2 36 (cl36 z tv1 tv2 tv3 tv4 tv5 tv6), .blk b1 31 (cl31 b v1 v3 v4 v5 v6 v7 v8 v9)]) rfl (e_buildSlice (vals := [(0, .agg (cl57 (G.getD k default)).toArray)]) (cells := [iV ((G.getD k default).Gauge), iV ((G.getD k default).Seq), iV ((G.getD k default).Clock), iV ((G.getD k default).Value), .string ((G.getD k default).Tag)]) uT45 inf57 rfl rfl rfl (by kernel_rfl) rfl) ?_)
       intro b10
       refine RW.eff (fun xv : {vq : Value // IsSl vq (RS.length + 1)} => xv.1) (fun xv => St ⟨w, Φ, []⟩ Φ3 [.row (.slice (some ⟨b10, 0, none⟩) 1 1) 57 5 1 ([iV ((G.getD k default).Gauge), iV ((G.getD k default).Seq), iV ((G.getD k default).Clock), iV ((G.getD k default).Value), .string ((G.getD k default).Tag)]), .row xv.1 57 5 ((RS ++ [(G.getD k default)]).length) (flat (RS ++ [(G.getD k default)])), .blk b9 57 (cl57 (G.getD tw.toNat default)), .blk b8 41 [iV yy.Hour, fv1, fv2, fv3], .blk b3 41 [iV yy.Hour, yyv1, yyv2, yyv3], .blk b2 36 (cl36 z tv1 tv2 tv3 tv4 tv5 tv6), .blk b1 31 (cl31 b v1 v3 v4 v5 v6 v7 v8 v9)]) rfl (e_append 1 rfl rfl rfl uT45 inf57 rfl rfl rfl (Cells.row0 0 rfl) rfl (by omega) (by omega) (fun _ => by simp [flat] <;> rfl)) ?_
       rintro ⟨va2, hva2⟩
       refine RW.wk (J' := St ⟨w, Φ, []⟩ Φ3 [.row va2 57 5 ((RS ++ [(G.getD k default)]).length) (flat (RS ++ [(G.getD k default)])), .blk b9 57 (cl57 (G.getD tw.toNat default)), .blk b8 41 [iV yy.Hour, fv1, fv2, fv3], .blk b3 41 [iV yy.Hour, yyv1, yyv2, yyv3], .blk b2 36 (cl36 z tv1 tv2 tv3 tv4 tv5 tv6), .blk b1 31 (cl31 b v1 v3 v4 v5 v6 v7 v8 v9)]) (fun _ h => StP.drop h (by exact .cons _ (.cons_cons _ (.cons_cons _ (.cons_cons _ (.cons_cons _ (.cons_cons _ (.cons_cons _ (.slnil))))))))) ?_
       refine gs9 ?_
       exact Post.bk ⟨k + 1, RS ++ [(G.getD k default)], va2, rfl, rfl, rfl, (by omega), (by rw [Se.take_snoc (show k < G.length by omega), List.filter_append, ← hRS]; rw [List.filter_cons_of_pos (by simpa [-List.getD_eq_getElem?_getD] using hc9)]; rfl), (by simpa using hva2), (by simp; omega)⟩
      ·
       simp [-List.getD_eq_getElem?_getD, -Array.length_toList] at hc9
       refine gs8 ?_
       exact Post.bk ⟨k + 1, RS, qv, rfl, rfl, rfl, (by omega), (by rw [Se.take_snoc (show k < G.length by omega), List.filter_append, ← hRS]; rw [List.filter_cons_of_neg (by simpa [-List.getD_eq_getElem?_getD] using hc9)]; simp), hqv, (by omega)⟩
     ·
      simp [-List.getD_eq_getElem?_getD, -Array.length_toList] at hc8
      refine gs6 ?_
      have hgv9 : -1099511627776 ≤ (G.getD tw.toNat default).Value ∧ (G.getD tw.toNat default).Value ≤ 1099511627776 := sd_val (b := b) (z := z) (l := l) (n := l.length) (by rw [← hGe]; exact Se.getD_mem (by omega))
      have hXw := incG_wf hGw (Se.getD_mem (L := G) (i := tw.toNat) (by omega)) hgv9
      have hRe : RS = G.filter fun t => decide (t.Gauge ≠ (G.getD tw.toNat default).Gauge) := by rw [hRS, List.take_of_length_le (by omega)]
      have hRw : ∀ x ∈ RS, RepE.wf x := fun x hx => hGw x (List.mem_filter.1 (hRe ▸ hx)).1
      refine AW.frz (fun Φ4 hlΦ4 hshkr => ?_)
      replace hB := hB.mono hlΦ4
      replace tH := tH.mono hlΦ4
      replace yyH := yyH.mono hlΦ4
      replace yyr1 := yyr1.mono hlΦ4
      replace yyr2 := yyr2.mono hlΦ4
      replace yyr3 := yyr3.mono hlΦ4
      replace hkg := hkg.mono hlΦ4
      replace hlv1 := hlv1.mono hlΦ4
      replace kfv1 := kfv1.mono hlΦ4
      replace kfv2 := kfv2.mono hlΦ4
      replace kfv3 := kfv3.mono hlΦ4
      replace kfv4 := kfv4.mono hlΦ4
      replace Hfv1 := Hfv1.mono hlΦ4
      have hkr : RepSl Φ4 RS qv := RowS.repE even57 hshkr rfl (by simp only [maxSl]; show RS.length * 48 ≤ _; omega) hRw
      refine gs9 ?_
      refine AW.drawM2 [(3, 5), (5, 8), (19, 20)] [(5, pV b1 0), (6, pV b2 0), (7, pV b3 0), (11, .bool true), (12, gv), (24, pV b9 0), (25, qv)] [FQ 197 (.agg (cl31 b v1 v3 v4 v5 v6 v7 v8 v9).toArray), FQ 198 (.agg [iV yy.Hour, yyv1, yyv2, yyv3].toArray), FQ 199 (.agg (cl31 b v1 v3 v4 v5 v6 v7 v8 v9).toArray), FE (X := Nat) 200 (fun b => .slice (some ⟨b, 0, none⟩) 0 0) (fun b => [.row (.slice (some ⟨b, 0, none⟩) 0 0) 57 5 0 []]), FQ 201 (gv), FE (X := Value) 202 (fun v => v) (fun v => [.row v 57 5 (0 + G.length) ([] ++ flat G)]), FQ 203 (.agg [iV ((G.getD tw.toNat default).Gauge), iV ((G.getD tw.toNat default).Seq), iV ((G.getD tw.toNat default).Clock), iV (((G.getD tw.toNat default).Value) + 1), .string ((G.getD tw.toNat default).Tag)].toArray), FE (X := Nat) 204 (fun b => .slice (some ⟨b, 0, none⟩) 1 1) (fun b => [.row (.slice (some ⟨b, 0, none⟩) 1 1) 57 5 1 [iV (G.getD tw.toNat default).Gauge, iV (G.getD tw.toNat default).Seq, iV (G.getD tw.toNat default).Clock, iV ((G.getD tw.toNat default).Value + 1), .string (G.getD tw.toNat default).Tag]]), FE (X := Value) 205 (fun v => v) (fun v => [.row v 57 5 (0 + G.length + 1) (([] ++ flat G) ++ [iV (G.getD tw.toNat default).Gauge, iV (G.getD tw.toNat default).Seq, iV (G.getD tw.toNat default).Clock, iV ((G.getD tw.toNat default).Value + 1), .string (G.getD tw.toNat default).Tag])]), FQ 206 (.pointer (some ⟨b2, 0, none⟩)), FQ 207 (iV z.Hour), FQ 208 (.pointer (some ⟨b2, 0, none⟩)), FQ 209 (iV z.Hour), FQ 210 (iV (z.Hour + 1)), FE (X := Value × Nat × Nat) 211 (fun q => q.1) (fun q => [.kn noHp q.2.1 q.2.2 (RdT b (G ++ [incG (G.getD tw.toNat default)]) z.Hour (z.Hour + 1) q.1)]), FE (X := V4 × Nat × Nat) 212 (fun q => fuV yy.Hour q.1) (fun q => [.kn noHp q.2.1 q.2.2 (FuR b yy (G ++ [incG (G.getD tw.toNat default)]) z.Hour (z.Hour + 1) q.1)]), ([196, 212], fun vs K => ∃ y : V4, vs = [fuV yy.Hour y, fuV yy.Hour y] ∧ K = []), ([213, 196], fun vs K => ∃ y : V4, vs = [.agg #[iV yy.Hour, y.1, y.2.1, y.2.2.1], fuV yy.Hour y] ∧ K = []), ([214, 196], fun vs K => ∃ y : V4, vs = [y.2.2.2, fuV yy.Hour y] ∧ K = []), FE (X := Nat) 27 (fun b => .pointer (some ⟨b, 0, none⟩)) (fun b => [.blk b 41 [iV 0, .slice none 0 0, .slice none 0 0, .slice none 0 0]]), ([27, 213], fun vs K => ∃ (b : Nat) (c0 c1 c2 : Value), vs = [.pointer (some ⟨b, 0, none⟩), .agg #[iV yy.Hour, c0, c1, c2]] ∧ K = [.blk b 41 [iV yy.Hour, c0, c1, c2]])] (fun s9 J9 => ∃ (y : V4) (n1 m1 nb : Nat), s9 = [(5, pV b1 0), (6, pV b2 0), (7, pV b3 0), (11, .bool true), (25, qv), (27, .pointer (some ⟨nb, 0, none⟩)), (28, y.2.2.2)] ∧ J9 = St ⟨w, Φ, []⟩ Φ4 (.kn noHp n1 m1 (FuR b yy (G ++ [incG (G.getD tw.toNat default)]) z.Hour (z.Hour + 1) y) :: .blk nb 41 [iV yy.Hour, y.1, y.2.1, y.2.2.1] :: [.blk b9 57 [iV ((G.getD tw.toNat default).Gauge), iV ((G.getD tw.toNat default).Seq), iV ((G.getD tw.toNat default).Clock), iV (((G.getD tw.toNat default).Value) + 1), .string ((G.getD tw.toNat default).Tag)], .blk b8 41 [iV yy.Hour, fv1, fv2, fv3], .blk b3 41 [iV yy.Hour, yyv1, yyv2, yyv3], .blk b2 36 (cl36 z tv1 tv2 tv3 tv4 tv5 tv6), .blk b1 31 (cl31 b v1 v3 v4 v5 v6 v7 v8 v9)])) hmix (by kernel_rfl) ⟨rfl, rfl, rfl, rfl, rfl, rfl, rfl, trivial⟩ ?_ (fun o S Ks ho hs hd => ?_) ?_
      ·
       refine ⟨?_, ?_, ?_, ?_, ?_, ?_, ?_, ?_, ?_, ?_, ?_, ?_, ?_, ?_, ?_, ?_, ?_, ?_, ?_, ?_, ?_, trivial⟩
       ·
        exact stQ rfl rfl rfl fun S Ks hs hd => qa_ldA (cs := (cl31 b v1 v3 v4 v5 v6 v7 v8 v9)) (tmpE hs.1) (Cells.blk 4 rfl) rfl
       ·
        exact stQ rfl rfl rfl fun S Ks hs hd => qa_ldA (cs := [iV yy.Hour, yyv1, yyv2, yyv3]) (tmpE hs.2.2.1) (Cells.blk 2 rfl) rfl
       ·
        exact stQ rfl rfl rfl fun S Ks hs hd => qa_ldA (cs := (cl31 b v1 v3 v4 v5 v6 v7 v8 v9)) (tmpE hs.1) (Cells.blk 4 rfl) rfl
       ·
        exact stE rfl rfl rfl (fun S Ks w1 hs hw hd => e_buildSlice0 (f := S) (s := []) uT45 inf57 w1 (StP.now w1))
       ·
        exact stQ rfl rfl rfl fun S Ks hs hd => q_move (tmpE hs.2.2.2.2.1)
       ·
        exact StepG.take (c := 3) (i := 5) (lBT rfl) (lBT rfl) (by decide) (by simp) (by decide) fun S Ks w1 hs hw hd => by
         obtain ⟨b0, e0, k0⟩ := (dpl hd 3 rfl rfl : ∃ x : Nat, [200].map S = [.slice (some ⟨x, 0, none⟩) 0 0] ∧ Ks 3 = [.row (.slice (some ⟨x, 0, none⟩) 0 0) 57 5 0 []])
         exact ⟨_, k0, fun R hR hq => effX_mono (fun u w2 ⟨v9, hv, hw2⟩ => ⟨_, ⟨v9.1, by rw [hv]; simp [upS, fr_head], rfl⟩, hw2⟩) (e_appendPhi (f := S) (s := []) (C' := fun v9 => .row v9.1 57 5 (0 + G.length) ([] ++ flat G) :: R) 0 rfl (tmpE (d := 200) (by simpa using e0)) (tmpE (dq (d := 201) (K := Ks 4) (dpl hd 4 rfl rfl))) hkg.sl uT45 inf57 rfl rfl (flat_len even57 _) (repE_cells even57 hkg) (flat_one hkg) (by omega) (by omega) (fun _ => rfl) w1 hq)⟩
       ·
        exact stQ rfl rfl rfl fun S Ks hs hd => qa_ldA (cs := [iV ((G.getD tw.toNat default).Gauge), iV ((G.getD tw.toNat default).Seq), iV ((G.getD tw.toNat default).Clock), iV (((G.getD tw.toNat default).Value) + 1), .string ((G.getD tw.toNat default).Tag)]) (tmpE hs.2.2.2.2.2.1) (Cells.blk 0 rfl) rfl
       ·
        exact stE rfl rfl rfl (fun S Ks w1 hs hw hd => e_buildSlice (f := S) (s := []) (parts := #[(0, .tmp 203)]) (vals := [(0, .agg [iV (G.getD tw.toNat default).Gauge, iV (G.getD tw.toNat default).Seq, iV (G.getD tw.toNat default).Clock, iV ((G.getD tw.toNat default).Value + 1), .string (G.getD tw.toNat default).Tag].toArray)]) (cells := [iV (G.getD tw.toNat default).Gauge, iV (G.getD tw.toNat default).Seq, iV (G.getD tw.toNat default).Clock, iV ((G.getD tw.toNat default).Value + 1), .string (G.getD tw.toNat default).Tag]) uT45 inf57 (congrArg (fun v => [(0, v)]) (tmpE (dq (d := 203) (K := Ks 6) (dpl hd 6 rfl rfl)))) rfl rfl (by kernel_rfl) rfl w1 (StP.now w1))
       ·
        exact StepG.take (c := 5) (i := 8) (lBT rfl) (lBT rfl) (by decide) (by simp) (by decide) fun S Ks w1 hs hw hd => by
         obtain ⟨v0, e0, k0⟩ := (dpl hd 5 rfl rfl : ∃ x : Value, [202].map S = [x] ∧ Ks 5 = [.row x 57 5 (0 + G.length) ([] ++ flat G)])
         obtain ⟨b0, e1, k1⟩ := (dpl hd 7 rfl rfl : ∃ x : Nat, [204].map S = [.slice (some ⟨x, 0, none⟩) 1 1] ∧ Ks 7 = [.row (.slice (some ⟨x, 0, none⟩) 1 1) 57 5 1 [iV (G.getD tw.toNat default).Gauge, iV (G.getD tw.toNat default).Seq, iV (G.getD tw.toNat default).Clock, iV ((G.getD tw.toNat default).Value + 1), .string (G.getD tw.toNat default).Tag]])
         refine ⟨_, k0, fun R hR hq => ?_⟩
         obtain ⟨j9, hj9⟩ := List.getElem?_of_mem (hR 7 (by decide) (lBT rfl) _ (by rw [k1]; exact List.mem_singleton.2 rfl))
         exact effX_mono (fun u w2 ⟨v9, hv, hw2⟩ => ⟨_, ⟨v9.1, by rw [hv]; simp [upS, fr_head], rfl⟩, hw2⟩) (e_append (f := S) (s := []) (C' := fun v9 => .row v9.1 57 5 (0 + G.length + 1) (([] ++ flat G) ++ [iV (G.getD tw.toNat default).Gauge, iV (G.getD tw.toNat default).Seq, iV (G.getD tw.toNat default).Clock, iV ((G.getD tw.toNat default).Value + 1), .string (G.getD tw.toNat default).Tag]) :: R) 0 rfl (tmpE (d := 202) (by simpa using e0)) (tmpE (d := 204) (by simpa using e1)) uT45 inf57 rfl rfl rfl (Cells.row0 (j9 + 1) (by simpa using hj9)) rfl (by omega) (by omega) (fun _ => rfl) w1 hq)
       ·
        exact stQ rfl rfl rfl fun S Ks hs hd => qa_fa0 (tmpE hs.2.1)
       ·
        exact stQ rfl rfl rfl fun S Ks hs hd => qa_ld (tmpE (dq (d := 206) (K := Ks 9) (dpl hd 9 rfl rfl))) (Cell.blk 3 rfl rfl)
       ·
        exact stQ rfl rfl rfl fun S Ks hs hd => qa_fa0 (tmpE hs.2.1)
       ·
        exact stQ rfl rfl rfl fun S Ks hs hd => qa_ld (tmpE (dq (d := 208) (K := Ks 11) (dpl hd 11 rfl rfl))) (Cell.blk 3 rfl rfl)
       ·
        exact stQ rfl rfl rfl fun S Ks hs hd => qa_add (tmpE (dq (d := 209) (K := Ks 12) (dpl hd 12 rfl rfl))) rfl (by unfold I64; omega)
       ·
        exact stE rfl rfl rfl (fun S Ks w1 hs hw hd => by
         obtain ⟨v0, e0, k0⟩ := (dpl hd 8 rfl rfl : ∃ x : Value, [205].map S = [x] ∧ Ks 8 = [.row x 57 5 (0 + G.length + 1) (([] ++ flat G) ++ [iV (G.getD tw.toNat default).Gauge, iV (G.getD tw.toNat default).Seq, iV (G.getD tw.toNat default).Clock, iV ((G.getD tw.toNat default).Value + 1), .string (G.getD tw.toNat default).Tag])])
         have hrw : RowS (Go.K.hp w1) v0 57 5 (0 + G.length + 1) (([] ++ flat G) ++ [iV (G.getD tw.toNat default).Gauge, iV (G.getD tw.toNat default).Seq, iV (G.getD tw.toNat default).Clock, iV ((G.getD tw.toNat default).Value + 1), .string (G.getD tw.toNat default).Tag]) := hw.sat _ (mem_AllK (j := 8) (lBT rfl) (by rw [k0]; exact List.mem_singleton.2 rfl))
         rw [show ([] ++ flat G) ++ [iV (G.getD tw.toNat default).Gauge, iV (G.getD tw.toNat default).Seq, iV (G.getD tw.toNat default).Clock, iV ((G.getD tw.toNat default).Value + 1), .string (G.getD tw.toNat default).Tag] = flat (G ++ [incG (G.getD tw.toNat default)]) by simp [flat, incG]; rfl] at hrw
         have hrp := RowS.repE even57 hrw (by simp <;> omega) (by simp only [maxSl]; show (0 + G.length + 1) * 48 ≤ _; omega) hXw
         exact e_knX (xs := [.tmp 199, .tmp 205, .tmp 207, .tmp 210]) (args := ([.agg (cl31 b v1 v3 v4 v5 v6 v7 v8 v9).toArray, v0, iV z.Hour, iV (z.Hour + 1)] : List Value)) (args4 (tmpE (dq (d := 199) (K := Ks 2) (dpl hd 2 rfl rfl))) (tmpE (d := 205) (by simpa using e0)) (tmpE (dq (d := 207) (K := Ks 10) (dpl hd 10 rfl rfl))) (tmpE (dq (d := 210) (K := Ks 13) (dpl hd 13 rfl rfl)))) (rd_x w1 (hB.mono hw.phi) hrp (by first | omega | (simp; omega)) (by unfold I64; omega) (by unfold I64; omega)))
       ·
        exact stE rfl rfl rfl (fun S Ks w1 hs hw hd => by
         obtain ⟨q, e0, k0⟩ := (dpl hd 14 rfl rfl : ∃ x : Value × Nat × Nat, [211].map S = [x.1] ∧ Ks 14 = [.kn noHp x.2.1 x.2.2 (RdT b (G ++ [incG (G.getD tw.toNat default)]) z.Hour (z.Hour + 1) x.1)])
         have hkn := (hw.sat (.kn noHp q.2.1 q.2.2 (RdT b (G ++ [incG (G.getD tw.toNat default)]) z.Hour (z.Hour + 1) q.1)) (mem_AllK (j := 14) (lBT rfl) (by rw [k0]; exact List.mem_singleton.2 rfl))).2
         exact e_knX (xs := [.tmp 197, .tmp 198, .tmp 211]) (args := ([.agg (cl31 b v1 v3 v4 v5 v6 v7 v8 v9).toArray, .agg ([iV yy.Hour, yyv1, yyv2, yyv3] : List Value).toArray, q.1] : List Value)) (args3 (tmpE (dq (d := 197) (K := Ks 0) (dpl hd 0 rfl rfl))) (tmpE (dq (d := 198) (K := Ks 1) (dpl hd 1 rfl rfl))) (tmpE (d := 211) (by simpa using e0))) (fuR_x w1 (hB.mono hw.phi) (yyH.mono hw.phi) ⟨_, kn_le noLe, hkn⟩ (by first | omega | (simp; omega)) (by omega) (by omega) (by omega)))
       ·
        exact stQS rfl rfl (fun S Ks hs hd => by
         obtain ⟨q, e0, _⟩ := (dpl hd 15 rfl rfl : ∃ x : V4 × Nat × Nat, [212].map S = [fuV yy.Hour x.1] ∧ Ks 15 = [.kn noHp x.2.1 x.2.2 (FuR b yy (G ++ [incG (G.getD tw.toNat default)]) z.Hour (z.Hour + 1) x.1)])
         have e1 : S 212 = fuV yy.Hour q.1 := by simpa using e0
         exact ⟨_, q_move (tmpE e1), q.1, by show [_, S 212] = _; rw [e1]; rfl, rfl⟩)
       ·
        exact stQS rfl rfl (fun S Ks hs hd => by
         obtain ⟨y, e0, _⟩ := (dpl hd 16 rfl rfl : ∃ y : V4, [196, 212].map S = [fuV yy.Hour y, fuV yy.Hour y] ∧ Ks 16 = [])
         have e1 : S 196 = fuV yy.Hour y := by simp only [List.map_cons, List.cons.injEq] at e0; exact e0.1
         exact ⟨_, q_extract (i := 0) (tmpE e1) rfl, y, by show [_, S 196] = _; rw [e1]; rfl, rfl⟩)
       ·
        exact stQS rfl rfl (fun S Ks hs hd => by
         obtain ⟨y, e0, _⟩ := (dpl hd 16 rfl rfl : ∃ y : V4, [196, 212].map S = [fuV yy.Hour y, fuV yy.Hour y] ∧ Ks 16 = [])
         have e1 : S 196 = fuV yy.Hour y := by simp only [List.map_cons, List.cons.injEq] at e0; exact e0.1
         exact ⟨_, q_extract (i := 1) (tmpE e1) rfl, y, by show [_, S 196] = _; rw [e1]; rfl, rfl⟩)
       ·
        exact stE rfl rfl rfl (fun S Ks w1 hs hw hd => e_allocF (StP.now w1))
       ·
        exact StepG.take (c := 19) (i := 20) (lBT rfl) (lBT rfl) (by decide) (by simp) (by decide) fun S Ks w1 hs hw hd => by
         obtain ⟨nb, e5, k5⟩ := (dpl hd 19 rfl rfl : ∃ x : Nat, [27].map S = [.pointer (some ⟨x, 0, none⟩)] ∧ Ks 19 = [.blk x 41 [iV 0, .slice none 0 0, .slice none 0 0, .slice none 0 0]])
         obtain ⟨y3, e3, _⟩ := (dpl hd 17 rfl rfl : ∃ y : V4, [213, 196].map S = [.agg #[iV yy.Hour, y.1, y.2.1, y.2.2.1], fuV yy.Hour y] ∧ Ks 17 = [])
         obtain ⟨y2, e2, _⟩ := (dpl hd 16 rfl rfl : ∃ y : V4, [196, 212].map S = [fuV yy.Hour y, fuV yy.Hour y] ∧ Ks 16 = [])
         obtain ⟨q, e1, k1⟩ := (dpl hd 15 rfl rfl : ∃ x : V4 × Nat × Nat, [212].map S = [fuV yy.Hour x.1] ∧ Ks 15 = [.kn noHp x.2.1 x.2.2 (FuR b yy (G ++ [incG (G.getD tw.toNat default)]) z.Hour (z.Hour + 1) x.1)])
         simp only [List.map_cons, List.map_nil, List.cons.injEq, and_true] at e1 e2 e3 e5
         obtain rfl : y2 = q.1 := fuV_inj (e2.2.symm.trans e1)
         obtain rfl : y3 = q.1 := fuV_inj (e3.2.symm.trans e2.1)
         obtain ⟨R9, _, f9⟩ := (hw.sat (.kn noHp q.2.1 q.2.2 (FuR b yy (G ++ [incG (G.getD tw.toNat default)]) z.Hour (z.Hour + 1) q.1)) (mem_AllK (j := 15) (lBT rfl) (by rw [k1]; exact List.mem_singleton.2 rfl))).2
         exact ⟨_, k5, fun R hR hq => effX_mono (fun u w2 hw2 => ⟨_, ⟨nb, q.1.1, q.1.2.1, q.1.2.2.1, by show [S 27, S 213] = _; rw [e5, e3.1], rfl⟩, hw2⟩) (e_stA (f := S) (s := []) 0 rfl (tmpE e5) (tmpE e3.1) (f9.one _) rfl rfl w1 hq)⟩
      ·
       obtain rfl : _ = o := sJ ho
       obtain ⟨q, e1, k1⟩ := (hd 15 (by decide) : ∃ x : V4 × Nat × Nat, [212].map S = [fuV yy.Hour x.1] ∧ Ks 15 = [.kn noHp x.2.1 x.2.2 (FuR b yy (G ++ [incG (G.getD tw.toNat default)]) z.Hour (z.Hour + 1) x.1)])
       obtain ⟨y2, e2, _⟩ := (hd 16 (by decide) : ∃ y : V4, [196, 212].map S = [fuV yy.Hour y, fuV yy.Hour y] ∧ Ks 16 = [])
       obtain ⟨y3, e3, _⟩ := (hd 17 (by decide) : ∃ y : V4, [213, 196].map S = [.agg #[iV yy.Hour, y.1, y.2.1, y.2.2.1], fuV yy.Hour y] ∧ Ks 17 = [])
       obtain ⟨y4, e4, _⟩ := (hd 18 (by decide) : ∃ y : V4, [214, 196].map S = [y.2.2.2, fuV yy.Hour y] ∧ Ks 18 = [])
       obtain ⟨nb, c0, c1, c2, e5, k5⟩ := (hd 20 (by decide) : ∃ (b : Nat) (c0 c1 c2 : Value), [27, 213].map S = [.pointer (some ⟨b, 0, none⟩), .agg #[iV yy.Hour, c0, c1, c2]] ∧ Ks 20 = [.blk b 41 [iV yy.Hour, c0, c1, c2]])
       simp only [List.map_cons, List.map_nil, List.cons.injEq, and_true] at e1 e2 e3 e4 e5
       obtain rfl : y2 = q.1 := fuV_inj (e2.2.symm.trans e1)
       obtain rfl : y3 = q.1 := fuV_inj (e3.2.symm.trans e2.1)
       obtain rfl : y4 = q.1 := fuV_inj (e4.2.symm.trans e2.1)
       have e6 := e5.2.symm.trans e3.1
       simp only [Value.agg.injEq, Array.mk.injEq, List.cons.injEq, true_and, and_true] at e6
       obtain ⟨rfl, rfl, rfl⟩ := e6
       exact ⟨_, _, q.1.2.2.2, ⟨q.1, q.2.1, q.2.2, nb, rfl, rfl⟩, ⟨hs.1, hs.2.1, hs.2.2.1, hs.2.2.2.1, hs.2.2.2.2.2.2.1, e5.1, rfl, trivial⟩, fun w1 hw => AllK_two (i := 15) (j := 20) (by decide) (lBT rfl) k1 k5 hw, q_assign (tmpE e4.1)⟩
      rintro _ _ _ ⟨y32, kn, km, bh32, rfl, rfl⟩
      refine gs2 ?_
      refine AW.frz (fun Φ5 hlΦ5 hshF32 => ?_)
      replace hB := hB.mono hlΦ5
      replace tH := tH.mono hlΦ5
      replace yyH := yyH.mono hlΦ5
      replace yyr1 := yyr1.mono hlΦ5
      replace yyr2 := yyr2.mono hlΦ5
      replace yyr3 := yyr3.mono hlΦ5
      replace hkg := hkg.mono hlΦ5
      replace hlv1 := hlv1.mono hlΦ5
      replace kfv1 := kfv1.mono hlΦ5
      replace kfv2 := kfv2.mono hlΦ5
      replace kfv3 := kfv3.mono hlΦ5
      replace kfv4 := kfv4.mono hlΦ5
      replace Hfv1 := Hfv1.mono hlΦ5
      replace hkr := hkr.mono hlΦ5
      obtain ⟨R32, hRR32, hF32⟩ := hshF32.2
      replace hF32 : FuT b yy R32 y32 Φ5 := hF32.mono (kn_le noLe)
      have hH32 := hF32.rep (hourOf yyH)
      refine AW.drawM2 [(14, 15)] [(5, pV b1 0), (6, pV b2 0), (7, pV b3 0), (11, .bool true), (25, qv), (27, pV bh32 0), (28, y32.2.2.2)] [FQ 216 (.agg (cl31 b v1 v3 v4 v5 v6 v7 v8 v9).toArray), FQ 217 (.agg [iV yy.Hour, yyv1, yyv2, yyv3].toArray), FQ 218 (.agg (cl31 b v1 v3 v4 v5 v6 v7 v8 v9).toArray), FQ 219 (qv), FQ 220 (.pointer (some ⟨b2, 0, none⟩)), FQ 221 (iV z.Hour), FQ 222 (.pointer (some ⟨b2, 0, none⟩)), FQ 223 (iV z.Hour), FQ 224 (iV (z.Hour + 1)), FE (X := Value × Nat × Nat) 225 (fun q => q.1) (fun q => [.kn noHp q.2.1 q.2.2 (RdT b RS z.Hour (z.Hour + 1) q.1)]), FE (X := V4 × Nat × Nat) 226 (fun q => fuV yy.Hour q.1) (fun q => [.kn noHp q.2.1 q.2.2 (FuR b yy RS z.Hour (z.Hour + 1) q.1)]), ([215, 226], fun vs K => ∃ y : V4, vs = [fuV yy.Hour y, fuV yy.Hour y] ∧ K = []), ([227, 215], fun vs K => ∃ y : V4, vs = [.agg #[iV yy.Hour, y.1, y.2.1, y.2.2.1], fuV yy.Hour y] ∧ K = []), ([228, 215], fun vs K => ∃ y : V4, vs = [y.2.2.2, fuV yy.Hour y] ∧ K = []), FE (X := Nat) 29 (fun b => .pointer (some ⟨b, 0, none⟩)) (fun b => [.blk b 41 [iV 0, .slice none 0 0, .slice none 0 0, .slice none 0 0]]), ([29, 227], fun vs K => ∃ (b : Nat) (c0 c1 c2 : Value), vs = [.pointer (some ⟨b, 0, none⟩), .agg #[iV yy.Hour, c0, c1, c2]] ∧ K = [.blk b 41 [iV yy.Hour, c0, c1, c2]])] (fun s9 J9 => ∃ (y : V4) (n1 m1 nb : Nat), s9 = [(5, pV b1 0), (6, pV b2 0), (7, pV b3 0), (11, .bool true), (27, pV bh32 0), (28, y32.2.2.2), (29, .pointer (some ⟨nb, 0, none⟩)), (30, y.2.2.2)] ∧ J9 = St ⟨w, Φ, []⟩ Φ5 (.kn noHp n1 m1 (FuR b yy RS z.Hour (z.Hour + 1) y) :: .blk nb 41 [iV yy.Hour, y.1, y.2.1, y.2.2.1] :: [.blk bh32 41 [iV yy.Hour, y32.1, y32.2.1, y32.2.2.1], .blk b9 57 [iV ((G.getD tw.toNat default).Gauge), iV ((G.getD tw.toNat default).Seq), iV ((G.getD tw.toNat default).Clock), iV (((G.getD tw.toNat default).Value) + 1), .string ((G.getD tw.toNat default).Tag)], .blk b8 41 [iV yy.Hour, fv1, fv2, fv3], .blk b3 41 [iV yy.Hour, yyv1, yyv2, yyv3], .blk b2 36 (cl36 z tv1 tv2 tv3 tv4 tv5 tv6), .blk b1 31 (cl31 b v1 v3 v4 v5 v6 v7 v8 v9)])) hmix (by kernel_rfl) ⟨rfl, rfl, rfl, rfl, rfl, rfl, rfl, trivial⟩ ?_ (fun o S Ks ho hs hd => ?_) ?_
      ·
       refine ⟨?_, ?_, ?_, ?_, ?_, ?_, ?_, ?_, ?_, ?_, ?_, ?_, ?_, ?_, ?_, ?_, trivial⟩
       ·
        exact stQ rfl rfl rfl fun S Ks hs hd => qa_ldA (cs := (cl31 b v1 v3 v4 v5 v6 v7 v8 v9)) (tmpE hs.1) (Cells.blk 5 rfl) rfl
       ·
        exact stQ rfl rfl rfl fun S Ks hs hd => qa_ldA (cs := [iV yy.Hour, yyv1, yyv2, yyv3]) (tmpE hs.2.2.1) (Cells.blk 3 rfl) rfl
       ·
        exact stQ rfl rfl rfl fun S Ks hs hd => qa_ldA (cs := (cl31 b v1 v3 v4 v5 v6 v7 v8 v9)) (tmpE hs.1) (Cells.blk 5 rfl) rfl
       ·
        exact stQ rfl rfl rfl fun S Ks hs hd => q_move (tmpE hs.2.2.2.2.1)
       ·
        exact stQ rfl rfl rfl fun S Ks hs hd => qa_fa0 (tmpE hs.2.1)
       ·
        exact stQ rfl rfl rfl fun S Ks hs hd => qa_ld (tmpE (dq (d := 220) (K := Ks 4) (dpl hd 4 rfl rfl))) (Cell.blk 4 rfl rfl)
       ·
        exact stQ rfl rfl rfl fun S Ks hs hd => qa_fa0 (tmpE hs.2.1)
       ·
        exact stQ rfl rfl rfl fun S Ks hs hd => qa_ld (tmpE (dq (d := 222) (K := Ks 6) (dpl hd 6 rfl rfl))) (Cell.blk 4 rfl rfl)
       ·
        exact stQ rfl rfl rfl fun S Ks hs hd => qa_add (tmpE (dq (d := 223) (K := Ks 7) (dpl hd 7 rfl rfl))) rfl (by unfold I64; omega)
       ·
        exact stE rfl rfl rfl (fun S Ks w1 hs hw hd => by
         exact e_knX (xs := [.tmp 218, .tmp 219, .tmp 221, .tmp 224]) (args := ([.agg (cl31 b v1 v3 v4 v5 v6 v7 v8 v9).toArray, qv, iV z.Hour, iV (z.Hour + 1)] : List Value)) (args4 (tmpE (dq (d := 218) (K := Ks 2) (dpl hd 2 rfl rfl))) (tmpE (dq (d := 219) (K := Ks 3) (dpl hd 3 rfl rfl))) (tmpE (dq (d := 221) (K := Ks 5) (dpl hd 5 rfl rfl))) (tmpE (dq (d := 224) (K := Ks 8) (dpl hd 8 rfl rfl)))) (rd_x w1 (hB.mono hw.phi) (hkr.mono hw.phi) (by first | omega | (simp; omega)) (by unfold I64; omega) (by unfold I64; omega)))
       ·
        exact stE rfl rfl rfl (fun S Ks w1 hs hw hd => by
         obtain ⟨q, e0, k0⟩ := (dpl hd 9 rfl rfl : ∃ x : Value × Nat × Nat, [225].map S = [x.1] ∧ Ks 9 = [.kn noHp x.2.1 x.2.2 (RdT b RS z.Hour (z.Hour + 1) x.1)])
         have hkn := (hw.sat (.kn noHp q.2.1 q.2.2 (RdT b RS z.Hour (z.Hour + 1) q.1)) (mem_AllK (j := 9) (lBT rfl) (by rw [k0]; exact List.mem_singleton.2 rfl))).2
         exact e_knX (xs := [.tmp 216, .tmp 217, .tmp 225]) (args := ([.agg (cl31 b v1 v3 v4 v5 v6 v7 v8 v9).toArray, .agg ([iV yy.Hour, yyv1, yyv2, yyv3] : List Value).toArray, q.1] : List Value)) (args3 (tmpE (dq (d := 216) (K := Ks 0) (dpl hd 0 rfl rfl))) (tmpE (dq (d := 217) (K := Ks 1) (dpl hd 1 rfl rfl))) (tmpE (d := 225) (by simpa using e0))) (fuR_x w1 (hB.mono hw.phi) (yyH.mono hw.phi) ⟨_, kn_le noLe, hkn⟩ (by first | omega | (simp; omega)) (by omega) (by omega) (by omega)))
       ·
        exact stQS rfl rfl (fun S Ks hs hd => by
         obtain ⟨q, e0, _⟩ := (dpl hd 10 rfl rfl : ∃ x : V4 × Nat × Nat, [226].map S = [fuV yy.Hour x.1] ∧ Ks 10 = [.kn noHp x.2.1 x.2.2 (FuR b yy RS z.Hour (z.Hour + 1) x.1)])
         have e1 : S 226 = fuV yy.Hour q.1 := by simpa using e0
         exact ⟨_, q_move (tmpE e1), q.1, by show [_, S 226] = _; rw [e1]; rfl, rfl⟩)
       ·
        exact stQS rfl rfl (fun S Ks hs hd => by
         obtain ⟨y, e0, _⟩ := (dpl hd 11 rfl rfl : ∃ y : V4, [215, 226].map S = [fuV yy.Hour y, fuV yy.Hour y] ∧ Ks 11 = [])
         have e1 : S 215 = fuV yy.Hour y := by simp only [List.map_cons, List.cons.injEq] at e0; exact e0.1
         exact ⟨_, q_extract (i := 0) (tmpE e1) rfl, y, by show [_, S 215] = _; rw [e1]; rfl, rfl⟩)
       ·
        exact stQS rfl rfl (fun S Ks hs hd => by
         obtain ⟨y, e0, _⟩ := (dpl hd 11 rfl rfl : ∃ y : V4, [215, 226].map S = [fuV yy.Hour y, fuV yy.Hour y] ∧ Ks 11 = [])
         have e1 : S 215 = fuV yy.Hour y := by simp only [List.map_cons, List.cons.injEq] at e0; exact e0.1
         exact ⟨_, q_extract (i := 1) (tmpE e1) rfl, y, by show [_, S 215] = _; rw [e1]; rfl, rfl⟩)
       ·
        exact stE rfl rfl rfl (fun S Ks w1 hs hw hd => e_allocF (StP.now w1))
       ·
        exact StepG.take (c := 14) (i := 15) (lBT rfl) (lBT rfl) (by decide) (by simp) (by decide) fun S Ks w1 hs hw hd => by
         obtain ⟨nb, e5, k5⟩ := (dpl hd 14 rfl rfl : ∃ x : Nat, [29].map S = [.pointer (some ⟨x, 0, none⟩)] ∧ Ks 14 = [.blk x 41 [iV 0, .slice none 0 0, .slice none 0 0, .slice none 0 0]])
         obtain ⟨y3, e3, _⟩ := (dpl hd 12 rfl rfl : ∃ y : V4, [227, 215].map S = [.agg #[iV yy.Hour, y.1, y.2.1, y.2.2.1], fuV yy.Hour y] ∧ Ks 12 = [])
         obtain ⟨y2, e2, _⟩ := (dpl hd 11 rfl rfl : ∃ y : V4, [215, 226].map S = [fuV yy.Hour y, fuV yy.Hour y] ∧ Ks 11 = [])
         obtain ⟨q, e1, k1⟩ := (dpl hd 10 rfl rfl : ∃ x : V4 × Nat × Nat, [226].map S = [fuV yy.Hour x.1] ∧ Ks 10 = [.kn noHp x.2.1 x.2.2 (FuR b yy RS z.Hour (z.Hour + 1) x.1)])
         simp only [List.map_cons, List.map_nil, List.cons.injEq, and_true] at e1 e2 e3 e5
         obtain rfl : y2 = q.1 := fuV_inj (e2.2.symm.trans e1)
         obtain rfl : y3 = q.1 := fuV_inj (e3.2.symm.trans e2.1)
         obtain ⟨R9, _, f9⟩ := (hw.sat (.kn noHp q.2.1 q.2.2 (FuR b yy RS z.Hour (z.Hour + 1) q.1)) (mem_AllK (j := 10) (lBT rfl) (by rw [k1]; exact List.mem_singleton.2 rfl))).2
         exact ⟨_, k5, fun R hR hq => effX_mono (fun u w2 hw2 => ⟨_, ⟨nb, q.1.1, q.1.2.1, q.1.2.2.1, by show [S 29, S 227] = _; rw [e5, e3.1], rfl⟩, hw2⟩) (e_stA (f := S) (s := []) 0 rfl (tmpE e5) (tmpE e3.1) (f9.one _) rfl rfl w1 hq)⟩
      ·
       obtain rfl : _ = o := sJ ho
       obtain ⟨q, e1, k1⟩ := (hd 10 (by decide) : ∃ x : V4 × Nat × Nat, [226].map S = [fuV yy.Hour x.1] ∧ Ks 10 = [.kn noHp x.2.1 x.2.2 (FuR b yy RS z.Hour (z.Hour + 1) x.1)])
       obtain ⟨y2, e2, _⟩ := (hd 11 (by decide) : ∃ y : V4, [215, 226].map S = [fuV yy.Hour y, fuV yy.Hour y] ∧ Ks 11 = [])
       obtain ⟨y3, e3, _⟩ := (hd 12 (by decide) : ∃ y : V4, [227, 215].map S = [.agg #[iV yy.Hour, y.1, y.2.1, y.2.2.1], fuV yy.Hour y] ∧ Ks 12 = [])
       obtain ⟨y4, e4, _⟩ := (hd 13 (by decide) : ∃ y : V4, [228, 215].map S = [y.2.2.2, fuV yy.Hour y] ∧ Ks 13 = [])
       obtain ⟨nb, c0, c1, c2, e5, k5⟩ := (hd 15 (by decide) : ∃ (b : Nat) (c0 c1 c2 : Value), [29, 227].map S = [.pointer (some ⟨b, 0, none⟩), .agg #[iV yy.Hour, c0, c1, c2]] ∧ Ks 15 = [.blk b 41 [iV yy.Hour, c0, c1, c2]])
       simp only [List.map_cons, List.map_nil, List.cons.injEq, and_true] at e1 e2 e3 e4 e5
       obtain rfl : y2 = q.1 := fuV_inj (e2.2.symm.trans e1)
       obtain rfl : y3 = q.1 := fuV_inj (e3.2.symm.trans e2.1)
       obtain rfl : y4 = q.1 := fuV_inj (e4.2.symm.trans e2.1)
       have e6 := e5.2.symm.trans e3.1
       simp only [Value.agg.injEq, Array.mk.injEq, List.cons.injEq, true_and, and_true] at e6
       obtain ⟨rfl, rfl, rfl⟩ := e6
       exact ⟨_, _, q.1.2.2.2, ⟨q.1, q.2.1, q.2.2, nb, rfl, rfl⟩, ⟨hs.1, hs.2.1, hs.2.2.1, hs.2.2.2.1, hs.2.2.2.2.2.1, hs.2.2.2.2.2.2.1, e5.1, rfl, trivial⟩, fun w1 hw => AllK_two (i := 10) (j := 15) (by decide) (lBT rfl) k1 k5 hw, q_assign (tmpE e4.1)⟩
      rintro _ _ _ ⟨y33, kn, km, bh33, rfl, rfl⟩
      refine gs2 ?_
      refine AW.frz (fun Φ6 hlΦ6 hshF33 => ?_)
      replace hB := hB.mono hlΦ6
      replace tH := tH.mono hlΦ6
      replace yyH := yyH.mono hlΦ6
      replace yyr1 := yyr1.mono hlΦ6
      replace yyr2 := yyr2.mono hlΦ6
      replace yyr3 := yyr3.mono hlΦ6
      replace hkg := hkg.mono hlΦ6
      replace hlv1 := hlv1.mono hlΦ6
      replace kfv1 := kfv1.mono hlΦ6
      replace kfv2 := kfv2.mono hlΦ6
      replace kfv3 := kfv3.mono hlΦ6
      replace kfv4 := kfv4.mono hlΦ6
      replace Hfv1 := Hfv1.mono hlΦ6
      replace hkr := hkr.mono hlΦ6
      replace hF32 := hF32.mono hlΦ6
      replace hH32 := hH32.mono hlΦ6
      obtain ⟨R33, hRR33, hF33⟩ := hshF33.2
      replace hF33 : FuT b yy R33 y33 Φ6 := hF33.mono (kn_le noLe)
      have hH33 := hF33.rep (hourOf yyH)
      have hRR : R32 = R33 := rds_twice (g := incG (G.getD tw.toNat default)) (Se.getD_mem (L := G) (i := tw.toNat) (by omega)) rfl rfl (incG_ne _) (fun t => by rw [hRe, List.mem_filter]; simp) hRR32 hRR33
      refine gs5 ?_
      refine RW.gl (v := .bool (decide (Fu.sameH (Fu.hullOf yy (Fu.fuse b yy R32)) (Fu.hullOf yy (Fu.fuse b yy R33))))) rfl rfl rfl (q_call (args := #[.agg #[iV yy.Hour, y32.1, y32.2.1, y32.2.2.1], .agg #[iV yy.Hour, y33.1, y33.2.1, y33.2.2.1]]) oK rfl rfl (fun w1 hw1 => Same_c w1 (Go.K.hp w1) (Hp.le_refl _) (hH32.mono hw1.phi) (hH33.mono hw1.phi))) ?_
      obtain ⟨qb8, hqb8⟩ : ∃ qz : Bool, (decide (Fu.sameH (Fu.hullOf yy (Fu.fuse b yy R32)) (Fu.hullOf yy (Fu.fuse b yy R33)))) = qz := ⟨_, rfl⟩
      refine RW.q (v := .bool qb8) rfl (q_as (v := .bool (decide (Fu.sameH (Fu.hullOf yy (Fu.fuse b yy R32)) (Fu.hullOf yy (Fu.fuse b yy R33))))) (q_pick (t := true) rfl (fun _ => rfl) (fun hp => nomatch hp)) (congrArg Value.bool hqb8)) ?_
      refine gs3 ?_
      refine RW.gc rfl rfl rfl (fun w1 hw1 => Same1_c w1 (Go.K.hp w1) (Hp.le_refl _) (hF32.2.2.2.mono hw1.phi) (hF33.2.2.2.mono hw1.phi)) rfl (fun h => args2 (gv_pos h) (gv_pos h)) ?_
      obtain ⟨qb9, hqb9⟩ : ∃ qz : Bool, (qb8 && (decide ((Fu.comp (Fu.fuse b yy R32).N) = (Fu.comp (Fu.fuse b yy R33).N)))) = qz := ⟨_, rfl⟩
      refine RW.q (v := .bool qb9) rfl (q_as (v := .bool (qb8 && (decide ((Fu.comp (Fu.fuse b yy R32).N) = (Fu.comp (Fu.fuse b yy R33).N))))) (qpA rfl rfl rfl) (congrArg Value.bool hqb9)) ?_
      refine gs1 ?_
      subst hqb9 hqb8
      refine gs3 ?_
      exact fin_val (v' := .bool ((decide (Fu.sameH (Fu.hullOf yy (Fu.fuse b yy R32)) (Fu.hullOf yy (Fu.fuse b yy R33)))) && (decide ((Fu.comp (Fu.fuse b yy R32).N) = (Fu.comp (Fu.fuse b yy R33).N))))) rfl rfl rfl (by rw [hRR]; simp [Fu.sameH])
end Go.Proofs.YtblfeidlnhdekaaGreat
