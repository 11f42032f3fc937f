/- Walks (part WalkL), printed by walk2.py. Conditions: those of each theorem. -/
import Derived.Test.YtblfeidlnhdekaaWalkK
import Derived.Test.YtblfeidlnhdekaaCore7
namespace Go.Proofs.Ytblfeidlnhdekaa
open Go Go.K Go.RowKit

set_option maxRecDepth 8000 in
set_option maxHeartbeats 2000000 in
theorem rFuse_c (w : World) (Φ : Hp) (hΦ : Hp.le Φ (hp w)) {b : Bt.Basin} {cs : List Value} (hB : RepV Φ b cs) {h : Bt.Hull} {hcs : List Value} (hH : RepV Φ h hcs) {l : List Bt.Reading} {lv : Value} (hl : RepSl Φ l lv) (hGL : b.Gauges.length ≤ 900) (hFV : h.Vol.length ≤ 1000) (hFK : h.Links.length ≤ 1000) :
    Calls Try.prog 13 #[.agg cs.toArray, .agg hcs.toArray, lv] w (RetS Φ w fun r Ψ => ∃ va vb vc vd, r = .tuple #[.agg #[.int .i64 h.Hour, va, vb, vc], vd] ∧ RepSl Ψ (Fu.fuse b h l).V va ∧ RepSl Ψ h.Queue vb ∧ RepSl Ψ (Fu.fuse b h l).K vc ∧ RepSl Ψ (Fu.comp (Fu.fuse b h l).N) vd) := by
  obtain ⟨v1, v3, v4, v5, v6, v7, v8, v9, hcs, hBw, r1, r3, r4, r5, r6, r7, r8, r9⟩ := (show Rep.rep Φ b cs from hB)
  subst hcs
  have hpm : b.Places.length * 152 ≤ 140737488355328 := r3.max
  have hgm : b.Gauges.length * 48 ≤ 140737488355328 := r6.max
  obtain ⟨hv1, hv2, hv3, hhcs, hhw, hr1, hr2, hr3⟩ := (show Rep.rep Φ h hcs from hH)
  subst hhcs
  have hm1 : h.Vol.length * 16 ≤ 140737488355328 := hr1.max
  have hm2 : h.Queue.length * 32 ≤ 140737488355328 := hr2.max
  have hm3 : h.Links.length * 40 ≤ 140737488355328 := hr3.max
  refine calls_of_AW (args := [.agg #[.string b.Name, v1, .int .i64 b.Cells, v3, v4, v5, v6, v7, v8, v9, .int .i64 b.Err], .agg #[.int .i64 h.Hour, hv1, hv2, hv3], lv]) Try.func13 rfl (Nat.le_of_ble_eq_true rfl) (St ⟨w, Φ, []⟩ Φ []) (StP.init w Φ hΦ []) ?_
  show AW Try.prog 62 [] _ _ _ [(0, .agg #[.string b.Name, v1, .int .i64 b.Cells, v3, v4, v5, v6, v7, v8, v9, .int .i64 b.Err]), (1, .agg #[.int .i64 h.Hour, hv1, hv2, hv3]), (2, lv)] _
  have hlm : l.length * 32 ≤ 140737488355328 := hl.max
  refine AW.seq ?_
  refine AW.region ?_
  refine RW.eff (fun b1 : Nat => .pointer (some (⟨b1, 0, none⟩))) (fun b1 => St ⟨w, Φ, []⟩ Φ [.blk b1 31 [.string b.Name, v1, .int .i64 b.Cells, v3, v4, v5, v6, v7, v8, v9, .int .i64 b.Err]]) rfl (e_boxA (cs := [.string b.Name, v1, .int .i64 b.Cells, v3, v4, v5, v6, v7, v8, v9, .int .i64 b.Err]) rfl) ?_
  intro b1
  refine RW.eff (fun b2 : Nat => .pointer (some (⟨b2, 0, none⟩))) (fun b2 => St ⟨w, Φ, []⟩ Φ [.blk b2 36 [.int .i64 h.Hour, hv1, hv2, hv3], .blk b1 31 [.string b.Name, v1, .int .i64 b.Cells, v3, v4, v5, v6, v7, v8, v9, .int .i64 b.Err]]) rfl (e_boxA (cs := [.int .i64 h.Hour, hv1, hv2, hv3]) rfl) ?_
  intro b2
  refine RW.eff (fun b3 : Nat => .pointer (some (⟨b3, 0, none⟩))) (fun b3 => St ⟨w, Φ, []⟩ Φ [.blk b3 36 [.int .i64 0, (.slice none 0 0), (.slice none 0 0), (.slice none 0 0)], .blk b2 36 [.int .i64 h.Hour, hv1, hv2, hv3], .blk b1 31 [.string b.Name, v1, .int .i64 b.Cells, v3, v4, v5, v6, v7, v8, v9, .int .i64 b.Err]]) rfl (e_alloc zero36) ?_
  intro b3
  refine RW.q (v := (.slice none 0 0)) rfl (q_assign rfl) ?_
  refine RW.nil ?_
  refine Post.then_n ?_
  refine AW.seq ?_
  refine AW.region ?_
  refine RW.q (v := (.slice none 0 0)) rfl (q_assign rfl) ?_
  refine RW.nil ?_
  refine Post.then_n ?_
  refine AW.seq ?_
  refine AW.region ?_
  refine RW.q (v := .pointer (some (⟨b2, 0, none⟩))) rfl (q_fieldAddr rfl Try.underlying36 rfl sz3 rfl) ?_
  refine RW.q (v := .int .i64 h.Hour) rfl (q_load rfl Try.underlying3 rfl (Cell.blk 1 rfl rfl)) ?_
  refine RW.q (v := .int .i64 h.Hour) rfl (q_assign rfl) ?_
  refine RW.nil ?_
  refine Post.then_n ?_
  refine AW.seq ?_
  refine AW.seq ?_
  refine AW.region ?_
  refine RW.q (v := .int .i64 0) rfl (q_assign rfl) ?_
  refine RW.nil ?_
  refine Post.then_n ?_
  refine AW.block ?_
  refine AW.loop (fun s J m => ∃ (gg : Nat), ∃ (Φg : Hp), ∃ (va : Value), ∃ (vb : Value), ∃ (vc : Value), ∃ (nv : Value), s = [(2, lv), (3, .pointer (some (⟨b1, 0, none⟩))), (4, .pointer (some (⟨b2, 0, none⟩))), (6, .pointer (some (⟨b3, 0, none⟩))), (9, .int .i64 h.Hour), (8, nv), (10, .int .i64 (gg : Int))] ∧ J = St ⟨w, Φ, []⟩ Φg [.blk b3 36 [.int .i64 0, (.slice none 0 0), (.slice none 0 0), (.slice none 0 0)], .blk b2 36 [.int .i64 h.Hour, va, vb, vc], .blk b1 31 [.string b.Name, v1, .int .i64 b.Cells, v3, v4, v5, v6, v7, v8, v9, .int .i64 b.Err]] ∧ m = b.Gauges.length - gg ∧ (gg ≤ b.Gauges.length) ∧ (Hp.le Φ Φg) ∧ (RepSl Φg (Fu.refI b h l gg 0).V va) ∧ (RepSl Φg h.Queue vb) ∧ (RepSl Φg (Fu.refI b h l gg 0).K vc) ∧ (RepSl Φg (Fu.comp (Fu.refI b h l gg 0).N) nv)) (s0 := _) (J1 := _) (m0 := _) ⟨0, Φ, _, _, _, _, rfl, rfl, rfl, (by omega), (Hp.le_refl _), (by rw [Fu.refI_zero]; exact hr1), hr2, (by rw [Fu.refI_zero]; exact hr3), (by rw [Fu.refI_zero]; exact repSl_nil)⟩ ⟨rfl, rfl, rfl, rfl, rfl, rfl, rfl, trivial⟩ (fun _ h => h) ?_
  rintro _ _ _ _ ⟨gg, Φg, va, vb, vc, nv, rfl, rfl, rfl, hgg, hgl, ha, hb, hc, hn⟩
  replace hB := hB.mono hgl
  replace r3 := r3.mono hgl
  replace r6 := r6.mono hgl
  replace hH := hH.mono hgl
  replace hr1 := hr1.mono hgl
  replace hr2 := hr2.mono hgl
  replace hr3 := hr3.mono hgl
  replace hl := hl.mono hgl
  refine AW.seq ?_
  refine AW.seq ?_
  refine AW.region ?_
  refine RW.q (v := .int .i64 (gg : Int)) rfl (q_move rfl) ?_
  refine RW.q (v := .pointer (some (⟨b1, 6, none⟩))) rfl (q_fieldAddr rfl Try.underlying31 rfl sz26 rfl) ?_
  refine RW.q (v := v6) rfl (q_load rfl Try.underlying26 rfl (Cell.blk 2 rfl rfl)) ?_
  refine RW.q (v := .int .i64 ((b.Gauges.length : Nat) : Int)) rfl (q_len_sl rfl r6.sl Try.underlying26) ?_
  refine RW.q (v := .bool (decide ((gg : Int) < ((b.Gauges.length : Nat) : Int)))) rfl (q_lss rfl rfl) ?_
  refine RW.nil ?_
  refine Post.then_n ?_
  refine AW.cond (b := decide ((gg : Int) < ((b.Gauges.length : Nat) : Int))) rfl (fun hc1 => ?_) (fun hc1 => ?_)
  · simp [-List.getD_eq_getElem?_getD] at hc1
    refine AW.skip ?_
    refine Post.then_n ?_
    refine AW.seq ?_
    refine AW.block ?_
    refine AW.seq ?_
    refine AW.region ?_
    refine RW.q (v := .int .i64 0) rfl (q_assign rfl) ?_
    refine RW.nil ?_
    refine Post.then_n ?_
    refine AW.block ?_
    refine AW.loop (fun s J m => ∃ (i : Nat), ∃ (Φj : Hp), ∃ (wa : Value), ∃ (wb : Value), ∃ (wc : Value), ∃ (mv : Value), s = [(2, lv), (3, .pointer (some (⟨b1, 0, none⟩))), (4, .pointer (some (⟨b2, 0, none⟩))), (6, .pointer (some (⟨b3, 0, none⟩))), (9, .int .i64 h.Hour), (10, .int .i64 (gg : Int)), (8, mv), (11, .int .i64 (i : Int))] ∧ J = St ⟨w, Φ, []⟩ Φj [.blk b3 36 [.int .i64 0, (.slice none 0 0), (.slice none 0 0), (.slice none 0 0)], .blk b2 36 [.int .i64 h.Hour, wa, wb, wc], .blk b1 31 [.string b.Name, v1, .int .i64 b.Cells, v3, v4, v5, v6, v7, v8, v9, .int .i64 b.Err]] ∧ m = l.length - i ∧ (i ≤ l.length) ∧ (Hp.le Φg Φj) ∧ (RepSl Φj (Fu.refI b h l gg i).V wa) ∧ (RepSl Φj h.Queue wb) ∧ (RepSl Φj (Fu.refI b h l gg i).K wc) ∧ (RepSl Φj (Fu.comp (Fu.refI b h l gg i).N) mv)) (s0 := _) (J1 := _) (m0 := _) ⟨0, Φg, _, _, _, _, rfl, rfl, rfl, (by omega), (Hp.le_refl _), ha, hb, hc, hn⟩ ⟨rfl, rfl, rfl, rfl, rfl, rfl, rfl, rfl, trivial⟩ (fun _ h => h) ?_
    rintro _ _ _ _ ⟨i, Φj, wa, wb, wc, mv, rfl, rfl, rfl, hi, hgl2, ga, gb, gc, gn⟩
    replace hB := hB.mono hgl2
    replace r3 := r3.mono hgl2
    replace r6 := r6.mono hgl2
    replace hH := hH.mono hgl2
    replace hr1 := hr1.mono hgl2
    replace hr2 := hr2.mono hgl2
    replace hr3 := hr3.mono hgl2
    replace hl := hl.mono hgl2
    refine AW.seq ?_
    refine AW.seq ?_
    refine AW.region ?_
    refine RW.q (v := .int .i64 (i : Int)) rfl (q_move rfl) ?_
    refine RW.q (v := lv) rfl (q_move rfl) ?_
    refine RW.q (v := .int .i64 ((l.length : Nat) : Int)) rfl (q_len_sl rfl hl.sl Try.underlying37) ?_
    refine RW.q (v := .bool (decide ((i : Int) < ((l.length : Nat) : Int)))) rfl (q_lss rfl rfl) ?_
    refine RW.nil ?_
    refine Post.then_n ?_
    refine AW.cond (b := decide ((i : Int) < ((l.length : Nat) : Int))) rfl (fun hc2 => ?_) (fun hc2 => ?_)
    · simp [-List.getD_eq_getElem?_getD] at hc2
      refine AW.skip ?_
      refine Post.then_n ?_
      refine AW.seq ?_
      refine AW.block ?_
      refine AW.seq ?_
      refine AW.seq ?_
      refine AW.region ?_
      refine RW.q (v := lv) rfl (q_move rfl) ?_
      refine RW.q (v := .int .i64 (i : Int)) rfl (q_move rfl) ?_
      refine RW.q (v := .pointer (some (Value.at lv (i * 4)))) rfl (q_indexAddr rfl rfl hl.sl Try.underlying37 sz46 (by omega) (by omega) rfl) ?_
      refine RW.q (v := .pointer (some (Value.at lv (i * 4 + 0)))) rfl (q_fieldAddr rfl Try.underlying46 rfl sz3 at_add) ?_
      refine RW.q (v := .int .i64 ((l.getD i default).Gauge)) rfl (q_load rfl Try.underlying3 rfl (Cell.repE (j := 0) hl (by omega) rfl)) ?_
      refine RW.q (v := .int .i64 (gg : Int)) rfl (q_move rfl) ?_
      refine RW.q (v := .bool (!decide ((l.getD i default).Gauge = (gg : Int)))) rfl (q_neq rfl rfl) ?_
      refine RW.q (v := .bool (!decide ((l.getD i default).Gauge = (gg : Int)))) rfl (q_move rfl) ?_
      refine RW.g (b := (!decide ((l.getD i default).Gauge = (gg : Int)))) (v := lv) rfl rfl rfl (fun h => q_move rfl) ?_
      refine RW.g (b := (!decide ((l.getD i default).Gauge = (gg : Int)))) (v := .int .i64 (i : Int)) rfl rfl rfl (fun h => q_move rfl) ?_
      refine RW.g (b := (!decide ((l.getD i default).Gauge = (gg : Int)))) (v := .pointer (some (Value.at lv (i * 4)))) rfl rfl rfl (fun h => q_indexAddr (gv_pos h) (gv_pos h) hl.sl Try.underlying37 sz46 (by (try simp [-List.getD_eq_getElem?_getD] at h); omega) (by (try simp [-List.getD_eq_getElem?_getD] at h); omega) rfl) ?_
      refine RW.g (b := (!decide ((l.getD i default).Gauge = (gg : Int)))) (v := .pointer (some (Value.at lv (i * 4 + 1)))) rfl rfl rfl (fun h => q_fieldAddr (gv_pos h) Try.underlying46 rfl sz3 at_add) ?_
      refine RW.g (b := (!decide ((l.getD i default).Gauge = (gg : Int)))) (v := .int .i64 ((l.getD i default).Hour)) rfl rfl rfl (fun h => q_load (gv_pos h) Try.underlying3 rfl (Cell.repE (j := 1) hl (by (try simp [-List.getD_eq_getElem?_getD] at h); omega) rfl)) ?_
      refine RW.g (b := (!decide ((l.getD i default).Gauge = (gg : Int)))) (v := .int .i64 h.Hour) rfl rfl rfl (fun h => q_move rfl) ?_
      refine RW.g (b := (!decide ((l.getD i default).Gauge = (gg : Int)))) (v := .bool (!decide ((l.getD i default).Hour = h.Hour))) rfl rfl rfl (fun h => q_neq (gv_pos h) (gv_pos h)) ?_
      refine RW.q (v := .bool ((!decide ((l.getD i default).Gauge = (gg : Int))) || (!decide ((l.getD i default).Hour = h.Hour)))) rfl (q_pick rfl (fun hp => pkOrT hp) (fun hp => (gv_pos hp).trans (pkOrF hp))) ?_
      refine RW.nil ?_
      refine Post.then_n ?_
      refine AW.cond (b := (!decide ((l.getD i default).Gauge = (gg : Int))) || (!decide ((l.getD i default).Hour = h.Hour))) rfl (fun hc3 => ?_) (fun hc3 => ?_)
      · simp [-List.getD_eq_getElem?_getD] at hc3
        refine AW.exit ?_
        refine Post.then_x (Post.blk_hit (Post.then_n ?_))
        refine AW.region ?_
        refine RW.q (v := .int .i64 (i : Int)) rfl (q_move rfl) ?_
        refine RW.q (v := .int .i64 ((i + 1 : Nat) : Int)) rfl (q_add rfl rfl (by omega) (by unfold I64; omega)) ?_
        refine RW.q (v := .int .i64 ((i + 1 : Nat) : Int)) rfl (q_assign rfl) ?_
        refine RW.nil ?_
        have hno : Fu.refI b h l gg (i + 1) = Fu.refI b h l gg i := Fu.refI_no (by omega) (fun h9 => hc3.elim (fun h8 => h8 h9.1) (fun h8 => h8 h9.2))
        exact Post.back (s' := _) (J' := _) (m' := _) (by omega) ⟨i + 1, Φj, wa, wb, wc, mv, rfl, rfl, rfl, (by omega), hgl2, (by rw [hno]; exact ga), gb, (by rw [hno]; exact gc), (by rw [hno]; exact gn)⟩ ⟨rfl, rfl, rfl, rfl, rfl, rfl, rfl, rfl, trivial⟩ (fun _ h => h)
      · simp [-List.getD_eq_getElem?_getD] at hc3
        refine AW.skip ?_
        refine Post.then_n ?_
        refine AW.seq ?_
        have hge : (l.getD i default).Gauge = (gg : Int) := hc3.1
        have hhe : (l.getD i default).Hour = h.Hour := hc3.2
        have hil : i < l.length := by omega
        have hxw := (hl.wfE _ (Fu.getD_mem hil)).2.2
        have hok := Fu.refOk b h l gg i (by omega)
        have hB_0 := hB
        have r3_0 := r3
        have r6_0 := r6
        have hH_0 := hH
        have hr1_0 := hr1
        have hr2_0 := hr2
        have hr3_0 := hr3
        have hl_0 := hl
        have ga_0 := ga
        have gb_0 := gb
        have gc_0 := gc
        have gn_0 := gn
        refine AW.drawT (J0 := St ⟨w, Φ, []⟩ Φj [.blk b3 36 [.int .i64 0, (.slice none 0 0), (.slice none 0 0), (.slice none 0 0)], .blk b2 36 [.int .i64 h.Hour, wa, wb, wc], .blk b1 31 [.string b.Name, v1, .int .i64 b.Cells, v3, v4, v5, v6, v7, v8, v9, .int .i64 b.Err]]) (fun s J => ∃ (nv1 : Value), ∃ (nv2 : Value), ∃ (nv3 : Value), ∃ (Φ1 : Hp), ∃ (b4 : Nat), s = [(2, lv), (3, .pointer (some (⟨b1, 0, none⟩))), (4, .pointer (some (⟨b2, 0, none⟩))), (6, .pointer (some (⟨b3, 0, none⟩))), (9, .int .i64 h.Hour), (10, .int .i64 (gg : Int)), (8, mv), (11, .int .i64 (i : Int)), (23, .int .i64 (i : Int)), (24, lv), (25, .int .i64 ((l.length : Nat) : Int)), (26, .bool (decide ((i : Int) < ((l.length : Nat) : Int)))), (29, lv), (30, .int .i64 (i : Int)), (31, .pointer (some (Value.at lv (i * 4)))), (32, .pointer (some (Value.at lv (i * 4 + 0)))), (33, .int .i64 ((l.getD i default).Gauge)), (34, .int .i64 (gg : Int)), (35, .bool (!decide ((l.getD i default).Gauge = (gg : Int)))), (36, .bool (!decide ((l.getD i default).Gauge = (gg : Int)))), (37, gv (!decide ((l.getD i default).Gauge = (gg : Int))) false lv), (38, gv (!decide ((l.getD i default).Gauge = (gg : Int))) false (.int .i64 (i : Int))), (39, gv (!decide ((l.getD i default).Gauge = (gg : Int))) false (.pointer (some (Value.at lv (i * 4))))), (40, gv (!decide ((l.getD i default).Gauge = (gg : Int))) false (.pointer (some (Value.at lv (i * 4 + 1))))), (41, gv (!decide ((l.getD i default).Gauge = (gg : Int))) false (.int .i64 ((l.getD i default).Hour))), (42, gv (!decide ((l.getD i default).Gauge = (gg : Int))) false (.int .i64 h.Hour)), (43, gv (!decide ((l.getD i default).Gauge = (gg : Int))) false (.bool (!decide ((l.getD i default).Hour = h.Hour)))), (44, .bool ((!decide ((l.getD i default).Gauge = (gg : Int))) || (!decide ((l.getD i default).Hour = h.Hour)))), (46, .agg #[.string b.Name, v1, .int .i64 b.Cells, v3, v4, v5, v6, v7, v8, v9, .int .i64 b.Err]), (47, .agg #[.int .i64 h.Hour, wa, wb, wc]), (48, lv), (49, .int .i64 (i : Int)), (50, .pointer (some (Value.at lv (i * 4)))), (51, .agg #[.int .i64 ((l.getD i default).Gauge), .int .i64 ((l.getD i default).Hour), .int .i64 ((l.getD i default).Value.Lo), .int .i64 ((l.getD i default).Value.Hi)]), (52, .tuple #[.agg #[.int .i64 h.Hour, nv1, nv2, nv3], .bool (Fu.badF b (Fu.hullOf h (Fu.refI b h l gg i)) (l.getD i default))]), (45, .tuple #[.agg #[.int .i64 h.Hour, nv1, nv2, nv3], .bool (Fu.badF b (Fu.hullOf h (Fu.refI b h l gg i)) (l.getD i default))]), (53, .agg #[.int .i64 h.Hour, nv1, nv2, nv3]), (54, .bool (Fu.badF b (Fu.hullOf h (Fu.refI b h l gg i)) (l.getD i default))), (12, .pointer (some (⟨b4, 0, none⟩))), (13, .bool (Fu.badF b (Fu.hullOf h (Fu.refI b h l gg i)) (l.getD i default)))] ∧ J = St ⟨w, Φ, []⟩ Φ1 [.blk b4 36 [.int .i64 h.Hour, nv1, nv2, nv3], .blk b3 36 [.int .i64 0, (.slice none 0 0), (.slice none 0 0), (.slice none 0 0)], .blk b2 36 [.int .i64 h.Hour, wa, wb, wc], .blk b1 31 [.string b.Name, v1, .int .i64 b.Cells, v3, v4, v5, v6, v7, v8, v9, .int .i64 b.Err]] ∧ (RepSl Φ1 (Fu.narF b (Fu.hullOf h (Fu.refI b h l gg i)) (l.getD i default)).V nv1) ∧ (RepSl Φ1 h.Queue nv2) ∧ (RepSl Φ1 (Fu.narF b (Fu.hullOf h (Fu.refI b h l gg i)) (l.getD i default)).K nv3) ∧ (Hp.le Φj Φ1)) (.q 0 (.q 1 (.q 2 (.q 3 (.q 4 (.q 5 (.f 6 10 (.q 7 (.q 8 (.q 9 (.e 10 (.e 11 (.q 12 .nil)))))) (.e 6 (.q 7 (.q 8 (.q 9 (.e 11 (.q 12 .nil))))))))))))) hmix (by kernel_rfl) ?_ ?_
        · skip
          refine DT.q (v := .agg #[.string b.Name, v1, .int .i64 b.Cells, v3, v4, v5, v6, v7, v8, v9, .int .i64 b.Err]) (fun _ h => h) rfl (q_loadAgg rfl Try.underlying31 rfl sz31 rfl (Cells.blk 2 rfl)) ?_
          refine DT.q (v := .agg #[.int .i64 h.Hour, wa, wb, wc]) (fun _ h => h) rfl (q_loadAgg rfl Try.underlying36 rfl sz36 rfl (Cells.blk 1 rfl)) ?_
          refine DT.q (v := lv) (fun _ h => h) rfl (q_move rfl) ?_
          refine DT.q (v := .int .i64 (i : Int)) (fun _ h => h) rfl (q_move rfl) ?_
          refine DT.q (v := .pointer (some (Value.at lv (i * 4)))) (fun _ h => h) rfl (q_indexAddr rfl rfl hl.sl Try.underlying37 sz46 (by omega) (by omega) rfl) ?_
          refine DT.q (v := .agg #[.int .i64 ((l.getD i default).Gauge), .int .i64 ((l.getD i default).Hour), .int .i64 ((l.getD i default).Value.Lo), .int .i64 ((l.getD i default).Value.Hi)]) (fun _ h => h) rfl (q_loadAgg rfl Try.underlying46 rfl sz46 rfl (Cells.repE hl (by omega) rfl)) ?_
          refine DT.fork (fun x : {z : (Value × Value × Value) × Hp // (fun (y : Value × Value × Value) (Ψ : Hp) => (RepSl Ψ (Fu.narF b (Fu.hullOf h (Fu.refI b h l gg i)) (l.getD i default)).V y.1) ∧ (RepSl Ψ h.Queue y.2.1) ∧ (RepSl Ψ (Fu.narF b (Fu.hullOf h (Fu.refI b h l gg i)) (l.getD i default)).K y.2.2)) z.1 z.2 ∧ Hp.le Φj z.2} => .tuple #[.agg #[.int .i64 h.Hour, x.1.1.1, x.1.1.2.1, x.1.1.2.2], .bool (Fu.badF b (Fu.hullOf h (Fu.refI b h l gg i)) (l.getD i default))]) (fun b4 : Nat => .pointer (some (⟨b4, 0, none⟩))) (fun x => St ⟨w, Φ, []⟩ x.1.2 [.blk b3 36 [.int .i64 0, (.slice none 0 0), (.slice none 0 0), (.slice none 0 0)], .blk b2 36 [.int .i64 h.Hour, wa, wb, wc], .blk b1 31 [.string b.Name, v1, .int .i64 b.Cells, v3, v4, v5, v6, v7, v8, v9, .int .i64 b.Err]]) (fun b4 => St ⟨w, Φ, []⟩ Φj [.blk b4 36 [.int .i64 0, (.slice none 0 0), (.slice none 0 0), (.slice none 0 0)], .blk b3 36 [.int .i64 0, (.slice none 0 0), (.slice none 0 0), (.slice none 0 0)], .blk b2 36 [.int .i64 h.Hour, wa, wb, wc], .blk b1 31 [.string b.Name, v1, .int .i64 b.Cells, v3, v4, v5, v6, v7, v8, v9, .int .i64 b.Err]]) rfl rfl trivial trivial (fun x => (fun _ h => StP.know x.2.2 h)) (fun _ => (fun _ h => (StP.drop h (by exact .cons _ (.cons_cons _ (.cons_cons _ (.cons_cons _ (.slnil)))))))) (e_callX (fun (y : Value × Value × Value) => .tuple #[.agg #[.int .i64 h.Hour, y.1, y.2.1, y.2.2], .bool (Fu.badF b (Fu.hullOf h (Fu.refI b h l gg i)) (l.getD i default))]) (fun (y : Value × Value × Value) (Ψ : Hp) => (RepSl Ψ (Fu.narF b (Fu.hullOf h (Fu.refI b h l gg i)) (l.getD i default)).V y.1) ∧ (RepSl Ψ h.Queue y.2.1) ∧ (RepSl Ψ (Fu.narF b (Fu.hullOf h (Fu.refI b h l gg i)) (l.getD i default)).K y.2.2)) (args := #[.agg #[.string b.Name, v1, .int .i64 b.Cells, v3, v4, v5, v6, v7, v8, v9, .int .i64 b.Err], .agg #[.int .i64 h.Hour, wa, wb, wc], .agg #[.int .i64 ((l.getD i default).Gauge), .int .i64 ((l.getD i default).Hour), .int .i64 ((l.getD i default).Value.Lo), .int .i64 ((l.getD i default).Value.Hi)]]) own45 rfl rfl (fun w1 hw1 => ((fun w1 hw1 => (narrowed_c w1 _ hw1.phi hB (h := Fu.hullOf h (Fu.refI b h l gg i)) ⟨_, _, _, rfl, hhw, ga, gb, gc⟩ (x := (l.getD i default)) hxw (by have := hok.vl; show (Fu.refI b h l gg i).V.length ≤ 1000; omega) (by have := hok.kl; show (Fu.refI b h l gg i).K.length ≤ 1000; omega)).mono fun e w2 hr => by obtain ⟨v9, he9, hb9, cs9, hr9, hcs9⟩ := hr; obtain ⟨u1, u2, u3, hu, _, q1, q2, q3⟩ := (show Rep.rep _ _ cs9 from hcs9); subst hu; exact (show RetS _ _ (fun r Ψ => ∃ u1 u2 u3 : Value, r = .tuple #[.agg #[.int .i64 h.Hour, u1, u2, u3], .bool (Fu.badF b (Fu.hullOf h (Fu.refI b h l gg i)) (l.getD i default))] ∧ RepSl Ψ (Fu.narF b (Fu.hullOf h (Fu.refI b h l gg i)) (l.getD i default)).V u1 ∧ RepSl Ψ h.Queue u2 ∧ RepSl Ψ (Fu.narF b (Fu.hullOf h (Fu.refI b h l gg i)) (l.getD i default)).K u3) _ _ from ⟨v9, he9, hb9, u1, u2, u3, hr9, q1, q2, q3⟩)) w1 hw1).mono fun e w2 hr => by obtain ⟨v9, he9, hb9, u1, u2, u3, hr9, q1, q2, q3⟩ := hr; exact ⟨v9, he9, hb9, (u1, u2, u3), hr9, q1, q2, q3⟩)) (e_alloc zero36) ?_ ?_
          · skip
            rintro ⟨⟨⟨nv1, nv2, nv3⟩, Φ1⟩, ⟨knv1, knv2, knv3⟩, hlΦ1⟩
            replace knv1 : RepSl Φ1 (Fu.narF b (Fu.hullOf h (Fu.refI b h l gg i)) (l.getD i default)).V nv1 := knv1
            replace knv2 : RepSl Φ1 h.Queue nv2 := knv2
            replace knv3 : RepSl Φ1 (Fu.narF b (Fu.hullOf h (Fu.refI b h l gg i)) (l.getD i default)).K nv3 := knv3
            replace hlΦ1 : Hp.le Φj Φ1 := hlΦ1
            replace hB := hB.mono hlΦ1
            replace r3 := r3.mono hlΦ1
            replace r6 := r6.mono hlΦ1
            replace hH := hH.mono hlΦ1
            replace hr1 := hr1.mono hlΦ1
            replace hr2 := hr2.mono hlΦ1
            replace hr3 := hr3.mono hlΦ1
            replace hl := hl.mono hlΦ1
            replace ga := ga.mono hlΦ1
            replace gb := gb.mono hlΦ1
            replace gc := gc.mono hlΦ1
            replace gn := gn.mono hlΦ1
            refine DT.q (v := .tuple #[.agg #[.int .i64 h.Hour, nv1, nv2, nv3], .bool (Fu.badF b (Fu.hullOf h (Fu.refI b h l gg i)) (l.getD i default))]) (fun _ h => StP.know hlΦ1 h) rfl (q_move rfl) ?_
            refine DT.q (v := .agg #[.int .i64 h.Hour, nv1, nv2, nv3]) (fun _ h => StP.know hlΦ1 h) rfl (q_extract rfl rfl) ?_
            refine DT.q (v := .bool (Fu.badF b (Fu.hullOf h (Fu.refI b h l gg i)) (l.getD i default))) (fun _ h => StP.know hlΦ1 h) rfl (q_extract rfl rfl) ?_
            refine DT.eff (fun b4 : Nat => .pointer (some (⟨b4, 0, none⟩))) (fun b4 => St ⟨w, Φ, []⟩ Φ1 [.blk b4 36 [.int .i64 0, (.slice none 0 0), (.slice none 0 0), (.slice none 0 0)], .blk b3 36 [.int .i64 0, (.slice none 0 0), (.slice none 0 0), (.slice none 0 0)], .blk b2 36 [.int .i64 h.Hour, wa, wb, wc], .blk b1 31 [.string b.Name, v1, .int .i64 b.Cells, v3, v4, v5, v6, v7, v8, v9, .int .i64 b.Err]]) (fun _ _ => (fun _ h => StP.know hlΦ1 (StP.drop h (by exact .cons _ (.cons_cons _ (.cons_cons _ (.cons_cons _ (.slnil)))))))) rfl (e_alloc zero36) ?_
            intro b4
            refine DT.effn (J' := St ⟨w, Φ, []⟩ Φ1 [.blk b4 36 [.int .i64 h.Hour, nv1, nv2, nv3], .blk b3 36 [.int .i64 0, (.slice none 0 0), (.slice none 0 0), (.slice none 0 0)], .blk b2 36 [.int .i64 h.Hour, wa, wb, wc], .blk b1 31 [.string b.Name, v1, .int .i64 b.Cells, v3, v4, v5, v6, v7, v8, v9, .int .i64 b.Err]]) (fun _ => (fun _ h => StP.know hlΦ1 (StP.drop h (by exact .cons _ (.cons_cons _ (.cons_cons _ (.cons_cons _ (.slnil)))))))) (e_store (v := .agg #[.int .i64 h.Hour, nv1, nv2, nv3]) 0 rfl rfl rfl sz36 rfl (by show List.all [_, nv1, nv2, nv3] _ = true; simp only [List.all_cons, List.all_nil, oneCell_sl knv1.sl, oneCell_sl knv2.sl, oneCell_sl knv3.sl]; rfl) rfl rfl rfl) ?_
            refine DT.q (v := .bool (Fu.badF b (Fu.hullOf h (Fu.refI b h l gg i)) (l.getD i default))) (fun _ h => StP.know hlΦ1 (StP.drop h (by exact .cons _ (.cons_cons _ (.cons_cons _ (.cons_cons _ (.slnil))))))) rfl (q_assign rfl) ?_
            refine DT.nil (s' := _) (J' := _) ⟨nv1, nv2, nv3, Φ1, b4, rfl, rfl, knv1, knv2, knv3, hlΦ1⟩ ⟨rfl, rfl, rfl, rfl, rfl, rfl, rfl, rfl, rfl, rfl, rfl, rfl, rfl, rfl, rfl, rfl, rfl, rfl, rfl, rfl, rfl, rfl, rfl, rfl, rfl, rfl, rfl, rfl, rfl, rfl, rfl, rfl, rfl, rfl, rfl, rfl, rfl, rfl, rfl, rfl, trivial⟩ (fun _ h => h)
          · skip
            intro b4
            refine DT.eff (fun x : {z : (Value × Value × Value) × Hp // (fun (y : Value × Value × Value) (Ψ : Hp) => (RepSl Ψ (Fu.narF b (Fu.hullOf h (Fu.refI b h l gg i)) (l.getD i default)).V y.1) ∧ (RepSl Ψ h.Queue y.2.1) ∧ (RepSl Ψ (Fu.narF b (Fu.hullOf h (Fu.refI b h l gg i)) (l.getD i default)).K y.2.2)) z.1 z.2 ∧ Hp.le Φj z.2} => .tuple #[.agg #[.int .i64 h.Hour, x.1.1.1, x.1.1.2.1, x.1.1.2.2], .bool (Fu.badF b (Fu.hullOf h (Fu.refI b h l gg i)) (l.getD i default))]) (fun x => St ⟨w, Φ, []⟩ x.1.2 [.blk b4 36 [.int .i64 0, (.slice none 0 0), (.slice none 0 0), (.slice none 0 0)], .blk b3 36 [.int .i64 0, (.slice none 0 0), (.slice none 0 0), (.slice none 0 0)], .blk b2 36 [.int .i64 h.Hour, wa, wb, wc], .blk b1 31 [.string b.Name, v1, .int .i64 b.Cells, v3, v4, v5, v6, v7, v8, v9, .int .i64 b.Err]]) (fun _ x => (fun _ h => StP.know x.2.2 (StP.drop h (by exact .cons _ (.cons_cons _ (.cons_cons _ (.cons_cons _ (.slnil)))))))) rfl (e_callX (fun (y : Value × Value × Value) => .tuple #[.agg #[.int .i64 h.Hour, y.1, y.2.1, y.2.2], .bool (Fu.badF b (Fu.hullOf h (Fu.refI b h l gg i)) (l.getD i default))]) (fun (y : Value × Value × Value) (Ψ : Hp) => (RepSl Ψ (Fu.narF b (Fu.hullOf h (Fu.refI b h l gg i)) (l.getD i default)).V y.1) ∧ (RepSl Ψ h.Queue y.2.1) ∧ (RepSl Ψ (Fu.narF b (Fu.hullOf h (Fu.refI b h l gg i)) (l.getD i default)).K y.2.2)) (args := #[.agg #[.string b.Name, v1, .int .i64 b.Cells, v3, v4, v5, v6, v7, v8, v9, .int .i64 b.Err], .agg #[.int .i64 h.Hour, wa, wb, wc], .agg #[.int .i64 ((l.getD i default).Gauge), .int .i64 ((l.getD i default).Hour), .int .i64 ((l.getD i default).Value.Lo), .int .i64 ((l.getD i default).Value.Hi)]]) own45 rfl rfl (fun w1 hw1 => ((fun w1 hw1 => (narrowed_c w1 _ hw1.phi hB (h := Fu.hullOf h (Fu.refI b h l gg i)) ⟨_, _, _, rfl, hhw, ga, gb, gc⟩ (x := (l.getD i default)) hxw (by have := hok.vl; show (Fu.refI b h l gg i).V.length ≤ 1000; omega) (by have := hok.kl; show (Fu.refI b h l gg i).K.length ≤ 1000; omega)).mono fun e w2 hr => by obtain ⟨v9, he9, hb9, cs9, hr9, hcs9⟩ := hr; obtain ⟨u1, u2, u3, hu, _, q1, q2, q3⟩ := (show Rep.rep _ _ cs9 from hcs9); subst hu; exact (show RetS _ _ (fun r Ψ => ∃ u1 u2 u3 : Value, r = .tuple #[.agg #[.int .i64 h.Hour, u1, u2, u3], .bool (Fu.badF b (Fu.hullOf h (Fu.refI b h l gg i)) (l.getD i default))] ∧ RepSl Ψ (Fu.narF b (Fu.hullOf h (Fu.refI b h l gg i)) (l.getD i default)).V u1 ∧ RepSl Ψ h.Queue u2 ∧ RepSl Ψ (Fu.narF b (Fu.hullOf h (Fu.refI b h l gg i)) (l.getD i default)).K u3) _ _ from ⟨v9, he9, hb9, u1, u2, u3, hr9, q1, q2, q3⟩)) w1 hw1).mono fun e w2 hr => by obtain ⟨v9, he9, hb9, u1, u2, u3, hr9, q1, q2, q3⟩ := hr; exact ⟨v9, he9, hb9, (u1, u2, u3), hr9, q1, q2, q3⟩)) ?_
            rintro ⟨⟨⟨nv1, nv2, nv3⟩, Φ1⟩, ⟨knv1, knv2, knv3⟩, hlΦ1⟩
            replace knv1 : RepSl Φ1 (Fu.narF b (Fu.hullOf h (Fu.refI b h l gg i)) (l.getD i default)).V nv1 := knv1
            replace knv2 : RepSl Φ1 h.Queue nv2 := knv2
            replace knv3 : RepSl Φ1 (Fu.narF b (Fu.hullOf h (Fu.refI b h l gg i)) (l.getD i default)).K nv3 := knv3
            replace hlΦ1 : Hp.le Φj Φ1 := hlΦ1
            replace hB := hB.mono hlΦ1
            replace r3 := r3.mono hlΦ1
            replace r6 := r6.mono hlΦ1
            replace hH := hH.mono hlΦ1
            replace hr1 := hr1.mono hlΦ1
            replace hr2 := hr2.mono hlΦ1
            replace hr3 := hr3.mono hlΦ1
            replace hl := hl.mono hlΦ1
            replace ga := ga.mono hlΦ1
            replace gb := gb.mono hlΦ1
            replace gc := gc.mono hlΦ1
            replace gn := gn.mono hlΦ1
            refine DT.q (v := .tuple #[.agg #[.int .i64 h.Hour, nv1, nv2, nv3], .bool (Fu.badF b (Fu.hullOf h (Fu.refI b h l gg i)) (l.getD i default))]) (fun _ h => StP.know hlΦ1 (StP.drop h (by exact .cons _ (.cons_cons _ (.cons_cons _ (.cons_cons _ (.slnil))))))) rfl (q_move rfl) ?_
            refine DT.q (v := .agg #[.int .i64 h.Hour, nv1, nv2, nv3]) (fun _ h => StP.know hlΦ1 (StP.drop h (by exact .cons _ (.cons_cons _ (.cons_cons _ (.cons_cons _ (.slnil))))))) rfl (q_extract rfl rfl) ?_
            refine DT.q (v := .bool (Fu.badF b (Fu.hullOf h (Fu.refI b h l gg i)) (l.getD i default))) (fun _ h => StP.know hlΦ1 (StP.drop h (by exact .cons _ (.cons_cons _ (.cons_cons _ (.cons_cons _ (.slnil))))))) rfl (q_extract rfl rfl) ?_
            refine DT.effn (J' := St ⟨w, Φ, []⟩ Φ1 [.blk b4 36 [.int .i64 h.Hour, nv1, nv2, nv3], .blk b3 36 [.int .i64 0, (.slice none 0 0), (.slice none 0 0), (.slice none 0 0)], .blk b2 36 [.int .i64 h.Hour, wa, wb, wc], .blk b1 31 [.string b.Name, v1, .int .i64 b.Cells, v3, v4, v5, v6, v7, v8, v9, .int .i64 b.Err]]) (fun _ => (fun _ h => StP.know hlΦ1 (StP.drop h (by exact .cons _ (.cons_cons _ (.cons_cons _ (.cons_cons _ (.slnil)))))))) (e_store (v := .agg #[.int .i64 h.Hour, nv1, nv2, nv3]) 0 rfl rfl rfl sz36 rfl (by show List.all [_, nv1, nv2, nv3] _ = true; simp only [List.all_cons, List.all_nil, oneCell_sl knv1.sl, oneCell_sl knv2.sl, oneCell_sl knv3.sl]; rfl) rfl rfl rfl) ?_
            refine DT.q (v := .bool (Fu.badF b (Fu.hullOf h (Fu.refI b h l gg i)) (l.getD i default))) (fun _ h => StP.know hlΦ1 (StP.drop h (by exact .cons _ (.cons_cons _ (.cons_cons _ (.cons_cons _ (.slnil))))))) rfl (q_assign rfl) ?_
            refine DT.nil (s' := _) (J' := _) ⟨nv1, nv2, nv3, Φ1, b4, rfl, rfl, knv1, knv2, knv3, hlΦ1⟩ ⟨rfl, rfl, rfl, rfl, rfl, rfl, rfl, rfl, rfl, rfl, rfl, rfl, rfl, rfl, rfl, rfl, rfl, rfl, rfl, rfl, rfl, rfl, rfl, rfl, rfl, rfl, rfl, rfl, rfl, rfl, rfl, rfl, rfl, rfl, rfl, rfl, rfl, rfl, rfl, rfl, trivial⟩ (fun _ h => h)
        rintro _ _ _ ⟨nv1, nv2, nv3, Φ1, b4, rfl, rfl, knv1, knv2, knv3, hlΦ1⟩
        replace hB := hB.mono hlΦ1
        replace r3 := r3.mono hlΦ1
        replace r6 := r6.mono hlΦ1
        replace hH := hH.mono hlΦ1
        replace hr1 := hr1.mono hlΦ1
        replace hr2 := hr2.mono hlΦ1
        replace hr3 := hr3.mono hlΦ1
        replace hl := hl.mono hlΦ1
        replace ga := ga.mono hlΦ1
        replace gb := gb.mono hlΦ1
        replace gc := gc.mono hlΦ1
        replace gn := gn.mono hlΦ1
        refine Post.then_n ?_
        refine AW.seq ?_
        refine AW.region ?_
        refine RW.q (v := .agg #[.int .i64 h.Hour, nv1, nv2, nv3]) rfl (q_loadAgg rfl Try.underlying36 rfl sz36 rfl (Cells.blk 0 rfl)) ?_
        refine RW.effn (J' := St ⟨w, Φ, []⟩ Φ1 [.blk b4 36 [.int .i64 h.Hour, nv1, nv2, nv3], .blk b3 36 [.int .i64 0, (.slice none 0 0), (.slice none 0 0), (.slice none 0 0)], .blk b2 36 [.int .i64 h.Hour, nv1, nv2, nv3], .blk b1 31 [.string b.Name, v1, .int .i64 b.Cells, v3, v4, v5, v6, v7, v8, v9, .int .i64 b.Err]]) (e_store (v := .agg #[.int .i64 h.Hour, nv1, nv2, nv3]) 2 rfl rfl rfl sz36 rfl (by show List.all [_, nv1, nv2, nv3] _ = true; simp only [List.all_cons, List.all_nil, oneCell_sl knv1.sl, oneCell_sl knv2.sl, oneCell_sl knv3.sl]; rfl) rfl rfl rfl) ?_
        refine RW.nil ?_
        refine Post.then_n ?_
        refine AW.seq ?_
        refine AW.region ?_
        refine RW.q (v := .bool (Fu.badF b (Fu.hullOf h (Fu.refI b h l gg i)) (l.getD i default))) rfl (q_move rfl) ?_
        refine RW.nil ?_
        refine Post.then_n ?_
        refine AW.cond (b := Fu.badF b (Fu.hullOf h (Fu.refI b h l gg i)) (l.getD i default)) rfl (fun hc4 => ?_) (fun hc4 => ?_)
        · skip
          have hir := hok.rng
          have hia := hok.asc
          have hil2 := hok.len
          refine AW.region ?_
          refine RW.q (v := mv) rfl (q_move rfl) ?_
          refine RW.q (v := .int .i64 (gg : Int)) rfl (q_move rfl) ?_
          refine RW.eff (fun x : {y : Value × Hp // (fun r Ψ => RepSl Ψ (Fu.appU (Fu.comp (Fu.refI b h l gg i).N) (gg : Int)) r) y.1 y.2 ∧ Hp.le Φ1 y.2} => x.1.1) (fun x => St ⟨w, Φ, []⟩ x.1.2 [.blk b4 36 [.int .i64 h.Hour, nv1, nv2, nv3], .blk b3 36 [.int .i64 0, (.slice none 0 0), (.slice none 0 0), (.slice none 0 0)], .blk b2 36 [.int .i64 h.Hour, nv1, nv2, nv3], .blk b1 31 [.string b.Name, v1, .int .i64 b.Cells, v3, v4, v5, v6, v7, v8, v9, .int .i64 b.Err]]) rfl (e_callS (T := fun r Ψ => RepSl Ψ (Fu.appU (Fu.comp (Fu.refI b h l gg i).N) (gg : Int)) r) (args := #[mv, .int .i64 (gg : Int)]) own46 rfl rfl (fun w1 hw1 => (insert_c w1 _ hw1.phi gn (by unfold I64; omega) (fun x hx => (hir x hx).2) hia (by omega)).mono fun _ _ => id)) ?_
          rintro ⟨⟨lv1, Φ2⟩, hlv1, hlΦ2⟩
          replace hlv1 : RepSl Φ2 (Fu.appU (Fu.comp (Fu.refI b h l gg i).N) (gg : Int)) lv1 := hlv1
          replace hlΦ2 : Hp.le Φ1 Φ2 := hlΦ2
          replace hB := hB.mono hlΦ2
          replace r3 := r3.mono hlΦ2
          replace r6 := r6.mono hlΦ2
          replace hH := hH.mono hlΦ2
          replace hr1 := hr1.mono hlΦ2
          replace hr2 := hr2.mono hlΦ2
          replace hr3 := hr3.mono hlΦ2
          replace hl := hl.mono hlΦ2
          replace ga := ga.mono hlΦ2
          replace gb := gb.mono hlΦ2
          replace gc := gc.mono hlΦ2
          replace gn := gn.mono hlΦ2
          replace knv1 := knv1.mono hlΦ2
          replace knv2 := knv2.mono hlΦ2
          replace knv3 := knv3.mono hlΦ2
          refine RW.q (v := lv1) rfl (q_assign rfl) ?_
          refine RW.nil ?_
          refine Post.blk_n (Post.then_n ?_)
          refine AW.region ?_
          refine RW.q (v := .int .i64 (i : Int)) rfl (q_move rfl) ?_
          refine RW.q (v := .int .i64 ((i + 1 : Nat) : Int)) rfl (q_add rfl rfl (by omega) (by unfold I64; omega)) ?_
          refine RW.q (v := .int .i64 ((i + 1 : Nat) : Int)) rfl (q_assign rfl) ?_
          refine RW.nil ?_
          have hst := (Fu.refI_yes (b := b) (h := h) (by omega) hge hhe).trans (Fu.narF_step b h (Fu.refI b h l gg i) (l.getD i default))
          have hgl3 : Hp.le Φg Φ2 := (Hp.le_trans (Hp.le_trans hgl2 hlΦ1) hlΦ2)
          exact Post.back (s' := _) (J' := _) (m' := _) (by omega) ⟨i + 1, Φ2, nv1, nv2, nv3, lv1, rfl, rfl, rfl, (by omega), (by assumption), (by rw [hst]; exact knv1), knv2, (by rw [hst]; exact knv3), (by rw [hst]; dsimp only; rw [if_pos hc4, Fu.comp_snoc, hge]; exact hlv1)⟩ ⟨rfl, rfl, rfl, rfl, rfl, rfl, rfl, rfl, trivial⟩ (fun _ h => StP.drop h (by exact .cons _ (.cons_cons _ (.cons_cons _ (.cons_cons _ (.slnil))))))
        · skip
          refine AW.skip ?_
          refine Post.blk_n (Post.then_n ?_)
          refine AW.region ?_
          refine RW.q (v := .int .i64 (i : Int)) rfl (q_move rfl) ?_
          refine RW.q (v := .int .i64 ((i + 1 : Nat) : Int)) rfl (q_add rfl rfl (by omega) (by unfold I64; omega)) ?_
          refine RW.q (v := .int .i64 ((i + 1 : Nat) : Int)) rfl (q_assign rfl) ?_
          refine RW.nil ?_
          have hst := (Fu.refI_yes (b := b) (h := h) (by omega) hge hhe).trans (Fu.narF_step b h (Fu.refI b h l gg i) (l.getD i default))
          have hgl3 : Hp.le Φg Φ1 := (Hp.le_trans hgl2 hlΦ1)
          exact Post.back (s' := _) (J' := _) (m' := _) (by omega) ⟨i + 1, Φ1, nv1, nv2, nv3, mv, rfl, rfl, rfl, (by omega), (by assumption), (by rw [hst]; exact knv1), knv2, (by rw [hst]; exact knv3), (by rw [hst]; dsimp only; rw [if_neg (by simpa using hc4)]; exact gn)⟩ ⟨rfl, rfl, rfl, rfl, rfl, rfl, rfl, rfl, trivial⟩ (fun _ h => StP.drop h (by exact .cons _ (.cons_cons _ (.cons_cons _ (.cons_cons _ (.slnil))))))
    · simp [-List.getD_eq_getElem?_getD] at hc2
      refine AW.exit ?_
      refine Post.then_x (Post.then_x (Post.blk_hit (Post.blk_n (Post.then_n ?_))))
      refine AW.region ?_
      refine RW.q (v := .int .i64 (gg : Int)) rfl (q_move rfl) ?_
      refine RW.q (v := .int .i64 ((gg + 1 : Nat) : Int)) rfl (q_add rfl rfl (by omega) (by unfold I64; omega)) ?_
      refine RW.q (v := .int .i64 ((gg + 1 : Nat) : Int)) rfl (q_assign rfl) ?_
      refine RW.nil ?_
      have hil : i = l.length := by omega
      subst hil
      have hnx := Fu.refI_next b h l gg
      exact Post.back (s' := _) (J' := _) (m' := _) (by omega) ⟨gg + 1, Φj, wa, wb, wc, mv, rfl, rfl, rfl, (by omega), (Hp.le_trans hgl hgl2), (by rw [← hnx]; exact ga), gb, (by rw [← hnx]; exact gc), (by rw [← hnx]; exact gn)⟩ ⟨rfl, rfl, rfl, rfl, rfl, rfl, rfl, trivial⟩ (fun _ h => h)
  · simp [-List.getD_eq_getElem?_getD] at hc1
    refine AW.exit ?_
    refine Post.then_x (Post.then_x (Post.blk_hit (Post.then_n ?_)))
    refine AW.seq ?_
    refine AW.region ?_
    refine RW.q (v := .agg #[.int .i64 h.Hour, va, vb, vc]) rfl (q_loadAgg rfl Try.underlying36 rfl sz36 rfl (Cells.blk 1 rfl)) ?_
    refine RW.q (v := nv) rfl (q_move rfl) ?_
    refine RW.effn (J' := St ⟨w, Φ, []⟩ Φg [.blk b3 36 [.int .i64 h.Hour, va, vb, vc], .blk b2 36 [.int .i64 h.Hour, va, vb, vc], .blk b1 31 [.string b.Name, v1, .int .i64 b.Cells, v3, v4, v5, v6, v7, v8, v9, .int .i64 b.Err]]) (e_store (v := .agg #[.int .i64 h.Hour, va, vb, vc]) 0 rfl rfl rfl sz36 rfl (by show List.all [_, va, vb, vc] _ = true; simp only [List.all_cons, List.all_nil, oneCell_sl ha.sl, oneCell_sl hb.sl, oneCell_sl hc.sl]; rfl) rfl rfl rfl) ?_
    refine RW.q (v := nv) rfl (q_assign rfl) ?_
    refine RW.nil ?_
    refine Post.then_n ?_
    refine AW.ret ?_
    have hge2 : gg = b.Gauges.length := by omega
    subst hge2
    rw [Fu.refI_end] at ha hc hn
    refine fin_cell2 (cs := [.int .i64 h.Hour, va, vb, vc]) (v := nv) rfl rfl rfl rfl Try.underlying36 rfl sz36 rfl (Cells.blk 0 rfl) (fun w' hw => ?_)
    exact ⟨_, rfl, hw.below rfl, va, vb, vc, nv, rfl, ha.mono hw.phi_ext, hb.mono hw.phi_ext, hc.mono hw.phi_ext, hn.mono hw.phi_ext⟩

end Go.Proofs.Ytblfeidlnhdekaa
