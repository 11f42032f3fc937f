/- Walks (part LawA), printed by walk2.py. Conditions: those of each theorem. -/
import Derived.Test.YtpeojogjeopfaaaWalkH
import Derived.Test.YtpeojogjeopfaaaLaws
namespace Go.Proofs.Ytpeojogjeopfaaa
open Go Go.K Go.RowKit

set_option maxRecDepth 8000 in
set_option maxHeartbeats 1000000 in
theorem AllotTells_c (w : World) (Φ : Hp) (hΦ : Hp.le Φ (hp w)) {b : Bt.Basin} {cs : List Value} (hB : RepV Φ b cs) {rs : List Bt.Right} {v2s : Value} (h2 : RepSl Φ rs v2s) {sup : List Int} {v1s : Value} (h1 : RepSl Φ sup v1s) {gs : List Bt.Grant} {v4s : Value} (h4 : RepSl Φ gs v4s) {p : Int} :
    Calls Try.prog 3 #[.agg cs.toArray, v2s, v1s, v4s, .int .i64 p] w fun e w' => e = .returned (.bool true) ∧ Below w.heap.size w w' := by
  obtain ⟨v1, v3, v4, v5, v6, v7, v8, v9, hcs, hBw, r1, r3, r4, r5, r6, r7, r8, r9⟩ := (show Rep.rep Φ b cs from hB)
  subst hcs
  have hpm : b.Places.length * 152 ≤ 140737488355328 := r3.max
  refine calls_of_AW (args := [.agg #[.string b.Name, v1, .int .i64 b.Cells, v3, v4, v5, v6, v7, v8, v9, .int .i64 b.Err], v2s, v1s, v4s, .int .i64 p]) Try.func3 rfl (Nat.le_of_ble_eq_true rfl) (St ⟨w, Φ, []⟩ Φ []) (StP.init w Φ hΦ []) ?_
  show AW Try.prog 74 [] _ _ _ [(0, .agg #[.string b.Name, v1, .int .i64 b.Cells, v3, v4, v5, v6, v7, v8, v9, .int .i64 b.Err]), (1, v2s), (2, v1s), (3, v4s), (4, .int .i64 p)] _
  have hsk : ∀ k, Al.Ok64 (sup.getD k 0) := fun k => by have := h1.i64D k; unfold I64 at this; unfold Al.Ok64 Al.minI Al.maxI; omega
  have hm1 : sup.length * 8 ≤ 140737488355328 := h1.max
  have hm2 : rs.length * 72 ≤ 140737488355328 := h2.max
  refine AW.seq ?_
  refine AW.region ?_
  refine RW.eff (fun b1 : Nat => .pointer (some (⟨b1, 0, none⟩))) (fun b1 => St ⟨w, Φ, []⟩ Φ [.blk b1 31 [.string b.Name, v1, .int .i64 b.Cells, v3, v4, v5, v6, v7, v8, v9, .int .i64 b.Err]]) rfl (e_boxA (cs := [.string b.Name, v1, .int .i64 b.Cells, v3, v4, v5, v6, v7, v8, v9, .int .i64 b.Err]) rfl) ?_
  intro b1
  refine RW.q (v := .bool false) rfl (q_assign rfl) ?_
  refine RW.nil ?_
  refine Post.then_n ?_
  refine AW.seq ?_
  refine AW.region ?_
  refine RW.q (v := .bool true) rfl (q_call (args := #[]) own9 rfl rfl (fun w1 hw1 => small_c w1 (Go.K.hp w1) (Hp.le_refl _))) ?_
  refine RW.q (v := .bool true) rfl (q_assign rfl) ?_
  refine RW.nil ?_
  refine Post.then_n ?_
  refine AW.seq ?_
  refine AW.region ?_
  refine RW.q (v := .agg #[.string b.Name, v1, .int .i64 b.Cells, v3, v4, v5, v6, v7, v8, v9, .int .i64 b.Err]) rfl (q_loadAgg rfl Try.underlying31 rfl sz31 rfl (Cells.blk 0 rfl)) ?_
  refine RW.q (v := v2s) rfl (q_move rfl) ?_
  refine RW.q (v := v4s) rfl (q_move rfl) ?_
  refine RW.q (v := .bool (decide ((b.Places.length : Int) ≤ 64) && decide ((rs.length : Int) ≤ 40) && decide ((gs.length : Int) ≤ 80))) rfl (q_call (args := #[.agg #[.string b.Name, v1, .int .i64 b.Cells, v3, v4, v5, v6, v7, v8, v9, .int .i64 b.Err], v2s, v4s]) own10 rfl rfl (fun w1 hw1 => few_c w1 (Go.K.hp w1) (Hp.le_refl _) (hB.mono hw1.phi) (h2.mono hw1.phi) (h4.mono hw1.phi))) ?_
  refine RW.q (v := .bool (decide ((b.Places.length : Int) ≤ 64) && decide ((rs.length : Int) ≤ 40) && decide ((gs.length : Int) ≤ 80))) rfl (q_assign rfl) ?_
  refine RW.nil ?_
  refine Post.then_n ?_
  refine AW.seq ?_
  refine AW.seq ?_
  refine AW.region ?_
  refine RW.q (v := .bool (decide ((b.Places.length : Int) ≤ 64) && decide ((rs.length : Int) ≤ 40) && decide ((gs.length : Int) ≤ 80))) rfl (q_move rfl) ?_
  refine RW.q (v := .bool (!(decide ((b.Places.length : Int) ≤ 64) && decide ((rs.length : Int) ≤ 40) && decide ((gs.length : Int) ≤ 80)))) rfl (q_not rfl) ?_
  refine RW.nil ?_
  refine Post.then_n ?_
  refine AW.cond (b := !(decide ((b.Places.length : Int) ≤ 64) && decide ((rs.length : Int) ≤ 40) && decide ((gs.length : Int) ≤ 80))) rfl (fun hc1 => ?_) (fun hc1 => ?_)
  · simp [-List.getD_eq_getElem?_getD] at hc1
    refine AW.seq ?_
    refine AW.region ?_
    refine RW.q (v := .bool true) rfl (q_move rfl) ?_
    refine RW.q (v := .bool true) rfl (q_assign rfl) ?_
    refine RW.nil ?_
    refine Post.then_n ?_
    refine AW.ret ?_
    refine Post.then_r ?_
    exact fin_val (v' := .bool true) rfl rfl rfl (by rfl)
  · simp [-List.getD_eq_getElem?_getD] at hc1
    refine AW.skip ?_
    refine Post.then_n ?_
    refine AW.seq ?_
    refine AW.region ?_
    refine RW.q (v := .agg #[.string b.Name, v1, .int .i64 b.Cells, v3, v4, v5, v6, v7, v8, v9, .int .i64 b.Err]) rfl (q_loadAgg rfl Try.underlying31 rfl sz31 rfl (Cells.blk 0 rfl)) ?_
    refine RW.q (v := v2s) rfl (q_move rfl) ?_
    refine RW.q (v := v1s) rfl (q_move rfl) ?_
    refine RW.eff (fun x : {y : Value × Value × Hp // RepSl y.2.2 (Al.day b.Places rs sup).2 y.1 ∧ IsSl y.2.1 b.Places.length ∧ Hp.le Φ y.2.2} => .tuple #[x.1.1, x.1.2.1]) (fun x => St ⟨w, Φ, []⟩ x.1.2.2 [.row x.1.2.1 3 1 b.Places.length (((Al.day b.Places rs sup).1).map (Value.int .i64)), .blk b1 31 [.string b.Name, v1, .int .i64 b.Cells, v3, v4, v5, v6, v7, v8, v9, .int .i64 b.Err]]) rfl (e_call (args := #[.agg #[.string b.Name, v1, .int .i64 b.Cells, v3, v4, v5, v6, v7, v8, v9, .int .i64 b.Err], v2s, v1s]) own11 rfl rfl (fun w1 hw1 => Day_c rfl hB h2 h1 w1 hw1)) ?_
    rintro ⟨⟨gv1, dl1, Φ1⟩, hgr1, hdl1, hlΦ1⟩
    replace hgr1 : RepSl Φ1 (Al.day b.Places rs sup).2 gv1 := hgr1
    replace hlΦ1 : Hp.le Φ Φ1 := hlΦ1
    replace hB := hB.mono hlΦ1
    replace r3 := r3.mono hlΦ1
    replace h1 := h1.mono hlΦ1
    replace h2 := h2.mono hlΦ1
    replace h4 := h4.mono hlΦ1
    refine RW.frz (fun Φ2 hlΦ2 hshle1 => ?_)
    replace hB := hB.mono hlΦ2
    replace r3 := r3.mono hlΦ2
    replace h1 := h1.mono hlΦ2
    replace h2 := h2.mono hlΦ2
    replace h4 := h4.mono hlΦ2
    replace hgr1 := hgr1.mono hlΦ2
    replace hle1 : RepSl Φ2 ((Al.day b.Places rs sup).1) dl1 := RowS.ints (T := 3) (n := b.Places.length) (hshle1) (by simp only [maxSl]; omega) (fun x hx => by have h9 := (Al.day_li (ps := b.Places) hsk _).mem x hx; unfold I64; omega)
    refine RW.q (v := .tuple #[gv1, dl1]) rfl (q_move rfl) ?_
    refine RW.q (v := gv1) rfl (q_extract rfl rfl) ?_
    refine RW.q (v := dl1) rfl (q_extract rfl rfl) ?_
    refine RW.q (v := gv1) rfl (q_assign rfl) ?_
    refine RW.q (v := dl1) rfl (q_assign rfl) ?_
    refine RW.nil ?_
    refine Post.then_n ?_
    refine AW.seq ?_
    refine AW.region ?_
    refine RW.q (v := .agg #[.string b.Name, v1, .int .i64 b.Cells, v3, v4, v5, v6, v7, v8, v9, .int .i64 b.Err]) rfl (q_loadAgg rfl Try.underlying31 rfl sz31 rfl (Cells.blk 0 rfl)) ?_
    refine RW.q (v := v2s) rfl (q_move rfl) ?_
    refine RW.q (v := v1s) rfl (q_move rfl) ?_
    refine RW.eff (fun x : {y : Value × Value × Hp // RepSl y.2.2 (Al.day b.Places rs sup).2 y.1 ∧ IsSl y.2.1 b.Places.length ∧ Hp.le Φ2 y.2.2} => .tuple #[x.1.1, x.1.2.1]) (fun x => St ⟨w, Φ, []⟩ x.1.2.2 [.row x.1.2.1 3 1 b.Places.length (((Al.day b.Places rs sup).1).map (Value.int .i64)), .blk b1 31 [.string b.Name, v1, .int .i64 b.Cells, v3, v4, v5, v6, v7, v8, v9, .int .i64 b.Err]]) rfl (e_call (args := #[.agg #[.string b.Name, v1, .int .i64 b.Cells, v3, v4, v5, v6, v7, v8, v9, .int .i64 b.Err], v2s, v1s]) own12 rfl rfl (fun w1 hw1 => rDay_c rfl hB h2 h1 w1 hw1)) ?_
    rintro ⟨⟨gv2, dl2, Φ3⟩, hgr2, hdl2, hlΦ3⟩
    replace hgr2 : RepSl Φ3 (Al.day b.Places rs sup).2 gv2 := hgr2
    replace hlΦ3 : Hp.le Φ2 Φ3 := hlΦ3
    replace hB := hB.mono hlΦ3
    replace r3 := r3.mono hlΦ3
    replace h1 := h1.mono hlΦ3
    replace h2 := h2.mono hlΦ3
    replace h4 := h4.mono hlΦ3
    replace hgr1 := hgr1.mono hlΦ3
    replace hle1 := hle1.mono hlΦ3
    refine RW.frz (fun Φ4 hlΦ4 hshle2 => ?_)
    replace hB := hB.mono hlΦ4
    replace r3 := r3.mono hlΦ4
    replace h1 := h1.mono hlΦ4
    replace h2 := h2.mono hlΦ4
    replace h4 := h4.mono hlΦ4
    replace hgr1 := hgr1.mono hlΦ4
    replace hle1 := hle1.mono hlΦ4
    replace hgr2 := hgr2.mono hlΦ4
    replace hle2 : RepSl Φ4 ((Al.day b.Places rs sup).1) dl2 := RowS.ints (T := 3) (n := b.Places.length) (hshle2) (by simp only [maxSl]; omega) (fun x hx => by have h9 := (Al.day_li (ps := b.Places) hsk _).mem x hx; unfold I64; omega)
    refine RW.q (v := .tuple #[gv2, dl2]) rfl (q_move rfl) ?_
    refine RW.q (v := gv2) rfl (q_extract rfl rfl) ?_
    refine RW.q (v := dl2) rfl (q_extract rfl rfl) ?_
    refine RW.q (v := gv2) rfl (q_assign rfl) ?_
    refine RW.q (v := dl2) rfl (q_assign rfl) ?_
    refine RW.nil ?_
    refine Post.then_n ?_
    refine AW.seq ?_
    have hB_0 := hB
    have r3_0 := r3
    have h1_0 := h1
    have h2_0 := h2
    have h4_0 := h4
    have hgr1_0 := hgr1
    have hle1_0 := hle1
    have hgr2_0 := hgr2
    have hle2_0 := hle2
    refine AW.draw (J0 := St ⟨w, Φ, []⟩ Φ4 [.blk b1 31 [.string b.Name, v1, .int .i64 b.Cells, v3, v4, v5, v6, v7, v8, v9, .int .i64 b.Err]]) [.q, .q, .q, .q, .e, .e, .e, .q] [0, 1, 3, 4, 2, 5, 6, 7] hmix (by kernel_rfl) ?_
    refine DW.q (v := .agg #[.string b.Name, v1, .int .i64 b.Cells, v3, v4, v5, v6, v7, v8, v9, .int .i64 b.Err]) (fun _ h => h) rfl (q_loadAgg rfl Try.underlying31 rfl sz31 rfl (Cells.blk 0 rfl)) ?_
    refine DW.q (v := .int .i64 p) (fun _ h => h) rfl (q_move rfl) ?_
    refine DW.q (v := .agg #[.string b.Name, v1, .int .i64 b.Cells, v3, v4, v5, v6, v7, v8, v9, .int .i64 b.Err]) (fun _ h => h) rfl (q_loadAgg rfl Try.underlying31 rfl sz31 rfl (Cells.blk 0 rfl)) ?_
    refine DW.q (v := .int .i64 p) (fun _ h => h) rfl (q_move rfl) ?_
    refine DW.eff (fun x : {y : Value × Hp // (fun r Ψ => RepSl Ψ (Al.reach b.Places p) r) y.1 y.2 ∧ Hp.le Φ4 y.2} => x.1.1) (fun x => St ⟨w, Φ, []⟩ x.1.2 [.blk b1 31 [.string b.Name, v1, .int .i64 b.Cells, v3, v4, v5, v6, v7, v8, v9, .int .i64 b.Err]]) (fun _ x => (fun _ h => StP.know x.2.2 h)) rfl (e_callS (T := fun r Ψ => RepSl Ψ (Al.reach b.Places p) r) (args := #[.agg #[.string b.Name, v1, .int .i64 b.Cells, v3, v4, v5, v6, v7, v8, v9, .int .i64 b.Err], .int .i64 p]) own14 rfl rfl (fun w1 hw1 => (Reach_c w1 (Go.K.hp w1) (Hp.le_refl _) (hB.mono hw1.phi)).mono fun _ _ => retS_up (fun _ _ _ hl h => h.mono hl))) ?_
    rintro ⟨⟨lv1, Φ5⟩, hlv1, hlΦ5⟩
    replace hlv1 : RepSl Φ5 (Al.reach b.Places p) lv1 := hlv1
    replace hlΦ5 : Hp.le Φ4 Φ5 := hlΦ5
    replace hB := hB.mono hlΦ5
    replace r3 := r3.mono hlΦ5
    replace h1 := h1.mono hlΦ5
    replace h2 := h2.mono hlΦ5
    replace h4 := h4.mono hlΦ5
    replace hgr1 := hgr1.mono hlΦ5
    replace hle1 := hle1.mono hlΦ5
    replace hgr2 := hgr2.mono hlΦ5
    replace hle2 := hle2.mono hlΦ5
    refine DW.eff (fun x : {y : Value × Hp // (fun r Ψ => RepSl Ψ (Al.reach b.Places p) r) y.1 y.2 ∧ Hp.le Φ5 y.2} => x.1.1) (fun x => St ⟨w, Φ, []⟩ x.1.2 [.blk b1 31 [.string b.Name, v1, .int .i64 b.Cells, v3, v4, v5, v6, v7, v8, v9, .int .i64 b.Err]]) (fun _ x => (fun _ h => StP.know (Hp.le_trans hlΦ5 x.2.2) h)) rfl (e_callS (T := fun r Ψ => RepSl Ψ (Al.reach b.Places p) r) (args := #[.agg #[.string b.Name, v1, .int .i64 b.Cells, v3, v4, v5, v6, v7, v8, v9, .int .i64 b.Err], .int .i64 p]) own15 rfl rfl (fun w1 hw1 => (rReach_c w1 (Go.K.hp w1) (Hp.le_refl _) (hB.mono hw1.phi)).mono fun _ _ => retS_up (fun _ _ _ hl h => h.mono hl))) ?_
    rintro ⟨⟨lv2, Φ6⟩, hlv2, hlΦ6⟩
    replace hlv2 : RepSl Φ6 (Al.reach b.Places p) lv2 := hlv2
    replace hlΦ6 : Hp.le Φ5 Φ6 := hlΦ6
    replace hB := hB.mono hlΦ6
    replace r3 := r3.mono hlΦ6
    replace h1 := h1.mono hlΦ6
    replace h2 := h2.mono hlΦ6
    replace h4 := h4.mono hlΦ6
    replace hgr1 := hgr1.mono hlΦ6
    replace hle1 := hle1.mono hlΦ6
    replace hgr2 := hgr2.mono hlΦ6
    replace hle2 := hle2.mono hlΦ6
    replace hlv1 := hlv1.mono hlΦ6
    refine DW.qe (v := .bool true) (fun _ => (fun _ h => StP.know (Hp.le_trans hlΦ5 hlΦ6) h)) rfl (q_as (v := .bool (decide ((Al.reach b.Places p) = (Al.reach b.Places p)))) (q_call (args := #[lv1, lv2]) own13 rfl rfl (fun w1 hw1 => SameInts_c w1 (Go.K.hp w1) (Hp.le_refl _) (hlv1.mono hw1.phi) (hlv2.mono hw1.phi))) (congrArg Value.bool (decide_eq_true rfl))) ?_
    refine DW.q (v := .bool true) (fun _ h => StP.know (Hp.le_trans hlΦ5 hlΦ6) h) rfl (q_assign rfl) ?_
    refine DW.nil ?_
    refine Post.then_n ?_
    refine AW.seq ?_
    have hB_0 := hB
    have r3_0 := r3
    have h1_0 := h1
    have h2_0 := h2
    have h4_0 := h4
    have hgr1_0 := hgr1
    have hle1_0 := hle1
    have hgr2_0 := hgr2
    have hle2_0 := hle2
    have hlv1_0 := hlv1
    have hlv2_0 := hlv2
    refine AW.draw (J0 := St ⟨w, Φ, []⟩ Φ6 [.blk b1 31 [.string b.Name, v1, .int .i64 b.Cells, v3, v4, v5, v6, v7, v8, v9, .int .i64 b.Err]]) [.q, .q, .q, .q, .q, .q, .e, .e, .e, .q] [0, 1, 2, 4, 5, 6, 3, 7, 8, 9] hmix (by kernel_rfl) ?_
    refine DW.q (v := .agg #[.string b.Name, v1, .int .i64 b.Cells, v3, v4, v5, v6, v7, v8, v9, .int .i64 b.Err]) (fun _ h => h) rfl (q_loadAgg rfl Try.underlying31 rfl sz31 rfl (Cells.blk 0 rfl)) ?_
    refine DW.q (v := v2s) (fun _ h => h) rfl (q_move rfl) ?_
    refine DW.q (v := v4s) (fun _ h => h) rfl (q_move rfl) ?_
    refine DW.q (v := .agg #[.string b.Name, v1, .int .i64 b.Cells, v3, v4, v5, v6, v7, v8, v9, .int .i64 b.Err]) (fun _ h => h) rfl (q_loadAgg rfl Try.underlying31 rfl sz31 rfl (Cells.blk 0 rfl)) ?_
    refine DW.q (v := v2s) (fun _ h => h) rfl (q_move rfl) ?_
    refine DW.q (v := v4s) (fun _ h => h) rfl (q_move rfl) ?_
    refine DW.eff (fun x : {y : Value × Hp // (fun r Ψ => RepSl Ψ (Al.back b.Places rs gs) r) y.1 y.2 ∧ Hp.le Φ6 y.2} => x.1.1) (fun x => St ⟨w, Φ, []⟩ x.1.2 [.blk b1 31 [.string b.Name, v1, .int .i64 b.Cells, v3, v4, v5, v6, v7, v8, v9, .int .i64 b.Err]]) (fun _ x => (fun _ h => StP.know x.2.2 h)) rfl (e_callS (T := fun r Ψ => RepSl Ψ (Al.back b.Places rs gs) r) (args := #[.agg #[.string b.Name, v1, .int .i64 b.Cells, v3, v4, v5, v6, v7, v8, v9, .int .i64 b.Err], v2s, v4s]) own16 rfl rfl (fun w1 hw1 => (Back_c w1 (Go.K.hp w1) (Hp.le_refl _) (hB.mono hw1.phi) (h2.mono hw1.phi) (h4.mono hw1.phi)).mono fun _ _ => retS_up (fun _ _ _ hl h => h.mono hl))) ?_
    rintro ⟨⟨lv3, Φ7⟩, hlv3, hlΦ7⟩
    replace hlv3 : RepSl Φ7 (Al.back b.Places rs gs) lv3 := hlv3
    replace hlΦ7 : Hp.le Φ6 Φ7 := hlΦ7
    replace hB := hB.mono hlΦ7
    replace r3 := r3.mono hlΦ7
    replace h1 := h1.mono hlΦ7
    replace h2 := h2.mono hlΦ7
    replace h4 := h4.mono hlΦ7
    replace hgr1 := hgr1.mono hlΦ7
    replace hle1 := hle1.mono hlΦ7
    replace hgr2 := hgr2.mono hlΦ7
    replace hle2 := hle2.mono hlΦ7
    replace hlv1 := hlv1.mono hlΦ7
    replace hlv2 := hlv2.mono hlΦ7
    refine DW.eff (fun x : {y : Value × Hp // (fun r Ψ => RepSl Ψ (Al.back b.Places rs gs) r) y.1 y.2 ∧ Hp.le Φ7 y.2} => x.1.1) (fun x => St ⟨w, Φ, []⟩ x.1.2 [.blk b1 31 [.string b.Name, v1, .int .i64 b.Cells, v3, v4, v5, v6, v7, v8, v9, .int .i64 b.Err]]) (fun _ x => (fun _ h => StP.know (Hp.le_trans hlΦ7 x.2.2) h)) rfl (e_callS (T := fun r Ψ => RepSl Ψ (Al.back b.Places rs gs) r) (args := #[.agg #[.string b.Name, v1, .int .i64 b.Cells, v3, v4, v5, v6, v7, v8, v9, .int .i64 b.Err], v2s, v4s]) own17 rfl rfl (fun w1 hw1 => (rBack_c w1 (Go.K.hp w1) (Hp.le_refl _) (hB.mono hw1.phi) (h2.mono hw1.phi) (h4.mono hw1.phi)).mono fun _ _ => retS_up (fun _ _ _ hl h => h.mono hl))) ?_
    rintro ⟨⟨lv4, Φ8⟩, hlv4, hlΦ8⟩
    replace hlv4 : RepSl Φ8 (Al.back b.Places rs gs) lv4 := hlv4
    replace hlΦ8 : Hp.le Φ7 Φ8 := hlΦ8
    replace hB := hB.mono hlΦ8
    replace r3 := r3.mono hlΦ8
    replace h1 := h1.mono hlΦ8
    replace h2 := h2.mono hlΦ8
    replace h4 := h4.mono hlΦ8
    replace hgr1 := hgr1.mono hlΦ8
    replace hle1 := hle1.mono hlΦ8
    replace hgr2 := hgr2.mono hlΦ8
    replace hle2 := hle2.mono hlΦ8
    replace hlv1 := hlv1.mono hlΦ8
    replace hlv2 := hlv2.mono hlΦ8
    replace hlv3 := hlv3.mono hlΦ8
    refine DW.qe (v := .bool true) (fun _ => (fun _ h => StP.know (Hp.le_trans hlΦ7 hlΦ8) h)) rfl (q_as (v := .bool (decide ((Al.back b.Places rs gs) = (Al.back b.Places rs gs)))) (q_call (args := #[lv3, lv4]) own13 rfl rfl (fun w1 hw1 => SameInts_c w1 (Go.K.hp w1) (Hp.le_refl _) (hlv3.mono hw1.phi) (hlv4.mono hw1.phi))) (congrArg Value.bool (decide_eq_true rfl))) ?_
    refine DW.q (v := .bool true) (fun _ h => StP.know (Hp.le_trans hlΦ7 hlΦ8) h) rfl (q_assign rfl) ?_
    refine DW.nil ?_
    refine Post.then_n ?_
    refine AW.seq ?_
    refine AW.region ?_
    refine RW.q (v := .bool true) rfl (q_move rfl) ?_
    refine RW.q (v := .bool true) rfl (q_move rfl) ?_
    refine RW.gl (v := .bool true) rfl rfl rfl (q_move rfl) ?_
    refine RW.q (v := .bool true) rfl (q_pick rfl (fun hp => pkOrT (q := true) (r := false) hp) (fun hp => pkOrF (q := true) (r := false) hp)) ?_
    refine RW.q (v := .bool true) rfl (q_move rfl) ?_
    refine RW.gl (v := .bool true) rfl rfl rfl (q_move rfl) ?_
    refine RW.q (v := .bool true) rfl (q_pick rfl (fun hp => pkOrT (q := true) (r := false) hp) (fun hp => pkOrF (q := true) (r := false) hp)) ?_
    refine RW.q (v := .bool true) rfl (q_move rfl) ?_
    refine RW.gl (v := gv1) rfl rfl rfl (q_move rfl) ?_
    refine RW.gl (v := gv2) rfl rfl rfl (q_move rfl) ?_
    refine RW.gl (v := .bool true) rfl rfl rfl (q_as (v := .bool (decide (((Al.day b.Places rs sup).2) = ((Al.day b.Places rs sup).2)))) (q_call (args := #[gv1, gv2]) own18 rfl rfl (fun w1 hw1 => Same_c w1 (Go.K.hp w1) (Hp.le_refl _) (hgr1.mono hw1.phi) (hgr2.mono hw1.phi))) (congrArg Value.bool (decide_eq_true rfl))) ?_
    refine RW.q (v := .bool true) rfl (q_pick rfl (fun hp => pkOrT (q := true) (r := false) hp) (fun hp => pkOrF (q := true) (r := false) hp)) ?_
    refine RW.q (v := .bool true) rfl (q_move rfl) ?_
    refine RW.gl (v := dl1) rfl rfl rfl (q_move rfl) ?_
    refine RW.gl (v := dl2) rfl rfl rfl (q_move rfl) ?_
    refine RW.gl (v := .bool true) rfl rfl rfl (q_as (v := .bool (decide (((Al.day b.Places rs sup).1) = ((Al.day b.Places rs sup).1)))) (q_call (args := #[dl1, dl2]) own13 rfl rfl (fun w1 hw1 => SameInts_c w1 (Go.K.hp w1) (Hp.le_refl _) (hle1.mono hw1.phi) (hle2.mono hw1.phi))) (congrArg Value.bool (decide_eq_true rfl))) ?_
    refine RW.q (v := .bool true) rfl (q_pick rfl (fun hp => pkOrT (q := true) (r := false) hp) (fun hp => pkOrF (q := true) (r := false) hp)) ?_
    refine RW.q (v := .bool true) rfl (q_assign rfl) ?_
    refine RW.nil ?_
    refine Post.then_n ?_
    refine AW.ret ?_
    exact fin_val (v' := .bool true) rfl rfl rfl (by rfl)

end Go.Proofs.Ytpeojogjeopfaaa
