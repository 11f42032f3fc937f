/- Walks (part LawC), printed by walk2.py. Conditions: those of each theorem. -/
import Derived.Test.YtpeojogjeopfaaaLawB
namespace Go.Proofs.Ytpeojogjeopfaaa
open Go Go.K Go.RowKit

set_option maxRecDepth 8000 in
set_option maxHeartbeats 1000000 in
theorem AllotFirst_n (w : World) (Φ : Hp) (hΦ : Hp.le Φ (hp w)) {b : Bt.Basin} {cs : List Value} (hB : RepV Φ b cs) {rs : List Bt.Right} {v2s : Value} (h2 : RepSl Φ rs v2s) {sup : List Int} {v1s : Value} (h1 : RepSl Φ sup v1s) {mm : Nat} :
    Calls Try.prog 5 #[.agg cs.toArray, v2s, v1s, .int .i64 (mm : Int)] w fun e w' => e = .returned (.bool true) ∧ Below w.heap.size w w' := by
  obtain ⟨v1, v3, v4, v5, v6, v7, v8, v9, hcs, hBw, r1, r3, r4, r5, r6, r7, r8, r9⟩ := (show Rep.rep Φ b cs from hB)
  subst hcs
  have hpm : b.Places.length * 152 ≤ 140737488355328 := r3.max
  refine calls_of_AW (args := [.agg #[.string b.Name, v1, .int .i64 b.Cells, v3, v4, v5, v6, v7, v8, v9, .int .i64 b.Err], v2s, v1s, .int .i64 (mm : Int)]) Try.func5 rfl (Nat.le_of_ble_eq_true rfl) (St ⟨w, Φ, []⟩ Φ []) (StP.init w Φ hΦ []) ?_
  show AW Try.prog 138 [] _ _ _ [(0, .agg #[.string b.Name, v1, .int .i64 b.Cells, v3, v4, v5, v6, v7, v8, v9, .int .i64 b.Err]), (1, v2s), (2, v1s), (3, .int .i64 (mm : Int))] _
  have hsk : ∀ k, Al.Ok64 (sup.getD k 0) := fun k => by have := h1.i64D k; unfold I64 at this; unfold Al.Ok64 Al.minI Al.maxI; omega
  have hm1 : sup.length * 8 ≤ 140737488355328 := h1.max
  have hm2 : rs.length * 72 ≤ 140737488355328 := h2.max
  have hwr := h2.wfE
  refine AW.seq ?_
  refine AW.region ?_
  refine RW.eff (fun b1 : Nat => .pointer (some (⟨b1, 0, none⟩))) (fun b1 => St ⟨w, Φ, []⟩ Φ [.blk b1 31 [.string b.Name, v1, .int .i64 b.Cells, v3, v4, v5, v6, v7, v8, v9, .int .i64 b.Err]]) rfl (e_boxA (cs := [.string b.Name, v1, .int .i64 b.Cells, v3, v4, v5, v6, v7, v8, v9, .int .i64 b.Err]) rfl) ?_
  intro b1
  refine RW.q (v := .bool false) rfl (q_assign rfl) ?_
  refine RW.nil ?_
  refine Post.then_n ?_
  refine AW.seq ?_
  refine AW.region ?_
  refine RW.q (v := .bool true) rfl (q_call (args := #[]) own9 rfl rfl (fun w1 hw1 => small_c w1 (Go.K.hp w1) (Hp.le_refl _))) ?_
  refine RW.q (v := .bool true) rfl (q_assign rfl) ?_
  refine RW.nil ?_
  refine Post.then_n ?_
  refine AW.seq ?_
  refine AW.region ?_
  refine RW.q (v := .agg #[.string b.Name, v1, .int .i64 b.Cells, v3, v4, v5, v6, v7, v8, v9, .int .i64 b.Err]) rfl (q_loadAgg rfl Try.underlying31 rfl sz31 rfl (Cells.blk 0 rfl)) ?_
  refine RW.q (v := v2s) rfl (q_move rfl) ?_
  refine RW.q (v := .bool (decide ((b.Places.length : Int) ≤ 64) && decide ((rs.length : Int) ≤ 40) && decide ((([] : List Bt.Grant).length : Int) ≤ 80))) rfl (q_call (args := #[.agg #[.string b.Name, v1, .int .i64 b.Cells, v3, v4, v5, v6, v7, v8, v9, .int .i64 b.Err], v2s, (.slice none 0 0)]) own10 rfl rfl (fun w1 hw1 => few_c w1 (Go.K.hp w1) (Hp.le_refl _) (hB.mono hw1.phi) (h2.mono hw1.phi) repSl_nil)) ?_
  refine RW.q (v := .bool (decide ((b.Places.length : Int) ≤ 64) && decide ((rs.length : Int) ≤ 40) && decide ((([] : List Bt.Grant).length : Int) ≤ 80))) rfl (q_assign rfl) ?_
  refine RW.nil ?_
  refine Post.then_n ?_
  refine AW.seq ?_
  refine AW.seq ?_
  refine AW.region ?_
  refine RW.q (v := .bool (decide ((b.Places.length : Int) ≤ 64) && decide ((rs.length : Int) ≤ 40) && decide ((([] : List Bt.Grant).length : Int) ≤ 80))) rfl (q_move rfl) ?_
  refine RW.q (v := .bool (!(decide ((b.Places.length : Int) ≤ 64) && decide ((rs.length : Int) ≤ 40) && decide ((([] : List Bt.Grant).length : Int) ≤ 80)))) rfl (q_not rfl) ?_
  refine RW.q (v := .bool (!(decide ((b.Places.length : Int) ≤ 64) && decide ((rs.length : Int) ≤ 40) && decide ((([] : List Bt.Grant).length : Int) ≤ 80)))) rfl (q_move rfl) ?_
  refine RW.g (b := (!(decide ((b.Places.length : Int) ≤ 64) && decide ((rs.length : Int) ≤ 40) && decide ((([] : List Bt.Grant).length : Int) ≤ 80)))) (v := .int .i64 (mm : Int)) rfl rfl rfl (fun h => q_move rfl) ?_
  refine RW.g (b := (!(decide ((b.Places.length : Int) ≤ 64) && decide ((rs.length : Int) ≤ 40) && decide ((([] : List Bt.Grant).length : Int) ≤ 80)))) (v := .bool (decide ((mm : Int) < 0))) rfl rfl rfl (fun h => q_lss (gv_pos h) rfl) ?_
  refine RW.q (v := .bool ((!(decide ((b.Places.length : Int) ≤ 64) && decide ((rs.length : Int) ≤ 40) && decide ((([] : List Bt.Grant).length : Int) ≤ 80))) || (decide ((mm : Int) < 0)))) rfl (q_pick rfl (fun hp => pkOrT hp) (fun hp => (gv_pos hp).trans (pkOrF hp))) ?_
  refine RW.q (v := .bool ((!(decide ((b.Places.length : Int) ≤ 64) && decide ((rs.length : Int) ≤ 40) && decide ((([] : List Bt.Grant).length : Int) ≤ 80))) || (decide ((mm : Int) < 0)))) rfl (q_move rfl) ?_
  refine RW.g (b := ((!(decide ((b.Places.length : Int) ≤ 64) && decide ((rs.length : Int) ≤ 40) && decide ((([] : List Bt.Grant).length : Int) ≤ 80))) || (decide ((mm : Int) < 0)))) (v := .int .i64 (mm : Int)) rfl rfl rfl (fun h => q_move rfl) ?_
  refine RW.g (b := ((!(decide ((b.Places.length : Int) ≤ 64) && decide ((rs.length : Int) ≤ 40) && decide ((([] : List Bt.Grant).length : Int) ≤ 80))) || (decide ((mm : Int) < 0)))) (v := v2s) rfl rfl rfl (fun h => q_move rfl) ?_
  refine RW.g (b := ((!(decide ((b.Places.length : Int) ≤ 64) && decide ((rs.length : Int) ≤ 40) && decide ((([] : List Bt.Grant).length : Int) ≤ 80))) || (decide ((mm : Int) < 0)))) (v := .int .i64 ((rs.length : Nat) : Int)) rfl rfl rfl (fun h => q_len_sl (gv_pos h) h2.sl Try.underlying32) ?_
  refine RW.g (b := ((!(decide ((b.Places.length : Int) ≤ 64) && decide ((rs.length : Int) ≤ 40) && decide ((([] : List Bt.Grant).length : Int) ≤ 80))) || (decide ((mm : Int) < 0)))) (v := .bool (decide (((rs.length : Nat) : Int) < (mm : Int)))) rfl rfl rfl (fun h => q_gtr (gv_pos h) (gv_pos h)) ?_
  refine RW.q (v := .bool (((!(decide ((b.Places.length : Int) ≤ 64) && decide ((rs.length : Int) ≤ 40) && decide ((([] : List Bt.Grant).length : Int) ≤ 80))) || (decide ((mm : Int) < 0))) || (decide (((rs.length : Nat) : Int) < (mm : Int))))) rfl (q_pick rfl (fun hp => pkOrT hp) (fun hp => (gv_pos hp).trans (pkOrF hp))) ?_
  refine RW.nil ?_
  refine Post.then_n ?_
  refine AW.cond (b := ((!(decide ((b.Places.length : Int) ≤ 64) && decide ((rs.length : Int) ≤ 40) && decide ((([] : List Bt.Grant).length : Int) ≤ 80))) || (decide ((mm : Int) < 0))) || (decide (((rs.length : Nat) : Int) < (mm : Int)))) rfl (fun hc1 => ?_) (fun hc1 => ?_)
  · simp [-List.getD_eq_getElem?_getD] at hc1
    refine AW.seq ?_
    refine AW.region ?_
    refine RW.q (v := .bool true) rfl (q_move rfl) ?_
    refine RW.q (v := .bool true) rfl (q_assign rfl) ?_
    refine RW.nil ?_
    refine Post.then_n ?_
    refine AW.ret ?_
    refine Post.then_r ?_
    exact fin_val (v' := .bool true) rfl rfl rfl (rfl)
  · simp [-List.getD_eq_getElem?_getD] at hc1
    refine AW.skip ?_
    refine Post.then_n ?_
    refine AW.seq ?_
    refine AW.region ?_
    refine RW.q (v := .agg #[.string b.Name, v1, .int .i64 b.Cells, v3, v4, v5, v6, v7, v8, v9, .int .i64 b.Err]) rfl (q_loadAgg rfl Try.underlying31 rfl sz31 rfl (Cells.blk 0 rfl)) ?_
    refine RW.q (v := v2s) rfl (q_move rfl) ?_
    refine RW.q (v := v1s) rfl (q_move rfl) ?_
    refine RW.eff (fun x : {y : Value × Value × Hp // RepSl y.2.2 (Al.day b.Places rs sup).2 y.1 ∧ IsSl y.2.1 b.Places.length ∧ Hp.le Φ y.2.2} => .tuple #[x.1.1, x.1.2.1]) (fun x => St ⟨w, Φ, []⟩ x.1.2.2 [.row x.1.2.1 3 1 b.Places.length (((Al.day b.Places rs sup).1).map (Value.int .i64)), .blk b1 31 [.string b.Name, v1, .int .i64 b.Cells, v3, v4, v5, v6, v7, v8, v9, .int .i64 b.Err]]) rfl (e_call (args := #[.agg #[.string b.Name, v1, .int .i64 b.Cells, v3, v4, v5, v6, v7, v8, v9, .int .i64 b.Err], v2s, v1s]) own11 rfl rfl (fun w1 hw1 => Day_c rfl hB h2 h1 w1 hw1)) ?_
    rintro ⟨⟨gv1, dl1, Φ1⟩, hgr1, hdl1, hlΦ1⟩
    replace hgr1 : RepSl Φ1 (Al.day b.Places rs sup).2 gv1 := hgr1
    replace hlΦ1 : Hp.le Φ Φ1 := hlΦ1
    replace hB := hB.mono hlΦ1
    replace r3 := r3.mono hlΦ1
    replace h1 := h1.mono hlΦ1
    replace h2 := h2.mono hlΦ1
    refine RW.frz (fun Φ2 hlΦ2 hshle1 => ?_)
    replace hB := hB.mono hlΦ2
    replace r3 := r3.mono hlΦ2
    replace h1 := h1.mono hlΦ2
    replace h2 := h2.mono hlΦ2
    replace hgr1 := hgr1.mono hlΦ2
    replace hle1 : RepSl Φ2 ((Al.day b.Places rs sup).1) dl1 := RowS.ints (T := 3) (n := b.Places.length) (hshle1) (by simp only [maxSl]; omega) (fun x hx => by have h9 := (Al.day_li (ps := b.Places) hsk _).mem x hx; unfold I64; omega)
    refine RW.q (v := .tuple #[gv1, dl1]) rfl (q_move rfl) ?_
    refine RW.q (v := gv1) rfl (q_extract rfl rfl) ?_
    refine RW.q (v := dl1) rfl (q_extract rfl rfl) ?_
    refine RW.q (v := gv1) rfl (q_assign rfl) ?_
    refine RW.q (v := dl1) rfl (q_assign rfl) ?_
    refine RW.nil ?_
    refine Post.then_n ?_
    refine AW.seq ?_
    have hB_0 := hB
    have r3_0 := r3
    have h1_0 := h1
    have h2_0 := h2
    have hgr1_0 := hgr1
    have hle1_0 := hle1
    refine AW.draw (J0 := St ⟨w, Φ, []⟩ Φ2 [.blk b1 31 [.string b.Name, v1, .int .i64 b.Cells, v3, v4, v5, v6, v7, v8, v9, .int .i64 b.Err]]) [.q, .q, .q, .q, .q, .e, .q, .q, .q, .q, .q] [0, 1, 2, 3, 4, 5, 6, 7, 8, 9, 10] hmix (by kernel_rfl) ?_
    refine DW.q (v := .agg #[.string b.Name, v1, .int .i64 b.Cells, v3, v4, v5, v6, v7, v8, v9, .int .i64 b.Err]) (fun _ h => h) rfl (q_loadAgg rfl Try.underlying31 rfl sz31 rfl (Cells.blk 0 rfl)) ?_
    refine DW.q (v := v2s) (fun _ h => h) rfl (q_move rfl) ?_
    refine DW.q (v := .int .i64 (mm : Int)) (fun _ h => h) rfl (q_move rfl) ?_
    refine DW.q (v := (subSl v2s 0 mm 9)) (fun _ h => h) rfl (q_sliceH (v := v2s) (m := (mm : Int)) rfl rfl h2.sl Try.underlying32 sz45 (by omega) (by omega)) ?_
    refine DW.q (v := v1s) (fun _ h => h) rfl (q_move rfl) ?_
    refine DW.eff (fun x : {y : Value × Value × Hp // RepSl y.2.2 (Al.day b.Places ((rs.take mm).drop 0) sup).2 y.1 ∧ IsSl y.2.1 b.Places.length ∧ Hp.le Φ2 y.2.2} => .tuple #[x.1.1, x.1.2.1]) (fun x => St ⟨w, Φ, []⟩ x.1.2.2 [.row x.1.2.1 3 1 b.Places.length (((Al.day b.Places ((rs.take mm).drop 0) sup).1).map (Value.int .i64)), .blk b1 31 [.string b.Name, v1, .int .i64 b.Cells, v3, v4, v5, v6, v7, v8, v9, .int .i64 b.Err]]) (fun _ x => (fun _ h => StP.know x.2.2.2 (StP.drop h (by exact .cons _ (.cons_cons _ (.slnil)))))) rfl (e_call (args := #[.agg #[.string b.Name, v1, .int .i64 b.Cells, v3, v4, v5, v6, v7, v8, v9, .int .i64 b.Err], (subSl v2s 0 mm 9), v1s]) own11 rfl rfl (fun w1 hw1 => Day_c rfl hB (h2.part (l := 0) (m := mm) (by omega) (by omega)) h1 w1 hw1)) ?_
    rintro ⟨⟨gv2, dl2, Φ3⟩, hgr2, hdl2, hlΦ3⟩
    replace hgr2 : RepSl Φ3 (Al.day b.Places ((rs.take mm).drop 0) sup).2 gv2 := hgr2
    replace hlΦ3 : Hp.le Φ2 Φ3 := hlΦ3
    replace hB := hB.mono hlΦ3
    replace r3 := r3.mono hlΦ3
    replace h1 := h1.mono hlΦ3
    replace h2 := h2.mono hlΦ3
    replace hgr1 := hgr1.mono hlΦ3
    replace hle1 := hle1.mono hlΦ3
    refine DW.q (v := .tuple #[gv2, dl2]) (fun _ h => StP.know hlΦ3 (StP.drop h (by exact .cons _ (.cons_cons _ (.slnil))))) rfl (q_move rfl) ?_
    refine DW.q (v := gv2) (fun _ h => StP.know hlΦ3 (StP.drop h (by exact .cons _ (.cons_cons _ (.slnil))))) rfl (q_extract rfl rfl) ?_
    refine DW.q (v := dl2) (fun _ h => StP.know hlΦ3 (StP.drop h (by exact .cons _ (.cons_cons _ (.slnil))))) rfl (q_extract rfl rfl) ?_
    refine DW.q (v := gv2) (fun _ h => StP.know hlΦ3 (StP.drop h (by exact .cons _ (.cons_cons _ (.slnil))))) rfl (q_assign rfl) ?_
    refine DW.q (v := dl2) (fun _ h => StP.know hlΦ3 (StP.drop h (by exact .cons _ (.cons_cons _ (.slnil))))) rfl (q_assign rfl) ?_
    refine DW.nil ?_
    refine Post.then_n ?_
    refine AW.seq ?_
    refine AW.seq ?_
    have hg1 : (Al.day b.Places rs sup).2.length = rs.length := Al.day_len2 hsk rs
    have hl1 : (Al.day b.Places rs sup).1.length = b.Places.length := Al.day_len1 hsk rs
    have hg2 : (Al.day b.Places ((rs.take mm).drop 0) sup).2.length = (rs.take mm).length := Al.day_len2 hsk (rs.take mm)
    rw [List.length_take] at hg2
    refine AW.region ?_
    refine RW.q (v := gv1) rfl (q_move rfl) ?_
    refine RW.q (v := .int .i64 ((((Al.day b.Places rs sup).2).length : Nat) : Int)) rfl (q_len_sl rfl hgr1.sl Try.underlying33) ?_
    refine RW.q (v := v2s) rfl (q_move rfl) ?_
    refine RW.q (v := .int .i64 ((rs.length : Nat) : Int)) rfl (q_len_sl rfl h2.sl Try.underlying32) ?_
    refine RW.q (v := .bool (!decide (((((Al.day b.Places rs sup).2).length : Nat) : Int) = ((rs.length : Nat) : Int)))) rfl (q_neq rfl rfl) ?_
    refine RW.q (v := .bool (!decide (((((Al.day b.Places rs sup).2).length : Nat) : Int) = ((rs.length : Nat) : Int)))) rfl (q_move rfl) ?_
    refine RW.g (b := (!decide (((((Al.day b.Places rs sup).2).length : Nat) : Int) = ((rs.length : Nat) : Int)))) (v := gv1) rfl rfl rfl (fun h => q_move rfl) ?_
    refine RW.g (b := (!decide (((((Al.day b.Places rs sup).2).length : Nat) : Int) = ((rs.length : Nat) : Int)))) (v := .int .i64 (mm : Int)) rfl rfl rfl (fun h => q_move rfl) ?_
    refine RW.g (b := (!decide (((((Al.day b.Places rs sup).2).length : Nat) : Int) = ((rs.length : Nat) : Int)))) (v := (subSl gv1 0 mm 2)) rfl rfl rfl (fun h => q_sliceH (v := gv1) (m := (mm : Int)) (gv_pos h) (gv_pos h) hgr1.sl Try.underlying33 sz47 (by (try simp [-List.getD_eq_getElem?_getD] at h); omega) (by (try simp [-List.getD_eq_getElem?_getD] at h); omega)) ?_
    refine RW.g (b := (!decide (((((Al.day b.Places rs sup).2).length : Nat) : Int) = ((rs.length : Nat) : Int)))) (v := gv2) rfl rfl rfl (fun h => q_move rfl) ?_
    refine RW.g (b := (!decide (((((Al.day b.Places rs sup).2).length : Nat) : Int) = ((rs.length : Nat) : Int)))) (v := .bool true) rfl rfl rfl (fun h => q_as (v := .bool (decide (((((Al.day b.Places rs sup).2).take mm).drop 0) = ((Al.day b.Places ((rs.take mm).drop 0) sup).2)))) (q_call (args := #[(subSl gv1 0 mm 2), gv2]) own18 rfl (args2 (gv_pos h) (gv_pos h)) (fun w1 hw1 => Same_c w1 (Go.K.hp w1) (Hp.le_refl _) ((hgr1.part (l := 0) (m := mm) (by (try simp [-List.getD_eq_getElem?_getD] at h); omega) (by (try simp [-List.getD_eq_getElem?_getD] at h); omega)).mono hw1.phi) (hgr2.mono hw1.phi))) (congrArg Value.bool (by rw [List.drop_zero, List.drop_zero]; exact decide_eq_true (Al.day_take hsk (by omega))))) ?_
    refine RW.g (b := (!decide (((((Al.day b.Places rs sup).2).length : Nat) : Int) = ((rs.length : Nat) : Int)))) (v := .bool !true) rfl rfl rfl (fun h => q_not (gv_pos h)) ?_
    refine RW.q (v := .bool ((!decide (((((Al.day b.Places rs sup).2).length : Nat) : Int) = ((rs.length : Nat) : Int))) || !true)) rfl (q_pick rfl (fun hp => pkOrT hp) (fun hp => (gv_pos hp).trans (pkOrF hp))) ?_
    refine RW.nil ?_
    refine Post.then_n ?_
    refine AW.cond (b := (!decide (((((Al.day b.Places rs sup).2).length : Nat) : Int) = ((rs.length : Nat) : Int))) || !true) rfl (fun hc2 => ?_) (fun hc2 => ?_)
    · simp [-List.getD_eq_getElem?_getD] at hc2
      exfalso
      omega
    · simp [-List.getD_eq_getElem?_getD] at hc2
      refine AW.skip ?_
      refine Post.then_n ?_
      refine AW.seq ?_
      refine AW.seq ?_
      refine AW.region ?_
      refine RW.q (v := .int .i64 (mm : Int)) rfl (q_move rfl) ?_
      refine RW.q (v := .int .i64 (mm : Int)) rfl (q_assign rfl) ?_
      refine RW.nil ?_
      refine Post.then_n ?_
      refine AW.block ?_
      refine AW.loop (fun s J m => ∃ (k : Nat), s = [(1, v2s), (4, .pointer (some (⟨b1, 0, none⟩))), (9, .bool true), (11, gv1), (12, dl1), (14, dl2), (15, .int .i64 (k : Int))] ∧ J = St ⟨w, Φ, []⟩ Φ3 [.row dl2 3 1 b.Places.length ((Al.stN b.Places rs sup k).map (Value.int .i64)), .blk b1 31 [.string b.Name, v1, .int .i64 b.Cells, v3, v4, v5, v6, v7, v8, v9, .int .i64 b.Err]] ∧ m = rs.length - k ∧ (mm ≤ k ∧ k ≤ rs.length)) (s0 := _) (J1 := _) (m0 := _) ⟨mm, rfl, rfl, rfl, (by omega)⟩ ⟨rfl, rfl, rfl, rfl, rfl, rfl, rfl, trivial⟩ (fun _ h => h) ?_
      rintro _ _ _ _ ⟨k, rfl, rfl, rfl, hk⟩
      refine AW.seq ?_
      refine AW.seq ?_
      refine AW.region ?_
      refine RW.q (v := .int .i64 (k : Int)) rfl (q_move rfl) ?_
      refine RW.q (v := v2s) rfl (q_move rfl) ?_
      refine RW.q (v := .int .i64 ((rs.length : Nat) : Int)) rfl (q_len_sl rfl h2.sl Try.underlying32) ?_
      refine RW.q (v := .bool (decide ((k : Int) < ((rs.length : Nat) : Int)))) rfl (q_lss rfl rfl) ?_
      refine RW.nil ?_
      refine Post.then_n ?_
      refine AW.cond (b := decide ((k : Int) < ((rs.length : Nat) : Int))) rfl (fun hc3 => ?_) (fun hc3 => ?_)
      · simp [-List.getD_eq_getElem?_getD] at hc3
        refine AW.skip ?_
        refine Post.then_n ?_
        refine AW.seq ?_
        refine AW.block ?_
        refine AW.seq ?_
        have hwk := hwr _ (Al.getD_memR hc3)
        obtain ⟨left, hleft⟩ : ∃ x, x = Al.stN b.Places rs sup k := ⟨_, rfl⟩
        have hLI : Al.LI b.Places.length left := by rw [hleft]; exact Al.stN_li hsk k
        have hll := hLI.1
        rw [← hleft]
        have hlr := Al.lit_rng (left := left) (l := (Al.reach b.Places (rs.getD k default).Place)) (rate := (rs.getD k default).Rate) (fun j => (hLI.2 j).1)
        have hrl := Al.reach_len b.Places (rs.getD k default).Place
        have hB_0 := hB
        have r3_0 := r3
        have h1_0 := h1
        have h2_0 := h2
        have hgr1_0 := hgr1
        have hle1_0 := hle1
        have hgr2_0 := hgr2
        refine AW.draw (J0 := St ⟨w, Φ, []⟩ Φ3 [.row dl2 3 1 b.Places.length (left.map (Value.int .i64)), .blk b1 31 [.string b.Name, v1, .int .i64 b.Cells, v3, v4, v5, v6, v7, v8, v9, .int .i64 b.Err]]) [.q, .q, .q, .q, .q, .q, .e, .q] [0, 1, 2, 3, 4, 5, 6, 7] hmix (by kernel_rfl) ?_
        refine DW.q (v := .agg #[.string b.Name, v1, .int .i64 b.Cells, v3, v4, v5, v6, v7, v8, v9, .int .i64 b.Err]) (fun _ h => h) rfl (q_loadAgg rfl Try.underlying31 rfl sz31 rfl (Cells.blk 1 rfl)) ?_
        refine DW.q (v := v2s) (fun _ h => h) rfl (q_move rfl) ?_
        refine DW.q (v := .int .i64 (k : Int)) (fun _ h => h) rfl (q_move rfl) ?_
        refine DW.q (v := .pointer (some (Value.at v2s (k * 9)))) (fun _ h => h) rfl (q_indexAddr rfl rfl h2.sl Try.underlying32 sz45 (by omega) (by omega) rfl) ?_
        refine DW.q (v := .pointer (some (Value.at v2s (k * 9 + 3)))) (fun _ h => h) rfl (q_fieldAddr rfl Try.underlying45 rfl sz3 at_add) ?_
        refine DW.q (v := .int .i64 ((rs.getD k default).Place)) (fun _ h => h) rfl (q_load rfl Try.underlying3 rfl (Cell.repE (j := 3) h2 (by omega) rfl)) ?_
        refine DW.eff (fun x : {y : Value × Hp // (fun r Ψ => RepSl Ψ (Al.reach b.Places ((rs.getD k default).Place)) r) y.1 y.2 ∧ Hp.le Φ3 y.2} => x.1.1) (fun x => St ⟨w, Φ, []⟩ x.1.2 [.row dl2 3 1 b.Places.length (left.map (Value.int .i64)), .blk b1 31 [.string b.Name, v1, .int .i64 b.Cells, v3, v4, v5, v6, v7, v8, v9, .int .i64 b.Err]]) (fun _ x => (fun _ h => StP.know x.2.2 h)) rfl (e_callS (T := fun r Ψ => RepSl Ψ (Al.reach b.Places ((rs.getD k default).Place)) r) (args := #[.agg #[.string b.Name, v1, .int .i64 b.Cells, v3, v4, v5, v6, v7, v8, v9, .int .i64 b.Err], .int .i64 ((rs.getD k default).Place)]) own14 rfl rfl (fun w1 hw1 => (Reach_c w1 (Go.K.hp w1) (Hp.le_refl _) (hB.mono hw1.phi)).mono fun _ _ => retS_up (fun _ _ _ hl h => h.mono hl))) ?_
        rintro ⟨⟨lv1, Φ4⟩, hlv1, hlΦ4⟩
        replace hlv1 : RepSl Φ4 (Al.reach b.Places ((rs.getD k default).Place)) lv1 := hlv1
        replace hlΦ4 : Hp.le Φ3 Φ4 := hlΦ4
        replace hB := hB.mono hlΦ4
        replace r3 := r3.mono hlΦ4
        replace h1 := h1.mono hlΦ4
        replace h2 := h2.mono hlΦ4
        replace hgr1 := hgr1.mono hlΦ4
        replace hle1 := hle1.mono hlΦ4
        replace hgr2 := hgr2.mono hlΦ4
        refine DW.q (v := lv1) (fun _ h => StP.know hlΦ4 h) rfl (q_assign rfl) ?_
        refine DW.nil ?_
        refine Post.then_n ?_
        refine AW.seq ?_
        refine AW.region ?_
        refine RW.q (v := v2s) rfl (q_move rfl) ?_
        refine RW.q (v := .int .i64 (k : Int)) rfl (q_move rfl) ?_
        refine RW.q (v := .pointer (some (Value.at v2s (k * 9)))) rfl (q_indexAddr rfl rfl h2.sl Try.underlying32 sz45 (by omega) (by omega) rfl) ?_
        refine RW.q (v := .pointer (some (Value.at v2s (k * 9 + 4)))) rfl (q_fieldAddr rfl Try.underlying45 rfl sz3 at_add) ?_
        refine RW.q (v := .int .i64 ((rs.getD k default).Rate)) rfl (q_load rfl Try.underlying3 rfl (Cell.repE (j := 4) h2 (by omega) rfl)) ?_
        refine RW.q (v := .int .i64 (max 0 ((rs.getD k default).Rate))) rfl (q_max rfl rfl) ?_
        refine RW.q (v := .int .i64 (max 0 ((rs.getD k default).Rate))) rfl (q_assign rfl) ?_
        refine RW.nil ?_
        refine Post.then_n ?_
        refine AW.seq ?_
        refine AW.seq ?_
        refine AW.region ?_
        refine RW.q (v := lv1) rfl (q_move rfl) ?_
        refine RW.q (v := .int .i64 (((Al.reach b.Places ((rs.getD k default).Place)).length : Nat) : Int)) rfl (q_len_sl rfl hlv1.sl Try.underlying29) ?_
        refine RW.q (v := .bool (decide ((((Al.reach b.Places ((rs.getD k default).Place)).length : Nat) : Int) = 0))) rfl (q_eql rfl rfl) ?_
        refine RW.nil ?_
        refine Post.then_n ?_
        refine AW.cond (b := decide ((((Al.reach b.Places ((rs.getD k default).Place)).length : Nat) : Int) = 0)) rfl (fun hc4 => ?_) (fun hc4 => ?_)
        · simp [-List.getD_eq_getElem?_getD] at hc4
          refine AW.region ?_
          refine RW.q (v := .int .i64 0) rfl (q_assign rfl) ?_
          refine RW.nil ?_
          refine Post.then_n ?_
          refine AW.seq ?_
          refine AW.seq ?_
          refine AW.region ?_
          refine RW.q (v := .int .i64 0) rfl (q_assign rfl) ?_
          refine RW.nil ?_
          refine Post.then_n ?_
          refine AW.block ?_
          refine AW.loop (fun s J m => ∃ (i : Nat), ∃ (n : Int), s = [(1, v2s), (4, .pointer (some (⟨b1, 0, none⟩))), (9, .bool true), (11, gv1), (12, dl1), (14, dl2), (15, .int .i64 (k : Int)), (16, lv1), (17, .int .i64 n), (18, .int .i64 (i : Int))] ∧ J = St ⟨w, Φ, []⟩ Φ4 [.row dl2 3 1 b.Places.length (left.map (Value.int .i64)), .blk b1 31 [.string b.Name, v1, .int .i64 b.Cells, v3, v4, v5, v6, v7, v8, v9, .int .i64 b.Err]] ∧ m = (Al.reach b.Places (rs.getD k default).Place).length - i ∧ (i ≤ (Al.reach b.Places (rs.getD k default).Place).length) ∧ (n = Al.litN left (Al.reach b.Places (rs.getD k default).Place) (rs.getD k default).Rate i)) (s0 := _) (J1 := _) (m0 := _) ⟨0, _, rfl, rfl, rfl, (by omega), (by rw [Al.litN, if_pos (by rw [hc4]; rfl)])⟩ ⟨rfl, rfl, rfl, rfl, rfl, rfl, rfl, rfl, rfl, rfl, trivial⟩ (fun _ h => h) ?_
          rintro _ _ _ _ ⟨i, n, rfl, rfl, rfl, hi, hn0⟩
          refine AW.seq ?_
          refine AW.seq ?_
          refine AW.region ?_
          refine RW.q (v := .int .i64 (i : Int)) rfl (q_move rfl) ?_
          refine RW.q (v := lv1) rfl (q_move rfl) ?_
          refine RW.q (v := .int .i64 (((Al.reach b.Places ((rs.getD k default).Place)).length : Nat) : Int)) rfl (q_len_sl rfl hlv1.sl Try.underlying29) ?_
          refine RW.q (v := .bool (decide ((i : Int) < (((Al.reach b.Places ((rs.getD k default).Place)).length : Nat) : Int)))) rfl (q_lss rfl rfl) ?_
          refine RW.nil ?_
          refine Post.then_n ?_
          refine AW.cond (b := decide ((i : Int) < (((Al.reach b.Places ((rs.getD k default).Place)).length : Nat) : Int))) rfl (fun hc5 => ?_) (fun hc5 => ?_)
          · simp [-List.getD_eq_getElem?_getD] at hc5
            refine AW.skip ?_
            refine Post.then_n ?_
            refine AW.seq ?_
            refine AW.block ?_
            have hrq := (Al.reach_ri b.Places (rs.getD k default).Place).2 _ (Al.getD_mem (by assumption))
            refine AW.region ?_
            refine RW.q (v := .int .i64 n) rfl (q_move rfl) ?_
            refine RW.q (v := dl2) rfl (q_move rfl) ?_
            refine RW.q (v := lv1) rfl (q_move rfl) ?_
            refine RW.q (v := .int .i64 (i : Int)) rfl (q_move rfl) ?_
            refine RW.q (v := .pointer (some (Value.at lv1 (i * 1)))) rfl (q_indexAddr rfl rfl hlv1.sl Try.underlying29 sz3 (by omega) (by omega) rfl) ?_
            refine RW.q (v := .int .i64 ((Al.reach b.Places ((rs.getD k default).Place)).getD i 0)) rfl (q_load rfl Try.underlying3 rfl (Cell.repInt hlv1 (by omega))) ?_
            refine RW.q (v := .pointer (some (Value.at dl2 ((((Al.reach b.Places ((rs.getD k default).Place)).getD i 0).toNat) * 1)))) rfl (q_indexAddr rfl rfl hdl2 Try.underlying29 sz3 (by omega) (by omega) rfl) ?_
            refine RW.q (v := .int .i64 ((left).getD (((Al.reach b.Places ((rs.getD k default).Place)).getD i 0).toNat) 0)) rfl (q_load rfl Try.underlying3 rfl (Cell.rowInt 0 rfl (by omega))) ?_
            refine RW.q (v := .int .i64 (min n ((left).getD (((Al.reach b.Places ((rs.getD k default).Place)).getD i 0).toNat) 0))) rfl (q_min rfl rfl) ?_
            refine RW.q (v := .int .i64 (min n ((left).getD (((Al.reach b.Places ((rs.getD k default).Place)).getD i 0).toNat) 0))) rfl (q_assign rfl) ?_
            refine RW.nil ?_
            refine Post.blk_n (Post.then_n ?_)
            refine AW.region ?_
            refine RW.q (v := .int .i64 (i : Int)) rfl (q_move rfl) ?_
            refine RW.q (v := .int .i64 ((i + 1 : Nat) : Int)) rfl (q_add rfl rfl (by omega) (by unfold I64; omega)) ?_
            refine RW.q (v := .int .i64 ((i + 1 : Nat) : Int)) rfl (q_assign rfl) ?_
            refine RW.nil ?_
            exact Post.back (s' := _) (J' := _) (m' := _) (by omega) ⟨i + 1, _, rfl, rfl, rfl, (by omega), (Al.litN_step (by assumption) hn0)⟩ ⟨rfl, rfl, rfl, rfl, rfl, rfl, rfl, rfl, rfl, rfl, trivial⟩ (fun _ h => h)
          · simp [-List.getD_eq_getElem?_getD] at hc5
            refine AW.exit ?_
            refine Post.then_x (Post.then_x (Post.blk_hit (Post.then_n ?_)))
            refine AW.seq ?_
            refine AW.seq ?_
            have hn : n = Al.lit left (Al.reach b.Places (rs.getD k default).Place) (rs.getD k default).Rate := hn0.trans (Al.litN_end (by omega))
            refine AW.region ?_
            refine RW.q (v := .int .i64 0) rfl (q_assign rfl) ?_
            refine RW.nil ?_
            refine Post.then_n ?_
            refine AW.block ?_
            refine AW.loop (fun s J m => ∃ (i : Nat), s = [(1, v2s), (4, .pointer (some (⟨b1, 0, none⟩))), (9, .bool true), (11, gv1), (12, dl1), (14, dl2), (15, .int .i64 (k : Int)), (16, lv1), (17, .int .i64 n), (19, .int .i64 (i : Int))] ∧ J = St ⟨w, Φ, []⟩ Φ4 [.row dl2 3 1 b.Places.length ((Al.subL left ((Al.reach b.Places (rs.getD k default).Place).take i) n).map (Value.int .i64)), .blk b1 31 [.string b.Name, v1, .int .i64 b.Cells, v3, v4, v5, v6, v7, v8, v9, .int .i64 b.Err]] ∧ m = (Al.reach b.Places (rs.getD k default).Place).length - i ∧ (i ≤ (Al.reach b.Places (rs.getD k default).Place).length)) (s0 := _) (J1 := _) (m0 := _) ⟨0, rfl, rfl, rfl, (by omega)⟩ ⟨rfl, rfl, rfl, rfl, rfl, rfl, rfl, rfl, rfl, rfl, trivial⟩ (fun _ h => h) ?_
            rintro _ _ _ _ ⟨i, rfl, rfl, rfl, hi⟩
            refine AW.seq ?_
            refine AW.seq ?_
            refine AW.region ?_
            refine RW.q (v := .int .i64 (i : Int)) rfl (q_move rfl) ?_
            refine RW.q (v := lv1) rfl (q_move rfl) ?_
            refine RW.q (v := .int .i64 (((Al.reach b.Places ((rs.getD k default).Place)).length : Nat) : Int)) rfl (q_len_sl rfl hlv1.sl Try.underlying29) ?_
            refine RW.q (v := .bool (decide ((i : Int) < (((Al.reach b.Places ((rs.getD k default).Place)).length : Nat) : Int)))) rfl (q_lss rfl rfl) ?_
            refine RW.nil ?_
            refine Post.then_n ?_
            refine AW.cond (b := decide ((i : Int) < (((Al.reach b.Places ((rs.getD k default).Place)).length : Nat) : Int))) rfl (fun hc6 => ?_) (fun hc6 => ?_)
            · simp [-List.getD_eq_getElem?_getD] at hc6
              refine AW.skip ?_
              refine Post.then_n ?_
              refine AW.seq ?_
              refine AW.block ?_
              have hrq := (Al.reach_ri b.Places (rs.getD k default).Place).2 _ (Al.getD_mem (by assumption))
              have hsm := Al.sub_mid (rate := (rs.getD k default).Rate) hLI (Al.reach_ri b.Places (rs.getD k default).Place) (k := i) (by assumption)
              rw [← hn] at hsm
              have hsl := Al.subL_len (n := n) ((Al.reach b.Places (rs.getD k default).Place).take i) left
              have hl2 := hLI.2 ((Al.reach b.Places (rs.getD k default).Place).getD i 0).toNat
              unfold Al.maxI at hl2
              have hlr2 := hlr
              rw [← hn] at hlr2
              have hB_0 := hB
              have r3_0 := r3
              have h1_0 := h1
              have h2_0 := h2
              have hgr1_0 := hgr1
              have hle1_0 := hle1
              have hgr2_0 := hgr2
              have hlv1_0 := hlv1
              refine AW.draw (J0 := St ⟨w, Φ, []⟩ Φ4 [.row dl2 3 1 b.Places.length ((Al.subL left ((Al.reach b.Places (rs.getD k default).Place).take i) n).map (Value.int .i64)), .blk b1 31 [.string b.Name, v1, .int .i64 b.Cells, v3, v4, v5, v6, v7, v8, v9, .int .i64 b.Err]]) [.q, .q, .q, .q, .q, .q, .q, .q, .q, .q, .q, .q, .q, .q, .q, .e] [0, 1, 2, 3, 4, 5, 6, 7, 8, 9, 10, 11, 12, 13, 14, 15] hmix (by kernel_rfl) ?_
              refine DW.q (v := dl2) (fun _ h => h) rfl (q_move rfl) ?_
              refine DW.q (v := lv1) (fun _ h => h) rfl (q_move rfl) ?_
              refine DW.q (v := .int .i64 (i : Int)) (fun _ h => h) rfl (q_move rfl) ?_
              refine DW.q (v := .pointer (some (Value.at lv1 (i * 1)))) (fun _ h => h) rfl (q_indexAddr rfl rfl hlv1.sl Try.underlying29 sz3 (by omega) (by omega) rfl) ?_
              refine DW.q (v := .int .i64 ((Al.reach b.Places ((rs.getD k default).Place)).getD i 0)) (fun _ h => h) rfl (q_load rfl Try.underlying3 rfl (Cell.repInt hlv1 (by omega))) ?_
              refine DW.q (v := dl2) (fun _ h => h) rfl (q_move rfl) ?_
              refine DW.q (v := lv1) (fun _ h => h) rfl (q_move rfl) ?_
              refine DW.q (v := .int .i64 (i : Int)) (fun _ h => h) rfl (q_move rfl) ?_
              refine DW.q (v := .pointer (some (Value.at lv1 (i * 1)))) (fun _ h => h) rfl (q_indexAddr rfl rfl hlv1.sl Try.underlying29 sz3 (by omega) (by omega) rfl) ?_
              refine DW.q (v := .int .i64 ((Al.reach b.Places ((rs.getD k default).Place)).getD i 0)) (fun _ h => h) rfl (q_load rfl Try.underlying3 rfl (Cell.repInt hlv1 (by omega))) ?_
              refine DW.q (v := .pointer (some (Value.at dl2 ((((Al.reach b.Places ((rs.getD k default).Place)).getD i 0).toNat) * 1)))) (fun _ h => h) rfl (q_indexAddr rfl rfl hdl2 Try.underlying29 sz3 (by omega) (by omega) rfl) ?_
              refine DW.q (v := .int .i64 ((Al.subL left ((Al.reach b.Places (rs.getD k default).Place).take i) n).getD (((Al.reach b.Places ((rs.getD k default).Place)).getD i 0).toNat) 0)) (fun _ h => h) rfl (q_load rfl Try.underlying3 rfl (Cell.rowInt 0 rfl (by omega))) ?_
              refine DW.q (v := .int .i64 n) (fun _ h => h) rfl (q_move rfl) ?_
              refine DW.q (v := .int .i64 (((Al.subL left ((Al.reach b.Places (rs.getD k default).Place).take i) n).getD (((Al.reach b.Places ((rs.getD k default).Place)).getD i 0).toNat) 0) - n)) (fun _ h => h) rfl (q_sub rfl rfl (by omega) (by unfold I64; omega)) ?_
              refine DW.q (v := .pointer (some (Value.at dl2 ((((Al.reach b.Places ((rs.getD k default).Place)).getD i 0).toNat) * 1)))) (fun _ h => h) rfl (q_indexAddr rfl rfl hdl2 Try.underlying29 sz3 (by omega) (by omega) rfl) ?_
              refine DW.effn (J' := St ⟨w, Φ, []⟩ Φ4 [.row dl2 3 1 b.Places.length (((Al.subL left ((Al.reach b.Places (rs.getD k default).Place).take i) n).set (((Al.reach b.Places ((rs.getD k default).Place)).getD i 0).toNat) (((Al.subL left ((Al.reach b.Places (rs.getD k default).Place).take i) n).getD (((Al.reach b.Places ((rs.getD k default).Place)).getD i 0).toNat) 0) - n)).map (Value.int .i64)), .blk b1 31 [.string b.Name, v1, .int .i64 b.Cells, v3, v4, v5, v6, v7, v8, v9, .int .i64 b.Err]]) (fun h => absurd rfl h) (e_storeRow (v := .int .i64 (((Al.subL left ((Al.reach b.Places (rs.getD k default).Place).take i) n).getD (((Al.reach b.Places ((rs.getD k default).Place)).getD i 0).toNat) 0) - n)) 0 rfl rfl rfl sz3 rfl rfl (by simp [-List.getD_eq_getElem?_getD]; omega) (splice_int (by omega)) rfl) ?_
              refine DW.nil ?_
              refine Post.blk_n (Post.then_n ?_)
              refine AW.region ?_
              refine RW.q (v := .int .i64 (i : Int)) rfl (q_move rfl) ?_
              refine RW.q (v := .int .i64 ((i + 1 : Nat) : Int)) rfl (q_add rfl rfl (by omega) (by unfold I64; omega)) ?_
              refine RW.q (v := .int .i64 ((i + 1 : Nat) : Int)) rfl (q_assign rfl) ?_
              refine RW.nil ?_
              exact Post.back (s' := _) (J' := _) (m' := _) (by omega) ⟨i + 1, rfl, rfl, rfl, (by omega)⟩ ⟨rfl, rfl, rfl, rfl, rfl, rfl, rfl, rfl, rfl, rfl, trivial⟩ (fun _ h => by rw [Al.subL_step (by assumption)]; exact h)
            · simp [-List.getD_eq_getElem?_getD] at hc6
              refine AW.exit ?_
              refine Post.then_x (Post.then_x (Post.blk_hit (Post.then_n ?_)))
              refine AW.seq ?_
              refine AW.region ?_
              refine RW.q (v := gv1) rfl (q_move rfl) ?_
              refine RW.q (v := .int .i64 (k : Int)) rfl (q_move rfl) ?_
              refine RW.q (v := .pointer (some (Value.at gv1 (k * 2)))) rfl (q_indexAddr rfl rfl hgr1.sl Try.underlying33 sz47 (by omega) (by omega) rfl) ?_
              refine RW.q (v := .pointer (some (Value.at gv1 (k * 2 + 1)))) rfl (q_fieldAddr rfl Try.underlying47 rfl sz3 at_add) ?_
              refine RW.q (v := .int .i64 ((((Al.day b.Places rs sup).2).getD k default).Litres)) rfl (q_load rfl Try.underlying3 rfl (Cell.repE (j := 1) hgr1 (by omega) rfl)) ?_
              refine RW.q (v := .int .i64 n) rfl (q_move rfl) ?_
              refine RW.q (v := .bool (!decide ((((Al.day b.Places rs sup).2).getD k default).Litres = n))) rfl (q_neq rfl rfl) ?_
              refine RW.nil ?_
              refine Post.then_n ?_
              refine AW.cond (b := !decide ((((Al.day b.Places rs sup).2).getD k default).Litres = n)) rfl (fun hc7 => ?_) (fun hc7 => ?_)
              · simp [-List.getD_eq_getElem?_getD] at hc7
                exfalso
                rw [Al.day_get hsk hc3, ← hleft, ← hn] at hc7
                exact hc7 rfl
              · simp [-List.getD_eq_getElem?_getD] at hc7
                refine AW.skip ?_
                refine Post.blk_n (Post.then_n ?_)
                refine AW.region ?_
                refine RW.q (v := .int .i64 (k : Int)) rfl (q_move rfl) ?_
                refine RW.q (v := .int .i64 ((k + 1 : Nat) : Int)) rfl (q_add rfl rfl (by omega) (by unfold I64; omega)) ?_
                refine RW.q (v := .int .i64 ((k + 1 : Nat) : Int)) rfl (q_assign rfl) ?_
                refine RW.nil ?_
                exact Post.back (s' := _) (J' := _) (m' := _) (by omega) ⟨k + 1, rfl, rfl, rfl, (by omega)⟩ ⟨rfl, rfl, rfl, rfl, rfl, rfl, rfl, trivial⟩ (fun _ h => by rw [Al.stN_step hc3, ← hleft, ← hn, ← show (Al.reach b.Places (rs.getD k default).Place).take i = (Al.reach b.Places (rs.getD k default).Place) from List.take_of_length_le (by omega)]; exact StP.know (by assumption) h)
        · simp [-List.getD_eq_getElem?_getD] at hc4
          refine AW.skip ?_
          refine Post.then_n ?_
          refine AW.seq ?_
          refine AW.seq ?_
          refine AW.region ?_
          refine RW.q (v := .int .i64 0) rfl (q_assign rfl) ?_
          refine RW.nil ?_
          refine Post.then_n ?_
          refine AW.block ?_
          refine AW.loop (fun s J m => ∃ (i : Nat), ∃ (n : Int), s = [(1, v2s), (4, .pointer (some (⟨b1, 0, none⟩))), (9, .bool true), (11, gv1), (12, dl1), (14, dl2), (15, .int .i64 (k : Int)), (16, lv1), (17, .int .i64 n), (18, .int .i64 (i : Int))] ∧ J = St ⟨w, Φ, []⟩ Φ4 [.row dl2 3 1 b.Places.length (left.map (Value.int .i64)), .blk b1 31 [.string b.Name, v1, .int .i64 b.Cells, v3, v4, v5, v6, v7, v8, v9, .int .i64 b.Err]] ∧ m = (Al.reach b.Places (rs.getD k default).Place).length - i ∧ (i ≤ (Al.reach b.Places (rs.getD k default).Place).length) ∧ (n = Al.litN left (Al.reach b.Places (rs.getD k default).Place) (rs.getD k default).Rate i)) (s0 := _) (J1 := _) (m0 := _) ⟨0, _, rfl, rfl, rfl, (by omega), (by rw [Al.litN, if_neg (by simpa using hc4)]; rfl)⟩ ⟨rfl, rfl, rfl, rfl, rfl, rfl, rfl, rfl, rfl, rfl, trivial⟩ (fun _ h => h) ?_
          rintro _ _ _ _ ⟨i, n, rfl, rfl, rfl, hi, hn0⟩
          refine AW.seq ?_
          refine AW.seq ?_
          refine AW.region ?_
          refine RW.q (v := .int .i64 (i : Int)) rfl (q_move rfl) ?_
          refine RW.q (v := lv1) rfl (q_move rfl) ?_
          refine RW.q (v := .int .i64 (((Al.reach b.Places ((rs.getD k default).Place)).length : Nat) : Int)) rfl (q_len_sl rfl hlv1.sl Try.underlying29) ?_
          refine RW.q (v := .bool (decide ((i : Int) < (((Al.reach b.Places ((rs.getD k default).Place)).length : Nat) : Int)))) rfl (q_lss rfl rfl) ?_
          refine RW.nil ?_
          refine Post.then_n ?_
          refine AW.cond (b := decide ((i : Int) < (((Al.reach b.Places ((rs.getD k default).Place)).length : Nat) : Int))) rfl (fun hc8 => ?_) (fun hc8 => ?_)
          · simp [-List.getD_eq_getElem?_getD] at hc8
            refine AW.skip ?_
            refine Post.then_n ?_
            refine AW.seq ?_
            refine AW.block ?_
            have hrq := (Al.reach_ri b.Places (rs.getD k default).Place).2 _ (Al.getD_mem (by assumption))
            refine AW.region ?_
            refine RW.q (v := .int .i64 n) rfl (q_move rfl) ?_
            refine RW.q (v := dl2) rfl (q_move rfl) ?_
            refine RW.q (v := lv1) rfl (q_move rfl) ?_
            refine RW.q (v := .int .i64 (i : Int)) rfl (q_move rfl) ?_
            refine RW.q (v := .pointer (some (Value.at lv1 (i * 1)))) rfl (q_indexAddr rfl rfl hlv1.sl Try.underlying29 sz3 (by omega) (by omega) rfl) ?_
            refine RW.q (v := .int .i64 ((Al.reach b.Places ((rs.getD k default).Place)).getD i 0)) rfl (q_load rfl Try.underlying3 rfl (Cell.repInt hlv1 (by omega))) ?_
            refine RW.q (v := .pointer (some (Value.at dl2 ((((Al.reach b.Places ((rs.getD k default).Place)).getD i 0).toNat) * 1)))) rfl (q_indexAddr rfl rfl hdl2 Try.underlying29 sz3 (by omega) (by omega) rfl) ?_
            refine RW.q (v := .int .i64 ((left).getD (((Al.reach b.Places ((rs.getD k default).Place)).getD i 0).toNat) 0)) rfl (q_load rfl Try.underlying3 rfl (Cell.rowInt 0 rfl (by omega))) ?_
            refine RW.q (v := .int .i64 (min n ((left).getD (((Al.reach b.Places ((rs.getD k default).Place)).getD i 0).toNat) 0))) rfl (q_min rfl rfl) ?_
            refine RW.q (v := .int .i64 (min n ((left).getD (((Al.reach b.Places ((rs.getD k default).Place)).getD i 0).toNat) 0))) rfl (q_assign rfl) ?_
            refine RW.nil ?_
            refine Post.blk_n (Post.then_n ?_)
            refine AW.region ?_
            refine RW.q (v := .int .i64 (i : Int)) rfl (q_move rfl) ?_
            refine RW.q (v := .int .i64 ((i + 1 : Nat) : Int)) rfl (q_add rfl rfl (by omega) (by unfold I64; omega)) ?_
            refine RW.q (v := .int .i64 ((i + 1 : Nat) : Int)) rfl (q_assign rfl) ?_
            refine RW.nil ?_
            exact Post.back (s' := _) (J' := _) (m' := _) (by omega) ⟨i + 1, _, rfl, rfl, rfl, (by omega), (Al.litN_step (by assumption) hn0)⟩ ⟨rfl, rfl, rfl, rfl, rfl, rfl, rfl, rfl, rfl, rfl, trivial⟩ (fun _ h => h)
          · simp [-List.getD_eq_getElem?_getD] at hc8
            refine AW.exit ?_
            refine Post.then_x (Post.then_x (Post.blk_hit (Post.then_n ?_)))
            refine AW.seq ?_
            refine AW.seq ?_
            have hn : n = Al.lit left (Al.reach b.Places (rs.getD k default).Place) (rs.getD k default).Rate := hn0.trans (Al.litN_end (by omega))
            refine AW.region ?_
            refine RW.q (v := .int .i64 0) rfl (q_assign rfl) ?_
            refine RW.nil ?_
            refine Post.then_n ?_
            refine AW.block ?_
            refine AW.loop (fun s J m => ∃ (i : Nat), s = [(1, v2s), (4, .pointer (some (⟨b1, 0, none⟩))), (9, .bool true), (11, gv1), (12, dl1), (14, dl2), (15, .int .i64 (k : Int)), (16, lv1), (17, .int .i64 n), (19, .int .i64 (i : Int))] ∧ J = St ⟨w, Φ, []⟩ Φ4 [.row dl2 3 1 b.Places.length ((Al.subL left ((Al.reach b.Places (rs.getD k default).Place).take i) n).map (Value.int .i64)), .blk b1 31 [.string b.Name, v1, .int .i64 b.Cells, v3, v4, v5, v6, v7, v8, v9, .int .i64 b.Err]] ∧ m = (Al.reach b.Places (rs.getD k default).Place).length - i ∧ (i ≤ (Al.reach b.Places (rs.getD k default).Place).length)) (s0 := _) (J1 := _) (m0 := _) ⟨0, rfl, rfl, rfl, (by omega)⟩ ⟨rfl, rfl, rfl, rfl, rfl, rfl, rfl, rfl, rfl, rfl, trivial⟩ (fun _ h => h) ?_
            rintro _ _ _ _ ⟨i, rfl, rfl, rfl, hi⟩
            refine AW.seq ?_
            refine AW.seq ?_
            refine AW.region ?_
            refine RW.q (v := .int .i64 (i : Int)) rfl (q_move rfl) ?_
            refine RW.q (v := lv1) rfl (q_move rfl) ?_
            refine RW.q (v := .int .i64 (((Al.reach b.Places ((rs.getD k default).Place)).length : Nat) : Int)) rfl (q_len_sl rfl hlv1.sl Try.underlying29) ?_
            refine RW.q (v := .bool (decide ((i : Int) < (((Al.reach b.Places ((rs.getD k default).Place)).length : Nat) : Int)))) rfl (q_lss rfl rfl) ?_
            refine RW.nil ?_
            refine Post.then_n ?_
            refine AW.cond (b := decide ((i : Int) < (((Al.reach b.Places ((rs.getD k default).Place)).length : Nat) : Int))) rfl (fun hc9 => ?_) (fun hc9 => ?_)
            · simp [-List.getD_eq_getElem?_getD] at hc9
              refine AW.skip ?_
              refine Post.then_n ?_
              refine AW.seq ?_
              refine AW.block ?_
              have hrq := (Al.reach_ri b.Places (rs.getD k default).Place).2 _ (Al.getD_mem (by assumption))
              have hsm := Al.sub_mid (rate := (rs.getD k default).Rate) hLI (Al.reach_ri b.Places (rs.getD k default).Place) (k := i) (by assumption)
              rw [← hn] at hsm
              have hsl := Al.subL_len (n := n) ((Al.reach b.Places (rs.getD k default).Place).take i) left
              have hl2 := hLI.2 ((Al.reach b.Places (rs.getD k default).Place).getD i 0).toNat
              unfold Al.maxI at hl2
              have hlr2 := hlr
              rw [← hn] at hlr2
              have hB_0 := hB
              have r3_0 := r3
              have h1_0 := h1
              have h2_0 := h2
              have hgr1_0 := hgr1
              have hle1_0 := hle1
              have hgr2_0 := hgr2
              have hlv1_0 := hlv1
              refine AW.draw (J0 := St ⟨w, Φ, []⟩ Φ4 [.row dl2 3 1 b.Places.length ((Al.subL left ((Al.reach b.Places (rs.getD k default).Place).take i) n).map (Value.int .i64)), .blk b1 31 [.string b.Name, v1, .int .i64 b.Cells, v3, v4, v5, v6, v7, v8, v9, .int .i64 b.Err]]) [.q, .q, .q, .q, .q, .q, .q, .q, .q, .q, .q, .q, .q, .q, .q, .e] [0, 1, 2, 3, 4, 5, 6, 7, 8, 9, 10, 11, 12, 13, 14, 15] hmix (by kernel_rfl) ?_
              refine DW.q (v := dl2) (fun _ h => h) rfl (q_move rfl) ?_
              refine DW.q (v := lv1) (fun _ h => h) rfl (q_move rfl) ?_
              refine DW.q (v := .int .i64 (i : Int)) (fun _ h => h) rfl (q_move rfl) ?_
              refine DW.q (v := .pointer (some (Value.at lv1 (i * 1)))) (fun _ h => h) rfl (q_indexAddr rfl rfl hlv1.sl Try.underlying29 sz3 (by omega) (by omega) rfl) ?_
              refine DW.q (v := .int .i64 ((Al.reach b.Places ((rs.getD k default).Place)).getD i 0)) (fun _ h => h) rfl (q_load rfl Try.underlying3 rfl (Cell.repInt hlv1 (by omega))) ?_
              refine DW.q (v := dl2) (fun _ h => h) rfl (q_move rfl) ?_
              refine DW.q (v := lv1) (fun _ h => h) rfl (q_move rfl) ?_
              refine DW.q (v := .int .i64 (i : Int)) (fun _ h => h) rfl (q_move rfl) ?_
              refine DW.q (v := .pointer (some (Value.at lv1 (i * 1)))) (fun _ h => h) rfl (q_indexAddr rfl rfl hlv1.sl Try.underlying29 sz3 (by omega) (by omega) rfl) ?_
              refine DW.q (v := .int .i64 ((Al.reach b.Places ((rs.getD k default).Place)).getD i 0)) (fun _ h => h) rfl (q_load rfl Try.underlying3 rfl (Cell.repInt hlv1 (by omega))) ?_
              refine DW.q (v := .pointer (some (Value.at dl2 ((((Al.reach b.Places ((rs.getD k default).Place)).getD i 0).toNat) * 1)))) (fun _ h => h) rfl (q_indexAddr rfl rfl hdl2 Try.underlying29 sz3 (by omega) (by omega) rfl) ?_
              refine DW.q (v := .int .i64 ((Al.subL left ((Al.reach b.Places (rs.getD k default).Place).take i) n).getD (((Al.reach b.Places ((rs.getD k default).Place)).getD i 0).toNat) 0)) (fun _ h => h) rfl (q_load rfl Try.underlying3 rfl (Cell.rowInt 0 rfl (by omega))) ?_
              refine DW.q (v := .int .i64 n) (fun _ h => h) rfl (q_move rfl) ?_
              refine DW.q (v := .int .i64 (((Al.subL left ((Al.reach b.Places (rs.getD k default).Place).take i) n).getD (((Al.reach b.Places ((rs.getD k default).Place)).getD i 0).toNat) 0) - n)) (fun _ h => h) rfl (q_sub rfl rfl (by omega) (by unfold I64; omega)) ?_
              refine DW.q (v := .pointer (some (Value.at dl2 ((((Al.reach b.Places ((rs.getD k default).Place)).getD i 0).toNat) * 1)))) (fun _ h => h) rfl (q_indexAddr rfl rfl hdl2 Try.underlying29 sz3 (by omega) (by omega) rfl) ?_
              refine DW.effn (J' := St ⟨w, Φ, []⟩ Φ4 [.row dl2 3 1 b.Places.length (((Al.subL left ((Al.reach b.Places (rs.getD k default).Place).take i) n).set (((Al.reach b.Places ((rs.getD k default).Place)).getD i 0).toNat) (((Al.subL left ((Al.reach b.Places (rs.getD k default).Place).take i) n).getD (((Al.reach b.Places ((rs.getD k default).Place)).getD i 0).toNat) 0) - n)).map (Value.int .i64)), .blk b1 31 [.string b.Name, v1, .int .i64 b.Cells, v3, v4, v5, v6, v7, v8, v9, .int .i64 b.Err]]) (fun h => absurd rfl h) (e_storeRow (v := .int .i64 (((Al.subL left ((Al.reach b.Places (rs.getD k default).Place).take i) n).getD (((Al.reach b.Places ((rs.getD k default).Place)).getD i 0).toNat) 0) - n)) 0 rfl rfl rfl sz3 rfl rfl (by simp [-List.getD_eq_getElem?_getD]; omega) (splice_int (by omega)) rfl) ?_
              refine DW.nil ?_
              refine Post.blk_n (Post.then_n ?_)
              refine AW.region ?_
              refine RW.q (v := .int .i64 (i : Int)) rfl (q_move rfl) ?_
              refine RW.q (v := .int .i64 ((i + 1 : Nat) : Int)) rfl (q_add rfl rfl (by omega) (by unfold I64; omega)) ?_
              refine RW.q (v := .int .i64 ((i + 1 : Nat) : Int)) rfl (q_assign rfl) ?_
              refine RW.nil ?_
              exact Post.back (s' := _) (J' := _) (m' := _) (by omega) ⟨i + 1, rfl, rfl, rfl, (by omega)⟩ ⟨rfl, rfl, rfl, rfl, rfl, rfl, rfl, rfl, rfl, rfl, trivial⟩ (fun _ h => by rw [Al.subL_step (by assumption)]; exact h)
            · simp [-List.getD_eq_getElem?_getD] at hc9
              refine AW.exit ?_
              refine Post.then_x (Post.then_x (Post.blk_hit (Post.then_n ?_)))
              refine AW.seq ?_
              refine AW.region ?_
              refine RW.q (v := gv1) rfl (q_move rfl) ?_
              refine RW.q (v := .int .i64 (k : Int)) rfl (q_move rfl) ?_
              refine RW.q (v := .pointer (some (Value.at gv1 (k * 2)))) rfl (q_indexAddr rfl rfl hgr1.sl Try.underlying33 sz47 (by omega) (by omega) rfl) ?_
              refine RW.q (v := .pointer (some (Value.at gv1 (k * 2 + 1)))) rfl (q_fieldAddr rfl Try.underlying47 rfl sz3 at_add) ?_
              refine RW.q (v := .int .i64 ((((Al.day b.Places rs sup).2).getD k default).Litres)) rfl (q_load rfl Try.underlying3 rfl (Cell.repE (j := 1) hgr1 (by omega) rfl)) ?_
              refine RW.q (v := .int .i64 n) rfl (q_move rfl) ?_
              refine RW.q (v := .bool (!decide ((((Al.day b.Places rs sup).2).getD k default).Litres = n))) rfl (q_neq rfl rfl) ?_
              refine RW.nil ?_
              refine Post.then_n ?_
              refine AW.cond (b := !decide ((((Al.day b.Places rs sup).2).getD k default).Litres = n)) rfl (fun hc10 => ?_) (fun hc10 => ?_)
              · simp [-List.getD_eq_getElem?_getD] at hc10
                exfalso
                rw [Al.day_get hsk hc3, ← hleft, ← hn] at hc10
                exact hc10 rfl
              · simp [-List.getD_eq_getElem?_getD] at hc10
                refine AW.skip ?_
                refine Post.blk_n (Post.then_n ?_)
                refine AW.region ?_
                refine RW.q (v := .int .i64 (k : Int)) rfl (q_move rfl) ?_
                refine RW.q (v := .int .i64 ((k + 1 : Nat) : Int)) rfl (q_add rfl rfl (by omega) (by unfold I64; omega)) ?_
                refine RW.q (v := .int .i64 ((k + 1 : Nat) : Int)) rfl (q_assign rfl) ?_
                refine RW.nil ?_
                exact Post.back (s' := _) (J' := _) (m' := _) (by omega) ⟨k + 1, rfl, rfl, rfl, (by omega)⟩ ⟨rfl, rfl, rfl, rfl, rfl, rfl, rfl, trivial⟩ (fun _ h => by rw [Al.stN_step hc3, ← hleft, ← hn, ← show (Al.reach b.Places (rs.getD k default).Place).take i = (Al.reach b.Places (rs.getD k default).Place) from List.take_of_length_le (by omega)]; exact StP.know (by assumption) h)
      · simp [-List.getD_eq_getElem?_getD] at hc3
        refine AW.exit ?_
        refine Post.then_x (Post.then_x (Post.blk_hit (Post.then_n ?_)))
        refine AW.seq ?_
        have hTl := (Al.stN_li (ps := b.Places) (rs := rs) hsk k).1
        have hTm : b.Places.length * 8 ≤ maxSl := by simp only [maxSl]; omega
        have hTw : ∀ x ∈ Al.stN b.Places rs sup k, I64 x := fun x hx => by have h9 := (Al.stN_li (ps := b.Places) (rs := rs) hsk k).mem x hx; unfold I64; omega
        refine AW.region ?_
        refine RW.q (v := .bool true) rfl (q_move rfl) ?_
        refine RW.q (v := .bool true) rfl (q_move rfl) ?_
        refine RW.gl (v := dl1) rfl rfl rfl (q_move rfl) ?_
        refine RW.gl (v := dl2) rfl rfl rfl (q_move rfl) ?_
        refine RW.gl (v := .bool true) rfl rfl rfl (q_as (v := .bool (decide (((Al.day b.Places rs sup).1) = (Al.stN b.Places rs sup k)))) (q_call (args := #[dl1, dl2]) own13 rfl rfl (fun w1 hw1 => SameInts_c w1 (Go.K.hp w1) (Hp.le_refl _) (hle1.mono hw1.phi) (RowS.ints (xs := Al.stN b.Places rs sup k) (show RowS (Go.K.hp w1) dl2 3 1 (b.Places.length) ((Al.stN b.Places rs sup k).map (Value.int .i64)) from hw1.sat _ (List.mem_of_getElem? (i := 0) rfl)) hTm hTw))) (congrArg Value.bool (by rw [show k = rs.length by omega, Al.stN_end]; exact decide_eq_true rfl))) ?_
        refine RW.q (v := .bool true) rfl (q_pick rfl (fun hp => pkOrT (q := true) (r := false) hp) (fun hp => pkOrF (q := true) (r := false) hp)) ?_
        refine RW.q (v := .bool true) rfl (q_assign rfl) ?_
        refine RW.nil ?_
        refine Post.then_n ?_
        refine AW.ret ?_
        exact fin_val (v' := .bool true) rfl rfl rfl (rfl)

set_option maxRecDepth 8000 in
set_option maxHeartbeats 1000000 in
theorem AllotFirst_neg (w : World) (Φ : Hp) (hΦ : Hp.le Φ (hp w)) {b : Bt.Basin} {cs : List Value} (hB : RepV Φ b cs) {rs : List Bt.Right} {v2s : Value} (h2 : RepSl Φ rs v2s) {sup : List Int} {v1s : Value} (h1 : RepSl Φ sup v1s) {n : Int} (hneg : n < 0) :
    Calls Try.prog 5 #[.agg cs.toArray, v2s, v1s, .int .i64 n] w fun e w' => e = .returned (.bool true) ∧ Below w.heap.size w w' := by
  obtain ⟨v1, v3, v4, v5, v6, v7, v8, v9, hcs, hBw, r1, r3, r4, r5, r6, r7, r8, r9⟩ := (show Rep.rep Φ b cs from hB)
  subst hcs
  have hpm : b.Places.length * 152 ≤ 140737488355328 := r3.max
  refine calls_of_AW (args := [.agg #[.string b.Name, v1, .int .i64 b.Cells, v3, v4, v5, v6, v7, v8, v9, .int .i64 b.Err], v2s, v1s, .int .i64 n]) Try.func5 rfl (Nat.le_of_ble_eq_true rfl) (St ⟨w, Φ, []⟩ Φ []) (StP.init w Φ hΦ []) ?_
  show AW Try.prog 138 [] _ _ _ [(0, .agg #[.string b.Name, v1, .int .i64 b.Cells, v3, v4, v5, v6, v7, v8, v9, .int .i64 b.Err]), (1, v2s), (2, v1s), (3, .int .i64 n)] _
  have hsk : ∀ k, Al.Ok64 (sup.getD k 0) := fun k => by have := h1.i64D k; unfold I64 at this; unfold Al.Ok64 Al.minI Al.maxI; omega
  have hm1 : sup.length * 8 ≤ 140737488355328 := h1.max
  have hm2 : rs.length * 72 ≤ 140737488355328 := h2.max
  refine AW.seq ?_
  refine AW.region ?_
  refine RW.eff (fun b1 : Nat => .pointer (some (⟨b1, 0, none⟩))) (fun b1 => St ⟨w, Φ, []⟩ Φ [.blk b1 31 [.string b.Name, v1, .int .i64 b.Cells, v3, v4, v5, v6, v7, v8, v9, .int .i64 b.Err]]) rfl (e_boxA (cs := [.string b.Name, v1, .int .i64 b.Cells, v3, v4, v5, v6, v7, v8, v9, .int .i64 b.Err]) rfl) ?_
  intro b1
  refine RW.q (v := .bool false) rfl (q_assign rfl) ?_
  refine RW.nil ?_
  refine Post.then_n ?_
  refine AW.seq ?_
  refine AW.region ?_
  refine RW.q (v := .bool true) rfl (q_call (args := #[]) own9 rfl rfl (fun w1 hw1 => small_c w1 (Go.K.hp w1) (Hp.le_refl _))) ?_
  refine RW.q (v := .bool true) rfl (q_assign rfl) ?_
  refine RW.nil ?_
  refine Post.then_n ?_
  refine AW.seq ?_
  refine AW.region ?_
  refine RW.q (v := .agg #[.string b.Name, v1, .int .i64 b.Cells, v3, v4, v5, v6, v7, v8, v9, .int .i64 b.Err]) rfl (q_loadAgg rfl Try.underlying31 rfl sz31 rfl (Cells.blk 0 rfl)) ?_
  refine RW.q (v := v2s) rfl (q_move rfl) ?_
  refine RW.q (v := .bool (decide ((b.Places.length : Int) ≤ 64) && decide ((rs.length : Int) ≤ 40) && decide ((([] : List Bt.Grant).length : Int) ≤ 80))) rfl (q_call (args := #[.agg #[.string b.Name, v1, .int .i64 b.Cells, v3, v4, v5, v6, v7, v8, v9, .int .i64 b.Err], v2s, (.slice none 0 0)]) own10 rfl rfl (fun w1 hw1 => few_c w1 (Go.K.hp w1) (Hp.le_refl _) (hB.mono hw1.phi) (h2.mono hw1.phi) repSl_nil)) ?_
  refine RW.q (v := .bool (decide ((b.Places.length : Int) ≤ 64) && decide ((rs.length : Int) ≤ 40) && decide ((([] : List Bt.Grant).length : Int) ≤ 80))) rfl (q_assign rfl) ?_
  refine RW.nil ?_
  refine Post.then_n ?_
  refine AW.seq ?_
  refine AW.seq ?_
  refine AW.region ?_
  refine RW.q (v := .bool (decide ((b.Places.length : Int) ≤ 64) && decide ((rs.length : Int) ≤ 40) && decide ((([] : List Bt.Grant).length : Int) ≤ 80))) rfl (q_move rfl) ?_
  refine RW.q (v := .bool (!(decide ((b.Places.length : Int) ≤ 64) && decide ((rs.length : Int) ≤ 40) && decide ((([] : List Bt.Grant).length : Int) ≤ 80)))) rfl (q_not rfl) ?_
  refine RW.q (v := .bool (!(decide ((b.Places.length : Int) ≤ 64) && decide ((rs.length : Int) ≤ 40) && decide ((([] : List Bt.Grant).length : Int) ≤ 80)))) rfl (q_move rfl) ?_
  refine RW.g (b := (!(decide ((b.Places.length : Int) ≤ 64) && decide ((rs.length : Int) ≤ 40) && decide ((([] : List Bt.Grant).length : Int) ≤ 80)))) (v := .int .i64 n) rfl rfl rfl (fun h => q_move rfl) ?_
  refine RW.g (b := (!(decide ((b.Places.length : Int) ≤ 64) && decide ((rs.length : Int) ≤ 40) && decide ((([] : List Bt.Grant).length : Int) ≤ 80)))) (v := .bool (decide (n < 0))) rfl rfl rfl (fun h => q_lss (gv_pos h) rfl) ?_
  refine RW.q (v := .bool ((!(decide ((b.Places.length : Int) ≤ 64) && decide ((rs.length : Int) ≤ 40) && decide ((([] : List Bt.Grant).length : Int) ≤ 80))) || (decide (n < 0)))) rfl (q_pick rfl (fun hp => pkOrT hp) (fun hp => (gv_pos hp).trans (pkOrF hp))) ?_
  refine RW.q (v := .bool ((!(decide ((b.Places.length : Int) ≤ 64) && decide ((rs.length : Int) ≤ 40) && decide ((([] : List Bt.Grant).length : Int) ≤ 80))) || (decide (n < 0)))) rfl (q_move rfl) ?_
  refine RW.g (b := ((!(decide ((b.Places.length : Int) ≤ 64) && decide ((rs.length : Int) ≤ 40) && decide ((([] : List Bt.Grant).length : Int) ≤ 80))) || (decide (n < 0)))) (v := .int .i64 n) rfl rfl rfl (fun h => q_move rfl) ?_
  refine RW.g (b := ((!(decide ((b.Places.length : Int) ≤ 64) && decide ((rs.length : Int) ≤ 40) && decide ((([] : List Bt.Grant).length : Int) ≤ 80))) || (decide (n < 0)))) (v := v2s) rfl rfl rfl (fun h => q_move rfl) ?_
  refine RW.g (b := ((!(decide ((b.Places.length : Int) ≤ 64) && decide ((rs.length : Int) ≤ 40) && decide ((([] : List Bt.Grant).length : Int) ≤ 80))) || (decide (n < 0)))) (v := .int .i64 ((rs.length : Nat) : Int)) rfl rfl rfl (fun h => q_len_sl (gv_pos h) h2.sl Try.underlying32) ?_
  refine RW.g (b := ((!(decide ((b.Places.length : Int) ≤ 64) && decide ((rs.length : Int) ≤ 40) && decide ((([] : List Bt.Grant).length : Int) ≤ 80))) || (decide (n < 0)))) (v := .bool (decide (((rs.length : Nat) : Int) < n))) rfl rfl rfl (fun h => q_gtr (gv_pos h) (gv_pos h)) ?_
  refine RW.q (v := .bool (((!(decide ((b.Places.length : Int) ≤ 64) && decide ((rs.length : Int) ≤ 40) && decide ((([] : List Bt.Grant).length : Int) ≤ 80))) || (decide (n < 0))) || (decide (((rs.length : Nat) : Int) < n)))) rfl (q_pick rfl (fun hp => pkOrT hp) (fun hp => (gv_pos hp).trans (pkOrF hp))) ?_
  refine RW.nil ?_
  refine Post.then_n ?_
  refine AW.cond (b := ((!(decide ((b.Places.length : Int) ≤ 64) && decide ((rs.length : Int) ≤ 40) && decide ((([] : List Bt.Grant).length : Int) ≤ 80))) || (decide (n < 0))) || (decide (((rs.length : Nat) : Int) < n))) rfl (fun hc1 => ?_) (fun hc1 => ?_)
  · simp [-List.getD_eq_getElem?_getD] at hc1
    refine AW.seq ?_
    refine AW.region ?_
    refine RW.q (v := .bool true) rfl (q_move rfl) ?_
    refine RW.q (v := .bool true) rfl (q_assign rfl) ?_
    refine RW.nil ?_
    refine Post.then_n ?_
    refine AW.ret ?_
    refine Post.then_r ?_
    exact fin_val (v' := .bool true) rfl rfl rfl (rfl)
  · simp [-List.getD_eq_getElem?_getD] at hc1
    omega

theorem AllotFirst_c (w : World) (Φ : Hp) (hΦ : Hp.le Φ (hp w)) {b : Bt.Basin} {cs : List Value} (hB : RepV Φ b cs) {rs : List Bt.Right} {v2s : Value} (h2 : RepSl Φ rs v2s) {sup : List Int} {v1s : Value} (h1 : RepSl Φ sup v1s) {n : Int} :
    Calls Try.prog 5 #[.agg cs.toArray, v2s, v1s, .int .i64 n] w fun e w' => e = .returned (.bool true) ∧ Below w.heap.size w w' := by
  by_cases h : n < 0
  · exact AllotFirst_neg w Φ hΦ hB h2 h1 h
  · obtain ⟨m, rfl⟩ := Int.eq_ofNat_of_zero_le (Int.not_lt.1 h)
    exact AllotFirst_n w Φ hΦ hB h2 h1

end Go.Proofs.Ytpeojogjeopfaaa
