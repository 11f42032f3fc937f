/- Walks (part LawB), printed by walk2.py. Conditions: those of each theorem. -/
import Derived.Test.YtpeojogjeopfaaaLawA
import Derived.Test.YtpeojogjeopfaaaStops
namespace Go.Proofs.Ytpeojogjeopfaaa
open Go Go.K Go.RowKit

set_option maxRecDepth 8000 in
set_option maxHeartbeats 1000000 in
theorem place_c (w : World) (Φ : Hp) (hΦ : Hp.le Φ (hp w)) {b : Bt.Basin} {cs : List Value} (hB : RepV Φ b cs) {r : Bt.Right} :
    Calls Try.prog 19 #[.agg cs.toArray, .agg #[.int .i64 r.Id, .int .i64 r.Owner, .int .i64 r.Date, .int .i64 r.Place, .int .i64 r.Rate, .int .i64 r.From, .int .i64 r.Until, .int .i64 r.Back, .int .i64 r.BackTo]] w fun e w' => e = .returned (.bool (decide (0 ≤ r.Place) && decide (r.Place < (b.Places.length : Int)))) ∧ Below w.heap.size w w' := by
  obtain ⟨v1, v3, v4, v5, v6, v7, v8, v9, hcs, hBw, r1, r3, r4, r5, r6, r7, r8, r9⟩ := (show Rep.rep Φ b cs from hB)
  subst hcs
  have hpm : b.Places.length * 152 ≤ 140737488355328 := r3.max
  refine calls_of_AW (args := [.agg #[.string b.Name, v1, .int .i64 b.Cells, v3, v4, v5, v6, v7, v8, v9, .int .i64 b.Err], .agg #[.int .i64 r.Id, .int .i64 r.Owner, .int .i64 r.Date, .int .i64 r.Place, .int .i64 r.Rate, .int .i64 r.From, .int .i64 r.Until, .int .i64 r.Back, .int .i64 r.BackTo]]) Try.func19 rfl (Nat.le_of_ble_eq_true rfl) (St ⟨w, Φ, []⟩ Φ []) (StP.init w Φ hΦ []) ?_
  show AW Try.prog 16 [] _ _ _ [(0, .agg #[.string b.Name, v1, .int .i64 b.Cells, v3, v4, v5, v6, v7, v8, v9, .int .i64 b.Err]), (1, .agg #[.int .i64 r.Id, .int .i64 r.Owner, .int .i64 r.Date, .int .i64 r.Place, .int .i64 r.Rate, .int .i64 r.From, .int .i64 r.Until, .int .i64 r.Back, .int .i64 r.BackTo])] _
  refine AW.seq ?_
  refine AW.region ?_
  refine RW.eff (fun b1 : Nat => .pointer (some (⟨b1, 0, none⟩))) (fun b1 => St ⟨w, Φ, []⟩ Φ [.blk b1 31 [.string b.Name, v1, .int .i64 b.Cells, v3, v4, v5, v6, v7, v8, v9, .int .i64 b.Err]]) rfl (e_boxA (cs := [.string b.Name, v1, .int .i64 b.Cells, v3, v4, v5, v6, v7, v8, v9, .int .i64 b.Err]) rfl) ?_
  intro b1
  refine RW.eff (fun b2 : Nat => .pointer (some (⟨b2, 0, none⟩))) (fun b2 => St ⟨w, Φ, []⟩ Φ [.blk b2 45 [.int .i64 r.Id, .int .i64 r.Owner, .int .i64 r.Date, .int .i64 r.Place, .int .i64 r.Rate, .int .i64 r.From, .int .i64 r.Until, .int .i64 r.Back, .int .i64 r.BackTo], .blk b1 31 [.string b.Name, v1, .int .i64 b.Cells, v3, v4, v5, v6, v7, v8, v9, .int .i64 b.Err]]) rfl (e_boxA (cs := [.int .i64 r.Id, .int .i64 r.Owner, .int .i64 r.Date, .int .i64 r.Place, .int .i64 r.Rate, .int .i64 r.From, .int .i64 r.Until, .int .i64 r.Back, .int .i64 r.BackTo]) rfl) ?_
  intro b2
  refine RW.q (v := .bool false) rfl (q_assign rfl) ?_
  refine RW.nil ?_
  refine Post.then_n ?_
  refine AW.seq ?_
  refine AW.region ?_
  refine RW.q (v := .pointer (some (⟨b2, 3, none⟩))) rfl (q_fieldAddr rfl Try.underlying45 rfl sz3 rfl) ?_
  refine RW.q (v := .int .i64 r.Place) rfl (q_load rfl Try.underlying3 rfl (Cell.blk 0 rfl rfl)) ?_
  refine RW.q (v := .bool (decide ((0 : Int) ≤ r.Place))) rfl (q_geq rfl rfl) ?_
  refine RW.q (v := .bool (decide ((0 : Int) ≤ r.Place))) rfl (q_move rfl) ?_
  refine RW.g (b := (decide ((0 : Int) ≤ r.Place))) (v := .pointer (some (⟨b2, 3, none⟩))) rfl rfl rfl (fun h => q_fieldAddr rfl Try.underlying45 rfl sz3 rfl) ?_
  refine RW.g (b := (decide ((0 : Int) ≤ r.Place))) (v := .int .i64 r.Place) rfl rfl rfl (fun h => q_load (gv_pos h) Try.underlying3 rfl (Cell.blk 0 rfl rfl)) ?_
  refine RW.g (b := (decide ((0 : Int) ≤ r.Place))) (v := .pointer (some (⟨b1, 3, none⟩))) rfl rfl rfl (fun h => q_fieldAddr rfl Try.underlying31 rfl sz23 rfl) ?_
  refine RW.g (b := (decide ((0 : Int) ≤ r.Place))) (v := v3) rfl rfl rfl (fun h => q_load (gv_pos h) Try.underlying23 rfl (Cell.blk 1 rfl rfl)) ?_
  refine RW.g (b := (decide ((0 : Int) ≤ r.Place))) (v := .int .i64 ((b.Places.length : Nat) : Int)) rfl rfl rfl (fun h => q_len_sl (gv_pos h) r3.sl Try.underlying23) ?_
  refine RW.g (b := (decide ((0 : Int) ≤ r.Place))) (v := .bool (decide (r.Place < ((b.Places.length : Nat) : Int)))) rfl rfl rfl (fun h => q_lss (gv_pos h) (gv_pos h)) ?_
  refine RW.q (v := .bool ((decide ((0 : Int) ≤ r.Place)) && (decide (r.Place < ((b.Places.length : Nat) : Int))))) rfl (q_pick rfl (fun hp => (gv_pos hp).trans (pkAndT hp)) (fun hp => pkAndF hp)) ?_
  refine RW.q (v := .bool ((decide ((0 : Int) ≤ r.Place)) && (decide (r.Place < ((b.Places.length : Nat) : Int))))) rfl (q_assign rfl) ?_
  refine RW.nil ?_
  refine Post.then_n ?_
  refine AW.ret ?_
  exact fin_val (v' := .bool ((decide ((0 : Int) ≤ r.Place)) && (decide (r.Place < ((b.Places.length : Nat) : Int))))) rfl rfl rfl (rfl)

set_option maxRecDepth 8000 in
set_option maxHeartbeats 1000000 in
theorem AllotStops_c (w : World) (Φ : Hp) (hΦ : Hp.le Φ (hp w)) {b : Bt.Basin} {cs : List Value} (hB : RepV Φ b cs) {rs : List Bt.Right} {v2s : Value} (h2 : RepSl Φ rs v2s) {sup : List Int} {v1s : Value} (h1 : RepSl Φ sup v1s) :
    Calls Try.prog 4 #[.agg cs.toArray, v2s, v1s] w fun e w' => e = .returned (.bool true) ∧ Below w.heap.size w w' := by
  obtain ⟨v1, v3, v4, v5, v6, v7, v8, v9, hcs, hBw, r1, r3, r4, r5, r6, r7, r8, r9⟩ := (show Rep.rep Φ b cs from hB)
  subst hcs
  have hpm : b.Places.length * 152 ≤ 140737488355328 := r3.max
  refine calls_of_AW (args := [.agg #[.string b.Name, v1, .int .i64 b.Cells, v3, v4, v5, v6, v7, v8, v9, .int .i64 b.Err], v2s, v1s]) Try.func4 rfl (Nat.le_of_ble_eq_true rfl) (St ⟨w, Φ, []⟩ Φ []) (StP.init w Φ hΦ []) ?_
  show AW Try.prog 193 [] _ _ _ [(0, .agg #[.string b.Name, v1, .int .i64 b.Cells, v3, v4, v5, v6, v7, v8, v9, .int .i64 b.Err]), (1, v2s), (2, v1s)] _
  have hsk : ∀ k, Al.Ok64 (sup.getD k 0) := fun k => by have := h1.i64D k; unfold I64 at this; unfold Al.Ok64 Al.minI Al.maxI; omega
  have hm1 : sup.length * 8 ≤ 140737488355328 := h1.max
  have hm2 : rs.length * 72 ≤ 140737488355328 := h2.max
  refine AW.seq ?_
  refine AW.region ?_
  refine RW.eff (fun b1 : Nat => .pointer (some (⟨b1, 0, none⟩))) (fun b1 => St ⟨w, Φ, []⟩ Φ [.blk b1 31 [.string b.Name, v1, .int .i64 b.Cells, v3, v4, v5, v6, v7, v8, v9, .int .i64 b.Err]]) rfl (e_boxA (cs := [.string b.Name, v1, .int .i64 b.Cells, v3, v4, v5, v6, v7, v8, v9, .int .i64 b.Err]) rfl) ?_
  intro b1
  refine RW.q (v := .bool false) rfl (q_assign rfl) ?_
  refine RW.nil ?_
  refine Post.then_n ?_
  refine AW.seq ?_
  refine AW.region ?_
  refine RW.q (v := .bool true) rfl (q_call (args := #[]) own9 rfl rfl (fun w1 hw1 => small_c w1 (Go.K.hp w1) (Hp.le_refl _))) ?_
  refine RW.q (v := .bool true) rfl (q_assign rfl) ?_
  refine RW.nil ?_
  refine Post.then_n ?_
  refine AW.seq ?_
  refine AW.region ?_
  refine RW.q (v := .agg #[.string b.Name, v1, .int .i64 b.Cells, v3, v4, v5, v6, v7, v8, v9, .int .i64 b.Err]) rfl (q_loadAgg rfl Try.underlying31 rfl sz31 rfl (Cells.blk 0 rfl)) ?_
  refine RW.q (v := v2s) rfl (q_move rfl) ?_
  refine RW.q (v := .bool (decide ((b.Places.length : Int) ≤ 64) && decide ((rs.length : Int) ≤ 40) && decide ((([] : List Bt.Grant).length : Int) ≤ 80))) rfl (q_call (args := #[.agg #[.string b.Name, v1, .int .i64 b.Cells, v3, v4, v5, v6, v7, v8, v9, .int .i64 b.Err], v2s, (.slice none 0 0)]) own10 rfl rfl (fun w1 hw1 => few_c w1 (Go.K.hp w1) (Hp.le_refl _) (hB.mono hw1.phi) (h2.mono hw1.phi) repSl_nil)) ?_
  refine RW.q (v := .bool (decide ((b.Places.length : Int) ≤ 64) && decide ((rs.length : Int) ≤ 40) && decide ((([] : List Bt.Grant).length : Int) ≤ 80))) rfl (q_assign rfl) ?_
  refine RW.nil ?_
  refine Post.then_n ?_
  refine AW.seq ?_
  refine AW.seq ?_
  refine AW.region ?_
  refine RW.q (v := .bool (decide ((b.Places.length : Int) ≤ 64) && decide ((rs.length : Int) ≤ 40) && decide ((([] : List Bt.Grant).length : Int) ≤ 80))) rfl (q_move rfl) ?_
  refine RW.q (v := .bool (!(decide ((b.Places.length : Int) ≤ 64) && decide ((rs.length : Int) ≤ 40) && decide ((([] : List Bt.Grant).length : Int) ≤ 80)))) rfl (q_not rfl) ?_
  refine RW.nil ?_
  refine Post.then_n ?_
  refine AW.cond (b := !(decide ((b.Places.length : Int) ≤ 64) && decide ((rs.length : Int) ≤ 40) && decide ((([] : List Bt.Grant).length : Int) ≤ 80))) rfl (fun hc1 => ?_) (fun hc1 => ?_)
  · simp [-List.getD_eq_getElem?_getD] at hc1
    refine AW.seq ?_
    refine AW.region ?_
    refine RW.q (v := .bool true) rfl (q_move rfl) ?_
    refine RW.q (v := .bool true) rfl (q_assign rfl) ?_
    refine RW.nil ?_
    refine Post.then_n ?_
    refine AW.ret ?_
    refine Post.then_r ?_
    exact fin_val (v' := .bool true) rfl rfl rfl (rfl)
  · simp [-List.getD_eq_getElem?_getD] at hc1
    refine AW.skip ?_
    refine Post.then_n ?_
    refine AW.seq ?_
    refine AW.region ?_
    refine RW.q (v := .agg #[.string b.Name, v1, .int .i64 b.Cells, v3, v4, v5, v6, v7, v8, v9, .int .i64 b.Err]) rfl (q_loadAgg rfl Try.underlying31 rfl sz31 rfl (Cells.blk 0 rfl)) ?_
    refine RW.q (v := v2s) rfl (q_move rfl) ?_
    refine RW.q (v := v1s) rfl (q_move rfl) ?_
    refine RW.eff (fun x : {y : Value × Value × Hp // RepSl y.2.2 (Al.day b.Places rs sup).2 y.1 ∧ IsSl y.2.1 b.Places.length ∧ Hp.le Φ y.2.2} => .tuple #[x.1.1, x.1.2.1]) (fun x => St ⟨w, Φ, []⟩ x.1.2.2 [.row x.1.2.1 3 1 b.Places.length (((Al.day b.Places rs sup).1).map (Value.int .i64)), .blk b1 31 [.string b.Name, v1, .int .i64 b.Cells, v3, v4, v5, v6, v7, v8, v9, .int .i64 b.Err]]) rfl (e_call (args := #[.agg #[.string b.Name, v1, .int .i64 b.Cells, v3, v4, v5, v6, v7, v8, v9, .int .i64 b.Err], v2s, v1s]) own11 rfl rfl (fun w1 hw1 => Day_c rfl hB h2 h1 w1 hw1)) ?_
    rintro ⟨⟨gv1, dl1, Φ1⟩, hgr1, hdl1, hlΦ1⟩
    replace hgr1 : RepSl Φ1 (Al.day b.Places rs sup).2 gv1 := hgr1
    replace hlΦ1 : Hp.le Φ Φ1 := hlΦ1
    replace hB := hB.mono hlΦ1
    replace r3 := r3.mono hlΦ1
    replace h1 := h1.mono hlΦ1
    replace h2 := h2.mono hlΦ1
    refine RW.frz (fun Φ2 hlΦ2 hshle1 => ?_)
    replace hB := hB.mono hlΦ2
    replace r3 := r3.mono hlΦ2
    replace h1 := h1.mono hlΦ2
    replace h2 := h2.mono hlΦ2
    replace hgr1 := hgr1.mono hlΦ2
    replace hle1 : RepSl Φ2 ((Al.day b.Places rs sup).1) dl1 := RowS.ints (T := 3) (n := b.Places.length) (hshle1) (by simp only [maxSl]; omega) (fun x hx => by have h9 := (Al.day_li (ps := b.Places) hsk _).mem x hx; unfold I64; omega)
    refine RW.q (v := .tuple #[gv1, dl1]) rfl (q_move rfl) ?_
    refine RW.q (v := gv1) rfl (q_extract rfl rfl) ?_
    refine RW.q (v := dl1) rfl (q_extract rfl rfl) ?_
    refine RW.q (v := gv1) rfl (q_assign rfl) ?_
    refine RW.q (v := dl1) rfl (q_assign rfl) ?_
    refine RW.nil ?_
    refine Post.then_n ?_
    refine AW.seq ?_
    refine AW.seq ?_
    have hg1 : (Al.day b.Places rs sup).2.length = rs.length := Al.day_len2 hsk rs
    have hl1 : (Al.day b.Places rs sup).1.length = b.Places.length := Al.day_len1 hsk rs
    refine AW.region ?_
    refine RW.q (v := gv1) rfl (q_move rfl) ?_
    refine RW.q (v := .int .i64 ((((Al.day b.Places rs sup).2).length : Nat) : Int)) rfl (q_len_sl rfl hgr1.sl Try.underlying33) ?_
    refine RW.q (v := v2s) rfl (q_move rfl) ?_
    refine RW.q (v := .int .i64 ((rs.length : Nat) : Int)) rfl (q_len_sl rfl h2.sl Try.underlying32) ?_
    refine RW.q (v := .bool (!decide (((((Al.day b.Places rs sup).2).length : Nat) : Int) = ((rs.length : Nat) : Int)))) rfl (q_neq rfl rfl) ?_
    refine RW.q (v := .bool (!decide (((((Al.day b.Places rs sup).2).length : Nat) : Int) = ((rs.length : Nat) : Int)))) rfl (q_move rfl) ?_
    refine RW.g (b := (!decide (((((Al.day b.Places rs sup).2).length : Nat) : Int) = ((rs.length : Nat) : Int)))) (v := dl1) rfl rfl rfl (fun h => q_move rfl) ?_
    refine RW.g (b := (!decide (((((Al.day b.Places rs sup).2).length : Nat) : Int) = ((rs.length : Nat) : Int)))) (v := .int .i64 ((((Al.day b.Places rs sup).1).length : Nat) : Int)) rfl rfl rfl (fun h => q_len_sl (gv_pos h) hle1.sl Try.underlying29) ?_
    refine RW.g (b := (!decide (((((Al.day b.Places rs sup).2).length : Nat) : Int) = ((rs.length : Nat) : Int)))) (v := .pointer (some (⟨b1, 3, none⟩))) rfl rfl rfl (fun h => q_fieldAddr rfl Try.underlying31 rfl sz23 rfl) ?_
    refine RW.g (b := (!decide (((((Al.day b.Places rs sup).2).length : Nat) : Int) = ((rs.length : Nat) : Int)))) (v := v3) rfl rfl rfl (fun h => q_load (gv_pos h) Try.underlying23 rfl (Cell.blk 0 rfl rfl)) ?_
    refine RW.g (b := (!decide (((((Al.day b.Places rs sup).2).length : Nat) : Int) = ((rs.length : Nat) : Int)))) (v := .int .i64 ((b.Places.length : Nat) : Int)) rfl rfl rfl (fun h => q_len_sl (gv_pos h) r3.sl Try.underlying23) ?_
    refine RW.g (b := (!decide (((((Al.day b.Places rs sup).2).length : Nat) : Int) = ((rs.length : Nat) : Int)))) (v := .bool (!decide (((((Al.day b.Places rs sup).1).length : Nat) : Int) = ((b.Places.length : Nat) : Int)))) rfl rfl rfl (fun h => q_neq (gv_pos h) (gv_pos h)) ?_
    refine RW.q (v := .bool ((!decide (((((Al.day b.Places rs sup).2).length : Nat) : Int) = ((rs.length : Nat) : Int))) || (!decide (((((Al.day b.Places rs sup).1).length : Nat) : Int) = ((b.Places.length : Nat) : Int))))) rfl (q_pick rfl (fun hp => pkOrT hp) (fun hp => (gv_pos hp).trans (pkOrF hp))) ?_
    refine RW.nil ?_
    refine Post.then_n ?_
    refine AW.cond (b := (!decide (((((Al.day b.Places rs sup).2).length : Nat) : Int) = ((rs.length : Nat) : Int))) || (!decide (((((Al.day b.Places rs sup).1).length : Nat) : Int) = ((b.Places.length : Nat) : Int)))) rfl (fun hc2 => ?_) (fun hc2 => ?_)
    · simp [-List.getD_eq_getElem?_getD] at hc2
      omega
    · simp [-List.getD_eq_getElem?_getD] at hc2
      refine AW.skip ?_
      refine Post.then_n ?_
      refine AW.seq ?_
      refine AW.seq ?_
      refine AW.region ?_
      refine RW.q (v := .int .i64 0) rfl (q_assign rfl) ?_
      refine RW.nil ?_
      refine Post.then_n ?_
      refine AW.block ?_
      refine AW.loop (fun s J m => ∃ (k : Nat), s = [(1, v2s), (2, v1s), (3, .pointer (some (⟨b1, 0, none⟩))), (7, .bool true), (9, gv1), (10, dl1), (11, .int .i64 (k : Int))] ∧ J = St ⟨w, Φ, []⟩ Φ2 [.blk b1 31 [.string b.Name, v1, .int .i64 b.Cells, v3, v4, v5, v6, v7, v8, v9, .int .i64 b.Err]] ∧ m = rs.length - k ∧ (k ≤ rs.length)) (s0 := _) (J1 := _) (m0 := _) ⟨0, rfl, rfl, rfl, (by omega)⟩ ⟨rfl, rfl, rfl, rfl, rfl, rfl, rfl, trivial⟩ (fun _ h => h) ?_
      rintro _ _ _ _ ⟨k, rfl, rfl, rfl, hk⟩
      refine AW.seq ?_
      refine AW.seq ?_
      refine AW.region ?_
      refine RW.q (v := .int .i64 (k : Int)) rfl (q_move rfl) ?_
      refine RW.q (v := v2s) rfl (q_move rfl) ?_
      refine RW.q (v := .int .i64 ((rs.length : Nat) : Int)) rfl (q_len_sl rfl h2.sl Try.underlying32) ?_
      refine RW.q (v := .bool (decide ((k : Int) < ((rs.length : Nat) : Int)))) rfl (q_lss rfl rfl) ?_
      refine RW.nil ?_
      refine Post.then_n ?_
      refine AW.cond (b := decide ((k : Int) < ((rs.length : Nat) : Int))) rfl (fun hc3 => ?_) (fun hc3 => ?_)
      · simp [-List.getD_eq_getElem?_getD] at hc3
        refine AW.skip ?_
        refine Post.then_n ?_
        refine AW.seq ?_
        refine AW.block ?_
        refine AW.seq ?_
        refine AW.draw (J0 := St ⟨w, Φ, []⟩ Φ2 [.blk b1 31 [.string b.Name, v1, .int .i64 b.Cells, v3, v4, v5, v6, v7, v8, v9, .int .i64 b.Err]]) [.q, .q, .q, .q, .q, .q, .q] [0, 1, 2, 3, 4, 5, 6] hmix (by kernel_rfl) ?_
        refine DW.q (v := .agg #[.string b.Name, v1, .int .i64 b.Cells, v3, v4, v5, v6, v7, v8, v9, .int .i64 b.Err]) (fun _ h => h) rfl (q_loadAgg rfl Try.underlying31 rfl sz31 rfl (Cells.blk 0 rfl)) ?_
        refine DW.q (v := v2s) (fun _ h => h) rfl (q_move rfl) ?_
        refine DW.q (v := .int .i64 (k : Int)) (fun _ h => h) rfl (q_move rfl) ?_
        refine DW.q (v := .pointer (some (Value.at v2s (k * 9)))) (fun _ h => h) rfl (q_indexAddr rfl rfl h2.sl Try.underlying32 sz45 (by omega) (by omega) rfl) ?_
        refine DW.q (v := .agg #[.int .i64 ((rs.getD k default).Id), .int .i64 ((rs.getD k default).Owner), .int .i64 ((rs.getD k default).Date), .int .i64 ((rs.getD k default).Place), .int .i64 ((rs.getD k default).Rate), .int .i64 ((rs.getD k default).From), .int .i64 ((rs.getD k default).Until), .int .i64 ((rs.getD k default).Back), .int .i64 ((rs.getD k default).BackTo)]) (fun _ h => h) rfl (q_loadAgg rfl Try.underlying45 rfl sz45 rfl (Cells.repE h2 (by omega) rfl)) ?_
        refine DW.q (v := .bool (decide (0 ≤ (rs.getD k default).Place) && decide ((rs.getD k default).Place < (b.Places.length : Int)))) (fun _ h => h) rfl (q_call (args := #[.agg #[.string b.Name, v1, .int .i64 b.Cells, v3, v4, v5, v6, v7, v8, v9, .int .i64 b.Err], .agg #[.int .i64 ((rs.getD k default).Id), .int .i64 ((rs.getD k default).Owner), .int .i64 ((rs.getD k default).Date), .int .i64 ((rs.getD k default).Place), .int .i64 ((rs.getD k default).Rate), .int .i64 ((rs.getD k default).From), .int .i64 ((rs.getD k default).Until), .int .i64 ((rs.getD k default).Back), .int .i64 ((rs.getD k default).BackTo)]]) own19 rfl rfl (fun w1 hw1 => place_c w1 (Go.K.hp w1) (Hp.le_refl _) (hB.mono hw1.phi))) ?_
        refine DW.q (v := .bool (decide (0 ≤ (rs.getD k default).Place) && decide ((rs.getD k default).Place < (b.Places.length : Int)))) (fun _ h => h) rfl (q_assign rfl) ?_
        refine DW.nil ?_
        refine Post.then_n ?_
        refine AW.seq ?_
        refine AW.seq ?_
        have hgr := Al.grant_rng (ps := b.Places) hsk hc3
        refine AW.draw (J0 := St ⟨w, Φ, []⟩ Φ2 [.blk b1 31 [.string b.Name, v1, .int .i64 b.Cells, v3, v4, v5, v6, v7, v8, v9, .int .i64 b.Err]]) [.q, .q, .q, .q, .q, .q, .q, .q, .q, .q, .q, .q, .q, .q, .q, .q, .q, .q, .q, .q, .q, .q, .q, .q, .q, .q, .q, .q, .q, .q, .q, .q, .q, .q, .q, .q, .q, .q, .q, .q, .q, .q, .q, .q, .q] [0, 1, 2, 3, 4, 5, 6, 7, 8, 9, 10, 11, 12, 13, 14, 15, 16, 17, 18, 19, 20, 21, 22, 23, 24, 25, 26, 27, 28, 29, 30, 31, 32, 33, 34, 35, 36, 37, 38, 39, 40, 41, 42, 43, 44] hmix (by kernel_rfl) ?_
        refine DW.q (v := gv1) (fun _ h => h) rfl (q_move rfl) ?_
        refine DW.q (v := .int .i64 (k : Int)) (fun _ h => h) rfl (q_move rfl) ?_
        refine DW.q (v := .pointer (some (Value.at gv1 (k * 2)))) (fun _ h => h) rfl (q_indexAddr rfl rfl hgr1.sl Try.underlying33 sz47 (by omega) (by omega) rfl) ?_
        refine DW.q (v := .pointer (some (Value.at gv1 (k * 2 + 0)))) (fun _ h => h) rfl (q_fieldAddr rfl Try.underlying47 rfl sz3 at_add) ?_
        refine DW.q (v := .int .i64 ((((Al.day b.Places rs sup).2).getD k default).Right)) (fun _ h => h) rfl (q_load rfl Try.underlying3 rfl (Cell.repE (j := 0) hgr1 (by omega) rfl)) ?_
        refine DW.q (v := v2s) (fun _ h => h) rfl (q_move rfl) ?_
        refine DW.q (v := .int .i64 (k : Int)) (fun _ h => h) rfl (q_move rfl) ?_
        refine DW.q (v := .pointer (some (Value.at v2s (k * 9)))) (fun _ h => h) rfl (q_indexAddr rfl rfl h2.sl Try.underlying32 sz45 (by omega) (by omega) rfl) ?_
        refine DW.q (v := .pointer (some (Value.at v2s (k * 9 + 0)))) (fun _ h => h) rfl (q_fieldAddr rfl Try.underlying45 rfl sz3 at_add) ?_
        refine DW.q (v := .int .i64 ((rs.getD k default).Id)) (fun _ h => h) rfl (q_load rfl Try.underlying3 rfl (Cell.repE (j := 0) h2 (by omega) rfl)) ?_
        refine DW.q (v := .bool (!decide ((((Al.day b.Places rs sup).2).getD k default).Right = (rs.getD k default).Id))) (fun _ h => h) rfl (q_neq rfl rfl) ?_
        refine DW.q (v := .bool (!decide ((((Al.day b.Places rs sup).2).getD k default).Right = (rs.getD k default).Id))) (fun _ h => h) rfl (q_move rfl) ?_
        refine DW.g (b := (!decide ((((Al.day b.Places rs sup).2).getD k default).Right = (rs.getD k default).Id))) (v := gv1) (fun _ h => h) rfl rfl rfl (fun h => q_move rfl) ?_
        refine DW.g (b := (!decide ((((Al.day b.Places rs sup).2).getD k default).Right = (rs.getD k default).Id))) (v := .int .i64 (k : Int)) (fun _ h => h) rfl rfl rfl (fun h => q_move rfl) ?_
        refine DW.g (b := (!decide ((((Al.day b.Places rs sup).2).getD k default).Right = (rs.getD k default).Id))) (v := .pointer (some (Value.at gv1 (k * 2)))) (fun _ h => h) rfl rfl rfl (fun h => q_indexAddr (gv_pos h) (gv_pos h) hgr1.sl Try.underlying33 sz47 (by (try simp [-List.getD_eq_getElem?_getD] at h); omega) (by (try simp [-List.getD_eq_getElem?_getD] at h); omega) rfl) ?_
        refine DW.g (b := (!decide ((((Al.day b.Places rs sup).2).getD k default).Right = (rs.getD k default).Id))) (v := .pointer (some (Value.at gv1 (k * 2 + 1)))) (fun _ h => h) rfl rfl rfl (fun h => q_fieldAddr (gv_pos h) Try.underlying47 rfl sz3 at_add) ?_
        refine DW.g (b := (!decide ((((Al.day b.Places rs sup).2).getD k default).Right = (rs.getD k default).Id))) (v := .int .i64 ((((Al.day b.Places rs sup).2).getD k default).Litres)) (fun _ h => h) rfl rfl rfl (fun h => q_load (gv_pos h) Try.underlying3 rfl (Cell.repE (j := 1) hgr1 (by (try simp [-List.getD_eq_getElem?_getD] at h); omega) rfl)) ?_
        refine DW.g (b := (!decide ((((Al.day b.Places rs sup).2).getD k default).Right = (rs.getD k default).Id))) (v := .bool (decide ((((Al.day b.Places rs sup).2).getD k default).Litres < 0))) (fun _ h => h) rfl rfl rfl (fun h => q_lss (gv_pos h) rfl) ?_
        refine DW.q (v := .bool ((!decide ((((Al.day b.Places rs sup).2).getD k default).Right = (rs.getD k default).Id)) || (decide ((((Al.day b.Places rs sup).2).getD k default).Litres < 0)))) (fun _ h => h) rfl (q_pick rfl (fun hp => pkOrT hp) (fun hp => (gv_pos hp).trans (pkOrF hp))) ?_
        refine DW.q (v := .bool ((!decide ((((Al.day b.Places rs sup).2).getD k default).Right = (rs.getD k default).Id)) || (decide ((((Al.day b.Places rs sup).2).getD k default).Litres < 0)))) (fun _ h => h) rfl (q_move rfl) ?_
        refine DW.g (b := ((!decide ((((Al.day b.Places rs sup).2).getD k default).Right = (rs.getD k default).Id)) || (decide ((((Al.day b.Places rs sup).2).getD k default).Litres < 0)))) (v := gv1) (fun _ h => h) rfl rfl rfl (fun h => q_move rfl) ?_
        refine DW.g (b := ((!decide ((((Al.day b.Places rs sup).2).getD k default).Right = (rs.getD k default).Id)) || (decide ((((Al.day b.Places rs sup).2).getD k default).Litres < 0)))) (v := .int .i64 (k : Int)) (fun _ h => h) rfl rfl rfl (fun h => q_move rfl) ?_
        refine DW.g (b := ((!decide ((((Al.day b.Places rs sup).2).getD k default).Right = (rs.getD k default).Id)) || (decide ((((Al.day b.Places rs sup).2).getD k default).Litres < 0)))) (v := .pointer (some (Value.at gv1 (k * 2)))) (fun _ h => h) rfl rfl rfl (fun h => q_indexAddr (gv_pos h) (gv_pos h) hgr1.sl Try.underlying33 sz47 (by (try simp [-List.getD_eq_getElem?_getD] at h); omega) (by (try simp [-List.getD_eq_getElem?_getD] at h); omega) rfl) ?_
        refine DW.g (b := ((!decide ((((Al.day b.Places rs sup).2).getD k default).Right = (rs.getD k default).Id)) || (decide ((((Al.day b.Places rs sup).2).getD k default).Litres < 0)))) (v := .pointer (some (Value.at gv1 (k * 2 + 1)))) (fun _ h => h) rfl rfl rfl (fun h => q_fieldAddr (gv_pos h) Try.underlying47 rfl sz3 at_add) ?_
        refine DW.g (b := ((!decide ((((Al.day b.Places rs sup).2).getD k default).Right = (rs.getD k default).Id)) || (decide ((((Al.day b.Places rs sup).2).getD k default).Litres < 0)))) (v := .int .i64 ((((Al.day b.Places rs sup).2).getD k default).Litres)) (fun _ h => h) rfl rfl rfl (fun h => q_load (gv_pos h) Try.underlying3 rfl (Cell.repE (j := 1) hgr1 (by (try simp [-List.getD_eq_getElem?_getD] at h); omega) rfl)) ?_
        refine DW.g (b := ((!decide ((((Al.day b.Places rs sup).2).getD k default).Right = (rs.getD k default).Id)) || (decide ((((Al.day b.Places rs sup).2).getD k default).Litres < 0)))) (v := v2s) (fun _ h => h) rfl rfl rfl (fun h => q_move rfl) ?_
        refine DW.g (b := ((!decide ((((Al.day b.Places rs sup).2).getD k default).Right = (rs.getD k default).Id)) || (decide ((((Al.day b.Places rs sup).2).getD k default).Litres < 0)))) (v := .int .i64 (k : Int)) (fun _ h => h) rfl rfl rfl (fun h => q_move rfl) ?_
        refine DW.g (b := ((!decide ((((Al.day b.Places rs sup).2).getD k default).Right = (rs.getD k default).Id)) || (decide ((((Al.day b.Places rs sup).2).getD k default).Litres < 0)))) (v := .pointer (some (Value.at v2s (k * 9)))) (fun _ h => h) rfl rfl rfl (fun h => q_indexAddr (gv_pos h) (gv_pos h) h2.sl Try.underlying32 sz45 (by (try simp [-List.getD_eq_getElem?_getD] at h); omega) (by (try simp [-List.getD_eq_getElem?_getD] at h); omega) rfl) ?_
        refine DW.g (b := ((!decide ((((Al.day b.Places rs sup).2).getD k default).Right = (rs.getD k default).Id)) || (decide ((((Al.day b.Places rs sup).2).getD k default).Litres < 0)))) (v := .pointer (some (Value.at v2s (k * 9 + 4)))) (fun _ h => h) rfl rfl rfl (fun h => q_fieldAddr (gv_pos h) Try.underlying45 rfl sz3 at_add) ?_
        refine DW.g (b := ((!decide ((((Al.day b.Places rs sup).2).getD k default).Right = (rs.getD k default).Id)) || (decide ((((Al.day b.Places rs sup).2).getD k default).Litres < 0)))) (v := .int .i64 ((rs.getD k default).Rate)) (fun _ h => h) rfl rfl rfl (fun h => q_load (gv_pos h) Try.underlying3 rfl (Cell.repE (j := 4) h2 (by (try simp [-List.getD_eq_getElem?_getD] at h); omega) rfl)) ?_
        refine DW.g (b := ((!decide ((((Al.day b.Places rs sup).2).getD k default).Right = (rs.getD k default).Id)) || (decide ((((Al.day b.Places rs sup).2).getD k default).Litres < 0)))) (v := .int .i64 (max 0 ((rs.getD k default).Rate))) (fun _ h => h) rfl rfl rfl (fun h => q_max rfl (gv_pos h)) ?_
        refine DW.g (b := ((!decide ((((Al.day b.Places rs sup).2).getD k default).Right = (rs.getD k default).Id)) || (decide ((((Al.day b.Places rs sup).2).getD k default).Litres < 0)))) (v := .bool (decide (max 0 ((rs.getD k default).Rate) < (((Al.day b.Places rs sup).2).getD k default).Litres))) (fun _ h => h) rfl rfl rfl (fun h => q_gtr (gv_pos h) (gv_pos h)) ?_
        refine DW.q (v := .bool (((!decide ((((Al.day b.Places rs sup).2).getD k default).Right = (rs.getD k default).Id)) || (decide ((((Al.day b.Places rs sup).2).getD k default).Litres < 0))) || (decide (max 0 ((rs.getD k default).Rate) < (((Al.day b.Places rs sup).2).getD k default).Litres)))) (fun _ h => h) rfl (q_pick rfl (fun hp => pkOrT hp) (fun hp => (gv_pos hp).trans (pkOrF hp))) ?_
        refine DW.q (v := .bool (((!decide ((((Al.day b.Places rs sup).2).getD k default).Right = (rs.getD k default).Id)) || (decide ((((Al.day b.Places rs sup).2).getD k default).Litres < 0))) || (decide (max 0 ((rs.getD k default).Rate) < (((Al.day b.Places rs sup).2).getD k default).Litres)))) (fun _ h => h) rfl (q_move rfl) ?_
        refine DW.g (b := (((!decide ((((Al.day b.Places rs sup).2).getD k default).Right = (rs.getD k default).Id)) || (decide ((((Al.day b.Places rs sup).2).getD k default).Litres < 0))) || (decide (max 0 ((rs.getD k default).Rate) < (((Al.day b.Places rs sup).2).getD k default).Litres)))) (v := .bool (decide (0 ≤ (rs.getD k default).Place) && decide ((rs.getD k default).Place < (b.Places.length : Int)))) (fun _ h => h) rfl rfl rfl (fun h => q_move rfl) ?_
        refine DW.g (b := (((!decide ((((Al.day b.Places rs sup).2).getD k default).Right = (rs.getD k default).Id)) || (decide ((((Al.day b.Places rs sup).2).getD k default).Litres < 0))) || (decide (max 0 ((rs.getD k default).Rate) < (((Al.day b.Places rs sup).2).getD k default).Litres)))) (v := .bool (!(decide (0 ≤ (rs.getD k default).Place) && decide ((rs.getD k default).Place < (b.Places.length : Int))))) (fun _ h => h) rfl rfl rfl (fun h => q_not (gv_pos h)) ?_
        refine DW.g (b := (((!decide ((((Al.day b.Places rs sup).2).getD k default).Right = (rs.getD k default).Id)) || (decide ((((Al.day b.Places rs sup).2).getD k default).Litres < 0))) || (decide (max 0 ((rs.getD k default).Rate) < (((Al.day b.Places rs sup).2).getD k default).Litres)))) (v := .bool (!(decide (0 ≤ (rs.getD k default).Place) && decide ((rs.getD k default).Place < (b.Places.length : Int))))) (fun _ h => h) rfl rfl rfl (fun h => q_move (gv_pos h)) ?_
        refine DW.g2 (b1 := (((!decide ((((Al.day b.Places rs sup).2).getD k default).Right = (rs.getD k default).Id)) || (decide ((((Al.day b.Places rs sup).2).getD k default).Litres < 0))) || (decide (max 0 ((rs.getD k default).Rate) < (((Al.day b.Places rs sup).2).getD k default).Litres)))) (b2 := (!(decide (0 ≤ (rs.getD k default).Place) && decide ((rs.getD k default).Place < (b.Places.length : Int))))) (v := gv1) (fun _ h => h) rfl rfl rfl (fun hg1 hg2 => q_move rfl) ?_
        refine DW.g2 (b1 := (((!decide ((((Al.day b.Places rs sup).2).getD k default).Right = (rs.getD k default).Id)) || (decide ((((Al.day b.Places rs sup).2).getD k default).Litres < 0))) || (decide (max 0 ((rs.getD k default).Rate) < (((Al.day b.Places rs sup).2).getD k default).Litres)))) (b2 := (!(decide (0 ≤ (rs.getD k default).Place) && decide ((rs.getD k default).Place < (b.Places.length : Int))))) (v := .int .i64 (k : Int)) (fun _ h => h) rfl rfl rfl (fun hg1 hg2 => q_move rfl) ?_
        refine DW.g2 (b1 := (((!decide ((((Al.day b.Places rs sup).2).getD k default).Right = (rs.getD k default).Id)) || (decide ((((Al.day b.Places rs sup).2).getD k default).Litres < 0))) || (decide (max 0 ((rs.getD k default).Rate) < (((Al.day b.Places rs sup).2).getD k default).Litres)))) (b2 := (!(decide (0 ≤ (rs.getD k default).Place) && decide ((rs.getD k default).Place < (b.Places.length : Int))))) (v := .pointer (some (Value.at gv1 (k * 2)))) (fun _ h => h) rfl rfl rfl (fun hg1 hg2 => q_indexAddr ((gv_pos hg1).trans (gv_pos hg2)) ((gv_pos hg1).trans (gv_pos hg2)) hgr1.sl Try.underlying33 sz47 (by (try simp [-List.getD_eq_getElem?_getD] at hg1); (try simp [-List.getD_eq_getElem?_getD] at hg2); omega) (by (try simp [-List.getD_eq_getElem?_getD] at hg1); (try simp [-List.getD_eq_getElem?_getD] at hg2); omega) rfl) ?_
        refine DW.g2 (b1 := (((!decide ((((Al.day b.Places rs sup).2).getD k default).Right = (rs.getD k default).Id)) || (decide ((((Al.day b.Places rs sup).2).getD k default).Litres < 0))) || (decide (max 0 ((rs.getD k default).Rate) < (((Al.day b.Places rs sup).2).getD k default).Litres)))) (b2 := (!(decide (0 ≤ (rs.getD k default).Place) && decide ((rs.getD k default).Place < (b.Places.length : Int))))) (v := .pointer (some (Value.at gv1 (k * 2 + 1)))) (fun _ h => h) rfl rfl rfl (fun hg1 hg2 => q_fieldAddr ((gv_pos hg1).trans (gv_pos hg2)) Try.underlying47 rfl sz3 at_add) ?_
        refine DW.g2 (b1 := (((!decide ((((Al.day b.Places rs sup).2).getD k default).Right = (rs.getD k default).Id)) || (decide ((((Al.day b.Places rs sup).2).getD k default).Litres < 0))) || (decide (max 0 ((rs.getD k default).Rate) < (((Al.day b.Places rs sup).2).getD k default).Litres)))) (b2 := (!(decide (0 ≤ (rs.getD k default).Place) && decide ((rs.getD k default).Place < (b.Places.length : Int))))) (v := .int .i64 ((((Al.day b.Places rs sup).2).getD k default).Litres)) (fun _ h => h) rfl rfl rfl (fun hg1 hg2 => q_load ((gv_pos hg1).trans (gv_pos hg2)) Try.underlying3 rfl (Cell.repE (j := 1) hgr1 (by (try simp [-List.getD_eq_getElem?_getD] at hg1); (try simp [-List.getD_eq_getElem?_getD] at hg2); omega) rfl)) ?_
        refine DW.g2 (b1 := (((!decide ((((Al.day b.Places rs sup).2).getD k default).Right = (rs.getD k default).Id)) || (decide ((((Al.day b.Places rs sup).2).getD k default).Litres < 0))) || (decide (max 0 ((rs.getD k default).Rate) < (((Al.day b.Places rs sup).2).getD k default).Litres)))) (b2 := (!(decide (0 ≤ (rs.getD k default).Place) && decide ((rs.getD k default).Place < (b.Places.length : Int))))) (v := .bool (!decide ((((Al.day b.Places rs sup).2).getD k default).Litres = 0))) (fun _ h => h) rfl rfl rfl (fun hg1 hg2 => q_neq ((gv_pos hg1).trans (gv_pos hg2)) rfl) ?_
        refine DW.g (b := (((!decide ((((Al.day b.Places rs sup).2).getD k default).Right = (rs.getD k default).Id)) || (decide ((((Al.day b.Places rs sup).2).getD k default).Litres < 0))) || (decide (max 0 ((rs.getD k default).Rate) < (((Al.day b.Places rs sup).2).getD k default).Litres)))) (v := .bool ((!(decide (0 ≤ (rs.getD k default).Place) && decide ((rs.getD k default).Place < (b.Places.length : Int)))) && (!decide ((((Al.day b.Places rs sup).2).getD k default).Litres = 0)))) (fun _ h => h) rfl rfl rfl (fun h => q_pick (gv_pos h) (fun hp => (gv_pos h).trans ((gv_pos hp).trans (pkAndT hp))) (fun hp => pkAndF hp)) ?_
        refine DW.q (v := .bool ((((!decide ((((Al.day b.Places rs sup).2).getD k default).Right = (rs.getD k default).Id)) || (decide ((((Al.day b.Places rs sup).2).getD k default).Litres < 0))) || (decide (max 0 ((rs.getD k default).Rate) < (((Al.day b.Places rs sup).2).getD k default).Litres))) || ((!(decide (0 ≤ (rs.getD k default).Place) && decide ((rs.getD k default).Place < (b.Places.length : Int)))) && (!decide ((((Al.day b.Places rs sup).2).getD k default).Litres = 0))))) (fun _ h => h) rfl (q_pick rfl (fun hp => pkOrT hp) (fun hp => (gv_pos hp).trans (pkOrF hp))) ?_
        refine DW.nil ?_
        refine Post.then_n ?_
        refine AW.cond (b := (((!decide ((((Al.day b.Places rs sup).2).getD k default).Right = (rs.getD k default).Id)) || (decide ((((Al.day b.Places rs sup).2).getD k default).Litres < 0))) || (decide (max 0 ((rs.getD k default).Rate) < (((Al.day b.Places rs sup).2).getD k default).Litres))) || ((!(decide (0 ≤ (rs.getD k default).Place) && decide ((rs.getD k default).Place < (b.Places.length : Int)))) && (!decide ((((Al.day b.Places rs sup).2).getD k default).Litres = 0)))) rfl (fun hc4 => ?_) (fun hc4 => ?_)
        · simp [-List.getD_eq_getElem?_getD] at hc4
          exfalso
          obtain ⟨z1, z2, z3, z4⟩ := hgr
          rcases hc4 with ((h | h) | h) | h
          · exact h z1
          · omega
          · omega
          · exact h.2 (z4 (fun hh => by omega))
        · simp [-List.getD_eq_getElem?_getD] at hc4
          refine AW.skip ?_
          refine Post.then_n ?_
          refine AW.seq ?_
          refine AW.draw (J0 := St ⟨w, Φ, []⟩ Φ2 [.blk b1 31 [.string b.Name, v1, .int .i64 b.Cells, v3, v4, v5, v6, v7, v8, v9, .int .i64 b.Err]]) [.q, .q, .q, .q, .q, .q, .q, .q, .q, .q, .q, .q, .q, .q, .q, .q] [0, 1, 2, 3, 4, 5, 6, 7, 8, 9, 10, 11, 12, 13, 14, 15] hmix (by kernel_rfl) ?_
          refine DW.q (v := gv1) (fun _ h => h) rfl (q_move rfl) ?_
          refine DW.q (v := .int .i64 (k : Int)) (fun _ h => h) rfl (q_move rfl) ?_
          refine DW.q (v := .pointer (some (Value.at gv1 (k * 2)))) (fun _ h => h) rfl (q_indexAddr rfl rfl hgr1.sl Try.underlying33 sz47 (by omega) (by omega) rfl) ?_
          refine DW.q (v := .pointer (some (Value.at gv1 (k * 2 + 1)))) (fun _ h => h) rfl (q_fieldAddr rfl Try.underlying47 rfl sz3 at_add) ?_
          refine DW.q (v := .int .i64 ((((Al.day b.Places rs sup).2).getD k default).Litres)) (fun _ h => h) rfl (q_load rfl Try.underlying3 rfl (Cell.repE (j := 1) hgr1 (by omega) rfl)) ?_
          refine DW.q (v := v2s) (fun _ h => h) rfl (q_move rfl) ?_
          refine DW.q (v := .int .i64 (k : Int)) (fun _ h => h) rfl (q_move rfl) ?_
          refine DW.q (v := .pointer (some (Value.at v2s (k * 9)))) (fun _ h => h) rfl (q_indexAddr rfl rfl h2.sl Try.underlying32 sz45 (by omega) (by omega) rfl) ?_
          refine DW.q (v := .pointer (some (Value.at v2s (k * 9 + 4)))) (fun _ h => h) rfl (q_fieldAddr rfl Try.underlying45 rfl sz3 at_add) ?_
          refine DW.q (v := .int .i64 ((rs.getD k default).Rate)) (fun _ h => h) rfl (q_load rfl Try.underlying3 rfl (Cell.repE (j := 4) h2 (by omega) rfl)) ?_
          refine DW.q (v := .bool (decide ((rs.getD k default).Rate ≤ (((Al.day b.Places rs sup).2).getD k default).Litres))) (fun _ h => h) rfl (q_geq rfl rfl) ?_
          refine DW.q (v := .bool (decide ((rs.getD k default).Rate ≤ (((Al.day b.Places rs sup).2).getD k default).Litres))) (fun _ h => h) rfl (q_move rfl) ?_
          refine DW.g (b := (decide ((rs.getD k default).Rate ≤ (((Al.day b.Places rs sup).2).getD k default).Litres))) (v := .bool (decide (0 ≤ (rs.getD k default).Place) && decide ((rs.getD k default).Place < (b.Places.length : Int)))) (fun _ h => h) rfl rfl rfl (fun h => q_move rfl) ?_
          refine DW.g (b := (decide ((rs.getD k default).Rate ≤ (((Al.day b.Places rs sup).2).getD k default).Litres))) (v := .bool (!(decide (0 ≤ (rs.getD k default).Place) && decide ((rs.getD k default).Place < (b.Places.length : Int))))) (fun _ h => h) rfl rfl rfl (fun h => q_not (gv_pos h)) ?_
          refine DW.q (v := .bool ((decide ((rs.getD k default).Rate ≤ (((Al.day b.Places rs sup).2).getD k default).Litres)) || (!(decide (0 ≤ (rs.getD k default).Place) && decide ((rs.getD k default).Place < (b.Places.length : Int)))))) (fun _ h => h) rfl (q_pick rfl (fun hp => pkOrT hp) (fun hp => (gv_pos hp).trans (pkOrF hp))) ?_
          refine DW.q (v := .bool ((decide ((rs.getD k default).Rate ≤ (((Al.day b.Places rs sup).2).getD k default).Litres)) || (!(decide (0 ≤ (rs.getD k default).Place) && decide ((rs.getD k default).Place < (b.Places.length : Int)))))) (fun _ h => h) rfl (q_assign rfl) ?_
          refine DW.nil ?_
          refine Post.then_n ?_
          refine AW.seq ?_
          have hrl := Al.reach_len b.Places (rs.getD k default).Place
          have hB_0 := hB
          have r3_0 := r3
          have h1_0 := h1
          have h2_0 := h2
          have hgr1_0 := hgr1
          have hle1_0 := hle1
          refine AW.draw (J0 := St ⟨w, Φ, []⟩ Φ2 [.blk b1 31 [.string b.Name, v1, .int .i64 b.Cells, v3, v4, v5, v6, v7, v8, v9, .int .i64 b.Err]]) [.q, .q, .q, .q, .q, .q, .e, .q] [0, 1, 2, 3, 4, 5, 6, 7] hmix (by kernel_rfl) ?_
          refine DW.q (v := .agg #[.string b.Name, v1, .int .i64 b.Cells, v3, v4, v5, v6, v7, v8, v9, .int .i64 b.Err]) (fun _ h => h) rfl (q_loadAgg rfl Try.underlying31 rfl sz31 rfl (Cells.blk 0 rfl)) ?_
          refine DW.q (v := v2s) (fun _ h => h) rfl (q_move rfl) ?_
          refine DW.q (v := .int .i64 (k : Int)) (fun _ h => h) rfl (q_move rfl) ?_
          refine DW.q (v := .pointer (some (Value.at v2s (k * 9)))) (fun _ h => h) rfl (q_indexAddr rfl rfl h2.sl Try.underlying32 sz45 (by omega) (by omega) rfl) ?_
          refine DW.q (v := .pointer (some (Value.at v2s (k * 9 + 3)))) (fun _ h => h) rfl (q_fieldAddr rfl Try.underlying45 rfl sz3 at_add) ?_
          refine DW.q (v := .int .i64 ((rs.getD k default).Place)) (fun _ h => h) rfl (q_load rfl Try.underlying3 rfl (Cell.repE (j := 3) h2 (by omega) rfl)) ?_
          refine DW.eff (fun x : {y : Value × Hp // (fun r Ψ => RepSl Ψ (Al.reach b.Places ((rs.getD k default).Place)) r) y.1 y.2 ∧ Hp.le Φ2 y.2} => x.1.1) (fun x => St ⟨w, Φ, []⟩ x.1.2 [.blk b1 31 [.string b.Name, v1, .int .i64 b.Cells, v3, v4, v5, v6, v7, v8, v9, .int .i64 b.Err]]) (fun _ x => (fun _ h => StP.know x.2.2 h)) rfl (e_callS (T := fun r Ψ => RepSl Ψ (Al.reach b.Places ((rs.getD k default).Place)) r) (args := #[.agg #[.string b.Name, v1, .int .i64 b.Cells, v3, v4, v5, v6, v7, v8, v9, .int .i64 b.Err], .int .i64 ((rs.getD k default).Place)]) own14 rfl rfl (fun w1 hw1 => (Reach_c w1 (Go.K.hp w1) (Hp.le_refl _) (hB.mono hw1.phi)).mono fun _ _ => retS_up (fun _ _ _ hl h => h.mono hl))) ?_
          rintro ⟨⟨lv1, Φ3⟩, hlv1, hlΦ3⟩
          replace hlv1 : RepSl Φ3 (Al.reach b.Places ((rs.getD k default).Place)) lv1 := hlv1
          replace hlΦ3 : Hp.le Φ2 Φ3 := hlΦ3
          replace hB := hB.mono hlΦ3
          replace r3 := r3.mono hlΦ3
          replace h1 := h1.mono hlΦ3
          replace h2 := h2.mono hlΦ3
          replace hgr1 := hgr1.mono hlΦ3
          replace hle1 := hle1.mono hlΦ3
          refine DW.q (v := lv1) (fun _ h => StP.know hlΦ3 h) rfl (q_assign rfl) ?_
          refine DW.nil ?_
          refine Post.then_n ?_
          refine AW.seq ?_
          refine AW.seq ?_
          refine AW.region ?_
          refine RW.q (v := .int .i64 0) rfl (q_assign rfl) ?_
          refine RW.nil ?_
          refine Post.then_n ?_
          refine AW.block ?_
          refine AW.loop (fun s J m => ∃ (sp : Bool), ∃ (j : Nat), s = [(1, v2s), (2, v1s), (3, .pointer (some (⟨b1, 0, none⟩))), (7, .bool true), (9, gv1), (10, dl1), (11, .int .i64 (k : Int)), (12, .bool (decide (0 ≤ (rs.getD k default).Place) && decide ((rs.getD k default).Place < (b.Places.length : Int)))), (14, lv1), (13, .bool sp), (15, .int .i64 (j : Int))] ∧ J = St ⟨w, Φ, []⟩ Φ3 [.blk b1 31 [.string b.Name, v1, .int .i64 b.Cells, v3, v4, v5, v6, v7, v8, v9, .int .i64 b.Err]] ∧ m = (Al.reach b.Places (rs.getD k default).Place).length - j ∧ (j ≤ (Al.reach b.Places (rs.getD k default).Place).length) ∧ ((rs.getD k default).Rate ≤ ((Al.day b.Places rs sup).2.getD k default).Litres ∨ ¬ (0 ≤ (rs.getD k default).Place ∧ (rs.getD k default).Place < b.Places.length) → sp = true) ∧ (∀ i, i < j → (Al.day b.Places rs sup).1.getD ((Al.reach b.Places (rs.getD k default).Place).getD i 0).toNat 0 = 0 → sp = true)) (s0 := _) (J1 := _) (m0 := _) ⟨_, 0, rfl, rfl, rfl, (by omega), (fun h => Al.base_t h), (fun _ h => absurd h (Nat.not_lt_zero _))⟩ ⟨rfl, rfl, rfl, rfl, rfl, rfl, rfl, rfl, rfl, rfl, rfl, trivial⟩ (fun _ h => h) ?_
          rintro _ _ _ _ ⟨sp, j, rfl, rfl, rfl, hj, hs1, hs2⟩
          refine AW.seq ?_
          refine AW.seq ?_
          refine AW.region ?_
          refine RW.q (v := .int .i64 (j : Int)) rfl (q_move rfl) ?_
          refine RW.q (v := lv1) rfl (q_move rfl) ?_
          refine RW.q (v := .int .i64 (((Al.reach b.Places ((rs.getD k default).Place)).length : Nat) : Int)) rfl (q_len_sl rfl hlv1.sl Try.underlying29) ?_
          refine RW.q (v := .bool (decide ((j : Int) < (((Al.reach b.Places ((rs.getD k default).Place)).length : Nat) : Int)))) rfl (q_lss rfl rfl) ?_
          refine RW.nil ?_
          refine Post.then_n ?_
          refine AW.cond (b := decide ((j : Int) < (((Al.reach b.Places ((rs.getD k default).Place)).length : Nat) : Int))) rfl (fun hc5 => ?_) (fun hc5 => ?_)
          · simp [-List.getD_eq_getElem?_getD] at hc5
            refine AW.skip ?_
            refine Post.then_n ?_
            refine AW.seq ?_
            refine AW.block ?_
            have hrq := (Al.reach_ri b.Places (rs.getD k default).Place).2 _ (Al.getD_mem hc5)
            refine AW.region ?_
            refine RW.q (v := .bool sp) rfl (q_move rfl) ?_
            refine RW.q (v := .bool sp) rfl (q_move rfl) ?_
            refine RW.g (b := sp) (v := dl1) rfl rfl rfl (fun h => q_move rfl) ?_
            refine RW.g (b := sp) (v := lv1) rfl rfl rfl (fun h => q_move rfl) ?_
            refine RW.g (b := sp) (v := .int .i64 (j : Int)) rfl rfl rfl (fun h => q_move rfl) ?_
            refine RW.g (b := sp) (v := .pointer (some (Value.at lv1 (j * 1)))) rfl rfl rfl (fun h => q_indexAddr (gv_pos h) (gv_pos h) hlv1.sl Try.underlying29 sz3 (by (try simp [-List.getD_eq_getElem?_getD] at h); omega) (by (try simp [-List.getD_eq_getElem?_getD] at h); omega) rfl) ?_
            refine RW.g (b := sp) (v := .int .i64 ((Al.reach b.Places ((rs.getD k default).Place)).getD j 0)) rfl rfl rfl (fun h => q_load (gv_pos h) Try.underlying3 rfl (Cell.repInt hlv1 (by (try simp [-List.getD_eq_getElem?_getD] at h); omega))) ?_
            refine RW.g (b := sp) (v := .pointer (some (Value.at dl1 ((((Al.reach b.Places ((rs.getD k default).Place)).getD j 0).toNat) * 1)))) rfl rfl rfl (fun h => q_indexAddr (gv_pos h) (gv_pos h) hle1.sl Try.underlying29 sz3 (by (try simp [-List.getD_eq_getElem?_getD] at h); omega) (by (try simp [-List.getD_eq_getElem?_getD] at h); omega) rfl) ?_
            refine RW.g (b := sp) (v := .int .i64 (((Al.day b.Places rs sup).1).getD (((Al.reach b.Places ((rs.getD k default).Place)).getD j 0).toNat) 0)) rfl rfl rfl (fun h => q_load (gv_pos h) Try.underlying3 rfl (Cell.repInt hle1 (by (try simp [-List.getD_eq_getElem?_getD] at h); omega))) ?_
            refine RW.g (b := sp) (v := .bool (decide (((Al.day b.Places rs sup).1).getD (((Al.reach b.Places ((rs.getD k default).Place)).getD j 0).toNat) 0 = 0))) rfl rfl rfl (fun h => q_eql (gv_pos h) rfl) ?_
            refine RW.q (v := .bool (sp || (decide (((Al.day b.Places rs sup).1).getD (((Al.reach b.Places ((rs.getD k default).Place)).getD j 0).toNat) 0 = 0)))) rfl (q_pick rfl (fun hp => pkOrT hp) (fun hp => (gv_pos hp).trans (pkOrF hp))) ?_
            refine RW.q (v := .bool (sp || (decide (((Al.day b.Places rs sup).1).getD (((Al.reach b.Places ((rs.getD k default).Place)).getD j 0).toNat) 0 = 0)))) rfl (q_assign rfl) ?_
            refine RW.nil ?_
            refine Post.blk_n (Post.then_n ?_)
            refine AW.region ?_
            refine RW.q (v := .int .i64 (j : Int)) rfl (q_move rfl) ?_
            refine RW.q (v := .int .i64 ((j + 1 : Nat) : Int)) rfl (q_add rfl rfl (by omega) (by unfold I64; omega)) ?_
            refine RW.q (v := .int .i64 ((j + 1 : Nat) : Int)) rfl (q_assign rfl) ?_
            refine RW.nil ?_
            exact Post.back (s' := _) (J' := _) (m' := _) (by omega) ⟨_, j + 1, rfl, rfl, rfl, (by omega), (fun h => by rw [hs1 h]; rfl), (fun i hi h0 => if e : i < j then (by rw [hs2 i e h0]; rfl) else (by have e2 : i = j := (by omega); rw [e2] at h0; rw [decide_eq_true h0, Bool.or_true]))⟩ ⟨rfl, rfl, rfl, rfl, rfl, rfl, rfl, rfl, rfl, rfl, rfl, trivial⟩ (fun _ h => h)
          · simp [-List.getD_eq_getElem?_getD] at hc5
            refine AW.exit ?_
            refine Post.then_x (Post.then_x (Post.blk_hit (Post.then_n ?_)))
            refine AW.seq ?_
            refine AW.region ?_
            refine RW.q (v := .bool sp) rfl (q_move rfl) ?_
            refine RW.q (v := .bool !sp) rfl (q_not rfl) ?_
            refine RW.nil ?_
            refine Post.then_n ?_
            refine AW.cond (b := !sp) rfl (fun hc6 => ?_) (fun hc6 => ?_)
            · simp [-List.getD_eq_getElem?_getD] at hc6
              exfalso
              by_cases hp : 0 ≤ (rs.getD k default).Place ∧ (rs.getD k default).Place < b.Places.length
              · by_cases hlt : ((Al.day b.Places rs sup).2.getD k default).Litres < (rs.getD k default).Rate
                · obtain ⟨i, hi, h0⟩ := Al.stop_at hsk hc3 hp hlt
                  rw [hs2 i (by omega) h0] at hc6; cases hc6
                · rw [hs1 (.inl (by omega))] at hc6; cases hc6
              · rw [hs1 (.inr hp)] at hc6; cases hc6
            · simp [-List.getD_eq_getElem?_getD] at hc6
              refine AW.skip ?_
              refine Post.blk_n (Post.then_n ?_)
              refine AW.region ?_
              refine RW.q (v := .int .i64 (k : Int)) rfl (q_move rfl) ?_
              refine RW.q (v := .int .i64 ((k + 1 : Nat) : Int)) rfl (q_add rfl rfl (by omega) (by unfold I64; omega)) ?_
              refine RW.q (v := .int .i64 ((k + 1 : Nat) : Int)) rfl (q_assign rfl) ?_
              refine RW.nil ?_
              exact Post.back (s' := _) (J' := _) (m' := _) (by omega) ⟨k + 1, rfl, rfl, rfl, (by omega)⟩ ⟨rfl, rfl, rfl, rfl, rfl, rfl, rfl, trivial⟩ (fun _ h => StP.know (by assumption) h)
      · simp [-List.getD_eq_getElem?_getD] at hc3
        refine AW.exit ?_
        refine Post.then_x (Post.then_x (Post.blk_hit (Post.then_n ?_)))
        refine AW.seq ?_
        refine AW.seq ?_
        refine AW.region ?_
        refine RW.q (v := .int .i64 0) rfl (q_assign rfl) ?_
        refine RW.nil ?_
        refine Post.then_n ?_
        refine AW.block ?_
        refine AW.loop (fun s J m => ∃ (q : Nat), s = [(1, v2s), (2, v1s), (3, .pointer (some (⟨b1, 0, none⟩))), (7, .bool true), (9, gv1), (10, dl1), (16, .int .i64 (q : Int))] ∧ J = St ⟨w, Φ, []⟩ Φ2 [.blk b1 31 [.string b.Name, v1, .int .i64 b.Cells, v3, v4, v5, v6, v7, v8, v9, .int .i64 b.Err]] ∧ m = b.Places.length - q ∧ (q ≤ b.Places.length)) (s0 := _) (J1 := _) (m0 := _) ⟨0, rfl, rfl, rfl, (by omega)⟩ ⟨rfl, rfl, rfl, rfl, rfl, rfl, rfl, trivial⟩ (fun _ h => h) ?_
        rintro _ _ _ _ ⟨q, rfl, rfl, rfl, hq⟩
        refine AW.seq ?_
        refine AW.seq ?_
        refine AW.region ?_
        refine RW.q (v := .int .i64 (q : Int)) rfl (q_move rfl) ?_
        refine RW.q (v := .pointer (some (⟨b1, 3, none⟩))) rfl (q_fieldAddr rfl Try.underlying31 rfl sz23 rfl) ?_
        refine RW.q (v := v3) rfl (q_load rfl Try.underlying23 rfl (Cell.blk 0 rfl rfl)) ?_
        refine RW.q (v := .int .i64 ((b.Places.length : Nat) : Int)) rfl (q_len_sl rfl r3.sl Try.underlying23) ?_
        refine RW.q (v := .bool (decide ((q : Int) < ((b.Places.length : Nat) : Int)))) rfl (q_lss rfl rfl) ?_
        refine RW.nil ?_
        refine Post.then_n ?_
        refine AW.cond (b := decide ((q : Int) < ((b.Places.length : Nat) : Int))) rfl (fun hc7 => ?_) (fun hc7 => ?_)
        · simp [-List.getD_eq_getElem?_getD] at hc7
          refine AW.skip ?_
          refine Post.then_n ?_
          refine AW.seq ?_
          refine AW.block ?_
          refine AW.seq ?_
          refine AW.region ?_
          refine RW.q (v := .agg #[.string b.Name, v1, .int .i64 b.Cells, v3, v4, v5, v6, v7, v8, v9, .int .i64 b.Err]) rfl (q_loadAgg rfl Try.underlying31 rfl sz31 rfl (Cells.blk 0 rfl)) ?_
          refine RW.q (v := v1s) rfl (q_move rfl) ?_
          refine RW.q (v := .int .i64 (q : Int)) rfl (q_move rfl) ?_
          refine RW.q (v := .int .i64 (Al.thereM b.Places sup (q : Int))) rfl (q_call (args := #[.agg #[.string b.Name, v1, .int .i64 b.Cells, v3, v4, v5, v6, v7, v8, v9, .int .i64 b.Err], v1s, .int .i64 (q : Int)]) own20 rfl rfl (fun w1 hw1 => There_c w1 (Go.K.hp w1) (Hp.le_refl _) (hB.mono hw1.phi) (h1.mono hw1.phi))) ?_
          refine RW.q (v := .int .i64 (Al.thereM b.Places sup (q : Int))) rfl (q_assign rfl) ?_
          refine RW.nil ?_
          refine Post.then_n ?_
          refine AW.seq ?_
          refine AW.seq ?_
          refine AW.region ?_
          refine RW.q (v := .int .i64 0) rfl (q_assign rfl) ?_
          refine RW.nil ?_
          refine Post.then_n ?_
          refine AW.block ?_
          refine AW.loop (fun s J m => ∃ (n : Int), ∃ (k : Nat), s = [(1, v2s), (2, v1s), (3, .pointer (some (⟨b1, 0, none⟩))), (7, .bool true), (9, gv1), (10, dl1), (16, .int .i64 (q : Int)), (17, .int .i64 n), (18, .int .i64 (k : Int))] ∧ J = St ⟨w, Φ, []⟩ Φ2 [.blk b1 31 [.string b.Name, v1, .int .i64 b.Cells, v3, v4, v5, v6, v7, v8, v9, .int .i64 b.Err]] ∧ m = rs.length - k ∧ (k ≤ rs.length) ∧ (n = (Al.stN b.Places rs sup k).getD q 0)) (s0 := _) (J1 := _) (m0 := _) ⟨_, 0, rfl, rfl, rfl, (by omega), (Al.stN_zero hc7).symm⟩ ⟨rfl, rfl, rfl, rfl, rfl, rfl, rfl, rfl, rfl, trivial⟩ (fun _ h => h) ?_
          rintro _ _ _ _ ⟨n, k, rfl, rfl, rfl, hk, hn⟩
          refine AW.seq ?_
          refine AW.seq ?_
          refine AW.region ?_
          refine RW.q (v := .int .i64 (k : Int)) rfl (q_move rfl) ?_
          refine RW.q (v := v2s) rfl (q_move rfl) ?_
          refine RW.q (v := .int .i64 ((rs.length : Nat) : Int)) rfl (q_len_sl rfl h2.sl Try.underlying32) ?_
          refine RW.q (v := .bool (decide ((k : Int) < ((rs.length : Nat) : Int)))) rfl (q_lss rfl rfl) ?_
          refine RW.nil ?_
          refine Post.then_n ?_
          refine AW.cond (b := decide ((k : Int) < ((rs.length : Nat) : Int))) rfl (fun hc8 => ?_) (fun hc8 => ?_)
          · simp [-List.getD_eq_getElem?_getD] at hc8
            refine AW.skip ?_
            refine Post.then_n ?_
            refine AW.seq ?_
            refine AW.block ?_
            refine AW.seq ?_
            have hB_0 := hB
            have r3_0 := r3
            have h1_0 := h1
            have h2_0 := h2
            have hgr1_0 := hgr1
            have hle1_0 := hle1
            refine AW.draw (J0 := St ⟨w, Φ, []⟩ Φ2 [.blk b1 31 [.string b.Name, v1, .int .i64 b.Cells, v3, v4, v5, v6, v7, v8, v9, .int .i64 b.Err]]) [.q, .q, .q, .q, .q, .q, .q, .e, .e, .q] [0, 1, 2, 3, 4, 5, 7, 6, 8, 9] hmix (by kernel_rfl) ?_
            refine DW.q (v := .agg #[.string b.Name, v1, .int .i64 b.Cells, v3, v4, v5, v6, v7, v8, v9, .int .i64 b.Err]) (fun _ h => h) rfl (q_loadAgg rfl Try.underlying31 rfl sz31 rfl (Cells.blk 0 rfl)) ?_
            refine DW.q (v := v2s) (fun _ h => h) rfl (q_move rfl) ?_
            refine DW.q (v := .int .i64 (k : Int)) (fun _ h => h) rfl (q_move rfl) ?_
            refine DW.q (v := .pointer (some (Value.at v2s (k * 9)))) (fun _ h => h) rfl (q_indexAddr rfl rfl h2.sl Try.underlying32 sz45 (by omega) (by omega) rfl) ?_
            refine DW.q (v := .pointer (some (Value.at v2s (k * 9 + 3)))) (fun _ h => h) rfl (q_fieldAddr rfl Try.underlying45 rfl sz3 at_add) ?_
            refine DW.q (v := .int .i64 ((rs.getD k default).Place)) (fun _ h => h) rfl (q_load rfl Try.underlying3 rfl (Cell.repE (j := 3) h2 (by omega) rfl)) ?_
            refine DW.q (v := .int .i64 (q : Int)) (fun _ h => h) rfl (q_move rfl) ?_
            refine DW.eff (fun x : {y : Value × Hp // (fun r Ψ => RepSl Ψ (Al.reach b.Places ((rs.getD k default).Place)) r) y.1 y.2 ∧ Hp.le Φ2 y.2} => x.1.1) (fun x => St ⟨w, Φ, []⟩ x.1.2 [.blk b1 31 [.string b.Name, v1, .int .i64 b.Cells, v3, v4, v5, v6, v7, v8, v9, .int .i64 b.Err]]) (fun _ x => (fun _ h => StP.know x.2.2 h)) rfl (e_callS (T := fun r Ψ => RepSl Ψ (Al.reach b.Places ((rs.getD k default).Place)) r) (args := #[.agg #[.string b.Name, v1, .int .i64 b.Cells, v3, v4, v5, v6, v7, v8, v9, .int .i64 b.Err], .int .i64 ((rs.getD k default).Place)]) own14 rfl rfl (fun w1 hw1 => (Reach_c w1 (Go.K.hp w1) (Hp.le_refl _) (hB.mono hw1.phi)).mono fun _ _ => retS_up (fun _ _ _ hl h => h.mono hl))) ?_
            rintro ⟨⟨lv2, Φ4⟩, hlv2, hlΦ4⟩
            replace hlv2 : RepSl Φ4 (Al.reach b.Places ((rs.getD k default).Place)) lv2 := hlv2
            replace hlΦ4 : Hp.le Φ2 Φ4 := hlΦ4
            replace hB := hB.mono hlΦ4
            replace r3 := r3.mono hlΦ4
            replace h1 := h1.mono hlΦ4
            replace h2 := h2.mono hlΦ4
            replace hgr1 := hgr1.mono hlΦ4
            replace hle1 := hle1.mono hlΦ4
            refine DW.qe (v := .bool (decide ((q : Int) ∈ (Al.reach b.Places ((rs.getD k default).Place))))) (fun _ => (fun _ h => StP.know hlΦ4 h)) rfl (q_call (args := #[lv2, .int .i64 (q : Int)]) own21 rfl rfl (fun w1 hw1 => Has_c w1 (Go.K.hp w1) (Hp.le_refl _) (hlv2.mono hw1.phi))) ?_
            refine DW.q (v := .bool (decide ((q : Int) ∈ (Al.reach b.Places ((rs.getD k default).Place))))) (fun _ h => StP.know hlΦ4 h) rfl (q_assign rfl) ?_
            refine DW.nil ?_
            refine Post.then_n ?_
            refine AW.seq ?_
            refine AW.region ?_
            refine RW.q (v := .bool (decide ((q : Int) ∈ (Al.reach b.Places ((rs.getD k default).Place))))) rfl (q_move rfl) ?_
            refine RW.nil ?_
            refine Post.then_n ?_
            refine AW.cond (b := decide ((q : Int) ∈ (Al.reach b.Places ((rs.getD k default).Place)))) rfl (fun hc9 => ?_) (fun hc9 => ?_)
            · simp [-List.getD_eq_getElem?_getD] at hc9
              have hst := Al.sum_step (ps := b.Places) (rs := rs) (q := q) hsk hc8
              rw [if_pos hc9, ← hn] at hst
              have hli := (Al.stN_li (ps := b.Places) (rs := rs) hsk (k + 1)).2 q
              unfold Al.maxI at hli
              refine AW.region ?_
              refine RW.q (v := .int .i64 n) rfl (q_move rfl) ?_
              refine RW.q (v := gv1) rfl (q_move rfl) ?_
              refine RW.q (v := .int .i64 (k : Int)) rfl (q_move rfl) ?_
              refine RW.q (v := .pointer (some (Value.at gv1 (k * 2)))) rfl (q_indexAddr rfl rfl hgr1.sl Try.underlying33 sz47 (by omega) (by omega) rfl) ?_
              refine RW.q (v := .pointer (some (Value.at gv1 (k * 2 + 1)))) rfl (q_fieldAddr rfl Try.underlying47 rfl sz3 at_add) ?_
              refine RW.q (v := .int .i64 ((((Al.day b.Places rs sup).2).getD k default).Litres)) rfl (q_load rfl Try.underlying3 rfl (Cell.repE (j := 1) hgr1 (by omega) rfl)) ?_
              refine RW.q (v := .int .i64 (n - ((((Al.day b.Places rs sup).2).getD k default).Litres))) rfl (q_sub rfl rfl (by omega) (by unfold I64; omega)) ?_
              refine RW.q (v := .int .i64 (n - ((((Al.day b.Places rs sup).2).getD k default).Litres))) rfl (q_assign rfl) ?_
              refine RW.nil ?_
              refine Post.blk_n (Post.then_n ?_)
              refine AW.region ?_
              refine RW.q (v := .int .i64 (k : Int)) rfl (q_move rfl) ?_
              refine RW.q (v := .int .i64 ((k + 1 : Nat) : Int)) rfl (q_add rfl rfl (by omega) (by unfold I64; omega)) ?_
              refine RW.q (v := .int .i64 ((k + 1 : Nat) : Int)) rfl (q_assign rfl) ?_
              refine RW.nil ?_
              exact Post.back (s' := _) (J' := _) (m' := _) (by omega) ⟨_, k + 1, rfl, rfl, rfl, (by omega), hst.symm⟩ ⟨rfl, rfl, rfl, rfl, rfl, rfl, rfl, rfl, rfl, trivial⟩ (fun _ h => StP.know (by assumption) h)
            · simp [-List.getD_eq_getElem?_getD] at hc9
              refine AW.skip ?_
              refine Post.blk_n (Post.then_n ?_)
              refine AW.region ?_
              refine RW.q (v := .int .i64 (k : Int)) rfl (q_move rfl) ?_
              refine RW.q (v := .int .i64 ((k + 1 : Nat) : Int)) rfl (q_add rfl rfl (by omega) (by unfold I64; omega)) ?_
              refine RW.q (v := .int .i64 ((k + 1 : Nat) : Int)) rfl (q_assign rfl) ?_
              refine RW.nil ?_
              exact Post.back (s' := _) (J' := _) (m' := _) (by omega) ⟨n, k + 1, rfl, rfl, rfl, (by omega), (by rw [Al.sum_step hsk hc8, if_neg hc9, hn])⟩ ⟨rfl, rfl, rfl, rfl, rfl, rfl, rfl, rfl, rfl, trivial⟩ (fun _ h => StP.know (by assumption) h)
          · simp [-List.getD_eq_getElem?_getD] at hc8
            refine AW.exit ?_
            refine Post.then_x (Post.then_x (Post.blk_hit (Post.then_n ?_)))
            refine AW.seq ?_
            have hli := (Al.day_li (ps := b.Places) hsk rs).2 q
            have hne : n = (Al.day b.Places rs sup).1.getD q 0 := by rw [hn, show k = rs.length by omega, Al.stN_end]
            refine AW.region ?_
            refine RW.q (v := .int .i64 n) rfl (q_move rfl) ?_
            refine RW.q (v := dl1) rfl (q_move rfl) ?_
            refine RW.q (v := .int .i64 (q : Int)) rfl (q_move rfl) ?_
            refine RW.q (v := .pointer (some (Value.at dl1 (q * 1)))) rfl (q_indexAddr rfl rfl hle1.sl Try.underlying29 sz3 (by omega) (by omega) rfl) ?_
            refine RW.q (v := .int .i64 (((Al.day b.Places rs sup).1).getD q 0)) rfl (q_load rfl Try.underlying3 rfl (Cell.repInt hle1 (by omega))) ?_
            refine RW.q (v := .bool (!decide (n = ((Al.day b.Places rs sup).1).getD q 0))) rfl (q_neq rfl rfl) ?_
            refine RW.q (v := .bool (!decide (n = ((Al.day b.Places rs sup).1).getD q 0))) rfl (q_move rfl) ?_
            refine RW.g (b := (!decide (n = ((Al.day b.Places rs sup).1).getD q 0))) (v := dl1) rfl rfl rfl (fun h => q_move rfl) ?_
            refine RW.g (b := (!decide (n = ((Al.day b.Places rs sup).1).getD q 0))) (v := .int .i64 (q : Int)) rfl rfl rfl (fun h => q_move rfl) ?_
            refine RW.g (b := (!decide (n = ((Al.day b.Places rs sup).1).getD q 0))) (v := .pointer (some (Value.at dl1 (q * 1)))) rfl rfl rfl (fun h => q_indexAddr (gv_pos h) (gv_pos h) hle1.sl Try.underlying29 sz3 (by (try simp [-List.getD_eq_getElem?_getD] at h); omega) (by (try simp [-List.getD_eq_getElem?_getD] at h); omega) rfl) ?_
            refine RW.g (b := (!decide (n = ((Al.day b.Places rs sup).1).getD q 0))) (v := .int .i64 (((Al.day b.Places rs sup).1).getD q 0)) rfl rfl rfl (fun h => q_load (gv_pos h) Try.underlying3 rfl (Cell.repInt hle1 (by (try simp [-List.getD_eq_getElem?_getD] at h); omega))) ?_
            refine RW.g (b := (!decide (n = ((Al.day b.Places rs sup).1).getD q 0))) (v := .bool (decide (((Al.day b.Places rs sup).1).getD q 0 < 0))) rfl rfl rfl (fun h => q_lss (gv_pos h) rfl) ?_
            refine RW.q (v := .bool ((!decide (n = ((Al.day b.Places rs sup).1).getD q 0)) || (decide (((Al.day b.Places rs sup).1).getD q 0 < 0)))) rfl (q_pick rfl (fun hp => pkOrT hp) (fun hp => (gv_pos hp).trans (pkOrF hp))) ?_
            refine RW.nil ?_
            refine Post.then_n ?_
            refine AW.cond (b := (!decide (n = ((Al.day b.Places rs sup).1).getD q 0)) || (decide (((Al.day b.Places rs sup).1).getD q 0 < 0))) rfl (fun hc10 => ?_) (fun hc10 => ?_)
            · simp [-List.getD_eq_getElem?_getD] at hc10
              exfalso
              rcases hc10 with h | h
              · exact h hne
              · omega
            · simp [-List.getD_eq_getElem?_getD] at hc10
              refine AW.skip ?_
              refine Post.blk_n (Post.then_n ?_)
              refine AW.region ?_
              refine RW.q (v := .int .i64 (q : Int)) rfl (q_move rfl) ?_
              refine RW.q (v := .int .i64 ((q + 1 : Nat) : Int)) rfl (q_add rfl rfl (by omega) (by unfold I64; omega)) ?_
              refine RW.q (v := .int .i64 ((q + 1 : Nat) : Int)) rfl (q_assign rfl) ?_
              refine RW.nil ?_
              exact Post.back (s' := _) (J' := _) (m' := _) (by omega) ⟨q + 1, rfl, rfl, rfl, (by omega)⟩ ⟨rfl, rfl, rfl, rfl, rfl, rfl, rfl, trivial⟩ (fun _ h => h)
        · simp [-List.getD_eq_getElem?_getD] at hc7
          refine AW.exit ?_
          refine Post.then_x (Post.then_x (Post.blk_hit (Post.then_n ?_)))
          refine AW.seq ?_
          refine AW.region ?_
          refine RW.q (v := .bool true) rfl (q_move rfl) ?_
          refine RW.q (v := .bool true) rfl (q_assign rfl) ?_
          refine RW.nil ?_
          refine Post.then_n ?_
          refine AW.ret ?_
          exact fin_val (v' := .bool true) rfl rfl rfl (rfl)

end Go.Proofs.Ytpeojogjeopfaaa
