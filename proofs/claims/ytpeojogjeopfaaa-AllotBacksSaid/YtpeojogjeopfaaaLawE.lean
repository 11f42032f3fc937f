/- Walks (part LawE), printed by walk2.py. Conditions: those of each theorem. -/
import Derived.Test.YtpeojogjeopfaaaLawC
import Derived.Test.YtpeojogjeopfaaaBacks
namespace Go.Proofs.Ytpeojogjeopfaaa
open Go Go.K Go.RowKit

set_option maxRecDepth 8000 in
set_option maxHeartbeats 1000000 in
theorem AllotBacks_c (w : World) (Φ : Hp) (hΦ : Hp.le Φ (hp w)) {b : Bt.Basin} {cs : List Value} (hB : RepV Φ b cs) {rs : List Bt.Right} {v2s : Value} (h2 : RepSl Φ rs v2s) {sup : List Int} {v1s : Value} (h1 : RepSl Φ sup v1s) :
    Calls Try.prog 7 #[.agg cs.toArray, v2s, v1s] w fun e w' => e = .returned (.bool true) ∧ Below w.heap.size w w' := by
  obtain ⟨v1, v3, v4, v5, v6, v7, v8, v9, hcs, hBw, r1, r3, r4, r5, r6, r7, r8, r9⟩ := (show Rep.rep Φ b cs from hB)
  subst hcs
  have hpm : b.Places.length * 152 ≤ 140737488355328 := r3.max
  refine calls_of_AW (args := [.agg #[.string b.Name, v1, .int .i64 b.Cells, v3, v4, v5, v6, v7, v8, v9, .int .i64 b.Err], v2s, v1s]) Try.func7 rfl (Nat.le_of_ble_eq_true rfl) (St ⟨w, Φ, []⟩ Φ []) (StP.init w Φ hΦ []) ?_
  show AW Try.prog 119 [] _ _ _ [(0, .agg #[.string b.Name, v1, .int .i64 b.Cells, v3, v4, v5, v6, v7, v8, v9, .int .i64 b.Err]), (1, v2s), (2, v1s)] _
  have hsk : ∀ k, Al.Ok64 (sup.getD k 0) := fun k => by have := h1.i64D k; unfold I64 at this; unfold Al.Ok64 Al.minI Al.maxI; omega
  have hm1 : sup.length * 8 ≤ 140737488355328 := h1.max
  have hm2 : rs.length * 72 ≤ 140737488355328 := h2.max
  have hwr := h2.wfE
  refine AW.seq ?_
  refine AW.region ?_
  refine RW.eff (fun b1 : Nat => .pointer (some (⟨b1, 0, none⟩))) (fun b1 => St ⟨w, Φ, []⟩ Φ [.blk b1 31 [.string b.Name, v1, .int .i64 b.Cells, v3, v4, v5, v6, v7, v8, v9, .int .i64 b.Err]]) rfl (e_boxA (cs := [.string b.Name, v1, .int .i64 b.Cells, v3, v4, v5, v6, v7, v8, v9, .int .i64 b.Err]) rfl) ?_
  intro b1
  refine RW.q (v := .bool false) rfl (q_assign rfl) ?_
  refine RW.nil ?_
  refine Post.then_n ?_
  refine AW.seq ?_
  refine AW.region ?_
  refine RW.q (v := .bool true) rfl (q_call (args := #[]) own9 rfl rfl (fun w1 hw1 => small_c w1 (Go.K.hp w1) (Hp.le_refl _))) ?_
  refine RW.q (v := .bool true) rfl (q_assign rfl) ?_
  refine RW.nil ?_
  refine Post.then_n ?_
  refine AW.seq ?_
  refine AW.region ?_
  refine RW.q (v := .agg #[.string b.Name, v1, .int .i64 b.Cells, v3, v4, v5, v6, v7, v8, v9, .int .i64 b.Err]) rfl (q_loadAgg rfl Try.underlying31 rfl sz31 rfl (Cells.blk 0 rfl)) ?_
  refine RW.q (v := v2s) rfl (q_move rfl) ?_
  refine RW.q (v := .bool (decide ((b.Places.length : Int) ≤ 64) && decide ((rs.length : Int) ≤ 40) && decide ((([] : List Bt.Grant).length : Int) ≤ 80))) rfl (q_call (args := #[.agg #[.string b.Name, v1, .int .i64 b.Cells, v3, v4, v5, v6, v7, v8, v9, .int .i64 b.Err], v2s, (.slice none 0 0)]) own10 rfl rfl (fun w1 hw1 => few_c w1 (Go.K.hp w1) (Hp.le_refl _) (hB.mono hw1.phi) (h2.mono hw1.phi) repSl_nil)) ?_
  refine RW.q (v := .bool (decide ((b.Places.length : Int) ≤ 64) && decide ((rs.length : Int) ≤ 40) && decide ((([] : List Bt.Grant).length : Int) ≤ 80))) rfl (q_assign rfl) ?_
  refine RW.nil ?_
  refine Post.then_n ?_
  refine AW.seq ?_
  refine AW.seq ?_
  refine AW.region ?_
  refine RW.q (v := .bool (decide ((b.Places.length : Int) ≤ 64) && decide ((rs.length : Int) ≤ 40) && decide ((([] : List Bt.Grant).length : Int) ≤ 80))) rfl (q_move rfl) ?_
  refine RW.q (v := .bool (!(decide ((b.Places.length : Int) ≤ 64) && decide ((rs.length : Int) ≤ 40) && decide ((([] : List Bt.Grant).length : Int) ≤ 80)))) rfl (q_not rfl) ?_
  refine RW.nil ?_
  refine Post.then_n ?_
  refine AW.cond (b := !(decide ((b.Places.length : Int) ≤ 64) && decide ((rs.length : Int) ≤ 40) && decide ((([] : List Bt.Grant).length : Int) ≤ 80))) rfl (fun hc1 => ?_) (fun hc1 => ?_)
  · simp [-List.getD_eq_getElem?_getD] at hc1
    refine AW.seq ?_
    refine AW.region ?_
    refine RW.q (v := .bool true) rfl (q_move rfl) ?_
    refine RW.q (v := .bool true) rfl (q_assign rfl) ?_
    refine RW.nil ?_
    refine Post.then_n ?_
    refine AW.ret ?_
    refine Post.then_r ?_
    exact fin_val (v' := .bool true) rfl rfl rfl (rfl)
  · simp [-List.getD_eq_getElem?_getD] at hc1
    refine AW.skip ?_
    refine Post.then_n ?_
    refine AW.seq ?_
    refine AW.seq ?_
    refine AW.region ?_
    refine RW.q (v := .int .i64 0) rfl (q_assign rfl) ?_
    refine RW.nil ?_
    refine Post.then_n ?_
    refine AW.block ?_
    refine AW.loop (fun s J m => ∃ (k : Nat), s = [(1, v2s), (2, v1s), (3, .pointer (some (⟨b1, 0, none⟩))), (7, .bool true), (9, .int .i64 (k : Int))] ∧ J = St ⟨w, Φ, []⟩ Φ [.blk b1 31 [.string b.Name, v1, .int .i64 b.Cells, v3, v4, v5, v6, v7, v8, v9, .int .i64 b.Err]] ∧ m = rs.length - k ∧ (k ≤ rs.length) ∧ (∀ i j, j < i → i < k → (rs.getD i default).Id ≠ (rs.getD j default).Id)) (s0 := _) (J1 := _) (m0 := _) ⟨0, rfl, rfl, rfl, (by omega), (fun i j _ h => absurd h (Nat.not_lt_zero _))⟩ ⟨rfl, rfl, rfl, rfl, rfl, trivial⟩ (fun _ h => h) ?_
    rintro _ _ _ _ ⟨k, rfl, rfl, rfl, hk, hd⟩
    refine AW.seq ?_
    refine AW.seq ?_
    refine AW.region ?_
    refine RW.q (v := .int .i64 (k : Int)) rfl (q_move rfl) ?_
    refine RW.q (v := v2s) rfl (q_move rfl) ?_
    refine RW.q (v := .int .i64 ((rs.length : Nat) : Int)) rfl (q_len_sl rfl h2.sl Try.underlying32) ?_
    refine RW.q (v := .bool (decide ((k : Int) < ((rs.length : Nat) : Int)))) rfl (q_lss rfl rfl) ?_
    refine RW.nil ?_
    refine Post.then_n ?_
    refine AW.cond (b := decide ((k : Int) < ((rs.length : Nat) : Int))) rfl (fun hc2 => ?_) (fun hc2 => ?_)
    · simp [-List.getD_eq_getElem?_getD] at hc2
      refine AW.skip ?_
      refine Post.then_n ?_
      refine AW.seq ?_
      refine AW.block ?_
      refine AW.seq ?_
      refine AW.region ?_
      refine RW.q (v := .int .i64 0) rfl (q_assign rfl) ?_
      refine RW.nil ?_
      refine Post.then_n ?_
      refine AW.block ?_
      refine AW.loop (fun s J m => ∃ (p : Nat), s = [(1, v2s), (2, v1s), (3, .pointer (some (⟨b1, 0, none⟩))), (7, .bool true), (9, .int .i64 (k : Int)), (10, .int .i64 (p : Int))] ∧ J = St ⟨w, Φ, []⟩ Φ [.blk b1 31 [.string b.Name, v1, .int .i64 b.Cells, v3, v4, v5, v6, v7, v8, v9, .int .i64 b.Err]] ∧ m = k - p ∧ (p ≤ k) ∧ (∀ i, i < p → (rs.getD k default).Id ≠ (rs.getD i default).Id)) (s0 := _) (J1 := _) (m0 := _) ⟨0, rfl, rfl, rfl, (by omega), (fun i h => absurd h (Nat.not_lt_zero _))⟩ ⟨rfl, rfl, rfl, rfl, rfl, rfl, trivial⟩ (fun _ h => h) ?_
      rintro _ _ _ _ ⟨p, rfl, rfl, rfl, hp, hd2⟩
      refine AW.seq ?_
      refine AW.seq ?_
      refine AW.region ?_
      refine RW.q (v := .int .i64 (p : Int)) rfl (q_move rfl) ?_
      refine RW.q (v := .int .i64 (k : Int)) rfl (q_move rfl) ?_
      refine RW.q (v := .bool (decide ((p : Int) < (k : Int)))) rfl (q_lss rfl rfl) ?_
      refine RW.nil ?_
      refine Post.then_n ?_
      refine AW.cond (b := decide ((p : Int) < (k : Int))) rfl (fun hc3 => ?_) (fun hc3 => ?_)
      · simp [-List.getD_eq_getElem?_getD] at hc3
        refine AW.skip ?_
        refine Post.then_n ?_
        refine AW.seq ?_
        refine AW.block ?_
        refine AW.seq ?_
        refine AW.draw (J0 := St ⟨w, Φ, []⟩ Φ [.blk b1 31 [.string b.Name, v1, .int .i64 b.Cells, v3, v4, v5, v6, v7, v8, v9, .int .i64 b.Err]]) [.q, .q, .q, .q, .q, .q, .q, .q, .q, .q, .q] [0, 1, 2, 3, 4, 5, 6, 7, 8, 9, 10] hmix (by kernel_rfl) ?_
        refine DW.q (v := v2s) (fun _ h => h) rfl (q_move rfl) ?_
        refine DW.q (v := .int .i64 (k : Int)) (fun _ h => h) rfl (q_move rfl) ?_
        refine DW.q (v := .pointer (some (Value.at v2s (k * 9)))) (fun _ h => h) rfl (q_indexAddr rfl rfl h2.sl Try.underlying32 sz45 (by omega) (by omega) rfl) ?_
        refine DW.q (v := .pointer (some (Value.at v2s (k * 9 + 0)))) (fun _ h => h) rfl (q_fieldAddr rfl Try.underlying45 rfl sz3 at_add) ?_
        refine DW.q (v := .int .i64 ((rs.getD k default).Id)) (fun _ h => h) rfl (q_load rfl Try.underlying3 rfl (Cell.repE (j := 0) h2 (by omega) rfl)) ?_
        refine DW.q (v := v2s) (fun _ h => h) rfl (q_move rfl) ?_
        refine DW.q (v := .int .i64 (p : Int)) (fun _ h => h) rfl (q_move rfl) ?_
        refine DW.q (v := .pointer (some (Value.at v2s (p * 9)))) (fun _ h => h) rfl (q_indexAddr rfl rfl h2.sl Try.underlying32 sz45 (by omega) (by omega) rfl) ?_
        refine DW.q (v := .pointer (some (Value.at v2s (p * 9 + 0)))) (fun _ h => h) rfl (q_fieldAddr rfl Try.underlying45 rfl sz3 at_add) ?_
        refine DW.q (v := .int .i64 ((rs.getD p default).Id)) (fun _ h => h) rfl (q_load rfl Try.underlying3 rfl (Cell.repE (j := 0) h2 (by omega) rfl)) ?_
        refine DW.q (v := .bool (decide ((rs.getD k default).Id = (rs.getD p default).Id))) (fun _ h => h) rfl (q_eql rfl rfl) ?_
        refine DW.nil ?_
        refine Post.then_n ?_
        refine AW.cond (b := decide ((rs.getD k default).Id = (rs.getD p default).Id)) rfl (fun hc4 => ?_) (fun hc4 => ?_)
        · simp [-List.getD_eq_getElem?_getD] at hc4
          refine AW.seq ?_
          refine AW.region ?_
          refine RW.q (v := .bool true) rfl (q_move rfl) ?_
          refine RW.q (v := .bool true) rfl (q_assign rfl) ?_
          refine RW.nil ?_
          refine Post.then_n ?_
          refine AW.ret ?_
          refine Post.blk_r (Post.then_r (Post.then_r (Post.blk_r (Post.blk_r (Post.then_r (Post.then_r (Post.blk_r (Post.then_r ?_))))))))
          exact fin_val (v' := .bool true) rfl rfl rfl (rfl)
        · simp [-List.getD_eq_getElem?_getD] at hc4
          refine AW.skip ?_
          refine Post.blk_n (Post.then_n ?_)
          refine AW.region ?_
          refine RW.q (v := .int .i64 (p : Int)) rfl (q_move rfl) ?_
          refine RW.q (v := .int .i64 ((p + 1 : Nat) : Int)) rfl (q_add rfl rfl (by omega) (by unfold I64; omega)) ?_
          refine RW.q (v := .int .i64 ((p + 1 : Nat) : Int)) rfl (q_assign rfl) ?_
          refine RW.nil ?_
          exact Post.back (s' := _) (J' := _) (m' := _) (by omega) ⟨p + 1, rfl, rfl, rfl, (by omega), (Al.lt_succ hd2 hc4)⟩ ⟨rfl, rfl, rfl, rfl, rfl, rfl, trivial⟩ (fun _ h => h)
      · simp [-List.getD_eq_getElem?_getD] at hc3
        refine AW.exit ?_
        refine Post.then_x (Post.then_x (Post.blk_hit (Post.blk_n (Post.then_n ?_))))
        refine AW.region ?_
        refine RW.q (v := .int .i64 (k : Int)) rfl (q_move rfl) ?_
        refine RW.q (v := .int .i64 ((k + 1 : Nat) : Int)) rfl (q_add rfl rfl (by omega) (by unfold I64; omega)) ?_
        refine RW.q (v := .int .i64 ((k + 1 : Nat) : Int)) rfl (q_assign rfl) ?_
        refine RW.nil ?_
        exact Post.back (s' := _) (J' := _) (m' := _) (by omega) ⟨k + 1, rfl, rfl, rfl, (by omega), (fun i j h1 h2 => if e : i < k then hd i j h1 e else (by have e2 : i = k := (by omega); rw [e2]; exact hd2 j (by omega)))⟩ ⟨rfl, rfl, rfl, rfl, rfl, trivial⟩ (fun _ h => h)
    · simp [-List.getD_eq_getElem?_getD] at hc2
      refine AW.exit ?_
      refine Post.then_x (Post.then_x (Post.blk_hit (Post.then_n ?_)))
      refine AW.seq ?_
      obtain rfl : k = rs.length := by omega
      have hra : ∀ k, (rs.getD k default).Rate ≤ Al.maxI := Al.rate_le (fun x hx => by have h9 := (hwr x hx).2.2.2.2.1; unfold I64 at h9; omega)
      have hli := Al.day_litres (ps := b.Places) hsk hra
      have hg1 : (Al.day b.Places rs sup).2.length = rs.length := Al.day_len2 hsk rs
      have hbl : (Al.back b.Places rs (Al.day b.Places rs sup).2).length = b.Places.length := (Al.back_oi (ps := b.Places) (rs := rs) (Al.day b.Places rs sup).2 _ (Al.zero_oi _)).1
      refine AW.region ?_
      refine RW.q (v := .agg #[.string b.Name, v1, .int .i64 b.Cells, v3, v4, v5, v6, v7, v8, v9, .int .i64 b.Err]) rfl (q_loadAgg rfl Try.underlying31 rfl sz31 rfl (Cells.blk 0 rfl)) ?_
      refine RW.q (v := v2s) rfl (q_move rfl) ?_
      refine RW.q (v := v1s) rfl (q_move rfl) ?_
      refine RW.eff (fun x : {y : Value × Value × Hp // RepSl y.2.2 (Al.day b.Places rs sup).2 y.1 ∧ IsSl y.2.1 b.Places.length ∧ Hp.le Φ y.2.2} => .tuple #[x.1.1, x.1.2.1]) (fun x => St ⟨w, Φ, []⟩ x.1.2.2 [.row x.1.2.1 3 1 b.Places.length (((Al.day b.Places rs sup).1).map (Value.int .i64)), .blk b1 31 [.string b.Name, v1, .int .i64 b.Cells, v3, v4, v5, v6, v7, v8, v9, .int .i64 b.Err]]) rfl (e_call (args := #[.agg #[.string b.Name, v1, .int .i64 b.Cells, v3, v4, v5, v6, v7, v8, v9, .int .i64 b.Err], v2s, v1s]) own11 rfl rfl (fun w1 hw1 => Day_c rfl hB h2 h1 w1 hw1)) ?_
      rintro ⟨⟨gv1, dl1, Φ1⟩, hgr1, hdl1, hlΦ1⟩
      replace hgr1 : RepSl Φ1 (Al.day b.Places rs sup).2 gv1 := hgr1
      replace hlΦ1 : Hp.le Φ Φ1 := hlΦ1
      replace hB := hB.mono hlΦ1
      replace r3 := r3.mono hlΦ1
      replace h1 := h1.mono hlΦ1
      replace h2 := h2.mono hlΦ1
      refine RW.frz (fun Φ2 hlΦ2 hshle1 => ?_)
      replace hB := hB.mono hlΦ2
      replace r3 := r3.mono hlΦ2
      replace h1 := h1.mono hlΦ2
      replace h2 := h2.mono hlΦ2
      replace hgr1 := hgr1.mono hlΦ2
      replace hle1 : RepSl Φ2 ((Al.day b.Places rs sup).1) dl1 := RowS.ints (T := 3) (n := b.Places.length) (hshle1) (by simp only [maxSl]; omega) (fun x hx => by have h9 := (Al.day_li (ps := b.Places) hsk _).mem x hx; unfold I64; omega)
      refine RW.q (v := .tuple #[gv1, dl1]) rfl (q_move rfl) ?_
      refine RW.q (v := gv1) rfl (q_extract rfl rfl) ?_
      refine RW.q (v := dl1) rfl (q_extract rfl rfl) ?_
      refine RW.q (v := gv1) rfl (q_assign rfl) ?_
      refine RW.q (v := dl1) rfl (q_assign rfl) ?_
      refine RW.nil ?_
      refine Post.then_n ?_
      refine AW.seq ?_
      refine AW.region ?_
      refine RW.q (v := .agg #[.string b.Name, v1, .int .i64 b.Cells, v3, v4, v5, v6, v7, v8, v9, .int .i64 b.Err]) rfl (q_loadAgg rfl Try.underlying31 rfl sz31 rfl (Cells.blk 0 rfl)) ?_
      refine RW.q (v := v2s) rfl (q_move rfl) ?_
      refine RW.q (v := gv1) rfl (q_move rfl) ?_
      refine RW.eff (fun x : {y : Value × Hp // (fun r Ψ => RepSl Ψ (Al.back b.Places rs ((Al.day b.Places rs sup).2)) r) y.1 y.2 ∧ Hp.le Φ2 y.2} => x.1.1) (fun x => St ⟨w, Φ, []⟩ x.1.2 [.blk b1 31 [.string b.Name, v1, .int .i64 b.Cells, v3, v4, v5, v6, v7, v8, v9, .int .i64 b.Err]]) rfl (e_callS (T := fun r Ψ => RepSl Ψ (Al.back b.Places rs ((Al.day b.Places rs sup).2)) r) (args := #[.agg #[.string b.Name, v1, .int .i64 b.Cells, v3, v4, v5, v6, v7, v8, v9, .int .i64 b.Err], v2s, gv1]) own16 rfl rfl (fun w1 hw1 => (Back_c w1 (Go.K.hp w1) (Hp.le_refl _) (hB.mono hw1.phi) (h2.mono hw1.phi) (hgr1.mono hw1.phi)).mono fun _ _ => retS_up (fun _ _ _ hl h => h.mono hl))) ?_
      rintro ⟨⟨lv1, Φ3⟩, hlv1, hlΦ3⟩
      replace hlv1 : RepSl Φ3 (Al.back b.Places rs ((Al.day b.Places rs sup).2)) lv1 := hlv1
      replace hlΦ3 : Hp.le Φ2 Φ3 := hlΦ3
      replace hB := hB.mono hlΦ3
      replace r3 := r3.mono hlΦ3
      replace h1 := h1.mono hlΦ3
      replace h2 := h2.mono hlΦ3
      replace hgr1 := hgr1.mono hlΦ3
      replace hle1 := hle1.mono hlΦ3
      refine RW.q (v := lv1) rfl (q_assign rfl) ?_
      refine RW.nil ?_
      refine Post.then_n ?_
      refine AW.seq ?_
      refine AW.seq ?_
      refine AW.region ?_
      refine RW.q (v := lv1) rfl (q_move rfl) ?_
      refine RW.q (v := .int .i64 (((Al.back b.Places rs ((Al.day b.Places rs sup).2)).length : Nat) : Int)) rfl (q_len_sl rfl hlv1.sl Try.underlying29) ?_
      refine RW.q (v := .pointer (some (⟨b1, 3, none⟩))) rfl (q_fieldAddr rfl Try.underlying31 rfl sz23 rfl) ?_
      refine RW.q (v := v3) rfl (q_load rfl Try.underlying23 rfl (Cell.blk 0 rfl rfl)) ?_
      refine RW.q (v := .int .i64 ((b.Places.length : Nat) : Int)) rfl (q_len_sl rfl r3.sl Try.underlying23) ?_
      refine RW.q (v := .bool (!decide ((((Al.back b.Places rs ((Al.day b.Places rs sup).2)).length : Nat) : Int) = ((b.Places.length : Nat) : Int)))) rfl (q_neq rfl rfl) ?_
      refine RW.q (v := .bool (!decide ((((Al.back b.Places rs ((Al.day b.Places rs sup).2)).length : Nat) : Int) = ((b.Places.length : Nat) : Int)))) rfl (q_move rfl) ?_
      refine RW.g (b := (!decide ((((Al.back b.Places rs ((Al.day b.Places rs sup).2)).length : Nat) : Int) = ((b.Places.length : Nat) : Int)))) (v := gv1) rfl rfl rfl (fun h => q_move rfl) ?_
      refine RW.g (b := (!decide ((((Al.back b.Places rs ((Al.day b.Places rs sup).2)).length : Nat) : Int) = ((b.Places.length : Nat) : Int)))) (v := .int .i64 ((((Al.day b.Places rs sup).2).length : Nat) : Int)) rfl rfl rfl (fun h => q_len_sl (gv_pos h) hgr1.sl Try.underlying33) ?_
      refine RW.g (b := (!decide ((((Al.back b.Places rs ((Al.day b.Places rs sup).2)).length : Nat) : Int) = ((b.Places.length : Nat) : Int)))) (v := v2s) rfl rfl rfl (fun h => q_move rfl) ?_
      refine RW.g (b := (!decide ((((Al.back b.Places rs ((Al.day b.Places rs sup).2)).length : Nat) : Int) = ((b.Places.length : Nat) : Int)))) (v := .int .i64 ((rs.length : Nat) : Int)) rfl rfl rfl (fun h => q_len_sl (gv_pos h) h2.sl Try.underlying32) ?_
      refine RW.g (b := (!decide ((((Al.back b.Places rs ((Al.day b.Places rs sup).2)).length : Nat) : Int) = ((b.Places.length : Nat) : Int)))) (v := .bool (!decide (((((Al.day b.Places rs sup).2).length : Nat) : Int) = ((rs.length : Nat) : Int)))) rfl rfl rfl (fun h => q_neq (gv_pos h) (gv_pos h)) ?_
      refine RW.q (v := .bool ((!decide ((((Al.back b.Places rs ((Al.day b.Places rs sup).2)).length : Nat) : Int) = ((b.Places.length : Nat) : Int))) || (!decide (((((Al.day b.Places rs sup).2).length : Nat) : Int) = ((rs.length : Nat) : Int))))) rfl (q_pick rfl (fun hp => pkOrT hp) (fun hp => (gv_pos hp).trans (pkOrF hp))) ?_
      refine RW.nil ?_
      refine Post.then_n ?_
      refine AW.cond (b := (!decide ((((Al.back b.Places rs ((Al.day b.Places rs sup).2)).length : Nat) : Int) = ((b.Places.length : Nat) : Int))) || (!decide (((((Al.day b.Places rs sup).2).length : Nat) : Int) = ((rs.length : Nat) : Int)))) rfl (fun hc5 => ?_) (fun hc5 => ?_)
      · simp [-List.getD_eq_getElem?_getD] at hc5
        omega
      · simp [-List.getD_eq_getElem?_getD] at hc5
        refine AW.skip ?_
        refine Post.then_n ?_
        refine AW.seq ?_
        refine AW.seq ?_
        refine AW.region ?_
        refine RW.q (v := .int .i64 0) rfl (q_assign rfl) ?_
        refine RW.nil ?_
        refine Post.then_n ?_
        refine AW.block ?_
        refine AW.loop (fun s J m => ∃ (q : Nat), s = [(1, v2s), (3, .pointer (some (⟨b1, 0, none⟩))), (7, .bool true), (11, gv1), (13, lv1), (14, .int .i64 (q : Int))] ∧ J = St ⟨w, Φ, []⟩ Φ3 [.blk b1 31 [.string b.Name, v1, .int .i64 b.Cells, v3, v4, v5, v6, v7, v8, v9, .int .i64 b.Err]] ∧ m = b.Places.length - q ∧ (q ≤ b.Places.length)) (s0 := _) (J1 := _) (m0 := _) ⟨0, rfl, rfl, rfl, (by omega)⟩ ⟨rfl, rfl, rfl, rfl, rfl, rfl, trivial⟩ (fun _ h => h) ?_
        rintro _ _ _ _ ⟨q, rfl, rfl, rfl, hq⟩
        refine AW.seq ?_
        refine AW.seq ?_
        refine AW.region ?_
        refine RW.q (v := .int .i64 (q : Int)) rfl (q_move rfl) ?_
        refine RW.q (v := lv1) rfl (q_move rfl) ?_
        refine RW.q (v := .int .i64 (((Al.back b.Places rs ((Al.day b.Places rs sup).2)).length : Nat) : Int)) rfl (q_len_sl rfl hlv1.sl Try.underlying29) ?_
        refine RW.q (v := .bool (decide ((q : Int) < (((Al.back b.Places rs ((Al.day b.Places rs sup).2)).length : Nat) : Int)))) rfl (q_lss rfl rfl) ?_
        refine RW.nil ?_
        refine Post.then_n ?_
        refine AW.cond (b := decide ((q : Int) < (((Al.back b.Places rs ((Al.day b.Places rs sup).2)).length : Nat) : Int))) rfl (fun hc6 => ?_) (fun hc6 => ?_)
        · simp [-List.getD_eq_getElem?_getD] at hc6
          refine AW.skip ?_
          refine Post.then_n ?_
          refine AW.seq ?_
          refine AW.block ?_
          refine AW.seq ?_
          refine AW.region ?_
          refine RW.q (v := .int .i64 0) rfl (q_assign rfl) ?_
          refine RW.nil ?_
          refine Post.then_n ?_
          refine AW.seq ?_
          refine AW.seq ?_
          refine AW.region ?_
          refine RW.q (v := .int .i64 0) rfl (q_assign rfl) ?_
          refine RW.nil ?_
          refine Post.then_n ?_
          refine AW.block ?_
          refine AW.loop (fun s J m => ∃ (mo : Int), ∃ (i : Nat), s = [(1, v2s), (3, .pointer (some (⟨b1, 0, none⟩))), (7, .bool true), (11, gv1), (13, lv1), (14, .int .i64 (q : Int)), (15, .int .i64 mo), (16, .int .i64 (i : Int))] ∧ J = St ⟨w, Φ, []⟩ Φ3 [.blk b1 31 [.string b.Name, v1, .int .i64 b.Cells, v3, v4, v5, v6, v7, v8, v9, .int .i64 b.Err]] ∧ m = rs.length - i ∧ (i ≤ rs.length) ∧ (mo = Al.mostN rs (Al.day b.Places rs sup).2 (q : Int) i)) (s0 := _) (J1 := _) (m0 := _) ⟨0, 0, rfl, rfl, rfl, (by omega), rfl⟩ ⟨rfl, rfl, rfl, rfl, rfl, rfl, rfl, rfl, trivial⟩ (fun _ h => h) ?_
          rintro _ _ _ _ ⟨mo, i, rfl, rfl, rfl, hi, hmo⟩
          refine AW.seq ?_
          refine AW.seq ?_
          refine AW.region ?_
          refine RW.q (v := .int .i64 (i : Int)) rfl (q_move rfl) ?_
          refine RW.q (v := v2s) rfl (q_move rfl) ?_
          refine RW.q (v := .int .i64 ((rs.length : Nat) : Int)) rfl (q_len_sl rfl h2.sl Try.underlying32) ?_
          refine RW.q (v := .bool (decide ((i : Int) < ((rs.length : Nat) : Int)))) rfl (q_lss rfl rfl) ?_
          refine RW.nil ?_
          refine Post.then_n ?_
          refine AW.cond (b := decide ((i : Int) < ((rs.length : Nat) : Int))) rfl (fun hc7 => ?_) (fun hc7 => ?_)
          · simp [-List.getD_eq_getElem?_getD] at hc7
            refine AW.skip ?_
            refine Post.then_n ?_
            refine AW.seq ?_
            refine AW.block ?_
            refine AW.seq ?_
            refine AW.region ?_
            refine RW.q (v := v2s) rfl (q_move rfl) ?_
            refine RW.q (v := .int .i64 (i : Int)) rfl (q_move rfl) ?_
            refine RW.q (v := .pointer (some (Value.at v2s (i * 9)))) rfl (q_indexAddr rfl rfl h2.sl Try.underlying32 sz45 (by omega) (by omega) rfl) ?_
            refine RW.q (v := .pointer (some (Value.at v2s (i * 9 + 8)))) rfl (q_fieldAddr rfl Try.underlying45 rfl sz3 at_add) ?_
            refine RW.q (v := .int .i64 ((rs.getD i default).BackTo)) rfl (q_load rfl Try.underlying3 rfl (Cell.repE (j := 8) h2 (by omega) rfl)) ?_
            refine RW.q (v := .int .i64 (q : Int)) rfl (q_move rfl) ?_
            refine RW.q (v := .bool (decide ((rs.getD i default).BackTo = (q : Int)))) rfl (q_eql rfl rfl) ?_
            refine RW.q (v := .bool (decide ((rs.getD i default).BackTo = (q : Int)))) rfl (q_move rfl) ?_
            refine RW.g (b := (decide ((rs.getD i default).BackTo = (q : Int)))) (v := v2s) rfl rfl rfl (fun h => q_move rfl) ?_
            refine RW.g (b := (decide ((rs.getD i default).BackTo = (q : Int)))) (v := .int .i64 (i : Int)) rfl rfl rfl (fun h => q_move rfl) ?_
            refine RW.g (b := (decide ((rs.getD i default).BackTo = (q : Int)))) (v := .pointer (some (Value.at v2s (i * 9)))) rfl rfl rfl (fun h => q_indexAddr (gv_pos h) (gv_pos h) h2.sl Try.underlying32 sz45 (by (try simp [-List.getD_eq_getElem?_getD] at h); omega) (by (try simp [-List.getD_eq_getElem?_getD] at h); omega) rfl) ?_
            refine RW.g (b := (decide ((rs.getD i default).BackTo = (q : Int)))) (v := .pointer (some (Value.at v2s (i * 9 + 7)))) rfl rfl rfl (fun h => q_fieldAddr (gv_pos h) Try.underlying45 rfl sz3 at_add) ?_
            refine RW.g (b := (decide ((rs.getD i default).BackTo = (q : Int)))) (v := .int .i64 ((rs.getD i default).Back)) rfl rfl rfl (fun h => q_load (gv_pos h) Try.underlying3 rfl (Cell.repE (j := 7) h2 (by (try simp [-List.getD_eq_getElem?_getD] at h); omega) rfl)) ?_
            refine RW.g (b := (decide ((rs.getD i default).BackTo = (q : Int)))) (v := .bool (decide ((0 : Int) < (rs.getD i default).Back))) rfl rfl rfl (fun h => q_gtr (gv_pos h) rfl) ?_
            refine RW.q (v := .bool ((decide ((rs.getD i default).BackTo = (q : Int))) && (decide ((0 : Int) < (rs.getD i default).Back)))) rfl (q_pick rfl (fun hp => (gv_pos hp).trans (pkAndT hp)) (fun hp => pkAndF hp)) ?_
            refine RW.nil ?_
            refine Post.then_n ?_
            refine AW.cond (b := (decide ((rs.getD i default).BackTo = (q : Int))) && (decide ((0 : Int) < (rs.getD i default).Back))) rfl (fun hc8 => ?_) (fun hc8 => ?_)
            · simp [-List.getD_eq_getElem?_getD] at hc8
              have hmr := Al.mostN_rng (rs := rs) hli (q : Int) i
              have hgi := hli i
              unfold Al.maxI at hmr hgi
              refine AW.region ?_
              refine RW.q (v := .int .i64 mo) rfl (q_move rfl) ?_
              refine RW.q (v := gv1) rfl (q_move rfl) ?_
              refine RW.q (v := .int .i64 (i : Int)) rfl (q_move rfl) ?_
              refine RW.q (v := .pointer (some (Value.at gv1 (i * 2)))) rfl (q_indexAddr rfl rfl hgr1.sl Try.underlying33 sz47 (by omega) (by omega) rfl) ?_
              refine RW.q (v := .pointer (some (Value.at gv1 (i * 2 + 1)))) rfl (q_fieldAddr rfl Try.underlying47 rfl sz3 at_add) ?_
              refine RW.q (v := .int .i64 ((((Al.day b.Places rs sup).2).getD i default).Litres)) rfl (q_load rfl Try.underlying3 rfl (Cell.repE (j := 1) hgr1 (by omega) rfl)) ?_
              refine RW.q (v := .int .i64 (Al.addS mo ((((Al.day b.Places rs sup).2).getD i default).Litres))) rfl (q_call (args := #[.int .i64 mo, .int .i64 ((((Al.day b.Places rs sup).2).getD i default).Litres)]) own22 rfl rfl (fun w1 hw1 => Add_c w1 (Go.K.hp w1) (Hp.le_refl _) (by rw [hmo]; unfold Al.Ok64 Al.minI Al.maxI; omega) (by unfold Al.Ok64 Al.minI Al.maxI; omega))) ?_
              refine RW.q (v := .int .i64 (Al.addS mo ((((Al.day b.Places rs sup).2).getD i default).Litres))) rfl (q_assign rfl) ?_
              refine RW.nil ?_
              refine Post.blk_n (Post.then_n ?_)
              refine AW.region ?_
              refine RW.q (v := .int .i64 (i : Int)) rfl (q_move rfl) ?_
              refine RW.q (v := .int .i64 ((i + 1 : Nat) : Int)) rfl (q_add rfl rfl (by omega) (by unfold I64; omega)) ?_
              refine RW.q (v := .int .i64 ((i + 1 : Nat) : Int)) rfl (q_assign rfl) ?_
              refine RW.nil ?_
              exact Post.back (s' := _) (J' := _) (m' := _) (by omega) ⟨_, i + 1, rfl, rfl, rfl, (by omega), (by rw [Al.mostN, if_pos ⟨hc8.1, hc8.2⟩, hmo])⟩ ⟨rfl, rfl, rfl, rfl, rfl, rfl, rfl, rfl, trivial⟩ (fun _ h => h)
            · simp [-List.getD_eq_getElem?_getD] at hc8
              refine AW.skip ?_
              refine Post.blk_n (Post.then_n ?_)
              refine AW.region ?_
              refine RW.q (v := .int .i64 (i : Int)) rfl (q_move rfl) ?_
              refine RW.q (v := .int .i64 ((i + 1 : Nat) : Int)) rfl (q_add rfl rfl (by omega) (by unfold I64; omega)) ?_
              refine RW.q (v := .int .i64 ((i + 1 : Nat) : Int)) rfl (q_assign rfl) ?_
              refine RW.nil ?_
              exact Post.back (s' := _) (J' := _) (m' := _) (by omega) ⟨mo, i + 1, rfl, rfl, rfl, (by omega), (by rw [Al.mostN, if_neg (fun h => by have := hc8 h.1; omega), hmo])⟩ ⟨rfl, rfl, rfl, rfl, rfl, rfl, rfl, rfl, trivial⟩ (fun _ h => h)
          · simp [-List.getD_eq_getElem?_getD] at hc7
            refine AW.exit ?_
            refine Post.then_x (Post.then_x (Post.blk_hit (Post.then_n ?_)))
            refine AW.seq ?_
            have hbm := Al.back_most (ps := b.Places) hd hg1 (fun k hk => (Al.grant_rng (ps := b.Places) hsk hk).1) hli (by omega : q < b.Places.length)
            have hme : mo = Al.mostN rs (Al.day b.Places rs sup).2 (q : Int) rs.length := by rw [hmo, show i = rs.length by omega]
            refine AW.region ?_
            refine RW.q (v := lv1) rfl (q_move rfl) ?_
            refine RW.q (v := .int .i64 (q : Int)) rfl (q_move rfl) ?_
            refine RW.q (v := .pointer (some (Value.at lv1 (q * 1)))) rfl (q_indexAddr rfl rfl hlv1.sl Try.underlying29 sz3 (by omega) (by omega) rfl) ?_
            refine RW.q (v := .int .i64 ((Al.back b.Places rs ((Al.day b.Places rs sup).2)).getD q 0)) rfl (q_load rfl Try.underlying3 rfl (Cell.repInt hlv1 (by omega))) ?_
            refine RW.q (v := .bool (decide ((Al.back b.Places rs ((Al.day b.Places rs sup).2)).getD q 0 < 0))) rfl (q_lss rfl rfl) ?_
            refine RW.q (v := .bool (decide ((Al.back b.Places rs ((Al.day b.Places rs sup).2)).getD q 0 < 0))) rfl (q_move rfl) ?_
            refine RW.g (b := (decide ((Al.back b.Places rs ((Al.day b.Places rs sup).2)).getD q 0 < 0))) (v := lv1) rfl rfl rfl (fun h => q_move rfl) ?_
            refine RW.g (b := (decide ((Al.back b.Places rs ((Al.day b.Places rs sup).2)).getD q 0 < 0))) (v := .int .i64 (q : Int)) rfl rfl rfl (fun h => q_move rfl) ?_
            refine RW.g (b := (decide ((Al.back b.Places rs ((Al.day b.Places rs sup).2)).getD q 0 < 0))) (v := .pointer (some (Value.at lv1 (q * 1)))) rfl rfl rfl (fun h => q_indexAddr (gv_pos h) (gv_pos h) hlv1.sl Try.underlying29 sz3 (by (try simp [-List.getD_eq_getElem?_getD] at h); omega) (by (try simp [-List.getD_eq_getElem?_getD] at h); omega) rfl) ?_
            refine RW.g (b := (decide ((Al.back b.Places rs ((Al.day b.Places rs sup).2)).getD q 0 < 0))) (v := .int .i64 ((Al.back b.Places rs ((Al.day b.Places rs sup).2)).getD q 0)) rfl rfl rfl (fun h => q_load (gv_pos h) Try.underlying3 rfl (Cell.repInt hlv1 (by (try simp [-List.getD_eq_getElem?_getD] at h); omega))) ?_
            refine RW.g (b := (decide ((Al.back b.Places rs ((Al.day b.Places rs sup).2)).getD q 0 < 0))) (v := .int .i64 mo) rfl rfl rfl (fun h => q_move rfl) ?_
            refine RW.g (b := (decide ((Al.back b.Places rs ((Al.day b.Places rs sup).2)).getD q 0 < 0))) (v := .bool (decide (mo < (Al.back b.Places rs ((Al.day b.Places rs sup).2)).getD q 0))) rfl rfl rfl (fun h => q_gtr (gv_pos h) (gv_pos h)) ?_
            refine RW.q (v := .bool ((decide ((Al.back b.Places rs ((Al.day b.Places rs sup).2)).getD q 0 < 0)) || (decide (mo < (Al.back b.Places rs ((Al.day b.Places rs sup).2)).getD q 0)))) rfl (q_pick rfl (fun hp => pkOrT hp) (fun hp => (gv_pos hp).trans (pkOrF hp))) ?_
            refine RW.nil ?_
            refine Post.then_n ?_
            refine AW.cond (b := (decide ((Al.back b.Places rs ((Al.day b.Places rs sup).2)).getD q 0 < 0)) || (decide (mo < (Al.back b.Places rs ((Al.day b.Places rs sup).2)).getD q 0))) rfl (fun hc9 => ?_) (fun hc9 => ?_)
            · simp [-List.getD_eq_getElem?_getD] at hc9
              omega
            · simp [-List.getD_eq_getElem?_getD] at hc9
              refine AW.skip ?_
              refine Post.blk_n (Post.then_n ?_)
              refine AW.region ?_
              refine RW.q (v := .int .i64 (q : Int)) rfl (q_move rfl) ?_
              refine RW.q (v := .int .i64 ((q + 1 : Nat) : Int)) rfl (q_add rfl rfl (by omega) (by unfold I64; omega)) ?_
              refine RW.q (v := .int .i64 ((q + 1 : Nat) : Int)) rfl (q_assign rfl) ?_
              refine RW.nil ?_
              exact Post.back (s' := _) (J' := _) (m' := _) (by omega) ⟨q + 1, rfl, rfl, rfl, (by omega)⟩ ⟨rfl, rfl, rfl, rfl, rfl, rfl, trivial⟩ (fun _ h => h)
        · simp [-List.getD_eq_getElem?_getD] at hc6
          refine AW.exit ?_
          refine Post.then_x (Post.then_x (Post.blk_hit (Post.then_n ?_)))
          refine AW.seq ?_
          refine AW.region ?_
          refine RW.q (v := .bool true) rfl (q_move rfl) ?_
          refine RW.q (v := .bool true) rfl (q_assign rfl) ?_
          refine RW.nil ?_
          refine Post.then_n ?_
          refine AW.ret ?_
          exact fin_val (v' := .bool true) rfl rfl rfl (rfl)

end Go.Proofs.Ytpeojogjeopfaaa
