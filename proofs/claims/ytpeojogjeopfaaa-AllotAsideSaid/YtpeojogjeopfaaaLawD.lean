/- Walks (part LawD), printed by walk2.py. Conditions: those of each theorem. -/
import Derived.Test.YtpeojogjeopfaaaLawC
import Derived.Test.YtpeojogjeopfaaaAside
namespace Go.Proofs.Ytpeojogjeopfaaa
open Go Go.K Go.RowKit

theorem Cell.repBool {B : Bs} {Φ : Hp} {C : List Chunk} {v : Value} {k : Nat} {xs : List Bool} (h : RepSl Φ xs v) (hk : k < xs.length) : Cell (St B Φ C) (Value.at v (k * 1)) (.bool (xs.getD k false)) := by
  obtain ⟨cs, h1, h2⟩ := h.at_ k hk
  have h1 : cs = [.bool xs[k]] := h1
  subst h1
  have h3 := h2 0 _ rfl
  have hg : xs.getD k false = xs[k] := by simp [List.getD_eq_getElem?_getD, hk]
  rw [hg]
  exact Cell.phi h3
theorem awFrz {P : Program} {N : Nat} {D : List Deferred} {c : Code} {Q : Exit → Act → World → Prop} {f : Nat → Value} {s : List (Nat × Value)} {w0 : World} {Φ0 Φ : Hp} {ch : Chunk} {C : List Chunk} (h : ∀ Φ', Hp.le Φ Φ' → ch.sat Φ' → AW P N D c Q f s (St ⟨w0, Φ0, []⟩ Φ' C)) : AW P N D c Q f s (St ⟨w0, Φ0, []⟩ Φ (ch :: C)) := fun a w ha hw => by
  obtain ⟨Φ', h1, h2, h3⟩ := StP.freeze hw (fun b hb => ((hw.away b (by simp [hb])).2).resolve_right (by simp))
  exact h Φ' h1 h2 a w ha h3
set_option maxRecDepth 8000 in
set_option maxHeartbeats 1000000 in
theorem AllotAside_c (w : World) (Φ : Hp) (hΦ : Hp.le Φ (hp w)) {b : Bt.Basin} {cs : List Value} (hB : RepV Φ b cs) {rs : List Bt.Right} {v2s : Value} (h2 : RepSl Φ rs v2s) {sup : List Int} {v1s : Value} (h1 : RepSl Φ sup v1s) {mk : List Bool} {v5s : Value} (h5 : RepSl Φ mk v5s) :
    Calls Try.prog 6 #[.agg cs.toArray, v2s, v1s, v5s] w fun e w' => e = .returned (.bool true) ∧ Below w.heap.size w w' := by
  obtain ⟨v1, v3, v4, v5, v6, v7, v8, v9, hcs, hBw, r1, r3, r4, r5, r6, r7, r8, r9⟩ := (show Rep.rep Φ b cs from hB)
  subst hcs
  have hpm : b.Places.length * 152 ≤ 140737488355328 := r3.max
  refine calls_of_AW (args := [.agg #[.string b.Name, v1, .int .i64 b.Cells, v3, v4, v5, v6, v7, v8, v9, .int .i64 b.Err], v2s, v1s, v5s]) Try.func6 rfl (Nat.le_of_ble_eq_true rfl) (St ⟨w, Φ, []⟩ Φ []) (StP.init w Φ hΦ []) ?_
  show AW Try.prog 132 [] _ _ _ [(0, .agg #[.string b.Name, v1, .int .i64 b.Cells, v3, v4, v5, v6, v7, v8, v9, .int .i64 b.Err]), (1, v2s), (2, v1s), (3, v5s)] _
  have hsk : ∀ k, Al.Ok64 (sup.getD k 0) := fun k => by have := h1.i64D k; unfold I64 at this; unfold Al.Ok64 Al.minI Al.maxI; omega
  have hm1 : sup.length * 8 ≤ 140737488355328 := h1.max
  have hm2 : rs.length * 72 ≤ 140737488355328 := h2.max
  have hwr := h2.wfE
  have hm5 : mk.length * 1 ≤ 140737488355328 := h5.max
  refine AW.seq ?_
  refine AW.region ?_
  refine RW.eff (fun b1 : Nat => .pointer (some (⟨b1, 0, none⟩))) (fun b1 => St ⟨w, Φ, []⟩ Φ [.blk b1 31 [.string b.Name, v1, .int .i64 b.Cells, v3, v4, v5, v6, v7, v8, v9, .int .i64 b.Err]]) rfl (e_boxA (cs := [.string b.Name, v1, .int .i64 b.Cells, v3, v4, v5, v6, v7, v8, v9, .int .i64 b.Err]) rfl) ?_
  intro b1
  refine RW.q (v := .bool false) rfl (q_assign rfl) ?_
  refine RW.nil ?_
  refine Post.then_n ?_
  refine AW.seq ?_
  refine AW.region ?_
  refine RW.q (v := .bool true) rfl (q_call (args := #[]) own9 rfl rfl (fun w1 hw1 => small_c w1 (Go.K.hp w1) (Hp.le_refl _))) ?_
  refine RW.q (v := .bool true) rfl (q_assign rfl) ?_
  refine RW.nil ?_
  refine Post.then_n ?_
  refine AW.seq ?_
  refine AW.region ?_
  refine RW.q (v := .agg #[.string b.Name, v1, .int .i64 b.Cells, v3, v4, v5, v6, v7, v8, v9, .int .i64 b.Err]) rfl (q_loadAgg rfl Try.underlying31 rfl sz31 rfl (Cells.blk 0 rfl)) ?_
  refine RW.q (v := v2s) rfl (q_move rfl) ?_
  refine RW.q (v := .bool (decide ((b.Places.length : Int) ≤ 64) && decide ((rs.length : Int) ≤ 40) && decide ((([] : List Bt.Grant).length : Int) ≤ 80))) rfl (q_call (args := #[.agg #[.string b.Name, v1, .int .i64 b.Cells, v3, v4, v5, v6, v7, v8, v9, .int .i64 b.Err], v2s, (.slice none 0 0)]) own10 rfl rfl (fun w1 hw1 => few_c w1 (Go.K.hp w1) (Hp.le_refl _) (hB.mono hw1.phi) (h2.mono hw1.phi) repSl_nil)) ?_
  refine RW.q (v := .bool (decide ((b.Places.length : Int) ≤ 64) && decide ((rs.length : Int) ≤ 40) && decide ((([] : List Bt.Grant).length : Int) ≤ 80))) rfl (q_assign rfl) ?_
  refine RW.nil ?_
  refine Post.then_n ?_
  refine AW.seq ?_
  refine AW.seq ?_
  refine AW.region ?_
  refine RW.q (v := .bool (decide ((b.Places.length : Int) ≤ 64) && decide ((rs.length : Int) ≤ 40) && decide ((([] : List Bt.Grant).length : Int) ≤ 80))) rfl (q_move rfl) ?_
  refine RW.q (v := .bool (!(decide ((b.Places.length : Int) ≤ 64) && decide ((rs.length : Int) ≤ 40) && decide ((([] : List Bt.Grant).length : Int) ≤ 80)))) rfl (q_not rfl) ?_
  refine RW.q (v := .bool (!(decide ((b.Places.length : Int) ≤ 64) && decide ((rs.length : Int) ≤ 40) && decide ((([] : List Bt.Grant).length : Int) ≤ 80)))) rfl (q_move rfl) ?_
  refine RW.g (b := (!(decide ((b.Places.length : Int) ≤ 64) && decide ((rs.length : Int) ≤ 40) && decide ((([] : List Bt.Grant).length : Int) ≤ 80)))) (v := v5s) rfl rfl rfl (fun h => q_move rfl) ?_
  refine RW.g (b := (!(decide ((b.Places.length : Int) ≤ 64) && decide ((rs.length : Int) ≤ 40) && decide ((([] : List Bt.Grant).length : Int) ≤ 80)))) (v := .int .i64 ((mk.length : Nat) : Int)) rfl rfl rfl (fun h => q_len_sl (gv_pos h) h5.sl Try.underlying52) ?_
  refine RW.g (b := (!(decide ((b.Places.length : Int) ≤ 64) && decide ((rs.length : Int) ≤ 40) && decide ((([] : List Bt.Grant).length : Int) ≤ 80)))) (v := .pointer (some (⟨b1, 3, none⟩))) rfl rfl rfl (fun h => q_fieldAddr rfl Try.underlying31 rfl sz23 rfl) ?_
  refine RW.g (b := (!(decide ((b.Places.length : Int) ≤ 64) && decide ((rs.length : Int) ≤ 40) && decide ((([] : List Bt.Grant).length : Int) ≤ 80)))) (v := v3) rfl rfl rfl (fun h => q_load (gv_pos h) Try.underlying23 rfl (Cell.blk 0 rfl rfl)) ?_
  refine RW.g (b := (!(decide ((b.Places.length : Int) ≤ 64) && decide ((rs.length : Int) ≤ 40) && decide ((([] : List Bt.Grant).length : Int) ≤ 80)))) (v := .int .i64 ((b.Places.length : Nat) : Int)) rfl rfl rfl (fun h => q_len_sl (gv_pos h) r3.sl Try.underlying23) ?_
  refine RW.g (b := (!(decide ((b.Places.length : Int) ≤ 64) && decide ((rs.length : Int) ≤ 40) && decide ((([] : List Bt.Grant).length : Int) ≤ 80)))) (v := .bool (decide (((mk.length : Nat) : Int) < ((b.Places.length : Nat) : Int)))) rfl rfl rfl (fun h => q_lss (gv_pos h) (gv_pos h)) ?_
  refine RW.q (v := .bool ((!(decide ((b.Places.length : Int) ≤ 64) && decide ((rs.length : Int) ≤ 40) && decide ((([] : List Bt.Grant).length : Int) ≤ 80))) || (decide (((mk.length : Nat) : Int) < ((b.Places.length : Nat) : Int))))) rfl (q_pick rfl (fun hp => pkOrT hp) (fun hp => (gv_pos hp).trans (pkOrF hp))) ?_
  refine RW.nil ?_
  refine Post.then_n ?_
  refine AW.cond (b := (!(decide ((b.Places.length : Int) ≤ 64) && decide ((rs.length : Int) ≤ 40) && decide ((([] : List Bt.Grant).length : Int) ≤ 80))) || (decide (((mk.length : Nat) : Int) < ((b.Places.length : Nat) : Int)))) rfl (fun hc1 => ?_) (fun hc1 => ?_)
  · simp [-List.getD_eq_getElem?_getD] at hc1
    refine AW.seq ?_
    refine AW.region ?_
    refine RW.q (v := .bool true) rfl (q_move rfl) ?_
    refine RW.q (v := .bool true) rfl (q_assign rfl) ?_
    refine RW.nil ?_
    refine Post.then_n ?_
    refine AW.ret ?_
    refine Post.then_r ?_
    exact fin_val (v' := .bool true) rfl rfl rfl (rfl)
  · simp [-List.getD_eq_getElem?_getD] at hc1
    refine AW.skip ?_
    refine Post.then_n ?_
    refine AW.seq ?_
    refine AW.region ?_
    refine RW.q (v := (.slice none 0 0)) rfl (q_assign rfl) ?_
    refine RW.nil ?_
    refine Post.then_n ?_
    refine AW.seq ?_
    refine AW.region ?_
    refine RW.q (v := (.slice none 0 0)) rfl (q_assign rfl) ?_
    refine RW.nil ?_
    refine Post.then_n ?_
    refine AW.seq ?_
    refine AW.seq ?_
    refine AW.region ?_
    refine RW.q (v := .int .i64 0) rfl (q_assign rfl) ?_
    refine RW.nil ?_
    refine Post.then_n ?_
    refine AW.block ?_
    refine AW.loop (fun s J m => ∃ (k : Nat), ∃ (sv : Value), ∃ (tv : Value), s = [(1, v2s), (2, v1s), (3, v5s), (4, .pointer (some (⟨b1, 0, none⟩))), (9, .bool true), (11, sv), (12, tv), (13, .int .i64 (k : Int))] ∧ J = St ⟨w, Φ, []⟩ Φ [.row tv 3 1 ((Al.selT b.Places mk rs k).length) ((Al.selT b.Places mk rs k).map (Value.int .i64)), .row sv 45 9 ((Al.selS b.Places mk rs k).length) (flat (Al.selS b.Places mk rs k)), .blk b1 31 [.string b.Name, v1, .int .i64 b.Cells, v3, v4, v5, v6, v7, v8, v9, .int .i64 b.Err]] ∧ m = rs.length - k ∧ (k ≤ rs.length) ∧ (IsSl sv (Al.selS b.Places mk rs k).length) ∧ (IsSl tv (Al.selT b.Places mk rs k).length) ∧ (Al.Both b.Places mk rs sup k)) (s0 := _) (J1 := _) (m0 := _) ⟨0, _, _, rfl, rfl, rfl, (by omega), isSl_nil, isSl_nil, Al.Both.zero⟩ ⟨rfl, rfl, rfl, rfl, rfl, rfl, rfl, rfl, trivial⟩ (fun _ h => addNil (addNil h)) ?_
    rintro _ _ _ _ ⟨k, sv, tv, rfl, rfl, rfl, hk, hsv, htv, hBo⟩
    refine AW.seq ?_
    refine AW.seq ?_
    refine AW.region ?_
    refine RW.q (v := .int .i64 (k : Int)) rfl (q_move rfl) ?_
    refine RW.q (v := v2s) rfl (q_move rfl) ?_
    refine RW.q (v := .int .i64 ((rs.length : Nat) : Int)) rfl (q_len_sl rfl h2.sl Try.underlying32) ?_
    refine RW.q (v := .bool (decide ((k : Int) < ((rs.length : Nat) : Int)))) rfl (q_lss rfl rfl) ?_
    refine RW.nil ?_
    refine Post.then_n ?_
    refine AW.cond (b := decide ((k : Int) < ((rs.length : Nat) : Int))) rfl (fun hc2 => ?_) (fun hc2 => ?_)
    · simp [-List.getD_eq_getElem?_getD] at hc2
      refine AW.skip ?_
      refine Post.then_n ?_
      refine AW.seq ?_
      refine AW.block ?_
      refine AW.seq ?_
      have hB_0 := hB
      have r3_0 := r3
      have h1_0 := h1
      have h2_0 := h2
      have h5_0 := h5
      refine AW.draw (J0 := St ⟨w, Φ, []⟩ Φ [.row tv 3 1 ((Al.selT b.Places mk rs k).length) ((Al.selT b.Places mk rs k).map (Value.int .i64)), .row sv 45 9 ((Al.selS b.Places mk rs k).length) (flat (Al.selS b.Places mk rs k)), .blk b1 31 [.string b.Name, v1, .int .i64 b.Cells, v3, v4, v5, v6, v7, v8, v9, .int .i64 b.Err]]) [.q, .q, .q, .q, .q, .q, .e, .q] [0, 1, 2, 3, 4, 5, 6, 7] hmix (by kernel_rfl) ?_
      refine DW.q (v := .agg #[.string b.Name, v1, .int .i64 b.Cells, v3, v4, v5, v6, v7, v8, v9, .int .i64 b.Err]) (fun _ h => h) rfl (q_loadAgg rfl Try.underlying31 rfl sz31 rfl (Cells.blk 2 rfl)) ?_
      refine DW.q (v := v2s) (fun _ h => h) rfl (q_move rfl) ?_
      refine DW.q (v := .int .i64 (k : Int)) (fun _ h => h) rfl (q_move rfl) ?_
      refine DW.q (v := .pointer (some (Value.at v2s (k * 9)))) (fun _ h => h) rfl (q_indexAddr rfl rfl h2.sl Try.underlying32 sz45 (by omega) (by omega) rfl) ?_
      refine DW.q (v := .pointer (some (Value.at v2s (k * 9 + 3)))) (fun _ h => h) rfl (q_fieldAddr rfl Try.underlying45 rfl sz3 at_add) ?_
      refine DW.q (v := .int .i64 ((rs.getD k default).Place)) (fun _ h => h) rfl (q_load rfl Try.underlying3 rfl (Cell.repE (j := 3) h2 (by omega) rfl)) ?_
      refine DW.eff (fun x : {y : Value × Hp // (fun r Ψ => RepSl Ψ (Al.reach b.Places ((rs.getD k default).Place)) r) y.1 y.2 ∧ Hp.le Φ y.2} => x.1.1) (fun x => St ⟨w, Φ, []⟩ x.1.2 [.row tv 3 1 ((Al.selT b.Places mk rs k).length) ((Al.selT b.Places mk rs k).map (Value.int .i64)), .row sv 45 9 ((Al.selS b.Places mk rs k).length) (flat (Al.selS b.Places mk rs k)), .blk b1 31 [.string b.Name, v1, .int .i64 b.Cells, v3, v4, v5, v6, v7, v8, v9, .int .i64 b.Err]]) (fun _ x => (fun _ h => StP.know x.2.2 h)) rfl (e_callS (T := fun r Ψ => RepSl Ψ (Al.reach b.Places ((rs.getD k default).Place)) r) (args := #[.agg #[.string b.Name, v1, .int .i64 b.Cells, v3, v4, v5, v6, v7, v8, v9, .int .i64 b.Err], .int .i64 ((rs.getD k default).Place)]) own14 rfl rfl (fun w1 hw1 => (Reach_c w1 (Go.K.hp w1) (Hp.le_refl _) (hB.mono hw1.phi)).mono fun _ _ => retS_up (fun _ _ _ hl h => h.mono hl))) ?_
      rintro ⟨⟨lv1, Φ1⟩, hlv1, hlΦ1⟩
      replace hlv1 : RepSl Φ1 (Al.reach b.Places ((rs.getD k default).Place)) lv1 := hlv1
      replace hlΦ1 : Hp.le Φ Φ1 := hlΦ1
      replace hB := hB.mono hlΦ1
      replace r3 := r3.mono hlΦ1
      replace h1 := h1.mono hlΦ1
      replace h2 := h2.mono hlΦ1
      replace h5 := h5.mono hlΦ1
      refine DW.q (v := lv1) (fun _ h => StP.know hlΦ1 h) rfl (q_assign rfl) ?_
      refine DW.nil ?_
      refine Post.then_n ?_
      refine AW.seq ?_
      have hrl := Al.reach_len b.Places (rs.getD k default).Place
      have hslk : (Al.selS b.Places mk rs k).length ≤ rs.length := Nat.le_trans (List.length_filter_le _ _) (by rw [List.length_take]; omega)
      have htlk := Al.sel_len (ps := b.Places) (mk := mk) (rs := rs) k hk
      refine AW.region ?_
      refine RW.q (v := .int .i64 0) rfl (q_assign rfl) ?_
      refine RW.nil ?_
      refine Post.then_n ?_
      refine AW.seq ?_
      refine AW.seq ?_
      refine AW.region ?_
      refine RW.q (v := .int .i64 0) rfl (q_assign rfl) ?_
      refine RW.nil ?_
      refine Post.then_n ?_
      refine AW.block ?_
      refine AW.loop (fun s J m => ∃ (c : Nat), ∃ (j : Nat), s = [(1, v2s), (2, v1s), (3, v5s), (4, .pointer (some (⟨b1, 0, none⟩))), (9, .bool true), (11, sv), (12, tv), (13, .int .i64 (k : Int)), (14, lv1), (15, .int .i64 (c : Int)), (16, .int .i64 (j : Int))] ∧ J = St ⟨w, Φ, []⟩ Φ1 [.row tv 3 1 ((Al.selT b.Places mk rs k).length) ((Al.selT b.Places mk rs k).map (Value.int .i64)), .row sv 45 9 ((Al.selS b.Places mk rs k).length) (flat (Al.selS b.Places mk rs k)), .blk b1 31 [.string b.Name, v1, .int .i64 b.Cells, v3, v4, v5, v6, v7, v8, v9, .int .i64 b.Err]] ∧ m = (Al.reach b.Places (rs.getD k default).Place).length - j ∧ (j ≤ (Al.reach b.Places (rs.getD k default).Place).length) ∧ (c = Al.cntM mk ((Al.reach b.Places (rs.getD k default).Place).take j))) (s0 := _) (J1 := _) (m0 := _) ⟨0, 0, rfl, rfl, rfl, (by omega), rfl⟩ ⟨rfl, rfl, rfl, rfl, rfl, rfl, rfl, rfl, rfl, rfl, rfl, trivial⟩ (fun _ h => h) ?_
      rintro _ _ _ _ ⟨c, j, rfl, rfl, rfl, hj, hcc⟩
      refine AW.seq ?_
      refine AW.seq ?_
      refine AW.region ?_
      refine RW.q (v := .int .i64 (j : Int)) rfl (q_move rfl) ?_
      refine RW.q (v := lv1) rfl (q_move rfl) ?_
      refine RW.q (v := .int .i64 (((Al.reach b.Places ((rs.getD k default).Place)).length : Nat) : Int)) rfl (q_len_sl rfl hlv1.sl Try.underlying29) ?_
      refine RW.q (v := .bool (decide ((j : Int) < (((Al.reach b.Places ((rs.getD k default).Place)).length : Nat) : Int)))) rfl (q_lss rfl rfl) ?_
      refine RW.nil ?_
      refine Post.then_n ?_
      refine AW.cond (b := decide ((j : Int) < (((Al.reach b.Places ((rs.getD k default).Place)).length : Nat) : Int))) rfl (fun hc3 => ?_) (fun hc3 => ?_)
      · simp [-List.getD_eq_getElem?_getD] at hc3
        refine AW.skip ?_
        refine Post.then_n ?_
        refine AW.seq ?_
        refine AW.block ?_
        refine AW.seq ?_
        have hcb : c ≤ j := by rw [hcc]; exact Nat.le_trans (Al.cntM_le _ _) (by rw [List.length_take]; omega)
        have hrq := (Al.reach_ri b.Places (rs.getD k default).Place).2 _ (Al.getD_mem hc3)
        refine AW.region ?_
        refine RW.q (v := v5s) rfl (q_move rfl) ?_
        refine RW.q (v := lv1) rfl (q_move rfl) ?_
        refine RW.q (v := .int .i64 (j : Int)) rfl (q_move rfl) ?_
        refine RW.q (v := .pointer (some (Value.at lv1 (j * 1)))) rfl (q_indexAddr rfl rfl hlv1.sl Try.underlying29 sz3 (by omega) (by omega) rfl) ?_
        refine RW.q (v := .int .i64 ((Al.reach b.Places ((rs.getD k default).Place)).getD j 0)) rfl (q_load rfl Try.underlying3 rfl (Cell.repInt hlv1 (by omega))) ?_
        refine RW.q (v := .pointer (some (Value.at v5s ((((Al.reach b.Places ((rs.getD k default).Place)).getD j 0).toNat) * 1)))) rfl (q_indexAddr rfl rfl h5.sl Try.underlying52 sz4 (by omega) (by omega) rfl) ?_
        refine RW.q (v := .bool (mk.getD (((Al.reach b.Places ((rs.getD k default).Place)).getD j 0).toNat) false)) rfl (q_load rfl Try.underlying4 rfl (Cell.repBool h5 (by omega))) ?_
        refine RW.nil ?_
        refine Post.then_n ?_
        refine AW.cond (b := mk.getD (((Al.reach b.Places ((rs.getD k default).Place)).getD j 0).toNat) false) rfl (fun hc4 => ?_) (fun hc4 => ?_)
        · skip
          refine AW.region ?_
          refine RW.q (v := .int .i64 (c : Int)) rfl (q_move rfl) ?_
          refine RW.q (v := .int .i64 ((c + 1 : Nat) : Int)) rfl (q_add rfl rfl (by omega) (by unfold I64; omega)) ?_
          refine RW.q (v := .int .i64 ((c + 1 : Nat) : Int)) rfl (q_assign rfl) ?_
          refine RW.nil ?_
          refine Post.blk_n (Post.then_n ?_)
          refine AW.region ?_
          refine RW.q (v := .int .i64 (j : Int)) rfl (q_move rfl) ?_
          refine RW.q (v := .int .i64 ((j + 1 : Nat) : Int)) rfl (q_add rfl rfl (by omega) (by unfold I64; omega)) ?_
          refine RW.q (v := .int .i64 ((j + 1 : Nat) : Int)) rfl (q_assign rfl) ?_
          refine RW.nil ?_
          exact Post.back (s' := _) (J' := _) (m' := _) (by omega) ⟨c + 1, j + 1, rfl, rfl, rfl, (by omega), (by rw [Al.cntM_step hc3, if_pos hc4, hcc])⟩ ⟨rfl, rfl, rfl, rfl, rfl, rfl, rfl, rfl, rfl, rfl, rfl, trivial⟩ (fun _ h => h)
        · skip
          refine AW.skip ?_
          refine Post.blk_n (Post.then_n ?_)
          refine AW.region ?_
          refine RW.q (v := .int .i64 (j : Int)) rfl (q_move rfl) ?_
          refine RW.q (v := .int .i64 ((j + 1 : Nat) : Int)) rfl (q_add rfl rfl (by omega) (by unfold I64; omega)) ?_
          refine RW.q (v := .int .i64 ((j + 1 : Nat) : Int)) rfl (q_assign rfl) ?_
          refine RW.nil ?_
          exact Post.back (s' := _) (J' := _) (m' := _) (by omega) ⟨c, j + 1, rfl, rfl, rfl, (by omega), (by rw [Al.cntM_step hc3, if_neg (by rw [hc4]; simp), hcc])⟩ ⟨rfl, rfl, rfl, rfl, rfl, rfl, rfl, rfl, rfl, rfl, rfl, trivial⟩ (fun _ h => h)
      · simp [-List.getD_eq_getElem?_getD] at hc3
        refine AW.exit ?_
        refine Post.then_x (Post.then_x (Post.blk_hit (Post.then_n ?_)))
        refine AW.seq ?_
        refine AW.seq ?_
        have hce : c = Al.cntM mk (Al.reach b.Places (rs.getD k default).Place) := by rw [hcc, List.take_of_length_le (by omega)]
        refine AW.region ?_
        refine RW.q (v := .int .i64 (c : Int)) rfl (q_move rfl) ?_
        refine RW.q (v := .bool (!decide ((c : Int) = 0))) rfl (q_neq rfl rfl) ?_
        refine RW.q (v := .bool (!decide ((c : Int) = 0))) rfl (q_move rfl) ?_
        refine RW.g (b := (!decide ((c : Int) = 0))) (v := .int .i64 (c : Int)) rfl rfl rfl (fun h => q_move rfl) ?_
        refine RW.g (b := (!decide ((c : Int) = 0))) (v := lv1) rfl rfl rfl (fun h => q_move rfl) ?_
        refine RW.g (b := (!decide ((c : Int) = 0))) (v := .int .i64 (((Al.reach b.Places ((rs.getD k default).Place)).length : Nat) : Int)) rfl rfl rfl (fun h => q_len_sl (gv_pos h) hlv1.sl Try.underlying29) ?_
        refine RW.g (b := (!decide ((c : Int) = 0))) (v := .bool (!decide ((c : Int) = (((Al.reach b.Places ((rs.getD k default).Place)).length : Nat) : Int)))) rfl rfl rfl (fun h => q_neq (gv_pos h) (gv_pos h)) ?_
        refine RW.q (v := .bool ((!decide ((c : Int) = 0)) && (!decide ((c : Int) = (((Al.reach b.Places ((rs.getD k default).Place)).length : Nat) : Int))))) rfl (q_pick rfl (fun hp => (gv_pos hp).trans (pkAndT hp)) (fun hp => pkAndF hp)) ?_
        refine RW.nil ?_
        refine Post.then_n ?_
        refine AW.cond (b := (!decide ((c : Int) = 0)) && (!decide ((c : Int) = (((Al.reach b.Places ((rs.getD k default).Place)).length : Nat) : Int)))) rfl (fun hc5 => ?_) (fun hc5 => ?_)
        · simp [-List.getD_eq_getElem?_getD] at hc5
          refine AW.seq ?_
          refine AW.region ?_
          refine RW.q (v := .bool true) rfl (q_move rfl) ?_
          refine RW.q (v := .bool true) rfl (q_assign rfl) ?_
          refine RW.nil ?_
          refine Post.then_n ?_
          refine AW.ret ?_
          refine Post.then_r (Post.blk_r (Post.then_r (Post.then_r (Post.blk_r (Post.then_r ?_)))))
          exact fin_val (v' := .bool true) rfl rfl rfl (rfl)
        · simp [-List.getD_eq_getElem?_getD] at hc5
          refine AW.skip ?_
          refine Post.then_n ?_
          refine AW.seq ?_
          have hin : Al.cntM mk (Al.reach b.Places (rs.getD k default).Place) = 0 ∨ Al.cntM mk (Al.reach b.Places (rs.getD k default).Place) = (Al.reach b.Places (rs.getD k default).Place).length := by
            rw [← hce]
            by_cases h0 : c = 0
            · exact .inl h0
            · exact .inr (by have := hc5 h0; omega)
          refine AW.region ?_
          refine RW.q (v := .int .i64 (c : Int)) rfl (q_move rfl) ?_
          refine RW.q (v := .bool (decide ((0 : Int) < (c : Int)))) rfl (q_gtr rfl rfl) ?_
          refine RW.nil ?_
          refine Post.then_n ?_
          refine AW.cond (b := decide ((0 : Int) < (c : Int))) rfl (fun hc6 => ?_) (fun hc6 => ?_)
          · simp [-List.getD_eq_getElem?_getD] at hc6
            refine AW.seq ?_
            have hcp : 0 < Al.cntM mk (Al.reach b.Places (rs.getD k default).Place) := by omega
            refine AW.region ?_
            refine RW.q (v := sv) rfl (q_move rfl) ?_
            refine RW.q (v := v2s) rfl (q_move rfl) ?_
            refine RW.q (v := .int .i64 (k : Int)) rfl (q_move rfl) ?_
            refine RW.q (v := .pointer (some (Value.at v2s (k * 9)))) rfl (q_indexAddr rfl rfl h2.sl Try.underlying32 sz45 (by omega) (by omega) rfl) ?_
            refine RW.q (v := .agg #[.int .i64 ((rs.getD k default).Id), .int .i64 ((rs.getD k default).Owner), .int .i64 ((rs.getD k default).Date), .int .i64 ((rs.getD k default).Place), .int .i64 ((rs.getD k default).Rate), .int .i64 ((rs.getD k default).From), .int .i64 ((rs.getD k default).Until), .int .i64 ((rs.getD k default).Back), .int .i64 ((rs.getD k default).BackTo)]) rfl (q_loadAgg rfl Try.underlying45 rfl sz45 rfl (Cells.repE h2 (by omega) rfl)) ?_
            refine RW.eff (fun b2 : Nat => (.slice (some ⟨b2, 0, none⟩) 1 1)) (fun b2 => St ⟨w, Φ, []⟩ Φ1 [.row (.slice (some ⟨b2, 0, none⟩) 1 1) 45 9 1 ([.int .i64 ((rs.getD k default).Id), .int .i64 ((rs.getD k default).Owner), .int .i64 ((rs.getD k default).Date), .int .i64 ((rs.getD k default).Place), .int .i64 ((rs.getD k default).Rate), .int .i64 ((rs.getD k default).From), .int .i64 ((rs.getD k default).Until), .int .i64 ((rs.getD k default).Back), .int .i64 ((rs.getD k default).BackTo)]), .row tv 3 1 ((Al.selT b.Places mk rs k).length) ((Al.selT b.Places mk rs k).map (Value.int .i64)), .row sv 45 9 ((Al.selS b.Places mk rs k).length) (flat (Al.selS b.Places mk rs k)), .blk b1 31 [.string b.Name, v1, .int .i64 b.Cells, v3, v4, v5, v6, v7, v8, v9, .int .i64 b.Err]]) rfl (e_buildSlice (vals := [(0, .agg #[.int .i64 ((rs.getD k default).Id), .int .i64 ((rs.getD k default).Owner), .int .i64 ((rs.getD k default).Date), .int .i64 ((rs.getD k default).Place), .int .i64 ((rs.getD k default).Rate), .int .i64 ((rs.getD k default).From), .int .i64 ((rs.getD k default).Until), .int .i64 ((rs.getD k default).Back), .int .i64 ((rs.getD k default).BackTo)])]) (cells := [.int .i64 ((rs.getD k default).Id), .int .i64 ((rs.getD k default).Owner), .int .i64 ((rs.getD k default).Date), .int .i64 ((rs.getD k default).Place), .int .i64 ((rs.getD k default).Rate), .int .i64 ((rs.getD k default).From), .int .i64 ((rs.getD k default).Until), .int .i64 ((rs.getD k default).Back), .int .i64 ((rs.getD k default).BackTo)]) Try.underlying32 inf45 rfl rfl rfl (by kernel_rfl) rfl) ?_
            intro b2
            refine RW.eff (fun xv : {vq : Value // IsSl vq ((Al.selS b.Places mk rs k).length + 1)} => xv.1) (fun xv => St ⟨w, Φ, []⟩ Φ1 [.row (.slice (some ⟨b2, 0, none⟩) 1 1) 45 9 1 ([.int .i64 ((rs.getD k default).Id), .int .i64 ((rs.getD k default).Owner), .int .i64 ((rs.getD k default).Date), .int .i64 ((rs.getD k default).Place), .int .i64 ((rs.getD k default).Rate), .int .i64 ((rs.getD k default).From), .int .i64 ((rs.getD k default).Until), .int .i64 ((rs.getD k default).Back), .int .i64 ((rs.getD k default).BackTo)]), .row tv 3 1 ((Al.selT b.Places mk rs k).length) ((Al.selT b.Places mk rs k).map (Value.int .i64)), .row xv.1 45 9 (((Al.selS b.Places mk rs k) ++ [(rs.getD k default)]).length) (flat ((Al.selS b.Places mk rs k) ++ [(rs.getD k default)])), .blk b1 31 [.string b.Name, v1, .int .i64 b.Cells, v3, v4, v5, v6, v7, v8, v9, .int .i64 b.Err]]) rfl (e_append 2 rfl rfl rfl Try.underlying32 inf45 rfl rfl rfl (Cells.row0 0 rfl) rfl (by omega) (by omega) (fun _ => by simp [flat] <;> rfl)) ?_
            rintro ⟨va1, hva1⟩
            refine RW.wk (J' := St ⟨w, Φ, []⟩ Φ1 [.row tv 3 1 ((Al.selT b.Places mk rs k).length) ((Al.selT b.Places mk rs k).map (Value.int .i64)), .row va1 45 9 (((Al.selS b.Places mk rs k) ++ [(rs.getD k default)]).length) (flat ((Al.selS b.Places mk rs k) ++ [(rs.getD k default)])), .blk b1 31 [.string b.Name, v1, .int .i64 b.Cells, v3, v4, v5, v6, v7, v8, v9, .int .i64 b.Err]]) (fun _ h => StP.drop h (by exact .cons _ (.cons_cons _ (.cons_cons _ (.cons_cons _ (.slnil)))))) ?_
            refine RW.q (v := va1) rfl (q_assign rfl) ?_
            refine RW.nil ?_
            refine Post.then_n ?_
            refine AW.region ?_
            refine RW.q (v := tv) rfl (q_move rfl) ?_
            refine RW.q (v := .int .i64 (k : Int)) rfl (q_move rfl) ?_
            refine RW.eff (fun b3 : Nat => (.slice (some ⟨b3, 0, none⟩) 1 1)) (fun b3 => St ⟨w, Φ, []⟩ Φ1 [.row (.slice (some ⟨b3, 0, none⟩) 1 1) 3 1 1 ([.int .i64 (k : Int)]), .row tv 3 1 ((Al.selT b.Places mk rs k).length) ((Al.selT b.Places mk rs k).map (Value.int .i64)), .row va1 45 9 (((Al.selS b.Places mk rs k) ++ [(rs.getD k default)]).length) (flat ((Al.selS b.Places mk rs k) ++ [(rs.getD k default)])), .blk b1 31 [.string b.Name, v1, .int .i64 b.Cells, v3, v4, v5, v6, v7, v8, v9, .int .i64 b.Err]]) rfl (e_buildSlice (vals := [(0, .int .i64 (k : Int))]) (cells := [.int .i64 (k : Int)]) Try.underlying29 inf3 rfl rfl rfl (by kernel_rfl) rfl) ?_
            intro b3
            refine RW.eff (fun xv : {vq : Value // IsSl vq ((Al.selT b.Places mk rs k).length + 1)} => xv.1) (fun xv => St ⟨w, Φ, []⟩ Φ1 [.row (.slice (some ⟨b3, 0, none⟩) 1 1) 3 1 1 ([.int .i64 (k : Int)]), .row xv.1 3 1 (((Al.selT b.Places mk rs k) ++ [(k : Int)]).length) (((Al.selT b.Places mk rs k) ++ [(k : Int)]).map (Value.int .i64)), .row va1 45 9 (((Al.selS b.Places mk rs k) ++ [(rs.getD k default)]).length) (flat ((Al.selS b.Places mk rs k) ++ [(rs.getD k default)])), .blk b1 31 [.string b.Name, v1, .int .i64 b.Cells, v3, v4, v5, v6, v7, v8, v9, .int .i64 b.Err]]) rfl (e_append 1 rfl rfl rfl Try.underlying29 inf3 rfl rfl rfl (Cells.row0 0 rfl) rfl (by omega) (by omega) (fun _ => by simp)) ?_
            rintro ⟨va2, hva2⟩
            refine RW.wk (J' := St ⟨w, Φ, []⟩ Φ1 [.row va2 3 1 (((Al.selT b.Places mk rs k) ++ [(k : Int)]).length) (((Al.selT b.Places mk rs k) ++ [(k : Int)]).map (Value.int .i64)), .row va1 45 9 (((Al.selS b.Places mk rs k) ++ [(rs.getD k default)]).length) (flat ((Al.selS b.Places mk rs k) ++ [(rs.getD k default)])), .blk b1 31 [.string b.Name, v1, .int .i64 b.Cells, v3, v4, v5, v6, v7, v8, v9, .int .i64 b.Err]]) (fun _ h => StP.drop h (by exact .cons _ (.cons_cons _ (.cons_cons _ (.cons_cons _ (.slnil)))))) ?_
            refine RW.q (v := va2) rfl (q_assign rfl) ?_
            refine RW.nil ?_
            refine Post.blk_n (Post.then_n ?_)
            refine AW.region ?_
            refine RW.q (v := .int .i64 (k : Int)) rfl (q_move rfl) ?_
            refine RW.q (v := .int .i64 ((k + 1 : Nat) : Int)) rfl (q_add rfl rfl (by omega) (by unfold I64; omega)) ?_
            refine RW.q (v := .int .i64 ((k + 1 : Nat) : Int)) rfl (q_assign rfl) ?_
            refine RW.nil ?_
            have hS := Al.selS_step (ps := b.Places) (mk := mk) hc2
            rw [if_pos hcp] at hS
            have hT := Al.selT_step (ps := b.Places) (mk := mk) (rs := rs) (k := k)
            rw [if_pos hcp] at hT
            exact Post.back (s' := _) (J' := _) (m' := _) (by omega) ⟨k + 1, va1, va2, rfl, rfl, rfl, (by omega), (by rw [hS]; simpa using hva1), (by rw [hT]; simpa using hva2), (hBo.step hsk hc2 hin)⟩ ⟨rfl, rfl, rfl, rfl, rfl, rfl, rfl, rfl, trivial⟩ (fun _ h => by rw [hS, hT]; exact StP.know (by assumption) h)
          · simp [-List.getD_eq_getElem?_getD] at hc6
            refine AW.skip ?_
            refine Post.blk_n (Post.then_n ?_)
            refine AW.region ?_
            refine RW.q (v := .int .i64 (k : Int)) rfl (q_move rfl) ?_
            refine RW.q (v := .int .i64 ((k + 1 : Nat) : Int)) rfl (q_add rfl rfl (by omega) (by unfold I64; omega)) ?_
            refine RW.q (v := .int .i64 ((k + 1 : Nat) : Int)) rfl (q_assign rfl) ?_
            refine RW.nil ?_
            have hcn : ¬ 0 < Al.cntM mk (Al.reach b.Places (rs.getD k default).Place) := by omega
            have hS := Al.selS_step (ps := b.Places) (mk := mk) hc2
            rw [if_neg hcn] at hS
            have hT := Al.selT_step (ps := b.Places) (mk := mk) (rs := rs) (k := k)
            rw [if_neg hcn] at hT
            exact Post.back (s' := _) (J' := _) (m' := _) (by omega) ⟨k + 1, sv, tv, rfl, rfl, rfl, (by omega), (by rw [hS]; exact hsv), (by rw [hT]; exact htv), (hBo.step hsk hc2 hin)⟩ ⟨rfl, rfl, rfl, rfl, rfl, rfl, rfl, rfl, trivial⟩ (fun _ h => by rw [hS, hT]; exact StP.know (by assumption) h)
    · simp [-List.getD_eq_getElem?_getD] at hc2
      refine AW.exit ?_
      refine Post.then_x (Post.then_x (Post.blk_hit (Post.then_n ?_)))
      refine AW.seq ?_
      have hke : k = rs.length := by omega
      have hsl := Al.sel_len (ps := b.Places) (mk := mk) (rs := rs) k hk
      have hsL : (Al.selS b.Places mk rs k).length ≤ rs.length := Nat.le_trans (List.length_filter_le _ _) (by rw [List.length_take]; omega)
      refine awFrz (fun Φt hlΦt hst => ?_)
      replace hB := hB.mono hlΦt
      replace r3 := r3.mono hlΦt
      replace h1 := h1.mono hlΦt
      replace h2 := h2.mono hlΦt
      replace h5 := h5.mono hlΦt
      have hTr : RepSl Φt (Al.selT b.Places mk rs k) tv := RowS.ints hst (by simp only [maxSl]; omega) (fun x hx => by have h9 := Al.selT_rng x hx; unfold I64; omega)
      refine awFrz (fun Φs hlΦs hss => ?_)
      replace hB := hB.mono hlΦs
      replace r3 := r3.mono hlΦs
      replace h1 := h1.mono hlΦs
      replace h2 := h2.mono hlΦs
      replace h5 := h5.mono hlΦs
      replace hTr := hTr.mono hlΦs
      have hSr : RepSl Φs (Al.selS b.Places mk rs k) sv := RowS.repE even45 hss rfl (by simp only [Rep.bytes, maxSl]; omega) (fun x hx => hwr x (List.mem_of_mem_take (List.mem_filter.1 hx).1))
      refine AW.region ?_
      refine RW.q (v := .agg #[.string b.Name, v1, .int .i64 b.Cells, v3, v4, v5, v6, v7, v8, v9, .int .i64 b.Err]) rfl (q_loadAgg rfl Try.underlying31 rfl sz31 rfl (Cells.blk 0 rfl)) ?_
      refine RW.q (v := v2s) rfl (q_move rfl) ?_
      refine RW.q (v := v1s) rfl (q_move rfl) ?_
      refine RW.eff (fun x : {y : Value × Value × Hp // RepSl y.2.2 (Al.day b.Places rs sup).2 y.1 ∧ IsSl y.2.1 b.Places.length ∧ Hp.le Φs y.2.2} => .tuple #[x.1.1, x.1.2.1]) (fun x => St ⟨w, Φ, []⟩ x.1.2.2 [.row x.1.2.1 3 1 b.Places.length (((Al.day b.Places rs sup).1).map (Value.int .i64)), .blk b1 31 [.string b.Name, v1, .int .i64 b.Cells, v3, v4, v5, v6, v7, v8, v9, .int .i64 b.Err]]) rfl (e_call (args := #[.agg #[.string b.Name, v1, .int .i64 b.Cells, v3, v4, v5, v6, v7, v8, v9, .int .i64 b.Err], v2s, v1s]) own11 rfl rfl (fun w1 hw1 => Day_c rfl hB h2 h1 w1 hw1)) ?_
      rintro ⟨⟨gv1, dl1, Φ2⟩, hgr1, hdl1, hlΦ2⟩
      replace hgr1 : RepSl Φ2 (Al.day b.Places rs sup).2 gv1 := hgr1
      replace hlΦ2 : Hp.le Φs Φ2 := hlΦ2
      replace hB := hB.mono hlΦ2
      replace r3 := r3.mono hlΦ2
      replace h1 := h1.mono hlΦ2
      replace h2 := h2.mono hlΦ2
      replace h5 := h5.mono hlΦ2
      replace hTr := hTr.mono hlΦ2
      replace hSr := hSr.mono hlΦ2
      refine RW.frz (fun Φ3 hlΦ3 hshle1 => ?_)
      replace hB := hB.mono hlΦ3
      replace r3 := r3.mono hlΦ3
      replace h1 := h1.mono hlΦ3
      replace h2 := h2.mono hlΦ3
      replace h5 := h5.mono hlΦ3
      replace hTr := hTr.mono hlΦ3
      replace hSr := hSr.mono hlΦ3
      replace hgr1 := hgr1.mono hlΦ3
      replace hle1 : RepSl Φ3 ((Al.day b.Places rs sup).1) dl1 := RowS.ints (T := 3) (n := b.Places.length) (hshle1) (by simp only [maxSl]; omega) (fun x hx => by have h9 := (Al.day_li (ps := b.Places) hsk _).mem x hx; unfold I64; omega)
      refine RW.q (v := .tuple #[gv1, dl1]) rfl (q_move rfl) ?_
      refine RW.q (v := gv1) rfl (q_extract rfl rfl) ?_
      refine RW.q (v := dl1) rfl (q_extract rfl rfl) ?_
      refine RW.q (v := gv1) rfl (q_assign rfl) ?_
      refine RW.q (v := dl1) rfl (q_assign rfl) ?_
      refine RW.nil ?_
      refine Post.then_n ?_
      refine AW.seq ?_
      refine AW.region ?_
      refine RW.q (v := .agg #[.string b.Name, v1, .int .i64 b.Cells, v3, v4, v5, v6, v7, v8, v9, .int .i64 b.Err]) rfl (q_loadAgg rfl Try.underlying31 rfl sz31 rfl (Cells.blk 0 rfl)) ?_
      refine RW.q (v := sv) rfl (q_move rfl) ?_
      refine RW.q (v := v1s) rfl (q_move rfl) ?_
      refine RW.eff (fun x : {y : Value × Value × Hp // RepSl y.2.2 (Al.day b.Places (Al.selS b.Places mk rs k) sup).2 y.1 ∧ IsSl y.2.1 b.Places.length ∧ Hp.le Φ3 y.2.2} => .tuple #[x.1.1, x.1.2.1]) (fun x => St ⟨w, Φ, []⟩ x.1.2.2 [.row x.1.2.1 3 1 b.Places.length (((Al.day b.Places (Al.selS b.Places mk rs k) sup).1).map (Value.int .i64)), .blk b1 31 [.string b.Name, v1, .int .i64 b.Cells, v3, v4, v5, v6, v7, v8, v9, .int .i64 b.Err]]) rfl (e_call (args := #[.agg #[.string b.Name, v1, .int .i64 b.Cells, v3, v4, v5, v6, v7, v8, v9, .int .i64 b.Err], sv, v1s]) own11 rfl rfl (fun w1 hw1 => Day_c rfl hB hSr h1 w1 hw1)) ?_
      rintro ⟨⟨gv2, dl2, Φ4⟩, hgr2, hdl2, hlΦ4⟩
      replace hgr2 : RepSl Φ4 (Al.day b.Places (Al.selS b.Places mk rs k) sup).2 gv2 := hgr2
      replace hlΦ4 : Hp.le Φ3 Φ4 := hlΦ4
      replace hB := hB.mono hlΦ4
      replace r3 := r3.mono hlΦ4
      replace h1 := h1.mono hlΦ4
      replace h2 := h2.mono hlΦ4
      replace h5 := h5.mono hlΦ4
      replace hTr := hTr.mono hlΦ4
      replace hSr := hSr.mono hlΦ4
      replace hgr1 := hgr1.mono hlΦ4
      replace hle1 := hle1.mono hlΦ4
      refine RW.frz (fun Φ5 hlΦ5 hshle2 => ?_)
      replace hB := hB.mono hlΦ5
      replace r3 := r3.mono hlΦ5
      replace h1 := h1.mono hlΦ5
      replace h2 := h2.mono hlΦ5
      replace h5 := h5.mono hlΦ5
      replace hTr := hTr.mono hlΦ5
      replace hSr := hSr.mono hlΦ5
      replace hgr1 := hgr1.mono hlΦ5
      replace hle1 := hle1.mono hlΦ5
      replace hgr2 := hgr2.mono hlΦ5
      replace hle2 : RepSl Φ5 ((Al.day b.Places (Al.selS b.Places mk rs k) sup).1) dl2 := RowS.ints (T := 3) (n := b.Places.length) (hshle2) (by simp only [maxSl]; omega) (fun x hx => by have h9 := (Al.day_li (ps := b.Places) hsk _).mem x hx; unfold I64; omega)
      refine RW.q (v := .tuple #[gv2, dl2]) rfl (q_move rfl) ?_
      refine RW.q (v := gv2) rfl (q_extract rfl rfl) ?_
      refine RW.q (v := dl2) rfl (q_extract rfl rfl) ?_
      refine RW.q (v := gv2) rfl (q_assign rfl) ?_
      refine RW.q (v := dl2) rfl (q_assign rfl) ?_
      refine RW.nil ?_
      refine Post.then_n ?_
      refine AW.seq ?_
      refine AW.seq ?_
      have hg1 : (Al.day b.Places rs sup).2.length = rs.length := Al.day_len2 hsk rs
      have hg2 : (Al.day b.Places (Al.selS b.Places mk rs k) sup).2.length = (Al.selS b.Places mk rs k).length := Al.day_len2 hsk _
      refine AW.region ?_
      refine RW.q (v := gv2) rfl (q_move rfl) ?_
      refine RW.q (v := .int .i64 ((((Al.day b.Places (Al.selS b.Places mk rs k) sup).2).length : Nat) : Int)) rfl (q_len_sl rfl hgr2.sl Try.underlying33) ?_
      refine RW.q (v := sv) rfl (q_move rfl) ?_
      refine RW.q (v := .int .i64 (((Al.selS b.Places mk rs k).length : Nat) : Int)) rfl (q_len_sl rfl hSr.sl Try.underlying32) ?_
      refine RW.q (v := .bool (!decide (((((Al.day b.Places (Al.selS b.Places mk rs k) sup).2).length : Nat) : Int) = (((Al.selS b.Places mk rs k).length : Nat) : Int)))) rfl (q_neq rfl rfl) ?_
      refine RW.q (v := .bool (!decide (((((Al.day b.Places (Al.selS b.Places mk rs k) sup).2).length : Nat) : Int) = (((Al.selS b.Places mk rs k).length : Nat) : Int)))) rfl (q_move rfl) ?_
      refine RW.g (b := (!decide (((((Al.day b.Places (Al.selS b.Places mk rs k) sup).2).length : Nat) : Int) = (((Al.selS b.Places mk rs k).length : Nat) : Int)))) (v := gv1) rfl rfl rfl (fun h => q_move rfl) ?_
      refine RW.g (b := (!decide (((((Al.day b.Places (Al.selS b.Places mk rs k) sup).2).length : Nat) : Int) = (((Al.selS b.Places mk rs k).length : Nat) : Int)))) (v := .int .i64 ((((Al.day b.Places rs sup).2).length : Nat) : Int)) rfl rfl rfl (fun h => q_len_sl (gv_pos h) hgr1.sl Try.underlying33) ?_
      refine RW.g (b := (!decide (((((Al.day b.Places (Al.selS b.Places mk rs k) sup).2).length : Nat) : Int) = (((Al.selS b.Places mk rs k).length : Nat) : Int)))) (v := v2s) rfl rfl rfl (fun h => q_move rfl) ?_
      refine RW.g (b := (!decide (((((Al.day b.Places (Al.selS b.Places mk rs k) sup).2).length : Nat) : Int) = (((Al.selS b.Places mk rs k).length : Nat) : Int)))) (v := .int .i64 ((rs.length : Nat) : Int)) rfl rfl rfl (fun h => q_len_sl (gv_pos h) h2.sl Try.underlying32) ?_
      refine RW.g (b := (!decide (((((Al.day b.Places (Al.selS b.Places mk rs k) sup).2).length : Nat) : Int) = (((Al.selS b.Places mk rs k).length : Nat) : Int)))) (v := .bool (!decide (((((Al.day b.Places rs sup).2).length : Nat) : Int) = ((rs.length : Nat) : Int)))) rfl rfl rfl (fun h => q_neq (gv_pos h) (gv_pos h)) ?_
      refine RW.q (v := .bool ((!decide (((((Al.day b.Places (Al.selS b.Places mk rs k) sup).2).length : Nat) : Int) = (((Al.selS b.Places mk rs k).length : Nat) : Int))) || (!decide (((((Al.day b.Places rs sup).2).length : Nat) : Int) = ((rs.length : Nat) : Int))))) rfl (q_pick rfl (fun hp => pkOrT hp) (fun hp => (gv_pos hp).trans (pkOrF hp))) ?_
      refine RW.nil ?_
      refine Post.then_n ?_
      refine AW.cond (b := (!decide (((((Al.day b.Places (Al.selS b.Places mk rs k) sup).2).length : Nat) : Int) = (((Al.selS b.Places mk rs k).length : Nat) : Int))) || (!decide (((((Al.day b.Places rs sup).2).length : Nat) : Int) = ((rs.length : Nat) : Int)))) rfl (fun hc7 => ?_) (fun hc7 => ?_)
      · simp [-List.getD_eq_getElem?_getD] at hc7
        omega
      · simp [-List.getD_eq_getElem?_getD] at hc7
        refine AW.skip ?_
        refine Post.then_n ?_
        refine AW.seq ?_
        refine AW.seq ?_
        refine AW.region ?_
        refine RW.q (v := .int .i64 0) rfl (q_assign rfl) ?_
        refine RW.nil ?_
        refine Post.then_n ?_
        refine AW.block ?_
        refine AW.loop (fun s J m => ∃ (i : Nat), s = [(9, .bool true), (11, sv), (12, tv), (17, gv1), (19, gv2), (21, .int .i64 (i : Int))] ∧ J = St ⟨w, Φ, []⟩ Φ5 [.blk b1 31 [.string b.Name, v1, .int .i64 b.Cells, v3, v4, v5, v6, v7, v8, v9, .int .i64 b.Err]] ∧ m = (Al.selS b.Places mk rs k).length - i ∧ (i ≤ (Al.selS b.Places mk rs k).length)) (s0 := _) (J1 := _) (m0 := _) ⟨0, rfl, rfl, rfl, (by omega)⟩ ⟨rfl, rfl, rfl, rfl, rfl, rfl, trivial⟩ (fun _ h => h) ?_
        rintro _ _ _ _ ⟨i, rfl, rfl, rfl, hi⟩
        refine AW.seq ?_
        refine AW.seq ?_
        refine AW.region ?_
        refine RW.q (v := .int .i64 (i : Int)) rfl (q_move rfl) ?_
        refine RW.q (v := sv) rfl (q_move rfl) ?_
        refine RW.q (v := .int .i64 (((Al.selS b.Places mk rs k).length : Nat) : Int)) rfl (q_len_sl rfl hSr.sl Try.underlying32) ?_
        refine RW.q (v := .bool (decide ((i : Int) < (((Al.selS b.Places mk rs k).length : Nat) : Int)))) rfl (q_lss rfl rfl) ?_
        refine RW.nil ?_
        refine Post.then_n ?_
        refine AW.cond (b := decide ((i : Int) < (((Al.selS b.Places mk rs k).length : Nat) : Int))) rfl (fun hc8 => ?_) (fun hc8 => ?_)
        · simp [-List.getD_eq_getElem?_getD] at hc8
          refine AW.skip ?_
          refine Post.then_n ?_
          refine AW.seq ?_
          refine AW.block ?_
          refine AW.seq ?_
          have htr := Al.selT_rng (ps := b.Places) (mk := mk) (rs := rs) (k := k) _ (Al.getD_mem (show i < (Al.selT b.Places mk rs k).length by omega))
          have hge := hBo.got i (by omega)
          refine AW.draw (J0 := St ⟨w, Φ, []⟩ Φ5 [.blk b1 31 [.string b.Name, v1, .int .i64 b.Cells, v3, v4, v5, v6, v7, v8, v9, .int .i64 b.Err]]) [.q, .q, .q, .q, .q, .q, .q, .q, .q, .q, .q, .q] [0, 1, 2, 3, 4, 5, 6, 7, 8, 9, 10, 11] hmix (by kernel_rfl) ?_
          refine DW.q (v := gv2) (fun _ h => h) rfl (q_move rfl) ?_
          refine DW.q (v := .int .i64 (i : Int)) (fun _ h => h) rfl (q_move rfl) ?_
          refine DW.q (v := .pointer (some (Value.at gv2 (i * 2)))) (fun _ h => h) rfl (q_indexAddr rfl rfl hgr2.sl Try.underlying33 sz47 (by omega) (by omega) rfl) ?_
          refine DW.q (v := .agg #[.int .i64 ((((Al.day b.Places (Al.selS b.Places mk rs k) sup).2).getD i default).Right), .int .i64 ((((Al.day b.Places (Al.selS b.Places mk rs k) sup).2).getD i default).Litres)]) (fun _ h => h) rfl (q_loadAgg rfl Try.underlying47 rfl sz47 rfl (Cells.repE hgr2 (by omega) rfl)) ?_
          refine DW.q (v := gv1) (fun _ h => h) rfl (q_move rfl) ?_
          refine DW.q (v := tv) (fun _ h => h) rfl (q_move rfl) ?_
          refine DW.q (v := .int .i64 (i : Int)) (fun _ h => h) rfl (q_move rfl) ?_
          refine DW.q (v := .pointer (some (Value.at tv (i * 1)))) (fun _ h => h) rfl (q_indexAddr rfl rfl hTr.sl Try.underlying29 sz3 (by omega) (by omega) rfl) ?_
          refine DW.q (v := .int .i64 ((Al.selT b.Places mk rs k).getD i 0)) (fun _ h => h) rfl (q_load rfl Try.underlying3 rfl (Cell.repInt hTr (by omega))) ?_
          refine DW.q (v := .pointer (some (Value.at gv1 ((((Al.selT b.Places mk rs k).getD i 0).toNat) * 2)))) (fun _ h => h) rfl (q_indexAddr rfl rfl hgr1.sl Try.underlying33 sz47 (by omega) (by omega) rfl) ?_
          refine DW.q (v := .agg #[.int .i64 ((((Al.day b.Places rs sup).2).getD (((Al.selT b.Places mk rs k).getD i 0).toNat) default).Right), .int .i64 ((((Al.day b.Places rs sup).2).getD (((Al.selT b.Places mk rs k).getD i 0).toNat) default).Litres)]) (fun _ h => h) rfl (q_loadAgg rfl Try.underlying47 rfl sz47 rfl (Cells.repE hgr1 (by omega) rfl)) ?_
          refine DW.q (v := .bool (!(decide ((((Al.day b.Places (Al.selS b.Places mk rs k) sup).2).getD i default).Right = (((Al.day b.Places rs sup).2).getD (((Al.selT b.Places mk rs k).getD i 0).toNat) default).Right) && decide ((((Al.day b.Places (Al.selS b.Places mk rs k) sup).2).getD i default).Litres = (((Al.day b.Places rs sup).2).getD (((Al.selT b.Places mk rs k).getD i 0).toNat) default).Litres)))) (fun _ h => h) rfl (q_neqS rfl rfl (eqS47 _ _ _ _) eqG47) ?_
          refine DW.nil ?_
          refine Post.then_n ?_
          refine AW.cond (b := !(decide ((((Al.day b.Places (Al.selS b.Places mk rs k) sup).2).getD i default).Right = (((Al.day b.Places rs sup).2).getD (((Al.selT b.Places mk rs k).getD i 0).toNat) default).Right) && decide ((((Al.day b.Places (Al.selS b.Places mk rs k) sup).2).getD i default).Litres = (((Al.day b.Places rs sup).2).getD (((Al.selT b.Places mk rs k).getD i 0).toNat) default).Litres))) rfl (fun hc9 => ?_) (fun hc9 => ?_)
          · simp [-List.getD_eq_getElem?_getD] at hc9
            exfalso
            rw [hge] at hc9
            rcases hc9 with h | h <;> exact h rfl
          · simp [-List.getD_eq_getElem?_getD] at hc9
            refine AW.skip ?_
            refine Post.blk_n (Post.then_n ?_)
            refine AW.region ?_
            refine RW.q (v := .int .i64 (i : Int)) rfl (q_move rfl) ?_
            refine RW.q (v := .int .i64 ((i + 1 : Nat) : Int)) rfl (q_add rfl rfl (by omega) (by unfold I64; omega)) ?_
            refine RW.q (v := .int .i64 ((i + 1 : Nat) : Int)) rfl (q_assign rfl) ?_
            refine RW.nil ?_
            exact Post.back (s' := _) (J' := _) (m' := _) (by omega) ⟨i + 1, rfl, rfl, rfl, (by omega)⟩ ⟨rfl, rfl, rfl, rfl, rfl, rfl, trivial⟩ (fun _ h => h)
        · simp [-List.getD_eq_getElem?_getD] at hc8
          refine AW.exit ?_
          refine Post.then_x (Post.then_x (Post.blk_hit (Post.then_n ?_)))
          refine AW.seq ?_
          refine AW.region ?_
          refine RW.q (v := .bool true) rfl (q_move rfl) ?_
          refine RW.q (v := .bool true) rfl (q_assign rfl) ?_
          refine RW.nil ?_
          refine Post.then_n ?_
          refine AW.ret ?_
          exact fin_val (v' := .bool true) rfl rfl rfl (rfl)

end Go.Proofs.Ytpeojogjeopfaaa
