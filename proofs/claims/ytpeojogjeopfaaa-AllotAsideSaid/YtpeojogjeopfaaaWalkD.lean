/- Walks (part WalkD), printed by walk2.py. Conditions: those of each theorem. -/
import Derived.Test.YtpeojogjeopfaaaWalkC
namespace Go.Proofs.Ytpeojogjeopfaaa
open Go Go.K Go.RowKit

set_option maxRecDepth 8000 in
set_option maxHeartbeats 1000000 in
theorem Day_c {B : Bs} {Φ : Hp} {C : List Chunk} (hBE : B.E = []) {b : Bt.Basin} {cs : List Value} (hB : RepV Φ b cs) {rs : List Bt.Right} {v2s : Value} (h2 : RepSl Φ rs v2s) {sup : List Int} {v1s : Value} (h1 : RepSl Φ sup v1s) (w : World) (hW : (St B Φ C).p w) :
    Calls Try.prog 11 #[.agg cs.toArray, v2s, v1s] w fun e w' => ∃ x : {y : Value × Value × Hp // RepSl y.2.2 (Al.day b.Places rs sup).2 y.1 ∧ IsSl y.2.1 b.Places.length ∧ Hp.le Φ y.2.2}, e = .returned (.tuple #[x.1.1, x.1.2.1]) ∧ (St B x.1.2.2 (.row x.1.2.1 3 1 b.Places.length ((Al.day b.Places rs sup).1.map (Value.int .i64)) :: C)).p w' := by
  obtain ⟨v1, v3, v4, v5, v6, v7, v8, v9, hcs, hBw, r1, r3, r4, r5, r6, r7, r8, r9⟩ := (show Rep.rep Φ b cs from hB)
  subst hcs
  have hpm : b.Places.length * 152 ≤ 140737488355328 := r3.max
  refine calls_of_AW (args := [.agg #[.string b.Name, v1, .int .i64 b.Cells, v3, v4, v5, v6, v7, v8, v9, .int .i64 b.Err], v2s, v1s]) Try.func11 rfl (Nat.le_of_ble_eq_true rfl) (St B Φ C) hW ?_
  show AW Try.prog 84 [] _ _ _ [(0, .agg #[.string b.Name, v1, .int .i64 b.Cells, v3, v4, v5, v6, v7, v8, v9, .int .i64 b.Err]), (1, v2s), (2, v1s)] _
  have hsk : ∀ k, Al.Ok64 (sup.getD k 0) := fun k => by have := h1.i64D k; unfold I64 at this; unfold Al.Ok64 Al.minI Al.maxI; omega
  have hm1 : sup.length * 8 ≤ 140737488355328 := h1.max
  have hm2 : rs.length * 72 ≤ 140737488355328 := h2.max
  have hwr := h2.wfE
  refine AW.seq ?_
  refine AW.region ?_
  refine RW.eff (fun b1 : Nat => .pointer (some (⟨b1, 0, none⟩))) (fun b1 => St B Φ ((.blk b1 31 [.string b.Name, v1, .int .i64 b.Cells, v3, v4, v5, v6, v7, v8, v9, .int .i64 b.Err]) :: C)) rfl (e_boxA (cs := [.string b.Name, v1, .int .i64 b.Cells, v3, v4, v5, v6, v7, v8, v9, .int .i64 b.Err]) rfl) ?_
  intro b1
  refine RW.q (v := (.slice none 0 0)) rfl (q_assign rfl) ?_
  refine RW.q (v := (.slice none 0 0)) rfl (q_assign rfl) ?_
  refine RW.nil ?_
  refine Post.then_n ?_
  refine AW.seq ?_
  refine AW.region ?_
  refine RW.q (v := .agg #[.string b.Name, v1, .int .i64 b.Cells, v3, v4, v5, v6, v7, v8, v9, .int .i64 b.Err]) rfl (q_loadAgg rfl Try.underlying31 rfl sz31 rfl (Cells.blk 0 rfl)) ?_
  refine RW.q (v := v1s) rfl (q_move rfl) ?_
  refine RW.eff (fun x : {v : Value // IsSl v b.Places.length} => x.1) (fun x => St B Φ ((.row x.1 3 1 b.Places.length ((Al.beginL b.Places sup (min b.Places.length sup.length)).map (Value.int .i64))) :: (.blk b1 31 [.string b.Name, v1, .int .i64 b.Cells, v3, v4, v5, v6, v7, v8, v9, .int .i64 b.Err]) :: C)) rfl (e_call (args := #[.agg #[.string b.Name, v1, .int .i64 b.Cells, v3, v4, v5, v6, v7, v8, v9, .int .i64 b.Err], v1s]) own26 rfl rfl (fun w1 hw1 => begin_c hBE hB h1 w1 hw1)) ?_
  rintro ⟨bg1, hbg1⟩
  refine RW.q (v := bg1) rfl (q_assign rfl) ?_
  refine RW.nil ?_
  refine Post.then_n ?_
  refine AW.seq ?_
  refine AW.region ?_
  refine RW.q (v := v2s) rfl (q_move rfl) ?_
  refine RW.q (v := .int .i64 ((rs.length : Nat) : Int)) rfl (q_len_sl rfl h2.sl Try.underlying32) ?_
  refine RW.eff (fun b2 : Nat => (.slice (some ⟨b2, 0, none⟩) 0 rs.length)) (fun b2 => St B Φ ((.row (.slice (some ⟨b2, 0, none⟩) 0 rs.length) 47 2 0 (flat (([] : List Bt.Grant)))) :: (.row bg1 3 1 b.Places.length ((Al.beginL b.Places sup (min b.Places.length sup.length)).map (Value.int .i64))) :: (.blk b1 31 [.string b.Name, v1, .int .i64 b.Cells, v3, v4, v5, v6, v7, v8, v9, .int .i64 b.Err]) :: C)) rfl (e_makeSlice rfl rfl Try.underlying33 inf47 (by omega) (by omega) (by omega) rfl (by simp [flat])) ?_
  intro b2
  refine RW.q (v := (.slice (some ⟨b2, 0, none⟩) 0 rs.length)) rfl (q_assign rfl) ?_
  refine RW.nil ?_
  refine Post.then_n ?_
  refine AW.seq ?_
  refine AW.seq ?_
  refine AW.region ?_
  refine RW.q (v := v2s) rfl (q_move rfl) ?_
  refine RW.q (v := .int .i64 ((rs.length : Nat) : Int)) rfl (q_len_sl rfl h2.sl Try.underlying32) ?_
  refine RW.q (v := .int .i64 0) rfl (q_move rfl) ?_
  refine RW.nil ?_
  refine Post.then_n ?_
  refine AW.block ?_
  refine AW.loop (fun s J m => ∃ (k : Nat), ∃ (left : List Int), ∃ (gs : List Bt.Grant), ∃ (gv : Value), s = [(3, .pointer (some (⟨b1, 0, none⟩))), (8, bg1), (25, v2s), (26, .int .i64 ((rs.length : Nat) : Int)), (9, gv), (27, .int .i64 (k : Int))] ∧ J = St B Φ ((.row gv 47 2 gs.length (flat gs)) :: (.row bg1 3 1 b.Places.length (left.map (Value.int .i64))) :: (.blk b1 31 [.string b.Name, v1, .int .i64 b.Cells, v3, v4, v5, v6, v7, v8, v9, .int .i64 b.Err]) :: C) ∧ m = rs.length - k ∧ (k ≤ rs.length) ∧ (Al.day b.Places (rs.take k) sup = (left, gs)) ∧ (IsSl gv gs.length) ∧ (∀ x ∈ gs, RepE.wf x)) (s0 := _) (J1 := _) (m0 := _) ⟨0, _, [], _, rfl, rfl, rfl, (by omega), rfl, isSl_mk, (fun x h => absurd h List.not_mem_nil)⟩ ⟨rfl, rfl, rfl, rfl, rfl, rfl, trivial⟩ (fun _ h => h) ?_
  rintro _ _ _ _ ⟨k, left, gs, gv, rfl, rfl, rfl, hk, hD, hgv, hgw⟩
  have hLI : Al.LI b.Places.length left := Al.day_left hsk hD
  have hgl : gs.length = k := Al.day_glen hsk hk hD
  have hll := hLI.1
  refine AW.seq ?_
  refine AW.region ?_
  refine RW.q (v := .bool (decide ((k : Int) < ((rs.length : Nat) : Int)))) rfl (q_lss rfl rfl) ?_
  refine RW.nil ?_
  refine Post.then_n ?_
  refine AW.seq ?_
  refine AW.cond (b := decide ((k : Int) < ((rs.length : Nat) : Int))) rfl (fun hc1 => ?_) (fun hc1 => ?_)
  · simp [-List.getD_eq_getElem?_getD] at hc1
    refine AW.skip ?_
    refine Post.then_n ?_
    refine AW.seq ?_
    refine AW.block ?_
    refine AW.seq ?_
    have hwk := hwr _ (Al.getD_memR hc1)
    have hlr := Al.lit_rng (left := left) (l := (Al.reach b.Places (rs.getD k default).Place)) (rate := (rs.getD k default).Rate) (fun j => (hLI.2 j).1)
    have hrl := Al.reach_len b.Places (rs.getD k default).Place
    refine AW.region ?_
    refine RW.q (v := .pointer (some (Value.at v2s (k * 9)))) rfl (q_indexAddr rfl rfl h2.sl Try.underlying32 sz45 (by omega) (by omega) rfl) ?_
    refine RW.q (v := .agg #[.int .i64 ((rs.getD k default).Id), .int .i64 ((rs.getD k default).Owner), .int .i64 ((rs.getD k default).Date), .int .i64 ((rs.getD k default).Place), .int .i64 ((rs.getD k default).Rate), .int .i64 ((rs.getD k default).From), .int .i64 ((rs.getD k default).Until), .int .i64 ((rs.getD k default).Back), .int .i64 ((rs.getD k default).BackTo)]) rfl (q_loadAgg rfl Try.underlying45 rfl sz45 rfl (Cells.repE h2 (by omega) rfl)) ?_
    refine RW.eff (fun b3 : Nat => .pointer (some (⟨b3, 0, none⟩))) (fun b3 => St B Φ ((.blk b3 45 [.int .i64 0, .int .i64 0, .int .i64 0, .int .i64 0, .int .i64 0, .int .i64 0, .int .i64 0, .int .i64 0, .int .i64 0]) :: (.row gv 47 2 gs.length (flat gs)) :: (.row bg1 3 1 b.Places.length (left.map (Value.int .i64))) :: (.blk b1 31 [.string b.Name, v1, .int .i64 b.Cells, v3, v4, v5, v6, v7, v8, v9, .int .i64 b.Err]) :: C)) rfl (e_alloc zero45) ?_
    intro b3
    refine RW.effn (J' := St B Φ ((.blk b3 45 [.int .i64 ((rs.getD k default).Id), .int .i64 ((rs.getD k default).Owner), .int .i64 ((rs.getD k default).Date), .int .i64 ((rs.getD k default).Place), .int .i64 ((rs.getD k default).Rate), .int .i64 ((rs.getD k default).From), .int .i64 ((rs.getD k default).Until), .int .i64 ((rs.getD k default).Back), .int .i64 ((rs.getD k default).BackTo)]) :: (.row gv 47 2 gs.length (flat gs)) :: (.row bg1 3 1 b.Places.length (left.map (Value.int .i64))) :: (.blk b1 31 [.string b.Name, v1, .int .i64 b.Cells, v3, v4, v5, v6, v7, v8, v9, .int .i64 b.Err]) :: C)) (e_store (v := .agg #[.int .i64 ((rs.getD k default).Id), .int .i64 ((rs.getD k default).Owner), .int .i64 ((rs.getD k default).Date), .int .i64 ((rs.getD k default).Place), .int .i64 ((rs.getD k default).Rate), .int .i64 ((rs.getD k default).From), .int .i64 ((rs.getD k default).Until), .int .i64 ((rs.getD k default).Back), .int .i64 ((rs.getD k default).BackTo)]) 0 rfl rfl rfl sz45 rfl rfl rfl rfl rfl) ?_
    refine RW.nil ?_
    refine Post.then_n ?_
    refine AW.seq ?_
    refine AW.region ?_
    refine RW.q (v := .agg #[.string b.Name, v1, .int .i64 b.Cells, v3, v4, v5, v6, v7, v8, v9, .int .i64 b.Err]) rfl (q_loadAgg rfl Try.underlying31 rfl sz31 rfl (Cells.blk 3 rfl)) ?_
    refine RW.q (v := .pointer (some (⟨b3, 3, none⟩))) rfl (q_fieldAddr rfl Try.underlying45 rfl sz3 rfl) ?_
    refine RW.q (v := .int .i64 ((rs.getD k default).Place)) rfl (q_load rfl Try.underlying3 rfl (Cell.blk 0 rfl rfl)) ?_
    refine RW.eff (fun x : {y : Value × Hp // (fun r Ψ => RepSl Ψ (Al.reach b.Places ((rs.getD k default).Place)) r) y.1 y.2 ∧ Hp.le Φ y.2} => x.1.1) (fun x => St B x.1.2 ((.blk b3 45 [.int .i64 ((rs.getD k default).Id), .int .i64 ((rs.getD k default).Owner), .int .i64 ((rs.getD k default).Date), .int .i64 ((rs.getD k default).Place), .int .i64 ((rs.getD k default).Rate), .int .i64 ((rs.getD k default).From), .int .i64 ((rs.getD k default).Until), .int .i64 ((rs.getD k default).Back), .int .i64 ((rs.getD k default).BackTo)]) :: (.row gv 47 2 gs.length (flat gs)) :: (.row bg1 3 1 b.Places.length (left.map (Value.int .i64))) :: (.blk b1 31 [.string b.Name, v1, .int .i64 b.Cells, v3, v4, v5, v6, v7, v8, v9, .int .i64 b.Err]) :: C)) rfl (e_callS (T := fun r Ψ => RepSl Ψ (Al.reach b.Places ((rs.getD k default).Place)) r) (args := #[.agg #[.string b.Name, v1, .int .i64 b.Cells, v3, v4, v5, v6, v7, v8, v9, .int .i64 b.Err], .int .i64 ((rs.getD k default).Place)]) own14 rfl rfl (fun w1 hw1 => (Reach_c w1 (Go.K.hp w1) (Hp.le_refl _) (hB.mono hw1.phi)).mono fun _ _ => retS_up (fun _ _ _ hl h => h.mono hl))) ?_
    rintro ⟨⟨lv1, Φ1⟩, hlv1, hlΦ1⟩
    replace hlv1 : RepSl Φ1 (Al.reach b.Places ((rs.getD k default).Place)) lv1 := hlv1
    replace hlΦ1 : Hp.le Φ Φ1 := hlΦ1
    replace hB := hB.mono hlΦ1
    replace r3 := r3.mono hlΦ1
    replace h1 := h1.mono hlΦ1
    replace h2 := h2.mono hlΦ1
    refine RW.q (v := lv1) rfl (q_assign rfl) ?_
    refine RW.nil ?_
    refine Post.then_n ?_
    refine AW.seq ?_
    refine AW.region ?_
    refine RW.q (v := .int .i64 0) rfl (q_assign rfl) ?_
    refine RW.nil ?_
    refine Post.then_n ?_
    refine AW.seq ?_
    refine AW.seq ?_
    refine AW.region ?_
    refine RW.q (v := lv1) rfl (q_move rfl) ?_
    refine RW.q (v := .int .i64 (((Al.reach b.Places ((rs.getD k default).Place)).length : Nat) : Int)) rfl (q_len_sl rfl hlv1.sl Try.underlying29) ?_
    refine RW.q (v := .bool (decide ((0 : Int) < (((Al.reach b.Places ((rs.getD k default).Place)).length : Nat) : Int)))) rfl (q_gtr rfl rfl) ?_
    refine RW.nil ?_
    refine Post.then_n ?_
    refine AW.cond (b := decide ((0 : Int) < (((Al.reach b.Places ((rs.getD k default).Place)).length : Nat) : Int))) rfl (fun hc2 => ?_) (fun hc2 => ?_)
    · simp [-List.getD_eq_getElem?_getD] at hc2
      refine AW.seq ?_
      refine AW.region ?_
      refine RW.q (v := lv1) rfl (q_move rfl) ?_
      refine RW.q (v := .int .i64 (((Al.reach b.Places ((rs.getD k default).Place)).length : Nat) : Int)) rfl (q_len_sl rfl hlv1.sl Try.underlying29) ?_
      refine RW.eff (fun b4 : Nat => (.slice (some ⟨b4, 0, none⟩) 0 ((Al.reach b.Places ((rs.getD k default).Place)).length))) (fun b4 => St B Φ1 ((.row (.slice (some ⟨b4, 0, none⟩) 0 ((Al.reach b.Places ((rs.getD k default).Place)).length)) 3 1 0 (([] : List Int).map (Value.int .i64))) :: (.blk b3 45 [.int .i64 ((rs.getD k default).Id), .int .i64 ((rs.getD k default).Owner), .int .i64 ((rs.getD k default).Date), .int .i64 ((rs.getD k default).Place), .int .i64 ((rs.getD k default).Rate), .int .i64 ((rs.getD k default).From), .int .i64 ((rs.getD k default).Until), .int .i64 ((rs.getD k default).Back), .int .i64 ((rs.getD k default).BackTo)]) :: (.row gv 47 2 gs.length (flat gs)) :: (.row bg1 3 1 b.Places.length (left.map (Value.int .i64))) :: (.blk b1 31 [.string b.Name, v1, .int .i64 b.Cells, v3, v4, v5, v6, v7, v8, v9, .int .i64 b.Err]) :: C)) rfl (e_makeSlice rfl rfl Try.underlying29 inf3 (by omega) (by omega) (by omega) rfl (made_int (n := 0) (by omega))) ?_
      intro b4
      refine RW.q (v := (.slice (some ⟨b4, 0, none⟩) 0 ((Al.reach b.Places ((rs.getD k default).Place)).length))) rfl (q_assign rfl) ?_
      refine RW.nil ?_
      refine Post.then_n ?_
      refine AW.seq ?_
      refine AW.seq ?_
      refine AW.region ?_
      refine RW.q (v := lv1) rfl (q_move rfl) ?_
      refine RW.q (v := .int .i64 (((Al.reach b.Places ((rs.getD k default).Place)).length : Nat) : Int)) rfl (q_len_sl rfl hlv1.sl Try.underlying29) ?_
      refine RW.q (v := .int .i64 0) rfl (q_move rfl) ?_
      refine RW.nil ?_
      refine Post.then_n ?_
      refine AW.block ?_
      refine AW.loop (fun s J m => ∃ (i : Nat), ∃ (tv : Value), s = [(3, .pointer (some (⟨b1, 0, none⟩))), (8, bg1), (9, gv), (11, .pointer (some (⟨b3, 0, none⟩))), (12, lv1), (13, .int .i64 0), (25, v2s), (26, .int .i64 ((rs.length : Nat) : Int)), (27, .int .i64 (k : Int)), (41, lv1), (42, .int .i64 (((Al.reach b.Places ((rs.getD k default).Place)).length : Nat) : Int)), (14, tv), (43, .int .i64 (i : Int))] ∧ J = St B Φ1 ((.row tv 3 1 ((((Al.reach b.Places (rs.getD k default).Place).take i).map fun q => left.getD q.toNat 0).length) ((((Al.reach b.Places (rs.getD k default).Place).take i).map fun q => left.getD q.toNat 0).map (Value.int .i64))) :: (.blk b3 45 [.int .i64 ((rs.getD k default).Id), .int .i64 ((rs.getD k default).Owner), .int .i64 ((rs.getD k default).Date), .int .i64 ((rs.getD k default).Place), .int .i64 ((rs.getD k default).Rate), .int .i64 ((rs.getD k default).From), .int .i64 ((rs.getD k default).Until), .int .i64 ((rs.getD k default).Back), .int .i64 ((rs.getD k default).BackTo)]) :: (.row gv 47 2 gs.length (flat gs)) :: (.row bg1 3 1 b.Places.length (left.map (Value.int .i64))) :: (.blk b1 31 [.string b.Name, v1, .int .i64 b.Cells, v3, v4, v5, v6, v7, v8, v9, .int .i64 b.Err]) :: C) ∧ m = (Al.reach b.Places (rs.getD k default).Place).length - i ∧ (i ≤ (Al.reach b.Places (rs.getD k default).Place).length) ∧ (IsSl tv (((Al.reach b.Places (rs.getD k default).Place).take i).map fun q => left.getD q.toNat 0).length)) (s0 := _) (J1 := _) (m0 := _) ⟨0, _, rfl, rfl, rfl, (by omega), (by simp; exact isSl_mk)⟩ ⟨rfl, rfl, rfl, rfl, rfl, rfl, rfl, rfl, rfl, rfl, rfl, rfl, rfl, trivial⟩ (fun _ h => h) ?_
      rintro _ _ _ _ ⟨i, tv, rfl, rfl, rfl, hi, htv⟩
      refine AW.seq ?_
      refine AW.region ?_
      refine RW.q (v := .bool (decide ((i : Int) < (((Al.reach b.Places ((rs.getD k default).Place)).length : Nat) : Int)))) rfl (q_lss rfl rfl) ?_
      refine RW.nil ?_
      refine Post.then_n ?_
      refine AW.seq ?_
      refine AW.cond (b := decide ((i : Int) < (((Al.reach b.Places ((rs.getD k default).Place)).length : Nat) : Int))) rfl (fun hc3 => ?_) (fun hc3 => ?_)
      · simp [-List.getD_eq_getElem?_getD] at hc3
        refine AW.skip ?_
        refine Post.then_n ?_
        refine AW.seq ?_
        refine AW.block ?_
        refine AW.seq ?_
        refine AW.region ?_
        refine RW.q (v := .pointer (some (Value.at lv1 (i * 1)))) rfl (q_indexAddr rfl rfl hlv1.sl Try.underlying29 sz3 (by omega) (by omega) rfl) ?_
        refine RW.q (v := .int .i64 ((Al.reach b.Places ((rs.getD k default).Place)).getD i 0)) rfl (q_load rfl Try.underlying3 rfl (Cell.repInt hlv1 (by omega))) ?_
        refine RW.q (v := .int .i64 ((Al.reach b.Places ((rs.getD k default).Place)).getD i 0)) rfl (q_assign rfl) ?_
        refine RW.nil ?_
        refine Post.then_n ?_
        have htl : (((Al.reach b.Places (rs.getD k default).Place).take i).map fun q => left.getD q.toNat 0).length = i := by rw [List.length_map, List.length_take]; omega
        have hrq := (Al.reach_ri b.Places (rs.getD k default).Place).2 _ (Al.getD_mem hc3)
        have hts : (((Al.reach b.Places (rs.getD k default).Place).take (i + 1)).map fun q => left.getD q.toNat 0) = (((Al.reach b.Places (rs.getD k default).Place).take i).map fun q => left.getD q.toNat 0) ++ [left.getD ((Al.reach b.Places (rs.getD k default).Place).getD i 0).toNat 0] := Al.map_take hc3
        refine AW.region ?_
        refine RW.q (v := tv) rfl (q_move rfl) ?_
        refine RW.q (v := bg1) rfl (q_move rfl) ?_
        refine RW.q (v := .int .i64 ((Al.reach b.Places ((rs.getD k default).Place)).getD i 0)) rfl (q_move rfl) ?_
        refine RW.q (v := .pointer (some (Value.at bg1 ((((Al.reach b.Places ((rs.getD k default).Place)).getD i 0).toNat) * 1)))) rfl (q_indexAddr rfl rfl hbg1 Try.underlying29 sz3 (by omega) (by omega) rfl) ?_
        refine RW.q (v := .int .i64 ((left).getD (((Al.reach b.Places ((rs.getD k default).Place)).getD i 0).toNat) 0)) rfl (q_load rfl Try.underlying3 rfl (Cell.rowInt 3 rfl (by omega))) ?_
        refine RW.eff (fun b5 : Nat => (.slice (some ⟨b5, 0, none⟩) 1 1)) (fun b5 => St B Φ1 ((.row (.slice (some ⟨b5, 0, none⟩) 1 1) 3 1 1 ([.int .i64 ((left).getD (((Al.reach b.Places ((rs.getD k default).Place)).getD i 0).toNat) 0)])) :: (.row tv 3 1 ((((Al.reach b.Places (rs.getD k default).Place).take i).map fun q => left.getD q.toNat 0).length) ((((Al.reach b.Places (rs.getD k default).Place).take i).map fun q => left.getD q.toNat 0).map (Value.int .i64))) :: (.blk b3 45 [.int .i64 ((rs.getD k default).Id), .int .i64 ((rs.getD k default).Owner), .int .i64 ((rs.getD k default).Date), .int .i64 ((rs.getD k default).Place), .int .i64 ((rs.getD k default).Rate), .int .i64 ((rs.getD k default).From), .int .i64 ((rs.getD k default).Until), .int .i64 ((rs.getD k default).Back), .int .i64 ((rs.getD k default).BackTo)]) :: (.row gv 47 2 gs.length (flat gs)) :: (.row bg1 3 1 b.Places.length (left.map (Value.int .i64))) :: (.blk b1 31 [.string b.Name, v1, .int .i64 b.Cells, v3, v4, v5, v6, v7, v8, v9, .int .i64 b.Err]) :: C)) rfl (e_buildSlice (vals := [(0, .int .i64 ((left).getD (((Al.reach b.Places ((rs.getD k default).Place)).getD i 0).toNat) 0))]) (cells := [.int .i64 ((left).getD (((Al.reach b.Places ((rs.getD k default).Place)).getD i 0).toNat) 0)]) Try.underlying29 inf3 rfl rfl rfl (by kernel_rfl) rfl) ?_
        intro b5
        refine RW.eff (fun xv : {vq : Value // IsSl vq ((((Al.reach b.Places (rs.getD k default).Place).take i).map fun q => left.getD q.toNat 0).length + 1)} => xv.1) (fun xv => St B Φ1 ((.row (.slice (some ⟨b5, 0, none⟩) 1 1) 3 1 1 ([.int .i64 ((left).getD (((Al.reach b.Places ((rs.getD k default).Place)).getD i 0).toNat) 0)])) :: (.row xv.1 3 1 (((((Al.reach b.Places (rs.getD k default).Place).take i).map fun q => left.getD q.toNat 0) ++ [(left).getD (((Al.reach b.Places ((rs.getD k default).Place)).getD i 0).toNat) 0]).length) (((((Al.reach b.Places (rs.getD k default).Place).take i).map fun q => left.getD q.toNat 0) ++ [(left).getD (((Al.reach b.Places ((rs.getD k default).Place)).getD i 0).toNat) 0]).map (Value.int .i64))) :: (.blk b3 45 [.int .i64 ((rs.getD k default).Id), .int .i64 ((rs.getD k default).Owner), .int .i64 ((rs.getD k default).Date), .int .i64 ((rs.getD k default).Place), .int .i64 ((rs.getD k default).Rate), .int .i64 ((rs.getD k default).From), .int .i64 ((rs.getD k default).Until), .int .i64 ((rs.getD k default).Back), .int .i64 ((rs.getD k default).BackTo)]) :: (.row gv 47 2 gs.length (flat gs)) :: (.row bg1 3 1 b.Places.length (left.map (Value.int .i64))) :: (.blk b1 31 [.string b.Name, v1, .int .i64 b.Cells, v3, v4, v5, v6, v7, v8, v9, .int .i64 b.Err]) :: C)) rfl (e_append 1 rfl rfl rfl Try.underlying29 inf3 rfl rfl rfl (Cells.row0 0 rfl) rfl (by omega) (by omega) (fun _ => by simp)) ?_
        rintro ⟨va1, hva1⟩
        refine RW.wk (J' := St B Φ1 ((.row va1 3 1 (((((Al.reach b.Places (rs.getD k default).Place).take i).map fun q => left.getD q.toNat 0) ++ [(left).getD (((Al.reach b.Places ((rs.getD k default).Place)).getD i 0).toNat) 0]).length) (((((Al.reach b.Places (rs.getD k default).Place).take i).map fun q => left.getD q.toNat 0) ++ [(left).getD (((Al.reach b.Places ((rs.getD k default).Place)).getD i 0).toNat) 0]).map (Value.int .i64))) :: (.blk b3 45 [.int .i64 ((rs.getD k default).Id), .int .i64 ((rs.getD k default).Owner), .int .i64 ((rs.getD k default).Date), .int .i64 ((rs.getD k default).Place), .int .i64 ((rs.getD k default).Rate), .int .i64 ((rs.getD k default).From), .int .i64 ((rs.getD k default).Until), .int .i64 ((rs.getD k default).Back), .int .i64 ((rs.getD k default).BackTo)]) :: (.row gv 47 2 gs.length (flat gs)) :: (.row bg1 3 1 b.Places.length (left.map (Value.int .i64))) :: (.blk b1 31 [.string b.Name, v1, .int .i64 b.Cells, v3, v4, v5, v6, v7, v8, v9, .int .i64 b.Err]) :: C)) (fun _ h => StP.drop h (by exact .cons _ (.cons_cons _ (.cons_cons _ (.cons_cons _ (.cons_cons _ (.cons_cons _ ((List.Sublist.refl _))))))))) ?_
        refine RW.q (v := va1) rfl (q_assign rfl) ?_
        refine RW.nil ?_
        refine Post.blk_n (Post.then_n ?_)
        refine AW.region ?_
        refine RW.q (v := .int .i64 ((i + 1 : Nat) : Int)) rfl (q_add rfl rfl (by omega) (by unfold I64; omega)) ?_
        refine RW.q (v := .int .i64 ((i + 1 : Nat) : Int)) rfl (q_move rfl) ?_
        refine RW.nil ?_
        exact Post.back (s' := _) (J' := _) (m' := _) (by omega) ⟨i + 1, va1, rfl, rfl, rfl, (by omega), (by rw [hts]; simpa using hva1)⟩ ⟨rfl, rfl, rfl, rfl, rfl, rfl, rfl, rfl, rfl, rfl, rfl, rfl, rfl, trivial⟩ (fun _ h => by rw [hts]; simpa using h)
      · simp [-List.getD_eq_getElem?_getD] at hc3
        refine AW.exit ?_
        refine Post.then_x (Post.then_x (Post.blk_hit (Post.then_n ?_)))
        rw [show (Al.reach b.Places (rs.getD k default).Place).take i = (Al.reach b.Places (rs.getD k default).Place) from List.take_of_length_le (by omega)]
        have hTm : ((Al.reach b.Places (rs.getD k default).Place).map fun q => left.getD q.toNat 0).length * 8 ≤ maxSl := by rw [List.length_map]; simp only [maxSl]; omega
        have hTw : ∀ x ∈ ((Al.reach b.Places (rs.getD k default).Place).map fun q => left.getD q.toNat 0), I64 x := fun x hx => by
          obtain ⟨q, _, rfl⟩ := List.mem_map.1 hx
          have := hLI.2 q.toNat
          unfold Al.maxI at this; unfold I64; omega
        refine AW.region ?_
        refine RW.q (v := .pointer (some (⟨b3, 4, none⟩))) rfl (q_fieldAddr rfl Try.underlying45 rfl sz3 rfl) ?_
        refine RW.q (v := .int .i64 ((rs.getD k default).Rate)) rfl (q_load rfl Try.underlying3 rfl (Cell.blk 1 rfl rfl)) ?_
        refine RW.q (v := tv) rfl (q_move rfl) ?_
        refine RW.q (v := .int .i64 (((Al.reach b.Places (rs.getD k default).Place).map fun q => left.getD q.toNat 0).foldl min ((rs.getD k default).Rate))) rfl (q_call (args := #[.int .i64 ((rs.getD k default).Rate), tv]) own27 rfl rfl (fun w1 hw1 => least_c w1 (Go.K.hp w1) (Hp.le_refl _) (RowS.ints (xs := ((Al.reach b.Places (rs.getD k default).Place).map fun q => left.getD q.toNat 0)) (show RowS (Go.K.hp w1) tv 3 1 (((Al.reach b.Places (rs.getD k default).Place).map fun q => left.getD q.toNat 0).length) (((Al.reach b.Places (rs.getD k default).Place).map fun q => left.getD q.toNat 0).map (Value.int .i64)) from hw1.sat _ (List.mem_of_getElem? (i := 0) rfl)) hTm hTw))) ?_
        refine RW.q (v := .int .i64 (max 0 (((Al.reach b.Places (rs.getD k default).Place).map fun q => left.getD q.toNat 0).foldl min ((rs.getD k default).Rate)))) rfl (q_max rfl rfl) ?_
        refine RW.q (v := .int .i64 (max 0 (((Al.reach b.Places (rs.getD k default).Place).map fun q => left.getD q.toNat 0).foldl min ((rs.getD k default).Rate)))) rfl (q_assign rfl) ?_
        refine RW.nil ?_
        refine Post.then_n ?_
        refine AW.seq ?_
        refine AW.seq ?_
        refine AW.region ?_
        refine RW.q (v := lv1) rfl (q_move rfl) ?_
        refine RW.q (v := .int .i64 (((Al.reach b.Places ((rs.getD k default).Place)).length : Nat) : Int)) rfl (q_len_sl rfl hlv1.sl Try.underlying29) ?_
        refine RW.q (v := .int .i64 0) rfl (q_move rfl) ?_
        refine RW.nil ?_
        refine Post.then_n ?_
        refine AW.block ?_
        refine AW.loop (fun s J m => ∃ (i : Nat), ∃ (n : Int), s = [(3, .pointer (some (⟨b1, 0, none⟩))), (8, bg1), (9, gv), (11, .pointer (some (⟨b3, 0, none⟩))), (12, lv1), (25, v2s), (26, .int .i64 ((rs.length : Nat) : Int)), (27, .int .i64 (k : Int)), (60, lv1), (61, .int .i64 (((Al.reach b.Places ((rs.getD k default).Place)).length : Nat) : Int)), (13, .int .i64 n), (62, .int .i64 (i : Int))] ∧ J = St B Φ1 ((.row tv 3 1 (((Al.reach b.Places (rs.getD k default).Place).map fun q => left.getD q.toNat 0).length) (((Al.reach b.Places (rs.getD k default).Place).map fun q => left.getD q.toNat 0).map (Value.int .i64))) :: (.blk b3 45 [.int .i64 ((rs.getD k default).Id), .int .i64 ((rs.getD k default).Owner), .int .i64 ((rs.getD k default).Date), .int .i64 ((rs.getD k default).Place), .int .i64 ((rs.getD k default).Rate), .int .i64 ((rs.getD k default).From), .int .i64 ((rs.getD k default).Until), .int .i64 ((rs.getD k default).Back), .int .i64 ((rs.getD k default).BackTo)]) :: (.row gv 47 2 gs.length (flat gs)) :: (.row bg1 3 1 b.Places.length ((Al.subL left ((Al.reach b.Places (rs.getD k default).Place).take i) n).map (Value.int .i64))) :: (.blk b1 31 [.string b.Name, v1, .int .i64 b.Cells, v3, v4, v5, v6, v7, v8, v9, .int .i64 b.Err]) :: C) ∧ m = (Al.reach b.Places (rs.getD k default).Place).length - i ∧ (i ≤ (Al.reach b.Places (rs.getD k default).Place).length) ∧ (n = Al.lit left (Al.reach b.Places (rs.getD k default).Place) (rs.getD k default).Rate)) (s0 := _) (J1 := _) (m0 := _) ⟨0, _, rfl, rfl, rfl, (by omega), (Al.lit_eq (fun j => (hLI.2 j).1) (by omega))⟩ ⟨rfl, rfl, rfl, rfl, rfl, rfl, rfl, rfl, rfl, rfl, rfl, rfl, trivial⟩ (fun _ h => h) ?_
        rintro _ _ _ _ ⟨i, n, rfl, rfl, rfl, hi, hn⟩
        refine AW.seq ?_
        refine AW.region ?_
        refine RW.q (v := .bool (decide ((i : Int) < (((Al.reach b.Places ((rs.getD k default).Place)).length : Nat) : Int)))) rfl (q_lss rfl rfl) ?_
        refine RW.nil ?_
        refine Post.then_n ?_
        refine AW.seq ?_
        refine AW.cond (b := decide ((i : Int) < (((Al.reach b.Places ((rs.getD k default).Place)).length : Nat) : Int))) rfl (fun hc4 => ?_) (fun hc4 => ?_)
        · simp [-List.getD_eq_getElem?_getD] at hc4
          refine AW.skip ?_
          refine Post.then_n ?_
          refine AW.seq ?_
          refine AW.block ?_
          refine AW.seq ?_
          refine AW.region ?_
          refine RW.q (v := .pointer (some (Value.at lv1 (i * 1)))) rfl (q_indexAddr rfl rfl hlv1.sl Try.underlying29 sz3 (by omega) (by omega) rfl) ?_
          refine RW.q (v := .int .i64 ((Al.reach b.Places ((rs.getD k default).Place)).getD i 0)) rfl (q_load rfl Try.underlying3 rfl (Cell.repInt hlv1 (by omega))) ?_
          refine RW.q (v := .int .i64 ((Al.reach b.Places ((rs.getD k default).Place)).getD i 0)) rfl (q_assign rfl) ?_
          refine RW.nil ?_
          refine Post.then_n ?_
          have hrq := (Al.reach_ri b.Places (rs.getD k default).Place).2 _ (Al.getD_mem (by assumption))
          have hsm := Al.sub_mid (rate := (rs.getD k default).Rate) hLI (Al.reach_ri b.Places (rs.getD k default).Place) (k := i) (by assumption)
          rw [← hn] at hsm
          have hsl := Al.subL_len (n := n) ((Al.reach b.Places (rs.getD k default).Place).take i) left
          have hl2 := hLI.2 ((Al.reach b.Places (rs.getD k default).Place).getD i 0).toNat
          unfold Al.maxI at hl2
          rw [← hn] at hlr
          refine AW.region ?_
          refine RW.q (v := bg1) rfl (q_move rfl) ?_
          refine RW.q (v := .int .i64 ((Al.reach b.Places ((rs.getD k default).Place)).getD i 0)) rfl (q_move rfl) ?_
          refine RW.q (v := .pointer (some (Value.at bg1 ((((Al.reach b.Places ((rs.getD k default).Place)).getD i 0).toNat) * 1)))) rfl (q_indexAddr rfl rfl hbg1 Try.underlying29 sz3 (by omega) (by omega) rfl) ?_
          refine RW.q (v := .int .i64 ((Al.subL left ((Al.reach b.Places (rs.getD k default).Place).take i) n).getD (((Al.reach b.Places ((rs.getD k default).Place)).getD i 0).toNat) 0)) rfl (q_load rfl Try.underlying3 rfl (Cell.rowInt 3 rfl (by omega))) ?_
          refine RW.q (v := .int .i64 n) rfl (q_move rfl) ?_
          refine RW.q (v := .int .i64 (((Al.subL left ((Al.reach b.Places (rs.getD k default).Place).take i) n).getD (((Al.reach b.Places ((rs.getD k default).Place)).getD i 0).toNat) 0) - n)) rfl (q_sub rfl rfl (by omega) (by unfold I64; omega)) ?_
          refine RW.q (v := .pointer (some (Value.at bg1 ((((Al.reach b.Places ((rs.getD k default).Place)).getD i 0).toNat) * 1)))) rfl (q_indexAddr rfl rfl hbg1 Try.underlying29 sz3 (by omega) (by omega) rfl) ?_
          refine RW.effn (J' := St B Φ1 ((.row tv 3 1 (((Al.reach b.Places (rs.getD k default).Place).map fun q => left.getD q.toNat 0).length) (((Al.reach b.Places (rs.getD k default).Place).map fun q => left.getD q.toNat 0).map (Value.int .i64))) :: (.blk b3 45 [.int .i64 ((rs.getD k default).Id), .int .i64 ((rs.getD k default).Owner), .int .i64 ((rs.getD k default).Date), .int .i64 ((rs.getD k default).Place), .int .i64 ((rs.getD k default).Rate), .int .i64 ((rs.getD k default).From), .int .i64 ((rs.getD k default).Until), .int .i64 ((rs.getD k default).Back), .int .i64 ((rs.getD k default).BackTo)]) :: (.row gv 47 2 gs.length (flat gs)) :: (.row bg1 3 1 b.Places.length (((Al.subL left ((Al.reach b.Places (rs.getD k default).Place).take i) n).set (((Al.reach b.Places ((rs.getD k default).Place)).getD i 0).toNat) (((Al.subL left ((Al.reach b.Places (rs.getD k default).Place).take i) n).getD (((Al.reach b.Places ((rs.getD k default).Place)).getD i 0).toNat) 0) - n)).map (Value.int .i64))) :: (.blk b1 31 [.string b.Name, v1, .int .i64 b.Cells, v3, v4, v5, v6, v7, v8, v9, .int .i64 b.Err]) :: C)) (e_storeRow (v := .int .i64 (((Al.subL left ((Al.reach b.Places (rs.getD k default).Place).take i) n).getD (((Al.reach b.Places ((rs.getD k default).Place)).getD i 0).toNat) 0) - n)) 3 rfl rfl rfl sz3 rfl rfl (by simp [-List.getD_eq_getElem?_getD]; omega) (splice_int (by omega)) rfl) ?_
          refine RW.nil ?_
          refine Post.blk_n (Post.then_n ?_)
          refine AW.region ?_
          refine RW.q (v := .int .i64 ((i + 1 : Nat) : Int)) rfl (q_add rfl rfl (by omega) (by unfold I64; omega)) ?_
          refine RW.q (v := .int .i64 ((i + 1 : Nat) : Int)) rfl (q_move rfl) ?_
          refine RW.nil ?_
          exact Post.back (s' := _) (J' := _) (m' := _) (by omega) ⟨i + 1, n, rfl, rfl, rfl, (by omega), hn⟩ ⟨rfl, rfl, rfl, rfl, rfl, rfl, rfl, rfl, rfl, rfl, rfl, rfl, trivial⟩ (fun _ h => by rw [Al.subL_step (by assumption)]; exact h)
        · simp [-List.getD_eq_getElem?_getD] at hc4
          refine AW.exit ?_
          refine Post.then_x (Post.then_x (Post.blk_hit (Post.then_n ?_)))
          refine AW.region ?_
          refine RW.q (v := gv) rfl (q_move rfl) ?_
          refine RW.q (v := .pointer (some (⟨b3, 0, none⟩))) rfl (q_fieldAddr rfl Try.underlying45 rfl sz3 rfl) ?_
          refine RW.q (v := .int .i64 ((rs.getD k default).Id)) rfl (q_load rfl Try.underlying3 rfl (Cell.blk 1 rfl rfl)) ?_
          refine RW.q (v := .int .i64 n) rfl (q_move rfl) ?_
          refine RW.q (v := .agg #[.int .i64 ((rs.getD k default).Id), .int .i64 n]) rfl (q_build (vals := [(0, .int .i64 ((rs.getD k default).Id)), (1, .int .i64 n)]) zero47 Try.underlying47 places47 rfl rfl) ?_
          refine RW.eff (fun b6 : Nat => (.slice (some ⟨b6, 0, none⟩) 1 1)) (fun b6 => St B Φ1 ((.row (.slice (some ⟨b6, 0, none⟩) 1 1) 47 2 1 ([.int .i64 ((rs.getD k default).Id), .int .i64 n])) :: (.row tv 3 1 (((Al.reach b.Places (rs.getD k default).Place).map fun q => left.getD q.toNat 0).length) (((Al.reach b.Places (rs.getD k default).Place).map fun q => left.getD q.toNat 0).map (Value.int .i64))) :: (.blk b3 45 [.int .i64 ((rs.getD k default).Id), .int .i64 ((rs.getD k default).Owner), .int .i64 ((rs.getD k default).Date), .int .i64 ((rs.getD k default).Place), .int .i64 ((rs.getD k default).Rate), .int .i64 ((rs.getD k default).From), .int .i64 ((rs.getD k default).Until), .int .i64 ((rs.getD k default).Back), .int .i64 ((rs.getD k default).BackTo)]) :: (.row gv 47 2 gs.length (flat gs)) :: (.row bg1 3 1 b.Places.length ((Al.subL left ((Al.reach b.Places (rs.getD k default).Place).take i) n).map (Value.int .i64))) :: (.blk b1 31 [.string b.Name, v1, .int .i64 b.Cells, v3, v4, v5, v6, v7, v8, v9, .int .i64 b.Err]) :: C)) rfl (e_buildSlice (vals := [(0, .agg #[.int .i64 ((rs.getD k default).Id), .int .i64 n])]) (cells := [.int .i64 ((rs.getD k default).Id), .int .i64 n]) Try.underlying33 inf47 rfl rfl rfl (by kernel_rfl) rfl) ?_
          intro b6
          refine RW.eff (fun xv : {vq : Value // IsSl vq (gs.length + 1)} => xv.1) (fun xv => St B Φ1 ((.row (.slice (some ⟨b6, 0, none⟩) 1 1) 47 2 1 ([.int .i64 ((rs.getD k default).Id), .int .i64 n])) :: (.row tv 3 1 (((Al.reach b.Places (rs.getD k default).Place).map fun q => left.getD q.toNat 0).length) (((Al.reach b.Places (rs.getD k default).Place).map fun q => left.getD q.toNat 0).map (Value.int .i64))) :: (.blk b3 45 [.int .i64 ((rs.getD k default).Id), .int .i64 ((rs.getD k default).Owner), .int .i64 ((rs.getD k default).Date), .int .i64 ((rs.getD k default).Place), .int .i64 ((rs.getD k default).Rate), .int .i64 ((rs.getD k default).From), .int .i64 ((rs.getD k default).Until), .int .i64 ((rs.getD k default).Back), .int .i64 ((rs.getD k default).BackTo)]) :: (.row xv.1 47 2 ((gs ++ [(⟨(rs.getD k default).Id, n⟩ : Bt.Grant)]).length) (flat (gs ++ [(⟨(rs.getD k default).Id, n⟩ : Bt.Grant)]))) :: (.row bg1 3 1 b.Places.length ((Al.subL left ((Al.reach b.Places (rs.getD k default).Place).take i) n).map (Value.int .i64))) :: (.blk b1 31 [.string b.Name, v1, .int .i64 b.Cells, v3, v4, v5, v6, v7, v8, v9, .int .i64 b.Err]) :: C)) rfl (e_append 3 rfl rfl rfl Try.underlying33 inf47 rfl rfl rfl (Cells.row0 0 rfl) rfl (by omega) (by omega) (fun _ => by simp [flat] <;> rfl)) ?_
          rintro ⟨va2, hva2⟩
          refine RW.wk (J' := St B Φ1 ((.row tv 3 1 (((Al.reach b.Places (rs.getD k default).Place).map fun q => left.getD q.toNat 0).length) (((Al.reach b.Places (rs.getD k default).Place).map fun q => left.getD q.toNat 0).map (Value.int .i64))) :: (.blk b3 45 [.int .i64 ((rs.getD k default).Id), .int .i64 ((rs.getD k default).Owner), .int .i64 ((rs.getD k default).Date), .int .i64 ((rs.getD k default).Place), .int .i64 ((rs.getD k default).Rate), .int .i64 ((rs.getD k default).From), .int .i64 ((rs.getD k default).Until), .int .i64 ((rs.getD k default).Back), .int .i64 ((rs.getD k default).BackTo)]) :: (.row va2 47 2 ((gs ++ [(⟨(rs.getD k default).Id, n⟩ : Bt.Grant)]).length) (flat (gs ++ [(⟨(rs.getD k default).Id, n⟩ : Bt.Grant)]))) :: (.row bg1 3 1 b.Places.length ((Al.subL left ((Al.reach b.Places (rs.getD k default).Place).take i) n).map (Value.int .i64))) :: (.blk b1 31 [.string b.Name, v1, .int .i64 b.Cells, v3, v4, v5, v6, v7, v8, v9, .int .i64 b.Err]) :: C)) (fun _ h => StP.drop h (by exact .cons _ (.cons_cons _ (.cons_cons _ (.cons_cons _ (.cons_cons _ (.cons_cons _ ((List.Sublist.refl _))))))))) ?_
          refine RW.q (v := va2) rfl (q_assign rfl) ?_
          refine RW.nil ?_
          refine Post.blk_n (Post.then_n ?_)
          refine AW.region ?_
          refine RW.q (v := .int .i64 ((k + 1 : Nat) : Int)) rfl (q_add rfl rfl (by omega) (by unfold I64; omega)) ?_
          refine RW.q (v := .int .i64 ((k + 1 : Nat) : Int)) rfl (q_move rfl) ?_
          refine RW.nil ?_
          exact Post.back (s' := _) (J' := _) (m' := _) (by omega) ⟨k + 1, Al.subL left (Al.reach b.Places (rs.getD k default).Place) n, gs ++ [(⟨(rs.getD k default).Id, n⟩ : Bt.Grant)], va2, rfl, rfl, rfl, (by omega), (Al.day_step (by omega) hD hn), (by simpa using hva2), (mem_snoc (p := RepE.wf) hgw (show RepE.wf (⟨_, _⟩ : Bt.Grant) from ⟨hwk.1, by rw [hn]; exact Al.lit_i64 hlr (by have := hwk.2.2.2.2.1; unfold I64 at this; exact this)⟩))⟩ ⟨rfl, rfl, rfl, rfl, rfl, rfl, trivial⟩ (fun _ h => by rw [← show (Al.reach b.Places (rs.getD k default).Place).take i = (Al.reach b.Places (rs.getD k default).Place) from List.take_of_length_le (by omega)]; exact StP.know (by assumption) (StP.drop h (by exact .cons _ (.cons _ (.cons_cons _ (.cons_cons _ (.cons_cons _ ((List.Sublist.refl _)))))))))
    · simp [-List.getD_eq_getElem?_getD] at hc2
      refine AW.skip ?_
      refine Post.then_n ?_
      refine AW.seq ?_
      refine AW.seq ?_
      refine AW.region ?_
      refine RW.q (v := lv1) rfl (q_move rfl) ?_
      refine RW.q (v := .int .i64 (((Al.reach b.Places ((rs.getD k default).Place)).length : Nat) : Int)) rfl (q_len_sl rfl hlv1.sl Try.underlying29) ?_
      refine RW.q (v := .int .i64 0) rfl (q_move rfl) ?_
      refine RW.nil ?_
      refine Post.then_n ?_
      refine AW.block ?_
      refine AW.loop (fun s J m => ∃ (i : Nat), ∃ (n : Int), s = [(3, .pointer (some (⟨b1, 0, none⟩))), (8, bg1), (9, gv), (11, .pointer (some (⟨b3, 0, none⟩))), (12, lv1), (25, v2s), (26, .int .i64 ((rs.length : Nat) : Int)), (27, .int .i64 (k : Int)), (60, lv1), (61, .int .i64 (((Al.reach b.Places ((rs.getD k default).Place)).length : Nat) : Int)), (13, .int .i64 n), (62, .int .i64 (i : Int))] ∧ J = St B Φ1 ((.blk b3 45 [.int .i64 ((rs.getD k default).Id), .int .i64 ((rs.getD k default).Owner), .int .i64 ((rs.getD k default).Date), .int .i64 ((rs.getD k default).Place), .int .i64 ((rs.getD k default).Rate), .int .i64 ((rs.getD k default).From), .int .i64 ((rs.getD k default).Until), .int .i64 ((rs.getD k default).Back), .int .i64 ((rs.getD k default).BackTo)]) :: (.row gv 47 2 gs.length (flat gs)) :: (.row bg1 3 1 b.Places.length ((Al.subL left ((Al.reach b.Places (rs.getD k default).Place).take i) n).map (Value.int .i64))) :: (.blk b1 31 [.string b.Name, v1, .int .i64 b.Cells, v3, v4, v5, v6, v7, v8, v9, .int .i64 b.Err]) :: C) ∧ m = (Al.reach b.Places (rs.getD k default).Place).length - i ∧ (i ≤ (Al.reach b.Places (rs.getD k default).Place).length) ∧ (n = Al.lit left (Al.reach b.Places (rs.getD k default).Place) (rs.getD k default).Rate)) (s0 := _) (J1 := _) (m0 := _) ⟨0, _, rfl, rfl, rfl, (by omega), (Al.lit_zero (by rw [hc2]; rfl)).symm⟩ ⟨rfl, rfl, rfl, rfl, rfl, rfl, rfl, rfl, rfl, rfl, rfl, rfl, trivial⟩ (fun _ h => h) ?_
      rintro _ _ _ _ ⟨i, n, rfl, rfl, rfl, hi, hn⟩
      refine AW.seq ?_
      refine AW.region ?_
      refine RW.q (v := .bool (decide ((i : Int) < (((Al.reach b.Places ((rs.getD k default).Place)).length : Nat) : Int)))) rfl (q_lss rfl rfl) ?_
      refine RW.nil ?_
      refine Post.then_n ?_
      refine AW.seq ?_
      refine AW.cond (b := decide ((i : Int) < (((Al.reach b.Places ((rs.getD k default).Place)).length : Nat) : Int))) rfl (fun hc5 => ?_) (fun hc5 => ?_)
      · simp [-List.getD_eq_getElem?_getD] at hc5
        refine AW.skip ?_
        refine Post.then_n ?_
        refine AW.seq ?_
        refine AW.block ?_
        refine AW.seq ?_
        refine AW.region ?_
        refine RW.q (v := .pointer (some (Value.at lv1 (i * 1)))) rfl (q_indexAddr rfl rfl hlv1.sl Try.underlying29 sz3 (by omega) (by omega) rfl) ?_
        refine RW.q (v := .int .i64 ((Al.reach b.Places ((rs.getD k default).Place)).getD i 0)) rfl (q_load rfl Try.underlying3 rfl (Cell.repInt hlv1 (by omega))) ?_
        refine RW.q (v := .int .i64 ((Al.reach b.Places ((rs.getD k default).Place)).getD i 0)) rfl (q_assign rfl) ?_
        refine RW.nil ?_
        refine Post.then_n ?_
        have hrq := (Al.reach_ri b.Places (rs.getD k default).Place).2 _ (Al.getD_mem (by assumption))
        have hsm := Al.sub_mid (rate := (rs.getD k default).Rate) hLI (Al.reach_ri b.Places (rs.getD k default).Place) (k := i) (by assumption)
        rw [← hn] at hsm
        have hsl := Al.subL_len (n := n) ((Al.reach b.Places (rs.getD k default).Place).take i) left
        have hl2 := hLI.2 ((Al.reach b.Places (rs.getD k default).Place).getD i 0).toNat
        unfold Al.maxI at hl2
        rw [← hn] at hlr
        refine AW.region ?_
        refine RW.q (v := bg1) rfl (q_move rfl) ?_
        refine RW.q (v := .int .i64 ((Al.reach b.Places ((rs.getD k default).Place)).getD i 0)) rfl (q_move rfl) ?_
        refine RW.q (v := .pointer (some (Value.at bg1 ((((Al.reach b.Places ((rs.getD k default).Place)).getD i 0).toNat) * 1)))) rfl (q_indexAddr rfl rfl hbg1 Try.underlying29 sz3 (by omega) (by omega) rfl) ?_
        refine RW.q (v := .int .i64 ((Al.subL left ((Al.reach b.Places (rs.getD k default).Place).take i) n).getD (((Al.reach b.Places ((rs.getD k default).Place)).getD i 0).toNat) 0)) rfl (q_load rfl Try.underlying3 rfl (Cell.rowInt 2 rfl (by omega))) ?_
        refine RW.q (v := .int .i64 n) rfl (q_move rfl) ?_
        refine RW.q (v := .int .i64 (((Al.subL left ((Al.reach b.Places (rs.getD k default).Place).take i) n).getD (((Al.reach b.Places ((rs.getD k default).Place)).getD i 0).toNat) 0) - n)) rfl (q_sub rfl rfl (by omega) (by unfold I64; omega)) ?_
        refine RW.q (v := .pointer (some (Value.at bg1 ((((Al.reach b.Places ((rs.getD k default).Place)).getD i 0).toNat) * 1)))) rfl (q_indexAddr rfl rfl hbg1 Try.underlying29 sz3 (by omega) (by omega) rfl) ?_
        refine RW.effn (J' := St B Φ1 ((.blk b3 45 [.int .i64 ((rs.getD k default).Id), .int .i64 ((rs.getD k default).Owner), .int .i64 ((rs.getD k default).Date), .int .i64 ((rs.getD k default).Place), .int .i64 ((rs.getD k default).Rate), .int .i64 ((rs.getD k default).From), .int .i64 ((rs.getD k default).Until), .int .i64 ((rs.getD k default).Back), .int .i64 ((rs.getD k default).BackTo)]) :: (.row gv 47 2 gs.length (flat gs)) :: (.row bg1 3 1 b.Places.length (((Al.subL left ((Al.reach b.Places (rs.getD k default).Place).take i) n).set (((Al.reach b.Places ((rs.getD k default).Place)).getD i 0).toNat) (((Al.subL left ((Al.reach b.Places (rs.getD k default).Place).take i) n).getD (((Al.reach b.Places ((rs.getD k default).Place)).getD i 0).toNat) 0) - n)).map (Value.int .i64))) :: (.blk b1 31 [.string b.Name, v1, .int .i64 b.Cells, v3, v4, v5, v6, v7, v8, v9, .int .i64 b.Err]) :: C)) (e_storeRow (v := .int .i64 (((Al.subL left ((Al.reach b.Places (rs.getD k default).Place).take i) n).getD (((Al.reach b.Places ((rs.getD k default).Place)).getD i 0).toNat) 0) - n)) 2 rfl rfl rfl sz3 rfl rfl (by simp [-List.getD_eq_getElem?_getD]; omega) (splice_int (by omega)) rfl) ?_
        refine RW.nil ?_
        refine Post.blk_n (Post.then_n ?_)
        refine AW.region ?_
        refine RW.q (v := .int .i64 ((i + 1 : Nat) : Int)) rfl (q_add rfl rfl (by omega) (by unfold I64; omega)) ?_
        refine RW.q (v := .int .i64 ((i + 1 : Nat) : Int)) rfl (q_move rfl) ?_
        refine RW.nil ?_
        exact Post.back (s' := _) (J' := _) (m' := _) (by omega) ⟨i + 1, n, rfl, rfl, rfl, (by omega), hn⟩ ⟨rfl, rfl, rfl, rfl, rfl, rfl, rfl, rfl, rfl, rfl, rfl, rfl, trivial⟩ (fun _ h => by rw [Al.subL_step (by assumption)]; exact h)
      · simp [-List.getD_eq_getElem?_getD] at hc5
        refine AW.exit ?_
        refine Post.then_x (Post.then_x (Post.blk_hit (Post.then_n ?_)))
        refine AW.region ?_
        refine RW.q (v := gv) rfl (q_move rfl) ?_
        refine RW.q (v := .pointer (some (⟨b3, 0, none⟩))) rfl (q_fieldAddr rfl Try.underlying45 rfl sz3 rfl) ?_
        refine RW.q (v := .int .i64 ((rs.getD k default).Id)) rfl (q_load rfl Try.underlying3 rfl (Cell.blk 0 rfl rfl)) ?_
        refine RW.q (v := .int .i64 n) rfl (q_move rfl) ?_
        refine RW.q (v := .agg #[.int .i64 ((rs.getD k default).Id), .int .i64 n]) rfl (q_build (vals := [(0, .int .i64 ((rs.getD k default).Id)), (1, .int .i64 n)]) zero47 Try.underlying47 places47 rfl rfl) ?_
        refine RW.eff (fun b7 : Nat => (.slice (some ⟨b7, 0, none⟩) 1 1)) (fun b7 => St B Φ1 ((.row (.slice (some ⟨b7, 0, none⟩) 1 1) 47 2 1 ([.int .i64 ((rs.getD k default).Id), .int .i64 n])) :: (.blk b3 45 [.int .i64 ((rs.getD k default).Id), .int .i64 ((rs.getD k default).Owner), .int .i64 ((rs.getD k default).Date), .int .i64 ((rs.getD k default).Place), .int .i64 ((rs.getD k default).Rate), .int .i64 ((rs.getD k default).From), .int .i64 ((rs.getD k default).Until), .int .i64 ((rs.getD k default).Back), .int .i64 ((rs.getD k default).BackTo)]) :: (.row gv 47 2 gs.length (flat gs)) :: (.row bg1 3 1 b.Places.length ((Al.subL left ((Al.reach b.Places (rs.getD k default).Place).take i) n).map (Value.int .i64))) :: (.blk b1 31 [.string b.Name, v1, .int .i64 b.Cells, v3, v4, v5, v6, v7, v8, v9, .int .i64 b.Err]) :: C)) rfl (e_buildSlice (vals := [(0, .agg #[.int .i64 ((rs.getD k default).Id), .int .i64 n])]) (cells := [.int .i64 ((rs.getD k default).Id), .int .i64 n]) Try.underlying33 inf47 rfl rfl rfl (by kernel_rfl) rfl) ?_
        intro b7
        refine RW.eff (fun xv : {vq : Value // IsSl vq (gs.length + 1)} => xv.1) (fun xv => St B Φ1 ((.row (.slice (some ⟨b7, 0, none⟩) 1 1) 47 2 1 ([.int .i64 ((rs.getD k default).Id), .int .i64 n])) :: (.blk b3 45 [.int .i64 ((rs.getD k default).Id), .int .i64 ((rs.getD k default).Owner), .int .i64 ((rs.getD k default).Date), .int .i64 ((rs.getD k default).Place), .int .i64 ((rs.getD k default).Rate), .int .i64 ((rs.getD k default).From), .int .i64 ((rs.getD k default).Until), .int .i64 ((rs.getD k default).Back), .int .i64 ((rs.getD k default).BackTo)]) :: (.row xv.1 47 2 ((gs ++ [(⟨(rs.getD k default).Id, n⟩ : Bt.Grant)]).length) (flat (gs ++ [(⟨(rs.getD k default).Id, n⟩ : Bt.Grant)]))) :: (.row bg1 3 1 b.Places.length ((Al.subL left ((Al.reach b.Places (rs.getD k default).Place).take i) n).map (Value.int .i64))) :: (.blk b1 31 [.string b.Name, v1, .int .i64 b.Cells, v3, v4, v5, v6, v7, v8, v9, .int .i64 b.Err]) :: C)) rfl (e_append 2 rfl rfl rfl Try.underlying33 inf47 rfl rfl rfl (Cells.row0 0 rfl) rfl (by omega) (by omega) (fun _ => by simp [flat] <;> rfl)) ?_
        rintro ⟨va3, hva3⟩
        refine RW.wk (J' := St B Φ1 ((.blk b3 45 [.int .i64 ((rs.getD k default).Id), .int .i64 ((rs.getD k default).Owner), .int .i64 ((rs.getD k default).Date), .int .i64 ((rs.getD k default).Place), .int .i64 ((rs.getD k default).Rate), .int .i64 ((rs.getD k default).From), .int .i64 ((rs.getD k default).Until), .int .i64 ((rs.getD k default).Back), .int .i64 ((rs.getD k default).BackTo)]) :: (.row va3 47 2 ((gs ++ [(⟨(rs.getD k default).Id, n⟩ : Bt.Grant)]).length) (flat (gs ++ [(⟨(rs.getD k default).Id, n⟩ : Bt.Grant)]))) :: (.row bg1 3 1 b.Places.length ((Al.subL left ((Al.reach b.Places (rs.getD k default).Place).take i) n).map (Value.int .i64))) :: (.blk b1 31 [.string b.Name, v1, .int .i64 b.Cells, v3, v4, v5, v6, v7, v8, v9, .int .i64 b.Err]) :: C)) (fun _ h => StP.drop h (by exact .cons _ (.cons_cons _ (.cons_cons _ (.cons_cons _ (.cons_cons _ ((List.Sublist.refl _)))))))) ?_
        refine RW.q (v := va3) rfl (q_assign rfl) ?_
        refine RW.nil ?_
        refine Post.blk_n (Post.then_n ?_)
        refine AW.region ?_
        refine RW.q (v := .int .i64 ((k + 1 : Nat) : Int)) rfl (q_add rfl rfl (by omega) (by unfold I64; omega)) ?_
        refine RW.q (v := .int .i64 ((k + 1 : Nat) : Int)) rfl (q_move rfl) ?_
        refine RW.nil ?_
        exact Post.back (s' := _) (J' := _) (m' := _) (by omega) ⟨k + 1, Al.subL left (Al.reach b.Places (rs.getD k default).Place) n, gs ++ [(⟨(rs.getD k default).Id, n⟩ : Bt.Grant)], va3, rfl, rfl, rfl, (by omega), (Al.day_step (by omega) hD hn), (by simpa using hva3), (mem_snoc (p := RepE.wf) hgw (show RepE.wf (⟨_, _⟩ : Bt.Grant) from ⟨hwk.1, by rw [hn]; exact Al.lit_i64 hlr (by have := hwk.2.2.2.2.1; unfold I64 at this; exact this)⟩))⟩ ⟨rfl, rfl, rfl, rfl, rfl, rfl, trivial⟩ (fun _ h => by rw [← show (Al.reach b.Places (rs.getD k default).Place).take i = (Al.reach b.Places (rs.getD k default).Place) from List.take_of_length_le (by omega)]; exact StP.know (by assumption) (StP.drop h (by exact .cons _ (.cons_cons _ (.cons_cons _ (.cons_cons _ ((List.Sublist.refl _))))))))
  · simp [-List.getD_eq_getElem?_getD] at hc1
    refine AW.exit ?_
    refine Post.then_x (Post.then_x (Post.blk_hit (Post.then_n ?_)))
    refine AW.seq ?_
    refine AW.region ?_
    refine RW.q (v := gv) rfl (q_move rfl) ?_
    refine RW.q (v := bg1) rfl (q_move rfl) ?_
    refine RW.q (v := gv) rfl (q_assign rfl) ?_
    refine RW.q (v := bg1) rfl (q_assign rfl) ?_
    refine RW.nil ?_
    refine Post.then_n ?_
    refine AW.ret ?_
    obtain rfl : k = rs.length := by omega
    rw [List.take_length] at hD
    rw [hD]
    refine fin_out2 rfl rfl rfl rfl (fun w' hw => ?_)
    obtain ⟨Φ', hl', hs', hw2⟩ := StP.freeze hw (fun b hb => ((hw.away b (by simp [hb])).2).resolve_right (by rw [hBE]; simp))
    exact ⟨⟨(gv, bg1, Φ'), RowS.repE even47 hs' rfl (by simp only [Rep.bytes, maxSl]; omega) hgw, hbg1, hl'⟩, rfl, StP.drop hw2 (.cons_cons _ (.cons _ (List.Sublist.refl _)))⟩

set_option maxRecDepth 8000 in
set_option maxHeartbeats 1000000 in
theorem rDay_c {B : Bs} {Φ : Hp} {C : List Chunk} (hBE : B.E = []) {b : Bt.Basin} {cs : List Value} (hB : RepV Φ b cs) {rs : List Bt.Right} {v2s : Value} (h2 : RepSl Φ rs v2s) {sup : List Int} {v1s : Value} (h1 : RepSl Φ sup v1s) (w : World) (hW : (St B Φ C).p w) :
    Calls Try.prog 12 #[.agg cs.toArray, v2s, v1s] w fun e w' => ∃ x : {y : Value × Value × Hp // RepSl y.2.2 (Al.day b.Places rs sup).2 y.1 ∧ IsSl y.2.1 b.Places.length ∧ Hp.le Φ y.2.2}, e = .returned (.tuple #[x.1.1, x.1.2.1]) ∧ (St B x.1.2.2 (.row x.1.2.1 3 1 b.Places.length ((Al.day b.Places rs sup).1.map (Value.int .i64)) :: C)).p w' := by
  obtain ⟨v1, v3, v4, v5, v6, v7, v8, v9, hcs, hBw, r1, r3, r4, r5, r6, r7, r8, r9⟩ := (show Rep.rep Φ b cs from hB)
  subst hcs
  have hpm : b.Places.length * 152 ≤ 140737488355328 := r3.max
  refine calls_of_AW (args := [.agg #[.string b.Name, v1, .int .i64 b.Cells, v3, v4, v5, v6, v7, v8, v9, .int .i64 b.Err], v2s, v1s]) Try.func12 rfl (Nat.le_of_ble_eq_true rfl) (St B Φ C) hW ?_
  show AW Try.prog 100 [] _ _ _ [(0, .agg #[.string b.Name, v1, .int .i64 b.Cells, v3, v4, v5, v6, v7, v8, v9, .int .i64 b.Err]), (1, v2s), (2, v1s)] _
  have hsk : ∀ k, Al.Ok64 (sup.getD k 0) := fun k => by have := h1.i64D k; unfold I64 at this; unfold Al.Ok64 Al.minI Al.maxI; omega
  have hm1 : sup.length * 8 ≤ 140737488355328 := h1.max
  have hm2 : rs.length * 72 ≤ 140737488355328 := h2.max
  have hwr := h2.wfE
  refine AW.seq ?_
  refine AW.region ?_
  refine RW.eff (fun b1 : Nat => .pointer (some (⟨b1, 0, none⟩))) (fun b1 => St B Φ ((.blk b1 31 [.string b.Name, v1, .int .i64 b.Cells, v3, v4, v5, v6, v7, v8, v9, .int .i64 b.Err]) :: C)) rfl (e_boxA (cs := [.string b.Name, v1, .int .i64 b.Cells, v3, v4, v5, v6, v7, v8, v9, .int .i64 b.Err]) rfl) ?_
  intro b1
  refine RW.q (v := (.slice none 0 0)) rfl (q_assign rfl) ?_
  refine RW.q (v := (.slice none 0 0)) rfl (q_assign rfl) ?_
  refine RW.nil ?_
  refine Post.then_n ?_
  refine AW.seq ?_
  refine AW.region ?_
  refine RW.q (v := (.slice none 0 0)) rfl (q_assign rfl) ?_
  refine RW.nil ?_
  refine Post.then_n ?_
  refine AW.seq ?_
  refine AW.seq ?_
  refine AW.region ?_
  refine RW.q (v := .int .i64 0) rfl (q_assign rfl) ?_
  refine RW.nil ?_
  refine Post.then_n ?_
  refine AW.block ?_
  refine AW.loop (fun s J m => ∃ (q : Nat), ∃ (L : List Int), ∃ (lv : Value), s = [(1, v2s), (2, v1s), (3, .pointer (some (⟨b1, 0, none⟩))), (8, lv), (9, .int .i64 (q : Int))] ∧ J = St B Φ ((.row lv 3 1 L.length (L.map (Value.int .i64))) :: (.blk b1 31 [.string b.Name, v1, .int .i64 b.Cells, v3, v4, v5, v6, v7, v8, v9, .int .i64 b.Err]) :: C) ∧ m = b.Places.length - q ∧ (q ≤ b.Places.length) ∧ (L = ((List.range q).map fun q : Nat => Al.thereM b.Places sup (q : Int))) ∧ (IsSl lv L.length)) (s0 := _) (J1 := _) (m0 := _) ⟨0, [], _, rfl, rfl, rfl, (by omega), rfl, isSl_nil⟩ ⟨rfl, rfl, rfl, rfl, rfl, trivial⟩ (fun _ h => addNil h) ?_
  rintro _ _ _ _ ⟨q, L, lv, rfl, rfl, rfl, hq, hL, hlv⟩
  refine AW.seq ?_
  refine AW.seq ?_
  refine AW.region ?_
  refine RW.q (v := .int .i64 (q : Int)) rfl (q_move rfl) ?_
  refine RW.q (v := .pointer (some (⟨b1, 3, none⟩))) rfl (q_fieldAddr rfl Try.underlying31 rfl sz23 rfl) ?_
  refine RW.q (v := v3) rfl (q_load rfl Try.underlying23 rfl (Cell.blk 1 rfl rfl)) ?_
  refine RW.q (v := .int .i64 ((b.Places.length : Nat) : Int)) rfl (q_len_sl rfl r3.sl Try.underlying23) ?_
  refine RW.q (v := .bool (decide ((q : Int) < ((b.Places.length : Nat) : Int)))) rfl (q_lss rfl rfl) ?_
  refine RW.nil ?_
  refine Post.then_n ?_
  refine AW.cond (b := decide ((q : Int) < ((b.Places.length : Nat) : Int))) rfl (fun hc1 => ?_) (fun hc1 => ?_)
  · simp [-List.getD_eq_getElem?_getD] at hc1
    refine AW.skip ?_
    refine Post.then_n ?_
    refine AW.seq ?_
    refine AW.block ?_
    have hLq : L.length = q := by rw [hL]; simp
    refine AW.region ?_
    refine RW.q (v := lv) rfl (q_move rfl) ?_
    refine RW.q (v := .agg #[.string b.Name, v1, .int .i64 b.Cells, v3, v4, v5, v6, v7, v8, v9, .int .i64 b.Err]) rfl (q_loadAgg rfl Try.underlying31 rfl sz31 rfl (Cells.blk 1 rfl)) ?_
    refine RW.q (v := v1s) rfl (q_move rfl) ?_
    refine RW.q (v := .int .i64 (q : Int)) rfl (q_move rfl) ?_
    refine RW.q (v := .int .i64 (Al.thereM b.Places sup (q : Int))) rfl (q_call (args := #[.agg #[.string b.Name, v1, .int .i64 b.Cells, v3, v4, v5, v6, v7, v8, v9, .int .i64 b.Err], v1s, .int .i64 (q : Int)]) own20 rfl rfl (fun w1 hw1 => There_c w1 (Go.K.hp w1) (Hp.le_refl _) (hB.mono hw1.phi) (h1.mono hw1.phi))) ?_
    refine RW.eff (fun b2 : Nat => (.slice (some ⟨b2, 0, none⟩) 1 1)) (fun b2 => St B Φ ((.row (.slice (some ⟨b2, 0, none⟩) 1 1) 3 1 1 ([.int .i64 (Al.thereM b.Places sup (q : Int))])) :: (.row lv 3 1 L.length (L.map (Value.int .i64))) :: (.blk b1 31 [.string b.Name, v1, .int .i64 b.Cells, v3, v4, v5, v6, v7, v8, v9, .int .i64 b.Err]) :: C)) rfl (e_buildSlice (vals := [(0, .int .i64 (Al.thereM b.Places sup (q : Int)))]) (cells := [.int .i64 (Al.thereM b.Places sup (q : Int))]) Try.underlying29 inf3 rfl rfl rfl (by kernel_rfl) rfl) ?_
    intro b2
    refine RW.eff (fun xv : {vq : Value // IsSl vq (L.length + 1)} => xv.1) (fun xv => St B Φ ((.row (.slice (some ⟨b2, 0, none⟩) 1 1) 3 1 1 ([.int .i64 (Al.thereM b.Places sup (q : Int))])) :: (.row xv.1 3 1 ((L ++ [Al.thereM b.Places sup (q : Int)]).length) ((L ++ [Al.thereM b.Places sup (q : Int)]).map (Value.int .i64))) :: (.blk b1 31 [.string b.Name, v1, .int .i64 b.Cells, v3, v4, v5, v6, v7, v8, v9, .int .i64 b.Err]) :: C)) rfl (e_append 1 rfl rfl rfl Try.underlying29 inf3 rfl rfl rfl (Cells.row0 0 rfl) rfl (by omega) (by omega) (fun _ => by simp)) ?_
    rintro ⟨va1, hva1⟩
    refine RW.wk (J' := St B Φ ((.row va1 3 1 ((L ++ [Al.thereM b.Places sup (q : Int)]).length) ((L ++ [Al.thereM b.Places sup (q : Int)]).map (Value.int .i64))) :: (.blk b1 31 [.string b.Name, v1, .int .i64 b.Cells, v3, v4, v5, v6, v7, v8, v9, .int .i64 b.Err]) :: C)) (fun _ h => StP.drop h (by exact .cons _ (.cons_cons _ (.cons_cons _ ((List.Sublist.refl _)))))) ?_
    refine RW.q (v := va1) rfl (q_assign rfl) ?_
    refine RW.nil ?_
    refine Post.blk_n (Post.then_n ?_)
    refine AW.region ?_
    refine RW.q (v := .int .i64 (q : Int)) rfl (q_move rfl) ?_
    refine RW.q (v := .int .i64 ((q + 1 : Nat) : Int)) rfl (q_add rfl rfl (by omega) (by unfold I64; omega)) ?_
    refine RW.q (v := .int .i64 ((q + 1 : Nat) : Int)) rfl (q_assign rfl) ?_
    refine RW.nil ?_
    exact Post.back (s' := _) (J' := _) (m' := _) (by omega) ⟨q + 1, L ++ [Al.thereM b.Places sup (q : Int)], va1, rfl, rfl, rfl, (by omega), (by rw [hL, List.range_succ, List.map_append]; rfl), (by simpa using hva1)⟩ ⟨rfl, rfl, rfl, rfl, rfl, trivial⟩ (fun _ h => h)
  · simp [-List.getD_eq_getElem?_getD] at hc1
    refine AW.exit ?_
    refine Post.then_x (Post.then_x (Post.blk_hit (Post.then_n ?_)))
    refine AW.seq ?_
    have hLb : L = Al.beginL b.Places sup (min b.Places.length sup.length) := by rw [hL, show q = b.Places.length by omega]; rfl
    have hLl : L.length = b.Places.length := by rw [hLb]; exact Al.beginL_len _ _ _
    have hlv2 : IsSl lv b.Places.length := by rw [← hLl]; exact hlv
    rw [hLl, hLb]
    clear hLl hLb hL hlv
    refine AW.region ?_
    refine RW.q (v := (.slice none 0 0)) rfl (q_assign rfl) ?_
    refine RW.nil ?_
    refine Post.then_n ?_
    refine AW.seq ?_
    refine AW.seq ?_
    refine AW.region ?_
    refine RW.q (v := .int .i64 0) rfl (q_assign rfl) ?_
    refine RW.nil ?_
    refine Post.then_n ?_
    refine AW.block ?_
    refine AW.loop (fun s J m => ∃ (k : Nat), ∃ (left : List Int), ∃ (gs : List Bt.Grant), ∃ (gv : Value), s = [(1, v2s), (2, v1s), (3, .pointer (some (⟨b1, 0, none⟩))), (8, lv), (10, gv), (11, .int .i64 (k : Int))] ∧ J = St B Φ ((.row gv 47 2 gs.length (flat gs)) :: (.row lv 3 1 b.Places.length (left.map (Value.int .i64))) :: (.blk b1 31 [.string b.Name, v1, .int .i64 b.Cells, v3, v4, v5, v6, v7, v8, v9, .int .i64 b.Err]) :: C) ∧ m = rs.length - k ∧ (k ≤ rs.length) ∧ (Al.day b.Places (rs.take k) sup = (left, gs)) ∧ (IsSl gv gs.length) ∧ (∀ x ∈ gs, RepE.wf x)) (s0 := _) (J1 := _) (m0 := _) ⟨0, _, [], _, rfl, rfl, rfl, (by omega), rfl, isSl_nil, (fun x h => absurd h List.not_mem_nil)⟩ ⟨rfl, rfl, rfl, rfl, rfl, rfl, trivial⟩ (fun _ h => addNil h) ?_
    rintro _ _ _ _ ⟨k, left, gs, gv, rfl, rfl, rfl, hk, hD, hgv, hgw⟩
    have hLI : Al.LI b.Places.length left := Al.day_left hsk hD
    have hgl : gs.length = k := Al.day_glen hsk hk hD
    have hll := hLI.1
    refine AW.seq ?_
    refine AW.seq ?_
    refine AW.region ?_
    refine RW.q (v := .int .i64 (k : Int)) rfl (q_move rfl) ?_
    refine RW.q (v := v2s) rfl (q_move rfl) ?_
    refine RW.q (v := .int .i64 ((rs.length : Nat) : Int)) rfl (q_len_sl rfl h2.sl Try.underlying32) ?_
    refine RW.q (v := .bool (decide ((k : Int) < ((rs.length : Nat) : Int)))) rfl (q_lss rfl rfl) ?_
    refine RW.nil ?_
    refine Post.then_n ?_
    refine AW.cond (b := decide ((k : Int) < ((rs.length : Nat) : Int))) rfl (fun hc2 => ?_) (fun hc2 => ?_)
    · simp [-List.getD_eq_getElem?_getD] at hc2
      refine AW.skip ?_
      refine Post.then_n ?_
      refine AW.seq ?_
      refine AW.block ?_
      refine AW.seq ?_
      have hwk := hwr _ (Al.getD_memR hc2)
      have hlr := Al.lit_rng (left := left) (l := (Al.reach b.Places (rs.getD k default).Place)) (rate := (rs.getD k default).Rate) (fun j => (hLI.2 j).1)
      have hrl := Al.reach_len b.Places (rs.getD k default).Place
      have hB_0 := hB
      have r3_0 := r3
      have h1_0 := h1
      have h2_0 := h2
      refine AW.draw (J0 := St B Φ ((.row gv 47 2 gs.length (flat gs)) :: (.row lv 3 1 b.Places.length (left.map (Value.int .i64))) :: (.blk b1 31 [.string b.Name, v1, .int .i64 b.Cells, v3, v4, v5, v6, v7, v8, v9, .int .i64 b.Err]) :: C)) [.q, .q, .q, .q, .q, .q, .e, .q] [0, 1, 2, 3, 4, 5, 6, 7] hmix (by kernel_rfl) ?_
      refine DW.q (v := .agg #[.string b.Name, v1, .int .i64 b.Cells, v3, v4, v5, v6, v7, v8, v9, .int .i64 b.Err]) (fun _ h => h) rfl (q_loadAgg rfl Try.underlying31 rfl sz31 rfl (Cells.blk 2 rfl)) ?_
      refine DW.q (v := v2s) (fun _ h => h) rfl (q_move rfl) ?_
      refine DW.q (v := .int .i64 (k : Int)) (fun _ h => h) rfl (q_move rfl) ?_
      refine DW.q (v := .pointer (some (Value.at v2s (k * 9)))) (fun _ h => h) rfl (q_indexAddr rfl rfl h2.sl Try.underlying32 sz45 (by omega) (by omega) rfl) ?_
      refine DW.q (v := .pointer (some (Value.at v2s (k * 9 + 3)))) (fun _ h => h) rfl (q_fieldAddr rfl Try.underlying45 rfl sz3 at_add) ?_
      refine DW.q (v := .int .i64 ((rs.getD k default).Place)) (fun _ h => h) rfl (q_load rfl Try.underlying3 rfl (Cell.repE (j := 3) h2 (by omega) rfl)) ?_
      refine DW.eff (fun x : {y : Value × Hp // (fun r Ψ => RepSl Ψ (Al.reach b.Places ((rs.getD k default).Place)) r) y.1 y.2 ∧ Hp.le Φ y.2} => x.1.1) (fun x => St B x.1.2 ((.row gv 47 2 gs.length (flat gs)) :: (.row lv 3 1 b.Places.length (left.map (Value.int .i64))) :: (.blk b1 31 [.string b.Name, v1, .int .i64 b.Cells, v3, v4, v5, v6, v7, v8, v9, .int .i64 b.Err]) :: C)) (fun _ x => (fun _ h => StP.know x.2.2 h)) rfl (e_callS (T := fun r Ψ => RepSl Ψ (Al.reach b.Places ((rs.getD k default).Place)) r) (args := #[.agg #[.string b.Name, v1, .int .i64 b.Cells, v3, v4, v5, v6, v7, v8, v9, .int .i64 b.Err], .int .i64 ((rs.getD k default).Place)]) own15 rfl rfl (fun w1 hw1 => (rReach_c w1 (Go.K.hp w1) (Hp.le_refl _) (hB.mono hw1.phi)).mono fun _ _ => retS_up (fun _ _ _ hl h => h.mono hl))) ?_
      rintro ⟨⟨lv1, Φ1⟩, hlv1, hlΦ1⟩
      replace hlv1 : RepSl Φ1 (Al.reach b.Places ((rs.getD k default).Place)) lv1 := hlv1
      replace hlΦ1 : Hp.le Φ Φ1 := hlΦ1
      replace hB := hB.mono hlΦ1
      replace r3 := r3.mono hlΦ1
      replace h1 := h1.mono hlΦ1
      replace h2 := h2.mono hlΦ1
      refine DW.q (v := lv1) (fun _ h => StP.know hlΦ1 h) rfl (q_assign rfl) ?_
      refine DW.nil ?_
      refine Post.then_n ?_
      refine AW.seq ?_
      refine AW.region ?_
      refine RW.q (v := v2s) rfl (q_move rfl) ?_
      refine RW.q (v := .int .i64 (k : Int)) rfl (q_move rfl) ?_
      refine RW.q (v := .pointer (some (Value.at v2s (k * 9)))) rfl (q_indexAddr rfl rfl h2.sl Try.underlying32 sz45 (by omega) (by omega) rfl) ?_
      refine RW.q (v := .pointer (some (Value.at v2s (k * 9 + 4)))) rfl (q_fieldAddr rfl Try.underlying45 rfl sz3 at_add) ?_
      refine RW.q (v := .int .i64 ((rs.getD k default).Rate)) rfl (q_load rfl Try.underlying3 rfl (Cell.repE (j := 4) h2 (by omega) rfl)) ?_
      refine RW.q (v := .int .i64 (max 0 ((rs.getD k default).Rate))) rfl (q_max rfl rfl) ?_
      refine RW.q (v := .int .i64 (max 0 ((rs.getD k default).Rate))) rfl (q_assign rfl) ?_
      refine RW.nil ?_
      refine Post.then_n ?_
      refine AW.seq ?_
      refine AW.seq ?_
      refine AW.region ?_
      refine RW.q (v := lv1) rfl (q_move rfl) ?_
      refine RW.q (v := .int .i64 (((Al.reach b.Places ((rs.getD k default).Place)).length : Nat) : Int)) rfl (q_len_sl rfl hlv1.sl Try.underlying29) ?_
      refine RW.q (v := .bool (decide ((((Al.reach b.Places ((rs.getD k default).Place)).length : Nat) : Int) = 0))) rfl (q_eql rfl rfl) ?_
      refine RW.nil ?_
      refine Post.then_n ?_
      refine AW.cond (b := decide ((((Al.reach b.Places ((rs.getD k default).Place)).length : Nat) : Int) = 0)) rfl (fun hc3 => ?_) (fun hc3 => ?_)
      · simp [-List.getD_eq_getElem?_getD] at hc3
        refine AW.region ?_
        refine RW.q (v := .int .i64 0) rfl (q_assign rfl) ?_
        refine RW.nil ?_
        refine Post.then_n ?_
        refine AW.seq ?_
        refine AW.seq ?_
        refine AW.region ?_
        refine RW.q (v := .int .i64 0) rfl (q_assign rfl) ?_
        refine RW.nil ?_
        refine Post.then_n ?_
        refine AW.block ?_
        refine AW.loop (fun s J m => ∃ (i : Nat), ∃ (n : Int), s = [(1, v2s), (2, v1s), (3, .pointer (some (⟨b1, 0, none⟩))), (8, lv), (10, gv), (11, .int .i64 (k : Int)), (12, lv1), (13, .int .i64 n), (14, .int .i64 (i : Int))] ∧ J = St B Φ1 ((.row gv 47 2 gs.length (flat gs)) :: (.row lv 3 1 b.Places.length (left.map (Value.int .i64))) :: (.blk b1 31 [.string b.Name, v1, .int .i64 b.Cells, v3, v4, v5, v6, v7, v8, v9, .int .i64 b.Err]) :: C) ∧ m = (Al.reach b.Places (rs.getD k default).Place).length - i ∧ (i ≤ (Al.reach b.Places (rs.getD k default).Place).length) ∧ (n = Al.litN left (Al.reach b.Places (rs.getD k default).Place) (rs.getD k default).Rate i)) (s0 := _) (J1 := _) (m0 := _) ⟨0, _, rfl, rfl, rfl, (by omega), (by rw [Al.litN, if_pos (by rw [hc3]; rfl)])⟩ ⟨rfl, rfl, rfl, rfl, rfl, rfl, rfl, rfl, rfl, trivial⟩ (fun _ h => h) ?_
        rintro _ _ _ _ ⟨i, n, rfl, rfl, rfl, hi, hn0⟩
        refine AW.seq ?_
        refine AW.seq ?_
        refine AW.region ?_
        refine RW.q (v := .int .i64 (i : Int)) rfl (q_move rfl) ?_
        refine RW.q (v := lv1) rfl (q_move rfl) ?_
        refine RW.q (v := .int .i64 (((Al.reach b.Places ((rs.getD k default).Place)).length : Nat) : Int)) rfl (q_len_sl rfl hlv1.sl Try.underlying29) ?_
        refine RW.q (v := .bool (decide ((i : Int) < (((Al.reach b.Places ((rs.getD k default).Place)).length : Nat) : Int)))) rfl (q_lss rfl rfl) ?_
        refine RW.nil ?_
        refine Post.then_n ?_
        refine AW.cond (b := decide ((i : Int) < (((Al.reach b.Places ((rs.getD k default).Place)).length : Nat) : Int))) rfl (fun hc4 => ?_) (fun hc4 => ?_)
        · simp [-List.getD_eq_getElem?_getD] at hc4
          refine AW.skip ?_
          refine Post.then_n ?_
          refine AW.seq ?_
          refine AW.block ?_
          have hrq := (Al.reach_ri b.Places (rs.getD k default).Place).2 _ (Al.getD_mem (by assumption))
          refine AW.region ?_
          refine RW.q (v := .int .i64 n) rfl (q_move rfl) ?_
          refine RW.q (v := lv) rfl (q_move rfl) ?_
          refine RW.q (v := lv1) rfl (q_move rfl) ?_
          refine RW.q (v := .int .i64 (i : Int)) rfl (q_move rfl) ?_
          refine RW.q (v := .pointer (some (Value.at lv1 (i * 1)))) rfl (q_indexAddr rfl rfl hlv1.sl Try.underlying29 sz3 (by omega) (by omega) rfl) ?_
          refine RW.q (v := .int .i64 ((Al.reach b.Places ((rs.getD k default).Place)).getD i 0)) rfl (q_load rfl Try.underlying3 rfl (Cell.repInt hlv1 (by omega))) ?_
          refine RW.q (v := .pointer (some (Value.at lv ((((Al.reach b.Places ((rs.getD k default).Place)).getD i 0).toNat) * 1)))) rfl (q_indexAddr rfl rfl hlv2 Try.underlying29 sz3 (by omega) (by omega) rfl) ?_
          refine RW.q (v := .int .i64 ((left).getD (((Al.reach b.Places ((rs.getD k default).Place)).getD i 0).toNat) 0)) rfl (q_load rfl Try.underlying3 rfl (Cell.rowInt 1 rfl (by omega))) ?_
          refine RW.q (v := .int .i64 (min n ((left).getD (((Al.reach b.Places ((rs.getD k default).Place)).getD i 0).toNat) 0))) rfl (q_min rfl rfl) ?_
          refine RW.q (v := .int .i64 (min n ((left).getD (((Al.reach b.Places ((rs.getD k default).Place)).getD i 0).toNat) 0))) rfl (q_assign rfl) ?_
          refine RW.nil ?_
          refine Post.blk_n (Post.then_n ?_)
          refine AW.region ?_
          refine RW.q (v := .int .i64 (i : Int)) rfl (q_move rfl) ?_
          refine RW.q (v := .int .i64 ((i + 1 : Nat) : Int)) rfl (q_add rfl rfl (by omega) (by unfold I64; omega)) ?_
          refine RW.q (v := .int .i64 ((i + 1 : Nat) : Int)) rfl (q_assign rfl) ?_
          refine RW.nil ?_
          exact Post.back (s' := _) (J' := _) (m' := _) (by omega) ⟨i + 1, _, rfl, rfl, rfl, (by omega), (Al.litN_step (by assumption) hn0)⟩ ⟨rfl, rfl, rfl, rfl, rfl, rfl, rfl, rfl, rfl, trivial⟩ (fun _ h => h)
        · simp [-List.getD_eq_getElem?_getD] at hc4
          refine AW.exit ?_
          refine Post.then_x (Post.then_x (Post.blk_hit (Post.then_n ?_)))
          refine AW.seq ?_
          refine AW.seq ?_
          have hn : n = Al.lit left (Al.reach b.Places (rs.getD k default).Place) (rs.getD k default).Rate := hn0.trans (Al.litN_end (by omega))
          refine AW.region ?_
          refine RW.q (v := .int .i64 0) rfl (q_assign rfl) ?_
          refine RW.nil ?_
          refine Post.then_n ?_
          refine AW.block ?_
          refine AW.loop (fun s J m => ∃ (i : Nat), s = [(1, v2s), (2, v1s), (3, .pointer (some (⟨b1, 0, none⟩))), (8, lv), (10, gv), (11, .int .i64 (k : Int)), (12, lv1), (13, .int .i64 n), (15, .int .i64 (i : Int))] ∧ J = St B Φ1 ((.row gv 47 2 gs.length (flat gs)) :: (.row lv 3 1 b.Places.length ((Al.subL left ((Al.reach b.Places (rs.getD k default).Place).take i) n).map (Value.int .i64))) :: (.blk b1 31 [.string b.Name, v1, .int .i64 b.Cells, v3, v4, v5, v6, v7, v8, v9, .int .i64 b.Err]) :: C) ∧ m = (Al.reach b.Places (rs.getD k default).Place).length - i ∧ (i ≤ (Al.reach b.Places (rs.getD k default).Place).length)) (s0 := _) (J1 := _) (m0 := _) ⟨0, rfl, rfl, rfl, (by omega)⟩ ⟨rfl, rfl, rfl, rfl, rfl, rfl, rfl, rfl, rfl, trivial⟩ (fun _ h => h) ?_
          rintro _ _ _ _ ⟨i, rfl, rfl, rfl, hi⟩
          refine AW.seq ?_
          refine AW.seq ?_
          refine AW.region ?_
          refine RW.q (v := .int .i64 (i : Int)) rfl (q_move rfl) ?_
          refine RW.q (v := lv1) rfl (q_move rfl) ?_
          refine RW.q (v := .int .i64 (((Al.reach b.Places ((rs.getD k default).Place)).length : Nat) : Int)) rfl (q_len_sl rfl hlv1.sl Try.underlying29) ?_
          refine RW.q (v := .bool (decide ((i : Int) < (((Al.reach b.Places ((rs.getD k default).Place)).length : Nat) : Int)))) rfl (q_lss rfl rfl) ?_
          refine RW.nil ?_
          refine Post.then_n ?_
          refine AW.cond (b := decide ((i : Int) < (((Al.reach b.Places ((rs.getD k default).Place)).length : Nat) : Int))) rfl (fun hc5 => ?_) (fun hc5 => ?_)
          · simp [-List.getD_eq_getElem?_getD] at hc5
            refine AW.skip ?_
            refine Post.then_n ?_
            refine AW.seq ?_
            refine AW.block ?_
            have hrq := (Al.reach_ri b.Places (rs.getD k default).Place).2 _ (Al.getD_mem (by assumption))
            have hsm := Al.sub_mid (rate := (rs.getD k default).Rate) hLI (Al.reach_ri b.Places (rs.getD k default).Place) (k := i) (by assumption)
            rw [← hn] at hsm
            have hsl := Al.subL_len (n := n) ((Al.reach b.Places (rs.getD k default).Place).take i) left
            have hl2 := hLI.2 ((Al.reach b.Places (rs.getD k default).Place).getD i 0).toNat
            unfold Al.maxI at hl2
            have hlr2 := hlr
            rw [← hn] at hlr2
            have hB_0 := hB
            have r3_0 := r3
            have h1_0 := h1
            have h2_0 := h2
            have hlv1_0 := hlv1
            refine AW.draw (J0 := St B Φ1 ((.row gv 47 2 gs.length (flat gs)) :: (.row lv 3 1 b.Places.length ((Al.subL left ((Al.reach b.Places (rs.getD k default).Place).take i) n).map (Value.int .i64))) :: (.blk b1 31 [.string b.Name, v1, .int .i64 b.Cells, v3, v4, v5, v6, v7, v8, v9, .int .i64 b.Err]) :: C)) [.q, .q, .q, .q, .q, .q, .q, .q, .q, .q, .q, .q, .q, .q, .q, .e] [0, 1, 2, 3, 4, 5, 6, 7, 8, 9, 10, 11, 12, 13, 14, 15] hmix (by kernel_rfl) ?_
            refine DW.q (v := lv) (fun _ h => h) rfl (q_move rfl) ?_
            refine DW.q (v := lv1) (fun _ h => h) rfl (q_move rfl) ?_
            refine DW.q (v := .int .i64 (i : Int)) (fun _ h => h) rfl (q_move rfl) ?_
            refine DW.q (v := .pointer (some (Value.at lv1 (i * 1)))) (fun _ h => h) rfl (q_indexAddr rfl rfl hlv1.sl Try.underlying29 sz3 (by omega) (by omega) rfl) ?_
            refine DW.q (v := .int .i64 ((Al.reach b.Places ((rs.getD k default).Place)).getD i 0)) (fun _ h => h) rfl (q_load rfl Try.underlying3 rfl (Cell.repInt hlv1 (by omega))) ?_
            refine DW.q (v := lv) (fun _ h => h) rfl (q_move rfl) ?_
            refine DW.q (v := lv1) (fun _ h => h) rfl (q_move rfl) ?_
            refine DW.q (v := .int .i64 (i : Int)) (fun _ h => h) rfl (q_move rfl) ?_
            refine DW.q (v := .pointer (some (Value.at lv1 (i * 1)))) (fun _ h => h) rfl (q_indexAddr rfl rfl hlv1.sl Try.underlying29 sz3 (by omega) (by omega) rfl) ?_
            refine DW.q (v := .int .i64 ((Al.reach b.Places ((rs.getD k default).Place)).getD i 0)) (fun _ h => h) rfl (q_load rfl Try.underlying3 rfl (Cell.repInt hlv1 (by omega))) ?_
            refine DW.q (v := .pointer (some (Value.at lv ((((Al.reach b.Places ((rs.getD k default).Place)).getD i 0).toNat) * 1)))) (fun _ h => h) rfl (q_indexAddr rfl rfl hlv2 Try.underlying29 sz3 (by omega) (by omega) rfl) ?_
            refine DW.q (v := .int .i64 ((Al.subL left ((Al.reach b.Places (rs.getD k default).Place).take i) n).getD (((Al.reach b.Places ((rs.getD k default).Place)).getD i 0).toNat) 0)) (fun _ h => h) rfl (q_load rfl Try.underlying3 rfl (Cell.rowInt 1 rfl (by omega))) ?_
            refine DW.q (v := .int .i64 n) (fun _ h => h) rfl (q_move rfl) ?_
            refine DW.q (v := .int .i64 (((Al.subL left ((Al.reach b.Places (rs.getD k default).Place).take i) n).getD (((Al.reach b.Places ((rs.getD k default).Place)).getD i 0).toNat) 0) - n)) (fun _ h => h) rfl (q_sub rfl rfl (by omega) (by unfold I64; omega)) ?_
            refine DW.q (v := .pointer (some (Value.at lv ((((Al.reach b.Places ((rs.getD k default).Place)).getD i 0).toNat) * 1)))) (fun _ h => h) rfl (q_indexAddr rfl rfl hlv2 Try.underlying29 sz3 (by omega) (by omega) rfl) ?_
            refine DW.effn (J' := St B Φ1 ((.row gv 47 2 gs.length (flat gs)) :: (.row lv 3 1 b.Places.length (((Al.subL left ((Al.reach b.Places (rs.getD k default).Place).take i) n).set (((Al.reach b.Places ((rs.getD k default).Place)).getD i 0).toNat) (((Al.subL left ((Al.reach b.Places (rs.getD k default).Place).take i) n).getD (((Al.reach b.Places ((rs.getD k default).Place)).getD i 0).toNat) 0) - n)).map (Value.int .i64))) :: (.blk b1 31 [.string b.Name, v1, .int .i64 b.Cells, v3, v4, v5, v6, v7, v8, v9, .int .i64 b.Err]) :: C)) (fun h => absurd rfl h) (e_storeRow (v := .int .i64 (((Al.subL left ((Al.reach b.Places (rs.getD k default).Place).take i) n).getD (((Al.reach b.Places ((rs.getD k default).Place)).getD i 0).toNat) 0) - n)) 1 rfl rfl rfl sz3 rfl rfl (by simp [-List.getD_eq_getElem?_getD]; omega) (splice_int (by omega)) rfl) ?_
            refine DW.nil ?_
            refine Post.blk_n (Post.then_n ?_)
            refine AW.region ?_
            refine RW.q (v := .int .i64 (i : Int)) rfl (q_move rfl) ?_
            refine RW.q (v := .int .i64 ((i + 1 : Nat) : Int)) rfl (q_add rfl rfl (by omega) (by unfold I64; omega)) ?_
            refine RW.q (v := .int .i64 ((i + 1 : Nat) : Int)) rfl (q_assign rfl) ?_
            refine RW.nil ?_
            exact Post.back (s' := _) (J' := _) (m' := _) (by omega) ⟨i + 1, rfl, rfl, rfl, (by omega)⟩ ⟨rfl, rfl, rfl, rfl, rfl, rfl, rfl, rfl, rfl, trivial⟩ (fun _ h => by rw [Al.subL_step (by assumption)]; exact h)
          · simp [-List.getD_eq_getElem?_getD] at hc5
            refine AW.exit ?_
            refine Post.then_x (Post.then_x (Post.blk_hit (Post.then_n ?_)))
            refine AW.region ?_
            refine RW.q (v := gv) rfl (q_move rfl) ?_
            refine RW.q (v := v2s) rfl (q_move rfl) ?_
            refine RW.q (v := .int .i64 (k : Int)) rfl (q_move rfl) ?_
            refine RW.q (v := .pointer (some (Value.at v2s (k * 9)))) rfl (q_indexAddr rfl rfl h2.sl Try.underlying32 sz45 (by omega) (by omega) rfl) ?_
            refine RW.q (v := .pointer (some (Value.at v2s (k * 9 + 0)))) rfl (q_fieldAddr rfl Try.underlying45 rfl sz3 at_add) ?_
            refine RW.q (v := .int .i64 ((rs.getD k default).Id)) rfl (q_load rfl Try.underlying3 rfl (Cell.repE (j := 0) h2 (by omega) rfl)) ?_
            refine RW.q (v := .int .i64 n) rfl (q_move rfl) ?_
            refine RW.q (v := .agg #[.int .i64 ((rs.getD k default).Id), .int .i64 n]) rfl (q_build (vals := [(0, .int .i64 ((rs.getD k default).Id)), (1, .int .i64 n)]) zero47 Try.underlying47 places47 rfl rfl) ?_
            refine RW.eff (fun b3 : Nat => (.slice (some ⟨b3, 0, none⟩) 1 1)) (fun b3 => St B Φ1 ((.row (.slice (some ⟨b3, 0, none⟩) 1 1) 47 2 1 ([.int .i64 ((rs.getD k default).Id), .int .i64 n])) :: (.row gv 47 2 gs.length (flat gs)) :: (.row lv 3 1 b.Places.length ((Al.subL left ((Al.reach b.Places (rs.getD k default).Place).take i) n).map (Value.int .i64))) :: (.blk b1 31 [.string b.Name, v1, .int .i64 b.Cells, v3, v4, v5, v6, v7, v8, v9, .int .i64 b.Err]) :: C)) rfl (e_buildSlice (vals := [(0, .agg #[.int .i64 ((rs.getD k default).Id), .int .i64 n])]) (cells := [.int .i64 ((rs.getD k default).Id), .int .i64 n]) Try.underlying33 inf47 rfl rfl rfl (by kernel_rfl) rfl) ?_
            intro b3
            refine RW.eff (fun xv : {vq : Value // IsSl vq (gs.length + 1)} => xv.1) (fun xv => St B Φ1 ((.row (.slice (some ⟨b3, 0, none⟩) 1 1) 47 2 1 ([.int .i64 ((rs.getD k default).Id), .int .i64 n])) :: (.row xv.1 47 2 ((gs ++ [(⟨(rs.getD k default).Id, n⟩ : Bt.Grant)]).length) (flat (gs ++ [(⟨(rs.getD k default).Id, n⟩ : Bt.Grant)]))) :: (.row lv 3 1 b.Places.length ((Al.subL left ((Al.reach b.Places (rs.getD k default).Place).take i) n).map (Value.int .i64))) :: (.blk b1 31 [.string b.Name, v1, .int .i64 b.Cells, v3, v4, v5, v6, v7, v8, v9, .int .i64 b.Err]) :: C)) rfl (e_append 1 rfl rfl rfl Try.underlying33 inf47 rfl rfl rfl (Cells.row0 0 rfl) rfl (by omega) (by omega) (fun _ => by simp [flat] <;> rfl)) ?_
            rintro ⟨va2, hva2⟩
            refine RW.wk (J' := St B Φ1 ((.row va2 47 2 ((gs ++ [(⟨(rs.getD k default).Id, n⟩ : Bt.Grant)]).length) (flat (gs ++ [(⟨(rs.getD k default).Id, n⟩ : Bt.Grant)]))) :: (.row lv 3 1 b.Places.length ((Al.subL left ((Al.reach b.Places (rs.getD k default).Place).take i) n).map (Value.int .i64))) :: (.blk b1 31 [.string b.Name, v1, .int .i64 b.Cells, v3, v4, v5, v6, v7, v8, v9, .int .i64 b.Err]) :: C)) (fun _ h => StP.drop h (by exact .cons _ (.cons_cons _ (.cons_cons _ (.cons_cons _ ((List.Sublist.refl _))))))) ?_
            refine RW.q (v := va2) rfl (q_assign rfl) ?_
            refine RW.nil ?_
            refine Post.blk_n (Post.then_n ?_)
            refine AW.region ?_
            refine RW.q (v := .int .i64 (k : Int)) rfl (q_move rfl) ?_
            refine RW.q (v := .int .i64 ((k + 1 : Nat) : Int)) rfl (q_add rfl rfl (by omega) (by unfold I64; omega)) ?_
            refine RW.q (v := .int .i64 ((k + 1 : Nat) : Int)) rfl (q_assign rfl) ?_
            refine RW.nil ?_
            exact Post.back (s' := _) (J' := _) (m' := _) (by omega) ⟨k + 1, Al.subL left (Al.reach b.Places (rs.getD k default).Place) n, gs ++ [(⟨(rs.getD k default).Id, n⟩ : Bt.Grant)], va2, rfl, rfl, rfl, (by omega), (Al.day_step (by omega) hD hn), (by simpa using hva2), (mem_snoc (p := RepE.wf) hgw (show RepE.wf (⟨_, _⟩ : Bt.Grant) from ⟨hwk.1, by rw [hn]; exact Al.lit_i64 hlr (by have := hwk.2.2.2.2.1; unfold I64 at this; exact this)⟩))⟩ ⟨rfl, rfl, rfl, rfl, rfl, rfl, trivial⟩ (fun _ h => by rw [← show (Al.reach b.Places (rs.getD k default).Place).take i = (Al.reach b.Places (rs.getD k default).Place) from List.take_of_length_le (by omega)]; exact StP.know (by assumption) (StP.drop h (by exact .cons_cons _ (.cons_cons _ (.cons_cons _ ((List.Sublist.refl _)))))))
      · simp [-List.getD_eq_getElem?_getD] at hc3
        refine AW.skip ?_
        refine Post.then_n ?_
        refine AW.seq ?_
        refine AW.seq ?_
        refine AW.region ?_
        refine RW.q (v := .int .i64 0) rfl (q_assign rfl) ?_
        refine RW.nil ?_
        refine Post.then_n ?_
        refine AW.block ?_
        refine AW.loop (fun s J m => ∃ (i : Nat), ∃ (n : Int), s = [(1, v2s), (2, v1s), (3, .pointer (some (⟨b1, 0, none⟩))), (8, lv), (10, gv), (11, .int .i64 (k : Int)), (12, lv1), (13, .int .i64 n), (14, .int .i64 (i : Int))] ∧ J = St B Φ1 ((.row gv 47 2 gs.length (flat gs)) :: (.row lv 3 1 b.Places.length (left.map (Value.int .i64))) :: (.blk b1 31 [.string b.Name, v1, .int .i64 b.Cells, v3, v4, v5, v6, v7, v8, v9, .int .i64 b.Err]) :: C) ∧ m = (Al.reach b.Places (rs.getD k default).Place).length - i ∧ (i ≤ (Al.reach b.Places (rs.getD k default).Place).length) ∧ (n = Al.litN left (Al.reach b.Places (rs.getD k default).Place) (rs.getD k default).Rate i)) (s0 := _) (J1 := _) (m0 := _) ⟨0, _, rfl, rfl, rfl, (by omega), (by rw [Al.litN, if_neg (by simpa using hc3)]; rfl)⟩ ⟨rfl, rfl, rfl, rfl, rfl, rfl, rfl, rfl, rfl, trivial⟩ (fun _ h => h) ?_
        rintro _ _ _ _ ⟨i, n, rfl, rfl, rfl, hi, hn0⟩
        refine AW.seq ?_
        refine AW.seq ?_
        refine AW.region ?_
        refine RW.q (v := .int .i64 (i : Int)) rfl (q_move rfl) ?_
        refine RW.q (v := lv1) rfl (q_move rfl) ?_
        refine RW.q (v := .int .i64 (((Al.reach b.Places ((rs.getD k default).Place)).length : Nat) : Int)) rfl (q_len_sl rfl hlv1.sl Try.underlying29) ?_
        refine RW.q (v := .bool (decide ((i : Int) < (((Al.reach b.Places ((rs.getD k default).Place)).length : Nat) : Int)))) rfl (q_lss rfl rfl) ?_
        refine RW.nil ?_
        refine Post.then_n ?_
        refine AW.cond (b := decide ((i : Int) < (((Al.reach b.Places ((rs.getD k default).Place)).length : Nat) : Int))) rfl (fun hc6 => ?_) (fun hc6 => ?_)
        · simp [-List.getD_eq_getElem?_getD] at hc6
          refine AW.skip ?_
          refine Post.then_n ?_
          refine AW.seq ?_
          refine AW.block ?_
          have hrq := (Al.reach_ri b.Places (rs.getD k default).Place).2 _ (Al.getD_mem (by assumption))
          refine AW.region ?_
          refine RW.q (v := .int .i64 n) rfl (q_move rfl) ?_
          refine RW.q (v := lv) rfl (q_move rfl) ?_
          refine RW.q (v := lv1) rfl (q_move rfl) ?_
          refine RW.q (v := .int .i64 (i : Int)) rfl (q_move rfl) ?_
          refine RW.q (v := .pointer (some (Value.at lv1 (i * 1)))) rfl (q_indexAddr rfl rfl hlv1.sl Try.underlying29 sz3 (by omega) (by omega) rfl) ?_
          refine RW.q (v := .int .i64 ((Al.reach b.Places ((rs.getD k default).Place)).getD i 0)) rfl (q_load rfl Try.underlying3 rfl (Cell.repInt hlv1 (by omega))) ?_
          refine RW.q (v := .pointer (some (Value.at lv ((((Al.reach b.Places ((rs.getD k default).Place)).getD i 0).toNat) * 1)))) rfl (q_indexAddr rfl rfl hlv2 Try.underlying29 sz3 (by omega) (by omega) rfl) ?_
          refine RW.q (v := .int .i64 ((left).getD (((Al.reach b.Places ((rs.getD k default).Place)).getD i 0).toNat) 0)) rfl (q_load rfl Try.underlying3 rfl (Cell.rowInt 1 rfl (by omega))) ?_
          refine RW.q (v := .int .i64 (min n ((left).getD (((Al.reach b.Places ((rs.getD k default).Place)).getD i 0).toNat) 0))) rfl (q_min rfl rfl) ?_
          refine RW.q (v := .int .i64 (min n ((left).getD (((Al.reach b.Places ((rs.getD k default).Place)).getD i 0).toNat) 0))) rfl (q_assign rfl) ?_
          refine RW.nil ?_
          refine Post.blk_n (Post.then_n ?_)
          refine AW.region ?_
          refine RW.q (v := .int .i64 (i : Int)) rfl (q_move rfl) ?_
          refine RW.q (v := .int .i64 ((i + 1 : Nat) : Int)) rfl (q_add rfl rfl (by omega) (by unfold I64; omega)) ?_
          refine RW.q (v := .int .i64 ((i + 1 : Nat) : Int)) rfl (q_assign rfl) ?_
          refine RW.nil ?_
          exact Post.back (s' := _) (J' := _) (m' := _) (by omega) ⟨i + 1, _, rfl, rfl, rfl, (by omega), (Al.litN_step (by assumption) hn0)⟩ ⟨rfl, rfl, rfl, rfl, rfl, rfl, rfl, rfl, rfl, trivial⟩ (fun _ h => h)
        · simp [-List.getD_eq_getElem?_getD] at hc6
          refine AW.exit ?_
          refine Post.then_x (Post.then_x (Post.blk_hit (Post.then_n ?_)))
          refine AW.seq ?_
          refine AW.seq ?_
          have hn : n = Al.lit left (Al.reach b.Places (rs.getD k default).Place) (rs.getD k default).Rate := hn0.trans (Al.litN_end (by omega))
          refine AW.region ?_
          refine RW.q (v := .int .i64 0) rfl (q_assign rfl) ?_
          refine RW.nil ?_
          refine Post.then_n ?_
          refine AW.block ?_
          refine AW.loop (fun s J m => ∃ (i : Nat), s = [(1, v2s), (2, v1s), (3, .pointer (some (⟨b1, 0, none⟩))), (8, lv), (10, gv), (11, .int .i64 (k : Int)), (12, lv1), (13, .int .i64 n), (15, .int .i64 (i : Int))] ∧ J = St B Φ1 ((.row gv 47 2 gs.length (flat gs)) :: (.row lv 3 1 b.Places.length ((Al.subL left ((Al.reach b.Places (rs.getD k default).Place).take i) n).map (Value.int .i64))) :: (.blk b1 31 [.string b.Name, v1, .int .i64 b.Cells, v3, v4, v5, v6, v7, v8, v9, .int .i64 b.Err]) :: C) ∧ m = (Al.reach b.Places (rs.getD k default).Place).length - i ∧ (i ≤ (Al.reach b.Places (rs.getD k default).Place).length)) (s0 := _) (J1 := _) (m0 := _) ⟨0, rfl, rfl, rfl, (by omega)⟩ ⟨rfl, rfl, rfl, rfl, rfl, rfl, rfl, rfl, rfl, trivial⟩ (fun _ h => h) ?_
          rintro _ _ _ _ ⟨i, rfl, rfl, rfl, hi⟩
          refine AW.seq ?_
          refine AW.seq ?_
          refine AW.region ?_
          refine RW.q (v := .int .i64 (i : Int)) rfl (q_move rfl) ?_
          refine RW.q (v := lv1) rfl (q_move rfl) ?_
          refine RW.q (v := .int .i64 (((Al.reach b.Places ((rs.getD k default).Place)).length : Nat) : Int)) rfl (q_len_sl rfl hlv1.sl Try.underlying29) ?_
          refine RW.q (v := .bool (decide ((i : Int) < (((Al.reach b.Places ((rs.getD k default).Place)).length : Nat) : Int)))) rfl (q_lss rfl rfl) ?_
          refine RW.nil ?_
          refine Post.then_n ?_
          refine AW.cond (b := decide ((i : Int) < (((Al.reach b.Places ((rs.getD k default).Place)).length : Nat) : Int))) rfl (fun hc7 => ?_) (fun hc7 => ?_)
          · simp [-List.getD_eq_getElem?_getD] at hc7
            refine AW.skip ?_
            refine Post.then_n ?_
            refine AW.seq ?_
            refine AW.block ?_
            have hrq := (Al.reach_ri b.Places (rs.getD k default).Place).2 _ (Al.getD_mem (by assumption))
            have hsm := Al.sub_mid (rate := (rs.getD k default).Rate) hLI (Al.reach_ri b.Places (rs.getD k default).Place) (k := i) (by assumption)
            rw [← hn] at hsm
            have hsl := Al.subL_len (n := n) ((Al.reach b.Places (rs.getD k default).Place).take i) left
            have hl2 := hLI.2 ((Al.reach b.Places (rs.getD k default).Place).getD i 0).toNat
            unfold Al.maxI at hl2
            have hlr2 := hlr
            rw [← hn] at hlr2
            have hB_0 := hB
            have r3_0 := r3
            have h1_0 := h1
            have h2_0 := h2
            have hlv1_0 := hlv1
            refine AW.draw (J0 := St B Φ1 ((.row gv 47 2 gs.length (flat gs)) :: (.row lv 3 1 b.Places.length ((Al.subL left ((Al.reach b.Places (rs.getD k default).Place).take i) n).map (Value.int .i64))) :: (.blk b1 31 [.string b.Name, v1, .int .i64 b.Cells, v3, v4, v5, v6, v7, v8, v9, .int .i64 b.Err]) :: C)) [.q, .q, .q, .q, .q, .q, .q, .q, .q, .q, .q, .q, .q, .q, .q, .e] [0, 1, 2, 3, 4, 5, 6, 7, 8, 9, 10, 11, 12, 13, 14, 15] hmix (by kernel_rfl) ?_
            refine DW.q (v := lv) (fun _ h => h) rfl (q_move rfl) ?_
            refine DW.q (v := lv1) (fun _ h => h) rfl (q_move rfl) ?_
            refine DW.q (v := .int .i64 (i : Int)) (fun _ h => h) rfl (q_move rfl) ?_
            refine DW.q (v := .pointer (some (Value.at lv1 (i * 1)))) (fun _ h => h) rfl (q_indexAddr rfl rfl hlv1.sl Try.underlying29 sz3 (by omega) (by omega) rfl) ?_
            refine DW.q (v := .int .i64 ((Al.reach b.Places ((rs.getD k default).Place)).getD i 0)) (fun _ h => h) rfl (q_load rfl Try.underlying3 rfl (Cell.repInt hlv1 (by omega))) ?_
            refine DW.q (v := lv) (fun _ h => h) rfl (q_move rfl) ?_
            refine DW.q (v := lv1) (fun _ h => h) rfl (q_move rfl) ?_
            refine DW.q (v := .int .i64 (i : Int)) (fun _ h => h) rfl (q_move rfl) ?_
            refine DW.q (v := .pointer (some (Value.at lv1 (i * 1)))) (fun _ h => h) rfl (q_indexAddr rfl rfl hlv1.sl Try.underlying29 sz3 (by omega) (by omega) rfl) ?_
            refine DW.q (v := .int .i64 ((Al.reach b.Places ((rs.getD k default).Place)).getD i 0)) (fun _ h => h) rfl (q_load rfl Try.underlying3 rfl (Cell.repInt hlv1 (by omega))) ?_
            refine DW.q (v := .pointer (some (Value.at lv ((((Al.reach b.Places ((rs.getD k default).Place)).getD i 0).toNat) * 1)))) (fun _ h => h) rfl (q_indexAddr rfl rfl hlv2 Try.underlying29 sz3 (by omega) (by omega) rfl) ?_
            refine DW.q (v := .int .i64 ((Al.subL left ((Al.reach b.Places (rs.getD k default).Place).take i) n).getD (((Al.reach b.Places ((rs.getD k default).Place)).getD i 0).toNat) 0)) (fun _ h => h) rfl (q_load rfl Try.underlying3 rfl (Cell.rowInt 1 rfl (by omega))) ?_
            refine DW.q (v := .int .i64 n) (fun _ h => h) rfl (q_move rfl) ?_
            refine DW.q (v := .int .i64 (((Al.subL left ((Al.reach b.Places (rs.getD k default).Place).take i) n).getD (((Al.reach b.Places ((rs.getD k default).Place)).getD i 0).toNat) 0) - n)) (fun _ h => h) rfl (q_sub rfl rfl (by omega) (by unfold I64; omega)) ?_
            refine DW.q (v := .pointer (some (Value.at lv ((((Al.reach b.Places ((rs.getD k default).Place)).getD i 0).toNat) * 1)))) (fun _ h => h) rfl (q_indexAddr rfl rfl hlv2 Try.underlying29 sz3 (by omega) (by omega) rfl) ?_
            refine DW.effn (J' := St B Φ1 ((.row gv 47 2 gs.length (flat gs)) :: (.row lv 3 1 b.Places.length (((Al.subL left ((Al.reach b.Places (rs.getD k default).Place).take i) n).set (((Al.reach b.Places ((rs.getD k default).Place)).getD i 0).toNat) (((Al.subL left ((Al.reach b.Places (rs.getD k default).Place).take i) n).getD (((Al.reach b.Places ((rs.getD k default).Place)).getD i 0).toNat) 0) - n)).map (Value.int .i64))) :: (.blk b1 31 [.string b.Name, v1, .int .i64 b.Cells, v3, v4, v5, v6, v7, v8, v9, .int .i64 b.Err]) :: C)) (fun h => absurd rfl h) (e_storeRow (v := .int .i64 (((Al.subL left ((Al.reach b.Places (rs.getD k default).Place).take i) n).getD (((Al.reach b.Places ((rs.getD k default).Place)).getD i 0).toNat) 0) - n)) 1 rfl rfl rfl sz3 rfl rfl (by simp [-List.getD_eq_getElem?_getD]; omega) (splice_int (by omega)) rfl) ?_
            refine DW.nil ?_
            refine Post.blk_n (Post.then_n ?_)
            refine AW.region ?_
            refine RW.q (v := .int .i64 (i : Int)) rfl (q_move rfl) ?_
            refine RW.q (v := .int .i64 ((i + 1 : Nat) : Int)) rfl (q_add rfl rfl (by omega) (by unfold I64; omega)) ?_
            refine RW.q (v := .int .i64 ((i + 1 : Nat) : Int)) rfl (q_assign rfl) ?_
            refine RW.nil ?_
            exact Post.back (s' := _) (J' := _) (m' := _) (by omega) ⟨i + 1, rfl, rfl, rfl, (by omega)⟩ ⟨rfl, rfl, rfl, rfl, rfl, rfl, rfl, rfl, rfl, trivial⟩ (fun _ h => by rw [Al.subL_step (by assumption)]; exact h)
          · simp [-List.getD_eq_getElem?_getD] at hc7
            refine AW.exit ?_
            refine Post.then_x (Post.then_x (Post.blk_hit (Post.then_n ?_)))
            refine AW.region ?_
            refine RW.q (v := gv) rfl (q_move rfl) ?_
            refine RW.q (v := v2s) rfl (q_move rfl) ?_
            refine RW.q (v := .int .i64 (k : Int)) rfl (q_move rfl) ?_
            refine RW.q (v := .pointer (some (Value.at v2s (k * 9)))) rfl (q_indexAddr rfl rfl h2.sl Try.underlying32 sz45 (by omega) (by omega) rfl) ?_
            refine RW.q (v := .pointer (some (Value.at v2s (k * 9 + 0)))) rfl (q_fieldAddr rfl Try.underlying45 rfl sz3 at_add) ?_
            refine RW.q (v := .int .i64 ((rs.getD k default).Id)) rfl (q_load rfl Try.underlying3 rfl (Cell.repE (j := 0) h2 (by omega) rfl)) ?_
            refine RW.q (v := .int .i64 n) rfl (q_move rfl) ?_
            refine RW.q (v := .agg #[.int .i64 ((rs.getD k default).Id), .int .i64 n]) rfl (q_build (vals := [(0, .int .i64 ((rs.getD k default).Id)), (1, .int .i64 n)]) zero47 Try.underlying47 places47 rfl rfl) ?_
            refine RW.eff (fun b4 : Nat => (.slice (some ⟨b4, 0, none⟩) 1 1)) (fun b4 => St B Φ1 ((.row (.slice (some ⟨b4, 0, none⟩) 1 1) 47 2 1 ([.int .i64 ((rs.getD k default).Id), .int .i64 n])) :: (.row gv 47 2 gs.length (flat gs)) :: (.row lv 3 1 b.Places.length ((Al.subL left ((Al.reach b.Places (rs.getD k default).Place).take i) n).map (Value.int .i64))) :: (.blk b1 31 [.string b.Name, v1, .int .i64 b.Cells, v3, v4, v5, v6, v7, v8, v9, .int .i64 b.Err]) :: C)) rfl (e_buildSlice (vals := [(0, .agg #[.int .i64 ((rs.getD k default).Id), .int .i64 n])]) (cells := [.int .i64 ((rs.getD k default).Id), .int .i64 n]) Try.underlying33 inf47 rfl rfl rfl (by kernel_rfl) rfl) ?_
            intro b4
            refine RW.eff (fun xv : {vq : Value // IsSl vq (gs.length + 1)} => xv.1) (fun xv => St B Φ1 ((.row (.slice (some ⟨b4, 0, none⟩) 1 1) 47 2 1 ([.int .i64 ((rs.getD k default).Id), .int .i64 n])) :: (.row xv.1 47 2 ((gs ++ [(⟨(rs.getD k default).Id, n⟩ : Bt.Grant)]).length) (flat (gs ++ [(⟨(rs.getD k default).Id, n⟩ : Bt.Grant)]))) :: (.row lv 3 1 b.Places.length ((Al.subL left ((Al.reach b.Places (rs.getD k default).Place).take i) n).map (Value.int .i64))) :: (.blk b1 31 [.string b.Name, v1, .int .i64 b.Cells, v3, v4, v5, v6, v7, v8, v9, .int .i64 b.Err]) :: C)) rfl (e_append 1 rfl rfl rfl Try.underlying33 inf47 rfl rfl rfl (Cells.row0 0 rfl) rfl (by omega) (by omega) (fun _ => by simp [flat] <;> rfl)) ?_
            rintro ⟨va3, hva3⟩
            refine RW.wk (J' := St B Φ1 ((.row va3 47 2 ((gs ++ [(⟨(rs.getD k default).Id, n⟩ : Bt.Grant)]).length) (flat (gs ++ [(⟨(rs.getD k default).Id, n⟩ : Bt.Grant)]))) :: (.row lv 3 1 b.Places.length ((Al.subL left ((Al.reach b.Places (rs.getD k default).Place).take i) n).map (Value.int .i64))) :: (.blk b1 31 [.string b.Name, v1, .int .i64 b.Cells, v3, v4, v5, v6, v7, v8, v9, .int .i64 b.Err]) :: C)) (fun _ h => StP.drop h (by exact .cons _ (.cons_cons _ (.cons_cons _ (.cons_cons _ ((List.Sublist.refl _))))))) ?_
            refine RW.q (v := va3) rfl (q_assign rfl) ?_
            refine RW.nil ?_
            refine Post.blk_n (Post.then_n ?_)
            refine AW.region ?_
            refine RW.q (v := .int .i64 (k : Int)) rfl (q_move rfl) ?_
            refine RW.q (v := .int .i64 ((k + 1 : Nat) : Int)) rfl (q_add rfl rfl (by omega) (by unfold I64; omega)) ?_
            refine RW.q (v := .int .i64 ((k + 1 : Nat) : Int)) rfl (q_assign rfl) ?_
            refine RW.nil ?_
            exact Post.back (s' := _) (J' := _) (m' := _) (by omega) ⟨k + 1, Al.subL left (Al.reach b.Places (rs.getD k default).Place) n, gs ++ [(⟨(rs.getD k default).Id, n⟩ : Bt.Grant)], va3, rfl, rfl, rfl, (by omega), (Al.day_step (by omega) hD hn), (by simpa using hva3), (mem_snoc (p := RepE.wf) hgw (show RepE.wf (⟨_, _⟩ : Bt.Grant) from ⟨hwk.1, by rw [hn]; exact Al.lit_i64 hlr (by have := hwk.2.2.2.2.1; unfold I64 at this; exact this)⟩))⟩ ⟨rfl, rfl, rfl, rfl, rfl, rfl, trivial⟩ (fun _ h => by rw [← show (Al.reach b.Places (rs.getD k default).Place).take i = (Al.reach b.Places (rs.getD k default).Place) from List.take_of_length_le (by omega)]; exact StP.know (by assumption) (StP.drop h (by exact .cons_cons _ (.cons_cons _ (.cons_cons _ ((List.Sublist.refl _)))))))
    · simp [-List.getD_eq_getElem?_getD] at hc2
      refine AW.exit ?_
      refine Post.then_x (Post.then_x (Post.blk_hit (Post.then_n ?_)))
      refine AW.seq ?_
      refine AW.region ?_
      refine RW.q (v := gv) rfl (q_move rfl) ?_
      refine RW.q (v := lv) rfl (q_move rfl) ?_
      refine RW.q (v := gv) rfl (q_assign rfl) ?_
      refine RW.q (v := lv) rfl (q_assign rfl) ?_
      refine RW.nil ?_
      refine Post.then_n ?_
      refine AW.ret ?_
      obtain rfl : k = rs.length := by omega
      rw [List.take_length] at hD
      rw [hD]
      refine fin_out2 rfl rfl rfl rfl (fun w' hw => ?_)
      obtain ⟨Φ', hl', hs', hw2⟩ := StP.freeze hw (fun b hb => ((hw.away b (by simp [hb])).2).resolve_right (by rw [hBE]; simp))
      exact ⟨⟨(gv, lv, Φ'), RowS.repE even47 hs' rfl (by simp only [Rep.bytes, maxSl]; omega) hgw, hlv2, hl'⟩, rfl, StP.drop hw2 (.cons_cons _ (.cons _ (List.Sublist.refl _)))⟩

end Go.Proofs.Ytpeojogjeopfaaa
