/- Walks (part WalkC), printed by walk2.py. Conditions: those of each theorem. -/
import Derived.Test.YtpeojogjeopfaaaWalkB
namespace Go.Proofs.Ytpeojogjeopfaaa
open Go Go.K Go.RowKit

set_option maxRecDepth 8000 in
set_option maxHeartbeats 1000000 in
theorem begin_c {B : Bs} {Φ : Hp} {C : List Chunk} (hBE : B.E = []) {b : Bt.Basin} {cs : List Value} (hB : RepV Φ b cs) {sup : List Int} {v1s : Value} (h1 : RepSl Φ sup v1s) (w : World) (hW : (St B Φ C).p w) :
    Calls Try.prog 26 #[.agg cs.toArray, v1s] w fun e w' => ∃ x : {v : Value // IsSl v b.Places.length}, e = .returned (x.1) ∧ (St B Φ (.row x.1 3 1 b.Places.length ((Al.beginL b.Places sup (min b.Places.length sup.length)).map (Value.int .i64)) :: C)).p w' := by
  obtain ⟨v1, v3, v4, v5, v6, v7, v8, v9, hcs, hBw, r1, r3, r4, r5, r6, r7, r8, r9⟩ := (show Rep.rep Φ b cs from hB)
  subst hcs
  have hpm : b.Places.length * 152 ≤ 140737488355328 := r3.max
  refine calls_of_AW (args := [.agg #[.string b.Name, v1, .int .i64 b.Cells, v3, v4, v5, v6, v7, v8, v9, .int .i64 b.Err], v1s]) Try.func26 rfl (Nat.le_of_ble_eq_true rfl) (St B Φ C) hW ?_
  show AW Try.prog 50 [] _ _ _ [(0, .agg #[.string b.Name, v1, .int .i64 b.Cells, v3, v4, v5, v6, v7, v8, v9, .int .i64 b.Err]), (1, v1s)] _
  have hsk : ∀ k, Al.Ok64 (sup.getD k 0) := fun k => by have := h1.i64D k; unfold I64 at this; unfold Al.Ok64 Al.minI Al.maxI; omega
  have hm1 : sup.length * 8 ≤ 140737488355328 := h1.max
  refine AW.seq ?_
  refine AW.region ?_
  refine RW.eff (fun b1 : Nat => .pointer (some (⟨b1, 0, none⟩))) (fun b1 => St B Φ ((.blk b1 31 [.string b.Name, v1, .int .i64 b.Cells, v3, v4, v5, v6, v7, v8, v9, .int .i64 b.Err]) :: C)) rfl (e_boxA (cs := [.string b.Name, v1, .int .i64 b.Cells, v3, v4, v5, v6, v7, v8, v9, .int .i64 b.Err]) rfl) ?_
  intro b1
  refine RW.q (v := (.slice none 0 0)) rfl (q_assign rfl) ?_
  refine RW.nil ?_
  refine Post.then_n ?_
  refine AW.seq ?_
  refine AW.region ?_
  refine RW.q (v := .pointer (some (⟨b1, 3, none⟩))) rfl (q_fieldAddr rfl Try.underlying31 rfl sz23 rfl) ?_
  refine RW.q (v := v3) rfl (q_load rfl Try.underlying23 rfl (Cell.blk 0 rfl rfl)) ?_
  refine RW.q (v := .int .i64 ((b.Places.length : Nat) : Int)) rfl (q_len_sl rfl r3.sl Try.underlying23) ?_
  refine RW.eff (fun b2 : Nat => (.slice (some ⟨b2, 0, none⟩) b.Places.length b.Places.length)) (fun b2 => St B Φ ((.row (.slice (some ⟨b2, 0, none⟩) b.Places.length b.Places.length) 3 1 b.Places.length ((List.replicate b.Places.length 0).map (Value.int .i64))) :: (.blk b1 31 [.string b.Name, v1, .int .i64 b.Cells, v3, v4, v5, v6, v7, v8, v9, .int .i64 b.Err]) :: C)) rfl (e_makeSlice rfl rfl Try.underlying29 inf3 (by omega) (by omega) (by omega) rfl (made_int (n := b.Places.length) (by omega))) ?_
  intro b2
  refine RW.q (v := (.slice (some ⟨b2, 0, none⟩) b.Places.length b.Places.length)) rfl (q_assign rfl) ?_
  refine RW.nil ?_
  refine Post.then_n ?_
  refine AW.seq ?_
  refine AW.seq ?_
  refine AW.region ?_
  refine RW.q (v := .pointer (some (⟨b1, 3, none⟩))) rfl (q_fieldAddr rfl Try.underlying31 rfl sz23 rfl) ?_
  refine RW.q (v := v3) rfl (q_load rfl Try.underlying23 rfl (Cell.blk 1 rfl rfl)) ?_
  refine RW.q (v := .int .i64 ((b.Places.length : Nat) : Int)) rfl (q_len_sl rfl r3.sl Try.underlying23) ?_
  refine RW.q (v := v1s) rfl (q_move rfl) ?_
  refine RW.q (v := .int .i64 ((sup.length : Nat) : Int)) rfl (q_len_sl rfl h1.sl Try.underlying29) ?_
  refine RW.q (v := .int .i64 (min ((b.Places.length : Nat) : Int) ((sup.length : Nat) : Int))) rfl (q_min rfl rfl) ?_
  refine RW.q (v := .int .i64 0) rfl (q_move rfl) ?_
  refine RW.nil ?_
  refine Post.then_n ?_
  refine AW.block ?_
  refine AW.loop (fun s J m => ∃ (k : Nat), s = [(1, v1s), (2, .pointer (some (⟨b1, 0, none⟩))), (5, (.slice (some ⟨b2, 0, none⟩) b.Places.length b.Places.length)), (18, .int .i64 (min ((b.Places.length : Nat) : Int) ((sup.length : Nat) : Int))), (19, .int .i64 (k : Int))] ∧ J = St B Φ ((.row (.slice (some ⟨b2, 0, none⟩) b.Places.length b.Places.length) 3 1 b.Places.length ((Al.beginL b.Places sup k).map (Value.int .i64))) :: (.blk b1 31 [.string b.Name, v1, .int .i64 b.Cells, v3, v4, v5, v6, v7, v8, v9, .int .i64 b.Err]) :: C) ∧ m = min b.Places.length sup.length - k ∧ (k ≤ min b.Places.length sup.length)) (s0 := _) (J1 := _) (m0 := _) ⟨0, rfl, rfl, rfl, (by omega)⟩ ⟨rfl, rfl, rfl, rfl, rfl, trivial⟩ (fun _ h => by rw [Al.beginL_zero]; exact h) ?_
  rintro _ _ _ _ ⟨k, rfl, rfl, rfl, hk⟩
  refine AW.seq ?_
  refine AW.region ?_
  refine RW.q (v := .bool (decide ((k : Int) < min ((b.Places.length : Nat) : Int) ((sup.length : Nat) : Int)))) rfl (q_lss rfl rfl) ?_
  refine RW.nil ?_
  refine Post.then_n ?_
  refine AW.seq ?_
  refine AW.cond (b := decide ((k : Int) < min ((b.Places.length : Nat) : Int) ((sup.length : Nat) : Int))) rfl (fun hc1 => ?_) (fun hc1 => ?_)
  · simp [-List.getD_eq_getElem?_getD] at hc1
    refine AW.skip ?_
    refine Post.then_n ?_
    refine AW.seq ?_
    refine AW.block ?_
    refine AW.seq ?_
    refine AW.region ?_
    refine RW.q (v := .int .i64 (k : Int)) rfl (q_move rfl) ?_
    refine RW.q (v := .int .i64 (k : Int)) rfl (q_assign rfl) ?_
    refine RW.nil ?_
    refine Post.then_n ?_
    refine AW.seq ?_
    refine AW.seq ?_
    refine AW.region ?_
    refine RW.q (v := v1s) rfl (q_move rfl) ?_
    refine RW.q (v := .int .i64 (k : Int)) rfl (q_move rfl) ?_
    refine RW.q (v := .pointer (some (Value.at v1s (k * 1)))) rfl (q_indexAddr rfl rfl h1.sl Try.underlying29 sz3 (by omega) (by omega) rfl) ?_
    refine RW.q (v := .int .i64 (sup.getD k 0)) rfl (q_load rfl Try.underlying3 rfl (Cell.repInt h1 (by omega))) ?_
    refine RW.q (v := .bool (decide (sup.getD k 0 ≤ 0))) rfl (q_leq rfl rfl) ?_
    refine RW.nil ?_
    refine Post.then_n ?_
    refine AW.cond (b := decide (sup.getD k 0 ≤ 0)) rfl (fun hc2 => ?_) (fun hc2 => ?_)
    · simp [-List.getD_eq_getElem?_getD] at hc2
      refine AW.exit ?_
      refine Post.then_x (Post.blk_hit (Post.then_n ?_))
      refine AW.region ?_
      refine RW.q (v := .int .i64 ((k + 1 : Nat) : Int)) rfl (q_add rfl rfl (by omega) (by unfold I64; omega)) ?_
      refine RW.q (v := .int .i64 ((k + 1 : Nat) : Int)) rfl (q_move rfl) ?_
      refine RW.nil ?_
      exact Post.back (s' := _) (J' := _) (m' := _) (by omega) ⟨k + 1, rfl, rfl, rfl, (by omega)⟩ ⟨rfl, rfl, rfl, rfl, rfl, trivial⟩ (fun _ h => by rw [Al.beginL_skip hc2]; exact h)
    · simp [-List.getD_eq_getElem?_getD] at hc2
      refine AW.skip ?_
      refine Post.then_n ?_
      refine AW.seq ?_
      refine AW.region ?_
      refine RW.q (v := .agg #[.string b.Name, v1, .int .i64 b.Cells, v3, v4, v5, v6, v7, v8, v9, .int .i64 b.Err]) rfl (q_loadAgg rfl Try.underlying31 rfl sz31 rfl (Cells.blk 1 rfl)) ?_
      refine RW.q (v := .int .i64 (k : Int)) rfl (q_move rfl) ?_
      refine RW.eff (fun x : {y : Value × Hp // (fun r Ψ => RepSl Ψ (Al.reach b.Places (k : Int)) r) y.1 y.2 ∧ Hp.le Φ y.2} => x.1.1) (fun x => St B x.1.2 ((.row (.slice (some ⟨b2, 0, none⟩) b.Places.length b.Places.length) 3 1 b.Places.length ((Al.beginL b.Places sup k).map (Value.int .i64))) :: (.blk b1 31 [.string b.Name, v1, .int .i64 b.Cells, v3, v4, v5, v6, v7, v8, v9, .int .i64 b.Err]) :: C)) rfl (e_callS (T := fun r Ψ => RepSl Ψ (Al.reach b.Places (k : Int)) r) (args := #[.agg #[.string b.Name, v1, .int .i64 b.Cells, v3, v4, v5, v6, v7, v8, v9, .int .i64 b.Err], .int .i64 (k : Int)]) own14 rfl rfl (fun w1 hw1 => (Reach_c w1 (Go.K.hp w1) (Hp.le_refl _) (hB.mono hw1.phi)).mono fun _ _ => retS_up (fun _ _ _ hl h => h.mono hl))) ?_
      rintro ⟨⟨lv1, Φ1⟩, hlv1, hlΦ1⟩
      replace hlv1 : RepSl Φ1 (Al.reach b.Places (k : Int)) lv1 := hlv1
      replace hlΦ1 : Hp.le Φ Φ1 := hlΦ1
      replace hB := hB.mono hlΦ1
      replace r3 := r3.mono hlΦ1
      replace h1 := h1.mono hlΦ1
      refine RW.q (v := .int .i64 (((Al.reach b.Places (k : Int)).length : Nat) : Int)) rfl (q_len_sl rfl hlv1.sl Try.underlying29) ?_
      refine RW.q (v := .int .i64 0) rfl (q_move rfl) ?_
      refine RW.nil ?_
      refine Post.then_n ?_
      refine AW.block ?_
      refine AW.loop (fun s J m => ∃ (i : Nat), s = [(1, v1s), (2, .pointer (some (⟨b1, 0, none⟩))), (5, (.slice (some ⟨b2, 0, none⟩) b.Places.length b.Places.length)), (6, .int .i64 (k : Int)), (18, .int .i64 (min ((b.Places.length : Nat) : Int) ((sup.length : Nat) : Int))), (19, .int .i64 (k : Int)), (29, lv1), (30, .int .i64 (((Al.reach b.Places (k : Int)).length : Nat) : Int)), (31, .int .i64 (i : Int))] ∧ J = St B Φ1 ((.row (.slice (some ⟨b2, 0, none⟩) b.Places.length b.Places.length) 3 1 b.Places.length ((Al.beginM b.Places sup k i).map (Value.int .i64))) :: (.blk b1 31 [.string b.Name, v1, .int .i64 b.Cells, v3, v4, v5, v6, v7, v8, v9, .int .i64 b.Err]) :: C) ∧ m = (Al.reach b.Places (k : Int)).length - i ∧ (i ≤ (Al.reach b.Places (k : Int)).length)) (s0 := _) (J1 := _) (m0 := _) ⟨0, rfl, rfl, rfl, (by omega)⟩ ⟨rfl, rfl, rfl, rfl, rfl, rfl, rfl, rfl, rfl, trivial⟩ (fun _ h => by rw [Al.beginM_zero]; exact h) ?_
      rintro _ _ _ _ ⟨i, rfl, rfl, rfl, hi⟩
      refine AW.seq ?_
      refine AW.region ?_
      refine RW.q (v := .bool (decide ((i : Int) < (((Al.reach b.Places (k : Int)).length : Nat) : Int)))) rfl (q_lss rfl rfl) ?_
      refine RW.nil ?_
      refine Post.then_n ?_
      refine AW.seq ?_
      refine AW.cond (b := decide ((i : Int) < (((Al.reach b.Places (k : Int)).length : Nat) : Int))) rfl (fun hc3 => ?_) (fun hc3 => ?_)
      · simp [-List.getD_eq_getElem?_getD] at hc3
        refine AW.skip ?_
        refine Post.then_n ?_
        refine AW.seq ?_
        refine AW.block ?_
        refine AW.seq ?_
        have hrl := Al.reach_len b.Places (k : Int)
        have hrq := (Al.reach_ri b.Places (k : Int)).2 _ (Al.getD_mem hc3)
        have hbl := Al.beginM_len b.Places sup k i
        have hgt := Al.beginM_get (ps := b.Places) (sup := sup) (k := k) hc3
        have htr := Al.thereN_rng (ps := b.Places) hsk ((Al.reach b.Places (k : Int)).getD i 0) k
        refine AW.region ?_
        refine RW.q (v := .pointer (some (Value.at lv1 (i * 1)))) rfl (q_indexAddr rfl rfl hlv1.sl Try.underlying29 sz3 (by omega) (by omega) rfl) ?_
        refine RW.q (v := .int .i64 ((Al.reach b.Places (k : Int)).getD i 0)) rfl (q_load rfl Try.underlying3 rfl (Cell.repInt hlv1 (by omega))) ?_
        refine RW.q (v := .int .i64 ((Al.reach b.Places (k : Int)).getD i 0)) rfl (q_assign rfl) ?_
        refine RW.nil ?_
        refine Post.then_n ?_
        have hB_0 := hB
        have r3_0 := r3
        have h1_0 := h1
        have hlv1_0 := hlv1
        refine AW.draw (J0 := St B Φ1 ((.row (.slice (some ⟨b2, 0, none⟩) b.Places.length b.Places.length) 3 1 b.Places.length ((Al.beginM b.Places sup k i).map (Value.int .i64))) :: (.blk b1 31 [.string b.Name, v1, .int .i64 b.Cells, v3, v4, v5, v6, v7, v8, v9, .int .i64 b.Err]) :: C)) [.q, .q, .q, .q, .q, .q, .q, .q, .q, .q, .q, .q, .e] [0, 1, 2, 3, 4, 5, 6, 7, 8, 9, 10, 11, 12] hmix (by kernel_rfl) ?_
        refine DW.q (v := (.slice (some ⟨b2, 0, none⟩) b.Places.length b.Places.length)) (fun _ h => h) rfl (q_move rfl) ?_
        refine DW.q (v := .int .i64 ((Al.reach b.Places (k : Int)).getD i 0)) (fun _ h => h) rfl (q_move rfl) ?_
        refine DW.q (v := (.slice (some ⟨b2, 0, none⟩) b.Places.length b.Places.length)) (fun _ h => h) rfl (q_move rfl) ?_
        refine DW.q (v := .int .i64 ((Al.reach b.Places (k : Int)).getD i 0)) (fun _ h => h) rfl (q_move rfl) ?_
        refine DW.q (v := .pointer (some (Value.at (.slice (some ⟨b2, 0, none⟩) b.Places.length b.Places.length) ((((Al.reach b.Places (k : Int)).getD i 0).toNat) * 1)))) (fun _ h => h) rfl (q_indexAddr rfl rfl isSl_mk Try.underlying29 sz3 (by omega) (by omega) rfl) ?_
        refine DW.q (v := .int .i64 ((Al.beginM b.Places sup k i).getD (((Al.reach b.Places (k : Int)).getD i 0).toNat) 0)) (fun _ h => h) rfl (q_load rfl Try.underlying3 rfl (Cell.rowInt 0 rfl (by omega))) ?_
        refine DW.q (v := v1s) (fun _ h => h) rfl (q_move rfl) ?_
        refine DW.q (v := .int .i64 (k : Int)) (fun _ h => h) rfl (q_move rfl) ?_
        refine DW.q (v := .pointer (some (Value.at v1s (k * 1)))) (fun _ h => h) rfl (q_indexAddr rfl rfl h1.sl Try.underlying29 sz3 (by omega) (by omega) rfl) ?_
        refine DW.q (v := .int .i64 (sup.getD k 0)) (fun _ h => h) rfl (q_load rfl Try.underlying3 rfl (Cell.repInt h1 (by omega))) ?_
        refine DW.q (v := .int .i64 (Al.addS ((Al.beginM b.Places sup k i).getD (((Al.reach b.Places (k : Int)).getD i 0).toNat) 0) (sup.getD k 0))) (fun _ h => h) rfl (q_call (args := #[.int .i64 ((Al.beginM b.Places sup k i).getD (((Al.reach b.Places (k : Int)).getD i 0).toNat) 0), .int .i64 (sup.getD k 0)]) own22 rfl rfl (fun w1 hw1 => Add_c w1 (Go.K.hp w1) (Hp.le_refl _) (by rw [hgt]; exact ⟨by unfold Al.minI; omega, htr.2⟩) (hsk k))) ?_
        refine DW.q (v := .pointer (some (Value.at (.slice (some ⟨b2, 0, none⟩) b.Places.length b.Places.length) ((((Al.reach b.Places (k : Int)).getD i 0).toNat) * 1)))) (fun _ h => h) rfl (q_indexAddr rfl rfl isSl_mk Try.underlying29 sz3 (by omega) (by omega) rfl) ?_
        refine DW.effn (J' := St B Φ1 ((.row (.slice (some ⟨b2, 0, none⟩) b.Places.length b.Places.length) 3 1 b.Places.length (((Al.beginM b.Places sup k i).set (((Al.reach b.Places (k : Int)).getD i 0).toNat) (Al.addS ((Al.beginM b.Places sup k i).getD (((Al.reach b.Places (k : Int)).getD i 0).toNat) 0) (sup.getD k 0))).map (Value.int .i64))) :: (.blk b1 31 [.string b.Name, v1, .int .i64 b.Cells, v3, v4, v5, v6, v7, v8, v9, .int .i64 b.Err]) :: C)) (fun h => absurd rfl h) (e_storeRow (v := .int .i64 (Al.addS ((Al.beginM b.Places sup k i).getD (((Al.reach b.Places (k : Int)).getD i 0).toNat) 0) (sup.getD k 0))) 0 rfl rfl rfl sz3 rfl rfl (by simp [-List.getD_eq_getElem?_getD]; omega) (splice_int (by omega)) rfl) ?_
        refine DW.nil ?_
        refine Post.blk_n (Post.then_n ?_)
        refine AW.region ?_
        refine RW.q (v := .int .i64 ((i + 1 : Nat) : Int)) rfl (q_add rfl rfl (by omega) (by unfold I64; omega)) ?_
        refine RW.q (v := .int .i64 ((i + 1 : Nat) : Int)) rfl (q_move rfl) ?_
        refine RW.nil ?_
        exact Post.back (s' := _) (J' := _) (m' := _) (by omega) ⟨i + 1, rfl, rfl, rfl, (by omega)⟩ ⟨rfl, rfl, rfl, rfl, rfl, rfl, rfl, rfl, rfl, trivial⟩ (fun _ h => by rw [Al.beginM_step hc3]; exact h)
      · simp [-List.getD_eq_getElem?_getD] at hc3
        refine AW.exit ?_
        refine Post.then_x (Post.then_x (Post.blk_hit (Post.blk_n (Post.then_n ?_))))
        refine AW.region ?_
        refine RW.q (v := .int .i64 ((k + 1 : Nat) : Int)) rfl (q_add rfl rfl (by omega) (by unfold I64; omega)) ?_
        refine RW.q (v := .int .i64 ((k + 1 : Nat) : Int)) rfl (q_move rfl) ?_
        refine RW.nil ?_
        exact Post.back (s' := _) (J' := _) (m' := _) (by omega) ⟨k + 1, rfl, rfl, rfl, (by omega)⟩ ⟨rfl, rfl, rfl, rfl, rfl, trivial⟩ (fun _ h => by rw [← Al.beginM_end (i := i) hc2 (by omega)]; exact StP.know (by assumption) h)
  · simp [-List.getD_eq_getElem?_getD] at hc1
    refine AW.exit ?_
    refine Post.then_x (Post.then_x (Post.blk_hit (Post.then_n ?_)))
    refine AW.seq ?_
    refine AW.region ?_
    refine RW.q (v := (.slice (some ⟨b2, 0, none⟩) b.Places.length b.Places.length)) rfl (q_move rfl) ?_
    refine RW.q (v := (.slice (some ⟨b2, 0, none⟩) b.Places.length b.Places.length)) rfl (q_assign rfl) ?_
    refine RW.nil ?_
    refine Post.then_n ?_
    refine AW.ret ?_
    obtain rfl : k = min b.Places.length sup.length := by omega
    exact fin_out1 rfl rfl rfl (fun w' hw => ⟨⟨_, isSl_mk⟩, rfl, StP.drop hw (.cons_cons _ (.cons _ (List.Sublist.refl _)))⟩)

set_option maxRecDepth 8000 in
set_option maxHeartbeats 1000000 in
theorem There_c (w : World) (Φ : Hp) (hΦ : Hp.le Φ (hp w)) {b : Bt.Basin} {cs : List Value} (hB : RepV Φ b cs) {sup : List Int} {v1s : Value} (h1 : RepSl Φ sup v1s) {q : Int} :
    Calls Try.prog 20 #[.agg cs.toArray, v1s, .int .i64 q] w fun e w' => e = .returned (.int .i64 (Al.thereM b.Places sup q)) ∧ Below w.heap.size w w' := by
  obtain ⟨v1, v3, v4, v5, v6, v7, v8, v9, hcs, hBw, r1, r3, r4, r5, r6, r7, r8, r9⟩ := (show Rep.rep Φ b cs from hB)
  subst hcs
  have hpm : b.Places.length * 152 ≤ 140737488355328 := r3.max
  refine calls_of_AW (args := [.agg #[.string b.Name, v1, .int .i64 b.Cells, v3, v4, v5, v6, v7, v8, v9, .int .i64 b.Err], v1s, .int .i64 q]) Try.func20 rfl (Nat.le_of_ble_eq_true rfl) (St ⟨w, Φ, []⟩ Φ []) (StP.init w Φ hΦ []) ?_
  show AW Try.prog 43 [] _ _ _ [(0, .agg #[.string b.Name, v1, .int .i64 b.Cells, v3, v4, v5, v6, v7, v8, v9, .int .i64 b.Err]), (1, v1s), (2, .int .i64 q)] _
  have hsk : ∀ k, Al.Ok64 (sup.getD k 0) := fun k => by have := h1.i64D k; unfold I64 at this; unfold Al.Ok64 Al.minI Al.maxI; omega
  have hm1 : sup.length * 8 ≤ 140737488355328 := h1.max
  refine AW.seq ?_
  refine AW.region ?_
  refine RW.eff (fun b1 : Nat => .pointer (some (⟨b1, 0, none⟩))) (fun b1 => St ⟨w, Φ, []⟩ Φ [.blk b1 31 [.string b.Name, v1, .int .i64 b.Cells, v3, v4, v5, v6, v7, v8, v9, .int .i64 b.Err]]) rfl (e_boxA (cs := [.string b.Name, v1, .int .i64 b.Cells, v3, v4, v5, v6, v7, v8, v9, .int .i64 b.Err]) rfl) ?_
  intro b1
  refine RW.q (v := .int .i64 0) rfl (q_assign rfl) ?_
  refine RW.nil ?_
  refine Post.then_n ?_
  refine AW.seq ?_
  refine AW.region ?_
  refine RW.q (v := .int .i64 0) rfl (q_assign rfl) ?_
  refine RW.nil ?_
  refine Post.then_n ?_
  refine AW.seq ?_
  refine AW.seq ?_
  refine AW.region ?_
  refine RW.q (v := .int .i64 0) rfl (q_assign rfl) ?_
  refine RW.nil ?_
  refine Post.then_n ?_
  refine AW.block ?_
  refine AW.loop (fun s J m => ∃ (k : Nat), ∃ (a : Int), s = [(1, v1s), (2, .int .i64 q), (3, .pointer (some (⟨b1, 0, none⟩))), (7, .int .i64 a), (8, .int .i64 (k : Int))] ∧ J = St ⟨w, Φ, []⟩ Φ [.blk b1 31 [.string b.Name, v1, .int .i64 b.Cells, v3, v4, v5, v6, v7, v8, v9, .int .i64 b.Err]] ∧ m = b.Places.length - k ∧ (k ≤ min b.Places.length sup.length) ∧ (a = Al.thereN b.Places sup q k)) (s0 := _) (J1 := _) (m0 := _) ⟨0, 0, rfl, rfl, rfl, (by omega), rfl⟩ ⟨rfl, rfl, rfl, rfl, rfl, trivial⟩ (fun _ h => h) ?_
  rintro _ _ _ _ ⟨k, a, rfl, rfl, rfl, hk, ha⟩
  refine AW.seq ?_
  refine AW.seq ?_
  refine AW.region ?_
  refine RW.q (v := .int .i64 (k : Int)) rfl (q_move rfl) ?_
  refine RW.q (v := .pointer (some (⟨b1, 3, none⟩))) rfl (q_fieldAddr rfl Try.underlying31 rfl sz23 rfl) ?_
  refine RW.q (v := v3) rfl (q_load rfl Try.underlying23 rfl (Cell.blk 0 rfl rfl)) ?_
  refine RW.q (v := .int .i64 ((b.Places.length : Nat) : Int)) rfl (q_len_sl rfl r3.sl Try.underlying23) ?_
  refine RW.q (v := .bool (decide ((k : Int) < ((b.Places.length : Nat) : Int)))) rfl (q_lss rfl rfl) ?_
  refine RW.q (v := .bool (decide ((k : Int) < ((b.Places.length : Nat) : Int)))) rfl (q_move rfl) ?_
  refine RW.g (b := (decide ((k : Int) < ((b.Places.length : Nat) : Int)))) (v := .int .i64 (k : Int)) rfl rfl rfl (fun h => q_move rfl) ?_
  refine RW.g (b := (decide ((k : Int) < ((b.Places.length : Nat) : Int)))) (v := v1s) rfl rfl rfl (fun h => q_move rfl) ?_
  refine RW.g (b := (decide ((k : Int) < ((b.Places.length : Nat) : Int)))) (v := .int .i64 ((sup.length : Nat) : Int)) rfl rfl rfl (fun h => q_len_sl (gv_pos h) h1.sl Try.underlying29) ?_
  refine RW.g (b := (decide ((k : Int) < ((b.Places.length : Nat) : Int)))) (v := .bool (decide ((k : Int) < ((sup.length : Nat) : Int)))) rfl rfl rfl (fun h => q_lss (gv_pos h) (gv_pos h)) ?_
  refine RW.q (v := .bool ((decide ((k : Int) < ((b.Places.length : Nat) : Int))) && (decide ((k : Int) < ((sup.length : Nat) : Int))))) rfl (q_pick rfl (fun hp => (gv_pos hp).trans (pkAndT hp)) (fun hp => pkAndF hp)) ?_
  refine RW.nil ?_
  refine Post.then_n ?_
  refine AW.cond (b := (decide ((k : Int) < ((b.Places.length : Nat) : Int))) && (decide ((k : Int) < ((sup.length : Nat) : Int)))) rfl (fun hc1 => ?_) (fun hc1 => ?_)
  · simp [-List.getD_eq_getElem?_getD] at hc1
    refine AW.skip ?_
    refine Post.then_n ?_
    refine AW.seq ?_
    refine AW.block ?_
    refine AW.seq ?_
    refine AW.region ?_
    refine RW.q (v := .agg #[.string b.Name, v1, .int .i64 b.Cells, v3, v4, v5, v6, v7, v8, v9, .int .i64 b.Err]) rfl (q_loadAgg rfl Try.underlying31 rfl sz31 rfl (Cells.blk 0 rfl)) ?_
    refine RW.q (v := .int .i64 (k : Int)) rfl (q_move rfl) ?_
    refine RW.eff (fun x : {y : Value × Hp // (fun r Ψ => RepSl Ψ (Al.reach b.Places (k : Int)) r) y.1 y.2 ∧ Hp.le Φ y.2} => x.1.1) (fun x => St ⟨w, Φ, []⟩ x.1.2 [.blk b1 31 [.string b.Name, v1, .int .i64 b.Cells, v3, v4, v5, v6, v7, v8, v9, .int .i64 b.Err]]) rfl (e_callS (T := fun r Ψ => RepSl Ψ (Al.reach b.Places (k : Int)) r) (args := #[.agg #[.string b.Name, v1, .int .i64 b.Cells, v3, v4, v5, v6, v7, v8, v9, .int .i64 b.Err], .int .i64 (k : Int)]) own15 rfl rfl (fun w1 hw1 => (rReach_c w1 (Go.K.hp w1) (Hp.le_refl _) (hB.mono hw1.phi)).mono fun _ _ => retS_up (fun _ _ _ hl h => h.mono hl))) ?_
    rintro ⟨⟨lv1, Φ1⟩, hlv1, hlΦ1⟩
    replace hlv1 : RepSl Φ1 (Al.reach b.Places (k : Int)) lv1 := hlv1
    replace hlΦ1 : Hp.le Φ Φ1 := hlΦ1
    replace hB := hB.mono hlΦ1
    replace r3 := r3.mono hlΦ1
    replace h1 := h1.mono hlΦ1
    refine RW.q (v := .int .i64 q) rfl (q_move rfl) ?_
    refine RW.q (v := .bool (decide (q ∈ (Al.reach b.Places (k : Int))))) rfl (q_call (args := #[lv1, .int .i64 q]) own21 rfl rfl (fun w1 hw1 => Has_c w1 (Go.K.hp w1) (Hp.le_refl _) (hlv1.mono hw1.phi))) ?_
    refine RW.q (v := .bool (decide (q ∈ (Al.reach b.Places (k : Int))))) rfl (q_assign rfl) ?_
    refine RW.nil ?_
    refine Post.then_n ?_
    refine AW.seq ?_
    refine AW.region ?_
    refine RW.q (v := .bool (decide (q ∈ (Al.reach b.Places (k : Int))))) rfl (q_move rfl) ?_
    refine RW.q (v := .bool (decide (q ∈ (Al.reach b.Places (k : Int))))) rfl (q_move rfl) ?_
    refine RW.g (b := (decide (q ∈ (Al.reach b.Places (k : Int))))) (v := v1s) rfl rfl rfl (fun h => q_move rfl) ?_
    refine RW.g (b := (decide (q ∈ (Al.reach b.Places (k : Int))))) (v := .int .i64 (k : Int)) rfl rfl rfl (fun h => q_move rfl) ?_
    refine RW.g (b := (decide (q ∈ (Al.reach b.Places (k : Int))))) (v := .pointer (some (Value.at v1s (k * 1)))) rfl rfl rfl (fun h => q_indexAddr (gv_pos h) (gv_pos h) h1.sl Try.underlying29 sz3 (by (try simp [-List.getD_eq_getElem?_getD] at h); omega) (by (try simp [-List.getD_eq_getElem?_getD] at h); omega) rfl) ?_
    refine RW.g (b := (decide (q ∈ (Al.reach b.Places (k : Int))))) (v := .int .i64 (sup.getD k 0)) rfl rfl rfl (fun h => q_load (gv_pos h) Try.underlying3 rfl (Cell.repInt h1 (by (try simp [-List.getD_eq_getElem?_getD] at h); omega))) ?_
    refine RW.g (b := (decide (q ∈ (Al.reach b.Places (k : Int))))) (v := .bool (decide ((0 : Int) < sup.getD k 0))) rfl rfl rfl (fun h => q_gtr (gv_pos h) rfl) ?_
    refine RW.q (v := .bool ((decide (q ∈ (Al.reach b.Places (k : Int)))) && (decide ((0 : Int) < sup.getD k 0)))) rfl (q_pick rfl (fun hp => (gv_pos hp).trans (pkAndT hp)) (fun hp => pkAndF hp)) ?_
    refine RW.nil ?_
    refine Post.then_n ?_
    refine AW.cond (b := (decide (q ∈ (Al.reach b.Places (k : Int)))) && (decide ((0 : Int) < sup.getD k 0))) rfl (fun hc2 => ?_) (fun hc2 => ?_)
    · simp [-List.getD_eq_getElem?_getD] at hc2
      have htr := Al.thereN_rng (ps := b.Places) hsk q k
      refine AW.region ?_
      refine RW.q (v := .int .i64 a) rfl (q_move rfl) ?_
      refine RW.q (v := v1s) rfl (q_move rfl) ?_
      refine RW.q (v := .int .i64 (k : Int)) rfl (q_move rfl) ?_
      refine RW.q (v := .pointer (some (Value.at v1s (k * 1)))) rfl (q_indexAddr rfl rfl h1.sl Try.underlying29 sz3 (by omega) (by omega) rfl) ?_
      refine RW.q (v := .int .i64 (sup.getD k 0)) rfl (q_load rfl Try.underlying3 rfl (Cell.repInt h1 (by omega))) ?_
      refine RW.q (v := .int .i64 (Al.addS a (sup.getD k 0))) rfl (q_call (args := #[.int .i64 a, .int .i64 (sup.getD k 0)]) own34 rfl rfl (fun w1 hw1 => rAdd_c w1 (Go.K.hp w1) (Hp.le_refl _) (by rw [ha]; exact ⟨by unfold Al.minI; omega, htr.2⟩) (hsk k))) ?_
      refine RW.q (v := .int .i64 (Al.addS a (sup.getD k 0))) rfl (q_assign rfl) ?_
      refine RW.nil ?_
      refine Post.blk_n (Post.then_n ?_)
      refine AW.region ?_
      refine RW.q (v := .int .i64 (k : Int)) rfl (q_move rfl) ?_
      refine RW.q (v := .int .i64 ((k + 1 : Nat) : Int)) rfl (q_add rfl rfl (by omega) (by unfold I64; omega)) ?_
      refine RW.q (v := .int .i64 ((k + 1 : Nat) : Int)) rfl (q_assign rfl) ?_
      refine RW.nil ?_
      exact Post.back (s' := _) (J' := _) (m' := _) (by omega) ⟨k + 1, _, rfl, rfl, rfl, (by omega), (by rw [Al.thereN, if_pos ⟨hc2.1, hc2.2⟩, ha])⟩ ⟨rfl, rfl, rfl, rfl, rfl, trivial⟩ (fun _ h => StP.know (by assumption) h)
    · simp [-List.getD_eq_getElem?_getD] at hc2
      refine AW.skip ?_
      refine Post.blk_n (Post.then_n ?_)
      refine AW.region ?_
      refine RW.q (v := .int .i64 (k : Int)) rfl (q_move rfl) ?_
      refine RW.q (v := .int .i64 ((k + 1 : Nat) : Int)) rfl (q_add rfl rfl (by omega) (by unfold I64; omega)) ?_
      refine RW.q (v := .int .i64 ((k + 1 : Nat) : Int)) rfl (q_assign rfl) ?_
      refine RW.nil ?_
      exact Post.back (s' := _) (J' := _) (m' := _) (by omega) ⟨k + 1, a, rfl, rfl, rfl, (by omega), (by rw [Al.thereN, if_neg (fun h => by have := hc2 h.1; omega), ha])⟩ ⟨rfl, rfl, rfl, rfl, rfl, trivial⟩ (fun _ h => StP.know (by assumption) h)
  · simp [-List.getD_eq_getElem?_getD] at hc1
    refine AW.exit ?_
    refine Post.then_x (Post.then_x (Post.blk_hit (Post.then_n ?_)))
    refine AW.seq ?_
    refine AW.region ?_
    refine RW.q (v := .int .i64 a) rfl (q_move rfl) ?_
    refine RW.q (v := .int .i64 a) rfl (q_assign rfl) ?_
    refine RW.nil ?_
    refine Post.then_n ?_
    refine AW.ret ?_
    exact fin_val (v' := .int .i64 a) rfl rfl rfl (by rw [ha, show k = min b.Places.length sup.length by omega]; rfl)

end Go.Proofs.Ytpeojogjeopfaaa
