/- The walks of layer 11 (part WalkH), printed by walk.py. Conditions: those of each theorem. -/
import Derived.Test.YtjkoojeampaeeaaWalkG
import Derived.Test.YtjkoojeampaeeaaCore2
import Derived.Test.YtjkoojeampaeeaaTells2
namespace Go.Proofs.Ytjkoojeampaeeaa
open Go Go.K Go.RowKit

set_option maxHeartbeats 1000000 in
theorem rSteps_c (w : World) (Φ : Hp) (hΦ : Hp.le Φ (hp w)) {n : Nat} {arcs : List Gr.Arc} {v1 : Value} (h1 : RepSl Φ arcs v1) (hok : Gr.Ok n arcs) (hn2 : n ≤ 256) {b : Int} (hb : 0 ≤ b ∧ b < n) :
    Calls Try.prog 33 #[.int .i64 (n : Int), v1, .int .i64 b] w (RetS noHp w fun r Ψ => RepSl Ψ (Gr.distL n (Gr.rev arcs) b) r) := by
  refine calls_of_AW (args := [.int .i64 (n : Int), v1, .int .i64 b]) Try.func33 rfl (Nat.le_of_ble_eq_true rfl) (St ⟨w, Φ, []⟩ Φ []) (StP.init w Φ hΦ []) ?_
  show AW Try.prog 75 [] _ _ _ [(0, .int .i64 (n : Int)), (1, v1), (2, .int .i64 b)] _
  have hm1 : arcs.length * 16 ≤ 140737488355328 := h1.max
  refine AW.seq ?_
  refine AW.region ?_
  refine RW.q (v := (.slice none 0 0)) rfl (q_assign rfl) ?_
  refine RW.nil ?_
  refine Post.then_n ?_
  refine AW.seq ?_
  refine AW.region ?_
  refine RW.q (v := .int .i64 (n : Int)) rfl (q_move rfl) ?_
  refine RW.eff (fun b1 : Nat => (.slice (some ⟨b1, 0, none⟩) n n)) (fun b1 => St ⟨w, Φ, []⟩ Φ [.row (.slice (some ⟨b1, 0, none⟩) n n) 3 1 n ((List.replicate n 0).map (Value.int .i64))]) rfl (e_makeSlice rfl rfl Try.underlying25 inf3 (by omega) (by omega) (by omega) rfl (made_int (n := n) (by omega))) ?_
  intro b1
  refine RW.q (v := (.slice (some ⟨b1, 0, none⟩) n n)) rfl (q_assign rfl) ?_
  refine RW.nil ?_
  refine Post.then_n ?_
  refine AW.seq ?_
  refine AW.seq ?_
  refine AW.region ?_
  refine RW.q (v := .int .i64 0) rfl (q_assign rfl) ?_
  refine RW.nil ?_
  refine Post.then_n ?_
  refine AW.block ?_
  refine AW.loop (fun s J m => ∃ (k : Nat), ∃ (L : List Int), s = [(0, .int .i64 (n : Int)), (1, v1), (2, .int .i64 b), (7, (.slice (some ⟨b1, 0, none⟩) n n)), (8, .int .i64 (k : Int))] ∧ J = St ⟨w, Φ, []⟩ Φ [.row (.slice (some ⟨b1, 0, none⟩) n n) 3 1 n (L.map (Value.int .i64))] ∧ m = n - k ∧ (k ≤ n) ∧ (L.length = n) ∧ (∀ j, j < k → L.getD j 0 = -1)) (s0 := _) (J1 := _) (m0 := _) ⟨0, _, rfl, rfl, rfl, (by omega), (by simp), (by omega)⟩ ⟨rfl, rfl, rfl, rfl, rfl, trivial⟩ (fun _ h => h) ?_
  rintro _ _ _ _ ⟨k, L, rfl, rfl, rfl, hk, hL, heq⟩
  refine AW.seq ?_
  refine AW.seq ?_
  refine AW.region ?_
  refine RW.q (v := .int .i64 (k : Int)) rfl (q_move rfl) ?_
  refine RW.q (v := .int .i64 (n : Int)) rfl (q_move rfl) ?_
  refine RW.q (v := .bool (decide ((k : Int) < (n : Int)))) rfl (q_lss rfl rfl) ?_
  refine RW.nil ?_
  refine Post.then_n ?_
  refine AW.cond (b := decide ((k : Int) < (n : Int))) rfl (fun hc1 => ?_) (fun hc1 => ?_)
  · simp [-List.getD_eq_getElem?_getD] at hc1
    refine AW.skip ?_
    refine Post.then_n ?_
    refine AW.seq ?_
    refine AW.block ?_
    refine AW.region ?_
    refine RW.q (v := (.slice (some ⟨b1, 0, none⟩) n n)) rfl (q_move rfl) ?_
    refine RW.q (v := .int .i64 (k : Int)) rfl (q_move rfl) ?_
    refine RW.q (v := .pointer (some (Value.at (.slice (some ⟨b1, 0, none⟩) n n) (k * 1)))) rfl (q_indexAddr rfl rfl isSl_mk Try.underlying25 sz3 (by omega) (by omega) rfl) ?_
    refine RW.effn (J' := St ⟨w, Φ, []⟩ Φ [.row (.slice (some ⟨b1, 0, none⟩) n n) 3 1 n ((L.set k (-1)).map (Value.int .i64))]) (e_storeRow (v := .int .i64 (-1)) 0 rfl rfl rfl sz3 rfl rfl (by simp [-List.getD_eq_getElem?_getD]; omega) (splice_int (by omega)) rfl) ?_
    refine RW.nil ?_
    refine Post.blk_n (Post.then_n ?_)
    refine AW.region ?_
    refine RW.q (v := .int .i64 (k : Int)) rfl (q_move rfl) ?_
    refine RW.q (v := .int .i64 ((k + 1 : Nat) : Int)) rfl (q_add rfl rfl (by omega) (by unfold I64; omega)) ?_
    refine RW.q (v := .int .i64 ((k + 1 : Nat) : Int)) rfl (q_assign rfl) ?_
    refine RW.nil ?_
    exact Post.back (s' := _) (J' := _) (m' := _) (by omega) ⟨k + 1, _, rfl, rfl, rfl, (by omega), (by simp [hL]), (fill_set (by omega) heq)⟩ ⟨rfl, rfl, rfl, rfl, rfl, trivial⟩ (fun _ h => h)
  · simp [-List.getD_eq_getElem?_getD] at hc1
    refine AW.exit ?_
    refine Post.then_x (Post.then_x (Post.blk_hit (Post.then_n ?_)))
    refine AW.seq ?_
    obtain rfl : L = List.replicate n (-1) := fill_eq hL (fun j hj => heq j (by omega))
    refine AW.region ?_
    refine RW.q (v := (.slice (some ⟨b1, 0, none⟩) n n)) rfl (q_move rfl) ?_
    refine RW.q (v := .int .i64 b) rfl (q_move rfl) ?_
    refine RW.q (v := .pointer (some (Value.at (.slice (some ⟨b1, 0, none⟩) n n) (b.toNat * 1)))) rfl (q_indexAddr rfl rfl isSl_mk Try.underlying25 sz3 (by omega) (by omega) rfl) ?_
    refine RW.effn (J' := St ⟨w, Φ, []⟩ Φ [.row (.slice (some ⟨b1, 0, none⟩) n n) 3 1 n (((List.replicate n (-1)).set b.toNat 0).map (Value.int .i64))]) (e_storeRow (v := .int .i64 0) 0 rfl rfl rfl sz3 rfl rfl (by simp [-List.getD_eq_getElem?_getD]; omega) (splice_int (by omega)) rfl) ?_
    refine RW.nil ?_
    refine Post.then_n ?_
    refine AW.seq ?_
    refine AW.region ?_
    refine RW.q (v := .bool true) rfl (q_assign rfl) ?_
    refine RW.nil ?_
    refine Post.then_n ?_
    refine AW.seq ?_
    refine AW.block ?_
    refine AW.loop (fun s J m => ∃ (L : List Int), ∃ (ch : Bool), s = [(1, v1), (7, (.slice (some ⟨b1, 0, none⟩) n n)), (9, .bool ch)] ∧ J = St ⟨w, Φ, []⟩ Φ [.row (.slice (some ⟨b1, 0, none⟩) n n) 3 1 n (L.map (Value.int .i64))] ∧ m = (2 * Gr.pot n L + (if ch then 1 else 0)).toNat ∧ (Gr.SI n arcs b L) ∧ (ch = false → ∀ a ∈ arcs, Gr.stable L a)) (s0 := _) (J1 := _) (m0 := _) ⟨_, true, rfl, rfl, rfl, (Gr.SI.start hb), (fun h => nomatch h)⟩ ⟨rfl, rfl, rfl, trivial⟩ (fun _ h => h) ?_
    rintro _ _ _ _ ⟨L, ch, rfl, rfl, rfl, hS, hst⟩
    refine AW.seq ?_
    refine AW.seq ?_
    refine AW.region ?_
    refine RW.q (v := .bool ch) rfl (q_move rfl) ?_
    refine RW.nil ?_
    refine Post.then_n ?_
    refine AW.cond (b := ch) rfl (fun hc2 => ?_) (fun hc2 => ?_)
    · skip
      refine AW.skip ?_
      refine Post.then_n ?_
      refine AW.block ?_
      refine AW.seq ?_
      refine AW.region ?_
      refine RW.q (v := .bool false) rfl (q_assign rfl) ?_
      refine RW.nil ?_
      refine Post.then_n ?_
      refine AW.seq ?_
      refine AW.region ?_
      refine RW.q (v := .int .i64 0) rfl (q_assign rfl) ?_
      refine RW.nil ?_
      refine Post.then_n ?_
      refine AW.block ?_
      refine AW.loop (fun s J m => ∃ (k : Nat), ∃ (M : List Int), ∃ (c2 : Bool), s = [(1, v1), (7, (.slice (some ⟨b1, 0, none⟩) n n)), (9, .bool c2), (10, .int .i64 (k : Int))] ∧ J = St ⟨w, Φ, []⟩ Φ [.row (.slice (some ⟨b1, 0, none⟩) n n) 3 1 n (M.map (Value.int .i64))] ∧ m = arcs.length - k ∧ (k ≤ arcs.length) ∧ (Gr.SI n arcs b M) ∧ (Gr.pot n M ≤ Gr.pot n L) ∧ (c2 = true → Gr.pot n M < Gr.pot n L) ∧ (c2 = false → M = L ∧ ∀ j, j < k → Gr.stable L (arcs.getD j default))) (s0 := _) (J1 := _) (m0 := _) ⟨0, _, false, rfl, rfl, rfl, (by omega), hS, (Int.le_refl _), (fun h => nomatch h), (fun _ => ⟨rfl, fun _ h => absurd h (Nat.not_lt_zero _)⟩)⟩ ⟨rfl, rfl, rfl, rfl, trivial⟩ (fun _ h => h) ?_
      rintro _ _ _ _ ⟨k, M, c2, rfl, rfl, rfl, hk, hM, hle, hct, hcf⟩
      refine AW.seq ?_
      refine AW.seq ?_
      refine AW.region ?_
      refine RW.q (v := .int .i64 (k : Int)) rfl (q_move rfl) ?_
      refine RW.q (v := v1) rfl (q_move rfl) ?_
      refine RW.q (v := .int .i64 ((arcs.length : Nat) : Int)) rfl (q_len_sl rfl h1.sl Try.underlying22) ?_
      refine RW.q (v := .bool (decide ((k : Int) < ((arcs.length : Nat) : Int)))) rfl (q_lss rfl rfl) ?_
      refine RW.nil ?_
      refine Post.then_n ?_
      refine AW.cond (b := decide ((k : Int) < ((arcs.length : Nat) : Int))) rfl (fun hc3 => ?_) (fun hc3 => ?_)
      · simp [-List.getD_eq_getElem?_getD] at hc3
        refine AW.skip ?_
        refine Post.then_n ?_
        refine AW.seq ?_
        refine AW.block ?_
        refine AW.seq ?_
        have ha := hok _ (Gr.getD_mem hc3)
        have hML := hM.len
        have hcT := hM.cnt _ ha.2.1 ha.2.2
        have hcn := Gr.cnt_le M
        have hloT := hM.lo _ ha.2.1 ha.2.2
        refine AW.region ?_
        refine RW.q (v := v1) rfl (q_move rfl) ?_
        refine RW.q (v := .int .i64 (k : Int)) rfl (q_move rfl) ?_
        refine RW.q (v := .pointer (some (Value.at v1 (k * 2)))) rfl (q_indexAddr rfl rfl h1.sl Try.underlying22 sz31 (by omega) (by omega) rfl) ?_
        refine RW.q (v := .agg #[.int .i64 ((arcs.getD k default).From), .int .i64 ((arcs.getD k default).To)]) rfl (q_loadAgg rfl Try.underlying31 rfl sz31 rfl (Cells.repE h1 (by omega) rfl)) ?_
        refine RW.eff (fun b2 : Nat => .pointer (some (⟨b2, 0, none⟩))) (fun b2 => St ⟨w, Φ, []⟩ Φ [.blk b2 31 [.int .i64 0, .int .i64 0], .row (.slice (some ⟨b1, 0, none⟩) n n) 3 1 n (M.map (Value.int .i64))]) rfl (e_alloc zero31) ?_
        intro b2
        refine RW.effn (J' := St ⟨w, Φ, []⟩ Φ [.blk b2 31 [.int .i64 ((arcs.getD k default).From), .int .i64 ((arcs.getD k default).To)], .row (.slice (some ⟨b1, 0, none⟩) n n) 3 1 n (M.map (Value.int .i64))]) (e_store (v := .agg #[.int .i64 ((arcs.getD k default).From), .int .i64 ((arcs.getD k default).To)]) 0 rfl rfl rfl sz31 rfl rfl rfl rfl rfl) ?_
        refine RW.nil ?_
        refine Post.then_n ?_
        refine AW.seq ?_
        refine AW.draw (J0 := St ⟨w, Φ, []⟩ Φ [.blk b2 31 [.int .i64 ((arcs.getD k default).From), .int .i64 ((arcs.getD k default).To)], .row (.slice (some ⟨b1, 0, none⟩) n n) 3 1 n (M.map (Value.int .i64))]) [true, true, true, true, true, true, true, true, true, true, true, true, true, true, true, true, true, true, true, true, true, true, true, true, true, true, true, true] hmix (by kernel_rfl) ?_
        refine DW.q (v := (.slice (some ⟨b1, 0, none⟩) n n)) (fun _ h => h) rfl (q_move rfl) ?_
        refine DW.q (v := .pointer (some (⟨b2, 1, none⟩))) (fun _ h => h) rfl (q_fieldAddr rfl Try.underlying31 rfl sz3 rfl) ?_
        refine DW.q (v := .int .i64 ((arcs.getD k default).To)) (fun _ h => h) rfl (q_load rfl Try.underlying3 rfl (Cell.blk 0 rfl rfl)) ?_
        refine DW.q (v := .pointer (some (Value.at (.slice (some ⟨b1, 0, none⟩) n n) ((((arcs.getD k default).To).toNat) * 1)))) (fun _ h => h) rfl (q_indexAddr rfl rfl isSl_mk Try.underlying25 sz3 (by omega) (by omega) rfl) ?_
        refine DW.q (v := .int .i64 ((M).getD (((arcs.getD k default).To).toNat) 0)) (fun _ h => h) rfl (q_load rfl Try.underlying3 rfl (Cell.rowInt 1 rfl (by omega))) ?_
        refine DW.q (v := .bool (decide ((0 : Int) ≤ (M).getD (((arcs.getD k default).To).toNat) 0))) (fun _ h => h) rfl (q_geq rfl rfl) ?_
        refine DW.q (v := .bool (decide ((0 : Int) ≤ (M).getD (((arcs.getD k default).To).toNat) 0))) (fun _ h => h) rfl (q_move rfl) ?_
        refine DW.g (b := (decide ((0 : Int) ≤ (M).getD (((arcs.getD k default).To).toNat) 0))) (v := (.slice (some ⟨b1, 0, none⟩) n n)) (fun _ h => h) rfl rfl rfl (fun h => q_move rfl) ?_
        refine DW.g (b := (decide ((0 : Int) ≤ (M).getD (((arcs.getD k default).To).toNat) 0))) (v := .pointer (some (⟨b2, 0, none⟩))) (fun _ h => h) rfl rfl rfl (fun h => q_fieldAddr rfl Try.underlying31 rfl sz3 rfl) ?_
        refine DW.g (b := (decide ((0 : Int) ≤ (M).getD (((arcs.getD k default).To).toNat) 0))) (v := .int .i64 ((arcs.getD k default).From)) (fun _ h => h) rfl rfl rfl (fun h => q_load (gv_pos h) Try.underlying3 rfl (Cell.blk 0 rfl rfl)) ?_
        refine DW.g (b := (decide ((0 : Int) ≤ (M).getD (((arcs.getD k default).To).toNat) 0))) (v := .pointer (some (Value.at (.slice (some ⟨b1, 0, none⟩) n n) ((((arcs.getD k default).From).toNat) * 1)))) (fun _ h => h) rfl rfl rfl (fun h => q_indexAddr (gv_pos h) (gv_pos h) isSl_mk Try.underlying25 sz3 (by (try simp [-List.getD_eq_getElem?_getD] at h); omega) (by (try simp [-List.getD_eq_getElem?_getD] at h); omega) rfl) ?_
        refine DW.g (b := (decide ((0 : Int) ≤ (M).getD (((arcs.getD k default).To).toNat) 0))) (v := .int .i64 ((M).getD (((arcs.getD k default).From).toNat) 0)) (fun _ h => h) rfl rfl rfl (fun h => q_load (gv_pos h) Try.underlying3 rfl (Cell.rowInt 1 rfl (by (try simp [-List.getD_eq_getElem?_getD] at h); omega))) ?_
        refine DW.g (b := (decide ((0 : Int) ≤ (M).getD (((arcs.getD k default).To).toNat) 0))) (v := .bool (decide ((M).getD (((arcs.getD k default).From).toNat) 0 < 0))) (fun _ h => h) rfl rfl rfl (fun h => q_lss (gv_pos h) rfl) ?_
        refine DW.g (b := (decide ((0 : Int) ≤ (M).getD (((arcs.getD k default).To).toNat) 0))) (v := .bool (decide ((M).getD (((arcs.getD k default).From).toNat) 0 < 0))) (fun _ h => h) rfl rfl rfl (fun h => q_move (gv_pos h)) ?_
        refine DW.g2 (b1 := (decide ((0 : Int) ≤ (M).getD (((arcs.getD k default).To).toNat) 0))) (b2 := (decide ((M).getD (((arcs.getD k default).From).toNat) 0 < 0))) (v := (.slice (some ⟨b1, 0, none⟩) n n)) (fun _ h => h) rfl rfl rfl (fun hg1 hg2 => q_move rfl) ?_
        refine DW.g2 (b1 := (decide ((0 : Int) ≤ (M).getD (((arcs.getD k default).To).toNat) 0))) (b2 := (decide ((M).getD (((arcs.getD k default).From).toNat) 0 < 0))) (v := .pointer (some (⟨b2, 0, none⟩))) (fun _ h => h) rfl rfl rfl (fun hg1 hg2 => q_fieldAddr rfl Try.underlying31 rfl sz3 rfl) ?_
        refine DW.g2 (b1 := (decide ((0 : Int) ≤ (M).getD (((arcs.getD k default).To).toNat) 0))) (b2 := (decide ((M).getD (((arcs.getD k default).From).toNat) 0 < 0))) (v := .int .i64 ((arcs.getD k default).From)) (fun _ h => h) rfl rfl rfl (fun hg1 hg2 => q_load ((gv_pos hg1).trans (gv_pos hg2)) Try.underlying3 rfl (Cell.blk 0 rfl rfl)) ?_
        refine DW.g2 (b1 := (decide ((0 : Int) ≤ (M).getD (((arcs.getD k default).To).toNat) 0))) (b2 := (decide ((M).getD (((arcs.getD k default).From).toNat) 0 < 0))) (v := .pointer (some (Value.at (.slice (some ⟨b1, 0, none⟩) n n) ((((arcs.getD k default).From).toNat) * 1)))) (fun _ h => h) rfl rfl rfl (fun hg1 hg2 => q_indexAddr ((gv_pos hg1).trans (gv_pos hg2)) ((gv_pos hg1).trans (gv_pos hg2)) isSl_mk Try.underlying25 sz3 (by (try simp [-List.getD_eq_getElem?_getD] at hg1); (try simp [-List.getD_eq_getElem?_getD] at hg2); omega) (by (try simp [-List.getD_eq_getElem?_getD] at hg1); (try simp [-List.getD_eq_getElem?_getD] at hg2); omega) rfl) ?_
        refine DW.g2 (b1 := (decide ((0 : Int) ≤ (M).getD (((arcs.getD k default).To).toNat) 0))) (b2 := (decide ((M).getD (((arcs.getD k default).From).toNat) 0 < 0))) (v := .int .i64 ((M).getD (((arcs.getD k default).From).toNat) 0)) (fun _ h => h) rfl rfl rfl (fun hg1 hg2 => q_load ((gv_pos hg1).trans (gv_pos hg2)) Try.underlying3 rfl (Cell.rowInt 1 rfl (by (try simp [-List.getD_eq_getElem?_getD] at hg1); (try simp [-List.getD_eq_getElem?_getD] at hg2); omega))) ?_
        refine DW.g2 (b1 := (decide ((0 : Int) ≤ (M).getD (((arcs.getD k default).To).toNat) 0))) (b2 := (decide ((M).getD (((arcs.getD k default).From).toNat) 0 < 0))) (v := (.slice (some ⟨b1, 0, none⟩) n n)) (fun _ h => h) rfl rfl rfl (fun hg1 hg2 => q_move rfl) ?_
        refine DW.g2 (b1 := (decide ((0 : Int) ≤ (M).getD (((arcs.getD k default).To).toNat) 0))) (b2 := (decide ((M).getD (((arcs.getD k default).From).toNat) 0 < 0))) (v := .pointer (some (⟨b2, 1, none⟩))) (fun _ h => h) rfl rfl rfl (fun hg1 hg2 => q_fieldAddr rfl Try.underlying31 rfl sz3 rfl) ?_
        refine DW.g2 (b1 := (decide ((0 : Int) ≤ (M).getD (((arcs.getD k default).To).toNat) 0))) (b2 := (decide ((M).getD (((arcs.getD k default).From).toNat) 0 < 0))) (v := .int .i64 ((arcs.getD k default).To)) (fun _ h => h) rfl rfl rfl (fun hg1 hg2 => q_load ((gv_pos hg1).trans (gv_pos hg2)) Try.underlying3 rfl (Cell.blk 0 rfl rfl)) ?_
        refine DW.g2 (b1 := (decide ((0 : Int) ≤ (M).getD (((arcs.getD k default).To).toNat) 0))) (b2 := (decide ((M).getD (((arcs.getD k default).From).toNat) 0 < 0))) (v := .pointer (some (Value.at (.slice (some ⟨b1, 0, none⟩) n n) ((((arcs.getD k default).To).toNat) * 1)))) (fun _ h => h) rfl rfl rfl (fun hg1 hg2 => q_indexAddr ((gv_pos hg1).trans (gv_pos hg2)) ((gv_pos hg1).trans (gv_pos hg2)) isSl_mk Try.underlying25 sz3 (by (try simp [-List.getD_eq_getElem?_getD] at hg1); (try simp [-List.getD_eq_getElem?_getD] at hg2); omega) (by (try simp [-List.getD_eq_getElem?_getD] at hg1); (try simp [-List.getD_eq_getElem?_getD] at hg2); omega) rfl) ?_
        refine DW.g2 (b1 := (decide ((0 : Int) ≤ (M).getD (((arcs.getD k default).To).toNat) 0))) (b2 := (decide ((M).getD (((arcs.getD k default).From).toNat) 0 < 0))) (v := .int .i64 ((M).getD (((arcs.getD k default).To).toNat) 0)) (fun _ h => h) rfl rfl rfl (fun hg1 hg2 => q_load ((gv_pos hg1).trans (gv_pos hg2)) Try.underlying3 rfl (Cell.rowInt 1 rfl (by (try simp [-List.getD_eq_getElem?_getD] at hg1); (try simp [-List.getD_eq_getElem?_getD] at hg2); omega))) ?_
        refine DW.g2 (b1 := (decide ((0 : Int) ≤ (M).getD (((arcs.getD k default).To).toNat) 0))) (b2 := (decide ((M).getD (((arcs.getD k default).From).toNat) 0 < 0))) (v := .int .i64 (((M).getD (((arcs.getD k default).To).toNat) 0) + 1)) (fun _ h => h) rfl rfl rfl (fun hg1 hg2 => q_add ((gv_pos hg1).trans (gv_pos hg2)) rfl (by (try simp [-List.getD_eq_getElem?_getD] at hg1); (try simp [-List.getD_eq_getElem?_getD] at hg2); omega) (by unfold I64; omega)) ?_
        refine DW.g2 (b1 := (decide ((0 : Int) ≤ (M).getD (((arcs.getD k default).To).toNat) 0))) (b2 := (decide ((M).getD (((arcs.getD k default).From).toNat) 0 < 0))) (v := .bool (decide (((M).getD (((arcs.getD k default).To).toNat) 0) + 1 < (M).getD (((arcs.getD k default).From).toNat) 0))) (fun _ h => h) rfl rfl rfl (fun hg1 hg2 => q_gtr ((gv_pos hg1).trans (gv_pos hg2)) ((gv_pos hg1).trans (gv_pos hg2))) ?_
        refine DW.g (b := (decide ((0 : Int) ≤ (M).getD (((arcs.getD k default).To).toNat) 0))) (v := .bool ((decide ((M).getD (((arcs.getD k default).From).toNat) 0 < 0)) || (decide (((M).getD (((arcs.getD k default).To).toNat) 0) + 1 < (M).getD (((arcs.getD k default).From).toNat) 0)))) (fun _ h => h) rfl rfl rfl (fun h => q_pick (gv_pos h) (fun hp => pkOrT hp) (fun hp => (gv_pos h).trans ((gv_pos hp).trans (pkOrF hp)))) ?_
        refine DW.q (v := .bool ((decide ((0 : Int) ≤ (M).getD (((arcs.getD k default).To).toNat) 0)) && ((decide ((M).getD (((arcs.getD k default).From).toNat) 0 < 0)) || (decide (((M).getD (((arcs.getD k default).To).toNat) 0) + 1 < (M).getD (((arcs.getD k default).From).toNat) 0))))) (fun _ h => h) rfl (q_pick rfl (fun hp => (gv_pos hp).trans (pkAndT hp)) (fun hp => pkAndF hp)) ?_
        refine DW.nil ?_
        refine Post.then_n ?_
        refine AW.cond (b := (decide ((0 : Int) ≤ (M).getD (((arcs.getD k default).To).toNat) 0)) && ((decide ((M).getD (((arcs.getD k default).From).toNat) 0 < 0)) || (decide (((M).getD (((arcs.getD k default).To).toNat) 0) + 1 < (M).getD (((arcs.getD k default).From).toNat) 0)))) rfl (fun hc4 => ?_) (fun hc4 => ?_)
        · simp [-List.getD_eq_getElem?_getD] at hc4
          refine AW.seq ?_
          refine AW.draw (J0 := St ⟨w, Φ, []⟩ Φ [.blk b2 31 [.int .i64 ((arcs.getD k default).From), .int .i64 ((arcs.getD k default).To)], .row (.slice (some ⟨b1, 0, none⟩) n n) 3 1 n (M.map (Value.int .i64))]) [true, true, true, true, true, true, true, true, true, true, false] hmix (by kernel_rfl) ?_
          refine DW.q (v := (.slice (some ⟨b1, 0, none⟩) n n)) (fun _ h => h) rfl (q_move rfl) ?_
          refine DW.q (v := .pointer (some (⟨b2, 0, none⟩))) (fun _ h => h) rfl (q_fieldAddr rfl Try.underlying31 rfl sz3 rfl) ?_
          refine DW.q (v := .int .i64 ((arcs.getD k default).From)) (fun _ h => h) rfl (q_load rfl Try.underlying3 rfl (Cell.blk 0 rfl rfl)) ?_
          refine DW.q (v := (.slice (some ⟨b1, 0, none⟩) n n)) (fun _ h => h) rfl (q_move rfl) ?_
          refine DW.q (v := .pointer (some (⟨b2, 1, none⟩))) (fun _ h => h) rfl (q_fieldAddr rfl Try.underlying31 rfl sz3 rfl) ?_
          refine DW.q (v := .int .i64 ((arcs.getD k default).To)) (fun _ h => h) rfl (q_load rfl Try.underlying3 rfl (Cell.blk 0 rfl rfl)) ?_
          refine DW.q (v := .pointer (some (Value.at (.slice (some ⟨b1, 0, none⟩) n n) ((((arcs.getD k default).To).toNat) * 1)))) (fun _ h => h) rfl (q_indexAddr rfl rfl isSl_mk Try.underlying25 sz3 (by omega) (by omega) rfl) ?_
          refine DW.q (v := .int .i64 ((M).getD (((arcs.getD k default).To).toNat) 0)) (fun _ h => h) rfl (q_load rfl Try.underlying3 rfl (Cell.rowInt 1 rfl (by omega))) ?_
          refine DW.q (v := .int .i64 (((M).getD (((arcs.getD k default).To).toNat) 0) + 1)) (fun _ h => h) rfl (q_add rfl rfl (by omega) (by unfold I64; omega)) ?_
          refine DW.q (v := .pointer (some (Value.at (.slice (some ⟨b1, 0, none⟩) n n) ((((arcs.getD k default).From).toNat) * 1)))) (fun _ h => h) rfl (q_indexAddr rfl rfl isSl_mk Try.underlying25 sz3 (by omega) (by omega) rfl) ?_
          refine DW.effn (J' := St ⟨w, Φ, []⟩ Φ [.blk b2 31 [.int .i64 ((arcs.getD k default).From), .int .i64 ((arcs.getD k default).To)], .row (.slice (some ⟨b1, 0, none⟩) n n) 3 1 n ((M.set (((arcs.getD k default).From).toNat) (((M).getD (((arcs.getD k default).To).toNat) 0) + 1)).map (Value.int .i64))]) (fun h => absurd rfl h) (e_storeRow (v := .int .i64 (((M).getD (((arcs.getD k default).To).toNat) 0) + 1)) 1 rfl rfl rfl sz3 rfl rfl (by simp [-List.getD_eq_getElem?_getD]; omega) (splice_int (by omega)) rfl) ?_
          refine DW.nil ?_
          refine Post.then_n ?_
          have hrx := hM.relax hb (Gr.getD_mem hc3) ha.1 ha.2 hc4.1 hc4.2
          refine AW.region ?_
          refine RW.q (v := .bool true) rfl (q_assign rfl) ?_
          refine RW.nil ?_
          refine Post.blk_n (Post.then_n ?_)
          refine AW.region ?_
          refine RW.q (v := .int .i64 (k : Int)) rfl (q_move rfl) ?_
          refine RW.q (v := .int .i64 ((k + 1 : Nat) : Int)) rfl (q_add rfl rfl (by omega) (by unfold I64; omega)) ?_
          refine RW.q (v := .int .i64 ((k + 1 : Nat) : Int)) rfl (q_assign rfl) ?_
          refine RW.nil ?_
          exact Post.back (s' := _) (J' := _) (m' := _) (by omega) ⟨k + 1, (M.set (arcs.getD k default).From.toNat (M.getD (arcs.getD k default).To.toNat 0 + 1)), true, rfl, rfl, rfl, (by omega), hrx.1, (by omega), (fun _ => by omega), (fun h => nomatch h)⟩ ⟨rfl, rfl, rfl, rfl, trivial⟩ (fun _ h => StP.drop h (by exact .cons _ (.cons_cons _ (.slnil))))
        · simp [-List.getD_eq_getElem?_getD] at hc4
          refine AW.skip ?_
          refine Post.blk_n (Post.then_n ?_)
          refine AW.region ?_
          refine RW.q (v := .int .i64 (k : Int)) rfl (q_move rfl) ?_
          refine RW.q (v := .int .i64 ((k + 1 : Nat) : Int)) rfl (q_add rfl rfl (by omega) (by unfold I64; omega)) ?_
          refine RW.q (v := .int .i64 ((k + 1 : Nat) : Int)) rfl (q_assign rfl) ?_
          refine RW.nil ?_
          exact Post.back (s' := _) (J' := _) (m' := _) (by omega) ⟨k + 1, M, c2, rfl, rfl, rfl, (by omega), hM, hle, hct, (fun h => ⟨(hcf h).1, Gr.lt_succ (hcf h).2 (by rw [← (hcf h).1]; exact hc4)⟩)⟩ ⟨rfl, rfl, rfl, rfl, trivial⟩ (fun _ h => StP.drop h (by exact .cons _ (.cons_cons _ (.slnil))))
      · simp [-List.getD_eq_getElem?_getD] at hc3
        refine AW.exit ?_
        refine Post.then_x (Post.then_x (Post.blk_hit (Post.blk_n ?_)))
        exact Post.back (s' := _) (J' := _) (m' := _) (by subst hc2; exact Gr.meas hct (fun h => (hcf h).1)) ⟨M, c2, rfl, rfl, rfl, hM, (fun h => by rw [(hcf h).1]; exact Gr.stable_all (fun j hj => (hcf h).2 j (by omega)))⟩ ⟨rfl, rfl, rfl, trivial⟩ (fun _ h => h)
    · skip
      refine AW.exit ?_
      refine Post.then_x (Post.then_x (Post.blk_hit (Post.then_n ?_)))
      refine AW.seq ?_
      refine AW.region ?_
      refine RW.q (v := (.slice (some ⟨b1, 0, none⟩) n n)) rfl (q_move rfl) ?_
      refine RW.q (v := (.slice (some ⟨b1, 0, none⟩) n n)) rfl (q_assign rfl) ?_
      refine RW.nil ?_
      refine Post.then_n ?_
      refine AW.ret ?_
      have hLd := hS.done hok hb (hst hc2)
      have hlen := hS.len
      refine fin_rep rfl rfl rfl (fun w' hw => ?_)
      have hro := row_ext (Φr := noHp) hw 0 rfl
      rw [hLd] at hro
      have hd : Gr.IsDist n (Gr.rev arcs) b _ := Gr.distL_is hok.rev hb
      rw [← hLd] at hro hd ⊢
      refine RowS.ints hro (by simp only [maxSl]; omega) (fun x hx => ?_)
      obtain ⟨j, hj, rfl⟩ := List.mem_iff_getElem.1 hx
      have h2 := hd.2 (j : Int) (by omega) (by have := hd.1; omega)
      simp only [Int.toNat_natCast, List.getD_eq_getElem?_getD, List.getElem?_eq_getElem hj, Option.getD_some] at h2
      unfold I64; omega

set_option maxHeartbeats 1000000 in
theorem rOrder_t (w : World) (Φ : Hp) (hΦ : Hp.le Φ (hp w)) {n : Nat} {arcs : List Gr.Arc} {v1 : Value} (h1 : RepSl Φ arcs v1) (hrt : Gr.rightB n arcs = true) :
    Calls Try.prog 20 #[.int .i64 (n : Int), v1] w (RetS noHp w fun r Ψ => PairRep Ψ (Gr.orderM n arcs) r) := by
  refine calls_of_AW (args := [.int .i64 (n : Int), v1]) Try.func20 rfl (Nat.le_of_ble_eq_true rfl) (St ⟨w, Φ, []⟩ Φ []) (StP.init w Φ hΦ []) ?_
  show AW Try.prog 84 [] _ _ _ [(0, .int .i64 (n : Int)), (1, v1)] _
  obtain ⟨hn, har, hok⟩ := Gr.right_ok hrt
  rw [Int.toNat_natCast] at hok
  have hn2 : n ≤ 256 := by omega
  clear hn
  have hmh1 : arcs.length * 16 ≤ 140737488355328 := h1.max
  refine AW.seq ?_
  refine AW.region ?_
  refine RW.q (v := (.slice none 0 0)) rfl (q_assign rfl) ?_
  refine RW.q (v := .bool false) rfl (q_assign rfl) ?_
  refine RW.nil ?_
  refine Post.then_n ?_
  refine AW.seq ?_
  refine AW.region ?_
  refine RW.q (v := .int .i64 (n : Int)) rfl (q_move rfl) ?_
  refine RW.q (v := v1) rfl (q_move rfl) ?_
  refine RW.q (v := .bool (Gr.rightB (n : Int) arcs)) rfl (q_call (args := #[.int .i64 (n : Int), v1]) own22 rfl rfl (fun w1 hw1 => rRight_c w1 Φ hw1.phi h1)) ?_
  refine RW.q (v := .bool (Gr.rightB (n : Int) arcs)) rfl (q_assign rfl) ?_
  refine RW.nil ?_
  refine Post.then_n ?_
  refine AW.seq ?_
  refine AW.seq ?_
  refine AW.region ?_
  refine RW.q (v := .bool (Gr.rightB (n : Int) arcs)) rfl (q_move rfl) ?_
  refine RW.q (v := .bool (!(Gr.rightB (n : Int) arcs))) rfl (q_not rfl) ?_
  refine RW.nil ?_
  refine Post.then_n ?_
  refine AW.cond (b := !(Gr.rightB (n : Int) arcs)) rfl (fun hc1 => ?_) (fun hc1 => ?_)
  · simp [-List.getD_eq_getElem?_getD] at hc1
    simp [hrt] at hc1
  · simp [-List.getD_eq_getElem?_getD] at hc1
    refine AW.skip ?_
    refine Post.then_n ?_
    refine AW.seq ?_
    refine AW.region ?_
    refine RW.q (v := .int .i64 (n : Int)) rfl (q_move rfl) ?_
    refine RW.eff (fun b1 : Nat => (.slice (some ⟨b1, 0, none⟩) n n)) (fun b1 => St ⟨w, Φ, []⟩ Φ [.row (.slice (some ⟨b1, 0, none⟩) n n) 4 1 n ((List.replicate n false).map Value.bool)]) rfl (e_makeSlice rfl rfl Try.underlying44 inf4 (by omega) (by omega) (by omega) rfl (made_bool (n := n) (by omega))) ?_
    intro b1
    refine RW.q (v := (.slice (some ⟨b1, 0, none⟩) n n)) rfl (q_assign rfl) ?_
    refine RW.nil ?_
    refine Post.then_n ?_
    refine AW.seq ?_
    refine AW.region ?_
    refine RW.q (v := (.slice none 0 0)) rfl (q_assign rfl) ?_
    refine RW.nil ?_
    refine Post.then_n ?_
    refine AW.seq ?_
    refine AW.block ?_
    refine AW.loop (fun s J m => ∃ (L : List Int), ∃ (lv : Value), s = [(0, .int .i64 (n : Int)), (1, v1), (7, (.slice (some ⟨b1, 0, none⟩) n n)), (8, lv)] ∧ J = St ⟨w, Φ, []⟩ Φ [.row lv 3 1 L.length (L.map (Value.int .i64)), .row (.slice (some ⟨b1, 0, none⟩) n n) 4 1 n ((Gr.goneL n L).map Value.bool)] ∧ m = n - L.length ∧ (IsSl lv L.length) ∧ (∀ x ∈ L, 0 ≤ x ∧ x < (n : Int)) ∧ (L.length ≤ n) ∧ (Gr.orderGo n arcs (n - L.length) L = Gr.orderGo n arcs n [])) (s0 := _) (J1 := _) (m0 := _) ⟨[], _, rfl, rfl, rfl, isSl_nil, (fun x h => absurd h List.not_mem_nil), (Nat.zero_le _), rfl⟩ ⟨rfl, rfl, rfl, rfl, trivial⟩ (fun _ h => by rw [Gr.goneL_nil]; exact addNil h) ?_
    rintro _ _ _ _ ⟨L, lv, rfl, rfl, rfl, hlv, hLn, hLl, hgo⟩
    refine AW.seq ?_
    refine AW.seq ?_
    refine AW.region ?_
    refine RW.q (v := lv) rfl (q_move rfl) ?_
    refine RW.q (v := .int .i64 ((L.length : Nat) : Int)) rfl (q_len_sl rfl hlv Try.underlying25) ?_
    refine RW.q (v := .int .i64 (n : Int)) rfl (q_move rfl) ?_
    refine RW.q (v := .bool (decide (((L.length : Nat) : Int) < (n : Int)))) rfl (q_lss rfl rfl) ?_
    refine RW.nil ?_
    refine Post.then_n ?_
    refine AW.cond (b := decide (((L.length : Nat) : Int) < (n : Int))) rfl (fun hc2 => ?_) (fun hc2 => ?_)
    · simp [-List.getD_eq_getElem?_getD] at hc2
      refine AW.skip ?_
      refine Post.then_n ?_
      refine AW.block ?_
      refine AW.seq ?_
      refine AW.region ?_
      refine RW.q (v := .int .i64 (n : Int)) rfl (q_move rfl) ?_
      refine RW.eff (fun b2 : Nat => (.slice (some ⟨b2, 0, none⟩) n n)) (fun b2 => St ⟨w, Φ, []⟩ Φ [.row (.slice (some ⟨b2, 0, none⟩) n n) 4 1 n ((List.replicate n false).map Value.bool), .row lv 3 1 L.length (L.map (Value.int .i64)), .row (.slice (some ⟨b1, 0, none⟩) n n) 4 1 n ((Gr.goneL n L).map Value.bool)]) rfl (e_makeSlice rfl rfl Try.underlying44 inf4 (by omega) (by omega) (by omega) rfl (made_bool (n := n) (by omega))) ?_
      intro b2
      refine RW.q (v := (.slice (some ⟨b2, 0, none⟩) n n)) rfl (q_assign rfl) ?_
      refine RW.nil ?_
      refine Post.then_n ?_
      refine AW.seq ?_
      refine AW.seq ?_
      refine AW.region ?_
      refine RW.q (v := .int .i64 0) rfl (q_assign rfl) ?_
      refine RW.nil ?_
      refine Post.then_n ?_
      refine AW.block ?_
      refine AW.loop (fun s J m => ∃ (k : Nat), ∃ (F : List Bool), s = [(0, .int .i64 (n : Int)), (1, v1), (7, (.slice (some ⟨b1, 0, none⟩) n n)), (8, lv), (9, (.slice (some ⟨b2, 0, none⟩) n n)), (10, .int .i64 (k : Int))] ∧ J = St ⟨w, Φ, []⟩ Φ [.row (.slice (some ⟨b2, 0, none⟩) n n) 4 1 n (F.map Value.bool), .row lv 3 1 L.length (L.map (Value.int .i64)), .row (.slice (some ⟨b1, 0, none⟩) n n) 4 1 n ((Gr.goneL n L).map Value.bool)] ∧ m = n - k ∧ (k ≤ n) ∧ (F.length = n) ∧ (∀ j, j < k → F.getD j false = !((Gr.goneL n L).getD j false))) (s0 := _) (J1 := _) (m0 := _) ⟨0, _, rfl, rfl, rfl, (by omega), (by simp), (fun _ h => absurd h (Nat.not_lt_zero _))⟩ ⟨rfl, rfl, rfl, rfl, rfl, rfl, trivial⟩ (fun _ h => h) ?_
      rintro _ _ _ _ ⟨k, F, rfl, rfl, rfl, hk, hF, hFe⟩
      refine AW.seq ?_
      refine AW.seq ?_
      refine AW.region ?_
      refine RW.q (v := .int .i64 (k : Int)) rfl (q_move rfl) ?_
      refine RW.q (v := .int .i64 (n : Int)) rfl (q_move rfl) ?_
      refine RW.q (v := .bool (decide ((k : Int) < (n : Int)))) rfl (q_lss rfl rfl) ?_
      refine RW.nil ?_
      refine Post.then_n ?_
      refine AW.cond (b := decide ((k : Int) < (n : Int))) rfl (fun hc3 => ?_) (fun hc3 => ?_)
      · simp [-List.getD_eq_getElem?_getD] at hc3
        refine AW.skip ?_
        refine Post.then_n ?_
        refine AW.seq ?_
        refine AW.block ?_
        have hgl := Gr.goneL_len n L
        refine AW.region ?_
        refine RW.q (v := (.slice (some ⟨b2, 0, none⟩) n n)) rfl (q_move rfl) ?_
        refine RW.q (v := .int .i64 (k : Int)) rfl (q_move rfl) ?_
        refine RW.q (v := (.slice (some ⟨b1, 0, none⟩) n n)) rfl (q_move rfl) ?_
        refine RW.q (v := .int .i64 (k : Int)) rfl (q_move rfl) ?_
        refine RW.q (v := .pointer (some (Value.at (.slice (some ⟨b1, 0, none⟩) n n) (k * 1)))) rfl (q_indexAddr rfl rfl isSl_mk Try.underlying44 sz4 (by omega) (by omega) rfl) ?_
        refine RW.q (v := .bool ((Gr.goneL n L).getD k false)) rfl (q_load rfl Try.underlying4 rfl (Cell.rowBool 2 rfl (by omega))) ?_
        refine RW.q (v := .bool (!((Gr.goneL n L).getD k false))) rfl (q_not rfl) ?_
        refine RW.q (v := .pointer (some (Value.at (.slice (some ⟨b2, 0, none⟩) n n) (k * 1)))) rfl (q_indexAddr rfl rfl isSl_mk Try.underlying44 sz4 (by omega) (by omega) rfl) ?_
        refine RW.effn (J' := St ⟨w, Φ, []⟩ Φ [.row (.slice (some ⟨b2, 0, none⟩) n n) 4 1 n ((F.set k (!((Gr.goneL n L).getD k false))).map Value.bool), .row lv 3 1 L.length (L.map (Value.int .i64)), .row (.slice (some ⟨b1, 0, none⟩) n n) 4 1 n ((Gr.goneL n L).map Value.bool)]) (e_storeRow (v := .bool (!((Gr.goneL n L).getD k false))) 0 rfl rfl rfl sz4 rfl rfl (by simp [-List.getD_eq_getElem?_getD]; omega) (splice_bool (by omega)) rfl) ?_
        refine RW.nil ?_
        refine Post.blk_n (Post.then_n ?_)
        refine AW.region ?_
        refine RW.q (v := .int .i64 (k : Int)) rfl (q_move rfl) ?_
        refine RW.q (v := .int .i64 ((k + 1 : Nat) : Int)) rfl (q_add rfl rfl (by omega) (by unfold I64; omega)) ?_
        refine RW.q (v := .int .i64 ((k + 1 : Nat) : Int)) rfl (q_assign rfl) ?_
        refine RW.nil ?_
        exact Post.back (s' := _) (J' := _) (m' := _) (by omega) ⟨k + 1, _, rfl, rfl, rfl, (by omega), (by simp [hF]), (Gr.set_getB (by omega) hFe rfl)⟩ ⟨rfl, rfl, rfl, rfl, rfl, rfl, trivial⟩ (fun _ h => h)
      · simp [-List.getD_eq_getElem?_getD] at hc3
        refine AW.exit ?_
        refine Post.then_x (Post.then_x (Post.blk_hit (Post.then_n ?_)))
        refine AW.seq ?_
        refine AW.seq ?_
        obtain rfl : F = Gr.freeL n [] L := Gr.freeL_zero hF (fun j hj => hFe j (by omega))
        refine AW.region ?_
        refine RW.q (v := .int .i64 0) rfl (q_assign rfl) ?_
        refine RW.nil ?_
        refine Post.then_n ?_
        refine AW.block ?_
        refine AW.loop (fun s J m => ∃ (i : Nat), s = [(0, .int .i64 (n : Int)), (1, v1), (7, (.slice (some ⟨b1, 0, none⟩) n n)), (8, lv), (9, (.slice (some ⟨b2, 0, none⟩) n n)), (11, .int .i64 (i : Int))] ∧ J = St ⟨w, Φ, []⟩ Φ [.row (.slice (some ⟨b2, 0, none⟩) n n) 4 1 n ((Gr.freeL n (arcs.take i) L).map Value.bool), .row lv 3 1 L.length (L.map (Value.int .i64)), .row (.slice (some ⟨b1, 0, none⟩) n n) 4 1 n ((Gr.goneL n L).map Value.bool)] ∧ m = arcs.length - i ∧ (i ≤ arcs.length)) (s0 := _) (J1 := _) (m0 := _) ⟨0, rfl, rfl, rfl, (by omega)⟩ ⟨rfl, rfl, rfl, rfl, rfl, rfl, trivial⟩ (fun _ h => by rw [List.take_zero]; exact h) ?_
        rintro _ _ _ _ ⟨i, rfl, rfl, rfl, hi⟩
        refine AW.seq ?_
        refine AW.seq ?_
        refine AW.region ?_
        refine RW.q (v := .int .i64 (i : Int)) rfl (q_move rfl) ?_
        refine RW.q (v := v1) rfl (q_move rfl) ?_
        refine RW.q (v := .int .i64 ((arcs.length : Nat) : Int)) rfl (q_len_sl rfl h1.sl Try.underlying22) ?_
        refine RW.q (v := .bool (decide ((i : Int) < ((arcs.length : Nat) : Int)))) rfl (q_lss rfl rfl) ?_
        refine RW.nil ?_
        refine Post.then_n ?_
        refine AW.cond (b := decide ((i : Int) < ((arcs.length : Nat) : Int))) rfl (fun hc4 => ?_) (fun hc4 => ?_)
        · simp [-List.getD_eq_getElem?_getD] at hc4
          refine AW.skip ?_
          refine Post.then_n ?_
          refine AW.seq ?_
          refine AW.block ?_
          refine AW.seq ?_
          have ha := hok _ (Gr.getD_mem hc4)
          have hgl := Gr.goneL_len n L
          have hfl := Gr.freeL_len n (arcs.take i) L
          refine AW.region ?_
          refine RW.q (v := (.slice (some ⟨b1, 0, none⟩) n n)) rfl (q_move rfl) ?_
          refine RW.q (v := v1) rfl (q_move rfl) ?_
          refine RW.q (v := .int .i64 (i : Int)) rfl (q_move rfl) ?_
          refine RW.q (v := .pointer (some (Value.at v1 (i * 2)))) rfl (q_indexAddr rfl rfl h1.sl Try.underlying22 sz31 (by omega) (by omega) rfl) ?_
          refine RW.q (v := .pointer (some (Value.at v1 (i * 2 + 0)))) rfl (q_fieldAddr rfl Try.underlying31 rfl sz3 at_add) ?_
          refine RW.q (v := .int .i64 ((arcs.getD i default).From)) rfl (q_load rfl Try.underlying3 rfl (Cell.repE (j := 0) h1 (by omega) rfl)) ?_
          refine RW.q (v := .pointer (some (Value.at (.slice (some ⟨b1, 0, none⟩) n n) ((((arcs.getD i default).From).toNat) * 1)))) rfl (q_indexAddr rfl rfl isSl_mk Try.underlying44 sz4 (by omega) (by omega) rfl) ?_
          refine RW.q (v := .bool ((Gr.goneL n L).getD (((arcs.getD i default).From).toNat) false)) rfl (q_load rfl Try.underlying4 rfl (Cell.rowBool 2 rfl (by omega))) ?_
          refine RW.q (v := .bool (!((Gr.goneL n L).getD (((arcs.getD i default).From).toNat) false))) rfl (q_not rfl) ?_
          refine RW.nil ?_
          refine Post.then_n ?_
          refine AW.cond (b := !((Gr.goneL n L).getD (((arcs.getD i default).From).toNat) false)) rfl (fun hc5 => ?_) (fun hc5 => ?_)
          · simp [-List.getD_eq_getElem?_getD] at hc5
            rw [Gr.goneL_get (by omega)] at hc5
            rw [Int.toNat_of_nonneg (by omega)] at hc5
            refine AW.region ?_
            refine RW.q (v := (.slice (some ⟨b2, 0, none⟩) n n)) rfl (q_move rfl) ?_
            refine RW.q (v := v1) rfl (q_move rfl) ?_
            refine RW.q (v := .int .i64 (i : Int)) rfl (q_move rfl) ?_
            refine RW.q (v := .pointer (some (Value.at v1 (i * 2)))) rfl (q_indexAddr rfl rfl h1.sl Try.underlying22 sz31 (by omega) (by omega) rfl) ?_
            refine RW.q (v := .pointer (some (Value.at v1 (i * 2 + 1)))) rfl (q_fieldAddr rfl Try.underlying31 rfl sz3 at_add) ?_
            refine RW.q (v := .int .i64 ((arcs.getD i default).To)) rfl (q_load rfl Try.underlying3 rfl (Cell.repE (j := 1) h1 (by omega) rfl)) ?_
            refine RW.q (v := .pointer (some (Value.at (.slice (some ⟨b2, 0, none⟩) n n) ((((arcs.getD i default).To).toNat) * 1)))) rfl (q_indexAddr rfl rfl isSl_mk Try.underlying44 sz4 (by omega) (by omega) rfl) ?_
            refine RW.effn (J' := St ⟨w, Φ, []⟩ Φ [.row (.slice (some ⟨b2, 0, none⟩) n n) 4 1 n (((Gr.freeL n (arcs.take i) L).set (((arcs.getD i default).To).toNat) false).map Value.bool), .row lv 3 1 L.length (L.map (Value.int .i64)), .row (.slice (some ⟨b1, 0, none⟩) n n) 4 1 n ((Gr.goneL n L).map Value.bool)]) (e_storeRow (v := .bool false) 0 rfl rfl rfl sz4 rfl rfl (by simp [-List.getD_eq_getElem?_getD]; omega) (splice_bool (by omega)) rfl) ?_
            refine RW.nil ?_
            refine Post.blk_n (Post.then_n ?_)
            refine AW.region ?_
            refine RW.q (v := .int .i64 (i : Int)) rfl (q_move rfl) ?_
            refine RW.q (v := .int .i64 ((i + 1 : Nat) : Int)) rfl (q_add rfl rfl (by omega) (by unfold I64; omega)) ?_
            refine RW.q (v := .int .i64 ((i + 1 : Nat) : Int)) rfl (q_assign rfl) ?_
            refine RW.nil ?_
            exact Post.back (s' := _) (J' := _) (m' := _) (by omega) ⟨i + 1, rfl, rfl, rfl, (by omega)⟩ ⟨rfl, rfl, rfl, rfl, rfl, rfl, trivial⟩ (fun _ h => by rw [Gr.freeL_step hc4 ha.2, if_neg (by simpa using hc5)]; exact h)
          · simp [-List.getD_eq_getElem?_getD] at hc5
            refine AW.skip ?_
            refine Post.blk_n (Post.then_n ?_)
            refine AW.region ?_
            refine RW.q (v := .int .i64 (i : Int)) rfl (q_move rfl) ?_
            refine RW.q (v := .int .i64 ((i + 1 : Nat) : Int)) rfl (q_add rfl rfl (by omega) (by unfold I64; omega)) ?_
            refine RW.q (v := .int .i64 ((i + 1 : Nat) : Int)) rfl (q_assign rfl) ?_
            refine RW.nil ?_
            exact Post.back (s' := _) (J' := _) (m' := _) (by omega) ⟨i + 1, rfl, rfl, rfl, (by omega)⟩ ⟨rfl, rfl, rfl, rfl, rfl, rfl, trivial⟩ (fun _ h => by rw [Gr.freeL_step hc4 ha.2, if_pos (by rw [Gr.goneL_get (by omega), Int.toNat_of_nonneg (by omega)] at hc5; simpa using hc5)]; exact h)
        · simp [-List.getD_eq_getElem?_getD] at hc4
          refine AW.exit ?_
          refine Post.then_x (Post.then_x (Post.blk_hit (Post.then_n ?_)))
          refine AW.seq ?_
          rw [show arcs.take i = arcs from List.take_of_length_le (by omega)]
          have hfl := Gr.freeL_len n arcs L
          refine AW.region ?_
          refine RW.q (v := .int .i64 0) rfl (q_assign rfl) ?_
          refine RW.nil ?_
          refine Post.then_n ?_
          refine AW.seq ?_
          refine AW.block ?_
          refine AW.loop (fun s J m => ∃ (v : Nat), s = [(0, .int .i64 (n : Int)), (1, v1), (7, (.slice (some ⟨b1, 0, none⟩) n n)), (8, lv), (9, (.slice (some ⟨b2, 0, none⟩) n n)), (12, .int .i64 (v : Int))] ∧ J = St ⟨w, Φ, []⟩ Φ [.row (.slice (some ⟨b2, 0, none⟩) n n) 4 1 n ((Gr.freeL n arcs L).map Value.bool), .row lv 3 1 L.length (L.map (Value.int .i64)), .row (.slice (some ⟨b1, 0, none⟩) n n) 4 1 n ((Gr.goneL n L).map Value.bool)] ∧ m = n - v ∧ (v ≤ n) ∧ (∀ j, j < v → (Gr.freeL n arcs L).getD j false = false)) (s0 := _) (J1 := _) (m0 := _) ⟨0, rfl, rfl, rfl, (by omega), (fun _ h => absurd h (Nat.not_lt_zero _))⟩ ⟨rfl, rfl, rfl, rfl, rfl, rfl, trivial⟩ (fun _ h => h) ?_
          rintro _ _ _ _ ⟨v, rfl, rfl, rfl, hv, hne⟩
          refine AW.seq ?_
          refine AW.seq ?_
          refine AW.region ?_
          refine RW.q (v := .int .i64 (v : Int)) rfl (q_move rfl) ?_
          refine RW.q (v := .int .i64 (n : Int)) rfl (q_move rfl) ?_
          refine RW.q (v := .bool (decide ((v : Int) < (n : Int)))) rfl (q_lss rfl rfl) ?_
          refine RW.q (v := .bool (decide ((v : Int) < (n : Int)))) rfl (q_move rfl) ?_
          refine RW.g (b := (decide ((v : Int) < (n : Int)))) (v := (.slice (some ⟨b2, 0, none⟩) n n)) rfl rfl rfl (fun h => q_move rfl) ?_
          refine RW.g (b := (decide ((v : Int) < (n : Int)))) (v := .int .i64 (v : Int)) rfl rfl rfl (fun h => q_move rfl) ?_
          refine RW.g (b := (decide ((v : Int) < (n : Int)))) (v := .pointer (some (Value.at (.slice (some ⟨b2, 0, none⟩) n n) (v * 1)))) rfl rfl rfl (fun h => q_indexAddr (gv_pos h) (gv_pos h) isSl_mk Try.underlying44 sz4 (by (try simp [-List.getD_eq_getElem?_getD] at h); omega) (by (try simp [-List.getD_eq_getElem?_getD] at h); omega) rfl) ?_
          refine RW.g (b := (decide ((v : Int) < (n : Int)))) (v := .bool ((Gr.freeL n arcs L).getD v false)) rfl rfl rfl (fun h => q_load (gv_pos h) Try.underlying4 rfl (Cell.rowBool 0 rfl (by (try simp [-List.getD_eq_getElem?_getD] at h); omega))) ?_
          refine RW.g (b := (decide ((v : Int) < (n : Int)))) (v := .bool (!((Gr.freeL n arcs L).getD v false))) rfl rfl rfl (fun h => q_not (gv_pos h)) ?_
          refine RW.q (v := .bool ((decide ((v : Int) < (n : Int))) && (!((Gr.freeL n arcs L).getD v false)))) rfl (q_pick rfl (fun hp => (gv_pos hp).trans (pkAndT hp)) (fun hp => pkAndF hp)) ?_
          refine RW.nil ?_
          refine Post.then_n ?_
          refine AW.cond (b := (decide ((v : Int) < (n : Int))) && (!((Gr.freeL n arcs L).getD v false))) rfl (fun hc6 => ?_) (fun hc6 => ?_)
          · simp [-List.getD_eq_getElem?_getD] at hc6
            refine AW.skip ?_
            refine Post.then_n ?_
            refine AW.block ?_
            refine AW.region ?_
            refine RW.q (v := .int .i64 (v : Int)) rfl (q_move rfl) ?_
            refine RW.q (v := .int .i64 ((v + 1 : Nat) : Int)) rfl (q_add rfl rfl (by omega) (by unfold I64; omega)) ?_
            refine RW.q (v := .int .i64 ((v + 1 : Nat) : Int)) rfl (q_assign rfl) ?_
            refine RW.nil ?_
            refine Post.blk_n ?_
            exact Post.back (s' := _) (J' := _) (m' := _) (by omega) ⟨v + 1, rfl, rfl, rfl, (by omega), (Gr.lt_succ hne hc6.2)⟩ ⟨rfl, rfl, rfl, rfl, rfl, rfl, trivial⟩ (fun _ h => h)
          · simp [-List.getD_eq_getElem?_getD] at hc6
            refine AW.exit ?_
            refine Post.then_x (Post.then_x (Post.blk_hit (Post.then_n ?_)))
            refine AW.seq ?_
            refine AW.seq ?_
            refine AW.region ?_
            refine RW.q (v := .int .i64 (v : Int)) rfl (q_move rfl) ?_
            refine RW.q (v := .int .i64 (n : Int)) rfl (q_move rfl) ?_
            refine RW.q (v := .bool (decide ((v : Int) = (n : Int)))) rfl (q_eql rfl rfl) ?_
            refine RW.nil ?_
            refine Post.then_n ?_
            refine AW.cond (b := decide ((v : Int) = (n : Int))) rfl (fun hc7 => ?_) (fun hc7 => ?_)
            · simp [-List.getD_eq_getElem?_getD] at hc7
              refine AW.seq ?_
              refine AW.region ?_
              refine RW.q (v := (.slice none 0 0)) rfl (q_assign rfl) ?_
              refine RW.q (v := .bool false) rfl (q_assign rfl) ?_
              refine RW.nil ?_
              refine Post.then_n ?_
              refine AW.ret ?_
              refine Post.then_r (Post.blk_r (Post.then_r (Post.blk_r (Post.then_r ?_))))
              have hres : Gr.orderM n arcs = none := by
                rw [Gr.orderM, if_pos hrt, Int.toNat_natCast, ← hgo, show n - L.length = (n - (L.length + 1)) + 1 by omega, Gr.orderGo, Gr.next_no (fun j hj => hne j (by omega))]
              rw [hres]
              exact fin_rep2 rfl rfl rfl rfl (fun w' hw => pair_none)
            · simp [-List.getD_eq_getElem?_getD] at hc7
              refine AW.skip ?_
              refine Post.then_n ?_
              refine AW.seq ?_
              have hvn : v < n := by omega
              have hnx := Gr.next_at hvn hne (hc6 hvn)
              have hgl := Gr.goneL_len n L
              refine AW.region ?_
              refine RW.q (v := (.slice (some ⟨b1, 0, none⟩) n n)) rfl (q_move rfl) ?_
              refine RW.q (v := .int .i64 (v : Int)) rfl (q_move rfl) ?_
              refine RW.q (v := .pointer (some (Value.at (.slice (some ⟨b1, 0, none⟩) n n) (v * 1)))) rfl (q_indexAddr rfl rfl isSl_mk Try.underlying44 sz4 (by omega) (by omega) rfl) ?_
              refine RW.effn (J' := St ⟨w, Φ, []⟩ Φ [.row (.slice (some ⟨b2, 0, none⟩) n n) 4 1 n ((Gr.freeL n arcs L).map Value.bool), .row lv 3 1 L.length (L.map (Value.int .i64)), .row (.slice (some ⟨b1, 0, none⟩) n n) 4 1 n (((Gr.goneL n L).set v true).map Value.bool)]) (e_storeRow (v := .bool true) 2 rfl rfl rfl sz4 rfl rfl (by simp [-List.getD_eq_getElem?_getD]; omega) (splice_bool (by omega)) rfl) ?_
              refine RW.nil ?_
              refine Post.then_n ?_
              refine AW.region ?_
              refine RW.q (v := lv) rfl (q_move rfl) ?_
              refine RW.q (v := .int .i64 (v : Int)) rfl (q_move rfl) ?_
              refine RW.eff (fun b3 : Nat => (.slice (some ⟨b3, 0, none⟩) 1 1)) (fun b3 => St ⟨w, Φ, []⟩ Φ [.row (.slice (some ⟨b3, 0, none⟩) 1 1) 3 1 1 ([.int .i64 (v : Int)]), .row (.slice (some ⟨b2, 0, none⟩) n n) 4 1 n ((Gr.freeL n arcs L).map Value.bool), .row lv 3 1 L.length (L.map (Value.int .i64)), .row (.slice (some ⟨b1, 0, none⟩) n n) 4 1 n (((Gr.goneL n L).set v true).map Value.bool)]) rfl (e_buildSlice (vals := [(0, .int .i64 (v : Int))]) (cells := [.int .i64 (v : Int)]) Try.underlying25 inf3 rfl rfl rfl (by kernel_rfl) rfl) ?_
              intro b3
              refine RW.eff (fun xv : {vq : Value // IsSl vq (L.length + 1)} => xv.1) (fun xv => St ⟨w, Φ, []⟩ Φ [.row (.slice (some ⟨b3, 0, none⟩) 1 1) 3 1 1 ([.int .i64 (v : Int)]), .row (.slice (some ⟨b2, 0, none⟩) n n) 4 1 n ((Gr.freeL n arcs L).map Value.bool), .row xv.1 3 1 ((L ++ [(v : Int)]).length) ((L ++ [(v : Int)]).map (Value.int .i64)), .row (.slice (some ⟨b1, 0, none⟩) n n) 4 1 n (((Gr.goneL n L).set v true).map Value.bool)]) rfl (e_append 2 rfl rfl rfl Try.underlying25 inf3 rfl rfl rfl (Cells.row0 0 rfl) rfl (by omega) (by omega) (fun _ => by simp)) ?_
              rintro ⟨va1, hva1⟩
              refine RW.wk (J' := St ⟨w, Φ, []⟩ Φ [.row (.slice (some ⟨b2, 0, none⟩) n n) 4 1 n ((Gr.freeL n arcs L).map Value.bool), .row va1 3 1 ((L ++ [(v : Int)]).length) ((L ++ [(v : Int)]).map (Value.int .i64)), .row (.slice (some ⟨b1, 0, none⟩) n n) 4 1 n (((Gr.goneL n L).set v true).map Value.bool)]) (fun _ h => StP.drop h (by exact .cons _ (.cons_cons _ (.cons_cons _ (.cons_cons _ (.slnil)))))) ?_
              refine RW.q (v := va1) rfl (q_assign rfl) ?_
              refine RW.nil ?_
              refine Post.blk_n ?_
              exact Post.back (s' := _) (J' := _) (m' := _) (by simp; omega) ⟨L ++ [(v : Int)], va1, rfl, rfl, rfl, (by simpa using hva1), (mem_snoc hLn (by omega)), (by simp; omega), (by rw [← hgo, List.length_append, List.length_singleton, show n - L.length = (n - (L.length + 1)) + 1 by omega, Gr.orderGo, hnx])⟩ ⟨rfl, rfl, rfl, rfl, trivial⟩ (fun _ h => by rw [← Gr.goneL_set hvn]; exact StP.drop h (.cons _ (.cons_cons _ (.cons_cons _ .slnil))))
    · simp [-List.getD_eq_getElem?_getD] at hc2
      refine AW.exit ?_
      refine Post.then_x (Post.then_x (Post.blk_hit (Post.then_n ?_)))
      refine AW.seq ?_
      refine AW.region ?_
      refine RW.q (v := lv) rfl (q_move rfl) ?_
      refine RW.q (v := lv) rfl (q_assign rfl) ?_
      refine RW.q (v := .bool true) rfl (q_assign rfl) ?_
      refine RW.nil ?_
      refine Post.then_n ?_
      refine AW.ret ?_
      have hres : Gr.orderM n arcs = some L := by
        rw [Gr.orderM, if_pos hrt, Int.toNat_natCast, ← hgo, show n - L.length = 0 by omega, Gr.orderGo]
      rw [hres]
      refine fin_rep2 rfl rfl rfl rfl (fun w' hw => ⟨_, rfl, RowS.ints (row_ext hw 0 rfl) (by simp only [maxSl]; omega) (fun x hx => ?_)⟩)
      have hx : x ∈ L := hx
      have := hLn x hx
      unfold I64; omega

set_option maxHeartbeats 1000000 in
theorem rOrder_f (w : World) (Φ : Hp) (hΦ : Hp.le Φ (hp w)) {n : Int} {arcs : List Gr.Arc} {v1 : Value} (h1 : RepSl Φ arcs v1) (hrf : Gr.rightB n arcs = false) :
    Calls Try.prog 20 #[.int .i64 n, v1] w (RetS noHp w fun r Ψ => PairRep Ψ (Gr.orderM n arcs) r) := by
  refine calls_of_AW (args := [.int .i64 n, v1]) Try.func20 rfl (Nat.le_of_ble_eq_true rfl) (St ⟨w, Φ, []⟩ Φ []) (StP.init w Φ hΦ []) ?_
  show AW Try.prog 84 [] _ _ _ [(0, .int .i64 n), (1, v1)] _
  refine AW.seq ?_
  refine AW.region ?_
  refine RW.q (v := (.slice none 0 0)) rfl (q_assign rfl) ?_
  refine RW.q (v := .bool false) rfl (q_assign rfl) ?_
  refine RW.nil ?_
  refine Post.then_n ?_
  refine AW.seq ?_
  refine AW.region ?_
  refine RW.q (v := .int .i64 n) rfl (q_move rfl) ?_
  refine RW.q (v := v1) rfl (q_move rfl) ?_
  refine RW.q (v := .bool (Gr.rightB n arcs)) rfl (q_call (args := #[.int .i64 n, v1]) own22 rfl rfl (fun w1 hw1 => rRight_c w1 Φ hw1.phi h1)) ?_
  refine RW.q (v := .bool (Gr.rightB n arcs)) rfl (q_assign rfl) ?_
  refine RW.nil ?_
  refine Post.then_n ?_
  refine AW.seq ?_
  refine AW.seq ?_
  refine AW.region ?_
  refine RW.q (v := .bool (Gr.rightB n arcs)) rfl (q_move rfl) ?_
  refine RW.q (v := .bool (!(Gr.rightB n arcs))) rfl (q_not rfl) ?_
  refine RW.nil ?_
  refine Post.then_n ?_
  refine AW.cond (b := !(Gr.rightB n arcs)) rfl (fun hc1 => ?_) (fun hc1 => ?_)
  · simp [-List.getD_eq_getElem?_getD] at hc1
    refine AW.seq ?_
    refine AW.region ?_
    refine RW.q (v := (.slice none 0 0)) rfl (q_assign rfl) ?_
    refine RW.q (v := .bool false) rfl (q_assign rfl) ?_
    refine RW.nil ?_
    refine Post.then_n ?_
    refine AW.ret ?_
    refine Post.then_r ?_
    rw [Gr.orderM, if_neg (by simp [hrf])]
    exact fin_rep2 rfl rfl rfl rfl (fun w' hw => pair_none)
  · simp [-List.getD_eq_getElem?_getD] at hc1
    simp [hrf] at hc1

theorem rOrder_c (w : World) (Φ : Hp) (hΦ : Hp.le Φ (hp w)) {n : Int} {arcs : List Gr.Arc} {v1 : Value} (h1 : RepSl Φ arcs v1) :
    Calls Try.prog 20 #[.int .i64 n, v1] w (RetS noHp w fun r Ψ => PairRep Ψ (Gr.orderM n arcs) r) := by
  cases h : Gr.rightB n arcs with
  | false => exact rOrder_f w Φ hΦ h1 h
  | true =>
    obtain ⟨N, rfl⟩ := Int.eq_ofNat_of_zero_le (Gr.right_ok h).1.1
    exact rOrder_t w Φ hΦ h1 h

end Go.Proofs.Ytjkoojeampaeeaa
