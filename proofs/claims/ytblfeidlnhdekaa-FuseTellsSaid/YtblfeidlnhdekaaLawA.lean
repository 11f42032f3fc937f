/- Walks (part LawA), printed by walk2.py. Conditions: those of each theorem. -/
import Derived.Test.YtblfeidlnhdekaaWalkN
import Derived.Test.YtblfeidlnhdekaaWalkL
namespace Go.Proofs.Ytblfeidlnhdekaa
open Go Go.K Go.RowKit

set_option maxRecDepth 8000 in
set_option maxHeartbeats 1000000 in
theorem FuseTells_c (w : World) (Φ : Hp) (hΦ : Hp.le Φ (hp w)) {b : Bt.Basin} {cs : List Value} (hB : RepV Φ b cs) {h : Bt.Hull} {hcs : List Value} (hH : RepV Φ h hcs) {l : List Bt.Reading} {lv : Value} (hl : RepSl Φ l lv) {hist : List (List Int)} {hv : Value} (hh : RepSl Φ hist hv) :
    Calls Try.prog 3 #[.agg cs.toArray, .agg hcs.toArray, lv, hv] w fun e w' => e = .returned (.bool true) ∧ Below w.heap.size w w' := by
  obtain ⟨v1, v3, v4, v5, v6, v7, v8, v9, hcs, hBw, r1, r3, r4, r5, r6, r7, r8, r9⟩ := (show Rep.rep Φ b cs from hB)
  subst hcs
  have hpm : b.Places.length * 152 ≤ 140737488355328 := r3.max
  have hgm : b.Gauges.length * 48 ≤ 140737488355328 := r6.max
  obtain ⟨hv1, hv2, hv3, hhcs, hhw, hr1, hr2, hr3⟩ := (show Rep.rep Φ h hcs from hH)
  subst hhcs
  have hm1 : h.Vol.length * 16 ≤ 140737488355328 := hr1.max
  have hm2 : h.Queue.length * 32 ≤ 140737488355328 := hr2.max
  have hm3 : h.Links.length * 40 ≤ 140737488355328 := hr3.max
  refine calls_of_AW (args := [.agg #[.string b.Name, v1, .int .i64 b.Cells, v3, v4, v5, v6, v7, v8, v9, .int .i64 b.Err], .agg #[.int .i64 h.Hour, hv1, hv2, hv3], lv, hv]) Try.func3 rfl (Nat.le_of_ble_eq_true rfl) (St ⟨w, Φ, []⟩ Φ []) (StP.init w Φ hΦ []) ?_
  show AW Try.prog 115 [] _ _ _ [(0, .agg #[.string b.Name, v1, .int .i64 b.Cells, v3, v4, v5, v6, v7, v8, v9, .int .i64 b.Err]), (1, .agg #[.int .i64 h.Hour, hv1, hv2, hv3]), (2, lv), (3, hv)] _
  have hlm : l.length * 32 ≤ 140737488355328 := hl.max
  have hhm : hist.length * 24 ≤ 140737488355328 := hh.max
  refine AW.seq ?_
  refine AW.region ?_
  refine RW.eff (fun b1 : Nat => .pointer (some (⟨b1, 0, none⟩))) (fun b1 => St ⟨w, Φ, []⟩ Φ [.blk b1 31 [.string b.Name, v1, .int .i64 b.Cells, v3, v4, v5, v6, v7, v8, v9, .int .i64 b.Err]]) rfl (e_boxA (cs := [.string b.Name, v1, .int .i64 b.Cells, v3, v4, v5, v6, v7, v8, v9, .int .i64 b.Err]) rfl) ?_
  intro b1
  refine RW.eff (fun b2 : Nat => .pointer (some (⟨b2, 0, none⟩))) (fun b2 => St ⟨w, Φ, []⟩ Φ [.blk b2 36 [.int .i64 h.Hour, hv1, hv2, hv3], .blk b1 31 [.string b.Name, v1, .int .i64 b.Cells, v3, v4, v5, v6, v7, v8, v9, .int .i64 b.Err]]) rfl (e_boxA (cs := [.int .i64 h.Hour, hv1, hv2, hv3]) rfl) ?_
  intro b2
  refine RW.q (v := .bool false) rfl (q_assign rfl) ?_
  refine RW.nil ?_
  refine Post.then_n ?_
  refine AW.seq ?_
  refine AW.region ?_
  refine RW.q (v := .bool true) rfl (q_call (args := #[]) own8 rfl rfl (fun w1 hw1 => small_c w1 (Go.K.hp w1) (Hp.le_refl _))) ?_
  refine RW.q (v := .bool true) rfl (q_assign rfl) ?_
  refine RW.nil ?_
  refine Post.then_n ?_
  refine AW.seq ?_
  refine AW.seq ?_
  refine AW.region ?_
  refine RW.q (v := .agg #[.string b.Name, v1, .int .i64 b.Cells, v3, v4, v5, v6, v7, v8, v9, .int .i64 b.Err]) rfl (q_loadAgg rfl Try.underlying31 rfl sz31 rfl (Cells.blk 1 rfl)) ?_
  refine RW.q (v := .agg #[.int .i64 h.Hour, hv1, hv2, hv3]) rfl (q_loadAgg rfl Try.underlying36 rfl sz36 rfl (Cells.blk 0 rfl)) ?_
  refine RW.q (v := .bool (decide (Fu.Few b h))) rfl (q_call (args := #[.agg #[.string b.Name, v1, .int .i64 b.Cells, v3, v4, v5, v6, v7, v8, v9, .int .i64 b.Err], .agg #[.int .i64 h.Hour, hv1, hv2, hv3]]) own9 rfl rfl (fun w1 hw1 => few_c w1 (Go.K.hp w1) (Hp.le_refl _) (hB.mono hw1.phi) (hH.mono hw1.phi))) ?_
  refine RW.q (v := .bool (!(decide (Fu.Few b h)))) rfl (q_not rfl) ?_
  refine RW.q (v := .bool (!(decide (Fu.Few b h)))) rfl (q_move rfl) ?_
  refine RW.g (b := (!(decide (Fu.Few b h)))) (v := lv) rfl rfl rfl (fun h => q_move rfl) ?_
  refine RW.g (b := (!(decide (Fu.Few b h)))) (v := .int .i64 ((l.length : Nat) : Int)) rfl rfl rfl (fun h => q_len_sl (gv_pos h) hl.sl Try.underlying37) ?_
  refine RW.g (b := (!(decide (Fu.Few b h)))) (v := .bool (decide ((40 : Int) < ((l.length : Nat) : Int)))) rfl rfl rfl (fun h => q_gtr (gv_pos h) rfl) ?_
  refine RW.q (v := .bool ((!(decide (Fu.Few b h))) || (decide ((40 : Int) < ((l.length : Nat) : Int))))) rfl (q_pick rfl (fun hp => pkOrT hp) (fun hp => (gv_pos hp).trans (pkOrF hp))) ?_
  refine RW.q (v := .bool ((!(decide (Fu.Few b h))) || (decide ((40 : Int) < ((l.length : Nat) : Int))))) rfl (q_move rfl) ?_
  refine RW.g (b := ((!(decide (Fu.Few b h))) || (decide ((40 : Int) < ((l.length : Nat) : Int))))) (v := hv) rfl rfl rfl (fun h => q_move rfl) ?_
  refine RW.g (b := ((!(decide (Fu.Few b h))) || (decide ((40 : Int) < ((l.length : Nat) : Int))))) (v := .int .i64 ((hist.length : Nat) : Int)) rfl rfl rfl (fun h => q_len_sl (gv_pos h) hh.sl Try.underlying38) ?_
  refine RW.g (b := ((!(decide (Fu.Few b h))) || (decide ((40 : Int) < ((l.length : Nat) : Int))))) (v := .bool (decide ((20 : Int) < ((hist.length : Nat) : Int)))) rfl rfl rfl (fun h => q_gtr (gv_pos h) rfl) ?_
  refine RW.q (v := .bool (((!(decide (Fu.Few b h))) || (decide ((40 : Int) < ((l.length : Nat) : Int)))) || (decide ((20 : Int) < ((hist.length : Nat) : Int))))) rfl (q_pick rfl (fun hp => pkOrT hp) (fun hp => (gv_pos hp).trans (pkOrF hp))) ?_
  refine RW.nil ?_
  refine Post.then_n ?_
  refine AW.cond (b := ((!(decide (Fu.Few b h))) || (decide ((40 : Int) < ((l.length : Nat) : Int)))) || (decide ((20 : Int) < ((hist.length : Nat) : Int)))) rfl (fun hc1 => ?_) (fun hc1 => ?_)
  · simp [-List.getD_eq_getElem?_getD] at hc1
    refine AW.seq ?_
    refine AW.region ?_
    refine RW.q (v := .bool true) rfl (q_move rfl) ?_
    refine RW.q (v := .bool true) rfl (q_assign rfl) ?_
    refine RW.nil ?_
    refine Post.then_n ?_
    refine AW.ret ?_
    refine Post.then_r ?_
    exact fin_val (v' := .bool true) rfl rfl rfl (rfl)
  · simp [-List.getD_eq_getElem?_getD] at hc1
    refine AW.skip ?_
    refine Post.then_n ?_
    refine AW.seq ?_
    refine AW.seq ?_
    have hfew : Fu.Few b h := by simpa using hc1.1.1
    obtain ⟨hf1, hf2, hf3, hf4, hf5, hf6⟩ := hfew
    refine AW.region ?_
    refine RW.q (v := .int .i64 0) rfl (q_assign rfl) ?_
    refine RW.nil ?_
    refine Post.then_n ?_
    refine AW.block ?_
    refine AW.loop (fun s J m => ∃ (k : Nat), s = [(2, lv), (3, hv), (4, .pointer (some (⟨b1, 0, none⟩))), (5, .pointer (some (⟨b2, 0, none⟩))), (9, .bool true), (10, .int .i64 (k : Int))] ∧ J = St ⟨w, Φ, []⟩ Φ [.blk b2 36 [.int .i64 h.Hour, hv1, hv2, hv3], .blk b1 31 [.string b.Name, v1, .int .i64 b.Cells, v3, v4, v5, v6, v7, v8, v9, .int .i64 b.Err]] ∧ m = hist.length - k ∧ (k ≤ hist.length)) (s0 := _) (J1 := _) (m0 := _) ⟨0, rfl, rfl, rfl, (by omega)⟩ ⟨rfl, rfl, rfl, rfl, rfl, rfl, trivial⟩ (fun _ h => h) ?_
    rintro _ _ _ _ ⟨k, rfl, rfl, rfl, hk⟩
    refine AW.seq ?_
    refine AW.seq ?_
    refine AW.region ?_
    refine RW.q (v := .int .i64 (k : Int)) rfl (q_move rfl) ?_
    refine RW.q (v := hv) rfl (q_move rfl) ?_
    refine RW.q (v := .int .i64 ((hist.length : Nat) : Int)) rfl (q_len_sl rfl hh.sl Try.underlying38) ?_
    refine RW.q (v := .bool (decide ((k : Int) < ((hist.length : Nat) : Int)))) rfl (q_lss rfl rfl) ?_
    refine RW.nil ?_
    refine Post.then_n ?_
    refine AW.cond (b := decide ((k : Int) < ((hist.length : Nat) : Int))) rfl (fun hc2 => ?_) (fun hc2 => ?_)
    · simp [-List.getD_eq_getElem?_getD] at hc2
      refine AW.skip ?_
      refine Post.then_n ?_
      refine AW.seq ?_
      refine AW.block ?_
      refine AW.seq ?_
      refine AW.region ?_
      refine RW.q (v := hv) rfl (q_move rfl) ?_
      refine RW.q (v := .int .i64 (k : Int)) rfl (q_move rfl) ?_
      refine RW.q (v := .pointer (some (Value.at hv (k * 1)))) rfl (q_indexAddr rfl rfl hh.sl Try.underlying38 sz29 (by omega) (by omega) rfl) ?_
      obtain ⟨sv1, hsv1, hpc1⟩ := hh.sub (k := k) (by omega)
      refine RW.q (v := sv1) rfl (q_load rfl Try.underlying29 rfl (Cell.phi hpc1)) ?_
      refine RW.q (v := .int .i64 (((hist.getD k []).length : Nat) : Int)) rfl (q_len_sl rfl hsv1.sl Try.underlying29) ?_
      refine RW.q (v := .bool (decide ((40 : Int) < (((hist.getD k []).length : Nat) : Int)))) rfl (q_gtr rfl rfl) ?_
      refine RW.nil ?_
      refine Post.then_n ?_
      refine AW.cond (b := decide ((40 : Int) < (((hist.getD k []).length : Nat) : Int))) rfl (fun hc3 => ?_) (fun hc3 => ?_)
      · simp [-List.getD_eq_getElem?_getD] at hc3
        refine AW.seq ?_
        refine AW.region ?_
        refine RW.q (v := .bool true) rfl (q_move rfl) ?_
        refine RW.q (v := .bool true) rfl (q_assign rfl) ?_
        refine RW.nil ?_
        refine Post.then_n ?_
        refine AW.ret ?_
        refine Post.blk_r (Post.then_r (Post.then_r (Post.blk_r (Post.then_r ?_))))
        exact fin_val (v' := .bool true) rfl rfl rfl (rfl)
      · simp [-List.getD_eq_getElem?_getD] at hc3
        refine AW.skip ?_
        refine Post.blk_n (Post.then_n ?_)
        refine AW.region ?_
        refine RW.q (v := .int .i64 (k : Int)) rfl (q_move rfl) ?_
        refine RW.q (v := .int .i64 ((k + 1 : Nat) : Int)) rfl (q_add rfl rfl (by omega) (by unfold I64; omega)) ?_
        refine RW.q (v := .int .i64 ((k + 1 : Nat) : Int)) rfl (q_assign rfl) ?_
        refine RW.nil ?_
        exact Post.back (s' := _) (J' := _) (m' := _) (by omega) ⟨k + 1, rfl, rfl, rfl, (by omega)⟩ ⟨rfl, rfl, rfl, rfl, rfl, rfl, trivial⟩ (fun _ h => h)
    · simp [-List.getD_eq_getElem?_getD] at hc2
      refine AW.exit ?_
      refine Post.then_x (Post.then_x (Post.blk_hit (Post.then_n ?_)))
      refine AW.seq ?_
      refine AW.seq ?_
      refine AW.region ?_
      refine RW.q (v := .int .i64 0) rfl (q_assign rfl) ?_
      refine RW.nil ?_
      refine Post.then_n ?_
      refine AW.block ?_
      refine AW.loop (fun s J m => ∃ (k : Nat), s = [(2, lv), (3, hv), (4, .pointer (some (⟨b1, 0, none⟩))), (5, .pointer (some (⟨b2, 0, none⟩))), (9, .bool true), (11, .int .i64 (k : Int))] ∧ J = St ⟨w, Φ, []⟩ Φ [.blk b2 36 [.int .i64 h.Hour, hv1, hv2, hv3], .blk b1 31 [.string b.Name, v1, .int .i64 b.Cells, v3, v4, v5, v6, v7, v8, v9, .int .i64 b.Err]] ∧ m = l.length - k ∧ (k ≤ l.length)) (s0 := _) (J1 := _) (m0 := _) ⟨0, rfl, rfl, rfl, (by omega)⟩ ⟨rfl, rfl, rfl, rfl, rfl, rfl, trivial⟩ (fun _ h => h) ?_
      rintro _ _ _ _ ⟨k, rfl, rfl, rfl, hk⟩
      refine AW.seq ?_
      refine AW.seq ?_
      refine AW.region ?_
      refine RW.q (v := .int .i64 (k : Int)) rfl (q_move rfl) ?_
      refine RW.q (v := lv) rfl (q_move rfl) ?_
      refine RW.q (v := .int .i64 ((l.length : Nat) : Int)) rfl (q_len_sl rfl hl.sl Try.underlying37) ?_
      refine RW.q (v := .bool (decide ((k : Int) < ((l.length : Nat) : Int)))) rfl (q_lss rfl rfl) ?_
      refine RW.nil ?_
      refine Post.then_n ?_
      refine AW.cond (b := decide ((k : Int) < ((l.length : Nat) : Int))) rfl (fun hc4 => ?_) (fun hc4 => ?_)
      · simp [-List.getD_eq_getElem?_getD] at hc4
        refine AW.skip ?_
        refine Post.then_n ?_
        refine AW.seq ?_
        refine AW.block ?_
        refine AW.seq ?_
        have hrw := (hl.wfE _ (Fu.getD_mem (show k < l.length by omega))).2.2
        have hB_0 := hB
        have r3_0 := r3
        have r6_0 := r6
        have hH_0 := hH
        have hr1_0 := hr1
        have hr2_0 := hr2
        have hr3_0 := hr3
        have hl_0 := hl
        have hh_0 := hh
        refine AW.draw (J0 := St ⟨w, Φ, []⟩ Φ [.blk b2 36 [.int .i64 h.Hour, hv1, hv2, hv3], .blk b1 31 [.string b.Name, v1, .int .i64 b.Cells, v3, v4, v5, v6, v7, v8, v9, .int .i64 b.Err]]) [.q, .q, .q, .q, .q, .q, .q, .q, .q, .e, .e, .q] [0, 1, 2, 3, 4, 5, 6, 7, 8, 9, 10, 11] hmix (by kernel_rfl) ?_
        refine DW.q (v := .agg #[.string b.Name, v1, .int .i64 b.Cells, v3, v4, v5, v6, v7, v8, v9, .int .i64 b.Err]) (fun _ h => h) rfl (q_loadAgg rfl Try.underlying31 rfl sz31 rfl (Cells.blk 1 rfl)) ?_
        refine DW.q (v := lv) (fun _ h => h) rfl (q_move rfl) ?_
        refine DW.q (v := .int .i64 (k : Int)) (fun _ h => h) rfl (q_move rfl) ?_
        refine DW.q (v := .pointer (some (Value.at lv (k * 4)))) (fun _ h => h) rfl (q_indexAddr rfl rfl hl.sl Try.underlying37 sz46 (by omega) (by omega) rfl) ?_
        refine DW.q (v := .agg #[.int .i64 ((l.getD k default).Gauge), .int .i64 ((l.getD k default).Hour), .int .i64 ((l.getD k default).Value.Lo), .int .i64 ((l.getD k default).Value.Hi)]) (fun _ h => h) rfl (q_loadAgg rfl Try.underlying46 rfl sz46 rfl (Cells.repE hl (by omega) rfl)) ?_
        refine DW.q (v := .tuple #[.agg #[.int .i64 (Fu.loOf (Fu.volR b (l.getD k default))), .int .i64 (Fu.hiOf (Fu.volR b (l.getD k default)))], .bool ((Fu.volR b (l.getD k default)).isSome)]) (fun _ h => h) rfl (q_call (args := #[.agg #[.string b.Name, v1, .int .i64 b.Cells, v3, v4, v5, v6, v7, v8, v9, .int .i64 b.Err], .agg #[.int .i64 ((l.getD k default).Gauge), .int .i64 ((l.getD k default).Hour), .int .i64 ((l.getD k default).Value.Lo), .int .i64 ((l.getD k default).Value.Hi)]]) own10 rfl rfl (fun w1 hw1 => Volume_c w1 (Go.K.hp w1) (Hp.le_refl _) (hB.mono hw1.phi) (r := (l.getD k default)) hrw)) ?_
        refine DW.q (v := .tuple #[.agg #[.int .i64 (Fu.loOf (Fu.volR b (l.getD k default))), .int .i64 (Fu.hiOf (Fu.volR b (l.getD k default)))], .bool ((Fu.volR b (l.getD k default)).isSome)]) (fun _ h => h) rfl (q_move rfl) ?_
        refine DW.q (v := .agg #[.int .i64 (Fu.loOf (Fu.volR b (l.getD k default))), .int .i64 (Fu.hiOf (Fu.volR b (l.getD k default)))]) (fun _ h => h) rfl (q_extract rfl rfl) ?_
        refine DW.q (v := .bool ((Fu.volR b (l.getD k default)).isSome)) (fun _ h => h) rfl (q_extract rfl rfl) ?_
        refine DW.eff (fun b3 : Nat => .pointer (some (⟨b3, 0, none⟩))) (fun b3 => St ⟨w, Φ, []⟩ Φ [.blk b3 42 [.int .i64 0, .int .i64 0], .blk b2 36 [.int .i64 h.Hour, hv1, hv2, hv3], .blk b1 31 [.string b.Name, v1, .int .i64 b.Cells, v3, v4, v5, v6, v7, v8, v9, .int .i64 b.Err]]) (fun _ _ => (fun _ h => (StP.drop h (by exact .cons _ (.cons_cons _ (.cons_cons _ (.slnil))))))) rfl (e_alloc zero42) ?_
        intro b3
        refine DW.effn (J' := St ⟨w, Φ, []⟩ Φ [.blk b3 42 [.int .i64 (Fu.loOf (Fu.volR b (l.getD k default))), .int .i64 (Fu.hiOf (Fu.volR b (l.getD k default)))], .blk b2 36 [.int .i64 h.Hour, hv1, hv2, hv3], .blk b1 31 [.string b.Name, v1, .int .i64 b.Cells, v3, v4, v5, v6, v7, v8, v9, .int .i64 b.Err]]) (fun _ => (fun _ h => (StP.drop h (by exact .cons _ (.cons_cons _ (.cons_cons _ (.slnil))))))) (e_store (v := .agg #[.int .i64 (Fu.loOf (Fu.volR b (l.getD k default))), .int .i64 (Fu.hiOf (Fu.volR b (l.getD k default)))]) 0 rfl rfl rfl sz42 rfl rfl rfl rfl rfl) ?_
        refine DW.q (v := .bool ((Fu.volR b (l.getD k default)).isSome)) (fun _ h => (StP.drop h (by exact .cons _ (.cons_cons _ (.cons_cons _ (.slnil)))))) rfl (q_assign rfl) ?_
        refine DW.nil ?_
        refine Post.then_n ?_
        refine AW.seq ?_
        have hB_0 := hB
        have r3_0 := r3
        have r6_0 := r6
        have hH_0 := hH
        have hr1_0 := hr1
        have hr2_0 := hr2
        have hr3_0 := hr3
        have hl_0 := hl
        have hh_0 := hh
        refine AW.draw (J0 := St ⟨w, Φ, []⟩ Φ [.blk b3 42 [.int .i64 (Fu.loOf (Fu.volR b (l.getD k default))), .int .i64 (Fu.hiOf (Fu.volR b (l.getD k default)))], .blk b2 36 [.int .i64 h.Hour, hv1, hv2, hv3], .blk b1 31 [.string b.Name, v1, .int .i64 b.Cells, v3, v4, v5, v6, v7, v8, v9, .int .i64 b.Err]]) [.q, .q, .q, .q, .q, .q, .q, .q, .q, .e, .e, .q] [0, 1, 2, 3, 4, 5, 6, 7, 8, 9, 10, 11] hmix (by kernel_rfl) ?_
        refine DW.q (v := .agg #[.string b.Name, v1, .int .i64 b.Cells, v3, v4, v5, v6, v7, v8, v9, .int .i64 b.Err]) (fun _ h => h) rfl (q_loadAgg rfl Try.underlying31 rfl sz31 rfl (Cells.blk 2 rfl)) ?_
        refine DW.q (v := lv) (fun _ h => h) rfl (q_move rfl) ?_
        refine DW.q (v := .int .i64 (k : Int)) (fun _ h => h) rfl (q_move rfl) ?_
        refine DW.q (v := .pointer (some (Value.at lv (k * 4)))) (fun _ h => h) rfl (q_indexAddr rfl rfl hl.sl Try.underlying37 sz46 (by omega) (by omega) rfl) ?_
        refine DW.q (v := .agg #[.int .i64 ((l.getD k default).Gauge), .int .i64 ((l.getD k default).Hour), .int .i64 ((l.getD k default).Value.Lo), .int .i64 ((l.getD k default).Value.Hi)]) (fun _ h => h) rfl (q_loadAgg rfl Try.underlying46 rfl sz46 rfl (Cells.repE hl (by omega) rfl)) ?_
        refine DW.q (v := .tuple #[.agg #[.int .i64 (Fu.loOf (Fu.volR b (l.getD k default))), .int .i64 (Fu.hiOf (Fu.volR b (l.getD k default)))], .bool ((Fu.volR b (l.getD k default)).isSome)]) (fun _ h => h) rfl (q_call (args := #[.agg #[.string b.Name, v1, .int .i64 b.Cells, v3, v4, v5, v6, v7, v8, v9, .int .i64 b.Err], .agg #[.int .i64 ((l.getD k default).Gauge), .int .i64 ((l.getD k default).Hour), .int .i64 ((l.getD k default).Value.Lo), .int .i64 ((l.getD k default).Value.Hi)]]) own11 rfl rfl (fun w1 hw1 => rVolume_c w1 (Go.K.hp w1) (Hp.le_refl _) (hB.mono hw1.phi) (r := (l.getD k default)) hrw)) ?_
        refine DW.q (v := .tuple #[.agg #[.int .i64 (Fu.loOf (Fu.volR b (l.getD k default))), .int .i64 (Fu.hiOf (Fu.volR b (l.getD k default)))], .bool ((Fu.volR b (l.getD k default)).isSome)]) (fun _ h => h) rfl (q_move rfl) ?_
        refine DW.q (v := .agg #[.int .i64 (Fu.loOf (Fu.volR b (l.getD k default))), .int .i64 (Fu.hiOf (Fu.volR b (l.getD k default)))]) (fun _ h => h) rfl (q_extract rfl rfl) ?_
        refine DW.q (v := .bool ((Fu.volR b (l.getD k default)).isSome)) (fun _ h => h) rfl (q_extract rfl rfl) ?_
        refine DW.eff (fun b4 : Nat => .pointer (some (⟨b4, 0, none⟩))) (fun b4 => St ⟨w, Φ, []⟩ Φ [.blk b4 42 [.int .i64 0, .int .i64 0], .blk b3 42 [.int .i64 (Fu.loOf (Fu.volR b (l.getD k default))), .int .i64 (Fu.hiOf (Fu.volR b (l.getD k default)))], .blk b2 36 [.int .i64 h.Hour, hv1, hv2, hv3], .blk b1 31 [.string b.Name, v1, .int .i64 b.Cells, v3, v4, v5, v6, v7, v8, v9, .int .i64 b.Err]]) (fun _ _ => (fun _ h => (StP.drop h (by exact .cons _ (.cons_cons _ (.cons_cons _ (.cons_cons _ (.slnil)))))))) rfl (e_alloc zero42) ?_
        intro b4
        refine DW.effn (J' := St ⟨w, Φ, []⟩ Φ [.blk b4 42 [.int .i64 (Fu.loOf (Fu.volR b (l.getD k default))), .int .i64 (Fu.hiOf (Fu.volR b (l.getD k default)))], .blk b3 42 [.int .i64 (Fu.loOf (Fu.volR b (l.getD k default))), .int .i64 (Fu.hiOf (Fu.volR b (l.getD k default)))], .blk b2 36 [.int .i64 h.Hour, hv1, hv2, hv3], .blk b1 31 [.string b.Name, v1, .int .i64 b.Cells, v3, v4, v5, v6, v7, v8, v9, .int .i64 b.Err]]) (fun _ => (fun _ h => (StP.drop h (by exact .cons _ (.cons_cons _ (.cons_cons _ (.cons_cons _ (.slnil)))))))) (e_store (v := .agg #[.int .i64 (Fu.loOf (Fu.volR b (l.getD k default))), .int .i64 (Fu.hiOf (Fu.volR b (l.getD k default)))]) 0 rfl rfl rfl sz42 rfl rfl rfl rfl rfl) ?_
        refine DW.q (v := .bool ((Fu.volR b (l.getD k default)).isSome)) (fun _ h => (StP.drop h (by exact .cons _ (.cons_cons _ (.cons_cons _ (.cons_cons _ (.slnil))))))) rfl (q_assign rfl) ?_
        refine DW.nil ?_
        refine Post.then_n ?_
        refine AW.seq ?_
        refine AW.region ?_
        refine RW.q (v := .agg #[.int .i64 (Fu.loOf (Fu.volR b (l.getD k default))), .int .i64 (Fu.hiOf (Fu.volR b (l.getD k default)))]) rfl (q_loadAgg rfl Try.underlying42 rfl sz42 rfl (Cells.blk 1 rfl)) ?_
        refine RW.q (v := .agg #[.int .i64 (Fu.loOf (Fu.volR b (l.getD k default))), .int .i64 (Fu.hiOf (Fu.volR b (l.getD k default)))]) rfl (q_loadAgg rfl Try.underlying42 rfl sz42 rfl (Cells.blk 0 rfl)) ?_
        refine RW.q (v := .bool false) rfl (q_as (v := .bool (!(decide (Fu.loOf (Fu.volR b (l.getD k default)) = Fu.loOf (Fu.volR b (l.getD k default))) && decide (Fu.hiOf (Fu.volR b (l.getD k default)) = Fu.hiOf (Fu.volR b (l.getD k default)))))) (q_neqS rfl rfl (eqS42 _ _ _ _) eqG42) (congrArg Value.bool (by simp))) ?_
        refine RW.q (v := .bool false) rfl (q_move rfl) ?_
        refine RW.gl (v := .bool ((Fu.volR b (l.getD k default)).isSome)) rfl rfl rfl (q_move rfl) ?_
        refine RW.gl (v := .bool ((Fu.volR b (l.getD k default)).isSome)) rfl rfl rfl (q_move rfl) ?_
        refine RW.gl (v := .bool false) rfl rfl rfl (q_as (v := .bool (!(((Fu.volR b (l.getD k default)).isSome) == ((Fu.volR b (l.getD k default)).isSome)))) (q_neqB rfl rfl Try.underlying4) (congrArg Value.bool (by simp))) ?_
        refine RW.q (v := .bool false) rfl (q_pick rfl (fun hp => pkOrT (q := false) (r := false) hp) (fun hp => pkOrF (q := false) (r := false) hp)) ?_
        refine RW.nil ?_
        refine Post.then_n ?_
        refine AW.cond (b := false) rfl (fun hc5 => ?_) (fun hc5 => ?_)
        · cases hc5
        · skip
          refine AW.skip ?_
          refine Post.blk_n (Post.then_n ?_)
          refine AW.region ?_
          refine RW.q (v := .int .i64 (k : Int)) rfl (q_move rfl) ?_
          refine RW.q (v := .int .i64 ((k + 1 : Nat) : Int)) rfl (q_add rfl rfl (by omega) (by unfold I64; omega)) ?_
          refine RW.q (v := .int .i64 ((k + 1 : Nat) : Int)) rfl (q_assign rfl) ?_
          refine RW.nil ?_
          exact Post.back (s' := _) (J' := _) (m' := _) (by omega) ⟨k + 1, rfl, rfl, rfl, (by omega)⟩ ⟨rfl, rfl, rfl, rfl, rfl, rfl, trivial⟩ (fun _ h => StP.drop h (by exact .cons _ (.cons _ (.cons_cons _ (.cons_cons _ (.slnil))))))
      · simp [-List.getD_eq_getElem?_getD] at hc4
        refine AW.exit ?_
        refine Post.then_x (Post.then_x (Post.blk_hit (Post.then_n ?_)))
        refine AW.seq ?_
        refine AW.region ?_
        refine RW.q (v := .agg #[.string b.Name, v1, .int .i64 b.Cells, v3, v4, v5, v6, v7, v8, v9, .int .i64 b.Err]) rfl (q_loadAgg rfl Try.underlying31 rfl sz31 rfl (Cells.blk 1 rfl)) ?_
        refine RW.q (v := .agg #[.int .i64 h.Hour, hv1, hv2, hv3]) rfl (q_loadAgg rfl Try.underlying36 rfl sz36 rfl (Cells.blk 0 rfl)) ?_
        refine RW.q (v := lv) rfl (q_move rfl) ?_
        refine RW.eff (fun x : {z : (Value × Value × Value × Value) × Hp // (fun (y : Value × Value × Value × Value) (Ψ : Hp) => (RepSl Ψ (Fu.fuse b h l).V y.1) ∧ (RepSl Ψ h.Queue y.2.1) ∧ (RepSl Ψ (Fu.fuse b h l).K y.2.2.1) ∧ (RepSl Ψ (Fu.comp (Fu.fuse b h l).N) y.2.2.2) ∧ (RepV Ψ (Fu.hullOf h (Fu.fuse b h l)) [.int .i64 h.Hour, y.1, y.2.1, y.2.2.1])) z.1 z.2 ∧ Hp.le Φ z.2} => .tuple #[.agg #[.int .i64 h.Hour, x.1.1.1, x.1.1.2.1, x.1.1.2.2.1], x.1.1.2.2.2]) (fun x => St ⟨w, Φ, []⟩ x.1.2 [.blk b2 36 [.int .i64 h.Hour, hv1, hv2, hv3], .blk b1 31 [.string b.Name, v1, .int .i64 b.Cells, v3, v4, v5, v6, v7, v8, v9, .int .i64 b.Err]]) rfl (e_callX (fun (y : Value × Value × Value × Value) => .tuple #[.agg #[.int .i64 h.Hour, y.1, y.2.1, y.2.2.1], y.2.2.2]) (fun (y : Value × Value × Value × Value) (Ψ : Hp) => (RepSl Ψ (Fu.fuse b h l).V y.1) ∧ (RepSl Ψ h.Queue y.2.1) ∧ (RepSl Ψ (Fu.fuse b h l).K y.2.2.1) ∧ (RepSl Ψ (Fu.comp (Fu.fuse b h l).N) y.2.2.2) ∧ (RepV Ψ (Fu.hullOf h (Fu.fuse b h l)) [.int .i64 h.Hour, y.1, y.2.1, y.2.2.1])) (args := #[.agg #[.string b.Name, v1, .int .i64 b.Cells, v3, v4, v5, v6, v7, v8, v9, .int .i64 b.Err], .agg #[.int .i64 h.Hour, hv1, hv2, hv3], lv]) own12 rfl rfl (fun w1 hw1 => ((((Fuse_c w1 (Go.K.hp w1) (Hp.le_refl _) (hB.mono hw1.phi) (hH.mono hw1.phi) (hl.mono hw1.phi) (by omega) (by omega) (by omega) (by omega)).mono fun _ _ => retS_up (fun _ _ _ hl ⟨a, b, c, d, e, h1, h2, h3, h4⟩ => ⟨a, b, c, d, e, h1.mono hl, h2.mono hl, h3.mono hl, h4.mono hl⟩))).mono fun e w2 hr => by obtain ⟨v9, he9, hb9, u1, u2, u3, u4, hr9, q1, q2, q3, q4⟩ := hr; exact (show RetS _ _ (fun r Ψ => ∃ u1 u2 u3 u4 : Value, r = .tuple #[.agg #[.int .i64 h.Hour, u1, u2, u3], u4] ∧ RepSl Ψ (Fu.fuse b h l).V u1 ∧ RepSl Ψ h.Queue u2 ∧ RepSl Ψ (Fu.fuse b h l).K u3 ∧ RepSl Ψ (Fu.comp (Fu.fuse b h l).N) u4 ∧ RepV Ψ (Fu.hullOf h (Fu.fuse b h l)) [.int .i64 h.Hour, u1, u2, u3]) _ _ from ⟨v9, he9, hb9, u1, u2, u3, u4, hr9, q1, q2, q3, q4, ⟨_, _, _, rfl, (show I64 h.Hour from hourOf hH), q1, q2, q3⟩⟩)).mono fun e w2 hr => by obtain ⟨v9, he9, hb9, u1, u2, u3, u4, hr9, q1, q2, q3, q4, q5⟩ := hr; exact ⟨v9, he9, hb9, (u1, u2, u3, u4), hr9, q1, q2, q3, q4, q5⟩)) ?_
        rintro ⟨⟨⟨fv1, fv2, fv3, fv4⟩, Φ1⟩, ⟨kfv1, kfv2, kfv3, kfv4, Hfv1⟩, hlΦ1⟩
        replace kfv1 : RepSl Φ1 (Fu.fuse b h l).V fv1 := kfv1
        replace kfv2 : RepSl Φ1 h.Queue fv2 := kfv2
        replace kfv3 : RepSl Φ1 (Fu.fuse b h l).K fv3 := kfv3
        replace kfv4 : RepSl Φ1 (Fu.comp (Fu.fuse b h l).N) fv4 := kfv4
        replace Hfv1 : RepV Φ1 (Fu.hullOf h (Fu.fuse b h l)) [.int .i64 h.Hour, fv1, fv2, fv3] := Hfv1
        replace hlΦ1 : Hp.le Φ Φ1 := hlΦ1
        replace hB := hB.mono hlΦ1
        replace r3 := r3.mono hlΦ1
        replace r6 := r6.mono hlΦ1
        replace hH := hH.mono hlΦ1
        replace hr1 := hr1.mono hlΦ1
        replace hr2 := hr2.mono hlΦ1
        replace hr3 := hr3.mono hlΦ1
        replace hl := hl.mono hlΦ1
        replace hh := hh.mono hlΦ1
        refine RW.q (v := .tuple #[.agg #[.int .i64 h.Hour, fv1, fv2, fv3], fv4]) rfl (q_move rfl) ?_
        refine RW.q (v := .agg #[.int .i64 h.Hour, fv1, fv2, fv3]) rfl (q_extract rfl rfl) ?_
        refine RW.q (v := fv4) rfl (q_extract rfl rfl) ?_
        refine RW.eff (fun b5 : Nat => .pointer (some (⟨b5, 0, none⟩))) (fun b5 => St ⟨w, Φ, []⟩ Φ1 [.blk b5 36 [.int .i64 0, (.slice none 0 0), (.slice none 0 0), (.slice none 0 0)], .blk b2 36 [.int .i64 h.Hour, hv1, hv2, hv3], .blk b1 31 [.string b.Name, v1, .int .i64 b.Cells, v3, v4, v5, v6, v7, v8, v9, .int .i64 b.Err]]) rfl (e_alloc zero36) ?_
        intro b5
        refine RW.effn (J' := St ⟨w, Φ, []⟩ Φ1 [.blk b5 36 [.int .i64 h.Hour, fv1, fv2, fv3], .blk b2 36 [.int .i64 h.Hour, hv1, hv2, hv3], .blk b1 31 [.string b.Name, v1, .int .i64 b.Cells, v3, v4, v5, v6, v7, v8, v9, .int .i64 b.Err]]) (e_store (v := .agg #[.int .i64 h.Hour, fv1, fv2, fv3]) 0 rfl rfl rfl sz36 rfl (by show List.all [_, fv1, fv2, fv3] _ = true; simp only [List.all_cons, List.all_nil, oneCell_sl kfv1.sl, oneCell_sl kfv2.sl, oneCell_sl kfv3.sl]; rfl) rfl rfl rfl) ?_
        refine RW.q (v := fv4) rfl (q_assign rfl) ?_
        refine RW.nil ?_
        refine Post.then_n ?_
        refine AW.seq ?_
        refine AW.region ?_
        refine RW.q (v := .agg #[.string b.Name, v1, .int .i64 b.Cells, v3, v4, v5, v6, v7, v8, v9, .int .i64 b.Err]) rfl (q_loadAgg rfl Try.underlying31 rfl sz31 rfl (Cells.blk 2 rfl)) ?_
        refine RW.q (v := .agg #[.int .i64 h.Hour, hv1, hv2, hv3]) rfl (q_loadAgg rfl Try.underlying36 rfl sz36 rfl (Cells.blk 1 rfl)) ?_
        refine RW.q (v := lv) rfl (q_move rfl) ?_
        refine RW.eff (fun x : {z : (Value × Value × Value × Value) × Hp // (fun (y : Value × Value × Value × Value) (Ψ : Hp) => (RepSl Ψ (Fu.fuse b h l).V y.1) ∧ (RepSl Ψ h.Queue y.2.1) ∧ (RepSl Ψ (Fu.fuse b h l).K y.2.2.1) ∧ (RepSl Ψ (Fu.comp (Fu.fuse b h l).N) y.2.2.2) ∧ (RepV Ψ (Fu.hullOf h (Fu.fuse b h l)) [.int .i64 h.Hour, y.1, y.2.1, y.2.2.1])) z.1 z.2 ∧ Hp.le Φ1 z.2} => .tuple #[.agg #[.int .i64 h.Hour, x.1.1.1, x.1.1.2.1, x.1.1.2.2.1], x.1.1.2.2.2]) (fun x => St ⟨w, Φ, []⟩ x.1.2 [.blk b5 36 [.int .i64 h.Hour, fv1, fv2, fv3], .blk b2 36 [.int .i64 h.Hour, hv1, hv2, hv3], .blk b1 31 [.string b.Name, v1, .int .i64 b.Cells, v3, v4, v5, v6, v7, v8, v9, .int .i64 b.Err]]) rfl (e_callX (fun (y : Value × Value × Value × Value) => .tuple #[.agg #[.int .i64 h.Hour, y.1, y.2.1, y.2.2.1], y.2.2.2]) (fun (y : Value × Value × Value × Value) (Ψ : Hp) => (RepSl Ψ (Fu.fuse b h l).V y.1) ∧ (RepSl Ψ h.Queue y.2.1) ∧ (RepSl Ψ (Fu.fuse b h l).K y.2.2.1) ∧ (RepSl Ψ (Fu.comp (Fu.fuse b h l).N) y.2.2.2) ∧ (RepV Ψ (Fu.hullOf h (Fu.fuse b h l)) [.int .i64 h.Hour, y.1, y.2.1, y.2.2.1])) (args := #[.agg #[.string b.Name, v1, .int .i64 b.Cells, v3, v4, v5, v6, v7, v8, v9, .int .i64 b.Err], .agg #[.int .i64 h.Hour, hv1, hv2, hv3], lv]) own13 rfl rfl (fun w1 hw1 => (((rFuse_c w1 _ hw1.phi hB hH hl (by omega) (by omega) (by omega))).mono fun e w2 hr => by obtain ⟨v9, he9, hb9, u1, u2, u3, u4, hr9, q1, q2, q3, q4⟩ := hr; exact (show RetS _ _ (fun r Ψ => ∃ u1 u2 u3 u4 : Value, r = .tuple #[.agg #[.int .i64 h.Hour, u1, u2, u3], u4] ∧ RepSl Ψ (Fu.fuse b h l).V u1 ∧ RepSl Ψ h.Queue u2 ∧ RepSl Ψ (Fu.fuse b h l).K u3 ∧ RepSl Ψ (Fu.comp (Fu.fuse b h l).N) u4 ∧ RepV Ψ (Fu.hullOf h (Fu.fuse b h l)) [.int .i64 h.Hour, u1, u2, u3]) _ _ from ⟨v9, he9, hb9, u1, u2, u3, u4, hr9, q1, q2, q3, q4, ⟨_, _, _, rfl, (show I64 h.Hour from hourOf hH), q1, q2, q3⟩⟩)).mono fun e w2 hr => by obtain ⟨v9, he9, hb9, u1, u2, u3, u4, hr9, q1, q2, q3, q4, q5⟩ := hr; exact ⟨v9, he9, hb9, (u1, u2, u3, u4), hr9, q1, q2, q3, q4, q5⟩)) ?_
        rintro ⟨⟨⟨fv5, fv6, fv7, fv8⟩, Φ2⟩, ⟨kfv5, kfv6, kfv7, kfv8, Hfv5⟩, hlΦ2⟩
        replace kfv5 : RepSl Φ2 (Fu.fuse b h l).V fv5 := kfv5
        replace kfv6 : RepSl Φ2 h.Queue fv6 := kfv6
        replace kfv7 : RepSl Φ2 (Fu.fuse b h l).K fv7 := kfv7
        replace kfv8 : RepSl Φ2 (Fu.comp (Fu.fuse b h l).N) fv8 := kfv8
        replace Hfv5 : RepV Φ2 (Fu.hullOf h (Fu.fuse b h l)) [.int .i64 h.Hour, fv5, fv6, fv7] := Hfv5
        replace hlΦ2 : Hp.le Φ1 Φ2 := hlΦ2
        replace hB := hB.mono hlΦ2
        replace r3 := r3.mono hlΦ2
        replace r6 := r6.mono hlΦ2
        replace hH := hH.mono hlΦ2
        replace hr1 := hr1.mono hlΦ2
        replace hr2 := hr2.mono hlΦ2
        replace hr3 := hr3.mono hlΦ2
        replace hl := hl.mono hlΦ2
        replace hh := hh.mono hlΦ2
        replace kfv1 := kfv1.mono hlΦ2
        replace kfv2 := kfv2.mono hlΦ2
        replace kfv3 := kfv3.mono hlΦ2
        replace kfv4 := kfv4.mono hlΦ2
        replace Hfv1 := Hfv1.mono hlΦ2
        refine RW.q (v := .tuple #[.agg #[.int .i64 h.Hour, fv5, fv6, fv7], fv8]) rfl (q_move rfl) ?_
        refine RW.q (v := .agg #[.int .i64 h.Hour, fv5, fv6, fv7]) rfl (q_extract rfl rfl) ?_
        refine RW.q (v := fv8) rfl (q_extract rfl rfl) ?_
        refine RW.eff (fun b6 : Nat => .pointer (some (⟨b6, 0, none⟩))) (fun b6 => St ⟨w, Φ, []⟩ Φ2 [.blk b6 36 [.int .i64 0, (.slice none 0 0), (.slice none 0 0), (.slice none 0 0)], .blk b5 36 [.int .i64 h.Hour, fv1, fv2, fv3], .blk b2 36 [.int .i64 h.Hour, hv1, hv2, hv3], .blk b1 31 [.string b.Name, v1, .int .i64 b.Cells, v3, v4, v5, v6, v7, v8, v9, .int .i64 b.Err]]) rfl (e_alloc zero36) ?_
        intro b6
        refine RW.effn (J' := St ⟨w, Φ, []⟩ Φ2 [.blk b6 36 [.int .i64 h.Hour, fv5, fv6, fv7], .blk b5 36 [.int .i64 h.Hour, fv1, fv2, fv3], .blk b2 36 [.int .i64 h.Hour, hv1, hv2, hv3], .blk b1 31 [.string b.Name, v1, .int .i64 b.Cells, v3, v4, v5, v6, v7, v8, v9, .int .i64 b.Err]]) (e_store (v := .agg #[.int .i64 h.Hour, fv5, fv6, fv7]) 0 rfl rfl rfl sz36 rfl (by show List.all [_, fv5, fv6, fv7] _ = true; simp only [List.all_cons, List.all_nil, oneCell_sl kfv5.sl, oneCell_sl kfv6.sl, oneCell_sl kfv7.sl]; rfl) rfl rfl rfl) ?_
        refine RW.q (v := fv8) rfl (q_assign rfl) ?_
        refine RW.nil ?_
        refine Post.then_n ?_
        refine AW.seq ?_
        have hB_0 := hB
        have r3_0 := r3
        have r6_0 := r6
        have hH_0 := hH
        have hr1_0 := hr1
        have hr2_0 := hr2
        have hr3_0 := hr3
        have hl_0 := hl
        have hh_0 := hh
        have kfv1_0 := kfv1
        have kfv2_0 := kfv2
        have kfv3_0 := kfv3
        have kfv4_0 := kfv4
        have Hfv1_0 := Hfv1
        have kfv5_0 := kfv5
        have kfv6_0 := kfv6
        have kfv7_0 := kfv7
        have kfv8_0 := kfv8
        have Hfv5_0 := Hfv5
        refine AW.draw (J0 := St ⟨w, Φ, []⟩ Φ2 [.blk b6 36 [.int .i64 h.Hour, fv5, fv6, fv7], .blk b5 36 [.int .i64 h.Hour, fv1, fv2, fv3], .blk b2 36 [.int .i64 h.Hour, hv1, hv2, hv3], .blk b1 31 [.string b.Name, v1, .int .i64 b.Cells, v3, v4, v5, v6, v7, v8, v9, .int .i64 b.Err]]) [.q, .q, .q, .q, .q, .q, .q, .q, .q, .q, .q, .q, .q, .q, .q, .q, .e, .e, .e, .q, .q] [0, 1, 2, 3, 4, 5, 6, 7, 8, 9, 10, 11, 12, 13, 15, 16, 14, 17, 18, 19, 20] hmix (by kernel_rfl) ?_
        refine DW.q (v := .bool true) (fun _ h => h) rfl (q_move rfl) ?_
        refine DW.q (v := .bool true) (fun _ h => h) rfl (q_move rfl) ?_
        refine DW.gl (v := .agg #[.int .i64 h.Hour, fv1, fv2, fv3]) (fun _ h => h) rfl rfl rfl (q_loadAgg rfl Try.underlying36 rfl sz36 rfl (Cells.blk 1 rfl)) ?_
        refine DW.gl (v := .agg #[.int .i64 h.Hour, fv5, fv6, fv7]) (fun _ h => h) rfl rfl rfl (q_loadAgg rfl Try.underlying36 rfl sz36 rfl (Cells.blk 0 rfl)) ?_
        refine DW.gl (v := .bool true) (fun _ h => h) rfl rfl rfl (q_as (v := .bool (decide (Fu.sameH (Fu.hullOf h (Fu.fuse b h l)) (Fu.hullOf h (Fu.fuse b h l))))) (q_call (args := #[.agg #[.int .i64 h.Hour, fv1, fv2, fv3], .agg #[.int .i64 h.Hour, fv5, fv6, fv7]]) own14 rfl rfl (fun w1 hw1 => Same_c w1 (Go.K.hp w1) (Hp.le_refl _) (Hfv1.mono hw1.phi) (Hfv5.mono hw1.phi))) (congrArg Value.bool (decide_eq_true ⟨rfl, rfl, rfl, rfl⟩))) ?_
        refine DW.q (v := .bool true) (fun _ h => h) rfl (q_pick (t := true) rfl (fun _ => rfl) (fun hp => nomatch hp)) ?_
        refine DW.q (v := .bool true) (fun _ h => h) rfl (q_move rfl) ?_
        refine DW.gl (v := fv4) (fun _ h => h) rfl rfl rfl (q_move rfl) ?_
        refine DW.gl (v := fv8) (fun _ h => h) rfl rfl rfl (q_move rfl) ?_
        refine DW.gl (v := .bool true) (fun _ h => h) rfl rfl rfl (q_as (v := .bool (decide ((Fu.comp (Fu.fuse b h l).N) = (Fu.comp (Fu.fuse b h l).N)))) (q_call (args := #[fv4, fv8]) own15 rfl rfl (fun w1 hw1 => Same1_c w1 (Go.K.hp w1) (Hp.le_refl _) (kfv4.mono hw1.phi) (kfv8.mono hw1.phi))) (congrArg Value.bool (decide_eq_true rfl))) ?_
        refine DW.q (v := .bool true) (fun _ h => h) rfl (q_pick (t := true) rfl (fun _ => rfl) (fun hp => nomatch hp)) ?_
        refine DW.q (v := .bool true) (fun _ h => h) rfl (q_move rfl) ?_
        refine DW.gl (v := .agg #[.string b.Name, v1, .int .i64 b.Cells, v3, v4, v5, v6, v7, v8, v9, .int .i64 b.Err]) (fun _ h => h) rfl rfl rfl (q_loadAgg rfl Try.underlying31 rfl sz31 rfl (Cells.blk 3 rfl)) ?_
        refine DW.gl (v := hv) (fun _ h => h) rfl rfl rfl (q_move rfl) ?_
        refine DW.gl (v := .agg #[.string b.Name, v1, .int .i64 b.Cells, v3, v4, v5, v6, v7, v8, v9, .int .i64 b.Err]) (fun _ h => h) rfl rfl rfl (q_loadAgg rfl Try.underlying31 rfl sz31 rfl (Cells.blk 3 rfl)) ?_
        refine DW.gl (v := hv) (fun _ h => h) rfl rfl rfl (q_move rfl) ?_
        refine DW.effg (fun x : {y : Value × Hp // (fun r Ψ => RepSl Ψ (Fu.drift b.Gauges.length hist) r) y.1 y.2 ∧ Hp.le Φ2 y.2} => x.1.1) (fun x => St ⟨w, Φ, []⟩ x.1.2 [.blk b6 36 [.int .i64 h.Hour, fv5, fv6, fv7], .blk b5 36 [.int .i64 h.Hour, fv1, fv2, fv3], .blk b2 36 [.int .i64 h.Hour, hv1, hv2, hv3], .blk b1 31 [.string b.Name, v1, .int .i64 b.Cells, v3, v4, v5, v6, v7, v8, v9, .int .i64 b.Err]]) (fun _ x => (fun _ h => StP.know x.2.2 h)) rfl rfl rfl (e_callS (T := fun r Ψ => RepSl Ψ (Fu.drift b.Gauges.length hist) r) (args := #[.agg #[.string b.Name, v1, .int .i64 b.Cells, v3, v4, v5, v6, v7, v8, v9, .int .i64 b.Err], hv]) own16 rfl rfl (fun w1 hw1 => (Drifting_c w1 (Go.K.hp w1) (Hp.le_refl _) (hB.mono hw1.phi) (hh.mono hw1.phi)).mono fun _ _ => retS_up (fun _ _ _ hl h => h.mono hl))) ?_
        rintro ⟨⟨lv1, Φ3⟩, hlv1, hlΦ3⟩
        replace hlv1 : RepSl Φ3 (Fu.drift b.Gauges.length hist) lv1 := hlv1
        replace hlΦ3 : Hp.le Φ2 Φ3 := hlΦ3
        replace hB := hB.mono hlΦ3
        replace r3 := r3.mono hlΦ3
        replace r6 := r6.mono hlΦ3
        replace hH := hH.mono hlΦ3
        replace hr1 := hr1.mono hlΦ3
        replace hr2 := hr2.mono hlΦ3
        replace hr3 := hr3.mono hlΦ3
        replace hl := hl.mono hlΦ3
        replace hh := hh.mono hlΦ3
        replace kfv1 := kfv1.mono hlΦ3
        replace kfv2 := kfv2.mono hlΦ3
        replace kfv3 := kfv3.mono hlΦ3
        replace kfv4 := kfv4.mono hlΦ3
        replace Hfv1 := Hfv1.mono hlΦ3
        replace kfv5 := kfv5.mono hlΦ3
        replace kfv6 := kfv6.mono hlΦ3
        replace kfv7 := kfv7.mono hlΦ3
        replace kfv8 := kfv8.mono hlΦ3
        replace Hfv5 := Hfv5.mono hlΦ3
        refine DW.effg (fun x : {y : Value × Hp // (fun r Ψ => RepSl Ψ (Fu.drift b.Gauges.length hist) r) y.1 y.2 ∧ Hp.le Φ3 y.2} => x.1.1) (fun x => St ⟨w, Φ, []⟩ x.1.2 [.blk b6 36 [.int .i64 h.Hour, fv5, fv6, fv7], .blk b5 36 [.int .i64 h.Hour, fv1, fv2, fv3], .blk b2 36 [.int .i64 h.Hour, hv1, hv2, hv3], .blk b1 31 [.string b.Name, v1, .int .i64 b.Cells, v3, v4, v5, v6, v7, v8, v9, .int .i64 b.Err]]) (fun _ x => (fun _ h => StP.know (Hp.le_trans hlΦ3 x.2.2) h)) rfl rfl rfl (e_callS (T := fun r Ψ => RepSl Ψ (Fu.drift b.Gauges.length hist) r) (args := #[.agg #[.string b.Name, v1, .int .i64 b.Cells, v3, v4, v5, v6, v7, v8, v9, .int .i64 b.Err], hv]) own17 rfl rfl (fun w1 hw1 => (rDrifting_c w1 (Go.K.hp w1) (Hp.le_refl _) (hB.mono hw1.phi) (hh.mono hw1.phi)).mono fun _ _ => retS_up (fun _ _ _ hl h => h.mono hl))) ?_
        rintro ⟨⟨lv2, Φ4⟩, hlv2, hlΦ4⟩
        replace hlv2 : RepSl Φ4 (Fu.drift b.Gauges.length hist) lv2 := hlv2
        replace hlΦ4 : Hp.le Φ3 Φ4 := hlΦ4
        replace hB := hB.mono hlΦ4
        replace r3 := r3.mono hlΦ4
        replace r6 := r6.mono hlΦ4
        replace hH := hH.mono hlΦ4
        replace hr1 := hr1.mono hlΦ4
        replace hr2 := hr2.mono hlΦ4
        replace hr3 := hr3.mono hlΦ4
        replace hl := hl.mono hlΦ4
        replace hh := hh.mono hlΦ4
        replace kfv1 := kfv1.mono hlΦ4
        replace kfv2 := kfv2.mono hlΦ4
        replace kfv3 := kfv3.mono hlΦ4
        replace kfv4 := kfv4.mono hlΦ4
        replace Hfv1 := Hfv1.mono hlΦ4
        replace kfv5 := kfv5.mono hlΦ4
        replace kfv6 := kfv6.mono hlΦ4
        replace kfv7 := kfv7.mono hlΦ4
        replace kfv8 := kfv8.mono hlΦ4
        replace Hfv5 := Hfv5.mono hlΦ4
        replace hlv1 := hlv1.mono hlΦ4
        refine DW.qeg (v := .bool true) (fun _ => (fun _ h => StP.know (Hp.le_trans hlΦ3 hlΦ4) h)) rfl rfl rfl (q_as (v := .bool (decide ((Fu.drift b.Gauges.length hist) = (Fu.drift b.Gauges.length hist)))) (q_call (args := #[lv1, lv2]) own15 rfl rfl (fun w1 hw1 => Same1_c w1 (Go.K.hp w1) (Hp.le_refl _) (hlv1.mono hw1.phi) (hlv2.mono hw1.phi))) (congrArg Value.bool (decide_eq_true rfl))) ?_
        refine DW.q (v := .bool true) (fun _ h => StP.know (Hp.le_trans hlΦ3 hlΦ4) h) rfl (q_pick (t := true) rfl (fun _ => rfl) (fun hp => nomatch hp)) ?_
        refine DW.q (v := .bool true) (fun _ h => StP.know (Hp.le_trans hlΦ3 hlΦ4) h) rfl (q_assign rfl) ?_
        refine DW.nil ?_
        refine Post.then_n ?_
        refine AW.ret ?_
        exact fin_val (v' := .bool true) rfl rfl rfl (rfl)

end Go.Proofs.Ytblfeidlnhdekaa
