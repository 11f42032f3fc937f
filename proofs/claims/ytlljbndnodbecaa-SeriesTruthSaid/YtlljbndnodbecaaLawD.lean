/- Walks (part LawD), printed by walk2.py. Conditions: those of each theorem. -/
import Derived.Test.YtlljbndnodbecaaWalkH
namespace Go.Proofs.Ytlljbndnodbecaa
open Go Go.K Go.RowKit

set_option maxRecDepth 8000 in
set_option maxHeartbeats 1000000 in
theorem SeriesTruth_c (w : World) (Φ : Hp) (hΦ : Hp.le Φ (hp w)) {b : Bt.Basin} {cs : List Value} (hB : RepV Φ b cs) {tr : List Int} {v2x : Value} (h3 : RepSl Φ tr v2x) {ls : List Bt.Notice} {v3x : Value} (h2 : RepSl Φ ls v3x) {q : Int} (hq : I64 q) :
    Calls Try.prog 6 #[.agg cs.toArray, v2x, v3x, .int .i64 q] w fun e w' => e = .returned (.bool true) ∧ Bel w.heap.size w w' := by
  obtain ⟨v1, v3, v4, v5, v6, v7, v8, v9, hcs, hBw, r1, r3, r4, r5, r6, r7, r8, r9⟩ := (show Rep.rep Φ b cs from hB)
  subst hcs
  have hgm : b.Gauges.length * 48 ≤ 140737488355328 := r6.max
  refine calls_of_AW (args := [.agg #[.string b.Name, v1, .int .i64 b.Cells, v3, v4, v5, v6, v7, v8, v9, .int .i64 b.Err], v2x, v3x, .int .i64 q]) Try.func6 rfl (Nat.le_of_ble_eq_true rfl) (St ⟨w, Φ, []⟩ Φ []) (StP.init w Φ hΦ []) ?_
  show AW Try.prog 298 [] _ _ _ [(0, .agg #[.string b.Name, v1, .int .i64 b.Cells, v3, v4, v5, v6, v7, v8, v9, .int .i64 b.Err]), (1, v2x), (2, v3x), (3, .int .i64 q)] _
  have hmx : ls.length * 32 ≤ 140737488355328 := h2.max
  refine AW.seq ?_
  refine AW.region ?_
  refine RW.eff (fun b1 : Nat => .pointer (some (⟨b1, 0, none⟩))) (fun b1 => St ⟨w, Φ, []⟩ Φ [.blk b1 41 [.string b.Name, v1, .int .i64 b.Cells, v3, v4, v5, v6, v7, v8, v9, .int .i64 b.Err]]) rfl (e_boxA (cs := [.string b.Name, v1, .int .i64 b.Cells, v3, v4, v5, v6, v7, v8, v9, .int .i64 b.Err]) rfl) ?_
  intro b1
  refine RW.q (v := .bool false) rfl (q_assign rfl) ?_
  refine RW.nil ?_
  refine Post.then_n ?_
  refine AW.seq ?_
  refine AW.region ?_
  refine RW.q (v := .bool true) rfl (q_call (args := #[]) own7 rfl rfl (fun w1 hw1 => small_c w1 (Go.K.hp w1) (Hp.le_refl _))) ?_
  refine RW.q (v := .bool true) rfl (q_assign rfl) ?_
  refine RW.nil ?_
  refine Post.then_n ?_
  refine AW.seq ?_
  refine AW.seq ?_
  refine AW.region ?_
  refine RW.q (v := .agg #[.string b.Name, v1, .int .i64 b.Cells, v3, v4, v5, v6, v7, v8, v9, .int .i64 b.Err]) rfl (q_loadAgg rfl Try.underlying41 rfl sz41 rfl (Cells.blk 0 rfl)) ?_
  refine RW.q (v := .bool (decide (Se.Lim b))) rfl (q_call (args := #[.agg #[.string b.Name, v1, .int .i64 b.Cells, v3, v4, v5, v6, v7, v8, v9, .int .i64 b.Err]]) own16 rfl rfl (fun w1 hw1 => limited_c w1 (Go.K.hp w1) (Hp.le_refl _) (hB.mono hw1.phi))) ?_
  refine RW.q (v := .bool (!(decide (Se.Lim b)))) rfl (q_not rfl) ?_
  refine RW.q (v := .bool (!(decide (Se.Lim b)))) rfl (q_move rfl) ?_
  refine RW.g (b := (!(decide (Se.Lim b)))) (v := v2x) rfl rfl rfl (fun h => q_move rfl) ?_
  refine RW.g (b := (!(decide (Se.Lim b)))) (v := .int .i64 ((tr.length : Nat) : Int)) rfl rfl rfl (fun h => q_len_sl (gv_pos h) h3.sl Try.underlying39) ?_
  refine RW.g (b := (!(decide (Se.Lim b)))) (v := .bool (decide ((30 : Int) < ((tr.length : Nat) : Int)))) rfl rfl rfl (fun h => q_gtr (gv_pos h) rfl) ?_
  refine RW.q (v := .bool ((!(decide (Se.Lim b))) || (decide ((30 : Int) < ((tr.length : Nat) : Int))))) rfl (q_pick rfl (fun hp => pkOrT hp) (fun hp => (gv_pos hp).trans (pkOrF hp))) ?_
  refine RW.q (v := .bool ((!(decide (Se.Lim b))) || (decide ((30 : Int) < ((tr.length : Nat) : Int))))) rfl (q_move rfl) ?_
  refine RW.g (b := ((!(decide (Se.Lim b))) || (decide ((30 : Int) < ((tr.length : Nat) : Int))))) (v := v3x) rfl rfl rfl (fun h => q_move rfl) ?_
  refine RW.g (b := ((!(decide (Se.Lim b))) || (decide ((30 : Int) < ((tr.length : Nat) : Int))))) (v := .int .i64 ((ls.length : Nat) : Int)) rfl rfl rfl (fun h => q_len_sl (gv_pos h) h2.sl Try.underlying52) ?_
  refine RW.g (b := ((!(decide (Se.Lim b))) || (decide ((30 : Int) < ((tr.length : Nat) : Int))))) (v := .bool (decide ((60 : Int) < ((ls.length : Nat) : Int)))) rfl rfl rfl (fun h => q_gtr (gv_pos h) rfl) ?_
  refine RW.q (v := .bool (((!(decide (Se.Lim b))) || (decide ((30 : Int) < ((tr.length : Nat) : Int)))) || (decide ((60 : Int) < ((ls.length : Nat) : Int))))) rfl (q_pick rfl (fun hp => pkOrT hp) (fun hp => (gv_pos hp).trans (pkOrF hp))) ?_
  refine RW.q (v := .bool (((!(decide (Se.Lim b))) || (decide ((30 : Int) < ((tr.length : Nat) : Int)))) || (decide ((60 : Int) < ((ls.length : Nat) : Int))))) rfl (q_move rfl) ?_
  refine RW.g (b := (((!(decide (Se.Lim b))) || (decide ((30 : Int) < ((tr.length : Nat) : Int)))) || (decide ((60 : Int) < ((ls.length : Nat) : Int))))) (v := .int .i64 q) rfl rfl rfl (fun h => q_move rfl) ?_
  refine RW.g (b := (((!(decide (Se.Lim b))) || (decide ((30 : Int) < ((tr.length : Nat) : Int)))) || (decide ((60 : Int) < ((ls.length : Nat) : Int))))) (v := .bool (decide (q < 0))) rfl rfl rfl (fun h => q_lss (gv_pos h) rfl) ?_
  refine RW.q (v := .bool ((((!(decide (Se.Lim b))) || (decide ((30 : Int) < ((tr.length : Nat) : Int)))) || (decide ((60 : Int) < ((ls.length : Nat) : Int)))) || (decide (q < 0)))) rfl (q_pick rfl (fun hp => pkOrT hp) (fun hp => (gv_pos hp).trans (pkOrF hp))) ?_
  refine RW.q (v := .bool ((((!(decide (Se.Lim b))) || (decide ((30 : Int) < ((tr.length : Nat) : Int)))) || (decide ((60 : Int) < ((ls.length : Nat) : Int)))) || (decide (q < 0)))) rfl (q_move rfl) ?_
  refine RW.g (b := ((((!(decide (Se.Lim b))) || (decide ((30 : Int) < ((tr.length : Nat) : Int)))) || (decide ((60 : Int) < ((ls.length : Nat) : Int)))) || (decide (q < 0)))) (v := .int .i64 q) rfl rfl rfl (fun h => q_move rfl) ?_
  refine RW.g (b := ((((!(decide (Se.Lim b))) || (decide ((30 : Int) < ((tr.length : Nat) : Int)))) || (decide ((60 : Int) < ((ls.length : Nat) : Int)))) || (decide (q < 0)))) (v := v3x) rfl rfl rfl (fun h => q_move rfl) ?_
  refine RW.g (b := ((((!(decide (Se.Lim b))) || (decide ((30 : Int) < ((tr.length : Nat) : Int)))) || (decide ((60 : Int) < ((ls.length : Nat) : Int)))) || (decide (q < 0)))) (v := .int .i64 ((ls.length : Nat) : Int)) rfl rfl rfl (fun h => q_len_sl (gv_pos h) h2.sl Try.underlying52) ?_
  refine RW.g (b := ((((!(decide (Se.Lim b))) || (decide ((30 : Int) < ((tr.length : Nat) : Int)))) || (decide ((60 : Int) < ((ls.length : Nat) : Int)))) || (decide (q < 0)))) (v := .bool (decide (((ls.length : Nat) : Int) < q))) rfl rfl rfl (fun h => q_gtr (gv_pos h) (gv_pos h)) ?_
  refine RW.q (v := .bool (((((!(decide (Se.Lim b))) || (decide ((30 : Int) < ((tr.length : Nat) : Int)))) || (decide ((60 : Int) < ((ls.length : Nat) : Int)))) || (decide (q < 0))) || (decide (((ls.length : Nat) : Int) < q)))) rfl (q_pick rfl (fun hp => pkOrT hp) (fun hp => (gv_pos hp).trans (pkOrF hp))) ?_
  refine RW.nil ?_
  refine Post.then_n ?_
  refine AW.cond (b := ((((!(decide (Se.Lim b))) || (decide ((30 : Int) < ((tr.length : Nat) : Int)))) || (decide ((60 : Int) < ((ls.length : Nat) : Int)))) || (decide (q < 0))) || (decide (((ls.length : Nat) : Int) < q))) rfl (fun hc1 => ?_) (fun hc1 => ?_)
  · simp [-List.getD_eq_getElem?_getD] at hc1
    refine AW.seq ?_
    refine AW.region ?_
    refine RW.q (v := .bool true) rfl (q_move rfl) ?_
    refine RW.q (v := .bool true) rfl (q_assign rfl) ?_
    refine RW.nil ?_
    refine Post.then_n ?_
    refine AW.ret ?_
    refine Post.then_r ?_
    exact fin_val (v' := .bool true) rfl rfl rfl (rfl)
  · simp [-List.getD_eq_getElem?_getD] at hc1
    refine AW.skip ?_
    refine Post.then_n ?_
    refine AW.seq ?_
    refine AW.seq ?_
    have hlim : Se.Lim b := hc1.1.1.1.1
    have htl := hc1.1.1.1.2
    have hll := hc1.1.1.2
    have hq0 := hc1.1.2
    have hq1 := hc1.2
    refine AW.region ?_
    refine RW.q (v := .int .i64 0) rfl (q_assign rfl) ?_
    refine RW.nil ?_
    refine Post.then_n ?_
    refine AW.block ?_
    refine AW.loop (fun s J m => ∃ (k : Nat), s = [(1, v2x), (2, v3x), (3, .int .i64 q), (4, .pointer (some (⟨b1, 0, none⟩))), (9, .bool true), (10, .int .i64 (k : Int))] ∧ J = St ⟨w, Φ, []⟩ Φ [.blk b1 41 [.string b.Name, v1, .int .i64 b.Cells, v3, v4, v5, v6, v7, v8, v9, .int .i64 b.Err]] ∧ m = tr.length - k ∧ (k ≤ tr.length) ∧ (∀ j, j < k → -1073741824 ≤ tr.getD j 0 ∧ tr.getD j 0 ≤ 1073741824)) (s0 := _) (J1 := _) (m0 := _) ⟨0, rfl, rfl, rfl, (by omega), (by omega)⟩ ⟨rfl, rfl, rfl, rfl, rfl, rfl, trivial⟩ (fun _ h => h) ?_
    rintro _ _ _ _ ⟨k, rfl, rfl, rfl, hk, htv⟩
    refine AW.seq ?_
    refine AW.seq ?_
    refine AW.region ?_
    refine RW.q (v := .int .i64 (k : Int)) rfl (q_move rfl) ?_
    refine RW.q (v := v2x) rfl (q_move rfl) ?_
    refine RW.q (v := .int .i64 ((tr.length : Nat) : Int)) rfl (q_len_sl rfl h3.sl Try.underlying39) ?_
    refine RW.q (v := .bool (decide ((k : Int) < ((tr.length : Nat) : Int)))) rfl (q_lss rfl rfl) ?_
    refine RW.nil ?_
    refine Post.then_n ?_
    refine AW.cond (b := decide ((k : Int) < ((tr.length : Nat) : Int))) rfl (fun hc2 => ?_) (fun hc2 => ?_)
    · simp [-List.getD_eq_getElem?_getD] at hc2
      refine AW.skip ?_
      refine Post.then_n ?_
      refine AW.seq ?_
      refine AW.block ?_
      refine AW.seq ?_
      refine AW.region ?_
      refine RW.q (v := v2x) rfl (q_move rfl) ?_
      refine RW.q (v := .int .i64 (k : Int)) rfl (q_move rfl) ?_
      refine RW.q (v := .pointer (some (Value.at v2x (k * 1)))) rfl (q_indexAddr rfl rfl h3.sl Try.underlying39 sz3 (by omega) (by omega) rfl) ?_
      refine RW.q (v := .int .i64 (tr.getD k 0)) rfl (q_load rfl Try.underlying3 rfl (Cell.repInt h3 (by omega))) ?_
      refine RW.q (v := .bool (decide (tr.getD k 0 < (-1073741824)))) rfl (q_lss rfl rfl) ?_
      refine RW.q (v := .bool (decide (tr.getD k 0 < (-1073741824)))) rfl (q_move rfl) ?_
      refine RW.g (b := (decide (tr.getD k 0 < (-1073741824)))) (v := v2x) rfl rfl rfl (fun h => q_move rfl) ?_
      refine RW.g (b := (decide (tr.getD k 0 < (-1073741824)))) (v := .int .i64 (k : Int)) rfl rfl rfl (fun h => q_move rfl) ?_
      refine RW.g (b := (decide (tr.getD k 0 < (-1073741824)))) (v := .pointer (some (Value.at v2x (k * 1)))) rfl rfl rfl (fun h => q_indexAddr (gv_pos h) (gv_pos h) h3.sl Try.underlying39 sz3 (by (try simp [-List.getD_eq_getElem?_getD] at h); omega) (by (try simp [-List.getD_eq_getElem?_getD] at h); omega) rfl) ?_
      refine RW.g (b := (decide (tr.getD k 0 < (-1073741824)))) (v := .int .i64 (tr.getD k 0)) rfl rfl rfl (fun h => q_load (gv_pos h) Try.underlying3 rfl (Cell.repInt h3 (by (try simp [-List.getD_eq_getElem?_getD] at h); omega))) ?_
      refine RW.g (b := (decide (tr.getD k 0 < (-1073741824)))) (v := .bool (decide ((1073741824 : Int) < tr.getD k 0))) rfl rfl rfl (fun h => q_gtr (gv_pos h) rfl) ?_
      refine RW.q (v := .bool ((decide (tr.getD k 0 < (-1073741824))) || (decide ((1073741824 : Int) < tr.getD k 0)))) rfl (q_pick rfl (fun hp => pkOrT hp) (fun hp => (gv_pos hp).trans (pkOrF hp))) ?_
      refine RW.nil ?_
      refine Post.then_n ?_
      refine AW.cond (b := (decide (tr.getD k 0 < (-1073741824))) || (decide ((1073741824 : Int) < tr.getD k 0))) rfl (fun hc3 => ?_) (fun hc3 => ?_)
      · simp [-List.getD_eq_getElem?_getD] at hc3
        refine AW.seq ?_
        refine AW.region ?_
        refine RW.q (v := .bool true) rfl (q_move rfl) ?_
        refine RW.q (v := .bool true) rfl (q_assign rfl) ?_
        refine RW.nil ?_
        refine Post.then_n ?_
        refine AW.ret ?_
        refine Post.blk_r (Post.then_r (Post.then_r (Post.blk_r (Post.then_r ?_))))
        exact fin_val (v' := .bool true) rfl rfl rfl (rfl)
      · simp [-List.getD_eq_getElem?_getD] at hc3
        refine AW.skip ?_
        refine Post.blk_n (Post.then_n ?_)
        refine AW.region ?_
        refine RW.q (v := .int .i64 (k : Int)) rfl (q_move rfl) ?_
        refine RW.q (v := .int .i64 ((k + 1 : Nat) : Int)) rfl (q_add rfl rfl (by omega) (by unfold I64; omega)) ?_
        refine RW.q (v := .int .i64 ((k + 1 : Nat) : Int)) rfl (q_assign rfl) ?_
        refine RW.nil ?_
        exact Post.back (s' := _) (J' := _) (m' := _) (by omega) ⟨k + 1, rfl, rfl, rfl, (by omega), (Se.trOk_snoc htv (by omega))⟩ ⟨rfl, rfl, rfl, rfl, rfl, rfl, trivial⟩ (fun _ h => h)
    · simp [-List.getD_eq_getElem?_getD] at hc2
      refine AW.exit ?_
      refine Post.then_x (Post.then_x (Post.blk_hit (Post.then_n ?_)))
      refine AW.seq ?_
      have htr : Se.TrOk tr := ⟨by omega, fun j hj => htv j (by omega)⟩
      refine AW.region ?_
      refine RW.q (v := (.slice none 0 0)) rfl (q_assign rfl) ?_
      refine RW.nil ?_
      refine Post.then_n ?_
      refine AW.seq ?_
      refine AW.region ?_
      refine RW.q (v := (.slice none 0 0)) rfl (q_assign rfl) ?_
      refine RW.nil ?_
      refine Post.then_n ?_
      refine AW.seq ?_
      refine AW.seq ?_
      refine AW.region ?_
      refine RW.q (v := .int .i64 0) rfl (q_assign rfl) ?_
      refine RW.nil ?_
      refine Post.then_n ?_
      refine AW.block ?_
      refine AW.loop (fun s J m => ∃ (i : Nat), ∃ (A : List Bt.Gram), ∃ (F : List Bt.Gram), ∃ (pA : Value), ∃ (pF : Value), s = [(1, v2x), (2, v3x), (3, .int .i64 q), (4, .pointer (some (⟨b1, 0, none⟩))), (9, .bool true), (11, pA), (12, pF), (13, .int .i64 (i : Int))] ∧ J = St ⟨w, Φ, []⟩ Φ [.row pA 29 5 A.length (flat A), .row pF 29 5 F.length (flat F), .blk b1 41 [.string b.Name, v1, .int .i64 b.Cells, v3, v4, v5, v6, v7, v8, v9, .int .i64 b.Err]] ∧ m = ls.length - i ∧ (i ≤ ls.length) ∧ (IsSl pA A.length) ∧ (IsSl pF F.length) ∧ (A = Se.honL b tr ls i) ∧ (F = Se.honL b tr ls (min i q.toNat))) (s0 := _) (J1 := _) (m0 := _) ⟨0, [], [], _, _, rfl, rfl, rfl, (by omega), isSl_nil, isSl_nil, rfl, (by rw [Nat.min_eq_left (by omega)]; rfl)⟩ ⟨rfl, rfl, rfl, rfl, rfl, rfl, rfl, rfl, trivial⟩ (fun _ h => addNil (addNil h)) ?_
      rintro _ _ _ _ ⟨i, A, F, pA, pF, rfl, rfl, rfl, hi, hpA, hpF, hA, hF⟩
      refine AW.seq ?_
      refine AW.seq ?_
      refine AW.region ?_
      refine RW.q (v := .int .i64 (i : Int)) rfl (q_move rfl) ?_
      refine RW.q (v := v3x) rfl (q_move rfl) ?_
      refine RW.q (v := .int .i64 ((ls.length : Nat) : Int)) rfl (q_len_sl rfl h2.sl Try.underlying52) ?_
      refine RW.q (v := .bool (decide ((i : Int) < ((ls.length : Nat) : Int)))) rfl (q_lss rfl rfl) ?_
      refine RW.nil ?_
      refine Post.then_n ?_
      refine AW.cond (b := decide ((i : Int) < ((ls.length : Nat) : Int))) rfl (fun hc4 => ?_) (fun hc4 => ?_)
      · simp [-List.getD_eq_getElem?_getD] at hc4
        refine AW.skip ?_
        refine Post.then_n ?_
        refine AW.seq ?_
        refine AW.block ?_
        refine AW.seq ?_
        have hxw : I64 (ls.getD i default).Gauge ∧ I64 (ls.getD i default).Minute ∧ I64 (ls.getD i default).Late ∧ I64 (ls.getD i default).More := h2.wfE _ (Se.getD_mem (by omega))
        have hB_0 := hB
        have r6_0 := r6
        have h2_0 := h2
        have h3_0 := h3
        refine AW.draw (J0 := St ⟨w, Φ, []⟩ Φ [.row pA 29 5 A.length (flat A), .row pF 29 5 F.length (flat F), .blk b1 41 [.string b.Name, v1, .int .i64 b.Cells, v3, v4, v5, v6, v7, v8, v9, .int .i64 b.Err]]) [.q, .q, .q, .q, .q, .q, .q, .q, .q, .q, .q, .e, .e, .q] [0, 1, 2, 3, 4, 5, 6, 7, 8, 9, 10, 11, 12, 13] hmix (by kernel_rfl) ?_
        refine DW.q (v := .agg #[.string b.Name, v1, .int .i64 b.Cells, v3, v4, v5, v6, v7, v8, v9, .int .i64 b.Err]) (fun _ h => h) rfl (q_loadAgg rfl Try.underlying41 rfl sz41 rfl (Cells.blk 2 rfl)) ?_
        refine DW.q (v := v3x) (fun _ h => h) rfl (q_move rfl) ?_
        refine DW.q (v := .int .i64 (i : Int)) (fun _ h => h) rfl (q_move rfl) ?_
        refine DW.q (v := .pointer (some (Value.at v3x (i * 4)))) (fun _ h => h) rfl (q_indexAddr rfl rfl h2.sl Try.underlying52 sz57 (by omega) (by omega) rfl) ?_
        refine DW.q (v := .agg #[.int .i64 ((ls.getD i default).Gauge), .int .i64 ((ls.getD i default).Minute), .int .i64 ((ls.getD i default).Late), .int .i64 ((ls.getD i default).More)]) (fun _ h => h) rfl (q_loadAgg rfl Try.underlying57 rfl sz57 rfl (Cells.repE h2 (by omega) rfl)) ?_
        refine DW.q (v := v2x) (fun _ h => h) rfl (q_move rfl) ?_
        refine DW.q (v := .int .i64 (i : Int)) (fun _ h => h) rfl (q_move rfl) ?_
        refine DW.q (v := .tuple #[.agg #[.int .i64 ((Se.honG b tr (ls.getD i default) (i : Int)).Gauge), .int .i64 ((Se.honG b tr (ls.getD i default) (i : Int)).Seq), .int .i64 ((Se.honG b tr (ls.getD i default) (i : Int)).Clock), .int .i64 ((Se.honG b tr (ls.getD i default) (i : Int)).Value), .string ((Se.honG b tr (ls.getD i default) (i : Int)).Tag)], .bool (Se.honK b tr (ls.getD i default))]) (fun _ h => h) rfl (q_call (args := #[.agg #[.string b.Name, v1, .int .i64 b.Cells, v3, v4, v5, v6, v7, v8, v9, .int .i64 b.Err], .agg #[.int .i64 ((ls.getD i default).Gauge), .int .i64 ((ls.getD i default).Minute), .int .i64 ((ls.getD i default).Late), .int .i64 ((ls.getD i default).More)], v2x, .int .i64 (i : Int)]) own17 rfl rfl (fun w1 hw1 => honest_c w1 (Go.K.hp w1) (Hp.le_refl _) (hB.mono hw1.phi) hlim (h3.mono hw1.phi) htr (x := (ls.getD i default)) (by assumption) (n := (i : Int)))) ?_
        refine DW.q (v := .tuple #[.agg #[.int .i64 ((Se.honG b tr (ls.getD i default) (i : Int)).Gauge), .int .i64 ((Se.honG b tr (ls.getD i default) (i : Int)).Seq), .int .i64 ((Se.honG b tr (ls.getD i default) (i : Int)).Clock), .int .i64 ((Se.honG b tr (ls.getD i default) (i : Int)).Value), .string ((Se.honG b tr (ls.getD i default) (i : Int)).Tag)], .bool (Se.honK b tr (ls.getD i default))]) (fun _ h => h) rfl (q_move rfl) ?_
        refine DW.q (v := .agg #[.int .i64 ((Se.honG b tr (ls.getD i default) (i : Int)).Gauge), .int .i64 ((Se.honG b tr (ls.getD i default) (i : Int)).Seq), .int .i64 ((Se.honG b tr (ls.getD i default) (i : Int)).Clock), .int .i64 ((Se.honG b tr (ls.getD i default) (i : Int)).Value), .string ((Se.honG b tr (ls.getD i default) (i : Int)).Tag)]) (fun _ h => h) rfl (q_extract rfl rfl) ?_
        refine DW.q (v := .bool (Se.honK b tr (ls.getD i default))) (fun _ h => h) rfl (q_extract rfl rfl) ?_
        refine DW.eff (fun b2 : Nat => .pointer (some (⟨b2, 0, none⟩))) (fun b2 => St ⟨w, Φ, []⟩ Φ [.blk b2 29 [.int .i64 0, .int .i64 0, .int .i64 0, .int .i64 0, .string (bs ([]))], .row pA 29 5 A.length (flat A), .row pF 29 5 F.length (flat F), .blk b1 41 [.string b.Name, v1, .int .i64 b.Cells, v3, v4, v5, v6, v7, v8, v9, .int .i64 b.Err]]) (fun _ _ => (fun _ h => (StP.drop h (by exact .cons _ (.cons_cons _ (.cons_cons _ (.cons_cons _ (.slnil)))))))) rfl (e_alloc zero29) ?_
        intro b2
        refine DW.effn (J' := St ⟨w, Φ, []⟩ Φ [.blk b2 29 [.int .i64 ((Se.honG b tr (ls.getD i default) (i : Int)).Gauge), .int .i64 ((Se.honG b tr (ls.getD i default) (i : Int)).Seq), .int .i64 ((Se.honG b tr (ls.getD i default) (i : Int)).Clock), .int .i64 ((Se.honG b tr (ls.getD i default) (i : Int)).Value), .string ((Se.honG b tr (ls.getD i default) (i : Int)).Tag)], .row pA 29 5 A.length (flat A), .row pF 29 5 F.length (flat F), .blk b1 41 [.string b.Name, v1, .int .i64 b.Cells, v3, v4, v5, v6, v7, v8, v9, .int .i64 b.Err]]) (fun _ => (fun _ h => (StP.drop h (by exact .cons _ (.cons_cons _ (.cons_cons _ (.cons_cons _ (.slnil)))))))) (e_store (v := .agg #[.int .i64 ((Se.honG b tr (ls.getD i default) (i : Int)).Gauge), .int .i64 ((Se.honG b tr (ls.getD i default) (i : Int)).Seq), .int .i64 ((Se.honG b tr (ls.getD i default) (i : Int)).Clock), .int .i64 ((Se.honG b tr (ls.getD i default) (i : Int)).Value), .string ((Se.honG b tr (ls.getD i default) (i : Int)).Tag)]) 0 rfl rfl rfl sz29 rfl rfl rfl rfl rfl) ?_
        refine DW.q (v := .bool (Se.honK b tr (ls.getD i default))) (fun _ h => (StP.drop h (by exact .cons _ (.cons_cons _ (.cons_cons _ (.cons_cons _ (.slnil))))))) rfl (q_assign rfl) ?_
        refine DW.nil ?_
        refine Post.then_n ?_
        refine AW.seq ?_
        refine AW.seq ?_
        refine AW.region ?_
        refine RW.q (v := .bool (Se.honK b tr (ls.getD i default))) rfl (q_move rfl) ?_
        refine RW.q (v := .bool (!(Se.honK b tr (ls.getD i default)))) rfl (q_not rfl) ?_
        refine RW.nil ?_
        refine Post.then_n ?_
        refine AW.cond (b := !(Se.honK b tr (ls.getD i default))) rfl (fun hc5 => ?_) (fun hc5 => ?_)
        · simp [-List.getD_eq_getElem?_getD] at hc5
          refine AW.exit ?_
          refine Post.then_x (Post.blk_hit (Post.then_n ?_))
          refine AW.region ?_
          refine RW.q (v := .int .i64 (i : Int)) rfl (q_move rfl) ?_
          refine RW.q (v := .int .i64 ((i + 1 : Nat) : Int)) rfl (q_add rfl rfl (by omega) (by unfold I64; omega)) ?_
          refine RW.q (v := .int .i64 ((i + 1 : Nat) : Int)) rfl (q_assign rfl) ?_
          refine RW.nil ?_
          have hko : Se.honK b tr (ls.getD i default) = false := by simpa [-List.getD_eq_getElem?_getD] using hc5
          exact Post.back (s' := _) (J' := _) (m' := _) (by omega) ⟨i + 1, A, F, pA, pF, rfl, rfl, rfl, (by omega), hpA, hpF, (by rw [hA, Se.honL_f hko]), (by rw [hF]; by_cases h9 : i < q.toNat; rw [Nat.min_eq_left (by omega), Nat.min_eq_left (by omega), Se.honL_f hko]; rw [Nat.min_eq_right (by omega), Nat.min_eq_right (by omega)])⟩ ⟨rfl, rfl, rfl, rfl, rfl, rfl, rfl, rfl, trivial⟩ (fun _ h => StP.drop h (by exact .cons _ (.cons_cons _ (.cons_cons _ (.cons_cons _ (.slnil))))))
        · simp [-List.getD_eq_getElem?_getD] at hc5
          refine AW.skip ?_
          refine Post.then_n ?_
          refine AW.seq ?_
          have hAl : A.length ≤ i := by rw [hA]; exact Se.honL_len
          have hFl : F.length ≤ i := by rw [hF]; exact Nat.le_trans Se.honL_len (by omega)
          refine AW.region ?_
          refine RW.q (v := pA) rfl (q_move rfl) ?_
          refine RW.q (v := .agg #[.int .i64 ((Se.honG b tr (ls.getD i default) (i : Int)).Gauge), .int .i64 ((Se.honG b tr (ls.getD i default) (i : Int)).Seq), .int .i64 ((Se.honG b tr (ls.getD i default) (i : Int)).Clock), .int .i64 ((Se.honG b tr (ls.getD i default) (i : Int)).Value), .string ((Se.honG b tr (ls.getD i default) (i : Int)).Tag)]) rfl (q_loadAgg rfl Try.underlying29 rfl sz29 rfl (Cells.blk 0 rfl)) ?_
          refine RW.eff (fun b3 : Nat => (.slice (some ⟨b3, 0, none⟩) 1 1)) (fun b3 => St ⟨w, Φ, []⟩ Φ [.row (.slice (some ⟨b3, 0, none⟩) 1 1) 29 5 1 ([.int .i64 ((Se.honG b tr (ls.getD i default) (i : Int)).Gauge), .int .i64 ((Se.honG b tr (ls.getD i default) (i : Int)).Seq), .int .i64 ((Se.honG b tr (ls.getD i default) (i : Int)).Clock), .int .i64 ((Se.honG b tr (ls.getD i default) (i : Int)).Value), .string ((Se.honG b tr (ls.getD i default) (i : Int)).Tag)]), .blk b2 29 [.int .i64 ((Se.honG b tr (ls.getD i default) (i : Int)).Gauge), .int .i64 ((Se.honG b tr (ls.getD i default) (i : Int)).Seq), .int .i64 ((Se.honG b tr (ls.getD i default) (i : Int)).Clock), .int .i64 ((Se.honG b tr (ls.getD i default) (i : Int)).Value), .string ((Se.honG b tr (ls.getD i default) (i : Int)).Tag)], .row pA 29 5 A.length (flat A), .row pF 29 5 F.length (flat F), .blk b1 41 [.string b.Name, v1, .int .i64 b.Cells, v3, v4, v5, v6, v7, v8, v9, .int .i64 b.Err]]) rfl (e_buildSlice (vals := [(0, .agg #[.int .i64 ((Se.honG b tr (ls.getD i default) (i : Int)).Gauge), .int .i64 ((Se.honG b tr (ls.getD i default) (i : Int)).Seq), .int .i64 ((Se.honG b tr (ls.getD i default) (i : Int)).Clock), .int .i64 ((Se.honG b tr (ls.getD i default) (i : Int)).Value), .string ((Se.honG b tr (ls.getD i default) (i : Int)).Tag)])]) (cells := [.int .i64 ((Se.honG b tr (ls.getD i default) (i : Int)).Gauge), .int .i64 ((Se.honG b tr (ls.getD i default) (i : Int)).Seq), .int .i64 ((Se.honG b tr (ls.getD i default) (i : Int)).Clock), .int .i64 ((Se.honG b tr (ls.getD i default) (i : Int)).Value), .string ((Se.honG b tr (ls.getD i default) (i : Int)).Tag)]) Try.underlying22 inf29 rfl rfl rfl (by kernel_rfl) rfl) ?_
          intro b3
          refine RW.eff (fun xv : {vq : Value // IsSl vq (A.length + 1)} => xv.1) (fun xv => St ⟨w, Φ, []⟩ Φ [.row (.slice (some ⟨b3, 0, none⟩) 1 1) 29 5 1 ([.int .i64 ((Se.honG b tr (ls.getD i default) (i : Int)).Gauge), .int .i64 ((Se.honG b tr (ls.getD i default) (i : Int)).Seq), .int .i64 ((Se.honG b tr (ls.getD i default) (i : Int)).Clock), .int .i64 ((Se.honG b tr (ls.getD i default) (i : Int)).Value), .string ((Se.honG b tr (ls.getD i default) (i : Int)).Tag)]), .blk b2 29 [.int .i64 ((Se.honG b tr (ls.getD i default) (i : Int)).Gauge), .int .i64 ((Se.honG b tr (ls.getD i default) (i : Int)).Seq), .int .i64 ((Se.honG b tr (ls.getD i default) (i : Int)).Clock), .int .i64 ((Se.honG b tr (ls.getD i default) (i : Int)).Value), .string ((Se.honG b tr (ls.getD i default) (i : Int)).Tag)], .row xv.1 29 5 ((A ++ [(⟨(Se.honG b tr (ls.getD i default) (i : Int)).Gauge, (Se.honG b tr (ls.getD i default) (i : Int)).Seq, (Se.honG b tr (ls.getD i default) (i : Int)).Clock, (Se.honG b tr (ls.getD i default) (i : Int)).Value, ((Se.honG b tr (ls.getD i default) (i : Int)).Tag)⟩ : Bt.Gram)]).length) (flat (A ++ [(⟨(Se.honG b tr (ls.getD i default) (i : Int)).Gauge, (Se.honG b tr (ls.getD i default) (i : Int)).Seq, (Se.honG b tr (ls.getD i default) (i : Int)).Clock, (Se.honG b tr (ls.getD i default) (i : Int)).Value, ((Se.honG b tr (ls.getD i default) (i : Int)).Tag)⟩ : Bt.Gram)])), .row pF 29 5 F.length (flat F), .blk b1 41 [.string b.Name, v1, .int .i64 b.Cells, v3, v4, v5, v6, v7, v8, v9, .int .i64 b.Err]]) rfl (e_append 2 rfl rfl rfl Try.underlying22 inf29 rfl rfl rfl (Cells.row0 0 rfl) rfl (by omega) (by omega) (fun _ => by simp [flat] <;> rfl)) ?_
          rintro ⟨va1, hva1⟩
          refine RW.wk (J' := St ⟨w, Φ, []⟩ Φ [.blk b2 29 [.int .i64 ((Se.honG b tr (ls.getD i default) (i : Int)).Gauge), .int .i64 ((Se.honG b tr (ls.getD i default) (i : Int)).Seq), .int .i64 ((Se.honG b tr (ls.getD i default) (i : Int)).Clock), .int .i64 ((Se.honG b tr (ls.getD i default) (i : Int)).Value), .string ((Se.honG b tr (ls.getD i default) (i : Int)).Tag)], .row va1 29 5 ((A ++ [(⟨(Se.honG b tr (ls.getD i default) (i : Int)).Gauge, (Se.honG b tr (ls.getD i default) (i : Int)).Seq, (Se.honG b tr (ls.getD i default) (i : Int)).Clock, (Se.honG b tr (ls.getD i default) (i : Int)).Value, ((Se.honG b tr (ls.getD i default) (i : Int)).Tag)⟩ : Bt.Gram)]).length) (flat (A ++ [(⟨(Se.honG b tr (ls.getD i default) (i : Int)).Gauge, (Se.honG b tr (ls.getD i default) (i : Int)).Seq, (Se.honG b tr (ls.getD i default) (i : Int)).Clock, (Se.honG b tr (ls.getD i default) (i : Int)).Value, ((Se.honG b tr (ls.getD i default) (i : Int)).Tag)⟩ : Bt.Gram)])), .row pF 29 5 F.length (flat F), .blk b1 41 [.string b.Name, v1, .int .i64 b.Cells, v3, v4, v5, v6, v7, v8, v9, .int .i64 b.Err]]) (fun _ h => StP.drop h (by exact .cons _ (.cons_cons _ (.cons_cons _ (.cons_cons _ (.cons_cons _ (.slnil))))))) ?_
          refine RW.q (v := va1) rfl (q_assign rfl) ?_
          refine RW.nil ?_
          refine Post.then_n ?_
          refine AW.seq ?_
          refine AW.region ?_
          refine RW.q (v := .int .i64 (i : Int)) rfl (q_move rfl) ?_
          refine RW.q (v := .int .i64 q) rfl (q_move rfl) ?_
          refine RW.q (v := .bool (decide ((i : Int) < q))) rfl (q_lss rfl rfl) ?_
          refine RW.nil ?_
          refine Post.then_n ?_
          refine AW.cond (b := decide ((i : Int) < q)) rfl (fun hc6 => ?_) (fun hc6 => ?_)
          · simp [-List.getD_eq_getElem?_getD] at hc6
            refine AW.region ?_
            refine RW.q (v := pF) rfl (q_move rfl) ?_
            refine RW.q (v := .agg #[.int .i64 ((Se.honG b tr (ls.getD i default) (i : Int)).Gauge), .int .i64 ((Se.honG b tr (ls.getD i default) (i : Int)).Seq), .int .i64 ((Se.honG b tr (ls.getD i default) (i : Int)).Clock), .int .i64 ((Se.honG b tr (ls.getD i default) (i : Int)).Value), .string ((Se.honG b tr (ls.getD i default) (i : Int)).Tag)]) rfl (q_loadAgg rfl Try.underlying29 rfl sz29 rfl (Cells.blk 0 rfl)) ?_
            refine RW.eff (fun b4 : Nat => (.slice (some ⟨b4, 0, none⟩) 1 1)) (fun b4 => St ⟨w, Φ, []⟩ Φ [.row (.slice (some ⟨b4, 0, none⟩) 1 1) 29 5 1 ([.int .i64 ((Se.honG b tr (ls.getD i default) (i : Int)).Gauge), .int .i64 ((Se.honG b tr (ls.getD i default) (i : Int)).Seq), .int .i64 ((Se.honG b tr (ls.getD i default) (i : Int)).Clock), .int .i64 ((Se.honG b tr (ls.getD i default) (i : Int)).Value), .string ((Se.honG b tr (ls.getD i default) (i : Int)).Tag)]), .blk b2 29 [.int .i64 ((Se.honG b tr (ls.getD i default) (i : Int)).Gauge), .int .i64 ((Se.honG b tr (ls.getD i default) (i : Int)).Seq), .int .i64 ((Se.honG b tr (ls.getD i default) (i : Int)).Clock), .int .i64 ((Se.honG b tr (ls.getD i default) (i : Int)).Value), .string ((Se.honG b tr (ls.getD i default) (i : Int)).Tag)], .row va1 29 5 ((A ++ [(⟨(Se.honG b tr (ls.getD i default) (i : Int)).Gauge, (Se.honG b tr (ls.getD i default) (i : Int)).Seq, (Se.honG b tr (ls.getD i default) (i : Int)).Clock, (Se.honG b tr (ls.getD i default) (i : Int)).Value, ((Se.honG b tr (ls.getD i default) (i : Int)).Tag)⟩ : Bt.Gram)]).length) (flat (A ++ [(⟨(Se.honG b tr (ls.getD i default) (i : Int)).Gauge, (Se.honG b tr (ls.getD i default) (i : Int)).Seq, (Se.honG b tr (ls.getD i default) (i : Int)).Clock, (Se.honG b tr (ls.getD i default) (i : Int)).Value, ((Se.honG b tr (ls.getD i default) (i : Int)).Tag)⟩ : Bt.Gram)])), .row pF 29 5 F.length (flat F), .blk b1 41 [.string b.Name, v1, .int .i64 b.Cells, v3, v4, v5, v6, v7, v8, v9, .int .i64 b.Err]]) rfl (e_buildSlice (vals := [(0, .agg #[.int .i64 ((Se.honG b tr (ls.getD i default) (i : Int)).Gauge), .int .i64 ((Se.honG b tr (ls.getD i default) (i : Int)).Seq), .int .i64 ((Se.honG b tr (ls.getD i default) (i : Int)).Clock), .int .i64 ((Se.honG b tr (ls.getD i default) (i : Int)).Value), .string ((Se.honG b tr (ls.getD i default) (i : Int)).Tag)])]) (cells := [.int .i64 ((Se.honG b tr (ls.getD i default) (i : Int)).Gauge), .int .i64 ((Se.honG b tr (ls.getD i default) (i : Int)).Seq), .int .i64 ((Se.honG b tr (ls.getD i default) (i : Int)).Clock), .int .i64 ((Se.honG b tr (ls.getD i default) (i : Int)).Value), .string ((Se.honG b tr (ls.getD i default) (i : Int)).Tag)]) Try.underlying22 inf29 rfl rfl rfl (by kernel_rfl) rfl) ?_
            intro b4
            refine RW.eff (fun xv : {vq : Value // IsSl vq (F.length + 1)} => xv.1) (fun xv => St ⟨w, Φ, []⟩ Φ [.row (.slice (some ⟨b4, 0, none⟩) 1 1) 29 5 1 ([.int .i64 ((Se.honG b tr (ls.getD i default) (i : Int)).Gauge), .int .i64 ((Se.honG b tr (ls.getD i default) (i : Int)).Seq), .int .i64 ((Se.honG b tr (ls.getD i default) (i : Int)).Clock), .int .i64 ((Se.honG b tr (ls.getD i default) (i : Int)).Value), .string ((Se.honG b tr (ls.getD i default) (i : Int)).Tag)]), .blk b2 29 [.int .i64 ((Se.honG b tr (ls.getD i default) (i : Int)).Gauge), .int .i64 ((Se.honG b tr (ls.getD i default) (i : Int)).Seq), .int .i64 ((Se.honG b tr (ls.getD i default) (i : Int)).Clock), .int .i64 ((Se.honG b tr (ls.getD i default) (i : Int)).Value), .string ((Se.honG b tr (ls.getD i default) (i : Int)).Tag)], .row va1 29 5 ((A ++ [(⟨(Se.honG b tr (ls.getD i default) (i : Int)).Gauge, (Se.honG b tr (ls.getD i default) (i : Int)).Seq, (Se.honG b tr (ls.getD i default) (i : Int)).Clock, (Se.honG b tr (ls.getD i default) (i : Int)).Value, ((Se.honG b tr (ls.getD i default) (i : Int)).Tag)⟩ : Bt.Gram)]).length) (flat (A ++ [(⟨(Se.honG b tr (ls.getD i default) (i : Int)).Gauge, (Se.honG b tr (ls.getD i default) (i : Int)).Seq, (Se.honG b tr (ls.getD i default) (i : Int)).Clock, (Se.honG b tr (ls.getD i default) (i : Int)).Value, ((Se.honG b tr (ls.getD i default) (i : Int)).Tag)⟩ : Bt.Gram)])), .row xv.1 29 5 ((F ++ [(⟨(Se.honG b tr (ls.getD i default) (i : Int)).Gauge, (Se.honG b tr (ls.getD i default) (i : Int)).Seq, (Se.honG b tr (ls.getD i default) (i : Int)).Clock, (Se.honG b tr (ls.getD i default) (i : Int)).Value, ((Se.honG b tr (ls.getD i default) (i : Int)).Tag)⟩ : Bt.Gram)]).length) (flat (F ++ [(⟨(Se.honG b tr (ls.getD i default) (i : Int)).Gauge, (Se.honG b tr (ls.getD i default) (i : Int)).Seq, (Se.honG b tr (ls.getD i default) (i : Int)).Clock, (Se.honG b tr (ls.getD i default) (i : Int)).Value, ((Se.honG b tr (ls.getD i default) (i : Int)).Tag)⟩ : Bt.Gram)])), .blk b1 41 [.string b.Name, v1, .int .i64 b.Cells, v3, v4, v5, v6, v7, v8, v9, .int .i64 b.Err]]) rfl (e_append 3 rfl rfl rfl Try.underlying22 inf29 rfl rfl rfl (Cells.row0 0 rfl) rfl (by omega) (by omega) (fun _ => by simp [flat] <;> rfl)) ?_
            rintro ⟨va2, hva2⟩
            refine RW.wk (J' := St ⟨w, Φ, []⟩ Φ [.blk b2 29 [.int .i64 ((Se.honG b tr (ls.getD i default) (i : Int)).Gauge), .int .i64 ((Se.honG b tr (ls.getD i default) (i : Int)).Seq), .int .i64 ((Se.honG b tr (ls.getD i default) (i : Int)).Clock), .int .i64 ((Se.honG b tr (ls.getD i default) (i : Int)).Value), .string ((Se.honG b tr (ls.getD i default) (i : Int)).Tag)], .row va1 29 5 ((A ++ [(⟨(Se.honG b tr (ls.getD i default) (i : Int)).Gauge, (Se.honG b tr (ls.getD i default) (i : Int)).Seq, (Se.honG b tr (ls.getD i default) (i : Int)).Clock, (Se.honG b tr (ls.getD i default) (i : Int)).Value, ((Se.honG b tr (ls.getD i default) (i : Int)).Tag)⟩ : Bt.Gram)]).length) (flat (A ++ [(⟨(Se.honG b tr (ls.getD i default) (i : Int)).Gauge, (Se.honG b tr (ls.getD i default) (i : Int)).Seq, (Se.honG b tr (ls.getD i default) (i : Int)).Clock, (Se.honG b tr (ls.getD i default) (i : Int)).Value, ((Se.honG b tr (ls.getD i default) (i : Int)).Tag)⟩ : Bt.Gram)])), .row va2 29 5 ((F ++ [(⟨(Se.honG b tr (ls.getD i default) (i : Int)).Gauge, (Se.honG b tr (ls.getD i default) (i : Int)).Seq, (Se.honG b tr (ls.getD i default) (i : Int)).Clock, (Se.honG b tr (ls.getD i default) (i : Int)).Value, ((Se.honG b tr (ls.getD i default) (i : Int)).Tag)⟩ : Bt.Gram)]).length) (flat (F ++ [(⟨(Se.honG b tr (ls.getD i default) (i : Int)).Gauge, (Se.honG b tr (ls.getD i default) (i : Int)).Seq, (Se.honG b tr (ls.getD i default) (i : Int)).Clock, (Se.honG b tr (ls.getD i default) (i : Int)).Value, ((Se.honG b tr (ls.getD i default) (i : Int)).Tag)⟩ : Bt.Gram)])), .blk b1 41 [.string b.Name, v1, .int .i64 b.Cells, v3, v4, v5, v6, v7, v8, v9, .int .i64 b.Err]]) (fun _ h => StP.drop h (by exact .cons _ (.cons_cons _ (.cons_cons _ (.cons_cons _ (.cons_cons _ (.slnil))))))) ?_
            refine RW.q (v := va2) rfl (q_assign rfl) ?_
            refine RW.nil ?_
            refine Post.blk_n (Post.then_n ?_)
            refine AW.region ?_
            refine RW.q (v := .int .i64 (i : Int)) rfl (q_move rfl) ?_
            refine RW.q (v := .int .i64 ((i + 1 : Nat) : Int)) rfl (q_add rfl rfl (by omega) (by unfold I64; omega)) ?_
            refine RW.q (v := .int .i64 ((i + 1 : Nat) : Int)) rfl (q_assign rfl) ?_
            refine RW.nil ?_
            have hko : Se.honK b tr (ls.getD i default) = true := by simpa [-List.getD_eq_getElem?_getD] using hc5
            exact Post.back (s' := _) (J' := _) (m' := _) (by omega) ⟨i + 1, A ++ [(⟨(Se.honG b tr (ls.getD i default) (i : Int)).Gauge, (Se.honG b tr (ls.getD i default) (i : Int)).Seq, (Se.honG b tr (ls.getD i default) (i : Int)).Clock, (Se.honG b tr (ls.getD i default) (i : Int)).Value, ((Se.honG b tr (ls.getD i default) (i : Int)).Tag)⟩ : Bt.Gram)], F ++ [(⟨(Se.honG b tr (ls.getD i default) (i : Int)).Gauge, (Se.honG b tr (ls.getD i default) (i : Int)).Seq, (Se.honG b tr (ls.getD i default) (i : Int)).Clock, (Se.honG b tr (ls.getD i default) (i : Int)).Value, ((Se.honG b tr (ls.getD i default) (i : Int)).Tag)⟩ : Bt.Gram)], va1, va2, rfl, rfl, rfl, (by omega), (by simpa using hva1), (by simpa using hva2), (by rw [Se.honL_t hko, ← hA]), (by rw [Nat.min_eq_left (by omega)] at hF ⊢; rw [Se.honL_t hko, ← hF])⟩ ⟨rfl, rfl, rfl, rfl, rfl, rfl, rfl, rfl, trivial⟩ (fun _ h => StP.drop h (by exact .cons _ (.cons_cons _ (.cons_cons _ (.cons_cons _ (.slnil))))))
          · simp [-List.getD_eq_getElem?_getD] at hc6
            refine AW.skip ?_
            refine Post.blk_n (Post.then_n ?_)
            refine AW.region ?_
            refine RW.q (v := .int .i64 (i : Int)) rfl (q_move rfl) ?_
            refine RW.q (v := .int .i64 ((i + 1 : Nat) : Int)) rfl (q_add rfl rfl (by omega) (by unfold I64; omega)) ?_
            refine RW.q (v := .int .i64 ((i + 1 : Nat) : Int)) rfl (q_assign rfl) ?_
            refine RW.nil ?_
            have hko : Se.honK b tr (ls.getD i default) = true := by simpa [-List.getD_eq_getElem?_getD] using hc5
            exact Post.back (s' := _) (J' := _) (m' := _) (by omega) ⟨i + 1, A ++ [(⟨(Se.honG b tr (ls.getD i default) (i : Int)).Gauge, (Se.honG b tr (ls.getD i default) (i : Int)).Seq, (Se.honG b tr (ls.getD i default) (i : Int)).Clock, (Se.honG b tr (ls.getD i default) (i : Int)).Value, ((Se.honG b tr (ls.getD i default) (i : Int)).Tag)⟩ : Bt.Gram)], F, va1, pF, rfl, rfl, rfl, (by omega), (by simpa using hva1), hpF, (by rw [Se.honL_t hko, ← hA]), (by rw [Nat.min_eq_right (by omega)] at hF ⊢; rw [← hF])⟩ ⟨rfl, rfl, rfl, rfl, rfl, rfl, rfl, rfl, trivial⟩ (fun _ h => StP.drop h (by exact .cons _ (.cons_cons _ (.cons_cons _ (.cons_cons _ (.slnil))))))
      · simp [-List.getD_eq_getElem?_getD] at hc4
        refine AW.exit ?_
        refine Post.then_x (Post.then_x (Post.blk_hit (Post.then_n ?_)))
        refine AW.seq ?_
        have hie : i = ls.length := by omega
        rw [hie] at hA
        rw [hie, Nat.min_eq_right (by omega)] at hF
        have hwfA : ∀ x ∈ A, RepE.wf x := fun x hx => by
          rw [hA] at hx; obtain ⟨j9, hj9, hn9⟩ := Se.honL_hn hlim hx
          have h9 := Se.hn_wf hlim htr (by omega) hn9
          exact ⟨h9.1, h9.2.1, h9.2.2.1, h9.2.2.2.1, Nat.le_trans h9.2.2.2.2 (by decide)⟩
        have hwfF : ∀ x ∈ F, RepE.wf x := fun x hx => by
          rw [hF] at hx; obtain ⟨j9, hj9, hn9⟩ := Se.honL_hn hlim hx
          have h9 := Se.hn_wf hlim htr (by omega) hn9
          exact ⟨h9.1, h9.2.1, h9.2.2.1, h9.2.2.2.1, Nat.le_trans h9.2.2.2.2 (by decide)⟩
        have hAl : A.length ≤ ls.length := by rw [hA]; exact Se.honL_len
        have hFl : F.length ≤ ls.length := by rw [hF]; exact Nat.le_trans Se.honL_len (by omega)
        refine AW.region ?_
        refine RW.q (v := .agg #[.string b.Name, v1, .int .i64 b.Cells, v3, v4, v5, v6, v7, v8, v9, .int .i64 b.Err]) rfl (q_loadAgg rfl Try.underlying41 rfl sz41 rfl (Cells.blk 2 rfl)) ?_
        refine RW.q (v := pA) rfl (q_move rfl) ?_
        refine RW.q (v := v2x) rfl (q_move rfl) ?_
        refine RW.q (v := .int .i64 ((tr.length : Nat) : Int)) rfl (q_len_sl rfl h3.sl Try.underlying39) ?_
        refine RW.eff (fun x : {y : Value × Hp // (fun r Ψ => ∃ R, RepSl Ψ R r ∧ Se.Rds b A 0 ((tr.length : Nat) : Int) R) y.1 y.2 ∧ Hp.le Φ y.2} => x.1.1) (fun x => St ⟨w, Φ, []⟩ x.1.2 [.row pA 29 5 A.length (flat A), .row pF 29 5 F.length (flat F), .blk b1 41 [.string b.Name, v1, .int .i64 b.Cells, v3, v4, v5, v6, v7, v8, v9, .int .i64 b.Err]]) rfl (e_callS (T := fun r Ψ => ∃ R, RepSl Ψ R r ∧ Se.Rds b A 0 ((tr.length : Nat) : Int) R) (args := #[.agg #[.string b.Name, v1, .int .i64 b.Cells, v3, v4, v5, v6, v7, v8, v9, .int .i64 b.Err], pA, .int .i64 0, .int .i64 ((tr.length : Nat) : Int)]) own14 rfl rfl (fun w1 hw1 => (Readings_c w1 (Go.K.hp w1) (Hp.le_refl _) (hB.mono hw1.phi) (RowS.repE even29 (l := A) (show RowS (Go.K.hp w1) pA 29 5 (A.length) (flat A) from hw1.sat _ (List.mem_of_getElem? (i := 0) rfl)) rfl (by simp only [maxSl, Rep.bytes]; omega) hwfA) (by omega) (u := 0) (v := ((tr.length : Nat) : Int)) (by unfold I64; decide) (by unfold I64; omega)).mono fun _ _ => retS_up (fun _ _ _ hl ⟨R, h1, h2⟩ => ⟨R, h1.mono hl, h2⟩))) ?_
        rintro ⟨⟨lv1, Φ1⟩, hlv1, hlΦ1⟩
        replace hlv1 : ∃ R, RepSl Φ1 R lv1 ∧ Se.Rds b A 0 ((tr.length : Nat) : Int) R := hlv1
        replace hlΦ1 : Hp.le Φ Φ1 := hlΦ1
        replace hB := hB.mono hlΦ1
        replace r6 := r6.mono hlΦ1
        replace h2 := h2.mono hlΦ1
        replace h3 := h3.mono hlΦ1
        obtain ⟨R1, hlv1, hR1⟩ := hlv1
        have hR1l := hR1.len
        refine RW.q (v := lv1) rfl (q_assign rfl) ?_
        refine RW.nil ?_
        refine Post.then_n ?_
        refine AW.seq ?_
        refine AW.region ?_
        refine RW.q (v := .agg #[.string b.Name, v1, .int .i64 b.Cells, v3, v4, v5, v6, v7, v8, v9, .int .i64 b.Err]) rfl (q_loadAgg rfl Try.underlying41 rfl sz41 rfl (Cells.blk 2 rfl)) ?_
        refine RW.q (v := pF) rfl (q_move rfl) ?_
        refine RW.q (v := v2x) rfl (q_move rfl) ?_
        refine RW.q (v := .int .i64 ((tr.length : Nat) : Int)) rfl (q_len_sl rfl h3.sl Try.underlying39) ?_
        refine RW.eff (fun x : {y : Value × Hp // (fun r Ψ => ∃ R, RepSl Ψ R r ∧ Se.Rds b F 0 ((tr.length : Nat) : Int) R) y.1 y.2 ∧ Hp.le Φ1 y.2} => x.1.1) (fun x => St ⟨w, Φ, []⟩ x.1.2 [.row pA 29 5 A.length (flat A), .row pF 29 5 F.length (flat F), .blk b1 41 [.string b.Name, v1, .int .i64 b.Cells, v3, v4, v5, v6, v7, v8, v9, .int .i64 b.Err]]) rfl (e_callS (T := fun r Ψ => ∃ R, RepSl Ψ R r ∧ Se.Rds b F 0 ((tr.length : Nat) : Int) R) (args := #[.agg #[.string b.Name, v1, .int .i64 b.Cells, v3, v4, v5, v6, v7, v8, v9, .int .i64 b.Err], pF, .int .i64 0, .int .i64 ((tr.length : Nat) : Int)]) own14 rfl rfl (fun w1 hw1 => (Readings_c w1 (Go.K.hp w1) (Hp.le_refl _) (hB.mono hw1.phi) (RowS.repE even29 (l := F) (show RowS (Go.K.hp w1) pF 29 5 (F.length) (flat F) from hw1.sat _ (List.mem_of_getElem? (i := 1) rfl)) rfl (by simp only [maxSl, Rep.bytes]; omega) hwfF) (by omega) (u := 0) (v := ((tr.length : Nat) : Int)) (by unfold I64; decide) (by unfold I64; omega)).mono fun _ _ => retS_up (fun _ _ _ hl ⟨R, h1, h2⟩ => ⟨R, h1.mono hl, h2⟩))) ?_
        rintro ⟨⟨lv2, Φ2⟩, hlv2, hlΦ2⟩
        replace hlv2 : ∃ R, RepSl Φ2 R lv2 ∧ Se.Rds b F 0 ((tr.length : Nat) : Int) R := hlv2
        replace hlΦ2 : Hp.le Φ1 Φ2 := hlΦ2
        replace hB := hB.mono hlΦ2
        replace r6 := r6.mono hlΦ2
        replace h2 := h2.mono hlΦ2
        replace h3 := h3.mono hlΦ2
        replace hlv1 := hlv1.mono hlΦ2
        obtain ⟨R2, hlv2, hR2⟩ := hlv2
        have hR2l := hR2.len
        refine RW.q (v := lv2) rfl (q_assign rfl) ?_
        refine RW.nil ?_
        refine Post.then_n ?_
        refine AW.seq ?_
        refine AW.seq ?_
        have hR1h : Se.Rds b (Se.honL b tr ls ls.length) 0 (tr.length : Int) R1 := by rw [← hA]; exact hR1
        have hR2h : Se.Rds b (Se.honL b tr ls q.toNat) 0 (tr.length : Int) R2 := by rw [← hF]; exact hR2
        refine AW.region ?_
        refine RW.q (v := .int .i64 0) rfl (q_assign rfl) ?_
        refine RW.nil ?_
        refine Post.then_n ?_
        refine AW.block ?_
        refine AW.loop (fun s J m => ∃ (k : Nat), s = [(1, v2x), (4, .pointer (some (⟨b1, 0, none⟩))), (9, .bool true), (11, pA), (16, lv1), (17, lv2), (18, .int .i64 (k : Int))] ∧ J = St ⟨w, Φ, []⟩ Φ2 [.row pA 29 5 A.length (flat A), .row pF 29 5 F.length (flat F), .blk b1 41 [.string b.Name, v1, .int .i64 b.Cells, v3, v4, v5, v6, v7, v8, v9, .int .i64 b.Err]] ∧ m = R1.length - k ∧ (k ≤ R1.length)) (s0 := _) (J1 := _) (m0 := _) ⟨0, rfl, rfl, rfl, (by omega)⟩ ⟨rfl, rfl, rfl, rfl, rfl, rfl, rfl, trivial⟩ (fun _ h => h) ?_
        rintro _ _ _ _ ⟨k, rfl, rfl, rfl, hk⟩
        refine AW.seq ?_
        refine AW.seq ?_
        refine AW.region ?_
        refine RW.q (v := .int .i64 (k : Int)) rfl (q_move rfl) ?_
        refine RW.q (v := lv1) rfl (q_move rfl) ?_
        refine RW.q (v := .int .i64 ((R1.length : Nat) : Int)) rfl (q_len_sl rfl hlv1.sl Try.underlying43) ?_
        refine RW.q (v := .bool (decide ((k : Int) < ((R1.length : Nat) : Int)))) rfl (q_lss rfl rfl) ?_
        refine RW.nil ?_
        refine Post.then_n ?_
        refine AW.cond (b := decide ((k : Int) < ((R1.length : Nat) : Int))) rfl (fun hc7 => ?_) (fun hc7 => ?_)
        · simp [-List.getD_eq_getElem?_getD] at hc7
          refine AW.skip ?_
          refine Post.then_n ?_
          refine AW.seq ?_
          refine AW.block ?_
          refine AW.seq ?_
          have htrue := Se.rds_true hlim htr hR1h (Se.getD_mem (L := R1) (i := k) (by omega))
          have hh0 := htrue.1
          have hh1 := htrue.2.1
          have hh2 := htrue.2.2.1
          have hh3 := htrue.2.2.2
          have hlt9 : 0 < k → (R1.getD (k - 1) default).Hour < (R1.getD k default).Hour ∨ (R1.getD (k - 1) default).Hour = (R1.getD k default).Hour ∧ (R1.getD (k - 1) default).Gauge < (R1.getD k default).Gauge := fun h0 => Se.rds_lt hR1h (by omega) (by omega)
          refine AW.region ?_
          refine RW.q (v := lv1) rfl (q_move rfl) ?_
          refine RW.q (v := .int .i64 (k : Int)) rfl (q_move rfl) ?_
          refine RW.q (v := .pointer (some (Value.at lv1 (k * 4)))) rfl (q_indexAddr rfl rfl hlv1.sl Try.underlying43 sz49 (by omega) (by omega) rfl) ?_
          refine RW.q (v := .agg #[.int .i64 ((R1.getD k default).Gauge), .int .i64 ((R1.getD k default).Hour), .int .i64 ((R1.getD k default).Value.Lo), .int .i64 ((R1.getD k default).Value.Hi)]) rfl (q_loadAgg rfl Try.underlying49 rfl sz49 rfl (Cells.repE hlv1 (by omega) rfl)) ?_
          refine RW.eff (fun b5 : Nat => .pointer (some (⟨b5, 0, none⟩))) (fun b5 => St ⟨w, Φ, []⟩ Φ2 [.blk b5 49 [.int .i64 0, .int .i64 0, .int .i64 0, .int .i64 0], .row pA 29 5 A.length (flat A), .row pF 29 5 F.length (flat F), .blk b1 41 [.string b.Name, v1, .int .i64 b.Cells, v3, v4, v5, v6, v7, v8, v9, .int .i64 b.Err]]) rfl (e_alloc zero49) ?_
          intro b5
          refine RW.effn (J' := St ⟨w, Φ, []⟩ Φ2 [.blk b5 49 [.int .i64 ((R1.getD k default).Gauge), .int .i64 ((R1.getD k default).Hour), .int .i64 ((R1.getD k default).Value.Lo), .int .i64 ((R1.getD k default).Value.Hi)], .row pA 29 5 A.length (flat A), .row pF 29 5 F.length (flat F), .blk b1 41 [.string b.Name, v1, .int .i64 b.Cells, v3, v4, v5, v6, v7, v8, v9, .int .i64 b.Err]]) (e_store (v := .agg #[.int .i64 ((R1.getD k default).Gauge), .int .i64 ((R1.getD k default).Hour), .int .i64 ((R1.getD k default).Value.Lo), .int .i64 ((R1.getD k default).Value.Hi)]) 0 rfl rfl rfl sz49 rfl rfl rfl rfl rfl) ?_
          refine RW.nil ?_
          refine Post.then_n ?_
          refine AW.seq ?_
          refine AW.draw (J0 := St ⟨w, Φ, []⟩ Φ2 [.blk b5 49 [.int .i64 ((R1.getD k default).Gauge), .int .i64 ((R1.getD k default).Hour), .int .i64 ((R1.getD k default).Value.Lo), .int .i64 ((R1.getD k default).Value.Hi)], .row pA 29 5 A.length (flat A), .row pF 29 5 F.length (flat F), .blk b1 41 [.string b.Name, v1, .int .i64 b.Cells, v3, v4, v5, v6, v7, v8, v9, .int .i64 b.Err]]) [.q, .q, .q, .q, .q, .q, .q, .q, .q, .q, .q, .q, .q, .q, .q, .q, .q, .q, .q, .q, .q, .q, .q, .q, .q, .q, .q, .q, .q, .q, .q, .q, .q, .q, .q, .q, .q, .q, .q, .q, .q, .q, .q, .q, .q, .q, .q, .q, .q, .q, .q, .q, .q, .q, .q, .q, .q, .q] [0, 1, 2, 3, 4, 5, 6, 7, 8, 9, 10, 11, 12, 13, 14, 15, 16, 17, 18, 19, 20, 21, 22, 23, 24, 25, 26, 27, 28, 29, 30, 31, 32, 33, 34, 35, 36, 37, 38, 39, 40, 41, 42, 43, 44, 45, 46, 47, 48, 49, 50, 51, 52, 53, 54, 55, 56, 57] hmix (by kernel_rfl) ?_
          refine DW.q (v := .pointer (some (⟨b5, 1, none⟩))) (fun _ h => h) rfl (q_fieldAddr rfl Try.underlying49 rfl sz3 rfl) ?_
          refine DW.q (v := .int .i64 ((R1.getD k default).Hour)) (fun _ h => h) rfl (q_load rfl Try.underlying3 rfl (Cell.blk 0 rfl rfl)) ?_
          refine DW.q (v := .bool (decide ((R1.getD k default).Hour < 0))) (fun _ h => h) rfl (q_lss rfl rfl) ?_
          refine DW.q (v := .bool (decide ((R1.getD k default).Hour < 0))) (fun _ h => h) rfl (q_move rfl) ?_
          refine DW.g (b := (decide ((R1.getD k default).Hour < 0))) (v := .pointer (some (⟨b5, 1, none⟩))) (fun _ h => h) rfl rfl rfl (fun h => q_fieldAddr rfl Try.underlying49 rfl sz3 rfl) ?_
          refine DW.g (b := (decide ((R1.getD k default).Hour < 0))) (v := .int .i64 ((R1.getD k default).Hour)) (fun _ h => h) rfl rfl rfl (fun h => q_load (gv_pos h) Try.underlying3 rfl (Cell.blk 0 rfl rfl)) ?_
          refine DW.g (b := (decide ((R1.getD k default).Hour < 0))) (v := v2x) (fun _ h => h) rfl rfl rfl (fun h => q_move rfl) ?_
          refine DW.g (b := (decide ((R1.getD k default).Hour < 0))) (v := .int .i64 ((tr.length : Nat) : Int)) (fun _ h => h) rfl rfl rfl (fun h => q_len_sl (gv_pos h) h3.sl Try.underlying39) ?_
          refine DW.g (b := (decide ((R1.getD k default).Hour < 0))) (v := .bool (decide (((tr.length : Nat) : Int) ≤ (R1.getD k default).Hour))) (fun _ h => h) rfl rfl rfl (fun h => q_geq (gv_pos h) (gv_pos h)) ?_
          refine DW.q (v := .bool ((decide ((R1.getD k default).Hour < 0)) || (decide (((tr.length : Nat) : Int) ≤ (R1.getD k default).Hour)))) (fun _ h => h) rfl (q_pick rfl (fun hp => pkOrT hp) (fun hp => (gv_pos hp).trans (pkOrF hp))) ?_
          refine DW.q (v := .bool ((decide ((R1.getD k default).Hour < 0)) || (decide (((tr.length : Nat) : Int) ≤ (R1.getD k default).Hour)))) (fun _ h => h) rfl (q_move rfl) ?_
          refine DW.g (b := ((decide ((R1.getD k default).Hour < 0)) || (decide (((tr.length : Nat) : Int) ≤ (R1.getD k default).Hour)))) (v := .pointer (some (⟨b5, 2, none⟩))) (fun _ h => h) rfl rfl rfl (fun h => q_fieldAddr rfl Try.underlying49 rfl sz47 rfl) ?_
          refine DW.g (b := ((decide ((R1.getD k default).Hour < 0)) || (decide (((tr.length : Nat) : Int) ≤ (R1.getD k default).Hour)))) (v := .agg #[.int .i64 ((R1.getD k default).Value.Lo), .int .i64 ((R1.getD k default).Value.Hi)]) (fun _ h => h) rfl rfl rfl (fun h => q_loadAgg (gv_pos h) Try.underlying47 rfl sz47 rfl (Cells.blkP (off := 2) 0 rfl (fun j u hu => (by rcases j with _ | (_ | _) <;> first | exact hu | cases hu)))) ?_
          refine DW.g (b := ((decide ((R1.getD k default).Hour < 0)) || (decide (((tr.length : Nat) : Int) ≤ (R1.getD k default).Hour)))) (v := v2x) (fun _ h => h) rfl rfl rfl (fun h => q_move rfl) ?_
          refine DW.g (b := ((decide ((R1.getD k default).Hour < 0)) || (decide (((tr.length : Nat) : Int) ≤ (R1.getD k default).Hour)))) (v := .pointer (some (⟨b5, 1, none⟩))) (fun _ h => h) rfl rfl rfl (fun h => q_fieldAddr rfl Try.underlying49 rfl sz3 rfl) ?_
          refine DW.g (b := ((decide ((R1.getD k default).Hour < 0)) || (decide (((tr.length : Nat) : Int) ≤ (R1.getD k default).Hour)))) (v := .int .i64 ((R1.getD k default).Hour)) (fun _ h => h) rfl rfl rfl (fun h => q_load (gv_pos h) Try.underlying3 rfl (Cell.blk 0 rfl rfl)) ?_
          refine DW.g (b := ((decide ((R1.getD k default).Hour < 0)) || (decide (((tr.length : Nat) : Int) ≤ (R1.getD k default).Hour)))) (v := .pointer (some (Value.at v2x ((((R1.getD k default).Hour).toNat) * 1)))) (fun _ h => h) rfl rfl rfl (fun h => q_indexAddr (gv_pos h) (gv_pos h) h3.sl Try.underlying39 sz3 (by (try simp [-List.getD_eq_getElem?_getD] at h); omega) (by (try simp [-List.getD_eq_getElem?_getD] at h); omega) rfl) ?_
          refine DW.g (b := ((decide ((R1.getD k default).Hour < 0)) || (decide (((tr.length : Nat) : Int) ≤ (R1.getD k default).Hour)))) (v := .int .i64 (tr.getD (((R1.getD k default).Hour).toNat) 0)) (fun _ h => h) rfl rfl rfl (fun h => q_load (gv_pos h) Try.underlying3 rfl (Cell.repInt h3 (by (try simp [-List.getD_eq_getElem?_getD] at h); omega))) ?_
          refine DW.g (b := ((decide ((R1.getD k default).Hour < 0)) || (decide (((tr.length : Nat) : Int) ≤ (R1.getD k default).Hour)))) (v := .bool (decide ((R1.getD k default).Value.Lo ≤ tr.getD (((R1.getD k default).Hour).toNat) 0) && decide (tr.getD (((R1.getD k default).Hour).toNat) 0 ≤ (R1.getD k default).Value.Hi))) (fun _ h => h) rfl rfl rfl (fun h => q_call (args := #[.agg #[.int .i64 ((R1.getD k default).Value.Lo), .int .i64 ((R1.getD k default).Value.Hi)], .int .i64 (tr.getD (((R1.getD k default).Hour).toNat) 0)]) own18 rfl (args2 (gv_pos h) (gv_pos h)) (fun w1 hw1 => sHas_c w1 (Go.K.hp w1) (Hp.le_refl _))) ?_
          refine DW.g (b := ((decide ((R1.getD k default).Hour < 0)) || (decide (((tr.length : Nat) : Int) ≤ (R1.getD k default).Hour)))) (v := .bool (!(decide ((R1.getD k default).Value.Lo ≤ tr.getD (((R1.getD k default).Hour).toNat) 0) && decide (tr.getD (((R1.getD k default).Hour).toNat) 0 ≤ (R1.getD k default).Value.Hi)))) (fun _ h => h) rfl rfl rfl (fun h => q_not (gv_pos h)) ?_
          refine DW.q (v := .bool (((decide ((R1.getD k default).Hour < 0)) || (decide (((tr.length : Nat) : Int) ≤ (R1.getD k default).Hour))) || (!(decide ((R1.getD k default).Value.Lo ≤ tr.getD (((R1.getD k default).Hour).toNat) 0) && decide (tr.getD (((R1.getD k default).Hour).toNat) 0 ≤ (R1.getD k default).Value.Hi))))) (fun _ h => h) rfl (q_pick rfl (fun hp => pkOrT hp) (fun hp => (gv_pos hp).trans (pkOrF hp))) ?_
          refine DW.q (v := .bool (((decide ((R1.getD k default).Hour < 0)) || (decide (((tr.length : Nat) : Int) ≤ (R1.getD k default).Hour))) || (!(decide ((R1.getD k default).Value.Lo ≤ tr.getD (((R1.getD k default).Hour).toNat) 0) && decide (tr.getD (((R1.getD k default).Hour).toNat) 0 ≤ (R1.getD k default).Value.Hi))))) (fun _ h => h) rfl (q_move rfl) ?_
          refine DW.g (b := (((decide ((R1.getD k default).Hour < 0)) || (decide (((tr.length : Nat) : Int) ≤ (R1.getD k default).Hour))) || (!(decide ((R1.getD k default).Value.Lo ≤ tr.getD (((R1.getD k default).Hour).toNat) 0) && decide (tr.getD (((R1.getD k default).Hour).toNat) 0 ≤ (R1.getD k default).Value.Hi))))) (v := .int .i64 (k : Int)) (fun _ h => h) rfl rfl rfl (fun h => q_move rfl) ?_
          refine DW.g (b := (((decide ((R1.getD k default).Hour < 0)) || (decide (((tr.length : Nat) : Int) ≤ (R1.getD k default).Hour))) || (!(decide ((R1.getD k default).Value.Lo ≤ tr.getD (((R1.getD k default).Hour).toNat) 0) && decide (tr.getD (((R1.getD k default).Hour).toNat) 0 ≤ (R1.getD k default).Value.Hi))))) (v := .bool (decide ((0 : Int) < (k : Int)))) (fun _ h => h) rfl rfl rfl (fun h => q_gtr (gv_pos h) rfl) ?_
          refine DW.g (b := (((decide ((R1.getD k default).Hour < 0)) || (decide (((tr.length : Nat) : Int) ≤ (R1.getD k default).Hour))) || (!(decide ((R1.getD k default).Value.Lo ≤ tr.getD (((R1.getD k default).Hour).toNat) 0) && decide (tr.getD (((R1.getD k default).Hour).toNat) 0 ≤ (R1.getD k default).Value.Hi))))) (v := .bool (decide ((0 : Int) < (k : Int)))) (fun _ h => h) rfl rfl rfl (fun h => q_move (gv_pos h)) ?_
          refine DW.g2 (b1 := (((decide ((R1.getD k default).Hour < 0)) || (decide (((tr.length : Nat) : Int) ≤ (R1.getD k default).Hour))) || (!(decide ((R1.getD k default).Value.Lo ≤ tr.getD (((R1.getD k default).Hour).toNat) 0) && decide (tr.getD (((R1.getD k default).Hour).toNat) 0 ≤ (R1.getD k default).Value.Hi))))) (b2 := (decide ((0 : Int) < (k : Int)))) (v := lv1) (fun _ h => h) rfl rfl rfl (fun hg1 hg2 => q_move rfl) ?_
          refine DW.g2 (b1 := (((decide ((R1.getD k default).Hour < 0)) || (decide (((tr.length : Nat) : Int) ≤ (R1.getD k default).Hour))) || (!(decide ((R1.getD k default).Value.Lo ≤ tr.getD (((R1.getD k default).Hour).toNat) 0) && decide (tr.getD (((R1.getD k default).Hour).toNat) 0 ≤ (R1.getD k default).Value.Hi))))) (b2 := (decide ((0 : Int) < (k : Int)))) (v := .int .i64 (k : Int)) (fun _ h => h) rfl rfl rfl (fun hg1 hg2 => q_move rfl) ?_
          refine DW.g2 (b1 := (((decide ((R1.getD k default).Hour < 0)) || (decide (((tr.length : Nat) : Int) ≤ (R1.getD k default).Hour))) || (!(decide ((R1.getD k default).Value.Lo ≤ tr.getD (((R1.getD k default).Hour).toNat) 0) && decide (tr.getD (((R1.getD k default).Hour).toNat) 0 ≤ (R1.getD k default).Value.Hi))))) (b2 := (decide ((0 : Int) < (k : Int)))) (v := .int .i64 ((k : Int) - 1)) (fun _ h => h) rfl rfl rfl (fun hg1 hg2 => q_sub ((gv_pos hg1).trans (gv_pos hg2)) rfl (by (try simp [-List.getD_eq_getElem?_getD] at hg1); (try simp [-List.getD_eq_getElem?_getD] at hg2); omega) (by (try simp [-List.getD_eq_getElem?_getD] at hg1); (try simp [-List.getD_eq_getElem?_getD] at hg2); unfold I64; omega)) ?_
          refine DW.g2 (b1 := (((decide ((R1.getD k default).Hour < 0)) || (decide (((tr.length : Nat) : Int) ≤ (R1.getD k default).Hour))) || (!(decide ((R1.getD k default).Value.Lo ≤ tr.getD (((R1.getD k default).Hour).toNat) 0) && decide (tr.getD (((R1.getD k default).Hour).toNat) 0 ≤ (R1.getD k default).Value.Hi))))) (b2 := (decide ((0 : Int) < (k : Int)))) (v := .pointer (some (Value.at lv1 ((((k : Int) - 1).toNat) * 4)))) (fun _ h => h) rfl rfl rfl (fun hg1 hg2 => q_indexAddr ((gv_pos hg1).trans (gv_pos hg2)) ((gv_pos hg1).trans (gv_pos hg2)) hlv1.sl Try.underlying43 sz49 (by (try simp [-List.getD_eq_getElem?_getD] at hg1); (try simp [-List.getD_eq_getElem?_getD] at hg2); omega) (by (try simp [-List.getD_eq_getElem?_getD] at hg1); (try simp [-List.getD_eq_getElem?_getD] at hg2); omega) rfl) ?_
          refine DW.g2 (b1 := (((decide ((R1.getD k default).Hour < 0)) || (decide (((tr.length : Nat) : Int) ≤ (R1.getD k default).Hour))) || (!(decide ((R1.getD k default).Value.Lo ≤ tr.getD (((R1.getD k default).Hour).toNat) 0) && decide (tr.getD (((R1.getD k default).Hour).toNat) 0 ≤ (R1.getD k default).Value.Hi))))) (b2 := (decide ((0 : Int) < (k : Int)))) (v := .pointer (some (Value.at lv1 ((((k : Int) - 1).toNat) * 4 + 1)))) (fun _ h => h) rfl rfl rfl (fun hg1 hg2 => q_fieldAddr ((gv_pos hg1).trans (gv_pos hg2)) Try.underlying49 rfl sz3 at_add) ?_
          refine DW.g2 (b1 := (((decide ((R1.getD k default).Hour < 0)) || (decide (((tr.length : Nat) : Int) ≤ (R1.getD k default).Hour))) || (!(decide ((R1.getD k default).Value.Lo ≤ tr.getD (((R1.getD k default).Hour).toNat) 0) && decide (tr.getD (((R1.getD k default).Hour).toNat) 0 ≤ (R1.getD k default).Value.Hi))))) (b2 := (decide ((0 : Int) < (k : Int)))) (v := .int .i64 ((R1.getD (((k : Int) - 1).toNat) default).Hour)) (fun _ h => h) rfl rfl rfl (fun hg1 hg2 => q_load ((gv_pos hg1).trans (gv_pos hg2)) Try.underlying3 rfl (Cell.repE (j := 1) hlv1 (by (try simp [-List.getD_eq_getElem?_getD] at hg1); (try simp [-List.getD_eq_getElem?_getD] at hg2); omega) rfl)) ?_
          refine DW.g2 (b1 := (((decide ((R1.getD k default).Hour < 0)) || (decide (((tr.length : Nat) : Int) ≤ (R1.getD k default).Hour))) || (!(decide ((R1.getD k default).Value.Lo ≤ tr.getD (((R1.getD k default).Hour).toNat) 0) && decide (tr.getD (((R1.getD k default).Hour).toNat) 0 ≤ (R1.getD k default).Value.Hi))))) (b2 := (decide ((0 : Int) < (k : Int)))) (v := .pointer (some (⟨b5, 1, none⟩))) (fun _ h => h) rfl rfl rfl (fun hg1 hg2 => q_fieldAddr rfl Try.underlying49 rfl sz3 rfl) ?_
          refine DW.g2 (b1 := (((decide ((R1.getD k default).Hour < 0)) || (decide (((tr.length : Nat) : Int) ≤ (R1.getD k default).Hour))) || (!(decide ((R1.getD k default).Value.Lo ≤ tr.getD (((R1.getD k default).Hour).toNat) 0) && decide (tr.getD (((R1.getD k default).Hour).toNat) 0 ≤ (R1.getD k default).Value.Hi))))) (b2 := (decide ((0 : Int) < (k : Int)))) (v := .int .i64 ((R1.getD k default).Hour)) (fun _ h => h) rfl rfl rfl (fun hg1 hg2 => q_load ((gv_pos hg1).trans (gv_pos hg2)) Try.underlying3 rfl (Cell.blk 0 rfl rfl)) ?_
          refine DW.g2 (b1 := (((decide ((R1.getD k default).Hour < 0)) || (decide (((tr.length : Nat) : Int) ≤ (R1.getD k default).Hour))) || (!(decide ((R1.getD k default).Value.Lo ≤ tr.getD (((R1.getD k default).Hour).toNat) 0) && decide (tr.getD (((R1.getD k default).Hour).toNat) 0 ≤ (R1.getD k default).Value.Hi))))) (b2 := (decide ((0 : Int) < (k : Int)))) (v := .bool (decide ((R1.getD k default).Hour < (R1.getD (((k : Int) - 1).toNat) default).Hour))) (fun _ h => h) rfl rfl rfl (fun hg1 hg2 => q_gtr ((gv_pos hg1).trans (gv_pos hg2)) ((gv_pos hg1).trans (gv_pos hg2))) ?_
          refine DW.g2 (b1 := (((decide ((R1.getD k default).Hour < 0)) || (decide (((tr.length : Nat) : Int) ≤ (R1.getD k default).Hour))) || (!(decide ((R1.getD k default).Value.Lo ≤ tr.getD (((R1.getD k default).Hour).toNat) 0) && decide (tr.getD (((R1.getD k default).Hour).toNat) 0 ≤ (R1.getD k default).Value.Hi))))) (b2 := (decide ((0 : Int) < (k : Int)))) (v := .bool (decide ((R1.getD k default).Hour < (R1.getD (((k : Int) - 1).toNat) default).Hour))) (fun _ h => h) rfl rfl rfl (fun hg1 hg2 => q_move ((gv_pos hg1).trans (gv_pos hg2))) ?_
          refine DW.g3 (b1 := (((decide ((R1.getD k default).Hour < 0)) || (decide (((tr.length : Nat) : Int) ≤ (R1.getD k default).Hour))) || (!(decide ((R1.getD k default).Value.Lo ≤ tr.getD (((R1.getD k default).Hour).toNat) 0) && decide (tr.getD (((R1.getD k default).Hour).toNat) 0 ≤ (R1.getD k default).Value.Hi))))) (b2 := (decide ((0 : Int) < (k : Int)))) (b3 := (decide ((R1.getD k default).Hour < (R1.getD (((k : Int) - 1).toNat) default).Hour))) (v := lv1) (fun _ h => h) rfl rfl rfl (fun hg1 hg2 hg3 => q_move rfl) ?_
          refine DW.g3 (b1 := (((decide ((R1.getD k default).Hour < 0)) || (decide (((tr.length : Nat) : Int) ≤ (R1.getD k default).Hour))) || (!(decide ((R1.getD k default).Value.Lo ≤ tr.getD (((R1.getD k default).Hour).toNat) 0) && decide (tr.getD (((R1.getD k default).Hour).toNat) 0 ≤ (R1.getD k default).Value.Hi))))) (b2 := (decide ((0 : Int) < (k : Int)))) (b3 := (decide ((R1.getD k default).Hour < (R1.getD (((k : Int) - 1).toNat) default).Hour))) (v := .int .i64 (k : Int)) (fun _ h => h) rfl rfl rfl (fun hg1 hg2 hg3 => q_move rfl) ?_
          refine DW.g3 (b1 := (((decide ((R1.getD k default).Hour < 0)) || (decide (((tr.length : Nat) : Int) ≤ (R1.getD k default).Hour))) || (!(decide ((R1.getD k default).Value.Lo ≤ tr.getD (((R1.getD k default).Hour).toNat) 0) && decide (tr.getD (((R1.getD k default).Hour).toNat) 0 ≤ (R1.getD k default).Value.Hi))))) (b2 := (decide ((0 : Int) < (k : Int)))) (b3 := (decide ((R1.getD k default).Hour < (R1.getD (((k : Int) - 1).toNat) default).Hour))) (v := .int .i64 ((k : Int) - 1)) (fun _ h => h) rfl rfl rfl (fun hg1 hg2 hg3 => q_sub ((gv_pos hg1).trans ((gv_pos hg2).trans (gv_pos hg3))) rfl (by (try simp [-List.getD_eq_getElem?_getD] at hg1); (try simp [-List.getD_eq_getElem?_getD] at hg2); (try simp [-List.getD_eq_getElem?_getD] at hg3); omega) (by (try simp [-List.getD_eq_getElem?_getD] at hg1); (try simp [-List.getD_eq_getElem?_getD] at hg2); (try simp [-List.getD_eq_getElem?_getD] at hg3); unfold I64; omega)) ?_
          refine DW.g3 (b1 := (((decide ((R1.getD k default).Hour < 0)) || (decide (((tr.length : Nat) : Int) ≤ (R1.getD k default).Hour))) || (!(decide ((R1.getD k default).Value.Lo ≤ tr.getD (((R1.getD k default).Hour).toNat) 0) && decide (tr.getD (((R1.getD k default).Hour).toNat) 0 ≤ (R1.getD k default).Value.Hi))))) (b2 := (decide ((0 : Int) < (k : Int)))) (b3 := (decide ((R1.getD k default).Hour < (R1.getD (((k : Int) - 1).toNat) default).Hour))) (v := .pointer (some (Value.at lv1 ((((k : Int) - 1).toNat) * 4)))) (fun _ h => h) rfl rfl rfl (fun hg1 hg2 hg3 => q_indexAddr ((gv_pos hg1).trans ((gv_pos hg2).trans (gv_pos hg3))) ((gv_pos hg1).trans ((gv_pos hg2).trans (gv_pos hg3))) hlv1.sl Try.underlying43 sz49 (by (try simp [-List.getD_eq_getElem?_getD] at hg1); (try simp [-List.getD_eq_getElem?_getD] at hg2); (try simp [-List.getD_eq_getElem?_getD] at hg3); omega) (by (try simp [-List.getD_eq_getElem?_getD] at hg1); (try simp [-List.getD_eq_getElem?_getD] at hg2); (try simp [-List.getD_eq_getElem?_getD] at hg3); omega) rfl) ?_
          refine DW.g3 (b1 := (((decide ((R1.getD k default).Hour < 0)) || (decide (((tr.length : Nat) : Int) ≤ (R1.getD k default).Hour))) || (!(decide ((R1.getD k default).Value.Lo ≤ tr.getD (((R1.getD k default).Hour).toNat) 0) && decide (tr.getD (((R1.getD k default).Hour).toNat) 0 ≤ (R1.getD k default).Value.Hi))))) (b2 := (decide ((0 : Int) < (k : Int)))) (b3 := (decide ((R1.getD k default).Hour < (R1.getD (((k : Int) - 1).toNat) default).Hour))) (v := .pointer (some (Value.at lv1 ((((k : Int) - 1).toNat) * 4 + 1)))) (fun _ h => h) rfl rfl rfl (fun hg1 hg2 hg3 => q_fieldAddr ((gv_pos hg1).trans ((gv_pos hg2).trans (gv_pos hg3))) Try.underlying49 rfl sz3 at_add) ?_
          refine DW.g3 (b1 := (((decide ((R1.getD k default).Hour < 0)) || (decide (((tr.length : Nat) : Int) ≤ (R1.getD k default).Hour))) || (!(decide ((R1.getD k default).Value.Lo ≤ tr.getD (((R1.getD k default).Hour).toNat) 0) && decide (tr.getD (((R1.getD k default).Hour).toNat) 0 ≤ (R1.getD k default).Value.Hi))))) (b2 := (decide ((0 : Int) < (k : Int)))) (b3 := (decide ((R1.getD k default).Hour < (R1.getD (((k : Int) - 1).toNat) default).Hour))) (v := .int .i64 ((R1.getD (((k : Int) - 1).toNat) default).Hour)) (fun _ h => h) rfl rfl rfl (fun hg1 hg2 hg3 => q_load ((gv_pos hg1).trans ((gv_pos hg2).trans (gv_pos hg3))) Try.underlying3 rfl (Cell.repE (j := 1) hlv1 (by (try simp [-List.getD_eq_getElem?_getD] at hg1); (try simp [-List.getD_eq_getElem?_getD] at hg2); (try simp [-List.getD_eq_getElem?_getD] at hg3); omega) rfl)) ?_
          refine DW.g3 (b1 := (((decide ((R1.getD k default).Hour < 0)) || (decide (((tr.length : Nat) : Int) ≤ (R1.getD k default).Hour))) || (!(decide ((R1.getD k default).Value.Lo ≤ tr.getD (((R1.getD k default).Hour).toNat) 0) && decide (tr.getD (((R1.getD k default).Hour).toNat) 0 ≤ (R1.getD k default).Value.Hi))))) (b2 := (decide ((0 : Int) < (k : Int)))) (b3 := (decide ((R1.getD k default).Hour < (R1.getD (((k : Int) - 1).toNat) default).Hour))) (v := .pointer (some (⟨b5, 1, none⟩))) (fun _ h => h) rfl rfl rfl (fun hg1 hg2 hg3 => q_fieldAddr rfl Try.underlying49 rfl sz3 rfl) ?_
          refine DW.g3 (b1 := (((decide ((R1.getD k default).Hour < 0)) || (decide (((tr.length : Nat) : Int) ≤ (R1.getD k default).Hour))) || (!(decide ((R1.getD k default).Value.Lo ≤ tr.getD (((R1.getD k default).Hour).toNat) 0) && decide (tr.getD (((R1.getD k default).Hour).toNat) 0 ≤ (R1.getD k default).Value.Hi))))) (b2 := (decide ((0 : Int) < (k : Int)))) (b3 := (decide ((R1.getD k default).Hour < (R1.getD (((k : Int) - 1).toNat) default).Hour))) (v := .int .i64 ((R1.getD k default).Hour)) (fun _ h => h) rfl rfl rfl (fun hg1 hg2 hg3 => q_load ((gv_pos hg1).trans ((gv_pos hg2).trans (gv_pos hg3))) Try.underlying3 rfl (Cell.blk 0 rfl rfl)) ?_
          refine DW.g3 (b1 := (((decide ((R1.getD k default).Hour < 0)) || (decide (((tr.length : Nat) : Int) ≤ (R1.getD k default).Hour))) || (!(decide ((R1.getD k default).Value.Lo ≤ tr.getD (((R1.getD k default).Hour).toNat) 0) && decide (tr.getD (((R1.getD k default).Hour).toNat) 0 ≤ (R1.getD k default).Value.Hi))))) (b2 := (decide ((0 : Int) < (k : Int)))) (b3 := (decide ((R1.getD k default).Hour < (R1.getD (((k : Int) - 1).toNat) default).Hour))) (v := .bool (decide ((R1.getD (((k : Int) - 1).toNat) default).Hour = (R1.getD k default).Hour))) (fun _ h => h) rfl rfl rfl (fun hg1 hg2 hg3 => q_eql ((gv_pos hg1).trans ((gv_pos hg2).trans (gv_pos hg3))) ((gv_pos hg1).trans ((gv_pos hg2).trans (gv_pos hg3)))) ?_
          refine DW.g3 (b1 := (((decide ((R1.getD k default).Hour < 0)) || (decide (((tr.length : Nat) : Int) ≤ (R1.getD k default).Hour))) || (!(decide ((R1.getD k default).Value.Lo ≤ tr.getD (((R1.getD k default).Hour).toNat) 0) && decide (tr.getD (((R1.getD k default).Hour).toNat) 0 ≤ (R1.getD k default).Value.Hi))))) (b2 := (decide ((0 : Int) < (k : Int)))) (b3 := (decide ((R1.getD k default).Hour < (R1.getD (((k : Int) - 1).toNat) default).Hour))) (v := .bool (decide ((R1.getD (((k : Int) - 1).toNat) default).Hour = (R1.getD k default).Hour))) (fun _ h => h) rfl rfl rfl (fun hg1 hg2 hg3 => q_move ((gv_pos hg1).trans ((gv_pos hg2).trans (gv_pos hg3)))) ?_
          refine DW.g4 (b1 := (((decide ((R1.getD k default).Hour < 0)) || (decide (((tr.length : Nat) : Int) ≤ (R1.getD k default).Hour))) || (!(decide ((R1.getD k default).Value.Lo ≤ tr.getD (((R1.getD k default).Hour).toNat) 0) && decide (tr.getD (((R1.getD k default).Hour).toNat) 0 ≤ (R1.getD k default).Value.Hi))))) (b2 := (decide ((0 : Int) < (k : Int)))) (b3 := (decide ((R1.getD k default).Hour < (R1.getD (((k : Int) - 1).toNat) default).Hour))) (b4 := (decide ((R1.getD (((k : Int) - 1).toNat) default).Hour = (R1.getD k default).Hour))) (v := lv1) (fun _ h => h) rfl rfl rfl (fun hg1 hg2 hg3 hg4 => q_move rfl) ?_
          refine DW.g4 (b1 := (((decide ((R1.getD k default).Hour < 0)) || (decide (((tr.length : Nat) : Int) ≤ (R1.getD k default).Hour))) || (!(decide ((R1.getD k default).Value.Lo ≤ tr.getD (((R1.getD k default).Hour).toNat) 0) && decide (tr.getD (((R1.getD k default).Hour).toNat) 0 ≤ (R1.getD k default).Value.Hi))))) (b2 := (decide ((0 : Int) < (k : Int)))) (b3 := (decide ((R1.getD k default).Hour < (R1.getD (((k : Int) - 1).toNat) default).Hour))) (b4 := (decide ((R1.getD (((k : Int) - 1).toNat) default).Hour = (R1.getD k default).Hour))) (v := .int .i64 (k : Int)) (fun _ h => h) rfl rfl rfl (fun hg1 hg2 hg3 hg4 => q_move rfl) ?_
          refine DW.g4 (b1 := (((decide ((R1.getD k default).Hour < 0)) || (decide (((tr.length : Nat) : Int) ≤ (R1.getD k default).Hour))) || (!(decide ((R1.getD k default).Value.Lo ≤ tr.getD (((R1.getD k default).Hour).toNat) 0) && decide (tr.getD (((R1.getD k default).Hour).toNat) 0 ≤ (R1.getD k default).Value.Hi))))) (b2 := (decide ((0 : Int) < (k : Int)))) (b3 := (decide ((R1.getD k default).Hour < (R1.getD (((k : Int) - 1).toNat) default).Hour))) (b4 := (decide ((R1.getD (((k : Int) - 1).toNat) default).Hour = (R1.getD k default).Hour))) (v := .int .i64 ((k : Int) - 1)) (fun _ h => h) rfl rfl rfl (fun hg1 hg2 hg3 hg4 => q_sub ((gv_pos hg1).trans ((gv_pos hg2).trans ((gv_pos hg3).trans (gv_pos hg4)))) rfl (by (try simp [-List.getD_eq_getElem?_getD] at hg1); (try simp [-List.getD_eq_getElem?_getD] at hg2); (try simp [-List.getD_eq_getElem?_getD] at hg3); (try simp [-List.getD_eq_getElem?_getD] at hg4); omega) (by (try simp [-List.getD_eq_getElem?_getD] at hg1); (try simp [-List.getD_eq_getElem?_getD] at hg2); (try simp [-List.getD_eq_getElem?_getD] at hg3); (try simp [-List.getD_eq_getElem?_getD] at hg4); unfold I64; omega)) ?_
          refine DW.g4 (b1 := (((decide ((R1.getD k default).Hour < 0)) || (decide (((tr.length : Nat) : Int) ≤ (R1.getD k default).Hour))) || (!(decide ((R1.getD k default).Value.Lo ≤ tr.getD (((R1.getD k default).Hour).toNat) 0) && decide (tr.getD (((R1.getD k default).Hour).toNat) 0 ≤ (R1.getD k default).Value.Hi))))) (b2 := (decide ((0 : Int) < (k : Int)))) (b3 := (decide ((R1.getD k default).Hour < (R1.getD (((k : Int) - 1).toNat) default).Hour))) (b4 := (decide ((R1.getD (((k : Int) - 1).toNat) default).Hour = (R1.getD k default).Hour))) (v := .pointer (some (Value.at lv1 ((((k : Int) - 1).toNat) * 4)))) (fun _ h => h) rfl rfl rfl (fun hg1 hg2 hg3 hg4 => q_indexAddr ((gv_pos hg1).trans ((gv_pos hg2).trans ((gv_pos hg3).trans (gv_pos hg4)))) ((gv_pos hg1).trans ((gv_pos hg2).trans ((gv_pos hg3).trans (gv_pos hg4)))) hlv1.sl Try.underlying43 sz49 (by (try simp [-List.getD_eq_getElem?_getD] at hg1); (try simp [-List.getD_eq_getElem?_getD] at hg2); (try simp [-List.getD_eq_getElem?_getD] at hg3); (try simp [-List.getD_eq_getElem?_getD] at hg4); omega) (by (try simp [-List.getD_eq_getElem?_getD] at hg1); (try simp [-List.getD_eq_getElem?_getD] at hg2); (try simp [-List.getD_eq_getElem?_getD] at hg3); (try simp [-List.getD_eq_getElem?_getD] at hg4); omega) rfl) ?_
          refine DW.g4 (b1 := (((decide ((R1.getD k default).Hour < 0)) || (decide (((tr.length : Nat) : Int) ≤ (R1.getD k default).Hour))) || (!(decide ((R1.getD k default).Value.Lo ≤ tr.getD (((R1.getD k default).Hour).toNat) 0) && decide (tr.getD (((R1.getD k default).Hour).toNat) 0 ≤ (R1.getD k default).Value.Hi))))) (b2 := (decide ((0 : Int) < (k : Int)))) (b3 := (decide ((R1.getD k default).Hour < (R1.getD (((k : Int) - 1).toNat) default).Hour))) (b4 := (decide ((R1.getD (((k : Int) - 1).toNat) default).Hour = (R1.getD k default).Hour))) (v := .pointer (some (Value.at lv1 ((((k : Int) - 1).toNat) * 4 + 0)))) (fun _ h => h) rfl rfl rfl (fun hg1 hg2 hg3 hg4 => q_fieldAddr ((gv_pos hg1).trans ((gv_pos hg2).trans ((gv_pos hg3).trans (gv_pos hg4)))) Try.underlying49 rfl sz3 at_add) ?_
          refine DW.g4 (b1 := (((decide ((R1.getD k default).Hour < 0)) || (decide (((tr.length : Nat) : Int) ≤ (R1.getD k default).Hour))) || (!(decide ((R1.getD k default).Value.Lo ≤ tr.getD (((R1.getD k default).Hour).toNat) 0) && decide (tr.getD (((R1.getD k default).Hour).toNat) 0 ≤ (R1.getD k default).Value.Hi))))) (b2 := (decide ((0 : Int) < (k : Int)))) (b3 := (decide ((R1.getD k default).Hour < (R1.getD (((k : Int) - 1).toNat) default).Hour))) (b4 := (decide ((R1.getD (((k : Int) - 1).toNat) default).Hour = (R1.getD k default).Hour))) (v := .int .i64 ((R1.getD (((k : Int) - 1).toNat) default).Gauge)) (fun _ h => h) rfl rfl rfl (fun hg1 hg2 hg3 hg4 => q_load ((gv_pos hg1).trans ((gv_pos hg2).trans ((gv_pos hg3).trans (gv_pos hg4)))) Try.underlying3 rfl (Cell.repE (j := 0) hlv1 (by (try simp [-List.getD_eq_getElem?_getD] at hg1); (try simp [-List.getD_eq_getElem?_getD] at hg2); (try simp [-List.getD_eq_getElem?_getD] at hg3); (try simp [-List.getD_eq_getElem?_getD] at hg4); omega) rfl)) ?_
          refine DW.g4 (b1 := (((decide ((R1.getD k default).Hour < 0)) || (decide (((tr.length : Nat) : Int) ≤ (R1.getD k default).Hour))) || (!(decide ((R1.getD k default).Value.Lo ≤ tr.getD (((R1.getD k default).Hour).toNat) 0) && decide (tr.getD (((R1.getD k default).Hour).toNat) 0 ≤ (R1.getD k default).Value.Hi))))) (b2 := (decide ((0 : Int) < (k : Int)))) (b3 := (decide ((R1.getD k default).Hour < (R1.getD (((k : Int) - 1).toNat) default).Hour))) (b4 := (decide ((R1.getD (((k : Int) - 1).toNat) default).Hour = (R1.getD k default).Hour))) (v := .pointer (some (⟨b5, 0, none⟩))) (fun _ h => h) rfl rfl rfl (fun hg1 hg2 hg3 hg4 => q_fieldAddr rfl Try.underlying49 rfl sz3 rfl) ?_
          refine DW.g4 (b1 := (((decide ((R1.getD k default).Hour < 0)) || (decide (((tr.length : Nat) : Int) ≤ (R1.getD k default).Hour))) || (!(decide ((R1.getD k default).Value.Lo ≤ tr.getD (((R1.getD k default).Hour).toNat) 0) && decide (tr.getD (((R1.getD k default).Hour).toNat) 0 ≤ (R1.getD k default).Value.Hi))))) (b2 := (decide ((0 : Int) < (k : Int)))) (b3 := (decide ((R1.getD k default).Hour < (R1.getD (((k : Int) - 1).toNat) default).Hour))) (b4 := (decide ((R1.getD (((k : Int) - 1).toNat) default).Hour = (R1.getD k default).Hour))) (v := .int .i64 ((R1.getD k default).Gauge)) (fun _ h => h) rfl rfl rfl (fun hg1 hg2 hg3 hg4 => q_load ((gv_pos hg1).trans ((gv_pos hg2).trans ((gv_pos hg3).trans (gv_pos hg4)))) Try.underlying3 rfl (Cell.blk 0 rfl rfl)) ?_
          refine DW.g4 (b1 := (((decide ((R1.getD k default).Hour < 0)) || (decide (((tr.length : Nat) : Int) ≤ (R1.getD k default).Hour))) || (!(decide ((R1.getD k default).Value.Lo ≤ tr.getD (((R1.getD k default).Hour).toNat) 0) && decide (tr.getD (((R1.getD k default).Hour).toNat) 0 ≤ (R1.getD k default).Value.Hi))))) (b2 := (decide ((0 : Int) < (k : Int)))) (b3 := (decide ((R1.getD k default).Hour < (R1.getD (((k : Int) - 1).toNat) default).Hour))) (b4 := (decide ((R1.getD (((k : Int) - 1).toNat) default).Hour = (R1.getD k default).Hour))) (v := .bool (decide ((R1.getD k default).Gauge ≤ (R1.getD (((k : Int) - 1).toNat) default).Gauge))) (fun _ h => h) rfl rfl rfl (fun hg1 hg2 hg3 hg4 => q_geq ((gv_pos hg1).trans ((gv_pos hg2).trans ((gv_pos hg3).trans (gv_pos hg4)))) ((gv_pos hg1).trans ((gv_pos hg2).trans ((gv_pos hg3).trans (gv_pos hg4))))) ?_
          refine DW.g3 (b1 := (((decide ((R1.getD k default).Hour < 0)) || (decide (((tr.length : Nat) : Int) ≤ (R1.getD k default).Hour))) || (!(decide ((R1.getD k default).Value.Lo ≤ tr.getD (((R1.getD k default).Hour).toNat) 0) && decide (tr.getD (((R1.getD k default).Hour).toNat) 0 ≤ (R1.getD k default).Value.Hi))))) (b2 := (decide ((0 : Int) < (k : Int)))) (b3 := (decide ((R1.getD k default).Hour < (R1.getD (((k : Int) - 1).toNat) default).Hour))) (v := .bool ((decide ((R1.getD (((k : Int) - 1).toNat) default).Hour = (R1.getD k default).Hour)) && (decide ((R1.getD k default).Gauge ≤ (R1.getD (((k : Int) - 1).toNat) default).Gauge)))) (fun _ h => h) rfl rfl rfl (fun hg1 hg2 hg3 => q_pick ((gv_pos hg1).trans ((gv_pos hg2).trans (gv_pos hg3))) (fun hp => (gv_pos hg1).trans ((gv_pos hg2).trans ((gv_pos hg3).trans ((gv_pos hp).trans (pkAndT hp))))) (fun hp => pkAndF hp)) ?_
          refine DW.g2 (b1 := (((decide ((R1.getD k default).Hour < 0)) || (decide (((tr.length : Nat) : Int) ≤ (R1.getD k default).Hour))) || (!(decide ((R1.getD k default).Value.Lo ≤ tr.getD (((R1.getD k default).Hour).toNat) 0) && decide (tr.getD (((R1.getD k default).Hour).toNat) 0 ≤ (R1.getD k default).Value.Hi))))) (b2 := (decide ((0 : Int) < (k : Int)))) (v := .bool ((decide ((R1.getD k default).Hour < (R1.getD (((k : Int) - 1).toNat) default).Hour)) || ((decide ((R1.getD (((k : Int) - 1).toNat) default).Hour = (R1.getD k default).Hour)) && (decide ((R1.getD k default).Gauge ≤ (R1.getD (((k : Int) - 1).toNat) default).Gauge))))) (fun _ h => h) rfl rfl rfl (fun hg1 hg2 => q_pick ((gv_pos hg1).trans (gv_pos hg2)) (fun hp => pkOrT hp) (fun hp => (gv_pos hg1).trans ((gv_pos hg2).trans ((gv_pos hp).trans (pkOrF hp))))) ?_
          refine DW.g (b := (((decide ((R1.getD k default).Hour < 0)) || (decide (((tr.length : Nat) : Int) ≤ (R1.getD k default).Hour))) || (!(decide ((R1.getD k default).Value.Lo ≤ tr.getD (((R1.getD k default).Hour).toNat) 0) && decide (tr.getD (((R1.getD k default).Hour).toNat) 0 ≤ (R1.getD k default).Value.Hi))))) (v := .bool ((decide ((0 : Int) < (k : Int))) && ((decide ((R1.getD k default).Hour < (R1.getD (((k : Int) - 1).toNat) default).Hour)) || ((decide ((R1.getD (((k : Int) - 1).toNat) default).Hour = (R1.getD k default).Hour)) && (decide ((R1.getD k default).Gauge ≤ (R1.getD (((k : Int) - 1).toNat) default).Gauge)))))) (fun _ h => h) rfl rfl rfl (fun h => q_pick (gv_pos h) (fun hp => (gv_pos h).trans ((gv_pos hp).trans (pkAndT hp))) (fun hp => pkAndF hp)) ?_
          refine DW.q (v := .bool ((((decide ((R1.getD k default).Hour < 0)) || (decide (((tr.length : Nat) : Int) ≤ (R1.getD k default).Hour))) || (!(decide ((R1.getD k default).Value.Lo ≤ tr.getD (((R1.getD k default).Hour).toNat) 0) && decide (tr.getD (((R1.getD k default).Hour).toNat) 0 ≤ (R1.getD k default).Value.Hi)))) || ((decide ((0 : Int) < (k : Int))) && ((decide ((R1.getD k default).Hour < (R1.getD (((k : Int) - 1).toNat) default).Hour)) || ((decide ((R1.getD (((k : Int) - 1).toNat) default).Hour = (R1.getD k default).Hour)) && (decide ((R1.getD k default).Gauge ≤ (R1.getD (((k : Int) - 1).toNat) default).Gauge))))))) (fun _ h => h) rfl (q_pick rfl (fun hp => pkOrT hp) (fun hp => (gv_pos hp).trans (pkOrF hp))) ?_
          refine DW.nil ?_
          refine Post.then_n ?_
          refine AW.cond (b := (((decide ((R1.getD k default).Hour < 0)) || (decide (((tr.length : Nat) : Int) ≤ (R1.getD k default).Hour))) || (!(decide ((R1.getD k default).Value.Lo ≤ tr.getD (((R1.getD k default).Hour).toNat) 0) && decide (tr.getD (((R1.getD k default).Hour).toNat) 0 ≤ (R1.getD k default).Value.Hi)))) || ((decide ((0 : Int) < (k : Int))) && ((decide ((R1.getD k default).Hour < (R1.getD (((k : Int) - 1).toNat) default).Hour)) || ((decide ((R1.getD (((k : Int) - 1).toNat) default).Hour = (R1.getD k default).Hour)) && (decide ((R1.getD k default).Gauge ≤ (R1.getD (((k : Int) - 1).toNat) default).Gauge)))))) rfl (fun hc8 => ?_) (fun hc8 => ?_)
          · simp [-List.getD_eq_getElem?_getD] at hc8
            exfalso
            rcases hc8 with ((h9 | h9) | h9) | h9
            · omega
            · omega
            · rcases h9 with h9 | h9 <;> omega
            · have h8 := hlt9 (by omega); rcases h9.2 with h9 | h9 <;> omega
          · simp [-List.getD_eq_getElem?_getD] at hc8
            refine AW.skip ?_
            refine Post.blk_n (Post.then_n ?_)
            refine AW.region ?_
            refine RW.q (v := .int .i64 (k : Int)) rfl (q_move rfl) ?_
            refine RW.q (v := .int .i64 ((k + 1 : Nat) : Int)) rfl (q_add rfl rfl (by omega) (by unfold I64; omega)) ?_
            refine RW.q (v := .int .i64 ((k + 1 : Nat) : Int)) rfl (q_assign rfl) ?_
            refine RW.nil ?_
            exact Post.back (s' := _) (J' := _) (m' := _) (by omega) ⟨k + 1, rfl, rfl, rfl, (by omega)⟩ ⟨rfl, rfl, rfl, rfl, rfl, rfl, rfl, trivial⟩ (fun _ h => StP.drop h (by exact .cons _ (.cons_cons _ (.cons_cons _ (.cons_cons _ (.slnil))))))
        · simp [-List.getD_eq_getElem?_getD] at hc7
          refine AW.exit ?_
          refine Post.then_x (Post.then_x (Post.blk_hit (Post.then_n ?_)))
          refine AW.seq ?_
          refine AW.seq ?_
          refine AW.region ?_
          refine RW.q (v := .int .i64 0) rfl (q_assign rfl) ?_
          refine RW.nil ?_
          refine Post.then_n ?_
          refine AW.block ?_
          refine AW.loop (fun s J m => ∃ (k : Nat), s = [(1, v2x), (4, .pointer (some (⟨b1, 0, none⟩))), (9, .bool true), (11, pA), (16, lv1), (17, lv2), (20, .int .i64 (k : Int))] ∧ J = St ⟨w, Φ, []⟩ Φ2 [.row pA 29 5 A.length (flat A), .row pF 29 5 F.length (flat F), .blk b1 41 [.string b.Name, v1, .int .i64 b.Cells, v3, v4, v5, v6, v7, v8, v9, .int .i64 b.Err]] ∧ m = R2.length - k ∧ (k ≤ R2.length)) (s0 := _) (J1 := _) (m0 := _) ⟨0, rfl, rfl, rfl, (by omega)⟩ ⟨rfl, rfl, rfl, rfl, rfl, rfl, rfl, trivial⟩ (fun _ h => h) ?_
          rintro _ _ _ _ ⟨k, rfl, rfl, rfl, hk⟩
          refine AW.seq ?_
          refine AW.seq ?_
          refine AW.region ?_
          refine RW.q (v := .int .i64 (k : Int)) rfl (q_move rfl) ?_
          refine RW.q (v := lv2) rfl (q_move rfl) ?_
          refine RW.q (v := .int .i64 ((R2.length : Nat) : Int)) rfl (q_len_sl rfl hlv2.sl Try.underlying43) ?_
          refine RW.q (v := .bool (decide ((k : Int) < ((R2.length : Nat) : Int)))) rfl (q_lss rfl rfl) ?_
          refine RW.nil ?_
          refine Post.then_n ?_
          refine AW.cond (b := decide ((k : Int) < ((R2.length : Nat) : Int))) rfl (fun hc9 => ?_) (fun hc9 => ?_)
          · simp [-List.getD_eq_getElem?_getD] at hc9
            refine AW.skip ?_
            refine Post.then_n ?_
            refine AW.seq ?_
            refine AW.block ?_
            refine AW.seq ?_
            obtain ⟨r9, hr9, e1, e2, e3, e4⟩ := Se.rds_more hlim htr (by omega) (by omega) hR2h hR1h (Se.getD_mem (L := R2) (i := k) (by omega))
            have hf9 := Se.findR_of hR1h hr9 e1 e2
            have hB_0 := hB
            have r6_0 := r6
            have h2_0 := h2
            have h3_0 := h3
            have hlv1_0 := hlv1
            have hlv2_0 := hlv2
            refine AW.draw (J0 := St ⟨w, Φ, []⟩ Φ2 [.row pA 29 5 A.length (flat A), .row pF 29 5 F.length (flat F), .blk b1 41 [.string b.Name, v1, .int .i64 b.Cells, v3, v4, v5, v6, v7, v8, v9, .int .i64 b.Err]]) [.q, .q, .q, .q, .q, .q, .q, .q, .q, .q, .q, .q, .q, .q, .q, .e, .e, .q] [0, 1, 2, 3, 4, 5, 6, 7, 8, 9, 10, 11, 12, 13, 14, 15, 16, 17] hmix (by kernel_rfl) ?_
            refine DW.q (v := lv1) (fun _ h => h) rfl (q_move rfl) ?_
            refine DW.q (v := lv2) (fun _ h => h) rfl (q_move rfl) ?_
            refine DW.q (v := .int .i64 (k : Int)) (fun _ h => h) rfl (q_move rfl) ?_
            refine DW.q (v := .pointer (some (Value.at lv2 (k * 4)))) (fun _ h => h) rfl (q_indexAddr rfl rfl hlv2.sl Try.underlying43 sz49 (by omega) (by omega) rfl) ?_
            refine DW.q (v := .pointer (some (Value.at lv2 (k * 4 + 0)))) (fun _ h => h) rfl (q_fieldAddr rfl Try.underlying49 rfl sz3 at_add) ?_
            refine DW.q (v := .int .i64 ((R2.getD k default).Gauge)) (fun _ h => h) rfl (q_load rfl Try.underlying3 rfl (Cell.repE (j := 0) hlv2 (by omega) rfl)) ?_
            refine DW.q (v := lv2) (fun _ h => h) rfl (q_move rfl) ?_
            refine DW.q (v := .int .i64 (k : Int)) (fun _ h => h) rfl (q_move rfl) ?_
            refine DW.q (v := .pointer (some (Value.at lv2 (k * 4)))) (fun _ h => h) rfl (q_indexAddr rfl rfl hlv2.sl Try.underlying43 sz49 (by omega) (by omega) rfl) ?_
            refine DW.q (v := .pointer (some (Value.at lv2 (k * 4 + 1)))) (fun _ h => h) rfl (q_fieldAddr rfl Try.underlying49 rfl sz3 at_add) ?_
            refine DW.q (v := .int .i64 ((R2.getD k default).Hour)) (fun _ h => h) rfl (q_load rfl Try.underlying3 rfl (Cell.repE (j := 1) hlv2 (by omega) rfl)) ?_
            refine DW.q (v := .tuple #[.agg #[.int .i64 (((Se.findR R1 ((R2.getD k default).Gauge) ((R2.getD k default).Hour)).getD default).Gauge), .int .i64 (((Se.findR R1 ((R2.getD k default).Gauge) ((R2.getD k default).Hour)).getD default).Hour), .int .i64 (((Se.findR R1 ((R2.getD k default).Gauge) ((R2.getD k default).Hour)).getD default).Value.Lo), .int .i64 (((Se.findR R1 ((R2.getD k default).Gauge) ((R2.getD k default).Hour)).getD default).Value.Hi)], .bool ((Se.findR R1 ((R2.getD k default).Gauge) ((R2.getD k default).Hour)).isSome)]) (fun _ h => h) rfl (q_call (args := #[lv1, .int .i64 ((R2.getD k default).Gauge), .int .i64 ((R2.getD k default).Hour)]) own19 rfl rfl (fun w1 hw1 => find_c w1 (Go.K.hp w1) (Hp.le_refl _) (hlv1.mono hw1.phi) (q := (R2.getD k default).Gauge) (u := (R2.getD k default).Hour))) ?_
            refine DW.q (v := .tuple #[.agg #[.int .i64 (((Se.findR R1 ((R2.getD k default).Gauge) ((R2.getD k default).Hour)).getD default).Gauge), .int .i64 (((Se.findR R1 ((R2.getD k default).Gauge) ((R2.getD k default).Hour)).getD default).Hour), .int .i64 (((Se.findR R1 ((R2.getD k default).Gauge) ((R2.getD k default).Hour)).getD default).Value.Lo), .int .i64 (((Se.findR R1 ((R2.getD k default).Gauge) ((R2.getD k default).Hour)).getD default).Value.Hi)], .bool ((Se.findR R1 ((R2.getD k default).Gauge) ((R2.getD k default).Hour)).isSome)]) (fun _ h => h) rfl (q_move rfl) ?_
            refine DW.q (v := .agg #[.int .i64 (((Se.findR R1 ((R2.getD k default).Gauge) ((R2.getD k default).Hour)).getD default).Gauge), .int .i64 (((Se.findR R1 ((R2.getD k default).Gauge) ((R2.getD k default).Hour)).getD default).Hour), .int .i64 (((Se.findR R1 ((R2.getD k default).Gauge) ((R2.getD k default).Hour)).getD default).Value.Lo), .int .i64 (((Se.findR R1 ((R2.getD k default).Gauge) ((R2.getD k default).Hour)).getD default).Value.Hi)]) (fun _ h => h) rfl (q_extract rfl rfl) ?_
            refine DW.q (v := .bool ((Se.findR R1 ((R2.getD k default).Gauge) ((R2.getD k default).Hour)).isSome)) (fun _ h => h) rfl (q_extract rfl rfl) ?_
            refine DW.eff (fun b6 : Nat => .pointer (some (⟨b6, 0, none⟩))) (fun b6 => St ⟨w, Φ, []⟩ Φ2 [.blk b6 49 [.int .i64 0, .int .i64 0, .int .i64 0, .int .i64 0], .row pA 29 5 A.length (flat A), .row pF 29 5 F.length (flat F), .blk b1 41 [.string b.Name, v1, .int .i64 b.Cells, v3, v4, v5, v6, v7, v8, v9, .int .i64 b.Err]]) (fun _ _ => (fun _ h => (StP.drop h (by exact .cons _ (.cons_cons _ (.cons_cons _ (.cons_cons _ (.slnil)))))))) rfl (e_alloc zero49) ?_
            intro b6
            refine DW.effn (J' := St ⟨w, Φ, []⟩ Φ2 [.blk b6 49 [.int .i64 (((Se.findR R1 ((R2.getD k default).Gauge) ((R2.getD k default).Hour)).getD default).Gauge), .int .i64 (((Se.findR R1 ((R2.getD k default).Gauge) ((R2.getD k default).Hour)).getD default).Hour), .int .i64 (((Se.findR R1 ((R2.getD k default).Gauge) ((R2.getD k default).Hour)).getD default).Value.Lo), .int .i64 (((Se.findR R1 ((R2.getD k default).Gauge) ((R2.getD k default).Hour)).getD default).Value.Hi)], .row pA 29 5 A.length (flat A), .row pF 29 5 F.length (flat F), .blk b1 41 [.string b.Name, v1, .int .i64 b.Cells, v3, v4, v5, v6, v7, v8, v9, .int .i64 b.Err]]) (fun _ => (fun _ h => (StP.drop h (by exact .cons _ (.cons_cons _ (.cons_cons _ (.cons_cons _ (.slnil)))))))) (e_store (v := .agg #[.int .i64 (((Se.findR R1 ((R2.getD k default).Gauge) ((R2.getD k default).Hour)).getD default).Gauge), .int .i64 (((Se.findR R1 ((R2.getD k default).Gauge) ((R2.getD k default).Hour)).getD default).Hour), .int .i64 (((Se.findR R1 ((R2.getD k default).Gauge) ((R2.getD k default).Hour)).getD default).Value.Lo), .int .i64 (((Se.findR R1 ((R2.getD k default).Gauge) ((R2.getD k default).Hour)).getD default).Value.Hi)]) 0 rfl rfl rfl sz49 rfl rfl rfl rfl rfl) ?_
            refine DW.q (v := .bool ((Se.findR R1 ((R2.getD k default).Gauge) ((R2.getD k default).Hour)).isSome)) (fun _ h => (StP.drop h (by exact .cons _ (.cons_cons _ (.cons_cons _ (.cons_cons _ (.slnil))))))) rfl (q_assign rfl) ?_
            refine DW.nil ?_
            refine Post.then_n ?_
            refine AW.seq ?_
            refine AW.draw (J0 := St ⟨w, Φ, []⟩ Φ2 [.blk b6 49 [.int .i64 (((Se.findR R1 ((R2.getD k default).Gauge) ((R2.getD k default).Hour)).getD default).Gauge), .int .i64 (((Se.findR R1 ((R2.getD k default).Gauge) ((R2.getD k default).Hour)).getD default).Hour), .int .i64 (((Se.findR R1 ((R2.getD k default).Gauge) ((R2.getD k default).Hour)).getD default).Value.Lo), .int .i64 (((Se.findR R1 ((R2.getD k default).Gauge) ((R2.getD k default).Hour)).getD default).Value.Hi)], .row pA 29 5 A.length (flat A), .row pF 29 5 F.length (flat F), .blk b1 41 [.string b.Name, v1, .int .i64 b.Cells, v3, v4, v5, v6, v7, v8, v9, .int .i64 b.Err]]) [.q, .q, .q, .q, .q, .q, .q, .q, .q, .q, .q, .q, .q] [0, 1, 2, 3, 4, 5, 6, 7, 8, 9, 10, 11, 12] hmix (by kernel_rfl) ?_
            refine DW.q (v := .bool ((Se.findR R1 ((R2.getD k default).Gauge) ((R2.getD k default).Hour)).isSome)) (fun _ h => h) rfl (q_move rfl) ?_
            refine DW.q (v := .bool (!((Se.findR R1 ((R2.getD k default).Gauge) ((R2.getD k default).Hour)).isSome))) (fun _ h => h) rfl (q_not rfl) ?_
            refine DW.q (v := .bool (!((Se.findR R1 ((R2.getD k default).Gauge) ((R2.getD k default).Hour)).isSome))) (fun _ h => h) rfl (q_move rfl) ?_
            refine DW.g (b := (!((Se.findR R1 ((R2.getD k default).Gauge) ((R2.getD k default).Hour)).isSome))) (v := .pointer (some (⟨b6, 2, none⟩))) (fun _ h => h) rfl rfl rfl (fun h => q_fieldAddr rfl Try.underlying49 rfl sz47 rfl) ?_
            refine DW.g (b := (!((Se.findR R1 ((R2.getD k default).Gauge) ((R2.getD k default).Hour)).isSome))) (v := .agg #[.int .i64 (((Se.findR R1 ((R2.getD k default).Gauge) ((R2.getD k default).Hour)).getD default).Value.Lo), .int .i64 (((Se.findR R1 ((R2.getD k default).Gauge) ((R2.getD k default).Hour)).getD default).Value.Hi)]) (fun _ h => h) rfl rfl rfl (fun h => q_loadAgg (gv_pos h) Try.underlying47 rfl sz47 rfl (Cells.blkP (off := 2) 0 rfl (fun j u hu => (by rcases j with _ | (_ | _) <;> first | exact hu | cases hu)))) ?_
            refine DW.g (b := (!((Se.findR R1 ((R2.getD k default).Gauge) ((R2.getD k default).Hour)).isSome))) (v := lv2) (fun _ h => h) rfl rfl rfl (fun h => q_move rfl) ?_
            refine DW.g (b := (!((Se.findR R1 ((R2.getD k default).Gauge) ((R2.getD k default).Hour)).isSome))) (v := .int .i64 (k : Int)) (fun _ h => h) rfl rfl rfl (fun h => q_move rfl) ?_
            refine DW.g (b := (!((Se.findR R1 ((R2.getD k default).Gauge) ((R2.getD k default).Hour)).isSome))) (v := .pointer (some (Value.at lv2 (k * 4)))) (fun _ h => h) rfl rfl rfl (fun h => q_indexAddr (gv_pos h) (gv_pos h) hlv2.sl Try.underlying43 sz49 (by (try simp [-List.getD_eq_getElem?_getD] at h); omega) (by (try simp [-List.getD_eq_getElem?_getD] at h); omega) rfl) ?_
            refine DW.g (b := (!((Se.findR R1 ((R2.getD k default).Gauge) ((R2.getD k default).Hour)).isSome))) (v := .pointer (some (Value.at lv2 (k * 4 + 2)))) (fun _ h => h) rfl rfl rfl (fun h => q_fieldAddr (gv_pos h) Try.underlying49 rfl sz47 at_add) ?_
            refine DW.g (b := (!((Se.findR R1 ((R2.getD k default).Gauge) ((R2.getD k default).Hour)).isSome))) (v := .agg #[.int .i64 ((R2.getD k default).Value.Lo), .int .i64 ((R2.getD k default).Value.Hi)]) (fun _ h => h) rfl rfl rfl (fun h => q_loadAgg (gv_pos h) Try.underlying47 rfl sz47 rfl (Cells.repP (off := 2) hlv2 (by (try simp [-List.getD_eq_getElem?_getD] at h); omega) (fun j u hu => (by rcases j with _ | (_ | _) <;> first | exact hu | cases hu)))) ?_
            refine DW.g (b := (!((Se.findR R1 ((R2.getD k default).Gauge) ((R2.getD k default).Hour)).isSome))) (v := .bool (decide ((R2.getD k default).Value.Lo ≤ ((Se.findR R1 ((R2.getD k default).Gauge) ((R2.getD k default).Hour)).getD default).Value.Lo ∧ ((Se.findR R1 ((R2.getD k default).Gauge) ((R2.getD k default).Hour)).getD default).Value.Hi ≤ (R2.getD k default).Value.Hi))) (fun _ h => h) rfl rfl rfl (fun h => q_call (args := #[.agg #[.int .i64 (((Se.findR R1 ((R2.getD k default).Gauge) ((R2.getD k default).Hour)).getD default).Value.Lo), .int .i64 (((Se.findR R1 ((R2.getD k default).Gauge) ((R2.getD k default).Hour)).getD default).Value.Hi)], .agg #[.int .i64 ((R2.getD k default).Value.Lo), .int .i64 ((R2.getD k default).Value.Hi)]]) own20 rfl (args2 (gv_pos h) (gv_pos h)) (fun w1 hw1 => sWithin_c w1 (Go.K.hp w1) (Hp.le_refl _))) ?_
            refine DW.g (b := (!((Se.findR R1 ((R2.getD k default).Gauge) ((R2.getD k default).Hour)).isSome))) (v := .bool (!(decide ((R2.getD k default).Value.Lo ≤ ((Se.findR R1 ((R2.getD k default).Gauge) ((R2.getD k default).Hour)).getD default).Value.Lo ∧ ((Se.findR R1 ((R2.getD k default).Gauge) ((R2.getD k default).Hour)).getD default).Value.Hi ≤ (R2.getD k default).Value.Hi)))) (fun _ h => h) rfl rfl rfl (fun h => q_not (gv_pos h)) ?_
            refine DW.q (v := .bool ((!((Se.findR R1 ((R2.getD k default).Gauge) ((R2.getD k default).Hour)).isSome)) || (!(decide ((R2.getD k default).Value.Lo ≤ ((Se.findR R1 ((R2.getD k default).Gauge) ((R2.getD k default).Hour)).getD default).Value.Lo ∧ ((Se.findR R1 ((R2.getD k default).Gauge) ((R2.getD k default).Hour)).getD default).Value.Hi ≤ (R2.getD k default).Value.Hi))))) (fun _ h => h) rfl (q_pick rfl (fun hp => pkOrT hp) (fun hp => (gv_pos hp).trans (pkOrF hp))) ?_
            refine DW.nil ?_
            refine Post.then_n ?_
            refine AW.cond (b := (!((Se.findR R1 ((R2.getD k default).Gauge) ((R2.getD k default).Hour)).isSome)) || (!(decide ((R2.getD k default).Value.Lo ≤ ((Se.findR R1 ((R2.getD k default).Gauge) ((R2.getD k default).Hour)).getD default).Value.Lo ∧ ((Se.findR R1 ((R2.getD k default).Gauge) ((R2.getD k default).Hour)).getD default).Value.Hi ≤ (R2.getD k default).Value.Hi)))) rfl (fun hc10 => ?_) (fun hc10 => ?_)
            · simp [-List.getD_eq_getElem?_getD] at hc10
              exfalso
              rw [hf9] at hc10
              simp [-List.getD_eq_getElem?_getD] at hc10
              omega
            · simp [-List.getD_eq_getElem?_getD] at hc10
              refine AW.skip ?_
              refine Post.blk_n (Post.then_n ?_)
              refine AW.region ?_
              refine RW.q (v := .int .i64 (k : Int)) rfl (q_move rfl) ?_
              refine RW.q (v := .int .i64 ((k + 1 : Nat) : Int)) rfl (q_add rfl rfl (by omega) (by unfold I64; omega)) ?_
              refine RW.q (v := .int .i64 ((k + 1 : Nat) : Int)) rfl (q_assign rfl) ?_
              refine RW.nil ?_
              exact Post.back (s' := _) (J' := _) (m' := _) (by omega) ⟨k + 1, rfl, rfl, rfl, (by omega)⟩ ⟨rfl, rfl, rfl, rfl, rfl, rfl, rfl, trivial⟩ (fun _ h => StP.drop h (by exact .cons _ (.cons_cons _ (.cons_cons _ (.cons_cons _ (.slnil))))))
          · simp [-List.getD_eq_getElem?_getD] at hc9
            refine AW.exit ?_
            refine Post.then_x (Post.then_x (Post.blk_hit (Post.then_n ?_)))
            refine AW.seq ?_
            refine AW.seq ?_
            refine AW.region ?_
            refine RW.q (v := .int .i64 0) rfl (q_assign rfl) ?_
            refine RW.nil ?_
            refine Post.then_n ?_
            refine AW.block ?_
            refine AW.loop (fun s J m => ∃ (k : Nat), s = [(1, v2x), (4, .pointer (some (⟨b1, 0, none⟩))), (9, .bool true), (11, pA), (16, lv1), (23, .int .i64 (k : Int))] ∧ J = St ⟨w, Φ, []⟩ Φ2 [.row pA 29 5 A.length (flat A), .row pF 29 5 F.length (flat F), .blk b1 41 [.string b.Name, v1, .int .i64 b.Cells, v3, v4, v5, v6, v7, v8, v9, .int .i64 b.Err]] ∧ m = A.length - k ∧ (k ≤ A.length)) (s0 := _) (J1 := _) (m0 := _) ⟨0, rfl, rfl, rfl, (by omega)⟩ ⟨rfl, rfl, rfl, rfl, rfl, rfl, trivial⟩ (fun _ h => h) ?_
            rintro _ _ _ _ ⟨k, rfl, rfl, rfl, hk⟩
            refine AW.seq ?_
            refine AW.seq ?_
            refine AW.region ?_
            refine RW.q (v := .int .i64 (k : Int)) rfl (q_move rfl) ?_
            refine RW.q (v := pA) rfl (q_move rfl) ?_
            refine RW.q (v := .int .i64 ((A.length : Nat) : Int)) rfl (q_len_sl rfl hpA Try.underlying22) ?_
            refine RW.q (v := .bool (decide ((k : Int) < ((A.length : Nat) : Int)))) rfl (q_lss rfl rfl) ?_
            refine RW.nil ?_
            refine Post.then_n ?_
            refine AW.cond (b := decide ((k : Int) < ((A.length : Nat) : Int))) rfl (fun hc11 => ?_) (fun hc11 => ?_)
            · simp [-List.getD_eq_getElem?_getD] at hc11
              refine AW.skip ?_
              refine Post.then_n ?_
              refine AW.seq ?_
              refine AW.block ?_
              refine AW.seq ?_
              have hmA : (A.getD k default) ∈ Se.honL b tr ls ls.length := by rw [← hA]; exact Se.getD_mem (by omega)
              obtain ⟨jn, hjn, hn⟩ := Se.honL_hn hlim hmA
              have hg0 := hn.g0
              have hg1 := hn.g1
              have hgc := hn.c0
              have hgl : 0 ≤ (b.Gauges.getD (A.getD k default).Gauge.toNat default).Err ∧ (b.Gauges.getD (A.getD k default).Gauge.toNat default).Err ≤ 1073741824 ∧ 0 ≤ (b.Gauges.getD (A.getD k default).Gauge.toNat default).Drift ∧ (b.Gauges.getD (A.getD k default).Gauge.toNat default).Drift ≤ 1440 := Se.gOf_lim hlim hg0 hg1
              have hle := (Se.lo_eq hlim htr hn).2.2
              have hB_0 := hB
              have r6_0 := r6
              have h2_0 := h2
              have h3_0 := h3
              have hlv1_0 := hlv1
              have hlv2_0 := hlv2
              refine AW.draw (J0 := St ⟨w, Φ, []⟩ Φ2 [.row pA 29 5 A.length (flat A), .row pF 29 5 F.length (flat F), .blk b1 41 [.string b.Name, v1, .int .i64 b.Cells, v3, v4, v5, v6, v7, v8, v9, .int .i64 b.Err]]) [.q, .q, .q, .q, .q, .q, .q, .q, .q, .e, .e] [0, 1, 2, 3, 4, 5, 6, 7, 8, 9, 10] hmix (by kernel_rfl) ?_
              refine DW.q (v := .pointer (some (⟨b1, 6, none⟩))) (fun _ h => h) rfl (q_fieldAddr rfl Try.underlying41 rfl sz36 rfl) ?_
              refine DW.q (v := v6) (fun _ h => h) rfl (q_load rfl Try.underlying36 rfl (Cell.blk 2 rfl rfl)) ?_
              refine DW.q (v := pA) (fun _ h => h) rfl (q_move rfl) ?_
              refine DW.q (v := .int .i64 (k : Int)) (fun _ h => h) rfl (q_move rfl) ?_
              refine DW.q (v := .pointer (some (Value.at pA (k * 5)))) (fun _ h => h) rfl (q_indexAddr rfl rfl hpA Try.underlying22 sz29 (by omega) (by omega) rfl) ?_
              refine DW.q (v := .pointer (some (Value.at pA (k * 5 + 0)))) (fun _ h => h) rfl (q_fieldAddr rfl Try.underlying29 rfl sz3 at_add) ?_
              refine DW.q (v := .int .i64 ((A.getD k default).Gauge)) (fun _ h => h) rfl (q_load rfl Try.underlying3 rfl (Cell.rowE even29 (j := 0) 0 rfl (by omega) rfl)) ?_
              refine DW.q (v := .pointer (some (Value.at v6 ((((A.getD k default).Gauge).toNat) * 5)))) (fun _ h => h) rfl (q_indexAddr rfl rfl r6.sl Try.underlying36 sz63 (by omega) (by omega) rfl) ?_
              refine DW.q (v := .agg #[.string ((b.Gauges.getD (((A.getD k default).Gauge).toNat) default).Name), .int .i64 ((b.Gauges.getD (((A.getD k default).Gauge).toNat) default).Kind), .int .i64 ((b.Gauges.getD (((A.getD k default).Gauge).toNat) default).Target), .int .i64 ((b.Gauges.getD (((A.getD k default).Gauge).toNat) default).Err), .int .i64 ((b.Gauges.getD (((A.getD k default).Gauge).toNat) default).Drift)]) (fun _ h => h) rfl (q_loadAgg rfl Try.underlying63 rfl sz63 rfl (Cells.repE r6 (by omega) rfl)) ?_
              refine DW.eff (fun b7 : Nat => .pointer (some (⟨b7, 0, none⟩))) (fun b7 => St ⟨w, Φ, []⟩ Φ2 [.blk b7 63 [.string (bs ([])), .int .i64 0, .int .i64 0, .int .i64 0, .int .i64 0], .row pA 29 5 A.length (flat A), .row pF 29 5 F.length (flat F), .blk b1 41 [.string b.Name, v1, .int .i64 b.Cells, v3, v4, v5, v6, v7, v8, v9, .int .i64 b.Err]]) (fun _ _ => (fun _ h => (StP.drop h (by exact .cons _ (.cons_cons _ (.cons_cons _ (.cons_cons _ (.slnil)))))))) rfl (e_alloc zero63) ?_
              intro b7
              refine DW.effn (J' := St ⟨w, Φ, []⟩ Φ2 [.blk b7 63 [.string ((b.Gauges.getD (((A.getD k default).Gauge).toNat) default).Name), .int .i64 ((b.Gauges.getD (((A.getD k default).Gauge).toNat) default).Kind), .int .i64 ((b.Gauges.getD (((A.getD k default).Gauge).toNat) default).Target), .int .i64 ((b.Gauges.getD (((A.getD k default).Gauge).toNat) default).Err), .int .i64 ((b.Gauges.getD (((A.getD k default).Gauge).toNat) default).Drift)], .row pA 29 5 A.length (flat A), .row pF 29 5 F.length (flat F), .blk b1 41 [.string b.Name, v1, .int .i64 b.Cells, v3, v4, v5, v6, v7, v8, v9, .int .i64 b.Err]]) (fun h => absurd rfl h) (e_store (v := .agg #[.string ((b.Gauges.getD (((A.getD k default).Gauge).toNat) default).Name), .int .i64 ((b.Gauges.getD (((A.getD k default).Gauge).toNat) default).Kind), .int .i64 ((b.Gauges.getD (((A.getD k default).Gauge).toNat) default).Target), .int .i64 ((b.Gauges.getD (((A.getD k default).Gauge).toNat) default).Err), .int .i64 ((b.Gauges.getD (((A.getD k default).Gauge).toNat) default).Drift)]) 0 rfl rfl rfl sz63 rfl rfl rfl rfl rfl) ?_
              refine DW.nil ?_
              refine Post.then_n ?_
              refine AW.seq ?_
              refine AW.draw (J0 := St ⟨w, Φ, []⟩ Φ2 [.blk b7 63 [.string ((b.Gauges.getD (((A.getD k default).Gauge).toNat) default).Name), .int .i64 ((b.Gauges.getD (((A.getD k default).Gauge).toNat) default).Kind), .int .i64 ((b.Gauges.getD (((A.getD k default).Gauge).toNat) default).Target), .int .i64 ((b.Gauges.getD (((A.getD k default).Gauge).toNat) default).Err), .int .i64 ((b.Gauges.getD (((A.getD k default).Gauge).toNat) default).Drift)], .row pA 29 5 A.length (flat A), .row pF 29 5 F.length (flat F), .blk b1 41 [.string b.Name, v1, .int .i64 b.Cells, v3, v4, v5, v6, v7, v8, v9, .int .i64 b.Err]]) [.q, .q, .q, .q, .q, .q, .q, .q, .q] [0, 1, 2, 3, 4, 5, 6, 7, 8] hmix (by kernel_rfl) ?_
              refine DW.q (v := pA) (fun _ h => h) rfl (q_move rfl) ?_
              refine DW.q (v := .int .i64 (k : Int)) (fun _ h => h) rfl (q_move rfl) ?_
              refine DW.q (v := .pointer (some (Value.at pA (k * 5)))) (fun _ h => h) rfl (q_indexAddr rfl rfl hpA Try.underlying22 sz29 (by omega) (by omega) rfl) ?_
              refine DW.q (v := .pointer (some (Value.at pA (k * 5 + 2)))) (fun _ h => h) rfl (q_fieldAddr rfl Try.underlying29 rfl sz3 at_add) ?_
              refine DW.q (v := .int .i64 ((A.getD k default).Clock)) (fun _ h => h) rfl (q_load rfl Try.underlying3 rfl (Cell.rowE even29 (j := 2) 1 rfl (by omega) rfl)) ?_
              refine DW.q (v := .pointer (some (⟨b7, 4, none⟩))) (fun _ h => h) rfl (q_fieldAddr rfl Try.underlying63 rfl sz3 rfl) ?_
              refine DW.q (v := .int .i64 ((b.Gauges.getD (((A.getD k default).Gauge).toNat) default).Drift)) (fun _ h => h) rfl (q_load rfl Try.underlying3 rfl (Cell.blk 0 rfl rfl)) ?_
              refine DW.q (v := .int .i64 (((A.getD k default).Clock) - ((b.Gauges.getD (((A.getD k default).Gauge).toNat) default).Drift))) (fun _ h => h) rfl (q_sub rfl rfl (by omega) (by unfold I64; omega)) ?_
              refine DW.q (v := .int .i64 (((A.getD k default).Clock) - ((b.Gauges.getD (((A.getD k default).Gauge).toNat) default).Drift))) (fun _ h => h) rfl (q_assign rfl) ?_
              refine DW.nil ?_
              refine Post.then_n ?_
              refine AW.seq ?_
              refine AW.seq ?_
              refine AW.draw (J0 := St ⟨w, Φ, []⟩ Φ2 [.blk b7 63 [.string ((b.Gauges.getD (((A.getD k default).Gauge).toNat) default).Name), .int .i64 ((b.Gauges.getD (((A.getD k default).Gauge).toNat) default).Kind), .int .i64 ((b.Gauges.getD (((A.getD k default).Gauge).toNat) default).Target), .int .i64 ((b.Gauges.getD (((A.getD k default).Gauge).toNat) default).Err), .int .i64 ((b.Gauges.getD (((A.getD k default).Gauge).toNat) default).Drift)], .row pA 29 5 A.length (flat A), .row pF 29 5 F.length (flat F), .blk b1 41 [.string b.Name, v1, .int .i64 b.Cells, v3, v4, v5, v6, v7, v8, v9, .int .i64 b.Err]]) [.q, .q, .q, .q, .q, .q, .q, .q, .q, .q, .q, .q, .q, .q, .q, .q] [0, 1, 2, 3, 4, 5, 6, 7, 8, 9, 10, 11, 12, 13, 14, 15] hmix (by kernel_rfl) ?_
              refine DW.q (v := .int .i64 (((A.getD k default).Clock) - ((b.Gauges.getD (((A.getD k default).Gauge).toNat) default).Drift))) (fun _ h => h) rfl (q_move rfl) ?_
              refine DW.q (v := .bool (decide (((A.getD k default).Clock) - ((b.Gauges.getD (((A.getD k default).Gauge).toNat) default).Drift) < 0))) (fun _ h => h) rfl (q_lss rfl rfl) ?_
              refine DW.q (v := .bool (decide (((A.getD k default).Clock) - ((b.Gauges.getD (((A.getD k default).Gauge).toNat) default).Drift) < 0))) (fun _ h => h) rfl (q_move rfl) ?_
              refine DW.g (b := (decide (((A.getD k default).Clock) - ((b.Gauges.getD (((A.getD k default).Gauge).toNat) default).Drift) < 0))) (v := .int .i64 (((A.getD k default).Clock) - ((b.Gauges.getD (((A.getD k default).Gauge).toNat) default).Drift))) (fun _ h => h) rfl rfl rfl (fun h => q_move rfl) ?_
              refine DW.g (b := (decide (((A.getD k default).Clock) - ((b.Gauges.getD (((A.getD k default).Gauge).toNat) default).Drift) < 0))) (v := .int .i64 (((A.getD k default).Clock - (b.Gauges.getD (A.getD k default).Gauge.toNat default).Drift) / 60)) (fun _ h => h) rfl rfl rfl (fun h => q_quo (gv_pos h) rfl (by (try simp [-List.getD_eq_getElem?_getD] at h); omega) (Int.tdiv_eq_ediv_of_nonneg (by first | omega | (simp [-List.getD_eq_getElem?_getD] at h; omega))) (by (try simp [-List.getD_eq_getElem?_getD] at h); unfold I64; omega)) ?_
              refine DW.g (b := (decide (((A.getD k default).Clock) - ((b.Gauges.getD (((A.getD k default).Gauge).toNat) default).Drift) < 0))) (v := pA) (fun _ h => h) rfl rfl rfl (fun h => q_move rfl) ?_
              refine DW.g (b := (decide (((A.getD k default).Clock) - ((b.Gauges.getD (((A.getD k default).Gauge).toNat) default).Drift) < 0))) (v := .int .i64 (k : Int)) (fun _ h => h) rfl rfl rfl (fun h => q_move rfl) ?_
              refine DW.g (b := (decide (((A.getD k default).Clock) - ((b.Gauges.getD (((A.getD k default).Gauge).toNat) default).Drift) < 0))) (v := .pointer (some (Value.at pA (k * 5)))) (fun _ h => h) rfl rfl rfl (fun h => q_indexAddr (gv_pos h) (gv_pos h) hpA Try.underlying22 sz29 (by (try simp [-List.getD_eq_getElem?_getD] at h); omega) (by (try simp [-List.getD_eq_getElem?_getD] at h); omega) rfl) ?_
              refine DW.g (b := (decide (((A.getD k default).Clock) - ((b.Gauges.getD (((A.getD k default).Gauge).toNat) default).Drift) < 0))) (v := .pointer (some (Value.at pA (k * 5 + 2)))) (fun _ h => h) rfl rfl rfl (fun h => q_fieldAddr (gv_pos h) Try.underlying29 rfl sz3 at_add) ?_
              refine DW.g (b := (decide (((A.getD k default).Clock) - ((b.Gauges.getD (((A.getD k default).Gauge).toNat) default).Drift) < 0))) (v := .int .i64 ((A.getD k default).Clock)) (fun _ h => h) rfl rfl rfl (fun h => q_load (gv_pos h) Try.underlying3 rfl (Cell.rowE even29 (j := 2) 1 rfl (by (try simp [-List.getD_eq_getElem?_getD] at h); omega) rfl)) ?_
              refine DW.g (b := (decide (((A.getD k default).Clock) - ((b.Gauges.getD (((A.getD k default).Gauge).toNat) default).Drift) < 0))) (v := .pointer (some (⟨b7, 4, none⟩))) (fun _ h => h) rfl rfl rfl (fun h => q_fieldAddr rfl Try.underlying63 rfl sz3 rfl) ?_
              refine DW.g (b := (decide (((A.getD k default).Clock) - ((b.Gauges.getD (((A.getD k default).Gauge).toNat) default).Drift) < 0))) (v := .int .i64 ((b.Gauges.getD (((A.getD k default).Gauge).toNat) default).Drift)) (fun _ h => h) rfl rfl rfl (fun h => q_load (gv_pos h) Try.underlying3 rfl (Cell.blk 0 rfl rfl)) ?_
              refine DW.g (b := (decide (((A.getD k default).Clock) - ((b.Gauges.getD (((A.getD k default).Gauge).toNat) default).Drift) < 0))) (v := .int .i64 (((A.getD k default).Clock) + ((b.Gauges.getD (((A.getD k default).Gauge).toNat) default).Drift))) (fun _ h => h) rfl rfl rfl (fun h => q_add (gv_pos h) (gv_pos h) (by (try simp [-List.getD_eq_getElem?_getD] at h); omega) (by (try simp [-List.getD_eq_getElem?_getD] at h); unfold I64; omega)) ?_
              refine DW.g (b := (decide (((A.getD k default).Clock) - ((b.Gauges.getD (((A.getD k default).Gauge).toNat) default).Drift) < 0))) (v := .int .i64 (((A.getD k default).Clock + (b.Gauges.getD (A.getD k default).Gauge.toNat default).Drift) / 60)) (fun _ h => h) rfl rfl rfl (fun h => q_quo (gv_pos h) rfl (by (try simp [-List.getD_eq_getElem?_getD] at h); omega) (Int.tdiv_eq_ediv_of_nonneg (by omega)) (by (try simp [-List.getD_eq_getElem?_getD] at h); unfold I64; omega)) ?_
              refine DW.g (b := (decide (((A.getD k default).Clock) - ((b.Gauges.getD (((A.getD k default).Gauge).toNat) default).Drift) < 0))) (v := .bool (!decide (((A.getD k default).Clock - (b.Gauges.getD (A.getD k default).Gauge.toNat default).Drift) / 60 = ((A.getD k default).Clock + (b.Gauges.getD (A.getD k default).Gauge.toNat default).Drift) / 60))) (fun _ h => h) rfl rfl rfl (fun h => q_neq (gv_pos h) (gv_pos h)) ?_
              refine DW.q (v := .bool ((decide (((A.getD k default).Clock) - ((b.Gauges.getD (((A.getD k default).Gauge).toNat) default).Drift) < 0)) || (!decide (((A.getD k default).Clock - (b.Gauges.getD (A.getD k default).Gauge.toNat default).Drift) / 60 = ((A.getD k default).Clock + (b.Gauges.getD (A.getD k default).Gauge.toNat default).Drift) / 60)))) (fun _ h => h) rfl (q_pick rfl (fun hp => pkOrT hp) (fun hp => (gv_pos hp).trans (pkOrF hp))) ?_
              refine DW.nil ?_
              refine Post.then_n ?_
              refine AW.cond (b := (decide (((A.getD k default).Clock) - ((b.Gauges.getD (((A.getD k default).Gauge).toNat) default).Drift) < 0)) || (!decide (((A.getD k default).Clock - (b.Gauges.getD (A.getD k default).Gauge.toNat default).Drift) / 60 = ((A.getD k default).Clock + (b.Gauges.getD (A.getD k default).Gauge.toNat default).Drift) / 60))) rfl (fun hc12 => ?_) (fun hc12 => ?_)
              · simp [-List.getD_eq_getElem?_getD] at hc12
                refine AW.exit ?_
                refine Post.then_x (Post.blk_hit (Post.then_n ?_))
                refine AW.region ?_
                refine RW.q (v := .int .i64 (k : Int)) rfl (q_move rfl) ?_
                refine RW.q (v := .int .i64 ((k + 1 : Nat) : Int)) rfl (q_add rfl rfl (by omega) (by unfold I64; omega)) ?_
                refine RW.q (v := .int .i64 ((k + 1 : Nat) : Int)) rfl (q_assign rfl) ?_
                refine RW.nil ?_
                exact Post.back (s' := _) (J' := _) (m' := _) (by omega) ⟨k + 1, rfl, rfl, rfl, (by omega)⟩ ⟨rfl, rfl, rfl, rfl, rfl, rfl, trivial⟩ (fun _ h => StP.drop h (by exact .cons _ (.cons_cons _ (.cons_cons _ (.cons_cons _ (.slnil))))))
              · simp [-List.getD_eq_getElem?_getD] at hc12
                refine AW.skip ?_
                refine Post.then_n ?_
                refine AW.seq ?_
                have hsu : ((A.getD k default).Clock - (b.Gauges.getD (A.getD k default).Gauge.toNat default).Drift) / 60 = ((A.getD k default).Clock + (b.Gauges.getD (A.getD k default).Gauge.toNat default).Drift) / 60 := by omega
                have hlow : 0 ≤ (A.getD k default).Clock - (b.Gauges.getD (A.getD k default).Gauge.toNat default).Drift := by omega
                have hfs : ((A.getD k default).Clock - (b.Gauges.getD (A.getD k default).Gauge.toNat default).Drift) / 60 < (tr.length : Int) → ∃ r, Se.findR R1 (A.getD k default).Gauge (((A.getD k default).Clock - (b.Gauges.getD (A.getD k default).Gauge.toNat default).Drift) / 60) = some r ∧ (A.getD k default).Value - (b.Gauges.getD (A.getD k default).Gauge.toNat default).Err ≤ r.Value.Lo ∧ r.Value.Hi ≤ (A.getD k default).Value + (b.Gauges.getD (A.getD k default).Gauge.toNat default).Err := fun hv => by
                  obtain ⟨r9, hr9, e1, e2, e3, e4⟩ := Se.rds_sure hlim htr (by omega) hR1h hmA hlow hsu hv
                  exact ⟨r9, Se.findR_of hR1h hr9 e1 e2, e3, e4⟩
                refine AW.region ?_
                refine RW.q (v := lv1) rfl (q_move rfl) ?_
                refine RW.q (v := pA) rfl (q_move rfl) ?_
                refine RW.q (v := .int .i64 (k : Int)) rfl (q_move rfl) ?_
                refine RW.q (v := .pointer (some (Value.at pA (k * 5)))) rfl (q_indexAddr rfl rfl hpA Try.underlying22 sz29 (by omega) (by omega) rfl) ?_
                refine RW.q (v := .pointer (some (Value.at pA (k * 5 + 0)))) rfl (q_fieldAddr rfl Try.underlying29 rfl sz3 at_add) ?_
                refine RW.q (v := .int .i64 ((A.getD k default).Gauge)) rfl (q_load rfl Try.underlying3 rfl (Cell.rowE even29 (j := 0) 1 rfl (by omega) rfl)) ?_
                refine RW.q (v := .int .i64 (((A.getD k default).Clock) - ((b.Gauges.getD (((A.getD k default).Gauge).toNat) default).Drift))) rfl (q_move rfl) ?_
                refine RW.q (v := .int .i64 (((A.getD k default).Clock - (b.Gauges.getD (A.getD k default).Gauge.toNat default).Drift) / 60)) rfl (q_quo rfl rfl (by omega) (Int.tdiv_eq_ediv_of_nonneg (by first | omega | (simp [-List.getD_eq_getElem?_getD] at h; omega))) (by unfold I64; omega)) ?_
                refine RW.q (v := .tuple #[.agg #[.int .i64 (((Se.findR R1 ((A.getD k default).Gauge) (((A.getD k default).Clock - (b.Gauges.getD (A.getD k default).Gauge.toNat default).Drift) / 60)).getD default).Gauge), .int .i64 (((Se.findR R1 ((A.getD k default).Gauge) (((A.getD k default).Clock - (b.Gauges.getD (A.getD k default).Gauge.toNat default).Drift) / 60)).getD default).Hour), .int .i64 (((Se.findR R1 ((A.getD k default).Gauge) (((A.getD k default).Clock - (b.Gauges.getD (A.getD k default).Gauge.toNat default).Drift) / 60)).getD default).Value.Lo), .int .i64 (((Se.findR R1 ((A.getD k default).Gauge) (((A.getD k default).Clock - (b.Gauges.getD (A.getD k default).Gauge.toNat default).Drift) / 60)).getD default).Value.Hi)], .bool ((Se.findR R1 ((A.getD k default).Gauge) (((A.getD k default).Clock - (b.Gauges.getD (A.getD k default).Gauge.toNat default).Drift) / 60)).isSome)]) rfl (q_call (args := #[lv1, .int .i64 ((A.getD k default).Gauge), .int .i64 (((A.getD k default).Clock - (b.Gauges.getD (A.getD k default).Gauge.toNat default).Drift) / 60)]) own19 rfl rfl (fun w1 hw1 => find_c w1 (Go.K.hp w1) (Hp.le_refl _) (hlv1.mono hw1.phi) (q := (A.getD k default).Gauge) (u := ((A.getD k default).Clock - (b.Gauges.getD (A.getD k default).Gauge.toNat default).Drift) / 60))) ?_
                refine RW.q (v := .tuple #[.agg #[.int .i64 (((Se.findR R1 ((A.getD k default).Gauge) (((A.getD k default).Clock - (b.Gauges.getD (A.getD k default).Gauge.toNat default).Drift) / 60)).getD default).Gauge), .int .i64 (((Se.findR R1 ((A.getD k default).Gauge) (((A.getD k default).Clock - (b.Gauges.getD (A.getD k default).Gauge.toNat default).Drift) / 60)).getD default).Hour), .int .i64 (((Se.findR R1 ((A.getD k default).Gauge) (((A.getD k default).Clock - (b.Gauges.getD (A.getD k default).Gauge.toNat default).Drift) / 60)).getD default).Value.Lo), .int .i64 (((Se.findR R1 ((A.getD k default).Gauge) (((A.getD k default).Clock - (b.Gauges.getD (A.getD k default).Gauge.toNat default).Drift) / 60)).getD default).Value.Hi)], .bool ((Se.findR R1 ((A.getD k default).Gauge) (((A.getD k default).Clock - (b.Gauges.getD (A.getD k default).Gauge.toNat default).Drift) / 60)).isSome)]) rfl (q_move rfl) ?_
                refine RW.q (v := .agg #[.int .i64 (((Se.findR R1 ((A.getD k default).Gauge) (((A.getD k default).Clock - (b.Gauges.getD (A.getD k default).Gauge.toNat default).Drift) / 60)).getD default).Gauge), .int .i64 (((Se.findR R1 ((A.getD k default).Gauge) (((A.getD k default).Clock - (b.Gauges.getD (A.getD k default).Gauge.toNat default).Drift) / 60)).getD default).Hour), .int .i64 (((Se.findR R1 ((A.getD k default).Gauge) (((A.getD k default).Clock - (b.Gauges.getD (A.getD k default).Gauge.toNat default).Drift) / 60)).getD default).Value.Lo), .int .i64 (((Se.findR R1 ((A.getD k default).Gauge) (((A.getD k default).Clock - (b.Gauges.getD (A.getD k default).Gauge.toNat default).Drift) / 60)).getD default).Value.Hi)]) rfl (q_extract rfl rfl) ?_
                refine RW.q (v := .bool ((Se.findR R1 ((A.getD k default).Gauge) (((A.getD k default).Clock - (b.Gauges.getD (A.getD k default).Gauge.toNat default).Drift) / 60)).isSome)) rfl (q_extract rfl rfl) ?_
                refine RW.eff (fun b8 : Nat => .pointer (some (⟨b8, 0, none⟩))) (fun b8 => St ⟨w, Φ, []⟩ Φ2 [.blk b8 49 [.int .i64 0, .int .i64 0, .int .i64 0, .int .i64 0], .blk b7 63 [.string ((b.Gauges.getD (((A.getD k default).Gauge).toNat) default).Name), .int .i64 ((b.Gauges.getD (((A.getD k default).Gauge).toNat) default).Kind), .int .i64 ((b.Gauges.getD (((A.getD k default).Gauge).toNat) default).Target), .int .i64 ((b.Gauges.getD (((A.getD k default).Gauge).toNat) default).Err), .int .i64 ((b.Gauges.getD (((A.getD k default).Gauge).toNat) default).Drift)], .row pA 29 5 A.length (flat A), .row pF 29 5 F.length (flat F), .blk b1 41 [.string b.Name, v1, .int .i64 b.Cells, v3, v4, v5, v6, v7, v8, v9, .int .i64 b.Err]]) rfl (e_alloc zero49) ?_
                intro b8
                refine RW.effn (J' := St ⟨w, Φ, []⟩ Φ2 [.blk b8 49 [.int .i64 (((Se.findR R1 ((A.getD k default).Gauge) (((A.getD k default).Clock - (b.Gauges.getD (A.getD k default).Gauge.toNat default).Drift) / 60)).getD default).Gauge), .int .i64 (((Se.findR R1 ((A.getD k default).Gauge) (((A.getD k default).Clock - (b.Gauges.getD (A.getD k default).Gauge.toNat default).Drift) / 60)).getD default).Hour), .int .i64 (((Se.findR R1 ((A.getD k default).Gauge) (((A.getD k default).Clock - (b.Gauges.getD (A.getD k default).Gauge.toNat default).Drift) / 60)).getD default).Value.Lo), .int .i64 (((Se.findR R1 ((A.getD k default).Gauge) (((A.getD k default).Clock - (b.Gauges.getD (A.getD k default).Gauge.toNat default).Drift) / 60)).getD default).Value.Hi)], .blk b7 63 [.string ((b.Gauges.getD (((A.getD k default).Gauge).toNat) default).Name), .int .i64 ((b.Gauges.getD (((A.getD k default).Gauge).toNat) default).Kind), .int .i64 ((b.Gauges.getD (((A.getD k default).Gauge).toNat) default).Target), .int .i64 ((b.Gauges.getD (((A.getD k default).Gauge).toNat) default).Err), .int .i64 ((b.Gauges.getD (((A.getD k default).Gauge).toNat) default).Drift)], .row pA 29 5 A.length (flat A), .row pF 29 5 F.length (flat F), .blk b1 41 [.string b.Name, v1, .int .i64 b.Cells, v3, v4, v5, v6, v7, v8, v9, .int .i64 b.Err]]) (e_store (v := .agg #[.int .i64 (((Se.findR R1 ((A.getD k default).Gauge) (((A.getD k default).Clock - (b.Gauges.getD (A.getD k default).Gauge.toNat default).Drift) / 60)).getD default).Gauge), .int .i64 (((Se.findR R1 ((A.getD k default).Gauge) (((A.getD k default).Clock - (b.Gauges.getD (A.getD k default).Gauge.toNat default).Drift) / 60)).getD default).Hour), .int .i64 (((Se.findR R1 ((A.getD k default).Gauge) (((A.getD k default).Clock - (b.Gauges.getD (A.getD k default).Gauge.toNat default).Drift) / 60)).getD default).Value.Lo), .int .i64 (((Se.findR R1 ((A.getD k default).Gauge) (((A.getD k default).Clock - (b.Gauges.getD (A.getD k default).Gauge.toNat default).Drift) / 60)).getD default).Value.Hi)]) 0 rfl rfl rfl sz49 rfl rfl rfl rfl rfl) ?_
                refine RW.q (v := .bool ((Se.findR R1 ((A.getD k default).Gauge) (((A.getD k default).Clock - (b.Gauges.getD (A.getD k default).Gauge.toNat default).Drift) / 60)).isSome)) rfl (q_assign rfl) ?_
                refine RW.nil ?_
                refine Post.then_n ?_
                refine AW.seq ?_
                refine AW.draw (J0 := St ⟨w, Φ, []⟩ Φ2 [.blk b8 49 [.int .i64 (((Se.findR R1 ((A.getD k default).Gauge) (((A.getD k default).Clock - (b.Gauges.getD (A.getD k default).Gauge.toNat default).Drift) / 60)).getD default).Gauge), .int .i64 (((Se.findR R1 ((A.getD k default).Gauge) (((A.getD k default).Clock - (b.Gauges.getD (A.getD k default).Gauge.toNat default).Drift) / 60)).getD default).Hour), .int .i64 (((Se.findR R1 ((A.getD k default).Gauge) (((A.getD k default).Clock - (b.Gauges.getD (A.getD k default).Gauge.toNat default).Drift) / 60)).getD default).Value.Lo), .int .i64 (((Se.findR R1 ((A.getD k default).Gauge) (((A.getD k default).Clock - (b.Gauges.getD (A.getD k default).Gauge.toNat default).Drift) / 60)).getD default).Value.Hi)], .blk b7 63 [.string ((b.Gauges.getD (((A.getD k default).Gauge).toNat) default).Name), .int .i64 ((b.Gauges.getD (((A.getD k default).Gauge).toNat) default).Kind), .int .i64 ((b.Gauges.getD (((A.getD k default).Gauge).toNat) default).Target), .int .i64 ((b.Gauges.getD (((A.getD k default).Gauge).toNat) default).Err), .int .i64 ((b.Gauges.getD (((A.getD k default).Gauge).toNat) default).Drift)], .row pA 29 5 A.length (flat A), .row pF 29 5 F.length (flat F), .blk b1 41 [.string b.Name, v1, .int .i64 b.Cells, v3, v4, v5, v6, v7, v8, v9, .int .i64 b.Err]]) [.q, .q, .q, .q, .q, .q, .q, .q, .q, .q, .q, .q, .q, .q, .q, .q, .q, .q, .q, .q, .q, .q, .q, .q, .q, .q, .q, .q, .q, .q, .q, .q] [0, 1, 2, 3, 4, 5, 6, 7, 8, 9, 10, 11, 12, 13, 14, 15, 16, 17, 18, 19, 20, 21, 22, 23, 24, 25, 26, 27, 28, 29, 30, 31] hmix (by kernel_rfl) ?_
                refine DW.q (v := .int .i64 (((A.getD k default).Clock) - ((b.Gauges.getD (((A.getD k default).Gauge).toNat) default).Drift))) (fun _ h => h) rfl (q_move rfl) ?_
                refine DW.q (v := .int .i64 (((A.getD k default).Clock - (b.Gauges.getD (A.getD k default).Gauge.toNat default).Drift) / 60)) (fun _ h => h) rfl (q_quo rfl rfl (by omega) (Int.tdiv_eq_ediv_of_nonneg (by first | omega | (simp [-List.getD_eq_getElem?_getD] at h; omega))) (by unfold I64; omega)) ?_
                refine DW.q (v := v2x) (fun _ h => h) rfl (q_move rfl) ?_
                refine DW.q (v := .int .i64 ((tr.length : Nat) : Int)) (fun _ h => h) rfl (q_len_sl rfl h3.sl Try.underlying39) ?_
                refine DW.q (v := .bool (decide (((A.getD k default).Clock - (b.Gauges.getD (A.getD k default).Gauge.toNat default).Drift) / 60 < ((tr.length : Nat) : Int)))) (fun _ h => h) rfl (q_lss rfl rfl) ?_
                refine DW.q (v := .bool (decide (((A.getD k default).Clock - (b.Gauges.getD (A.getD k default).Gauge.toNat default).Drift) / 60 < ((tr.length : Nat) : Int)))) (fun _ h => h) rfl (q_move rfl) ?_
                refine DW.g (b := (decide (((A.getD k default).Clock - (b.Gauges.getD (A.getD k default).Gauge.toNat default).Drift) / 60 < ((tr.length : Nat) : Int)))) (v := .bool ((Se.findR R1 ((A.getD k default).Gauge) (((A.getD k default).Clock - (b.Gauges.getD (A.getD k default).Gauge.toNat default).Drift) / 60)).isSome)) (fun _ h => h) rfl rfl rfl (fun h => q_move rfl) ?_
                refine DW.g (b := (decide (((A.getD k default).Clock - (b.Gauges.getD (A.getD k default).Gauge.toNat default).Drift) / 60 < ((tr.length : Nat) : Int)))) (v := .bool (!((Se.findR R1 ((A.getD k default).Gauge) (((A.getD k default).Clock - (b.Gauges.getD (A.getD k default).Gauge.toNat default).Drift) / 60)).isSome))) (fun _ h => h) rfl rfl rfl (fun h => q_not (gv_pos h)) ?_
                refine DW.g (b := (decide (((A.getD k default).Clock - (b.Gauges.getD (A.getD k default).Gauge.toNat default).Drift) / 60 < ((tr.length : Nat) : Int)))) (v := .bool (!((Se.findR R1 ((A.getD k default).Gauge) (((A.getD k default).Clock - (b.Gauges.getD (A.getD k default).Gauge.toNat default).Drift) / 60)).isSome))) (fun _ h => h) rfl rfl rfl (fun h => q_move (gv_pos h)) ?_
                refine DW.g2 (b1 := (decide (((A.getD k default).Clock - (b.Gauges.getD (A.getD k default).Gauge.toNat default).Drift) / 60 < ((tr.length : Nat) : Int)))) (b2 := (!((Se.findR R1 ((A.getD k default).Gauge) (((A.getD k default).Clock - (b.Gauges.getD (A.getD k default).Gauge.toNat default).Drift) / 60)).isSome))) (v := .pointer (some (⟨b8, 2, none⟩))) (fun _ h => h) rfl rfl rfl (fun hg1 hg2 => q_fieldAddr rfl Try.underlying49 rfl sz47 rfl) ?_
                refine DW.g2 (b1 := (decide (((A.getD k default).Clock - (b.Gauges.getD (A.getD k default).Gauge.toNat default).Drift) / 60 < ((tr.length : Nat) : Int)))) (b2 := (!((Se.findR R1 ((A.getD k default).Gauge) (((A.getD k default).Clock - (b.Gauges.getD (A.getD k default).Gauge.toNat default).Drift) / 60)).isSome))) (v := .agg #[.int .i64 (((Se.findR R1 ((A.getD k default).Gauge) (((A.getD k default).Clock - (b.Gauges.getD (A.getD k default).Gauge.toNat default).Drift) / 60)).getD default).Value.Lo), .int .i64 (((Se.findR R1 ((A.getD k default).Gauge) (((A.getD k default).Clock - (b.Gauges.getD (A.getD k default).Gauge.toNat default).Drift) / 60)).getD default).Value.Hi)]) (fun _ h => h) rfl rfl rfl (fun hg1 hg2 => q_loadAgg ((gv_pos hg1).trans (gv_pos hg2)) Try.underlying47 rfl sz47 rfl (Cells.blkP (off := 2) 0 rfl (fun j u hu => (by rcases j with _ | (_ | _) <;> first | exact hu | cases hu)))) ?_
                refine DW.g2 (b1 := (decide (((A.getD k default).Clock - (b.Gauges.getD (A.getD k default).Gauge.toNat default).Drift) / 60 < ((tr.length : Nat) : Int)))) (b2 := (!((Se.findR R1 ((A.getD k default).Gauge) (((A.getD k default).Clock - (b.Gauges.getD (A.getD k default).Gauge.toNat default).Drift) / 60)).isSome))) (v := pA) (fun _ h => h) rfl rfl rfl (fun hg1 hg2 => q_move rfl) ?_
                refine DW.g2 (b1 := (decide (((A.getD k default).Clock - (b.Gauges.getD (A.getD k default).Gauge.toNat default).Drift) / 60 < ((tr.length : Nat) : Int)))) (b2 := (!((Se.findR R1 ((A.getD k default).Gauge) (((A.getD k default).Clock - (b.Gauges.getD (A.getD k default).Gauge.toNat default).Drift) / 60)).isSome))) (v := .int .i64 (k : Int)) (fun _ h => h) rfl rfl rfl (fun hg1 hg2 => q_move rfl) ?_
                refine DW.g2 (b1 := (decide (((A.getD k default).Clock - (b.Gauges.getD (A.getD k default).Gauge.toNat default).Drift) / 60 < ((tr.length : Nat) : Int)))) (b2 := (!((Se.findR R1 ((A.getD k default).Gauge) (((A.getD k default).Clock - (b.Gauges.getD (A.getD k default).Gauge.toNat default).Drift) / 60)).isSome))) (v := .pointer (some (Value.at pA (k * 5)))) (fun _ h => h) rfl rfl rfl (fun hg1 hg2 => q_indexAddr ((gv_pos hg1).trans (gv_pos hg2)) ((gv_pos hg1).trans (gv_pos hg2)) hpA Try.underlying22 sz29 (by (try simp [-List.getD_eq_getElem?_getD] at hg1); (try simp [-List.getD_eq_getElem?_getD] at hg2); omega) (by (try simp [-List.getD_eq_getElem?_getD] at hg1); (try simp [-List.getD_eq_getElem?_getD] at hg2); omega) rfl) ?_
                refine DW.g2 (b1 := (decide (((A.getD k default).Clock - (b.Gauges.getD (A.getD k default).Gauge.toNat default).Drift) / 60 < ((tr.length : Nat) : Int)))) (b2 := (!((Se.findR R1 ((A.getD k default).Gauge) (((A.getD k default).Clock - (b.Gauges.getD (A.getD k default).Gauge.toNat default).Drift) / 60)).isSome))) (v := .pointer (some (Value.at pA (k * 5 + 3)))) (fun _ h => h) rfl rfl rfl (fun hg1 hg2 => q_fieldAddr ((gv_pos hg1).trans (gv_pos hg2)) Try.underlying29 rfl sz3 at_add) ?_
                refine DW.g2 (b1 := (decide (((A.getD k default).Clock - (b.Gauges.getD (A.getD k default).Gauge.toNat default).Drift) / 60 < ((tr.length : Nat) : Int)))) (b2 := (!((Se.findR R1 ((A.getD k default).Gauge) (((A.getD k default).Clock - (b.Gauges.getD (A.getD k default).Gauge.toNat default).Drift) / 60)).isSome))) (v := .int .i64 ((A.getD k default).Value)) (fun _ h => h) rfl rfl rfl (fun hg1 hg2 => q_load ((gv_pos hg1).trans (gv_pos hg2)) Try.underlying3 rfl (Cell.rowE even29 (j := 3) 2 rfl (by (try simp [-List.getD_eq_getElem?_getD] at hg1); (try simp [-List.getD_eq_getElem?_getD] at hg2); omega) rfl)) ?_
                refine DW.g2 (b1 := (decide (((A.getD k default).Clock - (b.Gauges.getD (A.getD k default).Gauge.toNat default).Drift) / 60 < ((tr.length : Nat) : Int)))) (b2 := (!((Se.findR R1 ((A.getD k default).Gauge) (((A.getD k default).Clock - (b.Gauges.getD (A.getD k default).Gauge.toNat default).Drift) / 60)).isSome))) (v := .pointer (some (⟨b7, 3, none⟩))) (fun _ h => h) rfl rfl rfl (fun hg1 hg2 => q_fieldAddr rfl Try.underlying63 rfl sz3 rfl) ?_
                refine DW.g2 (b1 := (decide (((A.getD k default).Clock - (b.Gauges.getD (A.getD k default).Gauge.toNat default).Drift) / 60 < ((tr.length : Nat) : Int)))) (b2 := (!((Se.findR R1 ((A.getD k default).Gauge) (((A.getD k default).Clock - (b.Gauges.getD (A.getD k default).Gauge.toNat default).Drift) / 60)).isSome))) (v := .int .i64 ((b.Gauges.getD (((A.getD k default).Gauge).toNat) default).Err)) (fun _ h => h) rfl rfl rfl (fun hg1 hg2 => q_load ((gv_pos hg1).trans (gv_pos hg2)) Try.underlying3 rfl (Cell.blk 1 rfl rfl)) ?_
                refine DW.g2 (b1 := (decide (((A.getD k default).Clock - (b.Gauges.getD (A.getD k default).Gauge.toNat default).Drift) / 60 < ((tr.length : Nat) : Int)))) (b2 := (!((Se.findR R1 ((A.getD k default).Gauge) (((A.getD k default).Clock - (b.Gauges.getD (A.getD k default).Gauge.toNat default).Drift) / 60)).isSome))) (v := .int .i64 (((A.getD k default).Value) - ((b.Gauges.getD (((A.getD k default).Gauge).toNat) default).Err))) (fun _ h => h) rfl rfl rfl (fun hg1 hg2 => q_sub ((gv_pos hg1).trans (gv_pos hg2)) ((gv_pos hg1).trans (gv_pos hg2)) (by (try simp [-List.getD_eq_getElem?_getD] at hg1); (try simp [-List.getD_eq_getElem?_getD] at hg2); omega) (by (try simp [-List.getD_eq_getElem?_getD] at hg1); (try simp [-List.getD_eq_getElem?_getD] at hg2); unfold I64; omega)) ?_
                refine DW.g2 (b1 := (decide (((A.getD k default).Clock - (b.Gauges.getD (A.getD k default).Gauge.toNat default).Drift) / 60 < ((tr.length : Nat) : Int)))) (b2 := (!((Se.findR R1 ((A.getD k default).Gauge) (((A.getD k default).Clock - (b.Gauges.getD (A.getD k default).Gauge.toNat default).Drift) / 60)).isSome))) (v := pA) (fun _ h => h) rfl rfl rfl (fun hg1 hg2 => q_move rfl) ?_
                refine DW.g2 (b1 := (decide (((A.getD k default).Clock - (b.Gauges.getD (A.getD k default).Gauge.toNat default).Drift) / 60 < ((tr.length : Nat) : Int)))) (b2 := (!((Se.findR R1 ((A.getD k default).Gauge) (((A.getD k default).Clock - (b.Gauges.getD (A.getD k default).Gauge.toNat default).Drift) / 60)).isSome))) (v := .int .i64 (k : Int)) (fun _ h => h) rfl rfl rfl (fun hg1 hg2 => q_move rfl) ?_
                refine DW.g2 (b1 := (decide (((A.getD k default).Clock - (b.Gauges.getD (A.getD k default).Gauge.toNat default).Drift) / 60 < ((tr.length : Nat) : Int)))) (b2 := (!((Se.findR R1 ((A.getD k default).Gauge) (((A.getD k default).Clock - (b.Gauges.getD (A.getD k default).Gauge.toNat default).Drift) / 60)).isSome))) (v := .pointer (some (Value.at pA (k * 5)))) (fun _ h => h) rfl rfl rfl (fun hg1 hg2 => q_indexAddr ((gv_pos hg1).trans (gv_pos hg2)) ((gv_pos hg1).trans (gv_pos hg2)) hpA Try.underlying22 sz29 (by (try simp [-List.getD_eq_getElem?_getD] at hg1); (try simp [-List.getD_eq_getElem?_getD] at hg2); omega) (by (try simp [-List.getD_eq_getElem?_getD] at hg1); (try simp [-List.getD_eq_getElem?_getD] at hg2); omega) rfl) ?_
                refine DW.g2 (b1 := (decide (((A.getD k default).Clock - (b.Gauges.getD (A.getD k default).Gauge.toNat default).Drift) / 60 < ((tr.length : Nat) : Int)))) (b2 := (!((Se.findR R1 ((A.getD k default).Gauge) (((A.getD k default).Clock - (b.Gauges.getD (A.getD k default).Gauge.toNat default).Drift) / 60)).isSome))) (v := .pointer (some (Value.at pA (k * 5 + 3)))) (fun _ h => h) rfl rfl rfl (fun hg1 hg2 => q_fieldAddr ((gv_pos hg1).trans (gv_pos hg2)) Try.underlying29 rfl sz3 at_add) ?_
                refine DW.g2 (b1 := (decide (((A.getD k default).Clock - (b.Gauges.getD (A.getD k default).Gauge.toNat default).Drift) / 60 < ((tr.length : Nat) : Int)))) (b2 := (!((Se.findR R1 ((A.getD k default).Gauge) (((A.getD k default).Clock - (b.Gauges.getD (A.getD k default).Gauge.toNat default).Drift) / 60)).isSome))) (v := .int .i64 ((A.getD k default).Value)) (fun _ h => h) rfl rfl rfl (fun hg1 hg2 => q_load ((gv_pos hg1).trans (gv_pos hg2)) Try.underlying3 rfl (Cell.rowE even29 (j := 3) 2 rfl (by (try simp [-List.getD_eq_getElem?_getD] at hg1); (try simp [-List.getD_eq_getElem?_getD] at hg2); omega) rfl)) ?_
                refine DW.g2 (b1 := (decide (((A.getD k default).Clock - (b.Gauges.getD (A.getD k default).Gauge.toNat default).Drift) / 60 < ((tr.length : Nat) : Int)))) (b2 := (!((Se.findR R1 ((A.getD k default).Gauge) (((A.getD k default).Clock - (b.Gauges.getD (A.getD k default).Gauge.toNat default).Drift) / 60)).isSome))) (v := .pointer (some (⟨b7, 3, none⟩))) (fun _ h => h) rfl rfl rfl (fun hg1 hg2 => q_fieldAddr rfl Try.underlying63 rfl sz3 rfl) ?_
                refine DW.g2 (b1 := (decide (((A.getD k default).Clock - (b.Gauges.getD (A.getD k default).Gauge.toNat default).Drift) / 60 < ((tr.length : Nat) : Int)))) (b2 := (!((Se.findR R1 ((A.getD k default).Gauge) (((A.getD k default).Clock - (b.Gauges.getD (A.getD k default).Gauge.toNat default).Drift) / 60)).isSome))) (v := .int .i64 ((b.Gauges.getD (((A.getD k default).Gauge).toNat) default).Err)) (fun _ h => h) rfl rfl rfl (fun hg1 hg2 => q_load ((gv_pos hg1).trans (gv_pos hg2)) Try.underlying3 rfl (Cell.blk 1 rfl rfl)) ?_
                refine DW.g2 (b1 := (decide (((A.getD k default).Clock - (b.Gauges.getD (A.getD k default).Gauge.toNat default).Drift) / 60 < ((tr.length : Nat) : Int)))) (b2 := (!((Se.findR R1 ((A.getD k default).Gauge) (((A.getD k default).Clock - (b.Gauges.getD (A.getD k default).Gauge.toNat default).Drift) / 60)).isSome))) (v := .int .i64 (((A.getD k default).Value) + ((b.Gauges.getD (((A.getD k default).Gauge).toNat) default).Err))) (fun _ h => h) rfl rfl rfl (fun hg1 hg2 => q_add ((gv_pos hg1).trans (gv_pos hg2)) ((gv_pos hg1).trans (gv_pos hg2)) (by (try simp [-List.getD_eq_getElem?_getD] at hg1); (try simp [-List.getD_eq_getElem?_getD] at hg2); omega) (by (try simp [-List.getD_eq_getElem?_getD] at hg1); (try simp [-List.getD_eq_getElem?_getD] at hg2); unfold I64; omega)) ?_
                refine DW.g2 (b1 := (decide (((A.getD k default).Clock - (b.Gauges.getD (A.getD k default).Gauge.toNat default).Drift) / 60 < ((tr.length : Nat) : Int)))) (b2 := (!((Se.findR R1 ((A.getD k default).Gauge) (((A.getD k default).Clock - (b.Gauges.getD (A.getD k default).Gauge.toNat default).Drift) / 60)).isSome))) (v := .agg #[.int .i64 (((A.getD k default).Value) - ((b.Gauges.getD (((A.getD k default).Gauge).toNat) default).Err)), .int .i64 (((A.getD k default).Value) + ((b.Gauges.getD (((A.getD k default).Gauge).toNat) default).Err))]) (fun _ h => h) rfl rfl rfl (fun hg1 hg2 => q_build (vals := [(0, .int .i64 (((A.getD k default).Value) - ((b.Gauges.getD (((A.getD k default).Gauge).toNat) default).Err))), (1, .int .i64 (((A.getD k default).Value) + ((b.Gauges.getD (((A.getD k default).Gauge).toNat) default).Err)))]) zero47 Try.underlying47 places47 (congr (congrArg List.cons (congrArg (Prod.mk 0) ((gv_pos hg1).trans (gv_pos hg2)))) (congr (congrArg List.cons (congrArg (Prod.mk 1) ((gv_pos hg1).trans (gv_pos hg2)))) rfl)) rfl) ?_
                refine DW.g2 (b1 := (decide (((A.getD k default).Clock - (b.Gauges.getD (A.getD k default).Gauge.toNat default).Drift) / 60 < ((tr.length : Nat) : Int)))) (b2 := (!((Se.findR R1 ((A.getD k default).Gauge) (((A.getD k default).Clock - (b.Gauges.getD (A.getD k default).Gauge.toNat default).Drift) / 60)).isSome))) (v := .bool (decide (((A.getD k default).Value) - ((b.Gauges.getD (((A.getD k default).Gauge).toNat) default).Err) ≤ ((Se.findR R1 ((A.getD k default).Gauge) (((A.getD k default).Clock - (b.Gauges.getD (A.getD k default).Gauge.toNat default).Drift) / 60)).getD default).Value.Lo ∧ ((Se.findR R1 ((A.getD k default).Gauge) (((A.getD k default).Clock - (b.Gauges.getD (A.getD k default).Gauge.toNat default).Drift) / 60)).getD default).Value.Hi ≤ ((A.getD k default).Value) + ((b.Gauges.getD (((A.getD k default).Gauge).toNat) default).Err)))) (fun _ h => h) rfl rfl rfl (fun hg1 hg2 => q_call (args := #[.agg #[.int .i64 (((Se.findR R1 ((A.getD k default).Gauge) (((A.getD k default).Clock - (b.Gauges.getD (A.getD k default).Gauge.toNat default).Drift) / 60)).getD default).Value.Lo), .int .i64 (((Se.findR R1 ((A.getD k default).Gauge) (((A.getD k default).Clock - (b.Gauges.getD (A.getD k default).Gauge.toNat default).Drift) / 60)).getD default).Value.Hi)], .agg #[.int .i64 (((A.getD k default).Value) - ((b.Gauges.getD (((A.getD k default).Gauge).toNat) default).Err)), .int .i64 (((A.getD k default).Value) + ((b.Gauges.getD (((A.getD k default).Gauge).toNat) default).Err))]]) own20 rfl (args2 ((gv_pos hg1).trans (gv_pos hg2)) ((gv_pos hg1).trans (gv_pos hg2))) (fun w1 hw1 => sWithin_c w1 (Go.K.hp w1) (Hp.le_refl _))) ?_
                refine DW.g2 (b1 := (decide (((A.getD k default).Clock - (b.Gauges.getD (A.getD k default).Gauge.toNat default).Drift) / 60 < ((tr.length : Nat) : Int)))) (b2 := (!((Se.findR R1 ((A.getD k default).Gauge) (((A.getD k default).Clock - (b.Gauges.getD (A.getD k default).Gauge.toNat default).Drift) / 60)).isSome))) (v := .bool (!(decide (((A.getD k default).Value) - ((b.Gauges.getD (((A.getD k default).Gauge).toNat) default).Err) ≤ ((Se.findR R1 ((A.getD k default).Gauge) (((A.getD k default).Clock - (b.Gauges.getD (A.getD k default).Gauge.toNat default).Drift) / 60)).getD default).Value.Lo ∧ ((Se.findR R1 ((A.getD k default).Gauge) (((A.getD k default).Clock - (b.Gauges.getD (A.getD k default).Gauge.toNat default).Drift) / 60)).getD default).Value.Hi ≤ ((A.getD k default).Value) + ((b.Gauges.getD (((A.getD k default).Gauge).toNat) default).Err))))) (fun _ h => h) rfl rfl rfl (fun hg1 hg2 => q_not ((gv_pos hg1).trans (gv_pos hg2))) ?_
                refine DW.g (b := (decide (((A.getD k default).Clock - (b.Gauges.getD (A.getD k default).Gauge.toNat default).Drift) / 60 < ((tr.length : Nat) : Int)))) (v := .bool ((!((Se.findR R1 ((A.getD k default).Gauge) (((A.getD k default).Clock - (b.Gauges.getD (A.getD k default).Gauge.toNat default).Drift) / 60)).isSome)) || (!(decide (((A.getD k default).Value) - ((b.Gauges.getD (((A.getD k default).Gauge).toNat) default).Err) ≤ ((Se.findR R1 ((A.getD k default).Gauge) (((A.getD k default).Clock - (b.Gauges.getD (A.getD k default).Gauge.toNat default).Drift) / 60)).getD default).Value.Lo ∧ ((Se.findR R1 ((A.getD k default).Gauge) (((A.getD k default).Clock - (b.Gauges.getD (A.getD k default).Gauge.toNat default).Drift) / 60)).getD default).Value.Hi ≤ ((A.getD k default).Value) + ((b.Gauges.getD (((A.getD k default).Gauge).toNat) default).Err)))))) (fun _ h => h) rfl rfl rfl (fun h => q_pick (gv_pos h) (fun hp => pkOrT hp) (fun hp => (gv_pos h).trans ((gv_pos hp).trans (pkOrF hp)))) ?_
                refine DW.q (v := .bool ((decide (((A.getD k default).Clock - (b.Gauges.getD (A.getD k default).Gauge.toNat default).Drift) / 60 < ((tr.length : Nat) : Int))) && ((!((Se.findR R1 ((A.getD k default).Gauge) (((A.getD k default).Clock - (b.Gauges.getD (A.getD k default).Gauge.toNat default).Drift) / 60)).isSome)) || (!(decide (((A.getD k default).Value) - ((b.Gauges.getD (((A.getD k default).Gauge).toNat) default).Err) ≤ ((Se.findR R1 ((A.getD k default).Gauge) (((A.getD k default).Clock - (b.Gauges.getD (A.getD k default).Gauge.toNat default).Drift) / 60)).getD default).Value.Lo ∧ ((Se.findR R1 ((A.getD k default).Gauge) (((A.getD k default).Clock - (b.Gauges.getD (A.getD k default).Gauge.toNat default).Drift) / 60)).getD default).Value.Hi ≤ ((A.getD k default).Value) + ((b.Gauges.getD (((A.getD k default).Gauge).toNat) default).Err))))))) (fun _ h => h) rfl (q_pick rfl (fun hp => (gv_pos hp).trans (pkAndT hp)) (fun hp => pkAndF hp)) ?_
                refine DW.nil ?_
                refine Post.then_n ?_
                refine AW.cond (b := (decide (((A.getD k default).Clock - (b.Gauges.getD (A.getD k default).Gauge.toNat default).Drift) / 60 < ((tr.length : Nat) : Int))) && ((!((Se.findR R1 ((A.getD k default).Gauge) (((A.getD k default).Clock - (b.Gauges.getD (A.getD k default).Gauge.toNat default).Drift) / 60)).isSome)) || (!(decide (((A.getD k default).Value) - ((b.Gauges.getD (((A.getD k default).Gauge).toNat) default).Err) ≤ ((Se.findR R1 ((A.getD k default).Gauge) (((A.getD k default).Clock - (b.Gauges.getD (A.getD k default).Gauge.toNat default).Drift) / 60)).getD default).Value.Lo ∧ ((Se.findR R1 ((A.getD k default).Gauge) (((A.getD k default).Clock - (b.Gauges.getD (A.getD k default).Gauge.toNat default).Drift) / 60)).getD default).Value.Hi ≤ ((A.getD k default).Value) + ((b.Gauges.getD (((A.getD k default).Gauge).toNat) default).Err)))))) rfl (fun hc13 => ?_) (fun hc13 => ?_)
                · simp [-List.getD_eq_getElem?_getD] at hc13
                  exfalso
                  obtain ⟨r9, hf9, e3, e4⟩ := hfs hc13.1
                  have h9 := hc13.2
                  rw [hf9] at h9
                  simp [-List.getD_eq_getElem?_getD] at h9
                  omega
                · simp [-List.getD_eq_getElem?_getD] at hc13
                  refine AW.skip ?_
                  refine Post.blk_n (Post.then_n ?_)
                  refine AW.region ?_
                  refine RW.q (v := .int .i64 (k : Int)) rfl (q_move rfl) ?_
                  refine RW.q (v := .int .i64 ((k + 1 : Nat) : Int)) rfl (q_add rfl rfl (by omega) (by unfold I64; omega)) ?_
                  refine RW.q (v := .int .i64 ((k + 1 : Nat) : Int)) rfl (q_assign rfl) ?_
                  refine RW.nil ?_
                  exact Post.back (s' := _) (J' := _) (m' := _) (by omega) ⟨k + 1, rfl, rfl, rfl, (by omega)⟩ ⟨rfl, rfl, rfl, rfl, rfl, rfl, trivial⟩ (fun _ h => StP.drop h (by exact .cons _ (.cons _ (.cons_cons _ (.cons_cons _ (.cons_cons _ (.slnil)))))))
            · simp [-List.getD_eq_getElem?_getD] at hc11
              refine AW.exit ?_
              refine Post.then_x (Post.then_x (Post.blk_hit (Post.then_n ?_)))
              refine AW.seq ?_
              refine AW.region ?_
              refine RW.q (v := .bool true) rfl (q_move rfl) ?_
              refine RW.q (v := .bool true) rfl (q_assign rfl) ?_
              refine RW.nil ?_
              refine Post.then_n ?_
              refine AW.ret ?_
              exact fin_val (v' := .bool true) rfl rfl rfl (rfl)

end Go.Proofs.Ytlljbndnodbecaa
