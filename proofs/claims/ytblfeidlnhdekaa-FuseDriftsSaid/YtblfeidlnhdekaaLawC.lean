/- Walks (part LawC), printed by walk2.py. Conditions: those of each theorem. -/
import Derived.Test.YtblfeidlnhdekaaWalkN
import Derived.Test.YtblfeidlnhdekaaPlainG
import Derived.Test.YtblfeidlnhdekaaCore7
namespace Go.Proofs.Ytblfeidlnhdekaa
open Go Go.K Go.RowKit

set_option maxRecDepth 8000 in
set_option maxHeartbeats 2000000 in
theorem FuseDrifts_c (w : World) (Φ : Hp) (hΦ : Hp.le Φ (hp w)) {b : Bt.Basin} {cs : List Value} (hB : RepV Φ b cs) {hist : List (List Int)} {hv : Value} (hh : RepSl Φ hist hv) {gg : Int} :
    Calls Try.prog 5 #[.agg cs.toArray, hv, .int .i64 gg] w fun e w' => e = .returned (.bool true) ∧ Below w.heap.size w w' := by
  obtain ⟨v1, v3, v4, v5, v6, v7, v8, v9, hcs, hBw, r1, r3, r4, r5, r6, r7, r8, r9⟩ := (show Rep.rep Φ b cs from hB)
  subst hcs
  have hpm : b.Places.length * 152 ≤ 140737488355328 := r3.max
  have hgm : b.Gauges.length * 48 ≤ 140737488355328 := r6.max
  refine calls_of_AW (args := [.agg #[.string b.Name, v1, .int .i64 b.Cells, v3, v4, v5, v6, v7, v8, v9, .int .i64 b.Err], hv, .int .i64 gg]) Try.func5 rfl (Nat.le_of_ble_eq_true rfl) (St ⟨w, Φ, []⟩ Φ []) (StP.init w Φ hΦ []) ?_
  show AW Try.prog 165 [] _ _ _ [(0, .agg #[.string b.Name, v1, .int .i64 b.Cells, v3, v4, v5, v6, v7, v8, v9, .int .i64 b.Err]), (1, hv), (2, .int .i64 gg)] _
  have hhm : hist.length * 24 ≤ 140737488355328 := hh.max
  refine AW.seq ?_
  refine AW.region ?_
  refine RW.eff (fun b1 : Nat => .pointer (some (⟨b1, 0, none⟩))) (fun b1 => St ⟨w, Φ, []⟩ Φ [.blk b1 31 [.string b.Name, v1, .int .i64 b.Cells, v3, v4, v5, v6, v7, v8, v9, .int .i64 b.Err]]) rfl (e_boxA (cs := [.string b.Name, v1, .int .i64 b.Cells, v3, v4, v5, v6, v7, v8, v9, .int .i64 b.Err]) rfl) ?_
  intro b1
  refine RW.q (v := .bool false) rfl (q_assign rfl) ?_
  refine RW.nil ?_
  refine Post.then_n ?_
  refine AW.seq ?_
  refine AW.region ?_
  refine RW.q (v := .bool true) rfl (q_call (args := #[]) own8 rfl rfl (fun w1 hw1 => small_c w1 (Go.K.hp w1) (Hp.le_refl _))) ?_
  refine RW.q (v := .bool true) rfl (q_assign rfl) ?_
  refine RW.nil ?_
  refine Post.then_n ?_
  refine AW.seq ?_
  refine AW.region ?_
  refine RW.q (v := hv) rfl (q_move rfl) ?_
  refine RW.q (v := .int .i64 ((hist.length : Nat) : Int)) rfl (q_len_sl rfl hh.sl Try.underlying38) ?_
  refine RW.q (v := .int .i64 ((hist.length : Nat) : Int)) rfl (q_assign rfl) ?_
  refine RW.nil ?_
  refine Post.then_n ?_
  refine AW.seq ?_
  refine AW.seq ?_
  refine AW.region ?_
  refine RW.q (v := .pointer (some (⟨b1, 6, none⟩))) rfl (q_fieldAddr rfl Try.underlying31 rfl sz26 rfl) ?_
  refine RW.q (v := v6) rfl (q_load rfl Try.underlying26 rfl (Cell.blk 0 rfl rfl)) ?_
  refine RW.q (v := .int .i64 ((b.Gauges.length : Nat) : Int)) rfl (q_len_sl rfl r6.sl Try.underlying26) ?_
  refine RW.q (v := .bool (decide ((20 : Int) < ((b.Gauges.length : Nat) : Int)))) rfl (q_gtr rfl rfl) ?_
  refine RW.q (v := .bool (decide ((20 : Int) < ((b.Gauges.length : Nat) : Int)))) rfl (q_move rfl) ?_
  refine RW.g (b := (decide ((20 : Int) < ((b.Gauges.length : Nat) : Int)))) (v := .int .i64 ((hist.length : Nat) : Int)) rfl rfl rfl (fun h => q_move rfl) ?_
  refine RW.g (b := (decide ((20 : Int) < ((b.Gauges.length : Nat) : Int)))) (v := .bool (decide ((20 : Int) < ((hist.length : Nat) : Int)))) rfl rfl rfl (fun h => q_gtr (gv_pos h) rfl) ?_
  refine RW.q (v := .bool ((decide ((20 : Int) < ((b.Gauges.length : Nat) : Int))) || (decide ((20 : Int) < ((hist.length : Nat) : Int))))) rfl (q_pick rfl (fun hp => pkOrT hp) (fun hp => (gv_pos hp).trans (pkOrF hp))) ?_
  refine RW.nil ?_
  refine Post.then_n ?_
  refine AW.cond (b := (decide ((20 : Int) < ((b.Gauges.length : Nat) : Int))) || (decide ((20 : Int) < ((hist.length : Nat) : Int)))) rfl (fun hc1 => ?_) (fun hc1 => ?_)
  · simp [-List.getD_eq_getElem?_getD] at hc1
    refine AW.seq ?_
    refine AW.region ?_
    refine RW.q (v := .bool true) rfl (q_move rfl) ?_
    refine RW.q (v := .bool true) rfl (q_assign rfl) ?_
    refine RW.nil ?_
    refine Post.then_n ?_
    refine AW.ret ?_
    refine Post.then_r ?_
    exact fin_val (v' := .bool true) rfl rfl rfl (rfl)
  · simp [-List.getD_eq_getElem?_getD] at hc1
    refine AW.skip ?_
    refine Post.then_n ?_
    refine AW.seq ?_
    refine AW.region ?_
    refine RW.q (v := .int .i64 ((hist.length : Nat) : Int)) rfl (q_move rfl) ?_
    refine RW.q (v := .bool (decide ((3 : Int) ≤ ((hist.length : Nat) : Int)))) rfl (q_geq rfl rfl) ?_
    refine RW.q (v := .bool (decide ((3 : Int) ≤ ((hist.length : Nat) : Int)))) rfl (q_assign rfl) ?_
    refine RW.nil ?_
    refine Post.then_n ?_
    refine AW.seq ?_
    refine AW.seq ?_
    refine AW.region ?_
    refine RW.q (v := .int .i64 0) rfl (q_assign rfl) ?_
    refine RW.nil ?_
    refine Post.then_n ?_
    refine AW.block ?_
    refine AW.loop (fun s J m => ∃ (k : Nat), ∃ (nm : Bool), s = [(1, hv), (2, .int .i64 gg), (3, .pointer (some (⟨b1, 0, none⟩))), (7, .bool true), (8, .int .i64 ((hist.length : Nat) : Int)), (9, .bool nm), (10, .int .i64 (k : Int))] ∧ J = St ⟨w, Φ, []⟩ Φ [.blk b1 31 [.string b.Name, v1, .int .i64 b.Cells, v3, v4, v5, v6, v7, v8, v9, .int .i64 b.Err]] ∧ m = hist.length - k ∧ (k ≤ hist.length) ∧ (nm = Fu.namI gg hist k)) (s0 := _) (J1 := _) (m0 := _) ⟨0, _, rfl, rfl, rfl, (by omega), rfl⟩ ⟨rfl, rfl, rfl, rfl, rfl, rfl, rfl, trivial⟩ (fun _ h => h) ?_
    rintro _ _ _ _ ⟨k, nm, rfl, rfl, rfl, hk, hnm⟩
    refine AW.seq ?_
    refine AW.seq ?_
    refine AW.region ?_
    refine RW.q (v := .int .i64 (k : Int)) rfl (q_move rfl) ?_
    refine RW.q (v := .int .i64 ((hist.length : Nat) : Int)) rfl (q_move rfl) ?_
    refine RW.q (v := .bool (decide ((k : Int) < ((hist.length : Nat) : Int)))) rfl (q_lss rfl rfl) ?_
    refine RW.nil ?_
    refine Post.then_n ?_
    refine AW.cond (b := decide ((k : Int) < ((hist.length : Nat) : Int))) rfl (fun hc2 => ?_) (fun hc2 => ?_)
    · simp [-List.getD_eq_getElem?_getD] at hc2
      refine AW.skip ?_
      refine Post.then_n ?_
      refine AW.seq ?_
      refine AW.block ?_
      refine AW.seq ?_
      refine AW.seq ?_
      refine AW.region ?_
      refine RW.q (v := hv) rfl (q_move rfl) ?_
      refine RW.q (v := .int .i64 (k : Int)) rfl (q_move rfl) ?_
      refine RW.q (v := .pointer (some (Value.at hv (k * 1)))) rfl (q_indexAddr rfl rfl hh.sl Try.underlying38 sz29 (by omega) (by omega) rfl) ?_
      obtain ⟨sv1, hsv1, hpc1⟩ := hh.sub (k := k) (by omega)
      refine RW.q (v := sv1) rfl (q_load rfl Try.underlying29 rfl (Cell.phi hpc1)) ?_
      refine RW.q (v := .int .i64 (((hist.getD k []).length : Nat) : Int)) rfl (q_len_sl rfl hsv1.sl Try.underlying29) ?_
      refine RW.q (v := .bool (decide ((40 : Int) < (((hist.getD k []).length : Nat) : Int)))) rfl (q_gtr rfl rfl) ?_
      refine RW.nil ?_
      refine Post.then_n ?_
      refine AW.cond (b := decide ((40 : Int) < (((hist.getD k []).length : Nat) : Int))) rfl (fun hc3 => ?_) (fun hc3 => ?_)
      · simp [-List.getD_eq_getElem?_getD] at hc3
        refine AW.seq ?_
        refine AW.region ?_
        refine RW.q (v := .bool true) rfl (q_move rfl) ?_
        refine RW.q (v := .bool true) rfl (q_assign rfl) ?_
        refine RW.nil ?_
        refine Post.then_n ?_
        refine AW.ret ?_
        refine Post.then_r (Post.blk_r (Post.then_r (Post.then_r (Post.blk_r (Post.then_r ?_)))))
        exact fin_val (v' := .bool true) rfl rfl rfl (rfl)
      · simp [-List.getD_eq_getElem?_getD] at hc3
        refine AW.skip ?_
        refine Post.then_n ?_
        refine AW.seq ?_
        refine AW.region ?_
        refine RW.q (v := .bool false) rfl (q_assign rfl) ?_
        refine RW.nil ?_
        refine Post.then_n ?_
        refine AW.seq ?_
        refine AW.seq ?_
        refine AW.region ?_
        refine RW.q (v := .int .i64 0) rfl (q_assign rfl) ?_
        refine RW.nil ?_
        refine Post.then_n ?_
        refine AW.block ?_
        refine AW.loop (fun s J m => ∃ (j : Nat), ∃ (fd : Bool), s = [(1, hv), (2, .int .i64 gg), (3, .pointer (some (⟨b1, 0, none⟩))), (7, .bool true), (8, .int .i64 ((hist.length : Nat) : Int)), (9, .bool nm), (10, .int .i64 (k : Int)), (11, .bool fd), (12, .int .i64 (j : Int))] ∧ J = St ⟨w, Φ, []⟩ Φ [.blk b1 31 [.string b.Name, v1, .int .i64 b.Cells, v3, v4, v5, v6, v7, v8, v9, .int .i64 b.Err]] ∧ m = (hist.getD k []).length - j ∧ (j ≤ (hist.getD k []).length) ∧ (fd = decide (gg ∈ (hist.getD k []).take j))) (s0 := _) (J1 := _) (m0 := _) ⟨0, false, rfl, rfl, rfl, (by omega), (by simp)⟩ ⟨rfl, rfl, rfl, rfl, rfl, rfl, rfl, rfl, rfl, trivial⟩ (fun _ h => h) ?_
        rintro _ _ _ _ ⟨j, fd, rfl, rfl, rfl, hj, hfd⟩
        refine AW.seq ?_
        refine AW.seq ?_
        refine AW.region ?_
        refine RW.q (v := .int .i64 (j : Int)) rfl (q_move rfl) ?_
        refine RW.q (v := hv) rfl (q_move rfl) ?_
        refine RW.q (v := .int .i64 (k : Int)) rfl (q_move rfl) ?_
        refine RW.q (v := .pointer (some (Value.at hv (k * 1)))) rfl (q_indexAddr rfl rfl hh.sl Try.underlying38 sz29 (by omega) (by omega) rfl) ?_
        obtain ⟨sv2, hsv2, hpc2⟩ := hh.sub (k := k) (by omega)
        refine RW.q (v := sv2) rfl (q_load rfl Try.underlying29 rfl (Cell.phi hpc2)) ?_
        refine RW.q (v := .int .i64 (((hist.getD k []).length : Nat) : Int)) rfl (q_len_sl rfl hsv2.sl Try.underlying29) ?_
        refine RW.q (v := .bool (decide ((j : Int) < (((hist.getD k []).length : Nat) : Int)))) rfl (q_lss rfl rfl) ?_
        refine RW.nil ?_
        refine Post.then_n ?_
        refine AW.cond (b := decide ((j : Int) < (((hist.getD k []).length : Nat) : Int))) rfl (fun hc4 => ?_) (fun hc4 => ?_)
        · simp [-List.getD_eq_getElem?_getD] at hc4
          refine AW.skip ?_
          refine Post.then_n ?_
          refine AW.seq ?_
          refine AW.block ?_
          refine AW.region ?_
          refine RW.q (v := .bool fd) rfl (q_move rfl) ?_
          refine RW.q (v := .bool fd) rfl (q_move rfl) ?_
          refine RW.g (b := fd) (v := hv) rfl rfl rfl (fun h => q_move rfl) ?_
          refine RW.g (b := fd) (v := .int .i64 (k : Int)) rfl rfl rfl (fun h => q_move rfl) ?_
          refine RW.g (b := fd) (v := .pointer (some (Value.at hv (k * 1)))) rfl rfl rfl (fun h => q_indexAddr (gv_pos h) (gv_pos h) hh.sl Try.underlying38 sz29 (by (try simp [-List.getD_eq_getElem?_getD] at h); omega) (by (try simp [-List.getD_eq_getElem?_getD] at h); omega) rfl) ?_
          obtain ⟨sv3, hsv3, hpc3⟩ := hh.sub (k := k) (by (try simp [-List.getD_eq_getElem?_getD] at h); omega)
          refine RW.g (b := fd) (v := sv3) rfl rfl rfl (fun h => q_load (gv_pos h) Try.underlying29 rfl (Cell.phi hpc3)) ?_
          refine RW.g (b := fd) (v := .int .i64 (j : Int)) rfl rfl rfl (fun h => q_move rfl) ?_
          refine RW.g (b := fd) (v := .pointer (some (Value.at sv3 (j * 1)))) rfl rfl rfl (fun h => q_indexAddr (gv_pos h) (gv_pos h) hsv3.sl Try.underlying29 sz3 (by (try simp [-List.getD_eq_getElem?_getD] at h); omega) (by (try simp [-List.getD_eq_getElem?_getD] at h); omega) rfl) ?_
          refine RW.g (b := fd) (v := .int .i64 ((hist.getD k []).getD j 0)) rfl rfl rfl (fun h => q_load (gv_pos h) Try.underlying3 rfl (Cell.repInt hsv3 (by (try simp [-List.getD_eq_getElem?_getD] at h); omega))) ?_
          refine RW.g (b := fd) (v := .int .i64 gg) rfl rfl rfl (fun h => q_move rfl) ?_
          refine RW.g (b := fd) (v := .bool (decide ((hist.getD k []).getD j 0 = gg))) rfl rfl rfl (fun h => q_eql (gv_pos h) (gv_pos h)) ?_
          refine RW.q (v := .bool (fd || (decide ((hist.getD k []).getD j 0 = gg)))) rfl (q_pick rfl (fun hp => pkOrT hp) (fun hp => (gv_pos hp).trans (pkOrF hp))) ?_
          refine RW.q (v := .bool (fd || (decide ((hist.getD k []).getD j 0 = gg)))) rfl (q_assign rfl) ?_
          refine RW.nil ?_
          refine Post.blk_n (Post.then_n ?_)
          refine AW.region ?_
          refine RW.q (v := .int .i64 (j : Int)) rfl (q_move rfl) ?_
          refine RW.q (v := .int .i64 ((j + 1 : Nat) : Int)) rfl (q_add rfl rfl (by omega) (by unfold I64; omega)) ?_
          refine RW.q (v := .int .i64 ((j + 1 : Nat) : Int)) rfl (q_assign rfl) ?_
          refine RW.nil ?_
          exact Post.back (s' := _) (J' := _) (m' := _) (by omega) ⟨j + 1, fd || (decide ((hist.getD k []).getD j 0 = gg)), rfl, rfl, rfl, (by omega), (by rw [hfd, Fu.take_snocI (by omega)]; simp [-List.getD_eq_getElem?_getD, eq_comm])⟩ ⟨rfl, rfl, rfl, rfl, rfl, rfl, rfl, rfl, rfl, trivial⟩ (fun _ h => h)
        · simp [-List.getD_eq_getElem?_getD] at hc4
          refine AW.exit ?_
          refine Post.then_x (Post.then_x (Post.blk_hit (Post.then_n ?_)))
          have hfe : fd = decide (gg ∈ (hist.getD k [])) := by rw [hfd, List.take_of_length_le (by omega)]
          refine AW.region ?_
          refine RW.q (v := .bool nm) rfl (q_move rfl) ?_
          refine RW.q (v := .bool nm) rfl (q_move rfl) ?_
          refine RW.g (b := nm) (v := .bool fd) rfl rfl rfl (fun h => q_move rfl) ?_
          refine RW.g (b := nm) (v := .bool fd) rfl rfl rfl (fun h => q_move (gv_pos h)) ?_
          refine RW.g2 (b1 := nm) (b2 := fd) (v := .int .i64 (k : Int)) rfl rfl rfl (fun hg1 hg2 => q_move rfl) ?_
          refine RW.g2 (b1 := nm) (b2 := fd) (v := .int .i64 ((hist.length : Nat) : Int)) rfl rfl rfl (fun hg1 hg2 => q_move rfl) ?_
          refine RW.g2 (b1 := nm) (b2 := fd) (v := .int .i64 (((hist.length : Nat) : Int) - 3)) rfl rfl rfl (fun hg1 hg2 => q_sub ((gv_pos hg1).trans (gv_pos hg2)) rfl (by (try simp [-List.getD_eq_getElem?_getD] at hg1); (try simp [-List.getD_eq_getElem?_getD] at hg2); omega) (by (try simp [-List.getD_eq_getElem?_getD] at hg1); (try simp [-List.getD_eq_getElem?_getD] at hg2); unfold I64; omega)) ?_
          refine RW.g2 (b1 := nm) (b2 := fd) (v := .bool (decide ((k : Int) < ((hist.length : Nat) : Int) - 3))) rfl rfl rfl (fun hg1 hg2 => q_lss ((gv_pos hg1).trans (gv_pos hg2)) ((gv_pos hg1).trans (gv_pos hg2))) ?_
          refine RW.g (b := nm) (v := .bool (fd || (decide ((k : Int) < ((hist.length : Nat) : Int) - 3)))) rfl rfl rfl (fun h => q_pick (gv_pos h) (fun hp => pkOrT hp) (fun hp => (gv_pos h).trans ((gv_pos hp).trans (pkOrF hp)))) ?_
          refine RW.q (v := .bool (nm && (fd || (decide ((k : Int) < ((hist.length : Nat) : Int) - 3))))) rfl (q_pick rfl (fun hp => (gv_pos hp).trans (pkAndT hp)) (fun hp => pkAndF hp)) ?_
          refine RW.q (v := .bool (nm && (fd || (decide ((k : Int) < ((hist.length : Nat) : Int) - 3))))) rfl (q_assign rfl) ?_
          refine RW.nil ?_
          refine Post.blk_n (Post.then_n ?_)
          refine AW.region ?_
          refine RW.q (v := .int .i64 (k : Int)) rfl (q_move rfl) ?_
          refine RW.q (v := .int .i64 ((k + 1 : Nat) : Int)) rfl (q_add rfl rfl (by omega) (by unfold I64; omega)) ?_
          refine RW.q (v := .int .i64 ((k + 1 : Nat) : Int)) rfl (q_assign rfl) ?_
          refine RW.nil ?_
          exact Post.back (s' := _) (J' := _) (m' := _) (by omega) ⟨k + 1, nm && (fd || (decide ((k : Int) < ((hist.length : Nat) : Int) - 3))), rfl, rfl, rfl, (by omega), (by rw [hfe, hnm]; rfl)⟩ ⟨rfl, rfl, rfl, rfl, rfl, rfl, rfl, trivial⟩ (fun _ h => h)
    · simp [-List.getD_eq_getElem?_getD] at hc2
      refine AW.exit ?_
      refine Post.then_x (Post.then_x (Post.blk_hit (Post.then_n ?_)))
      refine AW.seq ?_
      have hnd : nm = Fu.namI gg hist hist.length := by rw [hnm, show k = hist.length by omega]
      refine AW.region ?_
      refine RW.q (v := .agg #[.string b.Name, v1, .int .i64 b.Cells, v3, v4, v5, v6, v7, v8, v9, .int .i64 b.Err]) rfl (q_loadAgg rfl Try.underlying31 rfl sz31 rfl (Cells.blk 0 rfl)) ?_
      refine RW.q (v := hv) rfl (q_move rfl) ?_
      refine RW.eff (fun x : {y : Value × Hp // (fun r Ψ => RepSl Ψ (Fu.drift b.Gauges.length hist) r) y.1 y.2 ∧ Hp.le Φ y.2} => x.1.1) (fun x => St ⟨w, Φ, []⟩ x.1.2 [.blk b1 31 [.string b.Name, v1, .int .i64 b.Cells, v3, v4, v5, v6, v7, v8, v9, .int .i64 b.Err]]) rfl (e_callS (T := fun r Ψ => RepSl Ψ (Fu.drift b.Gauges.length hist) r) (args := #[.agg #[.string b.Name, v1, .int .i64 b.Cells, v3, v4, v5, v6, v7, v8, v9, .int .i64 b.Err], hv]) own16 rfl rfl (fun w1 hw1 => (Drifting_c w1 (Go.K.hp w1) (Hp.le_refl _) (hB.mono hw1.phi) (hh.mono hw1.phi)).mono fun _ _ => retS_up (fun _ _ _ hl h => h.mono hl))) ?_
      rintro ⟨⟨lv1, Φ1⟩, hlv1, hlΦ1⟩
      replace hlv1 : RepSl Φ1 (Fu.drift b.Gauges.length hist) lv1 := hlv1
      replace hlΦ1 : Hp.le Φ Φ1 := hlΦ1
      replace hB := hB.mono hlΦ1
      replace r3 := r3.mono hlΦ1
      replace r6 := r6.mono hlΦ1
      replace hh := hh.mono hlΦ1
      refine RW.q (v := lv1) rfl (q_assign rfl) ?_
      refine RW.nil ?_
      refine Post.then_n ?_
      refine AW.seq ?_
      have hdl := Fu.drift_len b.Gauges.length hist
      refine AW.region ?_
      refine RW.q (v := .bool false) rfl (q_assign rfl) ?_
      refine RW.nil ?_
      refine Post.then_n ?_
      refine AW.seq ?_
      refine AW.seq ?_
      refine AW.region ?_
      refine RW.q (v := .int .i64 0) rfl (q_assign rfl) ?_
      refine RW.nil ?_
      refine Post.then_n ?_
      refine AW.block ?_
      refine AW.loop (fun s J m => ∃ (q : Nat), ∃ (fd2 : Bool), s = [(1, hv), (2, .int .i64 gg), (3, .pointer (some (⟨b1, 0, none⟩))), (7, .bool true), (8, .int .i64 ((hist.length : Nat) : Int)), (9, .bool nm), (13, lv1), (14, .bool fd2), (15, .int .i64 (q : Int))] ∧ J = St ⟨w, Φ, []⟩ Φ1 [.blk b1 31 [.string b.Name, v1, .int .i64 b.Cells, v3, v4, v5, v6, v7, v8, v9, .int .i64 b.Err]] ∧ m = (Fu.drift b.Gauges.length hist).length - q ∧ (q ≤ (Fu.drift b.Gauges.length hist).length) ∧ (fd2 = decide (gg ∈ (Fu.drift b.Gauges.length hist).take q))) (s0 := _) (J1 := _) (m0 := _) ⟨0, false, rfl, rfl, rfl, (by omega), (by simp)⟩ ⟨rfl, rfl, rfl, rfl, rfl, rfl, rfl, rfl, rfl, trivial⟩ (fun _ h => h) ?_
      rintro _ _ _ _ ⟨q, fd2, rfl, rfl, rfl, hq, hfd2⟩
      refine AW.seq ?_
      refine AW.seq ?_
      refine AW.region ?_
      refine RW.q (v := .int .i64 (q : Int)) rfl (q_move rfl) ?_
      refine RW.q (v := lv1) rfl (q_move rfl) ?_
      refine RW.q (v := .int .i64 (((Fu.drift b.Gauges.length hist).length : Nat) : Int)) rfl (q_len_sl rfl hlv1.sl Try.underlying29) ?_
      refine RW.q (v := .bool (decide ((q : Int) < (((Fu.drift b.Gauges.length hist).length : Nat) : Int)))) rfl (q_lss rfl rfl) ?_
      refine RW.nil ?_
      refine Post.then_n ?_
      refine AW.cond (b := decide ((q : Int) < (((Fu.drift b.Gauges.length hist).length : Nat) : Int))) rfl (fun hc5 => ?_) (fun hc5 => ?_)
      · simp [-List.getD_eq_getElem?_getD] at hc5
        refine AW.skip ?_
        refine Post.then_n ?_
        refine AW.seq ?_
        refine AW.block ?_
        refine AW.seq ?_
        refine AW.region ?_
        refine RW.q (v := .bool fd2) rfl (q_move rfl) ?_
        refine RW.q (v := .bool fd2) rfl (q_move rfl) ?_
        refine RW.g (b := fd2) (v := lv1) rfl rfl rfl (fun h => q_move rfl) ?_
        refine RW.g (b := fd2) (v := .int .i64 (q : Int)) rfl rfl rfl (fun h => q_move rfl) ?_
        refine RW.g (b := fd2) (v := .pointer (some (Value.at lv1 (q * 1)))) rfl rfl rfl (fun h => q_indexAddr (gv_pos h) (gv_pos h) hlv1.sl Try.underlying29 sz3 (by (try simp [-List.getD_eq_getElem?_getD] at h); omega) (by (try simp [-List.getD_eq_getElem?_getD] at h); omega) rfl) ?_
        refine RW.g (b := fd2) (v := .int .i64 ((Fu.drift b.Gauges.length hist).getD q 0)) rfl rfl rfl (fun h => q_load (gv_pos h) Try.underlying3 rfl (Cell.repInt hlv1 (by (try simp [-List.getD_eq_getElem?_getD] at h); omega))) ?_
        refine RW.g (b := fd2) (v := .int .i64 gg) rfl rfl rfl (fun h => q_move rfl) ?_
        refine RW.g (b := fd2) (v := .bool (decide ((Fu.drift b.Gauges.length hist).getD q 0 = gg))) rfl rfl rfl (fun h => q_eql (gv_pos h) (gv_pos h)) ?_
        refine RW.q (v := .bool (fd2 || (decide ((Fu.drift b.Gauges.length hist).getD q 0 = gg)))) rfl (q_pick rfl (fun hp => pkOrT hp) (fun hp => (gv_pos hp).trans (pkOrF hp))) ?_
        refine RW.q (v := .bool (fd2 || (decide ((Fu.drift b.Gauges.length hist).getD q 0 = gg)))) rfl (q_assign rfl) ?_
        refine RW.nil ?_
        refine Post.then_n ?_
        refine AW.seq ?_
        have hrg : ∀ i, i < (Fu.drift b.Gauges.length hist).length → 0 ≤ (Fu.drift b.Gauges.length hist).getD i 0 ∧ (Fu.drift b.Gauges.length hist).getD i 0 < (b.Gauges.length : Int) := fun i hi => Fu.drift_rng (Fu.getD_memI hi)
        have hasc : ∀ i j, i < j → j < (Fu.drift b.Gauges.length hist).length → (Fu.drift b.Gauges.length hist).getD i 0 < (Fu.drift b.Gauges.length hist).getD j 0 := fun i j hij hj => by rw [List.getD_eq_getElem?_getD, List.getD_eq_getElem?_getD, List.getElem?_eq_getElem hj, List.getElem?_eq_getElem (show i < (Fu.drift b.Gauges.length hist).length by omega)]; exact List.pairwise_iff_getElem.1 (Fu.drift_asc _ _) i j (by omega) hj hij
        refine AW.draw (J0 := St ⟨w, Φ, []⟩ Φ1 [.blk b1 31 [.string b.Name, v1, .int .i64 b.Cells, v3, v4, v5, v6, v7, v8, v9, .int .i64 b.Err]]) [.q, .q, .q, .q, .q, .q, .q, .q, .q, .q, .q, .q, .q, .q, .q, .q, .q, .q, .q, .q, .q, .q, .q, .q, .q, .q, .q, .q, .q, .q, .q] [0, 1, 2, 3, 4, 5, 6, 7, 8, 9, 10, 11, 12, 13, 14, 15, 16, 17, 18, 19, 20, 21, 22, 23, 24, 25, 26, 27, 28, 29, 30] hmix (by kernel_rfl) ?_
        refine DW.q (v := lv1) (fun _ h => h) rfl (q_move rfl) ?_
        refine DW.q (v := .int .i64 (q : Int)) (fun _ h => h) rfl (q_move rfl) ?_
        refine DW.q (v := .pointer (some (Value.at lv1 (q * 1)))) (fun _ h => h) rfl (q_indexAddr rfl rfl hlv1.sl Try.underlying29 sz3 (by omega) (by omega) rfl) ?_
        refine DW.q (v := .int .i64 ((Fu.drift b.Gauges.length hist).getD q 0)) (fun _ h => h) rfl (q_load rfl Try.underlying3 rfl (Cell.repInt hlv1 (by omega))) ?_
        refine DW.q (v := .bool (decide ((Fu.drift b.Gauges.length hist).getD q 0 < 0))) (fun _ h => h) rfl (q_lss rfl rfl) ?_
        refine DW.q (v := .bool (decide ((Fu.drift b.Gauges.length hist).getD q 0 < 0))) (fun _ h => h) rfl (q_move rfl) ?_
        refine DW.g (b := (decide ((Fu.drift b.Gauges.length hist).getD q 0 < 0))) (v := lv1) (fun _ h => h) rfl rfl rfl (fun h => q_move rfl) ?_
        refine DW.g (b := (decide ((Fu.drift b.Gauges.length hist).getD q 0 < 0))) (v := .int .i64 (q : Int)) (fun _ h => h) rfl rfl rfl (fun h => q_move rfl) ?_
        refine DW.g (b := (decide ((Fu.drift b.Gauges.length hist).getD q 0 < 0))) (v := .pointer (some (Value.at lv1 (q * 1)))) (fun _ h => h) rfl rfl rfl (fun h => q_indexAddr (gv_pos h) (gv_pos h) hlv1.sl Try.underlying29 sz3 (by (try simp [-List.getD_eq_getElem?_getD] at h); omega) (by (try simp [-List.getD_eq_getElem?_getD] at h); omega) rfl) ?_
        refine DW.g (b := (decide ((Fu.drift b.Gauges.length hist).getD q 0 < 0))) (v := .int .i64 ((Fu.drift b.Gauges.length hist).getD q 0)) (fun _ h => h) rfl rfl rfl (fun h => q_load (gv_pos h) Try.underlying3 rfl (Cell.repInt hlv1 (by (try simp [-List.getD_eq_getElem?_getD] at h); omega))) ?_
        refine DW.g (b := (decide ((Fu.drift b.Gauges.length hist).getD q 0 < 0))) (v := .pointer (some (⟨b1, 6, none⟩))) (fun _ h => h) rfl rfl rfl (fun h => q_fieldAddr rfl Try.underlying31 rfl sz26 rfl) ?_
        refine DW.g (b := (decide ((Fu.drift b.Gauges.length hist).getD q 0 < 0))) (v := v6) (fun _ h => h) rfl rfl rfl (fun h => q_load (gv_pos h) Try.underlying26 rfl (Cell.blk 0 rfl rfl)) ?_
        refine DW.g (b := (decide ((Fu.drift b.Gauges.length hist).getD q 0 < 0))) (v := .int .i64 ((b.Gauges.length : Nat) : Int)) (fun _ h => h) rfl rfl rfl (fun h => q_len_sl (gv_pos h) r6.sl Try.underlying26) ?_
        refine DW.g (b := (decide ((Fu.drift b.Gauges.length hist).getD q 0 < 0))) (v := .bool (decide (((b.Gauges.length : Nat) : Int) ≤ (Fu.drift b.Gauges.length hist).getD q 0))) (fun _ h => h) rfl rfl rfl (fun h => q_geq (gv_pos h) (gv_pos h)) ?_
        refine DW.q (v := .bool ((decide ((Fu.drift b.Gauges.length hist).getD q 0 < 0)) || (decide (((b.Gauges.length : Nat) : Int) ≤ (Fu.drift b.Gauges.length hist).getD q 0)))) (fun _ h => h) rfl (q_pick rfl (fun hp => pkOrT hp) (fun hp => (gv_pos hp).trans (pkOrF hp))) ?_
        refine DW.q (v := .bool ((decide ((Fu.drift b.Gauges.length hist).getD q 0 < 0)) || (decide (((b.Gauges.length : Nat) : Int) ≤ (Fu.drift b.Gauges.length hist).getD q 0)))) (fun _ h => h) rfl (q_move rfl) ?_
        refine DW.g (b := ((decide ((Fu.drift b.Gauges.length hist).getD q 0 < 0)) || (decide (((b.Gauges.length : Nat) : Int) ≤ (Fu.drift b.Gauges.length hist).getD q 0)))) (v := .int .i64 (q : Int)) (fun _ h => h) rfl rfl rfl (fun h => q_move rfl) ?_
        refine DW.g (b := ((decide ((Fu.drift b.Gauges.length hist).getD q 0 < 0)) || (decide (((b.Gauges.length : Nat) : Int) ≤ (Fu.drift b.Gauges.length hist).getD q 0)))) (v := .bool (decide ((0 : Int) < (q : Int)))) (fun _ h => h) rfl rfl rfl (fun h => q_gtr (gv_pos h) rfl) ?_
        refine DW.g (b := ((decide ((Fu.drift b.Gauges.length hist).getD q 0 < 0)) || (decide (((b.Gauges.length : Nat) : Int) ≤ (Fu.drift b.Gauges.length hist).getD q 0)))) (v := .bool (decide ((0 : Int) < (q : Int)))) (fun _ h => h) rfl rfl rfl (fun h => q_move (gv_pos h)) ?_
        refine DW.g2 (b1 := ((decide ((Fu.drift b.Gauges.length hist).getD q 0 < 0)) || (decide (((b.Gauges.length : Nat) : Int) ≤ (Fu.drift b.Gauges.length hist).getD q 0)))) (b2 := (decide ((0 : Int) < (q : Int)))) (v := lv1) (fun _ h => h) rfl rfl rfl (fun hg1 hg2 => q_move rfl) ?_
        refine DW.g2 (b1 := ((decide ((Fu.drift b.Gauges.length hist).getD q 0 < 0)) || (decide (((b.Gauges.length : Nat) : Int) ≤ (Fu.drift b.Gauges.length hist).getD q 0)))) (b2 := (decide ((0 : Int) < (q : Int)))) (v := .int .i64 (q : Int)) (fun _ h => h) rfl rfl rfl (fun hg1 hg2 => q_move rfl) ?_
        refine DW.g2 (b1 := ((decide ((Fu.drift b.Gauges.length hist).getD q 0 < 0)) || (decide (((b.Gauges.length : Nat) : Int) ≤ (Fu.drift b.Gauges.length hist).getD q 0)))) (b2 := (decide ((0 : Int) < (q : Int)))) (v := .int .i64 ((q : Int) - 1)) (fun _ h => h) rfl rfl rfl (fun hg1 hg2 => q_sub ((gv_pos hg1).trans (gv_pos hg2)) rfl (by (try simp [-List.getD_eq_getElem?_getD] at hg1); (try simp [-List.getD_eq_getElem?_getD] at hg2); omega) (by (try simp [-List.getD_eq_getElem?_getD] at hg1); (try simp [-List.getD_eq_getElem?_getD] at hg2); unfold I64; omega)) ?_
        refine DW.g2 (b1 := ((decide ((Fu.drift b.Gauges.length hist).getD q 0 < 0)) || (decide (((b.Gauges.length : Nat) : Int) ≤ (Fu.drift b.Gauges.length hist).getD q 0)))) (b2 := (decide ((0 : Int) < (q : Int)))) (v := .pointer (some (Value.at lv1 ((((q : Int) - 1).toNat) * 1)))) (fun _ h => h) rfl rfl rfl (fun hg1 hg2 => q_indexAddr ((gv_pos hg1).trans (gv_pos hg2)) ((gv_pos hg1).trans (gv_pos hg2)) hlv1.sl Try.underlying29 sz3 (by (try simp [-List.getD_eq_getElem?_getD] at hg1); (try simp [-List.getD_eq_getElem?_getD] at hg2); omega) (by (try simp [-List.getD_eq_getElem?_getD] at hg1); (try simp [-List.getD_eq_getElem?_getD] at hg2); omega) rfl) ?_
        refine DW.g2 (b1 := ((decide ((Fu.drift b.Gauges.length hist).getD q 0 < 0)) || (decide (((b.Gauges.length : Nat) : Int) ≤ (Fu.drift b.Gauges.length hist).getD q 0)))) (b2 := (decide ((0 : Int) < (q : Int)))) (v := .int .i64 ((Fu.drift b.Gauges.length hist).getD (((q : Int) - 1).toNat) 0)) (fun _ h => h) rfl rfl rfl (fun hg1 hg2 => q_load ((gv_pos hg1).trans (gv_pos hg2)) Try.underlying3 rfl (Cell.repInt hlv1 (by (try simp [-List.getD_eq_getElem?_getD] at hg1); (try simp [-List.getD_eq_getElem?_getD] at hg2); omega))) ?_
        refine DW.g2 (b1 := ((decide ((Fu.drift b.Gauges.length hist).getD q 0 < 0)) || (decide (((b.Gauges.length : Nat) : Int) ≤ (Fu.drift b.Gauges.length hist).getD q 0)))) (b2 := (decide ((0 : Int) < (q : Int)))) (v := lv1) (fun _ h => h) rfl rfl rfl (fun hg1 hg2 => q_move rfl) ?_
        refine DW.g2 (b1 := ((decide ((Fu.drift b.Gauges.length hist).getD q 0 < 0)) || (decide (((b.Gauges.length : Nat) : Int) ≤ (Fu.drift b.Gauges.length hist).getD q 0)))) (b2 := (decide ((0 : Int) < (q : Int)))) (v := .int .i64 (q : Int)) (fun _ h => h) rfl rfl rfl (fun hg1 hg2 => q_move rfl) ?_
        refine DW.g2 (b1 := ((decide ((Fu.drift b.Gauges.length hist).getD q 0 < 0)) || (decide (((b.Gauges.length : Nat) : Int) ≤ (Fu.drift b.Gauges.length hist).getD q 0)))) (b2 := (decide ((0 : Int) < (q : Int)))) (v := .pointer (some (Value.at lv1 (q * 1)))) (fun _ h => h) rfl rfl rfl (fun hg1 hg2 => q_indexAddr ((gv_pos hg1).trans (gv_pos hg2)) ((gv_pos hg1).trans (gv_pos hg2)) hlv1.sl Try.underlying29 sz3 (by (try simp [-List.getD_eq_getElem?_getD] at hg1); (try simp [-List.getD_eq_getElem?_getD] at hg2); omega) (by (try simp [-List.getD_eq_getElem?_getD] at hg1); (try simp [-List.getD_eq_getElem?_getD] at hg2); omega) rfl) ?_
        refine DW.g2 (b1 := ((decide ((Fu.drift b.Gauges.length hist).getD q 0 < 0)) || (decide (((b.Gauges.length : Nat) : Int) ≤ (Fu.drift b.Gauges.length hist).getD q 0)))) (b2 := (decide ((0 : Int) < (q : Int)))) (v := .int .i64 ((Fu.drift b.Gauges.length hist).getD q 0)) (fun _ h => h) rfl rfl rfl (fun hg1 hg2 => q_load ((gv_pos hg1).trans (gv_pos hg2)) Try.underlying3 rfl (Cell.repInt hlv1 (by (try simp [-List.getD_eq_getElem?_getD] at hg1); (try simp [-List.getD_eq_getElem?_getD] at hg2); omega))) ?_
        refine DW.g2 (b1 := ((decide ((Fu.drift b.Gauges.length hist).getD q 0 < 0)) || (decide (((b.Gauges.length : Nat) : Int) ≤ (Fu.drift b.Gauges.length hist).getD q 0)))) (b2 := (decide ((0 : Int) < (q : Int)))) (v := .bool (decide ((Fu.drift b.Gauges.length hist).getD q 0 ≤ (Fu.drift b.Gauges.length hist).getD (((q : Int) - 1).toNat) 0))) (fun _ h => h) rfl rfl rfl (fun hg1 hg2 => q_geq ((gv_pos hg1).trans (gv_pos hg2)) ((gv_pos hg1).trans (gv_pos hg2))) ?_
        refine DW.g (b := ((decide ((Fu.drift b.Gauges.length hist).getD q 0 < 0)) || (decide (((b.Gauges.length : Nat) : Int) ≤ (Fu.drift b.Gauges.length hist).getD q 0)))) (v := .bool ((decide ((0 : Int) < (q : Int))) && (decide ((Fu.drift b.Gauges.length hist).getD q 0 ≤ (Fu.drift b.Gauges.length hist).getD (((q : Int) - 1).toNat) 0)))) (fun _ h => h) rfl rfl rfl (fun h => q_pick (gv_pos h) (fun hp => (gv_pos h).trans ((gv_pos hp).trans (pkAndT hp))) (fun hp => pkAndF hp)) ?_
        refine DW.q (v := .bool false) (fun _ h => h) rfl (q_as (v := .bool (((decide ((Fu.drift b.Gauges.length hist).getD q 0 < 0)) || (decide (((b.Gauges.length : Nat) : Int) ≤ (Fu.drift b.Gauges.length hist).getD q 0))) || ((decide ((0 : Int) < (q : Int))) && (decide ((Fu.drift b.Gauges.length hist).getD q 0 ≤ (Fu.drift b.Gauges.length hist).getD (((q : Int) - 1).toNat) 0))))) (q_pick rfl (fun hp => pkOrT hp) (fun hp => (gv_pos hp).trans (pkOrF hp))) (congrArg Value.bool (by have h9 := hrg q (by omega); have h8 := hasc (q - 1) q; first | (simp [-List.getD_eq_getElem?_getD]; omega) | skip))) ?_
        refine DW.nil ?_
        refine Post.then_n ?_
        refine AW.cond (b := false) rfl (fun hc6 => ?_) (fun hc6 => ?_)
        · cases hc6
        · skip
          refine AW.skip ?_
          refine Post.blk_n (Post.then_n ?_)
          refine AW.region ?_
          refine RW.q (v := .int .i64 (q : Int)) rfl (q_move rfl) ?_
          refine RW.q (v := .int .i64 ((q + 1 : Nat) : Int)) rfl (q_add rfl rfl (by omega) (by unfold I64; omega)) ?_
          refine RW.q (v := .int .i64 ((q + 1 : Nat) : Int)) rfl (q_assign rfl) ?_
          refine RW.nil ?_
          exact Post.back (s' := _) (J' := _) (m' := _) (by omega) ⟨q + 1, fd2 || (decide ((Fu.drift b.Gauges.length hist).getD q 0 = gg)), rfl, rfl, rfl, (by omega), (by rw [hfd2, Fu.take_snocI (by omega)]; simp [-List.getD_eq_getElem?_getD, eq_comm])⟩ ⟨rfl, rfl, rfl, rfl, rfl, rfl, rfl, rfl, rfl, trivial⟩ (fun _ h => h)
      · simp [-List.getD_eq_getElem?_getD] at hc5
        refine AW.exit ?_
        refine Post.then_x (Post.then_x (Post.blk_hit (Post.then_n ?_)))
        refine AW.seq ?_
        have hfd := hfd2.trans (congrArg (fun z => decide (gg ∈ z)) (List.take_of_length_le (show (Fu.drift b.Gauges.length hist).length ≤ q by omega)))
        have hB_0 := hB
        have r3_0 := r3
        have r6_0 := r6
        have hh_0 := hh
        have hlv1_0 := hlv1
        refine AW.drawT (J0 := St ⟨w, Φ, []⟩ Φ1 [.blk b1 31 [.string b.Name, v1, .int .i64 b.Cells, v3, v4, v5, v6, v7, v8, v9, .int .i64 b.Err]]) (fun s J => ∃ (lv2 : Value), ∃ (Φ2 : Hp), s = [(1, hv), (2, .int .i64 gg), (3, .pointer (some (⟨b1, 0, none⟩))), (7, .bool true), (8, .int .i64 ((hist.length : Nat) : Int)), (9, .bool nm), (13, lv1), (14, .bool fd2), (15, .int .i64 (q : Int)), (78, .int .i64 (q : Int)), (79, lv1), (80, .int .i64 (((Fu.drift b.Gauges.length hist).length : Nat) : Int)), (81, .bool (decide ((q : Int) < (((Fu.drift b.Gauges.length hist).length : Nat) : Int)))), (16, lv2)] ∧ J = St ⟨w, Φ, []⟩ Φ2 [.blk b1 31 [.string b.Name, v1, .int .i64 b.Cells, v3, v4, v5, v6, v7, v8, v9, .int .i64 b.Err]] ∧ (RepSl Φ2 (Fu.drift b.Gauges.length (hist ++ [[]])) lv2) ∧ (Hp.le Φ1 Φ2)) (.q 0 (.q 2 (.f 1 4 (.f 3 4 (.e 4 (.e 5 (.e 6 (.q 7 .nil)))) (.e 3 (.e 5 (.e 6 (.q 7 .nil))))) (.e 1 (.e 3 (.e 5 (.e 6 (.q 7 .nil)))))))) hmix (by kernel_rfl) ?_ ?_
        · skip
          refine DT.q (v := .agg #[.string b.Name, v1, .int .i64 b.Cells, v3, v4, v5, v6, v7, v8, v9, .int .i64 b.Err]) (fun _ h => h) rfl (q_loadAgg rfl Try.underlying31 rfl sz31 rfl (Cells.blk 0 rfl)) ?_
          refine DT.q (v := hv) (fun _ h => h) rfl (q_move rfl) ?_
          refine DT.fork (fun b2 : Nat => (.slice (some ⟨b2, 0, none⟩) 0 0)) (fun b2 : Nat => (.slice (some ⟨b2, 0, none⟩) 1 1)) (fun b2 => St ⟨w, Φ, []⟩ Φ1 [.row (.slice (some ⟨b2, 0, none⟩) 0 0) 29 1 0 ([]), .blk b1 31 [.string b.Name, v1, .int .i64 b.Cells, v3, v4, v5, v6, v7, v8, v9, .int .i64 b.Err]]) (fun b2 => St ⟨w, Φ, []⟩ Φ1 [.row (.slice (some ⟨b2, 0, none⟩) 1 1) 29 1 1 ([(.slice none 0 0)]), .blk b1 31 [.string b.Name, v1, .int .i64 b.Cells, v3, v4, v5, v6, v7, v8, v9, .int .i64 b.Err]]) rfl rfl trivial trivial (fun _ => (fun _ h => (StP.drop h (by exact .cons _ (.cons_cons _ (.slnil)))))) (fun _ => (fun _ h => (StP.drop h (by exact .cons _ (.cons_cons _ (.slnil)))))) (e_buildSlice0 Try.underlying38 inf29) (e_buildSlice (vals := [(0, (.slice none 0 0))]) (cells := [(.slice none 0 0)]) Try.underlying38 inf29 rfl rfl rfl (by kernel_rfl) rfl) ?_ ?_
          · skip
            intro b2
            obtain ⟨vs1, hvs1l, hvs1c, hvs1r, hvs1o⟩ := hh.vals
            refine DT.fork (fun x : {vq : Value // IsSl vq (0 + hist.length)} => x.1) (fun b3 : Nat => (.slice (some ⟨b3, 0, none⟩) 1 1)) (fun x => St ⟨w, Φ, []⟩ Φ1 [.row x.1 29 1 (0 + hist.length) (([]) ++ vs1), .blk b1 31 [.string b.Name, v1, .int .i64 b.Cells, v3, v4, v5, v6, v7, v8, v9, .int .i64 b.Err]]) (fun b3 => St ⟨w, Φ, []⟩ Φ1 [.row (.slice (some ⟨b3, 0, none⟩) 1 1) 29 1 1 ([(.slice none 0 0)]), .row (.slice (some ⟨b2, 0, none⟩) 0 0) 29 1 0 ([]), .blk b1 31 [.string b.Name, v1, .int .i64 b.Cells, v3, v4, v5, v6, v7, v8, v9, .int .i64 b.Err]]) rfl rfl trivial trivial (fun _ => (fun _ h => (StP.drop h (by exact .cons _ (.cons_cons _ (.slnil)))))) (fun _ => (fun _ h => (StP.drop h (by exact .cons _ (.cons _ (.cons_cons _ (.slnil))))))) (e_appendPhi (yv := hv) 0 rfl rfl rfl hh.sl Try.underlying38 inf29 rfl rfl (by rw [hvs1l, Nat.mul_one]) hvs1c hvs1o (by omega) (by omega) (fun _ => rfl)) (e_buildSlice (vals := [(0, (.slice none 0 0))]) (cells := [(.slice none 0 0)]) Try.underlying38 inf29 rfl rfl rfl (by kernel_rfl) rfl) ?_ ?_
            · skip
              rintro ⟨va1, hva1⟩
              refine DT.eff (fun b3 : Nat => (.slice (some ⟨b3, 0, none⟩) 1 1)) (fun b3 => St ⟨w, Φ, []⟩ Φ1 [.row (.slice (some ⟨b3, 0, none⟩) 1 1) 29 1 1 ([(.slice none 0 0)]), .row va1 29 1 (0 + hist.length) (([]) ++ vs1), .blk b1 31 [.string b.Name, v1, .int .i64 b.Cells, v3, v4, v5, v6, v7, v8, v9, .int .i64 b.Err]]) (fun _ _ => (fun _ h => (StP.drop h (by exact .cons _ (.cons _ (.cons_cons _ (.slnil))))))) rfl (e_buildSlice (vals := [(0, (.slice none 0 0))]) (cells := [(.slice none 0 0)]) Try.underlying38 inf29 rfl rfl rfl (by kernel_rfl) rfl) ?_
              intro b3
              refine DT.eff (fun x : {vq : Value // IsSl vq (0 + hist.length + 1)} => x.1) (fun x => St ⟨w, Φ, []⟩ Φ1 [.row (.slice (some ⟨b3, 0, none⟩) 1 1) 29 1 1 ([(.slice none 0 0)]), .row x.1 29 1 (0 + hist.length + 1) ((([]) ++ vs1) ++ [(.slice none 0 0)]), .blk b1 31 [.string b.Name, v1, .int .i64 b.Cells, v3, v4, v5, v6, v7, v8, v9, .int .i64 b.Err]]) (fun _ _ => (fun _ h => (StP.drop h (by exact .cons _ (.cons _ (.cons_cons _ (.slnil))))))) rfl (e_append 1 rfl rfl rfl Try.underlying38 inf29 rfl rfl rfl (Cells.row0 0 rfl) rfl (by omega) (by omega) (fun _ => rfl)) ?_
              rintro ⟨va2, hva2⟩
              refine DT.eff (fun x : {y : Value × Hp // (fun r Ψ => RepSl Ψ (Fu.drift b.Gauges.length (hist ++ [[]])) r) y.1 y.2 ∧ Hp.le Φ1 y.2} => x.1.1) (fun x => St ⟨w, Φ, []⟩ x.1.2 [.row (.slice (some ⟨b3, 0, none⟩) 1 1) 29 1 1 ([(.slice none 0 0)]), .row va2 29 1 (0 + hist.length + 1) ((([]) ++ vs1) ++ [(.slice none 0 0)]), .blk b1 31 [.string b.Name, v1, .int .i64 b.Cells, v3, v4, v5, v6, v7, v8, v9, .int .i64 b.Err]]) (fun _ x => (fun _ h => StP.know x.2.2 (StP.drop h (by exact .cons _ (.cons _ (.cons_cons _ (.slnil))))))) rfl (e_callS (T := fun r Ψ => RepSl Ψ (Fu.drift b.Gauges.length (hist ++ [[]])) r) (args := #[.agg #[.string b.Name, v1, .int .i64 b.Cells, v3, v4, v5, v6, v7, v8, v9, .int .i64 b.Err], va2]) own16 rfl rfl (fun w1 hw1 => (Drifting_c w1 (Go.K.hp w1) (Hp.le_refl _) (hB.mono hw1.phi) (RowS.lists (n := 0 + hist.length + 1) (vs := (([]) ++ vs1) ++ [(.slice none 0 0)]) (show RowS (Go.K.hp w1) va2 29 1 (0 + hist.length + 1) ((([]) ++ vs1) ++ [(.slice none 0 0)]) from hw1.sat _ (List.mem_of_getElem? (i := 1) rfl)) (by simp [hvs1l]) (by simp) (lists_snoc (by simp [hvs1l]) (fun i hi => by simpa [-List.getD_eq_getElem?_getD] using (hvs1r i hi).mono hw1.phi) repSl_nil) (by simp only [maxSl]; omega))).mono fun _ _ => retS_up (fun _ _ _ hl h => h.mono hl))) ?_
              rintro ⟨⟨lv2, Φ2⟩, hlv2, hlΦ2⟩
              replace hlv2 : RepSl Φ2 (Fu.drift b.Gauges.length (hist ++ [[]])) lv2 := hlv2
              replace hlΦ2 : Hp.le Φ1 Φ2 := hlΦ2
              replace hB := hB.mono hlΦ2
              replace r3 := r3.mono hlΦ2
              replace r6 := r6.mono hlΦ2
              replace hh := hh.mono hlΦ2
              replace hlv1 := hlv1.mono hlΦ2
              refine DT.q (v := lv2) (fun _ h => StP.know hlΦ2 (StP.drop h (by exact .cons _ (.cons _ (.cons_cons _ (.slnil)))))) rfl (q_assign rfl) ?_
              refine DT.nil (s' := _) (J' := _) ⟨lv2, Φ2, rfl, rfl, hlv2, hlΦ2⟩ ⟨rfl, rfl, rfl, rfl, rfl, rfl, rfl, rfl, rfl, rfl, rfl, rfl, rfl, rfl, trivial⟩ (fun _ h => StP.drop h (by exact .cons _ (.cons _ (.cons_cons _ (.slnil)))))
            · skip
              intro b3
              obtain ⟨vs1, hvs1l, hvs1c, hvs1r, hvs1o⟩ := hh.vals
              refine DT.eff (fun x : {vq : Value // IsSl vq (0 + hist.length)} => x.1) (fun x => St ⟨w, Φ, []⟩ Φ1 [.row (.slice (some ⟨b3, 0, none⟩) 1 1) 29 1 1 ([(.slice none 0 0)]), .row x.1 29 1 (0 + hist.length) (([]) ++ vs1), .blk b1 31 [.string b.Name, v1, .int .i64 b.Cells, v3, v4, v5, v6, v7, v8, v9, .int .i64 b.Err]]) (fun _ _ => (fun _ h => (StP.drop h (by exact .cons _ (.cons _ (.cons_cons _ (.slnil))))))) rfl (e_appendPhi (yv := hv) 1 rfl rfl rfl hh.sl Try.underlying38 inf29 rfl rfl (by rw [hvs1l, Nat.mul_one]) hvs1c hvs1o (by omega) (by omega) (fun _ => rfl)) ?_
              rintro ⟨va1, hva1⟩
              refine DT.eff (fun x : {vq : Value // IsSl vq (0 + hist.length + 1)} => x.1) (fun x => St ⟨w, Φ, []⟩ Φ1 [.row (.slice (some ⟨b3, 0, none⟩) 1 1) 29 1 1 ([(.slice none 0 0)]), .row x.1 29 1 (0 + hist.length + 1) ((([]) ++ vs1) ++ [(.slice none 0 0)]), .blk b1 31 [.string b.Name, v1, .int .i64 b.Cells, v3, v4, v5, v6, v7, v8, v9, .int .i64 b.Err]]) (fun _ _ => (fun _ h => (StP.drop h (by exact .cons _ (.cons _ (.cons_cons _ (.slnil))))))) rfl (e_append 1 rfl rfl rfl Try.underlying38 inf29 rfl rfl rfl (Cells.row0 0 rfl) rfl (by omega) (by omega) (fun _ => rfl)) ?_
              rintro ⟨va2, hva2⟩
              refine DT.eff (fun x : {y : Value × Hp // (fun r Ψ => RepSl Ψ (Fu.drift b.Gauges.length (hist ++ [[]])) r) y.1 y.2 ∧ Hp.le Φ1 y.2} => x.1.1) (fun x => St ⟨w, Φ, []⟩ x.1.2 [.row (.slice (some ⟨b3, 0, none⟩) 1 1) 29 1 1 ([(.slice none 0 0)]), .row va2 29 1 (0 + hist.length + 1) ((([]) ++ vs1) ++ [(.slice none 0 0)]), .blk b1 31 [.string b.Name, v1, .int .i64 b.Cells, v3, v4, v5, v6, v7, v8, v9, .int .i64 b.Err]]) (fun _ x => (fun _ h => StP.know x.2.2 (StP.drop h (by exact .cons _ (.cons _ (.cons_cons _ (.slnil))))))) rfl (e_callS (T := fun r Ψ => RepSl Ψ (Fu.drift b.Gauges.length (hist ++ [[]])) r) (args := #[.agg #[.string b.Name, v1, .int .i64 b.Cells, v3, v4, v5, v6, v7, v8, v9, .int .i64 b.Err], va2]) own16 rfl rfl (fun w1 hw1 => (Drifting_c w1 (Go.K.hp w1) (Hp.le_refl _) (hB.mono hw1.phi) (RowS.lists (n := 0 + hist.length + 1) (vs := (([]) ++ vs1) ++ [(.slice none 0 0)]) (show RowS (Go.K.hp w1) va2 29 1 (0 + hist.length + 1) ((([]) ++ vs1) ++ [(.slice none 0 0)]) from hw1.sat _ (List.mem_of_getElem? (i := 1) rfl)) (by simp [hvs1l]) (by simp) (lists_snoc (by simp [hvs1l]) (fun i hi => by simpa [-List.getD_eq_getElem?_getD] using (hvs1r i hi).mono hw1.phi) repSl_nil) (by simp only [maxSl]; omega))).mono fun _ _ => retS_up (fun _ _ _ hl h => h.mono hl))) ?_
              rintro ⟨⟨lv2, Φ2⟩, hlv2, hlΦ2⟩
              replace hlv2 : RepSl Φ2 (Fu.drift b.Gauges.length (hist ++ [[]])) lv2 := hlv2
              replace hlΦ2 : Hp.le Φ1 Φ2 := hlΦ2
              replace hB := hB.mono hlΦ2
              replace r3 := r3.mono hlΦ2
              replace r6 := r6.mono hlΦ2
              replace hh := hh.mono hlΦ2
              replace hlv1 := hlv1.mono hlΦ2
              refine DT.q (v := lv2) (fun _ h => StP.know hlΦ2 (StP.drop h (by exact .cons _ (.cons _ (.cons_cons _ (.slnil)))))) rfl (q_assign rfl) ?_
              refine DT.nil (s' := _) (J' := _) ⟨lv2, Φ2, rfl, rfl, hlv2, hlΦ2⟩ ⟨rfl, rfl, rfl, rfl, rfl, rfl, rfl, rfl, rfl, rfl, rfl, rfl, rfl, rfl, trivial⟩ (fun _ h => StP.drop h (by exact .cons _ (.cons _ (.cons_cons _ (.slnil)))))
          · skip
            intro b2
            refine DT.eff (fun b3 : Nat => (.slice (some ⟨b3, 0, none⟩) 0 0)) (fun b3 => St ⟨w, Φ, []⟩ Φ1 [.row (.slice (some ⟨b3, 0, none⟩) 0 0) 29 1 0 ([]), .row (.slice (some ⟨b2, 0, none⟩) 1 1) 29 1 1 ([(.slice none 0 0)]), .blk b1 31 [.string b.Name, v1, .int .i64 b.Cells, v3, v4, v5, v6, v7, v8, v9, .int .i64 b.Err]]) (fun _ _ => (fun _ h => (StP.drop h (by exact .cons _ (.cons _ (.cons_cons _ (.slnil))))))) rfl (e_buildSlice0 Try.underlying38 inf29) ?_
            intro b3
            obtain ⟨vs1, hvs1l, hvs1c, hvs1r, hvs1o⟩ := hh.vals
            refine DT.eff (fun x : {vq : Value // IsSl vq (0 + hist.length)} => x.1) (fun x => St ⟨w, Φ, []⟩ Φ1 [.row x.1 29 1 (0 + hist.length) (([]) ++ vs1), .row (.slice (some ⟨b2, 0, none⟩) 1 1) 29 1 1 ([(.slice none 0 0)]), .blk b1 31 [.string b.Name, v1, .int .i64 b.Cells, v3, v4, v5, v6, v7, v8, v9, .int .i64 b.Err]]) (fun _ _ => (fun _ h => (StP.drop h (by exact .cons _ (.cons _ (.cons_cons _ (.slnil))))))) rfl (e_appendPhi (yv := hv) 0 rfl rfl rfl hh.sl Try.underlying38 inf29 rfl rfl (by rw [hvs1l, Nat.mul_one]) hvs1c hvs1o (by omega) (by omega) (fun _ => rfl)) ?_
            rintro ⟨va1, hva1⟩
            refine DT.eff (fun x : {vq : Value // IsSl vq (0 + hist.length + 1)} => x.1) (fun x => St ⟨w, Φ, []⟩ Φ1 [.row x.1 29 1 (0 + hist.length + 1) ((([]) ++ vs1) ++ [(.slice none 0 0)]), .row (.slice (some ⟨b2, 0, none⟩) 1 1) 29 1 1 ([(.slice none 0 0)]), .blk b1 31 [.string b.Name, v1, .int .i64 b.Cells, v3, v4, v5, v6, v7, v8, v9, .int .i64 b.Err]]) (fun _ _ => (fun _ h => (StP.drop h (by exact .cons _ (.cons _ (.cons_cons _ (.slnil))))))) rfl (e_append 0 rfl rfl rfl Try.underlying38 inf29 rfl rfl rfl (Cells.row0 1 rfl) rfl (by omega) (by omega) (fun _ => rfl)) ?_
            rintro ⟨va2, hva2⟩
            refine DT.eff (fun x : {y : Value × Hp // (fun r Ψ => RepSl Ψ (Fu.drift b.Gauges.length (hist ++ [[]])) r) y.1 y.2 ∧ Hp.le Φ1 y.2} => x.1.1) (fun x => St ⟨w, Φ, []⟩ x.1.2 [.row va2 29 1 (0 + hist.length + 1) ((([]) ++ vs1) ++ [(.slice none 0 0)]), .row (.slice (some ⟨b2, 0, none⟩) 1 1) 29 1 1 ([(.slice none 0 0)]), .blk b1 31 [.string b.Name, v1, .int .i64 b.Cells, v3, v4, v5, v6, v7, v8, v9, .int .i64 b.Err]]) (fun _ x => (fun _ h => StP.know x.2.2 (StP.drop h (by exact .cons _ (.cons _ (.cons_cons _ (.slnil))))))) rfl (e_callS (T := fun r Ψ => RepSl Ψ (Fu.drift b.Gauges.length (hist ++ [[]])) r) (args := #[.agg #[.string b.Name, v1, .int .i64 b.Cells, v3, v4, v5, v6, v7, v8, v9, .int .i64 b.Err], va2]) own16 rfl rfl (fun w1 hw1 => (Drifting_c w1 (Go.K.hp w1) (Hp.le_refl _) (hB.mono hw1.phi) (RowS.lists (n := 0 + hist.length + 1) (vs := (([]) ++ vs1) ++ [(.slice none 0 0)]) (show RowS (Go.K.hp w1) va2 29 1 (0 + hist.length + 1) ((([]) ++ vs1) ++ [(.slice none 0 0)]) from hw1.sat _ (List.mem_of_getElem? (i := 0) rfl)) (by simp [hvs1l]) (by simp) (lists_snoc (by simp [hvs1l]) (fun i hi => by simpa [-List.getD_eq_getElem?_getD] using (hvs1r i hi).mono hw1.phi) repSl_nil) (by simp only [maxSl]; omega))).mono fun _ _ => retS_up (fun _ _ _ hl h => h.mono hl))) ?_
            rintro ⟨⟨lv2, Φ2⟩, hlv2, hlΦ2⟩
            replace hlv2 : RepSl Φ2 (Fu.drift b.Gauges.length (hist ++ [[]])) lv2 := hlv2
            replace hlΦ2 : Hp.le Φ1 Φ2 := hlΦ2
            replace hB := hB.mono hlΦ2
            replace r3 := r3.mono hlΦ2
            replace r6 := r6.mono hlΦ2
            replace hh := hh.mono hlΦ2
            replace hlv1 := hlv1.mono hlΦ2
            refine DT.q (v := lv2) (fun _ h => StP.know hlΦ2 (StP.drop h (by exact .cons _ (.cons _ (.cons_cons _ (.slnil)))))) rfl (q_assign rfl) ?_
            refine DT.nil (s' := _) (J' := _) ⟨lv2, Φ2, rfl, rfl, hlv2, hlΦ2⟩ ⟨rfl, rfl, rfl, rfl, rfl, rfl, rfl, rfl, rfl, rfl, rfl, rfl, rfl, rfl, trivial⟩ (fun _ h => StP.drop h (by exact .cons _ (.cons _ (.cons_cons _ (.slnil)))))
        rintro _ _ _ ⟨lv2, Φ2, rfl, rfl, hlv2, hlΦ2⟩
        replace hB := hB.mono hlΦ2
        replace r3 := r3.mono hlΦ2
        replace r6 := r6.mono hlΦ2
        replace hh := hh.mono hlΦ2
        replace hlv1 := hlv1.mono hlΦ2
        refine Post.then_n ?_
        refine AW.seq ?_
        have hB_0 := hB
        have r3_0 := r3
        have r6_0 := r6
        have hh_0 := hh
        have hlv1_0 := hlv1
        have hlv2_0 := hlv2
        refine AW.draw (J0 := St ⟨w, Φ, []⟩ Φ2 [.blk b1 31 [.string b.Name, v1, .int .i64 b.Cells, v3, v4, v5, v6, v7, v8, v9, .int .i64 b.Err]]) [.q, .q, .q, .q, .q, .q, .e, .q] [0, 1, 2, 3, 4, 5, 6, 7] hmix (by kernel_rfl) ?_
        refine DW.q (v := .agg #[.string b.Name, v1, .int .i64 b.Cells, v3, v4, v5, v6, v7, v8, v9, .int .i64 b.Err]) (fun _ h => h) rfl (q_loadAgg rfl Try.underlying31 rfl sz31 rfl (Cells.blk 0 rfl)) ?_
        refine DW.q (v := hv) (fun _ h => h) rfl (q_move rfl) ?_
        refine DW.q (v := .int .i64 ((hist.length : Nat) : Int)) (fun _ h => h) rfl (q_move rfl) ?_
        refine DW.q (v := .int .i64 (((hist.length : Nat) : Int) - 3)) (fun _ h => h) rfl (q_sub rfl rfl (by omega) (by unfold I64; omega)) ?_
        refine DW.q (v := .int .i64 (((hist.length - 3) : Nat) : Int)) (fun _ h => h) rfl (q_as (v := .int .i64 (max 0 (((hist.length : Nat) : Int) - 3))) (q_max rfl rfl) (congrArg (Value.int .i64) (by omega))) ?_
        refine DW.q (v := (subSl hv (hist.length - 3) hist.length 1)) (fun _ h => h) rfl (q_sliceL (v := hv) (l := (((hist.length - 3) : Nat) : Int)) rfl rfl hh.sl Try.underlying38 sz29 (by omega) (by omega)) ?_
        refine DW.eff (fun x : {y : Value × Hp // (fun r Ψ => RepSl Ψ (Fu.drift b.Gauges.length ((hist.take hist.length).drop (hist.length - 3))) r) y.1 y.2 ∧ Hp.le Φ2 y.2} => x.1.1) (fun x => St ⟨w, Φ, []⟩ x.1.2 [.blk b1 31 [.string b.Name, v1, .int .i64 b.Cells, v3, v4, v5, v6, v7, v8, v9, .int .i64 b.Err]]) (fun _ x => (fun _ h => StP.know x.2.2 h)) rfl (e_callS (T := fun r Ψ => RepSl Ψ (Fu.drift b.Gauges.length ((hist.take hist.length).drop (hist.length - 3))) r) (args := #[.agg #[.string b.Name, v1, .int .i64 b.Cells, v3, v4, v5, v6, v7, v8, v9, .int .i64 b.Err], (subSl hv (hist.length - 3) hist.length 1)]) own16 rfl rfl (fun w1 hw1 => (Drifting_c w1 (Go.K.hp w1) (Hp.le_refl _) (hB.mono hw1.phi) ((hh.part (l := (hist.length - 3)) (m := hist.length) (by omega) (by omega)).mono hw1.phi)).mono fun _ _ => retS_up (fun _ _ _ hl h => h.mono hl))) ?_
        rintro ⟨⟨lv3, Φ3⟩, hlv3, hlΦ3⟩
        replace hlv3 : RepSl Φ3 (Fu.drift b.Gauges.length ((hist.take hist.length).drop (hist.length - 3))) lv3 := hlv3
        replace hlΦ3 : Hp.le Φ2 Φ3 := hlΦ3
        replace hB := hB.mono hlΦ3
        replace r3 := r3.mono hlΦ3
        replace r6 := r6.mono hlΦ3
        replace hh := hh.mono hlΦ3
        replace hlv1 := hlv1.mono hlΦ3
        replace hlv2 := hlv2.mono hlΦ3
        refine DW.q (v := lv3) (fun _ h => StP.know hlΦ3 h) rfl (q_assign rfl) ?_
        refine DW.nil ?_
        refine Post.then_n ?_
        refine AW.seq ?_
        refine AW.region ?_
        refine RW.q (v := .bool true) rfl (q_move rfl) ?_
        refine RW.q (v := .bool true) rfl (q_move rfl) ?_
        refine RW.gl (v := .bool fd2) rfl rfl rfl (q_move rfl) ?_
        refine RW.gl (v := .bool nm) rfl rfl rfl (q_move rfl) ?_
        refine RW.gl (v := .bool nm) rfl rfl rfl (q_move rfl) ?_
        refine RW.g (b := nm) (v := .int .i64 gg) rfl rfl rfl (fun h => q_move rfl) ?_
        refine RW.g (b := nm) (v := .bool (decide ((0 : Int) ≤ gg))) rfl rfl rfl (fun h => q_geq (gv_pos h) rfl) ?_
        refine RW.gl (v := .bool (nm && (decide ((0 : Int) ≤ gg)))) rfl rfl rfl (q_pick rfl (fun hp => (gv_pos hp).trans (pkAndT hp)) (fun hp => pkAndF hp)) ?_
        refine RW.gl (v := .bool (nm && (decide ((0 : Int) ≤ gg)))) rfl rfl rfl (q_move rfl) ?_
        refine RW.g (b := (nm && (decide ((0 : Int) ≤ gg)))) (v := .int .i64 gg) rfl rfl rfl (fun h => q_move rfl) ?_
        refine RW.g (b := (nm && (decide ((0 : Int) ≤ gg)))) (v := .pointer (some (⟨b1, 6, none⟩))) rfl rfl rfl (fun h => q_fieldAddr rfl Try.underlying31 rfl sz26 rfl) ?_
        refine RW.g (b := (nm && (decide ((0 : Int) ≤ gg)))) (v := v6) rfl rfl rfl (fun h => q_load (gv_pos h) Try.underlying26 rfl (Cell.blk 0 rfl rfl)) ?_
        refine RW.g (b := (nm && (decide ((0 : Int) ≤ gg)))) (v := .int .i64 ((b.Gauges.length : Nat) : Int)) rfl rfl rfl (fun h => q_len_sl (gv_pos h) r6.sl Try.underlying26) ?_
        refine RW.g (b := (nm && (decide ((0 : Int) ≤ gg)))) (v := .bool (decide (gg < ((b.Gauges.length : Nat) : Int)))) rfl rfl rfl (fun h => q_lss (gv_pos h) (gv_pos h)) ?_
        refine RW.gl (v := .bool ((nm && (decide ((0 : Int) ≤ gg))) && (decide (gg < ((b.Gauges.length : Nat) : Int))))) rfl rfl rfl (q_pick rfl (fun hp => (gv_pos hp).trans (pkAndT hp)) (fun hp => pkAndF hp)) ?_
        refine RW.gl (v := .bool true) rfl rfl rfl (q_as (v := .bool (fd2 == ((nm && (decide ((0 : Int) ≤ gg))) && (decide (gg < ((b.Gauges.length : Nat) : Int)))))) (q_eqlB rfl rfl Try.underlying4) (congrArg Value.bool (by rw [hfd, hnd]; exact beq_iff_eq.2 (Fu.drift_mem gg b.Gauges.length hist)))) ?_
        refine RW.q (v := .bool true) rfl (q_pick (t := true) rfl (fun _ => rfl) (fun hp => nomatch hp)) ?_
        refine RW.q (v := .bool true) rfl (q_move rfl) ?_
        refine RW.gl (v := lv2) rfl rfl rfl (q_move rfl) ?_
        refine RW.gl (v := .int .i64 (((Fu.drift b.Gauges.length (hist ++ [[]])).length : Nat) : Int)) rfl rfl rfl (q_len_sl rfl hlv2.sl Try.underlying29) ?_
        refine RW.gl (v := .bool true) rfl rfl rfl (q_as (v := .bool (decide ((((Fu.drift b.Gauges.length (hist ++ [[]])).length : Nat) : Int) = 0))) (q_eql rfl rfl) (congrArg Value.bool (decide_eq_true (by rw [Fu.drift_none]; rfl)))) ?_
        refine RW.q (v := .bool true) rfl (q_pick (t := true) rfl (fun _ => rfl) (fun hp => nomatch hp)) ?_
        refine RW.q (v := .bool true) rfl (q_move rfl) ?_
        refine RW.gl (v := lv1) rfl rfl rfl (q_move rfl) ?_
        refine RW.gl (v := lv3) rfl rfl rfl (q_move rfl) ?_
        refine RW.gl (v := .bool true) rfl rfl rfl (q_as (v := .bool (decide ((Fu.drift b.Gauges.length hist) = (Fu.drift b.Gauges.length ((hist.take hist.length).drop (hist.length - 3)))))) (q_call (args := #[lv1, lv3]) own15 rfl rfl (fun w1 hw1 => Same1_c w1 (Go.K.hp w1) (Hp.le_refl _) (hlv1.mono hw1.phi) (hlv3.mono hw1.phi))) (congrArg Value.bool (decide_eq_true (by rw [Fu.drift_last])))) ?_
        refine RW.q (v := .bool true) rfl (q_pick (t := true) rfl (fun _ => rfl) (fun hp => nomatch hp)) ?_
        refine RW.q (v := .bool true) rfl (q_assign rfl) ?_
        refine RW.nil ?_
        refine Post.then_n ?_
        refine AW.ret ?_
        exact fin_val (v' := .bool true) rfl rfl rfl (rfl)

end Go.Proofs.Ytblfeidlnhdekaa
