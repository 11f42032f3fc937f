/- Walks (part WalkS), printed by walk2.py. Conditions: those of each theorem. -/
import Derived.Test.YtblfeidlnhdekaaXWalkR
namespace Go.Proofs.Ytblfeidlnhdekaa
open Go Go.K Go.RowKit
set_option maxRecDepth 8000
set_option maxHeartbeats 1000000
attribute [local irreducible] AW RW DW Post Qt
set_option maxRecDepth 8000 in
set_option maxHeartbeats 4000000 in
theorem hasQueue_c (w : World) (Φ : Hp) (hΦ : Hp.le Φ (hp w)) {y : Bt.Hull} {ycs : List Value} (yH : RepV Φ y ycs) {z : Bt.State} {zcs : List Value} (tH : RepV Φ z zcs) :
  Calls Try.prog 66 #[.agg ycs.toArray, .agg zcs.toArray] w fun e w' => e = .returned (.bool (decide (Ft.HasQ y.Queue z.Queue))) ∧ Bel w.heap.size w w' := by
 obtain ⟨yv1, yv2, yv3, yhcs, yhw, yr1, yr2, yr3⟩ := (show Rep.rep Φ y ycs from yH)
 subst yhcs
 have ym1 : y.Vol.length * 16 ≤ 140737488355328 := yr1.max
 have ym2 : y.Queue.length * 32 ≤ 140737488355328 := yr2.max
 have ym3 : y.Links.length * 40 ≤ 140737488355328 := yr3.max
 obtain ⟨tv1, tv2, tv3, tv4, tv5, tv6, hzcs, hzw, tr1, tr2, tr3, tr4, tr5, tr6⟩ := (show Rep.rep Φ z zcs from tH)
 subst hzcs
 have ztm : z.Own.length * 24 ≤ 140737488355328 := tr1.max
 have zqm : z.Queue.length * 40 ≤ 140737488355328 := tr3.max
 have zgm : z.Gates.length * 24 ≤ 140737488355328 := tr4.max
 refine calls_of_AW (args := [.agg #[iV y.Hour, yv1, yv2, yv3], .agg (cl70 z tv1 tv2 tv3 tv4 tv5 tv6).toArray]) Try.func66 rfl (Nat.le_of_ble_eq_true rfl) (St ⟨w, Φ, []⟩ Φ []) (StP.init w Φ hΦ []) ?_
 show AW Try.prog 76 [] _ _ _ [(0, .agg #[iV y.Hour, yv1, yv2, yv3]), (1, .agg (cl70 z tv1 tv2 tv3 tv4 tv5 tv6).toArray)] _
 refine g2 ?_
 refine RW.bxA rfl rfl fun b1 => ?_
 refine RW.bxA rfl rfl fun b2 => ?_
 refine g5 ?_
 refine RW.eff (fun b3 : Nat => .map (some b3)) (fun b3 => St ⟨w, Φ, []⟩ Φ [.kmap kKey (Value.int .i64) b3 (fun _ => none), .blk b2 70 (cl70 z tv1 tv2 tv3 tv4 tv5 tv6), .blk b1 36 [iV y.Hour, yv1, yv2, yv3]]) rfl (e_kmake kKey (Value.int .i64)) ?_
 intro b3
 refine RW.q (v := .map (some b3)) rfl (q_assign rfl) (RW.nil (Post.then_n (AW.seq (AW.seq (AW.region (RW.q (v := pV b2 3) rfl (q_fieldAddr rfl uT70 rfl sz67 rfl) (RW.q (v := tv3) rfl (q_load rfl uT67 rfl (Cell.blk 1 rfl rfl)) (RW.q (v := iV (z.Queue.length : Int)) rfl (q_len_sl rfl tr3.sl uT67) (RW.q (v := iV 0) rfl (q_move rfl) ?_)))))))))
 refine RW.nil (Post.then_n (AW.block (AW.loop (fun s J m => ∃ (k : Nat), s = [(2, pV b1 0), (3, pV b2 0), (5, .map (some b3)), (17, tv3), (18, iV (z.Queue.length : Int)), (19, iV (k : Int))] ∧ J = St ⟨w, Φ, []⟩ Φ [.kmap kKey (Value.int .i64) b3 (Ft.sumM z.Queue k), .blk b2 70 (cl70 z tv1 tv2 tv3 tv4 tv5 tv6), .blk b1 36 [iV y.Hour, yv1, yv2, yv3]] ∧ m = z.Queue.length - k ∧ (k ≤ z.Queue.length)) (s0 := _) (J1 := _) (m0 := _) ⟨0, rfl, rfl, rfl, (by omega)⟩ ⟨rfl, rfl, rfl, rfl, rfl, rfl, trivial⟩ (fun _ h => h) ?_)))
 rintro _ _ _ _ ⟨k, rfl, rfl, rfl, hk⟩
 refine g6 ?_
 refine AW.cond rfl (fun hc1 => ?_) fun hc1 => ?_
 ·
  simp [-List.getD_eq_getElem?_getD, -Array.length_toList] at hc1
  refine g5 ?_
  refine AW.region (RW.q (v := .pointer (some (Value.at tv3 (k * 3)))) rfl (q_indexAddr rfl rfl tr3.sl uT67 sz152 (by omega) (by omega) rfl) ?_)
  obtain ⟨cv1, hcr1, hcc1⟩ := RepSl.whole (k := k) tr3 (by omega)
  obtain ⟨sv1, hcE1, hcw1, hsv1⟩ := (show Rep.rep _ _ _ from hcr1)
  subst hcE1
  refine RW.q (v := .agg #[iV ((z.Queue.getD k default).At), iV ((z.Queue.getD k default).To), sv1]) rfl (q_loadAgg rfl uT152 rfl sz152 rfl (Cells.phiK hcc1)) (RW.eff (fun b4 : Nat => pV b4 0) (fun b4 => St ⟨w, Φ, []⟩ Φ [.blk b4 152 [iV 0, iV 0, nS], .kmap kKey (Value.int .i64) b3 (Ft.sumM z.Queue k), .blk b2 70 (cl70 z tv1 tv2 tv3 tv4 tv5 tv6), .blk b1 36 [iV y.Hour, yv1, yv2, yv3]]) rfl (e_alloc zero152) ?_)
  intro b4
  refine RW.effn (J' := St ⟨w, Φ, []⟩ Φ [.blk b4 152 [iV ((z.Queue.getD k default).At), iV ((z.Queue.getD k default).To), sv1], .kmap kKey (Value.int .i64) b3 (Ft.sumM z.Queue k), .blk b2 70 (cl70 z tv1 tv2 tv3 tv4 tv5 tv6), .blk b1 36 [iV y.Hour, yv1, yv2, yv3]]) (e_store (v := .agg #[iV ((z.Queue.getD k default).At), iV ((z.Queue.getD k default).To), sv1]) 0 rfl rfl rfl sz152 rfl (List.all_eq_true.2 (fun u hu => Rep.one (show Rep.rep _ _ _ from hcr1) u hu)) rfl rfl rfl) ?_
  refine g8 ?_
  refine RW.q (v := .agg #[iV ((z.Queue.getD k default).At), iV ((z.Queue.getD k default).To)]) rfl (q_build (vals := [(0, iV ((z.Queue.getD k default).At)), (1, iV ((z.Queue.getD k default).To))]) zero154 uT154 places154 rfl rfl) (RW.eff (fun b5 : Nat => pV b5 0) (fun b5 => St ⟨w, Φ, []⟩ Φ [.blk b5 154 [iV 0, iV 0], .blk b4 152 [iV ((z.Queue.getD k default).At), iV ((z.Queue.getD k default).To), sv1], .kmap kKey (Value.int .i64) b3 (Ft.sumM z.Queue k), .blk b2 70 (cl70 z tv1 tv2 tv3 tv4 tv5 tv6), .blk b1 36 [iV y.Hour, yv1, yv2, yv3]]) rfl (e_alloc zero154) ?_)
  intro b5
  refine RW.effn (J' := St ⟨w, Φ, []⟩ Φ [.blk b5 154 [iV ((z.Queue.getD k default).At), iV ((z.Queue.getD k default).To)], .blk b4 152 [iV ((z.Queue.getD k default).At), iV ((z.Queue.getD k default).To), sv1], .kmap kKey (Value.int .i64) b3 (Ft.sumM z.Queue k), .blk b2 70 (cl70 z tv1 tv2 tv3 tv4 tv5 tv6), .blk b1 36 [iV y.Hour, yv1, yv2, yv3]]) (e_store (v := .agg #[iV ((z.Queue.getD k default).At), iV ((z.Queue.getD k default).To)]) 0 rfl rfl rfl sz154 rfl rfl rfl rfl rfl) ?_
  refine g2 ?_
  have hkg : kKey.good ((z.Queue.getD k default).At, (z.Queue.getD k default).To) := ⟨hcw1.1, hcw1.2⟩
  have hs9 : I64 (((Ft.sumM z.Queue k) ((z.Queue.getD k default).At, (z.Queue.getD k default).To)).getD 0) := by cases h9 : (Ft.sumM z.Queue k) ((z.Queue.getD k default).At, (z.Queue.getD k default).To) with | none => (unfold I64; decide) | some x9 => exact Ft.sumM_rng _ _ _ _ h9
  have ht9 : I64 (Ft.tot (z.Queue.getD k default).Part) := Ft.totTo_rng _ _
  have yH_0 := yH
  have yr1_0 := yr1
  have yr2_0 := yr2
  have yr3_0 := yr3
  have tH_0 := tH
  have tr1_0 := tr1
  have tr2_0 := tr2
  have tr3_0 := tr3
  have tr4_0 := tr4
  have tr5_0 := tr5
  have tr6_0 := tr6
  have hcr1_0 := hcr1
  have hsv1_0 := hsv1
  refine AW.draw (J0 := St ⟨w, Φ, []⟩ Φ [.blk b5 154 [iV ((z.Queue.getD k default).At), iV ((z.Queue.getD k default).To)], .blk b4 152 [iV ((z.Queue.getD k default).At), iV ((z.Queue.getD k default).To), sv1], .kmap kKey (Value.int .i64) b3 (Ft.sumM z.Queue k), .blk b2 70 (cl70 z tv1 tv2 tv3 tv4 tv5 tv6), .blk b1 36 [iV y.Hour, yv1, yv2, yv3]]) [.q, .q, .q, .q, .q, .q, .q, .q, .q, .e] [0, 1, 2, 3, 4, 5, 6, 7, 8, 9] hmix (by kernel_rfl) (DW.q (v := .map (some b3)) (fun _ h => h) rfl (q_move rfl) (DW.q (v := .agg #[iV ((z.Queue.getD k default).At), iV ((z.Queue.getD k default).To)]) (fun _ h => h) rfl (q_loadAgg rfl uT154 rfl sz154 rfl (Cells.blk 0 rfl)) (DW.q (v := .map (some b3)) (fun _ h => h) rfl (q_move rfl) (DW.q (v := .agg #[iV ((z.Queue.getD k default).At), iV ((z.Queue.getD k default).To)]) (fun _ h => h) rfl (q_loadAgg rfl uT154 rfl sz154 rfl (Cells.blk 0 rfl)) (DW.q (v := iV (((Ft.sumM z.Queue k) ((z.Queue.getD k default).At, (z.Queue.getD k default).To)).getD 0)) (fun _ h => h) rfl (q_kLook1 (L := kKey) (ew := (Value.int .i64)) (M := Ft.sumM z.Queue k) (k := ((z.Queue.getD k default).At, (z.Queue.getD k default).To)) (d := 0) 2 rfl rfl rfl (by assumption) uT150 zero3) ?_)))))
  refine g2 ?_
  refine DW.q (v := iV (Ft.tot ((z.Queue.getD k default).Part))) (fun _ h => h) rfl (q_call (args := #[sv1]) own64 rfl rfl (fun w1 hw1 => Total_c w1 (Go.K.hp w1) (Hp.le_refl _) (hsv1.mono hw1.phi))) (DW.q (v := iV (Fu.addS (((Ft.sumM z.Queue k) ((z.Queue.getD k default).At, (z.Queue.getD k default).To)).getD 0) (Ft.tot ((z.Queue.getD k default).Part)))) (fun _ h => h) rfl (q_call (args := #[iV (((Ft.sumM z.Queue k) ((z.Queue.getD k default).At, (z.Queue.getD k default).To)).getD 0), iV (Ft.tot ((z.Queue.getD k default).Part))]) own29 rfl rfl (fun w1 hw1 => Add_c w1 (Go.K.hp w1) (Hp.le_refl _) hs9 ht9)) (DW.effn (J' := St ⟨w, Φ, []⟩ Φ [.blk b5 154 [iV ((z.Queue.getD k default).At), iV ((z.Queue.getD k default).To)], .blk b4 152 [iV ((z.Queue.getD k default).At), iV ((z.Queue.getD k default).To), sv1], .kmap kKey (Value.int .i64) b3 (fun j => if j = ((z.Queue.getD k default).At, (z.Queue.getD k default).To) then some (Fu.addS (((Ft.sumM z.Queue k) ((z.Queue.getD k default).At, (z.Queue.getD k default).To)).getD 0) (Ft.tot ((z.Queue.getD k default).Part))) else (Ft.sumM z.Queue k) j), .blk b2 70 (cl70 z tv1 tv2 tv3 tv4 tv5 tv6), .blk b1 36 [iV y.Hour, yv1, yv2, yv3]]) (fun h => absurd rfl h) (e_kPut (L := kKey) (ew := (Value.int .i64)) (M := Ft.sumM z.Queue k) (k := ((z.Queue.getD k default).At, (z.Queue.getD k default).To)) (v := Fu.addS (((Ft.sumM z.Queue k) ((z.Queue.getD k default).At, (z.Queue.getD k default).To)).getD 0) (Ft.tot ((z.Queue.getD k default).Part))) 2 rfl rfl rfl rfl (by assumption) uT150 rfl) ?_))
  refine g7 ?_
  exact Post.back (s' := _) (J' := _) (m' := _) (by omega) ⟨k + 1, rfl, rfl, rfl, (by omega)⟩ ⟨rfl, rfl, rfl, rfl, rfl, rfl, trivial⟩ (fun _ h => StP.drop h (by exact .cons _ (.cons _ (.cons_cons _ (.cons_cons _ (.cons_cons _ (.slnil)))))))
 ·
  simp [-List.getD_eq_getElem?_getD, -Array.length_toList] at hc1
  refine g7 ?_
  refine RW.eff (fun b6 : Nat => .map (some b6)) (fun b6 => St ⟨w, Φ, []⟩ Φ [.kmap kKey Value.bool b6 (fun _ => none), .kmap kKey (Value.int .i64) b3 (Ft.sumM z.Queue k), .blk b2 70 (cl70 z tv1 tv2 tv3 tv4 tv5 tv6), .blk b1 36 [iV y.Hour, yv1, yv2, yv3]]) rfl (e_kmake kKey Value.bool) ?_
  intro b6
  refine g13 ?_
  refine AW.loop (fun s J m => ∃ (k : Nat), s = [(5, .map (some b3)), (9, .map (some b6)), (40, yv2), (41, iV (y.Queue.length : Int)), (42, iV (k : Int))] ∧ J = St ⟨w, Φ, []⟩ Φ [.kmap kKey Value.bool b6 (Ft.lisM y.Queue k), .kmap kKey (Value.int .i64) b3 (Ft.sumM z.Queue z.Queue.length), .blk b2 70 (cl70 z tv1 tv2 tv3 tv4 tv5 tv6), .blk b1 36 [iV y.Hour, yv1, yv2, yv3]] ∧ m = y.Queue.length - k ∧ (k ≤ y.Queue.length) ∧ (∀ j, j < k → (y.Queue.getD j default).Vol.Lo ≤ ((Ft.sumM z.Queue z.Queue.length) ((y.Queue.getD j default).At, (y.Queue.getD j default).To)).getD 0 ∧ ((Ft.sumM z.Queue z.Queue.length) ((y.Queue.getD j default).At, (y.Queue.getD j default).To)).getD 0 ≤ (y.Queue.getD j default).Vol.Hi)) (s0 := _) (J1 := _) (m0 := _) ⟨0, rfl, rfl, rfl, (by omega), (fun j hj => absurd hj (by omega))⟩ ⟨rfl, rfl, rfl, rfl, rfl, trivial⟩ (fun _ h => by have hke : k = z.Queue.length := (by omega); rw [hke] at h; exact h) ?_
  rintro _ _ _ _ ⟨k, rfl, rfl, rfl, hk2, hall⟩
  refine g6 ?_
  refine AW.cond rfl (fun hc2 => ?_) fun hc2 => ?_
  ·
   simp [-List.getD_eq_getElem?_getD, -Array.length_toList] at hc2
   refine g6 ?_
   refine RW.q (v := .pointer (some (Value.at yv2 (k * 4)))) rfl (q_indexAddr rfl rfl yr2.sl uT33 sz93 (by omega) (by omega) rfl) (RW.q (v := .agg (cl93 (y.Queue.getD k default)).toArray) rfl (q_loadAgg rfl uT93 rfl sz93 rfl (Cells.repE yr2 (by omega) rfl)) ?_)
   refine RW.alc rfl fun b7 => ?_
   refine RW.effn (J' := St ⟨w, Φ, []⟩ Φ [.blk b7 93 (cl93 (y.Queue.getD k default)), .kmap kKey Value.bool b6 (Ft.lisM y.Queue k), .kmap kKey (Value.int .i64) b3 (Ft.sumM z.Queue z.Queue.length), .blk b2 70 (cl70 z tv1 tv2 tv3 tv4 tv5 tv6), .blk b1 36 [iV y.Hour, yv1, yv2, yv3]]) (e_store (v := .agg (cl93 (y.Queue.getD k default)).toArray) 0 rfl rfl rfl sz93 rfl rfl rfl rfl rfl) ?_
   refine g8 ?_
   refine RW.q (v := .agg #[iV ((y.Queue.getD k default).At), iV ((y.Queue.getD k default).To)]) rfl (q_build (vals := [(0, iV ((y.Queue.getD k default).At)), (1, iV ((y.Queue.getD k default).To))]) zero154 uT154 places154 rfl rfl) (RW.eff (fun b8 : Nat => pV b8 0) (fun b8 => St ⟨w, Φ, []⟩ Φ [.blk b8 154 [iV 0, iV 0], .blk b7 93 (cl93 (y.Queue.getD k default)), .kmap kKey Value.bool b6 (Ft.lisM y.Queue k), .kmap kKey (Value.int .i64) b3 (Ft.sumM z.Queue z.Queue.length), .blk b2 70 (cl70 z tv1 tv2 tv3 tv4 tv5 tv6), .blk b1 36 [iV y.Hour, yv1, yv2, yv3]]) rfl (e_alloc zero154) ?_)
   intro b8
   refine RW.effn (J' := St ⟨w, Φ, []⟩ Φ [.blk b8 154 [iV ((y.Queue.getD k default).At), iV ((y.Queue.getD k default).To)], .blk b7 93 (cl93 (y.Queue.getD k default)), .kmap kKey Value.bool b6 (Ft.lisM y.Queue k), .kmap kKey (Value.int .i64) b3 (Ft.sumM z.Queue z.Queue.length), .blk b2 70 (cl70 z tv1 tv2 tv3 tv4 tv5 tv6), .blk b1 36 [iV y.Hour, yv1, yv2, yv3]]) (e_store (v := .agg #[iV ((y.Queue.getD k default).At), iV ((y.Queue.getD k default).To)]) 0 rfl rfl rfl sz154 rfl rfl rfl rfl rfl) ?_
   refine g4 ?_
   have hyw : I64 (y.Queue.getD k default).At ∧ I64 (y.Queue.getD k default).To ∧ I64 (y.Queue.getD k default).Vol.Lo ∧ I64 (y.Queue.getD k default).Vol.Hi := yr2.wfE _ (Fu.getD_mem (by omega))
   have hkg : kKey.good ((y.Queue.getD k default).At, (y.Queue.getD k default).To) := ⟨hyw.1, hyw.2.1⟩
   refine AW.draw (J0 := St ⟨w, Φ, []⟩ Φ [.blk b8 154 [iV ((y.Queue.getD k default).At), iV ((y.Queue.getD k default).To)], .blk b7 93 (cl93 (y.Queue.getD k default)), .kmap kKey Value.bool b6 (Ft.lisM y.Queue k), .kmap kKey (Value.int .i64) b3 (Ft.sumM z.Queue z.Queue.length), .blk b2 70 (cl70 z tv1 tv2 tv3 tv4 tv5 tv6), .blk b1 36 [iV y.Hour, yv1, yv2, yv3]]) [.q, .q, .q, .q, .q, .q, .q] [0, 1, 2, 3, 4, 5, 6] hmix (by kernel_rfl) (DW.q (v := pV b7 2) (fun _ h => h) rfl (q_fieldAddr rfl uT93 rfl sz42 rfl) (DW.q (v := .agg #[iV ((y.Queue.getD k default).Vol.Lo), iV ((y.Queue.getD k default).Vol.Hi)]) (fun _ h => h) rfl (q_loadAgg rfl uT42 rfl sz42 rfl (Cells.blkP (off := 2) 1 rfl (fun j u hu => (by rcases j with _ | (_ | _) <;> first | exact hu | cases hu)))) (DW.q (v := .map (some b3)) (fun _ h => h) rfl (q_move rfl) (DW.q (v := .agg #[iV ((y.Queue.getD k default).At), iV ((y.Queue.getD k default).To)]) (fun _ h => h) rfl (q_loadAgg rfl uT154 rfl sz154 rfl (Cells.blk 0 rfl)) (DW.q (v := iV (((Ft.sumM z.Queue z.Queue.length) ((y.Queue.getD k default).At, (y.Queue.getD k default).To)).getD 0)) (fun _ h => h) rfl (q_kLook1 (L := kKey) (ew := (Value.int .i64)) (M := Ft.sumM z.Queue z.Queue.length) (k := ((y.Queue.getD k default).At, (y.Queue.getD k default).To)) (d := 0) 3 rfl rfl rfl (by assumption) uT150 zero3) (DW.q (v := .bool (decide ((y.Queue.getD k default).Vol.Lo ≤ ((Ft.sumM z.Queue z.Queue.length) ((y.Queue.getD k default).At, (y.Queue.getD k default).To)).getD 0) && decide (((Ft.sumM z.Queue z.Queue.length) ((y.Queue.getD k default).At, (y.Queue.getD k default).To)).getD 0 ≤ (y.Queue.getD k default).Vol.Hi))) (fun _ h => h) rfl (q_call (args := #[.agg #[iV ((y.Queue.getD k default).Vol.Lo), iV ((y.Queue.getD k default).Vol.Hi)], iV (((Ft.sumM z.Queue z.Queue.length) ((y.Queue.getD k default).At, (y.Queue.getD k default).To)).getD 0)]) own21 rfl rfl (fun w1 hw1 => sHas_c w1 (Go.K.hp w1) (Hp.le_refl _))) ?_))))))
   refine g3 ?_
   refine AW.cond rfl (fun hc3 => ?_) fun hc3 => ?_
   ·
    simp [-List.getD_eq_getElem?_getD, -Array.length_toList] at hc3
    refine g12 ?_
    exact fin_val (v' := .bool false) rfl rfl rfl (congrArg Value.bool (decide_eq_false (fun h9 => by have h8 := h9.1 k (by omega); omega)).symm)
   ·
    simp [-List.getD_eq_getElem?_getD, -Array.length_toList] at hc3
    refine AW.skip (Post.then_n (AW.region (RW.q (v := .map (some b6)) rfl (q_move rfl) (RW.q (v := .agg #[iV ((y.Queue.getD k default).At), iV ((y.Queue.getD k default).To)]) rfl (q_loadAgg rfl uT154 rfl sz154 rfl (Cells.blk 0 rfl)) (RW.effn (J' := St ⟨w, Φ, []⟩ Φ [.blk b8 154 [iV ((y.Queue.getD k default).At), iV ((y.Queue.getD k default).To)], .blk b7 93 (cl93 (y.Queue.getD k default)), .kmap kKey Value.bool b6 (fun j => if j = ((y.Queue.getD k default).At, (y.Queue.getD k default).To) then some true else (Ft.lisM y.Queue k) j), .kmap kKey (Value.int .i64) b3 (Ft.sumM z.Queue z.Queue.length), .blk b2 70 (cl70 z tv1 tv2 tv3 tv4 tv5 tv6), .blk b1 36 [iV y.Hour, yv1, yv2, yv3]]) (e_kPut (L := kKey) (ew := Value.bool) (M := Ft.lisM y.Queue k) (k := ((y.Queue.getD k default).At, (y.Queue.getD k default).To)) (v := true) 2 rfl rfl rfl rfl (by assumption) uT155 rfl) ?_)))))
    refine g7 ?_
    exact Post.back (s' := _) (J' := _) (m' := _) (by omega) ⟨k + 1, rfl, rfl, rfl, (by omega), (Fu.lt_succ hall hc3)⟩ ⟨rfl, rfl, rfl, rfl, rfl, trivial⟩ (fun _ h => StP.drop h (by exact .cons _ (.cons _ (.cons_cons _ (.cons_cons _ (.cons_cons _ (.cons_cons _ (.slnil))))))))
  ·
   simp [-List.getD_eq_getElem?_getD, -Array.length_toList] at hc2
   refine g7 ?_
   rw [show k = y.Queue.length by omega]
   refine g2 ?_
   refine RW.eff (fun x : {q : Nat × Array MapEntry × Nat // KM kKey (Value.int .i64) q.2.1 q.2.2 (Ft.sumM z.Queue z.Queue.length)} => .pointer (some ⟨x.1.1, 0, none⟩)) (fun x => St ⟨w, Φ, []⟩ Φ [.obj x.1.1 (.mapIter (some b3) x.1.2.2 #[] x.1.2.2), .kmap kKey Value.bool b6 (Ft.lisM y.Queue y.Queue.length), .obj b3 (.map x.1.2.1 x.1.2.2), .blk b2 70 (cl70 z tv1 tv2 tv3 tv4 tv5 tv6), .blk b1 36 [iV y.Hour, yv1, yv2, yv3]]) rfl (e_krange (L := kKey) (ew := (Value.int .i64)) (M := Ft.sumM z.Queue z.Queue.length) 1 rfl rfl uT150) ?_
   rintro ⟨⟨it1, es1, ck1⟩, hkm1⟩
   replace hkm1 : KM kKey (Value.int .i64) es1 ck1 (Ft.sumM z.Queue z.Queue.length) := hkm1
   refine g3 ?_
   refine AW.loop (fun s J m => ∃ (seen : Array Nat), s = [(9, .map (some b6)), (62, pV it1 0)] ∧ J = St ⟨w, Φ, []⟩ Φ [.obj it1 (.mapIter (some b3) ck1 seen ck1), .kmap kKey Value.bool b6 (Ft.lisM y.Queue y.Queue.length), .obj b3 (.map es1 ck1), .blk b2 70 (cl70 z tv1 tv2 tv3 tv4 tv5 tv6), .blk b1 36 [iV y.Hour, yv1, yv2, yv3]] ∧ m = Ft.left es1 seen ∧ (Ft.SeenOk es1 (Ft.sumM z.Queue z.Queue.length) (Ft.lisM y.Queue y.Queue.length) seen)) (s0 := _) (J1 := _) (m0 := _) ⟨#[], rfl, rfl, rfl, Ft.SeenOk.start⟩ ⟨rfl, rfl, trivial⟩ (fun _ h => h) ?_
   rintro _ _ _ _ ⟨seen, rfl, rfl, rfl, hso⟩
   refine g1 ?_
   refine AW.nextR (L := kKey) (ew := (Value.int .i64)) (M := Ft.sumM z.Queue z.Queue.length) 0 2 rfl rfl rfl hkm1 rfl rfl (C' := fun bn => [.obj it1 (.mapIter (some b3) ck1 (seen.push bn) ck1), .kmap kKey Value.bool b6 (Ft.lisM y.Queue y.Queue.length), .obj b3 (.map es1 ck1), .blk b2 70 (cl70 z tv1 tv2 tv3 tv4 tv5 tv6), .blk b1 36 [iV y.Hour, yv1, yv2, yv3]]) (fun _ => rfl) ?_ ?_
   ·
    intro hall9
    refine g2 ?_
    refine AW.condF rfl ?_
    refine g11 ?_
    have hE : ∀ j, j < y.Queue.length → (y.Queue.getD j default).Vol.Lo ≤ ((Ft.sumM z.Queue z.Queue.length) ((y.Queue.getD j default).At, (y.Queue.getD j default).To)).getD 0 ∧ ((Ft.sumM z.Queue z.Queue.length) ((y.Queue.getD j default).At, (y.Queue.getD j default).To)).getD 0 ≤ (y.Queue.getD j default).Vol.Hi := fun j hj => hall j (by omega)
    exact fin_val (v' := .bool true) rfl rfl rfl (congrArg Value.bool (decide_eq_true (show Ft.HasQ y.Queue z.Queue from ⟨hE, hso.all hkm1 hall9⟩)).symm)
   ·
    intro e kk xx he hns hgk hek hMk hev
    refine g2 ?_
    refine AW.condT rfl ?_
    refine g5 ?_
    refine RW.q (v := .tuple #[.agg #[iV kk.1, iV kk.2], iV xx]) rfl (q_kentry2 (L := kKey) (ew := (Value.int .i64)) (M := Ft.sumM z.Queue z.Queue.length) (k := kk) (v := xx) 0 2 rfl rfl rfl hkm1 he hek hev) ?_
    refine g2 ?_
    refine RW.eff (fun b9 : Nat => pV b9 0) (fun b9 => St ⟨w, Φ, []⟩ Φ [.blk b9 154 [iV 0, iV 0], .obj it1 (.mapIter (some b3) ck1 (seen.push e.born) ck1), .kmap kKey Value.bool b6 (Ft.lisM y.Queue y.Queue.length), .obj b3 (.map es1 ck1), .blk b2 70 (cl70 z tv1 tv2 tv3 tv4 tv5 tv6), .blk b1 36 [iV y.Hour, yv1, yv2, yv3]]) rfl (e_alloc zero154) ?_
    intro b9
    refine RW.effn (J' := St ⟨w, Φ, []⟩ Φ [.blk b9 154 [iV kk.1, iV kk.2], .obj it1 (.mapIter (some b3) ck1 (seen.push e.born) ck1), .kmap kKey Value.bool b6 (Ft.lisM y.Queue y.Queue.length), .obj b3 (.map es1 ck1), .blk b2 70 (cl70 z tv1 tv2 tv3 tv4 tv5 tv6), .blk b1 36 [iV y.Hour, yv1, yv2, yv3]]) (e_store (v := .agg #[iV kk.1, iV kk.2]) 0 rfl rfl rfl sz154 rfl rfl rfl rfl rfl) ?_
    refine g4 ?_
    refine AW.region (RW.q (v := .map (some b6)) rfl (q_move rfl) (RW.q (v := .agg #[iV kk.1, iV kk.2]) rfl (q_loadAgg rfl uT154 rfl sz154 rfl (Cells.blk 0 rfl)) (RW.q (v := .bool (((Ft.lisM y.Queue y.Queue.length) (kk.1, kk.2)).getD false)) rfl (q_kLook1 (L := kKey) (ew := Value.bool) (M := Ft.lisM y.Queue y.Queue.length) (k := (kk.1, kk.2)) (d := false) 2 rfl rfl rfl hgk uT155 zero4) ?_)))
    refine g4 ?_
    obtain ⟨qb1, hqb1⟩ : ∃ qz : Bool, ((!(((Ft.lisM y.Queue y.Queue.length) (kk.1, kk.2)).getD false)) && (!decide (xx = 0))) = qz := ⟨_, rfl⟩
    refine RW.q (v := .bool qb1) rfl (q_as (v := .bool ((!(((Ft.lisM y.Queue y.Queue.length) (kk.1, kk.2)).getD false)) && (!decide (xx = 0)))) (q_pick rfl (fun hp => (gv_pos hp).trans (pkAndT hp)) (fun hp => pkAndF hp)) (congrArg Value.bool hqb1)) ?_
    subst hqb1
    refine g2 ?_
    refine AW.cond rfl (fun hc6 => ?_) fun hc6 => ?_
    ·
     simp [-List.getD_eq_getElem?_getD, -Array.length_toList] at hc6
     refine g10 ?_
     have hbad : ¬ Ft.HasQ y.Queue z.Queue := fun h9 => by
      have h8 := h9.2 _ _ hMk
      rcases h8 with h8 | h8
      ·
       exact Bool.noConfusion (h8.symm.trans hc6.1)
      ·
       exact hc6.2 h8
     exact fin_val (v' := .bool false) rfl rfl rfl (congrArg Value.bool (decide_eq_false hbad).symm)
    ·
     simp [-List.getD_eq_getElem?_getD, -Array.length_toList] at hc6
     refine g2 ?_
     exact Post.back (s' := _) (J' := _) (m' := _) (Ft.left_lt he hns) ⟨seen.push e.born, rfl, rfl, rfl, (hso.next hkm1 he hek hMk (by cases h8 : ((Ft.lisM y.Queue y.Queue.length) kk).getD false; exact Or.inr (hc6 h8); exact Or.inl rfl))⟩ ⟨rfl, rfl, trivial⟩ (fun _ h => StP.drop h (by exact .cons _ (.cons_cons _ (.cons_cons _ (.cons_cons _ (.cons_cons _ (.cons_cons _ (.slnil))))))))
def hasB0 (b : Bt.Basin) (y : Bt.Hull) (z : Bt.State) : Bool := (((((!decide (y.Hour = z.Hour)) || (!decide ((y.Vol.length : Int) = (b.Places.length : Int)))) || (!decide ((y.Links.length : Int) = (b.Links.length : Int)))) || (!decide ((z.Own.length : Int) = (y.Vol.length : Int)))) || (!decide ((z.Gates.length : Int) = (y.Links.length : Int))))
def hasV (b : Bt.Basin) (y : Bt.Hull) (z : Bt.State) (k : Nat) : Bool := !(decide ((y.Vol.getD k default).Lo ≤ Ft.tot (z.Own.getD k [])) && decide (Ft.tot (z.Own.getD k []) ≤ (y.Vol.getD k default).Hi))
def hasL (b : Bt.Basin) (y : Bt.Hull) (z : Bt.State) (k : Nat) : Bool := ((!(decide ((y.Links.getD k default).Pos.Lo ≤ (z.Gates.getD k default).Pos) && decide ((z.Gates.getD k default).Pos ≤ (y.Links.getD k default).Pos.Hi))) || (!(decide ((y.Links.getD k default).Open.Lo ≤ bitI ((z.Gates.getD k default).Open)) && decide (bitI ((z.Gates.getD k default).Open) ≤ (y.Links.getD k default).Open.Hi))))
def HasLoops (b : Bt.Basin) (y : Bt.Hull) (z : Bt.State) : Prop := (∀ k, k < y.Vol.length → hasV b y z k = false) ∧ ∀ k, k < y.Links.length → hasL b y z k = false
instance (b : Bt.Basin) (y : Bt.Hull) (z : Bt.State) : Decidable (HasLoops b y z) := inferInstanceAs (Decidable ((∀ k, k < y.Vol.length → hasV b y z k = false) ∧ ∀ k, k < y.Links.length → hasL b y z k = false))
noncomputable def hasB (b : Bt.Basin) (y : Bt.Hull) (z : Bt.State) : Bool := !hasB0 b y z && (decide (HasLoops b y z) && decide (Ft.HasQ y.Queue z.Queue))
theorem hHas_c (w : World) (Φ : Hp) (hΦ : Hp.le Φ (hp w)) {b : Bt.Basin} {cs : List Value} (hB : RepV Φ b cs) {y : Bt.Hull} {ycs : List Value} (yH : RepV Φ y ycs) {z : Bt.State} {zcs : List Value} (tH : RepV Φ z zcs) :
  Calls Try.prog 25 #[.agg cs.toArray, .agg ycs.toArray, .agg zcs.toArray] w fun e w' => e = .returned (.bool (hasB b y z)) ∧ Bel w.heap.size w w' := by
 obtain ⟨v1, v3, v4, v5, v6, v7, v8, v9, hcs, hBw, r1, r3, r4, r5, r6, r7, r8, r9⟩ := (show Rep.rep Φ b cs from hB)
 subst hcs
 have hpm : b.Places.length * 152 ≤ 140737488355328 := r3.max
 obtain ⟨yv1, yv2, yv3, yhcs, yhw, yr1, yr2, yr3⟩ := (show Rep.rep Φ y ycs from yH)
 subst yhcs
 have ym1 : y.Vol.length * 16 ≤ 140737488355328 := yr1.max
 have ym2 : y.Queue.length * 32 ≤ 140737488355328 := yr2.max
 have ym3 : y.Links.length * 40 ≤ 140737488355328 := yr3.max
 obtain ⟨tv1, tv2, tv3, tv4, tv5, tv6, hzcs, hzw, tr1, tr2, tr3, tr4, tr5, tr6⟩ := (show Rep.rep Φ z zcs from tH)
 subst hzcs
 have ztm : z.Own.length * 24 ≤ 140737488355328 := tr1.max
 have zqm : z.Queue.length * 40 ≤ 140737488355328 := tr3.max
 have zgm : z.Gates.length * 24 ≤ 140737488355328 := tr4.max
 refine calls_of_AW (args := [.agg (cl31 b v1 v3 v4 v5 v6 v7 v8 v9).toArray, .agg #[iV y.Hour, yv1, yv2, yv3], .agg (cl70 z tv1 tv2 tv3 tv4 tv5 tv6).toArray]) Try.func25 rfl (Nat.le_of_ble_eq_true rfl) (St ⟨w, Φ, []⟩ Φ []) (StP.init w Φ hΦ []) ?_
 show AW Try.prog 103 [] _ _ _ [(0, .agg (cl31 b v1 v3 v4 v5 v6 v7 v8 v9).toArray), (1, .agg #[iV y.Hour, yv1, yv2, yv3]), (2, .agg (cl70 z tv1 tv2 tv3 tv4 tv5 tv6).toArray)] _
 have hnl : b.Name.data.toList.length ≤ 9223372036854775807 := hBw.1
 have hom : b.Owners.length * 16 ≤ 140737488355328 := r1.max
 have hlm : b.Links.length * 200 ≤ 140737488355328 := r4.max
 have htm : b.Towns.length * 64 ≤ 140737488355328 := r5.max
 have hgm_ : b.Gauges.length * 48 ≤ 140737488355328 := r6.max
 have hrm : b.Roads.length * 64 ≤ 140737488355328 := r7.max
 have hsm : b.Shelters.length * 24 ≤ 140737488355328 := r8.max
 have hom2 : b.Room.length * 8 ≤ 140737488355328 := r9.max
 refine g2 ?_
 refine RW.bxA rfl rfl fun b1 => ?_
 refine RW.eff (fun b2 : Nat => pV b2 0) (fun b2 => St ⟨w, Φ, []⟩ Φ [.blk b2 36 [iV y.Hour, yv1, yv2, yv3], .blk b1 31 (cl31 b v1 v3 v4 v5 v6 v7 v8 v9)]) rfl (e_boxA (cs := [iV y.Hour, yv1, yv2, yv3]) rfl) ?_
 intro b2
 refine RW.eff (fun b3 : Nat => pV b3 0) (fun b3 => St ⟨w, Φ, []⟩ Φ [.blk b3 70 (cl70 z tv1 tv2 tv3 tv4 tv5 tv6), .blk b2 36 [iV y.Hour, yv1, yv2, yv3], .blk b1 31 (cl31 b v1 v3 v4 v5 v6 v7 v8 v9)]) rfl (e_boxA (cs := cl70 z tv1 tv2 tv3 tv4 tv5 tv6) rfl) ?_
 intro b3
 refine RW.q (v := .bool false) rfl (q_assign rfl) (RW.nil (Post.then_n (AW.seq (AW.seq (AW.region (RW.q (v := pV b2 0) rfl (q_fieldAddr rfl uT36 rfl sz3 rfl) (RW.q (v := iV y.Hour) rfl (q_load rfl uT3 rfl (Cell.blk 1 rfl rfl)) (RW.q (v := pV b3 0) rfl (q_fieldAddr rfl uT70 rfl sz3 rfl) (RW.q (v := iV z.Hour) rfl (q_load rfl uT3 rfl (Cell.blk 0 rfl rfl)) ?_)))))))))
 refine RW.q (v := .bool (!decide (y.Hour = z.Hour))) rfl (q_neq rfl rfl) (RW.q (v := .bool (!decide (y.Hour = z.Hour))) rfl (q_move rfl) (RW.g (b := (!decide (y.Hour = z.Hour))) (v := pV b2 1) rfl rfl rfl (fun h => q_fieldAddr rfl uT36 rfl sz32 rfl) (RW.g (b := (!decide (y.Hour = z.Hour))) (v := yv1) rfl rfl rfl (fun h => q_load (gv_pos h) uT32 rfl (Cell.blk 1 rfl rfl)) (RW.g (b := (!decide (y.Hour = z.Hour))) (v := iV (y.Vol.length : Int)) rfl rfl rfl (fun h => q_len_sl (gv_pos h) yr1.sl uT32) (RW.g (b := (!decide (y.Hour = z.Hour))) (v := pV b1 3) rfl rfl rfl (fun h => q_fieldAddr rfl uT31 rfl sz23 rfl) (RW.g (b := (!decide (y.Hour = z.Hour))) (v := v3) rfl rfl rfl (fun h => q_load (gv_pos h) uT23 rfl (Cell.blk 2 rfl rfl)) (RW.g (b := (!decide (y.Hour = z.Hour))) (v := iV (b.Places.length : Int)) rfl rfl rfl (fun h => q_len_sl (gv_pos h) r3.sl uT23) (RW.g (b := (!decide (y.Hour = z.Hour))) (v := .bool (!decide ((y.Vol.length : Int) = (b.Places.length : Int)))) rfl rfl rfl (fun h => q_neq (gv_pos h) (gv_pos h)) ?_))))))))
 obtain ⟨qb1, hqb1⟩ : ∃ qz : Bool, ((!decide (y.Hour = z.Hour)) || (!decide ((y.Vol.length : Int) = (b.Places.length : Int)))) = qz := ⟨_, rfl⟩
 refine RW.q (v := .bool qb1) rfl (q_as (v := .bool ((!decide (y.Hour = z.Hour)) || (!decide ((y.Vol.length : Int) = (b.Places.length : Int))))) (q_pick rfl (fun hp => pkOrT hp) (fun hp => (gv_pos hp).trans (pkOrF hp))) (congrArg Value.bool hqb1)) (RW.q (v := .bool qb1) rfl (q_move rfl) (RW.g (b := qb1) (v := pV b2 3) rfl rfl rfl (fun h => q_fieldAddr rfl uT36 rfl sz34 rfl) (RW.g (b := qb1) (v := yv3) rfl rfl rfl (fun h => q_load (gv_pos h) uT34 rfl (Cell.blk 1 rfl rfl)) (RW.g (b := qb1) (v := iV (y.Links.length : Int)) rfl rfl rfl (fun h => q_len_sl (gv_pos h) yr3.sl uT34) (RW.g (b := qb1) (v := pV b1 4) rfl rfl rfl (fun h => q_fieldAddr rfl uT31 rfl sz24 rfl) (RW.g (b := qb1) (v := v4) rfl rfl rfl (fun h => q_load (gv_pos h) uT24 rfl (Cell.blk 2 rfl rfl)) (RW.g (b := qb1) (v := iV (b.Links.length : Int)) rfl rfl rfl (fun h => q_len_sl (gv_pos h) r4.sl uT24) (RW.g (b := qb1) (v := .bool (!decide ((y.Links.length : Int) = (b.Links.length : Int)))) rfl rfl rfl (fun h => q_neq (gv_pos h) (gv_pos h)) ?_))))))))
 obtain ⟨qb2, hqb2⟩ : ∃ qz : Bool, (qb1 || (!decide ((y.Links.length : Int) = (b.Links.length : Int)))) = qz := ⟨_, rfl⟩
 refine RW.q (v := .bool qb2) rfl (q_as (v := .bool (qb1 || (!decide ((y.Links.length : Int) = (b.Links.length : Int))))) (q_pick rfl (fun hp => pkOrT hp) (fun hp => (gv_pos hp).trans (pkOrF hp))) (congrArg Value.bool hqb2)) (RW.q (v := .bool qb2) rfl (q_move rfl) (RW.g (b := qb2) (v := pV b3 1) rfl rfl rfl (fun h => q_fieldAddr rfl uT70 rfl sz38 rfl) (RW.g (b := qb2) (v := tv1) rfl rfl rfl (fun h => q_load (gv_pos h) uT38 rfl (Cell.blk 0 rfl rfl)) (RW.g (b := qb2) (v := iV (z.Own.length : Int)) rfl rfl rfl (fun h => q_len_sl (gv_pos h) tr1.sl uT38) (RW.g (b := qb2) (v := pV b2 1) rfl rfl rfl (fun h => q_fieldAddr rfl uT36 rfl sz32 rfl) (RW.g (b := qb2) (v := yv1) rfl rfl rfl (fun h => q_load (gv_pos h) uT32 rfl (Cell.blk 1 rfl rfl)) (RW.g (b := qb2) (v := iV (y.Vol.length : Int)) rfl rfl rfl (fun h => q_len_sl (gv_pos h) yr1.sl uT32) (RW.g (b := qb2) (v := .bool (!decide ((z.Own.length : Int) = (y.Vol.length : Int)))) rfl rfl rfl (fun h => q_neq (gv_pos h) (gv_pos h)) ?_))))))))
 obtain ⟨qb3, hqb3⟩ : ∃ qz : Bool, (qb2 || (!decide ((z.Own.length : Int) = (y.Vol.length : Int)))) = qz := ⟨_, rfl⟩
 refine RW.q (v := .bool qb3) rfl (q_as (v := .bool (qb2 || (!decide ((z.Own.length : Int) = (y.Vol.length : Int))))) (q_pick rfl (fun hp => pkOrT hp) (fun hp => (gv_pos hp).trans (pkOrF hp))) (congrArg Value.bool hqb3)) (RW.q (v := .bool qb3) rfl (q_move rfl) (RW.g (b := qb3) (v := pV b3 4) rfl rfl rfl (fun h => q_fieldAddr rfl uT70 rfl sz68 rfl) (RW.g (b := qb3) (v := tv4) rfl rfl rfl (fun h => q_load (gv_pos h) uT68 rfl (Cell.blk 0 rfl rfl)) (RW.g (b := qb3) (v := iV (z.Gates.length : Int)) rfl rfl rfl (fun h => q_len_sl (gv_pos h) tr4.sl uT68) (RW.g (b := qb3) (v := pV b2 3) rfl rfl rfl (fun h => q_fieldAddr rfl uT36 rfl sz34 rfl) (RW.g (b := qb3) (v := yv3) rfl rfl rfl (fun h => q_load (gv_pos h) uT34 rfl (Cell.blk 1 rfl rfl)) (RW.g (b := qb3) (v := iV (y.Links.length : Int)) rfl rfl rfl (fun h => q_len_sl (gv_pos h) yr3.sl uT34) (RW.g (b := qb3) (v := .bool (!decide ((z.Gates.length : Int) = (y.Links.length : Int)))) rfl rfl rfl (fun h => q_neq (gv_pos h) (gv_pos h)) ?_))))))))
 obtain ⟨qb4, hqb4⟩ : ∃ qz : Bool, (qb3 || (!decide ((z.Gates.length : Int) = (y.Links.length : Int)))) = qz := ⟨_, rfl⟩
 refine RW.q (v := .bool qb4) rfl (q_as (v := .bool (qb3 || (!decide ((z.Gates.length : Int) = (y.Links.length : Int))))) (q_pick rfl (fun hp => pkOrT hp) (fun hp => (gv_pos hp).trans (pkOrF hp))) (congrArg Value.bool hqb4)) ?_
 subst hqb4 hqb3 hqb2 hqb1
 refine g2 ?_
 refine AW.cond rfl (fun hc1 => ?_) fun hc1 => ?_
 ·
  refine g7 ?_
  exact fin_val (v' := .bool false) rfl rfl rfl (congrArg Value.bool (show false = hasB b y z by unfold hasB; rw [show hasB0 b y z = true from hc1]; rfl))
 ·
  refine g4 ?_
  have hdb := hc1
  simp [-List.getD_eq_getElem?_getD, -Array.length_toList] at hdb
  refine g8 ?_
  refine AW.loop (fun s J m => ∃ (k : Nat), s = [(3, pV b1 0), (4, pV b2 0), (5, pV b3 0), (54, yv1), (55, iV (y.Vol.length : Int)), (56, iV (k : Int))] ∧ J = St ⟨w, Φ, []⟩ Φ [.blk b3 70 (cl70 z tv1 tv2 tv3 tv4 tv5 tv6), .blk b2 36 [iV y.Hour, yv1, yv2, yv3], .blk b1 31 (cl31 b v1 v3 v4 v5 v6 v7 v8 v9)] ∧ m = y.Vol.length - k ∧ (k ≤ y.Vol.length) ∧ (∀ j, j < k → hasV b y z j = false)) (s0 := _) (J1 := _) (m0 := _) ⟨0, rfl, rfl, rfl, (by omega), (fun j hj => absurd hj (by omega))⟩ ⟨rfl, rfl, rfl, rfl, rfl, rfl, trivial⟩ (fun _ h => h) ?_
  rintro _ _ _ _ ⟨k, rfl, rfl, rfl, hk, hall⟩
  refine g6 ?_
  refine AW.cond rfl (fun hc2 => ?_) fun hc2 => ?_
  ·
   simp [-List.getD_eq_getElem?_getD, -Array.length_toList] at hc2
   refine g7 ?_
   refine RW.q (v := .pointer (some (Value.at yv1 (k * 2)))) rfl (q_indexAddr rfl rfl yr1.sl uT32 sz42 (by omega) (by omega) rfl) (RW.q (v := .agg #[iV ((y.Vol.getD k default).Lo), iV ((y.Vol.getD k default).Hi)]) rfl (q_loadAgg rfl uT42 rfl sz42 rfl (Cells.repE yr1 (by omega) rfl)) ?_)
   refine RW.alc rfl fun b4 => ?_
   refine g1 ?_
   refine RW.effn (J' := St ⟨w, Φ, []⟩ Φ [.blk b4 42 [iV ((y.Vol.getD k default).Lo), iV ((y.Vol.getD k default).Hi)], .blk b3 70 (cl70 z tv1 tv2 tv3 tv4 tv5 tv6), .blk b2 36 [iV y.Hour, yv1, yv2, yv3], .blk b1 31 (cl31 b v1 v3 v4 v5 v6 v7 v8 v9)]) (e_store (v := .agg #[iV ((y.Vol.getD k default).Lo), iV ((y.Vol.getD k default).Hi)]) 0 rfl rfl rfl sz42 rfl rfl rfl rfl rfl) ?_
   refine g3 ?_
   refine AW.draw (J0 := St ⟨w, Φ, []⟩ Φ [.blk b4 42 [iV ((y.Vol.getD k default).Lo), iV ((y.Vol.getD k default).Hi)], .blk b3 70 (cl70 z tv1 tv2 tv3 tv4 tv5 tv6), .blk b2 36 [iV y.Hour, yv1, yv2, yv3], .blk b1 31 (cl31 b v1 v3 v4 v5 v6 v7 v8 v9)]) [.q, .q, .q, .q, .q, .q, .q, .q, .q] [0, 1, 2, 3, 4, 5, 6, 7, 8] hmix (by kernel_rfl) ?_
   refine g4 ?_
   refine DW.q (v := .pointer (some (Value.at tv1 (k * 1)))) (fun _ h => h) rfl (q_indexAddr rfl rfl tr1.sl uT38 sz29 (by omega) (by omega) rfl) ?_
   obtain ⟨sv1, hsv1, hpc1⟩ := tr1.sub (k := k) (by omega)
   refine DW.q (v := sv1) (fun _ h => h) rfl (q_load rfl uT29 rfl (Cell.phi hpc1)) (DW.q (v := iV (Ft.tot (z.Own.getD k []))) (fun _ h => h) rfl (q_call (args := #[sv1]) own64 rfl rfl (fun w1 hw1 => Total_c w1 (Go.K.hp w1) (Hp.le_refl _) (hsv1.mono hw1.phi))) (DW.q (v := .bool (decide ((y.Vol.getD k default).Lo ≤ Ft.tot (z.Own.getD k [])) && decide (Ft.tot (z.Own.getD k []) ≤ (y.Vol.getD k default).Hi))) (fun _ h => h) rfl (q_call (args := #[.agg #[iV ((y.Vol.getD k default).Lo), iV ((y.Vol.getD k default).Hi)], iV (Ft.tot (z.Own.getD k []))]) own21 rfl rfl (fun w1 hw1 => sHas_c w1 (Go.K.hp w1) (Hp.le_refl _))) ?_))
   refine g3 ?_
   refine AW.cond rfl (fun hc3 => ?_) fun hc3 => ?_
   ·
    refine g11 ?_
    exact fin_val (v' := .bool false) rfl rfl rfl (congrArg Value.bool (show false = hasB b y z by unfold hasB; rw [show hasB0 b y z = false from hc1, decide_eq_false (show ¬ HasLoops b y z from fun h9 => Bool.noConfusion ((h9.1 k (by omega)).symm.trans hc3))]; rfl))
   ·
    refine g7 ?_
    exact Post.back (s' := _) (J' := _) (m' := _) (by omega) ⟨k + 1, rfl, rfl, rfl, (by omega), (Fu.lt_succ hall hc3)⟩ ⟨rfl, rfl, rfl, rfl, rfl, rfl, trivial⟩ (fun _ h => StP.drop h (by exact .cons _ (.cons_cons _ (.cons_cons _ (.cons_cons _ (.slnil))))))
  ·
   simp [-List.getD_eq_getElem?_getD, -Array.length_toList] at hc2
   refine g15 ?_
   have halA : ∀ j, j < y.Vol.length → hasV b y z j = false := fun j hj => hall j (by omega)
   refine AW.loop (fun s J m => ∃ (k : Nat), s = [(3, pV b1 0), (4, pV b2 0), (5, pV b3 0), (72, yv3), (73, iV (y.Links.length : Int)), (74, iV (k : Int))] ∧ J = St ⟨w, Φ, []⟩ Φ [.blk b3 70 (cl70 z tv1 tv2 tv3 tv4 tv5 tv6), .blk b2 36 [iV y.Hour, yv1, yv2, yv3], .blk b1 31 (cl31 b v1 v3 v4 v5 v6 v7 v8 v9)] ∧ m = y.Links.length - k ∧ (k ≤ y.Links.length) ∧ (∀ j, j < k → hasL b y z j = false)) (s0 := _) (J1 := _) (m0 := _) ⟨0, rfl, rfl, rfl, (by omega), (fun j hj => absurd hj (by omega))⟩ ⟨rfl, rfl, rfl, rfl, rfl, rfl, trivial⟩ (fun _ h => h) ?_
   rintro _ _ _ _ ⟨k, rfl, rfl, rfl, hk, hal2⟩
   refine g6 ?_
   refine AW.cond (b := decide ((k : Int) < (y.Links.length : Int))) rfl (fun hc4 => ?_) (fun hc4 => ?_)
   ·
    simp [-List.getD_eq_getElem?_getD, -Array.length_toList] at hc4
    refine g7 ?_
    refine RW.q (v := .pointer (some (Value.at yv3 (k * 5)))) rfl (q_indexAddr rfl rfl yr3.sl uT34 sz79 (by omega) (by omega) rfl) (RW.q (v := .agg (cl79 (y.Links.getD k default)).toArray) rfl (q_loadAgg rfl uT79 rfl sz79 rfl (Cells.repE yr3 (by omega) rfl)) (RW.eff (fun b5 : Nat => pV b5 0) (fun b5 => St ⟨w, Φ, []⟩ Φ [.blk b5 79 [iV 0, iV 0, iV 0, iV 0, iV 0], .blk b3 70 (cl70 z tv1 tv2 tv3 tv4 tv5 tv6), .blk b2 36 [iV y.Hour, yv1, yv2, yv3], .blk b1 31 (cl31 b v1 v3 v4 v5 v6 v7 v8 v9)]) rfl (e_alloc zero79) ?_))
    intro b5
    refine RW.q (v := iV (k : Int)) rfl (q_assign rfl) (RW.effn (J' := St ⟨w, Φ, []⟩ Φ [.blk b5 79 (cl79 (y.Links.getD k default)), .blk b3 70 (cl70 z tv1 tv2 tv3 tv4 tv5 tv6), .blk b2 36 [iV y.Hour, yv1, yv2, yv3], .blk b1 31 (cl31 b v1 v3 v4 v5 v6 v7 v8 v9)]) (e_store (v := .agg (cl79 (y.Links.getD k default)).toArray) 0 rfl rfl rfl sz79 rfl rfl rfl rfl rfl) (RW.nil (Post.then_n (AW.seq (AW.region (RW.q (v := pV b3 4) rfl (q_fieldAddr rfl uT70 rfl sz68 rfl) (RW.q (v := tv4) rfl (q_load rfl uT68 rfl (Cell.blk 1 rfl rfl)) (RW.q (v := iV (k : Int)) rfl (q_move rfl) (RW.q (v := .pointer (some (Value.at tv4 (k * 4)))) rfl (q_indexAddr rfl rfl tr4.sl uT68 sz114 (by omega) (by omega) rfl) ?_)))))))))
    refine RW.q (v := .agg (cl114 (z.Gates.getD k default)).toArray) rfl (q_loadAgg rfl uT114 rfl sz114 rfl (Cells.repE tr4 (by omega) rfl)) (RW.eff (fun b6 : Nat => pV b6 0) (fun b6 => St ⟨w, Φ, []⟩ Φ [.blk b6 114 [iV 0, iV 0, .bool false, .bool false], .blk b5 79 (cl79 (y.Links.getD k default)), .blk b3 70 (cl70 z tv1 tv2 tv3 tv4 tv5 tv6), .blk b2 36 [iV y.Hour, yv1, yv2, yv3], .blk b1 31 (cl31 b v1 v3 v4 v5 v6 v7 v8 v9)]) rfl (e_alloc zero114) ?_)
    intro b6
    refine RW.effn (J' := St ⟨w, Φ, []⟩ Φ [.blk b6 114 (cl114 (z.Gates.getD k default)), .blk b5 79 (cl79 (y.Links.getD k default)), .blk b3 70 (cl70 z tv1 tv2 tv3 tv4 tv5 tv6), .blk b2 36 [iV y.Hour, yv1, yv2, yv3], .blk b1 31 (cl31 b v1 v3 v4 v5 v6 v7 v8 v9)]) (e_store (v := .agg (cl114 (z.Gates.getD k default)).toArray) 0 rfl rfl rfl sz114 rfl rfl rfl rfl rfl) ?_
    refine g3 ?_
    refine AW.draw (J0 := St ⟨w, Φ, []⟩ Φ [.blk b6 114 (cl114 (z.Gates.getD k default)), .blk b5 79 (cl79 (y.Links.getD k default)), .blk b3 70 (cl70 z tv1 tv2 tv3 tv4 tv5 tv6), .blk b2 36 [iV y.Hour, yv1, yv2, yv3], .blk b1 31 (cl31 b v1 v3 v4 v5 v6 v7 v8 v9)]) [.q, .q, .q, .q, .q, .q, .q, .q, .q, .q, .q, .q, .q, .q, .q] [0, 1, 2, 3, 4, 5, 6, 7, 8, 9, 10, 11, 12, 13, 14] hmix (by kernel_rfl) ?_
    refine g1 ?_
    refine DW.q (v := .agg #[iV ((y.Links.getD k default).Pos.Lo), iV ((y.Links.getD k default).Pos.Hi)]) (fun _ h => h) rfl (q_loadAgg rfl uT42 rfl sz42 rfl (Cells.blkP (off := 0) 1 rfl (fun j u hu => (by rcases j with _ | (_ | _) <;> first | exact hu | cases hu)))) ?_
    refine g2 ?_
    refine DW.q (v := .bool (decide ((y.Links.getD k default).Pos.Lo ≤ (z.Gates.getD k default).Pos) && decide ((z.Gates.getD k default).Pos ≤ (y.Links.getD k default).Pos.Hi))) (fun _ h => h) rfl (q_call (args := #[.agg #[iV ((y.Links.getD k default).Pos.Lo), iV ((y.Links.getD k default).Pos.Hi)], iV ((z.Gates.getD k default).Pos)]) own21 rfl rfl (fun w1 hw1 => sHas_c w1 (Go.K.hp w1) (Hp.le_refl _))) ?_
    refine g3 ?_
    refine DW.g (b := (!(decide ((y.Links.getD k default).Pos.Lo ≤ (z.Gates.getD k default).Pos) && decide ((z.Gates.getD k default).Pos ≤ (y.Links.getD k default).Pos.Hi)))) (v := .agg #[iV ((y.Links.getD k default).Open.Lo), iV ((y.Links.getD k default).Open.Hi)]) (fun _ h => h) rfl rfl rfl (fun h => q_loadAgg (gv_pos h) uT42 rfl sz42 rfl (Cells.blkP (off := 3) 1 rfl (fun j u hu => (by rcases j with _ | (_ | _) <;> first | exact hu | cases hu)))) ?_
    refine g2 ?_
    refine DW.g (b := (!(decide ((y.Links.getD k default).Pos.Lo ≤ (z.Gates.getD k default).Pos) && decide ((z.Gates.getD k default).Pos ≤ (y.Links.getD k default).Pos.Hi)))) (v := iV (bitI ((z.Gates.getD k default).Open))) (fun _ h => h) rfl rfl rfl (fun h => q_call (args := #[.bool ((z.Gates.getD k default).Open)]) own65 rfl (args1 (gv_pos h)) (fun w1 hw1 => bit_c w1 (Go.K.hp w1) (Hp.le_refl _) (t := (z.Gates.getD k default).Open))) (DW.g (b := (!(decide ((y.Links.getD k default).Pos.Lo ≤ (z.Gates.getD k default).Pos) && decide ((z.Gates.getD k default).Pos ≤ (y.Links.getD k default).Pos.Hi)))) (v := .bool (decide ((y.Links.getD k default).Open.Lo ≤ bitI ((z.Gates.getD k default).Open)) && decide (bitI ((z.Gates.getD k default).Open) ≤ (y.Links.getD k default).Open.Hi))) (fun _ h => h) rfl rfl rfl (fun h => q_call (args := #[.agg #[iV ((y.Links.getD k default).Open.Lo), iV ((y.Links.getD k default).Open.Hi)], iV (bitI ((z.Gates.getD k default).Open))]) own21 rfl (args2 (gv_pos h) (gv_pos h)) (fun w1 hw1 => sHas_c w1 (Go.K.hp w1) (Hp.le_refl _))) ?_)
    refine g1 ?_
    obtain ⟨qb5, hqb5⟩ : ∃ qz : Bool, ((!(decide ((y.Links.getD k default).Pos.Lo ≤ (z.Gates.getD k default).Pos) && decide ((z.Gates.getD k default).Pos ≤ (y.Links.getD k default).Pos.Hi))) || (!(decide ((y.Links.getD k default).Open.Lo ≤ bitI ((z.Gates.getD k default).Open)) && decide (bitI ((z.Gates.getD k default).Open) ≤ (y.Links.getD k default).Open.Hi)))) = qz := ⟨_, rfl⟩
    refine DW.q (v := .bool qb5) (fun _ h => h) rfl (q_as (v := .bool ((!(decide ((y.Links.getD k default).Pos.Lo ≤ (z.Gates.getD k default).Pos) && decide ((z.Gates.getD k default).Pos ≤ (y.Links.getD k default).Pos.Hi))) || (!(decide ((y.Links.getD k default).Open.Lo ≤ bitI ((z.Gates.getD k default).Open)) && decide (bitI ((z.Gates.getD k default).Open) ≤ (y.Links.getD k default).Open.Hi))))) (q_pick rfl (fun hp => pkOrT hp) (fun hp => (gv_pos hp).trans (pkOrF hp))) (congrArg Value.bool hqb5)) ?_
    subst hqb5
    refine g2 ?_
    refine AW.cond rfl (fun hc5 => ?_) fun hc5 => ?_
    ·
     refine g11 ?_
     exact fin_val (v' := .bool false) rfl rfl rfl (congrArg Value.bool (show false = hasB b y z by unfold hasB; rw [show hasB0 b y z = false from hc1, decide_eq_false (show ¬ HasLoops b y z from fun h9 => Bool.noConfusion ((h9.2 k (by omega)).symm.trans hc5))]; rfl))
    ·
     refine g7 ?_
     exact Post.back (s' := _) (J' := _) (m' := _) (by omega) ⟨k + 1, rfl, rfl, rfl, (by omega), (Fu.lt_succ hal2 hc5)⟩ ⟨rfl, rfl, rfl, rfl, rfl, rfl, trivial⟩ (fun _ h => StP.drop h (by exact .cons _ (.cons _ (.cons_cons _ (.cons_cons _ (.cons_cons _ (.slnil)))))))
   ·
    simp [-List.getD_eq_getElem?_getD, -Array.length_toList] at hc4
    refine AW.exit (Post.then_x (Post.then_x (Post.blk_hit (Post.then_n ?_))))
    refine AW.seq (AW.region (RW.q (v := .agg #[iV y.Hour, yv1, yv2, yv3]) rfl (q_loadAgg rfl uT36 rfl sz36 rfl (Cells.blk 1 rfl)) (RW.q (v := .agg (cl70 z tv1 tv2 tv3 tv4 tv5 tv6).toArray) rfl (q_loadAgg rfl uT70 rfl sz70 rfl (Cells.blk 0 rfl)) (RW.q (v := .bool (decide (Ft.HasQ y.Queue z.Queue))) rfl (q_call (args := #[.agg #[iV y.Hour, yv1, yv2, yv3], .agg (cl70 z tv1 tv2 tv3 tv4 tv5 tv6).toArray]) own66 rfl rfl (fun w1 hw1 => hasQueue_c w1 (Go.K.hp w1) (Hp.le_refl _) (yH.mono hw1.phi) (tH.mono hw1.phi))) ?_))))
    refine g4 ?_
    exact fin_val (v' := .bool (decide (Ft.HasQ y.Queue z.Queue))) rfl rfl rfl (congrArg Value.bool (show _ = hasB b y z by unfold hasB; rw [show hasB0 b y z = false from hc1, decide_eq_true (show HasLoops b y z from ⟨halA, fun j hj => hal2 j (by omega)⟩)]; rfl))
noncomputable def lightB (b : Bt.Basin) (z : Bt.State) (y : Bt.Hull) : Bool := ((((((decide (Fu.Few b y)) && (decide ((b.Links.length : Int) ≤ 20))) && (decide ((z.Queue.length : Int) ≤ 60))) && (rightB b)) && (stepB b z)) && (decide (HRight b y))) && (hasB b y z)
theorem light_c (w : World) (Φ : Hp) (hΦ : Hp.le Φ (hp w)) {b : Bt.Basin} {cs : List Value} (hB : RepV Φ b cs) {z : Bt.State} {zcs : List Value} (tH : RepV Φ z zcs) {y : Bt.Hull} {ycs : List Value} (yH : RepV Φ y ycs) :
  Calls Try.prog 23 #[.agg cs.toArray, .agg zcs.toArray, .agg ycs.toArray] w fun e w' => e = .returned (.bool (lightB b z y)) ∧ Bel w.heap.size w w' := by
 obtain ⟨v1, v3, v4, v5, v6, v7, v8, v9, hcs, hBw, r1, r3, r4, r5, r6, r7, r8, r9⟩ := (show Rep.rep Φ b cs from hB)
 subst hcs
 have hpm : b.Places.length * 152 ≤ 140737488355328 := r3.max
 obtain ⟨tv1, tv2, tv3, tv4, tv5, tv6, hzcs, hzw, tr1, tr2, tr3, tr4, tr5, tr6⟩ := (show Rep.rep Φ z zcs from tH)
 subst hzcs
 have ztm : z.Own.length * 24 ≤ 140737488355328 := tr1.max
 have zqm : z.Queue.length * 40 ≤ 140737488355328 := tr3.max
 have zgm : z.Gates.length * 24 ≤ 140737488355328 := tr4.max
 obtain ⟨yv1, yv2, yv3, yhcs, yhw, yr1, yr2, yr3⟩ := (show Rep.rep Φ y ycs from yH)
 subst yhcs
 have ym1 : y.Vol.length * 16 ≤ 140737488355328 := yr1.max
 have ym2 : y.Queue.length * 32 ≤ 140737488355328 := yr2.max
 have ym3 : y.Links.length * 40 ≤ 140737488355328 := yr3.max
 refine calls_of_AW (args := [.agg (cl31 b v1 v3 v4 v5 v6 v7 v8 v9).toArray, .agg (cl70 z tv1 tv2 tv3 tv4 tv5 tv6).toArray, .agg #[iV y.Hour, yv1, yv2, yv3]]) Try.func23 rfl (Nat.le_of_ble_eq_true rfl) (St ⟨w, Φ, []⟩ Φ []) (StP.init w Φ hΦ []) ?_
 show AW Try.prog 42 [] _ _ _ [(0, .agg (cl31 b v1 v3 v4 v5 v6 v7 v8 v9).toArray), (1, .agg (cl70 z tv1 tv2 tv3 tv4 tv5 tv6).toArray), (2, .agg #[iV y.Hour, yv1, yv2, yv3])] _
 have hnl : b.Name.data.toList.length ≤ 9223372036854775807 := hBw.1
 have hom : b.Owners.length * 16 ≤ 140737488355328 := r1.max
 have hlm : b.Links.length * 200 ≤ 140737488355328 := r4.max
 have htm : b.Towns.length * 64 ≤ 140737488355328 := r5.max
 have hgm_ : b.Gauges.length * 48 ≤ 140737488355328 := r6.max
 have hrm : b.Roads.length * 64 ≤ 140737488355328 := r7.max
 have hsm : b.Shelters.length * 24 ≤ 140737488355328 := r8.max
 have hom2 : b.Room.length * 8 ≤ 140737488355328 := r9.max
 refine g2 ?_
 refine RW.bxA rfl rfl fun b1 => ?_
 refine RW.bxA rfl rfl fun b2 => ?_
 refine RW.bxA rfl rfl fun b3 => ?_
 refine g7 ?_
 refine RW.q (v := .bool (decide (Fu.Few b y))) rfl (q_call (args := #[.agg (cl31 b v1 v3 v4 v5 v6 v7 v8 v9).toArray, .agg #[iV y.Hour, yv1, yv2, yv3]]) own9 rfl rfl (fun w1 hw1 => few_c w1 (Go.K.hp w1) (Hp.le_refl _) (hB.mono hw1.phi) (yH.mono hw1.phi))) (RW.q (v := .bool (decide (Fu.Few b y))) rfl (q_move rfl) (RW.g (b := (decide (Fu.Few b y))) (v := pV b1 4) rfl rfl rfl (fun h => q_fieldAddr rfl uT31 rfl sz24 rfl) (RW.g (b := (decide (Fu.Few b y))) (v := v4) rfl rfl rfl (fun h => q_load (gv_pos h) uT24 rfl (Cell.blk 2 rfl rfl)) (RW.g (b := (decide (Fu.Few b y))) (v := iV (b.Links.length : Int)) rfl rfl rfl (fun h => q_len_sl (gv_pos h) r4.sl uT24) (RW.g (b := (decide (Fu.Few b y))) (v := .bool (decide ((b.Links.length : Int) ≤ 20))) rfl rfl rfl (fun h => q_leq (gv_pos h) rfl) ?_)))))
 obtain ⟨qb1, hqb1⟩ : ∃ qz : Bool, ((decide (Fu.Few b y)) && (decide ((b.Links.length : Int) ≤ 20))) = qz := ⟨_, rfl⟩
 refine RW.q (v := .bool qb1) rfl (q_as (v := .bool ((decide (Fu.Few b y)) && (decide ((b.Links.length : Int) ≤ 20)))) (q_pick rfl (fun hp => (gv_pos hp).trans (pkAndT hp)) (fun hp => pkAndF hp)) (congrArg Value.bool hqb1)) (RW.q (v := .bool qb1) rfl (q_move rfl) (RW.g (b := qb1) (v := pV b2 3) rfl rfl rfl (fun h => q_fieldAddr rfl uT70 rfl sz67 rfl) (RW.g (b := qb1) (v := tv3) rfl rfl rfl (fun h => q_load (gv_pos h) uT67 rfl (Cell.blk 1 rfl rfl)) (RW.g (b := qb1) (v := iV (z.Queue.length : Int)) rfl rfl rfl (fun h => q_len_sl (gv_pos h) tr3.sl uT67) (RW.g (b := qb1) (v := .bool (decide ((z.Queue.length : Int) ≤ 60))) rfl rfl rfl (fun h => q_leq (gv_pos h) rfl) ?_)))))
 obtain ⟨qb2, hqb2⟩ : ∃ qz : Bool, (qb1 && (decide ((z.Queue.length : Int) ≤ 60))) = qz := ⟨_, rfl⟩
 refine RW.q (v := .bool qb2) rfl (q_as (v := .bool (qb1 && (decide ((z.Queue.length : Int) ≤ 60)))) (q_pick rfl (fun hp => (gv_pos hp).trans (pkAndT hp)) (fun hp => pkAndF hp)) (congrArg Value.bool hqb2)) ?_
 refine g2 ?_
 refine RW.g (b := qb2) (v := .bool (rightB b)) rfl rfl rfl (fun h => q_call (args := #[.agg (cl31 b v1 v3 v4 v5 v6 v7 v8 v9).toArray]) own19 rfl (args1 (gv_pos h)) (fun w1 hw1 => bRight_c w1 (Go.K.hp w1) (Hp.le_refl _) (hB.mono hw1.phi) )) (RW.q (v := .bool (qb2 && (rightB b))) rfl (q_pick rfl (fun hp => (gv_pos hp).trans (pkAndT hp)) (fun hp => pkAndF hp)) (RW.q (v := .bool (qb2 && (rightB b))) rfl (q_move rfl) (RW.g (b := (qb2 && (rightB b))) (v := .agg (cl31 b v1 v3 v4 v5 v6 v7 v8 v9).toArray) rfl rfl rfl (fun h => q_loadAgg rfl uT31 rfl sz31 rfl (Cells.blk 2 rfl)) (RW.g (b := (qb2 && (rightB b))) (v := .agg (cl70 z tv1 tv2 tv3 tv4 tv5 tv6).toArray) rfl rfl rfl (fun h => q_loadAgg rfl uT70 rfl sz70 rfl (Cells.blk 1 rfl)) (RW.g (b := (qb2 && (rightB b))) (v := .bool (stepB b z)) rfl rfl rfl (fun h => q_call (args := #[.agg (cl31 b v1 v3 v4 v5 v6 v7 v8 v9).toArray, .agg (cl70 z tv1 tv2 tv3 tv4 tv5 tv6).toArray]) own62 rfl (args2 (gv_pos h) (gv_pos h)) (fun w1 hw1 => stepRight_c w1 (Go.K.hp w1) (Hp.le_refl _) (hB.mono hw1.phi) (tH.mono hw1.phi) (by subst hqb2 hqb1; simp only [Bool.and_eq_true, decide_eq_true_eq] at h; exact (right_f h.2).2.1))) (RW.q (v := .bool ((qb2 && (rightB b)) && (stepB b z))) rfl (q_pick rfl (fun hp => (gv_pos hp).trans (pkAndT hp)) (fun hp => pkAndF hp)) ?_))))))
 refine g3 ?_
 refine RW.g (b := ((qb2 && (rightB b)) && (stepB b z))) (v := .bool (decide (HRight b y))) rfl rfl rfl (fun h => q_call (args := #[.agg (cl31 b v1 v3 v4 v5 v6 v7 v8 v9).toArray, .agg #[iV y.Hour, yv1, yv2, yv3]]) own63 rfl (args2 (gv_pos h) (gv_pos h)) (fun w1 hw1 => hRight_c w1 (Go.K.hp w1) (Hp.le_refl _) (hB.mono hw1.phi) (yH.mono hw1.phi))) ?_
 obtain ⟨qb3, hqb3⟩ : ∃ qz : Bool, (((qb2 && (rightB b)) && (stepB b z)) && (decide (HRight b y))) = qz := ⟨_, rfl⟩
 refine RW.q (v := .bool qb3) rfl (q_as (v := .bool (((qb2 && (rightB b)) && (stepB b z)) && (decide (HRight b y)))) (q_pick rfl (fun hp => (gv_pos hp).trans (pkAndT hp)) (fun hp => pkAndF hp)) (congrArg Value.bool hqb3)) (RW.q (v := .bool qb3) rfl (q_move rfl) (RW.g (b := qb3) (v := .agg (cl31 b v1 v3 v4 v5 v6 v7 v8 v9).toArray) rfl rfl rfl (fun h => q_loadAgg rfl uT31 rfl sz31 rfl (Cells.blk 2 rfl)) (RW.g (b := qb3) (v := .agg #[iV y.Hour, yv1, yv2, yv3]) rfl rfl rfl (fun h => q_loadAgg rfl uT36 rfl sz36 rfl (Cells.blk 0 rfl)) (RW.g (b := qb3) (v := .agg (cl70 z tv1 tv2 tv3 tv4 tv5 tv6).toArray) rfl rfl rfl (fun h => q_loadAgg rfl uT70 rfl sz70 rfl (Cells.blk 1 rfl)) (RW.g (b := qb3) (v := .bool (hasB b y z)) rfl rfl rfl (fun h => q_call (args := #[.agg (cl31 b v1 v3 v4 v5 v6 v7 v8 v9).toArray, .agg #[iV y.Hour, yv1, yv2, yv3], .agg (cl70 z tv1 tv2 tv3 tv4 tv5 tv6).toArray]) own25 rfl (args3 (gv_pos h) (gv_pos h) (gv_pos h)) (fun w1 hw1 => hHas_c w1 (Go.K.hp w1) (Hp.le_refl _) (hB.mono hw1.phi) (yH.mono hw1.phi) (tH.mono hw1.phi))) (RW.q (v := .bool (qb3 && (hasB b y z))) rfl (q_pick rfl (fun hp => (gv_pos hp).trans (pkAndT hp)) (fun hp => pkAndF hp)) ?_))))))
 refine g1 ?_
 subst hqb3 hqb2 hqb1
 refine g3 ?_
 exact fin_val (v' := .bool (((((((decide (Fu.Few b y)) && (decide ((b.Links.length : Int) ≤ 20))) && (decide ((z.Queue.length : Int) ≤ 60))) && (rightB b)) && (stepB b z)) && (decide (HRight b y))) && (hasB b y z))) rfl rfl rfl (rfl)
def trN (b : Bt.Basin) (z : Bt.State) (q : Int) : Int := if (b.Gauges.getD q.toNat default).Kind = 0 then Fu.atC (b.Places.getD (b.Gauges.getD q.toNat default).Target.toNat default).Level (Ft.tot (z.Own.getD (b.Gauges.getD q.toNat default).Target.toNat [])) else (z.Gates.getD (b.Gauges.getD q.toNat default).Target.toNat default).Pos
def trK (b : Bt.Basin) (q : Int) : Bool := decide ((b.Gauges.getD q.toNat default).Kind = 0 ∨ (b.Gauges.getD q.toNat default).Kind = 2)
def truR (b : Bt.Basin) (z : Bt.State) (q u v : Int) : Bt.Reading := if trK b q = true then ⟨q, z.Hour, ⟨trN b z q - u, trN b z q + v⟩⟩ else default
theorem at_rng_any (c : List Bt.Point) (v : Int) : 0 ≤ Fu.atC c v ∧ Fu.atC c v ≤ 1125899906842624 := by
 by_cases h : Fu.RightC c
 ·
  exact Fu.at_rng h v
 ·
  unfold Fu.atC; rw [if_neg h]; omega
theorem truth_c (w : World) (Φ : Hp) (hΦ : Hp.le Φ (hp w)) {b : Bt.Basin} {cs : List Value} (hB : RepV Φ b cs) {z : Bt.State} {zcs : List Value} (tH : RepV Φ z zcs) {q u v : Int} (hq : 0 ≤ q ∧ q < (b.Gauges.length : Int)) (ht : (b.Gauges.getD q.toNat default).Kind = 0 → 0 ≤ (b.Gauges.getD q.toNat default).Target ∧ (b.Gauges.getD q.toNat default).Target < (b.Places.length : Int) ∧ (b.Gauges.getD q.toNat default).Target < (z.Own.length : Int)) (ht2 : (b.Gauges.getD q.toNat default).Kind = 2 → 0 ≤ (b.Gauges.getD q.toNat default).Target ∧ (b.Gauges.getD q.toNat default).Target < (z.Gates.length : Int) ∧ 0 ≤ (z.Gates.getD (b.Gauges.getD q.toNat default).Target.toNat default).Pos ∧ (z.Gates.getD (b.Gauges.getD q.toNat default).Target.toNat default).Pos ≤ 1099511627776) (hu : 0 ≤ u ∧ u ≤ 1099511627776) (hv : 0 ≤ v ∧ v ≤ 1099511627776) :
  Calls Try.prog 24 #[.agg cs.toArray, .agg zcs.toArray, iV q, iV u, iV v] w fun e w' => e = .returned (.tuple #[.agg #[iV ((truR b z q u v).Gauge), iV ((truR b z q u v).Hour), iV ((truR b z q u v).Value.Lo), iV ((truR b z q u v).Value.Hi)], .bool (trK b q)]) ∧ Bel w.heap.size w w' := by
 obtain ⟨v1, v3, v4, v5, v6, v7, v8, v9, hcs, hBw, r1, r3, r4, r5, r6, r7, r8, r9⟩ := (show Rep.rep Φ b cs from hB)
 subst hcs
 have hpm : b.Places.length * 152 ≤ 140737488355328 := r3.max
 obtain ⟨tv1, tv2, tv3, tv4, tv5, tv6, hzcs, hzw, tr1, tr2, tr3, tr4, tr5, tr6⟩ := (show Rep.rep Φ z zcs from tH)
 subst hzcs
 have ztm : z.Own.length * 24 ≤ 140737488355328 := tr1.max
 have zqm : z.Queue.length * 40 ≤ 140737488355328 := tr3.max
 have zgm : z.Gates.length * 24 ≤ 140737488355328 := tr4.max
 refine calls_of_AW (args := [.agg (cl31 b v1 v3 v4 v5 v6 v7 v8 v9).toArray, .agg (cl70 z tv1 tv2 tv3 tv4 tv5 tv6).toArray, iV q, iV u, iV v]) Try.func24 rfl (Nat.le_of_ble_eq_true rfl) (St ⟨w, Φ, []⟩ Φ []) (StP.init w Φ hΦ []) ?_
 show AW Try.prog 59 [] _ _ _ [(0, .agg (cl31 b v1 v3 v4 v5 v6 v7 v8 v9).toArray), (1, .agg (cl70 z tv1 tv2 tv3 tv4 tv5 tv6).toArray), (2, iV q), (3, iV u), (4, iV v)] _
 have hnl : b.Name.data.toList.length ≤ 9223372036854775807 := hBw.1
 have hom : b.Owners.length * 16 ≤ 140737488355328 := r1.max
 have hlm : b.Links.length * 200 ≤ 140737488355328 := r4.max
 have htm : b.Towns.length * 64 ≤ 140737488355328 := r5.max
 have hgm_ : b.Gauges.length * 48 ≤ 140737488355328 := r6.max
 have hrm : b.Roads.length * 64 ≤ 140737488355328 := r7.max
 have hsm : b.Shelters.length * 24 ≤ 140737488355328 := r8.max
 have hom2 : b.Room.length * 8 ≤ 140737488355328 := r9.max
 refine g2 ?_
 refine RW.bxA rfl rfl fun b1 => ?_
 refine RW.bxA rfl rfl fun b2 => ?_
 refine RW.alc rfl fun b3 => ?_
 refine g8 ?_
 refine RW.q (v := .pointer (some (Value.at v6 (q.toNat * 5)))) rfl (q_indexAddr rfl rfl r6.sl uT26 sz58 (by omega) (by omega) rfl) (RW.q (v := .agg (cl58 (b.Gauges.getD q.toNat default)).toArray) rfl (q_loadAgg rfl uT58 rfl sz58 rfl (Cells.repE r6 (by omega) rfl)) ?_)
 refine RW.alc rfl fun b4 => ?_
 refine RW.effn (J' := St ⟨w, Φ, []⟩ Φ [.blk b4 58 (cl58 (b.Gauges.getD q.toNat default)), .blk b3 46 [iV 0, iV 0, iV 0, iV 0], .blk b2 70 (cl70 z tv1 tv2 tv3 tv4 tv5 tv6), .blk b1 31 (cl31 b v1 v3 v4 v5 v6 v7 v8 v9)]) (e_store (v := .agg (cl58 (b.Gauges.getD q.toNat default)).toArray) 0 rfl rfl rfl sz58 rfl rfl rfl rfl rfl) ?_
 refine g21 ?_
 refine AW.cond rfl (fun hc1 => ?_) fun hc1 => ?_
 ·
  simp [-List.getD_eq_getElem?_getD, -Array.length_toList] at hc1
  have ht9 : I64 (Ft.tot (z.Own.getD (b.Gauges.getD q.toNat default).Target.toNat [])) := Ft.totTo_rng _ _
  have htg := ht (by assumption)
  refine AW.draw (J0 := St ⟨w, Φ, []⟩ Φ [.blk b4 58 (cl58 (b.Gauges.getD q.toNat default)), .blk b3 46 [iV 0, iV 0, iV 0, iV 0], .blk b2 70 (cl70 z tv1 tv2 tv3 tv4 tv5 tv6), .blk b1 31 (cl31 b v1 v3 v4 v5 v6 v7 v8 v9)]) [.q, .q, .q, .q, .q, .q, .q, .q, .q, .q, .q, .q, .q, .q, .q, .q] [0, 1, 2, 3, 4, 5, 6, 7, 8, 9, 10, 11, 12, 13, 14, 15] hmix (by kernel_rfl) ?_
  refine g4 ?_
  refine DW.q (v := .pointer (some (Value.at v3 ((((b.Gauges.getD q.toNat default).Target).toNat) * 12)))) (fun _ h => h) rfl (q_indexAddr rfl rfl r3.sl uT23 sz63 (by omega) (by omega) rfl) ?_
  refine g1 ?_
  obtain ⟨sv1, hsv1, hpc1⟩ := leaf63_4 r3 (k := ((b.Gauges.getD q.toNat default).Target).toNat) (by omega)
  refine DW.q (v := sv1) (fun _ h => h) rfl (q_load rfl uT60 rfl (Cell.phi hpc1)) ?_
  refine g4 ?_
  refine DW.q (v := .pointer (some (Value.at tv1 ((((b.Gauges.getD q.toNat default).Target).toNat) * 1)))) (fun _ h => h) rfl (q_indexAddr rfl rfl tr1.sl uT38 sz29 (by omega) (by omega) rfl) ?_
  obtain ⟨sv2, hsv2, hpc2⟩ := tr1.sub (k := ((b.Gauges.getD q.toNat default).Target).toNat) (by omega)
  refine DW.q (v := sv2) (fun _ h => h) rfl (q_load rfl uT29 rfl (Cell.phi hpc2)) (DW.q (v := iV (Ft.tot (z.Own.getD (((b.Gauges.getD q.toNat default).Target).toNat) []))) (fun _ h => h) rfl (q_call (args := #[sv2]) own64 rfl rfl (fun w1 hw1 => Total_c w1 (Go.K.hp w1) (Hp.le_refl _) (hsv2.mono hw1.phi))) (DW.q (v := iV (Fu.atC ((b.Places.getD (((b.Gauges.getD q.toNat default).Target).toNat) default).Level) (Ft.tot (z.Own.getD (((b.Gauges.getD q.toNat default).Target).toNat) [])))) (fun _ h => h) rfl (q_call (args := #[sv1, iV (Ft.tot (z.Own.getD (((b.Gauges.getD q.toNat default).Target).toNat) []))]) own20 rfl rfl (fun w1 hw1 => cAt_c w1 (Go.K.hp w1) (Hp.le_refl _) (hsv1.mono hw1.phi) ht9)) ?_))
  refine g5 ?_
  have hn9 : trN b z q = Fu.atC ((b.Places.getD (((b.Gauges.getD q.toNat default).Target).toNat) default).Level) (Ft.tot (z.Own.getD (((b.Gauges.getD q.toNat default).Target).toNat) [])) := by unfold trN; first | rw [if_pos (by omega)] | rw [if_neg (by omega)]
  have hk9 : trK b q = true := decide_eq_true (by omega)
  have hnr : -2251799813685248 ≤ Fu.atC ((b.Places.getD (((b.Gauges.getD q.toNat default).Target).toNat) default).Level) (Ft.tot (z.Own.getD (((b.Gauges.getD q.toNat default).Target).toNat) [])) ∧ Fu.atC ((b.Places.getD (((b.Gauges.getD q.toNat default).Target).toNat) default).Level) (Ft.tot (z.Own.getD (((b.Gauges.getD q.toNat default).Target).toNat) [])) ≤ 2251799813685248 := by first | omega | (have h9 := at_rng_any (b.Places.getD (b.Gauges.getD q.toNat default).Target.toNat default).Level (Ft.tot (z.Own.getD (b.Gauges.getD q.toNat default).Target.toNat [])); omega)
  refine g10 ?_
  refine RW.q (v := .agg #[iV ((Fu.atC ((b.Places.getD (((b.Gauges.getD q.toNat default).Target).toNat) default).Level) (Ft.tot (z.Own.getD (((b.Gauges.getD q.toNat default).Target).toNat) []))) - u), iV ((Fu.atC ((b.Places.getD (((b.Gauges.getD q.toNat default).Target).toNat) default).Level) (Ft.tot (z.Own.getD (((b.Gauges.getD q.toNat default).Target).toNat) []))) + v)]) rfl (q_build (vals := [(0, iV ((Fu.atC ((b.Places.getD (((b.Gauges.getD q.toNat default).Target).toNat) default).Level) (Ft.tot (z.Own.getD (((b.Gauges.getD q.toNat default).Target).toNat) []))) - u)), (1, iV ((Fu.atC ((b.Places.getD (((b.Gauges.getD q.toNat default).Target).toNat) default).Level) (Ft.tot (z.Own.getD (((b.Gauges.getD q.toNat default).Target).toNat) []))) + v))]) zero42 uT42 places42 rfl rfl) (RW.q (v := .agg #[iV q, iV z.Hour, iV ((Fu.atC ((b.Places.getD (((b.Gauges.getD q.toNat default).Target).toNat) default).Level) (Ft.tot (z.Own.getD (((b.Gauges.getD q.toNat default).Target).toNat) []))) - u), iV ((Fu.atC ((b.Places.getD (((b.Gauges.getD q.toNat default).Target).toNat) default).Level) (Ft.tot (z.Own.getD (((b.Gauges.getD q.toNat default).Target).toNat) []))) + v)]) rfl (q_build (vals := [(0, iV q), (1, iV z.Hour), (2, .agg #[iV ((Fu.atC ((b.Places.getD (((b.Gauges.getD q.toNat default).Target).toNat) default).Level) (Ft.tot (z.Own.getD (((b.Gauges.getD q.toNat default).Target).toNat) []))) - u), iV ((Fu.atC ((b.Places.getD (((b.Gauges.getD q.toNat default).Target).toNat) default).Level) (Ft.tot (z.Own.getD (((b.Gauges.getD q.toNat default).Target).toNat) []))) + v)])]) zero46 uT46 places46 rfl rfl) (RW.effn (J' := St ⟨w, Φ, []⟩ Φ [.blk b4 58 (cl58 (b.Gauges.getD q.toNat default)), .blk b3 46 [iV q, iV z.Hour, iV ((Fu.atC ((b.Places.getD (((b.Gauges.getD q.toNat default).Target).toNat) default).Level) (Ft.tot (z.Own.getD (((b.Gauges.getD q.toNat default).Target).toNat) []))) - u), iV ((Fu.atC ((b.Places.getD (((b.Gauges.getD q.toNat default).Target).toNat) default).Level) (Ft.tot (z.Own.getD (((b.Gauges.getD q.toNat default).Target).toNat) []))) + v)], .blk b2 70 (cl70 z tv1 tv2 tv3 tv4 tv5 tv6), .blk b1 31 (cl31 b v1 v3 v4 v5 v6 v7 v8 v9)]) (e_store (v := .agg #[iV q, iV z.Hour, iV ((Fu.atC ((b.Places.getD (((b.Gauges.getD q.toNat default).Target).toNat) default).Level) (Ft.tot (z.Own.getD (((b.Gauges.getD q.toNat default).Target).toNat) []))) - u), iV ((Fu.atC ((b.Places.getD (((b.Gauges.getD q.toNat default).Target).toNat) default).Level) (Ft.tot (z.Own.getD (((b.Gauges.getD q.toNat default).Target).toNat) []))) + v)]) 1 rfl rfl rfl sz46 rfl rfl rfl rfl rfl) ?_))
  refine g4 ?_
  refine fin_cell2 (cs := [iV q, iV z.Hour, iV ((Fu.atC ((b.Places.getD (((b.Gauges.getD q.toNat default).Target).toNat) default).Level) (Ft.tot (z.Own.getD (((b.Gauges.getD q.toNat default).Target).toNat) []))) - u), iV ((Fu.atC ((b.Places.getD (((b.Gauges.getD q.toNat default).Target).toNat) default).Level) (Ft.tot (z.Own.getD (((b.Gauges.getD q.toNat default).Target).toNat) []))) + v)]) (v := .bool true) rfl rfl rfl rfl uT46 rfl sz46 rfl (Cells.blk 1 rfl) (fun w' hw => ?_)
  refine ⟨?_, hw.below rfl⟩
  rw [show trK b q = true from hk9, show truR b z q u v = (⟨q, z.Hour, ⟨trN b z q - u, trN b z q + v⟩⟩ : Bt.Reading) from if_pos hk9, hn9]
  try rfl
 ·
  simp [-List.getD_eq_getElem?_getD, -Array.length_toList] at hc1
  refine g6 ?_
  refine AW.cond rfl (fun hc2 => ?_) fun hc2 => ?_
  ·
   simp [-List.getD_eq_getElem?_getD, -Array.length_toList] at hc2
   have htg := ht2 (by omega)
   refine AW.region (RW.q (v := pV b2 4) rfl (q_fieldAddr rfl uT70 rfl sz68 rfl) (RW.q (v := tv4) rfl (q_load rfl uT68 rfl (Cell.blk 2 rfl rfl)) (RW.q (v := pV b4 2) rfl (q_fieldAddr rfl uT58 rfl sz3 rfl) (RW.q (v := iV ((b.Gauges.getD q.toNat default).Target)) rfl (q_load rfl uT3 rfl (Cell.blk 0 rfl rfl)) (RW.q (v := .pointer (some (Value.at tv4 ((((b.Gauges.getD q.toNat default).Target).toNat) * 4)))) rfl (q_indexAddr rfl rfl tr4.sl uT68 sz114 (by omega) (by omega) rfl) ?_)))))
   refine g1 ?_
   refine RW.q (v := iV ((z.Gates.getD (((b.Gauges.getD q.toNat default).Target).toNat) default).Pos)) rfl (q_load rfl uT3 rfl (Cell.repE (j := 0) tr4 (by omega) rfl)) ?_
   refine g5 ?_
   have hn9 : trN b z q = (z.Gates.getD (((b.Gauges.getD q.toNat default).Target).toNat) default).Pos := by unfold trN; first | rw [if_pos (by omega)] | rw [if_neg (by omega)]
   have hk9 : trK b q = true := decide_eq_true (by omega)
   have hnr : -2251799813685248 ≤ (z.Gates.getD (((b.Gauges.getD q.toNat default).Target).toNat) default).Pos ∧ (z.Gates.getD (((b.Gauges.getD q.toNat default).Target).toNat) default).Pos ≤ 2251799813685248 := by first | omega | (have h9 := at_rng_any (b.Places.getD (b.Gauges.getD q.toNat default).Target.toNat default).Level (Ft.tot (z.Own.getD (b.Gauges.getD q.toNat default).Target.toNat [])); omega)
   refine g10 ?_
   refine RW.q (v := .agg #[iV (((z.Gates.getD (((b.Gauges.getD q.toNat default).Target).toNat) default).Pos) - u), iV (((z.Gates.getD (((b.Gauges.getD q.toNat default).Target).toNat) default).Pos) + v)]) rfl (q_build (vals := [(0, iV (((z.Gates.getD (((b.Gauges.getD q.toNat default).Target).toNat) default).Pos) - u)), (1, iV (((z.Gates.getD (((b.Gauges.getD q.toNat default).Target).toNat) default).Pos) + v))]) zero42 uT42 places42 rfl rfl) (RW.q (v := .agg #[iV q, iV z.Hour, iV (((z.Gates.getD (((b.Gauges.getD q.toNat default).Target).toNat) default).Pos) - u), iV (((z.Gates.getD (((b.Gauges.getD q.toNat default).Target).toNat) default).Pos) + v)]) rfl (q_build (vals := [(0, iV q), (1, iV z.Hour), (2, .agg #[iV (((z.Gates.getD (((b.Gauges.getD q.toNat default).Target).toNat) default).Pos) - u), iV (((z.Gates.getD (((b.Gauges.getD q.toNat default).Target).toNat) default).Pos) + v)])]) zero46 uT46 places46 rfl rfl) (RW.effn (J' := St ⟨w, Φ, []⟩ Φ [.blk b4 58 (cl58 (b.Gauges.getD q.toNat default)), .blk b3 46 [iV q, iV z.Hour, iV (((z.Gates.getD (((b.Gauges.getD q.toNat default).Target).toNat) default).Pos) - u), iV (((z.Gates.getD (((b.Gauges.getD q.toNat default).Target).toNat) default).Pos) + v)], .blk b2 70 (cl70 z tv1 tv2 tv3 tv4 tv5 tv6), .blk b1 31 (cl31 b v1 v3 v4 v5 v6 v7 v8 v9)]) (e_store (v := .agg #[iV q, iV z.Hour, iV (((z.Gates.getD (((b.Gauges.getD q.toNat default).Target).toNat) default).Pos) - u), iV (((z.Gates.getD (((b.Gauges.getD q.toNat default).Target).toNat) default).Pos) + v)]) 1 rfl rfl rfl sz46 rfl rfl rfl rfl rfl) ?_))
   refine g4 ?_
   refine fin_cell2 (cs := [iV q, iV z.Hour, iV (((z.Gates.getD (((b.Gauges.getD q.toNat default).Target).toNat) default).Pos) - u), iV (((z.Gates.getD (((b.Gauges.getD q.toNat default).Target).toNat) default).Pos) + v)]) (v := .bool true) rfl rfl rfl rfl uT46 rfl sz46 rfl (Cells.blk 1 rfl) (fun w' hw => ?_)
   refine ⟨?_, hw.below rfl⟩
   rw [show trK b q = true from hk9, show truR b z q u v = (⟨q, z.Hour, ⟨trN b z q - u, trN b z q + v⟩⟩ : Bt.Reading) from if_pos hk9, hn9]
   try rfl
  ·
   simp [-List.getD_eq_getElem?_getD, -Array.length_toList] at hc2
   refine g2 ?_
   refine RW.q (v := .agg #[iV 0, iV 0, iV 0, iV 0]) rfl (q_build (vals := []) zero46 uT46 places46 rfl rfl) (RW.effn (J' := St ⟨w, Φ, []⟩ Φ [.blk b4 58 (cl58 (b.Gauges.getD q.toNat default)), .blk b3 46 [iV 0, iV 0, iV 0, iV 0], .blk b2 70 (cl70 z tv1 tv2 tv3 tv4 tv5 tv6), .blk b1 31 (cl31 b v1 v3 v4 v5 v6 v7 v8 v9)]) (e_store (v := .agg #[iV 0, iV 0, iV 0, iV 0]) 1 rfl rfl rfl sz46 rfl rfl rfl rfl rfl) ?_)
   refine g6 ?_
   refine fin_cell2 (cs := [iV 0, iV 0, iV 0, iV 0]) (v := .bool false) rfl rfl rfl rfl uT46 rfl sz46 rfl (Cells.blk 1 rfl) (fun w' hw => ?_)
   refine ⟨?_, hw.below rfl⟩
   have hk9 : trK b q = false := decide_eq_false (by omega)
   rw [hk9, show truR b z q u v = default from if_neg (by rw [hk9]; simp)]
   try rfl
end Go.Proofs.Ytblfeidlnhdekaa
