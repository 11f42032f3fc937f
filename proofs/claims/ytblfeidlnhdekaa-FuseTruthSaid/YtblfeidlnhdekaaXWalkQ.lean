/- Walks (part WalkQ), printed by walk2.py. Conditions: those of each theorem. -/
import Derived.Test.YtblfeidlnhdekaaXWalkP
namespace Go.Proofs.Ytblfeidlnhdekaa
open Go Go.K Go.RowKit
set_option maxRecDepth 8000
set_option maxHeartbeats 1000000
attribute [local irreducible] AW RW DW Post Qt
theorem sum_ok {xs : List Int} {m : Int} (h : Ft.SumOk xs m) (hm : 0 ≤ m) : ∀ k, k ≤ xs.length → 0 ≤ Ba.sumTo xs k ∧ Ba.sumTo xs k ≤ m
 | 0, _ => by unfold Ba.sumTo; omega
 | k + 1, hk => by
  have ih := sum_ok h hm k (by omega)
  have hx := h k (by omega)
  unfold Ba.sumTo
  omega
theorem sum_rng (xs : List Int) (m : Int) (hm : 0 ≤ m) : 0 ≤ (if Ft.SumOk xs m then Ba.sumTo xs xs.length else 0) ∧ (if Ft.SumOk xs m then Ba.sumTo xs xs.length else 0) ≤ m := by
 split
 ·
  exact sum_ok (by assumption) hm _ (Nat.le_refl _)
 ·
  omega
theorem lit_nn {b : Bt.Basin} {z : Bt.State} (h : LitOk b z) : ∀ k, k ≤ z.Own.length → 0 ≤ Ft.litTo z.Own k
 | 0, _ => by unfold Ft.litTo; omega
 | k + 1, hk => by
  have ih := lit_nn h k (by omega)
  have hp := Ft.pool_tot (pool_f (h.1 k (by omega)).1)
  unfold Ft.litTo
  omega
theorem qu_nn {b : Bt.Basin} {z : Bt.State} (h : LitOk b z) : ∀ k, k ≤ z.Queue.length → 0 ≤ Ft.quTo z.Queue k
 | 0, _ => by unfold Ft.quTo; omega
 | k + 1, hk => by
  have ih := qu_nn h k (by omega)
  have hp := (h.2 k (by omega)).2.1
  unfold Ft.quTo
  omega
theorem lit_rng {b : Bt.Basin} {z : Bt.State} (h : LitOk b z) : 0 ≤ Ft.litTo z.Own z.Own.length + Ft.quTo z.Queue z.Queue.length ∧ Ft.litTo z.Own z.Own.length + Ft.quTo z.Queue z.Queue.length ≤ 1125899906842624 := by
 have h1 := lit_nn h _ (Nat.le_refl _)
 have h2 := qu_nn h _ (Nat.le_refl _)
 refine ⟨by omega, ?_⟩
 by_cases hq : z.Queue.length = 0
 ·
  rw [hq]
  show _ + (0 : Int) ≤ _
  by_cases ho : z.Own.length = 0
  ·
   rw [ho]; unfold Ft.litTo; omega
  ·
   have := (h.1 (z.Own.length - 1) (by omega)).2
   rw [show z.Own.length - 1 + 1 = z.Own.length by omega] at this
   omega
 ·
  have := (h.2 (z.Queue.length - 1) (by omega)).2.2
  rw [show z.Queue.length - 1 + 1 = z.Queue.length by omega] at this
  exact this
theorem litV_rng (b : Bt.Basin) (z : Bt.State) : 0 ≤ (if LitOk b z then Ft.litTo z.Own z.Own.length + Ft.quTo z.Queue z.Queue.length else 0) ∧ (if LitOk b z then Ft.litTo z.Own z.Own.length + Ft.quTo z.Queue z.Queue.length else 0) ≤ 1125899906842624 := by
 split
 ·
  exact lit_rng (by assumption)
 ·
  omega
def stBad0 (b : Bt.Basin) (z : Bt.State) : Bool := (((((((decide (z.Hour < 0)) || (decide ((16777216 : Int) < z.Hour))) || (!decide ((z.Own.length : Int) = (b.Places.length : Int)))) || (!decide ((z.Rem.length : Int) = (b.Places.length : Int)))) || (!decide ((z.Gates.length : Int) = (b.Links.length : Int)))) || (!decide ((z.In.length : Int) = (b.Owners.length : Int)))) || (!decide ((z.Out.length : Int) = (b.Owners.length : Int))))
def remBad (b : Bt.Basin) (z : Bt.State) (k : Nat) : Bool := ((decide (z.Rem.getD k 0 < 0)) || (decide (max 0 (((b.Places.getD k default).Den) - 1) < z.Rem.getD k 0)))
def gatBad (b : Bt.Basin) (z : Bt.State) (k : Nat) : Bool := ((((decide ((z.Gates.getD k default).Pos < 0)) || (decide ((b.Links.getD k default).Positions < (z.Gates.getD k default).Pos))) || (decide ((z.Gates.getD k default).Target < 0))) || (decide ((b.Links.getD k default).Positions < (z.Gates.getD k default).Target)))
def gatBa2 (b : Bt.Basin) (z : Bt.State) (k : Nat) : Bool := ((((z.Gates.getD k default).Open) && (!decide ((b.Links.getD k default).Kind = 5))) && (!decide ((b.Links.getD k default).Kind = 3)))
def StLoops (b : Bt.Basin) (z : Bt.State) : Prop := (∀ k, k < b.Places.length → remBad b z k = false) ∧ ∀ k, k < b.Links.length → gatBad b z k = false ∧ gatBa2 b z k = false
instance (b : Bt.Basin) (z : Bt.State) : Decidable (StLoops b z) := inferInstanceAs (Decidable ((∀ k, k < b.Places.length → remBad b z k = false) ∧ ∀ k, k < b.Links.length → gatBad b z k = false ∧ gatBa2 b z k = false))
def stepB (b : Bt.Basin) (z : Bt.State) : Bool := !stBad0 b z && (decide (StLoops b z) && (decide (LitOk b z) && (decide (Ft.SumOk z.In 1152921504606846976) && (decide (Ft.SumOk z.Out (((if Ft.SumOk z.In 1152921504606846976 then Ba.sumTo z.In z.In.length else 0) + 1125899906842624) - (if LitOk b z then Ft.litTo z.Own z.Own.length + Ft.quTo z.Queue z.Queue.length else 0)))))))
theorem stepRight_c (w : World) (Φ : Hp) (hΦ : Hp.le Φ (hp w)) {b : Bt.Basin} {cs : List Value} (hB : RepV Φ b cs) {z : Bt.State} {zcs : List Value} (tH : RepV Φ z zcs) (hp : RPlaces b) :
  Calls Try.prog 62 #[.agg cs.toArray, .agg zcs.toArray] w fun e w' => e = .returned (.bool (stepB b z)) ∧ Bel w.heap.size w w' := by
 obtain ⟨v1, v3, v4, v5, v6, v7, v8, v9, hcs, hBw, r1, r3, r4, r5, r6, r7, r8, r9⟩ := (show Rep.rep Φ b cs from hB)
 subst hcs
 have hpm : b.Places.length * 152 ≤ 140737488355328 := r3.max
 obtain ⟨tv1, tv2, tv3, tv4, tv5, tv6, hzcs, hzw, tr1, tr2, tr3, tr4, tr5, tr6⟩ := (show Rep.rep Φ z zcs from tH)
 subst hzcs
 have ztm : z.Own.length * 24 ≤ 140737488355328 := tr1.max
 have zqm : z.Queue.length * 40 ≤ 140737488355328 := tr3.max
 have zgm : z.Gates.length * 24 ≤ 140737488355328 := tr4.max
 refine calls_of_AW (args := [.agg (cl31 b v1 v3 v4 v5 v6 v7 v8 v9).toArray, .agg (cl70 z tv1 tv2 tv3 tv4 tv5 tv6).toArray]) Try.func62 rfl (Nat.le_of_ble_eq_true rfl) (St ⟨w, Φ, []⟩ Φ []) (StP.init w Φ hΦ []) ?_
 show AW Try.prog 168 [] _ _ _ [(0, .agg (cl31 b v1 v3 v4 v5 v6 v7 v8 v9).toArray), (1, .agg (cl70 z tv1 tv2 tv3 tv4 tv5 tv6).toArray)] _
 have hnl : b.Name.data.toList.length ≤ 9223372036854775807 := hBw.1
 have hom : b.Owners.length * 16 ≤ 140737488355328 := r1.max
 have hlm : b.Links.length * 200 ≤ 140737488355328 := r4.max
 have htm : b.Towns.length * 64 ≤ 140737488355328 := r5.max
 have hgm_ : b.Gauges.length * 48 ≤ 140737488355328 := r6.max
 have hrm : b.Roads.length * 64 ≤ 140737488355328 := r7.max
 have hsm : b.Shelters.length * 24 ≤ 140737488355328 := r8.max
 have hom2 : b.Room.length * 8 ≤ 140737488355328 := r9.max
 refine g2 ?_
 refine RW.bxA rfl rfl fun b1 => ?_
 refine RW.bxA rfl rfl fun b2 => ?_
 refine g10 ?_
 refine RW.g (b := (decide (z.Hour < 0))) (v := pV b2 0) rfl rfl rfl (fun h => q_fieldAddr rfl uT70 rfl sz3 rfl) (RW.g (b := (decide (z.Hour < 0))) (v := iV z.Hour) rfl rfl rfl (fun h => q_load (gv_pos h) uT3 rfl (Cell.blk 0 rfl rfl)) (RW.g (b := (decide (z.Hour < 0))) (v := .bool (decide ((16777216 : Int) < z.Hour))) rfl rfl rfl (fun h => q_gtr (gv_pos h) rfl) ?_))
 obtain ⟨qb1, hqb1⟩ : ∃ qz : Bool, ((decide (z.Hour < 0)) || (decide ((16777216 : Int) < z.Hour))) = qz := ⟨_, rfl⟩
 refine RW.q (v := .bool qb1) rfl (q_as (v := .bool ((decide (z.Hour < 0)) || (decide ((16777216 : Int) < z.Hour)))) (q_pick rfl (fun hp => pkOrT hp) (fun hp => (gv_pos hp).trans (pkOrF hp))) (congrArg Value.bool hqb1)) (RW.q (v := .bool qb1) rfl (q_move rfl) (RW.g (b := qb1) (v := pV b2 1) rfl rfl rfl (fun h => q_fieldAddr rfl uT70 rfl sz38 rfl) (RW.g (b := qb1) (v := tv1) rfl rfl rfl (fun h => q_load (gv_pos h) uT38 rfl (Cell.blk 0 rfl rfl)) (RW.g (b := qb1) (v := iV (z.Own.length : Int)) rfl rfl rfl (fun h => q_len_sl (gv_pos h) tr1.sl uT38) (RW.g (b := qb1) (v := pV b1 3) rfl rfl rfl (fun h => q_fieldAddr rfl uT31 rfl sz23 rfl) (RW.g (b := qb1) (v := v3) rfl rfl rfl (fun h => q_load (gv_pos h) uT23 rfl (Cell.blk 1 rfl rfl)) (RW.g (b := qb1) (v := iV (b.Places.length : Int)) rfl rfl rfl (fun h => q_len_sl (gv_pos h) r3.sl uT23) (RW.g (b := qb1) (v := .bool (!decide ((z.Own.length : Int) = (b.Places.length : Int)))) rfl rfl rfl (fun h => q_neq (gv_pos h) (gv_pos h)) ?_))))))))
 obtain ⟨qb2, hqb2⟩ : ∃ qz : Bool, (qb1 || (!decide ((z.Own.length : Int) = (b.Places.length : Int)))) = qz := ⟨_, rfl⟩
 refine RW.q (v := .bool qb2) rfl (q_as (v := .bool (qb1 || (!decide ((z.Own.length : Int) = (b.Places.length : Int))))) (q_pick rfl (fun hp => pkOrT hp) (fun hp => (gv_pos hp).trans (pkOrF hp))) (congrArg Value.bool hqb2)) (RW.q (v := .bool qb2) rfl (q_move rfl) (RW.g (b := qb2) (v := pV b2 2) rfl rfl rfl (fun h => q_fieldAddr rfl uT70 rfl sz29 rfl) (RW.g (b := qb2) (v := tv2) rfl rfl rfl (fun h => q_load (gv_pos h) uT29 rfl (Cell.blk 0 rfl rfl)) (RW.g (b := qb2) (v := iV (z.Rem.length : Int)) rfl rfl rfl (fun h => q_len_sl (gv_pos h) tr2.sl uT29) (RW.g (b := qb2) (v := pV b1 3) rfl rfl rfl (fun h => q_fieldAddr rfl uT31 rfl sz23 rfl) (RW.g (b := qb2) (v := v3) rfl rfl rfl (fun h => q_load (gv_pos h) uT23 rfl (Cell.blk 1 rfl rfl)) (RW.g (b := qb2) (v := iV (b.Places.length : Int)) rfl rfl rfl (fun h => q_len_sl (gv_pos h) r3.sl uT23) (RW.g (b := qb2) (v := .bool (!decide ((z.Rem.length : Int) = (b.Places.length : Int)))) rfl rfl rfl (fun h => q_neq (gv_pos h) (gv_pos h)) ?_))))))))
 obtain ⟨qb3, hqb3⟩ : ∃ qz : Bool, (qb2 || (!decide ((z.Rem.length : Int) = (b.Places.length : Int)))) = qz := ⟨_, rfl⟩
 refine RW.q (v := .bool qb3) rfl (q_as (v := .bool (qb2 || (!decide ((z.Rem.length : Int) = (b.Places.length : Int))))) (q_pick rfl (fun hp => pkOrT hp) (fun hp => (gv_pos hp).trans (pkOrF hp))) (congrArg Value.bool hqb3)) (RW.q (v := .bool qb3) rfl (q_move rfl) (RW.g (b := qb3) (v := pV b2 4) rfl rfl rfl (fun h => q_fieldAddr rfl uT70 rfl sz68 rfl) (RW.g (b := qb3) (v := tv4) rfl rfl rfl (fun h => q_load (gv_pos h) uT68 rfl (Cell.blk 0 rfl rfl)) (RW.g (b := qb3) (v := iV (z.Gates.length : Int)) rfl rfl rfl (fun h => q_len_sl (gv_pos h) tr4.sl uT68) (RW.g (b := qb3) (v := pV b1 4) rfl rfl rfl (fun h => q_fieldAddr rfl uT31 rfl sz24 rfl) (RW.g (b := qb3) (v := v4) rfl rfl rfl (fun h => q_load (gv_pos h) uT24 rfl (Cell.blk 1 rfl rfl)) (RW.g (b := qb3) (v := iV (b.Links.length : Int)) rfl rfl rfl (fun h => q_len_sl (gv_pos h) r4.sl uT24) (RW.g (b := qb3) (v := .bool (!decide ((z.Gates.length : Int) = (b.Links.length : Int)))) rfl rfl rfl (fun h => q_neq (gv_pos h) (gv_pos h)) ?_))))))))
 obtain ⟨qb4, hqb4⟩ : ∃ qz : Bool, (qb3 || (!decide ((z.Gates.length : Int) = (b.Links.length : Int)))) = qz := ⟨_, rfl⟩
 refine RW.q (v := .bool qb4) rfl (q_as (v := .bool (qb3 || (!decide ((z.Gates.length : Int) = (b.Links.length : Int))))) (q_pick rfl (fun hp => pkOrT hp) (fun hp => (gv_pos hp).trans (pkOrF hp))) (congrArg Value.bool hqb4)) (RW.q (v := .bool qb4) rfl (q_move rfl) (RW.g (b := qb4) (v := pV b2 5) rfl rfl rfl (fun h => q_fieldAddr rfl uT70 rfl sz29 rfl) (RW.g (b := qb4) (v := tv5) rfl rfl rfl (fun h => q_load (gv_pos h) uT29 rfl (Cell.blk 0 rfl rfl)) (RW.g (b := qb4) (v := iV (z.In.length : Int)) rfl rfl rfl (fun h => q_len_sl (gv_pos h) tr5.sl uT29) (RW.g (b := qb4) (v := pV b1 1) rfl rfl rfl (fun h => q_fieldAddr rfl uT31 rfl sz22 rfl) (RW.g (b := qb4) (v := v1) rfl rfl rfl (fun h => q_load (gv_pos h) uT22 rfl (Cell.blk 1 rfl rfl)) (RW.g (b := qb4) (v := iV (b.Owners.length : Int)) rfl rfl rfl (fun h => q_len_sl (gv_pos h) r1.sl uT22) (RW.g (b := qb4) (v := .bool (!decide ((z.In.length : Int) = (b.Owners.length : Int)))) rfl rfl rfl (fun h => q_neq (gv_pos h) (gv_pos h)) ?_))))))))
 obtain ⟨qb5, hqb5⟩ : ∃ qz : Bool, (qb4 || (!decide ((z.In.length : Int) = (b.Owners.length : Int)))) = qz := ⟨_, rfl⟩
 refine RW.q (v := .bool qb5) rfl (q_as (v := .bool (qb4 || (!decide ((z.In.length : Int) = (b.Owners.length : Int))))) (q_pick rfl (fun hp => pkOrT hp) (fun hp => (gv_pos hp).trans (pkOrF hp))) (congrArg Value.bool hqb5)) (RW.q (v := .bool qb5) rfl (q_move rfl) (RW.g (b := qb5) (v := pV b2 6) rfl rfl rfl (fun h => q_fieldAddr rfl uT70 rfl sz29 rfl) (RW.g (b := qb5) (v := tv6) rfl rfl rfl (fun h => q_load (gv_pos h) uT29 rfl (Cell.blk 0 rfl rfl)) (RW.g (b := qb5) (v := iV (z.Out.length : Int)) rfl rfl rfl (fun h => q_len_sl (gv_pos h) tr6.sl uT29) (RW.g (b := qb5) (v := pV b1 1) rfl rfl rfl (fun h => q_fieldAddr rfl uT31 rfl sz22 rfl) (RW.g (b := qb5) (v := v1) rfl rfl rfl (fun h => q_load (gv_pos h) uT22 rfl (Cell.blk 1 rfl rfl)) (RW.g (b := qb5) (v := iV (b.Owners.length : Int)) rfl rfl rfl (fun h => q_len_sl (gv_pos h) r1.sl uT22) (RW.g (b := qb5) (v := .bool (!decide ((z.Out.length : Int) = (b.Owners.length : Int)))) rfl rfl rfl (fun h => q_neq (gv_pos h) (gv_pos h)) ?_))))))))
 obtain ⟨qb6, hqb6⟩ : ∃ qz : Bool, (qb5 || (!decide ((z.Out.length : Int) = (b.Owners.length : Int)))) = qz := ⟨_, rfl⟩
 refine RW.q (v := .bool qb6) rfl (q_as (v := .bool (qb5 || (!decide ((z.Out.length : Int) = (b.Owners.length : Int))))) (q_pick rfl (fun hp => pkOrT hp) (fun hp => (gv_pos hp).trans (pkOrF hp))) (congrArg Value.bool hqb6)) ?_
 subst hqb6 hqb5 hqb4 hqb3 hqb2 hqb1
 refine g2 ?_
 refine AW.cond rfl (fun hc1 => ?_) fun hc1 => ?_
 ·
  refine g7 ?_
  exact fin_val (v' := .bool false) rfl rfl rfl (congrArg Value.bool (show false = stepB b z by unfold stepB; rw [show stBad0 b z = true from hc1]; rfl))
 ·
  refine g4 ?_
  have hdb := hc1
  simp [-List.getD_eq_getElem?_getD, -Array.length_toList] at hdb
  refine g8 ?_
  refine AW.loop (fun s J m => ∃ (k : Nat), s = [(2, pV b1 0), (3, pV b2 0), (67, v3), (68, iV (b.Places.length : Int)), (69, iV (k : Int))] ∧ J = St ⟨w, Φ, []⟩ Φ [.blk b2 70 (cl70 z tv1 tv2 tv3 tv4 tv5 tv6), .blk b1 31 (cl31 b v1 v3 v4 v5 v6 v7 v8 v9)] ∧ m = b.Places.length - k ∧ (k ≤ b.Places.length) ∧ (∀ j, j < k → remBad b z j = false)) (s0 := _) (J1 := _) (m0 := _) ⟨0, rfl, rfl, rfl, (by omega), (fun j hj => absurd hj (by omega))⟩ ⟨rfl, rfl, rfl, rfl, rfl, trivial⟩ (fun _ h => h) ?_
  rintro _ _ _ _ ⟨k, rfl, rfl, rfl, hk, hall⟩
  refine g6 ?_
  refine AW.cond rfl (fun hc2 => ?_) fun hc2 => ?_
  ·
   simp [-List.getD_eq_getElem?_getD, -Array.length_toList] at hc2
   refine g7 ?_
   refine RW.q (v := .pointer (some (Value.at v3 (k * 12)))) rfl (q_indexAddr rfl rfl r3.sl uT23 sz63 (by omega) (by omega) rfl) ?_
   obtain ⟨cv1, hcr1, hcc1⟩ := RepSl.whole (k := k) r3 (by omega)
   obtain ⟨sv1, sv2, sv3, hcE1, hcw1, hsv1, hsv2, hsv3⟩ := (show Rep.rep _ _ _ from hcr1)
   subst hcE1
   refine RW.q (v := .agg (cl63 (b.Places.getD k default) sv1 sv2 sv3).toArray) rfl (q_loadAgg rfl uT63 rfl sz63 rfl (Cells.phiK hcc1)) ?_
   refine RW.alc rfl fun b3 => ?_
   refine g1 ?_
   refine RW.effn (J' := St ⟨w, Φ, []⟩ Φ [.blk b3 63 (cl63 (b.Places.getD k default) sv1 sv2 sv3), .blk b2 70 (cl70 z tv1 tv2 tv3 tv4 tv5 tv6), .blk b1 31 (cl31 b v1 v3 v4 v5 v6 v7 v8 v9)]) (e_store (v := .agg (cl63 (b.Places.getD k default) sv1 sv2 sv3).toArray) 0 rfl rfl rfl sz63 rfl (List.all_eq_true.2 (fun u hu => Rep.one (show Rep.rep _ _ _ from hcr1) u hu)) rfl rfl rfl) ?_
   refine g3 ?_
   have hpf := (place_f (hp.1 k (by omega)).1).2.2.2.1
   refine AW.draw (J0 := St ⟨w, Φ, []⟩ Φ [.blk b3 63 (cl63 (b.Places.getD k default) sv1 sv2 sv3), .blk b2 70 (cl70 z tv1 tv2 tv3 tv4 tv5 tv6), .blk b1 31 (cl31 b v1 v3 v4 v5 v6 v7 v8 v9)]) [.q, .q, .q, .q, .q, .q, .q, .q, .q, .q, .q, .q, .q, .q, .q, .q, .q, .q] [0, 1, 2, 3, 4, 5, 6, 7, 8, 9, 10, 11, 12, 13, 14, 15, 16, 17] hmix (by kernel_rfl) ?_
   refine g3 ?_
   refine DW.q (v := .pointer (some (Value.at tv2 (k * 1)))) (fun _ h => h) rfl (q_indexAddr rfl rfl tr2.sl uT29 sz3 (by omega) (by omega) rfl) (DW.q (v := iV (z.Rem.getD k 0)) (fun _ h => h) rfl (q_load rfl uT3 rfl (Cell.repInt tr2 (by omega))) ?_)
   refine g5 ?_
   refine DW.g (b := (decide (z.Rem.getD k 0 < 0))) (v := .pointer (some (Value.at tv2 (k * 1)))) (fun _ h => h) rfl rfl rfl (fun h => q_indexAddr (gv_pos h) (gv_pos h) tr2.sl uT29 sz3 (by (try simp [-List.getD_eq_getElem?_getD, -Array.length_toList] at h); omega) (by (try simp [-List.getD_eq_getElem?_getD, -Array.length_toList] at h); omega) rfl) ?_
   refine DW.g (b := (decide (z.Rem.getD k 0 < 0))) (v := iV (z.Rem.getD k 0)) (fun _ h => h) rfl rfl rfl (fun h => q_load (gv_pos h) uT3 rfl (Cell.repInt tr2 (by (try simp [-List.getD_eq_getElem?_getD, -Array.length_toList] at h); omega))) ?_
   refine g2 ?_
   refine DW.g (b := (decide (z.Rem.getD k 0 < 0))) (v := iV (((b.Places.getD k default).Den) - 1)) (fun _ h => h) rfl rfl rfl (fun h => q_sub (gv_pos h) rfl (by (try simp [-List.getD_eq_getElem?_getD, -Array.length_toList] at h); omega) (by (try simp [-List.getD_eq_getElem?_getD, -Array.length_toList] at h); unfold I64; omega)) ?_
   refine DW.g (b := (decide (z.Rem.getD k 0 < 0))) (v := iV (max 0 (((b.Places.getD k default).Den) - 1))) (fun _ h => h) rfl rfl rfl (fun h => q_max rfl (gv_pos h)) ?_
   refine g1 ?_
   obtain ⟨qb7, hqb7⟩ : ∃ qz : Bool, ((decide (z.Rem.getD k 0 < 0)) || (decide (max 0 (((b.Places.getD k default).Den) - 1) < z.Rem.getD k 0))) = qz := ⟨_, rfl⟩
   refine DW.q (v := .bool qb7) (fun _ h => h) rfl (q_as (v := .bool ((decide (z.Rem.getD k 0 < 0)) || (decide (max 0 (((b.Places.getD k default).Den) - 1) < z.Rem.getD k 0)))) (q_pick rfl (fun hp => pkOrT hp) (fun hp => (gv_pos hp).trans (pkOrF hp))) (congrArg Value.bool hqb7)) ?_
   subst hqb7
   refine g2 ?_
   refine AW.cond rfl (fun hc3 => ?_) fun hc3 => ?_
   ·
    refine g11 ?_
    exact fin_val (v' := .bool false) rfl rfl rfl (congrArg Value.bool (show false = stepB b z by unfold stepB; rw [show stBad0 b z = false from hc1, decide_eq_false (show ¬ StLoops b z from fun h9 => Bool.noConfusion ((h9.1 k (by omega)).symm.trans hc3))]; rfl))
   ·
    refine g7 ?_
    exact Post.back (s' := _) (J' := _) (m' := _) (by omega) ⟨k + 1, rfl, rfl, rfl, (by omega), (Fu.lt_succ hall hc3)⟩ ⟨rfl, rfl, rfl, rfl, rfl, trivial⟩ (fun _ h => StP.drop h (by exact .cons _ (.cons_cons _ (.cons_cons _ (.slnil)))))
  ·
   simp [-List.getD_eq_getElem?_getD, -Array.length_toList] at hc2
   refine g15 ?_
   have halA : ∀ j, j < b.Places.length → remBad b z j = false := fun j hj => hall j (by omega)
   refine AW.loop (fun s J m => ∃ (k : Nat), s = [(2, pV b1 0), (3, pV b2 0), (94, v4), (95, iV (b.Links.length : Int)), (96, iV (k : Int))] ∧ J = St ⟨w, Φ, []⟩ Φ [.blk b2 70 (cl70 z tv1 tv2 tv3 tv4 tv5 tv6), .blk b1 31 (cl31 b v1 v3 v4 v5 v6 v7 v8 v9)] ∧ m = b.Links.length - k ∧ (k ≤ b.Links.length) ∧ (∀ j, j < k → gatBad b z j = false ∧ gatBa2 b z j = false)) (s0 := _) (J1 := _) (m0 := _) ⟨0, rfl, rfl, rfl, (by omega), (fun j hj => absurd hj (by omega))⟩ ⟨rfl, rfl, rfl, rfl, rfl, trivial⟩ (fun _ h => h) ?_
   rintro _ _ _ _ ⟨k, rfl, rfl, rfl, hk, hal2⟩
   refine g6 ?_
   refine AW.cond (b := decide ((k : Int) < (b.Links.length : Int))) rfl (fun hc4 => ?_) (fun hc4 => ?_)
   ·
    simp [-List.getD_eq_getElem?_getD, -Array.length_toList] at hc4
    refine g3 ?_
    refine AW.block (AW.seq (AW.region (RW.q (v := iV (k : Int)) rfl (q_move rfl) (RW.q (v := .pointer (some (Value.at v4 (k * 18)))) rfl (q_indexAddr rfl rfl r4.sl uT24 sz132 (by omega) (by omega) rfl) ?_))))
    obtain ⟨cv2, hcr2, hcc2⟩ := RepSl.whole (k := k) r4 (by omega)
    obtain ⟨sv4, sv5, sv6, hcE2, hcw2, hsv4, hsv5, hsv6⟩ := (show Rep.rep _ _ _ from hcr2)
    subst hcE2
    refine RW.q (v := .agg (cl132 (b.Links.getD k default) sv4 sv5 sv6).toArray) rfl (q_loadAgg rfl uT132 rfl sz132 rfl (Cells.phiK hcc2)) (RW.eff (fun b4 : Nat => pV b4 0) (fun b4 => St ⟨w, Φ, []⟩ Φ [.blk b4 132 [.string (bs ([])), iV 0, iV 0, iV 0, nS, nS, nS, iV 0, iV 0, iV 0, iV 0, iV 0, iV 0, iV 0, iV 0, iV 0, iV 0, iV 0], .blk b2 70 (cl70 z tv1 tv2 tv3 tv4 tv5 tv6), .blk b1 31 (cl31 b v1 v3 v4 v5 v6 v7 v8 v9)]) rfl (e_alloc zero132) ?_)
    intro b4
    refine RW.q (v := iV (k : Int)) rfl (q_assign rfl) (RW.effn (J' := St ⟨w, Φ, []⟩ Φ [.blk b4 132 (cl132 (b.Links.getD k default) sv4 sv5 sv6), .blk b2 70 (cl70 z tv1 tv2 tv3 tv4 tv5 tv6), .blk b1 31 (cl31 b v1 v3 v4 v5 v6 v7 v8 v9)]) (e_store (v := .agg (cl132 (b.Links.getD k default) sv4 sv5 sv6).toArray) 0 rfl rfl rfl sz132 rfl (List.all_eq_true.2 (fun u hu => Rep.one (show Rep.rep _ _ _ from hcr2) u hu)) rfl rfl rfl) (RW.nil (Post.then_n (AW.seq (AW.region (RW.q (v := pV b2 4) rfl (q_fieldAddr rfl uT70 rfl sz68 rfl) (RW.q (v := tv4) rfl (q_load rfl uT68 rfl (Cell.blk 1 rfl rfl)) (RW.q (v := iV (k : Int)) rfl (q_move rfl) (RW.q (v := .pointer (some (Value.at tv4 (k * 4)))) rfl (q_indexAddr rfl rfl tr4.sl uT68 sz114 (by omega) (by omega) rfl) ?_)))))))))
    refine RW.q (v := .agg (cl114 (z.Gates.getD k default)).toArray) rfl (q_loadAgg rfl uT114 rfl sz114 rfl (Cells.repE tr4 (by omega) rfl)) (RW.eff (fun b5 : Nat => pV b5 0) (fun b5 => St ⟨w, Φ, []⟩ Φ [.blk b5 114 [iV 0, iV 0, .bool false, .bool false], .blk b4 132 (cl132 (b.Links.getD k default) sv4 sv5 sv6), .blk b2 70 (cl70 z tv1 tv2 tv3 tv4 tv5 tv6), .blk b1 31 (cl31 b v1 v3 v4 v5 v6 v7 v8 v9)]) rfl (e_alloc zero114) ?_)
    intro b5
    refine RW.effn (J' := St ⟨w, Φ, []⟩ Φ [.blk b5 114 (cl114 (z.Gates.getD k default)), .blk b4 132 (cl132 (b.Links.getD k default) sv4 sv5 sv6), .blk b2 70 (cl70 z tv1 tv2 tv3 tv4 tv5 tv6), .blk b1 31 (cl31 b v1 v3 v4 v5 v6 v7 v8 v9)]) (e_store (v := .agg (cl114 (z.Gates.getD k default)).toArray) 0 rfl rfl rfl sz114 rfl rfl rfl rfl rfl) ?_
    refine g14 ?_
    obtain ⟨qb8, hqb8⟩ : ∃ qz : Bool, ((decide ((z.Gates.getD k default).Pos < 0)) || (decide ((b.Links.getD k default).Positions < (z.Gates.getD k default).Pos))) = qz := ⟨_, rfl⟩
    refine RW.q (v := .bool qb8) rfl (q_as (v := .bool ((decide ((z.Gates.getD k default).Pos < 0)) || (decide ((b.Links.getD k default).Positions < (z.Gates.getD k default).Pos)))) (q_pick rfl (fun hp => pkOrT hp) (fun hp => (gv_pos hp).trans (pkOrF hp))) (congrArg Value.bool hqb8)) ?_
    refine g4 ?_
    obtain ⟨qb9, hqb9⟩ : ∃ qz : Bool, (qb8 || (decide ((z.Gates.getD k default).Target < 0))) = qz := ⟨_, rfl⟩
    refine RW.q (v := .bool qb9) rfl (q_as (v := .bool (qb8 || (decide ((z.Gates.getD k default).Target < 0)))) (q_pick rfl (fun hp => pkOrT hp) (fun hp => (gv_pos hp).trans (pkOrF hp))) (congrArg Value.bool hqb9)) ?_
    refine g6 ?_
    obtain ⟨qb10, hqb10⟩ : ∃ qz : Bool, (qb9 || (decide ((b.Links.getD k default).Positions < (z.Gates.getD k default).Target))) = qz := ⟨_, rfl⟩
    refine RW.q (v := .bool qb10) rfl (q_as (v := .bool (qb9 || (decide ((b.Links.getD k default).Positions < (z.Gates.getD k default).Target)))) (q_pick rfl (fun hp => pkOrT hp) (fun hp => (gv_pos hp).trans (pkOrF hp))) (congrArg Value.bool hqb10)) ?_
    subst hqb10 hqb9 hqb8
    refine g2 ?_
    refine AW.cond rfl (fun hc5 => ?_) fun hc5 => ?_
    ·
     refine g12 ?_
     exact fin_val (v' := .bool false) rfl rfl rfl (congrArg Value.bool (show false = stepB b z by unfold stepB; rw [show stBad0 b z = false from hc1, decide_eq_false (show ¬ StLoops b z from fun h9 => Bool.noConfusion (((h9.2 k (by omega)).1).symm.trans hc5))]; rfl))
    ·
     refine g10 ?_
     obtain ⟨qb11, hqb11⟩ : ∃ qz : Bool, (((z.Gates.getD k default).Open) && (!decide ((b.Links.getD k default).Kind = 5))) = qz := ⟨_, rfl⟩
     refine RW.q (v := .bool qb11) rfl (q_as (v := .bool (((z.Gates.getD k default).Open) && (!decide ((b.Links.getD k default).Kind = 5)))) (q_pick rfl (fun hp => (gv_pos hp).trans (pkAndT hp)) (fun hp => pkAndF hp)) (congrArg Value.bool hqb11)) ?_
     refine g4 ?_
     obtain ⟨qb12, hqb12⟩ : ∃ qz : Bool, (qb11 && (!decide ((b.Links.getD k default).Kind = 3))) = qz := ⟨_, rfl⟩
     refine RW.q (v := .bool qb12) rfl (q_as (v := .bool (qb11 && (!decide ((b.Links.getD k default).Kind = 3)))) (q_pick rfl (fun hp => (gv_pos hp).trans (pkAndT hp)) (fun hp => pkAndF hp)) (congrArg Value.bool hqb12)) ?_
     subst hqb12 hqb11
     refine g2 ?_
     refine AW.cond rfl (fun hc6 => ?_) fun hc6 => ?_
     ·
      refine g11 ?_
      exact fin_val (v' := .bool false) rfl rfl rfl (congrArg Value.bool (show false = stepB b z by unfold stepB; rw [show stBad0 b z = false from hc1, decide_eq_false (show ¬ StLoops b z from fun h9 => Bool.noConfusion (((h9.2 k (by omega)).2).symm.trans hc6))]; rfl))
     ·
      refine g7 ?_
      exact Post.back (s' := _) (J' := _) (m' := _) (by omega) ⟨k + 1, rfl, rfl, rfl, (by omega), (Fu.lt_succ hal2 ⟨hc5, hc6⟩)⟩ ⟨rfl, rfl, rfl, rfl, rfl, trivial⟩ (fun _ h => StP.drop h (by exact .cons _ (.cons _ (.cons_cons _ (.cons_cons _ (.slnil))))))
   ·
    simp [-List.getD_eq_getElem?_getD, -Array.length_toList] at hc4
    refine AW.exit (Post.then_x (Post.then_x (Post.blk_hit (Post.then_n ?_))))
    refine AW.seq (AW.region (RW.q (v := .agg (cl31 b v1 v3 v4 v5 v6 v7 v8 v9).toArray) rfl (q_loadAgg rfl uT31 rfl sz31 rfl (Cells.blk 1 rfl)) (RW.q (v := .agg (cl70 z tv1 tv2 tv3 tv4 tv5 tv6).toArray) rfl (q_loadAgg rfl uT70 rfl sz70 rfl (Cells.blk 0 rfl)) (RW.q (v := .tuple #[iV (if LitOk b z then Ft.litTo z.Own z.Own.length + Ft.quTo z.Queue z.Queue.length else 0), .bool (decide (LitOk b z))]) rfl (q_call (args := #[.agg (cl31 b v1 v3 v4 v5 v6 v7 v8 v9).toArray, .agg (cl70 z tv1 tv2 tv3 tv4 tv5 tv6).toArray]) own91 rfl rfl (fun w1 hw1 => litres_c w1 (Go.K.hp w1) (Hp.le_refl _) (hB.mono hw1.phi) (tH.mono hw1.phi))) (RW.q (v := .tuple #[iV (if LitOk b z then Ft.litTo z.Own z.Own.length + Ft.quTo z.Queue z.Queue.length else 0), .bool (decide (LitOk b z))]) rfl (q_move rfl) ?_)))))
    refine g13 ?_
    refine AW.cond rfl (fun hc7 => ?_) fun hc7 => ?_
    ·
     simp [-List.getD_eq_getElem?_getD, -Array.length_toList] at hc7
     refine g7 ?_
     exact fin_val (v' := .bool false) rfl rfl rfl (congrArg Value.bool (show false = stepB b z by unfold stepB; rw [show stBad0 b z = false from hc1, decide_eq_true (show StLoops b z from ⟨halA, fun j hj => hal2 j (by omega)⟩), decide_eq_false hc7]; rfl))
    ·
     simp [-List.getD_eq_getElem?_getD, -Array.length_toList] at hc7
     refine g3 ?_
     have hsz := fun hk : LitOk b z => lit_rng hk
     refine g3 ?_
     refine RW.q (v := .tuple #[iV (if Ft.SumOk z.In 1152921504606846976 then Ba.sumTo z.In z.In.length else 0), .bool (decide (Ft.SumOk z.In 1152921504606846976))]) rfl (q_call (args := #[tv5, iV 1152921504606846976]) own92 rfl rfl (fun w1 hw1 => sumUpTo_c w1 (Go.K.hp w1) (Hp.le_refl _) (tr5.mono hw1.phi) (by omega))) (RW.q (v := .tuple #[iV (if Ft.SumOk z.In 1152921504606846976 then Ba.sumTo z.In z.In.length else 0), .bool (decide (Ft.SumOk z.In 1152921504606846976))]) rfl (q_move rfl) ?_)
     refine g13 ?_
     refine AW.cond rfl (fun hc8 => ?_) fun hc8 => ?_
     ·
      simp [-List.getD_eq_getElem?_getD, -Array.length_toList] at hc8
      refine g7 ?_
      exact fin_val (v' := .bool false) rfl rfl rfl (congrArg Value.bool (show false = stepB b z by unfold stepB; rw [show stBad0 b z = false from hc1, decide_eq_true (show StLoops b z from ⟨halA, fun j hj => hal2 j (by omega)⟩), decide_eq_true hc7, decide_eq_false hc8]; rfl))
     ·
      simp [-List.getD_eq_getElem?_getD, -Array.length_toList] at hc8
      refine g3 ?_
      have hi9 := sum_rng z.In 1152921504606846976 (by omega)
      have hl9 := litV_rng b z
      refine g7 ?_
      refine RW.q (v := .tuple #[iV (if Ft.SumOk z.Out (((if Ft.SumOk z.In 1152921504606846976 then Ba.sumTo z.In z.In.length else 0) + 1125899906842624) - (if LitOk b z then Ft.litTo z.Own z.Own.length + Ft.quTo z.Queue z.Queue.length else 0)) then Ba.sumTo z.Out z.Out.length else 0), .bool (decide (Ft.SumOk z.Out (((if Ft.SumOk z.In 1152921504606846976 then Ba.sumTo z.In z.In.length else 0) + 1125899906842624) - (if LitOk b z then Ft.litTo z.Own z.Own.length + Ft.quTo z.Queue z.Queue.length else 0))))]) rfl (q_call (args := #[tv6, iV (((if Ft.SumOk z.In 1152921504606846976 then Ba.sumTo z.In z.In.length else 0) + 1125899906842624) - (if LitOk b z then Ft.litTo z.Own z.Own.length + Ft.quTo z.Queue z.Queue.length else 0))]) own92 rfl rfl (fun w1 hw1 => sumUpTo_c w1 (Go.K.hp w1) (Hp.le_refl _) (tr6.mono hw1.phi) (by omega))) (RW.q (v := .tuple #[iV (if Ft.SumOk z.Out (((if Ft.SumOk z.In 1152921504606846976 then Ba.sumTo z.In z.In.length else 0) + 1125899906842624) - (if LitOk b z then Ft.litTo z.Own z.Own.length + Ft.quTo z.Queue z.Queue.length else 0)) then Ba.sumTo z.Out z.Out.length else 0), .bool (decide (Ft.SumOk z.Out (((if Ft.SumOk z.In 1152921504606846976 then Ba.sumTo z.In z.In.length else 0) + 1125899906842624) - (if LitOk b z then Ft.litTo z.Own z.Own.length + Ft.quTo z.Queue z.Queue.length else 0))))]) rfl (q_move rfl) ?_)
      refine g12 ?_
      exact fin_val (v' := .bool (decide (Ft.SumOk z.Out (((if Ft.SumOk z.In 1152921504606846976 then Ba.sumTo z.In z.In.length else 0) + 1125899906842624) - (if LitOk b z then Ft.litTo z.Own z.Own.length + Ft.quTo z.Queue z.Queue.length else 0))))) rfl rfl rfl (congrArg Value.bool (show _ = stepB b z by unfold stepB; rw [show stBad0 b z = false from hc1, decide_eq_true (show StLoops b z from ⟨halA, fun j hj => hal2 j (by omega)⟩), decide_eq_true hc7, decide_eq_true hc8]; rfl))
end Go.Proofs.Ytblfeidlnhdekaa
