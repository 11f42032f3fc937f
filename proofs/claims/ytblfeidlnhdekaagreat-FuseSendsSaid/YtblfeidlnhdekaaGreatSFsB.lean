/- Lemmas. Conditions: those of each theorem. -/
import Derived.Test.YtblfeidlnhdekaaGreatSSrE
import Derived.Test.YtblfeidlnhdekaaGreatSMk2
set_option maxRecDepth 8000
set_option maxHeartbeats 16000000
namespace Go.Proofs.YtblfeidlnhdekaaGreat.Sr
open Go Go.K Go.RowKit
attribute [local irreducible] AW RW DW Post Qt
theorem Readings_c (w : World) (Φ : Hp) (hΦ : Hp.le Φ (hp w)) {b : Bt.Basin} {cs : List Value} (hB : RepV Φ b cs) {xs : List Bt.Gram} {v2x : Value} (h2 : RepSl Φ xs v2x) (hxl : xs.length ≤ 100000) {u v : Int} (hu : I64 u) (hv : I64 v) :
  Calls pg 7 #[.agg cs.toArray, v2x, iV u, iV v] w (RetS noHp w fun r Ψ => ∃ R, RepSl Ψ R r ∧ Se.Rds b xs u v R) := by
 obtain ⟨v1, v3, v4, v5, v6, v7, v8, v9, hcs, hBw, r1, r3, r4, r5, r6, r7, r8, r9⟩ := (show Rep.rep Φ b cs from hB)
 subst hcs
 have hgm : b.Gauges.length * 48 ≤ 140737488355328 := r6.max
 refine in4 124 Tryz.func7 rfl rfl hΦ ?_
 have hmx : xs.length * 48 ≤ 140737488355328 := h2.max
 have hu0 := hu
 have hv0 := hv
 unfold I64 at hu0 hv0
 refine gs2 ?_
 refine RW.bxA rfl rfl fun b1 => ?_
 refine gs6 ?_
 refine RW.ec rfl (fun w1 hw1 => voids_c rfl h2 w1 hw1) rfl rfl ?_
 intro b2
 refine gs5 ?_
 refine RW.eff (fun b3 : Nat => .map (some b3)) (fun b3 => St ⟨w, Φ, []⟩ Φ [.kmap kPlc spanV b3 (fun _ => none), .kmap kInt Value.bool b2 (Se.voidM xs), .blk b1 31 [.string b.Name, v1, iV b.Cells, v3, v4, v5, v6, v7, v8, v9, iV b.Err]]) rfl (e_kmake kPlc spanV) ?_
 intro b3
 refine gs12 ?_
 refine AW.loop (fun s J m => ∃ (k : Nat), s = [(2, iV u), (3, iV v), (4, pV b1 0), (9, .map (some b2)), (10, .map (some b3)), (26, v2x), (27, iV (xs.length : Int)), (28, iV (k : Int))] ∧ J = St ⟨w, Φ, []⟩ Φ [.kmap kPlc spanV b3 (Se.valM b xs u v (xs.take k)), .kmap kInt Value.bool b2 (Se.voidM xs), .blk b1 31 [.string b.Name, v1, iV b.Cells, v3, v4, v5, v6, v7, v8, v9, iV b.Err]] ∧ m = xs.length - k ∧ (k ≤ xs.length)) (s0 := _) (J1 := _) (m0 := _) ⟨0, rfl, rfl, rfl, (by omega)⟩ ⟨rfl, rfl, rfl, rfl, rfl, rfl, rfl, rfl, trivial⟩ (fun _ h => by rw [show Se.valM b xs u v (xs.take 0) = fun _ => none from Se.valM_nil b xs u v]; exact h) ?_
 rintro _ _ _ _ ⟨k, rfl, rfl, rfl, hk⟩
 refine gs6 ?_
 refine AW.cond rfl (fun hc1 => ?_) fun hc1 => ?_
 ·
  simp [-List.getD_eq_getElem?_getD] at hc1
  refine gs7 ?_
  refine RW.q (v := .agg #[iV ((xs.getD k default).Gauge), iV ((xs.getD k default).Seq), iV ((xs.getD k default).Clock), iV ((xs.getD k default).Value), .string ((xs.getD k default).Tag)]) rfl (q_loadAgg rfl uT57 rfl sz57 rfl (Cells.repE h2 (by omega) rfl)) ?_
  refine RW.alc rfl fun b4 => ?_
  refine gs5 ?_
  have hwk : I64 (xs.getD k default).Gauge ∧ I64 (xs.getD k default).Seq ∧ I64 (xs.getD k default).Clock ∧ I64 (xs.getD k default).Value ∧ (xs.getD k default).Tag.size ≤ maxLen := h2.wfE _ (Se.getD_mem (by omega))
  have hwg : kInt.good (xs.getD k default).Gauge := hwk.1
  refine gs3 ?_
  refine RW.c rfl (fun w1 hw1 => Right_c w1 (Go.K.hp w1) (Hp.le_refl _) (hB.mono hw1.phi) (t := (xs.getD k default))) rfl rfl ?_
  refine gs5 ?_
  refine RW.g (b := (!(decide (Se.Right b.Gauges.length (xs.getD k default))))) (v := .bool (decide (Se.VoidP xs ((xs.getD k default).Gauge)))) rfl rfl rfl (fun h => q_as (q_kLook1 (L := kInt) (ew := Value.bool) (M := Se.voidM xs) (k := (xs.getD k default).Gauge) (d := false) 2 rfl (gv_pos h) (gv_pos h) (by assumption) uT82 zero4) (show Value.bool (((Se.voidM xs) ((xs.getD k default).Gauge)).getD false) = _ from congrArg Value.bool (Se.voidM_dec _ _))) (RW.q (v := .bool ((!(decide (Se.Right b.Gauges.length (xs.getD k default)))) || (decide (Se.VoidP xs ((xs.getD k default).Gauge))))) rfl (qpO rfl rfl rfl) ?_)
  refine gs2 ?_
  refine AW.cond rfl (fun hc2 => ?_) fun hc2 => ?_
  ·
   simp [-List.getD_eq_getElem?_getD] at hc2
   refine gs8 ?_
   have hno : ¬ Se.Use b xs u v (xs.getD k default) := fun hU => by
    rcases hc2 with h9 | h9
    ·
     exact h9 hU.1
    ·
     exact hU.2.1 h9
   exact Post.back (s' := _) (J' := _) (m' := _) (by omega) ⟨k + 1, rfl, rfl, rfl, (by omega)⟩ ⟨rfl, rfl, rfl, rfl, rfl, rfl, rfl, rfl, trivial⟩ (fun _ h => by rw [Se.take_snoc (show k < xs.length by omega), Se.valM_skip hno]; exact StP.drop h (by exact .cons _ (.cons_cons _ (.cons_cons _ (.cons_cons _ (.slnil))))))
  ·
   simp [-List.getD_eq_getElem?_getD] at hc2
   refine gs3 ?_
   have hrt := hc2.1
   unfold Se.Right at hrt
   have hgi : (xs.getD k default).Gauge.toNat < b.Gauges.length := by omega
   have hck : 0 ≤ (xs.getD k default).Clock ∧ (xs.getD k default).Clock ≤ 1006633019 := hrt.2.2.1
   refine gs4 ?_
   refine RW.q (v := iV (((xs.getD k default).Gauge.toNat : Nat) : Int)) rfl (q_as (v := iV ((xs.getD k default).Gauge)) (q_load rfl uT3 rfl (Cell.blk 0 rfl rfl)) (congrArg (Value.int .i64) ((Int.toNat_of_nonneg (by omega)).symm))) (RW.q rfl (qa_ixZ rfl rfl r6.sl (by omega) (by omega)) (RW.q (v := .agg #[.string ((b.Gauges.getD ((xs.getD k default).Gauge.toNat) default).Name), iV ((b.Gauges.getD ((xs.getD k default).Gauge.toNat) default).Kind), iV ((b.Gauges.getD ((xs.getD k default).Gauge.toNat) default).Target), iV ((b.Gauges.getD ((xs.getD k default).Gauge.toNat) default).Err), iV ((b.Gauges.getD ((xs.getD k default).Gauge.toNat) default).Drift)]) rfl (q_loadAgg rfl uT49 rfl sz49 rfl (Cells.repE r6 (by omega) rfl)) ?_))
   refine RW.alc rfl fun b5 => ?_
   refine gs7 ?_
   refine RW.c rfl (fun w1 hw1 => hourOf_c w1 (Go.K.hp w1) (Hp.le_refl _) (q := (b.Gauges.getD (xs.getD k default).Gauge.toNat default)) (t := (xs.getD k default)) (by assumption)) rfl rfl (RW.q rfl (q_move rfl) ?_)
   refine gs15 ?_
   refine RW.q (v := .bool ((!(decide (Se.Sure (b.Gauges.getD (xs.getD k default).Gauge.toNat default) (xs.getD k default)))) || (decide (Se.hr (b.Gauges.getD (xs.getD k default).Gauge.toNat default) (xs.getD k default) < u)))) rfl (qpO rfl rfl rfl) ?_
   refine gs4 ?_
   refine RW.q (v := .bool (((!(decide (Se.Sure (b.Gauges.getD (xs.getD k default).Gauge.toNat default) (xs.getD k default)))) || (decide (Se.hr (b.Gauges.getD (xs.getD k default).Gauge.toNat default) (xs.getD k default) < u))) || (decide (v ≤ Se.hr (b.Gauges.getD (xs.getD k default).Gauge.toNat default) (xs.getD k default))))) rfl (qpO rfl rfl rfl) ?_
   refine gs2 ?_
   refine AW.cond rfl (fun hc3 => ?_) fun hc3 => ?_
   ·
    simp [-List.getD_eq_getElem?_getD] at hc3
    refine gs8 ?_
    have hno : ¬ Se.Use b xs u v (xs.getD k default) := fun hU => by
     have hh : Se.hr (b.Gauges.getD (xs.getD k default).Gauge.toNat default) (xs.getD k default) = Se.hourT (b.Gauges.getD (xs.getD k default).Gauge.toNat default) (xs.getD k default) := Se.hr_sure hU.2.2.1
     have hu1 : u ≤ Se.hourT (b.Gauges.getD (xs.getD k default).Gauge.toNat default) (xs.getD k default) := hU.2.2.2.1
     have hu2 : Se.hourT (b.Gauges.getD (xs.getD k default).Gauge.toNat default) (xs.getD k default) < v := hU.2.2.2.2
     rcases hc3 with (h9 | h9) | h9
     ·
      exact h9 hU.2.2.1
     ·
      omega
     ·
      omega
    exact Post.back (s' := _) (J' := _) (m' := _) (by omega) ⟨k + 1, rfl, rfl, rfl, (by omega)⟩ ⟨rfl, rfl, rfl, rfl, rfl, rfl, rfl, rfl, trivial⟩ (fun _ h => by rw [Se.take_snoc (show k < xs.length by omega), Se.valM_skip hno]; exact StP.drop h (by exact .cons _ (.cons _ (.cons_cons _ (.cons_cons _ (.cons_cons _ (.slnil)))))))
   ·
    simp [-List.getD_eq_getElem?_getD] at hc3
    refine gs3 ?_
    have hwq := r6.wfE _ (Se.getD_mem hgi)
    have hxv : I64 (xs.getD k default).Value := hwk.2.2.2.1
    have hxe : I64 (b.Gauges.getD (xs.getD k default).Gauge.toNat default).Err := hwq.2.2.2.1
    have hB_0 := hB
    have r6_0 := r6
    have h2_0 := h2
    refine AW.draw (J0 := St ⟨w, Φ, []⟩ Φ [.blk b5 49 [.string ((b.Gauges.getD ((xs.getD k default).Gauge.toNat) default).Name), iV ((b.Gauges.getD ((xs.getD k default).Gauge.toNat) default).Kind), iV ((b.Gauges.getD ((xs.getD k default).Gauge.toNat) default).Target), iV ((b.Gauges.getD ((xs.getD k default).Gauge.toNat) default).Err), iV ((b.Gauges.getD ((xs.getD k default).Gauge.toNat) default).Drift)], .blk b4 57 [iV ((xs.getD k default).Gauge), iV ((xs.getD k default).Seq), iV ((xs.getD k default).Clock), iV ((xs.getD k default).Value), .string ((xs.getD k default).Tag)], .kmap kPlc spanV b3 (Se.valM b xs u v (xs.take k)), .kmap kInt Value.bool b2 (Se.voidM xs), .blk b1 31 [.string b.Name, v1, iV b.Cells, v3, v4, v5, v6, v7, v8, v9, iV b.Err]]) [.q, .q, .q, .q, .q, .q, .q, .q, .q, .q, .q, .e, .e] [0, 1, 2, 3, 4, 5, 6, 7, 8, 9, 10, 11, 12] hmix (by kernel_rfl) ?_
    refine gs4 ?_
    refine DW.c (fun _ h => h) rfl (fun w1 hw1 => Sub_c w1 (Go.K.hp w1) (Hp.le_refl _) (by assumption) (by assumption)) rfl rfl ?_
    refine gs4 ?_
    refine DW.c (fun _ h => h) rfl (fun w1 hw1 => Add_c w1 (Go.K.hp w1) (Hp.le_refl _) (by assumption) (by assumption)) rfl rfl (DW.q (v := .agg #[iV (Se.subS ((xs.getD k default).Value) ((b.Gauges.getD ((xs.getD k default).Gauge.toNat) default).Err)), iV (Se.addS ((xs.getD k default).Value) ((b.Gauges.getD ((xs.getD k default).Gauge.toNat) default).Err))]) (fun _ h => h) rfl (q_build (vals := [(0, iV (Se.subS ((xs.getD k default).Value) ((b.Gauges.getD ((xs.getD k default).Gauge.toNat) default).Err))), (1, iV (Se.addS ((xs.getD k default).Value) ((b.Gauges.getD ((xs.getD k default).Gauge.toNat) default).Err)))]) zero51 uT51 places51 rfl rfl) (DW.eff (fun b6 : Nat => pV b6 0) (fun b6 => St ⟨w, Φ, []⟩ Φ [.blk b6 51 [iV 0, iV 0], .blk b5 49 [.string ((b.Gauges.getD ((xs.getD k default).Gauge.toNat) default).Name), iV ((b.Gauges.getD ((xs.getD k default).Gauge.toNat) default).Kind), iV ((b.Gauges.getD ((xs.getD k default).Gauge.toNat) default).Target), iV ((b.Gauges.getD ((xs.getD k default).Gauge.toNat) default).Err), iV ((b.Gauges.getD ((xs.getD k default).Gauge.toNat) default).Drift)], .blk b4 57 [iV ((xs.getD k default).Gauge), iV ((xs.getD k default).Seq), iV ((xs.getD k default).Clock), iV ((xs.getD k default).Value), .string ((xs.getD k default).Tag)], .kmap kPlc spanV b3 (Se.valM b xs u v (xs.take k)), .kmap kInt Value.bool b2 (Se.voidM xs), .blk b1 31 [.string b.Name, v1, iV b.Cells, v3, v4, v5, v6, v7, v8, v9, iV b.Err]]) (fun _ _ => (fun _ h => (StP.drop h (by exact .cons _ (.cons_cons _ (.cons_cons _ (.cons_cons _ (.cons_cons _ (.cons_cons _ (.slnil)))))))))) rfl (e_alloc zero51) ?_))
    intro b6
    refine DW.effn (J' := St ⟨w, Φ, []⟩ Φ [.blk b6 51 [iV (Se.subS ((xs.getD k default).Value) ((b.Gauges.getD ((xs.getD k default).Gauge.toNat) default).Err)), iV (Se.addS ((xs.getD k default).Value) ((b.Gauges.getD ((xs.getD k default).Gauge.toNat) default).Err))], .blk b5 49 [.string ((b.Gauges.getD ((xs.getD k default).Gauge.toNat) default).Name), iV ((b.Gauges.getD ((xs.getD k default).Gauge.toNat) default).Kind), iV ((b.Gauges.getD ((xs.getD k default).Gauge.toNat) default).Target), iV ((b.Gauges.getD ((xs.getD k default).Gauge.toNat) default).Err), iV ((b.Gauges.getD ((xs.getD k default).Gauge.toNat) default).Drift)], .blk b4 57 [iV ((xs.getD k default).Gauge), iV ((xs.getD k default).Seq), iV ((xs.getD k default).Clock), iV ((xs.getD k default).Value), .string ((xs.getD k default).Tag)], .kmap kPlc spanV b3 (Se.valM b xs u v (xs.take k)), .kmap kInt Value.bool b2 (Se.voidM xs), .blk b1 31 [.string b.Name, v1, iV b.Cells, v3, v4, v5, v6, v7, v8, v9, iV b.Err]]) (fun h => absurd rfl h) (e_store (v := .agg #[iV (Se.subS ((xs.getD k default).Value) ((b.Gauges.getD ((xs.getD k default).Gauge.toNat) default).Err)), iV (Se.addS ((xs.getD k default).Value) ((b.Gauges.getD ((xs.getD k default).Gauge.toNat) default).Err))]) 0 rfl rfl rfl sz51 rfl rfl rfl rfl rfl) ?_
    refine gs7 ?_
    refine RW.q (v := .agg #[iV (Se.hr (b.Gauges.getD (xs.getD k default).Gauge.toNat default) (xs.getD k default)), iV ((xs.getD k default).Gauge)]) rfl (q_build (vals := [(0, iV (Se.hr (b.Gauges.getD (xs.getD k default).Gauge.toNat default) (xs.getD k default))), (1, iV ((xs.getD k default).Gauge))]) zero90 uT90 places90 rfl rfl) ?_
    refine RW.alc rfl fun b7 => ?_
    refine gs5 ?_
    have hpk : kPlc.good (Se.hr (b.Gauges.getD (xs.getD k default).Gauge.toNat default) (xs.getD k default), (xs.getD k default).Gauge) := ⟨by show I64 (Se.hr _ _); unfold I64; omega, hwk.1⟩
    refine gs3 ?_
    refine RW.q (v := .tuple #[.agg #[iV ((((Se.valM b xs u v (xs.take k)) (Se.hr (b.Gauges.getD (xs.getD k default).Gauge.toNat default) (xs.getD k default), (xs.getD k default).Gauge)).getD default).Lo), iV ((((Se.valM b xs u v (xs.take k)) (Se.hr (b.Gauges.getD (xs.getD k default).Gauge.toNat default) (xs.getD k default), (xs.getD k default).Gauge)).getD default).Hi)], .bool (((Se.valM b xs u v (xs.take k)) (Se.hr (b.Gauges.getD (xs.getD k default).Gauge.toNat default) (xs.getD k default), (xs.getD k default).Gauge)).isSome)]) rfl (q_kLook (L := kPlc) (ew := spanV) (M := Se.valM b xs u v (xs.take k)) (k := (Se.hr (b.Gauges.getD (xs.getD k default).Gauge.toNat default) (xs.getD k default), (xs.getD k default).Gauge)) (d := default) 4 rfl rfl rfl (by assumption) uT84 zero51) (RW.q (v := .tuple #[.agg #[iV ((((Se.valM b xs u v (xs.take k)) (Se.hr (b.Gauges.getD (xs.getD k default).Gauge.toNat default) (xs.getD k default), (xs.getD k default).Gauge)).getD default).Lo), iV ((((Se.valM b xs u v (xs.take k)) (Se.hr (b.Gauges.getD (xs.getD k default).Gauge.toNat default) (xs.getD k default), (xs.getD k default).Gauge)).getD default).Hi)], .bool (((Se.valM b xs u v (xs.take k)) (Se.hr (b.Gauges.getD (xs.getD k default).Gauge.toNat default) (xs.getD k default), (xs.getD k default).Gauge)).isSome)]) rfl (q_move rfl) ?_)
    refine gs2 ?_
    refine RW.alc rfl fun b8 => ?_
    refine gs9 ?_
    refine AW.cond rfl (fun hc4 => ?_) fun hc4 => ?_
    ·
     refine gs11 ?_
     refine RW.q (v := .agg #[iV (max ((((Se.valM b xs u v (xs.take k)) (Se.hr (b.Gauges.getD (xs.getD k default).Gauge.toNat default) (xs.getD k default), (xs.getD k default).Gauge)).getD default).Lo) (Se.subS ((xs.getD k default).Value) ((b.Gauges.getD ((xs.getD k default).Gauge.toNat) default).Err))), iV (min ((((Se.valM b xs u v (xs.take k)) (Se.hr (b.Gauges.getD (xs.getD k default).Gauge.toNat default) (xs.getD k default), (xs.getD k default).Gauge)).getD default).Hi) (Se.addS ((xs.getD k default).Value) ((b.Gauges.getD ((xs.getD k default).Gauge.toNat) default).Err)))]) rfl (q_build (vals := [(0, iV (max ((((Se.valM b xs u v (xs.take k)) (Se.hr (b.Gauges.getD (xs.getD k default).Gauge.toNat default) (xs.getD k default), (xs.getD k default).Gauge)).getD default).Lo) (Se.subS ((xs.getD k default).Value) ((b.Gauges.getD ((xs.getD k default).Gauge.toNat) default).Err)))), (1, iV (min ((((Se.valM b xs u v (xs.take k)) (Se.hr (b.Gauges.getD (xs.getD k default).Gauge.toNat default) (xs.getD k default), (xs.getD k default).Gauge)).getD default).Hi) (Se.addS ((xs.getD k default).Value) ((b.Gauges.getD ((xs.getD k default).Gauge.toNat) default).Err))))]) zero51 uT51 places51 rfl rfl) ?_
     refine gs7 ?_
     refine RW.effn (J' := St ⟨w, Φ, []⟩ Φ [.blk b8 51 [iV ((((Se.valM b xs u v (xs.take k)) (Se.hr (b.Gauges.getD (xs.getD k default).Gauge.toNat default) (xs.getD k default), (xs.getD k default).Gauge)).getD default).Lo), iV ((((Se.valM b xs u v (xs.take k)) (Se.hr (b.Gauges.getD (xs.getD k default).Gauge.toNat default) (xs.getD k default), (xs.getD k default).Gauge)).getD default).Hi)], .blk b7 90 [iV (Se.hr (b.Gauges.getD (xs.getD k default).Gauge.toNat default) (xs.getD k default)), iV ((xs.getD k default).Gauge)], .blk b6 51 [iV (max ((((Se.valM b xs u v (xs.take k)) (Se.hr (b.Gauges.getD (xs.getD k default).Gauge.toNat default) (xs.getD k default), (xs.getD k default).Gauge)).getD default).Lo) (Se.subS ((xs.getD k default).Value) ((b.Gauges.getD ((xs.getD k default).Gauge.toNat) default).Err))), iV (min ((((Se.valM b xs u v (xs.take k)) (Se.hr (b.Gauges.getD (xs.getD k default).Gauge.toNat default) (xs.getD k default), (xs.getD k default).Gauge)).getD default).Hi) (Se.addS ((xs.getD k default).Value) ((b.Gauges.getD ((xs.getD k default).Gauge.toNat) default).Err)))], .blk b5 49 [.string ((b.Gauges.getD ((xs.getD k default).Gauge.toNat) default).Name), iV ((b.Gauges.getD ((xs.getD k default).Gauge.toNat) default).Kind), iV ((b.Gauges.getD ((xs.getD k default).Gauge.toNat) default).Target), iV ((b.Gauges.getD ((xs.getD k default).Gauge.toNat) default).Err), iV ((b.Gauges.getD ((xs.getD k default).Gauge.toNat) default).Drift)], .blk b4 57 [iV ((xs.getD k default).Gauge), iV ((xs.getD k default).Seq), iV ((xs.getD k default).Clock), iV ((xs.getD k default).Value), .string ((xs.getD k default).Tag)], .kmap kPlc spanV b3 (fun j => if j = (Se.hr (b.Gauges.getD (xs.getD k default).Gauge.toNat default) (xs.getD k default), (xs.getD k default).Gauge) then some (⟨max ((((Se.valM b xs u v (xs.take k)) (Se.hr (b.Gauges.getD (xs.getD k default).Gauge.toNat default) (xs.getD k default), (xs.getD k default).Gauge)).getD default).Lo) (Se.subS ((xs.getD k default).Value) ((b.Gauges.getD ((xs.getD k default).Gauge.toNat) default).Err)), min ((((Se.valM b xs u v (xs.take k)) (Se.hr (b.Gauges.getD (xs.getD k default).Gauge.toNat default) (xs.getD k default), (xs.getD k default).Gauge)).getD default).Hi) (Se.addS ((xs.getD k default).Value) ((b.Gauges.getD ((xs.getD k default).Gauge.toNat) default).Err))⟩ : Bt.Span) else (Se.valM b xs u v (xs.take k)) j), .kmap kInt Value.bool b2 (Se.voidM xs), .blk b1 31 [.string b.Name, v1, iV b.Cells, v3, v4, v5, v6, v7, v8, v9, iV b.Err]]) (e_kPut (L := kPlc) (ew := spanV) (M := Se.valM b xs u v (xs.take k)) (k := (Se.hr (b.Gauges.getD (xs.getD k default).Gauge.toNat default) (xs.getD k default), (xs.getD k default).Gauge)) (v := (⟨max ((((Se.valM b xs u v (xs.take k)) (Se.hr (b.Gauges.getD (xs.getD k default).Gauge.toNat default) (xs.getD k default), (xs.getD k default).Gauge)).getD default).Lo) (Se.subS ((xs.getD k default).Value) ((b.Gauges.getD ((xs.getD k default).Gauge.toNat) default).Err)), min ((((Se.valM b xs u v (xs.take k)) (Se.hr (b.Gauges.getD (xs.getD k default).Gauge.toNat default) (xs.getD k default), (xs.getD k default).Gauge)).getD default).Hi) (Se.addS ((xs.getD k default).Value) ((b.Gauges.getD ((xs.getD k default).Gauge.toNat) default).Err))⟩ : Bt.Span)) 5 rfl rfl rfl rfl (by assumption) uT84 rfl) ?_
     refine gs7 ?_
     have hU : Se.Use b xs u v (xs.getD k default) := ⟨hc2.1, hc2.2, hc3.1.1, by have h9 : Se.hr (b.Gauges.getD (xs.getD k default).Gauge.toNat default) (xs.getD k default) = Se.hourT (b.Gauges.getD (xs.getD k default).Gauge.toNat default) (xs.getD k default) := Se.hr_sure hc3.1.1; show u ≤ Se.hourT (b.Gauges.getD (xs.getD k default).Gauge.toNat default) (xs.getD k default); omega, by have h9 : Se.hr (b.Gauges.getD (xs.getD k default).Gauge.toNat default) (xs.getD k default) = Se.hourT (b.Gauges.getD (xs.getD k default).Gauge.toNat default) (xs.getD k default) := Se.hr_sure hc3.1.1; show Se.hourT (b.Gauges.getD (xs.getD k default).Gauge.toNat default) (xs.getD k default) < v; omega⟩
     obtain ⟨oz, hoz⟩ := Option.isSome_iff_exists.1 (show (Se.valM b xs u v (xs.take k) (Se.hr (b.Gauges.getD (xs.getD k default).Gauge.toNat default) (xs.getD k default), (xs.getD k default).Gauge)).isSome = true by simpa using hc4)
     have hJ : Se.joinV (Se.valM b xs u v (xs.take k) (Se.hr (b.Gauges.getD (xs.getD k default).Gauge.toNat default) (xs.getD k default), (xs.getD k default).Gauge)) (Se.loT b (xs.getD k default)) (Se.hiT b (xs.getD k default)) = ⟨max ((Se.valM b xs u v (xs.take k) (Se.hr (b.Gauges.getD (xs.getD k default).Gauge.toNat default) (xs.getD k default), (xs.getD k default).Gauge)).getD default).Lo (Se.subS (xs.getD k default).Value (b.Gauges.getD (xs.getD k default).Gauge.toNat default).Err), min ((Se.valM b xs u v (xs.take k) (Se.hr (b.Gauges.getD (xs.getD k default).Gauge.toNat default) (xs.getD k default), (xs.getD k default).Gauge)).getD default).Hi (Se.addS (xs.getD k default).Value (b.Gauges.getD (xs.getD k default).Gauge.toNat default).Err)⟩ := by rw [hoz]; rfl
     exact Post.back (s' := _) (J' := _) (m' := _) (by omega) ⟨k + 1, rfl, rfl, rfl, (by omega)⟩ ⟨rfl, rfl, rfl, rfl, rfl, rfl, rfl, rfl, trivial⟩ (fun _ h => by rw [Se.take_snoc (show k < xs.length by omega), ← Se.val_put hU rfl hJ]; exact StP.drop h (by exact .cons _ (.cons _ (.cons _ (.cons _ (.cons _ (.cons_cons _ (.cons_cons _ (.cons_cons _ (.slnil))))))))))
    ·
     refine gs6 ?_
     refine RW.effn (J' := St ⟨w, Φ, []⟩ Φ [.blk b8 51 [iV ((((Se.valM b xs u v (xs.take k)) (Se.hr (b.Gauges.getD (xs.getD k default).Gauge.toNat default) (xs.getD k default), (xs.getD k default).Gauge)).getD default).Lo), iV ((((Se.valM b xs u v (xs.take k)) (Se.hr (b.Gauges.getD (xs.getD k default).Gauge.toNat default) (xs.getD k default), (xs.getD k default).Gauge)).getD default).Hi)], .blk b7 90 [iV (Se.hr (b.Gauges.getD (xs.getD k default).Gauge.toNat default) (xs.getD k default)), iV ((xs.getD k default).Gauge)], .blk b6 51 [iV (Se.subS ((xs.getD k default).Value) ((b.Gauges.getD ((xs.getD k default).Gauge.toNat) default).Err)), iV (Se.addS ((xs.getD k default).Value) ((b.Gauges.getD ((xs.getD k default).Gauge.toNat) default).Err))], .blk b5 49 [.string ((b.Gauges.getD ((xs.getD k default).Gauge.toNat) default).Name), iV ((b.Gauges.getD ((xs.getD k default).Gauge.toNat) default).Kind), iV ((b.Gauges.getD ((xs.getD k default).Gauge.toNat) default).Target), iV ((b.Gauges.getD ((xs.getD k default).Gauge.toNat) default).Err), iV ((b.Gauges.getD ((xs.getD k default).Gauge.toNat) default).Drift)], .blk b4 57 [iV ((xs.getD k default).Gauge), iV ((xs.getD k default).Seq), iV ((xs.getD k default).Clock), iV ((xs.getD k default).Value), .string ((xs.getD k default).Tag)], .kmap kPlc spanV b3 (fun j => if j = (Se.hr (b.Gauges.getD (xs.getD k default).Gauge.toNat default) (xs.getD k default), (xs.getD k default).Gauge) then some (⟨Se.subS ((xs.getD k default).Value) ((b.Gauges.getD ((xs.getD k default).Gauge.toNat) default).Err), Se.addS ((xs.getD k default).Value) ((b.Gauges.getD ((xs.getD k default).Gauge.toNat) default).Err)⟩ : Bt.Span) else (Se.valM b xs u v (xs.take k)) j), .kmap kInt Value.bool b2 (Se.voidM xs), .blk b1 31 [.string b.Name, v1, iV b.Cells, v3, v4, v5, v6, v7, v8, v9, iV b.Err]]) (e_kPut (L := kPlc) (ew := spanV) (M := Se.valM b xs u v (xs.take k)) (k := (Se.hr (b.Gauges.getD (xs.getD k default).Gauge.toNat default) (xs.getD k default), (xs.getD k default).Gauge)) (v := (⟨Se.subS ((xs.getD k default).Value) ((b.Gauges.getD ((xs.getD k default).Gauge.toNat) default).Err), Se.addS ((xs.getD k default).Value) ((b.Gauges.getD ((xs.getD k default).Gauge.toNat) default).Err)⟩ : Bt.Span)) 5 rfl rfl rfl rfl (by assumption) uT84 rfl) ?_
     refine gs7 ?_
     have hU : Se.Use b xs u v (xs.getD k default) := ⟨hc2.1, hc2.2, hc3.1.1, by have h9 : Se.hr (b.Gauges.getD (xs.getD k default).Gauge.toNat default) (xs.getD k default) = Se.hourT (b.Gauges.getD (xs.getD k default).Gauge.toNat default) (xs.getD k default) := Se.hr_sure hc3.1.1; show u ≤ Se.hourT (b.Gauges.getD (xs.getD k default).Gauge.toNat default) (xs.getD k default); omega, by have h9 : Se.hr (b.Gauges.getD (xs.getD k default).Gauge.toNat default) (xs.getD k default) = Se.hourT (b.Gauges.getD (xs.getD k default).Gauge.toNat default) (xs.getD k default) := Se.hr_sure hc3.1.1; show Se.hourT (b.Gauges.getD (xs.getD k default).Gauge.toNat default) (xs.getD k default) < v; omega⟩
     have hoz : Se.valM b xs u v (xs.take k) (Se.hr (b.Gauges.getD (xs.getD k default).Gauge.toNat default) (xs.getD k default), (xs.getD k default).Gauge) = none := by simpa using hc4
     have hJ : Se.joinV (Se.valM b xs u v (xs.take k) (Se.hr (b.Gauges.getD (xs.getD k default).Gauge.toNat default) (xs.getD k default), (xs.getD k default).Gauge)) (Se.loT b (xs.getD k default)) (Se.hiT b (xs.getD k default)) = ⟨Se.subS (xs.getD k default).Value (b.Gauges.getD (xs.getD k default).Gauge.toNat default).Err, Se.addS (xs.getD k default).Value (b.Gauges.getD (xs.getD k default).Gauge.toNat default).Err⟩ := by rw [hoz]; rfl
     exact Post.back (s' := _) (J' := _) (m' := _) (by omega) ⟨k + 1, rfl, rfl, rfl, (by omega)⟩ ⟨rfl, rfl, rfl, rfl, rfl, rfl, rfl, rfl, trivial⟩ (fun _ h => by rw [Se.take_snoc (show k < xs.length by omega), ← Se.val_put hU rfl hJ]; exact StP.drop h (by exact .cons _ (.cons _ (.cons _ (.cons _ (.cons _ (.cons_cons _ (.cons_cons _ (.cons_cons _ (.slnil))))))))))
 ·
  simp [-List.getD_eq_getElem?_getD] at hc1
  refine gs6 ?_
  rw [show xs.take k = xs from List.take_of_length_le (by omega)]
  refine gs8 ?_
  refine RW.eff (fun x : {q : Nat × Array MapEntry × Nat // KM kPlc spanV q.2.1 q.2.2 (Se.valM b xs u v xs)} => .pointer (some ⟨x.1.1, 0, none⟩)) (fun x => St ⟨w, Φ, []⟩ Φ [.obj x.1.1 (.mapIter (some b3) x.1.2.2 #[] x.1.2.2), .obj b3 (.map x.1.2.1 x.1.2.2), .kmap kInt Value.bool b2 (Se.voidM xs), .blk b1 31 [.string b.Name, v1, iV b.Cells, v3, v4, v5, v6, v7, v8, v9, iV b.Err]]) rfl (e_krange (L := kPlc) (ew := spanV) (M := Se.valM b xs u v xs) 0 rfl rfl uT84) ?_
  rintro ⟨⟨it1, es1, ck1⟩, hkm1⟩
  replace hkm1 : KM kPlc spanV es1 ck1 (Se.valM b xs u v xs) := hkm1
  refine gs3 ?_
  refine AW.loop (fun s J m => ∃ (seen : Array Nat), ∃ (R : List Bt.Reading), ∃ (rv : Value), s = [(20, rv), (104, pV it1 0)] ∧ J = St ⟨w, Φ, []⟩ Φ [.row rv 53 4 R.length (flat R), .obj it1 (.mapIter (some b3) ck1 seen ck1), .obj b3 (.map es1 ck1), .kmap kInt Value.bool b2 (Se.voidM xs), .blk b1 31 [.string b.Name, v1, iV b.Cells, v3, v4, v5, v6, v7, v8, v9, iV b.Err]] ∧ m = Se.left es1 seen ∧ (IsSl rv R.length) ∧ (Se.RdI es1 (Se.valM b xs u v xs) seen R)) (s0 := _) (J1 := _) (m0 := _) ⟨#[], [], _, rfl, rfl, rfl, isSl_nil, Se.RdI.start⟩ ⟨rfl, rfl, trivial⟩ (fun _ h => addNil h) ?_
  rintro _ _ _ _ ⟨seen, R, rv, rfl, rfl, rfl, hrv, hRI⟩
  refine gs1 ?_
  refine AW.nextR (L := kPlc) (ew := spanV) (M := Se.valM b xs u v xs) 1 2 rfl rfl rfl hkm1 rfl rfl (C' := fun bn => [.row rv 53 4 R.length (flat R), .obj it1 (.mapIter (some b3) ck1 (seen.push bn) ck1), .obj b3 (.map es1 ck1), .kmap kInt Value.bool b2 (Se.voidM xs), .blk b1 31 [.string b.Name, v1, iV b.Cells, v3, v4, v5, v6, v7, v8, v9, iV b.Err]]) (fun _ => rfl) ?_ ?_
  ·
   intro hall
   refine gs2 ?_
   refine AW.condF rfl ?_
   refine gs6 ?_
   have hRl := hRI.len hu hv
   refine gs2 ?_
   refine RW.ec rfl (fun w1 hw1 => sortR_c rfl (by omega) w1 hw1) rfl rfl ?_
   rintro ⟨d1, hd1⟩
   refine gs9 ?_
   have hdl := hd1.1.length_eq
   have hRw := hRI.wf hu hv
   exact fin_rep rfl rfl rfl (fun w' hw => ⟨d1, RowS.repE even53 (row_ext hw 0 rfl) hdl (by simp only [maxSl]; rw [show Rep.bytes Bt.Reading = 32 from rfl]; omega) (fun x hx => hRw x (hd1.1.mem_iff.1 hx)), Se.rds_of hd1.1 hd1.2 hRI.dst (fun r => hRI.mem hkm1 hall r)⟩)
  ·
   intro e kk xx he hns hgk hek hMk hev
   refine gs2 ?_
   refine AW.condT rfl ?_
   refine gs5 ?_
   refine RW.q (v := .tuple #[.agg #[iV kk.1, iV kk.2], .agg #[iV xx.Lo, iV xx.Hi]]) rfl (q_kentry2 (L := kPlc) (ew := spanV) (M := Se.valM b xs u v xs) (k := kk) (v := xx) 1 2 rfl rfl rfl hkm1 he hek hev) ?_
   refine gs2 ?_
   refine RW.alc rfl fun b9 => ?_
   refine RW.alc rfl fun b10 => ?_
   refine gs7 ?_
   refine RW.c rfl (fun w1 hw1 => sRight_c w1 (Go.K.hp w1) (Hp.le_refl _)) rfl rfl ?_
   refine gs2 ?_
   refine AW.cond rfl (fun hc7 => ?_) fun hc7 => ?_
   ·
    simp [-List.getD_eq_getElem?_getD] at hc7
    have hRl := hRI.len hu hv
    refine gs7 ?_
    refine RW.q (v := .agg #[iV kk.2, iV kk.1, iV xx.Lo, iV xx.Hi]) rfl (q_build (vals := [(0, iV kk.2), (1, iV kk.1), (2, .agg #[iV xx.Lo, iV xx.Hi])]) zero53 uT53 places53 rfl rfl) (RW.eff (fun b11 : Nat => (.slice (some ⟨b11, 0, none⟩) 1 1)) (fun b11 => St ⟨w, Φ, []⟩ Φ [.row (.slice (some ⟨b11, 0, none⟩) 1 1) 53 4 1 ([iV kk.2, iV kk.1, iV xx.Lo, iV xx.Hi]), .blk b10 51 [iV xx.Lo, iV xx.Hi], .blk b9 90 [iV kk.1, iV kk.2], .row rv 53 4 R.length (flat R), .obj it1 (.mapIter (some b3) ck1 (seen.push e.born) ck1), .obj b3 (.map es1 ck1), .kmap kInt Value.bool b2 (Se.voidM xs), .blk b1 31 [.string b.Name, v1, iV b.Cells, v3, v4, v5, v6, v7, v8, v9, iV b.Err]]) rfl (e_buildSlice (vals := [(0, .agg #[iV kk.2, iV kk.1, iV xx.Lo, iV xx.Hi])]) (cells := [iV kk.2, iV kk.1, iV xx.Lo, iV xx.Hi]) uT58 inf53 rfl rfl rfl (by kernel_rfl) rfl) ?_)
    intro b11
    refine RW.eff (fun xv : {vq : Value // IsSl vq (R.length + 1)} => xv.1) (fun xv => St ⟨w, Φ, []⟩ Φ [.row (.slice (some ⟨b11, 0, none⟩) 1 1) 53 4 1 ([iV kk.2, iV kk.1, iV xx.Lo, iV xx.Hi]), .blk b10 51 [iV xx.Lo, iV xx.Hi], .blk b9 90 [iV kk.1, iV kk.2], .row xv.1 53 4 ((R ++ [(⟨kk.2, kk.1, ⟨xx.Lo, xx.Hi⟩⟩ : Bt.Reading)]).length) (flat (R ++ [(⟨kk.2, kk.1, ⟨xx.Lo, xx.Hi⟩⟩ : Bt.Reading)])), .obj it1 (.mapIter (some b3) ck1 (seen.push e.born) ck1), .obj b3 (.map es1 ck1), .kmap kInt Value.bool b2 (Se.voidM xs), .blk b1 31 [.string b.Name, v1, iV b.Cells, v3, v4, v5, v6, v7, v8, v9, iV b.Err]]) rfl (e_append 3 rfl rfl rfl uT58 inf53 rfl rfl rfl (Cells.row0 0 rfl) rfl (by omega) (by omega) (fun _ => by simp [flat] <;> rfl)) ?_
    rintro ⟨va1, hva1⟩
    refine RW.wk (J' := St ⟨w, Φ, []⟩ Φ [.blk b10 51 [iV xx.Lo, iV xx.Hi], .blk b9 90 [iV kk.1, iV kk.2], .row va1 53 4 ((R ++ [(⟨kk.2, kk.1, ⟨xx.Lo, xx.Hi⟩⟩ : Bt.Reading)]).length) (flat (R ++ [(⟨kk.2, kk.1, ⟨xx.Lo, xx.Hi⟩⟩ : Bt.Reading)])), .obj it1 (.mapIter (some b3) ck1 (seen.push e.born) ck1), .obj b3 (.map es1 ck1), .kmap kInt Value.bool b2 (Se.voidM xs), .blk b1 31 [.string b.Name, v1, iV b.Cells, v3, v4, v5, v6, v7, v8, v9, iV b.Err]]) (fun _ h => StP.drop h (by exact .cons _ (.cons_cons _ (.cons_cons _ (.cons_cons _ (.cons_cons _ (.cons_cons _ (.cons_cons _ (.cons_cons _ (.slnil)))))))))) ?_
    refine gs3 ?_
    exact Post.bk ⟨seen.push e.born, R ++ [⟨kk.2, kk.1, xx⟩], va1, rfl, rfl, rfl, (by simpa using hva1), (hRI.add hkm1 he hns hek hMk hc7)⟩ (hm := Se.left_lt he hns)
   ·
    simp [-List.getD_eq_getElem?_getD] at hc7
    refine gs2 ?_
    exact Post.bk ⟨seen.push e.born, R, rv, rfl, rfl, rfl, hrv, (hRI.skip hkm1 he hek hMk (by omega))⟩ (hm := Se.left_lt he hns)
end Go.Proofs.YtblfeidlnhdekaaGreat.Sr
namespace Go.Proofs.YtblfeidlnhdekaaGreat
open Go Go.K Go.RowKit
abbrev V4 : Type := Value × Value × Value × Value
abbrev fuV (h : Int) (y : V4) : Value := .tuple #[.agg #[iV h, y.1, y.2.1, y.2.2.1], y.2.2.2]
theorem fuV_inj {h : Int} {x y : V4} (e : fuV h x = fuV h y) : x = y := by
 obtain ⟨a, b, c, d⟩ := x; obtain ⟨a', b', c', d'⟩ := y
 simp only [fuV, Value.tuple.injEq, Array.mk.injEq, List.cons.injEq, Value.agg.injEq, true_and, and_true] at e
 obtain ⟨⟨rfl, rfl, rfl⟩, rfl⟩ := e
 rfl
def FuT (b : Bt.Basin) (h : Bt.Hull) (l : List Bt.Reading) (y : V4) (Ψ : Hp) : Prop := RepSl Ψ (Fu.fuse b h l).V y.1 ∧ RepSl Ψ h.Queue y.2.1 ∧ RepSl Ψ (Fu.fuse b h l).K y.2.2.1 ∧ RepSl Ψ (Fu.comp (Fu.fuse b h l).N) y.2.2.2
theorem FuT.mono {b : Bt.Basin} {h : Bt.Hull} {l : List Bt.Reading} {y : V4} {Ψ Ψ' : Hp} (k : FuT b h l y Ψ) (hl : Hp.le Ψ Ψ') : FuT b h l y Ψ' := ⟨k.1.mono hl, k.2.1.mono hl, k.2.2.1.mono hl, k.2.2.2.mono hl⟩
theorem FuT.rep {b : Bt.Basin} {h : Bt.Hull} {l : List Bt.Reading} {y : V4} {Ψ : Hp} (k : FuT b h l y Ψ) (hh : I64 h.Hour) : RepV Ψ (Fu.hullOf h (Fu.fuse b h l)) [iV h.Hour, y.1, y.2.1, y.2.2.1] := ⟨_, _, _, rfl, hh, k.1, k.2.1, k.2.2.1⟩
theorem FuT.one {b : Bt.Basin} {h : Bt.Hull} {l : List Bt.Reading} {y : V4} {Ψ : Hp} (k : FuT b h l y Ψ) (a : Int) : List.all [iV a, y.1, y.2.1, y.2.2.1] Value.oneCell' = true := by
 simp only [List.all_cons, List.all_nil, oneCell_sl k.1.sl, oneCell_sl k.2.1.sl, oneCell_sl k.2.2.1.sl]; rfl
def RdT (b : Bt.Basin) (xs : List Bt.Gram) (u v : Int) (r : Value) (Ψ : Hp) : Prop := ∃ R, RepSl Ψ R r ∧ Se.Rds b xs u v R
def FuR (b : Bt.Basin) (h : Bt.Hull) (xs : List Bt.Gram) (u v : Int) (y : V4) (Ψ : Hp) : Prop := ∃ R, Se.Rds b xs u v R ∧ FuT b h R y Ψ
section
variable (w : World) {b : Bt.Basin} {cs : List Value} (hB : RepV (hp w) b cs)
include hB
theorem rd_x {xs : List Bt.Gram} {xv : Value} (h2 : RepSl (hp w) xs xv) (hxl : xs.length ≤ 100000) {u v : Int} (hu : I64 u) (hv : I64 v) : Calls pg 7 #[.agg cs.toArray, xv, iV u, iV v] w (RetY w (fun r : Value => r) (RdT b xs u v)) :=
 (Sr.Readings_c w (hp w) (Hp.le_refl _) hB h2 hxl hu hv).mono fun _ _ ⟨r, he, hb, hT⟩ => ⟨r, he, hb, hT⟩
theorem fu_x {h : Bt.Hull} {hcs : List Value} (hH : RepV (hp w) h hcs) {l : List Bt.Reading} {lv : Value} (hl : RepSl (hp w) l lv) (hll : l.length ≤ 100000) (hfV : h.Vol.length ≤ 1000) (hfQ : h.Queue.length ≤ 1000) (hfK : h.Links.length ≤ 1000) : Calls pg 8 #[.agg cs.toArray, .agg hcs.toArray, lv] w (RetY w (fuV h.Hour) (FuT b h l)) :=
 (Fuse_c w (hp w) (Hp.le_refl _) hB hH hl hll hfV hfQ hfK).mono fun _ _ ⟨_, he, hb, va, vb, vc, vd, e, h1, h2, h3, h4⟩ => ⟨(va, vb, vc, vd), by rw [he, e], hb, h1, h2, h3, h4⟩
theorem fuR_x {h : Bt.Hull} {hcs : List Value} (hH : RepV (hp w) h hcs) {xs : List Bt.Gram} {u v : Int} {lv : Value} (hr : ∃ Ψ, Hp.le Ψ (hp w) ∧ RdT b xs u v lv Ψ) (hxl : xs.length ≤ 1000) (hfV : h.Vol.length ≤ 1000) (hfQ : h.Queue.length ≤ 1000) (hfK : h.Links.length ≤ 1000) : Calls pg 8 #[.agg cs.toArray, .agg hcs.toArray, lv] w (RetY w (fuV h.Hour) (FuR b h xs u v)) := by
 obtain ⟨Ψ, hle, R, h1, h2⟩ := hr
 exact (fu_x w hB hH (h1.mono hle) (by have := h2.len; omega) hfV hfQ hfK).mono fun _ _ ⟨y, he, hb, hT⟩ => ⟨y, he, hb, R, h2, hT⟩
end
def incG (t : Bt.Gram) : Bt.Gram := ⟨t.Gauge, t.Seq, t.Clock, t.Value + 1, t.Tag⟩
theorem incG_ne (t : Bt.Gram) : incG t ≠ t := fun h => by have := congrArg Bt.Gram.Value h; unfold incG at this; simp only at this; omega
theorem incG_wf {G : List Bt.Gram} (hG : ∀ x ∈ G, RepE.wf x) {t : Bt.Gram} (ht : t ∈ G) (hv : -1099511627776 ≤ t.Value ∧ t.Value ≤ 1099511627776) : ∀ x ∈ G ++ [incG t], RepE.wf x := fun x hx => by
 rcases List.mem_append.1 hx with h | h
 ·
  exact hG x h
 ·
  rw [List.mem_singleton.1 h]
  have hw : I64 t.Gauge ∧ I64 t.Seq ∧ I64 t.Clock ∧ I64 t.Value ∧ t.Tag.size ≤ maxLen := hG t ht
  exact ⟨hw.1, hw.2.1, hw.2.2.1, by show I64 (t.Value + 1); unfold I64; omega, hw.2.2.2.2⟩
end Go.Proofs.YtblfeidlnhdekaaGreat
