/- Lemmas. Conditions: those of each theorem. -/
import Derived.Test.YtblfeidlnhdekaaGreatSWalkR
set_option maxRecDepth 8000
set_option maxHeartbeats 16000000
namespace Go.Proofs.YtblfeidlnhdekaaGreat
open Go Go.K Go.RowKit
attribute [local irreducible] AW RW DW Post Qt
theorem hasQueue_c (w : World) (Φ : Hp) (hΦ : Hp.le Φ (hp w)) {y : Bt.Hull} {ycs : List Value} (yH : RepV Φ y ycs) {z : Bt.State} {zcs : List Value} (tH : RepV Φ z zcs) :
  Calls pg 43 #[.agg ycs.toArray, .agg zcs.toArray] w fun e w' => e = .returned (.bool (decide (Ft.HasQ y.Queue z.Queue))) ∧ Bel w.heap.size w w' := by
 obtain ⟨yv1, yv2, yv3, yhcs, yhw, yr1, yr2, yr3⟩ := (show Rep.rep Φ y ycs from yH)
 subst yhcs
 have ym1 : y.Vol.length * 16 ≤ 140737488355328 := yr1.max
 have ym2 : y.Queue.length * 32 ≤ 140737488355328 := yr2.max
 have ym3 : y.Links.length * 40 ≤ 140737488355328 := yr3.max
 obtain ⟨tv1, tv2, tv3, tv4, tv5, tv6, hzcs, hzw, tr1, tr2, tr3, tr4, tr5, tr6⟩ := (show Rep.rep Φ z zcs from tH)
 subst hzcs
 have ztm : z.Own.length * 24 ≤ 140737488355328 := tr1.max
 have zqm : z.Queue.length * 40 ≤ 140737488355328 := tr3.max
 have zgm : z.Gates.length * 24 ≤ 140737488355328 := tr4.max
 refine in2 76 Tryz.func43 rfl rfl hΦ ?_
 refine gs2 ?_
 refine RW.bxA rfl rfl fun b1 => ?_
 refine RW.bxA rfl rfl fun b2 => ?_
 refine gs5 ?_
 refine RW.eff (fun b3 : Nat => .map (some b3)) (fun b3 => St ⟨w, Φ, []⟩ Φ [.kmap kKey (Value.int .i64) b3 (fun _ => none), .blk b2 36 (cl36 z tv1 tv2 tv3 tv4 tv5 tv6), .blk b1 41 [iV y.Hour, yv1, yv2, yv3]]) rfl (e_kmake kKey (Value.int .i64)) ?_
 intro b3
 refine gs6 ?_
 refine RW.q (v := pV b2 3) rfl (q_fieldAddr rfl uT36 rfl sz33 rfl) ?_
 refine gs6 ?_
 refine AW.lp (fun s J m => ∃ (k : Nat), s = [(2, pV b1 0), (3, pV b2 0), (5, .map (some b3)), (17, tv3), (18, iV (z.Queue.length : Int)), (19, iV (k : Int))] ∧ J = St ⟨w, Φ, []⟩ Φ [.kmap kKey (Value.int .i64) b3 (Ft.sumM z.Queue k), .blk b2 36 (cl36 z tv1 tv2 tv3 tv4 tv5 tv6), .blk b1 41 [iV y.Hour, yv1, yv2, yv3]] ∧ m = z.Queue.length - k ∧ (k ≤ z.Queue.length)) ⟨0, rfl, rfl, rfl, (by omega)⟩ ?_
 rintro _ _ _ _ ⟨k, rfl, rfl, rfl, hk⟩
 refine gs6 ?_
 refine AW.cond rfl (fun hc1 => ?_) fun hc1 => ?_
 ·
  simp [-List.getD_eq_getElem?_getD, -Array.length_toList] at hc1
  refine gs7 ?_
  obtain ⟨cv1, hcr1, hcc1⟩ := RepSl.whole (k := k) tr3 (by omega)
  obtain ⟨sv1, hcE1, hcw1, hsv1⟩ := (show Rep.rep _ _ _ from hcr1)
  subst hcE1
  refine RW.q (v := .agg #[iV ((z.Queue.getD k default).At), iV ((z.Queue.getD k default).To), sv1]) rfl (q_loadAgg rfl uT144 rfl sz144 rfl (Cells.phiK hcc1)) ?_
  refine RW.alc rfl fun b4 => ?_
  refine RW.effn (J' := St ⟨w, Φ, []⟩ Φ [.blk b4 144 [iV ((z.Queue.getD k default).At), iV ((z.Queue.getD k default).To), sv1], .kmap kKey (Value.int .i64) b3 (Ft.sumM z.Queue k), .blk b2 36 (cl36 z tv1 tv2 tv3 tv4 tv5 tv6), .blk b1 41 [iV y.Hour, yv1, yv2, yv3]]) (e_store (v := .agg #[iV ((z.Queue.getD k default).At), iV ((z.Queue.getD k default).To), sv1]) 0 rfl rfl rfl sz144 rfl (List.all_eq_true.2 (fun u hu => Rep.one (show Rep.rep _ _ _ from hcr1) u hu)) rfl rfl rfl) ?_
  refine gs8 ?_
  refine RW.q (v := .agg #[iV ((z.Queue.getD k default).At), iV ((z.Queue.getD k default).To)]) rfl (q_build (vals := [(0, iV ((z.Queue.getD k default).At)), (1, iV ((z.Queue.getD k default).To))]) zero146 uT146 places146 rfl rfl) ?_
  refine RW.alc rfl fun b5 => ?_
  refine gs3 ?_
  have hkg : kKey.good ((z.Queue.getD k default).At, (z.Queue.getD k default).To) := ⟨hcw1.1, hcw1.2⟩
  have hs9 : I64 (((Ft.sumM z.Queue k) ((z.Queue.getD k default).At, (z.Queue.getD k default).To)).getD 0) := by cases h9 : (Ft.sumM z.Queue k) ((z.Queue.getD k default).At, (z.Queue.getD k default).To) with | none => (unfold I64; decide) | some x9 => exact Ft.sumM_rng _ _ _ _ h9
  have ht9 : I64 (Ft.tot (z.Queue.getD k default).Part) := Ft.totTo_rng _ _
  have yH_0 := yH
  have yr1_0 := yr1
  have yr2_0 := yr2
  have yr3_0 := yr3
  have tH_0 := tH
  have tr1_0 := tr1
  have tr2_0 := tr2
  have tr3_0 := tr3
  have tr4_0 := tr4
  have tr5_0 := tr5
  have tr6_0 := tr6
  have hcr1_0 := hcr1
  have hsv1_0 := hsv1
  refine AW.draw (J0 := St ⟨w, Φ, []⟩ Φ [.blk b5 146 [iV ((z.Queue.getD k default).At), iV ((z.Queue.getD k default).To)], .blk b4 144 [iV ((z.Queue.getD k default).At), iV ((z.Queue.getD k default).To), sv1], .kmap kKey (Value.int .i64) b3 (Ft.sumM z.Queue k), .blk b2 36 (cl36 z tv1 tv2 tv3 tv4 tv5 tv6), .blk b1 41 [iV y.Hour, yv1, yv2, yv3]]) [.q, .q, .q, .q, .q, .q, .q, .q, .q, .e] [0, 1, 2, 3, 4, 5, 6, 7, 8, 9] hmix (by kernel_rfl) ?_
  refine gs4 ?_
  refine DW.q (v := iV (((Ft.sumM z.Queue k) ((z.Queue.getD k default).At, (z.Queue.getD k default).To)).getD 0)) (fun _ h => h) rfl (q_kLook1 (L := kKey) (ew := (Value.int .i64)) (M := Ft.sumM z.Queue k) (k := ((z.Queue.getD k default).At, (z.Queue.getD k default).To)) (d := 0) 2 rfl rfl rfl (by assumption) uT142 zero3) ?_
  refine gs2 ?_
  refine DW.c (fun _ h => h) rfl (fun w1 hw1 => Total_c w1 (Go.K.hp w1) (Hp.le_refl _) (hsv1.mono hw1.phi)) rfl rfl (DW.c (fun _ h => h) rfl (fun w1 hw1 => Add_c w1 (Go.K.hp w1) (Hp.le_refl _) hs9 ht9) rfl rfl (DW.effn (J' := St ⟨w, Φ, []⟩ Φ [.blk b5 146 [iV ((z.Queue.getD k default).At), iV ((z.Queue.getD k default).To)], .blk b4 144 [iV ((z.Queue.getD k default).At), iV ((z.Queue.getD k default).To), sv1], .kmap kKey (Value.int .i64) b3 (fun j => if j = ((z.Queue.getD k default).At, (z.Queue.getD k default).To) then some (Fu.addS (((Ft.sumM z.Queue k) ((z.Queue.getD k default).At, (z.Queue.getD k default).To)).getD 0) (Ft.tot ((z.Queue.getD k default).Part))) else (Ft.sumM z.Queue k) j), .blk b2 36 (cl36 z tv1 tv2 tv3 tv4 tv5 tv6), .blk b1 41 [iV y.Hour, yv1, yv2, yv3]]) (fun h => absurd rfl h) (e_kPut (L := kKey) (ew := (Value.int .i64)) (M := Ft.sumM z.Queue k) (k := ((z.Queue.getD k default).At, (z.Queue.getD k default).To)) (v := Fu.addS (((Ft.sumM z.Queue k) ((z.Queue.getD k default).At, (z.Queue.getD k default).To)).getD 0) (Ft.tot ((z.Queue.getD k default).Part))) 2 rfl rfl rfl rfl (by assumption) uT142 rfl) ?_))
  refine gs7 ?_
  exact Post.bk ⟨k + 1, rfl, rfl, rfl, (by omega)⟩
 ·
  simp [-List.getD_eq_getElem?_getD, -Array.length_toList] at hc1
  refine gs7 ?_
  refine RW.eff (fun b6 : Nat => .map (some b6)) (fun b6 => St ⟨w, Φ, []⟩ Φ [.kmap kKey Value.bool b6 (fun _ => none), .kmap kKey (Value.int .i64) b3 (Ft.sumM z.Queue k), .blk b2 36 (cl36 z tv1 tv2 tv3 tv4 tv5 tv6), .blk b1 41 [iV y.Hour, yv1, yv2, yv3]]) rfl (e_kmake kKey Value.bool) ?_
  intro b6
  refine gs13 ?_
  refine AW.loop (fun s J m => ∃ (k : Nat), s = [(5, .map (some b3)), (9, .map (some b6)), (40, yv2), (41, iV (y.Queue.length : Int)), (42, iV (k : Int))] ∧ J = St ⟨w, Φ, []⟩ Φ [.kmap kKey Value.bool b6 (Ft.lisM y.Queue k), .kmap kKey (Value.int .i64) b3 (Ft.sumM z.Queue z.Queue.length), .blk b2 36 (cl36 z tv1 tv2 tv3 tv4 tv5 tv6), .blk b1 41 [iV y.Hour, yv1, yv2, yv3]] ∧ m = y.Queue.length - k ∧ (k ≤ y.Queue.length) ∧ (∀ j, j < k → (y.Queue.getD j default).Vol.Lo ≤ ((Ft.sumM z.Queue z.Queue.length) ((y.Queue.getD j default).At, (y.Queue.getD j default).To)).getD 0 ∧ ((Ft.sumM z.Queue z.Queue.length) ((y.Queue.getD j default).At, (y.Queue.getD j default).To)).getD 0 ≤ (y.Queue.getD j default).Vol.Hi)) (s0 := _) (J1 := _) (m0 := _) ⟨0, rfl, rfl, rfl, (by omega), (fun j hj => absurd hj (by omega))⟩ ⟨rfl, rfl, rfl, rfl, rfl, trivial⟩ (fun _ h => by have hke : k = z.Queue.length := (by omega); rw [hke] at h; exact h) ?_
  rintro _ _ _ _ ⟨k, rfl, rfl, rfl, hk2, hall⟩
  refine gs6 ?_
  refine AW.cond rfl (fun hc2 => ?_) fun hc2 => ?_
  ·
   simp [-List.getD_eq_getElem?_getD, -Array.length_toList] at hc2
   refine gs7 ?_
   refine RW.q (v := .agg (cl98 (y.Queue.getD k default)).toArray) rfl (q_loadAgg rfl uT98 rfl sz98 rfl (Cells.repE yr2 (by omega) rfl)) ?_
   refine RW.alc rfl fun b7 => ?_
   refine gs9 ?_
   refine RW.q (v := .agg #[iV ((y.Queue.getD k default).At), iV ((y.Queue.getD k default).To)]) rfl (q_build (vals := [(0, iV ((y.Queue.getD k default).At)), (1, iV ((y.Queue.getD k default).To))]) zero146 uT146 places146 rfl rfl) ?_
   refine RW.alc rfl fun b8 => ?_
   refine gs5 ?_
   have hyw : I64 (y.Queue.getD k default).At ∧ I64 (y.Queue.getD k default).To ∧ I64 (y.Queue.getD k default).Vol.Lo ∧ I64 (y.Queue.getD k default).Vol.Hi := yr2.wfE _ (Fu.getD_mem (by omega))
   have hkg : kKey.good ((y.Queue.getD k default).At, (y.Queue.getD k default).To) := ⟨hyw.1, hyw.2.1⟩
   refine AW.draw (J0 := St ⟨w, Φ, []⟩ Φ [.blk b8 146 [iV ((y.Queue.getD k default).At), iV ((y.Queue.getD k default).To)], .blk b7 98 (cl98 (y.Queue.getD k default)), .kmap kKey Value.bool b6 (Ft.lisM y.Queue k), .kmap kKey (Value.int .i64) b3 (Ft.sumM z.Queue z.Queue.length), .blk b2 36 (cl36 z tv1 tv2 tv3 tv4 tv5 tv6), .blk b1 41 [iV y.Hour, yv1, yv2, yv3]]) [.q, .q, .q, .q, .q, .q, .q] [0, 1, 2, 3, 4, 5, 6] hmix (by kernel_rfl) ?_
   refine gs1 ?_
   refine DW.q (v := .agg #[iV ((y.Queue.getD k default).Vol.Lo), iV ((y.Queue.getD k default).Vol.Hi)]) (fun _ h => h) rfl (q_loadAgg rfl uT51 rfl sz51 rfl (Cells.blkP (off := 2) 1 rfl (fun j u hu => (by rcases j with _ | (_ | _) <;> first | exact hu | cases hu)))) ?_
   refine gs2 ?_
   refine DW.q (v := iV (((Ft.sumM z.Queue z.Queue.length) ((y.Queue.getD k default).At, (y.Queue.getD k default).To)).getD 0)) (fun _ h => h) rfl (q_kLook1 (L := kKey) (ew := (Value.int .i64)) (M := Ft.sumM z.Queue z.Queue.length) (k := ((y.Queue.getD k default).At, (y.Queue.getD k default).To)) (d := 0) 3 rfl rfl rfl (by assumption) uT142 zero3) (DW.c (fun _ h => h) rfl (fun w1 hw1 => sHas_c w1 (Go.K.hp w1) (Hp.le_refl _)) rfl rfl ?_)
   refine gs3 ?_
   refine AW.cond rfl (fun hc3 => ?_) fun hc3 => ?_
   ·
    simp [-List.getD_eq_getElem?_getD, -Array.length_toList] at hc3
    refine gs12 ?_
    exact fin_val (v' := .bool false) rfl rfl rfl (congrArg Value.bool (decide_eq_false (fun h9 => by have h8 := h9.1 k (by omega); omega)).symm)
   ·
    simp [-List.getD_eq_getElem?_getD, -Array.length_toList] at hc3
    refine gs5 ?_
    refine RW.effn (J' := St ⟨w, Φ, []⟩ Φ [.blk b8 146 [iV ((y.Queue.getD k default).At), iV ((y.Queue.getD k default).To)], .blk b7 98 (cl98 (y.Queue.getD k default)), .kmap kKey Value.bool b6 (fun j => if j = ((y.Queue.getD k default).At, (y.Queue.getD k default).To) then some true else (Ft.lisM y.Queue k) j), .kmap kKey (Value.int .i64) b3 (Ft.sumM z.Queue z.Queue.length), .blk b2 36 (cl36 z tv1 tv2 tv3 tv4 tv5 tv6), .blk b1 41 [iV y.Hour, yv1, yv2, yv3]]) (e_kPut (L := kKey) (ew := Value.bool) (M := Ft.lisM y.Queue k) (k := ((y.Queue.getD k default).At, (y.Queue.getD k default).To)) (v := true) 2 rfl rfl rfl rfl (by assumption) uT147 rfl) ?_
    refine gs7 ?_
    exact Post.bk ⟨k + 1, rfl, rfl, rfl, (by omega), (Fu.lt_succ hall hc3)⟩
  ·
   simp [-List.getD_eq_getElem?_getD, -Array.length_toList] at hc2
   refine gs7 ?_
   rw [show k = y.Queue.length by omega]
   refine gs2 ?_
   refine RW.eff (fun x : {q : Nat × Array MapEntry × Nat // KM kKey (Value.int .i64) q.2.1 q.2.2 (Ft.sumM z.Queue z.Queue.length)} => .pointer (some ⟨x.1.1, 0, none⟩)) (fun x => St ⟨w, Φ, []⟩ Φ [.obj x.1.1 (.mapIter (some b3) x.1.2.2 #[] x.1.2.2), .kmap kKey Value.bool b6 (Ft.lisM y.Queue y.Queue.length), .obj b3 (.map x.1.2.1 x.1.2.2), .blk b2 36 (cl36 z tv1 tv2 tv3 tv4 tv5 tv6), .blk b1 41 [iV y.Hour, yv1, yv2, yv3]]) rfl (e_krange (L := kKey) (ew := (Value.int .i64)) (M := Ft.sumM z.Queue z.Queue.length) 1 rfl rfl uT142) ?_
   rintro ⟨⟨it1, es1, ck1⟩, hkm1⟩
   replace hkm1 : KM kKey (Value.int .i64) es1 ck1 (Ft.sumM z.Queue z.Queue.length) := hkm1
   refine gs3 ?_
   refine AW.lp (fun s J m => ∃ (seen : Array Nat), s = [(9, .map (some b6)), (62, pV it1 0)] ∧ J = St ⟨w, Φ, []⟩ Φ [.obj it1 (.mapIter (some b3) ck1 seen ck1), .kmap kKey Value.bool b6 (Ft.lisM y.Queue y.Queue.length), .obj b3 (.map es1 ck1), .blk b2 36 (cl36 z tv1 tv2 tv3 tv4 tv5 tv6), .blk b1 41 [iV y.Hour, yv1, yv2, yv3]] ∧ m = Ft.left es1 seen ∧ (Ft.SeenOk es1 (Ft.sumM z.Queue z.Queue.length) (Ft.lisM y.Queue y.Queue.length) seen)) ⟨#[], rfl, rfl, rfl, Ft.SeenOk.start⟩ ?_
   rintro _ _ _ _ ⟨seen, rfl, rfl, rfl, hso⟩
   refine gs1 ?_
   refine AW.nextR (L := kKey) (ew := (Value.int .i64)) (M := Ft.sumM z.Queue z.Queue.length) 0 2 rfl rfl rfl hkm1 rfl rfl (C' := fun bn => [.obj it1 (.mapIter (some b3) ck1 (seen.push bn) ck1), .kmap kKey Value.bool b6 (Ft.lisM y.Queue y.Queue.length), .obj b3 (.map es1 ck1), .blk b2 36 (cl36 z tv1 tv2 tv3 tv4 tv5 tv6), .blk b1 41 [iV y.Hour, yv1, yv2, yv3]]) (fun _ => rfl) ?_ ?_
   ·
    intro hall9
    refine gs2 ?_
    refine AW.condF rfl ?_
    refine gs11 ?_
    have hE : ∀ j, j < y.Queue.length → (y.Queue.getD j default).Vol.Lo ≤ ((Ft.sumM z.Queue z.Queue.length) ((y.Queue.getD j default).At, (y.Queue.getD j default).To)).getD 0 ∧ ((Ft.sumM z.Queue z.Queue.length) ((y.Queue.getD j default).At, (y.Queue.getD j default).To)).getD 0 ≤ (y.Queue.getD j default).Vol.Hi := fun j hj => hall j (by omega)
    exact fin_val (v' := .bool true) rfl rfl rfl (congrArg Value.bool (decide_eq_true (show Ft.HasQ y.Queue z.Queue from ⟨hE, hso.all hkm1 hall9⟩)).symm)
   ·
    intro e kk xx he hns hgk hek hMk hev
    refine gs2 ?_
    refine AW.condT rfl ?_
    refine gs5 ?_
    refine RW.q (v := .tuple #[.agg #[iV kk.1, iV kk.2], iV xx]) rfl (q_kentry2 (L := kKey) (ew := (Value.int .i64)) (M := Ft.sumM z.Queue z.Queue.length) (k := kk) (v := xx) 0 2 rfl rfl rfl hkm1 he hek hev) ?_
    refine gs2 ?_
    refine RW.alc rfl fun b9 => ?_
    refine gs8 ?_
    refine RW.q (v := .bool (((Ft.lisM y.Queue y.Queue.length) (kk.1, kk.2)).getD false)) rfl (q_kLook1 (L := kKey) (ew := Value.bool) (M := Ft.lisM y.Queue y.Queue.length) (k := (kk.1, kk.2)) (d := false) 2 rfl rfl rfl hgk uT147 zero4) ?_
    refine gs4 ?_
    obtain ⟨qb1, hqb1⟩ : ∃ qz : Bool, ((!(((Ft.lisM y.Queue y.Queue.length) (kk.1, kk.2)).getD false)) && (!decide (xx = 0))) = qz := ⟨_, rfl⟩
    refine RW.q (v := .bool qb1) rfl (q_as (v := .bool ((!(((Ft.lisM y.Queue y.Queue.length) (kk.1, kk.2)).getD false)) && (!decide (xx = 0)))) (qpA rfl rfl rfl) (congrArg Value.bool hqb1)) ?_
    subst hqb1
    refine gs2 ?_
    refine AW.cond rfl (fun hc6 => ?_) fun hc6 => ?_
    ·
     simp [-List.getD_eq_getElem?_getD, -Array.length_toList] at hc6
     refine gs10 ?_
     have hbad : ¬ Ft.HasQ y.Queue z.Queue := fun h9 => by
      have h8 := h9.2 _ _ hMk
      rcases h8 with h8 | h8
      ·
       exact Bool.noConfusion (h8.symm.trans hc6.1)
      ·
       exact hc6.2 h8
     exact fin_val (v' := .bool false) rfl rfl rfl (congrArg Value.bool (decide_eq_false hbad).symm)
    ·
     simp [-List.getD_eq_getElem?_getD, -Array.length_toList] at hc6
     refine gs2 ?_
     exact Post.bk ⟨seen.push e.born, rfl, rfl, rfl, (hso.next hkm1 he hek hMk (by cases h8 : ((Ft.lisM y.Queue y.Queue.length) kk).getD false; exact Or.inr (hc6 h8); exact Or.inl rfl))⟩ (hm := Ft.left_lt he hns)
def hasB0 (b : Bt.Basin) (y : Bt.Hull) (z : Bt.State) : Bool := (((((!decide (y.Hour = z.Hour)) || (!decide ((y.Vol.length : Int) = (b.Places.length : Int)))) || (!decide ((y.Links.length : Int) = (b.Links.length : Int)))) || (!decide ((z.Own.length : Int) = (y.Vol.length : Int)))) || (!decide ((z.Gates.length : Int) = (y.Links.length : Int))))
def hasV (_ : Bt.Basin) (y : Bt.Hull) (z : Bt.State) (k : Nat) : Bool := !(decide ((y.Vol.getD k default).Lo ≤ Ft.tot (z.Own.getD k [])) && decide (Ft.tot (z.Own.getD k []) ≤ (y.Vol.getD k default).Hi))
def hasL (_ : Bt.Basin) (y : Bt.Hull) (z : Bt.State) (k : Nat) : Bool := ((!(decide ((y.Links.getD k default).Pos.Lo ≤ (z.Gates.getD k default).Pos) && decide ((z.Gates.getD k default).Pos ≤ (y.Links.getD k default).Pos.Hi))) || (!(decide ((y.Links.getD k default).Open.Lo ≤ bitI ((z.Gates.getD k default).Open)) && decide (bitI ((z.Gates.getD k default).Open) ≤ (y.Links.getD k default).Open.Hi))))
def HasLoops (b : Bt.Basin) (y : Bt.Hull) (z : Bt.State) : Prop := (∀ k, k < y.Vol.length → hasV b y z k = false) ∧ ∀ k, k < y.Links.length → hasL b y z k = false
instance (b : Bt.Basin) (y : Bt.Hull) (z : Bt.State) : Decidable (HasLoops b y z) := inferInstanceAs (Decidable ((∀ k, k < y.Vol.length → hasV b y z k = false) ∧ ∀ k, k < y.Links.length → hasL b y z k = false))
noncomputable def hasB (b : Bt.Basin) (y : Bt.Hull) (z : Bt.State) : Bool := !hasB0 b y z && (decide (HasLoops b y z) && decide (Ft.HasQ y.Queue z.Queue))
theorem hHas_c (w : World) (Φ : Hp) (hΦ : Hp.le Φ (hp w)) {b : Bt.Basin} {cs : List Value} (hB : RepV Φ b cs) {y : Bt.Hull} {ycs : List Value} (yH : RepV Φ y ycs) {z : Bt.State} {zcs : List Value} (tH : RepV Φ z zcs) :
  Calls pg 9 #[.agg cs.toArray, .agg ycs.toArray, .agg zcs.toArray] w fun e w' => e = .returned (.bool (hasB b y z)) ∧ Bel w.heap.size w w' := by
 obtain ⟨v1, v3, v4, v5, v6, v7, v8, v9, hcs, hBw, r1, r3, r4, r5, r6, r7, r8, r9⟩ := (show Rep.rep Φ b cs from hB)
 subst hcs
 have hpm : b.Places.length * 152 ≤ 140737488355328 := r3.max
 obtain ⟨yv1, yv2, yv3, yhcs, yhw, yr1, yr2, yr3⟩ := (show Rep.rep Φ y ycs from yH)
 subst yhcs
 have ym1 : y.Vol.length * 16 ≤ 140737488355328 := yr1.max
 have ym2 : y.Queue.length * 32 ≤ 140737488355328 := yr2.max
 have ym3 : y.Links.length * 40 ≤ 140737488355328 := yr3.max
 obtain ⟨tv1, tv2, tv3, tv4, tv5, tv6, hzcs, hzw, tr1, tr2, tr3, tr4, tr5, tr6⟩ := (show Rep.rep Φ z zcs from tH)
 subst hzcs
 have ztm : z.Own.length * 24 ≤ 140737488355328 := tr1.max
 have zqm : z.Queue.length * 40 ≤ 140737488355328 := tr3.max
 have zgm : z.Gates.length * 24 ≤ 140737488355328 := tr4.max
 refine in3 103 Tryz.func9 rfl rfl hΦ ?_
 have hnl : b.Name.data.toList.length ≤ 9223372036854775807 := hBw.1
 have hom : b.Owners.length * 16 ≤ 140737488355328 := r1.max
 have hlm : b.Links.length * 200 ≤ 140737488355328 := r4.max
 have htm : b.Towns.length * 64 ≤ 140737488355328 := r5.max
 have hgm_ : b.Gauges.length * 48 ≤ 140737488355328 := r6.max
 have hrm : b.Roads.length * 64 ≤ 140737488355328 := r7.max
 have hsm : b.Shelters.length * 24 ≤ 140737488355328 := r8.max
 have hom2 : b.Room.length * 8 ≤ 140737488355328 := r9.max
 refine gs2 ?_
 refine RW.bxA rfl rfl fun b1 => ?_
 refine RW.bxA rfl rfl fun b2 => ?_
 refine RW.bxA rfl rfl fun b3 => ?_
 refine gs19 ?_
 obtain ⟨qb1, hqb1⟩ : ∃ qz : Bool, ((!decide (y.Hour = z.Hour)) || (!decide ((y.Vol.length : Int) = (b.Places.length : Int)))) = qz := ⟨_, rfl⟩
 refine RW.q (v := .bool qb1) rfl (q_as (v := .bool ((!decide (y.Hour = z.Hour)) || (!decide ((y.Vol.length : Int) = (b.Places.length : Int))))) (qpO rfl rfl rfl) (congrArg Value.bool hqb1)) ?_
 refine gs8 ?_
 obtain ⟨qb2, hqb2⟩ : ∃ qz : Bool, (qb1 || (!decide ((y.Links.length : Int) = (b.Links.length : Int)))) = qz := ⟨_, rfl⟩
 refine RW.q (v := .bool qb2) rfl (q_as (v := .bool (qb1 || (!decide ((y.Links.length : Int) = (b.Links.length : Int))))) (qpO rfl rfl rfl) (congrArg Value.bool hqb2)) ?_
 refine gs8 ?_
 obtain ⟨qb3, hqb3⟩ : ∃ qz : Bool, (qb2 || (!decide ((z.Own.length : Int) = (y.Vol.length : Int)))) = qz := ⟨_, rfl⟩
 refine RW.q (v := .bool qb3) rfl (q_as (v := .bool (qb2 || (!decide ((z.Own.length : Int) = (y.Vol.length : Int))))) (qpO rfl rfl rfl) (congrArg Value.bool hqb3)) ?_
 refine gs8 ?_
 obtain ⟨qb4, hqb4⟩ : ∃ qz : Bool, (qb3 || (!decide ((z.Gates.length : Int) = (y.Links.length : Int)))) = qz := ⟨_, rfl⟩
 refine RW.q (v := .bool qb4) rfl (q_as (v := .bool (qb3 || (!decide ((z.Gates.length : Int) = (y.Links.length : Int))))) (qpO rfl rfl rfl) (congrArg Value.bool hqb4)) ?_
 subst hqb4 hqb3 hqb2 hqb1
 refine gs2 ?_
 refine AW.cond rfl (fun hc1 => ?_) fun hc1 => ?_
 ·
  refine gs7 ?_
  exact fin_val (v' := .bool false) rfl rfl rfl (congrArg Value.bool (show false = hasB b y z by unfold hasB; rw [show hasB0 b y z = true from hc1]; rfl))
 ·
  refine gs4 ?_
  have hdb := hc1
  simp [-List.getD_eq_getElem?_getD, -Array.length_toList] at hdb
  refine gs8 ?_
  refine AW.lp (fun s J m => ∃ (k : Nat), s = [(3, pV b1 0), (4, pV b2 0), (5, pV b3 0), (54, yv1), (55, iV (y.Vol.length : Int)), (56, iV (k : Int))] ∧ J = St ⟨w, Φ, []⟩ Φ [.blk b3 36 (cl36 z tv1 tv2 tv3 tv4 tv5 tv6), .blk b2 41 [iV y.Hour, yv1, yv2, yv3], .blk b1 31 (cl31 b v1 v3 v4 v5 v6 v7 v8 v9)] ∧ m = y.Vol.length - k ∧ (k ≤ y.Vol.length) ∧ (∀ j, j < k → hasV b y z j = false)) ⟨0, rfl, rfl, rfl, (by omega), (fun j hj => absurd hj (by omega))⟩ ?_
  rintro _ _ _ _ ⟨k, rfl, rfl, rfl, hk, hall⟩
  refine gs6 ?_
  refine AW.cond rfl (fun hc2 => ?_) fun hc2 => ?_
  ·
   simp [-List.getD_eq_getElem?_getD, -Array.length_toList] at hc2
   refine gs8 ?_
   refine RW.q (v := .agg #[iV ((y.Vol.getD k default).Lo), iV ((y.Vol.getD k default).Hi)]) rfl (q_loadAgg rfl uT51 rfl sz51 rfl (Cells.repE yr1 (by omega) rfl)) ?_
   refine RW.alc rfl fun b4 => ?_
   refine gs5 ?_
   refine AW.draw (J0 := St ⟨w, Φ, []⟩ Φ [.blk b4 51 [iV ((y.Vol.getD k default).Lo), iV ((y.Vol.getD k default).Hi)], .blk b3 36 (cl36 z tv1 tv2 tv3 tv4 tv5 tv6), .blk b2 41 [iV y.Hour, yv1, yv2, yv3], .blk b1 31 (cl31 b v1 v3 v4 v5 v6 v7 v8 v9)]) [.q, .q, .q, .q, .q, .q, .q, .q, .q] [0, 1, 2, 3, 4, 5, 6, 7, 8] hmix (by kernel_rfl) ?_
   refine gs5 ?_
   obtain ⟨sv1, hsv1, hpc1⟩ := tr1.sub (k := k) (by omega)
   refine DW.q (v := sv1) (fun _ h => h) rfl (q_load rfl uT29 rfl (Cell.phi hpc1)) (DW.c (fun _ h => h) rfl (fun w1 hw1 => Total_c w1 (Go.K.hp w1) (Hp.le_refl _) (hsv1.mono hw1.phi)) rfl rfl (DW.c (fun _ h => h) rfl (fun w1 hw1 => sHas_c w1 (Go.K.hp w1) (Hp.le_refl _)) rfl rfl ?_))
   refine gs3 ?_
   refine AW.cond rfl (fun hc3 => ?_) fun hc3 => ?_
   ·
    refine gs11 ?_
    exact fin_val (v' := .bool false) rfl rfl rfl (congrArg Value.bool (show false = hasB b y z by unfold hasB; rw [show hasB0 b y z = false from hc1, decide_eq_false (show ¬ HasLoops b y z from fun h9 => Bool.noConfusion ((h9.1 k (by omega)).symm.trans hc3))]; rfl))
   ·
    refine gs7 ?_
    exact Post.bk ⟨k + 1, rfl, rfl, rfl, (by omega), (Fu.lt_succ hall hc3)⟩
  ·
   simp [-List.getD_eq_getElem?_getD, -Array.length_toList] at hc2
   refine gs15 ?_
   have halA : ∀ j, j < y.Vol.length → hasV b y z j = false := fun j hj => hall j (by omega)
   refine AW.lp (fun s J m => ∃ (k : Nat), s = [(3, pV b1 0), (4, pV b2 0), (5, pV b3 0), (72, yv3), (73, iV (y.Links.length : Int)), (74, iV (k : Int))] ∧ J = St ⟨w, Φ, []⟩ Φ [.blk b3 36 (cl36 z tv1 tv2 tv3 tv4 tv5 tv6), .blk b2 41 [iV y.Hour, yv1, yv2, yv3], .blk b1 31 (cl31 b v1 v3 v4 v5 v6 v7 v8 v9)] ∧ m = y.Links.length - k ∧ (k ≤ y.Links.length) ∧ (∀ j, j < k → hasL b y z j = false)) ⟨0, rfl, rfl, rfl, (by omega), (fun j hj => absurd hj (by omega))⟩ ?_
   rintro _ _ _ _ ⟨k, rfl, rfl, rfl, hk, hal2⟩
   refine gs6 ?_
   refine AW.cond rfl (fun hc4 => ?_) fun hc4 => ?_
   ·
    simp [-List.getD_eq_getElem?_getD, -Array.length_toList] at hc4
    refine gs8 ?_
    refine RW.q (v := .agg (cl101 (y.Links.getD k default)).toArray) rfl (q_loadAgg rfl uT101 rfl sz101 rfl (Cells.repE yr3 (by omega) rfl)) ?_
    refine RW.alc rfl fun b5 => ?_
    refine gs10 ?_
    refine RW.q (v := .agg (cl81 (z.Gates.getD k default)).toArray) rfl (q_loadAgg rfl uT81 rfl sz81 rfl (Cells.repE tr4 (by omega) rfl)) ?_
    refine RW.alc rfl fun b6 => ?_
    refine gs4 ?_
    refine AW.draw (J0 := St ⟨w, Φ, []⟩ Φ [.blk b6 81 (cl81 (z.Gates.getD k default)), .blk b5 101 (cl101 (y.Links.getD k default)), .blk b3 36 (cl36 z tv1 tv2 tv3 tv4 tv5 tv6), .blk b2 41 [iV y.Hour, yv1, yv2, yv3], .blk b1 31 (cl31 b v1 v3 v4 v5 v6 v7 v8 v9)]) [.q, .q, .q, .q, .q, .q, .q, .q, .q, .q, .q, .q, .q, .q, .q] [0, 1, 2, 3, 4, 5, 6, 7, 8, 9, 10, 11, 12, 13, 14] hmix (by kernel_rfl) ?_
    refine gs1 ?_
    refine DW.q (v := .agg #[iV ((y.Links.getD k default).Pos.Lo), iV ((y.Links.getD k default).Pos.Hi)]) (fun _ h => h) rfl (q_loadAgg rfl uT51 rfl sz51 rfl (Cells.blkP (off := 0) 1 rfl (fun j u hu => (by rcases j with _ | (_ | _) <;> first | exact hu | cases hu)))) ?_
    refine gs2 ?_
    refine DW.c (fun _ h => h) rfl (fun w1 hw1 => sHas_c w1 (Go.K.hp w1) (Hp.le_refl _)) rfl rfl ?_
    refine gs3 ?_
    refine DW.g (b := (!(decide ((y.Links.getD k default).Pos.Lo ≤ (z.Gates.getD k default).Pos) && decide ((z.Gates.getD k default).Pos ≤ (y.Links.getD k default).Pos.Hi)))) (v := .agg #[iV ((y.Links.getD k default).Open.Lo), iV ((y.Links.getD k default).Open.Hi)]) (fun _ h => h) rfl rfl rfl (fun h => q_loadAgg (gv_pos h) uT51 rfl sz51 rfl (Cells.blkP (off := 3) 1 rfl (fun j u hu => (by rcases j with _ | (_ | _) <;> first | exact hu | cases hu)))) ?_
    refine gs2 ?_
    refine DW.g (b := (!(decide ((y.Links.getD k default).Pos.Lo ≤ (z.Gates.getD k default).Pos) && decide ((z.Gates.getD k default).Pos ≤ (y.Links.getD k default).Pos.Hi)))) (v := iV (bitI ((z.Gates.getD k default).Open))) (fun _ h => h) rfl rfl rfl (fun h => q_call (args := #[.bool ((z.Gates.getD k default).Open)]) oK rfl (args1 (gv_pos h)) (fun w1 hw1 => bit_c w1 (Go.K.hp w1) (Hp.le_refl _) (t := (z.Gates.getD k default).Open))) (DW.g (b := (!(decide ((y.Links.getD k default).Pos.Lo ≤ (z.Gates.getD k default).Pos) && decide ((z.Gates.getD k default).Pos ≤ (y.Links.getD k default).Pos.Hi)))) (v := .bool (decide ((y.Links.getD k default).Open.Lo ≤ bitI ((z.Gates.getD k default).Open)) && decide (bitI ((z.Gates.getD k default).Open) ≤ (y.Links.getD k default).Open.Hi))) (fun _ h => h) rfl rfl rfl (fun h => q_call (args := #[.agg #[iV ((y.Links.getD k default).Open.Lo), iV ((y.Links.getD k default).Open.Hi)], iV (bitI ((z.Gates.getD k default).Open))]) oK rfl (args2 (gv_pos h) (gv_pos h)) (fun w1 hw1 => sHas_c w1 (Go.K.hp w1) (Hp.le_refl _))) ?_)
    refine gs1 ?_
    obtain ⟨qb5, hqb5⟩ : ∃ qz : Bool, ((!(decide ((y.Links.getD k default).Pos.Lo ≤ (z.Gates.getD k default).Pos) && decide ((z.Gates.getD k default).Pos ≤ (y.Links.getD k default).Pos.Hi))) || (!(decide ((y.Links.getD k default).Open.Lo ≤ bitI ((z.Gates.getD k default).Open)) && decide (bitI ((z.Gates.getD k default).Open) ≤ (y.Links.getD k default).Open.Hi)))) = qz := ⟨_, rfl⟩
    refine DW.q (v := .bool qb5) (fun _ h => h) rfl (q_as (v := .bool ((!(decide ((y.Links.getD k default).Pos.Lo ≤ (z.Gates.getD k default).Pos) && decide ((z.Gates.getD k default).Pos ≤ (y.Links.getD k default).Pos.Hi))) || (!(decide ((y.Links.getD k default).Open.Lo ≤ bitI ((z.Gates.getD k default).Open)) && decide (bitI ((z.Gates.getD k default).Open) ≤ (y.Links.getD k default).Open.Hi))))) (qpO rfl rfl rfl) (congrArg Value.bool hqb5)) ?_
    subst hqb5
    refine gs2 ?_
    refine AW.cond rfl (fun hc5 => ?_) fun hc5 => ?_
    ·
     refine gs11 ?_
     exact fin_val (v' := .bool false) rfl rfl rfl (congrArg Value.bool (show false = hasB b y z by unfold hasB; rw [show hasB0 b y z = false from hc1, decide_eq_false (show ¬ HasLoops b y z from fun h9 => Bool.noConfusion ((h9.2 k (by omega)).symm.trans hc5))]; rfl))
    ·
     refine gs7 ?_
     exact Post.bk ⟨k + 1, rfl, rfl, rfl, (by omega), (Fu.lt_succ hal2 hc5)⟩
   ·
    simp [-List.getD_eq_getElem?_getD, -Array.length_toList] at hc4
    refine gs9 ?_
    refine RW.c rfl (fun w1 hw1 => hasQueue_c w1 (Go.K.hp w1) (Hp.le_refl _) (yH.mono hw1.phi) (tH.mono hw1.phi)) rfl rfl ?_
    refine gs4 ?_
    exact fin_val (v' := .bool (decide (Ft.HasQ y.Queue z.Queue))) rfl rfl rfl (congrArg Value.bool (show _ = hasB b y z by unfold hasB; rw [show hasB0 b y z = false from hc1, decide_eq_true (show HasLoops b y z from ⟨halA, fun j hj => hal2 j (by omega)⟩)]; rfl))
noncomputable def lightB (b : Bt.Basin) (z : Bt.State) (y : Bt.Hull) : Bool := ((((((decide (Fu.Few b y)) && (decide ((b.Links.length : Int) ≤ 20))) && (decide ((z.Queue.length : Int) ≤ 60))) && (rightB b)) && (stepB b z)) && (decide (HRight b y))) && (hasB b y z)
theorem light_c (w : World) (Φ : Hp) (hΦ : Hp.le Φ (hp w)) {b : Bt.Basin} {cs : List Value} (hB : RepV Φ b cs) {z : Bt.State} {zcs : List Value} (tH : RepV Φ z zcs) {y : Bt.Hull} {ycs : List Value} (yH : RepV Φ y ycs) :
  Calls pg 5 #[.agg cs.toArray, .agg zcs.toArray, .agg ycs.toArray] w fun e w' => e = .returned (.bool (lightB b z y)) ∧ Bel w.heap.size w w' := by
 obtain ⟨v1, v3, v4, v5, v6, v7, v8, v9, hcs, hBw, r1, r3, r4, r5, r6, r7, r8, r9⟩ := (show Rep.rep Φ b cs from hB)
 subst hcs
 have hpm : b.Places.length * 152 ≤ 140737488355328 := r3.max
 obtain ⟨tv1, tv2, tv3, tv4, tv5, tv6, hzcs, hzw, tr1, tr2, tr3, tr4, tr5, tr6⟩ := (show Rep.rep Φ z zcs from tH)
 subst hzcs
 have ztm : z.Own.length * 24 ≤ 140737488355328 := tr1.max
 have zqm : z.Queue.length * 40 ≤ 140737488355328 := tr3.max
 have zgm : z.Gates.length * 24 ≤ 140737488355328 := tr4.max
 obtain ⟨yv1, yv2, yv3, yhcs, yhw, yr1, yr2, yr3⟩ := (show Rep.rep Φ y ycs from yH)
 subst yhcs
 have ym1 : y.Vol.length * 16 ≤ 140737488355328 := yr1.max
 have ym2 : y.Queue.length * 32 ≤ 140737488355328 := yr2.max
 have ym3 : y.Links.length * 40 ≤ 140737488355328 := yr3.max
 refine in3 42 Tryz.func5 rfl rfl hΦ ?_
 have hnl : b.Name.data.toList.length ≤ 9223372036854775807 := hBw.1
 have hom : b.Owners.length * 16 ≤ 140737488355328 := r1.max
 have hlm : b.Links.length * 200 ≤ 140737488355328 := r4.max
 have htm : b.Towns.length * 64 ≤ 140737488355328 := r5.max
 have hgm_ : b.Gauges.length * 48 ≤ 140737488355328 := r6.max
 have hrm : b.Roads.length * 64 ≤ 140737488355328 := r7.max
 have hsm : b.Shelters.length * 24 ≤ 140737488355328 := r8.max
 have hom2 : b.Room.length * 8 ≤ 140737488355328 := r9.max
 refine gs2 ?_
 refine RW.bxA rfl rfl fun b1 => ?_
 refine RW.bxA rfl rfl fun b2 => ?_
 refine RW.bxA rfl rfl fun b3 => ?_
 refine gs7 ?_
 refine RW.c rfl (fun w1 hw1 => few_c w1 (Go.K.hp w1) (Hp.le_refl _) (hB.mono hw1.phi) (yH.mono hw1.phi)) rfl rfl ?_
 refine gs5 ?_
 obtain ⟨qb1, hqb1⟩ : ∃ qz : Bool, ((decide (Fu.Few b y)) && (decide ((b.Links.length : Int) ≤ 20))) = qz := ⟨_, rfl⟩
 refine RW.q (v := .bool qb1) rfl (q_as (v := .bool ((decide (Fu.Few b y)) && (decide ((b.Links.length : Int) ≤ 20)))) (qpA rfl rfl rfl) (congrArg Value.bool hqb1)) ?_
 refine gs1 ?_
 refine RW.g (b := qb1) (v := pV b2 3) rfl rfl rfl (fun h => q_fieldAddr rfl uT36 rfl sz33 rfl) ?_
 refine gs3 ?_
 obtain ⟨qb2, hqb2⟩ : ∃ qz : Bool, (qb1 && (decide ((z.Queue.length : Int) ≤ 60))) = qz := ⟨_, rfl⟩
 refine RW.q (v := .bool qb2) rfl (q_as (v := .bool (qb1 && (decide ((z.Queue.length : Int) ≤ 60)))) (qpA rfl rfl rfl) (congrArg Value.bool hqb2)) ?_
 refine gs2 ?_
 refine RW.gc rfl rfl rfl (fun w1 hw1 => bRight_c w1 (Go.K.hp w1) (Hp.le_refl _) (hB.mono hw1.phi) ) rfl (fun h => args1 (gv_pos h)) (RW.q (v := .bool (qb2 && (rightB b))) rfl (qpA rfl rfl rfl) ?_)
 refine gs3 ?_
 refine RW.g (b := (qb2 && (rightB b))) (v := .bool (stepB b z)) rfl rfl rfl (fun h => q_call (args := #[.agg (cl31 b v1 v3 v4 v5 v6 v7 v8 v9).toArray, .agg (cl36 z tv1 tv2 tv3 tv4 tv5 tv6).toArray]) oK rfl (args2 (gv_pos h) (gv_pos h)) (fun w1 hw1 => stepRight_c w1 (Go.K.hp w1) (Hp.le_refl _) (hB.mono hw1.phi) (tH.mono hw1.phi) (by subst hqb2 hqb1; simp only [Bool.and_eq_true, decide_eq_true_eq] at h; exact (right_f h.2).2.1))) (RW.q (v := .bool ((qb2 && (rightB b)) && (stepB b z))) rfl (qpA rfl rfl rfl) ?_)
 refine gs3 ?_
 refine RW.gc rfl rfl rfl (fun w1 hw1 => hRight_c w1 (Go.K.hp w1) (Hp.le_refl _) (hB.mono hw1.phi) (yH.mono hw1.phi)) rfl (fun h => args2 (gv_pos h) (gv_pos h)) ?_
 obtain ⟨qb3, hqb3⟩ : ∃ qz : Bool, (((qb2 && (rightB b)) && (stepB b z)) && (decide (HRight b y))) = qz := ⟨_, rfl⟩
 refine RW.q (v := .bool qb3) rfl (q_as (v := .bool (((qb2 && (rightB b)) && (stepB b z)) && (decide (HRight b y)))) (qpA rfl rfl rfl) (congrArg Value.bool hqb3)) ?_
 refine gs4 ?_
 refine RW.gc rfl rfl rfl (fun w1 hw1 => hHas_c w1 (Go.K.hp w1) (Hp.le_refl _) (hB.mono hw1.phi) (yH.mono hw1.phi) (tH.mono hw1.phi)) rfl (fun h => args3 (gv_pos h) (gv_pos h) (gv_pos h)) (RW.q (v := .bool (qb3 && (hasB b y z))) rfl (qpA rfl rfl rfl) ?_)
 refine gs1 ?_
 subst hqb3 hqb2 hqb1
 refine gs3 ?_
 exact fin_val (v' := .bool (((((((decide (Fu.Few b y)) && (decide ((b.Links.length : Int) ≤ 20))) && (decide ((z.Queue.length : Int) ≤ 60))) && (rightB b)) && (stepB b z)) && (decide (HRight b y))) && (hasB b y z))) rfl rfl rfl (rfl)
def trN (b : Bt.Basin) (z : Bt.State) (q : Int) : Int := if (b.Gauges.getD q.toNat default).Kind = 0 then Fu.atC (b.Places.getD (b.Gauges.getD q.toNat default).Target.toNat default).Level (Ft.tot (z.Own.getD (b.Gauges.getD q.toNat default).Target.toNat [])) else (z.Gates.getD (b.Gauges.getD q.toNat default).Target.toNat default).Pos
def trK (b : Bt.Basin) (q : Int) : Bool := decide ((b.Gauges.getD q.toNat default).Kind = 0 ∨ (b.Gauges.getD q.toNat default).Kind = 2)
def truR (b : Bt.Basin) (z : Bt.State) (q u v : Int) : Bt.Reading := if trK b q = true then ⟨q, z.Hour, ⟨trN b z q - u, trN b z q + v⟩⟩ else default
theorem at_rng_any (c : List Bt.Point) (v : Int) : 0 ≤ Fu.atC c v ∧ Fu.atC c v ≤ 1125899906842624 := by
 by_cases h : Fu.RightC c
 ·
  exact Fu.at_rng h v
 ·
  unfold Fu.atC; rw [if_neg h]; omega
theorem truth_c (w : World) (Φ : Hp) (hΦ : Hp.le Φ (hp w)) {b : Bt.Basin} {cs : List Value} (hB : RepV Φ b cs) {z : Bt.State} {zcs : List Value} (tH : RepV Φ z zcs) {q u v : Int} (hq : 0 ≤ q ∧ q < (b.Gauges.length : Int)) (ht : (b.Gauges.getD q.toNat default).Kind = 0 → 0 ≤ (b.Gauges.getD q.toNat default).Target ∧ (b.Gauges.getD q.toNat default).Target < (b.Places.length : Int) ∧ (b.Gauges.getD q.toNat default).Target < (z.Own.length : Int)) (ht2 : (b.Gauges.getD q.toNat default).Kind = 2 → 0 ≤ (b.Gauges.getD q.toNat default).Target ∧ (b.Gauges.getD q.toNat default).Target < (z.Gates.length : Int) ∧ 0 ≤ (z.Gates.getD (b.Gauges.getD q.toNat default).Target.toNat default).Pos ∧ (z.Gates.getD (b.Gauges.getD q.toNat default).Target.toNat default).Pos ≤ 1099511627776) (hu : 0 ≤ u ∧ u ≤ 1099511627776) (hv : 0 ≤ v ∧ v ≤ 1099511627776) :
  Calls pg 6 #[.agg cs.toArray, .agg zcs.toArray, iV q, iV u, iV v] w fun e w' => e = .returned (.tuple #[.agg #[iV ((truR b z q u v).Gauge), iV ((truR b z q u v).Hour), iV ((truR b z q u v).Value.Lo), iV ((truR b z q u v).Value.Hi)], .bool (trK b q)]) ∧ Bel w.heap.size w w' := by
 obtain ⟨v1, v3, v4, v5, v6, v7, v8, v9, hcs, hBw, r1, r3, r4, r5, r6, r7, r8, r9⟩ := (show Rep.rep Φ b cs from hB)
 subst hcs
 have hpm : b.Places.length * 152 ≤ 140737488355328 := r3.max
 obtain ⟨tv1, tv2, tv3, tv4, tv5, tv6, hzcs, hzw, tr1, tr2, tr3, tr4, tr5, tr6⟩ := (show Rep.rep Φ z zcs from tH)
 subst hzcs
 have ztm : z.Own.length * 24 ≤ 140737488355328 := tr1.max
 have zqm : z.Queue.length * 40 ≤ 140737488355328 := tr3.max
 have zgm : z.Gates.length * 24 ≤ 140737488355328 := tr4.max
 refine in5 59 Tryz.func6 rfl rfl hΦ ?_
 have hnl : b.Name.data.toList.length ≤ 9223372036854775807 := hBw.1
 have hom : b.Owners.length * 16 ≤ 140737488355328 := r1.max
 have hlm : b.Links.length * 200 ≤ 140737488355328 := r4.max
 have htm : b.Towns.length * 64 ≤ 140737488355328 := r5.max
 have hgm_ : b.Gauges.length * 48 ≤ 140737488355328 := r6.max
 have hrm : b.Roads.length * 64 ≤ 140737488355328 := r7.max
 have hsm : b.Shelters.length * 24 ≤ 140737488355328 := r8.max
 have hom2 : b.Room.length * 8 ≤ 140737488355328 := r9.max
 refine gs2 ?_
 refine RW.bxA rfl rfl fun b1 => ?_
 refine RW.bxA rfl rfl fun b2 => ?_
 refine RW.alc rfl fun b3 => ?_
 refine gs8 ?_
 refine RW.q rfl (qa_ixZ rfl rfl r6.sl (by omega) (by omega)) (RW.q (v := .agg (cl49 (b.Gauges.getD q.toNat default)).toArray) rfl (q_loadAgg rfl uT49 rfl sz49 rfl (Cells.repE r6 (by omega) rfl)) ?_)
 refine RW.alc rfl fun b4 => ?_
 refine gs22 ?_
 refine AW.cond rfl (fun hc1 => ?_) fun hc1 => ?_
 ·
  simp [-List.getD_eq_getElem?_getD, -Array.length_toList] at hc1
  have ht9 : I64 (Ft.tot (z.Own.getD (b.Gauges.getD q.toNat default).Target.toNat [])) := Ft.totTo_rng _ _
  have htg := ht (by assumption)
  refine AW.draw (J0 := St ⟨w, Φ, []⟩ Φ [.blk b4 49 (cl49 (b.Gauges.getD q.toNat default)), .blk b3 53 [iV 0, iV 0, iV 0, iV 0], .blk b2 36 (cl36 z tv1 tv2 tv3 tv4 tv5 tv6), .blk b1 31 (cl31 b v1 v3 v4 v5 v6 v7 v8 v9)]) [.q, .q, .q, .q, .q, .q, .q, .q, .q, .q, .q, .q, .q, .q, .q, .q] [0, 1, 2, 3, 4, 5, 6, 7, 8, 9, 10, 11, 12, 13, 14, 15] hmix (by kernel_rfl) ?_
  refine gs4 ?_
  refine DW.q (fun _ h => h) rfl (qa_ixZ rfl rfl r3.sl (by omega) (by omega)) ?_
  refine gs1 ?_
  obtain ⟨sv1, hsv1, hpc1⟩ := leaf71_4 r3 (k := ((b.Gauges.getD q.toNat default).Target).toNat) (by omega)
  refine DW.q (v := sv1) (fun _ h => h) rfl (q_load rfl uT68 rfl (Cell.phi hpc1)) ?_
  refine gs4 ?_
  refine DW.q (fun _ h => h) rfl (qa_ixZ rfl rfl tr1.sl (by omega) (by omega)) ?_
  obtain ⟨sv2, hsv2, hpc2⟩ := tr1.sub (k := ((b.Gauges.getD q.toNat default).Target).toNat) (by omega)
  refine DW.q (v := sv2) (fun _ h => h) rfl (q_load rfl uT29 rfl (Cell.phi hpc2)) (DW.c (fun _ h => h) rfl (fun w1 hw1 => Total_c w1 (Go.K.hp w1) (Hp.le_refl _) (hsv2.mono hw1.phi)) rfl rfl (DW.c (fun _ h => h) rfl (fun w1 hw1 => cAt_c w1 (Go.K.hp w1) (Hp.le_refl _) (hsv1.mono hw1.phi) ht9) rfl rfl ?_))
  refine gs5 ?_
  have hn9 : trN b z q = Fu.atC ((b.Places.getD (((b.Gauges.getD q.toNat default).Target).toNat) default).Level) (Ft.tot (z.Own.getD (((b.Gauges.getD q.toNat default).Target).toNat) [])) := by unfold trN; first | rw [if_pos (by omega)] | rw [if_neg (by omega)]
  have hk9 : trK b q = true := decide_eq_true (by omega)
  have hnr : -2251799813685248 ≤ Fu.atC ((b.Places.getD (((b.Gauges.getD q.toNat default).Target).toNat) default).Level) (Ft.tot (z.Own.getD (((b.Gauges.getD q.toNat default).Target).toNat) [])) ∧ Fu.atC ((b.Places.getD (((b.Gauges.getD q.toNat default).Target).toNat) default).Level) (Ft.tot (z.Own.getD (((b.Gauges.getD q.toNat default).Target).toNat) [])) ≤ 2251799813685248 := by first | omega | (have h9 := at_rng_any (b.Places.getD (b.Gauges.getD q.toNat default).Target.toNat default).Level (Ft.tot (z.Own.getD (b.Gauges.getD q.toNat default).Target.toNat [])); omega)
  refine gs10 ?_
  refine RW.q (v := .agg #[iV ((Fu.atC ((b.Places.getD (((b.Gauges.getD q.toNat default).Target).toNat) default).Level) (Ft.tot (z.Own.getD (((b.Gauges.getD q.toNat default).Target).toNat) []))) - u), iV ((Fu.atC ((b.Places.getD (((b.Gauges.getD q.toNat default).Target).toNat) default).Level) (Ft.tot (z.Own.getD (((b.Gauges.getD q.toNat default).Target).toNat) []))) + v)]) rfl (q_build (vals := [(0, iV ((Fu.atC ((b.Places.getD (((b.Gauges.getD q.toNat default).Target).toNat) default).Level) (Ft.tot (z.Own.getD (((b.Gauges.getD q.toNat default).Target).toNat) []))) - u)), (1, iV ((Fu.atC ((b.Places.getD (((b.Gauges.getD q.toNat default).Target).toNat) default).Level) (Ft.tot (z.Own.getD (((b.Gauges.getD q.toNat default).Target).toNat) []))) + v))]) zero51 uT51 places51 rfl rfl) (RW.q (v := .agg #[iV q, iV z.Hour, iV ((Fu.atC ((b.Places.getD (((b.Gauges.getD q.toNat default).Target).toNat) default).Level) (Ft.tot (z.Own.getD (((b.Gauges.getD q.toNat default).Target).toNat) []))) - u), iV ((Fu.atC ((b.Places.getD (((b.Gauges.getD q.toNat default).Target).toNat) default).Level) (Ft.tot (z.Own.getD (((b.Gauges.getD q.toNat default).Target).toNat) []))) + v)]) rfl (q_build (vals := [(0, iV q), (1, iV z.Hour), (2, .agg #[iV ((Fu.atC ((b.Places.getD (((b.Gauges.getD q.toNat default).Target).toNat) default).Level) (Ft.tot (z.Own.getD (((b.Gauges.getD q.toNat default).Target).toNat) []))) - u), iV ((Fu.atC ((b.Places.getD (((b.Gauges.getD q.toNat default).Target).toNat) default).Level) (Ft.tot (z.Own.getD (((b.Gauges.getD q.toNat default).Target).toNat) []))) + v)])]) zero53 uT53 places53 rfl rfl) ?_)
  refine gs5 ?_
  refine fin_cell2 (cs := [iV q, iV z.Hour, iV ((Fu.atC ((b.Places.getD (((b.Gauges.getD q.toNat default).Target).toNat) default).Level) (Ft.tot (z.Own.getD (((b.Gauges.getD q.toNat default).Target).toNat) []))) - u), iV ((Fu.atC ((b.Places.getD (((b.Gauges.getD q.toNat default).Target).toNat) default).Level) (Ft.tot (z.Own.getD (((b.Gauges.getD q.toNat default).Target).toNat) []))) + v)]) (v := .bool true) rfl rfl rfl rfl uT53 rfl sz53 rfl (Cells.blk 1 rfl) (fun w' hw => ?_)
  refine ⟨?_, hw.below rfl⟩
  rw [show trK b q = true from hk9, show truR b z q u v = (⟨q, z.Hour, ⟨trN b z q - u, trN b z q + v⟩⟩ : Bt.Reading) from if_pos hk9, hn9]
  try rfl
 ·
  simp [-List.getD_eq_getElem?_getD, -Array.length_toList] at hc1
  refine gs6 ?_
  refine AW.cond rfl (fun hc2 => ?_) fun hc2 => ?_
  ·
   simp [-List.getD_eq_getElem?_getD, -Array.length_toList] at hc2
   have htg := ht2 (by omega)
   refine gs5 ?_
   refine RW.q rfl (qa_ixZ rfl rfl tr4.sl (by omega) (by omega)) ?_
   refine gs1 ?_
   refine RW.q (v := iV ((z.Gates.getD (((b.Gauges.getD q.toNat default).Target).toNat) default).Pos)) rfl (q_load rfl uT3 rfl (Cell.repE (j := 0) tr4 (by omega) rfl)) ?_
   refine gs5 ?_
   have hn9 : trN b z q = (z.Gates.getD (((b.Gauges.getD q.toNat default).Target).toNat) default).Pos := by unfold trN; first | rw [if_pos (by omega)] | rw [if_neg (by omega)]
   have hk9 : trK b q = true := decide_eq_true (by omega)
   have hnr : -2251799813685248 ≤ (z.Gates.getD (((b.Gauges.getD q.toNat default).Target).toNat) default).Pos ∧ (z.Gates.getD (((b.Gauges.getD q.toNat default).Target).toNat) default).Pos ≤ 2251799813685248 := by first | omega | (have h9 := at_rng_any (b.Places.getD (b.Gauges.getD q.toNat default).Target.toNat default).Level (Ft.tot (z.Own.getD (b.Gauges.getD q.toNat default).Target.toNat [])); omega)
   refine gs10 ?_
   refine RW.q (v := .agg #[iV (((z.Gates.getD (((b.Gauges.getD q.toNat default).Target).toNat) default).Pos) - u), iV (((z.Gates.getD (((b.Gauges.getD q.toNat default).Target).toNat) default).Pos) + v)]) rfl (q_build (vals := [(0, iV (((z.Gates.getD (((b.Gauges.getD q.toNat default).Target).toNat) default).Pos) - u)), (1, iV (((z.Gates.getD (((b.Gauges.getD q.toNat default).Target).toNat) default).Pos) + v))]) zero51 uT51 places51 rfl rfl) (RW.q (v := .agg #[iV q, iV z.Hour, iV (((z.Gates.getD (((b.Gauges.getD q.toNat default).Target).toNat) default).Pos) - u), iV (((z.Gates.getD (((b.Gauges.getD q.toNat default).Target).toNat) default).Pos) + v)]) rfl (q_build (vals := [(0, iV q), (1, iV z.Hour), (2, .agg #[iV (((z.Gates.getD (((b.Gauges.getD q.toNat default).Target).toNat) default).Pos) - u), iV (((z.Gates.getD (((b.Gauges.getD q.toNat default).Target).toNat) default).Pos) + v)])]) zero53 uT53 places53 rfl rfl) ?_)
   refine gs5 ?_
   refine fin_cell2 (cs := [iV q, iV z.Hour, iV (((z.Gates.getD (((b.Gauges.getD q.toNat default).Target).toNat) default).Pos) - u), iV (((z.Gates.getD (((b.Gauges.getD q.toNat default).Target).toNat) default).Pos) + v)]) (v := .bool true) rfl rfl rfl rfl uT53 rfl sz53 rfl (Cells.blk 1 rfl) (fun w' hw => ?_)
   refine ⟨?_, hw.below rfl⟩
   rw [show trK b q = true from hk9, show truR b z q u v = (⟨q, z.Hour, ⟨trN b z q - u, trN b z q + v⟩⟩ : Bt.Reading) from if_pos hk9, hn9]
   try rfl
  ·
   simp [-List.getD_eq_getElem?_getD, -Array.length_toList] at hc2
   refine gs2 ?_
   refine RW.q (v := .agg #[iV 0, iV 0, iV 0, iV 0]) rfl (q_build (vals := []) zero53 uT53 places53 rfl rfl) ?_
   refine gs7 ?_
   refine fin_cell2 (cs := [iV 0, iV 0, iV 0, iV 0]) (v := .bool false) rfl rfl rfl rfl uT53 rfl sz53 rfl (Cells.blk 1 rfl) (fun w' hw => ?_)
   refine ⟨?_, hw.below rfl⟩
   have hk9 : trK b q = false := decide_eq_false (by omega)
   rw [hk9, show truR b z q u v = default from if_neg (by rw [hk9]; simp)]
   try rfl
end Go.Proofs.YtblfeidlnhdekaaGreat
