/- Lemmas. Conditions: those of each theorem. -/
import Derived.Test.YtblfeidlnhdekaaGreatSWalkQ
set_option maxRecDepth 8000
set_option maxHeartbeats 16000000
namespace Go.Proofs.YtblfeidlnhdekaaGreat
open Go Go.K Go.RowKit Go.WideMaps Go.Maps
theorem litWf {a : Int} (h : I64 a) : (Lit.int .i64 a).wf = true := by
  unfold I64 at h
  simp [Lit.wf, IntKind.min, IntKind.max, IntKind.bits, IntKind.signed]
  omega
theorem cells146 : pg.cellsOf 146 = 2 := by kernel_rfl
theorem cells3 : pg.cellsOf 3 = 1 := by kernel_rfl
theorem keyT146 : pg.keyType 146 = true := by kernel_rfl
theorem key_key {a b : Int} (ha : I64 a) (hb : I64 b) : ∃ l, keyOf pg 146 (.agg #[.int .i64 a, .int .i64 b]) = some l := by
  obtain ⟨m, hm⟩ := tySize
  have hf : (Value.agg #[.int .i64 a, .int .i64 b]).formed pg 146 = true := by simp [Value.formed, Tryz.underlying146, cells146]
  have wa := litWf ha
  have wb := litWf hb
  unfold keyOf
  rw [Tryz.underlying146]
  simp only [keyT146, hf, Bool.and_self, if_true, hm]
  refine ⟨.string (keyBytes [.int .i64 a, .int .i64 b]), ?_⟩
  simp [Program.keyLits, Tryz.underlying146, Tryz.underlying3, Value.cells, cells146, cells3, wa, wb]
abbrev pairV (k : Int × Int) : Value := .agg #[.int .i64 k.1, .int .i64 k.2]
theorem pairV_inj {a b : Int × Int} (h : pairV a = pairV b) : a = b := by
  obtain ⟨a1, a2⟩ := a; obtain ⟨b1, b2⟩ := b
  simp only [pairV, Value.agg.injEq, Array.mk.injEq, List.cons.injEq, Value.int.injEq, true_and, and_true] at h
  rw [h.1, h.2]
noncomputable def kKey : KL pg 146 (Int × Int) := KL.of (Keyed.of_law (deep_law_laid laidOut_ (m := 2) (by omega) (odT (by kernel_rfl)) (by kernel_rfl) (by rw [Tryz.underlying146]))) pairV (fun k => I64 k.1 ∧ I64 k.2) pairV_inj fun a ha => key_key ha.1 ha.2
end Go.Proofs.YtblfeidlnhdekaaGreat
namespace Ft
open Go Go.K
def left (es : Array MapEntry) (seen : Array Nat) : Nat := (es.toList.filter fun e => !seen.contains e.born).length
theorem contains_push (seen : Array Nat) (a c : Nat) : (seen.push a).contains c = (seen.contains c || c == a) := by
  rw [Bool.eq_iff_iff]; simp
theorem left_lt {es : Array MapEntry} {seen : Array Nat} {e : MapEntry} (he : e ∈ es.toList) (hn : seen.contains e.born = false) : left es (seen.push e.born) < left es seen := by
  unfold left
  have key : ∀ l : List MapEntry, (l.filter fun e' => !(seen.push e.born).contains e'.born).length ≤ (l.filter fun e' => !seen.contains e'.born).length ∧ (e ∈ l → (l.filter fun e' => !(seen.push e.born).contains e'.born).length < (l.filter fun e' => !seen.contains e'.born).length) := by
    intro l
    induction l with
    | nil => exact ⟨Nat.le_refl _, fun h => by cases h⟩
    | cons a l ih =>
      obtain ⟨i1, i2⟩ := ih
      have hp := contains_push seen e.born a.born
      cases hs : seen.contains a.born with
      | true =>
        rw [hs, Bool.true_or] at hp
        have e1 : ((a :: l).filter fun e' => !(seen.push e.born).contains e'.born) = l.filter fun e' => !(seen.push e.born).contains e'.born := List.filter_cons_of_neg (by rw [hp]; simp)
        have e2 : ((a :: l).filter fun e' => !seen.contains e'.born) = l.filter fun e' => !seen.contains e'.born := List.filter_cons_of_neg (by rw [hs]; simp)
        rw [e1, e2]
        refine ⟨i1, fun h => ?_⟩
        rcases List.mem_cons.1 h with h | h
        · subst h; rw [hn] at hs; cases hs
        · exact i2 h
      | false =>
        have e2 : ((a :: l).filter fun e' => !seen.contains e'.born) = a :: l.filter fun e' => !seen.contains e'.born := List.filter_cons_of_pos (by rw [hs]; simp)
        rw [e2]
        by_cases hab : a.born = e.born
        · have e1 : ((a :: l).filter fun e' => !(seen.push e.born).contains e'.born) = l.filter fun e' => !(seen.push e.born).contains e'.born := List.filter_cons_of_neg (by rw [hp, hab]; simp)
          rw [e1]
          simp only [List.length_cons]
          exact ⟨by omega, fun _ => by omega⟩
        · have e1 : ((a :: l).filter fun e' => !(seen.push e.born).contains e'.born) = a :: l.filter fun e' => !(seen.push e.born).contains e'.born := List.filter_cons_of_pos (by rw [hp, hs]; simp [hab])
          rw [e1]
          simp only [List.length_cons]
          refine ⟨by omega, fun h => ?_⟩
          rcases List.mem_cons.1 h with h | h
          · subst h; exact absurd rfl hab
          · have := i2 h; omega
  exact (key es.toList).2 he
def SeenOk (es : Array MapEntry) (M : Int × Int → Option Int) (L : Int × Int → Option Bool) (seen : Array Nat) : Prop := ∀ e ∈ es.toList, seen.contains e.born = true → ∀ k x, e.key = Go.Proofs.YtblfeidlnhdekaaGreat.pairV k → M k = some x → (L k).getD false = true ∨ x = 0
theorem SeenOk.start {es : Array MapEntry} {M : Int × Int → Option Int} {L : Int × Int → Option Bool} : SeenOk es M L #[] := fun e _ h => by simp at h
theorem SeenOk.next {es : Array MapEntry} {M : Int × Int → Option Int} {L : Int × Int → Option Bool} {seen : Array Nat} {clock : Nat} (h : SeenOk es M L seen) (km : KM Go.Proofs.YtblfeidlnhdekaaGreat.kKey (Value.int .i64) es clock M) {e : MapEntry} {k : Int × Int} {x : Int} (he : e ∈ es.toList) (hk : e.key = Go.Proofs.YtblfeidlnhdekaaGreat.pairV k) (hM : M k = some x) (hx : (L k).getD false = true ∨ x = 0) : SeenOk es M L (seen.push e.born) := fun e' he' hs k' x' hk' hM' => by
  rw [contains_push] at hs
  by_cases hb : e'.born = e.born
  · have hee : e' = e := by
      have hn := km.born
      rw [List.nodup_iff_pairwise_ne, List.pairwise_map] at hn
      rcases List.mem_iff_getElem.1 he' with ⟨i, hi, rfl⟩
      rcases List.mem_iff_getElem.1 he with ⟨j, hj, rfl⟩
      rcases Nat.lt_trichotomy i j with h1 | h1 | h1
      · exact absurd hb (List.pairwise_iff_getElem.1 hn i j hi hj h1)
      · subst h1; rfl
      · exact absurd hb.symm (List.pairwise_iff_getElem.1 hn j i hj hi h1)
    subst hee
    have : k' = k := Go.Proofs.YtblfeidlnhdekaaGreat.pairV_inj (hk'.symm.trans hk)
    subst this
    rw [hM] at hM'
    obtain rfl := sJ hM'
    exact hx
  · have : (e'.born == e.born) = false := by simp [hb]
    rw [this, Bool.or_false] at hs
    exact h e' he' hs k' x' hk' hM'
theorem SeenOk.all {es : Array MapEntry} {M : Int × Int → Option Int} {L : Int × Int → Option Bool} {seen : Array Nat} {clock : Nat} (h : SeenOk es M L seen) (km : KM Go.Proofs.YtblfeidlnhdekaaGreat.kKey (Value.int .i64) es clock M) (hall : ∀ e ∈ es.toList, seen.contains e.born = true) : ∀ k n, M k = some n → (L k).getD false = true ∨ n = 0 := fun k n hk => by
  obtain ⟨e, he, hke⟩ := km.has k n hk
  exact h e he (hall e he) k n hke hk
end Ft
namespace Go.Proofs.YtblfeidlnhdekaaGreat
open Go Go.K Go.RowKit
attribute [local irreducible] AW RW DW Post Qt
theorem Or_c (w : World) (Φ : Hp) (hΦ : Hp.le Φ (hp w)) {xs : List Int} {v1 : Value} (h1 : RepSl Φ xs v1) :
  Calls pg 28 #[v1] w fun e w' => e = .returned (iV (Ft.orL xs)) ∧ Bel w.heap.size w w' := by
 refine in1 18 Tryz.func28 rfl rfl hΦ ?_
 have hm1 : xs.length * 8 ≤ 140737488355328 := h1.max
 refine gs19 ?_
 refine AW.lp (fun s J m => ∃ (k : Nat), s = [(3, iV 0), (6, v1), (7, iV (xs.length : Int)), (8, iV (k : Int))] ∧ J = St ⟨w, Φ, []⟩ Φ [] ∧ m = xs.length - k ∧ (k ≤ xs.length) ∧ (∀ j, j < k → xs.getD j 0 = 0)) ⟨0, rfl, rfl, rfl, (by omega), (by omega)⟩ ?_
 rintro _ _ _ _ ⟨k, rfl, rfl, rfl, hk, hz⟩
 refine gs6 ?_
 refine AW.cond rfl (fun hc1 => ?_) fun hc1 => ?_
 ·
  simp [-List.getD_eq_getElem?_getD] at hc1
  refine gs7 ?_
  refine RW.q (v := iV (xs.getD k 0)) rfl (q_load rfl uT3 rfl (Cell.repInt h1 (by omega))) ?_
  refine gs10 ?_
  refine AW.cond rfl (fun hc2 => ?_) fun hc2 => ?_
  ·
   simp [-List.getD_eq_getElem?_getD] at hc2
   refine gs12 ?_
   exact fin_val (v' := iV (xs.getD k 0)) rfl rfl rfl (by rw [Ft.orL_hit (by omega) hz hc2])
  ·
   simp [-List.getD_eq_getElem?_getD] at hc2
   refine gs7 ?_
   exact Post.bk ⟨k + 1, rfl, rfl, rfl, (by omega), (Fu.lt_succ hz (by omega))⟩
 ·
  simp [-List.getD_eq_getElem?_getD] at hc1
  refine gs12 ?_
  exact fin_val (v' := iV 0) rfl rfl rfl (by rw [Ft.orL_miss (fun j hj => hz j (by omega))])
theorem cmp_rng (a b : Int) : -1 ≤ Fu.cmpI a b ∧ Fu.cmpI a b ≤ 1 := by unfold Fu.cmpI; split <;> (try split) <;> omega
theorem wfO (a b c d : Int) : ∀ x ∈ [Fu.cmpI a b, Fu.cmpI c d], I64 x := fun x hx => by
 simp only [List.mem_cons, List.not_mem_nil, or_false] at hx
 have h1 := cmp_rng a b; have h2 := cmp_rng c d
 unfold I64
 rcases hx with rfl | rfl <;> omega
theorem order_c (w : World) (Φ : Hp) (hΦ : Hp.le Φ (hp w)) {x y : Bt.Sum} :
  Calls pg 64 #[.agg #[iV x.At, iV x.To, iV x.Vol.Lo, iV x.Vol.Hi], .agg #[iV y.At, iV y.To, iV y.Vol.Lo, iV y.Vol.Hi]] w fun e w' => e = .returned (iV (Ft.orL [Fu.cmpI x.At y.At, Fu.cmpI x.To y.To])) ∧ Bel w.heap.size w w' := by
 refine in2 17 Tryz.func64 rfl rfl hΦ ?_
 refine gs2 ?_
 refine RW.bxA rfl rfl fun b1 => ?_
 refine RW.bxA rfl rfl fun b2 => ?_
 refine gs4 ?_
 refine AW.draw (J0 := St ⟨w, Φ, []⟩ Φ [.blk b2 98 [iV y.At, iV y.To, iV y.Vol.Lo, iV y.Vol.Hi], .blk b1 98 [iV x.At, iV x.To, iV x.Vol.Lo, iV x.Vol.Hi]]) [.q, .q, .q, .q, .q, .q, .q, .q, .q, .q, .e, .e, .q] [0, 1, 2, 3, 4, 5, 6, 7, 8, 9, 10, 11, 12] hmix (by kernel_rfl) ?_
 refine gs4 ?_
 refine DW.c (fun _ h => h) rfl (fun w1 hw1 => Compare_c w1 (Go.K.hp w1) (Hp.le_refl _)) rfl rfl ?_
 refine gs4 ?_
 refine DW.c (fun _ h => h) rfl (fun w1 hw1 => Compare_c w1 (Go.K.hp w1) (Hp.le_refl _)) rfl rfl (DW.eff (fun b3 : Nat => (.slice (some ⟨b3, 0, none⟩) 2 2)) (fun b3 => St ⟨w, Φ, []⟩ Φ [.row (.slice (some ⟨b3, 0, none⟩) 2 2) 3 1 2 ([iV (Fu.cmpI x.At y.At), iV (Fu.cmpI x.To y.To)]), .blk b2 98 [iV y.At, iV y.To, iV y.Vol.Lo, iV y.Vol.Hi], .blk b1 98 [iV x.At, iV x.To, iV x.Vol.Lo, iV x.Vol.Hi]]) (fun _ _ => (fun _ h => (StP.drop h (by exact .cons _ (.cons_cons _ (.cons_cons _ (.slnil))))))) rfl (e_buildSlice (vals := [(0, iV (Fu.cmpI x.At y.At)), (1, iV (Fu.cmpI x.To y.To))]) (cells := [iV (Fu.cmpI x.At y.At), iV (Fu.cmpI x.To y.To)]) uT29 inf3 rfl rfl rfl (by kernel_rfl) rfl) ?_)
 intro b3
 refine DW.qe (v := iV (Ft.orL ([Fu.cmpI x.At y.At, Fu.cmpI x.To y.To] : List Int))) (fun _ => (fun _ h => (StP.drop h (by exact .cons _ (.cons_cons _ (.cons_cons _ (.slnil))))))) rfl (q_call (args := #[(.slice (some ⟨b3, 0, none⟩) 2 2)]) oK rfl rfl (fun w1 hw1 => Or_c w1 (Go.K.hp w1) (Hp.le_refl _) (RowS.ints (xs := [Fu.cmpI x.At y.At, Fu.cmpI x.To y.To]) (show RowS (Go.K.hp w1) (.slice (some ⟨b3, 0, none⟩) 2 2) 3 1 (2) ([iV (Fu.cmpI x.At y.At), iV (Fu.cmpI x.To y.To)]) from hw1.sAt 0 rfl) (by decide) (wfO _ _ _ _)))) (DW.q (v := iV (Ft.orL ([Fu.cmpI x.At y.At, Fu.cmpI x.To y.To] : List Int))) (fun _ h => (StP.drop h (by exact .cons _ (.cons_cons _ (.cons_cons _ (.slnil)))))) rfl (q_assign rfl) ?_)
 refine gs3 ?_
 exact fin_val (v' := iV (Ft.orL ([Fu.cmpI x.At y.At, Fu.cmpI x.To y.To] : List Int))) rfl rfl rfl (rfl)
theorem spOf_c (w : World) (Φ : Hp) (hΦ : Hp.le Φ (hp w)) {n : Int} :
  Calls pg 93 #[iV n] w fun e w' => e = .returned (.agg #[iV n, iV n]) ∧ Bel w.heap.size w w' := by
 refine in1 6 Tryz.func93 rfl rfl hΦ ?_
 refine gs2 ?_
 refine RW.alc rfl fun b1 => ?_
 refine gs6 ?_
 refine RW.q (v := .agg #[iV n, iV n]) rfl (q_build (vals := [(0, iV n), (1, iV n)]) zero51 uT51 places51 rfl rfl) ?_
 refine gs4 ?_
 refine fin_cell1 (cs := [iV n, iV n]) rfl rfl rfl uT51 rfl sz51 rfl (Cells.blk 0 rfl) (fun w' hw => ?_)
 refine ⟨?_, hw.below rfl⟩
 rfl
def bitI (t : Bool) : Int := if t = true then 1 else 0
theorem bit_c (w : World) (Φ : Hp) (hΦ : Hp.le Φ (hp w)) {t : Bool} :
  Calls pg 42 #[.bool t] w fun e w' => e = .returned (iV (bitI t)) ∧ Bel w.heap.size w w' := by
 refine in1 4 Tryz.func42 rfl rfl hΦ ?_
 refine gs11 ?_
 refine AW.cond rfl (fun hc1 => ?_) fun hc1 => ?_
 ·
  refine gs7 ?_
  exact fin_val (v' := iV 1) rfl rfl rfl (by rw [hc1]; rfl)
 ·
  refine gs8 ?_
  exact fin_val (v' := iV 0) rfl rfl rfl (by rw [hc1]; rfl)
def rlinkB (l : Bt.Link) (x : Bt.Known) : Bool := !((((!(decide (x.Pos.Lo ≤ x.Pos.Hi))) || (!(decide (0 ≤ x.Pos.Lo ∧ x.Pos.Hi ≤ l.Positions)))) || (!(decide (0 ≤ x.Target) && decide (x.Target ≤ l.Positions))))) && (if (((!decide (l.Kind = 5)) && (!decide (l.Kind = 3)))) = true then decide (x.Open.Lo = 0) && decide (x.Open.Hi = 0) else (((decide (x.Open.Lo = 0) && decide (x.Open.Hi = 0)) || (decide (x.Open.Lo = 1) && decide (x.Open.Hi = 1))) || (decide (x.Open.Lo = min 0 1) && decide (x.Open.Hi = max 0 1))))
theorem rLink_c (w : World) (Φ : Hp) (hΦ : Hp.le Φ (hp w)) {l : Bt.Link} {cs : List Value} (hL : RepV Φ l cs) {x : Bt.Known} :
  Calls pg 65 #[.agg cs.toArray, .agg #[iV x.Pos.Lo, iV x.Pos.Hi, iV x.Target, iV x.Open.Lo, iV x.Open.Hi]] w fun e w' => e = .returned (.bool (rlinkB l x)) ∧ Bel w.heap.size w w' := by
 obtain ⟨v4, v5, v6, hcs, hLw, r4, r5, r6⟩ := (show Rep.rep Φ l cs from hL)
 subst hcs
 refine in2 61 Tryz.func65 rfl rfl hΦ ?_
 refine gs2 ?_
 refine RW.bxA rfl rfl fun b1 => ?_
 refine RW.bxA rfl rfl fun b2 => ?_
 refine gs7 ?_
 refine RW.q (v := .agg #[iV 0, iV l.Positions]) rfl (q_build (vals := [(0, iV 0), (1, iV l.Positions)]) zero51 uT51 places51 rfl rfl) ?_
 refine RW.alc rfl fun b3 => ?_
 refine gs7 ?_
 refine RW.q (v := .agg #[iV x.Pos.Lo, iV x.Pos.Hi]) rfl (q_loadAgg rfl uT51 rfl sz51 rfl (Cells.blkP (off := 0) 1 rfl (fun j u hu => (by rcases j with _ | (_ | _) <;> first | exact hu | cases hu)))) (RW.c rfl (fun w1 hw1 => sRight_c w1 (Go.K.hp w1) (Hp.le_refl _)) rfl rfl ?_)
 refine gs3 ?_
 refine RW.g (b := (!(decide (x.Pos.Lo ≤ x.Pos.Hi)))) (v := .agg #[iV x.Pos.Lo, iV x.Pos.Hi]) rfl rfl rfl (fun h => q_loadAgg (gv_pos h) uT51 rfl sz51 rfl (Cells.blkP (off := 0) 1 rfl (fun j u hu => (by rcases j with _ | (_ | _) <;> first | exact hu | cases hu)))) ?_
 refine gs1 ?_
 refine RW.gc rfl rfl rfl (fun w1 hw1 => sWithin_c w1 (Go.K.hp w1) (Hp.le_refl _)) rfl (fun h => args2 (gv_pos h) (gv_pos h)) ?_
 refine gs1 ?_
 obtain ⟨qb1, hqb1⟩ : ∃ qz : Bool, ((!(decide (x.Pos.Lo ≤ x.Pos.Hi))) || (!(decide (0 ≤ x.Pos.Lo ∧ x.Pos.Hi ≤ l.Positions)))) = qz := ⟨_, rfl⟩
 refine RW.q (v := .bool qb1) rfl (q_as (v := .bool ((!(decide (x.Pos.Lo ≤ x.Pos.Hi))) || (!(decide (0 ≤ x.Pos.Lo ∧ x.Pos.Hi ≤ l.Positions))))) (qpO rfl rfl rfl) (congrArg Value.bool hqb1)) ?_
 refine gs4 ?_
 refine RW.gc rfl rfl rfl (fun w1 hw1 => sHas_c w1 (Go.K.hp w1) (Hp.le_refl _)) rfl (fun h => args2 (gv_pos h) (gv_pos h)) ?_
 refine gs1 ?_
 obtain ⟨qb2, hqb2⟩ : ∃ qz : Bool, (qb1 || (!(decide (0 ≤ x.Target) && decide (x.Target ≤ l.Positions)))) = qz := ⟨_, rfl⟩
 refine RW.q (v := .bool qb2) rfl (q_as (v := .bool (qb1 || (!(decide (0 ≤ x.Target) && decide (x.Target ≤ l.Positions))))) (qpO rfl rfl rfl) (congrArg Value.bool hqb2)) ?_
 subst hqb2 hqb1
 refine gs2 ?_
 refine AW.cond rfl (fun hc1 => ?_) fun hc1 => ?_
 ·
  refine gs7 ?_
  exact fin_val (v' := .bool false) rfl rfl rfl (by unfold rlinkB; rw [hc1]; rfl)
 ·
  refine gs4 ?_
  refine RW.c rfl (fun w1 hw1 => spOf_c w1 (Go.K.hp w1) (Hp.le_refl _) (n := 0)) rfl rfl (RW.c rfl (fun w1 hw1 => spOf_c w1 (Go.K.hp w1) (Hp.le_refl _) (n := 1)) rfl rfl ?_)
  refine RW.alc rfl fun b4 => ?_
  refine RW.alc rfl fun b5 => ?_
  refine gs14 ?_
  obtain ⟨qb3, hqb3⟩ : ∃ qz : Bool, ((!decide (l.Kind = 5)) && (!decide (l.Kind = 3))) = qz := ⟨_, rfl⟩
  refine RW.q (v := .bool qb3) rfl (q_as (v := .bool ((!decide (l.Kind = 5)) && (!decide (l.Kind = 3)))) (qpA rfl rfl rfl) (congrArg Value.bool hqb3)) ?_
  subst hqb3
  refine gs2 ?_
  refine AW.cond rfl (fun hc2 => ?_) fun hc2 => ?_
  ·
   refine gs3 ?_
   refine RW.q (v := .agg #[iV x.Open.Lo, iV x.Open.Hi]) rfl (q_loadAgg rfl uT51 rfl sz51 rfl (Cells.blkP (off := 3) 3 rfl (fun j u hu => (by rcases j with _ | (_ | _) <;> first | exact hu | cases hu)))) ?_
   refine gs1 ?_
   refine RW.q (v := .bool (decide (x.Open.Lo = 0) && decide (x.Open.Hi = 0))) rfl (q_eqlS rfl rfl (eqS51 _ _ _ _) eqG51) ?_
   refine gs5 ?_
   exact fin_val (v' := .bool (decide (x.Open.Lo = 0) && decide (x.Open.Hi = 0))) rfl rfl rfl (by unfold rlinkB; rw [hc1, if_pos hc2]; rfl)
  ·
   refine gs3 ?_
   refine AW.draw (J0 := St ⟨w, Φ, []⟩ Φ [.blk b5 51 [iV 1, iV 1], .blk b4 51 [iV 0, iV 0], .blk b3 51 [iV 0, iV l.Positions], .blk b2 101 [iV x.Pos.Lo, iV x.Pos.Hi, iV x.Target, iV x.Open.Lo, iV x.Open.Hi], .blk b1 124 (cl124 l v4 v5 v6)]) [.q, .q, .q, .q, .q, .q, .q, .q, .q, .q, .q, .q, .q, .q, .q, .q, .q, .q, .q] [0, 1, 2, 3, 4, 5, 6, 7, 8, 9, 10, 11, 12, 13, 14, 15, 16, 17, 18] hmix (by kernel_rfl) ?_
   refine gs1 ?_
   refine DW.q (v := .agg #[iV x.Open.Lo, iV x.Open.Hi]) (fun _ h => h) rfl (q_loadAgg rfl uT51 rfl sz51 rfl (Cells.blkP (off := 3) 3 rfl (fun j u hu => (by rcases j with _ | (_ | _) <;> first | exact hu | cases hu)))) ?_
   refine gs1 ?_
   refine DW.q (v := .bool (decide (x.Open.Lo = 0) && decide (x.Open.Hi = 0))) (fun _ h => h) rfl (q_eqlS rfl rfl (eqS51 _ _ _ _) eqG51) ?_
   refine gs2 ?_
   refine DW.g (b := (decide (x.Open.Lo = 0) && decide (x.Open.Hi = 0))) (v := .agg #[iV x.Open.Lo, iV x.Open.Hi]) (fun _ h => h) rfl rfl rfl (fun h => q_loadAgg (gv_pos h) uT51 rfl sz51 rfl (Cells.blkP (off := 3) 3 rfl (fun j u hu => (by rcases j with _ | (_ | _) <;> first | exact hu | cases hu)))) ?_
   refine gs1 ?_
   refine DW.g (b := (decide (x.Open.Lo = 0) && decide (x.Open.Hi = 0))) (v := .bool (decide (x.Open.Lo = 1) && decide (x.Open.Hi = 1))) (fun _ h => h) rfl rfl rfl (fun h => q_eqlS (gv_pos h) (gv_pos h) (eqS51 _ _ _ _) eqG51) ?_
   obtain ⟨qb4, hqb4⟩ : ∃ qz : Bool, ((decide (x.Open.Lo = 0) && decide (x.Open.Hi = 0)) || (decide (x.Open.Lo = 1) && decide (x.Open.Hi = 1))) = qz := ⟨_, rfl⟩
   refine DW.q (v := .bool qb4) (fun _ h => h) rfl (q_as (v := .bool ((decide (x.Open.Lo = 0) && decide (x.Open.Hi = 0)) || (decide (x.Open.Lo = 1) && decide (x.Open.Hi = 1)))) (qpO rfl rfl rfl) (congrArg Value.bool hqb4)) ?_
   refine gs2 ?_
   refine DW.g (b := qb4) (v := .agg #[iV x.Open.Lo, iV x.Open.Hi]) (fun _ h => h) rfl rfl rfl (fun h => q_loadAgg (gv_pos h) uT51 rfl sz51 rfl (Cells.blkP (off := 3) 3 rfl (fun j u hu => (by rcases j with _ | (_ | _) <;> first | exact hu | cases hu)))) ?_
   refine gs2 ?_
   refine DW.g (b := qb4) (v := .agg #[iV (min 0 1), iV (max 0 1)]) (fun _ h => h) rfl rfl rfl (fun h => q_call (args := #[.agg #[iV 0, iV 0], .agg #[iV 1, iV 1]]) oK rfl (args2 (gv_pos h) (gv_pos h)) (fun w1 hw1 => sJoin_c w1 (Go.K.hp w1) (Hp.le_refl _))) (DW.g (b := qb4) (v := .bool (decide (x.Open.Lo = min 0 1) && decide (x.Open.Hi = max 0 1))) (fun _ h => h) rfl rfl rfl (fun h => q_eqlS (gv_pos h) (gv_pos h) (eqS51 _ _ _ _) eqG51) ?_)
   obtain ⟨qb5, hqb5⟩ : ∃ qz : Bool, (qb4 || (decide (x.Open.Lo = min 0 1) && decide (x.Open.Hi = max 0 1))) = qz := ⟨_, rfl⟩
   refine DW.q (v := .bool qb5) (fun _ h => h) rfl (q_as (v := .bool (qb4 || (decide (x.Open.Lo = min 0 1) && decide (x.Open.Hi = max 0 1)))) (qpO rfl rfl rfl) (congrArg Value.bool hqb5)) ?_
   refine gs1 ?_
   subst hqb5 hqb4
   refine gs3 ?_
   exact fin_val (v' := .bool (((decide (x.Open.Lo = 0) && decide (x.Open.Hi = 0)) || (decide (x.Open.Lo = 1) && decide (x.Open.Hi = 1))) || (decide (x.Open.Lo = min 0 1) && decide (x.Open.Hi = max 0 1)))) rfl rfl rfl (by unfold rlinkB; rw [hc1, if_neg (by rw [hc2]; simp)]; rfl)
def hrBad0 (b : Bt.Basin) (y : Bt.Hull) : Bool := ((((decide (y.Hour < 0)) || (decide ((16777216 : Int) < y.Hour))) || (!decide ((y.Vol.length : Int) = (b.Places.length : Int)))) || (!decide ((y.Links.length : Int) = (b.Links.length : Int))))
def hvBad (_ : Bt.Basin) (y : Bt.Hull) (k : Nat) : Bool := ((!(decide ((y.Vol.getD k default).Lo ≤ (y.Vol.getD k default).Hi))) || (!(decide (0 ≤ (y.Vol.getD k default).Lo ∧ (y.Vol.getD k default).Hi ≤ 1125899906842624))))
def hqBad (b : Bt.Basin) (y : Bt.Hull) (k : Nat) : Bool := (((((!(decide ((y.Queue.getD k default).Vol.Lo ≤ (y.Queue.getD k default).Vol.Hi))) || (!(decide (0 ≤ (y.Queue.getD k default).Vol.Lo ∧ (y.Queue.getD k default).Vol.Hi ≤ 1125899906842624)))) || (decide ((y.Queue.getD k default).Vol.Hi ≤ 0))) || (decide ((y.Queue.getD k default).At < y.Hour))) || (!(decide (0 ≤ (y.Queue.getD k default).To ∧ (y.Queue.getD k default).To < (b.Places.length : Int)))))
def hqBa2 (_ : Bt.Basin) (y : Bt.Hull) (k : Nat) : Bool := ((decide ((0 : Int) < (k : Int))) && (decide ((0 : Int) ≤ Ft.orL [Fu.cmpI (y.Queue.getD (k - 1) default).At (y.Queue.getD k default).At, Fu.cmpI (y.Queue.getD (k - 1) default).To (y.Queue.getD k default).To])))
def hlBad (b : Bt.Basin) (y : Bt.Hull) (k : Nat) : Bool := !(rlinkB (b.Links.getD k default) (y.Links.getD k default))
def HRight (b : Bt.Basin) (y : Bt.Hull) : Prop := hrBad0 b y = false ∧ (∀ k, k < y.Vol.length → hvBad b y k = false) ∧ (∀ k, k < y.Queue.length → hqBad b y k = false ∧ hqBa2 b y k = false) ∧ ∀ k, k < y.Links.length → hlBad b y k = false
instance (b : Bt.Basin) (y : Bt.Hull) : Decidable (HRight b y) := inferInstanceAs (Decidable (hrBad0 b y = false ∧ (∀ k, k < y.Vol.length → hvBad b y k = false) ∧ (∀ k, k < y.Queue.length → hqBad b y k = false ∧ hqBa2 b y k = false) ∧ ∀ k, k < y.Links.length → hlBad b y k = false))
theorem hRight_c (w : World) (Φ : Hp) (hΦ : Hp.le Φ (hp w)) {b : Bt.Basin} {cs : List Value} (hB : RepV Φ b cs) {y : Bt.Hull} {ycs : List Value} (yH : RepV Φ y ycs) :
  Calls pg 17 #[.agg cs.toArray, .agg ycs.toArray] w fun e w' => e = .returned (.bool (decide (HRight b y))) ∧ Bel w.heap.size w w' := by
 obtain ⟨v1, v3, v4, v5, v6, v7, v8, v9, hcs, hBw, r1, r3, r4, r5, r6, r7, r8, r9⟩ := (show Rep.rep Φ b cs from hB)
 subst hcs
 have hpm : b.Places.length * 152 ≤ 140737488355328 := r3.max
 obtain ⟨yv1, yv2, yv3, yhcs, yhw, yr1, yr2, yr3⟩ := (show Rep.rep Φ y ycs from yH)
 subst yhcs
 have ym1 : y.Vol.length * 16 ≤ 140737488355328 := yr1.max
 have ym2 : y.Queue.length * 32 ≤ 140737488355328 := yr2.max
 have ym3 : y.Links.length * 40 ≤ 140737488355328 := yr3.max
 refine in2 128 Tryz.func17 rfl rfl hΦ ?_
 have hnl : b.Name.data.toList.length ≤ 9223372036854775807 := hBw.1
 have hom : b.Owners.length * 16 ≤ 140737488355328 := r1.max
 have hlm : b.Links.length * 200 ≤ 140737488355328 := r4.max
 have htm : b.Towns.length * 64 ≤ 140737488355328 := r5.max
 have hgm_ : b.Gauges.length * 48 ≤ 140737488355328 := r6.max
 have hrm : b.Roads.length * 64 ≤ 140737488355328 := r7.max
 have hsm : b.Shelters.length * 24 ≤ 140737488355328 := r8.max
 have hom2 : b.Room.length * 8 ≤ 140737488355328 := r9.max
 refine gs2 ?_
 refine RW.bxA rfl rfl fun b1 => ?_
 refine RW.bxA rfl rfl fun b2 => ?_
 refine gs13 ?_
 obtain ⟨qb1, hqb1⟩ : ∃ qz : Bool, ((decide (y.Hour < 0)) || (decide ((16777216 : Int) < y.Hour))) = qz := ⟨_, rfl⟩
 refine RW.q (v := .bool qb1) rfl (q_as (v := .bool ((decide (y.Hour < 0)) || (decide ((16777216 : Int) < y.Hour)))) (qpO rfl rfl rfl) (congrArg Value.bool hqb1)) ?_
 refine gs8 ?_
 obtain ⟨qb2, hqb2⟩ : ∃ qz : Bool, (qb1 || (!decide ((y.Vol.length : Int) = (b.Places.length : Int)))) = qz := ⟨_, rfl⟩
 refine RW.q (v := .bool qb2) rfl (q_as (v := .bool (qb1 || (!decide ((y.Vol.length : Int) = (b.Places.length : Int))))) (qpO rfl rfl rfl) (congrArg Value.bool hqb2)) ?_
 refine gs8 ?_
 obtain ⟨qb3, hqb3⟩ : ∃ qz : Bool, (qb2 || (!decide ((y.Links.length : Int) = (b.Links.length : Int)))) = qz := ⟨_, rfl⟩
 refine RW.q (v := .bool qb3) rfl (q_as (v := .bool (qb2 || (!decide ((y.Links.length : Int) = (b.Links.length : Int))))) (qpO rfl rfl rfl) (congrArg Value.bool hqb3)) ?_
 subst hqb3 hqb2 hqb1
 refine gs2 ?_
 refine AW.cond rfl (fun hc1 => ?_) fun hc1 => ?_
 ·
  refine gs7 ?_
  exact fin_val (v' := .bool false) rfl rfl rfl (congrArg Value.bool (decide_eq_false (fun h9 => Bool.noConfusion ((h9.1).symm.trans hc1))).symm)
 ·
  refine gs3 ?_
  have hdb := hc1
  simp [-List.getD_eq_getElem?_getD, -Array.length_toList] at hdb
  refine gs1 ?_
  refine RW.q (v := .agg #[iV 0, iV 1125899906842624]) rfl (q_build (vals := [(0, iV 0), (1, iV 1125899906842624)]) zero51 uT51 places51 rfl rfl) ?_
  refine RW.alc rfl fun b3 => ?_
  refine gs13 ?_
  refine AW.lp (fun s J m => ∃ (k : Nat), s = [(2, pV b1 0), (3, pV b2 0), (5, pV b3 0), (40, yv1), (41, iV (y.Vol.length : Int)), (42, iV (k : Int))] ∧ J = St ⟨w, Φ, []⟩ Φ [.blk b3 51 [iV 0, iV 1125899906842624], .blk b2 41 [iV y.Hour, yv1, yv2, yv3], .blk b1 31 (cl31 b v1 v3 v4 v5 v6 v7 v8 v9)] ∧ m = y.Vol.length - k ∧ (k ≤ y.Vol.length) ∧ (∀ j, j < k → hvBad b y j = false)) ⟨0, rfl, rfl, rfl, (by omega), (fun j hj => absurd hj (by omega))⟩ ?_
  rintro _ _ _ _ ⟨k, rfl, rfl, rfl, hk, hall⟩
  refine gs6 ?_
  refine AW.cond rfl (fun hc2 => ?_) fun hc2 => ?_
  ·
   simp [-List.getD_eq_getElem?_getD, -Array.length_toList] at hc2
   refine gs7 ?_
   refine RW.q (v := .agg #[iV ((y.Vol.getD k default).Lo), iV ((y.Vol.getD k default).Hi)]) rfl (q_loadAgg rfl uT51 rfl sz51 rfl (Cells.repE yr1 (by omega) rfl)) ?_
   refine RW.alc rfl fun b4 => ?_
   refine gs6 ?_
   refine RW.c rfl (fun w1 hw1 => sRight_c w1 (Go.K.hp w1) (Hp.le_refl _)) rfl rfl ?_
   refine gs4 ?_
   refine RW.gc rfl rfl rfl (fun w1 hw1 => sWithin_c w1 (Go.K.hp w1) (Hp.le_refl _)) rfl (fun h => args2 (gv_pos h) (gv_pos h)) ?_
   refine gs1 ?_
   obtain ⟨qb4, hqb4⟩ : ∃ qz : Bool, ((!(decide ((y.Vol.getD k default).Lo ≤ (y.Vol.getD k default).Hi))) || (!(decide (0 ≤ (y.Vol.getD k default).Lo ∧ (y.Vol.getD k default).Hi ≤ 1125899906842624)))) = qz := ⟨_, rfl⟩
   refine RW.q (v := .bool qb4) rfl (q_as (v := .bool ((!(decide ((y.Vol.getD k default).Lo ≤ (y.Vol.getD k default).Hi))) || (!(decide (0 ≤ (y.Vol.getD k default).Lo ∧ (y.Vol.getD k default).Hi ≤ 1125899906842624))))) (qpO rfl rfl rfl) (congrArg Value.bool hqb4)) ?_
   subst hqb4
   refine gs2 ?_
   refine AW.cond rfl (fun hc3 => ?_) fun hc3 => ?_
   ·
    refine gs11 ?_
    exact fin_val (v' := .bool false) rfl rfl rfl (congrArg Value.bool (decide_eq_false (fun h9 => Bool.noConfusion ((h9.2.1 k (by omega)).symm.trans hc3))).symm)
   ·
    refine gs7 ?_
    exact Post.bk ⟨k + 1, rfl, rfl, rfl, (by omega), (Fu.lt_succ hall hc3)⟩
  ·
   simp [-List.getD_eq_getElem?_getD, -Array.length_toList] at hc2
   refine gs15 ?_
   have halA : ∀ j, j < y.Vol.length → hvBad b y j = false := fun j hj => hall j (by omega)
   refine AW.lp (fun s J m => ∃ (k : Nat), s = [(2, pV b1 0), (3, pV b2 0), (5, pV b3 0), (57, yv2), (58, iV (y.Queue.length : Int)), (59, iV (k : Int))] ∧ J = St ⟨w, Φ, []⟩ Φ [.blk b3 51 [iV 0, iV 1125899906842624], .blk b2 41 [iV y.Hour, yv1, yv2, yv3], .blk b1 31 (cl31 b v1 v3 v4 v5 v6 v7 v8 v9)] ∧ m = y.Queue.length - k ∧ (k ≤ y.Queue.length) ∧ (∀ j, j < k → hqBad b y j = false ∧ hqBa2 b y j = false)) ⟨0, rfl, rfl, rfl, (by omega), (fun j hj => absurd hj (by omega))⟩ ?_
   rintro _ _ _ _ ⟨k, rfl, rfl, rfl, hk, hal2⟩
   refine gs6 ?_
   refine AW.cond rfl (fun hc4 => ?_) fun hc4 => ?_
   ·
    simp [-List.getD_eq_getElem?_getD, -Array.length_toList] at hc4
    refine gs8 ?_
    refine RW.q (v := .agg (cl98 (y.Queue.getD k default)).toArray) rfl (q_loadAgg rfl uT98 rfl sz98 rfl (Cells.repE yr2 (by omega) rfl)) ?_
    refine RW.alc rfl fun b5 => ?_
    refine gs8 ?_
    refine RW.q (v := .agg #[iV ((y.Queue.getD k default).Vol.Lo), iV ((y.Queue.getD k default).Vol.Hi)]) rfl (q_loadAgg rfl uT51 rfl sz51 rfl (Cells.blkP (off := 2) 0 rfl (fun j u hu => (by rcases j with _ | (_ | _) <;> first | exact hu | cases hu)))) (RW.c rfl (fun w1 hw1 => sRight_c w1 (Go.K.hp w1) (Hp.le_refl _)) rfl rfl ?_)
    refine gs3 ?_
    refine RW.g (b := (!(decide ((y.Queue.getD k default).Vol.Lo ≤ (y.Queue.getD k default).Vol.Hi)))) (v := .agg #[iV ((y.Queue.getD k default).Vol.Lo), iV ((y.Queue.getD k default).Vol.Hi)]) rfl rfl rfl (fun h => q_loadAgg (gv_pos h) uT51 rfl sz51 rfl (Cells.blkP (off := 2) 0 rfl (fun j u hu => (by rcases j with _ | (_ | _) <;> first | exact hu | cases hu)))) ?_
    refine gs1 ?_
    refine RW.gc rfl rfl rfl (fun w1 hw1 => sWithin_c w1 (Go.K.hp w1) (Hp.le_refl _)) rfl (fun h => args2 (gv_pos h) (gv_pos h)) ?_
    refine gs1 ?_
    obtain ⟨qb5, hqb5⟩ : ∃ qz : Bool, ((!(decide ((y.Queue.getD k default).Vol.Lo ≤ (y.Queue.getD k default).Vol.Hi))) || (!(decide (0 ≤ (y.Queue.getD k default).Vol.Lo ∧ (y.Queue.getD k default).Vol.Hi ≤ 1125899906842624)))) = qz := ⟨_, rfl⟩
    refine RW.q (v := .bool qb5) rfl (q_as (v := .bool ((!(decide ((y.Queue.getD k default).Vol.Lo ≤ (y.Queue.getD k default).Vol.Hi))) || (!(decide (0 ≤ (y.Queue.getD k default).Vol.Lo ∧ (y.Queue.getD k default).Vol.Hi ≤ 1125899906842624))))) (qpO rfl rfl rfl) (congrArg Value.bool hqb5)) ?_
    refine gs5 ?_
    obtain ⟨qb6, hqb6⟩ : ∃ qz : Bool, (qb5 || (decide ((y.Queue.getD k default).Vol.Hi ≤ 0))) = qz := ⟨_, rfl⟩
    refine RW.q (v := .bool qb6) rfl (q_as (v := .bool (qb5 || (decide ((y.Queue.getD k default).Vol.Hi ≤ 0)))) (qpO rfl rfl rfl) (congrArg Value.bool hqb6)) ?_
    refine gs6 ?_
    obtain ⟨qb7, hqb7⟩ : ∃ qz : Bool, (qb6 || (decide ((y.Queue.getD k default).At < y.Hour))) = qz := ⟨_, rfl⟩
    refine RW.q (v := .bool qb7) rfl (q_as (v := .bool (qb6 || (decide ((y.Queue.getD k default).At < y.Hour)))) (qpO rfl rfl rfl) (congrArg Value.bool hqb7)) ?_
    refine gs6 ?_
    refine RW.gc rfl rfl rfl (fun w1 hw1 => huIdx_c w1 (Go.K.hp w1) (Hp.le_refl _)) rfl (fun h => args2 (gv_pos h) (gv_pos h)) ?_
    refine gs1 ?_
    obtain ⟨qb8, hqb8⟩ : ∃ qz : Bool, (qb7 || (!(decide (0 ≤ (y.Queue.getD k default).To ∧ (y.Queue.getD k default).To < (b.Places.length : Int))))) = qz := ⟨_, rfl⟩
    refine RW.q (v := .bool qb8) rfl (q_as (v := .bool (qb7 || (!(decide (0 ≤ (y.Queue.getD k default).To ∧ (y.Queue.getD k default).To < (b.Places.length : Int)))))) (qpO rfl rfl rfl) (congrArg Value.bool hqb8)) ?_
    subst hqb8 hqb7 hqb6 hqb5
    refine gs2 ?_
    refine AW.cond rfl (fun hc5 => ?_) fun hc5 => ?_
    ·
     refine gs12 ?_
     exact fin_val (v' := .bool false) rfl rfl rfl (congrArg Value.bool (decide_eq_false (fun h9 => Bool.noConfusion (((h9.2.2.1 k (by omega)).1).symm.trans hc5))).symm)
    ·
     refine gs3 ?_
     refine AW.draw (J0 := St ⟨w, Φ, []⟩ Φ [.blk b5 98 (cl98 (y.Queue.getD k default)), .blk b3 51 [iV 0, iV 1125899906842624], .blk b2 41 [iV y.Hour, yv1, yv2, yv3], .blk b1 31 (cl31 b v1 v3 v4 v5 v6 v7 v8 v9)]) [.q, .q, .q, .q, .q, .q, .q, .q, .q, .q, .q, .q, .q] [0, 1, 2, 3, 4, 5, 6, 7, 8, 9, 10, 11, 12] hmix (by kernel_rfl) ?_
     refine gs6 ?_
     refine DW.g (b := (decide ((0 : Int) < (k : Int)))) (v := iV ((k - 1 : Nat) : Int)) (fun _ h => h) rfl rfl rfl (fun h => q_as (v := iV ((k : Int) - 1)) (q_sub (gv_pos h) rfl (by (try simp [-List.getD_eq_getElem?_getD, -Array.length_toList] at h); omega) (by (try simp [-List.getD_eq_getElem?_getD, -Array.length_toList] at h); unfold I64; omega)) (congrArg (Value.int .i64) ((by simp at h; omega)))) ?_
     refine DW.g (b := (decide ((0 : Int) < (k : Int)))) (v := .pointer (some (Value.at yv2 ((k - 1) * 4)))) (fun _ h => h) rfl rfl rfl (fun h => q_indexAddr (gv_pos h) (gv_pos h) yr2.sl uT38 sz98 (by (try simp [-List.getD_eq_getElem?_getD, -Array.length_toList] at h); omega) (by (try simp [-List.getD_eq_getElem?_getD, -Array.length_toList] at h); omega) rfl) ?_
     refine DW.g (b := (decide ((0 : Int) < (k : Int)))) (v := .agg (cl98 (y.Queue.getD (k - 1) default)).toArray) (fun _ h => h) rfl rfl rfl (fun h => q_loadAgg (gv_pos h) uT98 rfl sz98 rfl (Cells.repE yr2 (by (try simp [-List.getD_eq_getElem?_getD, -Array.length_toList] at h); omega) rfl)) ?_
     refine gs1 ?_
     refine DW.g (b := (decide ((0 : Int) < (k : Int)))) (v := iV (Ft.orL [Fu.cmpI (y.Queue.getD (k - 1) default).At (y.Queue.getD k default).At, Fu.cmpI (y.Queue.getD (k - 1) default).To (y.Queue.getD k default).To])) (fun _ h => h) rfl rfl rfl (fun h => q_call (args := #[.agg (cl98 (y.Queue.getD (k - 1) default)).toArray, .agg (cl98 (y.Queue.getD k default)).toArray]) oK rfl (args2 (gv_pos h) (gv_pos h)) (fun w1 hw1 => order_c w1 (Go.K.hp w1) (Hp.le_refl _) (x := (y.Queue.getD (k - 1) default)) (y := (y.Queue.getD k default)))) ?_
     refine gs1 ?_
     obtain ⟨qb9, hqb9⟩ : ∃ qz : Bool, ((decide ((0 : Int) < (k : Int))) && (decide ((0 : Int) ≤ Ft.orL [Fu.cmpI (y.Queue.getD (k - 1) default).At (y.Queue.getD k default).At, Fu.cmpI (y.Queue.getD (k - 1) default).To (y.Queue.getD k default).To]))) = qz := ⟨_, rfl⟩
     refine DW.q (v := .bool qb9) (fun _ h => h) rfl (q_as (v := .bool ((decide ((0 : Int) < (k : Int))) && (decide ((0 : Int) ≤ Ft.orL [Fu.cmpI (y.Queue.getD (k - 1) default).At (y.Queue.getD k default).At, Fu.cmpI (y.Queue.getD (k - 1) default).To (y.Queue.getD k default).To])))) (qpA rfl rfl rfl) (congrArg Value.bool hqb9)) ?_
     subst hqb9
     refine gs2 ?_
     refine AW.cond rfl (fun hc6 => ?_) fun hc6 => ?_
     ·
      refine gs11 ?_
      exact fin_val (v' := .bool false) rfl rfl rfl (congrArg Value.bool (decide_eq_false (fun h9 => Bool.noConfusion (((h9.2.2.1 k (by omega)).2).symm.trans hc6))).symm)
     ·
      refine gs7 ?_
      exact Post.bk ⟨k + 1, rfl, rfl, rfl, (by omega), (Fu.lt_succ hal2 ⟨hc5, hc6⟩)⟩
   ·
    simp [-List.getD_eq_getElem?_getD, -Array.length_toList] at hc4
    refine gs15 ?_
    have halB : ∀ j, j < y.Queue.length → hqBad b y j = false ∧ hqBa2 b y j = false := fun j hj => hal2 j (by omega)
    refine AW.lp (fun s J m => ∃ (k : Nat), s = [(2, pV b1 0), (3, pV b2 0), (112, yv3), (113, iV (y.Links.length : Int)), (114, iV (k : Int))] ∧ J = St ⟨w, Φ, []⟩ Φ [.blk b3 51 [iV 0, iV 1125899906842624], .blk b2 41 [iV y.Hour, yv1, yv2, yv3], .blk b1 31 (cl31 b v1 v3 v4 v5 v6 v7 v8 v9)] ∧ m = y.Links.length - k ∧ (k ≤ y.Links.length) ∧ (∀ j, j < k → hlBad b y j = false)) ⟨0, rfl, rfl, rfl, (by omega), (fun j hj => absurd hj (by omega))⟩ ?_
    rintro _ _ _ _ ⟨k, rfl, rfl, rfl, hk, hal3⟩
    refine gs6 ?_
    refine AW.cond rfl (fun hc7 => ?_) fun hc7 => ?_
    ·
     simp [-List.getD_eq_getElem?_getD, -Array.length_toList] at hc7
     refine gs8 ?_
     refine RW.q (v := .agg (cl101 (y.Links.getD k default)).toArray) rfl (q_loadAgg rfl uT101 rfl sz101 rfl (Cells.repE yr3 (by omega) rfl)) ?_
     refine RW.alc rfl fun b6 => ?_
     refine gs5 ?_
     refine AW.draw (J0 := St ⟨w, Φ, []⟩ Φ [.blk b6 101 (cl101 (y.Links.getD k default)), .blk b3 51 [iV 0, iV 1125899906842624], .blk b2 41 [iV y.Hour, yv1, yv2, yv3], .blk b1 31 (cl31 b v1 v3 v4 v5 v6 v7 v8 v9)]) [.q, .q, .q, .q, .q, .q, .q, .q] [0, 1, 2, 3, 4, 5, 6, 7] hmix (by kernel_rfl) ?_
     refine gs4 ?_
     obtain ⟨cv1, hcr1, hcc1⟩ := RepSl.whole (k := k) r4 (by omega)
     obtain ⟨sv1, sv2, sv3, hcE1, hcw1, hsv1, hsv2, hsv3⟩ := (show Rep.rep _ _ _ from hcr1)
     subst hcE1
     refine DW.q (v := .agg (cl124 (b.Links.getD k default) sv1 sv2 sv3).toArray) (fun _ h => h) rfl (q_loadAgg rfl uT124 rfl sz124 rfl (Cells.phiK hcc1)) ?_
     refine gs1 ?_
     refine DW.c (fun _ h => h) rfl (fun w1 hw1 => rLink_c w1 (Go.K.hp w1) (Hp.le_refl _) (hcr1.mono hw1.phi) (x := (y.Links.getD k default))) rfl rfl ?_
     refine gs3 ?_
     refine AW.cond rfl (fun hc8 => ?_) fun hc8 => ?_
     ·
      refine gs11 ?_
      exact fin_val (v' := .bool false) rfl rfl rfl (congrArg Value.bool (decide_eq_false (fun h9 => Bool.noConfusion ((h9.2.2.2 k (by omega)).symm.trans hc8))).symm)
     ·
      refine gs7 ?_
      exact Post.bk ⟨k + 1, rfl, rfl, rfl, (by omega), (Fu.lt_succ hal3 hc8)⟩
    ·
     simp [-List.getD_eq_getElem?_getD, -Array.length_toList] at hc7
     refine gs11 ?_
     exact fin_val (v' := .bool true) rfl rfl rfl (congrArg Value.bool (decide_eq_true (show HRight b y from ⟨hc1, halA, halB, fun j hj => hal3 j (by omega)⟩)).symm)
end Go.Proofs.YtblfeidlnhdekaaGreat
