/- Lemmas. Conditions: those of each theorem. -/
import Derived.Test.YtblfeidlnhdekaaGreatSWalkN
set_option maxRecDepth 8000
set_option maxHeartbeats 16000000
namespace Fu
theorem vol_mem {c : List Bt.Point} {lo hi v : Int} (hR : RightC c) (h1 : -9223372036854775808 ≤ hi) (h2 : hi ≤ 9223372036854775807) (hv : 0 ≤ v) (hv2 : v ≤ 1125899906842624) : ((volL c lo hi).isSome = true ∧ loOf (volL c lo hi) ≤ v ∧ v ≤ hiOf (volL c lo hi)) ↔ lo ≤ atC c v ∧ atC c v ≤ hi := by
  rw [← vol_same lo hi h2 h1]
  have hat := at_rng hR v
  have f2 := first_iff hR (y := hi) hv hv2
  have f1 := first_iff hR (y := lo - 1) hv hv2
  by_cases h : lo ≤ hi
  · rw [volH_yes ⟨hR, h⟩ rfl rfl]
    by_cases h0 : 0 < lo
    · rw [if_pos h0]
      split
      · simp only [Option.isSome, loOf, hiOf, true_and]; omega
      · simp only [Option.isSome]; constructor
        · intro h9; exact absurd h9.1 (by simp)
        · intro h9; exfalso; omega
    · rw [if_neg h0]
      split
      · simp only [Option.isSome, loOf, hiOf, true_and]; omega
      · simp only [Option.isSome]; constructor
        · intro h9; exact absurd h9.1 (by simp)
        · intro h9; exfalso; omega
  · rw [volH_no (fun h9 => h h9.2)]
    simp only [Option.isSome]
    constructor
    · intro h9; exact absurd h9.1 (by simp)
    · intro h9; exfalso; omega
end Fu
namespace Go.Proofs.YtblfeidlnhdekaaGreat
open Go Go.K Go.RowKit
attribute [local irreducible] AW RW DW Post Qt
theorem sHas_c (w : World) (Φ : Hp) (hΦ : Hp.le Φ (hp w)) {aL aH x : Int} :
  Calls pg 41 #[.agg #[iV aL, iV aH], iV x] w fun e w' => e = .returned (.bool (decide (aL ≤ x) && decide (x ≤ aH))) ∧ Bel w.heap.size w w' := by
 refine in2 15 Tryz.func41 rfl rfl hΦ ?_
 refine gs2 ?_
 refine RW.bxA rfl rfl fun b1 => ?_
 refine gs14 ?_
 refine RW.pkA rfl rfl rfl rfl fun qb1 hqb1 => ?_
 refine gs1 ?_
 subst hqb1
 refine gs3 ?_
 exact fin_val (v' := .bool ((decide (aL ≤ x)) && (decide (x ≤ aH)))) rfl rfl rfl (rfl)
theorem sJoin_c (w : World) (Φ : Hp) (hΦ : Hp.le Φ (hp w)) {aL aH bL bH : Int} :
  Calls pg 92 #[.agg #[iV aL, iV aH], .agg #[iV bL, iV bH]] w fun e w' => e = .returned (.agg #[iV (min aL bL), iV (max aH bH)]) ∧ Bel w.heap.size w w' := by
 refine in2 16 Tryz.func92 rfl rfl hΦ ?_
 refine gs2 ?_
 refine RW.bxA rfl rfl fun b1 => ?_
 refine RW.bxA rfl rfl fun b2 => ?_
 refine RW.alc rfl fun b3 => ?_
 refine gs14 ?_
 refine RW.q (v := .agg #[iV (min aL bL), iV (max aH bH)]) rfl (q_build (vals := [(0, iV (min aL bL)), (1, iV (max aH bH))]) zero51 uT51 places51 rfl rfl) ?_
 refine gs4 ?_
 refine fin_cell1 (cs := [iV (min aL bL), iV (max aH bH)]) rfl rfl rfl uT51 rfl sz51 rfl (Cells.blk 0 rfl) (fun w' hw => ?_)
 refine ⟨?_, hw.below rfl⟩
 rfl
theorem sWithin_c (w : World) (Φ : Hp) (hΦ : Hp.le Φ (hp w)) {aL aH bL bH : Int} :
  Calls pg 62 #[.agg #[iV aL, iV aH], .agg #[iV bL, iV bH]] w fun e w' => e = .returned (.bool (decide (bL ≤ aL ∧ aH ≤ bH))) ∧ Bel w.heap.size w w' := by
 refine in2 10 Tryz.func62 rfl rfl hΦ ?_
 refine gs2 ?_
 refine RW.bxA rfl rfl fun b1 => ?_
 refine RW.bxA rfl rfl fun b2 => ?_
 refine gs4 ?_
 refine AW.draw (J0 := St ⟨w, Φ, []⟩ Φ [.blk b2 51 [iV bL, iV bH], .blk b1 51 [iV aL, iV aH]]) [.q, .q, .q, .q, .q, .q] [0, 1, 2, 3, 4, 5] hmix (by kernel_rfl) ?_
 refine gs2 ?_
 refine DW.c (fun _ h => h) rfl (fun w1 hw1 => sJoin_c w1 (Go.K.hp w1) (Hp.le_refl _)) rfl rfl ?_
 refine gs1 ?_
 refine DW.q (v := .bool (decide (min aL bL = bL) && decide (max aH bH = bH))) (fun _ h => h) rfl (q_eqlS rfl rfl (eqS51 _ _ _ _) eqG51) ?_
 refine gs4 ?_
 exact fin_val (v' := .bool (decide (min aL bL = bL) && decide (max aH bH = bH))) rfl rfl rfl (congrArg Value.bool (by rw [← Bool.decide_and]; exact decide_eq_decide.2 (by omega)))
theorem right_f {b : Bt.Basin} (h : rightB b = true) : RHead b ∧ RPlaces b ∧ RLinks b ∧ ROffices b ∧ RSlopes b ∧ RTowns b ∧ RGauges b ∧ RRoads b := by
 unfold rightB at h
 simp only [Bool.and_eq_true, decide_eq_true_eq] at h
 obtain ⟨⟨⟨⟨⟨⟨⟨⟨h1, _⟩, h2⟩, h3⟩, h4⟩, h5⟩, h6⟩, h7⟩, h8⟩ := h
 exact ⟨h1, h2, h3, h4, h5, h6, h7, h8⟩
theorem gauge_v {b : Bt.Basin} (hg : RGauges b) {k : Nat} (hk : k < b.Gauges.length) (h0 : (b.Gauges.getD k default).Kind = 0) : 0 ≤ (b.Gauges.getD k default).Target ∧ (b.Gauges.getD k default).Target < (b.Places.length : Int) := by
 have h := (hg k hk).2
 unfold tgBad at h
 rw [if_pos h0] at h
 simp [-List.getD_eq_getElem?_getD] at h
 exact h
end Go.Proofs.YtblfeidlnhdekaaGreat
namespace Ft
def totTo (xs : List Int) : Nat → Int
  | 0 => 0
  | n + 1 => Fu.addS (totTo xs n) (xs.getD n 0)
def tot (xs : List Int) : Int := totTo xs xs.length
theorem totTo_rng (xs : List Int) : ∀ n, -9223372036854775808 ≤ totTo xs n ∧ totTo xs n ≤ 9223372036854775807
  | 0 => by unfold totTo; omega
  | n + 1 => by unfold totTo; exact Fu.addS_rng _ _
def PoolOk (xs : List Int) : Prop := ∀ k, k < xs.length → 0 ≤ xs.getD k 0 ∧ xs.getD k 0 ≤ 1125899906842624 - Ba.sumTo xs k
instance (xs : List Int) : Decidable (PoolOk xs) := inferInstanceAs (Decidable (∀ k, k < xs.length → _))
theorem pool_sum {xs : List Int} (h : ∀ k, k < xs.length → 0 ≤ xs.getD k 0 ∧ xs.getD k 0 ≤ 1125899906842624 - Ba.sumTo xs k) : ∀ k, k ≤ xs.length → (0 ≤ Ba.sumTo xs k ∧ Ba.sumTo xs k ≤ 1125899906842624) ∧ totTo xs k = Ba.sumTo xs k
  | 0, _ => by unfold Ba.sumTo totTo; omega
  | k + 1, hk => by
    have ih := pool_sum h k (by omega)
    have hx := h k (by omega)
    unfold Ba.sumTo totTo
    rw [ih.2]
    refine ⟨by omega, ?_⟩
    unfold Fu.addS
    rw [if_neg (by omega), if_neg (by omega)]
theorem pool_tot {xs : List Int} (h : PoolOk xs) : 0 ≤ tot xs ∧ tot xs ≤ 1125899906842624 := by
  have := pool_sum h xs.length (Nat.le_refl _)
  unfold tot
  omega
def litTo (xss : List (List Int)) : Nat → Int
  | 0 => 0
  | n + 1 => litTo xss n + tot (xss.getD n [])
def quTo (q : List Bt.Load) : Nat → Int
  | 0 => 0
  | n + 1 => quTo q n + tot (q.getD n default).Part
def SumOk (xs : List Int) (m : Int) : Prop := ∀ k, k < xs.length → 0 ≤ xs.getD k 0 ∧ xs.getD k 0 ≤ m - Ba.sumTo xs k
instance (xs : List Int) (m : Int) : Decidable (SumOk xs m) := inferInstanceAs (Decidable (∀ k, k < xs.length → _))
def orL : List Int → Int
  | [] => 0
  | x :: l => if x = 0 then orL l else x
theorem orL_miss : ∀ {xs : List Int}, (∀ j, j < xs.length → xs.getD j 0 = 0) → orL xs = 0
  | [], _ => rfl
  | x :: l, h => by
    have h0 : x = 0 := by have := h 0 (by simp); simpa using this
    unfold orL
    rw [if_pos h0]
    exact orL_miss fun j hj => by have := h (j + 1) (by simpa using hj); simpa using this
theorem orL_hit : ∀ {xs : List Int} {k : Nat}, k < xs.length → (∀ j, j < k → xs.getD j 0 = 0) → xs.getD k 0 ≠ 0 → orL xs = xs.getD k 0
  | [], _, h, _, _ => by simp at h
  | x :: l, 0, _, _, h => by unfold orL; rw [if_neg (by simpa using h)]; simp
  | x :: l, k + 1, hk, hz, h => by
    have h0 : x = 0 := by have := hz 0 (by omega); simpa using this
    unfold orL
    rw [if_pos h0, orL_hit (k := k) (by simpa using hk) (fun j hj => by have := hz (j + 1) (by omega); simpa using this) (by simpa using h)]
    simp
def sumM (q : List Bt.Load) : Nat → (Int × Int → Option Int)
  | 0 => fun _ => none
  | n + 1 => fun j => if j = ((q.getD n default).At, (q.getD n default).To) then some (Fu.addS (((sumM q n) ((q.getD n default).At, (q.getD n default).To)).getD 0) (tot (q.getD n default).Part)) else sumM q n j
def lisM (q : List Bt.Sum) : Nat → (Int × Int → Option Bool)
  | 0 => fun _ => none
  | n + 1 => fun j => if j = ((q.getD n default).At, (q.getD n default).To) then some true else lisM q n j
def HasQ (hq : List Bt.Sum) (sq : List Bt.Load) : Prop := (∀ i, i < hq.length → (hq.getD i default).Vol.Lo ≤ ((sumM sq sq.length) ((hq.getD i default).At, (hq.getD i default).To)).getD 0 ∧ ((sumM sq sq.length) ((hq.getD i default).At, (hq.getD i default).To)).getD 0 ≤ (hq.getD i default).Vol.Hi) ∧ ∀ k n, sumM sq sq.length k = some n → (lisM hq hq.length k).getD false = true ∨ n = 0
open Classical in
noncomputable instance (hq : List Bt.Sum) (sq : List Bt.Load) : Decidable (HasQ hq sq) := Classical.propDecidable _
theorem sumM_rng (q : List Bt.Load) : ∀ n k x, sumM q n k = some x → -9223372036854775808 ≤ x ∧ x ≤ 9223372036854775807
  | 0, _, _, h => by cases h
  | n + 1, k, x, h => by
    have h2 : (if k = ((q.getD n default).At, (q.getD n default).To) then some (Fu.addS (((sumM q n) ((q.getD n default).At, (q.getD n default).To)).getD 0) (tot (q.getD n default).Part)) else sumM q n k) = some x := h
    clear h
    split at h2
    · have h := h2
      have := Fu.addS_rng (((sumM q n) ((q.getD n default).At, (q.getD n default).To)).getD 0) (tot (q.getD n default).Part)
      simp only [Option.some.injEq] at h
      omega
    · exact sumM_rng q n k x h2
end Ft
namespace Go.Proofs.YtblfeidlnhdekaaGreat
open Go Go.K Go.RowKit
attribute [local irreducible] AW RW DW Post Qt
theorem sz33 : (pg.info? 33).map (·.size) = some 1 := by kernel_rfl
theorem getI {xs : List Int} {v : Value} {Φ : Hp} (h : RepSl Φ xs v) {k : Nat} (hk : k < xs.length) : I64 (xs.getD k 0) := h.i64 _ (Fu.getD_memI hk)
theorem Total_c (w : World) (Φ : Hp) (hΦ : Hp.le Φ (hp w)) {xs : List Int} {v1 : Value} (h1 : RepSl Φ xs v1) :
  Calls pg 19 #[v1] w fun e w' => e = .returned (iV (Ft.tot xs)) ∧ Bel w.heap.size w w' := by
 refine in1 17 Tryz.func19 rfl rfl hΦ ?_
 have hm1 : xs.length * 8 ≤ 140737488355328 := h1.max
 refine gs19 ?_
 refine AW.lp (fun s J m => ∃ (k : Nat), ∃ (u : Int), s = [(6, v1), (7, iV (xs.length : Int)), (3, iV u), (8, iV (k : Int))] ∧ J = St ⟨w, Φ, []⟩ Φ [] ∧ m = xs.length - k ∧ (k ≤ xs.length) ∧ (u = Ft.totTo xs k)) ⟨0, 0, rfl, rfl, rfl, (by omega), rfl⟩ ?_
 rintro _ _ _ _ ⟨k, u, rfl, rfl, rfl, hk, hu⟩
 refine gs6 ?_
 refine AW.cond rfl (fun hc1 => ?_) fun hc1 => ?_
 ·
  simp [-List.getD_eq_getElem?_getD] at hc1
  refine gs7 ?_
  refine RW.q (v := iV (xs.getD k 0)) rfl (q_load rfl uT3 rfl (Cell.repInt h1 (by omega))) ?_
  refine gs3 ?_
  have hxk := getI h1 (show k < xs.length by omega)
  have huI : I64 u := by rw [hu]; exact Ft.totTo_rng xs k
  refine gs3 ?_
  refine RW.c rfl (fun w1 hw1 => Add_c w1 (Go.K.hp w1) (Hp.le_refl _) huI hxk) rfl rfl ?_
  refine gs8 ?_
  exact Post.back (s' := _) (J' := _) (m' := _) (by omega) ⟨k + 1, _, rfl, rfl, rfl, (by omega), (by rw [hu]; rfl)⟩ ⟨rfl, rfl, rfl, rfl, trivial⟩ (fun _ h => h)
 ·
  simp [-List.getD_eq_getElem?_getD] at hc1
  refine gs12 ?_
  exact fin_val (v' := iV u) rfl rfl rfl (by rw [hu, show k = xs.length by omega]; rfl)
theorem pright_c (w : World) (Φ : Hp) (hΦ : Hp.le Φ (hp w)) {xs : List Int} {v1 : Value} (h1 : RepSl Φ xs v1) :
  Calls pg 111 #[v1] w fun e w' => e = .returned (.bool (decide (Ft.PoolOk xs))) ∧ Bel w.heap.size w w' := by
 refine in1 24 Tryz.func111 rfl rfl hΦ ?_
 have hm1 : xs.length * 8 ≤ 140737488355328 := h1.max
 refine gs19 ?_
 refine AW.lp (fun s J m => ∃ (k : Nat), ∃ (u : Int), s = [(6, v1), (7, iV (xs.length : Int)), (3, iV u), (8, iV (k : Int))] ∧ J = St ⟨w, Φ, []⟩ Φ [] ∧ m = xs.length - k ∧ (k ≤ xs.length) ∧ (u = Ba.sumTo xs k) ∧ (0 ≤ u ∧ u ≤ 1125899906842624) ∧ (∀ j, j < k → 0 ≤ xs.getD j 0 ∧ xs.getD j 0 ≤ 1125899906842624 - Ba.sumTo xs j)) ⟨0, 0, rfl, rfl, rfl, (by omega), rfl, (by omega), (fun j hj => absurd hj (by omega))⟩ ?_
 rintro _ _ _ _ ⟨k, u, rfl, rfl, rfl, hk, hu, hub, hall⟩
 refine gs6 ?_
 refine AW.cond rfl (fun hc1 => ?_) fun hc1 => ?_
 ·
  simp [-List.getD_eq_getElem?_getD] at hc1
  refine gs5 ?_
  have hxk := getI h1 (show k < xs.length by omega)
  unfold I64 at hxk
  refine gs2 ?_
  refine RW.q (v := iV (xs.getD k 0)) rfl (q_load rfl uT3 rfl (Cell.repInt h1 (by omega))) ?_
  refine gs11 ?_
  refine RW.g (b := (decide (xs.getD k 0 < 0))) (v := iV (1125899906842624 - u)) rfl rfl rfl (fun h => q_sub rfl (gv_pos h) (by (try simp [-List.getD_eq_getElem?_getD] at h); omega) (by (try simp [-List.getD_eq_getElem?_getD] at h); unfold I64; omega)) ?_
  refine gs1 ?_
  obtain ⟨qb1, hqb1⟩ : ∃ qz : Bool, ((decide (xs.getD k 0 < 0)) || (decide (1125899906842624 - u < xs.getD k 0))) = qz := ⟨_, rfl⟩
  refine RW.q (v := .bool qb1) rfl (q_as (v := .bool ((decide (xs.getD k 0 < 0)) || (decide (1125899906842624 - u < xs.getD k 0)))) (qpO rfl rfl rfl) (congrArg Value.bool hqb1)) ?_
  subst hqb1
  refine gs2 ?_
  refine AW.cond rfl (fun hc2 => ?_) fun hc2 => ?_
  ·
   simp [-List.getD_eq_getElem?_getD] at hc2
   refine gs12 ?_
   exact fin_val (v' := .bool false) rfl rfl rfl (congrArg Value.bool (decide_eq_false (fun h9 => by have h8 := h9 k (by omega); rw [← hu] at h8; omega)).symm)
  ·
   simp [-List.getD_eq_getElem?_getD] at hc2
   refine gs14 ?_
   exact Post.back (s' := _) (J' := _) (m' := _) (by omega) ⟨k + 1, _, rfl, rfl, rfl, (by omega), (by rw [hu]; rfl), (by omega), (Fu.lt_succ hall (by rw [← hu]; omega))⟩ ⟨rfl, rfl, rfl, rfl, trivial⟩ (fun _ h => h)
 ·
  simp [-List.getD_eq_getElem?_getD] at hc1
  refine gs11 ?_
  exact fin_val (v' := .bool true) rfl rfl rfl (congrArg Value.bool (decide_eq_true (show Ft.PoolOk xs from fun j hj => hall j (by omega))).symm)
def poolB (xs : List Int) (n : Int) : Bool := (((decide ((0 : Int) ≤ n)) && (decide (n ≤ 16))) && (decide ((xs.length : Int) = n))) && (decide (Ft.PoolOk xs))
theorem pool_f {xs : List Int} {n : Int} (h : poolB xs n = true) : Ft.PoolOk xs := by
 unfold poolB at h
 simp only [Bool.and_eq_true, decide_eq_true_eq] at h
 exact h.2
theorem pRight_c (w : World) (Φ : Hp) (hΦ : Hp.le Φ (hp w)) {xs : List Int} {v1 : Value} (h1 : RepSl Φ xs v1) {n : Int} :
  Calls pg 90 #[v1, iV n] w fun e w' => e = .returned (.bool (poolB xs n)) ∧ Bel w.heap.size w w' := by
 refine in2 21 Tryz.func90 rfl rfl hΦ ?_
 have hm1 : xs.length * 8 ≤ 140737488355328 := h1.max
 refine gs12 ?_
 obtain ⟨qb1, hqb1⟩ : ∃ qz : Bool, ((decide ((0 : Int) ≤ n)) && (decide (n ≤ 16))) = qz := ⟨_, rfl⟩
 refine RW.q (v := .bool qb1) rfl (q_as (v := .bool ((decide ((0 : Int) ≤ n)) && (decide (n ≤ 16)))) (qpA rfl rfl rfl) (congrArg Value.bool hqb1)) ?_
 refine gs5 ?_
 obtain ⟨qb2, hqb2⟩ : ∃ qz : Bool, (qb1 && (decide ((xs.length : Int) = n))) = qz := ⟨_, rfl⟩
 refine RW.q (v := .bool qb2) rfl (q_as (v := .bool (qb1 && (decide ((xs.length : Int) = n)))) (qpA rfl rfl rfl) (congrArg Value.bool hqb2)) ?_
 refine gs2 ?_
 refine RW.gc rfl rfl rfl (fun w1 hw1 => pright_c w1 (Go.K.hp w1) (Hp.le_refl _) (h1.mono hw1.phi)) rfl (fun h => args1 (gv_pos h)) (RW.q (v := .bool (qb2 && (decide (Ft.PoolOk xs)))) rfl (qpA rfl rfl rfl) ?_)
 refine gs1 ?_
 subst hqb2 hqb1
 refine gs3 ?_
 exact fin_val (v' := .bool ((((decide ((0 : Int) ≤ n)) && (decide (n ≤ 16))) && (decide ((xs.length : Int) = n))) && (decide (Ft.PoolOk xs)))) rfl rfl rfl (rfl)
theorem sumUpTo_c (w : World) (Φ : Hp) (hΦ : Hp.le Φ (hp w)) {xs : List Int} {v1 : Value} (h1 : RepSl Φ xs v1) {mm : Int} (hmm : -4611686018427387904 ≤ mm ∧ mm ≤ 4611686018427387904) :
  Calls pg 61 #[v1, iV mm] w fun e w' => e = .returned (.tuple #[iV (if Ft.SumOk xs mm then Ba.sumTo xs xs.length else 0), .bool (decide (Ft.SumOk xs mm))]) ∧ Bel w.heap.size w w' := by
 refine in2 29 Tryz.func61 rfl rfl hΦ ?_
 have hm1 : xs.length * 8 ≤ 140737488355328 := h1.max
 refine gs20 ?_
 refine AW.lp (fun s J m => ∃ (k : Nat), ∃ (u : Int), s = [(0, v1), (1, iV mm), (9, v1), (10, iV (xs.length : Int)), (6, iV u), (11, iV (k : Int))] ∧ J = St ⟨w, Φ, []⟩ Φ [] ∧ m = xs.length - k ∧ (k ≤ xs.length) ∧ (u = Ba.sumTo xs k) ∧ (0 ≤ u ∧ (u = 0 ∨ u ≤ mm)) ∧ (∀ j, j < k → 0 ≤ xs.getD j 0 ∧ xs.getD j 0 ≤ mm - Ba.sumTo xs j)) ⟨0, 0, rfl, rfl, rfl, (by omega), rfl, (by omega), (fun j hj => absurd hj (by omega))⟩ ?_
 rintro _ _ _ _ ⟨k, u, rfl, rfl, rfl, hk, hu, hub, hall⟩
 refine gs6 ?_
 refine AW.cond rfl (fun hc1 => ?_) fun hc1 => ?_
 ·
  simp [-List.getD_eq_getElem?_getD] at hc1
  refine gs5 ?_
  have hxk := getI h1 (show k < xs.length by omega)
  unfold I64 at hxk
  refine gs2 ?_
  refine RW.q (v := iV (xs.getD k 0)) rfl (q_load rfl uT3 rfl (Cell.repInt h1 (by omega))) ?_
  refine gs12 ?_
  refine RW.g (b := (decide (xs.getD k 0 < 0))) (v := iV (mm - u)) rfl rfl rfl (fun h => q_sub (gv_pos h) (gv_pos h) (by (try simp [-List.getD_eq_getElem?_getD] at h); omega) (by (try simp [-List.getD_eq_getElem?_getD] at h); unfold I64; omega)) ?_
  refine gs1 ?_
  obtain ⟨qb1, hqb1⟩ : ∃ qz : Bool, ((decide (xs.getD k 0 < 0)) || (decide (mm - u < xs.getD k 0))) = qz := ⟨_, rfl⟩
  refine RW.q (v := .bool qb1) rfl (q_as (v := .bool ((decide (xs.getD k 0 < 0)) || (decide (mm - u < xs.getD k 0)))) (qpO rfl rfl rfl) (congrArg Value.bool hqb1)) ?_
  subst hqb1
  refine gs2 ?_
  refine AW.cond rfl (fun hc2 => ?_) fun hc2 => ?_
  ·
   simp [-List.getD_eq_getElem?_getD] at hc2
   refine gs13 ?_
   refine fin_out2 (v := iV 0) (u := .bool false) rfl rfl rfl rfl (fun w' hw => ?_)
   refine ⟨?_, hw.below rfl⟩
   have hn : ¬ Ft.SumOk xs mm := fun h9 => by have h8 := h9 k (by omega); rw [← hu] at h8; omega
   rw [if_neg hn, decide_eq_false hn]
  ·
   simp [-List.getD_eq_getElem?_getD] at hc2
   refine gs14 ?_
   exact Post.back (s' := _) (J' := _) (m' := _) (by omega) ⟨k + 1, _, rfl, rfl, rfl, (by omega), (by rw [hu]; rfl), (by omega), (Fu.lt_succ hall (by rw [← hu]; omega))⟩ ⟨rfl, rfl, rfl, rfl, rfl, rfl, trivial⟩ (fun _ h => h)
 ·
  simp [-List.getD_eq_getElem?_getD] at hc1
  refine gs13 ?_
  refine fin_out2 (v := iV u) (u := .bool true) rfl rfl rfl rfl (fun w' hw => ?_)
  refine ⟨?_, hw.below rfl⟩
  have hn : Ft.SumOk xs mm := fun j hj => hall j (by omega)
  rw [if_pos hn, decide_eq_true hn, hu, show k = xs.length by omega]
theorem stIdx_c (w : World) (Φ : Hp) (hΦ : Hp.le Φ (hp w)) {n len : Int} :
  Calls pg 91 #[iV n, iV len] w fun e w' => e = .returned (.bool (decide (0 ≤ n ∧ n < len))) ∧ Bel w.heap.size w w' := by
 refine in2 12 Tryz.func91 rfl rfl hΦ ?_
 refine gs13 ?_
 obtain ⟨qb1, hqb1⟩ : ∃ qz : Bool, ((decide ((0 : Int) ≤ n)) && (decide (n < len))) = qz := ⟨_, rfl⟩
 refine RW.q (v := .bool qb1) rfl (q_as (v := .bool ((decide ((0 : Int) ≤ n)) && (decide (n < len)))) (qpA rfl rfl rfl) (congrArg Value.bool hqb1)) ?_
 refine gs1 ?_
 subst hqb1
 refine gs3 ?_
 exact fin_val (v' := .bool ((decide ((0 : Int) ≤ n)) && (decide (n < len)))) rfl rfl rfl (congrArg Value.bool (Bool.decide_and _ _).symm)
theorem huIdx_c (w : World) (Φ : Hp) (hΦ : Hp.le Φ (hp w)) {n len : Int} :
  Calls pg 63 #[iV n, iV len] w fun e w' => e = .returned (.bool (decide (0 ≤ n ∧ n < len))) ∧ Bel w.heap.size w w' := by
 refine in2 12 Tryz.func63 rfl rfl hΦ ?_
 refine gs13 ?_
 obtain ⟨qb1, hqb1⟩ : ∃ qz : Bool, ((decide ((0 : Int) ≤ n)) && (decide (n < len))) = qz := ⟨_, rfl⟩
 refine RW.q (v := .bool qb1) rfl (q_as (v := .bool ((decide ((0 : Int) ≤ n)) && (decide (n < len)))) (qpA rfl rfl rfl) (congrArg Value.bool hqb1)) ?_
 refine gs1 ?_
 subst hqb1
 refine gs3 ?_
 exact fin_val (v' := .bool ((decide ((0 : Int) ≤ n)) && (decide (n < len)))) rfl rfl rfl (congrArg Value.bool (Bool.decide_and _ _).symm)
def quBad (b : Bt.Basin) (z : Bt.State) (k : Nat) : Bool := (((decide ((z.Queue.getD k default).At < z.Hour)) || (!(decide (0 ≤ (z.Queue.getD k default).To ∧ (z.Queue.getD k default).To < (b.Places.length : Int))))) || (!(poolB ((z.Queue.getD k default).Part) (b.Owners.length : Int))))
theorem qu_f {b : Bt.Basin} {z : Bt.State} {k : Nat} (h : quBad b z k = false) : Ft.PoolOk (z.Queue.getD k default).Part := by
 unfold quBad at h
 simp only [Bool.or_eq_false_iff, Bool.not_eq_false'] at h
 exact pool_f h.2
def LitOk (b : Bt.Basin) (z : Bt.State) : Prop := (∀ j, j < z.Own.length → poolB (z.Own.getD j []) (b.Owners.length : Int) = true ∧ Ft.litTo z.Own (j + 1) ≤ 1125899906842624) ∧ ∀ j, j < z.Queue.length → quBad b z j = false ∧ 0 < Ft.tot (z.Queue.getD j default).Part ∧ Ft.litTo z.Own z.Own.length + Ft.quTo z.Queue (j + 1) ≤ 1125899906842624
instance (b : Bt.Basin) (z : Bt.State) : Decidable (LitOk b z) := inferInstanceAs (Decidable ((∀ j, j < z.Own.length → poolB (z.Own.getD j []) (b.Owners.length : Int) = true ∧ Ft.litTo z.Own (j + 1) ≤ 1125899906842624) ∧ ∀ j, j < z.Queue.length → quBad b z j = false ∧ 0 < Ft.tot (z.Queue.getD j default).Part ∧ Ft.litTo z.Own z.Own.length + Ft.quTo z.Queue (j + 1) ≤ 1125899906842624))
theorem litres_c (w : World) (Φ : Hp) (hΦ : Hp.le Φ (hp w)) {b : Bt.Basin} {cs : List Value} (hB : RepV Φ b cs) {z : Bt.State} {zcs : List Value} (tH : RepV Φ z zcs) :
  Calls pg 60 #[.agg cs.toArray, .agg zcs.toArray] w fun e w' => e = .returned (.tuple #[iV (if LitOk b z then Ft.litTo z.Own z.Own.length + Ft.quTo z.Queue z.Queue.length else 0), .bool (decide (LitOk b z))]) ∧ Bel w.heap.size w w' := by
 obtain ⟨v1, v3, v4, v5, v6, v7, v8, v9, hcs, hBw, r1, r3, r4, r5, r6, r7, r8, r9⟩ := (show Rep.rep Φ b cs from hB)
 subst hcs
 have hpm : b.Places.length * 152 ≤ 140737488355328 := r3.max
 obtain ⟨tv1, tv2, tv3, tv4, tv5, tv6, hzcs, hzw, tr1, tr2, tr3, tr4, tr5, tr6⟩ := (show Rep.rep Φ z zcs from tH)
 subst hzcs
 have ztm : z.Own.length * 24 ≤ 140737488355328 := tr1.max
 have zqm : z.Queue.length * 40 ≤ 140737488355328 := tr3.max
 have zgm : z.Gates.length * 24 ≤ 140737488355328 := tr4.max
 refine in2 76 Tryz.func60 rfl rfl hΦ ?_
 have hnl : b.Name.data.toList.length ≤ 9223372036854775807 := hBw.1
 have hom : b.Owners.length * 16 ≤ 140737488355328 := r1.max
 have hlm : b.Links.length * 200 ≤ 140737488355328 := r4.max
 have htm : b.Towns.length * 64 ≤ 140737488355328 := r5.max
 have hgm_ : b.Gauges.length * 48 ≤ 140737488355328 := r6.max
 have hrm : b.Roads.length * 64 ≤ 140737488355328 := r7.max
 have hsm : b.Shelters.length * 24 ≤ 140737488355328 := r8.max
 have hom2 : b.Room.length * 8 ≤ 140737488355328 := r9.max
 refine gs2 ?_
 refine RW.bxA rfl rfl fun b1 => ?_
 refine RW.bxA rfl rfl fun b2 => ?_
 refine gs19 ?_
 refine AW.lp (fun s J m => ∃ (k : Nat), ∃ (u : Int), s = [(2, pV b1 0), (3, pV b2 0), (13, tv1), (14, iV (z.Own.length : Int)), (6, iV u), (15, iV (k : Int))] ∧ J = St ⟨w, Φ, []⟩ Φ [.blk b2 36 (cl36 z tv1 tv2 tv3 tv4 tv5 tv6), .blk b1 31 (cl31 b v1 v3 v4 v5 v6 v7 v8 v9)] ∧ m = z.Own.length - k ∧ (k ≤ z.Own.length) ∧ (u = Ft.litTo z.Own k) ∧ (0 ≤ u ∧ u ≤ 1125899906842624) ∧ (∀ j, j < k → poolB (z.Own.getD j []) (b.Owners.length : Int) = true ∧ Ft.litTo z.Own (j + 1) ≤ 1125899906842624)) ⟨0, 0, rfl, rfl, rfl, (by omega), rfl, (by omega), (fun j hj => absurd hj (by omega))⟩ ?_
 rintro _ _ _ _ ⟨k, u, rfl, rfl, rfl, hk, hu, hub, hall⟩
 refine gs6 ?_
 refine AW.cond rfl (fun hc1 => ?_) fun hc1 => ?_
 ·
  simp [-List.getD_eq_getElem?_getD, -Array.length_toList] at hc1
  refine gs7 ?_
  obtain ⟨sv1, hsv1, hpc1⟩ := tr1.sub (k := k) (by omega)
  refine RW.q (v := sv1) rfl (q_load rfl uT29 rfl (Cell.phi hpc1)) ?_
  refine gs10 ?_
  refine RW.c rfl (fun w1 hw1 => pRight_c w1 (Go.K.hp w1) (Hp.le_refl _) (hsv1.mono hw1.phi) (n := (b.Owners.length : Int))) rfl rfl ?_
  refine gs3 ?_
  refine AW.cond rfl (fun hc2 => ?_) fun hc2 => ?_
  ·
   refine gs13 ?_
   refine fin_out2 (v := iV 0) (u := .bool false) rfl rfl rfl rfl (fun w' hw => ?_)
   refine ⟨?_, hw.below rfl⟩
   have hn : ¬ LitOk b z := fun h9 => by have h8 := (h9.1 k (by omega)).1; rw [h8] at hc2; cases hc2
   rw [if_neg hn, decide_eq_false hn]
  ·
   refine gs3 ?_
   have hpt := Ft.pool_tot (pool_f (show poolB (z.Own.getD k []) (b.Owners.length : Int) = true by simpa using hc2))
   have hl1 : Ft.litTo z.Own (k + 1) = u + Ft.tot (z.Own.getD k []) := by rw [hu]; rfl
   refine gs3 ?_
   refine RW.c rfl (fun w1 hw1 => Total_c w1 (Go.K.hp w1) (Hp.le_refl _) (hsv1.mono hw1.phi)) rfl rfl ?_
   refine gs10 ?_
   refine AW.cond rfl (fun hc3 => ?_) fun hc3 => ?_
   ·
    simp [-List.getD_eq_getElem?_getD, -Array.length_toList] at hc3
    refine gs12 ?_
    refine fin_out2 (v := iV 0) (u := .bool false) rfl rfl rfl rfl (fun w' hw => ?_)
    refine ⟨?_, hw.below rfl⟩
    have hn : ¬ LitOk b z := fun h9 => by have h8 := (h9.1 k (by omega)).2; omega
    rw [if_neg hn, decide_eq_false hn]
   ·
    simp [-List.getD_eq_getElem?_getD, -Array.length_toList] at hc3
    refine gs7 ?_
    exact Post.bk ⟨k + 1, _, rfl, rfl, rfl, (by omega), hl1.symm, (by omega), (Fu.lt_succ hall ⟨by simpa using hc2, by omega⟩)⟩
 ·
  simp [-List.getD_eq_getElem?_getD, -Array.length_toList] at hc1
  refine gs8 ?_
  refine RW.q (v := pV b2 3) rfl (q_fieldAddr rfl uT36 rfl sz33 rfl) ?_
  refine gs6 ?_
  have hke : k = z.Own.length := by omega
  have halE : ∀ j, j < z.Own.length → poolB (z.Own.getD j []) (b.Owners.length : Int) = true ∧ Ft.litTo z.Own (j + 1) ≤ 1125899906842624 := fun j hj => hall j (by omega)
  refine AW.lp (fun s J m => ∃ (k : Nat), ∃ (v : Int), s = [(2, pV b1 0), (3, pV b2 0), (33, tv3), (34, iV (z.Queue.length : Int)), (6, iV v), (35, iV (k : Int))] ∧ J = St ⟨w, Φ, []⟩ Φ [.blk b2 36 (cl36 z tv1 tv2 tv3 tv4 tv5 tv6), .blk b1 31 (cl31 b v1 v3 v4 v5 v6 v7 v8 v9)] ∧ m = z.Queue.length - k ∧ (k ≤ z.Queue.length) ∧ (v = Ft.litTo z.Own z.Own.length + Ft.quTo z.Queue k) ∧ (0 ≤ v ∧ v ≤ 1125899906842624) ∧ (∀ j, j < k → quBad b z j = false ∧ 0 < Ft.tot (z.Queue.getD j default).Part ∧ Ft.litTo z.Own z.Own.length + Ft.quTo z.Queue (j + 1) ≤ 1125899906842624)) ⟨0, u, rfl, rfl, rfl, (by omega), (by rw [hu, show k = z.Own.length by omega]; show _ = _ + (0 : Int); omega), (by omega), (fun j hj => absurd hj (by omega))⟩ ?_
  rintro _ _ _ _ ⟨k, v, rfl, rfl, rfl, hk, hv, hvb, hal2⟩
  refine gs6 ?_
  refine AW.cond rfl (fun hc4 => ?_) fun hc4 => ?_
  ·
   simp [-List.getD_eq_getElem?_getD, -Array.length_toList] at hc4
   refine gs7 ?_
   obtain ⟨cv1, hcr1, hcc1⟩ := RepSl.whole (k := k) tr3 (by omega)
   obtain ⟨sv2, hcE1, hcw1, hsv2⟩ := (show Rep.rep _ _ _ from hcr1)
   subst hcE1
   refine RW.q (v := .agg #[iV ((z.Queue.getD k default).At), iV ((z.Queue.getD k default).To), sv2]) rfl (q_loadAgg rfl uT144 rfl sz144 rfl (Cells.phiK hcc1)) ?_
   refine RW.alc rfl fun b3 => ?_
   refine RW.effn (J' := St ⟨w, Φ, []⟩ Φ [.blk b3 144 [iV ((z.Queue.getD k default).At), iV ((z.Queue.getD k default).To), sv2], .blk b2 36 (cl36 z tv1 tv2 tv3 tv4 tv5 tv6), .blk b1 31 (cl31 b v1 v3 v4 v5 v6 v7 v8 v9)]) (e_store (v := .agg #[iV ((z.Queue.getD k default).At), iV ((z.Queue.getD k default).To), sv2]) 0 rfl rfl rfl sz144 rfl (List.all_eq_true.2 (fun u hu => Rep.one (show Rep.rep _ _ _ from hcr1) u hu)) rfl rfl rfl) ?_
   refine gs16 ?_
   refine RW.gc rfl rfl rfl (fun w1 hw1 => stIdx_c w1 (Go.K.hp w1) (Hp.le_refl _)) rfl (fun h => args2 (gv_pos h) (gv_pos h)) ?_
   refine gs1 ?_
   obtain ⟨qb1, hqb1⟩ : ∃ qz : Bool, ((decide ((z.Queue.getD k default).At < z.Hour)) || (!(decide (0 ≤ (z.Queue.getD k default).To ∧ (z.Queue.getD k default).To < (b.Places.length : Int))))) = qz := ⟨_, rfl⟩
   refine RW.q (v := .bool qb1) rfl (q_as (v := .bool ((decide ((z.Queue.getD k default).At < z.Hour)) || (!(decide (0 ≤ (z.Queue.getD k default).To ∧ (z.Queue.getD k default).To < (b.Places.length : Int)))))) (qpO rfl rfl rfl) (congrArg Value.bool hqb1)) ?_
   refine gs6 ?_
   refine RW.gc rfl rfl rfl (fun w1 hw1 => pRight_c w1 (Go.K.hp w1) (Hp.le_refl _) (hsv2.mono hw1.phi) (n := (b.Owners.length : Int))) rfl (fun h => args2 (gv_pos h) (gv_pos h)) ?_
   refine gs1 ?_
   obtain ⟨qb2, hqb2⟩ : ∃ qz : Bool, (qb1 || (!(poolB ((z.Queue.getD k default).Part) (b.Owners.length : Int)))) = qz := ⟨_, rfl⟩
   refine RW.q (v := .bool qb2) rfl (q_as (v := .bool (qb1 || (!(poolB ((z.Queue.getD k default).Part) (b.Owners.length : Int))))) (qpO rfl rfl rfl) (congrArg Value.bool hqb2)) ?_
   subst hqb2 hqb1
   refine gs2 ?_
   refine AW.cond rfl (fun hc5 => ?_) fun hc5 => ?_
   ·
    refine gs13 ?_
    refine fin_out2 (v := iV 0) (u := .bool false) rfl rfl rfl rfl (fun w' hw => ?_)
    refine ⟨?_, hw.below rfl⟩
    have hn : ¬ LitOk b z := fun h9 => by have h8 := (h9.2 k (by omega)).1; exact Bool.noConfusion (h8.symm.trans hc5)
    rw [if_neg hn, decide_eq_false hn]
   ·
    refine gs3 ?_
    have hqb : quBad b z k = false := hc5
    have hpt := Ft.pool_tot (qu_f hqb)
    have hl1 : Ft.litTo z.Own z.Own.length + Ft.quTo z.Queue (k + 1) = v + Ft.tot (z.Queue.getD k default).Part := by rw [hv]; show _ + (Ft.quTo z.Queue k + _) = _; omega
    refine gs3 ?_
    refine RW.c rfl (fun w1 hw1 => Total_c w1 (Go.K.hp w1) (Hp.le_refl _) (hsv2.mono hw1.phi)) rfl rfl ?_
    refine gs18 ?_
    obtain ⟨qb3, hqb3⟩ : ∃ qz : Bool, ((decide (Ft.tot ((z.Queue.getD k default).Part) ≤ 0)) || (decide ((1125899906842624 : Int) < v + (Ft.tot ((z.Queue.getD k default).Part))))) = qz := ⟨_, rfl⟩
    refine RW.q (v := .bool qb3) rfl (q_as (v := .bool ((decide (Ft.tot ((z.Queue.getD k default).Part) ≤ 0)) || (decide ((1125899906842624 : Int) < v + (Ft.tot ((z.Queue.getD k default).Part)))))) (qpO rfl rfl rfl) (congrArg Value.bool hqb3)) ?_
    subst hqb3
    refine gs2 ?_
    refine AW.cond rfl (fun hc6 => ?_) fun hc6 => ?_
    ·
     simp [-List.getD_eq_getElem?_getD, -Array.length_toList] at hc6
     refine gs12 ?_
     refine fin_out2 (v := iV 0) (u := .bool false) rfl rfl rfl rfl (fun w' hw => ?_)
     refine ⟨?_, hw.below rfl⟩
     have hn : ¬ LitOk b z := fun h9 => by have h8 := (h9.2 k (by omega)).2; omega
     rw [if_neg hn, decide_eq_false hn]
    ·
     simp [-List.getD_eq_getElem?_getD, -Array.length_toList] at hc6
     refine gs7 ?_
     exact Post.bk ⟨k + 1, _, rfl, rfl, rfl, (by omega), hl1.symm, (by omega), (Fu.lt_succ hal2 ⟨hqb, by omega, by omega⟩)⟩
  ·
   simp [-List.getD_eq_getElem?_getD, -Array.length_toList] at hc4
   refine gs13 ?_
   refine fin_out2 (v := iV v) (u := .bool true) rfl rfl rfl rfl (fun w' hw => ?_)
   refine ⟨?_, hw.below rfl⟩
   have hn : LitOk b z := ⟨halE, fun j hj => hal2 j (by omega)⟩
   rw [if_pos hn, decide_eq_true hn, hv, show k = z.Queue.length by omega]
theorem sum_ok {xs : List Int} {m : Int} (h : Ft.SumOk xs m) (hm : 0 ≤ m) : ∀ k, k ≤ xs.length → 0 ≤ Ba.sumTo xs k ∧ Ba.sumTo xs k ≤ m
 | 0, _ => by unfold Ba.sumTo; omega
 | k + 1, hk => by
  have ih := sum_ok h hm k (by omega)
  have hx := h k (by omega)
  unfold Ba.sumTo
  omega
theorem sum_rng (xs : List Int) (m : Int) (hm : 0 ≤ m) : 0 ≤ (if Ft.SumOk xs m then Ba.sumTo xs xs.length else 0) ∧ (if Ft.SumOk xs m then Ba.sumTo xs xs.length else 0) ≤ m := by
 split
 ·
  exact sum_ok (by assumption) hm _ (Nat.le_refl _)
 ·
  omega
theorem lit_nn {b : Bt.Basin} {z : Bt.State} (h : LitOk b z) : ∀ k, k ≤ z.Own.length → 0 ≤ Ft.litTo z.Own k
 | 0, _ => by unfold Ft.litTo; omega
 | k + 1, hk => by
  have ih := lit_nn h k (by omega)
  have hp := Ft.pool_tot (pool_f (h.1 k (by omega)).1)
  unfold Ft.litTo
  omega
theorem qu_nn {b : Bt.Basin} {z : Bt.State} (h : LitOk b z) : ∀ k, k ≤ z.Queue.length → 0 ≤ Ft.quTo z.Queue k
 | 0, _ => by unfold Ft.quTo; omega
 | k + 1, hk => by
  have ih := qu_nn h k (by omega)
  have hp := (h.2 k (by omega)).2.1
  unfold Ft.quTo
  omega
theorem lit_rng {b : Bt.Basin} {z : Bt.State} (h : LitOk b z) : 0 ≤ Ft.litTo z.Own z.Own.length + Ft.quTo z.Queue z.Queue.length ∧ Ft.litTo z.Own z.Own.length + Ft.quTo z.Queue z.Queue.length ≤ 1125899906842624 := by
 have h1 := lit_nn h _ (Nat.le_refl _)
 have h2 := qu_nn h _ (Nat.le_refl _)
 refine ⟨by omega, ?_⟩
 by_cases hq : z.Queue.length = 0
 ·
  rw [hq]
  show _ + (0 : Int) ≤ _
  by_cases ho : z.Own.length = 0
  ·
   rw [ho]; unfold Ft.litTo; omega
  ·
   have := (h.1 (z.Own.length - 1) (by omega)).2
   rw [show z.Own.length - 1 + 1 = z.Own.length by omega] at this
   omega
 ·
  have := (h.2 (z.Queue.length - 1) (by omega)).2.2
  rw [show z.Queue.length - 1 + 1 = z.Queue.length by omega] at this
  exact this
theorem litV_rng (b : Bt.Basin) (z : Bt.State) : 0 ≤ (if LitOk b z then Ft.litTo z.Own z.Own.length + Ft.quTo z.Queue z.Queue.length else 0) ∧ (if LitOk b z then Ft.litTo z.Own z.Own.length + Ft.quTo z.Queue z.Queue.length else 0) ≤ 1125899906842624 := by
 split
 ·
  exact lit_rng (by assumption)
 ·
  omega
def stBad0 (b : Bt.Basin) (z : Bt.State) : Bool := (((((((decide (z.Hour < 0)) || (decide ((16777216 : Int) < z.Hour))) || (!decide ((z.Own.length : Int) = (b.Places.length : Int)))) || (!decide ((z.Rem.length : Int) = (b.Places.length : Int)))) || (!decide ((z.Gates.length : Int) = (b.Links.length : Int)))) || (!decide ((z.In.length : Int) = (b.Owners.length : Int)))) || (!decide ((z.Out.length : Int) = (b.Owners.length : Int))))
def remBad (b : Bt.Basin) (z : Bt.State) (k : Nat) : Bool := ((decide (z.Rem.getD k 0 < 0)) || (decide (max 0 (((b.Places.getD k default).Den) - 1) < z.Rem.getD k 0)))
def gatBad (b : Bt.Basin) (z : Bt.State) (k : Nat) : Bool := ((((decide ((z.Gates.getD k default).Pos < 0)) || (decide ((b.Links.getD k default).Positions < (z.Gates.getD k default).Pos))) || (decide ((z.Gates.getD k default).Target < 0))) || (decide ((b.Links.getD k default).Positions < (z.Gates.getD k default).Target)))
def gatBa2 (b : Bt.Basin) (z : Bt.State) (k : Nat) : Bool := ((((z.Gates.getD k default).Open) && (!decide ((b.Links.getD k default).Kind = 5))) && (!decide ((b.Links.getD k default).Kind = 3)))
def StLoops (b : Bt.Basin) (z : Bt.State) : Prop := (∀ k, k < b.Places.length → remBad b z k = false) ∧ ∀ k, k < b.Links.length → gatBad b z k = false ∧ gatBa2 b z k = false
instance (b : Bt.Basin) (z : Bt.State) : Decidable (StLoops b z) := inferInstanceAs (Decidable ((∀ k, k < b.Places.length → remBad b z k = false) ∧ ∀ k, k < b.Links.length → gatBad b z k = false ∧ gatBa2 b z k = false))
def stepB (b : Bt.Basin) (z : Bt.State) : Bool := !stBad0 b z && (decide (StLoops b z) && (decide (LitOk b z) && (decide (Ft.SumOk z.In 1152921504606846976) && (decide (Ft.SumOk z.Out (((if Ft.SumOk z.In 1152921504606846976 then Ba.sumTo z.In z.In.length else 0) + 1125899906842624) - (if LitOk b z then Ft.litTo z.Own z.Own.length + Ft.quTo z.Queue z.Queue.length else 0)))))))
theorem stepRight_c (w : World) (Φ : Hp) (hΦ : Hp.le Φ (hp w)) {b : Bt.Basin} {cs : List Value} (hB : RepV Φ b cs) {z : Bt.State} {zcs : List Value} (tH : RepV Φ z zcs) (hp : RPlaces b) :
  Calls pg 16 #[.agg cs.toArray, .agg zcs.toArray] w fun e w' => e = .returned (.bool (stepB b z)) ∧ Bel w.heap.size w w' := by
 obtain ⟨v1, v3, v4, v5, v6, v7, v8, v9, hcs, hBw, r1, r3, r4, r5, r6, r7, r8, r9⟩ := (show Rep.rep Φ b cs from hB)
 subst hcs
 have hpm : b.Places.length * 152 ≤ 140737488355328 := r3.max
 obtain ⟨tv1, tv2, tv3, tv4, tv5, tv6, hzcs, hzw, tr1, tr2, tr3, tr4, tr5, tr6⟩ := (show Rep.rep Φ z zcs from tH)
 subst hzcs
 have ztm : z.Own.length * 24 ≤ 140737488355328 := tr1.max
 have zqm : z.Queue.length * 40 ≤ 140737488355328 := tr3.max
 have zgm : z.Gates.length * 24 ≤ 140737488355328 := tr4.max
 refine in2 168 Tryz.func16 rfl rfl hΦ ?_
 have hnl : b.Name.data.toList.length ≤ 9223372036854775807 := hBw.1
 have hom : b.Owners.length * 16 ≤ 140737488355328 := r1.max
 have hlm : b.Links.length * 200 ≤ 140737488355328 := r4.max
 have htm : b.Towns.length * 64 ≤ 140737488355328 := r5.max
 have hgm_ : b.Gauges.length * 48 ≤ 140737488355328 := r6.max
 have hrm : b.Roads.length * 64 ≤ 140737488355328 := r7.max
 have hsm : b.Shelters.length * 24 ≤ 140737488355328 := r8.max
 have hom2 : b.Room.length * 8 ≤ 140737488355328 := r9.max
 refine gs2 ?_
 refine RW.bxA rfl rfl fun b1 => ?_
 refine RW.bxA rfl rfl fun b2 => ?_
 refine gs13 ?_
 obtain ⟨qb1, hqb1⟩ : ∃ qz : Bool, ((decide (z.Hour < 0)) || (decide ((16777216 : Int) < z.Hour))) = qz := ⟨_, rfl⟩
 refine RW.q (v := .bool qb1) rfl (q_as (v := .bool ((decide (z.Hour < 0)) || (decide ((16777216 : Int) < z.Hour)))) (qpO rfl rfl rfl) (congrArg Value.bool hqb1)) ?_
 refine gs8 ?_
 obtain ⟨qb2, hqb2⟩ : ∃ qz : Bool, (qb1 || (!decide ((z.Own.length : Int) = (b.Places.length : Int)))) = qz := ⟨_, rfl⟩
 refine RW.q (v := .bool qb2) rfl (q_as (v := .bool (qb1 || (!decide ((z.Own.length : Int) = (b.Places.length : Int))))) (qpO rfl rfl rfl) (congrArg Value.bool hqb2)) ?_
 refine gs8 ?_
 obtain ⟨qb3, hqb3⟩ : ∃ qz : Bool, (qb2 || (!decide ((z.Rem.length : Int) = (b.Places.length : Int)))) = qz := ⟨_, rfl⟩
 refine RW.q (v := .bool qb3) rfl (q_as (v := .bool (qb2 || (!decide ((z.Rem.length : Int) = (b.Places.length : Int))))) (qpO rfl rfl rfl) (congrArg Value.bool hqb3)) ?_
 refine gs8 ?_
 obtain ⟨qb4, hqb4⟩ : ∃ qz : Bool, (qb3 || (!decide ((z.Gates.length : Int) = (b.Links.length : Int)))) = qz := ⟨_, rfl⟩
 refine RW.q (v := .bool qb4) rfl (q_as (v := .bool (qb3 || (!decide ((z.Gates.length : Int) = (b.Links.length : Int))))) (qpO rfl rfl rfl) (congrArg Value.bool hqb4)) ?_
 refine gs8 ?_
 obtain ⟨qb5, hqb5⟩ : ∃ qz : Bool, (qb4 || (!decide ((z.In.length : Int) = (b.Owners.length : Int)))) = qz := ⟨_, rfl⟩
 refine RW.q (v := .bool qb5) rfl (q_as (v := .bool (qb4 || (!decide ((z.In.length : Int) = (b.Owners.length : Int))))) (qpO rfl rfl rfl) (congrArg Value.bool hqb5)) ?_
 refine gs8 ?_
 obtain ⟨qb6, hqb6⟩ : ∃ qz : Bool, (qb5 || (!decide ((z.Out.length : Int) = (b.Owners.length : Int)))) = qz := ⟨_, rfl⟩
 refine RW.q (v := .bool qb6) rfl (q_as (v := .bool (qb5 || (!decide ((z.Out.length : Int) = (b.Owners.length : Int))))) (qpO rfl rfl rfl) (congrArg Value.bool hqb6)) ?_
 subst hqb6 hqb5 hqb4 hqb3 hqb2 hqb1
 refine gs2 ?_
 refine AW.cond rfl (fun hc1 => ?_) fun hc1 => ?_
 ·
  refine gs7 ?_
  exact fin_val (v' := .bool false) rfl rfl rfl (congrArg Value.bool (show false = stepB b z by unfold stepB; rw [show stBad0 b z = true from hc1]; rfl))
 ·
  refine gs4 ?_
  have hdb := hc1
  simp [-List.getD_eq_getElem?_getD, -Array.length_toList] at hdb
  refine gs8 ?_
  refine AW.lp (fun s J m => ∃ (k : Nat), s = [(2, pV b1 0), (3, pV b2 0), (67, v3), (68, iV (b.Places.length : Int)), (69, iV (k : Int))] ∧ J = St ⟨w, Φ, []⟩ Φ [.blk b2 36 (cl36 z tv1 tv2 tv3 tv4 tv5 tv6), .blk b1 31 (cl31 b v1 v3 v4 v5 v6 v7 v8 v9)] ∧ m = b.Places.length - k ∧ (k ≤ b.Places.length) ∧ (∀ j, j < k → remBad b z j = false)) ⟨0, rfl, rfl, rfl, (by omega), (fun j hj => absurd hj (by omega))⟩ ?_
  rintro _ _ _ _ ⟨k, rfl, rfl, rfl, hk, hall⟩
  refine gs6 ?_
  refine AW.cond rfl (fun hc2 => ?_) fun hc2 => ?_
  ·
   simp [-List.getD_eq_getElem?_getD, -Array.length_toList] at hc2
   refine gs8 ?_
   obtain ⟨cv1, hcr1, hcc1⟩ := RepSl.whole (k := k) r3 (by omega)
   obtain ⟨sv1, sv2, sv3, hcE1, hcw1, hsv1, hsv2, hsv3⟩ := (show Rep.rep _ _ _ from hcr1)
   subst hcE1
   refine RW.q (v := .agg (cl71 (b.Places.getD k default) sv1 sv2 sv3).toArray) rfl (q_loadAgg rfl uT71 rfl sz71 rfl (Cells.phiK hcc1)) ?_
   refine RW.alc rfl fun b3 => ?_
   refine gs1 ?_
   refine RW.effn (J' := St ⟨w, Φ, []⟩ Φ [.blk b3 71 (cl71 (b.Places.getD k default) sv1 sv2 sv3), .blk b2 36 (cl36 z tv1 tv2 tv3 tv4 tv5 tv6), .blk b1 31 (cl31 b v1 v3 v4 v5 v6 v7 v8 v9)]) (e_store (v := .agg (cl71 (b.Places.getD k default) sv1 sv2 sv3).toArray) 0 rfl rfl rfl sz71 rfl (List.all_eq_true.2 (fun u hu => Rep.one (show Rep.rep _ _ _ from hcr1) u hu)) rfl rfl rfl) ?_
   refine gs3 ?_
   have hpf := (place_f (hp.1 k (by omega)).1).2.2.2.1
   refine AW.draw (J0 := St ⟨w, Φ, []⟩ Φ [.blk b3 71 (cl71 (b.Places.getD k default) sv1 sv2 sv3), .blk b2 36 (cl36 z tv1 tv2 tv3 tv4 tv5 tv6), .blk b1 31 (cl31 b v1 v3 v4 v5 v6 v7 v8 v9)]) [.q, .q, .q, .q, .q, .q, .q, .q, .q, .q, .q, .q, .q, .q, .q, .q, .q, .q] [0, 1, 2, 3, 4, 5, 6, 7, 8, 9, 10, 11, 12, 13, 14, 15, 16, 17] hmix (by kernel_rfl) ?_
   refine gs4 ?_
   refine DW.q (v := iV (z.Rem.getD k 0)) (fun _ h => h) rfl (q_load rfl uT3 rfl (Cell.repInt tr2 (by omega))) ?_
   refine gs5 ?_
   refine DW.g (b := (decide (z.Rem.getD k 0 < 0))) (v := .pointer (some (Value.at tv2 (k * 1)))) (fun _ h => h) rfl rfl rfl (fun h => q_indexAddr (gv_pos h) (gv_pos h) tr2.sl uT29 sz3 (by (try simp [-List.getD_eq_getElem?_getD, -Array.length_toList] at h); omega) (by (try simp [-List.getD_eq_getElem?_getD, -Array.length_toList] at h); omega) rfl) ?_
   refine DW.g (b := (decide (z.Rem.getD k 0 < 0))) (v := iV (z.Rem.getD k 0)) (fun _ h => h) rfl rfl rfl (fun h => q_load (gv_pos h) uT3 rfl (Cell.repInt tr2 (by (try simp [-List.getD_eq_getElem?_getD, -Array.length_toList] at h); omega))) ?_
   refine gs2 ?_
   refine DW.g (b := (decide (z.Rem.getD k 0 < 0))) (v := iV (((b.Places.getD k default).Den) - 1)) (fun _ h => h) rfl rfl rfl (fun h => q_sub (gv_pos h) rfl (by (try simp [-List.getD_eq_getElem?_getD, -Array.length_toList] at h); omega) (by (try simp [-List.getD_eq_getElem?_getD, -Array.length_toList] at h); unfold I64; omega)) ?_
   refine DW.g (b := (decide (z.Rem.getD k 0 < 0))) (v := iV (max 0 (((b.Places.getD k default).Den) - 1))) (fun _ h => h) rfl rfl rfl (fun h => q_max rfl (gv_pos h)) ?_
   refine gs1 ?_
   obtain ⟨qb7, hqb7⟩ : ∃ qz : Bool, ((decide (z.Rem.getD k 0 < 0)) || (decide (max 0 (((b.Places.getD k default).Den) - 1) < z.Rem.getD k 0))) = qz := ⟨_, rfl⟩
   refine DW.q (v := .bool qb7) (fun _ h => h) rfl (q_as (v := .bool ((decide (z.Rem.getD k 0 < 0)) || (decide (max 0 (((b.Places.getD k default).Den) - 1) < z.Rem.getD k 0)))) (qpO rfl rfl rfl) (congrArg Value.bool hqb7)) ?_
   subst hqb7
   refine gs2 ?_
   refine AW.cond rfl (fun hc3 => ?_) fun hc3 => ?_
   ·
    refine gs11 ?_
    exact fin_val (v' := .bool false) rfl rfl rfl (congrArg Value.bool (show false = stepB b z by unfold stepB; rw [show stBad0 b z = false from hc1, decide_eq_false (show ¬ StLoops b z from fun h9 => Bool.noConfusion ((h9.1 k (by omega)).symm.trans hc3))]; rfl))
   ·
    refine gs7 ?_
    exact Post.bk ⟨k + 1, rfl, rfl, rfl, (by omega), (Fu.lt_succ hall hc3)⟩
  ·
   simp [-List.getD_eq_getElem?_getD, -Array.length_toList] at hc2
   refine gs15 ?_
   have halA : ∀ j, j < b.Places.length → remBad b z j = false := fun j hj => hall j (by omega)
   refine AW.lp (fun s J m => ∃ (k : Nat), s = [(2, pV b1 0), (3, pV b2 0), (94, v4), (95, iV (b.Links.length : Int)), (96, iV (k : Int))] ∧ J = St ⟨w, Φ, []⟩ Φ [.blk b2 36 (cl36 z tv1 tv2 tv3 tv4 tv5 tv6), .blk b1 31 (cl31 b v1 v3 v4 v5 v6 v7 v8 v9)] ∧ m = b.Links.length - k ∧ (k ≤ b.Links.length) ∧ (∀ j, j < k → gatBad b z j = false ∧ gatBa2 b z j = false)) ⟨0, rfl, rfl, rfl, (by omega), (fun j hj => absurd hj (by omega))⟩ ?_
   rintro _ _ _ _ ⟨k, rfl, rfl, rfl, hk, hal2⟩
   refine gs6 ?_
   refine AW.cond rfl (fun hc4 => ?_) fun hc4 => ?_
   ·
    simp [-List.getD_eq_getElem?_getD, -Array.length_toList] at hc4
    refine gs8 ?_
    obtain ⟨cv2, hcr2, hcc2⟩ := RepSl.whole (k := k) r4 (by omega)
    obtain ⟨sv4, sv5, sv6, hcE2, hcw2, hsv4, hsv5, hsv6⟩ := (show Rep.rep _ _ _ from hcr2)
    subst hcE2
    refine RW.q (v := .agg (cl124 (b.Links.getD k default) sv4 sv5 sv6).toArray) rfl (q_loadAgg rfl uT124 rfl sz124 rfl (Cells.phiK hcc2)) ?_
    refine RW.alc rfl fun b4 => ?_
    refine gs1 ?_
    refine RW.effn (J' := St ⟨w, Φ, []⟩ Φ [.blk b4 124 (cl124 (b.Links.getD k default) sv4 sv5 sv6), .blk b2 36 (cl36 z tv1 tv2 tv3 tv4 tv5 tv6), .blk b1 31 (cl31 b v1 v3 v4 v5 v6 v7 v8 v9)]) (e_store (v := .agg (cl124 (b.Links.getD k default) sv4 sv5 sv6).toArray) 0 rfl rfl rfl sz124 rfl (List.all_eq_true.2 (fun u hu => Rep.one (show Rep.rep _ _ _ from hcr2) u hu)) rfl rfl rfl) ?_
    refine gs8 ?_
    refine RW.q (v := .agg (cl81 (z.Gates.getD k default)).toArray) rfl (q_loadAgg rfl uT81 rfl sz81 rfl (Cells.repE tr4 (by omega) rfl)) ?_
    refine RW.alc rfl fun b5 => ?_
    refine gs15 ?_
    obtain ⟨qb8, hqb8⟩ : ∃ qz : Bool, ((decide ((z.Gates.getD k default).Pos < 0)) || (decide ((b.Links.getD k default).Positions < (z.Gates.getD k default).Pos))) = qz := ⟨_, rfl⟩
    refine RW.q (v := .bool qb8) rfl (q_as (v := .bool ((decide ((z.Gates.getD k default).Pos < 0)) || (decide ((b.Links.getD k default).Positions < (z.Gates.getD k default).Pos)))) (qpO rfl rfl rfl) (congrArg Value.bool hqb8)) ?_
    refine gs4 ?_
    obtain ⟨qb9, hqb9⟩ : ∃ qz : Bool, (qb8 || (decide ((z.Gates.getD k default).Target < 0))) = qz := ⟨_, rfl⟩
    refine RW.q (v := .bool qb9) rfl (q_as (v := .bool (qb8 || (decide ((z.Gates.getD k default).Target < 0)))) (qpO rfl rfl rfl) (congrArg Value.bool hqb9)) ?_
    refine gs6 ?_
    obtain ⟨qb10, hqb10⟩ : ∃ qz : Bool, (qb9 || (decide ((b.Links.getD k default).Positions < (z.Gates.getD k default).Target))) = qz := ⟨_, rfl⟩
    refine RW.q (v := .bool qb10) rfl (q_as (v := .bool (qb9 || (decide ((b.Links.getD k default).Positions < (z.Gates.getD k default).Target)))) (qpO rfl rfl rfl) (congrArg Value.bool hqb10)) ?_
    subst hqb10 hqb9 hqb8
    refine gs2 ?_
    refine AW.cond rfl (fun hc5 => ?_) fun hc5 => ?_
    ·
     refine gs12 ?_
     exact fin_val (v' := .bool false) rfl rfl rfl (congrArg Value.bool (show false = stepB b z by unfold stepB; rw [show stBad0 b z = false from hc1, decide_eq_false (show ¬ StLoops b z from fun h9 => Bool.noConfusion (((h9.2 k (by omega)).1).symm.trans hc5))]; rfl))
    ·
     refine gs10 ?_
     obtain ⟨qb11, hqb11⟩ : ∃ qz : Bool, (((z.Gates.getD k default).Open) && (!decide ((b.Links.getD k default).Kind = 5))) = qz := ⟨_, rfl⟩
     refine RW.q (v := .bool qb11) rfl (q_as (v := .bool (((z.Gates.getD k default).Open) && (!decide ((b.Links.getD k default).Kind = 5)))) (qpA rfl rfl rfl) (congrArg Value.bool hqb11)) ?_
     refine gs4 ?_
     obtain ⟨qb12, hqb12⟩ : ∃ qz : Bool, (qb11 && (!decide ((b.Links.getD k default).Kind = 3))) = qz := ⟨_, rfl⟩
     refine RW.q (v := .bool qb12) rfl (q_as (v := .bool (qb11 && (!decide ((b.Links.getD k default).Kind = 3)))) (qpA rfl rfl rfl) (congrArg Value.bool hqb12)) ?_
     subst hqb12 hqb11
     refine gs2 ?_
     refine AW.cond rfl (fun hc6 => ?_) fun hc6 => ?_
     ·
      refine gs11 ?_
      exact fin_val (v' := .bool false) rfl rfl rfl (congrArg Value.bool (show false = stepB b z by unfold stepB; rw [show stBad0 b z = false from hc1, decide_eq_false (show ¬ StLoops b z from fun h9 => Bool.noConfusion (((h9.2 k (by omega)).2).symm.trans hc6))]; rfl))
     ·
      refine gs7 ?_
      exact Post.bk ⟨k + 1, rfl, rfl, rfl, (by omega), (Fu.lt_succ hal2 ⟨hc5, hc6⟩)⟩
   ·
    simp [-List.getD_eq_getElem?_getD, -Array.length_toList] at hc4
    refine gs9 ?_
    refine RW.c rfl (fun w1 hw1 => litres_c w1 (Go.K.hp w1) (Hp.le_refl _) (hB.mono hw1.phi) (tH.mono hw1.phi)) rfl rfl (RW.q rfl (q_move rfl) ?_)
    refine gs13 ?_
    refine AW.cond rfl (fun hc7 => ?_) fun hc7 => ?_
    ·
     simp [-List.getD_eq_getElem?_getD, -Array.length_toList] at hc7
     refine gs7 ?_
     exact fin_val (v' := .bool false) rfl rfl rfl (congrArg Value.bool (show false = stepB b z by unfold stepB; rw [show stBad0 b z = false from hc1, decide_eq_true (show StLoops b z from ⟨halA, fun j hj => hal2 j (by omega)⟩), decide_eq_false hc7]; rfl))
    ·
     simp [-List.getD_eq_getElem?_getD, -Array.length_toList] at hc7
     refine gs3 ?_
     have hsz := fun hk : LitOk b z => lit_rng hk
     refine gs3 ?_
     refine RW.c rfl (fun w1 hw1 => sumUpTo_c w1 (Go.K.hp w1) (Hp.le_refl _) (tr5.mono hw1.phi) (by omega)) rfl rfl (RW.q rfl (q_move rfl) ?_)
     refine gs13 ?_
     refine AW.cond rfl (fun hc8 => ?_) fun hc8 => ?_
     ·
      simp [-List.getD_eq_getElem?_getD, -Array.length_toList] at hc8
      refine gs7 ?_
      exact fin_val (v' := .bool false) rfl rfl rfl (congrArg Value.bool (show false = stepB b z by unfold stepB; rw [show stBad0 b z = false from hc1, decide_eq_true (show StLoops b z from ⟨halA, fun j hj => hal2 j (by omega)⟩), decide_eq_true hc7, decide_eq_false hc8]; rfl))
     ·
      simp [-List.getD_eq_getElem?_getD, -Array.length_toList] at hc8
      refine gs3 ?_
      have hi9 := sum_rng z.In 1152921504606846976 (by omega)
      have hl9 := litV_rng b z
      refine gs7 ?_
      refine RW.c rfl (fun w1 hw1 => sumUpTo_c w1 (Go.K.hp w1) (Hp.le_refl _) (tr6.mono hw1.phi) (by omega)) rfl rfl (RW.q (v := .tuple #[iV (if Ft.SumOk z.Out (((if Ft.SumOk z.In 1152921504606846976 then Ba.sumTo z.In z.In.length else 0) + 1125899906842624) - (if LitOk b z then Ft.litTo z.Own z.Own.length + Ft.quTo z.Queue z.Queue.length else 0)) then Ba.sumTo z.Out z.Out.length else 0), .bool (decide (Ft.SumOk z.Out (((if Ft.SumOk z.In 1152921504606846976 then Ba.sumTo z.In z.In.length else 0) + 1125899906842624) - (if LitOk b z then Ft.litTo z.Own z.Own.length + Ft.quTo z.Queue z.Queue.length else 0))))]) rfl (q_move rfl) ?_)
      refine gs12 ?_
      exact fin_val (v' := .bool (decide (Ft.SumOk z.Out (((if Ft.SumOk z.In 1152921504606846976 then Ba.sumTo z.In z.In.length else 0) + 1125899906842624) - (if LitOk b z then Ft.litTo z.Own z.Own.length + Ft.quTo z.Queue z.Queue.length else 0))))) rfl rfl rfl (congrArg Value.bool (show _ = stepB b z by unfold stepB; rw [show stBad0 b z = false from hc1, decide_eq_true (show StLoops b z from ⟨halA, fun j hj => hal2 j (by omega)⟩), decide_eq_true hc7, decide_eq_true hc8]; rfl))
end Go.Proofs.YtblfeidlnhdekaaGreat
