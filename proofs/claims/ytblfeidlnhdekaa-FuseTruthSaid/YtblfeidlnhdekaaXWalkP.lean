/- Walks (part WalkP), printed by walk2.py. Conditions: those of each theorem. -/
import Derived.Test.YtblfeidlnhdekaaXLawD
import Derived.Test.YtblfeidlnhdekaaXPlainFt
namespace Go.Proofs.Ytblfeidlnhdekaa
open Go Go.K Go.RowKit
set_option maxRecDepth 8000
set_option maxHeartbeats 1000000
attribute [local irreducible] AW RW DW Post Qt
theorem sz70 : (Try.prog.info? 70).map (·.size) = some 7 := by kernel_rfl
theorem sz152 : (Try.prog.info? 152).map (·.size) = some 3 := by kernel_rfl
theorem zero152 : (Try.prog.info? 152).map (·.zero) = some (some (.agg #[iV 0, iV 0, .slice none 0 0])) := by kernel_rfl
theorem sz114 : (Try.prog.info? 114).map (·.size) = some 4 := by kernel_rfl
theorem zero114 : (Try.prog.info? 114).map (·.zero) = some (some (.agg #[iV 0, iV 0, .bool false, .bool false])) := by kernel_rfl
theorem sz154 : (Try.prog.info? 154).map (·.size) = some 2 := by kernel_rfl
theorem zero154 : (Try.prog.info? 154).map (·.zero) = some (some (.agg #[iV 0, iV 0])) := by kernel_rfl
theorem places154 : ∀ w, ((#[{ name := "at", type := 3, offset := 0, embedded := false, tag := "", pkgPath := "bourne/hull", byteOffset := 0 }, { name := "to", type := 3, offset := 1, embedded := false, tag := "", pkgPath := "bourne/hull", byteOffset := 8 }] : Array Field).mapM fun f => do pure (f.offset, ← sizeOf f.type) : Sem (Array (Nat × Nat))).run Try.prog w = .ok #[(0, 1), (1, 1)] w := fun w => by kernel_rfl
theorem sz74 : (Try.prog.info? 74).map (·.size) = some 3 := by kernel_rfl
theorem zero74 : (Try.prog.info? 74).map (·.zero) = some (some (.agg #[iV 0, iV 0, iV 0])) := by kernel_rfl
theorem sz67 : (Try.prog.info? 67).map (·.size) = some 1 := by kernel_rfl
theorem sz68 : (Try.prog.info? 68).map (·.size) = some 1 := by kernel_rfl
theorem getI {xs : List Int} {v : Value} {Φ : Hp} (h : RepSl Φ xs v) {k : Nat} (hk : k < xs.length) : I64 (xs.getD k 0) := h.i64 _ (Fu.getD_memI hk)
theorem Total_c (w : World) (Φ : Hp) (hΦ : Hp.le Φ (hp w)) {xs : List Int} {v1 : Value} (h1 : RepSl Φ xs v1) :
  Calls Try.prog 64 #[v1] w fun e w' => e = .returned (iV (Ft.tot xs)) ∧ Bel w.heap.size w w' := by
 refine calls_of_AW (args := [v1]) Try.func64 rfl (Nat.le_of_ble_eq_true rfl) (St ⟨w, Φ, []⟩ Φ []) (StP.init w Φ hΦ []) ?_
 show AW Try.prog 17 [] _ _ _ [(0, v1)] _
 have hm1 : xs.length * 8 ≤ 140737488355328 := h1.max
 refine g19 ?_
 refine AW.loop (fun s J m => ∃ (k : Nat), ∃ (u : Int), s = [(6, v1), (7, iV (xs.length : Int)), (3, iV u), (8, iV (k : Int))] ∧ J = St ⟨w, Φ, []⟩ Φ [] ∧ m = xs.length - k ∧ (k ≤ xs.length) ∧ (u = Ft.totTo xs k)) (s0 := _) (J1 := _) (m0 := _) ⟨0, 0, rfl, rfl, rfl, (by omega), rfl⟩ ⟨rfl, rfl, rfl, rfl, trivial⟩ (fun _ h => h) ?_
 rintro _ _ _ _ ⟨k, u, rfl, rfl, rfl, hk, hu⟩
 refine g6 ?_
 refine AW.cond rfl (fun hc1 => ?_) fun hc1 => ?_
 ·
  simp [-List.getD_eq_getElem?_getD] at hc1
  refine g6 ?_
  refine RW.q (v := .pointer (some (Value.at v1 (k * 1)))) rfl (q_indexAddr rfl rfl h1.sl uT29 sz3 (by omega) (by omega) rfl) (RW.q (v := iV (xs.getD k 0)) rfl (q_load rfl uT3 rfl (Cell.repInt h1 (by omega))) ?_)
  refine g3 ?_
  have hxk := getI h1 (show k < xs.length by omega)
  have huI : I64 u := by rw [hu]; exact Ft.totTo_rng xs k
  refine g3 ?_
  refine RW.q (v := iV (Fu.addS u (xs.getD k 0))) rfl (q_call (args := #[iV u, iV (xs.getD k 0)]) own29 rfl rfl (fun w1 hw1 => Add_c w1 (Go.K.hp w1) (Hp.le_refl _) huI hxk)) ?_
  refine g8 ?_
  exact Post.back (s' := _) (J' := _) (m' := _) (by omega) ⟨k + 1, _, rfl, rfl, rfl, (by omega), (by rw [hu]; rfl)⟩ ⟨rfl, rfl, rfl, rfl, trivial⟩ (fun _ h => h)
 ·
  simp [-List.getD_eq_getElem?_getD] at hc1
  refine g12 ?_
  exact fin_val (v' := iV u) rfl rfl rfl (by rw [hu, show k = xs.length by omega]; rfl)
theorem pright_c (w : World) (Φ : Hp) (hΦ : Hp.le Φ (hp w)) {xs : List Int} {v1 : Value} (h1 : RepSl Φ xs v1) :
  Calls Try.prog 110 #[v1] w fun e w' => e = .returned (.bool (decide (Ft.PoolOk xs))) ∧ Bel w.heap.size w w' := by
 refine calls_of_AW (args := [v1]) Try.func110 rfl (Nat.le_of_ble_eq_true rfl) (St ⟨w, Φ, []⟩ Φ []) (StP.init w Φ hΦ []) ?_
 show AW Try.prog 24 [] _ _ _ [(0, v1)] _
 have hm1 : xs.length * 8 ≤ 140737488355328 := h1.max
 refine g19 ?_
 refine AW.loop (fun s J m => ∃ (k : Nat), ∃ (u : Int), s = [(6, v1), (7, iV (xs.length : Int)), (3, iV u), (8, iV (k : Int))] ∧ J = St ⟨w, Φ, []⟩ Φ [] ∧ m = xs.length - k ∧ (k ≤ xs.length) ∧ (u = Ba.sumTo xs k) ∧ (0 ≤ u ∧ u ≤ 1125899906842624) ∧ (∀ j, j < k → 0 ≤ xs.getD j 0 ∧ xs.getD j 0 ≤ 1125899906842624 - Ba.sumTo xs j)) (s0 := _) (J1 := _) (m0 := _) ⟨0, 0, rfl, rfl, rfl, (by omega), rfl, (by omega), (fun j hj => absurd hj (by omega))⟩ ⟨rfl, rfl, rfl, rfl, trivial⟩ (fun _ h => h) ?_
 rintro _ _ _ _ ⟨k, u, rfl, rfl, rfl, hk, hu, hub, hall⟩
 refine g6 ?_
 refine AW.cond rfl (fun hc1 => ?_) fun hc1 => ?_
 ·
  simp [-List.getD_eq_getElem?_getD] at hc1
  refine g5 ?_
  have hxk := getI h1 (show k < xs.length by omega)
  unfold I64 at hxk
  refine g1 ?_
  refine RW.q (v := .pointer (some (Value.at v1 (k * 1)))) rfl (q_indexAddr rfl rfl h1.sl uT29 sz3 (by omega) (by omega) rfl) (RW.q (v := iV (xs.getD k 0)) rfl (q_load rfl uT3 rfl (Cell.repInt h1 (by omega))) ?_)
  refine g11 ?_
  refine RW.g (b := (decide (xs.getD k 0 < 0))) (v := iV (1125899906842624 - u)) rfl rfl rfl (fun h => q_sub rfl (gv_pos h) (by (try simp [-List.getD_eq_getElem?_getD] at h); omega) (by (try simp [-List.getD_eq_getElem?_getD] at h); unfold I64; omega)) ?_
  refine g1 ?_
  obtain ⟨qb1, hqb1⟩ : ∃ qz : Bool, ((decide (xs.getD k 0 < 0)) || (decide (1125899906842624 - u < xs.getD k 0))) = qz := ⟨_, rfl⟩
  refine RW.q (v := .bool qb1) rfl (q_as (v := .bool ((decide (xs.getD k 0 < 0)) || (decide (1125899906842624 - u < xs.getD k 0)))) (q_pick rfl (fun hp => pkOrT hp) (fun hp => (gv_pos hp).trans (pkOrF hp))) (congrArg Value.bool hqb1)) ?_
  subst hqb1
  refine g2 ?_
  refine AW.cond rfl (fun hc2 => ?_) fun hc2 => ?_
  ·
   simp [-List.getD_eq_getElem?_getD] at hc2
   refine g12 ?_
   exact fin_val (v' := .bool false) rfl rfl rfl (congrArg Value.bool (decide_eq_false (fun h9 => by have h8 := h9 k (by omega); rw [← hu] at h8; omega)).symm)
  ·
   simp [-List.getD_eq_getElem?_getD] at hc2
   refine g14 ?_
   exact Post.back (s' := _) (J' := _) (m' := _) (by omega) ⟨k + 1, _, rfl, rfl, rfl, (by omega), (by rw [hu]; rfl), (by omega), (Fu.lt_succ hall (by rw [← hu]; omega))⟩ ⟨rfl, rfl, rfl, rfl, trivial⟩ (fun _ h => h)
 ·
  simp [-List.getD_eq_getElem?_getD] at hc1
  refine g11 ?_
  exact fin_val (v' := .bool true) rfl rfl rfl (congrArg Value.bool (decide_eq_true (show Ft.PoolOk xs from fun j hj => hall j (by omega))).symm)
def poolB (xs : List Int) (n : Int) : Bool := (((decide ((0 : Int) ≤ n)) && (decide (n ≤ 16))) && (decide ((xs.length : Int) = n))) && (decide (Ft.PoolOk xs))
theorem pool_f {xs : List Int} {n : Int} (h : poolB xs n = true) : Ft.PoolOk xs := by
 unfold poolB at h
 simp only [Bool.and_eq_true, decide_eq_true_eq] at h
 exact h.2
theorem pRight_c (w : World) (Φ : Hp) (hΦ : Hp.le Φ (hp w)) {xs : List Int} {v1 : Value} (h1 : RepSl Φ xs v1) {n : Int} :
  Calls Try.prog 103 #[v1, iV n] w fun e w' => e = .returned (.bool (poolB xs n)) ∧ Bel w.heap.size w w' := by
 refine calls_of_AW (args := [v1, iV n]) Try.func103 rfl (Nat.le_of_ble_eq_true rfl) (St ⟨w, Φ, []⟩ Φ []) (StP.init w Φ hΦ []) ?_
 show AW Try.prog 21 [] _ _ _ [(0, v1), (1, iV n)] _
 have hm1 : xs.length * 8 ≤ 140737488355328 := h1.max
 refine g12 ?_
 obtain ⟨qb1, hqb1⟩ : ∃ qz : Bool, ((decide ((0 : Int) ≤ n)) && (decide (n ≤ 16))) = qz := ⟨_, rfl⟩
 refine RW.q (v := .bool qb1) rfl (q_as (v := .bool ((decide ((0 : Int) ≤ n)) && (decide (n ≤ 16)))) (q_pick rfl (fun hp => (gv_pos hp).trans (pkAndT hp)) (fun hp => pkAndF hp)) (congrArg Value.bool hqb1)) (RW.q (v := .bool qb1) rfl (q_move rfl) (RW.g (b := qb1) (v := v1) rfl rfl rfl (fun h => q_move rfl) (RW.g (b := qb1) (v := iV (xs.length : Int)) rfl rfl rfl (fun h => q_len_sl (gv_pos h) h1.sl uT29) (RW.g (b := qb1) (v := iV n) rfl rfl rfl (fun h => q_move rfl) (RW.g (b := qb1) (v := .bool (decide ((xs.length : Int) = n))) rfl rfl rfl (fun h => q_eql (gv_pos h) (gv_pos h)) ?_)))))
 obtain ⟨qb2, hqb2⟩ : ∃ qz : Bool, (qb1 && (decide ((xs.length : Int) = n))) = qz := ⟨_, rfl⟩
 refine RW.q (v := .bool qb2) rfl (q_as (v := .bool (qb1 && (decide ((xs.length : Int) = n)))) (q_pick rfl (fun hp => (gv_pos hp).trans (pkAndT hp)) (fun hp => pkAndF hp)) (congrArg Value.bool hqb2)) ?_
 refine g2 ?_
 refine RW.g (b := qb2) (v := .bool (decide (Ft.PoolOk xs))) rfl rfl rfl (fun h => q_call (args := #[v1]) own110 rfl (args1 (gv_pos h)) (fun w1 hw1 => pright_c w1 (Go.K.hp w1) (Hp.le_refl _) (h1.mono hw1.phi))) (RW.q (v := .bool (qb2 && (decide (Ft.PoolOk xs)))) rfl (q_pick rfl (fun hp => (gv_pos hp).trans (pkAndT hp)) (fun hp => pkAndF hp)) ?_)
 refine g1 ?_
 subst hqb2 hqb1
 refine g3 ?_
 exact fin_val (v' := .bool ((((decide ((0 : Int) ≤ n)) && (decide (n ≤ 16))) && (decide ((xs.length : Int) = n))) && (decide (Ft.PoolOk xs)))) rfl rfl rfl (rfl)
theorem sumUpTo_c (w : World) (Φ : Hp) (hΦ : Hp.le Φ (hp w)) {xs : List Int} {v1 : Value} (h1 : RepSl Φ xs v1) {mm : Int} (hmm : -4611686018427387904 ≤ mm ∧ mm ≤ 4611686018427387904) :
  Calls Try.prog 92 #[v1, iV mm] w fun e w' => e = .returned (.tuple #[iV (if Ft.SumOk xs mm then Ba.sumTo xs xs.length else 0), .bool (decide (Ft.SumOk xs mm))]) ∧ Bel w.heap.size w w' := by
 refine calls_of_AW (args := [v1, iV mm]) Try.func92 rfl (Nat.le_of_ble_eq_true rfl) (St ⟨w, Φ, []⟩ Φ []) (StP.init w Φ hΦ []) ?_
 show AW Try.prog 29 [] _ _ _ [(0, v1), (1, iV mm)] _
 have hm1 : xs.length * 8 ≤ 140737488355328 := h1.max
 refine g20 ?_
 refine AW.loop (fun s J m => ∃ (k : Nat), ∃ (u : Int), s = [(0, v1), (1, iV mm), (9, v1), (10, iV (xs.length : Int)), (6, iV u), (11, iV (k : Int))] ∧ J = St ⟨w, Φ, []⟩ Φ [] ∧ m = xs.length - k ∧ (k ≤ xs.length) ∧ (u = Ba.sumTo xs k) ∧ (0 ≤ u ∧ (u = 0 ∨ u ≤ mm)) ∧ (∀ j, j < k → 0 ≤ xs.getD j 0 ∧ xs.getD j 0 ≤ mm - Ba.sumTo xs j)) (s0 := _) (J1 := _) (m0 := _) ⟨0, 0, rfl, rfl, rfl, (by omega), rfl, (by omega), (fun j hj => absurd hj (by omega))⟩ ⟨rfl, rfl, rfl, rfl, rfl, rfl, trivial⟩ (fun _ h => h) ?_
 rintro _ _ _ _ ⟨k, u, rfl, rfl, rfl, hk, hu, hub, hall⟩
 refine g6 ?_
 refine AW.cond rfl (fun hc1 => ?_) fun hc1 => ?_
 ·
  simp [-List.getD_eq_getElem?_getD] at hc1
  refine g5 ?_
  have hxk := getI h1 (show k < xs.length by omega)
  unfold I64 at hxk
  refine g1 ?_
  refine RW.q (v := .pointer (some (Value.at v1 (k * 1)))) rfl (q_indexAddr rfl rfl h1.sl uT29 sz3 (by omega) (by omega) rfl) (RW.q (v := iV (xs.getD k 0)) rfl (q_load rfl uT3 rfl (Cell.repInt h1 (by omega))) ?_)
  refine g12 ?_
  refine RW.g (b := (decide (xs.getD k 0 < 0))) (v := iV (mm - u)) rfl rfl rfl (fun h => q_sub (gv_pos h) (gv_pos h) (by (try simp [-List.getD_eq_getElem?_getD] at h); omega) (by (try simp [-List.getD_eq_getElem?_getD] at h); unfold I64; omega)) ?_
  refine g1 ?_
  obtain ⟨qb1, hqb1⟩ : ∃ qz : Bool, ((decide (xs.getD k 0 < 0)) || (decide (mm - u < xs.getD k 0))) = qz := ⟨_, rfl⟩
  refine RW.q (v := .bool qb1) rfl (q_as (v := .bool ((decide (xs.getD k 0 < 0)) || (decide (mm - u < xs.getD k 0)))) (q_pick rfl (fun hp => pkOrT hp) (fun hp => (gv_pos hp).trans (pkOrF hp))) (congrArg Value.bool hqb1)) ?_
  subst hqb1
  refine g2 ?_
  refine AW.cond rfl (fun hc2 => ?_) fun hc2 => ?_
  ·
   simp [-List.getD_eq_getElem?_getD] at hc2
   refine g13 ?_
   refine fin_out2 (v := iV 0) (u := .bool false) rfl rfl rfl rfl (fun w' hw => ?_)
   refine ⟨?_, hw.below rfl⟩
   have hn : ¬ Ft.SumOk xs mm := fun h9 => by have h8 := h9 k (by omega); rw [← hu] at h8; omega
   rw [if_neg hn, decide_eq_false hn]
  ·
   simp [-List.getD_eq_getElem?_getD] at hc2
   refine g14 ?_
   exact Post.back (s' := _) (J' := _) (m' := _) (by omega) ⟨k + 1, _, rfl, rfl, rfl, (by omega), (by rw [hu]; rfl), (by omega), (Fu.lt_succ hall (by rw [← hu]; omega))⟩ ⟨rfl, rfl, rfl, rfl, rfl, rfl, trivial⟩ (fun _ h => h)
 ·
  simp [-List.getD_eq_getElem?_getD] at hc1
  refine g13 ?_
  refine fin_out2 (v := iV u) (u := .bool true) rfl rfl rfl rfl (fun w' hw => ?_)
  refine ⟨?_, hw.below rfl⟩
  have hn : Ft.SumOk xs mm := fun j hj => hall j (by omega)
  rw [if_pos hn, decide_eq_true hn, hu, show k = xs.length by omega]
theorem stIdx_c (w : World) (Φ : Hp) (hΦ : Hp.le Φ (hp w)) {n len : Int} :
  Calls Try.prog 104 #[iV n, iV len] w fun e w' => e = .returned (.bool (decide (0 ≤ n ∧ n < len))) ∧ Bel w.heap.size w w' := by
 refine calls_of_AW (args := [iV n, iV len]) Try.func104 rfl (Nat.le_of_ble_eq_true rfl) (St ⟨w, Φ, []⟩ Φ []) (StP.init w Φ hΦ []) ?_
 show AW Try.prog 12 [] _ _ _ [(0, iV n), (1, iV len)] _
 refine g13 ?_
 obtain ⟨qb1, hqb1⟩ : ∃ qz : Bool, ((decide ((0 : Int) ≤ n)) && (decide (n < len))) = qz := ⟨_, rfl⟩
 refine RW.q (v := .bool qb1) rfl (q_as (v := .bool ((decide ((0 : Int) ≤ n)) && (decide (n < len)))) (q_pick rfl (fun hp => (gv_pos hp).trans (pkAndT hp)) (fun hp => pkAndF hp)) (congrArg Value.bool hqb1)) ?_
 refine g1 ?_
 subst hqb1
 refine g3 ?_
 exact fin_val (v' := .bool ((decide ((0 : Int) ≤ n)) && (decide (n < len)))) rfl rfl rfl (congrArg Value.bool (Bool.decide_and _ _).symm)
theorem huIdx_c (w : World) (Φ : Hp) (hΦ : Hp.le Φ (hp w)) {n len : Int} :
  Calls Try.prog 93 #[iV n, iV len] w fun e w' => e = .returned (.bool (decide (0 ≤ n ∧ n < len))) ∧ Bel w.heap.size w w' := by
 refine calls_of_AW (args := [iV n, iV len]) Try.func93 rfl (Nat.le_of_ble_eq_true rfl) (St ⟨w, Φ, []⟩ Φ []) (StP.init w Φ hΦ []) ?_
 show AW Try.prog 12 [] _ _ _ [(0, iV n), (1, iV len)] _
 refine g13 ?_
 obtain ⟨qb1, hqb1⟩ : ∃ qz : Bool, ((decide ((0 : Int) ≤ n)) && (decide (n < len))) = qz := ⟨_, rfl⟩
 refine RW.q (v := .bool qb1) rfl (q_as (v := .bool ((decide ((0 : Int) ≤ n)) && (decide (n < len)))) (q_pick rfl (fun hp => (gv_pos hp).trans (pkAndT hp)) (fun hp => pkAndF hp)) (congrArg Value.bool hqb1)) ?_
 refine g1 ?_
 subst hqb1
 refine g3 ?_
 exact fin_val (v' := .bool ((decide ((0 : Int) ≤ n)) && (decide (n < len)))) rfl rfl rfl (congrArg Value.bool (Bool.decide_and _ _).symm)
def quBad (b : Bt.Basin) (z : Bt.State) (k : Nat) : Bool := (((decide ((z.Queue.getD k default).At < z.Hour)) || (!(decide (0 ≤ (z.Queue.getD k default).To ∧ (z.Queue.getD k default).To < (b.Places.length : Int))))) || (!(poolB ((z.Queue.getD k default).Part) (b.Owners.length : Int))))
theorem qu_f {b : Bt.Basin} {z : Bt.State} {k : Nat} (h : quBad b z k = false) : Ft.PoolOk (z.Queue.getD k default).Part := by
 unfold quBad at h
 simp only [Bool.or_eq_false_iff, Bool.not_eq_false'] at h
 exact pool_f h.2
def LitOk (b : Bt.Basin) (z : Bt.State) : Prop := (∀ j, j < z.Own.length → poolB (z.Own.getD j []) (b.Owners.length : Int) = true ∧ Ft.litTo z.Own (j + 1) ≤ 1125899906842624) ∧ ∀ j, j < z.Queue.length → quBad b z j = false ∧ 0 < Ft.tot (z.Queue.getD j default).Part ∧ Ft.litTo z.Own z.Own.length + Ft.quTo z.Queue (j + 1) ≤ 1125899906842624
instance (b : Bt.Basin) (z : Bt.State) : Decidable (LitOk b z) := inferInstanceAs (Decidable ((∀ j, j < z.Own.length → poolB (z.Own.getD j []) (b.Owners.length : Int) = true ∧ Ft.litTo z.Own (j + 1) ≤ 1125899906842624) ∧ ∀ j, j < z.Queue.length → quBad b z j = false ∧ 0 < Ft.tot (z.Queue.getD j default).Part ∧ Ft.litTo z.Own z.Own.length + Ft.quTo z.Queue (j + 1) ≤ 1125899906842624))
theorem litres_c (w : World) (Φ : Hp) (hΦ : Hp.le Φ (hp w)) {b : Bt.Basin} {cs : List Value} (hB : RepV Φ b cs) {z : Bt.State} {zcs : List Value} (tH : RepV Φ z zcs) :
  Calls Try.prog 91 #[.agg cs.toArray, .agg zcs.toArray] w fun e w' => e = .returned (.tuple #[iV (if LitOk b z then Ft.litTo z.Own z.Own.length + Ft.quTo z.Queue z.Queue.length else 0), .bool (decide (LitOk b z))]) ∧ Bel w.heap.size w w' := by
 obtain ⟨v1, v3, v4, v5, v6, v7, v8, v9, hcs, hBw, r1, r3, r4, r5, r6, r7, r8, r9⟩ := (show Rep.rep Φ b cs from hB)
 subst hcs
 have hpm : b.Places.length * 152 ≤ 140737488355328 := r3.max
 obtain ⟨tv1, tv2, tv3, tv4, tv5, tv6, hzcs, hzw, tr1, tr2, tr3, tr4, tr5, tr6⟩ := (show Rep.rep Φ z zcs from tH)
 subst hzcs
 have ztm : z.Own.length * 24 ≤ 140737488355328 := tr1.max
 have zqm : z.Queue.length * 40 ≤ 140737488355328 := tr3.max
 have zgm : z.Gates.length * 24 ≤ 140737488355328 := tr4.max
 refine calls_of_AW (args := [.agg (cl31 b v1 v3 v4 v5 v6 v7 v8 v9).toArray, .agg (cl70 z tv1 tv2 tv3 tv4 tv5 tv6).toArray]) Try.func91 rfl (Nat.le_of_ble_eq_true rfl) (St ⟨w, Φ, []⟩ Φ []) (StP.init w Φ hΦ []) ?_
 show AW Try.prog 76 [] _ _ _ [(0, .agg (cl31 b v1 v3 v4 v5 v6 v7 v8 v9).toArray), (1, .agg (cl70 z tv1 tv2 tv3 tv4 tv5 tv6).toArray)] _
 have hnl : b.Name.data.toList.length ≤ 9223372036854775807 := hBw.1
 have hom : b.Owners.length * 16 ≤ 140737488355328 := r1.max
 have hlm : b.Links.length * 200 ≤ 140737488355328 := r4.max
 have htm : b.Towns.length * 64 ≤ 140737488355328 := r5.max
 have hgm_ : b.Gauges.length * 48 ≤ 140737488355328 := r6.max
 have hrm : b.Roads.length * 64 ≤ 140737488355328 := r7.max
 have hsm : b.Shelters.length * 24 ≤ 140737488355328 := r8.max
 have hom2 : b.Room.length * 8 ≤ 140737488355328 := r9.max
 refine g2 ?_
 refine RW.bxA rfl rfl fun b1 => ?_
 refine RW.bxA rfl rfl fun b2 => ?_
 refine g19 ?_
 refine AW.loop (fun s J m => ∃ (k : Nat), ∃ (u : Int), s = [(2, pV b1 0), (3, pV b2 0), (13, tv1), (14, iV (z.Own.length : Int)), (6, iV u), (15, iV (k : Int))] ∧ J = St ⟨w, Φ, []⟩ Φ [.blk b2 70 (cl70 z tv1 tv2 tv3 tv4 tv5 tv6), .blk b1 31 (cl31 b v1 v3 v4 v5 v6 v7 v8 v9)] ∧ m = z.Own.length - k ∧ (k ≤ z.Own.length) ∧ (u = Ft.litTo z.Own k) ∧ (0 ≤ u ∧ u ≤ 1125899906842624) ∧ (∀ j, j < k → poolB (z.Own.getD j []) (b.Owners.length : Int) = true ∧ Ft.litTo z.Own (j + 1) ≤ 1125899906842624)) (s0 := _) (J1 := _) (m0 := _) ⟨0, 0, rfl, rfl, rfl, (by omega), rfl, (by omega), (fun j hj => absurd hj (by omega))⟩ ⟨rfl, rfl, rfl, rfl, rfl, rfl, trivial⟩ (fun _ h => h) ?_
 rintro _ _ _ _ ⟨k, u, rfl, rfl, rfl, hk, hu, hub, hall⟩
 refine g6 ?_
 refine AW.cond rfl (fun hc1 => ?_) fun hc1 => ?_
 ·
  simp [-List.getD_eq_getElem?_getD, -Array.length_toList] at hc1
  refine g6 ?_
  refine RW.q (v := .pointer (some (Value.at tv1 (k * 1)))) rfl (q_indexAddr rfl rfl tr1.sl uT38 sz29 (by omega) (by omega) rfl) ?_
  obtain ⟨sv1, hsv1, hpc1⟩ := tr1.sub (k := k) (by omega)
  refine RW.q (v := sv1) rfl (q_load rfl uT29 rfl (Cell.phi hpc1)) ?_
  refine g10 ?_
  refine RW.q (v := .bool (poolB (z.Own.getD k []) (b.Owners.length : Int))) rfl (q_call (args := #[sv1, iV (b.Owners.length : Int)]) own103 rfl rfl (fun w1 hw1 => pRight_c w1 (Go.K.hp w1) (Hp.le_refl _) (hsv1.mono hw1.phi) (n := (b.Owners.length : Int)))) ?_
  refine g3 ?_
  refine AW.cond rfl (fun hc2 => ?_) fun hc2 => ?_
  ·
   refine g13 ?_
   refine fin_out2 (v := iV 0) (u := .bool false) rfl rfl rfl rfl (fun w' hw => ?_)
   refine ⟨?_, hw.below rfl⟩
   have hn : ¬ LitOk b z := fun h9 => by have h8 := (h9.1 k (by omega)).1; rw [h8] at hc2; cases hc2
   rw [if_neg hn, decide_eq_false hn]
  ·
   refine g3 ?_
   have hpt := Ft.pool_tot (pool_f (show poolB (z.Own.getD k []) (b.Owners.length : Int) = true by simpa using hc2))
   have hl1 : Ft.litTo z.Own (k + 1) = u + Ft.tot (z.Own.getD k []) := by rw [hu]; rfl
   refine g3 ?_
   refine RW.q (v := iV (Ft.tot (z.Own.getD k []))) rfl (q_call (args := #[sv1]) own64 rfl rfl (fun w1 hw1 => Total_c w1 (Go.K.hp w1) (Hp.le_refl _) (hsv1.mono hw1.phi))) ?_
   refine g10 ?_
   refine AW.cond rfl (fun hc3 => ?_) fun hc3 => ?_
   ·
    simp [-List.getD_eq_getElem?_getD, -Array.length_toList] at hc3
    refine g12 ?_
    refine fin_out2 (v := iV 0) (u := .bool false) rfl rfl rfl rfl (fun w' hw => ?_)
    refine ⟨?_, hw.below rfl⟩
    have hn : ¬ LitOk b z := fun h9 => by have h8 := (h9.1 k (by omega)).2; omega
    rw [if_neg hn, decide_eq_false hn]
   ·
    simp [-List.getD_eq_getElem?_getD, -Array.length_toList] at hc3
    refine g7 ?_
    exact Post.back (s' := _) (J' := _) (m' := _) (by omega) ⟨k + 1, _, rfl, rfl, rfl, (by omega), hl1.symm, (by omega), (Fu.lt_succ hall ⟨by simpa using hc2, by omega⟩)⟩ ⟨rfl, rfl, rfl, rfl, rfl, rfl, trivial⟩ (fun _ h => h)
 ·
  simp [-List.getD_eq_getElem?_getD, -Array.length_toList] at hc1
  refine AW.exit (Post.then_x (Post.then_x (Post.blk_hit (Post.then_n ?_))))
  refine AW.seq (AW.seq (AW.region (RW.q (v := pV b2 3) rfl (q_fieldAddr rfl uT70 rfl sz67 rfl) (RW.q (v := tv3) rfl (q_load rfl uT67 rfl (Cell.blk 0 rfl rfl)) (RW.q (v := iV (z.Queue.length : Int)) rfl (q_len_sl rfl tr3.sl uT67) (RW.q (v := iV 0) rfl (q_move rfl) (RW.nil (Post.then_n (AW.block ?_)))))))))
  have hke : k = z.Own.length := by omega
  have halE : ∀ j, j < z.Own.length → poolB (z.Own.getD j []) (b.Owners.length : Int) = true ∧ Ft.litTo z.Own (j + 1) ≤ 1125899906842624 := fun j hj => hall j (by omega)
  refine AW.loop (fun s J m => ∃ (k : Nat), ∃ (v : Int), s = [(2, pV b1 0), (3, pV b2 0), (33, tv3), (34, iV (z.Queue.length : Int)), (6, iV v), (35, iV (k : Int))] ∧ J = St ⟨w, Φ, []⟩ Φ [.blk b2 70 (cl70 z tv1 tv2 tv3 tv4 tv5 tv6), .blk b1 31 (cl31 b v1 v3 v4 v5 v6 v7 v8 v9)] ∧ m = z.Queue.length - k ∧ (k ≤ z.Queue.length) ∧ (v = Ft.litTo z.Own z.Own.length + Ft.quTo z.Queue k) ∧ (0 ≤ v ∧ v ≤ 1125899906842624) ∧ (∀ j, j < k → quBad b z j = false ∧ 0 < Ft.tot (z.Queue.getD j default).Part ∧ Ft.litTo z.Own z.Own.length + Ft.quTo z.Queue (j + 1) ≤ 1125899906842624)) (s0 := _) (J1 := _) (m0 := _) ⟨0, u, rfl, rfl, rfl, (by omega), (by rw [hu, show k = z.Own.length by omega]; show _ = _ + (0 : Int); omega), (by omega), (fun j hj => absurd hj (by omega))⟩ ⟨rfl, rfl, rfl, rfl, rfl, rfl, trivial⟩ (fun _ h => h) ?_
  rintro _ _ _ _ ⟨k, v, rfl, rfl, rfl, hk, hv, hvb, hal2⟩
  refine g6 ?_
  refine AW.cond rfl (fun hc4 => ?_) fun hc4 => ?_
  ·
   simp [-List.getD_eq_getElem?_getD, -Array.length_toList] at hc4
   refine g5 ?_
   refine AW.region (RW.q (v := .pointer (some (Value.at tv3 (k * 3)))) rfl (q_indexAddr rfl rfl tr3.sl uT67 sz152 (by omega) (by omega) rfl) ?_)
   obtain ⟨cv1, hcr1, hcc1⟩ := RepSl.whole (k := k) tr3 (by omega)
   obtain ⟨sv2, hcE1, hcw1, hsv2⟩ := (show Rep.rep _ _ _ from hcr1)
   subst hcE1
   refine RW.q (v := .agg #[iV ((z.Queue.getD k default).At), iV ((z.Queue.getD k default).To), sv2]) rfl (q_loadAgg rfl uT152 rfl sz152 rfl (Cells.phiK hcc1)) (RW.eff (fun b3 : Nat => pV b3 0) (fun b3 => St ⟨w, Φ, []⟩ Φ [.blk b3 152 [iV 0, iV 0, nS], .blk b2 70 (cl70 z tv1 tv2 tv3 tv4 tv5 tv6), .blk b1 31 (cl31 b v1 v3 v4 v5 v6 v7 v8 v9)]) rfl (e_alloc zero152) ?_)
   intro b3
   refine RW.effn (J' := St ⟨w, Φ, []⟩ Φ [.blk b3 152 [iV ((z.Queue.getD k default).At), iV ((z.Queue.getD k default).To), sv2], .blk b2 70 (cl70 z tv1 tv2 tv3 tv4 tv5 tv6), .blk b1 31 (cl31 b v1 v3 v4 v5 v6 v7 v8 v9)]) (e_store (v := .agg #[iV ((z.Queue.getD k default).At), iV ((z.Queue.getD k default).To), sv2]) 0 rfl rfl rfl sz152 rfl (List.all_eq_true.2 (fun u hu => Rep.one (show Rep.rep _ _ _ from hcr1) u hu)) rfl rfl rfl) (RW.nil (Post.then_n (AW.seq (AW.seq (AW.region (RW.q (v := pV b3 0) rfl (q_fieldAddr rfl uT152 rfl sz3 rfl) (RW.q (v := iV ((z.Queue.getD k default).At)) rfl (q_load rfl uT3 rfl (Cell.blk 0 rfl rfl)) (RW.q (v := pV b2 0) rfl (q_fieldAddr rfl uT70 rfl sz3 rfl) (RW.q (v := iV z.Hour) rfl (q_load rfl uT3 rfl (Cell.blk 1 rfl rfl)) ?_)))))))))
   refine RW.q (v := .bool (decide ((z.Queue.getD k default).At < z.Hour))) rfl (q_lss rfl rfl) (RW.q (v := .bool (decide ((z.Queue.getD k default).At < z.Hour))) rfl (q_move rfl) (RW.g (b := (decide ((z.Queue.getD k default).At < z.Hour))) (v := pV b3 1) rfl rfl rfl (fun h => q_fieldAddr rfl uT152 rfl sz3 rfl) (RW.g (b := (decide ((z.Queue.getD k default).At < z.Hour))) (v := iV ((z.Queue.getD k default).To)) rfl rfl rfl (fun h => q_load (gv_pos h) uT3 rfl (Cell.blk 0 rfl rfl)) (RW.g (b := (decide ((z.Queue.getD k default).At < z.Hour))) (v := pV b1 3) rfl rfl rfl (fun h => q_fieldAddr rfl uT31 rfl sz23 rfl) (RW.g (b := (decide ((z.Queue.getD k default).At < z.Hour))) (v := v3) rfl rfl rfl (fun h => q_load (gv_pos h) uT23 rfl (Cell.blk 2 rfl rfl)) (RW.g (b := (decide ((z.Queue.getD k default).At < z.Hour))) (v := iV (b.Places.length : Int)) rfl rfl rfl (fun h => q_len_sl (gv_pos h) r3.sl uT23) (RW.g (b := (decide ((z.Queue.getD k default).At < z.Hour))) (v := .bool (decide (0 ≤ (z.Queue.getD k default).To ∧ (z.Queue.getD k default).To < (b.Places.length : Int)))) rfl rfl rfl (fun h => q_call (args := #[iV ((z.Queue.getD k default).To), iV (b.Places.length : Int)]) own104 rfl (args2 (gv_pos h) (gv_pos h)) (fun w1 hw1 => stIdx_c w1 (Go.K.hp w1) (Hp.le_refl _))) (RW.g (b := (decide ((z.Queue.getD k default).At < z.Hour))) (v := .bool (!(decide (0 ≤ (z.Queue.getD k default).To ∧ (z.Queue.getD k default).To < (b.Places.length : Int))))) rfl rfl rfl (fun h => q_not (gv_pos h)) ?_))))))))
   obtain ⟨qb1, hqb1⟩ : ∃ qz : Bool, ((decide ((z.Queue.getD k default).At < z.Hour)) || (!(decide (0 ≤ (z.Queue.getD k default).To ∧ (z.Queue.getD k default).To < (b.Places.length : Int))))) = qz := ⟨_, rfl⟩
   refine RW.q (v := .bool qb1) rfl (q_as (v := .bool ((decide ((z.Queue.getD k default).At < z.Hour)) || (!(decide (0 ≤ (z.Queue.getD k default).To ∧ (z.Queue.getD k default).To < (b.Places.length : Int)))))) (q_pick rfl (fun hp => pkOrT hp) (fun hp => (gv_pos hp).trans (pkOrF hp))) (congrArg Value.bool hqb1)) (RW.q (v := .bool qb1) rfl (q_move rfl) (RW.g (b := qb1) (v := pV b3 2) rfl rfl rfl (fun h => q_fieldAddr rfl uT152 rfl sz29 rfl) (RW.g (b := qb1) (v := sv2) rfl rfl rfl (fun h => q_load (gv_pos h) uT29 rfl (Cell.blk 0 rfl rfl)) (RW.g (b := qb1) (v := pV b1 1) rfl rfl rfl (fun h => q_fieldAddr rfl uT31 rfl sz22 rfl) (RW.g (b := qb1) (v := v1) rfl rfl rfl (fun h => q_load (gv_pos h) uT22 rfl (Cell.blk 2 rfl rfl)) (RW.g (b := qb1) (v := iV (b.Owners.length : Int)) rfl rfl rfl (fun h => q_len_sl (gv_pos h) r1.sl uT22) (RW.g (b := qb1) (v := .bool (poolB ((z.Queue.getD k default).Part) (b.Owners.length : Int))) rfl rfl rfl (fun h => q_call (args := #[sv2, iV (b.Owners.length : Int)]) own103 rfl (args2 (gv_pos h) (gv_pos h)) (fun w1 hw1 => pRight_c w1 (Go.K.hp w1) (Hp.le_refl _) (hsv2.mono hw1.phi) (n := (b.Owners.length : Int)))) ?_)))))))
   refine g1 ?_
   obtain ⟨qb2, hqb2⟩ : ∃ qz : Bool, (qb1 || (!(poolB ((z.Queue.getD k default).Part) (b.Owners.length : Int)))) = qz := ⟨_, rfl⟩
   refine RW.q (v := .bool qb2) rfl (q_as (v := .bool (qb1 || (!(poolB ((z.Queue.getD k default).Part) (b.Owners.length : Int))))) (q_pick rfl (fun hp => pkOrT hp) (fun hp => (gv_pos hp).trans (pkOrF hp))) (congrArg Value.bool hqb2)) ?_
   subst hqb2 hqb1
   refine g2 ?_
   refine AW.cond rfl (fun hc5 => ?_) fun hc5 => ?_
   ·
    refine g13 ?_
    refine fin_out2 (v := iV 0) (u := .bool false) rfl rfl rfl rfl (fun w' hw => ?_)
    refine ⟨?_, hw.below rfl⟩
    have hn : ¬ LitOk b z := fun h9 => by have h8 := (h9.2 k (by omega)).1; exact Bool.noConfusion (h8.symm.trans hc5)
    rw [if_neg hn, decide_eq_false hn]
   ·
    refine g3 ?_
    have hqb : quBad b z k = false := hc5
    have hpt := Ft.pool_tot (qu_f hqb)
    have hl1 : Ft.litTo z.Own z.Own.length + Ft.quTo z.Queue (k + 1) = v + Ft.tot (z.Queue.getD k default).Part := by rw [hv]; show _ + (Ft.quTo z.Queue k + _) = _; omega
    refine g3 ?_
    refine RW.q (v := iV (Ft.tot ((z.Queue.getD k default).Part))) rfl (q_call (args := #[sv2]) own64 rfl rfl (fun w1 hw1 => Total_c w1 (Go.K.hp w1) (Hp.le_refl _) (hsv2.mono hw1.phi))) ?_
    refine g18 ?_
    obtain ⟨qb3, hqb3⟩ : ∃ qz : Bool, ((decide (Ft.tot ((z.Queue.getD k default).Part) ≤ 0)) || (decide ((1125899906842624 : Int) < v + (Ft.tot ((z.Queue.getD k default).Part))))) = qz := ⟨_, rfl⟩
    refine RW.q (v := .bool qb3) rfl (q_as (v := .bool ((decide (Ft.tot ((z.Queue.getD k default).Part) ≤ 0)) || (decide ((1125899906842624 : Int) < v + (Ft.tot ((z.Queue.getD k default).Part)))))) (q_pick rfl (fun hp => pkOrT hp) (fun hp => (gv_pos hp).trans (pkOrF hp))) (congrArg Value.bool hqb3)) ?_
    subst hqb3
    refine g2 ?_
    refine AW.cond rfl (fun hc6 => ?_) fun hc6 => ?_
    ·
     simp [-List.getD_eq_getElem?_getD, -Array.length_toList] at hc6
     refine g12 ?_
     refine fin_out2 (v := iV 0) (u := .bool false) rfl rfl rfl rfl (fun w' hw => ?_)
     refine ⟨?_, hw.below rfl⟩
     have hn : ¬ LitOk b z := fun h9 => by have h8 := (h9.2 k (by omega)).2; omega
     rw [if_neg hn, decide_eq_false hn]
    ·
     simp [-List.getD_eq_getElem?_getD, -Array.length_toList] at hc6
     refine g7 ?_
     exact Post.back (s' := _) (J' := _) (m' := _) (by omega) ⟨k + 1, _, rfl, rfl, rfl, (by omega), hl1.symm, (by omega), (Fu.lt_succ hal2 ⟨hqb, by omega, by omega⟩)⟩ ⟨rfl, rfl, rfl, rfl, rfl, rfl, trivial⟩ (fun _ h => StP.drop h (by exact .cons _ (.cons_cons _ (.cons_cons _ (.slnil)))))
  ·
   simp [-List.getD_eq_getElem?_getD, -Array.length_toList] at hc4
   refine g13 ?_
   refine fin_out2 (v := iV v) (u := .bool true) rfl rfl rfl rfl (fun w' hw => ?_)
   refine ⟨?_, hw.below rfl⟩
   have hn : LitOk b z := ⟨halE, fun j hj => hal2 j (by omega)⟩
   rw [if_pos hn, decide_eq_true hn, hv, show k = z.Queue.length by omega]
end Go.Proofs.Ytblfeidlnhdekaa
