/- Walks (part WalkR), printed by walk2.py. Conditions: those of each theorem. -/
import Derived.Test.YtblfeidlnhdekaaXWalkQ
import Derived.Test.YtblfeidlnhdekaaXKeyFt
namespace Go.Proofs.Ytblfeidlnhdekaa
open Go Go.K Go.RowKit
set_option maxRecDepth 8000
set_option maxHeartbeats 1000000
attribute [local irreducible] AW RW DW Post Qt
theorem Or_c (w : World) (Φ : Hp) (hΦ : Hp.le Φ (hp w)) {xs : List Int} {v1 : Value} (h1 : RepSl Φ xs v1) :
  Calls Try.prog 105 #[v1] w fun e w' => e = .returned (iV (Ft.orL xs)) ∧ Bel w.heap.size w w' := by
 refine calls_of_AW (args := [v1]) Try.func105 rfl (Nat.le_of_ble_eq_true rfl) (St ⟨w, Φ, []⟩ Φ []) (StP.init w Φ hΦ []) ?_
 show AW Try.prog 18 [] _ _ _ [(0, v1)] _
 have hm1 : xs.length * 8 ≤ 140737488355328 := h1.max
 refine g19 ?_
 refine AW.loop (fun s J m => ∃ (k : Nat), s = [(3, iV 0), (6, v1), (7, iV (xs.length : Int)), (8, iV (k : Int))] ∧ J = St ⟨w, Φ, []⟩ Φ [] ∧ m = xs.length - k ∧ (k ≤ xs.length) ∧ (∀ j, j < k → xs.getD j 0 = 0)) (s0 := _) (J1 := _) (m0 := _) ⟨0, rfl, rfl, rfl, (by omega), (by omega)⟩ ⟨rfl, rfl, rfl, rfl, trivial⟩ (fun _ h => h) ?_
 rintro _ _ _ _ ⟨k, rfl, rfl, rfl, hk, hz⟩
 refine g6 ?_
 refine AW.cond rfl (fun hc1 => ?_) fun hc1 => ?_
 ·
  simp [-List.getD_eq_getElem?_getD] at hc1
  refine g6 ?_
  refine RW.q (v := .pointer (some (Value.at v1 (k * 1)))) rfl (q_indexAddr rfl rfl h1.sl uT29 sz3 (by omega) (by omega) rfl) (RW.q (v := iV (xs.getD k 0)) rfl (q_load rfl uT3 rfl (Cell.repInt h1 (by omega))) ?_)
  refine g10 ?_
  refine AW.cond rfl (fun hc2 => ?_) fun hc2 => ?_
  ·
   simp [-List.getD_eq_getElem?_getD] at hc2
   refine g12 ?_
   exact fin_val (v' := iV (xs.getD k 0)) rfl rfl rfl (by rw [Ft.orL_hit (by omega) hz hc2])
  ·
   simp [-List.getD_eq_getElem?_getD] at hc2
   refine g7 ?_
   exact Post.back (s' := _) (J' := _) (m' := _) (by omega) ⟨k + 1, rfl, rfl, rfl, (by omega), (Fu.lt_succ hz (by omega))⟩ ⟨rfl, rfl, rfl, rfl, trivial⟩ (fun _ h => h)
 ·
  simp [-List.getD_eq_getElem?_getD] at hc1
  refine g12 ?_
  exact fin_val (v' := iV 0) rfl rfl rfl (by rw [Ft.orL_miss (fun j hj => hz j (by omega))])
theorem cmp_rng (a b : Int) : -1 ≤ Fu.cmpI a b ∧ Fu.cmpI a b ≤ 1 := by unfold Fu.cmpI; split <;> (try split) <;> omega
theorem wfO (a b c d : Int) : ∀ x ∈ [Fu.cmpI a b, Fu.cmpI c d], I64 x := fun x hx => by
 simp only [List.mem_cons, List.not_mem_nil, or_false] at hx
 have h1 := cmp_rng a b; have h2 := cmp_rng c d
 unfold I64
 rcases hx with rfl | rfl <;> omega
theorem order_c (w : World) (Φ : Hp) (hΦ : Hp.le Φ (hp w)) {x y : Bt.Sum} :
  Calls Try.prog 94 #[.agg #[iV x.At, iV x.To, iV x.Vol.Lo, iV x.Vol.Hi], .agg #[iV y.At, iV y.To, iV y.Vol.Lo, iV y.Vol.Hi]] w fun e w' => e = .returned (iV (Ft.orL [Fu.cmpI x.At y.At, Fu.cmpI x.To y.To])) ∧ Bel w.heap.size w w' := by
 refine calls_of_AW (args := [.agg #[iV x.At, iV x.To, iV x.Vol.Lo, iV x.Vol.Hi], .agg #[iV y.At, iV y.To, iV y.Vol.Lo, iV y.Vol.Hi]]) Try.func94 rfl (Nat.le_of_ble_eq_true rfl) (St ⟨w, Φ, []⟩ Φ []) (StP.init w Φ hΦ []) ?_
 show AW Try.prog 17 [] _ _ _ [(0, .agg #[iV x.At, iV x.To, iV x.Vol.Lo, iV x.Vol.Hi]), (1, .agg #[iV y.At, iV y.To, iV y.Vol.Lo, iV y.Vol.Hi])] _
 refine g2 ?_
 refine RW.bxA rfl rfl fun b1 => ?_
 refine RW.bxA rfl rfl fun b2 => ?_
 refine g4 ?_
 refine AW.draw (J0 := St ⟨w, Φ, []⟩ Φ [.blk b2 93 [iV y.At, iV y.To, iV y.Vol.Lo, iV y.Vol.Hi], .blk b1 93 [iV x.At, iV x.To, iV x.Vol.Lo, iV x.Vol.Hi]]) [.q, .q, .q, .q, .q, .q, .q, .q, .q, .q, .e, .e, .q] [0, 1, 2, 3, 4, 5, 6, 7, 8, 9, 10, 11, 12] hmix (by kernel_rfl) ?_
 refine g4 ?_
 refine DW.q (v := iV (Fu.cmpI x.At y.At)) (fun _ h => h) rfl (q_call (args := #[iV x.At, iV y.At]) own39 rfl rfl (fun w1 hw1 => Compare_c w1 (Go.K.hp w1) (Hp.le_refl _))) ?_
 refine g4 ?_
 refine DW.q (v := iV (Fu.cmpI x.To y.To)) (fun _ h => h) rfl (q_call (args := #[iV x.To, iV y.To]) own39 rfl rfl (fun w1 hw1 => Compare_c w1 (Go.K.hp w1) (Hp.le_refl _))) (DW.eff (fun b3 : Nat => (.slice (some ⟨b3, 0, none⟩) 2 2)) (fun b3 => St ⟨w, Φ, []⟩ Φ [.row (.slice (some ⟨b3, 0, none⟩) 2 2) 3 1 2 ([iV (Fu.cmpI x.At y.At), iV (Fu.cmpI x.To y.To)]), .blk b2 93 [iV y.At, iV y.To, iV y.Vol.Lo, iV y.Vol.Hi], .blk b1 93 [iV x.At, iV x.To, iV x.Vol.Lo, iV x.Vol.Hi]]) (fun _ _ => (fun _ h => (StP.drop h (by exact .cons _ (.cons_cons _ (.cons_cons _ (.slnil))))))) rfl (e_buildSlice (vals := [(0, iV (Fu.cmpI x.At y.At)), (1, iV (Fu.cmpI x.To y.To))]) (cells := [iV (Fu.cmpI x.At y.At), iV (Fu.cmpI x.To y.To)]) uT29 inf3 rfl rfl rfl (by kernel_rfl) rfl) ?_)
 intro b3
 refine DW.qe (v := iV (Ft.orL ([Fu.cmpI x.At y.At, Fu.cmpI x.To y.To] : List Int))) (fun _ => (fun _ h => (StP.drop h (by exact .cons _ (.cons_cons _ (.cons_cons _ (.slnil))))))) rfl (q_call (args := #[(.slice (some ⟨b3, 0, none⟩) 2 2)]) own105 rfl rfl (fun w1 hw1 => Or_c w1 (Go.K.hp w1) (Hp.le_refl _) (RowS.ints (xs := [Fu.cmpI x.At y.At, Fu.cmpI x.To y.To]) (show RowS (Go.K.hp w1) (.slice (some ⟨b3, 0, none⟩) 2 2) 3 1 (2) ([iV (Fu.cmpI x.At y.At), iV (Fu.cmpI x.To y.To)]) from hw1.sat _ (List.mem_of_getElem? (i := 0) rfl)) (by decide) (wfO _ _ _ _)))) (DW.q (v := iV (Ft.orL ([Fu.cmpI x.At y.At, Fu.cmpI x.To y.To] : List Int))) (fun _ h => (StP.drop h (by exact .cons _ (.cons_cons _ (.cons_cons _ (.slnil)))))) rfl (q_assign rfl) ?_)
 refine g3 ?_
 exact fin_val (v' := iV (Ft.orL ([Fu.cmpI x.At y.At, Fu.cmpI x.To y.To] : List Int))) rfl rfl rfl (rfl)
theorem spOf_c (w : World) (Φ : Hp) (hΦ : Hp.le Φ (hp w)) {n : Int} :
  Calls Try.prog 106 #[iV n] w fun e w' => e = .returned (.agg #[iV n, iV n]) ∧ Bel w.heap.size w w' := by
 refine calls_of_AW (args := [iV n]) Try.func106 rfl (Nat.le_of_ble_eq_true rfl) (St ⟨w, Φ, []⟩ Φ []) (StP.init w Φ hΦ []) ?_
 show AW Try.prog 6 [] _ _ _ [(0, iV n)] _
 refine g2 ?_
 refine RW.alc rfl fun b1 => ?_
 refine g6 ?_
 refine RW.q (v := .agg #[iV n, iV n]) rfl (q_build (vals := [(0, iV n), (1, iV n)]) zero42 uT42 places42 rfl rfl) (RW.effn (J' := St ⟨w, Φ, []⟩ Φ [.blk b1 42 [iV n, iV n]]) (e_store (v := .agg #[iV n, iV n]) 0 rfl rfl rfl sz42 rfl rfl rfl rfl rfl) ?_)
 refine g3 ?_
 refine fin_cell1 (cs := [iV n, iV n]) rfl rfl rfl uT42 rfl sz42 rfl (Cells.blk 0 rfl) (fun w' hw => ?_)
 refine ⟨?_, hw.below rfl⟩
 rfl
def bitI (t : Bool) : Int := if t = true then 1 else 0
theorem bit_c (w : World) (Φ : Hp) (hΦ : Hp.le Φ (hp w)) {t : Bool} :
  Calls Try.prog 65 #[.bool t] w fun e w' => e = .returned (iV (bitI t)) ∧ Bel w.heap.size w w' := by
 refine calls_of_AW (args := [.bool t]) Try.func65 rfl (Nat.le_of_ble_eq_true rfl) (St ⟨w, Φ, []⟩ Φ []) (StP.init w Φ hΦ []) ?_
 show AW Try.prog 4 [] _ _ _ [(0, .bool t)] _
 refine g11 ?_
 refine AW.cond rfl (fun hc1 => ?_) fun hc1 => ?_
 ·
  refine g7 ?_
  exact fin_val (v' := iV 1) rfl rfl rfl (by rw [hc1]; rfl)
 ·
  refine g8 ?_
  exact fin_val (v' := iV 0) rfl rfl rfl (by rw [hc1]; rfl)
def rlinkB (l : Bt.Link) (x : Bt.Known) : Bool := !((((!(decide (x.Pos.Lo ≤ x.Pos.Hi))) || (!(decide (0 ≤ x.Pos.Lo ∧ x.Pos.Hi ≤ l.Positions)))) || (!(decide (0 ≤ x.Target) && decide (x.Target ≤ l.Positions))))) && (if (((!decide (l.Kind = 5)) && (!decide (l.Kind = 3)))) = true then decide (x.Open.Lo = 0) && decide (x.Open.Hi = 0) else (((decide (x.Open.Lo = 0) && decide (x.Open.Hi = 0)) || (decide (x.Open.Lo = 1) && decide (x.Open.Hi = 1))) || (decide (x.Open.Lo = min 0 1) && decide (x.Open.Hi = max 0 1))))
theorem rLink_c (w : World) (Φ : Hp) (hΦ : Hp.le Φ (hp w)) {l : Bt.Link} {cs : List Value} (hL : RepV Φ l cs) {x : Bt.Known} :
  Calls Try.prog 95 #[.agg cs.toArray, .agg #[iV x.Pos.Lo, iV x.Pos.Hi, iV x.Target, iV x.Open.Lo, iV x.Open.Hi]] w fun e w' => e = .returned (.bool (rlinkB l x)) ∧ Bel w.heap.size w w' := by
 obtain ⟨v4, v5, v6, hcs, hLw, r4, r5, r6⟩ := (show Rep.rep Φ l cs from hL)
 subst hcs
 refine calls_of_AW (args := [.agg (cl132 l v4 v5 v6).toArray, .agg #[iV x.Pos.Lo, iV x.Pos.Hi, iV x.Target, iV x.Open.Lo, iV x.Open.Hi]]) Try.func95 rfl (Nat.le_of_ble_eq_true rfl) (St ⟨w, Φ, []⟩ Φ []) (StP.init w Φ hΦ []) ?_
 show AW Try.prog 61 [] _ _ _ [(0, .agg (cl132 l v4 v5 v6).toArray), (1, .agg #[iV x.Pos.Lo, iV x.Pos.Hi, iV x.Target, iV x.Open.Lo, iV x.Open.Hi])] _
 refine g2 ?_
 refine RW.bxA rfl rfl fun b1 => ?_
 refine RW.bxA rfl rfl fun b2 => ?_
 refine g7 ?_
 refine RW.q (v := .agg #[iV 0, iV l.Positions]) rfl (q_build (vals := [(0, iV 0), (1, iV l.Positions)]) zero42 uT42 places42 rfl rfl) ?_
 refine RW.alc rfl fun b3 => ?_
 refine RW.effn (J' := St ⟨w, Φ, []⟩ Φ [.blk b3 42 [iV 0, iV l.Positions], .blk b2 79 [iV x.Pos.Lo, iV x.Pos.Hi, iV x.Target, iV x.Open.Lo, iV x.Open.Hi], .blk b1 132 (cl132 l v4 v5 v6)]) (e_store (v := .agg #[iV 0, iV l.Positions]) 0 rfl rfl rfl sz42 rfl rfl rfl rfl rfl) ?_
 refine g6 ?_
 refine RW.q (v := .agg #[iV x.Pos.Lo, iV x.Pos.Hi]) rfl (q_loadAgg rfl uT42 rfl sz42 rfl (Cells.blkP (off := 0) 1 rfl (fun j u hu => (by rcases j with _ | (_ | _) <;> first | exact hu | cases hu)))) (RW.q (v := .bool (decide (x.Pos.Lo ≤ x.Pos.Hi))) rfl (q_call (args := #[.agg #[iV x.Pos.Lo, iV x.Pos.Hi]]) own70 rfl rfl (fun w1 hw1 => sRight_c w1 (Go.K.hp w1) (Hp.le_refl _))) ?_)
 refine g3 ?_
 refine RW.g (b := (!(decide (x.Pos.Lo ≤ x.Pos.Hi)))) (v := .agg #[iV x.Pos.Lo, iV x.Pos.Hi]) rfl rfl rfl (fun h => q_loadAgg (gv_pos h) uT42 rfl sz42 rfl (Cells.blkP (off := 0) 1 rfl (fun j u hu => (by rcases j with _ | (_ | _) <;> first | exact hu | cases hu)))) ?_
 refine g1 ?_
 refine RW.g (b := (!(decide (x.Pos.Lo ≤ x.Pos.Hi)))) (v := .bool (decide (0 ≤ x.Pos.Lo ∧ x.Pos.Hi ≤ l.Positions))) rfl rfl rfl (fun h => q_call (args := #[.agg #[iV x.Pos.Lo, iV x.Pos.Hi], .agg #[iV 0, iV l.Positions]]) own22 rfl (args2 (gv_pos h) (gv_pos h)) (fun w1 hw1 => sWithin_c w1 (Go.K.hp w1) (Hp.le_refl _))) ?_
 refine g1 ?_
 obtain ⟨qb1, hqb1⟩ : ∃ qz : Bool, ((!(decide (x.Pos.Lo ≤ x.Pos.Hi))) || (!(decide (0 ≤ x.Pos.Lo ∧ x.Pos.Hi ≤ l.Positions)))) = qz := ⟨_, rfl⟩
 refine RW.q (v := .bool qb1) rfl (q_as (v := .bool ((!(decide (x.Pos.Lo ≤ x.Pos.Hi))) || (!(decide (0 ≤ x.Pos.Lo ∧ x.Pos.Hi ≤ l.Positions))))) (q_pick rfl (fun hp => pkOrT hp) (fun hp => (gv_pos hp).trans (pkOrF hp))) (congrArg Value.bool hqb1)) ?_
 refine g4 ?_
 refine RW.g (b := qb1) (v := .bool (decide (0 ≤ x.Target) && decide (x.Target ≤ l.Positions))) rfl rfl rfl (fun h => q_call (args := #[.agg #[iV 0, iV l.Positions], iV x.Target]) own21 rfl (args2 (gv_pos h) (gv_pos h)) (fun w1 hw1 => sHas_c w1 (Go.K.hp w1) (Hp.le_refl _))) ?_
 refine g1 ?_
 obtain ⟨qb2, hqb2⟩ : ∃ qz : Bool, (qb1 || (!(decide (0 ≤ x.Target) && decide (x.Target ≤ l.Positions)))) = qz := ⟨_, rfl⟩
 refine RW.q (v := .bool qb2) rfl (q_as (v := .bool (qb1 || (!(decide (0 ≤ x.Target) && decide (x.Target ≤ l.Positions))))) (q_pick rfl (fun hp => pkOrT hp) (fun hp => (gv_pos hp).trans (pkOrF hp))) (congrArg Value.bool hqb2)) ?_
 subst hqb2 hqb1
 refine g2 ?_
 refine AW.cond rfl (fun hc1 => ?_) fun hc1 => ?_
 ·
  refine g7 ?_
  exact fin_val (v' := .bool false) rfl rfl rfl (by unfold rlinkB; rw [hc1]; rfl)
 ·
  refine g4 ?_
  refine RW.q (v := .agg #[iV 0, iV 0]) rfl (q_call (args := #[iV 0]) own106 rfl rfl (fun w1 hw1 => spOf_c w1 (Go.K.hp w1) (Hp.le_refl _) (n := 0))) (RW.q (v := .agg #[iV 1, iV 1]) rfl (q_call (args := #[iV 1]) own106 rfl rfl (fun w1 hw1 => spOf_c w1 (Go.K.hp w1) (Hp.le_refl _) (n := 1))) ?_)
  refine RW.alc rfl fun b4 => ?_
  refine RW.alc rfl fun b5 => ?_
  refine RW.effn (J' := St ⟨w, Φ, []⟩ Φ [.blk b5 42 [iV 0, iV 0], .blk b4 42 [iV 0, iV 0], .blk b3 42 [iV 0, iV l.Positions], .blk b2 79 [iV x.Pos.Lo, iV x.Pos.Hi, iV x.Target, iV x.Open.Lo, iV x.Open.Hi], .blk b1 132 (cl132 l v4 v5 v6)]) (e_store (v := .agg #[iV 0, iV 0]) 1 rfl rfl rfl sz42 rfl rfl rfl rfl rfl) (RW.effn (J' := St ⟨w, Φ, []⟩ Φ [.blk b5 42 [iV 1, iV 1], .blk b4 42 [iV 0, iV 0], .blk b3 42 [iV 0, iV l.Positions], .blk b2 79 [iV x.Pos.Lo, iV x.Pos.Hi, iV x.Target, iV x.Open.Lo, iV x.Open.Hi], .blk b1 132 (cl132 l v4 v5 v6)]) (e_store (v := .agg #[iV 1, iV 1]) 0 rfl rfl rfl sz42 rfl rfl rfl rfl rfl) ?_)
  refine g12 ?_
  obtain ⟨qb3, hqb3⟩ : ∃ qz : Bool, ((!decide (l.Kind = 5)) && (!decide (l.Kind = 3))) = qz := ⟨_, rfl⟩
  refine RW.q (v := .bool qb3) rfl (q_as (v := .bool ((!decide (l.Kind = 5)) && (!decide (l.Kind = 3)))) (q_pick rfl (fun hp => (gv_pos hp).trans (pkAndT hp)) (fun hp => pkAndF hp)) (congrArg Value.bool hqb3)) ?_
  subst hqb3
  refine g2 ?_
  refine AW.cond rfl (fun hc2 => ?_) fun hc2 => ?_
  ·
   refine g3 ?_
   refine RW.q (v := .agg #[iV x.Open.Lo, iV x.Open.Hi]) rfl (q_loadAgg rfl uT42 rfl sz42 rfl (Cells.blkP (off := 3) 3 rfl (fun j u hu => (by rcases j with _ | (_ | _) <;> first | exact hu | cases hu)))) ?_
   refine g1 ?_
   refine RW.q (v := .bool (decide (x.Open.Lo = 0) && decide (x.Open.Hi = 0))) rfl (q_eqlS rfl rfl (eqS42 _ _ _ _) eqG42) ?_
   refine g5 ?_
   exact fin_val (v' := .bool (decide (x.Open.Lo = 0) && decide (x.Open.Hi = 0))) rfl rfl rfl (by unfold rlinkB; rw [hc1, if_pos hc2]; rfl)
  ·
   refine g3 ?_
   refine AW.draw (J0 := St ⟨w, Φ, []⟩ Φ [.blk b5 42 [iV 1, iV 1], .blk b4 42 [iV 0, iV 0], .blk b3 42 [iV 0, iV l.Positions], .blk b2 79 [iV x.Pos.Lo, iV x.Pos.Hi, iV x.Target, iV x.Open.Lo, iV x.Open.Hi], .blk b1 132 (cl132 l v4 v5 v6)]) [.q, .q, .q, .q, .q, .q, .q, .q, .q, .q, .q, .q, .q, .q, .q, .q, .q, .q, .q] [0, 1, 2, 3, 4, 5, 6, 7, 8, 9, 10, 11, 12, 13, 14, 15, 16, 17, 18] hmix (by kernel_rfl) ?_
   refine g1 ?_
   refine DW.q (v := .agg #[iV x.Open.Lo, iV x.Open.Hi]) (fun _ h => h) rfl (q_loadAgg rfl uT42 rfl sz42 rfl (Cells.blkP (off := 3) 3 rfl (fun j u hu => (by rcases j with _ | (_ | _) <;> first | exact hu | cases hu)))) ?_
   refine g1 ?_
   refine DW.q (v := .bool (decide (x.Open.Lo = 0) && decide (x.Open.Hi = 0))) (fun _ h => h) rfl (q_eqlS rfl rfl (eqS42 _ _ _ _) eqG42) ?_
   refine g2 ?_
   refine DW.g (b := (decide (x.Open.Lo = 0) && decide (x.Open.Hi = 0))) (v := .agg #[iV x.Open.Lo, iV x.Open.Hi]) (fun _ h => h) rfl rfl rfl (fun h => q_loadAgg (gv_pos h) uT42 rfl sz42 rfl (Cells.blkP (off := 3) 3 rfl (fun j u hu => (by rcases j with _ | (_ | _) <;> first | exact hu | cases hu)))) ?_
   refine g1 ?_
   refine DW.g (b := (decide (x.Open.Lo = 0) && decide (x.Open.Hi = 0))) (v := .bool (decide (x.Open.Lo = 1) && decide (x.Open.Hi = 1))) (fun _ h => h) rfl rfl rfl (fun h => q_eqlS (gv_pos h) (gv_pos h) (eqS42 _ _ _ _) eqG42) ?_
   obtain ⟨qb4, hqb4⟩ : ∃ qz : Bool, ((decide (x.Open.Lo = 0) && decide (x.Open.Hi = 0)) || (decide (x.Open.Lo = 1) && decide (x.Open.Hi = 1))) = qz := ⟨_, rfl⟩
   refine DW.q (v := .bool qb4) (fun _ h => h) rfl (q_as (v := .bool ((decide (x.Open.Lo = 0) && decide (x.Open.Hi = 0)) || (decide (x.Open.Lo = 1) && decide (x.Open.Hi = 1)))) (q_pick rfl (fun hp => pkOrT hp) (fun hp => (gv_pos hp).trans (pkOrF hp))) (congrArg Value.bool hqb4)) ?_
   refine g2 ?_
   refine DW.g (b := qb4) (v := .agg #[iV x.Open.Lo, iV x.Open.Hi]) (fun _ h => h) rfl rfl rfl (fun h => q_loadAgg (gv_pos h) uT42 rfl sz42 rfl (Cells.blkP (off := 3) 3 rfl (fun j u hu => (by rcases j with _ | (_ | _) <;> first | exact hu | cases hu)))) ?_
   refine g2 ?_
   refine DW.g (b := qb4) (v := .agg #[iV (min 0 1), iV (max 0 1)]) (fun _ h => h) rfl rfl rfl (fun h => q_call (args := #[.agg #[iV 0, iV 0], .agg #[iV 1, iV 1]]) own61 rfl (args2 (gv_pos h) (gv_pos h)) (fun w1 hw1 => sJoin_c w1 (Go.K.hp w1) (Hp.le_refl _))) (DW.g (b := qb4) (v := .bool (decide (x.Open.Lo = min 0 1) && decide (x.Open.Hi = max 0 1))) (fun _ h => h) rfl rfl rfl (fun h => q_eqlS (gv_pos h) (gv_pos h) (eqS42 _ _ _ _) eqG42) ?_)
   obtain ⟨qb5, hqb5⟩ : ∃ qz : Bool, (qb4 || (decide (x.Open.Lo = min 0 1) && decide (x.Open.Hi = max 0 1))) = qz := ⟨_, rfl⟩
   refine DW.q (v := .bool qb5) (fun _ h => h) rfl (q_as (v := .bool (qb4 || (decide (x.Open.Lo = min 0 1) && decide (x.Open.Hi = max 0 1)))) (q_pick rfl (fun hp => pkOrT hp) (fun hp => (gv_pos hp).trans (pkOrF hp))) (congrArg Value.bool hqb5)) ?_
   refine g1 ?_
   subst hqb5 hqb4
   refine g3 ?_
   exact fin_val (v' := .bool (((decide (x.Open.Lo = 0) && decide (x.Open.Hi = 0)) || (decide (x.Open.Lo = 1) && decide (x.Open.Hi = 1))) || (decide (x.Open.Lo = min 0 1) && decide (x.Open.Hi = max 0 1)))) rfl rfl rfl (by unfold rlinkB; rw [hc1, if_neg (by rw [hc2]; simp)]; rfl)
def hrBad0 (b : Bt.Basin) (y : Bt.Hull) : Bool := ((((decide (y.Hour < 0)) || (decide ((16777216 : Int) < y.Hour))) || (!decide ((y.Vol.length : Int) = (b.Places.length : Int)))) || (!decide ((y.Links.length : Int) = (b.Links.length : Int))))
def hvBad (b : Bt.Basin) (y : Bt.Hull) (k : Nat) : Bool := ((!(decide ((y.Vol.getD k default).Lo ≤ (y.Vol.getD k default).Hi))) || (!(decide (0 ≤ (y.Vol.getD k default).Lo ∧ (y.Vol.getD k default).Hi ≤ 1125899906842624))))
def hqBad (b : Bt.Basin) (y : Bt.Hull) (k : Nat) : Bool := (((((!(decide ((y.Queue.getD k default).Vol.Lo ≤ (y.Queue.getD k default).Vol.Hi))) || (!(decide (0 ≤ (y.Queue.getD k default).Vol.Lo ∧ (y.Queue.getD k default).Vol.Hi ≤ 1125899906842624)))) || (decide ((y.Queue.getD k default).Vol.Hi ≤ 0))) || (decide ((y.Queue.getD k default).At < y.Hour))) || (!(decide (0 ≤ (y.Queue.getD k default).To ∧ (y.Queue.getD k default).To < (b.Places.length : Int)))))
def hqBa2 (b : Bt.Basin) (y : Bt.Hull) (k : Nat) : Bool := ((decide ((0 : Int) < (k : Int))) && (decide ((0 : Int) ≤ Ft.orL [Fu.cmpI (y.Queue.getD (k - 1) default).At (y.Queue.getD k default).At, Fu.cmpI (y.Queue.getD (k - 1) default).To (y.Queue.getD k default).To])))
def hlBad (b : Bt.Basin) (y : Bt.Hull) (k : Nat) : Bool := !(rlinkB (b.Links.getD k default) (y.Links.getD k default))
def HRight (b : Bt.Basin) (y : Bt.Hull) : Prop := hrBad0 b y = false ∧ (∀ k, k < y.Vol.length → hvBad b y k = false) ∧ (∀ k, k < y.Queue.length → hqBad b y k = false ∧ hqBa2 b y k = false) ∧ ∀ k, k < y.Links.length → hlBad b y k = false
instance (b : Bt.Basin) (y : Bt.Hull) : Decidable (HRight b y) := inferInstanceAs (Decidable (hrBad0 b y = false ∧ (∀ k, k < y.Vol.length → hvBad b y k = false) ∧ (∀ k, k < y.Queue.length → hqBad b y k = false ∧ hqBa2 b y k = false) ∧ ∀ k, k < y.Links.length → hlBad b y k = false))
theorem hRight_c (w : World) (Φ : Hp) (hΦ : Hp.le Φ (hp w)) {b : Bt.Basin} {cs : List Value} (hB : RepV Φ b cs) {y : Bt.Hull} {ycs : List Value} (yH : RepV Φ y ycs) :
  Calls Try.prog 63 #[.agg cs.toArray, .agg ycs.toArray] w fun e w' => e = .returned (.bool (decide (HRight b y))) ∧ Bel w.heap.size w w' := by
 obtain ⟨v1, v3, v4, v5, v6, v7, v8, v9, hcs, hBw, r1, r3, r4, r5, r6, r7, r8, r9⟩ := (show Rep.rep Φ b cs from hB)
 subst hcs
 have hpm : b.Places.length * 152 ≤ 140737488355328 := r3.max
 obtain ⟨yv1, yv2, yv3, yhcs, yhw, yr1, yr2, yr3⟩ := (show Rep.rep Φ y ycs from yH)
 subst yhcs
 have ym1 : y.Vol.length * 16 ≤ 140737488355328 := yr1.max
 have ym2 : y.Queue.length * 32 ≤ 140737488355328 := yr2.max
 have ym3 : y.Links.length * 40 ≤ 140737488355328 := yr3.max
 refine calls_of_AW (args := [.agg (cl31 b v1 v3 v4 v5 v6 v7 v8 v9).toArray, .agg #[iV y.Hour, yv1, yv2, yv3]]) Try.func63 rfl (Nat.le_of_ble_eq_true rfl) (St ⟨w, Φ, []⟩ Φ []) (StP.init w Φ hΦ []) ?_
 show AW Try.prog 128 [] _ _ _ [(0, .agg (cl31 b v1 v3 v4 v5 v6 v7 v8 v9).toArray), (1, .agg #[iV y.Hour, yv1, yv2, yv3])] _
 have hnl : b.Name.data.toList.length ≤ 9223372036854775807 := hBw.1
 have hom : b.Owners.length * 16 ≤ 140737488355328 := r1.max
 have hlm : b.Links.length * 200 ≤ 140737488355328 := r4.max
 have htm : b.Towns.length * 64 ≤ 140737488355328 := r5.max
 have hgm_ : b.Gauges.length * 48 ≤ 140737488355328 := r6.max
 have hrm : b.Roads.length * 64 ≤ 140737488355328 := r7.max
 have hsm : b.Shelters.length * 24 ≤ 140737488355328 := r8.max
 have hom2 : b.Room.length * 8 ≤ 140737488355328 := r9.max
 refine g2 ?_
 refine RW.bxA rfl rfl fun b1 => ?_
 refine RW.bxA rfl rfl fun b2 => ?_
 refine g13 ?_
 obtain ⟨qb1, hqb1⟩ : ∃ qz : Bool, ((decide (y.Hour < 0)) || (decide ((16777216 : Int) < y.Hour))) = qz := ⟨_, rfl⟩
 refine RW.q (v := .bool qb1) rfl (q_as (v := .bool ((decide (y.Hour < 0)) || (decide ((16777216 : Int) < y.Hour)))) (q_pick rfl (fun hp => pkOrT hp) (fun hp => (gv_pos hp).trans (pkOrF hp))) (congrArg Value.bool hqb1)) (RW.q (v := .bool qb1) rfl (q_move rfl) (RW.g (b := qb1) (v := pV b2 1) rfl rfl rfl (fun h => q_fieldAddr rfl uT36 rfl sz32 rfl) (RW.g (b := qb1) (v := yv1) rfl rfl rfl (fun h => q_load (gv_pos h) uT32 rfl (Cell.blk 0 rfl rfl)) (RW.g (b := qb1) (v := iV (y.Vol.length : Int)) rfl rfl rfl (fun h => q_len_sl (gv_pos h) yr1.sl uT32) (RW.g (b := qb1) (v := pV b1 3) rfl rfl rfl (fun h => q_fieldAddr rfl uT31 rfl sz23 rfl) (RW.g (b := qb1) (v := v3) rfl rfl rfl (fun h => q_load (gv_pos h) uT23 rfl (Cell.blk 1 rfl rfl)) (RW.g (b := qb1) (v := iV (b.Places.length : Int)) rfl rfl rfl (fun h => q_len_sl (gv_pos h) r3.sl uT23) (RW.g (b := qb1) (v := .bool (!decide ((y.Vol.length : Int) = (b.Places.length : Int)))) rfl rfl rfl (fun h => q_neq (gv_pos h) (gv_pos h)) ?_))))))))
 obtain ⟨qb2, hqb2⟩ : ∃ qz : Bool, (qb1 || (!decide ((y.Vol.length : Int) = (b.Places.length : Int)))) = qz := ⟨_, rfl⟩
 refine RW.q (v := .bool qb2) rfl (q_as (v := .bool (qb1 || (!decide ((y.Vol.length : Int) = (b.Places.length : Int))))) (q_pick rfl (fun hp => pkOrT hp) (fun hp => (gv_pos hp).trans (pkOrF hp))) (congrArg Value.bool hqb2)) (RW.q (v := .bool qb2) rfl (q_move rfl) (RW.g (b := qb2) (v := pV b2 3) rfl rfl rfl (fun h => q_fieldAddr rfl uT36 rfl sz34 rfl) (RW.g (b := qb2) (v := yv3) rfl rfl rfl (fun h => q_load (gv_pos h) uT34 rfl (Cell.blk 0 rfl rfl)) (RW.g (b := qb2) (v := iV (y.Links.length : Int)) rfl rfl rfl (fun h => q_len_sl (gv_pos h) yr3.sl uT34) (RW.g (b := qb2) (v := pV b1 4) rfl rfl rfl (fun h => q_fieldAddr rfl uT31 rfl sz24 rfl) (RW.g (b := qb2) (v := v4) rfl rfl rfl (fun h => q_load (gv_pos h) uT24 rfl (Cell.blk 1 rfl rfl)) (RW.g (b := qb2) (v := iV (b.Links.length : Int)) rfl rfl rfl (fun h => q_len_sl (gv_pos h) r4.sl uT24) (RW.g (b := qb2) (v := .bool (!decide ((y.Links.length : Int) = (b.Links.length : Int)))) rfl rfl rfl (fun h => q_neq (gv_pos h) (gv_pos h)) ?_))))))))
 obtain ⟨qb3, hqb3⟩ : ∃ qz : Bool, (qb2 || (!decide ((y.Links.length : Int) = (b.Links.length : Int)))) = qz := ⟨_, rfl⟩
 refine RW.q (v := .bool qb3) rfl (q_as (v := .bool (qb2 || (!decide ((y.Links.length : Int) = (b.Links.length : Int))))) (q_pick rfl (fun hp => pkOrT hp) (fun hp => (gv_pos hp).trans (pkOrF hp))) (congrArg Value.bool hqb3)) ?_
 subst hqb3 hqb2 hqb1
 refine g2 ?_
 refine AW.cond rfl (fun hc1 => ?_) fun hc1 => ?_
 ·
  refine g7 ?_
  exact fin_val (v' := .bool false) rfl rfl rfl (congrArg Value.bool (decide_eq_false (fun h9 => Bool.noConfusion ((h9.1).symm.trans hc1))).symm)
 ·
  refine g3 ?_
  have hdb := hc1
  simp [-List.getD_eq_getElem?_getD, -Array.length_toList] at hdb
  refine g1 ?_
  refine RW.q (v := .agg #[iV 0, iV 1125899906842624]) rfl (q_build (vals := [(0, iV 0), (1, iV 1125899906842624)]) zero42 uT42 places42 rfl rfl) ?_
  refine RW.alc rfl fun b3 => ?_
  refine RW.effn (J' := St ⟨w, Φ, []⟩ Φ [.blk b3 42 [iV 0, iV 1125899906842624], .blk b2 36 [iV y.Hour, yv1, yv2, yv3], .blk b1 31 (cl31 b v1 v3 v4 v5 v6 v7 v8 v9)]) (e_store (v := .agg #[iV 0, iV 1125899906842624]) 0 rfl rfl rfl sz42 rfl rfl rfl rfl rfl) ?_
  refine g12 ?_
  refine AW.loop (fun s J m => ∃ (k : Nat), s = [(2, pV b1 0), (3, pV b2 0), (5, pV b3 0), (40, yv1), (41, iV (y.Vol.length : Int)), (42, iV (k : Int))] ∧ J = St ⟨w, Φ, []⟩ Φ [.blk b3 42 [iV 0, iV 1125899906842624], .blk b2 36 [iV y.Hour, yv1, yv2, yv3], .blk b1 31 (cl31 b v1 v3 v4 v5 v6 v7 v8 v9)] ∧ m = y.Vol.length - k ∧ (k ≤ y.Vol.length) ∧ (∀ j, j < k → hvBad b y j = false)) (s0 := _) (J1 := _) (m0 := _) ⟨0, rfl, rfl, rfl, (by omega), (fun j hj => absurd hj (by omega))⟩ ⟨rfl, rfl, rfl, rfl, rfl, rfl, trivial⟩ (fun _ h => h) ?_
  rintro _ _ _ _ ⟨k, rfl, rfl, rfl, hk, hall⟩
  refine g6 ?_
  refine AW.cond rfl (fun hc2 => ?_) fun hc2 => ?_
  ·
   simp [-List.getD_eq_getElem?_getD, -Array.length_toList] at hc2
   refine g6 ?_
   refine RW.q (v := .pointer (some (Value.at yv1 (k * 2)))) rfl (q_indexAddr rfl rfl yr1.sl uT32 sz42 (by omega) (by omega) rfl) (RW.q (v := .agg #[iV ((y.Vol.getD k default).Lo), iV ((y.Vol.getD k default).Hi)]) rfl (q_loadAgg rfl uT42 rfl sz42 rfl (Cells.repE yr1 (by omega) rfl)) ?_)
   refine RW.alc rfl fun b4 => ?_
   refine RW.effn (J' := St ⟨w, Φ, []⟩ Φ [.blk b4 42 [iV ((y.Vol.getD k default).Lo), iV ((y.Vol.getD k default).Hi)], .blk b3 42 [iV 0, iV 1125899906842624], .blk b2 36 [iV y.Hour, yv1, yv2, yv3], .blk b1 31 (cl31 b v1 v3 v4 v5 v6 v7 v8 v9)]) (e_store (v := .agg #[iV ((y.Vol.getD k default).Lo), iV ((y.Vol.getD k default).Hi)]) 0 rfl rfl rfl sz42 rfl rfl rfl rfl rfl) ?_
   refine g5 ?_
   refine RW.q (v := .bool (decide ((y.Vol.getD k default).Lo ≤ (y.Vol.getD k default).Hi))) rfl (q_call (args := #[.agg #[iV ((y.Vol.getD k default).Lo), iV ((y.Vol.getD k default).Hi)]]) own70 rfl rfl (fun w1 hw1 => sRight_c w1 (Go.K.hp w1) (Hp.le_refl _))) ?_
   refine g4 ?_
   refine RW.g (b := (!(decide ((y.Vol.getD k default).Lo ≤ (y.Vol.getD k default).Hi)))) (v := .bool (decide (0 ≤ (y.Vol.getD k default).Lo ∧ (y.Vol.getD k default).Hi ≤ 1125899906842624))) rfl rfl rfl (fun h => q_call (args := #[.agg #[iV ((y.Vol.getD k default).Lo), iV ((y.Vol.getD k default).Hi)], .agg #[iV 0, iV 1125899906842624]]) own22 rfl (args2 (gv_pos h) (gv_pos h)) (fun w1 hw1 => sWithin_c w1 (Go.K.hp w1) (Hp.le_refl _))) ?_
   refine g1 ?_
   obtain ⟨qb4, hqb4⟩ : ∃ qz : Bool, ((!(decide ((y.Vol.getD k default).Lo ≤ (y.Vol.getD k default).Hi))) || (!(decide (0 ≤ (y.Vol.getD k default).Lo ∧ (y.Vol.getD k default).Hi ≤ 1125899906842624)))) = qz := ⟨_, rfl⟩
   refine RW.q (v := .bool qb4) rfl (q_as (v := .bool ((!(decide ((y.Vol.getD k default).Lo ≤ (y.Vol.getD k default).Hi))) || (!(decide (0 ≤ (y.Vol.getD k default).Lo ∧ (y.Vol.getD k default).Hi ≤ 1125899906842624))))) (q_pick rfl (fun hp => pkOrT hp) (fun hp => (gv_pos hp).trans (pkOrF hp))) (congrArg Value.bool hqb4)) ?_
   subst hqb4
   refine g2 ?_
   refine AW.cond rfl (fun hc3 => ?_) fun hc3 => ?_
   ·
    refine g11 ?_
    exact fin_val (v' := .bool false) rfl rfl rfl (congrArg Value.bool (decide_eq_false (fun h9 => Bool.noConfusion ((h9.2.1 k (by omega)).symm.trans hc3))).symm)
   ·
    refine g7 ?_
    exact Post.back (s' := _) (J' := _) (m' := _) (by omega) ⟨k + 1, rfl, rfl, rfl, (by omega), (Fu.lt_succ hall hc3)⟩ ⟨rfl, rfl, rfl, rfl, rfl, rfl, trivial⟩ (fun _ h => StP.drop h (by exact .cons _ (.cons_cons _ (.cons_cons _ (.cons_cons _ (.slnil))))))
  ·
   simp [-List.getD_eq_getElem?_getD, -Array.length_toList] at hc2
   refine g15 ?_
   have halA : ∀ j, j < y.Vol.length → hvBad b y j = false := fun j hj => hall j (by omega)
   refine AW.loop (fun s J m => ∃ (k : Nat), s = [(2, pV b1 0), (3, pV b2 0), (5, pV b3 0), (57, yv2), (58, iV (y.Queue.length : Int)), (59, iV (k : Int))] ∧ J = St ⟨w, Φ, []⟩ Φ [.blk b3 42 [iV 0, iV 1125899906842624], .blk b2 36 [iV y.Hour, yv1, yv2, yv3], .blk b1 31 (cl31 b v1 v3 v4 v5 v6 v7 v8 v9)] ∧ m = y.Queue.length - k ∧ (k ≤ y.Queue.length) ∧ (∀ j, j < k → hqBad b y j = false ∧ hqBa2 b y j = false)) (s0 := _) (J1 := _) (m0 := _) ⟨0, rfl, rfl, rfl, (by omega), (fun j hj => absurd hj (by omega))⟩ ⟨rfl, rfl, rfl, rfl, rfl, rfl, trivial⟩ (fun _ h => h) ?_
   rintro _ _ _ _ ⟨k, rfl, rfl, rfl, hk, hal2⟩
   refine g6 ?_
   refine AW.cond rfl (fun hc4 => ?_) fun hc4 => ?_
   ·
    simp [-List.getD_eq_getElem?_getD, -Array.length_toList] at hc4
    refine g7 ?_
    refine RW.q (v := .pointer (some (Value.at yv2 (k * 4)))) rfl (q_indexAddr rfl rfl yr2.sl uT33 sz93 (by omega) (by omega) rfl) (RW.q (v := .agg (cl93 (y.Queue.getD k default)).toArray) rfl (q_loadAgg rfl uT93 rfl sz93 rfl (Cells.repE yr2 (by omega) rfl)) ?_)
    refine RW.alc rfl fun b5 => ?_
    refine g1 ?_
    refine RW.effn (J' := St ⟨w, Φ, []⟩ Φ [.blk b5 93 (cl93 (y.Queue.getD k default)), .blk b3 42 [iV 0, iV 1125899906842624], .blk b2 36 [iV y.Hour, yv1, yv2, yv3], .blk b1 31 (cl31 b v1 v3 v4 v5 v6 v7 v8 v9)]) (e_store (v := .agg (cl93 (y.Queue.getD k default)).toArray) 0 rfl rfl rfl sz93 rfl rfl rfl rfl rfl) ?_
    refine g6 ?_
    refine RW.q (v := .agg #[iV ((y.Queue.getD k default).Vol.Lo), iV ((y.Queue.getD k default).Vol.Hi)]) rfl (q_loadAgg rfl uT42 rfl sz42 rfl (Cells.blkP (off := 2) 0 rfl (fun j u hu => (by rcases j with _ | (_ | _) <;> first | exact hu | cases hu)))) (RW.q (v := .bool (decide ((y.Queue.getD k default).Vol.Lo ≤ (y.Queue.getD k default).Vol.Hi))) rfl (q_call (args := #[.agg #[iV ((y.Queue.getD k default).Vol.Lo), iV ((y.Queue.getD k default).Vol.Hi)]]) own70 rfl rfl (fun w1 hw1 => sRight_c w1 (Go.K.hp w1) (Hp.le_refl _))) ?_)
    refine g3 ?_
    refine RW.g (b := (!(decide ((y.Queue.getD k default).Vol.Lo ≤ (y.Queue.getD k default).Vol.Hi)))) (v := .agg #[iV ((y.Queue.getD k default).Vol.Lo), iV ((y.Queue.getD k default).Vol.Hi)]) rfl rfl rfl (fun h => q_loadAgg (gv_pos h) uT42 rfl sz42 rfl (Cells.blkP (off := 2) 0 rfl (fun j u hu => (by rcases j with _ | (_ | _) <;> first | exact hu | cases hu)))) ?_
    refine g1 ?_
    refine RW.g (b := (!(decide ((y.Queue.getD k default).Vol.Lo ≤ (y.Queue.getD k default).Vol.Hi)))) (v := .bool (decide (0 ≤ (y.Queue.getD k default).Vol.Lo ∧ (y.Queue.getD k default).Vol.Hi ≤ 1125899906842624))) rfl rfl rfl (fun h => q_call (args := #[.agg #[iV ((y.Queue.getD k default).Vol.Lo), iV ((y.Queue.getD k default).Vol.Hi)], .agg #[iV 0, iV 1125899906842624]]) own22 rfl (args2 (gv_pos h) (gv_pos h)) (fun w1 hw1 => sWithin_c w1 (Go.K.hp w1) (Hp.le_refl _))) ?_
    refine g1 ?_
    obtain ⟨qb5, hqb5⟩ : ∃ qz : Bool, ((!(decide ((y.Queue.getD k default).Vol.Lo ≤ (y.Queue.getD k default).Vol.Hi))) || (!(decide (0 ≤ (y.Queue.getD k default).Vol.Lo ∧ (y.Queue.getD k default).Vol.Hi ≤ 1125899906842624)))) = qz := ⟨_, rfl⟩
    refine RW.q (v := .bool qb5) rfl (q_as (v := .bool ((!(decide ((y.Queue.getD k default).Vol.Lo ≤ (y.Queue.getD k default).Vol.Hi))) || (!(decide (0 ≤ (y.Queue.getD k default).Vol.Lo ∧ (y.Queue.getD k default).Vol.Hi ≤ 1125899906842624))))) (q_pick rfl (fun hp => pkOrT hp) (fun hp => (gv_pos hp).trans (pkOrF hp))) (congrArg Value.bool hqb5)) ?_
    refine g5 ?_
    obtain ⟨qb6, hqb6⟩ : ∃ qz : Bool, (qb5 || (decide ((y.Queue.getD k default).Vol.Hi ≤ 0))) = qz := ⟨_, rfl⟩
    refine RW.q (v := .bool qb6) rfl (q_as (v := .bool (qb5 || (decide ((y.Queue.getD k default).Vol.Hi ≤ 0)))) (q_pick rfl (fun hp => pkOrT hp) (fun hp => (gv_pos hp).trans (pkOrF hp))) (congrArg Value.bool hqb6)) ?_
    refine g6 ?_
    obtain ⟨qb7, hqb7⟩ : ∃ qz : Bool, (qb6 || (decide ((y.Queue.getD k default).At < y.Hour))) = qz := ⟨_, rfl⟩
    refine RW.q (v := .bool qb7) rfl (q_as (v := .bool (qb6 || (decide ((y.Queue.getD k default).At < y.Hour)))) (q_pick rfl (fun hp => pkOrT hp) (fun hp => (gv_pos hp).trans (pkOrF hp))) (congrArg Value.bool hqb7)) (RW.q (v := .bool qb7) rfl (q_move rfl) (RW.g (b := qb7) (v := pV b5 1) rfl rfl rfl (fun h => q_fieldAddr rfl uT93 rfl sz3 rfl) (RW.g (b := qb7) (v := iV ((y.Queue.getD k default).To)) rfl rfl rfl (fun h => q_load (gv_pos h) uT3 rfl (Cell.blk 0 rfl rfl)) (RW.g (b := qb7) (v := pV b1 3) rfl rfl rfl (fun h => q_fieldAddr rfl uT31 rfl sz23 rfl) (RW.g (b := qb7) (v := v3) rfl rfl rfl (fun h => q_load (gv_pos h) uT23 rfl (Cell.blk 3 rfl rfl)) (RW.g (b := qb7) (v := iV (b.Places.length : Int)) rfl rfl rfl (fun h => q_len_sl (gv_pos h) r3.sl uT23) (RW.g (b := qb7) (v := .bool (decide (0 ≤ (y.Queue.getD k default).To ∧ (y.Queue.getD k default).To < (b.Places.length : Int)))) rfl rfl rfl (fun h => q_call (args := #[iV ((y.Queue.getD k default).To), iV (b.Places.length : Int)]) own93 rfl (args2 (gv_pos h) (gv_pos h)) (fun w1 hw1 => huIdx_c w1 (Go.K.hp w1) (Hp.le_refl _))) ?_)))))))
    refine g1 ?_
    obtain ⟨qb8, hqb8⟩ : ∃ qz : Bool, (qb7 || (!(decide (0 ≤ (y.Queue.getD k default).To ∧ (y.Queue.getD k default).To < (b.Places.length : Int))))) = qz := ⟨_, rfl⟩
    refine RW.q (v := .bool qb8) rfl (q_as (v := .bool (qb7 || (!(decide (0 ≤ (y.Queue.getD k default).To ∧ (y.Queue.getD k default).To < (b.Places.length : Int)))))) (q_pick rfl (fun hp => pkOrT hp) (fun hp => (gv_pos hp).trans (pkOrF hp))) (congrArg Value.bool hqb8)) ?_
    subst hqb8 hqb7 hqb6 hqb5
    refine g2 ?_
    refine AW.cond rfl (fun hc5 => ?_) fun hc5 => ?_
    ·
     refine g12 ?_
     exact fin_val (v' := .bool false) rfl rfl rfl (congrArg Value.bool (decide_eq_false (fun h9 => Bool.noConfusion (((h9.2.2.1 k (by omega)).1).symm.trans hc5))).symm)
    ·
     refine g3 ?_
     refine AW.draw (J0 := St ⟨w, Φ, []⟩ Φ [.blk b5 93 (cl93 (y.Queue.getD k default)), .blk b3 42 [iV 0, iV 1125899906842624], .blk b2 36 [iV y.Hour, yv1, yv2, yv3], .blk b1 31 (cl31 b v1 v3 v4 v5 v6 v7 v8 v9)]) [.q, .q, .q, .q, .q, .q, .q, .q, .q, .q, .q, .q, .q] [0, 1, 2, 3, 4, 5, 6, 7, 8, 9, 10, 11, 12] hmix (by kernel_rfl) ?_
     refine g6 ?_
     refine DW.g (b := (decide ((0 : Int) < (k : Int)))) (v := iV ((k - 1 : Nat) : Int)) (fun _ h => h) rfl rfl rfl (fun h => q_as (v := iV ((k : Int) - 1)) (q_sub (gv_pos h) rfl (by (try simp [-List.getD_eq_getElem?_getD, -Array.length_toList] at h); omega) (by (try simp [-List.getD_eq_getElem?_getD, -Array.length_toList] at h); unfold I64; omega)) (congrArg (Value.int .i64) ((by simp at h; omega)))) ?_
     refine DW.g (b := (decide ((0 : Int) < (k : Int)))) (v := .pointer (some (Value.at yv2 ((k - 1) * 4)))) (fun _ h => h) rfl rfl rfl (fun h => q_indexAddr (gv_pos h) (gv_pos h) yr2.sl uT33 sz93 (by (try simp [-List.getD_eq_getElem?_getD, -Array.length_toList] at h); omega) (by (try simp [-List.getD_eq_getElem?_getD, -Array.length_toList] at h); omega) rfl) ?_
     refine DW.g (b := (decide ((0 : Int) < (k : Int)))) (v := .agg (cl93 (y.Queue.getD (k - 1) default)).toArray) (fun _ h => h) rfl rfl rfl (fun h => q_loadAgg (gv_pos h) uT93 rfl sz93 rfl (Cells.repE yr2 (by (try simp [-List.getD_eq_getElem?_getD, -Array.length_toList] at h); omega) rfl)) ?_
     refine g1 ?_
     refine DW.g (b := (decide ((0 : Int) < (k : Int)))) (v := iV (Ft.orL [Fu.cmpI (y.Queue.getD (k - 1) default).At (y.Queue.getD k default).At, Fu.cmpI (y.Queue.getD (k - 1) default).To (y.Queue.getD k default).To])) (fun _ h => h) rfl rfl rfl (fun h => q_call (args := #[.agg (cl93 (y.Queue.getD (k - 1) default)).toArray, .agg (cl93 (y.Queue.getD k default)).toArray]) own94 rfl (args2 (gv_pos h) (gv_pos h)) (fun w1 hw1 => order_c w1 (Go.K.hp w1) (Hp.le_refl _) (x := (y.Queue.getD (k - 1) default)) (y := (y.Queue.getD k default)))) ?_
     refine g1 ?_
     obtain ⟨qb9, hqb9⟩ : ∃ qz : Bool, ((decide ((0 : Int) < (k : Int))) && (decide ((0 : Int) ≤ Ft.orL [Fu.cmpI (y.Queue.getD (k - 1) default).At (y.Queue.getD k default).At, Fu.cmpI (y.Queue.getD (k - 1) default).To (y.Queue.getD k default).To]))) = qz := ⟨_, rfl⟩
     refine DW.q (v := .bool qb9) (fun _ h => h) rfl (q_as (v := .bool ((decide ((0 : Int) < (k : Int))) && (decide ((0 : Int) ≤ Ft.orL [Fu.cmpI (y.Queue.getD (k - 1) default).At (y.Queue.getD k default).At, Fu.cmpI (y.Queue.getD (k - 1) default).To (y.Queue.getD k default).To])))) (q_pick rfl (fun hp => (gv_pos hp).trans (pkAndT hp)) (fun hp => pkAndF hp)) (congrArg Value.bool hqb9)) ?_
     subst hqb9
     refine g2 ?_
     refine AW.cond rfl (fun hc6 => ?_) fun hc6 => ?_
     ·
      refine g11 ?_
      exact fin_val (v' := .bool false) rfl rfl rfl (congrArg Value.bool (decide_eq_false (fun h9 => Bool.noConfusion (((h9.2.2.1 k (by omega)).2).symm.trans hc6))).symm)
     ·
      refine g7 ?_
      exact Post.back (s' := _) (J' := _) (m' := _) (by omega) ⟨k + 1, rfl, rfl, rfl, (by omega), (Fu.lt_succ hal2 ⟨hc5, hc6⟩)⟩ ⟨rfl, rfl, rfl, rfl, rfl, rfl, trivial⟩ (fun _ h => StP.drop h (by exact .cons _ (.cons_cons _ (.cons_cons _ (.cons_cons _ (.slnil))))))
   ·
    simp [-List.getD_eq_getElem?_getD, -Array.length_toList] at hc4
    refine g15 ?_
    have halB : ∀ j, j < y.Queue.length → hqBad b y j = false ∧ hqBa2 b y j = false := fun j hj => hal2 j (by omega)
    refine AW.loop (fun s J m => ∃ (k : Nat), s = [(2, pV b1 0), (3, pV b2 0), (112, yv3), (113, iV (y.Links.length : Int)), (114, iV (k : Int))] ∧ J = St ⟨w, Φ, []⟩ Φ [.blk b3 42 [iV 0, iV 1125899906842624], .blk b2 36 [iV y.Hour, yv1, yv2, yv3], .blk b1 31 (cl31 b v1 v3 v4 v5 v6 v7 v8 v9)] ∧ m = y.Links.length - k ∧ (k ≤ y.Links.length) ∧ (∀ j, j < k → hlBad b y j = false)) (s0 := _) (J1 := _) (m0 := _) ⟨0, rfl, rfl, rfl, (by omega), (fun j hj => absurd hj (by omega))⟩ ⟨rfl, rfl, rfl, rfl, rfl, trivial⟩ (fun _ h => h) ?_
    rintro _ _ _ _ ⟨k, rfl, rfl, rfl, hk, hal3⟩
    refine g6 ?_
    refine AW.cond rfl (fun hc7 => ?_) fun hc7 => ?_
    ·
     simp [-List.getD_eq_getElem?_getD, -Array.length_toList] at hc7
     refine g7 ?_
     refine RW.q (v := .pointer (some (Value.at yv3 (k * 5)))) rfl (q_indexAddr rfl rfl yr3.sl uT34 sz79 (by omega) (by omega) rfl) (RW.q (v := .agg (cl79 (y.Links.getD k default)).toArray) rfl (q_loadAgg rfl uT79 rfl sz79 rfl (Cells.repE yr3 (by omega) rfl)) ?_)
     refine RW.alc rfl fun b6 => ?_
     refine g1 ?_
     refine RW.effn (J' := St ⟨w, Φ, []⟩ Φ [.blk b6 79 (cl79 (y.Links.getD k default)), .blk b3 42 [iV 0, iV 1125899906842624], .blk b2 36 [iV y.Hour, yv1, yv2, yv3], .blk b1 31 (cl31 b v1 v3 v4 v5 v6 v7 v8 v9)]) (e_store (v := .agg (cl79 (y.Links.getD k default)).toArray) 0 rfl rfl rfl sz79 rfl rfl rfl rfl rfl) ?_
     refine g3 ?_
     refine AW.draw (J0 := St ⟨w, Φ, []⟩ Φ [.blk b6 79 (cl79 (y.Links.getD k default)), .blk b3 42 [iV 0, iV 1125899906842624], .blk b2 36 [iV y.Hour, yv1, yv2, yv3], .blk b1 31 (cl31 b v1 v3 v4 v5 v6 v7 v8 v9)]) [.q, .q, .q, .q, .q, .q, .q, .q] [0, 1, 2, 3, 4, 5, 6, 7] hmix (by kernel_rfl) ?_
     refine g3 ?_
     refine DW.q (v := .pointer (some (Value.at v4 (k * 18)))) (fun _ h => h) rfl (q_indexAddr rfl rfl r4.sl uT24 sz132 (by omega) (by omega) rfl) ?_
     obtain ⟨cv1, hcr1, hcc1⟩ := RepSl.whole (k := k) r4 (by omega)
     obtain ⟨sv1, sv2, sv3, hcE1, hcw1, hsv1, hsv2, hsv3⟩ := (show Rep.rep _ _ _ from hcr1)
     subst hcE1
     refine DW.q (v := .agg (cl132 (b.Links.getD k default) sv1 sv2 sv3).toArray) (fun _ h => h) rfl (q_loadAgg rfl uT132 rfl sz132 rfl (Cells.phiK hcc1)) ?_
     refine g1 ?_
     refine DW.q (v := .bool (rlinkB (b.Links.getD k default) (y.Links.getD k default))) (fun _ h => h) rfl (q_call (args := #[.agg (cl132 (b.Links.getD k default) sv1 sv2 sv3).toArray, .agg (cl79 (y.Links.getD k default)).toArray]) own95 rfl rfl (fun w1 hw1 => rLink_c w1 (Go.K.hp w1) (Hp.le_refl _) (hcr1.mono hw1.phi) (x := (y.Links.getD k default)))) ?_
     refine g3 ?_
     refine AW.cond rfl (fun hc8 => ?_) fun hc8 => ?_
     ·
      refine g11 ?_
      exact fin_val (v' := .bool false) rfl rfl rfl (congrArg Value.bool (decide_eq_false (fun h9 => Bool.noConfusion ((h9.2.2.2 k (by omega)).symm.trans hc8))).symm)
     ·
      refine g7 ?_
      exact Post.back (s' := _) (J' := _) (m' := _) (by omega) ⟨k + 1, rfl, rfl, rfl, (by omega), (Fu.lt_succ hal3 hc8)⟩ ⟨rfl, rfl, rfl, rfl, rfl, trivial⟩ (fun _ h => StP.drop h (by exact .cons _ (.cons_cons _ (.cons_cons _ (.cons_cons _ (.slnil))))))
    ·
     simp [-List.getD_eq_getElem?_getD, -Array.length_toList] at hc7
     refine g11 ?_
     exact fin_val (v' := .bool true) rfl rfl rfl (congrArg Value.bool (decide_eq_true (show HRight b y from ⟨hc1, halA, halB, fun j hj => hal3 j (by omega)⟩)).symm)
end Go.Proofs.Ytblfeidlnhdekaa
