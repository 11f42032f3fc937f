/- Lemmas. Conditions: those of each theorem. -/
import Derived.Test.YtblfeidlnhdekaaGreatSWalkC
import Derived.Test.YtblfeidlnhdekaaGreatSSorts
set_option maxRecDepth 8000
set_option maxHeartbeats 16000000
namespace Go.Proofs.YtblfeidlnhdekaaGreat
open Go Go.K Go.RowKit
attribute [local irreducible] AW RW DW Post Qt
theorem Fu.xch_rev {L : List Bt.Reading} {p : Nat} {x y : Bt.Reading} : (L.set (p + 1) x).set p y = (L.set p y).set (p + 1) x := List.set_comm _ _ (by omega)
theorem isNaN_c (w : World) (Φ : Hp) (hΦ : Hp.le Φ (hp w)) {x : Int} :
  Calls pg 71 #[iV x] w fun e w' => e = .returned (.bool false) ∧ Bel w.heap.size w w' := by
 refine in1 6 Tryz.func71 rfl rfl hΦ ?_
 refine gs14 ?_
 exact fin_val (v' := .bool (!decide (x = x))) rfl rfl rfl (by simp)
theorem Compare_c (w : World) (Φ : Hp) (hΦ : Hp.le Φ (hp w)) {x y : Int} :
  Calls pg 29 #[iV x, iV y] w fun e w' => e = .returned (iV (Fu.cmpI x y)) ∧ Bel w.heap.size w w' := by
 refine in2 20 Tryz.func29 rfl rfl hΦ ?_
 refine gs8 ?_
 refine RW.c rfl (fun w1 hw1 => isNaN_c w1 (Go.K.hp w1) (Hp.le_refl _)) rfl rfl ?_
 refine gs6 ?_
 refine RW.c rfl (fun w1 hw1 => isNaN_c w1 (Go.K.hp w1) (Hp.le_refl _)) rfl rfl ?_
 refine gs9 ?_
 refine AW.condF rfl ?_
 refine gs8 ?_
 refine AW.condF rfl ?_
 refine gs10 ?_
 refine AW.cond rfl (fun hc3 => ?_) fun hc3 => ?_
 ·
  simp [-List.getD_eq_getElem?_getD] at hc3
  refine gs7 ?_
  exact fin_val (v' := iV (-1)) rfl rfl rfl (by unfold Fu.cmpI; rw [if_pos (by omega)])
 ·
  simp [-List.getD_eq_getElem?_getD] at hc3
  refine gs10 ?_
  refine AW.cond rfl (fun hc4 => ?_) fun hc4 => ?_
  ·
   simp [-List.getD_eq_getElem?_getD] at hc4
   refine gs7 ?_
   exact fin_val (v' := iV 1) rfl rfl rfl (by unfold Fu.cmpI; rw [if_neg (by omega), if_pos (by omega)])
  ·
   simp [-List.getD_eq_getElem?_getD] at hc4
   refine gs8 ?_
   exact fin_val (v' := iV 0) rfl rfl rfl (by unfold Fu.cmpI; rw [if_neg (by omega), if_neg (by omega)])
theorem cmpG_c (w : World) (Φ : Hp) (hΦ : Hp.le Φ (hp w)) {x y : Bt.Reading} :
  Calls pg 34 #[.agg #[iV x.Gauge, iV x.Hour, iV x.Value.Lo, iV x.Value.Hi], .agg #[iV y.Gauge, iV y.Hour, iV y.Value.Lo, iV y.Value.Hi]] w fun e w' => e = .returned (iV (Fu.cmpI x.Gauge y.Gauge)) ∧ Bel w.heap.size w w' := by
 refine in2 10 Tryz.func34 rfl rfl hΦ ?_
 refine gs2 ?_
 refine RW.bxA rfl rfl fun b1 => ?_
 refine RW.bxA rfl rfl fun b2 => ?_
 refine gs9 ?_
 refine RW.c rfl (fun w1 hw1 => Compare_c w1 (Go.K.hp w1) (Hp.le_refl _)) rfl rfl ?_
 refine gs4 ?_
 exact fin_val (v' := iV (Fu.cmpI x.Gauge y.Gauge)) rfl rfl rfl (rfl)
theorem swapRange_c {B : Bs} {Φ : Hp} {C : List Chunk} (_ : B.E = []) {v : Value} {n : Nat} {L : List Bt.Reading} (hv : IsSl v n) (hL : L.length = n) (hn : n ≤ 4611686018427387903) {G : Nat → Bt.Reading} {a b q : Nat} (hG : Sorts.Is L n G) (hab : a + q ≤ b) (hb : b + q ≤ n) (w : World) (hW : (St B Φ (.row v 53 4 n (flat L) :: C)).p w) :
  Calls pg 120 #[v, iV (a : Int), iV (b : Int), iV (q : Int), .func (.func 34) #[] #[]] w fun e w' => ∃ x : {L' : List Bt.Reading // Sorts.Is L' n (Sorts.swpG G a b q)}, e = .returned (.tuple #[]) ∧ (St B Φ (.row v 53 4 n (flat x.1) :: C)).p w' := by
 refine inJ5 38 Tryz.func120 rfl rfl (J := St B Φ ((.row v 53 4 n (flat L)) :: C)) hW ?_
 refine gs6 ?_
 refine AW.lp (fun s J m => ∃ (k : Nat), ∃ (K : List Bt.Reading), s = [(0, v), (1, iV (a : Int)), (2, iV (b : Int)), (3, iV (q : Int)), (10, iV (k : Int))] ∧ J = St B Φ ((.row v 53 4 n (flat K)) :: C) ∧ m = q - k ∧ (k ≤ q) ∧ (Sorts.Is K n (Sorts.swpG G a b k))) ⟨0, _, rfl, rfl, rfl, (by omega), (by rw [Sorts.swp_zero]; exact hG)⟩ ?_
 rintro _ _ _ _ ⟨k, K, rfl, rfl, rfl, hk, hK⟩
 refine gs8 ?_
 refine AW.cond rfl (fun hc1 => ?_) fun hc1 => ?_
 ·
  simp [-List.getD_eq_getElem?_getD] at hc1
  refine gs4 ?_
  have hKl := hK.1
  refine AW.draw (J0 := St B Φ C) [.q, .q, .q, .q, .q, .q, .q, .q, .q, .q, .q, .q, .q, .q, .q, .q, .q, .q, .p, .e, .q, .e, .q, .e] [0, 1, 2, 3, 4, 5, 6, 7, 8, 9, 10, 11, 12, 14, 15, 16, 17, 18, 13, 19, 20, 21, 22, 23] hmix (by kernel_rfl) (DW.q (v := v) (fun _ h => (StP.drop h (by exact .cons _ ((List.Sublist.refl _))))) rfl (q_move rfl) (DW.q (v := iV (a : Int)) (fun _ h => (StP.drop h (by exact .cons _ ((List.Sublist.refl _))))) rfl (q_move rfl) (DW.q (v := iV (k : Int)) (fun _ h => (StP.drop h (by exact .cons _ ((List.Sublist.refl _))))) rfl (q_move rfl) (DW.q (v := iV ((a + k : Nat) : Int)) (fun _ h => (StP.drop h (by exact .cons _ ((List.Sublist.refl _))))) rfl (q_add rfl rfl (by omega) (by unfold I64; omega)) (DW.q (v := v) (fun _ h => (StP.drop h (by exact .cons _ ((List.Sublist.refl _))))) rfl (q_move rfl) (DW.q (v := iV (b : Int)) (fun _ h => (StP.drop h (by exact .cons _ ((List.Sublist.refl _))))) rfl (q_move rfl) (DW.q (v := iV (k : Int)) (fun _ h => (StP.drop h (by exact .cons _ ((List.Sublist.refl _))))) rfl (q_move rfl) (DW.q (v := iV ((b + k : Nat) : Int)) (fun _ h => (StP.drop h (by exact .cons _ ((List.Sublist.refl _))))) rfl (q_add rfl rfl (by omega) (by unfold I64; omega)) (DW.q (v := v) (fun _ h => (StP.drop h (by exact .cons _ ((List.Sublist.refl _))))) rfl (q_move rfl) ?_)))))))))
  refine DW.q (v := iV (b : Int)) (fun _ h => (StP.drop h (by exact .cons _ ((List.Sublist.refl _))))) rfl (q_move rfl) (DW.q (v := iV (k : Int)) (fun _ h => (StP.drop h (by exact .cons _ ((List.Sublist.refl _))))) rfl (q_move rfl) (DW.q (v := iV ((b + k : Nat) : Int)) (fun _ h => (StP.drop h (by exact .cons _ ((List.Sublist.refl _))))) rfl (q_add rfl rfl (by omega) (by unfold I64; omega)) (DW.q (v := .pointer (some (Value.at v ((b + k) * 4)))) (fun _ h => (StP.drop h (by exact .cons _ ((List.Sublist.refl _))))) rfl (q_indexAddr rfl rfl hv uT58 sz53 (by omega) (by omega) rfl) (DW.q (v := v) (fun _ h => (StP.drop h (by exact .cons _ ((List.Sublist.refl _))))) rfl (q_move rfl) (DW.q (v := iV (a : Int)) (fun _ h => (StP.drop h (by exact .cons _ ((List.Sublist.refl _))))) rfl (q_move rfl) (DW.q (v := iV (k : Int)) (fun _ h => (StP.drop h (by exact .cons _ ((List.Sublist.refl _))))) rfl (q_move rfl) (DW.q (v := iV ((a + k : Nat) : Int)) (fun _ h => (StP.drop h (by exact .cons _ ((List.Sublist.refl _))))) rfl (q_add rfl rfl (by omega) (by unfold I64; omega)) (DW.q (v := .pointer (some (Value.at v ((a + k) * 4)))) (fun _ h => (StP.drop h (by exact .cons _ ((List.Sublist.refl _))))) rfl (q_indexAddr rfl rfl hv uT58 sz53 (by omega) (by omega) rfl) (DW.pair (X := Unit) (Y := Unit) (fun u1 => .agg #[iV ((K.getD (b + k) default).Gauge), iV ((K.getD (b + k) default).Hour), iV ((K.getD (b + k) default).Value.Lo), iV ((K.getD (b + k) default).Value.Hi)]) (fun u2 => .agg #[iV ((K.getD (a + k) default).Gauge), iV ((K.getD (a + k) default).Hour), iV ((K.getD (a + k) default).Value.Lo), iV ((K.getD (a + k) default).Value.Hi)]) (fun u1 => St B Φ ((.row v 53 4 n (flat K)) :: C)) (fun u2 => St B Φ ((.row v 53 4 n (flat K)) :: C)) (fun u1 u2 => St B Φ ((.row v 53 4 n (flat K)) :: C)) rfl rfl rfl trivial trivial (fun _ => trivial) (fun _ => trivial) (fun u1 _ h => (StP.drop h (by exact .cons _ ((List.Sublist.refl _))))) (fun u2 _ h => (StP.drop h (by exact .cons _ ((List.Sublist.refl _))))) (fun u1 u2 _ h => (StP.drop h (by exact .cons _ ((List.Sublist.refl _))))) (e_quiet (q_loadAgg rfl uT53 rfl sz53 rfl (Cells.rowE even53 0 rfl (by omega) rfl))) (fun u1 => e_quiet (q_loadAgg rfl uT53 rfl sz53 rfl (Cells.rowE even53 0 rfl (by omega) rfl))) (e_quiet (q_loadAgg rfl uT53 rfl sz53 rfl (Cells.rowE even53 0 rfl (by omega) rfl))) (fun u2 => e_quiet (q_loadAgg rfl uT53 rfl sz53 rfl (Cells.rowE even53 0 rfl (by omega) rfl))) ?_)))))))))
  intro u1 u2
  refine DW.q (v := .pointer (some (Value.at v ((a + k) * 4)))) (fun _ h => (StP.drop h (by exact .cons _ ((List.Sublist.refl _))))) rfl (q_indexAddr rfl rfl hv uT58 sz53 (by omega) (by omega) rfl) (DW.effn (J' := St B Φ ((.row v 53 4 n (flat (K.set (a + k) (K.getD (b + k) default)))) :: C)) (fun _ => (fun _ h => (StP.drop h (by exact .cons _ ((List.Sublist.refl _)))))) (e_storeRow (v := .agg #[iV ((K.getD (b + k) default).Gauge), iV ((K.getD (b + k) default).Hour), iV ((K.getD (b + k) default).Value.Lo), iV ((K.getD (b + k) default).Value.Hi)]) 0 rfl rfl rfl sz53 rfl rfl (by rw [flat_len even53]; simp [Rep.sz]; omega) (splice_E even53 (k := a + k) (x := (K.getD (b + k) default)) (by first | omega | (simp; omega)) rfl) rfl) (DW.q (v := .pointer (some (Value.at v ((b + k) * 4)))) (fun _ h => (StP.drop h (by exact .cons _ ((List.Sublist.refl _))))) rfl (q_indexAddr rfl rfl hv uT58 sz53 (by omega) (by omega) rfl) (DW.effn (J' := St B Φ ((.row v 53 4 n (flat ((K.set (a + k) (K.getD (b + k) default)).set (b + k) (K.getD (a + k) default)))) :: C)) (fun h => absurd rfl h) (e_storeRow (v := .agg #[iV ((K.getD (a + k) default).Gauge), iV ((K.getD (a + k) default).Hour), iV ((K.getD (a + k) default).Value.Lo), iV ((K.getD (a + k) default).Value.Hi)]) 0 rfl rfl rfl sz53 rfl rfl (by rw [flat_len even53]; simp [Rep.sz]; omega) (splice_E even53 (k := b + k) (x := (K.getD (a + k) default)) (by first | omega | (simp; omega)) rfl) rfl) ?_)))
  refine gs8 ?_
  exact Post.bk ⟨k + 1, _, rfl, rfl, rfl, (by omega), (Sorts.is_swp_step hK (by omega) (by omega))⟩
 ·
  simp [-List.getD_eq_getElem?_getD] at hc1
  refine gs4 ?_
  refine fin_none (J' := St B Φ (.row v 53 4 n (flat K) :: C)) rfl rfl (fun _ h => h) (fun w' hw' => ⟨⟨K, by rw [show q = k by omega]; exact hK⟩, rfl, hw'⟩)
theorem insertion_c {B : Bs} {Φ : Hp} {C : List Chunk} (_ : B.E = []) {v : Value} {n : Nat} {L : List Bt.Reading} (hv : IsSl v n) (hL : L.length = n) (hn : n ≤ 4611686018427387903) {a b : Nat} (hab : a ≤ b) (hb : b ≤ n) (w : World) (hW : (St B Φ (.row v 53 4 n (flat L) :: C)).p w) :
  Calls pg 96 #[v, iV (a : Int), iV (b : Int), .func (.func 34) #[] #[]] w fun e w' => ∃ x : {L' : List Bt.Reading // Sorts.Upd (fun r : Bt.Reading => r.Gauge) a b L L' ∧ Sorts.SrtI (fun r : Bt.Reading => r.Gauge) L' a b}, e = .returned (.tuple #[]) ∧ (St B Φ (.row v 53 4 n (flat x.1) :: C)).p w' := by
 refine inJ4 53 Tryz.func96 rfl rfl (J := St B Φ ((.row v 53 4 n (flat L)) :: C)) hW ?_
 refine gs8 ?_
 refine AW.lp (fun s J m => ∃ (i : Nat), ∃ (M : List Bt.Reading), s = [(0, v), (1, iV (a : Int)), (2, iV (b : Int)), (3, .func (.func 34) #[] #[]), (8, iV (i : Int))] ∧ J = St B Φ ((.row v 53 4 n (flat M)) :: C) ∧ m = b - i ∧ (a + 1 ≤ i) ∧ (i ≤ b ∨ i = a + 1) ∧ (Sorts.Upd (fun r : Bt.Reading => r.Gauge) a b L M) ∧ (Sorts.SrtI (fun r : Bt.Reading => r.Gauge) M a i)) ⟨a + 1, _, rfl, rfl, rfl, (by omega), (by omega), (Sorts.Upd.refl _ _ _), (Sorts.SrtI.small (by omega))⟩ ?_
 rintro _ _ _ _ ⟨i, M, rfl, rfl, rfl, hai, hib, hMU, hMS⟩
 refine gs8 ?_
 refine AW.cond rfl (fun hc1 => ?_) fun hc1 => ?_
 ·
  simp [-List.getD_eq_getElem?_getD] at hc1
  refine gs11 ?_
  refine AW.lp (fun s J m => ∃ (j : Nat), ∃ (K : List Bt.Reading), s = [(0, v), (1, iV (a : Int)), (2, iV (b : Int)), (3, .func (.func 34) #[] #[]), (8, iV (i : Int)), (9, iV (j : Int))] ∧ J = St B Φ ((.row v 53 4 n (flat K)) :: C) ∧ m = j - a ∧ (a ≤ j) ∧ (j ≤ i) ∧ (Sorts.Upd (fun r : Bt.Reading => r.Gauge) a b L K) ∧ (Sorts.InsI (fun r : Bt.Reading => r.Gauge) K a j i)) ⟨i, _, rfl, rfl, rfl, (by omega), (by omega), hMU, (Sorts.InsI.start hMS)⟩ ?_
  rintro _ _ _ _ ⟨j, K, rfl, rfl, rfl, haj, hji, hU, hI⟩
  have hKl := hU.len hab
  refine gs2 ?_
  refine AW.draw (J0 := St B Φ ((.row v 53 4 n (flat K)) :: C)) [.q, .q, .q, .q, .q, .q, .q, .q, .q, .q, .q, .q, .q, .q, .q, .q, .q] [0, 1, 2, 3, 4, 5, 6, 7, 8, 9, 10, 11, 12, 13, 14, 15, 16] hmix (by kernel_rfl) ?_
  refine gs7 ?_
  refine DW.g (b := (decide ((a : Int) < (j : Int)))) (v := .pointer (some (Value.at v (j * 4)))) (fun _ h => h) rfl rfl rfl (fun h => q_indexAddr (gv_pos h) (gv_pos h) hv uT58 sz53 (by (try simp [-List.getD_eq_getElem?_getD] at h); omega) (by (try simp [-List.getD_eq_getElem?_getD] at h); omega) rfl) ?_
  refine DW.g (b := (decide ((a : Int) < (j : Int)))) (v := .agg #[iV ((K.getD j default).Gauge), iV ((K.getD j default).Hour), iV ((K.getD j default).Value.Lo), iV ((K.getD j default).Value.Hi)]) (fun _ h => h) rfl rfl rfl (fun h => q_loadAgg (gv_pos h) uT53 rfl sz53 rfl (Cells.rowE even53 0 rfl (by (try simp [-List.getD_eq_getElem?_getD] at h); omega) rfl)) ?_
  refine gs2 ?_
  refine DW.g (b := (decide ((a : Int) < (j : Int)))) (v := iV (((j - 1) : Nat) : Int)) (fun _ h => h) rfl rfl rfl (fun h => q_as (v := iV ((j : Int) - 1)) (q_sub (gv_pos h) rfl (by (try simp [-List.getD_eq_getElem?_getD] at h); omega) (by (try simp [-List.getD_eq_getElem?_getD] at h); unfold I64; omega)) (congrArg (Value.int .i64) (by simp at h; omega))) ?_
  refine DW.g (b := (decide ((a : Int) < (j : Int)))) (v := .pointer (some (Value.at v ((j - 1) * 4)))) (fun _ h => h) rfl rfl rfl (fun h => q_indexAddr (gv_pos h) (gv_pos h) hv uT58 sz53 (by (try simp [-List.getD_eq_getElem?_getD] at h); omega) (by (try simp [-List.getD_eq_getElem?_getD] at h); omega) rfl) ?_
  refine DW.g (b := (decide ((a : Int) < (j : Int)))) (v := .agg #[iV ((K.getD (j - 1) default).Gauge), iV ((K.getD (j - 1) default).Hour), iV ((K.getD (j - 1) default).Value.Lo), iV ((K.getD (j - 1) default).Value.Hi)]) (fun _ h => h) rfl rfl rfl (fun h => q_loadAgg (gv_pos h) uT53 rfl sz53 rfl (Cells.rowE even53 0 rfl (by (try simp [-List.getD_eq_getElem?_getD] at h); omega) rfl)) ?_
  refine DW.g (b := (decide ((a : Int) < (j : Int)))) (v := iV (Fu.cmpI ((K.getD j default).Gauge) ((K.getD (j - 1) default).Gauge))) (fun _ h => h) rfl rfl rfl (fun h => q_call (args := #[.agg #[iV ((K.getD j default).Gauge), iV ((K.getD j default).Hour), iV ((K.getD j default).Value.Lo), iV ((K.getD j default).Value.Hi)], .agg #[iV ((K.getD (j - 1) default).Gauge), iV ((K.getD (j - 1) default).Hour), iV ((K.getD (j - 1) default).Value.Lo), iV ((K.getD (j - 1) default).Value.Hi)]]) oK (gv_pos h) (args2 (gv_pos h) (gv_pos h)) (fun w1 hw1 => cmpG_c w1 (Go.K.hp w1) (Hp.le_refl _) (x := (K.getD j default)) (y := (K.getD (j - 1) default)))) (DW.g (b := (decide ((a : Int) < (j : Int)))) (v := .bool (decide ((K.getD j default).Gauge < (K.getD (j - 1) default).Gauge))) (fun _ h => h) rfl rfl rfl (fun h => q_as (v := .bool (decide (Fu.cmpI ((K.getD j default).Gauge) ((K.getD (j - 1) default).Gauge) < 0))) (q_lss (gv_pos h) rfl) (congrArg (Value.bool) (decide_eq_decide.2 Fu.cmp_lt))) (DW.pkA (fun _ h => h) rfl rfl rfl rfl fun qb1 hqb1 => ?_))
  subst hqb1
  refine gs2 ?_
  refine AW.cond rfl (fun hc2 => ?_) fun hc2 => ?_
  ·
   simp [-List.getD_eq_getElem?_getD] at hc2
   refine gs4 ?_
   obtain ⟨p, rfl⟩ : ∃ p, j = p + 1 := ⟨j - 1, by omega⟩
   have hlt : (K.getD (p + 1) default).Gauge < (K.getD p default).Gauge := hc2.2
   refine AW.draw (J0 := St B Φ C) [.q, .q, .q, .q, .q, .q, .q, .q, .q, .q, .q, .q, .p, .e, .q, .e, .q, .e] [0, 1, 2, 3, 4, 5, 6, 7, 8, 10, 11, 12, 9, 13, 14, 15, 16, 17] hmix (by kernel_rfl) (DW.q (v := v) (fun _ h => (StP.drop h (by exact .cons _ ((List.Sublist.refl _))))) rfl (q_move rfl) (DW.q (v := iV ((p + 1 : Nat) : Int)) (fun _ h => (StP.drop h (by exact .cons _ ((List.Sublist.refl _))))) rfl (q_move rfl) (DW.q (v := v) (fun _ h => (StP.drop h (by exact .cons _ ((List.Sublist.refl _))))) rfl (q_move rfl) (DW.q (v := iV ((p + 1 : Nat) : Int)) (fun _ h => (StP.drop h (by exact .cons _ ((List.Sublist.refl _))))) rfl (q_move rfl) (DW.q (v := iV (p : Int)) (fun _ h => (StP.drop h (by exact .cons _ ((List.Sublist.refl _))))) rfl (q_as (v := iV (((p + 1 : Nat) : Int) - 1)) (q_sub rfl rfl (by omega) (by unfold I64; omega)) (congrArg (Value.int .i64) (by omega))) (DW.q (v := v) (fun _ h => (StP.drop h (by exact .cons _ ((List.Sublist.refl _))))) rfl (q_move rfl) (DW.q (v := iV ((p + 1 : Nat) : Int)) (fun _ h => (StP.drop h (by exact .cons _ ((List.Sublist.refl _))))) rfl (q_move rfl) (DW.q (v := iV (p : Int)) (fun _ h => (StP.drop h (by exact .cons _ ((List.Sublist.refl _))))) rfl (q_as (v := iV (((p + 1 : Nat) : Int) - 1)) (q_sub rfl rfl (by omega) (by unfold I64; omega)) (congrArg (Value.int .i64) (by omega))) (DW.q (v := .pointer (some (Value.at v (p * 4)))) (fun _ h => (StP.drop h (by exact .cons _ ((List.Sublist.refl _))))) rfl (q_indexAddr rfl rfl hv uT58 sz53 (by omega) (by omega) rfl) ?_)))))))))
   refine DW.q (v := v) (fun _ h => (StP.drop h (by exact .cons _ ((List.Sublist.refl _))))) rfl (q_move rfl) (DW.q (v := iV ((p + 1 : Nat) : Int)) (fun _ h => (StP.drop h (by exact .cons _ ((List.Sublist.refl _))))) rfl (q_move rfl) (DW.q (v := .pointer (some (Value.at v ((p + 1) * 4)))) (fun _ h => (StP.drop h (by exact .cons _ ((List.Sublist.refl _))))) rfl (q_indexAddr rfl rfl hv uT58 sz53 (by omega) (by omega) rfl) (DW.pair (X := Unit) (Y := Unit) (fun u1 => .agg #[iV ((K.getD p default).Gauge), iV ((K.getD p default).Hour), iV ((K.getD p default).Value.Lo), iV ((K.getD p default).Value.Hi)]) (fun u2 => .agg #[iV ((K.getD (p + 1) default).Gauge), iV ((K.getD (p + 1) default).Hour), iV ((K.getD (p + 1) default).Value.Lo), iV ((K.getD (p + 1) default).Value.Hi)]) (fun u1 => St B Φ ((.row v 53 4 n (flat K)) :: C)) (fun u2 => St B Φ ((.row v 53 4 n (flat K)) :: C)) (fun u1 u2 => St B Φ ((.row v 53 4 n (flat K)) :: C)) rfl rfl rfl trivial trivial (fun _ => trivial) (fun _ => trivial) (fun u1 _ h => (StP.drop h (by exact .cons _ ((List.Sublist.refl _))))) (fun u2 _ h => (StP.drop h (by exact .cons _ ((List.Sublist.refl _))))) (fun u1 u2 _ h => (StP.drop h (by exact .cons _ ((List.Sublist.refl _))))) (e_quiet (q_loadAgg rfl uT53 rfl sz53 rfl (Cells.rowE even53 0 rfl (by omega) rfl))) (fun u1 => e_quiet (q_loadAgg rfl uT53 rfl sz53 rfl (Cells.rowE even53 0 rfl (by omega) rfl))) (e_quiet (q_loadAgg rfl uT53 rfl sz53 rfl (Cells.rowE even53 0 rfl (by omega) rfl))) (fun u2 => e_quiet (q_loadAgg rfl uT53 rfl sz53 rfl (Cells.rowE even53 0 rfl (by omega) rfl))) ?_)))
   intro u1 u2
   refine DW.q (v := .pointer (some (Value.at v ((p + 1) * 4)))) (fun _ h => (StP.drop h (by exact .cons _ ((List.Sublist.refl _))))) rfl (q_indexAddr rfl rfl hv uT58 sz53 (by omega) (by omega) rfl) (DW.effn (J' := St B Φ ((.row v 53 4 n (flat (K.set (p + 1) (K.getD p default)))) :: C)) (fun _ => (fun _ h => (StP.drop h (by exact .cons _ ((List.Sublist.refl _)))))) (e_storeRow (v := .agg #[iV ((K.getD p default).Gauge), iV ((K.getD p default).Hour), iV ((K.getD p default).Value.Lo), iV ((K.getD p default).Value.Hi)]) 0 rfl rfl rfl sz53 rfl rfl (by rw [flat_len even53]; simp [Rep.sz]; omega) (splice_E even53 (k := p + 1) (x := (K.getD p default)) (by first | omega | (simp; omega)) rfl) rfl) (DW.q (v := .pointer (some (Value.at v (p * 4)))) (fun _ h => (StP.drop h (by exact .cons _ ((List.Sublist.refl _))))) rfl (q_indexAddr rfl rfl hv uT58 sz53 (by omega) (by omega) rfl) (DW.effn (J' := St B Φ ((.row v 53 4 n (flat ((K.set (p + 1) (K.getD p default)).set p (K.getD (p + 1) default)))) :: C)) (fun h => absurd rfl h) (e_storeRow (v := .agg #[iV ((K.getD (p + 1) default).Gauge), iV ((K.getD (p + 1) default).Hour), iV ((K.getD (p + 1) default).Value.Lo), iV ((K.getD (p + 1) default).Value.Hi)]) 0 rfl rfl rfl sz53 rfl rfl (by rw [flat_len even53]; simp [Rep.sz]; omega) (splice_E even53 (k := p) (x := (K.getD (p + 1) default)) (by first | omega | (simp; omega)) rfl) rfl) ?_)))
   refine gs5 ?_
   refine RW.q (v := iV (p : Int)) rfl (q_as (v := iV (((p + 1 : Nat) : Int) - 1)) (q_sub rfl rfl (by omega) (by unfold I64; omega)) (congrArg (Value.int .i64) (by omega))) ?_
   refine gs2 ?_
   exact Post.back (s' := _) (J' := _) (m' := _) (by omega) ⟨p, _, rfl, rfl, rfl, (by omega), (by omega), (hU.trans (by have h9 := Sorts.upd_xch (key := (fun r : Bt.Reading => r.Gauge)) (a := a) (b := b) (show a < p + 1 by omega) (show p + 1 < b by omega) (by omega) hlt; rw [Nat.add_sub_cancel] at h9; rw [Fu.xch_rev]; exact h9)), (by have h9 := hI.step (by omega) hji (by omega) hlt; rw [Nat.add_sub_cancel] at h9; rw [Fu.xch_rev]; exact h9)⟩ ⟨rfl, rfl, rfl, rfl, rfl, rfl, trivial⟩ (fun _ h => h)
  ·
   simp [-List.getD_eq_getElem?_getD] at hc2
   refine gs11 ?_
   have hfin : Sorts.SrtI (fun r : Bt.Reading => r.Gauge) K a (i + 1) := by
    by_cases hja : j = a
    ·
     subst hja; exact hI.bottom
    ·
     exact hI.stop (by omega) hji (by have := hc2 (by omega); omega)
   exact Post.bk ⟨i + 1, _, rfl, rfl, rfl, (by omega), (by omega), hU, hfin⟩
 ·
  simp [-List.getD_eq_getElem?_getD] at hc1
  refine gs4 ?_
  refine fin_none (J' := St B Φ (.row v 53 4 n (flat M) :: C)) rfl rfl (fun _ h => h) (fun w' hw' => ⟨⟨M, ⟨hMU, by rcases hib with h9 | h9; exact hMS.sub (Nat.le_refl _) (by omega); exact Sorts.SrtI.small (by omega)⟩⟩, rfl, hw'⟩)
end Go.Proofs.YtblfeidlnhdekaaGreat
