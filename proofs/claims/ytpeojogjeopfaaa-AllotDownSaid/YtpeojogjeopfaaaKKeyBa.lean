/- Lemmas. Conditions: those of each theorem. -/
import Derived.Test.YtpeojogjeopfaaaKPlainBa
import Derived.DeepKeys4
set_option maxRecDepth 8000
set_option maxHeartbeats 16000000
namespace Go.Proofs.Ytpeojogjeopfaaa
open Go Go.K Go.RowKit
theorem bIn_c (w : World) (Φ : Hp) (hΦ : Hp.le Φ (hp w)) {n lo hi : Int} :
  Calls pg 53 #[iV n, iV lo, iV hi] w fun e w' => e = .returned (.bool (decide (lo ≤ n ∧ n ≤ hi))) ∧ Bel w.heap.size w w' := by
 refine calls_of_AW (args := [iV n, iV lo, iV hi]) Try.func53 rfl (lBT rfl) (St ⟨w, Φ, []⟩ Φ []) (StP.init w Φ hΦ []) ?_
 show AW pg 15 [] _ _ _ [(0, iV n), (1, iV lo), (2, iV hi)] _
 refine AW.seq (AW.region (RW.q (v := .bool false) rfl (q_assign rfl) (RW.nil (Post.then_n (AW.seq (AW.region (RW.q rfl (q_move rfl) (RW.q rfl (q_move rfl) (RW.q (v := .bool (decide (lo ≤ n))) rfl (q_leq rfl rfl) ?_)))))))))
 refine RW.q rfl (q_move rfl) (RW.g (b := (decide (lo ≤ n))) (v := iV n) rfl rfl rfl (fun h => q_move rfl) (RW.g (b := (decide (lo ≤ n))) (v := iV hi) rfl rfl rfl (fun h => q_move rfl) (RW.g (b := (decide (lo ≤ n))) (v := .bool (decide (n ≤ hi))) rfl rfl rfl (fun h => q_leq (gv_pos h) (gv_pos h)) ?_)))
 obtain ⟨qb1, hqb1⟩ : ∃ qz : Bool, ((decide (lo ≤ n)) && (decide (n ≤ hi))) = qz := ⟨_, rfl⟩
 refine RW.q (v := .bool qb1) rfl (q_as (v := .bool ((decide (lo ≤ n)) && (decide (n ≤ hi)))) (qpA rfl rfl rfl) (congrArg Value.bool hqb1)) (RW.q (v := .bool qb1) rfl (q_assign rfl) ?_)
 subst hqb1
 refine RW.nil (Post.then_n (AW.ret ?_))
 exact fin_val (v' := .bool ((decide (lo ≤ n)) && (decide (n ≤ hi)))) rfl rfl rfl (congrArg Value.bool (Bool.decide_and _ _).symm)
theorem bVol_c (w : World) (Φ : Hp) (hΦ : Hp.le Φ (hp w)) {n : Int} :
  Calls pg 54 #[iV n] w fun e w' => e = .returned (.bool (decide (0 ≤ n ∧ n ≤ 1125899906842624))) ∧ Bel w.heap.size w w' := by
 refine calls_of_AW (args := [iV n]) Try.func54 rfl (lBT rfl) (St ⟨w, Φ, []⟩ Φ []) (StP.init w Φ hΦ []) ?_
 show AW pg 5 [] _ _ _ [(0, iV n)] _
 refine AW.seq (AW.region (RW.q (v := .bool false) rfl (q_assign rfl) (RW.nil (Post.then_n (AW.seq (AW.region (RW.q rfl (q_move rfl) (RW.q (v := .bool (decide (0 ≤ n ∧ n ≤ 1125899906842624))) rfl (q_call (args := #[iV n, iV 0, iV 1125899906842624]) oK rfl rfl (fun w1 hw1 => bIn_c w1 (Go.K.hp w1) (Hp.le_refl _))) (RW.q (v := .bool (decide (0 ≤ n ∧ n ≤ 1125899906842624))) rfl (q_assign rfl) ?_)))))))))
 refine RW.nil (Post.then_n (AW.ret ?_))
 exact fin_val (v' := .bool (decide (0 ≤ n ∧ n ≤ 1125899906842624))) rfl rfl rfl (rfl)
theorem bIdx_c (w : World) (Φ : Hp) (hΦ : Hp.le Φ (hp w)) {n len : Int} (hm : 0 ≤ len ∧ len ≤ 4611686018427387904) :
  Calls pg 60 #[iV n, iV len] w fun e w' => e = .returned (.bool (decide (0 ≤ n ∧ n < len))) ∧ Bel w.heap.size w w' := by
 refine calls_of_AW (args := [iV n, iV len]) Try.func60 rfl (lBT rfl) (St ⟨w, Φ, []⟩ Φ []) (StP.init w Φ hΦ []) ?_
 show AW pg 9 [] _ _ _ [(0, iV n), (1, iV len)] _
 refine AW.seq (AW.region (RW.q (v := .bool false) rfl (q_assign rfl) (RW.nil (Post.then_n (AW.seq (AW.region (RW.q rfl (q_move rfl) (RW.q rfl (q_move rfl) (RW.q (v := iV (len - 1)) rfl (q_sub rfl rfl (by omega) (by unfold I64; omega)) ?_)))))))))
 refine RW.q (v := .bool (decide (0 ≤ n ∧ n ≤ len - 1))) rfl (q_call (args := #[iV n, iV 0, iV (len - 1)]) oK rfl rfl (fun w1 hw1 => bIn_c w1 (Go.K.hp w1) (Hp.le_refl _))) (RW.q (v := .bool (decide (0 ≤ n ∧ n ≤ len - 1))) rfl (q_assign rfl) (RW.nil (Post.then_n (AW.ret ?_))))
 exact fin_val (v' := .bool (decide (0 ≤ n ∧ n ≤ len - 1))) rfl rfl rfl (congrArg Value.bool (decide_eq_decide.2 (by omega)))
theorem bFrac_c (w : World) (Φ : Hp) (hΦ : Hp.le Φ (hp w)) {n d : Int} :
  Calls pg 58 #[iV n, iV d] w fun e w' => e = .returned (.bool (decide ((0 ≤ n ∧ n ≤ 1125899906842624) ∧ (0 ≤ d ∧ d ≤ 1125899906842624) ∧ (d = 0 → n = 0)))) ∧ Bel w.heap.size w w' := by
 refine calls_of_AW (args := [iV n, iV d]) Try.func58 rfl (lBT rfl) (St ⟨w, Φ, []⟩ Φ []) (StP.init w Φ hΦ []) ?_
 show AW pg 19 [] _ _ _ [(0, iV n), (1, iV d)] _
 refine AW.seq (AW.region (RW.q (v := .bool false) rfl (q_assign rfl) (RW.nil (Post.then_n (AW.seq (AW.region (RW.q rfl (q_move rfl) (RW.q (v := .bool (decide (0 ≤ n ∧ n ≤ 1125899906842624))) rfl (q_call (args := #[iV n]) oK rfl rfl (fun w1 hw1 => bVol_c w1 (Go.K.hp w1) (Hp.le_refl _))) (RW.q rfl (q_move rfl) ?_)))))))))
 refine RW.g (b := (decide (0 ≤ n ∧ n ≤ 1125899906842624))) (v := iV d) rfl rfl rfl (fun h => q_move rfl) (RW.g (b := (decide (0 ≤ n ∧ n ≤ 1125899906842624))) (v := .bool (decide (0 ≤ d ∧ d ≤ 1125899906842624))) rfl rfl rfl (fun h => q_call (args := #[iV d]) oK rfl (args1 (gv_pos h)) (fun w1 hw1 => bVol_c w1 (Go.K.hp w1) (Hp.le_refl _))) ?_)
 obtain ⟨qb1, hqb1⟩ : ∃ qz : Bool, ((decide (0 ≤ n ∧ n ≤ 1125899906842624)) && (decide (0 ≤ d ∧ d ≤ 1125899906842624))) = qz := ⟨_, rfl⟩
 refine RW.q (v := .bool qb1) rfl (q_as (v := .bool ((decide (0 ≤ n ∧ n ≤ 1125899906842624)) && (decide (0 ≤ d ∧ d ≤ 1125899906842624)))) (qpA rfl rfl rfl) (congrArg Value.bool hqb1)) (RW.q rfl (q_move rfl) (RW.g (b := qb1) (v := iV d) rfl rfl rfl (fun h => q_move rfl) (RW.g (b := qb1) (v := .bool (!decide (d = 0))) rfl rfl rfl (fun h => q_neq (gv_pos h) rfl) (RW.g (b := qb1) (v := .bool (!decide (d = 0))) rfl rfl rfl (fun h => q_move (gv_pos h)) (RW.g2 (b1 := qb1) (b2 := (!decide (d = 0))) (v := iV n) rfl rfl rfl (fun hg1 hg2 => q_move rfl) (RW.g2 (b1 := qb1) (b2 := (!decide (d = 0))) (v := .bool (decide (n = 0))) rfl rfl rfl (fun hg1 hg2 => q_eql ((gv_pos hg1).trans (gv_pos hg2)) rfl) ?_))))))
 obtain ⟨qb2, hqb2⟩ : ∃ qz : Bool, ((!decide (d = 0)) || (decide (n = 0))) = qz := ⟨_, rfl⟩
 refine RW.g (b := qb1) (v := .bool qb2) rfl rfl rfl (fun h => q_as (v := .bool ((!decide (d = 0)) || (decide (n = 0)))) (q_pick (gv_pos h) (fun hp => pkOrT hp) (fun hp => (gv_pos h).trans ((gv_pos hp).trans (pkOrF hp)))) (congrArg Value.bool hqb2)) (RW.q (v := .bool (qb1 && qb2)) rfl (qpA rfl rfl rfl) (RW.q (v := .bool (qb1 && qb2)) rfl (q_assign rfl) ?_))
 subst hqb2 hqb1
 refine RW.nil (Post.then_n (AW.ret ?_))
 exact fin_val (v' := .bool (((decide (0 ≤ n ∧ n ≤ 1125899906842624)) && (decide (0 ≤ d ∧ d ≤ 1125899906842624))) && ((!decide (d = 0)) || (decide (n = 0))))) rfl rfl rfl (congrArg Value.bool (by rw [Bool.eq_iff_iff]; simp only [Bool.and_eq_true, Bool.or_eq_true, Bool.not_eq_true', decide_eq_true_eq, decide_eq_false_iff_not] <;> omega))
theorem bTgt_c (w : World) (Φ : Hp) (hΦ : Hp.le Φ (hp w)) {b : Bt.Basin} {cs : List Value} (hB : RepV Φ b cs) {n d : Int} :
  Calls pg 59 #[.agg cs.toArray, iV n, iV d] w fun e w' => e = .returned (.bool (decide (d = -1 ∨ (0 ≤ d ∧ d < (b.Places.length : Int)) ∧ d ≠ n))) ∧ Bel w.heap.size w w' := by
 obtain ⟨v1, v3, v4, v5, v6, v7, v8, v9, hcs, hBw, r1, r3, r4, r5, r6, r7, r8, r9⟩ := (show Rep.rep Φ b cs from hB)
 subst hcs
 have hpm : b.Places.length * 152 ≤ 140737488355328 := r3.max
 refine calls_of_AW (args := [.agg (cl31 b v1 v3 v4 v5 v6 v7 v8 v9).toArray, iV n, iV d]) Try.func59 rfl (lBT rfl) (St ⟨w, Φ, []⟩ Φ []) (StP.init w Φ hΦ []) ?_
 show AW pg 21 [] _ _ _ [(0, .agg (cl31 b v1 v3 v4 v5 v6 v7 v8 v9).toArray), (1, iV n), (2, iV d)] _
 refine AW.seq (AW.region (RW.eff (fun b1 : Nat => pV b1 0) (fun b1 => St ⟨w, Φ, []⟩ Φ [.blk b1 31 (cl31 b v1 v3 v4 v5 v6 v7 v8 v9)]) rfl (e_boxA (cs := cl31 b v1 v3 v4 v5 v6 v7 v8 v9) rfl) ?_))
 intro b1
 refine RW.q (v := .bool false) rfl (q_assign rfl) (RW.nil (Post.then_n (AW.seq (AW.region (RW.q rfl (q_move rfl) (RW.q (v := .bool (decide (d = (-1)))) rfl (q_eql rfl rfl) (RW.q rfl (q_move rfl) (RW.g (b := (decide (d = (-1)))) (v := iV d) rfl rfl rfl (fun h => q_move rfl) (RW.g (b := (decide (d = (-1)))) (v := pV b1 3) rfl rfl rfl (fun h => q_fieldAddr rfl uT31 rfl sz23 rfl) ?_)))))))))
 refine RW.g (b := (decide (d = (-1)))) (v := v3) rfl rfl rfl (fun h => q_load (gv_pos h) uT23 rfl (Cell.blk 0 rfl rfl)) (RW.g (b := (decide (d = (-1)))) (v := iV (b.Places.length : Int)) rfl rfl rfl (fun h => q_len_sl (gv_pos h) r3.sl uT23) (RW.g (b := (decide (d = (-1)))) (v := .bool (decide (0 ≤ d ∧ d < (b.Places.length : Int)))) rfl rfl rfl (fun h => q_call (args := #[iV d, iV (b.Places.length : Int)]) oK rfl (args2 (gv_pos h) (gv_pos h)) (fun w1 hw1 => bIdx_c w1 (Go.K.hp w1) (Hp.le_refl _) (by (try simp [-List.getD_eq_getElem?_getD] at h); omega))) ?_))
 refine RW.g (b := (decide (d = (-1)))) (v := .bool (decide (0 ≤ d ∧ d < (b.Places.length : Int)))) rfl rfl rfl (fun h => q_move (gv_pos h)) (RW.g2 (b1 := (decide (d = (-1)))) (b2 := (decide (0 ≤ d ∧ d < (b.Places.length : Int)))) (v := iV d) rfl rfl rfl (fun hg1 hg2 => q_move rfl) (RW.g2 (b1 := (decide (d = (-1)))) (b2 := (decide (0 ≤ d ∧ d < (b.Places.length : Int)))) (v := iV n) rfl rfl rfl (fun hg1 hg2 => q_move rfl) (RW.g2 (b1 := (decide (d = (-1)))) (b2 := (decide (0 ≤ d ∧ d < (b.Places.length : Int)))) (v := .bool (!decide (d = n))) rfl rfl rfl (fun hg1 hg2 => q_neq ((gv_pos hg1).trans (gv_pos hg2)) ((gv_pos hg1).trans (gv_pos hg2))) ?_)))
 obtain ⟨qb1, hqb1⟩ : ∃ qz : Bool, ((decide (0 ≤ d ∧ d < (b.Places.length : Int))) && (!decide (d = n))) = qz := ⟨_, rfl⟩
 refine RW.g (b := (decide (d = (-1)))) (v := .bool qb1) rfl rfl rfl (fun h => q_as (v := .bool ((decide (0 ≤ d ∧ d < (b.Places.length : Int))) && (!decide (d = n)))) (q_pick (gv_pos h) (fun hp => (gv_pos h).trans ((gv_pos hp).trans (pkAndT hp))) (fun hp => pkAndF hp)) (congrArg Value.bool hqb1)) (RW.q (v := .bool ((decide (d = (-1))) || qb1)) rfl (qpO rfl rfl rfl) (RW.q (v := .bool ((decide (d = (-1))) || qb1)) rfl (q_assign rfl) ?_))
 subst hqb1
 refine RW.nil (Post.then_n (AW.ret ?_))
 exact fin_val (v' := .bool ((decide (d = (-1))) || ((decide (0 ≤ d ∧ d < (b.Places.length : Int))) && (!decide (d = n))))) rfl rfl rfl (congrArg Value.bool (by rw [Bool.eq_iff_iff]; simp only [Bool.and_eq_true, Bool.or_eq_true, Bool.not_eq_true', decide_eq_true_eq, decide_eq_false_iff_not] <;> omega))
theorem bNext_c (w : World) (Φ : Hp) (hΦ : Hp.le Φ (hp w)) {b : Bt.Basin} {cs : List Value} (hB : RepV Φ b cs) {n d : Int} (hd : d ≠ -1 → 0 ≤ d ∧ d < (b.Places.length : Int)) (hn : 0 ≤ n ∧ n ≤ 2) :
  Calls pg 63 #[.agg cs.toArray, iV n, iV d] w fun e w' => e = .returned (.bool (decide ((d = -1 → n = 2) ∧ (d ≠ -1 → (b.Places.getD d.toNat default).Office = n ∨ (b.Places.getD d.toNat default).Office = n + 1)))) ∧ Bel w.heap.size w w' := by
 obtain ⟨v1, v3, v4, v5, v6, v7, v8, v9, hcs, hBw, r1, r3, r4, r5, r6, r7, r8, r9⟩ := (show Rep.rep Φ b cs from hB)
 subst hcs
 have hpm : b.Places.length * 152 ≤ 140737488355328 := r3.max
 refine calls_of_AW (args := [.agg (cl31 b v1 v3 v4 v5 v6 v7 v8 v9).toArray, iV n, iV d]) Try.func63 rfl (lBT rfl) (St ⟨w, Φ, []⟩ Φ []) (StP.init w Φ hΦ []) ?_
 show AW pg 27 [] _ _ _ [(0, .agg (cl31 b v1 v3 v4 v5 v6 v7 v8 v9).toArray), (1, iV n), (2, iV d)] _
 refine AW.seq (AW.region (RW.eff (fun b1 : Nat => pV b1 0) (fun b1 => St ⟨w, Φ, []⟩ Φ [.blk b1 31 (cl31 b v1 v3 v4 v5 v6 v7 v8 v9)]) rfl (e_boxA (cs := cl31 b v1 v3 v4 v5 v6 v7 v8 v9) rfl) ?_))
 intro b1
 refine RW.q (v := .bool false) rfl (q_assign rfl) (RW.nil (Post.then_n (AW.seq (AW.seq (AW.region (RW.q rfl (q_move rfl) (RW.q (v := .bool (decide (d = (-1)))) rfl (q_eql rfl rfl) (RW.nil (Post.then_n ?_)))))))))
 refine AW.cond (b := decide (d = (-1))) rfl (fun hc1 => ?_) (fun hc1 => ?_)
 ·
  simp [-List.getD_eq_getElem?_getD] at hc1
  refine AW.seq (AW.region (RW.q rfl (q_move rfl) (RW.q (v := .bool (decide (n = 2))) rfl (q_eql rfl rfl) (RW.q (v := .bool (decide (n = 2))) rfl (q_assign rfl) (RW.nil (Post.then_n (AW.ret (Post.then_r ?_))))))))
  exact fin_val (v' := .bool (decide (n = 2))) rfl rfl rfl (congrArg Value.bool (decide_eq_decide.2 (by omega)))
 ·
  simp [-List.getD_eq_getElem?_getD] at hc1
  refine AW.skip (Post.then_n (AW.seq (AW.region (RW.q (v := pV b1 3) rfl (q_fieldAddr rfl uT31 rfl sz23 rfl) (RW.q (v := v3) rfl (q_load rfl uT23 rfl (Cell.blk 0 rfl rfl)) (RW.q rfl (q_move rfl) (RW.q (v := .pointer (some (Value.at v3 (d.toNat * 12)))) rfl (q_indexAddr rfl rfl r3.sl uT23 sz62 (by omega) (by omega) rfl) (RW.q (v := .pointer (some (Value.at v3 (d.toNat * 12 + 2)))) rfl (q_fieldAddr rfl uT62 rfl sz3 at_add) (RW.q (v := iV ((b.Places.getD d.toNat default).Office)) rfl (q_load rfl uT3 rfl (Cell.repJ (j := 2) r3 (by omega) (fun h => leaf62_2 h))) ?_)))))))))
  refine RW.q (v := iV ((b.Places.getD d.toNat default).Office)) rfl (q_assign rfl) (RW.nil (Post.then_n (AW.seq (AW.region (RW.q rfl (q_move rfl) (RW.q rfl (q_move rfl) (RW.q (v := .bool (decide ((b.Places.getD d.toNat default).Office = n))) rfl (q_eql rfl rfl) (RW.q rfl (q_move rfl) (RW.g (b := (decide ((b.Places.getD d.toNat default).Office = n))) (v := iV ((b.Places.getD d.toNat default).Office)) rfl rfl rfl (fun h => q_move rfl) ?_)))))))))
  refine RW.g (b := (decide ((b.Places.getD d.toNat default).Office = n))) (v := iV n) rfl rfl rfl (fun h => q_move rfl) (RW.g (b := (decide ((b.Places.getD d.toNat default).Office = n))) (v := iV (n + 1)) rfl rfl rfl (fun h => q_add (gv_pos h) rfl (by (try simp [-List.getD_eq_getElem?_getD] at h); omega) (by (try simp [-List.getD_eq_getElem?_getD] at h); unfold I64; omega)) ?_)
  refine RW.g (b := (decide ((b.Places.getD d.toNat default).Office = n))) (v := .bool (decide ((b.Places.getD d.toNat default).Office = n + 1))) rfl rfl rfl (fun h => q_eql (gv_pos h) (gv_pos h)) ?_
  obtain ⟨qb1, hqb1⟩ : ∃ qz : Bool, ((decide ((b.Places.getD d.toNat default).Office = n)) || (decide ((b.Places.getD d.toNat default).Office = n + 1))) = qz := ⟨_, rfl⟩
  refine RW.q (v := .bool qb1) rfl (q_as (v := .bool ((decide ((b.Places.getD d.toNat default).Office = n)) || (decide ((b.Places.getD d.toNat default).Office = n + 1)))) (qpO rfl rfl rfl) (congrArg Value.bool hqb1)) (RW.q (v := .bool qb1) rfl (q_assign rfl) ?_)
  subst hqb1
  refine RW.nil (Post.then_n (AW.ret ?_))
  exact fin_val (v' := .bool ((decide ((b.Places.getD d.toNat default).Office = n)) || (decide ((b.Places.getD d.toNat default).Office = n + 1)))) rfl rfl rfl (congrArg Value.bool (by rw [Bool.eq_iff_iff]; simp only [Bool.or_eq_true, decide_eq_true_eq] <;> omega))
theorem value1_c (w : World) (Φ : Hp) (hΦ : Hp.le Φ (hp w)) {c : List Bt.Point} {v1 : Value} (h1 : RepSl Φ c v1) {x : Int} {b1 b2 : Nat} (p1 : PCell Φ ⟨b1, 0, none⟩ v1) (p2 : PCell Φ ⟨b2, 0, none⟩ (iV x)) {i : Nat} (hi : i < c.length) :
  Calls pg 94 #[iV (i : Int), .pointer (some ⟨b1, 0, none⟩), .pointer (some ⟨b2, 0, none⟩)] w fun e w' => e = .returned (.bool (decide (x < (c.getD i default).X))) ∧ Bel w.heap.size w w' := by
 refine calls_of_AW (args := [iV (i : Int), pV b1 0, pV b2 0]) Try.func94 rfl (lBT rfl) (St ⟨w, Φ, []⟩ Φ []) (StP.init w Φ hΦ []) ?_
 show AW pg 12 [] _ _ _ [(0, iV (i : Int)), (1, pV b1 0), (2, pV b2 0)] _
 have hm1 : c.length * 16 ≤ 140737488355328 := h1.max
 refine AW.seq (AW.region (RW.q (v := .bool false) rfl (q_assign rfl) (RW.nil (Post.then_n (AW.seq (AW.draw (J0 := St ⟨w, Φ, []⟩ Φ []) [.q, .q, .q, .q, .q, .q, .q, .q] [0, 1, 2, 3, 4, 5, 6, 7] hmix (by kernel_rfl) (DW.q (v := v1) (fun _ h => h) rfl (q_load rfl uT59 rfl (Cell.phi p1)) (DW.q (fun _ h => h) rfl (q_move rfl) (DW.q (v := .pointer (some (Value.at v1 (i * 2)))) (fun _ h => h) rfl (q_indexAddr rfl rfl h1.sl uT59 sz122 (by omega) (by omega) rfl) ?_)))))))))
 refine DW.q (v := .pointer (some (Value.at v1 (i * 2 + 0)))) (fun _ h => h) rfl (q_fieldAddr rfl uT122 rfl sz3 at_add) (DW.q (v := iV ((c.getD i default).X)) (fun _ h => h) rfl (q_load rfl uT3 rfl (Cell.repE (j := 0) h1 (by omega) rfl)) (DW.q (v := iV x) (fun _ h => h) rfl (q_load rfl uT3 rfl (Cell.phi p2)) (DW.q (v := .bool (decide (x < (c.getD i default).X))) (fun _ h => h) rfl (q_gtr rfl rfl) (DW.q (v := .bool (decide (x < (c.getD i default).X))) (fun _ h => h) rfl (q_assign rfl) (DW.nil (Post.then_n (AW.ret ?_)))))))
 exact fin_val (v' := .bool (decide (x < (c.getD i default).X))) rfl rfl rfl (rfl)
theorem value_c (w : World) (Φ : Hp) (hΦ : Hp.le Φ (hp w)) {c : List Bt.Point} {v1 : Value} (h1 : RepSl Φ c v1) (hR : Fu.RightC c) {x : Int} (_ : I64 x) :
  Calls pg 87 #[v1, iV x] w fun e w' => e = .returned (.tuple #[iV (Fu.valC c x), .bool (Fu.remC c x)]) ∧ Bel w.heap.size w w' := by
 refine calls_of_AW (args := [v1, iV x]) Try.func87 rfl (lBT rfl) (St ⟨w, Φ, []⟩ Φ []) (StP.init w Φ hΦ []) ?_
 show AW pg 63 [] _ _ _ [(0, v1), (1, iV x)] _
 have hm1 : c.length * 16 ≤ 140737488355328 := h1.max
 have hl1 := hR.1.1
 have hpl := Ba.posG_le c x
 refine AW.seq (AW.region (RW.eff (fun b1 : Nat => pV b1 0) (fun b1 => St ⟨w, Φ, []⟩ Φ [.blk b1 59 [v1]]) rfl (e_boxSl rfl h1.sl) ?_))
 intro b1
 refine RW.eff (fun b2 : Nat => pV b2 0) (fun b2 => St ⟨w, Φ, []⟩ Φ [.blk b2 3 [iV x], .blk b1 59 [v1]]) rfl (e_box (v := iV x) rfl) ?_
 intro b2
 refine RW.q (v := iV 0) rfl (q_assign rfl) (RW.q (v := .bool false) rfl (q_assign rfl) (RW.nil (Post.then_n (AW.seq (AW.region (RW.q (v := v1) rfl (q_load rfl uT59 rfl (Cell.blk 1 rfl rfl)) (RW.q (v := iV (c.length : Int)) rfl (q_len_sl rfl h1.sl uT59) (RW.q (v := .func (.func 94) #[] #[pV b1 0, pV b2 0]) rfl (q_makeFunc rfl rfl) (RW.q (v := iV ((Ba.posG c x : Nat) : Int)) rfl (q_call (args := #[iV (c.length : Int), .func (.func 94) #[] #[pV b1 0, pV b2 0]]) oK rfl rfl (fun w1 hw1 => Search_c w1 (Go.K.hp w1) (Hp.le_refl _) (capt := #[pV b1 0, pV b2 0]) oK (by omega) hpl (fun w2 hb2 i hi => (value1_c w2 (Go.K.hp w2) (Hp.le_refl _) ((h1.mono hw1.phi).mono (below_le hb2)) ((blk_cell (hw1.sAt 1 rfl) rfl).mono (below_le hb2)) ((blk_cell (hw1.sAt 0 rfl) rfl).mono (below_le hb2)) hi).mono fun e w3 ⟨he, hb3⟩ => ⟨by rw [he]; exact congrArg (fun q => Ending.returned (.bool q)) (decide_eq_decide.2 (Ba.posG_iff hR hi).symm), hb3⟩))) ?_)))))))))
 refine RW.q (v := iV ((Ba.posG c x : Nat) : Int)) rfl (q_assign rfl) (RW.nil (Post.then_n (AW.seq (AW.seq (AW.region (RW.q rfl (q_move rfl) (RW.q (v := .bool (decide (((Ba.posG c x : Nat) : Int) = 0))) rfl (q_eql rfl rfl) (RW.nil (Post.then_n ?_)))))))))
 refine AW.cond (b := decide (((Ba.posG c x : Nat) : Int) = 0)) rfl (fun hc1 => ?_) (fun hc1 => ?_)
 ·
  simp [-List.getD_eq_getElem?_getD] at hc1
  refine AW.seq (AW.region (RW.q (v := v1) rfl (q_load rfl uT59 rfl (Cell.blk 1 rfl rfl)) (RW.q (v := .pointer (some (Value.at v1 (0 * 2)))) rfl (q_indexAddr rfl rfl h1.sl uT59 sz122 (by omega) (by omega) rfl) (RW.q (v := .pointer (some (Value.at v1 (0 * 2 + 1)))) rfl (q_fieldAddr rfl uT122 rfl sz3 at_add) (RW.q (v := iV ((c.getD 0 default).Y)) rfl (q_load rfl uT3 rfl (Cell.repE (j := 1) h1 (by omega) rfl)) (RW.q (v := iV ((c.getD 0 default).Y)) rfl (q_assign rfl) (RW.q (v := .bool false) rfl (q_assign rfl) (RW.nil (Post.then_n ?_)))))))))
  refine AW.ret (Post.then_r (fin_out2 (v := iV ((c.getD 0 default).Y)) (u := .bool false) rfl rfl rfl rfl (fun w' hw => ?_)))
  refine ⟨?_, hw.below rfl⟩
  have h9 := Ba.val_0 hR (x := x) ((Ba.posG_iff hR (by omega)).1 (by omega))
  rw [h9.1, h9.2]
  rfl
 ·
  simp [-List.getD_eq_getElem?_getD] at hc1
  refine AW.skip (Post.then_n (AW.seq ?_))
  obtain ⟨P, hP⟩ : ∃ P, Ba.posG c x = P + 1 := ⟨Ba.posG c x - 1, by omega⟩
  rw [hP]
  have hPc : P < c.length := by omega
  have hPx : Fu.px c P ≤ x := by have h9 := (Ba.posG_iff hR hPc (x := x)); omega
  refine AW.region (RW.q (v := v1) rfl (q_load rfl uT59 rfl (Cell.blk 1 rfl rfl)) (RW.q rfl (q_move rfl) (RW.q (v := iV (P : Int)) rfl (q_as (v := iV (((P + 1 : Nat) : Int) - 1)) (q_sub rfl rfl (by omega) (by unfold I64; omega)) (congrArg (Value.int .i64) (by omega))) (RW.q (v := .pointer (some (Value.at v1 (P * 2)))) rfl (q_indexAddr rfl rfl h1.sl uT59 sz122 (by omega) (by omega) rfl) (RW.q (v := .agg #[iV ((c.getD P default).X), iV ((c.getD P default).Y)]) rfl (q_loadAgg rfl uT122 rfl sz122 rfl (Cells.repE h1 (by omega) rfl)) (RW.eff (fun b3 : Nat => pV b3 0) (fun b3 => St ⟨w, Φ, []⟩ Φ [.blk b3 122 [iV 0, iV 0], .blk b2 3 [iV x], .blk b1 59 [v1]]) rfl (e_alloc zero122) ?_))))))
  intro b3
  refine RW.effn (J' := St ⟨w, Φ, []⟩ Φ [.blk b3 122 [iV ((c.getD P default).X), iV ((c.getD P default).Y)], .blk b2 3 [iV x], .blk b1 59 [v1]]) (e_store (v := .agg #[iV ((c.getD P default).X), iV ((c.getD P default).Y)]) 0 rfl rfl rfl sz122 rfl rfl rfl rfl rfl) (RW.nil (Post.then_n (AW.seq (AW.seq (AW.region (RW.q rfl (q_move rfl) (RW.q (v := v1) rfl (q_load rfl uT59 rfl (Cell.blk 2 rfl rfl)) (RW.q (v := iV (c.length : Int)) rfl (q_len_sl rfl h1.sl uT59) (RW.q (v := .bool (decide (((P + 1 : Nat) : Int) = (c.length : Int)))) rfl (q_eql rfl rfl) ?_)))))))))
  refine RW.nil (Post.then_n (AW.cond (b := decide (((P + 1 : Nat) : Int) = (c.length : Int))) rfl (fun hc2 => ?_) (fun hc2 => ?_)))
  ·
   simp [-List.getD_eq_getElem?_getD] at hc2
   refine AW.seq (AW.region (RW.q (v := pV b3 1) rfl (q_fieldAddr rfl uT122 rfl sz3 rfl) (RW.q (v := iV ((c.getD P default).Y)) rfl (q_load rfl uT3 rfl (Cell.blk 0 rfl rfl)) (RW.q (v := iV ((c.getD P default).Y)) rfl (q_assign rfl) (RW.q (v := .bool false) rfl (q_assign rfl) (RW.nil (Post.then_n (AW.ret (Post.then_r ?_)))))))))
   refine fin_out2 (v := iV ((c.getD P default).Y)) (u := .bool false) rfl rfl rfl rfl (fun w' hw => ?_)
   refine ⟨?_, hw.below rfl⟩
   have h9 := Ba.val_top hR (x := x) (by have h8 : c.length - 1 = P := (by omega); rw [h8]; exact hPx)
   rw [h9.1, h9.2, show c.length - 1 = P by omega]
   rfl
  ·
   simp [-List.getD_eq_getElem?_getD] at hc2
   refine AW.skip (Post.then_n (AW.seq ?_))
   have hlt2 : P + 1 < c.length := by omega
   have hPx2 : x < Fu.px c (P + 1) := (Ba.posG_iff hR hlt2).1 (by omega)
   have hvs := Ba.val_seg hR hlt2 hPx hPx2
   have s9 := Fu.seg_of hR (show 0 < P + 1 by omega) hlt2
   have w0 := s9.w0; have d0 := s9.d0; have wM := s9.wM; have dM := s9.dM
   have hmd := Fu.mul_div_rng (k := x - Fu.px c P) (by omega) (show x - Fu.px c P ≤ Fu.px c (P + 1) - Fu.px c P by omega) w0 d0
   have hpt1 := (hR.pt hlt2).1
   have hpt0 := (hR.pt hPc).1
   have hpy1 := (hR.pt hlt2).2.1
   have hpy0 := (hR.pt hPc).2.1
   simp only [Nat.add_sub_cancel] at w0 d0 wM dM hmd
   simp only [Fu.px, Fu.py] at hvs hPx hPx2 w0 d0 wM dM hmd hpt1 hpt0 hpy1 hpy0
   refine AW.draw (J0 := St ⟨w, Φ, []⟩ Φ [.blk b3 122 [iV ((c.getD P default).X), iV ((c.getD P default).Y)], .blk b2 3 [iV x], .blk b1 59 [v1]]) [.q, .q, .q, .q, .q, .q, .q, .q, .q, .q, .q, .q, .q, .q, .q, .q, .q, .q, .q, .q, .q, .q, .q, .q, .q, .q, .q, .q] [0, 1, 2, 3, 4, 5, 6, 7, 8, 9, 10, 11, 12, 13, 14, 15, 16, 17, 18, 19, 20, 21, 22, 23, 24, 25, 26, 27] hmix (by kernel_rfl) (DW.q (v := iV x) (fun _ h => h) rfl (q_load rfl uT3 rfl (Cell.blk 1 rfl rfl)) (DW.q (v := pV b3 0) (fun _ h => h) rfl (q_fieldAddr rfl uT122 rfl sz3 rfl) (DW.q (v := iV ((c.getD P default).X)) (fun _ h => h) rfl (q_load rfl uT3 rfl (Cell.blk 0 rfl rfl)) (DW.q (v := iV (x - ((c.getD P default).X))) (fun _ h => h) rfl (q_sub rfl rfl (by omega) (by unfold I64; omega)) (DW.q (v := v1) (fun _ h => h) rfl (q_load rfl uT59 rfl (Cell.blk 2 rfl rfl)) (DW.q (fun _ h => h) rfl (q_move rfl) (DW.q (v := .pointer (some (Value.at v1 ((P + 1) * 2)))) (fun _ h => h) rfl (q_indexAddr rfl rfl h1.sl uT59 sz122 (by omega) (by omega) rfl) (DW.q (v := .pointer (some (Value.at v1 ((P + 1) * 2 + 1)))) (fun _ h => h) rfl (q_fieldAddr rfl uT122 rfl sz3 at_add) (DW.q (v := iV ((c.getD (P + 1) default).Y)) (fun _ h => h) rfl (q_load rfl uT3 rfl (Cell.repE (j := 1) h1 (by omega) rfl)) ?_)))))))))
   refine DW.q (v := pV b3 1) (fun _ h => h) rfl (q_fieldAddr rfl uT122 rfl sz3 rfl) (DW.q (v := iV ((c.getD P default).Y)) (fun _ h => h) rfl (q_load rfl uT3 rfl (Cell.blk 0 rfl rfl)) (DW.q (v := iV (((c.getD (P + 1) default).Y) - ((c.getD P default).Y))) (fun _ h => h) rfl (q_sub rfl rfl (by omega) (by unfold I64; omega)) (DW.q (v := v1) (fun _ h => h) rfl (q_load rfl uT59 rfl (Cell.blk 2 rfl rfl)) (DW.q (fun _ h => h) rfl (q_move rfl) (DW.q (v := .pointer (some (Value.at v1 ((P + 1) * 2)))) (fun _ h => h) rfl (q_indexAddr rfl rfl h1.sl uT59 sz122 (by omega) (by omega) rfl) (DW.q (v := .pointer (some (Value.at v1 ((P + 1) * 2 + 0)))) (fun _ h => h) rfl (q_fieldAddr rfl uT122 rfl sz3 at_add) (DW.q (v := iV ((c.getD (P + 1) default).X)) (fun _ h => h) rfl (q_load rfl uT3 rfl (Cell.repE (j := 0) h1 (by omega) rfl)) (DW.q (v := pV b3 0) (fun _ h => h) rfl (q_fieldAddr rfl uT122 rfl sz3 rfl) (DW.q (v := iV ((c.getD P default).X)) (fun _ h => h) rfl (q_load rfl uT3 rfl (Cell.blk 0 rfl rfl)) ?_)))))))))
   refine DW.q (v := iV (((c.getD (P + 1) default).X) - ((c.getD P default).X))) (fun _ h => h) rfl (q_sub rfl rfl (by omega) (by unfold I64; omega)) (DW.q (v := .tuple #[iV ((x - ((c.getD P default).X)) * (((c.getD (P + 1) default).Y) - ((c.getD P default).Y)) / (((c.getD (P + 1) default).X) - ((c.getD P default).X))), iV ((x - ((c.getD P default).X)) * (((c.getD (P + 1) default).Y) - ((c.getD P default).Y)) % (((c.getD (P + 1) default).X) - ((c.getD P default).X))), .bool true]) (fun _ h => h) rfl (q_call (args := #[iV (x - ((c.getD P default).X)), iV (((c.getD (P + 1) default).Y) - ((c.getD P default).Y)), iV (((c.getD (P + 1) default).X) - ((c.getD P default).X))]) oK rfl rfl (fun w1 hw1 => Scale_c w1 (Go.K.hp w1) (Hp.le_refl _) (by omega) (by omega) (by omega) (by omega))) (DW.q (v := .tuple #[iV ((x - ((c.getD P default).X)) * (((c.getD (P + 1) default).Y) - ((c.getD P default).Y)) / (((c.getD (P + 1) default).X) - ((c.getD P default).X))), iV ((x - ((c.getD P default).X)) * (((c.getD (P + 1) default).Y) - ((c.getD P default).Y)) % (((c.getD (P + 1) default).X) - ((c.getD P default).X))), .bool true]) (fun _ h => h) rfl (q_move rfl) (DW.q (v := iV ((x - ((c.getD P default).X)) * (((c.getD (P + 1) default).Y) - ((c.getD P default).Y)) / (((c.getD (P + 1) default).X) - ((c.getD P default).X)))) (fun _ h => h) rfl (q_extract rfl rfl) (DW.q (v := iV ((x - ((c.getD P default).X)) * (((c.getD (P + 1) default).Y) - ((c.getD P default).Y)) % (((c.getD (P + 1) default).X) - ((c.getD P default).X)))) (fun _ h => h) rfl (q_extract rfl rfl) (DW.q (fun _ h => h) rfl (q_extract rfl rfl) (DW.q (v := iV ((x - ((c.getD P default).X)) * (((c.getD (P + 1) default).Y) - ((c.getD P default).Y)) / (((c.getD (P + 1) default).X) - ((c.getD P default).X)))) (fun _ h => h) rfl (q_assign rfl) (DW.q (v := iV ((x - ((c.getD P default).X)) * (((c.getD (P + 1) default).Y) - ((c.getD P default).Y)) % (((c.getD (P + 1) default).X) - ((c.getD P default).X)))) (fun _ h => h) rfl (q_assign rfl) (DW.q (v := .bool true) (fun _ h => h) rfl (q_assign rfl) (DW.nil ?_)))))))))
   refine Post.then_n (AW.seq (AW.region (RW.q (v := pV b3 1) rfl (q_fieldAddr rfl uT122 rfl sz3 rfl) (RW.q (v := iV ((c.getD P default).Y)) rfl (q_load rfl uT3 rfl (Cell.blk 0 rfl rfl)) (RW.q (v := iV ((x - ((c.getD P default).X)) * (((c.getD (P + 1) default).Y) - ((c.getD P default).Y)) / (((c.getD (P + 1) default).X) - ((c.getD P default).X)))) rfl (q_move rfl) (RW.q (v := iV (((c.getD P default).Y) + ((x - ((c.getD P default).X)) * (((c.getD (P + 1) default).Y) - ((c.getD P default).Y)) / (((c.getD (P + 1) default).X) - ((c.getD P default).X))))) rfl (q_add rfl rfl (by omega) (by unfold I64; omega)) (RW.q (v := iV ((x - ((c.getD P default).X)) * (((c.getD (P + 1) default).Y) - ((c.getD P default).Y)) % (((c.getD (P + 1) default).X) - ((c.getD P default).X)))) rfl (q_move rfl) (RW.q (v := .bool (decide ((0 : Int) < (x - ((c.getD P default).X)) * (((c.getD (P + 1) default).Y) - ((c.getD P default).Y)) % (((c.getD (P + 1) default).X) - ((c.getD P default).X))))) rfl (q_gtr rfl rfl) (RW.q (v := iV (((c.getD P default).Y) + ((x - ((c.getD P default).X)) * (((c.getD (P + 1) default).Y) - ((c.getD P default).Y)) / (((c.getD (P + 1) default).X) - ((c.getD P default).X))))) rfl (q_assign rfl) ?_)))))))))
   refine RW.q (v := .bool (decide ((0 : Int) < (x - ((c.getD P default).X)) * (((c.getD (P + 1) default).Y) - ((c.getD P default).Y)) % (((c.getD (P + 1) default).X) - ((c.getD P default).X))))) rfl (q_assign rfl) (RW.nil (Post.then_n (AW.ret (fin_out2 (v := iV (((c.getD P default).Y) + ((x - ((c.getD P default).X)) * (((c.getD (P + 1) default).Y) - ((c.getD P default).Y)) / (((c.getD (P + 1) default).X) - ((c.getD P default).X))))) (u := .bool (decide ((0 : Int) < (x - ((c.getD P default).X)) * (((c.getD (P + 1) default).Y) - ((c.getD P default).Y)) % (((c.getD (P + 1) default).X) - ((c.getD P default).X))))) rfl rfl rfl rfl (fun w' hw => ?_)))))
   refine ⟨?_, hw.below rfl⟩
   rw [hvs.1, hvs.2]
   rfl
theorem Under_c (w : World) (Φ : Hp) (hΦ : Hp.le Φ (hp w)) {a b : List Bt.Point} {v1 v2 : Value} (h1 : RepSl Φ a v1) (h2 : RepSl Φ b v2) :
  Calls pg 74 #[v1, v2] w fun e w' => e = .returned (.bool (decide (Ba.underC a b))) ∧ Bel w.heap.size w w' := by
 refine calls_of_AW (args := [v1, v2]) Try.func74 rfl (lBT rfl) (St ⟨w, Φ, []⟩ Φ []) (StP.init w Φ hΦ []) ?_
 show AW pg 66 [] _ _ _ [(0, v1), (1, v2)] _
 have hm1 : a.length * 16 ≤ 140737488355328 := h1.max
 have hm2 : b.length * 16 ≤ 140737488355328 := h2.max
 refine AW.seq (AW.region (RW.q (v := .bool false) rfl (q_assign rfl) (RW.nil (Post.then_n (AW.seq (AW.seq (AW.region (RW.q rfl (q_move rfl) (RW.q (v := .bool (decide (Fu.RightC a))) rfl (q_call (args := #[v1]) oK rfl rfl (fun w1 hw1 => cRight_c w1 (Go.K.hp w1) (Hp.le_refl _) (h1.mono hw1.phi))) ?_)))))))))
 refine RW.q (v := .bool (!(decide (Fu.RightC a)))) rfl (q_not rfl) (RW.q rfl (q_move rfl) (RW.g (b := (!(decide (Fu.RightC a)))) (v := v2) rfl rfl rfl (fun h => q_move rfl) (RW.g (b := (!(decide (Fu.RightC a)))) (v := .bool (decide (Fu.RightC b))) rfl rfl rfl (fun h => q_call (args := #[v2]) oK rfl (args1 (gv_pos h)) (fun w1 hw1 => cRight_c w1 (Go.K.hp w1) (Hp.le_refl _) (h2.mono hw1.phi))) (RW.g (b := (!(decide (Fu.RightC a)))) (v := .bool (!(decide (Fu.RightC b)))) rfl rfl rfl (fun h => q_not (gv_pos h)) ?_))))
 obtain ⟨qb1, hqb1⟩ : ∃ qz : Bool, ((!(decide (Fu.RightC a))) || (!(decide (Fu.RightC b)))) = qz := ⟨_, rfl⟩
 refine RW.q (v := .bool qb1) rfl (q_as (v := .bool ((!(decide (Fu.RightC a))) || (!(decide (Fu.RightC b))))) (qpO rfl rfl rfl) (congrArg Value.bool hqb1)) ?_
 subst hqb1
 refine RW.nil (Post.then_n (AW.cond (b := ((!(decide (Fu.RightC a))) || (!(decide (Fu.RightC b))))) rfl (fun hc1 => ?_) (fun hc1 => ?_)))
 ·
  simp [-List.getD_eq_getElem?_getD] at hc1
  refine AW.seq (AW.region (RW.q (v := .bool false) rfl (q_assign rfl) (RW.nil (Post.then_n (AW.ret (Post.then_r ?_))))))
  exact fin_val (v' := .bool false) rfl rfl rfl (congrArg Value.bool (decide_eq_false (fun h9 => by have h8 := h9.1; simp [h8.1, h8.2] at hc1)).symm)
 ·
  simp [-List.getD_eq_getElem?_getD] at hc1
  refine AW.skip (Post.then_n (AW.seq (AW.seq (AW.region (RW.q rfl (q_move rfl) (RW.q (v := iV (a.length : Int)) rfl (q_len_sl rfl h1.sl uT59) (RW.q rfl (q_move rfl) (RW.nil (Post.then_n ?_)))))))))
  refine AW.block (AW.loop (fun s J m => ∃ (k : Nat), s = [(0, v1), (1, v2), (21, v1), (22, iV (a.length : Int)), (23, iV (k : Int))] ∧ J = St ⟨w, Φ, []⟩ Φ [] ∧ m = a.length - k ∧ (k ≤ a.length) ∧ (∀ j, j < k → Fu.py a j ≤ Fu.valC b (Fu.px a j))) (s0 := _) (J1 := _) (m0 := _) ⟨0, rfl, rfl, rfl, (by omega), (fun j hj => absurd hj (by omega))⟩ ⟨rfl, rfl, rfl, rfl, rfl, trivial⟩ (fun _ h => h) ?_)
  rintro _ _ _ _ ⟨k, rfl, rfl, rfl, hk, hall⟩
  refine AW.seq (AW.region (RW.q (v := .bool (decide ((k : Int) < (a.length : Int)))) rfl (q_lss rfl rfl) (RW.nil (Post.then_n (AW.seq (AW.cond (b := decide ((k : Int) < (a.length : Int))) rfl (fun hc2 => ?_) (fun hc2 => ?_)))))))
  ·
   simp [-List.getD_eq_getElem?_getD] at hc2
   refine AW.skip (Post.then_n (AW.seq (AW.block (AW.seq (AW.region (RW.q (v := .pointer (some (Value.at v1 (k * 2)))) rfl (q_indexAddr rfl rfl h1.sl uT59 sz122 (by omega) (by omega) rfl) (RW.q (v := .agg #[iV ((a.getD k default).X), iV ((a.getD k default).Y)]) rfl (q_loadAgg rfl uT122 rfl sz122 rfl (Cells.repE h1 (by omega) rfl)) (RW.eff (fun b1 : Nat => pV b1 0) (fun b1 => St ⟨w, Φ, []⟩ Φ [.blk b1 122 [iV 0, iV 0]]) rfl (e_alloc zero122) ?_))))))))
   intro b1
   refine RW.effn (J' := St ⟨w, Φ, []⟩ Φ [.blk b1 122 [iV ((a.getD k default).X), iV ((a.getD k default).Y)]]) (e_store (v := .agg #[iV ((a.getD k default).X), iV ((a.getD k default).Y)]) 0 rfl rfl rfl sz122 rfl rfl rfl rfl rfl) (RW.nil (Post.then_n (AW.seq ?_)))
   have hpk := hc1.1.pt (show k < a.length by omega)
   unfold Fu.PtOk Fu.px Fu.py at hpk
   have hpI : I64 (a.getD k default).X := by unfold I64; omega
   refine AW.region (RW.q rfl (q_move rfl) (RW.q (v := pV b1 0) rfl (q_fieldAddr rfl uT122 rfl sz3 rfl) (RW.q (v := iV ((a.getD k default).X)) rfl (q_load rfl uT3 rfl (Cell.blk 0 rfl rfl)) (RW.q (v := .tuple #[iV (Fu.valC b ((a.getD k default).X)), .bool (Fu.remC b ((a.getD k default).X))]) rfl (q_call (args := #[v2, iV ((a.getD k default).X)]) oK rfl rfl (fun w1 hw1 => value_c w1 (Go.K.hp w1) (Hp.le_refl _) (h2.mono hw1.phi) hc1.2 hpI)) (RW.q rfl (q_move rfl) (RW.q rfl (q_extract rfl rfl) (RW.q rfl (q_extract rfl rfl) (RW.q (v := iV (Fu.valC b ((a.getD k default).X))) rfl (q_assign rfl) (RW.q (v := .bool (Fu.remC b ((a.getD k default).X))) rfl (q_assign rfl) ?_)))))))))
   refine RW.nil (Post.then_n (AW.seq (AW.region (RW.q (v := pV b1 1) rfl (q_fieldAddr rfl uT122 rfl sz3 rfl) (RW.q (v := iV ((a.getD k default).Y)) rfl (q_load rfl uT3 rfl (Cell.blk 0 rfl rfl)) (RW.q rfl (q_move rfl) (RW.q (v := .bool (decide (Fu.valC b ((a.getD k default).X) < (a.getD k default).Y))) rfl (q_gtr rfl rfl) (RW.nil (Post.then_n ?_)))))))))
   refine AW.cond (b := decide (Fu.valC b ((a.getD k default).X) < (a.getD k default).Y)) rfl (fun hc3 => ?_) (fun hc3 => ?_)
   ·
    simp [-List.getD_eq_getElem?_getD] at hc3
    refine AW.seq (AW.region (RW.q (v := .bool false) rfl (q_assign rfl) (RW.nil (Post.then_n (AW.ret (Post.blk_r (Post.then_r (Post.then_r (Post.blk_r (Post.then_r ?_))))))))))
    exact fin_val (v' := .bool false) rfl rfl rfl (congrArg Value.bool (decide_eq_false (fun h9 => by have h8 := h9.2.1 k (by omega); unfold Fu.py Fu.px at h8; omega)).symm)
   ·
    simp [-List.getD_eq_getElem?_getD] at hc3
    refine AW.skip (Post.blk_n (Post.then_n ?_))
    refine AW.region (RW.q (v := iV ((k + 1 : Nat) : Int)) rfl (q_add rfl rfl (by omega) (by unfold I64; omega)) (RW.q rfl (q_move rfl) (RW.nil ?_)))
    exact Post.back (s' := _) (J' := _) (m' := _) (by omega) ⟨k + 1, rfl, rfl, rfl, (by omega), (Fu.lt_succ hall (by unfold Fu.py Fu.px; omega))⟩ ⟨rfl, rfl, rfl, rfl, rfl, trivial⟩ (fun _ h => StP.drop h (by exact .cons _ .slnil))
  ·
   simp [-List.getD_eq_getElem?_getD] at hc2
   refine AW.exit (Post.then_x (Post.then_x (Post.blk_hit (Post.then_n ?_))))
   refine AW.seq (AW.seq (AW.region (RW.q rfl (q_move rfl) (RW.q (v := iV (b.length : Int)) rfl (q_len_sl rfl h2.sl uT59) (RW.q rfl (q_move rfl) (RW.nil (Post.then_n (AW.block (AW.loop (fun s J m => ∃ (i : Nat), s = [(0, v1), (39, v2), (40, iV (b.length : Int)), (41, iV (i : Int))] ∧ J = St ⟨w, Φ, []⟩ Φ [] ∧ m = b.length - i ∧ (i ≤ b.length) ∧ (∀ j, j < i → ¬ (Fu.py b j < Fu.valC a (Fu.px b j) ∨ Fu.valC a (Fu.px b j) = Fu.py b j ∧ Fu.remC a (Fu.px b j) = true))) (s0 := _) (J1 := _) (m0 := _) ⟨0, rfl, rfl, rfl, (by omega), (fun j hj => absurd hj (by omega))⟩ ⟨rfl, rfl, rfl, rfl, trivial⟩ (fun _ h => h) ?_)))))))))
   rintro _ _ _ _ ⟨i, rfl, rfl, rfl, hi, hal2⟩
   refine AW.seq (AW.region (RW.q (v := .bool (decide ((i : Int) < (b.length : Int)))) rfl (q_lss rfl rfl) (RW.nil (Post.then_n (AW.seq (AW.cond (b := decide ((i : Int) < (b.length : Int))) rfl (fun hc4 => ?_) (fun hc4 => ?_)))))))
   ·
    simp [-List.getD_eq_getElem?_getD] at hc4
    refine AW.skip (Post.then_n (AW.seq (AW.block (AW.seq (AW.region (RW.q (v := .pointer (some (Value.at v2 (i * 2)))) rfl (q_indexAddr rfl rfl h2.sl uT59 sz122 (by omega) (by omega) rfl) (RW.q (v := .agg #[iV ((b.getD i default).X), iV ((b.getD i default).Y)]) rfl (q_loadAgg rfl uT122 rfl sz122 rfl (Cells.repE h2 (by omega) rfl)) (RW.eff (fun b2 : Nat => pV b2 0) (fun b2 => St ⟨w, Φ, []⟩ Φ [.blk b2 122 [iV 0, iV 0]]) rfl (e_alloc zero122) ?_))))))))
    intro b2
    refine RW.effn (J' := St ⟨w, Φ, []⟩ Φ [.blk b2 122 [iV ((b.getD i default).X), iV ((b.getD i default).Y)]]) (e_store (v := .agg #[iV ((b.getD i default).X), iV ((b.getD i default).Y)]) 0 rfl rfl rfl sz122 rfl rfl rfl rfl rfl) (RW.nil (Post.then_n (AW.seq ?_)))
    have hpk := hc1.2.pt (show i < b.length by omega)
    unfold Fu.PtOk Fu.px Fu.py at hpk
    have hpI : I64 (b.getD i default).X := by unfold I64; omega
    refine AW.region (RW.q rfl (q_move rfl) (RW.q (v := pV b2 0) rfl (q_fieldAddr rfl uT122 rfl sz3 rfl) (RW.q (v := iV ((b.getD i default).X)) rfl (q_load rfl uT3 rfl (Cell.blk 0 rfl rfl)) (RW.q (v := .tuple #[iV (Fu.valC a ((b.getD i default).X)), .bool (Fu.remC a ((b.getD i default).X))]) rfl (q_call (args := #[v1, iV ((b.getD i default).X)]) oK rfl rfl (fun w1 hw1 => value_c w1 (Go.K.hp w1) (Hp.le_refl _) (h1.mono hw1.phi) hc1.1 hpI)) (RW.q rfl (q_move rfl) (RW.q rfl (q_extract rfl rfl) (RW.q rfl (q_extract rfl rfl) (RW.q (v := iV (Fu.valC a ((b.getD i default).X))) rfl (q_assign rfl) (RW.q (v := .bool (Fu.remC a ((b.getD i default).X))) rfl (q_assign rfl) ?_)))))))))
    refine RW.nil (Post.then_n (AW.seq (AW.region (RW.q rfl (q_move rfl) (RW.q (v := pV b2 1) rfl (q_fieldAddr rfl uT122 rfl sz3 rfl) (RW.q (v := iV ((b.getD i default).Y)) rfl (q_load rfl uT3 rfl (Cell.blk 0 rfl rfl)) (RW.q (v := .bool (decide ((b.getD i default).Y < Fu.valC a ((b.getD i default).X)))) rfl (q_gtr rfl rfl) (RW.q rfl (q_move rfl) (RW.g (b := (decide ((b.getD i default).Y < Fu.valC a ((b.getD i default).X)))) (v := iV (Fu.valC a ((b.getD i default).X))) rfl rfl rfl (fun h => q_move rfl) ?_)))))))))
    refine RW.g (b := (decide ((b.getD i default).Y < Fu.valC a ((b.getD i default).X)))) (v := pV b2 1) rfl rfl rfl (fun h => q_fieldAddr rfl uT122 rfl sz3 rfl) (RW.g (b := (decide ((b.getD i default).Y < Fu.valC a ((b.getD i default).X)))) (v := iV ((b.getD i default).Y)) rfl rfl rfl (fun h => q_load (gv_pos h) uT3 rfl (Cell.blk 0 rfl rfl)) (RW.g (b := (decide ((b.getD i default).Y < Fu.valC a ((b.getD i default).X)))) (v := .bool (decide (Fu.valC a ((b.getD i default).X) = (b.getD i default).Y))) rfl rfl rfl (fun h => q_eql (gv_pos h) (gv_pos h)) (RW.g (b := (decide ((b.getD i default).Y < Fu.valC a ((b.getD i default).X)))) (v := .bool (decide (Fu.valC a ((b.getD i default).X) = (b.getD i default).Y))) rfl rfl rfl (fun h => q_move (gv_pos h)) (RW.g2 (b1 := (decide ((b.getD i default).Y < Fu.valC a ((b.getD i default).X)))) (b2 := (decide (Fu.valC a ((b.getD i default).X) = (b.getD i default).Y))) (v := .bool (Fu.remC a ((b.getD i default).X))) rfl rfl rfl (fun hg1 hg2 => q_move rfl) ?_))))
    obtain ⟨qb2, hqb2⟩ : ∃ qz : Bool, ((decide (Fu.valC a ((b.getD i default).X) = (b.getD i default).Y)) && (Fu.remC a ((b.getD i default).X))) = qz := ⟨_, rfl⟩
    refine RW.g (b := (decide ((b.getD i default).Y < Fu.valC a ((b.getD i default).X)))) (v := .bool qb2) rfl rfl rfl (fun h => q_as (v := .bool ((decide (Fu.valC a ((b.getD i default).X) = (b.getD i default).Y)) && (Fu.remC a ((b.getD i default).X)))) (q_pick (gv_pos h) (fun hp => (gv_pos h).trans ((gv_pos hp).trans (pkAndT hp))) (fun hp => pkAndF hp)) (congrArg Value.bool hqb2)) ?_
    obtain ⟨qb3, hqb3⟩ : ∃ qz : Bool, ((decide ((b.getD i default).Y < Fu.valC a ((b.getD i default).X))) || qb2) = qz := ⟨_, rfl⟩
    refine RW.q (v := .bool qb3) rfl (q_as (v := .bool ((decide ((b.getD i default).Y < Fu.valC a ((b.getD i default).X))) || qb2)) (qpO rfl rfl rfl) (congrArg Value.bool hqb3)) ?_
    subst hqb3 hqb2
    refine RW.nil (Post.then_n (AW.cond (b := ((decide ((b.getD i default).Y < Fu.valC a ((b.getD i default).X))) || ((decide (Fu.valC a ((b.getD i default).X) = (b.getD i default).Y)) && (Fu.remC a ((b.getD i default).X))))) rfl (fun hc5 => ?_) (fun hc5 => ?_)))
    ·
     simp [-List.getD_eq_getElem?_getD] at hc5
     refine AW.seq (AW.region (RW.q (v := .bool false) rfl (q_assign rfl) (RW.nil (Post.then_n (AW.ret (Post.blk_r (Post.then_r (Post.then_r (Post.blk_r (Post.then_r ?_))))))))))
     exact fin_val (v' := .bool false) rfl rfl rfl (congrArg Value.bool (decide_eq_false (fun h9 => h9.2.2 i (by omega) (by unfold Fu.py Fu.px; exact hc5))).symm)
    ·
     simp [-List.getD_eq_getElem?_getD] at hc5
     refine AW.skip (Post.blk_n (Post.then_n ?_))
     refine AW.region (RW.q (v := iV ((i + 1 : Nat) : Int)) rfl (q_add rfl rfl (by omega) (by unfold I64; omega)) (RW.q rfl (q_move rfl) (RW.nil ?_)))
     exact Post.back (s' := _) (J' := _) (m' := _) (by omega) ⟨i + 1, rfl, rfl, rfl, (by omega), (Fu.lt_succ hal2 (by unfold Fu.py Fu.px; intro h9; rcases h9 with h9 | h9; exact absurd h9 (by omega); exact absurd (hc5.2 h9.1) (by rw [h9.2]; simp)))⟩ ⟨rfl, rfl, rfl, rfl, trivial⟩ (fun _ h => StP.drop h (by exact .cons _ .slnil))
   ·
    simp [-List.getD_eq_getElem?_getD] at hc4
    refine AW.exit (Post.then_x (Post.then_x (Post.blk_hit (Post.then_n ?_))))
    refine AW.seq (AW.region (RW.q (v := .bool true) rfl (q_assign rfl) (RW.nil (Post.then_n (AW.ret ?_)))))
    exact fin_val (v' := .bool true) rfl rfl rfl (congrArg Value.bool (decide_eq_true (show Ba.underC a b from ⟨hc1, fun j hj => hall j (by omega), fun j hj => hal2 j (by omega)⟩)).symm)
theorem slope_c (w : World) (Φ : Hp) (hΦ : Hp.le Φ (hp w)) {a d : Int} (ha : 0 ≤ a ∧ a ≤ 1125899906842624) (hd : 0 ≤ d ∧ d ≤ 1125899906842624) :
  Calls pg 64 #[iV a, iV d] w fun e w' => e = .returned (iV (Ba.slope a d)) ∧ Bel w.heap.size w w' := by
 obtain ⟨A, rfl⟩ := Int.eq_ofNat_of_zero_le ha.1
 obtain ⟨D, rfl⟩ := Int.eq_ofNat_of_zero_le hd.1
 refine calls_of_AW (args := [iV (A : Int), iV (D : Int)]) Try.func64 rfl (lBT rfl) (St ⟨w, Φ, []⟩ Φ []) (StP.init w Φ hΦ []) ?_
 show AW pg 34 [] _ _ _ [(0, iV (A : Int)), (1, iV (D : Int))] _
 obtain ⟨Z, hZ⟩ : ∃ Z, A * 1099511627776 = Z := ⟨_, rfl⟩
 refine AW.seq (AW.region (RW.q (v := iV 0) rfl (q_assign rfl) (RW.nil (Post.then_n (AW.seq (AW.seq (AW.region (RW.q rfl (q_move rfl) (RW.q (v := .bool (decide ((D : Int) = 0))) rfl (q_eql rfl rfl) ?_)))))))))
 refine RW.nil (Post.then_n (AW.cond (b := decide ((D : Int) = 0)) rfl (fun hc1 => ?_) (fun hc1 => ?_)))
 ·
  simp [-List.getD_eq_getElem?_getD] at hc1
  refine AW.seq (AW.region (RW.q (v := iV 0) rfl (q_assign rfl) (RW.nil (Post.then_n (AW.ret (Post.then_r ?_))))))
  exact fin_val (v' := iV 0) rfl rfl rfl (by unfold Ba.slope; rw [if_pos (by omega)])
 ·
  simp [-List.getD_eq_getElem?_getD] at hc1
  refine AW.skip (Post.then_n (AW.seq (AW.seq (AW.region (RW.q rfl (q_move rfl) (RW.q rfl (q_move rfl) (RW.q (v := .bool (decide ((D : Int) < (A : Int)))) rfl (q_gtr rfl rfl) (RW.nil (Post.then_n ?_)))))))))
  refine AW.cond (b := decide ((D : Int) < (A : Int))) rfl (fun hc2 => ?_) (fun hc2 => ?_)
  ·
   simp [-List.getD_eq_getElem?_getD] at hc2
   refine AW.seq (AW.region (RW.q (v := iV 1099511627777) rfl (q_assign rfl) (RW.nil (Post.then_n (AW.ret (Post.then_r ?_))))))
   exact fin_val (v' := iV 1099511627777) rfl rfl rfl (by unfold Ba.slope; rw [if_neg (by omega), if_pos (by omega)])
  ·
   simp [-List.getD_eq_getElem?_getD] at hc2
   refine AW.skip (Post.then_n (AW.seq (AW.region (RW.q rfl (q_move rfl) (RW.q (v := .int .u64 (A : Int)) rfl (q_toU (r := A) rfl uT3 uT83 rfl (by omega)) (RW.q (v := .tuple #[.int .u64 ((A * 1099511627776 / 18446744073709551616 : Nat) : Int), .int .u64 ((A * 1099511627776 % 18446744073709551616 : Nat) : Int)]) rfl (q_call (args := #[.int .u64 (A : Int), .int .u64 ((1099511627776 : Nat) : Int)]) oK rfl rfl (fun w1 hw1 => Mul64_c w1 (Go.K.hp w1) (Hp.le_refl _) (by omega) (by omega))) (RW.q rfl (q_move rfl) (RW.q rfl (q_extract rfl rfl) (RW.q rfl (q_extract rfl rfl) ?_)))))))))
   refine RW.q (v := .int .u64 ((A * 1099511627776 / 18446744073709551616 : Nat) : Int)) rfl (q_assign rfl) (RW.q (v := .int .u64 ((A * 1099511627776 % 18446744073709551616 : Nat) : Int)) rfl (q_assign rfl) (RW.nil (Post.then_n (AW.seq ?_))))
   rw [hZ]
   have hD : 0 < D := by omega
   have hzd : Z / 18446744073709551616 < D := by rw [Nat.div_lt_iff_lt_mul (by omega)]; omega
   have hml := Nat.mod_lt Z (show 0 < 18446744073709551616 by omega)
   have hdm : Z / 18446744073709551616 * 18446744073709551616 + Z % 18446744073709551616 = Z := by rw [Nat.mul_comm]; exact Nat.div_add_mod _ _
   have hq40 : Z / D ≤ 1099511627776 := Nat.div_le_of_le_mul (show Z ≤ D * 1099511627776 by omega)
   have hxe : (A : Int) * 1099511627776 / (D : Int) = ((Z / D : Nat) : Int) := by rw [← hZ, Int.natCast_ediv, Int.natCast_mul]; rfl
   have hxm : (A : Int) * 1099511627776 % (D : Int) = ((Z % D : Nat) : Int) := by rw [← hZ, Int.natCast_emod, Int.natCast_mul]; rfl
   refine AW.region (RW.q rfl (q_move rfl) (RW.q rfl (q_move rfl) (RW.q rfl (q_move rfl) (RW.q (v := .int .u64 (D : Int)) rfl (q_toU (r := D) rfl uT3 uT83 rfl (by omega)) (RW.q (v := .tuple #[.int .u64 ((((Z / 18446744073709551616) * 18446744073709551616 + (Z % 18446744073709551616)) / D : Nat) : Int), .int .u64 ((((Z / 18446744073709551616) * 18446744073709551616 + (Z % 18446744073709551616)) % D : Nat) : Int)]) rfl (q_call (args := #[.int .u64 ((Z / 18446744073709551616 : Nat) : Int), .int .u64 ((Z % 18446744073709551616 : Nat) : Int), .int .u64 (D : Int)]) oK rfl rfl (fun w1 hw1 => Div64_c w1 (Go.K.hp w1) (Hp.le_refl _) (by omega) (by omega) (by omega))) (RW.q rfl (q_move rfl) (RW.q rfl (q_extract rfl rfl) (RW.q rfl (q_extract rfl rfl) (RW.q (v := .int .u64 ((((Z / 18446744073709551616) * 18446744073709551616 + (Z % 18446744073709551616)) / D : Nat) : Int)) rfl (q_assign rfl) ?_)))))))))
   refine RW.q (v := .int .u64 ((((Z / 18446744073709551616) * 18446744073709551616 + (Z % 18446744073709551616)) % D : Nat) : Int)) rfl (q_assign rfl) (RW.nil (Post.then_n (AW.seq (AW.seq ?_))))
   rw [hdm]
   refine AW.region (RW.q rfl (q_move rfl) (RW.q (v := .bool (!decide (((Z % D : Nat) : Int) = ((0 : Nat) : Int)))) rfl (q_neq rfl rfl) (RW.nil (Post.then_n (AW.cond (b := !decide (((Z % D : Nat) : Int) = ((0 : Nat) : Int))) rfl (fun hc3 => ?_) (fun hc3 => ?_))))))
   ·
    simp [-List.getD_eq_getElem?_getD] at hc3
    refine AW.region (RW.q rfl (q_move rfl) (RW.q (v := .int .u64 (((Z / D) + 1 : Nat) : Int)) rfl (q_addU (a := (Z / D)) (b := 1) rfl rfl (Nat.mod_eq_of_lt (by omega))) (RW.q (v := .int .u64 (((Z / D) + 1 : Nat) : Int)) rfl (q_assign rfl) (RW.nil (Post.then_n (AW.seq (AW.region (RW.q rfl (q_move rfl) (RW.q (v := iV (((Z / D) + 1 : Nat) : Int)) rfl (q_ofU (a := ((Z / D) + 1)) rfl uT83 uT3 (by omega)) ?_)))))))))
    refine RW.q (v := iV (((Z / D) + 1 : Nat) : Int)) rfl (q_assign rfl) (RW.nil (Post.then_n (AW.ret ?_)))
    exact fin_val (v' := iV (((Z / D) + 1 : Nat) : Int)) rfl rfl rfl (congrArg (Value.int .i64) (by unfold Ba.slope; rw [if_neg (by omega), if_neg (by omega), hxe, hxm, if_neg (by omega)]; omega))
   ·
    simp [-List.getD_eq_getElem?_getD] at hc3
    refine AW.skip (Post.then_n (AW.seq (AW.region (RW.q rfl (q_move rfl) (RW.q (v := iV ((Z / D : Nat) : Int)) rfl (q_ofU (a := (Z / D)) rfl uT83 uT3 (by omega)) (RW.q (v := iV ((Z / D : Nat) : Int)) rfl (q_assign rfl) (RW.nil (Post.then_n (AW.ret ?_)))))))))
    exact fin_val (v' := iV ((Z / D : Nat) : Int)) rfl rfl rfl (congrArg (Value.int .i64) (by unfold Ba.slope; rw [if_neg (by omega), if_neg (by omega), hxe, hxm, if_pos (by omega)]; omega))
end Go.Proofs.Ytpeojogjeopfaaa
namespace Go.Proofs.Ytpeojogjeopfaaa
open Go Go.K Go.RowKit Go.WideMaps Go.Maps
theorem sz119 : (pg.info? 119).map (·.size) = some 2 := by kernel_rfl
theorem zero119 : (pg.info? 119).map (·.zero) = some (some (.agg #[.string ⟨#[]⟩, .string ⟨#[]⟩])) := by kernel_rfl
theorem places119 : Plc pg (fO Try.underlying119) #[(0, 1), (1, 1)] := fun w => by kernel_rfl
theorem sz89 : (pg.info? 89).map (·.size) = some 1 := by kernel_rfl
theorem zero89 : (pg.info? 89).map (·.zero) = some (some (.map none)) := by kernel_rfl
theorem laidOut_ : laidOutB pg = true := by kernel_rfl
theorem tySize : ∃ m, pg.types.size = m + 1 := ⟨pg.types.size - 1, by kernel_rfl⟩
theorem cells119 : pg.cellsOf 119 = 2 := by kernel_rfl
theorem cells9 : pg.cellsOf 9 = 1 := by kernel_rfl
theorem keyT119 : pg.keyType 119 = true := by kernel_rfl
theorem mark_key {a b : ByteArray} (ha : a.size ≤ maxLen) (hb : b.size ≤ maxLen) : ∃ l, keyOf pg 119 (.agg #[.string a, .string b]) = some l := by
  obtain ⟨m, hm⟩ := tySize
  have hf : (Value.agg #[.string a, .string b]).formed pg 119 = true := by simp [Value.formed, Try.underlying119, cells119]
  unfold keyOf
  rw [Try.underlying119]
  simp only [keyT119, hf, Bool.and_self, if_true, hm]
  refine ⟨.string (keyBytes [.string a.data.toList, .string b.data.toList]), ?_⟩
  simp [Program.keyLits, Try.underlying119, Try.underlying9, Value.cells, cells119, cells9, ha, hb]
abbrev markV (k : Ba.Mk) : Value := .agg #[.string k.1, .string k.2]
theorem markV_inj {a b : Ba.Mk} (h : markV a = markV b) : a = b := by
  obtain ⟨a1, a2⟩ := a; obtain ⟨b1, b2⟩ := b
  simp only [markV, Value.agg.injEq, Array.mk.injEq, List.cons.injEq, Value.string.injEq, and_true] at h
  rw [h.1, h.2]
noncomputable def kMark : KL pg 119 Ba.Mk := KL.of (Keyed.of_law (deep_law_laid laidOut_ (m := 2) (by omega) (odT (by kernel_rfl)) (by kernel_rfl) (by rw [Try.underlying119]))) markV (fun k => k.1.size ≤ maxLen ∧ k.2.size ≤ maxLen) markV_inj fun a ha => mark_key ha.1 ha.2
end Go.Proofs.Ytpeojogjeopfaaa
