/- Lemmas. Conditions: those of each theorem. -/
import Derived.Test.YtpeojogjeopfaaaKPlain
import Derived.Test.YtpeojogjeopfaaaKBits
set_option maxRecDepth 8000
set_option maxHeartbeats 16000000
namespace Go.Proofs.Ytpeojogjeopfaaa
open Go Go.K Go.RowKit
theorem cRight_c (w : World) (Φ : Hp) (hΦ : Hp.le Φ (hp w)) {c : List Bt.Point} {v1 : Value} (h1 : RepSl Φ c v1) :
  Calls pg 57 #[v1] w fun e w' => e = .returned (.bool (decide (Fu.RightC c))) ∧ Bel w.heap.size w w' := by
 refine calls_of_AW (args := [v1]) Try.func57 rfl (lBT rfl) (St ⟨w, Φ, []⟩ Φ []) (StP.init w Φ hΦ []) ?_
 show AW pg 63 [] _ _ _ [(0, v1)] _
 have hm1 : c.length * 16 ≤ 140737488355328 := h1.max
 refine AW.seq (AW.region (RW.q (v := .bool false) rfl (q_assign rfl) (RW.nil (Post.then_n (AW.seq (AW.seq (AW.region (RW.q rfl (q_move rfl) (RW.q (v := iV (c.length : Int)) rfl (q_len_sl rfl h1.sl uT59) ?_)))))))))
 refine RW.q (v := .bool (decide ((c.length : Int) < 1))) rfl (q_lss rfl rfl) (RW.q rfl (q_move rfl) (RW.g (b := (decide ((c.length : Int) < 1))) (v := v1) rfl rfl rfl (fun h => q_move rfl) (RW.g (b := (decide ((c.length : Int) < 1))) (v := iV (c.length : Int)) rfl rfl rfl (fun h => q_len_sl (gv_pos h) h1.sl uT59) (RW.g (b := (decide ((c.length : Int) < 1))) (v := .bool (decide ((32 : Int) < (c.length : Int)))) rfl rfl rfl (fun h => q_gtr (gv_pos h) rfl) ?_))))
 obtain ⟨qb1, hqb1⟩ : ∃ qz : Bool, ((decide ((c.length : Int) < 1)) || (decide ((32 : Int) < (c.length : Int)))) = qz := ⟨_, rfl⟩
 refine RW.q (v := .bool qb1) rfl (q_as (v := .bool ((decide ((c.length : Int) < 1)) || (decide ((32 : Int) < (c.length : Int))))) (qpO rfl rfl rfl) (congrArg Value.bool hqb1)) ?_
 subst hqb1
 refine RW.nil (Post.then_n (AW.cond (b := ((decide ((c.length : Int) < 1)) || (decide ((32 : Int) < (c.length : Int))))) rfl (fun hc1 => ?_) (fun hc1 => ?_)))
 ·
  simp [-List.getD_eq_getElem?_getD] at hc1
  refine AW.seq (AW.region (RW.q (v := .bool false) rfl (q_assign rfl) (RW.nil (Post.then_n (AW.ret (Post.then_r ?_))))))
  exact fin_val (v' := .bool false) rfl rfl rfl (by rw [decide_eq_false (fun hr => by have := hr.1; omega)])
 ·
  simp [-List.getD_eq_getElem?_getD] at hc1
  refine AW.skip (Post.then_n (AW.seq (AW.seq (AW.region (RW.q rfl (q_move rfl) (RW.q (v := iV (c.length : Int)) rfl (q_len_sl rfl h1.sl uT59) (RW.q rfl (q_move rfl) (RW.nil (Post.then_n ?_)))))))))
  refine AW.block (AW.loop (fun s J m => ∃ (k : Nat), s = [(0, v1), (13, v1), (14, iV (c.length : Int)), (15, iV (k : Int))] ∧ J = St ⟨w, Φ, []⟩ Φ [] ∧ m = c.length - k ∧ (k ≤ c.length) ∧ (∀ j, j < k → Fu.PtOk c j)) (s0 := _) (J1 := _) (m0 := _) ⟨0, rfl, rfl, rfl, (by omega), (by omega)⟩ ⟨rfl, rfl, rfl, rfl, trivial⟩ (fun _ h => h) ?_)
  rintro _ _ _ _ ⟨k, rfl, rfl, rfl, hk, hall⟩
  refine AW.seq (AW.region (RW.q (v := .bool (decide ((k : Int) < (c.length : Int)))) rfl (q_lss rfl rfl) (RW.nil (Post.then_n (AW.seq (AW.cond (b := decide ((k : Int) < (c.length : Int))) rfl (fun hc2 => ?_) (fun hc2 => ?_)))))))
  ·
   simp [-List.getD_eq_getElem?_getD] at hc2
   refine AW.skip (Post.then_n (AW.seq (AW.block (AW.seq (AW.region (RW.q rfl (q_move rfl) (RW.q (v := .pointer (some (Value.at v1 (k * 2)))) rfl (q_indexAddr rfl rfl h1.sl uT59 sz122 (by omega) (by omega) rfl) (RW.q (v := .agg #[iV ((c.getD k default).X), iV ((c.getD k default).Y)]) rfl (q_loadAgg rfl uT122 rfl sz122 rfl (Cells.repE h1 (by omega) rfl)) (RW.eff (fun b1 : Nat => pV b1 0) (fun b1 => St ⟨w, Φ, []⟩ Φ [.blk b1 122 [iV 0, iV 0]]) rfl (e_alloc zero122) ?_)))))))))
   intro b1
   refine RW.q (v := iV (k : Int)) rfl (q_assign rfl) (RW.effn (J' := St ⟨w, Φ, []⟩ Φ [.blk b1 122 [iV ((c.getD k default).X), iV ((c.getD k default).Y)]]) (e_store (v := .agg #[iV ((c.getD k default).X), iV ((c.getD k default).Y)]) 0 rfl rfl rfl sz122 rfl rfl rfl rfl rfl) (RW.nil (Post.then_n (AW.seq (AW.seq (AW.region (RW.q (v := pV b1 0) rfl (q_fieldAddr rfl uT122 rfl sz3 rfl) (RW.q (v := iV ((c.getD k default).X)) rfl (q_load rfl uT3 rfl (Cell.blk 0 rfl rfl)) (RW.q (v := .bool (decide ((c.getD k default).X < 0))) rfl (q_lss rfl rfl) ?_)))))))))
   refine RW.q rfl (q_move rfl) (RW.g (b := (decide ((c.getD k default).X < 0))) (v := pV b1 0) rfl rfl rfl (fun h => q_fieldAddr rfl uT122 rfl sz3 rfl) (RW.g (b := (decide ((c.getD k default).X < 0))) (v := iV ((c.getD k default).X)) rfl rfl rfl (fun h => q_load (gv_pos h) uT3 rfl (Cell.blk 0 rfl rfl)) (RW.g (b := (decide ((c.getD k default).X < 0))) (v := .bool (decide ((1125899906842624 : Int) < (c.getD k default).X))) rfl rfl rfl (fun h => q_gtr (gv_pos h) rfl) ?_)))
   obtain ⟨qb2, hqb2⟩ : ∃ qz : Bool, ((decide ((c.getD k default).X < 0)) || (decide ((1125899906842624 : Int) < (c.getD k default).X))) = qz := ⟨_, rfl⟩
   refine RW.q (v := .bool qb2) rfl (q_as (v := .bool ((decide ((c.getD k default).X < 0)) || (decide ((1125899906842624 : Int) < (c.getD k default).X)))) (qpO rfl rfl rfl) (congrArg Value.bool hqb2)) (RW.q rfl (q_move rfl) (RW.g (b := qb2) (v := pV b1 1) rfl rfl rfl (fun h => q_fieldAddr rfl uT122 rfl sz3 rfl) (RW.g (b := qb2) (v := iV ((c.getD k default).Y)) rfl rfl rfl (fun h => q_load (gv_pos h) uT3 rfl (Cell.blk 0 rfl rfl)) (RW.g (b := qb2) (v := .bool (decide ((c.getD k default).Y < 0))) rfl rfl rfl (fun h => q_lss (gv_pos h) rfl) ?_))))
   obtain ⟨qb3, hqb3⟩ : ∃ qz : Bool, (qb2 || (decide ((c.getD k default).Y < 0))) = qz := ⟨_, rfl⟩
   refine RW.q (v := .bool qb3) rfl (q_as (v := .bool (qb2 || (decide ((c.getD k default).Y < 0)))) (qpO rfl rfl rfl) (congrArg Value.bool hqb3)) (RW.q rfl (q_move rfl) (RW.g (b := qb3) (v := pV b1 1) rfl rfl rfl (fun h => q_fieldAddr rfl uT122 rfl sz3 rfl) (RW.g (b := qb3) (v := iV ((c.getD k default).Y)) rfl rfl rfl (fun h => q_load (gv_pos h) uT3 rfl (Cell.blk 0 rfl rfl)) (RW.g (b := qb3) (v := .bool (decide ((1125899906842624 : Int) < (c.getD k default).Y))) rfl rfl rfl (fun h => q_gtr (gv_pos h) rfl) ?_))))
   obtain ⟨qb4, hqb4⟩ : ∃ qz : Bool, (qb3 || (decide ((1125899906842624 : Int) < (c.getD k default).Y))) = qz := ⟨_, rfl⟩
   refine RW.q (v := .bool qb4) rfl (q_as (v := .bool (qb3 || (decide ((1125899906842624 : Int) < (c.getD k default).Y)))) (qpO rfl rfl rfl) (congrArg Value.bool hqb4)) ?_
   subst hqb4 hqb3 hqb2
   refine RW.nil (Post.then_n (AW.cond (b := ((((decide ((c.getD k default).X < 0)) || (decide ((1125899906842624 : Int) < (c.getD k default).X))) || (decide ((c.getD k default).Y < 0))) || (decide ((1125899906842624 : Int) < (c.getD k default).Y)))) rfl (fun hc3 => ?_) (fun hc3 => ?_)))
   ·
    simp [-List.getD_eq_getElem?_getD] at hc3
    refine AW.seq (AW.region (RW.q (v := .bool false) rfl (q_assign rfl) (RW.nil (Post.then_n (AW.ret (Post.then_r (Post.blk_r (Post.then_r (Post.then_r (Post.blk_r (Post.then_r ?_)))))))))))
    exact fin_val (v' := .bool false) rfl rfl rfl (by rw [decide_eq_false (fun hr => by have hp := hr.2 k (by omega); unfold Fu.PtOk Fu.px Fu.py at hp; have h3 := hp.2.2; omega)])
   ·
    simp [-List.getD_eq_getElem?_getD] at hc3
    refine AW.skip (Post.then_n (AW.seq ?_))
    have hk0 : 0 < k → ((k : Int) - 1).toNat = k - 1 := by omega
    refine AW.draw (J0 := St ⟨w, Φ, []⟩ Φ [.blk b1 122 [iV ((c.getD k default).X), iV ((c.getD k default).Y)]]) [.q, .q, .q, .q, .q, .q, .q, .q, .q, .q, .q, .q, .q, .q, .q, .q, .q, .q, .q, .q, .q, .q, .q, .q] [0, 1, 2, 3, 4, 5, 6, 7, 8, 9, 10, 11, 12, 13, 14, 15, 16, 17, 18, 19, 20, 21, 22, 23] hmix (by kernel_rfl) (DW.q (fun _ h => h) rfl (q_move rfl) (DW.q (v := .bool (decide ((0 : Int) < (k : Int)))) (fun _ h => h) rfl (q_gtr rfl rfl) (DW.q (fun _ h => h) rfl (q_move rfl) (DW.g (b := (decide ((0 : Int) < (k : Int)))) (v := pV b1 0) (fun _ h => h) rfl rfl rfl (fun h => q_fieldAddr rfl uT122 rfl sz3 rfl) (DW.g (b := (decide ((0 : Int) < (k : Int)))) (v := iV ((c.getD k default).X)) (fun _ h => h) rfl rfl rfl (fun h => q_load (gv_pos h) uT3 rfl (Cell.blk 0 rfl rfl)) (DW.g (b := (decide ((0 : Int) < (k : Int)))) (v := v1) (fun _ h => h) rfl rfl rfl (fun h => q_move rfl) (DW.g (b := (decide ((0 : Int) < (k : Int)))) (v := iV (k : Int)) (fun _ h => h) rfl rfl rfl (fun h => q_move rfl) (DW.g (b := (decide ((0 : Int) < (k : Int)))) (v := iV ((k : Int) - 1)) (fun _ h => h) rfl rfl rfl (fun h => q_sub (gv_pos h) rfl (by (try simp [-List.getD_eq_getElem?_getD] at h); omega) (by (try simp [-List.getD_eq_getElem?_getD] at h); unfold I64; omega)) ?_))))))))
    refine DW.g (b := (decide ((0 : Int) < (k : Int)))) (v := .pointer (some (Value.at v1 ((((k : Int) - 1).toNat) * 2)))) (fun _ h => h) rfl rfl rfl (fun h => q_indexAddr (gv_pos h) (gv_pos h) h1.sl uT59 sz122 (by (try simp [-List.getD_eq_getElem?_getD] at h); omega) (by (try simp [-List.getD_eq_getElem?_getD] at h); omega) rfl) ?_
    refine DW.g (b := (decide ((0 : Int) < (k : Int)))) (v := .pointer (some (Value.at v1 ((((k : Int) - 1).toNat) * 2 + 0)))) (fun _ h => h) rfl rfl rfl (fun h => q_fieldAddr (gv_pos h) uT122 rfl sz3 at_add) (DW.g (b := (decide ((0 : Int) < (k : Int)))) (v := iV ((c.getD (((k : Int) - 1).toNat) default).X)) (fun _ h => h) rfl rfl rfl (fun h => q_load (gv_pos h) uT3 rfl (Cell.repE (j := 0) h1 (by (try simp [-List.getD_eq_getElem?_getD] at h); omega) rfl)) ?_)
    refine DW.g (b := (decide ((0 : Int) < (k : Int)))) (v := .bool (decide ((c.getD k default).X ≤ (c.getD (((k : Int) - 1).toNat) default).X))) (fun _ h => h) rfl rfl rfl (fun h => q_leq (gv_pos h) (gv_pos h)) (DW.g (b := (decide ((0 : Int) < (k : Int)))) (v := .bool (decide ((c.getD k default).X ≤ (c.getD (((k : Int) - 1).toNat) default).X))) (fun _ h => h) rfl rfl rfl (fun h => q_move (gv_pos h)) (DW.g2 (b1 := (decide ((0 : Int) < (k : Int)))) (b2 := (decide ((c.getD k default).X ≤ (c.getD (((k : Int) - 1).toNat) default).X))) (v := pV b1 1) (fun _ h => h) rfl rfl rfl (fun hg1 hg2 => q_fieldAddr rfl uT122 rfl sz3 rfl) (DW.g2 (b1 := (decide ((0 : Int) < (k : Int)))) (b2 := (decide ((c.getD k default).X ≤ (c.getD (((k : Int) - 1).toNat) default).X))) (v := iV ((c.getD k default).Y)) (fun _ h => h) rfl rfl rfl (fun hg1 hg2 => q_load ((gv_pos hg1).trans (gv_pos hg2)) uT3 rfl (Cell.blk 0 rfl rfl)) (DW.g2 (b1 := (decide ((0 : Int) < (k : Int)))) (b2 := (decide ((c.getD k default).X ≤ (c.getD (((k : Int) - 1).toNat) default).X))) (v := v1) (fun _ h => h) rfl rfl rfl (fun hg1 hg2 => q_move rfl) (DW.g2 (b1 := (decide ((0 : Int) < (k : Int)))) (b2 := (decide ((c.getD k default).X ≤ (c.getD (((k : Int) - 1).toNat) default).X))) (v := iV (k : Int)) (fun _ h => h) rfl rfl rfl (fun hg1 hg2 => q_move rfl) (DW.g2 (b1 := (decide ((0 : Int) < (k : Int)))) (b2 := (decide ((c.getD k default).X ≤ (c.getD (((k : Int) - 1).toNat) default).X))) (v := iV ((k : Int) - 1)) (fun _ h => h) rfl rfl rfl (fun hg1 hg2 => q_sub ((gv_pos hg1).trans (gv_pos hg2)) rfl (by (try simp [-List.getD_eq_getElem?_getD] at hg1); (try simp [-List.getD_eq_getElem?_getD] at hg2); omega) (by (try simp [-List.getD_eq_getElem?_getD] at hg1); (try simp [-List.getD_eq_getElem?_getD] at hg2); unfold I64; omega)) ?_))))))
    refine DW.g2 (b1 := (decide ((0 : Int) < (k : Int)))) (b2 := (decide ((c.getD k default).X ≤ (c.getD (((k : Int) - 1).toNat) default).X))) (v := .pointer (some (Value.at v1 ((((k : Int) - 1).toNat) * 2)))) (fun _ h => h) rfl rfl rfl (fun hg1 hg2 => q_indexAddr ((gv_pos hg1).trans (gv_pos hg2)) ((gv_pos hg1).trans (gv_pos hg2)) h1.sl uT59 sz122 (by (try simp [-List.getD_eq_getElem?_getD] at hg1); (try simp [-List.getD_eq_getElem?_getD] at hg2); omega) (by (try simp [-List.getD_eq_getElem?_getD] at hg1); (try simp [-List.getD_eq_getElem?_getD] at hg2); omega) rfl) ?_
    refine DW.g2 (b1 := (decide ((0 : Int) < (k : Int)))) (b2 := (decide ((c.getD k default).X ≤ (c.getD (((k : Int) - 1).toNat) default).X))) (v := .pointer (some (Value.at v1 ((((k : Int) - 1).toNat) * 2 + 1)))) (fun _ h => h) rfl rfl rfl (fun hg1 hg2 => q_fieldAddr ((gv_pos hg1).trans (gv_pos hg2)) uT122 rfl sz3 at_add) (DW.g2 (b1 := (decide ((0 : Int) < (k : Int)))) (b2 := (decide ((c.getD k default).X ≤ (c.getD (((k : Int) - 1).toNat) default).X))) (v := iV ((c.getD (((k : Int) - 1).toNat) default).Y)) (fun _ h => h) rfl rfl rfl (fun hg1 hg2 => q_load ((gv_pos hg1).trans (gv_pos hg2)) uT3 rfl (Cell.repE (j := 1) h1 (by (try simp [-List.getD_eq_getElem?_getD] at hg1); (try simp [-List.getD_eq_getElem?_getD] at hg2); omega) rfl)) ?_)
    refine DW.g2 (b1 := (decide ((0 : Int) < (k : Int)))) (b2 := (decide ((c.getD k default).X ≤ (c.getD (((k : Int) - 1).toNat) default).X))) (v := .bool (decide ((c.getD k default).Y < (c.getD (((k : Int) - 1).toNat) default).Y))) (fun _ h => h) rfl rfl rfl (fun hg1 hg2 => q_lss ((gv_pos hg1).trans (gv_pos hg2)) ((gv_pos hg1).trans (gv_pos hg2))) ?_
    obtain ⟨qb5, hqb5⟩ : ∃ qz : Bool, ((decide ((c.getD k default).X ≤ (c.getD (((k : Int) - 1).toNat) default).X)) || (decide ((c.getD k default).Y < (c.getD (((k : Int) - 1).toNat) default).Y))) = qz := ⟨_, rfl⟩
    refine DW.g (b := (decide ((0 : Int) < (k : Int)))) (v := .bool qb5) (fun _ h => h) rfl rfl rfl (fun h => q_as (v := .bool ((decide ((c.getD k default).X ≤ (c.getD (((k : Int) - 1).toNat) default).X)) || (decide ((c.getD k default).Y < (c.getD (((k : Int) - 1).toNat) default).Y)))) (q_pick (gv_pos h) (fun hp => pkOrT hp) (fun hp => (gv_pos h).trans ((gv_pos hp).trans (pkOrF hp)))) (congrArg Value.bool hqb5)) ?_
    obtain ⟨qb6, hqb6⟩ : ∃ qz : Bool, ((decide ((0 : Int) < (k : Int))) && qb5) = qz := ⟨_, rfl⟩
    refine DW.q (v := .bool qb6) (fun _ h => h) rfl (q_as (v := .bool ((decide ((0 : Int) < (k : Int))) && qb5)) (qpA rfl rfl rfl) (congrArg Value.bool hqb6)) ?_
    subst hqb6 hqb5
    refine DW.nil (Post.then_n (AW.cond (b := ((decide ((0 : Int) < (k : Int))) && ((decide ((c.getD k default).X ≤ (c.getD (((k : Int) - 1).toNat) default).X)) || (decide ((c.getD k default).Y < (c.getD (((k : Int) - 1).toNat) default).Y))))) rfl (fun hc4 => ?_) (fun hc4 => ?_)))
    ·
     simp [-List.getD_eq_getElem?_getD] at hc4
     refine AW.seq (AW.region (RW.q (v := .bool false) rfl (q_assign rfl) (RW.nil (Post.then_n (AW.ret (Post.blk_r (Post.then_r (Post.then_r (Post.blk_r (Post.then_r ?_))))))))))
     exact fin_val (v' := .bool false) rfl rfl rfl (by rw [decide_eq_false (fun hr => by have hp := hr.2 k (by omega); unfold Fu.PtOk Fu.px Fu.py at hp; have h3 := hp.2.2; omega)])
    ·
     simp [-List.getD_eq_getElem?_getD] at hc4
     refine AW.skip (Post.blk_n (Post.then_n ?_))
     refine AW.region (RW.q (v := iV ((k + 1 : Nat) : Int)) rfl (q_add rfl rfl (by omega) (by unfold I64; omega)) (RW.q rfl (q_move rfl) (RW.nil ?_)))
     exact Post.back (s' := _) (J' := _) (m' := _) (by omega) ⟨k + 1, rfl, rfl, rfl, (by omega), (Fu.lt_succ hall (by unfold Fu.PtOk Fu.px Fu.py; refine ⟨by omega, by omega, fun h0 => ?_⟩; first | exact hc4 h0 | omega))⟩ ⟨rfl, rfl, rfl, rfl, trivial⟩ (fun _ h => StP.drop h (by exact .cons _ (.slnil)))
  ·
   simp [-List.getD_eq_getElem?_getD] at hc2
   refine AW.exit (Post.then_x (Post.then_x (Post.blk_hit (Post.then_n ?_))))
   refine AW.seq (AW.region (RW.q (v := .bool true) rfl (q_assign rfl) (RW.nil (Post.then_n (AW.ret ?_)))))
   exact fin_val (v' := .bool true) rfl rfl rfl (by rw [decide_eq_true ⟨by omega, fun j hj => hall j (by omega)⟩])
end Go.Proofs.Ytpeojogjeopfaaa
namespace Fu
section
variable {c : List Bt.Point}
theorem RightC.pt (h : RightC c) {i : Nat} (hi : i < c.length) : PtOk c i := h.2 i hi
theorem px_lt (h : RightC c) : ∀ {j i : Nat}, i < j → j < c.length → px c i < px c j
  | 0, _, hij, _ => absurd hij (Nat.not_lt_zero _)
  | j + 1, i, hij, hj => by
    have h1 := ((h.pt hj).2.2 (Nat.succ_pos j)).1
    rw [Nat.add_sub_cancel] at h1
    rcases Nat.lt_or_eq_of_le (Nat.lt_succ_iff.1 hij) with h2 | h2
    · have := px_lt h h2 (Nat.lt_of_succ_lt hj); omega
    · subst h2; exact h1
theorem px_le (h : RightC c) {i j : Nat} (hij : i ≤ j) (hj : j < c.length) : px c i ≤ px c j := by
  rcases Nat.lt_or_eq_of_le hij with h2 | h2
  · exact Int.le_of_lt (px_lt h h2 hj)
  · subst h2; exact Int.le_refl _
structure Seg (c : List Bt.Point) (i : Nat) (W D : Int) : Prop where
  pos : 0 < i
  lt : i < c.length
  w : W = px c i - px c (i - 1)
  d : D = py c i - py c (i - 1)
  w0 : 0 < W
  d0 : 0 ≤ D
  wM : W ≤ 1125899906842624
  dM : D ≤ 1125899906842624
theorem seg_of (h : RightC c) {i : Nat} (h0 : 0 < i) (hi : i < c.length) : Seg c i (px c i - px c (i - 1)) (py c i - py c (i - 1)) := by
  have h1 := h.pt hi; have h2 := h.pt (show i - 1 < c.length by omega)
  have h3 := h1.2.2 h0
  exact ⟨h0, hi, rfl, rfl, by omega, by omega, by have := h1.1; have := h2.1; omega, by have := h1.2.1; have := h2.2.1; omega⟩
theorem mul_div_rng {k W D : Int} (h0 : 0 ≤ k) (h1 : k ≤ W) (hW : 0 < W) (hD : 0 ≤ D) : 0 ≤ k * D / W ∧ k * D / W ≤ D := by
  refine ⟨Int.ediv_nonneg (Int.mul_nonneg h0 hD) (by omega), ?_⟩
  refine Int.ediv_le_of_le_mul hW ?_
  rw [Int.mul_comm D W]
  exact Int.mul_le_mul_of_nonneg_right h1 hD
end
end Fu
namespace Go.Proofs.Ytpeojogjeopfaaa
open Go Go.K Go.RowKit
theorem Scale_c (w : World) (Φ : Hp) (hΦ : Hp.le Φ (hp w)) {x k d : Int} (hx : 0 ≤ x ∧ x ≤ 1125899906842624) (hk : 0 ≤ k ∧ k ≤ 1125899906842624) (hd : 1 ≤ d ∧ d ≤ 1125899906842624) (hq : x * k / d ≤ 1125899906842624) :
  Calls pg 30 #[iV x, iV k, iV d] w fun e w' => e = .returned (.tuple #[iV (x * k / d), iV (x * k % d), .bool true]) ∧ Bel w.heap.size w w' := by
 obtain ⟨X, rfl⟩ := Int.eq_ofNat_of_zero_le hx.1
 obtain ⟨K, rfl⟩ := Int.eq_ofNat_of_zero_le hk.1
 obtain ⟨D, rfl⟩ := Int.eq_ofNat_of_zero_le (show 0 ≤ d by omega)
 refine calls_of_AW (args := [iV (X : Int), iV (K : Int), iV (D : Int)]) Try.func30 rfl (lBT rfl) (St ⟨w, Φ, []⟩ Φ []) (StP.init w Φ hΦ []) ?_
 show AW pg 61 [] _ _ _ [(0, iV (X : Int)), (1, iV (K : Int)), (2, iV (D : Int))] _
 obtain ⟨Z, hZ⟩ : ∃ Z, X * K = Z := ⟨_, rfl⟩
 have hxe : (X : Int) * (K : Int) / (D : Int) = ((Z / D : Nat) : Int) := by rw [← hZ, Int.natCast_ediv, Int.natCast_mul]
 have hxm : (X : Int) * (K : Int) % (D : Int) = ((Z % D : Nat) : Int) := by rw [← hZ, Int.natCast_emod, Int.natCast_mul]
 have hq1 : Z / D ≤ 1125899906842624 := by rw [hxe] at hq; omega
 have hzd : Z < 18446744073709551616 * D := by have h9 := Nat.lt_mul_div_succ Z (show 0 < D by omega); have h8 : D * (Z / D + 1) ≤ D * 18446744073709551616 := Nat.mul_le_mul_left D (by omega); rw [Nat.mul_comm 18446744073709551616 D]; omega
 have hhi : Z / 18446744073709551616 < D := by rw [Nat.div_lt_iff_lt_mul (by omega), Nat.mul_comm]; exact hzd
 have hdm : Z / 18446744073709551616 * 18446744073709551616 + Z % 18446744073709551616 = Z := by rw [Nat.mul_comm]; exact Nat.div_add_mod _ _
 have hmd := Nat.mod_lt Z (show 0 < D by omega)
 have hml := Nat.mod_lt Z (show 0 < 18446744073709551616 by omega)
 refine AW.seq (AW.region (RW.q (v := iV 0) rfl (q_assign rfl) (RW.q (v := iV 0) rfl (q_assign rfl) (RW.q (v := .bool false) rfl (q_assign rfl) (RW.nil (Post.then_n (AW.seq (AW.seq (AW.region ?_)))))))))
 refine RW.q rfl (q_move rfl) (RW.q (v := .bool (decide ((X : Int) < 0))) rfl (q_lss rfl rfl) (RW.q rfl (q_move rfl) (RW.g (b := (decide ((X : Int) < 0))) (v := iV (X : Int)) rfl rfl rfl (fun h => q_move rfl) (RW.g (b := (decide ((X : Int) < 0))) (v := .bool (decide ((1125899906842624 : Int) < (X : Int)))) rfl rfl rfl (fun h => q_gtr (gv_pos h) rfl) ?_))))
 obtain ⟨qb1, hqb1⟩ : ∃ qz : Bool, ((decide ((X : Int) < 0)) || (decide ((1125899906842624 : Int) < (X : Int)))) = qz := ⟨_, rfl⟩
 refine RW.q (v := .bool qb1) rfl (q_as (v := .bool ((decide ((X : Int) < 0)) || (decide ((1125899906842624 : Int) < (X : Int))))) (qpO rfl rfl rfl) (congrArg Value.bool hqb1)) (RW.q rfl (q_move rfl) (RW.g (b := qb1) (v := iV (K : Int)) rfl rfl rfl (fun h => q_move rfl) (RW.g (b := qb1) (v := .bool (decide ((K : Int) < 0))) rfl rfl rfl (fun h => q_lss (gv_pos h) rfl) (RW.q (v := .bool (qb1 || (decide ((K : Int) < 0)))) rfl (qpO rfl rfl rfl) (RW.q rfl (q_move rfl) (RW.g (b := (qb1 || (decide ((K : Int) < 0)))) (v := iV (K : Int)) rfl rfl rfl (fun h => q_move rfl) (RW.g (b := (qb1 || (decide ((K : Int) < 0)))) (v := .bool (decide ((1125899906842624 : Int) < (K : Int)))) rfl rfl rfl (fun h => q_gtr (gv_pos h) rfl) ?_)))))))
 obtain ⟨qb2, hqb2⟩ : ∃ qz : Bool, ((qb1 || (decide ((K : Int) < 0))) || (decide ((1125899906842624 : Int) < (K : Int)))) = qz := ⟨_, rfl⟩
 refine RW.q (v := .bool qb2) rfl (q_as (v := .bool ((qb1 || (decide ((K : Int) < 0))) || (decide ((1125899906842624 : Int) < (K : Int))))) (qpO rfl rfl rfl) (congrArg Value.bool hqb2)) (RW.q rfl (q_move rfl) (RW.g (b := qb2) (v := iV (D : Int)) rfl rfl rfl (fun h => q_move rfl) (RW.g (b := qb2) (v := .bool (decide ((D : Int) < 1))) rfl rfl rfl (fun h => q_lss (gv_pos h) rfl) (RW.q (v := .bool (qb2 || (decide ((D : Int) < 1)))) rfl (qpO rfl rfl rfl) (RW.q rfl (q_move rfl) (RW.g (b := (qb2 || (decide ((D : Int) < 1)))) (v := iV (D : Int)) rfl rfl rfl (fun h => q_move rfl) (RW.g (b := (qb2 || (decide ((D : Int) < 1)))) (v := .bool (decide ((1125899906842624 : Int) < (D : Int)))) rfl rfl rfl (fun h => q_gtr (gv_pos h) rfl) ?_)))))))
 obtain ⟨qb3, hqb3⟩ : ∃ qz : Bool, ((qb2 || (decide ((D : Int) < 1))) || (decide ((1125899906842624 : Int) < (D : Int)))) = qz := ⟨_, rfl⟩
 refine RW.q (v := .bool qb3) rfl (q_as (v := .bool ((qb2 || (decide ((D : Int) < 1))) || (decide ((1125899906842624 : Int) < (D : Int))))) (qpO rfl rfl rfl) (congrArg Value.bool hqb3)) ?_
 subst hqb3 hqb2 hqb1
 refine RW.nil (Post.then_n (AW.cond (b := ((((((decide ((X : Int) < 0)) || (decide ((1125899906842624 : Int) < (X : Int)))) || (decide ((K : Int) < 0))) || (decide ((1125899906842624 : Int) < (K : Int)))) || (decide ((D : Int) < 1))) || (decide ((1125899906842624 : Int) < (D : Int))))) rfl (fun hc1 => ?_) (fun hc1 => ?_)))
 ·
  simp [-List.getD_eq_getElem?_getD] at hc1
  omega
 ·
  simp [-List.getD_eq_getElem?_getD] at hc1
  refine AW.skip (Post.then_n (AW.seq (AW.region (RW.q rfl (q_move rfl) (RW.q (v := .int .u64 (X : Int)) rfl (q_toU (r := X) rfl uT3 uT83 rfl (by omega)) (RW.q rfl (q_move rfl) (RW.q (v := .int .u64 (K : Int)) rfl (q_toU (r := K) rfl uT3 uT83 rfl (by omega)) (RW.q (v := .tuple #[.int .u64 ((X * K / 18446744073709551616 : Nat) : Int), .int .u64 ((X * K % 18446744073709551616 : Nat) : Int)]) rfl (q_call (args := #[.int .u64 (X : Int), .int .u64 (K : Int)]) oK rfl rfl (fun w1 hw1 => Mul64_c w1 (Go.K.hp w1) (Hp.le_refl _) (by omega) (by omega))) (RW.q rfl (q_move rfl) ?_)))))))))
  refine RW.q rfl (q_extract rfl rfl) (RW.q rfl (q_extract rfl rfl) (RW.q (v := .int .u64 ((X * K / 18446744073709551616 : Nat) : Int)) rfl (q_assign rfl) (RW.q (v := .int .u64 ((X * K % 18446744073709551616 : Nat) : Int)) rfl (q_assign rfl) (RW.nil (Post.then_n (AW.seq (AW.seq ?_)))))))
  rw [hZ]
  refine AW.region (RW.q rfl (q_move rfl) (RW.q rfl (q_move rfl) (RW.q (v := .int .u64 (D : Int)) rfl (q_toU (r := D) rfl uT3 uT83 rfl (by omega)) (RW.q (v := .bool (decide ((D : Int) ≤ ((Z / 18446744073709551616 : Nat) : Int)))) rfl (q_geq rfl rfl) (RW.nil (Post.then_n (AW.cond (b := decide ((D : Int) ≤ ((Z / 18446744073709551616 : Nat) : Int))) rfl (fun hc2 => ?_) (fun hc2 => ?_))))))))
  ·
   simp [-List.getD_eq_getElem?_getD] at hc2
   omega
  ·
   simp [-List.getD_eq_getElem?_getD] at hc2
   refine AW.skip (Post.then_n (AW.seq (AW.region (RW.q rfl (q_move rfl) (RW.q rfl (q_move rfl) (RW.q rfl (q_move rfl) (RW.q (v := .int .u64 (D : Int)) rfl (q_toU (r := D) rfl uT3 uT83 rfl (by omega)) (RW.q (v := .tuple #[.int .u64 ((((Z / 18446744073709551616) * 18446744073709551616 + (Z % 18446744073709551616)) / D : Nat) : Int), .int .u64 ((((Z / 18446744073709551616) * 18446744073709551616 + (Z % 18446744073709551616)) % D : Nat) : Int)]) rfl (q_call (args := #[.int .u64 ((Z / 18446744073709551616 : Nat) : Int), .int .u64 ((Z % 18446744073709551616 : Nat) : Int), .int .u64 (D : Int)]) oK rfl rfl (fun w1 hw1 => Div64_c w1 (Go.K.hp w1) (Hp.le_refl _) (by omega) (by omega) (by omega))) (RW.q rfl (q_move rfl) ?_)))))))))
   refine RW.q rfl (q_extract rfl rfl) (RW.q rfl (q_extract rfl rfl) (RW.q (v := .int .u64 ((((Z / 18446744073709551616) * 18446744073709551616 + (Z % 18446744073709551616)) / D : Nat) : Int)) rfl (q_assign rfl) (RW.q (v := .int .u64 ((((Z / 18446744073709551616) * 18446744073709551616 + (Z % 18446744073709551616)) % D : Nat) : Int)) rfl (q_assign rfl) (RW.nil (Post.then_n (AW.seq (AW.seq ?_)))))))
   rw [hdm]
   refine AW.region (RW.q rfl (q_move rfl) (RW.q (v := .bool (decide (((1125899906842624 : Nat) : Int) < ((Z / D : Nat) : Int)))) rfl (q_gtr rfl rfl) (RW.nil (Post.then_n (AW.cond (b := decide (((1125899906842624 : Nat) : Int) < ((Z / D : Nat) : Int))) rfl (fun hc3 => ?_) (fun hc3 => ?_))))))
   ·
    simp [-List.getD_eq_getElem?_getD] at hc3
    omega
   ·
    simp [-List.getD_eq_getElem?_getD] at hc3
    refine AW.skip (Post.then_n (AW.seq (AW.region (RW.q rfl (q_move rfl) (RW.q (v := iV ((Z / D : Nat) : Int)) rfl (q_ofU (a := (Z / D)) rfl uT83 uT3 (by omega)) (RW.q rfl (q_move rfl) (RW.q (v := iV ((Z % D : Nat) : Int)) rfl (q_ofU (a := (Z % D)) rfl uT83 uT3 (by omega)) (RW.q (v := iV ((Z / D : Nat) : Int)) rfl (q_assign rfl) (RW.q (v := iV ((Z % D : Nat) : Int)) rfl (q_assign rfl) ?_)))))))))
    refine RW.q (v := .bool true) rfl (q_assign rfl) (RW.nil (Post.then_n (AW.ret (fin_out3 (v1 := iV ((Z / D : Nat) : Int)) (v2 := iV ((Z % D : Nat) : Int)) (v3 := .bool true) rfl rfl rfl rfl rfl (fun w' hw => ?_)))))
    refine ⟨?_, hw.below rfl⟩
    rw [hxe, hxm]
theorem Search_c (w : World) (Φ : Hp) (hΦ : Hp.le Φ (hp w)) {n r : Nat} {kf : FuncId} {capt : Array Value} (hk : Go.K.Own pg kf) (hn : n ≤ 140737488355328) (hr : r ≤ n) (hf : ∀ w1, Bel w.heap.size w w1 → ∀ i, i < n → Calls pg kf (#[iV (i : Int)] ++ capt) w1 fun e w2 => e = .returned (.bool (decide (r ≤ i))) ∧ Bel w1.heap.size w1 w2) :
  Calls pg 93 #[iV (n : Int), (.func (.func kf) #[] capt)] w fun e w' => e = .returned (iV (r : Int)) ∧ Bel w.heap.size w w' := by
 refine calls_of_AW (args := [iV (n : Int), (.func (.func kf) #[] capt)]) Try.func93 rfl (lBT rfl) (St ⟨w, Φ, []⟩ Φ []) (StP.init w Φ hΦ []) ?_
 show AW pg 26 [] _ _ _ [(0, iV (n : Int)), (1, (.func (.func kf) #[] capt))] _
 refine AW.seq (AW.region (RW.q (v := iV 0) rfl (q_assign rfl) (RW.nil (Post.then_n (AW.seq (AW.region (RW.q rfl (q_move rfl) (RW.q (v := iV 0) rfl (q_assign rfl) (RW.q (v := iV (n : Int)) rfl (q_assign rfl) ?_)))))))))
 refine RW.nil (Post.then_n (AW.seq (AW.block (AW.loop (fun s J m => ∃ (i : Nat), ∃ (j : Nat), s = [(0, iV (n : Int)), (1, (.func (.func kf) #[] capt)), (5, iV (i : Int)), (6, iV (j : Int))] ∧ J = St ⟨w, Φ, []⟩ Φ [] ∧ m = j - i ∧ (i ≤ r) ∧ (r ≤ j) ∧ (j ≤ n)) (s0 := _) (J1 := _) (m0 := _) ⟨0, n, rfl, rfl, rfl, (by omega), (by omega), (by omega)⟩ ⟨rfl, rfl, rfl, rfl, trivial⟩ (fun _ h => h) ?_))))
 rintro _ _ _ _ ⟨i, j, rfl, rfl, rfl, hi, hj, hjn⟩
 refine AW.seq (AW.seq (AW.region (RW.q rfl (q_move rfl) (RW.q rfl (q_move rfl) (RW.q (v := .bool (decide ((i : Int) < (j : Int)))) rfl (q_lss rfl rfl) (RW.nil (Post.then_n (AW.cond (b := decide ((i : Int) < (j : Int))) rfl (fun hc1 => ?_) (fun hc1 => ?_)))))))))
 ·
  simp [-List.getD_eq_getElem?_getD] at hc1
  refine AW.skip (Post.then_n (AW.block (AW.seq (AW.region (RW.q rfl (q_move rfl) (RW.q rfl (q_move rfl) (RW.q (v := iV ((i + j : Nat) : Int)) rfl (q_add rfl rfl (by omega) (by unfold I64; omega)) (RW.q (v := .int .u64 ((i + j : Nat) : Int)) rfl (q_toU (r := (i + j)) rfl uT3 uT114 rfl (by omega)) (RW.q (v := .int .u64 (((i + j) / 2 ^ 1 : Nat) : Int)) rfl (q_shrU' (a := (i + j)) (c := 1) rfl rfl (by omega)) ?_)))))))))
  refine RW.q (v := iV (((i + j) / 2 : Nat) : Int)) rfl (q_as (v := iV (((i + j) / 2 ^ 1 : Nat) : Int)) (q_ofU (a := ((i + j) / 2 ^ 1)) rfl uT114 uT3 (by omega)) (congrArg (Value.int .i64) (by simp))) (RW.q (v := iV (((i + j) / 2 : Nat) : Int)) rfl (q_assign rfl) (RW.nil (Post.then_n (AW.seq (AW.region (RW.q rfl (q_move rfl) (RW.q rfl (q_move rfl) (RW.q (v := .bool (decide (r ≤ (i + j) / 2))) rfl (q_call (args := [iV (((i + j) / 2 : Nat) : Int)].toArray ++ capt) hk rfl (args_capt rfl) (fun w1 hw1 => hf w1 (hw1.below rfl) ((i + j) / 2) (by omega))) (RW.q (v := .bool (!(decide (r ≤ (i + j) / 2)))) rfl (q_not rfl) ?_)))))))))
  refine RW.nil (Post.then_n (AW.cond (b := !(decide (r ≤ (i + j) / 2))) rfl (fun hc2 => ?_) (fun hc2 => ?_)))
  ·
   simp [-List.getD_eq_getElem?_getD] at hc2
   refine AW.region (RW.q rfl (q_move rfl) (RW.q (v := iV (((i + j) / 2 + 1 : Nat) : Int)) rfl (q_add rfl rfl (by omega) (by unfold I64; omega)) (RW.q (v := iV (((i + j) / 2 + 1 : Nat) : Int)) rfl (q_assign rfl) (RW.nil (Post.blk_n ?_)))))
   exact Post.back (s' := _) (J' := _) (m' := _) (by omega) ⟨(i + j) / 2 + 1, j, rfl, rfl, rfl, (by omega), (by omega), (by omega)⟩ ⟨rfl, rfl, rfl, rfl, trivial⟩ (fun _ h => h)
  ·
   simp [-List.getD_eq_getElem?_getD] at hc2
   refine AW.region (RW.q rfl (q_move rfl) (RW.q (v := iV (((i + j) / 2 : Nat) : Int)) rfl (q_assign rfl) (RW.nil (Post.blk_n ?_))))
   exact Post.back (s' := _) (J' := _) (m' := _) (by omega) ⟨i, (i + j) / 2, rfl, rfl, rfl, (by omega), (by omega), (by omega)⟩ ⟨rfl, rfl, rfl, rfl, trivial⟩ (fun _ h => h)
 ·
  simp [-List.getD_eq_getElem?_getD] at hc1
  refine AW.exit (Post.then_x (Post.then_x (Post.blk_hit (Post.then_n ?_))))
  refine AW.seq (AW.region (RW.q rfl (q_move rfl) (RW.q (v := iV (i : Int)) rfl (q_assign rfl) (RW.nil (Post.then_n (AW.ret ?_))))))
  exact fin_val (v' := iV (i : Int)) rfl rfl rfl (by rw [show i = r by omega])
end Go.Proofs.Ytpeojogjeopfaaa
namespace Al
open Bt
def maxI : Int := 9223372036854775807
def minI : Int := -9223372036854775808
def addS (a b : Int) : Int := if 0 < b ∧ maxI - b < a then maxI else if b < 0 ∧ a < minI - b then minI else a + b
/-! ### where water goes -/
def isP (ps : List Place) (p : Int) : Bool := decide (0 ≤ p) && decide (p < ps.length)
def reachGo (ps : List Place) : Nat → Int → List Int → List Int
  | 0, _, out => out
  | f + 1, p, out => if (0 ≤ p ∧ p < ps.length) ∧ p ∉ out then (if 24 ≤ (ps.getD p.toNat default).Delay then out ++ [p] else reachGo ps f (ps.getD p.toNat default).Down (out ++ [p])) else out
def reach (ps : List Place) (p : Int) : List Int := reachGo ps (ps.length + 1) p []
def RI (n : Nat) (L : List Int) : Prop := L.Nodup ∧ ∀ x ∈ L, 0 ≤ x ∧ x < (n : Int)
theorem nat_nodup_le : ∀ (n : Nat) (l : List Nat), l.Nodup → (∀ x ∈ l, x < n) → l.length ≤ n
  | 0, [], _, _ => by simp
  | 0, a :: l, _, h => absurd (h a (by simp)) (by omega)
  | n + 1, l, hn, h => by
    have h1 := nat_nodup_le n (l.erase n) (hn.erase n) (fun x hx => by
      have h2 := h x (List.mem_of_mem_erase hx)
      have h3 : x ≠ n := fun e => by subst e; exact absurd hx (List.Nodup.not_mem_erase hn)
      omega)
    have h4 := List.length_erase (a := n) (l := l)
    split at h4 <;> omega
theorem RI.len {n : Nat} {L : List Int} (h : RI n L) : L.length ≤ n := by
  have := nat_nodup_le n (L.map Int.toNat) (by
    rw [List.nodup_iff_pairwise_ne, List.pairwise_map]
    refine List.Pairwise.imp_of_mem ?_ (List.nodup_iff_pairwise_ne.1 h.1)
    intro a b ha hb hab
    have h1 := h.2 a ha
    have h2 := h.2 b hb
    omega) (fun x hx => by
    obtain ⟨y, hy, rfl⟩ := List.mem_map.1 hx
    have := h.2 y hy
    omega)
  simpa using this
theorem RI.snoc {n : Nat} {L : List Int} {p : Int} (h : RI n L) (hp : 0 ≤ p ∧ p < (n : Int)) (hn : p ∉ L) : RI n (L ++ [p]) := by
  refine ⟨?_, fun x hx => ?_⟩
  · rw [List.nodup_append]
    refine ⟨h.1, by simp, fun x hx y hy e => ?_⟩
    obtain rfl : y = p := by simpa using hy
    exact hn (e ▸ hx)
  · rcases List.mem_append.1 hx with hx | hx
    · exact h.2 x hx
    · obtain rfl : x = p := by simpa using hx
      exact hp
theorem RI.nil {n : Nat} : RI n [] := ⟨List.nodup_nil, fun _ h => absurd h List.not_mem_nil⟩
theorem reachGo_ri {ps : List Place} : ∀ (f : Nat) (p : Int) (out : List Int), RI ps.length out → RI ps.length (reachGo ps f p out)
  | 0, _, _, h => h
  | f + 1, p, out, h => by
    rw [reachGo]
    split
    · rename_i hc
      split
      · exact h.snoc hc.1 hc.2
      · exact reachGo_ri f _ _ (h.snoc hc.1 hc.2)
    · exact h
theorem reach_ri (ps : List Place) (p : Int) : RI ps.length (reach ps p) := reachGo_ri _ _ _ RI.nil
theorem reach_step {ps : List Place} {p : Int} {L : List Int} (h : RI ps.length L) (hp : 0 ≤ p ∧ p < ps.length) (hn : p ∉ L) (hd : (ps.getD p.toNat default).Delay < 24) :
    reachGo ps (ps.length + 1 - L.length) p L = reachGo ps (ps.length + 1 - (L ++ [p]).length) (ps.getD p.toNat default).Down (L ++ [p]) := by
  have h1 := (h.snoc hp hn).len
  rw [List.length_append, List.length_singleton] at h1 ⊢
  obtain ⟨m, hm⟩ : ∃ m, ps.length + 1 - L.length = m + 1 := ⟨ps.length - L.length, by omega⟩
  rw [hm, show ps.length + 1 - (L.length + 1) = m by omega, reachGo, if_pos ⟨hp, hn⟩, if_neg (by omega)]
theorem reach_last {ps : List Place} {p : Int} {L : List Int} (h : RI ps.length L) (hp : 0 ≤ p ∧ p < ps.length) (hn : p ∉ L) (hd : 24 ≤ (ps.getD p.toNat default).Delay) :
    reachGo ps (ps.length + 1 - L.length) p L = L ++ [p] := by
  have h1 := h.len
  obtain ⟨m, hm⟩ : ∃ m, ps.length + 1 - L.length = m + 1 := ⟨ps.length - L.length, by omega⟩
  rw [hm, reachGo, if_pos ⟨hp, hn⟩, if_pos hd]
theorem reach_stop {ps : List Place} {p : Int} {L : List Int} (h : RI ps.length L) (hs : ¬ ((0 ≤ p ∧ p < ps.length) ∧ p ∉ L)) : reachGo ps (ps.length + 1 - L.length) p L = L := by
  have h1 := h.len
  obtain ⟨m, hm⟩ : ∃ m, ps.length + 1 - L.length = m + 1 := ⟨ps.length - L.length, by omega⟩
  rw [hm, reachGo, if_neg hs]
theorem lt_succ {p : Nat → Prop} {k : Nat} (h : ∀ j, j < k → p j) (hk : p k) : ∀ j, j < k + 1 → p j := fun j hj => by
  by_cases e : j = k
  · subst e; exact hk
  · exact h j (by omega)
theorem not_mem_take {L : List Int} (h : L.Nodup) {k : Nat} (hk : k < L.length) : L.getD k 0 ∉ L.take k := fun hm => by
  obtain ⟨i, hi, he⟩ := List.mem_take_iff_getElem.1 hm
  have h1 : L.getD k 0 = L[k] := by simp [hk]
  rw [h1] at he
  exact List.pairwise_iff_getElem.1 (List.nodup_iff_pairwise_ne.1 h) i k (by omega) hk (by omega) he
theorem getD_mem {L : List Int} {k : Nat} (hk : k < L.length) : L.getD k 0 ∈ L := by simp [hk]
theorem has_t {xs : List Int} {v : Int} {k : Nat} (hk : k < xs.length) (h : xs.getD k 0 = v) : decide (v ∈ xs) = true := decide_eq_true (h ▸ getD_mem hk)
theorem has_f {xs : List Int} {v : Int} (h : ∀ j, j < xs.length → xs.getD j 0 ≠ v) : decide (v ∈ xs) = false := decide_eq_false fun hm => by
  obtain ⟨k, hk, rfl⟩ := List.getElem_of_mem hm
  exact h k hk (by simp [hk])
def seenL (n : Nat) (L : List Int) : List Bool := (List.range n).map fun i : Nat => decide ((i : Int) ∈ L)
theorem seenL_len (n : Nat) (L : List Int) : (seenL n L).length = n := by simp [seenL]
theorem seenL_get {n : Nat} {L : List Int} {i : Nat} (hi : i < n) : (seenL n L).getD i false = decide ((i : Int) ∈ L) := by simp [seenL, hi]
theorem bool_ext {xs ys : List Bool} (hl : xs.length = ys.length) (h : ∀ j, j < xs.length → xs.getD j false = ys.getD j false) : xs = ys := by
  refine List.ext_getElem hl (fun j h1 h2 => ?_)
  have := h j h1
  simpa [gDD, h1, h2] using this
theorem getD_setB {L : List Bool} {i j : Nat} {v : Bool} (hi : i < L.length) : (L.set i v).getD j false = if i = j then v else L.getD j false := by
  simp only [gDD, List.getElem?_set]
  split
  · rename_i h; subst h; simp
  · rfl
theorem seenL_nil {n : Nat} : seenL n [] = List.replicate n false := by
  refine bool_ext (by simp [seenL]) (fun j hj => ?_)
  rw [seenL_len] at hj
  rw [seenL_get hj]; simp [hj]
theorem seenL_set {n : Nat} {L : List Int} {p : Int} (hp : 0 ≤ p ∧ p < (n : Int)) : (seenL n L).set p.toNat true = seenL n (L ++ [p]) := by
  refine bool_ext (by simp [seenL]) (fun j hj => ?_)
  rw [List.length_set, seenL_len] at hj
  rw [getD_setB (by rw [seenL_len]; omega), seenL_get hj, seenL_get hj]
  by_cases e : p.toNat = j
  · rw [if_pos e]; exact (decide_eq_true (List.mem_append.2 (.inr (List.mem_singleton.2 (by omega))))).symm
  · rw [if_neg e]
    congr 1
    simp only [List.mem_append, List.mem_singleton, eq_iff_iff]
    exact ⟨.inl, fun h => h.elim id (fun h => absurd (by omega) e)⟩
end Al
