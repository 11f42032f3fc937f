/- Walks (part WalkF), printed by walk2.py. Conditions: those of each theorem. -/
import Derived.Test.YthiflhoobldioaaDoorWalkE
namespace Go.Proofs.YthiflhoobldioaaDoor
open Go Go.K Go.RowKit

set_option maxRecDepth 8000 in
set_option maxHeartbeats 1000000 in
theorem rAmount_c (w : World) (Φ : Hp) (hΦ : Hp.le Φ (hp w)) {l n : List UInt8} (hl : l.length ≤ 1099511627776) :
    Calls Tryd.prog 10 #[.string (bs l), .string (bs n)] w fun e w' => e = .returned (.tuple #[.agg #[.int .i64 ((Un.amt l n).1 : Int), .int .i64 ((Un.amt l n).2.1 : Int)], .int .i64 ((Un.amt l n).2.2 : Int)]) ∧ Below w.heap.size w w' := by
  refine calls_of_AW (args := [.string (bs l), .string (bs n)]) Tryd.func10 rfl (Nat.le_of_ble_eq_true rfl) (St ⟨w, Φ, []⟩ Φ []) (StP.init w Φ hΦ []) ?_
  show AW Tryd.prog 98 [] _ _ _ [(0, .string (bs l)), (1, .string (bs n))] _
  refine AW.seq ?_
  refine AW.region ?_
  refine RW.eff (fun b1 : Nat => .pointer (some (⟨b1, 0, none⟩))) (fun b1 => St ⟨w, Φ, []⟩ Φ [.blk b1 23 [.int .i64 0, .int .i64 0]]) rfl (e_alloc zero23) ?_
  intro b1
  refine RW.q (v := .int .i64 0) rfl (q_assign rfl) ?_
  refine RW.nil ?_
  refine Post.then_n ?_
  refine AW.seq ?_
  refine AW.region ?_
  refine RW.q (v := .string (bs l)) rfl (q_move rfl) ?_
  refine RW.eff (fun x : {y : Value × Hp // (fun r Ψ => ∃ v a, r = .tuple #[v, .int .i64 a, .bool (Un.okF l)] ∧ (Un.okF l = true → RepSl Ψ (Un.dl (Un.bef l ++ Un.aft l)) v ∧ a = ((Un.aft l).length : Int))) y.1 y.2 ∧ Hp.le Φ y.2} => x.1.1) (fun x => St ⟨w, Φ, []⟩ x.1.2 [.blk b1 23 [.int .i64 0, .int .i64 0]]) rfl (e_callS (T := fun r Ψ => ∃ v a, r = .tuple #[v, .int .i64 a, .bool (Un.okF l)] ∧ (Un.okF l = true → RepSl Ψ (Un.dl (Un.bef l ++ Un.aft l)) v ∧ a = ((Un.aft l).length : Int))) (args := #[.string (bs l)]) own14 rfl rfl (fun w1 hw1 => (Split_c w1 (Go.K.hp w1) (Hp.le_refl _) (by omega)).mono fun _ _ => retS_up (fun _ _ _ hl => fun ⟨v, a, e, k⟩ => ⟨v, a, e, fun hk => ⟨(k hk).1.mono hl, (k hk).2⟩⟩))) ?_
  rintro ⟨⟨lv1, Φ1⟩, hsp1, hlΦ1⟩
  replace hsp1 : ∃ v a, lv1 = .tuple #[v, .int .i64 a, .bool (Un.okF l)] ∧ (Un.okF l = true → RepSl Φ1 (Un.dl (Un.bef l ++ Un.aft l)) v ∧ a = ((Un.aft l).length : Int)) := hsp1
  replace hlΦ1 : Hp.le Φ Φ1 := hlΦ1
  obtain ⟨sv1, af1, rfl, hsp1q⟩ := hsp1
  refine RW.q (v := .tuple #[sv1, .int .i64 af1, .bool (Un.okF l)]) rfl (q_move rfl) ?_
  refine RW.q (v := sv1) rfl (q_extract rfl rfl) ?_
  refine RW.q (v := .int .i64 af1) rfl (q_extract rfl rfl) ?_
  refine RW.q (v := .bool (Un.okF l)) rfl (q_extract rfl rfl) ?_
  refine RW.q (v := sv1) rfl (q_assign rfl) ?_
  refine RW.q (v := .int .i64 af1) rfl (q_assign rfl) ?_
  refine RW.q (v := .bool (Un.okF l)) rfl (q_assign rfl) ?_
  refine RW.nil ?_
  refine Post.then_n ?_
  refine AW.seq ?_
  refine AW.seq ?_
  refine AW.region ?_
  refine RW.q (v := .bool (Un.okF l)) rfl (q_move rfl) ?_
  refine RW.q (v := .bool (!(Un.okF l))) rfl (q_not rfl) ?_
  refine RW.nil ?_
  refine Post.then_n ?_
  refine AW.cond (b := !(Un.okF l)) rfl (fun hc1 => ?_) (fun hc1 => ?_)
  · simp [-List.getD_eq_getElem?_getD] at hc1
    refine AW.seq ?_
    refine AW.region ?_
    refine RW.q (v := .agg #[.int .i64 0, .int .i64 0]) rfl (q_build (vals := []) zero23 Tryd.underlying23 places23 rfl rfl) ?_
    refine RW.effn (J' := St ⟨w, Φ, []⟩ Φ1 [.blk b1 23 [.int .i64 0, .int .i64 0]]) (e_store (v := .agg #[.int .i64 0, .int .i64 0]) 0 rfl rfl rfl sz23 rfl rfl rfl rfl rfl) ?_
    refine RW.q (v := .int .i64 2) rfl (q_assign rfl) ?_
    refine RW.nil ?_
    refine Post.then_n ?_
    refine AW.ret ?_
    refine Post.then_r ?_
    refine fin_cell2 (cs := [.int .i64 0, .int .i64 0]) (v := .int .i64 2) rfl rfl rfl rfl Tryd.underlying23 rfl sz23 rfl (Cells.blk 0 rfl) (fun w' hw => ?_)
    refine ⟨?_, hw.below rfl⟩
    rw [Un.amt_form (by simpa using hc1)]
    rfl
  · simp [-List.getD_eq_getElem?_getD] at hc1
    refine AW.skip ?_
    refine Post.then_n ?_
    refine AW.seq ?_
    obtain ⟨hsl, haf⟩ := hsp1q hc1
    subst haf
    obtain ⟨hb1, hb2, ha9, _⟩ := Un.okF_len hc1
    have hdl := Un.dgs_dl (Un.okF_all hc1)
    have hdn : (Un.dl (Un.bef l ++ Un.aft l)).length = (Un.bef l).length + (Un.aft l).length := by rw [Un.dl_len, List.length_append]
    refine AW.region ?_
    refine RW.q (v := .string (bs n)) rfl (q_move rfl) ?_
    refine RW.q (v := .tuple #[.int .i64 (((Un.fdF n).2.1 : Nat) : Int), .int .i64 (((Un.fdF n).2.2.1 : Nat) : Int), .int .i64 (((Un.fdF n).2.2.2.1 : Nat) : Int), .int .i64 (((Un.fdF n).2.2.2.2 : Nat) : Int), .bool ((Un.fac n).isSome)]) rfl (q_call (args := #[.string (bs n)]) own16 rfl rfl (fun w1 hw1 => Factor_c w1 (Go.K.hp w1) (Hp.le_refl _))) ?_
    refine RW.q (v := .tuple #[.int .i64 (((Un.fdF n).2.1 : Nat) : Int), .int .i64 (((Un.fdF n).2.2.1 : Nat) : Int), .int .i64 (((Un.fdF n).2.2.2.1 : Nat) : Int), .int .i64 (((Un.fdF n).2.2.2.2 : Nat) : Int), .bool ((Un.fac n).isSome)]) rfl (q_move rfl) ?_
    refine RW.q (v := .int .i64 (((Un.fdF n).2.1 : Nat) : Int)) rfl (q_extract rfl rfl) ?_
    refine RW.q (v := .int .i64 (((Un.fdF n).2.2.1 : Nat) : Int)) rfl (q_extract rfl rfl) ?_
    refine RW.q (v := .int .i64 (((Un.fdF n).2.2.2.1 : Nat) : Int)) rfl (q_extract rfl rfl) ?_
    refine RW.q (v := .int .i64 (((Un.fdF n).2.2.2.2 : Nat) : Int)) rfl (q_extract rfl rfl) ?_
    refine RW.q (v := .bool ((Un.fac n).isSome)) rfl (q_extract rfl rfl) ?_
    refine RW.q (v := .int .i64 (((Un.fdF n).2.1 : Nat) : Int)) rfl (q_assign rfl) ?_
    refine RW.q (v := .int .i64 (((Un.fdF n).2.2.1 : Nat) : Int)) rfl (q_assign rfl) ?_
    refine RW.q (v := .int .i64 (((Un.fdF n).2.2.2.1 : Nat) : Int)) rfl (q_assign rfl) ?_
    refine RW.q (v := .int .i64 (((Un.fdF n).2.2.2.2 : Nat) : Int)) rfl (q_assign rfl) ?_
    refine RW.q (v := .bool ((Un.fac n).isSome)) rfl (q_assign rfl) ?_
    refine RW.nil ?_
    refine Post.then_n ?_
    refine AW.seq ?_
    refine AW.seq ?_
    refine AW.region ?_
    refine RW.q (v := .bool ((Un.fac n).isSome)) rfl (q_move rfl) ?_
    refine RW.q (v := .bool (!((Un.fac n).isSome))) rfl (q_not rfl) ?_
    refine RW.nil ?_
    refine Post.then_n ?_
    refine AW.cond (b := !((Un.fac n).isSome)) rfl (fun hc2 => ?_) (fun hc2 => ?_)
    · simp [-List.getD_eq_getElem?_getD] at hc2
      refine AW.seq ?_
      refine AW.region ?_
      refine RW.q (v := .agg #[.int .i64 0, .int .i64 0]) rfl (q_build (vals := []) zero23 Tryd.underlying23 places23 rfl rfl) ?_
      refine RW.effn (J' := St ⟨w, Φ, []⟩ Φ1 [.blk b1 23 [.int .i64 0, .int .i64 0]]) (e_store (v := .agg #[.int .i64 0, .int .i64 0]) 0 rfl rfl rfl sz23 rfl rfl rfl rfl rfl) ?_
      refine RW.q (v := .int .i64 6) rfl (q_assign rfl) ?_
      refine RW.nil ?_
      refine Post.then_n ?_
      refine AW.ret ?_
      refine Post.then_r ?_
      refine fin_cell2 (cs := [.int .i64 0, .int .i64 0]) (v := .int .i64 6) rfl rfl rfl rfl Tryd.underlying23 rfl sz23 rfl (Cells.blk 0 rfl) (fun w' hw => ?_)
      refine ⟨?_, hw.below rfl⟩
      rw [Un.amt_unit hc1 (by simpa using hc2)]
      rfl
    · simp [-List.getD_eq_getElem?_getD] at hc2
      refine AW.skip ?_
      refine Post.then_n ?_
      refine AW.seq ?_
      obtain ⟨me, hfm⟩ := Option.isSome_iff_exists.1 hc2
      have hfd : Un.fdF n = me := by unfold Un.fdF; rw [hfm]; rfl
      rw [hfd]
      obtain ⟨hm1, hm2, hm3, hm4, hm5, hm6⟩ := Un.facs_facts me (Un.fac_mem hfm).1
      refine AW.region ?_
      refine RW.q (v := sv1) rfl (q_move rfl) ?_
      refine RW.q (v := .int .i64 ((me.2.2.1 : Nat) : Int)) rfl (q_move rfl) ?_
      refine RW.eff (fun x : {v : Value // IsSl v ((Un.dl (Un.bef l ++ Un.aft l)).length + 2)} => x.1) (fun x => St ⟨w, Φ, []⟩ Φ1 [.row x.1 3 1 ((Un.dl (Un.bef l ++ Un.aft l)).length + 2) ((Un.tim (Un.dl (Un.bef l ++ Un.aft l)) ((me.2.2.1 : Nat) : Int)).map (Value.int .i64)), .blk b1 23 [.int .i64 0, .int .i64 0]]) rfl (e_call (args := #[sv1, .int .i64 ((me.2.2.1 : Nat) : Int)]) own24 rfl rfl (fun w1 hw1 => Times_c rfl hsl hdl (by rw [hdn]; omega) (by omega) (by omega) w1 hw1)) ?_
      rintro ⟨tv1, htv1⟩
      refine RW.q (v := tv1) rfl (q_assign rfl) ?_
      refine RW.nil ?_
      refine Post.then_n ?_
      refine AW.seq ?_
      refine AW.seq ?_
      refine AW.region ?_
      refine RW.q (v := .int .i64 0) rfl (q_assign rfl) ?_
      refine RW.nil ?_
      refine Post.then_n ?_
      refine AW.block ?_
      refine AW.loop (fun s J m => ∃ (i : Nat), ∃ (L : List Int), ∃ (lv : Value), s = [(4, .pointer (some (⟨b1, 0, none⟩))), (5, .int .i64 0), (7, .int .i64 (((Un.aft l).length : Nat) : Int)), (9, .int .i64 ((me.2.1 : Nat) : Int)), (11, .int .i64 ((me.2.2.2.1 : Nat) : Int)), (12, .int .i64 ((me.2.2.2.2 : Nat) : Int)), (6, lv), (14, .int .i64 (i : Int))] ∧ J = St ⟨w, Φ, []⟩ Φ1 [.row lv 3 1 L.length (L.map (Value.int .i64)), .blk b1 23 [.int .i64 0, .int .i64 0]] ∧ m = me.2.2.2.1 - i ∧ (i ≤ me.2.2.2.1) ∧ (L = Un.tim (Un.dl (Un.bef l ++ Un.aft l)) me.2.2.1 ++ List.replicate i 0) ∧ (IsSl lv L.length)) (s0 := _) (J1 := _) (m0 := _) ⟨0, _, _, rfl, rfl, rfl, (by omega), (List.append_nil _).symm, (by rw [Un.tim_len]; exact htv1)⟩ ⟨rfl, rfl, rfl, rfl, rfl, rfl, rfl, rfl, trivial⟩ (fun _ h => by rw [Un.tim_len]; exact h) ?_
      rintro _ _ _ _ ⟨i, L, lv, rfl, rfl, rfl, hi, hL, hlv⟩
      have hLl : L.length ≤ 60 := by rw [hL, List.length_append, Un.tim_len, hdn, List.length_replicate]; omega
      refine AW.seq ?_
      refine AW.seq ?_
      refine AW.region ?_
      refine RW.q (v := .int .i64 (i : Int)) rfl (q_move rfl) ?_
      refine RW.q (v := .int .i64 ((me.2.2.2.1 : Nat) : Int)) rfl (q_move rfl) ?_
      refine RW.q (v := .bool (decide ((i : Int) < ((me.2.2.2.1 : Nat) : Int)))) rfl (q_lss rfl rfl) ?_
      refine RW.nil ?_
      refine Post.then_n ?_
      refine AW.cond (b := decide ((i : Int) < ((me.2.2.2.1 : Nat) : Int))) rfl (fun hc3 => ?_) (fun hc3 => ?_)
      · simp [-List.getD_eq_getElem?_getD] at hc3
        refine AW.skip ?_
        refine Post.then_n ?_
        refine AW.seq ?_
        refine AW.block ?_
        refine AW.region ?_
        refine RW.q (v := lv) rfl (q_move rfl) ?_
        refine RW.eff (fun b2 : Nat => (.slice (some ⟨b2, 0, none⟩) 1 1)) (fun b2 => St ⟨w, Φ, []⟩ Φ1 [.row (.slice (some ⟨b2, 0, none⟩) 1 1) 3 1 1 ([.int .i64 0]), .row lv 3 1 L.length (L.map (Value.int .i64)), .blk b1 23 [.int .i64 0, .int .i64 0]]) rfl (e_buildSlice (vals := [(0, .int .i64 0)]) (cells := [.int .i64 0]) Tryd.underlying33 inf3 rfl rfl rfl (by kernel_rfl) rfl) ?_
        intro b2
        refine RW.eff (fun xv : {vq : Value // IsSl vq (L.length + 1)} => xv.1) (fun xv => St ⟨w, Φ, []⟩ Φ1 [.row (.slice (some ⟨b2, 0, none⟩) 1 1) 3 1 1 ([.int .i64 0]), .row xv.1 3 1 ((L ++ [0]).length) ((L ++ [0]).map (Value.int .i64)), .blk b1 23 [.int .i64 0, .int .i64 0]]) rfl (e_append 1 rfl rfl rfl Tryd.underlying33 inf3 rfl rfl rfl (Cells.row0 0 rfl) rfl (by omega) (by omega) (fun _ => by simp)) ?_
        rintro ⟨va1, hva1⟩
        refine RW.wk (J' := St ⟨w, Φ, []⟩ Φ1 [.row va1 3 1 ((L ++ [0]).length) ((L ++ [0]).map (Value.int .i64)), .blk b1 23 [.int .i64 0, .int .i64 0]]) (fun _ h => StP.drop h (by exact .cons _ (.cons_cons _ (.cons_cons _ (.slnil))))) ?_
        refine RW.q (v := va1) rfl (q_assign rfl) ?_
        refine RW.nil ?_
        refine Post.blk_n (Post.then_n ?_)
        refine AW.region ?_
        refine RW.q (v := .int .i64 (i : Int)) rfl (q_move rfl) ?_
        refine RW.q (v := .int .i64 ((i + 1 : Nat) : Int)) rfl (q_add rfl rfl (by omega) (by unfold I64; omega)) ?_
        refine RW.q (v := .int .i64 ((i + 1 : Nat) : Int)) rfl (q_assign rfl) ?_
        refine RW.nil ?_
        exact Post.back (s' := _) (J' := _) (m' := _) (by omega) ⟨i + 1, L ++ [0], va1, rfl, rfl, rfl, (by omega), (by rw [hL, List.replicate_succ', List.append_assoc]), (by simpa using hva1)⟩ ⟨rfl, rfl, rfl, rfl, rfl, rfl, rfl, rfl, trivial⟩ (fun _ h => by simpa using h)
      · simp [-List.getD_eq_getElem?_getD] at hc3
        refine AW.exit ?_
        refine Post.then_x (Post.then_x (Post.blk_hit (Post.then_n ?_)))
        refine AW.seq ?_
        have hLe : L = Un.lOne l me.2.2.1 me.2.2.2.1 := by rw [hL, show i = me.2.2.2.1 by omega]; rfl
        obtain ⟨hL1, hL2, hL3⟩ := Un.lOne_facts hc1 (c := me.2.2.1) (z := me.2.2.2.1) hm3
        rw [← hLe] at hL1 hL2 hL3
        have hLm : L.length * 8 ≤ maxSl := by simp only [maxSl]; omega
        have hLw : ∀ x ∈ L, I64 x := fun x hx => by have := hL1 x hx; unfold I64; omega
        refine AW.region ?_
        refine RW.q (v := lv) rfl (q_move rfl) ?_
        refine RW.q (v := .int .i64 ((me.2.2.2.2 : Nat) : Int)) rfl (q_move rfl) ?_
        refine RW.eff (fun x : {y : Value × Hp // (fun r Ψ => ∃ v, r = .tuple #[v, .int .i64 (Un.ov L ((me.2.2.2.2 : Nat) : Int)).2] ∧ RepSl Ψ (Un.ov L ((me.2.2.2.2 : Nat) : Int)).1 v) y.1 y.2 ∧ Hp.le Φ1 y.2} => x.1.1) (fun x => St ⟨w, Φ, []⟩ x.1.2 [.row lv 3 1 L.length (L.map (Value.int .i64)), .blk b1 23 [.int .i64 0, .int .i64 0]]) rfl (e_callS (T := fun r Ψ => ∃ v, r = .tuple #[v, .int .i64 (Un.ov L ((me.2.2.2.2 : Nat) : Int)).2] ∧ RepSl Ψ (Un.ov L ((me.2.2.2.2 : Nat) : Int)).1 v) (args := #[lv, .int .i64 ((me.2.2.2.2 : Nat) : Int)]) own25 rfl rfl (fun w1 hw1 => (Over_c w1 (Go.K.hp w1) (Hp.le_refl _) (RowS.ints (xs := L) (show RowS (Go.K.hp w1) lv 3 1 (L.length) (L.map (Value.int .i64)) from hw1.sat _ (List.mem_of_getElem? (i := 0) rfl)) hLm hLw) hL1 (by omega) (by omega) (by omega)).mono fun _ _ => retS_up (fun _ _ _ hl => fun ⟨v, e, k⟩ => ⟨v, e, k.mono hl⟩))) ?_
        rintro ⟨⟨lv2, Φ2⟩, hov1, hlΦ2⟩
        replace hov1 : ∃ v, lv2 = .tuple #[v, .int .i64 (Un.ov L ((me.2.2.2.2 : Nat) : Int)).2] ∧ RepSl Φ2 (Un.ov L ((me.2.2.2.2 : Nat) : Int)).1 v := hov1
        replace hlΦ2 : Hp.le Φ1 Φ2 := hlΦ2
        replace hsl := hsl.mono hlΦ2
        obtain ⟨ovv1, rfl, hov1q⟩ := hov1
        refine RW.q (v := .tuple #[ovv1, .int .i64 ((Un.ov L ((me.2.2.2.2 : Nat) : Int)).2)]) rfl (q_move rfl) ?_
        refine RW.q (v := ovv1) rfl (q_extract rfl rfl) ?_
        refine RW.q (v := .int .i64 ((Un.ov L ((me.2.2.2.2 : Nat) : Int)).2)) rfl (q_extract rfl rfl) ?_
        refine RW.q (v := ovv1) rfl (q_assign rfl) ?_
        refine RW.q (v := .int .i64 ((Un.ov L ((me.2.2.2.2 : Nat) : Int)).2)) rfl (q_assign rfl) ?_
        refine RW.nil ?_
        refine Post.then_n ?_
        refine AW.seq ?_
        refine AW.seq ?_
        obtain ⟨Q, hQ⟩ : ∃ Q, (Un.ov L (me.2.2.2.2 : Int)).1 = Q := ⟨_, rfl⟩
        obtain ⟨R, hR⟩ : ∃ R, (Un.ov L (me.2.2.2.2 : Int)).2 = R := ⟨_, rfl⟩
        rw [hQ] at hov1q
        obtain ⟨hq1, hq2, hq3, hq4⟩ := Un.amt_fac_if hc1 hfm (Q := Q) (R := R) (by rw [← hQ, hLe]) (by rw [← hR, hLe])
        have hov := Un.ov_facts (k := (me.2.2.2.2 : Int)) (by omega) hL1
        have hR0 := hov.2.2.1
        have hR1 := hov.2.2.2.1
        rw [hR] at hR0 hR1
        refine AW.region ?_
        refine RW.q (v := .int .i64 0) rfl (q_assign rfl) ?_
        refine RW.nil ?_
        refine Post.then_n ?_
        refine AW.block ?_
        refine AW.loop (fun s J m => ∃ (i : Nat), ∃ (rs : Int), s = [(4, .pointer (some (⟨b1, 0, none⟩))), (5, .int .i64 0), (6, ovv1), (7, .int .i64 (((Un.aft l).length : Nat) : Int)), (9, .int .i64 ((me.2.1 : Nat) : Int)), (15, .int .i64 rs), (16, .int .i64 (i : Int))] ∧ J = St ⟨w, Φ, []⟩ Φ2 [.row lv 3 1 L.length (L.map (Value.int .i64)), .blk b1 23 [.int .i64 0, .int .i64 0]] ∧ m = (Un.aft l).length - i ∧ (i ≤ (Un.aft l).length) ∧ ((rs = R ∧ ∀ j, j < i → Q.getD (Q.length - 1 - j) 0 = 0) ∨ (rs = 1 ∧ ∃ j, j < (Un.aft l).length ∧ Q.getD (Q.length - 1 - j) 0 ≠ 0))) (s0 := _) (J1 := _) (m0 := _) ⟨0, _, rfl, rfl, rfl, (by omega), (.inl ⟨hR, fun j hj => absurd hj (Nat.not_lt_zero _)⟩)⟩ ⟨rfl, rfl, rfl, rfl, rfl, rfl, rfl, trivial⟩ (fun _ h => h) ?_
        rintro _ _ _ _ ⟨i, rs, rfl, rfl, rfl, hi, hrs⟩
        refine AW.seq ?_
        refine AW.seq ?_
        refine AW.region ?_
        refine RW.q (v := .int .i64 (i : Int)) rfl (q_move rfl) ?_
        refine RW.q (v := .int .i64 (((Un.aft l).length : Nat) : Int)) rfl (q_move rfl) ?_
        refine RW.q (v := .bool (decide ((i : Int) < (((Un.aft l).length : Nat) : Int)))) rfl (q_lss rfl rfl) ?_
        refine RW.nil ?_
        refine Post.then_n ?_
        refine AW.cond (b := decide ((i : Int) < (((Un.aft l).length : Nat) : Int))) rfl (fun hc4 => ?_) (fun hc4 => ?_)
        · simp [-List.getD_eq_getElem?_getD] at hc4
          refine AW.skip ?_
          refine Post.then_n ?_
          refine AW.seq ?_
          refine AW.block ?_
          refine AW.seq ?_
          refine AW.region ?_
          refine RW.q (v := ovv1) rfl (q_move rfl) ?_
          refine RW.q (v := ovv1) rfl (q_move rfl) ?_
          refine RW.q (v := .int .i64 ((Q.length : Nat) : Int)) rfl (q_len_sl rfl hov1q.sl Tryd.underlying33) ?_
          refine RW.q (v := .int .i64 (((Q.length : Nat) : Int) - 1)) rfl (q_sub rfl rfl (by omega) (by unfold I64; omega)) ?_
          refine RW.q (v := .int .i64 (i : Int)) rfl (q_move rfl) ?_
          refine RW.q (v := .int .i64 ((((Q.length : Nat) : Int) - 1) - (i : Int))) rfl (q_sub rfl rfl (by omega) (by unfold I64; omega)) ?_
          refine RW.q (v := .pointer (some (Value.at ovv1 ((((((Q.length : Nat) : Int) - 1) - (i : Int)).toNat) * 1)))) rfl (q_indexAddr rfl rfl hov1q.sl Tryd.underlying33 sz3 (by omega) (by omega) rfl) ?_
          refine RW.q (v := .int .i64 (Q.getD (Q.length - 1 - i) 0)) rfl (q_as (v := .int .i64 (Q.getD (((((Q.length : Nat) : Int) - 1) - (i : Int)).toNat) 0)) (q_load rfl Tryd.underlying3 rfl (Cell.repInt hov1q (by omega))) (congrArg (Value.int .i64) (by rw [show ((Q.length : Int) - 1 - (i : Nat)).toNat = Q.length - 1 - i by omega]))) ?_
          refine RW.q (v := .bool (!decide (Q.getD (Q.length - 1 - i) 0 = 0))) rfl (q_neq rfl rfl) ?_
          refine RW.nil ?_
          refine Post.then_n ?_
          refine AW.cond (b := !decide (Q.getD (Q.length - 1 - i) 0 = 0)) rfl (fun hc5 => ?_) (fun hc5 => ?_)
          · simp [-List.getD_eq_getElem?_getD] at hc5
            refine AW.region ?_
            refine RW.q (v := .int .i64 1) rfl (q_assign rfl) ?_
            refine RW.nil ?_
            refine Post.blk_n (Post.then_n ?_)
            refine AW.region ?_
            refine RW.q (v := .int .i64 (i : Int)) rfl (q_move rfl) ?_
            refine RW.q (v := .int .i64 ((i + 1 : Nat) : Int)) rfl (q_add rfl rfl (by omega) (by unfold I64; omega)) ?_
            refine RW.q (v := .int .i64 ((i + 1 : Nat) : Int)) rfl (q_assign rfl) ?_
            refine RW.nil ?_
            exact Post.back (s' := _) (J' := _) (m' := _) (by omega) ⟨i + 1, 1, rfl, rfl, rfl, (by omega), (.inr ⟨rfl, i, by omega, hc5⟩)⟩ ⟨rfl, rfl, rfl, rfl, rfl, rfl, rfl, trivial⟩ (fun _ h => h)
          · simp [-List.getD_eq_getElem?_getD] at hc5
            refine AW.skip ?_
            refine Post.blk_n (Post.then_n ?_)
            refine AW.region ?_
            refine RW.q (v := .int .i64 (i : Int)) rfl (q_move rfl) ?_
            refine RW.q (v := .int .i64 ((i + 1 : Nat) : Int)) rfl (q_add rfl rfl (by omega) (by unfold I64; omega)) ?_
            refine RW.q (v := .int .i64 ((i + 1 : Nat) : Int)) rfl (q_assign rfl) ?_
            refine RW.nil ?_
            exact Post.back (s' := _) (J' := _) (m' := _) (by omega) ⟨i + 1, rs, rfl, rfl, rfl, (by omega), (hrs.imp (fun h => ⟨h.1, Un.lt_succ' h.2 hc5⟩) id)⟩ ⟨rfl, rfl, rfl, rfl, rfl, rfl, rfl, trivial⟩ (fun _ h => h)
        · simp [-List.getD_eq_getElem?_getD] at hc4
          refine AW.exit ?_
          refine Post.then_x (Post.then_x (Post.blk_hit (Post.then_n ?_)))
          refine AW.seq ?_
          refine AW.region ?_
          refine RW.q (v := ovv1) rfl (q_move rfl) ?_
          refine RW.q (v := ovv1) rfl (q_move rfl) ?_
          refine RW.q (v := .int .i64 ((Q.length : Nat) : Int)) rfl (q_len_sl rfl hov1q.sl Tryd.underlying33) ?_
          refine RW.q (v := .int .i64 (((Un.aft l).length : Nat) : Int)) rfl (q_move rfl) ?_
          refine RW.q (v := .int .i64 (((Q.length : Nat) : Int) - (((Un.aft l).length : Nat) : Int))) rfl (q_sub rfl rfl (by omega) (by unfold I64; omega)) ?_
          refine RW.q (v := (subSl ovv1 0 ((((Q.length : Nat) : Int) - (((Un.aft l).length : Nat) : Int)).toNat) 1)) rfl (q_sliceH (v := ovv1) (m := ((Q.length : Nat) : Int) - (((Un.aft l).length : Nat) : Int)) rfl rfl hov1q.sl Tryd.underlying33 sz3 (by omega) (by omega)) ?_
          refine RW.q (v := (subSl ovv1 0 ((((Q.length : Nat) : Int) - (((Un.aft l).length : Nat) : Int)).toNat) 1)) rfl (q_assign rfl) ?_
          refine RW.nil ?_
          refine Post.then_n ?_
          refine AW.seq ?_
          obtain ⟨T, hT⟩ : ∃ T, T = Q.take (Q.length - (Un.aft l).length) := ⟨_, rfl⟩
          have hTr : RepSl Φ2 T (subSl ovv1 0 ((((Q.length : Nat) : Int) - (((Un.aft l).length : Nat) : Int)).toNat) 1) := by
            have h9 := (hov1q.part (l := 0) (m := (((Q.length : Nat) : Int) - (((Un.aft l).length : Nat) : Int)).toNat) (by omega) (by omega))
            rw [List.drop_zero] at h9
            rw [hT, show Q.length - (Un.aft l).length = ((Q.length : Int) - ((Un.aft l).length : Nat)).toNat by omega]
            exact h9
          rw [← hT] at hq3 hq4
          have hTd : Un.Dgs T := by rw [hT]; exact Un.dgs_take hq2 _
          have hTl : T.length = Q.length - (Un.aft l).length := by rw [hT, List.length_take]; omega
          refine AW.region ?_
          refine RW.q (v := .int .i64 0) rfl (q_assign rfl) ?_
          refine RW.nil ?_
          refine Post.then_n ?_
          refine AW.seq ?_
          refine AW.seq ?_
          refine AW.region ?_
          refine RW.q (v := .int .i64 0) rfl (q_assign rfl) ?_
          refine RW.nil ?_
          refine Post.then_n ?_
          refine AW.block ?_
          refine AW.loop (fun s J m => ∃ (i : Nat), ∃ (nn : Int), s = [(4, .pointer (some (⟨b1, 0, none⟩))), (5, .int .i64 0), (6, (subSl ovv1 0 ((((Q.length : Nat) : Int) - (((Un.aft l).length : Nat) : Int)).toNat) 1)), (9, .int .i64 ((me.2.1 : Nat) : Int)), (15, .int .i64 rs), (17, .int .i64 nn), (18, .int .i64 (i : Int))] ∧ J = St ⟨w, Φ, []⟩ Φ2 [.row lv 3 1 L.length (L.map (Value.int .i64)), .blk b1 23 [.int .i64 0, .int .i64 0]] ∧ m = T.length - i ∧ (i ≤ T.length) ∧ (nn = Un.nv (T.take i)) ∧ (0 ≤ nn) ∧ (nn ≤ 1125899906842624)) (s0 := _) (J1 := _) (m0 := _) ⟨0, 0, rfl, rfl, rfl, (by omega), rfl, (by omega), (by omega)⟩ ⟨rfl, rfl, rfl, rfl, rfl, rfl, rfl, trivial⟩ (fun _ h => h) ?_
          rintro _ _ _ _ ⟨i, nn, rfl, rfl, rfl, hi, hnn, hn0, hn1⟩
          refine AW.seq ?_
          refine AW.seq ?_
          refine AW.region ?_
          refine RW.q (v := .int .i64 (i : Int)) rfl (q_move rfl) ?_
          refine RW.q (v := (subSl ovv1 0 ((((Q.length : Nat) : Int) - (((Un.aft l).length : Nat) : Int)).toNat) 1)) rfl (q_move rfl) ?_
          refine RW.q (v := .int .i64 ((T.length : Nat) : Int)) rfl (q_len_sl rfl hTr.sl Tryd.underlying33) ?_
          refine RW.q (v := .bool (decide ((i : Int) < ((T.length : Nat) : Int)))) rfl (q_lss rfl rfl) ?_
          refine RW.nil ?_
          refine Post.then_n ?_
          refine AW.cond (b := decide ((i : Int) < ((T.length : Nat) : Int))) rfl (fun hc6 => ?_) (fun hc6 => ?_)
          · simp [-List.getD_eq_getElem?_getD] at hc6
            refine AW.skip ?_
            refine Post.then_n ?_
            refine AW.seq ?_
            refine AW.block ?_
            refine AW.seq ?_
            obtain ⟨hd0, hd9⟩ := Un.dgs_get hTd i
            have hts := Un.nv_takeS (l := T) (i := i) (by omega)
            rw [← hnn] at hts
            refine AW.region ?_
            refine RW.q (v := .int .i64 nn) rfl (q_move rfl) ?_
            refine RW.q (v := .int .i64 (10 * nn)) rfl (q_mul rfl rfl rfl (by unfold I64; omega)) ?_
            refine RW.q (v := (subSl ovv1 0 ((((Q.length : Nat) : Int) - (((Un.aft l).length : Nat) : Int)).toNat) 1)) rfl (q_move rfl) ?_
            refine RW.q (v := .int .i64 (i : Int)) rfl (q_move rfl) ?_
            refine RW.q (v := .pointer (some (Value.at (subSl ovv1 0 ((((Q.length : Nat) : Int) - (((Un.aft l).length : Nat) : Int)).toNat) 1) (i * 1)))) rfl (q_indexAddr rfl rfl hTr.sl Tryd.underlying33 sz3 (by omega) (by omega) rfl) ?_
            refine RW.q (v := .int .i64 (T.getD i 0)) rfl (q_load rfl Tryd.underlying3 rfl (Cell.repInt hTr (by omega))) ?_
            refine RW.q (v := .int .i64 ((10 * nn) + (T.getD i 0))) rfl (q_add rfl rfl (by omega) (by unfold I64; omega)) ?_
            refine RW.q (v := .int .i64 ((10 * nn) + (T.getD i 0))) rfl (q_assign rfl) ?_
            refine RW.nil ?_
            refine Post.then_n ?_
            refine AW.seq ?_
            refine AW.region ?_
            refine RW.q (v := .int .i64 ((10 * nn) + (T.getD i 0))) rfl (q_move rfl) ?_
            refine RW.q (v := .bool (decide ((1125899906842624 : Int) < (10 * nn) + (T.getD i 0)))) rfl (q_gtr rfl rfl) ?_
            refine RW.nil ?_
            refine Post.then_n ?_
            refine AW.cond (b := decide ((1125899906842624 : Int) < (10 * nn) + (T.getD i 0))) rfl (fun hc7 => ?_) (fun hc7 => ?_)
            · simp [-List.getD_eq_getElem?_getD] at hc7
              refine AW.seq ?_
              refine AW.region ?_
              refine RW.q (v := .agg #[.int .i64 0, .int .i64 0]) rfl (q_build (vals := []) zero23 Tryd.underlying23 places23 rfl rfl) ?_
              refine RW.effn (J' := St ⟨w, Φ, []⟩ Φ2 [.row lv 3 1 L.length (L.map (Value.int .i64)), .blk b1 23 [.int .i64 0, .int .i64 0]]) (e_store (v := .agg #[.int .i64 0, .int .i64 0]) 1 rfl rfl rfl sz23 rfl rfl rfl rfl rfl) ?_
              refine RW.q (v := .int .i64 7) rfl (q_assign rfl) ?_
              refine RW.nil ?_
              refine Post.then_n ?_
              refine AW.ret ?_
              refine Post.blk_r (Post.then_r (Post.then_r (Post.blk_r (Post.then_r ?_))))
              refine fin_cell2 (cs := [.int .i64 0, .int .i64 0]) (v := .int .i64 7) rfl rfl rfl rfl Tryd.underlying23 rfl sz23 rfl (Cells.blk 1 rfl) (fun w' hw => ?_)
              refine ⟨?_, hw.below rfl⟩
              have hle := Un.nv_take_le hTd (i + 1)
              rw [hq4 (.inl (by unfold Un.M; omega))]
              rfl
            · simp [-List.getD_eq_getElem?_getD] at hc7
              refine AW.skip ?_
              refine Post.blk_n (Post.then_n ?_)
              refine AW.region ?_
              refine RW.q (v := .int .i64 (i : Int)) rfl (q_move rfl) ?_
              refine RW.q (v := .int .i64 ((i + 1 : Nat) : Int)) rfl (q_add rfl rfl (by omega) (by unfold I64; omega)) ?_
              refine RW.q (v := .int .i64 ((i + 1 : Nat) : Int)) rfl (q_assign rfl) ?_
              refine RW.nil ?_
              exact Post.back (s' := _) (J' := _) (m' := _) (by omega) ⟨i + 1, _, rfl, rfl, rfl, (by omega), hts.symm, (by omega), (by omega)⟩ ⟨rfl, rfl, rfl, rfl, rfl, rfl, rfl, trivial⟩ (fun _ h => h)
          · simp [-List.getD_eq_getElem?_getD] at hc6
            refine AW.exit ?_
            refine Post.then_x (Post.then_x (Post.blk_hit (Post.then_n ?_)))
            refine AW.seq ?_
            refine AW.seq ?_
            refine AW.region ?_
            refine RW.q (v := .int .i64 rs) rfl (q_move rfl) ?_
            refine RW.q (v := .bool (!decide (rs = 0))) rfl (q_neq rfl rfl) ?_
            refine RW.nil ?_
            refine Post.then_n ?_
            refine AW.cond (b := !decide (rs = 0)) rfl (fun hc8 => ?_) (fun hc8 => ?_)
            · simp [-List.getD_eq_getElem?_getD] at hc8
              refine AW.seq ?_
              refine AW.region ?_
              refine RW.q (v := .agg #[.int .i64 0, .int .i64 0]) rfl (q_build (vals := []) zero23 Tryd.underlying23 places23 rfl rfl) ?_
              refine RW.effn (J' := St ⟨w, Φ, []⟩ Φ2 [.row lv 3 1 L.length (L.map (Value.int .i64)), .blk b1 23 [.int .i64 0, .int .i64 0]]) (e_store (v := .agg #[.int .i64 0, .int .i64 0]) 1 rfl rfl rfl sz23 rfl rfl rfl rfl rfl) ?_
              refine RW.q (v := .int .i64 7) rfl (q_assign rfl) ?_
              refine RW.nil ?_
              refine Post.then_n ?_
              refine AW.ret ?_
              refine Post.then_r ?_
              refine fin_cell2 (cs := [.int .i64 0, .int .i64 0]) (v := .int .i64 7) rfl rfl rfl rfl Tryd.underlying23 rfl sz23 rfl (Cells.blk 1 rfl) (fun w' hw => ?_)
              refine ⟨?_, hw.below rfl⟩
              have h7 : Un.amt l n = (0, 0, 7) := by
                rcases hrs with ⟨h8, _⟩ | ⟨_, h8⟩
                · exact hq4 (.inr (.inl (by rw [← h8]; exact hc8)))
                · exact hq4 (.inr (.inr h8))
              rw [h7]
              rfl
            · simp [-List.getD_eq_getElem?_getD] at hc8
              refine AW.skip ?_
              refine Post.then_n ?_
              refine AW.seq ?_
              refine AW.region ?_
              refine RW.q (v := .int .i64 nn) rfl (q_move rfl) ?_
              refine RW.q (v := .int .i64 ((me.2.1 : Nat) : Int)) rfl (q_move rfl) ?_
              refine RW.q (v := .agg #[.int .i64 nn, .int .i64 ((me.2.1 : Nat) : Int)]) rfl (q_build (vals := [(0, .int .i64 nn), (1, .int .i64 ((me.2.1 : Nat) : Int))]) zero23 Tryd.underlying23 places23 rfl rfl) ?_
              refine RW.effn (J' := St ⟨w, Φ, []⟩ Φ2 [.row lv 3 1 L.length (L.map (Value.int .i64)), .blk b1 23 [.int .i64 nn, .int .i64 ((me.2.1 : Nat) : Int)]]) (e_store (v := .agg #[.int .i64 nn, .int .i64 ((me.2.1 : Nat) : Int)]) 1 rfl rfl rfl sz23 rfl rfl rfl rfl rfl) ?_
              refine RW.q (v := .int .i64 0) rfl (q_assign rfl) ?_
              refine RW.nil ?_
              refine Post.then_n ?_
              refine AW.ret ?_
              refine fin_cell2 (cs := [.int .i64 nn, .int .i64 ((me.2.1 : Nat) : Int)]) (v := .int .i64 0) rfl rfl rfl rfl Tryd.underlying23 rfl sz23 rfl (Cells.blk 1 rfl) (fun w' hw => ?_)
              refine ⟨?_, hw.below rfl⟩
              rw [List.take_of_length_le (by omega)] at hnn
              rcases hrs with ⟨h8, h9⟩ | ⟨h8, _⟩
              · obtain ⟨e1, e2, e3⟩ := hq3 (by rw [← hnn]; unfold Un.M; omega) (by omega) (fun j hj => h9 j (by omega))
                rw [e1, e2, e3, ← hnn]
                rfl
              · omega

end Go.Proofs.YthiflhoobldioaaDoor
