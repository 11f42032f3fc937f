/- The walks of layer 11 (part LawB), printed by walk.py. Conditions: those of each theorem. -/
import Derived.Test.YtjkoojeampaeeaaLawA
import Derived.Test.YtjkoojeampaeeaaOrders2
namespace Go.Proofs.Ytjkoojeampaeeaa
open Go Go.K Go.RowKit

set_option maxHeartbeats 1000000 in
theorem GraphOrders_c (w : World) (Φ : Hp) (hΦ : Hp.le Φ (hp w)) {n : Int} {arcs : List Gr.Arc} {v1 : Value} (h1 : RepSl Φ arcs v1) :
    Calls Try.prog 3 #[.int .i64 n, v1] w fun e w' => e = .returned (.bool true) ∧ Below w.heap.size w w' := by
  refine calls_of_AW (args := [.int .i64 n, v1]) Try.func3 rfl (Nat.le_of_ble_eq_true rfl) (St ⟨w, Φ, []⟩ Φ []) (StP.init w Φ hΦ []) ?_
  show AW Try.prog 119 [] _ _ _ [(0, .int .i64 n), (1, v1)] _
  have hm1 : arcs.length * 16 ≤ 140737488355328 := h1.max
  refine AW.seq ?_
  refine AW.region ?_
  refine RW.q (v := .bool false) rfl (q_assign rfl) ?_
  refine RW.nil ?_
  refine Post.then_n ?_
  refine AW.seq ?_
  refine AW.region ?_
  refine RW.q (v := .bool true) rfl (q_call (args := #[]) own9 rfl rfl (fun w1 hw1 => small_c w1 Φ hw1.phi)) ?_
  refine RW.q (v := .bool true) rfl (q_assign rfl) ?_
  refine RW.nil ?_
  refine Post.then_n ?_
  refine AW.seq ?_
  refine AW.seq ?_
  refine AW.region ?_
  refine RW.q (v := .int .i64 n) rfl (q_move rfl) ?_
  refine RW.q (v := v1) rfl (q_move rfl) ?_
  refine RW.q (v := .bool (Gr.rightB n arcs)) rfl (q_call (args := #[.int .i64 n, v1]) own10 rfl rfl (fun w1 hw1 => Right_c w1 Φ hw1.phi h1)) ?_
  refine RW.q (v := .bool (!(Gr.rightB n arcs))) rfl (q_not rfl) ?_
  refine RW.q (v := .bool (!(Gr.rightB n arcs))) rfl (q_move rfl) ?_
  refine RW.g (b := (!(Gr.rightB n arcs))) (v := v1) rfl rfl rfl (fun h => q_move rfl) ?_
  refine RW.g (b := (!(Gr.rightB n arcs))) (v := .int .i64 ((arcs.length : Nat) : Int)) rfl rfl rfl (fun h => q_len_sl (gv_pos h) h1.sl Try.underlying22) ?_
  refine RW.g (b := (!(Gr.rightB n arcs))) (v := .bool (decide ((200 : Int) < ((arcs.length : Nat) : Int)))) rfl rfl rfl (fun h => q_gtr (gv_pos h) rfl) ?_
  refine RW.q (v := .bool ((!(Gr.rightB n arcs)) || (decide ((200 : Int) < ((arcs.length : Nat) : Int))))) rfl (q_pick rfl (fun hp => pkOrT hp) (fun hp => (gv_pos hp).trans (pkOrF hp))) ?_
  refine RW.nil ?_
  refine Post.then_n ?_
  refine AW.cond (b := (!(Gr.rightB n arcs)) || (decide ((200 : Int) < ((arcs.length : Nat) : Int)))) rfl (fun hc1 => ?_) (fun hc1 => ?_)
  · simp [-List.getD_eq_getElem?_getD] at hc1
    refine AW.seq ?_
    refine AW.region ?_
    refine RW.q (v := .bool true) rfl (q_move rfl) ?_
    refine RW.q (v := .bool true) rfl (q_assign rfl) ?_
    refine RW.nil ?_
    refine Post.then_n ?_
    refine AW.ret ?_
    refine Post.then_r ?_
    exact fin_val (v' := .bool true) rfl rfl rfl (by rfl)
  · simp [-List.getD_eq_getElem?_getD] at hc1
    refine AW.skip ?_
    refine Post.then_n ?_
    refine AW.seq ?_
    obtain ⟨hr, hlen⟩ := hc1
    have hn := (Gr.right_iff.1 hr).1
    have e1 := Gr.orders_iff hr
    refine AW.region ?_
    refine RW.q (v := .int .i64 n) rfl (q_move rfl) ?_
    refine RW.q (v := v1) rfl (q_move rfl) ?_
    refine RW.eff (fun x : {y : Value × Hp // (fun r Ψ => PairRep Ψ (Gr.orderM n arcs) r) y.1 y.2 ∧ Hp.le Φ y.2} => x.1.1) (fun x => St ⟨w, Φ, []⟩ x.1.2 []) rfl (e_callS (T := fun r Ψ => PairRep Ψ (Gr.orderM n arcs) r) (args := #[.int .i64 n, v1]) own11 rfl rfl (fun w1 hw1 => (Order_c w1 Φ hw1.phi h1).mono fun _ _ => retS_up (fun _ _ _ hl h => h.mono hl))) ?_
    rintro ⟨⟨rp1, Φ1⟩, hrp1, hlΦ1⟩
    replace hrp1 : PairRep Φ1 (Gr.orderM n arcs) rp1 := hrp1
    replace hlΦ1 : Hp.le Φ Φ1 := hlΦ1
    replace h1 := h1.mono hlΦ1
    obtain ⟨pv1, rfl, hpv1⟩ := hrp1
    refine RW.q (v := .tuple #[pv1, .bool ((Gr.orderM n arcs).isSome)]) rfl (q_move rfl) ?_
    refine RW.q (v := pv1) rfl (q_extract rfl rfl) ?_
    refine RW.q (v := .bool ((Gr.orderM n arcs).isSome)) rfl (q_extract rfl rfl) ?_
    refine RW.q (v := pv1) rfl (q_assign rfl) ?_
    refine RW.q (v := .bool ((Gr.orderM n arcs).isSome)) rfl (q_assign rfl) ?_
    refine RW.nil ?_
    refine Post.then_n ?_
    refine AW.seq ?_
    refine AW.region ?_
    refine RW.q (v := .int .i64 n) rfl (q_move rfl) ?_
    refine RW.q (v := v1) rfl (q_move rfl) ?_
    refine RW.eff (fun x : {y : Value × Hp // (fun r Ψ => RepSl Ψ (Gr.loopM n arcs) r) y.1 y.2 ∧ Hp.le Φ1 y.2} => x.1.1) (fun x => St ⟨w, Φ, []⟩ x.1.2 []) rfl (e_callS (T := fun r Ψ => RepSl Ψ (Gr.loopM n arcs) r) (args := #[.int .i64 n, v1]) own12 rfl rfl (fun w1 hw1 => (Loop_c w1 Φ1 hw1.phi h1).mono fun _ _ => retS_up (fun _ _ _ hl h => h.mono hl))) ?_
    rintro ⟨⟨lv1, Φ2⟩, hlv1, hlΦ2⟩
    replace hlv1 : RepSl Φ2 (Gr.loopM n arcs) lv1 := hlv1
    replace hlΦ2 : Hp.le Φ1 Φ2 := hlΦ2
    replace h1 := h1.mono hlΦ2
    replace hpv1 := hpv1.mono hlΦ2
    refine RW.q (v := lv1) rfl (q_assign rfl) ?_
    refine RW.nil ?_
    refine Post.then_n ?_
    refine AW.seq ?_
    refine AW.seq ?_
    have hml : (Gr.loopM n arcs).length * 8 ≤ 140737488355328 := hlv1.max
    refine AW.region ?_
    refine RW.q (v := .bool ((Gr.orderM n arcs).isSome)) rfl (q_move rfl) ?_
    refine RW.q (v := lv1) rfl (q_move rfl) ?_
    refine RW.q (v := .int .i64 (((Gr.loopM n arcs).length : Nat) : Int)) rfl (q_len_sl rfl hlv1.sl Try.underlying25) ?_
    refine RW.q (v := .bool (decide ((((Gr.loopM n arcs).length : Nat) : Int) = 0))) rfl (q_eql rfl rfl) ?_
    refine RW.q (v := .bool (!(((Gr.orderM n arcs).isSome) == (decide ((((Gr.loopM n arcs).length : Nat) : Int) = 0))))) rfl (q_neqB rfl rfl Try.underlying4) ?_
    refine RW.nil ?_
    refine Post.then_n ?_
    refine AW.cond (b := !(((Gr.orderM n arcs).isSome) == (decide ((((Gr.loopM n arcs).length : Nat) : Int) = 0)))) rfl (fun hc2 => ?_) (fun hc2 => ?_)
    · simp [-List.getD_eq_getElem?_getD] at hc2
      exact absurd (e1.trans (by simp)) hc2
    · simp [-List.getD_eq_getElem?_getD] at hc2
      refine AW.skip ?_
      refine Post.then_n ?_
      refine AW.seq ?_
      refine AW.seq ?_
      refine AW.region ?_
      refine RW.q (v := .bool ((Gr.orderM n arcs).isSome)) rfl (q_move rfl) ?_
      refine RW.nil ?_
      refine Post.then_n ?_
      refine AW.cond (b := (Gr.orderM n arcs).isSome) rfl (fun hc3 => ?_) (fun hc3 => ?_)
      · skip
        refine AW.seq ?_
        refine AW.seq ?_
        obtain ⟨l, hl⟩ := Option.isSome_iff_exists.1 hc3
        obtain ⟨y1, y2, y3⟩ := Gr.orders_yes hr hl
        have hgl : (Gr.orderM n arcs).getD [] = l := by rw [hl]; rfl
        refine AW.region ?_
        refine RW.q (v := .int .i64 0) rfl (q_assign rfl) ?_
        refine RW.nil ?_
        refine Post.then_n ?_
        refine AW.block ?_
        refine AW.loop (fun s J m => ∃ (k : Nat), s = [(0, .int .i64 n), (1, v1), (5, .bool true), (6, pv1), (9, .int .i64 (k : Int))] ∧ J = St ⟨w, Φ, []⟩ Φ2 [] ∧ m = (n - k).toNat) (s0 := _) (J1 := _) (m0 := _) ⟨0, rfl, rfl, rfl⟩ ⟨rfl, rfl, rfl, rfl, rfl, trivial⟩ (fun _ h => h) ?_
        rintro _ _ _ _ ⟨k, rfl, rfl, rfl⟩
        refine AW.seq ?_
        refine AW.seq ?_
        refine AW.region ?_
        refine RW.q (v := .int .i64 (k : Int)) rfl (q_move rfl) ?_
        refine RW.q (v := .int .i64 n) rfl (q_move rfl) ?_
        refine RW.q (v := .bool (decide ((k : Int) < n))) rfl (q_lss rfl rfl) ?_
        refine RW.nil ?_
        refine Post.then_n ?_
        refine AW.cond (b := decide ((k : Int) < n)) rfl (fun hc4 => ?_) (fun hc4 => ?_)
        · simp [-List.getD_eq_getElem?_getD] at hc4
          refine AW.skip ?_
          refine Post.then_n ?_
          refine AW.seq ?_
          refine AW.block ?_
          refine AW.seq ?_
          refine AW.region ?_
          refine RW.q (v := pv1) rfl (q_move rfl) ?_
          refine RW.q (v := .int .i64 (k : Int)) rfl (q_move rfl) ?_
          refine RW.q (v := .int .i64 (Gr.atZ ((Gr.orderM n arcs).getD []) (k : Int))) rfl (q_call (args := #[pv1, .int .i64 (k : Int)]) own13 rfl rfl (fun w1 hw1 => at_c w1 Φ2 hw1.phi hpv1)) ?_
          refine RW.q (v := .bool (decide (Gr.atZ ((Gr.orderM n arcs).getD []) (k : Int) < 0))) rfl (q_lss rfl rfl) ?_
          refine RW.nil ?_
          refine Post.then_n ?_
          refine AW.cond (b := decide (Gr.atZ ((Gr.orderM n arcs).getD []) (k : Int) < 0)) rfl (fun hc5 => ?_) (fun hc5 => ?_)
          · simp [-List.getD_eq_getElem?_getD] at hc5
            rw [hgl] at hc5
            have := y2 k (by omega)
            omega
          · simp [-List.getD_eq_getElem?_getD] at hc5
            refine AW.skip ?_
            refine Post.blk_n (Post.then_n ?_)
            refine AW.region ?_
            refine RW.q (v := .int .i64 (k : Int)) rfl (q_move rfl) ?_
            refine RW.q (v := .int .i64 ((k + 1 : Nat) : Int)) rfl (q_add rfl rfl (by omega) (by unfold I64; omega)) ?_
            refine RW.q (v := .int .i64 ((k + 1 : Nat) : Int)) rfl (q_assign rfl) ?_
            refine RW.nil ?_
            exact Post.back (s' := _) (J' := _) (m' := _) (by omega) ⟨k + 1, rfl, rfl, rfl⟩ ⟨rfl, rfl, rfl, rfl, rfl, trivial⟩ (fun _ h => h)
        · simp [-List.getD_eq_getElem?_getD] at hc4
          refine AW.exit ?_
          refine Post.then_x (Post.then_x (Post.blk_hit (Post.then_n ?_)))
          refine AW.seq ?_
          refine AW.seq ?_
          refine AW.region ?_
          refine RW.q (v := .int .i64 0) rfl (q_assign rfl) ?_
          refine RW.nil ?_
          refine Post.then_n ?_
          refine AW.block ?_
          refine AW.loop (fun s J m => ∃ (k : Nat), s = [(0, .int .i64 n), (1, v1), (5, .bool true), (6, pv1), (10, .int .i64 (k : Int))] ∧ J = St ⟨w, Φ, []⟩ Φ2 [] ∧ m = arcs.length - k ∧ (k ≤ arcs.length)) (s0 := _) (J1 := _) (m0 := _) ⟨0, rfl, rfl, rfl, (by omega)⟩ ⟨rfl, rfl, rfl, rfl, rfl, trivial⟩ (fun _ h => h) ?_
          rintro _ _ _ _ ⟨k, rfl, rfl, rfl, hk⟩
          refine AW.seq ?_
          refine AW.seq ?_
          refine AW.region ?_
          refine RW.q (v := .int .i64 (k : Int)) rfl (q_move rfl) ?_
          refine RW.q (v := v1) rfl (q_move rfl) ?_
          refine RW.q (v := .int .i64 ((arcs.length : Nat) : Int)) rfl (q_len_sl rfl h1.sl Try.underlying22) ?_
          refine RW.q (v := .bool (decide ((k : Int) < ((arcs.length : Nat) : Int)))) rfl (q_lss rfl rfl) ?_
          refine RW.nil ?_
          refine Post.then_n ?_
          refine AW.cond (b := decide ((k : Int) < ((arcs.length : Nat) : Int))) rfl (fun hc6 => ?_) (fun hc6 => ?_)
          · simp [-List.getD_eq_getElem?_getD] at hc6
            refine AW.skip ?_
            refine Post.then_n ?_
            refine AW.seq ?_
            refine AW.block ?_
            refine AW.seq ?_
            refine AW.draw (J0 := St ⟨w, Φ, []⟩ Φ2 []) [true, true, true, true, true, true, true, true, true, true, true, true, true, true, true] hmix (by kernel_rfl) ?_
            refine DW.q (v := pv1) (fun _ h => h) rfl (q_move rfl) ?_
            refine DW.q (v := v1) (fun _ h => h) rfl (q_move rfl) ?_
            refine DW.q (v := .int .i64 (k : Int)) (fun _ h => h) rfl (q_move rfl) ?_
            refine DW.q (v := .pointer (some (Value.at v1 (k * 2)))) (fun _ h => h) rfl (q_indexAddr rfl rfl h1.sl Try.underlying22 sz31 (by omega) (by omega) rfl) ?_
            refine DW.q (v := .pointer (some (Value.at v1 (k * 2 + 0)))) (fun _ h => h) rfl (q_fieldAddr rfl Try.underlying31 rfl sz3 at_add) ?_
            refine DW.q (v := .int .i64 ((arcs.getD k default).From)) (fun _ h => h) rfl (q_load rfl Try.underlying3 rfl (Cell.repE (j := 0) h1 (by omega) rfl)) ?_
            refine DW.q (v := .int .i64 (Gr.atZ ((Gr.orderM n arcs).getD []) ((arcs.getD k default).From))) (fun _ h => h) rfl (q_call (args := #[pv1, .int .i64 ((arcs.getD k default).From)]) own13 rfl rfl (fun w1 hw1 => at_c w1 Φ2 hw1.phi hpv1)) ?_
            refine DW.q (v := pv1) (fun _ h => h) rfl (q_move rfl) ?_
            refine DW.q (v := v1) (fun _ h => h) rfl (q_move rfl) ?_
            refine DW.q (v := .int .i64 (k : Int)) (fun _ h => h) rfl (q_move rfl) ?_
            refine DW.q (v := .pointer (some (Value.at v1 (k * 2)))) (fun _ h => h) rfl (q_indexAddr rfl rfl h1.sl Try.underlying22 sz31 (by omega) (by omega) rfl) ?_
            refine DW.q (v := .pointer (some (Value.at v1 (k * 2 + 1)))) (fun _ h => h) rfl (q_fieldAddr rfl Try.underlying31 rfl sz3 at_add) ?_
            refine DW.q (v := .int .i64 ((arcs.getD k default).To)) (fun _ h => h) rfl (q_load rfl Try.underlying3 rfl (Cell.repE (j := 1) h1 (by omega) rfl)) ?_
            refine DW.q (v := .int .i64 (Gr.atZ ((Gr.orderM n arcs).getD []) ((arcs.getD k default).To))) (fun _ h => h) rfl (q_call (args := #[pv1, .int .i64 ((arcs.getD k default).To)]) own13 rfl rfl (fun w1 hw1 => at_c w1 Φ2 hw1.phi hpv1)) ?_
            refine DW.q (v := .bool (decide (Gr.atZ ((Gr.orderM n arcs).getD []) ((arcs.getD k default).To) ≤ Gr.atZ ((Gr.orderM n arcs).getD []) ((arcs.getD k default).From)))) (fun _ h => h) rfl (q_geq rfl rfl) ?_
            refine DW.nil ?_
            refine Post.then_n ?_
            refine AW.cond (b := decide (Gr.atZ ((Gr.orderM n arcs).getD []) ((arcs.getD k default).To) ≤ Gr.atZ ((Gr.orderM n arcs).getD []) ((arcs.getD k default).From))) rfl (fun hc7 => ?_) (fun hc7 => ?_)
            · simp [-List.getD_eq_getElem?_getD] at hc7
              rw [hgl] at hc7
              have := y3 k (by omega)
              omega
            · simp [-List.getD_eq_getElem?_getD] at hc7
              refine AW.skip ?_
              refine Post.blk_n (Post.then_n ?_)
              refine AW.region ?_
              refine RW.q (v := .int .i64 (k : Int)) rfl (q_move rfl) ?_
              refine RW.q (v := .int .i64 ((k + 1 : Nat) : Int)) rfl (q_add rfl rfl (by omega) (by unfold I64; omega)) ?_
              refine RW.q (v := .int .i64 ((k + 1 : Nat) : Int)) rfl (q_assign rfl) ?_
              refine RW.nil ?_
              exact Post.back (s' := _) (J' := _) (m' := _) (by omega) ⟨k + 1, rfl, rfl, rfl, (by omega)⟩ ⟨rfl, rfl, rfl, rfl, rfl, trivial⟩ (fun _ h => h)
          · simp [-List.getD_eq_getElem?_getD] at hc6
            refine AW.exit ?_
            refine Post.then_x (Post.then_x (Post.blk_hit (Post.then_n ?_)))
            refine AW.seq ?_
            refine AW.region ?_
            refine RW.q (v := .bool true) rfl (q_move rfl) ?_
            refine RW.q (v := .bool true) rfl (q_move rfl) ?_
            refine RW.gl (v := pv1) rfl rfl rfl (q_move rfl) ?_
            refine RW.gl (v := .int .i64 ((((Gr.orderM n arcs).getD []).length : Nat) : Int)) rfl rfl rfl (q_len_sl rfl hpv1.sl Try.underlying25) ?_
            refine RW.gl (v := .int .i64 n) rfl rfl rfl (q_move rfl) ?_
            refine RW.gl (v := .bool (decide (((((Gr.orderM n arcs).getD []).length : Nat) : Int) = n))) rfl rfl rfl (q_eql rfl rfl) ?_
            refine RW.q (v := .bool (true && (decide (((((Gr.orderM n arcs).getD []).length : Nat) : Int) = n)))) rfl (q_pick rfl (fun hp => pkAndT hp) (fun hp => pkAndF hp)) ?_
            refine RW.q (v := .bool (true && (decide (((((Gr.orderM n arcs).getD []).length : Nat) : Int) = n)))) rfl (q_assign rfl) ?_
            refine RW.nil ?_
            refine Post.then_n ?_
            refine AW.ret ?_
            refine Post.then_r ?_
            exact fin_val (v' := .bool (true && (decide (((((Gr.orderM n arcs).getD []).length : Nat) : Int) = n)))) rfl rfl rfl (by rw [hgl, decide_eq_true y1]; rfl)
      · simp [-List.getD_eq_getElem?_getD] at hc3
        refine AW.skip ?_
        refine Post.then_n ?_
        refine AW.seq ?_
        refine AW.seq ?_
        refine AW.region ?_
        refine RW.q (v := .int .i64 0) rfl (q_assign rfl) ?_
        refine RW.nil ?_
        refine Post.then_n ?_
        refine AW.block ?_
        refine AW.loop (fun s J m => ∃ (k : Nat), s = [(1, v1), (5, .bool true), (6, pv1), (8, lv1), (11, .int .i64 (k : Int))] ∧ J = St ⟨w, Φ, []⟩ Φ2 [] ∧ m = (Gr.loopM n arcs).length - k ∧ (k ≤ (Gr.loopM n arcs).length)) (s0 := _) (J1 := _) (m0 := _) ⟨0, rfl, rfl, rfl, (by omega)⟩ ⟨rfl, rfl, rfl, rfl, rfl, trivial⟩ (fun _ h => h) ?_
        rintro _ _ _ _ ⟨k, rfl, rfl, rfl, hk⟩
        refine AW.seq ?_
        refine AW.seq ?_
        refine AW.region ?_
        refine RW.q (v := .int .i64 (k : Int)) rfl (q_move rfl) ?_
        refine RW.q (v := lv1) rfl (q_move rfl) ?_
        refine RW.q (v := .int .i64 (((Gr.loopM n arcs).length : Nat) : Int)) rfl (q_len_sl rfl hlv1.sl Try.underlying25) ?_
        refine RW.q (v := .bool (decide ((k : Int) < (((Gr.loopM n arcs).length : Nat) : Int)))) rfl (q_lss rfl rfl) ?_
        refine RW.nil ?_
        refine Post.then_n ?_
        refine AW.cond (b := decide ((k : Int) < (((Gr.loopM n arcs).length : Nat) : Int))) rfl (fun hc8 => ?_) (fun hc8 => ?_)
        · simp [-List.getD_eq_getElem?_getD] at hc8
          refine AW.skip ?_
          refine Post.then_n ?_
          refine AW.seq ?_
          refine AW.block ?_
          refine AW.seq ?_
          refine AW.region ?_
          refine RW.q (v := lv1) rfl (q_move rfl) ?_
          refine RW.q (v := .pointer (some (Value.at lv1 (0 * 1)))) rfl (q_indexAddr rfl rfl hlv1.sl Try.underlying25 sz3 (by omega) (by omega) rfl) ?_
          refine RW.q (v := .int .i64 ((Gr.loopM n arcs).getD 0 0)) rfl (q_load rfl Try.underlying3 rfl (Cell.repInt hlv1 (by omega))) ?_
          refine RW.q (v := .int .i64 ((Gr.loopM n arcs).getD 0 0)) rfl (q_assign rfl) ?_
          refine RW.nil ?_
          refine Post.then_n ?_
          refine AW.seq ?_
          refine AW.seq ?_
          refine AW.region ?_
          refine RW.q (v := .int .i64 (k : Int)) rfl (q_move rfl) ?_
          refine RW.q (v := .int .i64 ((k + 1 : Nat) : Int)) rfl (q_add rfl rfl (by omega) (by unfold I64; omega)) ?_
          refine RW.q (v := lv1) rfl (q_move rfl) ?_
          refine RW.q (v := .int .i64 (((Gr.loopM n arcs).length : Nat) : Int)) rfl (q_len_sl rfl hlv1.sl Try.underlying25) ?_
          refine RW.q (v := .bool (decide (((k + 1 : Nat) : Int) < (((Gr.loopM n arcs).length : Nat) : Int)))) rfl (q_lss rfl rfl) ?_
          refine RW.nil ?_
          refine Post.then_n ?_
          refine AW.cond (b := decide (((k + 1 : Nat) : Int) < (((Gr.loopM n arcs).length : Nat) : Int))) rfl (fun hc9 => ?_) (fun hc9 => ?_)
          · simp [-List.getD_eq_getElem?_getD] at hc9
            refine AW.region ?_
            refine RW.q (v := lv1) rfl (q_move rfl) ?_
            refine RW.q (v := .int .i64 (k : Int)) rfl (q_move rfl) ?_
            refine RW.q (v := .int .i64 ((k + 1 : Nat) : Int)) rfl (q_add rfl rfl (by omega) (by unfold I64; omega)) ?_
            refine RW.q (v := .pointer (some (Value.at lv1 ((k + 1) * 1)))) rfl (q_indexAddr rfl rfl hlv1.sl Try.underlying25 sz3 (by omega) (by omega) rfl) ?_
            refine RW.q (v := .int .i64 ((Gr.loopM n arcs).getD (k + 1) 0)) rfl (q_load rfl Try.underlying3 rfl (Cell.repInt hlv1 (by omega))) ?_
            refine RW.q (v := .int .i64 ((Gr.loopM n arcs).getD (k + 1) 0)) rfl (q_assign rfl) ?_
            refine RW.nil ?_
            refine Post.then_n ?_
            refine AW.seq ?_
            refine AW.region ?_
            refine RW.q (v := v1) rfl (q_move rfl) ?_
            refine RW.q (v := lv1) rfl (q_move rfl) ?_
            refine RW.q (v := .int .i64 (k : Int)) rfl (q_move rfl) ?_
            refine RW.q (v := .pointer (some (Value.at lv1 (k * 1)))) rfl (q_indexAddr rfl rfl hlv1.sl Try.underlying25 sz3 (by omega) (by omega) rfl) ?_
            refine RW.q (v := .int .i64 ((Gr.loopM n arcs).getD k 0)) rfl (q_load rfl Try.underlying3 rfl (Cell.repInt hlv1 (by omega))) ?_
            refine RW.q (v := .int .i64 ((Gr.loopM n arcs).getD (k + 1) 0)) rfl (q_move rfl) ?_
            refine RW.q (v := .bool (decide ((⟨(Gr.loopM n arcs).getD k 0, (Gr.loopM n arcs).getD (k + 1) 0⟩ : Gr.Arc) ∈ arcs))) rfl (q_call (args := #[v1, .int .i64 ((Gr.loopM n arcs).getD k 0), .int .i64 ((Gr.loopM n arcs).getD (k + 1) 0)]) own14 rfl rfl (fun w1 hw1 => Has_c w1 Φ2 hw1.phi h1)) ?_
            refine RW.q (v := .bool (!(decide ((⟨(Gr.loopM n arcs).getD k 0, (Gr.loopM n arcs).getD (k + 1) 0⟩ : Gr.Arc) ∈ arcs)))) rfl (q_not rfl) ?_
            refine RW.q (v := .bool (!(decide ((⟨(Gr.loopM n arcs).getD k 0, (Gr.loopM n arcs).getD (k + 1) 0⟩ : Gr.Arc) ∈ arcs)))) rfl (q_move rfl) ?_
            refine RW.g (b := (!(decide ((⟨(Gr.loopM n arcs).getD k 0, (Gr.loopM n arcs).getD (k + 1) 0⟩ : Gr.Arc) ∈ arcs)))) (v := lv1) rfl rfl rfl (fun h => q_move rfl) ?_
            refine RW.g (b := (!(decide ((⟨(Gr.loopM n arcs).getD k 0, (Gr.loopM n arcs).getD (k + 1) 0⟩ : Gr.Arc) ∈ arcs)))) (v := lv1) rfl rfl rfl (fun h => q_move rfl) ?_
            refine RW.g (b := (!(decide ((⟨(Gr.loopM n arcs).getD k 0, (Gr.loopM n arcs).getD (k + 1) 0⟩ : Gr.Arc) ∈ arcs)))) (v := .int .i64 (k : Int)) rfl rfl rfl (fun h => q_move rfl) ?_
            refine RW.g (b := (!(decide ((⟨(Gr.loopM n arcs).getD k 0, (Gr.loopM n arcs).getD (k + 1) 0⟩ : Gr.Arc) ∈ arcs)))) (v := .pointer (some (Value.at lv1 (k * 1)))) rfl rfl rfl (fun h => q_indexAddr (gv_pos h) (gv_pos h) hlv1.sl Try.underlying25 sz3 (by (try simp [-List.getD_eq_getElem?_getD] at h); omega) (by (try simp [-List.getD_eq_getElem?_getD] at h); omega) rfl) ?_
            refine RW.g (b := (!(decide ((⟨(Gr.loopM n arcs).getD k 0, (Gr.loopM n arcs).getD (k + 1) 0⟩ : Gr.Arc) ∈ arcs)))) (v := .int .i64 ((Gr.loopM n arcs).getD k 0)) rfl rfl rfl (fun h => q_load (gv_pos h) Try.underlying3 rfl (Cell.repInt hlv1 (by (try simp [-List.getD_eq_getElem?_getD] at h); omega))) ?_
            refine RW.g (b := (!(decide ((⟨(Gr.loopM n arcs).getD k 0, (Gr.loopM n arcs).getD (k + 1) 0⟩ : Gr.Arc) ∈ arcs)))) (v := .int .i64 (Gr.atZ (Gr.loopM n arcs) ((Gr.loopM n arcs).getD k 0))) rfl rfl rfl (fun h => q_call (args := #[lv1, .int .i64 ((Gr.loopM n arcs).getD k 0)]) own13 rfl (args2 (gv_pos h) (gv_pos h)) (fun w1 hw1 => at_c w1 Φ2 hw1.phi hlv1)) ?_
            refine RW.g (b := (!(decide ((⟨(Gr.loopM n arcs).getD k 0, (Gr.loopM n arcs).getD (k + 1) 0⟩ : Gr.Arc) ∈ arcs)))) (v := .int .i64 (k : Int)) rfl rfl rfl (fun h => q_move rfl) ?_
            refine RW.g (b := (!(decide ((⟨(Gr.loopM n arcs).getD k 0, (Gr.loopM n arcs).getD (k + 1) 0⟩ : Gr.Arc) ∈ arcs)))) (v := .bool (!decide (Gr.atZ (Gr.loopM n arcs) ((Gr.loopM n arcs).getD k 0) = (k : Int)))) rfl rfl rfl (fun h => q_neq (gv_pos h) (gv_pos h)) ?_
            refine RW.q (v := .bool ((!(decide ((⟨(Gr.loopM n arcs).getD k 0, (Gr.loopM n arcs).getD (k + 1) 0⟩ : Gr.Arc) ∈ arcs))) || (!decide (Gr.atZ (Gr.loopM n arcs) ((Gr.loopM n arcs).getD k 0) = (k : Int))))) rfl (q_pick rfl (fun hp => pkOrT hp) (fun hp => (gv_pos hp).trans (pkOrF hp))) ?_
            refine RW.nil ?_
            refine Post.then_n ?_
            refine AW.cond (b := (!(decide ((⟨(Gr.loopM n arcs).getD k 0, (Gr.loopM n arcs).getD (k + 1) 0⟩ : Gr.Arc) ∈ arcs))) || (!decide (Gr.atZ (Gr.loopM n arcs) ((Gr.loopM n arcs).getD k 0) = (k : Int)))) rfl (fun hc10 => ?_) (fun hc10 => ?_)
            · simp [-List.getD_eq_getElem?_getD] at hc10
              have y := Gr.orders_no hr hc8
              rcases hc10 with h | h
              · exact absurd (y.1 (by omega)) h
              · exact absurd y.2.2 h
            · simp [-List.getD_eq_getElem?_getD] at hc10
              refine AW.skip ?_
              refine Post.blk_n (Post.then_n ?_)
              refine AW.region ?_
              refine RW.q (v := .int .i64 (k : Int)) rfl (q_move rfl) ?_
              refine RW.q (v := .int .i64 ((k + 1 : Nat) : Int)) rfl (q_add rfl rfl (by omega) (by unfold I64; omega)) ?_
              refine RW.q (v := .int .i64 ((k + 1 : Nat) : Int)) rfl (q_assign rfl) ?_
              refine RW.nil ?_
              exact Post.back (s' := _) (J' := _) (m' := _) (by omega) ⟨k + 1, rfl, rfl, rfl, (by omega)⟩ ⟨rfl, rfl, rfl, rfl, rfl, trivial⟩ (fun _ h => h)
          · simp [-List.getD_eq_getElem?_getD] at hc9
            refine AW.skip ?_
            refine Post.then_n ?_
            refine AW.seq ?_
            refine AW.region ?_
            refine RW.q (v := v1) rfl (q_move rfl) ?_
            refine RW.q (v := lv1) rfl (q_move rfl) ?_
            refine RW.q (v := .int .i64 (k : Int)) rfl (q_move rfl) ?_
            refine RW.q (v := .pointer (some (Value.at lv1 (k * 1)))) rfl (q_indexAddr rfl rfl hlv1.sl Try.underlying25 sz3 (by omega) (by omega) rfl) ?_
            refine RW.q (v := .int .i64 ((Gr.loopM n arcs).getD k 0)) rfl (q_load rfl Try.underlying3 rfl (Cell.repInt hlv1 (by omega))) ?_
            refine RW.q (v := .int .i64 ((Gr.loopM n arcs).getD 0 0)) rfl (q_move rfl) ?_
            refine RW.q (v := .bool (decide ((⟨(Gr.loopM n arcs).getD k 0, (Gr.loopM n arcs).getD 0 0⟩ : Gr.Arc) ∈ arcs))) rfl (q_call (args := #[v1, .int .i64 ((Gr.loopM n arcs).getD k 0), .int .i64 ((Gr.loopM n arcs).getD 0 0)]) own14 rfl rfl (fun w1 hw1 => Has_c w1 Φ2 hw1.phi h1)) ?_
            refine RW.q (v := .bool (!(decide ((⟨(Gr.loopM n arcs).getD k 0, (Gr.loopM n arcs).getD 0 0⟩ : Gr.Arc) ∈ arcs)))) rfl (q_not rfl) ?_
            refine RW.q (v := .bool (!(decide ((⟨(Gr.loopM n arcs).getD k 0, (Gr.loopM n arcs).getD 0 0⟩ : Gr.Arc) ∈ arcs)))) rfl (q_move rfl) ?_
            refine RW.g (b := (!(decide ((⟨(Gr.loopM n arcs).getD k 0, (Gr.loopM n arcs).getD 0 0⟩ : Gr.Arc) ∈ arcs)))) (v := lv1) rfl rfl rfl (fun h => q_move rfl) ?_
            refine RW.g (b := (!(decide ((⟨(Gr.loopM n arcs).getD k 0, (Gr.loopM n arcs).getD 0 0⟩ : Gr.Arc) ∈ arcs)))) (v := lv1) rfl rfl rfl (fun h => q_move rfl) ?_
            refine RW.g (b := (!(decide ((⟨(Gr.loopM n arcs).getD k 0, (Gr.loopM n arcs).getD 0 0⟩ : Gr.Arc) ∈ arcs)))) (v := .int .i64 (k : Int)) rfl rfl rfl (fun h => q_move rfl) ?_
            refine RW.g (b := (!(decide ((⟨(Gr.loopM n arcs).getD k 0, (Gr.loopM n arcs).getD 0 0⟩ : Gr.Arc) ∈ arcs)))) (v := .pointer (some (Value.at lv1 (k * 1)))) rfl rfl rfl (fun h => q_indexAddr (gv_pos h) (gv_pos h) hlv1.sl Try.underlying25 sz3 (by (try simp [-List.getD_eq_getElem?_getD] at h); omega) (by (try simp [-List.getD_eq_getElem?_getD] at h); omega) rfl) ?_
            refine RW.g (b := (!(decide ((⟨(Gr.loopM n arcs).getD k 0, (Gr.loopM n arcs).getD 0 0⟩ : Gr.Arc) ∈ arcs)))) (v := .int .i64 ((Gr.loopM n arcs).getD k 0)) rfl rfl rfl (fun h => q_load (gv_pos h) Try.underlying3 rfl (Cell.repInt hlv1 (by (try simp [-List.getD_eq_getElem?_getD] at h); omega))) ?_
            refine RW.g (b := (!(decide ((⟨(Gr.loopM n arcs).getD k 0, (Gr.loopM n arcs).getD 0 0⟩ : Gr.Arc) ∈ arcs)))) (v := .int .i64 (Gr.atZ (Gr.loopM n arcs) ((Gr.loopM n arcs).getD k 0))) rfl rfl rfl (fun h => q_call (args := #[lv1, .int .i64 ((Gr.loopM n arcs).getD k 0)]) own13 rfl (args2 (gv_pos h) (gv_pos h)) (fun w1 hw1 => at_c w1 Φ2 hw1.phi hlv1)) ?_
            refine RW.g (b := (!(decide ((⟨(Gr.loopM n arcs).getD k 0, (Gr.loopM n arcs).getD 0 0⟩ : Gr.Arc) ∈ arcs)))) (v := .int .i64 (k : Int)) rfl rfl rfl (fun h => q_move rfl) ?_
            refine RW.g (b := (!(decide ((⟨(Gr.loopM n arcs).getD k 0, (Gr.loopM n arcs).getD 0 0⟩ : Gr.Arc) ∈ arcs)))) (v := .bool (!decide (Gr.atZ (Gr.loopM n arcs) ((Gr.loopM n arcs).getD k 0) = (k : Int)))) rfl rfl rfl (fun h => q_neq (gv_pos h) (gv_pos h)) ?_
            refine RW.q (v := .bool ((!(decide ((⟨(Gr.loopM n arcs).getD k 0, (Gr.loopM n arcs).getD 0 0⟩ : Gr.Arc) ∈ arcs))) || (!decide (Gr.atZ (Gr.loopM n arcs) ((Gr.loopM n arcs).getD k 0) = (k : Int))))) rfl (q_pick rfl (fun hp => pkOrT hp) (fun hp => (gv_pos hp).trans (pkOrF hp))) ?_
            refine RW.nil ?_
            refine Post.then_n ?_
            refine AW.cond (b := (!(decide ((⟨(Gr.loopM n arcs).getD k 0, (Gr.loopM n arcs).getD 0 0⟩ : Gr.Arc) ∈ arcs))) || (!decide (Gr.atZ (Gr.loopM n arcs) ((Gr.loopM n arcs).getD k 0) = (k : Int)))) rfl (fun hc11 => ?_) (fun hc11 => ?_)
            · simp [-List.getD_eq_getElem?_getD] at hc11
              have y := Gr.orders_no hr hc8
              rcases hc11 with h | h
              · exact absurd (y.2.1 (by omega)) h
              · exact absurd y.2.2 h
            · simp [-List.getD_eq_getElem?_getD] at hc11
              refine AW.skip ?_
              refine Post.blk_n (Post.then_n ?_)
              refine AW.region ?_
              refine RW.q (v := .int .i64 (k : Int)) rfl (q_move rfl) ?_
              refine RW.q (v := .int .i64 ((k + 1 : Nat) : Int)) rfl (q_add rfl rfl (by omega) (by unfold I64; omega)) ?_
              refine RW.q (v := .int .i64 ((k + 1 : Nat) : Int)) rfl (q_assign rfl) ?_
              refine RW.nil ?_
              exact Post.back (s' := _) (J' := _) (m' := _) (by omega) ⟨k + 1, rfl, rfl, rfl, (by omega)⟩ ⟨rfl, rfl, rfl, rfl, rfl, trivial⟩ (fun _ h => h)
        · simp [-List.getD_eq_getElem?_getD] at hc8
          refine AW.exit ?_
          refine Post.then_x (Post.then_x (Post.blk_hit (Post.then_n ?_)))
          refine AW.seq ?_
          refine AW.region ?_
          refine RW.q (v := .bool true) rfl (q_move rfl) ?_
          refine RW.q (v := .bool true) rfl (q_move rfl) ?_
          refine RW.gl (v := pv1) rfl rfl rfl (q_move rfl) ?_
          refine RW.gl (v := .int .i64 ((((Gr.orderM n arcs).getD []).length : Nat) : Int)) rfl rfl rfl (q_len_sl rfl hpv1.sl Try.underlying25) ?_
          refine RW.gl (v := .bool (decide (((((Gr.orderM n arcs).getD []).length : Nat) : Int) = 0))) rfl rfl rfl (q_eql rfl rfl) ?_
          refine RW.q (v := .bool (true && (decide (((((Gr.orderM n arcs).getD []).length : Nat) : Int) = 0)))) rfl (q_pick rfl (fun hp => pkAndT hp) (fun hp => pkAndF hp)) ?_
          refine RW.q (v := .bool (true && (decide (((((Gr.orderM n arcs).getD []).length : Nat) : Int) = 0)))) rfl (q_assign rfl) ?_
          refine RW.nil ?_
          refine Post.then_n ?_
          refine AW.ret ?_
          exact fin_val (v' := .bool (true && (decide (((((Gr.orderM n arcs).getD []).length : Nat) : Int) = 0)))) rfl rfl rfl (by rw [hc3]; rfl)

end Go.Proofs.Ytjkoojeampaeeaa
