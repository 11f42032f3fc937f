/- The walks of layer 11 (part LawF), printed by walk.py. Conditions: those of each theorem. -/
import Derived.Test.YtjkoojeampaeeaaLawE
import Derived.Test.YtjkoojeampaeeaaWalkJ
namespace Go.Proofs.Ytjkoojeampaeeaa
open Go Go.K Go.RowKit

set_option maxHeartbeats 1000000 in
theorem GraphTells_c (w : World) (Φ : Hp) (hΦ : Hp.le Φ (hp w)) {n a b : Int} {arcs : List Gr.Arc} {v1 : Value} (h1 : RepSl Φ arcs v1) :
    Calls Try.prog 7 #[.int .i64 n, v1, .int .i64 a, .int .i64 b] w fun e w' => e = .returned (.bool true) ∧ Below w.heap.size w w' := by
  refine calls_of_AW (args := [.int .i64 n, v1, .int .i64 a, .int .i64 b]) Try.func7 rfl (Nat.le_of_ble_eq_true rfl) (St ⟨w, Φ, []⟩ Φ []) (StP.init w Φ hΦ []) ?_
  show AW Try.prog 113 [] _ _ _ [(0, .int .i64 n), (1, v1), (2, .int .i64 a), (3, .int .i64 b)] _
  have hm1 : arcs.length * 16 ≤ 140737488355328 := h1.max
  refine AW.seq ?_
  refine AW.region ?_
  refine RW.q (v := .bool false) rfl (q_assign rfl) ?_
  refine RW.nil ?_
  refine Post.then_n ?_
  refine AW.seq ?_
  refine AW.region ?_
  refine RW.q (v := .bool true) rfl (q_call (args := #[]) own9 rfl rfl (fun w1 hw1 => small_c w1 Φ hw1.phi)) ?_
  refine RW.q (v := .bool true) rfl (q_assign rfl) ?_
  refine RW.nil ?_
  refine Post.then_n ?_
  refine AW.seq ?_
  refine AW.region ?_
  refine RW.q (v := .int .i64 n) rfl (q_move rfl) ?_
  refine RW.q (v := v1) rfl (q_move rfl) ?_
  refine RW.q (v := .bool (decide (n ≤ 16) && decide ((arcs.length : Int) ≤ 40))) rfl (q_call (args := #[.int .i64 n, v1]) own15 rfl rfl (fun w1 hw1 => few_c w1 Φ hw1.phi h1)) ?_
  refine RW.q (v := .bool (decide (n ≤ 16) && decide ((arcs.length : Int) ≤ 40))) rfl (q_assign rfl) ?_
  refine RW.nil ?_
  refine Post.then_n ?_
  refine AW.seq ?_
  refine AW.seq ?_
  refine AW.region ?_
  refine RW.q (v := .bool (decide (n ≤ 16) && decide ((arcs.length : Int) ≤ 40))) rfl (q_move rfl) ?_
  refine RW.q (v := .bool (!(decide (n ≤ 16) && decide ((arcs.length : Int) ≤ 40)))) rfl (q_not rfl) ?_
  refine RW.nil ?_
  refine Post.then_n ?_
  refine AW.cond (b := !(decide (n ≤ 16) && decide ((arcs.length : Int) ≤ 40))) rfl (fun hc1 => ?_) (fun hc1 => ?_)
  · simp [-List.getD_eq_getElem?_getD] at hc1
    refine AW.seq ?_
    refine AW.region ?_
    refine RW.q (v := .bool true) rfl (q_move rfl) ?_
    refine RW.q (v := .bool true) rfl (q_assign rfl) ?_
    refine RW.nil ?_
    refine Post.then_n ?_
    refine AW.ret ?_
    refine Post.then_r ?_
    exact fin_val (v' := .bool true) rfl rfl rfl (by rfl)
  · simp [-List.getD_eq_getElem?_getD] at hc1
    refine AW.skip ?_
    refine Post.then_n ?_
    refine AW.seq ?_
    obtain ⟨hn16, h40⟩ := hc1
    refine AW.region ?_
    refine RW.q (v := .int .i64 n) rfl (q_move rfl) ?_
    refine RW.q (v := v1) rfl (q_move rfl) ?_
    refine RW.eff (fun x : {y : Value × Hp // (fun r Ψ => PairRep Ψ (Gr.orderM n arcs) r) y.1 y.2 ∧ Hp.le Φ y.2} => x.1.1) (fun x => St ⟨w, Φ, []⟩ x.1.2 []) rfl (e_callS (T := fun r Ψ => PairRep Ψ (Gr.orderM n arcs) r) (args := #[.int .i64 n, v1]) own11 rfl rfl (fun w1 hw1 => (Order_c w1 Φ hw1.phi h1).mono fun _ _ => retS_up (fun _ _ _ hl h => h.mono hl))) ?_
    rintro ⟨⟨rp1, Φ1⟩, hrp1, hlΦ1⟩
    replace hrp1 : PairRep Φ1 (Gr.orderM n arcs) rp1 := hrp1
    replace hlΦ1 : Hp.le Φ Φ1 := hlΦ1
    replace h1 := h1.mono hlΦ1
    obtain ⟨pv1, rfl, hpv1⟩ := hrp1
    refine RW.q (v := .tuple #[pv1, .bool ((Gr.orderM n arcs).isSome)]) rfl (q_move rfl) ?_
    refine RW.q (v := pv1) rfl (q_extract rfl rfl) ?_
    refine RW.q (v := .bool ((Gr.orderM n arcs).isSome)) rfl (q_extract rfl rfl) ?_
    refine RW.q (v := pv1) rfl (q_assign rfl) ?_
    refine RW.q (v := .bool ((Gr.orderM n arcs).isSome)) rfl (q_assign rfl) ?_
    refine RW.nil ?_
    refine Post.then_n ?_
    refine AW.seq ?_
    refine AW.region ?_
    refine RW.q (v := .int .i64 n) rfl (q_move rfl) ?_
    refine RW.q (v := v1) rfl (q_move rfl) ?_
    refine RW.eff (fun x : {y : Value × Hp // (fun r Ψ => PairRep Ψ (Gr.orderM n arcs) r) y.1 y.2 ∧ Hp.le Φ1 y.2} => x.1.1) (fun x => St ⟨w, Φ, []⟩ x.1.2 []) rfl (e_callS (T := fun r Ψ => PairRep Ψ (Gr.orderM n arcs) r) (args := #[.int .i64 n, v1]) own20 rfl rfl (fun w1 hw1 => (rOrder_c w1 Φ1 hw1.phi h1).mono fun _ _ => retS_up (fun _ _ _ hl h => h.mono hl))) ?_
    rintro ⟨⟨rp2, Φ2⟩, hrp2, hlΦ2⟩
    replace hrp2 : PairRep Φ2 (Gr.orderM n arcs) rp2 := hrp2
    replace hlΦ2 : Hp.le Φ1 Φ2 := hlΦ2
    replace h1 := h1.mono hlΦ2
    replace hpv1 := hpv1.mono hlΦ2
    obtain ⟨pv2, rfl, hpv2⟩ := hrp2
    refine RW.q (v := .tuple #[pv2, .bool ((Gr.orderM n arcs).isSome)]) rfl (q_move rfl) ?_
    refine RW.q (v := pv2) rfl (q_extract rfl rfl) ?_
    refine RW.q (v := .bool ((Gr.orderM n arcs).isSome)) rfl (q_extract rfl rfl) ?_
    refine RW.q (v := pv2) rfl (q_assign rfl) ?_
    refine RW.q (v := .bool ((Gr.orderM n arcs).isSome)) rfl (q_assign rfl) ?_
    refine RW.nil ?_
    refine Post.then_n ?_
    refine AW.seq ?_
    refine AW.region ?_
    refine RW.q (v := .int .i64 n) rfl (q_move rfl) ?_
    refine RW.q (v := v1) rfl (q_move rfl) ?_
    refine RW.q (v := .int .i64 a) rfl (q_move rfl) ?_
    refine RW.q (v := .int .i64 b) rfl (q_move rfl) ?_
    refine RW.eff (fun x : {y : Value × Hp // (fun r Ψ => PairRep Ψ (Gr.pathM n arcs a b) r) y.1 y.2 ∧ Hp.le Φ2 y.2} => x.1.1) (fun x => St ⟨w, Φ, []⟩ x.1.2 []) rfl (e_callS (T := fun r Ψ => PairRep Ψ (Gr.pathM n arcs a b) r) (args := #[.int .i64 n, v1, .int .i64 a, .int .i64 b]) own17 rfl rfl (fun w1 hw1 => (Path_c w1 Φ2 hw1.phi h1).mono fun _ _ => retS_up (fun _ _ _ hl h => h.mono hl))) ?_
    rintro ⟨⟨rp3, Φ3⟩, hrp3, hlΦ3⟩
    replace hrp3 : PairRep Φ3 (Gr.pathM n arcs a b) rp3 := hrp3
    replace hlΦ3 : Hp.le Φ2 Φ3 := hlΦ3
    replace h1 := h1.mono hlΦ3
    replace hpv1 := hpv1.mono hlΦ3
    replace hpv2 := hpv2.mono hlΦ3
    obtain ⟨pv3, rfl, hpv3⟩ := hrp3
    refine RW.q (v := .tuple #[pv3, .bool ((Gr.pathM n arcs a b).isSome)]) rfl (q_move rfl) ?_
    refine RW.q (v := pv3) rfl (q_extract rfl rfl) ?_
    refine RW.q (v := .bool ((Gr.pathM n arcs a b).isSome)) rfl (q_extract rfl rfl) ?_
    refine RW.q (v := pv3) rfl (q_assign rfl) ?_
    refine RW.q (v := .bool ((Gr.pathM n arcs a b).isSome)) rfl (q_assign rfl) ?_
    refine RW.nil ?_
    refine Post.then_n ?_
    refine AW.seq ?_
    refine AW.region ?_
    refine RW.q (v := .int .i64 n) rfl (q_move rfl) ?_
    refine RW.q (v := v1) rfl (q_move rfl) ?_
    refine RW.q (v := .int .i64 a) rfl (q_move rfl) ?_
    refine RW.q (v := .int .i64 b) rfl (q_move rfl) ?_
    refine RW.eff (fun x : {y : Value × Hp // (fun r Ψ => PairRep Ψ (Gr.pathM n arcs a b) r) y.1 y.2 ∧ Hp.le Φ3 y.2} => x.1.1) (fun x => St ⟨w, Φ, []⟩ x.1.2 []) rfl (e_callS (T := fun r Ψ => PairRep Ψ (Gr.pathM n arcs a b) r) (args := #[.int .i64 n, v1, .int .i64 a, .int .i64 b]) own21 rfl rfl (fun w1 hw1 => (rPath_c w1 Φ3 hw1.phi h1).mono fun _ _ => retS_up (fun _ _ _ hl h => h.mono hl))) ?_
    rintro ⟨⟨rp4, Φ4⟩, hrp4, hlΦ4⟩
    replace hrp4 : PairRep Φ4 (Gr.pathM n arcs a b) rp4 := hrp4
    replace hlΦ4 : Hp.le Φ3 Φ4 := hlΦ4
    replace h1 := h1.mono hlΦ4
    replace hpv1 := hpv1.mono hlΦ4
    replace hpv2 := hpv2.mono hlΦ4
    replace hpv3 := hpv3.mono hlΦ4
    obtain ⟨pv4, rfl, hpv4⟩ := hrp4
    refine RW.q (v := .tuple #[pv4, .bool ((Gr.pathM n arcs a b).isSome)]) rfl (q_move rfl) ?_
    refine RW.q (v := pv4) rfl (q_extract rfl rfl) ?_
    refine RW.q (v := .bool ((Gr.pathM n arcs a b).isSome)) rfl (q_extract rfl rfl) ?_
    refine RW.q (v := pv4) rfl (q_assign rfl) ?_
    refine RW.q (v := .bool ((Gr.pathM n arcs a b).isSome)) rfl (q_assign rfl) ?_
    refine RW.nil ?_
    refine Post.then_n ?_
    refine AW.seq ?_
    refine AW.seq ?_
    refine AW.region ?_
    refine RW.q (v := .bool ((Gr.orderM n arcs).isSome)) rfl (q_move rfl) ?_
    refine RW.q (v := .bool ((Gr.orderM n arcs).isSome)) rfl (q_move rfl) ?_
    refine RW.q (v := .bool false) rfl (q_as (v := .bool (!(((Gr.orderM n arcs).isSome) == ((Gr.orderM n arcs).isSome)))) (q_neqB rfl rfl Try.underlying4) (congrArg Value.bool (by rw [beq_self_eq_true]; rfl))) ?_
    refine RW.q (v := .bool false) rfl (q_move rfl) ?_
    refine RW.gl (v := .bool ((Gr.pathM n arcs a b).isSome)) rfl rfl rfl (q_move rfl) ?_
    refine RW.gl (v := .bool ((Gr.pathM n arcs a b).isSome)) rfl rfl rfl (q_move rfl) ?_
    refine RW.gl (v := .bool false) rfl rfl rfl (q_as (v := .bool (!(((Gr.pathM n arcs a b).isSome) == ((Gr.pathM n arcs a b).isSome)))) (q_neqB rfl rfl Try.underlying4) (congrArg Value.bool (by rw [beq_self_eq_true]; rfl))) ?_
    refine RW.q (v := .bool false) rfl (q_pick rfl (fun hp => pkOrT (q := false) (r := false) hp) (fun hp => pkOrF (q := false) (r := false) hp)) ?_
    refine RW.q (v := .bool false) rfl (q_move rfl) ?_
    refine RW.gl (v := .int .i64 n) rfl rfl rfl (q_move rfl) ?_
    refine RW.gl (v := v1) rfl rfl rfl (q_move rfl) ?_
    refine RW.gl (v := .bool (Gr.rightB n arcs)) rfl rfl rfl (q_call (args := #[.int .i64 n, v1]) own10 rfl rfl (fun w1 hw1 => Right_c w1 Φ4 hw1.phi h1)) ?_
    refine RW.gl (v := .int .i64 n) rfl rfl rfl (q_move rfl) ?_
    refine RW.gl (v := v1) rfl rfl rfl (q_move rfl) ?_
    refine RW.gl (v := .bool (Gr.rightB n arcs)) rfl rfl rfl (q_call (args := #[.int .i64 n, v1]) own22 rfl rfl (fun w1 hw1 => rRight_c w1 Φ4 hw1.phi h1)) ?_
    refine RW.gl (v := .bool false) rfl rfl rfl (q_as (v := .bool (!((Gr.rightB n arcs) == (Gr.rightB n arcs)))) (q_neqB rfl rfl Try.underlying4) (congrArg Value.bool (by rw [beq_self_eq_true]; rfl))) ?_
    refine RW.q (v := .bool false) rfl (q_pick rfl (fun hp => pkOrT (q := false) (r := false) hp) (fun hp => pkOrF (q := false) (r := false) hp)) ?_
    refine RW.nil ?_
    refine Post.then_n ?_
    refine AW.cond (b := false) rfl (fun hc2 => ?_) (fun hc2 => ?_)
    · cases hc2
    · skip
      refine AW.skip ?_
      refine Post.then_n ?_
      refine AW.seq ?_
      refine AW.region ?_
      refine RW.q (v := .bool true) rfl (q_move rfl) ?_
      refine RW.q (v := .bool true) rfl (q_move rfl) ?_
      refine RW.gl (v := pv1) rfl rfl rfl (q_move rfl) ?_
      refine RW.gl (v := pv2) rfl rfl rfl (q_move rfl) ?_
      refine RW.gl (v := .bool true) rfl rfl rfl (q_as (v := .bool (decide (((Gr.orderM n arcs).getD []) = ((Gr.orderM n arcs).getD [])))) (q_call (args := #[pv1, pv2]) own18 rfl rfl (fun w1 hw1 => Same_c w1 Φ4 hw1.phi hpv1 hpv2)) (congrArg Value.bool (decide_eq_true rfl))) ?_
      refine RW.q (v := .bool true) rfl (q_pick rfl (fun hp => pkOrT (q := true) (r := false) hp) (fun hp => pkOrF (q := true) (r := false) hp)) ?_
      refine RW.q (v := .bool true) rfl (q_move rfl) ?_
      refine RW.gl (v := pv3) rfl rfl rfl (q_move rfl) ?_
      refine RW.gl (v := pv4) rfl rfl rfl (q_move rfl) ?_
      refine RW.gl (v := .bool true) rfl rfl rfl (q_as (v := .bool (decide (((Gr.pathM n arcs a b).getD []) = ((Gr.pathM n arcs a b).getD [])))) (q_call (args := #[pv3, pv4]) own18 rfl rfl (fun w1 hw1 => Same_c w1 Φ4 hw1.phi hpv3 hpv4)) (congrArg Value.bool (decide_eq_true rfl))) ?_
      refine RW.q (v := .bool true) rfl (q_pick rfl (fun hp => pkOrT (q := true) (r := false) hp) (fun hp => pkOrF (q := true) (r := false) hp)) ?_
      refine RW.q (v := .bool true) rfl (q_move rfl) ?_
      refine RW.gl (v := .int .i64 n) rfl rfl rfl (q_move rfl) ?_
      refine RW.gl (v := v1) rfl rfl rfl (q_move rfl) ?_
      refine RW.gl (v := .int .i64 a) rfl rfl rfl (q_move rfl) ?_
      refine RW.effg (fun x : {y : Value × Hp // (fun r Ψ => RepSl Ψ (Gr.downM n arcs a) r) y.1 y.2 ∧ Hp.le Φ4 y.2} => x.1.1) (fun x => St ⟨w, Φ, []⟩ x.1.2 []) rfl rfl rfl (e_callS (T := fun r Ψ => RepSl Ψ (Gr.downM n arcs a) r) (args := #[.int .i64 n, v1, .int .i64 a]) own19 rfl rfl (fun w1 hw1 => (Down_c w1 Φ4 hw1.phi h1).mono fun _ _ => retS_up (fun _ _ _ hl h => h.mono hl))) ?_
      rintro ⟨⟨lv1, Φ5⟩, hlv1, hlΦ5⟩
      replace hlv1 : RepSl Φ5 (Gr.downM n arcs a) lv1 := hlv1
      replace hlΦ5 : Hp.le Φ4 Φ5 := hlΦ5
      replace h1 := h1.mono hlΦ5
      replace hpv1 := hpv1.mono hlΦ5
      replace hpv2 := hpv2.mono hlΦ5
      replace hpv3 := hpv3.mono hlΦ5
      replace hpv4 := hpv4.mono hlΦ5
      refine RW.gl (v := .int .i64 n) rfl rfl rfl (q_move rfl) ?_
      refine RW.gl (v := v1) rfl rfl rfl (q_move rfl) ?_
      refine RW.gl (v := .int .i64 a) rfl rfl rfl (q_move rfl) ?_
      refine RW.effg (fun x : {y : Value × Hp // (fun r Ψ => RepSl Ψ (Gr.downM n arcs a) r) y.1 y.2 ∧ Hp.le Φ5 y.2} => x.1.1) (fun x => St ⟨w, Φ, []⟩ x.1.2 []) rfl rfl rfl (e_callS (T := fun r Ψ => RepSl Ψ (Gr.downM n arcs a) r) (args := #[.int .i64 n, v1, .int .i64 a]) own23 rfl rfl (fun w1 hw1 => (rDown_c w1 Φ5 hw1.phi h1).mono fun _ _ => retS_up (fun _ _ _ hl h => h.mono hl))) ?_
      rintro ⟨⟨lv2, Φ6⟩, hlv2, hlΦ6⟩
      replace hlv2 : RepSl Φ6 (Gr.downM n arcs a) lv2 := hlv2
      replace hlΦ6 : Hp.le Φ5 Φ6 := hlΦ6
      replace h1 := h1.mono hlΦ6
      replace hpv1 := hpv1.mono hlΦ6
      replace hpv2 := hpv2.mono hlΦ6
      replace hpv3 := hpv3.mono hlΦ6
      replace hpv4 := hpv4.mono hlΦ6
      replace hlv1 := hlv1.mono hlΦ6
      refine RW.gl (v := .bool true) rfl rfl rfl (q_as (v := .bool (decide ((Gr.downM n arcs a) = (Gr.downM n arcs a)))) (q_call (args := #[lv1, lv2]) own18 rfl rfl (fun w1 hw1 => Same_c w1 Φ6 hw1.phi hlv1 hlv2)) (congrArg Value.bool (decide_eq_true rfl))) ?_
      refine RW.q (v := .bool true) rfl (q_pick rfl (fun hp => pkOrT (q := true) (r := false) hp) (fun hp => pkOrF (q := true) (r := false) hp)) ?_
      refine RW.q (v := .bool true) rfl (q_move rfl) ?_
      refine RW.gl (v := .int .i64 n) rfl rfl rfl (q_move rfl) ?_
      refine RW.gl (v := v1) rfl rfl rfl (q_move rfl) ?_
      refine RW.gl (v := .int .i64 a) rfl rfl rfl (q_move rfl) ?_
      refine RW.effg (fun x : {y : Value × Hp // (fun r Ψ => RepSl Ψ (Gr.downM n (Gr.rev arcs) a) r) y.1 y.2 ∧ Hp.le Φ6 y.2} => x.1.1) (fun x => St ⟨w, Φ, []⟩ x.1.2 []) rfl rfl rfl (e_callS (T := fun r Ψ => RepSl Ψ (Gr.downM n (Gr.rev arcs) a) r) (args := #[.int .i64 n, v1, .int .i64 a]) own24 rfl rfl (fun w1 hw1 => (Up_c w1 Φ6 hw1.phi h1 (by omega)).mono fun _ _ => retS_up (fun _ _ _ hl h => h.mono hl))) ?_
      rintro ⟨⟨lv3, Φ7⟩, hlv3, hlΦ7⟩
      replace hlv3 : RepSl Φ7 (Gr.downM n (Gr.rev arcs) a) lv3 := hlv3
      replace hlΦ7 : Hp.le Φ6 Φ7 := hlΦ7
      replace h1 := h1.mono hlΦ7
      replace hpv1 := hpv1.mono hlΦ7
      replace hpv2 := hpv2.mono hlΦ7
      replace hpv3 := hpv3.mono hlΦ7
      replace hpv4 := hpv4.mono hlΦ7
      replace hlv1 := hlv1.mono hlΦ7
      replace hlv2 := hlv2.mono hlΦ7
      refine RW.gl (v := .int .i64 n) rfl rfl rfl (q_move rfl) ?_
      refine RW.gl (v := v1) rfl rfl rfl (q_move rfl) ?_
      refine RW.gl (v := .int .i64 a) rfl rfl rfl (q_move rfl) ?_
      refine RW.effg (fun x : {y : Value × Hp // (fun r Ψ => RepSl Ψ (Gr.downM n (Gr.rev arcs) a) r) y.1 y.2 ∧ Hp.le Φ7 y.2} => x.1.1) (fun x => St ⟨w, Φ, []⟩ x.1.2 []) rfl rfl rfl (e_callS (T := fun r Ψ => RepSl Ψ (Gr.downM n (Gr.rev arcs) a) r) (args := #[.int .i64 n, v1, .int .i64 a]) own25 rfl rfl (fun w1 hw1 => (rUp_c w1 Φ7 hw1.phi h1).mono fun _ _ => retS_up (fun _ _ _ hl h => h.mono hl))) ?_
      rintro ⟨⟨lv4, Φ8⟩, hlv4, hlΦ8⟩
      replace hlv4 : RepSl Φ8 (Gr.downM n (Gr.rev arcs) a) lv4 := hlv4
      replace hlΦ8 : Hp.le Φ7 Φ8 := hlΦ8
      replace h1 := h1.mono hlΦ8
      replace hpv1 := hpv1.mono hlΦ8
      replace hpv2 := hpv2.mono hlΦ8
      replace hpv3 := hpv3.mono hlΦ8
      replace hpv4 := hpv4.mono hlΦ8
      replace hlv1 := hlv1.mono hlΦ8
      replace hlv2 := hlv2.mono hlΦ8
      replace hlv3 := hlv3.mono hlΦ8
      refine RW.gl (v := .bool true) rfl rfl rfl (q_as (v := .bool (decide ((Gr.downM n (Gr.rev arcs) a) = (Gr.downM n (Gr.rev arcs) a)))) (q_call (args := #[lv3, lv4]) own18 rfl rfl (fun w1 hw1 => Same_c w1 Φ8 hw1.phi hlv3 hlv4)) (congrArg Value.bool (decide_eq_true rfl))) ?_
      refine RW.q (v := .bool true) rfl (q_pick rfl (fun hp => pkOrT (q := true) (r := false) hp) (fun hp => pkOrF (q := true) (r := false) hp)) ?_
      refine RW.q (v := .bool true) rfl (q_move rfl) ?_
      refine RW.gl (v := .int .i64 n) rfl rfl rfl (q_move rfl) ?_
      refine RW.gl (v := v1) rfl rfl rfl (q_move rfl) ?_
      refine RW.effg (fun x : {y : Value × Hp // (fun r Ψ => RepSl Ψ (Gr.loopM n arcs) r) y.1 y.2 ∧ Hp.le Φ8 y.2} => x.1.1) (fun x => St ⟨w, Φ, []⟩ x.1.2 []) rfl rfl rfl (e_callS (T := fun r Ψ => RepSl Ψ (Gr.loopM n arcs) r) (args := #[.int .i64 n, v1]) own12 rfl rfl (fun w1 hw1 => (Loop_c w1 Φ8 hw1.phi h1).mono fun _ _ => retS_up (fun _ _ _ hl h => h.mono hl))) ?_
      rintro ⟨⟨lv5, Φ9⟩, hlv5, hlΦ9⟩
      replace hlv5 : RepSl Φ9 (Gr.loopM n arcs) lv5 := hlv5
      replace hlΦ9 : Hp.le Φ8 Φ9 := hlΦ9
      replace h1 := h1.mono hlΦ9
      replace hpv1 := hpv1.mono hlΦ9
      replace hpv2 := hpv2.mono hlΦ9
      replace hpv3 := hpv3.mono hlΦ9
      replace hpv4 := hpv4.mono hlΦ9
      replace hlv1 := hlv1.mono hlΦ9
      replace hlv2 := hlv2.mono hlΦ9
      replace hlv3 := hlv3.mono hlΦ9
      replace hlv4 := hlv4.mono hlΦ9
      refine RW.gl (v := .int .i64 n) rfl rfl rfl (q_move rfl) ?_
      refine RW.gl (v := v1) rfl rfl rfl (q_move rfl) ?_
      refine RW.effg (fun x : {y : Value × Hp // (fun r Ψ => RepSl Ψ (Gr.loopM n arcs) r) y.1 y.2 ∧ Hp.le Φ9 y.2} => x.1.1) (fun x => St ⟨w, Φ, []⟩ x.1.2 []) rfl rfl rfl (e_callS (T := fun r Ψ => RepSl Ψ (Gr.loopM n arcs) r) (args := #[.int .i64 n, v1]) own26 rfl rfl (fun w1 hw1 => (rLoop_c w1 Φ9 hw1.phi h1).mono fun _ _ => retS_up (fun _ _ _ hl h => h.mono hl))) ?_
      rintro ⟨⟨lv6, Φ10⟩, hlv6, hlΦ10⟩
      replace hlv6 : RepSl Φ10 (Gr.loopM n arcs) lv6 := hlv6
      replace hlΦ10 : Hp.le Φ9 Φ10 := hlΦ10
      replace h1 := h1.mono hlΦ10
      replace hpv1 := hpv1.mono hlΦ10
      replace hpv2 := hpv2.mono hlΦ10
      replace hpv3 := hpv3.mono hlΦ10
      replace hpv4 := hpv4.mono hlΦ10
      replace hlv1 := hlv1.mono hlΦ10
      replace hlv2 := hlv2.mono hlΦ10
      replace hlv3 := hlv3.mono hlΦ10
      replace hlv4 := hlv4.mono hlΦ10
      replace hlv5 := hlv5.mono hlΦ10
      refine RW.gl (v := .bool true) rfl rfl rfl (q_as (v := .bool (decide ((Gr.loopM n arcs) = (Gr.loopM n arcs)))) (q_call (args := #[lv5, lv6]) own18 rfl rfl (fun w1 hw1 => Same_c w1 Φ10 hw1.phi hlv5 hlv6)) (congrArg Value.bool (decide_eq_true rfl))) ?_
      refine RW.q (v := .bool true) rfl (q_pick rfl (fun hp => pkOrT (q := true) (r := false) hp) (fun hp => pkOrF (q := true) (r := false) hp)) ?_
      refine RW.q (v := .bool true) rfl (q_assign rfl) ?_
      refine RW.nil ?_
      refine Post.then_n ?_
      refine AW.ret ?_
      exact fin_val (v' := .bool true) rfl rfl rfl (by rfl)

end Go.Proofs.Ytjkoojeampaeeaa
