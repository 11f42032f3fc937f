/- The walks of layer 11 (part LawA), printed by walk.py. Conditions: those of each theorem. -/
import Derived.Test.YtjkoojeampaeeaaWalkG
import Derived.Test.YtjkoojeampaeeaaReach
namespace Go.Proofs.Ytjkoojeampaeeaa
open Go Go.K Go.RowKit

set_option maxHeartbeats 1000000 in
theorem GraphReach_c (w : World) (Φ : Hp) (hΦ : Hp.le Φ (hp w)) {n a b : Int} {arcs : List Gr.Arc} {v1 : Value} (h1 : RepSl Φ arcs v1) :
    Calls Try.prog 8 #[.int .i64 n, v1, .int .i64 a, .int .i64 b] w fun e w' => e = .returned (.bool true) ∧ Below w.heap.size w w' := by
  refine calls_of_AW (args := [.int .i64 n, v1, .int .i64 a, .int .i64 b]) Try.func8 rfl (Nat.le_of_ble_eq_true rfl) (St ⟨w, Φ, []⟩ Φ []) (StP.init w Φ hΦ []) ?_
  show AW Try.prog 151 [] _ _ _ [(0, .int .i64 n), (1, v1), (2, .int .i64 a), (3, .int .i64 b)] _
  have hm1 : arcs.length * 16 ≤ 140737488355328 := h1.max
  refine AW.seq ?_
  refine AW.region ?_
  refine RW.q (v := .bool false) rfl (q_assign rfl) ?_
  refine RW.nil ?_
  refine Post.then_n ?_
  refine AW.seq ?_
  refine AW.region ?_
  refine RW.q (v := .bool true) rfl (q_call (args := #[]) own9 rfl rfl (fun w1 hw1 => small_c w1 Φ hw1.phi)) ?_
  refine RW.q (v := .bool true) rfl (q_assign rfl) ?_
  refine RW.nil ?_
  refine Post.then_n ?_
  refine AW.seq ?_
  refine AW.region ?_
  refine RW.q (v := .int .i64 n) rfl (q_move rfl) ?_
  refine RW.q (v := v1) rfl (q_move rfl) ?_
  refine RW.q (v := .bool (decide (n ≤ 16) && decide ((arcs.length : Int) ≤ 40))) rfl (q_call (args := #[.int .i64 n, v1]) own15 rfl rfl (fun w1 hw1 => few_c w1 Φ hw1.phi h1)) ?_
  refine RW.q (v := .bool (decide (n ≤ 16) && decide ((arcs.length : Int) ≤ 40))) rfl (q_assign rfl) ?_
  refine RW.nil ?_
  refine Post.then_n ?_
  refine AW.seq ?_
  refine AW.seq ?_
  refine AW.region ?_
  refine RW.q (v := .bool (decide (n ≤ 16) && decide ((arcs.length : Int) ≤ 40))) rfl (q_move rfl) ?_
  refine RW.q (v := .bool (!(decide (n ≤ 16) && decide ((arcs.length : Int) ≤ 40)))) rfl (q_not rfl) ?_
  refine RW.q (v := .bool (!(decide (n ≤ 16) && decide ((arcs.length : Int) ≤ 40)))) rfl (q_move rfl) ?_
  refine RW.g (b := (!(decide (n ≤ 16) && decide ((arcs.length : Int) ≤ 40)))) (v := .int .i64 n) rfl rfl rfl (fun h => q_move rfl) ?_
  refine RW.g (b := (!(decide (n ≤ 16) && decide ((arcs.length : Int) ≤ 40)))) (v := v1) rfl rfl rfl (fun h => q_move rfl) ?_
  refine RW.g (b := (!(decide (n ≤ 16) && decide ((arcs.length : Int) ≤ 40)))) (v := .bool (Gr.rightB n arcs)) rfl rfl rfl (fun h => q_call (args := #[.int .i64 n, v1]) own10 rfl (args2 (gv_pos h) (gv_pos h)) (fun w1 hw1 => Right_c w1 Φ hw1.phi h1)) ?_
  refine RW.g (b := (!(decide (n ≤ 16) && decide ((arcs.length : Int) ≤ 40)))) (v := .bool (!(Gr.rightB n arcs))) rfl rfl rfl (fun h => q_not (gv_pos h)) ?_
  refine RW.q (v := .bool ((!(decide (n ≤ 16) && decide ((arcs.length : Int) ≤ 40))) || (!(Gr.rightB n arcs)))) rfl (q_pick rfl (fun hp => pkOrT hp) (fun hp => (gv_pos hp).trans (pkOrF hp))) ?_
  refine RW.q (v := .bool ((!(decide (n ≤ 16) && decide ((arcs.length : Int) ≤ 40))) || (!(Gr.rightB n arcs)))) rfl (q_move rfl) ?_
  refine RW.g (b := ((!(decide (n ≤ 16) && decide ((arcs.length : Int) ≤ 40))) || (!(Gr.rightB n arcs)))) (v := .int .i64 a) rfl rfl rfl (fun h => q_move rfl) ?_
  refine RW.g (b := ((!(decide (n ≤ 16) && decide ((arcs.length : Int) ≤ 40))) || (!(Gr.rightB n arcs)))) (v := .bool (decide (a < 0))) rfl rfl rfl (fun h => q_lss (gv_pos h) rfl) ?_
  refine RW.q (v := .bool (((!(decide (n ≤ 16) && decide ((arcs.length : Int) ≤ 40))) || (!(Gr.rightB n arcs))) || (decide (a < 0)))) rfl (q_pick rfl (fun hp => pkOrT hp) (fun hp => (gv_pos hp).trans (pkOrF hp))) ?_
  refine RW.q (v := .bool (((!(decide (n ≤ 16) && decide ((arcs.length : Int) ≤ 40))) || (!(Gr.rightB n arcs))) || (decide (a < 0)))) rfl (q_move rfl) ?_
  refine RW.g (b := (((!(decide (n ≤ 16) && decide ((arcs.length : Int) ≤ 40))) || (!(Gr.rightB n arcs))) || (decide (a < 0)))) (v := .int .i64 a) rfl rfl rfl (fun h => q_move rfl) ?_
  refine RW.g (b := (((!(decide (n ≤ 16) && decide ((arcs.length : Int) ≤ 40))) || (!(Gr.rightB n arcs))) || (decide (a < 0)))) (v := .int .i64 n) rfl rfl rfl (fun h => q_move rfl) ?_
  refine RW.g (b := (((!(decide (n ≤ 16) && decide ((arcs.length : Int) ≤ 40))) || (!(Gr.rightB n arcs))) || (decide (a < 0)))) (v := .bool (decide (n ≤ a))) rfl rfl rfl (fun h => q_geq (gv_pos h) (gv_pos h)) ?_
  refine RW.q (v := .bool ((((!(decide (n ≤ 16) && decide ((arcs.length : Int) ≤ 40))) || (!(Gr.rightB n arcs))) || (decide (a < 0))) || (decide (n ≤ a)))) rfl (q_pick rfl (fun hp => pkOrT hp) (fun hp => (gv_pos hp).trans (pkOrF hp))) ?_
  refine RW.q (v := .bool ((((!(decide (n ≤ 16) && decide ((arcs.length : Int) ≤ 40))) || (!(Gr.rightB n arcs))) || (decide (a < 0))) || (decide (n ≤ a)))) rfl (q_move rfl) ?_
  refine RW.g (b := ((((!(decide (n ≤ 16) && decide ((arcs.length : Int) ≤ 40))) || (!(Gr.rightB n arcs))) || (decide (a < 0))) || (decide (n ≤ a)))) (v := .int .i64 b) rfl rfl rfl (fun h => q_move rfl) ?_
  refine RW.g (b := ((((!(decide (n ≤ 16) && decide ((arcs.length : Int) ≤ 40))) || (!(Gr.rightB n arcs))) || (decide (a < 0))) || (decide (n ≤ a)))) (v := .bool (decide (b < 0))) rfl rfl rfl (fun h => q_lss (gv_pos h) rfl) ?_
  refine RW.q (v := .bool (((((!(decide (n ≤ 16) && decide ((arcs.length : Int) ≤ 40))) || (!(Gr.rightB n arcs))) || (decide (a < 0))) || (decide (n ≤ a))) || (decide (b < 0)))) rfl (q_pick rfl (fun hp => pkOrT hp) (fun hp => (gv_pos hp).trans (pkOrF hp))) ?_
  refine RW.q (v := .bool (((((!(decide (n ≤ 16) && decide ((arcs.length : Int) ≤ 40))) || (!(Gr.rightB n arcs))) || (decide (a < 0))) || (decide (n ≤ a))) || (decide (b < 0)))) rfl (q_move rfl) ?_
  refine RW.g (b := (((((!(decide (n ≤ 16) && decide ((arcs.length : Int) ≤ 40))) || (!(Gr.rightB n arcs))) || (decide (a < 0))) || (decide (n ≤ a))) || (decide (b < 0)))) (v := .int .i64 b) rfl rfl rfl (fun h => q_move rfl) ?_
  refine RW.g (b := (((((!(decide (n ≤ 16) && decide ((arcs.length : Int) ≤ 40))) || (!(Gr.rightB n arcs))) || (decide (a < 0))) || (decide (n ≤ a))) || (decide (b < 0)))) (v := .int .i64 n) rfl rfl rfl (fun h => q_move rfl) ?_
  refine RW.g (b := (((((!(decide (n ≤ 16) && decide ((arcs.length : Int) ≤ 40))) || (!(Gr.rightB n arcs))) || (decide (a < 0))) || (decide (n ≤ a))) || (decide (b < 0)))) (v := .bool (decide (n ≤ b))) rfl rfl rfl (fun h => q_geq (gv_pos h) (gv_pos h)) ?_
  refine RW.q (v := .bool ((((((!(decide (n ≤ 16) && decide ((arcs.length : Int) ≤ 40))) || (!(Gr.rightB n arcs))) || (decide (a < 0))) || (decide (n ≤ a))) || (decide (b < 0))) || (decide (n ≤ b)))) rfl (q_pick rfl (fun hp => pkOrT hp) (fun hp => (gv_pos hp).trans (pkOrF hp))) ?_
  refine RW.nil ?_
  refine Post.then_n ?_
  refine AW.cond (b := (((((!(decide (n ≤ 16) && decide ((arcs.length : Int) ≤ 40))) || (!(Gr.rightB n arcs))) || (decide (a < 0))) || (decide (n ≤ a))) || (decide (b < 0))) || (decide (n ≤ b))) rfl (fun hc1 => ?_) (fun hc1 => ?_)
  · simp [-List.getD_eq_getElem?_getD] at hc1
    refine AW.seq ?_
    refine AW.region ?_
    refine RW.q (v := .bool true) rfl (q_move rfl) ?_
    refine RW.q (v := .bool true) rfl (q_assign rfl) ?_
    refine RW.nil ?_
    refine Post.then_n ?_
    refine AW.ret ?_
    refine Post.then_r ?_
    exact fin_val (v' := .bool true) rfl rfl rfl (rfl)
  · simp [-List.getD_eq_getElem?_getD] at hc1
    refine AW.skip ?_
    refine Post.then_n ?_
    refine AW.seq ?_
    obtain ⟨⟨⟨⟨⟨⟨hn16, h40⟩, hr⟩, ha1⟩, ha2⟩, hb1⟩, hb2⟩ := hc1
    have ha : 0 ≤ a ∧ a < n := ⟨ha1, ha2⟩
    have hb : 0 ≤ b ∧ b < n := ⟨hb1, hb2⟩
    obtain ⟨e1, e2, e3, e4⟩ := Gr.reach_one hr ha hb
    refine AW.region ?_
    refine RW.q (v := .int .i64 n) rfl (q_move rfl) ?_
    refine RW.q (v := v1) rfl (q_move rfl) ?_
    refine RW.q (v := .int .i64 a) rfl (q_move rfl) ?_
    refine RW.eff (fun x : {y : Value × Hp // (fun r Ψ => RepSl Ψ (Gr.downM n arcs a) r) y.1 y.2 ∧ Hp.le Φ y.2} => x.1.1) (fun x => St ⟨w, Φ, []⟩ x.1.2 []) rfl (e_callS (T := fun r Ψ => RepSl Ψ (Gr.downM n arcs a) r) (args := #[.int .i64 n, v1, .int .i64 a]) own19 rfl rfl (fun w1 hw1 => (Down_c w1 Φ hw1.phi h1).mono fun _ _ => retS_up (fun _ _ _ hl h => h.mono hl))) ?_
    rintro ⟨⟨lv1, Φ1⟩, hlv1, hlΦ1⟩
    replace hlv1 : RepSl Φ1 (Gr.downM n arcs a) lv1 := hlv1
    replace hlΦ1 : Hp.le Φ Φ1 := hlΦ1
    replace h1 := h1.mono hlΦ1
    refine RW.q (v := lv1) rfl (q_assign rfl) ?_
    refine RW.nil ?_
    refine Post.then_n ?_
    refine AW.seq ?_
    refine AW.region ?_
    refine RW.q (v := .int .i64 n) rfl (q_move rfl) ?_
    refine RW.q (v := v1) rfl (q_move rfl) ?_
    refine RW.q (v := .int .i64 b) rfl (q_move rfl) ?_
    refine RW.eff (fun x : {y : Value × Hp // (fun r Ψ => RepSl Ψ (Gr.downM n (Gr.rev arcs) b) r) y.1 y.2 ∧ Hp.le Φ1 y.2} => x.1.1) (fun x => St ⟨w, Φ, []⟩ x.1.2 []) rfl (e_callS (T := fun r Ψ => RepSl Ψ (Gr.downM n (Gr.rev arcs) b) r) (args := #[.int .i64 n, v1, .int .i64 b]) own24 rfl rfl (fun w1 hw1 => (Up_c w1 Φ1 hw1.phi h1 (by omega)).mono fun _ _ => retS_up (fun _ _ _ hl h => h.mono hl))) ?_
    rintro ⟨⟨lv2, Φ2⟩, hlv2, hlΦ2⟩
    replace hlv2 : RepSl Φ2 (Gr.downM n (Gr.rev arcs) b) lv2 := hlv2
    replace hlΦ2 : Hp.le Φ1 Φ2 := hlΦ2
    replace h1 := h1.mono hlΦ2
    replace hlv1 := hlv1.mono hlΦ2
    refine RW.q (v := lv2) rfl (q_assign rfl) ?_
    refine RW.nil ?_
    refine Post.then_n ?_
    refine AW.seq ?_
    refine AW.region ?_
    refine RW.q (v := .int .i64 n) rfl (q_move rfl) ?_
    refine RW.q (v := v1) rfl (q_move rfl) ?_
    refine RW.q (v := .int .i64 a) rfl (q_move rfl) ?_
    refine RW.q (v := .int .i64 b) rfl (q_move rfl) ?_
    refine RW.eff (fun x : {y : Value × Hp // (fun r Ψ => PairRep Ψ (Gr.pathM n arcs a b) r) y.1 y.2 ∧ Hp.le Φ2 y.2} => x.1.1) (fun x => St ⟨w, Φ, []⟩ x.1.2 []) rfl (e_callS (T := fun r Ψ => PairRep Ψ (Gr.pathM n arcs a b) r) (args := #[.int .i64 n, v1, .int .i64 a, .int .i64 b]) own17 rfl rfl (fun w1 hw1 => (Path_c w1 Φ2 hw1.phi h1).mono fun _ _ => retS_up (fun _ _ _ hl h => h.mono hl))) ?_
    rintro ⟨⟨rp1, Φ3⟩, hrp1, hlΦ3⟩
    replace hrp1 : PairRep Φ3 (Gr.pathM n arcs a b) rp1 := hrp1
    replace hlΦ3 : Hp.le Φ2 Φ3 := hlΦ3
    replace h1 := h1.mono hlΦ3
    replace hlv1 := hlv1.mono hlΦ3
    replace hlv2 := hlv2.mono hlΦ3
    obtain ⟨pv1, rfl, hpv1⟩ := hrp1
    refine RW.q (v := .tuple #[pv1, .bool ((Gr.pathM n arcs a b).isSome)]) rfl (q_move rfl) ?_
    refine RW.q (v := pv1) rfl (q_extract rfl rfl) ?_
    refine RW.q (v := .bool ((Gr.pathM n arcs a b).isSome)) rfl (q_extract rfl rfl) ?_
    refine RW.q (v := pv1) rfl (q_assign rfl) ?_
    refine RW.q (v := .bool ((Gr.pathM n arcs a b).isSome)) rfl (q_assign rfl) ?_
    refine RW.nil ?_
    refine Post.then_n ?_
    refine AW.seq ?_
    refine AW.seq ?_
    refine AW.region ?_
    refine RW.q (v := .bool ((Gr.pathM n arcs a b).isSome)) rfl (q_move rfl) ?_
    refine RW.q (v := lv1) rfl (q_move rfl) ?_
    refine RW.q (v := .int .i64 b) rfl (q_move rfl) ?_
    refine RW.q (v := .int .i64 (Gr.atZ (Gr.downM n arcs a) b)) rfl (q_call (args := #[lv1, .int .i64 b]) own13 rfl rfl (fun w1 hw1 => at_c w1 Φ3 hw1.phi hlv1)) ?_
    refine RW.q (v := .bool (decide ((0 : Int) ≤ Gr.atZ (Gr.downM n arcs a) b))) rfl (q_geq rfl rfl) ?_
    refine RW.q (v := .bool (!(((Gr.pathM n arcs a b).isSome) == (decide ((0 : Int) ≤ Gr.atZ (Gr.downM n arcs a) b))))) rfl (q_neqB rfl rfl Try.underlying4) ?_
    refine RW.q (v := .bool (!(((Gr.pathM n arcs a b).isSome) == (decide ((0 : Int) ≤ Gr.atZ (Gr.downM n arcs a) b))))) rfl (q_move rfl) ?_
    refine RW.g (b := (!(((Gr.pathM n arcs a b).isSome) == (decide ((0 : Int) ≤ Gr.atZ (Gr.downM n arcs a) b))))) (v := .bool ((Gr.pathM n arcs a b).isSome)) rfl rfl rfl (fun h => q_move rfl) ?_
    refine RW.g (b := (!(((Gr.pathM n arcs a b).isSome) == (decide ((0 : Int) ≤ Gr.atZ (Gr.downM n arcs a) b))))) (v := lv2) rfl rfl rfl (fun h => q_move rfl) ?_
    refine RW.g (b := (!(((Gr.pathM n arcs a b).isSome) == (decide ((0 : Int) ≤ Gr.atZ (Gr.downM n arcs a) b))))) (v := .int .i64 a) rfl rfl rfl (fun h => q_move rfl) ?_
    refine RW.g (b := (!(((Gr.pathM n arcs a b).isSome) == (decide ((0 : Int) ≤ Gr.atZ (Gr.downM n arcs a) b))))) (v := .int .i64 (Gr.atZ (Gr.downM n (Gr.rev arcs) b) a)) rfl rfl rfl (fun h => q_call (args := #[lv2, .int .i64 a]) own13 rfl (args2 (gv_pos h) (gv_pos h)) (fun w1 hw1 => at_c w1 Φ3 hw1.phi hlv2)) ?_
    refine RW.g (b := (!(((Gr.pathM n arcs a b).isSome) == (decide ((0 : Int) ≤ Gr.atZ (Gr.downM n arcs a) b))))) (v := .bool (decide ((0 : Int) ≤ Gr.atZ (Gr.downM n (Gr.rev arcs) b) a))) rfl rfl rfl (fun h => q_geq (gv_pos h) rfl) ?_
    refine RW.g (b := (!(((Gr.pathM n arcs a b).isSome) == (decide ((0 : Int) ≤ Gr.atZ (Gr.downM n arcs a) b))))) (v := .bool (!(((Gr.pathM n arcs a b).isSome) == (decide ((0 : Int) ≤ Gr.atZ (Gr.downM n (Gr.rev arcs) b) a))))) rfl rfl rfl (fun h => q_neqB (gv_pos h) (gv_pos h) Try.underlying4) ?_
    refine RW.q (v := .bool ((!(((Gr.pathM n arcs a b).isSome) == (decide ((0 : Int) ≤ Gr.atZ (Gr.downM n arcs a) b)))) || (!(((Gr.pathM n arcs a b).isSome) == (decide ((0 : Int) ≤ Gr.atZ (Gr.downM n (Gr.rev arcs) b) a)))))) rfl (q_pick rfl (fun hp => pkOrT hp) (fun hp => (gv_pos hp).trans (pkOrF hp))) ?_
    refine RW.q (v := .bool ((!(((Gr.pathM n arcs a b).isSome) == (decide ((0 : Int) ≤ Gr.atZ (Gr.downM n arcs a) b)))) || (!(((Gr.pathM n arcs a b).isSome) == (decide ((0 : Int) ≤ Gr.atZ (Gr.downM n (Gr.rev arcs) b) a)))))) rfl (q_move rfl) ?_
    refine RW.g (b := ((!(((Gr.pathM n arcs a b).isSome) == (decide ((0 : Int) ≤ Gr.atZ (Gr.downM n arcs a) b)))) || (!(((Gr.pathM n arcs a b).isSome) == (decide ((0 : Int) ≤ Gr.atZ (Gr.downM n (Gr.rev arcs) b) a)))))) (v := lv1) rfl rfl rfl (fun h => q_move rfl) ?_
    refine RW.g (b := ((!(((Gr.pathM n arcs a b).isSome) == (decide ((0 : Int) ≤ Gr.atZ (Gr.downM n arcs a) b)))) || (!(((Gr.pathM n arcs a b).isSome) == (decide ((0 : Int) ≤ Gr.atZ (Gr.downM n (Gr.rev arcs) b) a)))))) (v := .int .i64 a) rfl rfl rfl (fun h => q_move rfl) ?_
    refine RW.g (b := ((!(((Gr.pathM n arcs a b).isSome) == (decide ((0 : Int) ≤ Gr.atZ (Gr.downM n arcs a) b)))) || (!(((Gr.pathM n arcs a b).isSome) == (decide ((0 : Int) ≤ Gr.atZ (Gr.downM n (Gr.rev arcs) b) a)))))) (v := .int .i64 (Gr.atZ (Gr.downM n arcs a) a)) rfl rfl rfl (fun h => q_call (args := #[lv1, .int .i64 a]) own13 rfl (args2 (gv_pos h) (gv_pos h)) (fun w1 hw1 => at_c w1 Φ3 hw1.phi hlv1)) ?_
    refine RW.g (b := ((!(((Gr.pathM n arcs a b).isSome) == (decide ((0 : Int) ≤ Gr.atZ (Gr.downM n arcs a) b)))) || (!(((Gr.pathM n arcs a b).isSome) == (decide ((0 : Int) ≤ Gr.atZ (Gr.downM n (Gr.rev arcs) b) a)))))) (v := .bool (decide (Gr.atZ (Gr.downM n arcs a) a < 0))) rfl rfl rfl (fun h => q_lss (gv_pos h) rfl) ?_
    refine RW.q (v := .bool (((!(((Gr.pathM n arcs a b).isSome) == (decide ((0 : Int) ≤ Gr.atZ (Gr.downM n arcs a) b)))) || (!(((Gr.pathM n arcs a b).isSome) == (decide ((0 : Int) ≤ Gr.atZ (Gr.downM n (Gr.rev arcs) b) a))))) || (decide (Gr.atZ (Gr.downM n arcs a) a < 0)))) rfl (q_pick rfl (fun hp => pkOrT hp) (fun hp => (gv_pos hp).trans (pkOrF hp))) ?_
    refine RW.q (v := .bool (((!(((Gr.pathM n arcs a b).isSome) == (decide ((0 : Int) ≤ Gr.atZ (Gr.downM n arcs a) b)))) || (!(((Gr.pathM n arcs a b).isSome) == (decide ((0 : Int) ≤ Gr.atZ (Gr.downM n (Gr.rev arcs) b) a))))) || (decide (Gr.atZ (Gr.downM n arcs a) a < 0)))) rfl (q_move rfl) ?_
    refine RW.g (b := (((!(((Gr.pathM n arcs a b).isSome) == (decide ((0 : Int) ≤ Gr.atZ (Gr.downM n arcs a) b)))) || (!(((Gr.pathM n arcs a b).isSome) == (decide ((0 : Int) ≤ Gr.atZ (Gr.downM n (Gr.rev arcs) b) a))))) || (decide (Gr.atZ (Gr.downM n arcs a) a < 0)))) (v := lv2) rfl rfl rfl (fun h => q_move rfl) ?_
    refine RW.g (b := (((!(((Gr.pathM n arcs a b).isSome) == (decide ((0 : Int) ≤ Gr.atZ (Gr.downM n arcs a) b)))) || (!(((Gr.pathM n arcs a b).isSome) == (decide ((0 : Int) ≤ Gr.atZ (Gr.downM n (Gr.rev arcs) b) a))))) || (decide (Gr.atZ (Gr.downM n arcs a) a < 0)))) (v := .int .i64 b) rfl rfl rfl (fun h => q_move rfl) ?_
    refine RW.g (b := (((!(((Gr.pathM n arcs a b).isSome) == (decide ((0 : Int) ≤ Gr.atZ (Gr.downM n arcs a) b)))) || (!(((Gr.pathM n arcs a b).isSome) == (decide ((0 : Int) ≤ Gr.atZ (Gr.downM n (Gr.rev arcs) b) a))))) || (decide (Gr.atZ (Gr.downM n arcs a) a < 0)))) (v := .int .i64 (Gr.atZ (Gr.downM n (Gr.rev arcs) b) b)) rfl rfl rfl (fun h => q_call (args := #[lv2, .int .i64 b]) own13 rfl (args2 (gv_pos h) (gv_pos h)) (fun w1 hw1 => at_c w1 Φ3 hw1.phi hlv2)) ?_
    refine RW.g (b := (((!(((Gr.pathM n arcs a b).isSome) == (decide ((0 : Int) ≤ Gr.atZ (Gr.downM n arcs a) b)))) || (!(((Gr.pathM n arcs a b).isSome) == (decide ((0 : Int) ≤ Gr.atZ (Gr.downM n (Gr.rev arcs) b) a))))) || (decide (Gr.atZ (Gr.downM n arcs a) a < 0)))) (v := .bool (decide (Gr.atZ (Gr.downM n (Gr.rev arcs) b) b < 0))) rfl rfl rfl (fun h => q_lss (gv_pos h) rfl) ?_
    refine RW.q (v := .bool ((((!(((Gr.pathM n arcs a b).isSome) == (decide ((0 : Int) ≤ Gr.atZ (Gr.downM n arcs a) b)))) || (!(((Gr.pathM n arcs a b).isSome) == (decide ((0 : Int) ≤ Gr.atZ (Gr.downM n (Gr.rev arcs) b) a))))) || (decide (Gr.atZ (Gr.downM n arcs a) a < 0))) || (decide (Gr.atZ (Gr.downM n (Gr.rev arcs) b) b < 0)))) rfl (q_pick rfl (fun hp => pkOrT hp) (fun hp => (gv_pos hp).trans (pkOrF hp))) ?_
    refine RW.nil ?_
    refine Post.then_n ?_
    refine AW.cond (b := (((!(((Gr.pathM n arcs a b).isSome) == (decide ((0 : Int) ≤ Gr.atZ (Gr.downM n arcs a) b)))) || (!(((Gr.pathM n arcs a b).isSome) == (decide ((0 : Int) ≤ Gr.atZ (Gr.downM n (Gr.rev arcs) b) a))))) || (decide (Gr.atZ (Gr.downM n arcs a) a < 0))) || (decide (Gr.atZ (Gr.downM n (Gr.rev arcs) b) b < 0))) rfl (fun hc2 => ?_) (fun hc2 => ?_)
    · simp [-List.getD_eq_getElem?_getD] at hc2
      rcases hc2 with ((h | h) | h) | h
      · exact absurd e1 h
      · exact absurd e2 h
      · omega
      · omega
    · simp [-List.getD_eq_getElem?_getD] at hc2
      refine AW.skip ?_
      refine Post.then_n ?_
      refine AW.seq ?_
      refine AW.seq ?_
      have hmd : (Gr.downM n arcs a).length * 8 ≤ 140737488355328 := hlv1.max
      refine AW.region ?_
      refine RW.q (v := .int .i64 1) rfl (q_assign rfl) ?_
      refine RW.nil ?_
      refine Post.then_n ?_
      refine AW.block ?_
      refine AW.loop (fun s J m => ∃ (k : Nat), s = [(0, .int .i64 n), (1, v1), (9, .bool true), (11, lv1), (12, lv2), (15, .int .i64 (k : Int))] ∧ J = St ⟨w, Φ, []⟩ Φ3 [] ∧ m = (Gr.downM n arcs a).length - k ∧ (1 ≤ k)) (s0 := _) (J1 := _) (m0 := _) ⟨1, rfl, rfl, rfl, (by omega)⟩ ⟨rfl, rfl, rfl, rfl, rfl, rfl, trivial⟩ (fun _ h => h) ?_
      rintro _ _ _ _ ⟨k, rfl, rfl, rfl, hk⟩
      refine AW.seq ?_
      refine AW.seq ?_
      refine AW.region ?_
      refine RW.q (v := .int .i64 (k : Int)) rfl (q_move rfl) ?_
      refine RW.q (v := lv1) rfl (q_move rfl) ?_
      refine RW.q (v := .int .i64 (((Gr.downM n arcs a).length : Nat) : Int)) rfl (q_len_sl rfl hlv1.sl Try.underlying25) ?_
      refine RW.q (v := .bool (decide ((k : Int) < (((Gr.downM n arcs a).length : Nat) : Int)))) rfl (q_lss rfl rfl) ?_
      refine RW.nil ?_
      refine Post.then_n ?_
      refine AW.cond (b := decide ((k : Int) < (((Gr.downM n arcs a).length : Nat) : Int))) rfl (fun hc3 => ?_) (fun hc3 => ?_)
      · simp [-List.getD_eq_getElem?_getD] at hc3
        refine AW.skip ?_
        refine Post.then_n ?_
        refine AW.seq ?_
        refine AW.block ?_
        refine AW.seq ?_
        refine AW.draw (J0 := St ⟨w, Φ, []⟩ Φ3 []) [true, true, true, true, true, true, true, true, true, true] hmix (by kernel_rfl) ?_
        refine DW.q (v := lv1) (fun _ h => h) rfl (q_move rfl) ?_
        refine DW.q (v := .int .i64 (k : Int)) (fun _ h => h) rfl (q_move rfl) ?_
        refine DW.q (v := .int .i64 ((k : Int) - 1)) (fun _ h => h) rfl (q_sub rfl rfl (by omega) (by unfold I64; omega)) ?_
        refine DW.q (v := .pointer (some (Value.at lv1 ((((k : Int) - 1).toNat) * 1)))) (fun _ h => h) rfl (q_indexAddr rfl rfl hlv1.sl Try.underlying25 sz3 (by omega) (by omega) rfl) ?_
        refine DW.q (v := .int .i64 ((Gr.downM n arcs a).getD (((k : Int) - 1).toNat) 0)) (fun _ h => h) rfl (q_load rfl Try.underlying3 rfl (Cell.repInt hlv1 (by omega))) ?_
        refine DW.q (v := lv1) (fun _ h => h) rfl (q_move rfl) ?_
        refine DW.q (v := .int .i64 (k : Int)) (fun _ h => h) rfl (q_move rfl) ?_
        refine DW.q (v := .pointer (some (Value.at lv1 (k * 1)))) (fun _ h => h) rfl (q_indexAddr rfl rfl hlv1.sl Try.underlying25 sz3 (by omega) (by omega) rfl) ?_
        refine DW.q (v := .int .i64 ((Gr.downM n arcs a).getD k 0)) (fun _ h => h) rfl (q_load rfl Try.underlying3 rfl (Cell.repInt hlv1 (by omega))) ?_
        refine DW.q (v := .bool (decide ((Gr.downM n arcs a).getD k 0 ≤ (Gr.downM n arcs a).getD (((k : Int) - 1).toNat) 0))) (fun _ h => h) rfl (q_geq rfl rfl) ?_
        refine DW.nil ?_
        refine Post.then_n ?_
        refine AW.cond (b := decide ((Gr.downM n arcs a).getD k 0 ≤ (Gr.downM n arcs a).getD (((k : Int) - 1).toNat) 0)) rfl (fun hc4 => ?_) (fun hc4 => ?_)
        · simp [-List.getD_eq_getElem?_getD] at hc4
          obtain ⟨m, rfl⟩ : ∃ m, k = m + 1 := ⟨k - 1, by omega⟩
          have := Gr.sorted_at (Gr.down_sorted n arcs a) hc3
          rw [Nat.add_sub_cancel] at hc4
          omega
        · simp [-List.getD_eq_getElem?_getD] at hc4
          refine AW.skip ?_
          refine Post.blk_n (Post.then_n ?_)
          refine AW.region ?_
          refine RW.q (v := .int .i64 (k : Int)) rfl (q_move rfl) ?_
          refine RW.q (v := .int .i64 ((k + 1 : Nat) : Int)) rfl (q_add rfl rfl (by omega) (by unfold I64; omega)) ?_
          refine RW.q (v := .int .i64 ((k + 1 : Nat) : Int)) rfl (q_assign rfl) ?_
          refine RW.nil ?_
          exact Post.back (s' := _) (J' := _) (m' := _) (by omega) ⟨k + 1, rfl, rfl, rfl, (by omega)⟩ ⟨rfl, rfl, rfl, rfl, rfl, rfl, trivial⟩ (fun _ h => h)
      · simp [-List.getD_eq_getElem?_getD] at hc3
        refine AW.exit ?_
        refine Post.then_x (Post.then_x (Post.blk_hit (Post.then_n ?_)))
        refine AW.seq ?_
        refine AW.seq ?_
        refine AW.region ?_
        refine RW.q (v := .int .i64 0) rfl (q_assign rfl) ?_
        refine RW.nil ?_
        refine Post.then_n ?_
        refine AW.block ?_
        refine AW.loop (fun s J m => ∃ (k : Nat), s = [(0, .int .i64 n), (1, v1), (9, .bool true), (11, lv1), (12, lv2), (16, .int .i64 (k : Int))] ∧ J = St ⟨w, Φ, []⟩ Φ3 [] ∧ m = arcs.length - k ∧ (k ≤ arcs.length)) (s0 := _) (J1 := _) (m0 := _) ⟨0, rfl, rfl, rfl, (by omega)⟩ ⟨rfl, rfl, rfl, rfl, rfl, rfl, trivial⟩ (fun _ h => h) ?_
        rintro _ _ _ _ ⟨k, rfl, rfl, rfl, hk⟩
        refine AW.seq ?_
        refine AW.seq ?_
        refine AW.region ?_
        refine RW.q (v := .int .i64 (k : Int)) rfl (q_move rfl) ?_
        refine RW.q (v := v1) rfl (q_move rfl) ?_
        refine RW.q (v := .int .i64 ((arcs.length : Nat) : Int)) rfl (q_len_sl rfl h1.sl Try.underlying22) ?_
        refine RW.q (v := .bool (decide ((k : Int) < ((arcs.length : Nat) : Int)))) rfl (q_lss rfl rfl) ?_
        refine RW.nil ?_
        refine Post.then_n ?_
        refine AW.cond (b := decide ((k : Int) < ((arcs.length : Nat) : Int))) rfl (fun hc5 => ?_) (fun hc5 => ?_)
        · simp [-List.getD_eq_getElem?_getD] at hc5
          refine AW.skip ?_
          refine Post.then_n ?_
          refine AW.seq ?_
          refine AW.block ?_
          refine AW.seq ?_
          refine AW.region ?_
          refine RW.q (v := lv1) rfl (q_move rfl) ?_
          refine RW.q (v := v1) rfl (q_move rfl) ?_
          refine RW.q (v := .int .i64 (k : Int)) rfl (q_move rfl) ?_
          refine RW.q (v := .pointer (some (Value.at v1 (k * 2)))) rfl (q_indexAddr rfl rfl h1.sl Try.underlying22 sz31 (by omega) (by omega) rfl) ?_
          refine RW.q (v := .pointer (some (Value.at v1 (k * 2 + 0)))) rfl (q_fieldAddr rfl Try.underlying31 rfl sz3 at_add) ?_
          refine RW.q (v := .int .i64 ((arcs.getD k default).From)) rfl (q_load rfl Try.underlying3 rfl (Cell.repE (j := 0) h1 (by omega) rfl)) ?_
          refine RW.q (v := .int .i64 (Gr.atZ (Gr.downM n arcs a) ((arcs.getD k default).From))) rfl (q_call (args := #[lv1, .int .i64 ((arcs.getD k default).From)]) own13 rfl rfl (fun w1 hw1 => at_c w1 Φ3 hw1.phi hlv1)) ?_
          refine RW.q (v := .bool (decide ((0 : Int) ≤ Gr.atZ (Gr.downM n arcs a) ((arcs.getD k default).From)))) rfl (q_geq rfl rfl) ?_
          refine RW.q (v := .bool (decide ((0 : Int) ≤ Gr.atZ (Gr.downM n arcs a) ((arcs.getD k default).From)))) rfl (q_move rfl) ?_
          refine RW.g (b := (decide ((0 : Int) ≤ Gr.atZ (Gr.downM n arcs a) ((arcs.getD k default).From)))) (v := lv1) rfl rfl rfl (fun h => q_move rfl) ?_
          refine RW.g (b := (decide ((0 : Int) ≤ Gr.atZ (Gr.downM n arcs a) ((arcs.getD k default).From)))) (v := v1) rfl rfl rfl (fun h => q_move rfl) ?_
          refine RW.g (b := (decide ((0 : Int) ≤ Gr.atZ (Gr.downM n arcs a) ((arcs.getD k default).From)))) (v := .int .i64 (k : Int)) rfl rfl rfl (fun h => q_move rfl) ?_
          refine RW.g (b := (decide ((0 : Int) ≤ Gr.atZ (Gr.downM n arcs a) ((arcs.getD k default).From)))) (v := .pointer (some (Value.at v1 (k * 2)))) rfl rfl rfl (fun h => q_indexAddr (gv_pos h) (gv_pos h) h1.sl Try.underlying22 sz31 (by (try simp [-List.getD_eq_getElem?_getD] at h); omega) (by (try simp [-List.getD_eq_getElem?_getD] at h); omega) rfl) ?_
          refine RW.g (b := (decide ((0 : Int) ≤ Gr.atZ (Gr.downM n arcs a) ((arcs.getD k default).From)))) (v := .pointer (some (Value.at v1 (k * 2 + 1)))) rfl rfl rfl (fun h => q_fieldAddr (gv_pos h) Try.underlying31 rfl sz3 at_add) ?_
          refine RW.g (b := (decide ((0 : Int) ≤ Gr.atZ (Gr.downM n arcs a) ((arcs.getD k default).From)))) (v := .int .i64 ((arcs.getD k default).To)) rfl rfl rfl (fun h => q_load (gv_pos h) Try.underlying3 rfl (Cell.repE (j := 1) h1 (by (try simp [-List.getD_eq_getElem?_getD] at h); omega) rfl)) ?_
          refine RW.g (b := (decide ((0 : Int) ≤ Gr.atZ (Gr.downM n arcs a) ((arcs.getD k default).From)))) (v := .int .i64 (Gr.atZ (Gr.downM n arcs a) ((arcs.getD k default).To))) rfl rfl rfl (fun h => q_call (args := #[lv1, .int .i64 ((arcs.getD k default).To)]) own13 rfl (args2 (gv_pos h) (gv_pos h)) (fun w1 hw1 => at_c w1 Φ3 hw1.phi hlv1)) ?_
          refine RW.g (b := (decide ((0 : Int) ≤ Gr.atZ (Gr.downM n arcs a) ((arcs.getD k default).From)))) (v := .bool (decide (Gr.atZ (Gr.downM n arcs a) ((arcs.getD k default).To) < 0))) rfl rfl rfl (fun h => q_lss (gv_pos h) rfl) ?_
          refine RW.q (v := .bool ((decide ((0 : Int) ≤ Gr.atZ (Gr.downM n arcs a) ((arcs.getD k default).From))) && (decide (Gr.atZ (Gr.downM n arcs a) ((arcs.getD k default).To) < 0)))) rfl (q_pick rfl (fun hp => (gv_pos hp).trans (pkAndT hp)) (fun hp => pkAndF hp)) ?_
          refine RW.q (v := .bool ((decide ((0 : Int) ≤ Gr.atZ (Gr.downM n arcs a) ((arcs.getD k default).From))) && (decide (Gr.atZ (Gr.downM n arcs a) ((arcs.getD k default).To) < 0)))) rfl (q_move rfl) ?_
          refine RW.g (b := ((decide ((0 : Int) ≤ Gr.atZ (Gr.downM n arcs a) ((arcs.getD k default).From))) && (decide (Gr.atZ (Gr.downM n arcs a) ((arcs.getD k default).To) < 0)))) (v := lv2) rfl rfl rfl (fun h => q_move rfl) ?_
          refine RW.g (b := ((decide ((0 : Int) ≤ Gr.atZ (Gr.downM n arcs a) ((arcs.getD k default).From))) && (decide (Gr.atZ (Gr.downM n arcs a) ((arcs.getD k default).To) < 0)))) (v := v1) rfl rfl rfl (fun h => q_move rfl) ?_
          refine RW.g (b := ((decide ((0 : Int) ≤ Gr.atZ (Gr.downM n arcs a) ((arcs.getD k default).From))) && (decide (Gr.atZ (Gr.downM n arcs a) ((arcs.getD k default).To) < 0)))) (v := .int .i64 (k : Int)) rfl rfl rfl (fun h => q_move rfl) ?_
          refine RW.g (b := ((decide ((0 : Int) ≤ Gr.atZ (Gr.downM n arcs a) ((arcs.getD k default).From))) && (decide (Gr.atZ (Gr.downM n arcs a) ((arcs.getD k default).To) < 0)))) (v := .pointer (some (Value.at v1 (k * 2)))) rfl rfl rfl (fun h => q_indexAddr (gv_pos h) (gv_pos h) h1.sl Try.underlying22 sz31 (by (try simp [-List.getD_eq_getElem?_getD] at h); omega) (by (try simp [-List.getD_eq_getElem?_getD] at h); omega) rfl) ?_
          refine RW.g (b := ((decide ((0 : Int) ≤ Gr.atZ (Gr.downM n arcs a) ((arcs.getD k default).From))) && (decide (Gr.atZ (Gr.downM n arcs a) ((arcs.getD k default).To) < 0)))) (v := .pointer (some (Value.at v1 (k * 2 + 1)))) rfl rfl rfl (fun h => q_fieldAddr (gv_pos h) Try.underlying31 rfl sz3 at_add) ?_
          refine RW.g (b := ((decide ((0 : Int) ≤ Gr.atZ (Gr.downM n arcs a) ((arcs.getD k default).From))) && (decide (Gr.atZ (Gr.downM n arcs a) ((arcs.getD k default).To) < 0)))) (v := .int .i64 ((arcs.getD k default).To)) rfl rfl rfl (fun h => q_load (gv_pos h) Try.underlying3 rfl (Cell.repE (j := 1) h1 (by (try simp [-List.getD_eq_getElem?_getD] at h); omega) rfl)) ?_
          refine RW.g (b := ((decide ((0 : Int) ≤ Gr.atZ (Gr.downM n arcs a) ((arcs.getD k default).From))) && (decide (Gr.atZ (Gr.downM n arcs a) ((arcs.getD k default).To) < 0)))) (v := .int .i64 (Gr.atZ (Gr.downM n (Gr.rev arcs) b) ((arcs.getD k default).To))) rfl rfl rfl (fun h => q_call (args := #[lv2, .int .i64 ((arcs.getD k default).To)]) own13 rfl (args2 (gv_pos h) (gv_pos h)) (fun w1 hw1 => at_c w1 Φ3 hw1.phi hlv2)) ?_
          refine RW.g (b := ((decide ((0 : Int) ≤ Gr.atZ (Gr.downM n arcs a) ((arcs.getD k default).From))) && (decide (Gr.atZ (Gr.downM n arcs a) ((arcs.getD k default).To) < 0)))) (v := .bool (decide ((0 : Int) ≤ Gr.atZ (Gr.downM n (Gr.rev arcs) b) ((arcs.getD k default).To)))) rfl rfl rfl (fun h => q_geq (gv_pos h) rfl) ?_
          refine RW.g (b := ((decide ((0 : Int) ≤ Gr.atZ (Gr.downM n arcs a) ((arcs.getD k default).From))) && (decide (Gr.atZ (Gr.downM n arcs a) ((arcs.getD k default).To) < 0)))) (v := .bool (decide ((0 : Int) ≤ Gr.atZ (Gr.downM n (Gr.rev arcs) b) ((arcs.getD k default).To)))) rfl rfl rfl (fun h => q_move (gv_pos h)) ?_
          refine RW.g2 (b1 := ((decide ((0 : Int) ≤ Gr.atZ (Gr.downM n arcs a) ((arcs.getD k default).From))) && (decide (Gr.atZ (Gr.downM n arcs a) ((arcs.getD k default).To) < 0)))) (b2 := (decide ((0 : Int) ≤ Gr.atZ (Gr.downM n (Gr.rev arcs) b) ((arcs.getD k default).To)))) (v := lv2) rfl rfl rfl (fun hg1 hg2 => q_move rfl) ?_
          refine RW.g2 (b1 := ((decide ((0 : Int) ≤ Gr.atZ (Gr.downM n arcs a) ((arcs.getD k default).From))) && (decide (Gr.atZ (Gr.downM n arcs a) ((arcs.getD k default).To) < 0)))) (b2 := (decide ((0 : Int) ≤ Gr.atZ (Gr.downM n (Gr.rev arcs) b) ((arcs.getD k default).To)))) (v := v1) rfl rfl rfl (fun hg1 hg2 => q_move rfl) ?_
          refine RW.g2 (b1 := ((decide ((0 : Int) ≤ Gr.atZ (Gr.downM n arcs a) ((arcs.getD k default).From))) && (decide (Gr.atZ (Gr.downM n arcs a) ((arcs.getD k default).To) < 0)))) (b2 := (decide ((0 : Int) ≤ Gr.atZ (Gr.downM n (Gr.rev arcs) b) ((arcs.getD k default).To)))) (v := .int .i64 (k : Int)) rfl rfl rfl (fun hg1 hg2 => q_move rfl) ?_
          refine RW.g2 (b1 := ((decide ((0 : Int) ≤ Gr.atZ (Gr.downM n arcs a) ((arcs.getD k default).From))) && (decide (Gr.atZ (Gr.downM n arcs a) ((arcs.getD k default).To) < 0)))) (b2 := (decide ((0 : Int) ≤ Gr.atZ (Gr.downM n (Gr.rev arcs) b) ((arcs.getD k default).To)))) (v := .pointer (some (Value.at v1 (k * 2)))) rfl rfl rfl (fun hg1 hg2 => q_indexAddr ((gv_pos hg1).trans (gv_pos hg2)) ((gv_pos hg1).trans (gv_pos hg2)) h1.sl Try.underlying22 sz31 (by (try simp [-List.getD_eq_getElem?_getD] at hg1); (try simp [-List.getD_eq_getElem?_getD] at hg2); omega) (by (try simp [-List.getD_eq_getElem?_getD] at hg1); (try simp [-List.getD_eq_getElem?_getD] at hg2); omega) rfl) ?_
          refine RW.g2 (b1 := ((decide ((0 : Int) ≤ Gr.atZ (Gr.downM n arcs a) ((arcs.getD k default).From))) && (decide (Gr.atZ (Gr.downM n arcs a) ((arcs.getD k default).To) < 0)))) (b2 := (decide ((0 : Int) ≤ Gr.atZ (Gr.downM n (Gr.rev arcs) b) ((arcs.getD k default).To)))) (v := .pointer (some (Value.at v1 (k * 2 + 0)))) rfl rfl rfl (fun hg1 hg2 => q_fieldAddr ((gv_pos hg1).trans (gv_pos hg2)) Try.underlying31 rfl sz3 at_add) ?_
          refine RW.g2 (b1 := ((decide ((0 : Int) ≤ Gr.atZ (Gr.downM n arcs a) ((arcs.getD k default).From))) && (decide (Gr.atZ (Gr.downM n arcs a) ((arcs.getD k default).To) < 0)))) (b2 := (decide ((0 : Int) ≤ Gr.atZ (Gr.downM n (Gr.rev arcs) b) ((arcs.getD k default).To)))) (v := .int .i64 ((arcs.getD k default).From)) rfl rfl rfl (fun hg1 hg2 => q_load ((gv_pos hg1).trans (gv_pos hg2)) Try.underlying3 rfl (Cell.repE (j := 0) h1 (by (try simp [-List.getD_eq_getElem?_getD] at hg1); (try simp [-List.getD_eq_getElem?_getD] at hg2); omega) rfl)) ?_
          refine RW.g2 (b1 := ((decide ((0 : Int) ≤ Gr.atZ (Gr.downM n arcs a) ((arcs.getD k default).From))) && (decide (Gr.atZ (Gr.downM n arcs a) ((arcs.getD k default).To) < 0)))) (b2 := (decide ((0 : Int) ≤ Gr.atZ (Gr.downM n (Gr.rev arcs) b) ((arcs.getD k default).To)))) (v := .int .i64 (Gr.atZ (Gr.downM n (Gr.rev arcs) b) ((arcs.getD k default).From))) rfl rfl rfl (fun hg1 hg2 => q_call (args := #[lv2, .int .i64 ((arcs.getD k default).From)]) own13 rfl (args2 ((gv_pos hg1).trans (gv_pos hg2)) ((gv_pos hg1).trans (gv_pos hg2))) (fun w1 hw1 => at_c w1 Φ3 hw1.phi hlv2)) ?_
          refine RW.g2 (b1 := ((decide ((0 : Int) ≤ Gr.atZ (Gr.downM n arcs a) ((arcs.getD k default).From))) && (decide (Gr.atZ (Gr.downM n arcs a) ((arcs.getD k default).To) < 0)))) (b2 := (decide ((0 : Int) ≤ Gr.atZ (Gr.downM n (Gr.rev arcs) b) ((arcs.getD k default).To)))) (v := .bool (decide (Gr.atZ (Gr.downM n (Gr.rev arcs) b) ((arcs.getD k default).From) < 0))) rfl rfl rfl (fun hg1 hg2 => q_lss ((gv_pos hg1).trans (gv_pos hg2)) rfl) ?_
          refine RW.g (b := ((decide ((0 : Int) ≤ Gr.atZ (Gr.downM n arcs a) ((arcs.getD k default).From))) && (decide (Gr.atZ (Gr.downM n arcs a) ((arcs.getD k default).To) < 0)))) (v := .bool ((decide ((0 : Int) ≤ Gr.atZ (Gr.downM n (Gr.rev arcs) b) ((arcs.getD k default).To))) && (decide (Gr.atZ (Gr.downM n (Gr.rev arcs) b) ((arcs.getD k default).From) < 0)))) rfl rfl rfl (fun h => q_pick (gv_pos h) (fun hp => (gv_pos h).trans ((gv_pos hp).trans (pkAndT hp))) (fun hp => pkAndF hp)) ?_
          refine RW.q (v := .bool (((decide ((0 : Int) ≤ Gr.atZ (Gr.downM n arcs a) ((arcs.getD k default).From))) && (decide (Gr.atZ (Gr.downM n arcs a) ((arcs.getD k default).To) < 0))) || ((decide ((0 : Int) ≤ Gr.atZ (Gr.downM n (Gr.rev arcs) b) ((arcs.getD k default).To))) && (decide (Gr.atZ (Gr.downM n (Gr.rev arcs) b) ((arcs.getD k default).From) < 0))))) rfl (q_pick rfl (fun hp => pkOrT hp) (fun hp => (gv_pos hp).trans (pkOrF hp))) ?_
          refine RW.nil ?_
          refine Post.then_n ?_
          refine AW.cond (b := ((decide ((0 : Int) ≤ Gr.atZ (Gr.downM n arcs a) ((arcs.getD k default).From))) && (decide (Gr.atZ (Gr.downM n arcs a) ((arcs.getD k default).To) < 0))) || ((decide ((0 : Int) ≤ Gr.atZ (Gr.downM n (Gr.rev arcs) b) ((arcs.getD k default).To))) && (decide (Gr.atZ (Gr.downM n (Gr.rev arcs) b) ((arcs.getD k default).From) < 0)))) rfl (fun hc6 => ?_) (fun hc6 => ?_)
          · simp [-List.getD_eq_getElem?_getD] at hc6
            have := Gr.reach_arc hr ha hb hc5
            omega
          · simp [-List.getD_eq_getElem?_getD] at hc6
            refine AW.skip ?_
            refine Post.blk_n (Post.then_n ?_)
            refine AW.region ?_
            refine RW.q (v := .int .i64 (k : Int)) rfl (q_move rfl) ?_
            refine RW.q (v := .int .i64 ((k + 1 : Nat) : Int)) rfl (q_add rfl rfl (by omega) (by unfold I64; omega)) ?_
            refine RW.q (v := .int .i64 ((k + 1 : Nat) : Int)) rfl (q_assign rfl) ?_
            refine RW.nil ?_
            exact Post.back (s' := _) (J' := _) (m' := _) (by omega) ⟨k + 1, rfl, rfl, rfl, (by omega)⟩ ⟨rfl, rfl, rfl, rfl, rfl, rfl, trivial⟩ (fun _ h => h)
        · simp [-List.getD_eq_getElem?_getD] at hc5
          refine AW.exit ?_
          refine Post.then_x (Post.then_x (Post.blk_hit (Post.then_n ?_)))
          refine AW.seq ?_
          refine AW.region ?_
          refine RW.q (v := .bool true) rfl (q_move rfl) ?_
          refine RW.q (v := .bool true) rfl (q_assign rfl) ?_
          refine RW.nil ?_
          refine Post.then_n ?_
          refine AW.ret ?_
          exact fin_val (v' := .bool true) rfl rfl rfl (rfl)

end Go.Proofs.Ytjkoojeampaeeaa
