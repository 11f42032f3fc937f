/- The walks of layer 11 (part LawE), printed by walk.py. Conditions: those of each theorem. -/
import Derived.Test.YtjkoojeampaeeaaLawD
import Derived.Test.YtjkoojeampaeeaaLeast
namespace Go.Proofs.Ytjkoojeampaeeaa
open Go Go.K Go.RowKit

set_option maxHeartbeats 1000000 in
theorem GraphLeast_c (w : World) (Φ : Hp) (hΦ : Hp.le Φ (hp w)) {n : Int} {arcs : List Gr.Arc} {ys : List Int} {v1 v2 : Value} (h1 : RepSl Φ arcs v1) (h2 : RepSl Φ ys v2) :
    Calls Try.prog 4 #[.int .i64 n, v1, v2] w fun e w' => e = .returned (.bool true) ∧ Below w.heap.size w w' := by
  refine calls_of_AW (args := [.int .i64 n, v1, v2]) Try.func4 rfl (Nat.le_of_ble_eq_true rfl) (St ⟨w, Φ, []⟩ Φ []) (StP.init w Φ hΦ []) ?_
  show AW Try.prog 105 [] _ _ _ [(0, .int .i64 n), (1, v1), (2, v2)] _
  have hm1 : arcs.length * 16 ≤ 140737488355328 := h1.max
  have hm2 : ys.length * 8 ≤ 140737488355328 := h2.max
  refine AW.seq ?_
  refine AW.region ?_
  refine RW.q (v := .bool false) rfl (q_assign rfl) ?_
  refine RW.nil ?_
  refine Post.then_n ?_
  refine AW.seq ?_
  refine AW.region ?_
  refine RW.q (v := .bool true) rfl (q_call (args := #[]) own9 rfl rfl (fun w1 hw1 => small_c w1 Φ hw1.phi)) ?_
  refine RW.q (v := .bool true) rfl (q_assign rfl) ?_
  refine RW.nil ?_
  refine Post.then_n ?_
  refine AW.seq ?_
  refine AW.region ?_
  refine RW.q (v := .int .i64 n) rfl (q_move rfl) ?_
  refine RW.q (v := v1) rfl (q_move rfl) ?_
  refine RW.eff (fun x : {y : Value × Hp // (fun r Ψ => PairRep Ψ (Gr.orderM n arcs) r) y.1 y.2 ∧ Hp.le Φ y.2} => x.1.1) (fun x => St ⟨w, Φ, []⟩ x.1.2 []) rfl (e_callS (T := fun r Ψ => PairRep Ψ (Gr.orderM n arcs) r) (args := #[.int .i64 n, v1]) own11 rfl rfl (fun w1 hw1 => (Order_c w1 Φ hw1.phi h1).mono fun _ _ => retS_up (fun _ _ _ hl h => h.mono hl))) ?_
  rintro ⟨⟨rp1, Φ1⟩, hrp1, hlΦ1⟩
  replace hrp1 : PairRep Φ1 (Gr.orderM n arcs) rp1 := hrp1
  replace hlΦ1 : Hp.le Φ Φ1 := hlΦ1
  replace h1 := h1.mono hlΦ1
  replace h2 := h2.mono hlΦ1
  obtain ⟨pv1, rfl, hpv1⟩ := hrp1
  refine RW.q (v := .tuple #[pv1, .bool ((Gr.orderM n arcs).isSome)]) rfl (q_move rfl) ?_
  refine RW.q (v := pv1) rfl (q_extract rfl rfl) ?_
  refine RW.q (v := .bool ((Gr.orderM n arcs).isSome)) rfl (q_extract rfl rfl) ?_
  refine RW.q (v := pv1) rfl (q_assign rfl) ?_
  refine RW.q (v := .bool ((Gr.orderM n arcs).isSome)) rfl (q_assign rfl) ?_
  refine RW.nil ?_
  refine Post.then_n ?_
  refine AW.seq ?_
  refine AW.region ?_
  refine RW.q (v := .int .i64 n) rfl (q_move rfl) ?_
  refine RW.q (v := v1) rfl (q_move rfl) ?_
  refine RW.q (v := .bool (decide (n ≤ 16) && decide ((arcs.length : Int) ≤ 40))) rfl (q_call (args := #[.int .i64 n, v1]) own15 rfl rfl (fun w1 hw1 => few_c w1 Φ1 hw1.phi h1)) ?_
  refine RW.q (v := .bool (decide (n ≤ 16) && decide ((arcs.length : Int) ≤ 40))) rfl (q_assign rfl) ?_
  refine RW.nil ?_
  refine Post.then_n ?_
  refine AW.seq ?_
  refine AW.seq ?_
  refine AW.region ?_
  refine RW.q (v := .bool ((Gr.orderM n arcs).isSome)) rfl (q_move rfl) ?_
  refine RW.q (v := .bool (!((Gr.orderM n arcs).isSome))) rfl (q_not rfl) ?_
  refine RW.q (v := .bool (!((Gr.orderM n arcs).isSome))) rfl (q_move rfl) ?_
  refine RW.g (b := (!((Gr.orderM n arcs).isSome))) (v := .bool (decide (n ≤ 16) && decide ((arcs.length : Int) ≤ 40))) rfl rfl rfl (fun h => q_move rfl) ?_
  refine RW.g (b := (!((Gr.orderM n arcs).isSome))) (v := .bool (!(decide (n ≤ 16) && decide ((arcs.length : Int) ≤ 40)))) rfl rfl rfl (fun h => q_not (gv_pos h)) ?_
  refine RW.q (v := .bool ((!((Gr.orderM n arcs).isSome)) || (!(decide (n ≤ 16) && decide ((arcs.length : Int) ≤ 40))))) rfl (q_pick rfl (fun hp => pkOrT hp) (fun hp => (gv_pos hp).trans (pkOrF hp))) ?_
  refine RW.q (v := .bool ((!((Gr.orderM n arcs).isSome)) || (!(decide (n ≤ 16) && decide ((arcs.length : Int) ≤ 40))))) rfl (q_move rfl) ?_
  refine RW.g (b := ((!((Gr.orderM n arcs).isSome)) || (!(decide (n ≤ 16) && decide ((arcs.length : Int) ≤ 40))))) (v := v2) rfl rfl rfl (fun h => q_move rfl) ?_
  refine RW.g (b := ((!((Gr.orderM n arcs).isSome)) || (!(decide (n ≤ 16) && decide ((arcs.length : Int) ≤ 40))))) (v := .int .i64 ((ys.length : Nat) : Int)) rfl rfl rfl (fun h => q_len_sl (gv_pos h) h2.sl Try.underlying25) ?_
  refine RW.g (b := ((!((Gr.orderM n arcs).isSome)) || (!(decide (n ≤ 16) && decide ((arcs.length : Int) ≤ 40))))) (v := .int .i64 n) rfl rfl rfl (fun h => q_move rfl) ?_
  refine RW.g (b := ((!((Gr.orderM n arcs).isSome)) || (!(decide (n ≤ 16) && decide ((arcs.length : Int) ≤ 40))))) (v := .bool (decide (((ys.length : Nat) : Int) < n))) rfl rfl rfl (fun h => q_lss (gv_pos h) (gv_pos h)) ?_
  refine RW.q (v := .bool (((!((Gr.orderM n arcs).isSome)) || (!(decide (n ≤ 16) && decide ((arcs.length : Int) ≤ 40)))) || (decide (((ys.length : Nat) : Int) < n)))) rfl (q_pick rfl (fun hp => pkOrT hp) (fun hp => (gv_pos hp).trans (pkOrF hp))) ?_
  refine RW.nil ?_
  refine Post.then_n ?_
  refine AW.cond (b := ((!((Gr.orderM n arcs).isSome)) || (!(decide (n ≤ 16) && decide ((arcs.length : Int) ≤ 40)))) || (decide (((ys.length : Nat) : Int) < n))) rfl (fun hc1 => ?_) (fun hc1 => ?_)
  · simp [-List.getD_eq_getElem?_getD] at hc1
    refine AW.seq ?_
    refine AW.region ?_
    refine RW.q (v := .bool true) rfl (q_move rfl) ?_
    refine RW.q (v := .bool true) rfl (q_assign rfl) ?_
    refine RW.nil ?_
    refine Post.then_n ?_
    refine AW.ret ?_
    refine Post.then_r ?_
    exact fin_val (v' := .bool true) rfl rfl rfl (by rfl)
  · simp [-List.getD_eq_getElem?_getD] at hc1
    refine AW.skip ?_
    refine Post.then_n ?_
    refine AW.seq ?_
    obtain ⟨⟨ho, hn16, h40⟩, hly⟩ := hc1
    obtain ⟨p, hp⟩ := Option.isSome_iff_exists.1 ho
    have hr : Gr.rightB n arcs = true := by
      unfold Gr.orderM at hp
      by_cases h : Gr.rightB n arcs = true
      · exact h
      · rw [if_neg h] at hp; cases hp
    have hn := (Gr.right_iff.1 hr).1
    obtain ⟨hpO, hpl⟩ := Gr.order_some hr hp
    have hgp : (Gr.orderM n arcs).getD [] = p := by rw [hp]; rfl
    rw [hgp] at hpv1
    refine AW.region ?_
    refine RW.q (v := (.slice none 0 0)) rfl (q_assign rfl) ?_
    refine RW.nil ?_
    refine Post.then_n ?_
    refine AW.seq ?_
    refine AW.block ?_
    refine AW.loop (fun s J m => ∃ (L : List Int), ∃ (lv : Value), s = [(0, .int .i64 n), (1, v1), (2, v2), (7, .bool true), (8, pv1), (11, lv)] ∧ J = St ⟨w, Φ, []⟩ Φ1 [.row lv 3 1 L.length (L.map (Value.int .i64))] ∧ m = (n - L.length).toNat ∧ (Gr.OI n.toNat arcs L) ∧ (Gr.Fr n.toNat arcs L) ∧ (IsSl lv L.length)) (s0 := _) (J1 := _) (m0 := _) ⟨[], _, rfl, rfl, rfl, Gr.OI.nil, Gr.Fr.nil, isSl_nil⟩ ⟨rfl, rfl, rfl, rfl, rfl, rfl, trivial⟩ (fun _ h => addNil h) ?_
    rintro _ _ _ _ ⟨L, lv, rfl, rfl, rfl, hO, hF, hlv⟩
    have hLl : L.length ≤ n.toNat := Gr.int_nodup_le hO.nodup hO.rng
    have hwfL : ∀ x ∈ L, I64 x := fun x hx => by have := hO.rng x hx; unfold I64; omega
    have hLm : L.length * 8 ≤ maxSl := by simp only [maxSl]; omega
    refine AW.seq ?_
    refine AW.seq ?_
    refine AW.region ?_
    refine RW.q (v := lv) rfl (q_move rfl) ?_
    refine RW.q (v := .int .i64 ((L.length : Nat) : Int)) rfl (q_len_sl rfl hlv Try.underlying25) ?_
    refine RW.q (v := .int .i64 n) rfl (q_move rfl) ?_
    refine RW.q (v := .bool (decide (((L.length : Nat) : Int) < n))) rfl (q_lss rfl rfl) ?_
    refine RW.nil ?_
    refine Post.then_n ?_
    refine AW.cond (b := decide (((L.length : Nat) : Int) < n)) rfl (fun hc2 => ?_) (fun hc2 => ?_)
    · simp [-List.getD_eq_getElem?_getD] at hc2
      refine AW.skip ?_
      refine Post.then_n ?_
      refine AW.block ?_
      refine AW.seq ?_
      refine AW.region ?_
      refine RW.q (v := .int .i64 (-1)) rfl (q_assign rfl) ?_
      refine RW.nil ?_
      refine Post.then_n ?_
      refine AW.seq ?_
      refine AW.seq ?_
      refine AW.region ?_
      refine RW.q (v := .int .i64 0) rfl (q_assign rfl) ?_
      refine RW.nil ?_
      refine Post.then_n ?_
      refine AW.block ?_
      refine AW.loop (fun s J m => ∃ (k : Nat), ∃ (best : Int), s = [(0, .int .i64 n), (1, v1), (2, v2), (7, .bool true), (8, pv1), (11, lv), (12, .int .i64 best), (13, .int .i64 (k : Int))] ∧ J = St ⟨w, Φ, []⟩ Φ1 [.row lv 3 1 L.length (L.map (Value.int .i64))] ∧ m = (n - k).toNat ∧ ((k : Int) ≤ n) ∧ (-1 ≤ best ∧ best < k) ∧ ((best = -1 ∧ ∀ j : Nat, j < k → Gr.freeB arcs L (j : Int) = false) ∨ (0 ≤ best ∧ Gr.freeB arcs L best = true))) (s0 := _) (J1 := _) (m0 := _) ⟨0, -1, rfl, rfl, rfl, (by omega), (by omega), (.inl ⟨rfl, fun _ h => absurd h (Nat.not_lt_zero _)⟩)⟩ ⟨rfl, rfl, rfl, rfl, rfl, rfl, rfl, rfl, trivial⟩ (fun _ h => h) ?_
      rintro _ _ _ _ ⟨k, best, rfl, rfl, rfl, hk, hb1, hb⟩
      refine AW.seq ?_
      refine AW.seq ?_
      refine AW.region ?_
      refine RW.q (v := .int .i64 (k : Int)) rfl (q_move rfl) ?_
      refine RW.q (v := .int .i64 n) rfl (q_move rfl) ?_
      refine RW.q (v := .bool (decide ((k : Int) < n))) rfl (q_lss rfl rfl) ?_
      refine RW.nil ?_
      refine Post.then_n ?_
      refine AW.cond (b := decide ((k : Int) < n)) rfl (fun hc3 => ?_) (fun hc3 => ?_)
      · simp [-List.getD_eq_getElem?_getD] at hc3
        refine AW.skip ?_
        refine Post.then_n ?_
        refine AW.seq ?_
        refine AW.block ?_
        refine AW.seq ?_
        refine AW.region ?_
        refine RW.q (v := lv) rfl (q_move rfl) ?_
        refine RW.q (v := .int .i64 (k : Int)) rfl (q_move rfl) ?_
        refine RW.q (v := .int .i64 (Gr.atZ L (k : Int))) rfl (q_call (args := #[lv, .int .i64 (k : Int)]) own13 rfl rfl (fun w1 hw1 => at_c w1 (Go.K.hp w1) (Hp.le_refl _) (RowS.ints (show RowS (Go.K.hp w1) lv 3 1 (L.length) (L.map (Value.int .i64)) from hw1.sat _ (List.mem_of_getElem? (i := 0) rfl)) hLm hwfL))) ?_
        refine RW.q (v := .bool (decide (Gr.atZ L (k : Int) < 0))) rfl (q_lss rfl rfl) ?_
        refine RW.q (v := .bool (decide (Gr.atZ L (k : Int) < 0))) rfl (q_assign rfl) ?_
        refine RW.nil ?_
        refine Post.then_n ?_
        refine AW.seq ?_
        refine AW.seq ?_
        refine AW.region ?_
        refine RW.q (v := .int .i64 0) rfl (q_assign rfl) ?_
        refine RW.nil ?_
        refine Post.then_n ?_
        refine AW.block ?_
        refine AW.loop (fun s J m => ∃ (i : Nat), ∃ (fb : Bool), s = [(0, .int .i64 n), (1, v1), (2, v2), (7, .bool true), (8, pv1), (11, lv), (12, .int .i64 best), (13, .int .i64 (k : Int)), (14, .bool fb), (15, .int .i64 (i : Int))] ∧ J = St ⟨w, Φ, []⟩ Φ1 [.row lv 3 1 L.length (L.map (Value.int .i64))] ∧ m = arcs.length - i ∧ (i ≤ arcs.length) ∧ (fb = true ↔ (k : Int) ∉ L ∧ ∀ j, j < i → (arcs.getD j default).To = (k : Int) → (arcs.getD j default).From ∈ L)) (s0 := _) (J1 := _) (m0 := _) ⟨0, _, rfl, rfl, rfl, (by omega), (by rw [decide_eq_true_iff, Gr.at_neg]; exact ⟨fun h => ⟨h, fun _ h => absurd h (Nat.not_lt_zero _)⟩, fun h => h.1⟩)⟩ ⟨rfl, rfl, rfl, rfl, rfl, rfl, rfl, rfl, rfl, rfl, trivial⟩ (fun _ h => h) ?_
        rintro _ _ _ _ ⟨i, fb, rfl, rfl, rfl, hi, hfb⟩
        refine AW.seq ?_
        refine AW.seq ?_
        refine AW.region ?_
        refine RW.q (v := .int .i64 (i : Int)) rfl (q_move rfl) ?_
        refine RW.q (v := v1) rfl (q_move rfl) ?_
        refine RW.q (v := .int .i64 ((arcs.length : Nat) : Int)) rfl (q_len_sl rfl h1.sl Try.underlying22) ?_
        refine RW.q (v := .bool (decide ((i : Int) < ((arcs.length : Nat) : Int)))) rfl (q_lss rfl rfl) ?_
        refine RW.nil ?_
        refine Post.then_n ?_
        refine AW.cond (b := decide ((i : Int) < ((arcs.length : Nat) : Int))) rfl (fun hc4 => ?_) (fun hc4 => ?_)
        · simp [-List.getD_eq_getElem?_getD] at hc4
          refine AW.skip ?_
          refine Post.then_n ?_
          refine AW.seq ?_
          refine AW.block ?_
          refine AW.seq ?_
          refine AW.region ?_
          refine RW.q (v := v1) rfl (q_move rfl) ?_
          refine RW.q (v := .int .i64 (i : Int)) rfl (q_move rfl) ?_
          refine RW.q (v := .pointer (some (Value.at v1 (i * 2)))) rfl (q_indexAddr rfl rfl h1.sl Try.underlying22 sz31 (by omega) (by omega) rfl) ?_
          refine RW.q (v := .pointer (some (Value.at v1 (i * 2 + 1)))) rfl (q_fieldAddr rfl Try.underlying31 rfl sz3 at_add) ?_
          refine RW.q (v := .int .i64 ((arcs.getD i default).To)) rfl (q_load rfl Try.underlying3 rfl (Cell.repE (j := 1) h1 (by omega) rfl)) ?_
          refine RW.q (v := .int .i64 (k : Int)) rfl (q_move rfl) ?_
          refine RW.q (v := .bool (decide ((arcs.getD i default).To = (k : Int)))) rfl (q_eql rfl rfl) ?_
          refine RW.q (v := .bool (decide ((arcs.getD i default).To = (k : Int)))) rfl (q_move rfl) ?_
          refine RW.g (b := (decide ((arcs.getD i default).To = (k : Int)))) (v := lv) rfl rfl rfl (fun h => q_move rfl) ?_
          refine RW.g (b := (decide ((arcs.getD i default).To = (k : Int)))) (v := v1) rfl rfl rfl (fun h => q_move rfl) ?_
          refine RW.g (b := (decide ((arcs.getD i default).To = (k : Int)))) (v := .int .i64 (i : Int)) rfl rfl rfl (fun h => q_move rfl) ?_
          refine RW.g (b := (decide ((arcs.getD i default).To = (k : Int)))) (v := .pointer (some (Value.at v1 (i * 2)))) rfl rfl rfl (fun h => q_indexAddr (gv_pos h) (gv_pos h) h1.sl Try.underlying22 sz31 (by (try simp [-List.getD_eq_getElem?_getD] at h); omega) (by (try simp [-List.getD_eq_getElem?_getD] at h); omega) rfl) ?_
          refine RW.g (b := (decide ((arcs.getD i default).To = (k : Int)))) (v := .pointer (some (Value.at v1 (i * 2 + 0)))) rfl rfl rfl (fun h => q_fieldAddr (gv_pos h) Try.underlying31 rfl sz3 at_add) ?_
          refine RW.g (b := (decide ((arcs.getD i default).To = (k : Int)))) (v := .int .i64 ((arcs.getD i default).From)) rfl rfl rfl (fun h => q_load (gv_pos h) Try.underlying3 rfl (Cell.repE (j := 0) h1 (by (try simp [-List.getD_eq_getElem?_getD] at h); omega) rfl)) ?_
          refine RW.g (b := (decide ((arcs.getD i default).To = (k : Int)))) (v := .int .i64 (Gr.atZ L ((arcs.getD i default).From))) rfl rfl rfl (fun h => q_call (args := #[lv, .int .i64 ((arcs.getD i default).From)]) own13 rfl (args2 (gv_pos h) (gv_pos h)) (fun w1 hw1 => at_c w1 (Go.K.hp w1) (Hp.le_refl _) (RowS.ints (show RowS (Go.K.hp w1) lv 3 1 (L.length) (L.map (Value.int .i64)) from hw1.sat _ (List.mem_of_getElem? (i := 0) rfl)) hLm hwfL))) ?_
          refine RW.g (b := (decide ((arcs.getD i default).To = (k : Int)))) (v := .bool (decide (Gr.atZ L ((arcs.getD i default).From) < 0))) rfl rfl rfl (fun h => q_lss (gv_pos h) rfl) ?_
          refine RW.q (v := .bool ((decide ((arcs.getD i default).To = (k : Int))) && (decide (Gr.atZ L ((arcs.getD i default).From) < 0)))) rfl (q_pick rfl (fun hp => (gv_pos hp).trans (pkAndT hp)) (fun hp => pkAndF hp)) ?_
          refine RW.nil ?_
          refine Post.then_n ?_
          refine AW.cond (b := (decide ((arcs.getD i default).To = (k : Int))) && (decide (Gr.atZ L ((arcs.getD i default).From) < 0))) rfl (fun hc5 => ?_) (fun hc5 => ?_)
          · simp [-List.getD_eq_getElem?_getD] at hc5
            refine AW.region ?_
            refine RW.q (v := .bool false) rfl (q_assign rfl) ?_
            refine RW.nil ?_
            refine Post.blk_n (Post.then_n ?_)
            refine AW.region ?_
            refine RW.q (v := .int .i64 (i : Int)) rfl (q_move rfl) ?_
            refine RW.q (v := .int .i64 ((i + 1 : Nat) : Int)) rfl (q_add rfl rfl (by omega) (by unfold I64; omega)) ?_
            refine RW.q (v := .int .i64 ((i + 1 : Nat) : Int)) rfl (q_assign rfl) ?_
            refine RW.nil ?_
            exact Post.back (s' := _) (J' := _) (m' := _) (by omega) ⟨i + 1, false, rfl, rfl, rfl, (by omega), ⟨(fun h => nomatch h), fun h => absurd (h.2 i (by omega) hc5.1) (Gr.at_neg.1 hc5.2)⟩⟩ ⟨rfl, rfl, rfl, rfl, rfl, rfl, rfl, rfl, rfl, rfl, trivial⟩ (fun _ h => h)
          · simp [-List.getD_eq_getElem?_getD] at hc5
            refine AW.skip ?_
            refine Post.blk_n (Post.then_n ?_)
            refine AW.region ?_
            refine RW.q (v := .int .i64 (i : Int)) rfl (q_move rfl) ?_
            refine RW.q (v := .int .i64 ((i + 1 : Nat) : Int)) rfl (q_add rfl rfl (by omega) (by unfold I64; omega)) ?_
            refine RW.q (v := .int .i64 ((i + 1 : Nat) : Int)) rfl (q_assign rfl) ?_
            refine RW.nil ?_
            exact Post.back (s' := _) (J' := _) (m' := _) (by omega) ⟨i + 1, fb, rfl, rfl, rfl, (by omega), (hfb.trans ⟨fun h => ⟨h.1, Gr.lt_succ h.2 (fun e => Gr.at_mem.1 (hc5 e))⟩, fun h => ⟨h.1, fun j hj => h.2 j (by omega)⟩⟩)⟩ ⟨rfl, rfl, rfl, rfl, rfl, rfl, rfl, rfl, rfl, rfl, trivial⟩ (fun _ h => h)
        · simp [-List.getD_eq_getElem?_getD] at hc4
          refine AW.exit ?_
          refine Post.then_x (Post.then_x (Post.blk_hit (Post.then_n ?_)))
          refine AW.seq ?_
          have hfk : Gr.freeB arcs L (k : Int) = fb := Bool.eq_iff_iff.2 (Gr.free_iff.trans ⟨fun h => hfb.2 ⟨h.1, fun j hj => h.2 j (by omega)⟩, fun h => ⟨(hfb.1 h).1, fun j hj => (hfb.1 h).2 j (by omega)⟩⟩)
          refine AW.draw (J0 := St ⟨w, Φ, []⟩ Φ1 [.row lv 3 1 L.length (L.map (Value.int .i64))]) [true, true, true, true, true, true, true, true, true, true, true, true, true, true, true, true] hmix (by kernel_rfl) ?_
          refine DW.q (v := .bool fb) (fun _ h => h) rfl (q_move rfl) ?_
          refine DW.q (v := .bool fb) (fun _ h => h) rfl (q_move rfl) ?_
          refine DW.g (b := fb) (v := .int .i64 best) (fun _ h => h) rfl rfl rfl (fun h => q_move rfl) ?_
          refine DW.g (b := fb) (v := .bool (decide (best < 0))) (fun _ h => h) rfl rfl rfl (fun h => q_lss (gv_pos h) rfl) ?_
          refine DW.g (b := fb) (v := .bool (decide (best < 0))) (fun _ h => h) rfl rfl rfl (fun h => q_move (gv_pos h)) ?_
          refine DW.g2 (b1 := fb) (b2 := (decide (best < 0))) (v := v2) (fun _ h => h) rfl rfl rfl (fun hg1 hg2 => q_move rfl) ?_
          refine DW.g2 (b1 := fb) (b2 := (decide (best < 0))) (v := .int .i64 (k : Int)) (fun _ h => h) rfl rfl rfl (fun hg1 hg2 => q_move rfl) ?_
          refine DW.g2 (b1 := fb) (b2 := (decide (best < 0))) (v := .pointer (some (Value.at v2 (k * 1)))) (fun _ h => h) rfl rfl rfl (fun hg1 hg2 => q_indexAddr ((gv_pos hg1).trans (gv_pos hg2)) ((gv_pos hg1).trans (gv_pos hg2)) h2.sl Try.underlying25 sz3 (by (try simp [-List.getD_eq_getElem?_getD] at hg1); (try simp [-List.getD_eq_getElem?_getD] at hg2); omega) (by (try simp [-List.getD_eq_getElem?_getD] at hg1); (try simp [-List.getD_eq_getElem?_getD] at hg2); omega) rfl) ?_
          refine DW.g2 (b1 := fb) (b2 := (decide (best < 0))) (v := .int .i64 (ys.getD k 0)) (fun _ h => h) rfl rfl rfl (fun hg1 hg2 => q_load ((gv_pos hg1).trans (gv_pos hg2)) Try.underlying3 rfl (Cell.repInt h2 (by (try simp [-List.getD_eq_getElem?_getD] at hg1); (try simp [-List.getD_eq_getElem?_getD] at hg2); omega))) ?_
          refine DW.g2 (b1 := fb) (b2 := (decide (best < 0))) (v := v2) (fun _ h => h) rfl rfl rfl (fun hg1 hg2 => q_move rfl) ?_
          refine DW.g2 (b1 := fb) (b2 := (decide (best < 0))) (v := .int .i64 best) (fun _ h => h) rfl rfl rfl (fun hg1 hg2 => q_move rfl) ?_
          refine DW.g2 (b1 := fb) (b2 := (decide (best < 0))) (v := .pointer (some (Value.at v2 (best.toNat * 1)))) (fun _ h => h) rfl rfl rfl (fun hg1 hg2 => q_indexAddr ((gv_pos hg1).trans (gv_pos hg2)) ((gv_pos hg1).trans (gv_pos hg2)) h2.sl Try.underlying25 sz3 (by (try simp [-List.getD_eq_getElem?_getD] at hg1); (try simp [-List.getD_eq_getElem?_getD] at hg2); omega) (by (try simp [-List.getD_eq_getElem?_getD] at hg1); (try simp [-List.getD_eq_getElem?_getD] at hg2); omega) rfl) ?_
          refine DW.g2 (b1 := fb) (b2 := (decide (best < 0))) (v := .int .i64 (ys.getD best.toNat 0)) (fun _ h => h) rfl rfl rfl (fun hg1 hg2 => q_load ((gv_pos hg1).trans (gv_pos hg2)) Try.underlying3 rfl (Cell.repInt h2 (by (try simp [-List.getD_eq_getElem?_getD] at hg1); (try simp [-List.getD_eq_getElem?_getD] at hg2); omega))) ?_
          refine DW.g2 (b1 := fb) (b2 := (decide (best < 0))) (v := .bool (decide (ys.getD best.toNat 0 < ys.getD k 0))) (fun _ h => h) rfl rfl rfl (fun hg1 hg2 => q_gtr ((gv_pos hg1).trans (gv_pos hg2)) ((gv_pos hg1).trans (gv_pos hg2))) ?_
          refine DW.g (b := fb) (v := .bool ((decide (best < 0)) || (decide (ys.getD best.toNat 0 < ys.getD k 0)))) (fun _ h => h) rfl rfl rfl (fun h => q_pick (gv_pos h) (fun hp => pkOrT hp) (fun hp => (gv_pos h).trans ((gv_pos hp).trans (pkOrF hp)))) ?_
          refine DW.q (v := .bool (fb && ((decide (best < 0)) || (decide (ys.getD best.toNat 0 < ys.getD k 0))))) (fun _ h => h) rfl (q_pick rfl (fun hp => (gv_pos hp).trans (pkAndT hp)) (fun hp => pkAndF hp)) ?_
          refine DW.nil ?_
          refine Post.then_n ?_
          refine AW.cond (b := fb && ((decide (best < 0)) || (decide (ys.getD best.toNat 0 < ys.getD k 0)))) rfl (fun hc6 => ?_) (fun hc6 => ?_)
          · simp [-List.getD_eq_getElem?_getD] at hc6
            refine AW.region ?_
            refine RW.q (v := .int .i64 (k : Int)) rfl (q_move rfl) ?_
            refine RW.q (v := .int .i64 (k : Int)) rfl (q_assign rfl) ?_
            refine RW.nil ?_
            refine Post.blk_n (Post.then_n ?_)
            refine AW.region ?_
            refine RW.q (v := .int .i64 (k : Int)) rfl (q_move rfl) ?_
            refine RW.q (v := .int .i64 ((k + 1 : Nat) : Int)) rfl (q_add rfl rfl (by omega) (by unfold I64; omega)) ?_
            refine RW.q (v := .int .i64 ((k + 1 : Nat) : Int)) rfl (q_assign rfl) ?_
            refine RW.nil ?_
            exact Post.back (s' := _) (J' := _) (m' := _) (by omega) ⟨k + 1, (k : Int), rfl, rfl, rfl, (by omega), (by omega), (.inr ⟨by omega, hfk.trans hc6.1⟩)⟩ ⟨rfl, rfl, rfl, rfl, rfl, rfl, rfl, rfl, trivial⟩ (fun _ h => h)
          · simp [-List.getD_eq_getElem?_getD] at hc6
            refine AW.skip ?_
            refine Post.blk_n (Post.then_n ?_)
            refine AW.region ?_
            refine RW.q (v := .int .i64 (k : Int)) rfl (q_move rfl) ?_
            refine RW.q (v := .int .i64 ((k + 1 : Nat) : Int)) rfl (q_add rfl rfl (by omega) (by unfold I64; omega)) ?_
            refine RW.q (v := .int .i64 ((k + 1 : Nat) : Int)) rfl (q_assign rfl) ?_
            refine RW.nil ?_
            exact Post.back (s' := _) (J' := _) (m' := _) (by omega) ⟨k + 1, best, rfl, rfl, rfl, (by omega), (by omega), (hb.elim (fun ⟨e, h⟩ => .inl ⟨e, Gr.lt_succ h (hfk.trans (by cases fb with | false => rfl | true => (exfalso; have := hc6 rfl; omega)))⟩) .inr)⟩ ⟨rfl, rfl, rfl, rfl, rfl, rfl, rfl, rfl, trivial⟩ (fun _ h => h)
      · simp [-List.getD_eq_getElem?_getD] at hc3
        refine AW.exit ?_
        refine Post.then_x (Post.then_x (Post.blk_hit (Post.then_n ?_)))
        refine AW.seq ?_
        refine AW.seq ?_
        refine AW.region ?_
        refine RW.q (v := .int .i64 best) rfl (q_move rfl) ?_
        refine RW.q (v := .bool (decide (best < 0))) rfl (q_lss rfl rfl) ?_
        refine RW.nil ?_
        refine Post.then_n ?_
        refine AW.cond (b := decide (best < 0)) rfl (fun hc7 => ?_) (fun hc7 => ?_)
        · simp [-List.getD_eq_getElem?_getD] at hc7
          rcases hb with ⟨_, h⟩ | ⟨h, _⟩
          · exact (Gr.some_free hr hp hc2 (fun j hj => h j (by omega))).elim
          · omega
        · simp [-List.getD_eq_getElem?_getD] at hc7
          refine AW.skip ?_
          refine Post.then_n ?_
          have hb3 : (0 ≤ best ∧ best < (n.toNat : Int)) ∧ Gr.freeB arcs L best = true := by
            rcases hb with ⟨e, _⟩ | h
            · omega
            · exact ⟨by omega, h.2⟩
          refine AW.region ?_
          refine RW.q (v := lv) rfl (q_move rfl) ?_
          refine RW.q (v := .int .i64 best) rfl (q_move rfl) ?_
          refine RW.eff (fun b1 : Nat => (.slice (some ⟨b1, 0, none⟩) 1 1)) (fun b1 => St ⟨w, Φ, []⟩ Φ1 [.row (.slice (some ⟨b1, 0, none⟩) 1 1) 3 1 1 ([.int .i64 best]), .row lv 3 1 L.length (L.map (Value.int .i64))]) rfl (e_buildSlice (vals := [(0, .int .i64 best)]) (cells := [.int .i64 best]) Try.underlying25 inf3 rfl rfl rfl (by kernel_rfl) rfl) ?_
          intro b1
          refine RW.eff (fun xv : {vq : Value // IsSl vq (L.length + 1)} => xv.1) (fun xv => St ⟨w, Φ, []⟩ Φ1 [.row (.slice (some ⟨b1, 0, none⟩) 1 1) 3 1 1 ([.int .i64 best]), .row xv.1 3 1 ((L ++ [best]).length) ((L ++ [best]).map (Value.int .i64))]) rfl (e_append 1 rfl rfl rfl Try.underlying25 inf3 rfl rfl rfl (Cells.row0 0 rfl) rfl (by omega) (by omega) (fun _ => by simp)) ?_
          rintro ⟨va1, hva1⟩
          refine RW.wk (J' := St ⟨w, Φ, []⟩ Φ1 [.row va1 3 1 ((L ++ [best]).length) ((L ++ [best]).map (Value.int .i64))]) (fun _ h => StP.drop h (by exact .cons _ (.cons_cons _ (.slnil)))) ?_
          refine RW.q (v := va1) rfl (q_assign rfl) ?_
          refine RW.nil ?_
          refine Post.blk_n ?_
          exact Post.back (s' := _) (J' := _) (m' := _) (by simp; omega) ⟨L ++ [best], va1, rfl, rfl, rfl, (Gr.fr_oi hO hb3.1 hb3.2), (hF.snoc hb3.1 hb3.2), (by simpa using hva1)⟩ ⟨rfl, rfl, rfl, rfl, rfl, rfl, trivial⟩ (fun _ h => by simpa using h)
    · simp [-List.getD_eq_getElem?_getD] at hc2
      refine AW.exit ?_
      refine Post.then_x (Post.then_x (Post.blk_hit (Post.then_n ?_)))
      refine AW.seq ?_
      have hLp : L.length = p.length := by omega
      have hls := Gr.order_least hr hp hF (by omega)
      refine AW.region ?_
      refine RW.q (v := .bool true) rfl (q_move rfl) ?_
      refine RW.q (v := .bool true) rfl (q_move rfl) ?_
      refine RW.gl (v := lv) rfl rfl rfl (q_move rfl) ?_
      refine RW.gl (v := pv1) rfl rfl rfl (q_move rfl) ?_
      refine RW.gl (v := .bool (Gr.lessB L p)) rfl rfl rfl (q_call (args := #[lv, pv1]) own16 rfl rfl (fun w1 hw1 => Less_c w1 (Go.K.hp w1) (Hp.le_refl _) (RowS.ints (show RowS (Go.K.hp w1) lv 3 1 (L.length) (L.map (Value.int .i64)) from hw1.sat _ (List.mem_of_getElem? (i := 0) rfl)) hLm hwfL) (hpv1.mono hw1.phi) (by omega))) ?_
      refine RW.gl (v := .bool (!(Gr.lessB L p))) rfl rfl rfl (q_not rfl) ?_
      refine RW.q (v := .bool (true && (!(Gr.lessB L p)))) rfl (q_pick rfl (fun hp => pkAndT hp) (fun hp => pkAndF hp)) ?_
      refine RW.q (v := .bool (true && (!(Gr.lessB L p)))) rfl (q_assign rfl) ?_
      refine RW.nil ?_
      refine Post.then_n ?_
      refine AW.ret ?_
      exact fin_val (v' := .bool (true && (!(Gr.lessB L p)))) rfl rfl rfl (by rw [hls]; rfl)

end Go.Proofs.Ytjkoojeampaeeaa
