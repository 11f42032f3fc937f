/- The walks of layer 11 (part LawD), printed by walk.py. Conditions: those of each theorem. -/
import Derived.Test.YtjkoojeampaeeaaLawC
import Derived.Test.YtjkoojeampaeeaaTwice
import Derived.Test.YtjkoojeampaeeaaCore2
namespace Go.Proofs.Ytjkoojeampaeeaa
open Go Go.K Go.RowKit

set_option maxHeartbeats 1000000 in
theorem GraphTwice_c (w : World) (Φ : Hp) (hΦ : Hp.le Φ (hp w)) {n a b : Int} {arcs : List Gr.Arc} {v1 : Value} (h1 : RepSl Φ arcs v1) :
    Calls Try.prog 6 #[.int .i64 n, v1, .int .i64 a, .int .i64 b] w fun e w' => e = .returned (.bool true) ∧ Below w.heap.size w w' := by
  refine calls_of_AW (args := [.int .i64 n, v1, .int .i64 a, .int .i64 b]) Try.func6 rfl (Nat.le_of_ble_eq_true rfl) (St ⟨w, Φ, []⟩ Φ []) (StP.init w Φ hΦ []) ?_
  show AW Try.prog 114 [] _ _ _ [(0, .int .i64 n), (1, v1), (2, .int .i64 a), (3, .int .i64 b)] _
  have hm1 : arcs.length * 16 ≤ 140737488355328 := h1.max
  refine AW.seq ?_
  refine AW.region ?_
  refine RW.q (v := .bool false) rfl (q_assign rfl) ?_
  refine RW.nil ?_
  refine Post.then_n ?_
  refine AW.seq ?_
  refine AW.region ?_
  refine RW.q (v := .bool true) rfl (q_call (args := #[]) own9 rfl rfl (fun w1 hw1 => small_c w1 Φ hw1.phi)) ?_
  refine RW.q (v := .bool true) rfl (q_assign rfl) ?_
  refine RW.nil ?_
  refine Post.then_n ?_
  refine AW.seq ?_
  refine AW.region ?_
  refine RW.q (v := .int .i64 n) rfl (q_move rfl) ?_
  refine RW.q (v := v1) rfl (q_move rfl) ?_
  refine RW.q (v := .bool (decide (n ≤ 16) && decide ((arcs.length : Int) ≤ 40))) rfl (q_call (args := #[.int .i64 n, v1]) own15 rfl rfl (fun w1 hw1 => few_c w1 Φ hw1.phi h1)) ?_
  refine RW.q (v := .bool (decide (n ≤ 16) && decide ((arcs.length : Int) ≤ 40))) rfl (q_assign rfl) ?_
  refine RW.nil ?_
  refine Post.then_n ?_
  refine AW.seq ?_
  refine AW.seq ?_
  refine AW.region ?_
  refine RW.q (v := .bool (decide (n ≤ 16) && decide ((arcs.length : Int) ≤ 40))) rfl (q_move rfl) ?_
  refine RW.q (v := .bool (!(decide (n ≤ 16) && decide ((arcs.length : Int) ≤ 40)))) rfl (q_not rfl) ?_
  refine RW.nil ?_
  refine Post.then_n ?_
  refine AW.cond (b := !(decide (n ≤ 16) && decide ((arcs.length : Int) ≤ 40))) rfl (fun hc1 => ?_) (fun hc1 => ?_)
  · simp [-List.getD_eq_getElem?_getD] at hc1
    refine AW.seq ?_
    refine AW.region ?_
    refine RW.q (v := .bool true) rfl (q_move rfl) ?_
    refine RW.q (v := .bool true) rfl (q_assign rfl) ?_
    refine RW.nil ?_
    refine Post.then_n ?_
    refine AW.ret ?_
    refine Post.then_r ?_
    exact fin_val (v' := .bool true) rfl rfl rfl (by rfl)
  · simp [-List.getD_eq_getElem?_getD] at hc1
    refine AW.skip ?_
    refine Post.then_n ?_
    refine AW.seq ?_
    refine AW.region ?_
    refine RW.q (v := (.slice none 0 0)) rfl (q_assign rfl) ?_
    refine RW.nil ?_
    refine Post.then_n ?_
    refine AW.seq ?_
    refine AW.seq ?_
    refine AW.region ?_
    refine RW.q (v := v1) rfl (q_move rfl) ?_
    refine RW.q (v := .int .i64 ((arcs.length : Nat) : Int)) rfl (q_len_sl rfl h1.sl Try.underlying22) ?_
    refine RW.q (v := .int .i64 (((arcs.length : Nat) : Int) - 1)) rfl (q_sub rfl rfl (by omega) (by unfold I64; omega)) ?_
    refine RW.q (v := .int .i64 (((arcs.length : Nat) : Int) - 1)) rfl (q_assign rfl) ?_
    refine RW.nil ?_
    refine Post.then_n ?_
    refine AW.block ?_
    refine AW.loop (fun s J m => ∃ (k : Nat), ∃ (lv : Value), s = [(0, .int .i64 n), (1, v1), (2, .int .i64 a), (3, .int .i64 b), (9, .bool true), (11, lv), (12, .int .i64 ((k : Int) - 1))] ∧ J = St ⟨w, Φ, []⟩ Φ [.row lv 31 2 (((arcs.drop k).reverse).length) (flat ((arcs.drop k).reverse))] ∧ m = k + 1 ∧ (k ≤ arcs.length) ∧ (IsSl lv ((arcs.drop k).reverse).length)) (s0 := _) (J1 := _) (m0 := _) ⟨arcs.length, _, rfl, rfl, rfl, (by omega), (by rw [List.drop_length]; exact isSl_nil)⟩ ⟨rfl, rfl, rfl, rfl, rfl, rfl, rfl, trivial⟩ (fun _ h => by rw [List.drop_length]; exact addNil h) ?_
    rintro _ _ _ _ ⟨k, lv, rfl, rfl, rfl, hk, hlv⟩
    refine AW.seq ?_
    refine AW.seq ?_
    refine AW.region ?_
    refine RW.q (v := .int .i64 ((k : Int) - 1)) rfl (q_move rfl) ?_
    refine RW.q (v := .bool (decide ((0 : Int) ≤ (k : Int) - 1))) rfl (q_geq rfl rfl) ?_
    refine RW.nil ?_
    refine Post.then_n ?_
    refine AW.cond (b := decide ((0 : Int) ≤ (k : Int) - 1)) rfl (fun hc2 => ?_) (fun hc2 => ?_)
    · simp [-List.getD_eq_getElem?_getD] at hc2
      refine AW.skip ?_
      refine Post.then_n ?_
      refine AW.seq ?_
      refine AW.block ?_
      have hki : ((k : Int) - 1).toNat = k - 1 := by omega
      have hrs : (arcs.drop (k - 1)).reverse = (arcs.drop k).reverse ++ [arcs.getD (((k : Int) - 1).toNat) default] := by
        rw [hki]
        obtain ⟨m, rfl⟩ : ∃ m, k = m + 1 := ⟨k - 1, by omega⟩
        rw [Nat.add_sub_cancel, List.drop_eq_getElem_cons (by omega : m < arcs.length), List.reverse_cons]
        simp [List.getD_eq_getElem?_getD, show m < arcs.length by omega]
      have hdl : ((arcs.drop k).reverse : List Gr.Arc).length = arcs.length - k := by simp
      refine AW.region ?_
      refine RW.q (v := lv) rfl (q_move rfl) ?_
      refine RW.q (v := v1) rfl (q_move rfl) ?_
      refine RW.q (v := .int .i64 ((k : Int) - 1)) rfl (q_move rfl) ?_
      refine RW.q (v := .pointer (some (Value.at v1 ((((k : Int) - 1).toNat) * 2)))) rfl (q_indexAddr rfl rfl h1.sl Try.underlying22 sz31 (by omega) (by omega) rfl) ?_
      refine RW.q (v := .agg #[.int .i64 ((arcs.getD (((k : Int) - 1).toNat) default).From), .int .i64 ((arcs.getD (((k : Int) - 1).toNat) default).To)]) rfl (q_loadAgg rfl Try.underlying31 rfl sz31 rfl (Cells.repE h1 (by omega) rfl)) ?_
      refine RW.eff (fun b1 : Nat => (.slice (some ⟨b1, 0, none⟩) 1 1)) (fun b1 => St ⟨w, Φ, []⟩ Φ [.row (.slice (some ⟨b1, 0, none⟩) 1 1) 31 2 1 ([.int .i64 ((arcs.getD (((k : Int) - 1).toNat) default).From), .int .i64 ((arcs.getD (((k : Int) - 1).toNat) default).To)]), .row lv 31 2 (((arcs.drop k).reverse).length) (flat ((arcs.drop k).reverse))]) rfl (e_buildSlice (vals := [(0, .agg #[.int .i64 ((arcs.getD (((k : Int) - 1).toNat) default).From), .int .i64 ((arcs.getD (((k : Int) - 1).toNat) default).To)])]) (cells := [.int .i64 ((arcs.getD (((k : Int) - 1).toNat) default).From), .int .i64 ((arcs.getD (((k : Int) - 1).toNat) default).To)]) Try.underlying22 inf31 rfl rfl rfl (by kernel_rfl) rfl) ?_
      intro b1
      refine RW.eff (fun xv : {vq : Value // IsSl vq (((arcs.drop k).reverse).length + 1)} => xv.1) (fun xv => St ⟨w, Φ, []⟩ Φ [.row (.slice (some ⟨b1, 0, none⟩) 1 1) 31 2 1 ([.int .i64 ((arcs.getD (((k : Int) - 1).toNat) default).From), .int .i64 ((arcs.getD (((k : Int) - 1).toNat) default).To)]), .row xv.1 31 2 ((((arcs.drop k).reverse) ++ [(arcs.getD (((k : Int) - 1).toNat) default)]).length) (flat (((arcs.drop k).reverse) ++ [(arcs.getD (((k : Int) - 1).toNat) default)]))]) rfl (e_append 1 rfl rfl rfl Try.underlying22 inf31 rfl rfl rfl (Cells.row0 0 rfl) rfl (by omega) (by omega) (fun _ => by simp [flat] <;> rfl)) ?_
      rintro ⟨va1, hva1⟩
      refine RW.wk (J' := St ⟨w, Φ, []⟩ Φ [.row va1 31 2 ((((arcs.drop k).reverse) ++ [(arcs.getD (((k : Int) - 1).toNat) default)]).length) (flat (((arcs.drop k).reverse) ++ [(arcs.getD (((k : Int) - 1).toNat) default)]))]) (fun _ h => StP.drop h (by exact .cons _ (.cons_cons _ (.slnil)))) ?_
      refine RW.q (v := va1) rfl (q_assign rfl) ?_
      refine RW.nil ?_
      refine Post.blk_n (Post.then_n ?_)
      refine AW.region ?_
      refine RW.q (v := .int .i64 ((k : Int) - 1)) rfl (q_move rfl) ?_
      refine RW.q (v := .int .i64 (((k - 1 : Nat) : Int) - 1)) rfl (q_sub rfl rfl (by omega) (by unfold I64; omega)) ?_
      refine RW.q (v := .int .i64 (((k - 1 : Nat) : Int) - 1)) rfl (q_assign rfl) ?_
      refine RW.nil ?_
      exact Post.back (s' := _) (J' := _) (m' := _) (by omega) ⟨k - 1, va1, rfl, rfl, rfl, (by omega), (by rw [hrs]; simpa using hva1)⟩ ⟨rfl, rfl, rfl, rfl, rfl, rfl, rfl, trivial⟩ (fun _ h => by rw [hrs]; exact h)
    · simp [-List.getD_eq_getElem?_getD] at hc2
      refine AW.exit ?_
      refine Post.then_x (Post.then_x (Post.blk_hit (Post.then_n ?_)))
      refine AW.seq ?_
      obtain ⟨hn16, h40⟩ := hc1
      have hk0 : k = 0 := by omega
      obtain ⟨more, hmore⟩ : ∃ l : List Gr.Arc, l = (arcs.drop k).reverse ++ arcs := ⟨_, rfl⟩
      have hmem : ∀ x, x ∈ arcs ↔ x ∈ more := fun x => by rw [hmore, hk0]; simp
      have hml : more.length = arcs.length + arcs.length := by rw [hmore, hk0]; simp
      have hr2 := Gr.right_same (n := n) hmem (by omega) (by omega)
      have eo := Gr.order_same hmem hr2
      have ep := Gr.path_same (a := a) (b := b) hmem hr2
      have el := Gr.loop_same hmem hr2
      have ed := Gr.down_same (v := a) hmem hr2
      have hd0 : ((arcs.drop k).reverse : List Gr.Arc).length = arcs.length := by rw [hk0]; simp
      refine AW.region ?_
      refine RW.q (v := lv) rfl (q_move rfl) ?_
      refine RW.q (v := v1) rfl (q_move rfl) ?_
      refine RW.eff (fun xv : {vq : Value // IsSl vq (((arcs.drop k).reverse).length + arcs.length)} => xv.1) (fun xv => St ⟨w, Φ, []⟩ Φ [.row xv.1 31 2 ((((arcs.drop k).reverse) ++ arcs).length) (flat (((arcs.drop k).reverse) ++ arcs))]) rfl (e_appendPhi (yv := v1) 0 rfl rfl rfl h1.sl Try.underlying22 inf31 rfl rfl (flat_len evenArc _) (repE_cells evenArc h1) (flat_one h1) (by omega) (by omega) (fun _ => by simp [flat])) ?_
      rintro ⟨va2, hva2⟩
      refine RW.frz (fun Φ1 hlΦ1 hshmo => ?_)
      replace h1 := h1.mono hlΦ1
      replace hmo : RepSl Φ1 more va2 := by
        rw [hmore]
        exact RowS.repE evenArc (T := 31) (hshmo) rfl (by rw [← hmore]; simp only [Rep.bytes, maxSl]; omega) (fun x hx => h1.wfE x ((hmem x).2 (by rw [hmore]; exact hx)))
      refine RW.q (v := va2) rfl (q_assign rfl) ?_
      refine RW.nil ?_
      refine Post.then_n ?_
      refine AW.seq ?_
      refine AW.region ?_
      refine RW.q (v := .int .i64 n) rfl (q_move rfl) ?_
      refine RW.q (v := v1) rfl (q_move rfl) ?_
      refine RW.eff (fun x : {y : Value × Hp // (fun r Ψ => PairRep Ψ (Gr.orderM n arcs) r) y.1 y.2 ∧ Hp.le Φ1 y.2} => x.1.1) (fun x => St ⟨w, Φ, []⟩ x.1.2 []) rfl (e_callS (T := fun r Ψ => PairRep Ψ (Gr.orderM n arcs) r) (args := #[.int .i64 n, v1]) own11 rfl rfl (fun w1 hw1 => (Order_c w1 Φ1 hw1.phi h1).mono fun _ _ => retS_up (fun _ _ _ hl h => h.mono hl))) ?_
      rintro ⟨⟨rp1, Φ2⟩, hrp1, hlΦ2⟩
      replace hrp1 : PairRep Φ2 (Gr.orderM n arcs) rp1 := hrp1
      replace hlΦ2 : Hp.le Φ1 Φ2 := hlΦ2
      replace h1 := h1.mono hlΦ2
      replace hmo := hmo.mono hlΦ2
      obtain ⟨pv1, rfl, hpv1⟩ := hrp1
      refine RW.q (v := .tuple #[pv1, .bool ((Gr.orderM n arcs).isSome)]) rfl (q_move rfl) ?_
      refine RW.q (v := pv1) rfl (q_extract rfl rfl) ?_
      refine RW.q (v := .bool ((Gr.orderM n arcs).isSome)) rfl (q_extract rfl rfl) ?_
      refine RW.q (v := pv1) rfl (q_assign rfl) ?_
      refine RW.q (v := .bool ((Gr.orderM n arcs).isSome)) rfl (q_assign rfl) ?_
      refine RW.nil ?_
      refine Post.then_n ?_
      refine AW.seq ?_
      refine AW.region ?_
      refine RW.q (v := .int .i64 n) rfl (q_move rfl) ?_
      refine RW.q (v := va2) rfl (q_move rfl) ?_
      refine RW.eff (fun x : {y : Value × Hp // (fun r Ψ => PairRep Ψ (Gr.orderM n more) r) y.1 y.2 ∧ Hp.le Φ2 y.2} => x.1.1) (fun x => St ⟨w, Φ, []⟩ x.1.2 []) rfl (e_callS (T := fun r Ψ => PairRep Ψ (Gr.orderM n more) r) (args := #[.int .i64 n, va2]) own11 rfl rfl (fun w1 hw1 => (Order_c w1 Φ2 hw1.phi hmo).mono fun _ _ => retS_up (fun _ _ _ hl h => h.mono hl))) ?_
      rintro ⟨⟨rp2, Φ3⟩, hrp2, hlΦ3⟩
      replace hrp2 : PairRep Φ3 (Gr.orderM n more) rp2 := hrp2
      replace hlΦ3 : Hp.le Φ2 Φ3 := hlΦ3
      replace h1 := h1.mono hlΦ3
      replace hmo := hmo.mono hlΦ3
      replace hpv1 := hpv1.mono hlΦ3
      obtain ⟨pv2, rfl, hpv2⟩ := hrp2
      refine RW.q (v := .tuple #[pv2, .bool ((Gr.orderM n more).isSome)]) rfl (q_move rfl) ?_
      refine RW.q (v := pv2) rfl (q_extract rfl rfl) ?_
      refine RW.q (v := .bool ((Gr.orderM n more).isSome)) rfl (q_extract rfl rfl) ?_
      refine RW.q (v := pv2) rfl (q_assign rfl) ?_
      refine RW.q (v := .bool ((Gr.orderM n more).isSome)) rfl (q_assign rfl) ?_
      refine RW.nil ?_
      refine Post.then_n ?_
      refine AW.seq ?_
      refine AW.region ?_
      refine RW.q (v := .int .i64 n) rfl (q_move rfl) ?_
      refine RW.q (v := v1) rfl (q_move rfl) ?_
      refine RW.q (v := .int .i64 a) rfl (q_move rfl) ?_
      refine RW.q (v := .int .i64 b) rfl (q_move rfl) ?_
      refine RW.eff (fun x : {y : Value × Hp // (fun r Ψ => PairRep Ψ (Gr.pathM n arcs a b) r) y.1 y.2 ∧ Hp.le Φ3 y.2} => x.1.1) (fun x => St ⟨w, Φ, []⟩ x.1.2 []) rfl (e_callS (T := fun r Ψ => PairRep Ψ (Gr.pathM n arcs a b) r) (args := #[.int .i64 n, v1, .int .i64 a, .int .i64 b]) own17 rfl rfl (fun w1 hw1 => (Path_c w1 Φ3 hw1.phi h1).mono fun _ _ => retS_up (fun _ _ _ hl h => h.mono hl))) ?_
      rintro ⟨⟨rp3, Φ4⟩, hrp3, hlΦ4⟩
      replace hrp3 : PairRep Φ4 (Gr.pathM n arcs a b) rp3 := hrp3
      replace hlΦ4 : Hp.le Φ3 Φ4 := hlΦ4
      replace h1 := h1.mono hlΦ4
      replace hmo := hmo.mono hlΦ4
      replace hpv1 := hpv1.mono hlΦ4
      replace hpv2 := hpv2.mono hlΦ4
      obtain ⟨pv3, rfl, hpv3⟩ := hrp3
      refine RW.q (v := .tuple #[pv3, .bool ((Gr.pathM n arcs a b).isSome)]) rfl (q_move rfl) ?_
      refine RW.q (v := pv3) rfl (q_extract rfl rfl) ?_
      refine RW.q (v := .bool ((Gr.pathM n arcs a b).isSome)) rfl (q_extract rfl rfl) ?_
      refine RW.q (v := pv3) rfl (q_assign rfl) ?_
      refine RW.q (v := .bool ((Gr.pathM n arcs a b).isSome)) rfl (q_assign rfl) ?_
      refine RW.nil ?_
      refine Post.then_n ?_
      refine AW.seq ?_
      refine AW.region ?_
      refine RW.q (v := .int .i64 n) rfl (q_move rfl) ?_
      refine RW.q (v := va2) rfl (q_move rfl) ?_
      refine RW.q (v := .int .i64 a) rfl (q_move rfl) ?_
      refine RW.q (v := .int .i64 b) rfl (q_move rfl) ?_
      refine RW.eff (fun x : {y : Value × Hp // (fun r Ψ => PairRep Ψ (Gr.pathM n more a b) r) y.1 y.2 ∧ Hp.le Φ4 y.2} => x.1.1) (fun x => St ⟨w, Φ, []⟩ x.1.2 []) rfl (e_callS (T := fun r Ψ => PairRep Ψ (Gr.pathM n more a b) r) (args := #[.int .i64 n, va2, .int .i64 a, .int .i64 b]) own17 rfl rfl (fun w1 hw1 => (Path_c w1 Φ4 hw1.phi hmo).mono fun _ _ => retS_up (fun _ _ _ hl h => h.mono hl))) ?_
      rintro ⟨⟨rp4, Φ5⟩, hrp4, hlΦ5⟩
      replace hrp4 : PairRep Φ5 (Gr.pathM n more a b) rp4 := hrp4
      replace hlΦ5 : Hp.le Φ4 Φ5 := hlΦ5
      replace h1 := h1.mono hlΦ5
      replace hmo := hmo.mono hlΦ5
      replace hpv1 := hpv1.mono hlΦ5
      replace hpv2 := hpv2.mono hlΦ5
      replace hpv3 := hpv3.mono hlΦ5
      obtain ⟨pv4, rfl, hpv4⟩ := hrp4
      refine RW.q (v := .tuple #[pv4, .bool ((Gr.pathM n more a b).isSome)]) rfl (q_move rfl) ?_
      refine RW.q (v := pv4) rfl (q_extract rfl rfl) ?_
      refine RW.q (v := .bool ((Gr.pathM n more a b).isSome)) rfl (q_extract rfl rfl) ?_
      refine RW.q (v := pv4) rfl (q_assign rfl) ?_
      refine RW.q (v := .bool ((Gr.pathM n more a b).isSome)) rfl (q_assign rfl) ?_
      refine RW.nil ?_
      refine Post.then_n ?_
      refine AW.seq ?_
      refine AW.region ?_
      refine RW.q (v := .bool true) rfl (q_move rfl) ?_
      refine RW.q (v := .bool true) rfl (q_move rfl) ?_
      refine RW.gl (v := .bool ((Gr.orderM n arcs).isSome)) rfl rfl rfl (q_move rfl) ?_
      refine RW.gl (v := .bool ((Gr.orderM n more).isSome)) rfl rfl rfl (q_move rfl) ?_
      refine RW.gl (v := .bool true) rfl rfl rfl (q_as (v := .bool (((Gr.orderM n arcs).isSome) == ((Gr.orderM n more).isSome))) (q_eqlB rfl rfl Try.underlying4) (congrArg Value.bool (by rw [eo]; exact beq_self_eq_true _))) ?_
      refine RW.q (v := .bool true) rfl (q_pick rfl (fun hp => pkOrT (q := true) (r := false) hp) (fun hp => pkOrF (q := true) (r := false) hp)) ?_
      refine RW.q (v := .bool true) rfl (q_move rfl) ?_
      refine RW.gl (v := .bool ((Gr.pathM n arcs a b).isSome)) rfl rfl rfl (q_move rfl) ?_
      refine RW.gl (v := .bool ((Gr.pathM n more a b).isSome)) rfl rfl rfl (q_move rfl) ?_
      refine RW.gl (v := .bool true) rfl rfl rfl (q_as (v := .bool (((Gr.pathM n arcs a b).isSome) == ((Gr.pathM n more a b).isSome))) (q_eqlB rfl rfl Try.underlying4) (congrArg Value.bool (by rw [ep]; exact beq_self_eq_true _))) ?_
      refine RW.q (v := .bool true) rfl (q_pick rfl (fun hp => pkOrT (q := true) (r := false) hp) (fun hp => pkOrF (q := true) (r := false) hp)) ?_
      refine RW.q (v := .bool true) rfl (q_move rfl) ?_
      refine RW.gl (v := pv1) rfl rfl rfl (q_move rfl) ?_
      refine RW.gl (v := pv2) rfl rfl rfl (q_move rfl) ?_
      refine RW.gl (v := .bool true) rfl rfl rfl (q_as (v := .bool (decide (((Gr.orderM n arcs).getD []) = ((Gr.orderM n more).getD [])))) (q_call (args := #[pv1, pv2]) own18 rfl rfl (fun w1 hw1 => Same_c w1 Φ5 hw1.phi hpv1 hpv2)) (congrArg Value.bool (by rw [eo]; exact decide_eq_true rfl))) ?_
      refine RW.q (v := .bool true) rfl (q_pick rfl (fun hp => pkOrT (q := true) (r := false) hp) (fun hp => pkOrF (q := true) (r := false) hp)) ?_
      refine RW.q (v := .bool true) rfl (q_move rfl) ?_
      refine RW.gl (v := pv3) rfl rfl rfl (q_move rfl) ?_
      refine RW.gl (v := pv4) rfl rfl rfl (q_move rfl) ?_
      refine RW.gl (v := .bool true) rfl rfl rfl (q_as (v := .bool (decide (((Gr.pathM n arcs a b).getD []) = ((Gr.pathM n more a b).getD [])))) (q_call (args := #[pv3, pv4]) own18 rfl rfl (fun w1 hw1 => Same_c w1 Φ5 hw1.phi hpv3 hpv4)) (congrArg Value.bool (by rw [ep]; exact decide_eq_true rfl))) ?_
      refine RW.q (v := .bool true) rfl (q_pick rfl (fun hp => pkOrT (q := true) (r := false) hp) (fun hp => pkOrF (q := true) (r := false) hp)) ?_
      refine RW.q (v := .bool true) rfl (q_move rfl) ?_
      refine RW.gl (v := .int .i64 n) rfl rfl rfl (q_move rfl) ?_
      refine RW.gl (v := v1) rfl rfl rfl (q_move rfl) ?_
      refine RW.effg (fun x : {y : Value × Hp // (fun r Ψ => RepSl Ψ (Gr.loopM n arcs) r) y.1 y.2 ∧ Hp.le Φ5 y.2} => x.1.1) (fun x => St ⟨w, Φ, []⟩ x.1.2 []) rfl rfl rfl (e_callS (T := fun r Ψ => RepSl Ψ (Gr.loopM n arcs) r) (args := #[.int .i64 n, v1]) own12 rfl rfl (fun w1 hw1 => (Loop_c w1 Φ5 hw1.phi h1).mono fun _ _ => retS_up (fun _ _ _ hl h => h.mono hl))) ?_
      rintro ⟨⟨lv1, Φ6⟩, hlv1, hlΦ6⟩
      replace hlv1 : RepSl Φ6 (Gr.loopM n arcs) lv1 := hlv1
      replace hlΦ6 : Hp.le Φ5 Φ6 := hlΦ6
      replace h1 := h1.mono hlΦ6
      replace hmo := hmo.mono hlΦ6
      replace hpv1 := hpv1.mono hlΦ6
      replace hpv2 := hpv2.mono hlΦ6
      replace hpv3 := hpv3.mono hlΦ6
      replace hpv4 := hpv4.mono hlΦ6
      refine RW.gl (v := .int .i64 n) rfl rfl rfl (q_move rfl) ?_
      refine RW.gl (v := va2) rfl rfl rfl (q_move rfl) ?_
      refine RW.effg (fun x : {y : Value × Hp // (fun r Ψ => RepSl Ψ (Gr.loopM n more) r) y.1 y.2 ∧ Hp.le Φ6 y.2} => x.1.1) (fun x => St ⟨w, Φ, []⟩ x.1.2 []) rfl rfl rfl (e_callS (T := fun r Ψ => RepSl Ψ (Gr.loopM n more) r) (args := #[.int .i64 n, va2]) own12 rfl rfl (fun w1 hw1 => (Loop_c w1 Φ6 hw1.phi hmo).mono fun _ _ => retS_up (fun _ _ _ hl h => h.mono hl))) ?_
      rintro ⟨⟨lv2, Φ7⟩, hlv2, hlΦ7⟩
      replace hlv2 : RepSl Φ7 (Gr.loopM n more) lv2 := hlv2
      replace hlΦ7 : Hp.le Φ6 Φ7 := hlΦ7
      replace h1 := h1.mono hlΦ7
      replace hmo := hmo.mono hlΦ7
      replace hpv1 := hpv1.mono hlΦ7
      replace hpv2 := hpv2.mono hlΦ7
      replace hpv3 := hpv3.mono hlΦ7
      replace hpv4 := hpv4.mono hlΦ7
      replace hlv1 := hlv1.mono hlΦ7
      refine RW.gl (v := .bool true) rfl rfl rfl (q_as (v := .bool (decide ((Gr.loopM n arcs) = (Gr.loopM n more)))) (q_call (args := #[lv1, lv2]) own18 rfl rfl (fun w1 hw1 => Same_c w1 Φ7 hw1.phi hlv1 hlv2)) (congrArg Value.bool (by rw [el]; exact decide_eq_true rfl))) ?_
      refine RW.q (v := .bool true) rfl (q_pick rfl (fun hp => pkOrT (q := true) (r := false) hp) (fun hp => pkOrF (q := true) (r := false) hp)) ?_
      refine RW.q (v := .bool true) rfl (q_move rfl) ?_
      refine RW.gl (v := .int .i64 n) rfl rfl rfl (q_move rfl) ?_
      refine RW.gl (v := v1) rfl rfl rfl (q_move rfl) ?_
      refine RW.gl (v := .int .i64 a) rfl rfl rfl (q_move rfl) ?_
      refine RW.effg (fun x : {y : Value × Hp // (fun r Ψ => RepSl Ψ (Gr.downM n arcs a) r) y.1 y.2 ∧ Hp.le Φ7 y.2} => x.1.1) (fun x => St ⟨w, Φ, []⟩ x.1.2 []) rfl rfl rfl (e_callS (T := fun r Ψ => RepSl Ψ (Gr.downM n arcs a) r) (args := #[.int .i64 n, v1, .int .i64 a]) own19 rfl rfl (fun w1 hw1 => (Down_c w1 Φ7 hw1.phi h1).mono fun _ _ => retS_up (fun _ _ _ hl h => h.mono hl))) ?_
      rintro ⟨⟨lv3, Φ8⟩, hlv3, hlΦ8⟩
      replace hlv3 : RepSl Φ8 (Gr.downM n arcs a) lv3 := hlv3
      replace hlΦ8 : Hp.le Φ7 Φ8 := hlΦ8
      replace h1 := h1.mono hlΦ8
      replace hmo := hmo.mono hlΦ8
      replace hpv1 := hpv1.mono hlΦ8
      replace hpv2 := hpv2.mono hlΦ8
      replace hpv3 := hpv3.mono hlΦ8
      replace hpv4 := hpv4.mono hlΦ8
      replace hlv1 := hlv1.mono hlΦ8
      replace hlv2 := hlv2.mono hlΦ8
      refine RW.gl (v := .int .i64 n) rfl rfl rfl (q_move rfl) ?_
      refine RW.gl (v := va2) rfl rfl rfl (q_move rfl) ?_
      refine RW.gl (v := .int .i64 a) rfl rfl rfl (q_move rfl) ?_
      refine RW.effg (fun x : {y : Value × Hp // (fun r Ψ => RepSl Ψ (Gr.downM n more a) r) y.1 y.2 ∧ Hp.le Φ8 y.2} => x.1.1) (fun x => St ⟨w, Φ, []⟩ x.1.2 []) rfl rfl rfl (e_callS (T := fun r Ψ => RepSl Ψ (Gr.downM n more a) r) (args := #[.int .i64 n, va2, .int .i64 a]) own19 rfl rfl (fun w1 hw1 => (Down_c w1 Φ8 hw1.phi hmo).mono fun _ _ => retS_up (fun _ _ _ hl h => h.mono hl))) ?_
      rintro ⟨⟨lv4, Φ9⟩, hlv4, hlΦ9⟩
      replace hlv4 : RepSl Φ9 (Gr.downM n more a) lv4 := hlv4
      replace hlΦ9 : Hp.le Φ8 Φ9 := hlΦ9
      replace h1 := h1.mono hlΦ9
      replace hmo := hmo.mono hlΦ9
      replace hpv1 := hpv1.mono hlΦ9
      replace hpv2 := hpv2.mono hlΦ9
      replace hpv3 := hpv3.mono hlΦ9
      replace hpv4 := hpv4.mono hlΦ9
      replace hlv1 := hlv1.mono hlΦ9
      replace hlv2 := hlv2.mono hlΦ9
      replace hlv3 := hlv3.mono hlΦ9
      refine RW.gl (v := .bool true) rfl rfl rfl (q_as (v := .bool (decide ((Gr.downM n arcs a) = (Gr.downM n more a)))) (q_call (args := #[lv3, lv4]) own18 rfl rfl (fun w1 hw1 => Same_c w1 Φ9 hw1.phi hlv3 hlv4)) (congrArg Value.bool (by rw [ed]; exact decide_eq_true rfl))) ?_
      refine RW.q (v := .bool true) rfl (q_pick rfl (fun hp => pkOrT (q := true) (r := false) hp) (fun hp => pkOrF (q := true) (r := false) hp)) ?_
      refine RW.q (v := .bool true) rfl (q_assign rfl) ?_
      refine RW.nil ?_
      refine Post.then_n ?_
      refine AW.ret ?_
      exact fin_val (v' := .bool true) rfl rfl rfl (by rfl)

end Go.Proofs.Ytjkoojeampaeeaa
