/- The walks of layer 11 (part WalkG), printed by walk.py. Conditions: those of each theorem. -/
import Derived.Test.YtjkoojeampaeeaaWalkF
namespace Go.Proofs.Ytjkoojeampaeeaa
open Go Go.K Go.RowKit

theorem PairRep.mono {Ψ Ψ' : Hp} {o : Option (List Int)} {r : Value} (h : PairRep Ψ o r) (hl : Hp.le Ψ Ψ') : PairRep Ψ' o r := let ⟨v, h1, h2⟩ := h; ⟨v, h1, h2.mono hl⟩
theorem arc_wf {l : List Gr.Arc} (h : l.all (fun a => decide (-9223372036854775808 ≤ a.From ∧ a.From ≤ 9223372036854775807 ∧ -9223372036854775808 ≤ a.To ∧ a.To ≤ 9223372036854775807)) = true) : ∀ x ∈ l, RepE.wf x := fun x hx => by
  have := List.all_eq_true.1 h x hx
  have := of_decide_eq_true this
  exact ⟨by unfold I64; omega, by unfold I64; omega⟩
theorem int_wf {l : List Int} (h : l.all (fun a => decide (-9223372036854775808 ≤ a ∧ a ≤ 9223372036854775807)) = true) : ∀ x ∈ l, I64 x := fun x hx => by
  have := List.all_eq_true.1 h x hx
  have := of_decide_eq_true this
  unfold I64; omega
theorem sm1 : Gr.orderM 3 ([⟨2, 0⟩, ⟨2, 1⟩] : List Gr.Arc) = some ([2, 0, 1] : List Int) := by decide +kernel
theorem sm2 : Gr.pathM 4 ([⟨0, 2⟩, ⟨2, 1⟩, ⟨1, 0⟩, ⟨3, 3⟩] : List Gr.Arc) 2 0 = some ([2, 1, 0] : List Int) := by decide +kernel
theorem sm3 : Gr.loopM 4 ([⟨0, 2⟩, ⟨2, 1⟩, ⟨1, 0⟩, ⟨3, 3⟩] : List Gr.Arc) = ([0, 2, 1] : List Int) := by decide +kernel
theorem sm4 : Gr.downM 4 ([⟨0, 2⟩, ⟨2, 1⟩, ⟨1, 0⟩, ⟨3, 3⟩] : List Gr.Arc) 0 = ([0, 1, 2] : List Int) := by decide +kernel
theorem sb (xs : List Int) : decide (xs = xs) = true := decide_eq_true rfl

set_option maxHeartbeats 1000000 in
theorem small_c (w : World) (Φ : Hp) (hΦ : Hp.le Φ (hp w))  :
    Calls Try.prog 9 #[] w fun e w' => e = .returned (.bool true) ∧ Below w.heap.size w w' := by
  refine calls_of_AW (args := []) Try.func9 rfl (Nat.le_of_ble_eq_true rfl) (St ⟨w, Φ, []⟩ Φ []) (StP.init w Φ hΦ []) ?_
  show AW Try.prog 49 [] _ _ _ [] _
  refine AW.seq ?_
  refine AW.region ?_
  refine RW.q (v := .bool false) rfl (q_assign rfl) ?_
  refine RW.nil ?_
  refine Post.then_n ?_
  refine AW.seq ?_
  refine AW.region ?_
  refine RW.q (v := .agg #[.int .i64 0, .int .i64 2]) rfl (q_build (vals := [(0, .int .i64 0), (1, .int .i64 2)]) zero31 Try.underlying31 places31 rfl rfl) ?_
  refine RW.q (v := .agg #[.int .i64 2, .int .i64 1]) rfl (q_build (vals := [(0, .int .i64 2), (1, .int .i64 1)]) zero31 Try.underlying31 places31 rfl rfl) ?_
  refine RW.q (v := .agg #[.int .i64 1, .int .i64 0]) rfl (q_build (vals := [(0, .int .i64 1), (1, .int .i64 0)]) zero31 Try.underlying31 places31 rfl rfl) ?_
  refine RW.q (v := .agg #[.int .i64 3, .int .i64 3]) rfl (q_build (vals := [(0, .int .i64 3), (1, .int .i64 3)]) zero31 Try.underlying31 places31 rfl rfl) ?_
  refine RW.eff (fun b1 : Nat => (.slice (some ⟨b1, 0, none⟩) 4 4)) (fun b1 => St ⟨w, Φ, []⟩ Φ [.row (.slice (some ⟨b1, 0, none⟩) 4 4) 31 2 4 ([.int .i64 0, .int .i64 2, .int .i64 2, .int .i64 1, .int .i64 1, .int .i64 0, .int .i64 3, .int .i64 3])]) rfl (e_buildSlice (vals := [(0, .agg #[.int .i64 0, .int .i64 2]), (1, .agg #[.int .i64 2, .int .i64 1]), (2, .agg #[.int .i64 1, .int .i64 0]), (3, .agg #[.int .i64 3, .int .i64 3])]) (cells := [.int .i64 0, .int .i64 2, .int .i64 2, .int .i64 1, .int .i64 1, .int .i64 0, .int .i64 3, .int .i64 3]) Try.underlying22 inf31 rfl rfl rfl (by kernel_rfl) rfl) ?_
  intro b1
  refine RW.frz (fun Φ1 hlΦ1 hshla => ?_)
  replace hla : RepSl Φ1 (([⟨0, 2⟩, ⟨2, 1⟩, ⟨1, 0⟩, ⟨3, 3⟩] : List Gr.Arc) : List Gr.Arc) (.slice (some ⟨b1, 0, none⟩) 4 4) := RowS.repE evenArc (T := 31) (n := 4) (hshla) rfl (by decide) (arc_wf (by decide))
  refine RW.q (v := (.slice (some ⟨b1, 0, none⟩) 4 4)) rfl (q_assign rfl) ?_
  refine RW.nil ?_
  refine Post.then_n ?_
  refine AW.seq ?_
  refine AW.region ?_
  refine RW.q (v := .agg #[.int .i64 2, .int .i64 0]) rfl (q_build (vals := [(0, .int .i64 2), (1, .int .i64 0)]) zero31 Try.underlying31 places31 rfl rfl) ?_
  refine RW.q (v := .agg #[.int .i64 2, .int .i64 1]) rfl (q_build (vals := [(0, .int .i64 2), (1, .int .i64 1)]) zero31 Try.underlying31 places31 rfl rfl) ?_
  refine RW.eff (fun b2 : Nat => (.slice (some ⟨b2, 0, none⟩) 2 2)) (fun b2 => St ⟨w, Φ, []⟩ Φ1 [.row (.slice (some ⟨b2, 0, none⟩) 2 2) 31 2 2 ([.int .i64 2, .int .i64 0, .int .i64 2, .int .i64 1])]) rfl (e_buildSlice (vals := [(0, .agg #[.int .i64 2, .int .i64 0]), (1, .agg #[.int .i64 2, .int .i64 1])]) (cells := [.int .i64 2, .int .i64 0, .int .i64 2, .int .i64 1]) Try.underlying22 inf31 rfl rfl rfl (by kernel_rfl) rfl) ?_
  intro b2
  refine RW.frz (fun Φ2 hlΦ2 hshlb => ?_)
  replace hla := hla.mono hlΦ2
  replace hlb : RepSl Φ2 (([⟨2, 0⟩, ⟨2, 1⟩] : List Gr.Arc) : List Gr.Arc) (.slice (some ⟨b2, 0, none⟩) 2 2) := RowS.repE evenArc (T := 31) (n := 2) (hshlb) rfl (by decide) (arc_wf (by decide))
  refine RW.eff (fun x : {y : Value × Hp // (fun r Ψ => PairRep Ψ (some ([2, 0, 1] : List Int)) r) y.1 y.2 ∧ Hp.le Φ2 y.2} => x.1.1) (fun x => St ⟨w, Φ, []⟩ x.1.2 []) rfl (e_callS (T := fun r Ψ => PairRep Ψ (some ([2, 0, 1] : List Int)) r) (args := #[.int .i64 3, (.slice (some ⟨b2, 0, none⟩) 2 2)]) own11 rfl rfl (fun w1 hw1 => by rw [← sm1]; exact (Order_c w1 Φ2 hw1.phi hlb).mono fun _ _ => retS_up (fun _ _ _ hl h => h.mono hl))) ?_
  rintro ⟨⟨rp1, Φ3⟩, hrp1, hlΦ3⟩
  replace hrp1 : PairRep Φ3 (some ([2, 0, 1] : List Int)) rp1 := hrp1
  replace hlΦ3 : Hp.le Φ2 Φ3 := hlΦ3
  replace hla := hla.mono hlΦ3
  replace hlb := hlb.mono hlΦ3
  obtain ⟨pv1, rfl, hpv1⟩ := hrp1
  replace hpv1 : RepSl Φ3 ([2, 0, 1] : List Int) pv1 := hpv1
  refine RW.q (v := .tuple #[pv1, .bool true]) rfl (q_move rfl) ?_
  refine RW.q (v := pv1) rfl (q_extract rfl rfl) ?_
  refine RW.q (v := .bool true) rfl (q_extract rfl rfl) ?_
  refine RW.q (v := pv1) rfl (q_assign rfl) ?_
  refine RW.q (v := .bool true) rfl (q_assign rfl) ?_
  refine RW.nil ?_
  refine Post.then_n ?_
  refine AW.seq ?_
  refine AW.region ?_
  refine RW.q (v := (.slice (some ⟨b1, 0, none⟩) 4 4)) rfl (q_move rfl) ?_
  refine RW.eff (fun x : {y : Value × Hp // (fun r Ψ => PairRep Ψ (some ([2, 1, 0] : List Int)) r) y.1 y.2 ∧ Hp.le Φ3 y.2} => x.1.1) (fun x => St ⟨w, Φ, []⟩ x.1.2 []) rfl (e_callS (T := fun r Ψ => PairRep Ψ (some ([2, 1, 0] : List Int)) r) (args := #[.int .i64 4, (.slice (some ⟨b1, 0, none⟩) 4 4), .int .i64 2, .int .i64 0]) own17 rfl rfl (fun w1 hw1 => by rw [← sm2]; exact (Path_c w1 Φ3 hw1.phi hla).mono fun _ _ => retS_up (fun _ _ _ hl h => h.mono hl))) ?_
  rintro ⟨⟨rp2, Φ4⟩, hrp2, hlΦ4⟩
  replace hrp2 : PairRep Φ4 (some ([2, 1, 0] : List Int)) rp2 := hrp2
  replace hlΦ4 : Hp.le Φ3 Φ4 := hlΦ4
  replace hla := hla.mono hlΦ4
  replace hlb := hlb.mono hlΦ4
  replace hpv1 := hpv1.mono hlΦ4
  obtain ⟨pv2, rfl, hpv2⟩ := hrp2
  replace hpv2 : RepSl Φ4 ([2, 1, 0] : List Int) pv2 := hpv2
  refine RW.q (v := .tuple #[pv2, .bool true]) rfl (q_move rfl) ?_
  refine RW.q (v := pv2) rfl (q_extract rfl rfl) ?_
  refine RW.q (v := .bool true) rfl (q_extract rfl rfl) ?_
  refine RW.q (v := pv2) rfl (q_assign rfl) ?_
  refine RW.q (v := .bool true) rfl (q_assign rfl) ?_
  refine RW.nil ?_
  refine Post.then_n ?_
  refine AW.seq ?_
  refine AW.region ?_
  refine RW.q (v := .bool true) rfl (q_move rfl) ?_
  refine RW.q (v := .bool true) rfl (q_move rfl) ?_
  refine RW.gl (v := pv1) rfl rfl rfl (q_move rfl) ?_
  refine RW.effg (fun b3 : Nat => (.slice (some ⟨b3, 0, none⟩) 3 3)) (fun b3 => St ⟨w, Φ, []⟩ Φ4 [.row (.slice (some ⟨b3, 0, none⟩) 3 3) 3 1 3 ([.int .i64 2, .int .i64 0, .int .i64 1])]) rfl rfl rfl (e_buildSlice (vals := [(0, .int .i64 2), (1, .int .i64 0), (2, .int .i64 1)]) (cells := [.int .i64 2, .int .i64 0, .int .i64 1]) Try.underlying25 inf3 rfl rfl rfl (by kernel_rfl) rfl) ?_
  intro b3
  refine RW.frz (fun Φ5 hlΦ5 hshi1 => ?_)
  replace hla := hla.mono hlΦ5
  replace hlb := hlb.mono hlΦ5
  replace hpv1 := hpv1.mono hlΦ5
  replace hpv2 := hpv2.mono hlΦ5
  replace hi1 : RepSl Φ5 (([2, 0, 1] : List Int) : List Int) (.slice (some ⟨b3, 0, none⟩) 3 3) := RowS.ints (T := 3) (n := 3) (hshi1) (by decide) (int_wf (by decide))
  refine RW.gl (v := .bool true) rfl rfl rfl (q_call (args := #[pv1, (.slice (some ⟨b3, 0, none⟩) 3 3)]) own18 rfl rfl (fun w1 hw1 => (Same_c w1 Φ5 hw1.phi hpv1 hi1).mono fun e w2 h => ⟨h.1.trans (by rw [sb]), h.2⟩)) ?_
  refine RW.q (v := .bool true) rfl (q_pick rfl (fun hp => pkOrT (q := true) (r := false) hp) (fun hp => pkOrF (q := true) (r := false) hp)) ?_
  refine RW.q (v := .bool true) rfl (q_move rfl) ?_
  refine RW.gl (v := (.slice (some ⟨b1, 0, none⟩) 4 4)) rfl rfl rfl (q_move rfl) ?_
  refine RW.effg (fun x : {y : Value × Hp // (fun r Ψ => RepSl Ψ ([0, 2, 1] : List Int) r) y.1 y.2 ∧ Hp.le Φ5 y.2} => x.1.1) (fun x => St ⟨w, Φ, []⟩ x.1.2 []) rfl rfl rfl (e_callS (T := fun r Ψ => RepSl Ψ ([0, 2, 1] : List Int) r) (args := #[.int .i64 4, (.slice (some ⟨b1, 0, none⟩) 4 4)]) own12 rfl rfl (fun w1 hw1 => by rw [← sm3]; exact (Loop_c w1 Φ5 hw1.phi hla).mono fun _ _ => retS_up (fun _ _ _ hl h => h.mono hl))) ?_
  rintro ⟨⟨lv1, Φ6⟩, hlv1, hlΦ6⟩
  replace hlv1 : RepSl Φ6 ([0, 2, 1] : List Int) lv1 := hlv1
  replace hlΦ6 : Hp.le Φ5 Φ6 := hlΦ6
  replace hla := hla.mono hlΦ6
  replace hlb := hlb.mono hlΦ6
  replace hpv1 := hpv1.mono hlΦ6
  replace hpv2 := hpv2.mono hlΦ6
  replace hi1 := hi1.mono hlΦ6
  refine RW.effg (fun b4 : Nat => (.slice (some ⟨b4, 0, none⟩) 3 3)) (fun b4 => St ⟨w, Φ, []⟩ Φ6 [.row (.slice (some ⟨b4, 0, none⟩) 3 3) 3 1 3 ([.int .i64 0, .int .i64 2, .int .i64 1])]) rfl rfl rfl (e_buildSlice (vals := [(0, .int .i64 0), (1, .int .i64 2), (2, .int .i64 1)]) (cells := [.int .i64 0, .int .i64 2, .int .i64 1]) Try.underlying25 inf3 rfl rfl rfl (by kernel_rfl) rfl) ?_
  intro b4
  refine RW.frz (fun Φ7 hlΦ7 hshi2 => ?_)
  replace hla := hla.mono hlΦ7
  replace hlb := hlb.mono hlΦ7
  replace hpv1 := hpv1.mono hlΦ7
  replace hpv2 := hpv2.mono hlΦ7
  replace hi1 := hi1.mono hlΦ7
  replace hlv1 := hlv1.mono hlΦ7
  replace hi2 : RepSl Φ7 (([0, 2, 1] : List Int) : List Int) (.slice (some ⟨b4, 0, none⟩) 3 3) := RowS.ints (T := 3) (n := 3) (hshi2) (by decide) (int_wf (by decide))
  refine RW.gl (v := .bool true) rfl rfl rfl (q_call (args := #[lv1, (.slice (some ⟨b4, 0, none⟩) 3 3)]) own18 rfl rfl (fun w1 hw1 => (Same_c w1 Φ7 hw1.phi hlv1 hi2).mono fun e w2 h => ⟨h.1.trans (by rw [sb]), h.2⟩)) ?_
  refine RW.q (v := .bool true) rfl (q_pick rfl (fun hp => pkOrT (q := true) (r := false) hp) (fun hp => pkOrF (q := true) (r := false) hp)) ?_
  refine RW.q (v := .bool true) rfl (q_move rfl) ?_
  refine RW.gl (v := .bool true) rfl rfl rfl (q_move rfl) ?_
  refine RW.q (v := .bool true) rfl (q_pick rfl (fun hp => pkOrT (q := true) (r := false) hp) (fun hp => pkOrF (q := true) (r := false) hp)) ?_
  refine RW.q (v := .bool true) rfl (q_move rfl) ?_
  refine RW.gl (v := pv2) rfl rfl rfl (q_move rfl) ?_
  refine RW.effg (fun b5 : Nat => (.slice (some ⟨b5, 0, none⟩) 3 3)) (fun b5 => St ⟨w, Φ, []⟩ Φ7 [.row (.slice (some ⟨b5, 0, none⟩) 3 3) 3 1 3 ([.int .i64 2, .int .i64 1, .int .i64 0])]) rfl rfl rfl (e_buildSlice (vals := [(0, .int .i64 2), (1, .int .i64 1), (2, .int .i64 0)]) (cells := [.int .i64 2, .int .i64 1, .int .i64 0]) Try.underlying25 inf3 rfl rfl rfl (by kernel_rfl) rfl) ?_
  intro b5
  refine RW.frz (fun Φ8 hlΦ8 hshi3 => ?_)
  replace hla := hla.mono hlΦ8
  replace hlb := hlb.mono hlΦ8
  replace hpv1 := hpv1.mono hlΦ8
  replace hpv2 := hpv2.mono hlΦ8
  replace hi1 := hi1.mono hlΦ8
  replace hlv1 := hlv1.mono hlΦ8
  replace hi2 := hi2.mono hlΦ8
  replace hi3 : RepSl Φ8 (([2, 1, 0] : List Int) : List Int) (.slice (some ⟨b5, 0, none⟩) 3 3) := RowS.ints (T := 3) (n := 3) (hshi3) (by decide) (int_wf (by decide))
  refine RW.gl (v := .bool true) rfl rfl rfl (q_call (args := #[pv2, (.slice (some ⟨b5, 0, none⟩) 3 3)]) own18 rfl rfl (fun w1 hw1 => (Same_c w1 Φ8 hw1.phi hpv2 hi3).mono fun e w2 h => ⟨h.1.trans (by rw [sb]), h.2⟩)) ?_
  refine RW.q (v := .bool true) rfl (q_pick rfl (fun hp => pkOrT (q := true) (r := false) hp) (fun hp => pkOrF (q := true) (r := false) hp)) ?_
  refine RW.q (v := .bool true) rfl (q_move rfl) ?_
  refine RW.gl (v := (.slice (some ⟨b1, 0, none⟩) 4 4)) rfl rfl rfl (q_move rfl) ?_
  refine RW.effg (fun x : {y : Value × Hp // (fun r Ψ => RepSl Ψ ([0, 1, 2] : List Int) r) y.1 y.2 ∧ Hp.le Φ8 y.2} => x.1.1) (fun x => St ⟨w, Φ, []⟩ x.1.2 []) rfl rfl rfl (e_callS (T := fun r Ψ => RepSl Ψ ([0, 1, 2] : List Int) r) (args := #[.int .i64 4, (.slice (some ⟨b1, 0, none⟩) 4 4), .int .i64 0]) own19 rfl rfl (fun w1 hw1 => by rw [← sm4]; exact (Down_c w1 Φ8 hw1.phi hla).mono fun _ _ => retS_up (fun _ _ _ hl h => h.mono hl))) ?_
  rintro ⟨⟨lv2, Φ9⟩, hlv2, hlΦ9⟩
  replace hlv2 : RepSl Φ9 ([0, 1, 2] : List Int) lv2 := hlv2
  replace hlΦ9 : Hp.le Φ8 Φ9 := hlΦ9
  replace hla := hla.mono hlΦ9
  replace hlb := hlb.mono hlΦ9
  replace hpv1 := hpv1.mono hlΦ9
  replace hpv2 := hpv2.mono hlΦ9
  replace hi1 := hi1.mono hlΦ9
  replace hlv1 := hlv1.mono hlΦ9
  replace hi2 := hi2.mono hlΦ9
  replace hi3 := hi3.mono hlΦ9
  refine RW.gl (v := .int .i64 ((([0, 1, 2] : List Int).length : Nat) : Int)) rfl rfl rfl (q_len_sl rfl hlv2.sl Try.underlying25) ?_
  refine RW.gl (v := .bool (decide (((([0, 1, 2] : List Int).length : Nat) : Int) = 3))) rfl rfl rfl (q_eql rfl rfl) ?_
  refine RW.q (v := .bool (true && (decide (((([0, 1, 2] : List Int).length : Nat) : Int) = 3)))) rfl (q_pick rfl (fun hp => pkAndT hp) (fun hp => pkAndF hp)) ?_
  refine RW.q (v := .bool (true && (decide (((([0, 1, 2] : List Int).length : Nat) : Int) = 3)))) rfl (q_assign rfl) ?_
  refine RW.nil ?_
  refine Post.then_n ?_
  refine AW.ret ?_
  exact fin_val (v' := .bool (true && (decide (((([0, 1, 2] : List Int).length : Nat) : Int) = 3)))) rfl rfl rfl (by rfl)

end Go.Proofs.Ytjkoojeampaeeaa
