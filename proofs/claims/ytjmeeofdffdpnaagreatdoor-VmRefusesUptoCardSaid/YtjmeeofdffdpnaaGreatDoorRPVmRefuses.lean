/- The statement VmRefusesUptoCardSaid, proved: the row, from the walk, and its card, by the given tie. Conditions: none. By AI agents. -/
import Derived.Test.YtjmeeofdffdpnaaGreatDoorROpG
import Derived.Test.YtjmeeofdffdpnaaGreatDoorCards
import Derived.Test.YtjmeeofdffdpnaaGreatDoorTie
import Derived.Stop.Joined
import Derived.ChangeMaps5
import Derived.Deep.DeepHandedRow
set_option maxRecDepth 8000
set_option maxHeartbeats 16000000
namespace Go.Proofs.YtjmeeofdffdpnaaGreatDoor.vmRefuses
open Go Go.K Go.ChangeShapes Go.WideShapes Go.RowKit Go.ChangeMaps
theorem door_met (os : Os) : laidMetH Tryz.prog Rows.vmRefusesUptoRow.laid ((World.doorLaid Tryz.prog 600 os).forCall (fun _ _ => 0) ⟨#[], #[.agg #[.string ⟨#[]⟩, .slice none 0 0, .int .i64 0, .slice none 0 0, .slice none 0 0, .slice none 0 0, .slice none 0 0, .slice none 0 0, .slice none 0 0, .slice none 0 0, .int .i64 0], .agg #[.slice none 0 0, .slice none 0 0], .agg #[.slice none 0 0, .slice none 0 0, .slice none 0 0, .slice none 0 0, .int .i64 0, .slice none 0 0], .int .i64 0, .int .i64 0, .int .i64 0], []⟩).memory :=
  laidMetH_of_parts3 (fuel := 8) (laidMet_of_run' 8 (by kernel_rfl) (by kernel_rfl)) (by kernel_rfl) (by kernel_rfl)
theorem reads (os : Os) {H : Type} (enc : TypeId × Value → H) : ∃ places, DataW.whole enc Tryz.prog ((World.doorLaid Tryz.prog 600 os).forCall (fun _ _ => 0) ⟨#[], #[.agg #[.string ⟨#[]⟩, .slice none 0 0, .int .i64 0, .slice none 0 0, .slice none 0 0, .slice none 0 0, .slice none 0 0, .slice none 0 0, .slice none 0 0, .slice none 0 0, .int .i64 0], .agg #[.slice none 0 0, .slice none 0 0], .agg #[.slice none 0 0, .slice none 0 0, .slice none 0 0, .slice none 0 0, .int .i64 0, .slice none 0 0], .int .i64 0, .int .i64 0, .int .i64 0], []⟩).memory Tryz.f6.params.toList Rows.vmRefusesSpec.vars false #[.agg #[.string ⟨#[]⟩, .slice none 0 0, .int .i64 0, .slice none 0 0, .slice none 0 0, .slice none 0 0, .slice none 0 0, .slice none 0 0, .slice none 0 0, .slice none 0 0, .int .i64 0], .agg #[.slice none 0 0, .slice none 0 0], .agg #[.slice none 0 0, .slice none 0 0, .slice none 0 0, .slice none 0 0, .int .i64 0, .slice none 0 0], .int .i64 0, .int .i64 0, .int .i64 0].toList 8 = some ([.agg [.lit (.string []), .nil, .lit (.int .i64 0), .nil, .nil, .nil, .nil, .nil, .nil, .nil, .lit (.int .i64 0)], .agg [.nil, .nil], .agg [.nil, .nil, .nil, .nil, .lit (.int .i64 0), .nil], .lit (.int .i64 0), .lit (.int .i64 0), .lit (.int .i64 0)], [], places) :=
  ⟨[], by kernel_rfl⟩
theorem lifted (os : Os) (started : os.Started) (H : Type) (enc : TypeId × Value → H) (F : Stop.Interp) :
    ReturnsInHanded {} Tryz.checked os 6 .any ((Rows.OpenSpec.upto Rows.vmRefusesSpec).preRow enc Tryz.prog Tryz.f6 Rows.vmRefusesUptoRow.domain false Rows.vmRefusesUptoRow.laid) (((Rows.OpenSpec.upto Rows.vmRefusesSpec).at F).post enc Tryz.prog Tryz.f6 false true false false) := by
  obtain ⟨places, hx⟩ := reads os enc
  have hok : Input.okWideB Tryz.prog ((World.doorLaid Tryz.prog 600 os).forCall (fun _ _ => 0) ⟨#[], #[.agg #[.string ⟨#[]⟩, .slice none 0 0, .int .i64 0, .slice none 0 0, .slice none 0 0, .slice none 0 0, .slice none 0 0, .slice none 0 0, .slice none 0 0, .slice none 0 0, .int .i64 0], .agg #[.slice none 0 0, .slice none 0 0], .agg #[.slice none 0 0, .slice none 0 0, .slice none 0 0, .slice none 0 0, .int .i64 0, .slice none 0 0], .int .i64 0, .int .i64 0, .int .i64 0], []⟩) 6 ⟨#[], #[.agg #[.string ⟨#[]⟩, .slice none 0 0, .int .i64 0, .slice none 0 0, .slice none 0 0, .slice none 0 0, .slice none 0 0, .slice none 0 0, .slice none 0 0, .slice none 0 0, .int .i64 0], .agg #[.slice none 0 0, .slice none 0 0], .agg #[.slice none 0 0, .slice none 0 0, .slice none 0 0, .slice none 0 0, .int .i64 0, .slice none 0 0], .int .i64 0, .int .i64 0, .int .i64 0], []⟩ = true := by kernel_rfl
  refine returnsInHanded_of_row (C := Tryz.checked) (s := Rows.OpenSpec.upto Rows.vmRefusesSpec) Tryz.own started (by kernel_rfl) Tryz.func6
    ⟨World.doorLaid Tryz.prog 600 os, fun _ _ => 0, ⟨#[], #[.agg #[.string ⟨#[]⟩, .slice none 0 0, .int .i64 0, .slice none 0 0, .slice none 0 0, .slice none 0 0, .slice none 0 0, .slice none 0 0, .slice none 0 0, .slice none 0 0, .int .i64 0], .agg #[.slice none 0 0, .slice none 0 0], .agg #[.slice none 0 0, .slice none 0 0, .slice none 0 0, .slice none 0 0, .int .i64 0, .slice none 0 0], .int .i64 0, .int .i64 0, .int .i64 0], []⟩, rfl, World.shaped_of_RefB (by kernel_rfl) (by kernel_rfl), (Input.okWide_of_okWideB (base := 0) hok).1, (Input.okWide_of_okWideB hok).2,
      OpenSpec.preRow_of_cond 8 hx (by kernel_rfl) (fun k hk => by cases hk; kernel_rfl) (by kernel_rfl) (door_met os), by
        simp only [Assume.holds]; exact ⟨by simp, by simp, fun _ => Modest.zero, by simp, by simp⟩⟩ ?_
  intro W base args ds gs before hval0 hW _ hcond hsz hL _ _
  have hval : ∀ (j : Nat) t v, Tryz.f6.params[j]? = some t → args[j]? = some v → Value.okWide Tryz.prog W .any base t v := hval0
  have hW' := hW
  obtain ⟨p, q, hA0, hV, rfl, hfz, hnd⟩ := hW'
  have hA : DataW.TrodAll enc Tryz.prog W 0 (fun _ => true) true Tryz.f6.params.toList args.toList ds p := hA0
  rw [Tryz.params6] at hA hval
  obtain ⟨v0, vs0, d0, ds0, p0, q0, hargs, rfl, rfl, h0, r0⟩ := trodAll_cons hA
  obtain ⟨v1, vs1, d1, ds1, p1, q1, rfl, rfl, rfl, h1, r1⟩ := trodAll_cons r0
  obtain ⟨v2, vs2, d2, ds2, p2, q2, rfl, rfl, rfl, h2, r2⟩ := trodAll_cons r1
  obtain ⟨v3, vs3, d3, ds3, p3, q3, rfl, rfl, rfl, h3, r3⟩ := trodAll_cons r2
  obtain ⟨v4, vs4, d4, ds4, p4, q4, rfl, rfl, rfl, h4, r4⟩ := trodAll_cons r3
  obtain ⟨v5, vs5, d5, ds5, p5, q5, rfl, rfl, rfl, h5, r5⟩ := trodAll_cons r4
  obtain ⟨rfl, rfl, rfl⟩ := trodAll_nil r5
  obtain rfl : args = #[v0, v1, v2, v3, v4, v5] := by cases args; simp_all
  obtain ⟨rfl, rfl⟩ := trodVars_none hV
  have hszz : (DataW.weightsEach Tryz.prog (Tryz.f6.params.toList ++ Rows.vmRefusesSpec.plain.varTypes Tryz.prog) ([d0, d1, d2, d3, d4, d5] ++ [])).all (· ≤ reachBytes) = true := hsz
  rw [Tryz.params6] at hszz
  obtain ⟨cs0, rfl, hcs0⟩ := agg_value Tryz.underlying31 (hval 0 31 v0 rfl rfl)
  obtain ⟨n0, g0⟩ := h0
  obtain ⟨bb, be, bps, bk, hb, hpos, hpl, hpm, hpi⟩ := open_basin (enc := enc) ⟨g0, weights_arg 0 hszz rfl rfl⟩
  obtain rfl := hcs0.symm.trans bk
  obtain ⟨cs1, rfl, hcs1⟩ := agg_value Tryz.underlying35 (hval 1 35 v1 rfl rfl)
  obtain ⟨n1, g1⟩ := h1
  obtain ⟨br, fv, cv, rk, hf, hc, hbk⟩ := open_ruleB (enc := enc) ⟨g1, weights_arg 1 hszz rfl rfl⟩
  obtain rfl := hcs1.symm.trans rk
  obtain ⟨cs2, rfl, hcs2⟩ := agg_value Tryz.underlying41 (hval 2 41 v2 rfl rfl)
  obtain ⟨n2, g2⟩ := h2
  obtain ⟨bf, yf, fk, hy, hh⟩ := open_facts (enc := enc) ⟨g2, weights_arg 2 hszz rfl rfl⟩
  obtain rfl := hcs2.symm.trans fk
  obtain ⟨a3, rfl, rfl, rfl, w3⟩ := open_int Tryz.underlying3 (hval 3 3 v3 rfl rfl) h3
  obtain ⟨a4, rfl, rfl, rfl, w4⟩ := open_int Tryz.underlying3 (hval 4 3 v4 rfl rfl) h4
  obtain ⟨a5, rfl, rfl, rfl, w5⟩ := open_int Tryz.underlying3 (hval 5 3 v5 rfl rfl) h5
  have hbulk := of_decide_eq_true (hcond _ rfl)
  simp only [Rows.uptoBulkAll, Rows.uptoBulk, List.cons_append, List.nil_append] at hbulk
  simp only [List.append_nil] at hW
  have hG := knows_glob (glob_of_laid rfl rfl hL)
  have hlen : (Vm.cops br).length ≤ 900000000 := by have h1 := Vm.cops_len br; have h2 : Vm.ndR br ≤ Rows.uptoBulk d1 := hbk; omega
  refine (vmRefuses_c W (hp W) (Hp.le_refl _) hG hb hf hc hlen (by have h9 := w3; simp only [Lit.wf, Bool.and_eq_true, decide_eq_true_eq] at h9; exact h9) (by have h9 := w5; simp only [Lit.wf, Bool.and_eq_true, decide_eq_true_eq] at h9; exact h9)).mono fun e W' ⟨he, hb⟩ => ?_
  subst he
  exact ⟨_, rfl, law_post (s := Rows.vmRefusesSpec) Tryz.laidOut (by kernel_rfl) rfl (by kernel_rfl) Tryz.underlying4 rfl hW hb.toBelow⟩
theorem over : Rows.VmRefusesUptoSaid :=
  OpenClaim.holds_of_cond 6 Tryz.f6 rfl rfl rfl rfl rfl rfl rfl ⟨rfl, rfl, rfl, rfl, rfl⟩ rfl rfl rfl rfl rfl (by kernel_rfl) Tryz.func6 (by kernel_rfl)
    (of_decide_eq_true (by kernel_rfl)) (by unfold Func.isWrapper; first | (rw [if_pos (by decide +kernel)]; kernel_rfl) | (rw [if_neg (by decide +kernel)]; exact ⟨rfl, rfl⟩))
    (fun os started H enc _ F => by rw [OpenClaim.pre_eq_preRow]; exact lifted os started H enc F)
theorem proved : Rows.VmRefusesUptoCardSaid :=
  Claim7.holds_tied_plain_at .later [] [.data, .data, .data] true (true, "3a9b298cca656080979561d3b9ee382d91a255c9b9c7bea6958a82c465f77d92") true
    over (fun _ h => by cases h) (by kernel_rfl) (fun _ h => by cases h) vmRefusesUpto_row_tie rfl ⟨rfl, rfl⟩ (by kernel_rfl) rfl
    (fun f fn hf hfn => by
      obtain rfl : f = 6 := Option.some.inj ((show Tryz.prog.funcNamed "bourne/bournelaw32.VmRefuses" = some 6 by kernel_rfl).symm.trans hf) |>.symm
      obtain rfl : fn = Tryz.f6 := (Option.some.inj (Tryz.func6.symm.trans hfn)).symm
      exact ⟨by kernel_rfl, fun j t ht => by
        rw [Tryz.params6] at ht
        have hm : t ∈ ([31, 35, 41, 3, 3, 3] : List Nat) := by simpa using Array.mem_of_getElem? ht
        have hall : (([31, 35, 41, 3, 3, 3] : List Nat).all fun u => !Tryz.prog.wantsStandIn u) = true := by kernel_rfl
        exact (show Tryz.prog.wantsStandIn t = false by simpa using List.all_eq_true.1 hall t hm)⟩)
    (by kernel_rfl)
end Go.Proofs.YtjmeeofdffdpnaaGreatDoor.vmRefuses
