/- The statement VmShapeUptoCardSaid, proved: the row, from the walk, and its card, by the given tie. Conditions: none. By AI agents. -/
import Derived.Test.YtjmeeofdffdpnaaGreatDoorHOpU
import Derived.Test.YtjmeeofdffdpnaaGreatDoorCards
import Derived.Test.YtjmeeofdffdpnaaGreatDoorTie
import Derived.Stop.Joined
import Derived.ChangeMaps5
import Derived.Deep.DeepHandedRow
set_option maxRecDepth 8000
set_option maxHeartbeats 16000000
namespace Go.Proofs.YtjmeeofdffdpnaaGreatDoor.vmShape
open Go Go.K Go.ChangeShapes Go.WideShapes Go.RowKit Go.ChangeMaps
theorem door_met (os : Os) : laidMetH Tryz.prog Rows.vmShapeUptoRow.laid ((World.doorLaid Tryz.prog 600 os).forCall (fun _ _ => 0) ⟨#[], #[.agg #[.slice none 0 0, .slice none 0 0]], []⟩).memory :=
  laidMetH_of_parts3 (fuel := 8) (laidMet_of_run' 8 (by kernel_rfl) (by kernel_rfl)) (by kernel_rfl) (by kernel_rfl)
theorem reads (os : Os) {H : Type} (enc : TypeId × Value → H) : ∃ places, DataW.whole enc Tryz.prog ((World.doorLaid Tryz.prog 600 os).forCall (fun _ _ => 0) ⟨#[], #[.agg #[.slice none 0 0, .slice none 0 0]], []⟩).memory Tryz.f4.params.toList Rows.vmShapeSpec.vars false #[.agg #[.slice none 0 0, .slice none 0 0]].toList 8 = some ([.agg [.nil, .nil]], [], places) :=
  ⟨[], by kernel_rfl⟩
theorem lifted (os : Os) (started : os.Started) (H : Type) (enc : TypeId × Value → H) (F : Stop.Interp) :
    ReturnsInHanded {} Tryz.checked os 4 .any ((Rows.OpenSpec.upto Rows.vmShapeSpec).preRow enc Tryz.prog Tryz.f4 Rows.vmShapeUptoRow.domain false Rows.vmShapeUptoRow.laid) (((Rows.OpenSpec.upto Rows.vmShapeSpec).at F).post enc Tryz.prog Tryz.f4 false true false false) := by
  obtain ⟨places, hx⟩ := reads os enc
  have hok : Input.okWideB Tryz.prog ((World.doorLaid Tryz.prog 600 os).forCall (fun _ _ => 0) ⟨#[], #[.agg #[.slice none 0 0, .slice none 0 0]], []⟩) 4 ⟨#[], #[.agg #[.slice none 0 0, .slice none 0 0]], []⟩ = true := by kernel_rfl
  refine returnsInHanded_of_row (C := Tryz.checked) (s := Rows.OpenSpec.upto Rows.vmShapeSpec) Tryz.own started (by kernel_rfl) Tryz.func4
    ⟨World.doorLaid Tryz.prog 600 os, fun _ _ => 0, ⟨#[], #[.agg #[.slice none 0 0, .slice none 0 0]], []⟩, rfl, World.shaped_of_RefB (by kernel_rfl) (by kernel_rfl), (Input.okWide_of_okWideB (base := 0) hok).1, (Input.okWide_of_okWideB hok).2,
      OpenSpec.preRow_of_cond 8 hx (by kernel_rfl) (fun k hk => by cases hk; kernel_rfl) (by kernel_rfl) (door_met os), by
        simp only [Assume.holds]; exact ⟨by simp, by simp, fun _ => Modest.zero, by simp, by simp⟩⟩ ?_
  intro W base args ds gs before hval0 hW _ hcond hsz hL _ _
  have hval : ∀ (j : Nat) t v, Tryz.f4.params[j]? = some t → args[j]? = some v → Value.okWide Tryz.prog W .any base t v := hval0
  have hW' := hW
  obtain ⟨p, q, hA0, hV, rfl, hfz, hnd⟩ := hW'
  have hA : DataW.TrodAll enc Tryz.prog W 0 (fun _ => true) true Tryz.f4.params.toList args.toList ds p := hA0
  rw [Tryz.params4] at hA hval
  obtain ⟨v0, vs0, d0, ds0, p0, q0, hargs, rfl, rfl, h0, r0⟩ := trodAll_cons hA
  obtain ⟨rfl, rfl, rfl⟩ := trodAll_nil r0
  obtain rfl : args = #[v0] := by cases args; simp_all
  obtain ⟨rfl, rfl⟩ := trodVars_none hV
  have hszz : (DataW.weightsEach Tryz.prog (Tryz.f4.params.toList ++ Rows.vmShapeSpec.plain.varTypes Tryz.prog) ([d0] ++ [])).all (· ≤ reachBytes) = true := hsz
  rw [Tryz.params4] at hszz
  obtain ⟨cs0, rfl, hcs0⟩ := agg_value Tryz.underlying35 (hval 0 35 v0 rfl rfl)
  obtain ⟨n0, g0⟩ := h0
  obtain ⟨br, fv, cv, rk, hf, hc, hbk⟩ := open_ruleB (enc := enc) ⟨g0, weights_arg 0 hszz rfl rfl⟩
  obtain rfl := hcs0.symm.trans rk
  have hbulk := of_decide_eq_true (hcond _ rfl)
  simp only [Rows.uptoBulkAll, List.cons_append, List.nil_append] at hbulk
  simp only [List.append_nil] at hW
  have hG := knows_glob (glob_of_laid rfl rfl hL)
  have hlen : (Vm.cops br).length ≤ 900000000 := by have h1 := Vm.cops_len br; have h2 : Vm.ndR br ≤ Rows.uptoBulk d0 := hbk; omega
  refine (vmShape_c W hG hf hc hlen).mono fun e W' ⟨he, hb⟩ => ?_
  subst he
  exact ⟨_, rfl, law_post (s := Rows.vmShapeSpec) Tryz.laidOut (by kernel_rfl) rfl (by kernel_rfl) Tryz.underlying4 rfl hW hb.toBelow⟩
theorem over : Rows.VmShapeUptoSaid :=
  OpenClaim.holds_of_cond 4 Tryz.f4 rfl rfl rfl rfl rfl rfl rfl ⟨rfl, rfl, rfl, rfl, rfl⟩ rfl rfl rfl rfl rfl (by kernel_rfl) Tryz.func4 (by kernel_rfl)
    (of_decide_eq_true (by kernel_rfl)) (by unfold Func.isWrapper; first | (rw [if_pos (by decide +kernel)]; kernel_rfl) | (rw [if_neg (by decide +kernel)]; exact ⟨rfl, rfl⟩))
    (fun os started H enc _ F => by rw [OpenClaim.pre_eq_preRow]; exact lifted os started H enc F)
theorem proved : Rows.VmShapeUptoCardSaid :=
  Claim7.holds_tied_plain_at .later [] [.data, .data, .data] true (true, "3a9b298cca656080979561d3b9ee382d91a255c9b9c7bea6958a82c465f77d92") true
    over (fun _ h => by cases h) (by kernel_rfl) (fun _ h => by cases h) vmShapeUpto_row_tie rfl ⟨rfl, rfl⟩ (by kernel_rfl) rfl
    (fun f fn hf hfn => by
      obtain rfl : f = 4 := Option.some.inj ((show Tryz.prog.funcNamed "bourne/bournelaw32.VmShape" = some 4 by kernel_rfl).symm.trans hf) |>.symm
      obtain rfl : fn = Tryz.f4 := (Option.some.inj (Tryz.func4.symm.trans hfn)).symm
      exact ⟨by kernel_rfl, fun j t ht => by
        rw [Tryz.params4] at ht
        have hm : t ∈ ([35] : List Nat) := by simpa using Array.mem_of_getElem? ht
        have hall : (([35] : List Nat).all fun u => !Tryz.prog.wantsStandIn u) = true := by kernel_rfl
        exact (show Tryz.prog.wantsStandIn t = false by simpa using List.all_eq_true.1 hall t hm)⟩)
    (by kernel_rfl)
end Go.Proofs.YtjmeeofdffdpnaaGreatDoor.vmShape
