/- The statement VmMeansCardSaid, proved: the row, from the walk, and its card, by the given tie. Conditions: none. By AI agents. -/
import Derived.Test.YtjmeeofdffdpnaaGreatDoorMVxJ
import Derived.Test.YtjmeeofdffdpnaaGreatDoorCards
import Derived.Test.YtjmeeofdffdpnaaGreatDoorTie
import Derived.Test.YtjmeeofdffdpnaaGreatDoorMOpF
import Derived.Stop.Joined
import Derived.ChangeMaps5
import Derived.Deep.DeepHandedRow
set_option maxRecDepth 8000
set_option maxHeartbeats 16000000
namespace Go.Proofs.YtjmeeofdffdpnaaGreatDoor.vmMeans
open Go Go.K Go.ChangeShapes Go.WideShapes Go.RowKit Go.ChangeMaps
theorem door_met (os : Os) (args : Array Value) : laidMetH Tryz.prog Rows.vmMeansRow.laid ((World.doorLaid Tryz.prog 600 os).forCall (fun _ _ => 0) ⟨#[], args, []⟩).memory :=
 laidMetH_of_parts3 (fuel := 8) (laidMet_of_run' 8 (by kernel_rfl) (by kernel_rfl)) (by kernel_rfl) (by kernel_rfl)
theorem lifted (os : Os) (started : os.Started) (H : Type) (enc : TypeId × Value → H) :
   ReturnsInHanded {} Tryz.checked os 7 .any (fun w args => (Rows.vmMeansSpec.pre enc Tryz.prog Tryz.f7 [] false w args ∧ laidMetH Tryz.prog Rows.vmMeansRow.laid w) ∧ sizedMet enc Tryz.prog Tryz.f7 (OpenSpec.ofChange Rows.vmMeansSpec) false w args)
     (Rows.vmMeansSpec.post enc Tryz.prog Tryz.f7 false true false false) := by
 refine returnsInHanded_of_change_and (C := Tryz.checked) (X := fun w _ => laidMetH Tryz.prog Rows.vmMeansRow.laid w) (fun _ _ _ hh h => h.of_heap hh) Tryz.own started (by kernel_rfl) Tryz.func7
   (ChangeSpec.witness_shaped (enc := enc) (C := Tryz.checked) (os := os) (X := fun w _ => laidMetH Tryz.prog Rows.vmMeansRow.laid w) false (World.doorLaid Tryz.prog 600 os) #[.agg #[.string ⟨#[]⟩, .slice none 0 0, .int .i64 0, .slice none 0 0, .slice none 0 0, .slice none 0 0, .slice none 0 0, .slice none 0 0, .slice none 0 0, .slice none 0 0, .int .i64 0], .agg #[.slice none 0 0, .slice none 0 0], .agg #[.slice none 0 0, .slice none 0 0, .slice none 0 0, .slice none 0 0, .int .i64 0, .slice none 0 0]] 8 rfl (World.shaped_of_RefB (by kernel_rfl) (by kernel_rfl)) (by kernel_rfl) (by kernel_rfl) (by kernel_rfl) (door_met os _)) ?_
 intro W base args ds gs before hval0 hW _ hsz hL _
 have hval : ∀ (j : Nat) t v, Tryz.f7.params[j]? = some t → args[j]? = some v → Value.okWide Tryz.prog W .any base t v := hval0
 have hW' := hW
 obtain ⟨p, q, hA0, hV, rfl, hfz, hnd⟩ := hW'
 have hA : DataW.TrodAll enc Tryz.prog W 0 (fun _ => true) true Tryz.f7.params.toList args.toList ds p := hA0
 rw [Tryz.params7] at hA hval
 obtain ⟨v0, vs0, d0, ds0, p0, q0, hargs, rfl, rfl, h0, r0⟩ := trodAll_cons hA
 obtain ⟨v1, vs1, d1, ds1, p1, q1, rfl, rfl, rfl, h1, r1⟩ := trodAll_cons r0
 obtain ⟨v2, vs2, d2, ds2, p2, q2, rfl, rfl, rfl, h2, r2⟩ := trodAll_cons r1
 obtain ⟨rfl, rfl, rfl⟩ := trodAll_nil r2
 obtain rfl : args = #[v0, v1, v2] := by cases args; simp_all
 obtain ⟨rfl, rfl⟩ := trodVars_none hV
 have hszz : (DataW.weightsEach Tryz.prog (Tryz.f7.params.toList ++ Rows.vmMeansSpec.plain.varTypes Tryz.prog) ([d0, d1, d2] ++ [])).all (· ≤ reachBytes) = true := hsz
 rw [Tryz.params7] at hszz
 obtain ⟨cs0, rfl, hcs0⟩ := agg_value Tryz.underlying31 (hval 0 31 v0 rfl rfl)
 obtain ⟨n0, g0⟩ := h0
 obtain ⟨bb, be, bps, bk, hb, hpos, hpl, hpm, hpi⟩ := open_basin (enc := enc) ⟨g0, weights_arg 0 hszz rfl rfl⟩
 obtain rfl := hcs0.symm.trans bk
 obtain ⟨cs1, rfl, hcs1⟩ := agg_value Tryz.underlying35 (hval 1 35 v1 rfl rfl)
 obtain ⟨n1, g1⟩ := h1
 obtain ⟨br, fv, cv, rk, hf, hc⟩ := open_rule (enc := enc) ⟨g1, weights_arg 1 hszz rfl rfl⟩
 obtain rfl := hcs1.symm.trans rk
 obtain ⟨cs2, rfl, hcs2⟩ := agg_value Tryz.underlying41 (hval 2 41 v2 rfl rfl)
 obtain ⟨n2, g2⟩ := h2
 obtain ⟨bf, yf, fk, hy, hh⟩ := open_facts (enc := enc) ⟨g2, weights_arg 2 hszz rfl rfl⟩
 obtain rfl := hcs2.symm.trans fk
 simp only [List.append_nil] at hW
 have hG := knows_glob (glob_of_laid rfl rfl hL)
 refine (vmMeans_c W (hp W) (Hp.le_refl _) hG hb hpos hpl hpm hpi hf hc hy hh).mono fun e W' ⟨he, hb⟩ => ?_
 subst he
 exact ⟨_, rfl, law_post Tryz.laidOut (by kernel_rfl) rfl (by kernel_rfl) Tryz.underlying4 rfl hW hb.toBelow⟩
theorem over : Rows.vmMeansRow.holds Tryz.pinned (OpenSpec.ofChange Rows.vmMeansSpec) :=
 OpenClaim.holds_of_wide 7 Tryz.f7 rfl rfl rfl rfl rfl rfl rfl ⟨rfl, rfl, rfl, rfl, rfl⟩ rfl rfl rfl rfl rfl (by kernel_rfl) Tryz.func7 (by kernel_rfl)
   (of_decide_eq_true (by kernel_rfl)) (by unfold Func.isWrapper; first | (rw [if_pos (by decide +kernel)]; kernel_rfl) | (rw [if_neg (by decide +kernel)]; exact ⟨rfl, rfl⟩))
   (fun os started H enc _ => lifted os started H enc)
theorem proved : Rows.VmMeansCardSaid :=
 Claim7.holds_tied_plain_at .later [] [.data, .data, .data] true (true, "3a9b298cca656080979561d3b9ee382d91a255c9b9c7bea6958a82c465f77d92") true
   over (fun _ h => by cases h) (by kernel_rfl) (fun _ h => by cases h) vmMeans_row_tie rfl ⟨rfl, rfl⟩ (by kernel_rfl) rfl
   (fun f fn hf hfn => by
     obtain rfl : f = 7 := Option.some.inj ((show Tryz.prog.funcNamed "bourne/bournelaw32.VmMeans" = some 7 by kernel_rfl).symm.trans hf) |>.symm
     obtain rfl : fn = Tryz.f7 := (Option.some.inj (Tryz.func7.symm.trans hfn)).symm
     exact ⟨by kernel_rfl, fun j t ht => by
       rw [Tryz.params7] at ht
       have hm : t ∈ ([31, 35, 41] : List Nat) := by simpa using Array.mem_of_getElem? ht
       have hall : (([31, 35, 41] : List Nat).all fun u => !Tryz.prog.wantsStandIn u) = true := by kernel_rfl
       exact (show Tryz.prog.wantsStandIn t = false by simpa using List.all_eq_true.1 hall t hm)⟩)
   (by kernel_rfl)
end Go.Proofs.YtjmeeofdffdpnaaGreatDoor.vmMeans
