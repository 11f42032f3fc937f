/- The statement FuseTruthSaid, proved: the row, from the walk. Conditions: none. By AI agents. -/
import Derived.Test.YtblfeidlnhdekaaXOpen
import Derived.Test.YtblfeidlnhdekaaXLawE
import Derived.Test.YtblfeidlnhdekaaRows
namespace Go.Proofs.Ytblfeidlnhdekaa.fuseTruth
open Go Go.K Go.ChangeShapes Go.WideShapes Go.RowKit

set_option maxRecDepth 100000 in
theorem lifted (os : Os) (started : os.Started) (H : Type) (enc : TypeId × Value → H) :
    ReturnsInHanded {} Try.checked os 7 .any (Rows.fuseTruthSpec.pre6 enc Try.prog Try.f7 Rows.fuseTruthRow.domain false) (Rows.fuseTruthSpec.post enc Try.prog Try.f7 false true false false) := by
  refine returnsInHanded_of_change_sized (C := Try.checked) Try.own started (by kernel_rfl) Try.func7
    (ChangeSpec.witness6 (enc := enc) (C := Try.checked) false ⟨#[], #[.agg #[.string ⟨#[]⟩, .slice none 0 0, .int .i64 0, .slice none 0 0, .slice none 0 0, .slice none 0 0, .slice none 0 0, .slice none 0 0, .slice none 0 0, .slice none 0 0, .int .i64 0], .agg #[.int .i64 0, .slice none 0 0, .slice none 0 0, .slice none 0 0, .slice none 0 0, .slice none 0 0, .slice none 0 0], .agg #[.int .i64 0, .slice none 0 0, .slice none 0 0, .slice none 0 0], .slice none 0 0], []⟩ 8 (by kernel_rfl) (by kernel_rfl) (by kernel_rfl) (by kernel_rfl)) ?_
  intro W base args ds gs before hval0 hW hcnd hsz _
  have hval : ∀ (j : Nat) t v, Try.f7.params[j]? = some t → args[j]? = some v → Value.okWide Try.prog W .any base t v := hval0
  have hW' := hW
  obtain ⟨p, q, hA0, hV, rfl, hfz, hnd⟩ := hW
  have hA : DataW.TrodAll enc Try.prog W 0 (fun _ => true) true Try.f7.params.toList args.toList ds p := hA0
  rw [Try.params7] at hA hval
  obtain ⟨v0, vs0, d0, ds0, p0, q0, hargs, rfl, rfl, h0, r0⟩ := trodAll_cons hA
  obtain ⟨v1, vs1, d1, ds1, p1, q1, rfl, rfl, rfl, h1, r1⟩ := trodAll_cons r0
  obtain ⟨v2, vs2, d2, ds2, p2, q2, rfl, rfl, rfl, h2, r2⟩ := trodAll_cons r1
  obtain ⟨v3, vs3, d3, ds3, p3, q3, rfl, rfl, rfl, h3, r3⟩ := trodAll_cons r2
  obtain ⟨rfl, rfl, rfl⟩ := trodAll_nil r3
  obtain rfl : args = #[v0, v1, v2, v3] := by cases args; simp_all
  obtain ⟨rfl, rfl⟩ := trodVars_none hV
  have hszz : (DataW.weightsEach Try.prog (Try.f7.params.toList ++ Rows.fuseTruthSpec.plain.varTypes Try.prog) ([d0, d1, d2, d3] ++ [])).all (· ≤ reachBytes) = true := hsz
  rw [Try.params7] at hszz
  obtain ⟨cs0, rfl, hcs0⟩ := agg_value Try.underlying31 (hval 0 31 v0 rfl rfl)
  obtain ⟨xs0, x0⟩ := open_agg opens31 h0 (weights_arg 0 hszz rfl rfl)
  obtain ⟨cs1, rfl, hcs1⟩ := agg_value Try.underlying70 (hval 1 70 v1 rfl rfl)
  obtain ⟨xs1, x1⟩ := open_agg opens70 h1 (weights_arg 1 hszz rfl rfl)
  obtain ⟨cs2, rfl, hcs2⟩ := agg_value Try.underlying36 (hval 2 36 v2 rfl rfl)
  obtain ⟨xs2, x2⟩ := open_agg opens36 h2 (weights_arg 2 hszz rfl rfl)
  obtain ⟨xs3, x3⟩ := open_arg opens71 h3 (weights_arg 3 hszz rfl rfl) (slice_cells Try.underlying71 (hval 3 71 v3 rfl rfl))
  simp only [List.append_nil] at hW'
  refine (FuseTruth_c W (hp W) (Hp.le_refl _) x0 x1 x2 x3).mono fun e W' ⟨he, hb⟩ => ?_
  subst he
  exact ⟨_, rfl, law_post Try.laidOut (by kernel_rfl) rfl (by kernel_rfl) Try.underlying4 rfl hW' hb.toBelow⟩

theorem over : Rows.fuseTruthRow.holds Try.pinned (OpenSpec.ofChange Rows.fuseTruthSpec) :=
  OpenClaim.holds_of_wide 7 Try.f7 rfl rfl rfl rfl rfl rfl rfl ⟨rfl, rfl, rfl, rfl, rfl⟩ rfl rfl rfl rfl rfl (by kernel_rfl) Try.func7 (by kernel_rfl)
    (of_decide_eq_true (by kernel_rfl)) (by unfold Func.isWrapper; first | (rw [if_pos (by decide +kernel)]; kernel_rfl) | (rw [if_neg (by decide +kernel)]; exact ⟨rfl, rfl⟩))
    (fun os started H enc _ => lifted os started H enc)

theorem proved : Rows.FuseTruthSaid := over
end Go.Proofs.Ytblfeidlnhdekaa.fuseTruth
