/- The statement FuseSendsSaid, proved: the row, from the walk. Conditions: none. By AI agents. -/
import Derived.Test.YtblfeidlnhdekaaGreatSOpen
import Derived.Test.YtblfeidlnhdekaaGreatSLawS
set_option maxRecDepth 8000
set_option maxHeartbeats 16000000
namespace Go.Proofs.YtblfeidlnhdekaaGreat.fuseSends
open Go Go.K Go.ChangeShapes Go.WideShapes Go.RowKit

theorem lit64 {a : Int} (h : (Lit.int .i64 a).wf = true) : I64 a := by
  simp [Lit.wf, IntKind.min, IntKind.max, IntKind.bits, IntKind.signed] at h
  unfold I64; omega

theorem lifted (os : Os) (started : os.Started) (H : Type) (enc : TypeId × Value → H) :
    ReturnsInHanded {} Tryz.checked os 3 .any (Rows.fuseSendsSpec.pre6 enc Tryz.prog Tryz.f3 Rows.fuseSendsRow.domain false) (Rows.fuseSendsSpec.post enc Tryz.prog Tryz.f3 false true false false) := by
  refine returnsInHanded_of_change_sized (C := Tryz.checked) Tryz.own started (by kernel_rfl) Tryz.func3
    (ChangeSpec.witness6 (enc := enc) (C := Tryz.checked) false ⟨#[], #[.agg #[.string ⟨#[]⟩, .slice none 0 0, .int .i64 0, .slice none 0 0, .slice none 0 0, .slice none 0 0, .slice none 0 0, .slice none 0 0, .slice none 0 0, .slice none 0 0, .int .i64 0], .agg #[.int .i64 0, .slice none 0 0, .slice none 0 0, .slice none 0 0, .slice none 0 0, .slice none 0 0, .slice none 0 0], .agg #[.int .i64 0, .slice none 0 0, .slice none 0 0, .slice none 0 0], .slice none 0 0, .int .i64 0], []⟩ 8 (by kernel_rfl) (by kernel_rfl) (by kernel_rfl) (by kernel_rfl)) ?_
  intro W base args ds gs before hval0 hW hcnd hsz _
  have hval : ∀ (j : Nat) t v, Tryz.f3.params[j]? = some t → args[j]? = some v → Value.okWide Tryz.prog W .any base t v := hval0
  have hW' := hW
  obtain ⟨p, q, hA0, hV, rfl, hfz, hnd⟩ := hW
  have hA : DataW.TrodAll enc Tryz.prog W 0 (fun _ => true) true Tryz.f3.params.toList args.toList ds p := hA0
  rw [Tryz.params3] at hA hval
  obtain ⟨v0, vs0, d0, ds0, p0, q0, hargs, rfl, rfl, h0, r0⟩ := trodAll_cons hA
  obtain ⟨v1, vs1, d1, ds1, p1, q1, rfl, rfl, rfl, h1, r1⟩ := trodAll_cons r0
  obtain ⟨v2, vs2, d2, ds2, p2, q2, rfl, rfl, rfl, h2, r2⟩ := trodAll_cons r1
  obtain ⟨v3, vs3, d3, ds3, p3, q3, rfl, rfl, rfl, h3, r3⟩ := trodAll_cons r2
  obtain ⟨v4, vs4, d4, ds4, p4, q4, rfl, rfl, rfl, h4, r4⟩ := trodAll_cons r3
  obtain ⟨rfl, rfl, rfl⟩ := trodAll_nil r4
  obtain rfl : args = #[v0, v1, v2, v3, v4] := by cases args; simp_all
  obtain ⟨rfl, rfl⟩ := trodVars_none hV
  have hszz : (DataW.weightsEach Tryz.prog (Tryz.f3.params.toList ++ Rows.fuseSendsSpec.plain.varTypes Tryz.prog) ([d0, d1, d2, d3, d4] ++ [])).all (· ≤ reachBytes) = true := hsz
  rw [Tryz.params3] at hszz
  obtain ⟨cs0, rfl, hcs0⟩ := agg_value Tryz.underlying31 (hval 0 31 v0 rfl rfl)
  obtain ⟨xs0, x0⟩ := open_agg opens31 h0 (weights_arg 0 hszz rfl rfl)
  obtain ⟨cs1, rfl, hcs1⟩ := agg_value Tryz.underlying36 (hval 1 36 v1 rfl rfl)
  obtain ⟨xs1, x1⟩ := open_agg opens36 h1 (weights_arg 1 hszz rfl rfl)
  obtain ⟨cs2, rfl, hcs2⟩ := agg_value Tryz.underlying41 (hval 2 41 v2 rfl rfl)
  obtain ⟨xs2, x2⟩ := open_agg opens41 h2 (weights_arg 2 hszz rfl rfl)
  obtain ⟨xs3, x3⟩ := open_arg opens42 h3 (weights_arg 3 hszz rfl rfl) (slice_cells Tryz.underlying42 (hval 3 42 v3 rfl rfl))
  obtain ⟨a4, rfl, rfl, rfl, w4⟩ := open_int Tryz.underlying3 (hval 4 3 v4 rfl rfl) h4
  simp only [List.append_nil] at hW'
  refine (FuseSends_c W (hp W) (Hp.le_refl _) x0 x1 x2 x3 (lit64 w4)).mono fun e W' ⟨he, hb⟩ => ?_
  subst he
  exact ⟨_, rfl, law_post Tryz.laidOut (by kernel_rfl) rfl (by kernel_rfl) Tryz.underlying4 rfl hW' hb.toBelow⟩

theorem over : Rows.fuseSendsRow.holds Tryz.pinned (OpenSpec.ofChange Rows.fuseSendsSpec) :=
  OpenClaim.holds_of_wide 3 Tryz.f3 rfl rfl rfl rfl rfl rfl rfl ⟨rfl, rfl, rfl, rfl, rfl⟩ rfl rfl rfl rfl rfl (by kernel_rfl) Tryz.func3 (by kernel_rfl)
    (of_decide_eq_true (by kernel_rfl)) (by unfold Func.isWrapper; first | (rw [if_pos (by decide +kernel)]; kernel_rfl) | (rw [if_neg (by decide +kernel)]; exact ⟨rfl, rfl⟩))
    (fun os started H enc _ => lifted os started H enc)

theorem proved : Rows.FuseSendsSaid := over
end Go.Proofs.YtblfeidlnhdekaaGreat.fuseSends
