/- Lemmas. Conditions: those of each theorem. -/
import Derived.Test.YtblfeidlnhdekaaGreatSWalkM
set_option maxRecDepth 8000
set_option maxHeartbeats 16000000
namespace Go.Proofs.YtblfeidlnhdekaaGreat
open Go Go.K Go.RowKit
attribute [local irreducible] AW RW DW Post Qt
theorem hourOf {Φ : Hp} {h : Bt.Hull} {cs : List Value} (hH : RepV Φ h cs) : I64 h.Hour := by
 obtain ⟨_, _, _, _, hw, _⟩ := (show Rep.rep Φ h cs from hH)
 exact hw
def PT0 : List Bt.Point := [(⟨0, 0⟩ : Bt.Point), (⟨100, 50⟩ : Bt.Point)]
def PL0 : List Bt.Place := [(⟨(bs ([])), 0, 0, 0, PT0, [], 0, 0, 0, 0, 0, []⟩ : Bt.Place)]
def GA0 : List Bt.Gauge := [(⟨(bs ([])), 0, 0, 0, 0⟩ : Bt.Gauge)]
def BA0 : Bt.Basin := ⟨(bs ([])), [], 0, PL0, [], [], GA0, [], [], [], 0⟩
def VO0 : List Bt.Span := [(⟨20, 80⟩ : Bt.Span)]
def HU0 : Bt.Hull := ⟨7, VO0, [], []⟩
def RD1 : List Bt.Reading := [(⟨0, 7, ⟨10, 20⟩⟩ : Bt.Reading)]
def RD2 : List Bt.Reading := [(⟨0, 7, ⟨45, 50⟩⟩ : Bt.Reading)]
def RD3 : List Bt.Reading := [(⟨0, 8, ⟨45, 50⟩⟩ : Bt.Reading)]
def GA1 : List Bt.Gauge := [(⟨(bs ([])), 0, 0, 0, 0⟩ : Bt.Gauge), (⟨(bs ([])), 0, 0, 0, 0⟩ : Bt.Gauge)]
def NA1 : List Int := [0]
def NA2 : List Int := [0, 1]
def NA3 : List Int := [1, 0]
def HI1 : List (List (Int)) := [NA1, NA2, NA3]
def BA1 : Bt.Basin := ⟨(bs ([])), [], 0, [], [], [], GA1, [], [], [], 0⟩
def NA4 : List Int := [0]
def NA5 : List Int := [0]
def HI2 : List (List (Int)) := [NA4, NA5]
theorem small_c (w : World) (Φ : Hp) (hΦ : Hp.le Φ (hp w))  :
  Calls pg 4 #[] w fun e w' => e = .returned (.bool true) ∧ Bel w.heap.size w w' := by
 refine in0 165 Tryz.func4 rfl rfl hΦ ?_
 refine gs7 ?_
 refine RW.q (v := .agg #[iV 0, iV 0]) rfl (q_build (vals := [(0, iV 0), (1, iV 0)]) zero67 uT67 places67 rfl rfl) (RW.q (v := .agg #[iV 100, iV 50]) rfl (q_build (vals := [(0, iV 100), (1, iV 50)]) zero67 uT67 places67 rfl rfl) (RW.eff (fun b1 : Nat => (.slice (some ⟨b1, 0, none⟩) 2 2)) (fun b1 => St ⟨w, Φ, []⟩ Φ [.row (.slice (some ⟨b1, 0, none⟩) 2 2) 67 2 2 ([iV 0, iV 0, iV 100, iV 50])]) rfl (e_buildSlice (vals := [(0, .agg #[iV 0, iV 0]), (1, .agg #[iV 100, iV 50])]) (cells := [iV 0, iV 0, iV 100, iV 50]) uT68 inf67 rfl rfl rfl (by kernel_rfl) rfl) ?_))
 intro b1
 refine RW.frz (fun Φ1 hlΦ1 hshPT0 => ?_)
 replace hPT0 : RepSl Φ1 PT0 (.slice (some ⟨b1, 0, none⟩) 2 2) := RowS.reps (xs := PT0) (cs := [[iV 0, iV 0], [iV 100, iV 50]]) hshPT0 rfl ⟨⟨rfl, (by unfold I64; decide)⟩, ⟨rfl, (by unfold I64; decide)⟩, trivial⟩ rfl (by decide)
 refine RW.q (v := .agg #[.string (bs ([])), iV 0, iV 0, iV 0, (.slice (some ⟨b1, 0, none⟩) 2 2), nS, iV 0, iV 0, iV 0, iV 0, iV 0, nS]) rfl (q_build (vals := [(4, (.slice (some ⟨b1, 0, none⟩) 2 2))]) zero71 uT71 places71 rfl rfl) (RW.eff (fun b2 : Nat => (.slice (some ⟨b2, 0, none⟩) 1 1)) (fun b2 => St ⟨w, Φ, []⟩ Φ1 [.row (.slice (some ⟨b2, 0, none⟩) 1 1) 71 12 1 ([.string (bs ([])), iV 0, iV 0, iV 0, (.slice (some ⟨b1, 0, none⟩) 2 2), nS, iV 0, iV 0, iV 0, iV 0, iV 0, nS])]) rfl (e_buildSlice (vals := [(0, .agg #[.string (bs ([])), iV 0, iV 0, iV 0, (.slice (some ⟨b1, 0, none⟩) 2 2), nS, iV 0, iV 0, iV 0, iV 0, iV 0, nS])]) (cells := [.string (bs ([])), iV 0, iV 0, iV 0, (.slice (some ⟨b1, 0, none⟩) 2 2), nS, iV 0, iV 0, iV 0, iV 0, iV 0, nS]) uT23 inf71 rfl rfl rfl (by kernel_rfl) rfl) ?_)
 intro b2
 refine RW.frz (fun Φ2 hlΦ2 hshPL0 => ?_)
 replace hPT0 := hPT0.mono hlΦ2
 replace hPL0 : RepSl Φ2 PL0 (.slice (some ⟨b2, 0, none⟩) 1 1) := RowS.reps (xs := PL0) (cs := [[.string (bs ([])), iV 0, iV 0, iV 0, (.slice (some ⟨b1, 0, none⟩) 2 2), nS, iV 0, iV 0, iV 0, iV 0, iV 0, nS]]) hshPL0 rfl ⟨⟨_, _, _, rfl, (by unfold I64; decide), hPT0, repSl_nil, repSl_nil⟩, trivial⟩ rfl (by decide)
 refine RW.q (v := .agg #[.string (bs ([])), iV 0, iV 0, iV 0, iV 0]) rfl (q_build (vals := []) zero49 uT49 places49 rfl rfl) (RW.eff (fun b3 : Nat => (.slice (some ⟨b3, 0, none⟩) 1 1)) (fun b3 => St ⟨w, Φ, []⟩ Φ2 [.row (.slice (some ⟨b3, 0, none⟩) 1 1) 49 5 1 ([.string (bs ([])), iV 0, iV 0, iV 0, iV 0])]) rfl (e_buildSlice (vals := [(0, .agg #[.string (bs ([])), iV 0, iV 0, iV 0, iV 0])]) (cells := [.string (bs ([])), iV 0, iV 0, iV 0, iV 0]) uT26 inf49 rfl rfl rfl (by kernel_rfl) rfl) ?_)
 intro b3
 refine RW.frz (fun Φ3 hlΦ3 hshGA0 => ?_)
 replace hPT0 := hPT0.mono hlΦ3
 replace hPL0 := hPL0.mono hlΦ3
 replace hGA0 : RepSl Φ3 GA0 (.slice (some ⟨b3, 0, none⟩) 1 1) := RowS.reps (xs := GA0) (cs := [[.string (bs ([])), iV 0, iV 0, iV 0, iV 0]]) hshGA0 rfl ⟨⟨rfl, (by unfold I64; decide)⟩, trivial⟩ rfl (by decide)
 refine RW.q (v := .agg #[.string (bs ([])), nS, iV 0, (.slice (some ⟨b2, 0, none⟩) 1 1), nS, nS, (.slice (some ⟨b3, 0, none⟩) 1 1), nS, nS, nS, iV 0]) rfl (q_build (vals := [(3, (.slice (some ⟨b2, 0, none⟩) 1 1)), (6, (.slice (some ⟨b3, 0, none⟩) 1 1))]) zero31 uT31 places31 rfl rfl) ?_
 refine RW.alc rfl fun b4 => ?_
 refine gs4 ?_
 have hBA0 : RepV Φ3 BA0 [.string (bs ([])), nS, iV 0, (.slice (some ⟨b2, 0, none⟩) 1 1), nS, nS, (.slice (some ⟨b3, 0, none⟩) 1 1), nS, nS, nS, iV 0] := ⟨_, _, _, _, _, _, _, _, rfl, (by unfold I64; decide), repSl_nil, hPL0, repSl_nil, repSl_nil, hGA0, repSl_nil, repSl_nil, repSl_nil⟩
 refine gs1 ?_
 refine RW.q (v := .agg #[iV 20, iV 80]) rfl (q_build (vals := [(0, iV 20), (1, iV 80)]) zero51 uT51 places51 rfl rfl) (RW.eff (fun b5 : Nat => (.slice (some ⟨b5, 0, none⟩) 1 1)) (fun b5 => St ⟨w, Φ, []⟩ Φ3 [.row (.slice (some ⟨b5, 0, none⟩) 1 1) 51 2 1 ([iV 20, iV 80]), .blk b4 31 [.string (bs ([])), nS, iV 0, (.slice (some ⟨b2, 0, none⟩) 1 1), nS, nS, (.slice (some ⟨b3, 0, none⟩) 1 1), nS, nS, nS, iV 0]]) rfl (e_buildSlice (vals := [(0, .agg #[iV 20, iV 80])]) (cells := [iV 20, iV 80]) uT37 inf51 rfl rfl rfl (by kernel_rfl) rfl) ?_)
 intro b5
 refine RW.frz (fun Φ4 hlΦ4 hshVO0 => ?_)
 replace hPT0 := hPT0.mono hlΦ4
 replace hPL0 := hPL0.mono hlΦ4
 replace hGA0 := hGA0.mono hlΦ4
 replace hBA0 := hBA0.mono hlΦ4
 replace hVO0 : RepSl Φ4 VO0 (.slice (some ⟨b5, 0, none⟩) 1 1) := RowS.reps (xs := VO0) (cs := [[iV 20, iV 80]]) hshVO0 rfl ⟨⟨rfl, (by unfold I64; decide)⟩, trivial⟩ rfl (by decide)
 refine RW.q (v := .agg #[iV 7, (.slice (some ⟨b5, 0, none⟩) 1 1), nS, nS]) rfl (q_build (vals := [(0, iV 7), (1, (.slice (some ⟨b5, 0, none⟩) 1 1))]) zero41 uT41 places41 rfl rfl) ?_
 refine RW.alc rfl fun b6 => ?_
 refine gs4 ?_
 have hHU0 : RepV Φ4 HU0 [iV 7, (.slice (some ⟨b5, 0, none⟩) 1 1), nS, nS] := ⟨_, _, _, rfl, (by unfold I64; decide), hVO0, repSl_nil, repSl_nil⟩
 refine gs2 ?_
 refine RW.q (v := .agg #[iV 10, iV 20]) rfl (q_build (vals := [(0, iV 10), (1, iV 20)]) zero51 uT51 places51 rfl rfl) (RW.q (v := .agg #[iV 0, iV 0, iV 10, iV 20]) rfl (q_build (vals := [(2, .agg #[iV 10, iV 20])]) zero53 uT53 places53 rfl rfl) (RW.c rfl (fun w1 hw1 => Volume_c w1 (Go.K.hp w1) (Hp.le_refl _) (hBA0.mono hw1.phi) (r := (⟨0, 0, ⟨10, 20⟩⟩ : Bt.Reading)) (by unfold I64; decide)) rfl rfl (RW.q rfl (q_move rfl) ?_)))
 refine gs1 ?_
 refine RW.q (v := .bool true) rfl (q_as (v := .bool ((Fu.volR BA0 (⟨0, 0, ⟨10, 20⟩⟩ : Bt.Reading)).isSome)) (q_extract rfl rfl) (congrArg Value.bool (by decide +kernel))) ?_
 refine RW.alc rfl fun b7 => ?_
 refine gs7 ?_
 refine RW.q (v := .agg #[iV 50, iV 60]) rfl (q_build (vals := [(0, iV 50), (1, iV 60)]) zero51 uT51 places51 rfl rfl) (RW.q (v := .agg #[iV 0, iV 0, iV 50, iV 60]) rfl (q_build (vals := [(2, .agg #[iV 50, iV 60])]) zero53 uT53 places53 rfl rfl) (RW.c rfl (fun w1 hw1 => Volume_c w1 (Go.K.hp w1) (Hp.le_refl _) (hBA0.mono hw1.phi) (r := (⟨0, 0, ⟨50, 60⟩⟩ : Bt.Reading)) (by unfold I64; decide)) rfl rfl (RW.q rfl (q_move rfl) ?_)))
 refine gs1 ?_
 refine RW.q (v := .bool true) rfl (q_as (v := .bool ((Fu.volR BA0 (⟨0, 0, ⟨50, 60⟩⟩ : Bt.Reading)).isSome)) (q_extract rfl rfl) (congrArg Value.bool (by decide +kernel))) ?_
 refine RW.alc rfl fun b8 => ?_
 refine gs7 ?_
 refine RW.q (v := .agg #[iV 51, iV 60]) rfl (q_build (vals := [(0, iV 51), (1, iV 60)]) zero51 uT51 places51 rfl rfl) (RW.q (v := .agg #[iV 0, iV 0, iV 51, iV 60]) rfl (q_build (vals := [(2, .agg #[iV 51, iV 60])]) zero53 uT53 places53 rfl rfl) (RW.c rfl (fun w1 hw1 => Volume_c w1 (Go.K.hp w1) (Hp.le_refl _) (hBA0.mono hw1.phi) (r := (⟨0, 0, ⟨51, 60⟩⟩ : Bt.Reading)) (by unfold I64; decide)) rfl rfl (RW.q rfl (q_move rfl) ?_)))
 refine gs1 ?_
 refine RW.q (v := .bool false) rfl (q_as (v := .bool ((Fu.volR BA0 (⟨0, 0, ⟨51, 60⟩⟩ : Bt.Reading)).isSome)) (q_extract rfl rfl) (congrArg Value.bool (by decide +kernel))) ?_
 refine RW.alc rfl fun b9 => ?_
 refine gs8 ?_
 refine RW.q (v := .agg #[iV 10, iV 20]) rfl (q_build (vals := [(0, iV 10), (1, iV 20)]) zero51 uT51 places51 rfl rfl) (RW.q (v := .agg #[iV 0, iV 7, iV 10, iV 20]) rfl (q_build (vals := [(1, iV 7), (2, .agg #[iV 10, iV 20])]) zero53 uT53 places53 rfl rfl) (RW.eff (fun b10 : Nat => (.slice (some ⟨b10, 0, none⟩) 1 1)) (fun b10 => St ⟨w, Φ, []⟩ Φ4 [.row (.slice (some ⟨b10, 0, none⟩) 1 1) 53 4 1 ([iV 0, iV 7, iV 10, iV 20]), .blk b9 51 [iV (Fu.loOf (Fu.volR BA0 (⟨0, 0, ⟨51, 60⟩⟩ : Bt.Reading))), iV (Fu.hiOf (Fu.volR BA0 (⟨0, 0, ⟨51, 60⟩⟩ : Bt.Reading)))], .blk b8 51 [iV (Fu.loOf (Fu.volR BA0 (⟨0, 0, ⟨50, 60⟩⟩ : Bt.Reading))), iV (Fu.hiOf (Fu.volR BA0 (⟨0, 0, ⟨50, 60⟩⟩ : Bt.Reading)))], .blk b7 51 [iV (Fu.loOf (Fu.volR BA0 (⟨0, 0, ⟨10, 20⟩⟩ : Bt.Reading))), iV (Fu.hiOf (Fu.volR BA0 (⟨0, 0, ⟨10, 20⟩⟩ : Bt.Reading)))], .blk b6 41 [iV 7, (.slice (some ⟨b5, 0, none⟩) 1 1), nS, nS], .blk b4 31 [.string (bs ([])), nS, iV 0, (.slice (some ⟨b2, 0, none⟩) 1 1), nS, nS, (.slice (some ⟨b3, 0, none⟩) 1 1), nS, nS, nS, iV 0]]) rfl (e_buildSlice (vals := [(0, .agg #[iV 0, iV 7, iV 10, iV 20])]) (cells := [iV 0, iV 7, iV 10, iV 20]) uT58 inf53 rfl rfl rfl (by kernel_rfl) rfl) ?_))
 intro b10
 refine RW.frz (fun Φ5 hlΦ5 hshRD1 => ?_)
 replace hPT0 := hPT0.mono hlΦ5
 replace hPL0 := hPL0.mono hlΦ5
 replace hGA0 := hGA0.mono hlΦ5
 replace hBA0 := hBA0.mono hlΦ5
 replace hVO0 := hVO0.mono hlΦ5
 replace hHU0 := hHU0.mono hlΦ5
 replace hRD1 : RepSl Φ5 RD1 (.slice (some ⟨b10, 0, none⟩) 1 1) := RowS.reps (xs := RD1) (cs := [[iV 0, iV 7, iV 10, iV 20]]) hshRD1 rfl ⟨⟨rfl, (by unfold I64; decide)⟩, trivial⟩ rfl (by decide)
 refine RW.eff (fun x : {z : (Value × Value × Value × Value) × Hp // (fun (y : Value × Value × Value × Value) (Ψ : Hp) => (RepSl Ψ (Fu.fuse BA0 HU0 RD1).V y.1) ∧ (RepSl Ψ HU0.Queue y.2.1) ∧ (RepSl Ψ (Fu.fuse BA0 HU0 RD1).K y.2.2.1) ∧ (RepSl Ψ (Fu.comp (Fu.fuse BA0 HU0 RD1).N) y.2.2.2) ∧ (RepV Ψ (Fu.hullOf HU0 (Fu.fuse BA0 HU0 RD1)) [iV HU0.Hour, y.1, y.2.1, y.2.2.1])) z.1 z.2 ∧ Hp.le Φ5 z.2} => .tuple #[.agg #[iV HU0.Hour, x.1.1.1, x.1.1.2.1, x.1.1.2.2.1], x.1.1.2.2.2]) (fun x => St ⟨w, Φ, []⟩ x.1.2 [.blk b9 51 [iV (Fu.loOf (Fu.volR BA0 (⟨0, 0, ⟨51, 60⟩⟩ : Bt.Reading))), iV (Fu.hiOf (Fu.volR BA0 (⟨0, 0, ⟨51, 60⟩⟩ : Bt.Reading)))], .blk b8 51 [iV (Fu.loOf (Fu.volR BA0 (⟨0, 0, ⟨50, 60⟩⟩ : Bt.Reading))), iV (Fu.hiOf (Fu.volR BA0 (⟨0, 0, ⟨50, 60⟩⟩ : Bt.Reading)))], .blk b7 51 [iV (Fu.loOf (Fu.volR BA0 (⟨0, 0, ⟨10, 20⟩⟩ : Bt.Reading))), iV (Fu.hiOf (Fu.volR BA0 (⟨0, 0, ⟨10, 20⟩⟩ : Bt.Reading)))], .blk b6 41 [iV 7, (.slice (some ⟨b5, 0, none⟩) 1 1), nS, nS], .blk b4 31 [.string (bs ([])), nS, iV 0, (.slice (some ⟨b2, 0, none⟩) 1 1), nS, nS, (.slice (some ⟨b3, 0, none⟩) 1 1), nS, nS, nS, iV 0]]) rfl (e_callX (fun (y : Value × Value × Value × Value) => .tuple #[.agg #[iV HU0.Hour, y.1, y.2.1, y.2.2.1], y.2.2.2]) (fun (y : Value × Value × Value × Value) (Ψ : Hp) => (RepSl Ψ (Fu.fuse BA0 HU0 RD1).V y.1) ∧ (RepSl Ψ HU0.Queue y.2.1) ∧ (RepSl Ψ (Fu.fuse BA0 HU0 RD1).K y.2.2.1) ∧ (RepSl Ψ (Fu.comp (Fu.fuse BA0 HU0 RD1).N) y.2.2.2) ∧ (RepV Ψ (Fu.hullOf HU0 (Fu.fuse BA0 HU0 RD1)) [iV HU0.Hour, y.1, y.2.1, y.2.2.1])) (args := #[.agg #[.string (bs ([])), nS, iV 0, (.slice (some ⟨b2, 0, none⟩) 1 1), nS, nS, (.slice (some ⟨b3, 0, none⟩) 1 1), nS, nS, nS, iV 0], .agg #[iV 7, (.slice (some ⟨b5, 0, none⟩) 1 1), nS, nS], (.slice (some ⟨b10, 0, none⟩) 1 1)]) oK rfl rfl (fun w1 hw1 => ((((Fuse_c w1 (Go.K.hp w1) (Hp.le_refl _) (hBA0.mono hw1.phi) (hHU0.mono hw1.phi) (hRD1.mono hw1.phi) (by decide) (by decide) (by decide) (by decide)).mono fun _ _ => retS_up (fun _ _ _ hl ⟨a, b, c, d, e, h1, h2, h3, h4⟩ => ⟨a, b, c, d, e, h1.mono hl, h2.mono hl, h3.mono hl, h4.mono hl⟩))).mono fun e w2 hr => by obtain ⟨v9, he9, hb9, u1, u2, u3, u4, hr9, q1, q2, q3, q4⟩ := hr; exact (show RetS _ _ (fun r Ψ => ∃ u1 u2 u3 u4 : Value, r = .tuple #[.agg #[iV HU0.Hour, u1, u2, u3], u4] ∧ RepSl Ψ (Fu.fuse BA0 HU0 RD1).V u1 ∧ RepSl Ψ HU0.Queue u2 ∧ RepSl Ψ (Fu.fuse BA0 HU0 RD1).K u3 ∧ RepSl Ψ (Fu.comp (Fu.fuse BA0 HU0 RD1).N) u4 ∧ RepV Ψ (Fu.hullOf HU0 (Fu.fuse BA0 HU0 RD1)) [iV HU0.Hour, u1, u2, u3]) _ _ from ⟨v9, he9, hb9, u1, u2, u3, u4, hr9, q1, q2, q3, q4, ⟨_, _, _, rfl, (show I64 HU0.Hour from hourOf hHU0), q1, q2, q3⟩⟩)).mono fun e w2 hr => by obtain ⟨v9, he9, hb9, u1, u2, u3, u4, hr9, q1, q2, q3, q4, q5⟩ := hr; exact ⟨v9, he9, hb9, (u1, u2, u3, u4), hr9, q1, q2, q3, q4, q5⟩)) ?_
 rintro ⟨⟨⟨fv1, fv2, fv3, fv4⟩, Φ6⟩, ⟨kfv1, kfv2, kfv3, kfv4, Hfv1⟩, hlΦ6⟩
 replace kfv1 : RepSl Φ6 (Fu.fuse BA0 HU0 RD1).V fv1 := kfv1
 replace kfv2 : RepSl Φ6 HU0.Queue fv2 := kfv2
 replace kfv3 : RepSl Φ6 (Fu.fuse BA0 HU0 RD1).K fv3 := kfv3
 replace kfv4 : RepSl Φ6 (Fu.comp (Fu.fuse BA0 HU0 RD1).N) fv4 := kfv4
 replace Hfv1 : RepV Φ6 (Fu.hullOf HU0 (Fu.fuse BA0 HU0 RD1)) [iV HU0.Hour, fv1, fv2, fv3] := Hfv1
 replace hlΦ6 : Hp.le Φ5 Φ6 := hlΦ6
 replace hPT0 := hPT0.mono hlΦ6
 replace hPL0 := hPL0.mono hlΦ6
 replace hGA0 := hGA0.mono hlΦ6
 replace hBA0 := hBA0.mono hlΦ6
 replace hVO0 := hVO0.mono hlΦ6
 replace hHU0 := hHU0.mono hlΦ6
 replace hRD1 := hRD1.mono hlΦ6
 refine RW.q rfl (q_move rfl) ?_
 refine gs2 ?_
 refine RW.alc rfl fun b11 => ?_
 refine RW.effn (J' := St ⟨w, Φ, []⟩ Φ6 [.blk b11 41 [iV HU0.Hour, fv1, fv2, fv3], .blk b9 51 [iV (Fu.loOf (Fu.volR BA0 (⟨0, 0, ⟨51, 60⟩⟩ : Bt.Reading))), iV (Fu.hiOf (Fu.volR BA0 (⟨0, 0, ⟨51, 60⟩⟩ : Bt.Reading)))], .blk b8 51 [iV (Fu.loOf (Fu.volR BA0 (⟨0, 0, ⟨50, 60⟩⟩ : Bt.Reading))), iV (Fu.hiOf (Fu.volR BA0 (⟨0, 0, ⟨50, 60⟩⟩ : Bt.Reading)))], .blk b7 51 [iV (Fu.loOf (Fu.volR BA0 (⟨0, 0, ⟨10, 20⟩⟩ : Bt.Reading))), iV (Fu.hiOf (Fu.volR BA0 (⟨0, 0, ⟨10, 20⟩⟩ : Bt.Reading)))], .blk b6 41 [iV 7, (.slice (some ⟨b5, 0, none⟩) 1 1), nS, nS], .blk b4 31 [.string (bs ([])), nS, iV 0, (.slice (some ⟨b2, 0, none⟩) 1 1), nS, nS, (.slice (some ⟨b3, 0, none⟩) 1 1), nS, nS, nS, iV 0]]) (e_store (v := .agg #[iV HU0.Hour, fv1, fv2, fv3]) 0 rfl rfl rfl sz41 rfl (by show List.all [_, fv1, fv2, fv3] _ = true; simp only [List.all_cons, List.all_nil, oneCell_sl kfv1.sl, oneCell_sl kfv2.sl, oneCell_sl kfv3.sl]; rfl) rfl rfl rfl) ?_
 refine gs7 ?_
 refine RW.q (v := .agg #[iV 45, iV 50]) rfl (q_build (vals := [(0, iV 45), (1, iV 50)]) zero51 uT51 places51 rfl rfl) (RW.q (v := .agg #[iV 0, iV 7, iV 45, iV 50]) rfl (q_build (vals := [(1, iV 7), (2, .agg #[iV 45, iV 50])]) zero53 uT53 places53 rfl rfl) (RW.eff (fun b12 : Nat => (.slice (some ⟨b12, 0, none⟩) 1 1)) (fun b12 => St ⟨w, Φ, []⟩ Φ6 [.row (.slice (some ⟨b12, 0, none⟩) 1 1) 53 4 1 ([iV 0, iV 7, iV 45, iV 50]), .blk b11 41 [iV HU0.Hour, fv1, fv2, fv3], .blk b9 51 [iV (Fu.loOf (Fu.volR BA0 (⟨0, 0, ⟨51, 60⟩⟩ : Bt.Reading))), iV (Fu.hiOf (Fu.volR BA0 (⟨0, 0, ⟨51, 60⟩⟩ : Bt.Reading)))], .blk b8 51 [iV (Fu.loOf (Fu.volR BA0 (⟨0, 0, ⟨50, 60⟩⟩ : Bt.Reading))), iV (Fu.hiOf (Fu.volR BA0 (⟨0, 0, ⟨50, 60⟩⟩ : Bt.Reading)))], .blk b7 51 [iV (Fu.loOf (Fu.volR BA0 (⟨0, 0, ⟨10, 20⟩⟩ : Bt.Reading))), iV (Fu.hiOf (Fu.volR BA0 (⟨0, 0, ⟨10, 20⟩⟩ : Bt.Reading)))], .blk b6 41 [iV 7, (.slice (some ⟨b5, 0, none⟩) 1 1), nS, nS], .blk b4 31 [.string (bs ([])), nS, iV 0, (.slice (some ⟨b2, 0, none⟩) 1 1), nS, nS, (.slice (some ⟨b3, 0, none⟩) 1 1), nS, nS, nS, iV 0]]) rfl (e_buildSlice (vals := [(0, .agg #[iV 0, iV 7, iV 45, iV 50])]) (cells := [iV 0, iV 7, iV 45, iV 50]) uT58 inf53 rfl rfl rfl (by kernel_rfl) rfl) ?_))
 intro b12
 refine RW.frz (fun Φ7 hlΦ7 hshRD2 => ?_)
 replace hPT0 := hPT0.mono hlΦ7
 replace hPL0 := hPL0.mono hlΦ7
 replace hGA0 := hGA0.mono hlΦ7
 replace hBA0 := hBA0.mono hlΦ7
 replace hVO0 := hVO0.mono hlΦ7
 replace hHU0 := hHU0.mono hlΦ7
 replace hRD1 := hRD1.mono hlΦ7
 replace kfv1 := kfv1.mono hlΦ7
 replace kfv2 := kfv2.mono hlΦ7
 replace kfv3 := kfv3.mono hlΦ7
 replace kfv4 := kfv4.mono hlΦ7
 replace Hfv1 := Hfv1.mono hlΦ7
 replace hRD2 : RepSl Φ7 RD2 (.slice (some ⟨b12, 0, none⟩) 1 1) := RowS.reps (xs := RD2) (cs := [[iV 0, iV 7, iV 45, iV 50]]) hshRD2 rfl ⟨⟨rfl, (by unfold I64; decide)⟩, trivial⟩ rfl (by decide)
 refine RW.eff (fun x : {z : (Value × Value × Value × Value) × Hp // (fun (y : Value × Value × Value × Value) (Ψ : Hp) => (RepSl Ψ (Fu.fuse BA0 HU0 RD2).V y.1) ∧ (RepSl Ψ HU0.Queue y.2.1) ∧ (RepSl Ψ (Fu.fuse BA0 HU0 RD2).K y.2.2.1) ∧ (RepSl Ψ (Fu.comp (Fu.fuse BA0 HU0 RD2).N) y.2.2.2) ∧ (RepV Ψ (Fu.hullOf HU0 (Fu.fuse BA0 HU0 RD2)) [iV HU0.Hour, y.1, y.2.1, y.2.2.1])) z.1 z.2 ∧ Hp.le Φ7 z.2} => .tuple #[.agg #[iV HU0.Hour, x.1.1.1, x.1.1.2.1, x.1.1.2.2.1], x.1.1.2.2.2]) (fun x => St ⟨w, Φ, []⟩ x.1.2 [.blk b11 41 [iV HU0.Hour, fv1, fv2, fv3], .blk b9 51 [iV (Fu.loOf (Fu.volR BA0 (⟨0, 0, ⟨51, 60⟩⟩ : Bt.Reading))), iV (Fu.hiOf (Fu.volR BA0 (⟨0, 0, ⟨51, 60⟩⟩ : Bt.Reading)))], .blk b8 51 [iV (Fu.loOf (Fu.volR BA0 (⟨0, 0, ⟨50, 60⟩⟩ : Bt.Reading))), iV (Fu.hiOf (Fu.volR BA0 (⟨0, 0, ⟨50, 60⟩⟩ : Bt.Reading)))], .blk b7 51 [iV (Fu.loOf (Fu.volR BA0 (⟨0, 0, ⟨10, 20⟩⟩ : Bt.Reading))), iV (Fu.hiOf (Fu.volR BA0 (⟨0, 0, ⟨10, 20⟩⟩ : Bt.Reading)))], .blk b6 41 [iV 7, (.slice (some ⟨b5, 0, none⟩) 1 1), nS, nS], .blk b4 31 [.string (bs ([])), nS, iV 0, (.slice (some ⟨b2, 0, none⟩) 1 1), nS, nS, (.slice (some ⟨b3, 0, none⟩) 1 1), nS, nS, nS, iV 0]]) rfl (e_callX (fun (y : Value × Value × Value × Value) => .tuple #[.agg #[iV HU0.Hour, y.1, y.2.1, y.2.2.1], y.2.2.2]) (fun (y : Value × Value × Value × Value) (Ψ : Hp) => (RepSl Ψ (Fu.fuse BA0 HU0 RD2).V y.1) ∧ (RepSl Ψ HU0.Queue y.2.1) ∧ (RepSl Ψ (Fu.fuse BA0 HU0 RD2).K y.2.2.1) ∧ (RepSl Ψ (Fu.comp (Fu.fuse BA0 HU0 RD2).N) y.2.2.2) ∧ (RepV Ψ (Fu.hullOf HU0 (Fu.fuse BA0 HU0 RD2)) [iV HU0.Hour, y.1, y.2.1, y.2.2.1])) (args := #[.agg #[.string (bs ([])), nS, iV 0, (.slice (some ⟨b2, 0, none⟩) 1 1), nS, nS, (.slice (some ⟨b3, 0, none⟩) 1 1), nS, nS, nS, iV 0], .agg #[iV 7, (.slice (some ⟨b5, 0, none⟩) 1 1), nS, nS], (.slice (some ⟨b12, 0, none⟩) 1 1)]) oK rfl rfl (fun w1 hw1 => ((((Fuse_c w1 (Go.K.hp w1) (Hp.le_refl _) (hBA0.mono hw1.phi) (hHU0.mono hw1.phi) (hRD2.mono hw1.phi) (by decide) (by decide) (by decide) (by decide)).mono fun _ _ => retS_up (fun _ _ _ hl ⟨a, b, c, d, e, h1, h2, h3, h4⟩ => ⟨a, b, c, d, e, h1.mono hl, h2.mono hl, h3.mono hl, h4.mono hl⟩))).mono fun e w2 hr => by obtain ⟨v9, he9, hb9, u1, u2, u3, u4, hr9, q1, q2, q3, q4⟩ := hr; exact (show RetS _ _ (fun r Ψ => ∃ u1 u2 u3 u4 : Value, r = .tuple #[.agg #[iV HU0.Hour, u1, u2, u3], u4] ∧ RepSl Ψ (Fu.fuse BA0 HU0 RD2).V u1 ∧ RepSl Ψ HU0.Queue u2 ∧ RepSl Ψ (Fu.fuse BA0 HU0 RD2).K u3 ∧ RepSl Ψ (Fu.comp (Fu.fuse BA0 HU0 RD2).N) u4 ∧ RepV Ψ (Fu.hullOf HU0 (Fu.fuse BA0 HU0 RD2)) [iV HU0.Hour, u1, u2, u3]) _ _ from ⟨v9, he9, hb9, u1, u2, u3, u4, hr9, q1, q2, q3, q4, ⟨_, _, _, rfl, (show I64 HU0.Hour from hourOf hHU0), q1, q2, q3⟩⟩)).mono fun e w2 hr => by obtain ⟨v9, he9, hb9, u1, u2, u3, u4, hr9, q1, q2, q3, q4, q5⟩ := hr; exact ⟨v9, he9, hb9, (u1, u2, u3, u4), hr9, q1, q2, q3, q4, q5⟩)) ?_
 rintro ⟨⟨⟨fv5, fv6, fv7, fv8⟩, Φ8⟩, ⟨kfv5, kfv6, kfv7, kfv8, Hfv5⟩, hlΦ8⟩
 replace kfv5 : RepSl Φ8 (Fu.fuse BA0 HU0 RD2).V fv5 := kfv5
 replace kfv6 : RepSl Φ8 HU0.Queue fv6 := kfv6
 replace kfv7 : RepSl Φ8 (Fu.fuse BA0 HU0 RD2).K fv7 := kfv7
 replace kfv8 : RepSl Φ8 (Fu.comp (Fu.fuse BA0 HU0 RD2).N) fv8 := kfv8
 replace Hfv5 : RepV Φ8 (Fu.hullOf HU0 (Fu.fuse BA0 HU0 RD2)) [iV HU0.Hour, fv5, fv6, fv7] := Hfv5
 replace hlΦ8 : Hp.le Φ7 Φ8 := hlΦ8
 replace hPT0 := hPT0.mono hlΦ8
 replace hPL0 := hPL0.mono hlΦ8
 replace hGA0 := hGA0.mono hlΦ8
 replace hBA0 := hBA0.mono hlΦ8
 replace hVO0 := hVO0.mono hlΦ8
 replace hHU0 := hHU0.mono hlΦ8
 replace hRD1 := hRD1.mono hlΦ8
 replace kfv1 := kfv1.mono hlΦ8
 replace kfv2 := kfv2.mono hlΦ8
 replace kfv3 := kfv3.mono hlΦ8
 replace kfv4 := kfv4.mono hlΦ8
 replace Hfv1 := Hfv1.mono hlΦ8
 replace hRD2 := hRD2.mono hlΦ8
 refine RW.q rfl (q_move rfl) ?_
 refine gs2 ?_
 refine RW.alc rfl fun b13 => ?_
 refine RW.effn (J' := St ⟨w, Φ, []⟩ Φ8 [.blk b13 41 [iV HU0.Hour, fv5, fv6, fv7], .blk b11 41 [iV HU0.Hour, fv1, fv2, fv3], .blk b9 51 [iV (Fu.loOf (Fu.volR BA0 (⟨0, 0, ⟨51, 60⟩⟩ : Bt.Reading))), iV (Fu.hiOf (Fu.volR BA0 (⟨0, 0, ⟨51, 60⟩⟩ : Bt.Reading)))], .blk b8 51 [iV (Fu.loOf (Fu.volR BA0 (⟨0, 0, ⟨50, 60⟩⟩ : Bt.Reading))), iV (Fu.hiOf (Fu.volR BA0 (⟨0, 0, ⟨50, 60⟩⟩ : Bt.Reading)))], .blk b7 51 [iV (Fu.loOf (Fu.volR BA0 (⟨0, 0, ⟨10, 20⟩⟩ : Bt.Reading))), iV (Fu.hiOf (Fu.volR BA0 (⟨0, 0, ⟨10, 20⟩⟩ : Bt.Reading)))], .blk b6 41 [iV 7, (.slice (some ⟨b5, 0, none⟩) 1 1), nS, nS], .blk b4 31 [.string (bs ([])), nS, iV 0, (.slice (some ⟨b2, 0, none⟩) 1 1), nS, nS, (.slice (some ⟨b3, 0, none⟩) 1 1), nS, nS, nS, iV 0]]) (e_store (v := .agg #[iV HU0.Hour, fv5, fv6, fv7]) 0 rfl rfl rfl sz41 rfl (by show List.all [_, fv5, fv6, fv7] _ = true; simp only [List.all_cons, List.all_nil, oneCell_sl kfv5.sl, oneCell_sl kfv6.sl, oneCell_sl kfv7.sl]; rfl) rfl rfl rfl) ?_
 refine gs7 ?_
 refine RW.q (v := .agg #[iV 45, iV 50]) rfl (q_build (vals := [(0, iV 45), (1, iV 50)]) zero51 uT51 places51 rfl rfl) (RW.q (v := .agg #[iV 0, iV 8, iV 45, iV 50]) rfl (q_build (vals := [(1, iV 8), (2, .agg #[iV 45, iV 50])]) zero53 uT53 places53 rfl rfl) (RW.eff (fun b14 : Nat => (.slice (some ⟨b14, 0, none⟩) 1 1)) (fun b14 => St ⟨w, Φ, []⟩ Φ8 [.row (.slice (some ⟨b14, 0, none⟩) 1 1) 53 4 1 ([iV 0, iV 8, iV 45, iV 50]), .blk b13 41 [iV HU0.Hour, fv5, fv6, fv7], .blk b11 41 [iV HU0.Hour, fv1, fv2, fv3], .blk b9 51 [iV (Fu.loOf (Fu.volR BA0 (⟨0, 0, ⟨51, 60⟩⟩ : Bt.Reading))), iV (Fu.hiOf (Fu.volR BA0 (⟨0, 0, ⟨51, 60⟩⟩ : Bt.Reading)))], .blk b8 51 [iV (Fu.loOf (Fu.volR BA0 (⟨0, 0, ⟨50, 60⟩⟩ : Bt.Reading))), iV (Fu.hiOf (Fu.volR BA0 (⟨0, 0, ⟨50, 60⟩⟩ : Bt.Reading)))], .blk b7 51 [iV (Fu.loOf (Fu.volR BA0 (⟨0, 0, ⟨10, 20⟩⟩ : Bt.Reading))), iV (Fu.hiOf (Fu.volR BA0 (⟨0, 0, ⟨10, 20⟩⟩ : Bt.Reading)))], .blk b6 41 [iV 7, (.slice (some ⟨b5, 0, none⟩) 1 1), nS, nS], .blk b4 31 [.string (bs ([])), nS, iV 0, (.slice (some ⟨b2, 0, none⟩) 1 1), nS, nS, (.slice (some ⟨b3, 0, none⟩) 1 1), nS, nS, nS, iV 0]]) rfl (e_buildSlice (vals := [(0, .agg #[iV 0, iV 8, iV 45, iV 50])]) (cells := [iV 0, iV 8, iV 45, iV 50]) uT58 inf53 rfl rfl rfl (by kernel_rfl) rfl) ?_))
 intro b14
 refine RW.frz (fun Φ9 hlΦ9 hshRD3 => ?_)
 replace hPT0 := hPT0.mono hlΦ9
 replace hPL0 := hPL0.mono hlΦ9
 replace hGA0 := hGA0.mono hlΦ9
 replace hBA0 := hBA0.mono hlΦ9
 replace hVO0 := hVO0.mono hlΦ9
 replace hHU0 := hHU0.mono hlΦ9
 replace hRD1 := hRD1.mono hlΦ9
 replace kfv1 := kfv1.mono hlΦ9
 replace kfv2 := kfv2.mono hlΦ9
 replace kfv3 := kfv3.mono hlΦ9
 replace kfv4 := kfv4.mono hlΦ9
 replace Hfv1 := Hfv1.mono hlΦ9
 replace hRD2 := hRD2.mono hlΦ9
 replace kfv5 := kfv5.mono hlΦ9
 replace kfv6 := kfv6.mono hlΦ9
 replace kfv7 := kfv7.mono hlΦ9
 replace kfv8 := kfv8.mono hlΦ9
 replace Hfv5 := Hfv5.mono hlΦ9
 replace hRD3 : RepSl Φ9 RD3 (.slice (some ⟨b14, 0, none⟩) 1 1) := RowS.reps (xs := RD3) (cs := [[iV 0, iV 8, iV 45, iV 50]]) hshRD3 rfl ⟨⟨rfl, (by unfold I64; decide)⟩, trivial⟩ rfl (by decide)
 refine RW.eff (fun x : {z : (Value × Value × Value × Value) × Hp // (fun (y : Value × Value × Value × Value) (Ψ : Hp) => (RepSl Ψ (Fu.fuse BA0 HU0 RD3).V y.1) ∧ (RepSl Ψ HU0.Queue y.2.1) ∧ (RepSl Ψ (Fu.fuse BA0 HU0 RD3).K y.2.2.1) ∧ (RepSl Ψ (Fu.comp (Fu.fuse BA0 HU0 RD3).N) y.2.2.2) ∧ (RepV Ψ (Fu.hullOf HU0 (Fu.fuse BA0 HU0 RD3)) [iV HU0.Hour, y.1, y.2.1, y.2.2.1])) z.1 z.2 ∧ Hp.le Φ9 z.2} => .tuple #[.agg #[iV HU0.Hour, x.1.1.1, x.1.1.2.1, x.1.1.2.2.1], x.1.1.2.2.2]) (fun x => St ⟨w, Φ, []⟩ x.1.2 [.blk b13 41 [iV HU0.Hour, fv5, fv6, fv7], .blk b11 41 [iV HU0.Hour, fv1, fv2, fv3], .blk b9 51 [iV (Fu.loOf (Fu.volR BA0 (⟨0, 0, ⟨51, 60⟩⟩ : Bt.Reading))), iV (Fu.hiOf (Fu.volR BA0 (⟨0, 0, ⟨51, 60⟩⟩ : Bt.Reading)))], .blk b8 51 [iV (Fu.loOf (Fu.volR BA0 (⟨0, 0, ⟨50, 60⟩⟩ : Bt.Reading))), iV (Fu.hiOf (Fu.volR BA0 (⟨0, 0, ⟨50, 60⟩⟩ : Bt.Reading)))], .blk b7 51 [iV (Fu.loOf (Fu.volR BA0 (⟨0, 0, ⟨10, 20⟩⟩ : Bt.Reading))), iV (Fu.hiOf (Fu.volR BA0 (⟨0, 0, ⟨10, 20⟩⟩ : Bt.Reading)))], .blk b6 41 [iV 7, (.slice (some ⟨b5, 0, none⟩) 1 1), nS, nS], .blk b4 31 [.string (bs ([])), nS, iV 0, (.slice (some ⟨b2, 0, none⟩) 1 1), nS, nS, (.slice (some ⟨b3, 0, none⟩) 1 1), nS, nS, nS, iV 0]]) rfl (e_callX (fun (y : Value × Value × Value × Value) => .tuple #[.agg #[iV HU0.Hour, y.1, y.2.1, y.2.2.1], y.2.2.2]) (fun (y : Value × Value × Value × Value) (Ψ : Hp) => (RepSl Ψ (Fu.fuse BA0 HU0 RD3).V y.1) ∧ (RepSl Ψ HU0.Queue y.2.1) ∧ (RepSl Ψ (Fu.fuse BA0 HU0 RD3).K y.2.2.1) ∧ (RepSl Ψ (Fu.comp (Fu.fuse BA0 HU0 RD3).N) y.2.2.2) ∧ (RepV Ψ (Fu.hullOf HU0 (Fu.fuse BA0 HU0 RD3)) [iV HU0.Hour, y.1, y.2.1, y.2.2.1])) (args := #[.agg #[.string (bs ([])), nS, iV 0, (.slice (some ⟨b2, 0, none⟩) 1 1), nS, nS, (.slice (some ⟨b3, 0, none⟩) 1 1), nS, nS, nS, iV 0], .agg #[iV 7, (.slice (some ⟨b5, 0, none⟩) 1 1), nS, nS], (.slice (some ⟨b14, 0, none⟩) 1 1)]) oK rfl rfl (fun w1 hw1 => ((((Fuse_c w1 (Go.K.hp w1) (Hp.le_refl _) (hBA0.mono hw1.phi) (hHU0.mono hw1.phi) (hRD3.mono hw1.phi) (by decide) (by decide) (by decide) (by decide)).mono fun _ _ => retS_up (fun _ _ _ hl ⟨a, b, c, d, e, h1, h2, h3, h4⟩ => ⟨a, b, c, d, e, h1.mono hl, h2.mono hl, h3.mono hl, h4.mono hl⟩))).mono fun e w2 hr => by obtain ⟨v9, he9, hb9, u1, u2, u3, u4, hr9, q1, q2, q3, q4⟩ := hr; exact (show RetS _ _ (fun r Ψ => ∃ u1 u2 u3 u4 : Value, r = .tuple #[.agg #[iV HU0.Hour, u1, u2, u3], u4] ∧ RepSl Ψ (Fu.fuse BA0 HU0 RD3).V u1 ∧ RepSl Ψ HU0.Queue u2 ∧ RepSl Ψ (Fu.fuse BA0 HU0 RD3).K u3 ∧ RepSl Ψ (Fu.comp (Fu.fuse BA0 HU0 RD3).N) u4 ∧ RepV Ψ (Fu.hullOf HU0 (Fu.fuse BA0 HU0 RD3)) [iV HU0.Hour, u1, u2, u3]) _ _ from ⟨v9, he9, hb9, u1, u2, u3, u4, hr9, q1, q2, q3, q4, ⟨_, _, _, rfl, (show I64 HU0.Hour from hourOf hHU0), q1, q2, q3⟩⟩)).mono fun e w2 hr => by obtain ⟨v9, he9, hb9, u1, u2, u3, u4, hr9, q1, q2, q3, q4, q5⟩ := hr; exact ⟨v9, he9, hb9, (u1, u2, u3, u4), hr9, q1, q2, q3, q4, q5⟩)) ?_
 rintro ⟨⟨⟨fv9, fv10, fv11, fv12⟩, Φ10⟩, ⟨kfv9, kfv10, kfv11, kfv12, Hfv9⟩, hlΦ10⟩
 replace kfv9 : RepSl Φ10 (Fu.fuse BA0 HU0 RD3).V fv9 := kfv9
 replace kfv10 : RepSl Φ10 HU0.Queue fv10 := kfv10
 replace kfv11 : RepSl Φ10 (Fu.fuse BA0 HU0 RD3).K fv11 := kfv11
 replace kfv12 : RepSl Φ10 (Fu.comp (Fu.fuse BA0 HU0 RD3).N) fv12 := kfv12
 replace Hfv9 : RepV Φ10 (Fu.hullOf HU0 (Fu.fuse BA0 HU0 RD3)) [iV HU0.Hour, fv9, fv10, fv11] := Hfv9
 replace hlΦ10 : Hp.le Φ9 Φ10 := hlΦ10
 replace hPT0 := hPT0.mono hlΦ10
 replace hPL0 := hPL0.mono hlΦ10
 replace hGA0 := hGA0.mono hlΦ10
 replace hBA0 := hBA0.mono hlΦ10
 replace hVO0 := hVO0.mono hlΦ10
 replace hHU0 := hHU0.mono hlΦ10
 replace hRD1 := hRD1.mono hlΦ10
 replace kfv1 := kfv1.mono hlΦ10
 replace kfv2 := kfv2.mono hlΦ10
 replace kfv3 := kfv3.mono hlΦ10
 replace kfv4 := kfv4.mono hlΦ10
 replace Hfv1 := Hfv1.mono hlΦ10
 replace hRD2 := hRD2.mono hlΦ10
 replace kfv5 := kfv5.mono hlΦ10
 replace kfv6 := kfv6.mono hlΦ10
 replace kfv7 := kfv7.mono hlΦ10
 replace kfv8 := kfv8.mono hlΦ10
 replace Hfv5 := Hfv5.mono hlΦ10
 replace hRD3 := hRD3.mono hlΦ10
 refine RW.q rfl (q_move rfl) ?_
 refine gs2 ?_
 refine RW.alc rfl fun b15 => ?_
 refine RW.effn (J' := St ⟨w, Φ, []⟩ Φ10 [.blk b15 41 [iV HU0.Hour, fv9, fv10, fv11], .blk b13 41 [iV HU0.Hour, fv5, fv6, fv7], .blk b11 41 [iV HU0.Hour, fv1, fv2, fv3], .blk b9 51 [iV (Fu.loOf (Fu.volR BA0 (⟨0, 0, ⟨51, 60⟩⟩ : Bt.Reading))), iV (Fu.hiOf (Fu.volR BA0 (⟨0, 0, ⟨51, 60⟩⟩ : Bt.Reading)))], .blk b8 51 [iV (Fu.loOf (Fu.volR BA0 (⟨0, 0, ⟨50, 60⟩⟩ : Bt.Reading))), iV (Fu.hiOf (Fu.volR BA0 (⟨0, 0, ⟨50, 60⟩⟩ : Bt.Reading)))], .blk b7 51 [iV (Fu.loOf (Fu.volR BA0 (⟨0, 0, ⟨10, 20⟩⟩ : Bt.Reading))), iV (Fu.hiOf (Fu.volR BA0 (⟨0, 0, ⟨10, 20⟩⟩ : Bt.Reading)))], .blk b6 41 [iV 7, (.slice (some ⟨b5, 0, none⟩) 1 1), nS, nS], .blk b4 31 [.string (bs ([])), nS, iV 0, (.slice (some ⟨b2, 0, none⟩) 1 1), nS, nS, (.slice (some ⟨b3, 0, none⟩) 1 1), nS, nS, nS, iV 0]]) (e_store (v := .agg #[iV HU0.Hour, fv9, fv10, fv11]) 0 rfl rfl rfl sz41 rfl (by show List.all [_, fv9, fv10, fv11] _ = true; simp only [List.all_cons, List.all_nil, oneCell_sl kfv9.sl, oneCell_sl kfv10.sl, oneCell_sl kfv11.sl]; rfl) rfl rfl rfl) ?_
 refine gs9 ?_
 refine RW.q (v := .bool false) rfl (q_as (v := .bool (!decide (((((Fu.fuse BA0 HU0 RD1).V).length : Nat) : Int) = 1))) (q_neq rfl rfl) (congrArg Value.bool (by decide +kernel))) ?_
 refine gs3 ?_
 refine RW.gl (v := .bool false) rfl rfl rfl (q_as (v := .bool (!decide ((((Fu.comp (Fu.fuse BA0 HU0 RD1).N).length : Nat) : Int) = 0))) (q_neq rfl rfl) (congrArg Value.bool (by decide +kernel))) (RW.q (v := .bool false) rfl (q_pick rfl (fun hp => pkOrT (q := false) (r := false) hp) (fun hp => pkOrF (q := false) (r := false) hp)) ?_)
 refine gs3 ?_
 refine RW.gl (v := .bool false) rfl rfl rfl (q_as (v := .bool (!decide ((((Fu.comp (Fu.fuse BA0 HU0 RD2).N).length : Nat) : Int) = 1))) (q_neq rfl rfl) (congrArg Value.bool (by decide +kernel))) (RW.q (v := .bool false) rfl (q_pick rfl (fun hp => pkOrT (q := false) (r := false) hp) (fun hp => pkOrF (q := false) (r := false) hp)) ?_)
 refine gs2 ?_
 refine RW.gl (v := .pointer (some (Value.at fv8 (0 * 1)))) rfl rfl rfl (q_indexAddr rfl rfl kfv8.sl uT29 sz3 (by omega) (by decide +kernel) rfl) (RW.gl (v := iV ((Fu.comp (Fu.fuse BA0 HU0 RD2).N).getD 0 0)) rfl rfl rfl (q_load rfl uT3 rfl (Cell.repInt kfv8 (by decide +kernel))) (RW.gl (v := .bool false) rfl rfl rfl (q_as (v := .bool (!decide ((Fu.comp (Fu.fuse BA0 HU0 RD2).N).getD 0 0 = 0))) (q_neq rfl rfl) (congrArg Value.bool (by decide +kernel))) (RW.q (v := .bool false) rfl (q_pick rfl (fun hp => pkOrT (q := false) (r := false) hp) (fun hp => pkOrF (q := false) (r := false) hp)) ?_)))
 refine gs3 ?_
 refine RW.gl (v := .bool false) rfl rfl rfl (q_as (v := .bool (!decide ((((Fu.comp (Fu.fuse BA0 HU0 RD3).N).length : Nat) : Int) = 0))) (q_neq rfl rfl) (congrArg Value.bool (by decide +kernel))) (RW.q (v := .bool false) rfl (q_pick rfl (fun hp => pkOrT (q := false) (r := false) hp) (fun hp => pkOrF (q := false) (r := false) hp)) ?_)
 refine gs2 ?_
 refine AW.condF rfl ?_
 refine gs4 ?_
 refine RW.q (v := .agg #[.string (bs ([])), iV 0, iV 0, iV 0, iV 0]) rfl (q_build (vals := []) zero49 uT49 places49 rfl rfl) (RW.q (v := .agg #[.string (bs ([])), iV 0, iV 0, iV 0, iV 0]) rfl (q_build (vals := []) zero49 uT49 places49 rfl rfl) (RW.eff (fun b16 : Nat => (.slice (some ⟨b16, 0, none⟩) 2 2)) (fun b16 => St ⟨w, Φ, []⟩ Φ10 [.row (.slice (some ⟨b16, 0, none⟩) 2 2) 49 5 2 ([.string (bs ([])), iV 0, iV 0, iV 0, iV 0, .string (bs ([])), iV 0, iV 0, iV 0, iV 0]), .blk b15 41 [iV HU0.Hour, fv9, fv10, fv11], .blk b13 41 [iV HU0.Hour, fv5, fv6, fv7], .blk b11 41 [iV HU0.Hour, fv1, fv2, fv3], .blk b9 51 [iV (Fu.loOf (Fu.volR BA0 (⟨0, 0, ⟨51, 60⟩⟩ : Bt.Reading))), iV (Fu.hiOf (Fu.volR BA0 (⟨0, 0, ⟨51, 60⟩⟩ : Bt.Reading)))], .blk b8 51 [iV (Fu.loOf (Fu.volR BA0 (⟨0, 0, ⟨50, 60⟩⟩ : Bt.Reading))), iV (Fu.hiOf (Fu.volR BA0 (⟨0, 0, ⟨50, 60⟩⟩ : Bt.Reading)))], .blk b7 51 [iV (Fu.loOf (Fu.volR BA0 (⟨0, 0, ⟨10, 20⟩⟩ : Bt.Reading))), iV (Fu.hiOf (Fu.volR BA0 (⟨0, 0, ⟨10, 20⟩⟩ : Bt.Reading)))], .blk b6 41 [iV 7, (.slice (some ⟨b5, 0, none⟩) 1 1), nS, nS], .blk b4 31 [.string (bs ([])), nS, iV 0, (.slice (some ⟨b2, 0, none⟩) 1 1), nS, nS, (.slice (some ⟨b3, 0, none⟩) 1 1), nS, nS, nS, iV 0]]) rfl (e_buildSlice (vals := [(0, .agg #[.string (bs ([])), iV 0, iV 0, iV 0, iV 0]), (1, .agg #[.string (bs ([])), iV 0, iV 0, iV 0, iV 0])]) (cells := [.string (bs ([])), iV 0, iV 0, iV 0, iV 0, .string (bs ([])), iV 0, iV 0, iV 0, iV 0]) uT26 inf49 rfl rfl rfl (by kernel_rfl) rfl) ?_))
 intro b16
 refine RW.frz (fun Φ11 hlΦ11 hshGA1 => ?_)
 replace hPT0 := hPT0.mono hlΦ11
 replace hPL0 := hPL0.mono hlΦ11
 replace hGA0 := hGA0.mono hlΦ11
 replace hBA0 := hBA0.mono hlΦ11
 replace hVO0 := hVO0.mono hlΦ11
 replace hHU0 := hHU0.mono hlΦ11
 replace hRD1 := hRD1.mono hlΦ11
 replace kfv1 := kfv1.mono hlΦ11
 replace kfv2 := kfv2.mono hlΦ11
 replace kfv3 := kfv3.mono hlΦ11
 replace kfv4 := kfv4.mono hlΦ11
 replace Hfv1 := Hfv1.mono hlΦ11
 replace hRD2 := hRD2.mono hlΦ11
 replace kfv5 := kfv5.mono hlΦ11
 replace kfv6 := kfv6.mono hlΦ11
 replace kfv7 := kfv7.mono hlΦ11
 replace kfv8 := kfv8.mono hlΦ11
 replace Hfv5 := Hfv5.mono hlΦ11
 replace hRD3 := hRD3.mono hlΦ11
 replace kfv9 := kfv9.mono hlΦ11
 replace kfv10 := kfv10.mono hlΦ11
 replace kfv11 := kfv11.mono hlΦ11
 replace kfv12 := kfv12.mono hlΦ11
 replace Hfv9 := Hfv9.mono hlΦ11
 replace hGA1 : RepSl Φ11 GA1 (.slice (some ⟨b16, 0, none⟩) 2 2) := RowS.reps (xs := GA1) (cs := [[.string (bs ([])), iV 0, iV 0, iV 0, iV 0], [.string (bs ([])), iV 0, iV 0, iV 0, iV 0]]) hshGA1 rfl ⟨⟨rfl, (by unfold I64; decide)⟩, ⟨rfl, (by unfold I64; decide)⟩, trivial⟩ rfl (by decide)
 refine RW.q (v := .agg #[.string (bs ([])), nS, iV 0, nS, nS, nS, (.slice (some ⟨b16, 0, none⟩) 2 2), nS, nS, nS, iV 0]) rfl (q_build (vals := [(6, (.slice (some ⟨b16, 0, none⟩) 2 2))]) zero31 uT31 places31 rfl rfl) (RW.eff (fun b17 : Nat => (.slice (some ⟨b17, 0, none⟩) 1 1)) (fun b17 => St ⟨w, Φ, []⟩ Φ11 [.row (.slice (some ⟨b17, 0, none⟩) 1 1) 3 1 1 ([iV 0]), .blk b15 41 [iV HU0.Hour, fv9, fv10, fv11], .blk b13 41 [iV HU0.Hour, fv5, fv6, fv7], .blk b11 41 [iV HU0.Hour, fv1, fv2, fv3], .blk b9 51 [iV (Fu.loOf (Fu.volR BA0 (⟨0, 0, ⟨51, 60⟩⟩ : Bt.Reading))), iV (Fu.hiOf (Fu.volR BA0 (⟨0, 0, ⟨51, 60⟩⟩ : Bt.Reading)))], .blk b8 51 [iV (Fu.loOf (Fu.volR BA0 (⟨0, 0, ⟨50, 60⟩⟩ : Bt.Reading))), iV (Fu.hiOf (Fu.volR BA0 (⟨0, 0, ⟨50, 60⟩⟩ : Bt.Reading)))], .blk b7 51 [iV (Fu.loOf (Fu.volR BA0 (⟨0, 0, ⟨10, 20⟩⟩ : Bt.Reading))), iV (Fu.hiOf (Fu.volR BA0 (⟨0, 0, ⟨10, 20⟩⟩ : Bt.Reading)))], .blk b6 41 [iV 7, (.slice (some ⟨b5, 0, none⟩) 1 1), nS, nS], .blk b4 31 [.string (bs ([])), nS, iV 0, (.slice (some ⟨b2, 0, none⟩) 1 1), nS, nS, (.slice (some ⟨b3, 0, none⟩) 1 1), nS, nS, nS, iV 0]]) rfl (e_buildSlice (vals := [(0, iV 0)]) (cells := [iV 0]) uT29 inf3 rfl rfl rfl (by kernel_rfl) rfl) ?_)
 intro b17
 refine RW.frz (fun Φ12 hlΦ12 hshNA1 => ?_)
 replace hPT0 := hPT0.mono hlΦ12
 replace hPL0 := hPL0.mono hlΦ12
 replace hGA0 := hGA0.mono hlΦ12
 replace hBA0 := hBA0.mono hlΦ12
 replace hVO0 := hVO0.mono hlΦ12
 replace hHU0 := hHU0.mono hlΦ12
 replace hRD1 := hRD1.mono hlΦ12
 replace kfv1 := kfv1.mono hlΦ12
 replace kfv2 := kfv2.mono hlΦ12
 replace kfv3 := kfv3.mono hlΦ12
 replace kfv4 := kfv4.mono hlΦ12
 replace Hfv1 := Hfv1.mono hlΦ12
 replace hRD2 := hRD2.mono hlΦ12
 replace kfv5 := kfv5.mono hlΦ12
 replace kfv6 := kfv6.mono hlΦ12
 replace kfv7 := kfv7.mono hlΦ12
 replace kfv8 := kfv8.mono hlΦ12
 replace Hfv5 := Hfv5.mono hlΦ12
 replace hRD3 := hRD3.mono hlΦ12
 replace kfv9 := kfv9.mono hlΦ12
 replace kfv10 := kfv10.mono hlΦ12
 replace kfv11 := kfv11.mono hlΦ12
 replace kfv12 := kfv12.mono hlΦ12
 replace Hfv9 := Hfv9.mono hlΦ12
 replace hGA1 := hGA1.mono hlΦ12
 replace hNA1 : RepSl Φ12 NA1 (.slice (some ⟨b17, 0, none⟩) 1 1) := RowS.reps (xs := NA1) (cs := [[iV 0]]) hshNA1 rfl ⟨⟨rfl, by unfold I64; decide⟩, trivial⟩ rfl (by decide)
 refine RW.eff (fun b18 : Nat => (.slice (some ⟨b18, 0, none⟩) 2 2)) (fun b18 => St ⟨w, Φ, []⟩ Φ12 [.row (.slice (some ⟨b18, 0, none⟩) 2 2) 3 1 2 ([iV 0, iV 1]), .blk b15 41 [iV HU0.Hour, fv9, fv10, fv11], .blk b13 41 [iV HU0.Hour, fv5, fv6, fv7], .blk b11 41 [iV HU0.Hour, fv1, fv2, fv3], .blk b9 51 [iV (Fu.loOf (Fu.volR BA0 (⟨0, 0, ⟨51, 60⟩⟩ : Bt.Reading))), iV (Fu.hiOf (Fu.volR BA0 (⟨0, 0, ⟨51, 60⟩⟩ : Bt.Reading)))], .blk b8 51 [iV (Fu.loOf (Fu.volR BA0 (⟨0, 0, ⟨50, 60⟩⟩ : Bt.Reading))), iV (Fu.hiOf (Fu.volR BA0 (⟨0, 0, ⟨50, 60⟩⟩ : Bt.Reading)))], .blk b7 51 [iV (Fu.loOf (Fu.volR BA0 (⟨0, 0, ⟨10, 20⟩⟩ : Bt.Reading))), iV (Fu.hiOf (Fu.volR BA0 (⟨0, 0, ⟨10, 20⟩⟩ : Bt.Reading)))], .blk b6 41 [iV 7, (.slice (some ⟨b5, 0, none⟩) 1 1), nS, nS], .blk b4 31 [.string (bs ([])), nS, iV 0, (.slice (some ⟨b2, 0, none⟩) 1 1), nS, nS, (.slice (some ⟨b3, 0, none⟩) 1 1), nS, nS, nS, iV 0]]) rfl (e_buildSlice (vals := [(0, iV 0), (1, iV 1)]) (cells := [iV 0, iV 1]) uT29 inf3 rfl rfl rfl (by kernel_rfl) rfl) ?_
 intro b18
 refine RW.frz (fun Φ13 hlΦ13 hshNA2 => ?_)
 replace hPT0 := hPT0.mono hlΦ13
 replace hPL0 := hPL0.mono hlΦ13
 replace hGA0 := hGA0.mono hlΦ13
 replace hBA0 := hBA0.mono hlΦ13
 replace hVO0 := hVO0.mono hlΦ13
 replace hHU0 := hHU0.mono hlΦ13
 replace hRD1 := hRD1.mono hlΦ13
 replace kfv1 := kfv1.mono hlΦ13
 replace kfv2 := kfv2.mono hlΦ13
 replace kfv3 := kfv3.mono hlΦ13
 replace kfv4 := kfv4.mono hlΦ13
 replace Hfv1 := Hfv1.mono hlΦ13
 replace hRD2 := hRD2.mono hlΦ13
 replace kfv5 := kfv5.mono hlΦ13
 replace kfv6 := kfv6.mono hlΦ13
 replace kfv7 := kfv7.mono hlΦ13
 replace kfv8 := kfv8.mono hlΦ13
 replace Hfv5 := Hfv5.mono hlΦ13
 replace hRD3 := hRD3.mono hlΦ13
 replace kfv9 := kfv9.mono hlΦ13
 replace kfv10 := kfv10.mono hlΦ13
 replace kfv11 := kfv11.mono hlΦ13
 replace kfv12 := kfv12.mono hlΦ13
 replace Hfv9 := Hfv9.mono hlΦ13
 replace hGA1 := hGA1.mono hlΦ13
 replace hNA1 := hNA1.mono hlΦ13
 replace hNA2 : RepSl Φ13 NA2 (.slice (some ⟨b18, 0, none⟩) 2 2) := RowS.reps (xs := NA2) (cs := [[iV 0], [iV 1]]) hshNA2 rfl ⟨⟨rfl, by unfold I64; decide⟩, ⟨rfl, by unfold I64; decide⟩, trivial⟩ rfl (by decide)
 refine RW.eff (fun b19 : Nat => (.slice (some ⟨b19, 0, none⟩) 2 2)) (fun b19 => St ⟨w, Φ, []⟩ Φ13 [.row (.slice (some ⟨b19, 0, none⟩) 2 2) 3 1 2 ([iV 1, iV 0]), .blk b15 41 [iV HU0.Hour, fv9, fv10, fv11], .blk b13 41 [iV HU0.Hour, fv5, fv6, fv7], .blk b11 41 [iV HU0.Hour, fv1, fv2, fv3], .blk b9 51 [iV (Fu.loOf (Fu.volR BA0 (⟨0, 0, ⟨51, 60⟩⟩ : Bt.Reading))), iV (Fu.hiOf (Fu.volR BA0 (⟨0, 0, ⟨51, 60⟩⟩ : Bt.Reading)))], .blk b8 51 [iV (Fu.loOf (Fu.volR BA0 (⟨0, 0, ⟨50, 60⟩⟩ : Bt.Reading))), iV (Fu.hiOf (Fu.volR BA0 (⟨0, 0, ⟨50, 60⟩⟩ : Bt.Reading)))], .blk b7 51 [iV (Fu.loOf (Fu.volR BA0 (⟨0, 0, ⟨10, 20⟩⟩ : Bt.Reading))), iV (Fu.hiOf (Fu.volR BA0 (⟨0, 0, ⟨10, 20⟩⟩ : Bt.Reading)))], .blk b6 41 [iV 7, (.slice (some ⟨b5, 0, none⟩) 1 1), nS, nS], .blk b4 31 [.string (bs ([])), nS, iV 0, (.slice (some ⟨b2, 0, none⟩) 1 1), nS, nS, (.slice (some ⟨b3, 0, none⟩) 1 1), nS, nS, nS, iV 0]]) rfl (e_buildSlice (vals := [(0, iV 1), (1, iV 0)]) (cells := [iV 1, iV 0]) uT29 inf3 rfl rfl rfl (by kernel_rfl) rfl) ?_
 intro b19
 refine RW.frz (fun Φ14 hlΦ14 hshNA3 => ?_)
 replace hPT0 := hPT0.mono hlΦ14
 replace hPL0 := hPL0.mono hlΦ14
 replace hGA0 := hGA0.mono hlΦ14
 replace hBA0 := hBA0.mono hlΦ14
 replace hVO0 := hVO0.mono hlΦ14
 replace hHU0 := hHU0.mono hlΦ14
 replace hRD1 := hRD1.mono hlΦ14
 replace kfv1 := kfv1.mono hlΦ14
 replace kfv2 := kfv2.mono hlΦ14
 replace kfv3 := kfv3.mono hlΦ14
 replace kfv4 := kfv4.mono hlΦ14
 replace Hfv1 := Hfv1.mono hlΦ14
 replace hRD2 := hRD2.mono hlΦ14
 replace kfv5 := kfv5.mono hlΦ14
 replace kfv6 := kfv6.mono hlΦ14
 replace kfv7 := kfv7.mono hlΦ14
 replace kfv8 := kfv8.mono hlΦ14
 replace Hfv5 := Hfv5.mono hlΦ14
 replace hRD3 := hRD3.mono hlΦ14
 replace kfv9 := kfv9.mono hlΦ14
 replace kfv10 := kfv10.mono hlΦ14
 replace kfv11 := kfv11.mono hlΦ14
 replace kfv12 := kfv12.mono hlΦ14
 replace Hfv9 := Hfv9.mono hlΦ14
 replace hGA1 := hGA1.mono hlΦ14
 replace hNA1 := hNA1.mono hlΦ14
 replace hNA2 := hNA2.mono hlΦ14
 replace hNA3 : RepSl Φ14 NA3 (.slice (some ⟨b19, 0, none⟩) 2 2) := RowS.reps (xs := NA3) (cs := [[iV 1], [iV 0]]) hshNA3 rfl ⟨⟨rfl, by unfold I64; decide⟩, ⟨rfl, by unfold I64; decide⟩, trivial⟩ rfl (by decide)
 refine RW.eff (fun b20 : Nat => (.slice (some ⟨b20, 0, none⟩) 3 3)) (fun b20 => St ⟨w, Φ, []⟩ Φ14 [.row (.slice (some ⟨b20, 0, none⟩) 3 3) 29 1 3 ([(.slice (some ⟨b17, 0, none⟩) 1 1), (.slice (some ⟨b18, 0, none⟩) 2 2), (.slice (some ⟨b19, 0, none⟩) 2 2)]), .blk b15 41 [iV HU0.Hour, fv9, fv10, fv11], .blk b13 41 [iV HU0.Hour, fv5, fv6, fv7], .blk b11 41 [iV HU0.Hour, fv1, fv2, fv3], .blk b9 51 [iV (Fu.loOf (Fu.volR BA0 (⟨0, 0, ⟨51, 60⟩⟩ : Bt.Reading))), iV (Fu.hiOf (Fu.volR BA0 (⟨0, 0, ⟨51, 60⟩⟩ : Bt.Reading)))], .blk b8 51 [iV (Fu.loOf (Fu.volR BA0 (⟨0, 0, ⟨50, 60⟩⟩ : Bt.Reading))), iV (Fu.hiOf (Fu.volR BA0 (⟨0, 0, ⟨50, 60⟩⟩ : Bt.Reading)))], .blk b7 51 [iV (Fu.loOf (Fu.volR BA0 (⟨0, 0, ⟨10, 20⟩⟩ : Bt.Reading))), iV (Fu.hiOf (Fu.volR BA0 (⟨0, 0, ⟨10, 20⟩⟩ : Bt.Reading)))], .blk b6 41 [iV 7, (.slice (some ⟨b5, 0, none⟩) 1 1), nS, nS], .blk b4 31 [.string (bs ([])), nS, iV 0, (.slice (some ⟨b2, 0, none⟩) 1 1), nS, nS, (.slice (some ⟨b3, 0, none⟩) 1 1), nS, nS, nS, iV 0]]) rfl (e_buildSlice (vals := [(0, (.slice (some ⟨b17, 0, none⟩) 1 1)), (1, (.slice (some ⟨b18, 0, none⟩) 2 2)), (2, (.slice (some ⟨b19, 0, none⟩) 2 2))]) (cells := [(.slice (some ⟨b17, 0, none⟩) 1 1), (.slice (some ⟨b18, 0, none⟩) 2 2), (.slice (some ⟨b19, 0, none⟩) 2 2)]) uT32 inf29 rfl rfl rfl (by kernel_rfl) rfl) ?_
 intro b20
 refine RW.frz (fun Φ15 hlΦ15 hshHI1 => ?_)
 replace hPT0 := hPT0.mono hlΦ15
 replace hPL0 := hPL0.mono hlΦ15
 replace hGA0 := hGA0.mono hlΦ15
 replace hBA0 := hBA0.mono hlΦ15
 replace hVO0 := hVO0.mono hlΦ15
 replace hHU0 := hHU0.mono hlΦ15
 replace hRD1 := hRD1.mono hlΦ15
 replace kfv1 := kfv1.mono hlΦ15
 replace kfv2 := kfv2.mono hlΦ15
 replace kfv3 := kfv3.mono hlΦ15
 replace kfv4 := kfv4.mono hlΦ15
 replace Hfv1 := Hfv1.mono hlΦ15
 replace hRD2 := hRD2.mono hlΦ15
 replace kfv5 := kfv5.mono hlΦ15
 replace kfv6 := kfv6.mono hlΦ15
 replace kfv7 := kfv7.mono hlΦ15
 replace kfv8 := kfv8.mono hlΦ15
 replace Hfv5 := Hfv5.mono hlΦ15
 replace hRD3 := hRD3.mono hlΦ15
 replace kfv9 := kfv9.mono hlΦ15
 replace kfv10 := kfv10.mono hlΦ15
 replace kfv11 := kfv11.mono hlΦ15
 replace kfv12 := kfv12.mono hlΦ15
 replace Hfv9 := Hfv9.mono hlΦ15
 replace hGA1 := hGA1.mono hlΦ15
 replace hNA1 := hNA1.mono hlΦ15
 replace hNA2 := hNA2.mono hlΦ15
 replace hNA3 := hNA3.mono hlΦ15
 replace hHI1 : RepSl Φ15 HI1 (.slice (some ⟨b20, 0, none⟩) 3 3) := RowS.reps (xs := HI1) (cs := [[(.slice (some ⟨b17, 0, none⟩) 1 1)], [(.slice (some ⟨b18, 0, none⟩) 2 2)], [(.slice (some ⟨b19, 0, none⟩) 2 2)]]) hshHI1 rfl ⟨⟨_, rfl, hNA1⟩, ⟨_, rfl, hNA2⟩, ⟨_, rfl, hNA3⟩, trivial⟩ rfl (by decide)
 have hBA1 : RepV Φ15 BA1 [.string (bs ([])), nS, iV 0, nS, nS, nS, (.slice (some ⟨b16, 0, none⟩) 2 2), nS, nS, nS, iV 0] := ⟨_, _, _, _, _, _, _, _, rfl, (by unfold I64; decide), repSl_nil, repSl_nil, repSl_nil, repSl_nil, hGA1, repSl_nil, repSl_nil, repSl_nil⟩
 refine RW.eff (fun x : {y : Value × Hp // (fun r Ψ => RepSl Ψ (Fu.drift BA1.Gauges.length HI1) r) y.1 y.2 ∧ Hp.le Φ15 y.2} => x.1.1) (fun x => St ⟨w, Φ, []⟩ x.1.2 [.blk b15 41 [iV HU0.Hour, fv9, fv10, fv11], .blk b13 41 [iV HU0.Hour, fv5, fv6, fv7], .blk b11 41 [iV HU0.Hour, fv1, fv2, fv3], .blk b9 51 [iV (Fu.loOf (Fu.volR BA0 (⟨0, 0, ⟨51, 60⟩⟩ : Bt.Reading))), iV (Fu.hiOf (Fu.volR BA0 (⟨0, 0, ⟨51, 60⟩⟩ : Bt.Reading)))], .blk b8 51 [iV (Fu.loOf (Fu.volR BA0 (⟨0, 0, ⟨50, 60⟩⟩ : Bt.Reading))), iV (Fu.hiOf (Fu.volR BA0 (⟨0, 0, ⟨50, 60⟩⟩ : Bt.Reading)))], .blk b7 51 [iV (Fu.loOf (Fu.volR BA0 (⟨0, 0, ⟨10, 20⟩⟩ : Bt.Reading))), iV (Fu.hiOf (Fu.volR BA0 (⟨0, 0, ⟨10, 20⟩⟩ : Bt.Reading)))], .blk b6 41 [iV 7, (.slice (some ⟨b5, 0, none⟩) 1 1), nS, nS], .blk b4 31 [.string (bs ([])), nS, iV 0, (.slice (some ⟨b2, 0, none⟩) 1 1), nS, nS, (.slice (some ⟨b3, 0, none⟩) 1 1), nS, nS, nS, iV 0]]) rfl (e_callS (T := fun r Ψ => RepSl Ψ (Fu.drift BA1.Gauges.length HI1) r) (args := #[.agg #[.string (bs ([])), nS, iV 0, nS, nS, nS, (.slice (some ⟨b16, 0, none⟩) 2 2), nS, nS, nS, iV 0], (.slice (some ⟨b20, 0, none⟩) 3 3)]) oK rfl rfl (fun w1 hw1 => (Drifting_c w1 (Go.K.hp w1) (Hp.le_refl _) (hBA1.mono hw1.phi) (hHI1.mono hw1.phi)).mono fun _ _ => retS_up (fun _ _ _ hl h => h.mono hl))) ?_
 rintro ⟨⟨lv1, Φ16⟩, hlv1, hlΦ16⟩
 replace hlv1 : RepSl Φ16 (Fu.drift BA1.Gauges.length HI1) lv1 := hlv1
 replace hlΦ16 : Hp.le Φ15 Φ16 := hlΦ16
 replace hPT0 := hPT0.mono hlΦ16
 replace hPL0 := hPL0.mono hlΦ16
 replace hGA0 := hGA0.mono hlΦ16
 replace hBA0 := hBA0.mono hlΦ16
 replace hVO0 := hVO0.mono hlΦ16
 replace hHU0 := hHU0.mono hlΦ16
 replace hRD1 := hRD1.mono hlΦ16
 replace kfv1 := kfv1.mono hlΦ16
 replace kfv2 := kfv2.mono hlΦ16
 replace kfv3 := kfv3.mono hlΦ16
 replace kfv4 := kfv4.mono hlΦ16
 replace Hfv1 := Hfv1.mono hlΦ16
 replace hRD2 := hRD2.mono hlΦ16
 replace kfv5 := kfv5.mono hlΦ16
 replace kfv6 := kfv6.mono hlΦ16
 replace kfv7 := kfv7.mono hlΦ16
 replace kfv8 := kfv8.mono hlΦ16
 replace Hfv5 := Hfv5.mono hlΦ16
 replace hRD3 := hRD3.mono hlΦ16
 replace kfv9 := kfv9.mono hlΦ16
 replace kfv10 := kfv10.mono hlΦ16
 replace kfv11 := kfv11.mono hlΦ16
 replace kfv12 := kfv12.mono hlΦ16
 replace Hfv9 := Hfv9.mono hlΦ16
 replace hGA1 := hGA1.mono hlΦ16
 replace hNA1 := hNA1.mono hlΦ16
 replace hNA2 := hNA2.mono hlΦ16
 replace hNA3 := hNA3.mono hlΦ16
 replace hBA1 := hBA1.mono hlΦ16
 replace hHI1 := hHI1.mono hlΦ16
 refine gs6 ?_
 refine RW.q (v := .agg #[iV 20, iV 41]) rfl (q_build (vals := [(0, iV 20), (1, iV 41)]) zero51 uT51 places51 rfl rfl) (RW.q (v := .bool true) rfl (q_as (v := .bool (decide (Fu.loOf (Fu.volR BA0 (⟨0, 0, ⟨10, 20⟩⟩ : Bt.Reading)) = 20) && decide (Fu.hiOf (Fu.volR BA0 (⟨0, 0, ⟨10, 20⟩⟩ : Bt.Reading)) = 41))) (q_eqlS rfl rfl (eqS51 _ _ _ _) eqG51) (congrArg Value.bool (by decide +kernel))) ?_)
 refine gs2 ?_
 refine RW.q (v := .bool true) rfl (q_pick (t := true) rfl (fun _ => rfl) (fun hp => nomatch hp)) ?_
 refine gs2 ?_
 refine RW.gl (v := .agg #[iV 100, iV 1125899906842624]) rfl rfl rfl (q_build (vals := [(0, iV 100), (1, iV 1125899906842624)]) zero51 uT51 places51 rfl rfl) (RW.gl (v := .bool true) rfl rfl rfl (q_as (v := .bool (decide (Fu.loOf (Fu.volR BA0 (⟨0, 0, ⟨50, 60⟩⟩ : Bt.Reading)) = 100) && decide (Fu.hiOf (Fu.volR BA0 (⟨0, 0, ⟨50, 60⟩⟩ : Bt.Reading)) = 1125899906842624))) (q_eqlS rfl rfl (eqS51 _ _ _ _) eqG51) (congrArg Value.bool (by decide +kernel))) (RW.q (v := .bool true) rfl (q_pick (t := true) rfl (fun _ => rfl) (fun hp => nomatch hp)) ?_))
 refine gs2 ?_
 refine RW.q (v := .bool true) rfl (q_pick (t := true) rfl (fun _ => rfl) (fun hp => nomatch hp)) ?_
 refine gs2 ?_
 refine RW.gl (v := .bool true) rfl rfl rfl (q_not (b := false) rfl) (RW.q (v := .bool true) rfl (q_pick (t := true) rfl (fun _ => rfl) (fun hp => nomatch hp)) ?_)
 refine gs3 ?_
 refine RW.gl (v := .pointer (some (Value.at fv1 (0 * 2)))) rfl rfl rfl (q_indexAddr rfl rfl kfv1.sl uT37 sz51 (by omega) (by decide +kernel) rfl) (RW.gl (v := .agg #[iV ((((Fu.fuse BA0 HU0 RD1).V).getD 0 default).Lo), iV ((((Fu.fuse BA0 HU0 RD1).V).getD 0 default).Hi)]) rfl rfl rfl (q_loadAgg rfl uT51 rfl sz51 rfl (Cells.repE kfv1 (by decide +kernel) rfl)) (RW.gl (v := .agg #[iV 20, iV 41]) rfl rfl rfl (q_build (vals := [(0, iV 20), (1, iV 41)]) zero51 uT51 places51 rfl rfl) (RW.gl (v := .bool true) rfl rfl rfl (q_as (v := .bool (decide ((((Fu.fuse BA0 HU0 RD1).V).getD 0 default).Lo = 20) && decide ((((Fu.fuse BA0 HU0 RD1).V).getD 0 default).Hi = 41))) (q_eqlS rfl rfl (eqS51 _ _ _ _) eqG51) (congrArg Value.bool (by decide +kernel))) (RW.q (v := .bool true) rfl (q_pick (t := true) rfl (fun _ => rfl) (fun hp => nomatch hp)) ?_))))
 refine gs3 ?_
 refine RW.gl (v := .bool true) rfl rfl rfl (q_as (v := .bool (decide (Fu.sameH (Fu.hullOf HU0 (Fu.fuse BA0 HU0 RD2)) HU0))) (q_call (args := #[.agg #[iV HU0.Hour, fv5, fv6, fv7], .agg #[iV 7, (.slice (some ⟨b5, 0, none⟩) 1 1), nS, nS]]) oK rfl rfl (fun w1 hw1 => Same_c w1 (Go.K.hp w1) (Hp.le_refl _) (Hfv5.mono hw1.phi) (hHU0.mono hw1.phi))) (congrArg Value.bool (by decide +kernel))) (RW.q (v := .bool true) rfl (q_pick (t := true) rfl (fun _ => rfl) (fun hp => nomatch hp)) ?_)
 refine gs3 ?_
 refine RW.gl (v := .bool true) rfl rfl rfl (q_as (v := .bool (decide (Fu.sameH (Fu.hullOf HU0 (Fu.fuse BA0 HU0 RD3)) HU0))) (q_call (args := #[.agg #[iV HU0.Hour, fv9, fv10, fv11], .agg #[iV 7, (.slice (some ⟨b5, 0, none⟩) 1 1), nS, nS]]) oK rfl rfl (fun w1 hw1 => Same_c w1 (Go.K.hp w1) (Hp.le_refl _) (Hfv9.mono hw1.phi) (hHU0.mono hw1.phi))) (congrArg Value.bool (by decide +kernel))) (RW.q (v := .bool true) rfl (q_pick (t := true) rfl (fun _ => rfl) (fun hp => nomatch hp)) ?_)
 refine gs3 ?_
 refine RW.gl (v := .bool true) rfl rfl rfl (q_as (v := .bool (decide ((((Fu.drift BA1.Gauges.length HI1).length : Nat) : Int) = 1))) (q_eql rfl rfl) (congrArg Value.bool (by decide +kernel))) (RW.q (v := .bool true) rfl (q_pick (t := true) rfl (fun _ => rfl) (fun hp => nomatch hp)) ?_)
 refine gs2 ?_
 refine RW.gl (v := .pointer (some (Value.at lv1 (0 * 1)))) rfl rfl rfl (q_indexAddr rfl rfl hlv1.sl uT29 sz3 (by omega) (by decide +kernel) rfl) (RW.gl (v := iV ((Fu.drift BA1.Gauges.length HI1).getD 0 0)) rfl rfl rfl (q_load rfl uT3 rfl (Cell.repInt hlv1 (by decide +kernel))) (RW.gl (v := .bool true) rfl rfl rfl (q_as (v := .bool (decide ((Fu.drift BA1.Gauges.length HI1).getD 0 0 = 0))) (q_eql rfl rfl) (congrArg Value.bool (by decide +kernel))) (RW.q (v := .bool true) rfl (q_pick (t := true) rfl (fun _ => rfl) (fun hp => nomatch hp)) ?_)))
 refine gs2 ?_
 refine RW.effg (fun b21 : Nat => (.slice (some ⟨b21, 0, none⟩) 1 1)) (fun b21 => St ⟨w, Φ, []⟩ Φ16 [.row (.slice (some ⟨b21, 0, none⟩) 1 1) 3 1 1 ([iV 0]), .blk b15 41 [iV HU0.Hour, fv9, fv10, fv11], .blk b13 41 [iV HU0.Hour, fv5, fv6, fv7], .blk b11 41 [iV HU0.Hour, fv1, fv2, fv3], .blk b9 51 [iV (Fu.loOf (Fu.volR BA0 (⟨0, 0, ⟨51, 60⟩⟩ : Bt.Reading))), iV (Fu.hiOf (Fu.volR BA0 (⟨0, 0, ⟨51, 60⟩⟩ : Bt.Reading)))], .blk b8 51 [iV (Fu.loOf (Fu.volR BA0 (⟨0, 0, ⟨50, 60⟩⟩ : Bt.Reading))), iV (Fu.hiOf (Fu.volR BA0 (⟨0, 0, ⟨50, 60⟩⟩ : Bt.Reading)))], .blk b7 51 [iV (Fu.loOf (Fu.volR BA0 (⟨0, 0, ⟨10, 20⟩⟩ : Bt.Reading))), iV (Fu.hiOf (Fu.volR BA0 (⟨0, 0, ⟨10, 20⟩⟩ : Bt.Reading)))], .blk b6 41 [iV 7, (.slice (some ⟨b5, 0, none⟩) 1 1), nS, nS], .blk b4 31 [.string (bs ([])), nS, iV 0, (.slice (some ⟨b2, 0, none⟩) 1 1), nS, nS, (.slice (some ⟨b3, 0, none⟩) 1 1), nS, nS, nS, iV 0]]) rfl rfl rfl (e_buildSlice (vals := [(0, iV 0)]) (cells := [iV 0]) uT29 inf3 rfl rfl rfl (by kernel_rfl) rfl) ?_
 intro b21
 refine RW.frz (fun Φ17 hlΦ17 hshNA4 => ?_)
 replace hPT0 := hPT0.mono hlΦ17
 replace hPL0 := hPL0.mono hlΦ17
 replace hGA0 := hGA0.mono hlΦ17
 replace hBA0 := hBA0.mono hlΦ17
 replace hVO0 := hVO0.mono hlΦ17
 replace hHU0 := hHU0.mono hlΦ17
 replace hRD1 := hRD1.mono hlΦ17
 replace kfv1 := kfv1.mono hlΦ17
 replace kfv2 := kfv2.mono hlΦ17
 replace kfv3 := kfv3.mono hlΦ17
 replace kfv4 := kfv4.mono hlΦ17
 replace Hfv1 := Hfv1.mono hlΦ17
 replace hRD2 := hRD2.mono hlΦ17
 replace kfv5 := kfv5.mono hlΦ17
 replace kfv6 := kfv6.mono hlΦ17
 replace kfv7 := kfv7.mono hlΦ17
 replace kfv8 := kfv8.mono hlΦ17
 replace Hfv5 := Hfv5.mono hlΦ17
 replace hRD3 := hRD3.mono hlΦ17
 replace kfv9 := kfv9.mono hlΦ17
 replace kfv10 := kfv10.mono hlΦ17
 replace kfv11 := kfv11.mono hlΦ17
 replace kfv12 := kfv12.mono hlΦ17
 replace Hfv9 := Hfv9.mono hlΦ17
 replace hGA1 := hGA1.mono hlΦ17
 replace hNA1 := hNA1.mono hlΦ17
 replace hNA2 := hNA2.mono hlΦ17
 replace hNA3 := hNA3.mono hlΦ17
 replace hBA1 := hBA1.mono hlΦ17
 replace hHI1 := hHI1.mono hlΦ17
 replace hlv1 := hlv1.mono hlΦ17
 replace hNA4 : RepSl Φ17 NA4 (.slice (some ⟨b21, 0, none⟩) 1 1) := RowS.reps (xs := NA4) (cs := [[iV 0]]) hshNA4 rfl ⟨⟨rfl, by unfold I64; decide⟩, trivial⟩ rfl (by decide)
 refine RW.effg (fun b22 : Nat => (.slice (some ⟨b22, 0, none⟩) 1 1)) (fun b22 => St ⟨w, Φ, []⟩ Φ17 [.row (.slice (some ⟨b22, 0, none⟩) 1 1) 3 1 1 ([iV 0]), .blk b15 41 [iV HU0.Hour, fv9, fv10, fv11], .blk b13 41 [iV HU0.Hour, fv5, fv6, fv7], .blk b11 41 [iV HU0.Hour, fv1, fv2, fv3], .blk b9 51 [iV (Fu.loOf (Fu.volR BA0 (⟨0, 0, ⟨51, 60⟩⟩ : Bt.Reading))), iV (Fu.hiOf (Fu.volR BA0 (⟨0, 0, ⟨51, 60⟩⟩ : Bt.Reading)))], .blk b8 51 [iV (Fu.loOf (Fu.volR BA0 (⟨0, 0, ⟨50, 60⟩⟩ : Bt.Reading))), iV (Fu.hiOf (Fu.volR BA0 (⟨0, 0, ⟨50, 60⟩⟩ : Bt.Reading)))], .blk b7 51 [iV (Fu.loOf (Fu.volR BA0 (⟨0, 0, ⟨10, 20⟩⟩ : Bt.Reading))), iV (Fu.hiOf (Fu.volR BA0 (⟨0, 0, ⟨10, 20⟩⟩ : Bt.Reading)))], .blk b6 41 [iV 7, (.slice (some ⟨b5, 0, none⟩) 1 1), nS, nS], .blk b4 31 [.string (bs ([])), nS, iV 0, (.slice (some ⟨b2, 0, none⟩) 1 1), nS, nS, (.slice (some ⟨b3, 0, none⟩) 1 1), nS, nS, nS, iV 0]]) rfl rfl rfl (e_buildSlice (vals := [(0, iV 0)]) (cells := [iV 0]) uT29 inf3 rfl rfl rfl (by kernel_rfl) rfl) ?_
 intro b22
 refine RW.frz (fun Φ18 hlΦ18 hshNA5 => ?_)
 replace hPT0 := hPT0.mono hlΦ18
 replace hPL0 := hPL0.mono hlΦ18
 replace hGA0 := hGA0.mono hlΦ18
 replace hBA0 := hBA0.mono hlΦ18
 replace hVO0 := hVO0.mono hlΦ18
 replace hHU0 := hHU0.mono hlΦ18
 replace hRD1 := hRD1.mono hlΦ18
 replace kfv1 := kfv1.mono hlΦ18
 replace kfv2 := kfv2.mono hlΦ18
 replace kfv3 := kfv3.mono hlΦ18
 replace kfv4 := kfv4.mono hlΦ18
 replace Hfv1 := Hfv1.mono hlΦ18
 replace hRD2 := hRD2.mono hlΦ18
 replace kfv5 := kfv5.mono hlΦ18
 replace kfv6 := kfv6.mono hlΦ18
 replace kfv7 := kfv7.mono hlΦ18
 replace kfv8 := kfv8.mono hlΦ18
 replace Hfv5 := Hfv5.mono hlΦ18
 replace hRD3 := hRD3.mono hlΦ18
 replace kfv9 := kfv9.mono hlΦ18
 replace kfv10 := kfv10.mono hlΦ18
 replace kfv11 := kfv11.mono hlΦ18
 replace kfv12 := kfv12.mono hlΦ18
 replace Hfv9 := Hfv9.mono hlΦ18
 replace hGA1 := hGA1.mono hlΦ18
 replace hNA1 := hNA1.mono hlΦ18
 replace hNA2 := hNA2.mono hlΦ18
 replace hNA3 := hNA3.mono hlΦ18
 replace hBA1 := hBA1.mono hlΦ18
 replace hHI1 := hHI1.mono hlΦ18
 replace hlv1 := hlv1.mono hlΦ18
 replace hNA4 := hNA4.mono hlΦ18
 replace hNA5 : RepSl Φ18 NA5 (.slice (some ⟨b22, 0, none⟩) 1 1) := RowS.reps (xs := NA5) (cs := [[iV 0]]) hshNA5 rfl ⟨⟨rfl, by unfold I64; decide⟩, trivial⟩ rfl (by decide)
 refine RW.effg (fun b23 : Nat => (.slice (some ⟨b23, 0, none⟩) 2 2)) (fun b23 => St ⟨w, Φ, []⟩ Φ18 [.row (.slice (some ⟨b23, 0, none⟩) 2 2) 29 1 2 ([(.slice (some ⟨b21, 0, none⟩) 1 1), (.slice (some ⟨b22, 0, none⟩) 1 1)]), .blk b15 41 [iV HU0.Hour, fv9, fv10, fv11], .blk b13 41 [iV HU0.Hour, fv5, fv6, fv7], .blk b11 41 [iV HU0.Hour, fv1, fv2, fv3], .blk b9 51 [iV (Fu.loOf (Fu.volR BA0 (⟨0, 0, ⟨51, 60⟩⟩ : Bt.Reading))), iV (Fu.hiOf (Fu.volR BA0 (⟨0, 0, ⟨51, 60⟩⟩ : Bt.Reading)))], .blk b8 51 [iV (Fu.loOf (Fu.volR BA0 (⟨0, 0, ⟨50, 60⟩⟩ : Bt.Reading))), iV (Fu.hiOf (Fu.volR BA0 (⟨0, 0, ⟨50, 60⟩⟩ : Bt.Reading)))], .blk b7 51 [iV (Fu.loOf (Fu.volR BA0 (⟨0, 0, ⟨10, 20⟩⟩ : Bt.Reading))), iV (Fu.hiOf (Fu.volR BA0 (⟨0, 0, ⟨10, 20⟩⟩ : Bt.Reading)))], .blk b6 41 [iV 7, (.slice (some ⟨b5, 0, none⟩) 1 1), nS, nS], .blk b4 31 [.string (bs ([])), nS, iV 0, (.slice (some ⟨b2, 0, none⟩) 1 1), nS, nS, (.slice (some ⟨b3, 0, none⟩) 1 1), nS, nS, nS, iV 0]]) rfl rfl rfl (e_buildSlice (vals := [(0, (.slice (some ⟨b21, 0, none⟩) 1 1)), (1, (.slice (some ⟨b22, 0, none⟩) 1 1))]) (cells := [(.slice (some ⟨b21, 0, none⟩) 1 1), (.slice (some ⟨b22, 0, none⟩) 1 1)]) uT32 inf29 rfl rfl rfl (by kernel_rfl) rfl) ?_
 intro b23
 refine RW.frz (fun Φ19 hlΦ19 hshHI2 => ?_)
 replace hPT0 := hPT0.mono hlΦ19
 replace hPL0 := hPL0.mono hlΦ19
 replace hGA0 := hGA0.mono hlΦ19
 replace hBA0 := hBA0.mono hlΦ19
 replace hVO0 := hVO0.mono hlΦ19
 replace hHU0 := hHU0.mono hlΦ19
 replace hRD1 := hRD1.mono hlΦ19
 replace kfv1 := kfv1.mono hlΦ19
 replace kfv2 := kfv2.mono hlΦ19
 replace kfv3 := kfv3.mono hlΦ19
 replace kfv4 := kfv4.mono hlΦ19
 replace Hfv1 := Hfv1.mono hlΦ19
 replace hRD2 := hRD2.mono hlΦ19
 replace kfv5 := kfv5.mono hlΦ19
 replace kfv6 := kfv6.mono hlΦ19
 replace kfv7 := kfv7.mono hlΦ19
 replace kfv8 := kfv8.mono hlΦ19
 replace Hfv5 := Hfv5.mono hlΦ19
 replace hRD3 := hRD3.mono hlΦ19
 replace kfv9 := kfv9.mono hlΦ19
 replace kfv10 := kfv10.mono hlΦ19
 replace kfv11 := kfv11.mono hlΦ19
 replace kfv12 := kfv12.mono hlΦ19
 replace Hfv9 := Hfv9.mono hlΦ19
 replace hGA1 := hGA1.mono hlΦ19
 replace hNA1 := hNA1.mono hlΦ19
 replace hNA2 := hNA2.mono hlΦ19
 replace hNA3 := hNA3.mono hlΦ19
 replace hBA1 := hBA1.mono hlΦ19
 replace hHI1 := hHI1.mono hlΦ19
 replace hlv1 := hlv1.mono hlΦ19
 replace hNA4 := hNA4.mono hlΦ19
 replace hNA5 := hNA5.mono hlΦ19
 replace hHI2 : RepSl Φ19 HI2 (.slice (some ⟨b23, 0, none⟩) 2 2) := RowS.reps (xs := HI2) (cs := [[(.slice (some ⟨b21, 0, none⟩) 1 1)], [(.slice (some ⟨b22, 0, none⟩) 1 1)]]) hshHI2 rfl ⟨⟨_, rfl, hNA4⟩, ⟨_, rfl, hNA5⟩, trivial⟩ rfl (by decide)
 refine RW.effg (fun x : {y : Value × Hp // (fun r Ψ => RepSl Ψ (Fu.drift BA0.Gauges.length HI2) r) y.1 y.2 ∧ Hp.le Φ19 y.2} => x.1.1) (fun x => St ⟨w, Φ, []⟩ x.1.2 [.blk b15 41 [iV HU0.Hour, fv9, fv10, fv11], .blk b13 41 [iV HU0.Hour, fv5, fv6, fv7], .blk b11 41 [iV HU0.Hour, fv1, fv2, fv3], .blk b9 51 [iV (Fu.loOf (Fu.volR BA0 (⟨0, 0, ⟨51, 60⟩⟩ : Bt.Reading))), iV (Fu.hiOf (Fu.volR BA0 (⟨0, 0, ⟨51, 60⟩⟩ : Bt.Reading)))], .blk b8 51 [iV (Fu.loOf (Fu.volR BA0 (⟨0, 0, ⟨50, 60⟩⟩ : Bt.Reading))), iV (Fu.hiOf (Fu.volR BA0 (⟨0, 0, ⟨50, 60⟩⟩ : Bt.Reading)))], .blk b7 51 [iV (Fu.loOf (Fu.volR BA0 (⟨0, 0, ⟨10, 20⟩⟩ : Bt.Reading))), iV (Fu.hiOf (Fu.volR BA0 (⟨0, 0, ⟨10, 20⟩⟩ : Bt.Reading)))], .blk b6 41 [iV 7, (.slice (some ⟨b5, 0, none⟩) 1 1), nS, nS], .blk b4 31 [.string (bs ([])), nS, iV 0, (.slice (some ⟨b2, 0, none⟩) 1 1), nS, nS, (.slice (some ⟨b3, 0, none⟩) 1 1), nS, nS, nS, iV 0]]) rfl rfl rfl (e_callS (T := fun r Ψ => RepSl Ψ (Fu.drift BA0.Gauges.length HI2) r) (args := #[.agg #[.string (bs ([])), nS, iV 0, (.slice (some ⟨b2, 0, none⟩) 1 1), nS, nS, (.slice (some ⟨b3, 0, none⟩) 1 1), nS, nS, nS, iV 0], (.slice (some ⟨b23, 0, none⟩) 2 2)]) oK rfl rfl (fun w1 hw1 => (Drifting_c w1 (Go.K.hp w1) (Hp.le_refl _) (hBA0.mono hw1.phi) (hHI2.mono hw1.phi)).mono fun _ _ => retS_up (fun _ _ _ hl h => h.mono hl))) ?_
 rintro ⟨⟨lv2, Φ20⟩, hlv2, hlΦ20⟩
 replace hlv2 : RepSl Φ20 (Fu.drift BA0.Gauges.length HI2) lv2 := hlv2
 replace hlΦ20 : Hp.le Φ19 Φ20 := hlΦ20
 replace hPT0 := hPT0.mono hlΦ20
 replace hPL0 := hPL0.mono hlΦ20
 replace hGA0 := hGA0.mono hlΦ20
 replace hBA0 := hBA0.mono hlΦ20
 replace hVO0 := hVO0.mono hlΦ20
 replace hHU0 := hHU0.mono hlΦ20
 replace hRD1 := hRD1.mono hlΦ20
 replace kfv1 := kfv1.mono hlΦ20
 replace kfv2 := kfv2.mono hlΦ20
 replace kfv3 := kfv3.mono hlΦ20
 replace kfv4 := kfv4.mono hlΦ20
 replace Hfv1 := Hfv1.mono hlΦ20
 replace hRD2 := hRD2.mono hlΦ20
 replace kfv5 := kfv5.mono hlΦ20
 replace kfv6 := kfv6.mono hlΦ20
 replace kfv7 := kfv7.mono hlΦ20
 replace kfv8 := kfv8.mono hlΦ20
 replace Hfv5 := Hfv5.mono hlΦ20
 replace hRD3 := hRD3.mono hlΦ20
 replace kfv9 := kfv9.mono hlΦ20
 replace kfv10 := kfv10.mono hlΦ20
 replace kfv11 := kfv11.mono hlΦ20
 replace kfv12 := kfv12.mono hlΦ20
 replace Hfv9 := Hfv9.mono hlΦ20
 replace hGA1 := hGA1.mono hlΦ20
 replace hNA1 := hNA1.mono hlΦ20
 replace hNA2 := hNA2.mono hlΦ20
 replace hNA3 := hNA3.mono hlΦ20
 replace hBA1 := hBA1.mono hlΦ20
 replace hHI1 := hHI1.mono hlΦ20
 replace hlv1 := hlv1.mono hlΦ20
 replace hNA4 := hNA4.mono hlΦ20
 replace hNA5 := hNA5.mono hlΦ20
 replace hHI2 := hHI2.mono hlΦ20
 refine gs1 ?_
 refine RW.gl (v := .bool true) rfl rfl rfl (q_as (v := .bool (decide ((((Fu.drift BA0.Gauges.length HI2).length : Nat) : Int) = 0))) (q_eql rfl rfl) (congrArg Value.bool (by decide +kernel))) (RW.q (v := .bool true) rfl (q_pick (t := true) rfl (fun _ => rfl) (fun hp => nomatch hp)) ?_)
 refine gs4 ?_
 exact fin_val (v' := .bool true) rfl rfl rfl (rfl)
end Go.Proofs.YtblfeidlnhdekaaGreat
