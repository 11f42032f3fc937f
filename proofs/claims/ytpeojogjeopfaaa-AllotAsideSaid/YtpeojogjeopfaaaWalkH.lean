/- Walks (part WalkH), printed by walk2.py. Conditions: those of each theorem. -/
import Derived.Test.YtpeojogjeopfaaaWalkG
namespace Go.Proofs.Ytpeojogjeopfaaa
open Go Go.K Go.RowKit

def pl (d : Int) : Bt.Place := ⟨⟨#[]⟩, 0, 0, 0, [], [], 0, 0, d, 0, 0, []⟩
def PL0 : List Bt.Place := [pl 2, pl 2, pl (-1)]
def B0 : Bt.Basin := ⟨⟨#[]⟩, [], 0, PL0, [], [], [], [], [], [], 0⟩
def RS0 : List Bt.Right := [⟨1, 0, 0, 2, 30, 0, 0, 0, 0⟩, ⟨2, 0, 0, 0, 8, 0, 0, 500, 1⟩, ⟨3, 0, 0, 1, 8, 0, 0, 0, 0⟩]
def SU0 : List Int := [10, 20, 5]
def LE0 : List Int := [5, 20, 0]
def GR0 : List Bt.Grant := [⟨1, 30⟩, ⟨2, 5⟩, ⟨3, 0⟩]
theorem dayLit : Al.day B0.Places RS0 SU0 = (LE0, GR0) := by decide +kernel
theorem reach0 : Al.reach B0.Places 0 = ([0, 2] : List Int) := by decide +kernel
theorem reach3 : Al.reach B0.Places 3 = ([] : List Int) := by decide +kernel
theorem back0 : Al.back B0.Places RS0 ((GR0.take 2).drop 1) = ([0, 2, 0] : List Int) := by decide +kernel
theorem wf45 : ∀ x ∈ RS0, RepE.wf x := fun x hx => by
  simp only [RS0, List.mem_cons, List.not_mem_nil, or_false] at hx
  rcases hx with rfl | rfl | rfl <;> (simp only [RepE.wf, I64]; decide)
theorem wf47 : ∀ x ∈ GR0, RepE.wf x := fun x hx => by
  simp only [GR0, List.mem_cons, List.not_mem_nil, or_false] at hx
  rcases hx with rfl | rfl | rfl <;> (simp only [RepE.wf, I64]; decide)
def plc (d : Int) : List Value := [.string ⟨#[]⟩, .int .i64 0, .int .i64 0, .int .i64 0, .slice none 0 0, .slice none 0 0, .int .i64 0, .int .i64 0, .int .i64 d, .int .i64 0, .int .i64 0, .slice none 0 0]
theorem pl_rep {Φ : Hp} {d : Int} (hd : I64 d) : Rep.rep Φ (pl d) (plc d) := by
  have h0 : I64 0 := by unfold I64; omega
  exact ⟨_, _, _, rfl, ⟨by show 0 ≤ maxLen; exact Nat.zero_le _, h0, h0, h0, h0, h0, hd, h0, h0⟩, repSl_nil, repSl_nil, repSl_nil⟩
theorem pls_rep {Φ : Hp} {v : Value} (h : RowS Φ v 62 12 3 (plc 2 ++ (plc 2 ++ plc (-1)))) : RepSl Φ PL0 v := by
  refine RowS.rep h rfl (by decide) (fun i hi => ?_)
  have hl : ∀ d, (plc d).length = 12 := fun _ => rfl
  have hi3 : i < 3 := hi
  have hj12 : ∀ {d : Int} {j : Nat} {u : Value}, (plc d)[j]? = some u → j < 12 := fun hj => (List.getElem?_eq_some_iff.1 hj).1
  match i, hi3 with
  | 0, _ => exact ⟨plc 2, pl_rep (by unfold I64; omega), fun j u hj => by
      show (plc 2 ++ (plc 2 ++ plc (-1)))[0 * 12 + j]? = some u
      have := hj12 hj
      rw [Nat.zero_mul, Nat.zero_add, List.getElem?_append_left (by rw [hl]; exact this)]; exact hj⟩
  | 1, _ => exact ⟨plc 2, pl_rep (by unfold I64; omega), fun j u hj => by
      show (plc 2 ++ (plc 2 ++ plc (-1)))[1 * 12 + j]? = some u
      have := hj12 hj
      rw [List.getElem?_append_right (by rw [hl]; omega), hl, show 1 * 12 + j - 12 = j by omega, List.getElem?_append_left (by rw [hl]; exact this)]; exact hj⟩
  | 2, _ => exact ⟨plc (-1), pl_rep (by unfold I64; omega), fun j u hj => by
      show (plc 2 ++ (plc 2 ++ plc (-1)))[2 * 12 + j]? = some u
      rw [List.getElem?_append_right (by rw [hl]; omega), hl, List.getElem?_append_right (by rw [hl]; omega), hl, show 2 * 12 + j - 12 - 12 = j by omega]; exact hj⟩
set_option maxRecDepth 8000 in
set_option maxHeartbeats 1000000 in
theorem small_c (w : World) (Φ : Hp) (hΦ : Hp.le Φ (hp w))  :
    Calls Try.prog 9 #[] w fun e w' => e = .returned (.bool true) ∧ Below w.heap.size w w' := by
  refine calls_of_AW (args := []) Try.func9 rfl (Nat.le_of_ble_eq_true rfl) (St ⟨w, Φ, []⟩ Φ []) (StP.init w Φ hΦ []) ?_
  show AW Try.prog 55 [] _ _ _ [] _
  refine AW.seq ?_
  refine AW.region ?_
  refine RW.q (v := .bool false) rfl (q_assign rfl) ?_
  refine RW.nil ?_
  refine Post.then_n ?_
  refine AW.seq ?_
  refine AW.region ?_
  refine RW.q (v := .agg #[.string (⟨#[]⟩), .int .i64 0, .int .i64 0, .int .i64 0, (.slice none 0 0), (.slice none 0 0), .int .i64 0, .int .i64 0, .int .i64 2, .int .i64 0, .int .i64 0, (.slice none 0 0)]) rfl (q_build (vals := [(8, .int .i64 2)]) zero62 Try.underlying62 places62 rfl rfl) ?_
  refine RW.q (v := .agg #[.string (⟨#[]⟩), .int .i64 0, .int .i64 0, .int .i64 0, (.slice none 0 0), (.slice none 0 0), .int .i64 0, .int .i64 0, .int .i64 2, .int .i64 0, .int .i64 0, (.slice none 0 0)]) rfl (q_build (vals := [(8, .int .i64 2)]) zero62 Try.underlying62 places62 rfl rfl) ?_
  refine RW.q (v := .agg #[.string (⟨#[]⟩), .int .i64 0, .int .i64 0, .int .i64 0, (.slice none 0 0), (.slice none 0 0), .int .i64 0, .int .i64 0, .int .i64 (-1), .int .i64 0, .int .i64 0, (.slice none 0 0)]) rfl (q_build (vals := [(8, .int .i64 (-1))]) zero62 Try.underlying62 places62 rfl rfl) ?_
  refine RW.eff (fun b1 : Nat => (.slice (some ⟨b1, 0, none⟩) 3 3)) (fun b1 => St ⟨w, Φ, []⟩ Φ [.row (.slice (some ⟨b1, 0, none⟩) 3 3) 62 12 3 ([.string (⟨#[]⟩), .int .i64 0, .int .i64 0, .int .i64 0, (.slice none 0 0), (.slice none 0 0), .int .i64 0, .int .i64 0, .int .i64 2, .int .i64 0, .int .i64 0, (.slice none 0 0), .string (⟨#[]⟩), .int .i64 0, .int .i64 0, .int .i64 0, (.slice none 0 0), (.slice none 0 0), .int .i64 0, .int .i64 0, .int .i64 2, .int .i64 0, .int .i64 0, (.slice none 0 0), .string (⟨#[]⟩), .int .i64 0, .int .i64 0, .int .i64 0, (.slice none 0 0), (.slice none 0 0), .int .i64 0, .int .i64 0, .int .i64 (-1), .int .i64 0, .int .i64 0, (.slice none 0 0)])]) rfl (e_buildSlice (vals := [(0, .agg #[.string (⟨#[]⟩), .int .i64 0, .int .i64 0, .int .i64 0, (.slice none 0 0), (.slice none 0 0), .int .i64 0, .int .i64 0, .int .i64 2, .int .i64 0, .int .i64 0, (.slice none 0 0)]), (1, .agg #[.string (⟨#[]⟩), .int .i64 0, .int .i64 0, .int .i64 0, (.slice none 0 0), (.slice none 0 0), .int .i64 0, .int .i64 0, .int .i64 2, .int .i64 0, .int .i64 0, (.slice none 0 0)]), (2, .agg #[.string (⟨#[]⟩), .int .i64 0, .int .i64 0, .int .i64 0, (.slice none 0 0), (.slice none 0 0), .int .i64 0, .int .i64 0, .int .i64 (-1), .int .i64 0, .int .i64 0, (.slice none 0 0)])]) (cells := [.string (⟨#[]⟩), .int .i64 0, .int .i64 0, .int .i64 0, (.slice none 0 0), (.slice none 0 0), .int .i64 0, .int .i64 0, .int .i64 2, .int .i64 0, .int .i64 0, (.slice none 0 0), .string (⟨#[]⟩), .int .i64 0, .int .i64 0, .int .i64 0, (.slice none 0 0), (.slice none 0 0), .int .i64 0, .int .i64 0, .int .i64 2, .int .i64 0, .int .i64 0, (.slice none 0 0), .string (⟨#[]⟩), .int .i64 0, .int .i64 0, .int .i64 0, (.slice none 0 0), (.slice none 0 0), .int .i64 0, .int .i64 0, .int .i64 (-1), .int .i64 0, .int .i64 0, (.slice none 0 0)]) Try.underlying23 inf62 rfl rfl rfl (by kernel_rfl) rfl) ?_
  intro b1
  refine RW.frz (fun Φ1 hlΦ1 hshpl => ?_)
  replace hpl : RepSl Φ1 PL0 (.slice (some ⟨b1, 0, none⟩) 3 3) := pls_rep hshpl
  have hB0 : RepV Φ1 B0 [.string ⟨#[]⟩, .slice none 0 0, .int .i64 0, (.slice (some ⟨b1, 0, none⟩) 3 3), .slice none 0 0, .slice none 0 0, .slice none 0 0, .slice none 0 0, .slice none 0 0, .slice none 0 0, .int .i64 0] := ⟨_, _, _, _, _, _, _, _, rfl, ⟨by show 0 ≤ maxLen; exact Nat.zero_le _, by unfold I64; exact ⟨by decide, by decide⟩, by unfold I64; exact ⟨by decide, by decide⟩⟩, repSl_nil, hpl, repSl_nil, repSl_nil, repSl_nil, repSl_nil, repSl_nil, repSl_nil⟩
  refine RW.q (v := .agg #[.string (⟨#[]⟩), (.slice none 0 0), .int .i64 0, (.slice (some ⟨b1, 0, none⟩) 3 3), (.slice none 0 0), (.slice none 0 0), (.slice none 0 0), (.slice none 0 0), (.slice none 0 0), (.slice none 0 0), .int .i64 0]) rfl (q_build (vals := [(3, (.slice (some ⟨b1, 0, none⟩) 3 3))]) zero31 Try.underlying31 places31 rfl rfl) ?_
  refine RW.eff (fun b2 : Nat => .pointer (some (⟨b2, 0, none⟩))) (fun b2 => St ⟨w, Φ, []⟩ Φ1 [.blk b2 31 [.string (⟨#[]⟩), (.slice none 0 0), .int .i64 0, (.slice none 0 0), (.slice none 0 0), (.slice none 0 0), (.slice none 0 0), (.slice none 0 0), (.slice none 0 0), (.slice none 0 0), .int .i64 0]]) rfl (e_alloc zero31) ?_
  intro b2
  refine RW.effn (J' := St ⟨w, Φ, []⟩ Φ1 [.blk b2 31 [.string (⟨#[]⟩), (.slice none 0 0), .int .i64 0, (.slice (some ⟨b1, 0, none⟩) 3 3), (.slice none 0 0), (.slice none 0 0), (.slice none 0 0), (.slice none 0 0), (.slice none 0 0), (.slice none 0 0), .int .i64 0]]) (e_store (v := .agg #[.string (⟨#[]⟩), (.slice none 0 0), .int .i64 0, (.slice (some ⟨b1, 0, none⟩) 3 3), (.slice none 0 0), (.slice none 0 0), (.slice none 0 0), (.slice none 0 0), (.slice none 0 0), (.slice none 0 0), .int .i64 0]) 0 rfl rfl rfl sz31 rfl rfl rfl rfl rfl) ?_
  refine RW.nil ?_
  refine Post.then_n ?_
  refine AW.seq ?_
  refine AW.region ?_
  refine RW.q (v := .agg #[.int .i64 1, .int .i64 0, .int .i64 0, .int .i64 2, .int .i64 30, .int .i64 0, .int .i64 0, .int .i64 0, .int .i64 0]) rfl (q_build (vals := [(0, .int .i64 1), (3, .int .i64 2), (4, .int .i64 30)]) zero45 Try.underlying45 places45 rfl rfl) ?_
  refine RW.q (v := .agg #[.int .i64 2, .int .i64 0, .int .i64 0, .int .i64 0, .int .i64 8, .int .i64 0, .int .i64 0, .int .i64 500, .int .i64 1]) rfl (q_build (vals := [(0, .int .i64 2), (3, .int .i64 0), (4, .int .i64 8), (7, .int .i64 500), (8, .int .i64 1)]) zero45 Try.underlying45 places45 rfl rfl) ?_
  refine RW.q (v := .agg #[.int .i64 3, .int .i64 0, .int .i64 0, .int .i64 1, .int .i64 8, .int .i64 0, .int .i64 0, .int .i64 0, .int .i64 0]) rfl (q_build (vals := [(0, .int .i64 3), (3, .int .i64 1), (4, .int .i64 8)]) zero45 Try.underlying45 places45 rfl rfl) ?_
  refine RW.eff (fun b3 : Nat => (.slice (some ⟨b3, 0, none⟩) 3 3)) (fun b3 => St ⟨w, Φ, []⟩ Φ1 [.row (.slice (some ⟨b3, 0, none⟩) 3 3) 45 9 3 ([.int .i64 1, .int .i64 0, .int .i64 0, .int .i64 2, .int .i64 30, .int .i64 0, .int .i64 0, .int .i64 0, .int .i64 0, .int .i64 2, .int .i64 0, .int .i64 0, .int .i64 0, .int .i64 8, .int .i64 0, .int .i64 0, .int .i64 500, .int .i64 1, .int .i64 3, .int .i64 0, .int .i64 0, .int .i64 1, .int .i64 8, .int .i64 0, .int .i64 0, .int .i64 0, .int .i64 0]), .blk b2 31 [.string (⟨#[]⟩), (.slice none 0 0), .int .i64 0, (.slice (some ⟨b1, 0, none⟩) 3 3), (.slice none 0 0), (.slice none 0 0), (.slice none 0 0), (.slice none 0 0), (.slice none 0 0), (.slice none 0 0), .int .i64 0]]) rfl (e_buildSlice (vals := [(0, .agg #[.int .i64 1, .int .i64 0, .int .i64 0, .int .i64 2, .int .i64 30, .int .i64 0, .int .i64 0, .int .i64 0, .int .i64 0]), (1, .agg #[.int .i64 2, .int .i64 0, .int .i64 0, .int .i64 0, .int .i64 8, .int .i64 0, .int .i64 0, .int .i64 500, .int .i64 1]), (2, .agg #[.int .i64 3, .int .i64 0, .int .i64 0, .int .i64 1, .int .i64 8, .int .i64 0, .int .i64 0, .int .i64 0, .int .i64 0])]) (cells := [.int .i64 1, .int .i64 0, .int .i64 0, .int .i64 2, .int .i64 30, .int .i64 0, .int .i64 0, .int .i64 0, .int .i64 0, .int .i64 2, .int .i64 0, .int .i64 0, .int .i64 0, .int .i64 8, .int .i64 0, .int .i64 0, .int .i64 500, .int .i64 1, .int .i64 3, .int .i64 0, .int .i64 0, .int .i64 1, .int .i64 8, .int .i64 0, .int .i64 0, .int .i64 0, .int .i64 0]) Try.underlying32 inf45 rfl rfl rfl (by kernel_rfl) rfl) ?_
  intro b3
  refine RW.frz (fun Φ2 hlΦ2 hshrs => ?_)
  replace hB0 := hB0.mono hlΦ2
  replace hpl := hpl.mono hlΦ2
  replace hrs : RepSl Φ2 RS0 (.slice (some ⟨b3, 0, none⟩) 3 3) := RowS.repE even45 (T := 45) (l := RS0) (n := 3) (hshrs) rfl (by decide) (wf45)
  refine RW.q (v := (.slice (some ⟨b3, 0, none⟩) 3 3)) rfl (q_assign rfl) ?_
  refine RW.nil ?_
  refine Post.then_n ?_
  refine AW.seq ?_
  refine AW.region ?_
  refine RW.q (v := .agg #[.string (⟨#[]⟩), (.slice none 0 0), .int .i64 0, (.slice (some ⟨b1, 0, none⟩) 3 3), (.slice none 0 0), (.slice none 0 0), (.slice none 0 0), (.slice none 0 0), (.slice none 0 0), (.slice none 0 0), .int .i64 0]) rfl (q_loadAgg rfl Try.underlying31 rfl sz31 rfl (Cells.blk 0 rfl)) ?_
  refine RW.q (v := (.slice (some ⟨b3, 0, none⟩) 3 3)) rfl (q_move rfl) ?_
  refine RW.eff (fun b4 : Nat => (.slice (some ⟨b4, 0, none⟩) 3 3)) (fun b4 => St ⟨w, Φ, []⟩ Φ2 [.row (.slice (some ⟨b4, 0, none⟩) 3 3) 3 1 3 ([.int .i64 10, .int .i64 20, .int .i64 5]), .blk b2 31 [.string (⟨#[]⟩), (.slice none 0 0), .int .i64 0, (.slice (some ⟨b1, 0, none⟩) 3 3), (.slice none 0 0), (.slice none 0 0), (.slice none 0 0), (.slice none 0 0), (.slice none 0 0), (.slice none 0 0), .int .i64 0]]) rfl (e_buildSlice (vals := [(0, .int .i64 10), (1, .int .i64 20), (2, .int .i64 5)]) (cells := [.int .i64 10, .int .i64 20, .int .i64 5]) Try.underlying29 inf3 rfl rfl rfl (by kernel_rfl) rfl) ?_
  intro b4
  refine RW.frz (fun Φ3 hlΦ3 hshsu => ?_)
  replace hB0 := hB0.mono hlΦ3
  replace hpl := hpl.mono hlΦ3
  replace hrs := hrs.mono hlΦ3
  replace hsu : RepSl Φ3 (SU0 : List Int) (.slice (some ⟨b4, 0, none⟩) 3 3) := RowS.ints (T := 3) (n := 3) (hshsu) (by decide) (int_wf (by decide))
  refine RW.eff (fun x : {y : Value × Value × Hp // RepSl y.2.2 (Al.day B0.Places RS0 SU0).2 y.1 ∧ IsSl y.2.1 B0.Places.length ∧ Hp.le Φ3 y.2.2} => .tuple #[x.1.1, x.1.2.1]) (fun x => St ⟨w, Φ, []⟩ x.1.2.2 [.row x.1.2.1 3 1 B0.Places.length (((Al.day B0.Places RS0 SU0).1).map (Value.int .i64)), .blk b2 31 [.string (⟨#[]⟩), (.slice none 0 0), .int .i64 0, (.slice (some ⟨b1, 0, none⟩) 3 3), (.slice none 0 0), (.slice none 0 0), (.slice none 0 0), (.slice none 0 0), (.slice none 0 0), (.slice none 0 0), .int .i64 0]]) rfl (e_call (args := #[.agg #[.string (⟨#[]⟩), (.slice none 0 0), .int .i64 0, (.slice (some ⟨b1, 0, none⟩) 3 3), (.slice none 0 0), (.slice none 0 0), (.slice none 0 0), (.slice none 0 0), (.slice none 0 0), (.slice none 0 0), .int .i64 0], (.slice (some ⟨b3, 0, none⟩) 3 3), (.slice (some ⟨b4, 0, none⟩) 3 3)]) own11 rfl rfl (fun w1 hw1 => Day_c rfl hB0 hrs hsu w1 hw1)) ?_
  rintro ⟨⟨gv1, dl1, Φ4⟩, hgr1, hdl1, hlΦ4⟩
  replace hgr1 : RepSl Φ4 (Al.day B0.Places RS0 SU0).2 gv1 := hgr1
  replace hlΦ4 : Hp.le Φ3 Φ4 := hlΦ4
  replace hB0 := hB0.mono hlΦ4
  replace hpl := hpl.mono hlΦ4
  replace hrs := hrs.mono hlΦ4
  replace hsu := hsu.mono hlΦ4
  replace hgr1 : RepSl Φ4 GR0 gv1 := by rw [dayLit] at hgr1; exact hgr1
  simp only [dayLit]
  refine RW.frz (fun Φ5 hlΦ5 hshle => ?_)
  replace hB0 := hB0.mono hlΦ5
  replace hpl := hpl.mono hlΦ5
  replace hrs := hrs.mono hlΦ5
  replace hsu := hsu.mono hlΦ5
  replace hgr1 := hgr1.mono hlΦ5
  replace hle : RepSl Φ5 LE0 dl1 := RowS.ints (T := 3) (n := B0.Places.length) (hshle) (by decide) (int_wf (by decide))
  refine RW.q (v := .tuple #[gv1, dl1]) rfl (q_move rfl) ?_
  refine RW.q (v := gv1) rfl (q_extract rfl rfl) ?_
  refine RW.q (v := dl1) rfl (q_extract rfl rfl) ?_
  refine RW.q (v := gv1) rfl (q_assign rfl) ?_
  refine RW.q (v := dl1) rfl (q_assign rfl) ?_
  refine RW.nil ?_
  refine Post.then_n ?_
  refine AW.seq ?_
  refine AW.region ?_
  refine RW.q (v := .agg #[.int .i64 1, .int .i64 30]) rfl (q_build (vals := [(0, .int .i64 1), (1, .int .i64 30)]) zero47 Try.underlying47 places47 rfl rfl) ?_
  refine RW.q (v := .agg #[.int .i64 2, .int .i64 5]) rfl (q_build (vals := [(0, .int .i64 2), (1, .int .i64 5)]) zero47 Try.underlying47 places47 rfl rfl) ?_
  refine RW.q (v := .agg #[.int .i64 3, .int .i64 0]) rfl (q_build (vals := [(0, .int .i64 3)]) zero47 Try.underlying47 places47 rfl rfl) ?_
  refine RW.eff (fun b5 : Nat => (.slice (some ⟨b5, 0, none⟩) 3 3)) (fun b5 => St ⟨w, Φ, []⟩ Φ5 [.row (.slice (some ⟨b5, 0, none⟩) 3 3) 47 2 3 ([.int .i64 1, .int .i64 30, .int .i64 2, .int .i64 5, .int .i64 3, .int .i64 0]), .blk b2 31 [.string (⟨#[]⟩), (.slice none 0 0), .int .i64 0, (.slice (some ⟨b1, 0, none⟩) 3 3), (.slice none 0 0), (.slice none 0 0), (.slice none 0 0), (.slice none 0 0), (.slice none 0 0), (.slice none 0 0), .int .i64 0]]) rfl (e_buildSlice (vals := [(0, .agg #[.int .i64 1, .int .i64 30]), (1, .agg #[.int .i64 2, .int .i64 5]), (2, .agg #[.int .i64 3, .int .i64 0])]) (cells := [.int .i64 1, .int .i64 30, .int .i64 2, .int .i64 5, .int .i64 3, .int .i64 0]) Try.underlying33 inf47 rfl rfl rfl (by kernel_rfl) rfl) ?_
  intro b5
  refine RW.frz (fun Φ6 hlΦ6 hshwa => ?_)
  replace hB0 := hB0.mono hlΦ6
  replace hpl := hpl.mono hlΦ6
  replace hrs := hrs.mono hlΦ6
  replace hsu := hsu.mono hlΦ6
  replace hgr1 := hgr1.mono hlΦ6
  replace hle := hle.mono hlΦ6
  replace hwa : RepSl Φ6 GR0 (.slice (some ⟨b5, 0, none⟩) 3 3) := RowS.repE even47 (T := 47) (l := GR0) (n := 3) (hshwa) rfl (by decide) (wf47)
  refine RW.q (v := (.slice (some ⟨b5, 0, none⟩) 3 3)) rfl (q_assign rfl) ?_
  refine RW.nil ?_
  refine Post.then_n ?_
  refine AW.seq ?_
  have hGl : GR0.length = 3 := rfl
  have hB0_0 := hB0
  have hpl_0 := hpl
  have hrs_0 := hrs
  have hsu_0 := hsu
  have hgr1_0 := hgr1
  have hle_0 := hle
  have hwa_0 := hwa
  refine AW.draw (J0 := St ⟨w, Φ, []⟩ Φ6 [.blk b2 31 [.string (⟨#[]⟩), (.slice none 0 0), .int .i64 0, (.slice (some ⟨b1, 0, none⟩) 3 3), (.slice none 0 0), (.slice none 0 0), (.slice none 0 0), (.slice none 0 0), (.slice none 0 0), (.slice none 0 0), .int .i64 0]]) [.q, .q, .q, .q, .q, .e, .e, .q, .q, .q, .p, .e, .e, .q, .q, .q, .e, .q, .q, .q, .q, .q, .q, .q, .q, .p, .e, .e, .q, .q] [0, 1, 2, 3, 4, 5, 6, 7, 8, 9, 10, 11, 12, 13, 14, 15, 16, 17, 18, 19, 20, 21, 22, 23, 24, 25, 26, 27, 28, 29] hmix (by kernel_rfl) ?_
  refine DW.q (v := gv1) (fun _ h => h) rfl (q_move rfl) ?_
  refine DW.q (v := (.slice (some ⟨b5, 0, none⟩) 3 3)) (fun _ h => h) rfl (q_move rfl) ?_
  refine DW.q (v := .bool true) (fun _ h => h) rfl (q_as (v := .bool (decide (GR0 = GR0))) (q_call (args := #[gv1, (.slice (some ⟨b5, 0, none⟩) 3 3)]) own18 rfl rfl (fun w1 hw1 => Same_c w1 (Go.K.hp w1) (Hp.le_refl _) (hgr1.mono hw1.phi) (hwa.mono hw1.phi))) (congrArg Value.bool (by decide +kernel))) ?_
  refine DW.q (v := .bool true) (fun _ h => h) rfl (q_move rfl) ?_
  refine DW.gl (v := dl1) (fun _ h => h) rfl rfl rfl (q_move rfl) ?_
  refine DW.effg (fun b6 : Nat => (.slice (some ⟨b6, 0, none⟩) 3 3)) (fun b6 => St ⟨w, Φ, []⟩ Φ6 [.row (.slice (some ⟨b6, 0, none⟩) 3 3) 3 1 3 ([.int .i64 5, .int .i64 20, .int .i64 0]), .blk b2 31 [.string (⟨#[]⟩), (.slice none 0 0), .int .i64 0, (.slice (some ⟨b1, 0, none⟩) 3 3), (.slice none 0 0), (.slice none 0 0), (.slice none 0 0), (.slice none 0 0), (.slice none 0 0), (.slice none 0 0), .int .i64 0]]) (fun _ _ => (fun _ h => (StP.drop h (by exact .cons _ (.cons_cons _ (.slnil)))))) rfl rfl rfl (e_buildSlice (vals := [(0, .int .i64 5), (1, .int .i64 20), (2, .int .i64 0)]) (cells := [.int .i64 5, .int .i64 20, .int .i64 0]) Try.underlying29 inf3 rfl rfl rfl (by kernel_rfl) rfl) ?_
  intro b6
  refine DW.qeg (v := .bool true) (fun _ => (fun _ h => (StP.drop h (by exact .cons _ (.cons_cons _ (.slnil)))))) rfl rfl rfl (q_as (v := .bool (decide (LE0 = ([5, 20, 0] : List Int)))) (q_call (args := #[dl1, (.slice (some ⟨b6, 0, none⟩) 3 3)]) own13 rfl rfl (fun w1 hw1 => SameInts_c w1 (Go.K.hp w1) (Hp.le_refl _) (hle.mono hw1.phi) (RowS.ints (xs := [5, 20, 0]) (show RowS (Go.K.hp w1) (.slice (some ⟨b6, 0, none⟩) 3 3) 3 1 (3) ([.int .i64 5, .int .i64 20, .int .i64 0]) from hw1.sat _ (List.mem_of_getElem? (i := 0) rfl)) (by decide) (int_wf (by decide))))) (congrArg Value.bool (by decide +kernel))) ?_
  refine DW.q (v := .bool true) (fun _ h => (StP.drop h (by exact .cons _ (.cons_cons _ (.slnil))))) rfl (q_pick rfl (fun hp => pkOrT (q := true) (r := false) hp) (fun hp => pkOrF (q := true) (r := false) hp)) ?_
  refine DW.q (v := .bool true) (fun _ h => (StP.drop h (by exact .cons _ (.cons_cons _ (.slnil))))) rfl (q_move rfl) ?_
  refine DW.gl (v := .agg #[.string (⟨#[]⟩), (.slice none 0 0), .int .i64 0, (.slice (some ⟨b1, 0, none⟩) 3 3), (.slice none 0 0), (.slice none 0 0), (.slice none 0 0), (.slice none 0 0), (.slice none 0 0), (.slice none 0 0), .int .i64 0]) (fun _ h => (StP.drop h (by exact .cons _ (.cons_cons _ (.slnil))))) rfl rfl rfl (q_loadAgg rfl Try.underlying31 rfl sz31 rfl (Cells.blk 0 rfl)) ?_
  refine DW.pair (X := {y : Value × Hp // (fun r Ψ => RepSl Ψ ([0, 2] : List Int) r) y.1 y.2 ∧ Hp.le Φ6 y.2}) (Y := Nat) (fun x => x.1.1) (fun b7 => (.slice (some ⟨b7, 0, none⟩) 2 2)) (fun x => St ⟨w, Φ, []⟩ x.1.2 [.row (.slice (some ⟨b6, 0, none⟩) 3 3) 3 1 3 ([.int .i64 5, .int .i64 20, .int .i64 0]), .blk b2 31 [.string (⟨#[]⟩), (.slice none 0 0), .int .i64 0, (.slice (some ⟨b1, 0, none⟩) 3 3), (.slice none 0 0), (.slice none 0 0), (.slice none 0 0), (.slice none 0 0), (.slice none 0 0), (.slice none 0 0), .int .i64 0]]) (fun b7 => St ⟨w, Φ, []⟩ Φ6 [.row (.slice (some ⟨b7, 0, none⟩) 2 2) 3 1 2 ([.int .i64 0, .int .i64 2]), .row (.slice (some ⟨b6, 0, none⟩) 3 3) 3 1 3 ([.int .i64 5, .int .i64 20, .int .i64 0]), .blk b2 31 [.string (⟨#[]⟩), (.slice none 0 0), .int .i64 0, (.slice (some ⟨b1, 0, none⟩) 3 3), (.slice none 0 0), (.slice none 0 0), (.slice none 0 0), (.slice none 0 0), (.slice none 0 0), (.slice none 0 0), .int .i64 0]]) (fun x b7 => St ⟨w, Φ, []⟩ x.1.2 [.row (.slice (some ⟨b7, 0, none⟩) 2 2) 3 1 2 ([.int .i64 0, .int .i64 2]), .row (.slice (some ⟨b6, 0, none⟩) 3 3) 3 1 3 ([.int .i64 5, .int .i64 20, .int .i64 0]), .blk b2 31 [.string (⟨#[]⟩), (.slice none 0 0), .int .i64 0, (.slice (some ⟨b1, 0, none⟩) 3 3), (.slice none 0 0), (.slice none 0 0), (.slice none 0 0), (.slice none 0 0), (.slice none 0 0), (.slice none 0 0), .int .i64 0]]) rfl rfl rfl ⟨_, rfl, rfl⟩ ⟨_, rfl, rfl⟩ (fun _ => ⟨_, rfl, rfl⟩) (fun _ => ⟨_, rfl, rfl⟩) (fun x _ h => StP.know x.2.2 (StP.drop h (by exact .cons _ (.cons_cons _ (.slnil))))) (fun b7 _ h => (StP.drop h (by exact .cons _ (.cons _ (.cons_cons _ (.slnil)))))) (fun x b7 _ h => StP.know x.2.2 (StP.drop h (by exact .cons _ (.cons _ (.cons_cons _ (.slnil)))))) (e_callS (T := fun r Ψ => RepSl Ψ ([0, 2] : List Int) r) (args := #[.agg #[.string (⟨#[]⟩), (.slice none 0 0), .int .i64 0, (.slice (some ⟨b1, 0, none⟩) 3 3), (.slice none 0 0), (.slice none 0 0), (.slice none 0 0), (.slice none 0 0), (.slice none 0 0), (.slice none 0 0), .int .i64 0], .int .i64 0]) own14 rfl rfl (fun w1 hw1 => ((Reach_c w1 (Go.K.hp w1) (Hp.le_refl _) (hB0.mono hw1.phi)).mono fun _ _ => retS_up (fun _ _ _ hl h => h.mono hl)).mono fun _ _ h => (by rw [reach0] at h; exact h))) (fun x => e_buildSlice (vals := [(0, .int .i64 0), (1, .int .i64 2)]) (cells := [.int .i64 0, .int .i64 2]) Try.underlying29 inf3 rfl rfl rfl (by kernel_rfl) rfl) (e_buildSlice (vals := [(0, .int .i64 0), (1, .int .i64 2)]) (cells := [.int .i64 0, .int .i64 2]) Try.underlying29 inf3 rfl rfl rfl (by kernel_rfl) rfl) (fun b7 => e_callS (T := fun r Ψ => RepSl Ψ ([0, 2] : List Int) r) (args := #[.agg #[.string (⟨#[]⟩), (.slice none 0 0), .int .i64 0, (.slice (some ⟨b1, 0, none⟩) 3 3), (.slice none 0 0), (.slice none 0 0), (.slice none 0 0), (.slice none 0 0), (.slice none 0 0), (.slice none 0 0), .int .i64 0], .int .i64 0]) own14 rfl rfl (fun w1 hw1 => ((Reach_c w1 (Go.K.hp w1) (Hp.le_refl _) (hB0.mono hw1.phi)).mono fun _ _ => retS_up (fun _ _ _ hl h => h.mono hl)).mono fun _ _ h => (by rw [reach0] at h; exact h))) ?_
  rintro ⟨⟨lv1, Φ7⟩, hlv1, hlΦ7⟩ b7
  replace hlv1 : RepSl Φ7 ([0, 2] : List Int) lv1 := hlv1
  replace hlΦ7 : Hp.le Φ6 Φ7 := hlΦ7
  replace hB0 := hB0.mono hlΦ7
  replace hpl := hpl.mono hlΦ7
  replace hrs := hrs.mono hlΦ7
  replace hsu := hsu.mono hlΦ7
  replace hgr1 := hgr1.mono hlΦ7
  replace hle := hle.mono hlΦ7
  replace hwa := hwa.mono hlΦ7
  refine DW.qeg (v := .bool true) (fun _ => (fun _ h => StP.know hlΦ7 (StP.drop h (by exact .cons _ (.cons _ (.cons_cons _ (.slnil))))))) rfl rfl rfl (q_as (v := .bool (decide (([0, 2] : List Int) = ([0, 2] : List Int)))) (q_call (args := #[lv1, (.slice (some ⟨b7, 0, none⟩) 2 2)]) own13 rfl rfl (fun w1 hw1 => SameInts_c w1 (Go.K.hp w1) (Hp.le_refl _) (hlv1.mono hw1.phi) (RowS.ints (xs := [0, 2]) (show RowS (Go.K.hp w1) (.slice (some ⟨b7, 0, none⟩) 2 2) 3 1 (2) ([.int .i64 0, .int .i64 2]) from hw1.sat _ (List.mem_of_getElem? (i := 0) rfl)) (by decide) (int_wf (by decide))))) (congrArg Value.bool (by decide +kernel))) ?_
  refine DW.q (v := .bool true) (fun _ h => StP.know hlΦ7 (StP.drop h (by exact .cons _ (.cons _ (.cons_cons _ (.slnil)))))) rfl (q_pick rfl (fun hp => pkOrT (q := true) (r := false) hp) (fun hp => pkOrF (q := true) (r := false) hp)) ?_
  refine DW.q (v := .bool true) (fun _ h => StP.know hlΦ7 (StP.drop h (by exact .cons _ (.cons _ (.cons_cons _ (.slnil)))))) rfl (q_move rfl) ?_
  refine DW.gl (v := .agg #[.string (⟨#[]⟩), (.slice none 0 0), .int .i64 0, (.slice (some ⟨b1, 0, none⟩) 3 3), (.slice none 0 0), (.slice none 0 0), (.slice none 0 0), (.slice none 0 0), (.slice none 0 0), (.slice none 0 0), .int .i64 0]) (fun _ h => StP.know hlΦ7 (StP.drop h (by exact .cons _ (.cons _ (.cons_cons _ (.slnil)))))) rfl rfl rfl (q_loadAgg rfl Try.underlying31 rfl sz31 rfl (Cells.blk 0 rfl)) ?_
  refine DW.effg (fun x : {y : Value × Hp // (fun r Ψ => RepSl Ψ ([] : List Int) r) y.1 y.2 ∧ Hp.le Φ7 y.2} => x.1.1) (fun x => St ⟨w, Φ, []⟩ x.1.2 [.row (.slice (some ⟨b7, 0, none⟩) 2 2) 3 1 2 ([.int .i64 0, .int .i64 2]), .row (.slice (some ⟨b6, 0, none⟩) 3 3) 3 1 3 ([.int .i64 5, .int .i64 20, .int .i64 0]), .blk b2 31 [.string (⟨#[]⟩), (.slice none 0 0), .int .i64 0, (.slice (some ⟨b1, 0, none⟩) 3 3), (.slice none 0 0), (.slice none 0 0), (.slice none 0 0), (.slice none 0 0), (.slice none 0 0), (.slice none 0 0), .int .i64 0]]) (fun _ x => (fun _ h => StP.know (Hp.le_trans hlΦ7 x.2.2) (StP.drop h (by exact .cons _ (.cons _ (.cons_cons _ (.slnil))))))) rfl rfl rfl (e_callS (T := fun r Ψ => RepSl Ψ ([] : List Int) r) (args := #[.agg #[.string (⟨#[]⟩), (.slice none 0 0), .int .i64 0, (.slice (some ⟨b1, 0, none⟩) 3 3), (.slice none 0 0), (.slice none 0 0), (.slice none 0 0), (.slice none 0 0), (.slice none 0 0), (.slice none 0 0), .int .i64 0], .int .i64 3]) own14 rfl rfl (fun w1 hw1 => ((Reach_c w1 (Go.K.hp w1) (Hp.le_refl _) (hB0.mono hw1.phi)).mono fun _ _ => retS_up (fun _ _ _ hl h => h.mono hl)).mono fun _ _ h => (by rw [reach3] at h; exact h))) ?_
  rintro ⟨⟨lv3, Φ9⟩, hlv3, hlΦ9⟩
  replace hlv3 : RepSl Φ9 ([] : List Int) lv3 := hlv3
  replace hlΦ9 : Hp.le Φ7 Φ9 := hlΦ9
  replace hB0 := hB0.mono hlΦ9
  replace hpl := hpl.mono hlΦ9
  replace hrs := hrs.mono hlΦ9
  replace hsu := hsu.mono hlΦ9
  replace hgr1 := hgr1.mono hlΦ9
  replace hle := hle.mono hlΦ9
  replace hwa := hwa.mono hlΦ9
  replace hlv1 := hlv1.mono hlΦ9
  refine DW.gl (v := .int .i64 ((([] : List Int).length : Nat) : Int)) (fun _ h => StP.know (Hp.le_trans hlΦ7 hlΦ9) (StP.drop h (by exact .cons _ (.cons _ (.cons_cons _ (.slnil)))))) rfl rfl rfl (q_len_sl rfl hlv3.sl Try.underlying29) ?_
  refine DW.gl (v := .bool true) (fun _ h => StP.know (Hp.le_trans hlΦ7 hlΦ9) (StP.drop h (by exact .cons _ (.cons _ (.cons_cons _ (.slnil)))))) rfl rfl rfl (q_as (v := .bool (decide (((([] : List Int).length : Nat) : Int) = 0))) (q_eql rfl rfl) (congrArg Value.bool (by decide +kernel))) ?_
  refine DW.q (v := .bool true) (fun _ h => StP.know (Hp.le_trans hlΦ7 hlΦ9) (StP.drop h (by exact .cons _ (.cons _ (.cons_cons _ (.slnil)))))) rfl (q_pick rfl (fun hp => pkOrT (q := true) (r := false) hp) (fun hp => pkOrF (q := true) (r := false) hp)) ?_
  refine DW.q (v := .bool true) (fun _ h => StP.know (Hp.le_trans hlΦ7 hlΦ9) (StP.drop h (by exact .cons _ (.cons _ (.cons_cons _ (.slnil)))))) rfl (q_move rfl) ?_
  refine DW.gl (v := .agg #[.string (⟨#[]⟩), (.slice none 0 0), .int .i64 0, (.slice (some ⟨b1, 0, none⟩) 3 3), (.slice none 0 0), (.slice none 0 0), (.slice none 0 0), (.slice none 0 0), (.slice none 0 0), (.slice none 0 0), .int .i64 0]) (fun _ h => StP.know (Hp.le_trans hlΦ7 hlΦ9) (StP.drop h (by exact .cons _ (.cons _ (.cons_cons _ (.slnil)))))) rfl rfl rfl (q_loadAgg rfl Try.underlying31 rfl sz31 rfl (Cells.blk 0 rfl)) ?_
  refine DW.gl (v := (.slice (some ⟨b3, 0, none⟩) 3 3)) (fun _ h => StP.know (Hp.le_trans hlΦ7 hlΦ9) (StP.drop h (by exact .cons _ (.cons _ (.cons_cons _ (.slnil)))))) rfl rfl rfl (q_move rfl) ?_
  refine DW.gl (v := gv1) (fun _ h => StP.know (Hp.le_trans hlΦ7 hlΦ9) (StP.drop h (by exact .cons _ (.cons _ (.cons_cons _ (.slnil)))))) rfl rfl rfl (q_move rfl) ?_
  refine DW.gl (v := (subSl gv1 1 2 2)) (fun _ h => StP.know (Hp.le_trans hlΦ7 hlΦ9) (StP.drop h (by exact .cons _ (.cons _ (.cons_cons _ (.slnil)))))) rfl rfl rfl (q_sliceLH (v := gv1) (l := 1) (m := 2) rfl rfl rfl hgr1_0.sl Try.underlying33 sz47 (by omega) (by omega) (by omega)) ?_
  refine DW.pair (X := {y : Value × Hp // (fun r Ψ => RepSl Ψ ([0, 2, 0] : List Int) r) y.1 y.2 ∧ Hp.le Φ9 y.2}) (Y := Nat) (fun x => x.1.1) (fun b9 => (.slice (some ⟨b9, 0, none⟩) 3 3)) (fun x => St ⟨w, Φ, []⟩ x.1.2 [.row (.slice (some ⟨b7, 0, none⟩) 2 2) 3 1 2 ([.int .i64 0, .int .i64 2]), .row (.slice (some ⟨b6, 0, none⟩) 3 3) 3 1 3 ([.int .i64 5, .int .i64 20, .int .i64 0]), .blk b2 31 [.string (⟨#[]⟩), (.slice none 0 0), .int .i64 0, (.slice (some ⟨b1, 0, none⟩) 3 3), (.slice none 0 0), (.slice none 0 0), (.slice none 0 0), (.slice none 0 0), (.slice none 0 0), (.slice none 0 0), .int .i64 0]]) (fun b9 => St ⟨w, Φ, []⟩ Φ9 [.row (.slice (some ⟨b9, 0, none⟩) 3 3) 3 1 3 ([.int .i64 0, .int .i64 2, .int .i64 0]), .row (.slice (some ⟨b7, 0, none⟩) 2 2) 3 1 2 ([.int .i64 0, .int .i64 2]), .row (.slice (some ⟨b6, 0, none⟩) 3 3) 3 1 3 ([.int .i64 5, .int .i64 20, .int .i64 0]), .blk b2 31 [.string (⟨#[]⟩), (.slice none 0 0), .int .i64 0, (.slice (some ⟨b1, 0, none⟩) 3 3), (.slice none 0 0), (.slice none 0 0), (.slice none 0 0), (.slice none 0 0), (.slice none 0 0), (.slice none 0 0), .int .i64 0]]) (fun x b9 => St ⟨w, Φ, []⟩ x.1.2 [.row (.slice (some ⟨b9, 0, none⟩) 3 3) 3 1 3 ([.int .i64 0, .int .i64 2, .int .i64 0]), .row (.slice (some ⟨b7, 0, none⟩) 2 2) 3 1 2 ([.int .i64 0, .int .i64 2]), .row (.slice (some ⟨b6, 0, none⟩) 3 3) 3 1 3 ([.int .i64 5, .int .i64 20, .int .i64 0]), .blk b2 31 [.string (⟨#[]⟩), (.slice none 0 0), .int .i64 0, (.slice (some ⟨b1, 0, none⟩) 3 3), (.slice none 0 0), (.slice none 0 0), (.slice none 0 0), (.slice none 0 0), (.slice none 0 0), (.slice none 0 0), .int .i64 0]]) rfl rfl rfl ⟨_, rfl, rfl⟩ ⟨_, rfl, rfl⟩ (fun _ => ⟨_, rfl, rfl⟩) (fun _ => ⟨_, rfl, rfl⟩) (fun x _ h => StP.know (Hp.le_trans (Hp.le_trans hlΦ7 hlΦ9) x.2.2) (StP.drop h (by exact .cons _ (.cons _ (.cons_cons _ (.slnil)))))) (fun b9 _ h => StP.know (Hp.le_trans hlΦ7 hlΦ9) (StP.drop h (by exact .cons _ (.cons _ (.cons _ (.cons_cons _ (.slnil))))))) (fun x b9 _ h => StP.know (Hp.le_trans (Hp.le_trans hlΦ7 hlΦ9) x.2.2) (StP.drop h (by exact .cons _ (.cons _ (.cons _ (.cons_cons _ (.slnil))))))) (e_callS (T := fun r Ψ => RepSl Ψ ([0, 2, 0] : List Int) r) (args := #[.agg #[.string (⟨#[]⟩), (.slice none 0 0), .int .i64 0, (.slice (some ⟨b1, 0, none⟩) 3 3), (.slice none 0 0), (.slice none 0 0), (.slice none 0 0), (.slice none 0 0), (.slice none 0 0), (.slice none 0 0), .int .i64 0], (.slice (some ⟨b3, 0, none⟩) 3 3), (subSl gv1 1 2 2)]) own16 rfl rfl (fun w1 hw1 => ((Back_c w1 (Go.K.hp w1) (Hp.le_refl _) (hB0.mono hw1.phi) (hrs.mono hw1.phi) ((hgr1.part (l := 1) (m := 2) (by omega) (by omega)).mono hw1.phi)).mono fun _ _ => retS_up (fun _ _ _ hl h => h.mono hl)).mono fun _ _ h => (by rw [back0] at h; exact h))) (fun x => e_buildSlice (vals := [(0, .int .i64 0), (1, .int .i64 2), (2, .int .i64 0)]) (cells := [.int .i64 0, .int .i64 2, .int .i64 0]) Try.underlying29 inf3 rfl rfl rfl (by kernel_rfl) rfl) (e_buildSlice (vals := [(0, .int .i64 0), (1, .int .i64 2), (2, .int .i64 0)]) (cells := [.int .i64 0, .int .i64 2, .int .i64 0]) Try.underlying29 inf3 rfl rfl rfl (by kernel_rfl) rfl) (fun b9 => e_callS (T := fun r Ψ => RepSl Ψ ([0, 2, 0] : List Int) r) (args := #[.agg #[.string (⟨#[]⟩), (.slice none 0 0), .int .i64 0, (.slice (some ⟨b1, 0, none⟩) 3 3), (.slice none 0 0), (.slice none 0 0), (.slice none 0 0), (.slice none 0 0), (.slice none 0 0), (.slice none 0 0), .int .i64 0], (.slice (some ⟨b3, 0, none⟩) 3 3), (subSl gv1 1 2 2)]) own16 rfl rfl (fun w1 hw1 => ((Back_c w1 (Go.K.hp w1) (Hp.le_refl _) (hB0.mono hw1.phi) (hrs.mono hw1.phi) ((hgr1.part (l := 1) (m := 2) (by omega) (by omega)).mono hw1.phi)).mono fun _ _ => retS_up (fun _ _ _ hl h => h.mono hl)).mono fun _ _ h => (by rw [back0] at h; exact h))) ?_
  rintro ⟨⟨lv4, Φ10⟩, hlv4, hlΦ10⟩ b9
  replace hlv4 : RepSl Φ10 ([0, 2, 0] : List Int) lv4 := hlv4
  replace hlΦ10 : Hp.le Φ9 Φ10 := hlΦ10
  replace hB0 := hB0.mono hlΦ10
  replace hpl := hpl.mono hlΦ10
  replace hrs := hrs.mono hlΦ10
  replace hsu := hsu.mono hlΦ10
  replace hgr1 := hgr1.mono hlΦ10
  replace hle := hle.mono hlΦ10
  replace hwa := hwa.mono hlΦ10
  replace hlv1 := hlv1.mono hlΦ10
  replace hlv3 := hlv3.mono hlΦ10
  refine DW.qeg (v := .bool true) (fun _ => (fun _ h => StP.know (Hp.le_trans (Hp.le_trans hlΦ7 hlΦ9) hlΦ10) (StP.drop h (by exact .cons _ (.cons _ (.cons _ (.cons_cons _ (.slnil)))))))) rfl rfl rfl (q_as (v := .bool (decide (([0, 2, 0] : List Int) = ([0, 2, 0] : List Int)))) (q_call (args := #[lv4, (.slice (some ⟨b9, 0, none⟩) 3 3)]) own13 rfl rfl (fun w1 hw1 => SameInts_c w1 (Go.K.hp w1) (Hp.le_refl _) (hlv4.mono hw1.phi) (RowS.ints (xs := [0, 2, 0]) (show RowS (Go.K.hp w1) (.slice (some ⟨b9, 0, none⟩) 3 3) 3 1 (3) ([.int .i64 0, .int .i64 2, .int .i64 0]) from hw1.sat _ (List.mem_of_getElem? (i := 0) rfl)) (by decide) (int_wf (by decide))))) (congrArg Value.bool (by decide +kernel))) ?_
  refine DW.q (v := .bool true) (fun _ h => StP.know (Hp.le_trans (Hp.le_trans hlΦ7 hlΦ9) hlΦ10) (StP.drop h (by exact .cons _ (.cons _ (.cons _ (.cons_cons _ (.slnil))))))) rfl (q_pick rfl (fun hp => pkOrT (q := true) (r := false) hp) (fun hp => pkOrF (q := true) (r := false) hp)) ?_
  refine DW.q (v := .bool true) (fun _ h => StP.know (Hp.le_trans (Hp.le_trans hlΦ7 hlΦ9) hlΦ10) (StP.drop h (by exact .cons _ (.cons _ (.cons _ (.cons_cons _ (.slnil))))))) rfl (q_assign rfl) ?_
  refine DW.nil ?_
  refine Post.then_n ?_
  refine AW.ret ?_
  exact fin_val (v' := .bool true) rfl rfl rfl (rfl)

end Go.Proofs.Ytpeojogjeopfaaa
