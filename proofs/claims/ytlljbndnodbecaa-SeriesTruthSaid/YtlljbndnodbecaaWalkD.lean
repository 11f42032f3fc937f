/- Walks (part WalkD), printed by walk2.py. Conditions: those of each theorem. -/
import Derived.Test.YtlljbndnodbecaaWalkC
import Derived.Test.YtlljbndnodbecaaSortF
namespace Go.Proofs.Ytlljbndnodbecaa
open Go Go.K Go.RowKit

set_option maxRecDepth 8000 in
set_option maxHeartbeats 1000000 in
theorem Merge_c (w : World) (Φ : Hp) (hΦ : Hp.le Φ (hp w)) {xs ys : List Bt.Gram} {v1 v2 : Value} (h1 : RepSl Φ xs v1) (h2 : RepSl Φ ys v2) (hT : xs.length + ys.length ≤ 1000000) :
    Calls Try.prog 9 #[v1, v2] w (RetS noHp w fun r Ψ => ∃ M, RepSl Ψ M r ∧ Se.Mrg xs ys M) := by
  refine calls_of_AW (args := [v1, v2]) Try.func9 rfl (Nat.le_of_ble_eq_true rfl) (St ⟨w, Φ, []⟩ Φ []) (StP.init w Φ hΦ []) ?_
  show AW Try.prog 14 [] _ _ _ [(0, v1), (1, v2)] _
  refine AW.seq ?_
  refine AW.region ?_
  refine RW.q (v := (.slice none 0 0)) rfl (q_assign rfl) ?_
  refine RW.nil ?_
  refine Post.then_n ?_
  refine AW.seq ?_
  refine AW.region ?_
  refine RW.q (v := v1) rfl (q_move rfl) ?_
  refine RW.q (v := v2) rfl (q_move rfl) ?_
  refine RW.eff (fun b1 : Nat => (.slice (some ⟨b1, 0, none⟩) 2 2)) (fun b1 => St ⟨w, Φ, []⟩ Φ [.row (.slice (some ⟨b1, 0, none⟩) 2 2) 22 1 2 ([v1, v2])]) rfl (e_buildSlice (vals := [(0, v1), (1, v2)]) (cells := [v1, v2]) Try.underlying84 inf22 rfl rfl rfl (by obtain ⟨A1, c1, rfl, _, _⟩ := h1.sl; obtain ⟨A2, c2, rfl, _, _⟩ := h2.sl; kernel_rfl) rfl) ?_
  intro b1
  refine RW.frz (fun Φ1 hlΦ1 hsh8 => ?_)
  replace h1 := h1.mono hlΦ1
  replace h2 := h2.mono hlΦ1
  have h8 : RepSl Φ1 [xs, ys] (.slice (some ⟨b1, 0, none⟩) 2 2) := RowS.reps (xs := [xs, ys]) (cs := [[v1], [v2]]) hsh8 rfl ⟨⟨v1, rfl, h1⟩, ⟨v2, rfl, h2⟩, trivial⟩ rfl (by decide)
  have hfl : [xs, ys].flatten.length = xs.length + ys.length := by simp
  refine RW.eff (fun x : {r : Value // IsSl r ([xs, ys]).flatten.length} => x.1) (fun x => St ⟨w, Φ, []⟩ Φ1 [.row x.1 29 5 (([xs, ys]).flatten.length) (flat (([xs, ys]).flatten))]) rfl (e_call (args := #[(.slice (some ⟨b1, 0, none⟩) 2 2)]) own21 rfl rfl (fun w1 hw1 => Concat_c rfl h8 (by rw [hfl]; exact hT) w1 hw1)) ?_
  rintro ⟨rv1, hrv1⟩
  refine RW.q (v := rv1) rfl (q_assign rfl) ?_
  refine RW.nil ?_
  refine Post.then_n ?_
  refine AW.seq ?_
  refine AW.region ?_
  refine RW.q (v := rv1) rfl (q_move rfl) ?_
  refine RW.eff (fun x : {d : List Bt.Gram // d.Perm (([xs, ys]).flatten) ∧ d.Pairwise (fun x y => Go.Proofs.ltOf Se.cG y x = false)} => (.tuple #[])) (fun x => St ⟨w, Φ, []⟩ Φ1 [.row rv1 29 5 (([xs, ys]).flatten.length) (flat x.1)]) rfl (e_call (args := #[rv1, .func (.func 23) #[] #[]]) own22 rfl rfl (fun w1 hw1 => sortG_c rfl (by rw [hfl]; exact hT) w1 hw1)) ?_
  rintro ⟨d1, hd1⟩
  refine RW.nil ?_
  refine Post.then_n ?_
  refine AW.seq ?_
  have hdl := hd1.1.length_eq
  refine AW.region ?_
  refine RW.q (v := rv1) rfl (q_move rfl) ?_
  refine RW.eff (fun x : {r : Value // IsSl r (Se.comp d1).length} => x.1) (fun x => St ⟨w, Φ, []⟩ Φ1 [.row x.1 29 5 ((Se.comp d1).length) (flat (Se.comp d1))]) rfl (e_call (args := #[rv1]) own24 rfl rfl (fun w1 hw1 => Compact_c rfl hrv1 (by rw [hdl]) (by rw [hfl]; exact hT) w1 hw1)) ?_
  rintro ⟨rv2, hrv2⟩
  refine RW.q (v := rv2) rfl (q_assign rfl) ?_
  refine RW.nil ?_
  refine Post.then_n ?_
  refine AW.ret ?_
  have hcl := Se.comp_le d1
  have hdm : ∀ x, x ∈ Se.comp d1 → x ∈ xs ∨ x ∈ ys := fun x hx => by have h9 := hd1.1.mem_iff.1 (Se.comp_mem hx); simpa using h9
  exact fin_rep rfl rfl rfl (fun w' hw => ⟨Se.comp d1, RowS.repE even29 (row_ext hw 0 rfl) rfl (by simp only [maxSl]; rw [show Rep.bytes Bt.Gram = 48 from rfl]; omega) (fun x hx => (hdm x hx).elim (h1.wfE x) (h2.wfE x)), Se.mrg_of (by simpa using hd1.1) hd1.2⟩)

end Go.Proofs.Ytlljbndnodbecaa
