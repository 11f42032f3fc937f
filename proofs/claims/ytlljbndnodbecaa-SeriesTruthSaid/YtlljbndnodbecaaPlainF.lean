/- Plain facts: the library's order; merged lists. Conditions: those of each theorem. -/
import Derived.Test.YtlljbndnodbecaaPlainE
import Derived.Test.YtlljbndnodbecaaCore11
namespace Se
open Go.Sort Go.Proofs
/-! ### the library's order -/
theorem ltOf_iff {α : Type} (cf : α → α → Int) (x y : α) : ltOf cf x y = true ↔ cf x y < 0 := by simp [ltOf]
theorem ltOf_not {α : Type} (cf : α → α → Int) (x y : α) : ltOf cf x y = false ↔ ¬ cf x y < 0 := by simp [ltOf]
theorem swo_of {α : Type} {cf : α → α → Int} (hi : ∀ x, ¬ cf x x < 0) (ht : ∀ x y z, cf x y < 0 → cf y z < 0 → cf x z < 0) (hn : ∀ x y z, ¬ cf x y < 0 → ¬ cf y z < 0 → ¬ cf x z < 0) : SWO (ltOf cf) where
  irrefl := fun x => (ltOf_not cf x x).2 (hi x)
  trans := fun x y z h k => (ltOf_iff cf x z).2 (ht x y z ((ltOf_iff cf x y).1 h) ((ltOf_iff cf y z).1 k))
  ntrans := fun x y z h k => (ltOf_not cf x z).2 (hn x y z ((ltOf_not cf x y).1 h) ((ltOf_not cf y z).1 k))
theorem swoG : SWO (ltOf cG) := swo_of ltG_irrefl (fun _ _ _ h k => ltG_trans h k) fun x y z h k hz => by
  by_cases h1 : cG y x < 0
  · exact k (ltG_trans h1 hz)
  · have := ltG_tri h h1; subst this; exact k hz
theorem cR_iff (x y : Bt.Reading) : cR x y < 0 ↔ ltR x y := by
  unfold cR or2 ltR
  rcases cI_cases x.Hour y.Hour with ⟨e, h⟩ | ⟨e, h⟩ | ⟨e, h⟩ <;> rw [e]
  · simp [h]
  · simp; omega
  · rcases cI_cases x.Gauge y.Gauge with ⟨e2, h2⟩ | ⟨e2, h2⟩ | ⟨e2, h2⟩ <;> rw [e2] <;> simp <;> omega
theorem swoR : SWO (ltOf cR) := swo_of (fun x => by rw [cR_iff]; unfold ltR; omega) (fun x y z => by simp only [cR_iff]; unfold ltR; omega) (fun x y z => by simp only [cR_iff]; unfold ltR; omega)
theorem sortedG {l d : List Bt.Gram} (h : d.Pairwise (fun x y => ltOf cG y x = false)) : (comp d).Pairwise ltG :=
  comp_srt (R := ltG) (fun _ _ h k => ltG_tri h k) (fun _ _ _ h k => ltG_trans h k) (h.imp fun hh => (ltOf_not cG _ _).1 hh)
theorem mrg_of {a b d : List Bt.Gram} (hp : d.Perm (a ++ b)) (h : d.Pairwise (fun x y => ltOf cG y x = false)) : Mrg a b (comp d) :=
  ⟨sortedG (l := d) h, fun g => by rw [comp_iff, hp.mem_iff, List.mem_append]⟩
/-- readings of different places, sorted, ascend -/
theorem sortedR {d : List Bt.Reading} (h : d.Pairwise (fun x y => ltOf cR y x = false)) (hd : d.Pairwise fun x y => ¬ (x.Hour = y.Hour ∧ x.Gauge = y.Gauge)) : d.Pairwise ltR := by
  refine (h.and hd).imp fun {x y} hh => ?_
  have h1 := hh.1
  rw [ltOf_not, cR_iff] at h1
  have h2 := hh.2
  unfold ltR at h1 ⊢
  omega
end Se
