/- Plain facts on what is reached in a graph: no program in sight. Conditions: none. -/
import Derived.Test.YtjkoojeampaeeaaPlain
namespace Gr
theorem right_iff {n : Int} {arcs : List Arc} : rightB n arcs = true ↔ (0 ≤ n ∧ n ≤ 256 ∧ arcs.length ≤ 4096) ∧ ∀ a ∈ arcs, 0 ≤ a.From ∧ a.From < n ∧ 0 ≤ a.To ∧ a.To < n := by
  unfold rightB okB
  simp only [Bool.and_eq_true, decide_eq_true_eq, List.all_eq_true, and_assoc]
theorem right_rev {n : Int} {arcs : List Arc} : rightB n (rev arcs) = rightB n arcs := by
  rw [Bool.eq_iff_iff, right_iff, right_iff]
  unfold rev
  simp only [List.length_map, List.mem_map, forall_exists_index, and_imp, forall_apply_eq_imp_iff₂]
  exact ⟨fun h => ⟨h.1, fun a ha => by have := h.2 a ha; omega⟩, fun h => ⟨h.1, fun a ha => by have := h.2 a ha; omega⟩⟩
theorem right_at {n : Int} {arcs : List Arc} (h : rightB n arcs = true) {k : Nat} (hk : k < arcs.length) :
    (0 ≤ (arcs.getD k default).From ∧ (arcs.getD k default).From < n) ∧ (0 ≤ (arcs.getD k default).To ∧ (arcs.getD k default).To < n) ∧ (⟨(arcs.getD k default).From, (arcs.getD k default).To⟩ : Arc) ∈ arcs := by
  have hm : arcs.getD k default ∈ arcs := by simp [List.getD_eq_getElem?_getD, hk]
  have := (right_iff.1 h).2 _ hm
  exact ⟨⟨this.1, this.2.1⟩, this.2.2, hm⟩
/-- there is a way -/
def Way (arcs : List Arc) (a b : Int) : Prop := ∃ k, Walk arcs k a b
theorem Way.refl {arcs : List Arc} (a : Int) : Way arcs a a := ⟨0, .nil a⟩
theorem Way.snoc {arcs : List Arc} {a b c : Int} (h : Way arcs a b) (hc : (⟨b, c⟩ : Arc) ∈ arcs) : Way arcs a c := let ⟨k, h⟩ := h; ⟨k + 1, .snoc h hc⟩
theorem Way.cons {arcs : List Arc} {a b c : Int} (ha : (⟨a, b⟩ : Arc) ∈ arcs) (h : Way arcs b c) : Way arcs a c := let ⟨k, h⟩ := h; ⟨k + 1, walk_head ha h⟩
theorem way_rev {arcs : List Arc} {a b : Int} : Way (rev arcs) a b ↔ Way arcs b a := ⟨fun ⟨k, h⟩ => ⟨k, walk_rev' h⟩, fun ⟨k, h⟩ => ⟨k, walk_rev h⟩⟩
theorem dist_way {n : Nat} {arcs : List Arc} {v w : Int} {d : List Int} (h : IsDist n arcs v d) (hw : 0 ≤ w ∧ w < n) : 0 ≤ d.getD w.toNat 0 ↔ Way arcs v w := by
  rcases h.2 w hw.1 hw.2 with ⟨h1, h2⟩ | ⟨h1, _, h2, _⟩
  · exact ⟨fun h => by omega, fun ⟨k, hk⟩ => absurd hk (h2 k)⟩
  · exact ⟨fun _ => ⟨_, h2⟩, fun _ => h1⟩
theorem mem_down {n : Int} {arcs : List Arc} {v w : Int} (hr : rightB n arcs = true) (hv : 0 ≤ v ∧ v < n) : w ∈ downM n arcs v ↔ Way arcs v w := by
  obtain ⟨hn, _, hok⟩ := right_ok hr
  rw [downM, if_pos ⟨hr, hv⟩, reachL_mem]
  constructor
  · rintro ⟨h1, h2, h3⟩; exact (dist_way (distL_is hok (by omega)) ⟨h1, h2⟩).1 h3
  · rintro ⟨k, hk⟩
    have hw := walk_inside hok hk (by omega)
    exact ⟨hw.1, hw.2, (dist_way (distL_is hok (by omega)) hw).2 ⟨k, hk⟩⟩
theorem mem_up {n : Int} {arcs : List Arc} {v w : Int} (hr : rightB n arcs = true) (hv : 0 ≤ v ∧ v < n) : w ∈ downM n (rev arcs) v ↔ Way arcs w v := by
  rw [mem_down (by rw [right_rev]; exact hr) hv, way_rev]
theorem path_some {n : Int} {arcs : List Arc} {a b : Int} (hr : rightB n arcs = true) (ha : 0 ≤ a ∧ a < n) (hb : 0 ≤ b ∧ b < n) : (pathM n arcs a b).isSome = true ↔ Way arcs a b := by
  obtain ⟨hn, _, hok⟩ := right_ok hr
  have h := dist_way (w := a) (distL_is hok.rev (v := b) (by omega)) (by omega)
  rw [way_rev] at h
  rw [pathM, ← h]
  by_cases hd : 0 ≤ (distL n.toNat (rev arcs) b).getD a.toNat 0
  · rw [if_pos ⟨hr, ha, hb, hd⟩]; exact ⟨fun _ => hd, fun _ => rfl⟩
  · rw [if_neg (fun h => hd h.2.2.2)]; exact ⟨fun h => (by cases h), fun h => absurd h hd⟩
theorem at_mem {l : List Int} {v : Int} : 0 ≤ atZ l v ↔ v ∈ l := by
  unfold atZ
  split
  · rename_i h; exact ⟨fun _ => h, fun _ => by omega⟩
  · rename_i h; exact ⟨fun h => by omega, fun h' => absurd h' h⟩
theorem at_neg {l : List Int} {v : Int} : atZ l v < 0 ↔ v ∉ l := by rw [← at_mem]; omega
theorem reachL_sorted (n : Nat) (d : List Int) : (reachL n d).Pairwise (· < ·) := by
  unfold reachL
  rw [List.pairwise_map]
  refine List.Pairwise.imp (fun h => ?_) (List.Pairwise.filter _ (List.pairwise_lt_range (n := n)))
  omega
theorem down_sorted (n : Int) (arcs : List Arc) (v : Int) : (downM n arcs v).Pairwise (· < ·) := by
  unfold downM; split
  · exact reachL_sorted _ _
  · exact .nil
theorem sorted_at {l : List Int} (h : l.Pairwise (· < ·)) {k : Nat} (hk : k + 1 < l.length) : l.getD k 0 < l.getD (k + 1) 0 := by
  have := List.pairwise_iff_getElem.1 h k (k + 1) (by omega) hk (by omega)
  simpa [List.getD_eq_getElem?_getD, hk, show k < l.length by omega] using this
/-- the tests of the ways -/
theorem reach_one {n : Int} {arcs : List Arc} {a b : Int} (hr : rightB n arcs = true) (ha : 0 ≤ a ∧ a < n) (hb : 0 ≤ b ∧ b < n) :
    (pathM n arcs a b).isSome = decide (0 ≤ atZ (downM n arcs a) b) ∧ (pathM n arcs a b).isSome = decide (0 ≤ atZ (downM n (rev arcs) b) a) ∧ 0 ≤ atZ (downM n arcs a) a ∧ 0 ≤ atZ (downM n (rev arcs) b) b := by
  refine ⟨?_, ?_, ?_, ?_⟩
  · rw [Bool.eq_iff_iff, path_some hr ha hb, decide_eq_true_eq, at_mem, mem_down hr ha]
  · rw [Bool.eq_iff_iff, path_some hr ha hb, decide_eq_true_eq, at_mem, mem_up hr hb]
  · rw [at_mem, mem_down hr ha]; exact .refl a
  · rw [at_mem, mem_up hr hb]; exact .refl b
theorem reach_arc {n : Int} {arcs : List Arc} {a b : Int} (hr : rightB n arcs = true) (ha : 0 ≤ a ∧ a < n) (hb : 0 ≤ b ∧ b < n) {k : Nat} (hk : k < arcs.length) :
    (0 ≤ atZ (downM n arcs a) (arcs.getD k default).From → 0 ≤ atZ (downM n arcs a) (arcs.getD k default).To) ∧ (0 ≤ atZ (downM n (rev arcs) b) (arcs.getD k default).To → 0 ≤ atZ (downM n (rev arcs) b) (arcs.getD k default).From) := by
  have hm := (right_at hr hk).2.2
  rw [at_mem, at_mem, at_mem, at_mem, mem_down hr ha, mem_down hr ha, mem_up hr hb, mem_up hr hb]
  exact ⟨fun h => h.snoc hm, fun h => .cons hm h⟩
end Gr
