/- Plain facts on the ways that are found: no program in sight. Conditions: none. -/
import Derived.Test.YtjkoojeampaeeaaOrders
namespace Gr
theorem path_parts {n : Int} {arcs : List Arc} {a b : Int} {p : List Int} (h : pathM n arcs a b = some p) : (rightB n arcs = true ∧ (0 ≤ a ∧ a < n) ∧ (0 ≤ b ∧ b < n) ∧ 0 ≤ (distL n.toNat (rev arcs) b).getD a.toNat 0) ∧ p = a :: pathGo arcs (distL n.toNat (rev arcs) b) b n.toNat a := by
  unfold pathM at h
  split at h
  · rename_i hc; exact ⟨hc, (Option.some.inj h).symm⟩
  · cases h
theorem path_len {n : Int} {arcs : List Arc} {a b : Int} {p : List Int} (h : pathM n arcs a b = some p) : (p.length : Int) = (distL n.toNat (rev arcs) b).getD a.toNat 0 + 1 := by
  obtain ⟨⟨hr, ha, hb, h0⟩, rfl⟩ := path_parts h
  obtain ⟨hn, _, hok⟩ := right_ok hr
  have hT : IsTo n.toNat arcs b (distL n.toNat (rev arcs) b) := distL_is hok.rev (by omega)
  have := pathGo_len hok hT n.toNat a (by omega) h0 (to_lt hT (by omega))
  simp only [List.length_cons]; omega
theorem path_yes {n : Int} {arcs : List Arc} {a b : Int} {p : List Int} (h : pathM n arcs a b = some p) :
    0 < p.length ∧ p.getD 0 0 = a ∧ p.getD (p.length - 1) 0 = b ∧ (∀ k, k + 1 < p.length → (⟨p.getD k 0, p.getD (k + 1) 0⟩ : Arc) ∈ arcs) ∧ (a = b → p.length = 1) ∧ (p.length : Int) ≤ n ∧ (a ≠ b → 1 < p.length) := by
  have hl := path_len h
  obtain ⟨⟨hr, ha, hb, h0⟩, hp⟩ := path_parts h
  obtain ⟨hn, _, hok⟩ := right_ok hr
  have hT : IsTo n.toNat arcs b (distL n.toNat (rev arcs) b) := distL_is hok.rev (by omega)
  have hlt := to_lt hT (v := a) (by omega)
  have hpa := path_at hok hT n.toNat a (by omega) h0 hlt
  rw [← hp] at hpa
  refine ⟨by omega, by rw [hp]; rfl, ?_, fun k hk => (hpa k (by omega)).2.2 (by omega), fun e => ?_, by omega, fun e => ?_⟩
  · obtain ⟨k1, k2, _⟩ := hpa (p.length - 1) (by omega)
    exact to_pos hT k1 (by rw [k2]; omega)
  · subst e
    have := to_zero hT (b := a) (by omega)
    omega
  · have : (distL n.toNat (rev arcs) b).getD a.toNat 0 ≠ 0 := fun h => e (to_pos hT (by omega) h)
    omega
theorem path_least {n : Int} {arcs : List Arc} {a b x : Int} {p q : List Int} (h : pathM n arcs a b = some p) (hab : a ≠ b) (hx : (⟨a, x⟩ : Arc) ∈ arcs) (hq : pathM n arcs x b = some q) :
    p.length ≤ q.length + 1 ∧ (q.length + 1 = p.length → p.getD 1 0 ≤ x) := by
  have hl := path_len h
  have hl2 := path_len hq
  obtain ⟨⟨hr, ha, hb, h0⟩, hp⟩ := path_parts h
  obtain ⟨⟨_, hx1, _, hx0⟩, _⟩ := path_parts hq
  obtain ⟨hn, _, hok⟩ := right_ok hr
  have hT : IsTo n.toNat arcs b (distL n.toNat (rev arcs) b) := distL_is hok.rev (by omega)
  have hlt := to_lt hT (v := a) (by omega)
  obtain ⟨hgo, hpos⟩ := pathGo_step hok hT (v := a) (by omega) h0 hab
  have hp1 : p.getD 1 0 = closest arcs (distL n.toNat (rev arcs) b) a := by rw [hp, hgo]; rfl
  obtain ⟨k1, k2, k3⟩ := closest_to hok hT (v := a) (by omega) hpos
  have hmin : (distL n.toNat (rev arcs) b).getD a.toNat 0 ≤ (distL n.toNat (rev arcs) b).getD x.toNat 0 + 1 := by
    rcases hT.2 x (by omega) (by omega) with ⟨h1, _⟩ | ⟨_, _, h1, _⟩
    · omega
    · rcases hT.2 a (by omega) (by omega) with ⟨h2, _⟩ | ⟨_, _, _, h2⟩
      · omega
      · have := h2 _ (.snoc h1 (mem_rev.2 hx)); omega
  refine ⟨by omega, fun he => ?_⟩
  rw [hp1]
  rcases closest_spec (d := distL n.toNat (rev arcs) b) (v := a) hok with ⟨h1, _⟩ | ⟨_, _, _, h4⟩
  · omega
  · have := h4 x hx hx0; omega
end Gr
