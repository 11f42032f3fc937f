/- Plain facts on the reference's way of finding cycles: no program in sight. Conditions: none. -/
import Derived.Test.YtjkoojeampaeeaaTells
namespace Gr
/-- the best cycle among those that go on to one of the first k nodes -/
def CI (n : Nat) (arcs : List Arc) (v : Int) (k : Nat) (bw : Int) (best : List Int) : Prop :=
  (bw = -1 ∧ best = [] ∧ ∀ w : Nat, w < k → (⟨v, (w : Int)⟩ : Arc) ∈ arcs → (distL n (rev arcs) v).getD w 0 < 0) ∨
  ((0 ≤ bw ∧ bw < k) ∧ (⟨v, bw⟩ : Arc) ∈ arcs ∧ 0 ≤ (distL n (rev arcs) v).getD bw.toNat 0 ∧ best = v :: cycGo arcs (distL n (rev arcs) v) v n bw ∧
    ∀ w : Nat, w < k → (⟨v, (w : Int)⟩ : Arc) ∈ arcs → 0 ≤ (distL n (rev arcs) v).getD w 0 →
      (distL n (rev arcs) v).getD bw.toNat 0 < (distL n (rev arcs) v).getD w 0 ∨ ((distL n (rev arcs) v).getD bw.toNat 0 = (distL n (rev arcs) v).getD w 0 ∧ bw ≤ w))
theorem CI.start {n : Nat} {arcs : List Arc} {v : Int} : CI n arcs v 0 (-1) [] := .inl ⟨rfl, rfl, fun _ h => absurd h (Nat.not_lt_zero _)⟩
section
variable {n : Nat} {arcs : List Arc} {v : Int} {k : Nat} {bw : Int} {best : List Int}
theorem cyc_len (hok : Ok n arcs) (hv : 0 ≤ v ∧ v < (n : Int)) {w : Int} (hw : 0 ≤ w ∧ w < (n : Int)) (h0 : 0 ≤ (distL n (rev arcs) v).getD w.toNat 0) :
    (((v :: cycGo arcs (distL n (rev arcs) v) v n w).length : Nat) : Int) = (distL n (rev arcs) v).getD w.toNat 0 + 1 := by
  have hT : IsTo n arcs v (distL n (rev arcs) v) := distL_is hok.rev hv
  rw [List.length_cons, cycGo_len]
  have := pathGo_len hok hT n w hw h0 (to_lt hT hw)
  omega
theorem cyc_less (hok : Ok n arcs) (hv : 0 ≤ v ∧ v < (n : Int)) {w u : Int} (hw : 0 ≤ w ∧ w < (n : Int)) (hu : 0 ≤ u ∧ u < (n : Int)) (h0 : 0 ≤ (distL n (rev arcs) v).getD w.toNat 0)
    (he : (distL n (rev arcs) v).getD u.toNat 0 = (distL n (rev arcs) v).getD w.toNat 0) (hne : u < w) : lessB (v :: cycGo arcs (distL n (rev arcs) v) v n w) (v :: cycGo arcs (distL n (rev arcs) v) v n u) = false := by
  have hT : IsTo n arcs v (distL n (rev arcs) v) := distL_is hok.rev hv
  rw [lessB, if_pos rfl]
  have key : ∀ x : Int, (0 ≤ x ∧ x < (n : Int)) → 0 < (distL n (rev arcs) v).getD x.toNat 0 → ∃ t, cycGo arcs (distL n (rev arcs) v) v n x = x :: t := fun x hx hd => by
    have hxv : x ≠ v := fun e => by subst e; have := to_zero hT hx; omega
    exact ⟨_, cycGo_step hok hT hx (by omega) hxv⟩
  by_cases hz : (distL n (rev arcs) v).getD w.toNat 0 = 0
  · have h1 := to_pos hT hw hz
    have h2 := to_pos hT hu (by omega)
    omega
  · obtain ⟨t, ht⟩ := key w hw (by omega)
    obtain ⟨t', ht'⟩ := key u hu (by omega)
    rw [ht, ht', lessB, if_neg (by omega)]
    exact decide_eq_false (by omega)
theorem CI.skip (h : CI n arcs v k bw best) (hs : (⟨v, (k : Int)⟩ : Arc) ∈ arcs → (distL n (rev arcs) v).getD k 0 < 0) : CI n arcs v (k + 1) bw best := by
  rcases h with ⟨h1, h2, h3⟩ | ⟨h1, h2, h3, h4, h5⟩
  · exact .inl ⟨h1, h2, lt_succ h3 hs⟩
  · exact .inr ⟨by omega, h2, h3, h4, lt_succ h5 (fun ha h0 => absurd (hs ha) (by omega))⟩
/-- the new one is better -/
theorem CI.take (hok : Ok n arcs) (hv : 0 ≤ v ∧ v < (n : Int)) (hk : k < n) (h : CI n arcs v k bw best) (ha : (⟨v, (k : Int)⟩ : Arc) ∈ arcs) (h0 : 0 ≤ (distL n (rev arcs) v).getD k 0)
    (hc : best.length = 0 ∨ (v :: cycGo arcs (distL n (rev arcs) v) v n (k : Int)).length < best.length ∨ ((v :: cycGo arcs (distL n (rev arcs) v) v n (k : Int)).length = best.length ∧ lessB (v :: cycGo arcs (distL n (rev arcs) v) v n (k : Int)) best = true)) :
    CI n arcs v (k + 1) (k : Int) (v :: cycGo arcs (distL n (rev arcs) v) v n (k : Int)) := by
  have hkl := cyc_len (w := (k : Int)) hok hv (by omega) (by simpa using h0)
  have ek : (distL n (rev arcs) v).getD (k : Int).toNat 0 = (distL n (rev arcs) v).getD k 0 := by simp
  rw [ek] at hkl
  refine .inr ⟨by omega, ha, by rw [ek]; exact h0, rfl, ?_⟩
  rw [ek]
  rcases h with ⟨_, _, h3⟩ | ⟨h1, h2, h3, h4, h5⟩
  · exact lt_succ (fun j hj hja hj0 => absurd (h3 j hj hja) (by omega)) (fun _ _ => .inr ⟨rfl, by omega⟩)
  · have hbl := cyc_len (w := bw) hok hv (by omega) h3
    subst h4
    have hlt : (distL n (rev arcs) v).getD k 0 < (distL n (rev arcs) v).getD bw.toNat 0 := by
      rcases hc with hc | hc | ⟨hc, hl⟩
      · rw [List.length_cons] at hc; cases hc
      · omega
      · rw [cyc_less hok hv (by omega) (by omega) (by rw [ek]; exact h0) (by rw [ek]; omega) (by omega)] at hl; cases hl
    exact lt_succ (fun j hj hja hj0 => by rcases h5 j hj hja hj0 with e | e <;> omega) (fun _ _ => .inr ⟨rfl, by omega⟩)
/-- the old one stays -/
theorem CI.keep (hok : Ok n arcs) (hv : 0 ≤ v ∧ v < (n : Int)) (hk : k < n) (h : CI n arcs v k bw best) (h0 : 0 ≤ (distL n (rev arcs) v).getD k 0) (hne : best.length ≠ 0)
    (hc : best.length ≤ (v :: cycGo arcs (distL n (rev arcs) v) v n (k : Int)).length) : CI n arcs v (k + 1) bw best := by
  have hkl := cyc_len (w := (k : Int)) hok hv (by omega) (by simpa using h0)
  have ek : (distL n (rev arcs) v).getD (k : Int).toNat 0 = (distL n (rev arcs) v).getD k 0 := by simp
  rw [ek] at hkl
  rcases h with ⟨_, h2, _⟩ | ⟨h1, h2, h3, h4, h5⟩
  · rw [h2] at hne; exact absurd rfl hne
  · refine .inr ⟨by omega, h2, h3, h4, lt_succ h5 (fun _ _ => ?_)⟩
    have hbl := cyc_len (w := bw) hok hv (by omega) h3
    subst h4
    omega
theorem CI.len (h : CI n arcs v k bw best) : best.length = 0 ↔ bw = -1 := by
  rcases h with ⟨h1, h2, _⟩ | ⟨h1, _, _, h4, _⟩
  · subst h2; simp [h1]
  · subst h4; simp; omega
theorem CI.rng (hok : Ok n arcs) (hv : 0 ≤ v ∧ v < (n : Int)) (hk : k ≤ n) (h : CI n arcs v k bw best) : (∀ x ∈ best, 0 ≤ x ∧ x < (n : Int)) ∧ best.length ≤ n := by
  rcases h with ⟨_, h2, _⟩ | ⟨h1, _, h3, h4, _⟩
  · subst h2; exact ⟨fun _ h => absurd h List.not_mem_nil, Nat.zero_le _⟩
  · have hT : IsTo n arcs v (distL n (rev arcs) v) := distL_is hok.rev hv
    have hl := cyc_len (w := bw) hok hv (by omega) h3
    have ht := to_lt hT (v := bw) (by omega)
    subst h4
    refine ⟨fun x hx => ?_, by omega⟩
    rcases List.mem_cons.1 hx with rfl | hx
    · exact hv
    · exact cycGo_in hok hT n bw (by omega) h3 x hx
theorem CI.done (hok : Ok n arcs) (hv : 0 ≤ v ∧ v < (n : Int)) (h : CI n arcs v n bw best) : best = loopAt n arcs v ∧ (best.length = 0 ↔ closest arcs (distL n (rev arcs) v) v < 0) := by
  have hcs := closest_spec (arcs := arcs) (d := distL n (rev arcs) v) (v := v) hok
  rcases h with ⟨_, h2, h3⟩ | ⟨h1, h2, h3, h4, h5⟩
  · have : closest arcs (distL n (rev arcs) v) v < 0 := by
      rcases hcs with ⟨e, _⟩ | ⟨e1, e2, e3, _⟩
      · omega
      · have hr := (hok _ e2).2
        simp only at hr
        have := h3 (closest arcs (distL n (rev arcs) v) v).toNat (by omega) (by rw [Int.toNat_of_nonneg e1]; exact e2)
        omega
    subst h2
    simp [loopAt, this]
  · have : closest arcs (distL n (rev arcs) v) v = bw := by
      rcases hcs with ⟨_, e⟩ | ⟨e1, e2, e3, e4⟩
      · have := e _ h2; omega
      · have hr := (hok _ e2).2
        simp only at hr
        have k1 := h5 (closest arcs (distL n (rev arcs) v) v).toNat (by omega) (by rw [Int.toNat_of_nonneg e1]; exact e2) e3
        have k2 := e4 _ h2 h3
        omega
    subst h4
    refine ⟨?_, ?_⟩
    · simp only [loopAt]; rw [this, if_neg (by omega)]
    · rw [this]; simp; omega
end
theorem set_getB {L : List Bool} {k : Nat} {x : Bool} {p : Nat → Bool} (hk : k < L.length) (h : ∀ j, j < k → L.getD j false = p j) (hx : x = p k) : ∀ j, j < k + 1 → (L.set k x).getD j false = p j := fun j hj => by
  rw [getD_setB hk]
  by_cases e : k = j
  · subst e; rw [if_pos rfl, hx]
  · rw [if_neg e]; exact h j (by omega)
theorem meas {n : Nat} {L M : List Int} {c : Bool} (h1 : c = true → pot n M < pot n L) (h2 : c = false → M = L) : (2 * pot n M + (if c then 1 else 0)).toNat < (2 * pot n L + (if true then 1 else 0)).toNat := by
  have k1 := pot_nonneg n M
  have k2 := pot_nonneg n L
  cases c with
  | true => have := h1 rfl; simp only [if_true]; omega
  | false => obtain rfl := h2 rfl; simp; omega
/-- what the reference's call of a way gives for the cycle -/
theorem way_cut {n : Int} {arcs : List Arc} {a b : Int} {p : List Int} (h : pathM n arcs a b = some p) : p.take (p.length - 1) = cycGo arcs (distL n.toNat (rev arcs) b) b n.toNat a ∧ 0 < p.length := by
  unfold pathM at h
  split at h
  · obtain rfl := Option.some.inj h
    rw [cyc_path _ _ (.inr trivial)]
    simp
  · cases h
theorem path_is {n : Int} {arcs : List Arc} {a b : Int} (hr : rightB n arcs = true) (ha : 0 ≤ a ∧ a < n) (hb : 0 ≤ b ∧ b < n) : (pathM n arcs a b).isSome = true ↔ 0 ≤ (distL n.toNat (rev arcs) b).getD a.toNat 0 := by
  unfold pathM
  by_cases h : 0 ≤ (distL n.toNat (rev arcs) b).getD a.toNat 0
  · rw [if_pos ⟨hr, ha, hb, h⟩]; exact ⟨fun _ => h, fun _ => rfl⟩
  · rw [if_neg (fun hh => h hh.2.2.2)]; exact ⟨fun hh => by (cases hh), fun hh => absurd hh h⟩
end Gr
