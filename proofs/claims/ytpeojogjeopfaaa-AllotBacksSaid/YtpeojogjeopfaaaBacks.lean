/- Plain laws of what returns from a day's uses: no program in sight. Conditions: none. -/
import Derived.Test.YtpeojogjeopfaaaStops
namespace Al
open Bt
theorem find_self {rs : List Right} (hd : ∀ i j, j < i → i < rs.length → (rs.getD i default).Id ≠ (rs.getD j default).Id) {k : Nat} (hk : k < rs.length) : findR rs (rs.getD k default).Id = some (rs.getD k default) := by
  unfold findR
  have hg : ∀ i (h : i < rs.length), rs.getD i default = rs[i] := fun i h => by simp [List.getD_eq_getElem?_getD, h]
  rw [List.find?_eq_some_iff_getElem]
  refine ⟨by simp, k, hk, (hg k hk).symm, fun j hj => ?_⟩
  have h := hd k j hj hk
  rw [hg j (by omega)] at h
  simp only [Bool.not_eq_true', decide_eq_false_iff_not]
  exact fun e => h e.symm
theorem addS_zero {a : Int} : addS a 0 = a := by unfold addS; simp
theorem addS_mono {x y a b : Int} (h1 : 0 ≤ x ∧ x ≤ y) (h2 : 0 ≤ a ∧ a ≤ b) (hy : y ≤ maxI) : addS x a ≤ addS y b := by
  unfold addS maxI minI at *
  split <;> (try split) <;> (try split) <;> (try split) <;> omega
theorem share_le {L B : Int} (hL : 0 ≤ L) : clamp L 0 maxV * clamp B 0 1000 / 1000 ≤ L ∧ (B ≤ 0 → clamp L 0 maxV * clamp B 0 1000 / 1000 = 0) := by
  have h1 : 0 ≤ clamp L 0 maxV ∧ clamp L 0 maxV ≤ L := by unfold clamp maxV; split <;> (try split) <;> omega
  have h2 := clamp_rng (n := B) (lo := 0) (hi := 1000) (by omega)
  have h3 : clamp L 0 maxV * clamp B 0 1000 ≤ clamp L 0 maxV * 1000 := Int.mul_le_mul_of_nonneg_left h2.2 h1.1
  refine ⟨by omega, fun hB => ?_⟩
  have : clamp B 0 1000 = 0 := by unfold clamp; split <;> (try split) <;> omega
  rw [this]; simp
def mostN (rs : List Right) (gs : List Grant) (q : Int) : Nat → Int
  | 0 => 0
  | k + 1 => if (rs.getD k default).BackTo = q ∧ 0 < (rs.getD k default).Back then addS (mostN rs gs q k) (gs.getD k default).Litres else mostN rs gs q k
theorem mostN_rng {rs : List Right} {gs : List Grant} (hg : ∀ k, 0 ≤ (gs.getD k default).Litres ∧ (gs.getD k default).Litres ≤ maxI) (q : Int) : ∀ k, 0 ≤ mostN rs gs q k ∧ mostN rs gs q k ≤ maxI
  | 0 => by unfold mostN maxI; omega
  | k + 1 => by
    have h := mostN_rng (rs := rs) hg q k
    rw [mostN]
    split
    · exact ⟨addS_nonneg h.1 (hg k).1, (addS_ok ⟨by unfold minI; omega, h.2⟩ ⟨by have := (hg k).1; unfold minI; omega, (hg k).2⟩).2⟩
    · exact h
section
variable {ps : List Place} {rs : List Right} {gs : List Grant}
theorem backs_inv (hd : ∀ i j, j < i → i < rs.length → (rs.getD i default).Id ≠ (rs.getD j default).Id) (hl : gs.length = rs.length) (hr : ∀ k, k < rs.length → (gs.getD k default).Right = (rs.getD k default).Id) (hg : ∀ k, 0 ≤ (gs.getD k default).Litres ∧ (gs.getD k default).Litres ≤ maxI) {q : Nat} (hq : q < ps.length) :
    ∀ k, k ≤ rs.length → 0 ≤ ((gs.take k).foldl (backStep ps rs) (List.replicate ps.length 0)).getD q 0 ∧ ((gs.take k).foldl (backStep ps rs) (List.replicate ps.length 0)).getD q 0 ≤ mostN rs gs (q : Int) k
  | 0, _ => by
    have : (List.replicate ps.length (0 : Int)).getD q 0 = 0 := by simp [List.getD_eq_getElem?_getD, hq]
    show 0 ≤ (List.replicate ps.length (0 : Int)).getD q 0 ∧ (List.replicate ps.length (0 : Int)).getD q 0 ≤ 0
    omega
  | k + 1, hk => by
    have ih := backs_inv hd hl hr hg hq k (by omega)
    have ho : OI ps.length ((gs.take k).foldl (backStep ps rs) (List.replicate ps.length 0)) := back_oi _ _ (zero_oi _)
    rw [foldl_takeG _ _ (by omega)]
    generalize hO : (gs.take k).foldl (backStep ps rs) (List.replicate ps.length 0) = O at *
    have hsh := share_le (L := (gs.getD k default).Litres) (B := (rs.getD k default).Back) (hg k).1
    have hs0 := (share_rng (gs.getD k default).Litres (rs.getD k default).Back).1
    have hm := mostN_rng (rs := rs) hg (q : Int) k
    unfold backStep
    rw [hr k (by omega), find_self hd (by omega)]
    simp only
    rw [mostN]
    by_cases hb : 0 ≤ (rs.getD k default).BackTo ∧ (rs.getD k default).BackTo < ps.length
    · rw [if_pos hb, getD_set (by rw [ho.1]; omega)]
      by_cases e : (rs.getD k default).BackTo = (q : Int)
      · have e2 : (rs.getD k default).BackTo.toNat = q := by omega
        rw [if_pos e2, e2]
        by_cases hB : 0 < (rs.getD k default).Back
        · rw [if_pos ⟨e, hB⟩]
          exact ⟨addS_nonneg ih.1 hs0, addS_mono ⟨ih.1, ih.2⟩ ⟨hs0, hsh.1⟩ hm.2⟩
        · rw [if_neg (fun h => hB h.2), hsh.2 (by omega), addS_zero]
          exact ih
      · have e2 : ¬ (rs.getD k default).BackTo.toNat = q := by omega
        rw [if_neg e2, if_neg (fun h => e h.1)]
        exact ih
    · rw [if_neg hb, if_neg (fun h => hb (by have := h.1; omega))]
      exact ih
theorem back_most (hd : ∀ i j, j < i → i < rs.length → (rs.getD i default).Id ≠ (rs.getD j default).Id) (hl : gs.length = rs.length) (hr : ∀ k, k < rs.length → (gs.getD k default).Right = (rs.getD k default).Id) (hg : ∀ k, 0 ≤ (gs.getD k default).Litres ∧ (gs.getD k default).Litres ≤ maxI) {q : Nat} (hq : q < ps.length) :
    0 ≤ (back ps rs gs).getD q 0 ∧ (back ps rs gs).getD q 0 ≤ mostN rs gs (q : Int) rs.length := by
  have := backs_inv (ps := ps) hd hl hr hg hq rs.length (Nat.le_refl _)
  rw [List.take_of_length_le (by omega)] at this
  exact this
end
theorem rate_le {rs : List Right} (h : ∀ x ∈ rs, x.Rate ≤ 9223372036854775807) (k : Nat) : (rs.getD k default).Rate ≤ maxI := by
  by_cases hk : k < rs.length
  · exact h _ (getD_memR hk)
  · have : rs.getD k default = default := by rw [List.getD_eq_getElem?_getD, List.getElem?_eq_none (by omega)]; rfl
    rw [this]; show (0 : Int) ≤ maxI; unfold maxI; omega
theorem day_litres {ps : List Place} {rs : List Right} {sup : List Int} (hs : ∀ k, Ok64 (sup.getD k 0)) (hw : ∀ k, (rs.getD k default).Rate ≤ maxI) (k : Nat) : 0 ≤ ((day ps rs sup).2.getD k default).Litres ∧ ((day ps rs sup).2.getD k default).Litres ≤ maxI := by
  by_cases hk : k < rs.length
  · have h := grant_rng (ps := ps) hs hk
    have := hw k
    unfold maxI at *
    omega
  · have : (day ps rs sup).2.getD k default = default := by
      rw [List.getD_eq_getElem?_getD, List.getElem?_eq_none (by rw [day_len2 hs]; omega)]; rfl
    rw [this]
    show (0 : Int) ≤ 0 ∧ (0 : Int) ≤ maxI
    unfold maxI; omega
end Al
