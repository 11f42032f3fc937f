/- Plain facts on the reference's way of counting steps and ordering: no program in sight. Conditions: none. -/
import Derived.Test.YtjkoojeampaeeaaTwice
namespace Gr
def sumf (f : Int → Int) (L : List Int) : Int := (L.map f).sum
theorem sumf_cons (f : Int → Int) (x : Int) (L : List Int) : sumf f (x :: L) = f x + sumf f L := by simp [sumf]
theorem sumf_set (f : Int → Int) : ∀ (L : List Int) (i : Nat) (v : Int), i < L.length → sumf f (L.set i v) = sumf f L - f (L.getD i 0) + f v
  | [], _, _, h => by cases h
  | x :: L, 0, v, _ => by rw [List.set_cons_zero, sumf_cons, sumf_cons, List.getD_cons_zero]; omega
  | x :: L, i + 1, v, h => by
    rw [List.set_cons_succ, sumf_cons, sumf_cons, sumf_set f L i v (by simpa using h), List.getD_cons_succ]; omega
theorem sumf_le {f : Int → Int} (hf : ∀ x, f x ≤ 1) : ∀ L : List Int, sumf f L ≤ L.length
  | [] => by simp [sumf]
  | x :: L => by rw [sumf_cons, List.length_cons]; have := sumf_le hf L; have := hf x; omega
theorem sumf_nonneg {f : Int → Int} (hf : ∀ x, 0 ≤ f x) : ∀ L : List Int, 0 ≤ sumf f L
  | [] => by simp [sumf]
  | x :: L => by rw [sumf_cons]; have := sumf_nonneg hf L; have := hf x; omega
/-- the weight of a distance while the steps are counted -/
def wgt (n : Nat) (x : Int) : Int := if x < 0 then (n : Int) + 1 else x
def pot (n : Nat) (L : List Int) : Int := sumf (wgt n) L
def one (x : Int) : Int := if 0 ≤ x then 1 else 0
def cnt (L : List Int) : Int := sumf one L
theorem pot_nonneg (n : Nat) (L : List Int) : 0 ≤ pot n L := sumf_nonneg (fun x => by unfold wgt; split <;> omega) L
theorem cnt_le (L : List Int) : cnt L ≤ L.length := sumf_le (fun x => by unfold one; split <;> omega) L
/-- what holds of the list of steps to b -/
structure SI (n : Nat) (arcs : List Arc) (b : Int) (L : List Int) : Prop where
  len : L.length = n
  lo : ∀ w : Int, 0 ≤ w → w < n → -1 ≤ L.getD w.toNat 0
  b0 : L.getD b.toNat 0 = 0
  walk : ∀ w : Int, 0 ≤ w → w < n → 0 ≤ L.getD w.toNat 0 → Walk arcs (L.getD w.toNat 0).toNat w b
  cnt : ∀ w : Int, 0 ≤ w → w < n → L.getD w.toNat 0 + 1 ≤ cnt L
def stable (L : List Int) (a : Arc) : Prop := 0 ≤ L.getD a.To.toNat 0 → 0 ≤ L.getD a.From.toNat 0 ∧ L.getD a.From.toNat 0 ≤ L.getD a.To.toNat 0 + 1
theorem getD_set {L : List Int} {i j : Nat} {v : Int} (hi : i < L.length) : (L.set i v).getD j 0 = if i = j then v else L.getD j 0 := by
  simp only [List.getD_eq_getElem?_getD, List.getElem?_set]
  split
  · rename_i h; subst h; simp
  · rfl
theorem SI.start {n : Nat} {arcs : List Arc} {b : Int} (hb : 0 ≤ b ∧ b < (n : Int)) : SI n arcs b ((List.replicate n (-1)).set b.toNat 0) := by
  have hbn : b.toNat < n := by omega
  have hl : (List.replicate n (-1 : Int)).length = n := by simp
  have hr : ∀ j, j < n → (List.replicate n (-1 : Int)).getD j 0 = -1 := fun j hj => by simp [List.getD_eq_getElem?_getD, hj]
  have hc : ∀ m : Nat, sumf one (List.replicate m (-1 : Int)) = 0 := fun m => by
    induction m with
    | zero => rfl
    | succ m ih => rw [List.replicate_succ, sumf_cons, ih]; rfl
  have hcnt : Gr.cnt ((List.replicate n (-1)).set b.toNat 0) = 1 := by
    unfold Gr.cnt
    rw [sumf_set _ _ _ _ (by omega), hc, hr _ hbn]; rfl
  refine ⟨by simp, fun w h0 h1 => ?_, by rw [getD_set (by omega), if_pos rfl], fun w h0 h1 h => ?_, fun w h0 h1 => ?_⟩
  · rw [getD_set (by omega)]; split <;> first | omega | (rw [hr _ (by omega)]; omega)
  · rw [getD_set (by omega)] at h ⊢
    by_cases e : b.toNat = w.toNat
    · rw [if_pos e]; obtain rfl : b = w := by omega
      exact .nil b
    · rw [if_neg e, hr _ (by omega)] at h; omega
  · rw [hcnt, getD_set (by omega)]; split <;> first | omega | (rw [hr _ (by omega)]; omega)
/-- one step of the relaxation -/
theorem SI.relax {n : Nat} {arcs : List Arc} {b : Int} {L : List Int} {a : Arc} (h : SI n arcs b L) (hb : 0 ≤ b ∧ b < (n : Int)) (ha : a ∈ arcs) (hF : 0 ≤ a.From ∧ a.From < (n : Int)) (hT : 0 ≤ a.To ∧ a.To < (n : Int))
    (h1 : 0 ≤ L.getD a.To.toNat 0) (h2 : L.getD a.From.toNat 0 < 0 ∨ L.getD a.To.toNat 0 + 1 < L.getD a.From.toNat 0) :
    SI n arcs b (L.set a.From.toNat (L.getD a.To.toNat 0 + 1)) ∧ pot n (L.set a.From.toNat (L.getD a.To.toNat 0 + 1)) < pot n L := by
  have hlen := h.len
  have hFl : a.From.toNat < L.length := by omega
  have hcn := cnt_le L
  have hcT := h.cnt a.To hT.1 hT.2
  have hcF := h.cnt a.From hF.1 hF.2
  have hFb : a.From ≠ b := fun e => by
    have := h.b0
    rw [e] at h2; omega
  generalize hv : L.getD a.To.toNat 0 = v at *
  generalize hu : L.getD a.From.toNat 0 = u at *
  have hc : Gr.cnt (L.set a.From.toNat (v + 1)) = Gr.cnt L - one u + one (v + 1) := by unfold Gr.cnt; rw [sumf_set _ _ _ _ hFl, hu]
  have ho1 : one (v + 1) = 1 := if_pos (by omega)
  have hou : one u = if 0 ≤ u then 1 else 0 := rfl
  refine ⟨⟨by simpa using hlen, fun w k0 k1 => ?_, ?_, fun w k0 k1 k => ?_, fun w k0 k1 => ?_⟩, ?_⟩
  · rw [getD_set hFl]; split
    · omega
    · exact h.lo w k0 k1
  · rw [getD_set hFl, if_neg (by omega)]; exact h.b0
  · rw [getD_set hFl] at k ⊢
    by_cases e : a.From.toNat = w.toNat
    · rw [if_pos e]
      obtain rfl : a.From = w := by omega
      have hw := h.walk a.To hT.1 hT.2 (by omega)
      rw [hv] at hw
      have := walk_head (u := a.From) (v := a.To) ha hw
      rwa [show v.toNat + 1 = (v + 1).toNat by omega] at this
    · rw [if_neg e] at k ⊢; exact h.walk w k0 k1 k
  · rw [hc, ho1, hou, getD_set hFl]
    have := h.cnt w k0 k1
    by_cases hu0 : 0 ≤ u
    · rw [if_pos hu0]; split <;> omega
    · rw [if_neg hu0]; split <;> omega
  · unfold pot
    rw [sumf_set _ _ _ _ hFl, hu]
    have e1 : wgt n (v + 1) = v + 1 := if_neg (by omega)
    have e2 : wgt n u = if u < 0 then (n : Int) + 1 else u := rfl
    rw [e1, e2]
    split <;> omega
theorem SI.least {arcs : List Arc} {b : Int} {L : List Int} (hst : ∀ a ∈ arcs, stable L a) (h0 : L.getD b.toNat 0 = 0) {k : Nat} {w : Int} (hw : Walk (rev arcs) k b w) : 0 ≤ L.getD w.toNat 0 ∧ L.getD w.toNat 0 ≤ k := by
  induction hw with
  | nil => rw [h0]; omega
  | snoc hw ha ih =>
    rename_i k u v w
    have ih := ih h0
    have := hst _ (mem_rev.1 ha) ih.1
    simp only at this
    omega
theorem SI.done {n : Nat} {arcs : List Arc} {b : Int} {L : List Int} (hok : Ok n arcs) (hb : 0 ≤ b ∧ b < (n : Int)) (h : SI n arcs b L) (hst : ∀ a ∈ arcs, stable L a) : L = distL n (rev arcs) b := by
  refine dist_unique (fun x => Iff.rfl) ⟨h.len, fun w k0 k1 => ?_⟩ (distL_is hok.rev hb)
  have hc := h.cnt w k0 k1
  have hn := cnt_le L
  have hl := h.len
  have hlo := h.lo w k0 k1
  by_cases hw : 0 ≤ L.getD w.toNat 0
  · exact .inr ⟨hw, by omega, walk_rev (h.walk w k0 k1 hw), fun k hk => (SI.least hst h.b0 hk).2⟩
  · exact .inl ⟨by omega, fun k hk => hw (SI.least hst h.b0 hk).1⟩
theorem stable_all {L : List Int} {arcs : List Arc} (h : ∀ j, j < arcs.length → stable L (arcs.getD j default)) : ∀ a ∈ arcs, stable L a := fun a ha => by
  obtain ⟨k, hk, rfl⟩ := List.getElem_of_mem ha
  have := h k hk
  simpa [List.getD_eq_getElem?_getD, hk] using this
theorem getD_mem {arcs : List Arc} {k : Nat} (hk : k < arcs.length) : arcs.getD k default ∈ arcs := by simp [List.getD_eq_getElem?_getD, hk]
theorem fill_neg {n : Nat} {L : List Int} (hl : L.length = n) (h : ∀ j, j < n → L.getD j 0 = -1) : L = List.replicate n (-1) := by
  refine list_ext (by simp [hl]) (fun j hj => ?_)
  rw [h j (by omega)]
  simp [List.getD_eq_getElem?_getD, show j < n by omega]
/-- from where b is reached by way of the other nodes' steps -/
theorem back_way {n : Nat} {arcs : List Arc} {i v : Int} (hok : Ok n arcs) (hi : 0 ≤ i ∧ i < (n : Int)) (hv : 0 ≤ v ∧ v < (n : Int)) : 0 ≤ (distL n (rev arcs) i).getD v.toNat 0 ↔ 0 ≤ (distL n arcs v).getD i.toNat 0 := by
  rw [dist_way (distL_is hok.rev hi) hv, dist_way (distL_is hok hv) hi, way_rev]
/-! ### the reference's order -/
def goneL (n : Nat) (done : List Int) : List Bool := (List.range n).map fun i : Nat => decide ((i : Int) ∈ done)
def freeL (n : Nat) (arcs : List Arc) (done : List Int) : List Bool := (List.range n).map fun i : Nat => freeB arcs done (i : Int)
theorem goneL_len (n : Nat) (done : List Int) : (goneL n done).length = n := by simp [goneL]
theorem freeL_len (n : Nat) (arcs : List Arc) (done : List Int) : (freeL n arcs done).length = n := by simp [freeL]
theorem goneL_get {n : Nat} {done : List Int} {i : Nat} (hi : i < n) : (goneL n done).getD i false = decide ((i : Int) ∈ done) := by simp [goneL, List.getD_eq_getElem?_getD, hi]
theorem freeL_get {n : Nat} {arcs : List Arc} {done : List Int} {i : Nat} (hi : i < n) : (freeL n arcs done).getD i false = freeB arcs done (i : Int) := by simp [freeL, List.getD_eq_getElem?_getD, hi]
theorem bool_ext {xs ys : List Bool} (hl : xs.length = ys.length) (h : ∀ j, j < xs.length → xs.getD j false = ys.getD j false) : xs = ys := by
  refine List.ext_getElem hl (fun j h1 h2 => ?_)
  have := h j h1
  simpa [List.getD_eq_getElem?_getD, h1, h2] using this
theorem getD_setB {L : List Bool} {i j : Nat} {v : Bool} (hi : i < L.length) : (L.set i v).getD j false = if i = j then v else L.getD j false := by
  simp only [List.getD_eq_getElem?_getD, List.getElem?_set]
  split
  · rename_i h; subst h; simp
  · rfl
theorem goneL_nil {n : Nat} : goneL n [] = List.replicate n false := by
  refine bool_ext (by simp [goneL]) (fun j hj => ?_)
  rw [goneL_len] at hj
  rw [goneL_get hj]; simp [List.getD_eq_getElem?_getD, hj]
theorem goneL_set {n : Nat} {done : List Int} {v : Nat} (hv : v < n) : (goneL n done).set v true = goneL n (done ++ [(v : Int)]) := by
  refine bool_ext (by simp [goneL]) (fun j hj => ?_)
  rw [List.length_set, goneL_len] at hj
  rw [getD_setB (by rw [goneL_len]; exact hv), goneL_get hj, goneL_get hj]
  by_cases e : v = j
  · subst e; simp
  · rw [if_neg e]
    congr 1
    simp only [List.mem_append, List.mem_singleton, eq_iff_iff]
    constructor
    · exact .inl
    · rintro (h | h)
      · exact h
      · omega
theorem freeL_zero {n : Nat} {done : List Int} {L : List Bool} (hl : L.length = n) (h : ∀ j, j < n → L.getD j false = !((goneL n done).getD j false)) : L = freeL n [] done := by
  refine bool_ext (by rw [freeL_len, hl]) (fun j hj => ?_)
  rw [h j (by omega), freeL_get (by omega), goneL_get (by omega)]
  simp [freeB]
theorem freeB_snoc {arcs : List Arc} {a : Arc} {done : List Int} {v : Int} : freeB (arcs ++ [a]) done v = (freeB arcs done v && decide (a.To = v → a.From ∈ done)) := by
  simp [freeB, List.all_append, Bool.and_assoc]
theorem freeL_step {n : Nat} {arcs : List Arc} {done : List Int} {k : Nat} (hk : k < arcs.length) (hT : 0 ≤ (arcs.getD k default).To ∧ (arcs.getD k default).To < (n : Int)) :
    freeL n (arcs.take (k + 1)) done = if (arcs.getD k default).From ∈ done then freeL n (arcs.take k) done else (freeL n (arcs.take k) done).set (arcs.getD k default).To.toNat false := by
  have hT2 : (arcs.getD k default).To.toNat < n := by omega
  refine bool_ext (by split <;> simp [freeL]) (fun j hj => ?_)
  rw [freeL_len] at hj
  rw [freeL_get hj, take_snoc hk, freeB_snoc]
  split
  · rename_i h; rw [freeL_get hj]; simp only [h, implies_true, decide_true, Bool.and_true]
  · rename_i h
    rw [getD_setB (by rw [freeL_len]; exact hT2), freeL_get hj]
    by_cases e : (arcs.getD k default).To.toNat = j
    · rw [if_pos e, decide_eq_false (fun hh => h (hh (by omega))), Bool.and_false]
    · rw [if_neg e, decide_eq_true (fun e2 => absurd (by omega) e), Bool.and_true]
theorem next_at {n : Nat} {arcs : List Arc} {done : List Int} {v : Nat} (hv : v < n) (h1 : ∀ j, j < v → (freeL n arcs done).getD j false = false) (h2 : (freeL n arcs done).getD v false = true) : nextFree n arcs done = some (v : Int) := by
  unfold nextFree
  rw [find_first n v hv (fun j hj => by rw [← freeL_get (by omega : j < n)]; exact h1 j hj) (by rw [← freeL_get hv]; exact h2)]
  rfl
theorem next_no {n : Nat} {arcs : List Arc} {done : List Int} (h1 : ∀ j, j < n → (freeL n arcs done).getD j false = false) : nextFree n arcs done = none := by
  unfold nextFree
  rw [Option.map_eq_none_iff, List.find?_eq_none]
  intro k hk
  have hk := List.mem_range.1 hk
  rw [← freeL_get hk, h1 k hk]; simp
/-! ### the reference's way -/
theorem closest_is {n : Nat} {arcs : List Arc} {b v w : Int} {d : List Int} (hok : Ok n arcs) (h : IsTo n arcs b d) (hv : 0 ≤ v ∧ v < n) (hd : 0 < d.getD v.toNat 0) (hw : 0 ≤ w ∧ w ≤ closest arcs d v) (h1 : d.getD w.toNat 0 = d.getD v.toNat 0 - 1) (h2 : (⟨v, w⟩ : Arc) ∈ arcs) : w = closest arcs d v := by
  obtain ⟨k1, k2, k3⟩ := closest_to hok h hv hd
  rcases closest_spec (d := d) (v := v) hok with ⟨e, _⟩ | ⟨_, _, _, e⟩
  · omega
  · rcases e w h2 (by omega) with e | ⟨_, e⟩ <;> omega
end Gr
