/- Plain facts of the layer: the reference's fusing, gauge by gauge. Conditions: those of each theorem. -/
import Derived.Test.YtblfeidlnhdekaaVPlainD
namespace Fu
theorem appU_keep {xs : List Int} {nn : Int} {k : Nat} (has : xs.Pairwise (· < ·)) (hle : ∀ x ∈ xs, x ≤ nn) (hk : k < xs.length) (he : xs.getD k 0 = nn) : appU xs nn = xs := by
  unfold appU
  rw [if_pos]
  rw [List.getLast?_eq_getElem?, List.getElem?_eq_getElem (show xs.length - 1 < xs.length by omega)]
  rw [List.getD_eq_getElem?_getD, List.getElem?_eq_getElem hk] at he
  simp only [Option.getD_some] at he
  rcases Nat.lt_or_eq_of_le (show k ≤ xs.length - 1 by omega) with h | h
  · have h1 := List.pairwise_iff_getElem.1 has k (xs.length - 1) hk (by omega) h
    have h2 := hle _ (List.getElem_mem (show xs.length - 1 < xs.length by omega))
    omega
  · subst h; exact congrArg some he
theorem appU_asc {xs : List Int} {nn : Int} (has : xs.Pairwise (· < ·)) (hle : ∀ x ∈ xs, 0 ≤ x ∧ x ≤ nn) (h0 : 0 ≤ nn) : (appU xs nn).Pairwise (· < ·) ∧ ∀ x ∈ appU xs nn, 0 ≤ x ∧ x ≤ nn := by
  unfold appU
  split
  · exact ⟨has, hle⟩
  · rename_i hn
    refine ⟨List.pairwise_append.2 ⟨has, by simp, fun a ha b hb => ?_⟩, fun x hx => ?_⟩
    · obtain rfl := List.mem_singleton.1 hb
      have h1 := hle a ha
      rcases Int.lt_or_eq_of_le h1.2 with h2 | h2
      · exact h2
      · exfalso
        subst h2
        obtain ⟨i, hi, e⟩ := List.mem_iff_getElem.1 ha
        apply hn
        have h3 := appU_keep has (fun x hx => (hle x hx).2) hi (by rw [List.getD_eq_getElem?_getD, List.getElem?_eq_getElem hi]; exact e)
        unfold appU at h3
        split at h3
        · assumption
        · have := congrArg List.length h3; simp at this
    · rcases List.mem_append.1 hx with h | h
      · exact hle x h
      · obtain rfl := List.mem_singleton.1 h; exact ⟨h0, Int.le_refl _⟩
theorem asc_len : ∀ {xs : List Int} {a b : Int}, xs.Pairwise (· < ·) → (∀ x ∈ xs, a ≤ x ∧ x < b) → xs = [] ∨ (xs.length : Int) ≤ b - a
  | [], _, _, _, _ => .inl rfl
  | x :: xs, a, b, has, hr => by
    obtain ⟨h1, h2⟩ := List.pairwise_cons.1 has
    have hx := hr x (by simp)
    refine .inr ?_
    rcases asc_len (a := x + 1) (b := b) h2 (fun y hy => ⟨h1 y hy, (hr y (by simp [hy])).2⟩) with h | h
    · subst h; simp; omega
    · simp only [List.length_cons]; omega
theorem asc_le {xs : List Int} {n : Nat} (has : xs.Pairwise (· < ·)) (h : ∀ x ∈ xs, 0 ≤ x ∧ x < (n : Int)) : xs.length ≤ n := by
  rcases asc_len has h with h1 | h1
  · subst h1; simp
  · omega
/-! ### one reading -/
def hullOf (h : Bt.Hull) (F : FS) : Bt.Hull := ⟨h.Hour, F.V, h.Queue, F.K⟩
theorem step_all (b : Bt.Basin) (V : List Bt.Span) (K : List Bt.Known) (N : List Int) (r : Bt.Reading) : stepF b ⟨V, K, N⟩ r = ⟨(stepF b ⟨V, K, []⟩ r).V, (stepF b ⟨V, K, []⟩ r).K, N ++ (stepF b ⟨V, K, []⟩ r).N⟩ ∧ ((stepF b ⟨V, K, []⟩ r).N = [] ∨ (stepF b ⟨V, K, []⟩ r).N = [r.Gauge]) := by
  unfold stepF
  dsimp only
  split
  · split <;> simp
  · split
    · split <;> simp
    · simp
/-! ### gauge by gauge -/
structure RefOk (b : Bt.Basin) (h : Bt.Hull) (F : FS) (g : Nat) : Prop where
  asc : (comp F.N).Pairwise (· < ·)
  rng : ∀ x ∈ comp F.N, 0 ≤ x ∧ x ≤ (g : Int)
  vl : F.V.length = h.Vol.length
  kl : F.K.length = h.Links.length
theorem step_len (b : Bt.Basin) (F : FS) (r : Bt.Reading) : (stepF b F r).V.length = F.V.length ∧ (stepF b F r).K.length = F.K.length := by
  unfold stepF
  split
  · split <;> simp [narV_len]
  · split
    · split <;> simp [narL_len]
    · simp
theorem step_N (b : Bt.Basin) (F : FS) (r : Bt.Reading) : (stepF b F r).N = F.N ∨ (stepF b F r).N = F.N ++ [r.Gauge] := by
  obtain ⟨V, K, N⟩ := F
  have h1 := step_all b V K N r
  rw [h1.1]
  rcases h1.2 with h2 | h2 <;> rw [h2] <;> simp
theorem RefOk.step {b : Bt.Basin} {h : Bt.Hull} {F : FS} {g : Nat} (hF : RefOk b h F g) {r : Bt.Reading} (hg : r.Gauge = (g : Int)) : RefOk b h (stepF b F r) g := by
  have h1 := step_len b F r
  have h2 := appU_asc hF.asc hF.rng (Int.natCast_nonneg g)
  refine ⟨?_, ?_, h1.1.trans hF.vl, h1.2.trans hF.kl⟩
  · rcases step_N b F r with e | e
    · rw [e]; exact hF.asc
    · rw [e, comp_snoc, hg]; exact h2.1
  · rcases step_N b F r with e | e
    · rw [e]; exact hF.rng
    · rw [e, comp_snoc, hg]; exact h2.2
theorem RefOk.len {b : Bt.Basin} {h : Bt.Hull} {F : FS} {g : Nat} (hF : RefOk b h F g) : (comp F.N).length ≤ g + 1 := asc_le hF.asc (fun x hx => by have := hF.rng x hx; omega)
/-! ### drifting -/
def drift (n : Nat) (hist : List (List Int)) : List Int := if hist.length < 3 then [] else ((List.range n).map fun (i : Nat) => (i : Int)).filter fun i => (hist.drop (hist.length - 3)).all fun m => decide (i ∈ m)
def drI (n : Nat) (last : List (List Int)) : List Int := ((List.range n).map fun (i : Nat) => (i : Int)).filter fun i => last.all fun m => decide (i ∈ m)
theorem drI_succ (n : Nat) (last : List (List Int)) : drI (n + 1) last = if (last.all fun m => decide ((n : Int) ∈ m)) = true then drI n last ++ [(n : Int)] else drI n last := by
  unfold drI
  rw [List.range_succ, List.map_append, List.filter_append]
  split
  · rename_i h; simp [h]
  · rename_i h; simp [h]
theorem drI_rng {n : Nat} {last : List (List Int)} {x : Int} (h : x ∈ drI n last) : 0 ≤ x ∧ x < (n : Int) := by
  unfold drI at h
  obtain ⟨h1, _⟩ := List.mem_filter.1 h
  obtain ⟨i, hi, rfl⟩ := List.mem_map.1 h1
  have := List.mem_range.1 hi
  omega
theorem drift_eq {n : Nat} {hist : List (List Int)} (h : ¬ hist.length < 3) : drift n hist = drI n (hist.drop (hist.length - 3)) := by unfold drift drI; rw [if_neg h]
/-- the first one that a test marks -/
def firstF (p : List Int → Bool) (L : List (List Int)) : Int := if L.any p then ((L.findIdx p : Nat) : Int) else -1
theorem firstF_hit {p : List Int → Bool} {L : List (List Int)} {k : Nat} (hk : k < L.length) (h : ∀ j, j < k → p (L.getD j []) = false) (he : p (L.getD k []) = true) : firstF p L = (k : Int) := by
  have hf : L.findIdx p = k := by
    refine (List.findIdx_eq hk).2 ⟨?_, fun j hj => ?_⟩
    · rwa [List.getD_eq_getElem?_getD, List.getElem?_eq_getElem hk] at he
    · have := h j hj; rwa [List.getD_eq_getElem?_getD, List.getElem?_eq_getElem (Nat.lt_trans hj hk)] at this
  unfold firstF
  rw [if_pos, hf]
  rw [List.getD_eq_getElem?_getD, List.getElem?_eq_getElem hk] at he
  exact List.any_eq_true.2 ⟨_, List.getElem_mem hk, he⟩
theorem firstF_miss {p : List Int → Bool} {L : List (List Int)} (h : ∀ j, j < L.length → p (L.getD j []) = false) : firstF p L = -1 := by
  unfold firstF
  rw [if_neg]
  intro ha
  obtain ⟨x, hx, hp⟩ := List.any_eq_true.1 ha
  obtain ⟨i, hi, rfl⟩ := List.mem_iff_getElem.1 hx
  have := h i hi
  rw [List.getD_eq_getElem?_getD, List.getElem?_eq_getElem hi] at this
  rw [show (some L[i]).getD [] = L[i] from rfl, hp] at this
  cases this
theorem firstF_any (p : List Int → Bool) (L : List (List Int)) : decide (0 ≤ firstF p L) = L.any p := by
  unfold firstF
  cases h : L.any p with
  | true => rw [if_pos rfl]; exact decide_eq_true (by omega)
  | false => rw [if_neg (by decide)]; rfl
theorem not_any (i : Int) (L : List (List Int)) : (!(L.any fun m => !decide (i ∈ m))) = L.all fun m => decide (i ∈ m) := by
  induction L with
  | nil => rfl
  | cons x L ih => simp only [List.any_cons, List.all_cons, Bool.not_or, Bool.not_not, ih]
end Fu
