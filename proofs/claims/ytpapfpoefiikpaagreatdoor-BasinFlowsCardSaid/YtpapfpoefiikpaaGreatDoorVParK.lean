/- Lemmas. Conditions: those of each theorem. -/
import Derived.Test.YtpapfpoefiikpaaGreatDoorVDfr
namespace Go.K
open Go Go.RowKit
variable {B : Bs} {Φ Ψ : Hp} {C : List Chunk} {W W' w : World}
theorem StP.sel {C' : List Chunk} (h : StP B Φ C w) (is : List Nat) (hn : is.Nodup) (hC : is.map (C[·]?) = C'.map some) : StP B Φ C' w := by
 have hmem : ∀ c ∈ C', c ∈ C := fun c hc => by
  have : some c ∈ is.map (C[·]?) := by rw [hC]; exact List.mem_map_of_mem hc
  obtain ⟨i, _, hi⟩ := List.mem_map.1 this
  exact List.mem_of_getElem? hi
 have hl : is.length = C'.length := by have := congrArg List.length hC; simpa using this
 have hat : ∀ i (hi : i < C'.length), C[is[i]'(hl ▸ hi)]? = some C'[i] := fun i hi => by
  have := congrArg (·[i]?) hC
  simpa [List.getElem?_map, hi, hl ▸ hi] using this
 exact { h with
  sat := fun c hc => h.sat c (hmem c hc)
  sep := by
   refine List.pairwise_iff_getElem.2 fun i j hi hj hij => ?_
   have h1 := hat i hi; have h2 := hat j hj
   obtain ⟨l1, e1⟩ := List.getElem?_eq_some_iff.1 h1
   obtain ⟨l2, e2⟩ := List.getElem?_eq_some_iff.1 h2
   rw [← e1, ← e2]
   have hne : is[i]'(hl ▸ hi) ≠ is[j]'(hl ▸ hj) := fun he => by
    have := (List.pairwise_iff_getElem.1 hn) i j (hl ▸ hi) (hl ▸ hj) hij
    exact this he
   have hp := List.pairwise_iff_getElem.1 h.sep
   rcases Nat.lt_or_gt_of_ne hne with h3 | h3
   ·
    exact hp _ _ l1 l2 h3
   ·
    exact Chunk.apart_symm (hp _ _ l2 l1 h3)
  away := fun b hb => by
   obtain ⟨c, hc, hbc⟩ := List.mem_flatMap.1 hb
   exact h.away b (List.mem_flatMap.2 ⟨c, hmem c hc, hbc⟩) }
abbrev fps (A : List Chunk) : List Nat := A.flatMap (·.fp)
theorem StP.hand {A : List Chunk} (h : StP B Φ (A ++ C) w) : StP ⟨w, Φ, fps A⟩ Φ A w where
 os := rfl
 tape := rfl
 output := rfl
 size := Nat.le_refl _
 drawn := Nat.le_refl _
 old := fun _ _ _ => rfl
 phi := h.phi
 orig := fun _ _ h _ => h
 sat := fun c hc => h.sat c (List.mem_append_left _ hc)
 sep := (List.pairwise_append.1 h.sep).1
 away := fun b hb => ⟨(h.away b (by rw [List.flatMap_append]; exact List.mem_append_left _ hb)).1, .inr hb⟩
theorem StP.frameL {A C1 : List Chunk} (h : StP B Φ (A ++ C) W) (k : StP ⟨W, Φ, fps A⟩ Ψ C1 W') : StP B Ψ (C1 ++ C) W' := by
 have hsep := List.pairwise_append.1 h.sep
 have hno : ∀ c2 ∈ C, ∀ b ∈ c2.fp, b ∉ fps A := fun c2 h2 b hb hc => by
  obtain ⟨c, hcA, hbc⟩ := List.mem_flatMap.1 hc
  exact hsep.2.2 c hcA c2 h2 b hbc hb
 have hlt : ∀ c2 ∈ C, ∀ b ∈ c2.fp, b < W.heap.size := fun c2 h2 b hb => h.fp_lt (List.mem_flatMap.2 ⟨c2, List.mem_append_right _ h2, hb⟩)
 have hA : ∀ b ∈ fps A, b ∈ (A ++ C).flatMap (·.fp) := fun b hb => by rw [List.flatMap_append]; exact List.mem_append_left _ hb
 exact {
  os := k.os.trans h.os
  tape := k.tape.trans h.tape
  output := k.output.trans h.output
  size := Nat.le_trans h.size k.size
  drawn := Nat.le_trans h.drawn k.drawn
  old := fun b hb hE => (k.old b (Nat.lt_of_lt_of_le hb h.size) (fun hc => by
   rcases (h.away b (hA b hc)).2 with h1 | h1
   ·
    omega
   ·
    exact hE h1)).trans (h.old b hb hE)
  phi := k.phi
  orig := fun b o hb hl => h.orig b o (k.orig b o hb (Nat.lt_of_lt_of_le hl h.size)) hl
  sat := fun c2 hc2 => by
   rcases List.mem_append.1 hc2 with h1 | h1
   ·
    exact k.sat c2 h1
   ·
    exact c2.loc _ _ (fun b hb => k.old b (hlt c2 h1 b hb) (hno c2 h1 b hb)) (h.sat c2 (List.mem_append_right _ h1))
  sep := List.pairwise_append.2 ⟨k.sep, hsep.2.1, fun c1 h1 c2 h2 b hb1 hb2 => by
   rcases (k.away b (List.mem_flatMap.2 ⟨c1, h1, hb1⟩)).2 with h3 | h3
   ·
    have := hlt c2 h2 b hb2; simp only at h3; omega
   ·
    exact hno c2 h2 b hb2 h3⟩
  away := fun b hb => by
   rw [List.flatMap_append, List.mem_append] at hb
   rcases hb with hb | hb
   ·
    refine ⟨(k.away b hb).1, ?_⟩
    rcases (k.away b hb).2 with h1 | h1
    ·
     exact .inl (Nat.le_trans h.size h1)
    ·
     exact (h.away b (hA b h1)).2
   ·
    obtain ⟨c2, h2, hb2⟩ := List.mem_flatMap.1 hb
    have hm := h.away b (List.mem_flatMap.2 ⟨c2, List.mem_append_right _ h2, hb2⟩)
    refine ⟨?_, hm.2⟩
    cases he : Ψ b with
    | none => rfl
    | some o =>
     have := k.orig b o he (hlt c2 h2 b hb2)
     simp only at this
     rw [hm.1] at this; cases this }
end Go.K
