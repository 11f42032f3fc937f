/- Lemmas. Conditions: those of each theorem. -/
import Derived.Test.YtblfeidlnhdekaaGreatSPar
namespace Go.K
open Go Go.RowKit
variable {B : Bs} {Φ Ψ : Hp} {C : List Chunk} {W W' w : World}
abbrev fps (A : List Chunk) : List Nat := A.flatMap (·.fp)
theorem StP.frameL {A C1 : List Chunk} (h : StP B Φ (A ++ C) W) (k : StP ⟨W, Φ, fps A⟩ Ψ C1 W') : StP B Ψ (C1 ++ C) W' := by
 have hsep := List.pairwise_append.1 h.sep
 have hno : ∀ c2 ∈ C, ∀ b ∈ c2.fp, b ∉ fps A := fun c2 h2 b hb hc => by
  obtain ⟨c, hcA, hbc⟩ := List.mem_flatMap.1 hc
  exact hsep.2.2 c hcA c2 h2 b hbc hb
 have hlt : ∀ c2 ∈ C, ∀ b ∈ c2.fp, b < W.heap.size := fun c2 h2 b hb => h.fp_lt (List.mem_flatMap.2 ⟨c2, List.mem_append_right _ h2, hb⟩)
 have hA : ∀ b ∈ fps A, b ∈ (A ++ C).flatMap (·.fp) := fun b hb => by rw [List.flatMap_append]; exact List.mem_append_left _ hb
 exact {
  os := k.os.trans h.os
  tape := k.tape.trans h.tape
  output := k.output.trans h.output
  size := Nat.le_trans h.size k.size
  drawn := Nat.le_trans h.drawn k.drawn
  old := fun b hb hE => (k.old b (Nat.lt_of_lt_of_le hb h.size) (fun hc => by
   rcases (h.away b (hA b hc)).2 with h1 | h1
   ·
    omega
   ·
    exact hE h1)).trans (h.old b hb hE)
  phi := k.phi
  orig := fun b o hb hl => h.orig b o (k.orig b o hb (Nat.lt_of_lt_of_le hl h.size)) hl
  sat := fun c2 hc2 => by
   rcases List.mem_append.1 hc2 with h1 | h1
   ·
    exact k.sat c2 h1
   ·
    exact c2.loc _ _ (fun b hb => k.old b (hlt c2 h1 b hb) (hno c2 h1 b hb)) (h.sat c2 (List.mem_append_right _ h1))
  sep := List.pairwise_append.2 ⟨k.sep, hsep.2.1, fun c1 h1 c2 h2 b hb1 hb2 => by
   rcases (k.away b (List.mem_flatMap.2 ⟨c1, h1, hb1⟩)).2 with h3 | h3
   ·
    have := hlt c2 h2 b hb2; simp only at h3; omega
   ·
    exact hno c2 h2 b hb2 h3⟩
  away := fun b hb => by
   rw [List.flatMap_append, List.mem_append] at hb
   rcases hb with hb | hb
   ·
    refine ⟨(k.away b hb).1, ?_⟩
    rcases (k.away b hb).2 with h1 | h1
    ·
     exact .inl (Nat.le_trans h.size h1)
    ·
     exact (h.away b (hA b h1)).2
   ·
    obtain ⟨c2, h2, hb2⟩ := List.mem_flatMap.1 hb
    have hm := h.away b (List.mem_flatMap.2 ⟨c2, List.mem_append_right _ h2, hb2⟩)
    refine ⟨?_, hm.2⟩
    cases he : Ψ b with
    | none => rfl
    | some o =>
     have := k.orig b o he (hlt c2 h2 b hb2)
     simp only at this
     rw [hm.1] at this; cases this }
end Go.K
