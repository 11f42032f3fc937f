/- Lemmas. Conditions: those of each theorem. -/
import Derived.Test.YtpapfpoefiikpaaGreatDoorVRnd
import Derived.Test.YtpapfpoefiikpaaGreatDoorVRes
namespace Go.K
open Go Go.RowKit
variable {P : Program} {N : Nat} {D : List Deferred} {f : Nat → Value} {s : List (Nat × Value)}
variable {B : Bs} {Φ Φ' : Hp} {C C' : List Chunk} {W W' : World}
def own (C : List Chunk) : List Nat := C.flatMap (·.fp)
theorem StP.rebase (h : StP B Φ C W) : StP ⟨W, Φ, own C⟩ Φ C W :=
  ⟨rfl, rfl, rfl, Nat.le_refl _, Nat.le_refl _, fun _ _ _ => rfl, h.phi, fun _ _ h _ => h, h.sat, h.sep, fun b hb => ⟨(h.away b hb).1, .inr hb⟩⟩
theorem StP.join (h : StP B Φ C W) (k : StP ⟨W, Φ, own C⟩ Φ' C' W') : StP B Φ' C' W' where
  os := k.os.trans h.os
  tape := k.tape.trans h.tape
  output := k.output.trans h.output
  size := Nat.le_trans h.size k.size
  drawn := Nat.le_trans h.drawn k.drawn
  old := fun b hb hE => (k.old b (Nat.lt_of_lt_of_le hb h.size) (fun hc => by
    rcases (h.away b hc).2 with h1 | h1
    · omega
    · exact hE h1)).trans (h.old b hb hE)
  phi := k.phi
  orig := fun b o hb hlt => h.orig b o (k.orig b o hb (Nat.lt_of_lt_of_le hlt h.size)) hlt
  sat := k.sat
  sep := k.sep
  away := fun b hb => ⟨(k.away b hb).1, by
    rcases (k.away b hb).2 with h1 | h1
    · exact .inl (Nat.le_trans h.size h1)
    · exact (h.away b h1).2⟩
def Celled (C : List Chunk) : Prop := ∀ c ∈ C, ∀ b ∈ c.fp, ∀ Φ, c.sat Φ → ∃ cs T fz, Φ b = some (.cells cs T fz)
theorem celled_nil : Celled [] := fun _ h => by cases h
theorem celled_blk {b T : Nat} {cs : List Value} (h : Celled C) : Celled (.blk b T cs :: C) := fun c hc => by
  rcases List.mem_cons.1 hc with rfl | hc
  · intro b' hb' Φ hs
    obtain rfl : b' = b := by simpa [Chunk.blk] using hb'
    exact ⟨_, _, _, hs⟩
  · exact h c hc
theorem celled_row {v : Value} {T sz n : Nat} {xs : List Value} (h : Celled C) : Celled (.row v T sz n xs :: C) := fun c hc => by
  rcases List.mem_cons.1 hc with rfl | hc
  · intro b' hb' Φ hs
    have hs' : RowS Φ v T sz n xs := hs
    rcases hs'.2 with ⟨rfl, _⟩ | ⟨g, cap, cur, rfl, h2, _⟩
    · simp [Chunk.row, blks] at hb'
    · obtain rfl : b' = g := by simpa [Chunk.row, blks] using hb'
      exact ⟨_, _, _, h2⟩
  · exact h c hc
theorem own_cells (hC : Celled C) (h : StP B Φ C W) {b : Nat} (hb : b ∈ own C) : ∃ cs T fz, W.heap[b]? = some (.cells cs T fz) := by
  obtain ⟨c, hc, hbc⟩ := List.mem_flatMap.1 hb
  exact hC c hc b hbc _ (h.sat c hc)
theorem StP.keeps (hC : Celled C) (h : StP B Φ C W) (k : StP ⟨W, Φ, own C⟩ Φ' C' W') : KeepsOthers W W' :=
  ⟨k.size, fun b o hb ho => by
    have hlt : b < W.heap.size := (Array.getElem?_eq_some_iff.1 hb).1
    refine (k.old b hlt fun hc => ?_).trans hb
    obtain ⟨cs, T, fz, h1⟩ := own_cells hC h hc
    rw [hb] at h1; cases h1; cases ho⟩
theorem StP.aside (h : StP B Φ C W) (k : StP ⟨W, Φ, own C⟩ Φ' C' W') {b : Nat} (hb : b < W.heap.size) (hn : Φ b ≠ none) : W'.heap[b]? = W.heap[b]? :=
  k.old b hb fun hc => hn (h.away b hc).1
theorem StP.turnz {n : Nat} {row : Option Nat} (hz : B.w0.drawn = 0) (hC : Celled C) (h : StP B Φ C W) (hg : W.grownBy W' row) (hr : ∀ r, row = some r → n ≤ r ∧ ∃ o : Obj, W.heap[r]? = some o ∧ o.isCells = false) (hn : B.w0.heap.size ≤ n) (hΦ : ∀ b o, Φ b = some o → b < n) : StP B Φ C W' := by
  have key : ∀ b, b < W.heap.size → (∀ r, row = some r → b ≠ r) → W'.heap[b]? = W.heap[b]? := fun b hb hne => hg.block b hb (fun e => by cases hrow : row with
    | none => rw [hrow] at e; cases e
    | some r => rw [hrow] at e; exact hne r hrow (by simpa using e))
  exact {
    os := hg.os.trans h.os
    tape := hg.tape.trans h.tape
    output := hg.output.trans h.output
    size := Nat.le_trans h.size hg.size
    drawn := by rw [hz]; simp
    old := fun b hb hE => (key b (Nat.lt_of_lt_of_le hb h.size) (fun r e => by have := (hr r e).1; omega)).trans (h.old b hb hE)
    phi := fun b o hb => by
      have h1 := h.phi b o hb
      have hlt : b < W.heap.size := (Array.getElem?_eq_some_iff.1 h1).1
      exact (key b hlt (fun r e => by have := (hr r e).1; have := hΦ b o hb; omega)).trans h1
    orig := h.orig
    sat := fun c hc => c.loc _ _ (fun b hb => by
      have hb' : b ∈ own C := List.mem_flatMap.2 ⟨c, hc, hb⟩
      obtain ⟨cs, T, fz, h1⟩ := own_cells hC h hb'
      exact key b (Array.getElem?_eq_some_iff.1 h1).1 (fun r e hbr => by
        subst hbr
        obtain ⟨_, o, h2, h3⟩ := hr b e
        rw [h1] at h2; cases h2; cases h3)) (h.sat c hc)
    sep := h.sep
    away := h.away }
theorem StP.add (h : StP B Φ C W) {b T : Nat} {cs : List Value} (hs : W.heap[b]? = some (.cells cs.toArray T (0, 0))) (hn : b ∉ own C) (hΦ : Φ b = none) (hB : B.w0.heap.size ≤ b) : StP B Φ (.blk b T cs :: C) W :=
  { h with
    sat := fun c hc => by
      rcases List.mem_cons.1 hc with rfl | hc
      · exact hs
      · exact h.sat c hc
    sep := List.pairwise_cons.2 ⟨fun c hc x hx hxc => by
      obtain rfl : x = b := by simpa [Chunk.blk] using hx
      exact hn (List.mem_flatMap.2 ⟨c, hc, hxc⟩), h.sep⟩
    away := fun x hx => by
      rw [List.flatMap_cons, List.mem_append] at hx
      rcases hx with hx | hx
      · obtain rfl : x = b := by simpa [Chunk.blk] using hx
        exact ⟨hΦ, .inl hB⟩
      · exact h.away x hx }
theorem fin_M0 {F : Fence} {n : Nat} {J : Cls} {fn : Func} {R : Ending → World → Prop} {rs : List ResultVar} {vs : List Value} (hr : fn.results = rs.toArray) (h : ResAll P J (fr f s) rs vs) {v : Value} (hv : tup vs = v) (hR : ∀ w, J.p w → R (.returned v) w) :
    Post N [] (bodyPostM F n P fn R) .ret f s J := fun a w ha hw => by
  have h1 := results_run hr ha.get hw h
  rw [hv] at h1
  show LeavesInM F n P fn a.tmps R a.defers .returning w
  rw [ha.defers]
  exact ⟨v, h1, hR w hw⟩
theorem fin_M1 {F : Fence} {n : Nat} {J J' : Cls} {fn : Func} {R : Ending → World → Prop} {rs : List ResultVar} {vs : List Value} {d : Nat} (hd : ∀ w, J.p w → w.heap[d]? = some (.deferred (some []))) (hJ : ∀ w, J.p w → J'.p (w.putObj d (.deferred none)))
    (hr : fn.results = rs.toArray) (h : ResAll P J' (fr f s) rs vs) {v : Value} (hv : tup vs = v) (hR : ∀ w, J'.p w → R (.returned v) w) :
    Post N [{ target := .collected d, args := #[] }] (bodyPostM F n P fn R) .ret f s J := fun a w ha hw => by
  have h1 := results_run hr ha.get (hJ w hw) h
  rw [hv] at h1
  show LeavesInM F n P fn a.tmps R a.defers .returning w
  rw [ha.defers]
  exact ⟨by simp, .inl ⟨d, _, rfl, run_takeDeferred (hd w hw), v, h1, hR _ (hJ w hw)⟩⟩
theorem Post.go {Q : Exit → Act → World → Prop} {e : Exit} {J : Cls} {a : Act} {w : World} (h : Post N D Q e f s J) (ha : Rel N D (fr f s) a) (hw : J.p w) : Q e a w := h a w ha hw
theorem Rel.of_allIn {g : Nat → Value} {l : List (Nat × Value)} {a : Act} (h : Rel N D g a) (hl : AllIn g l) : Rel N D (fr g l) a := by rw [fr_of_allIn hl]; exact h
theorem Rel.col {g : Nat → Value} {a : Act} {d : Nat} (h : Rel N [] g a) : Rel N [{ target := .collected d, args := #[] }] g { a with defers := { target := .collected d, args := #[] } :: a.defers } := ⟨h.size, by simp [h.defers], h.get⟩
end Go.K
