/- Lemmas. Conditions: those of each theorem. -/
import Derived.Test.YtpapfpoefiikpaaGreatDoorVCore10
import Derived.Shelf.SlSortCmp.NoneTotal
import Derived.Lib.QuietBelow
import Derived.Sort.OwnSortedInts
namespace Go.K
open Go Go.RowKit Go.Sort Go.Proofs

theorem grown_of_bel {w w' : World} (h : Bel w.heap.size w w') : ∃ q os', w' = Go.Sort.grow (w.drewN q) os' := by
  obtain ⟨⟨d, os⟩, hp⟩ := regrown_of_below h.toBelow
  have h1 : w.drawn * 1 ≤ d * 1 := by have := h.drawn; rw [hp] at this; exact this
  have hd : w.drawn ≤ d := by omega
  refine ⟨d - w.drawn, os, ?_⟩
  rw [hp]
  show Go.Sort.grow (redrawn w d) os = Go.Sort.grow (w.drewN (d - w.drawn)) os
  congr 1
  show { w with drawn := d } = { w with drawn := w.drawn + (d - w.drawn) }
  congr 1
  omega

theorem cmpLays_of {P : Program} {g : Nat} {α : Type} {enc : α → List Value} {k : Nat} {cf : α → α → Int} {blk off size : Nat} {w : World} [Inhabited α]
    (h : ∀ (W : World) (x y : α), Calls P g #[.agg (enc x).toArray, .agg (enc y).toArray] W fun e w' => e = .returned (.int .i64 (cf x y)) ∧ Bel W.heap.size W w') : CmpLays P g #[] enc k cf blk off size w :=
  fun _ _ _ _ x y => (h _ x y).mono fun _ _ ⟨he, hb⟩ => ⟨he, grown_of_bel hb⟩

section
variable {α : Type} [Inhabited α] [RepE α]
theorem flatK_eq (he : EvenE α) (d : Array α) : (flatK RepE.cells (Rep.sz α) d).toList = flat d.toList := by
  apply List.ext_getElem?
  intro t
  by_cases ht : t < d.size * Rep.sz α
  · have hpos : 0 < Rep.sz α := by
      rcases Nat.eq_zero_or_pos (Rep.sz α) with h0 | h0
      · rw [h0] at ht; omega
      · exact h0
    have hq : t / Rep.sz α < d.size := (Nat.div_lt_iff_lt_mul hpos).2 ht
    have hm : t % Rep.sz α < (RepE.cells d[t / Rep.sz α]!).length := by rw [he]; exact Nat.mod_lt _ hpos
    have h1 := get_flatK RepE.cells (Rep.sz α) d t ht
    have h2 : (flatK RepE.cells (Rep.sz α) d)[t]? = some ((RepE.cells d[t / Rep.sz α]!)[t % Rep.sz α]!) := by
      rw [← h1, Array.getElem?_eq_getElem (by simpa using ht), getElem!_pos _ t (by simpa using ht)]
    rw [Array.getElem?_toList, h2]
    have hgd : d.toList.getD (t / Rep.sz α) default = d[t / Rep.sz α]! := by
      rw [gDD, Array.getElem?_toList, Array.getElem?_eq_getElem hq, Option.getD_some, getElem!_pos d _ hq]
    have hg := flat_get (l := d.toList) (k := t / Rep.sz α) (j := t % Rep.sz α) (u := (RepE.cells d[t / Rep.sz α]!)[t % Rep.sz α]!) he (by simpa using hq) (by
      rw [hgd, List.getElem?_eq_getElem hm]; exact congrArg some (getElem!_pos (RepE.cells d[t / Rep.sz α]!) (t % Rep.sz α) hm).symm)
    rw [Nat.mul_comm, Nat.div_add_mod] at hg
    exact hg.symm
  · rw [List.getElem?_eq_none (by simpa using ht), List.getElem?_eq_none (by rw [flat_len he]; simpa using ht)]

theorem heap_sortedK {w : World} {g n : Nat} {os : Array Obj} {cur : Array Value} {e : TypeId} {fr : Nat × Nat} (d : Array α) (sz : Nat) (hb : w.heap[g]? = some (.cells cur e fr)) :
    (sortWorldK RepE.cells sz w g 0 n d os).heap[g]? = some (.cells (putCells id 0 (flatK RepE.cells sz d) cur) e fr) := by
  have hg : g < w.heap.size := (Array.getElem?_eq_some_iff.1 hb).1
  unfold sortWorldK putRowK
  rw [heap_grow_old _ _ (by simpa using hg)]
  simp [putRow, mapBlock, Sort.ahead, Array.getElem?_modify, hb, onCells]

theorem grownBy_sortedK {w : World} {g n : Nat} {os : Array Obj} (d : Array α) (sz : Nat) : w.grownBy (sortWorldK RepE.cells sz w g 0 n d os) (some g) := by
  refine ⟨rfl, rfl, rfl, by simp [sortWorldK, putRowK, Sort.ahead], fun k hk hne => ?_⟩
  unfold sortWorldK putRowK
  rw [heap_grow_old _ _ (by simpa using hk)]
  have : g ≠ k := fun e => hne (by rw [e])
  simp [putRow, mapBlock, Sort.ahead, Array.getElem?_modify, this]

theorem take_putCellsK (cur F : Array Value) (h : F.size ≤ cur.size) : (putCells id 0 F cur).toList.take F.size = F.toList := by
  apply List.ext_getElem?
  intro j
  by_cases hj : j < F.size
  · rw [List.getElem?_take_of_lt hj, Array.getElem?_toList]
    simp [putCells, hj, show j < cur.size by omega]
  · rw [List.getElem?_take_eq_none (by omega), List.getElem?_eq_none (by simp; omega)]

theorem holdsK_row {w : World} {g cap n : Nat} {T : TypeId} {l : List α} (he : EvenE α) (hn : l.length = n) (h : RowS (hp w) (.slice (some ⟨g, 0, none⟩) n cap) T (Rep.sz α) n (flat l)) : HoldsK RepE.cells (Rep.sz α) w g 0 l.toArray := by
  obtain ⟨hl, h0 | ⟨g', cap', cur, hv, h2, h3, h4, h5, h6⟩⟩ := h
  · cases h0.1
  cases hv
  intro j hj
  have hF : (flatK RepE.cells (Rep.sz α) l.toArray).toList = flat l := flatK_eq he l.toArray
  have hj' : j < n * Rep.sz α := by simpa [hn] using hj
  have h2' : w.heap[g]? = some (.cells cur T (0, 0)) := h2
  refine ⟨?_, by simp [World.frozen?, h2']⟩
  have h1 : (cur.toList.take (n * Rep.sz α))[j]? = (flatK RepE.cells (Rep.sz α) l.toArray).toList[j]? := by rw [h6, hF]
  rw [List.getElem?_take_of_lt hj'] at h1
  simp only [World.cell?, h2', Nat.zero_add]
  simp only [Option.isSome_none, Bool.false_eq_true, if_false]
  rw [← Array.getElem?_toList, h1, Array.getElem?_toList, Array.getElem?_eq_getElem hj, getElem!_pos _ j hj]
  rfl

theorem StP.sorted {B : Bs} {Φ : Hp} {C : List Chunk} {w : World} {g cap n m : Nat} {T : TypeId} {l : List α} {d : Array α} {os : Array Obj} (he : EvenE α) (h : StP B Φ C w) (i : Nat) (hi : C[i]? = some (.row (.slice (some ⟨g, 0, none⟩) n cap) T (Rep.sz α) n (flat l))) (hd : d.size = n) :
    StP B Φ (C.set i (.row (.slice (some ⟨g, 0, none⟩) n cap) T (Rep.sz α) n (flat d.toList))) (sortWorldK RepE.cells (Rep.sz α) w g 0 m d os) := by
  obtain ⟨hl, h0 | ⟨g', cap', cur, hv, h2, h3, h4, h5, h6⟩⟩ := h.sat _ (List.mem_of_getElem? hi)
  · cases h0.1
  cases hv
  have h2' : w.heap[g]? = some (.cells cur T (0, 0)) := h2
  have hF := flatK_eq he d
  have hs : n * Rep.sz α ≤ cap * Rep.sz α := Nat.mul_le_mul_right _ h3
  refine h.grown hi (grownBy_sortedK d _) ⟨by rw [flat_len he]; simp [hd], .inr ⟨g, cap, _, rfl, heap_sortedK d _ h2', h3, h4, by simp [putCells, h5], ?_⟩⟩ (.inl rfl) (by show w.drawn * 1 ≤ (w.drawn + m) * 1; omega)
  have := take_putCellsK cur (flatK RepE.cells (Rep.sz α) d) (by rw [size_flatK, hd, h5]; exact hs)
  rw [size_flatK, hd] at this
  rw [this, hF]
end

theorem perm_of_permIn {α : Type} [Inhabited α] {l : List α} {d : Array α} (h : PermIn 0 l.toArray.size l.toArray d) : d.toList.Perm l := by
  have h1 := h.2.2
  have h2 : d.extract 0 l.toArray.size = d := by rw [← h.1]; simp
  rw [h2] at h1
  simpa using h1
theorem pairwise_of_sortedIn {α : Type} [Inhabited α] {lt : α → α → Bool} {d : Array α} (h : SortedIn lt 0 d.size d) : d.toList.Pairwise (fun x y => lt y x = false) := by
  rw [List.pairwise_iff_getElem]
  intro i j hi hj hij
  simp only [Array.length_toList] at hi hj
  have := h i j (Nat.zero_le _) hij hj
  rw [getElem!_pos d i hi, getElem!_pos d j hj] at this
  simpa using this
end Go.K
