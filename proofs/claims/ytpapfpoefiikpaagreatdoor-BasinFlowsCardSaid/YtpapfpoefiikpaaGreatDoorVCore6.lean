/- Lemmas. Conditions: those of each theorem. -/
import Derived.Test.YtpapfpoefiikpaaGreatDoorVCore5
namespace Go.K
open Go Go.RowKit
variable {B : Bs} {Φ : Hp} {C : List Chunk}
theorem below_le {w w' : World} (h : Bel w.heap.size w w') : Hp.le (hp w) (hp w') := fun b _ e => (h.block b (lt_of_some e)).trans e
theorem blk_cell {w : World} {b : Nat} {T : TypeId} {cs : List Value} (h : (Chunk.blk b T cs).sat (hp w)) {j : Nat} {v : Value} (hv : cs[j]? = some v) : PCell (hp w) ⟨b, j, none⟩ v := ⟨_, _, _, h, rfl, by simpa using hv⟩
theorem args_capt {l m : List Value} {capt : Array Value} (h : l = m) : (#[] : Array Value).toList ++ l ++ capt.toList = (m.toArray ++ capt).toList := by subst h; simp
section
variable {α : Type} [Inhabited α] [RepE α]
end
theorem q_nilCheck {P : Program} {J : Cls} {f : Nat → Value} {s : List (Nat × Value)} {dst : Option Nat} {ty : TypeId} {pos : String} {af : Array Edge} {g : Option (Nat × Bool)} {x : Operand} {p : Addr} (hx : ev (fr f s) x = .pointer (some p)) : Qt P J f s ⟨dst, .nilCheck x, ty, pos, af, g⟩ (.pointer (some p)) := qt_val fun w _ => by
  simp [execOp, hx]
theorem row_take {v : Value} {T sz n k : Nat} {xs : List Value} (h : RowS Φ v T sz n xs) (hk : k ≤ n) : RowS Φ (subSl v 0 k sz) T sz k (xs.take (k * sz)) := by
  obtain ⟨hl, h⟩ := h
  have hks : k * sz ≤ n * sz := Nat.mul_le_mul_right _ hk
  rcases h with ⟨rfl, rfl⟩ | ⟨gb, cap, cur, rfl, h2, h3, h4, h5, h6⟩
  · obtain rfl : k = 0 := by omega
    exact ⟨by simp, .inl ⟨by simp [subSl, sliced], rfl⟩⟩
  · refine ⟨by rw [List.length_take]; omega, .inr ⟨gb, cap, cur, ?_, h2, by omega, h4, h5, ?_⟩⟩
    · simp only [subSl, sliced, Nat.sub_zero, Nat.zero_mul]
      split
      · rfl
      · simp [Addr.add]
    · rw [← h6, List.take_take, Nat.min_eq_left hks]
theorem set_self {α : Type} {C : List α} {i : Nat} {c : α} (h : C[i]? = some c) : C.set i c = C := by
  apply List.ext_getElem?
  intro j
  rw [List.getElem?_set]
  by_cases hij : i = j
  · subst hij
    have := (List.getElem?_eq_some_iff.1 h).1
    rw [if_pos rfl, if_pos this, h]
  · rw [if_neg hij]
theorem StP.reval {c c' : Chunk} {w : World} (h : StP B Φ (c :: C) w) (hfp : c'.fp = c.fp) (hs : ∀ Ψ, c.sat Ψ → c'.sat Ψ) : StP B Φ (c' :: C) w :=
  { h with
    sat := fun d hd => by
      rcases List.mem_cons.1 hd with h1 | h1
      · subst h1; exact hs _ (h.sat c (by simp))
      · exact h.sat d (by simp [h1])
    sep := by
      obtain ⟨h1, h2⟩ := List.pairwise_cons.1 h.sep
      exact List.pairwise_cons.2 ⟨fun d hd b hb => h1 d hd b (by rw [← hfp]; exact hb), h2⟩
    away := fun b hb => h.away b (by simpa [hfp] using hb) }
theorem StP.rowTake {w : World} {v : Value} {T sz n k : Nat} {xs : List Value} (h : StP B Φ (.row v T sz n xs :: C) w) (hk : k ≤ n) : StP B Φ (.row (subSl v 0 k sz) T sz k (xs.take (k * sz)) :: C) w := by
  refine h.reval ?_ (fun Ψ hs => row_take hs hk)
  have hs : RowS (hp w) v T sz n xs := h.sat _ (List.mem_cons_self ..)
  rcases hs.2 with ⟨rfl, rfl⟩ | ⟨gb, cap, cur, rfl, _⟩
  · simp [Chunk.row, blks, subSl, sliced]
  · by_cases h0 : cap = 0 <;> simp [Chunk.row, blks, subSl, sliced, h0, Addr.add]
theorem perm_at {α : Type} : ∀ {C : List α} {i : Nat} {a : α}, C[i]? = some a → (a :: C.eraseIdx i).Perm C
  | [], _, _, h => by simp at h
  | x :: C, 0, a, h => by
    obtain rfl : x = a := by simpa using h
    exact List.Perm.refl _
  | x :: C, i + 1, a, h => (List.Perm.swap x a _).trans ((perm_at (C := C) (i := i) (by simpa using h)).cons x)
theorem StP.frontAt {a : Chunk} {w : World} (h : StP B Φ C w) (i : Nat) (hi : C[i]? = some a) : StP B Φ (a :: C.eraseIdx i) w := h.perm (perm_at hi)
theorem StP.backAt {a a' : Chunk} {C C' : List Chunk} {w : World} (i : Nat) (hi : C[i]? = some a) (hC : C.set i a' = C') (h : StP B Φ (a' :: C.eraseIdx i) w) : StP B Φ C' w := by
  subst hC
  have hl := (List.getElem?_eq_some_iff.1 hi).1
  have h1 := perm_at (C := C.set i a') (i := i) (a := a') (List.getElem?_set_self hl)
  rw [List.eraseIdx_set_eq] at h1
  exact h.perm h1.symm
end Go.K
