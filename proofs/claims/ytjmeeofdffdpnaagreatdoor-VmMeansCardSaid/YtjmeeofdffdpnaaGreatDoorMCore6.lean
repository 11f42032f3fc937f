/- Lemmas. Conditions: those of each theorem. -/
import Derived.Test.YtjmeeofdffdpnaaGreatDoorMCore5
namespace Go.K
open Go Go.RowKit
variable {P : Program} {f : Nat → Value} {s : List (Nat × Value)} {B : Bs} {Φ : Hp} {C : List Chunk}
theorem AW.frz {N : Nat} {D : List Deferred} {Q : Exit → Act → World → Prop} {w0 : World} {Φ0 Φ : Hp} {c : Chunk} {code : Code} (h : ∀ Φ', Hp.le Φ Φ' → c.sat Φ' → AW P N D code Q f s (St ⟨w0, Φ0, []⟩ Φ' C)) : AW P N D code Q f s (St ⟨w0, Φ0, []⟩ Φ (c :: C)) := fun a w ha hw => by
  obtain ⟨Φ', h1, h2, h3⟩ := StP.freeze hw (fun b hb => ((hw.away b (by simp [hb])).2).resolve_right (by simp))
  exact h Φ' h1 h2 a w ha h3
theorem e_quiet {Pn : List PanicEntry → World → Prop} {J : Cls} {o : Oper} {v : Value} (hq : Qt P J f s o v) : ∀ w, J.p w → effX P Pn (fun u w' => ∃ _ : Unit, u = v ∧ J.p w') ((execOp (ev (fr f s)) o).run P w) :=
  fun w hw => effX_mono (fun _ _ ⟨e, hb⟩ => ⟨(), e, J.ext _ _ hw hb⟩) (effX_of_quietX (hq w hw))
section
variable {α : Type} [Inhabited α] [RepE α]
end
theorem q_nilCheck {J : Cls} {dst : Option Nat} {ty : TypeId} {pos : String} {af : Array Edge} {g : Option (Nat × Bool)} {x : Operand} {p : Addr} (hx : ev (fr f s) x = .pointer (some p)) : Qt P J f s ⟨dst, .nilCheck x, ty, pos, af, g⟩ (.pointer (some p)) := qt_val fun w _ => by
  simp [execOp, hx]
theorem row_take {v : Value} {T sz n k : Nat} {xs : List Value} (h : RowS Φ v T sz n xs) (hk : k ≤ n) : RowS Φ (subSl v 0 k sz) T sz k (xs.take (k * sz)) := by
  obtain ⟨hl, h⟩ := h
  have hks : k * sz ≤ n * sz := Nat.mul_le_mul_right _ hk
  rcases h with ⟨rfl, rfl⟩ | ⟨gb, cap, cur, rfl, h2, h3, h4, h5, h6⟩
  · obtain rfl : k = 0 := by omega
    exact ⟨by simp, .inl ⟨by simp [subSl, sliced], rfl⟩⟩
  · refine ⟨by rw [List.length_take]; omega, .inr ⟨gb, cap, cur, ?_, h2, by omega, h4, h5, ?_⟩⟩
    · simp only [subSl, sliced, Nat.sub_zero, Nat.zero_mul]
      split
      · rfl
      · simp [Addr.add]
    · rw [← h6, List.take_take, Nat.min_eq_left hks]
theorem StP.reval {c c' : Chunk} {w : World} (h : StP B Φ (c :: C) w) (hfp : c'.fp = c.fp) (hs : ∀ Ψ, c.sat Ψ → c'.sat Ψ) : StP B Φ (c' :: C) w :=
  { h with
    sat := fun d hd => by
      rcases List.mem_cons.1 hd with h1 | h1
      · subst h1; exact hs _ (h.sat c (by simp))
      · exact h.sat d (by simp [h1])
    sep := by
      obtain ⟨h1, h2⟩ := List.pairwise_cons.1 h.sep
      exact List.pairwise_cons.2 ⟨fun d hd b hb => h1 d hd b (by rw [← hfp]; exact hb), h2⟩
    away := fun b hb => h.away b (by simpa [hfp] using hb) }
theorem StP.rowTake {w : World} {v : Value} {T sz n k : Nat} {xs : List Value} (h : StP B Φ (.row v T sz n xs :: C) w) (hk : k ≤ n) : StP B Φ (.row (subSl v 0 k sz) T sz k (xs.take (k * sz)) :: C) w := by
  refine h.reval ?_ (fun Ψ hs => row_take hs hk)
  have hs : RowS (hp w) v T sz n xs := h.sat _ (List.mem_cons_self ..)
  rcases hs.2 with ⟨rfl, rfl⟩ | ⟨gb, cap, cur, rfl, _⟩
  · simp [Chunk.row, blks, subSl, sliced]
  · by_cases h0 : cap = 0 <;> simp [Chunk.row, blks, subSl, sliced, h0, Addr.add]
theorem perm_at {α : Type} : ∀ {C : List α} {i : Nat} {a : α}, C[i]? = some a → (a :: C.eraseIdx i).Perm C
  | [], _, _, h => by simp at h
  | x :: C, 0, a, h => by
    obtain rfl : x = a := by simpa using h
    exact List.Perm.refl _
  | x :: C, i + 1, a, h => (List.Perm.swap x a _).trans ((perm_at (C := C) (i := i) (by simpa using h)).cons x)
theorem StP.frontAt {a : Chunk} {w : World} (h : StP B Φ C w) (i : Nat) (hi : C[i]? = some a) : StP B Φ (a :: C.eraseIdx i) w := h.perm (perm_at hi)
theorem StP.backAt {a a' : Chunk} {C C' : List Chunk} {w : World} (i : Nat) (hi : C[i]? = some a) (hC : C.set i a' = C') (h : StP B Φ (a' :: C.eraseIdx i) w) : StP B Φ C' w := by
  subst hC
  have hl := (List.getElem?_eq_some_iff.1 hi).1
  have h1 := perm_at (C := C.set i a') (i := i) (a := a') (List.getElem?_set_self hl)
  rw [List.eraseIdx_set_eq] at h1
  exact h.perm h1.symm
theorem Cells.blkP {b off : Nat} {T : TypeId} {cs cs' : List Value} (i : Nat) (hi : C[i]? = some (.blk b T cs)) (hj : ∀ j u, cs'[j]? = some u → cs[off + j]? = some u) : Cells (St B Φ C) ⟨b, off, none⟩ cs' := fun j u hu => by
  have e : (⟨b, off, none⟩ : Addr).add j = ⟨b, off + j, none⟩ := by simp only [Addr.add]; split <;> simp_all
  rw [e]; exact Cell.blk i hi (hj j u hu)
end Go.K
