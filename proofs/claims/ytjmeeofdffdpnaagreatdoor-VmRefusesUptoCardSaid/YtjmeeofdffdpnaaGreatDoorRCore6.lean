/- Lemmas. Conditions: those of each theorem. -/
import Derived.Test.YtjmeeofdffdpnaaGreatDoorRCore5
namespace Go.K
open Go Go.RowKit
variable {P : Program} {f : Nat → Value} {s : List (Nat × Value)} {af : Array Edge} {pos : String} {ty : TypeId} {g : Option (Nat × Bool)} {dst : Option Nat} {B : Bs} {Φ : Hp} {C : List Chunk}
theorem AW.frz {N : Nat} {D : List Deferred} {Q : Exit → Act → World → Prop} {w0 : World} {Φ0 Φ : Hp} {c : Chunk} {code : Code} (h : ∀ Φ', Hp.le Φ Φ' → c.sat Φ' → AW P N D code Q f s (St ⟨w0, Φ0, []⟩ Φ' C)) : AW P N D code Q f s (St ⟨w0, Φ0, []⟩ Φ (c :: C)) := fun a w ha hw => by
  obtain ⟨Φ', h1, h2, h3⟩ := StP.freeze hw (fun b hb => ((hw.away b (by simp [hb])).2).resolve_right (by simp))
  exact h Φ' h1 h2 a w ha h3
theorem e_buildSlice0 {Pn : List PanicEntry → World → Prop} {t e : TypeId} {z : Value} {sz bytes : Nat} (hT : P.underlying t = some (.slice e)) (hi : (P.info? e).map (fun i => (i.zero, i.size, i.bytes)) = some (some z, sz, bytes)) :
    ∀ w, (St B Φ C).p w → effX P Pn (fun v w' => ∃ b : Nat, v = .slice (some ⟨b, 0, none⟩) 0 0 ∧ (St B Φ (.row (.slice (some ⟨b, 0, none⟩) 0 0) e sz 0 [] :: C)).p w') ((execOp (ev (fr f s)) ⟨dst, .buildSlice t 0 #[], ty, pos, af, g⟩).run P w) := fun w hw => by
  obtain ⟨ti, hti, hz, hs, hby⟩ := info_parts hi
  refine effX_val (v := .slice (some ⟨w.heap.size, 0, none⟩) 0 0) (w' := w.alloc (.cells #[] e)) ?_ ⟨w.heap.size, rfl, hw.alloc e _ (.row (.slice (some ⟨w.heap.size, 0, none⟩) 0 0) e sz 0 []) (by simp [Chunk.row, blks]) ?_⟩
  · simp [execOp, Instr.buildSlice, run_underlying hT, sizeOf, typeInfo, hti, Instr.fill, newRow]
    rw [show Array.range 0 = #[] by simp [Array.range]]; simp
  · exact ⟨by simp, .inr ⟨w.heap.size, 0, _, rfl, hp_alloc_new w _, Nat.le_refl _, by simp [maxLen], by simp, by simp⟩⟩
section
variable {α : Type} [Inhabited α] [RepE α]
end
theorem q_nilCheck {J : Cls} {x : Operand} {p : Addr} (hx : ev (fr f s) x = .pointer (some p)) : Qt P J f s ⟨dst, .nilCheck x, ty, pos, af, g⟩ (.pointer (some p)) := qt_val fun w _ => by
  simp [execOp, hx]
theorem perm_at {α : Type} : ∀ {C : List α} {i : Nat} {a : α}, C[i]? = some a → (a :: C.eraseIdx i).Perm C
  | [], _, _, h => by simp at h
  | x :: C, 0, a, h => by
    obtain rfl : x = a := by simpa using h
    exact List.Perm.refl _
  | x :: C, i + 1, a, h => (List.Perm.swap x a _).trans ((perm_at (C := C) (i := i) (by simpa using h)).cons x)
theorem StP.frontAt {a : Chunk} {w : World} (h : StP B Φ C w) (i : Nat) (hi : C[i]? = some a) : StP B Φ (a :: C.eraseIdx i) w := h.perm (perm_at hi)
theorem StP.backAt {a a' : Chunk} {C C' : List Chunk} {w : World} (i : Nat) (hi : C[i]? = some a) (hC : C.set i a' = C') (h : StP B Φ (a' :: C.eraseIdx i) w) : StP B Φ C' w := by
  subst hC
  have hl := (List.getElem?_eq_some_iff.1 hi).1
  have h1 := perm_at (C := C.set i a') (i := i) (a := a') (List.getElem?_set_self hl)
  rw [List.eraseIdx_set_eq] at h1
  exact h.perm h1.symm
theorem Cells.blkP {b off : Nat} {T : TypeId} {cs cs' : List Value} (i : Nat) (hi : C[i]? = some (.blk b T cs)) (hj : ∀ j u, cs'[j]? = some u → cs[off + j]? = some u) : Cells (St B Φ C) ⟨b, off, none⟩ cs' := fun j u hu => by
  have e : (⟨b, off, none⟩ : Addr).add j = ⟨b, off + j, none⟩ := by simp only [Addr.add]; split <;> simp_all
  rw [e]; exact Cell.blk i hi (hj j u hu)
end Go.K
