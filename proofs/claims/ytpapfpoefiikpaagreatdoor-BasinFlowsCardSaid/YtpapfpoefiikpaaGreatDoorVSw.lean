/- Lemmas. Conditions: those of each theorem. -/
import Derived.Test.YtpapfpoefiikpaaGreatDoorVAuto
namespace Go.K
open Go
def orOp (kd : IntKind) (t x : Nat) : List Oper → Option (Int × Nat)
  | [⟨some k, .binOp .eql _ (.tmp x') (.const (.int kc c)) _, _, _, _, none⟩, ⟨some t', .assign (.tmp k'), _, _, _, none⟩] => bif (Nat.beq x' x && Nat.beq t' t && Nat.beq k' k) && decide (kc = kd) then some (c, k) else none
  | _ => none
def orCh (kd : IntKind) (t x : Nat) : Code → Option (List (Int × Nat))
  | .cond (.tmp t') .skip (.region _ ops false) => bif Nat.beq t' t then (orOp kd t x ops.toList).map fun a => [a] else none
  | .cond (.tmp t') .skip (.seq (.region _ ops false) r) => bif Nat.beq t' t then (match orOp kd t x ops.toList, orCh kd t x r with | some a, some l => some (a :: l) | _, _ => none) else none
  | _ => none
variable {P : Program} {N : Nat} {D : List Deferred} {Q : Exit → Act → World → Prop} {f : Nat → Value} {s : List (Nat × Value)} {J : Cls}
theorem fr_same {t : Nat} {v : Value} (h : fr f s t = v) : fr f ((t, v) :: s) = fr f s := by
  funext u
  simp only [fr]
  cases hb : Nat.beq u t with
  | true => have := nB hb; subst this; exact h.symm
  | false => rfl
theorem fr_out {f : Nat → Value} {k : Nat} {v : Value} : ∀ {s : List (Nat × Value)}, look s k = none → fr f ((k, v) :: s) = fr (fun u => bif Nat.beq u k then v else f u) s
  | [], _ => rfl
  | (d, w) :: s, h => by
    unfold look at h
    cases hb : Nat.beq k d with
    | true => rw [hb] at h; cases h
    | false =>
      rw [hb] at h
      have ih := fr_out (f := f) (v := v) (s := s) (by simpa using h)
      have hne : k ≠ d := fun e => by subst e; simp at hb
      rw [fr_swap hb]
      funext u
      have ihu := congrFun ih u
      simp only [fr] at ihu ⊢
      rw [ihu]
theorem AW.orOne {t x k : Nat} {a c : Int} {l : List Oper} {id : Nat} {kd : IntKind} (hN : Nat.blt t N = true) (ho : orOp kd t x l = some (c, k)) (hx : look s x = some (.int kd a)) (hkN : Nat.blt k N = true) (hk : look s k = none)
    (h : ∀ f', Post N D Q .normal f' ((t, .bool (decide (a = c))) :: s) J) : AW P N D (.region id l.toArray false) Q f s J := by
  unfold orOp at ho
  split at ho
  · rename_i k0 _ x' kc c0 _ _ _ _ t' k' _ _ _
    cases hb : ((Nat.beq x' x && Nat.beq t' t && Nat.beq k' k0) && decide (kc = kd)) with
    | false => rw [hb] at ho; cases ho
    | true =>
      rw [hb] at ho
      simp only [cond_true, Option.some.injEq, Prod.mk.injEq] at ho
      obtain ⟨rfl, rfl⟩ := ho
      simp only [Bool.and_eq_true, Nat.beq_eq, decide_eq_true_eq] at hb
      obtain ⟨⟨⟨rfl, rfl⟩, rfl⟩, rfl⟩ := hb
      refine AW.region ?_
      refine RW.q (v := .bool (decide (a = c0))) hkN (q_eql (look_fr hx) rfl) ?_
      refine RW.q (v := .bool (decide (a = c0))) hN (q_assign (by show fr f ((k', _) :: s) k' = _; simp [fr])) ?_
      refine RW.nil ?_
      have he : fr f ((t', .bool (decide (a = c0))) :: (k', .bool (decide (a = c0))) :: s) = fr (fun u => bif Nat.beq u k' then .bool (decide (a = c0)) else f u) ((t', .bool (decide (a = c0))) :: s) := by
        funext u
        have := congrFun (fr_out (f := f) (v := .bool (decide (a = c0))) hk) u
        simp only [fr] at this ⊢
        rw [this]
      intro ac w ha hw
      exact h _ ac w (by rw [← he]; exact ha) hw
  · cases ho
theorem fr_twice {t : Nat} {v u : Value} : fr f ((t, v) :: (t, u) :: s) = fr f ((t, v) :: s) := by
  funext q
  simp only [fr]
  cases Nat.beq q t <;> rfl
theorem look_ne {k t : Nat} {v : Value} (h : Nat.beq k t = false) : look ((t, v) :: s) k = look s k := by
  simp [look, h]
theorem Post.fr {e : Exit} {f' : Nat → Value} {s' : List (Nat × Value)} (he : K.fr f s = K.fr f' s') (h : Post N D Q e f' s' J) : Post N D Q e f s J := fun a w ha hw => h a w (he ▸ ha) hw
theorem AW.orCh {kd : IntKind} {t x : Nat} {a : Int} (hN : Nat.blt t N = true) (hxt : Nat.beq x t = false) : ∀ (c : Code) {cs : List (Int × Nat)} {Q : Exit → Act → World → Prop} {f : Nat → Value} {s : List (Nat × Value)} {b : Bool}, K.orCh kd t x c = some cs → look s x = some (.int kd a) → K.fr f s t = .bool b →
    (cs.all fun p => Nat.blt p.2 N && (look s p.2).isNone && !(Nat.beq p.2 t)) = true →
    (∀ f', Post N D Q .normal f' ((t, .bool (b || cs.any fun p => decide (a = p.1))) :: s) J) → AW P N D c Q f s J
  | .cond (.tmp t') .skip (.region id ⟨ops⟩ false), cs, Q, f, s, b, hc, hx, hb, hk, h => by
    simp only [K.orCh] at hc
    cases ht : Nat.beq t' t with
    | false => rw [ht] at hc; cases hc
    | true =>
      rw [ht] at hc
      obtain rfl := nB ht
      simp only [cond_true, mI] at hc
      obtain ⟨⟨c0, k⟩, h1, rfl⟩ := hc
      simp only [List.all_cons, List.all_nil, Bool.and_true, Bool.and_eq_true, Bool.not_eq_true', Option.isNone_iff_eq_none] at hk
      obtain ⟨⟨k1, k2⟩, _⟩ := hk
      refine AW.cond (b := b) hb (fun hb' => AW.skip ?_) (fun hb' => ?_)
      · subst hb'
        have := h f
        simp only [Bool.true_or] at this
        exact Post.fr (fr_same hb).symm this
      · subst hb'
        refine AW.orOne hN h1 hx k1 k2 fun f' => ?_
        have := h f'
        simpa using this
  | .cond (.tmp t') .skip (.seq (.region id ⟨ops⟩ false) r), cs, Q, f, s, b, hc, hx, hb, hk, h => by
    simp only [K.orCh] at hc
    cases ht : Nat.beq t' t with
    | false => rw [ht] at hc; cases hc
    | true =>
      rw [ht] at hc
      obtain rfl := nB ht
      simp only [cond_true] at hc
      cases ho : orOp kd t' x ops with
      | none => rw [ho] at hc; cases hc
      | some p0 =>
        cases hr : K.orCh kd t' x r with
        | none => rw [ho, hr] at hc; cases hc
        | some l =>
          rw [ho, hr] at hc
          obtain rfl : p0 :: l = cs := by simpa using hc
          obtain ⟨c0, k⟩ := p0
          simp only [List.all_cons, Bool.and_eq_true, Bool.not_eq_true', Option.isNone_iff_eq_none] at hk
          obtain ⟨⟨⟨k1, k2⟩, _⟩, kl⟩ := hk
          refine AW.cond (b := b) hb (fun hb' => AW.skip ?_) (fun hb' => AW.seq ?_)
          · subst hb'
            have := h f
            simp only [Bool.true_or] at this
            exact Post.fr (fr_same hb).symm this
          · subst hb'
            refine AW.orOne hN ho hx k1 k2 fun f' => Post.then_n ?_
            refine AW.orCh hN hxt r (b := decide (a = c0)) hr (by rw [look_ne hxt]; exact hx) (by simp [K.fr]) ?_ fun f2 => ?_
            · rw [List.all_eq_true] at kl ⊢
              intro q hq
              have := kl q hq
              simp only [Bool.and_eq_true, Bool.not_eq_true', Option.isNone_iff_eq_none] at this ⊢
              exact ⟨⟨this.1.1, by rw [look_ne this.2]; exact this.1.2⟩, this.2⟩
            · have := h f2
              simp only [List.any_cons, Bool.false_or] at this
              exact Post.fr fr_twice this
end Go.K
