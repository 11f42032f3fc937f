/- Lemmas. Conditions: those of each theorem. -/
import Derived.Test.YtpapfpoefiikpaaGreatDoorVSw
namespace Go.K
open Go
def orOpS (t x : Nat) : List Oper → Option (List UInt8 × Nat)
  | [⟨some k, .binOp .eql _ (.tmp x') (.const (.string c)) _, _, _, _, none⟩, ⟨some t', .assign (.tmp k'), _, _, _, none⟩] => bif (Nat.beq x' x && Nat.beq t' t && Nat.beq k' k) then some (c.data.toList, k) else none
  | _ => none
def orChS (t x : Nat) : Code → Option (List (List UInt8 × Nat))
  | .cond (.tmp t') .skip (.region _ ops false) => bif Nat.beq t' t then (orOpS t x ops.toList).map fun a => [a] else none
  | .cond (.tmp t') .skip (.seq (.region _ ops false) r) => bif Nat.beq t' t then (match orOpS t x ops.toList, orChS t x r with | some a, some l => some (a :: l) | _, _ => none) else none
  | _ => none
variable {P : Program} {N : Nat} {D : List Deferred} {Q : Exit → Act → World → Prop} {f : Nat → Value} {s : List (Nat × Value)} {J : Cls}
theorem AW.orOneS {t x k : Nat} {a c : List UInt8} {l : List Oper} {id : Nat} (hN : Nat.blt t N = true) (ho : orOpS t x l = some (c, k)) (hx : look s x = some (.string (bs a))) (hkN : Nat.blt k N = true) (hk : look s k = none)
    (h : ∀ f', Post N D Q .normal f' ((t, .bool (decide (a = c))) :: s) J) : AW P N D (.region id l.toArray false) Q f s J := by
  unfold orOpS at ho
  split at ho
  · rename_i k0 _ x' c0 _ _ _ _ t' k' _ _ _
    cases hb : (Nat.beq x' x && Nat.beq t' t && Nat.beq k' k0) with
    | false => rw [hb] at ho; cases ho
    | true =>
      rw [hb] at ho
      simp only [cond_true, Option.some.injEq, Prod.mk.injEq] at ho
      obtain ⟨rfl, rfl⟩ := ho
      simp only [Bool.and_eq_true, Nat.beq_eq] at hb
      obtain ⟨⟨rfl, rfl⟩, rfl⟩ := hb
      refine AW.region ?_
      refine RW.q (v := .bool (decide (a = c0.data.toList))) hkN (q_eqlStr (look_fr hx) (by show Value.string c0 = _; rw [bs_data])) ?_
      refine RW.q (v := .bool (decide (a = c0.data.toList))) hN (q_assign (by show fr f ((k', _) :: s) k' = _; simp [fr])) ?_
      refine RW.nil ?_
      have he : fr f ((t', .bool (decide (a = c0.data.toList))) :: (k', .bool (decide (a = c0.data.toList))) :: s) = fr (fun u => bif Nat.beq u k' then .bool (decide (a = c0.data.toList)) else f u) ((t', .bool (decide (a = c0.data.toList))) :: s) := by
        funext u
        have := congrFun (fr_out (f := f) (v := .bool (decide (a = c0.data.toList))) hk) u
        simp only [fr] at this ⊢
        rw [this]
      intro ac w ha hw
      exact h _ ac w (by rw [← he]; exact ha) hw
  · cases ho
theorem AW.orChS {t x : Nat} {a : List UInt8} (hN : Nat.blt t N = true) (hxt : Nat.beq x t = false) : ∀ (c : Code) {cs : List (List UInt8 × Nat)} {Q : Exit → Act → World → Prop} {f : Nat → Value} {s : List (Nat × Value)} {b : Bool}, K.orChS t x c = some cs → look s x = some (.string (bs a)) → K.fr f s t = .bool b →
    (cs.all fun p => Nat.blt p.2 N && (look s p.2).isNone && !(Nat.beq p.2 t)) = true →
    (∀ f', Post N D Q .normal f' ((t, .bool (b || cs.any fun p => decide (a = p.1))) :: s) J) → AW P N D c Q f s J
  | .cond (.tmp t') .skip (.region id ⟨ops⟩ false), cs, Q, f, s, b, hc, hx, hb, hk, h => by
    simp only [K.orChS] at hc
    cases ht : Nat.beq t' t with
    | false => rw [ht] at hc; cases hc
    | true =>
      rw [ht] at hc
      obtain rfl := nB ht
      simp only [cond_true, mI] at hc
      obtain ⟨⟨c0, k⟩, h1, rfl⟩ := hc
      simp only [List.all_cons, List.all_nil, Bool.and_true, Bool.and_eq_true, Bool.not_eq_true', Option.isNone_iff_eq_none] at hk
      obtain ⟨⟨k1, k2⟩, _⟩ := hk
      refine AW.cond (b := b) hb (fun hb' => AW.skip ?_) (fun hb' => ?_)
      · subst hb'
        have := h f
        simp only [Bool.true_or] at this
        exact Post.fr (fr_same hb).symm this
      · subst hb'
        refine AW.orOneS hN h1 hx k1 k2 fun f' => ?_
        have := h f'
        simpa using this
  | .cond (.tmp t') .skip (.seq (.region id ⟨ops⟩ false) r), cs, Q, f, s, b, hc, hx, hb, hk, h => by
    simp only [K.orChS] at hc
    cases ht : Nat.beq t' t with
    | false => rw [ht] at hc; cases hc
    | true =>
      rw [ht] at hc
      obtain rfl := nB ht
      simp only [cond_true] at hc
      cases ho : orOpS t' x ops with
      | none => rw [ho] at hc; cases hc
      | some p0 =>
        cases hr : K.orChS t' x r with
        | none => rw [ho, hr] at hc; cases hc
        | some l =>
          rw [ho, hr] at hc
          obtain rfl : p0 :: l = cs := by simpa using hc
          obtain ⟨c0, k⟩ := p0
          simp only [List.all_cons, Bool.and_eq_true, Bool.not_eq_true', Option.isNone_iff_eq_none] at hk
          obtain ⟨⟨⟨k1, k2⟩, _⟩, kl⟩ := hk
          refine AW.cond (b := b) hb (fun hb' => AW.skip ?_) (fun hb' => AW.seq ?_)
          · subst hb'
            have := h f
            simp only [Bool.true_or] at this
            exact Post.fr (fr_same hb).symm this
          · subst hb'
            refine AW.orOneS hN ho hx k1 k2 fun f' => Post.then_n ?_
            refine AW.orChS hN hxt r (b := decide (a = c0)) hr (by rw [look_ne hxt]; exact hx) (by simp [K.fr]) ?_ fun f2 => ?_
            · rw [List.all_eq_true] at kl ⊢
              intro q hq
              have := kl q hq
              simp only [Bool.and_eq_true, Bool.not_eq_true', Option.isNone_iff_eq_none] at this ⊢
              exact ⟨⟨this.1.1, by rw [look_ne this.2]; exact this.1.2⟩, this.2⟩
            · have := h f2
              simp only [List.any_cons, Bool.false_or] at this
              exact Post.fr fr_twice this
end Go.K
