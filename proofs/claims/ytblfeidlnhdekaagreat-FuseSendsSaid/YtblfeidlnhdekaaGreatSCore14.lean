/- Lemmas. Conditions: those of each theorem. -/
import Derived.Test.YtblfeidlnhdekaaGreatSCore13
namespace Go.K
open Go Go.RowKit
theorem filter_le' {α : Type} {p q : α → Bool} : ∀ {l : List α}, (∀ x ∈ l, q x = true → p x = true) → (l.filter q).length ≤ (l.filter p).length
  | [], _ => Nat.le_refl _
  | x :: l, h => by
    have ih := filter_le' (p := p) (q := q) (l := l) fun y hy => h y (List.mem_cons_of_mem _ hy)
    cases hq : q x with
    | true => rw [List.filter_cons_of_pos hq, List.filter_cons_of_pos (h x (by simp) hq)]; simpa using ih
    | false =>
      rw [List.filter_cons_of_neg (by rw [hq]; simp)]
      cases hp : p x with
      | true => rw [List.filter_cons_of_pos hp]; simp only [List.length_cons]; omega
      | false => rw [List.filter_cons_of_neg (by rw [hp]; simp)]; exact ih
theorem filter_lt' {α : Type} {p q : α → Bool} {a : α} : ∀ {l : List α}, (∀ x ∈ l, q x = true → p x = true) → a ∈ l → p a = true → q a = false → (l.filter q).length < (l.filter p).length
  | [], _, ha, _, _ => by cases ha
  | x :: l, h, ha, hp, hq => by
    have h' : ∀ y ∈ l, q y = true → p y = true := fun y hy => h y (List.mem_cons_of_mem _ hy)
    rcases List.mem_cons.1 ha with e | hal
    · subst e
      rw [List.filter_cons_of_neg (by rw [hq]; simp), List.filter_cons_of_pos hp]
      have := filter_le' h'
      simp only [List.length_cons]; omega
    · have ih := filter_lt' h' hal hp hq
      cases hqx : q x with
      | true => rw [List.filter_cons_of_pos hqx, List.filter_cons_of_pos (h x (by simp) hqx)]; simpa using ih
      | false =>
        rw [List.filter_cons_of_neg (by rw [hqx]; simp)]
        cases hpx : p x with
        | true => rw [List.filter_cons_of_pos hpx]; simp only [List.length_cons]; omega
        | false => rw [List.filter_cons_of_neg (by rw [hpx]; simp)]; exact ih
theorem dep_at {as : Array Edge} {C : Nat → Prop} (hd : ∀ e ∈ as, Region.binds .any e = true → C e.on) (j : Nat) (h : (as.any fun e => Region.binds .any e && Nat.beq e.on j) = true) : C j := by
  obtain ⟨e, he, hb⟩ := Array.any_eq_true'.1 h
  simp only [Bool.and_eq_true] at hb
  have := nB hb.2
  rw [← this]
  exact hd e he hb.1
section
variable {P : Program} {N : Nat} {D : List Deferred} {Q : Exit → Act → World → Prop} {f : Nat → Value} {s : List (Nat × Value)} {J : Cls}
theorem allIn_put {S : Nat → Value} {d : Nat} {v : Value} : ∀ {base : List (Nat × Value)}, AllIn S base → (∀ t ∈ base.map Prod.fst, t ≠ d) → AllIn (fr S [(d, v)]) base
  | [], _, _ => trivial
  | (t, u) :: base, h, hd => by
    refine ⟨?_, allIn_put h.2 fun t' ht' => hd t' (by simp at ht' ⊢; exact .inr ht')⟩
    have hne : t ≠ d := hd t (by simp)
    have hb : Nat.beq t d = false := by
      cases hh : Nat.beq t d with
      | false => rfl
      | true => exact absurd (nB hh) hne
    simp only [fr, hb, cond_false]
    exact h.1
end
end Go.K
namespace Go.K
open Go Go.RowKit
section
variable {P : Program} {f : Nat → Value} {s : List (Nat × Value)} {J : Cls} {w : World}
theorem fq {o : Oper} {v : Value} (h : Qt P J f s o v) (hw : J.p w) : effX P NoPn (fun u w' => Bel w.heap.size w w' ∧ u = v) ((execOp (ev (fr f s)) o).run P w) := effX_mono (fun _ _ ⟨a, b⟩ => ⟨b, a⟩) (effX_of_quietX (h w hw))
end
end Go.K
