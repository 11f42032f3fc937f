/- Lemmas. Conditions: those of each theorem. -/
import Derived.Test.YtblfeidlnhdekaaGreatSDrw
namespace Go.K
open Go Go.RowKit
variable {P : Program} {Pn : List PanicEntry → World → Prop} {N : Nat} {D : List Deferred} {ops : Array Oper} {md : Region.Mode} {Q : Exit → Act → World → Prop} {f : Nat → Value} {s : List (Nat × Value)} {J J0 : Cls}
def waitsD (md : Region.Mode) (ops : Array Oper) : Nat → Oper → Nat → Bool
  | 0, o, i => waitsOn md o i
  | d + 1, o, i => waitsOn md o i || o.after.any fun e => Region.binds md e && (match ops[e.on]? with | some o2 => waitsD md ops d o2 i | none => false)
theorem waitsD_listed {listed : Array Bool} (hcl : Closed md ops listed) {i : Nat} : ∀ (d : Nat) (o : Oper), (∀ e ∈ o.after, Region.binds md e = true → listed.getD e.on false = true) → waitsD md ops d o i = true → listed.getD i false = true
  | 0, o, ho, hw => by
    unfold waitsD waitsOn at hw
    obtain ⟨e, he, hb⟩ := Array.any_eq_true'.1 hw
    simp only [Bool.and_eq_true, beq_iff_eq] at hb
    have h3 := ho e he hb.1
    rw [hb.2] at h3; exact h3
  | d + 1, o, ho, hw => by
    unfold waitsD at hw
    rcases Bool.or_eq_true_iff.1 hw with h1 | h1
    · unfold waitsOn at h1
      obtain ⟨e, he, hb⟩ := Array.any_eq_true'.1 h1
      simp only [Bool.and_eq_true, beq_iff_eq] at hb
      have h3 := ho e he hb.1
      rw [hb.2] at h3; exact h3
    · obtain ⟨e, he, hb⟩ := Array.any_eq_true'.1 h1
      simp only [Bool.and_eq_true] at hb
      have h3 := ho e he hb.1
      cases h5 : ops[e.on]? with
      | none => rw [h5] at hb; exact absurd hb.2 (by simp)
      | some o2 =>
        rw [h5] at hb
        exact waitsD_listed hcl d o2 (hcl _ o2 h5 h3) hb.2
end Go.K
