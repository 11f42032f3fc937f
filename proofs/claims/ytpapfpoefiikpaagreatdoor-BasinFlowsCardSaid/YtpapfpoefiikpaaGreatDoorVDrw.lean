/- Lemmas. Conditions: those of each theorem. -/
import Derived.Test.YtpapfpoefiikpaaGreatDoorVAuto
namespace Go.K
open Go Go.RowKit
variable {P : Program} {Pn : List PanicEntry → World → Prop} {N : Nat} {D : List Deferred} {ops : Array Oper} {md : Region.Mode} {Q : Exit → Act → World → Prop} {f : Nat → Value} {s : List (Nat × Value)} {J J0 : Cls}
def waitsOn (md : Region.Mode) (o : Oper) (i : Nat) : Bool := o.after.any fun e => Region.binds md e && e.on == i
def Closed (md : Region.Mode) (ops : Array Oper) (listed : Array Bool) : Prop := ∀ k o, ops[k]? = some o → listed.getD k false = true → ∀ e ∈ o.after, Region.binds md e = true → listed.getD e.on false = true
theorem getD_up {l : Array Bool} {k j : Nat} (h : l.getD j false = true) : (l.setIfInBounds k true).getD j false = true := by
  by_cases hkj : k = j
  · subst hkj
    rcases Nat.lt_or_ge k l.size with h' | h'
    · simp [h']
    · simp [Array.getElem?_eq_none h'] at h
  · rw [getD_set_ne false hkj]; exact h
theorem Closed.set {listed : Array Bool} {k : Nat} (h : Closed md ops listed) (hk : k ∈ Region.ready md ops listed) : Closed md ops (listed.setIfInBounds k true) := fun j o hj hl e he hb => by
  obtain ⟨_, ok, hok, hall⟩ := mem_ready.1 hk
  by_cases hkj : k = j
  · subst hkj
    obtain rfl : ok = o := sJ (hok.symm.trans hj)
    exact getD_up (hall e he hb)
  · rw [getD_set_ne false hkj] at hl
    exact getD_up (h j o hj hl e he hb)
theorem Closed.init (n : Nat) : Closed md ops (Array.replicate n false) := fun k o _ hl => by
  rcases Nat.lt_or_ge k n with h' | h'
  · simp [h'] at hl
  · simp [Nat.not_lt.2 h'] at hl
theorem not_listed {i : Nat} {listed : Array Bool} (h : listed.getD i true = false) (k : listed.getD i false = true) : False := by
  rcases Nat.lt_or_ge i listed.size with h' | h'
  · simp [h'] at h k; rw [h] at k; cases k
  · simp [Array.getElem?_eq_none h'] at k
end Go.K
