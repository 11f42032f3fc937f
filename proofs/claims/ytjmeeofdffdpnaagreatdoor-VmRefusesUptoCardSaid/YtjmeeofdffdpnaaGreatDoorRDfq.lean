/- Lemmas. Conditions: those of each theorem. -/
import Derived.Test.YtjmeeofdffdpnaaGreatDoorRParK
namespace Go.K
open Go Go.RowKit
variable {P : Program} {N : Nat} {D : List Deferred} {f : Nat → Value} {s : List (Nat × Value)} {J J2 : Cls}
theorem wp_mono2 {c : Code} {Q R : Exit → Act → World → Prop} {a : Act} {w : World} (h : c.wp P Q a w) (hm : ∀ e a w, Q e a w → R e a w) : c.wp P R a w := fun b k cs => by
  obtain ⟨e, a', w', q, r⟩ := h b k cs
  exact ⟨e, a', w', hm _ _ _ q, r⟩
theorem wpS_rec2 {r0 c1 rest : Code} {Q : Exit → Act → List Frame → World → Prop} {a : Act} {cs : List Frame} {w : World}
    (h : r0.wpS P (Exit.thenS (fun a cs w => c1.wp P (Exit.then (fun a w => rest.wp P (fun e a' w' => Q e a' cs w') a w) (fun e a' w' => Q e a' cs w')) a w) Q) a cs w) : ((r0.seq c1).seq rest).wpS P Q a cs w := by
  refine wpS_seq (wpS_seq fun b k hb hr => ?_)
  obtain ⟨e, a', cs', w', q, r⟩ := h b k hb hr
  refine ⟨e, a', cs', w', ?_, r⟩
  cases e with
  | normal =>
    refine wpS_of_wp (wp_mono2 q fun e a w hq => ?_)
    cases e with
    | normal => exact wpS_of_wp hq
    | _ => exact hq
  | _ => exact q
end Go.K
