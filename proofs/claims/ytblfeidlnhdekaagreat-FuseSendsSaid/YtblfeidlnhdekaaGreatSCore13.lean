/- Lemmas. Conditions: those of each theorem. -/
import Derived.Test.YtblfeidlnhdekaaGreatSCore10
namespace Go.K
open Go Go.RowKit
section
variable {α : Type} [Inhabited α] [RepE α]
end
end Go.K
namespace Go.K
open Go Go.RowKit
section
variable {P : Program} {B : Bs} {Φ : Hp} {C : List Chunk} {f : Nat → Value} {s : List (Nat × Value)} {kt : TypeId} {κ β : Type} {L : KL P kt κ} {ew : β → Value}
theorem fr_head {d : Nat} {v : Value} : fr f ((d, v) :: s) d = v := by
  simp only [fr, Nat.beq_refl, cond_true]
theorem AW.nextR {N : Nat} {D : List Deferred} {Q : Exit → Act → World → Prop} {id d d' : Nat} {x : Operand} {ty ty' : TypeId} {pos pos' : String} {af af' : Array Edge} {b r clock : Nat} {es : Array MapEntry} {seen : Array Nat} {M : κ → Option β} (i j : Nat) (hi : C[i]? = some (.obj r (.mapIter (some b) clock seen clock))) (hj : C[j]? = some (.obj b (.map es clock))) (hx : ev (fr f s) x = .pointer (some ⟨r, 0, none⟩)) (hm : KM L ew es clock M)
    (hd : Nat.blt d N = true) (hd' : Nat.blt d' N = true) {C' : Nat → List Chunk} (hC : ∀ bn, C.set i (.obj r (.mapIter (some b) clock (seen.push bn) clock)) = C' bn)
    (h0 : (∀ e ∈ es.toList, seen.contains e.born = true) → Post N D Q .normal f ((d', .bool false) :: (d, .tuple #[.bool false]) :: s) (St B Φ C))
    (h1 : ∀ (e : MapEntry) (k : κ) (v : β), e ∈ es.toList → seen.contains e.born = false → L.good k → e.key = L.enc k → M k = some v → e.val = ew v → Post N D Q .normal f ((d', .bool true) :: (d, .tuple #[.bool true, L.enc k, ew v]) :: s) (St B Φ (C' e.born))) :
    AW P N D (.region id #[⟨some d, .next x false, ty, pos, af, none⟩, ⟨some d', .extract (.tmp d) 0, ty', pos', af', none⟩] false) Q f s (St B Φ C) := by
  refine AW.region ?_
  refine RW.eff (X := {q : Option {e : MapEntry // e ∈ es.toList ∧ seen.contains e.born = false} // q = none → ∀ e ∈ es.toList, seen.contains e.born = true}) (fun q => match q.1 with | none => .tuple #[.bool false] | some e => .tuple #[.bool true, e.1.key, e.1.val]) (fun q => St B Φ (match q.1 with | none => C | some e => C.set i (.obj r (.mapIter (some b) clock (seen.push e.1.born) clock)))) hd (fun w hw => ?_) ?_
  · exact effX_mono (fun u w' ⟨q, h1, h2, h3⟩ => ⟨⟨q, h2⟩, h1, h3⟩) (e_knext i j hi hj hx hm (Nat.le_refl _) (Nat.le_refl _) w hw)
  · rintro ⟨_ | ⟨e, he⟩, hq⟩
    · refine RW.q (v := .bool false) hd' (q_extract (vs := #[.bool false]) fr_head rfl) ?_
      exact RW.nil (h0 (hq rfl))
    · obtain ⟨k, v, g1, g2, g3, g4⟩ := hm.dec e he.1
      have hcl : (St B Φ (C.set i (.obj r (.mapIter (some b) clock (seen.push e.born) clock)))) = St B Φ (C' e.born) := by rw [hC]
      refine RW.q (v := .bool true) hd' (q_extract (vs := #[.bool true, e.key, e.val]) fr_head rfl) ?_
      have h := h1 e k v he.1 he.2 g1 g2 g3 g4
      rw [← g2, ← g4, ← hcl] at h
      exact RW.nil h
theorem q_kentry2 {dst : Option Nat} {ty : TypeId} {pos : String} {af : Array Edge} {g : Option (Nat × Bool)} {x : Operand} {b r clock : Nat} {es : Array MapEntry} {seen : Array Nat} {M : κ → Option β} {e : MapEntry} {k : κ} {v : β} (i j : Nat) (hi : C[i]? = some (.obj r (.mapIter (some b) clock (seen.push e.born) clock))) (hj : C[j]? = some (.obj b (.map es clock))) (hx : ev (fr f s) x = .pointer (some ⟨r, 0, none⟩))
    (hm : KM L ew es clock M) (he : e ∈ es.toList) (hk : e.key = L.enc k) (hv : e.val = ew v) : Qt P (St B Φ C) f s ⟨dst, .entry x, ty, pos, af, g⟩ (.tuple #[L.enc k, ew v]) := by
  have h := q_kentry (B := B) (Φ := Φ) (dst := dst) (ty := ty) (pos := pos) (af := af) (g := g) i j hi hj hx hm he
  rwa [hk, hv] at h
end
end Go.K
