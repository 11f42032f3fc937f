/- Lemmas. Conditions: those of each theorem. -/
import Derived.Test.YtblfeidlnhdekaaGreatSDrz
import Derived.Test.YtblfeidlnhdekaaGreatSOwnG
namespace Go.K
open Go Go.RowKit
variable {af : Array Edge} {pos : String} {ty : TypeId} {g : Option (Nat × Bool)} {dst : Option Nat}
theorem flatMap_upd {α : Type} {Ks : Nat → List α} {i : Nat} {K : List α} (h0 : Ks i = []) : ∀ {L : List Nat}, L.Nodup → i ∈ L → (K ++ L.flatMap Ks).Perm (L.flatMap fun j => if j = i then K else Ks j)
  | [], _, h => by cases h
  | a :: L, hn, h => by
    obtain ⟨h1, h2⟩ := List.nodup_cons.1 hn
    simp only [List.flatMap_cons]
    by_cases ha : a = i
    · subst ha
      rw [if_pos rfl, h0, List.nil_append]
      have e : (L.flatMap fun j => if j = a then K else Ks j) = L.flatMap Ks := by
        have : ∀ M : List Nat, a ∉ M → (M.flatMap fun j => if j = a then K else Ks j) = M.flatMap Ks := fun M => by
          induction M with
          | nil => intro _; rfl
          | cons b M ih =>
            intro hm
            simp only [List.mem_cons, not_or] at hm
            rw [List.flatMap_cons, List.flatMap_cons, ih hm.2, if_neg (Ne.symm hm.1)]
        exact this L h1
      rw [e]
    · rw [if_neg ha]
      have hi : i ∈ L := (List.mem_cons.1 h).resolve_left (Ne.symm ha)
      have ih := flatMap_upd (K := K) h0 h2 hi
      refine List.Perm.trans ?_ (List.Perm.append_left _ ih)
      rw [← List.append_assoc, ← List.append_assoc]
      exact List.Perm.append_right _ List.perm_append_comm
abbrev FactM := List Nat × (List Value → List Chunk → Prop)
def DepM (Fs : List FactM) (S : Nat → Value) (Ks : Nat → List Chunk) (j : Nat) : Prop :=
  match Fs[j]? with
  | some F => F.2 (F.1.map S) (Ks j)
  | _ => True
def AllK (n : Nat) (Ks : Nat → List Chunk) : List Chunk := (List.range n).flatMap Ks
section
variable {P : Program} {N : Nat} {D : List Deferred} {Q : Exit → Act → World → Prop} {f : Nat → Value} {s : List (Nat × Value)} {B : Bs} {Φ : Hp} {C : List Chunk}
theorem StP.madeM {K : List Chunk} {w W : World} (h : StP B Φ C w) (k : StP ⟨w, hp w, []⟩ (hp w) K W) : StP B Φ (K ++ C) W := StP.frameL (A := []) h { k.less h.phi with orig := fun _ _ e _ => e }
theorem dep_l {as : Array Edge} {G : Nat → Prop} (hd : ∀ e ∈ as, Region.binds .any e = true → G e.on) (j : Nat) (h : (as.toList.any fun e => Region.binds .any e && Nat.beq e.on j) = true) : G j := dep_at hd j (by rw [← Array.any_toList]; exact h)
theorem dq {S : Nat → Value} {d : Nat} {V : Value} {K : List Chunk} (h : [d].map S = [V] ∧ K = []) : S d = V := by simpa using h.1
theorem StP.now (w : World) : StP ⟨w, hp w, []⟩ (hp w) [] w := StP.init w (hp w) (Hp.le_refl _) []
abbrev FQ (d : Nat) (V : Value) : FactM := ([d], fun vs K => vs = [V] ∧ K = [])
abbrev FE {X : Type} (d : Nat) (Vz : X → Value) (Kz : X → List Chunk) : FactM := ([d], fun vs K => ∃ x, vs = [Vz x] ∧ K = Kz x)
theorem StP.base {L : List Chunk} {w : World} (h : StP B Φ (L ++ C) w) : StP B Φ C w := h.drop (List.sublist_append_right _ _)
theorem e_mkF {S : Nat → Value} {w : World} {ζ : Type} {V : ζ → Value} {K : ζ → List Chunk} {xs : List Operand} {ts : Array TypeId} {k : FuncId} {args : List Value} (hk : Own P k) (ha : xs.map (ev S) = args)
    (h : Calls P k args.toArray w fun e w' => ∃ z, e = .returned (V z) ∧ StP ⟨w, hp w, []⟩ (hp w) (K z) w') :
    effX P NoPn (fun v w' => ∃ z, v = V z ∧ (St ⟨w, hp w, []⟩ (hp w) (K z)).p w') ((execOp (ev S) ⟨dst, .call { callee := .value (.func k), args := xs.toArray, argTypes := ts }, ty, pos, af, g⟩).run P w) := by
  have hr := run_call (P := P) (f := S) (s := []) (dst := dst) (ty := ty) (pos := pos) (af := af) (g := g) (ts := ts) (w := w) (x := .func k) (xs := xs.toArray) (first := #[]) (capt := #[]) (args := args.toArray) hk rfl (by simpa using (show xs.map (ev (fr S [])) = args from ha))
  change (execOp (ev S) _).run P w = _ at hr
  rw [hr]
  exact h.mono fun e w' ⟨y, he, hy⟩ => .inl ⟨V y, he, y, rfl, hy⟩
theorem e_allocF {S : Nat → Value} {w : World} {t : TypeId} {cs : List Value} [hz : ZL P t cs] (hw : StP ⟨w, hp w, []⟩ (hp w) [] w) :
    effX P NoPn (fun v w' => ∃ b : Nat, v = .pointer (some ⟨b, 0, none⟩) ∧ (St ⟨w, hp w, []⟩ (hp w) [.blk b t cs]).p w') ((execOp (ev S) ⟨dst, .alloc t, ty, pos, af, g⟩).run P w) := by
  obtain ⟨z, h1, rfl⟩ := hz.h
  exact e_alloc (f := S) (s := []) h1 w hw
end
end Go.K
