/- Lemmas. Conditions: those of each theorem. -/
import Derived.Test.YtjmeeofdffdpnaaGreatDoorMDfr
namespace Go.K
open Go Go.RowKit
variable {P : Program} {Pn : List PanicEntry → World → Prop} {N : Nat} {D : List Deferred} {ops : Array Oper} {Q : Exit → Act → World → Prop} {f : Nat → Value} {s : List (Nat × Value)} {af : Array Edge} {pos : String} {ty : TypeId} {rest : List Oper}
variable {B : Bs} {Φ Ψ : Hp} {C : List Chunk} {W W' w : World}
theorem StP.sel {C' : List Chunk} (h : StP B Φ C w) (is : List Nat) (hn : is.Nodup) (hC : is.map (C[·]?) = C'.map some) : StP B Φ C' w := by
 have hmem : ∀ c ∈ C', c ∈ C := fun c hc => by
  have : some c ∈ is.map (C[·]?) := by rw [hC]; exact List.mem_map_of_mem hc
  obtain ⟨i, _, hi⟩ := List.mem_map.1 this
  exact List.mem_of_getElem? hi
 have hl : is.length = C'.length := by have := congrArg List.length hC; simpa using this
 have hat : ∀ i (hi : i < C'.length), C[is[i]'(hl ▸ hi)]? = some C'[i] := fun i hi => by
  have := congrArg (·[i]?) hC
  simpa [List.getElem?_map, hi, hl ▸ hi] using this
 exact { h with
  sat := fun c hc => h.sat c (hmem c hc)
  sep := by
   refine List.pairwise_iff_getElem.2 fun i j hi hj hij => ?_
   have h1 := hat i hi; have h2 := hat j hj
   obtain ⟨l1, e1⟩ := List.getElem?_eq_some_iff.1 h1
   obtain ⟨l2, e2⟩ := List.getElem?_eq_some_iff.1 h2
   rw [← e1, ← e2]
   have hne : is[i]'(hl ▸ hi) ≠ is[j]'(hl ▸ hj) := fun he => by
    have := (List.pairwise_iff_getElem.1 hn) i j (hl ▸ hi) (hl ▸ hj) hij
    exact this he
   have hp := List.pairwise_iff_getElem.1 h.sep
   rcases Nat.lt_or_gt_of_ne hne with h3 | h3
   ·
    exact hp _ _ l1 l2 h3
   ·
    exact Chunk.apart_symm (hp _ _ l2 l1 h3)
  away := fun b hb => by
   obtain ⟨c, hc, hbc⟩ := List.mem_flatMap.1 hb
   exact h.away b (List.mem_flatMap.2 ⟨c, hmem c hc, hbc⟩) }
theorem StP.recut {C1 C2 : List Chunk} (h : StP B Φ (C1 ++ C) w) (hsat : ∀ c ∈ C2, c.sat (hp w)) (hsep : C2.Pairwise Chunk.apart) (hfp : ∀ b, b ∈ C2.flatMap (·.fp) → b ∈ C1.flatMap (·.fp)) : StP B Φ (C2 ++ C) w where
 os := h.os
 tape := h.tape
 output := h.output
 size := h.size
 drawn := h.drawn
 old := h.old
 phi := h.phi
 orig := h.orig
 sat := fun c hc => (List.mem_append.1 hc).elim (hsat c) (fun h1 => h.sat c (List.mem_append_right _ h1))
 sep := by
  have h0 := List.pairwise_append.1 h.sep
  refine List.pairwise_append.2 ⟨hsep, h0.2.1, fun c hc d hd b hb => ?_⟩
  obtain ⟨e, he, hbe⟩ := List.mem_flatMap.1 (hfp b (List.mem_flatMap.2 ⟨c, hc, hb⟩))
  exact h0.2.2 e he d hd b hbe
 away := fun b hb => by
  rw [List.flatMap_append, List.mem_append] at hb
  exact h.away b (by rw [List.flatMap_append, List.mem_append]; exact hb.imp (hfp b) id)
abbrev fps (A : List Chunk) : List Nat := A.flatMap (·.fp)
theorem StP.hand {A : List Chunk} (h : StP B Φ (A ++ C) w) : StP ⟨w, Φ, fps A⟩ Φ A w where
 os := rfl
 tape := rfl
 output := rfl
 size := Nat.le_refl _
 drawn := Nat.le_refl _
 old := fun _ _ _ => rfl
 phi := h.phi
 orig := fun _ _ h _ => h
 sat := fun c hc => h.sat c (List.mem_append_left _ hc)
 sep := (List.pairwise_append.1 h.sep).1
 away := fun b hb => ⟨(h.away b (by rw [List.flatMap_append]; exact List.mem_append_left _ hb)).1, .inr hb⟩
theorem StP.frameL {A C1 : List Chunk} (h : StP B Φ (A ++ C) W) (k : StP ⟨W, Φ, fps A⟩ Ψ C1 W') : StP B Ψ (C1 ++ C) W' := by
 have hsep := List.pairwise_append.1 h.sep
 have hno : ∀ c2 ∈ C, ∀ b ∈ c2.fp, b ∉ fps A := fun c2 h2 b hb hc => by
  obtain ⟨c, hcA, hbc⟩ := List.mem_flatMap.1 hc
  exact hsep.2.2 c hcA c2 h2 b hbc hb
 have hlt : ∀ c2 ∈ C, ∀ b ∈ c2.fp, b < W.heap.size := fun c2 h2 b hb => h.fp_lt (List.mem_flatMap.2 ⟨c2, List.mem_append_right _ h2, hb⟩)
 have hA : ∀ b ∈ fps A, b ∈ (A ++ C).flatMap (·.fp) := fun b hb => by rw [List.flatMap_append]; exact List.mem_append_left _ hb
 exact {
  os := k.os.trans h.os
  tape := k.tape.trans h.tape
  output := k.output.trans h.output
  size := Nat.le_trans h.size k.size
  drawn := Nat.le_trans h.drawn k.drawn
  old := fun b hb hE => (k.old b (Nat.lt_of_lt_of_le hb h.size) (fun hc => by
   rcases (h.away b (hA b hc)).2 with h1 | h1
   ·
    omega
   ·
    exact hE h1)).trans (h.old b hb hE)
  phi := k.phi
  orig := fun b o hb hl => h.orig b o (k.orig b o hb (Nat.lt_of_lt_of_le hl h.size)) hl
  sat := fun c2 hc2 => by
   rcases List.mem_append.1 hc2 with h1 | h1
   ·
    exact k.sat c2 h1
   ·
    exact c2.loc _ _ (fun b hb => k.old b (hlt c2 h1 b hb) (hno c2 h1 b hb)) (h.sat c2 (List.mem_append_right _ h1))
  sep := List.pairwise_append.2 ⟨k.sep, hsep.2.1, fun c1 h1 c2 h2 b hb1 hb2 => by
   rcases (k.away b (List.mem_flatMap.2 ⟨c1, h1, hb1⟩)).2 with h3 | h3
   ·
    have := hlt c2 h2 b hb2; simp only at h3; omega
   ·
    exact hno c2 h2 b hb2 h3⟩
  away := fun b hb => by
   rw [List.flatMap_append, List.mem_append] at hb
   rcases hb with hb | hb
   ·
    refine ⟨(k.away b hb).1, ?_⟩
    rcases (k.away b hb).2 with h1 | h1
    ·
     exact .inl (Nat.le_trans h.size h1)
    ·
     exact (h.away b (hA b h1)).2
   ·
    obtain ⟨c2, h2, hb2⟩ := List.mem_flatMap.1 hb
    have hm := h.away b (List.mem_flatMap.2 ⟨c2, List.mem_append_right _ h2, hb2⟩)
    refine ⟨?_, hm.2⟩
    cases he : Ψ b with
    | none => rfl
    | some o =>
     have := k.orig b o he (hlt c2 h2 b hb2)
     simp only at this
     rw [hm.1] at this; cases this }
def OwnK {α ε ζ : Type} (w : World) (Φ : Hp) (A : List Chunk) (res : Except ε α) (V : α → ζ → Value) (K : α → ζ → List Chunk) (eV : ε → List PanicEntry) (KE : ε → List Chunk → Prop) : Ending → World → Prop := fun e w' =>
 (∃ x z, res = .ok x ∧ e = .returned (V x z) ∧ StP ⟨w, Φ, fps A⟩ Φ (K x z) w') ∨
 (∃ er CE, res = .error er ∧ e = .panicked (eV er) ∧ KE er CE ∧ StP ⟨w, Φ, fps A⟩ Φ CE w')
theorem e_own {dst : Option Nat} {g : Option (Nat × Bool)} {α ε ζ : Type} {A : List Chunk} {res : Except ε α} {V : α → ζ → Value} {K : α → ζ → List Chunk} {eV : ε → List PanicEntry} {KE : ε → List Chunk → Prop}
  {x : Operand} {xs : Array Operand} {ts : Array TypeId} {k : FuncId} {first capt args : Array Value} {C2 : List Chunk} (is : List Nat) (hn : is.Nodup) (hi : is.map (C[·]?) = (A ++ C2).map some) (hk : Own P k) (hx : ev (fr f s) x = .func (.func k) first capt) (ha : first.toList ++ xs.toList.map (ev (fr f s)) ++ capt.toList = args.toList)
  (h : ∀ w, StP ⟨w, Φ, fps A⟩ Φ A w → Calls P k args w (OwnK w Φ A res V K eV KE))
  (hPn : ∀ er CE w', res = .error er → KE er CE → StP B Φ (CE ++ C2) w' → Pn (eV er) w') :
  ∀ w, (St B Φ C).p w → effX P Pn (fun v w' => ∃ y : {y : α × ζ // res = .ok y.1}, v = V y.1.1 y.1.2 ∧ (St B Φ (K y.1.1 y.1.2 ++ C2)).p w') ((execOp (ev (fr f s)) ⟨dst, .call { callee := .value x, args := xs, argTypes := ts }, ty, pos, af, g⟩).run P w) :=
 e_callP (V := fun y : {y : α × ζ // res = .ok y.1} => V y.1.1 y.1.2) (J' := fun y => St B Φ (K y.1.1 y.1.2 ++ C2)) hk hx ha fun w hw => by
  have hw1 : StP B Φ (A ++ C2) w := StP.sel hw is hn hi
  refine (h w hw1.hand).mono fun e w' hh => ?_
  rcases hh with ⟨x, z, h1, h2, h3⟩ | ⟨er, CE, h1, h2, h3, h4⟩
  ·
   exact .inl ⟨⟨(x, z), h1⟩, h2, StP.frameL hw1 h3⟩
  ·
   exact .inr ⟨_, h2, hPn er CE w' h1 h3 (StP.frameL hw1 h4)⟩
theorem RW.own [hQ : PanQ D Q Pn] {d : Nat} {α ε ζ : Type} {A : List Chunk} {res : Except ε α} {V : α → ζ → Value} {K : α → ζ → List Chunk} {eV : ε → List PanicEntry} {KE : ε → List Chunk → Prop}
  {x : Operand} {xs : Array Operand} {ts : Array TypeId} {k : FuncId} {first capt args : Array Value} {C2 : List Chunk} (is : List Nat) (hn : is.Nodup) (hi : is.map (C[·]?) = (A ++ C2).map some) (hd : Nat.blt d N = true) (hk : Own P k) (hx : ev (fr f s) x = .func (.func k) first capt) (ha : first.toList ++ xs.toList.map (ev (fr f s)) ++ capt.toList = args.toList)
  (h : ∀ w, StP ⟨w, Φ, fps A⟩ Φ A w → Calls P k args w (OwnK w Φ A res V K eV KE))
  (hPn : ∀ er CE w', res = .error er → KE er CE → StP B Φ (CE ++ C2) w' → Pn (eV er) w')
  (kk : ∀ x z, res = .ok x → RW P N D ops Q rest f ((d, V x z) :: s) (St B Φ (K x z ++ C2))) : RW P N D ops Q (⟨some d, .call { callee := .value x, args := xs, argTypes := ts }, ty, pos, af, none⟩ :: rest) f s (St B Φ C) :=
 RW.eff _ _ hd (e_own is hn hi hk hx ha h hPn) fun y => kk y.1.1 y.1.2 y.2
theorem DW.own {d : Nat} {tg : List Tg} {J0 : Cls} {α ε ζ : Type} {A : List Chunk} {res : Except ε α} {V : α → ζ → Value} {K : α → ζ → List Chunk} {eV : ε → List PanicEntry} {KE : ε → List Chunk → Prop}
  {x : Operand} {xs : Array Operand} {ts : Array TypeId} {k : FuncId} {first capt args : Array Value} {C2 : List Chunk} (is : List Nat) (hn : is.Nodup) (hi : is.map (C[·]?) = (A ++ C2).map some) (hd : Nat.blt d N = true) (hk : Own P k) (hx : ev (fr f s) x = .func (.func k) first capt) (ha : first.toList ++ xs.toList.map (ev (fr f s)) ++ capt.toList = args.toList)
  (h : ∀ w, StP ⟨w, Φ, fps A⟩ Φ A w → Calls P k args w (OwnK w Φ A res V K eV KE))
  (hPn : ∀ er CE w', res = .error er → KE er CE → StP B Φ (CE ++ C2) w' → Pn (eV er) w')
  (hJ : ∀ x z w, StP B Φ (K x z ++ C2) w → J0.p w)
  (kk : ∀ x z, res = .ok x → DW P Pn N D ops J0 Q tg rest f ((d, V x z) :: s) (St B Φ (K x z ++ C2))) : DW P Pn N D ops J0 Q (.e :: tg) (⟨some d, .call { callee := .value x, args := xs, argTypes := ts }, ty, pos, af, none⟩ :: rest) f s (St B Φ C) :=
 DW.eff _ _ (fun _ _ _ hw => hJ _ _ _ hw) hd (e_own is hn hi hk hx ha h hPn) fun y => kk y.1.1 y.1.2 y.2
end Go.K
