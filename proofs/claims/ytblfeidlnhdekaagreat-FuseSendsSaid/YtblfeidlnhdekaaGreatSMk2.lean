/- Lemmas. Conditions: those of each theorem. -/
import Derived.Test.YtblfeidlnhdekaaGreatSMks
import Derived.Test.YtblfeidlnhdekaaGreatSAuto3
namespace Go.K
open Go Go.RowKit
def conBy (co : List (Nat × Nat)) (listed : Array Bool) (i : Nat) : Bool := co.any fun p => Nat.beq p.1 i && listed.getD p.2 false
def updK (co : List (Nat × Nat)) (i : Nat) (K : List Chunk) (Ks : Nat → List Chunk) : Nat → List Chunk := fun j => if j = i then K else if co.any (fun p => Nat.beq p.1 j && Nat.beq p.2 i) = true then [] else Ks j
def chkM2 (l : List Oper) (n N : Nat) (slots : List Nat) (sl : List (List Nat)) : Bool :=
  Nat.beq l.length (n + 1) && ((List.range n).all fun j => match l[n]? with | some o => waitsD .any l.toArray 12 o j | none => false) && ((List.range (n + 1)).all fun i => match l[i]? with
    | some o => o.guard.isNone && o.after.all fun e => !(Region.binds .any e) || Nat.blt e.on i
    | none => false) && (match l[n]? with | some o => (match o.dst with | some d => Nat.blt d N | none => false) | none => false) && (List.range n).all fun i => match l[i]? with
    | some o => ((sl.getD i []).all fun t => (match o.dst with | some d => Nat.beq t d | none => false) || (o.after.any fun e => Region.binds .any e && (match (l[e.on]?).bind (·.dst) with | some d' => Nat.beq d' t | none => false))) && (match o.dst with
      | some d => Nat.blt d N && !(slots.any fun t => Nat.beq t d) && ((List.range n).all fun j => Nat.beq j i || (match (l[j]?).bind (·.dst) with | some d' => !(Nat.beq d' d) | none => true))
      | none => true)
    | none => false
section
variable {P : Program} {N : Nat} {D : List Deferred} {Q : Exit → Act → World → Prop} {f : Nat → Value} {s : List (Nat × Value)} {B : Bs} {Φ : Hp} {C : List Chunk}
theorem chkM2_spec {l : List Oper} {n N : Nat} {slots : List Nat} {sl : List (List Nat)} (h : chkM2 l n N slots sl = true) :
    l.length = n + 1 ∧ (∀ o, l[n]? = some o → (∃ d, o.dst = some d ∧ Nat.blt d N = true) ∧ ∀ j, j < n → waitsD .any l.toArray 12 o j = true) ∧ (∀ i o, l[i]? = some o → o.guard = none ∧ ∀ e ∈ o.after, Region.binds .any e = true → e.on < i) ∧
    (∀ i o, i < n → l[i]? = some o → (∀ d, o.dst = some d → Nat.blt d N = true ∧ (∀ t ∈ slots, t ≠ d) ∧ (∀ j o' d', j < n → l[j]? = some o' → o'.dst = some d' → j ≠ i → d' ≠ d)) ∧ ∀ t ∈ sl.getD i [], o.dst = some t ∨ ∃ e ∈ o.after, Region.binds .any e = true ∧ (l[e.on]?).bind (·.dst) = some t) := by
  simp only [chkM2, Bool.and_eq_true] at h
  obtain ⟨⟨⟨⟨h1, h2⟩, h3⟩, h4⟩, h5⟩ := h
  have hl : l.length = n + 1 := nB h1
  refine ⟨hl, fun o ho => ⟨?_, fun j hj => ?_⟩, fun i o ho => ?_, fun i o hi ho => ?_⟩
  · simp only [ho] at h4
    cases hd : o.dst with
    | none => simp [hd] at h4
    | some d => simp only [hd] at h4; exact ⟨d, rfl, h4⟩
  · have := List.all_eq_true.1 h2 j (List.mem_range.2 hj); rw [ho] at this; exact this
  · have hi : i < n + 1 := by have := (List.getElem?_eq_some_iff.1 ho).1; omega
    have := List.all_eq_true.1 h3 i (List.mem_range.2 hi)
    simp only [ho, Bool.and_eq_true] at this
    refine ⟨Option.isNone_iff_eq_none.1 this.1, fun e he hb => ?_⟩
    have h6 := Array.all_eq_true'.1 this.2 e he
    rcases Bool.or_eq_true_iff.1 h6 with h7 | h7
    · rw [hb] at h7; cases h7
    · simpa [Nat.blt_eq] using h7
  · have h6 := List.all_eq_true.1 h5 i (List.mem_range.2 hi)
    simp only [ho, Bool.and_eq_true] at h6
    obtain ⟨hsl, h6⟩ := h6
    refine ⟨fun d hd => ?_, fun t ht => ?_⟩
    · simp only [hd, Bool.and_eq_true] at h6
      obtain ⟨⟨h7, h8⟩, h9⟩ := h6
      refine ⟨h7, fun t ht e => ?_, fun j o' d' hj hjo hd' hji e => ?_⟩
      · have : (slots.any fun t => Nat.beq t d) = true := List.any_eq_true.2 ⟨t, ht, by rw [e]; exact Nat.beq_refl d⟩
        rw [this] at h8; cases h8
      · have h10 := List.all_eq_true.1 h9 j (List.mem_range.2 hj)
        rcases Bool.or_eq_true_iff.1 h10 with h11 | h11
        · exact hji (nB h11)
        · rw [hjo] at h11
          simp only [Option.bind_some, hd'] at h11
          rw [e, Nat.beq_refl] at h11; cases h11
    · have h12 := List.all_eq_true.1 hsl t ht
      rcases Bool.or_eq_true_iff.1 h12 with h13 | h13
      · cases hd : o.dst with
        | none => simp [hd] at h13
        | some d => simp only [hd] at h13; rw [nB h13]; exact .inl rfl
      · obtain ⟨e, he, hb⟩ := Array.any_eq_true'.1 h13
        simp only [Bool.and_eq_true] at hb
        refine .inr ⟨e, he, hb.1, ?_⟩
        cases hq : (l[e.on]?).bind (·.dst) with
        | none => rw [hq] at hb; exact absurd hb.2 (by simp)
        | some d' => rw [hq] at hb; rw [nB hb.2]
theorem getD_tf {listed : Array Bool} {i : Nat} (h : i < listed.size) {b : Bool} (d : Bool) : listed.getD i d = b ↔ listed.getD i (!d) = b := by
  simp only [Array.getD_eq_getD_getElem?, Array.getElem?_eq_getElem h, Option.getD_some]
def upS (S : Nat → Value) (d : Option Nat) (v : Value) : Nat → Value := match d with | some d => fr S [(d, v)] | none => S
def DepG (Fs : List FactM) (co : List (Nat × Nat)) (i : Nat) (S : Nat → Value) (Ks : Nat → List Chunk) (j : Nat) : Prop := (∀ p ∈ co, p.1 = j → p.2 = i) → DepM Fs S Ks j
def StepG (P : Program) (B : Bs) (Φ : Hp) (C : List Chunk) (base : List (Nat × Value)) (Fs : List FactM) (co : List (Nat × Nat)) (i : Nat) (o : Oper) (F : FactM) : Prop :=
  ∀ (S : Nat → Value) (Ks : Nat → List Chunk) (w : World), AllIn S base → StP B Φ (AllK Fs.length Ks ++ C) w → Ks i = [] → (∀ e ∈ o.after, Region.binds .any e = true → DepG Fs co i S Ks e.on) → effX P NoPn (fun v w' => ∃ K, F.2 (F.1.map (upS S o.dst v)) K ∧ StP B Φ (AllK Fs.length (updK co i K Ks) ++ C) w') ((execOp (ev S) o).run P w)
def StepsG (P : Program) (B : Bs) (Φ : Hp) (C : List Chunk) (base : List (Nat × Value)) (Fs : List FactM) (co : List (Nat × Nat)) : Nat → List Oper → List FactM → Prop
  | _, _, [] => True
  | i, o :: l, F :: r => StepG P B Φ C base Fs co i o F ∧ StepsG P B Φ C base Fs co (i + 1) l r
  | _, [], _ :: _ => False
theorem StepsG.get {co : List (Nat × Nat)} {base : List (Nat × Value)} {Fs : List FactM} : ∀ {k : Nat} {l : List Oper} {r : List FactM}, StepsG P B Φ C base Fs co k l r → ∀ {i : Nat} {F : FactM}, r[i]? = some F → ∃ o, l[i]? = some o ∧ StepG P B Φ C base Fs co (k + i) o F
  | _, _, [], _, i, F, h => by simp at h
  | k, o' :: l, F' :: r, hs, 0, F, h => by
    obtain rfl : F' = F := by simpa using h
    exact ⟨o', rfl, hs.1⟩
  | k, o' :: l, F' :: r, hs, i + 1, F, h => by
    have := StepsG.get hs.2 (i := i) (by simpa using h)
    rw [show k + 1 + i = k + (i + 1) by omega] at this
    simpa using this
  | _, [], _ :: _, hs, _, _, _ => hs.elim
theorem updK_none {co : List (Nat × Nat)} {i : Nat} {K : List Chunk} {Ks : Nat → List Chunk} (h : ∀ p ∈ co, p.2 ≠ i) : updK co i K Ks = fun j => if j = i then K else Ks j := by
  funext j
  unfold updK
  by_cases hj : j = i
  · rw [if_pos hj, if_pos hj]
  · rw [if_neg hj, if_neg hj, if_neg]
    intro h2
    obtain ⟨p, hp, hb⟩ := List.any_eq_true.1 h2
    simp only [Bool.and_eq_true] at hb
    exact h p hp (nB hb.2)
theorem StepG.of {co : List (Nat × Nat)} {base : List (Nat × Value)} {Fs : List FactM} {i : Nat} {o : Oper} {F : FactM} (hi : Nat.blt i Fs.length = true) (hc : (co.all fun p => !(Nat.beq p.2 i)) = true)
    (hs : ∀ S Ks w, AllIn S base → StP B Φ (AllK Fs.length Ks ++ C) w → (∀ e ∈ o.after, Region.binds .any e = true → DepG Fs co i S Ks e.on) → effX P NoPn (fun v w' => ∃ K, F.2 (F.1.map (upS S o.dst v)) K ∧ StP ⟨w, hp w, []⟩ (hp w) K w') ((execOp (ev S) o).run P w)) : StepG P B Φ C base Fs co i o F := fun S Ks w h1 h2 h3 h4 =>
  effX_mono (fun v w' ⟨K, hF, hK⟩ => ⟨K, hF, by
    rw [updK_none fun p hp e => by have := List.all_eq_true.1 hc p hp; rw [e, Nat.beq_refl] at this; cases this]
    have hm := StP.madeM h2 hK
    rw [← List.append_assoc] at hm
    exact hm.perm (List.Perm.append_right _ (flatMap_upd (K := K) h3 List.nodup_range (List.mem_range.2 (by simpa [Nat.blt_eq] using hi))).symm)⟩) (hs S Ks w h1 h2 h4)
theorem stQS {co : List (Nat × Nat)} {base : List (Nat × Value)} {Fs : List FactM} {i : Nat} {o : Oper} {sl : List Nat} {G : List Value → List Chunk → Prop} (hi : Nat.blt i Fs.length = true) (hc : (co.all fun p => !(Nat.beq p.2 i)) = true) (hq : ∀ S Ks, AllIn S base → (∀ e ∈ o.after, Region.binds .any e = true → DepG Fs co i S Ks e.on) → ∃ V, Qt P (St B Φ C) S [] o V ∧ G (sl.map (upS S o.dst V)) []) : StepG P B Φ C base Fs co i o (sl, G) := StepG.of hi hc fun S Ks w hs hw hd => by
  obtain ⟨V, h1, h2⟩ := hq S Ks hs hd
  refine effX_mono (fun u w' hb => ?_) (fq (w := w) h1 hw.base)
  obtain ⟨hb, rfl⟩ := hb
  exact ⟨[], h2, (St ⟨w, hp w, []⟩ (hp w) []).ext w w' (StP.now w) hb⟩
theorem stQ {co : List (Nat × Nat)} {base : List (Nat × Value)} {Fs : List FactM} {i : Nat} {o : Oper} {d : Nat} {V : Value} (hd : o.dst = some d) (hi : Nat.blt i Fs.length = true) (hc : (co.all fun p => !(Nat.beq p.2 i)) = true) (hq : ∀ S Ks, AllIn S base → (∀ e ∈ o.after, Region.binds .any e = true → DepG Fs co i S Ks e.on) → Qt P (St B Φ C) S [] o V) : StepG P B Φ C base Fs co i o (FQ d V) :=
  stQS hi hc fun S Ks hs hdd => ⟨V, hq S Ks hs hdd, by rw [hd]; exact ⟨by simp [upS, fr_head], rfl⟩⟩
theorem stE {co : List (Nat × Nat)} {base : List (Nat × Value)} {Fs : List FactM} {i : Nat} {o : Oper} {d : Nat} {X : Type} {Vz : X → Value} {Kz : X → List Chunk} (hd : o.dst = some d) (hi : Nat.blt i Fs.length = true) (hc : (co.all fun p => !(Nat.beq p.2 i)) = true) (h : ∀ S Ks w, AllIn S base → StP B Φ (AllK Fs.length Ks ++ C) w → (∀ e ∈ o.after, Region.binds .any e = true → DepG Fs co i S Ks e.on) → effX P NoPn (fun v w' => ∃ x, v = Vz x ∧ (St ⟨w, hp w, []⟩ (hp w) (Kz x)).p w') ((execOp (ev S) o).run P w)) : StepG P B Φ C base Fs co i o (FE d Vz Kz) := StepG.of hi hc fun S Ks w hs hw hdd => by
  refine effX_mono (fun u w' hx => ?_) (h S Ks w hs hw hdd)
  obtain ⟨x, rfl, hx⟩ := hx
  refine ⟨Kz x, ⟨x, ?_, rfl⟩, hx⟩
  rw [hd]; simp [upS, fr_head]
theorem dpl {Fs : List FactM} {co : List (Nat × Nat)} {i : Nat} {S : Nat → Value} {Ks : Nat → List Chunk} {as : Array Edge} (hd : ∀ e ∈ as, Region.binds .any e = true → DepG Fs co i S Ks e.on) (j : Nat) (h : (as.toList.any fun e => Region.binds .any e && Nat.beq e.on j) = true) (hc : (co.all fun p => !(Nat.beq p.1 j) || Nat.beq p.2 i) = true) : DepM Fs S Ks j :=
  dep_l hd j h fun p hp e => by have := List.all_eq_true.1 hc p hp; rw [e, Nat.beq_refl] at this; exact nB (by simpa using this)
theorem StepG.take {co : List (Nat × Nat)} {base : List (Nat × Value)} {Fs : List FactM} {i c : Nat} {o : Oper} {F : FactM} (hc : c < Fs.length) (hi : i < Fs.length) (hne : c ≠ i) (h1 : (c, i) ∈ co) (h2 : ∀ p ∈ co, p.2 = i → p.1 = c)
    (h : ∀ S Ks w, AllIn S base → StP B Φ (AllK Fs.length Ks ++ C) w → (∀ e ∈ o.after, Region.binds .any e = true → DepG Fs co i S Ks e.on) → ∃ q, Ks c = [q] ∧ ∀ R, (∀ j, j ≠ c → j < Fs.length → ∀ ch ∈ Ks j, ch ∈ R) → StP B Φ (q :: R) w → effX P NoPn (fun v w' => ∃ q', F.2 (F.1.map (upS S o.dst v)) [q'] ∧ StP B Φ (q' :: R) w') ((execOp (ev S) o).run P w)) : StepG P B Φ C base Fs co i o F := fun S Ks w k1 k2 k3 k4 => by
  obtain ⟨q, hq, hr⟩ := h S Ks w k1 k2 k4
  have e1 : (fun j => if j = c then [q] else if j = c then [] else Ks j) = Ks := by
    funext j; by_cases hj : j = c
    · rw [if_pos hj, hj, hq]
    · rw [if_neg hj, if_neg hj]
  have p1 := flatMap_upd (Ks := fun j => if j = c then [] else Ks j) (K := [q]) (if_pos rfl) List.nodup_range (List.mem_range.2 hc)
  rw [e1] at p1
  have e2 : ∀ K, (fun j => if j = i then K else if j = c then [] else Ks j) = updK co i K Ks := fun K => by
    funext j; unfold updK
    by_cases hj : j = i
    · rw [if_pos hj, if_pos hj]
    · rw [if_neg hj, if_neg hj]
      by_cases hjc : j = c
      · rw [if_pos hjc, if_pos (List.any_eq_true.2 ⟨(c, i), h1, by simp [hjc]⟩)]
      · rw [if_neg hjc, if_neg]
        intro h9
        obtain ⟨p, hp, hb⟩ := List.any_eq_true.1 h9
        simp only [Bool.and_eq_true] at hb
        exact hjc ((nB hb.1).symm.trans (h2 p hp (nB hb.2)))
  refine effX_mono (fun v w' ⟨q', hF, hw'⟩ => ⟨[q'], hF, ?_⟩) (hr ((List.range Fs.length).flatMap (fun j => if j = c then [] else Ks j) ++ C) (fun j hj hjl ch hch => List.mem_append_left _ (List.mem_flatMap.2 ⟨j, List.mem_range.2 hjl, by simp only [if_neg hj]; exact hch⟩)) (k2.perm (List.Perm.append_right C p1)))
  rw [← e2 [q']]
  exact hw'.perm (List.Perm.append_right C (flatMap_upd (Ks := fun j => if j = c then [] else Ks j) (K := [q']) (by simp only [if_neg (Ne.symm hne)]; exact k3) List.nodup_range (List.mem_range.2 hi)).symm)
structure InvN (N : Nat) (D : List Deferred) (B : Bs) (Φ : Hp) (C : List Chunk) (base : List (Nat × Value)) (l : List Oper) (Fs : List FactM) (co : List (Nat × Nat)) (listed : Array Bool) (a : Act) (w : World) : Prop where
  sz : listed.size = l.length
  last : ∀ j, Fs.length ≤ j → j < l.length → listed.getD j true = false
  cl : Closed .any l.toArray listed
  ex : ∃ S Ks, Rel N D S a ∧ AllIn S base ∧ StP B Φ (AllK Fs.length Ks ++ C) w ∧ (∀ i, listed.getD i false = false → Ks i = []) ∧ ∀ (i : Nat) (F : FactM), Fs[i]? = some F → listed.getD i false = true → conBy co listed i = false → F.2 (F.1.map S) (Ks i)
theorem wpAny_invN {co : List (Nat × Nat)} {base : List (Nat × Value)} {l : List Oper} {Fs : List FactM} (hB : chkM2 l Fs.length N (base.map Prod.fst) (Fs.map Prod.fst) = true) (hst : StepsG P B Φ C base Fs co 0 l Fs)
    (htail : ∀ fuel listed a w S Ks, ((List.range l.length).filter fun i => !listed.getD i true).length ≤ fuel → listed.size = l.length → Closed .any l.toArray listed → (∀ j, j < Fs.length → listed.getD j false = true) → (∀ j, Fs.length ≤ j → j < l.length → listed.getD j true = false) → Rel N D S a → AllIn S base → StP B Φ (AllK Fs.length Ks ++ C) w → (∀ j, (∀ p ∈ co, p.1 ≠ j) → DepM Fs S Ks j) → wpAny P .any l.toArray Q fuel listed a w) :
    ∀ (fuel : Nat) (listed : Array Bool) (a : Act) (w : World), ((List.range l.length).filter fun i => !listed.getD i true).length ≤ fuel → InvN N D B Φ C base l Fs co listed a w → wpAny P .any l.toArray Q fuel listed a w := by
  obtain ⟨hlen, hw1, hgs, hds⟩ := chkM2_spec hB
  have hnone : ∀ listed a w, InvN N D B Φ C base l Fs co listed a w → Region.ready .any l.toArray listed ≠ [] := by
    intro listed a w hI hr
    have hall : ∀ i, i < l.length → listed.getD i false = true := by
      intro i
      induction i using Nat.strongRecOn with
      | _ i ih =>
        intro hi
        cases hl : listed.getD i false with
        | true => rfl
        | false =>
          exfalso
          have hsz := hI.sz
          have ho : l[i]? = some l[i] := List.getElem?_eq_getElem hi
          obtain ⟨_, haf⟩ := hgs i _ ho
          have hmem : i ∈ Region.ready .any l.toArray listed := mem_ready.2 ⟨by
            have hil : i < listed.size := by omega
            simp only [Array.getD_eq_getD_getElem?, Array.getElem?_eq_getElem hil, Option.getD_some] at hl ⊢; exact hl, l[i], (by rw [List.getElem?_toArray]; exact ho), fun e he hb => ih e.on (haf e he hb) (Nat.lt_trans (haf e he hb) hi)⟩
          rw [hr] at hmem; cases hmem
    have h1 := hall Fs.length (by omega)
    have h2 := hI.last Fs.length (Nat.le_refl _) (by omega)
    rw [getD_tf (by rw [hI.sz]; omega)] at h1
    exact Bool.noConfusion (h1.symm.trans h2)
  intro fuel
  induction fuel with
  | zero =>
    intro listed a w hf hI
    exfalso
    refine hnone listed a w hI ?_
    rw [List.eq_nil_iff_forall_not_mem]
    intro i hi
    obtain ⟨h1, o, ho, _⟩ := mem_ready.1 hi
    have hil : i < l.length := by have := (Array.getElem?_eq_some_iff.1 ho).1; simpa using this
    have hm : i ∈ (List.range l.length).filter fun i => !listed.getD i true := List.mem_filter.2 ⟨List.mem_range.2 hil, by rw [h1]; rfl⟩
    have := List.length_pos_of_mem hm
    omega
  | succ fuel ih =>
    intro listed a w hf hI
    by_cases hAll : ∀ j, j < Fs.length → listed.getD j false = true
    · obtain ⟨S, Ks, h1, h2, h3, h5, h4⟩ := hI.ex
      exact htail _ listed a w S Ks hf hI.sz hI.cl hAll hI.last h1 h2 h3 fun j hjc => by
        unfold DepM
        cases hFe : Fs[j]? with
        | none => simp
        | some F' => exact h4 j F' hFe (hAll j (List.getElem?_eq_some_iff.1 hFe).1) (by
            cases hcb : conBy co listed j with
            | false => rfl
            | true =>
              obtain ⟨p, hp, hb⟩ := List.any_eq_true.1 hcb
              simp only [Bool.and_eq_true] at hb
              exact absurd (nB hb.1) (hjc p hp))
    refine ⟨fun hr => absurd hr (hnone listed a w hI), fun i hi => ?_⟩
    obtain ⟨hun, o, ho, haf⟩ := mem_ready.1 hi
    have hol : l[i]? = some o := by simpa using ho
    have hil : i < l.length := (List.getElem?_eq_some_iff.1 hol).1
    have hisz : i < listed.size := by rw [hI.sz]; exact hil
    have hunF : listed.getD i false = false := by simp only [Array.getD_eq_getD_getElem?, Array.getElem?_eq_getElem hisz, Option.getD_some] at hun ⊢; exact hun
    obtain ⟨hgo, _⟩ := hgs i o hol
    obtain ⟨S, Ks, h1, h2, h3, h5, h4⟩ := hI.ex
    have hcnt : ((List.range l.length).filter fun j => !(listed.setIfInBounds i true).getD j true).length ≤ fuel := by
      have := filter_lt' (p := fun i => !listed.getD i true) (q := fun j => !(listed.setIfInBounds i true).getD j true) (a := i) (l := List.range l.length) (fun x _ hx => by
        simp only [Array.getD_eq_getD_getElem?, Array.getElem?_setIfInBounds] at hx ⊢
        by_cases hxi : i = x
        · subst hxi; simp [hisz] at hx
        · simpa [hxi] using hx) (List.mem_range.2 hil) (by simp only [hun]; rfl) (by simp [Array.getD_eq_getD_getElem?, hisz])
      omega
    unfold wpOp
    simp only [ho]
    have hwant : Region.wanted o (yielded l.toArray a.tmps) = true := by unfold Region.wanted; rw [hgo]
    rw [if_pos hwant]
    have hin' : i < Fs.length := by
      refine Nat.lt_of_not_le fun hge => hAll fun j hj => ?_
      obtain rfl : i = Fs.length := by omega
      exact waitsD_listed hI.cl 12 o haf ((hw1 o hol).2 j hj)
    obtain ⟨hdo, hdt⟩ := hds i o hin' hol
    have hF : Fs[i]? = some Fs[i] := List.getElem?_eq_getElem hin'
    obtain ⟨o', ho', hS⟩ := hst.get hF
    obtain rfl : o' = o := by rw [ho'] at hol; exact sJ hol
    rw [Nat.zero_add] at hS
    have hKi : Ks i = [] := h5 i hunF
    refine .inl (upon_eff (Pn := NoPn) (R := fun v w' => ∃ K, Fs[i].2 (Fs[i].1.map (upS S o'.dst v)) K ∧ StP B Φ (AllK Fs.length (updK co i K Ks) ++ C) w') ?_ ?_ (fun _ _ h => h.elim))
    · rw [h1.eval]
      refine hS S Ks w h2 h3 hKi fun e he hb hce => ?_
      unfold DepM
      cases hFe : Fs[e.on]? with
      | none => simp
      | some F' => exact h4 e.on F' hFe (haf e he hb) (by
          cases hcb : conBy co listed e.on with
          | false => rfl
          | true =>
            obtain ⟨p, hp, hb2⟩ := List.any_eq_true.1 hcb
            simp only [Bool.and_eq_true] at hb2
            have := hce p hp (nB hb2.1)
            rw [this, hunF] at hb2
            exact absurd hb2.2 (by simp))
    · rintro v w' ⟨K, hFv, hK⟩
      have hrel : Rel N D (upS S o'.dst v) (a.put o'.dst v) ∧ AllIn (upS S o'.dst v) base := by
        cases hd : o'.dst with
        | none => exact ⟨h1, h2⟩
        | some d => exact ⟨h1.put (f := S) (s := []) (hdo d hd).1 v, allIn_put h2 (hdo d hd).2.1⟩
      have hset : ∀ {j : Nat} {b : Bool}, j ≠ i → (listed.setIfInBounds i true).getD j b = listed.getD j b := fun {j b} hj => by
        simp only [Array.getD_eq_getD_getElem?, Array.getElem?_setIfInBounds]; rw [if_neg (Ne.symm hj)]
      have hseti : (listed.setIfInBounds i true).getD i false = true := by simp [Array.getD_eq_getD_getElem?, hisz]
      refine ih _ _ _ hcnt ⟨by simp [hI.sz], ?_, hI.cl.set hi, upS S o'.dst v, updK co i K Ks, hrel.1, hrel.2, hK, fun j hj => ?_, fun j F' hF' hlj hcj => ?_⟩
      · intro j hj hjl
        rw [hset (by omega)]; exact hI.last j hj hjl
      · by_cases hji : j = i
        · subst hji; rw [hseti] at hj; cases hj
        · unfold updK
          rw [if_neg hji]
          split
          · rfl
          · exact h5 j (by rw [hset hji] at hj; exact hj)
      · have hjn : j < Fs.length := (List.getElem?_eq_some_iff.1 hF').1
        by_cases hji : j = i
        · subst hji
          rw [hF] at hF'
          obtain rfl := sJ hF'
          unfold updK
          rw [if_pos rfl]; exact hFv
        · have hlj' : listed.getD j false = true := by rw [hset hji] at hlj; exact hlj
          have hno : ∀ p ∈ co, p.1 = j → p.2 ≠ i ∧ listed.getD p.2 false = false := fun p hp hpj => by
            have h9 : (Nat.beq p.1 j && (listed.setIfInBounds i true).getD p.2 false) = false := by
              cases h8 : (Nat.beq p.1 j && (listed.setIfInBounds i true).getD p.2 false) with
              | false => rfl
              | true => have h7 : conBy co (listed.setIfInBounds i true) j = true := List.any_eq_true.2 ⟨p, hp, h8⟩; rw [h7] at hcj; cases hcj
            rw [hpj, Nat.beq_refl, Bool.true_and] at h9
            have hpi : p.2 ≠ i := fun e => by rw [e, hseti] at h9; cases h9
            rw [hset hpi] at h9
            exact ⟨hpi, h9⟩
          have hcj' : conBy co listed j = false := by
            cases hcb : conBy co listed j with
            | false => rfl
            | true =>
              obtain ⟨p, hp, hb2⟩ := List.any_eq_true.1 hcb
              simp only [Bool.and_eq_true] at hb2
              have := (hno p hp (nB hb2.1)).2
              rw [this] at hb2; exact absurd hb2.2 (by simp)
          have hoj : l[j]? = some l[j] := List.getElem?_eq_getElem (by omega)
          obtain ⟨_, hdtj⟩ := hds j _ hjn hoj
          have hslj : (Fs.map Prod.fst).getD j [] = F'.1 := by rw [gDD, List.getElem?_map, hF']; rfl
          rw [hslj] at hdtj
          have e9 : F'.1.map (upS S o'.dst v) = F'.1.map S := by
            cases hd : o'.dst with
            | none => rfl
            | some d =>
              refine List.map_congr_left fun t ht => ?_
              have hne : t ≠ d := by
                rcases hdtj t ht with hq | ⟨e, he, hb, het⟩
                · exact (hdo d hd).2.2 j _ t hjn hoj hq hji
                · have hle := hI.cl j _ (by rw [List.getElem?_toArray]; exact hoj) hlj' e he hb
                  have hei : e.on ≠ i := fun h => by rw [h, hunF] at hle; cases hle
                  cases hoe : l[e.on]? with
                  | none => rw [hoe] at het; cases het
                  | some oe =>
                    rw [hoe] at het
                    have hel : e.on < j := (hgs j _ hoj).2 e he hb
                    exact (hdo d hd).2.2 e.on oe t (by omega) hoe het hei
              have hb : Nat.beq t d = false := by
                cases hh : Nat.beq t d with
                | false => rfl
                | true => exact absurd (nB hh) hne
              simp only [upS, fr, hb, cond_false]
          have hu : updK co i K Ks j = Ks j := by
            unfold updK
            rw [if_neg hji, if_neg]
            intro h8
            obtain ⟨p, hp, hb2⟩ := List.any_eq_true.1 h8
            simp only [Bool.and_eq_true] at hb2
            exact (hno p hp (nB hb2.1)).1 (nB hb2.2)
          rw [e9, hu]
          exact h4 j F' hF' hlj' hcj'
theorem AW.drawM2 {id : Nat} {l : List Oper} (co : List (Nat × Nat)) (base : List (Nat × Value)) (Fs : List FactM) (I : List (Nat × Value) → Cls → Prop) (hm : P.follows .mixedOrders = true) (hB : chkM2 l Fs.length N (base.map Prod.fst) (Fs.map Prod.fst) = true) (hs : AllIn (fr f s) base) (hst : StepsG P B Φ C base Fs co 0 l Fs)
    (hlast : ∀ o S Ks, l[Fs.length]? = some o → AllIn S base → (∀ j, (∀ p ∈ co, p.1 ≠ j) → DepM Fs S Ks j) → ∃ s' J' v, I s' J' ∧ AllIn (upS S o.dst v) s' ∧ (∀ w, StP B Φ (AllK Fs.length Ks ++ C) w → J'.p w) ∧ Qt P J' S [] o v)
    (k : ∀ f' s' J', I s' J' → Post N D Q .normal f' s' J') : AW P N D (.region id l.toArray true) Q f s (St B Φ C) := fun a w ha hw => by
  refine wp_region_any hm ?_
  have hw' := (St B Φ C).ext w _ hw (Bel.drew _ w)
  obtain ⟨hlen, hw1, hgs, hds⟩ := chkM2_spec hB
  refine wpAny_invN (N := N) (D := D) (B := B) (Φ := Φ) (C := C) hB hst (fun fuel listed a' w' S Ks hf hsz hcl hall hno h1 h2 h3 h4 => ?_) _ _ a _ ?_ ⟨by simp, ?_, Closed.init _, fr f s, fun _ => [], ha, hs, ?_, fun _ _ => rfl, fun i F hF hl => ?_⟩
  · have e1 : l[Fs.length]? = some l[Fs.length] := List.getElem?_eq_getElem (by omega)
    have hn : Fs.length < l.length := by omega
    obtain ⟨s', J', v, hI, hs', he, hq⟩ := hlast _ S Ks e1 h2 h4
    obtain ⟨⟨d, hd, hdN⟩, hww⟩ := hw1 _ e1
    have hun := hno _ (Nat.le_refl _) hn
    have c1 : 1 ≤ fuel := by
      have := List.length_pos_of_mem (List.mem_filter.2 ⟨List.mem_range.2 hn, by rw [hun]; rfl⟩ : Fs.length ∈ (List.range l.length).filter fun i => !listed.getD i true)
      omega
    obtain ⟨m, rfl⟩ : ∃ m, fuel = m + 1 := ⟨fuel - 1, by omega⟩
    have hr : Fs.length ∈ Region.ready .any l.toArray listed := mem_ready.2 ⟨hun, _, by simp, fun e he hb => hall e.on ((hgs _ _ e1).2 e he hb)⟩
    refine ⟨fun h => (by rw [h] at hr; cases hr), fun i hi => ?_⟩
    obtain ⟨huni, oi, hoi, _⟩ := mem_ready.1 hi
    have hil : i < l.length := by have := (Array.getElem?_eq_some_iff.1 hoi).1; simpa using this
    have hi1 : ¬ i < Fs.length := fun h => by
      have h3 := hall i h
      rw [getD_tf (by omega)] at h3
      exact Bool.noConfusion (h3.symm.trans huni)
    obtain rfl : i = Fs.length := by omega
    obtain rfl : oi = l[Fs.length] := sJ (by rw [← hoi]; simp)
    unfold wpOp
    simp only [hoi]
    rw [if_pos (by unfold Region.wanted; rw [(hgs _ _ e1).1])]
    refine .inl (upon_quiet (v := v) (by rw [h1.eval]; exact hq w' (he w' h3)) fun w'' hb => ?_)
    rw [hd] at hs' ⊢
    have hfin := k _ s' J' hI _ w'' (by rw [fr_of_allIn hs']; exact h1.put (f := S) (s := []) hdN v) (J'.ext _ _ (he w' h3) hb)
    have hr3 : Region.ready .any l.toArray (listed.setIfInBounds Fs.length true) = [] := by
      rw [List.eq_nil_iff_forall_not_mem]
      intro j hj
      obtain ⟨h6, oj', hoj', _⟩ := mem_ready.1 hj
      have hjl : j < l.length := by have := (Array.getElem?_eq_some_iff.1 hoj').1; simpa using this
      by_cases hj2 : j = Fs.length
      · subst hj2
        simp [Array.getD_eq_getD_getElem?, show Fs.length < listed.size by omega] at h6
      · have h7 : (listed.setIfInBounds Fs.length true).getD j true = listed.getD j true := by
          simp only [Array.getD_eq_getD_getElem?, Array.getElem?_setIfInBounds]; rw [if_neg (Ne.symm hj2)]
        rw [h7] at h6
        have h8 := hall j (by omega)
        rw [getD_tf (by omega)] at h8
        exact Bool.noConfusion (h8.symm.trans h6)
    cases m with
    | zero => exact ⟨hr3, hfin⟩
    | succ m => exact ⟨fun _ => hfin, fun j hj => by rw [hr3] at hj; cases hj⟩
  · have := List.length_filter_le (fun i => !(Array.replicate l.toArray.size false).getD i true) (List.range l.length)
    simpa using this
  · intro j hj hjl
    rw [Array.getD_eq_getD_getElem?, Array.getElem?_replicate, if_pos (by simpa using hjl)]; rfl
  · have : AllK Fs.length (fun _ => ([] : List Chunk)) = [] := by simp [AllK]
    rw [this]; exact hw'
  · simp [Array.getD_eq_getD_getElem?] at hl
    have hil : i < l.length := by have := (List.getElem?_eq_some_iff.1 hF).1; omega
    simp [hil] at hl
theorem mem_AllK {n j : Nat} {Ks : Nat → List Chunk} {c : Chunk} (hj : j < n) (h : c ∈ Ks j) : c ∈ AllK n Ks ++ C := List.mem_append_left _ (List.mem_flatMap.2 ⟨j, List.mem_range.2 hj, h⟩)
def hpR (Φ0 : Hp) (n m : Nat) (Φ : Hp) : Hp := fun b => if b < n then Φ0 b else if b < m then Φ b else none
def Chunk.kn (Φ0 : Hp) (n m : Nat) (T : Hp → Prop) : Chunk where
  fp := List.range' n (m - n)
  sat := fun Φ => (∀ b, n ≤ b → b < m → Φ b ≠ none) ∧ T (hpR Φ0 n m Φ)
  loc := fun Φ Ψ h hs => by
    have e : ∀ b, n ≤ b → b < m → Ψ b = Φ b := fun b h1 h2 => h b (by rw [List.mem_range'_1]; omega)
    refine ⟨fun b h1 h2 => by rw [e b h1 h2]; exact hs.1 b h1 h2, ?_⟩
    have : hpR Φ0 n m Ψ = hpR Φ0 n m Φ := by
      funext b; unfold hpR
      by_cases h1 : b < n
      · rw [if_pos h1, if_pos h1]
      · by_cases h2 : b < m
        · rw [if_neg h1, if_neg h1, if_pos h2, if_pos h2]; exact e b (by omega) h2
        · rw [if_neg h1, if_neg h1, if_neg h2, if_neg h2]
    rw [this]; exact hs.2
  dom := fun Φ hs b hb => by rw [List.mem_range'_1] at hb; exact hs.1 b hb.1 (by omega)
theorem kn_le {Φ0 Ψ : Hp} {n m : Nat} (h : Hp.le Φ0 Ψ) : Hp.le (hpR Φ0 n m Ψ) Ψ := fun b o e => by
  unfold hpR at e
  split at e
  · exact h b o e
  · split at e
    · exact e
    · cases e
def RetY {Y : Type} (w : World) (V : Y → Value) (T : Y → Hp → Prop) : Ending → World → Prop := fun e w' => ∃ y, e = .returned (V y) ∧ Bel w.heap.size w w' ∧ T y (Go.K.ext noHp w.heap.size w')
theorem e_knX {S : Nat → Value} {w : World} {dst : Option Nat} {ty : TypeId} {pos : String} {af : Array Edge} {g : Option (Nat × Bool)} {xs : List Operand} {ts : Array TypeId} {k : FuncId} {args : List Value} {Y : Type} {V : Y → Value} {T : Y → Hp → Prop} [hk : OwnI P k] (ha : xs.map (ev S) = args)
    (h : Calls P k args.toArray w (RetY w V T)) :
    effX P NoPn (fun v w' => ∃ z : Y × Nat × Nat, v = V z.1 ∧ (St ⟨w, hp w, []⟩ (hp w) [.kn noHp z.2.1 z.2.2 (T z.1)]).p w') ((execOp (ev S) ⟨dst, .call { callee := .value (.func k), args := xs.toArray, argTypes := ts }, ty, pos, af, g⟩).run P w) :=
  e_mkF (V := fun z : Y × Nat × Nat => V z.1) (K := fun z => [.kn noHp z.2.1 z.2.2 (T z.1)]) hk.h ha (h.mono fun e w' ⟨y, he, hb, hT⟩ => ⟨(y, w.heap.size, w'.heap.size), he, by
    have hx : hpR noHp w.heap.size w'.heap.size (hp w') = Go.K.ext noHp w.heap.size w' := by
      funext b; unfold hpR Go.K.ext
      by_cases h1 : b < w.heap.size
      · rw [if_pos h1, if_pos h1]
      · rw [if_neg h1, if_neg h1]
        by_cases h2 : b < w'.heap.size
        · rw [if_pos h2]; rfl
        · rw [if_neg h2, Array.getElem?_eq_none (by omega)]
    refine (StP.now w).step hb.os hb.tape hb.output hb.size (fun b hlt _ => hb.block b hlt) (fun _ _ e => .inl e) (fun c hc => ?_) (by simp) (fun b hb' => ?_) hb.drawn
    · rw [List.mem_singleton.1 hc]
      refine ⟨fun b h1 h2 => ?_, by rw [hx]; exact hT⟩
      show w'.heap[b]? ≠ none
      rw [Array.getElem?_eq_getElem h2]; simp
    · obtain ⟨c, hc, hbc⟩ := List.mem_flatMap.1 hb'
      rw [List.mem_singleton.1 hc] at hbc
      have := List.mem_range'_1.1 hbc
      exact ⟨Array.getElem?_eq_none this.1, .inl this.1⟩⟩)
theorem tmpE {S : Nat → Value} {d : Nat} {v : Value} (h : S d = v) : ev (fr S []) (.tmp d) = v := h
theorem noLe {Φ : Hp} : Hp.le noHp Φ := fun b o e => by cases e
theorem sub2 {i j : Nat} (hij : i < j) : ∀ {n : Nat}, j < n → [i, j].Sublist (List.range n)
  | 0, h => by omega
  | n + 1, h => by
    rw [List.range_succ]
    by_cases hj : j = n
    · subst hj
      exact List.Sublist.append (l₁ := [i]) (List.singleton_sublist.2 (List.mem_range.2 hij)) (List.Sublist.refl _)
    · exact (sub2 hij (by omega)).trans (List.sublist_append_left _ _)
theorem AllK_two {n i j : Nat} {Ks : Nat → List Chunk} {a b : Chunk} {w : World} (hij : i < j) (hj : j < n) (h1 : Ks i = [a]) (h2 : Ks j = [b]) (h : StP B Φ (AllK n Ks ++ C) w) : StP B Φ (a :: b :: C) w := by
  have h3 : ∀ {l m : List Nat}, l.Sublist m → (l.flatMap Ks).Sublist (m.flatMap Ks) := fun {l m} hs => by
    induction hs with
    | slnil => exact List.Sublist.refl _
    | cons a _ ih => rw [List.flatMap_cons]; exact ih.trans (List.sublist_append_right _ _)
    | cons_cons a _ ih => rw [List.flatMap_cons, List.flatMap_cons]; exact List.Sublist.append (List.Sublist.refl _) ih
  have h4 := h3 (sub2 hij hj)
  rw [show [i, j].flatMap Ks = [a, b] by simp [h1, h2]] at h4
  exact h.drop (List.Sublist.append h4 (List.Sublist.refl C))
end
end Go.K
