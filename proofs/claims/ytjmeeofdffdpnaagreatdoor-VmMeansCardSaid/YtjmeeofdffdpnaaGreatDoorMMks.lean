/- Lemmas. Conditions: those of each theorem. -/
import Derived.Test.YtjmeeofdffdpnaaGreatDoorMDrz
import Derived.Test.YtjmeeofdffdpnaaGreatDoorMOwnG
namespace Go.K
open Go Go.RowKit
variable {af : Array Edge} {pos : String} {ty : TypeId} {g : Option (Nat × Bool)} {dst : Option Nat}
theorem flatMap_upd {α : Type} {Ks : Nat → List α} {i : Nat} {K : List α} (h0 : Ks i = []) : ∀ {L : List Nat}, L.Nodup → i ∈ L → (K ++ L.flatMap Ks).Perm (L.flatMap fun j => if j = i then K else Ks j)
  | [], _, h => by cases h
  | a :: L, hn, h => by
    obtain ⟨h1, h2⟩ := List.nodup_cons.1 hn
    simp only [List.flatMap_cons]
    by_cases ha : a = i
    · subst ha
      rw [if_pos rfl, h0, List.nil_append]
      have e : (L.flatMap fun j => if j = a then K else Ks j) = L.flatMap Ks := by
        have : ∀ M : List Nat, a ∉ M → (M.flatMap fun j => if j = a then K else Ks j) = M.flatMap Ks := fun M => by
          induction M with
          | nil => intro _; rfl
          | cons b M ih =>
            intro hm
            simp only [List.mem_cons, not_or] at hm
            rw [List.flatMap_cons, List.flatMap_cons, ih hm.2, if_neg (Ne.symm hm.1)]
        exact this L h1
      rw [e]
    · rw [if_neg ha]
      have hi : i ∈ L := (List.mem_cons.1 h).resolve_left (Ne.symm ha)
      have ih := flatMap_upd (K := K) h0 h2 hi
      refine List.Perm.trans ?_ (List.Perm.append_left _ ih)
      rw [← List.append_assoc, ← List.append_assoc]
      exact List.Perm.append_right _ List.perm_append_comm
abbrev FactM := List Nat × (List Value → List Chunk → Prop)
def DepM (Fs : List FactM) (S : Nat → Value) (Ks : Nat → List Chunk) (j : Nat) : Prop :=
  match Fs[j]? with
  | some F => F.2 (F.1.map S) (Ks j)
  | _ => True
def AllK (n : Nat) (Ks : Nat → List Chunk) : List Chunk := (List.range n).flatMap Ks
def StepM (P : Program) (B : Bs) (Φ : Hp) (C : List Chunk) (base : List (Nat × Value)) (Fs : List FactM) (o : Oper) (F : FactM) : Prop :=
  ∀ (S : Nat → Value) (Ks : Nat → List Chunk) (w : World), AllIn S base → StP B Φ (AllK Fs.length Ks ++ C) w → (∀ e ∈ o.after, Region.binds .any e = true → DepM Fs S Ks e.on) → effX P NoPn (fun v w' => ∃ K, F.2 (F.1.map (fr S [(o.dst.getD 0, v)])) K ∧ StP ⟨w, hp w, []⟩ (hp w) K w') ((execOp (ev S) o).run P w)
def StepsM (P : Program) (B : Bs) (Φ : Hp) (C : List Chunk) (base : List (Nat × Value)) (Fs : List FactM) : List Oper → List FactM → Prop
  | _, [] => True
  | o :: l, F :: r => StepM P B Φ C base Fs o F ∧ StepsM P B Φ C base Fs l r
  | [], _ :: _ => False
theorem StepsM.get {P : Program} {B : Bs} {Φ : Hp} {C : List Chunk} {base : List (Nat × Value)} {Fs : List FactM} : ∀ {l : List Oper} {r : List FactM}, StepsM P B Φ C base Fs l r → ∀ {i : Nat} {F : FactM}, r[i]? = some F → ∃ o, l[i]? = some o ∧ StepM P B Φ C base Fs o F
  | _, [], _, i, F, h => by simp at h
  | o' :: l, F' :: r, hs, 0, F, h => by
    obtain rfl : F' = F := by simpa using h
    exact ⟨o', rfl, hs.1⟩
  | o' :: l, F' :: r, hs, i + 1, F, h => by simpa using StepsM.get hs.2 (i := i) (by simpa using h)
  | [], _ :: _, hs, _, _, _ => hs.elim
def chkM (l : List Oper) (n N : Nat) (slots : List Nat) (sl : List (List Nat)) : Bool :=
  Nat.beq l.length (n + 1) && Region.noSelect l.toArray && waitsZ .any l.toArray n && ((List.range (n + 1)).all fun i => match l[i]? with
    | some o => o.guard.isNone && o.after.all fun e => !(Region.binds .any e) || Nat.blt e.on i
    | none => false) && (match l[n]? with | some o => o.dst.isNone | none => false) && (List.range n).all fun i => match l[i]? with
    | some o => (match o.dst with
      | some d => Nat.blt d N && !(slots.any fun t => Nat.beq t d) && ((List.range n).all fun j => Nat.beq j i || (match (l[j]?).bind (·.dst) with | some d' => !(Nat.beq d' d) | none => true)) && ((sl.getD i []).all fun t => Nat.beq t d || (o.after.any fun e => Region.binds .any e && (match (l[e.on]?).bind (·.dst) with | some d' => Nat.beq d' t | none => false)))
      | none => false)
    | none => false
section
variable {P : Program} {N : Nat} {D : List Deferred} {Q : Exit → Act → World → Prop} {f : Nat → Value} {s : List (Nat × Value)} {B : Bs} {Φ : Hp} {C : List Chunk}
theorem chkM_spec {l : List Oper} {n N : Nat} {slots : List Nat} {sl : List (List Nat)} (h : chkM l n N slots sl = true) :
    l.length = n + 1 ∧ waitsZ .any l.toArray n = true ∧ (∀ i o, l[i]? = some o → o.guard = none ∧ ∀ e ∈ o.after, Region.binds .any e = true → e.on < i) ∧ (∀ o, l[n]? = some o → o.dst = none) ∧
    (∀ i o, i < n → l[i]? = some o → ∃ d, o.dst = some d ∧ Nat.blt d N = true ∧ (∀ t ∈ slots, t ≠ d) ∧ (∀ j o' d', j < n → l[j]? = some o' → o'.dst = some d' → j ≠ i → d' ≠ d) ∧ ∀ t ∈ sl.getD i [], t = d ∨ ∃ e ∈ o.after, Region.binds .any e = true ∧ (l[e.on]?).bind (·.dst) = some t) := by
  simp only [chkM, Bool.and_eq_true] at h
  obtain ⟨⟨⟨⟨⟨h1, _⟩, h2⟩, h3⟩, h4⟩, h5⟩ := h
  have hl : l.length = n + 1 := nB h1
  refine ⟨hl, h2, fun i o ho => ?_, fun o ho => ?_, fun i o hi ho => ?_⟩
  · have hi : i < n + 1 := by have := (List.getElem?_eq_some_iff.1 ho).1; omega
    have := List.all_eq_true.1 h3 i (List.mem_range.2 hi)
    simp only [ho, Bool.and_eq_true] at this
    refine ⟨Option.isNone_iff_eq_none.1 this.1, fun e he hb => ?_⟩
    have h6 := Array.all_eq_true'.1 this.2 e he
    rcases Bool.or_eq_true_iff.1 h6 with h7 | h7
    · rw [hb] at h7; cases h7
    · simpa [Nat.blt_eq] using h7
  · rw [ho] at h4; exact Option.isNone_iff_eq_none.1 h4
  · have h6 := List.all_eq_true.1 h5 i (List.mem_range.2 hi)
    simp only [ho] at h6
    cases hd : o.dst with
    | none => rw [hd] at h6; cases h6
    | some d =>
      rw [hd] at h6
      simp only [Bool.and_eq_true] at h6
      obtain ⟨⟨⟨h7, h8⟩, h9⟩, hsl⟩ := h6
      refine ⟨d, rfl, h7, fun t ht e => ?_, fun j o' d' hj hjo hd' hji e => ?_, fun t ht => ?_⟩
      · have : (slots.any fun t => Nat.beq t d) = true := List.any_eq_true.2 ⟨t, ht, by rw [e]; exact Nat.beq_refl d⟩
        rw [this] at h8; cases h8
      · have h10 := List.all_eq_true.1 h9 j (List.mem_range.2 hj)
        rcases Bool.or_eq_true_iff.1 h10 with h11 | h11
        · exact hji (nB h11)
        · rw [hjo] at h11
          simp only [Option.bind_some, hd'] at h11
          rw [e, Nat.beq_refl] at h11; cases h11
      · have h12 := List.all_eq_true.1 hsl t ht
        rcases Bool.or_eq_true_iff.1 h12 with h13 | h13
        · exact .inl (nB h13)
        · obtain ⟨e, he, hb⟩ := Array.any_eq_true'.1 h13
          simp only [Bool.and_eq_true] at hb
          refine .inr ⟨e, he, hb.1, ?_⟩
          cases hq : (l[e.on]?).bind (·.dst) with
          | none => rw [hq] at hb; exact absurd hb.2 (by simp)
          | some d' => rw [hq] at hb; rw [nB hb.2]
structure InvM (N : Nat) (D : List Deferred) (B : Bs) (Φ : Hp) (C : List Chunk) (base : List (Nat × Value)) (l : List Oper) (Fs : List FactM) (listed : Array Bool) (a : Act) (w : World) : Prop where
  sz : listed.size = l.length
  last : listed.getD Fs.length true = false
  cl : Closed .any l.toArray listed
  ex : ∃ S Ks, Rel N D S a ∧ AllIn S base ∧ StP B Φ (AllK Fs.length Ks ++ C) w ∧ (∀ i, listed.getD i false = false → Ks i = []) ∧ ∀ (i : Nat) (F : FactM), Fs[i]? = some F → listed.getD i false = true → F.2 (F.1.map S) (Ks i)
theorem StP.madeM {K : List Chunk} {w W : World} (h : StP B Φ C w) (k : StP ⟨w, hp w, []⟩ (hp w) K W) : StP B Φ (K ++ C) W := StP.frameL (A := []) h { k.less h.phi with orig := fun _ _ e _ => e }
theorem wpAny_invM {base : List (Nat × Value)} {l : List Oper} {Fs : List FactM} (hB : chkM l Fs.length N (base.map Prod.fst) (Fs.map Prod.fst) = true) (hst : StepsM P B Φ C base Fs l Fs)
    (hlast : ∀ o S Ks a w, l[Fs.length]? = some o → Rel N D S a → AllIn S base → StP B Φ (AllK Fs.length Ks ++ C) w → (∀ j, DepM Fs S Ks j) → effX P NoPn (fun _ w' => Q .normal a w') ((execOp (ev S) o).run P w)) :
    ∀ (fuel : Nat) (listed : Array Bool) (a : Act) (w : World), ((List.range l.length).filter fun i => !listed.getD i true).length ≤ fuel → InvM N D B Φ C base l Fs listed a w → wpAny P .any l.toArray Q fuel listed a w := by
  obtain ⟨hlen, hwz, hgs, hld, hds⟩ := chkM_spec hB
  have hnone : ∀ listed a w, InvM N D B Φ C base l Fs listed a w → Region.ready .any l.toArray listed ≠ [] := by
    intro listed a w hI hr
    have hall : ∀ i, i < l.length → listed.getD i false = true := by
      intro i
      induction i using Nat.strongRecOn with
      | _ i ih =>
        intro hi
        cases hl : listed.getD i false with
        | true => rfl
        | false =>
          exfalso
          have hsz := hI.sz
          have ho : l[i]? = some l[i] := List.getElem?_eq_getElem hi
          obtain ⟨_, haf⟩ := hgs i _ ho
          have hmem : i ∈ Region.ready .any l.toArray listed := mem_ready.2 ⟨by
            have hil : i < listed.size := by omega
            simp only [Array.getD_eq_getD_getElem?, Array.getElem?_eq_getElem hil, Option.getD_some] at hl ⊢; exact hl, l[i], (by rw [List.getElem?_toArray]; exact ho), fun e he hb => ih e.on (haf e he hb) (Nat.lt_trans (haf e he hb) hi)⟩
          rw [hr] at hmem; cases hmem
    have h1 := hall Fs.length (by omega)
    have h2 := hI.last
    have hil : Fs.length < listed.size := by rw [hI.sz]; omega
    simp only [Array.getD_eq_getD_getElem?, Array.getElem?_eq_getElem hil, Option.getD_some] at h1 h2
    rw [h1] at h2; cases h2
  intro fuel
  induction fuel with
  | zero =>
    intro listed a w hf hI
    exfalso
    refine hnone listed a w hI ?_
    rw [List.eq_nil_iff_forall_not_mem]
    intro i hi
    obtain ⟨h1, o, ho, _⟩ := mem_ready.1 hi
    have hil : i < l.length := by have := (Array.getElem?_eq_some_iff.1 ho).1; simpa using this
    have hm : i ∈ (List.range l.length).filter fun i => !listed.getD i true := List.mem_filter.2 ⟨List.mem_range.2 hil, by rw [h1]; rfl⟩
    have := List.length_pos_of_mem hm
    omega
  | succ fuel ih =>
    intro listed a w hf hI
    refine ⟨fun hr => absurd hr (hnone listed a w hI), fun i hi => ?_⟩
    obtain ⟨hun, o, ho, haf⟩ := mem_ready.1 hi
    have hol : l[i]? = some o := by simpa using ho
    have hil : i < l.length := (List.getElem?_eq_some_iff.1 hol).1
    have hisz : i < listed.size := by rw [hI.sz]; exact hil
    have hunF : listed.getD i false = false := by simp only [Array.getD_eq_getD_getElem?, Array.getElem?_eq_getElem hisz, Option.getD_some] at hun ⊢; exact hun
    obtain ⟨hgo, _⟩ := hgs i o hol
    obtain ⟨S, Ks, h1, h2, h3, h5, h4⟩ := hI.ex
    have hcnt : ((List.range l.length).filter fun j => !(listed.setIfInBounds i true).getD j true).length ≤ fuel := by
      have := filter_lt' (p := fun i => !listed.getD i true) (q := fun j => !(listed.setIfInBounds i true).getD j true) (a := i) (l := List.range l.length) (fun x _ hx => by
        simp only [Array.getD_eq_getD_getElem?, Array.getElem?_setIfInBounds] at hx ⊢
        by_cases hxi : i = x
        · subst hxi; simp [hisz] at hx
        · simpa [hxi] using hx) (List.mem_range.2 hil) (by simp only [hun]; rfl) (by simp [Array.getD_eq_getD_getElem?, hisz])
      omega
    unfold wpOp
    simp only [ho]
    have hwant : Region.wanted o (yielded l.toArray a.tmps) = true := by unfold Region.wanted; rw [hgo]
    rw [if_pos hwant]
    by_cases hin : i = Fs.length
    · subst hin
      have hall : ∀ j, j < Fs.length → listed.getD j false = true := fun j hj => by
        unfold waitsZ at hwz
        rw [ho] at hwz
        have h6 := List.all_eq_true.1 hwz j (List.mem_range.2 (by simp; omega))
        rcases Bool.or_eq_true_iff.1 h6 with h7 | h7
        · have : j = Fs.length := by simpa using h7
          omega
        · exact waitsD_listed hI.cl 12 o haf h7
      have hdep : ∀ j, DepM Fs S Ks j := fun j => by
        unfold DepM
        cases hFe : Fs[j]? with
        | none => simp
        | some F' => exact h4 j F' hFe (hall j (List.getElem?_eq_some_iff.1 hFe).1)
      have hrun := hlast o S Ks a w hol h1 h2 h3 hdep
      refine .inl (upon_eff (Pn := NoPn) (R := fun _ w' => Q .normal a w') (by rw [h1.eval]; exact hrun) ?_ (fun _ _ h => h.elim))
      intro v w' hQ
      rw [hld o hol]
      have hr : Region.ready .any l.toArray (listed.setIfInBounds Fs.length true) = [] := by
        rw [List.eq_nil_iff_forall_not_mem]
        intro j hj
        obtain ⟨h6, oj, hoj, _⟩ := mem_ready.1 hj
        have hjl : j < l.length := by have := (Array.getElem?_eq_some_iff.1 hoj).1; simpa using this
        simp only [Array.getD_eq_getD_getElem?, Array.getElem?_setIfInBounds] at h6
        by_cases hjn : Fs.length = j
        · rw [if_pos hjn, if_pos (by omega)] at h6; simp at h6
        · rw [if_neg hjn] at h6
          have h7 := hall j (by omega)
          simp only [Array.getD_eq_getD_getElem?] at h7
          have hjs : j < listed.size := by rw [hI.sz]; exact hjl
          rw [Array.getElem?_eq_getElem hjs] at h6 h7
          simp only [Option.getD_some] at h6 h7
          rw [h7] at h6; cases h6
      cases fuel with
      | zero => exact ⟨hr, hQ⟩
      | succ n => exact ⟨fun _ => hQ, fun j hj => by rw [hr] at hj; cases hj⟩
    · have hin' : i < Fs.length := by omega
      obtain ⟨d, hd, hdN, hdb, hdd, hdt⟩ := hds i o hin' hol
      have hF : Fs[i]? = some Fs[i] := List.getElem?_eq_getElem hin'
      obtain ⟨o', ho', hS⟩ := hst.get hF
      obtain rfl : o' = o := by rw [ho'] at hol; exact sJ hol
      have hKi : Ks i = [] := h5 i hunF
      refine .inl (upon_eff (Pn := NoPn) (R := fun v w' => ∃ K, Fs[i].2 (Fs[i].1.map (fr S [(o'.dst.getD 0, v)])) K ∧ StP ⟨w, hp w, []⟩ (hp w) K w') ?_ ?_ (fun _ _ h => h.elim))
      · rw [h1.eval]
        refine hS S Ks w h2 h3 fun e he hb => ?_
        unfold DepM
        cases hFe : Fs[e.on]? with
        | none => simp
        | some F' => exact h4 e.on F' hFe (haf e he hb)
      · rintro v w' ⟨K, hFv, hK⟩
        rw [hd] at hFv ⊢
        simp only [Option.getD_some] at hFv
        have h3' : StP B Φ (AllK Fs.length (fun j => if j = i then K else Ks j) ++ C) w' := by
          have hm := StP.madeM h3 hK
          rw [← List.append_assoc] at hm
          exact hm.perm (List.Perm.append_right _ (flatMap_upd (K := K) hKi List.nodup_range (List.mem_range.2 hin')).symm)
        refine ih _ _ _ hcnt ⟨by simp [hI.sz], ?_, hI.cl.set hi, fr S [(d, v)], fun j => if j = i then K else Ks j, h1.put (f := S) (s := []) hdN v, allIn_put h2 hdb, h3', fun j hj => ?_, fun j F' hF' hlj => ?_⟩
        · have h6 := hI.last
          simp only [Array.getD_eq_getD_getElem?, Array.getElem?_setIfInBounds] at h6 ⊢
          rw [if_neg hin]; exact h6
        · by_cases hji : j = i
          · subst hji
            simp [Array.getD_eq_getD_getElem?, hisz] at hj
          · simp only [if_neg hji]
            refine h5 j ?_
            simp only [Array.getD_eq_getD_getElem?, Array.getElem?_setIfInBounds] at hj ⊢
            simpa [Ne.symm hji] using hj
        · have hjn : j < Fs.length := (List.getElem?_eq_some_iff.1 hF').1
          by_cases hji : j = i
          · subst hji
            rw [hF] at hF'
            obtain rfl := sJ hF'
            simp only [if_true]; exact hFv
          · have hlj' : listed.getD j false = true := by
              simp only [Array.getD_eq_getD_getElem?, Array.getElem?_setIfInBounds] at hlj ⊢
              simpa [Ne.symm hji] using hlj
            have hoj : l[j]? = some l[j] := List.getElem?_eq_getElem (by omega)
            obtain ⟨dj, hdj, _, _, _, hdtj⟩ := hds j _ hjn hoj
            have hslj : (Fs.map Prod.fst).getD j [] = F'.1 := by rw [gDD, List.getElem?_map, hF']; rfl
            rw [hslj] at hdtj
            have e9 : F'.1.map (fr S [(d, v)]) = F'.1.map S := List.map_congr_left fun t ht => by
              have hne : t ≠ d := by
                rcases hdtj t ht with rfl | ⟨e, he, hb, het⟩
                · exact hdd j _ t hjn hoj hdj hji
                · have hle := hI.cl j _ (by rw [List.getElem?_toArray]; exact hoj) hlj' e he hb
                  have hei : e.on ≠ i := fun h => by rw [h, hunF] at hle; cases hle
                  cases hoe : l[e.on]? with
                  | none => rw [hoe] at het; cases het
                  | some oe =>
                    rw [hoe] at het
                    have hel : e.on < j := (hgs j _ hoj).2 e he hb
                    exact hdd e.on oe t (by omega) hoe het hei
              have hb : Nat.beq t d = false := by
                cases hh : Nat.beq t d with
                | false => rfl
                | true => exact absurd (nB hh) hne
              simp only [fr, hb, cond_false]
            rw [e9]; simp only [if_neg hji]
            exact h4 j F' hF' hlj'
theorem AW.drawM {id : Nat} {l : List Oper} (base : List (Nat × Value)) (Fs : List FactM) (I : List (Nat × Value) → Cls → Prop) (hm : P.follows .mixedOrders = true) (hB : chkM l Fs.length N (base.map Prod.fst) (Fs.map Prod.fst) = true) (hs : AllIn (fr f s) base) (hst : StepsM P B Φ C base Fs l Fs)
    (hlast : ∀ o S Ks, l[Fs.length]? = some o → AllIn S base → (∀ j, DepM Fs S Ks j) → ∃ s' J', I s' J' ∧ AllIn S s' ∧ ∀ w, StP B Φ (AllK Fs.length Ks ++ C) w → effX P NoPn (fun _ w' => J'.p w') ((execOp (ev S) o).run P w))
    (k : ∀ f' s' J', I s' J' → Post N D Q .normal f' s' J') : AW P N D (.region id l.toArray true) Q f s (St B Φ C) := fun a w ha hw => by
  refine wp_region_any hm ?_
  have hw' := (St B Φ C).ext w _ hw (Bel.drew _ w)
  have hlen := (chkM_spec hB).1
  refine wpAny_invM (N := N) (D := D) (B := B) (Φ := Φ) (C := C) hB hst (fun o S Ks a' w' ho h1 h2 h3 h4 => ?_) _ _ a _ ?_ ⟨by simp, ?_, Closed.init _, fr f s, fun _ => [], ha, hs, ?_, fun _ _ => rfl, fun i F hF hl => ?_⟩
  · obtain ⟨s', J', hI, hs', he⟩ := hlast o S Ks ho h2 h4
    exact effX_mono (fun _ w2 hp => k S s' J' hI a' w2 (by rw [fr_of_allIn hs']; exact h1) hp) (he w' h3)
  · have := List.length_filter_le (fun i => !(Array.replicate l.toArray.size false).getD i true) (List.range l.length)
    simpa using this
  · rw [Array.getD_eq_getD_getElem?, Array.getElem?_replicate, if_pos (by simp; omega)]; rfl
  · have : AllK Fs.length (fun _ => ([] : List Chunk)) = [] := by simp [AllK]
    rw [this]; exact hw'
  · simp [Array.getD_eq_getD_getElem?] at hl
    have hil : i < l.length := by have := (List.getElem?_eq_some_iff.1 hF).1; omega
    simp [hil] at hl
theorem dep_l {as : Array Edge} {G : Nat → Prop} (hd : ∀ e ∈ as, Region.binds .any e = true → G e.on) (j : Nat) (h : (as.toList.any fun e => Region.binds .any e && Nat.beq e.on j) = true) : G j := dep_at hd j (by rw [← Array.any_toList]; exact h)
theorem dq {S : Nat → Value} {d : Nat} {V : Value} {K : List Chunk} (h : [d].map S = [V] ∧ K = []) : S d = V := by simpa using h.1
theorem StP.now (w : World) : StP ⟨w, hp w, []⟩ (hp w) [] w := StP.init w (hp w) (Hp.le_refl _) []
abbrev FQ (d : Nat) (V : Value) : FactM := ([d], fun vs K => vs = [V] ∧ K = [])
abbrev FE {X : Type} (d : Nat) (Vz : X → Value) (Kz : X → List Chunk) : FactM := ([d], fun vs K => ∃ x, vs = [Vz x] ∧ K = Kz x)
theorem StP.base {L : List Chunk} {w : World} (h : StP B Φ (L ++ C) w) : StP B Φ C w := h.drop (List.sublist_append_right _ _)
theorem stepQS {base : List (Nat × Value)} {Fs : List FactM} {o : Oper} {sl : List Nat} {G : List Value → List Chunk → Prop} (hq : ∀ S Ks, AllIn S base → (∀ e ∈ o.after, Region.binds .any e = true → DepM Fs S Ks e.on) → ∃ V, Qt P (St B Φ C) S [] o V ∧ G (sl.map (fr S [(o.dst.getD 0, V)])) []) : StepM P B Φ C base Fs o (sl, G) := fun S Ks w hs hw hd => by
  obtain ⟨V, h1, h2⟩ := hq S Ks hs hd
  refine effX_mono (fun u w' hb => ?_) (fq (w := w) h1 hw.base)
  obtain ⟨hb, rfl⟩ := hb
  exact ⟨[], h2, (St ⟨w, hp w, []⟩ (hp w) []).ext w w' (StP.now w) hb⟩
theorem stepQ {base : List (Nat × Value)} {Fs : List FactM} {o : Oper} {d : Nat} {V : Value} (hd : o.dst = some d) (hq : ∀ S Ks, AllIn S base → (∀ e ∈ o.after, Region.binds .any e = true → DepM Fs S Ks e.on) → Qt P (St B Φ C) S [] o V) : StepM P B Φ C base Fs o (FQ d V) :=
  stepQS fun S Ks hs hdd => ⟨V, hq S Ks hs hdd, by rw [hd]; exact ⟨by simp [fr_head], rfl⟩⟩
theorem stepE {base : List (Nat × Value)} {Fs : List FactM} {o : Oper} {d : Nat} {X : Type} {Vz : X → Value} {Kz : X → List Chunk} (hd : o.dst = some d) (h : ∀ S Ks w, AllIn S base → StP B Φ (AllK Fs.length Ks ++ C) w → (∀ e ∈ o.after, Region.binds .any e = true → DepM Fs S Ks e.on) → effX P NoPn (fun v w' => ∃ x, v = Vz x ∧ (St ⟨w, hp w, []⟩ (hp w) (Kz x)).p w') ((execOp (ev S) o).run P w)) : StepM P B Φ C base Fs o (FE d Vz Kz) := fun S Ks w hs hw hdd => by
  refine effX_mono (fun u w' hx => ?_) (h S Ks w hs hw hdd)
  obtain ⟨x, rfl, hx⟩ := hx
  refine ⟨Kz x, ⟨x, ?_, rfl⟩, hx⟩
  rw [hd]; simp [fr_head]
theorem e_mkF {S : Nat → Value} {w : World} {ζ : Type} {V : ζ → Value} {K : ζ → List Chunk} {xs : List Operand} {ts : Array TypeId} {k : FuncId} {args : List Value} (hk : Own P k) (ha : xs.map (ev S) = args)
    (h : Calls P k args.toArray w fun e w' => ∃ z, e = .returned (V z) ∧ StP ⟨w, hp w, []⟩ (hp w) (K z) w') :
    effX P NoPn (fun v w' => ∃ z, v = V z ∧ (St ⟨w, hp w, []⟩ (hp w) (K z)).p w') ((execOp (ev S) ⟨dst, .call { callee := .value (.func k), args := xs.toArray, argTypes := ts }, ty, pos, af, g⟩).run P w) := by
  have hr := run_call (P := P) (f := S) (s := []) (dst := dst) (ty := ty) (pos := pos) (af := af) (g := g) (ts := ts) (w := w) (x := .func k) (xs := xs.toArray) (first := #[]) (capt := #[]) (args := args.toArray) hk rfl (by simpa using (show xs.map (ev (fr S [])) = args from ha))
  change (execOp (ev S) _).run P w = _ at hr
  rw [hr]
  exact h.mono fun e w' ⟨y, he, hy⟩ => .inl ⟨V y, he, y, rfl, hy⟩
theorem e_allocF {S : Nat → Value} {w : World} {t : TypeId} {cs : List Value} [hz : ZL P t cs] (hw : StP ⟨w, hp w, []⟩ (hp w) [] w) :
    effX P NoPn (fun v w' => ∃ b : Nat, v = .pointer (some ⟨b, 0, none⟩) ∧ (St ⟨w, hp w, []⟩ (hp w) [.blk b t cs]).p w') ((execOp (ev S) ⟨dst, .alloc t, ty, pos, af, g⟩).run P w) := by
  obtain ⟨z, h1, rfl⟩ := hz.h
  exact e_alloc (f := S) (s := []) h1 w hw
end
end Go.K
