/- A region that draws its order and only makes new memory: a fact for each operation, in whatever order they come. Conditions: those of each theorem. -/
import Derived.Test.YtlljbndnodbecaaCore13
namespace Go.K
open Go Go.RowKit
theorem filter_le' {α : Type} {p q : α → Bool} : ∀ {l : List α}, (∀ x ∈ l, q x = true → p x = true) → (l.filter q).length ≤ (l.filter p).length
  | [], _ => Nat.le_refl _
  | x :: l, h => by
    have ih := filter_le' (p := p) (q := q) (l := l) fun y hy => h y (List.mem_cons_of_mem _ hy)
    cases hq : q x with
    | true => rw [List.filter_cons_of_pos hq, List.filter_cons_of_pos (h x (by simp) hq)]; simpa using ih
    | false =>
      rw [List.filter_cons_of_neg (by rw [hq]; simp)]
      cases hp : p x with
      | true => rw [List.filter_cons_of_pos hp]; simp only [List.length_cons]; omega
      | false => rw [List.filter_cons_of_neg (by rw [hp]; simp)]; exact ih
theorem filter_lt' {α : Type} {p q : α → Bool} {a : α} : ∀ {l : List α}, (∀ x ∈ l, q x = true → p x = true) → a ∈ l → p a = true → q a = false → (l.filter q).length < (l.filter p).length
  | [], _, ha, _, _ => by cases ha
  | x :: l, h, ha, hp, hq => by
    have h' : ∀ y ∈ l, q y = true → p y = true := fun y hy => h y (List.mem_cons_of_mem _ hy)
    rcases List.mem_cons.1 ha with e | hal
    · subst e
      rw [List.filter_cons_of_neg (by rw [hq]; simp), List.filter_cons_of_pos hp]
      have := filter_le' h'
      simp only [List.length_cons]; omega
    · have ih := filter_lt' h' hal hp hq
      cases hqx : q x with
      | true => rw [List.filter_cons_of_pos hqx, List.filter_cons_of_pos (h x (by simp) hqx)]; simpa using ih
      | false =>
        rw [List.filter_cons_of_neg (by rw [hqx]; simp)]
        cases hpx : p x with
        | true => rw [List.filter_cons_of_pos hpx]; simp only [List.length_cons]; omega
        | false => rw [List.filter_cons_of_neg (by rw [hpx]; simp)]; exact ih
theorem dep_at {as : Array Edge} {C : Nat → Prop} (hd : ∀ e ∈ as, Region.binds .any e = true → C e.on) (j : Nat) (h : (as.any fun e => Region.binds .any e && Nat.beq e.on j) = true) : C j := by
  obtain ⟨e, he, hb⟩ := Array.any_eq_true'.1 h
  simp only [Bool.and_eq_true] at hb
  have := Nat.eq_of_beq_eq_true hb.2
  rw [← this]
  exact hd e he hb.1
abbrev Fact := Value → Hp → Prop
def DepF (ops : List Oper) (Fs : List Fact) (S : Nat → Value) (Φ : Hp) (j : Nat) : Prop :=
  match ops[j]?, Fs[j]? with
  | some o, some F => match o.dst with
    | some d => F (S d) Φ
    | none => True
  | _, _ => True
def StepF (P : Program) (J : Cls) (base : List (Nat × Value)) (ops : List Oper) (Fs : List Fact) (o : Oper) (F : Fact) : Prop :=
  ∀ (S : Nat → Value) (w : World), AllIn S base → J.p w → (∀ e ∈ o.after, Region.binds .any e = true → DepF ops Fs S (hp w) e.on) → effX P (fun v w' => Bel w.heap.size w w' ∧ F v (hp w')) ((execOp (ev S) o).run P w)
def StepsF (P : Program) (J : Cls) (base : List (Nat × Value)) (ops : List Oper) (Fs : List Fact) : List Oper → List Fact → Prop
  | [], [] => True
  | o :: l, F :: r => StepF P J base ops Fs o F ∧ StepsF P J base ops Fs l r
  | _, _ => False
theorem StepsF.get {P : Program} {J : Cls} {base : List (Nat × Value)} {ops : List Oper} {Fs : List Fact} : ∀ {l : List Oper} {r : List Fact}, StepsF P J base ops Fs l r → ∀ {i : Nat} {o : Oper}, l[i]? = some o → ∃ F, r[i]? = some F ∧ StepF P J base ops Fs o F
  | [], [], _, i, o, h => by simp at h
  | o' :: l, F :: r, hs, 0, o, h => by
    obtain rfl : o' = o := by simpa using h
    exact ⟨F, rfl, hs.1⟩
  | o' :: l, F :: r, hs, i + 1, o, h => by simpa using StepsF.get hs.2 (i := i) (by simpa using h)
  | [], _ :: _, hs, _, _, _ => hs.elim
  | _ :: _, [], hs, _, _, _ => hs.elim
/-- a guard's truth value is known to be the one that is wanted -/
def GuardsF (Fs : List Fact) : List Oper → Prop
  | [] => True
  | o :: l => (match o.guard with
    | none => True
    | some (j, want) => ∀ F, Fs[j]? = some F → ∀ v Φ, F v Φ → v = .bool want) ∧ GuardsF Fs l
theorem GuardsF.get {Fs : List Fact} : ∀ {l : List Oper}, GuardsF Fs l → ∀ {i : Nat} {o : Oper}, l[i]? = some o → ∀ {j : Nat} {want : Bool}, o.guard = some (j, want) → ∀ F, Fs[j]? = some F → ∀ v Φ, F v Φ → v = .bool want
  | [], _, i, o, h => by simp at h
  | o' :: l, hs, 0, o, h => fun hg => by
    obtain rfl : o' = o := by simpa using h
    have := hs.1
    rw [hg] at this
    exact this
  | o' :: l, hs, i + 1, o, h => GuardsF.get hs.2 (i := i) (by simpa using h)
def chkF (l : List Oper) (N : Nat) (slots : List Nat) : Bool :=
  (List.range l.length).all fun i => match l[i]? with
    | some o => (match o.guard with | none => true | some (j, _) => o.after.any fun e => Region.binds .any e && Nat.beq e.on j) && (match o.dst with
      | some d => Nat.blt d N && !(slots.any fun t => Nat.beq t d) && ((List.range l.length).all fun j => Nat.beq j i || (match (l[j]?).bind (·.dst) with | some d' => !(Nat.beq d' d) | none => true))
      | none => false) && o.after.all fun e => !(Region.binds .any e) || Nat.blt e.on i
    | none => false
theorem chkF_spec {l : List Oper} {N : Nat} {slots : List Nat} (h : chkF l N slots = true) {i : Nat} {o : Oper} (ho : l[i]? = some o) :
    (∀ j want, o.guard = some (j, want) → (o.after.any fun e => Region.binds .any e && Nat.beq e.on j) = true) ∧ (∃ d, o.dst = some d ∧ Nat.blt d N = true ∧ (∀ t ∈ slots, t ≠ d) ∧ ∀ j o' d', l[j]? = some o' → o'.dst = some d' → j ≠ i → d' ≠ d) ∧ ∀ e ∈ o.after, Region.binds .any e = true → e.on < i := by
  have hi : i < l.length := (List.getElem?_eq_some_iff.1 ho).1
  have h1 := List.all_eq_true.1 h i (List.mem_range.2 hi)
  simp only [ho, Bool.and_eq_true] at h1
  obtain ⟨⟨h2, h3⟩, h4⟩ := h1
  refine ⟨fun j want hg => by rw [hg] at h2; exact h2, ?_, fun e he hb => ?_⟩
  · cases hd : o.dst with
    | none => rw [hd] at h3; cases h3
    | some d =>
      rw [hd] at h3
      simp only [Bool.and_eq_true] at h3
      obtain ⟨⟨h5, h6⟩, h7⟩ := h3
      refine ⟨d, rfl, h5, fun t ht e => ?_, fun j o' d' hj hd' hji e => ?_⟩
      · have : (slots.any fun t => Nat.beq t d) = true := List.any_eq_true.2 ⟨t, ht, by rw [e]; exact Nat.beq_refl d⟩
        rw [this] at h6; cases h6
      · have hjl : j < l.length := (List.getElem?_eq_some_iff.1 hj).1
        have h8 := List.all_eq_true.1 h7 j (List.mem_range.2 hjl)
        rcases Bool.or_eq_true_iff.1 h8 with h9 | h9
        · exact hji (Nat.eq_of_beq_eq_true h9)
        · rw [hj] at h9
          simp only [Option.bind_some, hd'] at h9
          rw [e, Nat.beq_refl] at h9; cases h9
  · have h5 := Array.all_eq_true'.1 h4 e he
    rcases Bool.or_eq_true_iff.1 h5 with h6 | h6
    · rw [hb] at h6; cases h6
    · simpa [Nat.blt_eq] using h6
section
variable {P : Program} {N : Nat} {D : List Deferred} {Q : Exit → Act → World → Prop} {f : Nat → Value} {s : List (Nat × Value)} {J : Cls}
structure InvF (N : Nat) (D : List Deferred) (J : Cls) (base : List (Nat × Value)) (l : List Oper) (Fs : List Fact) (listed : Array Bool) (a : Act) (w : World) : Prop where
  sz : listed.size = l.length
  ex : ∃ S, Rel N D S a ∧ AllIn S base ∧ J.p w ∧ ∀ (i : Nat) (o : Oper) (d : Nat) (F : Fact), l[i]? = some o → o.dst = some d → Fs[i]? = some F → listed.getD i false = true → F (S d) (hp w)
theorem allIn_put {S : Nat → Value} {d : Nat} {v : Value} : ∀ {base : List (Nat × Value)}, AllIn S base → (∀ t ∈ base.map Prod.fst, t ≠ d) → AllIn (fr S [(d, v)]) base
  | [], _, _ => trivial
  | (t, u) :: base, h, hd => by
    refine ⟨?_, allIn_put h.2 fun t' ht' => hd t' (by simp at ht' ⊢; exact .inr ht')⟩
    have hne : t ≠ d := hd t (by simp)
    have hb : Nat.beq t d = false := by
      cases hh : Nat.beq t d with
      | false => rfl
      | true => exact absurd (Nat.eq_of_beq_eq_true hh) hne
    simp only [fr, hb, cond_false]
    exact h.1
theorem wpAny_inv {base : List (Nat × Value)} {l : List Oper} {Fs : List Fact} (hB : chkF l N (base.map Prod.fst) = true) (hmono : ∀ F ∈ Fs, ∀ v Φ Ψ, Hp.le Φ Ψ → F v Φ → F v Ψ) (hst : StepsF P J base l Fs l Fs) (hgs : GuardsF Fs l)
    (hend : ∀ S a w, Rel N D S a → AllIn S base → J.p w → (∀ (i : Nat) (o : Oper) (d : Nat) (F : Fact), l[i]? = some o → o.dst = some d → Fs[i]? = some F → F (S d) (hp w)) → Q .normal a w) :
    ∀ (fuel : Nat) (listed : Array Bool) (a : Act) (w : World), ((List.range l.length).filter fun i => !listed.getD i true).length ≤ fuel → InvF N D J base l Fs listed a w → wpAny P .any l.toArray Q fuel listed a w := by
  have hall : ∀ listed a w, InvF N D J base l Fs listed a w → Region.ready .any l.toArray listed = [] → (∀ i, i < l.length → listed.getD i false = true) := by
    intro listed a w hI hr i
    induction i using Nat.strongRecOn with
    | _ i ih =>
      intro hi
      cases hl : listed.getD i false with
      | true => rfl
      | false =>
        exfalso
        have hsz := hI.sz
        have ho : l[i]? = some l[i] := List.getElem?_eq_getElem hi
        obtain ⟨_, _, haf⟩ := chkF_spec hB ho
        have hmem : i ∈ Region.ready .any l.toArray listed := mem_ready.2 ⟨by
          have hil : i < listed.size := by omega
          simp only [Array.getD_eq_getD_getElem?, Array.getElem?_eq_getElem hil, Option.getD_some] at hl ⊢; exact hl, l[i], (by rw [List.getElem?_toArray]; exact ho), fun e he hb => ih e.on (haf e he hb) (Nat.lt_trans (haf e he hb) hi)⟩
        rw [hr] at hmem; cases hmem
  have hfin : ∀ listed a w, InvF N D J base l Fs listed a w → Region.ready .any l.toArray listed = [] → Q .normal a w := by
    intro listed a w hI hr
    obtain ⟨S, h1, h2, h3, h4⟩ := hI.ex
    exact hend S a w h1 h2 h3 fun i o d F ho hd hF => h4 i o d F ho hd hF (hall listed a w hI hr i (List.getElem?_eq_some_iff.1 ho).1)
  intro fuel
  induction fuel with
  | zero =>
    intro listed a w hf hI
    have hr : Region.ready .any l.toArray listed = [] := by
      rw [List.eq_nil_iff_forall_not_mem]
      intro i hi
      obtain ⟨h1, o, ho, _⟩ := mem_ready.1 hi
      have hil : i < l.length := by have := (Array.getElem?_eq_some_iff.1 ho).1; simpa using this
      have hm : i ∈ (List.range l.length).filter fun i => !listed.getD i true := List.mem_filter.2 ⟨List.mem_range.2 hil, by rw [h1]; rfl⟩
      have := List.length_pos_of_mem hm
      omega
    exact ⟨hr, hfin listed a w hI hr⟩
  | succ fuel ih =>
    intro listed a w hf hI
    refine ⟨fun hr => hfin listed a w hI hr, fun i hi => ?_⟩
    obtain ⟨hun, o, ho, haf⟩ := mem_ready.1 hi
    have hol : l[i]? = some o := by simpa using ho
    have hil : i < l.length := (List.getElem?_eq_some_iff.1 hol).1
    obtain ⟨hg, ⟨d, hd, hdN, hdb, hdd⟩, _⟩ := chkF_spec hB hol
    obtain ⟨F, hF, hS⟩ := hst.get hol
    obtain ⟨S, h1, h2, h3, h4⟩ := hI.ex
    have hfF : F ∈ Fs := List.mem_of_getElem? hF
    unfold wpOp
    simp only [ho]
    have hwant : Region.wanted o (yielded l.toArray a.tmps) = true := by
      cases hgo : o.guard with
      | none => unfold Region.wanted; rw [hgo]
      | some jw =>
        obtain ⟨j, want⟩ := jw
        have hdone := dep_at (C := fun j => listed.getD j false = true) haf j (hg j want hgo)
        have hjl : j < l.length := by
          rcases Nat.lt_or_ge j listed.size with h' | h'
          · rw [← hI.sz]; exact h'
          · rw [Array.getD_eq_getD_getElem?, Array.getElem?_eq_none h'] at hdone; cases hdone
        have hoj : l[j]? = some l[j] := List.getElem?_eq_getElem hjl
        obtain ⟨_, ⟨gd, hgd, _⟩, _⟩ := chkF_spec hB hoj
        obtain ⟨Fj, hFj, _⟩ := hst.get hoj
        have hv := hgs.get hol hgo Fj hFj _ _ (h4 j _ gd Fj hoj hgd hFj hdone)
        have hyy := yielded_of (ops := l.toArray) (f := S) (s := []) (j := j) (gd := gd) (b := want) h1 (by simp [hoj, hgd]) hv
        unfold Region.wanted
        rw [hgo]
        simp [hyy]
    rw [if_pos hwant]
    refine .inl (upon_eff (R := fun v w' => Bel w.heap.size w w' ∧ F v (hp w')) ?_ ?_)
    · rw [h1.eval]
      refine hS S w h2 h3 fun e he hb => ?_
      unfold DepF
      cases hle : l[e.on]? with
      | none => simp
      | some o' =>
        cases hFe : Fs[e.on]? with
        | none => simp
        | some F' =>
          cases hd' : o'.dst with
          | none => simp [hd']
          | some d' => simp only [hd']; exact h4 e.on o' d' F' hle hd' hFe (haf e he hb)
    · rintro v w' ⟨hbel, hFv⟩
      rw [hd]
      refine ih _ _ _ ?_ ⟨by simp [hI.sz], fr S [(d, v)], h1.put (f := S) (s := []) hdN v, allIn_put h2 hdb, J.ext _ _ h3 hbel, fun j o' d' F' hj hd' hF' hlj => ?_⟩
      · have hisz : i < listed.size := by rw [hI.sz]; exact hil
        have := filter_lt' (p := fun i => !listed.getD i true) (q := fun j => !(listed.setIfInBounds i true).getD j true) (a := i) (l := List.range l.length) (fun x _ hx => by
          simp only [Array.getD_eq_getD_getElem?, Array.getElem?_setIfInBounds] at hx ⊢
          by_cases hxi : i = x
          · subst hxi; simp [hisz] at hx
          · simpa [hxi] using hx) (List.mem_range.2 hil) (by simp only [hun]; rfl) (by simp [Array.getD_eq_getD_getElem?, hisz])
        omega
      · by_cases hji : j = i
        · subst hji
          rw [hol] at hj
          obtain rfl := Option.some.inj hj
          rw [hd] at hd'
          obtain rfl := Option.some.inj hd'
          rw [hF] at hF'
          obtain rfl := Option.some.inj hF'
          rw [fr_head]; exact hFv
        · have hne := hdd j o' d' hj hd' hji
          have hb : Nat.beq d' d = false := by
            cases hh : Nat.beq d' d with
            | false => rfl
            | true => exact absurd (Nat.eq_of_beq_eq_true hh) hne
          have hlj' : listed.getD j false = true := by
            simp only [Array.getD_eq_getD_getElem?, Array.getElem?_setIfInBounds] at hlj ⊢
            simpa [Ne.symm hji] using hlj
          have h9 := h4 j o' d' F' hj hd' hF' hlj'
          have e9 : fr S [(d, v)] d' = S d' := by simp only [fr, hb, cond_false]
          rw [e9]
          exact hmono F' (List.mem_of_getElem? hF') _ _ _ (below_le hbel) h9
theorem AW.drawF {id : Nat} {l : List Oper} (base : List (Nat × Value)) (Fs : List Fact) (keep : List (Nat × Value)) (hm : P.follows .mixedOrders = true) (hB : chkF l N (base.map Prod.fst) = true) (hs : AllIn (fr f s) base)
    (hmono : ∀ F ∈ Fs, ∀ v Φ Ψ, Hp.le Φ Ψ → F v Φ → F v Ψ) (hst : StepsF P J base l Fs l Fs) (hgs : GuardsF Fs l)
    (hend : ∀ S Φ, AllIn S base → (∀ j, DepF l Fs S Φ j) → AllIn S keep) (k : ∀ f', Post N D Q .normal f' keep J) : AW P N D (.region id l.toArray true) Q f s J := fun a w ha hw => by
  refine wp_region_any hm ?_
  have hw' := J.ext w _ hw (Bel.drew _ w)
  refine wpAny_inv (N := N) (D := D) hB hmono hst hgs (fun S a' w' h1 h2 h3 h4 => ?_) _ _ a _ ?_ ⟨by simp, fr f s, ha, hs, hw', fun i o d F ho _ _ hl => ?_⟩
  · have hk := hend S (hp w') h2 fun j => by
      unfold DepF
      cases hle : l[j]? with
      | none => simp
      | some o' =>
        cases hFe : Fs[j]? with
        | none => simp
        | some F' =>
          cases hd' : o'.dst with
          | none => simp [hd']
          | some d' => simp only [hd']; exact h4 j o' d' F' hle hd' hFe
    exact k S a' w' (by rw [fr_of_allIn hk]; exact h1) h3
  · have := List.length_filter_le (fun i => !(Array.replicate l.toArray.size false).getD i true) (List.range l.length)
    simpa using this
  · simp [Array.getD_eq_getD_getElem?] at hl
    have hil : i < l.length := (List.getElem?_eq_some_iff.1 ho).1
    simp [Array.getElem?_replicate, hil] at hl
end
end Go.K
namespace Go.K
open Go Go.RowKit
section
variable {P : Program} {f : Nat → Value} {s : List (Nat × Value)} {J : Cls} {w : World}
theorem fq {o : Oper} {v : Value} (h : Qt P J f s o v) (hw : J.p w) : effX P (fun u w' => Bel w.heap.size w w' ∧ u = v) ((execOp (ev (fr f s)) o).run P w) := effX_mono (fun _ _ ⟨a, b⟩ => ⟨b, a⟩) (effX_of_quietX (h w hw))
theorem ext_le_hp {w w' : World} {Φ : Hp} (hb : Bel w.heap.size w w') (h : Hp.le Φ (hp w)) : Hp.le (Go.K.ext Φ w.heap.size w') (hp w') := fun b o e => by
  unfold Go.K.ext at e
  by_cases hlt : b < w.heap.size
  · rw [if_pos hlt] at e; exact (hb.block b hlt).trans (h b o e)
  · rw [if_neg hlt] at e; exact e
theorem fCall {F : Fact} {T : Value → Hp → Prop} {Φ : Hp} {x : Operand} {xs : Array Operand} {ts : Array TypeId} {k : FuncId} {first capt args : Array Value} {dst : Option Nat} {ty : TypeId} {pos : String} {af : Array Edge} {g : Option (Nat × Bool)} (hk : Own P k) (hx : ev (fr f s) x = .func (.func k) first capt) (ha : first.toList ++ xs.toList.map (ev (fr f s)) ++ capt.toList = args.toList)
    (h : Calls P k args w (RetS Φ w T)) (hΦ : Hp.le Φ (hp w)) (hT : ∀ v Ψ Ψ', Hp.le Ψ Ψ' → T v Ψ → F v Ψ') : effX P (fun v w' => Bel w.heap.size w w' ∧ F v (hp w')) ((execOp (ev (fr f s)) ⟨dst, .call { callee := .value x, args := xs, argTypes := ts }, ty, pos, af, g⟩).run P w) := by
  rw [run_call hk hx ha]
  exact h.mono fun e w' ⟨v, he, hb, hTv⟩ => ⟨v, he, hb, hT v _ _ (ext_le_hp hb hΦ) hTv⟩
theorem fCallQ {v : Value} {x : Operand} {xs : Array Operand} {ts : Array TypeId} {k : FuncId} {first capt args : Array Value} {dst : Option Nat} {ty : TypeId} {pos : String} {af : Array Edge} {g : Option (Nat × Bool)} (hk : Own P k) (hx : ev (fr f s) x = .func (.func k) first capt) (ha : first.toList ++ xs.toList.map (ev (fr f s)) ++ capt.toList = args.toList)
    (h : Calls P k args w fun e w' => e = .returned v ∧ Bel w.heap.size w w') : effX P (fun u w' => Bel w.heap.size w w' ∧ u = v) ((execOp (ev (fr f s)) ⟨dst, .call { callee := .value x, args := xs, argTypes := ts }, ty, pos, af, g⟩).run P w) := by
  rw [run_call hk hx ha]
  exact h.mono fun e w' ⟨he, hb⟩ => ⟨v, he, hb, rfl⟩
theorem fAs {o : Oper} {v v' : Value} (h : effX P (fun u w' => Bel w.heap.size w w' ∧ u = v) ((execOp (ev (fr f s)) o).run P w)) (e : v = v') : effX P (fun u w' => Bel w.heap.size w w' ∧ u = v') ((execOp (ev (fr f s)) o).run P w) := e ▸ h
theorem fBuild {F : Fact} {t e : TypeId} {len : Nat} {parts : Array (Nat × Operand)} {vals : List (Nat × Value)} {z : Value} {sz bytes : Nat} {cells : List Value} {dst : Option Nat} {ty : TypeId} {pos : String} {af : Array Edge} {g : Option (Nat × Bool)} (hT : P.underlying t = some (.slice e))
    (hi : (P.info? e).map (fun i => (i.zero, i.size, i.bytes)) = some (some z, sz, bytes)) (hv : parts.toList.map (fun p => (p.1, ev (fr f s) p.2)) = vals) (hpos : Nat.ble 1 (len * sz) = true) (hsmall : Nat.ble (len * sz) 16777216 = true)
    (hf : Instr.fill (fun i => some (i * sz, sz)) ((Array.range (len * sz)).map (z.cells[· % z.cells.size]!)) vals = some cells.toArray) (hl : cells.length = len * sz)
    (hF : ∀ v Ψ, RowS Ψ v e sz len cells → F v Ψ) : effX P (fun v w' => Bel w.heap.size w w' ∧ F v (hp w')) ((execOp (ev (fr f s)) ⟨dst, .buildSlice t len parts, ty, pos, af, g⟩).run P w) := by
  refine effX_mono (fun v w' ⟨b, hv', hw'⟩ => ?_) (e_buildSlice (B := ⟨w, hp w, []⟩) (Φ := hp w) (C := []) hT hi hv hpos hsmall hf hl w (StP.init w (hp w) (Hp.le_refl _) []))
  have hw' : StP ⟨w, hp w, []⟩ (hp w) _ w' := hw'
  refine ⟨hw'.below rfl, hF v _ ?_⟩
  rw [hv']
  exact hw'.sat _ (List.mem_cons_self ..)
end
end Go.K
