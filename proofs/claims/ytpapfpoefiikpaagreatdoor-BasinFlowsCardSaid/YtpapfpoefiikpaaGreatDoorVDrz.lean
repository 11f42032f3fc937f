/- Lemmas. Conditions: those of each theorem. -/
import Derived.Test.YtpapfpoefiikpaaGreatDoorVDrw
namespace Go.K
open Go Go.RowKit
variable {P : Program} {Pn : List PanicEntry → World → Prop} {N : Nat} {D : List Deferred} {ops : Array Oper} {md : Region.Mode} {Q : Exit → Act → World → Prop} {f : Nat → Value} {s : List (Nat × Value)} {J J0 : Cls}
def waitsD (md : Region.Mode) (ops : Array Oper) : Nat → Oper → Nat → Bool
  | 0, o, i => waitsOn md o i
  | d + 1, o, i => waitsOn md o i || o.after.any fun e => Region.binds md e && (match ops[e.on]? with | some o2 => waitsD md ops d o2 i | none => false)
def waitsZ (md : Region.Mode) (ops : Array Oper) (last : Nat) : Bool :=
  match ops[last]? with
  | none => true
  | some o => (List.range ops.size).all fun i => i == last || waitsD md ops 12 o i
theorem waitsD_listed {listed : Array Bool} (hcl : Closed md ops listed) {i : Nat} : ∀ (d : Nat) (o : Oper), (∀ e ∈ o.after, Region.binds md e = true → listed.getD e.on false = true) → waitsD md ops d o i = true → listed.getD i false = true
  | 0, o, ho, hw => by
    unfold waitsD waitsOn at hw
    obtain ⟨e, he, hb⟩ := Array.any_eq_true'.1 hw
    simp only [Bool.and_eq_true, beq_iff_eq] at hb
    have h3 := ho e he hb.1
    rw [hb.2] at h3; exact h3
  | d + 1, o, ho, hw => by
    unfold waitsD at hw
    rcases Bool.or_eq_true_iff.1 hw with h1 | h1
    · unfold waitsOn at h1
      obtain ⟨e, he, hb⟩ := Array.any_eq_true'.1 h1
      simp only [Bool.and_eq_true, beq_iff_eq] at hb
      have h3 := ho e he hb.1
      rw [hb.2] at h3; exact h3
    · obtain ⟨e, he, hb⟩ := Array.any_eq_true'.1 h1
      simp only [Bool.and_eq_true] at hb
      have h3 := ho e he hb.1
      cases h5 : ops[e.on]? with
      | none => rw [h5] at hb; exact absurd hb.2 (by simp)
      | some o2 =>
        rw [h5] at hb
        exact waitsD_listed hcl d o2 (hcl _ o2 h5 h3) hb.2
theorem not_ready_lastZ {last i : Nat} {listed : Array Bool} (hl : waitsZ md ops last = true) (hcl : Closed md ops listed) (hi : i ∈ Region.ready md ops listed) (hr : last ∈ Region.ready md ops listed) : i = last := by
  obtain ⟨hun, oi, hoi, _⟩ := mem_ready.1 hi
  obtain ⟨_, ol, hol, hall⟩ := mem_ready.1 hr
  unfold waitsZ at hl
  rw [hol] at hl
  have hil : i < ops.size := (Array.getElem?_eq_some_iff.1 hoi).1
  have h1 := List.all_eq_true.1 hl i (List.mem_range.2 hil)
  rcases Bool.or_eq_true_iff.1 h1 with h2 | h2
  · exact by simpa using h2
  · exact (not_listed hun (waitsD_listed hcl 12 ol hall h2)).elim
def lexZB (md : Region.Mode) (ops : Array Oper) (tg : List Tg) (ord : List Nat) : Bool := Region.noSelect ops && waitsZ md ops (lastOf ops tg) && tg.length == ops.size && ord.length == ops.size && (ord.all fun i => Nat.blt i ops.size) && endsIn tg ord ops.size && lexT md ops tg ord (Array.replicate ops.size false)
theorem wpAnyX_firstZ {last : Nat} {Q' : Act → World → Prop} {i : Nat} {oi : Oper} {v : Value} (hl : waitsZ md ops last = true) (hi : ops[i]? = some oi) (hsel : ∀ (j : Nat) (o : Oper) cs b, ops[j]? = some o → o.op ≠ .select cs b) :
    ∀ (fuel : Nat) (listed : Array Bool) (a : Act) (J : Cls), Closed md ops listed → (∀ w, J.p w → J0.p w) →
      (∀ j oj, ops[j]? = some oj → j ≠ i → listed.getD j true = false → (∀ e ∈ oj.after, Region.binds md e = true → e.on ≠ i) → oi.apart ops oj = true) →
      i ∈ Region.ready md ops listed → YieldsX P ops J0 oi v a →
      wpAnyX P Pn md ops J0 last Q' fuel (listed.setIfInBounds i true) (a.put oi.dst v) J → wpAnyX P Pn md ops J0 last Q' (fuel + 1) listed a J := by
  intro fuel
  induction fuel with
  | zero =>
    intro listed a J _ hJ _ hr hy H
    refine ⟨fun h => (by rw [h] at hr; cases hr), fun j hj => ?_⟩
    by_cases hji : j = i
    · subst hji; exact ⟨oi, hi, hy.opX hJ ⟨fun _ => hJ, H⟩⟩
    · have := ready_mono hj hji
      rw [H.1] at this
      cases this
  | succ fuel ih =>
    intro listed a J hcl hJ hfree hr hy H
    refine ⟨fun h => (by rw [h] at hr; cases hr), fun j hj => ?_⟩
    by_cases hji : j = i
    · subst hji; exact ⟨oi, hi, hy.opX hJ ⟨fun _ => hJ, H⟩⟩
    · obtain ⟨oj, hoj, h1⟩ := H.2 j (ready_mono hj hji)
      have hjl : j ≠ last := fun e => hji ((not_ready_lastZ hl hcl hr (e ▸ hj)).trans e.symm).symm
      obtain ⟨hjun, oj', hoj', hall⟩ := mem_ready.1 hj
      obtain rfl : oj' = oj := sJ (hoj'.symm.trans hoj)
      have hnot : ∀ e ∈ oj'.after, Region.binds md e = true → e.on ≠ i := fun e he hb heq => by
        have h1 := hall e he hb
        have h0 := (mem_ready.1 hr).1
        rw [heq] at h1
        rcases Nat.lt_or_ge i listed.size with h' | h'
        · simp [h'] at h0 h1; rw [h0] at h1; cases h1
        · simp [Array.getElem?_eq_none h'] at h1
      have h2 := opX_put (hfree j oj' hoj hji hjun hnot) (fun cs b => hsel i oi cs b hi) (fun cs b => hsel j oj' cs b hoj) hy h1
      have hfree' : ∀ k ok, ops[k]? = some ok → k ≠ i → (listed.setIfInBounds j true).getD k true = false →
          (∀ e ∈ ok.after, Region.binds md e = true → e.on ≠ i) → oi.apart ops ok = true := fun k ok hk hki hun hno => by
        refine hfree k ok hk hki ?_ hno
        by_cases hjk : j = k
        · subst hjk; exact hjun
        · rw [getD_set_ne true hjk] at hun; exact hun
      refine ⟨oj', hoj, opX_mono (fun a' J' h3 => ⟨fun _ => h3.2.1 hjl, ih (listed.setIfInBounds j true) a' J' (hcl.set hj) (h3.2.1 hjl) hfree' (ready_mono hr (Ne.symm hji)) h3.1 ?_⟩) h2⟩
      rw [Array.setIfInBounds_comm _ _ hji]
      exact h3.2.2

theorem wpAnyX_lexZ {last : Nat} {Q' : Act → World → Prop} (hs : Region.noSelect ops = true) (hw : waitsZ md ops last = true) : ∀ (tg : List Tg) (l : List Oper) (ord : List Nat) (listed : Array Bool) (a : Act) (J : Cls), Closed md ops listed → Along ops ord l →
    tg.length = l.length → (Tg.lastE tg = true → ord.getLast? = some last) →
    lexT md ops tg ord listed = true → HW P Pn ops J0 Q' tg l a J → wpAnyX P Pn md ops J0 last Q' l.length listed a J
  | tg, [], [], listed, a, J, hcl, _, _, _, hB, h => by
    have h' : ∀ w, J.p w → Q' a w := by cases tg with | nil => exact h | cons b t => cases b <;> cases t <;> exact h
    exact ⟨by cases tg with | nil => simpa [lexT] using hB | cons b t => cases b <;> cases t <;> simpa [lexT] using hB, h'⟩
  | .q :: tg, o :: l, k :: r, listed, a, J, hcl, hl, htl, hlast, hB, h => by
    have h0 : ops[k]? = some o := hl.1
    simp only [lexT, Bool.and_eq_true] at hB
    obtain ⟨⟨hr, hf⟩, hB'⟩ := hB
    obtain ⟨hJ, v, hy, hK⟩ := h
    refine wpAnyX_firstZ hw h0 (Region.noSelect_spec hs) l.length listed a J hcl hJ (Region.free_spec h0 hf) (by simpa using hr) hy
      (wpAnyX_lexZ hs hw tg l r _ _ J (hcl.set (by simpa using hr)) hl.2 (by simpa using htl) (fun hg => ?_) hB' hK)
    have := hlast (Tg.lastE_cons hg)
    cases r with
    | nil =>
      cases l with
      | nil => have : tg = [] := by cases tg with | nil => rfl | cons b t => simp at htl
               subst this; cases hg
      | cons x y => exact absurd hl.2 (by simp [Along])
    | cons x y => rw [List.getLast?_cons_cons] at this; exact this
  | .e :: tg, o :: l, k :: r, listed, a, J, hcl, hl, htl, hlast, hB, h => by
    have h0 : ops[k]? = some o := hl.1
    simp only [lexT, Bool.and_eq_true] at hB
    obtain ⟨hr, hB'⟩ := hB
    have hr' : Region.ready md ops listed = [k] := by simpa using hr
    have hlast' : Tg.lastE tg = true → r.getLast? = some last := fun hg => by
      have := hlast (Tg.lastE_cons hg)
      cases r with
      | nil =>
        cases l with
        | nil => have : tg = [] := by cases tg with | nil => rfl | cons b t => simp at htl
                 subst this; cases hg
        | cons x y => exact absurd hl.2 (by simp [Along])
      | cons x y => rw [List.getLast?_cons_cons] at this; exact this
    show wpAnyX P Pn md ops J0 last Q' (l.length + 1) listed a J
    refine ⟨fun he => by (rw [hr'] at he; cases he), fun i hi => ?_⟩
    rw [hr'] at hi
    obtain rfl : i = k := by simpa using hi
    refine ⟨o, h0, opX_mono (fun a' J' h3 => ⟨fun hne => h3.1 (fun hl0 => ?_), wpAnyX_lexZ hs hw tg l r _ a' J' (hcl.set (by rw [hr']; exact List.mem_singleton.2 rfl)) hl.2 (by simpa using htl) hlast' hB' h3.2⟩) h⟩
    subst hl0
    have ht0 : tg = [] := by cases tg with | nil => rfl | cons b t => simp at htl
    subst ht0
    have hr0 : r = [] := by cases r with | nil => rfl | cons x y => exact absurd hl.2 (by simp [Along])
    subst hr0
    exact hne (by have := hlast rfl; simpa using this)
  | .p :: t2 :: tg, o1 :: o2 :: l, k :: k2 :: r, listed, a, J, hcl, hl, htl, hlast, hB, h => by
    have h0 : ops[k]? = some o1 := hl.1
    have h1 : ops[k2]? = some o2 := hl.2.1
    simp only [lexT, Bool.and_eq_true, beq_iff_eq] at hB
    obtain ⟨⟨⟨⟨hr, hr1⟩, hr2⟩, hlt⟩, hB'⟩ := hB
    have hne : k ≠ k2 := by have := Nat.le_of_ble_eq_true hlt; omega
    have htl' : tg.length = l.length := by simpa using htl
    have hlast' : Tg.lastE tg = true → r.getLast? = some last := fun hg => by
      have := hlast (Tg.lastE_cons (Tg.lastE_cons hg))
      cases r with
      | nil =>
        cases l with
        | nil => have : tg = [] := by cases tg with | nil => rfl | cons b t => simp at htl'
                 subst this; cases hg
        | cons x y => exact absurd hl.2.2 (by simp [Along])
      | cons x y => rw [List.getLast?_cons_cons, List.getLast?_cons_cons] at this; exact this
    show wpAnyX P Pn md ops J0 last Q' (l.length + 1 + 1) listed a J
    refine ⟨fun he => by (rw [hr] at he; cases he), fun i hi => ?_⟩
    rw [hr] at hi
    rcases List.mem_cons.1 hi with rfl | hi
    · refine ⟨o1, h0, opX_mono (fun a' J' h3 => ⟨fun _ => h3.1, fun he => by (rw [hr1] at he; cases he), fun i' hi' => ?_⟩) h.1⟩
      rw [hr1] at hi'
      obtain rfl : i' = k2 := by simpa using hi'
      exact ⟨o2, h1, opX_mono (fun a'' J'' h4 => ⟨fun _ => h4.1, wpAnyX_lexZ hs hw tg l r _ a'' J'' ((hcl.set (by rw [hr]; exact List.mem_cons_self ..)).set (by rw [hr1]; exact List.mem_singleton.2 rfl)) hl.2.2 htl' hlast' hB' h4.2⟩) h3.2⟩
    · obtain rfl : i = k2 := by simpa using hi
      refine ⟨o2, h1, opX_mono (fun a' J' h3 => ⟨fun _ => h3.1, fun he => by (rw [hr2] at he; cases he), fun i' hi' => ?_⟩) h.2⟩
      rw [hr2] at hi'
      obtain rfl : i' = k := by simpa using hi'
      refine ⟨o1, h0, opX_mono (fun a'' J'' h4 => ⟨fun _ => h4.1, ?_⟩) h3.2⟩
      rw [Array.setIfInBounds_comm _ _ (Ne.symm hne)]
      exact wpAnyX_lexZ hs hw tg l r _ a'' J'' ((hcl.set (by rw [hr]; exact List.mem_cons_self ..)).set (by rw [hr1]; exact List.mem_singleton.2 rfl)) hl.2.2 htl' hlast' hB' h4.2
  | [.p], o :: l, k :: r, listed, a, J, hcl, hl, htl, hlast, hB, h => by simp [lexT] at hB
  | .p :: t2 :: tg, [o], k :: r, listed, a, J, hcl, hl, htl, hlast, hB, h => by simp at htl
  | .p :: t2 :: tg, o1 :: o2 :: l, [k], listed, a, J, hcl, hl, htl, hlast, hB, h => by simp [lexT] at hB
  | [], o :: l, k :: r, listed, a, J, hcl, hl, htl, hlast, hB, h => by simp [lexT] at hB
  | _, [], k :: r, _, _, _, _, hl, _, _, _, _ => by simp [Along] at hl
  | _, o :: l, [], _, _, _, _, hl, _, _, _, _ => by simp [Along] at hl

theorem DW.anyZ [hP : PanQ D Q Pn] {l : List Oper} (tg : List Tg) (ord : List Nat) (hB : lexZB .any l.toArray tg ord = true) (h : DW P Pn N D l.toArray J0 Q tg (pickOps l ord) f s J) : ∀ a w, Rel N D (fr f s) a → J.p w → wpAny P .any l.toArray Q l.toArray.size (Array.replicate l.toArray.size false) a { w with drawn := w.drawn + 1 } := fun a w ha hw => by
  simp only [lexZB, Bool.and_eq_true] at hB
  obtain ⟨⟨⟨⟨⟨⟨hB1, hB2⟩, hB3⟩, hB5⟩, hB6⟩, hB7⟩, hB4⟩ := hB
  have hB6' : (ord.all fun i => Nat.blt i l.length) = true := by simpa using hB6
  have hpl := pick_len (l := l) ord hB6'
  have hol : ord.length = l.length := by simpa using hB5
  have hlen : tg.length = (pickOps l ord).length := by rw [hpl, hol]; simpa using hB3
  have h1 := wpAnyX_lexZ (P := P) (J0 := J0) (md := .any) (last := lastOf l.toArray tg) (Q' := Q .normal) hB1 hB2 tg (pickOps l ord) ord (Array.replicate l.toArray.size false) a J (Closed.init _) (along_pick ord hB6') hlen (fun hg => by
    unfold endsIn at hB7
    rw [hg] at hB7
    unfold lastOf
    rw [if_pos hg]
    simpa using hB7) hB4 (h a ha)
  rw [hpl, hol] at h1
  exact wpAny_of_X (Pn := Pn) (Q' := Q .normal) (fun _ _ h => h) _ _ a J ha.defers (by simpa using h1) _ (J.ext w _ hw (Bel.drew _ _))

theorem AW.drawZ [hP : PanQ D Q Pn] {id : Nat} {l : List Oper} (tg : List Tg) (ord : List Nat) (hm : P.follows .mixedOrders = true) (hB : lexZB .any l.toArray tg ord = true) (h : DW P Pn N D l.toArray J0 Q tg (pickOps l ord) f s J) : AW P N D (.region id l.toArray true) Q f s J := fun a w ha hw =>
  wp_region_any hm (DW.anyZ tg ord hB h a w ha hw)

end Go.K
