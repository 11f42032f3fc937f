/- Lemmas. Conditions: those of each theorem. -/
import Derived.Test.YtjmeeofdffdpnaaGreatDoorMDrz
import Derived.Test.YtjmeeofdffdpnaaGreatDoorMDfq
namespace Go.K
open Go Go.RowKit
variable {P : Program} {Pn : List PanicEntry → World → Prop} {N : Nat} {D : List Deferred} {ops : Array Oper} {md : Region.Mode} {Q : Exit → Act → World → Prop} {f : Nat → Value} {s : List (Nat × Value)} {J J0 : Cls}
class PanK (D : List Deferred) (sl : Nat) (v : Value) (Q : Exit → Act → World → Prop) (Pn : outParam (List PanicEntry → World → Prop)) : Prop where
  h : ∀ c a w, a.defers = D → a.tmps.getD sl undef = v → Pn c w → Q (.panic c) a w
instance {sl : Nat} {v : Value} [h : PanK D sl v Q Pn] {K : Act → World → Prop} : PanK D sl v (Exit.then K Q) Pn := ⟨fun c a w hd hs hp => h.h c a w hd hs hp⟩
instance {sl : Nat} {v : Value} [h : PanK D sl v Q Pn] {id : Nat} : PanK D sl v (Exit.inBlock id Q) Pn := ⟨fun c a w hd hs hp => h.h c a w hd hs hp⟩
theorem put_keep {sl : Nat} {a : Act} {d : Option Nat} {v u : Value} (hd : d ≠ some sl) (h : a.tmps.getD sl undef = v) : (a.put d u).tmps.getD sl undef = v := by
  cases d with
  | none => exact h
  | some d =>
    have hne : d ≠ sl := fun e => hd (by rw [e])
    show (a.tmps.setIfInBounds d u).getD sl undef = v
    rw [Array.getD_eq_getD_getElem?, Array.getElem?_setIfInBounds, if_neg hne, ← Array.getD_eq_getD_getElem?]
    exact h
theorem wpAny_of_XK {sl : Nat} {v : Value} [hP : PanK D sl v Q Pn] {last : Nat} {Q' : Act → World → Prop} (hsl : ∀ (i : Nat) (o : Oper), ops[i]? = some o → o.dst ≠ some sl) (hQ : ∀ a w, Q' a w → Q .normal a w) : ∀ (fuel : Nat) (listed : Array Bool) (a : Act) (J : Cls), a.defers = D → a.tmps.getD sl undef = v → wpAnyX P Pn md ops J0 last Q' fuel listed a J → ∀ w, J.p w → wpAny P md ops Q fuel listed a w
  | 0, _, _, _, _, _, h, w, hw => ⟨h.1, hQ _ _ (h.2 w hw)⟩
  | fuel + 1, _, a, J, hd, hs, h, w, hw => ⟨fun h0 => hQ _ _ (h.1 h0 w hw), fun i hi => by
      obtain ⟨o, ho, hop⟩ := h.2 i hi
      unfold wpOp
      simp only [ho]
      unfold opX at hop
      split
      · rename_i hwt
        rw [if_pos hwt] at hop
        exact .inl (upon_eff (hop w hw) (fun v w' ⟨J', hp, hk⟩ => wpAny_of_XK hsl hQ fuel _ _ J' ((put_defers ..).trans hd) (put_keep (hsl i o ho) hs) hk.2 w' hp) (fun c w' hc => hP.h c a w' hd hs hc))
      · rename_i hwt
        rw [if_neg hwt] at hop
        exact wpAny_of_XK hsl hQ fuel _ _ J ((put_defers ..).trans hd) (put_keep (hsl i o ho) hs) hop.2 w hw⟩
theorem AW.drawK {sl : Nat} {v : Value} [hP : PanK D sl v Q Pn] {id : Nat} {l : List Oper} (tg : List Tg) (ord : List Nat) (hm : P.follows .mixedOrders = true) (hB : lexZB .any l.toArray tg ord = true) (hsl : (l.all fun o => match o.dst with | some d => !(Nat.beq d sl) | none => true) = true) (hv : fr f s sl = v) (h : DW P Pn N D l.toArray J0 Q tg (pickOps l ord) f s J) : AW P N D (.region id l.toArray true) Q f s J := fun a w ha hw => by
  refine wp_region_any hm ?_
  simp only [lexZB, Bool.and_eq_true] at hB
  obtain ⟨⟨⟨⟨⟨⟨hB1, hB2⟩, hB3⟩, hB5⟩, hB6⟩, hB7⟩, hB4⟩ := hB
  have hB6' : (ord.all fun i => Nat.blt i l.length) = true := by simpa using hB6
  have hpl := pick_len (l := l) ord hB6'
  have hol : ord.length = l.length := by simpa using hB5
  have hlen : tg.length = (pickOps l ord).length := by rw [hpl, hol]; simpa using hB3
  have h1 := wpAnyX_lexZ (P := P) (J0 := J0) (md := .any) (last := lastOf l.toArray tg) (Q' := Q .normal) hB1 hB2 tg (pickOps l ord) ord (Array.replicate l.toArray.size false) a J (Closed.init _) (along_pick ord hB6') hlen (fun hg => by
    unfold endsIn at hB7
    rw [hg] at hB7
    unfold lastOf
    rw [if_pos hg]
    simpa using hB7) hB4 (h a ha)
  rw [hpl, hol] at h1
  refine wpAny_of_XK (Pn := Pn) (Q' := Q .normal) (sl := sl) (v := v) (fun i o ho => ?_) (fun _ _ h => h) _ _ a J ha.defers (by rw [ha.get, hv]) (by simpa using h1) _ (J.ext w _ hw (Bel.drew _ _))
  have := List.all_eq_true.1 hsl o (List.mem_of_getElem? (by simpa using ho))
  intro hd
  rw [hd] at this
  simp at this
theorem DW.skp {d j gd : Nat} {want b : Bool} {op : Op} {ty : TypeId} {pos : String} {af : Array Edge} {tg : List Tg} {rest : List Oper}
    (hJ : rest ≠ [] → ∀ w, J.p w → J0.p w) (hd : Nat.blt d N = true) (hy : (ops[j]?).bind (·.dst) = some gd) (hb : fr f s gd = .bool b) (hn : b ≠ want)
    (k : DW P Pn N D ops J0 Q tg rest f ((d, undef) :: s) J) :
    DW P Pn N D ops J0 Q (.e :: tg) (⟨some d, op, ty, pos, af, some (j, want)⟩ :: rest) f s J := fun a ha => by
  have hyy := yielded_of (ops := ops) ha hy hb
  have hwant : Region.wanted ⟨some d, op, ty, pos, af, some (j, want)⟩ (yielded ops a.tmps) = false := by simp [Region.wanted, hyy, hn]
  show opX P Pn ops _ _ a J
  unfold opX
  rw [if_neg (by rw [hwant]; simp)]
  exact ⟨fun hr => hJ hr, k _ (ha.put hd _)⟩
def Chunk.som (b : Nat) (T : TypeId) (ps : List (Nat × Value)) : Chunk where
  fp := [b]
  sat := fun Φ => ∃ cs : Array Value, Φ b = some (.cells cs T (0, 0)) ∧ ∀ p ∈ ps, cs[p.1]? = some p.2
  loc := fun Φ Ψ h ⟨cs, h1, h2⟩ => ⟨cs, (h b (by simp)).trans h1, h2⟩
  dom := fun Φ ⟨cs, h1, _⟩ b' hb => by obtain rfl : b' = b := by simpa using hb
                                       rw [h1]; simp
section
variable {B : Bs} {Φ : Hp} {C : List Chunk}
theorem Cell.som {b T o : Nat} {v : Value} {ps : List (Nat × Value)} (i : Nat) (hi : C[i]? = some (.som b T ps)) (hv : (o, v) ∈ ps) : Cell (St B Φ C) ⟨b, o, none⟩ v := fun w hw => by
  obtain ⟨cs, h1, h2⟩ := hw.sat _ (List.mem_of_getElem? hi)
  rw [cell_of_hp h1]; exact h2 _ hv
theorem StP.toSom {b T : Nat} {cs : List Value} {ps : List (Nat × Value)} {w : World} (h : StP B Φ (.blk b T cs :: C) w) (hp : ∀ p ∈ ps, cs[p.1]? = some p.2) : StP B Φ (.som b T ps :: C) w := { h with
  sat := fun c hc => by
    rcases List.mem_cons.1 hc with rfl | hc
    · exact ⟨cs.toArray, h.sat _ (List.mem_cons_self ..), fun p hp' => by simpa using hp p hp'⟩
    · exact h.sat c (List.mem_cons_of_mem _ hc)
  sep := List.pairwise_cons.2 ⟨fun d hd => (List.pairwise_cons.1 h.sep).1 d hd, (List.pairwise_cons.1 h.sep).2⟩
  away := h.away }
end
end Go.K
