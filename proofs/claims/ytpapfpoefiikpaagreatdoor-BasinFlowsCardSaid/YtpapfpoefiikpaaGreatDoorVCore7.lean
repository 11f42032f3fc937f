/- Lemmas. Conditions: those of each theorem. -/
import Derived.Test.YtpapfpoefiikpaaGreatDoorVCore6
namespace Go.K
open Go Go.RowKit
variable {af : Array Edge} {pos : String} {ty : TypeId}
inductive Tr where
  | nil
  | q (k : Nat) (t : Tr)
  | e (k : Nat) (t : Tr)
  | f (k k2 : Nat) (t1 t2 : Tr)
inductive TrO where
  | nil
  | q (o : Oper) (t : TrO)
  | e (o : Oper) (t : TrO)
  | f (o1 o2 : Oper) (t1 t2 : TrO)
def Tr.isNil : Tr → Bool
  | .nil => true
  | _ => false
def Tr.depth : Tr → Nat
  | .nil => 0
  | .q _ t => t.depth + 1
  | .e _ t => t.depth + 1
  | .f _ _ t1 t2 => max t1.depth t2.depth + 1
def Tr.lastE : Tr → Bool
  | .nil => false
  | .e _ .nil => true
  | .q _ t => t.lastE
  | .e _ t => t.lastE
  | .f _ _ t _ => t.lastE
def pickT (l : List Oper) : Tr → TrO
  | .nil => .nil
  | .q k t => match l[k]? with
    | some o => .q o (pickT l t)
    | none => .nil
  | .e k t => match l[k]? with
    | some o => .e o (pickT l t)
    | none => .nil
  | .f k k2 t1 t2 => match l[k]? with
    | some o1 => match l[k2]? with
      | some o2 => .f o1 o2 (pickT l t1) (pickT l t2)
      | none => .nil
    | none => .nil
section
variable {P : Program} {Pn : List PanicEntry → World → Prop} {N : Nat} {D : List Deferred} {ops : Array Oper} {md : Region.Mode} {Q : Exit → Act → World → Prop} {f : Nat → Value} {s : List (Nat × Value)} {J J0 : Cls}
def HT (P : Program) (Pn : List PanicEntry → World → Prop) (ops : Array Oper) (J0 : Cls) (Q : Act → World → Prop) : TrO → Act → Cls → Prop
  | .nil, a, J => ∀ w, J.p w → Q a w
  | .q o t, a, J => (∀ w, J.p w → J0.p w) ∧ ∃ v, YieldsX P ops J0 o v a ∧ HT P Pn ops J0 Q t (a.put o.dst v) J
  | .e o t, a, J => opX P Pn ops o (fun a' J' => (t ≠ .nil → ∀ w, J'.p w → J0.p w) ∧ HT P Pn ops J0 Q t a' J') a J
  | .f o1 o2 t1 t2, a, J => opX P Pn ops o1 (fun a' J' => (∀ w, J'.p w → J0.p w) ∧ HT P Pn ops J0 Q t1 a' J') a J ∧ opX P Pn ops o2 (fun a' J' => (∀ w, J'.p w → J0.p w) ∧ HT P Pn ops J0 Q t2 a' J') a J
def chkT (md : Region.Mode) (ops : Array Oper) (last : Nat) : Tr → Array Bool → Bool
  | .nil, listed => (Region.ready md ops listed).isEmpty
  | .q k t, listed => (Region.ready md ops listed).contains k && Region.free md ops listed k && Nat.blt k ops.size && chkT md ops last t (listed.setIfInBounds k true)
  | .e k t, listed => (Region.ready md ops listed) == [k] && (!t.isNil || k == last) && Nat.blt k ops.size && chkT md ops last t (listed.setIfInBounds k true)
  | .f k k2 t1 t2, listed => (Region.ready md ops listed) == [k, k2] && Nat.blt k ops.size && Nat.blt k2 ops.size && chkT md ops last t1 (listed.setIfInBounds k true) && chkT md ops last t2 (listed.setIfInBounds k2 true)
theorem pick_nil {l : List Oper} {t : Tr} (h : t.isNil = false) {last : Nat} {listed : Array Bool} (hc : chkT md l.toArray last t listed = true) : pickT l t ≠ .nil := by
  have key : ∀ k, Nat.blt k l.toArray.size = true → ∃ o, l[k]? = some o := fun k hk => by
    have : k < l.length := by simpa [Nat.blt_eq] using hk
    exact ⟨l[k], List.getElem?_eq_getElem this⟩
  cases t with
  | nil => cases h
  | q k t =>
    simp only [chkT, Bool.and_eq_true] at hc
    obtain ⟨o, ho⟩ := key k hc.1.2
    simp [pickT, ho]
  | e k t =>
    simp only [chkT, Bool.and_eq_true] at hc
    obtain ⟨o, ho⟩ := key k hc.1.2
    simp [pickT, ho]
  | f k k2 t1 t2 =>
    simp only [chkT, Bool.and_eq_true] at hc
    obtain ⟨o, ho⟩ := key k hc.1.1.1.2
    obtain ⟨o2, ho2⟩ := key k2 hc.1.1.2
    simp [pickT, ho, ho2]
theorem wpAnyX_tree {l : List Oper} {last : Nat} {Q' : Act → World → Prop} (hs : Region.noSelect l.toArray = true) (hw : waitsAll md l.toArray last = true) : ∀ (t : Tr) (fuel : Nat) (listed : Array Bool) (a : Act) (J : Cls), t.depth ≤ fuel →
    chkT md l.toArray last t listed = true → HT P Pn l.toArray J0 Q' (pickT l t) a J → wpAnyX P Pn md l.toArray J0 last Q' fuel listed a J := by
  have key : ∀ k, Nat.blt k l.toArray.size = true → ∃ o, l[k]? = some o := fun k hk => by
    have : k < l.length := by simpa [Nat.blt_eq] using hk
    exact ⟨l[k], List.getElem?_eq_getElem this⟩
  intro t
  induction t with
  | nil =>
    intro fuel listed a J _ hc h
    have hr : Region.ready md l.toArray listed = [] := by simpa [chkT] using hc
    cases fuel with
    | zero => exact ⟨hr, h⟩
    | succ fuel => exact ⟨fun _ => h, fun i hi => (by rw [hr] at hi; cases hi)⟩
  | q k t ih =>
    intro fuel listed a J hd hc h
    simp only [chkT, Bool.and_eq_true] at hc
    obtain ⟨⟨⟨hr, hf⟩, hk⟩, hc'⟩ := hc
    obtain ⟨o, ho⟩ := key k hk
    simp only [pickT, ho] at h
    obtain ⟨hJ, v, hy, hK⟩ := h
    obtain ⟨fuel, rfl⟩ : ∃ n, fuel = n + 1 := ⟨fuel - 1, by simp only [Tr.depth] at hd; omega⟩
    have h0 : l.toArray[k]? = some o := by simpa using ho
    exact wpAnyX_first hw h0 (Region.noSelect_spec hs) fuel listed a J hJ (Region.free_spec h0 hf) (by simpa using hr) hy (ih fuel _ _ J (by simp only [Tr.depth] at hd; omega) hc' hK)
  | e k t ih =>
    intro fuel listed a J hd hc h
    have hcc := hc
    simp only [chkT, Bool.and_eq_true] at hc
    obtain ⟨⟨⟨hr, hl⟩, hk⟩, hc'⟩ := hc
    obtain ⟨o, ho⟩ := key k hk
    simp only [pickT, ho] at h
    obtain ⟨fuel, rfl⟩ : ∃ n, fuel = n + 1 := ⟨fuel - 1, by simp only [Tr.depth] at hd; omega⟩
    have h0 : l.toArray[k]? = some o := by simpa using ho
    have hr' : Region.ready md l.toArray listed = [k] := by simpa using hr
    refine ⟨fun he => (by rw [hr'] at he; cases he), fun i hi => ?_⟩
    rw [hr'] at hi
    obtain rfl : i = k := by simpa using hi
    refine ⟨o, h0, opX_mono (fun a' J' h3 => ⟨fun hne => h3.1 ?_, ih fuel _ a' J' (by simp only [Tr.depth] at hd; omega) hc' h3.2⟩) h⟩
    cases hn : t.isNil with
    | true => rw [hn] at hl; exact absurd (by simpa using hl) hne
    | false => exact pick_nil hn hc'
  | f k k2 t1 t2 ih1 ih2 =>
    intro fuel listed a J hd hc h
    simp only [chkT, Bool.and_eq_true] at hc
    obtain ⟨⟨⟨⟨hr, hk⟩, hk2⟩, hc1⟩, hc2⟩ := hc
    obtain ⟨o, ho⟩ := key k hk
    obtain ⟨o2, ho2⟩ := key k2 hk2
    simp only [pickT, ho, ho2] at h
    obtain ⟨fuel, rfl⟩ : ∃ n, fuel = n + 1 := ⟨fuel - 1, by simp only [Tr.depth] at hd; omega⟩
    have h0 : l.toArray[k]? = some o := by simpa using ho
    have h02 : l.toArray[k2]? = some o2 := by simpa using ho2
    have hr' : Region.ready md l.toArray listed = [k, k2] := by simpa using hr
    simp only [Tr.depth] at hd
    refine ⟨fun he => (by rw [hr'] at he; cases he), fun i hi => ?_⟩
    rw [hr'] at hi
    rcases List.mem_cons.1 hi with rfl | hi
    · exact ⟨o, h0, opX_mono (fun a' J' h3 => ⟨fun _ => h3.1, ih1 fuel _ a' J' (by omega) hc1 h3.2⟩) h.1⟩
    · obtain rfl : i = k2 := by simpa using hi
      exact ⟨o2, h02, opX_mono (fun a' J' h3 => ⟨fun _ => h3.1, ih2 fuel _ a' J' (by omega) hc2 h3.2⟩) h.2⟩
def Joined (N : Nat) (D : List Deferred) (I : List (Nat × Value) → Cls → Prop) (a : Act) (w : World) : Prop := ∃ f s J, I s J ∧ Rel N D (fr f s) a ∧ J.p w
def DT (P : Program) (Pn : List PanicEntry → World → Prop) (N : Nat) (D : List Deferred) (ops : Array Oper) (J0 : Cls) (I : List (Nat × Value) → Cls → Prop) (t : TrO) (f : Nat → Value) (s : List (Nat × Value)) (J : Cls) : Prop :=
  ∀ a, Rel N D (fr f s) a → HT P Pn ops J0 (Joined N D I) t a J
variable {I : List (Nat × Value) → Cls → Prop} {t t1 t2 : TrO}
theorem DT.nil {s' : List (Nat × Value)} {J' : Cls} (hI : I s' J') (hs : AllIn (fr f s) s') (hJ : ∀ w, J.p w → J'.p w) : DT P Pn N D ops J0 I .nil f s J := fun a ha w hw => ⟨fr f s, s', J', hI, by rw [fr_of_allIn hs]; exact ha, hJ w hw⟩
theorem DT.q {d : Nat} {op : Op} {v : Value}
    (hJ : ∀ w, J.p w → J0.p w) (hd : Nat.blt d N = true) (hq : Qt P J0 f s ⟨some d, op, ty, pos, af, none⟩ v) (k : DT P Pn N D ops J0 I t f ((d, v) :: s) J) :
    DT P Pn N D ops J0 I (.q ⟨some d, op, ty, pos, af, none⟩ t) f s J := fun a ha =>
  ⟨hJ, v, .inl ⟨rfl, fun w hw => by rw [ha.eval]; exact hq w hw⟩, k _ (ha.put hd v)⟩
theorem opX_eff {X : Type} (V : X → Value) (J' : X → Cls) {d : Nat} {op : Op} {g : Option (Nat × Bool)} {a : Act} {K : Act → Cls → Prop} (ha : Rel N D (fr f s) a) (hg : GOn ops (fr f s) g)
    (hd : Nat.blt d N = true) (h : ∀ w, J.p w → effX P Pn (fun v w' => ∃ x, v = V x ∧ (J' x).p w') ((execOp (ev (fr f s)) ⟨some d, op, ty, pos, af, g⟩).run P w))
    (k : ∀ x a', Rel N D (fr f ((d, V x) :: s)) a' → K a' (J' x)) : opX P Pn ops ⟨some d, op, ty, pos, af, g⟩ K a J := by
  unfold opX
  rw [if_pos (wanted_on ha hg)]
  intro w hw
  rw [ha.eval]
  exact effX_mono (fun v w' ⟨x, hv, hp⟩ => ⟨J' x, hp, by subst hv; exact k x _ (ha.put hd _)⟩) (h w hw)
theorem DT.eff {X : Type} (V : X → Value) (J' : X → Cls) {d : Nat} {op : Op} {af : Array Edge}
    (hJ : t ≠ .nil → ∀ x w, (J' x).p w → J0.p w) (hd : Nat.blt d N = true) (h : ∀ w, J.p w → effX P Pn (fun v w' => ∃ x, v = V x ∧ (J' x).p w') ((execOp (ev (fr f s)) ⟨some d, op, ty, pos, af, none⟩).run P w))
    (k : ∀ x, DT P Pn N D ops J0 I t f ((d, V x) :: s) (J' x)) :
    DT P Pn N D ops J0 I (.e ⟨some d, op, ty, pos, af, none⟩ t) f s J := fun _ ha =>
  opX_eff V J' ha trivial hd h fun x a' ha' => ⟨fun hr => hJ hr x, k x a' ha'⟩
theorem DT.effn {J' : Cls} {op : Op} {af : Array Edge}
    (hJ : t ≠ .nil → ∀ w, J'.p w → J0.p w) (h : ∀ w, J.p w → effX P Pn (fun _ w' => J'.p w') ((execOp (ev (fr f s)) ⟨none, op, ty, pos, af, none⟩).run P w))
    (k : DT P Pn N D ops J0 I t f s J') :
    DT P Pn N D ops J0 I (.e ⟨none, op, ty, pos, af, none⟩ t) f s J := fun a ha => by
  show opX P Pn ops _ _ a J
  unfold opX
  rw [if_pos (show Region.wanted _ _ = true from rfl)]
  intro w hw
  rw [ha.eval]
  exact effX_mono (fun v w' hp => ⟨J', hp, hJ, k _ ha⟩) (h w hw)
theorem DT.fork {X Y : Type} (V : X → Value) (U : Y → Value) (Ji : X → Cls) (Jj : Y → Cls) {d1 d2 : Nat} {op1 op2 : Op} {ty1 ty2 : TypeId} {pos1 pos2 : String} {af1 af2 : Array Edge} {g1 g2 : Option (Nat × Bool)}
    (hd1 : Nat.blt d1 N = true) (hd2 : Nat.blt d2 N = true) (hg1 : GOn ops (fr f s) g1) (hg2 : GOn ops (fr f s) g2)
    (hJi : ∀ x w, (Ji x).p w → J0.p w) (hJj : ∀ y w, (Jj y).p w → J0.p w)
    (h1 : ∀ w, J.p w → effX P Pn (fun v w' => ∃ x, v = V x ∧ (Ji x).p w') ((execOp (ev (fr f s)) ⟨some d1, op1, ty1, pos1, af1, g1⟩).run P w))
    (h2 : ∀ w, J.p w → effX P Pn (fun v w' => ∃ y, v = U y ∧ (Jj y).p w') ((execOp (ev (fr f s)) ⟨some d2, op2, ty2, pos2, af2, g2⟩).run P w))
    (k1 : ∀ x, DT P Pn N D ops J0 I t1 f ((d1, V x) :: s) (Ji x)) (k2 : ∀ y, DT P Pn N D ops J0 I t2 f ((d2, U y) :: s) (Jj y)) :
    DT P Pn N D ops J0 I (.f ⟨some d1, op1, ty1, pos1, af1, g1⟩ ⟨some d2, op2, ty2, pos2, af2, g2⟩ t1 t2) f s J := fun _ ha =>
  ⟨opX_eff V Ji ha hg1 hd1 h1 fun x a' ha' => ⟨hJi x, k1 x a' ha'⟩, opX_eff U Jj ha hg2 hd2 h2 fun y a' ha' => ⟨hJj y, k2 y a' ha'⟩⟩
def chkTB (l : List Oper) (t : Tr) : Bool := Region.noSelect l.toArray && waitsAll .any l.toArray (if t.lastE then l.length - 1 else l.length) && Nat.ble t.depth l.length && chkT .any l.toArray (if t.lastE then l.length - 1 else l.length) t (Array.replicate l.length false)
theorem AW.drawT [hP : PanQ D Q Pn] {id : Nat} {l : List Oper} (I : List (Nat × Value) → Cls → Prop) (t : Tr) (hm : P.follows .mixedOrders = true) (hB : chkTB l t = true) (h : DT P Pn N D l.toArray J0 I (pickT l t) f s J)
    (k : ∀ f' s' J', I s' J' → Post N D Q .normal f' s' J') : AW P N D (.region id l.toArray true) Q f s J := fun a w ha hw => by
  simp only [chkTB, Bool.and_eq_true] at hB
  obtain ⟨⟨⟨hB1, hB2⟩, hB3⟩, hB4⟩ := hB
  have h1 := wpAnyX_tree (P := P) (J0 := J0) (Q' := Joined N D I) hB1 hB2 t l.length _ a J (Nat.le_of_ble_eq_true hB3) hB4 (h a ha)
  exact wp_region_any hm (wpAny_of_X (Pn := Pn) (Q' := Joined N D I) (fun a' w' ⟨f', s', J', hI, hr, hp⟩ => k f' s' J' hI a' w' hr hp) _ _ a J ha.defers (by simpa using h1) _ (J.ext w _ hw (Bel.drew _ _)))
def Mid (N : Nat) (D : List Deferred) (I : List (Nat × Value) → Cls → Prop) (Q : Exit → Act → World → Prop) : Exit → Act → World → Prop := fun e a w => match e with
  | .normal => Joined N D I a w
  | e => Q e a w
theorem Post.mid_n {s' : List (Nat × Value)} {J' : Cls} (hI : I s' J') (hs : AllIn (fr f s) s') (hJ : ∀ w, J.p w → J'.p w) : Post N D (Mid N D I Q) .normal f s J := fun a w ha hw => ⟨fr f s, s', J', hI, by rw [fr_of_allIn hs]; exact ha, hJ w hw⟩
theorem Post.mid_r (h : Post N D Q .ret f s J) : Post N D (Mid N D I Q) .ret f s J := h
end
end Go.K
namespace Go.K
open Go Go.RowKit
variable {af : Array Edge} {pos : String} {ty : TypeId}
end Go.K
