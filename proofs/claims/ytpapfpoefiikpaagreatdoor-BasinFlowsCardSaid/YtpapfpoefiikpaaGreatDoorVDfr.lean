/- Lemmas. Conditions: those of each theorem. -/
import Derived.Test.YtpapfpoefiikpaaGreatDoorVRndS
import Derived.Recover
namespace Go.K
open Go Go.RowKit
variable {P : Program} {Pn : List PanicEntry → World → Prop} {N : Nat} {D : List Deferred} {ops : Array Oper} {Q : Exit → Act → World → Prop} {f : Nat → Value} {af : Array Edge} {pos : String} {ty : TypeId} {rest : List Oper}
theorem Hp.le.trans {Φ Ψ Ξ : Hp} (h : Hp.le Φ Ψ) (k : Hp.le Ψ Ξ) : Hp.le Φ Ξ := fun b o e => k b o (h b o e)
variable {B : Bs} {Φ Ψ : Hp} {C : List Chunk} {W W' : World}
theorem StP.frame {c : Chunk} {C1 : List Chunk} (h : StP B Φ (c :: C) W) (k : StP ⟨W, Φ, c.fp⟩ Ψ C1 W') : StP B Ψ (C1 ++ C) W' := by
 have hsep := List.pairwise_cons.1 h.sep
 have hno : ∀ c2 ∈ C, ∀ b ∈ c2.fp, b ∉ c.fp := fun c2 h2 b hb hc => hsep.1 c2 h2 b hc hb
 have hlt : ∀ c2 ∈ C, ∀ b ∈ c2.fp, b < W.heap.size := fun c2 h2 b hb => h.fp_lt (List.mem_flatMap.2 ⟨c2, List.mem_cons_of_mem _ h2, hb⟩)
 exact {
  os := k.os.trans h.os
  tape := k.tape.trans h.tape
  output := k.output.trans h.output
  size := Nat.le_trans h.size k.size
  drawn := Nat.le_trans h.drawn k.drawn
  old := fun b hb hE => (k.old b (Nat.lt_of_lt_of_le hb h.size) (fun hc => by
   rcases (h.away b (List.mem_flatMap.2 ⟨c, List.mem_cons_self .., hc⟩)).2 with h1 | h1
   ·
    omega
   ·
    exact hE h1)).trans (h.old b hb hE)
  phi := k.phi
  orig := fun b o hb hl => h.orig b o (k.orig b o hb (Nat.lt_of_lt_of_le hl h.size)) hl
  sat := fun c2 hc2 => by
   rcases List.mem_append.1 hc2 with h1 | h1
   ·
    exact k.sat c2 h1
   ·
    exact c2.loc _ _ (fun b hb => k.old b (hlt c2 h1 b hb) (hno c2 h1 b hb)) (h.sat c2 (List.mem_cons_of_mem _ h1))
  sep := List.pairwise_append.2 ⟨k.sep, hsep.2, fun c1 h1 c2 h2 b hb1 hb2 => by
   rcases (k.away b (List.mem_flatMap.2 ⟨c1, h1, hb1⟩)).2 with h3 | h3
   ·
    have := hlt c2 h2 b hb2; simp only at h3; omega
   ·
    exact hno c2 h2 b hb2 h3⟩
  away := fun b hb => by
   rw [List.flatMap_append, List.mem_append] at hb
   rcases hb with hb | hb
   ·
    refine ⟨(k.away b hb).1, ?_⟩
    rcases (k.away b hb).2 with h1 | h1
    ·
     exact .inl (Nat.le_trans h.size h1)
    ·
     exact (h.away b (List.mem_flatMap.2 ⟨c, List.mem_cons_self .., h1⟩)).2
   ·
    obtain ⟨c2, h2, hb2⟩ := List.mem_flatMap.1 hb
    have hm := h.away b (List.mem_flatMap.2 ⟨c2, List.mem_cons_of_mem _ h2, hb2⟩)
    refine ⟨?_, hm.2⟩
    cases he : Ψ b with
    | none => rfl
    | some o =>
     have := k.orig b o he (hlt c2 h2 b hb2)
     simp only at this
     rw [hm.1] at this; cases this }
def ParR (FT : TypeId) {α β : Type} (w : World) (Φ : Hp) (p : Nat) (T : TypeId) (cs' : β → List Value) (res : Except (Int × Int) (α × β)) (Tp : α → Value → Hp → Prop) : Ending → World → Prop := fun e w' =>
 (∃ x r v Ψ, res = .ok (x, r) ∧ e = .returned v ∧ Hp.le Φ Ψ ∧ StP ⟨w, Φ, [p]⟩ Ψ [.blk p T (cs' r)] w' ∧ Tp x v Ψ) ∨
 (∃ er at_ : Int, res = .error (er, at_) ∧ e = .panicked [⟨.iface FT (.agg #[iV er, iV at_]), false, false⟩] ∧ ∃ Ψ, StP ⟨w, Φ, [p]⟩ Ψ [] w')
theorem e_par {s : List (Nat × Value)} {dst : Option Nat} {g : Option (Nat × Bool)} {FT : TypeId} {α β : Type} {T : TypeId} {p : Nat} {cs : List Value} {cs' : β → List Value} {res : Except (Int × Int) (α × β)} {Tp : α → Value → Hp → Prop}
  {x : Operand} {xs : Array Operand} {ts : Array TypeId} {k : FuncId} {first capt args : Array Value} (i : Nat) (hi : C[i]? = some (.blk p T cs)) (hk : Own P k) (hx : ev (fr f s) x = .func (.func k) first capt) (ha : first.toList ++ xs.toList.map (ev (fr f s)) ++ capt.toList = args.toList)
  (h : ∀ w, StP ⟨w, Φ, [p]⟩ Φ [.blk p T cs] w → Calls P k args w (ParR FT w Φ p T cs' res Tp))
  (hPn : ∀ er at_ Ψ w', res = .error (er, at_) → StP B Ψ (C.eraseIdx i) w' → Pn [⟨.iface FT (.agg #[iV er, iV at_]), false, false⟩] w')
  {C' : β → List Chunk} (hC' : ∀ r, C.set i (.blk p T (cs' r)) = C' r) :
  ∀ w, (St B Φ C).p w → effX P Pn (fun v w' => ∃ y : {y : α × β × Value × Hp // res = .ok (y.1, y.2.1) ∧ Tp y.1 y.2.2.1 y.2.2.2 ∧ Hp.le Φ y.2.2.2}, v = y.1.2.2.1 ∧ (St B y.1.2.2.2 (C' y.1.2.1)).p w') ((execOp (ev (fr f s)) ⟨dst, .call { callee := .value x, args := xs, argTypes := ts }, ty, pos, af, g⟩).run P w) :=
 e_callP (V := fun y : {y : α × β × Value × Hp // res = .ok (y.1, y.2.1) ∧ Tp y.1 y.2.2.1 y.2.2.2 ∧ Hp.le Φ y.2.2.2} => y.1.2.2.1) (J' := fun y => St B y.1.2.2.2 (C' y.1.2.1)) hk hx ha fun w hw => by
  have hw1 : StP B Φ (.blk p T cs :: C.eraseIdx i) w := StP.frontAt hw i hi
  have h0 : StP ⟨w, Φ, [p]⟩ Φ [.blk p T cs] w := by
   have := (hw1.drop (List.cons_sublist_cons.2 (List.nil_sublist _))).rebase
   simpa [own, Chunk.blk] using this
  refine (h w h0).mono fun e w' hh => ?_
  rcases hh with ⟨x, r, v, Ψ, h1, h2, h3, h4, h5⟩ | ⟨er, at_, h1, h2, Ψ, h4⟩
  ·
   refine .inl ⟨⟨(x, r, v, Ψ), h1, h5, h3⟩, h2, ?_⟩
   have := StP.frame (c := .blk p T cs) hw1 h4
   exact StP.backAt i hi (hC' r) this
  ·
   refine .inr ⟨_, h2, hPn er at_ Ψ w' h1 ?_⟩
   have := StP.frame (c := .blk p T cs) hw1 h4
   exact this
theorem RW.par [hQ : PanQ D Q Pn] {s : List (Nat × Value)} {d : Nat} {FT : TypeId} {α β : Type} {T : TypeId} {p : Nat} {cs : List Value} {cs' : β → List Value} {res : Except (Int × Int) (α × β)} {Tp : α → Value → Hp → Prop}
  {x : Operand} {xs : Array Operand} {ts : Array TypeId} {k : FuncId} {first capt args : Array Value} (i : Nat) (hi : C[i]? = some (.blk p T cs)) (hd : Nat.blt d N = true) (hk : Own P k) (hx : ev (fr f s) x = .func (.func k) first capt) (ha : first.toList ++ xs.toList.map (ev (fr f s)) ++ capt.toList = args.toList)
  (h : ∀ w, StP ⟨w, Φ, [p]⟩ Φ [.blk p T cs] w → Calls P k args w (ParR FT w Φ p T cs' res Tp))
  (hPn : ∀ er at_ Ψ w', res = .error (er, at_) → StP B Ψ (C.eraseIdx i) w' → Pn [⟨.iface FT (.agg #[iV er, iV at_]), false, false⟩] w')
  {C' : β → List Chunk} (hC' : ∀ r, C.set i (.blk p T (cs' r)) = C' r)
  (kk : ∀ x r v Ψ, res = .ok (x, r) → Tp x v Ψ → Hp.le Φ Ψ → RW P N D ops Q rest f ((d, v) :: s) (St B Ψ (C' r))) : RW P N D ops Q (⟨some d, .call { callee := .value x, args := xs, argTypes := ts }, ty, pos, af, none⟩ :: rest) f s (St B Φ C) :=
 RW.eff _ _ hd (e_par i hi hk hx ha h hPn hC') fun y => kk y.1.1 y.1.2.1 y.1.2.2.1 y.1.2.2.2 y.2.1 y.2.2.1 y.2.2.2
theorem DW.par {s : List (Nat × Value)} {d : Nat} {tg : List Tg} {J0 : Cls} {FT : TypeId} {α β : Type} {T : TypeId} {p : Nat} {cs : List Value} {cs' : β → List Value} {res : Except (Int × Int) (α × β)} {Tp : α → Value → Hp → Prop}
  {x : Operand} {xs : Array Operand} {ts : Array TypeId} {k : FuncId} {first capt args : Array Value} (i : Nat) (hi : C[i]? = some (.blk p T cs)) (hd : Nat.blt d N = true) (hk : Own P k) (hx : ev (fr f s) x = .func (.func k) first capt) (ha : first.toList ++ xs.toList.map (ev (fr f s)) ++ capt.toList = args.toList)
  (h : ∀ w, StP ⟨w, Φ, [p]⟩ Φ [.blk p T cs] w → Calls P k args w (ParR FT w Φ p T cs' res Tp))
  (hPn : ∀ er at_ Ψ w', res = .error (er, at_) → StP B Ψ (C.eraseIdx i) w' → Pn [⟨.iface FT (.agg #[iV er, iV at_]), false, false⟩] w')
  {C' : β → List Chunk} (hC' : ∀ r, C.set i (.blk p T (cs' r)) = C' r) (hJ : ∀ r Ψ w, Hp.le Φ Ψ → StP B Ψ (C' r) w → J0.p w)
  (kk : ∀ x r v Ψ, res = .ok (x, r) → Tp x v Ψ → Hp.le Φ Ψ → DW P Pn N D ops J0 Q tg rest f ((d, v) :: s) (St B Ψ (C' r))) : DW P Pn N D ops J0 Q (.e :: tg) (⟨some d, .call { callee := .value x, args := xs, argTypes := ts }, ty, pos, af, none⟩ :: rest) f s (St B Φ C) :=
 DW.eff _ _ (fun _ y w hw => hJ _ _ w y.2.2.2 hw) hd (e_par i hi hk hx ha h hPn hC') fun y => kk y.1.1 y.1.2.1 y.1.2.2.1 y.1.2.2.2 y.2.1 y.2.2.1 y.2.2.2
def RepC {α : Type} [Rep α] (Φ : Hp) (xs : List α) (cs : List Value) : Prop := cs.length = xs.length * Rep.sz α ∧ ∀ i (h : i < xs.length), ∃ c, Rep.rep Φ xs[i] c ∧ ∀ j u, c[j]? = some u → cs[i * Rep.sz α + j]? = some u
theorem RepC.nil {α : Type} [Rep α] : RepC (α := α) Φ [] [] := ⟨by simp, fun i h => by cases h⟩
theorem RepC.mono {α : Type} [Rep α] {xs : List α} {cs : List Value} (h : RepC Φ xs cs) (hl : Hp.le Φ Ψ) : RepC Ψ xs cs := ⟨h.1, fun i hi => by obtain ⟨c, h1, h2⟩ := h.2 i hi; exact ⟨c, Rep.mono hl h1, h2⟩⟩
theorem RepC.snoc {α : Type} [Rep α] {xs : List α} {cs c : List Value} {x : α} (h : RepC Φ xs cs) (hx : Rep.rep Φ x c) : RepC Φ (xs ++ [x]) (cs ++ c) := by
 refine ⟨by rw [List.length_append, List.length_append, h.1, Rep.len hx, List.length_singleton, Nat.add_mul, Nat.one_mul], fun i hi => ?_⟩
 by_cases hlt : i < xs.length
 ·
  obtain ⟨d, h1, h2⟩ := h.2 i hlt
  refine ⟨d, by rw [List.getElem_append_left hlt]; exact h1, fun j u hj => ?_⟩
  rw [List.getElem?_append_left]
  ·
   exact h2 j u hj
  ·
   have := h2 j u hj
   exact (List.getElem?_eq_some_iff.1 this).1
 ·
  have e : i = xs.length := by simp only [List.length_append, List.length_singleton] at hi; omega
  subst e
  refine ⟨c, by simpa using hx, fun j u hj => ?_⟩
  rw [List.getElem?_append_right (by have := h.1; omega), h.1, Nat.add_sub_cancel_left]; exact hj
theorem RowS.repC {α : Type} [Rep α] {v : Value} {T n : Nat} {xs : List α} {cs : List Value} (h : RowS Φ v T (Rep.sz α) n cs) (hr : RepC Φ xs cs) (hn : xs.length = n) (hm : n * Rep.bytes α ≤ maxSl) : RepSl Φ xs v := RowS.rep h hn hm hr.2
theorem StP.freezeP {w0 : World} {Φ0 : Hp} {p T : Nat} {cs : List Value} {c : Chunk} {w : World} (h : StP ⟨w0, Φ0, [p]⟩ Φ (c :: C) w) (i : Nat) (hi : C[i]? = some (.blk p T cs)) : ∃ Φ', Hp.le Φ Φ' ∧ c.sat Φ' ∧ StP ⟨w0, Φ0, [p]⟩ Φ' C w :=
 StP.freeze h fun b hb => by
  rcases (h.away b (List.mem_flatMap.2 ⟨c, List.mem_cons_self .., hb⟩)).2 with h1 | h1
  ·
   exact h1
  ·
   obtain rfl : b = p := by simpa using h1
   exact absurd (by simp [Chunk.blk]) ((List.pairwise_cons.1 h.sep).1 _ (List.mem_of_getElem? hi) b hb)
end Go.K
namespace Go.K
open Go Go.RowKit
variable {P : Program} {Pn : List PanicEntry → World → Prop} {N : Nat} {D : List Deferred} {ops : Array Oper} {Q : Exit → Act → World → Prop} {f : Nat → Value} {af : Array Edge} {pos : String} {ty : TypeId} {rest : List Oper}
variable {P : Program} {N : Nat} {D : List Deferred} {f : Nat → Value} {s : List (Nat × Value)} {J : Cls}
def recv (cs : List Frame) : Value × List Frame := match recoverD cs with
  | some x => x
  | none => (.nilIface, cs)
theorem rec_region {Q : Exit → Act → List Frame → World → Prop} {a : Act} {cs : List Frame} {w : World} {id d d2 : Nat} {ty ty2 : TypeId} {pos pos2 : String} {af af2 : Array Edge} {ats : Array TypeId} {v : Value} {cs' : List Frame} (hv : recv cs = (v, cs')) (ha : Rel N D (fr f s) a) (hd : Nat.blt d N = true) (hd2 : Nat.blt d2 N = true)
    (h : ∀ a', Rel N D (fr f ((d2, v) :: (d, v) :: s)) a' → Q .normal a' cs' w) :
    (Code.region id #[⟨some d, .call { callee := .builtin .recover, args := #[], argTypes := ats }, ty, pos, af, none⟩, ⟨some d2, .assign (.tmp d), ty2, pos2, af2, none⟩] false).wpS P Q a cs w := by
  refine wpS_region ?_
  have h1 : (execOp a.eval ⟨some d, .call { callee := .builtin .recover, args := #[], argTypes := ats }, ty, pos, af, none⟩).run P w = .ok .recover w := by simp [go_sem]
  have ha1 := ha.put (d := d) hd v
  have ha2 := ha1.put (d := d2) hd2 v
  have h2 : ∀ w, (execOp (a.put (some d) v).eval ⟨some d2, .assign (.tmp d), ty2, pos2, af2, none⟩).run P w = .ok (.value v) w := fun w => by
    rw [ha1.eval]
    have : ev (fr f ((d, v) :: s)) (.tmp d) = v := by simp [ev, fr]
    simp [execOp, this]
  show wpOpsS P _ Q [0, 1] a cs w
  simp only [wpOpsS]
  unfold recv at hv
  simp only [List.getElem?_toArray, List.getElem?_cons_zero, List.getElem?_cons_succ, Region.wanted, if_true, h1]
  split at hv
  · rename_i x hx
    subst hv
    simp only [hx, h2, Oper.upon]
    exact h _ ha2
  · rename_i hx
    cases hv
    simp only [hx, h2, Oper.upon]
    exact h _ ha2
theorem fin_S {fn : Func} {c₀ : Frame} {cs cs' : List Frame} {R : Ending → FrameMode → World → Prop} {e : Exit} (he : (match e with | .normal | .ret => true | _ => false) = true) (hr : fn.results = #[]) (u' : FrameMode) (hcs : cs' = { c₀ with mode := u' } :: cs) (hR : ∀ w, J.p w → R (.returned (.tuple #[])) u' w) :
    Post N [] (fun e a w => bodyPostS P fn c₀ cs R e a cs' w) e f s J := fun a w ha hw => by
  have h1 : (results fn a.tmps).run P w = .ok (.tuple #[]) w := results_run (rs := []) (vs := []) (S := fr f s) (J := J) hr ha.get hw trivial
  cases e <;> first | exact ⟨ha.defers, u', hcs, _, h1, hR w hw⟩ | cases he
theorem RW.dfr {x : Operand} {ats : Array TypeId} {k : FuncId} {first capt : Array Value} (hx : ev (fr f s) x = .func (.func k) first capt)
    (kk : RW P N ({ target := .fn (.func k) capt, args := first } :: D) ops Q rest f s J) : RW P N D ops Q (⟨none, .defer { callee := .value x, args := #[], argTypes := ats }, ty, pos, af, none⟩ :: rest) f s J := fun a w ha hw => by
  refine wpList_plain rfl fun K hK => ?_
  unfold Oper.wp
  rw [ha.eval]
  have : (execOp (ev (fr f s)) ⟨none, .defer { callee := .value x, args := #[], argTypes := ats }, ty, pos, af, none⟩).run P w = .ok (.defer { target := .fn (.func k) capt, args := first }) w := by
    simp [execOp, resolve, hx, Deferred.ofValue]
  rw [this]
  exact hK _ _ (kk _ w ⟨ha.size, by show _ :: a.defers = _; rw [ha.defers], ha.get⟩ hw)
theorem fin_D0 {fn : Func} {R : Ending → World → Prop} {rs : List ResultVar} {vs : List Value} (hr : fn.results = rs.toArray) (h : ResAll P J (fr f s) rs vs) {v : Value} (hv : tup vs = v) (hR : ∀ w, J.p w → R (.returned v) w) :
    Post N [] (bodyPostD P fn R) .ret f s J := fun a w ha hw => by
  have h1 := results_run hr ha.get hw h
  rw [hv] at h1
  show Leaves P fn a.tmps R a.defers .returning w
  rw [ha.defers]
  exact ⟨v, h1, hR w hw⟩
theorem leaves_one {fn : Func} {tmps : Array Value} {R : Ending → World → Prop} {k : FuncId} {capt : Array Value} {u : FrameMode} {w : World} (hO : Go.K.Own P k) (hu : u ≠ .run) (h : CallsD P k capt u w fun e u' w' => (∃ v, e = .returned v) ∧ settle u' = .returning ∧ ∃ v, (results fn tmps).run P w' = .ok v w' ∧ R (.returned v) w') :
    Leaves P fn tmps R [{ target := .fn (.func k) capt, args := #[] }] u w := by
  refine leaves_cons hu (f := k) (args := capt) ?_ (h.mono fun e u' w' hh => ?_)
  · obtain ⟨fn1, h1, h2, h3⟩ := hO
    have h2' : ¬ fn1.name = "runtime.NumGoroutine" := by simpa using h2
    have h3' : ¬ fn1.body = none := by intro e; rw [e] at h3; cases h3
    simp [invoke, callFunc, h1, h2', h3']
  · obtain ⟨⟨v, rfl⟩, h2, h3⟩ := hh
    show Leaves P fn tmps R [] (settle u') w'
    rw [h2]; exact h3
theorem fin_D1 {fn : Func} {R : Ending → World → Prop} {rs : List ResultVar} {vs : List Value} {k : FuncId} {capt : Array Value} (hO : Go.K.Own P k) (hq : ∀ w, J.p w → CallsD P k capt .returning w fun e u' w' => (∃ v, e = .returned v) ∧ u' = .returning ∧ Bel w.heap.size w w')
    (hr : fn.results = rs.toArray) (h : ResAll P J (fr f s) rs vs) {v : Value} (hv : tup vs = v) (hR : ∀ w, J.p w → R (.returned v) w) :
    Post N [{ target := .fn (.func k) capt, args := #[] }] (bodyPostD P fn R) .ret f s J := fun a w ha hw => by
  show Leaves P fn a.tmps R a.defers .returning w
  rw [ha.defers]
  refine leaves_one hO (by simp) ((hq w hw).mono fun e u' w' hh => ?_)
  obtain ⟨h1, rfl, h3⟩ := hh
  have hw' := J.ext w w' hw h3
  have h4 := results_run hr ha.get hw' h
  rw [hv] at h4
  exact ⟨h1, rfl, v, h4, hR w' hw'⟩
theorem RW.parQ {B : Bs} {Φ : Hp} {C : List Chunk} {d : Nat} {FT : TypeId} {α β : Type} {T : TypeId} {p : Nat} {cs : List Value} {cs' : β → List Value} {res : Except (Int × Int) (α × β)} {Tp : α → Value → Hp → Prop}
    {x : Operand} {xs : Array Operand} {ts : Array TypeId} {k : FuncId} {first capt args : Array Value} (i : Nat) (hi : C[i]? = some (.blk p T cs)) (hd : Nat.blt d N = true) (hk : Go.K.Own P k) (hx : ev (fr f s) x = .func (.func k) first capt) (ha : first.toList ++ xs.toList.map (ev (fr f s)) ++ capt.toList = args.toList)
    (h : ∀ w, StP ⟨w, Φ, [p]⟩ Φ [.blk p T cs] w → Calls P k args w (ParR FT w Φ p T cs' res Tp))
    (hPn : ∀ er at_ Ψ a w', res = .error (er, at_) → Rel N D (fr f s) a → StP B Ψ (C.eraseIdx i) w' → Q (.panic [⟨.iface FT (.agg #[.int .i64 er, .int .i64 at_]), false, false⟩]) a w')
    {C' : β → List Chunk} (hC' : ∀ r, C.set i (.blk p T (cs' r)) = C' r)
    (kk : ∀ x r v Ψ, res = .ok (x, r) → Tp x v Ψ → Hp.le Φ Ψ → RW P N D ops Q rest f ((d, v) :: s) (St B Ψ (C' r))) : RW P N D ops Q (⟨some d, .call { callee := .value x, args := xs, argTypes := ts }, ty, pos, af, none⟩ :: rest) f s (St B Φ C) := fun a w hr hw => by
  refine wpList_plain rfl fun K hK => ?_
  have he := e_par (P := P) (B := B) (Φ := Φ) (C := C) (f := f) (s := s) (dst := some d) (ty := ty) (pos := pos) (af := af) (g := none) (Pn := fun c w' => ∃ er at_ Ψ, res = .error (er, at_) ∧ c = [⟨.iface FT (.agg #[.int .i64 er, .int .i64 at_]), false, false⟩] ∧ StP B Ψ (C.eraseIdx i) w') (ts := ts) i hi hk hx ha h (fun er at_ Ψ w' h1 h2 => ⟨er, at_, Ψ, h1, rfl, h2⟩) hC' w hw
  refine upon_eff (by rw [hr.eval]; exact he) (fun v w' hh => ?_) (fun c w' hh => ?_)
  · obtain ⟨y, rfl, hy⟩ := hh
    exact hK _ _ (kk y.1.1 y.1.2.1 y.1.2.2.1 y.1.2.2.2 y.2.1 y.2.2.1 y.2.2.2 _ w' (hr.put hd _) hy)
  · obtain ⟨er, at_, Ψ, h1, rfl, h2⟩ := hh
    exact hPn er at_ Ψ a w' h1 hr h2
theorem AW.go {c : Code} {a : Act} {w : World} (h : AW P N D c Q f s J) (ha : Rel N D (fr f s) a) (hw : J.p w) : c.wp P Q a w := h a w ha hw
end Go.K
