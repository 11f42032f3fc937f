/- Lemmas. Conditions: those of each theorem. -/
import Derived.Test.YtpapfpoefiikpaaGreatDoorVAuto
import Derived.RangeFuncNested
import Derived.RangeFuncBound
import Derived.RangeFuncCalls
import Derived.RangeFuncLeaves
import Derived.TacticsIn
import Derived.OrdersIn
import Derived.LoopNIn
namespace Go.K
open Go Go.RowKit
class Wid (F : Fence) : Prop where
  fn : ∀ f, F.fn f
  depth : F.depth = none
  calls : ∀ {n : Nat} {P : Program} {k : FuncId} {args : Array Value} {w : World} {R : Ending → World → Prop}, Calls P k args w R → CallsIn F n P k args w R
  rows : ∀ {n : Nat} {P : Program} {row : String} {args : Array Value} {w : World} {R : Value → World → Prop}, Rows P row args w R → RowsIn F n P row args w R
theorem rows_wide {n : Nat} {P : Program} {row : String} {args : Array Value} {w : World} {R : Value → World → Prop} (h : Rows P row args w R) : RowsIn Fence.wide n P row args w R := fun c cs _ => by
  obtain ⟨v, w', hR, hs⟩ := h c cs
  exact ⟨v, w', hR, stepsIn_wide.2 hs⟩
instance : Wid Fence.wide := ⟨fun _ => trivial, rfl, fun h => callsIn_wide.2 h, rows_wide⟩
instance {l : Nat} : Wid (Fence.wide.inRound l) := ⟨fun _ => trivial, rfl, fun h => CallsIn.inRound l (callsIn_wide.2 h), fun h => rows_wide h⟩
variable {F : Fence} {n : Nat} {P : Program} {N : Nat} {D : List Deferred} {ops : Array Oper} {Q : Exit → Act → World → Prop} {f : Nat → Value} {s : List (Nat × Value)} {J : Cls}
theorem op_in [hF : Wid F] {o : Oper} {a : Act} {w : World} {K : Act → World → Prop} (hd : ∀ c, o.op ≠ .defer c) (h : o.wp P a w K Q) : o.wpIn F n P a w K Q := by
  refine ⟨fun g _ => hF.fn g, ?_⟩
  rw [Oper.semAt_eq _ _ _ hd]
  unfold Oper.wp at h
  have hdep : F.depth.isSome = true → 1 ≤ n := fun hh => by rw [hF.depth] at hh; cases hh
  generalize (execOp a.eval o).run P w = r at *
  cases r with
  | ok x w' =>
    cases x <;> simp only [Oper.upon, Oper.uponIn] at h ⊢ <;> first | exact h | exact ⟨hdep, hF.calls h⟩ | exact ⟨hdep, hF.rows h⟩
  | halt x w' => cases x <;> simp only [Oper.upon, Oper.uponIn] at h ⊢ <;> exact h
def Qn (K : Act → World → Prop) (Q : Exit → Act → World → Prop) : Exit → Act → World → Prop
  | .normal, a, w => K a w
  | e, a, w => Q e a w
theorem op_qn {o : Oper} {a : Act} {w : World} {K K1 : Act → World → Prop} (h : o.wp P a w K1 (Qn K Q)) : o.wp P a w K1 Q := by
  unfold Oper.wp at *
  generalize (execOp a.eval o).run P w = r at *
  cases r with
  | ok x w' => cases x <;> exact h
  | halt x w' => cases x <;> exact h
def noDef (l : List Oper) : Bool := l.all fun o => match o.op with | .defer _ => false | _ => true
theorem noDef_spec {l : List Oper} (h : noDef l = true) {o : Oper} (ho : o ∈ l) : ∀ c, o.op ≠ .defer c := fun c hc => by
  have := List.all_eq_true.1 h o ho
  rw [hc] at this
  cases this
theorem list_in [hF : Wid F] {K : Act → World → Prop} {rest : List Oper} (hL : ¬ LetsOut Q) (hK : ∀ a w, K a w → wpListIn F n P ops Q rest a w) : ∀ {pre : List Oper}, noDef pre = true → ∀ {a : Act} {w : World}, wpList P ops (Qn K Q) pre a w → wpListIn F n P ops Q (pre ++ rest) a w
  | [], _, a, w, h => hK a w h
  | o :: pre, hd, a, w, h => by
    have hd1 := noDef_spec hd (List.mem_cons_self ..)
    have hd2 : noDef pre = true := by unfold noDef at *; rw [List.all_cons, Bool.and_eq_true] at hd; exact hd.2
    unfold wpList at h
    show wpListIn F n P ops Q (o :: (pre ++ rest)) a w
    refine wpListIn_step fun K2 hK2 => ?_
    split
    · rename_i hw
      rw [if_pos hw] at h
      rcases h with h | ⟨_, h⟩
      · refine op_in hd1 (op_qn (K := K) ?_)
        exact Oper.wp_mono (fun a' w' h' => hK2 _ _ (list_in hL hK hd2 h')) h
      · exact absurd h hL
    · rename_i hw
      rw [if_neg hw] at h
      exact ⟨fun g _ => hF.fn g, hK2 _ _ (list_in hL hK hd2 h)⟩
theorem anyop_in [hF : Wid F] {i : Nat} {a : Act} {w : World} {K K' : Act → World → Prop} (hL : ¬ LetsOut Q) (hd : noDef ops.toList = true) (hK : ∀ a w, K a w → K' a w) (h : wpOp P ops Q i K a w) : wpOpIn F n P ops Q i K' a w := by
  unfold wpOp at h
  unfold wpOpIn
  split
  · rename_i ho; simp only [ho] at h; exact hK _ _ h
  · rename_i o ho
    simp only [ho] at h
    have hm : o ∈ ops.toList := by
      have := (Array.getElem?_eq_some_iff.1 ho)
      obtain ⟨h1, h2⟩ := this
      rw [← h2]; simp
    split
    · rename_i hw
      rw [if_pos hw] at h
      rcases h with h | ⟨_, h⟩
      · exact op_in (noDef_spec hd hm) (Oper.wp_mono hK h)
      · exact absurd h hL
    · rename_i hw
      rw [if_neg hw] at h
      exact ⟨fun g _ => hF.fn g, hK _ _ h⟩
theorem any_in [hF : Wid F] {md : Region.Mode} (hL : ¬ LetsOut Q) (hd : noDef ops.toList = true) : ∀ {fuel : Nat} {listed : Array Bool} {a : Act} {w : World}, wpAny P md ops Q fuel listed a w → wpAnyIn F n P md ops Q fuel listed a w
  | 0, _, _, _, h => h
  | _ + 1, _, _, _, h => ⟨h.1, fun i hi => anyop_in hL hd (fun _ _ => any_in hL hd) (h.2 i hi)⟩
/-! ### code -/
def AI (F : Fence) (n : Nat) (P : Program) (N : Nat) (D : List Deferred) (c : Code) (Q : Exit → Act → World → Prop) (f : Nat → Value) (s : List (Nat × Value)) (J : Cls) : Prop :=
  ∀ a w, Rel N D (fr f s) a → J.p w → c.wpIn F n P Q a w
theorem AI.seq {x y : Code} (h : AI F n P N D x (Exit.then (fun a w => y.wpIn F n P Q a w) Q) f s J) : AI F n P N D (.seq x y) Q f s J := fun a w ha hw => wpIn_seq (h a w ha hw)
theorem AI.skip (h : Post N D Q .normal f s J) : AI F n P N D .skip Q f s J := fun a w ha hw => wpIn_skip (h a w ha hw)
theorem AI.exit {id : Nat} (h : Post N D Q (.exit id) f s J) : AI F n P N D (.exit id) Q f s J := fun a w ha hw => wpIn_exit (h a w ha hw)
theorem AI.ret (h : Post N D Q .ret f s J) : AI F n P N D .ret Q f s J := fun a w ha hw => wpIn_ret (h a w ha hw)
theorem AI.block {id : Nat} {c : Code} (h : AI F n P N D c (Exit.inBlock id Q) f s J) : AI F n P N D (.block id c) Q f s J := fun a w ha hw => wpIn_block (h a w ha hw)
theorem AI.cond {c : Operand} {x y : Code} {b : Bool} (hc : ev (fr f s) c = .bool b) (ht : b = true → AI F n P N D x Q f s J) (hf : b = false → AI F n P N D y Q f s J) : AI F n P N D (.cond c x y) Q f s J := fun a w ha hw =>
  wpIn_cond_split (by rw [ha.eval]; exact hc) (fun h => ht h a w ha hw) (fun h => hf h a w ha hw)
theorem AI.region [Wid F] {id : Nat} {l : List Oper} (hd : noDef l = true) (hL : ¬ LetsOut Q) (h : RW P N D l.toArray (Qn (Q .normal) Q) l f s J) : AI F n P N D (.region id l.toArray false) Q f s J := fun a w ha hw => by
  refine wpIn_region_lit ?_
  have := list_in (F := F) (n := n) (ops := l.toArray) (rest := []) (K := Q .normal) hL (fun _ _ h => h) hd (h a w ha hw)
  rwa [List.append_nil] at this
theorem AI.regionY [Wid F] {id : Nat} {pre rest : List Oper} (hd : noDef pre = true) (hL : ¬ LetsOut Q) (h : RW P N D (pre ++ rest).toArray (Qn (wpListIn F n P (pre ++ rest).toArray Q rest) Q) pre f s J) : AI F n P N D (.region id (pre ++ rest).toArray false) Q f s J := fun a w ha hw =>
  wpIn_region_lit (list_in hL (fun _ _ h => h) hd (h a w ha hw))
theorem AI.draw [Wid F] {id : Nat} {l : List Oper} {J0 : Cls} (tg : List Tg) (ord : List Nat) (hm : P.follows .mixedOrders = true) (hB : lexTB .any l.toArray tg ord = true) (hd : noDef l = true) (hL : ¬ LetsOut Q) (h : DW P NoPn N D l.toArray J0 Q tg (pickOps l ord) f s J) [PanQ D Q NoPn] : AI F n P N D (.region id l.toArray true) Q f s J := fun a w ha hw =>
  wpIn_region_any hm (any_in hL (by simpa using hd) (DW.any tg ord hB h a w ha hw))
theorem AI.base {c : Code} (h : ∀ w, J.p w → AI F n P N D c Q f s (St ⟨w, hp w, []⟩ (hp w) [])) : AI F n P N D c Q f s J := fun a w ha hw => h w hw a w ha (StP.init w (hp w) (Hp.le_refl _) [])
theorem callsIn_of_AI {fid : FuncId} {fn : Func} {c : Code} {args : List Value} {w : World} {R : Ending → World → Prop} (hf : P.funcs[fid]? = some fn) (hb : fn.body = some c) (hF : F.fn fid) (hn : args.length ≤ fn.ntmps) (hro : F.round = none)
    (J : Cls) (hJ : J.p w) (h : AI F n P fn.ntmps [] c (bodyPost P fn R) (fun _ => undef) (args.zipIdx.map fun p => (p.2, p.1)) J) : CallsIn F n P fid args.toArray w R :=
  callsIn_of_wp hf hb hF (h _ w (rel_init hn) hJ) hro
theorem AI.regionK [Wid F] (k : Nat) {id : Nat} {l : List Oper} (hd : noDef (l.take k) = true) (hL : ¬ LetsOut Q) (h : RW P N D l.toArray (Qn (wpListIn F n P l.toArray Q (l.drop k)) Q) (l.take k) f s J) : AI F n P N D (.region id l.toArray false) Q f s J := by
  have := AI.regionY (F := F) (n := n) (P := P) (N := N) (D := D) (Q := Q) (f := f) (s := s) (J := J) (id := id) (pre := l.take k) (rest := l.drop k) hd hL (by rw [List.take_append_drop]; exact h)
  rwa [List.take_append_drop] at this
def Gr (w w' : World) : Prop := w.grownBy w' none
theorem Bel.grown {w w' : World} (h : Bel w.heap.size w w') : w.grownBy w' none := ⟨h.os, h.tape, h.output, h.size, fun k hk _ => h.block k hk⟩
theorem le_of_bel {w w' : World} (h : Bel w.heap.size w w') : Hp.le (hp w) (hp w') := fun b o hb => by
  have hlt : b < w.heap.size := (Array.getElem?_eq_some_iff.1 hb).1
  exact (h.block b hlt).trans hb
def Jc {β : Type} (J : β → World → Prop) (K : Hp → Prop) {B : Nat} (hJ : AbidesFrom B J) (hK : ∀ Φ Ψ, Hp.le Φ Ψ → K Φ → K Ψ) (x : β) : Cls :=
  ⟨fun w => J x w ∧ K (hp w), fun w w' h hb => ⟨hJ x w w' none h.1 hb.grown (fun _ e => by cases e), hK _ _ (le_of_bel hb) h.2⟩⟩
theorem st_Jc {β : Type} {J : β → World → Prop} {K : Hp → Prop} {B : Nat} {hJ : AbidesFrom B J} {hK : ∀ Φ Ψ, Hp.le Φ Ψ → K Φ → K Ψ} {x : β} {w : World} (h : (Jc J K hJ hK x).p w) {Φ : Hp} {C : List Chunk} {w' : World} (hw : (St ⟨w, hp w, []⟩ Φ C).p w') : (Jc J K hJ hK x).p w' :=
  (Jc J K hJ hK x).ext w w' h (StP.below hw rfl)
theorem Post.mk {e : Exit} (h : ∀ a w, Rel N D (fr f s) a → J.p w → Q e a w) : Post N D Q e f s J := h
theorem PI.then_n {y : Code} (h : AI F n P N D y Q f s J) : Post N D (Exit.then (fun a w => y.wpIn F n P Q a w) Q) .normal f s J := fun a w ha hw => h a w ha hw
theorem PI.qn0 (h : Post N D Q .normal f s J) : Post N D (Qn (Q .normal) Q) .normal f s J := fun a w ha hw => h a w ha hw
theorem AI.loop {c : Code} (I : List (Nat × Value) → Cls → Nat → Prop) {m0 : Nat} {s0 : List (Nat × Value)} {J1 : Cls} (h0 : I s0 J1 m0) (hs : AllIn (fr f s) s0) (hJ : ∀ w, J.p w → J1.p w)
    (body : ∀ f' s' J' m, I s' J' m → AI F n P N D c (Exit.then (Back N D I m) Q) f' s' J') : AI F n P N D (.loop c) Q f s J := by
  intro a w ha hw b k cs hro hb hr
  have key : ∀ m f s J a w, I s J m → Rel N D (fr f s) a → J.p w →
      ∃ e a' w', Q e a' w' ∧ ArrivesIn (Machine.fenced P F) P (lone (b.atR a (.code c :: .inLoop c :: k)) cs w) b k cs e a' w' := by
    intro m
    induction m using Nat.strongRecOn with
    | _ m ih =>
      intro f s J a w hI ha hw
      obtain ⟨e, a₁, w₁, hq, harr⟩ := body f s J m hI a w ha hw b (.inLoop c :: k) cs hro hb hr
      cases e with
      | normal =>
        obtain ⟨f', s', J', m', hlt, hI', ha', hw'⟩ := hq
        obtain ⟨e₂, a₂, w₂, hq₂, harr₂⟩ := ih m' hlt f' s' J' a₁ w₁ hI' ha' hw'
        exact ⟨e₂, a₂, w₂, hq₂, .of_steps (StepsIn.trans harr (.one (fenced_calm hb hr rfl) stepR_inLoop)) harr₂⟩
      | _ => exact ⟨_, a₁, w₁, hq, .pass rfl (fun _ _ => .inl (by simp)) harr⟩
  obtain ⟨e, a', w', hq, harr⟩ := key m0 (fr f s) s0 J1 a w h0 (by rw [fr_of_allIn hs]; exact ha) (hJ w hw)
  exact ⟨e, a', w', hq, .of_steps (.one (fenced_calm hb hr rfl) stepR_loop) harr⟩
theorem PI.yield [hF : Wid F] {post : List Oper} {d : Nat} {x : Operand} {xs : Array Operand} {ts : Array TypeId} {ty : TypeId} {pos : String} {af : Array Edge} {l : Nat} {args : Array Value} {J' : Bool → Cls} (hL : ¬ LetsOut Q) (hdp : noDef post = true) (hd : Nat.blt d N = true)
    (hx : ev (fr f s) x = .func (.yield l) #[] #[]) (ha : xs.toList.map (ev (fr f s)) = args.toList)
    (h : ∀ w, J.p w → YieldAt F (n - 1) P l args w fun e w' => ∃ b : Bool, e = .returned (.bool b) ∧ (J' b).p w')
    (k : ∀ b, RW P N D ops (Qn (Q .normal) Q) post f ((d, .bool b) :: s) (J' b)) :
    Post N D (Qn (wpListIn F n P ops Q (⟨some d, .call { callee := .value x, args := xs, argTypes := ts }, ty, pos, af, none⟩ :: post)) Q) .normal f s J := fun a w hr hw => by
  show wpListIn F n P ops Q (_ :: post) a w
  obtain ⟨fn, tmps, assign, body, hy, hR⟩ := h w hw
  refine wpListIn_step fun K hK => ?_
  rw [if_pos (by rfl)]
  refine ⟨fun g _ => hF.fn g, ?_⟩
  rw [Oper.semAt_eq _ _ _ (fun c hc => by cases hc), hr.eval]
  obtain rfl : xs.map (ev (fr f s)) = args := by apply Array.ext'; simpa using ha
  have hrun : (execOp (ev (fr f s)) ⟨some d, .call { callee := .value x, args := xs, argTypes := ts }, ty, pos, af, none⟩).run P w = .ok (.round l fn tmps assign body) w := by
    simp [execOp, resolve, hx, Deferred.ofValue, invoke, hy]
  rw [hrun]
  refine ⟨fun hh => (by rw [hF.depth] at hh; cases hh), hR.mono fun e w' ⟨b, he, hp⟩ => ?_⟩
  subst he
  refine hK _ _ ?_
  have := list_in (F := F) (n := n) (ops := ops) (rest := []) (K := Q .normal) hL (fun _ _ h => h) hdp (k b _ w' (hr.put hd _) hp)
  rwa [List.append_nil] at this
end Go.K
