/- Lemmas. Conditions: those of each theorem. -/
import Derived.Test.YtpapfpoefiikpaaGreatDoorVCore
import Derived.Deep.Upon
namespace Go.K
open Go Go.RowKit
variable {P : Program} {N : Nat} {f : Nat → Value} {B : Bs} {Φ : Hp} {C : List Chunk}
def subSl (v : Value) (l m s : Nat) : Value := match v with | .slice a _ c => sliced a l m c s | v => v
theorem isSl_sub {v : Value} {n l m s : Nat} (h : IsSl v n) (hl : l ≤ m) (hm : m ≤ n) : IsSl (subSl v l m s) (m - l) := by
  obtain ⟨A, c, rfl, hA, hc⟩ := h
  refine ⟨_, _, rfl, fun h0 => ?_, by omega⟩
  have := hA (by omega)
  split
  · exact this
  · simpa using this
theorem at_sub {v : Value} {n l m s k : Nat} (h : IsSl v n) (hl : l < m) (hm : m ≤ n) : Value.at (subSl v l m s) k = Value.at v (l * s + k) := by
  obtain ⟨A, c, rfl, hA, hc⟩ := h
  obtain ⟨a, rfl⟩ := Option.isSome_iff_exists.1 (hA (by omega))
  show Value.at (sliced (some a) l m c s) k = _
  unfold sliced
  rw [if_neg (by omega)]
  exact add_add _ _ _
section
variable {P : Program} {Pn : List PanicEntry → World → Prop} {J : Cls} {f : Nat → Value} {s : List (Nat × Value)} {dst : Option Nat} {ty : TypeId} {pos : String} {af : Array Edge} {g : Option (Nat × Bool)} {t t' e : TypeId} {x y z : Operand} {v : Value} {n sz : Nat}
theorem elem_of (hT : P.underlying t = some (.slice e)) : P.elem t = e := by simp [Program.elem, hT]
theorem run_size {sz : Nat} (hsz : (P.info? e).map (·.size) = some sz) (w : World) : (sizeOf e).run P w = .ok sz w := by
  obtain ⟨ti, hi, hti⟩ := mS hsz
  simp [sizeOf, typeInfo, hi, hti]
theorem q_sliceH {m : Int} (hx : ev (fr f s) x = v) (hy : ev (fr f s) y = .int .i64 m) (hs : IsSl v n) (hT : P.underlying t = some (.slice e)) (hsz : (P.info? e).map (·.size) = some sz) (h0 : 0 ≤ m) (hm : m ≤ n) :
    Qt P J f s ⟨dst, .slice t x none (some y) none, ty, pos, af, g⟩ (subSl v 0 m.toNat sz) := qt_val fun w _ => by
  obtain ⟨A, c, rfl, hA, hc⟩ := hs
  have he := elem_of hT
  have hT' : P.underlying t = some (.slice (P.elem t)) := by rw [he]; exact hT
  simp only [execOp, hx, hy, Option.map_some, Option.map_none, run_sliceAt_slice (w := w) t _ _ _ _ hT', run_slice_h (w := w) t A n c hT' .i64 m h0 (by omega), he, run_size hsz, Result.andThen_ok, Sem.run_bind, Sem.run_pure, subSl]
theorem q_sliceL {l : Int} (hx : ev (fr f s) x = v) (hy : ev (fr f s) y = .int .i64 l) (hs : IsSl v n) (hT : P.underlying t = some (.slice e)) (hsz : (P.info? e).map (·.size) = some sz) (h0 : 0 ≤ l) (hl : l ≤ n) :
    Qt P J f s ⟨dst, .slice t x (some y) none none, ty, pos, af, g⟩ (subSl v l.toNat n sz) := qt_val fun w _ => by
  obtain ⟨A, c, rfl, hA, hc⟩ := hs
  have he := elem_of hT
  have hT' : P.underlying t = some (.slice (P.elem t)) := by rw [he]; exact hT
  simp only [execOp, hx, hy, Option.map_some, Option.map_none, run_sliceAt_slice (w := w) t _ _ _ _ hT', run_slice_l (w := w) t A n c hT' .i64 l h0 hl, he, run_size hsz, Result.andThen_ok, Sem.run_bind, Sem.run_pure, subSl]
end
theorem StP.know {Φ Φ' : Hp} {w : World} (hl : Hp.le Φ Φ') (h : StP B Φ' C w) : StP B Φ C w :=
  { h with phi := Hp.le_trans hl h.phi, orig := fun b o e hb => h.orig b o (hl b o e) hb, away := fun b hb => ⟨Option.eq_none_iff_forall_ne_some.2 (fun o e => by
      have := (h.away b hb).1
      rw [hl b o e] at this; cases this), (h.away b hb).2⟩ }
theorem repSl_nil {α : Type} [Rep α] : RepSl Φ ([] : List α) (.slice none 0 0) := ⟨isSl_nil, by simp [maxSl], fun i hi => absurd hi (by simp)⟩
theorem row_nil {T sz : Nat} : RowS Φ (.slice none 0 0) T sz 0 [] := ⟨by simp, .inl ⟨rfl, rfl⟩⟩
theorem addNil {w : World} {T sz : Nat} (h : StP B Φ C w) : StP B Φ (.row (.slice none 0 0) T sz 0 [] :: C) w :=
  { h with
    sat := fun c hc => (List.mem_cons.1 hc).elim (fun e => by subst e; exact row_nil) (h.sat c)
    sep := List.pairwise_cons.2 ⟨fun c _ b hb => (by cases hb), h.sep⟩
    away := fun b hb => h.away b (by simpa [Chunk.row, blks] using hb) }
def RepV {α : Type} [Rep α] (Φ : Hp) (x : α) (cs : List Value) : Prop := Rep.rep Φ x cs
theorem RepV.mono {α : Type} [Rep α] {Φ Ψ : Hp} {x : α} {cs : List Value} (h : RepV Φ x cs) (hl : Hp.le Φ Ψ) : RepV Ψ x cs := Rep.mono hl h
theorem RepSl.oneCell {α : Type} [Rep α] {xs : List α} {v : Value} (h : RepSl Φ xs v) : v.oneCell' = true := by
  obtain ⟨A, c, rfl, _⟩ := h.sl; rfl
instance : Rep ByteArray where
  sz := 1
  bytes := 16
  rep := fun _ s cs => cs = [.string s] ∧ s.size ≤ maxLen
  len := fun h => by rw [h.1]; rfl
  mono := fun _ h => h
  one := fun h u hu => by rw [h.1] at hu; obtain rfl : u = _ := by simpa using hu
                          rfl
section
variable {P : Program} {Pn : List PanicEntry → World → Prop} {J : Cls} {f : Nat → Value} {s : List (Nat × Value)} {dst : Option Nat} {ty : TypeId} {pos : String} {af : Array Edge} {g : Option (Nat × Bool)} {x y : Operand} {a b : Int} {ts : Array TypeId}
theorem q_min (hx : ev (fr f s) x = .int .i64 a) (hy : ev (fr f s) y = .int .i64 b) : Qt P J f s ⟨dst, .call { callee := .builtin .min, args := #[x, y], argTypes := ts }, ty, pos, af, g⟩ (.int .i64 (min a b)) := qt_val fun w _ => by
  have e : (if b < a then b else a) = min a b := by omega
  simp [execOp, resolve, invoke, builtin, hx, hy, Builtin.min_, Builtin.min2, e]
theorem q_max (hx : ev (fr f s) x = .int .i64 a) (hy : ev (fr f s) y = .int .i64 b) : Qt P J f s ⟨dst, .call { callee := .builtin .max, args := #[x, y], argTypes := ts }, ty, pos, af, g⟩ (.int .i64 (max a b)) := qt_val fun w _ => by
  have e : (if a < b then b else a) = max a b := by omega
  simp [execOp, resolve, invoke, builtin, hx, hy, Builtin.max_, Builtin.max2, e]
end
section
variable {α : Type} [Inhabited α] [Rep α] {B : Bs} {Φ : Hp} {C : List Chunk}
theorem Cell.repJ {v : Value} {k j sz : Nat} {u : Value} {xs : List α} (h : RepSl Φ xs v) (hk : k < xs.length) (hj : ∀ {cs}, Rep.rep Φ (xs.getD k default) cs → cs[j]? = some u) (hsz : Rep.sz α = sz := by rfl) : Cell (St B Φ C) (Value.at v (k * sz + j)) u := by
  obtain ⟨cs, h1, h2⟩ := h.at_ k hk
  subst hsz
  have hg : xs.getD k default = xs[k] := by simp [hk]
  exact Cell.phi (h2 j u (hj (by rw [hg]; exact h1)))
end
section
variable {α : Type} [Inhabited α] [RepE α] {B : Bs} {Φ : Hp} {C : List Chunk}
theorem Cells.rowE (he : EvenE α) {v : Value} {T n k : Nat} {cs : List Value} {xs : List α} (i : Nat) (hi : C[i]? = some (.row v T (Rep.sz α) n (flat xs))) (hk : k < xs.length) (hj : RepE.cells (xs.getD k default) = cs) : Cells (St B Φ C) (Value.at v (k * Rep.sz α)) cs := fun j u hu => by
  rw [at_add]; exact Cell.rowE he i hi hk (by rw [hj]; exact hu)
end
theorem e_boxA {Pn : List PanicEntry → World → Prop} {s : List (Nat × Value)} {dst : Option Nat} {ty : TypeId} {pos : String} {af : Array Edge} {g : Option (Nat × Bool)} {t : TypeId} {x : Operand} {cs : List Value} (hx : ev (fr f s) x = .agg cs.toArray) :
    ∀ w, (St B Φ C).p w → effX P Pn (fun u w' => ∃ b : Nat, u = .pointer (some ⟨b, 0, none⟩) ∧ (St B Φ (.blk b t cs :: C)).p w') ((execOp (ev (fr f s)) ⟨dst, .box t x, ty, pos, af, g⟩).run P w) := fun w hw => e_box hx w hw
section
variable {P : Program} {Pn : List PanicEntry → World → Prop} {J : Cls} {f : Nat → Value} {s : List (Nat × Value)} {dst : Option Nat} {ty : TypeId} {pos : String} {af : Array Edge} {g : Option (Nat × Bool)} {x y : Operand} {t t' : TypeId} {as bs : Array Value} {r : Bool}
theorem run_part1 {e : TypeId} {d : TypeDesc} (hT : P.underlying e = some d) (hd : isAggD d = false) {cs : Array Value} {o : Nat} {v : Value} (hv : cs[o]? = some v) (w : World) : (part e cs o).run P w = .ok v w := by
  simp only [part, Sem.run_bind, run_isAgg hT, hd, Result.andThen_ok, Bool.false_eq_true, if_false, hv, Sem.run_pure]
theorem run_eqGuard_agg {op : BinOp} (hg : Program.eqGuardType P P.depth t = false) (w : World) : (eqGuard op t x y (.agg as) (.agg bs)).run P w = .ok () w := by
  cases op <;> simp [eqGuard, hg]
theorem q_eqlS (hx : ev (fr f s) x = .agg as) (hy : ev (fr f s) y = .agg bs) (he : ∀ w, (Op.equal t (.agg as) (.agg bs)).run P w = .ok r w) (hg : Program.eqGuardType P P.depth t = false) : Qt P J f s ⟨dst, .binOp .eql t x y t', ty, pos, af, g⟩ (.bool r) := qt_val fun w _ => by
  simp only [execOp, hx, hy, Sem.run_bind, run_eqGuard_agg hg w, Result.andThen_ok, binOp, he, Sem.run_pure]
theorem q_neqS (hx : ev (fr f s) x = .agg as) (hy : ev (fr f s) y = .agg bs) (he : ∀ w, (Op.equal t (.agg as) (.agg bs)).run P w = .ok r w) (hg : Program.eqGuardType P P.depth t = false) : Qt P J f s ⟨dst, .binOp .neq t x y t', ty, pos, af, g⟩ (.bool (!r)) := qt_val fun w _ => by
  simp only [execOp, hx, hy, Sem.run_bind, run_eqGuard_agg hg w, Result.andThen_ok, binOp, he, Sem.run_pure]
end
theorem fin_out1 {fn : Func} {s : List (Nat × Value)} {e : Exit} {J : Cls} {R : Ending → World → Prop} {t : Nat} {v : Value} (hr : fn.results = #[.tmp t]) (he : (match e with | .normal | .ret => true | _ => false) = true) (hv : fr f s t = v) (hR : ∀ w, J.p w → R (.returned v) w) :
    Post N [] (bodyPost P fn R) e f s J := fun a w' ha hw => by
  have h1 : (results fn a.tmps).run P w' = .ok v w' := by rw [results_tmp hr, ha.get t, hv]
  cases e <;> first | exact ⟨ha.defers, _, h1, hR w' hw⟩ | cases he
theorem fin_out2 {fn : Func} {s : List (Nat × Value)} {e : Exit} {J : Cls} {R : Ending → World → Prop} {t t' : Nat} {v u : Value} (hr : fn.results = #[.tmp t, .tmp t']) (he : (match e with | .normal | .ret => true | _ => false) = true) (hv : fr f s t = v) (hu : fr f s t' = u) (hR : ∀ w, J.p w → R (.returned (.tuple #[v, u])) w) :
    Post N [] (bodyPost P fn R) e f s J := fun a w' ha hw => by
  have h1 : (results fn a.tmps).run P w' = .ok (.tuple #[v, u]) w' := by rw [results_tmp2 hr, ha.get t, ha.get t', hv, hu]
  cases e <;> first | exact ⟨ha.defers, _, h1, hR w' hw⟩ | cases he
theorem RW.frzB {D : List Deferred} {ops : Array Oper} {Q : Exit → Act → World → Prop} {s : List (Nat × Value)} {c : Chunk} {l : List Oper} (hE : B.E = []) (h : ∀ Φ', Hp.le Φ Φ' → c.sat Φ' → RW P N D ops Q l f s (St B Φ' C)) : RW P N D ops Q l f s (St B Φ (c :: C)) := fun a w ha hw => by
  obtain ⟨Φ', h1, h2, h3⟩ := StP.freeze hw (fun b hb => ((hw.away b (by simp [hb])).2).resolve_right (by rw [hE]; simp))
  exact h Φ' h1 h2 a w ha h3
theorem q_as {J : Cls} {s : List (Nat × Value)} {o : Oper} {v v' : Value} (h : Qt P J f s o v) (e : v = v') : Qt P J f s o v' := e ▸ h
section
variable {P : Program} {Pn : List PanicEntry → World → Prop} {B : Bs} {Φ : Hp} {C : List Chunk} {f : Nat → Value} {s : List (Nat × Value)} {dst : Option Nat} {ty : TypeId} {pos : String} {af : Array Edge} {g : Option (Nat × Bool)}
end
section
variable {α : Type} [Inhabited α] [RepE α]
end
end Go.K
