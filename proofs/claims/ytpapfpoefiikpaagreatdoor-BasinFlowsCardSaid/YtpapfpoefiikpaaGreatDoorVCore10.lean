/- Lemmas. Conditions: those of each theorem. -/
import Derived.Test.YtpapfpoefiikpaaGreatDoorVCore7
import Derived.Maps.Keyed
import Derived.Maps.RangeRun
import Derived.ChangeKeysEq
namespace Go.K
open Go Go.RowKit
variable {Pn : List PanicEntry → World → Prop} {Φ : Hp}
section
variable {α : Type} [Rep α]
def Reps (Φ : Hp) : List α → List (List Value) → Prop
  | [], [] => True
  | x :: xs, c :: cs => Rep.rep Φ x c ∧ Reps Φ xs cs
  | _, _ => False
theorem Reps.get : ∀ {xs : List α} {cs : List (List Value)}, Reps Φ xs cs → ∀ (i : Nat) (hi : i < xs.length), ∃ c, Rep.rep Φ xs[i] c ∧ ∀ j u, c[j]? = some u → cs.flatten[i * Rep.sz α + j]? = some u
  | [], _, _, i, hi => absurd hi (Nat.not_lt_zero _)
  | x :: xs, [], h, _, _ => h.elim
  | x :: xs, c :: cs, h, 0, _ => ⟨c, h.1, fun j u hj => by
      rw [Nat.zero_mul, Nat.zero_add, List.flatten_cons, List.getElem?_append_left (List.getElem?_eq_some_iff.1 hj).1]; exact hj⟩
  | x :: xs, c :: cs, h, i + 1, hi => by
    obtain ⟨c', h1, h2⟩ := h.2.get i (Nat.lt_of_succ_lt_succ hi)
    refine ⟨c', h1, fun j u hj => ?_⟩
    have hl : c.length = Rep.sz α := Rep.len h.1
    rw [List.flatten_cons, List.getElem?_append_right (by rw [hl, Nat.succ_mul]; omega), hl, show (i + 1) * Rep.sz α + j - Rep.sz α = i * Rep.sz α + j by rw [Nat.succ_mul]; omega]
    exact h2 j u hj
theorem RowS.reps {v : Value} {T : TypeId} {n : Nat} {cells : List Value} {xs : List α} {cs : List (List Value)} (h : RowS Φ v T (Rep.sz α) n cells) (hc : cells = cs.flatten) (hr : Reps Φ xs cs) (hn : xs.length = n) (hm : n * Rep.bytes α ≤ maxSl) : RepSl Φ xs v :=
  RowS.rep h hn hm fun i hi => by subst hc; exact hr.get i hi
end
end Go.K
namespace Go.K
open Go Go.RowKit
variable {Pn : List PanicEntry → World → Prop} {Φ : Hp}
section
variable {α : Type} [Rep α]
end
end Go.K
namespace Go.K
open Go Go.RowKit
variable {Pn : List PanicEntry → World → Prop} {Φ : Hp}
structure KL (P : Program) (kt : TypeId) (κ : Type) where
  enc : κ → Value
  good : κ → Prop
  inj : ∀ {a b : κ}, enc a = enc b → a = b
  check : ∀ (w : World) (em : Bool) (a : κ), good a → (Instr.checkKey em 10000 kt (enc a)).run P w = .ok () w
  find : ∀ (w : World) (a : κ), good a → ∀ es : List MapEntry, (∀ e ∈ es, ∃ k, good k ∧ e.key = enc k) →
    ((Instr.findKey kt (enc a) es).run P w = .ok none w ∧ ∀ e ∈ es, e.key ≠ enc a) ∨ ∃ j e, (Instr.findKey kt (enc a) es).run P w = .ok (some (j, e.val)) w ∧ es[j]? = some e ∧ e.key = enc a
  stays : ∀ (w : World) (a : κ), good a → (Instr.keyThatStays (enc a) (enc a)).run P w = .ok (enc a) w
def KL.of {P : Program} {kt : TypeId} {κ : Type} (K : Maps.Keyed P kt) (enc : κ → Value) (good : κ → Prop) (inj : ∀ {a b : κ}, enc a = enc b → a = b) (hk : ∀ a, good a → ∃ l, keyOf P kt (enc a) = some l) : KL P kt κ where
  enc := enc
  good := good
  inj := inj
  check := fun w em a ha => let ⟨_, hl⟩ := hk a ha; K.check w em hl
  find := fun w a ha es hes => by
    obtain ⟨l, hl⟩ := hk a ha
    exact K.find w hl es fun e he => by obtain ⟨k, hg, hke⟩ := hes e he; rw [hke]; exact hk k hg
  stays := fun w a ha => let ⟨_, hl⟩ := hk a ha; K.stays w hl
structure KM {P : Program} {kt : TypeId} {κ β : Type} (L : KL P kt κ) (ev : β → Value) (es : Array MapEntry) (clock : Nat) (M : κ → Option β) : Prop where
  dec : ∀ e ∈ es.toList, ∃ k x, L.good k ∧ e.key = L.enc k ∧ M k = some x ∧ e.val = ev x
  has : ∀ k x, M k = some x → ∃ e ∈ es.toList, e.key = L.enc k
  dist : es.toList.Pairwise fun x y => x.key ≠ y.key
  old : ∀ e ∈ es.toList, e.born < clock
  born : (es.toList.map (·.born)).Nodup
def Chunk.kmap {P : Program} {kt : TypeId} {κ β : Type} (L : KL P kt κ) (ev : β → Value) (b : Nat) (M : κ → Option β) : Chunk where
  fp := [b]
  sat := fun Φ => ∃ es clock, Φ b = some (.map es clock) ∧ KM L ev es clock M
  loc := fun Φ Ψ h ⟨es, c, hs, hm⟩ => ⟨es, c, (h b (by simp)).trans hs, hm⟩
  dom := fun Φ ⟨es, c, hs, _⟩ b' hb => by obtain rfl : b' = b := by simpa using hb
                                          rw [hs]; simp
section
variable {P : Program} {kt : TypeId} {κ β : Type} {L : KL P kt κ} {ev : β → Value} {es : Array MapEntry} {clock : Nat} {M : κ → Option β}
theorem KM.empty : KM L ev #[] 0 (fun _ => none) := ⟨fun e he => (by simp at he), fun k x h => (by cases h), by simp, fun e he => (by simp at he), by simp⟩
theorem KM.find (h : KM L ev es clock M) {k : κ} (hk : L.good k) (w : World) : (M k = none ∧ (Instr.findKey kt (L.enc k) es.toList).run P w = .ok none w) ∨ ∃ j e x, (Instr.findKey kt (L.enc k) es.toList).run P w = .ok (some (j, e.val)) w ∧ es.toList[j]? = some e ∧ e.key = L.enc k ∧ M k = some x ∧ e.val = ev x := by
  rcases L.find w k hk es.toList (fun e he => let ⟨k, x, h1, h2, _⟩ := h.dec e he; ⟨k, h1, h2⟩) with ⟨h1, h2⟩ | ⟨j, e, h1, h2, h3⟩
  · left
    refine ⟨?_, h1⟩
    cases hm : M k with
    | none => rfl
    | some x => obtain ⟨e, he, hke⟩ := h.has k x hm; exact absurd hke (h2 e he)
  · right
    obtain ⟨k', x, _, g2, g3, g4⟩ := h.dec e (List.mem_of_getElem? h2)
    have : k' = k := L.inj (g2.symm.trans h3)
    subst this
    exact ⟨j, e, x, h1, h2, h3, g3, g4⟩
theorem KM.push (h : KM L ev es clock M) {k : κ} (hk : L.good k) (hn : M k = none) (x : β) [DecidableEq κ] : KM L ev (es.push ⟨L.enc k, ev x, clock⟩) (clock + 1) (fun j => if j = k then some x else M j) := by
  have hne : ∀ e ∈ es.toList, e.key ≠ L.enc k := fun e he hke => by
    obtain ⟨k', y, _, g2, g3, _⟩ := h.dec e he
    have : k' = k := L.inj (g2.symm.trans hke)
    subst this
    rw [hn] at g3; cases g3
  refine ⟨fun e he => ?_, fun j y hj => ?_, ?_, fun e he => ?_, ?_⟩
  · rw [Array.toList_push] at he
    rcases List.mem_append.1 he with he2 | he2
    · obtain ⟨k', y, g1, g2, g3, g4⟩ := h.dec e he2
      refine ⟨k', y, g1, g2, ?_, g4⟩
      rw [if_neg]
      · exact g3
      · intro e9; rw [e9] at g2; exact hne e he2 g2
    · obtain rfl := List.mem_singleton.1 he2
      exact ⟨k, x, hk, rfl, if_pos rfl, rfl⟩
  · rw [Array.toList_push]
    by_cases hjk : j = k
    · subst hjk; exact ⟨_, List.mem_append_right _ (List.mem_singleton.2 rfl), rfl⟩
    · rw [if_neg hjk] at hj
      obtain ⟨e, he, hke⟩ := h.has j y hj
      exact ⟨e, List.mem_append_left _ he, hke⟩
  · rw [Array.toList_push]
    exact List.pairwise_append.2 ⟨h.dist, List.pairwise_singleton _ _, fun a ha b hb => by obtain rfl := List.mem_singleton.1 hb; exact hne a ha⟩
  · rw [Array.toList_push] at he
    rcases List.mem_append.1 he with he | he
    · have := h.old e he; omega
    · obtain rfl := List.mem_singleton.1 he; show clock < clock + 1; omega
  · rw [Array.toList_push, List.map_append]
    refine List.nodup_append.2 ⟨h.born, by simp, fun a ha b hb => ?_⟩
    obtain ⟨e, he, rfl⟩ := List.mem_map.1 ha
    have := h.old e he
    simp at hb
    omega
theorem KM.put (h : KM L ev es clock M) {k : κ} (hk : L.good k) {j : Nat} {e : MapEntry} (hj : es.toList[j]? = some e) (hke : e.key = L.enc k) (x : β) [DecidableEq κ] : KM L ev (es.modify j fun e => { e with key := L.enc k, val := ev x }) clock (fun i => if i = k then some x else M i) := by
  have hjl := (List.getElem?_eq_some_iff.1 hj).1
  have hget : ∀ i, (es.modify j fun e => { e with key := L.enc k, val := ev x }).toList[i]? = if i = j then some { e with key := L.enc k, val := ev x } else es.toList[i]? := fun i => by
    rw [Array.toList_modify, List.getElem?_modify]
    by_cases hij : j = i
    · subst hij; simp [hj]
    · rw [if_neg (fun e => hij e.symm)]; simp [hij]
  have hkeys : (es.modify j fun e => { e with key := L.enc k, val := ev x }).toList.map (·.key) = es.toList.map (·.key) := by
    apply List.ext_getElem?
    intro i
    rw [List.getElem?_map, List.getElem?_map, hget]
    by_cases hij : i = j
    · subst hij; rw [if_pos rfl, hj]; simp [hke]
    · rw [if_neg hij]
  have hborn : (es.modify j fun e => { e with key := L.enc k, val := ev x }).toList.map (·.born) = es.toList.map (·.born) := by
    apply List.ext_getElem?
    intro i
    rw [List.getElem?_map, List.getElem?_map, hget]
    by_cases hij : i = j
    · subst hij; rw [if_pos rfl, hj]; rfl
    · rw [if_neg hij]
  refine ⟨fun a ha => ?_, fun i y hi => ?_, ?_, fun a ha => ?_, by rw [hborn]; exact h.born⟩
  · obtain ⟨i, hi⟩ := List.mem_iff_getElem?.1 ha
    rw [hget] at hi
    by_cases hij : i = j
    · rw [if_pos hij] at hi
      obtain rfl := sJ hi
      exact ⟨k, x, hk, rfl, if_pos rfl, rfl⟩
    · rw [if_neg hij] at hi
      obtain ⟨k', y, g1, g2, g3, g4⟩ := h.dec a (List.mem_of_getElem? hi)
      refine ⟨k', y, g1, g2, ?_, g4⟩
      rw [if_neg]
      · exact g3
      · rintro rfl
        apply hij
        obtain ⟨hil, hie⟩ := List.getElem?_eq_some_iff.1 hi
        obtain ⟨_, hje⟩ := List.getElem?_eq_some_iff.1 hj
        rcases Nat.lt_trichotomy i j with hlt | heq | hlt
        · exact absurd (by rw [hie, hje, g2, hke]) (List.pairwise_iff_getElem.1 h.dist i j hil hjl hlt)
        · exact heq
        · exact absurd (by rw [hie, hje, g2, hke]) (List.pairwise_iff_getElem.1 h.dist j i hjl hil hlt)
  · have key : ∃ e ∈ es.toList, e.key = L.enc i := by
      by_cases hik : i = k
      · subst hik; exact ⟨e, List.mem_of_getElem? hj, hke⟩
      · rw [if_neg hik] at hi; exact h.has i y hi
    obtain ⟨e', he', hke'⟩ := key
    have : L.enc i ∈ es.toList.map (·.key) := List.mem_map.2 ⟨e', he', hke'⟩
    rw [← hkeys] at this
    obtain ⟨a, ha, hak⟩ := List.mem_map.1 this
    exact ⟨a, ha, hak⟩
  · have h9 := (List.pairwise_map (f := fun e : MapEntry => e.key) (R := (· ≠ ·))).2 h.dist
    rw [← hkeys] at h9
    exact (List.pairwise_map (f := fun e : MapEntry => e.key) (R := (· ≠ ·))).1 h9
  · have : a.born ∈ es.toList.map (·.born) := by rw [← hborn]; exact List.mem_map.2 ⟨a, ha, rfl⟩
    obtain ⟨e', he', hb⟩ := List.mem_map.1 this
    rw [← hb]; exact h.old e' he'
end
section
variable {P : Program} {B : Bs} {Φ : Hp} {C : List Chunk} {f : Nat → Value} {s : List (Nat × Value)} {dst : Option Nat} {ty : TypeId} {pos : String} {af : Array Edge} {g : Option (Nat × Bool)} {x y z : Operand} {t kt et : TypeId} {κ β : Type} {L : KL P kt κ} {ew : β → Value}
theorem e_kmake (L : KL P kt κ) (ew : β → Value) : ∀ w, (St B Φ C).p w → effX P Pn (fun u w' => ∃ b : Nat, u = .map (some b) ∧ (St B Φ (.kmap L ew b (fun _ => none) :: C)).p w') ((execOp (ev (fr f s)) ⟨dst, .makeMap t none, ty, pos, af, g⟩).run P w) := fun w hw => by
  refine effX_val (v := .map (some w.heap.size)) (w' := w.alloc (.map #[] 0)) ?_ ⟨w.heap.size, rfl, StP.allocO hw _ (.kmap L ew w.heap.size fun _ => none) rfl ⟨#[], 0, hp_alloc_new _ _, KM.empty⟩⟩
  simp [execOp, Instr.makeMap]
theorem q_kLook {b : Nat} {M : κ → Option β} {k : κ} {d : β} (i : Nat) (hi : C[i]? = some (.kmap L ew b M)) (hx : ev (fr f s) x = .map (some b)) (hy : ev (fr f s) y = L.enc k) (hk : L.good k) (hT : P.underlying t = some (.map kt et))
    (hz : (P.info? et).map (·.zero) = some (some (ew d))) : Qt P (St B Φ C) f s ⟨dst, .lookup t x y true, ty, pos, af, g⟩ (.tuple #[ew ((M k).getD d), .bool (M k).isSome]) := qt_val fun w hw => by
  obtain ⟨es, clock, hes, hm⟩ := hw.sat _ (List.mem_of_getElem? hi)
  have hb : w.heap[b]? = some (.map es clock) := hes
  have hzz : ∀ w, (zeroValue et).run P w = .ok (ew d) w := fun w => by
    obtain ⟨ti, hti, hzz⟩ := mS hz
    simp only [zeroValue, typeInfo, Sem.run_bind, run_program, Result.andThen_ok, hti, hzz, Sem.run_pure]
  have hg : (getObj b).run P w = .ok (.map es clock) w := by simp [getObj, Sem.run, hb]
  have hc := L.check w es.isEmpty k hk
  simp only [execOp, hx, hy, Instr.lookup, Sem.run_bind, run_underlying hT, Result.andThen_ok, hg, Sem.run_pure, hc]
  rcases hm.find hk w with ⟨h1, h2⟩ | ⟨j, e, v, h1, _, _, h4, h5⟩
  · simp [h1, h2, hzz]
  · simp [h1, h4, h5]
theorem q_kLook1 {b : Nat} {M : κ → Option β} {k : κ} {d : β} (i : Nat) (hi : C[i]? = some (.kmap L ew b M)) (hx : ev (fr f s) x = .map (some b)) (hy : ev (fr f s) y = L.enc k) (hk : L.good k) (hT : P.underlying t = some (.map kt et))
    (hz : (P.info? et).map (·.zero) = some (some (ew d))) : Qt P (St B Φ C) f s ⟨dst, .lookup t x y false, ty, pos, af, g⟩ (ew ((M k).getD d)) := qt_val fun w hw => by
  obtain ⟨es, clock, hes, hm⟩ := hw.sat _ (List.mem_of_getElem? hi)
  have hb : w.heap[b]? = some (.map es clock) := hes
  have hzz : ∀ w, (zeroValue et).run P w = .ok (ew d) w := fun w => by
    obtain ⟨ti, hti, hzz⟩ := mS hz
    simp only [zeroValue, typeInfo, Sem.run_bind, run_program, Result.andThen_ok, hti, hzz, Sem.run_pure]
  have hg : (getObj b).run P w = .ok (.map es clock) w := by simp [getObj, Sem.run, hb]
  have hc := L.check w es.isEmpty k hk
  simp only [execOp, hx, hy, Instr.lookup, Sem.run_bind, run_underlying hT, Result.andThen_ok, hg, Sem.run_pure, hc]
  rcases hm.find hk w with ⟨h1, h2⟩ | ⟨j, e, v, h1, _, _, h4, h5⟩
  · simp [h1, h2, hzz]
  · simp [h1, h4, h5]
theorem e_kPut [DecidableEq κ] {b : Nat} {M : κ → Option β} {k : κ} {v : β} (i : Nat) (hi : C[i]? = some (.kmap L ew b M)) (hx : ev (fr f s) x = .map (some b)) (hy : ev (fr f s) y = L.enc k) (hv : ev (fr f s) z = ew v) (hk : L.good k) (hT : P.underlying t = some (.map kt et))
    {C' : List Chunk} (hC' : C.set i (.kmap L ew b (fun j => if j = k then some v else M j)) = C') : ∀ w, (St B Φ C).p w → effX P Pn (fun _ w' => (St B Φ C').p w') ((execOp (ev (fr f s)) ⟨none, .mapUpdate t x y z, ty, pos, af, g⟩).run P w) := fun w hw => by
  obtain ⟨es, clock, hes, hm⟩ := hw.sat _ (List.mem_of_getElem? hi)
  have hb : w.heap[b]? = some (.map es clock) := hes
  have hbl : b < w.heap.size := (Array.getElem?_eq_some_iff.1 hb).1
  have hg : (getObj b).run P w = .ok (.map es clock) w := by simp [getObj, Sem.run, hb]
  have hc := L.check w false k hk
  subst hC'
  rcases hm.find hk w with ⟨h1, h2⟩ | ⟨j, e, u, h1, h2, h3, _, _⟩
  · have hset : (setObj b (.map (es.push ⟨L.enc k, ew v, clock⟩) (clock + 1))).run P w = .ok () (wset w b (.map (es.push ⟨L.enc k, ew v, clock⟩) (clock + 1))) := by simp [setObj, Sem.run, hb, wset]
    refine effX_skip (w' := wset w b (.map (es.push ⟨L.enc k, ew v, clock⟩) (clock + 1))) ?_ (StP.wset hw hi rfl rfl ⟨_, _, wset_get hbl, hm.push hk h1 v⟩)
    simp only [execOp, hx, hy, hv, Instr.mapUpdate, Sem.run_bind, run_underlying hT, Result.andThen_ok, hg, Sem.run_pure, hc, h2, hset]
  · have hset : (setObj b (.map (es.modify j fun e => { e with key := L.enc k, val := ew v }) clock)).run P w = .ok () (wset w b (.map (es.modify j fun e => { e with key := L.enc k, val := ew v }) clock)) := by simp [setObj, Sem.run, hb, wset]
    have hje : es[j]? = some e := by simpa using h2
    have hst := L.stays w k hk
    refine effX_skip (w' := wset w b (.map (es.modify j fun e => { e with key := L.enc k, val := ew v }) clock)) ?_ (StP.wset hw hi rfl rfl ⟨_, _, wset_get hbl, hm.put hk h2 h3 v⟩)
    simp only [execOp, hx, hy, hv, Instr.mapUpdate, Sem.run_bind, run_underlying hT, Result.andThen_ok, hg, Sem.run_pure, hc, h1, hje, Option.map_some, Option.getD_some, h3, hst, hset]
/-! ### the loop over a map -/
end
end Go.K
namespace Go.K
open Go Go.RowKit
variable {Pn : List PanicEntry → World → Prop} {Φ : Hp}
section
variable {P : Program} {J : Cls} {f : Nat → Value} {s : List (Nat × Value)} {dst : Option Nat} {ty : TypeId} {pos : String} {af : Array Edge} {g : Option (Nat × Bool)} {x y : Operand} {t e : TypeId} {n sz : Nat}
theorem q_buildArr {parts : Array (Nat × Operand)} {vals : List (Nat × Value)} {z : Value} {cells : Array Value} (hz : (P.info? t).map (·.zero) = some (some z)) (hT : P.underlying t = some (.array n e)) (hsz : (P.info? e).map (·.size) = some sz)
    (hv : parts.toList.map (fun p => (p.1, ev (fr f s) p.2)) = vals) (hf : Instr.fill (fun i => some (i * sz, sz)) z.cells vals = some cells) : Qt P J f s ⟨dst, .build t parts, ty, pos, af, g⟩ (.agg cells) := qt_val fun w _ => by
  obtain ⟨ti, hti, hzz⟩ := mS hz
  obtain ⟨ei, hei, hes⟩ := mS hsz
  have hv' : (parts.map (fun (i, x) => (i, ev (fr f s) x))).toList = vals := by rw [← hv]; simp
  subst hv'
  simp only [execOp, Instr.build, Sem.run_bind, zeroValue, typeInfo, run_program, Result.andThen_ok, hti, hzz, Sem.run_pure, run_underlying hT, sizeOf, hei, hes, hf]
theorem q_indexAddrA {p q : Addr} {i : Int} (hx : ev (fr f s) x = .pointer (some p)) (hy : ev (fr f s) y = .int .i64 i) (hT : P.underlying t = some (.array n e)) (hsz : (P.info? e).map (·.size) = some sz) (h0 : 0 ≤ i) (hn : i < n) (hq : q = p.add (i.toNat * sz)) :
    Qt P J f s ⟨dst, .indexAddr t x y, ty, pos, af, g⟩ (.pointer (some q)) := qt_val fun w _ => by
  obtain ⟨ti, hi, hti⟩ := mS hsz
  subst hq
  simp [execOp, hx, hy, Instr.indexAt, asIntOf, run_underlying hT, sizeOf, typeInfo, hi, hti, h0, hn, Instr.sureAddr]
end
end Go.K
