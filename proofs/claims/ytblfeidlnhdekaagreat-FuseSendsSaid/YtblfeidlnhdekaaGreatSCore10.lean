/- Lemmas. Conditions: those of each theorem. -/
import Derived.Test.YtblfeidlnhdekaaGreatSCore7
import Derived.Maps.Keyed
import Derived.Maps.RangeRun
import Derived.ChangeKeysEq
namespace Go.K
open Go Go.RowKit
variable {Pn : List PanicEntry → World → Prop} {Φ : Hp}
section
variable {α : Type} [Rep α]
def Reps (Φ : Hp) : List α → List (List Value) → Prop
  | [], [] => True
  | x :: xs, c :: cs => Rep.rep Φ x c ∧ Reps Φ xs cs
  | _, _ => False
theorem Reps.get : ∀ {xs : List α} {cs : List (List Value)}, Reps Φ xs cs → ∀ (i : Nat) (hi : i < xs.length), ∃ c, Rep.rep Φ xs[i] c ∧ ∀ j u, c[j]? = some u → cs.flatten[i * Rep.sz α + j]? = some u
  | [], _, _, i, hi => absurd hi (Nat.not_lt_zero _)
  | x :: xs, [], h, _, _ => h.elim
  | x :: xs, c :: cs, h, 0, _ => ⟨c, h.1, fun j u hj => by
      rw [Nat.zero_mul, Nat.zero_add, List.flatten_cons, List.getElem?_append_left (List.getElem?_eq_some_iff.1 hj).1]; exact hj⟩
  | x :: xs, c :: cs, h, i + 1, hi => by
    obtain ⟨c', h1, h2⟩ := h.2.get i (Nat.lt_of_succ_lt_succ hi)
    refine ⟨c', h1, fun j u hj => ?_⟩
    have hl : c.length = Rep.sz α := Rep.len h.1
    rw [List.flatten_cons, List.getElem?_append_right (by rw [hl, Nat.succ_mul]; omega), hl, show (i + 1) * Rep.sz α + j - Rep.sz α = i * Rep.sz α + j by rw [Nat.succ_mul]; omega]
    exact h2 j u hj
theorem RowS.reps {v : Value} {T : TypeId} {n : Nat} {cells : List Value} {xs : List α} {cs : List (List Value)} (h : RowS Φ v T (Rep.sz α) n cells) (hc : cells = cs.flatten) (hr : Reps Φ xs cs) (hn : xs.length = n) (hm : n * Rep.bytes α ≤ maxSl) : RepSl Φ xs v :=
  RowS.rep h hn hm fun i hi => by subst hc; exact hr.get i hi
end
end Go.K
namespace Go.K
open Go Go.RowKit
variable {Pn : List PanicEntry → World → Prop} {Φ : Hp}
section
variable {α : Type} [Rep α]
end
end Go.K
namespace Go.K
open Go Go.RowKit
variable {Pn : List PanicEntry → World → Prop} {Φ : Hp}
structure KL (P : Program) (kt : TypeId) (κ : Type) where
  enc : κ → Value
  good : κ → Prop
  inj : ∀ {a b : κ}, enc a = enc b → a = b
  check : ∀ (w : World) (em : Bool) (a : κ), good a → (Instr.checkKey em 10000 kt (enc a)).run P w = .ok () w
  find : ∀ (w : World) (a : κ), good a → ∀ es : List MapEntry, (∀ e ∈ es, ∃ k, good k ∧ e.key = enc k) →
    ((Instr.findKey kt (enc a) es).run P w = .ok none w ∧ ∀ e ∈ es, e.key ≠ enc a) ∨ ∃ j e, (Instr.findKey kt (enc a) es).run P w = .ok (some (j, e.val)) w ∧ es[j]? = some e ∧ e.key = enc a
  stays : ∀ (w : World) (a : κ), good a → (Instr.keyThatStays (enc a) (enc a)).run P w = .ok (enc a) w
def KL.of {P : Program} {kt : TypeId} {κ : Type} (K : Maps.Keyed P kt) (enc : κ → Value) (good : κ → Prop) (inj : ∀ {a b : κ}, enc a = enc b → a = b) (hk : ∀ a, good a → ∃ l, keyOf P kt (enc a) = some l) : KL P kt κ where
  enc := enc
  good := good
  inj := inj
  check := fun w em a ha => let ⟨_, hl⟩ := hk a ha; K.check w em hl
  find := fun w a ha es hes => by
    obtain ⟨l, hl⟩ := hk a ha
    exact K.find w hl es fun e he => by obtain ⟨k, hg, hke⟩ := hes e he; rw [hke]; exact hk k hg
  stays := fun w a ha => let ⟨_, hl⟩ := hk a ha; K.stays w hl
structure KM {P : Program} {kt : TypeId} {κ β : Type} (L : KL P kt κ) (ev : β → Value) (es : Array MapEntry) (clock : Nat) (M : κ → Option β) : Prop where
  dec : ∀ e ∈ es.toList, ∃ k x, L.good k ∧ e.key = L.enc k ∧ M k = some x ∧ e.val = ev x
  has : ∀ k x, M k = some x → ∃ e ∈ es.toList, e.key = L.enc k
  dist : es.toList.Pairwise fun x y => x.key ≠ y.key
  old : ∀ e ∈ es.toList, e.born < clock
  born : (es.toList.map (·.born)).Nodup
def Chunk.kmap {P : Program} {kt : TypeId} {κ β : Type} (L : KL P kt κ) (ev : β → Value) (b : Nat) (M : κ → Option β) : Chunk where
  fp := [b]
  sat := fun Φ => ∃ es clock, Φ b = some (.map es clock) ∧ KM L ev es clock M
  loc := fun Φ Ψ h ⟨es, c, hs, hm⟩ => ⟨es, c, (h b (by simp)).trans hs, hm⟩
  dom := fun Φ ⟨es, c, hs, _⟩ b' hb => by obtain rfl : b' = b := by simpa using hb
                                          rw [hs]; simp
def Chunk.obj (b : Nat) (o : Obj) : Chunk where
  fp := [b]
  sat := fun Φ => Φ b = some o
  loc := fun Φ Ψ h hs => (h b (by simp)).trans hs
  dom := fun Φ hs b' hb => by obtain rfl : b' = b := by simpa using hb
                              rw [hs]; simp
section
variable {P : Program} {kt : TypeId} {κ β : Type} {L : KL P kt κ} {ev : β → Value} {es : Array MapEntry} {clock : Nat} {M : κ → Option β}
theorem KM.empty : KM L ev #[] 0 (fun _ => none) := ⟨fun e he => (by simp at he), fun k x h => (by cases h), by simp, fun e he => (by simp at he), by simp⟩
theorem entry_of_key : ∀ {l : List MapEntry}, l.Pairwise (fun x y => x.key ≠ y.key) → ∀ {x y : MapEntry}, x ∈ l → y ∈ l → x.key = y.key → x = y
  | [], _, _, _, hx, _, _ => by cases hx
  | a :: l, hp, x, y, hx, hy, h => by
    obtain ⟨h1, h2⟩ := List.pairwise_cons.1 hp
    rcases List.mem_cons.1 hx with hxa | hxl <;> rcases List.mem_cons.1 hy with hya | hyl
    · rw [hxa, hya]
    · subst hxa; exact absurd h (h1 y hyl)
    · subst hya; exact absurd h.symm (h1 x hxl)
    · exact entry_of_key h2 hxl hyl h
theorem KM.find (h : KM L ev es clock M) {k : κ} (hk : L.good k) (w : World) : (M k = none ∧ (Instr.findKey kt (L.enc k) es.toList).run P w = .ok none w) ∨ ∃ j e x, (Instr.findKey kt (L.enc k) es.toList).run P w = .ok (some (j, e.val)) w ∧ es.toList[j]? = some e ∧ e.key = L.enc k ∧ M k = some x ∧ e.val = ev x := by
  rcases L.find w k hk es.toList (fun e he => let ⟨k, x, h1, h2, _⟩ := h.dec e he; ⟨k, h1, h2⟩) with ⟨h1, h2⟩ | ⟨j, e, h1, h2, h3⟩
  · left
    refine ⟨?_, h1⟩
    cases hm : M k with
    | none => rfl
    | some x => obtain ⟨e, he, hke⟩ := h.has k x hm; exact absurd hke (h2 e he)
  · right
    obtain ⟨k', x, _, g2, g3, g4⟩ := h.dec e (List.mem_of_getElem? h2)
    have : k' = k := L.inj (g2.symm.trans h3)
    subst this
    exact ⟨j, e, x, h1, h2, h3, g3, g4⟩
theorem KM.push (h : KM L ev es clock M) {k : κ} (hk : L.good k) (hn : M k = none) (x : β) [DecidableEq κ] : KM L ev (es.push ⟨L.enc k, ev x, clock⟩) (clock + 1) (fun j => if j = k then some x else M j) := by
  have hne : ∀ e ∈ es.toList, e.key ≠ L.enc k := fun e he hke => by
    obtain ⟨k', y, _, g2, g3, _⟩ := h.dec e he
    have : k' = k := L.inj (g2.symm.trans hke)
    subst this
    rw [hn] at g3; cases g3
  refine ⟨fun e he => ?_, fun j y hj => ?_, ?_, fun e he => ?_, ?_⟩
  · rw [Array.toList_push] at he
    rcases List.mem_append.1 he with he2 | he2
    · obtain ⟨k', y, g1, g2, g3, g4⟩ := h.dec e he2
      refine ⟨k', y, g1, g2, ?_, g4⟩
      rw [if_neg]
      · exact g3
      · intro e9; rw [e9] at g2; exact hne e he2 g2
    · obtain rfl := List.mem_singleton.1 he2
      exact ⟨k, x, hk, rfl, if_pos rfl, rfl⟩
  · rw [Array.toList_push]
    by_cases hjk : j = k
    · subst hjk; exact ⟨_, List.mem_append_right _ (List.mem_singleton.2 rfl), rfl⟩
    · rw [if_neg hjk] at hj
      obtain ⟨e, he, hke⟩ := h.has j y hj
      exact ⟨e, List.mem_append_left _ he, hke⟩
  · rw [Array.toList_push]
    exact List.pairwise_append.2 ⟨h.dist, List.pairwise_singleton _ _, fun a ha b hb => by obtain rfl := List.mem_singleton.1 hb; exact hne a ha⟩
  · rw [Array.toList_push] at he
    rcases List.mem_append.1 he with he | he
    · have := h.old e he; omega
    · obtain rfl := List.mem_singleton.1 he; show clock < clock + 1; omega
  · rw [Array.toList_push, List.map_append]
    refine List.nodup_append.2 ⟨h.born, by simp, fun a ha b hb => ?_⟩
    obtain ⟨e, he, rfl⟩ := List.mem_map.1 ha
    have := h.old e he
    simp at hb
    omega
theorem KM.put (h : KM L ev es clock M) {k : κ} (hk : L.good k) {j : Nat} {e : MapEntry} (hj : es.toList[j]? = some e) (hke : e.key = L.enc k) (x : β) [DecidableEq κ] : KM L ev (es.modify j fun e => { e with key := L.enc k, val := ev x }) clock (fun i => if i = k then some x else M i) := by
  have hjl := (List.getElem?_eq_some_iff.1 hj).1
  have hget : ∀ i, (es.modify j fun e => { e with key := L.enc k, val := ev x }).toList[i]? = if i = j then some { e with key := L.enc k, val := ev x } else es.toList[i]? := fun i => by
    rw [Array.toList_modify, List.getElem?_modify]
    by_cases hij : j = i
    · subst hij; simp [hj]
    · rw [if_neg (fun e => hij e.symm)]; simp [hij]
  have hkeys : (es.modify j fun e => { e with key := L.enc k, val := ev x }).toList.map (·.key) = es.toList.map (·.key) := by
    apply List.ext_getElem?
    intro i
    rw [List.getElem?_map, List.getElem?_map, hget]
    by_cases hij : i = j
    · subst hij; rw [if_pos rfl, hj]; simp [hke]
    · rw [if_neg hij]
  have hborn : (es.modify j fun e => { e with key := L.enc k, val := ev x }).toList.map (·.born) = es.toList.map (·.born) := by
    apply List.ext_getElem?
    intro i
    rw [List.getElem?_map, List.getElem?_map, hget]
    by_cases hij : i = j
    · subst hij; rw [if_pos rfl, hj]; rfl
    · rw [if_neg hij]
  refine ⟨fun a ha => ?_, fun i y hi => ?_, ?_, fun a ha => ?_, by rw [hborn]; exact h.born⟩
  · obtain ⟨i, hi⟩ := List.mem_iff_getElem?.1 ha
    rw [hget] at hi
    by_cases hij : i = j
    · rw [if_pos hij] at hi
      obtain rfl := sJ hi
      exact ⟨k, x, hk, rfl, if_pos rfl, rfl⟩
    · rw [if_neg hij] at hi
      obtain ⟨k', y, g1, g2, g3, g4⟩ := h.dec a (List.mem_of_getElem? hi)
      refine ⟨k', y, g1, g2, ?_, g4⟩
      rw [if_neg]
      · exact g3
      · rintro rfl
        apply hij
        obtain ⟨hil, hie⟩ := List.getElem?_eq_some_iff.1 hi
        obtain ⟨_, hje⟩ := List.getElem?_eq_some_iff.1 hj
        rcases Nat.lt_trichotomy i j with hlt | heq | hlt
        · exact absurd (by rw [hie, hje, g2, hke]) (List.pairwise_iff_getElem.1 h.dist i j hil hjl hlt)
        · exact heq
        · exact absurd (by rw [hie, hje, g2, hke]) (List.pairwise_iff_getElem.1 h.dist j i hjl hil hlt)
  · have key : ∃ e ∈ es.toList, e.key = L.enc i := by
      by_cases hik : i = k
      · subst hik; exact ⟨e, List.mem_of_getElem? hj, hke⟩
      · rw [if_neg hik] at hi; exact h.has i y hi
    obtain ⟨e', he', hke'⟩ := key
    have : L.enc i ∈ es.toList.map (·.key) := List.mem_map.2 ⟨e', he', hke'⟩
    rw [← hkeys] at this
    obtain ⟨a, ha, hak⟩ := List.mem_map.1 this
    exact ⟨a, ha, hak⟩
  · have h9 := (List.pairwise_map (f := fun e : MapEntry => e.key) (R := (· ≠ ·))).2 h.dist
    rw [← hkeys] at h9
    exact (List.pairwise_map (f := fun e : MapEntry => e.key) (R := (· ≠ ·))).1 h9
  · have : a.born ∈ es.toList.map (·.born) := by rw [← hborn]; exact List.mem_map.2 ⟨a, ha, rfl⟩
    obtain ⟨e', he', hb⟩ := List.mem_map.1 this
    rw [← hb]; exact h.old e' he'
end
section
variable {P : Program} {B : Bs} {Φ : Hp} {C : List Chunk} {f : Nat → Value} {s : List (Nat × Value)} {dst : Option Nat} {ty : TypeId} {pos : String} {af : Array Edge} {g : Option (Nat × Bool)} {x y z : Operand} {t kt et : TypeId} {κ β : Type} {L : KL P kt κ} {ew : β → Value}
theorem e_kmake (L : KL P kt κ) (ew : β → Value) : ∀ w, (St B Φ C).p w → effX P Pn (fun u w' => ∃ b : Nat, u = .map (some b) ∧ (St B Φ (.kmap L ew b (fun _ => none) :: C)).p w') ((execOp (ev (fr f s)) ⟨dst, .makeMap t none, ty, pos, af, g⟩).run P w) := fun w hw => by
  refine effX_val (v := .map (some w.heap.size)) (w' := w.alloc (.map #[] 0)) ?_ ⟨w.heap.size, rfl, StP.allocO hw _ (.kmap L ew w.heap.size fun _ => none) rfl ⟨#[], 0, hp_alloc_new _ _, KM.empty⟩⟩
  simp [execOp, Instr.makeMap]
theorem q_kLook {b : Nat} {M : κ → Option β} {k : κ} {d : β} (i : Nat) (hi : C[i]? = some (.kmap L ew b M)) (hx : ev (fr f s) x = .map (some b)) (hy : ev (fr f s) y = L.enc k) (hk : L.good k) (hT : P.underlying t = some (.map kt et))
    (hz : (P.info? et).map (·.zero) = some (some (ew d))) : Qt P (St B Φ C) f s ⟨dst, .lookup t x y true, ty, pos, af, g⟩ (.tuple #[ew ((M k).getD d), .bool (M k).isSome]) := qt_val fun w hw => by
  obtain ⟨es, clock, hes, hm⟩ := hw.sat _ (List.mem_of_getElem? hi)
  have hb : w.heap[b]? = some (.map es clock) := hes
  have hzz : ∀ w, (zeroValue et).run P w = .ok (ew d) w := fun w => by
    obtain ⟨ti, hti, hzz⟩ := mS hz
    simp only [zeroValue, typeInfo, Sem.run_bind, run_program, Result.andThen_ok, hti, hzz, Sem.run_pure]
  have hg : (getObj b).run P w = .ok (.map es clock) w := by simp [getObj, Sem.run, hb]
  have hc := L.check w es.isEmpty k hk
  simp only [execOp, hx, hy, Instr.lookup, Sem.run_bind, run_underlying hT, Result.andThen_ok, hg, Sem.run_pure, hc]
  rcases hm.find hk w with ⟨h1, h2⟩ | ⟨j, e, v, h1, _, _, h4, h5⟩
  · simp [h1, h2, hzz]
  · simp [h1, h4, h5]
theorem q_kLook1 {b : Nat} {M : κ → Option β} {k : κ} {d : β} (i : Nat) (hi : C[i]? = some (.kmap L ew b M)) (hx : ev (fr f s) x = .map (some b)) (hy : ev (fr f s) y = L.enc k) (hk : L.good k) (hT : P.underlying t = some (.map kt et))
    (hz : (P.info? et).map (·.zero) = some (some (ew d))) : Qt P (St B Φ C) f s ⟨dst, .lookup t x y false, ty, pos, af, g⟩ (ew ((M k).getD d)) := qt_val fun w hw => by
  obtain ⟨es, clock, hes, hm⟩ := hw.sat _ (List.mem_of_getElem? hi)
  have hb : w.heap[b]? = some (.map es clock) := hes
  have hzz : ∀ w, (zeroValue et).run P w = .ok (ew d) w := fun w => by
    obtain ⟨ti, hti, hzz⟩ := mS hz
    simp only [zeroValue, typeInfo, Sem.run_bind, run_program, Result.andThen_ok, hti, hzz, Sem.run_pure]
  have hg : (getObj b).run P w = .ok (.map es clock) w := by simp [getObj, Sem.run, hb]
  have hc := L.check w es.isEmpty k hk
  simp only [execOp, hx, hy, Instr.lookup, Sem.run_bind, run_underlying hT, Result.andThen_ok, hg, Sem.run_pure, hc]
  rcases hm.find hk w with ⟨h1, h2⟩ | ⟨j, e, v, h1, _, _, h4, h5⟩
  · simp [h1, h2, hzz]
  · simp [h1, h4, h5]
theorem e_kPut [DecidableEq κ] {b : Nat} {M : κ → Option β} {k : κ} {v : β} (i : Nat) (hi : C[i]? = some (.kmap L ew b M)) (hx : ev (fr f s) x = .map (some b)) (hy : ev (fr f s) y = L.enc k) (hv : ev (fr f s) z = ew v) (hk : L.good k) (hT : P.underlying t = some (.map kt et))
    {C' : List Chunk} (hC' : C.set i (.kmap L ew b (fun j => if j = k then some v else M j)) = C') : ∀ w, (St B Φ C).p w → effX P Pn (fun _ w' => (St B Φ C').p w') ((execOp (ev (fr f s)) ⟨none, .mapUpdate t x y z, ty, pos, af, g⟩).run P w) := fun w hw => by
  obtain ⟨es, clock, hes, hm⟩ := hw.sat _ (List.mem_of_getElem? hi)
  have hb : w.heap[b]? = some (.map es clock) := hes
  have hbl : b < w.heap.size := (Array.getElem?_eq_some_iff.1 hb).1
  have hg : (getObj b).run P w = .ok (.map es clock) w := by simp [getObj, Sem.run, hb]
  have hc := L.check w false k hk
  subst hC'
  rcases hm.find hk w with ⟨h1, h2⟩ | ⟨j, e, u, h1, h2, h3, _, _⟩
  · have hset : (setObj b (.map (es.push ⟨L.enc k, ew v, clock⟩) (clock + 1))).run P w = .ok () (wset w b (.map (es.push ⟨L.enc k, ew v, clock⟩) (clock + 1))) := by simp [setObj, Sem.run, hb, wset]
    refine effX_skip (w' := wset w b (.map (es.push ⟨L.enc k, ew v, clock⟩) (clock + 1))) ?_ (StP.wset hw hi rfl rfl ⟨_, _, wset_get hbl, hm.push hk h1 v⟩)
    simp only [execOp, hx, hy, hv, Instr.mapUpdate, Sem.run_bind, run_underlying hT, Result.andThen_ok, hg, Sem.run_pure, hc, h2, hset]
  · have hset : (setObj b (.map (es.modify j fun e => { e with key := L.enc k, val := ew v }) clock)).run P w = .ok () (wset w b (.map (es.modify j fun e => { e with key := L.enc k, val := ew v }) clock)) := by simp [setObj, Sem.run, hb, wset]
    have hje : es[j]? = some e := by simpa using h2
    have hst := L.stays w k hk
    refine effX_skip (w' := wset w b (.map (es.modify j fun e => { e with key := L.enc k, val := ew v }) clock)) ?_ (StP.wset hw hi rfl rfl ⟨_, _, wset_get hbl, hm.put hk h2 h3 v⟩)
    simp only [execOp, hx, hy, hv, Instr.mapUpdate, Sem.run_bind, run_underlying hT, Result.andThen_ok, hg, Sem.run_pure, hc, h1, hje, Option.map_some, Option.getD_some, h3, hst, hset]
/-! ### the loop over a map -/
theorem StP.rename {c c' : Chunk} {w : World} (i : Nat) (hi : C[i]? = some c) (hfp : c'.fp = c.fp) (hs : c'.sat (hp w)) (h : StP B Φ C w) : StP B Φ (C.set i c') w := by
  have h1 := h.frontAt i hi
  have hl := (List.getElem?_eq_some_iff.1 hi).1
  have h2 : StP B Φ (c' :: C.eraseIdx i) w :=
    { h1 with
      sat := fun d hd => by
        rcases List.mem_cons.1 hd with e | e
        · rw [e]; exact hs
        · exact h1.sat d (List.mem_cons_of_mem _ e)
      sep := by
        obtain ⟨a, b⟩ := List.pairwise_cons.1 h1.sep
        exact List.pairwise_cons.2 ⟨fun d hd q hq => a d hd q (by rw [← hfp]; exact hq), b⟩
      away := fun q hq => h1.away q (by simpa [hfp] using hq) }
  exact StP.backAt i hi rfl h2
theorem e_krange {b : Nat} {M : κ → Option β} (i : Nat) (hi : C[i]? = some (.kmap L ew b M)) (hx : ev (fr f s) x = .map (some b)) (hT : P.underlying t = some (.map kt et)) :
    ∀ w, (St B Φ C).p w → effX P Pn (fun u w' => ∃ q : {q : Nat × Array MapEntry × Nat // KM L ew q.2.1 q.2.2 M}, u = .pointer (some ⟨q.1.1, 0, none⟩) ∧ (St B Φ (.obj q.1.1 (.mapIter (some b) q.1.2.2 #[] q.1.2.2) :: C.set i (.obj b (.map q.1.2.1 q.1.2.2)))).p w')
      ((execOp (ev (fr f s)) ⟨dst, .range t x, ty, pos, af, g⟩).run P w) := fun w hw => by
  obtain ⟨es, clock, hes, hm⟩ := hw.sat _ (List.mem_of_getElem? hi)
  have hb : w.heap[b]? = some (.map es clock) := hes
  have h1 := StP.rename (c' := .obj b (.map es clock)) i hi rfl hes hw
  have hr := run_range_map (P := P) w t kt et b es clock hT hb
  refine effX_val (v := .pointer (some ⟨w.heap.size, 0, none⟩)) (w' := w.alloc (.mapIter (some b) clock #[] clock)) ?_ ⟨⟨(w.heap.size, es, clock), hm⟩, rfl, StP.allocO h1 _ (.obj w.heap.size _) rfl (hp_alloc_new _ _)⟩
  simp only [execOp, hx, Sem.run_bind, hr, Result.andThen_ok, Sem.run_pure]
theorem e_knext {b r since c0 clock : Nat} {es : Array MapEntry} {seen : Array Nat} {M : κ → Option β} (i j : Nat) (hi : C[i]? = some (.obj r (.mapIter (some b) since seen c0))) (hj : C[j]? = some (.obj b (.map es clock))) (hx : ev (fr f s) x = .pointer (some ⟨r, 0, none⟩))
    (hm : KM L ew es clock M) (hsc : since ≤ c0) (hcl : clock ≤ since) :
    ∀ w, (St B Φ C).p w → effX P Pn (fun u w' => ∃ q : Option {e : MapEntry // e ∈ es.toList ∧ seen.contains e.born = false}, u = (match q with | none => .tuple #[.bool false] | some e => .tuple #[.bool true, e.1.key, e.1.val]) ∧ (q = none → ∀ e ∈ es.toList, seen.contains e.born = true) ∧
        (St B Φ (match q with | none => C | some e => C.set i (.obj r (.mapIter (some b) since (seen.push e.1.born) clock)))).p w')
      ((execOp (ev (fr f s)) ⟨dst, .next x false, ty, pos, af, g⟩).run P w) := fun w hw => by
  have hr : w.heap[r]? = some (.mapIter (some b) since seen c0) := hw.sat _ (List.mem_of_getElem? hi)
  have hb : w.heap[b]? = some (.map es clock) := hw.sat _ (List.mem_of_getElem? hj)
  have hrl : r < w.heap.size := (Array.getElem?_eq_some_iff.1 hr).1
  rcases run_next_at (P := P) w ty r b since c0 seen es clock hr hb (fun e he => Nat.lt_of_lt_of_le (hm.old e he) hcl) hsc with ⟨h0, hrun⟩ | ⟨e, he, w1, hal, hrun⟩
  · refine effX_val (v := .tuple #[.bool false]) (w' := w) ?_ ⟨none, rfl, fun _ e he => ?_, hw⟩
    · simp only [execOp, hx, Sem.run_bind, hrun, Result.andThen_ok, Sem.run_pure]
    · cases hc : seen.contains e.born with
      | true => rfl
      | false =>
        exfalso
        have : e ∈ (leftOf es seen).toList := by unfold leftOf; simp only [Array.toList_filter, List.mem_filter]; exact ⟨he, by rw [hc]; rfl⟩
        rw [Array.eq_empty_of_size_eq_zero h0] at this
        simp at this
  · have hml : e ∈ es.toList ∧ seen.contains e.born = false := by
      unfold leftOf at he
      simp only [Array.toList_filter, List.mem_filter] at he
      exact ⟨he.1, by simpa using he.2⟩
    have hw1 : StP B Φ C w1 := by
      rcases hal with rfl | rfl
      · exact hw
      · exact hw.ext (Bel.drew _ _)
    have hr1 : w1.heap[r]? = some (.mapIter (some b) since seen c0) := hw1.sat _ (List.mem_of_getElem? hi)
    refine effX_val (v := .tuple #[.bool true, e.key, e.val]) (w' := wset w1 r (.mapIter (some b) since (seen.push e.born) clock)) ?_ ⟨some ⟨e, hml⟩, rfl, fun h => (by cases h), StP.wset (c' := .obj r (.mapIter (some b) since (seen.push e.born) clock)) hw1 hi rfl rfl (wset_get (w := w1) (Array.getElem?_eq_some_iff.1 hr1).1)⟩
    simp only [execOp, hx, Sem.run_bind, hrun, Result.andThen_ok, Sem.run_pure]
    rfl
theorem q_kentry {b r since clock : Nat} {es : Array MapEntry} {seen : Array Nat} {M : κ → Option β} {e : MapEntry} (i j : Nat) (hi : C[i]? = some (.obj r (.mapIter (some b) since (seen.push e.born) clock))) (hj : C[j]? = some (.obj b (.map es clock))) (hx : ev (fr f s) x = .pointer (some ⟨r, 0, none⟩))
    (hm : KM L ew es clock M) (he : e ∈ es.toList) : Qt P (St B Φ C) f s ⟨dst, .entry x, ty, pos, af, g⟩ (.tuple #[e.key, e.val]) := qt_val fun w hw => by
  have hr : w.heap[r]? = some (.mapIter (some b) since (seen.push e.born) clock) := hw.sat _ (List.mem_of_getElem? hi)
  have hb : w.heap[b]? = some (.map es clock) := hw.sat _ (List.mem_of_getElem? hj)
  have := run_entry_at (P := P) w r b since seen es clock e hr hb he hm.born
  simp only [execOp, hx, Sem.run_bind, this, Result.andThen_ok, Sem.run_pure]
end
end Go.K
namespace Go.K
open Go Go.RowKit
variable {Pn : List PanicEntry → World → Prop} {Φ : Hp}
section
variable {P : Program} {J : Cls} {f : Nat → Value} {s : List (Nat × Value)} {dst : Option Nat} {ty : TypeId} {pos : String} {af : Array Edge} {g : Option (Nat × Bool)} {x y : Operand} {t e : TypeId} {n sz : Nat}
theorem q_buildArr {parts : Array (Nat × Operand)} {vals : List (Nat × Value)} {z : Value} {cells : Array Value} (hz : (P.info? t).map (·.zero) = some (some z)) (hT : P.underlying t = some (.array n e)) (hsz : (P.info? e).map (·.size) = some sz)
    (hv : parts.toList.map (fun p => (p.1, ev (fr f s) p.2)) = vals) (hf : Instr.fill (fun i => some (i * sz, sz)) z.cells vals = some cells) : Qt P J f s ⟨dst, .build t parts, ty, pos, af, g⟩ (.agg cells) := qt_val fun w _ => by
  obtain ⟨ti, hti, hzz⟩ := mS hz
  obtain ⟨ei, hei, hes⟩ := mS hsz
  have hv' : (parts.map (fun (i, x) => (i, ev (fr f s) x))).toList = vals := by rw [← hv]; simp
  subst hv'
  simp only [execOp, Instr.build, Sem.run_bind, zeroValue, typeInfo, run_program, Result.andThen_ok, hti, hzz, Sem.run_pure, run_underlying hT, sizeOf, hei, hes, hf]
theorem q_indexAddrA {p q : Addr} {i : Int} (hx : ev (fr f s) x = .pointer (some p)) (hy : ev (fr f s) y = .int .i64 i) (hT : P.underlying t = some (.array n e)) (hsz : (P.info? e).map (·.size) = some sz) (h0 : 0 ≤ i) (hn : i < n) (hq : q = p.add (i.toNat * sz)) :
    Qt P J f s ⟨dst, .indexAddr t x y, ty, pos, af, g⟩ (.pointer (some q)) := qt_val fun w _ => by
  obtain ⟨ti, hi, hti⟩ := mS hsz
  subst hq
  simp [execOp, hx, hy, Instr.indexAt, asIntOf, run_underlying hT, sizeOf, typeInfo, hi, hti, h0, hn, Instr.sureAddr]
theorem q_indexA1 {cs : Array Value} {v : Value} {i : Int} {d : TypeDesc} (hx : ev (fr f s) x = .agg cs) (hy : ev (fr f s) y = .int .i64 i) (hT : P.underlying t = some (.array n e)) (hE : P.underlying e = some d) (hd : isAggD d = false) (hsz : (P.info? e).map (·.size) = some 1) (h0 : 0 ≤ i) (hn : i < n) (hv : cs[i.toNat]? = some v) :
    Qt P J f s ⟨dst, .index t x y, ty, pos, af, g⟩ v := qt_val fun w _ => by
  have hsize : ∀ w, (sizeOf e).run P w = .ok 1 w := run_size hsz
  have hp := run_part1 (P := P) hE hd (cs := cs) (o := i.toNat) hv w
  simp only [execOp, hx, hy, Instr.index, asIntOf, Sem.run_bind, Sem.run_pure, run_underlying hT, Result.andThen_ok, if_pos (And.intro h0 hn), hsize, Nat.mul_one, hp]
theorem run_eqItems_int {k : IntKind} (hE : P.underlying e = some (.int k)) (d : Nat) (w : World) : ∀ (as bs : List Int) (o : Nat) (xs ys : Array Value), as.length = bs.length → (∀ j, j < as.length → xs[o + j]? = some (.int k (as.getD j 0))) → (∀ j, j < bs.length → ys[o + j]? = some (.int k (bs.getD j 0))) →
    (Op.eqItems (d + 1) e 1 xs ys (List.range' o as.length)).run P w = .ok (decide (as = bs)) w
  | [], [], o, xs, ys, _, _, _ => by simp [Op.eqItems]
  | [], _ :: _, _, _, _, h, _, _ => by simp at h
  | _ :: _, [], _, _, _, h, _, _ => by simp at h
  | a :: as, b :: bs, o, xs, ys, hl, h1, h2 => by
    have p1 := run_part1 (P := P) hE rfl (cs := xs) (o := o) (h1 0 (by simp)) w
    have p2 := run_part1 (P := P) hE rfl (cs := ys) (o := o) (h2 0 (by simp)) w
    have ih := run_eqItems_int hE d w as bs (o + 1) xs ys (by simpa using hl) (fun j hj => by have := h1 (j + 1) (by simpa using hj); rw [show o + (j + 1) = o + 1 + j by omega] at this; simpa using this) (fun j hj => by have := h2 (j + 1) (by simpa using hj); rw [show o + (j + 1) = o + 1 + j by omega] at this; simpa using this)
    rw [List.length_cons, List.range'_succ]
    simp only [Op.eqItems, Nat.mul_one, Sem.run_bind, p1, p2, Result.andThen_ok, List.getD_cons_zero, run_equalIn_int w d e k k a b hE]
    by_cases hab : a = b
    · subst hab
      simp [ih]
    · have : (a == b) = false := by simpa using hab
      simp [this, hab]
theorem run_equal_ints {k : IntKind} (hT : P.underlying t = some (.array n e)) (hE : P.underlying e = some (.int k)) (hi : ∃ ti, P.info? e = some ti) (hc : P.cellsOf e = 1) (as bs : List Int) (ha : as.length = n) (hb : bs.length = n) (w : World) :
    (Op.equal t (.agg (as.map (Value.int k)).toArray) (.agg (bs.map (Value.int k)).toArray)).run P w = .ok (decide (as = bs)) w := by
  obtain ⟨ti, hti⟩ := hi
  show (Op.equalIn (9999 + 1) t _ _).run P w = _
  rw [run_equalIn_array w 9999 _ _ hT hti, hc, List.range_eq_range', ← ha]
  exact run_eqItems_int hE 9998 w as bs 0 _ _ (ha.trans hb.symm) (fun j hj => by simp [hj]) (fun j hj => by simp [hj])
end
end Go.K
