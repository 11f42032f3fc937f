/- Literal rows as lists. Conditions: those of each theorem. -/
import Derived.Test.YtjcahklnkakklaaDoorTCore7
import Derived.Maps.Keyed
import Derived.Maps.RangeRun
import Derived.ChangeKeysEq
namespace Go.K
open Go Go.RowKit
section
variable {α : Type} [Rep α]
/-- element by element -/
def Reps (Φ : Hp) : List α → List (List Value) → Prop
  | [], [] => True
  | x :: xs, c :: cs => Rep.rep Φ x c ∧ Reps Φ xs cs
  | _, _ => False
theorem Reps.get {Φ : Hp} : ∀ {xs : List α} {cs : List (List Value)}, Reps Φ xs cs → ∀ (i : Nat) (hi : i < xs.length), ∃ c, Rep.rep Φ xs[i] c ∧ ∀ j u, c[j]? = some u → cs.flatten[i * Rep.sz α + j]? = some u
  | [], _, _, i, hi => absurd hi (Nat.not_lt_zero _)
  | x :: xs, [], h, _, _ => h.elim
  | x :: xs, c :: cs, h, 0, _ => ⟨c, h.1, fun j u hj => by
      rw [Nat.zero_mul, Nat.zero_add, List.flatten_cons, List.getElem?_append_left (List.getElem?_eq_some_iff.1 hj).1]; exact hj⟩
  | x :: xs, c :: cs, h, i + 1, hi => by
    obtain ⟨c', h1, h2⟩ := h.2.get i (Nat.lt_of_succ_lt_succ hi)
    refine ⟨c', h1, fun j u hj => ?_⟩
    have hl : c.length = Rep.sz α := Rep.len h.1
    rw [List.flatten_cons, List.getElem?_append_right (by rw [hl, Nat.succ_mul]; omega), hl, show (i + 1) * Rep.sz α + j - Rep.sz α = i * Rep.sz α + j by rw [Nat.succ_mul]; omega]
    exact h2 j u hj
end
end Go.K
namespace Go.K
open Go Go.RowKit
section
variable {α : Type} [Rep α]
/-- the values of a list of lists -/
theorem RepSl.vals {Φ : Hp} {xss : List (List α)} {v : Value} (h : RepSl Φ xss v) : ∃ vs : List Value, vs.length = xss.length ∧ (∀ j u, vs[j]? = some u → PCell Φ (Value.at v j) u) ∧ (∀ i, i < xss.length → RepSl Φ (xss.getD i []) (vs.getD i undef)) ∧ vs.all Value.oneCell' = true := by
  have key : ∀ n, n ≤ xss.length → ∃ vs : List Value, vs.length = n ∧ (∀ j u, vs[j]? = some u → PCell Φ (Value.at v j) u) ∧ (∀ i, i < n → RepSl Φ (xss.getD i []) (vs.getD i undef)) ∧ vs.all Value.oneCell' = true := by
    intro n
    induction n with
    | zero => exact fun _ => ⟨[], rfl, fun j u hj => by simp at hj, fun i hi => absurd hi (Nat.not_lt_zero _), rfl⟩
    | succ n ih =>
      intro hn
      obtain ⟨vs, h1, h2, h3, h4⟩ := ih (by omega)
      obtain ⟨sv, k1, k2⟩ := h.sub (k := n) (by omega)
      rw [Nat.mul_one] at k2
      refine ⟨vs ++ [sv], by simp [h1], fun j u hj => ?_, fun i hi => ?_, ?_⟩
      · rcases Nat.lt_or_ge j vs.length with hl | hl
        · rw [List.getElem?_append_left hl] at hj; exact h2 j u hj
        · rw [List.getElem?_append_right hl] at hj
          have hj0 : j - vs.length = 0 := by
            have := (List.getElem?_eq_some_iff.1 hj).1
            simpa using this
          obtain rfl : j = n := by omega
          rw [hj0] at hj
          obtain rfl : sv = u := by simpa using hj
          exact k2
      · rcases Nat.lt_or_ge i n with hl | hl
        · rw [List.getD_eq_getElem?_getD (l := vs ++ [sv]), List.getElem?_append_left (by omega), ← List.getD_eq_getElem?_getD]; exact h3 i hl
        · obtain rfl : i = n := by omega
          rw [List.getD_eq_getElem?_getD (l := vs ++ [sv]), List.getElem?_append_right (by omega), h1, Nat.sub_self]; exact k1
      · rw [List.all_append, h4]
        simp [k1.oneCell]
  exact key xss.length (Nat.le_refl _)
theorem RowS.lists {Φ : Hp} {v : Value} {T n : Nat} {vs : List Value} {xss : List (List α)} (h : RowS Φ v T 1 n vs) (hl : vs.length = xss.length) (hn : xss.length = n) (hr : ∀ i, i < xss.length → RepSl Φ (xss.getD i []) (vs.getD i undef)) (hm : n * 24 ≤ maxSl) : RepSl Φ xss v :=
  RowS.rep h hn hm fun i hi => ⟨[vs.getD i undef], ⟨_, rfl, by have h9 := hr i hi; rw [List.getD_eq_getElem?_getD, List.getElem?_eq_getElem hi] at h9; exact h9⟩, fun j u hj => by
    have hj0 : j = 0 := by
      have := (List.getElem?_eq_some_iff.1 hj).1
      simpa using this
    subst hj0
    obtain rfl : vs.getD i undef = u := by simpa using hj
    show vs[i * 1 + 0]? = _
    rw [Nat.mul_one, Nat.add_zero]
    exact getD_some (by omega)⟩
end
end Go.K
namespace Go.K
open Go Go.RowKit
/-- what the steps on a map need of its keys -/
structure KL (P : Program) (kt : TypeId) (κ : Type) where
  enc : κ → Value
  good : κ → Prop
  inj : ∀ {a b : κ}, enc a = enc b → a = b
  check : ∀ (w : World) (em : Bool) (a : κ), good a → (Instr.checkKey em 10000 kt (enc a)).run P w = .ok () w
  find : ∀ (w : World) (a : κ), good a → ∀ es : List MapEntry, (∀ e ∈ es, ∃ k, good k ∧ e.key = enc k) →
    ((Instr.findKey kt (enc a) es).run P w = .ok none w ∧ ∀ e ∈ es, e.key ≠ enc a) ∨ ∃ j e, (Instr.findKey kt (enc a) es).run P w = .ok (some (j, e.val)) w ∧ es[j]? = some e ∧ e.key = enc a
  stays : ∀ (w : World) (a : κ), good a → (Instr.keyThatStays (enc a) (enc a)).run P w = .ok (enc a) w
def KL.of {P : Program} {kt : TypeId} {κ : Type} (K : Maps.Keyed P kt) (enc : κ → Value) (good : κ → Prop) (inj : ∀ {a b : κ}, enc a = enc b → a = b) (hk : ∀ a, good a → ∃ l, keyOf P kt (enc a) = some l) : KL P kt κ where
  enc := enc
  good := good
  inj := inj
  check := fun w em a ha => let ⟨_, hl⟩ := hk a ha; K.check w em hl
  find := fun w a ha es hes => by
    obtain ⟨l, hl⟩ := hk a ha
    exact K.find w hl es fun e he => by obtain ⟨k, hg, hke⟩ := hes e he; rw [hke]; exact hk k hg
  stays := fun w a ha => let ⟨_, hl⟩ := hk a ha; K.stays w hl
/-- what a map's entries say: the function M -/
structure KM {P : Program} {kt : TypeId} {κ β : Type} (L : KL P kt κ) (ev : β → Value) (es : Array MapEntry) (clock : Nat) (M : κ → Option β) : Prop where
  dec : ∀ e ∈ es.toList, ∃ k x, L.good k ∧ e.key = L.enc k ∧ M k = some x ∧ e.val = ev x
  has : ∀ k x, M k = some x → ∃ e ∈ es.toList, e.key = L.enc k
  dist : es.toList.Pairwise fun x y => x.key ≠ y.key
  old : ∀ e ∈ es.toList, e.born < clock
  born : (es.toList.map (·.born)).Nodup
section
variable {P : Program} {kt : TypeId} {κ β : Type} {L : KL P kt κ} {ev : β → Value} {es : Array MapEntry} {clock : Nat} {M : κ → Option β}
/-- what the map holds at a key -/
theorem KM.find (h : KM L ev es clock M) {k : κ} (hk : L.good k) (w : World) : (M k = none ∧ (Instr.findKey kt (L.enc k) es.toList).run P w = .ok none w) ∨ ∃ j e x, (Instr.findKey kt (L.enc k) es.toList).run P w = .ok (some (j, e.val)) w ∧ es.toList[j]? = some e ∧ e.key = L.enc k ∧ M k = some x ∧ e.val = ev x := by
  rcases L.find w k hk es.toList (fun e he => let ⟨k, x, h1, h2, _⟩ := h.dec e he; ⟨k, h1, h2⟩) with ⟨h1, h2⟩ | ⟨j, e, h1, h2, h3⟩
  · left
    refine ⟨?_, h1⟩
    cases hm : M k with
    | none => rfl
    | some x => obtain ⟨e, he, hke⟩ := h.has k x hm; exact absurd hke (h2 e he)
  · right
    obtain ⟨k', x, _, g2, g3, g4⟩ := h.dec e (List.mem_of_getElem? h2)
    have : k' = k := L.inj (g2.symm.trans h3)
    subst this
    exact ⟨j, e, x, h1, h2, h3, g3, g4⟩
theorem KM.push (h : KM L ev es clock M) {k : κ} (hk : L.good k) (hn : M k = none) (x : β) [DecidableEq κ] : KM L ev (es.push ⟨L.enc k, ev x, clock⟩) (clock + 1) (fun j => if j = k then some x else M j) := by
  have hne : ∀ e ∈ es.toList, e.key ≠ L.enc k := fun e he hke => by
    obtain ⟨k', y, _, g2, g3, _⟩ := h.dec e he
    have : k' = k := L.inj (g2.symm.trans hke)
    subst this
    rw [hn] at g3; cases g3
  refine ⟨fun e he => ?_, fun j y hj => ?_, ?_, fun e he => ?_, ?_⟩
  · rw [Array.toList_push] at he
    rcases List.mem_append.1 he with he2 | he2
    · obtain ⟨k', y, g1, g2, g3, g4⟩ := h.dec e he2
      refine ⟨k', y, g1, g2, ?_, g4⟩
      rw [if_neg]
      · exact g3
      · intro e9; rw [e9] at g2; exact hne e he2 g2
    · obtain rfl := List.mem_singleton.1 he2
      exact ⟨k, x, hk, rfl, if_pos rfl, rfl⟩
  · rw [Array.toList_push]
    by_cases hjk : j = k
    · subst hjk; exact ⟨_, List.mem_append_right _ (List.mem_singleton.2 rfl), rfl⟩
    · rw [if_neg hjk] at hj
      obtain ⟨e, he, hke⟩ := h.has j y hj
      exact ⟨e, List.mem_append_left _ he, hke⟩
  · rw [Array.toList_push]
    exact List.pairwise_append.2 ⟨h.dist, List.pairwise_singleton _ _, fun a ha b hb => by obtain rfl := List.mem_singleton.1 hb; exact hne a ha⟩
  · rw [Array.toList_push] at he
    rcases List.mem_append.1 he with he | he
    · have := h.old e he; omega
    · obtain rfl := List.mem_singleton.1 he; show clock < clock + 1; omega
  · rw [Array.toList_push, List.map_append]
    refine List.nodup_append.2 ⟨h.born, by simp, fun a ha b hb => ?_⟩
    obtain ⟨e, he, rfl⟩ := List.mem_map.1 ha
    have := h.old e he
    simp at hb
    omega
theorem KM.put (h : KM L ev es clock M) {k : κ} (hk : L.good k) {j : Nat} {e : MapEntry} (hj : es.toList[j]? = some e) (hke : e.key = L.enc k) (x : β) [DecidableEq κ] : KM L ev (es.modify j fun e => { e with key := L.enc k, val := ev x }) clock (fun i => if i = k then some x else M i) := by
  have hjl := (List.getElem?_eq_some_iff.1 hj).1
  have hget : ∀ i, (es.modify j fun e => { e with key := L.enc k, val := ev x }).toList[i]? = if i = j then some { e with key := L.enc k, val := ev x } else es.toList[i]? := fun i => by
    rw [Array.toList_modify, List.getElem?_modify]
    by_cases hij : j = i
    · subst hij; simp [hj]
    · rw [if_neg (fun e => hij e.symm)]; simp [hij]
  have hkeys : (es.modify j fun e => { e with key := L.enc k, val := ev x }).toList.map (·.key) = es.toList.map (·.key) := by
    apply List.ext_getElem?
    intro i
    rw [List.getElem?_map, List.getElem?_map, hget]
    by_cases hij : i = j
    · subst hij; rw [if_pos rfl, hj]; simp [hke]
    · rw [if_neg hij]
  have hborn : (es.modify j fun e => { e with key := L.enc k, val := ev x }).toList.map (·.born) = es.toList.map (·.born) := by
    apply List.ext_getElem?
    intro i
    rw [List.getElem?_map, List.getElem?_map, hget]
    by_cases hij : i = j
    · subst hij; rw [if_pos rfl, hj]; rfl
    · rw [if_neg hij]
  refine ⟨fun a ha => ?_, fun i y hi => ?_, ?_, fun a ha => ?_, by rw [hborn]; exact h.born⟩
  · obtain ⟨i, hi⟩ := List.mem_iff_getElem?.1 ha
    rw [hget] at hi
    by_cases hij : i = j
    · rw [if_pos hij] at hi
      obtain rfl := Option.some.inj hi
      exact ⟨k, x, hk, rfl, if_pos rfl, rfl⟩
    · rw [if_neg hij] at hi
      obtain ⟨k', y, g1, g2, g3, g4⟩ := h.dec a (List.mem_of_getElem? hi)
      refine ⟨k', y, g1, g2, ?_, g4⟩
      rw [if_neg]
      · exact g3
      · rintro rfl
        apply hij
        obtain ⟨hil, hie⟩ := List.getElem?_eq_some_iff.1 hi
        obtain ⟨_, hje⟩ := List.getElem?_eq_some_iff.1 hj
        rcases Nat.lt_trichotomy i j with hlt | heq | hlt
        · exact absurd (by rw [hie, hje, g2, hke]) (List.pairwise_iff_getElem.1 h.dist i j hil hjl hlt)
        · exact heq
        · exact absurd (by rw [hie, hje, g2, hke]) (List.pairwise_iff_getElem.1 h.dist j i hjl hil hlt)
  · have key : ∃ e ∈ es.toList, e.key = L.enc i := by
      by_cases hik : i = k
      · subst hik; exact ⟨e, List.mem_of_getElem? hj, hke⟩
      · rw [if_neg hik] at hi; exact h.has i y hi
    obtain ⟨e', he', hke'⟩ := key
    have : L.enc i ∈ es.toList.map (·.key) := List.mem_map.2 ⟨e', he', hke'⟩
    rw [← hkeys] at this
    obtain ⟨a, ha, hak⟩ := List.mem_map.1 this
    exact ⟨a, ha, hak⟩
  · have h9 := (List.pairwise_map (f := fun e : MapEntry => e.key) (R := (· ≠ ·))).2 h.dist
    rw [← hkeys] at h9
    exact (List.pairwise_map (f := fun e : MapEntry => e.key) (R := (· ≠ ·))).1 h9
  · have : a.born ∈ es.toList.map (·.born) := by rw [← hborn]; exact List.mem_map.2 ⟨a, ha, rfl⟩
    obtain ⟨e', he', hb⟩ := List.mem_map.1 this
    rw [← hb]; exact h.old e' he'
end
section
variable {P : Program} {B : Bs} {Φ : Hp} {C : List Chunk} {f : Nat → Value} {s : List (Nat × Value)} {dst : Option Nat} {ty : TypeId} {pos : String} {af : Array Edge} {g : Option (Nat × Bool)} {x y z : Operand} {t kt et : TypeId} {κ β : Type} {L : KL P kt κ} {ew : β → Value}
/-! ### the loop over a map -/
end
end Go.K
namespace Go.K
open Go Go.RowKit
section
variable {P : Program} {J : Cls} {f : Nat → Value} {s : List (Nat × Value)} {dst : Option Nat} {ty : TypeId} {pos : String} {af : Array Edge} {g : Option (Nat × Bool)} {x y : Operand} {t e : TypeId} {n sz : Nat}
end
end Go.K
