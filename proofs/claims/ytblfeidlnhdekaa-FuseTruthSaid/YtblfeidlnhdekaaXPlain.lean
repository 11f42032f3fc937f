/- Plain facts of the layer: spans, gauges, curves. Conditions: those of each theorem. -/
import Derived.Test.YtblfeidlnhdekaaXData
namespace Fu
/-! ### lists -/
theorem lt_succ {P : Nat → Prop} {k : Nat} (h : ∀ j, j < k → P j) (hk : P k) : ∀ j, j < k + 1 → P j := fun j hj => by
  rcases Nat.lt_or_eq_of_le (Nat.lt_succ_iff.1 hj) with h1 | h1
  · exact h j h1
  · subst h1; exact hk
theorem getD_ext {α : Type} (d : α) {l r : List α} (hl : l.length = r.length) (h : ∀ j, j < l.length → l.getD j d = r.getD j d) : l = r := by
  apply List.ext_getElem hl
  intro i h1 h2
  have := h i h1
  simpa [List.getD_eq_getElem?_getD, h1, h2] using this
theorem mem_t {xs : List Int} {v : Int} {k : Nat} (hk : k < xs.length) (h : xs.getD k 0 = v) : v ∈ xs := by
  rw [← h, List.getD_eq_getElem?_getD, List.getElem?_eq_getElem hk]
  exact List.getElem_mem hk
theorem mem_f {xs : List Int} {v : Int} (h : ∀ j, j < xs.length → xs.getD j 0 ≠ v) : v ∉ xs := fun hm => by
  obtain ⟨i, hi, e⟩ := List.mem_iff_getElem.1 hm
  have := h i hi
  rw [List.getD_eq_getElem?_getD, List.getElem?_eq_getElem hi] at this
  exact this e
def idx (xs : List Int) (v : Int) : Int := if v ∈ xs then ((xs.findIdx fun x => decide (x = v) : Nat) : Int) else -1
theorem idx_hit {xs : List Int} {v : Int} {k : Nat} (hk : k < xs.length) (h : ∀ j, j < k → xs.getD j 0 ≠ v) (he : xs.getD k 0 = v) : idx xs v = (k : Int) := by
  unfold idx
  rw [if_pos (mem_t hk he)]
  have : xs.findIdx (fun x => decide (x = v)) = k := by
    refine (List.findIdx_eq hk).2 ⟨?_, fun j hj => ?_⟩
    · rw [List.getD_eq_getElem?_getD, List.getElem?_eq_getElem hk] at he; exact decide_eq_true he
    · have h1 := h j hj
      rw [List.getD_eq_getElem?_getD, List.getElem?_eq_getElem (Nat.lt_trans hj hk)] at h1; exact decide_eq_false h1
  rw [this]
theorem idx_miss {xs : List Int} {v : Int} (h : ∀ j, j < xs.length → xs.getD j 0 ≠ v) : idx xs v = -1 := by
  unfold idx; rw [if_neg (mem_f h)]
theorem idx_mem (xs : List Int) (v : Int) : decide (0 ≤ idx xs v) = decide (v ∈ xs) := by
  unfold idx
  by_cases h : v ∈ xs
  · rw [if_pos h, decide_eq_true h]; exact decide_eq_true (by omega)
  · rw [if_neg h, decide_eq_false h]; rfl
theorem span_ext {x y : Bt.Span} (h : decide (x.Lo = y.Lo) && decide (x.Hi = y.Hi)) : x = y := by
  cases x; cases y; simp at h; simp [h]
/-! ### spans -/
def addS (x y : Int) : Int := if 9223372036854775807 < x + y then 9223372036854775807 else if x + y < -9223372036854775808 then -9223372036854775808 else x + y
def meet (a b c d : Int) : Option Bt.Span := if max a c ≤ min b d then some ⟨max a c, min b d⟩ else none
def loOf (o : Option Bt.Span) : Int := match o with | some s => s.Lo | none => 0
def hiOf (o : Option Bt.Span) : Int := match o with | some s => s.Hi | none => 0
/-! ### gauges -/
def inG (gs : List Bt.Gauge) (i : Int) : Prop := 0 ≤ i ∧ i < (gs.length : Int)
instance (gs : List Bt.Gauge) (i : Int) : Decidable (inG gs i) := inferInstanceAs (Decidable (_ ∧ _))
def gaugeAt (gs : List Bt.Gauge) (i : Int) : Bt.Gauge := if inG gs i then gs.getD i.toNat default else default
/-! ### curves -/
def px (c : List Bt.Point) (i : Nat) : Int := (c.getD i default).X
def py (c : List Bt.Point) (i : Nat) : Int := (c.getD i default).Y
def PtOk (c : List Bt.Point) (i : Nat) : Prop := (0 ≤ px c i ∧ px c i ≤ 1125899906842624) ∧ (0 ≤ py c i ∧ py c i ≤ 1125899906842624) ∧ (0 < i → px c (i - 1) < px c i ∧ py c (i - 1) ≤ py c i)
instance (c : List Bt.Point) (i : Nat) : Decidable (PtOk c i) := inferInstanceAs (Decidable (_ ∧ _ ∧ (_ → _)))
def RightC (c : List Bt.Point) : Prop := (1 ≤ c.length ∧ c.length ≤ 32) ∧ ∀ i, i < c.length → PtOk c i
instance (c : List Bt.Point) : Decidable (RightC c) := inferInstanceAs (Decidable (_ ∧ ∀ i, i < c.length → PtOk c i))
/-- the value between the points i - 1 and i -/
def atSeg (c : List Bt.Point) (i : Nat) (x : Int) : Int := py c (i - 1) + (x - px c (i - 1)) * (py c i - py c (i - 1)) / (px c i - px c (i - 1))
/-- the first point that is not left of x -/
def posX (c : List Bt.Point) (x : Int) : Nat := c.findIdx fun p => decide (x ≤ p.X)
def valC (c : List Bt.Point) (x : Int) : Int := if posX c x = 0 then py c 0 else if posX c x < c.length then atSeg c (posX c x) x else py c (c.length - 1)
/-- is there a rest -/
def remC (c : List Bt.Point) (x : Int) : Bool := if posX c x = 0 then false else if posX c x < c.length then decide (0 < (x - px c (posX c x - 1)) * (py c (posX c x) - py c (posX c x - 1)) % (px c (posX c x) - px c (posX c x - 1))) else false
def atC (c : List Bt.Point) (x : Int) : Int := if RightC c then valC c x else 0
def posY (c : List Bt.Point) (y : Int) : Nat := c.findIdx fun p => decide (y ≤ p.Y)
theorem findIdx_is {α : Type} [Inhabited α] {p : α → Bool} {l : List α} {i : Nat} (hi : i ≤ l.length) (h1 : i < l.length → p (l.getD i default) = true) (h2 : ∀ j, j < i → p (l.getD j default) = false) : l.findIdx p = i := by
  rcases Nat.lt_or_eq_of_le hi with h | h
  · refine (List.findIdx_eq h).2 ⟨?_, fun j hj => ?_⟩
    · have := h1 h; rwa [List.getD_eq_getElem?_getD, List.getElem?_eq_getElem h] at this
    · have := h2 j hj; rwa [List.getD_eq_getElem?_getD, List.getElem?_eq_getElem (Nat.lt_trans hj h)] at this
  · subst h
    refine List.findIdx_eq_length.2 fun x hx => ?_
    obtain ⟨j, hj, rfl⟩ := List.mem_iff_getElem.1 hx
    have := h2 j hj
    rwa [List.getD_eq_getElem?_getD, List.getElem?_eq_getElem hj] at this
theorem posX_is {c : List Bt.Point} {x : Int} {i : Nat} (hi : i ≤ c.length) (h1 : i < c.length → x ≤ px c i) (h2 : ∀ j, j < i → px c j < x) : posX c x = i :=
  findIdx_is hi (fun h => decide_eq_true (h1 h)) (fun j hj => decide_eq_false (Int.not_le.2 (h2 j hj)))
/-- the least volume at which the curve is at least y -/
def leastC (c : List Bt.Point) (y : Int) : Option Int :=
  if RightC c ∧ y ≤ py c (c.length - 1) then
    (if posY c y = 0 then some 0 else some (px c (posY c y - 1) + ((y - py c (posY c y - 1)) * (px c (posY c y) - px c (posY c y - 1)) / (py c (posY c y) - py c (posY c y - 1)) + (if (y - py c (posY c y - 1)) * (px c (posY c y) - px c (posY c y - 1)) % (py c (posY c y) - py c (posY c y - 1)) > 0 then 1 else 0))))
  else none
def hiC (o : Option Int) : Int := match o with | some a => a - 1 | none => 1125899906842624
def volL (c : List Bt.Point) (lo hi : Int) : Option Bt.Span :=
  match leastC c lo with
  | none => none
  | some l => meet l (hiC (leastC c (addS hi 1))) 0 1125899906842624
/-- the volumes of a reading -/
def VolOk (b : Bt.Basin) (r : Bt.Reading) : Prop := inG b.Gauges r.Gauge ∧ (gaugeAt b.Gauges r.Gauge).Kind = 0 ∧ 0 ≤ (gaugeAt b.Gauges r.Gauge).Target ∧ (gaugeAt b.Gauges r.Gauge).Target < (b.Places.length : Int)
instance (b : Bt.Basin) (r : Bt.Reading) : Decidable (VolOk b r) := inferInstanceAs (Decidable (_ ∧ _ ∧ _ ∧ _))
def levelOf (b : Bt.Basin) (r : Bt.Reading) : List Bt.Point := (b.Places.getD (gaugeAt b.Gauges r.Gauge).Target.toNat default).Level
def volR (b : Bt.Basin) (r : Bt.Reading) : Option Bt.Span := if VolOk b r then volL (levelOf b r) r.Value.Lo r.Value.Hi else none
/-! ### a list without neighbours that are alike -/
def appU (acc : List Int) (x : Int) : List Int := if acc.getLast? = some x then acc else acc ++ [x]
def comp (L : List Int) : List Int := L.foldl appU []
theorem comp_snoc (L : List Int) (x : Int) : comp (L ++ [x]) = appU (comp L) x := by simp [comp]
theorem take_snocI {L : List Int} {k : Nat} (h : k < L.length) : L.take (k + 1) = L.take k ++ [L.getD k 0] := by
  rw [List.take_succ_eq_append_getElem h, List.getD_eq_getElem?_getD, List.getElem?_eq_getElem h]; rfl
theorem comp_last : ∀ {L : List Int} {k : Nat}, 0 < k → k ≤ L.length → (comp (L.take k)).getLast? = some (L.getD (k - 1) 0) := fun {L k} h0 hk => by
  obtain ⟨j, rfl⟩ : ∃ j, k = j + 1 := ⟨k - 1, by omega⟩
  rw [take_snocI (by omega), comp_snoc, Nat.add_sub_cancel]
  unfold appU
  split
  · assumption
  · simp
theorem comp_id {L : List Int} : ∀ {k : Nat}, k ≤ L.length → (∀ j, 1 ≤ j → j < k → L.getD j 0 ≠ L.getD (j - 1) 0) → comp (L.take k) = L.take k
  | 0, _, _ => by simp [comp]
  | k + 1, hk, h => by
    have ih := comp_id (k := k) (by omega) (fun j h1 h2 => h j h1 (by omega))
    rw [take_snocI (by omega), comp_snoc, ih]
    unfold appU
    rw [if_neg]
    rcases Nat.eq_zero_or_pos k with h0 | h0
    · subst h0; simp
    · have := comp_last (L := L) h0 (by omega)
      rw [ih] at this
      rw [this]
      intro he
      exact h k h0 (by omega) (Option.some.inj he).symm
theorem comp_eq {L : List Int} {k : Nat} (h0 : 0 < k) (hk : k < L.length) (h : L.getD k 0 = L.getD (k - 1) 0) : comp (L.take (k + 1)) = comp (L.take k) := by
  rw [take_snocI hk, comp_snoc, appU, comp_last h0 (by omega), h, if_pos rfl]
theorem comp_ne {L : List Int} {k : Nat} (h0 : 0 < k) (hk : k < L.length) (h : L.getD k 0 ≠ L.getD (k - 1) 0) : comp (L.take (k + 1)) = comp (L.take k) ++ [L.getD k 0] := by
  rw [take_snocI hk, comp_snoc, appU, comp_last h0 (by omega), if_neg (fun e => h (Option.some.inj e).symm)]
/-- what the list K holds while it is made without alike neighbours: up to p looked at, k kept -/
structure CmI (L K : List Int) (k p : Nat) : Prop where
  len : K.length = L.length
  pre : K.take k = comp (L.take p)
  kl : k = (comp (L.take p)).length
  post : ∀ j, p ≤ j + 1 → j < L.length → K.getD j 0 = L.getD j 0
  kp : k + 1 ≤ p
theorem CmI.start {L : List Int} {k : Nat} (h0 : 0 < k) (hk : k < L.length) (h : L.getD k 0 = L.getD (k - 1) 0) (hid : ∀ j, 1 ≤ j → j < k → L.getD j 0 ≠ L.getD (j - 1) 0) : CmI L L k (k + 1) := by
  have h1 := comp_id (Nat.le_of_lt hk) hid
  have h2 := comp_eq h0 hk h
  exact ⟨rfl, by rw [h2, h1], by rw [h2, h1, List.length_take]; omega, fun _ _ _ => rfl, Nat.le_refl _⟩
theorem CmI.keep {L K : List Int} {k p : Nat} (h : CmI L K k p) (hp : p < L.length) (he : L.getD p 0 = L.getD (p - 1) 0) : CmI L K k (p + 1) := by
  have h1 := h.kp
  have h2 := comp_eq (L := L) (show 0 < p by omega) hp he
  exact ⟨h.len, by rw [h2]; exact h.pre, by rw [h2]; exact h.kl, fun j hj hl => h.post j (by omega) hl, by omega⟩
theorem CmI.put {L K : List Int} {k p : Nat} (h : CmI L K k p) (hp : p < L.length) (he : L.getD p 0 ≠ L.getD (p - 1) 0) : CmI L (K.set k (L.getD p 0)) (k + 1) (p + 1) := by
  have h1 := h.kp
  have hl := h.len
  have h2 := comp_ne (L := L) (show 0 < p by omega) hp he
  refine ⟨by simp [hl], ?_, by rw [h2, List.length_append, ← h.kl]; rfl, fun j hj hlj => ?_, by omega⟩
  · rw [h2, ← h.pre, take_snocI (by simp; omega)]
    have e1 : (K.set k (L.getD p 0)).take k = K.take k := by rw [List.take_set]; exact List.set_eq_of_length_le (by rw [List.length_take]; omega)
    have e2 : (K.set k (L.getD p 0)).getD k 0 = L.getD p 0 := by rw [List.getD_eq_getElem?_getD, List.getElem?_set_self (by omega)]; rfl
    rw [e1, e2]
  · rw [List.getD_eq_getElem?_getD, List.getElem?_set_ne (by omega), ← List.getD_eq_getElem?_getD]
    exact h.post j (by omega) hlj
def narV (L : List Bt.Span) (i : Nat) (lo hi : Int) : List Bt.Span := match meet (L.getD i default).Lo (L.getD i default).Hi lo hi with | some z => L.set i z | none => L
def narL (L : List Bt.Known) (i : Nat) (lo hi : Int) : List Bt.Known := match meet (L.getD i default).Pos.Lo (L.getD i default).Pos.Hi lo hi with | some z => L.set i ⟨z, (L.getD i default).Target, (L.getD i default).Open⟩ | none => L
def cmpI (x y : Int) : Int := if x < y then -1 else if y < x then 1 else 0
theorem cmp_lt {x y : Int} : cmpI x y < 0 ↔ x < y := by unfold cmpI; split <;> (try split) <;> omega
def Few (b : Bt.Basin) (h : Bt.Hull) : Prop := (∀ i, i < b.Places.length → i < 21 → (b.Places.getD i default).Level.length ≤ 40) ∧ b.Places.length ≤ 20 ∧ b.Gauges.length ≤ 20 ∧ h.Vol.length ≤ 20 ∧ h.Links.length ≤ 20 ∧ h.Queue.length ≤ 60
instance (b : Bt.Basin) (h : Bt.Hull) : Decidable (Few b h) := inferInstanceAs (Decidable ((∀ i, i < b.Places.length → i < 21 → (b.Places.getD i default).Level.length ≤ 40) ∧ _))
def intOf (o : Option Int) : Int := match o with | some x => x | none => 0
end Fu
