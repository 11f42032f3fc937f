/- Lemmas. Conditions: those of each theorem. -/
import Derived.Test.YtblfeidlnhdekaaGreatSLibA
set_option maxRecDepth 8000
set_option maxHeartbeats 16000000
namespace Fu
/-! ### lists -/
theorem lt_succ {P : Nat → Prop} {k : Nat} (h : ∀ j, j < k → P j) (hk : P k) : ∀ j, j < k + 1 → P j := fun j hj => by
  rcases Nat.lt_or_eq_of_le (Nat.lt_succ_iff.1 hj) with h1 | h1
  · exact h j h1
  · subst h1; exact hk
theorem getD_ext {α : Type} (d : α) {l r : List α} (hl : l.length = r.length) (h : ∀ j, j < l.length → l.getD j d = r.getD j d) : l = r := by
  apply List.ext_getElem hl
  intro i h1 h2
  have := h i h1
  simpa [gDD, h1, h2] using this
theorem mem_t {xs : List Int} {v : Int} {k : Nat} (hk : k < xs.length) (h : xs.getD k 0 = v) : v ∈ xs := by
  rw [← h, gDD, List.getElem?_eq_getElem hk]
  exact List.getElem_mem hk
theorem mem_f {xs : List Int} {v : Int} (h : ∀ j, j < xs.length → xs.getD j 0 ≠ v) : v ∉ xs := fun hm => by
  obtain ⟨i, hi, e⟩ := List.mem_iff_getElem.1 hm
  have := h i hi
  rw [gDD, List.getElem?_eq_getElem hi] at this
  exact this e
def idx (xs : List Int) (v : Int) : Int := if v ∈ xs then ((xs.findIdx fun x => decide (x = v) : Nat) : Int) else -1
theorem idx_hit {xs : List Int} {v : Int} {k : Nat} (hk : k < xs.length) (h : ∀ j, j < k → xs.getD j 0 ≠ v) (he : xs.getD k 0 = v) : idx xs v = (k : Int) := by
  unfold idx
  rw [if_pos (mem_t hk he)]
  have : xs.findIdx (fun x => decide (x = v)) = k := by
    refine (List.findIdx_eq hk).2 ⟨?_, fun j hj => ?_⟩
    · rw [gDD, List.getElem?_eq_getElem hk] at he; exact decide_eq_true he
    · have h1 := h j hj
      rw [gDD, List.getElem?_eq_getElem (Nat.lt_trans hj hk)] at h1; exact decide_eq_false h1
  rw [this]
theorem idx_miss {xs : List Int} {v : Int} (h : ∀ j, j < xs.length → xs.getD j 0 ≠ v) : idx xs v = -1 := by
  unfold idx; rw [if_neg (mem_f h)]
theorem idx_mem (xs : List Int) (v : Int) : decide (0 ≤ idx xs v) = decide (v ∈ xs) := by
  unfold idx
  by_cases h : v ∈ xs
  · rw [if_pos h, decide_eq_true h]; exact decide_eq_true (by omega)
  · rw [if_neg h, decide_eq_false h]; rfl
theorem span_ext {x y : Bt.Span} (h : decide (x.Lo = y.Lo) && decide (x.Hi = y.Hi)) : x = y := by
  cases x; cases y; simp at h; simp [h]
/-! ### spans -/
def addS (x y : Int) : Int := if 9223372036854775807 < x + y then 9223372036854775807 else if x + y < -9223372036854775808 then -9223372036854775808 else x + y
def meet (a b c d : Int) : Option Bt.Span := if max a c ≤ min b d then some ⟨max a c, min b d⟩ else none
def loOf (o : Option Bt.Span) : Int := match o with | some s => s.Lo | none => 0
def hiOf (o : Option Bt.Span) : Int := match o with | some s => s.Hi | none => 0
/-! ### gauges -/
def inG (gs : List Bt.Gauge) (i : Int) : Prop := 0 ≤ i ∧ i < (gs.length : Int)
instance (gs : List Bt.Gauge) (i : Int) : Decidable (inG gs i) := inferInstanceAs (Decidable (_ ∧ _))
def gaugeAt (gs : List Bt.Gauge) (i : Int) : Bt.Gauge := if inG gs i then gs.getD i.toNat default else default
/-! ### curves -/
def px (c : List Bt.Point) (i : Nat) : Int := (c.getD i default).X
def py (c : List Bt.Point) (i : Nat) : Int := (c.getD i default).Y
def PtOk (c : List Bt.Point) (i : Nat) : Prop := (0 ≤ px c i ∧ px c i ≤ 1125899906842624) ∧ (0 ≤ py c i ∧ py c i ≤ 1125899906842624) ∧ (0 < i → px c (i - 1) < px c i ∧ py c (i - 1) ≤ py c i)
instance (c : List Bt.Point) (i : Nat) : Decidable (PtOk c i) := inferInstanceAs (Decidable (_ ∧ _ ∧ (_ → _)))
def RightC (c : List Bt.Point) : Prop := (1 ≤ c.length ∧ c.length ≤ 32) ∧ ∀ i, i < c.length → PtOk c i
instance (c : List Bt.Point) : Decidable (RightC c) := inferInstanceAs (Decidable (_ ∧ ∀ i, i < c.length → PtOk c i))
def atSeg (c : List Bt.Point) (i : Nat) (x : Int) : Int := py c (i - 1) + (x - px c (i - 1)) * (py c i - py c (i - 1)) / (px c i - px c (i - 1))
def posX (c : List Bt.Point) (x : Int) : Nat := c.findIdx fun p => decide (x ≤ p.X)
def valC (c : List Bt.Point) (x : Int) : Int := if posX c x = 0 then py c 0 else if posX c x < c.length then atSeg c (posX c x) x else py c (c.length - 1)
def remC (c : List Bt.Point) (x : Int) : Bool := if posX c x = 0 then false else if posX c x < c.length then decide (0 < (x - px c (posX c x - 1)) * (py c (posX c x) - py c (posX c x - 1)) % (px c (posX c x) - px c (posX c x - 1))) else false
def atC (c : List Bt.Point) (x : Int) : Int := if RightC c then valC c x else 0
def posY (c : List Bt.Point) (y : Int) : Nat := c.findIdx fun p => decide (y ≤ p.Y)
theorem findIdx_is {α : Type} [Inhabited α] {p : α → Bool} {l : List α} {i : Nat} (hi : i ≤ l.length) (h1 : i < l.length → p (l.getD i default) = true) (h2 : ∀ j, j < i → p (l.getD j default) = false) : l.findIdx p = i := by
  rcases Nat.lt_or_eq_of_le hi with h | h
  · refine (List.findIdx_eq h).2 ⟨?_, fun j hj => ?_⟩
    · have := h1 h; rwa [gDD, List.getElem?_eq_getElem h] at this
    · have := h2 j hj; rwa [gDD, List.getElem?_eq_getElem (Nat.lt_trans hj h)] at this
  · subst h
    refine List.findIdx_eq_length.2 fun x hx => ?_
    obtain ⟨j, hj, rfl⟩ := List.mem_iff_getElem.1 hx
    have := h2 j hj
    rwa [gDD, List.getElem?_eq_getElem hj] at this
theorem posX_is {c : List Bt.Point} {x : Int} {i : Nat} (hi : i ≤ c.length) (h1 : i < c.length → x ≤ px c i) (h2 : ∀ j, j < i → px c j < x) : posX c x = i :=
  findIdx_is hi (fun h => decide_eq_true (h1 h)) (fun j hj => decide_eq_false (Int.not_le.2 (h2 j hj)))
def leastC (c : List Bt.Point) (y : Int) : Option Int :=
  if RightC c ∧ y ≤ py c (c.length - 1) then
    (if posY c y = 0 then some 0 else some (px c (posY c y - 1) + ((y - py c (posY c y - 1)) * (px c (posY c y) - px c (posY c y - 1)) / (py c (posY c y) - py c (posY c y - 1)) + (if (y - py c (posY c y - 1)) * (px c (posY c y) - px c (posY c y - 1)) % (py c (posY c y) - py c (posY c y - 1)) > 0 then 1 else 0))))
  else none
def hiC (o : Option Int) : Int := match o with | some a => a - 1 | none => 1125899906842624
def volL (c : List Bt.Point) (lo hi : Int) : Option Bt.Span :=
  match leastC c lo with
  | none => none
  | some l => meet l (hiC (leastC c (addS hi 1))) 0 1125899906842624
def VolOk (b : Bt.Basin) (r : Bt.Reading) : Prop := inG b.Gauges r.Gauge ∧ (gaugeAt b.Gauges r.Gauge).Kind = 0 ∧ 0 ≤ (gaugeAt b.Gauges r.Gauge).Target ∧ (gaugeAt b.Gauges r.Gauge).Target < (b.Places.length : Int)
instance (b : Bt.Basin) (r : Bt.Reading) : Decidable (VolOk b r) := inferInstanceAs (Decidable (_ ∧ _ ∧ _ ∧ _))
def levelOf (b : Bt.Basin) (r : Bt.Reading) : List Bt.Point := (b.Places.getD (gaugeAt b.Gauges r.Gauge).Target.toNat default).Level
def volR (b : Bt.Basin) (r : Bt.Reading) : Option Bt.Span := if VolOk b r then volL (levelOf b r) r.Value.Lo r.Value.Hi else none
/-! ### a list without neighbours that are alike -/
def appU (acc : List Int) (x : Int) : List Int := if acc.getLast? = some x then acc else acc ++ [x]
def comp (L : List Int) : List Int := L.foldl appU []
theorem comp_snoc (L : List Int) (x : Int) : comp (L ++ [x]) = appU (comp L) x := by simp [comp]
theorem take_snocI {L : List Int} {k : Nat} (h : k < L.length) : L.take (k + 1) = L.take k ++ [L.getD k 0] := by
  rw [List.take_succ_eq_append_getElem h, gDD, List.getElem?_eq_getElem h]; rfl
theorem comp_last : ∀ {L : List Int} {k : Nat}, 0 < k → k ≤ L.length → (comp (L.take k)).getLast? = some (L.getD (k - 1) 0) := fun {L k} h0 hk => by
  obtain ⟨j, rfl⟩ : ∃ j, k = j + 1 := ⟨k - 1, by omega⟩
  rw [take_snocI (by omega), comp_snoc, Nat.add_sub_cancel]
  unfold appU
  split
  · assumption
  · simp
theorem comp_id {L : List Int} : ∀ {k : Nat}, k ≤ L.length → (∀ j, 1 ≤ j → j < k → L.getD j 0 ≠ L.getD (j - 1) 0) → comp (L.take k) = L.take k
  | 0, _, _ => by simp [comp]
  | k + 1, hk, h => by
    have ih := comp_id (k := k) (by omega) (fun j h1 h2 => h j h1 (by omega))
    rw [take_snocI (by omega), comp_snoc, ih]
    unfold appU
    rw [if_neg]
    rcases Nat.eq_zero_or_pos k with h0 | h0
    · subst h0; simp
    · have := comp_last (L := L) h0 (by omega)
      rw [ih] at this
      rw [this]
      intro he
      exact h k h0 (by omega) (sJ he).symm
theorem comp_eq {L : List Int} {k : Nat} (h0 : 0 < k) (hk : k < L.length) (h : L.getD k 0 = L.getD (k - 1) 0) : comp (L.take (k + 1)) = comp (L.take k) := by
  rw [take_snocI hk, comp_snoc, appU, comp_last h0 (by omega), h, if_pos rfl]
theorem comp_ne {L : List Int} {k : Nat} (h0 : 0 < k) (hk : k < L.length) (h : L.getD k 0 ≠ L.getD (k - 1) 0) : comp (L.take (k + 1)) = comp (L.take k) ++ [L.getD k 0] := by
  rw [take_snocI hk, comp_snoc, appU, comp_last h0 (by omega), if_neg (fun e => h (sJ e).symm)]
structure CmI (L K : List Int) (k p : Nat) : Prop where
  len : K.length = L.length
  pre : K.take k = comp (L.take p)
  kl : k = (comp (L.take p)).length
  post : ∀ j, p ≤ j + 1 → j < L.length → K.getD j 0 = L.getD j 0
  kp : k + 1 ≤ p
theorem CmI.start {L : List Int} {k : Nat} (h0 : 0 < k) (hk : k < L.length) (h : L.getD k 0 = L.getD (k - 1) 0) (hid : ∀ j, 1 ≤ j → j < k → L.getD j 0 ≠ L.getD (j - 1) 0) : CmI L L k (k + 1) := by
  have h1 := comp_id (Nat.le_of_lt hk) hid
  have h2 := comp_eq h0 hk h
  exact ⟨rfl, by rw [h2, h1], by rw [h2, h1, List.length_take]; omega, fun _ _ _ => rfl, Nat.le_refl _⟩
theorem CmI.keep {L K : List Int} {k p : Nat} (h : CmI L K k p) (hp : p < L.length) (he : L.getD p 0 = L.getD (p - 1) 0) : CmI L K k (p + 1) := by
  have h1 := h.kp
  have h2 := comp_eq (L := L) (show 0 < p by omega) hp he
  exact ⟨h.len, by rw [h2]; exact h.pre, by rw [h2]; exact h.kl, fun j hj hl => h.post j (by omega) hl, by omega⟩
theorem CmI.put {L K : List Int} {k p : Nat} (h : CmI L K k p) (hp : p < L.length) (he : L.getD p 0 ≠ L.getD (p - 1) 0) : CmI L (K.set k (L.getD p 0)) (k + 1) (p + 1) := by
  have h1 := h.kp
  have hl := h.len
  have h2 := comp_ne (L := L) (show 0 < p by omega) hp he
  refine ⟨by simp [hl], ?_, by rw [h2, List.length_append, ← h.kl]; rfl, fun j hj hlj => ?_, by omega⟩
  · rw [h2, ← h.pre, take_snocI (by simp; omega)]
    have e1 : (K.set k (L.getD p 0)).take k = K.take k := by rw [List.take_set]; exact List.set_eq_of_length_le (by rw [List.length_take]; omega)
    have e2 : (K.set k (L.getD p 0)).getD k 0 = L.getD p 0 := by rw [gDD, List.getElem?_set_self (by omega)]; rfl
    rw [e1, e2]
  · rw [gDD, List.getElem?_set_ne (by omega), ← gDD]
    exact h.post j (by omega) hlj
def narV (L : List Bt.Span) (i : Nat) (lo hi : Int) : List Bt.Span := match meet (L.getD i default).Lo (L.getD i default).Hi lo hi with | some z => L.set i z | none => L
def narL (L : List Bt.Known) (i : Nat) (lo hi : Int) : List Bt.Known := match meet (L.getD i default).Pos.Lo (L.getD i default).Pos.Hi lo hi with | some z => L.set i ⟨z, (L.getD i default).Target, (L.getD i default).Open⟩ | none => L
def cmpI (x y : Int) : Int := if x < y then -1 else if y < x then 1 else 0
theorem cmp_lt {x y : Int} : cmpI x y < 0 ↔ x < y := by unfold cmpI; split <;> (try split) <;> omega
def Few (b : Bt.Basin) (h : Bt.Hull) : Prop := (∀ i, i < b.Places.length → i < 21 → (b.Places.getD i default).Level.length ≤ 40) ∧ b.Places.length ≤ 20 ∧ b.Gauges.length ≤ 20 ∧ h.Vol.length ≤ 20 ∧ h.Links.length ≤ 20 ∧ h.Queue.length ≤ 60
instance (b : Bt.Basin) (h : Bt.Hull) : Decidable (Few b h) := inferInstanceAs (Decidable ((∀ i, i < b.Places.length → i < 21 → (b.Places.getD i default).Level.length ≤ 40) ∧ _))
def intOf (o : Option Int) : Int := match o with | some x => x | none => 0
end Fu
namespace Go.Proofs.YtblfeidlnhdekaaGreat
open Go Go.K Go.RowKit
attribute [local irreducible] AW RW DW Post Qt
theorem eqF51 (a0 a1 b0 b1 : Int) (n : Nat) (w : World) : (Op.eqFields (n + 1) #[iV a0, iV a1] #[iV b0, iV b1] (pg.fieldsOf 51).toList).run pg w = .ok (decide (a0 = b0) && decide (a1 = b1)) w := by
 unfold Program.fieldsOf
 rw [uT51]
 have hp3 : ∀ {cs : Array Value} {o : Nat} {v : Value} (h : cs[o]? = some v) (w : World), (part 3 cs o).run pg w = .ok v w := fun h w => run_part1 uT3 rfl h w
 have hq3 : ∀ (x y : Int) (w : World), (Op.equalIn (n + 1) 3 (iV x) (iV y)).run pg w = .ok (x == y) w := fun x y w => run_equalIn_int w (n + 0) 3 .i64 .i64 x y uT3
 simp only [Op.eqFields, ne_eq, String.reduceEq, not_false_eq_true, if_true, Sem.run_bind, hp3 (show #[Value.int .i64 a0, Value.int .i64 a1][0]? = some (iV a0) from rfl), hp3 (show #[Value.int .i64 b0, Value.int .i64 b1][0]? = some (iV b0) from rfl), hp3 (show #[Value.int .i64 a0, Value.int .i64 a1][1]? = some (iV a1) from rfl), hp3 (show #[Value.int .i64 b0, Value.int .i64 b1][1]? = some (iV b1) from rfl), hq3, Result.andThen_ok, Sem.run_ite, Sem.run_pure]
 by_cases h0 : a0 = b0 <;> by_cases h1 : a1 = b1 <;> simp [*]
theorem eqS51 (a0 a1 b0 b1 : Int) : ∀ w, (Op.equal 51 (.agg #[iV a0, iV a1]) (.agg #[iV b0, iV b1])).run pg w = .ok (decide (a0 = b0) && decide (a1 = b1)) w := fun w => by
 have hT : pg.underlying 51 = some (.struct (pg.fieldsOf 51)) := by unfold Program.fieldsOf; rw [uT51]
 show (Op.equalIn (9999 + 1) 51 _ _).run pg w = _
 rw [run_equalIn_struct w 9999 51 _ _ hT (by kernel_rfl)]
 exact eqF51 a0 a1 b0 b1 9998 w
theorem eqG51 : Program.eqGuardType pg pg.depth 51 = false := by kernel_rfl
theorem eqF98 (a0 a1 a2 a3 b0 b1 b2 b3 : Int) (n : Nat) (w : World) : (Op.eqFields (n + 2) #[iV a0, iV a1, iV a2, iV a3] #[iV b0, iV b1, iV b2, iV b3] (pg.fieldsOf 98).toList).run pg w = .ok (decide (a0 = b0) && decide (a1 = b1) && decide (a2 = b2) && decide (a3 = b3)) w := by
 unfold Program.fieldsOf
 rw [uT98]
 have hp3 : ∀ {cs : Array Value} {o : Nat} {v : Value} (h : cs[o]? = some v) (w : World), (part 3 cs o).run pg w = .ok v w := fun h w => run_part1 uT3 rfl h w
 have hq3 : ∀ (x y : Int) (w : World), (Op.equalIn (n + 2) 3 (iV x) (iV y)).run pg w = .ok (x == y) w := fun x y w => run_equalIn_int w (n + 1) 3 .i64 .i64 x y uT3
 have hp42 : ∀ {cs es : Array Value} {o : Nat} (h : cs.extract o (o + 2) = es) (w : World), (part 51 cs o).run pg w = .ok (.agg es) w := fun h w => run_partA uT51 rfl (by kernel_rfl) h w
 have hq42 : ∀ (x0 x1 y0 y1 : Int) (w : World), (Op.equalIn (n + 2) 51 (.agg #[iV x0, iV x1]) (.agg #[iV y0, iV y1])).run pg w = .ok (decide (x0 = y0) && decide (x1 = y1)) w := fun x0 x1 y0 y1 w => by
  have hT : pg.underlying 51 = some (.struct (pg.fieldsOf 51)) := by unfold Program.fieldsOf; rw [uT51]
  rw [show n + 2 = (n + 1) + 1 from rfl, run_equalIn_struct w (n + 1) 51 _ _ hT (by kernel_rfl)]
  exact eqF51 x0 x1 y0 y1 (n + 0) w
 simp only [Op.eqFields, ne_eq, String.reduceEq, not_false_eq_true, if_true, Sem.run_bind, hp3 (show #[Value.int .i64 a0, Value.int .i64 a1, Value.int .i64 a2, Value.int .i64 a3][0]? = some (iV a0) from rfl), hp3 (show #[Value.int .i64 b0, Value.int .i64 b1, Value.int .i64 b2, Value.int .i64 b3][0]? = some (iV b0) from rfl), hp3 (show #[Value.int .i64 a0, Value.int .i64 a1, Value.int .i64 a2, Value.int .i64 a3][1]? = some (iV a1) from rfl), hp3 (show #[Value.int .i64 b0, Value.int .i64 b1, Value.int .i64 b2, Value.int .i64 b3][1]? = some (iV b1) from rfl), hp42 (show (#[Value.int .i64 a0, Value.int .i64 a1, Value.int .i64 a2, Value.int .i64 a3] : Array Value).extract 2 (2 + 2) = #[Value.int .i64 a2, Value.int .i64 a3] from rfl), hp42 (show (#[Value.int .i64 b0, Value.int .i64 b1, Value.int .i64 b2, Value.int .i64 b3] : Array Value).extract 2 (2 + 2) = #[Value.int .i64 b2, Value.int .i64 b3] from rfl), hq3, hq42, Result.andThen_ok, Sem.run_ite, Sem.run_pure]
 by_cases h0 : a0 = b0 <;> by_cases h1 : a1 = b1 <;> by_cases h2 : a2 = b2 <;> by_cases h3 : a3 = b3 <;> simp [*]
theorem eqS98 (a0 a1 a2 a3 b0 b1 b2 b3 : Int) : ∀ w, (Op.equal 98 (.agg #[iV a0, iV a1, iV a2, iV a3]) (.agg #[iV b0, iV b1, iV b2, iV b3])).run pg w = .ok (decide (a0 = b0) && decide (a1 = b1) && decide (a2 = b2) && decide (a3 = b3)) w := fun w => by
 have hT : pg.underlying 98 = some (.struct (pg.fieldsOf 98)) := by unfold Program.fieldsOf; rw [uT98]
 show (Op.equalIn (9999 + 1) 98 _ _).run pg w = _
 rw [run_equalIn_struct w 9999 98 _ _ hT (by kernel_rfl)]
 exact eqF98 a0 a1 a2 a3 b0 b1 b2 b3 9997 w
theorem eqG98 : Program.eqGuardType pg pg.depth 98 = false := by kernel_rfl
theorem eqF101 (a0 a1 a2 a3 a4 b0 b1 b2 b3 b4 : Int) (n : Nat) (w : World) : (Op.eqFields (n + 2) #[iV a0, iV a1, iV a2, iV a3, iV a4] #[iV b0, iV b1, iV b2, iV b3, iV b4] (pg.fieldsOf 101).toList).run pg w = .ok (decide (a0 = b0) && decide (a1 = b1) && decide (a2 = b2) && decide (a3 = b3) && decide (a4 = b4)) w := by
 unfold Program.fieldsOf
 rw [uT101]
 have hp3 : ∀ {cs : Array Value} {o : Nat} {v : Value} (h : cs[o]? = some v) (w : World), (part 3 cs o).run pg w = .ok v w := fun h w => run_part1 uT3 rfl h w
 have hq3 : ∀ (x y : Int) (w : World), (Op.equalIn (n + 2) 3 (iV x) (iV y)).run pg w = .ok (x == y) w := fun x y w => run_equalIn_int w (n + 1) 3 .i64 .i64 x y uT3
 have hp42 : ∀ {cs es : Array Value} {o : Nat} (h : cs.extract o (o + 2) = es) (w : World), (part 51 cs o).run pg w = .ok (.agg es) w := fun h w => run_partA uT51 rfl (by kernel_rfl) h w
 have hq42 : ∀ (x0 x1 y0 y1 : Int) (w : World), (Op.equalIn (n + 2) 51 (.agg #[iV x0, iV x1]) (.agg #[iV y0, iV y1])).run pg w = .ok (decide (x0 = y0) && decide (x1 = y1)) w := fun x0 x1 y0 y1 w => by
  have hT : pg.underlying 51 = some (.struct (pg.fieldsOf 51)) := by unfold Program.fieldsOf; rw [uT51]
  rw [show n + 2 = (n + 1) + 1 from rfl, run_equalIn_struct w (n + 1) 51 _ _ hT (by kernel_rfl)]
  exact eqF51 x0 x1 y0 y1 (n + 0) w
 simp only [Op.eqFields, ne_eq, String.reduceEq, not_false_eq_true, if_true, Sem.run_bind, hp42 (show (#[Value.int .i64 a0, Value.int .i64 a1, Value.int .i64 a2, Value.int .i64 a3, Value.int .i64 a4] : Array Value).extract 0 (0 + 2) = #[Value.int .i64 a0, Value.int .i64 a1] from rfl), hp42 (show (#[Value.int .i64 b0, Value.int .i64 b1, Value.int .i64 b2, Value.int .i64 b3, Value.int .i64 b4] : Array Value).extract 0 (0 + 2) = #[Value.int .i64 b0, Value.int .i64 b1] from rfl), hp3 (show #[Value.int .i64 a0, Value.int .i64 a1, Value.int .i64 a2, Value.int .i64 a3, Value.int .i64 a4][2]? = some (iV a2) from rfl), hp3 (show #[Value.int .i64 b0, Value.int .i64 b1, Value.int .i64 b2, Value.int .i64 b3, Value.int .i64 b4][2]? = some (iV b2) from rfl), hp42 (show (#[Value.int .i64 a0, Value.int .i64 a1, Value.int .i64 a2, Value.int .i64 a3, Value.int .i64 a4] : Array Value).extract 3 (3 + 2) = #[Value.int .i64 a3, Value.int .i64 a4] from rfl), hp42 (show (#[Value.int .i64 b0, Value.int .i64 b1, Value.int .i64 b2, Value.int .i64 b3, Value.int .i64 b4] : Array Value).extract 3 (3 + 2) = #[Value.int .i64 b3, Value.int .i64 b4] from rfl), hq3, hq42, Result.andThen_ok, Sem.run_ite, Sem.run_pure]
 by_cases h0 : a0 = b0 <;> by_cases h1 : a1 = b1 <;> by_cases h2 : a2 = b2 <;> by_cases h3 : a3 = b3 <;> by_cases h4 : a4 = b4 <;> simp [*]
theorem eqS101 (a0 a1 a2 a3 a4 b0 b1 b2 b3 b4 : Int) : ∀ w, (Op.equal 101 (.agg #[iV a0, iV a1, iV a2, iV a3, iV a4]) (.agg #[iV b0, iV b1, iV b2, iV b3, iV b4])).run pg w = .ok (decide (a0 = b0) && decide (a1 = b1) && decide (a2 = b2) && decide (a3 = b3) && decide (a4 = b4)) w := fun w => by
 have hT : pg.underlying 101 = some (.struct (pg.fieldsOf 101)) := by unfold Program.fieldsOf; rw [uT101]
 show (Op.equalIn (9999 + 1) 101 _ _).run pg w = _
 rw [run_equalIn_struct w 9999 101 _ _ hT (by kernel_rfl)]
 exact eqF101 a0 a1 a2 a3 a4 b0 b1 b2 b3 b4 9997 w
theorem eqG101 : Program.eqGuardType pg pg.depth 101 = false := by kernel_rfl
theorem sRight_c (w : World) (Φ : Hp) (hΦ : Hp.le Φ (hp w)) {aL aH : Int} :
  Calls pg 25 #[.agg #[iV aL, iV aH]] w fun e w' => e = .returned (.bool (decide (aL ≤ aH))) ∧ Bel w.heap.size w w' := by
 refine in1 8 Tryz.func25 rfl rfl hΦ ?_
 refine gs2 ?_
 refine RW.bxA rfl rfl fun b1 => ?_
 refine gs14 ?_
 exact fin_val (v' := .bool (decide (aL ≤ aH))) rfl rfl rfl (rfl)
theorem Meet_c (w : World) (Φ : Hp) (hΦ : Hp.le Φ (hp w)) {aL aH bL bH : Int} :
  Calls pg 47 #[.agg #[iV aL, iV aH], .agg #[iV bL, iV bH]] w fun e w' => e = .returned (.tuple #[.agg #[iV (Fu.loOf (Fu.meet aL aH bL bH)), iV (Fu.hiOf (Fu.meet aL aH bL bH))], .bool (Fu.meet aL aH bL bH).isSome]) ∧ Bel w.heap.size w w' := by
 refine in2 23 Tryz.func47 rfl rfl hΦ ?_
 refine gs2 ?_
 refine RW.bxA rfl rfl fun b1 => ?_
 refine RW.bxA rfl rfl fun b2 => ?_
 refine RW.alc rfl fun b3 => ?_
 refine gs15 ?_
 refine RW.q (v := .agg #[iV (max aL bL), iV (min aH bH)]) rfl (q_build (vals := [(0, iV (max aL bL)), (1, iV (min aH bH))]) zero51 uT51 places51 rfl rfl) ?_
 refine RW.alc rfl fun b4 => ?_
 refine gs7 ?_
 refine RW.c rfl (fun w1 hw1 => sRight_c w1 (Go.K.hp w1) (Hp.le_refl _)) rfl rfl ?_
 refine gs3 ?_
 refine AW.cond rfl (fun hc1 => ?_) fun hc1 => ?_
 ·
  simp [-List.getD_eq_getElem?_getD] at hc1
  refine gs2 ?_
  refine RW.q (v := .agg #[iV 0, iV 0]) rfl (q_build (vals := []) zero51 uT51 places51 rfl rfl) ?_
  refine gs6 ?_
  refine fin_cell2 (cs := [iV 0, iV 0]) (v := .bool false) rfl rfl rfl rfl uT51 rfl sz51 rfl (Cells.blk 1 rfl) (fun w' hw => ?_)
  refine ⟨?_, hw.below rfl⟩
  unfold Fu.meet; rw [if_neg (by simpa using hc1)]; rfl
 ·
  simp [-List.getD_eq_getElem?_getD] at hc1
  refine gs10 ?_
  refine fin_cell2 (cs := [iV (max aL bL), iV (min aH bH)]) (v := .bool true) rfl rfl rfl rfl uT51 rfl sz51 rfl (Cells.blk 1 rfl) (fun w' hw => ?_)
  refine ⟨?_, hw.below rfl⟩
  unfold Fu.meet; rw [if_pos (by simpa using hc1)]; rfl
theorem Add_c (w : World) (Φ : Hp) (hΦ : Hp.le Φ (hp w)) {x y : Int} (hx : I64 x) (hy : I64 y) :
  Calls pg 24 #[iV x, iV y] w fun e w' => e = .returned (iV (Fu.addS x y)) ∧ Bel w.heap.size w w' := by
 refine in2 24 Tryz.func24 rfl rfl hΦ ?_
 unfold I64 at hx hy
 refine gs13 ?_
 refine RW.g (b := (decide ((0 : Int) < y))) (v := iV (9223372036854775807 - y)) rfl rfl rfl (fun h => q_sub rfl (gv_pos h) (by (try simp [-List.getD_eq_getElem?_getD] at h); omega) (by (try simp [-List.getD_eq_getElem?_getD] at h); unfold I64; omega)) ?_
 refine gs1 ?_
 refine RW.pkA rfl rfl rfl rfl fun qb1 hqb1 => ?_
 subst hqb1
 refine gs2 ?_
 refine AW.cond rfl (fun hc1 => ?_) fun hc1 => ?_
 ·
  simp [-List.getD_eq_getElem?_getD] at hc1
  refine gs7 ?_
  exact fin_val (v' := iV 9223372036854775807) rfl rfl rfl (by unfold Fu.addS; rw [if_pos (by omega)])
 ·
  simp [-List.getD_eq_getElem?_getD] at hc1
  refine gs10 ?_
  refine RW.g (b := (decide (y < 0))) (v := iV ((-9223372036854775808) - y)) rfl rfl rfl (fun h => q_sub rfl (gv_pos h) (by (try simp [-List.getD_eq_getElem?_getD] at h); omega) (by (try simp [-List.getD_eq_getElem?_getD] at h); unfold I64; omega)) ?_
  refine gs1 ?_
  refine RW.pkA rfl rfl rfl rfl fun qb2 hqb2 => ?_
  subst hqb2
  refine gs2 ?_
  refine AW.cond rfl (fun hc2 => ?_) fun hc2 => ?_
  ·
   simp [-List.getD_eq_getElem?_getD] at hc2
   refine gs7 ?_
   exact fin_val (v' := iV (-9223372036854775808)) rfl rfl rfl (by unfold Fu.addS; rw [if_neg (by omega), if_pos (by omega)])
  ·
   simp [-List.getD_eq_getElem?_getD] at hc2
   refine gs11 ?_
   exact fin_val (v' := iV (x + y)) rfl rfl rfl (by unfold Fu.addS; rw [if_neg (by omega), if_neg (by omega)])
theorem gaugeOf_c (w : World) (Φ : Hp) (hΦ : Hp.le Φ (hp w)) {b : Bt.Basin} {cs : List Value} (hB : RepV Φ b cs) {r : Bt.Reading} :
  Calls pg 35 #[.agg cs.toArray, .agg #[iV r.Gauge, iV r.Hour, iV r.Value.Lo, iV r.Value.Hi]] w fun e w' => e = .returned (.tuple #[.agg #[.string ((Fu.gaugeAt b.Gauges r.Gauge).Name), iV ((Fu.gaugeAt b.Gauges r.Gauge).Kind), iV ((Fu.gaugeAt b.Gauges r.Gauge).Target), iV ((Fu.gaugeAt b.Gauges r.Gauge).Err), iV ((Fu.gaugeAt b.Gauges r.Gauge).Drift)], .bool (decide (Fu.inG b.Gauges r.Gauge))]) ∧ Bel w.heap.size w w' := by
 obtain ⟨v1, v3, v4, v5, v6, v7, v8, v9, hcs, hBw, r1, r3, r4, r5, r6, r7, r8, r9⟩ := (show Rep.rep Φ b cs from hB)
 subst hcs
 have hpm : b.Places.length * 152 ≤ 140737488355328 := r3.max
 have hgm : b.Gauges.length * 48 ≤ 140737488355328 := r6.max
 refine in2 24 Tryz.func35 rfl rfl hΦ ?_
 refine gs2 ?_
 refine RW.bxA rfl rfl fun b1 => ?_
 refine RW.bxA rfl rfl fun b2 => ?_
 refine RW.alc rfl fun b3 => ?_
 refine gs16 ?_
 refine RW.pkO rfl rfl rfl rfl fun qb1 hqb1 => ?_
 subst hqb1
 refine gs2 ?_
 refine AW.cond rfl (fun hc1 => ?_) fun hc1 => ?_
 ·
  simp [-List.getD_eq_getElem?_getD] at hc1
  refine gs2 ?_
  refine RW.q (v := .agg #[.string (bs ([])), iV 0, iV 0, iV 0, iV 0]) rfl (q_build (vals := []) zero49 uT49 places49 rfl rfl) ?_
  refine gs6 ?_
  refine fin_cell2 (cs := [.string (bs ([])), iV 0, iV 0, iV 0, iV 0]) (v := .bool false) rfl rfl rfl rfl uT49 rfl sz49 rfl (Cells.blk 0 rfl) (fun w' hw => ?_)
  refine ⟨?_, hw.below rfl⟩
  have hn : ¬ Fu.inG b.Gauges r.Gauge := by unfold Fu.inG; omega
  rw [decide_eq_false hn]
  unfold Fu.gaugeAt; rw [if_neg hn]; rfl
 ·
  simp [-List.getD_eq_getElem?_getD] at hc1
  refine gs8 ?_
  refine RW.q (v := .pointer (some (Value.at v6 (r.Gauge.toNat * 5)))) rfl (q_indexAddr rfl rfl r6.sl uT26 sz49 (by omega) (by omega) rfl) (RW.q (v := .agg (cl49 (b.Gauges.getD r.Gauge.toNat default)).toArray) rfl (q_loadAgg rfl uT49 rfl sz49 rfl (Cells.repE r6 (by omega) rfl)) ?_)
  refine gs5 ?_
  refine fin_cell2 (cs := [.string ((b.Gauges.getD r.Gauge.toNat default).Name), iV ((b.Gauges.getD r.Gauge.toNat default).Kind), iV ((b.Gauges.getD r.Gauge.toNat default).Target), iV ((b.Gauges.getD r.Gauge.toNat default).Err), iV ((b.Gauges.getD r.Gauge.toNat default).Drift)]) (v := .bool true) rfl rfl rfl rfl uT49 rfl sz49 rfl (Cells.blk 0 rfl) (fun w' hw => ?_)
  refine ⟨?_, hw.below rfl⟩
  have hn : Fu.inG b.Gauges r.Gauge := by unfold Fu.inG; omega
  rw [decide_eq_true hn]
  unfold Fu.gaugeAt; rw [if_pos hn]
theorem cRight_c (w : World) (Φ : Hp) (hΦ : Hp.le Φ (hp w)) {c : List Bt.Point} {v1 : Value} (h1 : RepSl Φ c v1) :
  Calls pg 45 #[v1] w fun e w' => e = .returned (.bool (decide (Fu.RightC c))) ∧ Bel w.heap.size w w' := by
 refine in1 63 Tryz.func45 rfl rfl hΦ ?_
 have hm1 : c.length * 16 ≤ 140737488355328 := h1.max
 refine gs15 ?_
 refine RW.pkO rfl rfl rfl rfl fun qb1 hqb1 => ?_
 subst hqb1
 refine gs2 ?_
 refine AW.cond rfl (fun hc1 => ?_) fun hc1 => ?_
 ·
  simp [-List.getD_eq_getElem?_getD] at hc1
  refine gs7 ?_
  exact fin_val (v' := .bool false) rfl rfl rfl (by rw [decide_eq_false (fun hr => by have := hr.1; omega)])
 ·
  simp [-List.getD_eq_getElem?_getD] at hc1
  refine gs11 ?_
  refine AW.lp (fun s J m => ∃ (k : Nat), s = [(0, v1), (13, v1), (14, iV (c.length : Int)), (15, iV (k : Int))] ∧ J = St ⟨w, Φ, []⟩ Φ [] ∧ m = c.length - k ∧ (k ≤ c.length) ∧ (∀ j, j < k → Fu.PtOk c j)) ⟨0, rfl, rfl, rfl, (by omega), (by omega)⟩ ?_
  rintro _ _ _ _ ⟨k, rfl, rfl, rfl, hk, hall⟩
  refine gs6 ?_
  refine AW.cond rfl (fun hc2 => ?_) fun hc2 => ?_
  ·
   simp [-List.getD_eq_getElem?_getD] at hc2
   refine gs8 ?_
   refine RW.q (v := .agg #[iV ((c.getD k default).X), iV ((c.getD k default).Y)]) rfl (q_loadAgg rfl uT67 rfl sz67 rfl (Cells.repE h1 (by omega) rfl)) ?_
   refine RW.alc rfl fun b1 => ?_
   refine gs14 ?_
   refine RW.pkO rfl rfl rfl rfl fun qb2 hqb2 => ?_
   refine gs4 ?_
   refine RW.pkO rfl rfl rfl rfl fun qb3 hqb3 => ?_
   refine gs4 ?_
   refine RW.pkO rfl rfl rfl rfl fun qb4 hqb4 => ?_
   subst hqb4 hqb3 hqb2
   refine gs2 ?_
   refine AW.cond rfl (fun hc3 => ?_) fun hc3 => ?_
   ·
    simp [-List.getD_eq_getElem?_getD] at hc3
    refine gs12 ?_
    exact fin_val (v' := .bool false) rfl rfl rfl (by rw [decide_eq_false (fun hr => by have hp := hr.2 k (by omega); unfold Fu.PtOk Fu.px Fu.py at hp; have h3 := hp.2.2; omega)])
   ·
    simp [-List.getD_eq_getElem?_getD] at hc3
    refine gs3 ?_
    have hk0 : 0 < k → ((k : Int) - 1).toNat = k - 1 := by omega
    refine AW.draw (J0 := St ⟨w, Φ, []⟩ Φ [.blk b1 67 [iV ((c.getD k default).X), iV ((c.getD k default).Y)]]) [.q, .q, .q, .q, .q, .q, .q, .q, .q, .q, .q, .q, .q, .q, .q, .q, .q, .q, .q, .q, .q, .q, .q, .q] [0, 1, 2, 3, 4, 5, 6, 7, 8, 9, 10, 11, 12, 13, 14, 15, 16, 17, 18, 19, 20, 21, 22, 23] hmix (by kernel_rfl) ?_
    refine gs7 ?_
    refine DW.g (b := (decide ((0 : Int) < (k : Int)))) (v := iV ((k : Int) - 1)) (fun _ h => h) rfl rfl rfl (fun h => q_sub (gv_pos h) rfl (by (try simp [-List.getD_eq_getElem?_getD] at h); omega) (by (try simp [-List.getD_eq_getElem?_getD] at h); unfold I64; omega)) ?_
    refine DW.g (b := (decide ((0 : Int) < (k : Int)))) (v := .pointer (some (Value.at v1 ((((k : Int) - 1).toNat) * 2)))) (fun _ h => h) rfl rfl rfl (fun h => q_indexAddr (gv_pos h) (gv_pos h) h1.sl uT68 sz67 (by (try simp [-List.getD_eq_getElem?_getD] at h); omega) (by (try simp [-List.getD_eq_getElem?_getD] at h); omega) rfl) ?_
    refine gs1 ?_
    refine DW.g (b := (decide ((0 : Int) < (k : Int)))) (v := iV ((c.getD (((k : Int) - 1).toNat) default).X)) (fun _ h => h) rfl rfl rfl (fun h => q_load (gv_pos h) uT3 rfl (Cell.repE (j := 0) h1 (by (try simp [-List.getD_eq_getElem?_getD] at h); omega) rfl)) ?_
    refine gs2 ?_
    refine DW.g2 (b1 := (decide ((0 : Int) < (k : Int)))) (b2 := (decide ((c.getD k default).X ≤ (c.getD (((k : Int) - 1).toNat) default).X))) (v := pV b1 1) (fun _ h => h) rfl rfl rfl (fun hg1 hg2 => q_fieldAddr rfl uT67 rfl sz3 rfl) (DW.g2 (b1 := (decide ((0 : Int) < (k : Int)))) (b2 := (decide ((c.getD k default).X ≤ (c.getD (((k : Int) - 1).toNat) default).X))) (v := iV ((c.getD k default).Y)) (fun _ h => h) rfl rfl rfl (fun hg1 hg2 => q_load ((gv_pos hg1).trans (gv_pos hg2)) uT3 rfl (Cell.blk 0 rfl rfl)) (DW.g2 (b1 := (decide ((0 : Int) < (k : Int)))) (b2 := (decide ((c.getD k default).X ≤ (c.getD (((k : Int) - 1).toNat) default).X))) (v := v1) (fun _ h => h) rfl rfl rfl (fun hg1 hg2 => q_move rfl) (DW.g2 (b1 := (decide ((0 : Int) < (k : Int)))) (b2 := (decide ((c.getD k default).X ≤ (c.getD (((k : Int) - 1).toNat) default).X))) (v := iV (k : Int)) (fun _ h => h) rfl rfl rfl (fun hg1 hg2 => q_move rfl) (DW.g2 (b1 := (decide ((0 : Int) < (k : Int)))) (b2 := (decide ((c.getD k default).X ≤ (c.getD (((k : Int) - 1).toNat) default).X))) (v := iV ((k : Int) - 1)) (fun _ h => h) rfl rfl rfl (fun hg1 hg2 => q_sub ((gv_pos hg1).trans (gv_pos hg2)) rfl (by (try simp [-List.getD_eq_getElem?_getD] at hg1); (try simp [-List.getD_eq_getElem?_getD] at hg2); omega) (by (try simp [-List.getD_eq_getElem?_getD] at hg1); (try simp [-List.getD_eq_getElem?_getD] at hg2); unfold I64; omega)) ?_))))
    refine DW.g2 (b1 := (decide ((0 : Int) < (k : Int)))) (b2 := (decide ((c.getD k default).X ≤ (c.getD (((k : Int) - 1).toNat) default).X))) (v := .pointer (some (Value.at v1 ((((k : Int) - 1).toNat) * 2)))) (fun _ h => h) rfl rfl rfl (fun hg1 hg2 => q_indexAddr ((gv_pos hg1).trans (gv_pos hg2)) ((gv_pos hg1).trans (gv_pos hg2)) h1.sl uT68 sz67 (by (try simp [-List.getD_eq_getElem?_getD] at hg1); (try simp [-List.getD_eq_getElem?_getD] at hg2); omega) (by (try simp [-List.getD_eq_getElem?_getD] at hg1); (try simp [-List.getD_eq_getElem?_getD] at hg2); omega) rfl) ?_
    refine DW.g2 (b1 := (decide ((0 : Int) < (k : Int)))) (b2 := (decide ((c.getD k default).X ≤ (c.getD (((k : Int) - 1).toNat) default).X))) (v := .pointer (some (Value.at v1 ((((k : Int) - 1).toNat) * 2 + 1)))) (fun _ h => h) rfl rfl rfl (fun hg1 hg2 => q_fieldAddr ((gv_pos hg1).trans (gv_pos hg2)) uT67 rfl sz3 at_add) (DW.g2 (b1 := (decide ((0 : Int) < (k : Int)))) (b2 := (decide ((c.getD k default).X ≤ (c.getD (((k : Int) - 1).toNat) default).X))) (v := iV ((c.getD (((k : Int) - 1).toNat) default).Y)) (fun _ h => h) rfl rfl rfl (fun hg1 hg2 => q_load ((gv_pos hg1).trans (gv_pos hg2)) uT3 rfl (Cell.repE (j := 1) h1 (by (try simp [-List.getD_eq_getElem?_getD] at hg1); (try simp [-List.getD_eq_getElem?_getD] at hg2); omega) rfl)) ?_)
    refine DW.g2 (b1 := (decide ((0 : Int) < (k : Int)))) (b2 := (decide ((c.getD k default).X ≤ (c.getD (((k : Int) - 1).toNat) default).X))) (v := .bool (decide ((c.getD k default).Y < (c.getD (((k : Int) - 1).toNat) default).Y))) (fun _ h => h) rfl rfl rfl (fun hg1 hg2 => q_lss ((gv_pos hg1).trans (gv_pos hg2)) ((gv_pos hg1).trans (gv_pos hg2))) ?_
    obtain ⟨qb5, hqb5⟩ : ∃ z : Bool, ((decide ((c.getD k default).X ≤ (c.getD (((k : Int) - 1).toNat) default).X)) || (decide ((c.getD k default).Y < (c.getD (((k : Int) - 1).toNat) default).Y))) = z := ⟨_, rfl⟩
    refine DW.g (b := (decide ((0 : Int) < (k : Int)))) (v := .bool qb5) (fun _ h => h) rfl rfl rfl (fun h => q_as (v := .bool ((decide ((c.getD k default).X ≤ (c.getD (((k : Int) - 1).toNat) default).X)) || (decide ((c.getD k default).Y < (c.getD (((k : Int) - 1).toNat) default).Y)))) (q_pick (gv_pos h) (fun hp => pkOrT hp) (fun hp => (gv_pos h).trans ((gv_pos hp).trans (pkOrF hp)))) (congrArg Value.bool hqb5)) (DW.pkA (fun _ h => h) rfl rfl rfl rfl fun qb6 hqb6 => ?_)
    subst hqb6 hqb5
    refine gs2 ?_
    refine AW.cond rfl (fun hc4 => ?_) fun hc4 => ?_
    ·
     simp [-List.getD_eq_getElem?_getD] at hc4
     refine gs11 ?_
     exact fin_val (v' := .bool false) rfl rfl rfl (by rw [decide_eq_false (fun hr => by have hp := hr.2 k (by omega); unfold Fu.PtOk Fu.px Fu.py at hp; have h3 := hp.2.2; omega)])
    ·
     simp [-List.getD_eq_getElem?_getD] at hc4
     refine gs7 ?_
     exact Post.bk ⟨k + 1, rfl, rfl, rfl, (by omega), (Fu.lt_succ hall (by unfold Fu.PtOk Fu.px Fu.py; refine ⟨by omega, by omega, fun h0 => ?_⟩; first | exact hc4 h0 | omega))⟩
  ·
   simp [-List.getD_eq_getElem?_getD] at hc2
   refine gs11 ?_
   exact fin_val (v' := .bool true) rfl rfl rfl (by rw [decide_eq_true ⟨by omega, fun j hj => hall j (by omega)⟩])
theorem Same1_c (w : World) (Φ : Hp) (hΦ : Hp.le Φ (hp w)) {xs ys : List Int} {v1 v2 : Value} (h1 : RepSl Φ xs v1) (h2 : RepSl Φ ys v2) :
  Calls pg 11 #[v1, v2] w fun e w' => e = .returned (.bool (decide (xs = ys))) ∧ Bel w.heap.size w w' := by
 refine in2 26 Tryz.func11 rfl rfl hΦ ?_
 have hm1 : xs.length * 8 ≤ 140737488355328 := h1.max
 have hm2 : ys.length * 8 ≤ 140737488355328 := h2.max
 refine gs15 ?_
 refine AW.cond rfl (fun hc1 => ?_) fun hc1 => ?_
 ·
  simp [-List.getD_eq_getElem?_getD] at hc1
  refine gs7 ?_
  exact fin_val (v' := .bool false) rfl rfl rfl (by rw [decide_eq_false (fun e => hc1 (by rw [e]))])
 ·
  simp [-List.getD_eq_getElem?_getD] at hc1
  refine gs9 ?_
  refine AW.lp (fun s J m => ∃ (k : Nat), s = [(0, v1), (1, v2), (5, iV (k : Int))] ∧ J = St ⟨w, Φ, []⟩ Φ [] ∧ m = xs.length - k ∧ (k ≤ xs.length) ∧ (∀ j, j < k → xs.getD j 0 = ys.getD j 0)) ⟨0, rfl, rfl, rfl, (by omega), (by omega)⟩ ?_
  rintro _ _ _ _ ⟨k, rfl, rfl, rfl, hk, heq⟩
  refine gs9 ?_
  refine AW.cond rfl (fun hc2 => ?_) fun hc2 => ?_
  ·
   simp [-List.getD_eq_getElem?_getD] at hc2
   refine gs5 ?_
   refine AW.draw (J0 := St ⟨w, Φ, []⟩ Φ []) [.q, .q, .q, .q, .q, .q, .q, .q, .q] [0, 1, 2, 3, 4, 5, 6, 7, 8] hmix (by kernel_rfl) ?_
   refine gs3 ?_
   refine DW.q (v := iV (xs.getD k 0)) (fun _ h => h) rfl (q_load rfl uT3 rfl (Cell.repInt h1 (by omega))) ?_
   refine gs3 ?_
   refine DW.q (v := iV (ys.getD k 0)) (fun _ h => h) rfl (q_load rfl uT3 rfl (Cell.repInt h2 (by omega))) ?_
   refine gs3 ?_
   refine AW.cond rfl (fun hc3 => ?_) fun hc3 => ?_
   ·
    simp [-List.getD_eq_getElem?_getD] at hc3
    refine gs11 ?_
    exact fin_val (v' := .bool false) rfl rfl rfl (by rw [decide_eq_false (fun e => hc3 (by rw [e]))])
   ·
    simp [-List.getD_eq_getElem?_getD] at hc3
    refine gs8 ?_
    exact Post.bk ⟨k + 1, rfl, rfl, rfl, (by omega), (Fu.lt_succ heq hc3)⟩
  ·
   simp [-List.getD_eq_getElem?_getD] at hc2
   refine gs11 ?_
   exact fin_val (v' := .bool true) rfl rfl rfl (by rw [decide_eq_true (Fu.getD_ext 0 (by omega) (fun j hj => heq j (by omega)))])
theorem SameAll_c (w : World) (Φ : Hp) (hΦ : Hp.le Φ (hp w)) {xs ys : List Bt.Span} {v1 v2 : Value} (h1 : RepSl Φ xs v1) (h2 : RepSl Φ ys v2) :
  Calls pg 44 #[v1, v2] w fun e w' => e = .returned (.bool (decide (xs = ys))) ∧ Bel w.heap.size w w' := by
 refine in2 26 Tryz.func44 rfl rfl hΦ ?_
 have hm1 : xs.length * 16 ≤ 140737488355328 := h1.max
 have hm2 : ys.length * 16 ≤ 140737488355328 := h2.max
 refine gs15 ?_
 refine AW.cond rfl (fun hc1 => ?_) fun hc1 => ?_
 ·
  simp [-List.getD_eq_getElem?_getD] at hc1
  refine gs7 ?_
  exact fin_val (v' := .bool false) rfl rfl rfl (by rw [decide_eq_false (fun e => hc1 (by rw [e]))])
 ·
  simp [-List.getD_eq_getElem?_getD] at hc1
  refine gs9 ?_
  refine AW.lp (fun s J m => ∃ (k : Nat), s = [(0, v1), (1, v2), (5, iV (k : Int))] ∧ J = St ⟨w, Φ, []⟩ Φ [] ∧ m = xs.length - k ∧ (k ≤ xs.length) ∧ (∀ j, j < k → xs.getD j default = ys.getD j default)) ⟨0, rfl, rfl, rfl, (by omega), (by omega)⟩ ?_
  rintro _ _ _ _ ⟨k, rfl, rfl, rfl, hk, heq⟩
  refine gs9 ?_
  refine AW.cond rfl (fun hc2 => ?_) fun hc2 => ?_
  ·
   simp [-List.getD_eq_getElem?_getD] at hc2
   refine gs5 ?_
   refine AW.draw (J0 := St ⟨w, Φ, []⟩ Φ []) [.q, .q, .q, .q, .q, .q, .q, .q, .q] [0, 1, 2, 3, 4, 5, 6, 7, 8] hmix (by kernel_rfl) ?_
   refine gs3 ?_
   refine DW.q (v := .agg #[iV ((xs.getD k default).Lo), iV ((xs.getD k default).Hi)]) (fun _ h => h) rfl (q_loadAgg rfl uT51 rfl sz51 rfl (Cells.repE h1 (by omega) rfl)) ?_
   refine gs3 ?_
   refine DW.q (v := .agg #[iV ((ys.getD k default).Lo), iV ((ys.getD k default).Hi)]) (fun _ h => h) rfl (q_loadAgg rfl uT51 rfl sz51 rfl (Cells.repE h2 (by omega) rfl)) (DW.q (v := .bool (!(decide ((xs.getD k default).Lo = (ys.getD k default).Lo) && decide ((xs.getD k default).Hi = (ys.getD k default).Hi)))) (fun _ h => h) rfl (q_neqS rfl rfl (eqS51 _ _ _ _) eqG51) ?_)
   refine gs2 ?_
   refine AW.cond rfl (fun hc3 => ?_) fun hc3 => ?_
   ·
    simp [-List.getD_eq_getElem?_getD] at hc3
    refine gs11 ?_
    exact fin_val (v' := .bool false) rfl rfl rfl (by rw [decide_eq_false (fun e => by simp [e] at hc3)])
   ·
    simp [-List.getD_eq_getElem?_getD] at hc3
    refine gs8 ?_
    exact Post.bk ⟨k + 1, rfl, rfl, rfl, (by omega), (Fu.lt_succ heq (Fu.span_ext (by simpa using hc3)))⟩
  ·
   simp [-List.getD_eq_getElem?_getD] at hc2
   refine gs11 ?_
   exact fin_val (v' := .bool true) rfl rfl rfl (by rw [decide_eq_true (Fu.getD_ext default (by omega) (fun j hj => heq j (by omega)))])
theorem Index_c (w : World) (Φ : Hp) (hΦ : Hp.le Φ (hp w)) {xs : List Int} {v1 : Value} {v : Int} (h1 : RepSl Φ xs v1) :
  Calls pg 77 #[v1, iV v] w fun e w' => e = .returned (iV (Fu.idx xs v)) ∧ Bel w.heap.size w w' := by
 refine in2 19 Tryz.func77 rfl rfl hΦ ?_
 have hm1 : xs.length * 8 ≤ 140737488355328 := h1.max
 refine gs14 ?_
 refine AW.lp (fun s J m => ∃ (k : Nat), s = [(0, v1), (1, iV v), (7, iV (xs.length : Int)), (8, iV (k : Int))] ∧ J = St ⟨w, Φ, []⟩ Φ [] ∧ m = xs.length - k ∧ (k ≤ xs.length) ∧ (∀ j, j < k → xs.getD j 0 ≠ v)) ⟨0, rfl, rfl, rfl, (by omega), (by omega)⟩ ?_
 rintro _ _ _ _ ⟨k, rfl, rfl, rfl, hk, heq⟩
 refine gs6 ?_
 refine AW.cond rfl (fun hc1 => ?_) fun hc1 => ?_
 ·
  simp [-List.getD_eq_getElem?_getD] at hc1
  refine gs16 ?_
  refine RW.q (v := iV (xs.getD k 0)) rfl (q_load rfl uT3 rfl (Cell.repInt h1 (by omega))) ?_
  refine gs3 ?_
  refine AW.cond rfl (fun hc2 => ?_) fun hc2 => ?_
  ·
   simp [-List.getD_eq_getElem?_getD] at hc2
   refine gs12 ?_
   exact fin_val (v' := iV (k : Int)) rfl rfl rfl (by rw [Fu.idx_hit (by omega) heq (by omega)])
  ·
   simp [-List.getD_eq_getElem?_getD] at hc2
   refine gs7 ?_
   exact Post.bk ⟨k + 1, rfl, rfl, rfl, (by omega), (Fu.lt_succ heq (by omega))⟩
 ·
  simp [-List.getD_eq_getElem?_getD] at hc1
  refine gs11 ?_
  exact fin_val (v' := iV (-1)) rfl rfl rfl (by rw [Fu.idx_miss (fun j hj => heq j (by omega))])
theorem Contains_c (w : World) (Φ : Hp) (hΦ : Hp.le Φ (hp w)) {xs : List Int} {v1 : Value} {v : Int} (h1 : RepSl Φ xs v1) :
  Calls pg 50 #[v1, iV v] w fun e w' => e = .returned (.bool (decide (v ∈ xs))) ∧ Bel w.heap.size w w' := by
 refine in2 9 Tryz.func50 rfl rfl hΦ ?_
 refine gs9 ?_
 refine RW.c rfl (fun w1 hw1 => Index_c w1 (Go.K.hp w1) (Hp.le_refl _) (h1.mono hw1.phi)) rfl rfl ?_
 refine gs5 ?_
 exact fin_val (v' := .bool (decide ((0 : Int) ≤ Fu.idx xs v))) rfl rfl rfl (by rw [Fu.idx_mem])
end Go.Proofs.YtblfeidlnhdekaaGreat
