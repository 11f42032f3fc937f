/- Plain facts of the layer: telegrams in their order, sets of telegrams, void gauges, readings. Conditions: those of each theorem. -/
import Derived.Test.YtlljbndnodbecaaData
namespace Se
/-! ### strictly sorted lists -/
theorem sorted_ext {α : Type} {R : α → α → Prop} (hasym : ∀ x y, R x y → ¬ R y x) : ∀ {l r : List α}, l.Pairwise R → r.Pairwise R → (∀ x, x ∈ l ↔ x ∈ r) → l = r
  | [], [], _, _, _ => rfl
  | [], y :: r, _, _, h => by have := (h y).2 (by simp); cases this
  | x :: l, [], _, _, h => by have := (h x).1 (by simp); cases this
  | x :: l, y :: r, hl, hr, h => by
    obtain ⟨l1, l2⟩ := List.pairwise_cons.1 hl
    obtain ⟨r1, r2⟩ := List.pairwise_cons.1 hr
    have hxy : x = y := by
      rcases List.mem_cons.1 ((h x).1 (by simp)) with e | hx
      · exact e
      · rcases List.mem_cons.1 ((h y).2 (by simp)) with e | hy
        · exact e.symm
        · exact absurd (l1 y hy) (hasym y x (r1 x hx))
    subst hxy
    have hirr : ∀ z, ¬ R z z := fun z hz => hasym z z hz hz
    refine congrArg (x :: ·) (sorted_ext hasym l2 r2 fun z => ?_)
    constructor
    · intro hz
      rcases List.mem_cons.1 ((h z).1 (by simp [hz])) with e | h'
      · subst e; exact absurd (l1 z hz) (hirr z)
      · exact h'
    · intro hz
      rcases List.mem_cons.1 ((h z).2 (by simp [hz])) with e | h'
      · subst e; exact absurd (r1 z hz) (hirr z)
      · exact h'
theorem lt_succ {P : Nat → Prop} {k : Nat} (h : ∀ j, j < k → P j) (hk : P k) : ∀ j, j < k + 1 → P j := fun j hj => by
  rcases Nat.lt_or_eq_of_le (Nat.lt_succ_iff.1 hj) with h1 | h1
  · exact h j h1
  · subst h1; exact hk
theorem getD_mem {α : Type} [Inhabited α] {L : List α} {i : Nat} (h : i < L.length) : L.getD i default ∈ L := by
  rw [List.getD_eq_getElem?_getD, List.getElem?_eq_getElem h]; exact List.getElem_mem h
theorem getD_ext {α : Type} (d : α) {l r : List α} (hl : l.length = r.length) (h : ∀ j, j < l.length → l.getD j d = r.getD j d) : l = r := by
  apply List.ext_getElem hl
  intro i h1 h2
  have := h i h1
  simpa [List.getD_eq_getElem?_getD, h1, h2] using this
theorem take_snoc {α : Type} [Inhabited α] {L : List α} {k : Nat} (h : k < L.length) : L.take (k + 1) = L.take k ++ [L.getD k default] := by
  rw [List.take_succ_eq_append_getElem h, List.getD_eq_getElem?_getD, List.getElem?_eq_getElem h]; rfl
/-! ### telegrams -/
def cI (x y : Int) : Int := if x < y then -1 else if y < x then 1 else 0
def bltB : List UInt8 → List UInt8 → Bool
  | [], [] => false
  | [], _ :: _ => true
  | _ :: _, [] => false
  | a :: l, b :: r => if a.toNat < b.toNat then true else if b.toNat < a.toNat then false else bltB l r
def cB (x y : List UInt8) : Int := if bltB x y then -1 else if bltB y x then 1 else 0
def or2 (x y : Int) : Int := if x = 0 then y else x
def cG (x y : Bt.Gram) : Int := or2 (cI x.Gauge y.Gauge) (or2 (cI x.Seq y.Seq) (or2 (cI x.Clock y.Clock) (or2 (cI x.Value y.Value) (cB x.Tag.data.toList y.Tag.data.toList))))
def ltG (x y : Bt.Gram) : Prop := cG x y < 0
theorem bltB_asymm : ∀ x y : List UInt8, bltB x y = true → bltB y x = false
  | [], [], h => by cases h
  | [], _ :: _, _ => rfl
  | _ :: _, [], h => by cases h
  | a :: l, b :: r, h => by
    unfold bltB at h ⊢
    by_cases h1 : a.toNat < b.toNat
    · rw [if_neg (by omega), if_pos h1]
    · rw [if_neg h1] at h
      by_cases h2 : b.toNat < a.toNat
      · rw [if_pos h2] at h; cases h
      · rw [if_neg h2] at h
        rw [if_neg h2, if_neg h1]; exact bltB_asymm l r h
theorem bltB_irrefl : ∀ x : List UInt8, bltB x x = false
  | [] => rfl
  | a :: l => by unfold bltB; rw [if_neg (by omega), if_neg (by omega)]; exact bltB_irrefl l
theorem bltB_tri : ∀ x y : List UInt8, bltB x y = false → bltB y x = false → x = y
  | [], [], _, _ => rfl
  | [], _ :: _, h, _ => by cases h
  | _ :: _, [], _, h => by cases h
  | a :: l, b :: r, h, k => by
    unfold bltB at h k
    by_cases h1 : a.toNat < b.toNat
    · rw [if_pos h1] at h; cases h
    · by_cases h2 : b.toNat < a.toNat
      · rw [if_pos h2] at k; cases k
      · rw [if_neg h1, if_neg h2] at h
        rw [if_neg h2, if_neg h1] at k
        have : a = b := UInt8.toNat_inj.1 (by omega)
        rw [this, bltB_tri l r h k]
theorem bltB_trans : ∀ x y z : List UInt8, bltB x y = true → bltB y z = true → bltB x z = true
  | [], [], _, h, _ => by cases h
  | [], _ :: _, [], _, k => by cases k
  | [], _ :: _, _ :: _, _, _ => rfl
  | _ :: _, [], _, h, _ => by cases h
  | _ :: _, _ :: _, [], _, k => by cases k
  | a :: l, b :: r, c :: q, h, k => by
    unfold bltB at h k ⊢
    by_cases h1 : a.toNat < b.toNat
    · by_cases k1 : b.toNat < c.toNat
      · rw [if_pos (by omega)]
      · rw [if_neg k1] at k
        by_cases k2 : c.toNat < b.toNat
        · rw [if_pos k2] at k; cases k
        · rw [if_pos (by omega)]
    · rw [if_neg h1] at h
      by_cases h2 : b.toNat < a.toNat
      · rw [if_pos h2] at h; cases h
      · rw [if_neg h2] at h
        by_cases k1 : b.toNat < c.toNat
        · rw [if_pos (by omega)]
        · rw [if_neg k1] at k
          by_cases k2 : c.toNat < b.toNat
          · rw [if_pos k2] at k; cases k
          · rw [if_neg k2] at k
            rw [if_neg (by omega), if_neg (by omega)]; exact bltB_trans l r q h k
theorem cB_cases (x y : List UInt8) : (cB x y = -1 ∧ bltB x y = true) ∨ (cB x y = 1 ∧ bltB y x = true) ∨ (cB x y = 0 ∧ x = y) := by
  unfold cB
  cases h : bltB x y with
  | true => exact .inl ⟨rfl, rfl⟩
  | false =>
    cases k : bltB y x with
    | true => exact .inr (.inl ⟨by simp, rfl⟩)
    | false => exact .inr (.inr ⟨by simp, bltB_tri x y h k⟩)
theorem cI_cases (x y : Int) : (cI x y = -1 ∧ x < y) ∨ (cI x y = 1 ∧ y < x) ∨ (cI x y = 0 ∧ x = y) := by
  unfold cI; split
  · exact .inl ⟨rfl, by assumption⟩
  · split
    · exact .inr (.inl ⟨rfl, by assumption⟩)
    · exact .inr (.inr ⟨rfl, by omega⟩)
/-- before, number by number -/
theorem ltG_iff (x y : Bt.Gram) : cG x y < 0 ↔ x.Gauge < y.Gauge ∨ x.Gauge = y.Gauge ∧ (x.Seq < y.Seq ∨ x.Seq = y.Seq ∧ (x.Clock < y.Clock ∨ x.Clock = y.Clock ∧ (x.Value < y.Value ∨ x.Value = y.Value ∧ bltB x.Tag.data.toList y.Tag.data.toList = true))) := by
  unfold cG or2
  have h5 : cB x.Tag.data.toList y.Tag.data.toList < 0 ↔ bltB x.Tag.data.toList y.Tag.data.toList = true := by
    rcases cB_cases x.Tag.data.toList y.Tag.data.toList with ⟨e, h⟩ | ⟨e, h⟩ | ⟨e, h⟩
    · simp [e, h]
    · have := bltB_asymm _ _ h; simp [e, this]
    · rw [e, h, bltB_irrefl]; simp
  rcases cI_cases x.Gauge y.Gauge with ⟨e, h⟩ | ⟨e, h⟩ | ⟨e, h⟩ <;> rw [e]
  · simp [h]
  · simp; omega
  · rcases cI_cases x.Seq y.Seq with ⟨e, h2⟩ | ⟨e, h2⟩ | ⟨e, h2⟩ <;> rw [e]
    · simp [h, h2]
    · simp; omega
    · rcases cI_cases x.Clock y.Clock with ⟨e, h3⟩ | ⟨e, h3⟩ | ⟨e, h3⟩ <;> rw [e]
      · simp [h, h2, h3]
      · simp; omega
      · rcases cI_cases x.Value y.Value with ⟨e, h4⟩ | ⟨e, h4⟩ | ⟨e, h4⟩ <;> rw [e]
        · simp [h, h2, h3, h4]
        · simp; omega
        · simp only [if_true]
          rw [h5]
          simp [h, h2, h3, h4]
theorem ltG_irrefl (x : Bt.Gram) : ¬ cG x x < 0 := by
  rw [ltG_iff]; rintro (h | ⟨_, h | ⟨_, h | ⟨_, h | ⟨_, h⟩⟩⟩⟩)
  · omega
  · omega
  · omega
  · omega
  · rw [bltB_irrefl] at h; cases h
theorem ltG_trans {x y z : Bt.Gram} (h : cG x y < 0) (k : cG y z < 0) : cG x z < 0 := by
  rw [ltG_iff] at *
  rcases h with h | ⟨e1, h⟩ <;> rcases k with k | ⟨f1, k⟩
  · left; omega
  · left; omega
  · left; omega
  · right; refine ⟨by omega, ?_⟩
    rcases h with h | ⟨e2, h⟩ <;> rcases k with k | ⟨f2, k⟩
    · left; omega
    · left; omega
    · left; omega
    · right; refine ⟨by omega, ?_⟩
      rcases h with h | ⟨e3, h⟩ <;> rcases k with k | ⟨f3, k⟩
      · left; omega
      · left; omega
      · left; omega
      · right; refine ⟨by omega, ?_⟩
        rcases h with h | ⟨e4, h⟩ <;> rcases k with k | ⟨f4, k⟩
        · left; omega
        · left; omega
        · left; omega
        · right; exact ⟨by omega, bltB_trans _ _ _ h k⟩
theorem gram_ext {x y : Bt.Gram} (h1 : x.Gauge = y.Gauge) (h2 : x.Seq = y.Seq) (h3 : x.Clock = y.Clock) (h4 : x.Value = y.Value) (h5 : x.Tag.data.toList = y.Tag.data.toList) : x = y := by
  obtain ⟨a, b, c, d, ⟨⟨e⟩⟩⟩ := x; obtain ⟨a', b', c', d', ⟨⟨e'⟩⟩⟩ := y
  simp only at h1 h2 h3 h4 h5
  subst h1; subst h2; subst h3; subst h4; subst h5; rfl
theorem ltG_tri {x y : Bt.Gram} (h : ¬ cG x y < 0) (k : ¬ cG y x < 0) : x = y := by
  rw [ltG_iff] at h k
  have e1 : x.Gauge = y.Gauge := by
    rcases Int.lt_trichotomy x.Gauge y.Gauge with h' | h' | h'
    · exact absurd (.inl h') h
    · exact h'
    · exact absurd (.inl h') k
  have h := fun z => h (.inr ⟨e1, z⟩)
  have k := fun z => k (.inr ⟨e1.symm, z⟩)
  have e2 : x.Seq = y.Seq := by
    rcases Int.lt_trichotomy x.Seq y.Seq with h' | h' | h'
    · exact absurd (.inl h') h
    · exact h'
    · exact absurd (.inl h') k
  have h := fun z => h (.inr ⟨e2, z⟩)
  have k := fun z => k (.inr ⟨e2.symm, z⟩)
  have e3 : x.Clock = y.Clock := by
    rcases Int.lt_trichotomy x.Clock y.Clock with h' | h' | h'
    · exact absurd (.inl h') h
    · exact h'
    · exact absurd (.inl h') k
  have h := fun z => h (.inr ⟨e3, z⟩)
  have k := fun z => k (.inr ⟨e3.symm, z⟩)
  have e4 : x.Value = y.Value := by
    rcases Int.lt_trichotomy x.Value y.Value with h' | h' | h'
    · exact absurd (.inl h') h
    · exact h'
    · exact absurd (.inl h') k
  have h := fun z => h (.inr ⟨e4, z⟩)
  have k := fun z => k (.inr ⟨e4.symm, z⟩)
  refine gram_ext e1 e2 e3 e4 (bltB_tri _ _ ?_ ?_)
  · cases hb : bltB x.Tag.data.toList y.Tag.data.toList with
    | false => rfl
    | true => exact absurd hb h
  · cases hb : bltB y.Tag.data.toList x.Tag.data.toList with
    | false => rfl
    | true => exact absurd hb k
theorem ltG_asymm {x y : Bt.Gram} (h : cG x y < 0) : ¬ cG y x < 0 := fun k => ltG_irrefl x (ltG_trans h k)
/-- a merged list: in strict order, the telegrams of both -/
structure Mrg (a b M : List Bt.Gram) : Prop where
  srt : M.Pairwise fun x y => cG x y < 0
  mem : ∀ g, g ∈ M ↔ g ∈ a ∨ g ∈ b
theorem Mrg.unique {a b a' b' M M' : List Bt.Gram} (h : Mrg a b M) (k : Mrg a' b' M') (hm : ∀ g, (g ∈ a ∨ g ∈ b) ↔ (g ∈ a' ∨ g ∈ b')) : M = M' :=
  sorted_ext (fun x y h1 h2 => ltG_asymm h1 h2) h.srt k.srt fun g => by rw [h.mem, k.mem, hm]
/-! ### void gauges -/
def VoidP (l : List Bt.Gram) (g : Int) : Prop := ∃ x ∈ l, ∃ y ∈ l, x.Gauge = g ∧ y.Gauge = g ∧ x.Seq = y.Seq ∧ x ≠ y
/-- the first telegram with a number -/
def frst (l : List Bt.Gram) (k : Int × Int) : Option Bt.Gram := l.find? fun t => decide (t.Gauge = k.1 ∧ t.Seq = k.2)
def voidM (l : List Bt.Gram) (g : Int) : Option Bool := if ∃ t ∈ l, t.Gauge = g ∧ frst l (g, t.Seq) ≠ some t then some true else none
theorem frst_snoc (l : List Bt.Gram) (t : Bt.Gram) (k : Int × Int) : frst (l ++ [t]) k = if frst l k = none then (if k = (t.Gauge, t.Seq) then some t else none) else frst l k := by
  unfold frst
  rw [List.find?_append]
  cases h : l.find? (fun t => decide (t.Gauge = k.1 ∧ t.Seq = k.2)) with
  | some x => simp
  | none =>
    simp only [Option.none_or, if_true]
    by_cases hk : k = (t.Gauge, t.Seq)
    · subst hk; simp
    · rw [if_neg hk, List.find?_cons_of_neg]
      · rfl
      · simp only [decide_eq_true_eq]
        rintro ⟨e1, e2⟩
        exact hk (Prod.ext e1.symm e2.symm)
theorem frst_mem {l : List Bt.Gram} {k : Int × Int} {t : Bt.Gram} (h : frst l k = some t) : t ∈ l ∧ t.Gauge = k.1 ∧ t.Seq = k.2 := by
  unfold frst at h
  have h1 := List.mem_of_find?_eq_some h
  have h2 := List.find?_some h
  exact ⟨h1, by simpa using h2⟩
theorem frst_some {l : List Bt.Gram} {t : Bt.Gram} (h : t ∈ l) : ∃ x, frst l (t.Gauge, t.Seq) = some x := by
  cases hf : frst l (t.Gauge, t.Seq) with
  | some x => exact ⟨x, rfl⟩
  | none =>
    unfold frst at hf
    have := List.find?_eq_none.1 hf t h
    simp at this
theorem voidM_iff (l : List Bt.Gram) (g : Int) : voidM l g = some true ↔ VoidP l g := by
  unfold voidM VoidP
  constructor
  · intro h
    split at h
    · rename_i hh
      obtain ⟨t, ht, hg, hne⟩ := hh
      obtain ⟨x, hx⟩ := frst_some ht
      rw [hg] at hx
      obtain ⟨h1, h2, h3⟩ := frst_mem hx
      refine ⟨x, h1, t, ht, h2, hg, h3, ?_⟩
      rintro rfl; exact hne hx
    · cases h
  · rintro ⟨x, hx, y, hy, h1, h2, h3, hne⟩
    rw [if_pos]
    obtain ⟨f, hf⟩ := frst_some hx
    rw [h1] at hf
    by_cases hfx : f = x
    · subst hfx
      refine ⟨y, hy, h2, ?_⟩
      rw [← h3, hf]
      intro e; exact hne (Option.some.inj e)
    · refine ⟨x, hx, h1, ?_⟩
      rw [hf]; intro e; exact hfx (Option.some.inj e)
theorem voidM_snoc (l : List Bt.Gram) (t : Bt.Gram) (g : Int) : voidM (l ++ [t]) g = if g = t.Gauge ∧ (∃ f, frst l (t.Gauge, t.Seq) = some f ∧ f ≠ t) then some true else voidM l g := by
  have key : voidM (l ++ [t]) g = some true ↔ (g = t.Gauge ∧ (∃ f, frst l (t.Gauge, t.Seq) = some f ∧ f ≠ t)) ∨ voidM l g = some true := by
    rw [voidM_iff, voidM_iff]
    constructor
    · rintro ⟨x, hx, y, hy, h1, h2, h3, hne⟩
      have hcase : ∀ x y : Bt.Gram, x ∈ l ++ [t] → y ∈ l ++ [t] → x.Gauge = g → y.Gauge = g → x.Seq = y.Seq → x ≠ y → y ∈ l ∨ x ∈ l := fun x y hx hy _ _ _ hne => by
        rcases List.mem_append.1 hx with h | h
        · exact .inr h
        · rcases List.mem_append.1 hy with k | k
          · exact .inl k
          · exact absurd ((List.mem_singleton.1 h).trans (List.mem_singleton.1 k).symm) hne
      have main : ∀ p q : Bt.Gram, p ∈ l → q ∈ l ++ [t] → p.Gauge = g → q.Gauge = g → p.Seq = q.Seq → p ≠ q → (g = t.Gauge ∧ (∃ f, frst l (t.Gauge, t.Seq) = some f ∧ f ≠ t)) ∨ VoidP l g := fun p q hp hq k1 k2 k3 hpq => by
        rcases List.mem_append.1 hq with hq2 | hq2
        · exact .inr ⟨p, hp, q, hq2, k1, k2, k3, hpq⟩
        · have hqt := List.mem_singleton.1 hq2
          obtain ⟨f, hf⟩ := frst_some hp
          obtain ⟨f1, f2, f3⟩ := frst_mem hf
          by_cases hft : f = q
          · right
            exact ⟨p, hp, f, f1, k1, by rw [f2]; exact k1, f3.symm, by rw [hft]; exact hpq⟩
          · left
            rw [k1, k3, ← k2, hqt] at hf
            exact ⟨by rw [← k2, hqt], f, hf, by rw [← hqt]; exact hft⟩
      rcases List.mem_append.1 hx with hx' | hx'
      · exact main x y hx' hy h1 h2 h3 hne
      · rcases List.mem_append.1 hy with hy' | hy'
        · exact main y x hy' hx h2 h1 h3.symm (fun e => hne e.symm)
        · exact absurd ((List.mem_singleton.1 hx').trans (List.mem_singleton.1 hy').symm) hne
    · rintro (⟨hg, f, hf, hne⟩ | ⟨x, hx, y, hy, h⟩)
      · obtain ⟨f1, f2, f3⟩ := frst_mem hf
        exact ⟨f, List.mem_append_left _ f1, t, by simp, by rw [f2, hg], hg.symm, f3, hne⟩
      · exact ⟨x, List.mem_append_left _ hx, y, List.mem_append_left _ hy, h⟩
  have hval : ∀ l, voidM l g = some true ∨ voidM l g = none := fun l => by unfold voidM; split <;> simp
  split
  · rename_i h; exact key.2 (.inl h)
  · rename_i h
    rcases hval (l ++ [t]) with h1 | h1
    · rw [h1]; rcases key.1 h1 with h2 | h2
      · exact absurd h2 h
      · exact h2.symm
    · rw [h1]; rcases hval l with h2 | h2
      · rw [key.2 (.inr h2)] at h1; cases h1
      · exact h2.symm
theorem voidP_mono {l r : List Bt.Gram} {g : Int} (h : ∀ x, x ∈ l → x.Gauge = g → x ∈ r) (hv : VoidP l g) : VoidP r g := by
  obtain ⟨x, hx, y, hy, h1, h2, h3⟩ := hv
  exact ⟨x, h x hx h1, y, h y hy h2, h1, h2, h3⟩
end Se
