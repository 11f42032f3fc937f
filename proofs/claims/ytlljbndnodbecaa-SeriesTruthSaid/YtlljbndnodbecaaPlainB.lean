/- Plain facts of the layer: the readings of a list of telegrams. Conditions: those of each theorem. -/
import Derived.Test.YtlljbndnodbecaaPlain
namespace Se
def addS (x y : Int) : Int := if 9223372036854775807 < x + y then 9223372036854775807 else if x + y < -9223372036854775808 then -9223372036854775808 else x + y
def subS (x y : Int) : Int := if 9223372036854775807 < x - y then 9223372036854775807 else if x - y < -9223372036854775808 then -9223372036854775808 else x - y
def Right (n : Nat) (t : Bt.Gram) : Prop := (0 ≤ t.Gauge ∧ t.Gauge ≤ 127) ∧ (0 ≤ t.Seq ∧ t.Seq ≤ 1099511627776) ∧ (0 ≤ t.Clock ∧ t.Clock ≤ 1006633019) ∧ (-1099511627776 ≤ t.Value ∧ t.Value ≤ 1099511627776) ∧ t.Tag.data.toList.length = 8 ∧ t.Gauge < (n : Int)
instance (n : Nat) (t : Bt.Gram) : Decidable (Right n t) := inferInstanceAs (Decidable (_ ∧ _ ∧ _ ∧ _ ∧ _ ∧ _))
def gOf (b : Bt.Basin) (t : Bt.Gram) : Bt.Gauge := b.Gauges.getD t.Gauge.toNat default
def hourT (g : Bt.Gauge) (t : Bt.Gram) : Int := (t.Clock - g.Drift) / 60
def Sure (g : Bt.Gauge) (t : Bt.Gram) : Prop := 0 ≤ g.Drift ∧ g.Drift < 60 ∧ (t.Clock - g.Drift) / 60 = (t.Clock + g.Drift) / 60
instance (g : Bt.Gauge) (t : Bt.Gram) : Decidable (Sure g t) := inferInstanceAs (Decidable (_ ∧ _ ∧ _))
open Classical in
noncomputable instance (l : List Bt.Gram) (g : Int) : Decidable (VoidP l g) := Classical.propDecidable _
/-- a telegram that counts -/
def Use (b : Bt.Basin) (l : List Bt.Gram) (u v : Int) (t : Bt.Gram) : Prop := Right b.Gauges.length t ∧ ¬ VoidP l t.Gauge ∧ Sure (gOf b t) t ∧ u ≤ hourT (gOf b t) t ∧ hourT (gOf b t) t < v
def plc (b : Bt.Basin) (t : Bt.Gram) : Int × Int := (hourT (gOf b t) t, t.Gauge)
def loT (b : Bt.Basin) (t : Bt.Gram) : Int := subS t.Value (gOf b t).Err
def hiT (b : Bt.Basin) (t : Bt.Gram) : Int := addS t.Value (gOf b t).Err
def joinV (o : Option Bt.Span) (lo hi : Int) : Bt.Span := match o with | none => ⟨lo, hi⟩ | some s => ⟨max s.Lo lo, min s.Hi hi⟩
open Classical in
/-- what the map of values holds after a list of telegrams -/
noncomputable def valM (b : Bt.Basin) (l : List Bt.Gram) (u v : Int) : List Bt.Gram → (Int × Int) → Option Bt.Span
  | L => fun k => L.foldl (fun o t => if Use b l u v t ∧ plc b t = k then some (joinV o (loT b t) (hiT b t)) else o) none
open Classical in
theorem valM_snoc (b : Bt.Basin) (l : List Bt.Gram) (u v : Int) (L : List Bt.Gram) (t : Bt.Gram) (k : Int × Int) : valM b l u v (L ++ [t]) k = if Use b l u v t ∧ plc b t = k then some (joinV (valM b l u v L k) (loT b t) (hiT b t)) else valM b l u v L k := by
  unfold valM; rw [List.foldl_append]; rfl
theorem valM_use {b : Bt.Basin} {l : List Bt.Gram} {u v : Int} {L : List Bt.Gram} {t : Bt.Gram} (h : Use b l u v t) : valM b l u v (L ++ [t]) = fun k => if k = plc b t then some (joinV (valM b l u v L (plc b t)) (loT b t) (hiT b t)) else valM b l u v L k := by
  funext k
  rw [valM_snoc]
  by_cases hk : k = plc b t
  · subst hk; rw [if_pos ⟨h, rfl⟩, if_pos rfl]
  · rw [if_neg (fun e => hk e.2.symm), if_neg hk]
theorem valM_skip {b : Bt.Basin} {l : List Bt.Gram} {u v : Int} {L : List Bt.Gram} {t : Bt.Gram} (h : ¬ Use b l u v t) : valM b l u v (L ++ [t]) = valM b l u v L := by
  funext k; rw [valM_snoc, if_neg (fun e => h e.1)]
/-- the meeting of the values of a set of telegrams -/
structure IsV (b : Bt.Basin) (S : Bt.Gram → Prop) (s : Bt.Span) : Prop where
  lo : ∃ t, S t ∧ loT b t = s.Lo
  loB : ∀ t, S t → loT b t ≤ s.Lo
  hi : ∃ t, S t ∧ hiT b t = s.Hi
  hiB : ∀ t, S t → s.Hi ≤ hiT b t
theorem IsV.unique {b : Bt.Basin} {S : Bt.Gram → Prop} {s s' : Bt.Span} (h : IsV b S s) (k : IsV b S s') : s = s' := by
  obtain ⟨a, b_⟩ := s; obtain ⟨a', b'⟩ := s'
  obtain ⟨t1, h1, e1⟩ := h.lo; obtain ⟨t2, h2, e2⟩ := h.hi; obtain ⟨t3, h3, e3⟩ := k.lo; obtain ⟨t4, h4, e4⟩ := k.hi
  have a1 := k.loB t1 h1; have a2 := h.loB t3 h3; have a3 := k.hiB t2 h2; have a4 := h.hiB t4 h4
  simp only at *
  have u1 : a = a' := by omega
  have u2 : b_ = b' := by omega
  rw [u1, u2]
theorem IsV.congr {b : Bt.Basin} {S S' : Bt.Gram → Prop} {s : Bt.Span} (hS : ∀ t, S t ↔ S' t) (h : IsV b S s) : IsV b S' s := by
  have : S = S' := funext fun t => propext (hS t)
  subst this; exact h
def At (b : Bt.Basin) (l : List Bt.Gram) (u v : Int) (L : List Bt.Gram) (k : Int × Int) (t : Bt.Gram) : Prop := t ∈ L ∧ Use b l u v t ∧ plc b t = k
theorem valM_spec (b : Bt.Basin) (l : List Bt.Gram) (u v : Int) (k : Int × Int) : ∀ n, ∀ L : List Bt.Gram, L.length = n → (valM b l u v L k = none ∧ ∀ t, ¬ At b l u v L k t) ∨ ∃ s, valM b l u v L k = some s ∧ IsV b (At b l u v L k) s
  | 0, L, hL => by
    obtain rfl := List.length_eq_zero_iff.1 hL
    exact .inl ⟨rfl, fun t h => by cases h.1⟩
  | n + 1, L, hL => by
    obtain ⟨L, t, rfl⟩ : ∃ L' t, L = L' ++ [t] := by
      have hne : L ≠ [] := fun e => by subst e; cases hL
      exact ⟨L.dropLast, L.getLast hne, (List.dropLast_concat_getLast hne).symm⟩
    have hl : L.length = n := by simpa using hL
    have ih := valM_spec b l u v k n L hl
    by_cases hu : Use b l u v t ∧ plc b t = k
    · right
      rw [valM_snoc, if_pos hu]
      have hAt : ∀ x, At b l u v (L ++ [t]) k x ↔ At b l u v L k x ∨ x = t := fun x => by
        unfold At
        rw [List.mem_append, List.mem_singleton]
        constructor
        · rintro ⟨h1 | h1, h2⟩
          · exact .inl ⟨h1, h2⟩
          · exact .inr h1
        · rintro (⟨h1, h2⟩ | rfl)
          · exact ⟨.inl h1, h2⟩
          · exact ⟨.inr rfl, hu⟩
      refine ⟨_, rfl, IsV.congr (fun x => (hAt x).symm) ?_⟩
      rcases ih with ⟨h1, h2⟩ | ⟨s, h1, h2⟩
      · rw [h1]
        exact ⟨⟨t, .inr rfl, rfl⟩, fun x hx => by rcases hx with hx | rfl; exact absurd hx (h2 x); exact Int.le_refl _, ⟨t, .inr rfl, rfl⟩, fun x hx => by rcases hx with hx | rfl; exact absurd hx (h2 x); exact Int.le_refl _⟩
      · rw [h1]
        obtain ⟨t1, k1, e1⟩ := h2.lo; obtain ⟨t2, k2, e2⟩ := h2.hi
        refine ⟨?_, fun x hx => ?_, ?_, fun x hx => ?_⟩
        · show ∃ x, _ ∧ loT b x = max s.Lo (loT b t)
          by_cases hm : s.Lo ≤ loT b t
          · exact ⟨t, .inr rfl, by omega⟩
          · exact ⟨t1, .inl k1, by omega⟩
        · show loT b x ≤ max s.Lo (loT b t)
          rcases hx with hx | rfl
          · have := h2.loB x hx; omega
          · omega
        · show ∃ x, _ ∧ hiT b x = min s.Hi (hiT b t)
          by_cases hm : hiT b t ≤ s.Hi
          · exact ⟨t, .inr rfl, by omega⟩
          · exact ⟨t2, .inl k2, by omega⟩
        · show min s.Hi (hiT b t) ≤ hiT b x
          rcases hx with hx | rfl
          · have := h2.hiB x hx; omega
          · omega
    · rw [valM_snoc, if_neg hu]
      have hAt : ∀ x, At b l u v (L ++ [t]) k x ↔ At b l u v L k x := fun x => by
        unfold At
        rw [List.mem_append, List.mem_singleton]
        constructor
        · rintro ⟨h1 | rfl, h2⟩
          · exact ⟨h1, h2⟩
          · exact absurd h2 hu
        · rintro ⟨h1, h2⟩; exact ⟨.inl h1, h2⟩
      rcases ih with ⟨h1, h2⟩ | ⟨s, h1, h2⟩
      · exact .inl ⟨h1, fun x hx => h2 x ((hAt x).1 hx)⟩
      · exact .inr ⟨s, h1, h2.congr fun x => (hAt x).symm⟩
theorem valM_iff {b : Bt.Basin} {l : List Bt.Gram} {u v : Int} {L : List Bt.Gram} {k : Int × Int} {s : Bt.Span} : valM b l u v L k = some s ↔ IsV b (At b l u v L k) s := by
  rcases valM_spec b l u v k _ L rfl with ⟨h1, h2⟩ | ⟨s', h1, h2⟩
  · rw [h1]
    constructor
    · intro h; cases h
    · intro h; obtain ⟨t, ht, _⟩ := h.lo; exact absurd ht (h2 t)
  · rw [h1]
    constructor
    · intro h; rw [← Option.some.inj h]; exact h2
    · intro h; rw [h2.unique h]
/-- the readings of a list -/
def IsR (b : Bt.Basin) (l : List Bt.Gram) (u v : Int) (r : Bt.Reading) : Prop := IsV b (At b l u v l (r.Hour, r.Gauge)) r.Value ∧ r.Value.Lo ≤ r.Value.Hi
def ltR (x y : Bt.Reading) : Prop := x.Hour < y.Hour ∨ x.Hour = y.Hour ∧ x.Gauge < y.Gauge
structure Rds (b : Bt.Basin) (l : List Bt.Gram) (u v : Int) (R : List Bt.Reading) : Prop where
  srt : R.Pairwise ltR
  mem : ∀ r, r ∈ R ↔ IsR b l u v r
theorem ltR_asymm (x y : Bt.Reading) (h : ltR x y) : ¬ ltR y x := fun k => by unfold ltR at h k; omega
theorem Rds.unique {b : Bt.Basin} {l l' : List Bt.Gram} {u v u' v' : Int} {R R' : List Bt.Reading} (h : Rds b l u v R) (k : Rds b l' u' v' R') (hm : ∀ r, IsR b l u v r ↔ IsR b l' u' v' r) : R = R' :=
  sorted_ext ltR_asymm h.srt k.srt fun r => by rw [h.mem, k.mem, hm]
end Se
