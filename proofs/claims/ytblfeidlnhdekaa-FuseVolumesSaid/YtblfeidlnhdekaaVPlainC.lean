/- Plain facts of the layer: what fusing does, reading by reading. Conditions: those of each theorem. -/
import Derived.Test.YtblfeidlnhdekaaVPlainB
namespace Fu
/-- what a reading is about: 1 a volume, 2 a position, 0 nothing -/
def kindOf (b : Bt.Basin) (nV nK : Nat) (r : Bt.Reading) : Nat :=
  if ¬ inG b.Gauges r.Gauge ∨ (gaugeAt b.Gauges r.Gauge).Target < 0 then 0
  else if (gaugeAt b.Gauges r.Gauge).Kind = 0 ∧ (gaugeAt b.Gauges r.Gauge).Target < (nV : Int) then 1
  else if (gaugeAt b.Gauges r.Gauge).Kind = 2 ∧ (gaugeAt b.Gauges r.Gauge).Target < (nK : Int) then 2 else 0
def tgt (b : Bt.Basin) (r : Bt.Reading) : Nat := (gaugeAt b.Gauges r.Gauge).Target.toNat
structure FS where
  V : List Bt.Span
  K : List Bt.Known
  N : List Int
def okV (b : Bt.Basin) (V : List Bt.Span) (r : Bt.Reading) : Bool := (volR b r).isSome && (meet (V.getD (tgt b r) default).Lo (V.getD (tgt b r) default).Hi (loOf (volR b r)) (hiOf (volR b r))).isSome
def okK (b : Bt.Basin) (K : List Bt.Known) (r : Bt.Reading) : Bool := (meet (K.getD (tgt b r) default).Pos.Lo (K.getD (tgt b r) default).Pos.Hi r.Value.Lo r.Value.Hi).isSome
/-- one reading -/
def stepF (b : Bt.Basin) (s : FS) (r : Bt.Reading) : FS :=
  if kindOf b s.V.length s.K.length r = 1 then
    (if okV b s.V r then ⟨narV s.V (tgt b r) (loOf (volR b r)) (hiOf (volR b r)), s.K, s.N⟩ else ⟨s.V, s.K, s.N ++ [r.Gauge]⟩)
  else if kindOf b s.V.length s.K.length r = 2 then
    (if okK b s.K r then ⟨s.V, narL s.K (tgt b r) r.Value.Lo r.Value.Hi, s.N⟩ else ⟨s.V, s.K, s.N ++ [r.Gauge]⟩)
  else s
theorem kind0 {b : Bt.Basin} {nV nK : Nat} {r : Bt.Reading} (h : ¬ inG b.Gauges r.Gauge ∨ (gaugeAt b.Gauges r.Gauge).Target < 0) : kindOf b nV nK r = 0 := by unfold kindOf; rw [if_pos h]
theorem kind1 {b : Bt.Basin} {nV nK : Nat} {r : Bt.Reading} (h : ¬ (¬ inG b.Gauges r.Gauge ∨ (gaugeAt b.Gauges r.Gauge).Target < 0)) (h1 : (gaugeAt b.Gauges r.Gauge).Kind = 0 ∧ (gaugeAt b.Gauges r.Gauge).Target < (nV : Int)) : kindOf b nV nK r = 1 := by unfold kindOf; rw [if_neg h, if_pos h1]
theorem kind2 {b : Bt.Basin} {nV nK : Nat} {r : Bt.Reading} (h : ¬ (¬ inG b.Gauges r.Gauge ∨ (gaugeAt b.Gauges r.Gauge).Target < 0)) (h1 : ¬ ((gaugeAt b.Gauges r.Gauge).Kind = 0 ∧ (gaugeAt b.Gauges r.Gauge).Target < (nV : Int))) (h2 : (gaugeAt b.Gauges r.Gauge).Kind = 2 ∧ (gaugeAt b.Gauges r.Gauge).Target < (nK : Int)) : kindOf b nV nK r = 2 := by unfold kindOf; rw [if_neg h, if_neg h1, if_pos h2]
theorem kind3 {b : Bt.Basin} {nV nK : Nat} {r : Bt.Reading} (h1 : ¬ ((gaugeAt b.Gauges r.Gauge).Kind = 0 ∧ (gaugeAt b.Gauges r.Gauge).Target < (nV : Int))) (h2 : ¬ ((gaugeAt b.Gauges r.Gauge).Kind = 2 ∧ (gaugeAt b.Gauges r.Gauge).Target < (nK : Int))) : kindOf b nV nK r = 0 := by
  unfold kindOf
  by_cases h : ¬ inG b.Gauges r.Gauge ∨ (gaugeAt b.Gauges r.Gauge).Target < 0
  · rw [if_pos h]
  · rw [if_neg h, if_neg h1, if_neg h2]
theorem step0 {b : Bt.Basin} {s : FS} {r : Bt.Reading} (h : kindOf b s.V.length s.K.length r = 0) : stepF b s r = s := by unfold stepF; rw [h, if_neg (by decide), if_neg (by decide)]
theorem step1 {b : Bt.Basin} {s : FS} {r : Bt.Reading} (h : kindOf b s.V.length s.K.length r = 1) (ho : okV b s.V r = true) : stepF b s r = ⟨narV s.V (tgt b r) (loOf (volR b r)) (hiOf (volR b r)), s.K, s.N⟩ := by unfold stepF; rw [if_pos h, if_pos ho]
theorem step1n {b : Bt.Basin} {s : FS} {r : Bt.Reading} (h : kindOf b s.V.length s.K.length r = 1) (ho : okV b s.V r = false) : stepF b s r = ⟨s.V, s.K, s.N ++ [r.Gauge]⟩ := by unfold stepF; rw [if_pos h, if_neg (by rw [ho]; decide)]
theorem step2 {b : Bt.Basin} {s : FS} {r : Bt.Reading} (h : kindOf b s.V.length s.K.length r = 2) (ho : okK b s.K r = true) : stepF b s r = ⟨s.V, narL s.K (tgt b r) r.Value.Lo r.Value.Hi, s.N⟩ := by unfold stepF; rw [if_neg (by rw [h]; decide), if_pos h, if_pos ho]
theorem step2n {b : Bt.Basin} {s : FS} {r : Bt.Reading} (h : kindOf b s.V.length s.K.length r = 2) (ho : okK b s.K r = false) : stepF b s r = ⟨s.V, s.K, s.N ++ [r.Gauge]⟩ := by unfold stepF; rw [if_neg (by rw [h]; decide), if_pos h, if_neg (by rw [ho]; decide)]
theorem narV_none {L : List Bt.Span} {i : Nat} {lo hi : Int} (h : (meet (L.getD i default).Lo (L.getD i default).Hi lo hi).isSome = false) : narV L i lo hi = L := by
  unfold narV
  cases hm : meet (L.getD i default).Lo (L.getD i default).Hi lo hi with
  | none => rfl
  | some z => rw [hm] at h; cases h
theorem narL_none {L : List Bt.Known} {i : Nat} {lo hi : Int} (h : (meet (L.getD i default).Pos.Lo (L.getD i default).Pos.Hi lo hi).isSome = false) : narL L i lo hi = L := by
  unfold narL
  cases hm : meet (L.getD i default).Pos.Lo (L.getD i default).Pos.Hi lo hi with
  | none => rfl
  | some z => rw [hm] at h; cases h
theorem narV_len (L : List Bt.Span) (i : Nat) (lo hi : Int) : (narV L i lo hi).length = L.length := by unfold narV; split <;> simp
theorem narL_len (L : List Bt.Known) (i : Nat) (lo hi : Int) : (narL L i lo hi).length = L.length := by unfold narL; split <;> simp
def Ok64 (n : Int) : Prop := -9223372036854775808 ≤ n ∧ n ≤ 9223372036854775807
theorem meet_rng {a b c d : Int} {z : Bt.Span} (h : meet a b c d = some z) : (z.Lo = a ∨ z.Lo = c) ∧ (z.Hi = b ∨ z.Hi = d) := by
  unfold meet at h
  split at h
  · obtain rfl := Option.some.inj h
    simp only; omega
  · cases h
theorem getD_mem {α : Type} [Inhabited α] {L : List α} {i : Nat} (h : i < L.length) : L.getD i default ∈ L := by
  rw [List.getD_eq_getElem?_getD, List.getElem?_eq_getElem h]; exact List.getElem_mem h
theorem narV_wf {L : List Bt.Span} {i : Nat} {lo hi : Int} (hi_ : i < L.length) (hw : ∀ x ∈ L, Ok64 x.Lo ∧ Ok64 x.Hi) (hl : Ok64 lo) (hh : Ok64 hi) : ∀ x ∈ narV L i lo hi, Ok64 x.Lo ∧ Ok64 x.Hi := fun x hx => by
  unfold narV at hx
  split at hx
  · rename_i z hz
    rcases List.mem_or_eq_of_mem_set hx with h1 | h1
    · exact hw x h1
    · subst h1
      obtain ⟨h2, h3⟩ := meet_rng hz
      have h4 := hw _ (getD_mem hi_)
      rcases h2 with h2 | h2 <;> rcases h3 with h3 | h3 <;> rw [h2, h3]
      · exact h4
      · exact ⟨h4.1, hh⟩
      · exact ⟨hl, h4.2⟩
      · exact ⟨hl, hh⟩
  · exact hw x hx
theorem narL_wf {L : List Bt.Known} {P : Bt.Known → Prop} {i : Nat} {lo hi : Int} (hi_ : i < L.length) (hP : ∀ x, P x ↔ (Ok64 x.Pos.Lo ∧ Ok64 x.Pos.Hi) ∧ Ok64 x.Target ∧ (Ok64 x.Open.Lo ∧ Ok64 x.Open.Hi)) (hw : ∀ x ∈ L, P x) (hl : Ok64 lo) (hh : Ok64 hi) : ∀ x ∈ narL L i lo hi, P x := fun x hx => by
  unfold narL at hx
  split at hx
  · rename_i z hz
    rcases List.mem_or_eq_of_mem_set hx with h1 | h1
    · exact hw x h1
    · subst h1
      obtain ⟨h2, h3⟩ := meet_rng hz
      have h4 := (hP _).1 (hw _ (getD_mem hi_))
      refine (hP _).2 ⟨?_, h4.2⟩
      simp only
      rcases h2 with h2 | h2 <;> rcases h3 with h3 | h3 <;> rw [h2, h3]
      · exact h4.1
      · exact ⟨h4.1.1, hh⟩
      · exact ⟨hl, h4.1.2⟩
      · exact ⟨hl, hh⟩
  · exact hw x hx
def atH (hr : Int) (l : List Bt.Reading) : List Bt.Reading := l.filter fun r => decide (r.Hour = hr)
theorem atH_snoc {hr : Int} {l : List Bt.Reading} {k : Nat} (h : k < l.length) : atH hr (l.take (k + 1)) = if (l.getD k default).Hour = hr then atH hr (l.take k) ++ [l.getD k default] else atH hr (l.take k) := by
  unfold atH
  rw [List.take_succ_eq_append_getElem h, List.filter_append, List.getD_eq_getElem?_getD, List.getElem?_eq_getElem h]
  simp only [Option.getD_some]
  by_cases h1 : l[k].Hour = hr
  · rw [if_pos h1]; simp [h1]
  · rw [if_neg h1]; simp [h1]
theorem foldl_takeR {β : Type} (f : β → Bt.Reading → β) (z : β) {l : List Bt.Reading} {k : Nat} (h : k < l.length) : (l.take (k + 1)).foldl f z = f ((l.take k).foldl f z) (l.getD k default) := by
  rw [List.take_succ_eq_append_getElem h, List.foldl_append, List.getD_eq_getElem?_getD, List.getElem?_eq_getElem h]; rfl
theorem volR_rng (b : Bt.Basin) (r : Bt.Reading) : Ok64 (loOf (volR b r)) ∧ Ok64 (hiOf (volR b r)) := by
  cases hv : volR b r with
  | none => exact ⟨⟨by simp [loOf], by simp [loOf]⟩, ⟨by simp [hiOf], by simp [hiOf]⟩⟩
  | some z =>
    unfold volR at hv
    split at hv
    · unfold volL at hv
      split at hv
      · cases hv
      · rename_i l hl
        unfold meet at hv
        split at hv
        · rename_i hm
          obtain rfl := Option.some.inj hv
          simp only [loOf, hiOf, Ok64]
          omega
        · cases hv
    · cases hv
/-- the readings in the order of their gauges -/
def order (n : Nat) (l : List Bt.Reading) : List Bt.Reading := (List.range n).flatMap fun (g : Nat) => l.filter fun r => decide (r.Gauge = (g : Int))
def fuse (b : Bt.Basin) (h : Bt.Hull) (l : List Bt.Reading) : FS := (order b.Gauges.length (atH h.Hour l)).foldl (stepF b) ⟨h.Vol, h.Links, []⟩
theorem comp_sub : ∀ (L acc : List Int), (L.foldl appU acc).length ≤ acc.length + L.length ∧ ∀ x ∈ L.foldl appU acc, x ∈ acc ∨ x ∈ L
  | [], acc => ⟨Nat.le_refl _, fun _ hx => .inl hx⟩
  | y :: L, acc => by
    obtain ⟨h1, h2⟩ := comp_sub L (appU acc y)
    have h3 : (appU acc y).length ≤ acc.length + 1 := by unfold appU; split <;> simp
    refine ⟨?_, fun x hx => ?_⟩
    · simp only [List.foldl_cons, List.length_cons]; omega
    · rcases h2 x hx with h | h
      · unfold appU at h
        split at h
        · exact .inl h
        · rcases List.mem_append.1 h with h | h
          · exact .inl h
          · exact .inr (by simp at h; simp [h])
      · exact .inr (List.mem_cons_of_mem _ h)
theorem comp_le (L : List Int) : (comp L).length ≤ L.length := by have := (comp_sub L []).1; simpa [comp] using this
theorem comp_mem {L : List Int} {x : Int} (h : x ∈ comp L) : x ∈ L := by
  rcases (comp_sub L []).2 x h with h | h
  · cases h
  · exact h
def sameH (x y : Bt.Hull) : Prop := x.Hour = y.Hour ∧ x.Vol = y.Vol ∧ x.Queue = y.Queue ∧ x.Links = y.Links
instance (x y : Bt.Hull) : Decidable (sameH x y) := inferInstanceAs (Decidable (_ ∧ _ ∧ _ ∧ _))
theorem sum_ext {x y : Bt.Sum} (h : ((x.At = y.At ∧ x.To = y.To) ∧ x.Vol.Lo = y.Vol.Lo) ∧ x.Vol.Hi = y.Vol.Hi) : x = y := by
  obtain ⟨a, b, ⟨c, d⟩⟩ := x; obtain ⟨a', b', ⟨c', d'⟩⟩ := y
  simp only at h; obtain ⟨⟨⟨rfl, rfl⟩, rfl⟩, rfl⟩ := h; rfl
theorem known_ext {x y : Bt.Known} (h : (((x.Pos.Lo = y.Pos.Lo ∧ x.Pos.Hi = y.Pos.Hi) ∧ x.Target = y.Target) ∧ x.Open.Lo = y.Open.Lo) ∧ x.Open.Hi = y.Open.Hi) : x = y := by
  obtain ⟨⟨a, b⟩, c, ⟨d, e⟩⟩ := x; obtain ⟨⟨a', b'⟩, c', ⟨d', e'⟩⟩ := y
  simp only at h; obtain ⟨⟨⟨⟨rfl, rfl⟩, rfl⟩, rfl⟩, rfl⟩ := h; rfl
theorem getD_memI {L : List Int} {i : Nat} (h : i < L.length) : L.getD i 0 ∈ L := by
  rw [List.getD_eq_getElem?_getD, List.getElem?_eq_getElem h]; exact List.getElem_mem h
end Fu
