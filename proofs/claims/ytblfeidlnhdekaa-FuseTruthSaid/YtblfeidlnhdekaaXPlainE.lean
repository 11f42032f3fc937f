/- Plain facts of the layer: what fusing does, reading by reading. Conditions: those of each theorem. -/
import Derived.Test.YtblfeidlnhdekaaXPlainB
import Derived.Test.YtblfeidlnhdekaaXSorts
namespace Fu
/-- what a reading is about: 1 a volume, 2 a position, 0 nothing -/
def kindOf (b : Bt.Basin) (nV nK : Nat) (r : Bt.Reading) : Nat :=
  if ¬ inG b.Gauges r.Gauge ∨ (gaugeAt b.Gauges r.Gauge).Target < 0 then 0
  else if (gaugeAt b.Gauges r.Gauge).Kind = 0 ∧ (gaugeAt b.Gauges r.Gauge).Target < (nV : Int) then 1
  else if (gaugeAt b.Gauges r.Gauge).Kind = 2 ∧ (gaugeAt b.Gauges r.Gauge).Target < (nK : Int) then 2 else 0
def tgt (b : Bt.Basin) (r : Bt.Reading) : Nat := (gaugeAt b.Gauges r.Gauge).Target.toNat
structure FS where
  V : List Bt.Span
  K : List Bt.Known
  N : List Int
def okV (b : Bt.Basin) (V : List Bt.Span) (r : Bt.Reading) : Bool := (volR b r).isSome && (meet (V.getD (tgt b r) default).Lo (V.getD (tgt b r) default).Hi (loOf (volR b r)) (hiOf (volR b r))).isSome
def okK (b : Bt.Basin) (K : List Bt.Known) (r : Bt.Reading) : Bool := (meet (K.getD (tgt b r) default).Pos.Lo (K.getD (tgt b r) default).Pos.Hi r.Value.Lo r.Value.Hi).isSome
/-- one reading -/
def stepF (b : Bt.Basin) (s : FS) (r : Bt.Reading) : FS :=
  if kindOf b s.V.length s.K.length r = 1 then
    (if okV b s.V r then ⟨narV s.V (tgt b r) (loOf (volR b r)) (hiOf (volR b r)), s.K, s.N⟩ else ⟨s.V, s.K, s.N ++ [r.Gauge]⟩)
  else if kindOf b s.V.length s.K.length r = 2 then
    (if okK b s.K r then ⟨s.V, narL s.K (tgt b r) r.Value.Lo r.Value.Hi, s.N⟩ else ⟨s.V, s.K, s.N ++ [r.Gauge]⟩)
  else s
theorem kind0 {b : Bt.Basin} {nV nK : Nat} {r : Bt.Reading} (h : ¬ inG b.Gauges r.Gauge ∨ (gaugeAt b.Gauges r.Gauge).Target < 0) : kindOf b nV nK r = 0 := by unfold kindOf; rw [if_pos h]
theorem kind1 {b : Bt.Basin} {nV nK : Nat} {r : Bt.Reading} (h : ¬ (¬ inG b.Gauges r.Gauge ∨ (gaugeAt b.Gauges r.Gauge).Target < 0)) (h1 : (gaugeAt b.Gauges r.Gauge).Kind = 0 ∧ (gaugeAt b.Gauges r.Gauge).Target < (nV : Int)) : kindOf b nV nK r = 1 := by unfold kindOf; rw [if_neg h, if_pos h1]
theorem kind2 {b : Bt.Basin} {nV nK : Nat} {r : Bt.Reading} (h : ¬ (¬ inG b.Gauges r.Gauge ∨ (gaugeAt b.Gauges r.Gauge).Target < 0)) (h1 : ¬ ((gaugeAt b.Gauges r.Gauge).Kind = 0 ∧ (gaugeAt b.Gauges r.Gauge).Target < (nV : Int))) (h2 : (gaugeAt b.Gauges r.Gauge).Kind = 2 ∧ (gaugeAt b.Gauges r.Gauge).Target < (nK : Int)) : kindOf b nV nK r = 2 := by unfold kindOf; rw [if_neg h, if_neg h1, if_pos h2]
theorem kind3 {b : Bt.Basin} {nV nK : Nat} {r : Bt.Reading} (h1 : ¬ ((gaugeAt b.Gauges r.Gauge).Kind = 0 ∧ (gaugeAt b.Gauges r.Gauge).Target < (nV : Int))) (h2 : ¬ ((gaugeAt b.Gauges r.Gauge).Kind = 2 ∧ (gaugeAt b.Gauges r.Gauge).Target < (nK : Int))) : kindOf b nV nK r = 0 := by
  unfold kindOf
  by_cases h : ¬ inG b.Gauges r.Gauge ∨ (gaugeAt b.Gauges r.Gauge).Target < 0
  · rw [if_pos h]
  · rw [if_neg h, if_neg h1, if_neg h2]
theorem step0 {b : Bt.Basin} {s : FS} {r : Bt.Reading} (h : kindOf b s.V.length s.K.length r = 0) : stepF b s r = s := by unfold stepF; rw [h, if_neg (by decide), if_neg (by decide)]
theorem step1 {b : Bt.Basin} {s : FS} {r : Bt.Reading} (h : kindOf b s.V.length s.K.length r = 1) (ho : okV b s.V r = true) : stepF b s r = ⟨narV s.V (tgt b r) (loOf (volR b r)) (hiOf (volR b r)), s.K, s.N⟩ := by unfold stepF; rw [if_pos h, if_pos ho]
theorem step1n {b : Bt.Basin} {s : FS} {r : Bt.Reading} (h : kindOf b s.V.length s.K.length r = 1) (ho : okV b s.V r = false) : stepF b s r = ⟨s.V, s.K, s.N ++ [r.Gauge]⟩ := by unfold stepF; rw [if_pos h, if_neg (by rw [ho]; decide)]
theorem step2 {b : Bt.Basin} {s : FS} {r : Bt.Reading} (h : kindOf b s.V.length s.K.length r = 2) (ho : okK b s.K r = true) : stepF b s r = ⟨s.V, narL s.K (tgt b r) r.Value.Lo r.Value.Hi, s.N⟩ := by unfold stepF; rw [if_neg (by rw [h]; decide), if_pos h, if_pos ho]
theorem step2n {b : Bt.Basin} {s : FS} {r : Bt.Reading} (h : kindOf b s.V.length s.K.length r = 2) (ho : okK b s.K r = false) : stepF b s r = ⟨s.V, s.K, s.N ++ [r.Gauge]⟩ := by unfold stepF; rw [if_neg (by rw [h]; decide), if_pos h, if_neg (by rw [ho]; decide)]
theorem narV_none {L : List Bt.Span} {i : Nat} {lo hi : Int} (h : (meet (L.getD i default).Lo (L.getD i default).Hi lo hi).isSome = false) : narV L i lo hi = L := by
  unfold narV
  cases hm : meet (L.getD i default).Lo (L.getD i default).Hi lo hi with
  | none => rfl
  | some z => rw [hm] at h; cases h
theorem narL_none {L : List Bt.Known} {i : Nat} {lo hi : Int} (h : (meet (L.getD i default).Pos.Lo (L.getD i default).Pos.Hi lo hi).isSome = false) : narL L i lo hi = L := by
  unfold narL
  cases hm : meet (L.getD i default).Pos.Lo (L.getD i default).Pos.Hi lo hi with
  | none => rfl
  | some z => rw [hm] at h; cases h
theorem narV_len (L : List Bt.Span) (i : Nat) (lo hi : Int) : (narV L i lo hi).length = L.length := by unfold narV; split <;> simp
theorem narL_len (L : List Bt.Known) (i : Nat) (lo hi : Int) : (narL L i lo hi).length = L.length := by unfold narL; split <;> simp
def Ok64 (n : Int) : Prop := -9223372036854775808 ≤ n ∧ n ≤ 9223372036854775807
theorem meet_rng {a b c d : Int} {z : Bt.Span} (h : meet a b c d = some z) : (z.Lo = a ∨ z.Lo = c) ∧ (z.Hi = b ∨ z.Hi = d) := by
  unfold meet at h
  split at h
  · obtain rfl := Option.some.inj h
    simp only; omega
  · cases h
theorem getD_mem {α : Type} [Inhabited α] {L : List α} {i : Nat} (h : i < L.length) : L.getD i default ∈ L := by
  rw [List.getD_eq_getElem?_getD, List.getElem?_eq_getElem h]; exact List.getElem_mem h
theorem narV_wf {L : List Bt.Span} {i : Nat} {lo hi : Int} (hi_ : i < L.length) (hw : ∀ x ∈ L, Ok64 x.Lo ∧ Ok64 x.Hi) (hl : Ok64 lo) (hh : Ok64 hi) : ∀ x ∈ narV L i lo hi, Ok64 x.Lo ∧ Ok64 x.Hi := fun x hx => by
  unfold narV at hx
  split at hx
  · rename_i z hz
    rcases List.mem_or_eq_of_mem_set hx with h1 | h1
    · exact hw x h1
    · subst h1
      obtain ⟨h2, h3⟩ := meet_rng hz
      have h4 := hw _ (getD_mem hi_)
      rcases h2 with h2 | h2 <;> rcases h3 with h3 | h3 <;> rw [h2, h3]
      · exact h4
      · exact ⟨h4.1, hh⟩
      · exact ⟨hl, h4.2⟩
      · exact ⟨hl, hh⟩
  · exact hw x hx
theorem narL_wf {L : List Bt.Known} {P : Bt.Known → Prop} {i : Nat} {lo hi : Int} (hi_ : i < L.length) (hP : ∀ x, P x ↔ (Ok64 x.Pos.Lo ∧ Ok64 x.Pos.Hi) ∧ Ok64 x.Target ∧ (Ok64 x.Open.Lo ∧ Ok64 x.Open.Hi)) (hw : ∀ x ∈ L, P x) (hl : Ok64 lo) (hh : Ok64 hi) : ∀ x ∈ narL L i lo hi, P x := fun x hx => by
  unfold narL at hx
  split at hx
  · rename_i z hz
    rcases List.mem_or_eq_of_mem_set hx with h1 | h1
    · exact hw x h1
    · subst h1
      obtain ⟨h2, h3⟩ := meet_rng hz
      have h4 := (hP _).1 (hw _ (getD_mem hi_))
      refine (hP _).2 ⟨?_, h4.2⟩
      simp only
      rcases h2 with h2 | h2 <;> rcases h3 with h3 | h3 <;> rw [h2, h3]
      · exact h4.1
      · exact ⟨h4.1.1, hh⟩
      · exact ⟨hl, h4.1.2⟩
      · exact ⟨hl, hh⟩
  · exact hw x hx
def atH (hr : Int) (l : List Bt.Reading) : List Bt.Reading := l.filter fun r => decide (r.Hour = hr)
theorem atH_snoc {hr : Int} {l : List Bt.Reading} {k : Nat} (h : k < l.length) : atH hr (l.take (k + 1)) = if (l.getD k default).Hour = hr then atH hr (l.take k) ++ [l.getD k default] else atH hr (l.take k) := by
  unfold atH
  rw [List.take_succ_eq_append_getElem h, List.filter_append, List.getD_eq_getElem?_getD, List.getElem?_eq_getElem h]
  simp only [Option.getD_some]
  by_cases h1 : l[k].Hour = hr
  · rw [if_pos h1]; simp [h1]
  · rw [if_neg h1]; simp [h1]
theorem foldl_takeR {β : Type} (f : β → Bt.Reading → β) (z : β) {l : List Bt.Reading} {k : Nat} (h : k < l.length) : (l.take (k + 1)).foldl f z = f ((l.take k).foldl f z) (l.getD k default) := by
  rw [List.take_succ_eq_append_getElem h, List.foldl_append, List.getD_eq_getElem?_getD, List.getElem?_eq_getElem h]; rfl
theorem volR_rng (b : Bt.Basin) (r : Bt.Reading) : Ok64 (loOf (volR b r)) ∧ Ok64 (hiOf (volR b r)) := by
  cases hv : volR b r with
  | none => exact ⟨⟨by simp [loOf], by simp [loOf]⟩, ⟨by simp [hiOf], by simp [hiOf]⟩⟩
  | some z =>
    unfold volR at hv
    split at hv
    · unfold volL at hv
      split at hv
      · cases hv
      · rename_i l hl
        unfold meet at hv
        split at hv
        · rename_i hm
          obtain rfl := Option.some.inj hv
          simp only [loOf, hiOf, Ok64]
          omega
        · cases hv
    · cases hv
/-- the readings in the order of their gauges -/
def order (n : Nat) (l : List Bt.Reading) : List Bt.Reading := (List.range n).flatMap fun (g : Nat) => l.filter fun r => decide (r.Gauge = (g : Int))
def fuse (b : Bt.Basin) (h : Bt.Hull) (l : List Bt.Reading) : FS := (order b.Gauges.length (atH h.Hour l)).foldl (stepF b) ⟨h.Vol, h.Links, []⟩
theorem comp_sub : ∀ (L acc : List Int), (L.foldl appU acc).length ≤ acc.length + L.length ∧ ∀ x ∈ L.foldl appU acc, x ∈ acc ∨ x ∈ L
  | [], acc => ⟨Nat.le_refl _, fun _ hx => .inl hx⟩
  | y :: L, acc => by
    obtain ⟨h1, h2⟩ := comp_sub L (appU acc y)
    have h3 : (appU acc y).length ≤ acc.length + 1 := by unfold appU; split <;> simp
    refine ⟨?_, fun x hx => ?_⟩
    · simp only [List.foldl_cons, List.length_cons]; omega
    · rcases h2 x hx with h | h
      · unfold appU at h
        split at h
        · exact .inl h
        · rcases List.mem_append.1 h with h | h
          · exact .inl h
          · exact .inr (by simp at h; simp [h])
      · exact .inr (List.mem_cons_of_mem _ h)
theorem comp_le (L : List Int) : (comp L).length ≤ L.length := by have := (comp_sub L []).1; simpa [comp] using this
theorem comp_mem {L : List Int} {x : Int} (h : x ∈ comp L) : x ∈ L := by
  rcases (comp_sub L []).2 x h with h | h
  · cases h
  · exact h
def sameH (x y : Bt.Hull) : Prop := x.Hour = y.Hour ∧ x.Vol = y.Vol ∧ x.Queue = y.Queue ∧ x.Links = y.Links
instance (x y : Bt.Hull) : Decidable (sameH x y) := inferInstanceAs (Decidable (_ ∧ _ ∧ _ ∧ _))
theorem sum_ext {x y : Bt.Sum} (h : ((x.At = y.At ∧ x.To = y.To) ∧ x.Vol.Lo = y.Vol.Lo) ∧ x.Vol.Hi = y.Vol.Hi) : x = y := by
  obtain ⟨a, b, ⟨c, d⟩⟩ := x; obtain ⟨a', b', ⟨c', d'⟩⟩ := y
  simp only at h; obtain ⟨⟨⟨rfl, rfl⟩, rfl⟩, rfl⟩ := h; rfl
theorem known_ext {x y : Bt.Known} (h : (((x.Pos.Lo = y.Pos.Lo ∧ x.Pos.Hi = y.Pos.Hi) ∧ x.Target = y.Target) ∧ x.Open.Lo = y.Open.Lo) ∧ x.Open.Hi = y.Open.Hi) : x = y := by
  obtain ⟨⟨a, b⟩, c, ⟨d, e⟩⟩ := x; obtain ⟨⟨a', b'⟩, c', ⟨d', e'⟩⟩ := y
  simp only at h; obtain ⟨⟨⟨⟨rfl, rfl⟩, rfl⟩, rfl⟩, rfl⟩ := h; rfl
theorem getD_memI {L : List Int} {i : Nat} (h : i < L.length) : L.getD i 0 ∈ L := by
  rw [List.getD_eq_getElem?_getD, List.getElem?_eq_getElem h]; exact List.getElem_mem h
end Fu
namespace Fu
open Go.K
theorem filter_split {α : Type} {key : α → Int} {p q : α → Bool} (h : ∀ x y, q x = true → p y = true → key y < key x) : ∀ {K : List α}, K.Pairwise (fun x y => key x ≤ key y) → K.filter (fun x => p x || q x) = K.filter p ++ K.filter q
  | [], _ => rfl
  | x :: K, hs => by
    obtain ⟨h1, h2⟩ := List.pairwise_cons.1 hs
    have ih := filter_split h h2
    cases hp : p x with
    | true =>
      have hq : q x = false := by
        cases hq : q x with
        | false => rfl
        | true => have := h x x hq hp; omega
      simp [hp, hq, ih]
    | false =>
      cases hq : q x with
      | true =>
        have hn : K.filter p = [] := List.filter_eq_nil_iff.2 fun y hy hpy => by
          have := h x y hq hpy; have := h1 y hy; omega
        simp [hp, hq, ih, hn]
      | false => simp [hp, hq, ih]
theorem order_succ (n : Nat) (l : List Bt.Reading) : order (n + 1) l = order n l ++ l.filter fun r => decide (r.Gauge = (n : Int)) := by
  unfold order; rw [List.range_succ, List.flatMap_append]; simp
theorem order_sorted {K : List Bt.Reading} (hs : Sorts.Srt (fun r : Bt.Reading => r.Gauge) K) : ∀ n : Nat, order n K = K.filter fun r => decide (0 ≤ r.Gauge ∧ r.Gauge < (n : Int))
  | 0 => by
    have : K.filter (fun r => decide (0 ≤ r.Gauge ∧ r.Gauge < ((0 : Nat) : Int))) = [] := List.filter_eq_nil_iff.2 fun y _ hy => by
      have := of_decide_eq_true hy; omega
    rw [this]; rfl
  | n + 1 => by
    rw [order_succ, order_sorted hs n, ← filter_split (key := fun r : Bt.Reading => r.Gauge) (fun x y hx hy => by have := of_decide_eq_true hx; have := of_decide_eq_true hy; omega) hs]
    refine congrArg (fun f => K.filter f) (funext fun r => ?_)
    rw [← Bool.decide_or]
    exact decide_eq_decide.2 (by omega)
theorem order_flt {l K : List Bt.Reading} (hf : Sorts.Flt (fun r : Bt.Reading => r.Gauge) l K) (n : Nat) : order n l = order n K := by
  unfold order
  have h2 : ∀ g : Int, l.filter (fun r => decide (r.Gauge = g)) = K.filter (fun r => decide (r.Gauge = g)) := fun g => hf.2 g
  refine congrArg (fun f => (List.range n).flatMap f) (funext fun g => h2 _)
theorem foldl_skip {b : Bt.Basin} : ∀ (K : List Bt.Reading) (s : FS), K.foldl (stepF b) s = (K.filter fun r => decide (0 ≤ r.Gauge ∧ r.Gauge < (b.Gauges.length : Int))).foldl (stepF b) s
  | [], _ => rfl
  | r :: K, s => by
    by_cases h : 0 ≤ r.Gauge ∧ r.Gauge < (b.Gauges.length : Int)
    · rw [List.filter_cons_of_pos (by simpa using h)]; exact foldl_skip K _
    · rw [List.filter_cons_of_neg (by simpa using h), List.foldl_cons, step0 (kind0 (.inl h))]; exact foldl_skip K s
theorem fuse_sorted {b : Bt.Basin} {h : Bt.Hull} {l K : List Bt.Reading} (hs : Sorts.Srt (fun r : Bt.Reading => r.Gauge) K) (hf : Sorts.Flt (fun r : Bt.Reading => r.Gauge) (atH h.Hour l) K) : K.foldl (stepF b) ⟨h.Vol, h.Links, []⟩ = fuse b h l := by
  unfold fuse
  rw [order_flt hf, order_sorted hs]
  exact foldl_skip K _
end Fu
namespace Fu
theorem appU_keep {xs : List Int} {nn : Int} {k : Nat} (has : xs.Pairwise (· < ·)) (hle : ∀ x ∈ xs, x ≤ nn) (hk : k < xs.length) (he : xs.getD k 0 = nn) : appU xs nn = xs := by
  unfold appU
  rw [if_pos]
  rw [List.getLast?_eq_getElem?, List.getElem?_eq_getElem (show xs.length - 1 < xs.length by omega)]
  rw [List.getD_eq_getElem?_getD, List.getElem?_eq_getElem hk] at he
  simp only [Option.getD_some] at he
  rcases Nat.lt_or_eq_of_le (show k ≤ xs.length - 1 by omega) with h | h
  · have h1 := List.pairwise_iff_getElem.1 has k (xs.length - 1) hk (by omega) h
    have h2 := hle _ (List.getElem_mem (show xs.length - 1 < xs.length by omega))
    omega
  · subst h; exact congrArg some he
theorem appU_asc {xs : List Int} {nn : Int} (has : xs.Pairwise (· < ·)) (hle : ∀ x ∈ xs, 0 ≤ x ∧ x ≤ nn) (h0 : 0 ≤ nn) : (appU xs nn).Pairwise (· < ·) ∧ ∀ x ∈ appU xs nn, 0 ≤ x ∧ x ≤ nn := by
  unfold appU
  split
  · exact ⟨has, hle⟩
  · rename_i hn
    refine ⟨List.pairwise_append.2 ⟨has, by simp, fun a ha b hb => ?_⟩, fun x hx => ?_⟩
    · obtain rfl := List.mem_singleton.1 hb
      have h1 := hle a ha
      rcases Int.lt_or_eq_of_le h1.2 with h2 | h2
      · exact h2
      · exfalso
        subst h2
        obtain ⟨i, hi, e⟩ := List.mem_iff_getElem.1 ha
        apply hn
        have h3 := appU_keep has (fun x hx => (hle x hx).2) hi (by rw [List.getD_eq_getElem?_getD, List.getElem?_eq_getElem hi]; exact e)
        unfold appU at h3
        split at h3
        · assumption
        · have := congrArg List.length h3; simp at this
    · rcases List.mem_append.1 hx with h | h
      · exact hle x h
      · obtain rfl := List.mem_singleton.1 h; exact ⟨h0, Int.le_refl _⟩
theorem asc_len : ∀ {xs : List Int} {a b : Int}, xs.Pairwise (· < ·) → (∀ x ∈ xs, a ≤ x ∧ x < b) → xs = [] ∨ (xs.length : Int) ≤ b - a
  | [], _, _, _, _ => .inl rfl
  | x :: xs, a, b, has, hr => by
    obtain ⟨h1, h2⟩ := List.pairwise_cons.1 has
    have hx := hr x (by simp)
    refine .inr ?_
    rcases asc_len (a := x + 1) (b := b) h2 (fun y hy => ⟨h1 y hy, (hr y (by simp [hy])).2⟩) with h | h
    · subst h; simp; omega
    · simp only [List.length_cons]; omega
theorem asc_le {xs : List Int} {n : Nat} (has : xs.Pairwise (· < ·)) (h : ∀ x ∈ xs, 0 ≤ x ∧ x < (n : Int)) : xs.length ≤ n := by
  rcases asc_len has h with h1 | h1
  · subst h1; simp
  · omega
/-! ### one reading -/
def hullOf (h : Bt.Hull) (F : FS) : Bt.Hull := ⟨h.Hour, F.V, h.Queue, F.K⟩
theorem step_all (b : Bt.Basin) (V : List Bt.Span) (K : List Bt.Known) (N : List Int) (r : Bt.Reading) : stepF b ⟨V, K, N⟩ r = ⟨(stepF b ⟨V, K, []⟩ r).V, (stepF b ⟨V, K, []⟩ r).K, N ++ (stepF b ⟨V, K, []⟩ r).N⟩ ∧ ((stepF b ⟨V, K, []⟩ r).N = [] ∨ (stepF b ⟨V, K, []⟩ r).N = [r.Gauge]) := by
  unfold stepF
  dsimp only
  split
  · split <;> simp
  · split
    · split <;> simp
    · simp
theorem meet_some {a b c d : Int} (h : (meet a b c d).isSome = true) : meet a b c d = some ⟨loOf (meet a b c d), hiOf (meet a b c d)⟩ := by
  cases hm : meet a b c d with
  | none => rw [hm] at h; cases h
  | some z => rfl
theorem narV_some {L : List Bt.Span} {i : Nat} {lo hi : Int} (h : (meet (L.getD i default).Lo (L.getD i default).Hi lo hi).isSome = true) : narV L i lo hi = L.set i ⟨loOf (meet (L.getD i default).Lo (L.getD i default).Hi lo hi), hiOf (meet (L.getD i default).Lo (L.getD i default).Hi lo hi)⟩ := by
  have h1 := meet_some h
  unfold narV
  rw [h1]; rfl
theorem narL_some {L : List Bt.Known} {i : Nat} {lo hi : Int} (h : (meet (L.getD i default).Pos.Lo (L.getD i default).Pos.Hi lo hi).isSome = true) : narL L i lo hi = L.set i ⟨⟨loOf (meet (L.getD i default).Pos.Lo (L.getD i default).Pos.Hi lo hi), hiOf (meet (L.getD i default).Pos.Lo (L.getD i default).Pos.Hi lo hi)⟩, (L.getD i default).Target, ⟨(L.getD i default).Open.Lo, (L.getD i default).Open.Hi⟩⟩ := by
  have h1 := meet_some h
  unfold narL
  rw [h1]; rfl
/-! ### gauge by gauge -/
structure RefOk (b : Bt.Basin) (h : Bt.Hull) (F : FS) (g : Nat) : Prop where
  asc : (comp F.N).Pairwise (· < ·)
  rng : ∀ x ∈ comp F.N, 0 ≤ x ∧ x ≤ (g : Int)
  vl : F.V.length = h.Vol.length
  kl : F.K.length = h.Links.length
theorem step_len (b : Bt.Basin) (F : FS) (r : Bt.Reading) : (stepF b F r).V.length = F.V.length ∧ (stepF b F r).K.length = F.K.length := by
  unfold stepF
  split
  · split <;> simp [narV_len]
  · split
    · split <;> simp [narL_len]
    · simp
theorem step_N (b : Bt.Basin) (F : FS) (r : Bt.Reading) : (stepF b F r).N = F.N ∨ (stepF b F r).N = F.N ++ [r.Gauge] := by
  obtain ⟨V, K, N⟩ := F
  have h1 := step_all b V K N r
  rw [h1.1]
  rcases h1.2 with h2 | h2 <;> rw [h2] <;> simp
theorem RefOk.step {b : Bt.Basin} {h : Bt.Hull} {F : FS} {g : Nat} (hF : RefOk b h F g) {r : Bt.Reading} (hg : r.Gauge = (g : Int)) : RefOk b h (stepF b F r) g := by
  have h1 := step_len b F r
  have h2 := appU_asc hF.asc hF.rng (Int.natCast_nonneg g)
  refine ⟨?_, ?_, h1.1.trans hF.vl, h1.2.trans hF.kl⟩
  · rcases step_N b F r with e | e
    · rw [e]; exact hF.asc
    · rw [e, comp_snoc, hg]; exact h2.1
  · rcases step_N b F r with e | e
    · rw [e]; exact hF.rng
    · rw [e, comp_snoc, hg]; exact h2.2
theorem RefOk.len {b : Bt.Basin} {h : Bt.Hull} {F : FS} {g : Nat} (hF : RefOk b h F g) : (comp F.N).length ≤ g + 1 := asc_le hF.asc (fun x hx => by have := hF.rng x hx; omega)
/-! ### drifting -/
def drift (n : Nat) (hist : List (List Int)) : List Int := if hist.length < 3 then [] else ((List.range n).map fun (i : Nat) => (i : Int)).filter fun i => (hist.drop (hist.length - 3)).all fun m => decide (i ∈ m)
def drI (n : Nat) (last : List (List Int)) : List Int := ((List.range n).map fun (i : Nat) => (i : Int)).filter fun i => last.all fun m => decide (i ∈ m)
theorem drI_succ (n : Nat) (last : List (List Int)) : drI (n + 1) last = if (last.all fun m => decide ((n : Int) ∈ m)) = true then drI n last ++ [(n : Int)] else drI n last := by
  unfold drI
  rw [List.range_succ, List.map_append, List.filter_append]
  split
  · rename_i h; simp [h]
  · rename_i h; simp [h]
theorem drI_rng {n : Nat} {last : List (List Int)} {x : Int} (h : x ∈ drI n last) : 0 ≤ x ∧ x < (n : Int) := by
  unfold drI at h
  obtain ⟨h1, _⟩ := List.mem_filter.1 h
  obtain ⟨i, hi, rfl⟩ := List.mem_map.1 h1
  have := List.mem_range.1 hi
  omega
theorem drift_eq {n : Nat} {hist : List (List Int)} (h : ¬ hist.length < 3) : drift n hist = drI n (hist.drop (hist.length - 3)) := by unfold drift drI; rw [if_neg h]
/-- the first one that a test marks -/
def firstF (p : List Int → Bool) (L : List (List Int)) : Int := if L.any p then ((L.findIdx p : Nat) : Int) else -1
theorem firstF_hit {p : List Int → Bool} {L : List (List Int)} {k : Nat} (hk : k < L.length) (h : ∀ j, j < k → p (L.getD j []) = false) (he : p (L.getD k []) = true) : firstF p L = (k : Int) := by
  have hf : L.findIdx p = k := by
    refine (List.findIdx_eq hk).2 ⟨?_, fun j hj => ?_⟩
    · rwa [List.getD_eq_getElem?_getD, List.getElem?_eq_getElem hk] at he
    · have := h j hj; rwa [List.getD_eq_getElem?_getD, List.getElem?_eq_getElem (Nat.lt_trans hj hk)] at this
  unfold firstF
  rw [if_pos, hf]
  rw [List.getD_eq_getElem?_getD, List.getElem?_eq_getElem hk] at he
  exact List.any_eq_true.2 ⟨_, List.getElem_mem hk, he⟩
theorem firstF_miss {p : List Int → Bool} {L : List (List Int)} (h : ∀ j, j < L.length → p (L.getD j []) = false) : firstF p L = -1 := by
  unfold firstF
  rw [if_neg]
  intro ha
  obtain ⟨x, hx, hp⟩ := List.any_eq_true.1 ha
  obtain ⟨i, hi, rfl⟩ := List.mem_iff_getElem.1 hx
  have := h i hi
  rw [List.getD_eq_getElem?_getD, List.getElem?_eq_getElem hi] at this
  rw [show (some L[i]).getD [] = L[i] from rfl, hp] at this
  cases this
theorem firstF_any (p : List Int → Bool) (L : List (List Int)) : decide (0 ≤ firstF p L) = L.any p := by
  unfold firstF
  cases h : L.any p with
  | true => rw [if_pos rfl]; exact decide_eq_true (by omega)
  | false => rw [if_neg (by decide)]; rfl
theorem not_any (i : Int) (L : List (List Int)) : (!(L.any fun m => !decide (i ∈ m))) = L.all fun m => decide (i ∈ m) := by
  induction L with
  | nil => rfl
  | cons x L ih => simp only [List.any_cons, List.all_cons, Bool.not_or, Bool.not_not, ih]
end Fu
