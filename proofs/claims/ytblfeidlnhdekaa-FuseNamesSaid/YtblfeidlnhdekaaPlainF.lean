/- Plain facts of the layer: which gauges are named; what is fused without them; fusing again. Conditions: those of each theorem. -/
import Derived.Test.YtblfeidlnhdekaaPlainE
namespace Fu
theorem fold_all (b : Bt.Basin) : ∀ (L : List Bt.Reading) (V : List Bt.Span) (K : List Bt.Known) (N : List Int), L.foldl (stepF b) ⟨V, K, N⟩ = ⟨(L.foldl (stepF b) ⟨V, K, []⟩).V, (L.foldl (stepF b) ⟨V, K, []⟩).K, N ++ (L.foldl (stepF b) ⟨V, K, []⟩).N⟩
  | [], V, K, N => by simp
  | r :: L, V, K, N => by
    rw [List.foldl_cons, List.foldl_cons, (step_all b V K N r).1]
    rw [fold_all b L _ _ (N ++ (stepF b ⟨V, K, []⟩ r).N)]
    rw [show stepF b ⟨V, K, []⟩ r = ⟨(stepF b ⟨V, K, []⟩ r).V, (stepF b ⟨V, K, []⟩ r).K, (stepF b ⟨V, K, []⟩ r).N⟩ from rfl, fold_all b L _ _ (stepF b ⟨V, K, []⟩ r).N]
    simp
theorem fold_sub (b : Bt.Basin) : ∀ (L : List Bt.Reading) (s : FS), (∀ g, g ∈ s.N → g ∈ (L.foldl (stepF b) s).N) ∧ ∀ g, g ∈ (L.foldl (stepF b) s).N → g ∈ s.N ∨ ∃ r ∈ L, r.Gauge = g
  | [], s => ⟨fun _ h => h, fun _ h => .inl h⟩
  | r :: L, s => by
    obtain ⟨h1, h2⟩ := fold_sub b L (stepF b s r)
    refine ⟨fun g hg => h1 g ?_, fun g hg => ?_⟩
    · rcases step_N b s r with e | e <;> rw [e]
      · exact hg
      · exact List.mem_append_left _ hg
    · rcases h2 g hg with h | ⟨q, hq, e⟩
      · rcases step_N b s r with e | e <;> rw [e] at h
        · exact .inl h
        · rcases List.mem_append.1 h with h | h
          · exact .inl h
          · exact .inr ⟨r, by simp, (List.mem_singleton.1 h).symm⟩
      · exact .inr ⟨q, by simp [hq], e⟩
def Dist (L : List Bt.Reading) : Prop := L.Pairwise fun x y => x.Gauge ≠ y.Gauge
/-- a reading's own step named it, or changed nothing about the names -/
theorem own_step {b : Bt.Basin} {r : Bt.Reading} {L : List Bt.Reading} {s : FS} (hd : Dist (r :: L)) (hs : r.Gauge ∉ s.N) : (r.Gauge ∈ ((r :: L).foldl (stepF b) s).N ↔ (stepF b s r).N = s.N ++ [r.Gauge]) ∧ (r.Gauge ∉ ((r :: L).foldl (stepF b) s).N → (stepF b s r).N = s.N) := by
  obtain ⟨h1, h2⟩ := List.pairwise_cons.1 hd
  obtain ⟨k1, k2⟩ := fold_sub b L (stepF b s r)
  have key : r.Gauge ∈ ((r :: L).foldl (stepF b) s).N → r.Gauge ∈ (stepF b s r).N := fun h => by
    rcases k2 r.Gauge h with h | ⟨q, hq, e⟩
    · exact h
    · exact absurd e.symm (h1 q hq)
  constructor
  · constructor
    · intro h
      have h3 := key h
      rcases step_N b s r with e | e
      · rw [e] at h3; exact absurd h3 hs
      · exact e
    · intro h
      exact k1 r.Gauge (by rw [h]; simp)
  · intro h
    rcases step_N b s r with e | e
    · exact e
    · exact absurd (k1 r.Gauge (by rw [e]; simp)) h
theorem step_bad {b : Bt.Basin} {s : FS} {r : Bt.Reading} (h : (stepF b s r).N = s.N ++ [r.Gauge]) : (stepF b s r).V = s.V ∧ (stepF b s r).K = s.K := by
  have hne : ∀ l : List Int, l ≠ l ++ [r.Gauge] := fun l e => by have := congrArg List.length e; simp at this
  unfold stepF at h ⊢
  split at h
  · rename_i h1
    rw [if_pos h1]
    split at h
    · exact absurd h (hne _)
    · rename_i h2; rw [if_neg h2]; exact ⟨rfl, rfl⟩
  · rename_i h1
    rw [if_neg h1]
    split at h
    · rename_i h2
      rw [if_pos h2]
      split at h
      · exact absurd h (hne _)
      · rename_i h3; rw [if_neg h3]; exact ⟨rfl, rfl⟩
    · exact absurd h (hne _)
theorem fold_filter {b : Bt.Basin} : ∀ (L : List Bt.Reading) (s : FS), Dist L → (∀ r ∈ L, r.Gauge ∉ s.N) → (L.filter fun r => decide (r.Gauge ∉ (L.foldl (stepF b) s).N)).foldl (stepF b) s = ⟨(L.foldl (stepF b) s).V, (L.foldl (stepF b) s).K, s.N⟩
  | [], s, _, _ => rfl
  | r :: L, s, hd, hs => by
    obtain ⟨h1, h2⟩ := List.pairwise_cons.1 hd
    have hr := hs r (by simp)
    obtain ⟨o1, o2⟩ := own_step (b := b) hd hr
    by_cases hb : r.Gauge ∈ ((r :: L).foldl (stepF b) s).N
    · have hq9 : ¬ (decide (r.Gauge ∉ ((r :: L).foldl (stepF b) s).N) = true) := fun h9 => (of_decide_eq_true h9) hb
      rw [List.filter_cons_of_neg (p := fun r' : Bt.Reading => decide (r'.Gauge ∉ ((r :: L).foldl (stepF b) s).N)) hq9]
      have hN := o1.1 hb
      obtain ⟨hV, hK⟩ := step_bad hN
      have ih := fold_filter (b := b) L (stepF b s r) h2 (fun q hq => by
        rw [hN]
        intro hm
        rcases List.mem_append.1 hm with h | h
        · exact hs q (by simp [hq]) h
        · exact h1 q hq (List.mem_singleton.1 h).symm)
      rw [show stepF b s r = ⟨s.V, s.K, s.N ++ [r.Gauge]⟩ by rw [← hV, ← hK, ← hN]] at ih
      rw [List.foldl_cons, show stepF b s r = ⟨s.V, s.K, s.N ++ [r.Gauge]⟩ by rw [← hV, ← hK, ← hN]]
      generalize L.foldl (stepF b) ⟨s.V, s.K, s.N ++ [r.Gauge]⟩ = F at *
      rw [fold_all] at ih
      rw [show s = ⟨s.V, s.K, s.N⟩ from rfl, fold_all]
      injection ih with e1 e2 e3
      rw [e1, e2]
      have : ((L.filter fun r => decide (r.Gauge ∉ F.N)).foldl (stepF b) ⟨s.V, s.K, []⟩).N = [] := by
        have := congrArg List.length e3
        simp only [List.length_append] at this
        exact List.length_eq_zero_iff.1 (by omega)
      rw [this, List.append_nil]
    · have hq9 : decide (r.Gauge ∉ ((r :: L).foldl (stepF b) s).N) = true := decide_eq_true hb
      rw [List.filter_cons_of_pos (p := fun r' : Bt.Reading => decide (r'.Gauge ∉ ((r :: L).foldl (stepF b) s).N)) hq9, List.foldl_cons]
      have hN := o2 hb
      have ih := fold_filter (b := b) L (stepF b s r) h2 (fun q hq => by rw [hN]; exact hs q (by simp [hq]))
      rw [hN] at ih
      exact ih
/-- taken again, it changes nothing -/
def FixedF (b : Bt.Basin) (s : FS) (r : Bt.Reading) : Prop := stepF b ⟨s.V, s.K, []⟩ r = ⟨s.V, s.K, []⟩
def InV (z : Bt.Span) (lo hi : Int) : Prop := z.Lo ≤ z.Hi ∧ lo ≤ z.Lo ∧ z.Hi ≤ hi
theorem meet_in {z : Bt.Span} {lo hi : Int} (h : InV z lo hi) : meet z.Lo z.Hi lo hi = some z := by
  obtain ⟨h1, h2, h3⟩ := h
  unfold meet
  rw [show max z.Lo lo = z.Lo by omega, show min z.Hi hi = z.Hi by omega, if_pos h1]
theorem in_meet {a c lo hi : Int} {z : Bt.Span} (h : meet a c lo hi = some z) : InV z lo hi ∧ a ≤ z.Lo ∧ z.Hi ≤ c := by
  unfold meet at h
  split at h
  · rename_i h1
    obtain rfl := Option.some.inj h
    exact ⟨⟨h1, by simp only; omega, by simp only; omega⟩, by simp only; omega, by simp only; omega⟩
  · cases h
theorem narV_get (L : List Bt.Span) (i j : Nat) (lo hi : Int) : (narV L i lo hi).getD j default = if i = j ∧ i < L.length then (match meet (L.getD i default).Lo (L.getD i default).Hi lo hi with | some z => z | none => L.getD j default) else L.getD j default := by
  unfold narV
  cases hm : meet (L.getD i default).Lo (L.getD i default).Hi lo hi with
  | none => simp
  | some z =>
    simp only
    rw [List.getD_eq_getElem?_getD, List.getElem?_set]
    by_cases hij : i = j
    · subst hij
      by_cases hl : i < L.length
      · rw [if_pos rfl, if_pos hl, if_pos ⟨rfl, hl⟩]; rfl
      · rw [if_pos rfl, if_neg hl, if_neg (fun h => hl h.2), List.getD_eq_getElem?_getD, List.getElem?_eq_none (by omega)]
    · rw [if_neg hij, if_neg (fun h => hij h.1), List.getD_eq_getElem?_getD]
theorem narL_get (L : List Bt.Known) (i j : Nat) (lo hi : Int) : ((narL L i lo hi).getD j default).Pos = if i = j ∧ i < L.length then (match meet (L.getD i default).Pos.Lo (L.getD i default).Pos.Hi lo hi with | some z => z | none => (L.getD j default).Pos) else (L.getD j default).Pos := by
  unfold narL
  cases hm : meet (L.getD i default).Pos.Lo (L.getD i default).Pos.Hi lo hi with
  | none => simp
  | some z =>
    simp only
    rw [List.getD_eq_getElem?_getD, List.getElem?_set]
    by_cases hij : i = j
    · subst hij
      by_cases hl : i < L.length
      · rw [if_pos rfl, if_pos hl, if_pos ⟨rfl, hl⟩]; rfl
      · rw [if_pos rfl, if_neg hl, if_neg (fun h => hl h.2), List.getD_eq_getElem?_getD, List.getElem?_eq_none (by omega)]
    · rw [if_neg hij, if_neg (fun h => hij h.1), List.getD_eq_getElem?_getD]
/-- what holds of a reading that was taken without contradiction, from then on -/
def Held (b : Bt.Basin) (s : FS) (r : Bt.Reading) : Prop :=
  (kindOf b s.V.length s.K.length r = 1 → (volR b r).isSome = true ∧ InV (s.V.getD (tgt b r) default) (loOf (volR b r)) (hiOf (volR b r))) ∧
  (kindOf b s.V.length s.K.length r = 2 → InV (s.K.getD (tgt b r) default).Pos r.Value.Lo r.Value.Hi)
theorem set_selfD {α : Type} [Inhabited α] {L : List α} {i : Nat} : L.set i (L.getD i default) = L := by
  apply List.ext_getElem?
  intro j
  rw [List.getElem?_set]
  by_cases hij : i = j
  · subst hij
    by_cases hl : i < L.length
    · rw [if_pos rfl, if_pos hl, List.getD_eq_getElem?_getD, List.getElem?_eq_getElem hl]; rfl
    · rw [if_pos rfl, if_neg hl, List.getElem?_eq_none (by omega)]
  · rw [if_neg hij]
theorem Held.fixed {b : Bt.Basin} {s : FS} {r : Bt.Reading} (h : Held b s r) : FixedF b s r := by
  unfold FixedF
  by_cases h1 : kindOf b s.V.length s.K.length r = 1
  · obtain ⟨hs, hi⟩ := h.1 h1
    have hm := meet_in hi
    rw [step1 (s := ⟨s.V, s.K, []⟩) h1 (by unfold okV; rw [hs, hm]; rfl)]
    unfold narV
    rw [hm]
    simp only
    rw [set_selfD]
  · by_cases h2 : kindOf b s.V.length s.K.length r = 2
    · have hm := meet_in (h.2 h2)
      rw [step2 (s := ⟨s.V, s.K, []⟩) h2 (by unfold okK; rw [hm]; rfl)]
      unfold narL
      rw [hm]
      simp only
      rw [show (⟨(s.K.getD (tgt b r) default).Pos, (s.K.getD (tgt b r) default).Target, (s.K.getD (tgt b r) default).Open⟩ : Bt.Known) = s.K.getD (tgt b r) default from rfl, set_selfD]
    · unfold stepF; rw [if_neg h1, if_neg h2]
theorem kind_range {b : Bt.Basin} {nV nK : Nat} {r : Bt.Reading} : (kindOf b nV nK r = 1 → tgt b r < nV) ∧ (kindOf b nV nK r = 2 → tgt b r < nK) := by
  unfold kindOf tgt
  constructor
  · intro h
    split at h
    · cases h
    · split at h
      · rename_i h1 h2; have : ¬ (gaugeAt b.Gauges r.Gauge).Target < 0 := fun e => h1 (.inr e); omega
      · split at h <;> cases h
  · intro h
    split at h
    · cases h
    · split at h
      · cases h
      · split at h
        · rename_i h1 h2 h3; have : ¬ (gaugeAt b.Gauges r.Gauge).Target < 0 := fun e => h1 (.inr e); omega
        · cases h
theorem held_start {b : Bt.Basin} {s : FS} {r : Bt.Reading} (h : (stepF b s r).N = s.N) : Held b (stepF b s r) r := by
  have hne : ∀ l : List Int, l ++ [r.Gauge] ≠ l := fun l e => by have := congrArg List.length e; simp at this
  obtain ⟨l1, l2⟩ := step_len b s r
  constructor
  · intro hk
    rw [l1, l2] at hk
    cases ho : okV b s.V r with
    | false => rw [step1n hk ho] at h; exact absurd h (hne _)
    | true =>
      rw [step1 hk ho]
      have hh := ho
      unfold okV at hh
      rw [Bool.and_eq_true] at hh
      refine ⟨hh.1, ?_⟩
      show InV ((narV s.V (tgt b r) (loOf (volR b r)) (hiOf (volR b r))).getD (tgt b r) default) _ _
      rw [narV_get, if_pos ⟨rfl, kind_range.1 hk⟩]
      have hm := meet_some hh.2
      rw [hm]
      exact (in_meet hm).1
  · intro hk
    rw [l1, l2] at hk
    cases ho : okK b s.K r with
    | false => rw [step2n hk ho] at h; exact absurd h (hne _)
    | true =>
      rw [step2 hk ho]
      show InV ((narL s.K (tgt b r) r.Value.Lo r.Value.Hi).getD (tgt b r) default).Pos _ _
      rw [narL_get, if_pos ⟨rfl, kind_range.2 hk⟩]
      have hm := meet_some (show (meet (s.K.getD (tgt b r) default).Pos.Lo (s.K.getD (tgt b r) default).Pos.Hi r.Value.Lo r.Value.Hi).isSome = true from ho)
      rw [hm]
      exact (in_meet hm).1
theorem held_step {b : Bt.Basin} {s : FS} {r : Bt.Reading} (h : Held b s r) (q : Bt.Reading) : Held b (stepF b s q) r := by
  obtain ⟨l1, l2⟩ := step_len b s q
  have trans_ : ∀ {z y : Bt.Span} {lo hi lo2 hi2 : Int}, InV z lo hi → meet z.Lo z.Hi lo2 hi2 = some y → InV y lo hi := fun hz hm => by
    obtain ⟨⟨h1, _, _⟩, h4, h5⟩ := in_meet hm
    exact ⟨h1, by have := hz.2.1; omega, by have := hz.2.2; omega⟩
  unfold Held
  rw [l1, l2]
  unfold stepF
  by_cases k1 : kindOf b s.V.length s.K.length q = 1
  · rw [if_pos k1]
    split
    · refine ⟨fun hk => ⟨(h.1 hk).1, ?_⟩, h.2⟩
      have hi := (h.1 hk).2
      show InV ((narV s.V _ _ _).getD _ default) _ _
      rw [narV_get]
      split
      · rename_i he
        cases hm : meet (s.V.getD (tgt b q) default).Lo (s.V.getD (tgt b q) default).Hi (loOf (volR b q)) (hiOf (volR b q)) with
        | none => exact hi
        | some z =>
          rw [he.1] at hm
          exact trans_ hi hm
      · exact hi
    · exact h
  · rw [if_neg k1]
    by_cases k2 : kindOf b s.V.length s.K.length q = 2
    · rw [if_pos k2]
      split
      · refine ⟨h.1, fun hk => ?_⟩
        have hi := h.2 hk
        show InV ((narL s.K _ _ _).getD _ default).Pos _ _
        rw [narL_get]
        split
        · rename_i he
          cases hm : meet (s.K.getD (tgt b q) default).Pos.Lo (s.K.getD (tgt b q) default).Pos.Hi q.Value.Lo q.Value.Hi with
          | none => exact hi
          | some z =>
            rw [he.1] at hm
            exact trans_ hi hm
        · exact hi
      · exact h
    · rw [if_neg k2]; exact h
theorem held_fold {b : Bt.Basin} {r : Bt.Reading} : ∀ (L : List Bt.Reading) (s : FS), Held b s r → Held b (L.foldl (stepF b) s) r
  | [], _, h => h
  | q :: L, s, h => held_fold L _ (held_step h q)
theorem held_of {b : Bt.Basin} : ∀ (L : List Bt.Reading) (s : FS), Dist L → (∀ r ∈ L, r.Gauge ∉ s.N) → ∀ r ∈ L, r.Gauge ∉ (L.foldl (stepF b) s).N → Held b (L.foldl (stepF b) s) r
  | [], _, _, _, _, hr, _ => by cases hr
  | q :: L, s, hd, hs, r, hr, hn => by
    obtain ⟨h1, h2⟩ := List.pairwise_cons.1 hd
    rcases List.mem_cons.1 hr with rfl | hr
    · exact held_fold L _ (held_start ((own_step (b := b) hd (hs r (by simp))).2 hn))
    · refine held_of L (stepF b s q) h2 (fun x hx => ?_) r hr hn
      rcases step_N b s q with e | e <;> rw [e]
      · exact hs x (by simp [hx])
      · intro hm
        rcases List.mem_append.1 hm with h | h
        · exact hs x (by simp [hx]) h
        · exact h1 x hx (List.mem_singleton.1 h).symm
/-! ### the list in its order -/
theorem order_mem {n : Nat} {l : List Bt.Reading} {r : Bt.Reading} : r ∈ order n l ↔ r ∈ l ∧ 0 ≤ r.Gauge ∧ r.Gauge < (n : Int) := by
  unfold order
  rw [List.mem_flatMap]
  constructor
  · rintro ⟨g, hg, hr⟩
    obtain ⟨h1, h2⟩ := List.mem_filter.1 hr
    have := of_decide_eq_true h2
    have := List.mem_range.1 hg
    exact ⟨h1, by omega, by omega⟩
  · rintro ⟨h1, h2, h3⟩
    exact ⟨r.Gauge.toNat, List.mem_range.2 (by omega), List.mem_filter.2 ⟨h1, decide_eq_true (by omega)⟩⟩
theorem dist_filter {l : List Bt.Reading} (h : Dist l) (p : Bt.Reading → Bool) : Dist (l.filter p) := List.Pairwise.sublist List.filter_sublist h
theorem dist_order {l : List Bt.Reading} (h : Dist l) : ∀ n, Dist (order n l)
  | 0 => List.Pairwise.nil
  | n + 1 => by
    rw [order_succ]
    refine List.pairwise_append.2 ⟨dist_order h n, dist_filter h _, fun x hx y hy => ?_⟩
    have h1 := (order_mem.1 hx).2.2
    have h2 := of_decide_eq_true (List.mem_filter.1 hy).2
    omega
theorem order_filter (n : Nat) (l : List Bt.Reading) (p : Bt.Reading → Bool) : order n (l.filter p) = (order n l).filter p := by
  induction n with
  | zero => rfl
  | succ n ih => rw [order_succ, order_succ, ih, List.filter_append, List.filter_filter, List.filter_filter]; simp only [Bool.and_comm]
theorem mem_comp {x : Int} : ∀ {L : List Int}, x ∈ L → x ∈ comp L := fun {L} h => by
  have key : ∀ (L acc : List Int), (x ∈ acc ∨ x ∈ L) → x ∈ L.foldl appU acc := by
    intro L
    induction L with
    | nil => intro acc h; rcases h with h | h; exact h; cases h
    | cons y L ih =>
      intro acc h
      refine ih _ ?_
      rcases h with h | h
      · left; unfold appU; split
        · exact h
        · exact List.mem_append_left _ h
      · rcases List.mem_cons.1 h with rfl | h
        · left; unfold appU; split
          · rename_i hl; exact List.mem_of_getLast? hl
          · simp
        · exact .inr h
  exact key L [] (.inr h)
theorem comp_iff {x : Int} {L : List Int} : x ∈ comp L ↔ x ∈ L := ⟨comp_mem, mem_comp⟩
/-- the law, in plain words -/
def named (b : Bt.Basin) (h : Bt.Hull) (l : List Bt.Reading) : List Int := comp (fuse b h l).N
def keptP (b : Bt.Basin) (h : Bt.Hull) (l : List Bt.Reading) (r : Bt.Reading) : Bool := decide (r.Gauge ∉ named b h l) && decide (r.Hour = h.Hour)
theorem named_asc (b : Bt.Basin) (h : Bt.Hull) (l : List Bt.Reading) : (named b h l).Pairwise (· < ·) := by
  have := (refOk_g b h l b.Gauges.length).asc
  rw [refI_end] at this
  exact this
theorem named_hour {b : Bt.Basin} {h : Bt.Hull} {l : List Bt.Reading} (hd : Dist l) {r : Bt.Reading} (hr : r ∈ l) (hn : r.Gauge ∈ named b h l) : r.Hour = h.Hour := by
  have h1 := comp_iff.1 hn
  unfold fuse at h1
  rcases (fold_sub b _ _).2 _ h1 with h2 | ⟨q, hq, e⟩
  · cases h2
  · have h3 := (order_mem.1 hq).1
    unfold atH at h3
    obtain ⟨h4, h5⟩ := List.mem_filter.1 h3
    have : q = r := by
      by_cases hqr : q = r
      · exact hqr
      · exfalso
        obtain ⟨i, hi, rfl⟩ := List.mem_iff_getElem.1 h4
        obtain ⟨j, hj, rfl⟩ := List.mem_iff_getElem.1 hr
        rcases Nat.lt_trichotomy i j with hij | hij | hij
        · exact List.pairwise_iff_getElem.1 hd i j hi hj hij e
        · subst hij; exact hqr rfl
        · exact List.pairwise_iff_getElem.1 hd j i hj hi hij e.symm
    subst this
    exact of_decide_eq_true h5
theorem fuse_again {b : Bt.Basin} {h : Bt.Hull} {l : List Bt.Reading} (hd : Dist l) {r : Bt.Reading} (hr : r ∈ l) (hn : r.Gauge ∉ named b h l) : fuse b (hullOf h (fuse b h l)) [r] = ⟨(fuse b h l).V, (fuse b h l).K, []⟩ := by
  have hnN : r.Gauge ∉ (fuse b h l).N := fun e => hn (comp_iff.2 e)
  generalize hF : fuse b h l = F at *
  unfold fuse
  show (order b.Gauges.length (atH h.Hour [r])).foldl (stepF b) ⟨F.V, F.K, []⟩ = _
  by_cases hh : r.Hour = h.Hour
  · rw [show atH h.Hour [r] = [r] by simp [atH, hh]]
    by_cases hg : 0 ≤ r.Gauge ∧ r.Gauge < (b.Gauges.length : Int)
    · have hrm : r ∈ order b.Gauges.length (atH h.Hour l) := order_mem.2 ⟨List.mem_filter.2 ⟨hr, decide_eq_true hh⟩, hg⟩
      have hheld := held_of (b := b) _ ⟨h.Vol, h.Links, []⟩ (dist_order (dist_filter hd _) b.Gauges.length) (fun x _ hx => by cases hx) r hrm (by show r.Gauge ∉ (fuse b h l).N; rw [hF]; exact hnN)
      replace hheld : Held b F r := by rw [← hF]; exact hheld
      have hfix := hheld.fixed
      have ho : order b.Gauges.length [r] = [r] := by
        rw [order_sorted (K := [r]) (List.pairwise_singleton _ _)]
        simp [hg]
      rw [ho]
      exact hfix
    · have ho : order b.Gauges.length [r] = [] := List.eq_nil_iff_forall_not_mem.2 fun x hx => by
        obtain ⟨h1, h2⟩ := order_mem.1 hx
        obtain rfl := List.mem_singleton.1 h1
        exact hg h2
      rw [ho]; rfl
  · rw [show atH h.Hour [r] = [] by simp [atH, hh]]
    have ho : order b.Gauges.length ([] : List Bt.Reading) = [] := List.eq_nil_iff_forall_not_mem.2 fun x hx => by cases (order_mem.1 hx).1
    rw [ho]; rfl
theorem fuse_kept {b : Bt.Basin} {h : Bt.Hull} {l : List Bt.Reading} (hd : Dist l) : fuse b h (l.filter (keptP b h l)) = ⟨(fuse b h l).V, (fuse b h l).K, []⟩ := by
  have h1 : atH h.Hour (l.filter (keptP b h l)) = (atH h.Hour l).filter fun r => decide (r.Gauge ∉ (fuse b h l).N) := by
    unfold atH
    rw [List.filter_filter, List.filter_filter]
    refine congrArg (fun f => List.filter f l) (funext fun r => ?_)
    unfold keptP named
    rw [show decide (r.Gauge ∉ comp (fuse b h l).N) = decide (r.Gauge ∉ (fuse b h l).N) from decide_eq_decide.2 (not_congr comp_iff)]
    cases decide (r.Hour = h.Hour) <;> simp
  have h2 : fuse b h (l.filter (keptP b h l)) = (order b.Gauges.length (atH h.Hour (l.filter (keptP b h l)))).foldl (stepF b) ⟨h.Vol, h.Links, []⟩ := rfl
  rw [h2, h1, order_filter]
  exact fold_filter (order b.Gauges.length (atH h.Hour l)) ⟨h.Vol, h.Links, []⟩ (dist_order (dist_filter hd _) _) (fun r _ hr => by cases hr)
end Fu
