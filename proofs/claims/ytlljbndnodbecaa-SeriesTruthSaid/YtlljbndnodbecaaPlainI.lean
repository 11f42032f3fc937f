/- Plain facts: how the readings follow the telegrams. Conditions: those of each theorem. -/
import Derived.Test.YtlljbndnodbecaaPlainH
namespace Se
theorem isR_congr {b : Bt.Basin} {l l' : List Bt.Gram} {u v u' v' : Int} {r : Bt.Reading} (h : ∀ t, At b l u v l (r.Hour, r.Gauge) t ↔ At b l' u' v' l' (r.Hour, r.Gauge) t) : IsR b l u v r ↔ IsR b l' u' v' r :=
  ⟨fun ⟨h1, h2⟩ => ⟨h1.congr h, h2⟩, fun ⟨h1, h2⟩ => ⟨h1.congr (fun t => (h t).symm), h2⟩⟩
theorem isR_at {b : Bt.Basin} {l : List Bt.Gram} {u v : Int} {r : Bt.Reading} (h : IsR b l u v r) : ∃ t, At b l u v l (r.Hour, r.Gauge) t := let ⟨t, ht, _⟩ := h.1.lo; ⟨t, ht⟩
theorem at_gauge {b : Bt.Basin} {l L : List Bt.Gram} {u v : Int} {k : Int × Int} {t : Bt.Gram} (h : At b l u v L k t) : t.Gauge = k.2 := by rw [← h.2.2]; rfl
theorem at_hour {b : Bt.Basin} {l L : List Bt.Gram} {u v : Int} {k : Int × Int} {t : Bt.Gram} (h : At b l u v L k t) : hourT (gOf b t) t = k.1 := by rw [← h.2.2]; rfl
theorem voidP_congr {l r : List Bt.Gram} {g : Int} (h : ∀ x : Bt.Gram, x.Gauge = g → (x ∈ l ↔ x ∈ r)) : VoidP l g ↔ VoidP r g :=
  ⟨voidP_mono fun x hx hg => (h x hg).1 hx, voidP_mono fun x hx hg => (h x hg).2 hx⟩
/-- another telegram with the gauge and number of one of them -/
theorem void_other {l : List Bt.Gram} {e g : Bt.Gram} (he : e ∈ l) (h1 : g.Gauge = e.Gauge) (h2 : g.Seq = e.Seq) (h3 : g ≠ e) : VoidP (l ++ [g]) e.Gauge :=
  ⟨e, by simp [he], g, by simp, rfl, h1, h2.symm, fun h => h3 h.symm⟩
theorem isR_void {b : Bt.Basin} {l : List Bt.Gram} {u v : Int} {e g : Bt.Gram} (he : e ∈ l) (h1 : g.Gauge = e.Gauge) (h2 : g.Seq = e.Seq) (h3 : g ≠ e) (r : Bt.Reading) : IsR b (l ++ [g]) u v r ↔ IsR b l u v r ∧ r.Gauge ≠ e.Gauge := by
  by_cases hr : r.Gauge = e.Gauge
  · refine ⟨fun h => ?_, fun h => absurd hr h.2⟩
    obtain ⟨t, ht⟩ := isR_at h
    have hg := at_gauge ht
    exact absurd (by rw [hg]; show VoidP (l ++ [g]) r.Gauge; rw [hr]; exact void_other he h1 h2 h3) ht.2.1.2.1
  · have hc : IsR b (l ++ [g]) u v r ↔ IsR b l u v r := isR_congr fun t => by
      have hv : ∀ q : Int, q ≠ e.Gauge → (VoidP (l ++ [g]) q ↔ VoidP l q) := fun q hq => voidP_congr fun x hx => by
        rw [List.mem_append]
        refine ⟨fun h => h.elim id fun h4 => ?_, Or.inl⟩
        obtain rfl := List.mem_singleton.1 h4
        exact absurd (hx.symm.trans h1) hq
      constructor
      · intro h
        have hg : t.Gauge = r.Gauge := at_gauge h
        obtain ⟨a1, ⟨a2, a3, a4⟩, a5⟩ := h
        refine ⟨?_, ⟨a2, by rw [hg] at a3 ⊢; rw [hv _ hr] at a3; exact a3, a4⟩, a5⟩
        rcases List.mem_append.1 a1 with a6 | a6
        · exact a6
        · obtain rfl := List.mem_singleton.1 a6
          exact absurd (hg.symm.trans h1) hr
      · intro h
        have hg : t.Gauge = r.Gauge := at_gauge h
        obtain ⟨a1, ⟨a2, a3, a4⟩, a5⟩ := h
        exact ⟨List.mem_append_left _ a1, ⟨a2, by rw [hg] at a3 ⊢; rw [hv _ hr]; exact a3, a4⟩, a5⟩
    rw [hc]
    exact ⟨fun h => ⟨h, hr⟩, fun h => h.1⟩
theorem rds_void {b : Bt.Basin} {l : List Bt.Gram} {u v : Int} {e g : Bt.Gram} {R R' : List Bt.Reading} (he : e ∈ l) (h1 : g.Gauge = e.Gauge) (h2 : g.Seq = e.Seq) (h3 : g ≠ e) (hR : Rds b l u v R) (hR' : Rds b (l ++ [g]) u v R') : R' = R.filter fun r => decide (r.Gauge ≠ e.Gauge) :=
  sorted_ext ltR_asymm hR'.srt (hR.srt.filter _) fun r => by
    rw [hR'.mem, isR_void he h1 h2 h3, List.mem_filter, hR.mem]
    simp
/-- the same telegrams, however listed -/
theorem isR_same {b : Bt.Basin} {l l' : List Bt.Gram} {u v : Int} (h : ∀ t, t ∈ l ↔ t ∈ l') (r : Bt.Reading) : IsR b l u v r ↔ IsR b l' u v r := isR_congr fun t => by
  unfold At Use
  rw [h t, voidP_congr (l := l) (r := l') fun x _ => h x]
/-- a part of the telegrams that has all of the gauges in question -/
theorem isR_part {b : Bt.Basin} {l l' : List Bt.Gram} {u v : Int} {r : Bt.Reading} (h : ∀ t : Bt.Gram, t.Gauge = r.Gauge → (t ∈ l ↔ t ∈ l')) : IsR b l u v r ↔ IsR b l' u v r := isR_congr fun t => by
  constructor
  · intro ha
    have hg : t.Gauge = r.Gauge := at_gauge ha
    obtain ⟨a1, ⟨a2, a3, a4⟩, a5⟩ := ha
    exact ⟨(h t hg).1 a1, ⟨a2, by rw [hg] at a3 ⊢; rwa [← voidP_congr (l := l) (r := l') fun x hx => h x hx], a4⟩, a5⟩
  · intro ha
    have hg : t.Gauge = r.Gauge := at_gauge ha
    obtain ⟨a1, ⟨a2, a3, a4⟩, a5⟩ := ha
    exact ⟨(h t hg).2 a1, ⟨a2, by rw [hg] at a3 ⊢; rwa [voidP_congr (l := l) (r := l') fun x hx => h x hx], a4⟩, a5⟩
/-- the hours in two parts -/
theorem isR_hours {b : Bt.Basin} {l : List Bt.Gram} {u m v : Int} (h1 : u ≤ m) (h2 : m ≤ v) (r : Bt.Reading) : IsR b l u v r ↔ IsR b l u m r ∨ IsR b l m v r := by
  by_cases hr : r.Hour < m
  · have hc : IsR b l u v r ↔ IsR b l u m r := isR_congr fun t => by
      constructor
      · intro ha
        have hh : hourT (gOf b t) t = r.Hour := at_hour ha
        obtain ⟨a1, ⟨a2, a3, a4, a5, a6⟩, a7⟩ := ha
        exact ⟨a1, ⟨a2, a3, a4, a5, by omega⟩, a7⟩
      · rintro ⟨a1, ⟨a2, a3, a4, a5, a6⟩, a7⟩
        exact ⟨a1, ⟨a2, a3, a4, a5, by omega⟩, a7⟩
    rw [hc]
    refine ⟨Or.inl, fun h => h.elim id fun h => ?_⟩
    obtain ⟨t, ht⟩ := isR_at h
    have hh : hourT (gOf b t) t = r.Hour := at_hour ht
    have := ht.2.1.2.2.2.1
    omega
  · have hc : IsR b l u v r ↔ IsR b l m v r := isR_congr fun t => by
      constructor
      · intro ha
        have hh : hourT (gOf b t) t = r.Hour := at_hour ha
        obtain ⟨a1, ⟨a2, a3, a4, a5, a6⟩, a7⟩ := ha
        exact ⟨a1, ⟨a2, a3, a4, by omega, a6⟩, a7⟩
      · rintro ⟨a1, ⟨a2, a3, a4, a5, a6⟩, a7⟩
        exact ⟨a1, ⟨a2, a3, a4, by omega, a6⟩, a7⟩
    rw [hc]
    refine ⟨Or.inr, fun h => h.elim (fun h => ?_) id⟩
    obtain ⟨t, ht⟩ := isR_at h
    have hh : hourT (gOf b t) t = r.Hour := at_hour ht
    have := ht.2.1.2.2.2.2
    omega
theorem rds_hour {b : Bt.Basin} {l : List Bt.Gram} {u v : Int} {R : List Bt.Reading} (hR : Rds b l u v R) {r : Bt.Reading} (hr : r ∈ R) : u ≤ r.Hour ∧ r.Hour < v := by
  obtain ⟨t, ht⟩ := isR_at ((hR.mem r).1 hr)
  have hh : hourT (gOf b t) t = r.Hour := at_hour ht
  have h4 := ht.2.1.2.2.2
  omega
theorem rds_parts {b : Bt.Basin} {l : List Bt.Gram} {u m v : Int} {R R1 R2 : List Bt.Reading} (h1 : u ≤ m) (h2 : m ≤ v) (hR : Rds b l u v R) (hR1 : Rds b l u m R1) (hR2 : Rds b l m v R2) : R = R1 ++ R2 :=
  sorted_ext ltR_asymm hR.srt (List.pairwise_append.2 ⟨hR1.srt, hR2.srt, fun x hx y hy => by
    have := rds_hour hR1 hx; have := rds_hour hR2 hy; unfold ltR; omega⟩) fun r => by rw [hR.mem, isR_hours h1 h2, List.mem_append, hR1.mem, hR2.mem]
theorem rds_same {b : Bt.Basin} {l l' : List Bt.Gram} {u v : Int} {R R' : List Bt.Reading} (h : ∀ t, t ∈ l ↔ t ∈ l') (hR : Rds b l u v R) (hR' : Rds b l' u v R') : R = R' := hR.unique hR' (isR_same h)
/-- telegrams that are not right do not count -/
theorem rds_right {b : Bt.Basin} {l l' : List Bt.Gram} {u v : Int} {R R' : List Bt.Reading} (h : ∀ t, t ∈ l' ↔ t ∈ l ∧ (Right b.Gauges.length t ∨ 0 ≤ t.Gauge ∧ t.Gauge < (b.Gauges.length : Int))) (hR : Rds b l u v R) (hR' : Rds b l' u v R') : R = R' :=
  hR.unique hR' fun r => by
    by_cases hg : 0 ≤ r.Gauge ∧ r.Gauge < (b.Gauges.length : Int)
    · exact isR_part fun t ht => by rw [h t]; exact ⟨fun h1 => ⟨h1, .inr (by rw [ht]; exact hg)⟩, fun h1 => h1.1⟩
    · have none : ∀ L, ¬ IsR b L u v r := fun L hL => by
        obtain ⟨t, ht⟩ := isR_at hL
        have hgt : t.Gauge = r.Gauge := at_gauge ht
        have hrt := ht.2.1.1
        unfold Right at hrt
        exact hg (by rw [← hgt]; omega)
      exact ⟨fun h1 => absurd h1 (none l), fun h1 => absurd h1 (none l')⟩
/-- the telegrams of one gauge -/
theorem rds_own {b : Bt.Basin} {l l' : List Bt.Gram} {u v g : Int} {R R' : List Bt.Reading} (h : ∀ t, t ∈ l' ↔ t ∈ l ∧ t.Gauge = g) (hR : Rds b l u v R) (hR' : Rds b l' u v R') : (R.filter fun r => decide (r.Gauge = g)) = R' :=
  sorted_ext ltR_asymm (hR.srt.filter _) hR'.srt fun r => by
    rw [List.mem_filter, hR.mem, hR'.mem, decide_eq_true_eq]
    constructor
    · rintro ⟨h1, h2⟩
      exact (isR_part fun t ht => by rw [h t]; exact ⟨fun h3 => ⟨h3, ht.trans h2⟩, fun h3 => h3.1⟩).1 h1
    · intro h1
      obtain ⟨t, ht⟩ := isR_at h1
      have hgt : t.Gauge = r.Gauge := at_gauge ht
      have h2 : r.Gauge = g := by rw [← hgt]; exact ((h t).1 ht.1).2
      exact ⟨(isR_part fun t ht => by rw [h t]; exact ⟨fun h3 => ⟨h3, ht.trans h2⟩, fun h3 => h3.1⟩).2 h1, h2⟩
theorem Rds.len {b : Bt.Basin} {l : List Bt.Gram} {u v : Int} {R : List Bt.Reading} (h : Rds b l u v R) : R.length ≤ l.length := by
  have hn : (R.map fun r => (r.Hour, r.Gauge)).Nodup := by
    refine List.pairwise_map.2 (h.srt.imp fun {x y} hxy e => ?_)
    simp only [Prod.mk.injEq] at e
    unfold ltR at hxy
    omega
  have := nodup_le2 (r := l.map (plc b)) hn fun p hp => by
    obtain ⟨r, hr, rfl⟩ := List.mem_map.1 hp
    obtain ⟨t, ht⟩ := isR_at ((h.mem r).1 hr)
    exact List.mem_map.2 ⟨t, ht.1, ht.2.2⟩
  simpa using this
end Se
