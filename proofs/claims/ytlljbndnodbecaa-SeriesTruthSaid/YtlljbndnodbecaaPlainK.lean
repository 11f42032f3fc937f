/- Plain facts: honest notices, what is read from them. Conditions: those of each theorem. -/
import Derived.Test.YtlljbndnodbecaaPlainI
namespace Se
def T8 : ByteArray := Go.K.bs [49, 50, 51, 52, 53, 54, 55, 56]
def Lim (b : Bt.Basin) : Prop := (∀ j, j < b.Gauges.length → 0 ≤ (b.Gauges.getD j default).Err ∧ (b.Gauges.getD j default).Err ≤ 1073741824 ∧ 0 ≤ (b.Gauges.getD j default).Drift ∧ (b.Gauges.getD j default).Drift ≤ 1440) ∧ 1 ≤ b.Gauges.length ∧ b.Gauges.length ≤ 20
open Classical in
noncomputable instance (b : Bt.Basin) : Decidable (Lim b) := Classical.propDecidable _
def nG (b : Bt.Basin) (x : Bt.Notice) : Bt.Gauge := b.Gauges.getD x.Gauge.toNat default
def lateN (b : Bt.Basin) (x : Bt.Notice) : Int := max (-(nG b x).Drift) (min x.Late (nG b x).Drift)
def moreN (b : Bt.Basin) (x : Bt.Notice) : Int := max (-(nG b x).Err) (min x.More (nG b x).Err)
def HonIn (b : Bt.Basin) (tr : List Int) (x : Bt.Notice) : Prop := 0 ≤ x.Gauge ∧ x.Gauge < (b.Gauges.length : Int) ∧ 0 ≤ x.Minute ∧ x.Minute < 60 * (tr.length : Int)
instance (b : Bt.Basin) (tr : List Int) (x : Bt.Notice) : Decidable (HonIn b tr x) := inferInstanceAs (Decidable (_ ∧ _ ∧ _ ∧ _))
def honG (b : Bt.Basin) (tr : List Int) (x : Bt.Notice) (n : Int) : Bt.Gram := if HonIn b tr x then ⟨x.Gauge, n, x.Minute + lateN b x, tr.getD (x.Minute / 60).toNat 0 + moreN b x, T8⟩ else ⟨0, 0, 0, 0, Go.K.bs []⟩
def honK (b : Bt.Basin) (tr : List Int) (x : Bt.Notice) : Bool := decide (HonIn b tr x) && decide (0 ≤ x.Minute + lateN b x)
theorem honG_in {b : Bt.Basin} {tr : List Int} {x : Bt.Notice} {n : Int} (h : HonIn b tr x) : honG b tr x n = ⟨x.Gauge, n, x.Minute + lateN b x, tr.getD (x.Minute / 60).toNat 0 + moreN b x, T8⟩ := if_pos h
theorem honG_out {b : Bt.Basin} {tr : List Int} {x : Bt.Notice} {n : Int} (h : ¬ HonIn b tr x) : honG b tr x n = ⟨0, 0, 0, 0, Go.K.bs []⟩ := if_neg h
theorem lim_nG {b : Bt.Basin} (hl : Lim b) {x : Bt.Notice} (h0 : 0 ≤ x.Gauge) (h1 : x.Gauge < (b.Gauges.length : Int)) : 0 ≤ (nG b x).Err ∧ (nG b x).Err ≤ 1073741824 ∧ 0 ≤ (nG b x).Drift ∧ (nG b x).Drift ≤ 1440 := hl.1 x.Gauge.toNat (by omega)
theorem late_rng {b : Bt.Basin} {x : Bt.Notice} (h : 0 ≤ (nG b x).Drift) : -(nG b x).Drift ≤ lateN b x ∧ lateN b x ≤ (nG b x).Drift := by unfold lateN; omega
theorem more_rng {b : Bt.Basin} {x : Bt.Notice} (h : 0 ≤ (nG b x).Err) : -(nG b x).Err ≤ moreN b x ∧ moreN b x ≤ (nG b x).Err := by unfold moreN; omega
/-- a telegram that is honest about a minute -/
structure Hn (b : Bt.Basin) (tr : List Int) (t : Bt.Gram) (n : Int) : Prop where
  g0 : 0 ≤ t.Gauge
  g1 : t.Gauge < (b.Gauges.length : Int)
  c0 : 0 ≤ t.Clock
  seq : t.Seq = n
  tag : t.Tag = T8
  min : ∃ mi : Int, 0 ≤ mi ∧ mi < 60 * (tr.length : Int) ∧ t.Clock - (gOf b t).Drift ≤ mi ∧ mi ≤ t.Clock + (gOf b t).Drift ∧ t.Value - (gOf b t).Err ≤ tr.getD (mi / 60).toNat 0 ∧ tr.getD (mi / 60).toNat 0 ≤ t.Value + (gOf b t).Err
theorem hon_hn {b : Bt.Basin} {tr : List Int} {x : Bt.Notice} {n : Int} (hl : Lim b) (h : honK b tr x = true) : Hn b tr (honG b tr x n) n := by
  unfold honK at h
  rw [Bool.and_eq_true, decide_eq_true_eq, decide_eq_true_eq] at h
  obtain ⟨hi, hc⟩ := h
  have hg := lim_nG hl hi.1 hi.2.1
  have hla := late_rng (x := x) hg.2.2.1
  have hmo := more_rng (x := x) hg.1
  rw [honG_in hi]
  refine ⟨hi.1, hi.2.1, hc, rfl, rfl, x.Minute, hi.2.2.1, hi.2.2.2, ?_, ?_, ?_, ?_⟩ <;> simp only [gOf] <;> unfold nG at * <;> omega
/-- the telegrams of the first notices -/
def honL (b : Bt.Basin) (tr : List Int) (ls : List Bt.Notice) (i : Nat) : List Bt.Gram := (List.range i).filterMap fun j => if honK b tr (ls.getD j default) then some (honG b tr (ls.getD j default) (j : Int)) else none
theorem honL_zero {b : Bt.Basin} {tr : List Int} {ls : List Bt.Notice} : honL b tr ls 0 = [] := rfl
theorem honL_t {b : Bt.Basin} {tr : List Int} {ls : List Bt.Notice} {i : Nat} (h : honK b tr (ls.getD i default) = true) : honL b tr ls (i + 1) = honL b tr ls i ++ [honG b tr (ls.getD i default) (i : Int)] := by
  unfold honL; rw [List.range_succ, List.filterMap_append]; simp [-List.getD_eq_getElem?_getD, h]
theorem honL_f {b : Bt.Basin} {tr : List Int} {ls : List Bt.Notice} {i : Nat} (h : honK b tr (ls.getD i default) = false) : honL b tr ls (i + 1) = honL b tr ls i := by
  unfold honL; rw [List.range_succ, List.filterMap_append]; simp [-List.getD_eq_getElem?_getD, h]
theorem honL_len {b : Bt.Basin} {tr : List Int} {ls : List Bt.Notice} {i : Nat} : (honL b tr ls i).length ≤ i := by
  unfold honL
  have := List.length_filterMap_le (fun j => if honK b tr (ls.getD j default) then some (honG b tr (ls.getD j default) (j : Int)) else none) (List.range i)
  simpa using this
theorem honL_mem {b : Bt.Basin} {tr : List Int} {ls : List Bt.Notice} {i : Nat} {t : Bt.Gram} (h : t ∈ honL b tr ls i) : ∃ j, j < i ∧ honK b tr (ls.getD j default) = true ∧ t = honG b tr (ls.getD j default) (j : Int) := by
  unfold honL at h
  obtain ⟨j, hj, he⟩ := List.mem_filterMap.1 h
  rw [List.mem_range] at hj
  by_cases hk : honK b tr (ls.getD j default) = true
  · rw [if_pos hk] at he; exact ⟨j, hj, hk, (Option.some.inj he).symm⟩
  · rw [if_neg hk] at he; cases he
theorem honL_mono {b : Bt.Basin} {tr : List Int} {ls : List Bt.Notice} {i k : Nat} (h : i ≤ k) {t : Bt.Gram} (ht : t ∈ honL b tr ls i) : t ∈ honL b tr ls k := by
  obtain ⟨j, hj, hk, rfl⟩ := honL_mem ht
  exact List.mem_filterMap.2 ⟨j, List.mem_range.2 (by omega), by rw [if_pos hk]⟩
theorem honL_hn {b : Bt.Basin} {tr : List Int} {ls : List Bt.Notice} {i : Nat} (hl : Lim b) {t : Bt.Gram} (ht : t ∈ honL b tr ls i) : ∃ j, j < i ∧ Hn b tr t (j : Int) := by
  obtain ⟨j, hj, hk, rfl⟩ := honL_mem ht
  exact ⟨j, hj, hon_hn hl hk⟩
theorem honL_void {b : Bt.Basin} {tr : List Int} {ls : List Bt.Notice} {i : Nat} (hl : Lim b) (g : Int) : ¬ VoidP (honL b tr ls i) g := by
  rintro ⟨x, hx, y, hy, _, _, hs, hne⟩
  obtain ⟨j, hj, hk, rfl⟩ := honL_mem hx
  obtain ⟨j', hj', hk', rfl⟩ := honL_mem hy
  have e1 := (hon_hn (n := (j : Int)) hl hk).seq
  have e2 := (hon_hn (n := (j' : Int)) hl hk').seq
  obtain rfl : j = j' := by omega
  exact hne rfl
structure TrOk (tr : List Int) : Prop where
  len : tr.length ≤ 30
  rng : ∀ j, j < tr.length → -1073741824 ≤ tr.getD j 0 ∧ tr.getD j 0 ≤ 1073741824
theorem gOf_lim {b : Bt.Basin} (hl : Lim b) {t : Bt.Gram} (h0 : 0 ≤ t.Gauge) (h1 : t.Gauge < (b.Gauges.length : Int)) : 0 ≤ (gOf b t).Err ∧ (gOf b t).Err ≤ 1073741824 ∧ 0 ≤ (gOf b t).Drift ∧ (gOf b t).Drift ≤ 1440 := hl.1 t.Gauge.toNat (by omega)
theorem hn_right {b : Bt.Basin} {tr : List Int} {t : Bt.Gram} {j : Nat} (hl : Lim b) (ht : TrOk tr) (hj : j < 60) (h : Hn b tr t (j : Int)) : Right b.Gauges.length t := by
  have hg := gOf_lim hl h.g0 h.g1
  obtain ⟨mi, h1, h2, h3, h4, h5, h6⟩ := h.min
  have hlen := ht.len
  have hr := ht.rng (mi / 60).toNat (by omega)
  have h20 := hl.2.2; have hg0 := h.g0; have hg1 := h.g1; have hc0 := h.c0; have hs := h.seq
  refine ⟨⟨hg0, by omega⟩, ⟨by omega, by omega⟩, ⟨hc0, by omega⟩, ⟨by omega, by omega⟩, ?_, hg1⟩
  rw [h.tag]; rfl
theorem lo_eq {b : Bt.Basin} {tr : List Int} {t : Bt.Gram} {n : Int} (hl : Lim b) (ht : TrOk tr) (h : Hn b tr t n) : loT b t = t.Value - (gOf b t).Err ∧ hiT b t = t.Value + (gOf b t).Err ∧ -4294967296 ≤ t.Value ∧ t.Value ≤ 4294967296 ∧ -4294967296 ≤ t.Clock ∧ t.Clock ≤ 4294967296 := by
  have hg := gOf_lim hl h.g0 h.g1
  obtain ⟨mi, h1, h2, h3, h4, h5, h6⟩ := h.min
  have hlen := ht.len
  have hr := ht.rng (mi / 60).toNat (by omega)
  unfold loT hiT subS addS
  refine ⟨?_, ?_, by omega, by omega, by omega, by omega⟩
  · rw [if_neg (by omega), if_neg (by omega)]
  · rw [if_neg (by omega), if_neg (by omega)]
/-- the truth lies in what a sure telegram says -/
theorem hn_true {b : Bt.Basin} {tr : List Int} {t : Bt.Gram} {n : Int} (hl : Lim b) (ht : TrOk tr) (h : Hn b tr t n) (hs : Sure (gOf b t) t) : 0 ≤ hourT (gOf b t) t ∧ hourT (gOf b t) t < (tr.length : Int) ∧ loT b t ≤ tr.getD (hourT (gOf b t) t).toNat 0 ∧ tr.getD (hourT (gOf b t) t).toNat 0 ≤ hiT b t := by
  have he := lo_eq hl ht h
  obtain ⟨mi, h1, h2, h3, h4, h5, h6⟩ := h.min
  have hh : mi / 60 = hourT (gOf b t) t := by have := hs.2.2; unfold hourT; omega
  rw [← hh]
  refine ⟨by omega, by omega, by omega, by omega⟩
theorem at_hn {b : Bt.Basin} {tr : List Int} {ls : List Bt.Notice} {i : Nat} {u v : Int} {k : Int × Int} (hl : Lim b) (ht : TrOk tr) {t : Bt.Gram} (h : At b (honL b tr ls i) u v (honL b tr ls i) k t) : 0 ≤ k.1 ∧ k.1 < (tr.length : Int) ∧ loT b t ≤ tr.getD k.1.toNat 0 ∧ tr.getD k.1.toNat 0 ≤ hiT b t := by
  obtain ⟨j, hj, hn⟩ := honL_hn hl h.1
  have := hn_true hl ht hn h.2.1.2.2.1
  have hk : hourT (gOf b t) t = k.1 := at_hour h
  rw [hk] at this; exact this
/-- every reading has the truth -/
theorem rds_true {b : Bt.Basin} {tr : List Int} {ls : List Bt.Notice} {i : Nat} {u v : Int} {R : List Bt.Reading} (hl : Lim b) (ht : TrOk tr) (hR : Rds b (honL b tr ls i) u v R) {r : Bt.Reading} (hr : r ∈ R) : 0 ≤ r.Hour ∧ r.Hour < (tr.length : Int) ∧ r.Value.Lo ≤ tr.getD r.Hour.toNat 0 ∧ tr.getD r.Hour.toNat 0 ≤ r.Value.Hi := by
  obtain ⟨h1, _⟩ := (hR.mem r).1 hr
  obtain ⟨t, ht1, e1⟩ := h1.lo; obtain ⟨t2, ht2, e2⟩ := h1.hi
  have a1 := at_hn hl ht ht1; have a2 := at_hn hl ht ht2
  refine ⟨a1.1, a1.2.1, ?_, ?_⟩
  · rw [← e1]; exact a1.2.2.1
  · rw [← e2]; exact a2.2.2.2
theorem use_hon {b : Bt.Basin} {tr : List Int} {ls : List Bt.Notice} {i : Nat} {u v : Int} (hl : Lim b) (ht : TrOk tr) (hi : i ≤ 60) {t : Bt.Gram} (h : t ∈ honL b tr ls i) : Use b (honL b tr ls i) u v t ↔ Sure (gOf b t) t ∧ u ≤ hourT (gOf b t) t ∧ hourT (gOf b t) t < v := by
  obtain ⟨j, hj, hn⟩ := honL_hn hl h
  exact ⟨fun h => h.2.2, fun h => ⟨hn_right hl ht (by omega) hn, honL_void hl _, h⟩⟩
/-- the reading of a gauge for an hour, once a telegram tells of it -/
theorem rds_has {b : Bt.Basin} {tr : List Int} {ls : List Bt.Notice} {i : Nat} {u v : Int} {R : List Bt.Reading} (hl : Lim b) (ht : TrOk tr) (hR : Rds b (honL b tr ls i) u v R) {k : Int × Int} {t : Bt.Gram} (hAt : At b (honL b tr ls i) u v (honL b tr ls i) k t) : ∃ r ∈ R, r.Hour = k.1 ∧ r.Gauge = k.2 ∧ (∀ x, At b (honL b tr ls i) u v (honL b tr ls i) k x → loT b x ≤ r.Value.Lo ∧ r.Value.Hi ≤ hiT b x) := by
  rcases valM_spec b (honL b tr ls i) u v k _ (honL b tr ls i) rfl with ⟨_, h2⟩ | ⟨s, _, hs⟩
  · exact absurd hAt (h2 t)
  · obtain ⟨t1, ht1, e1⟩ := hs.lo; obtain ⟨t2, ht2, e2⟩ := hs.hi
    have a1 := at_hn hl ht ht1; have a2 := at_hn hl ht ht2
    refine ⟨⟨k.2, k.1, s⟩, (hR.mem _).2 ⟨hs, ?_⟩, rfl, rfl, fun x hx => ⟨hs.loB x hx, hs.hiB x hx⟩⟩
    show s.Lo ≤ s.Hi
    omega
theorem rds_key {b : Bt.Basin} {l : List Bt.Gram} {u v : Int} {R : List Bt.Reading} (hR : Rds b l u v R) {r r' : Bt.Reading} (h : r ∈ R) (h' : r' ∈ R) (h1 : r.Hour = r'.Hour) (h2 : r.Gauge = r'.Gauge) : r = r' := by
  have a := ((hR.mem r).1 h).1; have a' := ((hR.mem r').1 h').1
  rw [← h1, ← h2] at a'
  have := a.unique a'
  obtain ⟨g1, o1, v1⟩ := r; obtain ⟨g2, o2, v2⟩ := r'
  simp only at *; subst h1; subst h2; subst this; rfl
/-- with further honest notices every reading is still there and not wider -/
theorem rds_more {b : Bt.Basin} {tr : List Int} {ls : List Bt.Notice} {i k : Nat} {u v : Int} {R R' : List Bt.Reading} (hl : Lim b) (ht : TrOk tr) (hik : i ≤ k) (hk : k ≤ 60) (hR : Rds b (honL b tr ls i) u v R) (hR' : Rds b (honL b tr ls k) u v R') {r : Bt.Reading} (hr : r ∈ R) : ∃ r' ∈ R', r'.Gauge = r.Gauge ∧ r'.Hour = r.Hour ∧ r.Value.Lo ≤ r'.Value.Lo ∧ r'.Value.Hi ≤ r.Value.Hi := by
  have h1 := ((hR.mem r).1 hr).1
  have up : ∀ x, At b (honL b tr ls i) u v (honL b tr ls i) (r.Hour, r.Gauge) x → At b (honL b tr ls k) u v (honL b tr ls k) (r.Hour, r.Gauge) x := fun x hx =>
    ⟨honL_mono hik hx.1, (use_hon hl ht hk (honL_mono hik hx.1)).2 hx.2.1.2.2, hx.2.2⟩
  obtain ⟨t, ht1, e1⟩ := h1.lo; obtain ⟨t2, ht2, e2⟩ := h1.hi
  obtain ⟨r', hr', g1, g2, g3⟩ := rds_has hl ht hR' (up t ht1)
  refine ⟨r', hr', g2, g1, ?_, ?_⟩
  · rw [← e1]; exact (g3 t (up t ht1)).1
  · rw [← e2]; exact (g3 t2 (up t2 ht2)).2
/-- a telegram whose hour is certain is read -/
theorem rds_sure {b : Bt.Basin} {tr : List Int} {ls : List Bt.Notice} {i : Nat} {v : Int} {R : List Bt.Reading} (hl : Lim b) (ht : TrOk tr) (hi : i ≤ 60) (hR : Rds b (honL b tr ls i) 0 v R) {t : Bt.Gram} (hm : t ∈ honL b tr ls i) (hlow : 0 ≤ t.Clock - (gOf b t).Drift) (hs : (t.Clock - (gOf b t).Drift) / 60 = (t.Clock + (gOf b t).Drift) / 60) (hv : (t.Clock - (gOf b t).Drift) / 60 < v) : ∃ r ∈ R, r.Gauge = t.Gauge ∧ r.Hour = (t.Clock - (gOf b t).Drift) / 60 ∧ t.Value - (gOf b t).Err ≤ r.Value.Lo ∧ r.Value.Hi ≤ t.Value + (gOf b t).Err := by
  obtain ⟨j, hj, hn⟩ := honL_hn hl hm
  have hg := gOf_lim hl hn.g0 hn.g1
  have he := lo_eq hl ht hn
  have hAt : At b (honL b tr ls i) 0 v (honL b tr ls i) (plc b t) t := ⟨hm, (use_hon hl ht hi hm).2 ⟨⟨hg.2.2.1, by omega, hs⟩, by show 0 ≤ (t.Clock - (gOf b t).Drift) / 60; omega, hv⟩, rfl⟩
  obtain ⟨r, hr, h1, h2, h3⟩ := rds_has hl ht hR hAt
  have := h3 t hAt
  exact ⟨r, hr, h2, h1, by omega, by omega⟩
/-- the reading that is found -/
def findR (R : List Bt.Reading) (g h : Int) : Option Bt.Reading := R.find? fun r => decide (r.Gauge = g ∧ r.Hour = h)
theorem findR_of {b : Bt.Basin} {l : List Bt.Gram} {u v : Int} {R : List Bt.Reading} (hR : Rds b l u v R) {r : Bt.Reading} (hr : r ∈ R) {g h : Int} (h1 : r.Gauge = g) (h2 : r.Hour = h) : findR R g h = some r := by
  cases hf : findR R g h with
  | none =>
    unfold findR at hf
    have := List.find?_eq_none.1 hf r hr
    simp [h1, h2] at this
  | some r' =>
    unfold findR at hf
    have hm := List.mem_of_find?_eq_some hf
    have hp := List.find?_some hf
    rw [decide_eq_true_eq] at hp
    rw [rds_key hR hm hr (by omega) (by omega)]
theorem findR_hit {R : List Bt.Reading} {g h : Int} {k : Nat} (hk : k < R.length) (hz : ∀ j, j < k → ¬ ((R.getD j default).Gauge = g ∧ (R.getD j default).Hour = h)) (he : (R.getD k default).Gauge = g ∧ (R.getD k default).Hour = h) : findR R g h = some (R.getD k default) := by
  induction R generalizing k with
  | nil => simp at hk
  | cons a R ih =>
    unfold findR
    cases k with
    | zero => rw [List.find?_cons_of_pos]; rfl; simpa using he
    | succ k =>
      have h0 := hz 0 (by omega)
      rw [List.find?_cons_of_neg (by simpa using h0)]
      exact ih (by simpa using hk) (fun j hj => by have := hz (j + 1) (by omega); simpa using this) (by simpa using he)
theorem findR_miss {R : List Bt.Reading} {g h : Int} (hz : ∀ j, j < R.length → ¬ ((R.getD j default).Gauge = g ∧ (R.getD j default).Hour = h)) : findR R g h = none := by
  unfold findR
  rw [List.find?_eq_none]
  intro x hx
  obtain ⟨j, hj, rfl⟩ := List.mem_iff_getElem.1 hx
  have := hz j hj
  simpa [List.getD_eq_getElem?_getD, hj] using this
theorem rds_lt {b : Bt.Basin} {l : List Bt.Gram} {u v : Int} {R : List Bt.Reading} (hR : Rds b l u v R) {i j : Nat} (hij : i < j) (hj : j < R.length) : (R.getD i default).Hour < (R.getD j default).Hour ∨ (R.getD i default).Hour = (R.getD j default).Hour ∧ (R.getD i default).Gauge < (R.getD j default).Gauge := by
  have := List.pairwise_iff_getElem.1 hR.srt i j (by omega) hj hij
  unfold ltR at this
  rw [List.getD_eq_getElem?_getD, List.getD_eq_getElem?_getD, List.getElem?_eq_getElem (by omega), List.getElem?_eq_getElem hj]
  exact this
end Se
namespace Se
theorem hn_wf {b : Bt.Basin} {tr : List Int} {t : Bt.Gram} {j : Nat} (hl : Lim b) (ht : TrOk tr) (hj : j < 60) (h : Hn b tr t (j : Int)) : Go.K.I64 t.Gauge ∧ Go.K.I64 t.Seq ∧ Go.K.I64 t.Clock ∧ Go.K.I64 t.Value ∧ t.Tag.size ≤ 8 := by
  have hr := hn_right hl ht hj h
  obtain ⟨a1, a2, a3, a4, a5, a6⟩ := hr
  refine ⟨?_, ?_, ?_, ?_, by rw [h.tag]; decide⟩ <;> unfold Go.K.I64 <;> omega
theorem lim_iff {b : Bt.Basin} (h : ∀ j, j < b.Gauges.length → 0 ≤ (b.Gauges.getD j default).Err ∧ (b.Gauges.getD j default).Err ≤ 1073741824 ∧ 0 ≤ (b.Gauges.getD j default).Drift ∧ (b.Gauges.getD j default).Drift ≤ 1440) : (decide (1 ≤ (b.Gauges.length : Int)) && decide ((b.Gauges.length : Int) ≤ 20)) = decide (Lim b) := by
  rw [← Bool.decide_and]
  exact decide_eq_decide.2 ⟨fun h1 => ⟨h, by omega, by omega⟩, fun h1 => ⟨by have := h1.2.1; omega, by have := h1.2.2; omega⟩⟩
theorem trOk_snoc {tr : List Int} {k : Nat} (h : ∀ j, j < k → -1073741824 ≤ tr.getD j 0 ∧ tr.getD j 0 ≤ 1073741824) (hk : -1073741824 ≤ tr.getD k 0 ∧ tr.getD k 0 ≤ 1073741824) : ∀ j, j < k + 1 → -1073741824 ≤ tr.getD j 0 ∧ tr.getD j 0 ≤ 1073741824 := fun j hj => by
  by_cases e : j = k
  · subst e; exact hk
  · exact h j (by omega)
end Se
