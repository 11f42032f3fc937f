/- Lemmas. Conditions: those of each theorem. -/
import Derived.Test.YtblfeidlnhdekaaGreatSSrK
import Derived.Shelf.Lay
import Derived.Ground.SlsfProg
import Derived.Ground.NamesProg
set_option maxRecDepth 8000
set_option maxHeartbeats 16000000
namespace Se
open Go Go.K Go.Proofs Go.Proofs.YtblfeidlnhdekaaGreat Go.Proofs.YtblfeidlnhdekaaGreat.Sr
theorem nodup_le {α : Type} [DecidableEq α] : ∀ {l r : List α}, l.Nodup → (∀ x ∈ l, x ∈ r) → l.length ≤ r.length
  | [], _, _, _ => Nat.zero_le _
  | x :: l, r, hn, h => by
    obtain ⟨h1, h2⟩ := List.nodup_cons.1 hn
    have hx := h x (by simp)
    have := nodup_le (l := l) (r := r.erase x) h2 fun y hy => (List.mem_erase_of_ne (fun e => h1 (by rw [← e]; exact hy))).2 (h y (by simp [hy]))
    have h3 := List.length_erase_of_mem hx
    have h4 := List.length_pos_of_mem hx
    simp only [List.length_cons]
    omega
def hr (g : Bt.Gauge) (t : Bt.Gram) : Int := if 0 ≤ g.Drift ∧ g.Drift < 60 then hourT g t else 0
theorem hr_sure {g : Bt.Gauge} {t : Bt.Gram} (h : Sure g t) : hr g t = hourT g t := by unfold hr; rw [if_pos ⟨h.1, h.2.1⟩]
theorem val_put {b : Bt.Basin} {l L : List Bt.Gram} {u v : Int} {t : Bt.Gram} (h : Use b l u v t) {o : Option Bt.Span} (ho : valM b l u v L (hr (gOf b t) t, t.Gauge) = o) {s : Bt.Span} (hs : joinV o (loT b t) (hiT b t) = s) :
    (fun j => if j = (hr (gOf b t) t, t.Gauge) then some s else valM b l u v L j) = valM b l u v (L ++ [t]) := by
  rw [valM_use h]
  have hp : plc b t = (hr (gOf b t) t, t.Gauge) := by unfold plc; rw [hr_sure h.2.2.1]
  rw [hp, ho, hs]
theorem valM_nil (b : Bt.Basin) (l : List Bt.Gram) (u v : Int) : valM b l u v [] = fun _ => none := by funext k; rfl
theorem subS_rng (x y : Int) : I64 (subS x y) := by unfold subS I64; split <;> (try split) <;> omega
theorem addS_rng (x y : Int) : I64 (addS x y) := by unfold addS I64; split <;> (try split) <;> omega
theorem valM_facts {b : Bt.Basin} {l : List Bt.Gram} {u v : Int} {k : Int × Int} {s : Bt.Span} (hu : I64 u) (hv : I64 v) (h : valM b l u v l k = some s) : I64 k.1 ∧ I64 k.2 ∧ I64 s.Lo ∧ I64 s.Hi ∧ k ∈ l.map (plc b) := by
  have hi := valM_iff.1 h
  obtain ⟨t, ht, hlo⟩ := hi.lo
  obtain ⟨t', ht', hhi⟩ := hi.hi
  obtain ⟨h1, h2, h3⟩ := ht
  have e1 : k = plc b t := h3.symm
  have r := h2.1
  unfold Right at r
  have g1 := h2.2.2.2.1
  have g2 := h2.2.2.2.2
  refine ⟨?_, ?_, by rw [← hlo]; exact subS_rng _ _, by rw [← hhi]; exact addS_rng _ _, List.mem_map.2 ⟨t, h1, h3⟩⟩
  · rw [e1]; unfold plc; simp only; unfold I64 at *; omega
  · rw [e1]; unfold plc; simp only; unfold I64; omega
structure RdI (es : Array MapEntry) (M : Int × Int → Option Bt.Span) (seen : Array Nat) (R : List Bt.Reading) : Prop where
  inn : ∀ r ∈ R, M (r.Hour, r.Gauge) = some r.Value ∧ r.Value.Lo ≤ r.Value.Hi ∧ ∃ e ∈ es.toList, seen.contains e.born = true ∧ e.key = pairW (r.Hour, r.Gauge)
  out : ∀ e ∈ es.toList, seen.contains e.born = true → ∀ k x, e.key = pairW k → M k = some x → x.Lo ≤ x.Hi → (⟨k.2, k.1, x⟩ : Bt.Reading) ∈ R
  dst : R.Pairwise fun x y => ¬ (x.Hour = y.Hour ∧ x.Gauge = y.Gauge)
def left (es : Array MapEntry) (seen : Array Nat) : Nat := (es.toList.filter fun e => !seen.contains e.born).length
theorem contains_push (seen : Array Nat) (a c : Nat) : (seen.push a).contains c = (seen.contains c || c == a) := by
  rw [Bool.eq_iff_iff]; simp
theorem left_lt {es : Array MapEntry} {seen : Array Nat} {e : MapEntry} (he : e ∈ es.toList) (hn : seen.contains e.born = false) : left es (seen.push e.born) < left es seen := by
  unfold left
  have key : ∀ l : List MapEntry, (l.filter fun e' => !(seen.push e.born).contains e'.born).length ≤ (l.filter fun e' => !seen.contains e'.born).length ∧ (e ∈ l → (l.filter fun e' => !(seen.push e.born).contains e'.born).length < (l.filter fun e' => !seen.contains e'.born).length) := by
    intro l
    induction l with
    | nil => exact ⟨Nat.le_refl _, fun h => by cases h⟩
    | cons a l ih =>
      obtain ⟨i1, i2⟩ := ih
      have hp := contains_push seen e.born a.born
      cases hs : seen.contains a.born with
      | true =>
        rw [hs, Bool.true_or] at hp
        have e1 : ((a :: l).filter fun e' => !(seen.push e.born).contains e'.born) = l.filter fun e' => !(seen.push e.born).contains e'.born := List.filter_cons_of_neg (by rw [hp]; simp)
        have e2 : ((a :: l).filter fun e' => !seen.contains e'.born) = l.filter fun e' => !seen.contains e'.born := List.filter_cons_of_neg (by rw [hs]; simp)
        rw [e1, e2]
        refine ⟨i1, fun h => ?_⟩
        rcases List.mem_cons.1 h with h | h
        · subst h; rw [hn] at hs; cases hs
        · exact i2 h
      | false =>
        have e2 : ((a :: l).filter fun e' => !seen.contains e'.born) = a :: l.filter fun e' => !seen.contains e'.born := List.filter_cons_of_pos (by rw [hs]; simp)
        rw [e2]
        by_cases hab : a.born = e.born
        · have e1 : ((a :: l).filter fun e' => !(seen.push e.born).contains e'.born) = l.filter fun e' => !(seen.push e.born).contains e'.born := List.filter_cons_of_neg (by rw [hp, hab]; simp)
          rw [e1]
          simp only [List.length_cons]
          exact ⟨by omega, fun _ => by omega⟩
        · have e1 : ((a :: l).filter fun e' => !(seen.push e.born).contains e'.born) = a :: l.filter fun e' => !(seen.push e.born).contains e'.born := List.filter_cons_of_pos (by rw [hp, hs]; simp [hab])
          rw [e1]
          simp only [List.length_cons]
          refine ⟨by omega, fun h => ?_⟩
          rcases List.mem_cons.1 h with h | h
          · subst h; exact absurd rfl hab
          · have := i2 h; omega
  exact (key es.toList).2 he
section
variable {es : Array MapEntry} {M : Int × Int → Option Bt.Span} {seen : Array Nat} {R : List Bt.Reading} {clock : Nat}
theorem RdI.start : RdI es M #[] [] where
  inn := fun r hr => (by cases hr)
  out := fun e he hs => (by simp at hs)
  dst := List.Pairwise.nil
theorem same_born (km : KM kPlc spanV es clock M) {e e' : MapEntry} (he : e ∈ es.toList) (he' : e' ∈ es.toList) (h : e.born = e'.born) : e = e' := by
  obtain ⟨i, hi, rfl⟩ := List.mem_iff_getElem.1 he
  obtain ⟨j, hj, rfl⟩ := List.mem_iff_getElem.1 he'
  have hn := List.pairwise_iff_getElem.1 km.born
  have : i = j := by
    rcases Nat.lt_trichotomy i j with hlt | heq | hlt
    · exact absurd (by rw [List.getElem_map, List.getElem_map]; exact h) (hn i j (by simpa using hi) (by simpa using hj) hlt)
    · exact heq
    · exact absurd (by rw [List.getElem_map, List.getElem_map]; exact h.symm) (hn j i (by simpa using hj) (by simpa using hi) hlt)
  subst this; rfl
theorem RdI.skip (h : RdI es M seen R) (km : KM kPlc spanV es clock M) {e : MapEntry} {k : Int × Int} {x : Bt.Span} (he : e ∈ es.toList) (hk : e.key = pairW k) (hM : M k = some x) (hle : ¬ x.Lo ≤ x.Hi) : RdI es M (seen.push e.born) R where
  inn := fun r hr => let ⟨h1, h2, e', h3, h4, h5⟩ := h.inn r hr; ⟨h1, h2, e', h3, by rw [contains_push, h4]; rfl, h5⟩
  out := fun e' he' hs k' x' hk' hM' hle' => by
    rw [contains_push] at hs
    cases h4 : seen.contains e'.born with
    | true => exact h.out e' he' h4 k' x' hk' hM' hle'
    | false =>
      rw [h4, Bool.false_or] at hs
      have := same_born km he' he (by simpa using hs)
      subst this
      have hkk := pairW_inj (hk'.symm.trans hk)
      subst hkk
      rw [hM] at hM'
      obtain rfl := sJ hM'
      exact absurd hle' hle
  dst := h.dst
theorem RdI.add (h : RdI es M seen R) (km : KM kPlc spanV es clock M) {e : MapEntry} {k : Int × Int} {x : Bt.Span} (he : e ∈ es.toList) (hn : seen.contains e.born = false) (hk : e.key = pairW k) (hM : M k = some x) (hle : x.Lo ≤ x.Hi) : RdI es M (seen.push e.born) (R ++ [⟨k.2, k.1, x⟩]) where
  inn := fun r hr => by
    rcases List.mem_append.1 hr with hr | hr
    · obtain ⟨h1, h2, e', h3, h4, h5⟩ := h.inn r hr; exact ⟨h1, h2, e', h3, by rw [contains_push, h4]; rfl, h5⟩
    · obtain rfl := List.mem_singleton.1 hr
      exact ⟨hM, hle, e, he, by rw [contains_push]; simp, hk⟩
  out := fun e' he' hs k' x' hk' hM' hle' => by
    rw [contains_push] at hs
    cases h4 : seen.contains e'.born with
    | true => exact List.mem_append_left _ (h.out e' he' h4 k' x' hk' hM' hle')
    | false =>
      rw [h4, Bool.false_or] at hs
      have := same_born km he' he (by simpa using hs)
      subst this
      have hkk := pairW_inj (hk'.symm.trans hk)
      subst hkk
      rw [hM] at hM'
      obtain rfl := sJ hM'
      exact List.mem_append_right _ (by simp)
  dst := List.pairwise_append.2 ⟨h.dst, List.pairwise_singleton _ _, fun a ha b hb => by
    obtain rfl := List.mem_singleton.1 hb
    rintro ⟨e1, e2⟩
    obtain ⟨_, _, e', h3, h4, h5⟩ := h.inn a ha
    simp only at e1 e2
    rw [e1, e2] at h5
    have := entry_of_key km.dist h3 he (h5.trans hk.symm)
    subst this
    rw [hn] at h4; cases h4⟩
theorem RdI.mem (h : RdI es M seen R) (km : KM kPlc spanV es clock M) (hall : ∀ e ∈ es.toList, seen.contains e.born = true) (r : Bt.Reading) : r ∈ R ↔ M (r.Hour, r.Gauge) = some r.Value ∧ r.Value.Lo ≤ r.Value.Hi := by
  constructor
  · intro hr; exact ⟨(h.inn r hr).1, (h.inn r hr).2.1⟩
  · rintro ⟨h1, h2⟩
    obtain ⟨e, he, hk⟩ := km.has _ _ h1
    exact h.out e he (hall e he) _ _ hk h1 h2
end
theorem RdI.len {es : Array MapEntry} {seen : Array Nat} {R : List Bt.Reading} {b : Bt.Basin} {l : List Bt.Gram} {u v : Int} (h : RdI es (valM b l u v l) seen R) (hu : I64 u) (hv : I64 v) : R.length ≤ l.length := by
  have hn : (R.map fun r => (r.Hour, r.Gauge)).Nodup := by
    refine List.pairwise_map.2 (h.dst.imp fun {x y} hxy e => hxy ?_)
    simpa using e
  have := nodup_le (r := l.map (plc b)) hn fun p hp => by
    obtain ⟨r, hr, rfl⟩ := List.mem_map.1 hp
    exact (valM_facts hu hv (h.inn r hr).1).2.2.2.2
  simpa using this
theorem RdI.wf {es : Array MapEntry} {seen : Array Nat} {R : List Bt.Reading} {b : Bt.Basin} {l : List Bt.Gram} {u v : Int} (h : RdI es (valM b l u v l) seen R) (hu : I64 u) (hv : I64 v) : ∀ r ∈ R, I64 r.Gauge ∧ I64 r.Hour ∧ I64 r.Value.Lo ∧ I64 r.Value.Hi := fun r hr => by
  have := valM_facts hu hv (h.inn r hr).1
  exact ⟨this.2.1, this.1, this.2.2.1, this.2.2.2.1⟩
theorem rds_of {b : Bt.Basin} {l : List Bt.Gram} {u v : Int} {R d : List Bt.Reading} (hp : d.Perm R) (hs : d.Pairwise (fun x y => ltOf cR y x = false)) (hd : R.Pairwise fun x y => ¬ (x.Hour = y.Hour ∧ x.Gauge = y.Gauge)) (hm : ∀ r, r ∈ R ↔ valM b l u v l (r.Hour, r.Gauge) = some r.Value ∧ r.Value.Lo ≤ r.Value.Hi) : Rds b l u v d where
  srt := sortedR hs ((hp.pairwise_iff (fun {x y} h e => h ⟨e.1.symm, e.2.symm⟩)).2 hd)
  mem := fun r => by rw [hp.mem_iff, hm]; unfold IsR; rw [valM_iff]
end Se
namespace Go.Proofs.YtblfeidlnhdekaaGreat
open Go Go.K Go.RowKit
def T8 : ByteArray := bs [49, 50, 51, 52, 53, 54, 55, 56]
def gQ (b : Bt.Basin) (x : Bt.Look) : Bt.Gauge := b.Gauges.getD x.Gauge.toNat default
def offQ (b : Bt.Basin) (x : Bt.Look) : Int := max (-(gQ b x).Err) (min (gQ b x).Err x.Less)
def lateQ (b : Bt.Basin) (x : Bt.Look) : Int := max (-(gQ b x).Drift) (min (gQ b x).Drift x.More)
def SdOk (b : Bt.Basin) (z : Bt.State) (x : Bt.Look) : Prop := (0 ≤ x.Gauge ∧ x.Gauge < (b.Gauges.length : Int)) ∧ trK b x.Gauge = true ∧ (gQ b x).Drift ≤ 29 ∧ -1099511627776 ≤ trN b z x.Gauge + offQ b x ∧ trN b z x.Gauge + offQ b x ≤ 1099511627776
instance (b : Bt.Basin) (z : Bt.State) (x : Bt.Look) : Decidable (SdOk b z x) := inferInstanceAs (Decidable (_ ∧ _ ∧ _ ∧ _ ∧ _))
def sdG (b : Bt.Basin) (z : Bt.State) (x : Bt.Look) (n : Int) : Bt.Gram := ⟨x.Gauge, n, 60 * z.Hour + 30 + lateQ b x, trN b z x.Gauge + offQ b x, T8⟩
def sdTo (b : Bt.Basin) (z : Bt.State) (l : List Bt.Look) : Nat → List Bt.Gram
  | 0 => []
  | k + 1 => sdTo b z l k ++ if SdOk b z (l.getD k default) then [sdG b z (l.getD k default) k] else []
theorem sd_yes {b : Bt.Basin} {z : Bt.State} {l : List Bt.Look} {k : Nat} (h : SdOk b z (l.getD k default)) : sdTo b z l (k + 1) = sdTo b z l k ++ [sdG b z (l.getD k default) k] := by show _ ++ _ = _; rw [if_pos h]
theorem sd_no {b : Bt.Basin} {z : Bt.State} {l : List Bt.Look} {k : Nat} (h : ¬ SdOk b z (l.getD k default)) : sdTo b z l (k + 1) = sdTo b z l k := by show _ ++ _ = _; rw [if_neg h, List.append_nil]
theorem sd_mem {b : Bt.Basin} {z : Bt.State} {l : List Bt.Look} {t : Bt.Gram} : ∀ {k : Nat}, t ∈ sdTo b z l k → ∃ j, j < k ∧ SdOk b z (l.getD j default) ∧ t = sdG b z (l.getD j default) j
  | 0, h => by cases h
  | k + 1, h => by
    by_cases h1 : SdOk b z (l.getD k default)
    · rw [sd_yes h1] at h
      rcases List.mem_append.1 h with h | h
      · obtain ⟨j, h2, h3⟩ := sd_mem h; exact ⟨j, by omega, h3⟩
      · exact ⟨k, by omega, h1, List.mem_singleton.1 h⟩
    · rw [sd_no h1] at h
      obtain ⟨j, h2, h3⟩ := sd_mem h; exact ⟨j, by omega, h3⟩
theorem gauge_lim {b : Bt.Basin} (h : RGauges b) {q : Nat} (hq : q < b.Gauges.length) : (0 ≤ (b.Gauges.getD q default).Err ∧ (b.Gauges.getD q default).Err ≤ 1099511627776) ∧ 0 ≤ (b.Gauges.getD q default).Drift ∧ (b.Gauges.getD q default).Drift ≤ 1440 := by
  have h1 := (h q hq).1
  unfold gaugeBad at h1
  simp only [Bool.or_eq_false_iff, Bool.not_eq_false', decide_eq_true_eq] at h1
  omega
structure SendF (b : Bt.Basin) (z : Bt.State) : Prop where
  gl : b.Gauges.length ≤ 20
  lim : ∀ q, q < b.Gauges.length → (0 ≤ (b.Gauges.getD q default).Err ∧ (b.Gauges.getD q default).Err ≤ 1099511627776) ∧ 0 ≤ (b.Gauges.getD q default).Drift ∧ (b.Gauges.getD q default).Drift ≤ 1440
  h0 : 0 ≤ z.Hour
  h1 : z.Hour < 16777216
theorem light_send {b : Bt.Basin} {z : Bt.State} {y : Bt.Hull} (h : lightB b z y = true) (h24 : z.Hour < 16777216) : SendF b z := by
  unfold lightB at h
  simp only [Bool.and_eq_true, decide_eq_true_eq] at h
  obtain ⟨⟨⟨⟨⟨⟨h1, _⟩, _⟩, h2⟩, h3⟩, _⟩, h4⟩ := h
  obtain ⟨_, _, _, _, _, _, hga, _⟩ := right_f h2
  unfold stepB at h3
  simp only [Bool.and_eq_true, Bool.not_eq_true', decide_eq_true_eq] at h3
  refine ⟨by have := h1.2; unfold Fu.Few at h1; omega, fun q hq => gauge_lim hga hq, ?_, h24⟩
  have h5 := h3.1
  unfold stBad0 at h5
  simp only [Bool.or_eq_false_iff, decide_eq_false_iff_not] at h5
  omega
section
variable {b : Bt.Basin} {z : Bt.State} {l : List Bt.Look} {n : Nat}
theorem sdG_facts (h : SendF b z) {x : Bt.Look} (hx : SdOk b z x) : (0 ≤ (gQ b x).Err ∧ (gQ b x).Err ≤ 1099511627776) ∧ (0 ≤ (gQ b x).Drift ∧ (gQ b x).Drift ≤ 29) ∧ (-(gQ b x).Err ≤ offQ b x ∧ offQ b x ≤ (gQ b x).Err) ∧ (-(gQ b x).Drift ≤ lateQ b x ∧ lateQ b x ≤ (gQ b x).Drift) := by
  have h1 := h.lim x.Gauge.toNat (by have := hx.1; omega)
  have h2 := hx.2.2.1
  unfold offQ lateQ
  unfold gQ at h2 ⊢
  omega
theorem sd_right (h : SendF b z) {x : Bt.Look} (hx : SdOk b z x) (hn : n ≤ 1000) : Se.Right b.Gauges.length (sdG b z x n) := by
  have f := sdG_facts h hx
  have h0 := h.h0; have h1 := h.h1; have hg := h.gl
  obtain ⟨⟨a1, a2⟩, _, _, a3, a4⟩ := hx
  unfold Se.Right sdG
  dsimp only
  refine ⟨by omega, by omega, by omega, by omega, rfl, a2⟩
theorem sd_true (h : SendF b z) {x : Bt.Look} (hx : SdOk b z x) (hs : Se.Sure (Se.gOf b (sdG b z x n)) (sdG b z x n)) :
    Se.hourT (Se.gOf b (sdG b z x n)) (sdG b z x n) = z.Hour ∧ (Se.loT b (sdG b z x n) ≤ trN b z x.Gauge ∧ -2199023255552 ≤ Se.loT b (sdG b z x n)) ∧ (trN b z x.Gauge ≤ Se.hiT b (sdG b z x n) ∧ Se.hiT b (sdG b z x n) ≤ 2199023255552) := by
  have f := sdG_facts h hx
  have e : Se.gOf b (sdG b z x n) = gQ b x := rfl
  obtain ⟨_, _, hs⟩ := hs
  unfold Se.hourT Se.loT Se.hiT Se.subS Se.addS
  rw [e] at hs ⊢
  obtain ⟨_, _, _, a3, a4⟩ := hx
  have c : (sdG b z x n).Clock = 60 * z.Hour + 30 + lateQ b x := rfl
  have v : (sdG b z x n).Value = trN b z x.Gauge + offQ b x := rfl
  rw [c] at hs ⊢
  rw [v]
  refine ⟨by omega, ?_, ?_⟩
  · split <;> (try split) <;> omega
  · split <;> (try split) <;> omega
theorem sdR_true (h : SendF b z) (_ : n ≤ 1000) {u v : Int} {r : Bt.Reading} (hr : Se.IsR b (sdTo b z l n) u v r) :
    (0 ≤ r.Gauge ∧ r.Gauge < (b.Gauges.length : Int)) ∧ trK b r.Gauge = true ∧ (r.Value.Lo ≤ trN b z r.Gauge ∧ -2199023255552 ≤ r.Value.Lo) ∧ (trN b z r.Gauge ≤ r.Value.Hi ∧ r.Value.Hi ≤ 2199023255552) := by
  obtain ⟨t, ⟨hm, hu, hp⟩, e1⟩ := hr.1.lo
  obtain ⟨t', ⟨hm', hu', hp'⟩, e2⟩ := hr.1.hi
  obtain ⟨i, _, hx, rfl⟩ := sd_mem hm
  obtain ⟨j, _, hx', rfl⟩ := sd_mem hm'
  have k1 := sd_true h hx hu.2.2.1
  have k2 := sd_true h hx' hu'.2.2.1
  have g1 : (l.getD i default).Gauge = r.Gauge := (Prod.mk.inj hp).2
  have g2 : (l.getD j default).Gauge = r.Gauge := (Prod.mk.inj hp').2
  rw [e1, g1] at k1
  rw [e2, g2] at k2
  rw [← g1]
  refine ⟨hx.1, hx.2.1, ?_⟩
  rw [g1]
  exact ⟨k1.2.1, k2.2.2⟩
theorem LightF.truthR {y : Bt.Hull} (h : LightF b z y) {r : Bt.Reading} (a : 0 ≤ r.Gauge ∧ r.Gauge < (b.Gauges.length : Int)) (_ : trK b r.Gauge = true) (hlo : r.Value.Lo ≤ trN b z r.Gauge ∧ -2199023255552 ≤ r.Value.Lo) (hhi : trN b z r.Gauge ≤ r.Value.Hi ∧ r.Value.Hi ≤ 2199023255552) : Fu.TrueR b y.Vol.length y.Links.length (volZ z) (posZ z) r := by
  obtain ⟨a1, a2⟩ := a
  have hgin : Fu.inG b.Gauges r.Gauge := ⟨a1, a2⟩
  have hga : Fu.gaugeAt b.Gauges r.Gauge = b.Gauges.getD r.Gauge.toNat default := by unfold Fu.gaugeAt; rw [if_pos hgin]
  have hq : r.Gauge.toNat < b.Gauges.length := by omega
  have hv := h.vl
  have hk := h.kl
  have g0 := h.g0 _ hq
  have g2 := h.g2 _ hq
  constructor
  · intro hk1
    have h0 : (b.Gauges.getD r.Gauge.toNat default).Kind = 0 := by
      unfold Fu.kindOf at hk1
      rw [hga] at hk1
      split at hk1
      · cases hk1
      · split at hk1
        · rename_i h9; exact h9.1
        · split at hk1 <;> cases hk1
    have t := g0 h0
    have hR := h.lev (b.Gauges.getD r.Gauge.toNat default).Target.toNat (by omega)
    have hvo : Fu.VolOk b r := ⟨hgin, by rw [show Fu.gaugeAt b.Gauges _ = _ from hga]; exact h0, by rw [show Fu.gaugeAt b.Gauges _ = _ from hga]; exact t.1, by rw [show Fu.gaugeAt b.Gauges _ = _ from hga]; exact t.2⟩
    rw [Fu.volR_yes hvo]
    unfold Fu.tgt Fu.levelOf
    rw [hga]
    have hn : trN b z r.Gauge = Fu.atC (b.Places.getD (b.Gauges.getD r.Gauge.toNat default).Target.toNat default).Level (volZ z (b.Gauges.getD r.Gauge.toNat default).Target.toNat) := if_pos h0
    have hvr := h.vrng (b.Gauges.getD r.Gauge.toNat default).Target.toNat (by omega)
    refine ⟨by omega, (Fu.vol_mem hR (by omega) (by omega) hvr.1 hvr.2).2 (by omega)⟩
  · intro hk2
    have h2 : (b.Gauges.getD r.Gauge.toNat default).Kind = 2 := by
      unfold Fu.kindOf at hk2
      rw [hga] at hk2
      split at hk2
      · cases hk2
      · split at hk2
        · cases hk2
        · split at hk2
          · rename_i h9; exact h9.1
          · cases hk2
    have t := g2 h2
    have hn : trN b z r.Gauge = posZ z (b.Gauges.getD r.Gauge.toNat default).Target.toNat := if_neg (by omega)
    unfold Fu.tgt
    rw [hga]
    refine ⟨by omega, by omega, by omega⟩
theorem truR_lo {q : Int} (h : trK b q = true) : (truR b z q 0 0).Value.Lo = trN b z q := by
  rw [show truR b z q 0 0 = ⟨q, z.Hour, ⟨trN b z q - 0, trN b z q + 0⟩⟩ from if_pos h]
  show _ - 0 = _; omega
theorem LightF.trN_rng {y : Bt.Hull} (h : LightF b z y) {q : Int} (hq : 0 ≤ q ∧ q < (b.Gauges.length : Int)) (ht : trK b q = true) : 0 ≤ trN b z q ∧ trN b z q ≤ 1125899906842624 := by
  unfold trN
  unfold trK at ht
  have ht := odT ht
  split
  · exact at_rng_any _ _
  · have g := h.g2 q.toNat (by omega) (by omega)
    have p := h.pos (b.Gauges.getD q.toNat default).Target.toNat (by omega)
    unfold posZ at p
    omega
theorem sd_rds {y : Bt.Hull} (hL : LightF b z y) (h : SendF b z) (hn : n ≤ 1000) {u v : Int} {R : List Bt.Reading} (hR : Se.Rds b (sdTo b z l n) u v R) : ∀ r ∈ R, Fu.TrueR b y.Vol.length y.Links.length (volZ z) (posZ z) r := fun r hr => by
  have k := sdR_true h hn ((hR.mem r).1 hr)
  exact hL.truthR k.1 k.2.1 k.2.2.1 k.2.2.2
theorem gram_wf (h : SendF b z) {x : Bt.Look} (hx : SdOk b z x) (hn : n ≤ 1000) : I64 (sdG b z x n).Gauge ∧ I64 (sdG b z x n).Seq ∧ I64 (sdG b z x n).Clock ∧ I64 (sdG b z x n).Value ∧ (sdG b z x n).Tag.size ≤ maxLen := by
  have r := sd_right h hx hn
  obtain ⟨r1, r2, r3, r4, _⟩ := r
  unfold I64
  exact ⟨by omega, by omega, by omega, by omega, by show (8 : Nat) ≤ maxLen; decide⟩
theorem sd_wf (h : SendF b z) (hn : n ≤ 1000) {t : Bt.Gram} (ht : t ∈ sdTo b z l n) : I64 t.Gauge ∧ I64 t.Seq ∧ I64 t.Clock ∧ I64 t.Value ∧ t.Tag.size ≤ maxLen := by
  obtain ⟨j, hj, hx, rfl⟩ := sd_mem ht
  exact gram_wf h hx (by omega)
theorem sd_val {t : Bt.Gram} (ht : t ∈ sdTo b z l n) : -1099511627776 ≤ t.Value ∧ t.Value ≤ 1099511627776 := by
  obtain ⟨j, _, hx, rfl⟩ := sd_mem ht
  exact hx.2.2.2
theorem rds_twice {G rest : List Bt.Gram} {e g : Bt.Gram} {u v : Int} {R R' : List Bt.Reading} (he : e ∈ G) (h1 : g.Gauge = e.Gauge) (h2 : g.Seq = e.Seq) (h3 : g ≠ e) (hrest : ∀ t : Bt.Gram, t ∈ rest ↔ t ∈ G ∧ t.Gauge ≠ e.Gauge) (hR : Se.Rds b (G ++ [g]) u v R) (hR' : Se.Rds b rest u v R') : R = R' :=
  hR.unique hR' fun r => by
    rw [Se.isR_void he h1 h2 h3]
    constructor
    · rintro ⟨a, c⟩
      exact (Se.isR_part fun t ht => by rw [hrest, ht]; exact ⟨fun q => ⟨q, c⟩, fun q => q.1⟩).1 a
    · intro a
      have c : r.Gauge ≠ e.Gauge := by
        obtain ⟨t, ht⟩ := Se.isR_at a
        have hg := Se.at_gauge ht
        have := ((hrest t).1 ht.1).2
        intro hh; exact this (hg.trans hh)
      exact ⟨(Se.isR_part fun t ht => by rw [hrest, ht]; exact ⟨fun q => ⟨q, c⟩, fun q => q.1⟩).2 a, c⟩
end
end Go.Proofs.YtblfeidlnhdekaaGreat
namespace Go.Proofs.YtblfeidlnhdekaaGreat.Sr
open Go Go.K Go.RowKit
attribute [local irreducible] AW RW DW Post Qt
theorem isNaN_c (w : World) (Φ : Hp) (hΦ : Hp.le Φ (hp w)) {x : Int} :
  Calls pg 71 #[iV x] w fun e w' => e = .returned (.bool false) ∧ Bel w.heap.size w w' := by
 refine in1 6 Tryz.func71 rfl rfl hΦ ?_
 refine gs14 ?_
 exact fin_val (v' := .bool (!decide (x = x))) rfl rfl rfl (by simp)
theorem Compare_c (w : World) (Φ : Hp) (hΦ : Hp.le Φ (hp w)) {x y : Int} :
  Calls pg 29 #[iV x, iV y] w fun e w' => e = .returned (iV (Se.cI x y)) ∧ Bel w.heap.size w w' := by
 refine in2 20 Tryz.func29 rfl rfl hΦ ?_
 refine gs8 ?_
 refine RW.c rfl (fun w1 hw1 => isNaN_c w1 (Go.K.hp w1) (Hp.le_refl _)) rfl rfl ?_
 refine gs6 ?_
 refine RW.c rfl (fun w1 hw1 => isNaN_c w1 (Go.K.hp w1) (Hp.le_refl _)) rfl rfl ?_
 refine gs9 ?_
 refine AW.condF rfl ?_
 refine gs8 ?_
 refine AW.condF rfl ?_
 refine gs10 ?_
 refine AW.cond rfl (fun hc3 => ?_) fun hc3 => ?_
 ·
  simp [-List.getD_eq_getElem?_getD] at hc3
  refine gs7 ?_
  exact fin_val (v' := iV (-1)) rfl rfl rfl (by unfold Se.cI; rw [if_pos (by omega)])
 ·
  simp [-List.getD_eq_getElem?_getD] at hc3
  refine gs10 ?_
  refine AW.cond rfl (fun hc4 => ?_) fun hc4 => ?_
  ·
   simp [-List.getD_eq_getElem?_getD] at hc4
   refine gs7 ?_
   exact fin_val (v' := iV 1) rfl rfl rfl (by unfold Se.cI; rw [if_neg (by omega), if_pos (by omega)])
  ·
   simp [-List.getD_eq_getElem?_getD] at hc4
   refine gs8 ?_
   exact fin_val (v' := iV 0) rfl rfl rfl (by unfold Se.cI; rw [if_neg (by omega), if_neg (by omega)])
theorem Or_c (w : World) (Φ : Hp) (hΦ : Hp.le Φ (hp w)) {xs : List Int} {v1 : Value} (h1 : RepSl Φ xs v1) :
  Calls pg 28 #[v1] w fun e w' => e = .returned (iV (Se.orL xs)) ∧ Bel w.heap.size w w' := by
 refine in1 18 Tryz.func28 rfl rfl hΦ ?_
 have hm1 : xs.length * 8 ≤ 140737488355328 := h1.max
 refine gs19 ?_
 refine AW.lp (fun s J m => ∃ (k : Nat), s = [(3, iV 0), (6, v1), (7, iV (xs.length : Int)), (8, iV (k : Int))] ∧ J = St ⟨w, Φ, []⟩ Φ [] ∧ m = xs.length - k ∧ (k ≤ xs.length) ∧ (∀ j, j < k → xs.getD j 0 = 0)) ⟨0, rfl, rfl, rfl, (by omega), (by omega)⟩ ?_
 rintro _ _ _ _ ⟨k, rfl, rfl, rfl, hk, hz⟩
 refine gs6 ?_
 refine AW.cond rfl (fun hc1 => ?_) fun hc1 => ?_
 ·
  simp [-List.getD_eq_getElem?_getD] at hc1
  refine gs7 ?_
  refine RW.q (v := iV (xs.getD k 0)) rfl (q_load rfl uT3 rfl (Cell.repInt h1 (by omega))) ?_
  refine gs10 ?_
  refine AW.cond rfl (fun hc2 => ?_) fun hc2 => ?_
  ·
   simp [-List.getD_eq_getElem?_getD] at hc2
   refine gs12 ?_
   exact fin_val (v' := iV (xs.getD k 0)) rfl rfl rfl (by rw [Se.orL_hit (by omega) hz hc2])
  ·
   simp [-List.getD_eq_getElem?_getD] at hc2
   refine gs7 ?_
   exact Post.bk ⟨k + 1, rfl, rfl, rfl, (by omega), (Se.lt_succ hz (by omega))⟩
 ·
  simp [-List.getD_eq_getElem?_getD] at hc1
  refine gs12 ?_
  exact fin_val (v' := iV 0) rfl rfl rfl (by rw [Se.orL_miss (fun j hj => hz j (by omega))])
theorem cmpR_c (w : World) (Φ : Hp) (hΦ : Hp.le Φ (hp w)) {x y : Bt.Reading} :
  Calls pg 27 #[.agg #[iV x.Gauge, iV x.Hour, iV x.Value.Lo, iV x.Value.Hi], .agg #[iV y.Gauge, iV y.Hour, iV y.Value.Lo, iV y.Value.Hi]] w fun e w' => e = .returned (iV (Se.cR x y)) ∧ Bel w.heap.size w w' := by
 refine in2 17 Tryz.func27 rfl rfl hΦ ?_
 refine gs2 ?_
 refine RW.bxA rfl rfl fun b1 => ?_
 refine RW.bxA rfl rfl fun b2 => ?_
 refine gs4 ?_
 refine AW.draw (J0 := St ⟨w, Φ, []⟩ Φ [.blk b2 53 [iV y.Gauge, iV y.Hour, iV y.Value.Lo, iV y.Value.Hi], .blk b1 53 [iV x.Gauge, iV x.Hour, iV x.Value.Lo, iV x.Value.Hi]]) [.q, .q, .q, .q, .q, .q, .q, .q, .q, .q, .e, .e, .q] [0, 1, 2, 3, 4, 5, 6, 7, 8, 9, 10, 11, 12] hmix (by kernel_rfl) ?_
 refine gs4 ?_
 refine DW.c (fun _ h => h) rfl (fun w1 hw1 => Compare_c w1 (Go.K.hp w1) (Hp.le_refl _)) rfl rfl ?_
 refine gs4 ?_
 refine DW.c (fun _ h => h) rfl (fun w1 hw1 => Compare_c w1 (Go.K.hp w1) (Hp.le_refl _)) rfl rfl (DW.eff (fun b3 : Nat => (.slice (some ⟨b3, 0, none⟩) 2 2)) (fun b3 => St ⟨w, Φ, []⟩ Φ [.row (.slice (some ⟨b3, 0, none⟩) 2 2) 3 1 2 ([iV (Se.cI x.Hour y.Hour), iV (Se.cI x.Gauge y.Gauge)]), .blk b2 53 [iV y.Gauge, iV y.Hour, iV y.Value.Lo, iV y.Value.Hi], .blk b1 53 [iV x.Gauge, iV x.Hour, iV x.Value.Lo, iV x.Value.Hi]]) (fun _ _ => (fun _ h => (StP.drop h (by exact .cons _ (.cons_cons _ (.cons_cons _ (.slnil))))))) rfl (e_buildSlice (vals := [(0, iV (Se.cI x.Hour y.Hour)), (1, iV (Se.cI x.Gauge y.Gauge))]) (cells := [iV (Se.cI x.Hour y.Hour), iV (Se.cI x.Gauge y.Gauge)]) uT29 inf3 rfl rfl rfl (by kernel_rfl) rfl) ?_)
 intro b3
 refine DW.qe (v := iV (Se.orL ([Se.cI x.Hour y.Hour, Se.cI x.Gauge y.Gauge] : List Int))) (fun _ => (fun _ h => (StP.drop h (by exact .cons _ (.cons_cons _ (.cons_cons _ (.slnil))))))) rfl (q_call (args := #[(.slice (some ⟨b3, 0, none⟩) 2 2)]) oK rfl rfl (fun w1 hw1 => Or_c w1 (Go.K.hp w1) (Hp.le_refl _) (RowS.ints (xs := [Se.cI x.Hour y.Hour, Se.cI x.Gauge y.Gauge]) (show RowS (Go.K.hp w1) (.slice (some ⟨b3, 0, none⟩) 2 2) 3 1 (2) ([iV (Se.cI x.Hour y.Hour), iV (Se.cI x.Gauge y.Gauge)]) from hw1.sAt 0 rfl) (by decide) (Se.wf2 _ _ _ _)))) (DW.q (v := iV (Se.orL ([Se.cI x.Hour y.Hour, Se.cI x.Gauge y.Gauge] : List Int))) (fun _ h => (StP.drop h (by exact .cons _ (.cons_cons _ (.cons_cons _ (.slnil)))))) rfl (q_assign rfl) ?_)
 refine gs3 ?_
 exact fin_val (v' := iV (Se.orL ([Se.cI x.Hour y.Hour, Se.cI x.Gauge y.Gauge] : List Int))) rfl rfl rfl (by rw [Se.cR_or])
end Go.Proofs.YtblfeidlnhdekaaGreat.Sr
namespace Go.Proofs
open Go.Shelf Go.RowKit Go.Lib Go.Sort
shelf_lay_g SlLaysF0.n6 Slsf 6 at Tryz 26 as Tryz.sortR
end Go.Proofs
namespace Go.Proofs.YtblfeidlnhdekaaGreat.Sr
open Go Go.K Go.RowKit Go.Sort Go.Proofs
attribute [local irreducible] AW RW DW Post Qt
theorem sortR_c {B : Bs} {Φ : Hp} {C : List Chunk} {v : Value} {n : Nat} {L : List Bt.Reading} (hL : L.length = n) (hn : n ≤ 1000000) (w : World) (hW : (St B Φ (.row v 53 4 n (flat L) :: C)).p w) :
  Calls pg 26 #[v, .func (.func 27) #[] #[]] w fun e w' => ∃ d : {d : List Bt.Reading // d.Perm L ∧ d.Pairwise (fun x y => ltOf Se.cR y x = false)}, e = .returned (.tuple #[]) ∧ (St B Φ (.row v 53 4 n (flat d.1) :: C)).p w' := by
 have hs : RowS (hp w) v 53 4 n (flat L) := hW.sat _ (List.mem_cons_self ..)
 rcases hs.2 with ⟨rfl, h0⟩ | ⟨g, cap, cur, rfl, h2, h3, h4, h5, h6⟩
 ·
  subst h0
  obtain rfl : L = [] := List.length_eq_zero_iff.1 hL
  have h := AnyF.slices_SortFunc_none Tryz.sortR none 0 (.func (.func 27) #[] #[]) w
  change Calls pg 26 _ _ _ at h
  exact h.mono fun e w' ⟨he, hw⟩ => ⟨⟨[], List.Perm.refl _, List.Pairwise.nil⟩, he, by rw [hw]; exact hW⟩
 ·
  have eg : ∀ args w, (callFunc 27 args).run pg w = .ok (.enter 27 args) w := enters_of Tryz.func27 (by kernel_rfl) rfl
  have hb : g < w.heap.size := lt_of_some h2
  have hH := holdsK_row (α := Bt.Reading) even53 hL hs
  have h := AnyQ.slices_SortFunc Tryz.sortR 4 Tryz.isAgg53 Tryz.sizeOf53 (RepE.cells (α := Bt.Reading)) even53 (fun x u hu => by
   simp only [RepE.cells, List.mem_cons, List.not_mem_nil, or_false] at hu
   rcases hu with rfl | rfl | rfl | rfl <;> rfl) Se.cR Se.swoR 27 #[] g 0 cap L.toArray w eg (cmpLays_of fun W x y => cmpR_c W (hp W) (Hp.le_refl _)) hH hb (by rw [List.size_toArray]; omega)
  change Calls pg 26 _ _ _ at h
  rw [List.size_toArray, hL] at h
  refine h.mono fun e w' ⟨he, d', m, os, hp', hs', hw⟩ => ?_
  have hds : d'.size = n := by rw [hp'.1, List.size_toArray, hL]
  refine ⟨⟨d'.toList, perm_of_permIn (by rw [List.size_toArray, hL]; exact hp'), pairwise_of_sortedIn (by rw [hds]; exact hs')⟩, he, ?_⟩
  rw [hw]
  exact StP.sorted even53 hW 0 rfl hds
end Go.Proofs.YtblfeidlnhdekaaGreat.Sr
namespace Se
def Formed (t : Bt.Gram) : Prop := (0 ≤ t.Gauge ∧ t.Gauge ≤ 127) ∧ (0 ≤ t.Seq ∧ t.Seq ≤ 1099511627776) ∧ (0 ≤ t.Clock ∧ t.Clock ≤ 1006633019) ∧ (-1099511627776 ≤ t.Value ∧ t.Value ≤ 1099511627776) ∧ t.Tag.data.toList.length = 8
instance (t : Bt.Gram) : Decidable (Formed t) := inferInstanceAs (Decidable (_ ∧ _ ∧ _ ∧ _ ∧ _))
theorem formed_iff (t : Bt.Gram) : ((decide (max 0 (min 127 t.Gauge) = t.Gauge) && decide (max 0 (min 1099511627776 t.Seq) = t.Seq) && decide (max 0 (min 1006633019 t.Clock) = t.Clock) && decide (max (-1099511627776) (min 1099511627776 t.Value) = t.Value)) && decide ((t.Tag.data.toList.length : Int) = 8)) = decide (Formed t) := by
  rw [Bool.eq_iff_iff]
  simp only [Bool.and_eq_true, decide_eq_true_eq]
  unfold Formed
  constructor
  · rintro ⟨⟨⟨⟨h1, h2⟩, h3⟩, h4⟩, h5⟩
    exact ⟨by omega, by omega, by omega, by omega, by omega⟩
  · rintro ⟨h1, h2, h3, h4, h5⟩
    exact ⟨⟨⟨⟨by omega, by omega⟩, by omega⟩, by omega⟩, by omega⟩
theorem right_iff (n : Nat) (t : Bt.Gram) : (decide (Formed t) && decide (t.Gauge < (n : Int))) = decide (Right n t) := by
  rw [Bool.eq_iff_iff]
  simp only [Bool.and_eq_true, decide_eq_true_eq]
  unfold Formed Right
  constructor
  · rintro ⟨⟨h1, h2, h3, h4, h5⟩, h6⟩; exact ⟨h1, h2, h3, h4, h5, h6⟩
  · rintro ⟨h1, h2, h3, h4, h5, h6⟩; exact ⟨⟨h1, h2, h3, h4, h5⟩, h6⟩
def Few (l : List Bt.Gram) : Prop := (∀ j, j < l.length → (l.getD j default).Tag.size ≤ 100) ∧ l.length ≤ 60
instance (l : List Bt.Gram) : Decidable (Few l) := inferInstanceAs (Decidable ((∀ j, j < l.length → _) ∧ _))
theorem gram_eqP {x y : Bt.Gram} (h : (((x.Gauge = y.Gauge ∧ x.Seq = y.Seq) ∧ x.Clock = y.Clock) ∧ x.Value = y.Value) ∧ x.Tag.data = y.Tag.data) : x = y := gram_ext h.1.1.1.1 h.1.1.1.2 h.1.1.2 h.1.2 (by rw [h.2])
theorem mem_t {α : Type} [Inhabited α] {xs : List α} {v : α} {k : Nat} (hk : k < xs.length) (h : xs.getD k default = v) : v ∈ xs := by
  rw [← h]; exact getD_mem hk
theorem mem_f {α : Type} [Inhabited α] {xs : List α} {v : α} (h : ∀ j, j < xs.length → xs.getD j default ≠ v) : v ∉ xs := fun hm => by
  obtain ⟨i, hi, e⟩ := List.mem_iff_getElem.1 hm
  have := h i hi
  rw [gDD, List.getElem?_eq_getElem hi] at this
  exact this e
end Se
