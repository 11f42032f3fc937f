/- Plain facts: the loop over the map of values, the readings it makes. Conditions: those of each theorem. -/
import Derived.Test.YtlljbndnodbecaaPlainF
import Derived.Test.YtlljbndnodbecaaKeys
import Derived.Test.YtlljbndnodbecaaCore13
namespace Se
open Go Go.K Go.Proofs Go.Proofs.Ytlljbndnodbecaa
theorem nodup_le {α : Type} [DecidableEq α] : ∀ {l r : List α}, l.Nodup → (∀ x ∈ l, x ∈ r) → l.length ≤ r.length
  | [], _, _, _ => Nat.zero_le _
  | x :: l, r, hn, h => by
    obtain ⟨h1, h2⟩ := List.nodup_cons.1 hn
    have hx := h x (by simp)
    have := nodup_le (l := l) (r := r.erase x) h2 fun y hy => (List.mem_erase_of_ne (fun e => h1 (by rw [← e]; exact hy))).2 (h y (by simp [hy]))
    have h3 := List.length_erase_of_mem hx
    have h4 := List.length_pos_of_mem hx
    simp only [List.length_cons]
    omega
def hr (g : Bt.Gauge) (t : Bt.Gram) : Int := if 0 ≤ g.Drift ∧ g.Drift < 60 then hourT g t else 0
theorem hr_sure {g : Bt.Gauge} {t : Bt.Gram} (h : Sure g t) : hr g t = hourT g t := by unfold hr; rw [if_pos ⟨h.1, h.2.1⟩]
theorem val_put {b : Bt.Basin} {l L : List Bt.Gram} {u v : Int} {t : Bt.Gram} (h : Use b l u v t) {o : Option Bt.Span} (ho : valM b l u v L (hr (gOf b t) t, t.Gauge) = o) {s : Bt.Span} (hs : joinV o (loT b t) (hiT b t) = s) :
    (fun j => if j = (hr (gOf b t) t, t.Gauge) then some s else valM b l u v L j) = valM b l u v (L ++ [t]) := by
  rw [valM_use h]
  have hp : plc b t = (hr (gOf b t) t, t.Gauge) := by unfold plc; rw [hr_sure h.2.2.1]
  rw [hp, ho, hs]
theorem valM_nil (b : Bt.Basin) (l : List Bt.Gram) (u v : Int) : valM b l u v [] = fun _ => none := by funext k; rfl
theorem subS_rng (x y : Int) : I64 (subS x y) := by unfold subS I64; split <;> (try split) <;> omega
theorem addS_rng (x y : Int) : I64 (addS x y) := by unfold addS I64; split <;> (try split) <;> omega
/-- what a value of the map tells -/
theorem valM_facts {b : Bt.Basin} {l : List Bt.Gram} {u v : Int} {k : Int × Int} {s : Bt.Span} (hu : I64 u) (hv : I64 v) (h : valM b l u v l k = some s) : I64 k.1 ∧ I64 k.2 ∧ I64 s.Lo ∧ I64 s.Hi ∧ k ∈ l.map (plc b) := by
  have hi := valM_iff.1 h
  obtain ⟨t, ht, hlo⟩ := hi.lo
  obtain ⟨t', ht', hhi⟩ := hi.hi
  obtain ⟨h1, h2, h3⟩ := ht
  have e1 : k = plc b t := h3.symm
  have r := h2.1
  unfold Right at r
  have g1 := h2.2.2.2.1
  have g2 := h2.2.2.2.2
  refine ⟨?_, ?_, by rw [← hlo]; exact subS_rng _ _, by rw [← hhi]; exact addS_rng _ _, List.mem_map.2 ⟨t, h1, h3⟩⟩
  · rw [e1]; unfold plc; simp only; unfold I64 at *; omega
  · rw [e1]; unfold plc; simp only; unfold I64; omega
structure RdI (es : Array MapEntry) (M : Int × Int → Option Bt.Span) (seen : Array Nat) (R : List Bt.Reading) : Prop where
  inn : ∀ r ∈ R, M (r.Hour, r.Gauge) = some r.Value ∧ r.Value.Lo ≤ r.Value.Hi ∧ ∃ e ∈ es.toList, seen.contains e.born = true ∧ e.key = pairV (r.Hour, r.Gauge)
  out : ∀ e ∈ es.toList, seen.contains e.born = true → ∀ k x, e.key = pairV k → M k = some x → x.Lo ≤ x.Hi → (⟨k.2, k.1, x⟩ : Bt.Reading) ∈ R
  dst : R.Pairwise fun x y => ¬ (x.Hour = y.Hour ∧ x.Gauge = y.Gauge)
def left (es : Array MapEntry) (seen : Array Nat) : Nat := (es.toList.filter fun e => !seen.contains e.born).length
theorem contains_push (seen : Array Nat) (a c : Nat) : (seen.push a).contains c = (seen.contains c || c == a) := by
  rw [Bool.eq_iff_iff]; simp
theorem left_lt {es : Array MapEntry} {seen : Array Nat} {e : MapEntry} (he : e ∈ es.toList) (hn : seen.contains e.born = false) : left es (seen.push e.born) < left es seen := by
  unfold left
  have key : ∀ l : List MapEntry, (l.filter fun e' => !(seen.push e.born).contains e'.born).length ≤ (l.filter fun e' => !seen.contains e'.born).length ∧ (e ∈ l → (l.filter fun e' => !(seen.push e.born).contains e'.born).length < (l.filter fun e' => !seen.contains e'.born).length) := by
    intro l
    induction l with
    | nil => exact ⟨Nat.le_refl _, fun h => by cases h⟩
    | cons a l ih =>
      obtain ⟨i1, i2⟩ := ih
      have hp := contains_push seen e.born a.born
      cases hs : seen.contains a.born with
      | true =>
        rw [hs, Bool.true_or] at hp
        have e1 : ((a :: l).filter fun e' => !(seen.push e.born).contains e'.born) = l.filter fun e' => !(seen.push e.born).contains e'.born := List.filter_cons_of_neg (by rw [hp]; simp)
        have e2 : ((a :: l).filter fun e' => !seen.contains e'.born) = l.filter fun e' => !seen.contains e'.born := List.filter_cons_of_neg (by rw [hs]; simp)
        rw [e1, e2]
        refine ⟨i1, fun h => ?_⟩
        rcases List.mem_cons.1 h with h | h
        · subst h; rw [hn] at hs; cases hs
        · exact i2 h
      | false =>
        have e2 : ((a :: l).filter fun e' => !seen.contains e'.born) = a :: l.filter fun e' => !seen.contains e'.born := List.filter_cons_of_pos (by rw [hs]; simp)
        rw [e2]
        by_cases hab : a.born = e.born
        · have e1 : ((a :: l).filter fun e' => !(seen.push e.born).contains e'.born) = l.filter fun e' => !(seen.push e.born).contains e'.born := List.filter_cons_of_neg (by rw [hp, hab]; simp)
          rw [e1]
          simp only [List.length_cons]
          exact ⟨by omega, fun _ => by omega⟩
        · have e1 : ((a :: l).filter fun e' => !(seen.push e.born).contains e'.born) = a :: l.filter fun e' => !(seen.push e.born).contains e'.born := List.filter_cons_of_pos (by rw [hp, hs]; simp [hab])
          rw [e1]
          simp only [List.length_cons]
          refine ⟨by omega, fun h => ?_⟩
          rcases List.mem_cons.1 h with h | h
          · subst h; exact absurd rfl hab
          · have := i2 h; omega
  exact (key es.toList).2 he
section
variable {es : Array MapEntry} {M : Int × Int → Option Bt.Span} {seen : Array Nat} {R : List Bt.Reading} {clock : Nat}
theorem RdI.start : RdI es M #[] [] where
  inn := fun r hr => (by cases hr)
  out := fun e he hs => (by simp at hs)
  dst := List.Pairwise.nil
theorem same_born (km : KM kPlc spanV es clock M) {e e' : MapEntry} (he : e ∈ es.toList) (he' : e' ∈ es.toList) (h : e.born = e'.born) : e = e' := by
  obtain ⟨i, hi, rfl⟩ := List.mem_iff_getElem.1 he
  obtain ⟨j, hj, rfl⟩ := List.mem_iff_getElem.1 he'
  have hn := List.pairwise_iff_getElem.1 km.born
  have : i = j := by
    rcases Nat.lt_trichotomy i j with hlt | heq | hlt
    · exact absurd (by rw [List.getElem_map, List.getElem_map]; exact h) (hn i j (by simpa using hi) (by simpa using hj) hlt)
    · exact heq
    · exact absurd (by rw [List.getElem_map, List.getElem_map]; exact h.symm) (hn j i (by simpa using hj) (by simpa using hi) hlt)
  subst this; rfl
theorem RdI.skip (h : RdI es M seen R) (km : KM kPlc spanV es clock M) {e : MapEntry} {k : Int × Int} {x : Bt.Span} (he : e ∈ es.toList) (hk : e.key = pairV k) (hM : M k = some x) (hle : ¬ x.Lo ≤ x.Hi) : RdI es M (seen.push e.born) R where
  inn := fun r hr => let ⟨h1, h2, e', h3, h4, h5⟩ := h.inn r hr; ⟨h1, h2, e', h3, by rw [contains_push, h4]; rfl, h5⟩
  out := fun e' he' hs k' x' hk' hM' hle' => by
    rw [contains_push] at hs
    cases h4 : seen.contains e'.born with
    | true => exact h.out e' he' h4 k' x' hk' hM' hle'
    | false =>
      rw [h4, Bool.false_or] at hs
      have := same_born km he' he (by simpa using hs)
      subst this
      have hkk := pairV_inj (hk'.symm.trans hk)
      subst hkk
      rw [hM] at hM'
      obtain rfl := Option.some.inj hM'
      exact absurd hle' hle
  dst := h.dst
theorem RdI.add (h : RdI es M seen R) (km : KM kPlc spanV es clock M) {e : MapEntry} {k : Int × Int} {x : Bt.Span} (he : e ∈ es.toList) (hn : seen.contains e.born = false) (hk : e.key = pairV k) (hM : M k = some x) (hle : x.Lo ≤ x.Hi) : RdI es M (seen.push e.born) (R ++ [⟨k.2, k.1, x⟩]) where
  inn := fun r hr => by
    rcases List.mem_append.1 hr with hr | hr
    · obtain ⟨h1, h2, e', h3, h4, h5⟩ := h.inn r hr; exact ⟨h1, h2, e', h3, by rw [contains_push, h4]; rfl, h5⟩
    · obtain rfl := List.mem_singleton.1 hr
      exact ⟨hM, hle, e, he, by rw [contains_push]; simp, hk⟩
  out := fun e' he' hs k' x' hk' hM' hle' => by
    rw [contains_push] at hs
    cases h4 : seen.contains e'.born with
    | true => exact List.mem_append_left _ (h.out e' he' h4 k' x' hk' hM' hle')
    | false =>
      rw [h4, Bool.false_or] at hs
      have := same_born km he' he (by simpa using hs)
      subst this
      have hkk := pairV_inj (hk'.symm.trans hk)
      subst hkk
      rw [hM] at hM'
      obtain rfl := Option.some.inj hM'
      exact List.mem_append_right _ (by simp)
  dst := List.pairwise_append.2 ⟨h.dst, List.pairwise_singleton _ _, fun a ha b hb => by
    obtain rfl := List.mem_singleton.1 hb
    rintro ⟨e1, e2⟩
    obtain ⟨_, _, e', h3, h4, h5⟩ := h.inn a ha
    simp only at e1 e2
    rw [e1, e2] at h5
    have := entry_of_key km.dist h3 he (h5.trans hk.symm)
    subst this
    rw [hn] at h4; cases h4⟩
theorem RdI.mem (h : RdI es M seen R) (km : KM kPlc spanV es clock M) (hall : ∀ e ∈ es.toList, seen.contains e.born = true) (r : Bt.Reading) : r ∈ R ↔ M (r.Hour, r.Gauge) = some r.Value ∧ r.Value.Lo ≤ r.Value.Hi := by
  constructor
  · intro hr; exact ⟨(h.inn r hr).1, (h.inn r hr).2.1⟩
  · rintro ⟨h1, h2⟩
    obtain ⟨e, he, hk⟩ := km.has _ _ h1
    exact h.out e he (hall e he) _ _ hk h1 h2
end
theorem RdI.len {es : Array MapEntry} {seen : Array Nat} {R : List Bt.Reading} {b : Bt.Basin} {l : List Bt.Gram} {u v : Int} (h : RdI es (valM b l u v l) seen R) (hu : I64 u) (hv : I64 v) : R.length ≤ l.length := by
  have hn : (R.map fun r => (r.Hour, r.Gauge)).Nodup := by
    refine List.pairwise_map.2 (h.dst.imp fun {x y} hxy e => hxy ?_)
    simpa using e
  have := nodup_le (r := l.map (plc b)) hn fun p hp => by
    obtain ⟨r, hr, rfl⟩ := List.mem_map.1 hp
    exact (valM_facts hu hv (h.inn r hr).1).2.2.2.2
  simpa using this
theorem RdI.wf {es : Array MapEntry} {seen : Array Nat} {R : List Bt.Reading} {b : Bt.Basin} {l : List Bt.Gram} {u v : Int} (h : RdI es (valM b l u v l) seen R) (hu : I64 u) (hv : I64 v) : ∀ r ∈ R, I64 r.Gauge ∧ I64 r.Hour ∧ I64 r.Value.Lo ∧ I64 r.Value.Hi := fun r hr => by
  have := valM_facts hu hv (h.inn r hr).1
  exact ⟨this.2.1, this.1, this.2.2.1, this.2.2.2.1⟩
theorem rds_of {b : Bt.Basin} {l : List Bt.Gram} {u v : Int} {R d : List Bt.Reading} (hp : d.Perm R) (hs : d.Pairwise (fun x y => ltOf cR y x = false)) (hd : R.Pairwise fun x y => ¬ (x.Hour = y.Hour ∧ x.Gauge = y.Gauge)) (hm : ∀ r, r ∈ R ↔ valM b l u v l (r.Hour, r.Gauge) = some r.Value ∧ r.Value.Lo ≤ r.Value.Hi) : Rds b l u v d where
  srt := sortedR hs ((hp.pairwise_iff (fun {x y} h e => h ⟨e.1.symm, e.2.symm⟩)).2 hd)
  mem := fun r => by rw [hp.mem_iff, hm]; unfold IsR; rw [valM_iff]
end Se
