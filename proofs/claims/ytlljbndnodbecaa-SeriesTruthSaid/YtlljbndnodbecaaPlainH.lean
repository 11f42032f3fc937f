/- Plain facts: the readings of a given list, computed. Conditions: those of each theorem. -/
import Derived.Test.YtlljbndnodbecaaPlainF
namespace Se
def eqC (x y : Bt.Gram) : Bool := decide (x.Gauge = y.Gauge) && decide (x.Seq = y.Seq) && decide (x.Clock = y.Clock) && decide (x.Value = y.Value) && decide (x.Tag.data.toList = y.Tag.data.toList)
theorem eqC_iff (x y : Bt.Gram) : eqC x y = true ↔ x = y := by
  unfold eqC
  simp only [Bool.and_eq_true, decide_eq_true_eq]
  constructor
  · rintro ⟨⟨⟨⟨h1, h2⟩, h3⟩, h4⟩, h5⟩; exact gram_ext h1 h2 h3 h4 h5
  · rintro rfl; exact ⟨⟨⟨⟨rfl, rfl⟩, rfl⟩, rfl⟩, rfl⟩
def voidC (l : List Bt.Gram) (g : Int) : Bool := l.any fun x => l.any fun y => decide (x.Gauge = g) && decide (y.Gauge = g) && decide (x.Seq = y.Seq) && !eqC x y
theorem voidC_iff (l : List Bt.Gram) (g : Int) : voidC l g = true ↔ VoidP l g := by
  unfold voidC VoidP
  simp only [List.any_eq_true, Bool.and_eq_true, decide_eq_true_eq, Bool.not_eq_true']
  constructor
  · rintro ⟨x, hx, y, hy, ⟨⟨h1, h2⟩, h3⟩, h4⟩
    exact ⟨x, hx, y, hy, h1, h2, h3, fun e => by rw [(eqC_iff x y).2 e] at h4; cases h4⟩
  · rintro ⟨x, hx, y, hy, h1, h2, h3, h4⟩
    exact ⟨x, hx, y, hy, ⟨⟨h1, h2⟩, h3⟩, by cases h : eqC x y with | false => rfl | true => exact absurd ((eqC_iff x y).1 h) h4⟩
theorem void_t {l : List Bt.Gram} {g : Int} (h : voidC l g = true) : decide (VoidP l g) = true := decide_eq_true ((voidC_iff l g).1 h)
theorem void_f {l : List Bt.Gram} {g : Int} (h : voidC l g = false) : decide (VoidP l g) = false := decide_eq_false fun e => by rw [(voidC_iff l g).2 e] at h; cases h
def useC (b : Bt.Basin) (l : List Bt.Gram) (u v : Int) (t : Bt.Gram) : Bool := decide (Right b.Gauges.length t) && !voidC l t.Gauge && decide (Sure (gOf b t) t) && decide (u ≤ hourT (gOf b t) t) && decide (hourT (gOf b t) t < v)
theorem useC_iff (b : Bt.Basin) (l : List Bt.Gram) (u v : Int) (t : Bt.Gram) : useC b l u v t = true ↔ Use b l u v t := by
  unfold useC Use
  simp only [Bool.and_eq_true, decide_eq_true_eq, Bool.not_eq_true']
  have h := voidC_iff l t.Gauge
  constructor
  · rintro ⟨⟨⟨⟨h1, h2⟩, h3⟩, h4⟩, h5⟩
    exact ⟨h1, fun e => (by rw [h.2 e] at h2; cases h2), h3, h4, h5⟩
  · rintro ⟨h1, h2, h3, h4, h5⟩
    exact ⟨⟨⟨⟨h1, by cases hv : voidC l t.Gauge with | false => rfl | true => exact absurd (h.1 hv) h2⟩, h3⟩, h4⟩, h5⟩
def valC (b : Bt.Basin) (l : List Bt.Gram) (u v : Int) (L : List Bt.Gram) (k : Int × Int) : Option Bt.Span := L.foldl (fun o t => if useC b l u v t && decide (plc b t = k) then some (joinV o (loT b t) (hiT b t)) else o) none
theorem valC_eq (b : Bt.Basin) (l : List Bt.Gram) (u v : Int) (L : List Bt.Gram) (k : Int × Int) : valM b l u v L k = valC b l u v L k := by
  unfold valM valC
  congr 1
  funext o t
  by_cases h : Use b l u v t ∧ plc b t = k
  · rw [if_pos h, if_pos (by rw [(useC_iff b l u v t).2 h.1]; simpa using h.2)]
  · rw [if_neg h, if_neg]
    intro h2
    simp only [Bool.and_eq_true, decide_eq_true_eq] at h2
    exact h ⟨(useC_iff b l u v t).1 h2.1, h2.2⟩
def rdC (b : Bt.Basin) (l : List Bt.Gram) (u v : Int) : List Bt.Reading := (l.map (plc b)).filterMap fun k => match valC b l u v l k with
  | some s => if s.Lo ≤ s.Hi then some ⟨k.2, k.1, s⟩ else none
  | none => none
theorem rdC_mem (b : Bt.Basin) (l : List Bt.Gram) (u v : Int) (r : Bt.Reading) : r ∈ rdC b l u v ↔ IsR b l u v r := by
  unfold rdC IsR
  rw [List.mem_filterMap, ← valM_iff]
  constructor
  · rintro ⟨k, hk, h⟩
    rw [← valC_eq] at h
    cases hv : valM b l u v l k with
    | none => rw [hv] at h; cases h
    | some s =>
      rw [hv] at h
      simp only at h
      split at h
      · obtain rfl := Option.some.inj h; exact ⟨hv, by assumption⟩
      · cases h
  · rintro ⟨h1, h2⟩
    refine ⟨(r.Hour, r.Gauge), ?_, ?_⟩
    · obtain ⟨t, ht, _⟩ := (valM_iff.1 h1).lo
      exact List.mem_map.2 ⟨t, ht.1, ht.2.2⟩
    · rw [← valC_eq, h1]; simp [h2]
theorem rds_lit {b : Bt.Basin} {l : List Bt.Gram} {u v : Int} {R R0 C0 : List Bt.Reading} (h : Rds b l u v R) (hC : rdC b l u v = C0) (hs : R0.Pairwise ltR) (hm : ∀ r, r ∈ R0 ↔ r ∈ C0) : R = R0 :=
  sorted_ext ltR_asymm h.srt hs fun r => by rw [h.mem, hm, ← hC, rdC_mem]
end Se
namespace Se
theorem nodup_le2 {α : Type} [DecidableEq α] : ∀ {l r : List α}, l.Nodup → (∀ x ∈ l, x ∈ r) → l.length ≤ r.length
  | [], _, _, _ => Nat.zero_le _
  | x :: l, r, hn, h => by
    obtain ⟨h1, h2⟩ := List.nodup_cons.1 hn
    have hx := h x (by simp)
    have := nodup_le2 (l := l) (r := r.erase x) h2 fun y hy => (List.mem_erase_of_ne (fun e => h1 (by rw [← e]; exact hy))).2 (h y (by simp [hy]))
    have h3 := List.length_erase_of_mem hx
    have h4 := List.length_pos_of_mem hx
    simp only [List.length_cons]
    omega
theorem Mrg.len {a b M : List Bt.Gram} (h : Mrg a b M) : M.length ≤ a.length + b.length := by
  have := nodup_le2 (l := M) (r := a ++ b) (h.srt.imp fun {x y} hxy e => by subst e; exact ltG_irrefl x hxy) fun x hx => by rw [List.mem_append]; exact (h.mem x).1 hx
  simpa using this
theorem Mrg.at {a b M : List Bt.Gram} (h : Mrg a b M) {i j : Nat} (hij : i < j) (hj : j < M.length) : cG (M.getD i default) (M.getD j default) < 0 := by
  have := List.pairwise_iff_getElem.1 h.srt i j (by omega) hj hij
  rw [List.getD_eq_getElem?_getD, List.getD_eq_getElem?_getD, List.getElem?_eq_getElem (by omega : i < M.length), List.getElem?_eq_getElem hj]
  exact this
theorem Mrg.new {a b M : List Bt.Gram} (h : Mrg a b M) {k : Nat} (hk : k < M.length) : M.getD k default ∉ M.take k := fun hm => by
  obtain ⟨i, hi, e⟩ := List.mem_iff_getElem.1 hm
  rw [List.length_take] at hi
  rw [List.getElem_take] at e
  have := h.at (i := i) (j := k) (by omega) hk
  rw [List.getD_eq_getElem?_getD, List.getElem?_eq_getElem (by omega : i < M.length)] at this
  simp only [Option.getD_some] at this
  rw [e] at this
  exact ltG_irrefl _ this
end Se
