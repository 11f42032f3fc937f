/- Plain facts on the division of a day's water: no program in sight. Conditions: none. -/
import Derived.Test.YtpeojogjeopfaaaData
namespace Al
open Bt
def maxI : Int := 9223372036854775807
def minI : Int := -9223372036854775808
def maxV : Int := 1125899906842624
def Ok64 (n : Int) : Prop := minI ≤ n ∧ n ≤ maxI
def addS (a b : Int) : Int := if 0 < b ∧ maxI - b < a then maxI else if b < 0 ∧ a < minI - b then minI else a + b
def clamp (n lo hi : Int) : Int := if n < lo then lo else if hi < n then hi else n
theorem addS_ok {a b : Int} (ha : Ok64 a) (hb : Ok64 b) : Ok64 (addS a b) := by
  unfold addS Ok64 maxI minI at *; split <;> (try split) <;> omega
theorem addS_nonneg {a b : Int} (ha : 0 ≤ a) (hb : 0 ≤ b) : 0 ≤ addS a b := by
  unfold addS maxI minI; split <;> (try split) <;> omega
theorem clamp_rng {n lo hi : Int} (h : lo ≤ hi) : lo ≤ clamp n lo hi ∧ clamp n lo hi ≤ hi := by
  unfold clamp; split <;> (try split) <;> omega
/-! ### where water goes -/
def isP (ps : List Place) (p : Int) : Bool := decide (0 ≤ p) && decide (p < ps.length)
def reachGo (ps : List Place) : Nat → Int → List Int → List Int
  | 0, _, out => out
  | f + 1, p, out => if (0 ≤ p ∧ p < ps.length) ∧ p ∉ out then (if 24 ≤ (ps.getD p.toNat default).Delay then out ++ [p] else reachGo ps f (ps.getD p.toNat default).Down (out ++ [p])) else out
def reach (ps : List Place) (p : Int) : List Int := reachGo ps (ps.length + 1) p []
/-- different numbers of places -/
def RI (n : Nat) (L : List Int) : Prop := L.Nodup ∧ ∀ x ∈ L, 0 ≤ x ∧ x < (n : Int)
theorem nat_nodup_le : ∀ (n : Nat) (l : List Nat), l.Nodup → (∀ x ∈ l, x < n) → l.length ≤ n
  | 0, [], _, _ => by simp
  | 0, a :: l, _, h => absurd (h a (by simp)) (by omega)
  | n + 1, l, hn, h => by
    have h1 := nat_nodup_le n (l.erase n) (hn.erase n) (fun x hx => by
      have h2 := h x (List.mem_of_mem_erase hx)
      have h3 : x ≠ n := fun e => by subst e; exact absurd hx (List.Nodup.not_mem_erase hn)
      omega)
    have h4 := List.length_erase (a := n) (l := l)
    split at h4 <;> omega
theorem RI.len {n : Nat} {L : List Int} (h : RI n L) : L.length ≤ n := by
  have := nat_nodup_le n (L.map Int.toNat) (by
    rw [List.nodup_iff_pairwise_ne, List.pairwise_map]
    refine List.Pairwise.imp_of_mem ?_ (List.nodup_iff_pairwise_ne.1 h.1)
    intro a b ha hb hab
    have h1 := h.2 a ha
    have h2 := h.2 b hb
    omega) (fun x hx => by
    obtain ⟨y, hy, rfl⟩ := List.mem_map.1 hx
    have := h.2 y hy
    omega)
  simpa using this
theorem RI.snoc {n : Nat} {L : List Int} {p : Int} (h : RI n L) (hp : 0 ≤ p ∧ p < (n : Int)) (hn : p ∉ L) : RI n (L ++ [p]) := by
  refine ⟨?_, fun x hx => ?_⟩
  · rw [List.nodup_append]
    refine ⟨h.1, by simp, fun x hx y hy e => ?_⟩
    obtain rfl : y = p := by simpa using hy
    exact hn (e ▸ hx)
  · rcases List.mem_append.1 hx with hx | hx
    · exact h.2 x hx
    · obtain rfl : x = p := by simpa using hx
      exact hp
theorem RI.nil {n : Nat} : RI n [] := ⟨List.nodup_nil, fun _ h => absurd h List.not_mem_nil⟩
theorem reachGo_ri {ps : List Place} : ∀ (f : Nat) (p : Int) (out : List Int), RI ps.length out → RI ps.length (reachGo ps f p out)
  | 0, _, _, h => h
  | f + 1, p, out, h => by
    rw [reachGo]
    split
    · rename_i hc
      split
      · exact h.snoc hc.1 hc.2
      · exact reachGo_ri f _ _ (h.snoc hc.1 hc.2)
    · exact h
theorem reach_ri (ps : List Place) (p : Int) : RI ps.length (reach ps p) := reachGo_ri _ _ _ RI.nil
theorem reach_len (ps : List Place) (p : Int) : (reach ps p).length ≤ ps.length := (reach_ri ps p).len
theorem reach_step {ps : List Place} {p : Int} {L : List Int} (h : RI ps.length L) (hp : 0 ≤ p ∧ p < ps.length) (hn : p ∉ L) (hd : (ps.getD p.toNat default).Delay < 24) :
    reachGo ps (ps.length + 1 - L.length) p L = reachGo ps (ps.length + 1 - (L ++ [p]).length) (ps.getD p.toNat default).Down (L ++ [p]) := by
  have h1 := (h.snoc hp hn).len
  rw [List.length_append, List.length_singleton] at h1 ⊢
  obtain ⟨m, hm⟩ : ∃ m, ps.length + 1 - L.length = m + 1 := ⟨ps.length - L.length, by omega⟩
  rw [hm, show ps.length + 1 - (L.length + 1) = m by omega, reachGo, if_pos ⟨hp, hn⟩, if_neg (by omega)]
theorem reach_last {ps : List Place} {p : Int} {L : List Int} (h : RI ps.length L) (hp : 0 ≤ p ∧ p < ps.length) (hn : p ∉ L) (hd : 24 ≤ (ps.getD p.toNat default).Delay) :
    reachGo ps (ps.length + 1 - L.length) p L = L ++ [p] := by
  have h1 := h.len
  obtain ⟨m, hm⟩ : ∃ m, ps.length + 1 - L.length = m + 1 := ⟨ps.length - L.length, by omega⟩
  rw [hm, reachGo, if_pos ⟨hp, hn⟩, if_pos hd]
theorem reach_stop {ps : List Place} {p : Int} {L : List Int} (h : RI ps.length L) (hs : ¬ ((0 ≤ p ∧ p < ps.length) ∧ p ∉ L)) : reachGo ps (ps.length + 1 - L.length) p L = L := by
  have h1 := h.len
  obtain ⟨m, hm⟩ : ∃ m, ps.length + 1 - L.length = m + 1 := ⟨ps.length - L.length, by omega⟩
  rw [hm, reachGo, if_neg hs]
theorem getD_set {L : List Int} {i j : Nat} {v : Int} (hi : i < L.length) : (L.set i v).getD j 0 = if i = j then v else L.getD j 0 := by
  simp only [List.getD_eq_getElem?_getD, List.getElem?_set]
  split
  · rename_i h; subst h; simp
  · rfl
theorem list_ext {xs ys : List Int} (hl : xs.length = ys.length) (h : ∀ j, j < xs.length → xs.getD j 0 = ys.getD j 0) : xs = ys := by
  refine List.ext_getElem hl (fun j h1 h2 => ?_)
  have := h j h1
  simpa [List.getD_eq_getElem?_getD, h1, h2] using this
theorem getD_map_range {n j : Nat} {f : Nat → Int} (hj : j < n) : ((List.range n).map f).getD j 0 = f j := by simp [List.getD_eq_getElem?_getD, hj]
theorem lt_succ {p : Nat → Prop} {k : Nat} (h : ∀ j, j < k → p j) (hk : p k) : ∀ j, j < k + 1 → p j := fun j hj => by
  by_cases e : j = k
  · subst e; exact hk
  · exact h j (by omega)
theorem mem_take_succ {L : List Int} {k : Nat} (hk : k < L.length) {x : Int} : x ∈ L.take (k + 1) ↔ x ∈ L.take k ∨ x = L.getD k 0 := by
  rw [List.take_succ_eq_append_getElem hk, List.mem_append, List.mem_singleton, show L.getD k 0 = L[k] by simp [List.getD_eq_getElem?_getD, hk]]
theorem not_mem_take {L : List Int} (h : L.Nodup) {k : Nat} (hk : k < L.length) : L.getD k 0 ∉ L.take k := fun hm => by
  obtain ⟨i, hi, he⟩ := List.mem_take_iff_getElem.1 hm
  have h1 : L.getD k 0 = L[k] := by simp [List.getD_eq_getElem?_getD, hk]
  rw [h1] at he
  exact List.pairwise_iff_getElem.1 (List.nodup_iff_pairwise_ne.1 h) i k (by omega) hk (by omega) he
theorem getD_mem {L : List Int} {k : Nat} (hk : k < L.length) : L.getD k 0 ∈ L := by simp [List.getD_eq_getElem?_getD, hk]
theorem has_t {xs : List Int} {v : Int} {k : Nat} (hk : k < xs.length) (h : xs.getD k 0 = v) : decide (v ∈ xs) = true := decide_eq_true (h ▸ getD_mem hk)
theorem has_f {xs : List Int} {v : Int} (h : ∀ j, j < xs.length → xs.getD j 0 ≠ v) : decide (v ∈ xs) = false := decide_eq_false fun hm => by
  obtain ⟨k, hk, rfl⟩ := List.getElem_of_mem hm
  exact h k hk (by simp [List.getD_eq_getElem?_getD, hk])
theorem list_extE {xs ys : List Grant} (hl : xs.length = ys.length) (h : ∀ j, j < xs.length → xs.getD j default = ys.getD j default) : xs = ys := by
  refine List.ext_getElem hl (fun j h1 h2 => ?_)
  have := h j h1
  simpa [List.getD_eq_getElem?_getD, h1, h2] using this
theorem grant_ext {x y : Grant} (h : x.Right = y.Right ∧ x.Litres = y.Litres) : x = y := by
  cases x; cases y; simp only at h; simp only [Grant.mk.injEq]; exact h
def findI (rs : List Right) (v : Int) : Int := match rs.findIdx? (fun r => decide (r.Id = v)) with | some i => (i : Int) | none => -1
theorem findI_hit {rs : List Right} {v : Int} {k : Nat} (hk : k < rs.length) (h : ∀ j, j < k → (rs.getD j default).Id ≠ v) (hv : (rs.getD k default).Id = v) : findI rs v = k := by
  unfold findI
  have : rs.findIdx? (fun r => decide (r.Id = v)) = some k := by
    rw [List.findIdx?_eq_some_iff_getElem]
    refine ⟨hk, by simpa [List.getD_eq_getElem?_getD, hk] using hv, fun j hj => ?_⟩
    have := h j hj
    simpa [List.getD_eq_getElem?_getD, show j < rs.length by omega] using this
  rw [this]
theorem findI_miss {rs : List Right} {v : Int} (h : ∀ j, j < rs.length → (rs.getD j default).Id ≠ v) : findI rs v = -1 := by
  unfold findI
  have : rs.findIdx? (fun r => decide (r.Id = v)) = none := by
    rw [List.findIdx?_eq_none_iff]
    intro x hx
    obtain ⟨k, hk, rfl⟩ := List.getElem_of_mem hx
    have := h k hk
    simpa [List.getD_eq_getElem?_getD, hk] using this
  rw [this]
def seenL (n : Nat) (L : List Int) : List Bool := (List.range n).map fun i : Nat => decide ((i : Int) ∈ L)
theorem seenL_len (n : Nat) (L : List Int) : (seenL n L).length = n := by simp [seenL]
theorem seenL_get {n : Nat} {L : List Int} {i : Nat} (hi : i < n) : (seenL n L).getD i false = decide ((i : Int) ∈ L) := by simp [seenL, List.getD_eq_getElem?_getD, hi]
theorem bool_ext {xs ys : List Bool} (hl : xs.length = ys.length) (h : ∀ j, j < xs.length → xs.getD j false = ys.getD j false) : xs = ys := by
  refine List.ext_getElem hl (fun j h1 h2 => ?_)
  have := h j h1
  simpa [List.getD_eq_getElem?_getD, h1, h2] using this
theorem getD_setB {L : List Bool} {i j : Nat} {v : Bool} (hi : i < L.length) : (L.set i v).getD j false = if i = j then v else L.getD j false := by
  simp only [List.getD_eq_getElem?_getD, List.getElem?_set]
  split
  · rename_i h; subst h; simp
  · rfl
theorem seenL_nil {n : Nat} : seenL n [] = List.replicate n false := by
  refine bool_ext (by simp [seenL]) (fun j hj => ?_)
  rw [seenL_len] at hj
  rw [seenL_get hj]; simp [List.getD_eq_getElem?_getD, hj]
theorem seenL_set {n : Nat} {L : List Int} {p : Int} (hp : 0 ≤ p ∧ p < (n : Int)) : (seenL n L).set p.toNat true = seenL n (L ++ [p]) := by
  refine bool_ext (by simp [seenL]) (fun j hj => ?_)
  rw [List.length_set, seenL_len] at hj
  rw [getD_setB (by rw [seenL_len]; omega), seenL_get hj, seenL_get hj]
  by_cases e : p.toNat = j
  · rw [if_pos e]; exact (decide_eq_true (List.mem_append.2 (.inr (List.mem_singleton.2 (by omega))))).symm
  · rw [if_neg e]
    congr 1
    simp only [List.mem_append, List.mem_singleton, eq_iff_iff]
    exact ⟨.inl, fun h => h.elim id (fun h => absurd (by omega) e)⟩
/-! ### what there is at the beginning -/
def thereN (ps : List Place) (sup : List Int) (q : Int) : Nat → Int
  | 0 => 0
  | k + 1 => if q ∈ reach ps (k : Int) ∧ 0 < sup.getD k 0 then addS (thereN ps sup q k) (sup.getD k 0) else thereN ps sup q k
def thereM (ps : List Place) (sup : List Int) (q : Int) : Int := thereN ps sup q (min ps.length sup.length)
def beginL (ps : List Place) (sup : List Int) (k : Nat) : List Int := (List.range ps.length).map fun q : Nat => thereN ps sup (q : Int) k
def beginM (ps : List Place) (sup : List Int) (k i : Nat) : List Int := (List.range ps.length).map fun q : Nat => if (q : Int) ∈ (reach ps (k : Int)).take i then addS (thereN ps sup (q : Int) k) (sup.getD k 0) else thereN ps sup (q : Int) k
theorem thereN_rng {ps : List Place} {sup : List Int} (hs : ∀ k, Ok64 (sup.getD k 0)) (q : Int) : ∀ k, 0 ≤ thereN ps sup q k ∧ thereN ps sup q k ≤ maxI
  | 0 => by unfold thereN maxI; omega
  | k + 1 => by
    have h := thereN_rng (ps := ps) hs q k
    rw [thereN]
    split
    · rename_i hc
      exact ⟨addS_nonneg h.1 (by omega), (addS_ok ⟨by unfold minI; omega, h.2⟩ (hs k)).2⟩
    · exact h
theorem beginL_len (ps : List Place) (sup : List Int) (k : Nat) : (beginL ps sup k).length = ps.length := by simp [beginL]
theorem beginM_len (ps : List Place) (sup : List Int) (k i : Nat) : (beginM ps sup k i).length = ps.length := by simp [beginM]
theorem beginL_zero {ps : List Place} {sup : List Int} : beginL ps sup 0 = List.replicate ps.length 0 := by
  refine list_ext (by simp [beginL]) (fun j hj => ?_)
  rw [beginL_len] at hj
  unfold beginL
  rw [getD_map_range hj]
  simp [thereN, List.getD_eq_getElem?_getD, hj]
theorem beginM_zero {ps : List Place} {sup : List Int} {k : Nat} : beginM ps sup k 0 = beginL ps sup k := by
  unfold beginM beginL; simp
theorem beginM_end {ps : List Place} {sup : List Int} {k i : Nat} (hs : 0 < sup.getD k 0) (hi : (reach ps (k : Int)).length ≤ i) : beginM ps sup k i = beginL ps sup (k + 1) := by
  unfold beginM beginL
  refine List.map_congr_left (fun q _ => ?_)
  rw [List.take_of_length_le hi, thereN]
  by_cases h : (q : Int) ∈ reach ps (k : Int)
  · rw [if_pos h, if_pos ⟨h, hs⟩]
  · rw [if_neg h, if_neg (fun hh => h hh.1)]
theorem beginL_skip {ps : List Place} {sup : List Int} {k : Nat} (hs : sup.getD k 0 ≤ 0) : beginL ps sup (k + 1) = beginL ps sup k := by
  unfold beginL
  refine List.map_congr_left (fun q _ => ?_)
  rw [thereN, if_neg (fun hh => by omega)]
theorem beginM_get {ps : List Place} {sup : List Int} {k i : Nat} (hi : i < (reach ps (k : Int)).length) :
    (beginM ps sup k i).getD ((reach ps (k : Int)).getD i 0).toNat 0 = thereN ps sup ((reach ps (k : Int)).getD i 0) k := by
  have hr := (reach_ri ps (k : Int)).2 _ (getD_mem hi)
  unfold beginM
  rw [getD_map_range (by omega), Int.toNat_of_nonneg hr.1, if_neg (not_mem_take (reach_ri ps (k : Int)).1 hi)]
theorem beginM_step {ps : List Place} {sup : List Int} {k i : Nat} (hi : i < (reach ps (k : Int)).length) :
    beginM ps sup k (i + 1) = (beginM ps sup k i).set ((reach ps (k : Int)).getD i 0).toNat (addS ((beginM ps sup k i).getD ((reach ps (k : Int)).getD i 0).toNat 0) (sup.getD k 0)) := by
  have hr := (reach_ri ps (k : Int)).2 _ (getD_mem hi)
  refine list_ext (by simp [beginM]) (fun j hj => ?_)
  rw [beginM_len] at hj
  rw [getD_set (by rw [beginM_len]; omega), beginM_get hi]
  unfold beginM
  rw [getD_map_range hj, getD_map_range hj]
  by_cases e : ((reach ps (k : Int)).getD i 0).toNat = j
  · rw [if_pos e, if_pos ((mem_take_succ hi).2 (.inr (by omega)))]
    rw [show (j : Int) = (reach ps (k : Int)).getD i 0 by omega]
  · rw [if_neg e]
    have : ((j : Int) ∈ (reach ps (k : Int)).take (i + 1)) ↔ ((j : Int) ∈ (reach ps (k : Int)).take i) := (mem_take_succ hi).trans ⟨fun h => h.elim id (fun h => absurd (by omega) e), .inl⟩
    by_cases h : (j : Int) ∈ (reach ps (k : Int)).take i
    · rw [if_pos h, if_pos (this.2 h)]
    · rw [if_neg h, if_neg (fun hh => h (this.1 hh))]
/-! ### a day -/
def minL (left : List Int) (l : List Int) (n : Int) : Int := l.foldl (fun n q => min n (left.getD q.toNat 0)) n
def lit (left l : List Int) (rate : Int) : Int := if l.length = 0 then 0 else minL left l (max 0 rate)
def subL (left l : List Int) (n : Int) : List Int := l.foldl (fun L q => L.set q.toNat (L.getD q.toNat 0 - n)) left
def step (ps : List Place) (st : List Int × List Grant) (r : Right) : List Int × List Grant :=
  (subL st.1 (reach ps r.Place) (lit st.1 (reach ps r.Place) r.Rate), st.2 ++ [⟨r.Id, lit st.1 (reach ps r.Place) r.Rate⟩])
def dayFrom (ps : List Place) (rs : List Right) (left : List Int) : List Int × List Grant := rs.foldl (step ps) (left, [])
def day (ps : List Place) (rs : List Right) (sup : List Int) : List Int × List Grant := dayFrom ps rs (beginL ps sup (min ps.length sup.length))
/-- what holds of what is left -/
def LI (n : Nat) (left : List Int) : Prop := left.length = n ∧ ∀ j, 0 ≤ left.getD j 0 ∧ left.getD j 0 ≤ maxI
theorem begin_li {ps : List Place} {sup : List Int} (hs : ∀ k, Ok64 (sup.getD k 0)) (k : Nat) : LI ps.length (beginL ps sup k) := by
  refine ⟨beginL_len _ _ _, fun j => ?_⟩
  by_cases hj : j < ps.length
  · unfold beginL; rw [getD_map_range hj]; exact thereN_rng hs _ k
  · have : (beginL ps sup k).getD j 0 = 0 := by rw [List.getD_eq_getElem?_getD, List.getElem?_eq_none (by rw [beginL_len]; omega)]; rfl
    rw [this]; unfold maxI; omega
theorem minL_le {left : List Int} : ∀ (l : List Int) (n : Int), minL left l n ≤ n ∧ ∀ q ∈ l, minL left l n ≤ left.getD q.toNat 0
  | [], n => ⟨Int.le_refl _, fun _ h => absurd h List.not_mem_nil⟩
  | q :: l, n => by
    have h := minL_le (left := left) l (min n (left.getD q.toNat 0))
    have e : minL left (q :: l) n = minL left l (min n (left.getD q.toNat 0)) := rfl
    rw [e]
    refine ⟨by omega, fun x hx => ?_⟩
    rcases List.mem_cons.1 hx with rfl | hx
    · omega
    · exact h.2 x hx
theorem minL_nonneg {left : List Int} (hl : ∀ j, 0 ≤ left.getD j 0) : ∀ (l : List Int) (n : Int), 0 ≤ n → 0 ≤ minL left l n
  | [], n, h => h
  | q :: l, n, h => by
    have h1 := hl q.toNat
    have h2 : 0 ≤ min n (left.getD q.toNat 0) := by omega
    exact minL_nonneg hl l _ h2
theorem minL_max {left : List Int} (hl : ∀ j, 0 ≤ left.getD j 0) : ∀ (l : List Int) (n : Int), l ≠ [] ∨ 0 ≤ n → max 0 (minL left l n) = minL left l (max 0 n)
  | [], n, h => rfl
  | q :: l, n, h => by
    have h1 := minL_max hl l (min n (left.getD q.toNat 0))
    have h2 := hl q.toNat
    show max 0 (minL left l (min n (left.getD q.toNat 0))) = minL left l (min (max 0 n) (left.getD q.toNat 0))
    have e : min (max 0 n) (left.getD q.toNat 0) = max 0 (min n (left.getD q.toNat 0)) := by omega
    rw [e]
    cases l with
    | nil => rfl
    | cons a l => exact h1 (.inl (by simp))
theorem minL_step {left l : List Int} {k : Nat} {n : Int} (hk : k < l.length) : minL left (l.take (k + 1)) n = min (minL left (l.take k) n) (left.getD (l.getD k 0).toNat 0) := by
  unfold minL
  rw [List.take_succ_eq_append_getElem hk, List.foldl_append]
  simp [List.getD_eq_getElem?_getD, hk]
theorem lit_rng {left l : List Int} {rate : Int} (hl : ∀ j, 0 ≤ left.getD j 0) : 0 ≤ lit left l rate ∧ lit left l rate ≤ max 0 rate ∧ ∀ q ∈ l, lit left l rate ≤ left.getD q.toNat 0 := by
  unfold lit
  split
  · rename_i h
    have : l = [] := List.length_eq_zero_iff.1 h
    subst this
    exact ⟨Int.le_refl _, by omega, fun _ h => absurd h List.not_mem_nil⟩
  · have h1 := minL_le (left := left) l (max 0 rate)
    exact ⟨minL_nonneg hl l _ (by omega), h1.1, h1.2⟩
theorem subL_len {n : Int} : ∀ (l left : List Int), (subL left l n).length = left.length
  | [], _ => rfl
  | q :: l, left => by show (subL _ l n).length = _; rw [subL_len l]; simp
theorem subL_step {left l : List Int} {k : Nat} {n : Int} (hk : k < l.length) : subL left (l.take (k + 1)) n = (subL left (l.take k) n).set (l.getD k 0).toNat ((subL left (l.take k) n).getD (l.getD k 0).toNat 0 - n) := by
  unfold subL
  rw [List.take_succ_eq_append_getElem hk, List.foldl_append]
  simp [List.getD_eq_getElem?_getD, hk]
theorem subL_get {n : Int} {m : Nat} : ∀ (l left : List Int), RI m l → left.length = m → ∀ x : Int, 0 ≤ x → (subL left l n).getD x.toNat 0 = if x ∈ l then left.getD x.toNat 0 - n else left.getD x.toNat 0
  | [], left, _, _, x, _ => by simp [subL]
  | q :: l, left, h, hl, x, hx => by
    have hq := h.2 q (by simp)
    have hn : q ∉ l ∧ l.Nodup := List.nodup_cons.1 h.1
    have ih := subL_get (n := n) (m := m) l (left.set q.toNat (left.getD q.toNat 0 - n)) ⟨hn.2, fun y hy => h.2 y (by simp [hy])⟩ (by simpa using hl) x hx
    show (subL (left.set q.toNat (left.getD q.toNat 0 - n)) l n).getD x.toNat 0 = _
    rw [ih, getD_set (by omega)]
    by_cases e : x = q
    · subst e; simp [hn.1]
    · have e2 : ¬ q.toNat = x.toNat := by omega
      by_cases hm : x ∈ l <;> simp [hm, e, e2]
theorem RI.take {m : Nat} {l : List Int} (h : RI m l) (k : Nat) : RI m (l.take k) := ⟨h.1.sublist (List.take_sublist _ _), fun x hx => h.2 x (List.mem_of_mem_take hx)⟩
theorem sub_li {m : Nat} {left l : List Int} {rate : Int} (h : LI m left) (hl : RI m l) : LI m (subL left l (lit left l rate)) := by
  have hr := lit_rng (l := l) (rate := rate) (fun j => (h.2 j).1)
  refine ⟨by rw [subL_len]; exact h.1, fun j => ?_⟩
  have hg := subL_get (n := lit left l rate) l left hl h.1 (j : Int) (by omega)
  rw [Int.toNat_natCast] at hg
  rw [hg]
  have hj := h.2 j
  split
  · rename_i hm
    have := hr.2.2 _ hm
    rw [Int.toNat_natCast] at this
    omega
  · exact hj
theorem sub_mid {m : Nat} {left l : List Int} {rate : Int} (h : LI m left) (hl : RI m l) {k : Nat} (hk : k < l.length) :
    (subL left (l.take k) (lit left l rate)).getD (l.getD k 0).toNat 0 = left.getD (l.getD k 0).toNat 0 ∧ lit left l rate ≤ left.getD (l.getD k 0).toNat 0 := by
  have hg := subL_get (n := lit left l rate) (l.take k) left (hl.take k) h.1 (l.getD k 0) (hl.2 _ (getD_mem hk)).1
  rw [if_neg (not_mem_take hl.1 hk)] at hg
  exact ⟨hg, (lit_rng (l := l) (rate := rate) (fun j => (h.2 j).1)).2.2 _ (getD_mem hk)⟩
theorem foldl_take {α β : Type} [Inhabited β] (f : α → β → α) (x : α) {l : List β} {k : Nat} (hk : k < l.length) : (l.take (k + 1)).foldl f x = f ((l.take k).foldl f x) (l.getD k default) := by
  rw [List.take_succ_eq_append_getElem hk, List.foldl_append]
  simp [List.getD_eq_getElem?_getD, hk]
theorem dayFrom_step {ps : List Place} {rs : List Right} {left : List Int} {k : Nat} (hk : k < rs.length) : dayFrom ps (rs.take (k + 1)) left = step ps (dayFrom ps (rs.take k) left) (rs.getD k default) := foldl_take _ _ hk
theorem dayFrom_inv {ps : List Place} : ∀ (rs : List Right) (left : List Int) (gs : List Grant), LI ps.length left → LI ps.length (rs.foldl (step ps) (left, gs)).1 ∧ (rs.foldl (step ps) (left, gs)).2.length = gs.length + rs.length
  | [], left, gs, h => ⟨h, rfl⟩
  | r :: rs, left, gs, h => by
    have := dayFrom_inv rs (step ps (left, gs) r).1 (step ps (left, gs) r).2 (sub_li h (reach_ri ps r.Place))
    refine ⟨this.1, ?_⟩
    rw [List.foldl_cons, this.2]
    simp [step]; omega
theorem day_li {ps : List Place} {sup : List Int} (hs : ∀ k, Ok64 (sup.getD k 0)) (rs : List Right) : LI ps.length (day ps rs sup).1 := (dayFrom_inv rs _ _ (begin_li hs _)).1
theorem dayFrom_li {ps : List Place} {left : List Int} (h : LI ps.length left) (rs : List Right) : LI ps.length (dayFrom ps rs left).1 := (dayFrom_inv rs _ _ h).1
theorem dayFrom_glen {ps : List Place} {left : List Int} (h : LI ps.length left) (rs : List Right) : (dayFrom ps rs left).2.length = rs.length := by
  have := (dayFrom_inv rs left [] h).2
  simpa [dayFrom] using this
theorem least_eq {left l : List Int} {n : Int} : (l.map fun q => left.getD q.toNat 0).foldl min n = minL left l n := by
  unfold minL; rw [List.foldl_map]
theorem lit_eq {left l : List Int} {rate : Int} (hl : ∀ j, 0 ≤ left.getD j 0) (h0 : 0 < l.length) : max 0 ((l.map fun q => left.getD q.toNat 0).foldl min rate) = lit left l rate := by
  rw [least_eq, minL_max hl l rate (.inl (fun e => by subst e; cases h0))]
  unfold lit; rw [if_neg (by omega)]
def litN (left l : List Int) (rate : Int) (j : Nat) : Int := if l.length = 0 then 0 else minL left (l.take j) (max 0 rate)
theorem litN_step {left l : List Int} {rate n : Int} {j : Nat} (hj : j < l.length) (hn : n = litN left l rate j) : min n (left.getD (l.getD j 0).toNat 0) = litN left l rate (j + 1) := by
  rw [hn, litN, litN, if_neg (by omega), if_neg (by omega), minL_step hj]
theorem litN_end {left l : List Int} {rate : Int} {j : Nat} (hj : l.length ≤ j) : litN left l rate j = lit left l rate := by
  unfold litN lit; rw [List.take_of_length_le hj]
theorem getD_memR {rs : List Right} {k : Nat} (hk : k < rs.length) : rs.getD k default ∈ rs := by
  simp [List.getD_eq_getElem?_getD, hk]
theorem map_take {l : List Int} {i : Nat} {f : Int → Int} (hi : i < l.length) : (l.take (i + 1)).map f = (l.take i).map f ++ [f (l.getD i 0)] := by
  rw [List.take_succ_eq_append_getElem hi, List.map_append]
  simp [List.getD_eq_getElem?_getD, hi]
theorem lit_zero {left l : List Int} {rate : Int} (h : l.length = 0) : lit left l rate = 0 := if_pos h
theorem lit_i64 {left l : List Int} {rate : Int} (h : 0 ≤ lit left l rate ∧ lit left l rate ≤ max 0 rate ∧ ∀ q ∈ l, lit left l rate ≤ left.getD q.toNat 0) (hr : -9223372036854775808 ≤ rate ∧ rate ≤ 9223372036854775807) : -9223372036854775808 ≤ lit left l rate ∧ lit left l rate ≤ 9223372036854775807 := by omega
theorem day_left {ps : List Place} {sup : List Int} {rs : List Right} {left : List Int} {gs : List Grant} {k : Nat} (hs : ∀ k, Ok64 (sup.getD k 0)) (hD : day ps (rs.take k) sup = (left, gs)) : LI ps.length left := by
  have := day_li (ps := ps) hs (rs.take k)
  rw [hD] at this; exact this
theorem day_glen {ps : List Place} {sup : List Int} {rs : List Right} {left : List Int} {gs : List Grant} {k : Nat} (hs : ∀ k, Ok64 (sup.getD k 0)) (hk : k ≤ rs.length) (hD : day ps (rs.take k) sup = (left, gs)) : gs.length = k := by
  have h : (day ps (rs.take k) sup).2.length = (rs.take k).length := dayFrom_glen (begin_li (ps := ps) hs (min ps.length sup.length)) (rs.take k)
  rw [hD, List.length_take] at h
  simp only at h; omega
theorem day_step {ps : List Place} {sup : List Int} {rs : List Right} {left : List Int} {gs : List Grant} {k : Nat} {n : Int} (hk : k < rs.length) (hD : day ps (rs.take k) sup = (left, gs)) (hn : n = lit left (reach ps (rs.getD k default).Place) (rs.getD k default).Rate) :
    day ps (rs.take (k + 1)) sup = (subL left (reach ps (rs.getD k default).Place) n, gs ++ [⟨(rs.getD k default).Id, n⟩]) := by
  unfold day at *
  rw [dayFrom_step hk, hD, hn]; rfl
/-! ### what returns -/
def findR (rs : List Right) (id : Int) : Option Right := rs.find? fun r => decide (r.Id = id)
def backStep (ps : List Place) (rs : List Right) (out : List Int) (gr : Grant) : List Int :=
  match findR rs gr.Right with
  | none => out
  | some r => if 0 ≤ r.BackTo ∧ r.BackTo < ps.length then out.set r.BackTo.toNat (addS (out.getD r.BackTo.toNat 0) (clamp gr.Litres 0 maxV * clamp r.Back 0 1000 / 1000)) else out
def back (ps : List Place) (rs : List Right) (gs : List Grant) : List Int := gs.foldl (backStep ps rs) (List.replicate ps.length 0)
theorem share_rng (a b : Int) : 0 ≤ clamp a 0 maxV * clamp b 0 1000 / 1000 ∧ clamp a 0 maxV * clamp b 0 1000 / 1000 ≤ maxV ∧ 0 ≤ clamp a 0 maxV * clamp b 0 1000 ∧ clamp a 0 maxV * clamp b 0 1000 ≤ 1125899906842624000 := by
  have h1 := clamp_rng (n := a) (lo := 0) (hi := maxV) (by unfold maxV; omega)
  have h2 := clamp_rng (n := b) (lo := 0) (hi := 1000) (by omega)
  have h3 := Int.mul_nonneg h1.1 h2.1
  have h4 : clamp a 0 maxV * clamp b 0 1000 ≤ maxV * 1000 := Int.mul_le_mul h1.2 h2.2 h2.1 (by unfold maxV; omega)
  unfold maxV at *
  omega
theorem findR_snoc {rs : List Right} {k : Nat} (hk : k < rs.length) (id : Int) : findR (rs.take (k + 1)) id = (findR (rs.take k) id).or (if (rs.getD k default).Id = id then some (rs.getD k default) else none) := by
  unfold findR
  rw [List.take_succ_eq_append_getElem hk, List.find?_append]
  have hg : rs.getD k default = rs[k] := by simp [List.getD_eq_getElem?_getD, hk]
  rw [hg]
  congr 1
  by_cases h : (rs[k]).Id = id
  · simp [h]
  · simp [h]
theorem findR_put {rs : List Right} {k : Nat} {α : Type} (c : Right → α) (hk : k < rs.length) (hn : (findR (rs.take k) (rs.getD k default).Id).isSome = false) :
    (fun j => if j = (rs.getD k default).Id then some (c (rs.getD k default)) else (findR (rs.take k) j).map c) = fun j => (findR (rs.take (k + 1)) j).map c := by
  funext j
  rw [findR_snoc hk]
  by_cases h : j = (rs.getD k default).Id
  · subst h
    rw [if_pos rfl, if_pos rfl]
    have : findR (rs.take k) (rs.getD k default).Id = none := by simpa using hn
    rw [this]; rfl
  · rw [if_neg h, if_neg (fun e => h e.symm)]; simp
theorem findR_keep {rs : List Right} {k : Nat} (hk : k < rs.length) (hn : (findR (rs.take k) (rs.getD k default).Id).isSome = true) (j : Int) : findR (rs.take (k + 1)) j = findR (rs.take k) j := by
  rw [findR_snoc hk]
  by_cases h : (rs.getD k default).Id = j
  · subst h
    obtain ⟨r, hr⟩ := Option.isSome_iff_exists.1 hn
    rw [hr]; rfl
  · rw [if_neg h]; simp
theorem backStep_skip {ps : List Place} {rs : List Right} {out : List Int} {gr : Grant} (h : (findR rs gr.Right).isSome = false ∨ ¬ (0 ≤ ((findR rs gr.Right).getD default).BackTo ∧ ((findR rs gr.Right).getD default).BackTo < ps.length)) : backStep ps rs out gr = out := by
  unfold backStep
  cases hf : findR rs gr.Right with
  | none => rfl
  | some r =>
    rw [hf] at h
    simp only [Option.isSome_some, Option.getD_some, Bool.true_eq_false, false_or] at h
    simp only
    rw [if_neg h]
theorem backStep_take {ps : List Place} {rs : List Right} {out : List Int} {gr : Grant} (h1 : (findR rs gr.Right).isSome = true) (h2 : 0 ≤ ((findR rs gr.Right).getD default).BackTo ∧ ((findR rs gr.Right).getD default).BackTo < ps.length) :
    backStep ps rs out gr = out.set ((findR rs gr.Right).getD default).BackTo.toNat (addS (out.getD ((findR rs gr.Right).getD default).BackTo.toNat 0) (clamp gr.Litres 0 maxV * clamp ((findR rs gr.Right).getD default).Back 0 1000 / 1000)) := by
  unfold backStep
  obtain ⟨r, hr⟩ := Option.isSome_iff_exists.1 h1
  rw [hr] at h2 ⊢
  simp only [Option.getD_some] at h2 ⊢
  rw [if_pos h2]
theorem foldl_takeG {α : Type} (f : α → Grant → α) (x : α) {l : List Grant} {k : Nat} (hk : k < l.length) : (l.take (k + 1)).foldl f x = f ((l.take k).foldl f x) (l.getD k default) := foldl_take f x hk
def OI (n : Nat) (out : List Int) : Prop := out.length = n ∧ ∀ j, Ok64 (out.getD j 0)
theorem backStep_oi {ps : List Place} {rs : List Right} {out : List Int} {gr : Grant} (h : OI ps.length out) : OI ps.length (backStep ps rs out gr) := by
  unfold backStep
  split
  · exact h
  · split
    · rename_i r _ hb
      refine ⟨by simpa using h.1, fun j => ?_⟩
      rw [getD_set (by rw [h.1]; omega)]
      have hs := share_rng gr.Litres r.Back
      split
      · refine addS_ok (h.2 _) ?_
        unfold Ok64 minI maxI
        unfold maxV at *
        omega
      · exact h.2 j
    · exact h
theorem back_oi {ps : List Place} {rs : List Right} : ∀ (gs : List Grant) (out : List Int), OI ps.length out → OI ps.length (gs.foldl (backStep ps rs) out)
  | [], _, h => h
  | _ :: gs, _, h => back_oi gs _ (backStep_oi h)
theorem zero_oi (n : Nat) : OI n (List.replicate n 0) := by
  refine ⟨by simp, fun j => ?_⟩
  have : (List.replicate n (0 : Int)).getD j 0 = 0 := by
    simp only [List.getD_eq_getElem?_getD, List.getElem?_replicate]; split <;> rfl
  rw [this]; unfold Ok64 minI maxI; omega
end Al
