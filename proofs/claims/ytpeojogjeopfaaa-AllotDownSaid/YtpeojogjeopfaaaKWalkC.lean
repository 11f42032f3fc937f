/- Lemmas. Conditions: those of each theorem. -/
import Derived.Test.YtpeojogjeopfaaaKPlainAl
set_option maxRecDepth 8000
set_option maxHeartbeats 16000000
namespace Gr

structure Arc where
  From : Int
  To : Int
  deriving Inhabited, DecidableEq

def succs (arcs : List Arc) (v : Int) : List Int := (arcs.filter fun a => decide (a.From = v)).map (·.To)
def rev (arcs : List Arc) : List Arc := arcs.map fun a => ⟨a.To, a.From⟩

def Ok (n : Nat) (arcs : List Arc) : Prop := ∀ a ∈ arcs, (0 ≤ a.From ∧ a.From < n) ∧ (0 ≤ a.To ∧ a.To < n)
theorem mem_succs {arcs v w} : w ∈ succs arcs v ↔ (⟨v, w⟩ : Arc) ∈ arcs := by
  unfold succs
  simp only [List.mem_map, List.mem_filter, decide_eq_true_eq]
  constructor
  · rintro ⟨⟨a, b⟩, ⟨h1, h2⟩, h3⟩
    simp only at h2 h3
    subst h2; subst h3; exact h1
  · exact fun h => ⟨_, ⟨h, rfl⟩, rfl⟩
inductive Walk (arcs : List Arc) : Nat → Int → Int → Prop
  | nil (v : Int) : Walk arcs 0 v v
  | snoc {k : Nat} {u v w : Int} (h : Walk arcs k u v) (ha : (⟨v, w⟩ : Arc) ∈ arcs) : Walk arcs (k + 1) u w

/-! ### breadth first search as the code does it -/
abbrev St := List Int × List Int
def visit (u : Int) (st : St) (w : Int) : St := if st.1.getD w.toNat 0 < 0 then (st.1.set w.toNat (st.1.getD u.toNat 0 + 1), st.2 ++ [w]) else st
def step (arcs : List Arc) (st : St) (i : Nat) : St := (succs arcs (st.2.getD i 0)).foldl (visit (st.2.getD i 0)) st
def start (n : Nat) (v : Int) : St := ((List.replicate n (-1)).set v.toNat 0, [v])
def bfs (n : Nat) (arcs : List Arc) (v : Int) : Nat → St
  | 0 => start n v
  | i + 1 => if i < (bfs n arcs v i).2.length then step arcs (bfs n arcs v i) i else bfs n arcs v i

def D (st : St) (w : Int) : Int := st.1.getD w.toNat 0

theorem nat_nodup_le : ∀ (n : Nat) (l : List Nat), l.Nodup → (∀ x ∈ l, x < n) → l.length ≤ n
  | 0, l, _, h => by
    cases l with
    | nil => simp
    | cons a l => have := h a (by simp); omega
  | n + 1, l, hn, h => by
    have h1 := nat_nodup_le n (l.erase n) (hn.erase n) (fun x hx => by
      have hx' := (hn.mem_erase_iff).1 hx
      have := h x hx'.2
      omega)
    by_cases hm : n ∈ l
    · rw [List.length_erase_of_mem hm] at h1; omega
    · rw [List.erase_of_not_mem hm] at h1; omega

theorem int_nodup_le {n : Nat} {l : List Int} (hn : l.Nodup) (hb : ∀ w ∈ l, 0 ≤ w ∧ w < n) : l.length ≤ n := by
  have h1 : (l.map Int.toNat).Nodup := by
    rw [List.nodup_iff_pairwise_ne, List.pairwise_map]
    refine List.Pairwise.imp_of_mem ?_ (List.nodup_iff_pairwise_ne.1 hn)
    intro a b ha hb' hab heq
    have := hb a ha; have := hb b hb'; exact hab (by omega)
  have h2 := nat_nodup_le n (l.map Int.toNat) h1 (fun x hx => by
    obtain ⟨w, hw, rfl⟩ := List.mem_map.1 hx
    have := hb w hw; omega)
  simpa using h2

structure Inv0 (n : Nat) (arcs : List Arc) (v : Int) (st : St) : Prop where
  len : st.1.length = n
  val : ∀ w : Int, 0 ≤ w → w < n → D st w = -1 ∨ (0 ≤ D st w ∧ w ∈ st.2)
  q : ∀ w ∈ st.2, 0 ≤ w ∧ w < n ∧ 0 ≤ D st w ∧ Walk arcs (D st w).toNat v w
  nodup : st.2.Nodup
  first : st.2.head? = some v ∧ D st v = 0
  small : ∀ w ∈ st.2, D st w < st.2.length
  sorted : st.2.Pairwise fun a b => D st a ≤ D st b

def Grows (st st' : St) : Prop := (∃ t, st'.2 = st.2 ++ t) ∧ ∀ x ∈ st.2, D st' x = D st x
theorem Grows.refl (st : St) : Grows st st := ⟨⟨[], by simp⟩, fun _ _ => rfl⟩
theorem Grows.trans {a b c : St} (h : Grows a b) (k : Grows b c) : Grows a c := by
  obtain ⟨⟨t, ht⟩, h2⟩ := h
  obtain ⟨⟨t', ht'⟩, k2⟩ := k
  exact ⟨⟨t ++ t', by rw [ht', ht, List.append_assoc]⟩, fun x hx => (k2 x (by rw [ht]; simp [hx])).trans (h2 x hx)⟩

theorem D_set {st : St} {n : Nat} {w x : Int} {d : Int} {q : List Int} (hl : st.1.length = n) (hw : 0 ≤ w ∧ w < n) (hx : 0 ≤ x) : D (st.1.set w.toNat d, q) x = if x = w then d else D st x := by
  unfold D
  simp only [gDD, List.getElem?_set]
  by_cases h : x = w
  · subst h; have : x.toNat < n := by omega
    simp [hl, this]
  · rw [if_neg (by omega), if_neg h]

theorem visit_inv {n : Nat} {arcs : List Arc} {v u w : Int} {st : St} (h : Inv0 n arcs v st) (hb : ∀ x ∈ st.2, D st x ≤ D st u + 1) (hu : u ∈ st.2) (hw : 0 ≤ w ∧ w < n) (ha : (⟨u, w⟩ : Arc) ∈ arcs) :
    Inv0 n arcs v (visit u st w) ∧ (∀ x ∈ (visit u st w).2, D (visit u st w) x ≤ D (visit u st w) u + 1) ∧ w ∈ (visit u st w).2 ∧ Grows st (visit u st w) := by
  unfold visit
  by_cases hd : st.1.getD w.toNat 0 < 0
  · rw [if_pos hd]
    have hDw : D st w < 0 := hd
    have hnw : w ∉ st.2 := fun hm => by have := (h.q w hm).2.2.1; omega
    have hun : u ≠ w := fun e => hnw (e ▸ hu)
    have hqu := h.q u hu
    have hDu : st.1.getD u.toNat 0 = D st u := rfl
    rw [hDu]
    have hD : ∀ x : Int, 0 ≤ x → D (st.1.set w.toNat (D st u + 1), st.2 ++ [w]) x = if x = w then D st u + 1 else D st x := fun x hx => D_set h.len hw hx
    have hDo : ∀ x ∈ st.2, D (st.1.set w.toNat (D st u + 1), st.2 ++ [w]) x = D st x := fun x hx => by
      rw [hD x (h.q x hx).1, if_neg (fun e : x = w => hnw (e ▸ hx))]
    have hDn : D (st.1.set w.toNat (D st u + 1), st.2 ++ [w]) w = D st u + 1 := by rw [hD w hw.1, if_pos rfl]
    have hmem : ∀ x, x ∈ st.2 ++ [w] ↔ x ∈ st.2 ∨ x = w := fun x => by simp
    refine ⟨⟨by simp [h.len], ?_, ?_, ?_, ?_, ?_, ?_⟩, ?_, by simp, ⟨⟨[w], rfl⟩, hDo⟩⟩
    · intro x h0 hn
      by_cases hx : x = w
      · subst hx; right; rw [hDn]; exact ⟨by omega, by simp⟩
      · rw [hD x h0, if_neg hx]
        rcases h.val x h0 hn with h1 | h1
        · exact .inl h1
        · exact .inr ⟨h1.1, by simp [h1.2]⟩
    · intro x hx
      rcases (hmem x).1 hx with hx | rfl
      · rw [hDo x hx]; exact h.q x hx
      · rw [hDn]
        refine ⟨hw.1, hw.2, by omega, ?_⟩
        rw [show (D st u + 1).toNat = (D st u).toNat + 1 by omega]
        exact hqu.2.2.2.snoc ha
    · show (st.2 ++ [w]).Nodup
      rw [List.nodup_append]
      exact ⟨h.nodup, by simp, fun a ha' b hb' => by
        obtain rfl : b = w := by simpa using hb'
        exact fun e => hnw (e ▸ ha')⟩
    · refine ⟨?_, ?_⟩
      · show (st.2 ++ [w]).head? = _
        rw [List.head?_append, h.first.1]; rfl
      · rw [hDo v (by
          have := h.first.1
          exact List.mem_of_mem_head? (by rw [this]; rfl))]
        exact h.first.2
    · intro x hx
      show _ < ((st.2 ++ [w]).length : Int)
      rw [List.length_append]
      rcases (hmem x).1 hx with hx | rfl
      · rw [hDo x hx]; have := h.small x hx; simp; omega
      · rw [hDn]; have := h.small u hu; simp; omega
    · show (st.2 ++ [w]).Pairwise _
      rw [List.pairwise_append]
      refine ⟨List.Pairwise.imp_of_mem (fun {a b} ha' hb' hab => by rw [hDo a ha', hDo b hb']; exact hab) h.sorted, by simp, fun a ha' b hb' => ?_⟩
      obtain rfl : b = w := by simpa using hb'
      rw [hDo a ha', hDn]; exact hb a ha'
    · intro x hx
      rw [hDo u hu]
      rcases (hmem x).1 hx with hx | rfl
      · rw [hDo x hx]; exact hb x hx
      · rw [hDn]; omega
  · rw [if_neg hd]
    have hDw : ¬ D st w < 0 := hd
    refine ⟨h, hb, ?_, Grows.refl st⟩
    rcases h.val w hw.1 hw.2 with h1 | h1
    · omega
    · exact h1.2

theorem fold_inv {n : Nat} {arcs : List Arc} {v u : Int} : ∀ (l : List Int) (st : St), Inv0 n arcs v st → (∀ x ∈ st.2, D st x ≤ D st u + 1) → u ∈ st.2 → (∀ w ∈ l, (0 ≤ w ∧ w < (n : Int)) ∧ (⟨u, w⟩ : Arc) ∈ arcs) →
    Inv0 n arcs v (l.foldl (visit u) st) ∧ (∀ x ∈ (l.foldl (visit u) st).2, D (l.foldl (visit u) st) x ≤ D (l.foldl (visit u) st) u + 1) ∧ (∀ w ∈ l, w ∈ (l.foldl (visit u) st).2) ∧ Grows st (l.foldl (visit u) st)
  | [], st, h, hb, _, _ => ⟨h, hb, fun _ h => (by cases h), Grows.refl st⟩
  | w :: l, st, h, hb, hu, hl => by
    obtain ⟨h1, h2, h3, h4⟩ := visit_inv h hb hu (hl w (by simp)).1 (hl w (by simp)).2
    have hu' : u ∈ (visit u st w).2 := by obtain ⟨⟨t, ht⟩, _⟩ := h4; rw [ht]; simp [hu]
    obtain ⟨k1, k2, k3, k4⟩ := fold_inv l _ h1 h2 hu' (fun x hx => hl x (by simp [hx]))
    refine ⟨k1, k2, fun x hx => ?_, h4.trans k4⟩
    rcases List.mem_cons.1 hx with rfl | hx
    · obtain ⟨⟨t, ht⟩, _⟩ := k4; simp only [List.foldl_cons]; rw [ht]; simp [h3]
    · exact k3 x hx

theorem start_inv {n : Nat} {arcs : List Arc} {v : Int} (hv : 0 ≤ v ∧ v < (n : Int)) : Inv0 n arcs v (start n v) := by
  have hD : ∀ x : Int, 0 ≤ x → x < n → D (start n v) x = if x = v then 0 else -1 := fun x hx hxn => by
    have := D_set (st := (List.replicate n (-1), [])) (n := n) (w := v) (x := x) (d := 0) (q := [v]) (by simp) hv hx
    unfold start
    rw [this]
    split
    · rfl
    · simp [D, List.getElem?_replicate]; rw [if_pos (by omega)]; rfl
  refine ⟨by simp [start], fun w h0 hn => ?_, fun w hw => ?_, by simp [start], ⟨rfl, by rw [hD v hv.1 hv.2]; simp⟩, fun w hw => ?_, by simp [start]⟩
  · rw [hD w h0 hn]
    by_cases h : w = v
    · subst h; right; simp [start]
    · left; rw [if_neg h]
  · obtain rfl : w = v := by simpa [start] using hw
    rw [hD w hv.1 hv.2, if_pos rfl]
    exact ⟨hv.1, hv.2, by omega, .nil w⟩
  · obtain rfl : w = v := by simpa [start] using hw
    rw [hD w hv.1 hv.2, if_pos rfl]; simp [start]

structure InvI (n : Nat) (arcs : List Arc) (v : Int) (i : Nat) (st : St) : Prop extends Inv0 n arcs v st where
  done : ∀ j < i, ∀ u, st.2[j]? = some u → ∀ w, (⟨u, w⟩ : Arc) ∈ arcs → w ∈ st.2 ∧ D st w ≤ D st u + 1
  front : ∀ u, st.2[i]? = some u → ∀ x ∈ st.2, D st x ≤ D st u + 1

theorem bfs_inv {n : Nat} {arcs : List Arc} {v : Int} (hok : Ok n arcs) (hv : 0 ≤ v ∧ v < (n : Int)) : ∀ i, (∀ j < i, j < (bfs n arcs v j).2.length) → InvI n arcs v i (bfs n arcs v i)
  | 0, _ => by
    refine ⟨start_inv hv, fun j hj => by omega, fun u hu x hx => ?_⟩
    obtain rfl : x = v := by simpa [bfs, start] using hx
    obtain rfl : x = u := by simpa [bfs, start] using hu
    show D (start n x) x ≤ D (start n x) x + 1
    omega
  | i + 1, hi => by
    have ih := bfs_inv hok hv i (fun j hj => hi j (by omega))
    have hlt := hi i (by omega)
    have hui : (bfs n arcs v i).2[i]? = some ((bfs n arcs v i).2.getD i 0) := by simp [hlt]
    have hum : (bfs n arcs v i).2.getD i 0 ∈ (bfs n arcs v i).2 := List.mem_of_getElem? hui
    have hbs : bfs n arcs v (i + 1) = step arcs (bfs n arcs v i) i := by rw [bfs, if_pos hlt]
    rw [hbs]
    unfold step
    generalize hst : bfs n arcs v i = st at *
    generalize hu : st.2.getD i 0 = u at *
    obtain ⟨k1, k2, k3, k4⟩ := fold_inv (succs arcs u) st ih.toInv0 (ih.front u hui) hum (fun w hw => ⟨(hok _ (mem_succs.1 hw)).2, mem_succs.1 hw⟩)
    generalize hst' : (succs arcs u).foldl (visit u) st = st' at *
    obtain ⟨⟨t, ht⟩, hg⟩ := k4
    have hpre : ∀ j y, st.2[j]? = some y → st'.2[j]? = some y := fun j y hj => by
      rw [ht, List.getElem?_append_left (List.getElem?_eq_some_iff.1 hj).1]; exact hj
    refine ⟨k1, fun j hj y hy w hw => ?_, fun y hy x hx => ?_⟩
    · have hjlt : j < st.2.length := by omega
      have hy' : st.2[j]? = some y := by rw [ht, List.getElem?_append_left hjlt] at hy; exact hy
      by_cases hji : j = i
      · subst hji
        obtain rfl : u = y := sJ (hui.symm.trans hy')
        have hws := k3 w (mem_succs.2 hw)
        exact ⟨hws, k2 w hws⟩
      · obtain ⟨h1, h2⟩ := ih.done j (by omega) y hy' w hw
        exact ⟨by rw [ht]; simp [h1], by rw [hg w h1, hg y (List.mem_of_getElem? hy')]; exact h2⟩
    · have h1 := k2 x hx
      have h2 : D st' u ≤ D st' y := by
        have hs := List.pairwise_iff_getElem.1 k1.sorted
        have hil : i < st'.2.length := (List.getElem?_eq_some_iff.1 (hpre i u hui)).1
        have hyl : i + 1 < st'.2.length := (List.getElem?_eq_some_iff.1 hy).1
        have := hs i (i + 1) hil hyl (by omega)
        rw [(List.getElem?_eq_some_iff.1 (hpre i u hui)).2, (List.getElem?_eq_some_iff.1 hy).2] at this
        exact this
      omega

theorem bfs_len {n : Nat} {arcs : List Arc} {v : Int} {i : Nat} (h : InvI n arcs v i (bfs n arcs v i)) : (bfs n arcs v i).2.length ≤ n := int_nodup_le h.nodup fun w hw => ⟨(h.q w hw).1, (h.q w hw).2.1⟩

def IsDist (n : Nat) (arcs : List Arc) (v : Int) (d : List Int) : Prop :=
  d.length = n ∧ ∀ w : Int, 0 ≤ w → w < n → (d.getD w.toNat 0 = -1 ∧ ∀ k, ¬ Walk arcs k v w) ∨ (0 ≤ d.getD w.toNat 0 ∧ d.getD w.toNat 0 < n ∧ Walk arcs (d.getD w.toNat 0).toNat v w ∧ ∀ k, Walk arcs k v w → d.getD w.toNat 0 ≤ k)

theorem bfs_dist {n : Nat} {arcs : List Arc} {v : Int} {i : Nat} (h : InvI n arcs v i (bfs n arcs v i)) (hi : (bfs n arcs v i).2.length ≤ i) : IsDist n arcs v (bfs n arcs v i).1 := by
  have hlen := bfs_len h
  generalize bfs n arcs v i = st at *
  have key : ∀ k w, Walk arcs k v w → w ∈ st.2 ∧ D st w ≤ k := by
    intro k w hw
    induction hw with
    | nil => exact ⟨List.mem_of_mem_head? (by rw [h.first.1]; rfl), by rw [h.first.2]; omega⟩
    | snoc hw' ha ih =>
      obtain ⟨h1, h2⟩ := ih h
      obtain ⟨j, hj⟩ := List.mem_iff_getElem?.1 h1
      obtain ⟨h3, h4⟩ := h.done j (by have := (List.getElem?_eq_some_iff.1 hj).1; omega) _ hj _ ha
      exact ⟨h3, by omega⟩
  refine ⟨h.len, fun w h0 hn => ?_⟩
  rcases h.val w h0 hn with h1 | ⟨h1, h2⟩
  · refine .inl ⟨h1, fun k hk => ?_⟩
    have h3 := h.q w (key k w hk).1
    have : D st w = -1 := h1
    omega
  · have h3 := h.q w h2
    have h4 := h.small w h2
    exact .inr ⟨h1, by have : D st w < n := by omega
                       exact this, h3.2.2.2, fun k hk => (key k w hk).2⟩

/-! ### what the small functions return -/
def okB (n : Int) (a : Arc) : Bool := decide (0 ≤ a.From) && decide (a.From < n) && decide (0 ≤ a.To) && decide (a.To < n)
def rightB (n : Int) (arcs : List Arc) : Bool := decide (0 ≤ n ∧ n ≤ 256 ∧ arcs.length ≤ 4096) && arcs.all (okB n)
theorem right_ok {n : Int} {arcs : List Arc} (h : rightB n arcs = true) : (0 ≤ n ∧ n ≤ 256) ∧ arcs.length ≤ 4096 ∧ Ok n.toNat arcs := by
  simp only [rightB, Bool.and_eq_true, decide_eq_true_eq, List.all_eq_true, okB] at h
  refine ⟨⟨h.1.1, h.1.2.1⟩, h.1.2.2, fun a ha => ?_⟩
  have := h.2 a ha
  omega
theorem right_f1 {n : Int} {arcs : List Arc} (h : ¬ (0 ≤ n ∧ n ≤ 256 ∧ arcs.length ≤ 4096)) : rightB n arcs = false := by
  simp only [rightB, decide_eq_false h, Bool.false_and]
theorem right_f2 {n : Int} {arcs : List Arc} {k : Nat} (hk : k < arcs.length) (h : ¬ (0 ≤ (arcs.getD k default).From ∧ (arcs.getD k default).From < n ∧ 0 ≤ (arcs.getD k default).To ∧ (arcs.getD k default).To < n)) : rightB n arcs = false := by
  cases hr : rightB n arcs with
  | false => rfl
  | true =>
    obtain ⟨h1, _, h3⟩ := right_ok hr
    have := h3 (arcs.getD k default) (by simp [hk])
    omega
theorem right_t {n : Int} {arcs : List Arc} (h1 : 0 ≤ n ∧ n ≤ 256 ∧ arcs.length ≤ 4096) (h : ∀ k, k < arcs.length → 0 ≤ (arcs.getD k default).From ∧ (arcs.getD k default).From < n ∧ 0 ≤ (arcs.getD k default).To ∧ (arcs.getD k default).To < n) : rightB n arcs = true := by
  simp only [rightB, Bool.and_eq_true, decide_eq_true_eq, List.all_eq_true, okB]
  refine ⟨h1, fun a ha => ?_⟩
  obtain ⟨k, hk, rfl⟩ := List.mem_iff_getElem.1 ha
  have := h k hk
  simp only [gDD, List.getElem?_eq_getElem hk, Option.getD_some] at this
  omega
theorem lt_succ {p : Nat → Prop} {k : Nat} (h : ∀ j, j < k → p j) (hk : p k) : ∀ j, j < k + 1 → p j := fun j hj => by
  rcases Nat.lt_or_ge j k with h1 | h1
  · exact h j h1
  · obtain rfl : j = k := by omega
    exact hk
theorem has_f {arcs : List Arc} {a b : Int} (h : ∀ j, j < arcs.length → ¬ ((arcs.getD j default).From = a ∧ (arcs.getD j default).To = b)) : (⟨a, b⟩ : Arc) ∉ arcs := by
  intro hm
  obtain ⟨k, hk, he⟩ := List.mem_iff_getElem.1 hm
  refine h k hk ?_
  simp only [gDD, List.getElem?_eq_getElem hk, he, Option.getD_some, and_self]
theorem has_t {arcs : List Arc} {a b : Int} {k : Nat} (hk : k < arcs.length) (h : (arcs.getD k default).From = a ∧ (arcs.getD k default).To = b) : (⟨a, b⟩ : Arc) ∈ arcs := by
  obtain ⟨rfl, rfl⟩ := h
  have : arcs.getD k default ∈ arcs := by simp [hk]
  exact this
theorem succs_snoc {arcs : List Arc} {a : Arc} {v : Int} : succs (arcs ++ [a]) v = if a.From = v then succs arcs v ++ [a.To] else succs arcs v := by
  unfold succs
  by_cases h : a.From = v <;> simp [List.filter_append, h]
theorem take_snoc {arcs : List Arc} {k : Nat} (hk : k < arcs.length) : arcs.take (k + 1) = arcs.take k ++ [arcs.getD k default] := by
  rw [List.take_succ_eq_append_getElem hk]; simp [hk]
theorem succs_len (arcs : List Arc) (v : Int) : (succs arcs v).length ≤ arcs.length := by
  unfold succs; simp; exact List.length_filter_le _ _
def table (n : Nat) (arcs : List Arc) : List (List Int) := (List.range n).map fun i : Nat => succs arcs (i : Int)
theorem table_len (n : Nat) (arcs : List Arc) : (table n arcs).length = n := by simp [table]
theorem table_get {n : Nat} {arcs : List Arc} {i : Nat} (hi : i < n) : (table n arcs).getD i [] = succs arcs i := by simp [table, hi]
theorem table_step {n : Nat} {arcs : List Arc} {k : Nat} (hok : Ok n arcs) (hk : k < arcs.length) : table n (arcs.take (k + 1)) = (table n (arcs.take k)).set (arcs.getD k default).From.toNat ((table n (arcs.take k)).getD (arcs.getD k default).From.toNat [] ++ [(arcs.getD k default).To]) := by
  have ha := hok (arcs.getD k default) (by simp [hk])
  generalize hx : arcs.getD k default = a at *
  have h1 : a.From.toNat < n := by omega
  rw [table_get h1]
  apply List.ext_getElem (by simp [table])
  intro i hi1 hi2
  have hin : i < n := by simpa [table] using hi1
  simp only [table, List.getElem_map, List.getElem_range, List.getElem_set]
  rw [take_snoc hk, hx, succs_snoc]
  by_cases h : a.From.toNat = i
  · rw [if_pos h, if_pos (by omega)]; congr 2; omega
  · rw [if_neg h, if_neg (by omega)]

theorem bfs_stop {n : Nat} {arcs : List Arc} {v : Int} {i : Nat} (hi : (bfs n arcs v i).2.length ≤ i) : ∀ j, i ≤ j → bfs n arcs v j = bfs n arcs v i := by
  intro j hj
  induction j with
  | zero => obtain rfl : i = 0 := by omega
            rfl
  | succ j ih =>
    rcases Nat.lt_or_ge j i with h | h
    · obtain rfl : i = j + 1 := by omega
      rfl
    · have := ih h
      rw [bfs, this, if_neg (by omega)]
def distL (n : Nat) (arcs : List Arc) (v : Int) : List Int := (bfs n arcs v n).1
theorem bfs_end {n : Nat} {arcs : List Arc} {v : Int} {i : Nat} (h : InvI n arcs v i (bfs n arcs v i)) (hi : (bfs n arcs v i).2.length ≤ i) (hle : i ≤ (bfs n arcs v i).2.length) : (bfs n arcs v i).1 = distL n arcs v := by
  have := bfs_len h
  unfold distL
  rw [bfs_stop hi n (by omega)]
theorem distL_is {n : Nat} {arcs : List Arc} {v : Int} (hok : Ok n arcs) (hv : 0 ≤ v ∧ v < (n : Int)) : IsDist n arcs v (distL n arcs v) := by
  -- the first i at which the queue is at its end
  have key : ∀ m i, n - i = m → (∀ j < i, j < (bfs n arcs v j).2.length) → ∃ k, (∀ j < k, j < (bfs n arcs v j).2.length) ∧ (bfs n arcs v k).2.length ≤ k ∧ k ≤ n := by
    intro m
    induction m with
    | zero =>
      intro i hi h
      have := bfs_len (bfs_inv hok hv i h)
      by_cases hin : i ≤ n
      · exact ⟨i, h, by omega, hin⟩
      · exfalso
        have := h n (by omega)
        have := bfs_len (bfs_inv hok hv n (fun j hj => h j (by omega)))
        omega
    | succ m ih =>
      intro i hi h
      by_cases hl : i < (bfs n arcs v i).2.length
      · exact ih (i + 1) (by omega) (fun j hj => by
          rcases Nat.lt_or_ge j i with h1 | h1
          · exact h j h1
          · obtain rfl : j = i := by omega
            exact hl)
      · exact ⟨i, h, by omega, by omega⟩
  obtain ⟨k, h1, h2, h3⟩ := key n 0 (by omega) (fun j hj => by omega)
  have hI := bfs_inv hok hv k h1
  have := bfs_dist hI h2
  unfold distL
  rw [bfs_stop h2 n h3]; exact this

/-! ### the closest successor, ways, cycles, orders: what the code reckons -/
def closeStep (d : List Int) (best w : Int) : Int :=
  if d.getD w.toNat 0 < 0 then best else if best < 0 ∨ d.getD w.toNat 0 < d.getD best.toNat 0 ∨ (d.getD w.toNat 0 = d.getD best.toNat 0 ∧ w < best) then w else best
def closest (arcs : List Arc) (d : List Int) (v : Int) : Int := (succs arcs v).foldl (closeStep d) (-1)
/-! ### results -/
def reachL (n : Nat) (d : List Int) : List Int := ((List.range n).filter fun i => decide (0 ≤ d.getD i 0)).map fun i : Nat => (i : Int)
def downM (n : Int) (arcs : List Arc) (v : Int) : List Int := if rightB n arcs = true ∧ 0 ≤ v ∧ v < n then reachL n.toNat (distL n.toNat arcs v) else []
theorem reachL_step {k : Nat} {d : List Int} : reachL (k + 1) d = if 0 ≤ d.getD k 0 then reachL k d ++ [(k : Int)] else reachL k d := by
  unfold reachL
  rw [List.range_succ, List.filter_append, List.map_append]
  by_cases h : 0 ≤ d.getD k 0
  · rw [if_pos h]; simp only [List.filter_cons, decide_eq_true h, if_true, List.filter_nil, List.map_cons, List.map_nil]
  · rw [if_neg h]; simp only [List.filter_cons, decide_eq_false h, Bool.false_eq_true, if_false, List.filter_nil, List.map_nil, List.append_nil]
theorem reachL_len (k : Nat) (d : List Int) : (reachL k d).length ≤ k := by
  unfold reachL; rw [List.length_map]; have := List.length_filter_le (fun i => decide (0 ≤ d.getD i 0)) (List.range k); simpa using this
theorem reachL_mem {k : Nat} {d : List Int} {w : Int} : w ∈ reachL k d ↔ 0 ≤ w ∧ w < k ∧ 0 ≤ d.getD w.toNat 0 := by
  unfold reachL
  simp only [List.mem_map, List.mem_filter, List.mem_range, decide_eq_true_eq]
  constructor
  · rintro ⟨i, ⟨h1, h2⟩, rfl⟩; exact ⟨by omega, by omega, by simpa using h2⟩
  · exact fun ⟨h1, h2, h3⟩ => ⟨w.toNat, ⟨by omega, h3⟩, by omega⟩
end Gr

namespace Gr
/-! ### ways -/
/-! ### cycles -/
/-! ### orders -/
end Gr

namespace Gr
/-! ### the waits of an order -/
def dec (W : List Int) (w : Int) : List Int := W.set w.toNat (W.getD w.toNat 0 - 1)
end Gr
namespace Ad
open Bt
/-! ### arcs -/
def addA (L : List Gr.Arc) (f t : Int) : List Gr.Arc := if 0 ≤ f ∧ 0 ≤ t then L ++ [⟨f, t⟩] else L
def aP (ps : List Place) : Nat → List Gr.Arc
  | 0 => []
  | k + 1 => addA (aP ps k) (k : Int) (ps.getD k default).Down
def aLk (L : List Gr.Arc) (l : Link) : List Gr.Arc := if l.Kind = 4 then addA (addA L l.From l.To) l.To l.From else addA L l.From l.To
def aL (b : Basin) : Nat → List Gr.Arc
  | 0 => aP b.Places b.Places.length
  | k + 1 => aLk (aL b k) (b.Links.getD k default)
def arcs (b : Basin) : List Gr.Arc := aL b b.Links.length
theorem addA_len (L : List Gr.Arc) (f t : Int) : (addA L f t).length ≤ L.length + 1 := by unfold addA; split <;> simp
theorem addA_sub {L : List Gr.Arc} {f t : Int} {a : Gr.Arc} (h : a ∈ L) : a ∈ addA L f t := by unfold addA; split <;> simp [h]
theorem aP_len (ps : List Place) : ∀ k, (aP ps k).length ≤ k
  | 0 => by simp [aP]
  | k + 1 => by have h1 := aP_len ps k; have h2 := addA_len (aP ps k) (k : Int) (ps.getD k default).Down; simp only [aP]; omega
theorem aLk_len (L : List Gr.Arc) (l : Link) : (aLk L l).length ≤ L.length + 2 := by
  unfold aLk
  split
  · have h1 := addA_len L l.From l.To; have h2 := addA_len (addA L l.From l.To) l.To l.From; omega
  · have h1 := addA_len L l.From l.To; omega
theorem aL_len (b : Basin) : ∀ k, (aL b k).length ≤ b.Places.length + 2 * k
  | 0 => by have h1 := aP_len b.Places b.Places.length; simp only [aL]; omega
  | k + 1 => by have h1 := aL_len b k; have h2 := aLk_len (aL b k) (b.Links.getD k default); simp only [aL]; omega
theorem aLk_sub {L : List Gr.Arc} {l : Link} {a : Gr.Arc} (h : a ∈ L) : a ∈ aLk L l := by
  unfold aLk
  split
  · exact addA_sub (addA_sub h)
  · exact addA_sub h
theorem aL_sub {b : Basin} {a : Gr.Arc} (h : a ∈ aP b.Places b.Places.length) : ∀ k, a ∈ aL b k
  | 0 => h
  | k + 1 => aLk_sub (aL_sub h k)
theorem aP_mem {ps : List Place} {i : Nat} (hd : 0 ≤ (ps.getD i default).Down) : ∀ k, i < k → (⟨(i : Int), (ps.getD i default).Down⟩ : Gr.Arc) ∈ aP ps k
  | 0, h => absurd h (by omega)
  | k + 1, h => by
    by_cases e : i = k
    · subst e; simp only [aP]; unfold addA; rw [if_pos ⟨by omega, hd⟩]; simp
    · exact addA_sub (aP_mem hd k (by omega))
structure RB (b : Basin) : Prop where
  np : b.Places.length ≤ 64
  nl : b.Links.length ≤ 96
  dn : ∀ i, i < b.Places.length → (b.Places.getD i default).Down < (b.Places.length : Int)
  lf : ∀ i, i < b.Links.length → (b.Links.getD i default).From < (b.Places.length : Int)
  lt : ∀ i, i < b.Links.length → (b.Links.getD i default).To < (b.Places.length : Int)
theorem addA_ok {n : Nat} {L : List Gr.Arc} {f t : Int} (h : Gr.Ok n L) (hf : f < (n : Int)) (ht : t < (n : Int)) : Gr.Ok n (addA L f t) := by
  unfold addA
  split
  · rename_i hc
    intro a ha
    rcases List.mem_append.1 ha with h1 | h1
    · exact h a h1
    · obtain rfl : a = ⟨f, t⟩ := by simpa using h1
      exact ⟨⟨hc.1, hf⟩, hc.2, ht⟩
  · exact h
theorem aP_ok {b : Basin} (h : RB b) : ∀ k, k ≤ b.Places.length → Gr.Ok b.Places.length (aP b.Places k)
  | 0, _ => fun _ ha => absurd ha (by simp [aP])
  | k + 1, hk => addA_ok (aP_ok h k (by omega)) (by omega) (h.dn k (by omega))
theorem aL_ok {b : Basin} (h : RB b) : ∀ k, k ≤ b.Links.length → Gr.Ok b.Places.length (aL b k)
  | 0, _ => aP_ok h _ (Nat.le_refl _)
  | k + 1, hk => by
    have h1 := aL_ok h k (by omega)
    have hf := h.lf k (by omega)
    have ht := h.lt k (by omega)
    simp only [aL]
    unfold aLk
    split
    · exact addA_ok (addA_ok h1 hf ht) ht hf
    · exact addA_ok h1 hf ht
theorem right_of {b : Basin} (h : RB b) {L : List Gr.Arc} (hl : L.length ≤ (arcs b).length) (hm : ∀ a, a ∈ L → a ∈ arcs b) : Gr.rightB (b.Places.length : Int) L = true := by
  have hlen := aL_len b b.Links.length
  have hok := aL_ok h b.Links.length (Nat.le_refl _)
  have h1 := h.np
  have h2 := h.nl
  unfold arcs at hl hm
  refine Gr.right_t ⟨by omega, by omega, by omega⟩ fun k hk => ?_
  have hmem : L.getD k default ∈ L := by simp [hk]
  have := hok _ (hm _ hmem)
  exact ⟨this.1.1, this.1.2, this.2.1, this.2.2⟩
/-! ### the way -/
abbrev dnOf (ps : List Place) (p : Int) : Int := (ps.getD p.toNat default).Down
abbrev dlOf (ps : List Place) (p : Int) : Int := (ps.getD p.toNat default).Delay
structure Way (ps : List Place) (p q : Int) (L : List Int) : Prop where
  fst : 0 < L.length → L.getD 0 0 = p
  nil : L = [] → q = p
  step : ∀ i, i + 1 < L.length → dnOf ps (L.getD i 0) = L.getD (i + 1) 0 ∧ dlOf ps (L.getD i 0) < 24
  last : 0 < L.length → dnOf ps (L.getD (L.length - 1) 0) = q ∧ dlOf ps (L.getD (L.length - 1) 0) < 24
theorem getD_app1 {L : List Int} {x : Int} {i : Nat} (h : i < L.length) : (L ++ [x]).getD i 0 = L.getD i 0 := by simp [List.getElem?_append_left h]
theorem getD_app2 {L : List Int} {x : Int} : (L ++ [x]).getD L.length 0 = x := by simp
theorem Way.snoc_step {ps : List Place} {p q : Int} {L : List Int} (h : Way ps p q L) : ((L ++ [q]).getD 0 0 = p) ∧ ∀ i, i + 1 < (L ++ [q]).length → dnOf ps ((L ++ [q]).getD i 0) = (L ++ [q]).getD (i + 1) 0 ∧ dlOf ps ((L ++ [q]).getD i 0) < 24 := by
  refine ⟨?_, fun i hi => ?_⟩
  · by_cases h0 : L = []
    · subst h0; simpa using h.nil rfl
    · have hp : 0 < L.length := List.length_pos_iff.2 h0
      rw [getD_app1 hp]; exact h.fst hp
  · rw [List.length_append, List.length_singleton] at hi
    rw [getD_app1 (show i < L.length by omega)]
    by_cases e : i + 1 = L.length
    · rw [e, getD_app2]
      have := h.last (by omega)
      rwa [show L.length - 1 = i by omega] at this
    · rw [getD_app1 (show i + 1 < L.length by omega)]
      exact h.step i (by omega)
structure Good (ps : List Place) (p : Int) (L : List Int) : Prop where
  fst : 0 < L.length ∧ L.getD 0 0 = p
  step : ∀ i, i + 1 < L.length → dnOf ps (L.getD i 0) = L.getD (i + 1) 0 ∧ dlOf ps (L.getD i 0) < 24
  last : 24 ≤ dlOf ps (L.getD (L.length - 1) 0) ∨ ¬ (0 ≤ dnOf ps (L.getD (L.length - 1) 0) ∧ dnOf ps (L.getD (L.length - 1) 0) < (ps.length : Int)) ∨ dnOf ps (L.getD (L.length - 1) 0) ∈ L
theorem go_good {ps : List Place} {p : Int} (hp : 0 ≤ p ∧ p < (ps.length : Int)) : ∀ (m : Nat) (q : Int) (L : List Int), m = ps.length + 1 - L.length → Al.RI ps.length L → Way ps p q L → Good ps p (Al.reachGo ps m q L)
  | 0, q, L, hm, hr, hw => absurd hr.len (by omega)
  | m + 1, q, L, hm, hr, hw => by
    rw [Al.reachGo]
    by_cases hc : (0 ≤ q ∧ q < (ps.length : Int)) ∧ q ∉ L
    · rw [if_pos hc]
      have hs := hw.snoc_step
      have hl : (L ++ [q]).length = L.length + 1 := by simp
      have hx : (L ++ [q]).getD ((L ++ [q]).length - 1) 0 = q := by rw [hl, Nat.add_sub_cancel, getD_app2]
      by_cases hd : 24 ≤ (ps.getD q.toNat default).Delay
      · rw [if_pos hd]
        exact ⟨⟨by omega, hs.1⟩, hs.2, .inl (by rw [hx]; exact hd)⟩
      · rw [if_neg hd]
        refine go_good hp m _ _ (by omega) (hr.snoc hc.1 hc.2) ⟨fun _ => hs.1, fun h => absurd (congrArg List.length h) (by simp), hs.2, fun _ => ?_⟩
        rw [hx]
        exact ⟨rfl, Int.not_le.1 hd⟩
    · rw [if_neg hc]
      by_cases h0 : L = []
      · subst h0
        have := hw.nil rfl
        exact absurd ⟨by omega, List.not_mem_nil⟩ hc
      · have hpos : 0 < L.length := List.length_pos_iff.2 h0
        refine ⟨⟨hpos, hw.fst hpos⟩, hw.step, .inr ?_⟩
        have := (hw.last hpos).1
        rw [this]
        by_cases hq : 0 ≤ q ∧ q < (ps.length : Int)
        · exact .inr (Classical.byContradiction fun h => hc ⟨hq, h⟩)
        · exact .inl hq
theorem reach_good {ps : List Place} {p : Int} (hp : 0 ≤ p ∧ p < (ps.length : Int)) : Good ps p (Al.reach ps p) :=
  go_good hp _ _ _ rfl Al.RI.nil ⟨fun h => absurd h (by simp), fun _ => rfl, fun i hi => absurd hi (by simp), fun h => absurd h (by simp)⟩
/-! ### the way lies below -/
theorem walk_of {b : Basin} {p : Int} {L : List Gr.Arc} (hm : ∀ a, a ∈ arcs b → a ∈ L) {R : List Int} (hR : Al.RI b.Places.length R) (hg : Good b.Places p R) : ∀ i, i < R.length → Gr.Walk L i p (R.getD i 0)
  | 0, _ => by rw [hg.fst.2]; exact .nil p
  | i + 1, hi => by
    have h1 := walk_of hm hR hg i (by omega)
    have h2 : (b.Places.getD (R.getD i 0).toNat default).Down = R.getD (i + 1) 0 := (hg.step i hi).1
    have mem : ∀ j, j < R.length → R.getD j 0 ∈ R := fun j hj => by simp [hj]
    have hx := hR.2 _ (mem i (by omega))
    have hy := hR.2 _ (mem (i + 1) hi)
    refine h1.snoc (hm _ ?_)
    have := aL_sub (b := b) (aP_mem (ps := b.Places) (i := (R.getD i 0).toNat) (by rw [h2]; exact hy.1) b.Places.length (by omega)) b.Links.length
    rw [h2, Int.toNat_of_nonneg hx.1] at this
    exact this
theorem way_down {b : Basin} (hb : RB b) {p : Int} (hp : 0 ≤ p ∧ p < (b.Places.length : Int)) {L : List Gr.Arc} (hl : L.length ≤ (arcs b).length) (hm : ∀ a, a ∈ L ↔ a ∈ arcs b) {i : Nat} (hi : i < (Al.reach b.Places p).length) :
    (Al.reach b.Places p).getD i 0 ∈ Gr.downM (b.Places.length : Int) L p := by
  have hr := right_of hb hl fun a ha => (hm a).1 ha
  have hok := (Gr.right_ok hr).2.2
  have hR := Al.reach_ri b.Places p
  have hwalk := walk_of (fun a ha => (hm a).2 ha) hR (reach_good hp) i hi
  have hx := hR.2 _ (show (Al.reach b.Places p).getD i 0 ∈ Al.reach b.Places p by simp [hi])
  unfold Gr.downM
  rw [if_pos ⟨hr, hp.1, hp.2⟩, Gr.reachL_mem]
  refine ⟨hx.1, by rw [Int.toNat_natCast]; exact hx.2, ?_⟩
  rw [Int.toNat_natCast]
  rw [Int.toNat_natCast] at hok
  have hD := Gr.distL_is (v := p) hok hp
  rcases hD.2 _ hx.1 hx.2 with h | h
  · exact absurd hwalk (h.2 i)
  · exact h.1
end Ad
namespace Go.Proofs.Ytpeojogjeopfaaa
open Go Go.K Go.RowKit
theorem isPlace_c (w : World) (Φ : Hp) (hΦ : Hp.le Φ (hp w)) {b : Bt.Basin} {cs : List Value} (hB : RepV Φ b cs) {p : Int} :
  Calls pg 28 #[.agg cs.toArray, iV p] w fun e w' => e = .returned (.bool (Al.isP b.Places p)) ∧ Bel w.heap.size w w' := by
 obtain ⟨v1, v3, v4, v5, v6, v7, v8, v9, hcs, hBw, r1, r3, r4, r5, r6, r7, r8, r9⟩ := (show Rep.rep Φ b cs from hB)
 subst hcs
 have hpm : b.Places.length * 152 ≤ 140737488355328 := r3.max
 refine calls_of_AW (args := [.agg (cl31 b v1 v3 v4 v5 v6 v7 v8 v9).toArray, iV p]) Try.func28 rfl (lBT rfl) (St ⟨w, Φ, []⟩ Φ []) (StP.init w Φ hΦ []) ?_
 show AW pg 14 [] _ _ _ [(0, .agg (cl31 b v1 v3 v4 v5 v6 v7 v8 v9).toArray), (1, iV p)] _
 refine AW.seq (AW.region (RW.eff (fun b1 : Nat => pV b1 0) (fun b1 => St ⟨w, Φ, []⟩ Φ [.blk b1 31 (cl31 b v1 v3 v4 v5 v6 v7 v8 v9)]) rfl (e_boxA (cs := cl31 b v1 v3 v4 v5 v6 v7 v8 v9) rfl) ?_))
 intro b1
 refine RW.q (v := .bool false) rfl (q_assign rfl) (RW.nil (Post.then_n (AW.seq (AW.region (RW.q rfl (q_move rfl) (RW.q (v := .bool (decide ((0 : Int) ≤ p))) rfl (q_geq rfl rfl) (RW.q rfl (q_move rfl) (RW.g (b := (decide ((0 : Int) ≤ p))) (v := iV p) rfl rfl rfl (fun h => q_move rfl) (RW.g (b := (decide ((0 : Int) ≤ p))) (v := pV b1 3) rfl rfl rfl (fun h => q_fieldAddr rfl uT31 rfl sz23 rfl) ?_)))))))))
 refine RW.g (b := (decide ((0 : Int) ≤ p))) (v := v3) rfl rfl rfl (fun h => q_load (gv_pos h) uT23 rfl (Cell.blk 0 rfl rfl)) (RW.g (b := (decide ((0 : Int) ≤ p))) (v := iV (b.Places.length : Int)) rfl rfl rfl (fun h => q_len_sl (gv_pos h) r3.sl uT23) (RW.g (b := (decide ((0 : Int) ≤ p))) (v := .bool (decide (p < (b.Places.length : Int)))) rfl rfl rfl (fun h => q_lss (gv_pos h) (gv_pos h)) ?_))
 obtain ⟨qb1, hqb1⟩ : ∃ qz : Bool, ((decide ((0 : Int) ≤ p)) && (decide (p < (b.Places.length : Int)))) = qz := ⟨_, rfl⟩
 refine RW.q (v := .bool qb1) rfl (q_as (v := .bool ((decide ((0 : Int) ≤ p)) && (decide (p < (b.Places.length : Int))))) (qpA rfl rfl rfl) (congrArg Value.bool hqb1)) (RW.q (v := .bool qb1) rfl (q_assign rfl) ?_)
 subst hqb1
 refine RW.nil (Post.then_n (AW.ret ?_))
 exact fin_val (v' := .bool ((decide ((0 : Int) ≤ p)) && (decide (p < (b.Places.length : Int))))) rfl rfl rfl (rfl)
theorem Has_c (w : World) (Φ : Hp) (hΦ : Hp.le Φ (hp w)) {xs : List Int} {v1 : Value} {v : Int} (h1 : RepSl Φ xs v1) :
  Calls pg 21 #[v1, iV v] w fun e w' => e = .returned (.bool (decide (v ∈ xs))) ∧ Bel w.heap.size w w' := by
 refine calls_of_AW (args := [v1, iV v]) Try.func21 rfl (lBT rfl) (St ⟨w, Φ, []⟩ Φ []) (StP.init w Φ hΦ []) ?_
 show AW pg 18 [] _ _ _ [(0, v1), (1, iV v)] _
 have hm1 : xs.length * 8 ≤ 140737488355328 := h1.max
 refine AW.seq (AW.region (RW.q (v := .bool false) rfl (q_assign rfl) (RW.nil (Post.then_n (AW.seq (AW.seq (AW.region (RW.q (v := iV 0) rfl (q_assign rfl) (RW.nil ?_)))))))))
 refine Post.then_n (AW.block (AW.loop (fun s J m => ∃ (k : Nat), s = [(0, v1), (1, iV v), (5, iV (k : Int))] ∧ J = St ⟨w, Φ, []⟩ Φ [] ∧ m = xs.length - k ∧ (k ≤ xs.length) ∧ (∀ j, j < k → xs.getD j 0 ≠ v)) (s0 := _) (J1 := _) (m0 := _) ⟨0, rfl, rfl, rfl, (by omega), (by omega)⟩ ⟨rfl, rfl, rfl, trivial⟩ (fun _ h => h) ?_))
 rintro _ _ _ _ ⟨k, rfl, rfl, rfl, hk, heq⟩
 refine AW.seq (AW.seq (AW.region (RW.q rfl (q_move rfl) (RW.q rfl (q_move rfl) (RW.q (v := iV (xs.length : Int)) rfl (q_len_sl rfl h1.sl uT29) (RW.q (v := .bool (decide ((k : Int) < (xs.length : Int)))) rfl (q_lss rfl rfl) (RW.nil (Post.then_n (AW.cond (b := decide ((k : Int) < (xs.length : Int))) rfl (fun hc1 => ?_) (fun hc1 => ?_))))))))))
 ·
  simp [-List.getD_eq_getElem?_getD] at hc1
  refine AW.skip (Post.then_n (AW.seq (AW.block (AW.seq (AW.region (RW.q rfl (q_move rfl) (RW.q rfl (q_move rfl) (RW.q (v := .pointer (some (Value.at v1 (k * 1)))) rfl (q_indexAddr rfl rfl h1.sl uT29 sz3 (by omega) (by omega) rfl) (RW.q (v := iV (xs.getD k 0)) rfl (q_load rfl uT3 rfl (Cell.repInt h1 (by omega))) ?_)))))))))
  refine RW.q rfl (q_move rfl) (RW.q (v := .bool (decide (xs.getD k 0 = v))) rfl (q_eql rfl rfl) (RW.nil (Post.then_n (AW.cond (b := decide (xs.getD k 0 = v)) rfl (fun hc2 => ?_) (fun hc2 => ?_)))))
  ·
   simp [-List.getD_eq_getElem?_getD] at hc2
   refine AW.seq (AW.region (RW.q (v := .bool true) rfl (q_assign rfl) (RW.nil (Post.then_n (AW.ret (Post.blk_r (Post.then_r (Post.then_r (Post.blk_r (Post.then_r ?_))))))))))
   exact fin_val (v' := .bool true) rfl rfl rfl (by rw [Al.has_t (by omega) hc2])
  ·
   simp [-List.getD_eq_getElem?_getD] at hc2
   refine AW.skip (Post.blk_n (Post.then_n ?_))
   refine AW.region (RW.q rfl (q_move rfl) (RW.q (v := iV ((k + 1 : Nat) : Int)) rfl (q_add rfl rfl (by omega) (by unfold I64; omega)) (RW.q (v := iV ((k + 1 : Nat) : Int)) rfl (q_assign rfl) (RW.nil ?_))))
   exact Post.back (s' := _) (J' := _) (m' := _) (by omega) ⟨k + 1, rfl, rfl, rfl, (by omega), (Al.lt_succ heq hc2)⟩ ⟨rfl, rfl, rfl, trivial⟩ (fun _ h => h)
 ·
  simp [-List.getD_eq_getElem?_getD] at hc1
  refine AW.exit (Post.then_x (Post.then_x (Post.blk_hit (Post.then_n ?_))))
  refine AW.seq (AW.region (RW.q (v := .bool false) rfl (q_assign rfl) (RW.nil (Post.then_n (AW.ret ?_)))))
  exact fin_val (v' := .bool false) rfl rfl rfl (by rw [Al.has_f (fun j hj => heq j (by omega))])
theorem Reach_c (w : World) (Φ : Hp) (hΦ : Hp.le Φ (hp w)) {b : Bt.Basin} {cs : List Value} (hB : RepV Φ b cs) {p : Int} :
  Calls pg 14 #[.agg cs.toArray, iV p] w (RetS noHp w fun r Ψ => RepSl Ψ (Al.reach b.Places p) r) := by
 obtain ⟨v1, v3, v4, v5, v6, v7, v8, v9, hcs, hBw, r1, r3, r4, r5, r6, r7, r8, r9⟩ := (show Rep.rep Φ b cs from hB)
 subst hcs
 have hpm : b.Places.length * 152 ≤ 140737488355328 := r3.max
 refine calls_of_AW (args := [.agg (cl31 b v1 v3 v4 v5 v6 v7 v8 v9).toArray, iV p]) Try.func14 rfl (lBT rfl) (St ⟨w, Φ, []⟩ Φ []) (StP.init w Φ hΦ []) ?_
 show AW pg 42 [] _ _ _ [(0, .agg (cl31 b v1 v3 v4 v5 v6 v7 v8 v9).toArray), (1, iV p)] _
 refine AW.seq (AW.region (RW.eff (fun b1 : Nat => pV b1 0) (fun b1 => St ⟨w, Φ, []⟩ Φ [.blk b1 31 (cl31 b v1 v3 v4 v5 v6 v7 v8 v9)]) rfl (e_boxA (cs := cl31 b v1 v3 v4 v5 v6 v7 v8 v9) rfl) ?_))
 intro b1
 refine RW.q (v := nS) rfl (q_assign rfl) (RW.nil (Post.then_n (AW.seq (AW.region (RW.q (v := nS) rfl (q_assign rfl) (RW.nil (Post.then_n (AW.seq (AW.region ?_)))))))))
 refine RW.q (v := pV b1 3) rfl (q_fieldAddr rfl uT31 rfl sz23 rfl) (RW.q (v := v3) rfl (q_load rfl uT23 rfl (Cell.blk 0 rfl rfl)) (RW.q (v := iV (b.Places.length : Int)) rfl (q_len_sl rfl r3.sl uT23) (RW.eff (fun b2 : Nat => (.slice (some ⟨b2, 0, none⟩) b.Places.length b.Places.length)) (fun b2 => St ⟨w, Φ, []⟩ Φ [.row (.slice (some ⟨b2, 0, none⟩) b.Places.length b.Places.length) 4 1 b.Places.length ((List.replicate b.Places.length false).map Value.bool), .blk b1 31 (cl31 b v1 v3 v4 v5 v6 v7 v8 v9)]) rfl (e_makeSlice rfl rfl uT52 inf4 (by omega) (by omega) (by omega) rfl (made_bool (n := b.Places.length) (by omega))) ?_)))
 intro b2
 refine RW.q (v := (.slice (some ⟨b2, 0, none⟩) b.Places.length b.Places.length)) rfl (q_assign rfl) (RW.nil (Post.then_n (AW.seq (AW.block (AW.loop (fun s J m => ∃ (cur : Int), ∃ (L : List Int), ∃ (lv : Value), s = [(2, pV b1 0), (6, (.slice (some ⟨b2, 0, none⟩) b.Places.length b.Places.length)), (1, iV cur), (5, lv)] ∧ J = St ⟨w, Φ, []⟩ Φ [.row lv 3 1 L.length (L.map (Value.int .i64)), .row (.slice (some ⟨b2, 0, none⟩) b.Places.length b.Places.length) 4 1 b.Places.length ((Al.seenL b.Places.length L).map Value.bool), .blk b1 31 (cl31 b v1 v3 v4 v5 v6 v7 v8 v9)] ∧ m = b.Places.length - L.length ∧ (Al.RI b.Places.length L) ∧ (Al.reachGo b.Places (b.Places.length + 1 - L.length) cur L = Al.reach b.Places p) ∧ (IsSl lv L.length)) (s0 := _) (J1 := _) (m0 := _) ⟨p, [], _, rfl, rfl, rfl, Al.RI.nil, rfl, isSl_nil⟩ ⟨rfl, rfl, rfl, rfl, trivial⟩ (fun _ h => by rw [Al.seenL_nil]; exact addNil h) ?_)))))
 rintro _ _ _ _ ⟨cur, L, lv, rfl, rfl, rfl, hRI, hgo, hlv⟩
 have hLl := hRI.len
 have hLm : L.length * 8 ≤ maxSl := by simp only [maxSl]; omega
 have hLw : ∀ x ∈ L, I64 x := fun x hx => by have := hRI.2 x hx; unfold I64; omega
 refine AW.seq (AW.seq ?_)
 have hsl := Al.seenL_len b.Places.length L
 refine AW.region (RW.q (v := .agg (cl31 b v1 v3 v4 v5 v6 v7 v8 v9).toArray) rfl (q_loadAgg rfl uT31 rfl sz31 rfl (Cells.blk 2 rfl)) (RW.q rfl (q_move rfl) (RW.q (v := .bool (decide (0 ≤ cur) && decide (cur < (b.Places.length : Int)))) rfl (q_call (args := #[.agg (cl31 b v1 v3 v4 v5 v6 v7 v8 v9).toArray, iV cur]) oK rfl rfl (fun w1 hw1 => isPlace_c w1 (Go.K.hp w1) (Hp.le_refl _) (hB.mono hw1.phi))) (RW.q rfl (q_move rfl) (RW.g (b := (decide (0 ≤ cur) && decide (cur < (b.Places.length : Int)))) (v := (.slice (some ⟨b2, 0, none⟩) b.Places.length b.Places.length)) rfl rfl rfl (fun h => q_move rfl) (RW.g (b := (decide (0 ≤ cur) && decide (cur < (b.Places.length : Int)))) (v := iV cur) rfl rfl rfl (fun h => q_move rfl) (RW.g (b := (decide (0 ≤ cur) && decide (cur < (b.Places.length : Int)))) (v := .pointer (some (Value.at (.slice (some ⟨b2, 0, none⟩) b.Places.length b.Places.length) (cur.toNat * 1)))) rfl rfl rfl (fun h => q_indexAddr (gv_pos h) (gv_pos h) isSl_mk uT52 sz4 (by (try simp [-List.getD_eq_getElem?_getD] at h); omega) (by (try simp [-List.getD_eq_getElem?_getD] at h); omega) rfl) ?_)))))))
 refine RW.g (b := (decide (0 ≤ cur) && decide (cur < (b.Places.length : Int)))) (v := .bool ((Al.seenL b.Places.length L).getD cur.toNat false)) rfl rfl rfl (fun h => q_load (gv_pos h) uT4 rfl (Cell.rowBool 1 rfl (by (try simp [-List.getD_eq_getElem?_getD] at h); omega))) ?_
 refine RW.g (b := (decide (0 ≤ cur) && decide (cur < (b.Places.length : Int)))) (v := .bool (!((Al.seenL b.Places.length L).getD cur.toNat false))) rfl rfl rfl (fun h => q_not (gv_pos h)) ?_
 obtain ⟨qb1, hqb1⟩ : ∃ qz : Bool, ((decide (0 ≤ cur) && decide (cur < (b.Places.length : Int))) && (!((Al.seenL b.Places.length L).getD cur.toNat false))) = qz := ⟨_, rfl⟩
 refine RW.q (v := .bool qb1) rfl (q_as (v := .bool ((decide (0 ≤ cur) && decide (cur < (b.Places.length : Int))) && (!((Al.seenL b.Places.length L).getD cur.toNat false)))) (qpA rfl rfl rfl) (congrArg Value.bool hqb1)) ?_
 subst hqb1
 refine RW.nil (Post.then_n (AW.cond (b := ((decide (0 ≤ cur) && decide (cur < (b.Places.length : Int))) && (!((Al.seenL b.Places.length L).getD cur.toNat false)))) rfl (fun hc1 => ?_) (fun hc1 => ?_)))
 ·
  simp [-List.getD_eq_getElem?_getD] at hc1
  refine AW.skip (Post.then_n (AW.block (AW.seq ?_)))
  have hin : 0 ≤ cur ∧ cur < b.Places.length := hc1.1
  have hnL : cur ∉ L := by
   have h := hc1.2
   rw [Al.seenL_get (by omega), Int.toNat_of_nonneg hin.1] at h
   simpa using h
  have hLs := (hRI.snoc hin hnL).len
  rw [List.length_append, List.length_singleton] at hLs
  refine AW.region (RW.q rfl (q_move rfl) (RW.q rfl (q_move rfl) (RW.q (v := .pointer (some (Value.at (.slice (some ⟨b2, 0, none⟩) b.Places.length b.Places.length) (cur.toNat * 1)))) rfl (q_indexAddr rfl rfl isSl_mk uT52 sz4 (by omega) (by omega) rfl) (RW.effn (J' := St ⟨w, Φ, []⟩ Φ [.row lv 3 1 L.length (L.map (Value.int .i64)), .row (.slice (some ⟨b2, 0, none⟩) b.Places.length b.Places.length) 4 1 b.Places.length (((Al.seenL b.Places.length L).set cur.toNat true).map Value.bool), .blk b1 31 (cl31 b v1 v3 v4 v5 v6 v7 v8 v9)]) (e_storeRow (v := .bool true) 1 rfl rfl rfl sz4 rfl rfl (by simp [-List.getD_eq_getElem?_getD]; omega) (splice_bool (by omega)) rfl) ?_))))
  refine RW.nil (Post.then_n (AW.seq (AW.region (RW.q rfl (q_move rfl) (RW.q rfl (q_move rfl) (RW.eff (fun b3 : Nat => (.slice (some ⟨b3, 0, none⟩) 1 1)) (fun b3 => St ⟨w, Φ, []⟩ Φ [.row (.slice (some ⟨b3, 0, none⟩) 1 1) 3 1 1 ([iV cur]), .row lv 3 1 L.length (L.map (Value.int .i64)), .row (.slice (some ⟨b2, 0, none⟩) b.Places.length b.Places.length) 4 1 b.Places.length (((Al.seenL b.Places.length L).set cur.toNat true).map Value.bool), .blk b1 31 (cl31 b v1 v3 v4 v5 v6 v7 v8 v9)]) rfl (e_buildSlice (vals := [(0, iV cur)]) (cells := [iV cur]) uT29 inf3 rfl rfl rfl (by kernel_rfl) rfl) ?_))))))
  intro b3
  refine RW.eff (fun xv : {vq : Value // IsSl vq (L.length + 1)} => xv.1) (fun xv => St ⟨w, Φ, []⟩ Φ [.row (.slice (some ⟨b3, 0, none⟩) 1 1) 3 1 1 ([iV cur]), .row xv.1 3 1 ((L ++ [cur]).length) ((L ++ [cur]).map (Value.int .i64)), .row (.slice (some ⟨b2, 0, none⟩) b.Places.length b.Places.length) 4 1 b.Places.length (((Al.seenL b.Places.length L).set cur.toNat true).map Value.bool), .blk b1 31 (cl31 b v1 v3 v4 v5 v6 v7 v8 v9)]) rfl (e_append 1 rfl rfl rfl uT29 inf3 rfl rfl rfl (Cells.row0 0 rfl) rfl (by omega) (by omega) (fun _ => by simp)) ?_
  rintro ⟨va1, hva1⟩
  refine RW.wk (J' := St ⟨w, Φ, []⟩ Φ [.row va1 3 1 ((L ++ [cur]).length) ((L ++ [cur]).map (Value.int .i64)), .row (.slice (some ⟨b2, 0, none⟩) b.Places.length b.Places.length) 4 1 b.Places.length (((Al.seenL b.Places.length L).set cur.toNat true).map Value.bool), .blk b1 31 (cl31 b v1 v3 v4 v5 v6 v7 v8 v9)]) (fun _ h => StP.drop h (by exact .cons _ (.cons_cons _ (.cons_cons _ (.cons_cons _ (.slnil)))))) (RW.q (v := va1) rfl (q_assign rfl) (RW.nil (Post.then_n (AW.seq (AW.seq (AW.region (RW.q (v := pV b1 3) rfl (q_fieldAddr rfl uT31 rfl sz23 rfl) (RW.q (v := v3) rfl (q_load rfl uT23 rfl (Cell.blk 2 rfl rfl)) (RW.q rfl (q_move rfl) ?_)))))))))
  refine RW.q (v := .pointer (some (Value.at v3 (cur.toNat * 12)))) rfl (q_indexAddr rfl rfl r3.sl uT23 sz62 (by omega) (by omega) rfl) (RW.q (v := .pointer (some (Value.at v3 (cur.toNat * 12 + 9)))) rfl (q_fieldAddr rfl uT62 rfl sz3 at_add) (RW.q (v := iV ((b.Places.getD cur.toNat default).Delay)) rfl (q_load rfl uT3 rfl (Cell.repJ (j := 9) r3 (by omega) (fun h => leaf62_9 h))) (RW.q (v := .bool (decide ((24 : Int) ≤ (b.Places.getD cur.toNat default).Delay))) rfl (q_geq rfl rfl) (RW.nil (Post.then_n (AW.cond (b := decide ((24 : Int) ≤ (b.Places.getD cur.toNat default).Delay)) rfl (fun hc2 => ?_) (fun hc2 => ?_)))))))
  ·
   simp [-List.getD_eq_getElem?_getD] at hc2
   refine AW.exit (Post.then_x (Post.blk_miss rfl (Post.then_x (Post.blk_hit (Post.then_n ?_)))))
   refine AW.seq (AW.region (RW.q rfl (q_move rfl) (RW.q (v := va1) rfl (q_assign rfl) (RW.nil (Post.then_n (AW.ret ?_))))))
   have hres : Al.reach b.Places p = L ++ [cur] := hgo.symm.trans (Al.reach_last hRI hin hnL hc2)
   rw [hres]
   refine fin_rep rfl rfl rfl (fun w' hw => RowS.ints (row_ext hw 0 rfl) (by simp only [maxSl, List.length_append, List.length_singleton]; omega) (fun x hx => ?_))
   have hx : x ∈ L ++ [cur] := hx
   have hxr : 0 ≤ x ∧ x < b.Places.length := by
    exact (hRI.snoc hin hnL).2 x hx
   unfold I64; omega
  ·
   simp [-List.getD_eq_getElem?_getD] at hc2
   refine AW.skip (Post.then_n (AW.region (RW.q (v := pV b1 3) rfl (q_fieldAddr rfl uT31 rfl sz23 rfl) (RW.q (v := v3) rfl (q_load rfl uT23 rfl (Cell.blk 2 rfl rfl)) (RW.q rfl (q_move rfl) (RW.q (v := .pointer (some (Value.at v3 (cur.toNat * 12)))) rfl (q_indexAddr rfl rfl r3.sl uT23 sz62 (by omega) (by omega) rfl) (RW.q (v := .pointer (some (Value.at v3 (cur.toNat * 12 + 8)))) rfl (q_fieldAddr rfl uT62 rfl sz3 at_add) (RW.q (v := iV ((b.Places.getD cur.toNat default).Down)) rfl (q_load rfl uT3 rfl (Cell.repJ (j := 8) r3 (by omega) (fun h => leaf62_8 h))) (RW.q (v := iV ((b.Places.getD cur.toNat default).Down)) rfl (q_assign rfl) ?_)))))))))
   refine RW.nil (Post.blk_n ?_)
   exact Post.back (s' := _) (J' := _) (m' := _) (by simp; omega) ⟨(b.Places.getD cur.toNat default).Down, L ++ [cur], va1, rfl, rfl, rfl, (hRI.snoc hin hnL), (by rw [← hgo, Al.reach_step hRI hin hnL hc2]), (by simpa using hva1)⟩ ⟨rfl, rfl, rfl, rfl, trivial⟩ (fun _ h => by rw [← Al.seenL_set hin]; simpa using h)
 ·
  simp [-List.getD_eq_getElem?_getD] at hc1
  refine AW.exit (Post.then_x (Post.then_x (Post.blk_hit (Post.then_n ?_))))
  refine AW.seq ?_
  have hns : ¬ ((0 ≤ cur ∧ cur < b.Places.length) ∧ cur ∉ L) := fun h => by
   have h2 := hc1 h.1.1 h.1.2
   rw [Al.seenL_get (by omega), Int.toNat_of_nonneg h.1.1] at h2
   exact h.2 (by simpa using h2)
  refine AW.region (RW.q rfl (q_move rfl) (RW.q (v := lv) rfl (q_assign rfl) (RW.nil (Post.then_n (AW.ret ?_)))))
  have hres : Al.reach b.Places p = L := hgo.symm.trans (Al.reach_stop hRI hns)
  rw [hres]
  refine fin_rep rfl rfl rfl (fun w' hw => RowS.ints (row_ext hw 0 rfl) (by simp only [maxSl]; omega) (fun x hx => ?_))
  have hx : x ∈ L := hx
  have hxr : 0 ≤ x ∧ x < b.Places.length := by
   exact hRI.2 x hx
  unfold I64; omega
end Go.Proofs.Ytpeojogjeopfaaa
