/- Plain facts on directed graphs (breadth first search, orders): no program in sight. Conditions: none. -/
namespace Gr

structure Arc where
  From : Int
  To : Int
  deriving Inhabited, DecidableEq

def succs (arcs : List Arc) (v : Int) : List Int := (arcs.filter fun a => decide (a.From = v)).map (·.To)
def rev (arcs : List Arc) : List Arc := arcs.map fun a => ⟨a.To, a.From⟩

/-- the ends of all arcs are nodes -/
def Ok (n : Nat) (arcs : List Arc) : Prop := ∀ a ∈ arcs, (0 ≤ a.From ∧ a.From < n) ∧ (0 ≤ a.To ∧ a.To < n)
theorem Ok.rev {n arcs} (h : Ok n arcs) : Ok n (rev arcs) := fun a ha => by
  obtain ⟨b, hb, rfl⟩ := List.mem_map.1 ha
  exact ⟨(h b hb).2, (h b hb).1⟩
theorem mem_succs {arcs v w} : w ∈ succs arcs v ↔ (⟨v, w⟩ : Arc) ∈ arcs := by
  unfold succs
  simp only [List.mem_map, List.mem_filter, decide_eq_true_eq]
  constructor
  · rintro ⟨⟨a, b⟩, ⟨h1, h2⟩, h3⟩
    simp only at h2 h3
    subst h2; subst h3; exact h1
  · exact fun h => ⟨_, ⟨h, rfl⟩, rfl⟩
theorem mem_rev {arcs : List Arc} {v w : Int} : (⟨v, w⟩ : Arc) ∈ rev arcs ↔ (⟨w, v⟩ : Arc) ∈ arcs := by
  unfold rev
  simp only [List.mem_map]
  constructor
  · rintro ⟨⟨a, b⟩, h1, h2⟩
    simp only [Arc.mk.injEq] at h2
    obtain ⟨rfl, rfl⟩ := h2; exact h1
  · exact fun h => ⟨_, h, rfl⟩

/-- a way of k arcs -/
inductive Walk (arcs : List Arc) : Nat → Int → Int → Prop
  | nil (v : Int) : Walk arcs 0 v v
  | snoc {k : Nat} {u v w : Int} (h : Walk arcs k u v) (ha : (⟨v, w⟩ : Arc) ∈ arcs) : Walk arcs (k + 1) u w

/-! ### breadth first search as the code does it -/
abbrev St := List Int × List Int
def visit (u : Int) (st : St) (w : Int) : St := if st.1.getD w.toNat 0 < 0 then (st.1.set w.toNat (st.1.getD u.toNat 0 + 1), st.2 ++ [w]) else st
def step (arcs : List Arc) (st : St) (i : Nat) : St := (succs arcs (st.2.getD i 0)).foldl (visit (st.2.getD i 0)) st
def start (n : Nat) (v : Int) : St := ((List.replicate n (-1)).set v.toNat 0, [v])
def bfs (n : Nat) (arcs : List Arc) (v : Int) : Nat → St
  | 0 => start n v
  | i + 1 => if i < (bfs n arcs v i).2.length then step arcs (bfs n arcs v i) i else bfs n arcs v i

def D (st : St) (w : Int) : Int := st.1.getD w.toNat 0

theorem nat_nodup_le : ∀ (n : Nat) (l : List Nat), l.Nodup → (∀ x ∈ l, x < n) → l.length ≤ n
  | 0, l, _, h => by
    cases l with
    | nil => simp
    | cons a l => have := h a (by simp); omega
  | n + 1, l, hn, h => by
    have h1 := nat_nodup_le n (l.erase n) (hn.erase n) (fun x hx => by
      have hx' := (hn.mem_erase_iff).1 hx
      have := h x hx'.2
      omega)
    by_cases hm : n ∈ l
    · rw [List.length_erase_of_mem hm] at h1; omega
    · rw [List.erase_of_not_mem hm] at h1; omega

theorem int_nodup_le {n : Nat} {l : List Int} (hn : l.Nodup) (hb : ∀ w ∈ l, 0 ≤ w ∧ w < n) : l.length ≤ n := by
  have h1 : (l.map Int.toNat).Nodup := by
    rw [List.nodup_iff_pairwise_ne, List.pairwise_map]
    refine List.Pairwise.imp_of_mem ?_ (List.nodup_iff_pairwise_ne.1 hn)
    intro a b ha hb' hab heq
    have := hb a ha; have := hb b hb'; exact hab (by omega)
  have h2 := nat_nodup_le n (l.map Int.toNat) h1 (fun x hx => by
    obtain ⟨w, hw, rfl⟩ := List.mem_map.1 hx
    have := hb w hw; omega)
  simpa using h2

/-- what holds of a state -/
structure Inv0 (n : Nat) (arcs : List Arc) (v : Int) (st : St) : Prop where
  len : st.1.length = n
  val : ∀ w : Int, 0 ≤ w → w < n → D st w = -1 ∨ (0 ≤ D st w ∧ w ∈ st.2)
  q : ∀ w ∈ st.2, 0 ≤ w ∧ w < n ∧ 0 ≤ D st w ∧ Walk arcs (D st w).toNat v w
  nodup : st.2.Nodup
  first : st.2.head? = some v ∧ D st v = 0
  small : ∀ w ∈ st.2, D st w < st.2.length
  sorted : st.2.Pairwise fun a b => D st a ≤ D st b

/-- the state has grown -/
def Grows (st st' : St) : Prop := (∃ t, st'.2 = st.2 ++ t) ∧ ∀ x ∈ st.2, D st' x = D st x
theorem Grows.refl (st : St) : Grows st st := ⟨⟨[], by simp⟩, fun _ _ => rfl⟩
theorem Grows.trans {a b c : St} (h : Grows a b) (k : Grows b c) : Grows a c := by
  obtain ⟨⟨t, ht⟩, h2⟩ := h
  obtain ⟨⟨t', ht'⟩, k2⟩ := k
  exact ⟨⟨t ++ t', by rw [ht', ht, List.append_assoc]⟩, fun x hx => (k2 x (by rw [ht]; simp [hx])).trans (h2 x hx)⟩

theorem D_set {st : St} {n : Nat} {w x : Int} {d : Int} {q : List Int} (hl : st.1.length = n) (hw : 0 ≤ w ∧ w < n) (hx : 0 ≤ x) : D (st.1.set w.toNat d, q) x = if x = w then d else D st x := by
  unfold D
  simp only [List.getD_eq_getElem?_getD, List.getElem?_set]
  by_cases h : x = w
  · subst h; have : x.toNat < n := by omega
    simp [hl, this]
  · rw [if_neg (by omega), if_neg h]

theorem visit_inv {n : Nat} {arcs : List Arc} {v u w : Int} {st : St} (h : Inv0 n arcs v st) (hb : ∀ x ∈ st.2, D st x ≤ D st u + 1) (hu : u ∈ st.2) (hw : 0 ≤ w ∧ w < n) (ha : (⟨u, w⟩ : Arc) ∈ arcs) :
    Inv0 n arcs v (visit u st w) ∧ (∀ x ∈ (visit u st w).2, D (visit u st w) x ≤ D (visit u st w) u + 1) ∧ w ∈ (visit u st w).2 ∧ Grows st (visit u st w) := by
  unfold visit
  by_cases hd : st.1.getD w.toNat 0 < 0
  · rw [if_pos hd]
    have hDw : D st w < 0 := hd
    have hnw : w ∉ st.2 := fun hm => by have := (h.q w hm).2.2.1; omega
    have hun : u ≠ w := fun e => hnw (e ▸ hu)
    have hqu := h.q u hu
    have hDu : st.1.getD u.toNat 0 = D st u := rfl
    rw [hDu]
    have hD : ∀ x : Int, 0 ≤ x → D (st.1.set w.toNat (D st u + 1), st.2 ++ [w]) x = if x = w then D st u + 1 else D st x := fun x hx => D_set h.len hw hx
    have hDo : ∀ x ∈ st.2, D (st.1.set w.toNat (D st u + 1), st.2 ++ [w]) x = D st x := fun x hx => by
      rw [hD x (h.q x hx).1, if_neg (fun e : x = w => hnw (e ▸ hx))]
    have hDn : D (st.1.set w.toNat (D st u + 1), st.2 ++ [w]) w = D st u + 1 := by rw [hD w hw.1, if_pos rfl]
    have hmem : ∀ x, x ∈ st.2 ++ [w] ↔ x ∈ st.2 ∨ x = w := fun x => by simp
    refine ⟨⟨by simp [h.len], ?_, ?_, ?_, ?_, ?_, ?_⟩, ?_, by simp, ⟨⟨[w], rfl⟩, hDo⟩⟩
    · intro x h0 hn
      by_cases hx : x = w
      · subst hx; right; rw [hDn]; exact ⟨by omega, by simp⟩
      · rw [hD x h0, if_neg hx]
        rcases h.val x h0 hn with h1 | h1
        · exact .inl h1
        · exact .inr ⟨h1.1, by simp [h1.2]⟩
    · intro x hx
      rcases (hmem x).1 hx with hx | rfl
      · rw [hDo x hx]; exact h.q x hx
      · rw [hDn]
        refine ⟨hw.1, hw.2, by omega, ?_⟩
        rw [show (D st u + 1).toNat = (D st u).toNat + 1 by omega]
        exact hqu.2.2.2.snoc ha
    · show (st.2 ++ [w]).Nodup
      rw [List.nodup_append]
      exact ⟨h.nodup, by simp, fun a ha' b hb' => by
        obtain rfl : b = w := by simpa using hb'
        exact fun e => hnw (e ▸ ha')⟩
    · refine ⟨?_, ?_⟩
      · show (st.2 ++ [w]).head? = _
        rw [List.head?_append, h.first.1]; rfl
      · rw [hDo v (by
          have := h.first.1
          exact List.mem_of_mem_head? (by rw [this]; rfl))]
        exact h.first.2
    · intro x hx
      show _ < ((st.2 ++ [w]).length : Int)
      rw [List.length_append]
      rcases (hmem x).1 hx with hx | rfl
      · rw [hDo x hx]; have := h.small x hx; simp; omega
      · rw [hDn]; have := h.small u hu; simp; omega
    · show (st.2 ++ [w]).Pairwise _
      rw [List.pairwise_append]
      refine ⟨List.Pairwise.imp_of_mem (fun {a b} ha' hb' hab => by rw [hDo a ha', hDo b hb']; exact hab) h.sorted, by simp, fun a ha' b hb' => ?_⟩
      obtain rfl : b = w := by simpa using hb'
      rw [hDo a ha', hDn]; exact hb a ha'
    · intro x hx
      rw [hDo u hu]
      rcases (hmem x).1 hx with hx | rfl
      · rw [hDo x hx]; exact hb x hx
      · rw [hDn]; omega
  · rw [if_neg hd]
    have hDw : ¬ D st w < 0 := hd
    refine ⟨h, hb, ?_, Grows.refl st⟩
    rcases h.val w hw.1 hw.2 with h1 | h1
    · omega
    · exact h1.2

theorem fold_inv {n : Nat} {arcs : List Arc} {v u : Int} : ∀ (l : List Int) (st : St), Inv0 n arcs v st → (∀ x ∈ st.2, D st x ≤ D st u + 1) → u ∈ st.2 → (∀ w ∈ l, (0 ≤ w ∧ w < (n : Int)) ∧ (⟨u, w⟩ : Arc) ∈ arcs) →
    Inv0 n arcs v (l.foldl (visit u) st) ∧ (∀ x ∈ (l.foldl (visit u) st).2, D (l.foldl (visit u) st) x ≤ D (l.foldl (visit u) st) u + 1) ∧ (∀ w ∈ l, w ∈ (l.foldl (visit u) st).2) ∧ Grows st (l.foldl (visit u) st)
  | [], st, h, hb, _, _ => ⟨h, hb, fun _ h => (by cases h), Grows.refl st⟩
  | w :: l, st, h, hb, hu, hl => by
    obtain ⟨h1, h2, h3, h4⟩ := visit_inv h hb hu (hl w (by simp)).1 (hl w (by simp)).2
    have hu' : u ∈ (visit u st w).2 := by obtain ⟨⟨t, ht⟩, _⟩ := h4; rw [ht]; simp [hu]
    obtain ⟨k1, k2, k3, k4⟩ := fold_inv l _ h1 h2 hu' (fun x hx => hl x (by simp [hx]))
    refine ⟨k1, k2, fun x hx => ?_, h4.trans k4⟩
    rcases List.mem_cons.1 hx with rfl | hx
    · obtain ⟨⟨t, ht⟩, _⟩ := k4; simp only [List.foldl_cons]; rw [ht]; simp [h3]
    · exact k3 x hx

theorem start_inv {n : Nat} {arcs : List Arc} {v : Int} (hv : 0 ≤ v ∧ v < (n : Int)) : Inv0 n arcs v (start n v) := by
  have hD : ∀ x : Int, 0 ≤ x → x < n → D (start n v) x = if x = v then 0 else -1 := fun x hx hxn => by
    have := D_set (st := (List.replicate n (-1), [])) (n := n) (w := v) (x := x) (d := 0) (q := [v]) (by simp) hv hx
    unfold start
    rw [this]
    split
    · rfl
    · simp [D, List.getD_eq_getElem?_getD, List.getElem?_replicate]; rw [if_pos (by omega)]; rfl
  refine ⟨by simp [start], fun w h0 hn => ?_, fun w hw => ?_, by simp [start], ⟨rfl, by rw [hD v hv.1 hv.2]; simp⟩, fun w hw => ?_, by simp [start]⟩
  · rw [hD w h0 hn]
    by_cases h : w = v
    · subst h; right; simp [start]
    · left; rw [if_neg h]
  · obtain rfl : w = v := by simpa [start] using hw
    rw [hD w hv.1 hv.2, if_pos rfl]
    exact ⟨hv.1, hv.2, by omega, .nil w⟩
  · obtain rfl : w = v := by simpa [start] using hw
    rw [hD w hv.1 hv.2, if_pos rfl]; simp [start]

/-- after i elements of the queue -/
structure InvI (n : Nat) (arcs : List Arc) (v : Int) (i : Nat) (st : St) : Prop extends Inv0 n arcs v st where
  done : ∀ j < i, ∀ u, st.2[j]? = some u → ∀ w, (⟨u, w⟩ : Arc) ∈ arcs → w ∈ st.2 ∧ D st w ≤ D st u + 1
  front : ∀ u, st.2[i]? = some u → ∀ x ∈ st.2, D st x ≤ D st u + 1

theorem bfs_inv {n : Nat} {arcs : List Arc} {v : Int} (hok : Ok n arcs) (hv : 0 ≤ v ∧ v < (n : Int)) : ∀ i, (∀ j < i, j < (bfs n arcs v j).2.length) → InvI n arcs v i (bfs n arcs v i)
  | 0, _ => by
    refine ⟨start_inv hv, fun j hj => by omega, fun u hu x hx => ?_⟩
    obtain rfl : x = v := by simpa [bfs, start] using hx
    obtain rfl : x = u := by simpa [bfs, start] using hu
    show D (start n x) x ≤ D (start n x) x + 1
    omega
  | i + 1, hi => by
    have ih := bfs_inv hok hv i (fun j hj => hi j (by omega))
    have hlt := hi i (by omega)
    have hui : (bfs n arcs v i).2[i]? = some ((bfs n arcs v i).2.getD i 0) := by simp [List.getD_eq_getElem?_getD, hlt]
    have hum : (bfs n arcs v i).2.getD i 0 ∈ (bfs n arcs v i).2 := List.mem_of_getElem? hui
    have hbs : bfs n arcs v (i + 1) = step arcs (bfs n arcs v i) i := by rw [bfs, if_pos hlt]
    rw [hbs]
    unfold step
    generalize hst : bfs n arcs v i = st at *
    generalize hu : st.2.getD i 0 = u at *
    obtain ⟨k1, k2, k3, k4⟩ := fold_inv (succs arcs u) st ih.toInv0 (ih.front u hui) hum (fun w hw => ⟨(hok _ (mem_succs.1 hw)).2, mem_succs.1 hw⟩)
    generalize hst' : (succs arcs u).foldl (visit u) st = st' at *
    obtain ⟨⟨t, ht⟩, hg⟩ := k4
    have hpre : ∀ j y, st.2[j]? = some y → st'.2[j]? = some y := fun j y hj => by
      rw [ht, List.getElem?_append_left (List.getElem?_eq_some_iff.1 hj).1]; exact hj
    refine ⟨k1, fun j hj y hy w hw => ?_, fun y hy x hx => ?_⟩
    · have hjlt : j < st.2.length := by omega
      have hy' : st.2[j]? = some y := by rw [ht, List.getElem?_append_left hjlt] at hy; exact hy
      by_cases hji : j = i
      · subst hji
        obtain rfl : u = y := Option.some.inj (hui.symm.trans hy')
        have hws := k3 w (mem_succs.2 hw)
        exact ⟨hws, k2 w hws⟩
      · obtain ⟨h1, h2⟩ := ih.done j (by omega) y hy' w hw
        exact ⟨by rw [ht]; simp [h1], by rw [hg w h1, hg y (List.mem_of_getElem? hy')]; exact h2⟩
    · have h1 := k2 x hx
      have h2 : D st' u ≤ D st' y := by
        have hs := List.pairwise_iff_getElem.1 k1.sorted
        have hil : i < st'.2.length := (List.getElem?_eq_some_iff.1 (hpre i u hui)).1
        have hyl : i + 1 < st'.2.length := (List.getElem?_eq_some_iff.1 hy).1
        have := hs i (i + 1) hil hyl (by omega)
        rw [(List.getElem?_eq_some_iff.1 (hpre i u hui)).2, (List.getElem?_eq_some_iff.1 hy).2] at this
        exact this
      omega

theorem bfs_len {n : Nat} {arcs : List Arc} {v : Int} {i : Nat} (h : InvI n arcs v i (bfs n arcs v i)) : (bfs n arcs v i).2.length ≤ n := int_nodup_le h.nodup fun w hw => ⟨(h.q w hw).1, (h.q w hw).2.1⟩

/-- the list of the distances from v: -1 where there is no way -/
def IsDist (n : Nat) (arcs : List Arc) (v : Int) (d : List Int) : Prop :=
  d.length = n ∧ ∀ w : Int, 0 ≤ w → w < n → (d.getD w.toNat 0 = -1 ∧ ∀ k, ¬ Walk arcs k v w) ∨ (0 ≤ d.getD w.toNat 0 ∧ d.getD w.toNat 0 < n ∧ Walk arcs (d.getD w.toNat 0).toNat v w ∧ ∀ k, Walk arcs k v w → d.getD w.toNat 0 ≤ k)

theorem bfs_dist {n : Nat} {arcs : List Arc} {v : Int} {i : Nat} (h : InvI n arcs v i (bfs n arcs v i)) (hi : (bfs n arcs v i).2.length ≤ i) : IsDist n arcs v (bfs n arcs v i).1 := by
  have hlen := bfs_len h
  generalize bfs n arcs v i = st at *
  have key : ∀ k w, Walk arcs k v w → w ∈ st.2 ∧ D st w ≤ k := by
    intro k w hw
    induction hw with
    | nil => exact ⟨List.mem_of_mem_head? (by rw [h.first.1]; rfl), by rw [h.first.2]; omega⟩
    | snoc hw' ha ih =>
      obtain ⟨h1, h2⟩ := ih h
      obtain ⟨j, hj⟩ := List.mem_iff_getElem?.1 h1
      obtain ⟨h3, h4⟩ := h.done j (by have := (List.getElem?_eq_some_iff.1 hj).1; omega) _ hj _ ha
      exact ⟨h3, by omega⟩
  refine ⟨h.len, fun w h0 hn => ?_⟩
  rcases h.val w h0 hn with h1 | ⟨h1, h2⟩
  · refine .inl ⟨h1, fun k hk => ?_⟩
    have h3 := h.q w (key k w hk).1
    have : D st w = -1 := h1
    omega
  · have h3 := h.q w h2
    have h4 := h.small w h2
    exact .inr ⟨h1, by have : D st w < n := by omega
                       exact this, h3.2.2.2, fun k hk => (key k w hk).2⟩

/-! ### what the small functions return -/
def okB (n : Int) (a : Arc) : Bool := decide (0 ≤ a.From) && decide (a.From < n) && decide (0 ≤ a.To) && decide (a.To < n)
def rightB (n : Int) (arcs : List Arc) : Bool := decide (0 ≤ n ∧ n ≤ 256 ∧ arcs.length ≤ 4096) && arcs.all (okB n)
theorem right_ok {n : Int} {arcs : List Arc} (h : rightB n arcs = true) : (0 ≤ n ∧ n ≤ 256) ∧ arcs.length ≤ 4096 ∧ Ok n.toNat arcs := by
  simp only [rightB, Bool.and_eq_true, decide_eq_true_eq, List.all_eq_true, okB] at h
  refine ⟨⟨h.1.1, h.1.2.1⟩, h.1.2.2, fun a ha => ?_⟩
  have := h.2 a ha
  omega
theorem right_f1 {n : Int} {arcs : List Arc} (h : ¬ (0 ≤ n ∧ n ≤ 256 ∧ arcs.length ≤ 4096)) : rightB n arcs = false := by
  simp only [rightB, decide_eq_false h, Bool.false_and]
theorem right_f2 {n : Int} {arcs : List Arc} {k : Nat} (hk : k < arcs.length) (h : ¬ (0 ≤ (arcs.getD k default).From ∧ (arcs.getD k default).From < n ∧ 0 ≤ (arcs.getD k default).To ∧ (arcs.getD k default).To < n)) : rightB n arcs = false := by
  cases hr : rightB n arcs with
  | false => rfl
  | true =>
    obtain ⟨h1, _, h3⟩ := right_ok hr
    have := h3 (arcs.getD k default) (by simp [List.getD_eq_getElem?_getD, hk])
    omega
theorem right_t {n : Int} {arcs : List Arc} (h1 : 0 ≤ n ∧ n ≤ 256 ∧ arcs.length ≤ 4096) (h : ∀ k, k < arcs.length → 0 ≤ (arcs.getD k default).From ∧ (arcs.getD k default).From < n ∧ 0 ≤ (arcs.getD k default).To ∧ (arcs.getD k default).To < n) : rightB n arcs = true := by
  simp only [rightB, Bool.and_eq_true, decide_eq_true_eq, List.all_eq_true, okB]
  refine ⟨h1, fun a ha => ?_⟩
  obtain ⟨k, hk, rfl⟩ := List.mem_iff_getElem.1 ha
  have := h k hk
  simp only [List.getD_eq_getElem?_getD, List.getElem?_eq_getElem hk, Option.getD_some] at this
  omega
/-- a property of the first k elements -/
theorem lt_succ {p : Nat → Prop} {k : Nat} (h : ∀ j, j < k → p j) (hk : p k) : ∀ j, j < k + 1 → p j := fun j hj => by
  rcases Nat.lt_or_ge j k with h1 | h1
  · exact h j h1
  · obtain rfl : j = k := by omega
    exact hk
theorem list_ext {xs ys : List Int} (hl : xs.length = ys.length) (h : ∀ j, j < xs.length → xs.getD j 0 = ys.getD j 0) : xs = ys := by
  apply List.ext_getElem hl
  intro i h1 h2
  have := h i h1
  simpa [List.getD_eq_getElem?_getD, h1, h2] using this
def atZ (l : List Int) (v : Int) : Int := if v ∈ l then (l.idxOf v : Int) else -1
theorem atZ_hit {l : List Int} {v : Int} {k : Nat} (hk : k < l.length) (h : ∀ j, j < k → l.getD j 0 ≠ v) (hv : l.getD k 0 = v) : atZ l v = k := by
  induction l generalizing k with
  | nil => simp at hk
  | cons a l ih =>
    unfold atZ
    match k, hk, h, hv with
    | 0, _, _, hv =>
      have : a = v := by simpa using hv
      subst this; simp
    | k + 1, hk, h, hv =>
      have h0 : a ≠ v := by have := h 0 (by omega); simpa using this
      have hi := ih (k := k) (by simpa using hk) (fun j hj => by have := h (j + 1) (by omega); simpa using this) (by simpa using hv)
      unfold atZ at hi
      have hm : v ∈ l := by
        have hk' : k < l.length := by simpa using hk
        have : l.getD k 0 = v := by simpa using hv
        rw [← this]; simp [List.getD_eq_getElem?_getD, hk']
      rw [if_pos hm] at hi
      have hb : (a == v) = false := by simpa using h0
      rw [if_pos (by simp [hm]), List.idxOf_cons, hb]
      simp only [cond_false]; omega
theorem atZ_miss {l : List Int} {v : Int} (h : ∀ j, j < l.length → l.getD j 0 ≠ v) : atZ l v = -1 := by
  unfold atZ
  rw [if_neg]
  intro hm
  obtain ⟨k, hk, rfl⟩ := List.mem_iff_getElem.1 hm
  exact h k hk (by simp [List.getD_eq_getElem?_getD, hk])
theorem atZ_range (l : List Int) (v : Int) : -1 ≤ atZ l v ∧ atZ l v < l.length := by
  unfold atZ
  split
  · rename_i h; have := List.idxOf_lt_length_of_mem h; omega
  · omega
theorem has_f {arcs : List Arc} {a b : Int} (h : ∀ j, j < arcs.length → ¬ ((arcs.getD j default).From = a ∧ (arcs.getD j default).To = b)) : (⟨a, b⟩ : Arc) ∉ arcs := by
  intro hm
  obtain ⟨k, hk, he⟩ := List.mem_iff_getElem.1 hm
  refine h k hk ?_
  simp only [List.getD_eq_getElem?_getD, List.getElem?_eq_getElem hk, he, Option.getD_some, and_self]
theorem has_t {arcs : List Arc} {a b : Int} {k : Nat} (hk : k < arcs.length) (h : (arcs.getD k default).From = a ∧ (arcs.getD k default).To = b) : (⟨a, b⟩ : Arc) ∈ arcs := by
  obtain ⟨rfl, rfl⟩ := h
  have : arcs.getD k default ∈ arcs := by simp [List.getD_eq_getElem?_getD, hk]
  exact this
def lessB : List Int → List Int → Bool
  | a :: as, b :: bs => if a = b then lessB as bs else decide (a < b)
  | _, _ => false
theorem less_hit : ∀ {xs ys : List Int} {k : Nat}, k < xs.length → k < ys.length → (∀ j, j < k → xs.getD j 0 = ys.getD j 0) → xs.getD k 0 ≠ ys.getD k 0 → lessB xs ys = decide (xs.getD k 0 < ys.getD k 0)
  | x :: xs, y :: ys, 0, _, _, _, h => by
    have h' : x ≠ y := by simpa using h
    simp [lessB, h']
  | x :: xs, y :: ys, k + 1, h1, h2, h3, h4 => by
    have h0 : x = y := by have := h3 0 (by omega); simpa using this
    simp only [lessB, if_pos h0]
    rw [less_hit (k := k) (by simpa using h1) (by simpa using h2) (fun j hj => by have := h3 (j + 1) (by omega); simpa using this) (by simpa using h4)]
    simp
theorem less_miss : ∀ {xs ys : List Int}, (∀ j, j < xs.length → xs.getD j 0 = ys.getD j 0) → lessB xs ys = false
  | [], _, _ => rfl
  | x :: xs, [], _ => rfl
  | x :: xs, y :: ys, h => by
    have h0 : x = y := by have := h 0 (by simp); simpa using this
    simp only [lessB, if_pos h0]
    exact less_miss (fun j hj => by have := h (j + 1) (by simpa using hj); simpa using this)

theorem rev_get {arcs : List Arc} {j : Nat} (hj : j < arcs.length) : (rev arcs).getD j default = ⟨(arcs.getD j default).To, (arcs.getD j default).From⟩ := by
  simp [rev, List.getD_eq_getElem?_getD, hj]
theorem rev_eq {L arcs : List Arc} (hl : L.length = arcs.length) (h : ∀ j, j < arcs.length → L.getD j default = (rev arcs).getD j default) : L = rev arcs := by
  apply List.ext_getElem (by simp [rev, hl])
  intro i h1 h2
  have h3 : i < arcs.length := by omega
  have := h i h3
  simpa [List.getD_eq_getElem?_getD, h1, h2] using this
theorem set_get {L : List Arc} {k : Nat} {x : Arc} {p : Nat → Arc} (hk : k < L.length) (h : ∀ j, j < k → L.getD j default = p j) (hx : x = p k) : ∀ j, j < k + 1 → (L.set k x).getD j default = p j := fun j hj => by
  by_cases hjk : j = k
  · subst hjk; simp [List.getD_eq_getElem?_getD, hk, hx]
  · have := h j (by omega)
    simp only [List.getD_eq_getElem?_getD] at this ⊢
    rw [List.getElem?_set_ne (by omega)]; exact this
theorem succs_snoc {arcs : List Arc} {a : Arc} {v : Int} : succs (arcs ++ [a]) v = if a.From = v then succs arcs v ++ [a.To] else succs arcs v := by
  unfold succs
  by_cases h : a.From = v <;> simp [List.filter_append, h]
theorem take_snoc {arcs : List Arc} {k : Nat} (hk : k < arcs.length) : arcs.take (k + 1) = arcs.take k ++ [arcs.getD k default] := by
  rw [List.take_succ_eq_append_getElem hk]; simp [List.getD_eq_getElem?_getD, hk]
theorem succs_len (arcs : List Arc) (v : Int) : (succs arcs v).length ≤ arcs.length := by
  unfold succs; simp; exact List.length_filter_le _ _
/-- the table of the successors -/
def table (n : Nat) (arcs : List Arc) : List (List Int) := (List.range n).map fun i : Nat => succs arcs (i : Int)
theorem table_len (n : Nat) (arcs : List Arc) : (table n arcs).length = n := by simp [table]
theorem table_get {n : Nat} {arcs : List Arc} {i : Nat} (hi : i < n) : (table n arcs).getD i [] = succs arcs i := by simp [table, List.getD_eq_getElem?_getD, hi]
theorem table_step {n : Nat} {arcs : List Arc} {k : Nat} (hok : Ok n arcs) (hk : k < arcs.length) : table n (arcs.take (k + 1)) = (table n (arcs.take k)).set (arcs.getD k default).From.toNat ((table n (arcs.take k)).getD (arcs.getD k default).From.toNat [] ++ [(arcs.getD k default).To]) := by
  have ha := hok (arcs.getD k default) (by simp [List.getD_eq_getElem?_getD, hk])
  generalize hx : arcs.getD k default = a at *
  have h1 : a.From.toNat < n := by omega
  rw [table_get h1]
  apply List.ext_getElem (by simp [table])
  intro i hi1 hi2
  have hin : i < n := by simpa [table] using hi1
  simp only [table, List.getElem_map, List.getElem_range, List.getElem_set]
  rw [take_snoc hk, hx, succs_snoc]
  by_cases h : a.From.toNat = i
  · rw [if_pos h, if_pos (by omega)]; congr 2; omega
  · rw [if_neg h, if_neg (by omega)]

theorem bfs_stop {n : Nat} {arcs : List Arc} {v : Int} {i : Nat} (hi : (bfs n arcs v i).2.length ≤ i) : ∀ j, i ≤ j → bfs n arcs v j = bfs n arcs v i := by
  intro j hj
  induction j with
  | zero => obtain rfl : i = 0 := by omega
            rfl
  | succ j ih =>
    rcases Nat.lt_or_ge j i with h | h
    · obtain rfl : i = j + 1 := by omega
      rfl
    · have := ih h
      rw [bfs, this, if_neg (by omega)]
/-- the list of the distances -/
def distL (n : Nat) (arcs : List Arc) (v : Int) : List Int := (bfs n arcs v n).1
theorem bfs_end {n : Nat} {arcs : List Arc} {v : Int} {i : Nat} (h : InvI n arcs v i (bfs n arcs v i)) (hi : (bfs n arcs v i).2.length ≤ i) (hle : i ≤ (bfs n arcs v i).2.length) : (bfs n arcs v i).1 = distL n arcs v := by
  have := bfs_len h
  unfold distL
  rw [bfs_stop hi n (by omega)]
theorem distL_is {n : Nat} {arcs : List Arc} {v : Int} (hok : Ok n arcs) (hv : 0 ≤ v ∧ v < (n : Int)) : IsDist n arcs v (distL n arcs v) := by
  -- the first i at which the queue is at its end
  have key : ∀ m i, n - i = m → (∀ j < i, j < (bfs n arcs v j).2.length) → ∃ k, (∀ j < k, j < (bfs n arcs v j).2.length) ∧ (bfs n arcs v k).2.length ≤ k ∧ k ≤ n := by
    intro m
    induction m with
    | zero =>
      intro i hi h
      have := bfs_len (bfs_inv hok hv i h)
      by_cases hin : i ≤ n
      · exact ⟨i, h, by omega, hin⟩
      · exfalso
        have := h n (by omega)
        have := bfs_len (bfs_inv hok hv n (fun j hj => h j (by omega)))
        omega
    | succ m ih =>
      intro i hi h
      by_cases hl : i < (bfs n arcs v i).2.length
      · exact ih (i + 1) (by omega) (fun j hj => by
          rcases Nat.lt_or_ge j i with h1 | h1
          · exact h j h1
          · obtain rfl : j = i := by omega
            exact hl)
      · exact ⟨i, h, by omega, by omega⟩
  obtain ⟨k, h1, h2, h3⟩ := key n 0 (by omega) (fun j hj => by omega)
  have hI := bfs_inv hok hv k h1
  have := bfs_dist hI h2
  unfold distL
  rw [bfs_stop h2 n h3]; exact this

/-! ### the closest successor, ways, cycles, orders: what the code reckons -/
def closeStep (d : List Int) (best w : Int) : Int :=
  if d.getD w.toNat 0 < 0 then best else if best < 0 ∨ d.getD w.toNat 0 < d.getD best.toNat 0 ∨ (d.getD w.toNat 0 = d.getD best.toNat 0 ∧ w < best) then w else best
def closest (arcs : List Arc) (d : List Int) (v : Int) : Int := (succs arcs v).foldl (closeStep d) (-1)
def pathGo (arcs : List Arc) (d : List Int) (b : Int) : Nat → Int → List Int
  | 0, _ => []
  | f + 1, v => if v = b then [] else closest arcs d v :: pathGo arcs d b f (closest arcs d v)
def cycGo (arcs : List Arc) (d : List Int) (b : Int) : Nat → Int → List Int
  | 0, _ => []
  | f + 1, w => if w = b then [] else w :: cycGo arcs d b f (closest arcs d w)
theorem closeStep_range {d : List Int} {n : Nat} {best w : Int} (hb : -1 ≤ best ∧ best < n) (hw : 0 ≤ w ∧ w < n) : -1 ≤ closeStep d best w ∧ closeStep d best w < n := by
  unfold closeStep; split <;> (try split) <;> omega
theorem fold_range {d : List Int} {n : Nat} : ∀ (l : List Int) (best : Int), (-1 ≤ best ∧ best < (n : Int)) → (∀ w ∈ l, 0 ≤ w ∧ w < (n : Int)) → -1 ≤ l.foldl (closeStep d) best ∧ l.foldl (closeStep d) best < n
  | [], best, hb, _ => hb
  | w :: l, best, hb, hl => fold_range l _ (closeStep_range hb (hl w (by simp))) (fun x hx => hl x (by simp [hx]))
theorem closest_range {n : Nat} {arcs : List Arc} {d : List Int} {v : Int} (hok : Ok n arcs) : -1 ≤ closest arcs d v ∧ closest arcs d v < n :=
  fold_range _ _ (by omega) (fun w hw => (hok _ (mem_succs.1 hw)).2)
/-- the fold finds the least of those that are best -/
theorem fold_best {d : List Int} : ∀ (l : List Int) (best : Int), (∀ w ∈ l, 0 ≤ w) → (best < 0 ∨ 0 ≤ d.getD best.toNat 0) →
    (l.foldl (closeStep d) best < 0 ∧ best < 0 ∧ ∀ w ∈ l, d.getD w.toNat 0 < 0) ∨
    (0 ≤ l.foldl (closeStep d) best ∧ 0 ≤ d.getD (l.foldl (closeStep d) best).toNat 0 ∧ (l.foldl (closeStep d) best = best ∨ l.foldl (closeStep d) best ∈ l) ∧
      (∀ w, (w ∈ l ∨ (w = best ∧ 0 ≤ best)) → 0 ≤ d.getD w.toNat 0 → d.getD (l.foldl (closeStep d) best).toNat 0 < d.getD w.toNat 0 ∨ (d.getD (l.foldl (closeStep d) best).toNat 0 = d.getD w.toNat 0 ∧ l.foldl (closeStep d) best ≤ w)))
  | [], best, _, hb => by
    by_cases h : best < 0
    · exact .inl ⟨h, h, fun _ h => by cases h⟩
    · refine .inr ⟨by simp only [List.foldl_nil]; omega, by simp only [List.foldl_nil]; omega, .inl rfl, fun w hw _ => ?_⟩
      rcases hw with hw | ⟨rfl, _⟩
      · cases hw
      · exact .inr ⟨rfl, by simp only [List.foldl_nil]; omega⟩
  | x :: l, best, hl, hb => by
    have hx := hl x (by simp)
    have hb' : closeStep d best x < 0 ∨ 0 ≤ d.getD (closeStep d best x).toNat 0 := by unfold closeStep; split <;> (try split) <;> omega
    have ih := fold_best l (closeStep d best x) (fun w hw => hl w (by simp [hw])) hb'
    simp only [List.foldl_cons]
    generalize l.foldl (closeStep d) (closeStep d best x) = r at *
    have hcs : closeStep d best x = best ∨ closeStep d best x = x := by unfold closeStep; split <;> (try split) <;> simp
    rcases ih with ⟨h1, h2, h3⟩ | ⟨h1, h2, h3, h4⟩
    · have h5 : best < 0 ∧ d.getD x.toNat 0 < 0 := by unfold closeStep at h2; split at h2 <;> (try split at h2) <;> omega
      exact .inl ⟨h1, h5.1, fun w hw => by
        rcases List.mem_cons.1 hw with rfl | hw
        · exact h5.2
        · exact h3 w hw⟩
    · refine .inr ⟨h1, h2, ?_, fun w hw hdw => ?_⟩
      · rcases h3 with h3 | h3
        · rcases hcs with h5 | h5
          · exact .inl (h3.trans h5)
          · exact .inr (by rw [h3, h5]; simp)
        · exact .inr (by simp [h3])
      · by_cases hwl : w ∈ l
        · exact h4 w (.inl hwl) hdw
        · have hwx : w = x ∨ (w = best ∧ 0 ≤ best) := by
            rcases hw with hw | hw
            · rcases List.mem_cons.1 hw with h5 | h5
              · exact .inl h5
              · exact absurd h5 hwl
            · exact .inr hw
          have hc0 : 0 ≤ closeStep d best x := by
            unfold closeStep
            rcases hwx with rfl | ⟨rfl, hb0⟩ <;> split <;> (try split) <;> omega
          have hcd : 0 ≤ d.getD (closeStep d best x).toNat 0 := by omega
          have h5 := h4 (closeStep d best x) (.inr ⟨rfl, hc0⟩) hcd
          have h6 : d.getD (closeStep d best x).toNat 0 < d.getD w.toNat 0 ∨ (d.getD (closeStep d best x).toNat 0 = d.getD w.toNat 0 ∧ closeStep d best x ≤ w) := by
            unfold closeStep
            rcases hwx with rfl | ⟨rfl, hb0⟩ <;> split <;> (try split) <;> omega
          omega
theorem closest_spec {n : Nat} {arcs : List Arc} {d : List Int} {v : Int} (hok : Ok n arcs) :
    (closest arcs d v = -1 ∧ ∀ w, (⟨v, w⟩ : Arc) ∈ arcs → d.getD w.toNat 0 < 0) ∨
    (0 ≤ closest arcs d v ∧ (⟨v, closest arcs d v⟩ : Arc) ∈ arcs ∧ 0 ≤ d.getD (closest arcs d v).toNat 0 ∧
      ∀ w, (⟨v, w⟩ : Arc) ∈ arcs → 0 ≤ d.getD w.toNat 0 → d.getD (closest arcs d v).toNat 0 < d.getD w.toNat 0 ∨ (d.getD (closest arcs d v).toNat 0 = d.getD w.toNat 0 ∧ closest arcs d v ≤ w)) := by
  have hr := closest_range (d := d) (v := v) hok
  have h := fold_best (d := d) (succs arcs v) (-1) (fun w hw => (hok _ (mem_succs.1 hw)).2.1) (.inl (by omega))
  rcases h with ⟨h1, _, h3⟩ | ⟨h1, h2, h3, h4⟩
  · refine .inl ⟨?_, fun w hw => h3 w (mem_succs.2 hw)⟩
    have : closest arcs d v < 0 := h1
    omega
  · have hc : 0 ≤ closest arcs d v := h1
    refine .inr ⟨hc, ?_, h2, fun w hw hd => h4 w (.inl (mem_succs.2 hw)) hd⟩
    rcases h3 with h3 | h3
    · have : closest arcs d v = -1 := h3
      omega
    · exact mem_succs.1 h3

/-! ### results -/
def inB (n : Int) (v : Int) : Bool := decide (0 ≤ v ∧ v < n)
def reachL (n : Nat) (d : List Int) : List Int := ((List.range n).filter fun i => decide (0 ≤ d.getD i 0)).map fun i : Nat => (i : Int)
def downM (n : Int) (arcs : List Arc) (v : Int) : List Int := if rightB n arcs = true ∧ 0 ≤ v ∧ v < n then reachL n.toNat (distL n.toNat arcs v) else []
theorem reachL_step {k : Nat} {d : List Int} : reachL (k + 1) d = if 0 ≤ d.getD k 0 then reachL k d ++ [(k : Int)] else reachL k d := by
  unfold reachL
  rw [List.range_succ, List.filter_append, List.map_append]
  by_cases h : 0 ≤ d.getD k 0
  · rw [if_pos h]; simp only [List.filter_cons, decide_eq_true h, if_true, List.filter_nil, List.map_cons, List.map_nil]
  · rw [if_neg h]; simp only [List.filter_cons, decide_eq_false h, Bool.false_eq_true, if_false, List.filter_nil, List.map_nil, List.append_nil]
theorem reachL_len (k : Nat) (d : List Int) : (reachL k d).length ≤ k := by
  unfold reachL; rw [List.length_map]; have := List.length_filter_le (fun i => decide (0 ≤ d.getD i 0)) (List.range k); simpa using this
theorem reachL_mem {k : Nat} {d : List Int} {w : Int} : w ∈ reachL k d ↔ 0 ≤ w ∧ w < k ∧ 0 ≤ d.getD w.toNat 0 := by
  unfold reachL
  simp only [List.mem_map, List.mem_filter, List.mem_range, decide_eq_true_eq]
  constructor
  · rintro ⟨i, ⟨h1, h2⟩, rfl⟩; exact ⟨by omega, by omega, by simpa using h2⟩
  · exact fun ⟨h1, h2, h3⟩ => ⟨w.toNat, ⟨by omega, h3⟩, by omega⟩
end Gr

namespace Gr
/-! ### ways -/
/-- d holds the distances to b -/
def IsTo (n : Nat) (arcs : List Arc) (b : Int) (d : List Int) : Prop := IsDist n (rev arcs) b d
theorem walk_head {arcs : List Arc} {k : Nat} {u v w : Int} (ha : (⟨u, v⟩ : Arc) ∈ arcs) (h : Walk arcs k v w) : Walk arcs (k + 1) u w := by
  induction h with
  | nil => exact .snoc (.nil u) ha
  | snoc _ hb ih => exact .snoc (ih ha) hb
theorem walk_rev {arcs : List Arc} {k : Nat} {u v : Int} (h : Walk arcs k u v) : Walk (rev arcs) k v u := by
  induction h with
  | nil => exact .nil _
  | snoc _ ha ih => exact walk_head (mem_rev.2 ha) ih
theorem rev_rev (arcs : List Arc) : rev (rev arcs) = arcs := by simp [rev, Function.comp_def]
theorem walk_rev' {arcs : List Arc} {k : Nat} {u v : Int} (h : Walk (rev arcs) k u v) : Walk arcs k v u := by have := walk_rev h; rwa [rev_rev] at this
theorem walk_first {arcs : List Arc} {k : Nat} {u w : Int} (h : Walk arcs (k + 1) u w) : ∃ v, (⟨u, v⟩ : Arc) ∈ arcs ∧ Walk arcs k v w := by
  suffices h' : ∀ m u w, Walk arcs m u w → ∀ k, m = k + 1 → ∃ v, (⟨u, v⟩ : Arc) ∈ arcs ∧ Walk arcs k v w from h' _ _ _ h k rfl
  intro m u w h
  induction h with
  | nil => intro k hk; omega
  | @snoc k' u v w h ha ih =>
    intro k hk
    obtain rfl : k' = k := by omega
    cases k' with
    | zero => cases h; exact ⟨w, ha, .nil w⟩
    | succ k' =>
      obtain ⟨x, hx, hw⟩ := ih k' rfl
      exact ⟨x, hx, .snoc hw ha⟩
theorem walk_inside {n : Nat} {arcs : List Arc} (hok : Ok n arcs) {k : Nat} {u v : Int} (h : Walk arcs k u v) (hu : 0 ≤ u ∧ u < n) : 0 ≤ v ∧ v < n := by
  cases h with
  | nil => exact hu
  | snoc _ ha => exact (hok _ ha).2
/-- facts on the distances to b, without walks -/
theorem to_zero {n : Nat} {arcs : List Arc} {b : Int} {d : List Int} (h : IsTo n arcs b d) (hb : 0 ≤ b ∧ b < n) : d.getD b.toNat 0 = 0 := by
  rcases h.2 b hb.1 hb.2 with ⟨_, h1⟩ | ⟨h1, _, _, h2⟩
  · exact absurd (.nil b) (h1 0)
  · have := h2 0 (.nil b); omega
theorem to_pos {n : Nat} {arcs : List Arc} {b v : Int} {d : List Int} (h : IsTo n arcs b d) (hv : 0 ≤ v ∧ v < n) (h0 : d.getD v.toNat 0 = 0) : v = b := by
  rcases h.2 v hv.1 hv.2 with ⟨h1, _⟩ | ⟨_, _, h1, _⟩
  · omega
  · rw [h0] at h1; cases h1; rfl
/-- from a node with a way to b (v ≠ b), the closest successor is one nearer -/
theorem closest_to {n : Nat} {arcs : List Arc} {b v : Int} {d : List Int} (hok : Ok n arcs) (h : IsTo n arcs b d) (hv : 0 ≤ v ∧ v < n) (hd : 0 < d.getD v.toNat 0) :
    (0 ≤ closest arcs d v ∧ closest arcs d v < n) ∧ d.getD (closest arcs d v).toNat 0 = d.getD v.toNat 0 - 1 ∧ (⟨v, closest arcs d v⟩ : Arc) ∈ arcs := by
  have hr := closest_range (d := d) (v := v) hok
  rcases h.2 v hv.1 hv.2 with ⟨h1, _⟩ | ⟨_, _, h1, h2⟩
  · omega
  · obtain ⟨k, hk⟩ : ∃ k, (d.getD v.toNat 0).toNat = k + 1 := ⟨(d.getD v.toNat 0).toNat - 1, by omega⟩
    rw [hk] at h1
    obtain ⟨x, hx, hwx⟩ := walk_first (walk_rev' h1)
    have hxn := (hok _ hx).2
    have hdx : 0 ≤ d.getD x.toNat 0 ∧ d.getD x.toNat 0 ≤ k := by
      rcases h.2 x hxn.1 hxn.2 with ⟨_, h3⟩ | ⟨h3, _, _, h4⟩
      · exact absurd (walk_rev hwx) (h3 k)
      · exact ⟨h3, h4 k (walk_rev hwx)⟩
    rcases closest_spec (d := d) (v := v) hok with ⟨_, h3⟩ | ⟨h3, h4, h5, h6⟩
    · have := h3 x hx; omega
    · have h7 := h6 x hx hdx.1
      -- the closest is no nearer than one less
      have hcn : 0 ≤ closest arcs d v ∧ closest arcs d v < n := by omega
      rcases h.2 (closest arcs d v) hcn.1 hcn.2 with ⟨h8, _⟩ | ⟨_, _, h8, _⟩
      · omega
      · have h9 := h2 _ (.snoc h8 (mem_rev.2 h4))
        exact ⟨hcn, by omega, h4⟩
def pathM (n : Int) (arcs : List Arc) (a b : Int) : Option (List Int) :=
  if rightB n arcs = true ∧ (0 ≤ a ∧ a < n) ∧ (0 ≤ b ∧ b < n) ∧ 0 ≤ (distL n.toNat (rev arcs) b).getD a.toNat 0 then some (a :: pathGo arcs (distL n.toNat (rev arcs) b) b n.toNat a) else none
/-- the fuel of a way is enough -/
theorem pathGo_fuel {n : Nat} {arcs : List Arc} {b : Int} {d : List Int} (hok : Ok n arcs) (h : IsTo n arcs b d) : ∀ (f g : Nat) (v : Int), (0 ≤ v ∧ v < n) → 0 ≤ d.getD v.toNat 0 → d.getD v.toNat 0 < f → d.getD v.toNat 0 < g → pathGo arcs d b f v = pathGo arcs d b g v
  | 0, _, _, _, _, h1, _ => by omega
  | _, 0, _, _, _, _, h1 => by omega
  | f + 1, g + 1, v, hv, h0, h1, h2 => by
    simp only [pathGo]
    by_cases hvb : v = b
    · rw [if_pos hvb, if_pos hvb]
    · rw [if_neg hvb, if_neg hvb]
      have hd : 0 < d.getD v.toNat 0 := by
        rcases Int.lt_or_eq_of_le h0 with h3 | h3
        · exact h3
        · exact absurd (to_pos h hv h3.symm) hvb
      obtain ⟨k1, k2, _⟩ := closest_to hok h hv hd
      rw [pathGo_fuel hok h f g _ k1 (by omega) (by omega) (by omega)]
theorem pathGo_len {n : Nat} {arcs : List Arc} {b : Int} {d : List Int} (hok : Ok n arcs) (h : IsTo n arcs b d) : ∀ (f : Nat) (v : Int), (0 ≤ v ∧ v < n) → 0 ≤ d.getD v.toNat 0 → d.getD v.toNat 0 < f → ((pathGo arcs d b f v).length : Int) = d.getD v.toNat 0
  | 0, _, _, _, h1 => by omega
  | f + 1, v, hv, h0, h1 => by
    simp only [pathGo]
    by_cases hvb : v = b
    · rw [if_pos hvb]; subst hvb; have := to_zero h hv; rw [this]; rfl
    · rw [if_neg hvb]
      have hd : 0 < d.getD v.toNat 0 := by
        rcases Int.lt_or_eq_of_le h0 with h3 | h3
        · exact h3
        · exact absurd (to_pos h hv h3.symm) hvb
      obtain ⟨k1, k2, _⟩ := closest_to hok h hv hd
      have := pathGo_len hok h f _ k1 (by omega) (by omega)
      simp only [List.length_cons]; omega
theorem pathGo_in {n : Nat} {arcs : List Arc} {b : Int} {d : List Int} (hok : Ok n arcs) (h : IsTo n arcs b d) : ∀ (f : Nat) (v : Int), (0 ≤ v ∧ v < n) → 0 ≤ d.getD v.toNat 0 → ∀ x ∈ pathGo arcs d b f v, 0 ≤ x ∧ x < n
  | 0, _, _, _, x, hx => by simp [pathGo] at hx
  | f + 1, v, hv, h0, x, hx => by
    simp only [pathGo] at hx
    by_cases hvb : v = b
    · rw [if_pos hvb] at hx; cases hx
    · rw [if_neg hvb] at hx
      have hd : 0 < d.getD v.toNat 0 := by
        rcases Int.lt_or_eq_of_le h0 with h3 | h3
        · exact h3
        · exact absurd (to_pos h hv h3.symm) hvb
      obtain ⟨k1, k2, _⟩ := closest_to hok h hv hd
      rcases List.mem_cons.1 hx with rfl | hx
      · exact k1
      · exact pathGo_in hok h f _ k1 (by omega) x hx
theorem to_lt {n : Nat} {arcs : List Arc} {b v : Int} {d : List Int} (h : IsTo n arcs b d) (hv : 0 ≤ v ∧ v < n) : d.getD v.toNat 0 < n := by
  rcases h.2 v hv.1 hv.2 with ⟨h1, _⟩ | ⟨_, h1, _⟩ <;> omega
theorem pathGo_step {n : Nat} {arcs : List Arc} {b v : Int} {d : List Int} (hok : Ok n arcs) (h : IsTo n arcs b d) (hv : 0 ≤ v ∧ v < n) (h0 : 0 ≤ d.getD v.toNat 0) (hvb : v ≠ b) :
    pathGo arcs d b n v = closest arcs d v :: pathGo arcs d b n (closest arcs d v) ∧ 0 < d.getD v.toNat 0 := by
  have hd : 0 < d.getD v.toNat 0 := by
    rcases Int.lt_or_eq_of_le h0 with h3 | h3
    · exact h3
    · exact absurd (to_pos h hv h3.symm) hvb
  obtain ⟨k1, k2, _⟩ := closest_to hok h hv hd
  have hlt := to_lt h hv
  obtain ⟨m, rfl⟩ : ∃ m, n = m + 1 := ⟨n - 1, by omega⟩
  refine ⟨?_, hd⟩
  rw [show pathGo arcs d b (m + 1) v = closest arcs d v :: pathGo arcs d b m (closest arcs d v) by simp only [pathGo]; rw [if_neg hvb]]
  rw [pathGo_fuel hok h m (m + 1) _ k1 (by omega) (by omega) (by omega)]
theorem pathGo_end {n : Nat} {arcs : List Arc} {b : Int} {d : List Int} : pathGo arcs d b n b = [] := by
  cases n with
  | zero => rfl
  | succ m => simp [pathGo]
/-! ### cycles -/
theorem cyc_path {arcs : List Arc} {b : Int} {d : List Int} : ∀ (f : Nat) (w : Int), w ∈ [b] ∨ True → cycGo arcs d b f w = ((w :: pathGo arcs d b f w).take (pathGo arcs d b f w).length)
  | 0, w, _ => by simp [cycGo, pathGo]
  | f + 1, w, _ => by
    simp only [cycGo, pathGo]
    by_cases h : w = b
    · simp [h]
    · rw [if_neg h, if_neg h, cyc_path f _ (.inr trivial)]
      simp
/-- the cycle that is found from v on: the first v that has a successor that leads back -/
def loopAt (n : Nat) (arcs : List Arc) (v : Int) : List Int :=
  let d := distL n (rev arcs) v
  if closest arcs d v < 0 then [] else v :: cycGo arcs d v n (closest arcs d v)
def loopFrom (n : Nat) (arcs : List Arc) : Nat → Nat → List Int
  | 0, _ => []
  | f + 1, v => if closest arcs (distL n (rev arcs) v) v < 0 then loopFrom n arcs f (v + 1) else loopAt n arcs v
def loopM (n : Int) (arcs : List Arc) : List Int := if rightB n arcs = true then loopFrom n.toNat arcs n.toNat 0 else []
theorem cycGo_step {n : Nat} {arcs : List Arc} {b v : Int} {d : List Int} (hok : Ok n arcs) (h : IsTo n arcs b d) (hv : 0 ≤ v ∧ v < n) (h0 : 0 ≤ d.getD v.toNat 0) (hvb : v ≠ b) :
    cycGo arcs d b n v = v :: cycGo arcs d b n (closest arcs d v) := by
  obtain ⟨h1, h2⟩ := pathGo_step hok h hv h0 hvb
  rw [cyc_path _ _ (.inr trivial), cyc_path _ _ (.inr trivial), h1]
  simp
theorem cycGo_end {n : Nat} {arcs : List Arc} {b : Int} {d : List Int} : cycGo arcs d b n b = [] := by
  cases n with
  | zero => rfl
  | succ m => simp [cycGo]
theorem cycGo_len {arcs : List Arc} {b : Int} {d : List Int} (f : Nat) (w : Int) : (cycGo arcs d b f w).length = (pathGo arcs d b f w).length := by
  rw [cyc_path _ _ (.inr trivial)]; simp
theorem cycGo_in {n : Nat} {arcs : List Arc} {b : Int} {d : List Int} (hok : Ok n arcs) (h : IsTo n arcs b d) (f : Nat) (v : Int) (hv : 0 ≤ v ∧ v < n) (h0 : 0 ≤ d.getD v.toNat 0) : ∀ x ∈ cycGo arcs d b f v, 0 ≤ x ∧ x < n := fun x hx => by
  rw [cyc_path _ _ (.inr trivial)] at hx
  rcases List.mem_cons.1 (List.mem_of_mem_take hx) with rfl | hx
  · exact hv
  · exact pathGo_in hok h f v hv h0 x hx

/-! ### orders -/
def freeB (arcs : List Arc) (done : List Int) (v : Int) : Bool := decide (v ∉ done) && arcs.all fun a => decide (a.To = v → a.From ∈ done)
def nextFree (n : Nat) (arcs : List Arc) (done : List Int) : Option Int := ((List.range n).find? fun v : Nat => freeB arcs done (v : Int)).map fun v : Nat => (v : Int)
def orderGo (n : Nat) (arcs : List Arc) : Nat → List Int → Option (List Int)
  | 0, l => some l
  | k + 1, l => match nextFree n arcs l with
    | none => none
    | some v => orderGo n arcs k (l ++ [v])
def orderM (n : Int) (arcs : List Arc) : Option (List Int) := if rightB n arcs = true then orderGo n.toNat arcs n.toNat [] else none
/-- arcs to w that begin outside the list -/
def waitN (arcs : List Arc) (done : List Int) (w : Int) : Nat := (arcs.filter fun a => decide (a.To = w) && decide (a.From ∉ done)).length
def waitV (arcs : List Arc) (done : List Int) (w : Int) : Int := if w ∈ done then -1 else waitN arcs done w
theorem free_wait {arcs : List Arc} {done : List Int} {v : Int} : freeB arcs done v = decide (waitV arcs done v = 0) := by
  unfold freeB waitV waitN
  by_cases h : v ∈ done
  · simp [h]
  · rw [if_neg h]
    rw [Bool.eq_iff_iff]
    simp only [Bool.and_eq_true, decide_eq_true_eq, List.all_eq_true]
    constructor
    · rintro ⟨_, h2⟩
      rw [Int.natCast_eq_zero, List.length_eq_zero_iff, List.filter_eq_nil_iff]
      intro a ha hc
      simp only [Bool.and_eq_true, decide_eq_true_eq] at hc
      exact hc.2 (h2 a ha hc.1)
    · intro h2
      rw [Int.natCast_eq_zero, List.length_eq_zero_iff, List.filter_eq_nil_iff] at h2
      refine ⟨h, fun a ha hto => ?_⟩
      have := h2 a ha
      simp only [Bool.and_eq_true, decide_eq_true_eq, not_and, Decidable.not_not] at this
      exact this hto
end Gr

namespace Gr
/-! ### the waits of an order -/
theorem getD_of_lt {l : List Int} {i : Nat} (h : i < l.length) : l.getD i 0 = l[i] := by simp [List.getD_eq_getElem?_getD, h]
def waitL (n : Nat) (arcs : List Arc) (done : List Int) : List Int := (List.range n).map fun i : Nat => waitV arcs done (i : Int)
def countL (n : Nat) (arcs : List Arc) : List Int := (List.range n).map fun i : Nat => (((arcs.filter fun a => decide (a.To = (i : Int))).length : Nat) : Int)
theorem waitL_len (n : Nat) (arcs : List Arc) (done : List Int) : (waitL n arcs done).length = n := by simp [waitL]
theorem countL_len (n : Nat) (arcs : List Arc) : (countL n arcs).length = n := by simp [countL]
theorem waitL_get {n : Nat} {arcs : List Arc} {done : List Int} {i : Nat} (hi : i < n) : (waitL n arcs done).getD i 0 = waitV arcs done i := by simp [waitL, List.getD_eq_getElem?_getD, hi]
theorem countL_get {n : Nat} {arcs : List Arc} {i : Nat} (hi : i < n) : (countL n arcs).getD i 0 = ((arcs.filter fun a => decide (a.To = (i : Int))).length : Nat) := by simp [countL, List.getD_eq_getElem?_getD, hi]
theorem countL_end {n : Nat} {arcs : List Arc} : countL n arcs = waitL n arcs [] := by
  simp [countL, waitL, waitV, waitN]
theorem countL_zero {n : Nat} : countL n [] = List.replicate n 0 := by
  simp [countL]; apply List.ext_getElem <;> simp
theorem countL_step {n : Nat} {arcs : List Arc} {k : Nat} (hok : Ok n arcs) (hk : k < arcs.length) : countL n (arcs.take (k + 1)) = (countL n (arcs.take k)).set (arcs.getD k default).To.toNat ((countL n (arcs.take k)).getD (arcs.getD k default).To.toNat 0 + 1) := by
  have ha := hok (arcs.getD k default) (by simp [List.getD_eq_getElem?_getD, hk])
  rw [countL_get (by omega), take_snoc hk]
  apply List.ext_getElem (by simp [countL])
  intro i hi1 hi2
  have hin : i < n := by simpa [countL] using hi1
  generalize arcs.getD k default = a at *
  simp only [countL, List.getElem_map, List.getElem_range, List.getElem_set, List.filter_append, List.length_append]
  by_cases h : a.To.toNat = i
  · have h' : a.To = (i : Int) := by omega
    have h2 : ((a.To.toNat : Nat) : Int) = (i : Int) := by omega
    rw [if_pos h]
    simp [h']
  · have h' : ¬ a.To = (i : Int) := by omega
    rw [if_neg h]
    simp [h']
theorem countL_bd {n : Nat} {arcs : List Arc} (i : Nat) : 0 ≤ (countL n arcs).getD i 0 ∧ (countL n arcs).getD i 0 ≤ arcs.length := by
  by_cases hi : i < n
  · rw [countL_get hi]; have := List.length_filter_le (fun a : Arc => decide (a.To = (i : Int))) arcs; omega
  · have : (countL n arcs).getD i 0 = 0 := by simp [List.getD_eq_getElem?_getD, countL, Nat.le_of_not_lt hi]
    omega
theorem waitV_bd (arcs : List Arc) (done : List Int) (w : Int) : -1 ≤ waitV arcs done w ∧ waitV arcs done w ≤ arcs.length := by
  unfold waitV waitN
  have := List.length_filter_le (fun a : Arc => decide (a.To = w) && decide (a.From ∉ done)) arcs
  split <;> omega
def dec (W : List Int) (w : Int) : List Int := W.set w.toNat (W.getD w.toNat 0 - 1)
theorem dec_fold : ∀ (l W : List Int), (∀ w ∈ l, 0 ≤ w ∧ w < (W.length : Int)) → (l.foldl dec W).length = W.length ∧ ∀ x : Int, 0 ≤ x → x < W.length → (l.foldl dec W).getD x.toNat 0 = W.getD x.toNat 0 - (l.count x : Int)
  | [], W, _ => ⟨rfl, fun x _ _ => by simp⟩
  | w :: l, W, h => by
    have hw := h w (by simp)
    have hl : (dec W w).length = W.length := by simp [dec]
    obtain ⟨h1, h2⟩ := dec_fold l (dec W w) (fun x hx => by rw [hl]; exact h x (by simp [hx]))
    refine ⟨by simp only [List.foldl_cons]; rw [h1, hl], fun x h0 hx => ?_⟩
    simp only [List.foldl_cons]
    rw [h2 x h0 (by rw [hl]; exact hx), List.count_cons]
    unfold dec
    simp only [List.getD_eq_getElem?_getD, List.getElem?_set]
    by_cases hwx : w = x
    · subst hwx
      have : w.toNat < W.length := by omega
      simp [this]; omega
    · have : ¬ w.toNat = x.toNat := by omega
      simp [this, hwx]
theorem count_succs {arcs : List Arc} {v x : Int} : (succs arcs v).count x = (arcs.filter fun a => decide (a.From = v) && decide (a.To = x)).length := by
  induction arcs with
  | nil => simp [succs]
  | cons a l ih =>
    unfold succs at *
    by_cases h1 : a.From = v <;> by_cases h2 : a.To = x <;> simp [h1, h2] at * <;> simp_all
theorem wait_split {arcs : List Arc} {done : List Int} {v x : Int} (hv : v ∉ done) : waitN arcs done x = waitN arcs (done ++ [v]) x + (succs arcs v).count x := by
  rw [count_succs]
  unfold waitN
  induction arcs with
  | nil => simp
  | cons a l ih =>
    simp only [List.filter_cons, List.mem_append, List.mem_singleton, not_or]
    by_cases h1 : a.To = x
    · by_cases h2 : a.From ∈ done
      · have h3 : ¬ a.From = v := fun e => hv (e ▸ h2)
        simp [h1, h2, h3]; simpa using ih
      · by_cases h3 : a.From = v
        · simp [h1, h3, hv]; simp at ih; omega
        · simp [h1, h2, h3]; simp at ih; omega
    · simp [h1]; simpa using ih
theorem waitL_step {n : Nat} {arcs : List Arc} {done : List Int} {v : Nat} (hok : Ok n arcs) (hv : v < n) (hf : waitV arcs done (v : Int) = 0) (hdone : ∀ x ∈ done, ∀ a ∈ arcs, a.To = x → a.From ∈ done) :
    (succs arcs (v : Int)).foldl dec ((waitL n arcs done).set v (-1)) = waitL n arcs (done ++ [(v : Int)]) ∧ (∀ x ∈ done ++ [(v : Int)], ∀ a ∈ arcs, a.To = x → a.From ∈ done ++ [(v : Int)]) := by
  have hfree : freeB arcs done (v : Int) = true := by rw [free_wait]; exact decide_eq_true hf
  unfold freeB at hfree
  simp only [Bool.and_eq_true, decide_eq_true_eq, List.all_eq_true] at hfree
  obtain ⟨hvd, hall⟩ := hfree
  have hmem : ∀ w ∈ succs arcs (v : Int), 0 ≤ w ∧ w < (((waitL n arcs done).set v (-1)).length : Int) := fun w hw => by
    rw [List.length_set, waitL_len]; exact (hok _ (mem_succs.1 hw)).2
  obtain ⟨h1, h2⟩ := dec_fold (succs arcs (v : Int)) ((waitL n arcs done).set v (-1)) hmem
  rw [List.length_set, waitL_len] at h1 h2
  refine ⟨?_, fun x hx a ha hto => ?_⟩
  · apply List.ext_getElem (by rw [h1, waitL_len])
    intro i hi1 hi2
    rw [h1] at hi1
    have h3 := h2 (i : Int) (by omega) (by omega)
    rw [Int.toNat_natCast] at h3
    have e1 : (List.foldl dec ((waitL n arcs done).set v (-1)) (succs arcs (v : Int))).getD i 0 = (List.foldl dec ((waitL n arcs done).set v (-1)) (succs arcs (v : Int)))[i] := getD_of_lt _
    have e2 : (waitL n arcs (done ++ [(v : Int)])).getD i 0 = (waitL n arcs (done ++ [(v : Int)]))[i] := getD_of_lt _
    rw [← e1, ← e2, h3, waitL_get hi1]
    have e3 : ((waitL n arcs done).set v (-1)).getD i 0 = if v = i then -1 else waitV arcs done (i : Int) := by
      by_cases hvi : v = i
      · subst hvi
        have : v < (waitL n arcs done).length := by rw [waitL_len]; exact hv
        simp [List.getD_eq_getElem?_getD, this]
      · rw [if_neg hvi, ← waitL_get hi1]
        simp only [List.getD_eq_getElem?_getD]
        rw [List.getElem?_set_ne hvi]
    rw [e3]
    unfold waitV
    by_cases hvi : v = i
    · subst hvi
      have hc : (succs arcs (v : Int)).count (v : Int) = 0 := by
        rw [List.count_eq_zero]
        intro hm
        exact hvd (hall _ (mem_succs.1 hm) rfl)
      rw [if_pos rfl, if_pos (by simp), hc]; rfl
    · rw [if_neg hvi]
      have hne : ¬ ((i : Int) = (v : Int)) := by omega
      by_cases hid : (i : Int) ∈ done
      · have hc : (succs arcs (v : Int)).count (i : Int) = 0 := by
          rw [List.count_eq_zero]
          intro hm
          exact hvd (hdone _ hid _ (mem_succs.1 hm) rfl)
        rw [if_pos hid, if_pos (by simp [hid]), hc]; rfl
      · rw [if_neg hid, if_neg (by simp [hid, hne]), wait_split hvd]; omega
  · simp only [List.mem_append, List.mem_singleton] at hx ⊢
    rcases hx with hx | rfl
    · exact .inl (hdone x hx a ha hto)
    · exact .inl (hall a ha hto)
theorem find_first {p : Nat → Bool} : ∀ (n v : Nat), v < n → (∀ j, j < v → p j = false) → p v = true → (List.range n).find? p = some v := fun n v hv h1 h2 => by
  rw [List.find?_range_eq_some]
  exact ⟨h2, by simpa using hv, fun j hj => by simp [h1 j hj]⟩
theorem nextFree_some {n : Nat} {arcs : List Arc} {done : List Int} {v : Nat} (hv : v < n) (h1 : ∀ j, j < v → (waitL n arcs done).getD j 0 ≠ 0) (h2 : (waitL n arcs done).getD v 0 = 0) : nextFree n arcs done = some (v : Int) := by
  unfold nextFree
  rw [find_first n v hv]
  · rfl
  · intro j hj
    rw [free_wait]
    have := h1 j hj
    rw [waitL_get (by omega)] at this
    exact decide_eq_false this
  · rw [free_wait]
    rw [waitL_get hv] at h2
    exact decide_eq_true h2
theorem nextFree_none {n : Nat} {arcs : List Arc} {done : List Int} (h1 : ∀ j, j < n → (waitL n arcs done).getD j 0 ≠ 0) : nextFree n arcs done = none := by
  unfold nextFree
  have : (List.range n).find? (fun v : Nat => freeB arcs done (v : Int)) = none := by
    rw [List.find?_eq_none]
    intro j hj
    have hj' : j < n := by simpa using hj
    rw [free_wait]
    have := h1 j hj'
    rw [waitL_get hj'] at this
    simp [this]
  rw [this]; rfl
end Gr
