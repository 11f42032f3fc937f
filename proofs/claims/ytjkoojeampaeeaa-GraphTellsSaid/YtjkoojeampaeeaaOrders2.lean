/- Plain facts on the cycle that is found, and on orders: no program in sight. Conditions: none. -/
import Derived.Test.YtjkoojeampaeeaaOrders
namespace Gr
theorem closest_cycle {n : Nat} {arcs : List Arc} {u : Int} (hok : Ok n arcs) (hu : 0 ≤ u ∧ u < (n : Int)) : 0 ≤ closest arcs (distL n (rev arcs) u) u ↔ OnCycle arcs u := by
  have hT : IsTo n arcs u (distL n (rev arcs) u) := distL_is hok.rev hu
  have hd : ∀ w : Int, (0 ≤ w ∧ w < n) → (0 ≤ (distL n (rev arcs) u).getD w.toNat 0 ↔ Way arcs w u) := fun w hw => by
    rw [dist_way hT hw, way_rev]
  rcases closest_spec (d := distL n (rev arcs) u) (v := u) hok with ⟨h1, h2⟩ | ⟨h1, h2, h3, _⟩
  · refine ⟨fun h => by omega, fun ⟨w, ha, hw⟩ => ?_⟩
    have hwn := (hok _ ha).2
    have := h2 w ha
    have := (hd w hwn).2 hw
    omega
  · have hwn := (hok _ h2).2
    exact ⟨fun _ => ⟨_, h2, (hd _ hwn).1 h3⟩, fun _ => h1⟩
theorem loopFrom_spec {n : Nat} {arcs : List Arc} : ∀ (f v : Nat), (loopFrom n arcs f v = [] ∧ ∀ u, v ≤ u → u < v + f → closest arcs (distL n (rev arcs) (u : Int)) u < 0) ∨
    ∃ u, v ≤ u ∧ u < v + f ∧ 0 ≤ closest arcs (distL n (rev arcs) (u : Int)) u ∧ loopFrom n arcs f v = loopAt n arcs u
  | 0, v => .inl ⟨rfl, fun u h1 h2 => by omega⟩
  | f + 1, v => by
    rw [loopFrom]
    by_cases h : closest arcs (distL n (rev arcs) (v : Int)) v < 0
    · rw [if_pos h]
      rcases loopFrom_spec (n := n) (arcs := arcs) f (v + 1) with ⟨h1, h2⟩ | ⟨u, h1, h2, h3, h4⟩
      · refine .inl ⟨h1, fun u hu1 hu2 => ?_⟩
        by_cases e : u = v
        · subst e; exact h
        · exact h2 u (by omega) (by omega)
      · exact .inr ⟨u, by omega, by omega, h3, h4⟩
    · rw [if_neg h]; exact .inr ⟨v, by omega, by omega, by omega, rfl⟩
theorem loopAt_spec {n : Nat} {arcs : List Arc} {u : Int} (hok : Ok n arcs) (hu : 0 ≤ u ∧ u < (n : Int)) (hc : 0 ≤ closest arcs (distL n (rev arcs) u) u) :
    0 < (loopAt n arcs u).length ∧ ∀ i, i < (loopAt n arcs u).length → (⟨(loopAt n arcs u).getD i 0, if i + 1 < (loopAt n arcs u).length then (loopAt n arcs u).getD (i + 1) 0 else (loopAt n arcs u).getD 0 0⟩ : Arc) ∈ arcs ∧
      ∀ j, j < i → (loopAt n arcs u).getD j 0 ≠ (loopAt n arcs u).getD i 0 := by
  have hT : IsTo n arcs u (distL n (rev arcs) u) := distL_is hok.rev hu
  rcases closest_spec (d := distL n (rev arcs) u) (v := u) hok with ⟨h1, _⟩ | ⟨_, ha, h0, _⟩
  · omega
  · have e : loopAt n arcs u = u :: cycGo arcs (distL n (rev arcs) u) u n (closest arcs (distL n (rev arcs) u) u) := by
      unfold loopAt; simp only; rw [if_neg (by omega)]
    rw [e, cyc_path _ _ (.inr trivial)]
    generalize closest arcs (distL n (rev arcs) u) u = w at *
    generalize distL n (rev arcs) u = d at *
    have hw := (hok _ ha).2
    simp only at hw
    have hlt := to_lt hT hw
    have hlen := pathGo_len hok hT n w hw h0 hlt
    have hpa := path_at hok hT n w hw h0 hlt
    generalize hP : pathGo arcs d u n w = P at *
    have hz := to_zero hT hu
    have hcl : (u :: (w :: P).take P.length).length = P.length + 1 := by simp
    have hget : ∀ i, i < P.length → (u :: (w :: P).take P.length).getD (i + 1) 0 = (w :: P).getD i 0 := fun i hi => by
      rw [List.getD_cons_succ]
      simp only [List.getD_eq_getElem?_getD]
      rw [List.getElem?_take_of_lt hi]
    have hend : (w :: P).getD P.length 0 = u := by
      obtain ⟨k1, k2, _⟩ := hpa P.length (by omega)
      exact to_pos hT k1 (by rw [k2]; omega)
    have hnext : ∀ i, i < P.length + 1 → (if i + 1 < P.length + 1 then (u :: (w :: P).take P.length).getD (i + 1) 0 else (u :: (w :: P).take P.length).getD 0 0) = (w :: P).getD i 0 := fun i hi => by
      by_cases h : i < P.length
      · rw [if_pos (by omega), hget i h]
      · rw [if_neg (by omega)]
        obtain rfl : i = P.length := by omega
        rw [hend]; rfl
    rw [hcl]
    refine ⟨by omega, fun i hi => ⟨?_, fun j hj => ?_⟩⟩
    · rw [hnext i hi]
      cases i with
      | zero => exact ha
      | succ i =>
        rw [hget i (by omega)]
        exact (hpa i (by omega)).2.2 (by omega)
    · cases i with
      | zero => omega
      | succ i =>
        rw [hget i (by omega)]
        obtain ⟨_, k2, _⟩ := hpa i (by omega)
        intro he
        cases j with
        | zero =>
          have he' : u = (w :: P).getD i 0 := he
          rw [← he', hz] at k2; omega
        | succ j =>
          rw [hget j (by omega)] at he
          obtain ⟨_, k3, _⟩ := hpa j (by omega)
          rw [he, k2] at k3; omega
theorem loop_spec {n : Int} {arcs : List Arc} (hr : rightB n arcs = true) :
    (loopM n arcs = [] ∧ ∀ u : Int, 0 ≤ u → u < n → ¬ OnCycle arcs u) ∨ ∃ u : Int, (0 ≤ u ∧ u < n) ∧ OnCycle arcs u ∧ 0 ≤ closest arcs (distL n.toNat (rev arcs) u) u ∧ loopM n arcs = loopAt n.toNat arcs u := by
  obtain ⟨hn, _, hok⟩ := right_ok hr
  rw [loopM, if_pos hr]
  rcases loopFrom_spec (n := n.toNat) (arcs := arcs) n.toNat 0 with ⟨h1, h2⟩ | ⟨u, _, h2, h3, h4⟩
  · refine .inl ⟨h1, fun u hu0 hu1 hc => ?_⟩
    have := h2 u.toNat (by omega) (by omega)
    rw [Int.toNat_of_nonneg hu0] at this
    have := (closest_cycle hok (u := u) (by omega)).2 hc
    omega
  · exact .inr ⟨u, by omega, (closest_cycle hok (by omega)).1 h3, h3, h4⟩
theorem order_some {n : Int} {arcs : List Arc} {L : List Int} (hr : rightB n arcs = true) (h : orderM n arcs = some L) : OI n.toNat arcs L ∧ (L.length : Int) = n := by
  obtain ⟨hn, _, _⟩ := right_ok hr
  rw [orderM, if_pos hr] at h
  obtain ⟨h1, h2⟩ := orderGo_some OI.nil h
  exact ⟨h1, by rw [h2]; simp; omega⟩
theorem order_none {n : Int} {arcs : List Arc} (hr : rightB n arcs = true) (h : orderM n arcs = none) : ∃ v, (0 ≤ v ∧ v < n) ∧ OnCycle arcs v := by
  obtain ⟨hn, _, hok⟩ := right_ok hr
  rw [orderM, if_pos hr] at h
  obtain ⟨M, _, h2, h3⟩ := orderGo_none OI.nil (by simp) h
  obtain ⟨v, hv, hc⟩ := has_cycle hok h2 h3
  exact ⟨v, by omega, hc⟩
/-- THE LAW: an order, or a cycle -/
theorem orders_iff {n : Int} {arcs : List Arc} (hr : rightB n arcs = true) : (orderM n arcs).isSome = decide (((loopM n arcs).length : Int) = 0) := by
  obtain ⟨hn, _, hok⟩ := right_ok hr
  rcases loop_spec hr with ⟨h1, h2⟩ | ⟨u, h1, h2, h3, h4⟩
  · rw [h1, decide_eq_true (by simp)]
    cases h : orderM n arcs with
    | some L => rfl
    | none =>
      obtain ⟨v, hv, hc⟩ := order_none hr h
      exact absurd hc (h2 v hv.1 hv.2)
  · have := (loopAt_spec hok (u := u) (by omega) h3).1
    rw [h4, decide_eq_false (by omega)]
    cases h : orderM n arcs with
    | none => rfl
    | some L =>
      obtain ⟨k1, k2⟩ := order_some hr h
      exact absurd h2 (no_cycle k1 (fun a ha => full k1.nodup k1.rng (by omega) (hok a ha).2.1 (hok a ha).2.2))
theorem orders_yes {n : Int} {arcs : List Arc} {L : List Int} (hr : rightB n arcs = true) (h : orderM n arcs = some L) :
    (L.length : Int) = n ∧ (∀ i : Nat, (i : Int) < n → 0 ≤ atZ L i) ∧ ∀ k, k < arcs.length → atZ L (arcs.getD k default).From < atZ L (arcs.getD k default).To := by
  obtain ⟨hn, _, hok⟩ := right_ok hr
  obtain ⟨k1, k2⟩ := order_some hr h
  have hf : ∀ i : Int, 0 ≤ i → i < n → i ∈ L := fun i h0 h1 => full k1.nodup k1.rng (by omega) h0 (by omega)
  refine ⟨k2, fun i hi => at_mem.2 (hf i (by omega) hi), fun k hk => ?_⟩
  have ha := (right_at hr hk).2.2
  have h1 := k1.arc _ ha (hf _ (right_at hr hk).2.1.1 (right_at hr hk).2.1.2)
  unfold atZ
  rw [if_pos h1.1, if_pos (hf _ (right_at hr hk).2.1.1 (right_at hr hk).2.1.2)]
  have := h1.2
  simp only at this
  omega
theorem orders_no {n : Int} {arcs : List Arc} (hr : rightB n arcs = true) {i : Nat} (hi : i < (loopM n arcs).length) :
    (i + 1 < (loopM n arcs).length → (⟨(loopM n arcs).getD i 0, (loopM n arcs).getD (i + 1) 0⟩ : Arc) ∈ arcs) ∧ (¬ i + 1 < (loopM n arcs).length → (⟨(loopM n arcs).getD i 0, (loopM n arcs).getD 0 0⟩ : Arc) ∈ arcs) ∧ atZ (loopM n arcs) ((loopM n arcs).getD i 0) = i := by
  obtain ⟨hn, _, hok⟩ := right_ok hr
  rcases loop_spec hr with ⟨h1, h2⟩ | ⟨u, h1, h2, h3, h4⟩
  · rw [h1] at hi; simp at hi
  · rw [h4] at hi ⊢
    obtain ⟨_, hs⟩ := loopAt_spec hok (u := u) (by omega) h3
    obtain ⟨k1, k2⟩ := hs i hi
    refine ⟨fun h => by rwa [if_pos h] at k1, fun h => by rwa [if_neg h] at k1, atZ_hit hi k2 rfl⟩
end Gr
