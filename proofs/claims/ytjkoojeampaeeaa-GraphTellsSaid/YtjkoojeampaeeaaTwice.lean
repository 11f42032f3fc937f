/- Plain facts: what is found in a graph hangs on the set of its arcs alone. No program in sight. Conditions: none. -/
import Derived.Test.YtjkoojeampaeeaaOrders2
import Derived.Test.YtjkoojeampaeeaaPaths
namespace Gr
theorem walk_mono {arcs more : List Arc} (h : ∀ x ∈ arcs, x ∈ more) {k : Nat} {u v : Int} (hw : Walk arcs k u v) : Walk more k u v := by
  induction hw with
  | nil => exact .nil _
  | snoc _ ha ih => exact ih.snoc (h _ ha)
/-- the distances are determined -/
theorem dist_unique {n : Nat} {arcs more : List Arc} {v : Int} {d e : List Int} (h : ∀ x, x ∈ arcs ↔ x ∈ more) (hd : IsDist n arcs v d) (he : IsDist n more v e) : d = e := by
  refine list_ext (by rw [hd.1, he.1]) fun j hj => ?_
  rw [hd.1] at hj
  have h1 := hd.2 j (by omega) (by omega)
  have h2 := he.2 j (by omega) (by omega)
  rw [Int.toNat_natCast] at h1 h2
  rcases h1 with ⟨a1, a2⟩ | ⟨a1, _, a2, a3⟩ <;> rcases h2 with ⟨b1, b2⟩ | ⟨b1, _, b2, b3⟩
  · rw [a1, b1]
  · exact absurd (walk_mono (fun x hx => (h x).2 hx) b2) (a2 _)
  · exact absurd (walk_mono (fun x hx => (h x).1 hx) a2) (b2 _)
  · have := a3 _ (walk_mono (fun x hx => (h x).2 hx) b2)
    have := b3 _ (walk_mono (fun x hx => (h x).1 hx) a2)
    omega
theorem mem_rev_iff {arcs more : List Arc} (h : ∀ x, x ∈ arcs ↔ x ∈ more) : ∀ x, x ∈ rev arcs ↔ x ∈ rev more := fun ⟨a, b⟩ => by
  rw [mem_rev, mem_rev, h]
theorem closest_unique {n : Nat} {arcs more : List Arc} {d : List Int} {v : Int} (h : ∀ x, x ∈ arcs ↔ x ∈ more) (hok : Ok n arcs) (hok2 : Ok n more) : closest arcs d v = closest more d v := by
  rcases closest_spec (d := d) (v := v) hok with ⟨a1, a2⟩ | ⟨a1, a2, a3, a4⟩ <;> rcases closest_spec (d := d) (v := v) hok2 with ⟨b1, b2⟩ | ⟨b1, b2, b3, b4⟩
  · rw [a1, b1]
  · have := a2 _ ((h _).2 b2); omega
  · have := b2 _ ((h _).1 a2); omega
  · have := a4 _ ((h _).2 b2) b3
    have := b4 _ ((h _).1 a2) a3
    omega
theorem dist_same {n : Nat} {arcs more : List Arc} {v : Int} (h : ∀ x, x ∈ arcs ↔ x ∈ more) (hok : Ok n arcs) (hv : 0 ≤ v ∧ v < (n : Int)) : distL n arcs v = distL n more v :=
  dist_unique h (distL_is hok hv) (distL_is (fun a ha => hok a ((h a).2 ha)) hv)
theorem pathGo_same {n : Nat} {arcs more : List Arc} {d : List Int} {b : Int} (h : ∀ x, x ∈ arcs ↔ x ∈ more) (hok : Ok n arcs) (hok2 : Ok n more) : ∀ (f : Nat) (v : Int), pathGo arcs d b f v = pathGo more d b f v
  | 0, _ => rfl
  | f + 1, v => by
    rw [pathGo, pathGo, closest_unique h hok hok2, pathGo_same h hok hok2 f]
theorem cycGo_same {n : Nat} {arcs more : List Arc} {d : List Int} {b : Int} (h : ∀ x, x ∈ arcs ↔ x ∈ more) (hok : Ok n arcs) (hok2 : Ok n more) : ∀ (f : Nat) (v : Int), cycGo arcs d b f v = cycGo more d b f v
  | 0, _ => rfl
  | f + 1, v => by
    rw [cycGo, cycGo, closest_unique h hok hok2, cycGo_same h hok hok2 f]
theorem right_same {n : Int} {arcs more : List Arc} (h : ∀ x, x ∈ arcs ↔ x ∈ more) (h1 : arcs.length ≤ 4096) (h2 : more.length ≤ 4096) : rightB n arcs = rightB n more := by
  rw [Bool.eq_iff_iff, right_iff, right_iff]
  exact ⟨fun k => ⟨⟨k.1.1, k.1.2.1, h2⟩, fun a ha => k.2 a ((h a).2 ha)⟩, fun k => ⟨⟨k.1.1, k.1.2.1, h1⟩, fun a ha => k.2 a ((h a).1 ha)⟩⟩
theorem down_same {n : Int} {arcs more : List Arc} {v : Int} (h : ∀ x, x ∈ arcs ↔ x ∈ more) (hr : rightB n arcs = rightB n more) : downM n arcs v = downM n more v := by
  unfold downM
  rw [hr]
  split
  · rename_i hc
    have hok := (right_ok (hr.trans hc.1)).2.2
    have hn := (right_ok hc.1).1
    rw [dist_same h hok (by omega)]
  · rfl
theorem path_same {n : Int} {arcs more : List Arc} {a b : Int} (h : ∀ x, x ∈ arcs ↔ x ∈ more) (hr : rightB n arcs = rightB n more) : pathM n arcs a b = pathM n more a b := by
  by_cases hc : rightB n more = true ∧ (0 ≤ b ∧ b < n)
  · have hok := (right_ok (hr.trans hc.1)).2.2
    have hok2 := (right_ok hc.1).2.2
    have hn := (right_ok hc.1).1
    unfold pathM
    rw [hr, dist_same (mem_rev_iff h) hok.rev (by omega), pathGo_same h hok hok2]
  · unfold pathM
    rw [hr, if_neg (fun k => hc ⟨k.1, k.2.2.1⟩), if_neg (fun k => hc ⟨k.1, k.2.2.1⟩)]
theorem free_same {arcs more : List Arc} {L : List Int} {v : Int} (h : ∀ x, x ∈ arcs ↔ x ∈ more) : freeB arcs L v = freeB more L v := by
  unfold freeB
  rw [Bool.eq_iff_iff]
  simp only [Bool.and_eq_true, decide_eq_true_eq, List.all_eq_true]
  exact ⟨fun k => ⟨k.1, fun a ha => k.2 a ((h a).2 ha)⟩, fun k => ⟨k.1, fun a ha => k.2 a ((h a).1 ha)⟩⟩
theorem orderGo_same {n : Nat} {arcs more : List Arc} (h : ∀ x, x ∈ arcs ↔ x ∈ more) : ∀ (k : Nat) (L : List Int), orderGo n arcs k L = orderGo n more k L
  | 0, _ => rfl
  | k + 1, L => by
    have e : nextFree n arcs L = nextFree n more L := by
      unfold nextFree
      rw [show (fun v : Nat => freeB arcs L (v : Int)) = fun v : Nat => freeB more L (v : Int) from funext fun v => free_same h]
    rw [orderGo, orderGo, e]
    cases nextFree n more L with
    | none => rfl
    | some v => exact orderGo_same h k _
theorem order_same {n : Int} {arcs more : List Arc} (h : ∀ x, x ∈ arcs ↔ x ∈ more) (hr : rightB n arcs = rightB n more) : orderM n arcs = orderM n more := by
  unfold orderM; rw [hr, orderGo_same h]
theorem loopAt_same {n : Nat} {arcs more : List Arc} {v : Int} (h : ∀ x, x ∈ arcs ↔ x ∈ more) (hok : Ok n arcs) (hok2 : Ok n more) (hv : 0 ≤ v ∧ v < (n : Int)) : loopAt n arcs v = loopAt n more v := by
  unfold loopAt
  simp only
  rw [dist_same (mem_rev_iff h) hok.rev hv, closest_unique h hok hok2, cycGo_same h hok hok2]
theorem loopFrom_same {n : Nat} {arcs more : List Arc} (h : ∀ x, x ∈ arcs ↔ x ∈ more) (hok : Ok n arcs) (hok2 : Ok n more) : ∀ (f v : Nat), v + f ≤ n → loopFrom n arcs f v = loopFrom n more f v
  | 0, _, _ => rfl
  | f + 1, v, hv => by
    rw [loopFrom, loopFrom, loopAt_same h hok hok2 (by omega), dist_same (mem_rev_iff h) hok.rev (v := (v : Int)) (by omega), closest_unique h hok hok2, loopFrom_same h hok hok2 f (v + 1) (by omega)]
theorem loop_same {n : Int} {arcs more : List Arc} (h : ∀ x, x ∈ arcs ↔ x ∈ more) (hr : rightB n arcs = rightB n more) : loopM n arcs = loopM n more := by
  unfold loopM
  rw [hr]
  split
  · rename_i hc
    exact loopFrom_same h (right_ok (hr.trans hc)).2.2 (right_ok hc).2.2 _ _ (by omega)
  · rfl
end Gr
