/- A node that is handed in, opened. Conditions: those of each theorem. -/
import Derived.Test.YtjcahklnkakklaaDoorTOpenS
import Derived.Test.YtjcahklnkakklaaDoorTNodeD
namespace Go.Proofs.YtjcahklnkakklaaDoor
open Go Go.K Go.ChangeShapes Go.RowKit Go.WideElems
def OpensAt (α : Type) [Rep α] (P : Program) (t : TypeId) (n : Nat) : Prop :=
  ∀ {H : Type} (enc : TypeId × Value → H) (W : World) (cs : List Value) (x : DataW H × List MemPlace),
    DataW.trod enc P W 0 (fun _ => true) true n t cs = some x → (x.1.weights P t).all (· ≤ reachBytes) = true → ∃ a : α, Rep.rep (hp W) a cs
theorem opensAt_slice {α : Type} [Rep α] {P : Program} {t e : TypeId} {n : Nat} (ht : P.underlying t = some (.slice e)) (hC : P.cellsOf e = Rep.sz α) (hb : P.bytesOf e = Rep.bytes α) (hel : ∀ m, m < n → OpensAt α P e m) {H : Type} (enc : TypeId × Value → H) (W : World) (cs : List Value) (x : DataW H × List MemPlace)
    (h : DataW.trod enc P W 0 (fun _ => true) true n t cs = some x) (hw : (x.1.weights P t).all (· ≤ reachBytes) = true) : ∃ (xs : List α) (v : Value), cs = [v] ∧ RepSl (hp W) xs v := by
  rcases DataW.trod_slice ht h with ⟨rfl, _⟩ | ⟨a, len, cap, elems, rest, n', hn, rfl, hx, _, hl, _, hlen, he, _, _⟩
  · exact ⟨[], _, rfl, isSl_nil, by simp [maxSl], fun i hi => absurd hi (by simp)⟩
  · rw [hx] at hw
    simp only [DataW.weights, ht, List.all_cons, List.all_append, Bool.and_eq_true, decide_eq_true_eq, List.length_map] at hw
    obtain ⟨hw1, hw2, _⟩ := hw
    have hex : ∀ i : Fin len, ∃ a0 : α, ∃ cs', Rep.rep (hp W) a0 cs' ∧ ∀ j u, cs'[j]? = some u → PCell (hp W) (Value.at (.slice (some a) len cap) (i.1 * Rep.sz α + j)) u := by
      intro i
      have hi := he i.1 i.2
      have hil : i.1 < elems.length := by rw [hlen]; exact i.2
      rw [List.getElem?_eq_getElem hil] at hi
      obtain ⟨cs', hc, hd⟩ := Option.bind_eq_some_iff.1 hi
      obtain ⟨a0, ha0⟩ := hel n' (by omega) enc W cs' _ hd (weights_all hw2 _ (List.mem_map.2 ⟨_, List.getElem_mem hil, rfl⟩))
      refine ⟨a0, cs', ha0, fun j u hj => pcell_of ?_⟩
      obtain ⟨_, hcl, hat⟩ := World.cells?_some hc
      have hjl : j < P.cellsOf e := by rw [← hcl]; exact (List.getElem?_eq_some_iff.1 hj).1
      have := hat j hjl
      rw [hj, add_add] at this
      show W.cell? (a.add (i.1 * Rep.sz α + j)) = some u
      rw [← hC]; exact this
    refine ⟨List.ofFn fun i : Fin len => (hex i).choose, _, rfl, ⟨by rw [List.length_ofFn]; exact ⟨_, _, rfl, fun _ => rfl, by omega⟩, ?_, fun i hi' => ?_⟩⟩
    · rw [List.length_ofFn, ← hb]
      have h1 : (elems.length + rest.length) * P.bytesOf e ≤ reachBytes := hw1
      have h2 : len * P.bytesOf e ≤ (elems.length + rest.length) * P.bytesOf e := Nat.mul_le_mul_right _ (by omega)
      have h3 : reachBytes ≤ maxSl := by decide
      omega
    · rw [List.length_ofFn] at hi'
      rw [List.getElem_ofFn]
      exact (hex ⟨i, hi'⟩).choose_spec
theorem len6 {α : Type} {l : List α} (h : l.length = 6) : ∃ c0 c1 c2 c3 c4 c5, l = [c0, c1, c2, c3, c4, c5] := by
  match l, h with
  | [c0, c1, c2, c3, c4, c5], _ => exact ⟨c0, c1, c2, c3, c4, c5, rfl⟩
theorem len5 {α : Type} {l : List α} (h : l.length = 5) : ∃ c0 c1 c2 c3 c4, l = [c0, c1, c2, c3, c4] := by
  match l, h with
  | [c0, c1, c2, c3, c4], _ => exact ⟨c0, c1, c2, c3, c4, rfl⟩
theorem len2' {α : Type} {l : List α} (h : l.length = 2) : ∃ c0 c1, l = [c0, c1] := by
  match l, h with
  | [c0, c1], _ => exact ⟨c0, c1, rfl⟩
theorem open_amt {H : Type} {enc : TypeId × Value → H} {W : World} {n : Nat} {cs : List Value} {x : DataW H × List MemPlace} (h : DataW.trod enc Tryd.prog W 0 (fun _ => true) true n 23 cs = some x) : ∃ a b : Int, cs = [.int .i64 a, .int .i64 b] ∧ I64 a ∧ I64 b := by
  obtain ⟨xs, m, _, rfl, hl, hlen, hf⟩ := DataW.trod_struct Tryd.underlying23 h
  have h0 : DataW.trod enc Tryd.prog W 0 (fun _ => true) true m 3 ((cs.drop 0).take (Tryd.prog.cellsOf 3)) = xs[0]? := hf 0 _ rfl
  have h1 : DataW.trod enc Tryd.prog W 0 (fun _ => true) true m 3 ((cs.drop 1).take (Tryd.prog.cellsOf 3)) = xs[1]? := hf 1 _ rfl
  have hl2 : cs.length = 2 := hl.trans (by kernel_rfl)
  have hx : xs.length = 2 := hlen
  obtain ⟨c0, c1, rfl⟩ := len2' hl2
  obtain ⟨x0, x1, rfl⟩ := len2' hx
  have e3 : Tryd.prog.cellsOf 3 = 1 := by kernel_rfl
  simp only [e3, List.drop_zero, List.drop_succ_cons, List.take_succ_cons, List.take_zero, List.getElem?_cons_zero, List.getElem?_cons_succ] at h0 h1
  obtain ⟨a0, k0, _, w0⟩ := DataW.trod_int Tryd.underlying3 h0
  obtain ⟨a1, k1, _, w1⟩ := DataW.trod_int Tryd.underlying3 h1
  obtain rfl : c0 = .int .i64 a0 := by simpa using k0
  obtain rfl : c1 = .int .i64 a1 := by simpa using k1
  exact ⟨a0, a1, rfl, i64_wf w0, i64_wf w1⟩
theorem opensAt_node : ∀ n : Nat, OpensAt Bt.Node Tryd.prog 26 n := fun n => by
  induction n using Nat.strongRecOn with
  | _ n ih =>
    intro H enc W cs x h hw
    obtain ⟨xs, m, hnm, rfl, hl, hlen, hf⟩ := DataW.trod_struct Tryd.underlying26 h
    have hw : (DataW.weightsEach Tryd.prog [3, 9, 23, 3, 24] (xs.map (·.1))).all (· ≤ reachBytes) = true := by
      have h2 := hw
      simp only [DataW.weights, Tryd.underlying26] at h2
      exact h2
    have h0 : DataW.trod enc Tryd.prog W 0 (fun _ => true) true m 3 ((cs.drop 0).take (Tryd.prog.cellsOf 3)) = xs[0]? := hf 0 _ rfl
    have h1 : DataW.trod enc Tryd.prog W 0 (fun _ => true) true m 9 ((cs.drop 1).take (Tryd.prog.cellsOf 9)) = xs[1]? := hf 1 _ rfl
    have h2 : DataW.trod enc Tryd.prog W 0 (fun _ => true) true m 23 ((cs.drop 2).take (Tryd.prog.cellsOf 23)) = xs[2]? := hf 2 _ rfl
    have h3 : DataW.trod enc Tryd.prog W 0 (fun _ => true) true m 3 ((cs.drop 4).take (Tryd.prog.cellsOf 3)) = xs[3]? := hf 3 _ rfl
    have h4 : DataW.trod enc Tryd.prog W 0 (fun _ => true) true m 24 ((cs.drop 5).take (Tryd.prog.cellsOf 24)) = xs[4]? := hf 4 _ rfl
    have hl2 : cs.length = 6 := hl.trans (by kernel_rfl)
    have hx : xs.length = 5 := hlen
    obtain ⟨c0, c1, c2, c3, c4, c5, rfl⟩ := len6 hl2
    obtain ⟨x0, x1, x2, x3, x4, rfl⟩ := len5 hx
    have e3 : Tryd.prog.cellsOf 3 = 1 := by kernel_rfl
    have e9 : Tryd.prog.cellsOf 9 = 1 := by kernel_rfl
    have e23 : Tryd.prog.cellsOf 23 = 2 := by kernel_rfl
    have e24 : Tryd.prog.cellsOf 24 = 1 := by kernel_rfl
    simp only [e3, e9, e23, e24, List.drop_zero, List.drop_succ_cons, List.take_succ_cons, List.take_zero, List.getElem?_cons_zero, List.getElem?_cons_succ] at h0 h1 h2 h3 h4
    obtain ⟨a0, k0, _, w0⟩ := DataW.trod_int Tryd.underlying3 h0
    obtain ⟨a1, k1, _, w1⟩ := DataW.trod_string Tryd.underlying9 h1
    obtain ⟨a2, a3, k2, w2, w3⟩ := open_amt h2
    obtain ⟨a4, k4, _, w4⟩ := DataW.trod_int Tryd.underlying3 h3
    obtain ⟨a5, v5, k5, r5⟩ := opensAt_slice (α := Bt.Node) Tryd.underlying24 (by kernel_rfl) (by kernel_rfl) (fun q hq => ih q (by omega)) enc W _ _ h4 (weights_arg 4 hw rfl rfl)
    obtain rfl : c0 = .int .i64 a0 := by simpa using k0
    obtain rfl : c1 = .string a1 := by simpa using k1
    obtain ⟨rfl, rfl⟩ : c2 = .int .i64 a2 ∧ c3 = .int .i64 a3 := by simpa using k2
    obtain rfl : c4 = .int .i64 a4 := by simpa using k4
    obtain rfl : c5 = v5 := by simpa using k5
    exact ⟨⟨a0, a1.data.toList, a2, a3, a4, a5⟩, repN.2 ⟨_, rfl, ⟨i64_wf w0, by simpa using w1, w2, w3, i64_wf w4⟩, r5⟩⟩
theorem opens26 : Opens Bt.Node Tryd.prog 26 := fun enc W n cs x h hw => opensAt_node n enc W cs x h hw
end Go.Proofs.YtjcahklnkakklaaDoor
