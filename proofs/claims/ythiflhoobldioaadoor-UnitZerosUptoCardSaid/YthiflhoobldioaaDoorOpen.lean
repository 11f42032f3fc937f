/- The arguments opened, printed by typegen.py. Conditions: none. -/
import Derived.Test.YthiflhoobldioaaDoorTop
import Derived.Test.YthiflhoobldioaaDoorTypes
import Derived.Test.YthiflhoobldioaaDoorRows
namespace Go.Proofs.YthiflhoobldioaaDoor
open Go Go.K Go.ChangeShapes Go.RowKit Go.WideElems
theorem Tryd.own : ownKnob Tryd.prog.godebug = none := by kernel_rfl
theorem Tryd.laidOut : laidOutB Tryd.prog = true := by kernel_rfl
theorem len2 {α : Type} {l : List α} (h : l.length = 2) : ∃ c0 c1, l = [c0, c1] := by
  match l, h with
  | [c0, c1], _ => exact ⟨c0, c1, rfl⟩
set_option maxHeartbeats 1000000 in
theorem opens23 : Opens Bt.Amount Tryd.prog 23 := fun enc W n cs x h hw => by
    obtain ⟨xs, m, _, rfl, hl, hlen, hf⟩ := DataW.trod_struct Tryd.underlying23 h
    have hw : (DataW.weightsEach Tryd.prog [3, 3] (xs.map (·.1))).all (· ≤ reachBytes) = true := by
      have h2 := hw
      simp only [DataW.weights, Tryd.underlying23] at h2
      exact h2
    have h0 : DataW.trod enc Tryd.prog W 0 (fun _ => true) true m 3 ((cs.drop 0).take (Tryd.prog.cellsOf 3)) = xs[0]? := hf 0 _ rfl
    have h1 : DataW.trod enc Tryd.prog W 0 (fun _ => true) true m 3 ((cs.drop 1).take (Tryd.prog.cellsOf 3)) = xs[1]? := hf 1 _ rfl
    have hl2 : cs.length = 2 := hl.trans (by kernel_rfl)
    have hx : xs.length = 2 := hlen
    obtain ⟨c0, c1, rfl⟩ := len2 hl2
    obtain ⟨x0, x1, rfl⟩ := len2 hx
    have e3 : Tryd.prog.cellsOf 3 = 1 := by kernel_rfl
    simp only [e3, List.drop_zero, List.take_succ_cons, List.take_zero, List.getElem?_cons_zero] at h0
    obtain ⟨a0, k0, _, w0⟩ := DataW.trod_int Tryd.underlying3 h0
    obtain rfl : c0 = .int .i64 a0 := by simpa using k0
    simp only [e3, List.drop_zero, List.drop_succ_cons, List.take_succ_cons, List.take_zero, List.getElem?_cons_zero, List.getElem?_cons_succ] at h1
    obtain ⟨a1, k1, _, w1⟩ := DataW.trod_int Tryd.underlying3 h1
    obtain rfl : c1 = .int .i64 a1 := by simpa using k1
    exact ⟨⟨a0, a1⟩, rfl, ⟨i64_wf w0, i64_wf w1⟩⟩
end Go.Proofs.YthiflhoobldioaaDoor
