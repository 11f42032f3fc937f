/- The arguments of layer 11 opened. Conditions: none. -/
import Derived.Test.YtjkoojeampaeeaaTop
import Derived.Test.YtjkoojeampaeeaaWalkA
namespace Go.Proofs.Ytjkoojeampaeeaa
open Go Go.K Go.ChangeShapes Go.RowKit

theorem Try.own : ownKnob Try.prog.godebug = none := by kernel_rfl
theorem Try.laidOut : laidOutB Try.prog = true := by kernel_rfl
theorem opens_arc : Opens Gr.Arc Try.prog 31 := fun enc W n cs x h _ => by
  obtain ⟨xs, m, _, _, hl, hlen, hf⟩ := DataW.trod_struct Try.underlying31 h
  have h0 : DataW.trod enc Try.prog W 0 (fun _ => true) true m 3 ((cs.drop 0).take (Try.prog.cellsOf 3)) = xs[0]? := hf 0 _ rfl
  have h1 : DataW.trod enc Try.prog W 0 (fun _ => true) true m 3 ((cs.drop 1).take (Try.prog.cellsOf 3)) = xs[1]? := hf 1 _ rfl
  have hl' : cs.length = 2 := hl.trans (by kernel_rfl)
  have hx : xs.length = 2 := hlen
  match cs, hl', xs, hx with
  | [a, b], _, [x0, x1], _ =>
    have e1 : Try.prog.cellsOf 3 = 1 := by kernel_rfl
    simp only [e1, List.drop_zero, List.drop_succ_cons, List.take_succ_cons, List.take_zero, List.getElem?_cons_zero, List.getElem?_cons_succ] at h0 h1
    obtain ⟨k0, hk0, _, w0⟩ := DataW.trod_int Try.underlying3 h0
    obtain ⟨k1, hk1, _, w1⟩ := DataW.trod_int Try.underlying3 h1
    obtain rfl : a = .int .i64 k0 := by simpa using hk0
    obtain rfl : b = .int .i64 k1 := by simpa using hk1
    exact ⟨⟨k0, k1⟩, rfl, i64_wf w0, i64_wf w1⟩
theorem opens_arcs : Opens (List Gr.Arc) Try.prog 22 := opens_slice Try.underlying22 (by kernel_rfl) (by kernel_rfl) opens_arc
theorem opens_ints : Opens (List Int) Try.prog 25 := opens_slice Try.underlying25 (by kernel_rfl) (by kernel_rfl) (opens_int Try.underlying3)
end Go.Proofs.Ytjkoojeampaeeaa
