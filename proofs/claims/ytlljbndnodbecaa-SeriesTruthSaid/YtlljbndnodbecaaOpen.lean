/- The arguments opened, printed by typegen.py. Conditions: none. -/
import Derived.Test.YtlljbndnodbecaaTop
import Derived.Test.YtlljbndnodbecaaTypes
import Derived.Test.YtlljbndnodbecaaRows
namespace Go.Proofs.Ytlljbndnodbecaa
open Go Go.K Go.ChangeShapes Go.RowKit Go.WideElems
theorem Try.own : ownKnob Try.prog.godebug = none := by kernel_rfl
theorem Try.laidOut : laidOutB Try.prog = true := by kernel_rfl
theorem len2 {α : Type} {l : List α} (h : l.length = 2) : ∃ c0 c1, l = [c0, c1] := by
  match l, h with
  | [c0, c1], _ => exact ⟨c0, c1, rfl⟩
theorem len3 {α : Type} {l : List α} (h : l.length = 3) : ∃ c0 c1 c2, l = [c0, c1, c2] := by
  match l, h with
  | [c0, c1, c2], _ => exact ⟨c0, c1, c2, rfl⟩
theorem len4 {α : Type} {l : List α} (h : l.length = 4) : ∃ c0 c1 c2 c3, l = [c0, c1, c2, c3] := by
  match l, h with
  | [c0, c1, c2, c3], _ => exact ⟨c0, c1, c2, c3, rfl⟩
theorem len5 {α : Type} {l : List α} (h : l.length = 5) : ∃ c0 c1 c2 c3 c4, l = [c0, c1, c2, c3, c4] := by
  match l, h with
  | [c0, c1, c2, c3, c4], _ => exact ⟨c0, c1, c2, c3, c4, rfl⟩
theorem len7 {α : Type} {l : List α} (h : l.length = 7) : ∃ c0 c1 c2 c3 c4 c5 c6, l = [c0, c1, c2, c3, c4, c5, c6] := by
  match l, h with
  | [c0, c1, c2, c3, c4, c5, c6], _ => exact ⟨c0, c1, c2, c3, c4, c5, c6, rfl⟩
theorem len11 {α : Type} {l : List α} (h : l.length = 11) : ∃ c0 c1 c2 c3 c4 c5 c6 c7 c8 c9 c10, l = [c0, c1, c2, c3, c4, c5, c6, c7, c8, c9, c10] := by
  match l, h with
  | [c0, c1, c2, c3, c4, c5, c6, c7, c8, c9, c10], _ => exact ⟨c0, c1, c2, c3, c4, c5, c6, c7, c8, c9, c10, rfl⟩
theorem len12 {α : Type} {l : List α} (h : l.length = 12) : ∃ c0 c1 c2 c3 c4 c5 c6 c7 c8 c9 c10 c11, l = [c0, c1, c2, c3, c4, c5, c6, c7, c8, c9, c10, c11] := by
  match l, h with
  | [c0, c1, c2, c3, c4, c5, c6, c7, c8, c9, c10, c11], _ => exact ⟨c0, c1, c2, c3, c4, c5, c6, c7, c8, c9, c10, c11, rfl⟩
theorem len17 {α : Type} {l : List α} (h : l.length = 17) : ∃ c0 c1 c2 c3 c4 c5 c6 c7 c8 c9 c10 c11 c12 c13 c14 c15 c16, l = [c0, c1, c2, c3, c4, c5, c6, c7, c8, c9, c10, c11, c12, c13, c14, c15, c16] := by
  match l, h with
  | [c0, c1, c2, c3, c4, c5, c6, c7, c8, c9, c10, c11, c12, c13, c14, c15, c16], _ => exact ⟨c0, c1, c2, c3, c4, c5, c6, c7, c8, c9, c10, c11, c12, c13, c14, c15, c16, rfl⟩
theorem len18 {α : Type} {l : List α} (h : l.length = 18) : ∃ c0 c1 c2 c3 c4 c5 c6 c7 c8 c9 c10 c11 c12 c13 c14 c15 c16 c17, l = [c0, c1, c2, c3, c4, c5, c6, c7, c8, c9, c10, c11, c12, c13, c14, c15, c16, c17] := by
  match l, h with
  | [c0, c1, c2, c3, c4, c5, c6, c7, c8, c9, c10, c11, c12, c13, c14, c15, c16, c17], _ => exact ⟨c0, c1, c2, c3, c4, c5, c6, c7, c8, c9, c10, c11, c12, c13, c14, c15, c16, c17, rfl⟩
set_option maxHeartbeats 1000000 in
theorem opens29 : Opens Bt.Gram Try.prog 29 := fun enc W n cs x h hw => by
    obtain ⟨xs, m, _, rfl, hl, hlen, hf⟩ := DataW.trod_struct Try.underlying29 h
    have hw : (DataW.weightsEach Try.prog [3, 3, 3, 3, 9] (xs.map (·.1))).all (· ≤ reachBytes) = true := by
      have h2 := hw
      simp only [DataW.weights, Try.underlying29] at h2
      exact h2
    have h0 : DataW.trod enc Try.prog W 0 (fun _ => true) true m 3 ((cs.drop 0).take (Try.prog.cellsOf 3)) = xs[0]? := hf 0 _ rfl
    have h1 : DataW.trod enc Try.prog W 0 (fun _ => true) true m 3 ((cs.drop 1).take (Try.prog.cellsOf 3)) = xs[1]? := hf 1 _ rfl
    have h2 : DataW.trod enc Try.prog W 0 (fun _ => true) true m 3 ((cs.drop 2).take (Try.prog.cellsOf 3)) = xs[2]? := hf 2 _ rfl
    have h3 : DataW.trod enc Try.prog W 0 (fun _ => true) true m 3 ((cs.drop 3).take (Try.prog.cellsOf 3)) = xs[3]? := hf 3 _ rfl
    have h4 : DataW.trod enc Try.prog W 0 (fun _ => true) true m 9 ((cs.drop 4).take (Try.prog.cellsOf 9)) = xs[4]? := hf 4 _ rfl
    have hl2 : cs.length = 5 := hl.trans (by kernel_rfl)
    have hx : xs.length = 5 := hlen
    obtain ⟨c0, c1, c2, c3, c4, rfl⟩ := len5 hl2
    obtain ⟨x0, x1, x2, x3, x4, rfl⟩ := len5 hx
    have e3 : Try.prog.cellsOf 3 = 1 := by kernel_rfl
    have e9 : Try.prog.cellsOf 9 = 1 := by kernel_rfl
    simp only [e3, List.drop_zero, List.take_succ_cons, List.take_zero, List.getElem?_cons_zero] at h0
    obtain ⟨a0, k0, _, w0⟩ := DataW.trod_int Try.underlying3 h0
    obtain rfl : c0 = .int .i64 a0 := by simpa using k0
    simp only [e3, List.drop_zero, List.drop_succ_cons, List.take_succ_cons, List.take_zero, List.getElem?_cons_zero, List.getElem?_cons_succ] at h1
    obtain ⟨a1, k1, _, w1⟩ := DataW.trod_int Try.underlying3 h1
    obtain rfl : c1 = .int .i64 a1 := by simpa using k1
    simp only [e3, List.drop_zero, List.drop_succ_cons, List.take_succ_cons, List.take_zero, List.getElem?_cons_zero, List.getElem?_cons_succ] at h2
    obtain ⟨a2, k2, _, w2⟩ := DataW.trod_int Try.underlying3 h2
    obtain rfl : c2 = .int .i64 a2 := by simpa using k2
    simp only [e3, List.drop_zero, List.drop_succ_cons, List.take_succ_cons, List.take_zero, List.getElem?_cons_zero, List.getElem?_cons_succ] at h3
    obtain ⟨a3, k3, _, w3⟩ := DataW.trod_int Try.underlying3 h3
    obtain rfl : c3 = .int .i64 a3 := by simpa using k3
    simp only [e9, List.drop_zero, List.drop_succ_cons, List.take_succ_cons, List.take_zero, List.getElem?_cons_zero, List.getElem?_cons_succ] at h4
    obtain ⟨a4, k4, _, w4⟩ := DataW.trod_string Try.underlying9 h4
    obtain rfl : c4 = .string a4 := by simpa using k4
    exact ⟨⟨a0, a1, a2, a3, a4⟩, rfl, ⟨i64_wf w0, i64_wf w1, i64_wf w2, i64_wf w3, w4⟩⟩
theorem opens22 : Opens (List (Bt.Gram)) Try.prog 22 := opens_slice Try.underlying22 (by kernel_rfl) (by kernel_rfl) opens29
theorem opens32 : Opens (List (ByteArray)) Try.prog 32 := opens_slice Try.underlying32 (by kernel_rfl) (by kernel_rfl) (opens_string Try.underlying9)
set_option maxHeartbeats 1000000 in
theorem opens157 : Opens Bt.Point Try.prog 157 := fun enc W n cs x h hw => by
    obtain ⟨xs, m, _, rfl, hl, hlen, hf⟩ := DataW.trod_struct Try.underlying157 h
    have hw : (DataW.weightsEach Try.prog [3, 3] (xs.map (·.1))).all (· ≤ reachBytes) = true := by
      have h2 := hw
      simp only [DataW.weights, Try.underlying157] at h2
      exact h2
    have h0 : DataW.trod enc Try.prog W 0 (fun _ => true) true m 3 ((cs.drop 0).take (Try.prog.cellsOf 3)) = xs[0]? := hf 0 _ rfl
    have h1 : DataW.trod enc Try.prog W 0 (fun _ => true) true m 3 ((cs.drop 1).take (Try.prog.cellsOf 3)) = xs[1]? := hf 1 _ rfl
    have hl2 : cs.length = 2 := hl.trans (by kernel_rfl)
    have hx : xs.length = 2 := hlen
    obtain ⟨c0, c1, rfl⟩ := len2 hl2
    obtain ⟨x0, x1, rfl⟩ := len2 hx
    have e3 : Try.prog.cellsOf 3 = 1 := by kernel_rfl
    simp only [e3, List.drop_zero, List.take_succ_cons, List.take_zero, List.getElem?_cons_zero] at h0
    obtain ⟨a0, k0, _, w0⟩ := DataW.trod_int Try.underlying3 h0
    obtain rfl : c0 = .int .i64 a0 := by simpa using k0
    simp only [e3, List.drop_zero, List.drop_succ_cons, List.take_succ_cons, List.take_zero, List.getElem?_cons_zero, List.getElem?_cons_succ] at h1
    obtain ⟨a1, k1, _, w1⟩ := DataW.trod_int Try.underlying3 h1
    obtain rfl : c1 = .int .i64 a1 := by simpa using k1
    exact ⟨⟨a0, a1⟩, rfl, ⟨i64_wf w0, i64_wf w1⟩⟩
theorem opens141 : Opens (List (Bt.Point)) Try.prog 141 := opens_slice Try.underlying141 (by kernel_rfl) (by kernel_rfl) opens157
theorem opens39 : Opens (List (Int)) Try.prog 39 := opens_slice Try.underlying39 (by kernel_rfl) (by kernel_rfl) (opens_int Try.underlying3)
set_option maxHeartbeats 1000000 in
theorem opens159 : Opens Bt.Cell Try.prog 159 := fun enc W n cs x h hw => by
    obtain ⟨xs, m, _, rfl, hl, hlen, hf⟩ := DataW.trod_struct Try.underlying159 h
    have hw : (DataW.weightsEach Try.prog [3, 3] (xs.map (·.1))).all (· ≤ reachBytes) = true := by
      have h2 := hw
      simp only [DataW.weights, Try.underlying159] at h2
      exact h2
    have h0 : DataW.trod enc Try.prog W 0 (fun _ => true) true m 3 ((cs.drop 0).take (Try.prog.cellsOf 3)) = xs[0]? := hf 0 _ rfl
    have h1 : DataW.trod enc Try.prog W 0 (fun _ => true) true m 3 ((cs.drop 1).take (Try.prog.cellsOf 3)) = xs[1]? := hf 1 _ rfl
    have hl2 : cs.length = 2 := hl.trans (by kernel_rfl)
    have hx : xs.length = 2 := hlen
    obtain ⟨c0, c1, rfl⟩ := len2 hl2
    obtain ⟨x0, x1, rfl⟩ := len2 hx
    have e3 : Try.prog.cellsOf 3 = 1 := by kernel_rfl
    simp only [e3, List.drop_zero, List.take_succ_cons, List.take_zero, List.getElem?_cons_zero] at h0
    obtain ⟨a0, k0, _, w0⟩ := DataW.trod_int Try.underlying3 h0
    obtain rfl : c0 = .int .i64 a0 := by simpa using k0
    simp only [e3, List.drop_zero, List.drop_succ_cons, List.take_succ_cons, List.take_zero, List.getElem?_cons_zero, List.getElem?_cons_succ] at h1
    obtain ⟨a1, k1, _, w1⟩ := DataW.trod_int Try.underlying3 h1
    obtain rfl : c1 = .int .i64 a1 := by simpa using k1
    exact ⟨⟨a0, a1⟩, rfl, ⟨i64_wf w0, i64_wf w1⟩⟩
theorem opens142 : Opens (List (Bt.Cell)) Try.prog 142 := opens_slice Try.underlying142 (by kernel_rfl) (by kernel_rfl) opens159
set_option maxHeartbeats 1000000 in
theorem opens144 : Opens Bt.Place Try.prog 144 := fun enc W n cs x h hw => by
    obtain ⟨xs, m, _, rfl, hl, hlen, hf⟩ := DataW.trod_struct Try.underlying144 h
    have hw : (DataW.weightsEach Try.prog [9, 3, 3, 3, 141, 39, 3, 3, 3, 3, 3, 142] (xs.map (·.1))).all (· ≤ reachBytes) = true := by
      have h2 := hw
      simp only [DataW.weights, Try.underlying144] at h2
      exact h2
    have h0 : DataW.trod enc Try.prog W 0 (fun _ => true) true m 9 ((cs.drop 0).take (Try.prog.cellsOf 9)) = xs[0]? := hf 0 _ rfl
    have h1 : DataW.trod enc Try.prog W 0 (fun _ => true) true m 3 ((cs.drop 1).take (Try.prog.cellsOf 3)) = xs[1]? := hf 1 _ rfl
    have h2 : DataW.trod enc Try.prog W 0 (fun _ => true) true m 3 ((cs.drop 2).take (Try.prog.cellsOf 3)) = xs[2]? := hf 2 _ rfl
    have h3 : DataW.trod enc Try.prog W 0 (fun _ => true) true m 3 ((cs.drop 3).take (Try.prog.cellsOf 3)) = xs[3]? := hf 3 _ rfl
    have h4 : DataW.trod enc Try.prog W 0 (fun _ => true) true m 141 ((cs.drop 4).take (Try.prog.cellsOf 141)) = xs[4]? := hf 4 _ rfl
    have h5 : DataW.trod enc Try.prog W 0 (fun _ => true) true m 39 ((cs.drop 5).take (Try.prog.cellsOf 39)) = xs[5]? := hf 5 _ rfl
    have h6 : DataW.trod enc Try.prog W 0 (fun _ => true) true m 3 ((cs.drop 6).take (Try.prog.cellsOf 3)) = xs[6]? := hf 6 _ rfl
    have h7 : DataW.trod enc Try.prog W 0 (fun _ => true) true m 3 ((cs.drop 7).take (Try.prog.cellsOf 3)) = xs[7]? := hf 7 _ rfl
    have h8 : DataW.trod enc Try.prog W 0 (fun _ => true) true m 3 ((cs.drop 8).take (Try.prog.cellsOf 3)) = xs[8]? := hf 8 _ rfl
    have h9 : DataW.trod enc Try.prog W 0 (fun _ => true) true m 3 ((cs.drop 9).take (Try.prog.cellsOf 3)) = xs[9]? := hf 9 _ rfl
    have h10 : DataW.trod enc Try.prog W 0 (fun _ => true) true m 3 ((cs.drop 10).take (Try.prog.cellsOf 3)) = xs[10]? := hf 10 _ rfl
    have h11 : DataW.trod enc Try.prog W 0 (fun _ => true) true m 142 ((cs.drop 11).take (Try.prog.cellsOf 142)) = xs[11]? := hf 11 _ rfl
    have hl2 : cs.length = 12 := hl.trans (by kernel_rfl)
    have hx : xs.length = 12 := hlen
    obtain ⟨c0, c1, c2, c3, c4, c5, c6, c7, c8, c9, c10, c11, rfl⟩ := len12 hl2
    obtain ⟨x0, x1, x2, x3, x4, x5, x6, x7, x8, x9, x10, x11, rfl⟩ := len12 hx
    have e3 : Try.prog.cellsOf 3 = 1 := by kernel_rfl
    have e9 : Try.prog.cellsOf 9 = 1 := by kernel_rfl
    have e39 : Try.prog.cellsOf 39 = 1 := by kernel_rfl
    have e141 : Try.prog.cellsOf 141 = 1 := by kernel_rfl
    have e142 : Try.prog.cellsOf 142 = 1 := by kernel_rfl
    simp only [e9, List.drop_zero, List.take_succ_cons, List.take_zero, List.getElem?_cons_zero] at h0
    obtain ⟨a0, k0, _, w0⟩ := DataW.trod_string Try.underlying9 h0
    obtain rfl : c0 = .string a0 := by simpa using k0
    simp only [e3, List.drop_zero, List.drop_succ_cons, List.take_succ_cons, List.take_zero, List.getElem?_cons_zero, List.getElem?_cons_succ] at h1
    obtain ⟨a1, k1, _, w1⟩ := DataW.trod_int Try.underlying3 h1
    obtain rfl : c1 = .int .i64 a1 := by simpa using k1
    simp only [e3, List.drop_zero, List.drop_succ_cons, List.take_succ_cons, List.take_zero, List.getElem?_cons_zero, List.getElem?_cons_succ] at h2
    obtain ⟨a2, k2, _, w2⟩ := DataW.trod_int Try.underlying3 h2
    obtain rfl : c2 = .int .i64 a2 := by simpa using k2
    simp only [e3, List.drop_zero, List.drop_succ_cons, List.take_succ_cons, List.take_zero, List.getElem?_cons_zero, List.getElem?_cons_succ] at h3
    obtain ⟨a3, k3, _, w3⟩ := DataW.trod_int Try.underlying3 h3
    obtain rfl : c3 = .int .i64 a3 := by simpa using k3
    simp only [e141, List.drop_zero, List.drop_succ_cons, List.take_succ_cons, List.take_zero, List.getElem?_cons_zero, List.getElem?_cons_succ] at h4
    obtain ⟨a4, v4, k4, r4⟩ := opens141 enc W m _ _ h4 (weights_arg 4 hw rfl rfl)
    obtain rfl : c4 = v4 := by simpa using k4
    simp only [e39, List.drop_zero, List.drop_succ_cons, List.take_succ_cons, List.take_zero, List.getElem?_cons_zero, List.getElem?_cons_succ] at h5
    obtain ⟨a5, v5, k5, r5⟩ := opens39 enc W m _ _ h5 (weights_arg 5 hw rfl rfl)
    obtain rfl : c5 = v5 := by simpa using k5
    simp only [e3, List.drop_zero, List.drop_succ_cons, List.take_succ_cons, List.take_zero, List.getElem?_cons_zero, List.getElem?_cons_succ] at h6
    obtain ⟨a6, k6, _, w6⟩ := DataW.trod_int Try.underlying3 h6
    obtain rfl : c6 = .int .i64 a6 := by simpa using k6
    simp only [e3, List.drop_zero, List.drop_succ_cons, List.take_succ_cons, List.take_zero, List.getElem?_cons_zero, List.getElem?_cons_succ] at h7
    obtain ⟨a7, k7, _, w7⟩ := DataW.trod_int Try.underlying3 h7
    obtain rfl : c7 = .int .i64 a7 := by simpa using k7
    simp only [e3, List.drop_zero, List.drop_succ_cons, List.take_succ_cons, List.take_zero, List.getElem?_cons_zero, List.getElem?_cons_succ] at h8
    obtain ⟨a8, k8, _, w8⟩ := DataW.trod_int Try.underlying3 h8
    obtain rfl : c8 = .int .i64 a8 := by simpa using k8
    simp only [e3, List.drop_zero, List.drop_succ_cons, List.take_succ_cons, List.take_zero, List.getElem?_cons_zero, List.getElem?_cons_succ] at h9
    obtain ⟨a9, k9, _, w9⟩ := DataW.trod_int Try.underlying3 h9
    obtain rfl : c9 = .int .i64 a9 := by simpa using k9
    simp only [e3, List.drop_zero, List.drop_succ_cons, List.take_succ_cons, List.take_zero, List.getElem?_cons_zero, List.getElem?_cons_succ] at h10
    obtain ⟨a10, k10, _, w10⟩ := DataW.trod_int Try.underlying3 h10
    obtain rfl : c10 = .int .i64 a10 := by simpa using k10
    simp only [e142, List.drop_zero, List.drop_succ_cons, List.take_succ_cons, List.take_zero, List.getElem?_cons_zero, List.getElem?_cons_succ] at h11
    obtain ⟨a11, v11, k11, r11⟩ := opens142 enc W m _ _ h11 (weights_arg 11 hw rfl rfl)
    obtain rfl : c11 = v11 := by simpa using k11
    exact ⟨⟨a0, a1, a2, a3, a4, a5, a6, a7, a8, a9, a10, a11⟩, _, _, _, rfl, ⟨w0, i64_wf w1, i64_wf w2, i64_wf w3, i64_wf w6, i64_wf w7, i64_wf w8, i64_wf w9, i64_wf w10⟩, r4, r5, r11⟩
theorem opens33 : Opens (List (Bt.Place)) Try.prog 33 := opens_slice Try.underlying33 (by kernel_rfl) (by kernel_rfl) opens144
set_option maxHeartbeats 1000000 in
theorem opens146 : Opens Bt.Band Try.prog 146 := fun enc W n cs x h hw => by
    obtain ⟨xs, m, _, rfl, hl, hlen, hf⟩ := DataW.trod_struct Try.underlying146 h
    have hw : (DataW.weightsEach Try.prog [141, 141] (xs.map (·.1))).all (· ≤ reachBytes) = true := by
      have h2 := hw
      simp only [DataW.weights, Try.underlying146] at h2
      exact h2
    have h0 : DataW.trod enc Try.prog W 0 (fun _ => true) true m 141 ((cs.drop 0).take (Try.prog.cellsOf 141)) = xs[0]? := hf 0 _ rfl
    have h1 : DataW.trod enc Try.prog W 0 (fun _ => true) true m 141 ((cs.drop 1).take (Try.prog.cellsOf 141)) = xs[1]? := hf 1 _ rfl
    have hl2 : cs.length = 2 := hl.trans (by kernel_rfl)
    have hx : xs.length = 2 := hlen
    obtain ⟨c0, c1, rfl⟩ := len2 hl2
    obtain ⟨x0, x1, rfl⟩ := len2 hx
    have e141 : Try.prog.cellsOf 141 = 1 := by kernel_rfl
    simp only [e141, List.drop_zero, List.take_succ_cons, List.take_zero, List.getElem?_cons_zero] at h0
    obtain ⟨a0, v0, k0, r0⟩ := opens141 enc W m _ _ h0 (weights_arg 0 hw rfl rfl)
    obtain rfl : c0 = v0 := by simpa using k0
    simp only [e141, List.drop_zero, List.drop_succ_cons, List.take_succ_cons, List.take_zero, List.getElem?_cons_zero, List.getElem?_cons_succ] at h1
    obtain ⟨a1, v1, k1, r1⟩ := opens141 enc W m _ _ h1 (weights_arg 1 hw rfl rfl)
    obtain rfl : c1 = v1 := by simpa using k1
    exact ⟨⟨a0, a1⟩, _, _, rfl, trivial, r0, r1⟩
set_option maxHeartbeats 1000000 in
theorem opens148 : Opens Bt.Link Try.prog 148 := fun enc W n cs x h hw => by
    obtain ⟨xs, m, _, rfl, hl, hlen, hf⟩ := DataW.trod_struct Try.underlying148 h
    have hw : (DataW.weightsEach Try.prog [9, 3, 3, 3, 141, 146, 3, 3, 3, 3, 3, 3, 3, 3, 3, 3, 3] (xs.map (·.1))).all (· ≤ reachBytes) = true := by
      have h2 := hw
      simp only [DataW.weights, Try.underlying148] at h2
      exact h2
    have h0 : DataW.trod enc Try.prog W 0 (fun _ => true) true m 9 ((cs.drop 0).take (Try.prog.cellsOf 9)) = xs[0]? := hf 0 _ rfl
    have h1 : DataW.trod enc Try.prog W 0 (fun _ => true) true m 3 ((cs.drop 1).take (Try.prog.cellsOf 3)) = xs[1]? := hf 1 _ rfl
    have h2 : DataW.trod enc Try.prog W 0 (fun _ => true) true m 3 ((cs.drop 2).take (Try.prog.cellsOf 3)) = xs[2]? := hf 2 _ rfl
    have h3 : DataW.trod enc Try.prog W 0 (fun _ => true) true m 3 ((cs.drop 3).take (Try.prog.cellsOf 3)) = xs[3]? := hf 3 _ rfl
    have h4 : DataW.trod enc Try.prog W 0 (fun _ => true) true m 141 ((cs.drop 4).take (Try.prog.cellsOf 141)) = xs[4]? := hf 4 _ rfl
    have h5 : DataW.trod enc Try.prog W 0 (fun _ => true) true m 146 ((cs.drop 5).take (Try.prog.cellsOf 146)) = xs[5]? := hf 5 _ rfl
    have h6 : DataW.trod enc Try.prog W 0 (fun _ => true) true m 3 ((cs.drop 7).take (Try.prog.cellsOf 3)) = xs[6]? := hf 6 _ rfl
    have h7 : DataW.trod enc Try.prog W 0 (fun _ => true) true m 3 ((cs.drop 8).take (Try.prog.cellsOf 3)) = xs[7]? := hf 7 _ rfl
    have h8 : DataW.trod enc Try.prog W 0 (fun _ => true) true m 3 ((cs.drop 9).take (Try.prog.cellsOf 3)) = xs[8]? := hf 8 _ rfl
    have h9 : DataW.trod enc Try.prog W 0 (fun _ => true) true m 3 ((cs.drop 10).take (Try.prog.cellsOf 3)) = xs[9]? := hf 9 _ rfl
    have h10 : DataW.trod enc Try.prog W 0 (fun _ => true) true m 3 ((cs.drop 11).take (Try.prog.cellsOf 3)) = xs[10]? := hf 10 _ rfl
    have h11 : DataW.trod enc Try.prog W 0 (fun _ => true) true m 3 ((cs.drop 12).take (Try.prog.cellsOf 3)) = xs[11]? := hf 11 _ rfl
    have h12 : DataW.trod enc Try.prog W 0 (fun _ => true) true m 3 ((cs.drop 13).take (Try.prog.cellsOf 3)) = xs[12]? := hf 12 _ rfl
    have h13 : DataW.trod enc Try.prog W 0 (fun _ => true) true m 3 ((cs.drop 14).take (Try.prog.cellsOf 3)) = xs[13]? := hf 13 _ rfl
    have h14 : DataW.trod enc Try.prog W 0 (fun _ => true) true m 3 ((cs.drop 15).take (Try.prog.cellsOf 3)) = xs[14]? := hf 14 _ rfl
    have h15 : DataW.trod enc Try.prog W 0 (fun _ => true) true m 3 ((cs.drop 16).take (Try.prog.cellsOf 3)) = xs[15]? := hf 15 _ rfl
    have h16 : DataW.trod enc Try.prog W 0 (fun _ => true) true m 3 ((cs.drop 17).take (Try.prog.cellsOf 3)) = xs[16]? := hf 16 _ rfl
    have hl2 : cs.length = 18 := hl.trans (by kernel_rfl)
    have hx : xs.length = 17 := hlen
    obtain ⟨c0, c1, c2, c3, c4, c5, c6, c7, c8, c9, c10, c11, c12, c13, c14, c15, c16, c17, rfl⟩ := len18 hl2
    obtain ⟨x0, x1, x2, x3, x4, x5, x6, x7, x8, x9, x10, x11, x12, x13, x14, x15, x16, rfl⟩ := len17 hx
    have e3 : Try.prog.cellsOf 3 = 1 := by kernel_rfl
    have e9 : Try.prog.cellsOf 9 = 1 := by kernel_rfl
    have e141 : Try.prog.cellsOf 141 = 1 := by kernel_rfl
    have e146 : Try.prog.cellsOf 146 = 2 := by kernel_rfl
    simp only [e9, List.drop_zero, List.take_succ_cons, List.take_zero, List.getElem?_cons_zero] at h0
    obtain ⟨a0, k0, _, w0⟩ := DataW.trod_string Try.underlying9 h0
    obtain rfl : c0 = .string a0 := by simpa using k0
    simp only [e3, List.drop_zero, List.drop_succ_cons, List.take_succ_cons, List.take_zero, List.getElem?_cons_zero, List.getElem?_cons_succ] at h1
    obtain ⟨a1, k1, _, w1⟩ := DataW.trod_int Try.underlying3 h1
    obtain rfl : c1 = .int .i64 a1 := by simpa using k1
    simp only [e3, List.drop_zero, List.drop_succ_cons, List.take_succ_cons, List.take_zero, List.getElem?_cons_zero, List.getElem?_cons_succ] at h2
    obtain ⟨a2, k2, _, w2⟩ := DataW.trod_int Try.underlying3 h2
    obtain rfl : c2 = .int .i64 a2 := by simpa using k2
    simp only [e3, List.drop_zero, List.drop_succ_cons, List.take_succ_cons, List.take_zero, List.getElem?_cons_zero, List.getElem?_cons_succ] at h3
    obtain ⟨a3, k3, _, w3⟩ := DataW.trod_int Try.underlying3 h3
    obtain rfl : c3 = .int .i64 a3 := by simpa using k3
    simp only [e141, List.drop_zero, List.drop_succ_cons, List.take_succ_cons, List.take_zero, List.getElem?_cons_zero, List.getElem?_cons_succ] at h4
    obtain ⟨a4, v4, k4, r4⟩ := opens141 enc W m _ _ h4 (weights_arg 4 hw rfl rfl)
    obtain rfl : c4 = v4 := by simpa using k4
    simp only [e146, List.drop_zero, List.drop_succ_cons, List.take_succ_cons, List.take_zero, List.getElem?_cons_zero, List.getElem?_cons_succ] at h5
    obtain ⟨a5, v5, v6, k5, w5, r5, r6⟩ := opens146 enc W m _ _ h5 (weights_arg 5 hw rfl rfl)
    simp only [List.cons.injEq, and_true] at k5
    obtain ⟨rfl, rfl⟩ := k5
    simp only [e3, List.drop_zero, List.drop_succ_cons, List.take_succ_cons, List.take_zero, List.getElem?_cons_zero, List.getElem?_cons_succ] at h6
    obtain ⟨a6, k6, _, w6⟩ := DataW.trod_int Try.underlying3 h6
    obtain rfl : c7 = .int .i64 a6 := by simpa using k6
    simp only [e3, List.drop_zero, List.drop_succ_cons, List.take_succ_cons, List.take_zero, List.getElem?_cons_zero, List.getElem?_cons_succ] at h7
    obtain ⟨a7, k7, _, w7⟩ := DataW.trod_int Try.underlying3 h7
    obtain rfl : c8 = .int .i64 a7 := by simpa using k7
    simp only [e3, List.drop_zero, List.drop_succ_cons, List.take_succ_cons, List.take_zero, List.getElem?_cons_zero, List.getElem?_cons_succ] at h8
    obtain ⟨a8, k8, _, w8⟩ := DataW.trod_int Try.underlying3 h8
    obtain rfl : c9 = .int .i64 a8 := by simpa using k8
    simp only [e3, List.drop_zero, List.drop_succ_cons, List.take_succ_cons, List.take_zero, List.getElem?_cons_zero, List.getElem?_cons_succ] at h9
    obtain ⟨a9, k9, _, w9⟩ := DataW.trod_int Try.underlying3 h9
    obtain rfl : c10 = .int .i64 a9 := by simpa using k9
    simp only [e3, List.drop_zero, List.drop_succ_cons, List.take_succ_cons, List.take_zero, List.getElem?_cons_zero, List.getElem?_cons_succ] at h10
    obtain ⟨a10, k10, _, w10⟩ := DataW.trod_int Try.underlying3 h10
    obtain rfl : c11 = .int .i64 a10 := by simpa using k10
    simp only [e3, List.drop_zero, List.drop_succ_cons, List.take_succ_cons, List.take_zero, List.getElem?_cons_zero, List.getElem?_cons_succ] at h11
    obtain ⟨a11, k11, _, w11⟩ := DataW.trod_int Try.underlying3 h11
    obtain rfl : c12 = .int .i64 a11 := by simpa using k11
    simp only [e3, List.drop_zero, List.drop_succ_cons, List.take_succ_cons, List.take_zero, List.getElem?_cons_zero, List.getElem?_cons_succ] at h12
    obtain ⟨a12, k12, _, w12⟩ := DataW.trod_int Try.underlying3 h12
    obtain rfl : c13 = .int .i64 a12 := by simpa using k12
    simp only [e3, List.drop_zero, List.drop_succ_cons, List.take_succ_cons, List.take_zero, List.getElem?_cons_zero, List.getElem?_cons_succ] at h13
    obtain ⟨a13, k13, _, w13⟩ := DataW.trod_int Try.underlying3 h13
    obtain rfl : c14 = .int .i64 a13 := by simpa using k13
    simp only [e3, List.drop_zero, List.drop_succ_cons, List.take_succ_cons, List.take_zero, List.getElem?_cons_zero, List.getElem?_cons_succ] at h14
    obtain ⟨a14, k14, _, w14⟩ := DataW.trod_int Try.underlying3 h14
    obtain rfl : c15 = .int .i64 a14 := by simpa using k14
    simp only [e3, List.drop_zero, List.drop_succ_cons, List.take_succ_cons, List.take_zero, List.getElem?_cons_zero, List.getElem?_cons_succ] at h15
    obtain ⟨a15, k15, _, w15⟩ := DataW.trod_int Try.underlying3 h15
    obtain rfl : c16 = .int .i64 a15 := by simpa using k15
    simp only [e3, List.drop_zero, List.drop_succ_cons, List.take_succ_cons, List.take_zero, List.getElem?_cons_zero, List.getElem?_cons_succ] at h16
    obtain ⟨a16, k16, _, w16⟩ := DataW.trod_int Try.underlying3 h16
    obtain rfl : c17 = .int .i64 a16 := by simpa using k16
    exact ⟨⟨a0, a1, a2, a3, a4, a5, a6, a7, a8, a9, a10, a11, a12, a13, a14, a15, a16⟩, _, _, _, rfl, ⟨w0, i64_wf w1, i64_wf w2, i64_wf w3, i64_wf w6, i64_wf w7, i64_wf w8, i64_wf w9, i64_wf w10, i64_wf w11, i64_wf w12, i64_wf w13, i64_wf w14, i64_wf w15, i64_wf w16⟩, r4, r5, r6⟩
theorem opens34 : Opens (List (Bt.Link)) Try.prog 34 := opens_slice Try.underlying34 (by kernel_rfl) (by kernel_rfl) opens148
set_option maxHeartbeats 1000000 in
theorem opens150 : Opens Bt.Town Try.prog 150 := fun enc W n cs x h hw => by
    obtain ⟨xs, m, _, rfl, hl, hlen, hf⟩ := DataW.trod_struct Try.underlying150 h
    have hw : (DataW.weightsEach Try.prog [9, 3, 3, 3, 3, 3, 3] (xs.map (·.1))).all (· ≤ reachBytes) = true := by
      have h2 := hw
      simp only [DataW.weights, Try.underlying150] at h2
      exact h2
    have h0 : DataW.trod enc Try.prog W 0 (fun _ => true) true m 9 ((cs.drop 0).take (Try.prog.cellsOf 9)) = xs[0]? := hf 0 _ rfl
    have h1 : DataW.trod enc Try.prog W 0 (fun _ => true) true m 3 ((cs.drop 1).take (Try.prog.cellsOf 3)) = xs[1]? := hf 1 _ rfl
    have h2 : DataW.trod enc Try.prog W 0 (fun _ => true) true m 3 ((cs.drop 2).take (Try.prog.cellsOf 3)) = xs[2]? := hf 2 _ rfl
    have h3 : DataW.trod enc Try.prog W 0 (fun _ => true) true m 3 ((cs.drop 3).take (Try.prog.cellsOf 3)) = xs[3]? := hf 3 _ rfl
    have h4 : DataW.trod enc Try.prog W 0 (fun _ => true) true m 3 ((cs.drop 4).take (Try.prog.cellsOf 3)) = xs[4]? := hf 4 _ rfl
    have h5 : DataW.trod enc Try.prog W 0 (fun _ => true) true m 3 ((cs.drop 5).take (Try.prog.cellsOf 3)) = xs[5]? := hf 5 _ rfl
    have h6 : DataW.trod enc Try.prog W 0 (fun _ => true) true m 3 ((cs.drop 6).take (Try.prog.cellsOf 3)) = xs[6]? := hf 6 _ rfl
    have hl2 : cs.length = 7 := hl.trans (by kernel_rfl)
    have hx : xs.length = 7 := hlen
    obtain ⟨c0, c1, c2, c3, c4, c5, c6, rfl⟩ := len7 hl2
    obtain ⟨x0, x1, x2, x3, x4, x5, x6, rfl⟩ := len7 hx
    have e3 : Try.prog.cellsOf 3 = 1 := by kernel_rfl
    have e9 : Try.prog.cellsOf 9 = 1 := by kernel_rfl
    simp only [e9, List.drop_zero, List.take_succ_cons, List.take_zero, List.getElem?_cons_zero] at h0
    obtain ⟨a0, k0, _, w0⟩ := DataW.trod_string Try.underlying9 h0
    obtain rfl : c0 = .string a0 := by simpa using k0
    simp only [e3, List.drop_zero, List.drop_succ_cons, List.take_succ_cons, List.take_zero, List.getElem?_cons_zero, List.getElem?_cons_succ] at h1
    obtain ⟨a1, k1, _, w1⟩ := DataW.trod_int Try.underlying3 h1
    obtain rfl : c1 = .int .i64 a1 := by simpa using k1
    simp only [e3, List.drop_zero, List.drop_succ_cons, List.take_succ_cons, List.take_zero, List.getElem?_cons_zero, List.getElem?_cons_succ] at h2
    obtain ⟨a2, k2, _, w2⟩ := DataW.trod_int Try.underlying3 h2
    obtain rfl : c2 = .int .i64 a2 := by simpa using k2
    simp only [e3, List.drop_zero, List.drop_succ_cons, List.take_succ_cons, List.take_zero, List.getElem?_cons_zero, List.getElem?_cons_succ] at h3
    obtain ⟨a3, k3, _, w3⟩ := DataW.trod_int Try.underlying3 h3
    obtain rfl : c3 = .int .i64 a3 := by simpa using k3
    simp only [e3, List.drop_zero, List.drop_succ_cons, List.take_succ_cons, List.take_zero, List.getElem?_cons_zero, List.getElem?_cons_succ] at h4
    obtain ⟨a4, k4, _, w4⟩ := DataW.trod_int Try.underlying3 h4
    obtain rfl : c4 = .int .i64 a4 := by simpa using k4
    simp only [e3, List.drop_zero, List.drop_succ_cons, List.take_succ_cons, List.take_zero, List.getElem?_cons_zero, List.getElem?_cons_succ] at h5
    obtain ⟨a5, k5, _, w5⟩ := DataW.trod_int Try.underlying3 h5
    obtain rfl : c5 = .int .i64 a5 := by simpa using k5
    simp only [e3, List.drop_zero, List.drop_succ_cons, List.take_succ_cons, List.take_zero, List.getElem?_cons_zero, List.getElem?_cons_succ] at h6
    obtain ⟨a6, k6, _, w6⟩ := DataW.trod_int Try.underlying3 h6
    obtain rfl : c6 = .int .i64 a6 := by simpa using k6
    exact ⟨⟨a0, a1, a2, a3, a4, a5, a6⟩, rfl, ⟨w0, i64_wf w1, i64_wf w2, i64_wf w3, i64_wf w4, i64_wf w5, i64_wf w6⟩⟩
theorem opens35 : Opens (List (Bt.Town)) Try.prog 35 := opens_slice Try.underlying35 (by kernel_rfl) (by kernel_rfl) opens150
set_option maxHeartbeats 1000000 in
theorem opens63 : Opens Bt.Gauge Try.prog 63 := fun enc W n cs x h hw => by
    obtain ⟨xs, m, _, rfl, hl, hlen, hf⟩ := DataW.trod_struct Try.underlying63 h
    have hw : (DataW.weightsEach Try.prog [9, 3, 3, 3, 3] (xs.map (·.1))).all (· ≤ reachBytes) = true := by
      have h2 := hw
      simp only [DataW.weights, Try.underlying63] at h2
      exact h2
    have h0 : DataW.trod enc Try.prog W 0 (fun _ => true) true m 9 ((cs.drop 0).take (Try.prog.cellsOf 9)) = xs[0]? := hf 0 _ rfl
    have h1 : DataW.trod enc Try.prog W 0 (fun _ => true) true m 3 ((cs.drop 1).take (Try.prog.cellsOf 3)) = xs[1]? := hf 1 _ rfl
    have h2 : DataW.trod enc Try.prog W 0 (fun _ => true) true m 3 ((cs.drop 2).take (Try.prog.cellsOf 3)) = xs[2]? := hf 2 _ rfl
    have h3 : DataW.trod enc Try.prog W 0 (fun _ => true) true m 3 ((cs.drop 3).take (Try.prog.cellsOf 3)) = xs[3]? := hf 3 _ rfl
    have h4 : DataW.trod enc Try.prog W 0 (fun _ => true) true m 3 ((cs.drop 4).take (Try.prog.cellsOf 3)) = xs[4]? := hf 4 _ rfl
    have hl2 : cs.length = 5 := hl.trans (by kernel_rfl)
    have hx : xs.length = 5 := hlen
    obtain ⟨c0, c1, c2, c3, c4, rfl⟩ := len5 hl2
    obtain ⟨x0, x1, x2, x3, x4, rfl⟩ := len5 hx
    have e3 : Try.prog.cellsOf 3 = 1 := by kernel_rfl
    have e9 : Try.prog.cellsOf 9 = 1 := by kernel_rfl
    simp only [e9, List.drop_zero, List.take_succ_cons, List.take_zero, List.getElem?_cons_zero] at h0
    obtain ⟨a0, k0, _, w0⟩ := DataW.trod_string Try.underlying9 h0
    obtain rfl : c0 = .string a0 := by simpa using k0
    simp only [e3, List.drop_zero, List.drop_succ_cons, List.take_succ_cons, List.take_zero, List.getElem?_cons_zero, List.getElem?_cons_succ] at h1
    obtain ⟨a1, k1, _, w1⟩ := DataW.trod_int Try.underlying3 h1
    obtain rfl : c1 = .int .i64 a1 := by simpa using k1
    simp only [e3, List.drop_zero, List.drop_succ_cons, List.take_succ_cons, List.take_zero, List.getElem?_cons_zero, List.getElem?_cons_succ] at h2
    obtain ⟨a2, k2, _, w2⟩ := DataW.trod_int Try.underlying3 h2
    obtain rfl : c2 = .int .i64 a2 := by simpa using k2
    simp only [e3, List.drop_zero, List.drop_succ_cons, List.take_succ_cons, List.take_zero, List.getElem?_cons_zero, List.getElem?_cons_succ] at h3
    obtain ⟨a3, k3, _, w3⟩ := DataW.trod_int Try.underlying3 h3
    obtain rfl : c3 = .int .i64 a3 := by simpa using k3
    simp only [e3, List.drop_zero, List.drop_succ_cons, List.take_succ_cons, List.take_zero, List.getElem?_cons_zero, List.getElem?_cons_succ] at h4
    obtain ⟨a4, k4, _, w4⟩ := DataW.trod_int Try.underlying3 h4
    obtain rfl : c4 = .int .i64 a4 := by simpa using k4
    exact ⟨⟨a0, a1, a2, a3, a4⟩, rfl, ⟨w0, i64_wf w1, i64_wf w2, i64_wf w3, i64_wf w4⟩⟩
theorem opens36 : Opens (List (Bt.Gauge)) Try.prog 36 := opens_slice Try.underlying36 (by kernel_rfl) (by kernel_rfl) opens63
set_option maxHeartbeats 1000000 in
theorem opens152 : Opens Bt.Road Try.prog 152 := fun enc W n cs x h hw => by
    obtain ⟨xs, m, _, rfl, hl, hlen, hf⟩ := DataW.trod_struct Try.underlying152 h
    have hw : (DataW.weightsEach Try.prog [9, 3, 3, 3, 3, 3, 3] (xs.map (·.1))).all (· ≤ reachBytes) = true := by
      have h2 := hw
      simp only [DataW.weights, Try.underlying152] at h2
      exact h2
    have h0 : DataW.trod enc Try.prog W 0 (fun _ => true) true m 9 ((cs.drop 0).take (Try.prog.cellsOf 9)) = xs[0]? := hf 0 _ rfl
    have h1 : DataW.trod enc Try.prog W 0 (fun _ => true) true m 3 ((cs.drop 1).take (Try.prog.cellsOf 3)) = xs[1]? := hf 1 _ rfl
    have h2 : DataW.trod enc Try.prog W 0 (fun _ => true) true m 3 ((cs.drop 2).take (Try.prog.cellsOf 3)) = xs[2]? := hf 2 _ rfl
    have h3 : DataW.trod enc Try.prog W 0 (fun _ => true) true m 3 ((cs.drop 3).take (Try.prog.cellsOf 3)) = xs[3]? := hf 3 _ rfl
    have h4 : DataW.trod enc Try.prog W 0 (fun _ => true) true m 3 ((cs.drop 4).take (Try.prog.cellsOf 3)) = xs[4]? := hf 4 _ rfl
    have h5 : DataW.trod enc Try.prog W 0 (fun _ => true) true m 3 ((cs.drop 5).take (Try.prog.cellsOf 3)) = xs[5]? := hf 5 _ rfl
    have h6 : DataW.trod enc Try.prog W 0 (fun _ => true) true m 3 ((cs.drop 6).take (Try.prog.cellsOf 3)) = xs[6]? := hf 6 _ rfl
    have hl2 : cs.length = 7 := hl.trans (by kernel_rfl)
    have hx : xs.length = 7 := hlen
    obtain ⟨c0, c1, c2, c3, c4, c5, c6, rfl⟩ := len7 hl2
    obtain ⟨x0, x1, x2, x3, x4, x5, x6, rfl⟩ := len7 hx
    have e3 : Try.prog.cellsOf 3 = 1 := by kernel_rfl
    have e9 : Try.prog.cellsOf 9 = 1 := by kernel_rfl
    simp only [e9, List.drop_zero, List.take_succ_cons, List.take_zero, List.getElem?_cons_zero] at h0
    obtain ⟨a0, k0, _, w0⟩ := DataW.trod_string Try.underlying9 h0
    obtain rfl : c0 = .string a0 := by simpa using k0
    simp only [e3, List.drop_zero, List.drop_succ_cons, List.take_succ_cons, List.take_zero, List.getElem?_cons_zero, List.getElem?_cons_succ] at h1
    obtain ⟨a1, k1, _, w1⟩ := DataW.trod_int Try.underlying3 h1
    obtain rfl : c1 = .int .i64 a1 := by simpa using k1
    simp only [e3, List.drop_zero, List.drop_succ_cons, List.take_succ_cons, List.take_zero, List.getElem?_cons_zero, List.getElem?_cons_succ] at h2
    obtain ⟨a2, k2, _, w2⟩ := DataW.trod_int Try.underlying3 h2
    obtain rfl : c2 = .int .i64 a2 := by simpa using k2
    simp only [e3, List.drop_zero, List.drop_succ_cons, List.take_succ_cons, List.take_zero, List.getElem?_cons_zero, List.getElem?_cons_succ] at h3
    obtain ⟨a3, k3, _, w3⟩ := DataW.trod_int Try.underlying3 h3
    obtain rfl : c3 = .int .i64 a3 := by simpa using k3
    simp only [e3, List.drop_zero, List.drop_succ_cons, List.take_succ_cons, List.take_zero, List.getElem?_cons_zero, List.getElem?_cons_succ] at h4
    obtain ⟨a4, k4, _, w4⟩ := DataW.trod_int Try.underlying3 h4
    obtain rfl : c4 = .int .i64 a4 := by simpa using k4
    simp only [e3, List.drop_zero, List.drop_succ_cons, List.take_succ_cons, List.take_zero, List.getElem?_cons_zero, List.getElem?_cons_succ] at h5
    obtain ⟨a5, k5, _, w5⟩ := DataW.trod_int Try.underlying3 h5
    obtain rfl : c5 = .int .i64 a5 := by simpa using k5
    simp only [e3, List.drop_zero, List.drop_succ_cons, List.take_succ_cons, List.take_zero, List.getElem?_cons_zero, List.getElem?_cons_succ] at h6
    obtain ⟨a6, k6, _, w6⟩ := DataW.trod_int Try.underlying3 h6
    obtain rfl : c6 = .int .i64 a6 := by simpa using k6
    exact ⟨⟨a0, a1, a2, a3, a4, a5, a6⟩, rfl, ⟨w0, i64_wf w1, i64_wf w2, i64_wf w3, i64_wf w4, i64_wf w5, i64_wf w6⟩⟩
theorem opens37 : Opens (List (Bt.Road)) Try.prog 37 := opens_slice Try.underlying37 (by kernel_rfl) (by kernel_rfl) opens152
set_option maxHeartbeats 1000000 in
theorem opens154 : Opens Bt.Shelter Try.prog 154 := fun enc W n cs x h hw => by
    obtain ⟨xs, m, _, rfl, hl, hlen, hf⟩ := DataW.trod_struct Try.underlying154 h
    have hw : (DataW.weightsEach Try.prog [9, 3] (xs.map (·.1))).all (· ≤ reachBytes) = true := by
      have h2 := hw
      simp only [DataW.weights, Try.underlying154] at h2
      exact h2
    have h0 : DataW.trod enc Try.prog W 0 (fun _ => true) true m 9 ((cs.drop 0).take (Try.prog.cellsOf 9)) = xs[0]? := hf 0 _ rfl
    have h1 : DataW.trod enc Try.prog W 0 (fun _ => true) true m 3 ((cs.drop 1).take (Try.prog.cellsOf 3)) = xs[1]? := hf 1 _ rfl
    have hl2 : cs.length = 2 := hl.trans (by kernel_rfl)
    have hx : xs.length = 2 := hlen
    obtain ⟨c0, c1, rfl⟩ := len2 hl2
    obtain ⟨x0, x1, rfl⟩ := len2 hx
    have e3 : Try.prog.cellsOf 3 = 1 := by kernel_rfl
    have e9 : Try.prog.cellsOf 9 = 1 := by kernel_rfl
    simp only [e9, List.drop_zero, List.take_succ_cons, List.take_zero, List.getElem?_cons_zero] at h0
    obtain ⟨a0, k0, _, w0⟩ := DataW.trod_string Try.underlying9 h0
    obtain rfl : c0 = .string a0 := by simpa using k0
    simp only [e3, List.drop_zero, List.drop_succ_cons, List.take_succ_cons, List.take_zero, List.getElem?_cons_zero, List.getElem?_cons_succ] at h1
    obtain ⟨a1, k1, _, w1⟩ := DataW.trod_int Try.underlying3 h1
    obtain rfl : c1 = .int .i64 a1 := by simpa using k1
    exact ⟨⟨a0, a1⟩, rfl, ⟨w0, i64_wf w1⟩⟩
theorem opens38 : Opens (List (Bt.Shelter)) Try.prog 38 := opens_slice Try.underlying38 (by kernel_rfl) (by kernel_rfl) opens154
set_option maxHeartbeats 1000000 in
theorem opens41 : Opens Bt.Basin Try.prog 41 := fun enc W n cs x h hw => by
    obtain ⟨xs, m, _, rfl, hl, hlen, hf⟩ := DataW.trod_struct Try.underlying41 h
    have hw : (DataW.weightsEach Try.prog [9, 32, 3, 33, 34, 35, 36, 37, 38, 39, 3] (xs.map (·.1))).all (· ≤ reachBytes) = true := by
      have h2 := hw
      simp only [DataW.weights, Try.underlying41] at h2
      exact h2
    have h0 : DataW.trod enc Try.prog W 0 (fun _ => true) true m 9 ((cs.drop 0).take (Try.prog.cellsOf 9)) = xs[0]? := hf 0 _ rfl
    have h1 : DataW.trod enc Try.prog W 0 (fun _ => true) true m 32 ((cs.drop 1).take (Try.prog.cellsOf 32)) = xs[1]? := hf 1 _ rfl
    have h2 : DataW.trod enc Try.prog W 0 (fun _ => true) true m 3 ((cs.drop 2).take (Try.prog.cellsOf 3)) = xs[2]? := hf 2 _ rfl
    have h3 : DataW.trod enc Try.prog W 0 (fun _ => true) true m 33 ((cs.drop 3).take (Try.prog.cellsOf 33)) = xs[3]? := hf 3 _ rfl
    have h4 : DataW.trod enc Try.prog W 0 (fun _ => true) true m 34 ((cs.drop 4).take (Try.prog.cellsOf 34)) = xs[4]? := hf 4 _ rfl
    have h5 : DataW.trod enc Try.prog W 0 (fun _ => true) true m 35 ((cs.drop 5).take (Try.prog.cellsOf 35)) = xs[5]? := hf 5 _ rfl
    have h6 : DataW.trod enc Try.prog W 0 (fun _ => true) true m 36 ((cs.drop 6).take (Try.prog.cellsOf 36)) = xs[6]? := hf 6 _ rfl
    have h7 : DataW.trod enc Try.prog W 0 (fun _ => true) true m 37 ((cs.drop 7).take (Try.prog.cellsOf 37)) = xs[7]? := hf 7 _ rfl
    have h8 : DataW.trod enc Try.prog W 0 (fun _ => true) true m 38 ((cs.drop 8).take (Try.prog.cellsOf 38)) = xs[8]? := hf 8 _ rfl
    have h9 : DataW.trod enc Try.prog W 0 (fun _ => true) true m 39 ((cs.drop 9).take (Try.prog.cellsOf 39)) = xs[9]? := hf 9 _ rfl
    have h10 : DataW.trod enc Try.prog W 0 (fun _ => true) true m 3 ((cs.drop 10).take (Try.prog.cellsOf 3)) = xs[10]? := hf 10 _ rfl
    have hl2 : cs.length = 11 := hl.trans (by kernel_rfl)
    have hx : xs.length = 11 := hlen
    obtain ⟨c0, c1, c2, c3, c4, c5, c6, c7, c8, c9, c10, rfl⟩ := len11 hl2
    obtain ⟨x0, x1, x2, x3, x4, x5, x6, x7, x8, x9, x10, rfl⟩ := len11 hx
    have e3 : Try.prog.cellsOf 3 = 1 := by kernel_rfl
    have e9 : Try.prog.cellsOf 9 = 1 := by kernel_rfl
    have e32 : Try.prog.cellsOf 32 = 1 := by kernel_rfl
    have e33 : Try.prog.cellsOf 33 = 1 := by kernel_rfl
    have e34 : Try.prog.cellsOf 34 = 1 := by kernel_rfl
    have e35 : Try.prog.cellsOf 35 = 1 := by kernel_rfl
    have e36 : Try.prog.cellsOf 36 = 1 := by kernel_rfl
    have e37 : Try.prog.cellsOf 37 = 1 := by kernel_rfl
    have e38 : Try.prog.cellsOf 38 = 1 := by kernel_rfl
    have e39 : Try.prog.cellsOf 39 = 1 := by kernel_rfl
    simp only [e9, List.drop_zero, List.take_succ_cons, List.take_zero, List.getElem?_cons_zero] at h0
    obtain ⟨a0, k0, _, w0⟩ := DataW.trod_string Try.underlying9 h0
    obtain rfl : c0 = .string a0 := by simpa using k0
    simp only [e32, List.drop_zero, List.drop_succ_cons, List.take_succ_cons, List.take_zero, List.getElem?_cons_zero, List.getElem?_cons_succ] at h1
    obtain ⟨a1, v1, k1, r1⟩ := opens32 enc W m _ _ h1 (weights_arg 1 hw rfl rfl)
    obtain rfl : c1 = v1 := by simpa using k1
    simp only [e3, List.drop_zero, List.drop_succ_cons, List.take_succ_cons, List.take_zero, List.getElem?_cons_zero, List.getElem?_cons_succ] at h2
    obtain ⟨a2, k2, _, w2⟩ := DataW.trod_int Try.underlying3 h2
    obtain rfl : c2 = .int .i64 a2 := by simpa using k2
    simp only [e33, List.drop_zero, List.drop_succ_cons, List.take_succ_cons, List.take_zero, List.getElem?_cons_zero, List.getElem?_cons_succ] at h3
    obtain ⟨a3, v3, k3, r3⟩ := opens33 enc W m _ _ h3 (weights_arg 3 hw rfl rfl)
    obtain rfl : c3 = v3 := by simpa using k3
    simp only [e34, List.drop_zero, List.drop_succ_cons, List.take_succ_cons, List.take_zero, List.getElem?_cons_zero, List.getElem?_cons_succ] at h4
    obtain ⟨a4, v4, k4, r4⟩ := opens34 enc W m _ _ h4 (weights_arg 4 hw rfl rfl)
    obtain rfl : c4 = v4 := by simpa using k4
    simp only [e35, List.drop_zero, List.drop_succ_cons, List.take_succ_cons, List.take_zero, List.getElem?_cons_zero, List.getElem?_cons_succ] at h5
    obtain ⟨a5, v5, k5, r5⟩ := opens35 enc W m _ _ h5 (weights_arg 5 hw rfl rfl)
    obtain rfl : c5 = v5 := by simpa using k5
    simp only [e36, List.drop_zero, List.drop_succ_cons, List.take_succ_cons, List.take_zero, List.getElem?_cons_zero, List.getElem?_cons_succ] at h6
    obtain ⟨a6, v6, k6, r6⟩ := opens36 enc W m _ _ h6 (weights_arg 6 hw rfl rfl)
    obtain rfl : c6 = v6 := by simpa using k6
    simp only [e37, List.drop_zero, List.drop_succ_cons, List.take_succ_cons, List.take_zero, List.getElem?_cons_zero, List.getElem?_cons_succ] at h7
    obtain ⟨a7, v7, k7, r7⟩ := opens37 enc W m _ _ h7 (weights_arg 7 hw rfl rfl)
    obtain rfl : c7 = v7 := by simpa using k7
    simp only [e38, List.drop_zero, List.drop_succ_cons, List.take_succ_cons, List.take_zero, List.getElem?_cons_zero, List.getElem?_cons_succ] at h8
    obtain ⟨a8, v8, k8, r8⟩ := opens38 enc W m _ _ h8 (weights_arg 8 hw rfl rfl)
    obtain rfl : c8 = v8 := by simpa using k8
    simp only [e39, List.drop_zero, List.drop_succ_cons, List.take_succ_cons, List.take_zero, List.getElem?_cons_zero, List.getElem?_cons_succ] at h9
    obtain ⟨a9, v9, k9, r9⟩ := opens39 enc W m _ _ h9 (weights_arg 9 hw rfl rfl)
    obtain rfl : c9 = v9 := by simpa using k9
    simp only [e3, List.drop_zero, List.drop_succ_cons, List.take_succ_cons, List.take_zero, List.getElem?_cons_zero, List.getElem?_cons_succ] at h10
    obtain ⟨a10, k10, _, w10⟩ := DataW.trod_int Try.underlying3 h10
    obtain rfl : c10 = .int .i64 a10 := by simpa using k10
    exact ⟨⟨a0, a1, a2, a3, a4, a5, a6, a7, a8, a9, a10⟩, _, _, _, _, _, _, _, _, rfl, ⟨w0, i64_wf w2, i64_wf w10⟩, r1, r3, r4, r5, r6, r7, r8, r9⟩
set_option maxHeartbeats 1000000 in
theorem opens47 : Opens Bt.Span Try.prog 47 := fun enc W n cs x h hw => by
    obtain ⟨xs, m, _, rfl, hl, hlen, hf⟩ := DataW.trod_struct Try.underlying47 h
    have hw : (DataW.weightsEach Try.prog [3, 3] (xs.map (·.1))).all (· ≤ reachBytes) = true := by
      have h2 := hw
      simp only [DataW.weights, Try.underlying47] at h2
      exact h2
    have h0 : DataW.trod enc Try.prog W 0 (fun _ => true) true m 3 ((cs.drop 0).take (Try.prog.cellsOf 3)) = xs[0]? := hf 0 _ rfl
    have h1 : DataW.trod enc Try.prog W 0 (fun _ => true) true m 3 ((cs.drop 1).take (Try.prog.cellsOf 3)) = xs[1]? := hf 1 _ rfl
    have hl2 : cs.length = 2 := hl.trans (by kernel_rfl)
    have hx : xs.length = 2 := hlen
    obtain ⟨c0, c1, rfl⟩ := len2 hl2
    obtain ⟨x0, x1, rfl⟩ := len2 hx
    have e3 : Try.prog.cellsOf 3 = 1 := by kernel_rfl
    simp only [e3, List.drop_zero, List.take_succ_cons, List.take_zero, List.getElem?_cons_zero] at h0
    obtain ⟨a0, k0, _, w0⟩ := DataW.trod_int Try.underlying3 h0
    obtain rfl : c0 = .int .i64 a0 := by simpa using k0
    simp only [e3, List.drop_zero, List.drop_succ_cons, List.take_succ_cons, List.take_zero, List.getElem?_cons_zero, List.getElem?_cons_succ] at h1
    obtain ⟨a1, k1, _, w1⟩ := DataW.trod_int Try.underlying3 h1
    obtain rfl : c1 = .int .i64 a1 := by simpa using k1
    exact ⟨⟨a0, a1⟩, rfl, ⟨i64_wf w0, i64_wf w1⟩⟩
set_option maxHeartbeats 1000000 in
theorem opens49 : Opens Bt.Reading Try.prog 49 := fun enc W n cs x h hw => by
    obtain ⟨xs, m, _, rfl, hl, hlen, hf⟩ := DataW.trod_struct Try.underlying49 h
    have hw : (DataW.weightsEach Try.prog [3, 3, 47] (xs.map (·.1))).all (· ≤ reachBytes) = true := by
      have h2 := hw
      simp only [DataW.weights, Try.underlying49] at h2
      exact h2
    have h0 : DataW.trod enc Try.prog W 0 (fun _ => true) true m 3 ((cs.drop 0).take (Try.prog.cellsOf 3)) = xs[0]? := hf 0 _ rfl
    have h1 : DataW.trod enc Try.prog W 0 (fun _ => true) true m 3 ((cs.drop 1).take (Try.prog.cellsOf 3)) = xs[1]? := hf 1 _ rfl
    have h2 : DataW.trod enc Try.prog W 0 (fun _ => true) true m 47 ((cs.drop 2).take (Try.prog.cellsOf 47)) = xs[2]? := hf 2 _ rfl
    have hl2 : cs.length = 4 := hl.trans (by kernel_rfl)
    have hx : xs.length = 3 := hlen
    obtain ⟨c0, c1, c2, c3, rfl⟩ := len4 hl2
    obtain ⟨x0, x1, x2, rfl⟩ := len3 hx
    have e3 : Try.prog.cellsOf 3 = 1 := by kernel_rfl
    have e47 : Try.prog.cellsOf 47 = 2 := by kernel_rfl
    simp only [e3, List.drop_zero, List.take_succ_cons, List.take_zero, List.getElem?_cons_zero] at h0
    obtain ⟨a0, k0, _, w0⟩ := DataW.trod_int Try.underlying3 h0
    obtain rfl : c0 = .int .i64 a0 := by simpa using k0
    simp only [e3, List.drop_zero, List.drop_succ_cons, List.take_succ_cons, List.take_zero, List.getElem?_cons_zero, List.getElem?_cons_succ] at h1
    obtain ⟨a1, k1, _, w1⟩ := DataW.trod_int Try.underlying3 h1
    obtain rfl : c1 = .int .i64 a1 := by simpa using k1
    simp only [e47, List.drop_zero, List.drop_succ_cons, List.take_succ_cons, List.take_zero, List.getElem?_cons_zero, List.getElem?_cons_succ] at h2
    obtain ⟨a2, k2, w2⟩ := opens47 enc W m _ _ h2 (weights_arg 2 hw rfl rfl)
    simp only [List.cons.injEq, and_true] at k2
    obtain ⟨rfl, rfl⟩ := k2
    exact ⟨⟨a0, a1, a2⟩, rfl, ⟨i64_wf w0, i64_wf w1, w2.1, w2.2⟩⟩
theorem opens43 : Opens (List (Bt.Reading)) Try.prog 43 := opens_slice Try.underlying43 (by kernel_rfl) (by kernel_rfl) opens49
set_option maxHeartbeats 1000000 in
theorem opens57 : Opens Bt.Notice Try.prog 57 := fun enc W n cs x h hw => by
    obtain ⟨xs, m, _, rfl, hl, hlen, hf⟩ := DataW.trod_struct Try.underlying57 h
    have hw : (DataW.weightsEach Try.prog [3, 3, 3, 3] (xs.map (·.1))).all (· ≤ reachBytes) = true := by
      have h2 := hw
      simp only [DataW.weights, Try.underlying57] at h2
      exact h2
    have h0 : DataW.trod enc Try.prog W 0 (fun _ => true) true m 3 ((cs.drop 0).take (Try.prog.cellsOf 3)) = xs[0]? := hf 0 _ rfl
    have h1 : DataW.trod enc Try.prog W 0 (fun _ => true) true m 3 ((cs.drop 1).take (Try.prog.cellsOf 3)) = xs[1]? := hf 1 _ rfl
    have h2 : DataW.trod enc Try.prog W 0 (fun _ => true) true m 3 ((cs.drop 2).take (Try.prog.cellsOf 3)) = xs[2]? := hf 2 _ rfl
    have h3 : DataW.trod enc Try.prog W 0 (fun _ => true) true m 3 ((cs.drop 3).take (Try.prog.cellsOf 3)) = xs[3]? := hf 3 _ rfl
    have hl2 : cs.length = 4 := hl.trans (by kernel_rfl)
    have hx : xs.length = 4 := hlen
    obtain ⟨c0, c1, c2, c3, rfl⟩ := len4 hl2
    obtain ⟨x0, x1, x2, x3, rfl⟩ := len4 hx
    have e3 : Try.prog.cellsOf 3 = 1 := by kernel_rfl
    simp only [e3, List.drop_zero, List.take_succ_cons, List.take_zero, List.getElem?_cons_zero] at h0
    obtain ⟨a0, k0, _, w0⟩ := DataW.trod_int Try.underlying3 h0
    obtain rfl : c0 = .int .i64 a0 := by simpa using k0
    simp only [e3, List.drop_zero, List.drop_succ_cons, List.take_succ_cons, List.take_zero, List.getElem?_cons_zero, List.getElem?_cons_succ] at h1
    obtain ⟨a1, k1, _, w1⟩ := DataW.trod_int Try.underlying3 h1
    obtain rfl : c1 = .int .i64 a1 := by simpa using k1
    simp only [e3, List.drop_zero, List.drop_succ_cons, List.take_succ_cons, List.take_zero, List.getElem?_cons_zero, List.getElem?_cons_succ] at h2
    obtain ⟨a2, k2, _, w2⟩ := DataW.trod_int Try.underlying3 h2
    obtain rfl : c2 = .int .i64 a2 := by simpa using k2
    simp only [e3, List.drop_zero, List.drop_succ_cons, List.take_succ_cons, List.take_zero, List.getElem?_cons_zero, List.getElem?_cons_succ] at h3
    obtain ⟨a3, k3, _, w3⟩ := DataW.trod_int Try.underlying3 h3
    obtain rfl : c3 = .int .i64 a3 := by simpa using k3
    exact ⟨⟨a0, a1, a2, a3⟩, rfl, ⟨i64_wf w0, i64_wf w1, i64_wf w2, i64_wf w3⟩⟩
theorem opens52 : Opens (List (Bt.Notice)) Try.prog 52 := opens_slice Try.underlying52 (by kernel_rfl) (by kernel_rfl) opens57
end Go.Proofs.Ytlljbndnodbecaa
