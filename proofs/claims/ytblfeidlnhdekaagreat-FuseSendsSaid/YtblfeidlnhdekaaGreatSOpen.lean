/- Lemmas. Conditions: those of each theorem. -/
import Derived.Test.YtblfeidlnhdekaaGreatSTop
import Derived.Test.YtblfeidlnhdekaaGreatSTypes
import Derived.Test.YtblfeidlnhdekaaGreatRows
set_option maxRecDepth 8000
set_option maxHeartbeats 16000000
namespace Go.Proofs.YtblfeidlnhdekaaGreat
open Go Go.K Go.ChangeShapes Go.RowKit Go.WideElems
theorem Tryz.own : ownKnob Tryz.prog.godebug = none := by kernel_rfl
theorem Tryz.laidOut : laidOutB Tryz.prog = true := by kernel_rfl
theorem len2 {α : Type} {l : List α} (h : l.length = 2) : ∃ c0 c1, l = [c0, c1] := by
  match l, h with
  | [c0, c1], _ => exact ⟨c0, c1, rfl⟩
theorem len3 {α : Type} {l : List α} (h : l.length = 3) : ∃ c0 c1 c2, l = [c0, c1, c2] := by
  match l, h with
  | [c0, c1, c2], _ => exact ⟨c0, c1, c2, rfl⟩
theorem len4 {α : Type} {l : List α} (h : l.length = 4) : ∃ c0 c1 c2 c3, l = [c0, c1, c2, c3] := by
  match l, h with
  | [c0, c1, c2, c3], _ => exact ⟨c0, c1, c2, c3, rfl⟩
theorem len5 {α : Type} {l : List α} (h : l.length = 5) : ∃ c0 c1 c2 c3 c4, l = [c0, c1, c2, c3, c4] := by
  match l, h with
  | [c0, c1, c2, c3, c4], _ => exact ⟨c0, c1, c2, c3, c4, rfl⟩
theorem len7 {α : Type} {l : List α} (h : l.length = 7) : ∃ c0 c1 c2 c3 c4 c5 c6, l = [c0, c1, c2, c3, c4, c5, c6] := by
  match l, h with
  | [c0, c1, c2, c3, c4, c5, c6], _ => exact ⟨c0, c1, c2, c3, c4, c5, c6, rfl⟩
theorem len11 {α : Type} {l : List α} (h : l.length = 11) : ∃ c0 c1 c2 c3 c4 c5 c6 c7 c8 c9 c10, l = [c0, c1, c2, c3, c4, c5, c6, c7, c8, c9, c10] := by
  match l, h with
  | [c0, c1, c2, c3, c4, c5, c6, c7, c8, c9, c10], _ => exact ⟨c0, c1, c2, c3, c4, c5, c6, c7, c8, c9, c10, rfl⟩
theorem len12 {α : Type} {l : List α} (h : l.length = 12) : ∃ c0 c1 c2 c3 c4 c5 c6 c7 c8 c9 c10 c11, l = [c0, c1, c2, c3, c4, c5, c6, c7, c8, c9, c10, c11] := by
  match l, h with
  | [c0, c1, c2, c3, c4, c5, c6, c7, c8, c9, c10, c11], _ => exact ⟨c0, c1, c2, c3, c4, c5, c6, c7, c8, c9, c10, c11, rfl⟩
theorem len17 {α : Type} {l : List α} (h : l.length = 17) : ∃ c0 c1 c2 c3 c4 c5 c6 c7 c8 c9 c10 c11 c12 c13 c14 c15 c16, l = [c0, c1, c2, c3, c4, c5, c6, c7, c8, c9, c10, c11, c12, c13, c14, c15, c16] := by
  match l, h with
  | [c0, c1, c2, c3, c4, c5, c6, c7, c8, c9, c10, c11, c12, c13, c14, c15, c16], _ => exact ⟨c0, c1, c2, c3, c4, c5, c6, c7, c8, c9, c10, c11, c12, c13, c14, c15, c16, rfl⟩
theorem len18 {α : Type} {l : List α} (h : l.length = 18) : ∃ c0 c1 c2 c3 c4 c5 c6 c7 c8 c9 c10 c11 c12 c13 c14 c15 c16 c17, l = [c0, c1, c2, c3, c4, c5, c6, c7, c8, c9, c10, c11, c12, c13, c14, c15, c16, c17] := by
  match l, h with
  | [c0, c1, c2, c3, c4, c5, c6, c7, c8, c9, c10, c11, c12, c13, c14, c15, c16, c17], _ => exact ⟨c0, c1, c2, c3, c4, c5, c6, c7, c8, c9, c10, c11, c12, c13, c14, c15, c16, c17, rfl⟩
abbrev TT {H : Type} (enc : TypeId × Value → H) (W : World) (m : Nat) (cs : List Value) (xs : List (DataW H × List MemPlace)) (t i j : Nat) : Prop := DataW.trod enc Tryz.prog W 0 (fun _ => true) true m t ((cs.drop i).take (Tryz.prog.cellsOf t)) = xs[j]?
theorem opens22 : Opens (List (ByteArray)) Tryz.prog 22 := opens_slice Tryz.underlying22 (by kernel_rfl) (by kernel_rfl) (opens_string Tryz.underlying9)
theorem opens67 : Opens Bt.Point Tryz.prog 67 := fun enc W n cs x h hw => by
    obtain ⟨xs, m, _, rfl, hl, hlen, hf⟩ := DataW.trod_struct Tryz.underlying67 h
    have hw : (DataW.weightsEach Tryz.prog [3, 3] (xs.map (·.1))).all (· ≤ reachBytes) = true := by
      have h2 := hw
      simp only [DataW.weights, Tryz.underlying67] at h2
      exact h2
    have h0 : TT enc W m cs xs 3 0 0 := hf 0 _ rfl
    have h1 : TT enc W m cs xs 3 1 1 := hf 1 _ rfl
    have hl2 : cs.length = 2 := hl.trans (by kernel_rfl)
    have hx : xs.length = 2 := hlen
    obtain ⟨c0, c1, rfl⟩ := len2 hl2
    obtain ⟨x0, x1, rfl⟩ := len2 hx
    have e3 : Tryz.prog.cellsOf 3 = 1 := by kernel_rfl
    simp only [TT, e3, List.drop_zero, List.drop_succ_cons, List.take_succ_cons, List.take_zero, List.getElem?_cons_zero, List.getElem?_cons_succ] at h0 h1
    obtain ⟨a0, k0, _, w0⟩ := DataW.trod_int Tryz.underlying3 h0
    obtain rfl : c0 = .int .i64 a0 := by simpa using k0
    obtain ⟨a1, k1, _, w1⟩ := DataW.trod_int Tryz.underlying3 h1
    obtain rfl : c1 = .int .i64 a1 := by simpa using k1
    exact ⟨⟨a0, a1⟩, rfl, ⟨i64_wf w0, i64_wf w1⟩⟩
theorem opens68 : Opens (List (Bt.Point)) Tryz.prog 68 := opens_slice Tryz.underlying68 (by kernel_rfl) (by kernel_rfl) opens67
theorem opens29 : Opens (List (Int)) Tryz.prog 29 := opens_slice Tryz.underlying29 (by kernel_rfl) (by kernel_rfl) (opens_int Tryz.underlying3)
theorem opens165 : Opens Bt.Cell Tryz.prog 165 := fun enc W n cs x h hw => by
    obtain ⟨xs, m, _, rfl, hl, hlen, hf⟩ := DataW.trod_struct Tryz.underlying165 h
    have hw : (DataW.weightsEach Tryz.prog [3, 3] (xs.map (·.1))).all (· ≤ reachBytes) = true := by
      have h2 := hw
      simp only [DataW.weights, Tryz.underlying165] at h2
      exact h2
    have h0 : TT enc W m cs xs 3 0 0 := hf 0 _ rfl
    have h1 : TT enc W m cs xs 3 1 1 := hf 1 _ rfl
    have hl2 : cs.length = 2 := hl.trans (by kernel_rfl)
    have hx : xs.length = 2 := hlen
    obtain ⟨c0, c1, rfl⟩ := len2 hl2
    obtain ⟨x0, x1, rfl⟩ := len2 hx
    have e3 : Tryz.prog.cellsOf 3 = 1 := by kernel_rfl
    simp only [TT, e3, List.drop_zero, List.drop_succ_cons, List.take_succ_cons, List.take_zero, List.getElem?_cons_zero, List.getElem?_cons_succ] at h0 h1
    obtain ⟨a0, k0, _, w0⟩ := DataW.trod_int Tryz.underlying3 h0
    obtain rfl : c0 = .int .i64 a0 := by simpa using k0
    obtain ⟨a1, k1, _, w1⟩ := DataW.trod_int Tryz.underlying3 h1
    obtain rfl : c1 = .int .i64 a1 := by simpa using k1
    exact ⟨⟨a0, a1⟩, rfl, ⟨i64_wf w0, i64_wf w1⟩⟩
theorem opens69 : Opens (List (Bt.Cell)) Tryz.prog 69 := opens_slice Tryz.underlying69 (by kernel_rfl) (by kernel_rfl) opens165
theorem opens71 : Opens Bt.Place Tryz.prog 71 := fun enc W n cs x h hw => by
    obtain ⟨xs, m, _, rfl, hl, hlen, hf⟩ := DataW.trod_struct Tryz.underlying71 h
    have hw : (DataW.weightsEach Tryz.prog [9, 3, 3, 3, 68, 29, 3, 3, 3, 3, 3, 69] (xs.map (·.1))).all (· ≤ reachBytes) = true := by
      have h2 := hw
      simp only [DataW.weights, Tryz.underlying71] at h2
      exact h2
    have h0 : TT enc W m cs xs 9 0 0 := hf 0 _ rfl
    have h1 : TT enc W m cs xs 3 1 1 := hf 1 _ rfl
    have h2 : TT enc W m cs xs 3 2 2 := hf 2 _ rfl
    have h3 : TT enc W m cs xs 3 3 3 := hf 3 _ rfl
    have h4 : TT enc W m cs xs 68 4 4 := hf 4 _ rfl
    have h5 : TT enc W m cs xs 29 5 5 := hf 5 _ rfl
    have h6 : TT enc W m cs xs 3 6 6 := hf 6 _ rfl
    have h7 : TT enc W m cs xs 3 7 7 := hf 7 _ rfl
    have h8 : TT enc W m cs xs 3 8 8 := hf 8 _ rfl
    have h9 : TT enc W m cs xs 3 9 9 := hf 9 _ rfl
    have h10 : TT enc W m cs xs 3 10 10 := hf 10 _ rfl
    have h11 : TT enc W m cs xs 69 11 11 := hf 11 _ rfl
    have hl2 : cs.length = 12 := hl.trans (by kernel_rfl)
    have hx : xs.length = 12 := hlen
    obtain ⟨c0, c1, c2, c3, c4, c5, c6, c7, c8, c9, c10, c11, rfl⟩ := len12 hl2
    obtain ⟨x0, x1, x2, x3, x4, x5, x6, x7, x8, x9, x10, x11, rfl⟩ := len12 hx
    have e3 : Tryz.prog.cellsOf 3 = 1 := by kernel_rfl
    have e9 : Tryz.prog.cellsOf 9 = 1 := by kernel_rfl
    have e29 : Tryz.prog.cellsOf 29 = 1 := by kernel_rfl
    have e68 : Tryz.prog.cellsOf 68 = 1 := by kernel_rfl
    have e69 : Tryz.prog.cellsOf 69 = 1 := by kernel_rfl
    simp only [TT, e29, e3, e68, e69, e9, List.drop_zero, List.drop_succ_cons, List.take_succ_cons, List.take_zero, List.getElem?_cons_zero, List.getElem?_cons_succ] at h0 h1 h2 h3 h4 h5 h6 h7 h8 h9 h10 h11
    obtain ⟨a0, k0, _, w0⟩ := DataW.trod_string Tryz.underlying9 h0
    obtain rfl : c0 = .string a0 := by simpa using k0
    obtain ⟨a1, k1, _, w1⟩ := DataW.trod_int Tryz.underlying3 h1
    obtain rfl : c1 = .int .i64 a1 := by simpa using k1
    obtain ⟨a2, k2, _, w2⟩ := DataW.trod_int Tryz.underlying3 h2
    obtain rfl : c2 = .int .i64 a2 := by simpa using k2
    obtain ⟨a3, k3, _, w3⟩ := DataW.trod_int Tryz.underlying3 h3
    obtain rfl : c3 = .int .i64 a3 := by simpa using k3
    obtain ⟨a4, v4, k4, r4⟩ := opens68 enc W m _ _ h4 (weights_arg 4 hw rfl rfl)
    obtain rfl : c4 = v4 := by simpa using k4
    obtain ⟨a5, v5, k5, r5⟩ := opens29 enc W m _ _ h5 (weights_arg 5 hw rfl rfl)
    obtain rfl : c5 = v5 := by simpa using k5
    obtain ⟨a6, k6, _, w6⟩ := DataW.trod_int Tryz.underlying3 h6
    obtain rfl : c6 = .int .i64 a6 := by simpa using k6
    obtain ⟨a7, k7, _, w7⟩ := DataW.trod_int Tryz.underlying3 h7
    obtain rfl : c7 = .int .i64 a7 := by simpa using k7
    obtain ⟨a8, k8, _, w8⟩ := DataW.trod_int Tryz.underlying3 h8
    obtain rfl : c8 = .int .i64 a8 := by simpa using k8
    obtain ⟨a9, k9, _, w9⟩ := DataW.trod_int Tryz.underlying3 h9
    obtain rfl : c9 = .int .i64 a9 := by simpa using k9
    obtain ⟨a10, k10, _, w10⟩ := DataW.trod_int Tryz.underlying3 h10
    obtain rfl : c10 = .int .i64 a10 := by simpa using k10
    obtain ⟨a11, v11, k11, r11⟩ := opens69 enc W m _ _ h11 (weights_arg 11 hw rfl rfl)
    obtain rfl : c11 = v11 := by simpa using k11
    exact ⟨⟨a0, a1, a2, a3, a4, a5, a6, a7, a8, a9, a10, a11⟩, _, _, _, rfl, ⟨w0, i64_wf w1, i64_wf w2, i64_wf w3, i64_wf w6, i64_wf w7, i64_wf w8, i64_wf w9, i64_wf w10⟩, r4, r5, r11⟩
theorem opens23 : Opens (List (Bt.Place)) Tryz.prog 23 := opens_slice Tryz.underlying23 (by kernel_rfl) (by kernel_rfl) opens71
theorem opens122 : Opens Bt.Band Tryz.prog 122 := fun enc W n cs x h hw => by
    obtain ⟨xs, m, _, rfl, hl, hlen, hf⟩ := DataW.trod_struct Tryz.underlying122 h
    have hw : (DataW.weightsEach Tryz.prog [68, 68] (xs.map (·.1))).all (· ≤ reachBytes) = true := by
      have h2 := hw
      simp only [DataW.weights, Tryz.underlying122] at h2
      exact h2
    have h0 : TT enc W m cs xs 68 0 0 := hf 0 _ rfl
    have h1 : TT enc W m cs xs 68 1 1 := hf 1 _ rfl
    have hl2 : cs.length = 2 := hl.trans (by kernel_rfl)
    have hx : xs.length = 2 := hlen
    obtain ⟨c0, c1, rfl⟩ := len2 hl2
    obtain ⟨x0, x1, rfl⟩ := len2 hx
    have e68 : Tryz.prog.cellsOf 68 = 1 := by kernel_rfl
    simp only [TT, e68, List.drop_zero, List.drop_succ_cons, List.take_succ_cons, List.take_zero, List.getElem?_cons_zero, List.getElem?_cons_succ] at h0 h1
    obtain ⟨a0, v0, k0, r0⟩ := opens68 enc W m _ _ h0 (weights_arg 0 hw rfl rfl)
    obtain rfl : c0 = v0 := by simpa using k0
    obtain ⟨a1, v1, k1, r1⟩ := opens68 enc W m _ _ h1 (weights_arg 1 hw rfl rfl)
    obtain rfl : c1 = v1 := by simpa using k1
    exact ⟨⟨a0, a1⟩, _, _, rfl, trivial, r0, r1⟩
theorem opens124 : Opens Bt.Link Tryz.prog 124 := fun enc W n cs x h hw => by
    obtain ⟨xs, m, _, rfl, hl, hlen, hf⟩ := DataW.trod_struct Tryz.underlying124 h
    have hw : (DataW.weightsEach Tryz.prog [9, 3, 3, 3, 68, 122, 3, 3, 3, 3, 3, 3, 3, 3, 3, 3, 3] (xs.map (·.1))).all (· ≤ reachBytes) = true := by
      have h2 := hw
      simp only [DataW.weights, Tryz.underlying124] at h2
      exact h2
    have h0 : TT enc W m cs xs 9 0 0 := hf 0 _ rfl
    have h1 : TT enc W m cs xs 3 1 1 := hf 1 _ rfl
    have h2 : TT enc W m cs xs 3 2 2 := hf 2 _ rfl
    have h3 : TT enc W m cs xs 3 3 3 := hf 3 _ rfl
    have h4 : TT enc W m cs xs 68 4 4 := hf 4 _ rfl
    have h5 : TT enc W m cs xs 122 5 5 := hf 5 _ rfl
    have h6 : TT enc W m cs xs 3 7 6 := hf 6 _ rfl
    have h7 : TT enc W m cs xs 3 8 7 := hf 7 _ rfl
    have h8 : TT enc W m cs xs 3 9 8 := hf 8 _ rfl
    have h9 : TT enc W m cs xs 3 10 9 := hf 9 _ rfl
    have h10 : TT enc W m cs xs 3 11 10 := hf 10 _ rfl
    have h11 : TT enc W m cs xs 3 12 11 := hf 11 _ rfl
    have h12 : TT enc W m cs xs 3 13 12 := hf 12 _ rfl
    have h13 : TT enc W m cs xs 3 14 13 := hf 13 _ rfl
    have h14 : TT enc W m cs xs 3 15 14 := hf 14 _ rfl
    have h15 : TT enc W m cs xs 3 16 15 := hf 15 _ rfl
    have h16 : TT enc W m cs xs 3 17 16 := hf 16 _ rfl
    have hl2 : cs.length = 18 := hl.trans (by kernel_rfl)
    have hx : xs.length = 17 := hlen
    obtain ⟨c0, c1, c2, c3, c4, c5, c6, c7, c8, c9, c10, c11, c12, c13, c14, c15, c16, c17, rfl⟩ := len18 hl2
    obtain ⟨x0, x1, x2, x3, x4, x5, x6, x7, x8, x9, x10, x11, x12, x13, x14, x15, x16, rfl⟩ := len17 hx
    have e3 : Tryz.prog.cellsOf 3 = 1 := by kernel_rfl
    have e9 : Tryz.prog.cellsOf 9 = 1 := by kernel_rfl
    have e68 : Tryz.prog.cellsOf 68 = 1 := by kernel_rfl
    have e122 : Tryz.prog.cellsOf 122 = 2 := by kernel_rfl
    simp only [TT, e122, e3, e68, e9, List.drop_zero, List.drop_succ_cons, List.take_succ_cons, List.take_zero, List.getElem?_cons_zero, List.getElem?_cons_succ] at h0 h1 h2 h3 h4 h5 h6 h7 h8 h9 h10 h11 h12 h13 h14 h15 h16
    obtain ⟨a0, k0, _, w0⟩ := DataW.trod_string Tryz.underlying9 h0
    obtain rfl : c0 = .string a0 := by simpa using k0
    obtain ⟨a1, k1, _, w1⟩ := DataW.trod_int Tryz.underlying3 h1
    obtain rfl : c1 = .int .i64 a1 := by simpa using k1
    obtain ⟨a2, k2, _, w2⟩ := DataW.trod_int Tryz.underlying3 h2
    obtain rfl : c2 = .int .i64 a2 := by simpa using k2
    obtain ⟨a3, k3, _, w3⟩ := DataW.trod_int Tryz.underlying3 h3
    obtain rfl : c3 = .int .i64 a3 := by simpa using k3
    obtain ⟨a4, v4, k4, r4⟩ := opens68 enc W m _ _ h4 (weights_arg 4 hw rfl rfl)
    obtain rfl : c4 = v4 := by simpa using k4
    obtain ⟨a5, v5, v6, k5, w5, r5, r6⟩ := opens122 enc W m _ _ h5 (weights_arg 5 hw rfl rfl)
    simp only [List.cons.injEq, and_true] at k5
    obtain ⟨rfl, rfl⟩ := k5
    obtain ⟨a6, k6, _, w6⟩ := DataW.trod_int Tryz.underlying3 h6
    obtain rfl : c7 = .int .i64 a6 := by simpa using k6
    obtain ⟨a7, k7, _, w7⟩ := DataW.trod_int Tryz.underlying3 h7
    obtain rfl : c8 = .int .i64 a7 := by simpa using k7
    obtain ⟨a8, k8, _, w8⟩ := DataW.trod_int Tryz.underlying3 h8
    obtain rfl : c9 = .int .i64 a8 := by simpa using k8
    obtain ⟨a9, k9, _, w9⟩ := DataW.trod_int Tryz.underlying3 h9
    obtain rfl : c10 = .int .i64 a9 := by simpa using k9
    obtain ⟨a10, k10, _, w10⟩ := DataW.trod_int Tryz.underlying3 h10
    obtain rfl : c11 = .int .i64 a10 := by simpa using k10
    obtain ⟨a11, k11, _, w11⟩ := DataW.trod_int Tryz.underlying3 h11
    obtain rfl : c12 = .int .i64 a11 := by simpa using k11
    obtain ⟨a12, k12, _, w12⟩ := DataW.trod_int Tryz.underlying3 h12
    obtain rfl : c13 = .int .i64 a12 := by simpa using k12
    obtain ⟨a13, k13, _, w13⟩ := DataW.trod_int Tryz.underlying3 h13
    obtain rfl : c14 = .int .i64 a13 := by simpa using k13
    obtain ⟨a14, k14, _, w14⟩ := DataW.trod_int Tryz.underlying3 h14
    obtain rfl : c15 = .int .i64 a14 := by simpa using k14
    obtain ⟨a15, k15, _, w15⟩ := DataW.trod_int Tryz.underlying3 h15
    obtain rfl : c16 = .int .i64 a15 := by simpa using k15
    obtain ⟨a16, k16, _, w16⟩ := DataW.trod_int Tryz.underlying3 h16
    obtain rfl : c17 = .int .i64 a16 := by simpa using k16
    exact ⟨⟨a0, a1, a2, a3, a4, a5, a6, a7, a8, a9, a10, a11, a12, a13, a14, a15, a16⟩, _, _, _, rfl, ⟨w0, i64_wf w1, i64_wf w2, i64_wf w3, i64_wf w6, i64_wf w7, i64_wf w8, i64_wf w9, i64_wf w10, i64_wf w11, i64_wf w12, i64_wf w13, i64_wf w14, i64_wf w15, i64_wf w16⟩, r4, r5, r6⟩
theorem opens24 : Opens (List (Bt.Link)) Tryz.prog 24 := opens_slice Tryz.underlying24 (by kernel_rfl) (by kernel_rfl) opens124
theorem opens158 : Opens Bt.Town Tryz.prog 158 := fun enc W n cs x h hw => by
    obtain ⟨xs, m, _, rfl, hl, hlen, hf⟩ := DataW.trod_struct Tryz.underlying158 h
    have hw : (DataW.weightsEach Tryz.prog [9, 3, 3, 3, 3, 3, 3] (xs.map (·.1))).all (· ≤ reachBytes) = true := by
      have h2 := hw
      simp only [DataW.weights, Tryz.underlying158] at h2
      exact h2
    have h0 : TT enc W m cs xs 9 0 0 := hf 0 _ rfl
    have h1 : TT enc W m cs xs 3 1 1 := hf 1 _ rfl
    have h2 : TT enc W m cs xs 3 2 2 := hf 2 _ rfl
    have h3 : TT enc W m cs xs 3 3 3 := hf 3 _ rfl
    have h4 : TT enc W m cs xs 3 4 4 := hf 4 _ rfl
    have h5 : TT enc W m cs xs 3 5 5 := hf 5 _ rfl
    have h6 : TT enc W m cs xs 3 6 6 := hf 6 _ rfl
    have hl2 : cs.length = 7 := hl.trans (by kernel_rfl)
    have hx : xs.length = 7 := hlen
    obtain ⟨c0, c1, c2, c3, c4, c5, c6, rfl⟩ := len7 hl2
    obtain ⟨x0, x1, x2, x3, x4, x5, x6, rfl⟩ := len7 hx
    have e3 : Tryz.prog.cellsOf 3 = 1 := by kernel_rfl
    have e9 : Tryz.prog.cellsOf 9 = 1 := by kernel_rfl
    simp only [TT, e3, e9, List.drop_zero, List.drop_succ_cons, List.take_succ_cons, List.take_zero, List.getElem?_cons_zero, List.getElem?_cons_succ] at h0 h1 h2 h3 h4 h5 h6
    obtain ⟨a0, k0, _, w0⟩ := DataW.trod_string Tryz.underlying9 h0
    obtain rfl : c0 = .string a0 := by simpa using k0
    obtain ⟨a1, k1, _, w1⟩ := DataW.trod_int Tryz.underlying3 h1
    obtain rfl : c1 = .int .i64 a1 := by simpa using k1
    obtain ⟨a2, k2, _, w2⟩ := DataW.trod_int Tryz.underlying3 h2
    obtain rfl : c2 = .int .i64 a2 := by simpa using k2
    obtain ⟨a3, k3, _, w3⟩ := DataW.trod_int Tryz.underlying3 h3
    obtain rfl : c3 = .int .i64 a3 := by simpa using k3
    obtain ⟨a4, k4, _, w4⟩ := DataW.trod_int Tryz.underlying3 h4
    obtain rfl : c4 = .int .i64 a4 := by simpa using k4
    obtain ⟨a5, k5, _, w5⟩ := DataW.trod_int Tryz.underlying3 h5
    obtain rfl : c5 = .int .i64 a5 := by simpa using k5
    obtain ⟨a6, k6, _, w6⟩ := DataW.trod_int Tryz.underlying3 h6
    obtain rfl : c6 = .int .i64 a6 := by simpa using k6
    exact ⟨⟨a0, a1, a2, a3, a4, a5, a6⟩, rfl, ⟨w0, i64_wf w1, i64_wf w2, i64_wf w3, i64_wf w4, i64_wf w5, i64_wf w6⟩⟩
theorem opens25 : Opens (List (Bt.Town)) Tryz.prog 25 := opens_slice Tryz.underlying25 (by kernel_rfl) (by kernel_rfl) opens158
theorem opens49 : Opens Bt.Gauge Tryz.prog 49 := fun enc W n cs x h hw => by
    obtain ⟨xs, m, _, rfl, hl, hlen, hf⟩ := DataW.trod_struct Tryz.underlying49 h
    have hw : (DataW.weightsEach Tryz.prog [9, 3, 3, 3, 3] (xs.map (·.1))).all (· ≤ reachBytes) = true := by
      have h2 := hw
      simp only [DataW.weights, Tryz.underlying49] at h2
      exact h2
    have h0 : TT enc W m cs xs 9 0 0 := hf 0 _ rfl
    have h1 : TT enc W m cs xs 3 1 1 := hf 1 _ rfl
    have h2 : TT enc W m cs xs 3 2 2 := hf 2 _ rfl
    have h3 : TT enc W m cs xs 3 3 3 := hf 3 _ rfl
    have h4 : TT enc W m cs xs 3 4 4 := hf 4 _ rfl
    have hl2 : cs.length = 5 := hl.trans (by kernel_rfl)
    have hx : xs.length = 5 := hlen
    obtain ⟨c0, c1, c2, c3, c4, rfl⟩ := len5 hl2
    obtain ⟨x0, x1, x2, x3, x4, rfl⟩ := len5 hx
    have e3 : Tryz.prog.cellsOf 3 = 1 := by kernel_rfl
    have e9 : Tryz.prog.cellsOf 9 = 1 := by kernel_rfl
    simp only [TT, e3, e9, List.drop_zero, List.drop_succ_cons, List.take_succ_cons, List.take_zero, List.getElem?_cons_zero, List.getElem?_cons_succ] at h0 h1 h2 h3 h4
    obtain ⟨a0, k0, _, w0⟩ := DataW.trod_string Tryz.underlying9 h0
    obtain rfl : c0 = .string a0 := by simpa using k0
    obtain ⟨a1, k1, _, w1⟩ := DataW.trod_int Tryz.underlying3 h1
    obtain rfl : c1 = .int .i64 a1 := by simpa using k1
    obtain ⟨a2, k2, _, w2⟩ := DataW.trod_int Tryz.underlying3 h2
    obtain rfl : c2 = .int .i64 a2 := by simpa using k2
    obtain ⟨a3, k3, _, w3⟩ := DataW.trod_int Tryz.underlying3 h3
    obtain rfl : c3 = .int .i64 a3 := by simpa using k3
    obtain ⟨a4, k4, _, w4⟩ := DataW.trod_int Tryz.underlying3 h4
    obtain rfl : c4 = .int .i64 a4 := by simpa using k4
    exact ⟨⟨a0, a1, a2, a3, a4⟩, rfl, ⟨w0, i64_wf w1, i64_wf w2, i64_wf w3, i64_wf w4⟩⟩
theorem opens26 : Opens (List (Bt.Gauge)) Tryz.prog 26 := opens_slice Tryz.underlying26 (by kernel_rfl) (by kernel_rfl) opens49
theorem opens162 : Opens Bt.Road Tryz.prog 162 := fun enc W n cs x h hw => by
    obtain ⟨xs, m, _, rfl, hl, hlen, hf⟩ := DataW.trod_struct Tryz.underlying162 h
    have hw : (DataW.weightsEach Tryz.prog [9, 3, 3, 3, 3, 3, 3] (xs.map (·.1))).all (· ≤ reachBytes) = true := by
      have h2 := hw
      simp only [DataW.weights, Tryz.underlying162] at h2
      exact h2
    have h0 : TT enc W m cs xs 9 0 0 := hf 0 _ rfl
    have h1 : TT enc W m cs xs 3 1 1 := hf 1 _ rfl
    have h2 : TT enc W m cs xs 3 2 2 := hf 2 _ rfl
    have h3 : TT enc W m cs xs 3 3 3 := hf 3 _ rfl
    have h4 : TT enc W m cs xs 3 4 4 := hf 4 _ rfl
    have h5 : TT enc W m cs xs 3 5 5 := hf 5 _ rfl
    have h6 : TT enc W m cs xs 3 6 6 := hf 6 _ rfl
    have hl2 : cs.length = 7 := hl.trans (by kernel_rfl)
    have hx : xs.length = 7 := hlen
    obtain ⟨c0, c1, c2, c3, c4, c5, c6, rfl⟩ := len7 hl2
    obtain ⟨x0, x1, x2, x3, x4, x5, x6, rfl⟩ := len7 hx
    have e3 : Tryz.prog.cellsOf 3 = 1 := by kernel_rfl
    have e9 : Tryz.prog.cellsOf 9 = 1 := by kernel_rfl
    simp only [TT, e3, e9, List.drop_zero, List.drop_succ_cons, List.take_succ_cons, List.take_zero, List.getElem?_cons_zero, List.getElem?_cons_succ] at h0 h1 h2 h3 h4 h5 h6
    obtain ⟨a0, k0, _, w0⟩ := DataW.trod_string Tryz.underlying9 h0
    obtain rfl : c0 = .string a0 := by simpa using k0
    obtain ⟨a1, k1, _, w1⟩ := DataW.trod_int Tryz.underlying3 h1
    obtain rfl : c1 = .int .i64 a1 := by simpa using k1
    obtain ⟨a2, k2, _, w2⟩ := DataW.trod_int Tryz.underlying3 h2
    obtain rfl : c2 = .int .i64 a2 := by simpa using k2
    obtain ⟨a3, k3, _, w3⟩ := DataW.trod_int Tryz.underlying3 h3
    obtain rfl : c3 = .int .i64 a3 := by simpa using k3
    obtain ⟨a4, k4, _, w4⟩ := DataW.trod_int Tryz.underlying3 h4
    obtain rfl : c4 = .int .i64 a4 := by simpa using k4
    obtain ⟨a5, k5, _, w5⟩ := DataW.trod_int Tryz.underlying3 h5
    obtain rfl : c5 = .int .i64 a5 := by simpa using k5
    obtain ⟨a6, k6, _, w6⟩ := DataW.trod_int Tryz.underlying3 h6
    obtain rfl : c6 = .int .i64 a6 := by simpa using k6
    exact ⟨⟨a0, a1, a2, a3, a4, a5, a6⟩, rfl, ⟨w0, i64_wf w1, i64_wf w2, i64_wf w3, i64_wf w4, i64_wf w5, i64_wf w6⟩⟩
theorem opens27 : Opens (List (Bt.Road)) Tryz.prog 27 := opens_slice Tryz.underlying27 (by kernel_rfl) (by kernel_rfl) opens162
theorem opens160 : Opens Bt.Shelter Tryz.prog 160 := fun enc W n cs x h hw => by
    obtain ⟨xs, m, _, rfl, hl, hlen, hf⟩ := DataW.trod_struct Tryz.underlying160 h
    have hw : (DataW.weightsEach Tryz.prog [9, 3] (xs.map (·.1))).all (· ≤ reachBytes) = true := by
      have h2 := hw
      simp only [DataW.weights, Tryz.underlying160] at h2
      exact h2
    have h0 : TT enc W m cs xs 9 0 0 := hf 0 _ rfl
    have h1 : TT enc W m cs xs 3 1 1 := hf 1 _ rfl
    have hl2 : cs.length = 2 := hl.trans (by kernel_rfl)
    have hx : xs.length = 2 := hlen
    obtain ⟨c0, c1, rfl⟩ := len2 hl2
    obtain ⟨x0, x1, rfl⟩ := len2 hx
    have e3 : Tryz.prog.cellsOf 3 = 1 := by kernel_rfl
    have e9 : Tryz.prog.cellsOf 9 = 1 := by kernel_rfl
    simp only [TT, e3, e9, List.drop_zero, List.drop_succ_cons, List.take_succ_cons, List.take_zero, List.getElem?_cons_zero, List.getElem?_cons_succ] at h0 h1
    obtain ⟨a0, k0, _, w0⟩ := DataW.trod_string Tryz.underlying9 h0
    obtain rfl : c0 = .string a0 := by simpa using k0
    obtain ⟨a1, k1, _, w1⟩ := DataW.trod_int Tryz.underlying3 h1
    obtain rfl : c1 = .int .i64 a1 := by simpa using k1
    exact ⟨⟨a0, a1⟩, rfl, ⟨w0, i64_wf w1⟩⟩
theorem opens28 : Opens (List (Bt.Shelter)) Tryz.prog 28 := opens_slice Tryz.underlying28 (by kernel_rfl) (by kernel_rfl) opens160
theorem opens31 : Opens Bt.Basin Tryz.prog 31 := fun enc W n cs x h hw => by
    obtain ⟨xs, m, _, rfl, hl, hlen, hf⟩ := DataW.trod_struct Tryz.underlying31 h
    have hw : (DataW.weightsEach Tryz.prog [9, 22, 3, 23, 24, 25, 26, 27, 28, 29, 3] (xs.map (·.1))).all (· ≤ reachBytes) = true := by
      have h2 := hw
      simp only [DataW.weights, Tryz.underlying31] at h2
      exact h2
    have h0 : TT enc W m cs xs 9 0 0 := hf 0 _ rfl
    have h1 : TT enc W m cs xs 22 1 1 := hf 1 _ rfl
    have h2 : TT enc W m cs xs 3 2 2 := hf 2 _ rfl
    have h3 : TT enc W m cs xs 23 3 3 := hf 3 _ rfl
    have h4 : TT enc W m cs xs 24 4 4 := hf 4 _ rfl
    have h5 : TT enc W m cs xs 25 5 5 := hf 5 _ rfl
    have h6 : TT enc W m cs xs 26 6 6 := hf 6 _ rfl
    have h7 : TT enc W m cs xs 27 7 7 := hf 7 _ rfl
    have h8 : TT enc W m cs xs 28 8 8 := hf 8 _ rfl
    have h9 : TT enc W m cs xs 29 9 9 := hf 9 _ rfl
    have h10 : TT enc W m cs xs 3 10 10 := hf 10 _ rfl
    have hl2 : cs.length = 11 := hl.trans (by kernel_rfl)
    have hx : xs.length = 11 := hlen
    obtain ⟨c0, c1, c2, c3, c4, c5, c6, c7, c8, c9, c10, rfl⟩ := len11 hl2
    obtain ⟨x0, x1, x2, x3, x4, x5, x6, x7, x8, x9, x10, rfl⟩ := len11 hx
    have e3 : Tryz.prog.cellsOf 3 = 1 := by kernel_rfl
    have e9 : Tryz.prog.cellsOf 9 = 1 := by kernel_rfl
    have e22 : Tryz.prog.cellsOf 22 = 1 := by kernel_rfl
    have e23 : Tryz.prog.cellsOf 23 = 1 := by kernel_rfl
    have e24 : Tryz.prog.cellsOf 24 = 1 := by kernel_rfl
    have e25 : Tryz.prog.cellsOf 25 = 1 := by kernel_rfl
    have e26 : Tryz.prog.cellsOf 26 = 1 := by kernel_rfl
    have e27 : Tryz.prog.cellsOf 27 = 1 := by kernel_rfl
    have e28 : Tryz.prog.cellsOf 28 = 1 := by kernel_rfl
    have e29 : Tryz.prog.cellsOf 29 = 1 := by kernel_rfl
    simp only [TT, e22, e23, e24, e25, e26, e27, e28, e29, e3, e9, List.drop_zero, List.drop_succ_cons, List.take_succ_cons, List.take_zero, List.getElem?_cons_zero, List.getElem?_cons_succ] at h0 h1 h2 h3 h4 h5 h6 h7 h8 h9 h10
    obtain ⟨a0, k0, _, w0⟩ := DataW.trod_string Tryz.underlying9 h0
    obtain rfl : c0 = .string a0 := by simpa using k0
    obtain ⟨a1, v1, k1, r1⟩ := opens22 enc W m _ _ h1 (weights_arg 1 hw rfl rfl)
    obtain rfl : c1 = v1 := by simpa using k1
    obtain ⟨a2, k2, _, w2⟩ := DataW.trod_int Tryz.underlying3 h2
    obtain rfl : c2 = .int .i64 a2 := by simpa using k2
    obtain ⟨a3, v3, k3, r3⟩ := opens23 enc W m _ _ h3 (weights_arg 3 hw rfl rfl)
    obtain rfl : c3 = v3 := by simpa using k3
    obtain ⟨a4, v4, k4, r4⟩ := opens24 enc W m _ _ h4 (weights_arg 4 hw rfl rfl)
    obtain rfl : c4 = v4 := by simpa using k4
    obtain ⟨a5, v5, k5, r5⟩ := opens25 enc W m _ _ h5 (weights_arg 5 hw rfl rfl)
    obtain rfl : c5 = v5 := by simpa using k5
    obtain ⟨a6, v6, k6, r6⟩ := opens26 enc W m _ _ h6 (weights_arg 6 hw rfl rfl)
    obtain rfl : c6 = v6 := by simpa using k6
    obtain ⟨a7, v7, k7, r7⟩ := opens27 enc W m _ _ h7 (weights_arg 7 hw rfl rfl)
    obtain rfl : c7 = v7 := by simpa using k7
    obtain ⟨a8, v8, k8, r8⟩ := opens28 enc W m _ _ h8 (weights_arg 8 hw rfl rfl)
    obtain rfl : c8 = v8 := by simpa using k8
    obtain ⟨a9, v9, k9, r9⟩ := opens29 enc W m _ _ h9 (weights_arg 9 hw rfl rfl)
    obtain rfl : c9 = v9 := by simpa using k9
    obtain ⟨a10, k10, _, w10⟩ := DataW.trod_int Tryz.underlying3 h10
    obtain rfl : c10 = .int .i64 a10 := by simpa using k10
    exact ⟨⟨a0, a1, a2, a3, a4, a5, a6, a7, a8, a9, a10⟩, _, _, _, _, _, _, _, _, rfl, ⟨w0, i64_wf w2, i64_wf w10⟩, r1, r3, r4, r5, r6, r7, r8, r9⟩
theorem opens32 : Opens (List (List (Int))) Tryz.prog 32 := opens_slice Tryz.underlying32 (by kernel_rfl) (by kernel_rfl) opens29
theorem opens144 : Opens Bt.Load Tryz.prog 144 := fun enc W n cs x h hw => by
    obtain ⟨xs, m, _, rfl, hl, hlen, hf⟩ := DataW.trod_struct Tryz.underlying144 h
    have hw : (DataW.weightsEach Tryz.prog [3, 3, 29] (xs.map (·.1))).all (· ≤ reachBytes) = true := by
      have h2 := hw
      simp only [DataW.weights, Tryz.underlying144] at h2
      exact h2
    have h0 : TT enc W m cs xs 3 0 0 := hf 0 _ rfl
    have h1 : TT enc W m cs xs 3 1 1 := hf 1 _ rfl
    have h2 : TT enc W m cs xs 29 2 2 := hf 2 _ rfl
    have hl2 : cs.length = 3 := hl.trans (by kernel_rfl)
    have hx : xs.length = 3 := hlen
    obtain ⟨c0, c1, c2, rfl⟩ := len3 hl2
    obtain ⟨x0, x1, x2, rfl⟩ := len3 hx
    have e3 : Tryz.prog.cellsOf 3 = 1 := by kernel_rfl
    have e29 : Tryz.prog.cellsOf 29 = 1 := by kernel_rfl
    simp only [TT, e29, e3, List.drop_zero, List.drop_succ_cons, List.take_succ_cons, List.take_zero, List.getElem?_cons_zero, List.getElem?_cons_succ] at h0 h1 h2
    obtain ⟨a0, k0, _, w0⟩ := DataW.trod_int Tryz.underlying3 h0
    obtain rfl : c0 = .int .i64 a0 := by simpa using k0
    obtain ⟨a1, k1, _, w1⟩ := DataW.trod_int Tryz.underlying3 h1
    obtain rfl : c1 = .int .i64 a1 := by simpa using k1
    obtain ⟨a2, v2, k2, r2⟩ := opens29 enc W m _ _ h2 (weights_arg 2 hw rfl rfl)
    obtain rfl : c2 = v2 := by simpa using k2
    exact ⟨⟨a0, a1, a2⟩, _, rfl, ⟨i64_wf w0, i64_wf w1⟩, r2⟩
theorem opens33 : Opens (List (Bt.Load)) Tryz.prog 33 := opens_slice Tryz.underlying33 (by kernel_rfl) (by kernel_rfl) opens144
theorem opens81 : Opens Bt.Gate Tryz.prog 81 := fun enc W n cs x h hw => by
    obtain ⟨xs, m, _, rfl, hl, hlen, hf⟩ := DataW.trod_struct Tryz.underlying81 h
    have hw : (DataW.weightsEach Tryz.prog [3, 3, 4, 4] (xs.map (·.1))).all (· ≤ reachBytes) = true := by
      have h2 := hw
      simp only [DataW.weights, Tryz.underlying81] at h2
      exact h2
    have h0 : TT enc W m cs xs 3 0 0 := hf 0 _ rfl
    have h1 : TT enc W m cs xs 3 1 1 := hf 1 _ rfl
    have h2 : TT enc W m cs xs 4 2 2 := hf 2 _ rfl
    have h3 : TT enc W m cs xs 4 3 3 := hf 3 _ rfl
    have hl2 : cs.length = 4 := hl.trans (by kernel_rfl)
    have hx : xs.length = 4 := hlen
    obtain ⟨c0, c1, c2, c3, rfl⟩ := len4 hl2
    obtain ⟨x0, x1, x2, x3, rfl⟩ := len4 hx
    have e3 : Tryz.prog.cellsOf 3 = 1 := by kernel_rfl
    have e4 : Tryz.prog.cellsOf 4 = 1 := by kernel_rfl
    simp only [TT, e3, e4, List.drop_zero, List.drop_succ_cons, List.take_succ_cons, List.take_zero, List.getElem?_cons_zero, List.getElem?_cons_succ] at h0 h1 h2 h3
    obtain ⟨a0, k0, _, w0⟩ := DataW.trod_int Tryz.underlying3 h0
    obtain rfl : c0 = .int .i64 a0 := by simpa using k0
    obtain ⟨a1, k1, _, w1⟩ := DataW.trod_int Tryz.underlying3 h1
    obtain rfl : c1 = .int .i64 a1 := by simpa using k1
    obtain ⟨a2, k2, _⟩ := DataW.trod_bool Tryz.underlying4 h2
    obtain rfl : c2 = .bool a2 := by simpa using k2
    obtain ⟨a3, k3, _⟩ := DataW.trod_bool Tryz.underlying4 h3
    obtain rfl : c3 = .bool a3 := by simpa using k3
    exact ⟨⟨a0, a1, a2, a3⟩, rfl, ⟨i64_wf w0, i64_wf w1⟩⟩
theorem opens34 : Opens (List (Bt.Gate)) Tryz.prog 34 := opens_slice Tryz.underlying34 (by kernel_rfl) (by kernel_rfl) opens81
theorem opens36 : Opens Bt.State Tryz.prog 36 := fun enc W n cs x h hw => by
    obtain ⟨xs, m, _, rfl, hl, hlen, hf⟩ := DataW.trod_struct Tryz.underlying36 h
    have hw : (DataW.weightsEach Tryz.prog [3, 32, 29, 33, 34, 29, 29] (xs.map (·.1))).all (· ≤ reachBytes) = true := by
      have h2 := hw
      simp only [DataW.weights, Tryz.underlying36] at h2
      exact h2
    have h0 : TT enc W m cs xs 3 0 0 := hf 0 _ rfl
    have h1 : TT enc W m cs xs 32 1 1 := hf 1 _ rfl
    have h2 : TT enc W m cs xs 29 2 2 := hf 2 _ rfl
    have h3 : TT enc W m cs xs 33 3 3 := hf 3 _ rfl
    have h4 : TT enc W m cs xs 34 4 4 := hf 4 _ rfl
    have h5 : TT enc W m cs xs 29 5 5 := hf 5 _ rfl
    have h6 : TT enc W m cs xs 29 6 6 := hf 6 _ rfl
    have hl2 : cs.length = 7 := hl.trans (by kernel_rfl)
    have hx : xs.length = 7 := hlen
    obtain ⟨c0, c1, c2, c3, c4, c5, c6, rfl⟩ := len7 hl2
    obtain ⟨x0, x1, x2, x3, x4, x5, x6, rfl⟩ := len7 hx
    have e3 : Tryz.prog.cellsOf 3 = 1 := by kernel_rfl
    have e29 : Tryz.prog.cellsOf 29 = 1 := by kernel_rfl
    have e32 : Tryz.prog.cellsOf 32 = 1 := by kernel_rfl
    have e33 : Tryz.prog.cellsOf 33 = 1 := by kernel_rfl
    have e34 : Tryz.prog.cellsOf 34 = 1 := by kernel_rfl
    simp only [TT, e29, e3, e32, e33, e34, List.drop_zero, List.drop_succ_cons, List.take_succ_cons, List.take_zero, List.getElem?_cons_zero, List.getElem?_cons_succ] at h0 h1 h2 h3 h4 h5 h6
    obtain ⟨a0, k0, _, w0⟩ := DataW.trod_int Tryz.underlying3 h0
    obtain rfl : c0 = .int .i64 a0 := by simpa using k0
    obtain ⟨a1, v1, k1, r1⟩ := opens32 enc W m _ _ h1 (weights_arg 1 hw rfl rfl)
    obtain rfl : c1 = v1 := by simpa using k1
    obtain ⟨a2, v2, k2, r2⟩ := opens29 enc W m _ _ h2 (weights_arg 2 hw rfl rfl)
    obtain rfl : c2 = v2 := by simpa using k2
    obtain ⟨a3, v3, k3, r3⟩ := opens33 enc W m _ _ h3 (weights_arg 3 hw rfl rfl)
    obtain rfl : c3 = v3 := by simpa using k3
    obtain ⟨a4, v4, k4, r4⟩ := opens34 enc W m _ _ h4 (weights_arg 4 hw rfl rfl)
    obtain rfl : c4 = v4 := by simpa using k4
    obtain ⟨a5, v5, k5, r5⟩ := opens29 enc W m _ _ h5 (weights_arg 5 hw rfl rfl)
    obtain rfl : c5 = v5 := by simpa using k5
    obtain ⟨a6, v6, k6, r6⟩ := opens29 enc W m _ _ h6 (weights_arg 6 hw rfl rfl)
    obtain rfl : c6 = v6 := by simpa using k6
    exact ⟨⟨a0, a1, a2, a3, a4, a5, a6⟩, _, _, _, _, _, _, rfl, i64_wf w0, r1, r2, r3, r4, r5, r6⟩
theorem opens51 : Opens Bt.Span Tryz.prog 51 := fun enc W n cs x h hw => by
    obtain ⟨xs, m, _, rfl, hl, hlen, hf⟩ := DataW.trod_struct Tryz.underlying51 h
    have hw : (DataW.weightsEach Tryz.prog [3, 3] (xs.map (·.1))).all (· ≤ reachBytes) = true := by
      have h2 := hw
      simp only [DataW.weights, Tryz.underlying51] at h2
      exact h2
    have h0 : TT enc W m cs xs 3 0 0 := hf 0 _ rfl
    have h1 : TT enc W m cs xs 3 1 1 := hf 1 _ rfl
    have hl2 : cs.length = 2 := hl.trans (by kernel_rfl)
    have hx : xs.length = 2 := hlen
    obtain ⟨c0, c1, rfl⟩ := len2 hl2
    obtain ⟨x0, x1, rfl⟩ := len2 hx
    have e3 : Tryz.prog.cellsOf 3 = 1 := by kernel_rfl
    simp only [TT, e3, List.drop_zero, List.drop_succ_cons, List.take_succ_cons, List.take_zero, List.getElem?_cons_zero, List.getElem?_cons_succ] at h0 h1
    obtain ⟨a0, k0, _, w0⟩ := DataW.trod_int Tryz.underlying3 h0
    obtain rfl : c0 = .int .i64 a0 := by simpa using k0
    obtain ⟨a1, k1, _, w1⟩ := DataW.trod_int Tryz.underlying3 h1
    obtain rfl : c1 = .int .i64 a1 := by simpa using k1
    exact ⟨⟨a0, a1⟩, rfl, ⟨i64_wf w0, i64_wf w1⟩⟩
theorem opens37 : Opens (List (Bt.Span)) Tryz.prog 37 := opens_slice Tryz.underlying37 (by kernel_rfl) (by kernel_rfl) opens51
theorem opens98 : Opens Bt.Sum Tryz.prog 98 := fun enc W n cs x h hw => by
    obtain ⟨xs, m, _, rfl, hl, hlen, hf⟩ := DataW.trod_struct Tryz.underlying98 h
    have hw : (DataW.weightsEach Tryz.prog [3, 3, 51] (xs.map (·.1))).all (· ≤ reachBytes) = true := by
      have h2 := hw
      simp only [DataW.weights, Tryz.underlying98] at h2
      exact h2
    have h0 : TT enc W m cs xs 3 0 0 := hf 0 _ rfl
    have h1 : TT enc W m cs xs 3 1 1 := hf 1 _ rfl
    have h2 : TT enc W m cs xs 51 2 2 := hf 2 _ rfl
    have hl2 : cs.length = 4 := hl.trans (by kernel_rfl)
    have hx : xs.length = 3 := hlen
    obtain ⟨c0, c1, c2, c3, rfl⟩ := len4 hl2
    obtain ⟨x0, x1, x2, rfl⟩ := len3 hx
    have e3 : Tryz.prog.cellsOf 3 = 1 := by kernel_rfl
    have e51 : Tryz.prog.cellsOf 51 = 2 := by kernel_rfl
    simp only [TT, e3, e51, List.drop_zero, List.drop_succ_cons, List.take_succ_cons, List.take_zero, List.getElem?_cons_zero, List.getElem?_cons_succ] at h0 h1 h2
    obtain ⟨a0, k0, _, w0⟩ := DataW.trod_int Tryz.underlying3 h0
    obtain rfl : c0 = .int .i64 a0 := by simpa using k0
    obtain ⟨a1, k1, _, w1⟩ := DataW.trod_int Tryz.underlying3 h1
    obtain rfl : c1 = .int .i64 a1 := by simpa using k1
    obtain ⟨a2, k2, w2⟩ := opens51 enc W m _ _ h2 (weights_arg 2 hw rfl rfl)
    simp only [List.cons.injEq, and_true] at k2
    obtain ⟨rfl, rfl⟩ := k2
    exact ⟨⟨a0, a1, a2⟩, rfl, ⟨i64_wf w0, i64_wf w1, w2.1, w2.2⟩⟩
theorem opens38 : Opens (List (Bt.Sum)) Tryz.prog 38 := opens_slice Tryz.underlying38 (by kernel_rfl) (by kernel_rfl) opens98
theorem opens101 : Opens Bt.Known Tryz.prog 101 := fun enc W n cs x h hw => by
    obtain ⟨xs, m, _, rfl, hl, hlen, hf⟩ := DataW.trod_struct Tryz.underlying101 h
    have hw : (DataW.weightsEach Tryz.prog [51, 3, 51] (xs.map (·.1))).all (· ≤ reachBytes) = true := by
      have h2 := hw
      simp only [DataW.weights, Tryz.underlying101] at h2
      exact h2
    have h0 : TT enc W m cs xs 51 0 0 := hf 0 _ rfl
    have h1 : TT enc W m cs xs 3 2 1 := hf 1 _ rfl
    have h2 : TT enc W m cs xs 51 3 2 := hf 2 _ rfl
    have hl2 : cs.length = 5 := hl.trans (by kernel_rfl)
    have hx : xs.length = 3 := hlen
    obtain ⟨c0, c1, c2, c3, c4, rfl⟩ := len5 hl2
    obtain ⟨x0, x1, x2, rfl⟩ := len3 hx
    have e3 : Tryz.prog.cellsOf 3 = 1 := by kernel_rfl
    have e51 : Tryz.prog.cellsOf 51 = 2 := by kernel_rfl
    simp only [TT, e3, e51, List.drop_zero, List.drop_succ_cons, List.take_succ_cons, List.take_zero, List.getElem?_cons_zero, List.getElem?_cons_succ] at h0 h1 h2
    obtain ⟨a0, k0, w0⟩ := opens51 enc W m _ _ h0 (weights_arg 0 hw rfl rfl)
    simp only [List.cons.injEq, and_true] at k0
    obtain ⟨rfl, rfl⟩ := k0
    obtain ⟨a1, k1, _, w1⟩ := DataW.trod_int Tryz.underlying3 h1
    obtain rfl : c2 = .int .i64 a1 := by simpa using k1
    obtain ⟨a2, k2, w2⟩ := opens51 enc W m _ _ h2 (weights_arg 2 hw rfl rfl)
    simp only [List.cons.injEq, and_true] at k2
    obtain ⟨rfl, rfl⟩ := k2
    exact ⟨⟨a0, a1, a2⟩, rfl, ⟨w0.1, w0.2, i64_wf w1, w2.1, w2.2⟩⟩
theorem opens39 : Opens (List (Bt.Known)) Tryz.prog 39 := opens_slice Tryz.underlying39 (by kernel_rfl) (by kernel_rfl) opens101
theorem opens41 : Opens Bt.Hull Tryz.prog 41 := fun enc W n cs x h hw => by
    obtain ⟨xs, m, _, rfl, hl, hlen, hf⟩ := DataW.trod_struct Tryz.underlying41 h
    have hw : (DataW.weightsEach Tryz.prog [3, 37, 38, 39] (xs.map (·.1))).all (· ≤ reachBytes) = true := by
      have h2 := hw
      simp only [DataW.weights, Tryz.underlying41] at h2
      exact h2
    have h0 : TT enc W m cs xs 3 0 0 := hf 0 _ rfl
    have h1 : TT enc W m cs xs 37 1 1 := hf 1 _ rfl
    have h2 : TT enc W m cs xs 38 2 2 := hf 2 _ rfl
    have h3 : TT enc W m cs xs 39 3 3 := hf 3 _ rfl
    have hl2 : cs.length = 4 := hl.trans (by kernel_rfl)
    have hx : xs.length = 4 := hlen
    obtain ⟨c0, c1, c2, c3, rfl⟩ := len4 hl2
    obtain ⟨x0, x1, x2, x3, rfl⟩ := len4 hx
    have e3 : Tryz.prog.cellsOf 3 = 1 := by kernel_rfl
    have e37 : Tryz.prog.cellsOf 37 = 1 := by kernel_rfl
    have e38 : Tryz.prog.cellsOf 38 = 1 := by kernel_rfl
    have e39 : Tryz.prog.cellsOf 39 = 1 := by kernel_rfl
    simp only [TT, e3, e37, e38, e39, List.drop_zero, List.drop_succ_cons, List.take_succ_cons, List.take_zero, List.getElem?_cons_zero, List.getElem?_cons_succ] at h0 h1 h2 h3
    obtain ⟨a0, k0, _, w0⟩ := DataW.trod_int Tryz.underlying3 h0
    obtain rfl : c0 = .int .i64 a0 := by simpa using k0
    obtain ⟨a1, v1, k1, r1⟩ := opens37 enc W m _ _ h1 (weights_arg 1 hw rfl rfl)
    obtain rfl : c1 = v1 := by simpa using k1
    obtain ⟨a2, v2, k2, r2⟩ := opens38 enc W m _ _ h2 (weights_arg 2 hw rfl rfl)
    obtain rfl : c2 = v2 := by simpa using k2
    obtain ⟨a3, v3, k3, r3⟩ := opens39 enc W m _ _ h3 (weights_arg 3 hw rfl rfl)
    obtain rfl : c3 = v3 := by simpa using k3
    exact ⟨⟨a0, a1, a2, a3⟩, _, _, _, rfl, i64_wf w0, r1, r2, r3⟩
theorem opens47 : Opens Bt.Look Tryz.prog 47 := fun enc W n cs x h hw => by
    obtain ⟨xs, m, _, rfl, hl, hlen, hf⟩ := DataW.trod_struct Tryz.underlying47 h
    have hw : (DataW.weightsEach Tryz.prog [3, 3, 3] (xs.map (·.1))).all (· ≤ reachBytes) = true := by
      have h2 := hw
      simp only [DataW.weights, Tryz.underlying47] at h2
      exact h2
    have h0 : TT enc W m cs xs 3 0 0 := hf 0 _ rfl
    have h1 : TT enc W m cs xs 3 1 1 := hf 1 _ rfl
    have h2 : TT enc W m cs xs 3 2 2 := hf 2 _ rfl
    have hl2 : cs.length = 3 := hl.trans (by kernel_rfl)
    have hx : xs.length = 3 := hlen
    obtain ⟨c0, c1, c2, rfl⟩ := len3 hl2
    obtain ⟨x0, x1, x2, rfl⟩ := len3 hx
    have e3 : Tryz.prog.cellsOf 3 = 1 := by kernel_rfl
    simp only [TT, e3, List.drop_zero, List.drop_succ_cons, List.take_succ_cons, List.take_zero, List.getElem?_cons_zero, List.getElem?_cons_succ] at h0 h1 h2
    obtain ⟨a0, k0, _, w0⟩ := DataW.trod_int Tryz.underlying3 h0
    obtain rfl : c0 = .int .i64 a0 := by simpa using k0
    obtain ⟨a1, k1, _, w1⟩ := DataW.trod_int Tryz.underlying3 h1
    obtain rfl : c1 = .int .i64 a1 := by simpa using k1
    obtain ⟨a2, k2, _, w2⟩ := DataW.trod_int Tryz.underlying3 h2
    obtain rfl : c2 = .int .i64 a2 := by simpa using k2
    exact ⟨⟨a0, a1, a2⟩, rfl, ⟨i64_wf w0, i64_wf w1, i64_wf w2⟩⟩
theorem opens42 : Opens (List (Bt.Look)) Tryz.prog 42 := opens_slice Tryz.underlying42 (by kernel_rfl) (by kernel_rfl) opens47
end Go.Proofs.YtblfeidlnhdekaaGreat
