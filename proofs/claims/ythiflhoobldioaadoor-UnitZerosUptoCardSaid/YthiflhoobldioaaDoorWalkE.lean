/- Walks (part WalkE), printed by walk2.py. Conditions: those of each theorem. -/
import Derived.Test.YthiflhoobldioaaDoorWalkD
namespace Go.Proofs.YthiflhoobldioaaDoor
open Go Go.K Go.RowKit

theorem Un.bases_nil (d : Nat) (h : d < 7) : Un.bases.getD d [] = [] ↔ d = 0 := (show ∀ d, d < 7 → (Un.bases.getD d [] = [] ↔ d = 0) by decide) d h
set_option maxRecDepth 8000 in
set_option maxHeartbeats 1000000 in
theorem Over_c (w : World) (Φ : Hp) (hΦ : Hp.le Φ (hp w)) {xs : List Int} {v1 : Value} (h1 : RepSl Φ xs v1) {k : Int} (hd : Un.Dgs xs) (hxl : xs.length ≤ 1000) (hk0 : 0 < k) (hk1 : k ≤ 1000) :
    Calls Tryd.prog 25 #[v1, .int .i64 k] w (RetS noHp w fun r Ψ => ∃ v, r = .tuple #[v, .int .i64 (Un.ov xs k).2] ∧ RepSl Ψ (Un.ov xs k).1 v) := by
  refine calls_of_AW (args := [v1, .int .i64 k]) Tryd.func25 rfl (Nat.le_of_ble_eq_true rfl) (St ⟨w, Φ, []⟩ Φ []) (StP.init w Φ hΦ []) ?_
  show AW Tryd.prog 34 [] _ _ _ [(0, v1), (1, .int .i64 k)] _
  refine AW.seq ?_
  refine AW.region ?_
  refine RW.q (v := (.slice none 0 0)) rfl (q_assign rfl) ?_
  refine RW.q (v := .int .i64 0) rfl (q_assign rfl) ?_
  refine RW.nil ?_
  refine Post.then_n ?_
  refine AW.seq ?_
  refine AW.region ?_
  refine RW.q (v := (.slice none 0 0)) rfl (q_assign rfl) ?_
  refine RW.nil ?_
  refine Post.then_n ?_
  refine AW.seq ?_
  refine AW.region ?_
  refine RW.q (v := .int .i64 0) rfl (q_assign rfl) ?_
  refine RW.nil ?_
  refine Post.then_n ?_
  refine AW.seq ?_
  refine AW.seq ?_
  refine AW.region ?_
  refine RW.q (v := .int .i64 0) rfl (q_assign rfl) ?_
  refine RW.nil ?_
  refine Post.then_n ?_
  refine AW.block ?_
  refine AW.loop (fun s J m => ∃ (i : Nat), ∃ (L : List Int), ∃ (lv : Value), ∃ (rs : Int), s = [(0, v1), (1, .int .i64 k), (4, (.slice none 0 0)), (5, .int .i64 0), (6, lv), (7, .int .i64 rs), (8, .int .i64 (i : Int))] ∧ J = St ⟨w, Φ, []⟩ Φ [.row lv 3 1 L.length (L.map (Value.int .i64))] ∧ m = xs.length - i ∧ (i ≤ xs.length) ∧ (L = (Un.ov (xs.take i) k).1) ∧ (IsSl lv L.length) ∧ (rs = (Un.ov (xs.take i) k).2)) (s0 := _) (J1 := _) (m0 := _) ⟨0, [], _, 0, rfl, rfl, rfl, (by omega), rfl, isSl_nil, rfl⟩ ⟨rfl, rfl, rfl, rfl, rfl, rfl, rfl, trivial⟩ (fun _ h => addNil h) ?_
  rintro _ _ _ _ ⟨i, L, lv, rs, rfl, rfl, rfl, hi, hL, hlv, hrs⟩
  refine AW.seq ?_
  refine AW.seq ?_
  refine AW.region ?_
  refine RW.q (v := .int .i64 (i : Int)) rfl (q_move rfl) ?_
  refine RW.q (v := v1) rfl (q_move rfl) ?_
  refine RW.q (v := .int .i64 ((xs.length : Nat) : Int)) rfl (q_len_sl rfl h1.sl Tryd.underlying33) ?_
  refine RW.q (v := .bool (decide ((i : Int) < ((xs.length : Nat) : Int)))) rfl (q_lss rfl rfl) ?_
  refine RW.nil ?_
  refine Post.then_n ?_
  refine AW.cond (b := decide ((i : Int) < ((xs.length : Nat) : Int))) rfl (fun hc1 => ?_) (fun hc1 => ?_)
  · simp [-List.getD_eq_getElem?_getD] at hc1
    refine AW.skip ?_
    refine Post.then_n ?_
    refine AW.seq ?_
    refine AW.block ?_
    refine AW.seq ?_
    obtain ⟨ho1, ho2, ho3, ho4, _⟩ := Un.ov_facts hk0 (Un.dgs_take hd i)
    rw [← hrs] at ho3 ho4
    rw [← hL] at ho1
    have hLl : L.length ≤ xs.length := by rw [ho1, List.length_take]; omega
    obtain ⟨hx0, hx9⟩ := Un.dgs_get hd i
    have hq9 : (10 * rs + xs.getD i 0) / k ≤ 9 := by have : (10 * rs + xs.getD i 0) / k < 10 := Int.ediv_lt_of_lt_mul hk0 (by omega); omega
    have hq0 : 0 ≤ (10 * rs + xs.getD i 0) / k := Int.ediv_nonneg (by omega) (by omega)
    refine AW.region ?_
    refine RW.q (v := .int .i64 rs) rfl (q_move rfl) ?_
    refine RW.q (v := .int .i64 (10 * rs)) rfl (q_mul rfl rfl rfl (by unfold I64; omega)) ?_
    refine RW.q (v := v1) rfl (q_move rfl) ?_
    refine RW.q (v := .int .i64 (i : Int)) rfl (q_move rfl) ?_
    refine RW.q (v := .pointer (some (Value.at v1 (i * 1)))) rfl (q_indexAddr rfl rfl h1.sl Tryd.underlying33 sz3 (by omega) (by omega) rfl) ?_
    refine RW.q (v := .int .i64 (xs.getD i 0)) rfl (q_load rfl Tryd.underlying3 rfl (Cell.repInt h1 (by omega))) ?_
    refine RW.q (v := .int .i64 ((10 * rs) + (xs.getD i 0))) rfl (q_add rfl rfl (by omega) (by unfold I64; omega)) ?_
    refine RW.q (v := .int .i64 ((10 * rs) + (xs.getD i 0))) rfl (q_assign rfl) ?_
    refine RW.nil ?_
    refine Post.then_n ?_
    refine AW.seq ?_
    refine AW.region ?_
    refine RW.q (v := lv) rfl (q_move rfl) ?_
    refine RW.q (v := .int .i64 ((10 * rs) + (xs.getD i 0))) rfl (q_move rfl) ?_
    refine RW.q (v := .int .i64 k) rfl (q_move rfl) ?_
    refine RW.q (v := .int .i64 ((10 * rs + xs.getD i 0) / k)) rfl (q_quo rfl rfl (by omega) (Int.tdiv_eq_ediv_of_nonneg (by omega)) (by unfold I64; omega)) ?_
    refine RW.eff (fun b1 : Nat => (.slice (some ⟨b1, 0, none⟩) 1 1)) (fun b1 => St ⟨w, Φ, []⟩ Φ [.row (.slice (some ⟨b1, 0, none⟩) 1 1) 3 1 1 ([.int .i64 ((10 * rs + xs.getD i 0) / k)]), .row lv 3 1 L.length (L.map (Value.int .i64))]) rfl (e_buildSlice (vals := [(0, .int .i64 ((10 * rs + xs.getD i 0) / k))]) (cells := [.int .i64 ((10 * rs + xs.getD i 0) / k)]) Tryd.underlying33 inf3 rfl rfl rfl (by kernel_rfl) rfl) ?_
    intro b1
    refine RW.eff (fun xv : {vq : Value // IsSl vq (L.length + 1)} => xv.1) (fun xv => St ⟨w, Φ, []⟩ Φ [.row (.slice (some ⟨b1, 0, none⟩) 1 1) 3 1 1 ([.int .i64 ((10 * rs + xs.getD i 0) / k)]), .row xv.1 3 1 ((L ++ [(10 * rs + xs.getD i 0) / k]).length) ((L ++ [(10 * rs + xs.getD i 0) / k]).map (Value.int .i64))]) rfl (e_append 1 rfl rfl rfl Tryd.underlying33 inf3 rfl rfl rfl (Cells.row0 0 rfl) rfl (by omega) (by omega) (fun _ => by simp)) ?_
    rintro ⟨va1, hva1⟩
    refine RW.wk (J' := St ⟨w, Φ, []⟩ Φ [.row va1 3 1 ((L ++ [(10 * rs + xs.getD i 0) / k]).length) ((L ++ [(10 * rs + xs.getD i 0) / k]).map (Value.int .i64))]) (fun _ h => StP.drop h (by exact .cons _ (.cons_cons _ (.slnil)))) ?_
    refine RW.q (v := va1) rfl (q_assign rfl) ?_
    refine RW.nil ?_
    refine Post.then_n ?_
    refine AW.region ?_
    refine RW.q (v := .int .i64 ((10 * rs) + (xs.getD i 0))) rfl (q_move rfl) ?_
    refine RW.q (v := .int .i64 k) rfl (q_move rfl) ?_
    refine RW.q (v := .int .i64 ((10 * rs + xs.getD i 0) % k)) rfl (q_rem rfl rfl (by omega) (Int.tmod_eq_emod_of_nonneg (by omega))) ?_
    refine RW.q (v := .int .i64 ((10 * rs + xs.getD i 0) % k)) rfl (q_assign rfl) ?_
    refine RW.nil ?_
    refine Post.blk_n (Post.then_n ?_)
    refine AW.region ?_
    refine RW.q (v := .int .i64 (i : Int)) rfl (q_move rfl) ?_
    refine RW.q (v := .int .i64 ((i + 1 : Nat) : Int)) rfl (q_add rfl rfl (by omega) (by unfold I64; omega)) ?_
    refine RW.q (v := .int .i64 ((i + 1 : Nat) : Int)) rfl (q_assign rfl) ?_
    refine RW.nil ?_
    have hil : i < xs.length := by omega
    exact Post.back (s' := _) (J' := _) (m' := _) (by omega) ⟨i + 1, L ++ [(10 * rs + xs.getD i 0) / k], va1, (10 * rs + xs.getD i 0) % k, rfl, rfl, rfl, (by omega), (by rw [hL, (Un.ov_step hil).1, ← hrs]), (by simpa using hva1), (by rw [(Un.ov_step hil).2, ← hrs])⟩ ⟨rfl, rfl, rfl, rfl, rfl, rfl, rfl, trivial⟩ (fun _ h => by simpa using h)
  · simp [-List.getD_eq_getElem?_getD] at hc1
    refine AW.exit ?_
    refine Post.then_x (Post.then_x (Post.blk_hit (Post.then_n ?_)))
    refine AW.seq ?_
    refine AW.region ?_
    refine RW.q (v := lv) rfl (q_move rfl) ?_
    refine RW.q (v := .int .i64 rs) rfl (q_move rfl) ?_
    refine RW.q (v := lv) rfl (q_assign rfl) ?_
    refine RW.q (v := .int .i64 rs) rfl (q_assign rfl) ?_
    refine RW.nil ?_
    refine Post.then_n ?_
    refine AW.ret ?_
    rw [List.take_of_length_le (show xs.length ≤ i by omega)] at hL hrs
    obtain ⟨_, ho2, _, _, _⟩ := Un.ov_facts hk0 hd
    have ho1 := (Un.ov_facts hk0 hd).1
    rw [← hL] at ho2 ho1
    refine fin_out2 rfl rfl rfl rfl (fun w' hw => ⟨_, rfl, hw.below rfl, lv, by rw [← hrs]; rfl, ?_⟩)
    rw [← hL]
    exact RowS.ints (row_ext hw 0 rfl) (by simp only [maxSl]; omega) (fun x hx => by have := ho2 x hx; unfold I64; omega)

set_option maxRecDepth 8000 in
set_option maxHeartbeats 1000000 in
theorem Factor_c (w : World) (Φ : Hp) (hΦ : Hp.le Φ (hp w)) {l : List UInt8} :
    Calls Tryd.prog 16 #[.string (bs l)] w fun e w' => e = .returned (.tuple #[.int .i64 ((Un.fdF l).2.1 : Int), .int .i64 ((Un.fdF l).2.2.1 : Int), .int .i64 ((Un.fdF l).2.2.2.1 : Int), .int .i64 ((Un.fdF l).2.2.2.2 : Int), .bool (Un.fac l).isSome]) ∧ Below w.heap.size w w' := by
  refine calls_of_AW (args := [.string (bs l)]) Tryd.func16 rfl (Nat.le_of_ble_eq_true rfl) (St ⟨w, Φ, []⟩ Φ []) (StP.init w Φ hΦ []) ?_
  show AW Tryd.prog 46 [] _ _ _ [(0, .string (bs l))] _
  refine AW.seq ?_
  refine AW.region ?_
  refine RW.q (v := .int .i64 0) rfl (q_assign rfl) ?_
  refine RW.q (v := .int .i64 0) rfl (q_assign rfl) ?_
  refine RW.q (v := .int .i64 0) rfl (q_assign rfl) ?_
  refine RW.q (v := .int .i64 0) rfl (q_assign rfl) ?_
  refine RW.q (v := .bool false) rfl (q_assign rfl) ?_
  refine RW.nil ?_
  refine Post.then_n ?_
  refine AW.seq ?_
  refine AW.seq ?_
  refine AW.region ?_
  refine RW.q (v := .string (bs l)) rfl (q_move rfl) ?_
  refine RW.nil ?_
  refine Post.then_n ?_
  refine AW.block ?_
  refine AW.seq ?_
  refine AW.region ?_
  refine RW.q (v := .bool (decide (l = ([] : List UInt8)))) rfl (q_eqlStr (l := l) (r := ([] : List UInt8)) rfl rfl) ?_
  refine RW.q (v := .bool (decide (l = ([] : List UInt8)))) rfl (q_assign rfl) ?_
  refine RW.nil ?_
  refine Post.then_n ?_
  refine AW.cond (b := decide (l = ([] : List UInt8))) rfl (fun hc1 => ?_) (fun hc1 => ?_)
  · simp [-List.getD_eq_getElem?_getD] at hc1
    refine AW.seq ?_
    refine AW.region ?_
    refine RW.q (v := .int .i64 0) rfl (q_assign rfl) ?_
    refine RW.q (v := .int .i64 1) rfl (q_assign rfl) ?_
    refine RW.q (v := .int .i64 0) rfl (q_assign rfl) ?_
    refine RW.q (v := .int .i64 1) rfl (q_assign rfl) ?_
    refine RW.q (v := .bool true) rfl (q_assign rfl) ?_
    refine RW.nil ?_
    refine Post.then_n ?_
    refine AW.ret ?_
    refine Post.blk_r (Post.then_r ?_)
    refine fin_out5 (v1 := .int .i64 0) (v2 := .int .i64 1) (v3 := .int .i64 0) (v4 := .int .i64 1) (v5 := .bool true) rfl rfl rfl rfl rfl rfl rfl (fun w' hw => ?_)
    refine ⟨?_, hw.below rfl⟩
    subst hc1
    rfl
  · simp [-List.getD_eq_getElem?_getD] at hc1
    refine AW.seq ?_
    refine AW.region ?_
    refine RW.q (v := .bool (decide (l = ([108] : List UInt8)))) rfl (q_eqlStr (l := l) (r := ([108] : List UInt8)) rfl rfl) ?_
    refine RW.q (v := .bool (decide (l = ([108] : List UInt8)))) rfl (q_assign rfl) ?_
    refine RW.nil ?_
    refine Post.then_n ?_
    refine AW.cond (b := decide (l = ([108] : List UInt8))) rfl (fun hc2 => ?_) (fun hc2 => ?_)
    · simp [-List.getD_eq_getElem?_getD] at hc2
      refine AW.seq ?_
      refine AW.region ?_
      refine RW.q (v := .int .i64 1) rfl (q_assign rfl) ?_
      refine RW.q (v := .int .i64 1) rfl (q_assign rfl) ?_
      refine RW.q (v := .int .i64 0) rfl (q_assign rfl) ?_
      refine RW.q (v := .int .i64 1) rfl (q_assign rfl) ?_
      refine RW.q (v := .bool true) rfl (q_assign rfl) ?_
      refine RW.nil ?_
      refine Post.then_n ?_
      refine AW.ret ?_
      refine Post.blk_r (Post.then_r ?_)
      refine fin_out5 (v1 := .int .i64 1) (v2 := .int .i64 1) (v3 := .int .i64 0) (v4 := .int .i64 1) (v5 := .bool true) rfl rfl rfl rfl rfl rfl rfl (fun w' hw => ?_)
      refine ⟨?_, hw.below rfl⟩
      subst hc2
      rfl
    · simp [-List.getD_eq_getElem?_getD] at hc2
      refine AW.seq ?_
      refine AW.region ?_
      refine RW.q (v := .bool (decide (l = ([109, 51] : List UInt8)))) rfl (q_eqlStr (l := l) (r := ([109, 51] : List UInt8)) rfl rfl) ?_
      refine RW.q (v := .bool (decide (l = ([109, 51] : List UInt8)))) rfl (q_assign rfl) ?_
      refine RW.nil ?_
      refine Post.then_n ?_
      refine AW.cond (b := decide (l = ([109, 51] : List UInt8))) rfl (fun hc3 => ?_) (fun hc3 => ?_)
      · simp [-List.getD_eq_getElem?_getD] at hc3
        refine AW.seq ?_
        refine AW.region ?_
        refine RW.q (v := .int .i64 1) rfl (q_assign rfl) ?_
        refine RW.q (v := .int .i64 1) rfl (q_assign rfl) ?_
        refine RW.q (v := .int .i64 3) rfl (q_assign rfl) ?_
        refine RW.q (v := .int .i64 1) rfl (q_assign rfl) ?_
        refine RW.q (v := .bool true) rfl (q_assign rfl) ?_
        refine RW.nil ?_
        refine Post.then_n ?_
        refine AW.ret ?_
        refine Post.blk_r (Post.then_r ?_)
        refine fin_out5 (v1 := .int .i64 1) (v2 := .int .i64 1) (v3 := .int .i64 3) (v4 := .int .i64 1) (v5 := .bool true) rfl rfl rfl rfl rfl rfl rfl (fun w' hw => ?_)
        refine ⟨?_, hw.below rfl⟩
        subst hc3
        rfl
      · simp [-List.getD_eq_getElem?_getD] at hc3
        refine AW.seq ?_
        refine AW.region ?_
        refine RW.q (v := .bool (decide (l = ([77, 76] : List UInt8)))) rfl (q_eqlStr (l := l) (r := ([77, 76] : List UInt8)) rfl rfl) ?_
        refine RW.q (v := .bool (decide (l = ([77, 76] : List UInt8)))) rfl (q_assign rfl) ?_
        refine RW.nil ?_
        refine Post.then_n ?_
        refine AW.cond (b := decide (l = ([77, 76] : List UInt8))) rfl (fun hc4 => ?_) (fun hc4 => ?_)
        · simp [-List.getD_eq_getElem?_getD] at hc4
          refine AW.seq ?_
          refine AW.region ?_
          refine RW.q (v := .int .i64 1) rfl (q_assign rfl) ?_
          refine RW.q (v := .int .i64 1) rfl (q_assign rfl) ?_
          refine RW.q (v := .int .i64 6) rfl (q_assign rfl) ?_
          refine RW.q (v := .int .i64 1) rfl (q_assign rfl) ?_
          refine RW.q (v := .bool true) rfl (q_assign rfl) ?_
          refine RW.nil ?_
          refine Post.then_n ?_
          refine AW.ret ?_
          refine Post.blk_r (Post.then_r ?_)
          refine fin_out5 (v1 := .int .i64 1) (v2 := .int .i64 1) (v3 := .int .i64 6) (v4 := .int .i64 1) (v5 := .bool true) rfl rfl rfl rfl rfl rfl rfl (fun w' hw => ?_)
          refine ⟨?_, hw.below rfl⟩
          subst hc4
          rfl
        · simp [-List.getD_eq_getElem?_getD] at hc4
          refine AW.seq ?_
          refine AW.region ?_
          refine RW.q (v := .bool (decide (l = ([71, 76] : List UInt8)))) rfl (q_eqlStr (l := l) (r := ([71, 76] : List UInt8)) rfl rfl) ?_
          refine RW.q (v := .bool (decide (l = ([71, 76] : List UInt8)))) rfl (q_assign rfl) ?_
          refine RW.nil ?_
          refine Post.then_n ?_
          refine AW.cond (b := decide (l = ([71, 76] : List UInt8))) rfl (fun hc5 => ?_) (fun hc5 => ?_)
          · simp [-List.getD_eq_getElem?_getD] at hc5
            refine AW.seq ?_
            refine AW.region ?_
            refine RW.q (v := .int .i64 1) rfl (q_assign rfl) ?_
            refine RW.q (v := .int .i64 1) rfl (q_assign rfl) ?_
            refine RW.q (v := .int .i64 9) rfl (q_assign rfl) ?_
            refine RW.q (v := .int .i64 1) rfl (q_assign rfl) ?_
            refine RW.q (v := .bool true) rfl (q_assign rfl) ?_
            refine RW.nil ?_
            refine Post.then_n ?_
            refine AW.ret ?_
            refine Post.blk_r (Post.then_r ?_)
            refine fin_out5 (v1 := .int .i64 1) (v2 := .int .i64 1) (v3 := .int .i64 9) (v4 := .int .i64 1) (v5 := .bool true) rfl rfl rfl rfl rfl rfl rfl (fun w' hw => ?_)
            refine ⟨?_, hw.below rfl⟩
            subst hc5
            rfl
          · simp [-List.getD_eq_getElem?_getD] at hc5
            refine AW.seq ?_
            refine AW.region ?_
            refine RW.q (v := .bool (decide (l = ([108, 112, 104] : List UInt8)))) rfl (q_eqlStr (l := l) (r := ([108, 112, 104] : List UInt8)) rfl rfl) ?_
            refine RW.q (v := .bool (decide (l = ([108, 112, 104] : List UInt8)))) rfl (q_assign rfl) ?_
            refine RW.nil ?_
            refine Post.then_n ?_
            refine AW.cond (b := decide (l = ([108, 112, 104] : List UInt8))) rfl (fun hc6 => ?_) (fun hc6 => ?_)
            · simp [-List.getD_eq_getElem?_getD] at hc6
              refine AW.seq ?_
              refine AW.region ?_
              refine RW.q (v := .int .i64 2) rfl (q_assign rfl) ?_
              refine RW.q (v := .int .i64 1) rfl (q_assign rfl) ?_
              refine RW.q (v := .int .i64 0) rfl (q_assign rfl) ?_
              refine RW.q (v := .int .i64 1) rfl (q_assign rfl) ?_
              refine RW.q (v := .bool true) rfl (q_assign rfl) ?_
              refine RW.nil ?_
              refine Post.then_n ?_
              refine AW.ret ?_
              refine Post.blk_r (Post.then_r ?_)
              refine fin_out5 (v1 := .int .i64 2) (v2 := .int .i64 1) (v3 := .int .i64 0) (v4 := .int .i64 1) (v5 := .bool true) rfl rfl rfl rfl rfl rfl rfl (fun w' hw => ?_)
              refine ⟨?_, hw.below rfl⟩
              subst hc6
              rfl
            · simp [-List.getD_eq_getElem?_getD] at hc6
              refine AW.seq ?_
              refine AW.region ?_
              refine RW.q (v := .bool (decide (l = ([108, 112, 115] : List UInt8)))) rfl (q_eqlStr (l := l) (r := ([108, 112, 115] : List UInt8)) rfl rfl) ?_
              refine RW.q (v := .bool (decide (l = ([108, 112, 115] : List UInt8)))) rfl (q_assign rfl) ?_
              refine RW.nil ?_
              refine Post.then_n ?_
              refine AW.cond (b := decide (l = ([108, 112, 115] : List UInt8))) rfl (fun hc7 => ?_) (fun hc7 => ?_)
              · simp [-List.getD_eq_getElem?_getD] at hc7
                refine AW.seq ?_
                refine AW.region ?_
                refine RW.q (v := .int .i64 2) rfl (q_assign rfl) ?_
                refine RW.q (v := .int .i64 36) rfl (q_assign rfl) ?_
                refine RW.q (v := .int .i64 2) rfl (q_assign rfl) ?_
                refine RW.q (v := .int .i64 1) rfl (q_assign rfl) ?_
                refine RW.q (v := .bool true) rfl (q_assign rfl) ?_
                refine RW.nil ?_
                refine Post.then_n ?_
                refine AW.ret ?_
                refine Post.blk_r (Post.then_r ?_)
                refine fin_out5 (v1 := .int .i64 2) (v2 := .int .i64 36) (v3 := .int .i64 2) (v4 := .int .i64 1) (v5 := .bool true) rfl rfl rfl rfl rfl rfl rfl (fun w' hw => ?_)
                refine ⟨?_, hw.below rfl⟩
                subst hc7
                rfl
              · simp [-List.getD_eq_getElem?_getD] at hc7
                refine AW.seq ?_
                refine AW.region ?_
                refine RW.q (v := .bool (decide (l = ([109, 51, 112, 115] : List UInt8)))) rfl (q_eqlStr (l := l) (r := ([109, 51, 112, 115] : List UInt8)) rfl rfl) ?_
                refine RW.q (v := .bool (decide (l = ([109, 51, 112, 115] : List UInt8)))) rfl (q_assign rfl) ?_
                refine RW.nil ?_
                refine Post.then_n ?_
                refine AW.cond (b := decide (l = ([109, 51, 112, 115] : List UInt8))) rfl (fun hc8 => ?_) (fun hc8 => ?_)
                · simp [-List.getD_eq_getElem?_getD] at hc8
                  refine AW.seq ?_
                  refine AW.region ?_
                  refine RW.q (v := .int .i64 2) rfl (q_assign rfl) ?_
                  refine RW.q (v := .int .i64 36) rfl (q_assign rfl) ?_
                  refine RW.q (v := .int .i64 5) rfl (q_assign rfl) ?_
                  refine RW.q (v := .int .i64 1) rfl (q_assign rfl) ?_
                  refine RW.q (v := .bool true) rfl (q_assign rfl) ?_
                  refine RW.nil ?_
                  refine Post.then_n ?_
                  refine AW.ret ?_
                  refine Post.blk_r (Post.then_r ?_)
                  refine fin_out5 (v1 := .int .i64 2) (v2 := .int .i64 36) (v3 := .int .i64 5) (v4 := .int .i64 1) (v5 := .bool true) rfl rfl rfl rfl rfl rfl rfl (fun w' hw => ?_)
                  refine ⟨?_, hw.below rfl⟩
                  subst hc8
                  rfl
                · simp [-List.getD_eq_getElem?_getD] at hc8
                  refine AW.seq ?_
                  refine AW.region ?_
                  refine RW.q (v := .bool (decide (l = ([77, 76, 112, 100] : List UInt8)))) rfl (q_eqlStr (l := l) (r := ([77, 76, 112, 100] : List UInt8)) rfl rfl) ?_
                  refine RW.q (v := .bool (decide (l = ([77, 76, 112, 100] : List UInt8)))) rfl (q_assign rfl) ?_
                  refine RW.nil ?_
                  refine Post.then_n ?_
                  refine AW.cond (b := decide (l = ([77, 76, 112, 100] : List UInt8))) rfl (fun hc9 => ?_) (fun hc9 => ?_)
                  · simp [-List.getD_eq_getElem?_getD] at hc9
                    refine AW.seq ?_
                    refine AW.region ?_
                    refine RW.q (v := .int .i64 2) rfl (q_assign rfl) ?_
                    refine RW.q (v := .int .i64 1) rfl (q_assign rfl) ?_
                    refine RW.q (v := .int .i64 6) rfl (q_assign rfl) ?_
                    refine RW.q (v := .int .i64 24) rfl (q_assign rfl) ?_
                    refine RW.q (v := .bool true) rfl (q_assign rfl) ?_
                    refine RW.nil ?_
                    refine Post.then_n ?_
                    refine AW.ret ?_
                    refine Post.blk_r (Post.then_r ?_)
                    refine fin_out5 (v1 := .int .i64 2) (v2 := .int .i64 1) (v3 := .int .i64 6) (v4 := .int .i64 24) (v5 := .bool true) rfl rfl rfl rfl rfl rfl rfl (fun w' hw => ?_)
                    refine ⟨?_, hw.below rfl⟩
                    subst hc9
                    rfl
                  · simp [-List.getD_eq_getElem?_getD] at hc9
                    refine AW.seq ?_
                    refine AW.region ?_
                    refine RW.q (v := .bool (decide (l = ([109, 109] : List UInt8)))) rfl (q_eqlStr (l := l) (r := ([109, 109] : List UInt8)) rfl rfl) ?_
                    refine RW.q (v := .bool (decide (l = ([109, 109] : List UInt8)))) rfl (q_assign rfl) ?_
                    refine RW.nil ?_
                    refine Post.then_n ?_
                    refine AW.cond (b := decide (l = ([109, 109] : List UInt8))) rfl (fun hc10 => ?_) (fun hc10 => ?_)
                    · simp [-List.getD_eq_getElem?_getD] at hc10
                      refine AW.seq ?_
                      refine AW.region ?_
                      refine RW.q (v := .int .i64 3) rfl (q_assign rfl) ?_
                      refine RW.q (v := .int .i64 1) rfl (q_assign rfl) ?_
                      refine RW.q (v := .int .i64 0) rfl (q_assign rfl) ?_
                      refine RW.q (v := .int .i64 1) rfl (q_assign rfl) ?_
                      refine RW.q (v := .bool true) rfl (q_assign rfl) ?_
                      refine RW.nil ?_
                      refine Post.then_n ?_
                      refine AW.ret ?_
                      refine Post.blk_r (Post.then_r ?_)
                      refine fin_out5 (v1 := .int .i64 3) (v2 := .int .i64 1) (v3 := .int .i64 0) (v4 := .int .i64 1) (v5 := .bool true) rfl rfl rfl rfl rfl rfl rfl (fun w' hw => ?_)
                      refine ⟨?_, hw.below rfl⟩
                      subst hc10
                      rfl
                    · simp [-List.getD_eq_getElem?_getD] at hc10
                      refine AW.seq ?_
                      refine AW.region ?_
                      refine RW.q (v := .bool (decide (l = ([99, 109] : List UInt8)))) rfl (q_eqlStr (l := l) (r := ([99, 109] : List UInt8)) rfl rfl) ?_
                      refine RW.q (v := .bool (decide (l = ([99, 109] : List UInt8)))) rfl (q_assign rfl) ?_
                      refine RW.nil ?_
                      refine Post.then_n ?_
                      refine AW.cond (b := decide (l = ([99, 109] : List UInt8))) rfl (fun hc11 => ?_) (fun hc11 => ?_)
                      · simp [-List.getD_eq_getElem?_getD] at hc11
                        refine AW.seq ?_
                        refine AW.region ?_
                        refine RW.q (v := .int .i64 3) rfl (q_assign rfl) ?_
                        refine RW.q (v := .int .i64 1) rfl (q_assign rfl) ?_
                        refine RW.q (v := .int .i64 1) rfl (q_assign rfl) ?_
                        refine RW.q (v := .int .i64 1) rfl (q_assign rfl) ?_
                        refine RW.q (v := .bool true) rfl (q_assign rfl) ?_
                        refine RW.nil ?_
                        refine Post.then_n ?_
                        refine AW.ret ?_
                        refine Post.blk_r (Post.then_r ?_)
                        refine fin_out5 (v1 := .int .i64 3) (v2 := .int .i64 1) (v3 := .int .i64 1) (v4 := .int .i64 1) (v5 := .bool true) rfl rfl rfl rfl rfl rfl rfl (fun w' hw => ?_)
                        refine ⟨?_, hw.below rfl⟩
                        subst hc11
                        rfl
                      · simp [-List.getD_eq_getElem?_getD] at hc11
                        refine AW.seq ?_
                        refine AW.region ?_
                        refine RW.q (v := .bool (decide (l = ([109] : List UInt8)))) rfl (q_eqlStr (l := l) (r := ([109] : List UInt8)) rfl rfl) ?_
                        refine RW.q (v := .bool (decide (l = ([109] : List UInt8)))) rfl (q_assign rfl) ?_
                        refine RW.nil ?_
                        refine Post.then_n ?_
                        refine AW.cond (b := decide (l = ([109] : List UInt8))) rfl (fun hc12 => ?_) (fun hc12 => ?_)
                        · simp [-List.getD_eq_getElem?_getD] at hc12
                          refine AW.seq ?_
                          refine AW.region ?_
                          refine RW.q (v := .int .i64 3) rfl (q_assign rfl) ?_
                          refine RW.q (v := .int .i64 1) rfl (q_assign rfl) ?_
                          refine RW.q (v := .int .i64 3) rfl (q_assign rfl) ?_
                          refine RW.q (v := .int .i64 1) rfl (q_assign rfl) ?_
                          refine RW.q (v := .bool true) rfl (q_assign rfl) ?_
                          refine RW.nil ?_
                          refine Post.then_n ?_
                          refine AW.ret ?_
                          refine Post.blk_r (Post.then_r ?_)
                          refine fin_out5 (v1 := .int .i64 3) (v2 := .int .i64 1) (v3 := .int .i64 3) (v4 := .int .i64 1) (v5 := .bool true) rfl rfl rfl rfl rfl rfl rfl (fun w' hw => ?_)
                          refine ⟨?_, hw.below rfl⟩
                          subst hc12
                          rfl
                        · simp [-List.getD_eq_getElem?_getD] at hc12
                          refine AW.seq ?_
                          refine AW.region ?_
                          refine RW.q (v := .bool (decide (l = ([104] : List UInt8)))) rfl (q_eqlStr (l := l) (r := ([104] : List UInt8)) rfl rfl) ?_
                          refine RW.q (v := .bool (decide (l = ([104] : List UInt8)))) rfl (q_assign rfl) ?_
                          refine RW.nil ?_
                          refine Post.then_n ?_
                          refine AW.cond (b := decide (l = ([104] : List UInt8))) rfl (fun hc13 => ?_) (fun hc13 => ?_)
                          · simp [-List.getD_eq_getElem?_getD] at hc13
                            refine AW.seq ?_
                            refine AW.region ?_
                            refine RW.q (v := .int .i64 4) rfl (q_assign rfl) ?_
                            refine RW.q (v := .int .i64 1) rfl (q_assign rfl) ?_
                            refine RW.q (v := .int .i64 0) rfl (q_assign rfl) ?_
                            refine RW.q (v := .int .i64 1) rfl (q_assign rfl) ?_
                            refine RW.q (v := .bool true) rfl (q_assign rfl) ?_
                            refine RW.nil ?_
                            refine Post.then_n ?_
                            refine AW.ret ?_
                            refine Post.blk_r (Post.then_r ?_)
                            refine fin_out5 (v1 := .int .i64 4) (v2 := .int .i64 1) (v3 := .int .i64 0) (v4 := .int .i64 1) (v5 := .bool true) rfl rfl rfl rfl rfl rfl rfl (fun w' hw => ?_)
                            refine ⟨?_, hw.below rfl⟩
                            subst hc13
                            rfl
                          · simp [-List.getD_eq_getElem?_getD] at hc13
                            refine AW.seq ?_
                            refine AW.region ?_
                            refine RW.q (v := .bool (decide (l = ([100] : List UInt8)))) rfl (q_eqlStr (l := l) (r := ([100] : List UInt8)) rfl rfl) ?_
                            refine RW.q (v := .bool (decide (l = ([100] : List UInt8)))) rfl (q_assign rfl) ?_
                            refine RW.nil ?_
                            refine Post.then_n ?_
                            refine AW.cond (b := decide (l = ([100] : List UInt8))) rfl (fun hc14 => ?_) (fun hc14 => ?_)
                            · simp [-List.getD_eq_getElem?_getD] at hc14
                              refine AW.seq ?_
                              refine AW.region ?_
                              refine RW.q (v := .int .i64 4) rfl (q_assign rfl) ?_
                              refine RW.q (v := .int .i64 24) rfl (q_assign rfl) ?_
                              refine RW.q (v := .int .i64 0) rfl (q_assign rfl) ?_
                              refine RW.q (v := .int .i64 1) rfl (q_assign rfl) ?_
                              refine RW.q (v := .bool true) rfl (q_assign rfl) ?_
                              refine RW.nil ?_
                              refine Post.then_n ?_
                              refine AW.ret ?_
                              refine Post.blk_r (Post.then_r ?_)
                              refine fin_out5 (v1 := .int .i64 4) (v2 := .int .i64 24) (v3 := .int .i64 0) (v4 := .int .i64 1) (v5 := .bool true) rfl rfl rfl rfl rfl rfl rfl (fun w' hw => ?_)
                              refine ⟨?_, hw.below rfl⟩
                              subst hc14
                              rfl
                            · simp [-List.getD_eq_getElem?_getD] at hc14
                              refine AW.seq ?_
                              refine AW.region ?_
                              refine RW.q (v := .bool (decide (l = ([109, 50] : List UInt8)))) rfl (q_eqlStr (l := l) (r := ([109, 50] : List UInt8)) rfl rfl) ?_
                              refine RW.q (v := .bool (decide (l = ([109, 50] : List UInt8)))) rfl (q_assign rfl) ?_
                              refine RW.nil ?_
                              refine Post.then_n ?_
                              refine AW.cond (b := decide (l = ([109, 50] : List UInt8))) rfl (fun hc15 => ?_) (fun hc15 => ?_)
                              · simp [-List.getD_eq_getElem?_getD] at hc15
                                refine AW.seq ?_
                                refine AW.region ?_
                                refine RW.q (v := .int .i64 5) rfl (q_assign rfl) ?_
                                refine RW.q (v := .int .i64 1) rfl (q_assign rfl) ?_
                                refine RW.q (v := .int .i64 0) rfl (q_assign rfl) ?_
                                refine RW.q (v := .int .i64 1) rfl (q_assign rfl) ?_
                                refine RW.q (v := .bool true) rfl (q_assign rfl) ?_
                                refine RW.nil ?_
                                refine Post.then_n ?_
                                refine AW.ret ?_
                                refine Post.blk_r (Post.then_r ?_)
                                refine fin_out5 (v1 := .int .i64 5) (v2 := .int .i64 1) (v3 := .int .i64 0) (v4 := .int .i64 1) (v5 := .bool true) rfl rfl rfl rfl rfl rfl rfl (fun w' hw => ?_)
                                refine ⟨?_, hw.below rfl⟩
                                subst hc15
                                rfl
                              · simp [-List.getD_eq_getElem?_getD] at hc15
                                refine AW.seq ?_
                                refine AW.region ?_
                                refine RW.q (v := .bool (decide (l = ([104, 97] : List UInt8)))) rfl (q_eqlStr (l := l) (r := ([104, 97] : List UInt8)) rfl rfl) ?_
                                refine RW.q (v := .bool (decide (l = ([104, 97] : List UInt8)))) rfl (q_assign rfl) ?_
                                refine RW.nil ?_
                                refine Post.then_n ?_
                                refine AW.cond (b := decide (l = ([104, 97] : List UInt8))) rfl (fun hc16 => ?_) (fun hc16 => ?_)
                                · simp [-List.getD_eq_getElem?_getD] at hc16
                                  refine AW.seq ?_
                                  refine AW.region ?_
                                  refine RW.q (v := .int .i64 5) rfl (q_assign rfl) ?_
                                  refine RW.q (v := .int .i64 1) rfl (q_assign rfl) ?_
                                  refine RW.q (v := .int .i64 4) rfl (q_assign rfl) ?_
                                  refine RW.q (v := .int .i64 1) rfl (q_assign rfl) ?_
                                  refine RW.q (v := .bool true) rfl (q_assign rfl) ?_
                                  refine RW.nil ?_
                                  refine Post.then_n ?_
                                  refine AW.ret ?_
                                  refine Post.blk_r (Post.then_r ?_)
                                  refine fin_out5 (v1 := .int .i64 5) (v2 := .int .i64 1) (v3 := .int .i64 4) (v4 := .int .i64 1) (v5 := .bool true) rfl rfl rfl rfl rfl rfl rfl (fun w' hw => ?_)
                                  refine ⟨?_, hw.below rfl⟩
                                  subst hc16
                                  rfl
                                · simp [-List.getD_eq_getElem?_getD] at hc16
                                  refine AW.seq ?_
                                  refine AW.region ?_
                                  refine RW.q (v := .bool (decide (l = ([107, 109, 50] : List UInt8)))) rfl (q_eqlStr (l := l) (r := ([107, 109, 50] : List UInt8)) rfl rfl) ?_
                                  refine RW.q (v := .bool (decide (l = ([107, 109, 50] : List UInt8)))) rfl (q_assign rfl) ?_
                                  refine RW.nil ?_
                                  refine Post.then_n ?_
                                  refine AW.cond (b := decide (l = ([107, 109, 50] : List UInt8))) rfl (fun hc17 => ?_) (fun hc17 => ?_)
                                  · simp [-List.getD_eq_getElem?_getD] at hc17
                                    refine AW.seq ?_
                                    refine AW.region ?_
                                    refine RW.q (v := .int .i64 5) rfl (q_assign rfl) ?_
                                    refine RW.q (v := .int .i64 1) rfl (q_assign rfl) ?_
                                    refine RW.q (v := .int .i64 6) rfl (q_assign rfl) ?_
                                    refine RW.q (v := .int .i64 1) rfl (q_assign rfl) ?_
                                    refine RW.q (v := .bool true) rfl (q_assign rfl) ?_
                                    refine RW.nil ?_
                                    refine Post.then_n ?_
                                    refine AW.ret ?_
                                    refine Post.blk_r (Post.then_r ?_)
                                    refine fin_out5 (v1 := .int .i64 5) (v2 := .int .i64 1) (v3 := .int .i64 6) (v4 := .int .i64 1) (v5 := .bool true) rfl rfl rfl rfl rfl rfl rfl (fun w' hw => ?_)
                                    refine ⟨?_, hw.below rfl⟩
                                    subst hc17
                                    rfl
                                  · simp [-List.getD_eq_getElem?_getD] at hc17
                                    refine AW.seq ?_
                                    refine AW.region ?_
                                    refine RW.q (v := .bool (decide (l = ([112, 101, 114, 109, 105, 108, 108, 101] : List UInt8)))) rfl (q_eqlStr (l := l) (r := ([112, 101, 114, 109, 105, 108, 108, 101] : List UInt8)) rfl rfl) ?_
                                    refine RW.q (v := .bool (decide (l = ([112, 101, 114, 109, 105, 108, 108, 101] : List UInt8)))) rfl (q_assign rfl) ?_
                                    refine RW.nil ?_
                                    refine Post.then_n ?_
                                    refine AW.cond (b := decide (l = ([112, 101, 114, 109, 105, 108, 108, 101] : List UInt8))) rfl (fun hc18 => ?_) (fun hc18 => ?_)
                                    · simp [-List.getD_eq_getElem?_getD] at hc18
                                      refine AW.seq ?_
                                      refine AW.region ?_
                                      refine RW.q (v := .int .i64 6) rfl (q_assign rfl) ?_
                                      refine RW.q (v := .int .i64 1) rfl (q_assign rfl) ?_
                                      refine RW.q (v := .int .i64 0) rfl (q_assign rfl) ?_
                                      refine RW.q (v := .int .i64 1) rfl (q_assign rfl) ?_
                                      refine RW.q (v := .bool true) rfl (q_assign rfl) ?_
                                      refine RW.nil ?_
                                      refine Post.then_n ?_
                                      refine AW.ret ?_
                                      refine Post.blk_r (Post.then_r ?_)
                                      refine fin_out5 (v1 := .int .i64 6) (v2 := .int .i64 1) (v3 := .int .i64 0) (v4 := .int .i64 1) (v5 := .bool true) rfl rfl rfl rfl rfl rfl rfl (fun w' hw => ?_)
                                      refine ⟨?_, hw.below rfl⟩
                                      subst hc18
                                      rfl
                                    · simp [-List.getD_eq_getElem?_getD] at hc18
                                      refine AW.seq ?_
                                      refine AW.region ?_
                                      refine RW.q (v := .bool (decide (l = ([112, 101, 114, 99, 101, 110, 116] : List UInt8)))) rfl (q_eqlStr (l := l) (r := ([112, 101, 114, 99, 101, 110, 116] : List UInt8)) rfl rfl) ?_
                                      refine RW.q (v := .bool (decide (l = ([112, 101, 114, 99, 101, 110, 116] : List UInt8)))) rfl (q_assign rfl) ?_
                                      refine RW.nil ?_
                                      refine Post.then_n ?_
                                      refine AW.cond (b := decide (l = ([112, 101, 114, 99, 101, 110, 116] : List UInt8))) rfl (fun hc19 => ?_) (fun hc19 => ?_)
                                      · simp [-List.getD_eq_getElem?_getD] at hc19
                                        refine AW.seq ?_
                                        refine AW.region ?_
                                        refine RW.q (v := .int .i64 6) rfl (q_assign rfl) ?_
                                        refine RW.q (v := .int .i64 1) rfl (q_assign rfl) ?_
                                        refine RW.q (v := .int .i64 1) rfl (q_assign rfl) ?_
                                        refine RW.q (v := .int .i64 1) rfl (q_assign rfl) ?_
                                        refine RW.q (v := .bool true) rfl (q_assign rfl) ?_
                                        refine RW.nil ?_
                                        refine Post.then_n ?_
                                        refine AW.ret ?_
                                        refine Post.blk_r (Post.then_r ?_)
                                        refine fin_out5 (v1 := .int .i64 6) (v2 := .int .i64 1) (v3 := .int .i64 1) (v4 := .int .i64 1) (v5 := .bool true) rfl rfl rfl rfl rfl rfl rfl (fun w' hw => ?_)
                                        refine ⟨?_, hw.below rfl⟩
                                        subst hc19
                                        rfl
                                      · simp [-List.getD_eq_getElem?_getD] at hc19
                                        refine AW.skip ?_
                                        refine Post.blk_n (Post.then_n ?_)
                                        refine AW.seq ?_
                                        refine AW.region ?_
                                        refine RW.q (v := .int .i64 0) rfl (q_assign rfl) ?_
                                        refine RW.q (v := .int .i64 0) rfl (q_assign rfl) ?_
                                        refine RW.q (v := .int .i64 0) rfl (q_assign rfl) ?_
                                        refine RW.q (v := .int .i64 0) rfl (q_assign rfl) ?_
                                        refine RW.q (v := .bool false) rfl (q_assign rfl) ?_
                                        refine RW.nil ?_
                                        refine Post.then_n ?_
                                        refine AW.ret ?_
                                        have hn : Un.fac l = none := Un.fac_none fun x hx e => by
                                          simp only [Un.facs, List.mem_cons, List.not_mem_nil, or_false] at hx
                                          rcases hx with rfl | rfl | rfl | rfl | rfl | rfl | rfl | rfl | rfl | rfl | rfl | rfl | rfl | rfl | rfl | rfl | rfl | rfl | rfl
                                          · exact hc1 e.symm
                                          · exact hc2 e.symm
                                          · exact hc3 e.symm
                                          · exact hc4 e.symm
                                          · exact hc5 e.symm
                                          · exact hc6 e.symm
                                          · exact hc7 e.symm
                                          · exact hc8 e.symm
                                          · exact hc9 e.symm
                                          · exact hc10 e.symm
                                          · exact hc11 e.symm
                                          · exact hc12 e.symm
                                          · exact hc13 e.symm
                                          · exact hc14 e.symm
                                          · exact hc15 e.symm
                                          · exact hc16 e.symm
                                          · exact hc17 e.symm
                                          · exact hc18 e.symm
                                          · exact hc19 e.symm
                                        refine fin_out5 (v1 := .int .i64 0) (v2 := .int .i64 0) (v3 := .int .i64 0) (v4 := .int .i64 0) (v5 := .bool false) rfl rfl rfl rfl rfl rfl rfl (fun w' hw => ?_)
                                        refine ⟨?_, hw.below rfl⟩
                                        rw [show Un.fdF l = ([], 0, 0, 0, 0) from by unfold Un.fdF; rw [hn]; rfl, hn]
                                        rfl

set_option maxRecDepth 8000 in
set_option maxHeartbeats 1000000 in
theorem Base_c (w : World) (Φ : Hp) (hΦ : Hp.le Φ (hp w)) {d : Int} :
    Calls Tryd.prog 13 #[.int .i64 d] w fun e w' => e = .returned (.tuple #[.string (bs (if 0 ≤ d then Un.bases.getD d.toNat [] else [])), .bool (decide (0 ≤ d) && decide (d < 7))]) ∧ Below w.heap.size w w' := by
  refine calls_of_AW (args := [.int .i64 d]) Tryd.func13 rfl (Nat.le_of_ble_eq_true rfl) (St ⟨w, Φ, []⟩ Φ []) (StP.init w Φ hΦ []) ?_
  show AW Tryd.prog 18 [] _ _ _ [(0, .int .i64 d)] _
  refine AW.seq ?_
  refine AW.region ?_
  refine RW.q (v := .string (bs ([] : List UInt8))) rfl (q_assign rfl) ?_
  refine RW.q (v := .bool false) rfl (q_assign rfl) ?_
  refine RW.nil ?_
  refine Post.then_n ?_
  refine AW.seq ?_
  refine AW.region ?_
  refine RW.eff (fun b1 : Nat => (.slice (some ⟨b1, 0, none⟩) 7 7)) (fun b1 => St ⟨w, Φ, []⟩ Φ [.row (.slice (some ⟨b1, 0, none⟩) 7 7) 9 1 7 (([([] : List UInt8), ([108] : List UInt8), ([108, 112, 104] : List UInt8), ([109, 109] : List UInt8), ([104] : List UInt8), ([109, 50] : List UInt8), ([112, 101, 114, 109, 105, 108, 108, 101] : List UInt8)] : List (List UInt8)).map (fun l => Value.string (bs l)))]) rfl (e_buildSlice (vals := [(0, .string (bs ([] : List UInt8))), (1, .string (bs ([108] : List UInt8))), (2, .string (bs ([108, 112, 104] : List UInt8))), (3, .string (bs ([109, 109] : List UInt8))), (4, .string (bs ([104] : List UInt8))), (5, .string (bs ([109, 50] : List UInt8))), (6, .string (bs ([112, 101, 114, 109, 105, 108, 108, 101] : List UInt8)))]) (cells := [.string (bs ([] : List UInt8)), .string (bs ([108] : List UInt8)), .string (bs ([108, 112, 104] : List UInt8)), .string (bs ([109, 109] : List UInt8)), .string (bs ([104] : List UInt8)), .string (bs ([109, 50] : List UInt8)), .string (bs ([112, 101, 114, 109, 105, 108, 108, 101] : List UInt8))]) Tryd.underlying57 inf9 rfl rfl rfl (by kernel_rfl) rfl) ?_
  intro b1
  refine RW.q (v := (.slice (some ⟨b1, 0, none⟩) 7 7)) rfl (q_assign rfl) ?_
  refine RW.nil ?_
  refine Post.then_n ?_
  refine AW.seq ?_
  refine AW.seq ?_
  refine AW.region ?_
  refine RW.q (v := .int .i64 d) rfl (q_move rfl) ?_
  refine RW.q (v := .bool (decide (d < 0))) rfl (q_lss rfl rfl) ?_
  refine RW.q (v := .bool (decide (d < 0))) rfl (q_move rfl) ?_
  refine RW.g (b := (decide (d < 0))) (v := .int .i64 d) rfl rfl rfl (fun h => q_move rfl) ?_
  refine RW.g (b := (decide (d < 0))) (v := (.slice (some ⟨b1, 0, none⟩) 7 7)) rfl rfl rfl (fun h => q_move rfl) ?_
  refine RW.g (b := (decide (d < 0))) (v := .int .i64 (7 : Int)) rfl rfl rfl (fun h => q_len_sl (gv_pos h) isSl_mk Tryd.underlying57) ?_
  refine RW.g (b := (decide (d < 0))) (v := .bool (decide ((7 : Int) ≤ d))) rfl rfl rfl (fun h => q_geq (gv_pos h) (gv_pos h)) ?_
  refine RW.q (v := .bool ((decide (d < 0)) || (decide ((7 : Int) ≤ d)))) rfl (q_pick rfl (fun hp => pkOrT hp) (fun hp => (gv_pos hp).trans (pkOrF hp))) ?_
  refine RW.nil ?_
  refine Post.then_n ?_
  refine AW.cond (b := (decide (d < 0)) || (decide ((7 : Int) ≤ d))) rfl (fun hc1 => ?_) (fun hc1 => ?_)
  · simp [-List.getD_eq_getElem?_getD] at hc1
    refine AW.seq ?_
    refine AW.region ?_
    refine RW.q (v := .string (bs ([] : List UInt8))) rfl (q_assign rfl) ?_
    refine RW.q (v := .bool false) rfl (q_assign rfl) ?_
    refine RW.nil ?_
    refine Post.then_n ?_
    refine AW.ret ?_
    refine Post.then_r ?_
    refine fin_out2 (v := .string (bs ([] : List UInt8))) (u := .bool false) rfl rfl rfl rfl (fun w' hw => ?_)
    refine ⟨?_, hw.below rfl⟩
    rcases hc1 with h | h
    · rw [if_neg (by omega), decide_eq_false (by omega : ¬ 0 ≤ d)]; rfl
    · rw [decide_eq_false (by omega : ¬ d < 7), Bool.and_false]
      split
      · rw [List.getD_eq_getElem?_getD, List.getElem?_eq_none (by show 7 ≤ _; omega)]; rfl
      · rfl
  · simp [-List.getD_eq_getElem?_getD] at hc1
    refine AW.skip ?_
    refine Post.then_n ?_
    refine AW.seq ?_
    refine AW.region ?_
    refine RW.q (v := (.slice (some ⟨b1, 0, none⟩) 7 7)) rfl (q_move rfl) ?_
    refine RW.q (v := .int .i64 d) rfl (q_move rfl) ?_
    refine RW.q (v := .pointer (some (Value.at (.slice (some ⟨b1, 0, none⟩) 7 7) (d.toNat * 1)))) rfl (q_indexAddr rfl rfl isSl_mk Tryd.underlying57 sz9 (by omega) (by omega) rfl) ?_
    refine RW.q (v := .string (bs (([([] : List UInt8), ([108] : List UInt8), ([108, 112, 104] : List UInt8), ([109, 109] : List UInt8), ([104] : List UInt8), ([109, 50] : List UInt8), ([112, 101, 114, 109, 105, 108, 108, 101] : List UInt8)] : List (List UInt8)).getD d.toNat []))) rfl (q_load rfl Tryd.underlying9 rfl (Cell.rowStr 0 rfl (by show d.toNat < 7; omega))) ?_
    refine RW.q (v := .string (bs (([([] : List UInt8), ([108] : List UInt8), ([108, 112, 104] : List UInt8), ([109, 109] : List UInt8), ([104] : List UInt8), ([109, 50] : List UInt8), ([112, 101, 114, 109, 105, 108, 108, 101] : List UInt8)] : List (List UInt8)).getD d.toNat []))) rfl (q_assign rfl) ?_
    refine RW.q (v := .bool true) rfl (q_assign rfl) ?_
    refine RW.nil ?_
    refine Post.then_n ?_
    refine AW.ret ?_
    refine fin_out2 (v := .string (bs (([([] : List UInt8), ([108] : List UInt8), ([108, 112, 104] : List UInt8), ([109, 109] : List UInt8), ([104] : List UInt8), ([109, 50] : List UInt8), ([112, 101, 114, 109, 105, 108, 108, 101] : List UInt8)] : List (List UInt8)).getD d.toNat []))) (u := .bool true) rfl rfl rfl rfl (fun w' hw => ?_)
    refine ⟨?_, hw.below rfl⟩
    rw [if_pos (by omega), decide_eq_true (by omega : 0 ≤ d), decide_eq_true (by omega : d < 7)]
    rfl

set_option maxRecDepth 8000 in
set_option maxHeartbeats 1000000 in
theorem Digits_c (w : World) (Φ : Hp) (hΦ : Hp.le Φ (hp w)) {N : Nat} (hN : N ≤ 4611686018427387904) :
    Calls Tryd.prog 15 #[.int .i64 (N : Int)] w fun e w' => e = .returned (.string (bs (Lib.decDigits N))) ∧ Below w.heap.size w w' := by
  refine calls_of_AW (args := [.int .i64 (N : Int)]) Tryd.func15 rfl (Nat.le_of_ble_eq_true rfl) (St ⟨w, Φ, []⟩ Φ []) (StP.init w Φ hΦ []) ?_
  show AW Tryd.prog 23 [] _ _ _ [(0, .int .i64 (N : Int))] _
  have hdl : (Lib.decDigits N).length ≤ 19 := Un.dec_len_le (by omega) (by omega)
  refine AW.seq ?_
  refine AW.region ?_
  refine RW.q (v := .string (bs ([] : List UInt8))) rfl (q_assign rfl) ?_
  refine RW.nil ?_
  refine Post.then_n ?_
  refine AW.seq ?_
  refine AW.region ?_
  refine RW.q (v := .int .i64 (N : Int)) rfl (q_move rfl) ?_
  refine RW.q (v := .int .i64 ((N % 10 : Nat) : Int)) rfl (q_remN (a := N) (b := 10) rfl rfl (by omega)) ?_
  refine RW.q (v := .int .i64 ((48 + N % 10 : Nat) : Int)) rfl (q_add rfl rfl (by omega) (by unfold I64; omega)) ?_
  refine RW.q (v := .int .u8 (((UInt8.ofNat (48 + N % 10)).toNat : Nat) : Int)) rfl (q_toByte rfl Tryd.underlying3 Tryd.underlying5 (by rw [byte_ofNat]; omega)) ?_
  refine RW.eff (fun b1 : Nat => (.slice (some ⟨b1, 0, none⟩) 1 1)) (fun b1 => St ⟨w, Φ, []⟩ Φ [.row (.slice (some ⟨b1, 0, none⟩) 1 1) 5 1 1 (bCells ([UInt8.ofNat (48 + N % 10)] : List UInt8))]) rfl (e_buildSlice (vals := [(0, .int .u8 (((UInt8.ofNat (48 + N % 10)).toNat : Nat) : Int))]) (cells := [.int .u8 (((UInt8.ofNat (48 + N % 10)).toNat : Nat) : Int)]) Tryd.underlying58 inf5 rfl rfl rfl (by kernel_rfl) rfl) ?_
  intro b1
  refine RW.q (v := .string (bs ([UInt8.ofNat (48 + N % 10)] : List UInt8))) rfl (q_bytesStr (l := ([UInt8.ofNat (48 + N % 10)] : List UInt8)) 0 rfl rfl Tryd.underlying58 Tryd.underlying5 Tryd.underlying9) ?_
  refine RW.q (v := .string (bs ([UInt8.ofNat (48 + N % 10)] : List UInt8))) rfl (q_assign rfl) ?_
  refine RW.nil ?_
  refine Post.then_n ?_
  refine AW.seq ?_
  refine AW.block ?_
  refine AW.loop (fun s J m => ∃ (n : Nat), ∃ (q : List UInt8), s = [(2, .string (bs ([] : List UInt8))), (0, .int .i64 (n : Int)), (3, .string (bs q))] ∧ J = St ⟨w, Φ, []⟩ Φ [] ∧ m = n + 0 * n ∧ (n ≤ N) ∧ (Un.DInv N n q)) (s0 := _) (J1 := _) (m0 := _) ⟨N, _, rfl, rfl, rfl, (by omega), (Un.dinv_start N)⟩ ⟨rfl, rfl, rfl, trivial⟩ (fun _ h => StP.drop h (List.nil_sublist _)) ?_
  rintro _ _ _ _ ⟨n, q, rfl, rfl, rfl, hn, hq⟩
  refine AW.seq ?_
  refine AW.seq ?_
  refine AW.region ?_
  refine RW.q (v := .int .i64 (n : Int)) rfl (q_move rfl) ?_
  refine RW.q (v := .bool (decide ((10 : Int) ≤ (n : Int)))) rfl (q_geq rfl rfl) ?_
  refine RW.nil ?_
  refine Post.then_n ?_
  refine AW.cond (b := decide ((10 : Int) ≤ (n : Int))) rfl (fun hc1 => ?_) (fun hc1 => ?_)
  · simp [-List.getD_eq_getElem?_getD] at hc1
    refine AW.skip ?_
    refine Post.then_n ?_
    refine AW.block ?_
    refine AW.seq ?_
    refine AW.region ?_
    refine RW.q (v := .int .i64 (n : Int)) rfl (q_move rfl) ?_
    refine RW.q (v := .int .i64 ((n / 10 : Nat) : Int)) rfl (q_quoN (a := n) (b := 10) rfl rfl (by omega) (by omega)) ?_
    refine RW.q (v := .int .i64 ((n / 10 : Nat) : Int)) rfl (q_assign rfl) ?_
    refine RW.nil ?_
    refine Post.then_n ?_
    have hql : q.length ≤ 19 := by have h9 := congrArg List.length hq; rw [List.length_append] at h9; omega
    refine AW.region ?_
    refine RW.q (v := .int .i64 ((n / 10 : Nat) : Int)) rfl (q_move rfl) ?_
    refine RW.q (v := .int .i64 (((n / 10) % 10 : Nat) : Int)) rfl (q_remN (a := n / 10) (b := 10) rfl rfl (by omega)) ?_
    refine RW.q (v := .int .i64 ((48 + (n / 10) % 10 : Nat) : Int)) rfl (q_add rfl rfl (by omega) (by unfold I64; omega)) ?_
    refine RW.q (v := .int .u8 (((UInt8.ofNat (48 + (n / 10) % 10)).toNat : Nat) : Int)) rfl (q_toByte rfl Tryd.underlying3 Tryd.underlying5 (by rw [byte_ofNat]; omega)) ?_
    refine RW.eff (fun b2 : Nat => (.slice (some ⟨b2, 0, none⟩) 1 1)) (fun b2 => St ⟨w, Φ, []⟩ Φ [.row (.slice (some ⟨b2, 0, none⟩) 1 1) 5 1 1 (bCells ([UInt8.ofNat (48 + (n / 10) % 10)] : List UInt8))]) rfl (e_buildSlice (vals := [(0, .int .u8 (((UInt8.ofNat (48 + (n / 10) % 10)).toNat : Nat) : Int))]) (cells := [.int .u8 (((UInt8.ofNat (48 + (n / 10) % 10)).toNat : Nat) : Int)]) Tryd.underlying58 inf5 rfl rfl rfl (by kernel_rfl) rfl) ?_
    intro b2
    refine RW.q (v := .string (bs ([UInt8.ofNat (48 + (n / 10) % 10)] : List UInt8))) rfl (q_bytesStr (l := ([UInt8.ofNat (48 + (n / 10) % 10)] : List UInt8)) 0 rfl rfl Tryd.underlying58 Tryd.underlying5 Tryd.underlying9) ?_
    refine RW.q (v := .string (bs q)) rfl (q_move rfl) ?_
    refine RW.q (v := .string (bs (([UInt8.ofNat (48 + (n / 10) % 10)] : List UInt8) ++ q))) rfl (q_catStr (l := ([UInt8.ofNat (48 + (n / 10) % 10)] : List UInt8)) (r := q) rfl rfl (by simp only [List.length_append, List.length_cons, List.length_nil]; omega) rfl) ?_
    refine RW.q (v := .string (bs (([UInt8.ofNat (48 + (n / 10) % 10)] : List UInt8) ++ q))) rfl (q_assign rfl) ?_
    refine RW.nil ?_
    refine Post.blk_n ?_
    exact Post.back (s' := _) (J' := _) (m' := _) (by omega) ⟨n / 10, _, rfl, rfl, rfl, (by omega), (Un.dinv_step hq (by omega))⟩ ⟨rfl, rfl, rfl, trivial⟩ (fun _ h => StP.drop h (List.nil_sublist _))
  · simp [-List.getD_eq_getElem?_getD] at hc1
    refine AW.exit ?_
    refine Post.then_x (Post.then_x (Post.blk_hit (Post.then_n ?_)))
    refine AW.seq ?_
    refine AW.region ?_
    refine RW.q (v := .string (bs q)) rfl (q_move rfl) ?_
    refine RW.q (v := .string (bs q)) rfl (q_assign rfl) ?_
    refine RW.nil ?_
    refine Post.then_n ?_
    refine AW.ret ?_
    exact fin_val (v' := .string (bs q)) rfl rfl rfl (by rw [show Lib.decDigits N = q from by rw [hq, if_pos (by omega)]; rfl])

set_option maxRecDepth 8000 in
set_option maxHeartbeats 1000000 in
theorem rWrite_c (w : World) (Φ : Hp) (hΦ : Hp.le Φ (hp w)) {N D : Int} :
    Calls Tryd.prog 12 #[.agg #[.int .i64 N, .int .i64 D]] w fun e w' => e = .returned (.string (bs (Un.wri N D))) ∧ Below w.heap.size w w' := by
  refine calls_of_AW (args := [.agg #[.int .i64 N, .int .i64 D]]) Tryd.func12 rfl (Nat.le_of_ble_eq_true rfl) (St ⟨w, Φ, []⟩ Φ []) (StP.init w Φ hΦ []) ?_
  show AW Tryd.prog 34 [] _ _ _ [(0, .agg #[.int .i64 N, .int .i64 D])] _
  refine AW.seq ?_
  refine AW.region ?_
  refine RW.eff (fun b1 : Nat => .pointer (some (⟨b1, 0, none⟩))) (fun b1 => St ⟨w, Φ, []⟩ Φ [.blk b1 23 [.int .i64 N, .int .i64 D]]) rfl (e_boxA (cs := [.int .i64 N, .int .i64 D]) rfl) ?_
  intro b1
  refine RW.q (v := .string (bs ([] : List UInt8))) rfl (q_assign rfl) ?_
  refine RW.nil ?_
  refine Post.then_n ?_
  refine AW.seq ?_
  refine AW.region ?_
  refine RW.q (v := .pointer (some (⟨b1, 1, none⟩))) rfl (q_fieldAddr rfl Tryd.underlying23 rfl sz3 rfl) ?_
  refine RW.q (v := .int .i64 D) rfl (q_load rfl Tryd.underlying3 rfl (Cell.blk 0 rfl rfl)) ?_
  refine RW.q (v := .tuple #[.string (bs (if 0 ≤ D then Un.bases.getD D.toNat [] else [])), .bool (decide (0 ≤ D) && decide (D < 7))]) rfl (q_call (args := #[.int .i64 D]) own13 rfl rfl (fun w1 hw1 => Base_c w1 (Go.K.hp w1) (Hp.le_refl _))) ?_
  refine RW.q (v := .tuple #[.string (bs (if 0 ≤ D then Un.bases.getD D.toNat [] else [])), .bool (decide (0 ≤ D) && decide (D < 7))]) rfl (q_move rfl) ?_
  refine RW.q (v := .string (bs (if 0 ≤ D then Un.bases.getD D.toNat [] else []))) rfl (q_extract rfl rfl) ?_
  refine RW.q (v := .bool (decide (0 ≤ D) && decide (D < 7))) rfl (q_extract rfl rfl) ?_
  refine RW.q (v := .string (bs (if 0 ≤ D then Un.bases.getD D.toNat [] else []))) rfl (q_assign rfl) ?_
  refine RW.q (v := .bool (decide (0 ≤ D) && decide (D < 7))) rfl (q_assign rfl) ?_
  refine RW.nil ?_
  refine Post.then_n ?_
  refine AW.seq ?_
  refine AW.seq ?_
  refine AW.region ?_
  refine RW.q (v := .bool (decide (0 ≤ D) && decide (D < 7))) rfl (q_move rfl) ?_
  refine RW.q (v := .bool (!(decide (0 ≤ D) && decide (D < 7)))) rfl (q_not rfl) ?_
  refine RW.q (v := .bool (!(decide (0 ≤ D) && decide (D < 7)))) rfl (q_move rfl) ?_
  refine RW.g (b := (!(decide (0 ≤ D) && decide (D < 7)))) (v := .pointer (some (⟨b1, 0, none⟩))) rfl rfl rfl (fun h => q_fieldAddr rfl Tryd.underlying23 rfl sz3 rfl) ?_
  refine RW.g (b := (!(decide (0 ≤ D) && decide (D < 7)))) (v := .int .i64 N) rfl rfl rfl (fun h => q_load (gv_pos h) Tryd.underlying3 rfl (Cell.blk 0 rfl rfl)) ?_
  refine RW.g (b := (!(decide (0 ≤ D) && decide (D < 7)))) (v := .bool (decide (N < 0))) rfl rfl rfl (fun h => q_lss (gv_pos h) rfl) ?_
  refine RW.q (v := .bool ((!(decide (0 ≤ D) && decide (D < 7))) || (decide (N < 0)))) rfl (q_pick rfl (fun hp => pkOrT hp) (fun hp => (gv_pos hp).trans (pkOrF hp))) ?_
  refine RW.q (v := .bool ((!(decide (0 ≤ D) && decide (D < 7))) || (decide (N < 0)))) rfl (q_move rfl) ?_
  refine RW.g (b := ((!(decide (0 ≤ D) && decide (D < 7))) || (decide (N < 0)))) (v := .pointer (some (⟨b1, 0, none⟩))) rfl rfl rfl (fun h => q_fieldAddr rfl Tryd.underlying23 rfl sz3 rfl) ?_
  refine RW.g (b := ((!(decide (0 ≤ D) && decide (D < 7))) || (decide (N < 0)))) (v := .int .i64 N) rfl rfl rfl (fun h => q_load (gv_pos h) Tryd.underlying3 rfl (Cell.blk 0 rfl rfl)) ?_
  refine RW.g (b := ((!(decide (0 ≤ D) && decide (D < 7))) || (decide (N < 0)))) (v := .bool (decide ((1125899906842624 : Int) < N))) rfl rfl rfl (fun h => q_gtr (gv_pos h) rfl) ?_
  refine RW.q (v := .bool (((!(decide (0 ≤ D) && decide (D < 7))) || (decide (N < 0))) || (decide ((1125899906842624 : Int) < N)))) rfl (q_pick rfl (fun hp => pkOrT hp) (fun hp => (gv_pos hp).trans (pkOrF hp))) ?_
  refine RW.nil ?_
  refine Post.then_n ?_
  refine AW.cond (b := ((!(decide (0 ≤ D) && decide (D < 7))) || (decide (N < 0))) || (decide ((1125899906842624 : Int) < N))) rfl (fun hc1 => ?_) (fun hc1 => ?_)
  · simp [-List.getD_eq_getElem?_getD] at hc1
    refine AW.seq ?_
    refine AW.region ?_
    refine RW.q (v := .string (bs ([] : List UInt8))) rfl (q_assign rfl) ?_
    refine RW.nil ?_
    refine Post.then_n ?_
    refine AW.ret ?_
    refine Post.then_r ?_
    exact fin_val (v' := .string (bs ([] : List UInt8))) rfl rfl rfl (by unfold Un.wri; rw [if_neg (by unfold Un.M; omega)])
  · simp [-List.getD_eq_getElem?_getD] at hc1
    refine AW.skip ?_
    refine Post.then_n ?_
    refine AW.seq ?_
    refine AW.seq ?_
    obtain ⟨n, rfl⟩ := Int.eq_ofNat_of_zero_le (show 0 ≤ N by omega)
    obtain ⟨d, rfl⟩ := Int.eq_ofNat_of_zero_le (show 0 ≤ D by omega)
    have hdl : (Lib.decDigits n).length ≤ 16 := Un.dec_len_le (by omega) (by omega)
    have hbl := Un.bases_len d
    rw [if_pos (by omega : 0 ≤ (d : Int)), Int.toNat_natCast]
    have hb0 := Un.bases_nil d (by omega)
    refine AW.region ?_
    refine RW.q (v := .string (bs (Un.bases.getD d []))) rfl (q_move rfl) ?_
    refine RW.q (v := .bool (decide (Un.bases.getD d [] = ([] : List UInt8)))) rfl (q_eqlStr (l := Un.bases.getD d []) (r := ([] : List UInt8)) rfl rfl) ?_
    refine RW.nil ?_
    refine Post.then_n ?_
    refine AW.cond (b := decide (Un.bases.getD d [] = ([] : List UInt8))) rfl (fun hc2 => ?_) (fun hc2 => ?_)
    · simp [-List.getD_eq_getElem?_getD] at hc2
      refine AW.seq ?_
      refine AW.region ?_
      refine RW.q (v := .pointer (some (⟨b1, 0, none⟩))) rfl (q_fieldAddr rfl Tryd.underlying23 rfl sz3 rfl) ?_
      refine RW.q (v := .int .i64 (n : Int)) rfl (q_load rfl Tryd.underlying3 rfl (Cell.blk 0 rfl rfl)) ?_
      refine RW.q (v := .string (bs (Lib.decDigits n))) rfl (q_call (args := #[.int .i64 (n : Int)]) own15 rfl rfl (fun w1 hw1 => Digits_c w1 (Go.K.hp w1) (Hp.le_refl _) (by omega))) ?_
      refine RW.q (v := .string (bs (Lib.decDigits n))) rfl (q_assign rfl) ?_
      refine RW.nil ?_
      refine Post.then_n ?_
      refine AW.ret ?_
      refine Post.then_r ?_
      have hin : 0 ≤ (d : Int) ∧ (d : Int) ≤ 6 ∧ 0 ≤ (n : Int) ∧ (n : Int) ≤ Un.M := by unfold Un.M; omega
      exact fin_val (v' := .string (bs (Lib.decDigits n))) rfl rfl rfl (by unfold Un.wri; rw [if_pos hin, if_pos (by have := hb0.1 hc2; omega), Int.toNat_natCast])
    · simp [-List.getD_eq_getElem?_getD] at hc2
      refine AW.skip ?_
      refine Post.then_n ?_
      refine AW.seq ?_
      refine AW.region ?_
      refine RW.q (v := .pointer (some (⟨b1, 0, none⟩))) rfl (q_fieldAddr rfl Tryd.underlying23 rfl sz3 rfl) ?_
      refine RW.q (v := .int .i64 (n : Int)) rfl (q_load rfl Tryd.underlying3 rfl (Cell.blk 0 rfl rfl)) ?_
      refine RW.q (v := .string (bs (Lib.decDigits n))) rfl (q_call (args := #[.int .i64 (n : Int)]) own15 rfl rfl (fun w1 hw1 => Digits_c w1 (Go.K.hp w1) (Hp.le_refl _) (by omega))) ?_
      refine RW.q (v := .string (bs ((Lib.decDigits n) ++ ([32] : List UInt8)))) rfl (q_catStr (l := Lib.decDigits n) (r := ([32] : List UInt8)) rfl rfl (by simp only [List.length_append, List.length_cons, List.length_nil]; omega) rfl) ?_
      refine RW.q (v := .string (bs (Un.bases.getD d []))) rfl (q_move rfl) ?_
      refine RW.q (v := .string (bs (((Lib.decDigits n) ++ ([32] : List UInt8)) ++ (Un.bases.getD d [])))) rfl (q_catStr (l := (Lib.decDigits n) ++ ([32] : List UInt8)) (r := Un.bases.getD d []) rfl rfl (by simp only [List.length_append, List.length_cons, List.length_nil]; omega) rfl) ?_
      refine RW.q (v := .string (bs (((Lib.decDigits n) ++ ([32] : List UInt8)) ++ (Un.bases.getD d [])))) rfl (q_assign rfl) ?_
      refine RW.nil ?_
      refine Post.then_n ?_
      refine AW.ret ?_
      have hin : 0 ≤ (d : Int) ∧ (d : Int) ≤ 6 ∧ 0 ≤ (n : Int) ∧ (n : Int) ≤ Un.M := by unfold Un.M; omega
      exact fin_val (v' := .string (bs (((Lib.decDigits n) ++ ([32] : List UInt8)) ++ (Un.bases.getD d [])))) rfl rfl rfl (by unfold Un.wri; rw [if_pos hin, if_neg (by intro h9; exact hc2 (hb0.2 (by omega))), Int.toNat_natCast, Int.toNat_natCast])

end Go.Proofs.YthiflhoobldioaaDoor
