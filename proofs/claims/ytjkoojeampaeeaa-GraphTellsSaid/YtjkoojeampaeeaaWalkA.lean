/- The walks of layer 11 (part WalkA), printed by walk.py. Conditions: those of each theorem. -/
import Derived.Test.YtjkoojeampaeeaaRows
import Derived.Test.YtjkoojeampaeeaaCore
import Derived.Test.YtjkoojeampaeeaaPlain
namespace Go.Proofs.Ytjkoojeampaeeaa
open Go Go.K Go.RowKit

theorem hmix : Try.prog.follows .mixedOrders = true := by kernel_rfl
theorem sz3 : (Try.prog.info? 3).map (·.size) = some 1 := by kernel_rfl
theorem sz4 : (Try.prog.info? 4).map (·.size) = some 1 := by kernel_rfl
theorem sz25 : (Try.prog.info? 25).map (·.size) = some 1 := by kernel_rfl
theorem sz45 : (Try.prog.info? 45).map (·.size) = some 1 := by kernel_rfl
theorem sz31 : (Try.prog.info? 31).map (·.size) = some 2 := by kernel_rfl
theorem zero3 : (Try.prog.info? 3).map (·.zero) = some (some (.int .i64 0)) := by kernel_rfl
theorem zero25 : (Try.prog.info? 25).map (·.zero) = some (some (.slice none 0 0)) := by kernel_rfl
theorem zero45 : (Try.prog.info? 45).map (·.zero) = some (some (.slice none 0 0)) := by kernel_rfl
theorem zero31 : (Try.prog.info? 31).map (·.zero) = some (some (.agg #[.int .i64 0, .int .i64 0])) := by kernel_rfl
theorem inf3 : (Try.prog.info? 3).map (fun i => (i.zero, i.size, i.bytes)) = some (some (.int .i64 0), 1, 8) := by kernel_rfl
theorem inf4 : (Try.prog.info? 4).map (fun i => (i.zero, i.size, i.bytes)) = some (some (.bool false), 1, 1) := by kernel_rfl
theorem inf25 : (Try.prog.info? 25).map (fun i => (i.zero, i.size, i.bytes)) = some (some (.slice none 0 0), 1, 24) := by kernel_rfl
theorem inf31 : (Try.prog.info? 31).map (fun i => (i.zero, i.size, i.bytes)) = some (some (.agg #[.int .i64 0, .int .i64 0]), 2, 16) := by kernel_rfl
theorem own9 : Own Try.prog 9 := own_of (by kernel_rfl)
theorem own10 : Own Try.prog 10 := own_of (by kernel_rfl)
theorem own11 : Own Try.prog 11 := own_of (by kernel_rfl)
theorem own12 : Own Try.prog 12 := own_of (by kernel_rfl)
theorem own13 : Own Try.prog 13 := own_of (by kernel_rfl)
theorem own14 : Own Try.prog 14 := own_of (by kernel_rfl)
theorem own15 : Own Try.prog 15 := own_of (by kernel_rfl)
theorem own16 : Own Try.prog 16 := own_of (by kernel_rfl)
theorem own17 : Own Try.prog 17 := own_of (by kernel_rfl)
theorem own18 : Own Try.prog 18 := own_of (by kernel_rfl)
theorem own19 : Own Try.prog 19 := own_of (by kernel_rfl)
theorem own20 : Own Try.prog 20 := own_of (by kernel_rfl)
theorem own21 : Own Try.prog 21 := own_of (by kernel_rfl)
theorem own22 : Own Try.prog 22 := own_of (by kernel_rfl)
theorem own23 : Own Try.prog 23 := own_of (by kernel_rfl)
theorem own24 : Own Try.prog 24 := own_of (by kernel_rfl)
theorem own25 : Own Try.prog 25 := own_of (by kernel_rfl)
theorem own26 : Own Try.prog 26 := own_of (by kernel_rfl)
theorem own27 : Own Try.prog 27 := own_of (by kernel_rfl)
theorem own28 : Own Try.prog 28 := own_of (by kernel_rfl)
theorem own29 : Own Try.prog 29 := own_of (by kernel_rfl)
theorem own30 : Own Try.prog 30 := own_of (by kernel_rfl)
theorem own31 : Own Try.prog 31 := own_of (by kernel_rfl)
theorem own32 : Own Try.prog 32 := own_of (by kernel_rfl)
theorem own33 : Own Try.prog 33 := own_of (by kernel_rfl)
theorem own34 : Own Try.prog 34 := own_of (by kernel_rfl)
theorem own35 : Own Try.prog 35 := own_of (by kernel_rfl)
theorem own36 : Own Try.prog 36 := own_of (by kernel_rfl)

instance : Rep Gr.Arc where
  sz := 2
  bytes := 16
  rep := fun _ a cs => cs = [.int .i64 a.From, .int .i64 a.To] ∧ I64 a.From ∧ I64 a.To
  len := fun h => by rw [h.1]; rfl
  mono := fun _ h => h
  one := fun h u hu => by
    rw [h.1] at hu
    rcases List.mem_cons.1 hu with rfl | hu
    · rfl
    · obtain rfl : u = _ := by simpa using hu
      rfl
instance : RepE Gr.Arc where
  cells := fun a => [.int .i64 a.From, .int .i64 a.To]
  wf := fun a => I64 a.From ∧ I64 a.To
  iff := Iff.rfl
theorem arcI {Φ : Hp} {arcs : List Gr.Arc} {v : Value} (h : RepSl Φ arcs v) (k : Nat) : I64 (arcs.getD k default).From ∧ I64 (arcs.getD k default).To := by
  by_cases hk : k < arcs.length
  · exact h.wfE _ (by simp [List.getD_eq_getElem?_getD, hk])
  · have : arcs.getD k default = default := by simp [List.getD_eq_getElem?_getD, Nat.le_of_not_lt hk]
    rw [this]; exact ⟨by unfold I64; exact ⟨by decide, by decide⟩, by unfold I64; exact ⟨by decide, by decide⟩⟩

set_option maxHeartbeats 400000 in
theorem Same_c (w : World) (Φ : Hp) (hΦ : Hp.le Φ (hp w)) {xs ys : List Int} {v1 v2 : Value} (h1 : RepSl Φ xs v1) (h2 : RepSl Φ ys v2) :
    Calls Try.prog 18 #[v1, v2] w fun e w' => e = .returned (.bool (decide (xs = ys))) ∧ Below w.heap.size w w' := by
  refine calls_of_AW (args := [v1, v2]) Try.func18 rfl (Nat.le_of_ble_eq_true rfl) (St ⟨w, Φ, []⟩ Φ []) (StP.init w Φ hΦ []) ?_
  show AW Try.prog 26 [] _ _ _ [(0, v1), (1, v2)] _
  have hmh1 : xs.length * 8 ≤ 140737488355328 := h1.max
  have hmh2 : ys.length * 8 ≤ 140737488355328 := h2.max
  refine AW.seq ?_
  refine AW.region ?_
  refine RW.q (v := .bool false) rfl (q_assign rfl) ?_
  refine RW.nil ?_
  refine Post.then_n ?_
  refine AW.seq ?_
  refine AW.seq ?_
  refine AW.region ?_
  refine RW.q (v := v1) rfl (q_move rfl) ?_
  refine RW.q (v := .int .i64 ((xs.length : Nat) : Int)) rfl (q_len_sl rfl h1.sl Try.underlying25) ?_
  refine RW.q (v := v2) rfl (q_move rfl) ?_
  refine RW.q (v := .int .i64 ((ys.length : Nat) : Int)) rfl (q_len_sl rfl h2.sl Try.underlying25) ?_
  refine RW.q (v := .bool (!decide (((xs.length : Nat) : Int) = ((ys.length : Nat) : Int)))) rfl (q_neq rfl rfl) ?_
  refine RW.nil ?_
  refine Post.then_n ?_
  refine AW.cond (b := !decide (((xs.length : Nat) : Int) = ((ys.length : Nat) : Int))) rfl (fun hc1 => ?_) (fun hc1 => ?_)
  · simp [-List.getD_eq_getElem?_getD] at hc1
    refine AW.seq ?_
    refine AW.region ?_
    refine RW.q (v := .bool false) rfl (q_assign rfl) ?_
    refine RW.nil ?_
    refine Post.then_n ?_
    refine AW.ret ?_
    refine Post.then_r ?_
    exact fin_val (v' := .bool false) rfl rfl rfl (by rw [decide_eq_false (fun e => hc1 (by rw [e]))])
  · simp [-List.getD_eq_getElem?_getD] at hc1
    refine AW.skip ?_
    refine Post.then_n ?_
    refine AW.seq ?_
    refine AW.seq ?_
    refine AW.region ?_
    refine RW.q (v := .int .i64 0) rfl (q_assign rfl) ?_
    refine RW.nil ?_
    refine Post.then_n ?_
    refine AW.block ?_
    refine AW.loop (fun s J m => ∃ (k : Nat), s = [(0, v1), (1, v2), (5, .int .i64 (k : Int))] ∧ J = St ⟨w, Φ, []⟩ Φ [] ∧ m = xs.length - k ∧ (k ≤ xs.length) ∧ (∀ j, j < k → xs.getD j 0 = ys.getD j 0)) (s0 := _) (J1 := _) (m0 := _) ⟨0, rfl, rfl, rfl, (by omega), (by omega)⟩ ⟨rfl, rfl, rfl, trivial⟩ (fun _ h => h) ?_
    rintro _ _ _ _ ⟨k, rfl, rfl, rfl, hk, heq⟩
    refine AW.seq ?_
    refine AW.seq ?_
    refine AW.region ?_
    refine RW.q (v := .int .i64 (k : Int)) rfl (q_move rfl) ?_
    refine RW.q (v := v1) rfl (q_move rfl) ?_
    refine RW.q (v := .int .i64 ((xs.length : Nat) : Int)) rfl (q_len_sl rfl h1.sl Try.underlying25) ?_
    refine RW.q (v := .bool (decide ((k : Int) < ((xs.length : Nat) : Int)))) rfl (q_lss rfl rfl) ?_
    refine RW.nil ?_
    refine Post.then_n ?_
    refine AW.cond (b := decide ((k : Int) < ((xs.length : Nat) : Int))) rfl (fun hc2 => ?_) (fun hc2 => ?_)
    · simp [-List.getD_eq_getElem?_getD] at hc2
      refine AW.skip ?_
      refine Post.then_n ?_
      refine AW.seq ?_
      refine AW.block ?_
      refine AW.seq ?_
      refine AW.draw (J0 := St ⟨w, Φ, []⟩ Φ []) [true, true, true, true, true, true, true, true, true] hmix (by kernel_rfl) ?_
      refine DW.q (v := v1) (fun _ h => h) rfl (q_move rfl) ?_
      refine DW.q (v := .int .i64 (k : Int)) (fun _ h => h) rfl (q_move rfl) ?_
      refine DW.q (v := .pointer (some (Value.at v1 (k * 1)))) (fun _ h => h) rfl (q_indexAddr rfl rfl h1.sl Try.underlying25 sz3 (by omega) (by omega) rfl) ?_
      refine DW.q (v := .int .i64 (xs.getD k 0)) (fun _ h => h) rfl (q_load rfl Try.underlying3 rfl (Cell.repInt h1 (by omega))) ?_
      refine DW.q (v := v2) (fun _ h => h) rfl (q_move rfl) ?_
      refine DW.q (v := .int .i64 (k : Int)) (fun _ h => h) rfl (q_move rfl) ?_
      refine DW.q (v := .pointer (some (Value.at v2 (k * 1)))) (fun _ h => h) rfl (q_indexAddr rfl rfl h2.sl Try.underlying25 sz3 (by omega) (by omega) rfl) ?_
      refine DW.q (v := .int .i64 (ys.getD k 0)) (fun _ h => h) rfl (q_load rfl Try.underlying3 rfl (Cell.repInt h2 (by omega))) ?_
      refine DW.q (v := .bool (!decide (xs.getD k 0 = ys.getD k 0))) (fun _ h => h) rfl (q_neq rfl rfl) ?_
      refine DW.nil ?_
      refine Post.then_n ?_
      refine AW.cond (b := !decide (xs.getD k 0 = ys.getD k 0)) rfl (fun hc3 => ?_) (fun hc3 => ?_)
      · simp [-List.getD_eq_getElem?_getD] at hc3
        refine AW.seq ?_
        refine AW.region ?_
        refine RW.q (v := .bool false) rfl (q_assign rfl) ?_
        refine RW.nil ?_
        refine Post.then_n ?_
        refine AW.ret ?_
        refine Post.blk_r (Post.then_r (Post.then_r (Post.blk_r (Post.then_r ?_))))
        exact fin_val (v' := .bool false) rfl rfl rfl (by rw [decide_eq_false (fun e => hc3 (by rw [e]))])
      · simp [-List.getD_eq_getElem?_getD] at hc3
        refine AW.skip ?_
        refine Post.blk_n (Post.then_n ?_)
        refine AW.region ?_
        refine RW.q (v := .int .i64 (k : Int)) rfl (q_move rfl) ?_
        refine RW.q (v := .int .i64 ((k + 1 : Nat) : Int)) rfl (q_add rfl rfl (by omega) (by unfold I64; omega)) ?_
        refine RW.q (v := .int .i64 ((k + 1 : Nat) : Int)) rfl (q_assign rfl) ?_
        refine RW.nil ?_
        exact Post.back (s' := _) (J' := _) (m' := _) (by omega) ⟨k + 1, rfl, rfl, rfl, (by omega), (Gr.lt_succ heq hc3)⟩ ⟨rfl, rfl, rfl, trivial⟩ (fun _ h => h)
    · simp [-List.getD_eq_getElem?_getD] at hc2
      refine AW.exit ?_
      refine Post.then_x (Post.then_x (Post.blk_hit (Post.then_n ?_)))
      refine AW.seq ?_
      refine AW.region ?_
      refine RW.q (v := .bool true) rfl (q_assign rfl) ?_
      refine RW.nil ?_
      refine Post.then_n ?_
      refine AW.ret ?_
      exact fin_val (v' := .bool true) rfl rfl rfl (by rw [decide_eq_true (Gr.list_ext (by omega) (fun j hj => heq j (by omega)))])

set_option maxHeartbeats 400000 in
theorem at_c (w : World) (Φ : Hp) (hΦ : Hp.le Φ (hp w)) {xs : List Int} {v1 : Value} {v : Int} (h1 : RepSl Φ xs v1) :
    Calls Try.prog 13 #[v1, .int .i64 v] w fun e w' => e = .returned (.int .i64 (Gr.atZ xs v)) ∧ Below w.heap.size w w' := by
  refine calls_of_AW (args := [v1, .int .i64 v]) Try.func13 rfl (Nat.le_of_ble_eq_true rfl) (St ⟨w, Φ, []⟩ Φ []) (StP.init w Φ hΦ []) ?_
  show AW Try.prog 19 [] _ _ _ [(0, v1), (1, .int .i64 v)] _
  have hmh1 : xs.length * 8 ≤ 140737488355328 := h1.max
  refine AW.seq ?_
  refine AW.region ?_
  refine RW.q (v := .int .i64 0) rfl (q_assign rfl) ?_
  refine RW.nil ?_
  refine Post.then_n ?_
  refine AW.seq ?_
  refine AW.seq ?_
  refine AW.region ?_
  refine RW.q (v := .int .i64 0) rfl (q_assign rfl) ?_
  refine RW.nil ?_
  refine Post.then_n ?_
  refine AW.block ?_
  refine AW.loop (fun s J m => ∃ (k : Nat), s = [(0, v1), (1, .int .i64 v), (5, .int .i64 (k : Int))] ∧ J = St ⟨w, Φ, []⟩ Φ [] ∧ m = xs.length - k ∧ (k ≤ xs.length) ∧ (∀ j, j < k → xs.getD j 0 ≠ v)) (s0 := _) (J1 := _) (m0 := _) ⟨0, rfl, rfl, rfl, (by omega), (by omega)⟩ ⟨rfl, rfl, rfl, trivial⟩ (fun _ h => h) ?_
  rintro _ _ _ _ ⟨k, rfl, rfl, rfl, hk, heq⟩
  refine AW.seq ?_
  refine AW.seq ?_
  refine AW.region ?_
  refine RW.q (v := .int .i64 (k : Int)) rfl (q_move rfl) ?_
  refine RW.q (v := v1) rfl (q_move rfl) ?_
  refine RW.q (v := .int .i64 ((xs.length : Nat) : Int)) rfl (q_len_sl rfl h1.sl Try.underlying25) ?_
  refine RW.q (v := .bool (decide ((k : Int) < ((xs.length : Nat) : Int)))) rfl (q_lss rfl rfl) ?_
  refine RW.nil ?_
  refine Post.then_n ?_
  refine AW.cond (b := decide ((k : Int) < ((xs.length : Nat) : Int))) rfl (fun hc1 => ?_) (fun hc1 => ?_)
  · simp [-List.getD_eq_getElem?_getD] at hc1
    refine AW.skip ?_
    refine Post.then_n ?_
    refine AW.seq ?_
    refine AW.block ?_
    refine AW.seq ?_
    refine AW.region ?_
    refine RW.q (v := v1) rfl (q_move rfl) ?_
    refine RW.q (v := .int .i64 (k : Int)) rfl (q_move rfl) ?_
    refine RW.q (v := .pointer (some (Value.at v1 (k * 1)))) rfl (q_indexAddr rfl rfl h1.sl Try.underlying25 sz3 (by omega) (by omega) rfl) ?_
    refine RW.q (v := .int .i64 (xs.getD k 0)) rfl (q_load rfl Try.underlying3 rfl (Cell.repInt h1 (by omega))) ?_
    refine RW.q (v := .int .i64 v) rfl (q_move rfl) ?_
    refine RW.q (v := .bool (decide (xs.getD k 0 = v))) rfl (q_eql rfl rfl) ?_
    refine RW.nil ?_
    refine Post.then_n ?_
    refine AW.cond (b := decide (xs.getD k 0 = v)) rfl (fun hc2 => ?_) (fun hc2 => ?_)
    · simp [-List.getD_eq_getElem?_getD] at hc2
      refine AW.seq ?_
      refine AW.region ?_
      refine RW.q (v := .int .i64 (k : Int)) rfl (q_move rfl) ?_
      refine RW.q (v := .int .i64 (k : Int)) rfl (q_assign rfl) ?_
      refine RW.nil ?_
      refine Post.then_n ?_
      refine AW.ret ?_
      refine Post.blk_r (Post.then_r (Post.then_r (Post.blk_r (Post.then_r ?_))))
      exact fin_val (v' := .int .i64 (k : Int)) rfl rfl rfl (by rw [Gr.atZ_hit (by omega) heq hc2])
    · simp [-List.getD_eq_getElem?_getD] at hc2
      refine AW.skip ?_
      refine Post.blk_n (Post.then_n ?_)
      refine AW.region ?_
      refine RW.q (v := .int .i64 (k : Int)) rfl (q_move rfl) ?_
      refine RW.q (v := .int .i64 ((k + 1 : Nat) : Int)) rfl (q_add rfl rfl (by omega) (by unfold I64; omega)) ?_
      refine RW.q (v := .int .i64 ((k + 1 : Nat) : Int)) rfl (q_assign rfl) ?_
      refine RW.nil ?_
      exact Post.back (s' := _) (J' := _) (m' := _) (by omega) ⟨k + 1, rfl, rfl, rfl, (by omega), (Gr.lt_succ heq hc2)⟩ ⟨rfl, rfl, rfl, trivial⟩ (fun _ h => h)
  · simp [-List.getD_eq_getElem?_getD] at hc1
    refine AW.exit ?_
    refine Post.then_x (Post.then_x (Post.blk_hit (Post.then_n ?_)))
    refine AW.seq ?_
    refine AW.region ?_
    refine RW.q (v := .int .i64 (-1)) rfl (q_assign rfl) ?_
    refine RW.nil ?_
    refine Post.then_n ?_
    refine AW.ret ?_
    exact fin_val (v' := .int .i64 (-1)) rfl rfl rfl (by rw [Gr.atZ_miss (fun j hj => heq j (by omega))])

set_option maxHeartbeats 400000 in
theorem Has_c (w : World) (Φ : Hp) (hΦ : Hp.le Φ (hp w)) {arcs : List Gr.Arc} {v1 : Value} (h1 : RepSl Φ arcs v1) {a b : Int} :
    Calls Try.prog 14 #[v1, .int .i64 a, .int .i64 b] w fun e w' => e = .returned (.bool (decide ((⟨a, b⟩ : Gr.Arc) ∈ arcs))) ∧ Below w.heap.size w w' := by
  refine calls_of_AW (args := [v1, .int .i64 a, .int .i64 b]) Try.func14 rfl (Nat.le_of_ble_eq_true rfl) (St ⟨w, Φ, []⟩ Φ []) (StP.init w Φ hΦ []) ?_
  show AW Try.prog 30 [] _ _ _ [(0, v1), (1, .int .i64 a), (2, .int .i64 b)] _
  have hmh1 : arcs.length * 16 ≤ 140737488355328 := h1.max
  refine AW.seq ?_
  refine AW.region ?_
  refine RW.q (v := .bool false) rfl (q_assign rfl) ?_
  refine RW.nil ?_
  refine Post.then_n ?_
  refine AW.seq ?_
  refine AW.seq ?_
  refine AW.region ?_
  refine RW.q (v := .int .i64 0) rfl (q_assign rfl) ?_
  refine RW.nil ?_
  refine Post.then_n ?_
  refine AW.block ?_
  refine AW.loop (fun s J m => ∃ (k : Nat), s = [(0, v1), (1, .int .i64 a), (2, .int .i64 b), (7, .int .i64 (k : Int))] ∧ J = St ⟨w, Φ, []⟩ Φ [] ∧ m = arcs.length - k ∧ (k ≤ arcs.length) ∧ (∀ j, j < k → ¬ ((arcs.getD j default).From = a ∧ (arcs.getD j default).To = b))) (s0 := _) (J1 := _) (m0 := _) ⟨0, rfl, rfl, rfl, (by omega), (by omega)⟩ ⟨rfl, rfl, rfl, rfl, trivial⟩ (fun _ h => h) ?_
  rintro _ _ _ _ ⟨k, rfl, rfl, rfl, hk, heq⟩
  refine AW.seq ?_
  refine AW.seq ?_
  refine AW.region ?_
  refine RW.q (v := .int .i64 (k : Int)) rfl (q_move rfl) ?_
  refine RW.q (v := v1) rfl (q_move rfl) ?_
  refine RW.q (v := .int .i64 ((arcs.length : Nat) : Int)) rfl (q_len_sl rfl h1.sl Try.underlying22) ?_
  refine RW.q (v := .bool (decide ((k : Int) < ((arcs.length : Nat) : Int)))) rfl (q_lss rfl rfl) ?_
  refine RW.nil ?_
  refine Post.then_n ?_
  refine AW.cond (b := decide ((k : Int) < ((arcs.length : Nat) : Int))) rfl (fun hc1 => ?_) (fun hc1 => ?_)
  · simp [-List.getD_eq_getElem?_getD] at hc1
    refine AW.skip ?_
    refine Post.then_n ?_
    refine AW.seq ?_
    refine AW.block ?_
    refine AW.seq ?_
    refine AW.region ?_
    refine RW.q (v := v1) rfl (q_move rfl) ?_
    refine RW.q (v := .int .i64 (k : Int)) rfl (q_move rfl) ?_
    refine RW.q (v := .pointer (some (Value.at v1 (k * 2)))) rfl (q_indexAddr rfl rfl h1.sl Try.underlying22 sz31 (by omega) (by omega) rfl) ?_
    refine RW.q (v := .pointer (some (Value.at v1 (k * 2 + 0)))) rfl (q_fieldAddr rfl Try.underlying31 rfl sz3 at_add) ?_
    refine RW.q (v := .int .i64 ((arcs.getD k default).From)) rfl (q_load rfl Try.underlying3 rfl (Cell.repE (j := 0) h1 (by omega) rfl)) ?_
    refine RW.q (v := .int .i64 a) rfl (q_move rfl) ?_
    refine RW.q (v := .bool (decide ((arcs.getD k default).From = a))) rfl (q_eql rfl rfl) ?_
    refine RW.q (v := .bool (decide ((arcs.getD k default).From = a))) rfl (q_move rfl) ?_
    refine RW.g (b := (decide ((arcs.getD k default).From = a))) (v := v1) rfl rfl rfl (fun h => q_move rfl) ?_
    refine RW.g (b := (decide ((arcs.getD k default).From = a))) (v := .int .i64 (k : Int)) rfl rfl rfl (fun h => q_move rfl) ?_
    refine RW.g (b := (decide ((arcs.getD k default).From = a))) (v := .pointer (some (Value.at v1 (k * 2)))) rfl rfl rfl (fun h => q_indexAddr (gv_pos h) (gv_pos h) h1.sl Try.underlying22 sz31 (by simp [-List.getD_eq_getElem?_getD] at h; omega) (by simp [-List.getD_eq_getElem?_getD] at h; omega) rfl) ?_
    refine RW.g (b := (decide ((arcs.getD k default).From = a))) (v := .pointer (some (Value.at v1 (k * 2 + 1)))) rfl rfl rfl (fun h => q_fieldAddr (gv_pos h) Try.underlying31 rfl sz3 at_add) ?_
    refine RW.g (b := (decide ((arcs.getD k default).From = a))) (v := .int .i64 ((arcs.getD k default).To)) rfl rfl rfl (fun h => q_load (gv_pos h) Try.underlying3 rfl (Cell.repE (j := 1) h1 (by simp [-List.getD_eq_getElem?_getD] at h; omega) rfl)) ?_
    refine RW.g (b := (decide ((arcs.getD k default).From = a))) (v := .int .i64 b) rfl rfl rfl (fun h => q_move rfl) ?_
    refine RW.g (b := (decide ((arcs.getD k default).From = a))) (v := .bool (decide ((arcs.getD k default).To = b))) rfl rfl rfl (fun h => q_eql (gv_pos h) (gv_pos h)) ?_
    refine RW.q (v := .bool ((decide ((arcs.getD k default).From = a)) && (decide ((arcs.getD k default).To = b)))) rfl (q_pick rfl (fun hp => (gv_pos hp).trans (pkAndT hp)) (fun hp => pkAndF hp)) ?_
    refine RW.nil ?_
    refine Post.then_n ?_
    refine AW.cond (b := (decide ((arcs.getD k default).From = a)) && (decide ((arcs.getD k default).To = b))) rfl (fun hc2 => ?_) (fun hc2 => ?_)
    · simp [-List.getD_eq_getElem?_getD] at hc2
      refine AW.seq ?_
      refine AW.region ?_
      refine RW.q (v := .bool true) rfl (q_assign rfl) ?_
      refine RW.nil ?_
      refine Post.then_n ?_
      refine AW.ret ?_
      refine Post.blk_r (Post.then_r (Post.then_r (Post.blk_r (Post.then_r ?_))))
      exact fin_val (v' := .bool true) rfl rfl rfl (by rw [decide_eq_true (Gr.has_t (by omega) hc2)])
    · simp [-List.getD_eq_getElem?_getD] at hc2
      refine AW.skip ?_
      refine Post.blk_n (Post.then_n ?_)
      refine AW.region ?_
      refine RW.q (v := .int .i64 (k : Int)) rfl (q_move rfl) ?_
      refine RW.q (v := .int .i64 ((k + 1 : Nat) : Int)) rfl (q_add rfl rfl (by omega) (by unfold I64; omega)) ?_
      refine RW.q (v := .int .i64 ((k + 1 : Nat) : Int)) rfl (q_assign rfl) ?_
      refine RW.nil ?_
      exact Post.back (s' := _) (J' := _) (m' := _) (by omega) ⟨k + 1, rfl, rfl, rfl, (by omega), (Gr.lt_succ heq (fun h => hc2 h.1 h.2))⟩ ⟨rfl, rfl, rfl, rfl, trivial⟩ (fun _ h => h)
  · simp [-List.getD_eq_getElem?_getD] at hc1
    refine AW.exit ?_
    refine Post.then_x (Post.then_x (Post.blk_hit (Post.then_n ?_)))
    refine AW.seq ?_
    refine AW.region ?_
    refine RW.q (v := .bool false) rfl (q_assign rfl) ?_
    refine RW.nil ?_
    refine Post.then_n ?_
    refine AW.ret ?_
    exact fin_val (v' := .bool false) rfl rfl rfl (by rw [decide_eq_false (Gr.has_f (fun j hj => heq j (by omega)))])

set_option maxHeartbeats 400000 in
theorem Less_c (w : World) (Φ : Hp) (hΦ : Hp.le Φ (hp w)) {xs ys : List Int} {v1 v2 : Value} (h1 : RepSl Φ xs v1) (h2 : RepSl Φ ys v2) (hl : xs.length = ys.length) :
    Calls Try.prog 16 #[v1, v2] w fun e w' => e = .returned (.bool (Gr.lessB xs ys)) ∧ Below w.heap.size w w' := by
  refine calls_of_AW (args := [v1, v2]) Try.func16 rfl (Nat.le_of_ble_eq_true rfl) (St ⟨w, Φ, []⟩ Φ []) (StP.init w Φ hΦ []) ?_
  show AW Try.prog 30 [] _ _ _ [(0, v1), (1, v2)] _
  have hmh1 : xs.length * 8 ≤ 140737488355328 := h1.max
  have hmh2 : ys.length * 8 ≤ 140737488355328 := h2.max
  refine AW.seq ?_
  refine AW.region ?_
  refine RW.q (v := .bool false) rfl (q_assign rfl) ?_
  refine RW.nil ?_
  refine Post.then_n ?_
  refine AW.seq ?_
  refine AW.seq ?_
  refine AW.region ?_
  refine RW.q (v := .int .i64 0) rfl (q_assign rfl) ?_
  refine RW.nil ?_
  refine Post.then_n ?_
  refine AW.block ?_
  refine AW.loop (fun s J m => ∃ (k : Nat), s = [(0, v1), (1, v2), (5, .int .i64 (k : Int))] ∧ J = St ⟨w, Φ, []⟩ Φ [] ∧ m = xs.length - k ∧ (k ≤ xs.length) ∧ (∀ j, j < k → xs.getD j 0 = ys.getD j 0)) (s0 := _) (J1 := _) (m0 := _) ⟨0, rfl, rfl, rfl, (by omega), (by omega)⟩ ⟨rfl, rfl, rfl, trivial⟩ (fun _ h => h) ?_
  rintro _ _ _ _ ⟨k, rfl, rfl, rfl, hk, heq⟩
  refine AW.seq ?_
  refine AW.seq ?_
  refine AW.region ?_
  refine RW.q (v := .int .i64 (k : Int)) rfl (q_move rfl) ?_
  refine RW.q (v := v1) rfl (q_move rfl) ?_
  refine RW.q (v := .int .i64 ((xs.length : Nat) : Int)) rfl (q_len_sl rfl h1.sl Try.underlying25) ?_
  refine RW.q (v := .bool (decide ((k : Int) < ((xs.length : Nat) : Int)))) rfl (q_lss rfl rfl) ?_
  refine RW.nil ?_
  refine Post.then_n ?_
  refine AW.cond (b := decide ((k : Int) < ((xs.length : Nat) : Int))) rfl (fun hc1 => ?_) (fun hc1 => ?_)
  · simp [-List.getD_eq_getElem?_getD] at hc1
    refine AW.skip ?_
    refine Post.then_n ?_
    refine AW.seq ?_
    refine AW.block ?_
    refine AW.seq ?_
    refine AW.draw (J0 := St ⟨w, Φ, []⟩ Φ []) [true, true, true, true, true, true, true, true, true] hmix (by kernel_rfl) ?_
    refine DW.q (v := v1) (fun _ h => h) rfl (q_move rfl) ?_
    refine DW.q (v := .int .i64 (k : Int)) (fun _ h => h) rfl (q_move rfl) ?_
    refine DW.q (v := .pointer (some (Value.at v1 (k * 1)))) (fun _ h => h) rfl (q_indexAddr rfl rfl h1.sl Try.underlying25 sz3 (by omega) (by omega) rfl) ?_
    refine DW.q (v := .int .i64 (xs.getD k 0)) (fun _ h => h) rfl (q_load rfl Try.underlying3 rfl (Cell.repInt h1 (by omega))) ?_
    refine DW.q (v := v2) (fun _ h => h) rfl (q_move rfl) ?_
    refine DW.q (v := .int .i64 (k : Int)) (fun _ h => h) rfl (q_move rfl) ?_
    refine DW.q (v := .pointer (some (Value.at v2 (k * 1)))) (fun _ h => h) rfl (q_indexAddr rfl rfl h2.sl Try.underlying25 sz3 (by omega) (by omega) rfl) ?_
    refine DW.q (v := .int .i64 (ys.getD k 0)) (fun _ h => h) rfl (q_load rfl Try.underlying3 rfl (Cell.repInt h2 (by omega))) ?_
    refine DW.q (v := .bool (!decide (xs.getD k 0 = ys.getD k 0))) (fun _ h => h) rfl (q_neq rfl rfl) ?_
    refine DW.nil ?_
    refine Post.then_n ?_
    refine AW.cond (b := !decide (xs.getD k 0 = ys.getD k 0)) rfl (fun hc2 => ?_) (fun hc2 => ?_)
    · simp [-List.getD_eq_getElem?_getD] at hc2
      refine AW.seq ?_
      refine AW.draw (J0 := St ⟨w, Φ, []⟩ Φ []) [true, true, true, true, true, true, true, true, true, true] hmix (by kernel_rfl) ?_
      refine DW.q (v := v1) (fun _ h => h) rfl (q_move rfl) ?_
      refine DW.q (v := .int .i64 (k : Int)) (fun _ h => h) rfl (q_move rfl) ?_
      refine DW.q (v := .pointer (some (Value.at v1 (k * 1)))) (fun _ h => h) rfl (q_indexAddr rfl rfl h1.sl Try.underlying25 sz3 (by omega) (by omega) rfl) ?_
      refine DW.q (v := .int .i64 (xs.getD k 0)) (fun _ h => h) rfl (q_load rfl Try.underlying3 rfl (Cell.repInt h1 (by omega))) ?_
      refine DW.q (v := v2) (fun _ h => h) rfl (q_move rfl) ?_
      refine DW.q (v := .int .i64 (k : Int)) (fun _ h => h) rfl (q_move rfl) ?_
      refine DW.q (v := .pointer (some (Value.at v2 (k * 1)))) (fun _ h => h) rfl (q_indexAddr rfl rfl h2.sl Try.underlying25 sz3 (by omega) (by omega) rfl) ?_
      refine DW.q (v := .int .i64 (ys.getD k 0)) (fun _ h => h) rfl (q_load rfl Try.underlying3 rfl (Cell.repInt h2 (by omega))) ?_
      refine DW.q (v := .bool (decide (xs.getD k 0 < ys.getD k 0))) (fun _ h => h) rfl (q_lss rfl rfl) ?_
      refine DW.q (v := .bool (decide (xs.getD k 0 < ys.getD k 0))) (fun _ h => h) rfl (q_assign rfl) ?_
      refine DW.nil ?_
      refine Post.then_n ?_
      refine AW.ret ?_
      refine Post.blk_r (Post.then_r (Post.then_r (Post.blk_r (Post.then_r ?_))))
      exact fin_val (v' := .bool (decide (xs.getD k 0 < ys.getD k 0))) rfl rfl rfl (by rw [Gr.less_hit (by omega) (by omega) heq hc2])
    · simp [-List.getD_eq_getElem?_getD] at hc2
      refine AW.skip ?_
      refine Post.blk_n (Post.then_n ?_)
      refine AW.region ?_
      refine RW.q (v := .int .i64 (k : Int)) rfl (q_move rfl) ?_
      refine RW.q (v := .int .i64 ((k + 1 : Nat) : Int)) rfl (q_add rfl rfl (by omega) (by unfold I64; omega)) ?_
      refine RW.q (v := .int .i64 ((k + 1 : Nat) : Int)) rfl (q_assign rfl) ?_
      refine RW.nil ?_
      exact Post.back (s' := _) (J' := _) (m' := _) (by omega) ⟨k + 1, rfl, rfl, rfl, (by omega), (Gr.lt_succ heq hc2)⟩ ⟨rfl, rfl, rfl, trivial⟩ (fun _ h => h)
  · simp [-List.getD_eq_getElem?_getD] at hc1
    refine AW.exit ?_
    refine Post.then_x (Post.then_x (Post.blk_hit (Post.then_n ?_)))
    refine AW.seq ?_
    refine AW.region ?_
    refine RW.q (v := .bool false) rfl (q_assign rfl) ?_
    refine RW.nil ?_
    refine Post.then_n ?_
    refine AW.ret ?_
    exact fin_val (v' := .bool false) rfl rfl rfl (by rw [Gr.less_miss (fun j hj => heq j (by omega))])

set_option maxHeartbeats 400000 in
theorem few_c (w : World) (Φ : Hp) (hΦ : Hp.le Φ (hp w)) {arcs : List Gr.Arc} {v1 : Value} (h1 : RepSl Φ arcs v1) {n : Int} :
    Calls Try.prog 15 #[.int .i64 n, v1] w fun e w' => e = .returned (.bool (decide (n ≤ 16) && decide ((arcs.length : Int) ≤ 40))) ∧ Below w.heap.size w w' := by
  refine calls_of_AW (args := [.int .i64 n, v1]) Try.func15 rfl (Nat.le_of_ble_eq_true rfl) (St ⟨w, Φ, []⟩ Φ []) (StP.init w Φ hΦ []) ?_
  show AW Try.prog 12 [] _ _ _ [(0, .int .i64 n), (1, v1)] _
  refine AW.seq ?_
  refine AW.region ?_
  refine RW.q (v := .bool false) rfl (q_assign rfl) ?_
  refine RW.nil ?_
  refine Post.then_n ?_
  refine AW.seq ?_
  refine AW.region ?_
  refine RW.q (v := .int .i64 n) rfl (q_move rfl) ?_
  refine RW.q (v := .bool (decide (n ≤ 16))) rfl (q_leq rfl rfl) ?_
  refine RW.q (v := .bool (decide (n ≤ 16))) rfl (q_move rfl) ?_
  refine RW.g (b := (decide (n ≤ 16))) (v := v1) rfl rfl rfl (fun h => q_move rfl) ?_
  refine RW.g (b := (decide (n ≤ 16))) (v := .int .i64 ((arcs.length : Nat) : Int)) rfl rfl rfl (fun h => q_len_sl (gv_pos h) h1.sl Try.underlying22) ?_
  refine RW.g (b := (decide (n ≤ 16))) (v := .bool (decide (((arcs.length : Nat) : Int) ≤ 40))) rfl rfl rfl (fun h => q_leq (gv_pos h) rfl) ?_
  refine RW.q (v := .bool ((decide (n ≤ 16)) && (decide (((arcs.length : Nat) : Int) ≤ 40)))) rfl (q_pick rfl (fun hp => (gv_pos hp).trans (pkAndT hp)) (fun hp => pkAndF hp)) ?_
  refine RW.q (v := .bool ((decide (n ≤ 16)) && (decide (((arcs.length : Nat) : Int) ≤ 40)))) rfl (q_assign rfl) ?_
  refine RW.nil ?_
  refine Post.then_n ?_
  refine AW.ret ?_
  exact fin_val (v' := .bool ((decide (n ≤ 16)) && (decide (((arcs.length : Nat) : Int) ≤ 40)))) rfl rfl rfl (rfl)

set_option maxHeartbeats 400000 in
theorem rRight_c (w : World) (Φ : Hp) (hΦ : Hp.le Φ (hp w)) {arcs : List Gr.Arc} {v1 : Value} (h1 : RepSl Φ arcs v1) {n : Int} :
    Calls Try.prog 22 #[.int .i64 n, v1] w fun e w' => e = .returned (.bool (Gr.rightB n arcs)) ∧ Below w.heap.size w w' := by
  refine calls_of_AW (args := [.int .i64 n, v1]) Try.func22 rfl (Nat.le_of_ble_eq_true rfl) (St ⟨w, Φ, []⟩ Φ []) (StP.init w Φ hΦ []) ?_
  show AW Try.prog 55 [] _ _ _ [(0, .int .i64 n), (1, v1)] _
  have hmh1 : arcs.length * 16 ≤ 140737488355328 := h1.max
  refine AW.seq ?_
  refine AW.region ?_
  refine RW.q (v := .bool false) rfl (q_assign rfl) ?_
  refine RW.nil ?_
  refine Post.then_n ?_
  refine AW.seq ?_
  refine AW.seq ?_
  refine AW.region ?_
  refine RW.q (v := .int .i64 n) rfl (q_move rfl) ?_
  refine RW.q (v := .bool (decide (n < 0))) rfl (q_lss rfl rfl) ?_
  refine RW.q (v := .bool (decide (n < 0))) rfl (q_move rfl) ?_
  refine RW.g (b := (decide (n < 0))) (v := .int .i64 n) rfl rfl rfl (fun h => q_move rfl) ?_
  refine RW.g (b := (decide (n < 0))) (v := .bool (decide ((256 : Int) < n))) rfl rfl rfl (fun h => q_gtr (gv_pos h) rfl) ?_
  refine RW.q (v := .bool ((decide (n < 0)) || (decide ((256 : Int) < n)))) rfl (q_pick rfl (fun hp => pkOrT hp) (fun hp => (gv_pos hp).trans (pkOrF hp))) ?_
  refine RW.q (v := .bool ((decide (n < 0)) || (decide ((256 : Int) < n)))) rfl (q_move rfl) ?_
  refine RW.g (b := ((decide (n < 0)) || (decide ((256 : Int) < n)))) (v := v1) rfl rfl rfl (fun h => q_move rfl) ?_
  refine RW.g (b := ((decide (n < 0)) || (decide ((256 : Int) < n)))) (v := .int .i64 ((arcs.length : Nat) : Int)) rfl rfl rfl (fun h => q_len_sl (gv_pos h) h1.sl Try.underlying22) ?_
  refine RW.g (b := ((decide (n < 0)) || (decide ((256 : Int) < n)))) (v := .bool (decide ((4096 : Int) < ((arcs.length : Nat) : Int)))) rfl rfl rfl (fun h => q_gtr (gv_pos h) rfl) ?_
  refine RW.q (v := .bool (((decide (n < 0)) || (decide ((256 : Int) < n))) || (decide ((4096 : Int) < ((arcs.length : Nat) : Int))))) rfl (q_pick rfl (fun hp => pkOrT hp) (fun hp => (gv_pos hp).trans (pkOrF hp))) ?_
  refine RW.nil ?_
  refine Post.then_n ?_
  refine AW.cond (b := ((decide (n < 0)) || (decide ((256 : Int) < n))) || (decide ((4096 : Int) < ((arcs.length : Nat) : Int)))) rfl (fun hc1 => ?_) (fun hc1 => ?_)
  · simp [-List.getD_eq_getElem?_getD] at hc1
    refine AW.seq ?_
    refine AW.region ?_
    refine RW.q (v := .bool false) rfl (q_assign rfl) ?_
    refine RW.nil ?_
    refine Post.then_n ?_
    refine AW.ret ?_
    refine Post.then_r ?_
    exact fin_val (v' := .bool false) rfl rfl rfl (by rw [Gr.right_f1 (by omega)])
  · simp [-List.getD_eq_getElem?_getD] at hc1
    refine AW.skip ?_
    refine Post.then_n ?_
    refine AW.seq ?_
    refine AW.seq ?_
    refine AW.region ?_
    refine RW.q (v := .int .i64 0) rfl (q_assign rfl) ?_
    refine RW.nil ?_
    refine Post.then_n ?_
    refine AW.block ?_
    refine AW.loop (fun s J m => ∃ (k : Nat), s = [(0, .int .i64 n), (1, v1), (5, .int .i64 (k : Int))] ∧ J = St ⟨w, Φ, []⟩ Φ [] ∧ m = arcs.length - k ∧ (k ≤ arcs.length) ∧ (∀ j, j < k → 0 ≤ (arcs.getD j default).From ∧ (arcs.getD j default).From < n ∧ 0 ≤ (arcs.getD j default).To ∧ (arcs.getD j default).To < n)) (s0 := _) (J1 := _) (m0 := _) ⟨0, rfl, rfl, rfl, (by omega), (by omega)⟩ ⟨rfl, rfl, rfl, trivial⟩ (fun _ h => h) ?_
    rintro _ _ _ _ ⟨k, rfl, rfl, rfl, hk, heq⟩
    refine AW.seq ?_
    refine AW.seq ?_
    refine AW.region ?_
    refine RW.q (v := .int .i64 (k : Int)) rfl (q_move rfl) ?_
    refine RW.q (v := v1) rfl (q_move rfl) ?_
    refine RW.q (v := .int .i64 ((arcs.length : Nat) : Int)) rfl (q_len_sl rfl h1.sl Try.underlying22) ?_
    refine RW.q (v := .bool (decide ((k : Int) < ((arcs.length : Nat) : Int)))) rfl (q_lss rfl rfl) ?_
    refine RW.nil ?_
    refine Post.then_n ?_
    refine AW.cond (b := decide ((k : Int) < ((arcs.length : Nat) : Int))) rfl (fun hc2 => ?_) (fun hc2 => ?_)
    · simp [-List.getD_eq_getElem?_getD] at hc2
      refine AW.skip ?_
      refine Post.then_n ?_
      refine AW.seq ?_
      refine AW.block ?_
      refine AW.seq ?_
      refine AW.region ?_
      refine RW.q (v := v1) rfl (q_move rfl) ?_
      refine RW.q (v := .int .i64 (k : Int)) rfl (q_move rfl) ?_
      refine RW.q (v := .pointer (some (Value.at v1 (k * 2)))) rfl (q_indexAddr rfl rfl h1.sl Try.underlying22 sz31 (by omega) (by omega) rfl) ?_
      refine RW.q (v := .pointer (some (Value.at v1 (k * 2 + 0)))) rfl (q_fieldAddr rfl Try.underlying31 rfl sz3 at_add) ?_
      refine RW.q (v := .int .i64 ((arcs.getD k default).From)) rfl (q_load rfl Try.underlying3 rfl (Cell.repE (j := 0) h1 (by omega) rfl)) ?_
      refine RW.q (v := .bool (decide ((arcs.getD k default).From < 0))) rfl (q_lss rfl rfl) ?_
      refine RW.q (v := .bool (decide ((arcs.getD k default).From < 0))) rfl (q_move rfl) ?_
      refine RW.g (b := (decide ((arcs.getD k default).From < 0))) (v := v1) rfl rfl rfl (fun h => q_move rfl) ?_
      refine RW.g (b := (decide ((arcs.getD k default).From < 0))) (v := .int .i64 (k : Int)) rfl rfl rfl (fun h => q_move rfl) ?_
      refine RW.g (b := (decide ((arcs.getD k default).From < 0))) (v := .pointer (some (Value.at v1 (k * 2)))) rfl rfl rfl (fun h => q_indexAddr (gv_pos h) (gv_pos h) h1.sl Try.underlying22 sz31 (by simp [-List.getD_eq_getElem?_getD] at h; omega) (by simp [-List.getD_eq_getElem?_getD] at h; omega) rfl) ?_
      refine RW.g (b := (decide ((arcs.getD k default).From < 0))) (v := .pointer (some (Value.at v1 (k * 2 + 0)))) rfl rfl rfl (fun h => q_fieldAddr (gv_pos h) Try.underlying31 rfl sz3 at_add) ?_
      refine RW.g (b := (decide ((arcs.getD k default).From < 0))) (v := .int .i64 ((arcs.getD k default).From)) rfl rfl rfl (fun h => q_load (gv_pos h) Try.underlying3 rfl (Cell.repE (j := 0) h1 (by simp [-List.getD_eq_getElem?_getD] at h; omega) rfl)) ?_
      refine RW.g (b := (decide ((arcs.getD k default).From < 0))) (v := .int .i64 n) rfl rfl rfl (fun h => q_move rfl) ?_
      refine RW.g (b := (decide ((arcs.getD k default).From < 0))) (v := .bool (decide (n ≤ (arcs.getD k default).From))) rfl rfl rfl (fun h => q_geq (gv_pos h) (gv_pos h)) ?_
      refine RW.q (v := .bool ((decide ((arcs.getD k default).From < 0)) || (decide (n ≤ (arcs.getD k default).From)))) rfl (q_pick rfl (fun hp => pkOrT hp) (fun hp => (gv_pos hp).trans (pkOrF hp))) ?_
      refine RW.q (v := .bool ((decide ((arcs.getD k default).From < 0)) || (decide (n ≤ (arcs.getD k default).From)))) rfl (q_move rfl) ?_
      refine RW.g (b := ((decide ((arcs.getD k default).From < 0)) || (decide (n ≤ (arcs.getD k default).From)))) (v := v1) rfl rfl rfl (fun h => q_move rfl) ?_
      refine RW.g (b := ((decide ((arcs.getD k default).From < 0)) || (decide (n ≤ (arcs.getD k default).From)))) (v := .int .i64 (k : Int)) rfl rfl rfl (fun h => q_move rfl) ?_
      refine RW.g (b := ((decide ((arcs.getD k default).From < 0)) || (decide (n ≤ (arcs.getD k default).From)))) (v := .pointer (some (Value.at v1 (k * 2)))) rfl rfl rfl (fun h => q_indexAddr (gv_pos h) (gv_pos h) h1.sl Try.underlying22 sz31 (by simp [-List.getD_eq_getElem?_getD] at h; omega) (by simp [-List.getD_eq_getElem?_getD] at h; omega) rfl) ?_
      refine RW.g (b := ((decide ((arcs.getD k default).From < 0)) || (decide (n ≤ (arcs.getD k default).From)))) (v := .pointer (some (Value.at v1 (k * 2 + 1)))) rfl rfl rfl (fun h => q_fieldAddr (gv_pos h) Try.underlying31 rfl sz3 at_add) ?_
      refine RW.g (b := ((decide ((arcs.getD k default).From < 0)) || (decide (n ≤ (arcs.getD k default).From)))) (v := .int .i64 ((arcs.getD k default).To)) rfl rfl rfl (fun h => q_load (gv_pos h) Try.underlying3 rfl (Cell.repE (j := 1) h1 (by simp [-List.getD_eq_getElem?_getD] at h; omega) rfl)) ?_
      refine RW.g (b := ((decide ((arcs.getD k default).From < 0)) || (decide (n ≤ (arcs.getD k default).From)))) (v := .bool (decide ((arcs.getD k default).To < 0))) rfl rfl rfl (fun h => q_lss (gv_pos h) rfl) ?_
      refine RW.q (v := .bool (((decide ((arcs.getD k default).From < 0)) || (decide (n ≤ (arcs.getD k default).From))) || (decide ((arcs.getD k default).To < 0)))) rfl (q_pick rfl (fun hp => pkOrT hp) (fun hp => (gv_pos hp).trans (pkOrF hp))) ?_
      refine RW.q (v := .bool (((decide ((arcs.getD k default).From < 0)) || (decide (n ≤ (arcs.getD k default).From))) || (decide ((arcs.getD k default).To < 0)))) rfl (q_move rfl) ?_
      refine RW.g (b := (((decide ((arcs.getD k default).From < 0)) || (decide (n ≤ (arcs.getD k default).From))) || (decide ((arcs.getD k default).To < 0)))) (v := v1) rfl rfl rfl (fun h => q_move rfl) ?_
      refine RW.g (b := (((decide ((arcs.getD k default).From < 0)) || (decide (n ≤ (arcs.getD k default).From))) || (decide ((arcs.getD k default).To < 0)))) (v := .int .i64 (k : Int)) rfl rfl rfl (fun h => q_move rfl) ?_
      refine RW.g (b := (((decide ((arcs.getD k default).From < 0)) || (decide (n ≤ (arcs.getD k default).From))) || (decide ((arcs.getD k default).To < 0)))) (v := .pointer (some (Value.at v1 (k * 2)))) rfl rfl rfl (fun h => q_indexAddr (gv_pos h) (gv_pos h) h1.sl Try.underlying22 sz31 (by simp [-List.getD_eq_getElem?_getD] at h; omega) (by simp [-List.getD_eq_getElem?_getD] at h; omega) rfl) ?_
      refine RW.g (b := (((decide ((arcs.getD k default).From < 0)) || (decide (n ≤ (arcs.getD k default).From))) || (decide ((arcs.getD k default).To < 0)))) (v := .pointer (some (Value.at v1 (k * 2 + 1)))) rfl rfl rfl (fun h => q_fieldAddr (gv_pos h) Try.underlying31 rfl sz3 at_add) ?_
      refine RW.g (b := (((decide ((arcs.getD k default).From < 0)) || (decide (n ≤ (arcs.getD k default).From))) || (decide ((arcs.getD k default).To < 0)))) (v := .int .i64 ((arcs.getD k default).To)) rfl rfl rfl (fun h => q_load (gv_pos h) Try.underlying3 rfl (Cell.repE (j := 1) h1 (by simp [-List.getD_eq_getElem?_getD] at h; omega) rfl)) ?_
      refine RW.g (b := (((decide ((arcs.getD k default).From < 0)) || (decide (n ≤ (arcs.getD k default).From))) || (decide ((arcs.getD k default).To < 0)))) (v := .int .i64 n) rfl rfl rfl (fun h => q_move rfl) ?_
      refine RW.g (b := (((decide ((arcs.getD k default).From < 0)) || (decide (n ≤ (arcs.getD k default).From))) || (decide ((arcs.getD k default).To < 0)))) (v := .bool (decide (n ≤ (arcs.getD k default).To))) rfl rfl rfl (fun h => q_geq (gv_pos h) (gv_pos h)) ?_
      refine RW.q (v := .bool ((((decide ((arcs.getD k default).From < 0)) || (decide (n ≤ (arcs.getD k default).From))) || (decide ((arcs.getD k default).To < 0))) || (decide (n ≤ (arcs.getD k default).To)))) rfl (q_pick rfl (fun hp => pkOrT hp) (fun hp => (gv_pos hp).trans (pkOrF hp))) ?_
      refine RW.nil ?_
      refine Post.then_n ?_
      refine AW.cond (b := (((decide ((arcs.getD k default).From < 0)) || (decide (n ≤ (arcs.getD k default).From))) || (decide ((arcs.getD k default).To < 0))) || (decide (n ≤ (arcs.getD k default).To))) rfl (fun hc3 => ?_) (fun hc3 => ?_)
      · simp [-List.getD_eq_getElem?_getD] at hc3
        refine AW.seq ?_
        refine AW.region ?_
        refine RW.q (v := .bool false) rfl (q_assign rfl) ?_
        refine RW.nil ?_
        refine Post.then_n ?_
        refine AW.ret ?_
        refine Post.blk_r (Post.then_r (Post.then_r (Post.blk_r (Post.then_r ?_))))
        exact fin_val (v' := .bool false) rfl rfl rfl (by rw [Gr.right_f2 (k := k) (by omega) (by omega)])
      · simp [-List.getD_eq_getElem?_getD] at hc3
        refine AW.skip ?_
        refine Post.blk_n (Post.then_n ?_)
        refine AW.region ?_
        refine RW.q (v := .int .i64 (k : Int)) rfl (q_move rfl) ?_
        refine RW.q (v := .int .i64 ((k + 1 : Nat) : Int)) rfl (q_add rfl rfl (by omega) (by unfold I64; omega)) ?_
        refine RW.q (v := .int .i64 ((k + 1 : Nat) : Int)) rfl (q_assign rfl) ?_
        refine RW.nil ?_
        exact Post.back (s' := _) (J' := _) (m' := _) (by omega) ⟨k + 1, rfl, rfl, rfl, (by omega), (Gr.lt_succ heq (by omega))⟩ ⟨rfl, rfl, rfl, trivial⟩ (fun _ h => h)
    · simp [-List.getD_eq_getElem?_getD] at hc2
      refine AW.exit ?_
      refine Post.then_x (Post.then_x (Post.blk_hit (Post.then_n ?_)))
      refine AW.seq ?_
      refine AW.region ?_
      refine RW.q (v := .bool true) rfl (q_assign rfl) ?_
      refine RW.nil ?_
      refine Post.then_n ?_
      refine AW.ret ?_
      exact fin_val (v' := .bool true) rfl rfl rfl (by rw [Gr.right_t (by omega) (fun j hj => heq j (by omega))])

set_option maxHeartbeats 400000 in
theorem Right_c (w : World) (Φ : Hp) (hΦ : Hp.le Φ (hp w)) {arcs : List Gr.Arc} {v1 : Value} (h1 : RepSl Φ arcs v1) {n : Int} :
    Calls Try.prog 10 #[.int .i64 n, v1] w fun e w' => e = .returned (.bool (Gr.rightB n arcs)) ∧ Below w.heap.size w w' := by
  refine calls_of_AW (args := [.int .i64 n, v1]) Try.func10 rfl (Nat.le_of_ble_eq_true rfl) (St ⟨w, Φ, []⟩ Φ []) (StP.init w Φ hΦ []) ?_
  show AW Try.prog 45 [] _ _ _ [(0, .int .i64 n), (1, v1)] _
  have hmh1 : arcs.length * 16 ≤ 140737488355328 := h1.max
  refine AW.seq ?_
  refine AW.region ?_
  refine RW.q (v := .bool false) rfl (q_assign rfl) ?_
  refine RW.nil ?_
  refine Post.then_n ?_
  refine AW.seq ?_
  refine AW.seq ?_
  refine AW.region ?_
  refine RW.q (v := .int .i64 n) rfl (q_move rfl) ?_
  refine RW.q (v := .bool (decide (n < 0))) rfl (q_lss rfl rfl) ?_
  refine RW.q (v := .bool (decide (n < 0))) rfl (q_move rfl) ?_
  refine RW.g (b := (decide (n < 0))) (v := .int .i64 n) rfl rfl rfl (fun h => q_move rfl) ?_
  refine RW.g (b := (decide (n < 0))) (v := .bool (decide ((256 : Int) < n))) rfl rfl rfl (fun h => q_gtr (gv_pos h) rfl) ?_
  refine RW.q (v := .bool ((decide (n < 0)) || (decide ((256 : Int) < n)))) rfl (q_pick rfl (fun hp => pkOrT hp) (fun hp => (gv_pos hp).trans (pkOrF hp))) ?_
  refine RW.q (v := .bool ((decide (n < 0)) || (decide ((256 : Int) < n)))) rfl (q_move rfl) ?_
  refine RW.g (b := ((decide (n < 0)) || (decide ((256 : Int) < n)))) (v := v1) rfl rfl rfl (fun h => q_move rfl) ?_
  refine RW.g (b := ((decide (n < 0)) || (decide ((256 : Int) < n)))) (v := .int .i64 ((arcs.length : Nat) : Int)) rfl rfl rfl (fun h => q_len_sl (gv_pos h) h1.sl Try.underlying22) ?_
  refine RW.g (b := ((decide (n < 0)) || (decide ((256 : Int) < n)))) (v := .bool (decide ((4096 : Int) < ((arcs.length : Nat) : Int)))) rfl rfl rfl (fun h => q_gtr (gv_pos h) rfl) ?_
  refine RW.q (v := .bool (((decide (n < 0)) || (decide ((256 : Int) < n))) || (decide ((4096 : Int) < ((arcs.length : Nat) : Int))))) rfl (q_pick rfl (fun hp => pkOrT hp) (fun hp => (gv_pos hp).trans (pkOrF hp))) ?_
  refine RW.nil ?_
  refine Post.then_n ?_
  refine AW.cond (b := ((decide (n < 0)) || (decide ((256 : Int) < n))) || (decide ((4096 : Int) < ((arcs.length : Nat) : Int)))) rfl (fun hc1 => ?_) (fun hc1 => ?_)
  · simp [-List.getD_eq_getElem?_getD] at hc1
    refine AW.seq ?_
    refine AW.region ?_
    refine RW.q (v := .bool false) rfl (q_assign rfl) ?_
    refine RW.nil ?_
    refine Post.then_n ?_
    refine AW.ret ?_
    refine Post.then_r ?_
    exact fin_val (v' := .bool false) rfl rfl rfl (by rw [Gr.right_f1 (by omega)])
  · simp [-List.getD_eq_getElem?_getD] at hc1
    refine AW.skip ?_
    refine Post.then_n ?_
    refine AW.seq ?_
    refine AW.seq ?_
    refine AW.region ?_
    refine RW.q (v := v1) rfl (q_move rfl) ?_
    refine RW.q (v := .int .i64 ((arcs.length : Nat) : Int)) rfl (q_len_sl rfl h1.sl Try.underlying22) ?_
    refine RW.q (v := .int .i64 0) rfl (q_move rfl) ?_
    refine RW.nil ?_
    refine Post.then_n ?_
    refine AW.block ?_
    refine AW.loop (fun s J m => ∃ (k : Nat), s = [(0, .int .i64 n), (1, v1), (18, v1), (19, .int .i64 ((arcs.length : Nat) : Int)), (20, .int .i64 (k : Int))] ∧ J = St ⟨w, Φ, []⟩ Φ [] ∧ m = arcs.length - k ∧ (k ≤ arcs.length) ∧ (∀ j, j < k → 0 ≤ (arcs.getD j default).From ∧ (arcs.getD j default).From < n ∧ 0 ≤ (arcs.getD j default).To ∧ (arcs.getD j default).To < n)) (s0 := _) (J1 := _) (m0 := _) ⟨0, rfl, rfl, rfl, (by omega), (by omega)⟩ ⟨rfl, rfl, rfl, rfl, rfl, trivial⟩ (fun _ h => h) ?_
    rintro _ _ _ _ ⟨k, rfl, rfl, rfl, hk, heq⟩
    refine AW.seq ?_
    refine AW.region ?_
    refine RW.q (v := .bool (decide ((k : Int) < ((arcs.length : Nat) : Int)))) rfl (q_lss rfl rfl) ?_
    refine RW.nil ?_
    refine Post.then_n ?_
    refine AW.seq ?_
    refine AW.cond (b := decide ((k : Int) < ((arcs.length : Nat) : Int))) rfl (fun hc2 => ?_) (fun hc2 => ?_)
    · simp [-List.getD_eq_getElem?_getD] at hc2
      refine AW.skip ?_
      refine Post.then_n ?_
      refine AW.seq ?_
      refine AW.block ?_
      refine AW.seq ?_
      refine AW.region ?_
      refine RW.q (v := .pointer (some (Value.at v1 (k * 2)))) rfl (q_indexAddr rfl rfl h1.sl Try.underlying22 sz31 (by omega) (by omega) rfl) ?_
      refine RW.q (v := .agg #[.int .i64 ((arcs.getD k default).From), .int .i64 ((arcs.getD k default).To)]) rfl (q_loadAgg rfl Try.underlying31 rfl sz31 rfl (Cells.repE h1 (by omega) rfl)) ?_
      refine RW.eff (fun b1 : Nat => .pointer (some (⟨b1, 0, none⟩))) (fun b1 => St ⟨w, Φ, []⟩ Φ [.blk b1 31 [.int .i64 0, .int .i64 0]]) rfl (e_alloc zero31) ?_
      intro b1
      refine RW.effn (J' := St ⟨w, Φ, []⟩ Φ [.blk b1 31 [.int .i64 ((arcs.getD k default).From), .int .i64 ((arcs.getD k default).To)]]) (e_store (v := .agg #[.int .i64 ((arcs.getD k default).From), .int .i64 ((arcs.getD k default).To)]) 0 rfl rfl rfl sz31 rfl rfl rfl rfl rfl) ?_
      refine RW.nil ?_
      refine Post.then_n ?_
      refine AW.seq ?_
      refine AW.region ?_
      refine RW.q (v := .pointer (some (⟨b1, 0, none⟩))) rfl (q_fieldAddr rfl Try.underlying31 rfl sz3 rfl) ?_
      refine RW.q (v := .int .i64 ((arcs.getD k default).From)) rfl (q_load rfl Try.underlying3 rfl (Cell.blk 0 rfl rfl)) ?_
      refine RW.q (v := .bool (decide ((arcs.getD k default).From < 0))) rfl (q_lss rfl rfl) ?_
      refine RW.q (v := .bool (decide ((arcs.getD k default).From < 0))) rfl (q_move rfl) ?_
      refine RW.g (b := (decide ((arcs.getD k default).From < 0))) (v := .pointer (some (⟨b1, 0, none⟩))) rfl rfl rfl (fun h => q_fieldAddr rfl Try.underlying31 rfl sz3 rfl) ?_
      refine RW.g (b := (decide ((arcs.getD k default).From < 0))) (v := .int .i64 ((arcs.getD k default).From)) rfl rfl rfl (fun h => q_load (gv_pos h) Try.underlying3 rfl (Cell.blk 0 rfl rfl)) ?_
      refine RW.g (b := (decide ((arcs.getD k default).From < 0))) (v := .int .i64 n) rfl rfl rfl (fun h => q_move rfl) ?_
      refine RW.g (b := (decide ((arcs.getD k default).From < 0))) (v := .bool (decide (n ≤ (arcs.getD k default).From))) rfl rfl rfl (fun h => q_geq (gv_pos h) (gv_pos h)) ?_
      refine RW.q (v := .bool ((decide ((arcs.getD k default).From < 0)) || (decide (n ≤ (arcs.getD k default).From)))) rfl (q_pick rfl (fun hp => pkOrT hp) (fun hp => (gv_pos hp).trans (pkOrF hp))) ?_
      refine RW.q (v := .bool ((decide ((arcs.getD k default).From < 0)) || (decide (n ≤ (arcs.getD k default).From)))) rfl (q_move rfl) ?_
      refine RW.g (b := ((decide ((arcs.getD k default).From < 0)) || (decide (n ≤ (arcs.getD k default).From)))) (v := .pointer (some (⟨b1, 1, none⟩))) rfl rfl rfl (fun h => q_fieldAddr rfl Try.underlying31 rfl sz3 rfl) ?_
      refine RW.g (b := ((decide ((arcs.getD k default).From < 0)) || (decide (n ≤ (arcs.getD k default).From)))) (v := .int .i64 ((arcs.getD k default).To)) rfl rfl rfl (fun h => q_load (gv_pos h) Try.underlying3 rfl (Cell.blk 0 rfl rfl)) ?_
      refine RW.g (b := ((decide ((arcs.getD k default).From < 0)) || (decide (n ≤ (arcs.getD k default).From)))) (v := .bool (decide ((arcs.getD k default).To < 0))) rfl rfl rfl (fun h => q_lss (gv_pos h) rfl) ?_
      refine RW.q (v := .bool (((decide ((arcs.getD k default).From < 0)) || (decide (n ≤ (arcs.getD k default).From))) || (decide ((arcs.getD k default).To < 0)))) rfl (q_pick rfl (fun hp => pkOrT hp) (fun hp => (gv_pos hp).trans (pkOrF hp))) ?_
      refine RW.q (v := .bool (((decide ((arcs.getD k default).From < 0)) || (decide (n ≤ (arcs.getD k default).From))) || (decide ((arcs.getD k default).To < 0)))) rfl (q_move rfl) ?_
      refine RW.g (b := (((decide ((arcs.getD k default).From < 0)) || (decide (n ≤ (arcs.getD k default).From))) || (decide ((arcs.getD k default).To < 0)))) (v := .pointer (some (⟨b1, 1, none⟩))) rfl rfl rfl (fun h => q_fieldAddr rfl Try.underlying31 rfl sz3 rfl) ?_
      refine RW.g (b := (((decide ((arcs.getD k default).From < 0)) || (decide (n ≤ (arcs.getD k default).From))) || (decide ((arcs.getD k default).To < 0)))) (v := .int .i64 ((arcs.getD k default).To)) rfl rfl rfl (fun h => q_load (gv_pos h) Try.underlying3 rfl (Cell.blk 0 rfl rfl)) ?_
      refine RW.g (b := (((decide ((arcs.getD k default).From < 0)) || (decide (n ≤ (arcs.getD k default).From))) || (decide ((arcs.getD k default).To < 0)))) (v := .int .i64 n) rfl rfl rfl (fun h => q_move rfl) ?_
      refine RW.g (b := (((decide ((arcs.getD k default).From < 0)) || (decide (n ≤ (arcs.getD k default).From))) || (decide ((arcs.getD k default).To < 0)))) (v := .bool (decide (n ≤ (arcs.getD k default).To))) rfl rfl rfl (fun h => q_geq (gv_pos h) (gv_pos h)) ?_
      refine RW.q (v := .bool ((((decide ((arcs.getD k default).From < 0)) || (decide (n ≤ (arcs.getD k default).From))) || (decide ((arcs.getD k default).To < 0))) || (decide (n ≤ (arcs.getD k default).To)))) rfl (q_pick rfl (fun hp => pkOrT hp) (fun hp => (gv_pos hp).trans (pkOrF hp))) ?_
      refine RW.nil ?_
      refine Post.then_n ?_
      refine AW.cond (b := (((decide ((arcs.getD k default).From < 0)) || (decide (n ≤ (arcs.getD k default).From))) || (decide ((arcs.getD k default).To < 0))) || (decide (n ≤ (arcs.getD k default).To))) rfl (fun hc3 => ?_) (fun hc3 => ?_)
      · simp [-List.getD_eq_getElem?_getD] at hc3
        refine AW.seq ?_
        refine AW.region ?_
        refine RW.q (v := .bool false) rfl (q_assign rfl) ?_
        refine RW.nil ?_
        refine Post.then_n ?_
        refine AW.ret ?_
        refine Post.blk_r (Post.then_r (Post.then_r (Post.blk_r (Post.then_r ?_))))
        exact fin_val (v' := .bool false) rfl rfl rfl (by rw [Gr.right_f2 (k := k) (by omega) (by omega)])
      · simp [-List.getD_eq_getElem?_getD] at hc3
        refine AW.skip ?_
        refine Post.blk_n (Post.then_n ?_)
        refine AW.region ?_
        refine RW.q (v := .int .i64 ((k + 1 : Nat) : Int)) rfl (q_add rfl rfl (by omega) (by unfold I64; omega)) ?_
        refine RW.q (v := .int .i64 ((k + 1 : Nat) : Int)) rfl (q_move rfl) ?_
        refine RW.nil ?_
        exact Post.back (s' := _) (J' := _) (m' := _) (by omega) ⟨k + 1, rfl, rfl, rfl, (by omega), (Gr.lt_succ heq (by omega))⟩ ⟨rfl, rfl, rfl, rfl, rfl, trivial⟩ (fun _ h => StP.drop h (by exact .cons _ (.slnil)))
    · simp [-List.getD_eq_getElem?_getD] at hc2
      refine AW.exit ?_
      refine Post.then_x (Post.then_x (Post.blk_hit (Post.then_n ?_)))
      refine AW.seq ?_
      refine AW.region ?_
      refine RW.q (v := .bool true) rfl (q_assign rfl) ?_
      refine RW.nil ?_
      refine Post.then_n ?_
      refine AW.ret ?_
      exact fin_val (v' := .bool true) rfl rfl rfl (by rw [Gr.right_t (by omega) (fun j hj => heq j (by omega))])

end Go.Proofs.Ytjkoojeampaeeaa
