/- Walks (part WalkJ), printed by walk2.py. Conditions: those of each theorem. -/
import Derived.Test.YtblfeidlnhdekaaWalkI
import Derived.Test.YtblfeidlnhdekaaPlainE
namespace Go.Proofs.Ytblfeidlnhdekaa
open Go Go.K Go.RowKit

set_option maxRecDepth 8000 in
set_option maxHeartbeats 1000000 in
theorem insert_c (w : World) (Φ : Hp) (hΦ : Hp.le Φ (hp w)) {xs : List Int} {v1 : Value} (h1 : RepSl Φ xs v1) {nn : Int} (hnI : I64 nn) (hle : ∀ x ∈ xs, x ≤ nn) (has : xs.Pairwise (· < ·)) (hlen : xs.length ≤ 1000) :
    Calls Try.prog 46 #[v1, .int .i64 nn] w (RetS Φ w fun r Ψ => RepSl Ψ (Fu.appU xs nn) r) := by
  refine calls_of_AW (args := [v1, .int .i64 nn]) Try.func46 rfl (Nat.le_of_ble_eq_true rfl) (St ⟨w, Φ, []⟩ Φ []) (StP.init w Φ hΦ []) ?_
  show AW Try.prog 48 [] _ _ _ [(0, v1), (1, .int .i64 nn)] _
  have hm1 : xs.length * 8 ≤ 140737488355328 := h1.max
  refine AW.seq ?_
  refine AW.region ?_
  refine RW.q (v := (.slice none 0 0)) rfl (q_assign rfl) ?_
  refine RW.nil ?_
  refine Post.then_n ?_
  refine AW.seq ?_
  refine AW.region ?_
  refine RW.q (v := .int .i64 0) rfl (q_assign rfl) ?_
  refine RW.nil ?_
  refine Post.then_n ?_
  refine AW.seq ?_
  refine AW.block ?_
  refine AW.loop (fun s J m => ∃ (k : Nat), s = [(0, v1), (1, .int .i64 nn), (5, .int .i64 (k : Int))] ∧ J = St ⟨w, Φ, []⟩ Φ [] ∧ m = xs.length - k ∧ (k ≤ xs.length) ∧ (∀ j, j < k → xs.getD j 0 < nn)) (s0 := _) (J1 := _) (m0 := _) ⟨0, rfl, rfl, rfl, (by omega), (by omega)⟩ ⟨rfl, rfl, rfl, trivial⟩ (fun _ h => h) ?_
  rintro _ _ _ _ ⟨k, rfl, rfl, rfl, hk, hlt⟩
  refine AW.seq ?_
  refine AW.seq ?_
  refine AW.region ?_
  refine RW.q (v := .int .i64 (k : Int)) rfl (q_move rfl) ?_
  refine RW.q (v := v1) rfl (q_move rfl) ?_
  refine RW.q (v := .int .i64 ((xs.length : Nat) : Int)) rfl (q_len_sl rfl h1.sl Try.underlying29) ?_
  refine RW.q (v := .bool (decide ((k : Int) < ((xs.length : Nat) : Int)))) rfl (q_lss rfl rfl) ?_
  refine RW.q (v := .bool (decide ((k : Int) < ((xs.length : Nat) : Int)))) rfl (q_move rfl) ?_
  refine RW.g (b := (decide ((k : Int) < ((xs.length : Nat) : Int)))) (v := v1) rfl rfl rfl (fun h => q_move rfl) ?_
  refine RW.g (b := (decide ((k : Int) < ((xs.length : Nat) : Int)))) (v := .int .i64 (k : Int)) rfl rfl rfl (fun h => q_move rfl) ?_
  refine RW.g (b := (decide ((k : Int) < ((xs.length : Nat) : Int)))) (v := .pointer (some (Value.at v1 (k * 1)))) rfl rfl rfl (fun h => q_indexAddr (gv_pos h) (gv_pos h) h1.sl Try.underlying29 sz3 (by (try simp [-List.getD_eq_getElem?_getD] at h); omega) (by (try simp [-List.getD_eq_getElem?_getD] at h); omega) rfl) ?_
  refine RW.g (b := (decide ((k : Int) < ((xs.length : Nat) : Int)))) (v := .int .i64 (xs.getD k 0)) rfl rfl rfl (fun h => q_load (gv_pos h) Try.underlying3 rfl (Cell.repInt h1 (by (try simp [-List.getD_eq_getElem?_getD] at h); omega))) ?_
  refine RW.g (b := (decide ((k : Int) < ((xs.length : Nat) : Int)))) (v := .int .i64 nn) rfl rfl rfl (fun h => q_move rfl) ?_
  refine RW.g (b := (decide ((k : Int) < ((xs.length : Nat) : Int)))) (v := .bool (decide (xs.getD k 0 < nn))) rfl rfl rfl (fun h => q_lss (gv_pos h) (gv_pos h)) ?_
  refine RW.q (v := .bool ((decide ((k : Int) < ((xs.length : Nat) : Int))) && (decide (xs.getD k 0 < nn)))) rfl (q_pick rfl (fun hp => (gv_pos hp).trans (pkAndT hp)) (fun hp => pkAndF hp)) ?_
  refine RW.nil ?_
  refine Post.then_n ?_
  refine AW.cond (b := (decide ((k : Int) < ((xs.length : Nat) : Int))) && (decide (xs.getD k 0 < nn))) rfl (fun hc1 => ?_) (fun hc1 => ?_)
  · simp [-List.getD_eq_getElem?_getD] at hc1
    refine AW.skip ?_
    refine Post.then_n ?_
    refine AW.block ?_
    refine AW.region ?_
    refine RW.q (v := .int .i64 (k : Int)) rfl (q_move rfl) ?_
    refine RW.q (v := .int .i64 ((k + 1 : Nat) : Int)) rfl (q_add rfl rfl (by omega) (by unfold I64; omega)) ?_
    refine RW.q (v := .int .i64 ((k + 1 : Nat) : Int)) rfl (q_assign rfl) ?_
    refine RW.nil ?_
    refine Post.blk_n ?_
    exact Post.back (s' := _) (J' := _) (m' := _) (by omega) ⟨k + 1, rfl, rfl, rfl, (by omega), (Fu.lt_succ hlt (by omega))⟩ ⟨rfl, rfl, rfl, trivial⟩ (fun _ h => h)
  · simp [-List.getD_eq_getElem?_getD] at hc1
    refine AW.exit ?_
    refine Post.then_x (Post.then_x (Post.blk_hit (Post.then_n ?_)))
    refine AW.seq ?_
    refine AW.seq ?_
    refine AW.region ?_
    refine RW.q (v := .int .i64 (k : Int)) rfl (q_move rfl) ?_
    refine RW.q (v := v1) rfl (q_move rfl) ?_
    refine RW.q (v := .int .i64 ((xs.length : Nat) : Int)) rfl (q_len_sl rfl h1.sl Try.underlying29) ?_
    refine RW.q (v := .bool (decide ((k : Int) < ((xs.length : Nat) : Int)))) rfl (q_lss rfl rfl) ?_
    refine RW.q (v := .bool (decide ((k : Int) < ((xs.length : Nat) : Int)))) rfl (q_move rfl) ?_
    refine RW.g (b := (decide ((k : Int) < ((xs.length : Nat) : Int)))) (v := v1) rfl rfl rfl (fun h => q_move rfl) ?_
    refine RW.g (b := (decide ((k : Int) < ((xs.length : Nat) : Int)))) (v := .int .i64 (k : Int)) rfl rfl rfl (fun h => q_move rfl) ?_
    refine RW.g (b := (decide ((k : Int) < ((xs.length : Nat) : Int)))) (v := .pointer (some (Value.at v1 (k * 1)))) rfl rfl rfl (fun h => q_indexAddr (gv_pos h) (gv_pos h) h1.sl Try.underlying29 sz3 (by (try simp [-List.getD_eq_getElem?_getD] at h); omega) (by (try simp [-List.getD_eq_getElem?_getD] at h); omega) rfl) ?_
    refine RW.g (b := (decide ((k : Int) < ((xs.length : Nat) : Int)))) (v := .int .i64 (xs.getD k 0)) rfl rfl rfl (fun h => q_load (gv_pos h) Try.underlying3 rfl (Cell.repInt h1 (by (try simp [-List.getD_eq_getElem?_getD] at h); omega))) ?_
    refine RW.g (b := (decide ((k : Int) < ((xs.length : Nat) : Int)))) (v := .int .i64 nn) rfl rfl rfl (fun h => q_move rfl) ?_
    refine RW.g (b := (decide ((k : Int) < ((xs.length : Nat) : Int)))) (v := .bool (decide (xs.getD k 0 = nn))) rfl rfl rfl (fun h => q_eql (gv_pos h) (gv_pos h)) ?_
    refine RW.q (v := .bool ((decide ((k : Int) < ((xs.length : Nat) : Int))) && (decide (xs.getD k 0 = nn)))) rfl (q_pick rfl (fun hp => (gv_pos hp).trans (pkAndT hp)) (fun hp => pkAndF hp)) ?_
    refine RW.nil ?_
    refine Post.then_n ?_
    refine AW.cond (b := (decide ((k : Int) < ((xs.length : Nat) : Int))) && (decide (xs.getD k 0 = nn))) rfl (fun hc2 => ?_) (fun hc2 => ?_)
    · simp [-List.getD_eq_getElem?_getD] at hc2
      refine AW.seq ?_
      refine AW.region ?_
      refine RW.q (v := v1) rfl (q_move rfl) ?_
      refine RW.q (v := v1) rfl (q_assign rfl) ?_
      refine RW.nil ?_
      refine Post.then_n ?_
      refine AW.ret ?_
      refine Post.then_r ?_
      refine fin_out1 (v := v1) rfl rfl rfl (fun w' hw => ?_)
      exact ⟨_, rfl, hw.below rfl, by rw [Fu.appU_keep has hle hc2.1 hc2.2]; exact h1.mono hw.phi_ext⟩
    · simp [-List.getD_eq_getElem?_getD] at hc2
      refine AW.skip ?_
      refine Post.then_n ?_
      refine AW.seq ?_
      have hke : k = xs.length := by
        rcases Nat.lt_or_eq_of_le hk with h9 | h9
        · have h8 := hle _ (Fu.getD_memI h9)
          exact absurd (Int.le_antisymm h8 (hc1 h9)) (hc2 h9)
        · exact h9
      subst hke
      refine AW.region ?_
      refine RW.eff (fun b1 : Nat => (.slice (some ⟨b1, 0, none⟩) 0 0)) (fun b1 => St ⟨w, Φ, []⟩ Φ [.row (.slice (some ⟨b1, 0, none⟩) 0 0) 3 1 0 (([] : List Int).map (Value.int .i64))]) rfl (e_buildSlice0 Try.underlying29 inf3) ?_
      intro b1
      refine RW.q (v := v1) rfl (q_move rfl) ?_
      refine RW.q (v := .int .i64 ((xs.length : Nat) : Int)) rfl (q_move rfl) ?_
      refine RW.q (v := (subSl v1 0 xs.length 1)) rfl (q_sliceH (v := v1) (m := ((xs.length : Nat) : Int)) rfl rfl h1.sl Try.underlying29 sz3 (by omega) (by omega)) ?_
      refine RW.eff (fun xv : {vq : Value // IsSl vq (0 + (xs.length - 0))} => xv.1) (fun xv => St ⟨w, Φ, []⟩ Φ [.row xv.1 3 1 ((([] : List Int) ++ ((xs.take xs.length).drop 0)).length) ((([] : List Int) ++ ((xs.take xs.length).drop 0)).map (Value.int .i64))]) rfl (e_appendPhi (yv := (subSl v1 0 xs.length 1)) 0 rfl rfl rfl (isSl_sub h1.sl (by omega) (by omega)) Try.underlying29 inf3 rfl rfl (by simp) (ints_cells (h1.part (l := 0) (m := xs.length) (by omega) (by omega))) (ints_one _) (by omega) (by omega) (fun _ => by simp [Nat.add_comm])) ?_
      rintro ⟨va1, hva1⟩
      refine RW.q (v := va1) rfl (q_assign rfl) ?_
      refine RW.nil ?_
      refine Post.then_n ?_
      refine AW.seq ?_
      refine AW.region ?_
      refine RW.q (v := va1) rfl (q_move rfl) ?_
      refine RW.q (v := .int .i64 nn) rfl (q_move rfl) ?_
      refine RW.eff (fun b2 : Nat => (.slice (some ⟨b2, 0, none⟩) 1 1)) (fun b2 => St ⟨w, Φ, []⟩ Φ [.row (.slice (some ⟨b2, 0, none⟩) 1 1) 3 1 1 ([.int .i64 nn]), .row va1 3 1 ((([] : List Int) ++ ((xs.take xs.length).drop 0)).length) ((([] : List Int) ++ ((xs.take xs.length).drop 0)).map (Value.int .i64))]) rfl (e_buildSlice (vals := [(0, .int .i64 nn)]) (cells := [.int .i64 nn]) Try.underlying29 inf3 rfl rfl rfl (by kernel_rfl) rfl) ?_
      intro b2
      refine RW.eff (fun xv : {vq : Value // IsSl vq ((([] : List Int) ++ ((xs.take xs.length).drop 0)).length + 1)} => xv.1) (fun xv => St ⟨w, Φ, []⟩ Φ [.row (.slice (some ⟨b2, 0, none⟩) 1 1) 3 1 1 ([.int .i64 nn]), .row xv.1 3 1 (((([] : List Int) ++ ((xs.take xs.length).drop 0)) ++ [nn]).length) (((([] : List Int) ++ ((xs.take xs.length).drop 0)) ++ [nn]).map (Value.int .i64))]) rfl (e_append 1 rfl rfl rfl Try.underlying29 inf3 rfl rfl rfl (Cells.row0 0 rfl) rfl (by simp; omega) (by simp; omega) (fun _ => by simp)) ?_
      rintro ⟨va2, hva2⟩
      refine RW.wk (J' := St ⟨w, Φ, []⟩ Φ [.row va2 3 1 (((([] : List Int) ++ ((xs.take xs.length).drop 0)) ++ [nn]).length) (((([] : List Int) ++ ((xs.take xs.length).drop 0)) ++ [nn]).map (Value.int .i64))]) (fun _ h => StP.drop h (by exact .cons _ (.cons_cons _ (.slnil)))) ?_
      refine RW.q (v := va2) rfl (q_assign rfl) ?_
      refine RW.nil ?_
      refine Post.then_n ?_
      refine AW.seq ?_
      refine AW.region ?_
      refine RW.q (v := va2) rfl (q_move rfl) ?_
      refine RW.q (v := v1) rfl (q_move rfl) ?_
      refine RW.q (v := .int .i64 ((xs.length : Nat) : Int)) rfl (q_move rfl) ?_
      refine RW.q (v := (subSl v1 xs.length xs.length 1)) rfl (q_sliceL (v := v1) (l := ((xs.length : Nat) : Int)) rfl rfl h1.sl Try.underlying29 sz3 (by omega) (by omega)) ?_
      refine RW.eff (fun xv : {vq : Value // IsSl vq (((([] : List Int) ++ ((xs.take xs.length).drop 0)) ++ [nn]).length + (xs.length - xs.length))} => xv.1) (fun xv => St ⟨w, Φ, []⟩ Φ [.row xv.1 3 1 ((((([] : List Int) ++ ((xs.take xs.length).drop 0)) ++ [nn]) ++ ((xs.take xs.length).drop xs.length)).length) ((((([] : List Int) ++ ((xs.take xs.length).drop 0)) ++ [nn]) ++ ((xs.take xs.length).drop xs.length)).map (Value.int .i64))]) rfl (e_appendPhi (yv := (subSl v1 xs.length xs.length 1)) 0 rfl rfl rfl (isSl_sub h1.sl (by omega) (by omega)) Try.underlying29 inf3 rfl rfl (by simp) (ints_cells (h1.part (l := xs.length) (m := xs.length) (by omega) (by omega))) (ints_one _) (by simp <;> omega) (by simp <;> omega) (fun _ => by simp [Nat.add_comm])) ?_
      rintro ⟨va3, hva3⟩
      refine RW.q (v := va3) rfl (q_assign rfl) ?_
      refine RW.nil ?_
      refine Post.then_n ?_
      refine AW.ret ?_
      have hL : ((([] : List Int) ++ ((xs.take xs.length).drop 0)) ++ [nn]) ++ ((xs.take xs.length).drop xs.length) = Fu.appU xs nn := by rw [Fu.appU_new hlt]; simp
      have hwf := h1.i64
      refine fin_out1 (v := va3) rfl rfl rfl (fun w' hw => ?_)
      refine ⟨_, rfl, hw.below rfl, ?_⟩
      rw [← hL]
      exact RowS.ints (row_ext hw 0 rfl) (by simp only [maxSl]; simp <;> omega) (fun x hx => by rw [hL, Fu.appU_new hlt] at hx; rcases List.mem_append.1 hx with h9 | h9; exact hwf x h9; rw [List.mem_singleton.1 h9]; exact hnI)

end Go.Proofs.Ytblfeidlnhdekaa
