/- The walks of layer 11 (part WalkI), printed by walk.py. Conditions: those of each theorem. -/
import Derived.Test.YtjkoojeampaeeaaWalkH
namespace Go.Proofs.Ytjkoojeampaeeaa
open Go Go.K Go.RowKit

set_option maxHeartbeats 1000000 in
theorem rUp_t (w : World) (Φ : Hp) (hΦ : Hp.le Φ (hp w)) {n : Nat} {arcs : List Gr.Arc} {v1 : Value} (h1 : RepSl Φ arcs v1) (hrt : Gr.rightB n arcs = true) {v : Int} :
    Calls Try.prog 25 #[.int .i64 (n : Int), v1, .int .i64 v] w (RetS noHp w fun r Ψ => RepSl Ψ (Gr.downM n (Gr.rev arcs) v) r) := by
  refine calls_of_AW (args := [.int .i64 (n : Int), v1, .int .i64 v]) Try.func25 rfl (Nat.le_of_ble_eq_true rfl) (St ⟨w, Φ, []⟩ Φ []) (StP.init w Φ hΦ []) ?_
  show AW Try.prog 44 [] _ _ _ [(0, .int .i64 (n : Int)), (1, v1), (2, .int .i64 v)] _
  obtain ⟨hn, har, hok⟩ := Gr.right_ok hrt
  rw [Int.toNat_natCast] at hok
  have hn2 : n ≤ 256 := by omega
  clear hn
  have hmh1 : arcs.length * 16 ≤ 140737488355328 := h1.max
  have hrr : Gr.rightB n (Gr.rev arcs) = true := by rw [Gr.right_rev]; exact hrt
  refine AW.seq ?_
  refine AW.region ?_
  refine RW.q (v := (.slice none 0 0)) rfl (q_assign rfl) ?_
  refine RW.nil ?_
  refine Post.then_n ?_
  refine AW.seq ?_
  refine AW.region ?_
  refine RW.q (v := .int .i64 (n : Int)) rfl (q_move rfl) ?_
  refine RW.q (v := v1) rfl (q_move rfl) ?_
  refine RW.q (v := .bool (Gr.rightB (n : Int) arcs)) rfl (q_call (args := #[.int .i64 (n : Int), v1]) own22 rfl rfl (fun w1 hw1 => rRight_c w1 Φ hw1.phi h1)) ?_
  refine RW.q (v := .bool (Gr.rightB (n : Int) arcs)) rfl (q_assign rfl) ?_
  refine RW.nil ?_
  refine Post.then_n ?_
  refine AW.seq ?_
  refine AW.seq ?_
  refine AW.region ?_
  refine RW.q (v := .bool (Gr.rightB (n : Int) arcs)) rfl (q_move rfl) ?_
  refine RW.q (v := .bool (!(Gr.rightB (n : Int) arcs))) rfl (q_not rfl) ?_
  refine RW.q (v := .bool (!(Gr.rightB (n : Int) arcs))) rfl (q_move rfl) ?_
  refine RW.g (b := (!(Gr.rightB (n : Int) arcs))) (v := .int .i64 v) rfl rfl rfl (fun h => q_move rfl) ?_
  refine RW.g (b := (!(Gr.rightB (n : Int) arcs))) (v := .bool (decide (v < 0))) rfl rfl rfl (fun h => q_lss (gv_pos h) rfl) ?_
  refine RW.q (v := .bool ((!(Gr.rightB (n : Int) arcs)) || (decide (v < 0)))) rfl (q_pick rfl (fun hp => pkOrT hp) (fun hp => (gv_pos hp).trans (pkOrF hp))) ?_
  refine RW.q (v := .bool ((!(Gr.rightB (n : Int) arcs)) || (decide (v < 0)))) rfl (q_move rfl) ?_
  refine RW.g (b := ((!(Gr.rightB (n : Int) arcs)) || (decide (v < 0)))) (v := .int .i64 v) rfl rfl rfl (fun h => q_move rfl) ?_
  refine RW.g (b := ((!(Gr.rightB (n : Int) arcs)) || (decide (v < 0)))) (v := .int .i64 (n : Int)) rfl rfl rfl (fun h => q_move rfl) ?_
  refine RW.g (b := ((!(Gr.rightB (n : Int) arcs)) || (decide (v < 0)))) (v := .bool (decide ((n : Int) ≤ v))) rfl rfl rfl (fun h => q_geq (gv_pos h) (gv_pos h)) ?_
  refine RW.q (v := .bool (((!(Gr.rightB (n : Int) arcs)) || (decide (v < 0))) || (decide ((n : Int) ≤ v)))) rfl (q_pick rfl (fun hp => pkOrT hp) (fun hp => (gv_pos hp).trans (pkOrF hp))) ?_
  refine RW.nil ?_
  refine Post.then_n ?_
  refine AW.cond (b := ((!(Gr.rightB (n : Int) arcs)) || (decide (v < 0))) || (decide ((n : Int) ≤ v))) rfl (fun hc1 => ?_) (fun hc1 => ?_)
  · simp [-List.getD_eq_getElem?_getD] at hc1
    have hnin : ¬ (0 ≤ v ∧ v < n) := by simp [hrt] at hc1; omega
    refine AW.seq ?_
    refine AW.region ?_
    refine RW.q (v := (.slice none 0 0)) rfl (q_assign rfl) ?_
    refine RW.nil ?_
    refine Post.then_n ?_
    refine AW.ret ?_
    refine Post.then_r ?_
    rw [Gr.downM, if_neg (fun h => hnin h.2)]
    exact fin_rep rfl rfl rfl (fun w' hw => repSl_nil)
  · simp [-List.getD_eq_getElem?_getD] at hc1
    refine AW.skip ?_
    refine Post.then_n ?_
    refine AW.seq ?_
    have hvn : 0 ≤ v ∧ v < n := by simp [hrt] at hc1; omega
    have hdl := (Gr.distL_is hok.rev hvn).1
    have hrlk := fun k => Gr.reachL_len k (Gr.distL n (Gr.rev arcs) v)
    refine AW.region ?_
    refine RW.q (v := .int .i64 (n : Int)) rfl (q_move rfl) ?_
    refine RW.q (v := v1) rfl (q_move rfl) ?_
    refine RW.q (v := .int .i64 v) rfl (q_move rfl) ?_
    refine RW.eff (fun x : {y : Value × Hp // (fun r Ψ => RepSl Ψ (Gr.distL n (Gr.rev arcs) v) r) y.1 y.2 ∧ Hp.le Φ y.2} => x.1.1) (fun x => St ⟨w, Φ, []⟩ x.1.2 []) rfl (e_callS (T := fun r Ψ => RepSl Ψ (Gr.distL n (Gr.rev arcs) v) r) (args := #[.int .i64 (n : Int), v1, .int .i64 v]) own33 rfl rfl (fun w1 hw1 => (rSteps_c w1 Φ hw1.phi h1 hok hn2 hvn).mono fun _ _ => retS_up (fun _ _ _ hl h => h.mono hl))) ?_
    rintro ⟨⟨dv1, Φ1⟩, hd1, hlΦ1⟩
    replace hd1 : RepSl Φ1 (Gr.distL n (Gr.rev arcs) v) dv1 := hd1
    replace hlΦ1 : Hp.le Φ Φ1 := hlΦ1
    replace h1 := h1.mono hlΦ1
    refine RW.q (v := dv1) rfl (q_assign rfl) ?_
    refine RW.nil ?_
    refine Post.then_n ?_
    refine AW.seq ?_
    refine AW.region ?_
    refine RW.q (v := (.slice none 0 0)) rfl (q_assign rfl) ?_
    refine RW.nil ?_
    refine Post.then_n ?_
    refine AW.seq ?_
    refine AW.seq ?_
    refine AW.region ?_
    refine RW.q (v := .int .i64 0) rfl (q_assign rfl) ?_
    refine RW.nil ?_
    refine Post.then_n ?_
    refine AW.block ?_
    refine AW.loop (fun s J m => ∃ (k : Nat), ∃ (lv : Value), s = [(0, .int .i64 (n : Int)), (8, dv1), (9, lv), (10, .int .i64 (k : Int))] ∧ J = St ⟨w, Φ, []⟩ Φ1 [.row lv 3 1 ((Gr.reachL k (Gr.distL n (Gr.rev arcs) v)).length) ((Gr.reachL k (Gr.distL n (Gr.rev arcs) v)).map (Value.int .i64))] ∧ m = n - k ∧ (k ≤ n) ∧ (IsSl lv (Gr.reachL k (Gr.distL n (Gr.rev arcs) v)).length)) (s0 := _) (J1 := _) (m0 := _) ⟨0, _, rfl, rfl, rfl, (by omega), isSl_nil⟩ ⟨rfl, rfl, rfl, rfl, trivial⟩ (fun _ h => addNil h) ?_
    rintro _ _ _ _ ⟨k, lv, rfl, rfl, rfl, hk, hlv⟩
    refine AW.seq ?_
    refine AW.seq ?_
    refine AW.region ?_
    refine RW.q (v := .int .i64 (k : Int)) rfl (q_move rfl) ?_
    refine RW.q (v := .int .i64 (n : Int)) rfl (q_move rfl) ?_
    refine RW.q (v := .bool (decide ((k : Int) < (n : Int)))) rfl (q_lss rfl rfl) ?_
    refine RW.nil ?_
    refine Post.then_n ?_
    refine AW.cond (b := decide ((k : Int) < (n : Int))) rfl (fun hc2 => ?_) (fun hc2 => ?_)
    · simp [-List.getD_eq_getElem?_getD] at hc2
      refine AW.skip ?_
      refine Post.then_n ?_
      refine AW.seq ?_
      refine AW.block ?_
      refine AW.seq ?_
      refine AW.region ?_
      refine RW.q (v := dv1) rfl (q_move rfl) ?_
      refine RW.q (v := .int .i64 (k : Int)) rfl (q_move rfl) ?_
      refine RW.q (v := .pointer (some (Value.at dv1 (k * 1)))) rfl (q_indexAddr rfl rfl hd1.sl Try.underlying25 sz3 (by omega) (by omega) rfl) ?_
      refine RW.q (v := .int .i64 ((Gr.distL n (Gr.rev arcs) v).getD k 0)) rfl (q_load rfl Try.underlying3 rfl (Cell.repInt hd1 (by omega))) ?_
      refine RW.q (v := .bool (decide ((0 : Int) ≤ (Gr.distL n (Gr.rev arcs) v).getD k 0))) rfl (q_geq rfl rfl) ?_
      refine RW.nil ?_
      refine Post.then_n ?_
      refine AW.cond (b := decide ((0 : Int) ≤ (Gr.distL n (Gr.rev arcs) v).getD k 0)) rfl (fun hc3 => ?_) (fun hc3 => ?_)
      · simp [-List.getD_eq_getElem?_getD] at hc3
        have hrl2 := hrlk k
        refine AW.region ?_
        refine RW.q (v := lv) rfl (q_move rfl) ?_
        refine RW.q (v := .int .i64 (k : Int)) rfl (q_move rfl) ?_
        refine RW.eff (fun b1 : Nat => (.slice (some ⟨b1, 0, none⟩) 1 1)) (fun b1 => St ⟨w, Φ, []⟩ Φ1 [.row (.slice (some ⟨b1, 0, none⟩) 1 1) 3 1 1 ([.int .i64 (k : Int)]), .row lv 3 1 ((Gr.reachL k (Gr.distL n (Gr.rev arcs) v)).length) ((Gr.reachL k (Gr.distL n (Gr.rev arcs) v)).map (Value.int .i64))]) rfl (e_buildSlice (vals := [(0, .int .i64 (k : Int))]) (cells := [.int .i64 (k : Int)]) Try.underlying25 inf3 rfl rfl rfl (by kernel_rfl) rfl) ?_
        intro b1
        refine RW.eff (fun xv : {vq : Value // IsSl vq ((Gr.reachL k (Gr.distL n (Gr.rev arcs) v)).length + 1)} => xv.1) (fun xv => St ⟨w, Φ, []⟩ Φ1 [.row (.slice (some ⟨b1, 0, none⟩) 1 1) 3 1 1 ([.int .i64 (k : Int)]), .row xv.1 3 1 (((Gr.reachL k (Gr.distL n (Gr.rev arcs) v)) ++ [(k : Int)]).length) (((Gr.reachL k (Gr.distL n (Gr.rev arcs) v)) ++ [(k : Int)]).map (Value.int .i64))]) rfl (e_append 1 rfl rfl rfl Try.underlying25 inf3 rfl rfl rfl (Cells.row0 0 rfl) rfl (by omega) (by omega) (fun _ => by simp)) ?_
        rintro ⟨va1, hva1⟩
        refine RW.wk (J' := St ⟨w, Φ, []⟩ Φ1 [.row va1 3 1 (((Gr.reachL k (Gr.distL n (Gr.rev arcs) v)) ++ [(k : Int)]).length) (((Gr.reachL k (Gr.distL n (Gr.rev arcs) v)) ++ [(k : Int)]).map (Value.int .i64))]) (fun _ h => StP.drop h (by exact .cons _ (.cons_cons _ (.slnil)))) ?_
        refine RW.q (v := va1) rfl (q_assign rfl) ?_
        refine RW.nil ?_
        refine Post.blk_n (Post.then_n ?_)
        refine AW.region ?_
        refine RW.q (v := .int .i64 (k : Int)) rfl (q_move rfl) ?_
        refine RW.q (v := .int .i64 ((k + 1 : Nat) : Int)) rfl (q_add rfl rfl (by omega) (by unfold I64; omega)) ?_
        refine RW.q (v := .int .i64 ((k + 1 : Nat) : Int)) rfl (q_assign rfl) ?_
        refine RW.nil ?_
        have hrs := Gr.reachL_step (k := k) (d := Gr.distL n (Gr.rev arcs) v)
        rw [if_pos (by omega)] at hrs
        exact Post.back (s' := _) (J' := _) (m' := _) (by omega) ⟨k + 1, va1, rfl, rfl, rfl, (by omega), (by rw [hrs]; simpa using hva1)⟩ ⟨rfl, rfl, rfl, rfl, trivial⟩ (fun _ h => by rw [hrs]; simpa using h)
      · simp [-List.getD_eq_getElem?_getD] at hc3
        refine AW.skip ?_
        refine Post.blk_n (Post.then_n ?_)
        refine AW.region ?_
        refine RW.q (v := .int .i64 (k : Int)) rfl (q_move rfl) ?_
        refine RW.q (v := .int .i64 ((k + 1 : Nat) : Int)) rfl (q_add rfl rfl (by omega) (by unfold I64; omega)) ?_
        refine RW.q (v := .int .i64 ((k + 1 : Nat) : Int)) rfl (q_assign rfl) ?_
        refine RW.nil ?_
        have hrs := Gr.reachL_step (k := k) (d := Gr.distL n (Gr.rev arcs) v)
        rw [if_neg (by omega)] at hrs
        exact Post.back (s' := _) (J' := _) (m' := _) (by omega) ⟨k + 1, lv, rfl, rfl, rfl, (by omega), (by rw [hrs]; exact hlv)⟩ ⟨rfl, rfl, rfl, rfl, trivial⟩ (fun _ h => by rw [hrs]; exact h)
    · simp [-List.getD_eq_getElem?_getD] at hc2
      refine AW.exit ?_
      refine Post.then_x (Post.then_x (Post.blk_hit (Post.then_n ?_)))
      refine AW.seq ?_
      refine AW.region ?_
      refine RW.q (v := lv) rfl (q_move rfl) ?_
      refine RW.q (v := lv) rfl (q_assign rfl) ?_
      refine RW.nil ?_
      refine Post.then_n ?_
      refine AW.ret ?_
      obtain rfl : k = n := by omega
      have hres : Gr.downM (k : Int) (Gr.rev arcs) v = Gr.reachL k (Gr.distL k (Gr.rev arcs) v) := by
        rw [Gr.downM, if_pos ⟨hrr, by omega⟩, Int.toNat_natCast]
      rw [hres]
      have hrl := Gr.reachL_len k (Gr.distL k (Gr.rev arcs) v)
      refine fin_rep rfl rfl rfl (fun w' hw => RowS.ints (row_ext hw 0 rfl) (by simp only [maxSl]; omega) (fun x hx => ?_))
      have := Gr.reachL_mem.1 hx
      unfold I64; omega

set_option maxHeartbeats 1000000 in
theorem rUp_f (w : World) (Φ : Hp) (hΦ : Hp.le Φ (hp w)) {n : Int} {arcs : List Gr.Arc} {v1 : Value} (h1 : RepSl Φ arcs v1) (hrf : Gr.rightB n arcs = false) {v : Int} :
    Calls Try.prog 25 #[.int .i64 n, v1, .int .i64 v] w (RetS noHp w fun r Ψ => RepSl Ψ (Gr.downM n (Gr.rev arcs) v) r) := by
  refine calls_of_AW (args := [.int .i64 n, v1, .int .i64 v]) Try.func25 rfl (Nat.le_of_ble_eq_true rfl) (St ⟨w, Φ, []⟩ Φ []) (StP.init w Φ hΦ []) ?_
  show AW Try.prog 44 [] _ _ _ [(0, .int .i64 n), (1, v1), (2, .int .i64 v)] _
  refine AW.seq ?_
  refine AW.region ?_
  refine RW.q (v := (.slice none 0 0)) rfl (q_assign rfl) ?_
  refine RW.nil ?_
  refine Post.then_n ?_
  refine AW.seq ?_
  refine AW.region ?_
  refine RW.q (v := .int .i64 n) rfl (q_move rfl) ?_
  refine RW.q (v := v1) rfl (q_move rfl) ?_
  refine RW.q (v := .bool (Gr.rightB n arcs)) rfl (q_call (args := #[.int .i64 n, v1]) own22 rfl rfl (fun w1 hw1 => rRight_c w1 Φ hw1.phi h1)) ?_
  refine RW.q (v := .bool (Gr.rightB n arcs)) rfl (q_assign rfl) ?_
  refine RW.nil ?_
  refine Post.then_n ?_
  refine AW.seq ?_
  refine AW.seq ?_
  refine AW.region ?_
  refine RW.q (v := .bool (Gr.rightB n arcs)) rfl (q_move rfl) ?_
  refine RW.q (v := .bool (!(Gr.rightB n arcs))) rfl (q_not rfl) ?_
  refine RW.q (v := .bool (!(Gr.rightB n arcs))) rfl (q_move rfl) ?_
  refine RW.g (b := (!(Gr.rightB n arcs))) (v := .int .i64 v) rfl rfl rfl (fun h => q_move rfl) ?_
  refine RW.g (b := (!(Gr.rightB n arcs))) (v := .bool (decide (v < 0))) rfl rfl rfl (fun h => q_lss (gv_pos h) rfl) ?_
  refine RW.q (v := .bool ((!(Gr.rightB n arcs)) || (decide (v < 0)))) rfl (q_pick rfl (fun hp => pkOrT hp) (fun hp => (gv_pos hp).trans (pkOrF hp))) ?_
  refine RW.q (v := .bool ((!(Gr.rightB n arcs)) || (decide (v < 0)))) rfl (q_move rfl) ?_
  refine RW.g (b := ((!(Gr.rightB n arcs)) || (decide (v < 0)))) (v := .int .i64 v) rfl rfl rfl (fun h => q_move rfl) ?_
  refine RW.g (b := ((!(Gr.rightB n arcs)) || (decide (v < 0)))) (v := .int .i64 n) rfl rfl rfl (fun h => q_move rfl) ?_
  refine RW.g (b := ((!(Gr.rightB n arcs)) || (decide (v < 0)))) (v := .bool (decide (n ≤ v))) rfl rfl rfl (fun h => q_geq (gv_pos h) (gv_pos h)) ?_
  refine RW.q (v := .bool (((!(Gr.rightB n arcs)) || (decide (v < 0))) || (decide (n ≤ v)))) rfl (q_pick rfl (fun hp => pkOrT hp) (fun hp => (gv_pos hp).trans (pkOrF hp))) ?_
  refine RW.nil ?_
  refine Post.then_n ?_
  refine AW.cond (b := ((!(Gr.rightB n arcs)) || (decide (v < 0))) || (decide (n ≤ v))) rfl (fun hc1 => ?_) (fun hc1 => ?_)
  · simp [-List.getD_eq_getElem?_getD] at hc1
    refine AW.seq ?_
    refine AW.region ?_
    refine RW.q (v := (.slice none 0 0)) rfl (q_assign rfl) ?_
    refine RW.nil ?_
    refine Post.then_n ?_
    refine AW.ret ?_
    refine Post.then_r ?_
    rw [Gr.downM, if_neg (by rw [Gr.right_rev]; simp [hrf])]
    exact fin_rep rfl rfl rfl (fun w' hw => repSl_nil)
  · simp [-List.getD_eq_getElem?_getD] at hc1
    simp [hrf] at hc1

theorem rUp_c (w : World) (Φ : Hp) (hΦ : Hp.le Φ (hp w)) {n : Int} {arcs : List Gr.Arc} {v1 : Value} (h1 : RepSl Φ arcs v1) {v : Int} :
    Calls Try.prog 25 #[.int .i64 n, v1, .int .i64 v] w (RetS noHp w fun r Ψ => RepSl Ψ (Gr.downM n (Gr.rev arcs) v) r) := by
  cases h : Gr.rightB n arcs with
  | false => exact rUp_f w Φ hΦ h1 h
  | true =>
    obtain ⟨N, rfl⟩ := Int.eq_ofNat_of_zero_le (Gr.right_ok h).1.1
    exact rUp_t w Φ hΦ h1 h

set_option maxHeartbeats 1000000 in
theorem rDown_t (w : World) (Φ : Hp) (hΦ : Hp.le Φ (hp w)) {n : Nat} {arcs : List Gr.Arc} {v1 : Value} (h1 : RepSl Φ arcs v1) (hrt : Gr.rightB n arcs = true) {v : Int} :
    Calls Try.prog 23 #[.int .i64 (n : Int), v1, .int .i64 v] w (RetS noHp w fun r Ψ => RepSl Ψ (Gr.downM n arcs v) r) := by
  refine calls_of_AW (args := [.int .i64 (n : Int), v1, .int .i64 v]) Try.func23 rfl (Nat.le_of_ble_eq_true rfl) (St ⟨w, Φ, []⟩ Φ []) (StP.init w Φ hΦ []) ?_
  show AW Try.prog 44 [] _ _ _ [(0, .int .i64 (n : Int)), (1, v1), (2, .int .i64 v)] _
  obtain ⟨hn, har, hok⟩ := Gr.right_ok hrt
  rw [Int.toNat_natCast] at hok
  have hn2 : n ≤ 256 := by omega
  clear hn
  have hmh1 : arcs.length * 16 ≤ 140737488355328 := h1.max
  have hrr := hrt
  refine AW.seq ?_
  refine AW.region ?_
  refine RW.q (v := (.slice none 0 0)) rfl (q_assign rfl) ?_
  refine RW.nil ?_
  refine Post.then_n ?_
  refine AW.seq ?_
  refine AW.region ?_
  refine RW.q (v := .int .i64 (n : Int)) rfl (q_move rfl) ?_
  refine RW.q (v := v1) rfl (q_move rfl) ?_
  refine RW.q (v := .bool (Gr.rightB (n : Int) arcs)) rfl (q_call (args := #[.int .i64 (n : Int), v1]) own22 rfl rfl (fun w1 hw1 => rRight_c w1 Φ hw1.phi h1)) ?_
  refine RW.q (v := .bool (Gr.rightB (n : Int) arcs)) rfl (q_assign rfl) ?_
  refine RW.nil ?_
  refine Post.then_n ?_
  refine AW.seq ?_
  refine AW.seq ?_
  refine AW.region ?_
  refine RW.q (v := .bool (Gr.rightB (n : Int) arcs)) rfl (q_move rfl) ?_
  refine RW.q (v := .bool (!(Gr.rightB (n : Int) arcs))) rfl (q_not rfl) ?_
  refine RW.q (v := .bool (!(Gr.rightB (n : Int) arcs))) rfl (q_move rfl) ?_
  refine RW.g (b := (!(Gr.rightB (n : Int) arcs))) (v := .int .i64 v) rfl rfl rfl (fun h => q_move rfl) ?_
  refine RW.g (b := (!(Gr.rightB (n : Int) arcs))) (v := .bool (decide (v < 0))) rfl rfl rfl (fun h => q_lss (gv_pos h) rfl) ?_
  refine RW.q (v := .bool ((!(Gr.rightB (n : Int) arcs)) || (decide (v < 0)))) rfl (q_pick rfl (fun hp => pkOrT hp) (fun hp => (gv_pos hp).trans (pkOrF hp))) ?_
  refine RW.q (v := .bool ((!(Gr.rightB (n : Int) arcs)) || (decide (v < 0)))) rfl (q_move rfl) ?_
  refine RW.g (b := ((!(Gr.rightB (n : Int) arcs)) || (decide (v < 0)))) (v := .int .i64 v) rfl rfl rfl (fun h => q_move rfl) ?_
  refine RW.g (b := ((!(Gr.rightB (n : Int) arcs)) || (decide (v < 0)))) (v := .int .i64 (n : Int)) rfl rfl rfl (fun h => q_move rfl) ?_
  refine RW.g (b := ((!(Gr.rightB (n : Int) arcs)) || (decide (v < 0)))) (v := .bool (decide ((n : Int) ≤ v))) rfl rfl rfl (fun h => q_geq (gv_pos h) (gv_pos h)) ?_
  refine RW.q (v := .bool (((!(Gr.rightB (n : Int) arcs)) || (decide (v < 0))) || (decide ((n : Int) ≤ v)))) rfl (q_pick rfl (fun hp => pkOrT hp) (fun hp => (gv_pos hp).trans (pkOrF hp))) ?_
  refine RW.nil ?_
  refine Post.then_n ?_
  refine AW.cond (b := ((!(Gr.rightB (n : Int) arcs)) || (decide (v < 0))) || (decide ((n : Int) ≤ v))) rfl (fun hc1 => ?_) (fun hc1 => ?_)
  · simp [-List.getD_eq_getElem?_getD] at hc1
    have hnin : ¬ (0 ≤ v ∧ v < n) := by simp [hrt] at hc1; omega
    refine AW.seq ?_
    refine AW.region ?_
    refine RW.q (v := (.slice none 0 0)) rfl (q_assign rfl) ?_
    refine RW.nil ?_
    refine Post.then_n ?_
    refine AW.ret ?_
    refine Post.then_r ?_
    rw [Gr.downM, if_neg (fun h => hnin h.2)]
    exact fin_rep rfl rfl rfl (fun w' hw => repSl_nil)
  · simp [-List.getD_eq_getElem?_getD] at hc1
    refine AW.skip ?_
    refine Post.then_n ?_
    refine AW.seq ?_
    have hvn : 0 ≤ v ∧ v < n := by simp [hrt] at hc1; omega
    have hrlk := fun k => Gr.reachL_len k (Gr.distL n arcs v)
    refine AW.region ?_
    refine RW.q (v := (.slice none 0 0)) rfl (q_assign rfl) ?_
    refine RW.nil ?_
    refine Post.then_n ?_
    refine AW.seq ?_
    refine AW.seq ?_
    refine AW.region ?_
    refine RW.q (v := .int .i64 0) rfl (q_assign rfl) ?_
    refine RW.nil ?_
    refine Post.then_n ?_
    refine AW.block ?_
    refine AW.loop (fun s J m => ∃ (k : Nat), ∃ (lv : Value), s = [(0, .int .i64 (n : Int)), (1, v1), (2, .int .i64 v), (8, lv), (9, .int .i64 (k : Int))] ∧ J = St ⟨w, Φ, []⟩ Φ [.row lv 3 1 ((Gr.reachL k (Gr.distL n arcs v)).length) ((Gr.reachL k (Gr.distL n arcs v)).map (Value.int .i64))] ∧ m = n - k ∧ (k ≤ n) ∧ (IsSl lv (Gr.reachL k (Gr.distL n arcs v)).length)) (s0 := _) (J1 := _) (m0 := _) ⟨0, _, rfl, rfl, rfl, (by omega), isSl_nil⟩ ⟨rfl, rfl, rfl, rfl, rfl, trivial⟩ (fun _ h => addNil h) ?_
    rintro _ _ _ _ ⟨k, lv, rfl, rfl, rfl, hk, hlv⟩
    refine AW.seq ?_
    refine AW.seq ?_
    refine AW.region ?_
    refine RW.q (v := .int .i64 (k : Int)) rfl (q_move rfl) ?_
    refine RW.q (v := .int .i64 (n : Int)) rfl (q_move rfl) ?_
    refine RW.q (v := .bool (decide ((k : Int) < (n : Int)))) rfl (q_lss rfl rfl) ?_
    refine RW.nil ?_
    refine Post.then_n ?_
    refine AW.cond (b := decide ((k : Int) < (n : Int))) rfl (fun hc2 => ?_) (fun hc2 => ?_)
    · simp [-List.getD_eq_getElem?_getD] at hc2
      refine AW.skip ?_
      refine Post.then_n ?_
      refine AW.seq ?_
      refine AW.block ?_
      refine AW.seq ?_
      have hki : 0 ≤ (k : Int) ∧ (k : Int) < n := by omega
      have hdl := (Gr.distL_is hok.rev hki).1
      have hbw := Gr.back_way hok hki hvn
      rw [Int.toNat_natCast] at hbw
      refine AW.region ?_
      refine RW.q (v := .int .i64 (n : Int)) rfl (q_move rfl) ?_
      refine RW.q (v := v1) rfl (q_move rfl) ?_
      refine RW.q (v := .int .i64 (k : Int)) rfl (q_move rfl) ?_
      refine RW.eff (fun x : {y : Value × Hp // (fun r Ψ => RepSl Ψ (Gr.distL n (Gr.rev arcs) (k : Int)) r) y.1 y.2 ∧ Hp.le Φ y.2} => x.1.1) (fun x => St ⟨w, Φ, []⟩ x.1.2 [.row lv 3 1 ((Gr.reachL k (Gr.distL n arcs v)).length) ((Gr.reachL k (Gr.distL n arcs v)).map (Value.int .i64))]) rfl (e_callS (T := fun r Ψ => RepSl Ψ (Gr.distL n (Gr.rev arcs) (k : Int)) r) (args := #[.int .i64 (n : Int), v1, .int .i64 (k : Int)]) own33 rfl rfl (fun w1 hw1 => (rSteps_c w1 Φ hw1.phi h1 hok hn2 hki).mono fun _ _ => retS_up (fun _ _ _ hl h => h.mono hl))) ?_
      rintro ⟨⟨dv1, Φ1⟩, hd1, hlΦ1⟩
      replace hd1 : RepSl Φ1 (Gr.distL n (Gr.rev arcs) (k : Int)) dv1 := hd1
      replace hlΦ1 : Hp.le Φ Φ1 := hlΦ1
      replace h1 := h1.mono hlΦ1
      refine RW.q (v := dv1) rfl (q_assign rfl) ?_
      refine RW.nil ?_
      refine Post.then_n ?_
      refine AW.seq ?_
      refine AW.region ?_
      refine RW.q (v := dv1) rfl (q_move rfl) ?_
      refine RW.q (v := .int .i64 v) rfl (q_move rfl) ?_
      refine RW.q (v := .pointer (some (Value.at dv1 (v.toNat * 1)))) rfl (q_indexAddr rfl rfl hd1.sl Try.underlying25 sz3 (by omega) (by omega) rfl) ?_
      refine RW.q (v := .int .i64 ((Gr.distL n (Gr.rev arcs) (k : Int)).getD v.toNat 0)) rfl (q_load rfl Try.underlying3 rfl (Cell.repInt hd1 (by omega))) ?_
      refine RW.q (v := .bool (decide ((0 : Int) ≤ (Gr.distL n (Gr.rev arcs) (k : Int)).getD v.toNat 0))) rfl (q_geq rfl rfl) ?_
      refine RW.nil ?_
      refine Post.then_n ?_
      refine AW.cond (b := decide ((0 : Int) ≤ (Gr.distL n (Gr.rev arcs) (k : Int)).getD v.toNat 0)) rfl (fun hc3 => ?_) (fun hc3 => ?_)
      · simp [-List.getD_eq_getElem?_getD] at hc3
        have hrl2 := hrlk k
        refine AW.region ?_
        refine RW.q (v := lv) rfl (q_move rfl) ?_
        refine RW.q (v := .int .i64 (k : Int)) rfl (q_move rfl) ?_
        refine RW.eff (fun b1 : Nat => (.slice (some ⟨b1, 0, none⟩) 1 1)) (fun b1 => St ⟨w, Φ, []⟩ Φ1 [.row (.slice (some ⟨b1, 0, none⟩) 1 1) 3 1 1 ([.int .i64 (k : Int)]), .row lv 3 1 ((Gr.reachL k (Gr.distL n arcs v)).length) ((Gr.reachL k (Gr.distL n arcs v)).map (Value.int .i64))]) rfl (e_buildSlice (vals := [(0, .int .i64 (k : Int))]) (cells := [.int .i64 (k : Int)]) Try.underlying25 inf3 rfl rfl rfl (by kernel_rfl) rfl) ?_
        intro b1
        refine RW.eff (fun xv : {vq : Value // IsSl vq ((Gr.reachL k (Gr.distL n arcs v)).length + 1)} => xv.1) (fun xv => St ⟨w, Φ, []⟩ Φ1 [.row (.slice (some ⟨b1, 0, none⟩) 1 1) 3 1 1 ([.int .i64 (k : Int)]), .row xv.1 3 1 (((Gr.reachL k (Gr.distL n arcs v)) ++ [(k : Int)]).length) (((Gr.reachL k (Gr.distL n arcs v)) ++ [(k : Int)]).map (Value.int .i64))]) rfl (e_append 1 rfl rfl rfl Try.underlying25 inf3 rfl rfl rfl (Cells.row0 0 rfl) rfl (by omega) (by omega) (fun _ => by simp)) ?_
        rintro ⟨va1, hva1⟩
        refine RW.wk (J' := St ⟨w, Φ, []⟩ Φ1 [.row va1 3 1 (((Gr.reachL k (Gr.distL n arcs v)) ++ [(k : Int)]).length) (((Gr.reachL k (Gr.distL n arcs v)) ++ [(k : Int)]).map (Value.int .i64))]) (fun _ h => StP.drop h (by exact .cons _ (.cons_cons _ (.slnil)))) ?_
        refine RW.q (v := va1) rfl (q_assign rfl) ?_
        refine RW.nil ?_
        refine Post.blk_n (Post.then_n ?_)
        refine AW.region ?_
        refine RW.q (v := .int .i64 (k : Int)) rfl (q_move rfl) ?_
        refine RW.q (v := .int .i64 ((k + 1 : Nat) : Int)) rfl (q_add rfl rfl (by omega) (by unfold I64; omega)) ?_
        refine RW.q (v := .int .i64 ((k + 1 : Nat) : Int)) rfl (q_assign rfl) ?_
        refine RW.nil ?_
        have hrs := Gr.reachL_step (k := k) (d := Gr.distL n arcs v)
        rw [if_pos (hbw.1 hc3)] at hrs
        exact Post.back (s' := _) (J' := _) (m' := _) (by omega) ⟨k + 1, va1, rfl, rfl, rfl, (by omega), (by rw [hrs]; simpa using hva1)⟩ ⟨rfl, rfl, rfl, rfl, rfl, trivial⟩ (fun w0 h => by rw [hrs]; exact StP.know (by assumption) (show (St ⟨w, Φ, []⟩ Φ1 [.row va1 3 1 ((Gr.reachL k (Gr.distL n arcs v) ++ [(k : Int)]).length) ((Gr.reachL k (Gr.distL n arcs v) ++ [(k : Int)]).map (Value.int .i64))]).p w0 by simpa using h))
      · simp [-List.getD_eq_getElem?_getD] at hc3
        refine AW.skip ?_
        refine Post.blk_n (Post.then_n ?_)
        refine AW.region ?_
        refine RW.q (v := .int .i64 (k : Int)) rfl (q_move rfl) ?_
        refine RW.q (v := .int .i64 ((k + 1 : Nat) : Int)) rfl (q_add rfl rfl (by omega) (by unfold I64; omega)) ?_
        refine RW.q (v := .int .i64 ((k + 1 : Nat) : Int)) rfl (q_assign rfl) ?_
        refine RW.nil ?_
        have hrs := Gr.reachL_step (k := k) (d := Gr.distL n arcs v)
        rw [if_neg (fun h => absurd (hbw.2 h) (by omega))] at hrs
        exact Post.back (s' := _) (J' := _) (m' := _) (by omega) ⟨k + 1, lv, rfl, rfl, rfl, (by omega), (by rw [hrs]; exact hlv)⟩ ⟨rfl, rfl, rfl, rfl, rfl, trivial⟩ (fun _ h => by rw [hrs]; exact StP.know (by assumption) h)
    · simp [-List.getD_eq_getElem?_getD] at hc2
      refine AW.exit ?_
      refine Post.then_x (Post.then_x (Post.blk_hit (Post.then_n ?_)))
      refine AW.seq ?_
      refine AW.region ?_
      refine RW.q (v := lv) rfl (q_move rfl) ?_
      refine RW.q (v := lv) rfl (q_assign rfl) ?_
      refine RW.nil ?_
      refine Post.then_n ?_
      refine AW.ret ?_
      obtain rfl : k = n := by omega
      have hres : Gr.downM (k : Int) arcs v = Gr.reachL k (Gr.distL k arcs v) := by
        rw [Gr.downM, if_pos ⟨hrr, by omega⟩, Int.toNat_natCast]
      rw [hres]
      have hrl := Gr.reachL_len k (Gr.distL k arcs v)
      refine fin_rep rfl rfl rfl (fun w' hw => RowS.ints (row_ext hw 0 rfl) (by simp only [maxSl]; omega) (fun x hx => ?_))
      have := Gr.reachL_mem.1 hx
      unfold I64; omega

set_option maxHeartbeats 1000000 in
theorem rDown_f (w : World) (Φ : Hp) (hΦ : Hp.le Φ (hp w)) {n : Int} {arcs : List Gr.Arc} {v1 : Value} (h1 : RepSl Φ arcs v1) (hrf : Gr.rightB n arcs = false) {v : Int} :
    Calls Try.prog 23 #[.int .i64 n, v1, .int .i64 v] w (RetS noHp w fun r Ψ => RepSl Ψ (Gr.downM n arcs v) r) := by
  refine calls_of_AW (args := [.int .i64 n, v1, .int .i64 v]) Try.func23 rfl (Nat.le_of_ble_eq_true rfl) (St ⟨w, Φ, []⟩ Φ []) (StP.init w Φ hΦ []) ?_
  show AW Try.prog 44 [] _ _ _ [(0, .int .i64 n), (1, v1), (2, .int .i64 v)] _
  refine AW.seq ?_
  refine AW.region ?_
  refine RW.q (v := (.slice none 0 0)) rfl (q_assign rfl) ?_
  refine RW.nil ?_
  refine Post.then_n ?_
  refine AW.seq ?_
  refine AW.region ?_
  refine RW.q (v := .int .i64 n) rfl (q_move rfl) ?_
  refine RW.q (v := v1) rfl (q_move rfl) ?_
  refine RW.q (v := .bool (Gr.rightB n arcs)) rfl (q_call (args := #[.int .i64 n, v1]) own22 rfl rfl (fun w1 hw1 => rRight_c w1 Φ hw1.phi h1)) ?_
  refine RW.q (v := .bool (Gr.rightB n arcs)) rfl (q_assign rfl) ?_
  refine RW.nil ?_
  refine Post.then_n ?_
  refine AW.seq ?_
  refine AW.seq ?_
  refine AW.region ?_
  refine RW.q (v := .bool (Gr.rightB n arcs)) rfl (q_move rfl) ?_
  refine RW.q (v := .bool (!(Gr.rightB n arcs))) rfl (q_not rfl) ?_
  refine RW.q (v := .bool (!(Gr.rightB n arcs))) rfl (q_move rfl) ?_
  refine RW.g (b := (!(Gr.rightB n arcs))) (v := .int .i64 v) rfl rfl rfl (fun h => q_move rfl) ?_
  refine RW.g (b := (!(Gr.rightB n arcs))) (v := .bool (decide (v < 0))) rfl rfl rfl (fun h => q_lss (gv_pos h) rfl) ?_
  refine RW.q (v := .bool ((!(Gr.rightB n arcs)) || (decide (v < 0)))) rfl (q_pick rfl (fun hp => pkOrT hp) (fun hp => (gv_pos hp).trans (pkOrF hp))) ?_
  refine RW.q (v := .bool ((!(Gr.rightB n arcs)) || (decide (v < 0)))) rfl (q_move rfl) ?_
  refine RW.g (b := ((!(Gr.rightB n arcs)) || (decide (v < 0)))) (v := .int .i64 v) rfl rfl rfl (fun h => q_move rfl) ?_
  refine RW.g (b := ((!(Gr.rightB n arcs)) || (decide (v < 0)))) (v := .int .i64 n) rfl rfl rfl (fun h => q_move rfl) ?_
  refine RW.g (b := ((!(Gr.rightB n arcs)) || (decide (v < 0)))) (v := .bool (decide (n ≤ v))) rfl rfl rfl (fun h => q_geq (gv_pos h) (gv_pos h)) ?_
  refine RW.q (v := .bool (((!(Gr.rightB n arcs)) || (decide (v < 0))) || (decide (n ≤ v)))) rfl (q_pick rfl (fun hp => pkOrT hp) (fun hp => (gv_pos hp).trans (pkOrF hp))) ?_
  refine RW.nil ?_
  refine Post.then_n ?_
  refine AW.cond (b := ((!(Gr.rightB n arcs)) || (decide (v < 0))) || (decide (n ≤ v))) rfl (fun hc1 => ?_) (fun hc1 => ?_)
  · simp [-List.getD_eq_getElem?_getD] at hc1
    refine AW.seq ?_
    refine AW.region ?_
    refine RW.q (v := (.slice none 0 0)) rfl (q_assign rfl) ?_
    refine RW.nil ?_
    refine Post.then_n ?_
    refine AW.ret ?_
    refine Post.then_r ?_
    rw [Gr.downM, if_neg (by simp [hrf])]
    exact fin_rep rfl rfl rfl (fun w' hw => repSl_nil)
  · simp [-List.getD_eq_getElem?_getD] at hc1
    simp [hrf] at hc1

theorem rDown_c (w : World) (Φ : Hp) (hΦ : Hp.le Φ (hp w)) {n : Int} {arcs : List Gr.Arc} {v1 : Value} (h1 : RepSl Φ arcs v1) {v : Int} :
    Calls Try.prog 23 #[.int .i64 n, v1, .int .i64 v] w (RetS noHp w fun r Ψ => RepSl Ψ (Gr.downM n arcs v) r) := by
  cases h : Gr.rightB n arcs with
  | false => exact rDown_f w Φ hΦ h1 h
  | true =>
    obtain ⟨N, rfl⟩ := Int.eq_ofNat_of_zero_le (Gr.right_ok h).1.1
    exact rDown_t w Φ hΦ h1 h

set_option maxHeartbeats 1000000 in
theorem rPath_t (w : World) (Φ : Hp) (hΦ : Hp.le Φ (hp w)) {n : Nat} {arcs : List Gr.Arc} {v1 : Value} (h1 : RepSl Φ arcs v1) (hrt : Gr.rightB n arcs = true) {a b : Int} :
    Calls Try.prog 21 #[.int .i64 (n : Int), v1, .int .i64 a, .int .i64 b] w (RetS noHp w fun r Ψ => PairRep Ψ (Gr.pathM n arcs a b) r) := by
  refine calls_of_AW (args := [.int .i64 (n : Int), v1, .int .i64 a, .int .i64 b]) Try.func21 rfl (Nat.le_of_ble_eq_true rfl) (St ⟨w, Φ, []⟩ Φ []) (StP.init w Φ hΦ []) ?_
  show AW Try.prog 76 [] _ _ _ [(0, .int .i64 (n : Int)), (1, v1), (2, .int .i64 a), (3, .int .i64 b)] _
  obtain ⟨hn, har, hok⟩ := Gr.right_ok hrt
  rw [Int.toNat_natCast] at hok
  have hn2 : n ≤ 256 := by omega
  clear hn
  have hmh1 : arcs.length * 16 ≤ 140737488355328 := h1.max
  refine AW.seq ?_
  refine AW.region ?_
  refine RW.q (v := (.slice none 0 0)) rfl (q_assign rfl) ?_
  refine RW.q (v := .bool false) rfl (q_assign rfl) ?_
  refine RW.nil ?_
  refine Post.then_n ?_
  refine AW.seq ?_
  refine AW.region ?_
  refine RW.q (v := .int .i64 (n : Int)) rfl (q_move rfl) ?_
  refine RW.q (v := v1) rfl (q_move rfl) ?_
  refine RW.q (v := .bool (Gr.rightB (n : Int) arcs)) rfl (q_call (args := #[.int .i64 (n : Int), v1]) own22 rfl rfl (fun w1 hw1 => rRight_c w1 Φ hw1.phi h1)) ?_
  refine RW.q (v := .bool (Gr.rightB (n : Int) arcs)) rfl (q_assign rfl) ?_
  refine RW.nil ?_
  refine Post.then_n ?_
  refine AW.seq ?_
  refine AW.seq ?_
  refine AW.region ?_
  refine RW.q (v := .bool (Gr.rightB (n : Int) arcs)) rfl (q_move rfl) ?_
  refine RW.q (v := .bool (!(Gr.rightB (n : Int) arcs))) rfl (q_not rfl) ?_
  refine RW.q (v := .bool (!(Gr.rightB (n : Int) arcs))) rfl (q_move rfl) ?_
  refine RW.g (b := (!(Gr.rightB (n : Int) arcs))) (v := .int .i64 a) rfl rfl rfl (fun h => q_move rfl) ?_
  refine RW.g (b := (!(Gr.rightB (n : Int) arcs))) (v := .bool (decide (a < 0))) rfl rfl rfl (fun h => q_lss (gv_pos h) rfl) ?_
  refine RW.q (v := .bool ((!(Gr.rightB (n : Int) arcs)) || (decide (a < 0)))) rfl (q_pick rfl (fun hp => pkOrT hp) (fun hp => (gv_pos hp).trans (pkOrF hp))) ?_
  refine RW.q (v := .bool ((!(Gr.rightB (n : Int) arcs)) || (decide (a < 0)))) rfl (q_move rfl) ?_
  refine RW.g (b := ((!(Gr.rightB (n : Int) arcs)) || (decide (a < 0)))) (v := .int .i64 a) rfl rfl rfl (fun h => q_move rfl) ?_
  refine RW.g (b := ((!(Gr.rightB (n : Int) arcs)) || (decide (a < 0)))) (v := .int .i64 (n : Int)) rfl rfl rfl (fun h => q_move rfl) ?_
  refine RW.g (b := ((!(Gr.rightB (n : Int) arcs)) || (decide (a < 0)))) (v := .bool (decide ((n : Int) ≤ a))) rfl rfl rfl (fun h => q_geq (gv_pos h) (gv_pos h)) ?_
  refine RW.q (v := .bool (((!(Gr.rightB (n : Int) arcs)) || (decide (a < 0))) || (decide ((n : Int) ≤ a)))) rfl (q_pick rfl (fun hp => pkOrT hp) (fun hp => (gv_pos hp).trans (pkOrF hp))) ?_
  refine RW.q (v := .bool (((!(Gr.rightB (n : Int) arcs)) || (decide (a < 0))) || (decide ((n : Int) ≤ a)))) rfl (q_move rfl) ?_
  refine RW.g (b := (((!(Gr.rightB (n : Int) arcs)) || (decide (a < 0))) || (decide ((n : Int) ≤ a)))) (v := .int .i64 b) rfl rfl rfl (fun h => q_move rfl) ?_
  refine RW.g (b := (((!(Gr.rightB (n : Int) arcs)) || (decide (a < 0))) || (decide ((n : Int) ≤ a)))) (v := .bool (decide (b < 0))) rfl rfl rfl (fun h => q_lss (gv_pos h) rfl) ?_
  refine RW.q (v := .bool ((((!(Gr.rightB (n : Int) arcs)) || (decide (a < 0))) || (decide ((n : Int) ≤ a))) || (decide (b < 0)))) rfl (q_pick rfl (fun hp => pkOrT hp) (fun hp => (gv_pos hp).trans (pkOrF hp))) ?_
  refine RW.q (v := .bool ((((!(Gr.rightB (n : Int) arcs)) || (decide (a < 0))) || (decide ((n : Int) ≤ a))) || (decide (b < 0)))) rfl (q_move rfl) ?_
  refine RW.g (b := ((((!(Gr.rightB (n : Int) arcs)) || (decide (a < 0))) || (decide ((n : Int) ≤ a))) || (decide (b < 0)))) (v := .int .i64 b) rfl rfl rfl (fun h => q_move rfl) ?_
  refine RW.g (b := ((((!(Gr.rightB (n : Int) arcs)) || (decide (a < 0))) || (decide ((n : Int) ≤ a))) || (decide (b < 0)))) (v := .int .i64 (n : Int)) rfl rfl rfl (fun h => q_move rfl) ?_
  refine RW.g (b := ((((!(Gr.rightB (n : Int) arcs)) || (decide (a < 0))) || (decide ((n : Int) ≤ a))) || (decide (b < 0)))) (v := .bool (decide ((n : Int) ≤ b))) rfl rfl rfl (fun h => q_geq (gv_pos h) (gv_pos h)) ?_
  refine RW.q (v := .bool (((((!(Gr.rightB (n : Int) arcs)) || (decide (a < 0))) || (decide ((n : Int) ≤ a))) || (decide (b < 0))) || (decide ((n : Int) ≤ b)))) rfl (q_pick rfl (fun hp => pkOrT hp) (fun hp => (gv_pos hp).trans (pkOrF hp))) ?_
  refine RW.nil ?_
  refine Post.then_n ?_
  refine AW.cond (b := ((((!(Gr.rightB (n : Int) arcs)) || (decide (a < 0))) || (decide ((n : Int) ≤ a))) || (decide (b < 0))) || (decide ((n : Int) ≤ b))) rfl (fun hc1 => ?_) (fun hc1 => ?_)
  · simp [-List.getD_eq_getElem?_getD] at hc1
    have hnin : ¬ ((0 ≤ a ∧ a < n) ∧ (0 ≤ b ∧ b < n)) := by simp [hrt] at hc1; omega
    refine AW.seq ?_
    refine AW.region ?_
    refine RW.q (v := (.slice none 0 0)) rfl (q_assign rfl) ?_
    refine RW.q (v := .bool false) rfl (q_assign rfl) ?_
    refine RW.nil ?_
    refine Post.then_n ?_
    refine AW.ret ?_
    refine Post.then_r ?_
    rw [Gr.pathM, if_neg (by omega)]
    exact fin_rep2 rfl rfl rfl rfl (fun w' hw => pair_none)
  · simp [-List.getD_eq_getElem?_getD] at hc1
    refine AW.skip ?_
    refine Post.then_n ?_
    refine AW.seq ?_
    have hin : (0 ≤ a ∧ a < n) ∧ (0 ≤ b ∧ b < n) := by simp [hrt] at hc1; omega
    have hT : Gr.IsTo n arcs b (Gr.distL n (Gr.rev arcs) b) := Gr.distL_is hok.rev (by omega)
    have hdl := hT.1
    refine AW.region ?_
    refine RW.q (v := .int .i64 (n : Int)) rfl (q_move rfl) ?_
    refine RW.q (v := v1) rfl (q_move rfl) ?_
    refine RW.q (v := .int .i64 b) rfl (q_move rfl) ?_
    refine RW.eff (fun x : {y : Value × Hp // (fun r Ψ => RepSl Ψ (Gr.distL n (Gr.rev arcs) b) r) y.1 y.2 ∧ Hp.le Φ y.2} => x.1.1) (fun x => St ⟨w, Φ, []⟩ x.1.2 []) rfl (e_callS (T := fun r Ψ => RepSl Ψ (Gr.distL n (Gr.rev arcs) b) r) (args := #[.int .i64 (n : Int), v1, .int .i64 b]) own33 rfl rfl (fun w1 hw1 => (rSteps_c w1 Φ hw1.phi h1 hok hn2 (by omega)).mono fun _ _ => retS_up (fun _ _ _ hl h => h.mono hl))) ?_
    rintro ⟨⟨dv1, Φ1⟩, hd1, hlΦ1⟩
    replace hd1 : RepSl Φ1 (Gr.distL n (Gr.rev arcs) b) dv1 := hd1
    replace hlΦ1 : Hp.le Φ Φ1 := hlΦ1
    replace h1 := h1.mono hlΦ1
    refine RW.q (v := dv1) rfl (q_assign rfl) ?_
    refine RW.nil ?_
    refine Post.then_n ?_
    refine AW.seq ?_
    refine AW.seq ?_
    refine AW.region ?_
    refine RW.q (v := dv1) rfl (q_move rfl) ?_
    refine RW.q (v := .int .i64 a) rfl (q_move rfl) ?_
    refine RW.q (v := .pointer (some (Value.at dv1 (a.toNat * 1)))) rfl (q_indexAddr rfl rfl hd1.sl Try.underlying25 sz3 (by omega) (by omega) rfl) ?_
    refine RW.q (v := .int .i64 ((Gr.distL n (Gr.rev arcs) b).getD a.toNat 0)) rfl (q_load rfl Try.underlying3 rfl (Cell.repInt hd1 (by omega))) ?_
    refine RW.q (v := .bool (decide ((Gr.distL n (Gr.rev arcs) b).getD a.toNat 0 < 0))) rfl (q_lss rfl rfl) ?_
    refine RW.nil ?_
    refine Post.then_n ?_
    refine AW.cond (b := decide ((Gr.distL n (Gr.rev arcs) b).getD a.toNat 0 < 0)) rfl (fun hc2 => ?_) (fun hc2 => ?_)
    · simp [-List.getD_eq_getElem?_getD] at hc2
      refine AW.seq ?_
      refine AW.region ?_
      refine RW.q (v := (.slice none 0 0)) rfl (q_assign rfl) ?_
      refine RW.q (v := .bool false) rfl (q_assign rfl) ?_
      refine RW.nil ?_
      refine Post.then_n ?_
      refine AW.ret ?_
      refine Post.then_r ?_
      rw [Gr.pathM, if_neg (fun h => by have := h.2.2.2; rw [Int.toNat_natCast] at this; omega)]
      exact fin_rep2 rfl rfl rfl rfl (fun w' hw => pair_none)
    · simp [-List.getD_eq_getElem?_getD] at hc2
      refine AW.skip ?_
      refine Post.then_n ?_
      refine AW.seq ?_
      refine AW.region ?_
      refine RW.q (v := .int .i64 a) rfl (q_move rfl) ?_
      refine RW.eff (fun b1 : Nat => (.slice (some ⟨b1, 0, none⟩) 1 1)) (fun b1 => St ⟨w, Φ, []⟩ Φ1 [.row (.slice (some ⟨b1, 0, none⟩) 1 1) 3 1 1 ([.int .i64 a])]) rfl (e_buildSlice (vals := [(0, .int .i64 a)]) (cells := [.int .i64 a]) Try.underlying25 inf3 rfl rfl rfl (by kernel_rfl) rfl) ?_
      intro b1
      refine RW.q (v := (.slice (some ⟨b1, 0, none⟩) 1 1)) rfl (q_assign rfl) ?_
      refine RW.nil ?_
      refine Post.then_n ?_
      refine AW.seq ?_
      refine AW.block ?_
      refine AW.loop (fun s J m => ∃ (cur : Int), ∃ (L : List Int), ∃ (lv : Value), s = [(1, v1), (3, .int .i64 b), (11, dv1), (2, .int .i64 cur), (12, lv)] ∧ J = St ⟨w, Φ, []⟩ Φ1 [.row lv 3 1 L.length (L.map (Value.int .i64))] ∧ m = ((Gr.distL n (Gr.rev arcs) b).getD cur.toNat 0).toNat ∧ (0 ≤ cur ∧ cur < n) ∧ (0 ≤ (Gr.distL n (Gr.rev arcs) b).getD cur.toNat 0) ∧ (L ++ Gr.pathGo arcs (Gr.distL n (Gr.rev arcs) b) b n cur = a :: Gr.pathGo arcs (Gr.distL n (Gr.rev arcs) b) b n a) ∧ (IsSl lv L.length)) (s0 := _) (J1 := _) (m0 := _) ⟨a, [a], _, rfl, rfl, rfl, (by omega), (by omega), rfl, isSl_mk⟩ ⟨rfl, rfl, rfl, rfl, rfl, trivial⟩ (fun _ h => h) ?_
      rintro _ _ _ _ ⟨cur, L, lv, rfl, rfl, rfl, hcur, h0, hL, hlv⟩
      refine AW.seq ?_
      refine AW.seq ?_
      refine AW.region ?_
      refine RW.q (v := .int .i64 cur) rfl (q_move rfl) ?_
      refine RW.q (v := .int .i64 b) rfl (q_move rfl) ?_
      refine RW.q (v := .bool (!decide (cur = b))) rfl (q_neq rfl rfl) ?_
      refine RW.nil ?_
      refine Post.then_n ?_
      refine AW.cond (b := !decide (cur = b)) rfl (fun hc3 => ?_) (fun hc3 => ?_)
      · simp [-List.getD_eq_getElem?_getD] at hc3
        refine AW.skip ?_
        refine Post.then_n ?_
        refine AW.block ?_
        refine AW.seq ?_
        have hst := Gr.pathGo_step hok hT hcur h0 hc3
        have hcl := Gr.closest_to hok hT hcur hst.2
        have htc := Gr.to_lt hT hcur
        refine AW.region ?_
        refine RW.q (v := .int .i64 0) rfl (q_assign rfl) ?_
        refine RW.nil ?_
        refine Post.then_n ?_
        refine AW.seq ?_
        refine AW.block ?_
        refine AW.loop (fun s J m => ∃ (j : Nat), s = [(1, v1), (2, .int .i64 cur), (3, .int .i64 b), (11, dv1), (12, lv), (13, .int .i64 (j : Int))] ∧ J = St ⟨w, Φ, []⟩ Φ1 [.row lv 3 1 L.length (L.map (Value.int .i64))] ∧ m = ((Gr.closest arcs (Gr.distL n (Gr.rev arcs) b) cur) - j).toNat ∧ ((j : Int) ≤ (Gr.closest arcs (Gr.distL n (Gr.rev arcs) b) cur))) (s0 := _) (J1 := _) (m0 := _) ⟨0, rfl, rfl, rfl, (by omega)⟩ ⟨rfl, rfl, rfl, rfl, rfl, rfl, trivial⟩ (fun _ h => h) ?_
        rintro _ _ _ _ ⟨j, rfl, rfl, rfl, hj⟩
        refine AW.seq ?_
        refine AW.seq ?_
        refine AW.draw (J0 := St ⟨w, Φ, []⟩ Φ1 [.row lv 3 1 L.length (L.map (Value.int .i64))]) [true, true, true, true, true, true, true, true, true, true, true, true, true, true, true, true, true] hmix (by kernel_rfl) ?_
        refine DW.q (v := dv1) (fun _ h => h) rfl (q_move rfl) ?_
        refine DW.q (v := .int .i64 (j : Int)) (fun _ h => h) rfl (q_move rfl) ?_
        refine DW.q (v := .pointer (some (Value.at dv1 (j * 1)))) (fun _ h => h) rfl (q_indexAddr rfl rfl hd1.sl Try.underlying25 sz3 (by omega) (by omega) rfl) ?_
        refine DW.q (v := .int .i64 ((Gr.distL n (Gr.rev arcs) b).getD j 0)) (fun _ h => h) rfl (q_load rfl Try.underlying3 rfl (Cell.repInt hd1 (by omega))) ?_
        refine DW.q (v := dv1) (fun _ h => h) rfl (q_move rfl) ?_
        refine DW.q (v := .int .i64 cur) (fun _ h => h) rfl (q_move rfl) ?_
        refine DW.q (v := .pointer (some (Value.at dv1 (cur.toNat * 1)))) (fun _ h => h) rfl (q_indexAddr rfl rfl hd1.sl Try.underlying25 sz3 (by omega) (by omega) rfl) ?_
        refine DW.q (v := .int .i64 ((Gr.distL n (Gr.rev arcs) b).getD cur.toNat 0)) (fun _ h => h) rfl (q_load rfl Try.underlying3 rfl (Cell.repInt hd1 (by omega))) ?_
        refine DW.q (v := .int .i64 (((Gr.distL n (Gr.rev arcs) b).getD cur.toNat 0) - 1)) (fun _ h => h) rfl (q_sub rfl rfl (by omega) (by unfold I64; omega)) ?_
        refine DW.q (v := .bool (!decide ((Gr.distL n (Gr.rev arcs) b).getD j 0 = ((Gr.distL n (Gr.rev arcs) b).getD cur.toNat 0) - 1))) (fun _ h => h) rfl (q_neq rfl rfl) ?_
        refine DW.q (v := .bool (!decide ((Gr.distL n (Gr.rev arcs) b).getD j 0 = ((Gr.distL n (Gr.rev arcs) b).getD cur.toNat 0) - 1))) (fun _ h => h) rfl (q_move rfl) ?_
        refine DW.g (b := (!decide ((Gr.distL n (Gr.rev arcs) b).getD j 0 = ((Gr.distL n (Gr.rev arcs) b).getD cur.toNat 0) - 1))) (v := v1) (fun _ h => h) rfl rfl rfl (fun h => q_move rfl) ?_
        refine DW.g (b := (!decide ((Gr.distL n (Gr.rev arcs) b).getD j 0 = ((Gr.distL n (Gr.rev arcs) b).getD cur.toNat 0) - 1))) (v := .int .i64 cur) (fun _ h => h) rfl rfl rfl (fun h => q_move rfl) ?_
        refine DW.g (b := (!decide ((Gr.distL n (Gr.rev arcs) b).getD j 0 = ((Gr.distL n (Gr.rev arcs) b).getD cur.toNat 0) - 1))) (v := .int .i64 (j : Int)) (fun _ h => h) rfl rfl rfl (fun h => q_move rfl) ?_
        refine DW.g (b := (!decide ((Gr.distL n (Gr.rev arcs) b).getD j 0 = ((Gr.distL n (Gr.rev arcs) b).getD cur.toNat 0) - 1))) (v := .bool (decide ((⟨cur, (j : Int)⟩ : Gr.Arc) ∈ arcs))) (fun _ h => h) rfl rfl rfl (fun h => q_call (args := #[v1, .int .i64 cur, .int .i64 (j : Int)]) own14 rfl (args3 (gv_pos h) (gv_pos h) (gv_pos h)) (fun w1 hw1 => Has_c w1 Φ1 hw1.phi h1)) ?_
        refine DW.g (b := (!decide ((Gr.distL n (Gr.rev arcs) b).getD j 0 = ((Gr.distL n (Gr.rev arcs) b).getD cur.toNat 0) - 1))) (v := .bool (!(decide ((⟨cur, (j : Int)⟩ : Gr.Arc) ∈ arcs)))) (fun _ h => h) rfl rfl rfl (fun h => q_not (gv_pos h)) ?_
        refine DW.q (v := .bool ((!decide ((Gr.distL n (Gr.rev arcs) b).getD j 0 = ((Gr.distL n (Gr.rev arcs) b).getD cur.toNat 0) - 1)) || (!(decide ((⟨cur, (j : Int)⟩ : Gr.Arc) ∈ arcs))))) (fun _ h => h) rfl (q_pick rfl (fun hp => pkOrT hp) (fun hp => (gv_pos hp).trans (pkOrF hp))) ?_
        refine DW.nil ?_
        refine Post.then_n ?_
        refine AW.cond (b := (!decide ((Gr.distL n (Gr.rev arcs) b).getD j 0 = ((Gr.distL n (Gr.rev arcs) b).getD cur.toNat 0) - 1)) || (!(decide ((⟨cur, (j : Int)⟩ : Gr.Arc) ∈ arcs)))) rfl (fun hc4 => ?_) (fun hc4 => ?_)
        · simp [-List.getD_eq_getElem?_getD] at hc4
          refine AW.skip ?_
          refine Post.then_n ?_
          refine AW.block ?_
          refine AW.region ?_
          refine RW.q (v := .int .i64 (j : Int)) rfl (q_move rfl) ?_
          refine RW.q (v := .int .i64 ((j + 1 : Nat) : Int)) rfl (q_add rfl rfl (by omega) (by unfold I64; omega)) ?_
          refine RW.q (v := .int .i64 ((j + 1 : Nat) : Int)) rfl (q_assign rfl) ?_
          refine RW.nil ?_
          refine Post.blk_n ?_
          have hjn : (j : Int) ≠ (Gr.closest arcs (Gr.distL n (Gr.rev arcs) b) cur) := fun e => by
            have k2 := hcl.2.1
            have k3 := hcl.2.2
            rw [← e] at k2 k3
            rw [Int.toNat_natCast] at k2
            rcases hc4 with h | h
            · exact h k2
            · exact h k3
          exact Post.back (s' := _) (J' := _) (m' := _) (by omega) ⟨j + 1, rfl, rfl, rfl, (by omega)⟩ ⟨rfl, rfl, rfl, rfl, rfl, rfl, trivial⟩ (fun _ h => h)
        · simp [-List.getD_eq_getElem?_getD] at hc4
          refine AW.exit ?_
          refine Post.then_x (Post.then_x (Post.blk_hit (Post.then_n ?_)))
          refine AW.seq ?_
          have hjc : (j : Int) = (Gr.closest arcs (Gr.distL n (Gr.rev arcs) b) cur) := Gr.closest_is hok hT hcur hst.2 (by omega) (by simpa using hc4.1) hc4.2
          rw [hjc]
          refine AW.region ?_
          refine RW.q (v := .int .i64 (Gr.closest arcs (Gr.distL n (Gr.rev arcs) b) cur)) rfl (q_move rfl) ?_
          refine RW.q (v := .int .i64 (Gr.closest arcs (Gr.distL n (Gr.rev arcs) b) cur)) rfl (q_assign rfl) ?_
          refine RW.nil ?_
          refine Post.then_n ?_
          have hlen := congrArg List.length hL
          have hla := Gr.pathGo_len hok hT n a (by omega) (by omega) (Gr.to_lt hT (by omega))
          have hlc := Gr.pathGo_len hok hT n cur hcur h0 (Gr.to_lt hT hcur)
          have hta := Gr.to_lt hT (v := a) (by omega)
          rw [List.length_append, List.length_cons] at hlen
          refine AW.region ?_
          refine RW.q (v := lv) rfl (q_move rfl) ?_
          refine RW.q (v := .int .i64 (Gr.closest arcs (Gr.distL n (Gr.rev arcs) b) cur)) rfl (q_move rfl) ?_
          refine RW.eff (fun b2 : Nat => (.slice (some ⟨b2, 0, none⟩) 1 1)) (fun b2 => St ⟨w, Φ, []⟩ Φ1 [.row (.slice (some ⟨b2, 0, none⟩) 1 1) 3 1 1 ([.int .i64 (Gr.closest arcs (Gr.distL n (Gr.rev arcs) b) cur)]), .row lv 3 1 L.length (L.map (Value.int .i64))]) rfl (e_buildSlice (vals := [(0, .int .i64 (Gr.closest arcs (Gr.distL n (Gr.rev arcs) b) cur))]) (cells := [.int .i64 (Gr.closest arcs (Gr.distL n (Gr.rev arcs) b) cur)]) Try.underlying25 inf3 rfl rfl rfl (by kernel_rfl) rfl) ?_
          intro b2
          refine RW.eff (fun xv : {vq : Value // IsSl vq (L.length + 1)} => xv.1) (fun xv => St ⟨w, Φ, []⟩ Φ1 [.row (.slice (some ⟨b2, 0, none⟩) 1 1) 3 1 1 ([.int .i64 (Gr.closest arcs (Gr.distL n (Gr.rev arcs) b) cur)]), .row xv.1 3 1 ((L ++ [(Gr.closest arcs (Gr.distL n (Gr.rev arcs) b) cur)]).length) ((L ++ [(Gr.closest arcs (Gr.distL n (Gr.rev arcs) b) cur)]).map (Value.int .i64))]) rfl (e_append 1 rfl rfl rfl Try.underlying25 inf3 rfl rfl rfl (Cells.row0 0 rfl) rfl (by omega) (by omega) (fun _ => by simp)) ?_
          rintro ⟨va1, hva1⟩
          refine RW.wk (J' := St ⟨w, Φ, []⟩ Φ1 [.row va1 3 1 ((L ++ [(Gr.closest arcs (Gr.distL n (Gr.rev arcs) b) cur)]).length) ((L ++ [(Gr.closest arcs (Gr.distL n (Gr.rev arcs) b) cur)]).map (Value.int .i64))]) (fun _ h => StP.drop h (by exact .cons _ (.cons_cons _ (.slnil)))) ?_
          refine RW.q (v := va1) rfl (q_assign rfl) ?_
          refine RW.nil ?_
          refine Post.blk_n ?_
          exact Post.back (s' := _) (J' := _) (m' := _) (by rw [hcl.2.1]; omega) ⟨(Gr.closest arcs (Gr.distL n (Gr.rev arcs) b) cur), L ++ [(Gr.closest arcs (Gr.distL n (Gr.rev arcs) b) cur)], va1, rfl, rfl, rfl, hcl.1, (by rw [hcl.2.1]; omega), (by rw [List.append_assoc, List.singleton_append, ← hst.1]; exact hL), (by simpa using hva1)⟩ ⟨rfl, rfl, rfl, rfl, rfl, trivial⟩ (fun _ h => by simpa using h)
      · simp [-List.getD_eq_getElem?_getD] at hc3
        refine AW.exit ?_
        refine Post.then_x (Post.then_x (Post.blk_hit (Post.then_n ?_)))
        refine AW.seq ?_
        refine AW.region ?_
        refine RW.q (v := lv) rfl (q_move rfl) ?_
        refine RW.q (v := lv) rfl (q_assign rfl) ?_
        refine RW.q (v := .bool true) rfl (q_assign rfl) ?_
        refine RW.nil ?_
        refine Post.then_n ?_
        refine AW.ret ?_
        subst hc3
        rw [Gr.pathGo_end, List.append_nil] at hL
        have hlen := congrArg List.length hL
        rw [List.length_cons] at hlen
        have hla := Gr.pathGo_len hok hT n a (by omega) (by omega) (Gr.to_lt hT (by omega))
        have hta := Gr.to_lt hT (v := a) (by omega)
        rw [Gr.pathM, if_pos ⟨hrt, by omega, by omega, by rw [Int.toNat_natCast]; omega⟩, Int.toNat_natCast, ← hL]
        refine fin_rep2 rfl rfl rfl rfl (fun w' hw => ⟨_, rfl, RowS.ints (row_ext hw 0 rfl) (by simp only [maxSl]; omega) (fun x hx => ?_)⟩)
        rw [hL] at hx
        have hxr : 0 ≤ x ∧ x < n := by
          rcases List.mem_cons.1 hx with rfl | hx
          · omega
          · exact Gr.pathGo_in hok hT n a (by omega) (by omega) x hx
        unfold I64; omega

set_option maxHeartbeats 1000000 in
theorem rPath_f (w : World) (Φ : Hp) (hΦ : Hp.le Φ (hp w)) {n : Int} {arcs : List Gr.Arc} {v1 : Value} (h1 : RepSl Φ arcs v1) (hrf : Gr.rightB n arcs = false) {a b : Int} :
    Calls Try.prog 21 #[.int .i64 n, v1, .int .i64 a, .int .i64 b] w (RetS noHp w fun r Ψ => PairRep Ψ (Gr.pathM n arcs a b) r) := by
  refine calls_of_AW (args := [.int .i64 n, v1, .int .i64 a, .int .i64 b]) Try.func21 rfl (Nat.le_of_ble_eq_true rfl) (St ⟨w, Φ, []⟩ Φ []) (StP.init w Φ hΦ []) ?_
  show AW Try.prog 76 [] _ _ _ [(0, .int .i64 n), (1, v1), (2, .int .i64 a), (3, .int .i64 b)] _
  refine AW.seq ?_
  refine AW.region ?_
  refine RW.q (v := (.slice none 0 0)) rfl (q_assign rfl) ?_
  refine RW.q (v := .bool false) rfl (q_assign rfl) ?_
  refine RW.nil ?_
  refine Post.then_n ?_
  refine AW.seq ?_
  refine AW.region ?_
  refine RW.q (v := .int .i64 n) rfl (q_move rfl) ?_
  refine RW.q (v := v1) rfl (q_move rfl) ?_
  refine RW.q (v := .bool (Gr.rightB n arcs)) rfl (q_call (args := #[.int .i64 n, v1]) own22 rfl rfl (fun w1 hw1 => rRight_c w1 Φ hw1.phi h1)) ?_
  refine RW.q (v := .bool (Gr.rightB n arcs)) rfl (q_assign rfl) ?_
  refine RW.nil ?_
  refine Post.then_n ?_
  refine AW.seq ?_
  refine AW.seq ?_
  refine AW.region ?_
  refine RW.q (v := .bool (Gr.rightB n arcs)) rfl (q_move rfl) ?_
  refine RW.q (v := .bool (!(Gr.rightB n arcs))) rfl (q_not rfl) ?_
  refine RW.q (v := .bool (!(Gr.rightB n arcs))) rfl (q_move rfl) ?_
  refine RW.g (b := (!(Gr.rightB n arcs))) (v := .int .i64 a) rfl rfl rfl (fun h => q_move rfl) ?_
  refine RW.g (b := (!(Gr.rightB n arcs))) (v := .bool (decide (a < 0))) rfl rfl rfl (fun h => q_lss (gv_pos h) rfl) ?_
  refine RW.q (v := .bool ((!(Gr.rightB n arcs)) || (decide (a < 0)))) rfl (q_pick rfl (fun hp => pkOrT hp) (fun hp => (gv_pos hp).trans (pkOrF hp))) ?_
  refine RW.q (v := .bool ((!(Gr.rightB n arcs)) || (decide (a < 0)))) rfl (q_move rfl) ?_
  refine RW.g (b := ((!(Gr.rightB n arcs)) || (decide (a < 0)))) (v := .int .i64 a) rfl rfl rfl (fun h => q_move rfl) ?_
  refine RW.g (b := ((!(Gr.rightB n arcs)) || (decide (a < 0)))) (v := .int .i64 n) rfl rfl rfl (fun h => q_move rfl) ?_
  refine RW.g (b := ((!(Gr.rightB n arcs)) || (decide (a < 0)))) (v := .bool (decide (n ≤ a))) rfl rfl rfl (fun h => q_geq (gv_pos h) (gv_pos h)) ?_
  refine RW.q (v := .bool (((!(Gr.rightB n arcs)) || (decide (a < 0))) || (decide (n ≤ a)))) rfl (q_pick rfl (fun hp => pkOrT hp) (fun hp => (gv_pos hp).trans (pkOrF hp))) ?_
  refine RW.q (v := .bool (((!(Gr.rightB n arcs)) || (decide (a < 0))) || (decide (n ≤ a)))) rfl (q_move rfl) ?_
  refine RW.g (b := (((!(Gr.rightB n arcs)) || (decide (a < 0))) || (decide (n ≤ a)))) (v := .int .i64 b) rfl rfl rfl (fun h => q_move rfl) ?_
  refine RW.g (b := (((!(Gr.rightB n arcs)) || (decide (a < 0))) || (decide (n ≤ a)))) (v := .bool (decide (b < 0))) rfl rfl rfl (fun h => q_lss (gv_pos h) rfl) ?_
  refine RW.q (v := .bool ((((!(Gr.rightB n arcs)) || (decide (a < 0))) || (decide (n ≤ a))) || (decide (b < 0)))) rfl (q_pick rfl (fun hp => pkOrT hp) (fun hp => (gv_pos hp).trans (pkOrF hp))) ?_
  refine RW.q (v := .bool ((((!(Gr.rightB n arcs)) || (decide (a < 0))) || (decide (n ≤ a))) || (decide (b < 0)))) rfl (q_move rfl) ?_
  refine RW.g (b := ((((!(Gr.rightB n arcs)) || (decide (a < 0))) || (decide (n ≤ a))) || (decide (b < 0)))) (v := .int .i64 b) rfl rfl rfl (fun h => q_move rfl) ?_
  refine RW.g (b := ((((!(Gr.rightB n arcs)) || (decide (a < 0))) || (decide (n ≤ a))) || (decide (b < 0)))) (v := .int .i64 n) rfl rfl rfl (fun h => q_move rfl) ?_
  refine RW.g (b := ((((!(Gr.rightB n arcs)) || (decide (a < 0))) || (decide (n ≤ a))) || (decide (b < 0)))) (v := .bool (decide (n ≤ b))) rfl rfl rfl (fun h => q_geq (gv_pos h) (gv_pos h)) ?_
  refine RW.q (v := .bool (((((!(Gr.rightB n arcs)) || (decide (a < 0))) || (decide (n ≤ a))) || (decide (b < 0))) || (decide (n ≤ b)))) rfl (q_pick rfl (fun hp => pkOrT hp) (fun hp => (gv_pos hp).trans (pkOrF hp))) ?_
  refine RW.nil ?_
  refine Post.then_n ?_
  refine AW.cond (b := ((((!(Gr.rightB n arcs)) || (decide (a < 0))) || (decide (n ≤ a))) || (decide (b < 0))) || (decide (n ≤ b))) rfl (fun hc1 => ?_) (fun hc1 => ?_)
  · simp [-List.getD_eq_getElem?_getD] at hc1
    refine AW.seq ?_
    refine AW.region ?_
    refine RW.q (v := (.slice none 0 0)) rfl (q_assign rfl) ?_
    refine RW.q (v := .bool false) rfl (q_assign rfl) ?_
    refine RW.nil ?_
    refine Post.then_n ?_
    refine AW.ret ?_
    refine Post.then_r ?_
    rw [Gr.pathM, if_neg (by simp [hrf])]
    exact fin_rep2 rfl rfl rfl rfl (fun w' hw => pair_none)
  · simp [-List.getD_eq_getElem?_getD] at hc1
    simp [hrf] at hc1

theorem rPath_c (w : World) (Φ : Hp) (hΦ : Hp.le Φ (hp w)) {n : Int} {arcs : List Gr.Arc} {v1 : Value} (h1 : RepSl Φ arcs v1) {a b : Int} :
    Calls Try.prog 21 #[.int .i64 n, v1, .int .i64 a, .int .i64 b] w (RetS noHp w fun r Ψ => PairRep Ψ (Gr.pathM n arcs a b) r) := by
  cases h : Gr.rightB n arcs with
  | false => exact rPath_f w Φ hΦ h1 h
  | true =>
    obtain ⟨N, rfl⟩ := Int.eq_ofNat_of_zero_le (Gr.right_ok h).1.1
    exact rPath_t w Φ hΦ h1 h

end Go.Proofs.Ytjkoojeampaeeaa
