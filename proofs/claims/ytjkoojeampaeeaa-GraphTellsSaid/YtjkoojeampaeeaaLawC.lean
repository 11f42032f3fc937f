/- The walks of layer 11 (part LawC), printed by walk.py. Conditions: those of each theorem. -/
import Derived.Test.YtjkoojeampaeeaaLawB
import Derived.Test.YtjkoojeampaeeaaPaths
namespace Go.Proofs.Ytjkoojeampaeeaa
open Go Go.K Go.RowKit

set_option maxHeartbeats 1000000 in
theorem GraphPaths_c (w : World) (Φ : Hp) (hΦ : Hp.le Φ (hp w)) {n a b : Int} {arcs : List Gr.Arc} {v1 : Value} (h1 : RepSl Φ arcs v1) :
    Calls Try.prog 5 #[.int .i64 n, v1, .int .i64 a, .int .i64 b] w fun e w' => e = .returned (.bool true) ∧ Below w.heap.size w w' := by
  refine calls_of_AW (args := [.int .i64 n, v1, .int .i64 a, .int .i64 b]) Try.func5 rfl (Nat.le_of_ble_eq_true rfl) (St ⟨w, Φ, []⟩ Φ []) (StP.init w Φ hΦ []) ?_
  show AW Try.prog 143 [] _ _ _ [(0, .int .i64 n), (1, v1), (2, .int .i64 a), (3, .int .i64 b)] _
  have hm1 : arcs.length * 16 ≤ 140737488355328 := h1.max
  refine AW.seq ?_
  refine AW.region ?_
  refine RW.q (v := .bool false) rfl (q_assign rfl) ?_
  refine RW.nil ?_
  refine Post.then_n ?_
  refine AW.seq ?_
  refine AW.region ?_
  refine RW.q (v := .bool true) rfl (q_call (args := #[]) own9 rfl rfl (fun w1 hw1 => small_c w1 Φ hw1.phi)) ?_
  refine RW.q (v := .bool true) rfl (q_assign rfl) ?_
  refine RW.nil ?_
  refine Post.then_n ?_
  refine AW.seq ?_
  refine AW.region ?_
  refine RW.q (v := .int .i64 n) rfl (q_move rfl) ?_
  refine RW.q (v := v1) rfl (q_move rfl) ?_
  refine RW.q (v := .bool (decide (n ≤ 16) && decide ((arcs.length : Int) ≤ 40))) rfl (q_call (args := #[.int .i64 n, v1]) own15 rfl rfl (fun w1 hw1 => few_c w1 Φ hw1.phi h1)) ?_
  refine RW.q (v := .bool (decide (n ≤ 16) && decide ((arcs.length : Int) ≤ 40))) rfl (q_assign rfl) ?_
  refine RW.nil ?_
  refine Post.then_n ?_
  refine AW.seq ?_
  refine AW.region ?_
  refine RW.q (v := .int .i64 n) rfl (q_move rfl) ?_
  refine RW.q (v := v1) rfl (q_move rfl) ?_
  refine RW.q (v := .int .i64 a) rfl (q_move rfl) ?_
  refine RW.q (v := .int .i64 b) rfl (q_move rfl) ?_
  refine RW.eff (fun x : {y : Value × Hp // (fun r Ψ => PairRep Ψ (Gr.pathM n arcs a b) r) y.1 y.2 ∧ Hp.le Φ y.2} => x.1.1) (fun x => St ⟨w, Φ, []⟩ x.1.2 []) rfl (e_callS (T := fun r Ψ => PairRep Ψ (Gr.pathM n arcs a b) r) (args := #[.int .i64 n, v1, .int .i64 a, .int .i64 b]) own17 rfl rfl (fun w1 hw1 => (Path_c w1 Φ hw1.phi h1).mono fun _ _ => retS_up (fun _ _ _ hl h => h.mono hl))) ?_
  rintro ⟨⟨rp1, Φ1⟩, hrp1, hlΦ1⟩
  replace hrp1 : PairRep Φ1 (Gr.pathM n arcs a b) rp1 := hrp1
  replace hlΦ1 : Hp.le Φ Φ1 := hlΦ1
  replace h1 := h1.mono hlΦ1
  obtain ⟨pv1, rfl, hpv1⟩ := hrp1
  refine RW.q (v := .tuple #[pv1, .bool ((Gr.pathM n arcs a b).isSome)]) rfl (q_move rfl) ?_
  refine RW.q (v := pv1) rfl (q_extract rfl rfl) ?_
  refine RW.q (v := .bool ((Gr.pathM n arcs a b).isSome)) rfl (q_extract rfl rfl) ?_
  refine RW.q (v := pv1) rfl (q_assign rfl) ?_
  refine RW.q (v := .bool ((Gr.pathM n arcs a b).isSome)) rfl (q_assign rfl) ?_
  refine RW.nil ?_
  refine Post.then_n ?_
  refine AW.seq ?_
  refine AW.seq ?_
  have hmp : ((Gr.pathM n arcs a b).getD []).length * 8 ≤ 140737488355328 := hpv1.max
  refine AW.region ?_
  refine RW.q (v := .bool (decide (n ≤ 16) && decide ((arcs.length : Int) ≤ 40))) rfl (q_move rfl) ?_
  refine RW.q (v := .bool (!(decide (n ≤ 16) && decide ((arcs.length : Int) ≤ 40)))) rfl (q_not rfl) ?_
  refine RW.q (v := .bool (!(decide (n ≤ 16) && decide ((arcs.length : Int) ≤ 40)))) rfl (q_move rfl) ?_
  refine RW.g (b := (!(decide (n ≤ 16) && decide ((arcs.length : Int) ≤ 40)))) (v := .bool ((Gr.pathM n arcs a b).isSome)) rfl rfl rfl (fun h => q_move rfl) ?_
  refine RW.g (b := (!(decide (n ≤ 16) && decide ((arcs.length : Int) ≤ 40)))) (v := .bool (!((Gr.pathM n arcs a b).isSome))) rfl rfl rfl (fun h => q_not (gv_pos h)) ?_
  refine RW.q (v := .bool ((!(decide (n ≤ 16) && decide ((arcs.length : Int) ≤ 40))) || (!((Gr.pathM n arcs a b).isSome)))) rfl (q_pick rfl (fun hp => pkOrT hp) (fun hp => (gv_pos hp).trans (pkOrF hp))) ?_
  refine RW.nil ?_
  refine Post.then_n ?_
  refine AW.cond (b := (!(decide (n ≤ 16) && decide ((arcs.length : Int) ≤ 40))) || (!((Gr.pathM n arcs a b).isSome))) rfl (fun hc1 => ?_) (fun hc1 => ?_)
  · simp [-List.getD_eq_getElem?_getD] at hc1
    refine AW.seq ?_
    refine AW.region ?_
    refine RW.q (v := .bool true) rfl (q_move rfl) ?_
    refine RW.q (v := .bool true) rfl (q_assign rfl) ?_
    refine RW.nil ?_
    refine Post.then_n ?_
    refine AW.ret ?_
    refine Post.then_r ?_
    exact fin_val (v' := .bool true) rfl rfl rfl (by rfl)
  · simp [-List.getD_eq_getElem?_getD] at hc1
    refine AW.skip ?_
    refine Post.then_n ?_
    refine AW.seq ?_
    refine AW.seq ?_
    obtain ⟨⟨hn16, h40⟩, hso⟩ := hc1
    obtain ⟨p, hp⟩ := Option.isSome_iff_exists.1 hso
    obtain ⟨y0, y1, y2, y3, y4, y5, y6⟩ := Gr.path_yes hp
    have hgp : (Gr.pathM n arcs a b).getD [] = p := by rw [hp]; rfl
    rw [hgp] at hpv1 hmp
    refine AW.region ?_
    refine RW.q (v := pv1) rfl (q_move rfl) ?_
    refine RW.q (v := .int .i64 ((p.length : Nat) : Int)) rfl (q_len_sl rfl hpv1.sl Try.underlying25) ?_
    refine RW.q (v := .bool (decide (((p.length : Nat) : Int) = 0))) rfl (q_eql rfl rfl) ?_
    refine RW.q (v := .bool (decide (((p.length : Nat) : Int) = 0))) rfl (q_move rfl) ?_
    refine RW.g (b := (decide (((p.length : Nat) : Int) = 0))) (v := pv1) rfl rfl rfl (fun h => q_move rfl) ?_
    refine RW.g (b := (decide (((p.length : Nat) : Int) = 0))) (v := .pointer (some (Value.at pv1 (0 * 1)))) rfl rfl rfl (fun h => q_indexAddr (gv_pos h) rfl hpv1.sl Try.underlying25 sz3 (by (try simp [-List.getD_eq_getElem?_getD] at h); omega) (by (try simp [-List.getD_eq_getElem?_getD] at h); omega) rfl) ?_
    refine RW.g (b := (decide (((p.length : Nat) : Int) = 0))) (v := .int .i64 (p.getD 0 0)) rfl rfl rfl (fun h => q_load (gv_pos h) Try.underlying3 rfl (Cell.repInt hpv1 (by (try simp [-List.getD_eq_getElem?_getD] at h); omega))) ?_
    refine RW.g (b := (decide (((p.length : Nat) : Int) = 0))) (v := .int .i64 a) rfl rfl rfl (fun h => q_move rfl) ?_
    refine RW.g (b := (decide (((p.length : Nat) : Int) = 0))) (v := .bool (!decide (p.getD 0 0 = a))) rfl rfl rfl (fun h => q_neq (gv_pos h) (gv_pos h)) ?_
    refine RW.q (v := .bool ((decide (((p.length : Nat) : Int) = 0)) || (!decide (p.getD 0 0 = a)))) rfl (q_pick rfl (fun hp => pkOrT hp) (fun hp => (gv_pos hp).trans (pkOrF hp))) ?_
    refine RW.q (v := .bool ((decide (((p.length : Nat) : Int) = 0)) || (!decide (p.getD 0 0 = a)))) rfl (q_move rfl) ?_
    refine RW.g (b := ((decide (((p.length : Nat) : Int) = 0)) || (!decide (p.getD 0 0 = a)))) (v := pv1) rfl rfl rfl (fun h => q_move rfl) ?_
    refine RW.g (b := ((decide (((p.length : Nat) : Int) = 0)) || (!decide (p.getD 0 0 = a)))) (v := pv1) rfl rfl rfl (fun h => q_move rfl) ?_
    refine RW.g (b := ((decide (((p.length : Nat) : Int) = 0)) || (!decide (p.getD 0 0 = a)))) (v := .int .i64 ((p.length : Nat) : Int)) rfl rfl rfl (fun h => q_len_sl (gv_pos h) hpv1.sl Try.underlying25) ?_
    refine RW.g (b := ((decide (((p.length : Nat) : Int) = 0)) || (!decide (p.getD 0 0 = a)))) (v := .int .i64 ((p.length - 1 : Nat) : Int)) rfl rfl rfl (fun h => q_sub (gv_pos h) rfl (by (try simp [-List.getD_eq_getElem?_getD] at h); omega) (by unfold I64; omega)) ?_
    refine RW.g (b := ((decide (((p.length : Nat) : Int) = 0)) || (!decide (p.getD 0 0 = a)))) (v := .pointer (some (Value.at pv1 ((p.length - 1) * 1)))) rfl rfl rfl (fun h => q_indexAddr (gv_pos h) (gv_pos h) hpv1.sl Try.underlying25 sz3 (by (try simp [-List.getD_eq_getElem?_getD] at h); omega) (by (try simp [-List.getD_eq_getElem?_getD] at h); omega) rfl) ?_
    refine RW.g (b := ((decide (((p.length : Nat) : Int) = 0)) || (!decide (p.getD 0 0 = a)))) (v := .int .i64 (p.getD (p.length - 1) 0)) rfl rfl rfl (fun h => q_load (gv_pos h) Try.underlying3 rfl (Cell.repInt hpv1 (by (try simp [-List.getD_eq_getElem?_getD] at h); omega))) ?_
    refine RW.g (b := ((decide (((p.length : Nat) : Int) = 0)) || (!decide (p.getD 0 0 = a)))) (v := .int .i64 b) rfl rfl rfl (fun h => q_move rfl) ?_
    refine RW.g (b := ((decide (((p.length : Nat) : Int) = 0)) || (!decide (p.getD 0 0 = a)))) (v := .bool (!decide (p.getD (p.length - 1) 0 = b))) rfl rfl rfl (fun h => q_neq (gv_pos h) (gv_pos h)) ?_
    refine RW.q (v := .bool (((decide (((p.length : Nat) : Int) = 0)) || (!decide (p.getD 0 0 = a))) || (!decide (p.getD (p.length - 1) 0 = b)))) rfl (q_pick rfl (fun hp => pkOrT hp) (fun hp => (gv_pos hp).trans (pkOrF hp))) ?_
    refine RW.nil ?_
    refine Post.then_n ?_
    refine AW.cond (b := ((decide (((p.length : Nat) : Int) = 0)) || (!decide (p.getD 0 0 = a))) || (!decide (p.getD (p.length - 1) 0 = b))) rfl (fun hc2 => ?_) (fun hc2 => ?_)
    · simp [-List.getD_eq_getElem?_getD] at hc2
      rcases hc2 with (h | h) | h
      · rw [h] at y0; simp at y0
      · exact absurd y1 h
      · exact absurd y2 h
    · simp [-List.getD_eq_getElem?_getD] at hc2
      refine AW.skip ?_
      refine Post.then_n ?_
      refine AW.seq ?_
      refine AW.seq ?_
      refine AW.region ?_
      refine RW.q (v := .int .i64 1) rfl (q_assign rfl) ?_
      refine RW.nil ?_
      refine Post.then_n ?_
      refine AW.block ?_
      refine AW.loop (fun s J m => ∃ (k : Nat), s = [(0, .int .i64 n), (1, v1), (2, .int .i64 a), (3, .int .i64 b), (9, .bool true), (11, pv1), (13, .int .i64 (k : Int))] ∧ J = St ⟨w, Φ, []⟩ Φ1 [] ∧ m = p.length - k ∧ (1 ≤ k)) (s0 := _) (J1 := _) (m0 := _) ⟨1, rfl, rfl, rfl, (by omega)⟩ ⟨rfl, rfl, rfl, rfl, rfl, rfl, rfl, trivial⟩ (fun _ h => h) ?_
      rintro _ _ _ _ ⟨k, rfl, rfl, rfl, hk⟩
      refine AW.seq ?_
      refine AW.seq ?_
      refine AW.region ?_
      refine RW.q (v := .int .i64 (k : Int)) rfl (q_move rfl) ?_
      refine RW.q (v := pv1) rfl (q_move rfl) ?_
      refine RW.q (v := .int .i64 ((p.length : Nat) : Int)) rfl (q_len_sl rfl hpv1.sl Try.underlying25) ?_
      refine RW.q (v := .bool (decide ((k : Int) < ((p.length : Nat) : Int)))) rfl (q_lss rfl rfl) ?_
      refine RW.nil ?_
      refine Post.then_n ?_
      refine AW.cond (b := decide ((k : Int) < ((p.length : Nat) : Int))) rfl (fun hc3 => ?_) (fun hc3 => ?_)
      · simp [-List.getD_eq_getElem?_getD] at hc3
        refine AW.skip ?_
        refine Post.then_n ?_
        refine AW.seq ?_
        refine AW.block ?_
        refine AW.seq ?_
        refine AW.draw (J0 := St ⟨w, Φ, []⟩ Φ1 []) [true, true, true, true, true, true, true, true, true, true, true, true] hmix (by kernel_rfl) ?_
        refine DW.q (v := v1) (fun _ h => h) rfl (q_move rfl) ?_
        refine DW.q (v := pv1) (fun _ h => h) rfl (q_move rfl) ?_
        refine DW.q (v := .int .i64 (k : Int)) (fun _ h => h) rfl (q_move rfl) ?_
        refine DW.q (v := .int .i64 ((k - 1 : Nat) : Int)) (fun _ h => h) rfl (q_sub rfl rfl (by omega) (by unfold I64; omega)) ?_
        refine DW.q (v := .pointer (some (Value.at pv1 ((k - 1) * 1)))) (fun _ h => h) rfl (q_indexAddr rfl rfl hpv1.sl Try.underlying25 sz3 (by omega) (by omega) rfl) ?_
        refine DW.q (v := .int .i64 (p.getD (k - 1) 0)) (fun _ h => h) rfl (q_load rfl Try.underlying3 rfl (Cell.repInt hpv1 (by omega))) ?_
        refine DW.q (v := pv1) (fun _ h => h) rfl (q_move rfl) ?_
        refine DW.q (v := .int .i64 (k : Int)) (fun _ h => h) rfl (q_move rfl) ?_
        refine DW.q (v := .pointer (some (Value.at pv1 (k * 1)))) (fun _ h => h) rfl (q_indexAddr rfl rfl hpv1.sl Try.underlying25 sz3 (by omega) (by omega) rfl) ?_
        refine DW.q (v := .int .i64 (p.getD k 0)) (fun _ h => h) rfl (q_load rfl Try.underlying3 rfl (Cell.repInt hpv1 (by omega))) ?_
        refine DW.q (v := .bool (decide ((⟨p.getD (k - 1) 0, p.getD k 0⟩ : Gr.Arc) ∈ arcs))) (fun _ h => h) rfl (q_call (args := #[v1, .int .i64 (p.getD (k - 1) 0), .int .i64 (p.getD k 0)]) own14 rfl rfl (fun w1 hw1 => Has_c w1 Φ1 hw1.phi h1)) ?_
        refine DW.q (v := .bool (!(decide ((⟨p.getD (k - 1) 0, p.getD k 0⟩ : Gr.Arc) ∈ arcs)))) (fun _ h => h) rfl (q_not rfl) ?_
        refine DW.nil ?_
        refine Post.then_n ?_
        refine AW.cond (b := !(decide ((⟨p.getD (k - 1) 0, p.getD k 0⟩ : Gr.Arc) ∈ arcs))) rfl (fun hc4 => ?_) (fun hc4 => ?_)
        · simp [-List.getD_eq_getElem?_getD] at hc4
          have := y3 (k - 1) (by omega)
          rw [show k - 1 + 1 = k by omega] at this
          exact absurd this hc4
        · simp [-List.getD_eq_getElem?_getD] at hc4
          refine AW.skip ?_
          refine Post.blk_n (Post.then_n ?_)
          refine AW.region ?_
          refine RW.q (v := .int .i64 (k : Int)) rfl (q_move rfl) ?_
          refine RW.q (v := .int .i64 ((k + 1 : Nat) : Int)) rfl (q_add rfl rfl (by omega) (by unfold I64; omega)) ?_
          refine RW.q (v := .int .i64 ((k + 1 : Nat) : Int)) rfl (q_assign rfl) ?_
          refine RW.nil ?_
          exact Post.back (s' := _) (J' := _) (m' := _) (by omega) ⟨k + 1, rfl, rfl, rfl, (by omega)⟩ ⟨rfl, rfl, rfl, rfl, rfl, rfl, rfl, trivial⟩ (fun _ h => h)
      · simp [-List.getD_eq_getElem?_getD] at hc3
        refine AW.exit ?_
        refine Post.then_x (Post.then_x (Post.blk_hit (Post.then_n ?_)))
        refine AW.seq ?_
        refine AW.seq ?_
        refine AW.region ?_
        refine RW.q (v := .int .i64 0) rfl (q_assign rfl) ?_
        refine RW.nil ?_
        refine Post.then_n ?_
        refine AW.block ?_
        refine AW.loop (fun s J m => ∃ (k : Nat), s = [(0, .int .i64 n), (1, v1), (2, .int .i64 a), (3, .int .i64 b), (9, .bool true), (11, pv1), (14, .int .i64 (k : Int))] ∧ J = St ⟨w, Φ, []⟩ Φ1 [] ∧ m = arcs.length - k ∧ (k ≤ arcs.length)) (s0 := _) (J1 := _) (m0 := _) ⟨0, rfl, rfl, rfl, (by omega)⟩ ⟨rfl, rfl, rfl, rfl, rfl, rfl, rfl, trivial⟩ (fun _ h => h) ?_
        rintro _ _ _ _ ⟨k, rfl, rfl, rfl, hk⟩
        refine AW.seq ?_
        refine AW.seq ?_
        refine AW.region ?_
        refine RW.q (v := .int .i64 (k : Int)) rfl (q_move rfl) ?_
        refine RW.q (v := v1) rfl (q_move rfl) ?_
        refine RW.q (v := .int .i64 ((arcs.length : Nat) : Int)) rfl (q_len_sl rfl h1.sl Try.underlying22) ?_
        refine RW.q (v := .bool (decide ((k : Int) < ((arcs.length : Nat) : Int)))) rfl (q_lss rfl rfl) ?_
        refine RW.nil ?_
        refine Post.then_n ?_
        refine AW.cond (b := decide ((k : Int) < ((arcs.length : Nat) : Int))) rfl (fun hc5 => ?_) (fun hc5 => ?_)
        · simp [-List.getD_eq_getElem?_getD] at hc5
          refine AW.skip ?_
          refine Post.then_n ?_
          refine AW.seq ?_
          refine AW.block ?_
          refine AW.seq ?_
          refine AW.seq ?_
          refine AW.region ?_
          refine RW.q (v := v1) rfl (q_move rfl) ?_
          refine RW.q (v := .int .i64 (k : Int)) rfl (q_move rfl) ?_
          refine RW.q (v := .pointer (some (Value.at v1 (k * 2)))) rfl (q_indexAddr rfl rfl h1.sl Try.underlying22 sz31 (by omega) (by omega) rfl) ?_
          refine RW.q (v := .pointer (some (Value.at v1 (k * 2 + 0)))) rfl (q_fieldAddr rfl Try.underlying31 rfl sz3 at_add) ?_
          refine RW.q (v := .int .i64 ((arcs.getD k default).From)) rfl (q_load rfl Try.underlying3 rfl (Cell.repE (j := 0) h1 (by omega) rfl)) ?_
          refine RW.q (v := .int .i64 a) rfl (q_move rfl) ?_
          refine RW.q (v := .bool (!decide ((arcs.getD k default).From = a))) rfl (q_neq rfl rfl) ?_
          refine RW.q (v := .bool (!decide ((arcs.getD k default).From = a))) rfl (q_move rfl) ?_
          refine RW.g (b := (!decide ((arcs.getD k default).From = a))) (v := .int .i64 a) rfl rfl rfl (fun h => q_move rfl) ?_
          refine RW.g (b := (!decide ((arcs.getD k default).From = a))) (v := .int .i64 b) rfl rfl rfl (fun h => q_move rfl) ?_
          refine RW.g (b := (!decide ((arcs.getD k default).From = a))) (v := .bool (decide (a = b))) rfl rfl rfl (fun h => q_eql (gv_pos h) (gv_pos h)) ?_
          refine RW.q (v := .bool ((!decide ((arcs.getD k default).From = a)) || (decide (a = b)))) rfl (q_pick rfl (fun hp => pkOrT hp) (fun hp => (gv_pos hp).trans (pkOrF hp))) ?_
          refine RW.nil ?_
          refine Post.then_n ?_
          refine AW.cond (b := (!decide ((arcs.getD k default).From = a)) || (decide (a = b))) rfl (fun hc6 => ?_) (fun hc6 => ?_)
          · simp [-List.getD_eq_getElem?_getD] at hc6
            refine AW.exit ?_
            refine Post.then_x (Post.blk_hit (Post.then_n ?_))
            refine AW.region ?_
            refine RW.q (v := .int .i64 (k : Int)) rfl (q_move rfl) ?_
            refine RW.q (v := .int .i64 ((k + 1 : Nat) : Int)) rfl (q_add rfl rfl (by omega) (by unfold I64; omega)) ?_
            refine RW.q (v := .int .i64 ((k + 1 : Nat) : Int)) rfl (q_assign rfl) ?_
            refine RW.nil ?_
            exact Post.back (s' := _) (J' := _) (m' := _) (by omega) ⟨k + 1, rfl, rfl, rfl, (by omega)⟩ ⟨rfl, rfl, rfl, rfl, rfl, rfl, rfl, trivial⟩ (fun _ h => h)
          · simp [-List.getD_eq_getElem?_getD] at hc6
            refine AW.skip ?_
            refine Post.then_n ?_
            refine AW.seq ?_
            refine AW.region ?_
            refine RW.q (v := .int .i64 n) rfl (q_move rfl) ?_
            refine RW.q (v := v1) rfl (q_move rfl) ?_
            refine RW.q (v := v1) rfl (q_move rfl) ?_
            refine RW.q (v := .int .i64 (k : Int)) rfl (q_move rfl) ?_
            refine RW.q (v := .pointer (some (Value.at v1 (k * 2)))) rfl (q_indexAddr rfl rfl h1.sl Try.underlying22 sz31 (by omega) (by omega) rfl) ?_
            refine RW.q (v := .pointer (some (Value.at v1 (k * 2 + 1)))) rfl (q_fieldAddr rfl Try.underlying31 rfl sz3 at_add) ?_
            refine RW.q (v := .int .i64 ((arcs.getD k default).To)) rfl (q_load rfl Try.underlying3 rfl (Cell.repE (j := 1) h1 (by omega) rfl)) ?_
            refine RW.q (v := .int .i64 b) rfl (q_move rfl) ?_
            refine RW.eff (fun x : {y : Value × Hp // (fun r Ψ => PairRep Ψ (Gr.pathM n arcs ((arcs.getD k default).To) b) r) y.1 y.2 ∧ Hp.le Φ1 y.2} => x.1.1) (fun x => St ⟨w, Φ, []⟩ x.1.2 []) rfl (e_callS (T := fun r Ψ => PairRep Ψ (Gr.pathM n arcs ((arcs.getD k default).To) b) r) (args := #[.int .i64 n, v1, .int .i64 ((arcs.getD k default).To), .int .i64 b]) own17 rfl rfl (fun w1 hw1 => (Path_c w1 Φ1 hw1.phi h1).mono fun _ _ => retS_up (fun _ _ _ hl h => h.mono hl))) ?_
            rintro ⟨⟨rp2, Φ2⟩, hrp2, hlΦ2⟩
            replace hrp2 : PairRep Φ2 (Gr.pathM n arcs ((arcs.getD k default).To) b) rp2 := hrp2
            replace hlΦ2 : Hp.le Φ1 Φ2 := hlΦ2
            replace h1 := h1.mono hlΦ2
            replace hpv1 := hpv1.mono hlΦ2
            obtain ⟨pv2, rfl, hpv2⟩ := hrp2
            refine RW.q (v := .tuple #[pv2, .bool ((Gr.pathM n arcs ((arcs.getD k default).To) b).isSome)]) rfl (q_move rfl) ?_
            refine RW.q (v := pv2) rfl (q_extract rfl rfl) ?_
            refine RW.q (v := .bool ((Gr.pathM n arcs ((arcs.getD k default).To) b).isSome)) rfl (q_extract rfl rfl) ?_
            refine RW.q (v := pv2) rfl (q_assign rfl) ?_
            refine RW.q (v := .bool ((Gr.pathM n arcs ((arcs.getD k default).To) b).isSome)) rfl (q_assign rfl) ?_
            refine RW.nil ?_
            refine Post.then_n ?_
            refine AW.seq ?_
            have hmq : ((Gr.pathM n arcs (arcs.getD k default).To b).getD []).length * 8 ≤ 140737488355328 := hpv2.max
            refine AW.draw (J0 := St ⟨w, Φ, []⟩ Φ2 []) [true, true, true, true, true, true, true, true, true, true, true, true, true, true, true, true, true, true, true, true, true, true, true, true, true, true, true, true] hmix (by kernel_rfl) ?_
            refine DW.q (v := .bool ((Gr.pathM n arcs ((arcs.getD k default).To) b).isSome)) (fun _ h => h) rfl (q_move rfl) ?_
            refine DW.q (v := .bool ((Gr.pathM n arcs ((arcs.getD k default).To) b).isSome)) (fun _ h => h) rfl (q_move rfl) ?_
            refine DW.g (b := ((Gr.pathM n arcs ((arcs.getD k default).To) b).isSome)) (v := pv2) (fun _ h => h) rfl rfl rfl (fun h => q_move rfl) ?_
            refine DW.g (b := ((Gr.pathM n arcs ((arcs.getD k default).To) b).isSome)) (v := .int .i64 ((((Gr.pathM n arcs ((arcs.getD k default).To) b).getD []).length : Nat) : Int)) (fun _ h => h) rfl rfl rfl (fun h => q_len_sl (gv_pos h) hpv2.sl Try.underlying25) ?_
            refine DW.g (b := ((Gr.pathM n arcs ((arcs.getD k default).To) b).isSome)) (v := .int .i64 ((((Gr.pathM n arcs ((arcs.getD k default).To) b).getD []).length + 1 : Nat) : Int)) (fun _ h => h) rfl rfl rfl (fun h => q_add (gv_pos h) rfl (by (try simp [-List.getD_eq_getElem?_getD] at h); omega) (by unfold I64; omega)) ?_
            refine DW.g (b := ((Gr.pathM n arcs ((arcs.getD k default).To) b).isSome)) (v := pv1) (fun _ h => h) rfl rfl rfl (fun h => q_move rfl) ?_
            refine DW.g (b := ((Gr.pathM n arcs ((arcs.getD k default).To) b).isSome)) (v := .int .i64 ((p.length : Nat) : Int)) (fun _ h => h) rfl rfl rfl (fun h => q_len_sl (gv_pos h) hpv1.sl Try.underlying25) ?_
            refine DW.g (b := ((Gr.pathM n arcs ((arcs.getD k default).To) b).isSome)) (v := .bool (decide (((((Gr.pathM n arcs ((arcs.getD k default).To) b).getD []).length + 1 : Nat) : Int) < ((p.length : Nat) : Int)))) (fun _ h => h) rfl rfl rfl (fun h => q_lss (gv_pos h) (gv_pos h)) ?_
            refine DW.g (b := ((Gr.pathM n arcs ((arcs.getD k default).To) b).isSome)) (v := .bool (decide (((((Gr.pathM n arcs ((arcs.getD k default).To) b).getD []).length + 1 : Nat) : Int) < ((p.length : Nat) : Int)))) (fun _ h => h) rfl rfl rfl (fun h => q_move (gv_pos h)) ?_
            refine DW.g2 (b1 := ((Gr.pathM n arcs ((arcs.getD k default).To) b).isSome)) (b2 := (decide (((((Gr.pathM n arcs ((arcs.getD k default).To) b).getD []).length + 1 : Nat) : Int) < ((p.length : Nat) : Int)))) (v := pv2) (fun _ h => h) rfl rfl rfl (fun hg1 hg2 => q_move rfl) ?_
            refine DW.g2 (b1 := ((Gr.pathM n arcs ((arcs.getD k default).To) b).isSome)) (b2 := (decide (((((Gr.pathM n arcs ((arcs.getD k default).To) b).getD []).length + 1 : Nat) : Int) < ((p.length : Nat) : Int)))) (v := .int .i64 ((((Gr.pathM n arcs ((arcs.getD k default).To) b).getD []).length : Nat) : Int)) (fun _ h => h) rfl rfl rfl (fun hg1 hg2 => q_len_sl ((gv_pos hg1).trans (gv_pos hg2)) hpv2.sl Try.underlying25) ?_
            refine DW.g2 (b1 := ((Gr.pathM n arcs ((arcs.getD k default).To) b).isSome)) (b2 := (decide (((((Gr.pathM n arcs ((arcs.getD k default).To) b).getD []).length + 1 : Nat) : Int) < ((p.length : Nat) : Int)))) (v := .int .i64 ((((Gr.pathM n arcs ((arcs.getD k default).To) b).getD []).length + 1 : Nat) : Int)) (fun _ h => h) rfl rfl rfl (fun hg1 hg2 => q_add ((gv_pos hg1).trans (gv_pos hg2)) rfl (by (try simp [-List.getD_eq_getElem?_getD] at hg1); (try simp [-List.getD_eq_getElem?_getD] at hg2); omega) (by unfold I64; omega)) ?_
            refine DW.g2 (b1 := ((Gr.pathM n arcs ((arcs.getD k default).To) b).isSome)) (b2 := (decide (((((Gr.pathM n arcs ((arcs.getD k default).To) b).getD []).length + 1 : Nat) : Int) < ((p.length : Nat) : Int)))) (v := pv1) (fun _ h => h) rfl rfl rfl (fun hg1 hg2 => q_move rfl) ?_
            refine DW.g2 (b1 := ((Gr.pathM n arcs ((arcs.getD k default).To) b).isSome)) (b2 := (decide (((((Gr.pathM n arcs ((arcs.getD k default).To) b).getD []).length + 1 : Nat) : Int) < ((p.length : Nat) : Int)))) (v := .int .i64 ((p.length : Nat) : Int)) (fun _ h => h) rfl rfl rfl (fun hg1 hg2 => q_len_sl ((gv_pos hg1).trans (gv_pos hg2)) hpv1.sl Try.underlying25) ?_
            refine DW.g2 (b1 := ((Gr.pathM n arcs ((arcs.getD k default).To) b).isSome)) (b2 := (decide (((((Gr.pathM n arcs ((arcs.getD k default).To) b).getD []).length + 1 : Nat) : Int) < ((p.length : Nat) : Int)))) (v := .bool (decide (((((Gr.pathM n arcs ((arcs.getD k default).To) b).getD []).length + 1 : Nat) : Int) = ((p.length : Nat) : Int)))) (fun _ h => h) rfl rfl rfl (fun hg1 hg2 => q_eql ((gv_pos hg1).trans (gv_pos hg2)) ((gv_pos hg1).trans (gv_pos hg2))) ?_
            refine DW.g2 (b1 := ((Gr.pathM n arcs ((arcs.getD k default).To) b).isSome)) (b2 := (decide (((((Gr.pathM n arcs ((arcs.getD k default).To) b).getD []).length + 1 : Nat) : Int) < ((p.length : Nat) : Int)))) (v := .bool (decide (((((Gr.pathM n arcs ((arcs.getD k default).To) b).getD []).length + 1 : Nat) : Int) = ((p.length : Nat) : Int)))) (fun _ h => h) rfl rfl rfl (fun hg1 hg2 => q_move ((gv_pos hg1).trans (gv_pos hg2))) ?_
            refine DW.g3 (b1 := ((Gr.pathM n arcs ((arcs.getD k default).To) b).isSome)) (b2 := (decide (((((Gr.pathM n arcs ((arcs.getD k default).To) b).getD []).length + 1 : Nat) : Int) < ((p.length : Nat) : Int)))) (b3 := (decide (((((Gr.pathM n arcs ((arcs.getD k default).To) b).getD []).length + 1 : Nat) : Int) = ((p.length : Nat) : Int)))) (v := v1) (fun _ h => h) rfl rfl rfl (fun hg1 hg2 hg3 => q_move rfl) ?_
            refine DW.g3 (b1 := ((Gr.pathM n arcs ((arcs.getD k default).To) b).isSome)) (b2 := (decide (((((Gr.pathM n arcs ((arcs.getD k default).To) b).getD []).length + 1 : Nat) : Int) < ((p.length : Nat) : Int)))) (b3 := (decide (((((Gr.pathM n arcs ((arcs.getD k default).To) b).getD []).length + 1 : Nat) : Int) = ((p.length : Nat) : Int)))) (v := .int .i64 (k : Int)) (fun _ h => h) rfl rfl rfl (fun hg1 hg2 hg3 => q_move rfl) ?_
            refine DW.g3 (b1 := ((Gr.pathM n arcs ((arcs.getD k default).To) b).isSome)) (b2 := (decide (((((Gr.pathM n arcs ((arcs.getD k default).To) b).getD []).length + 1 : Nat) : Int) < ((p.length : Nat) : Int)))) (b3 := (decide (((((Gr.pathM n arcs ((arcs.getD k default).To) b).getD []).length + 1 : Nat) : Int) = ((p.length : Nat) : Int)))) (v := .pointer (some (Value.at v1 (k * 2)))) (fun _ h => h) rfl rfl rfl (fun hg1 hg2 hg3 => q_indexAddr ((gv_pos hg1).trans ((gv_pos hg2).trans (gv_pos hg3))) ((gv_pos hg1).trans ((gv_pos hg2).trans (gv_pos hg3))) h1.sl Try.underlying22 sz31 (by (try simp [-List.getD_eq_getElem?_getD] at hg1); (try simp [-List.getD_eq_getElem?_getD] at hg2); (try simp [-List.getD_eq_getElem?_getD] at hg3); omega) (by (try simp [-List.getD_eq_getElem?_getD] at hg1); (try simp [-List.getD_eq_getElem?_getD] at hg2); (try simp [-List.getD_eq_getElem?_getD] at hg3); omega) rfl) ?_
            refine DW.g3 (b1 := ((Gr.pathM n arcs ((arcs.getD k default).To) b).isSome)) (b2 := (decide (((((Gr.pathM n arcs ((arcs.getD k default).To) b).getD []).length + 1 : Nat) : Int) < ((p.length : Nat) : Int)))) (b3 := (decide (((((Gr.pathM n arcs ((arcs.getD k default).To) b).getD []).length + 1 : Nat) : Int) = ((p.length : Nat) : Int)))) (v := .pointer (some (Value.at v1 (k * 2 + 1)))) (fun _ h => h) rfl rfl rfl (fun hg1 hg2 hg3 => q_fieldAddr ((gv_pos hg1).trans ((gv_pos hg2).trans (gv_pos hg3))) Try.underlying31 rfl sz3 at_add) ?_
            refine DW.g3 (b1 := ((Gr.pathM n arcs ((arcs.getD k default).To) b).isSome)) (b2 := (decide (((((Gr.pathM n arcs ((arcs.getD k default).To) b).getD []).length + 1 : Nat) : Int) < ((p.length : Nat) : Int)))) (b3 := (decide (((((Gr.pathM n arcs ((arcs.getD k default).To) b).getD []).length + 1 : Nat) : Int) = ((p.length : Nat) : Int)))) (v := .int .i64 ((arcs.getD k default).To)) (fun _ h => h) rfl rfl rfl (fun hg1 hg2 hg3 => q_load ((gv_pos hg1).trans ((gv_pos hg2).trans (gv_pos hg3))) Try.underlying3 rfl (Cell.repE (j := 1) h1 (by (try simp [-List.getD_eq_getElem?_getD] at hg1); (try simp [-List.getD_eq_getElem?_getD] at hg2); (try simp [-List.getD_eq_getElem?_getD] at hg3); omega) rfl)) ?_
            refine DW.g3 (b1 := ((Gr.pathM n arcs ((arcs.getD k default).To) b).isSome)) (b2 := (decide (((((Gr.pathM n arcs ((arcs.getD k default).To) b).getD []).length + 1 : Nat) : Int) < ((p.length : Nat) : Int)))) (b3 := (decide (((((Gr.pathM n arcs ((arcs.getD k default).To) b).getD []).length + 1 : Nat) : Int) = ((p.length : Nat) : Int)))) (v := pv1) (fun _ h => h) rfl rfl rfl (fun hg1 hg2 hg3 => q_move rfl) ?_
            refine DW.g3 (b1 := ((Gr.pathM n arcs ((arcs.getD k default).To) b).isSome)) (b2 := (decide (((((Gr.pathM n arcs ((arcs.getD k default).To) b).getD []).length + 1 : Nat) : Int) < ((p.length : Nat) : Int)))) (b3 := (decide (((((Gr.pathM n arcs ((arcs.getD k default).To) b).getD []).length + 1 : Nat) : Int) = ((p.length : Nat) : Int)))) (v := .pointer (some (Value.at pv1 (1 * 1)))) (fun _ h => h) rfl rfl rfl (fun hg1 hg2 hg3 => q_indexAddr ((gv_pos hg1).trans ((gv_pos hg2).trans (gv_pos hg3))) rfl hpv1.sl Try.underlying25 sz3 (by (try simp [-List.getD_eq_getElem?_getD] at hg1); (try simp [-List.getD_eq_getElem?_getD] at hg2); (try simp [-List.getD_eq_getElem?_getD] at hg3); omega) (by (try simp [-List.getD_eq_getElem?_getD] at hg1); (try simp [-List.getD_eq_getElem?_getD] at hg2); (try simp [-List.getD_eq_getElem?_getD] at hg3); omega) rfl) ?_
            refine DW.g3 (b1 := ((Gr.pathM n arcs ((arcs.getD k default).To) b).isSome)) (b2 := (decide (((((Gr.pathM n arcs ((arcs.getD k default).To) b).getD []).length + 1 : Nat) : Int) < ((p.length : Nat) : Int)))) (b3 := (decide (((((Gr.pathM n arcs ((arcs.getD k default).To) b).getD []).length + 1 : Nat) : Int) = ((p.length : Nat) : Int)))) (v := .int .i64 (p.getD 1 0)) (fun _ h => h) rfl rfl rfl (fun hg1 hg2 hg3 => q_load ((gv_pos hg1).trans ((gv_pos hg2).trans (gv_pos hg3))) Try.underlying3 rfl (Cell.repInt hpv1 (by (try simp [-List.getD_eq_getElem?_getD] at hg1); (try simp [-List.getD_eq_getElem?_getD] at hg2); (try simp [-List.getD_eq_getElem?_getD] at hg3); omega))) ?_
            refine DW.g3 (b1 := ((Gr.pathM n arcs ((arcs.getD k default).To) b).isSome)) (b2 := (decide (((((Gr.pathM n arcs ((arcs.getD k default).To) b).getD []).length + 1 : Nat) : Int) < ((p.length : Nat) : Int)))) (b3 := (decide (((((Gr.pathM n arcs ((arcs.getD k default).To) b).getD []).length + 1 : Nat) : Int) = ((p.length : Nat) : Int)))) (v := .bool (decide ((arcs.getD k default).To < p.getD 1 0))) (fun _ h => h) rfl rfl rfl (fun hg1 hg2 hg3 => q_lss ((gv_pos hg1).trans ((gv_pos hg2).trans (gv_pos hg3))) ((gv_pos hg1).trans ((gv_pos hg2).trans (gv_pos hg3)))) ?_
            refine DW.g2 (b1 := ((Gr.pathM n arcs ((arcs.getD k default).To) b).isSome)) (b2 := (decide (((((Gr.pathM n arcs ((arcs.getD k default).To) b).getD []).length + 1 : Nat) : Int) < ((p.length : Nat) : Int)))) (v := .bool ((decide (((((Gr.pathM n arcs ((arcs.getD k default).To) b).getD []).length + 1 : Nat) : Int) = ((p.length : Nat) : Int))) && (decide ((arcs.getD k default).To < p.getD 1 0)))) (fun _ h => h) rfl rfl rfl (fun hg1 hg2 => q_pick ((gv_pos hg1).trans (gv_pos hg2)) (fun hp => (gv_pos hg1).trans ((gv_pos hg2).trans ((gv_pos hp).trans (pkAndT hp)))) (fun hp => pkAndF hp)) ?_
            refine DW.g (b := ((Gr.pathM n arcs ((arcs.getD k default).To) b).isSome)) (v := .bool ((decide (((((Gr.pathM n arcs ((arcs.getD k default).To) b).getD []).length + 1 : Nat) : Int) < ((p.length : Nat) : Int))) || ((decide (((((Gr.pathM n arcs ((arcs.getD k default).To) b).getD []).length + 1 : Nat) : Int) = ((p.length : Nat) : Int))) && (decide ((arcs.getD k default).To < p.getD 1 0))))) (fun _ h => h) rfl rfl rfl (fun h => q_pick (gv_pos h) (fun hp => pkOrT hp) (fun hp => (gv_pos h).trans ((gv_pos hp).trans (pkOrF hp)))) ?_
            refine DW.q (v := .bool (((Gr.pathM n arcs ((arcs.getD k default).To) b).isSome) && ((decide (((((Gr.pathM n arcs ((arcs.getD k default).To) b).getD []).length + 1 : Nat) : Int) < ((p.length : Nat) : Int))) || ((decide (((((Gr.pathM n arcs ((arcs.getD k default).To) b).getD []).length + 1 : Nat) : Int) = ((p.length : Nat) : Int))) && (decide ((arcs.getD k default).To < p.getD 1 0)))))) (fun _ h => h) rfl (q_pick rfl (fun hp => (gv_pos hp).trans (pkAndT hp)) (fun hp => pkAndF hp)) ?_
            refine DW.nil ?_
            refine Post.then_n ?_
            refine AW.cond (b := ((Gr.pathM n arcs ((arcs.getD k default).To) b).isSome) && ((decide (((((Gr.pathM n arcs ((arcs.getD k default).To) b).getD []).length + 1 : Nat) : Int) < ((p.length : Nat) : Int))) || ((decide (((((Gr.pathM n arcs ((arcs.getD k default).To) b).getD []).length + 1 : Nat) : Int) = ((p.length : Nat) : Int))) && (decide ((arcs.getD k default).To < p.getD 1 0))))) rfl (fun hc7 => ?_) (fun hc7 => ?_)
            · simp [-List.getD_eq_getElem?_getD] at hc7
              obtain ⟨hq1, hq2⟩ := hc7
              obtain ⟨q, hq⟩ := Option.isSome_iff_exists.1 hq1
              have hx := (Gr.right_at (Gr.path_parts hp).1.1 hc5).2.2
              rw [hc6.1] at hx
              have y := Gr.path_least hp hc6.2 hx hq
              rw [hq] at hq2
              simp only [Option.getD_some] at hq2
              omega
            · simp [-List.getD_eq_getElem?_getD] at hc7
              refine AW.skip ?_
              refine Post.blk_n (Post.then_n ?_)
              refine AW.region ?_
              refine RW.q (v := .int .i64 (k : Int)) rfl (q_move rfl) ?_
              refine RW.q (v := .int .i64 ((k + 1 : Nat) : Int)) rfl (q_add rfl rfl (by omega) (by unfold I64; omega)) ?_
              refine RW.q (v := .int .i64 ((k + 1 : Nat) : Int)) rfl (q_assign rfl) ?_
              refine RW.nil ?_
              exact Post.back (s' := _) (J' := _) (m' := _) (by omega) ⟨k + 1, rfl, rfl, rfl, (by omega)⟩ ⟨rfl, rfl, rfl, rfl, rfl, rfl, rfl, trivial⟩ (fun _ h => StP.know (by assumption) h)
        · simp [-List.getD_eq_getElem?_getD] at hc5
          refine AW.exit ?_
          refine Post.then_x (Post.then_x (Post.blk_hit (Post.then_n ?_)))
          refine AW.seq ?_
          refine AW.region ?_
          refine RW.q (v := .bool true) rfl (q_move rfl) ?_
          refine RW.q (v := .bool true) rfl (q_move rfl) ?_
          refine RW.gl (v := .int .i64 a) rfl rfl rfl (q_move rfl) ?_
          refine RW.gl (v := .int .i64 b) rfl rfl rfl (q_move rfl) ?_
          refine RW.gl (v := .bool (!decide (a = b))) rfl rfl rfl (q_neq rfl rfl) ?_
          refine RW.gl (v := .bool (!decide (a = b))) rfl rfl rfl (q_move rfl) ?_
          refine RW.g (b := (!decide (a = b))) (v := pv1) rfl rfl rfl (fun h => q_move rfl) ?_
          refine RW.g (b := (!decide (a = b))) (v := .int .i64 ((p.length : Nat) : Int)) rfl rfl rfl (fun h => q_len_sl (gv_pos h) hpv1.sl Try.underlying25) ?_
          refine RW.g (b := (!decide (a = b))) (v := .bool (decide (((p.length : Nat) : Int) = 1))) rfl rfl rfl (fun h => q_eql (gv_pos h) rfl) ?_
          refine RW.gl (v := .bool ((!decide (a = b)) || (decide (((p.length : Nat) : Int) = 1)))) rfl rfl rfl (q_pick rfl (fun hp => pkOrT hp) (fun hp => (gv_pos hp).trans (pkOrF hp))) ?_
          refine RW.q (v := .bool (true && ((!decide (a = b)) || (decide (((p.length : Nat) : Int) = 1))))) rfl (q_pick rfl (fun hp => pkAndT hp) (fun hp => pkAndF hp)) ?_
          refine RW.q (v := .bool (true && ((!decide (a = b)) || (decide (((p.length : Nat) : Int) = 1))))) rfl (q_assign rfl) ?_
          refine RW.nil ?_
          refine Post.then_n ?_
          refine AW.ret ?_
          exact fin_val (v' := .bool (true && ((!decide (a = b)) || (decide (((p.length : Nat) : Int) = 1))))) rfl rfl rfl (by by_cases e : a = b <;> simp [e] <;> (have := y4 e; omega))

end Go.Proofs.Ytjkoojeampaeeaa
