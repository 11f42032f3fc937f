/- Walks (part TrC), printed by walk2.py. Conditions: those of each theorem. -/
import Derived.Test.YtjcahklnkakklaaDoorTTrB
import Derived.Test.YtjcahklnkakklaaDoorTPaB
namespace Go.Proofs.YtjcahklnkakklaaDoor
open Go Go.K Go.RowKit

set_option maxRecDepth 8000 in
set_option maxHeartbeats 1000000 in
theorem isProp_c (w : World) (Φ : Hp) (hΦ : Hp.le Φ (hp w)) (hG : Knows Φ Glob) {x : Bt.Node} {kv : Value} (hk : RepSl Φ x.Kids kv) (hwx : wfN x) :
    Calls Tryd.prog 36 #[.agg (ndC x kv).toArray] w fun e w' => e = .returned (.bool (Pa.isProp x)) ∧ Bel w.heap.size w w' := by
  refine calls_of_AW (args := [.agg #[.int .i64 x.Kind, .string (bs x.Text), .int .i64 x.N, .int .i64 x.Dim, .int .i64 x.At, kv]]) Tryd.func36 rfl (Nat.le_of_ble_eq_true rfl) (St ⟨w, Φ, []⟩ Φ []) (StP.init w Φ hΦ []) ?_
  show AW Tryd.prog 60 [] _ _ _ [(0, .agg #[.int .i64 x.Kind, .string (bs x.Text), .int .i64 x.N, .int .i64 x.Dim, .int .i64 x.At, kv])] _
  have hkm : x.Kids.length * 72 ≤ 140737488355328 := hk.max
  have htl : x.Text.length ≤ maxLen := hwx.2.1
  refine AW.seq ?_
  refine AW.region ?_
  refine RW.eff (fun b1 : Nat => .pointer (some (⟨b1, 0, none⟩))) (fun b1 => St ⟨w, Φ, []⟩ Φ [.blk b1 26 [.int .i64 x.Kind, .string (bs x.Text), .int .i64 x.N, .int .i64 x.Dim, .int .i64 x.At, kv]]) rfl (e_boxA (cs := [.int .i64 x.Kind, .string (bs x.Text), .int .i64 x.N, .int .i64 x.Dim, .int .i64 x.At, kv]) rfl) ?_
  intro b1
  refine RW.q (v := .bool false) rfl (q_assign rfl) ?_
  refine RW.nil ?_
  refine Post.then_n ?_
  refine AW.seq ?_
  refine AW.seq ?_
  refine AW.region ?_
  refine RW.q (v := .pointer (some (⟨b1, 0, none⟩))) rfl (q_fieldAddr rfl Tryd.underlying26 rfl sz3 rfl) ?_
  refine RW.q (v := .int .i64 x.Kind) rfl (q_load rfl Tryd.underlying3 rfl (Cell.blk 0 rfl rfl)) ?_
  refine RW.q (v := .bool (!decide (x.Kind = 2))) rfl (q_neq rfl rfl) ?_
  refine RW.q (v := .bool (!decide (x.Kind = 2))) rfl (q_move rfl) ?_
  refine RW.g (b := (!decide (x.Kind = 2))) (v := .pointer (some (⟨b1, 1, none⟩))) rfl rfl rfl (fun h => q_fieldAddr rfl Tryd.underlying26 rfl sz9 rfl) ?_
  refine RW.g (b := (!decide (x.Kind = 2))) (v := .string (bs x.Text)) rfl rfl rfl (fun h => q_load (gv_pos h) Tryd.underlying9 rfl (Cell.blk 0 rfl rfl)) ?_
  refine RW.g (b := (!decide (x.Kind = 2))) (v := .bool (Pa.isName x.Text)) rfl rfl rfl (fun h => q_call (args := #[.string (bs x.Text)]) own34 rfl (args1 (gv_pos h)) (fun w1 hw1 => isName_c w1 (Go.K.hp w1) (Hp.le_refl _) (by (try simp [-List.getD_eq_getElem?_getD] at h); omega))) ?_
  refine RW.g (b := (!decide (x.Kind = 2))) (v := .bool (!(Pa.isName x.Text))) rfl rfl rfl (fun h => q_not (gv_pos h)) ?_
  obtain ⟨qb1, hqb1⟩ : ∃ qz : Bool, ((!decide (x.Kind = 2)) || (!(Pa.isName x.Text))) = qz := ⟨_, rfl⟩
  refine RW.q (v := .bool qb1) rfl (q_as (v := .bool ((!decide (x.Kind = 2)) || (!(Pa.isName x.Text)))) (q_pick rfl (fun hp => pkOrT hp) (fun hp => (gv_pos hp).trans (pkOrF hp))) (congrArg Value.bool hqb1)) ?_
  refine RW.q (v := .bool qb1) rfl (q_move rfl) ?_
  refine RW.g (b := qb1) (v := .pointer (some (⟨b1, 2, none⟩))) rfl rfl rfl (fun h => q_fieldAddr rfl Tryd.underlying26 rfl sz23 rfl) ?_
  refine RW.g (b := qb1) (v := .agg #[.int .i64 x.N, .int .i64 x.Dim]) rfl rfl rfl (fun h => q_loadAgg (gv_pos h) Tryd.underlying23 rfl sz23 rfl (Cells.blkP (off := 2) 0 rfl (fun j u hu => (by rcases j with _ | (_ | _) <;> first | exact hu | cases hu)))) ?_
  refine RW.g (b := qb1) (v := .agg #[.int .i64 0, .int .i64 0]) rfl rfl rfl (fun h => q_build (vals := []) zero23 Tryd.underlying23 places23 rfl rfl) ?_
  refine RW.g (b := qb1) (v := .bool (!(decide (x.N = 0) && decide (x.Dim = 0)))) rfl rfl rfl (fun h => q_neqS (gv_pos h) (gv_pos h) (eqS23 _ _ _ _) eqG23) ?_
  obtain ⟨qb2, hqb2⟩ : ∃ qz : Bool, (qb1 || (!(decide (x.N = 0) && decide (x.Dim = 0)))) = qz := ⟨_, rfl⟩
  refine RW.q (v := .bool qb2) rfl (q_as (v := .bool (qb1 || (!(decide (x.N = 0) && decide (x.Dim = 0))))) (q_pick rfl (fun hp => pkOrT hp) (fun hp => (gv_pos hp).trans (pkOrF hp))) (congrArg Value.bool hqb2)) ?_
  subst hqb2 hqb1
  refine RW.nil ?_
  refine Post.then_n ?_
  refine AW.cond (b := (((!decide (x.Kind = 2)) || (!(Pa.isName x.Text))) || (!(decide (x.N = 0) && decide (x.Dim = 0))))) rfl (fun hc1 => ?_) (fun hc1 => ?_)
  · simp [-List.getD_eq_getElem?_getD] at hc1
    refine AW.seq ?_
    refine AW.region ?_
    refine RW.q (v := .bool false) rfl (q_assign rfl) ?_
    refine RW.nil ?_
    refine Post.then_n ?_
    refine AW.ret ?_
    refine Post.then_r ?_
    exact fin_val (v' := .bool false) rfl rfl rfl (congrArg Value.bool (by unfold Pa.isProp; rw [eq_comm, Bool.eq_false_iff]; intro h9; simp only [Bool.and_eq_true, decide_eq_true_eq] at h9; obtain ⟨⟨⟨h1, h2⟩, h3⟩, _⟩ := h9; simp [h1, h2, h3] at hc1))
  · simp [-List.getD_eq_getElem?_getD] at hc1
    refine AW.skip ?_
    refine Post.then_n ?_
    refine AW.seq ?_
    refine AW.seq ?_
    refine AW.region ?_
    refine RW.q (v := .pointer (some (⟨b1, 5, none⟩))) rfl (q_fieldAddr rfl Tryd.underlying26 rfl sz24 rfl) ?_
    refine RW.q (v := kv) rfl (q_load rfl Tryd.underlying24 rfl (Cell.blk 0 rfl rfl)) ?_
    refine RW.q (v := .int .i64 ((x.Kids.length : Nat) : Int)) rfl (q_len_sl rfl hk.sl Tryd.underlying24) ?_
    refine RW.q (v := .int .i64 0) rfl (q_move rfl) ?_
    refine RW.nil ?_
    refine Post.then_n ?_
    refine AW.block ?_
    refine AW.loop (fun s J m => ∃ (i : Nat), s = [(1, .pointer (some (⟨b1, 0, none⟩))), (22, kv), (23, .int .i64 ((x.Kids.length : Nat) : Int)), (24, .int .i64 (i : Int))] ∧ J = St ⟨w, Φ, []⟩ Φ [.blk b1 26 [.int .i64 x.Kind, .string (bs x.Text), .int .i64 x.N, .int .i64 x.Dim, .int .i64 x.At, kv]] ∧ m = x.Kids.length - i ∧ (i ≤ x.Kids.length) ∧ (∀ j, j < i → Pa.isVal 0 (x.Kids.getD j default) = true ∧ Pa.pairAt x.Kids j)) (s0 := _) (J1 := _) (m0 := _) ⟨0, rfl, rfl, rfl, (Nat.zero_le _), (fun j hj => absurd hj (Nat.not_lt_zero j))⟩ ⟨rfl, rfl, rfl, rfl, trivial⟩ (fun _ h => h) ?_
    rintro _ _ _ _ ⟨i, rfl, rfl, rfl, hil, hA⟩
    refine AW.seq ?_
    refine AW.region ?_
    refine RW.q (v := .bool (decide ((i : Int) < ((x.Kids.length : Nat) : Int)))) rfl (q_lss rfl rfl) ?_
    refine RW.nil ?_
    refine Post.then_n ?_
    refine AW.seq ?_
    refine AW.cond (b := decide ((i : Int) < ((x.Kids.length : Nat) : Int))) rfl (fun hc2 => ?_) (fun hc2 => ?_)
    · simp [-List.getD_eq_getElem?_getD] at hc2
      refine AW.skip ?_
      refine Post.then_n ?_
      refine AW.seq ?_
      refine AW.block ?_
      refine AW.seq ?_
      refine AW.region ?_
      refine RW.q (v := .int .i64 (i : Int)) rfl (q_move rfl) ?_
      refine RW.q (v := .pointer (some (Value.at kv (i * 6)))) rfl (q_indexAddr rfl rfl hk.sl Tryd.underlying24 sz26 (by omega) (by omega) rfl) ?_
      obtain ⟨cv1, hcr1, hcc1⟩ := RepSl.whole (k := i) hk (by omega)
      obtain ⟨sv1, hcE1, hcw1, hsv1⟩ := repN.1 hcr1
      subst hcE1
      refine RW.q (v := .agg #[.int .i64 ((x.Kids.getD i default).Kind), .string (bs ((x.Kids.getD i default).Text)), .int .i64 ((x.Kids.getD i default).N), .int .i64 ((x.Kids.getD i default).Dim), .int .i64 ((x.Kids.getD i default).At), sv1]) rfl (q_loadAgg rfl Tryd.underlying26 rfl sz26 rfl (Cells.phiK hcc1)) ?_
      refine RW.eff (fun b2 : Nat => .pointer (some (⟨b2, 0, none⟩))) (fun b2 => St ⟨w, Φ, []⟩ Φ [.blk b2 26 [.int .i64 0, .string (bs ([])), .int .i64 0, .int .i64 0, .int .i64 0, (.slice none 0 0)], .blk b1 26 [.int .i64 x.Kind, .string (bs x.Text), .int .i64 x.N, .int .i64 x.Dim, .int .i64 x.At, kv]]) rfl (e_alloc zero26) ?_
      intro b2
      refine RW.q (v := .int .i64 (i : Int)) rfl (q_assign rfl) ?_
      refine RW.effn (J' := St ⟨w, Φ, []⟩ Φ [.blk b2 26 [.int .i64 ((x.Kids.getD i default).Kind), .string (bs ((x.Kids.getD i default).Text)), .int .i64 ((x.Kids.getD i default).N), .int .i64 ((x.Kids.getD i default).Dim), .int .i64 ((x.Kids.getD i default).At), sv1], .blk b1 26 [.int .i64 x.Kind, .string (bs x.Text), .int .i64 x.N, .int .i64 x.Dim, .int .i64 x.At, kv]]) (e_store (v := .agg #[.int .i64 ((x.Kids.getD i default).Kind), .string (bs ((x.Kids.getD i default).Text)), .int .i64 ((x.Kids.getD i default).N), .int .i64 ((x.Kids.getD i default).Dim), .int .i64 ((x.Kids.getD i default).At), sv1]) 0 rfl rfl rfl sz26 rfl (List.all_eq_true.2 (fun u hu => Rep.one (show Rep.rep _ _ _ from hcr1) u hu)) rfl rfl rfl) ?_
      refine RW.nil ?_
      refine Post.then_n ?_
      refine AW.seq ?_
      refine AW.seq ?_
      refine AW.region ?_
      refine RW.q (v := .agg #[.int .i64 ((x.Kids.getD i default).Kind), .string (bs ((x.Kids.getD i default).Text)), .int .i64 ((x.Kids.getD i default).N), .int .i64 ((x.Kids.getD i default).Dim), .int .i64 ((x.Kids.getD i default).At), sv1]) rfl (q_loadAgg rfl Tryd.underlying26 rfl sz26 rfl (Cells.blk 0 rfl)) ?_
      refine RW.q (v := .bool (Pa.isVal 0 (x.Kids.getD i default))) rfl (q_call (args := #[.agg #[.int .i64 ((x.Kids.getD i default).Kind), .string (bs ((x.Kids.getD i default).Text)), .int .i64 ((x.Kids.getD i default).N), .int .i64 ((x.Kids.getD i default).Dim), .int .i64 ((x.Kids.getD i default).At), sv1], .int .i64 0]) own51 rfl rfl (fun w1 hw1 => isValue_c (x.Kids.getD i default) w1 (Go.K.hp w1) (Hp.le_refl _) (hG.mono hw1.phi) (hsv1.mono hw1.phi) hcw1 (g := 0) (by omega))) ?_
      refine RW.q (v := .bool (!(Pa.isVal 0 (x.Kids.getD i default)))) rfl (q_not rfl) ?_
      refine RW.nil ?_
      refine Post.then_n ?_
      refine AW.cond (b := !(Pa.isVal 0 (x.Kids.getD i default))) rfl (fun hc3 => ?_) (fun hc3 => ?_)
      · simp [-List.getD_eq_getElem?_getD] at hc3
        refine AW.seq ?_
        refine AW.region ?_
        refine RW.q (v := .bool false) rfl (q_assign rfl) ?_
        refine RW.nil ?_
        refine Post.then_n ?_
        refine AW.ret ?_
        refine Post.then_r (Post.blk_r (Post.then_r (Post.then_r (Post.blk_r (Post.then_r ?_)))))
        exact fin_val (v' := .bool false) rfl rfl rfl (congrArg Value.bool (by unfold Pa.isProp; rw [eq_comm, Bool.eq_false_iff]; intro h9; simp only [Bool.and_eq_true, decide_eq_true_eq] at h9; have h8 := (h9.2 i (by omega)).1; rw [h8] at hc3; cases hc3))
      · simp [-List.getD_eq_getElem?_getD] at hc3
        refine AW.skip ?_
        refine Post.then_n ?_
        refine AW.seq ?_
        refine AW.region ?_
        refine RW.q (v := .int .i64 (i : Int)) rfl (q_move rfl) ?_
        refine RW.q (v := .bool (decide ((0 : Int) < (i : Int)))) rfl (q_gtr rfl rfl) ?_
        refine RW.q (v := .bool (decide ((0 : Int) < (i : Int)))) rfl (q_move rfl) ?_
        refine RW.g (b := (decide ((0 : Int) < (i : Int)))) (v := .pointer (some (⟨b2, 0, none⟩))) rfl rfl rfl (fun h => q_fieldAddr rfl Tryd.underlying26 rfl sz3 rfl) ?_
        refine RW.g (b := (decide ((0 : Int) < (i : Int)))) (v := .int .i64 ((x.Kids.getD i default).Kind)) rfl rfl rfl (fun h => q_load (gv_pos h) Tryd.underlying3 rfl (Cell.blk 0 rfl rfl)) ?_
        refine RW.g (b := (decide ((0 : Int) < (i : Int)))) (v := .bool (decide ((x.Kids.getD i default).Kind = 3))) rfl rfl rfl (fun h => q_eql (gv_pos h) rfl) ?_
        obtain ⟨qb3, hqb3⟩ : ∃ qz : Bool, ((decide ((0 : Int) < (i : Int))) && (decide ((x.Kids.getD i default).Kind = 3))) = qz := ⟨_, rfl⟩
        refine RW.q (v := .bool qb3) rfl (q_as (v := .bool ((decide ((0 : Int) < (i : Int))) && (decide ((x.Kids.getD i default).Kind = 3)))) (q_pick rfl (fun hp => (gv_pos hp).trans (pkAndT hp)) (fun hp => pkAndF hp)) (congrArg Value.bool hqb3)) ?_
        refine RW.q (v := .bool qb3) rfl (q_move rfl) ?_
        refine RW.g (b := qb3) (v := .pointer (some (⟨b2, 1, none⟩))) rfl rfl rfl (fun h => q_fieldAddr rfl Tryd.underlying26 rfl sz9 rfl) ?_
        refine RW.g (b := qb3) (v := .string (bs ((x.Kids.getD i default).Text))) rfl rfl rfl (fun h => q_load (gv_pos h) Tryd.underlying9 rfl (Cell.blk 0 rfl rfl)) ?_
        refine RW.g (b := qb3) (v := .bool (Pa.isUnit ((x.Kids.getD i default).Text))) rfl rfl rfl (fun h => q_call (args := #[.string (bs ((x.Kids.getD i default).Text))]) own52 rfl (args1 (gv_pos h)) (fun w1 hw1 => isUnit_c w1 (Hp.le_refl _) (hG.mono hw1.phi))) ?_
        obtain ⟨qb4, hqb4⟩ : ∃ qz : Bool, (qb3 && (Pa.isUnit ((x.Kids.getD i default).Text))) = qz := ⟨_, rfl⟩
        refine RW.q (v := .bool qb4) rfl (q_as (v := .bool (qb3 && (Pa.isUnit ((x.Kids.getD i default).Text)))) (q_pick rfl (fun hp => (gv_pos hp).trans (pkAndT hp)) (fun hp => pkAndF hp)) (congrArg Value.bool hqb4)) ?_
        subst hqb4 hqb3
        refine RW.nil ?_
        refine Post.then_n ?_
        refine AW.cond (b := (((decide ((0 : Int) < (i : Int))) && (decide ((x.Kids.getD i default).Kind = 3))) && (Pa.isUnit ((x.Kids.getD i default).Text)))) rfl (fun hc4 => ?_) (fun hc4 => ?_)
        · simp [-List.getD_eq_getElem?_getD] at hc4
          refine AW.seq ?_
          refine AW.region ?_
          refine RW.q (v := .pointer (some (⟨b1, 5, none⟩))) rfl (q_fieldAddr rfl Tryd.underlying26 rfl sz24 rfl) ?_
          refine RW.q (v := kv) rfl (q_load rfl Tryd.underlying24 rfl (Cell.blk 1 rfl rfl)) ?_
          refine RW.q (v := .int .i64 (i : Int)) rfl (q_move rfl) ?_
          refine RW.q (v := .int .i64 ((i - 1 : Nat) : Int)) rfl (q_sub rfl rfl (by omega) (by unfold I64; omega)) ?_
          refine RW.q (v := .pointer (some (Value.at kv ((i - 1) * 6)))) rfl (q_indexAddr rfl rfl hk.sl Tryd.underlying24 sz26 (by omega) (by omega) rfl) ?_
          obtain ⟨cv2, hcr2, hcc2⟩ := RepSl.whole (k := i - 1) hk (by omega)
          obtain ⟨sv2, hcE2, hcw2, hsv2⟩ := repN.1 hcr2
          subst hcE2
          refine RW.q (v := .agg #[.int .i64 ((x.Kids.getD (i - 1) default).Kind), .string (bs ((x.Kids.getD (i - 1) default).Text)), .int .i64 ((x.Kids.getD (i - 1) default).N), .int .i64 ((x.Kids.getD (i - 1) default).Dim), .int .i64 ((x.Kids.getD (i - 1) default).At), sv2]) rfl (q_loadAgg rfl Tryd.underlying26 rfl sz26 rfl (Cells.phiK hcc2)) ?_
          refine RW.eff (fun b3 : Nat => .pointer (some (⟨b3, 0, none⟩))) (fun b3 => St ⟨w, Φ, []⟩ Φ [.blk b3 26 [.int .i64 0, .string (bs ([])), .int .i64 0, .int .i64 0, .int .i64 0, (.slice none 0 0)], .blk b2 26 [.int .i64 ((x.Kids.getD i default).Kind), .string (bs ((x.Kids.getD i default).Text)), .int .i64 ((x.Kids.getD i default).N), .int .i64 ((x.Kids.getD i default).Dim), .int .i64 ((x.Kids.getD i default).At), sv1], .blk b1 26 [.int .i64 x.Kind, .string (bs x.Text), .int .i64 x.N, .int .i64 x.Dim, .int .i64 x.At, kv]]) rfl (e_alloc zero26) ?_
          intro b3
          refine RW.effn (J' := St ⟨w, Φ, []⟩ Φ [.blk b3 26 [.int .i64 ((x.Kids.getD (i - 1) default).Kind), .string (bs ((x.Kids.getD (i - 1) default).Text)), .int .i64 ((x.Kids.getD (i - 1) default).N), .int .i64 ((x.Kids.getD (i - 1) default).Dim), .int .i64 ((x.Kids.getD (i - 1) default).At), sv2], .blk b2 26 [.int .i64 ((x.Kids.getD i default).Kind), .string (bs ((x.Kids.getD i default).Text)), .int .i64 ((x.Kids.getD i default).N), .int .i64 ((x.Kids.getD i default).Dim), .int .i64 ((x.Kids.getD i default).At), sv1], .blk b1 26 [.int .i64 x.Kind, .string (bs x.Text), .int .i64 x.N, .int .i64 x.Dim, .int .i64 x.At, kv]]) (e_store (v := .agg #[.int .i64 ((x.Kids.getD (i - 1) default).Kind), .string (bs ((x.Kids.getD (i - 1) default).Text)), .int .i64 ((x.Kids.getD (i - 1) default).N), .int .i64 ((x.Kids.getD (i - 1) default).Dim), .int .i64 ((x.Kids.getD (i - 1) default).At), sv2]) 0 rfl rfl rfl sz26 rfl (List.all_eq_true.2 (fun u hu => Rep.one (show Rep.rep _ _ _ from hcr2) u hu)) rfl rfl rfl) ?_
          refine RW.nil ?_
          refine Post.then_n ?_
          refine AW.seq ?_
          refine AW.region ?_
          refine RW.q (v := .pointer (some (⟨b3, 0, none⟩))) rfl (q_fieldAddr rfl Tryd.underlying26 rfl sz3 rfl) ?_
          refine RW.q (v := .int .i64 ((x.Kids.getD (i - 1) default).Kind)) rfl (q_load rfl Tryd.underlying3 rfl (Cell.blk 0 rfl rfl)) ?_
          refine RW.q (v := .bool (decide ((x.Kids.getD (i - 1) default).Kind = 5))) rfl (q_eql rfl rfl) ?_
          refine RW.q (v := .bool (decide ((x.Kids.getD (i - 1) default).Kind = 5))) rfl (q_move rfl) ?_
          refine RW.g (b := (decide ((x.Kids.getD (i - 1) default).Kind = 5))) (v := .pointer (some (⟨b3, 2, none⟩))) rfl rfl rfl (fun h => q_fieldAddr rfl Tryd.underlying26 rfl sz23 rfl) ?_
          refine RW.g (b := (decide ((x.Kids.getD (i - 1) default).Kind = 5))) (v := .pointer (some (⟨b3, 3, none⟩))) rfl rfl rfl (fun h => q_fieldAddr (gv_pos h) Tryd.underlying23 rfl sz3 rfl) ?_
          refine RW.g (b := (decide ((x.Kids.getD (i - 1) default).Kind = 5))) (v := .int .i64 ((x.Kids.getD (i - 1) default).Dim)) rfl rfl rfl (fun h => q_load (gv_pos h) Tryd.underlying3 rfl (Cell.blk 0 rfl rfl)) ?_
          refine RW.g (b := (decide ((x.Kids.getD (i - 1) default).Kind = 5))) (v := .bool (decide ((x.Kids.getD (i - 1) default).Dim = 0))) rfl rfl rfl (fun h => q_eql (gv_pos h) rfl) ?_
          obtain ⟨qb5, hqb5⟩ : ∃ qz : Bool, ((decide ((x.Kids.getD (i - 1) default).Kind = 5)) && (decide ((x.Kids.getD (i - 1) default).Dim = 0))) = qz := ⟨_, rfl⟩
          refine RW.q (v := .bool qb5) rfl (q_as (v := .bool ((decide ((x.Kids.getD (i - 1) default).Kind = 5)) && (decide ((x.Kids.getD (i - 1) default).Dim = 0)))) (q_pick rfl (fun hp => (gv_pos hp).trans (pkAndT hp)) (fun hp => pkAndF hp)) (congrArg Value.bool hqb5)) ?_
          subst hqb5
          refine RW.nil ?_
          refine Post.then_n ?_
          refine AW.cond (b := ((decide ((x.Kids.getD (i - 1) default).Kind = 5)) && (decide ((x.Kids.getD (i - 1) default).Dim = 0)))) rfl (fun hc5 => ?_) (fun hc5 => ?_)
          · simp [-List.getD_eq_getElem?_getD] at hc5
            refine AW.seq ?_
            refine AW.region ?_
            refine RW.q (v := .bool false) rfl (q_assign rfl) ?_
            refine RW.nil ?_
            refine Post.then_n ?_
            refine AW.ret ?_
            refine Post.blk_r (Post.then_r (Post.then_r (Post.blk_r (Post.then_r ?_))))
            exact fin_val (v' := .bool false) rfl rfl rfl (congrArg Value.bool (by unfold Pa.isProp; rw [eq_comm, Bool.eq_false_iff]; intro h9; simp only [Bool.and_eq_true, decide_eq_true_eq] at h9; have h8 := (h9.2 i (by omega)).2; exact h8 ⟨by omega, hc4.1.2, hc4.2, hc5.1, hc5.2⟩))
          · simp [-List.getD_eq_getElem?_getD] at hc5
            refine AW.skip ?_
            refine Post.blk_n (Post.then_n ?_)
            refine AW.region ?_
            refine RW.q (v := .int .i64 ((i + 1 : Nat) : Int)) rfl (q_add rfl rfl (by omega) (by unfold I64; omega)) ?_
            refine RW.q (v := .int .i64 ((i + 1 : Nat) : Int)) rfl (q_move rfl) ?_
            refine RW.nil ?_
            exact Post.back (s' := _) (J' := _) (m' := _) (by omega) ⟨i + 1, rfl, rfl, rfl, (by omega), (fun j hj => (by by_cases h9 : j = i; (subst h9; exact ⟨by assumption, fun h => by have h8 := hc5 h.2.2.2.1; exact h8 h.2.2.2.2⟩); exact hA j (by omega)))⟩ ⟨rfl, rfl, rfl, rfl, trivial⟩ (fun _ h => StP.drop h (by exact .cons _ (.cons _ (.cons_cons _ (.slnil)))))
        · simp [-List.getD_eq_getElem?_getD] at hc4
          refine AW.skip ?_
          refine Post.blk_n (Post.then_n ?_)
          refine AW.region ?_
          refine RW.q (v := .int .i64 ((i + 1 : Nat) : Int)) rfl (q_add rfl rfl (by omega) (by unfold I64; omega)) ?_
          refine RW.q (v := .int .i64 ((i + 1 : Nat) : Int)) rfl (q_move rfl) ?_
          refine RW.nil ?_
          exact Post.back (s' := _) (J' := _) (m' := _) (by omega) ⟨i + 1, rfl, rfl, rfl, (by omega), (fun j hj => (by by_cases h9 : j = i; (subst h9; exact ⟨by assumption, fun h => by have h8 := hc4 h.1 h.2.1; rw [h8] at h; cases h.2.2.1⟩); exact hA j (by omega)))⟩ ⟨rfl, rfl, rfl, rfl, trivial⟩ (fun _ h => StP.drop h (by exact .cons _ (.cons_cons _ (.slnil))))
    · simp [-List.getD_eq_getElem?_getD] at hc2
      refine AW.exit ?_
      refine Post.then_x (Post.then_x (Post.blk_hit (Post.then_n ?_)))
      refine AW.seq ?_
      refine AW.region ?_
      refine RW.q (v := .bool true) rfl (q_assign rfl) ?_
      refine RW.nil ?_
      refine Post.then_n ?_
      refine AW.ret ?_
      exact fin_val (v' := .bool true) rfl rfl rfl (congrArg Value.bool (by unfold Pa.isProp; rw [eq_comm]; simp only [Bool.and_eq_true, decide_eq_true_eq]; exact ⟨⟨⟨hc1.1.1, hc1.1.2⟩, hc1.2⟩, fun j hj => hA j (by omega)⟩))

set_option maxRecDepth 8000 in
set_option maxHeartbeats 1000000 in
theorem isDecl_c (w : World) (Φ : Hp) (hΦ : Hp.le Φ (hp w)) (hG : Knows Φ Glob) {x : Bt.Node} {kv : Value} (hk : RepSl Φ x.Kids kv) (hwx : wfN x) :
    Calls Tryd.prog 21 #[.agg (ndC x kv).toArray] w fun e w' => e = .returned (.bool (Pa.isDecl x)) ∧ Bel w.heap.size w w' := by
  refine calls_of_AW (args := [.agg #[.int .i64 x.Kind, .string (bs x.Text), .int .i64 x.N, .int .i64 x.Dim, .int .i64 x.At, kv]]) Tryd.func21 rfl (Nat.le_of_ble_eq_true rfl) (St ⟨w, Φ, []⟩ Φ []) (StP.init w Φ hΦ []) ?_
  show AW Tryd.prog 48 [] _ _ _ [(0, .agg #[.int .i64 x.Kind, .string (bs x.Text), .int .i64 x.N, .int .i64 x.Dim, .int .i64 x.At, kv])] _
  have hkm : x.Kids.length * 72 ≤ 140737488355328 := hk.max
  have htl : x.Text.length ≤ maxLen := hwx.2.1
  refine AW.seq ?_
  refine AW.region ?_
  refine RW.eff (fun b1 : Nat => .pointer (some (⟨b1, 0, none⟩))) (fun b1 => St ⟨w, Φ, []⟩ Φ [.blk b1 26 [.int .i64 x.Kind, .string (bs x.Text), .int .i64 x.N, .int .i64 x.Dim, .int .i64 x.At, kv]]) rfl (e_boxA (cs := [.int .i64 x.Kind, .string (bs x.Text), .int .i64 x.N, .int .i64 x.Dim, .int .i64 x.At, kv]) rfl) ?_
  intro b1
  refine RW.q (v := .bool false) rfl (q_assign rfl) ?_
  refine RW.nil ?_
  refine Post.then_n ?_
  refine AW.seq ?_
  refine AW.seq ?_
  refine AW.region ?_
  refine RW.q (v := .pointer (some (⟨b1, 0, none⟩))) rfl (q_fieldAddr rfl Tryd.underlying26 rfl sz3 rfl) ?_
  refine RW.q (v := .int .i64 x.Kind) rfl (q_load rfl Tryd.underlying3 rfl (Cell.blk 0 rfl rfl)) ?_
  refine RW.q (v := .bool (!decide (x.Kind = 1))) rfl (q_neq rfl rfl) ?_
  refine RW.q (v := .bool (!decide (x.Kind = 1))) rfl (q_move rfl) ?_
  refine RW.g (b := (!decide (x.Kind = 1))) (v := .pointer (some (⟨b1, 1, none⟩))) rfl rfl rfl (fun h => q_fieldAddr rfl Tryd.underlying26 rfl sz9 rfl) ?_
  refine RW.g (b := (!decide (x.Kind = 1))) (v := .string (bs x.Text)) rfl rfl rfl (fun h => q_load (gv_pos h) Tryd.underlying9 rfl (Cell.blk 0 rfl rfl)) ?_
  refine RW.g (b := (!decide (x.Kind = 1))) (v := .bool (Pa.isName x.Text)) rfl rfl rfl (fun h => q_call (args := #[.string (bs x.Text)]) own34 rfl (args1 (gv_pos h)) (fun w1 hw1 => isName_c w1 (Go.K.hp w1) (Hp.le_refl _) (by (try simp [-List.getD_eq_getElem?_getD] at h); omega))) ?_
  refine RW.g (b := (!decide (x.Kind = 1))) (v := .bool (!(Pa.isName x.Text))) rfl rfl rfl (fun h => q_not (gv_pos h)) ?_
  obtain ⟨qb1, hqb1⟩ : ∃ qz : Bool, ((!decide (x.Kind = 1)) || (!(Pa.isName x.Text))) = qz := ⟨_, rfl⟩
  refine RW.q (v := .bool qb1) rfl (q_as (v := .bool ((!decide (x.Kind = 1)) || (!(Pa.isName x.Text)))) (q_pick rfl (fun hp => pkOrT hp) (fun hp => (gv_pos hp).trans (pkOrF hp))) (congrArg Value.bool hqb1)) ?_
  refine RW.q (v := .bool qb1) rfl (q_move rfl) ?_
  refine RW.g (b := qb1) (v := .pointer (some (⟨b1, 2, none⟩))) rfl rfl rfl (fun h => q_fieldAddr rfl Tryd.underlying26 rfl sz23 rfl) ?_
  refine RW.g (b := qb1) (v := .agg #[.int .i64 x.N, .int .i64 x.Dim]) rfl rfl rfl (fun h => q_loadAgg (gv_pos h) Tryd.underlying23 rfl sz23 rfl (Cells.blkP (off := 2) 0 rfl (fun j u hu => (by rcases j with _ | (_ | _) <;> first | exact hu | cases hu)))) ?_
  refine RW.g (b := qb1) (v := .agg #[.int .i64 0, .int .i64 0]) rfl rfl rfl (fun h => q_build (vals := []) zero23 Tryd.underlying23 places23 rfl rfl) ?_
  refine RW.g (b := qb1) (v := .bool (!(decide (x.N = 0) && decide (x.Dim = 0)))) rfl rfl rfl (fun h => q_neqS (gv_pos h) (gv_pos h) (eqS23 _ _ _ _) eqG23) ?_
  obtain ⟨qb2, hqb2⟩ : ∃ qz : Bool, (qb1 || (!(decide (x.N = 0) && decide (x.Dim = 0)))) = qz := ⟨_, rfl⟩
  refine RW.q (v := .bool qb2) rfl (q_as (v := .bool (qb1 || (!(decide (x.N = 0) && decide (x.Dim = 0))))) (q_pick rfl (fun hp => pkOrT hp) (fun hp => (gv_pos hp).trans (pkOrF hp))) (congrArg Value.bool hqb2)) ?_
  subst hqb2 hqb1
  refine RW.nil ?_
  refine Post.then_n ?_
  refine AW.cond (b := (((!decide (x.Kind = 1)) || (!(Pa.isName x.Text))) || (!(decide (x.N = 0) && decide (x.Dim = 0))))) rfl (fun hc1 => ?_) (fun hc1 => ?_)
  · simp [-List.getD_eq_getElem?_getD] at hc1
    refine AW.seq ?_
    refine AW.region ?_
    refine RW.q (v := .bool false) rfl (q_assign rfl) ?_
    refine RW.nil ?_
    refine Post.then_n ?_
    refine AW.ret ?_
    refine Post.then_r ?_
    exact fin_val (v' := .bool false) rfl rfl rfl (congrArg Value.bool (by unfold Pa.isDecl; rw [eq_comm, Bool.eq_false_iff]; intro h9; simp only [Bool.and_eq_true, decide_eq_true_eq] at h9; obtain ⟨⟨⟨h1, h2⟩, h3⟩, _⟩ := h9; simp [h1, h2, h3] at hc1))
  · simp [-List.getD_eq_getElem?_getD] at hc1
    refine AW.skip ?_
    refine Post.then_n ?_
    refine AW.seq ?_
    refine AW.region ?_
    refine RW.q (v := .int .i64 0) rfl (q_assign rfl) ?_
    refine RW.nil ?_
    refine Post.then_n ?_
    refine AW.seq ?_
    refine AW.block ?_
    refine AW.loop (fun s J m => ∃ (i : Nat), s = [(1, .pointer (some (⟨b1, 0, none⟩))), (3, .int .i64 (i : Int))] ∧ J = St ⟨w, Φ, []⟩ Φ [.blk b1 26 [.int .i64 x.Kind, .string (bs x.Text), .int .i64 x.N, .int .i64 x.Dim, .int .i64 x.At, kv]] ∧ m = x.Kids.length - i ∧ (i ≤ x.Kids.length) ∧ (∀ j, j < i → Pa.isWord (x.Kids.getD j default) = true)) (s0 := _) (J1 := _) (m0 := _) ⟨0, rfl, rfl, rfl, (Nat.zero_le _), (fun j hj => absurd hj (Nat.not_lt_zero j))⟩ ⟨rfl, rfl, trivial⟩ (fun _ h => h) ?_
    rintro _ _ _ _ ⟨i, rfl, rfl, rfl, hil, hA⟩
    refine AW.seq ?_
    refine AW.seq ?_
    rcases Nat.lt_or_ge i x.Kids.length with hlt | hge
    · skip
      refine AW.region ?_
      refine RW.q (v := .int .i64 (i : Int)) rfl (q_move rfl) ?_
      refine RW.q (v := .pointer (some (⟨b1, 5, none⟩))) rfl (q_fieldAddr rfl Tryd.underlying26 rfl sz24 rfl) ?_
      refine RW.q (v := kv) rfl (q_load rfl Tryd.underlying24 rfl (Cell.blk 0 rfl rfl)) ?_
      refine RW.q (v := .int .i64 ((x.Kids.length : Nat) : Int)) rfl (q_len_sl rfl hk.sl Tryd.underlying24) ?_
      refine RW.q (v := .bool true) rfl (q_as (v := .bool (decide ((i : Int) < ((x.Kids.length : Nat) : Int)))) (q_lss rfl rfl) (congrArg (Value.bool) (decide_eq_true (by omega)))) ?_
      refine RW.q (v := .bool true) rfl (q_move rfl) ?_
      refine RW.gl (v := .pointer (some (⟨b1, 5, none⟩))) rfl rfl rfl (q_fieldAddr rfl Tryd.underlying26 rfl sz24 rfl) ?_
      refine RW.gl (v := kv) rfl rfl rfl (q_load rfl Tryd.underlying24 rfl (Cell.blk 0 rfl rfl)) ?_
      refine RW.gl (v := .int .i64 (i : Int)) rfl rfl rfl (q_move rfl) ?_
      refine RW.gl (v := .pointer (some (Value.at kv (i * 6)))) rfl rfl rfl (q_indexAddr rfl rfl hk.sl Tryd.underlying24 sz26 (by omega) (by omega) rfl) ?_
      obtain ⟨cv1, hcr1, hcc1⟩ := RepSl.whole (k := i) hk (by omega)
      obtain ⟨sv1, hcE1, hcw1, hsv1⟩ := repN.1 hcr1
      subst hcE1
      refine RW.gl (v := .agg #[.int .i64 ((x.Kids.getD i default).Kind), .string (bs ((x.Kids.getD i default).Text)), .int .i64 ((x.Kids.getD i default).N), .int .i64 ((x.Kids.getD i default).Dim), .int .i64 ((x.Kids.getD i default).At), sv1]) rfl rfl rfl (q_loadAgg rfl Tryd.underlying26 rfl sz26 rfl (Cells.phiK hcc1)) ?_
      refine RW.gl (v := .bool (Pa.isWord (x.Kids.getD i default))) rfl rfl rfl (q_call (args := #[.agg #[.int .i64 ((x.Kids.getD i default).Kind), .string (bs ((x.Kids.getD i default).Text)), .int .i64 ((x.Kids.getD i default).N), .int .i64 ((x.Kids.getD i default).Dim), .int .i64 ((x.Kids.getD i default).At), sv1]]) own35 rfl rfl (fun w1 hw1 => isWord_c w1 (Go.K.hp w1) (Hp.le_refl _) (hsv1.mono hw1.phi) hcw1)) ?_
      refine RW.q (v := .bool (Pa.isWord (x.Kids.getD i default))) rfl (q_pick (t := true) rfl (fun _ => rfl) (fun hp => nomatch hp)) ?_
      refine RW.nil ?_
      refine Post.then_n ?_
      refine AW.cond (b := Pa.isWord (x.Kids.getD i default)) rfl (fun hc2 => ?_) (fun hc2 => ?_)
      · skip
        refine AW.skip ?_
        refine Post.then_n ?_
        refine AW.block ?_
        refine AW.region ?_
        refine RW.q (v := .int .i64 (i : Int)) rfl (q_move rfl) ?_
        refine RW.q (v := .int .i64 ((i + 1 : Nat) : Int)) rfl (q_add rfl rfl (by omega) (by unfold I64; omega)) ?_
        refine RW.q (v := .int .i64 ((i + 1 : Nat) : Int)) rfl (q_assign rfl) ?_
        refine RW.nil ?_
        refine Post.blk_n ?_
        exact Post.back (s' := _) (J' := _) (m' := _) (by omega) ⟨i + 1, rfl, rfl, rfl, (by omega), (fun j hj => (by by_cases h9 : j = i; (subst h9; assumption); exact hA j (by omega)))⟩ ⟨rfl, rfl, trivial⟩ (fun _ h => StP.drop h (by exact .cons_cons _ (.slnil)))
      · skip
        refine AW.exit ?_
        refine Post.then_x (Post.then_x (Post.blk_hit (Post.then_n ?_)))
        refine AW.seq ?_
        refine AW.block ?_
        have hwn : Pa.wrdN x.Kids = i := Pa.wrdN_at hA (by first | exact .inl (by omega) | (right; assumption)) hil
        refine AW.loop (fun s J m => ∃ (i : Nat), s = [(1, .pointer (some (⟨b1, 0, none⟩))), (3, .int .i64 (i : Int))] ∧ J = St ⟨w, Φ, []⟩ Φ [.blk b1 26 [.int .i64 x.Kind, .string (bs x.Text), .int .i64 x.N, .int .i64 x.Dim, .int .i64 x.At, kv]] ∧ m = x.Kids.length - i ∧ (i ≤ x.Kids.length) ∧ (Pa.wrdN x.Kids ≤ i) ∧ (∀ j, j < i → Pa.wrdN x.Kids ≤ j → Pa.isProp (x.Kids.getD j default) = true)) (s0 := _) (J1 := _) (m0 := _) ⟨i, rfl, rfl, rfl, hil, (by omega), (fun j hj h9 => absurd h9 (by omega))⟩ ⟨rfl, rfl, trivial⟩ (fun _ h => h) ?_
        rintro _ _ _ _ ⟨i, rfl, rfl, rfl, hil, hwi, hA⟩
        refine AW.seq ?_
        refine AW.seq ?_
        refine AW.region ?_
        refine RW.q (v := .int .i64 (i : Int)) rfl (q_move rfl) ?_
        refine RW.q (v := .pointer (some (⟨b1, 5, none⟩))) rfl (q_fieldAddr rfl Tryd.underlying26 rfl sz24 rfl) ?_
        refine RW.q (v := kv) rfl (q_load rfl Tryd.underlying24 rfl (Cell.blk 0 rfl rfl)) ?_
        refine RW.q (v := .int .i64 ((x.Kids.length : Nat) : Int)) rfl (q_len_sl rfl hk.sl Tryd.underlying24) ?_
        refine RW.q (v := .bool (decide ((i : Int) < ((x.Kids.length : Nat) : Int)))) rfl (q_lss rfl rfl) ?_
        refine RW.nil ?_
        refine Post.then_n ?_
        refine AW.cond (b := decide ((i : Int) < ((x.Kids.length : Nat) : Int))) rfl (fun hc3 => ?_) (fun hc3 => ?_)
        · simp [-List.getD_eq_getElem?_getD] at hc3
          refine AW.skip ?_
          refine Post.then_n ?_
          refine AW.seq ?_
          refine AW.block ?_
          refine AW.seq ?_
          refine AW.region ?_
          refine RW.q (v := .pointer (some (⟨b1, 5, none⟩))) rfl (q_fieldAddr rfl Tryd.underlying26 rfl sz24 rfl) ?_
          refine RW.q (v := kv) rfl (q_load rfl Tryd.underlying24 rfl (Cell.blk 0 rfl rfl)) ?_
          refine RW.q (v := .int .i64 (i : Int)) rfl (q_move rfl) ?_
          refine RW.q (v := .pointer (some (Value.at kv (i * 6)))) rfl (q_indexAddr rfl rfl hk.sl Tryd.underlying24 sz26 (by omega) (by omega) rfl) ?_
          obtain ⟨cv2, hcr2, hcc2⟩ := RepSl.whole (k := i) hk (by omega)
          obtain ⟨sv2, hcE2, hcw2, hsv2⟩ := repN.1 hcr2
          subst hcE2
          refine RW.q (v := .agg #[.int .i64 ((x.Kids.getD i default).Kind), .string (bs ((x.Kids.getD i default).Text)), .int .i64 ((x.Kids.getD i default).N), .int .i64 ((x.Kids.getD i default).Dim), .int .i64 ((x.Kids.getD i default).At), sv2]) rfl (q_loadAgg rfl Tryd.underlying26 rfl sz26 rfl (Cells.phiK hcc2)) ?_
          refine RW.q (v := .bool (Pa.isProp (x.Kids.getD i default))) rfl (q_call (args := #[.agg #[.int .i64 ((x.Kids.getD i default).Kind), .string (bs ((x.Kids.getD i default).Text)), .int .i64 ((x.Kids.getD i default).N), .int .i64 ((x.Kids.getD i default).Dim), .int .i64 ((x.Kids.getD i default).At), sv2]]) own36 rfl rfl (fun w1 hw1 => isProp_c w1 (Go.K.hp w1) (Hp.le_refl _) (hG.mono hw1.phi) (hsv2.mono hw1.phi) hcw2)) ?_
          refine RW.q (v := .bool (!(Pa.isProp (x.Kids.getD i default)))) rfl (q_not rfl) ?_
          refine RW.nil ?_
          refine Post.then_n ?_
          refine AW.cond (b := !(Pa.isProp (x.Kids.getD i default))) rfl (fun hc4 => ?_) (fun hc4 => ?_)
          · simp [-List.getD_eq_getElem?_getD] at hc4
            refine AW.seq ?_
            refine AW.region ?_
            refine RW.q (v := .bool false) rfl (q_assign rfl) ?_
            refine RW.nil ?_
            refine Post.then_n ?_
            refine AW.ret ?_
            refine Post.blk_r (Post.then_r (Post.then_r (Post.blk_r (Post.then_r ?_))))
            exact fin_val (v' := .bool false) rfl rfl rfl (congrArg Value.bool (by unfold Pa.isDecl; rw [eq_comm, Bool.eq_false_iff]; intro h9; simp only [Bool.and_eq_true, decide_eq_true_eq] at h9; have h8 := h9.2 i (by omega) hwi; rw [h8] at hc4; cases hc4))
          · simp [-List.getD_eq_getElem?_getD] at hc4
            refine AW.skip ?_
            refine Post.blk_n (Post.then_n ?_)
            refine AW.region ?_
            refine RW.q (v := .int .i64 (i : Int)) rfl (q_move rfl) ?_
            refine RW.q (v := .int .i64 ((i + 1 : Nat) : Int)) rfl (q_add rfl rfl (by omega) (by unfold I64; omega)) ?_
            refine RW.q (v := .int .i64 ((i + 1 : Nat) : Int)) rfl (q_assign rfl) ?_
            refine RW.nil ?_
            exact Post.back (s' := _) (J' := _) (m' := _) (by omega) ⟨i + 1, rfl, rfl, rfl, (by omega), (by omega), (fun j hj h8 => (by by_cases h9 : j = i; (subst h9; assumption); exact hA j (by omega) h8))⟩ ⟨rfl, rfl, trivial⟩ (fun _ h => StP.drop h (by exact .cons_cons _ (.slnil)))
        · simp [-List.getD_eq_getElem?_getD] at hc3
          refine AW.exit ?_
          refine Post.then_x (Post.then_x (Post.blk_hit (Post.then_n ?_)))
          refine AW.seq ?_
          refine AW.region ?_
          refine RW.q (v := .bool true) rfl (q_assign rfl) ?_
          refine RW.nil ?_
          refine Post.then_n ?_
          refine AW.ret ?_
          exact fin_val (v' := .bool true) rfl rfl rfl (congrArg Value.bool (by unfold Pa.isDecl; rw [eq_comm]; simp only [Bool.and_eq_true, decide_eq_true_eq]; exact ⟨⟨⟨hc1.1.1, hc1.1.2⟩, hc1.2⟩, fun j hj h9 => hA j (by omega) h9⟩))
    · skip
      refine AW.region ?_
      refine RW.q (v := .int .i64 (i : Int)) rfl (q_move rfl) ?_
      refine RW.q (v := .pointer (some (⟨b1, 5, none⟩))) rfl (q_fieldAddr rfl Tryd.underlying26 rfl sz24 rfl) ?_
      refine RW.q (v := kv) rfl (q_load rfl Tryd.underlying24 rfl (Cell.blk 0 rfl rfl)) ?_
      refine RW.q (v := .int .i64 ((x.Kids.length : Nat) : Int)) rfl (q_len_sl rfl hk.sl Tryd.underlying24) ?_
      refine RW.q (v := .bool false) rfl (q_as (v := .bool (decide ((i : Int) < ((x.Kids.length : Nat) : Int)))) (q_lss rfl rfl) (congrArg (Value.bool) (decide_eq_false (by omega)))) ?_
      refine RW.q (v := .bool false) rfl (q_move rfl) ?_
      refine RW.g (b := false) (v := undef) rfl rfl rfl (fun h => nomatch h) ?_
      refine RW.g (b := false) (v := undef) rfl rfl rfl (fun h => nomatch h) ?_
      refine RW.g (b := false) (v := undef) rfl rfl rfl (fun h => nomatch h) ?_
      refine RW.g (b := false) (v := undef) rfl rfl rfl (fun h => nomatch h) ?_
      refine RW.g (b := false) (v := undef) rfl rfl rfl (fun h => nomatch h) ?_
      refine RW.g (b := false) (v := undef) rfl rfl rfl (fun h => nomatch h) ?_
      refine RW.q (v := .bool false) rfl (q_pick (t := false) rfl (fun hp => nomatch hp) (fun _ => rfl)) ?_
      refine RW.nil ?_
      refine Post.then_n ?_
      refine AW.cond (b := false) rfl (fun hc5 => ?_) (fun hc5 => ?_)
      · cases hc5
      · skip
        refine AW.exit ?_
        refine Post.then_x (Post.then_x (Post.blk_hit (Post.then_n ?_)))
        refine AW.seq ?_
        refine AW.block ?_
        have hwn : Pa.wrdN x.Kids = i := Pa.wrdN_at hA (.inl (by omega)) hil
        refine AW.loop (fun s J m => ∃ (i : Nat), s = [(1, .pointer (some (⟨b1, 0, none⟩))), (3, .int .i64 (i : Int))] ∧ J = St ⟨w, Φ, []⟩ Φ [.blk b1 26 [.int .i64 x.Kind, .string (bs x.Text), .int .i64 x.N, .int .i64 x.Dim, .int .i64 x.At, kv]] ∧ m = x.Kids.length - i ∧ (i ≤ x.Kids.length) ∧ (Pa.wrdN x.Kids ≤ i) ∧ (∀ j, j < i → Pa.wrdN x.Kids ≤ j → Pa.isProp (x.Kids.getD j default) = true)) (s0 := _) (J1 := _) (m0 := _) ⟨i, rfl, rfl, rfl, hil, (by omega), (fun j hj h9 => absurd h9 (by omega))⟩ ⟨rfl, rfl, trivial⟩ (fun _ h => h) ?_
        rintro _ _ _ _ ⟨i, rfl, rfl, rfl, hil, hwi, hA⟩
        refine AW.seq ?_
        refine AW.seq ?_
        refine AW.region ?_
        refine RW.q (v := .int .i64 (i : Int)) rfl (q_move rfl) ?_
        refine RW.q (v := .pointer (some (⟨b1, 5, none⟩))) rfl (q_fieldAddr rfl Tryd.underlying26 rfl sz24 rfl) ?_
        refine RW.q (v := kv) rfl (q_load rfl Tryd.underlying24 rfl (Cell.blk 0 rfl rfl)) ?_
        refine RW.q (v := .int .i64 ((x.Kids.length : Nat) : Int)) rfl (q_len_sl rfl hk.sl Tryd.underlying24) ?_
        refine RW.q (v := .bool (decide ((i : Int) < ((x.Kids.length : Nat) : Int)))) rfl (q_lss rfl rfl) ?_
        refine RW.nil ?_
        refine Post.then_n ?_
        refine AW.cond (b := decide ((i : Int) < ((x.Kids.length : Nat) : Int))) rfl (fun hc6 => ?_) (fun hc6 => ?_)
        · simp [-List.getD_eq_getElem?_getD] at hc6
          refine AW.skip ?_
          refine Post.then_n ?_
          refine AW.seq ?_
          refine AW.block ?_
          refine AW.seq ?_
          refine AW.region ?_
          refine RW.q (v := .pointer (some (⟨b1, 5, none⟩))) rfl (q_fieldAddr rfl Tryd.underlying26 rfl sz24 rfl) ?_
          refine RW.q (v := kv) rfl (q_load rfl Tryd.underlying24 rfl (Cell.blk 0 rfl rfl)) ?_
          refine RW.q (v := .int .i64 (i : Int)) rfl (q_move rfl) ?_
          refine RW.q (v := .pointer (some (Value.at kv (i * 6)))) rfl (q_indexAddr rfl rfl hk.sl Tryd.underlying24 sz26 (by omega) (by omega) rfl) ?_
          obtain ⟨cv3, hcr3, hcc3⟩ := RepSl.whole (k := i) hk (by omega)
          obtain ⟨sv3, hcE3, hcw3, hsv3⟩ := repN.1 hcr3
          subst hcE3
          refine RW.q (v := .agg #[.int .i64 ((x.Kids.getD i default).Kind), .string (bs ((x.Kids.getD i default).Text)), .int .i64 ((x.Kids.getD i default).N), .int .i64 ((x.Kids.getD i default).Dim), .int .i64 ((x.Kids.getD i default).At), sv3]) rfl (q_loadAgg rfl Tryd.underlying26 rfl sz26 rfl (Cells.phiK hcc3)) ?_
          refine RW.q (v := .bool (Pa.isProp (x.Kids.getD i default))) rfl (q_call (args := #[.agg #[.int .i64 ((x.Kids.getD i default).Kind), .string (bs ((x.Kids.getD i default).Text)), .int .i64 ((x.Kids.getD i default).N), .int .i64 ((x.Kids.getD i default).Dim), .int .i64 ((x.Kids.getD i default).At), sv3]]) own36 rfl rfl (fun w1 hw1 => isProp_c w1 (Go.K.hp w1) (Hp.le_refl _) (hG.mono hw1.phi) (hsv3.mono hw1.phi) hcw3)) ?_
          refine RW.q (v := .bool (!(Pa.isProp (x.Kids.getD i default)))) rfl (q_not rfl) ?_
          refine RW.nil ?_
          refine Post.then_n ?_
          refine AW.cond (b := !(Pa.isProp (x.Kids.getD i default))) rfl (fun hc7 => ?_) (fun hc7 => ?_)
          · simp [-List.getD_eq_getElem?_getD] at hc7
            refine AW.seq ?_
            refine AW.region ?_
            refine RW.q (v := .bool false) rfl (q_assign rfl) ?_
            refine RW.nil ?_
            refine Post.then_n ?_
            refine AW.ret ?_
            refine Post.blk_r (Post.then_r (Post.then_r (Post.blk_r (Post.then_r ?_))))
            exact fin_val (v' := .bool false) rfl rfl rfl (congrArg Value.bool (by unfold Pa.isDecl; rw [eq_comm, Bool.eq_false_iff]; intro h9; simp only [Bool.and_eq_true, decide_eq_true_eq] at h9; have h8 := h9.2 i (by omega) hwi; rw [h8] at hc7; cases hc7))
          · simp [-List.getD_eq_getElem?_getD] at hc7
            refine AW.skip ?_
            refine Post.blk_n (Post.then_n ?_)
            refine AW.region ?_
            refine RW.q (v := .int .i64 (i : Int)) rfl (q_move rfl) ?_
            refine RW.q (v := .int .i64 ((i + 1 : Nat) : Int)) rfl (q_add rfl rfl (by omega) (by unfold I64; omega)) ?_
            refine RW.q (v := .int .i64 ((i + 1 : Nat) : Int)) rfl (q_assign rfl) ?_
            refine RW.nil ?_
            exact Post.back (s' := _) (J' := _) (m' := _) (by omega) ⟨i + 1, rfl, rfl, rfl, (by omega), (by omega), (fun j hj h8 => (by by_cases h9 : j = i; (subst h9; assumption); exact hA j (by omega) h8))⟩ ⟨rfl, rfl, trivial⟩ (fun _ h => StP.drop h (by exact .cons_cons _ (.slnil)))
        · simp [-List.getD_eq_getElem?_getD] at hc6
          refine AW.exit ?_
          refine Post.then_x (Post.then_x (Post.blk_hit (Post.then_n ?_)))
          refine AW.seq ?_
          refine AW.region ?_
          refine RW.q (v := .bool true) rfl (q_assign rfl) ?_
          refine RW.nil ?_
          refine Post.then_n ?_
          refine AW.ret ?_
          exact fin_val (v' := .bool true) rfl rfl rfl (congrArg Value.bool (by unfold Pa.isDecl; rw [eq_comm]; simp only [Bool.and_eq_true, decide_eq_true_eq]; exact ⟨⟨⟨hc1.1.1, hc1.1.2⟩, hc1.2⟩, fun j hj h9 => hA j (by omega) h9⟩))

set_option maxRecDepth 8000 in
set_option maxHeartbeats 1000000 in
theorem Right_c (w : World) (Φ : Hp) (hΦ : Hp.le Φ (hp w)) (hG : Knows Φ Glob) {x : Bt.Node} {kv : Value} (hk : RepSl Φ x.Kids kv) (hwx : wfN x) :
    Calls Tryd.prog 11 #[.agg (ndC x kv).toArray] w fun e w' => e = .returned (.bool (Pa.right x)) ∧ Bel w.heap.size w w' := by
  refine calls_of_AW (args := [.agg #[.int .i64 x.Kind, .string (bs x.Text), .int .i64 x.N, .int .i64 x.Dim, .int .i64 x.At, kv]]) Tryd.func11 rfl (Nat.le_of_ble_eq_true rfl) (St ⟨w, Φ, []⟩ Φ []) (StP.init w Φ hΦ []) ?_
  show AW Tryd.prog 30 [] _ _ _ [(0, .agg #[.int .i64 x.Kind, .string (bs x.Text), .int .i64 x.N, .int .i64 x.Dim, .int .i64 x.At, kv])] _
  have hkm : x.Kids.length * 72 ≤ 140737488355328 := hk.max
  have htl : x.Text.length ≤ maxLen := hwx.2.1
  refine AW.seq ?_
  refine AW.region ?_
  refine RW.eff (fun b1 : Nat => .pointer (some (⟨b1, 0, none⟩))) (fun b1 => St ⟨w, Φ, []⟩ Φ [.blk b1 26 [.int .i64 x.Kind, .string (bs x.Text), .int .i64 x.N, .int .i64 x.Dim, .int .i64 x.At, kv]]) rfl (e_boxA (cs := [.int .i64 x.Kind, .string (bs x.Text), .int .i64 x.N, .int .i64 x.Dim, .int .i64 x.At, kv]) rfl) ?_
  intro b1
  refine RW.q (v := .bool false) rfl (q_assign rfl) ?_
  refine RW.nil ?_
  refine Post.then_n ?_
  refine AW.seq ?_
  refine AW.seq ?_
  refine AW.region ?_
  refine RW.q (v := .pointer (some (⟨b1, 0, none⟩))) rfl (q_fieldAddr rfl Tryd.underlying26 rfl sz3 rfl) ?_
  refine RW.q (v := .int .i64 x.Kind) rfl (q_load rfl Tryd.underlying3 rfl (Cell.blk 0 rfl rfl)) ?_
  refine RW.q (v := .bool (!decide (x.Kind = 0))) rfl (q_neq rfl rfl) ?_
  refine RW.q (v := .bool (!decide (x.Kind = 0))) rfl (q_move rfl) ?_
  refine RW.g (b := (!decide (x.Kind = 0))) (v := .pointer (some (⟨b1, 1, none⟩))) rfl rfl rfl (fun h => q_fieldAddr rfl Tryd.underlying26 rfl sz9 rfl) ?_
  refine RW.g (b := (!decide (x.Kind = 0))) (v := .string (bs x.Text)) rfl rfl rfl (fun h => q_load (gv_pos h) Tryd.underlying9 rfl (Cell.blk 0 rfl rfl)) ?_
  refine RW.g (b := (!decide (x.Kind = 0))) (v := .bool (!decide (x.Text = ([] : List UInt8)))) rfl rfl rfl (fun h => q_neqStr (l := x.Text) (r := ([] : List UInt8)) (gv_pos h) rfl) ?_
  obtain ⟨qb1, hqb1⟩ : ∃ qz : Bool, ((!decide (x.Kind = 0)) || (!decide (x.Text = ([] : List UInt8)))) = qz := ⟨_, rfl⟩
  refine RW.q (v := .bool qb1) rfl (q_as (v := .bool ((!decide (x.Kind = 0)) || (!decide (x.Text = ([] : List UInt8))))) (q_pick rfl (fun hp => pkOrT hp) (fun hp => (gv_pos hp).trans (pkOrF hp))) (congrArg Value.bool hqb1)) ?_
  refine RW.q (v := .bool qb1) rfl (q_move rfl) ?_
  refine RW.g (b := qb1) (v := .pointer (some (⟨b1, 2, none⟩))) rfl rfl rfl (fun h => q_fieldAddr rfl Tryd.underlying26 rfl sz23 rfl) ?_
  refine RW.g (b := qb1) (v := .agg #[.int .i64 x.N, .int .i64 x.Dim]) rfl rfl rfl (fun h => q_loadAgg (gv_pos h) Tryd.underlying23 rfl sz23 rfl (Cells.blkP (off := 2) 0 rfl (fun j u hu => (by rcases j with _ | (_ | _) <;> first | exact hu | cases hu)))) ?_
  refine RW.g (b := qb1) (v := .agg #[.int .i64 0, .int .i64 0]) rfl rfl rfl (fun h => q_build (vals := []) zero23 Tryd.underlying23 places23 rfl rfl) ?_
  refine RW.g (b := qb1) (v := .bool (!(decide (x.N = 0) && decide (x.Dim = 0)))) rfl rfl rfl (fun h => q_neqS (gv_pos h) (gv_pos h) (eqS23 _ _ _ _) eqG23) ?_
  obtain ⟨qb2, hqb2⟩ : ∃ qz : Bool, (qb1 || (!(decide (x.N = 0) && decide (x.Dim = 0)))) = qz := ⟨_, rfl⟩
  refine RW.q (v := .bool qb2) rfl (q_as (v := .bool (qb1 || (!(decide (x.N = 0) && decide (x.Dim = 0))))) (q_pick rfl (fun hp => pkOrT hp) (fun hp => (gv_pos hp).trans (pkOrF hp))) (congrArg Value.bool hqb2)) ?_
  subst hqb2 hqb1
  refine RW.nil ?_
  refine Post.then_n ?_
  refine AW.cond (b := (((!decide (x.Kind = 0)) || (!decide (x.Text = ([] : List UInt8)))) || (!(decide (x.N = 0) && decide (x.Dim = 0))))) rfl (fun hc1 => ?_) (fun hc1 => ?_)
  · simp [-List.getD_eq_getElem?_getD] at hc1
    refine AW.seq ?_
    refine AW.region ?_
    refine RW.q (v := .bool false) rfl (q_assign rfl) ?_
    refine RW.nil ?_
    refine Post.then_n ?_
    refine AW.ret ?_
    refine Post.then_r ?_
    exact fin_val (v' := .bool false) rfl rfl rfl (congrArg Value.bool (by unfold Pa.right; rw [eq_comm, Bool.eq_false_iff]; intro h9; simp only [Bool.and_eq_true, decide_eq_true_eq] at h9; obtain ⟨⟨⟨h1, h2⟩, h3⟩, _⟩ := h9; simp [h1, h2, h3] at hc1))
  · simp [-List.getD_eq_getElem?_getD] at hc1
    refine AW.skip ?_
    refine Post.then_n ?_
    refine AW.seq ?_
    refine AW.seq ?_
    refine AW.region ?_
    refine RW.q (v := .pointer (some (⟨b1, 5, none⟩))) rfl (q_fieldAddr rfl Tryd.underlying26 rfl sz24 rfl) ?_
    refine RW.q (v := kv) rfl (q_load rfl Tryd.underlying24 rfl (Cell.blk 0 rfl rfl)) ?_
    refine RW.q (v := .int .i64 ((x.Kids.length : Nat) : Int)) rfl (q_len_sl rfl hk.sl Tryd.underlying24) ?_
    refine RW.q (v := .int .i64 0) rfl (q_move rfl) ?_
    refine RW.nil ?_
    refine Post.then_n ?_
    refine AW.block ?_
    refine AW.loop (fun s J m => ∃ (i : Nat), s = [(1, .pointer (some (⟨b1, 0, none⟩))), (20, kv), (21, .int .i64 ((x.Kids.length : Nat) : Int)), (22, .int .i64 (i : Int))] ∧ J = St ⟨w, Φ, []⟩ Φ [.blk b1 26 [.int .i64 x.Kind, .string (bs x.Text), .int .i64 x.N, .int .i64 x.Dim, .int .i64 x.At, kv]] ∧ m = x.Kids.length - i ∧ (i ≤ x.Kids.length) ∧ (∀ j, j < i → Pa.isDecl (x.Kids.getD j default) = true)) (s0 := _) (J1 := _) (m0 := _) ⟨0, rfl, rfl, rfl, (Nat.zero_le _), (fun j hj => absurd hj (Nat.not_lt_zero j))⟩ ⟨rfl, rfl, rfl, rfl, trivial⟩ (fun _ h => h) ?_
    rintro _ _ _ _ ⟨i, rfl, rfl, rfl, hil, hA⟩
    refine AW.seq ?_
    refine AW.region ?_
    refine RW.q (v := .bool (decide ((i : Int) < ((x.Kids.length : Nat) : Int)))) rfl (q_lss rfl rfl) ?_
    refine RW.nil ?_
    refine Post.then_n ?_
    refine AW.seq ?_
    refine AW.cond (b := decide ((i : Int) < ((x.Kids.length : Nat) : Int))) rfl (fun hc2 => ?_) (fun hc2 => ?_)
    · simp [-List.getD_eq_getElem?_getD] at hc2
      refine AW.skip ?_
      refine Post.then_n ?_
      refine AW.seq ?_
      refine AW.block ?_
      refine AW.seq ?_
      refine AW.region ?_
      refine RW.q (v := .pointer (some (Value.at kv (i * 6)))) rfl (q_indexAddr rfl rfl hk.sl Tryd.underlying24 sz26 (by omega) (by omega) rfl) ?_
      obtain ⟨cv1, hcr1, hcc1⟩ := RepSl.whole (k := i) hk (by omega)
      obtain ⟨sv1, hcE1, hcw1, hsv1⟩ := repN.1 hcr1
      subst hcE1
      refine RW.q (v := .agg #[.int .i64 ((x.Kids.getD i default).Kind), .string (bs ((x.Kids.getD i default).Text)), .int .i64 ((x.Kids.getD i default).N), .int .i64 ((x.Kids.getD i default).Dim), .int .i64 ((x.Kids.getD i default).At), sv1]) rfl (q_loadAgg rfl Tryd.underlying26 rfl sz26 rfl (Cells.phiK hcc1)) ?_
      refine RW.eff (fun b2 : Nat => .pointer (some (⟨b2, 0, none⟩))) (fun b2 => St ⟨w, Φ, []⟩ Φ [.blk b2 26 [.int .i64 0, .string (bs ([])), .int .i64 0, .int .i64 0, .int .i64 0, (.slice none 0 0)], .blk b1 26 [.int .i64 x.Kind, .string (bs x.Text), .int .i64 x.N, .int .i64 x.Dim, .int .i64 x.At, kv]]) rfl (e_alloc zero26) ?_
      intro b2
      refine RW.effn (J' := St ⟨w, Φ, []⟩ Φ [.blk b2 26 [.int .i64 ((x.Kids.getD i default).Kind), .string (bs ((x.Kids.getD i default).Text)), .int .i64 ((x.Kids.getD i default).N), .int .i64 ((x.Kids.getD i default).Dim), .int .i64 ((x.Kids.getD i default).At), sv1], .blk b1 26 [.int .i64 x.Kind, .string (bs x.Text), .int .i64 x.N, .int .i64 x.Dim, .int .i64 x.At, kv]]) (e_store (v := .agg #[.int .i64 ((x.Kids.getD i default).Kind), .string (bs ((x.Kids.getD i default).Text)), .int .i64 ((x.Kids.getD i default).N), .int .i64 ((x.Kids.getD i default).Dim), .int .i64 ((x.Kids.getD i default).At), sv1]) 0 rfl rfl rfl sz26 rfl (List.all_eq_true.2 (fun u hu => Rep.one (show Rep.rep _ _ _ from hcr1) u hu)) rfl rfl rfl) ?_
      refine RW.nil ?_
      refine Post.then_n ?_
      refine AW.seq ?_
      refine AW.region ?_
      refine RW.q (v := .agg #[.int .i64 ((x.Kids.getD i default).Kind), .string (bs ((x.Kids.getD i default).Text)), .int .i64 ((x.Kids.getD i default).N), .int .i64 ((x.Kids.getD i default).Dim), .int .i64 ((x.Kids.getD i default).At), sv1]) rfl (q_loadAgg rfl Tryd.underlying26 rfl sz26 rfl (Cells.blk 0 rfl)) ?_
      refine RW.q (v := .bool (Pa.isDecl (x.Kids.getD i default))) rfl (q_call (args := #[.agg #[.int .i64 ((x.Kids.getD i default).Kind), .string (bs ((x.Kids.getD i default).Text)), .int .i64 ((x.Kids.getD i default).N), .int .i64 ((x.Kids.getD i default).Dim), .int .i64 ((x.Kids.getD i default).At), sv1]]) own21 rfl rfl (fun w1 hw1 => isDecl_c w1 (Go.K.hp w1) (Hp.le_refl _) (hG.mono hw1.phi) (hsv1.mono hw1.phi) hcw1)) ?_
      refine RW.q (v := .bool (!(Pa.isDecl (x.Kids.getD i default)))) rfl (q_not rfl) ?_
      refine RW.nil ?_
      refine Post.then_n ?_
      refine AW.cond (b := !(Pa.isDecl (x.Kids.getD i default))) rfl (fun hc3 => ?_) (fun hc3 => ?_)
      · simp [-List.getD_eq_getElem?_getD] at hc3
        refine AW.seq ?_
        refine AW.region ?_
        refine RW.q (v := .bool false) rfl (q_assign rfl) ?_
        refine RW.nil ?_
        refine Post.then_n ?_
        refine AW.ret ?_
        refine Post.blk_r (Post.then_r (Post.then_r (Post.blk_r (Post.then_r ?_))))
        exact fin_val (v' := .bool false) rfl rfl rfl (congrArg Value.bool (by unfold Pa.right; rw [eq_comm, Bool.eq_false_iff]; intro h9; simp only [Bool.and_eq_true, decide_eq_true_eq] at h9; have h8 := h9.2 i (by omega); rw [h8] at hc3; cases hc3))
      · simp [-List.getD_eq_getElem?_getD] at hc3
        refine AW.skip ?_
        refine Post.blk_n (Post.then_n ?_)
        refine AW.region ?_
        refine RW.q (v := .int .i64 ((i + 1 : Nat) : Int)) rfl (q_add rfl rfl (by omega) (by unfold I64; omega)) ?_
        refine RW.q (v := .int .i64 ((i + 1 : Nat) : Int)) rfl (q_move rfl) ?_
        refine RW.nil ?_
        exact Post.back (s' := _) (J' := _) (m' := _) (by omega) ⟨i + 1, rfl, rfl, rfl, (by omega), (fun j hj => (by by_cases h9 : j = i; (subst h9; assumption); exact hA j (by omega)))⟩ ⟨rfl, rfl, rfl, rfl, trivial⟩ (fun _ h => StP.drop h (by exact .cons _ (.cons_cons _ (.slnil))))
    · simp [-List.getD_eq_getElem?_getD] at hc2
      refine AW.exit ?_
      refine Post.then_x (Post.then_x (Post.blk_hit (Post.then_n ?_)))
      refine AW.seq ?_
      refine AW.region ?_
      refine RW.q (v := .bool true) rfl (q_assign rfl) ?_
      refine RW.nil ?_
      refine Post.then_n ?_
      refine AW.ret ?_
      exact fin_val (v' := .bool true) rfl rfl rfl (congrArg Value.bool (by unfold Pa.right; rw [eq_comm]; simp only [Bool.and_eq_true, decide_eq_true_eq]; exact ⟨⟨⟨hc1.1.1, hc1.1.2⟩, hc1.2⟩, fun j hj => hA j (by omega)⟩))

end Go.Proofs.YtjcahklnkakklaaDoor
