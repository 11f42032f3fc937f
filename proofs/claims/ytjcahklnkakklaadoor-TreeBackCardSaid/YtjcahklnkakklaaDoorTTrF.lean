/- Walks (part TrF), printed by walk2.py. Conditions: those of each theorem. -/
import Derived.Test.YtjcahklnkakklaaDoorTTrE
import Derived.Test.YtjcahklnkakklaaDoorTLwP
import Derived.Test.YtjcahklnkakklaaDoorTPaE
namespace Go.Proofs.YtjcahklnkakklaaDoor
open Go Go.K Go.RowKit

theorem leaf26_1 {Φ : Hp} {x : Bt.Node} {cs : List Value} (h : Rep.rep Φ x cs) : cs[1]? = some (.string (bs x.Text)) := by
  obtain ⟨v, rfl, _⟩ := repN.1 h; rfl
theorem leaf26_5 {Φ : Hp} {xs : List Bt.Node} {v : Value} (h : RepSl Φ xs v) {k : Nat} (hk : k < xs.length) : ∃ u, RepSl Φ (xs.getD k default).Kids u ∧ PCell Φ (Value.at v (k * 6 + 5)) u := by
  obtain ⟨cs, h1, h2⟩ := h.at_ k hk
  obtain ⟨u, rfl, _, h3⟩ := repN.1 h1
  rw [show xs.getD k default = xs[k] by rw [List.getD_eq_getElem?_getD, List.getElem?_eq_getElem hk]; rfl]
  exact ⟨u, h3, h2 5 u rfl⟩

set_option maxRecDepth 8000 in
set_option maxHeartbeats 1000000 in
theorem size_s (w : World) (Φ : Hp) (hΦ : Hp.le Φ (hp w)) {x : Bt.Node} {kv : Value} (hk : RepSl Φ x.Kids kv) (hwx : wfN x) {g : Nat} (hg : g ≤ 61) (ih : ∀ k, k < x.Kids.length → ∀ (w : World) (Φ : Hp), Hp.le Φ (hp w) → ∀ {kv : Value}, RepSl Φ (x.Kids.getD k default).Kids kv → wfN (x.Kids.getD k default) → ∀ {g : Nat}, g ≤ 61 → Calls Tryd.prog 9 #[.agg (ndC (x.Kids.getD k default) kv).toArray, .int .i64 (g : Int)] w fun e w' => e = .returned (.int .i64 ((Pa.szN (x.Kids.getD k default) g : Nat) : Int)) ∧ Bel w.heap.size w w') :
    Calls Tryd.prog 9 #[.agg (ndC x kv).toArray, .int .i64 (g : Int)] w fun e w' => e = .returned (.int .i64 ((Pa.szN x g : Nat) : Int)) ∧ Bel w.heap.size w w' := by
  refine calls_of_AW (args := [.agg #[.int .i64 x.Kind, .string (bs x.Text), .int .i64 x.N, .int .i64 x.Dim, .int .i64 x.At, kv], .int .i64 (g : Int)]) Tryd.func9 rfl (Nat.le_of_ble_eq_true rfl) (St ⟨w, Φ, []⟩ Φ []) (StP.init w Φ hΦ []) ?_
  show AW Tryd.prog 43 [] _ _ _ [(0, .agg #[.int .i64 x.Kind, .string (bs x.Text), .int .i64 x.N, .int .i64 x.Dim, .int .i64 x.At, kv]), (1, .int .i64 (g : Int))] _
  have hkm : x.Kids.length * 72 ≤ 140737488355328 := hk.max
  have htl : x.Text.length ≤ maxLen := hwx.2.1
  refine AW.seq ?_
  refine AW.region ?_
  refine RW.eff (fun b1 : Nat => .pointer (some (⟨b1, 0, none⟩))) (fun b1 => St ⟨w, Φ, []⟩ Φ [.blk b1 26 [.int .i64 x.Kind, .string (bs x.Text), .int .i64 x.N, .int .i64 x.Dim, .int .i64 x.At, kv]]) rfl (e_boxA (cs := [.int .i64 x.Kind, .string (bs x.Text), .int .i64 x.N, .int .i64 x.Dim, .int .i64 x.At, kv]) rfl) ?_
  intro b1
  refine RW.q (v := .int .i64 0) rfl (q_assign rfl) ?_
  refine RW.nil ?_
  refine Post.then_n ?_
  refine AW.seq ?_
  refine AW.region ?_
  refine RW.q (v := .int .i64 1) rfl (q_assign rfl) ?_
  refine RW.nil ?_
  refine Post.then_n ?_
  refine AW.seq ?_
  refine AW.seq ?_
  refine AW.region ?_
  refine RW.q (v := .int .i64 (g : Int)) rfl (q_move rfl) ?_
  refine RW.q (v := .bool (decide ((60 : Int) < (g : Int)))) rfl (q_gtr rfl rfl) ?_
  refine RW.q (v := .bool (decide ((60 : Int) < (g : Int)))) rfl (q_move rfl) ?_
  refine RW.g (b := (decide ((60 : Int) < (g : Int)))) (v := .pointer (some (⟨b1, 5, none⟩))) rfl rfl rfl (fun h => q_fieldAddr rfl Tryd.underlying26 rfl sz24 rfl) ?_
  refine RW.g (b := (decide ((60 : Int) < (g : Int)))) (v := kv) rfl rfl rfl (fun h => q_load (gv_pos h) Tryd.underlying24 rfl (Cell.blk 0 rfl rfl)) ?_
  refine RW.g (b := (decide ((60 : Int) < (g : Int)))) (v := .int .i64 ((x.Kids.length : Nat) : Int)) rfl rfl rfl (fun h => q_len_sl (gv_pos h) hk.sl Tryd.underlying24) ?_
  refine RW.g (b := (decide ((60 : Int) < (g : Int)))) (v := .bool (decide ((300 : Int) < ((x.Kids.length : Nat) : Int)))) rfl rfl rfl (fun h => q_gtr (gv_pos h) rfl) ?_
  obtain ⟨qb1, hqb1⟩ : ∃ qz : Bool, ((decide ((60 : Int) < (g : Int))) || (decide ((300 : Int) < ((x.Kids.length : Nat) : Int)))) = qz := ⟨_, rfl⟩
  refine RW.q (v := .bool qb1) rfl (q_as (v := .bool ((decide ((60 : Int) < (g : Int))) || (decide ((300 : Int) < ((x.Kids.length : Nat) : Int))))) (q_pick rfl (fun hp => pkOrT hp) (fun hp => (gv_pos hp).trans (pkOrF hp))) (congrArg Value.bool hqb1)) ?_
  refine RW.q (v := .bool qb1) rfl (q_move rfl) ?_
  refine RW.g (b := qb1) (v := .pointer (some (⟨b1, 1, none⟩))) rfl rfl rfl (fun h => q_fieldAddr rfl Tryd.underlying26 rfl sz9 rfl) ?_
  refine RW.g (b := qb1) (v := .string (bs x.Text)) rfl rfl rfl (fun h => q_load (gv_pos h) Tryd.underlying9 rfl (Cell.blk 0 rfl rfl)) ?_
  refine RW.g (b := qb1) (v := .int .i64 ((x.Text.length : Nat) : Int)) rfl rfl rfl (fun h => q_lenS (l := x.Text) (gv_pos h) Tryd.underlying9) ?_
  refine RW.g (b := qb1) (v := .bool (decide ((600 : Int) < ((x.Text.length : Nat) : Int)))) rfl rfl rfl (fun h => q_gtr (gv_pos h) rfl) ?_
  obtain ⟨qb2, hqb2⟩ : ∃ qz : Bool, (qb1 || (decide ((600 : Int) < ((x.Text.length : Nat) : Int)))) = qz := ⟨_, rfl⟩
  refine RW.q (v := .bool qb2) rfl (q_as (v := .bool (qb1 || (decide ((600 : Int) < ((x.Text.length : Nat) : Int))))) (q_pick rfl (fun hp => pkOrT hp) (fun hp => (gv_pos hp).trans (pkOrF hp))) (congrArg Value.bool hqb2)) ?_
  subst hqb2 hqb1
  refine RW.nil ?_
  refine Post.then_n ?_
  refine AW.cond (b := (((decide ((60 : Int) < (g : Int))) || (decide ((300 : Int) < ((x.Kids.length : Nat) : Int)))) || (decide ((600 : Int) < ((x.Text.length : Nat) : Int))))) rfl (fun hc1 => ?_) (fun hc1 => ?_)
  · simp [-List.getD_eq_getElem?_getD] at hc1
    refine AW.seq ?_
    refine AW.region ?_
    refine RW.q (v := .int .i64 301) rfl (q_assign rfl) ?_
    refine RW.nil ?_
    refine Post.then_n ?_
    refine AW.ret ?_
    refine Post.then_r ?_
    exact fin_val (v' := .int .i64 301) rfl rfl rfl (congrArg (fun z : Nat => Value.int .i64 (z : Int)) (by rw [Pa.szN_eq, if_pos (by omega)]))
  · simp [-List.getD_eq_getElem?_getD] at hc1
    refine AW.skip ?_
    refine Post.then_n ?_
    refine AW.seq ?_
    refine AW.seq ?_
    refine AW.region ?_
    refine RW.q (v := .int .i64 0) rfl (q_assign rfl) ?_
    refine RW.nil ?_
    refine Post.then_n ?_
    refine AW.block ?_
    refine AW.loop (fun s J m => ∃ (i : Nat), ∃ (sm : Nat), s = [(1, .int .i64 (g : Int)), (2, .pointer (some (⟨b1, 0, none⟩))), (5, .int .i64 (sm : Int)), (6, .int .i64 (i : Int))] ∧ J = St ⟨w, Φ, []⟩ Φ [.blk b1 26 [.int .i64 x.Kind, .string (bs x.Text), .int .i64 x.N, .int .i64 x.Dim, .int .i64 x.At, kv]] ∧ m = x.Kids.length - i ∧ (i ≤ x.Kids.length) ∧ (sm ≤ 19000) ∧ (Pa.szN.szL (x.Kids.drop i) (g + 1) sm = Pa.szN x g)) (s0 := _) (J1 := _) (m0 := _) ⟨0, 1, rfl, rfl, rfl, (Nat.zero_le _), (by omega), (by rw [List.drop_zero, Pa.szN_eq, if_neg (by omega)])⟩ ⟨rfl, rfl, rfl, rfl, trivial⟩ (fun _ h => h) ?_
    rintro _ _ _ _ ⟨i, sm, rfl, rfl, rfl, hil, hsm, hS⟩
    refine AW.seq ?_
    refine AW.seq ?_
    refine AW.region ?_
    refine RW.q (v := .int .i64 (i : Int)) rfl (q_move rfl) ?_
    refine RW.q (v := .pointer (some (⟨b1, 5, none⟩))) rfl (q_fieldAddr rfl Tryd.underlying26 rfl sz24 rfl) ?_
    refine RW.q (v := kv) rfl (q_load rfl Tryd.underlying24 rfl (Cell.blk 0 rfl rfl)) ?_
    refine RW.q (v := .int .i64 ((x.Kids.length : Nat) : Int)) rfl (q_len_sl rfl hk.sl Tryd.underlying24) ?_
    refine RW.q (v := .bool (decide ((i : Int) < ((x.Kids.length : Nat) : Int)))) rfl (q_lss rfl rfl) ?_
    refine RW.q (v := .bool (decide ((i : Int) < ((x.Kids.length : Nat) : Int)))) rfl (q_move rfl) ?_
    refine RW.g (b := (decide ((i : Int) < ((x.Kids.length : Nat) : Int)))) (v := .int .i64 (sm : Int)) rfl rfl rfl (fun h => q_move rfl) ?_
    refine RW.g (b := (decide ((i : Int) < ((x.Kids.length : Nat) : Int)))) (v := .bool (decide ((sm : Int) ≤ 300))) rfl rfl rfl (fun h => q_leq (gv_pos h) rfl) ?_
    obtain ⟨qb3, hqb3⟩ : ∃ qz : Bool, ((decide ((i : Int) < ((x.Kids.length : Nat) : Int))) && (decide ((sm : Int) ≤ 300))) = qz := ⟨_, rfl⟩
    refine RW.q (v := .bool qb3) rfl (q_as (v := .bool ((decide ((i : Int) < ((x.Kids.length : Nat) : Int))) && (decide ((sm : Int) ≤ 300)))) (q_pick rfl (fun hp => (gv_pos hp).trans (pkAndT hp)) (fun hp => pkAndF hp)) (congrArg Value.bool hqb3)) ?_
    subst hqb3
    refine RW.nil ?_
    refine Post.then_n ?_
    refine AW.cond (b := ((decide ((i : Int) < ((x.Kids.length : Nat) : Int))) && (decide ((sm : Int) ≤ 300)))) rfl (fun hc2 => ?_) (fun hc2 => ?_)
    · simp [-List.getD_eq_getElem?_getD] at hc2
      refine AW.skip ?_
      refine Post.then_n ?_
      refine AW.seq ?_
      refine AW.block ?_
      have hz9 := Pa.szN_le (x.Kids.getD i default) (g + 1) (by omega)
      refine AW.region ?_
      refine RW.q (v := .int .i64 (sm : Int)) rfl (q_move rfl) ?_
      refine RW.q (v := .pointer (some (⟨b1, 5, none⟩))) rfl (q_fieldAddr rfl Tryd.underlying26 rfl sz24 rfl) ?_
      refine RW.q (v := kv) rfl (q_load rfl Tryd.underlying24 rfl (Cell.blk 0 rfl rfl)) ?_
      refine RW.q (v := .int .i64 (i : Int)) rfl (q_move rfl) ?_
      refine RW.q (v := .pointer (some (Value.at kv (i * 6)))) rfl (q_indexAddr rfl rfl hk.sl Tryd.underlying24 sz26 (by omega) (by omega) rfl) ?_
      obtain ⟨cv1, hcr1, hcc1⟩ := RepSl.whole (k := i) hk (by omega)
      obtain ⟨sv1, hcE1, hcw1, hsv1⟩ := repN.1 hcr1
      subst hcE1
      refine RW.q (v := .agg #[.int .i64 ((x.Kids.getD i default).Kind), .string (bs ((x.Kids.getD i default).Text)), .int .i64 ((x.Kids.getD i default).N), .int .i64 ((x.Kids.getD i default).Dim), .int .i64 ((x.Kids.getD i default).At), sv1]) rfl (q_loadAgg rfl Tryd.underlying26 rfl sz26 rfl (Cells.phiK hcc1)) ?_
      refine RW.q (v := .int .i64 (g : Int)) rfl (q_move rfl) ?_
      refine RW.q (v := .int .i64 ((g + 1 : Nat) : Int)) rfl (q_add rfl rfl (by omega) (by unfold I64; omega)) ?_
      refine RW.q (v := .int .i64 ((Pa.szN (x.Kids.getD i default) (g + 1) : Nat) : Int)) rfl (q_call (args := #[.agg #[.int .i64 ((x.Kids.getD i default).Kind), .string (bs ((x.Kids.getD i default).Text)), .int .i64 ((x.Kids.getD i default).N), .int .i64 ((x.Kids.getD i default).Dim), .int .i64 ((x.Kids.getD i default).At), sv1], .int .i64 ((g + 1 : Nat) : Int)]) own9 rfl rfl (fun w1 hw1 => ih i (by omega) w1 (Go.K.hp w1) (Hp.le_refl _) (hsv1.mono hw1.phi) hcw1 (g := g + 1) (by omega))) ?_
      refine RW.q (v := .int .i64 ((sm + Pa.szN (x.Kids.getD i default) (g + 1) : Nat) : Int)) rfl (q_add rfl rfl (by omega) (by unfold I64; omega)) ?_
      refine RW.q (v := .int .i64 ((sm + Pa.szN (x.Kids.getD i default) (g + 1) : Nat) : Int)) rfl (q_assign rfl) ?_
      refine RW.nil ?_
      refine Post.blk_n (Post.then_n ?_)
      refine AW.region ?_
      refine RW.q (v := .int .i64 (i : Int)) rfl (q_move rfl) ?_
      refine RW.q (v := .int .i64 ((i + 1 : Nat) : Int)) rfl (q_add rfl rfl (by omega) (by unfold I64; omega)) ?_
      refine RW.q (v := .int .i64 ((i + 1 : Nat) : Int)) rfl (q_assign rfl) ?_
      refine RW.nil ?_
      exact Post.back (s' := _) (J' := _) (m' := _) (by omega) ⟨i + 1, (sm + Pa.szN (x.Kids.getD i default) (g + 1)), rfl, rfl, rfl, (by omega), (by omega), (by rw [← hS, Pa.szL_drop (i := i) (by omega) (by omega)])⟩ ⟨rfl, rfl, rfl, rfl, trivial⟩ (fun _ h => StP.drop h (by exact .cons_cons _ (.slnil)))
    · simp [-List.getD_eq_getElem?_getD] at hc2
      refine AW.exit ?_
      refine Post.then_x (Post.then_x (Post.blk_hit (Post.then_n ?_)))
      refine AW.seq ?_
      refine AW.region ?_
      refine RW.q (v := .int .i64 (sm : Int)) rfl (q_move rfl) ?_
      refine RW.q (v := .int .i64 (sm : Int)) rfl (q_assign rfl) ?_
      refine RW.nil ?_
      refine Post.then_n ?_
      refine AW.ret ?_
      exact fin_val (v' := .int .i64 (sm : Int)) rfl rfl rfl (congrArg (fun z : Nat => Value.int .i64 (z : Int)) (by rw [← hS]; rcases Nat.lt_or_ge 300 sm with h9 | h9; (rw [Pa.szL_stop h9]); (rw [List.drop_of_length_le (by omega), Pa.szN.szL])))

theorem size_c : ∀ (x : Bt.Node) (w : World) (Φ : Hp), Hp.le Φ (hp w) → ∀ {kv : Value}, RepSl Φ x.Kids kv → wfN x → ∀ {g : Nat}, g ≤ 61 → Calls Tryd.prog 9 #[.agg (ndC x kv).toArray, .int .i64 (g : Int)] w fun e w' => e = .returned (.int .i64 ((Pa.szN x g : Nat) : Int)) ∧ Bel w.heap.size w w'
  | ⟨k, t, n, d, a, ks⟩, w, Φ, hΦ, kv, hk, hwx, g, hg => size_s w Φ hΦ hk hwx hg fun j hj w1 Φ1 hΦ1 kv1 hk1 hw1 g1 hg1 => size_c (ks.getD j default) w1 Φ1 hΦ1 hk1 hw1 hg1
termination_by x => SizeOf.sizeOf x
decreasing_by
  have hlt : j < ks.length := hj
  rw [List.getD_eq_getElem?_getD, List.getElem?_eq_getElem hlt, Option.getD_some]
  have h9 := List.sizeOf_lt_of_mem (List.getElem_mem hlt)
  simp only [Bt.Node.mk.sizeOf_spec]; omega

set_option maxRecDepth 8000 in
set_option maxHeartbeats 1000000 in
theorem same_s (w : World) (Φ : Hp) (hΦ : Hp.le Φ (hp w)) {x : Bt.Node} {kv : Value} (hk : RepSl Φ x.Kids kv) (hwx : wfN x) {y : Bt.Node} {kw : Value} (hky : RepSl Φ y.Kids kw) (hwy : wfN y) (ih : ∀ k, k < x.Kids.length → ∀ (w : World) (Φ : Hp), Hp.le Φ (hp w) → ∀ {kv : Value}, RepSl Φ (x.Kids.getD k default).Kids kv → wfN (x.Kids.getD k default) → ∀ {y : Bt.Node} {kw : Value}, RepSl Φ y.Kids kw → wfN y → Calls Tryd.prog 13 #[.agg (ndC (x.Kids.getD k default) kv).toArray, .agg (ndC y kw).toArray] w fun e w' => e = .returned (.bool (Pa.sameB (x.Kids.getD k default) y)) ∧ Bel w.heap.size w w') :
    Calls Tryd.prog 13 #[.agg (ndC x kv).toArray, .agg (ndC y kw).toArray] w fun e w' => e = .returned (.bool (Pa.sameB x y)) ∧ Bel w.heap.size w w' := by
  refine calls_of_AW (args := [.agg #[.int .i64 x.Kind, .string (bs x.Text), .int .i64 x.N, .int .i64 x.Dim, .int .i64 x.At, kv], .agg #[.int .i64 y.Kind, .string (bs y.Text), .int .i64 y.N, .int .i64 y.Dim, .int .i64 y.At, kw]]) Tryd.func13 rfl (Nat.le_of_ble_eq_true rfl) (St ⟨w, Φ, []⟩ Φ []) (StP.init w Φ hΦ []) ?_
  show AW Tryd.prog 53 [] _ _ _ [(0, .agg #[.int .i64 x.Kind, .string (bs x.Text), .int .i64 x.N, .int .i64 x.Dim, .int .i64 x.At, kv]), (1, .agg #[.int .i64 y.Kind, .string (bs y.Text), .int .i64 y.N, .int .i64 y.Dim, .int .i64 y.At, kw])] _
  have hkm : x.Kids.length * 72 ≤ 140737488355328 := hk.max
  have htl : x.Text.length ≤ maxLen := hwx.2.1
  have hkn : y.Kids.length * 72 ≤ 140737488355328 := hky.max
  refine AW.seq ?_
  refine AW.region ?_
  refine RW.eff (fun b1 : Nat => .pointer (some (⟨b1, 0, none⟩))) (fun b1 => St ⟨w, Φ, []⟩ Φ [.blk b1 26 [.int .i64 x.Kind, .string (bs x.Text), .int .i64 x.N, .int .i64 x.Dim, .int .i64 x.At, kv]]) rfl (e_boxA (cs := [.int .i64 x.Kind, .string (bs x.Text), .int .i64 x.N, .int .i64 x.Dim, .int .i64 x.At, kv]) rfl) ?_
  intro b1
  refine RW.eff (fun b2 : Nat => .pointer (some (⟨b2, 0, none⟩))) (fun b2 => St ⟨w, Φ, []⟩ Φ [.blk b2 26 [.int .i64 y.Kind, .string (bs y.Text), .int .i64 y.N, .int .i64 y.Dim, .int .i64 y.At, kw], .blk b1 26 [.int .i64 x.Kind, .string (bs x.Text), .int .i64 x.N, .int .i64 x.Dim, .int .i64 x.At, kv]]) rfl (e_boxA (cs := [.int .i64 y.Kind, .string (bs y.Text), .int .i64 y.N, .int .i64 y.Dim, .int .i64 y.At, kw]) rfl) ?_
  intro b2
  refine RW.q (v := .bool false) rfl (q_assign rfl) ?_
  refine RW.nil ?_
  refine Post.then_n ?_
  refine AW.seq ?_
  refine AW.seq ?_
  refine AW.region ?_
  refine RW.q (v := .pointer (some (⟨b1, 0, none⟩))) rfl (q_fieldAddr rfl Tryd.underlying26 rfl sz3 rfl) ?_
  refine RW.q (v := .int .i64 x.Kind) rfl (q_load rfl Tryd.underlying3 rfl (Cell.blk 1 rfl rfl)) ?_
  refine RW.q (v := .pointer (some (⟨b2, 0, none⟩))) rfl (q_fieldAddr rfl Tryd.underlying26 rfl sz3 rfl) ?_
  refine RW.q (v := .int .i64 y.Kind) rfl (q_load rfl Tryd.underlying3 rfl (Cell.blk 0 rfl rfl)) ?_
  refine RW.q (v := .bool (!decide (x.Kind = y.Kind))) rfl (q_neq rfl rfl) ?_
  refine RW.q (v := .bool (!decide (x.Kind = y.Kind))) rfl (q_move rfl) ?_
  refine RW.g (b := (!decide (x.Kind = y.Kind))) (v := .pointer (some (⟨b1, 1, none⟩))) rfl rfl rfl (fun h => q_fieldAddr rfl Tryd.underlying26 rfl sz9 rfl) ?_
  refine RW.g (b := (!decide (x.Kind = y.Kind))) (v := .string (bs x.Text)) rfl rfl rfl (fun h => q_load (gv_pos h) Tryd.underlying9 rfl (Cell.blk 1 rfl rfl)) ?_
  refine RW.g (b := (!decide (x.Kind = y.Kind))) (v := .pointer (some (⟨b2, 1, none⟩))) rfl rfl rfl (fun h => q_fieldAddr rfl Tryd.underlying26 rfl sz9 rfl) ?_
  refine RW.g (b := (!decide (x.Kind = y.Kind))) (v := .string (bs y.Text)) rfl rfl rfl (fun h => q_load (gv_pos h) Tryd.underlying9 rfl (Cell.blk 0 rfl rfl)) ?_
  refine RW.g (b := (!decide (x.Kind = y.Kind))) (v := .bool (!decide (x.Text = y.Text))) rfl rfl rfl (fun h => q_neqStr (l := x.Text) (r := y.Text) (gv_pos h) (gv_pos h)) ?_
  obtain ⟨qb1, hqb1⟩ : ∃ qz : Bool, ((!decide (x.Kind = y.Kind)) || (!decide (x.Text = y.Text))) = qz := ⟨_, rfl⟩
  refine RW.q (v := .bool qb1) rfl (q_as (v := .bool ((!decide (x.Kind = y.Kind)) || (!decide (x.Text = y.Text)))) (q_pick rfl (fun hp => pkOrT hp) (fun hp => (gv_pos hp).trans (pkOrF hp))) (congrArg Value.bool hqb1)) ?_
  refine RW.q (v := .bool qb1) rfl (q_move rfl) ?_
  refine RW.g (b := qb1) (v := .pointer (some (⟨b1, 2, none⟩))) rfl rfl rfl (fun h => q_fieldAddr rfl Tryd.underlying26 rfl sz23 rfl) ?_
  refine RW.g (b := qb1) (v := .agg #[.int .i64 x.N, .int .i64 x.Dim]) rfl rfl rfl (fun h => q_loadAgg (gv_pos h) Tryd.underlying23 rfl sz23 rfl (Cells.blkP (off := 2) 1 rfl (fun j u hu => (by rcases j with _ | (_ | _) <;> first | exact hu | cases hu)))) ?_
  refine RW.g (b := qb1) (v := .pointer (some (⟨b2, 2, none⟩))) rfl rfl rfl (fun h => q_fieldAddr rfl Tryd.underlying26 rfl sz23 rfl) ?_
  refine RW.g (b := qb1) (v := .agg #[.int .i64 y.N, .int .i64 y.Dim]) rfl rfl rfl (fun h => q_loadAgg (gv_pos h) Tryd.underlying23 rfl sz23 rfl (Cells.blkP (off := 2) 0 rfl (fun j u hu => (by rcases j with _ | (_ | _) <;> first | exact hu | cases hu)))) ?_
  refine RW.g (b := qb1) (v := .bool (!(decide (x.N = y.N) && decide (x.Dim = y.Dim)))) rfl rfl rfl (fun h => q_neqS (gv_pos h) (gv_pos h) (eqS23 _ _ _ _) eqG23) ?_
  obtain ⟨qb2, hqb2⟩ : ∃ qz : Bool, (qb1 || (!(decide (x.N = y.N) && decide (x.Dim = y.Dim)))) = qz := ⟨_, rfl⟩
  refine RW.q (v := .bool qb2) rfl (q_as (v := .bool (qb1 || (!(decide (x.N = y.N) && decide (x.Dim = y.Dim))))) (q_pick rfl (fun hp => pkOrT hp) (fun hp => (gv_pos hp).trans (pkOrF hp))) (congrArg Value.bool hqb2)) ?_
  refine RW.q (v := .bool qb2) rfl (q_move rfl) ?_
  refine RW.g (b := qb2) (v := .pointer (some (⟨b1, 5, none⟩))) rfl rfl rfl (fun h => q_fieldAddr rfl Tryd.underlying26 rfl sz24 rfl) ?_
  refine RW.g (b := qb2) (v := kv) rfl rfl rfl (fun h => q_load (gv_pos h) Tryd.underlying24 rfl (Cell.blk 1 rfl rfl)) ?_
  refine RW.g (b := qb2) (v := .int .i64 ((x.Kids.length : Nat) : Int)) rfl rfl rfl (fun h => q_len_sl (gv_pos h) hk.sl Tryd.underlying24) ?_
  refine RW.g (b := qb2) (v := .pointer (some (⟨b2, 5, none⟩))) rfl rfl rfl (fun h => q_fieldAddr rfl Tryd.underlying26 rfl sz24 rfl) ?_
  refine RW.g (b := qb2) (v := kw) rfl rfl rfl (fun h => q_load (gv_pos h) Tryd.underlying24 rfl (Cell.blk 0 rfl rfl)) ?_
  refine RW.g (b := qb2) (v := .int .i64 ((y.Kids.length : Nat) : Int)) rfl rfl rfl (fun h => q_len_sl (gv_pos h) hky.sl Tryd.underlying24) ?_
  refine RW.g (b := qb2) (v := .bool (!decide (((x.Kids.length : Nat) : Int) = ((y.Kids.length : Nat) : Int)))) rfl rfl rfl (fun h => q_neq (gv_pos h) (gv_pos h)) ?_
  obtain ⟨qb3, hqb3⟩ : ∃ qz : Bool, (qb2 || (!decide (((x.Kids.length : Nat) : Int) = ((y.Kids.length : Nat) : Int)))) = qz := ⟨_, rfl⟩
  refine RW.q (v := .bool qb3) rfl (q_as (v := .bool (qb2 || (!decide (((x.Kids.length : Nat) : Int) = ((y.Kids.length : Nat) : Int))))) (q_pick rfl (fun hp => pkOrT hp) (fun hp => (gv_pos hp).trans (pkOrF hp))) (congrArg Value.bool hqb3)) ?_
  subst hqb3 hqb2 hqb1
  refine RW.nil ?_
  refine Post.then_n ?_
  refine AW.cond (b := ((((!decide (x.Kind = y.Kind)) || (!decide (x.Text = y.Text))) || (!(decide (x.N = y.N) && decide (x.Dim = y.Dim)))) || (!decide (((x.Kids.length : Nat) : Int) = ((y.Kids.length : Nat) : Int))))) rfl (fun hc1 => ?_) (fun hc1 => ?_)
  · simp [-List.getD_eq_getElem?_getD] at hc1
    refine AW.seq ?_
    refine AW.region ?_
    refine RW.q (v := .bool false) rfl (q_assign rfl) ?_
    refine RW.nil ?_
    refine Post.then_n ?_
    refine AW.ret ?_
    refine Post.then_r ?_
    exact fin_val (v' := .bool false) rfl rfl rfl (congrArg Value.bool (by rw [Pa.sameB_eq, eq_comm, Bool.eq_false_iff]; intro h9; simp only [Bool.and_eq_true, decide_eq_true_eq] at h9; obtain ⟨⟨⟨h1, h2⟩, h3⟩, h4, _⟩ := h9; simp [h1, h2, h3, h4] at hc1))
  · simp [-List.getD_eq_getElem?_getD] at hc1
    refine AW.skip ?_
    refine Post.then_n ?_
    refine AW.seq ?_
    refine AW.seq ?_
    refine AW.region ?_
    refine RW.q (v := .int .i64 0) rfl (q_assign rfl) ?_
    refine RW.nil ?_
    refine Post.then_n ?_
    refine AW.block ?_
    refine AW.loop (fun s J m => ∃ (i : Nat), s = [(2, .pointer (some (⟨b1, 0, none⟩))), (3, .pointer (some (⟨b2, 0, none⟩))), (5, .int .i64 (i : Int))] ∧ J = St ⟨w, Φ, []⟩ Φ [.blk b2 26 [.int .i64 y.Kind, .string (bs y.Text), .int .i64 y.N, .int .i64 y.Dim, .int .i64 y.At, kw], .blk b1 26 [.int .i64 x.Kind, .string (bs x.Text), .int .i64 x.N, .int .i64 x.Dim, .int .i64 x.At, kv]] ∧ m = x.Kids.length - i ∧ (i ≤ x.Kids.length) ∧ (∀ j, j < i → Pa.sameB (x.Kids.getD j default) (y.Kids.getD j default) = true)) (s0 := _) (J1 := _) (m0 := _) ⟨0, rfl, rfl, rfl, (Nat.zero_le _), (fun j hj => absurd hj (Nat.not_lt_zero j))⟩ ⟨rfl, rfl, rfl, trivial⟩ (fun _ h => h) ?_
    rintro _ _ _ _ ⟨i, rfl, rfl, rfl, hil, hA⟩
    refine AW.seq ?_
    refine AW.seq ?_
    refine AW.region ?_
    refine RW.q (v := .int .i64 (i : Int)) rfl (q_move rfl) ?_
    refine RW.q (v := .pointer (some (⟨b1, 5, none⟩))) rfl (q_fieldAddr rfl Tryd.underlying26 rfl sz24 rfl) ?_
    refine RW.q (v := kv) rfl (q_load rfl Tryd.underlying24 rfl (Cell.blk 1 rfl rfl)) ?_
    refine RW.q (v := .int .i64 ((x.Kids.length : Nat) : Int)) rfl (q_len_sl rfl hk.sl Tryd.underlying24) ?_
    refine RW.q (v := .bool (decide ((i : Int) < ((x.Kids.length : Nat) : Int)))) rfl (q_lss rfl rfl) ?_
    refine RW.nil ?_
    refine Post.then_n ?_
    refine AW.cond (b := decide ((i : Int) < ((x.Kids.length : Nat) : Int))) rfl (fun hc2 => ?_) (fun hc2 => ?_)
    · simp [-List.getD_eq_getElem?_getD] at hc2
      refine AW.skip ?_
      refine Post.then_n ?_
      refine AW.seq ?_
      refine AW.block ?_
      refine AW.seq ?_
      refine AW.draw (J0 := St ⟨w, Φ, []⟩ Φ [.blk b2 26 [.int .i64 y.Kind, .string (bs y.Text), .int .i64 y.N, .int .i64 y.Dim, .int .i64 y.At, kw], .blk b1 26 [.int .i64 x.Kind, .string (bs x.Text), .int .i64 x.N, .int .i64 x.Dim, .int .i64 x.At, kv]]) [.q, .q, .q, .q, .q, .q, .q, .q, .q, .q, .q, .q] [0, 1, 2, 3, 4, 5, 6, 7, 8, 9, 10, 11] hmix (by kernel_rfl) ?_
      refine DW.q (v := .pointer (some (⟨b1, 5, none⟩))) (fun _ h => h) rfl (q_fieldAddr rfl Tryd.underlying26 rfl sz24 rfl) ?_
      refine DW.q (v := kv) (fun _ h => h) rfl (q_load rfl Tryd.underlying24 rfl (Cell.blk 1 rfl rfl)) ?_
      refine DW.q (v := .int .i64 (i : Int)) (fun _ h => h) rfl (q_move rfl) ?_
      refine DW.q (v := .pointer (some (Value.at kv (i * 6)))) (fun _ h => h) rfl (q_indexAddr rfl rfl hk.sl Tryd.underlying24 sz26 (by omega) (by omega) rfl) ?_
      obtain ⟨cv1, hcr1, hcc1⟩ := RepSl.whole (k := i) hk (by omega)
      obtain ⟨sv1, hcE1, hcw1, hsv1⟩ := repN.1 hcr1
      subst hcE1
      refine DW.q (v := .agg #[.int .i64 ((x.Kids.getD i default).Kind), .string (bs ((x.Kids.getD i default).Text)), .int .i64 ((x.Kids.getD i default).N), .int .i64 ((x.Kids.getD i default).Dim), .int .i64 ((x.Kids.getD i default).At), sv1]) (fun _ h => h) rfl (q_loadAgg rfl Tryd.underlying26 rfl sz26 rfl (Cells.phiK hcc1)) ?_
      refine DW.q (v := .pointer (some (⟨b2, 5, none⟩))) (fun _ h => h) rfl (q_fieldAddr rfl Tryd.underlying26 rfl sz24 rfl) ?_
      refine DW.q (v := kw) (fun _ h => h) rfl (q_load rfl Tryd.underlying24 rfl (Cell.blk 0 rfl rfl)) ?_
      refine DW.q (v := .int .i64 (i : Int)) (fun _ h => h) rfl (q_move rfl) ?_
      refine DW.q (v := .pointer (some (Value.at kw (i * 6)))) (fun _ h => h) rfl (q_indexAddr rfl rfl hky.sl Tryd.underlying24 sz26 (by omega) (by omega) rfl) ?_
      obtain ⟨cv2, hcr2, hcc2⟩ := RepSl.whole (k := i) hky (by omega)
      obtain ⟨sv2, hcE2, hcw2, hsv2⟩ := repN.1 hcr2
      subst hcE2
      refine DW.q (v := .agg #[.int .i64 ((y.Kids.getD i default).Kind), .string (bs ((y.Kids.getD i default).Text)), .int .i64 ((y.Kids.getD i default).N), .int .i64 ((y.Kids.getD i default).Dim), .int .i64 ((y.Kids.getD i default).At), sv2]) (fun _ h => h) rfl (q_loadAgg rfl Tryd.underlying26 rfl sz26 rfl (Cells.phiK hcc2)) ?_
      refine DW.q (v := .bool (Pa.sameB (x.Kids.getD i default) (y.Kids.getD i default))) (fun _ h => h) rfl (q_call (args := #[.agg #[.int .i64 ((x.Kids.getD i default).Kind), .string (bs ((x.Kids.getD i default).Text)), .int .i64 ((x.Kids.getD i default).N), .int .i64 ((x.Kids.getD i default).Dim), .int .i64 ((x.Kids.getD i default).At), sv1], .agg #[.int .i64 ((y.Kids.getD i default).Kind), .string (bs ((y.Kids.getD i default).Text)), .int .i64 ((y.Kids.getD i default).N), .int .i64 ((y.Kids.getD i default).Dim), .int .i64 ((y.Kids.getD i default).At), sv2]]) own13 rfl rfl (fun w1 hw1 => ih i (by omega) w1 (Go.K.hp w1) (Hp.le_refl _) (hsv1.mono hw1.phi) hcw1 (hsv2.mono hw1.phi) hcw2)) ?_
      refine DW.q (v := .bool (!(Pa.sameB (x.Kids.getD i default) (y.Kids.getD i default)))) (fun _ h => h) rfl (q_not rfl) ?_
      refine DW.nil ?_
      refine Post.then_n ?_
      refine AW.cond (b := !(Pa.sameB (x.Kids.getD i default) (y.Kids.getD i default))) rfl (fun hc3 => ?_) (fun hc3 => ?_)
      · simp [-List.getD_eq_getElem?_getD] at hc3
        refine AW.seq ?_
        refine AW.region ?_
        refine RW.q (v := .bool false) rfl (q_assign rfl) ?_
        refine RW.nil ?_
        refine Post.then_n ?_
        refine AW.ret ?_
        refine Post.blk_r (Post.then_r (Post.then_r (Post.blk_r (Post.then_r ?_))))
        exact fin_val (v' := .bool false) rfl rfl rfl (congrArg Value.bool (by rw [Pa.sameB_eq, eq_comm, Bool.eq_false_iff]; intro h9; simp only [Bool.and_eq_true, decide_eq_true_eq] at h9; have h8 := h9.2.2 i (by omega); rw [h8] at hc3; cases hc3))
      · simp [-List.getD_eq_getElem?_getD] at hc3
        refine AW.skip ?_
        refine Post.blk_n (Post.then_n ?_)
        refine AW.region ?_
        refine RW.q (v := .int .i64 (i : Int)) rfl (q_move rfl) ?_
        refine RW.q (v := .int .i64 ((i + 1 : Nat) : Int)) rfl (q_add rfl rfl (by omega) (by unfold I64; omega)) ?_
        refine RW.q (v := .int .i64 ((i + 1 : Nat) : Int)) rfl (q_assign rfl) ?_
        refine RW.nil ?_
        exact Post.back (s' := _) (J' := _) (m' := _) (by omega) ⟨i + 1, rfl, rfl, rfl, (by omega), (fun j hj => (by by_cases h9 : j = i; (subst h9; assumption); exact hA j (by omega)))⟩ ⟨rfl, rfl, rfl, trivial⟩ (fun _ h => StP.drop h (by exact .cons_cons _ (.cons_cons _ (.slnil))))
    · simp [-List.getD_eq_getElem?_getD] at hc2
      refine AW.exit ?_
      refine Post.then_x (Post.then_x (Post.blk_hit (Post.then_n ?_)))
      refine AW.seq ?_
      refine AW.region ?_
      refine RW.q (v := .bool true) rfl (q_assign rfl) ?_
      refine RW.nil ?_
      refine Post.then_n ?_
      refine AW.ret ?_
      exact fin_val (v' := .bool true) rfl rfl rfl (congrArg Value.bool (by rw [Pa.sameB_eq, eq_comm]; simp only [Bool.and_eq_true, decide_eq_true_eq]; exact ⟨⟨⟨hc1.1.1.1, hc1.1.1.2⟩, hc1.1.2⟩, by omega, fun j hj => hA j (by omega)⟩))

theorem same_c : ∀ (x : Bt.Node) (w : World) (Φ : Hp), Hp.le Φ (hp w) → ∀ {kv : Value}, RepSl Φ x.Kids kv → wfN x → ∀ {y : Bt.Node} {kw : Value}, RepSl Φ y.Kids kw → wfN y → Calls Tryd.prog 13 #[.agg (ndC x kv).toArray, .agg (ndC y kw).toArray] w fun e w' => e = .returned (.bool (Pa.sameB x y)) ∧ Bel w.heap.size w w'
  | ⟨k, t, n, d, a, ks⟩, w, Φ, hΦ, kv, hk, hwx, y, kw, hky, hwy => same_s w Φ hΦ hk hwx hky hwy fun j hj w1 Φ1 hΦ1 kv1 hk1 hw1 y1 kw1 hky1 hwy1 => same_c (ks.getD j default) w1 Φ1 hΦ1 hk1 hw1 hky1 hwy1
termination_by x => SizeOf.sizeOf x
decreasing_by
  have hlt : j < ks.length := hj
  rw [List.getD_eq_getElem?_getD, List.getElem?_eq_getElem hlt, Option.getD_some]
  have h9 := List.sizeOf_lt_of_mem (List.getElem_mem hlt)
  simp only [Bt.Node.mk.sizeOf_spec]; omega

def sm0 : Bt.Node := (Pa.parse ([108, 97, 107, 101, 32, 116, 111, 112, 32, 34, 85, 112, 112, 101, 114, 34, 32, 123, 32, 99, 97, 112, 32, 52, 32, 77, 76, 59, 32, 108, 101, 118, 101, 108, 32, 40, 48, 32, 108, 44, 32, 48, 32, 109, 109, 41, 32, 40, 52, 32, 77, 76, 44, 32, 51, 32, 109, 41, 59, 32, 125] : List UInt8)).1
theorem sm0_e : (Pa.parse ([108, 97, 107, 101, 32, 116, 111, 112, 32, 34, 85, 112, 112, 101, 114, 34, 32, 123, 32, 99, 97, 112, 32, 52, 32, 77, 76, 59, 32, 108, 101, 118, 101, 108, 32, 40, 48, 32, 108, 44, 32, 48, 32, 109, 109, 41, 32, 40, 52, 32, 77, 76, 44, 32, 51, 32, 109, 41, 59, 32, 125] : List UInt8)).2 = (0, 0) := by decide +kernel
theorem sm0_c (w : World) (Φ : Hp) (hΦ : Hp.le Φ (hp w)) (hG : Knows Φ Glob) :
    Calls Tryd.prog 12 #[.string (bs ([108, 97, 107, 101, 32, 116, 111, 112, 32, 34, 85, 112, 112, 101, 114, 34, 32, 123, 32, 99, 97, 112, 32, 52, 32, 77, 76, 59, 32, 108, 101, 118, 101, 108, 32, 40, 48, 32, 108, 44, 32, 48, 32, 109, 109, 41, 32, 40, 52, 32, 77, 76, 44, 32, 51, 32, 109, 41, 59, 32, 125] : List UInt8))] w (RetS Φ w fun r Ψ => ∃ kv, r = .tuple #[.agg (ndC sm0 kv).toArray, .int .i64 0, .int .i64 0] ∧ wfN sm0 ∧ RepSl Ψ sm0.Kids kv) := by
  have h := Parse_c w Φ hΦ hG (l := ([108, 97, 107, 101, 32, 116, 111, 112, 32, 34, 85, 112, 112, 101, 114, 34, 32, 123, 32, 99, 97, 112, 32, 52, 32, 77, 76, 59, 32, 108, 101, 118, 101, 108, 32, 40, 48, 32, 108, 44, 32, 48, 32, 109, 109, 41, 32, 40, 52, 32, 77, 76, 44, 32, 51, 32, 109, 41, 59, 32, 125] : List UInt8)) (by decide)
  rw [sm0_e] at h
  exact h

def sm1 : Bt.Node := (Pa.parse ([120, 32, 123, 32, 121, 32, 53, 32, 109, 32, 122, 59, 32, 125] : List UInt8)).1
theorem sm1_e : (Pa.parse ([120, 32, 123, 32, 121, 32, 53, 32, 109, 32, 122, 59, 32, 125] : List UInt8)).2 = (0, 0) := by decide +kernel
theorem sm1_c (w : World) (Φ : Hp) (hΦ : Hp.le Φ (hp w)) (hG : Knows Φ Glob) :
    Calls Tryd.prog 12 #[.string (bs ([120, 32, 123, 32, 121, 32, 53, 32, 109, 32, 122, 59, 32, 125] : List UInt8))] w (RetS Φ w fun r Ψ => ∃ kv, r = .tuple #[.agg (ndC sm1 kv).toArray, .int .i64 0, .int .i64 0] ∧ wfN sm1 ∧ RepSl Ψ sm1.Kids kv) := by
  have h := Parse_c w Φ hΦ hG (l := ([120, 32, 123, 32, 121, 32, 53, 32, 109, 32, 122, 59, 32, 125] : List UInt8)) (by decide)
  rw [sm1_e] at h
  exact h

def sm2 : Bt.Node := (Pa.parse ([120, 32, 123, 32, 121, 32, 53, 32, 125] : List UInt8)).1
theorem sm2_e : (Pa.parse ([120, 32, 123, 32, 121, 32, 53, 32, 125] : List UInt8)).2 = (2, 8) := by decide +kernel
theorem sm2_c (w : World) (Φ : Hp) (hΦ : Hp.le Φ (hp w)) (hG : Knows Φ Glob) :
    Calls Tryd.prog 12 #[.string (bs ([120, 32, 123, 32, 121, 32, 53, 32, 125] : List UInt8))] w (RetS Φ w fun r Ψ => ∃ kv, r = .tuple #[.agg (ndC sm2 kv).toArray, .int .i64 2, .int .i64 8] ∧ wfN sm2 ∧ RepSl Ψ sm2.Kids kv) := by
  have h := Parse_c w Φ hΦ hG (l := ([120, 32, 123, 32, 121, 32, 53, 32, 125] : List UInt8)) (by decide)
  rw [sm2_e] at h
  exact h

def sm3 : Bt.Node := (Pa.parse ([120, 32, 121] : List UInt8)).1
theorem sm3_e : (Pa.parse ([120, 32, 121] : List UInt8)).2 = (2, 3) := by decide +kernel
theorem sm3_c (w : World) (Φ : Hp) (hΦ : Hp.le Φ (hp w)) (hG : Knows Φ Glob) :
    Calls Tryd.prog 12 #[.string (bs ([120, 32, 121] : List UInt8))] w (RetS Φ w fun r Ψ => ∃ kv, r = .tuple #[.agg (ndC sm3 kv).toArray, .int .i64 2, .int .i64 3] ∧ wfN sm3 ∧ RepSl Ψ sm3.Kids kv) := by
  have h := Parse_c w Φ hΦ hG (l := ([120, 32, 121] : List UInt8)) (by decide)
  rw [sm3_e] at h
  exact h

def sm4 : Bt.Node := (Pa.parse ([120, 32, 123, 32, 121, 32, 40, 41, 59, 32, 125] : List UInt8)).1
theorem sm4_e : (Pa.parse ([120, 32, 123, 32, 121, 32, 40, 41, 59, 32, 125] : List UInt8)).2 = (2, 7) := by decide +kernel
theorem sm4_c (w : World) (Φ : Hp) (hΦ : Hp.le Φ (hp w)) (hG : Knows Φ Glob) :
    Calls Tryd.prog 12 #[.string (bs ([120, 32, 123, 32, 121, 32, 40, 41, 59, 32, 125] : List UInt8))] w (RetS Φ w fun r Ψ => ∃ kv, r = .tuple #[.agg (ndC sm4 kv).toArray, .int .i64 2, .int .i64 7] ∧ wfN sm4 ∧ RepSl Ψ sm4.Kids kv) := by
  have h := Parse_c w Φ hΦ hG (l := ([120, 32, 123, 32, 121, 32, 40, 41, 59, 32, 125] : List UInt8)) (by decide)
  rw [sm4_e] at h
  exact h

def sm5 : Bt.Node := (Pa.parse ([120, 32, 123, 32, 121, 32, 49, 46, 53, 32, 108, 59, 32, 125] : List UInt8)).1
theorem sm5_e : (Pa.parse ([120, 32, 123, 32, 121, 32, 49, 46, 53, 32, 108, 59, 32, 125] : List UInt8)).2 = (7, 6) := by decide +kernel
theorem sm5_c (w : World) (Φ : Hp) (hΦ : Hp.le Φ (hp w)) (hG : Knows Φ Glob) :
    Calls Tryd.prog 12 #[.string (bs ([120, 32, 123, 32, 121, 32, 49, 46, 53, 32, 108, 59, 32, 125] : List UInt8))] w (RetS Φ w fun r Ψ => ∃ kv, r = .tuple #[.agg (ndC sm5 kv).toArray, .int .i64 7, .int .i64 6] ∧ wfN sm5 ∧ RepSl Ψ sm5.Kids kv) := by
  have h := Parse_c w Φ hΦ hG (l := ([120, 32, 123, 32, 121, 32, 49, 46, 53, 32, 108, 59, 32, 125] : List UInt8)) (by decide)
  rw [sm5_e] at h
  exact h

set_option maxRecDepth 8000 in
set_option maxHeartbeats 2000000 in
theorem small_c (w : World) (Φ : Hp) (hΦ : Hp.le Φ (hp w)) (hG : Knows Φ Glob) :
    Calls Tryd.prog 8 #[] w fun e w' => e = .returned (.bool true) ∧ Bel w.heap.size w w' := by
  refine calls_of_AW (args := []) Tryd.func8 rfl (Nat.le_of_ble_eq_true rfl) (St ⟨w, Φ, []⟩ Φ []) (StP.init w Φ hΦ []) ?_
  show AW Tryd.prog 225 [] _ _ _ [] _
  refine AW.seq ?_
  refine AW.region ?_
  refine RW.q (v := .bool false) rfl (q_assign rfl) ?_
  refine RW.nil ?_
  refine Post.then_n ?_
  refine AW.seq ?_
  refine AW.region ?_
  refine RW.eff (fun x : {z : (Value) × Hp // (fun (y : Value) (Ψ : Hp) => (wfN sm0) ∧ (RepSl Ψ sm0.Kids y)) z.1 z.2 ∧ Hp.le Φ z.2} => .tuple #[.agg (ndC sm0 x.1.1).toArray, .int .i64 0, .int .i64 0]) (fun x => St ⟨w, Φ, []⟩ x.1.2 []) rfl (e_callX (fun (y : Value) => .tuple #[.agg (ndC sm0 y).toArray, .int .i64 0, .int .i64 0]) (fun (y : Value) (Ψ : Hp) => (wfN sm0) ∧ (RepSl Ψ sm0.Kids y)) (args := #[.string (bs ([108, 97, 107, 101, 32, 116, 111, 112, 32, 34, 85, 112, 112, 101, 114, 34, 32, 123, 32, 99, 97, 112, 32, 52, 32, 77, 76, 59, 32, 108, 101, 118, 101, 108, 32, 40, 48, 32, 108, 44, 32, 48, 32, 109, 109, 41, 32, 40, 52, 32, 77, 76, 44, 32, 51, 32, 109, 41, 59, 32, 125] : List UInt8))]) own12 rfl rfl (fun w1 hw1 => (sm0_c w1 _ hw1.phi hG).mono fun e w2 hr => by obtain ⟨v9, he9, hb9, u1, hr9, q1, q2⟩ := hr; exact ⟨v9, he9, hb9, u1, hr9, q1, q2⟩)) ?_
  rintro ⟨⟨kp1, Φ1⟩, ⟨hwp1, hkp1⟩, hlΦ1⟩
  replace hwp1 : wfN sm0 := hwp1
  replace hkp1 : RepSl Φ1 sm0.Kids kp1 := hkp1
  replace hlΦ1 : Hp.le Φ Φ1 := hlΦ1
  replace hG := hG.mono hlΦ1
  refine RW.q (v := .tuple #[.agg #[.int .i64 sm0.Kind, .string (bs sm0.Text), .int .i64 sm0.N, .int .i64 sm0.Dim, .int .i64 sm0.At, kp1], .int .i64 0, .int .i64 0]) rfl (q_move rfl) ?_
  refine RW.q (v := .agg #[.int .i64 sm0.Kind, .string (bs sm0.Text), .int .i64 sm0.N, .int .i64 sm0.Dim, .int .i64 sm0.At, kp1]) rfl (q_extract rfl rfl) ?_
  refine RW.q (v := .int .i64 0) rfl (q_extract rfl rfl) ?_
  refine RW.q (v := .int .i64 0) rfl (q_extract rfl rfl) ?_
  refine RW.eff (fun b1 : Nat => .pointer (some (⟨b1, 0, none⟩))) (fun b1 => St ⟨w, Φ, []⟩ Φ1 [.blk b1 26 [.int .i64 0, .string (bs ([])), .int .i64 0, .int .i64 0, .int .i64 0, (.slice none 0 0)]]) rfl (e_alloc zero26) ?_
  intro b1
  refine RW.effn (J' := St ⟨w, Φ, []⟩ Φ1 [.blk b1 26 [.int .i64 sm0.Kind, .string (bs sm0.Text), .int .i64 sm0.N, .int .i64 sm0.Dim, .int .i64 sm0.At, kp1]]) (e_store (v := .agg #[.int .i64 sm0.Kind, .string (bs sm0.Text), .int .i64 sm0.N, .int .i64 sm0.Dim, .int .i64 sm0.At, kp1]) 0 rfl rfl rfl sz26 rfl (List.all_eq_true.2 (fun u hu => Rep.one (NdV.rep hwp1 hkp1) u hu)) rfl rfl rfl) ?_
  refine RW.q (v := .int .i64 0) rfl (q_assign rfl) ?_
  refine RW.q (v := .int .i64 0) rfl (q_assign rfl) ?_
  refine RW.nil ?_
  refine Post.then_n ?_
  refine AW.seq ?_
  refine AW.region ?_
  refine RW.eff (fun x : {z : (Value) × Hp // (fun (y : Value) (Ψ : Hp) => (wfN sm1) ∧ (RepSl Ψ sm1.Kids y)) z.1 z.2 ∧ Hp.le Φ1 z.2} => .tuple #[.agg (ndC sm1 x.1.1).toArray, .int .i64 0, .int .i64 0]) (fun x => St ⟨w, Φ, []⟩ x.1.2 [.blk b1 26 [.int .i64 sm0.Kind, .string (bs sm0.Text), .int .i64 sm0.N, .int .i64 sm0.Dim, .int .i64 sm0.At, kp1]]) rfl (e_callX (fun (y : Value) => .tuple #[.agg (ndC sm1 y).toArray, .int .i64 0, .int .i64 0]) (fun (y : Value) (Ψ : Hp) => (wfN sm1) ∧ (RepSl Ψ sm1.Kids y)) (args := #[.string (bs ([120, 32, 123, 32, 121, 32, 53, 32, 109, 32, 122, 59, 32, 125] : List UInt8))]) own12 rfl rfl (fun w1 hw1 => (sm1_c w1 _ hw1.phi hG).mono fun e w2 hr => by obtain ⟨v9, he9, hb9, u1, hr9, q1, q2⟩ := hr; exact ⟨v9, he9, hb9, u1, hr9, q1, q2⟩)) ?_
  rintro ⟨⟨kp2, Φ2⟩, ⟨hwp2, hkp2⟩, hlΦ2⟩
  replace hwp2 : wfN sm1 := hwp2
  replace hkp2 : RepSl Φ2 sm1.Kids kp2 := hkp2
  replace hlΦ2 : Hp.le Φ1 Φ2 := hlΦ2
  replace hG := hG.mono hlΦ2
  replace hkp1 := hkp1.mono hlΦ2
  refine RW.q (v := .tuple #[.agg #[.int .i64 sm1.Kind, .string (bs sm1.Text), .int .i64 sm1.N, .int .i64 sm1.Dim, .int .i64 sm1.At, kp2], .int .i64 0, .int .i64 0]) rfl (q_move rfl) ?_
  refine RW.q (v := .agg #[.int .i64 sm1.Kind, .string (bs sm1.Text), .int .i64 sm1.N, .int .i64 sm1.Dim, .int .i64 sm1.At, kp2]) rfl (q_extract rfl rfl) ?_
  refine RW.q (v := .int .i64 0) rfl (q_extract rfl rfl) ?_
  refine RW.q (v := .int .i64 0) rfl (q_extract rfl rfl) ?_
  refine RW.eff (fun b2 : Nat => .pointer (some (⟨b2, 0, none⟩))) (fun b2 => St ⟨w, Φ, []⟩ Φ2 [.blk b2 26 [.int .i64 0, .string (bs ([])), .int .i64 0, .int .i64 0, .int .i64 0, (.slice none 0 0)], .blk b1 26 [.int .i64 sm0.Kind, .string (bs sm0.Text), .int .i64 sm0.N, .int .i64 sm0.Dim, .int .i64 sm0.At, kp1]]) rfl (e_alloc zero26) ?_
  intro b2
  refine RW.effn (J' := St ⟨w, Φ, []⟩ Φ2 [.blk b2 26 [.int .i64 sm1.Kind, .string (bs sm1.Text), .int .i64 sm1.N, .int .i64 sm1.Dim, .int .i64 sm1.At, kp2], .blk b1 26 [.int .i64 sm0.Kind, .string (bs sm0.Text), .int .i64 sm0.N, .int .i64 sm0.Dim, .int .i64 sm0.At, kp1]]) (e_store (v := .agg #[.int .i64 sm1.Kind, .string (bs sm1.Text), .int .i64 sm1.N, .int .i64 sm1.Dim, .int .i64 sm1.At, kp2]) 0 rfl rfl rfl sz26 rfl (List.all_eq_true.2 (fun u hu => Rep.one (NdV.rep hwp2 hkp2) u hu)) rfl rfl rfl) ?_
  refine RW.q (v := .int .i64 0) rfl (q_assign rfl) ?_
  refine RW.q (v := .int .i64 0) rfl (q_assign rfl) ?_
  refine RW.nil ?_
  refine Post.then_n ?_
  refine AW.seq ?_
  refine AW.region ?_
  refine RW.eff (fun x : {z : (Value) × Hp // (fun (y : Value) (Ψ : Hp) => (wfN sm2) ∧ (RepSl Ψ sm2.Kids y)) z.1 z.2 ∧ Hp.le Φ2 z.2} => .tuple #[.agg (ndC sm2 x.1.1).toArray, .int .i64 2, .int .i64 8]) (fun x => St ⟨w, Φ, []⟩ x.1.2 [.blk b2 26 [.int .i64 sm1.Kind, .string (bs sm1.Text), .int .i64 sm1.N, .int .i64 sm1.Dim, .int .i64 sm1.At, kp2], .blk b1 26 [.int .i64 sm0.Kind, .string (bs sm0.Text), .int .i64 sm0.N, .int .i64 sm0.Dim, .int .i64 sm0.At, kp1]]) rfl (e_callX (fun (y : Value) => .tuple #[.agg (ndC sm2 y).toArray, .int .i64 2, .int .i64 8]) (fun (y : Value) (Ψ : Hp) => (wfN sm2) ∧ (RepSl Ψ sm2.Kids y)) (args := #[.string (bs ([120, 32, 123, 32, 121, 32, 53, 32, 125] : List UInt8))]) own12 rfl rfl (fun w1 hw1 => (sm2_c w1 _ hw1.phi hG).mono fun e w2 hr => by obtain ⟨v9, he9, hb9, u1, hr9, q1, q2⟩ := hr; exact ⟨v9, he9, hb9, u1, hr9, q1, q2⟩)) ?_
  rintro ⟨⟨kp3, Φ3⟩, ⟨hwp3, hkp3⟩, hlΦ3⟩
  replace hwp3 : wfN sm2 := hwp3
  replace hkp3 : RepSl Φ3 sm2.Kids kp3 := hkp3
  replace hlΦ3 : Hp.le Φ2 Φ3 := hlΦ3
  replace hG := hG.mono hlΦ3
  replace hkp1 := hkp1.mono hlΦ3
  replace hkp2 := hkp2.mono hlΦ3
  refine RW.q (v := .tuple #[.agg #[.int .i64 sm2.Kind, .string (bs sm2.Text), .int .i64 sm2.N, .int .i64 sm2.Dim, .int .i64 sm2.At, kp3], .int .i64 2, .int .i64 8]) rfl (q_move rfl) ?_
  refine RW.q (v := .agg #[.int .i64 sm2.Kind, .string (bs sm2.Text), .int .i64 sm2.N, .int .i64 sm2.Dim, .int .i64 sm2.At, kp3]) rfl (q_extract rfl rfl) ?_
  refine RW.q (v := .int .i64 2) rfl (q_extract rfl rfl) ?_
  refine RW.q (v := .int .i64 8) rfl (q_extract rfl rfl) ?_
  refine RW.eff (fun b3 : Nat => .pointer (some (⟨b3, 0, none⟩))) (fun b3 => St ⟨w, Φ, []⟩ Φ3 [.blk b3 26 [.int .i64 0, .string (bs ([])), .int .i64 0, .int .i64 0, .int .i64 0, (.slice none 0 0)], .blk b2 26 [.int .i64 sm1.Kind, .string (bs sm1.Text), .int .i64 sm1.N, .int .i64 sm1.Dim, .int .i64 sm1.At, kp2], .blk b1 26 [.int .i64 sm0.Kind, .string (bs sm0.Text), .int .i64 sm0.N, .int .i64 sm0.Dim, .int .i64 sm0.At, kp1]]) rfl (e_alloc zero26) ?_
  intro b3
  refine RW.effn (J' := St ⟨w, Φ, []⟩ Φ3 [.blk b3 26 [.int .i64 sm2.Kind, .string (bs sm2.Text), .int .i64 sm2.N, .int .i64 sm2.Dim, .int .i64 sm2.At, kp3], .blk b2 26 [.int .i64 sm1.Kind, .string (bs sm1.Text), .int .i64 sm1.N, .int .i64 sm1.Dim, .int .i64 sm1.At, kp2], .blk b1 26 [.int .i64 sm0.Kind, .string (bs sm0.Text), .int .i64 sm0.N, .int .i64 sm0.Dim, .int .i64 sm0.At, kp1]]) (e_store (v := .agg #[.int .i64 sm2.Kind, .string (bs sm2.Text), .int .i64 sm2.N, .int .i64 sm2.Dim, .int .i64 sm2.At, kp3]) 0 rfl rfl rfl sz26 rfl (List.all_eq_true.2 (fun u hu => Rep.one (NdV.rep hwp3 hkp3) u hu)) rfl rfl rfl) ?_
  refine RW.q (v := .int .i64 2) rfl (q_assign rfl) ?_
  refine RW.q (v := .int .i64 8) rfl (q_assign rfl) ?_
  refine RW.nil ?_
  refine Post.then_n ?_
  refine AW.seq ?_
  refine AW.region ?_
  refine RW.eff (fun x : {z : (Value) × Hp // (fun (y : Value) (Ψ : Hp) => (wfN sm3) ∧ (RepSl Ψ sm3.Kids y)) z.1 z.2 ∧ Hp.le Φ3 z.2} => .tuple #[.agg (ndC sm3 x.1.1).toArray, .int .i64 2, .int .i64 3]) (fun x => St ⟨w, Φ, []⟩ x.1.2 [.blk b3 26 [.int .i64 sm2.Kind, .string (bs sm2.Text), .int .i64 sm2.N, .int .i64 sm2.Dim, .int .i64 sm2.At, kp3], .blk b2 26 [.int .i64 sm1.Kind, .string (bs sm1.Text), .int .i64 sm1.N, .int .i64 sm1.Dim, .int .i64 sm1.At, kp2], .blk b1 26 [.int .i64 sm0.Kind, .string (bs sm0.Text), .int .i64 sm0.N, .int .i64 sm0.Dim, .int .i64 sm0.At, kp1]]) rfl (e_callX (fun (y : Value) => .tuple #[.agg (ndC sm3 y).toArray, .int .i64 2, .int .i64 3]) (fun (y : Value) (Ψ : Hp) => (wfN sm3) ∧ (RepSl Ψ sm3.Kids y)) (args := #[.string (bs ([120, 32, 121] : List UInt8))]) own12 rfl rfl (fun w1 hw1 => (sm3_c w1 _ hw1.phi hG).mono fun e w2 hr => by obtain ⟨v9, he9, hb9, u1, hr9, q1, q2⟩ := hr; exact ⟨v9, he9, hb9, u1, hr9, q1, q2⟩)) ?_
  rintro ⟨⟨kp4, Φ4⟩, ⟨hwp4, hkp4⟩, hlΦ4⟩
  replace hwp4 : wfN sm3 := hwp4
  replace hkp4 : RepSl Φ4 sm3.Kids kp4 := hkp4
  replace hlΦ4 : Hp.le Φ3 Φ4 := hlΦ4
  replace hG := hG.mono hlΦ4
  replace hkp1 := hkp1.mono hlΦ4
  replace hkp2 := hkp2.mono hlΦ4
  replace hkp3 := hkp3.mono hlΦ4
  refine RW.q (v := .tuple #[.agg #[.int .i64 sm3.Kind, .string (bs sm3.Text), .int .i64 sm3.N, .int .i64 sm3.Dim, .int .i64 sm3.At, kp4], .int .i64 2, .int .i64 3]) rfl (q_move rfl) ?_
  refine RW.q (v := .agg #[.int .i64 sm3.Kind, .string (bs sm3.Text), .int .i64 sm3.N, .int .i64 sm3.Dim, .int .i64 sm3.At, kp4]) rfl (q_extract rfl rfl) ?_
  refine RW.q (v := .int .i64 2) rfl (q_extract rfl rfl) ?_
  refine RW.q (v := .int .i64 3) rfl (q_extract rfl rfl) ?_
  refine RW.eff (fun b4 : Nat => .pointer (some (⟨b4, 0, none⟩))) (fun b4 => St ⟨w, Φ, []⟩ Φ4 [.blk b4 26 [.int .i64 0, .string (bs ([])), .int .i64 0, .int .i64 0, .int .i64 0, (.slice none 0 0)], .blk b3 26 [.int .i64 sm2.Kind, .string (bs sm2.Text), .int .i64 sm2.N, .int .i64 sm2.Dim, .int .i64 sm2.At, kp3], .blk b2 26 [.int .i64 sm1.Kind, .string (bs sm1.Text), .int .i64 sm1.N, .int .i64 sm1.Dim, .int .i64 sm1.At, kp2], .blk b1 26 [.int .i64 sm0.Kind, .string (bs sm0.Text), .int .i64 sm0.N, .int .i64 sm0.Dim, .int .i64 sm0.At, kp1]]) rfl (e_alloc zero26) ?_
  intro b4
  refine RW.effn (J' := St ⟨w, Φ, []⟩ Φ4 [.blk b4 26 [.int .i64 sm3.Kind, .string (bs sm3.Text), .int .i64 sm3.N, .int .i64 sm3.Dim, .int .i64 sm3.At, kp4], .blk b3 26 [.int .i64 sm2.Kind, .string (bs sm2.Text), .int .i64 sm2.N, .int .i64 sm2.Dim, .int .i64 sm2.At, kp3], .blk b2 26 [.int .i64 sm1.Kind, .string (bs sm1.Text), .int .i64 sm1.N, .int .i64 sm1.Dim, .int .i64 sm1.At, kp2], .blk b1 26 [.int .i64 sm0.Kind, .string (bs sm0.Text), .int .i64 sm0.N, .int .i64 sm0.Dim, .int .i64 sm0.At, kp1]]) (e_store (v := .agg #[.int .i64 sm3.Kind, .string (bs sm3.Text), .int .i64 sm3.N, .int .i64 sm3.Dim, .int .i64 sm3.At, kp4]) 0 rfl rfl rfl sz26 rfl (List.all_eq_true.2 (fun u hu => Rep.one (NdV.rep hwp4 hkp4) u hu)) rfl rfl rfl) ?_
  refine RW.q (v := .int .i64 2) rfl (q_assign rfl) ?_
  refine RW.q (v := .int .i64 3) rfl (q_assign rfl) ?_
  refine RW.nil ?_
  refine Post.then_n ?_
  refine AW.seq ?_
  refine AW.region ?_
  refine RW.eff (fun x : {z : (Value) × Hp // (fun (y : Value) (Ψ : Hp) => (wfN sm4) ∧ (RepSl Ψ sm4.Kids y)) z.1 z.2 ∧ Hp.le Φ4 z.2} => .tuple #[.agg (ndC sm4 x.1.1).toArray, .int .i64 2, .int .i64 7]) (fun x => St ⟨w, Φ, []⟩ x.1.2 [.blk b4 26 [.int .i64 sm3.Kind, .string (bs sm3.Text), .int .i64 sm3.N, .int .i64 sm3.Dim, .int .i64 sm3.At, kp4], .blk b3 26 [.int .i64 sm2.Kind, .string (bs sm2.Text), .int .i64 sm2.N, .int .i64 sm2.Dim, .int .i64 sm2.At, kp3], .blk b2 26 [.int .i64 sm1.Kind, .string (bs sm1.Text), .int .i64 sm1.N, .int .i64 sm1.Dim, .int .i64 sm1.At, kp2], .blk b1 26 [.int .i64 sm0.Kind, .string (bs sm0.Text), .int .i64 sm0.N, .int .i64 sm0.Dim, .int .i64 sm0.At, kp1]]) rfl (e_callX (fun (y : Value) => .tuple #[.agg (ndC sm4 y).toArray, .int .i64 2, .int .i64 7]) (fun (y : Value) (Ψ : Hp) => (wfN sm4) ∧ (RepSl Ψ sm4.Kids y)) (args := #[.string (bs ([120, 32, 123, 32, 121, 32, 40, 41, 59, 32, 125] : List UInt8))]) own12 rfl rfl (fun w1 hw1 => (sm4_c w1 _ hw1.phi hG).mono fun e w2 hr => by obtain ⟨v9, he9, hb9, u1, hr9, q1, q2⟩ := hr; exact ⟨v9, he9, hb9, u1, hr9, q1, q2⟩)) ?_
  rintro ⟨⟨kp5, Φ5⟩, ⟨hwp5, hkp5⟩, hlΦ5⟩
  replace hwp5 : wfN sm4 := hwp5
  replace hkp5 : RepSl Φ5 sm4.Kids kp5 := hkp5
  replace hlΦ5 : Hp.le Φ4 Φ5 := hlΦ5
  replace hG := hG.mono hlΦ5
  replace hkp1 := hkp1.mono hlΦ5
  replace hkp2 := hkp2.mono hlΦ5
  replace hkp3 := hkp3.mono hlΦ5
  replace hkp4 := hkp4.mono hlΦ5
  refine RW.q (v := .tuple #[.agg #[.int .i64 sm4.Kind, .string (bs sm4.Text), .int .i64 sm4.N, .int .i64 sm4.Dim, .int .i64 sm4.At, kp5], .int .i64 2, .int .i64 7]) rfl (q_move rfl) ?_
  refine RW.q (v := .agg #[.int .i64 sm4.Kind, .string (bs sm4.Text), .int .i64 sm4.N, .int .i64 sm4.Dim, .int .i64 sm4.At, kp5]) rfl (q_extract rfl rfl) ?_
  refine RW.q (v := .int .i64 2) rfl (q_extract rfl rfl) ?_
  refine RW.q (v := .int .i64 7) rfl (q_extract rfl rfl) ?_
  refine RW.eff (fun b5 : Nat => .pointer (some (⟨b5, 0, none⟩))) (fun b5 => St ⟨w, Φ, []⟩ Φ5 [.blk b5 26 [.int .i64 0, .string (bs ([])), .int .i64 0, .int .i64 0, .int .i64 0, (.slice none 0 0)], .blk b4 26 [.int .i64 sm3.Kind, .string (bs sm3.Text), .int .i64 sm3.N, .int .i64 sm3.Dim, .int .i64 sm3.At, kp4], .blk b3 26 [.int .i64 sm2.Kind, .string (bs sm2.Text), .int .i64 sm2.N, .int .i64 sm2.Dim, .int .i64 sm2.At, kp3], .blk b2 26 [.int .i64 sm1.Kind, .string (bs sm1.Text), .int .i64 sm1.N, .int .i64 sm1.Dim, .int .i64 sm1.At, kp2], .blk b1 26 [.int .i64 sm0.Kind, .string (bs sm0.Text), .int .i64 sm0.N, .int .i64 sm0.Dim, .int .i64 sm0.At, kp1]]) rfl (e_alloc zero26) ?_
  intro b5
  refine RW.effn (J' := St ⟨w, Φ, []⟩ Φ5 [.blk b5 26 [.int .i64 sm4.Kind, .string (bs sm4.Text), .int .i64 sm4.N, .int .i64 sm4.Dim, .int .i64 sm4.At, kp5], .blk b4 26 [.int .i64 sm3.Kind, .string (bs sm3.Text), .int .i64 sm3.N, .int .i64 sm3.Dim, .int .i64 sm3.At, kp4], .blk b3 26 [.int .i64 sm2.Kind, .string (bs sm2.Text), .int .i64 sm2.N, .int .i64 sm2.Dim, .int .i64 sm2.At, kp3], .blk b2 26 [.int .i64 sm1.Kind, .string (bs sm1.Text), .int .i64 sm1.N, .int .i64 sm1.Dim, .int .i64 sm1.At, kp2], .blk b1 26 [.int .i64 sm0.Kind, .string (bs sm0.Text), .int .i64 sm0.N, .int .i64 sm0.Dim, .int .i64 sm0.At, kp1]]) (e_store (v := .agg #[.int .i64 sm4.Kind, .string (bs sm4.Text), .int .i64 sm4.N, .int .i64 sm4.Dim, .int .i64 sm4.At, kp5]) 0 rfl rfl rfl sz26 rfl (List.all_eq_true.2 (fun u hu => Rep.one (NdV.rep hwp5 hkp5) u hu)) rfl rfl rfl) ?_
  refine RW.q (v := .int .i64 2) rfl (q_assign rfl) ?_
  refine RW.q (v := .int .i64 7) rfl (q_assign rfl) ?_
  refine RW.nil ?_
  refine Post.then_n ?_
  refine AW.seq ?_
  refine AW.region ?_
  refine RW.eff (fun x : {z : (Value) × Hp // (fun (y : Value) (Ψ : Hp) => (wfN sm5) ∧ (RepSl Ψ sm5.Kids y)) z.1 z.2 ∧ Hp.le Φ5 z.2} => .tuple #[.agg (ndC sm5 x.1.1).toArray, .int .i64 7, .int .i64 6]) (fun x => St ⟨w, Φ, []⟩ x.1.2 [.blk b5 26 [.int .i64 sm4.Kind, .string (bs sm4.Text), .int .i64 sm4.N, .int .i64 sm4.Dim, .int .i64 sm4.At, kp5], .blk b4 26 [.int .i64 sm3.Kind, .string (bs sm3.Text), .int .i64 sm3.N, .int .i64 sm3.Dim, .int .i64 sm3.At, kp4], .blk b3 26 [.int .i64 sm2.Kind, .string (bs sm2.Text), .int .i64 sm2.N, .int .i64 sm2.Dim, .int .i64 sm2.At, kp3], .blk b2 26 [.int .i64 sm1.Kind, .string (bs sm1.Text), .int .i64 sm1.N, .int .i64 sm1.Dim, .int .i64 sm1.At, kp2], .blk b1 26 [.int .i64 sm0.Kind, .string (bs sm0.Text), .int .i64 sm0.N, .int .i64 sm0.Dim, .int .i64 sm0.At, kp1]]) rfl (e_callX (fun (y : Value) => .tuple #[.agg (ndC sm5 y).toArray, .int .i64 7, .int .i64 6]) (fun (y : Value) (Ψ : Hp) => (wfN sm5) ∧ (RepSl Ψ sm5.Kids y)) (args := #[.string (bs ([120, 32, 123, 32, 121, 32, 49, 46, 53, 32, 108, 59, 32, 125] : List UInt8))]) own12 rfl rfl (fun w1 hw1 => (sm5_c w1 _ hw1.phi hG).mono fun e w2 hr => by obtain ⟨v9, he9, hb9, u1, hr9, q1, q2⟩ := hr; exact ⟨v9, he9, hb9, u1, hr9, q1, q2⟩)) ?_
  rintro ⟨⟨kp6, Φ6⟩, ⟨hwp6, hkp6⟩, hlΦ6⟩
  replace hwp6 : wfN sm5 := hwp6
  replace hkp6 : RepSl Φ6 sm5.Kids kp6 := hkp6
  replace hlΦ6 : Hp.le Φ5 Φ6 := hlΦ6
  replace hG := hG.mono hlΦ6
  replace hkp1 := hkp1.mono hlΦ6
  replace hkp2 := hkp2.mono hlΦ6
  replace hkp3 := hkp3.mono hlΦ6
  replace hkp4 := hkp4.mono hlΦ6
  replace hkp5 := hkp5.mono hlΦ6
  refine RW.q (v := .tuple #[.agg #[.int .i64 sm5.Kind, .string (bs sm5.Text), .int .i64 sm5.N, .int .i64 sm5.Dim, .int .i64 sm5.At, kp6], .int .i64 7, .int .i64 6]) rfl (q_move rfl) ?_
  refine RW.q (v := .agg #[.int .i64 sm5.Kind, .string (bs sm5.Text), .int .i64 sm5.N, .int .i64 sm5.Dim, .int .i64 sm5.At, kp6]) rfl (q_extract rfl rfl) ?_
  refine RW.q (v := .int .i64 7) rfl (q_extract rfl rfl) ?_
  refine RW.q (v := .int .i64 6) rfl (q_extract rfl rfl) ?_
  refine RW.eff (fun b6 : Nat => .pointer (some (⟨b6, 0, none⟩))) (fun b6 => St ⟨w, Φ, []⟩ Φ6 [.blk b6 26 [.int .i64 0, .string (bs ([])), .int .i64 0, .int .i64 0, .int .i64 0, (.slice none 0 0)], .blk b5 26 [.int .i64 sm4.Kind, .string (bs sm4.Text), .int .i64 sm4.N, .int .i64 sm4.Dim, .int .i64 sm4.At, kp5], .blk b4 26 [.int .i64 sm3.Kind, .string (bs sm3.Text), .int .i64 sm3.N, .int .i64 sm3.Dim, .int .i64 sm3.At, kp4], .blk b3 26 [.int .i64 sm2.Kind, .string (bs sm2.Text), .int .i64 sm2.N, .int .i64 sm2.Dim, .int .i64 sm2.At, kp3], .blk b2 26 [.int .i64 sm1.Kind, .string (bs sm1.Text), .int .i64 sm1.N, .int .i64 sm1.Dim, .int .i64 sm1.At, kp2], .blk b1 26 [.int .i64 sm0.Kind, .string (bs sm0.Text), .int .i64 sm0.N, .int .i64 sm0.Dim, .int .i64 sm0.At, kp1]]) rfl (e_alloc zero26) ?_
  intro b6
  refine RW.effn (J' := St ⟨w, Φ, []⟩ Φ6 [.blk b6 26 [.int .i64 sm5.Kind, .string (bs sm5.Text), .int .i64 sm5.N, .int .i64 sm5.Dim, .int .i64 sm5.At, kp6], .blk b5 26 [.int .i64 sm4.Kind, .string (bs sm4.Text), .int .i64 sm4.N, .int .i64 sm4.Dim, .int .i64 sm4.At, kp5], .blk b4 26 [.int .i64 sm3.Kind, .string (bs sm3.Text), .int .i64 sm3.N, .int .i64 sm3.Dim, .int .i64 sm3.At, kp4], .blk b3 26 [.int .i64 sm2.Kind, .string (bs sm2.Text), .int .i64 sm2.N, .int .i64 sm2.Dim, .int .i64 sm2.At, kp3], .blk b2 26 [.int .i64 sm1.Kind, .string (bs sm1.Text), .int .i64 sm1.N, .int .i64 sm1.Dim, .int .i64 sm1.At, kp2], .blk b1 26 [.int .i64 sm0.Kind, .string (bs sm0.Text), .int .i64 sm0.N, .int .i64 sm0.Dim, .int .i64 sm0.At, kp1]]) (e_store (v := .agg #[.int .i64 sm5.Kind, .string (bs sm5.Text), .int .i64 sm5.N, .int .i64 sm5.Dim, .int .i64 sm5.At, kp6]) 0 rfl rfl rfl sz26 rfl (List.all_eq_true.2 (fun u hu => Rep.one (NdV.rep hwp6 hkp6) u hu)) rfl rfl rfl) ?_
  refine RW.q (v := .int .i64 7) rfl (q_assign rfl) ?_
  refine RW.q (v := .int .i64 6) rfl (q_assign rfl) ?_
  refine RW.nil ?_
  refine Post.then_n ?_
  refine AW.seq ?_
  refine AW.seq ?_
  refine AW.region ?_
  refine RW.q (v := .int .i64 0) rfl (q_move rfl) ?_
  refine RW.q (v := .bool false) rfl (q_neq (a := 0) (b := 0) rfl rfl) ?_
  refine RW.q (v := .bool false) rfl (q_move rfl) ?_
  refine RW.gl (v := .int .i64 0) rfl rfl rfl (q_move rfl) ?_
  refine RW.gl (v := .bool false) rfl rfl rfl (q_neq (a := 0) (b := 0) rfl rfl) ?_
  refine RW.q (v := .bool false) rfl (q_pick rfl (fun hp => pkOrT (q := false) (r := false) hp) (fun hp => pkOrF (q := false) (r := false) hp)) ?_
  refine RW.q (v := .bool false) rfl (q_move rfl) ?_
  refine RW.gl (v := .pointer (some (⟨b1, 5, none⟩))) rfl rfl rfl (q_fieldAddr rfl Tryd.underlying26 rfl sz24 rfl) ?_
  refine RW.gl (v := kp1) rfl rfl rfl (q_load rfl Tryd.underlying24 rfl (Cell.blk 5 rfl rfl)) ?_
  refine RW.gl (v := .int .i64 ((sm0.Kids.length : Nat) : Int)) rfl rfl rfl (q_len_sl rfl hkp1.sl Tryd.underlying24) ?_
  refine RW.gl (v := .bool false) rfl rfl rfl (q_as (v := .bool (!decide (((sm0.Kids.length : Nat) : Int) = 1))) (q_neq rfl rfl) (congrArg Value.bool (by decide +kernel))) ?_
  refine RW.q (v := .bool false) rfl (q_pick rfl (fun hp => pkOrT (q := false) (r := false) hp) (fun hp => pkOrF (q := false) (r := false) hp)) ?_
  refine RW.q (v := .bool false) rfl (q_move rfl) ?_
  refine RW.gl (v := .pointer (some (⟨b2, 5, none⟩))) rfl rfl rfl (q_fieldAddr rfl Tryd.underlying26 rfl sz24 rfl) ?_
  refine RW.gl (v := kp2) rfl rfl rfl (q_load rfl Tryd.underlying24 rfl (Cell.blk 4 rfl rfl)) ?_
  refine RW.gl (v := .int .i64 ((sm1.Kids.length : Nat) : Int)) rfl rfl rfl (q_len_sl rfl hkp2.sl Tryd.underlying24) ?_
  refine RW.gl (v := .bool false) rfl rfl rfl (q_as (v := .bool (!decide (((sm1.Kids.length : Nat) : Int) = 1))) (q_neq rfl rfl) (congrArg Value.bool (by decide +kernel))) ?_
  refine RW.q (v := .bool false) rfl (q_pick rfl (fun hp => pkOrT (q := false) (r := false) hp) (fun hp => pkOrF (q := false) (r := false) hp)) ?_
  refine RW.nil ?_
  refine Post.then_n ?_
  refine AW.cond (b := false) rfl (fun hc1 => ?_) (fun hc1 => ?_)
  · cases hc1
  · skip
    refine AW.skip ?_
    refine Post.then_n ?_
    refine AW.seq ?_
    refine AW.seq ?_
    refine AW.region ?_
    refine RW.q (v := .pointer (some (⟨b1, 5, none⟩))) rfl (q_fieldAddr rfl Tryd.underlying26 rfl sz24 rfl) ?_
    refine RW.q (v := kp1) rfl (q_load rfl Tryd.underlying24 rfl (Cell.blk 5 rfl rfl)) ?_
    refine RW.q (v := .pointer (some (Value.at kp1 (0 * 6)))) rfl (q_indexAddr rfl rfl hkp1.sl Tryd.underlying24 sz26 (by decide +kernel) (by decide +kernel) rfl) ?_
    refine RW.q (v := .pointer (some (Value.at kp1 (0 * 6 + 5)))) rfl (q_fieldAddr rfl Tryd.underlying26 rfl sz24 at_add) ?_
    obtain ⟨sv1, hsv1, hpc1⟩ := leaf26_5 hkp1 (k := 0) (by decide +kernel)
    refine RW.q (v := sv1) rfl (q_load rfl Tryd.underlying24 rfl (Cell.phi hpc1)) ?_
    refine RW.q (v := .int .i64 ((((sm0.Kids.getD 0 default).Kids).length : Nat) : Int)) rfl (q_len_sl rfl hsv1.sl Tryd.underlying24) ?_
    refine RW.q (v := .bool false) rfl (q_as (v := .bool (!decide (((((sm0.Kids.getD 0 default).Kids).length : Nat) : Int) = 4))) (q_neq rfl rfl) (congrArg Value.bool (by decide +kernel))) ?_
    refine RW.q (v := .bool false) rfl (q_move rfl) ?_
    refine RW.gl (v := .pointer (some (⟨b2, 5, none⟩))) rfl rfl rfl (q_fieldAddr rfl Tryd.underlying26 rfl sz24 rfl) ?_
    refine RW.gl (v := kp2) rfl rfl rfl (q_load rfl Tryd.underlying24 rfl (Cell.blk 4 rfl rfl)) ?_
    refine RW.gl (v := .pointer (some (Value.at kp2 (0 * 6)))) rfl rfl rfl (q_indexAddr rfl rfl hkp2.sl Tryd.underlying24 sz26 (by decide +kernel) (by decide +kernel) rfl) ?_
    refine RW.gl (v := .pointer (some (Value.at kp2 (0 * 6 + 5)))) rfl rfl rfl (q_fieldAddr rfl Tryd.underlying26 rfl sz24 at_add) ?_
    obtain ⟨sv2, hsv2, hpc2⟩ := leaf26_5 hkp2 (k := 0) (by decide +kernel)
    refine RW.gl (v := sv2) rfl rfl rfl (q_load rfl Tryd.underlying24 rfl (Cell.phi hpc2)) ?_
    refine RW.gl (v := .int .i64 ((((sm1.Kids.getD 0 default).Kids).length : Nat) : Int)) rfl rfl rfl (q_len_sl rfl hsv2.sl Tryd.underlying24) ?_
    refine RW.gl (v := .bool false) rfl rfl rfl (q_as (v := .bool (!decide (((((sm1.Kids.getD 0 default).Kids).length : Nat) : Int) = 1))) (q_neq rfl rfl) (congrArg Value.bool (by decide +kernel))) ?_
    refine RW.q (v := .bool false) rfl (q_pick rfl (fun hp => pkOrT (q := false) (r := false) hp) (fun hp => pkOrF (q := false) (r := false) hp)) ?_
    refine RW.q (v := .bool false) rfl (q_move rfl) ?_
    refine RW.gl (v := .pointer (some (⟨b2, 5, none⟩))) rfl rfl rfl (q_fieldAddr rfl Tryd.underlying26 rfl sz24 rfl) ?_
    refine RW.gl (v := kp2) rfl rfl rfl (q_load rfl Tryd.underlying24 rfl (Cell.blk 4 rfl rfl)) ?_
    refine RW.gl (v := .pointer (some (Value.at kp2 (0 * 6)))) rfl rfl rfl (q_indexAddr rfl rfl hkp2.sl Tryd.underlying24 sz26 (by decide +kernel) (by decide +kernel) rfl) ?_
    refine RW.gl (v := .pointer (some (Value.at kp2 (0 * 6 + 5)))) rfl rfl rfl (q_fieldAddr rfl Tryd.underlying26 rfl sz24 at_add) ?_
    obtain ⟨sv3, hsv3, hpc3⟩ := leaf26_5 hkp2 (k := 0) (by decide +kernel)
    refine RW.gl (v := sv3) rfl rfl rfl (q_load rfl Tryd.underlying24 rfl (Cell.phi hpc3)) ?_
    refine RW.gl (v := .pointer (some (Value.at sv3 (0 * 6)))) rfl rfl rfl (q_indexAddr rfl rfl hsv3.sl Tryd.underlying24 sz26 (by decide +kernel) (by decide +kernel) rfl) ?_
    refine RW.gl (v := .pointer (some (Value.at sv3 (0 * 6 + 5)))) rfl rfl rfl (q_fieldAddr rfl Tryd.underlying26 rfl sz24 at_add) ?_
    obtain ⟨sv4, hsv4, hpc4⟩ := leaf26_5 hsv3 (k := 0) (by decide +kernel)
    refine RW.gl (v := sv4) rfl rfl rfl (q_load rfl Tryd.underlying24 rfl (Cell.phi hpc4)) ?_
    refine RW.gl (v := .int .i64 ((((((sm1.Kids.getD 0 default).Kids).getD 0 default).Kids).length : Nat) : Int)) rfl rfl rfl (q_len_sl rfl hsv4.sl Tryd.underlying24) ?_
    refine RW.gl (v := .bool false) rfl rfl rfl (q_as (v := .bool (!decide (((((((sm1.Kids.getD 0 default).Kids).getD 0 default).Kids).length : Nat) : Int) = 2))) (q_neq rfl rfl) (congrArg Value.bool (by decide +kernel))) ?_
    refine RW.q (v := .bool false) rfl (q_pick rfl (fun hp => pkOrT (q := false) (r := false) hp) (fun hp => pkOrF (q := false) (r := false) hp)) ?_
    refine RW.q (v := .bool false) rfl (q_move rfl) ?_
    refine RW.gl (v := .pointer (some (⟨b1, 5, none⟩))) rfl rfl rfl (q_fieldAddr rfl Tryd.underlying26 rfl sz24 rfl) ?_
    refine RW.gl (v := kp1) rfl rfl rfl (q_load rfl Tryd.underlying24 rfl (Cell.blk 5 rfl rfl)) ?_
    refine RW.gl (v := .pointer (some (Value.at kp1 (0 * 6)))) rfl rfl rfl (q_indexAddr rfl rfl hkp1.sl Tryd.underlying24 sz26 (by decide +kernel) (by decide +kernel) rfl) ?_
    refine RW.gl (v := .pointer (some (Value.at kp1 (0 * 6 + 5)))) rfl rfl rfl (q_fieldAddr rfl Tryd.underlying26 rfl sz24 at_add) ?_
    obtain ⟨sv5, hsv5, hpc5⟩ := leaf26_5 hkp1 (k := 0) (by decide +kernel)
    refine RW.gl (v := sv5) rfl rfl rfl (q_load rfl Tryd.underlying24 rfl (Cell.phi hpc5)) ?_
    refine RW.gl (v := .pointer (some (Value.at sv5 (3 * 6)))) rfl rfl rfl (q_indexAddr rfl rfl hsv5.sl Tryd.underlying24 sz26 (by decide +kernel) (by decide +kernel) rfl) ?_
    refine RW.gl (v := .pointer (some (Value.at sv5 (3 * 6 + 5)))) rfl rfl rfl (q_fieldAddr rfl Tryd.underlying26 rfl sz24 at_add) ?_
    obtain ⟨sv6, hsv6, hpc6⟩ := leaf26_5 hsv5 (k := 3) (by decide +kernel)
    refine RW.gl (v := sv6) rfl rfl rfl (q_load rfl Tryd.underlying24 rfl (Cell.phi hpc6)) ?_
    refine RW.gl (v := .int .i64 ((((((sm0.Kids.getD 0 default).Kids).getD 3 default).Kids).length : Nat) : Int)) rfl rfl rfl (q_len_sl rfl hsv6.sl Tryd.underlying24) ?_
    refine RW.gl (v := .bool false) rfl rfl rfl (q_as (v := .bool (!decide (((((((sm0.Kids.getD 0 default).Kids).getD 3 default).Kids).length : Nat) : Int) = 2))) (q_neq rfl rfl) (congrArg Value.bool (by decide +kernel))) ?_
    refine RW.q (v := .bool false) rfl (q_pick rfl (fun hp => pkOrT (q := false) (r := false) hp) (fun hp => pkOrF (q := false) (r := false) hp)) ?_
    refine RW.q (v := .bool false) rfl (q_move rfl) ?_
    refine RW.gl (v := .pointer (some (⟨b1, 5, none⟩))) rfl rfl rfl (q_fieldAddr rfl Tryd.underlying26 rfl sz24 rfl) ?_
    refine RW.gl (v := kp1) rfl rfl rfl (q_load rfl Tryd.underlying24 rfl (Cell.blk 5 rfl rfl)) ?_
    refine RW.gl (v := .pointer (some (Value.at kp1 (0 * 6)))) rfl rfl rfl (q_indexAddr rfl rfl hkp1.sl Tryd.underlying24 sz26 (by decide +kernel) (by decide +kernel) rfl) ?_
    refine RW.gl (v := .pointer (some (Value.at kp1 (0 * 6 + 5)))) rfl rfl rfl (q_fieldAddr rfl Tryd.underlying26 rfl sz24 at_add) ?_
    obtain ⟨sv7, hsv7, hpc7⟩ := leaf26_5 hkp1 (k := 0) (by decide +kernel)
    refine RW.gl (v := sv7) rfl rfl rfl (q_load rfl Tryd.underlying24 rfl (Cell.phi hpc7)) ?_
    refine RW.gl (v := .pointer (some (Value.at sv7 (2 * 6)))) rfl rfl rfl (q_indexAddr rfl rfl hsv7.sl Tryd.underlying24 sz26 (by decide +kernel) (by decide +kernel) rfl) ?_
    refine RW.gl (v := .pointer (some (Value.at sv7 (2 * 6 + 5)))) rfl rfl rfl (q_fieldAddr rfl Tryd.underlying26 rfl sz24 at_add) ?_
    obtain ⟨sv8, hsv8, hpc8⟩ := leaf26_5 hsv7 (k := 2) (by decide +kernel)
    refine RW.gl (v := sv8) rfl rfl rfl (q_load rfl Tryd.underlying24 rfl (Cell.phi hpc8)) ?_
    refine RW.gl (v := .int .i64 ((((((sm0.Kids.getD 0 default).Kids).getD 2 default).Kids).length : Nat) : Int)) rfl rfl rfl (q_len_sl rfl hsv8.sl Tryd.underlying24) ?_
    refine RW.gl (v := .bool false) rfl rfl rfl (q_as (v := .bool (!decide (((((((sm0.Kids.getD 0 default).Kids).getD 2 default).Kids).length : Nat) : Int) = 1))) (q_neq rfl rfl) (congrArg Value.bool (by decide +kernel))) ?_
    refine RW.q (v := .bool false) rfl (q_pick rfl (fun hp => pkOrT (q := false) (r := false) hp) (fun hp => pkOrF (q := false) (r := false) hp)) ?_
    refine RW.nil ?_
    refine Post.then_n ?_
    refine AW.cond (b := false) rfl (fun hc2 => ?_) (fun hc2 => ?_)
    · cases hc2
    · skip
      refine AW.skip ?_
      refine Post.then_n ?_
      refine AW.seq ?_
      refine AW.region ?_
      refine RW.q (v := .pointer (some (⟨b1, 5, none⟩))) rfl (q_fieldAddr rfl Tryd.underlying26 rfl sz24 rfl) ?_
      refine RW.q (v := kp1) rfl (q_load rfl Tryd.underlying24 rfl (Cell.blk 5 rfl rfl)) ?_
      refine RW.q (v := .pointer (some (Value.at kp1 (0 * 6)))) rfl (q_indexAddr rfl rfl hkp1.sl Tryd.underlying24 sz26 (by decide +kernel) (by decide +kernel) rfl) ?_
      refine RW.q (v := .pointer (some (Value.at kp1 (0 * 6 + 5)))) rfl (q_fieldAddr rfl Tryd.underlying26 rfl sz24 at_add) ?_
      obtain ⟨sv9, hsv9, hpc9⟩ := leaf26_5 hkp1 (k := 0) (by decide +kernel)
      refine RW.q (v := sv9) rfl (q_load rfl Tryd.underlying24 rfl (Cell.phi hpc9)) ?_
      refine RW.q (v := .pointer (some (Value.at sv9 (2 * 6)))) rfl (q_indexAddr rfl rfl hsv9.sl Tryd.underlying24 sz26 (by decide +kernel) (by decide +kernel) rfl) ?_
      refine RW.q (v := .pointer (some (Value.at sv9 (2 * 6 + 5)))) rfl (q_fieldAddr rfl Tryd.underlying26 rfl sz24 at_add) ?_
      obtain ⟨sv10, hsv10, hpc10⟩ := leaf26_5 hsv9 (k := 2) (by decide +kernel)
      refine RW.q (v := sv10) rfl (q_load rfl Tryd.underlying24 rfl (Cell.phi hpc10)) ?_
      refine RW.q (v := .pointer (some (Value.at sv10 (0 * 6)))) rfl (q_indexAddr rfl rfl hsv10.sl Tryd.underlying24 sz26 (by decide +kernel) (by decide +kernel) rfl) ?_
      obtain ⟨cv1, hcr1, hcc1⟩ := RepSl.whole (k := 0) hsv10 (by decide +kernel)
      obtain ⟨sv11, hcE1, hcw1, hsv11⟩ := repN.1 hcr1
      subst hcE1
      refine RW.q (v := .agg #[.int .i64 ((((((sm0.Kids.getD 0 default).Kids).getD 2 default).Kids).getD 0 default).Kind), .string (bs ((((((sm0.Kids.getD 0 default).Kids).getD 2 default).Kids).getD 0 default).Text)), .int .i64 ((((((sm0.Kids.getD 0 default).Kids).getD 2 default).Kids).getD 0 default).N), .int .i64 ((((((sm0.Kids.getD 0 default).Kids).getD 2 default).Kids).getD 0 default).Dim), .int .i64 ((((((sm0.Kids.getD 0 default).Kids).getD 2 default).Kids).getD 0 default).At), sv11]) rfl (q_loadAgg rfl Tryd.underlying26 rfl sz26 rfl (Cells.phiK hcc1)) ?_
      refine RW.eff (fun b7 : Nat => .pointer (some (⟨b7, 0, none⟩))) (fun b7 => St ⟨w, Φ, []⟩ Φ6 [.blk b7 26 [.int .i64 0, .string (bs ([])), .int .i64 0, .int .i64 0, .int .i64 0, (.slice none 0 0)], .blk b6 26 [.int .i64 sm5.Kind, .string (bs sm5.Text), .int .i64 sm5.N, .int .i64 sm5.Dim, .int .i64 sm5.At, kp6], .blk b5 26 [.int .i64 sm4.Kind, .string (bs sm4.Text), .int .i64 sm4.N, .int .i64 sm4.Dim, .int .i64 sm4.At, kp5], .blk b4 26 [.int .i64 sm3.Kind, .string (bs sm3.Text), .int .i64 sm3.N, .int .i64 sm3.Dim, .int .i64 sm3.At, kp4], .blk b3 26 [.int .i64 sm2.Kind, .string (bs sm2.Text), .int .i64 sm2.N, .int .i64 sm2.Dim, .int .i64 sm2.At, kp3], .blk b2 26 [.int .i64 sm1.Kind, .string (bs sm1.Text), .int .i64 sm1.N, .int .i64 sm1.Dim, .int .i64 sm1.At, kp2], .blk b1 26 [.int .i64 sm0.Kind, .string (bs sm0.Text), .int .i64 sm0.N, .int .i64 sm0.Dim, .int .i64 sm0.At, kp1]]) rfl (e_alloc zero26) ?_
      intro b7
      refine RW.effn (J' := St ⟨w, Φ, []⟩ Φ6 [.blk b7 26 [.int .i64 ((((((sm0.Kids.getD 0 default).Kids).getD 2 default).Kids).getD 0 default).Kind), .string (bs ((((((sm0.Kids.getD 0 default).Kids).getD 2 default).Kids).getD 0 default).Text)), .int .i64 ((((((sm0.Kids.getD 0 default).Kids).getD 2 default).Kids).getD 0 default).N), .int .i64 ((((((sm0.Kids.getD 0 default).Kids).getD 2 default).Kids).getD 0 default).Dim), .int .i64 ((((((sm0.Kids.getD 0 default).Kids).getD 2 default).Kids).getD 0 default).At), sv11], .blk b6 26 [.int .i64 sm5.Kind, .string (bs sm5.Text), .int .i64 sm5.N, .int .i64 sm5.Dim, .int .i64 sm5.At, kp6], .blk b5 26 [.int .i64 sm4.Kind, .string (bs sm4.Text), .int .i64 sm4.N, .int .i64 sm4.Dim, .int .i64 sm4.At, kp5], .blk b4 26 [.int .i64 sm3.Kind, .string (bs sm3.Text), .int .i64 sm3.N, .int .i64 sm3.Dim, .int .i64 sm3.At, kp4], .blk b3 26 [.int .i64 sm2.Kind, .string (bs sm2.Text), .int .i64 sm2.N, .int .i64 sm2.Dim, .int .i64 sm2.At, kp3], .blk b2 26 [.int .i64 sm1.Kind, .string (bs sm1.Text), .int .i64 sm1.N, .int .i64 sm1.Dim, .int .i64 sm1.At, kp2], .blk b1 26 [.int .i64 sm0.Kind, .string (bs sm0.Text), .int .i64 sm0.N, .int .i64 sm0.Dim, .int .i64 sm0.At, kp1]]) (e_store (v := .agg #[.int .i64 ((((((sm0.Kids.getD 0 default).Kids).getD 2 default).Kids).getD 0 default).Kind), .string (bs ((((((sm0.Kids.getD 0 default).Kids).getD 2 default).Kids).getD 0 default).Text)), .int .i64 ((((((sm0.Kids.getD 0 default).Kids).getD 2 default).Kids).getD 0 default).N), .int .i64 ((((((sm0.Kids.getD 0 default).Kids).getD 2 default).Kids).getD 0 default).Dim), .int .i64 ((((((sm0.Kids.getD 0 default).Kids).getD 2 default).Kids).getD 0 default).At), sv11]) 0 rfl rfl rfl sz26 rfl (List.all_eq_true.2 (fun u hu => Rep.one (show Rep.rep _ _ _ from hcr1) u hu)) rfl rfl rfl) ?_
      refine RW.nil ?_
      refine Post.then_n ?_
      refine AW.seq ?_
      refine AW.region ?_
      refine RW.q (v := .pointer (some (⟨b2, 5, none⟩))) rfl (q_fieldAddr rfl Tryd.underlying26 rfl sz24 rfl) ?_
      refine RW.q (v := kp2) rfl (q_load rfl Tryd.underlying24 rfl (Cell.blk 5 rfl rfl)) ?_
      refine RW.q (v := .pointer (some (Value.at kp2 (0 * 6)))) rfl (q_indexAddr rfl rfl hkp2.sl Tryd.underlying24 sz26 (by decide +kernel) (by decide +kernel) rfl) ?_
      refine RW.q (v := .pointer (some (Value.at kp2 (0 * 6 + 5)))) rfl (q_fieldAddr rfl Tryd.underlying26 rfl sz24 at_add) ?_
      obtain ⟨sv12, hsv12, hpc11⟩ := leaf26_5 hkp2 (k := 0) (by decide +kernel)
      refine RW.q (v := sv12) rfl (q_load rfl Tryd.underlying24 rfl (Cell.phi hpc11)) ?_
      refine RW.q (v := .pointer (some (Value.at sv12 (0 * 6)))) rfl (q_indexAddr rfl rfl hsv12.sl Tryd.underlying24 sz26 (by decide +kernel) (by decide +kernel) rfl) ?_
      refine RW.q (v := .pointer (some (Value.at sv12 (0 * 6 + 5)))) rfl (q_fieldAddr rfl Tryd.underlying26 rfl sz24 at_add) ?_
      obtain ⟨sv13, hsv13, hpc12⟩ := leaf26_5 hsv12 (k := 0) (by decide +kernel)
      refine RW.q (v := sv13) rfl (q_load rfl Tryd.underlying24 rfl (Cell.phi hpc12)) ?_
      refine RW.q (v := .pointer (some (Value.at sv13 (0 * 6)))) rfl (q_indexAddr rfl rfl hsv13.sl Tryd.underlying24 sz26 (by decide +kernel) (by decide +kernel) rfl) ?_
      obtain ⟨cv2, hcr2, hcc2⟩ := RepSl.whole (k := 0) hsv13 (by decide +kernel)
      obtain ⟨sv14, hcE2, hcw2, hsv14⟩ := repN.1 hcr2
      subst hcE2
      refine RW.q (v := .agg #[.int .i64 ((((((sm1.Kids.getD 0 default).Kids).getD 0 default).Kids).getD 0 default).Kind), .string (bs ((((((sm1.Kids.getD 0 default).Kids).getD 0 default).Kids).getD 0 default).Text)), .int .i64 ((((((sm1.Kids.getD 0 default).Kids).getD 0 default).Kids).getD 0 default).N), .int .i64 ((((((sm1.Kids.getD 0 default).Kids).getD 0 default).Kids).getD 0 default).Dim), .int .i64 ((((((sm1.Kids.getD 0 default).Kids).getD 0 default).Kids).getD 0 default).At), sv14]) rfl (q_loadAgg rfl Tryd.underlying26 rfl sz26 rfl (Cells.phiK hcc2)) ?_
      refine RW.eff (fun b8 : Nat => .pointer (some (⟨b8, 0, none⟩))) (fun b8 => St ⟨w, Φ, []⟩ Φ6 [.blk b8 26 [.int .i64 0, .string (bs ([])), .int .i64 0, .int .i64 0, .int .i64 0, (.slice none 0 0)], .blk b7 26 [.int .i64 ((((((sm0.Kids.getD 0 default).Kids).getD 2 default).Kids).getD 0 default).Kind), .string (bs ((((((sm0.Kids.getD 0 default).Kids).getD 2 default).Kids).getD 0 default).Text)), .int .i64 ((((((sm0.Kids.getD 0 default).Kids).getD 2 default).Kids).getD 0 default).N), .int .i64 ((((((sm0.Kids.getD 0 default).Kids).getD 2 default).Kids).getD 0 default).Dim), .int .i64 ((((((sm0.Kids.getD 0 default).Kids).getD 2 default).Kids).getD 0 default).At), sv11], .blk b6 26 [.int .i64 sm5.Kind, .string (bs sm5.Text), .int .i64 sm5.N, .int .i64 sm5.Dim, .int .i64 sm5.At, kp6], .blk b5 26 [.int .i64 sm4.Kind, .string (bs sm4.Text), .int .i64 sm4.N, .int .i64 sm4.Dim, .int .i64 sm4.At, kp5], .blk b4 26 [.int .i64 sm3.Kind, .string (bs sm3.Text), .int .i64 sm3.N, .int .i64 sm3.Dim, .int .i64 sm3.At, kp4], .blk b3 26 [.int .i64 sm2.Kind, .string (bs sm2.Text), .int .i64 sm2.N, .int .i64 sm2.Dim, .int .i64 sm2.At, kp3], .blk b2 26 [.int .i64 sm1.Kind, .string (bs sm1.Text), .int .i64 sm1.N, .int .i64 sm1.Dim, .int .i64 sm1.At, kp2], .blk b1 26 [.int .i64 sm0.Kind, .string (bs sm0.Text), .int .i64 sm0.N, .int .i64 sm0.Dim, .int .i64 sm0.At, kp1]]) rfl (e_alloc zero26) ?_
      intro b8
      refine RW.effn (J' := St ⟨w, Φ, []⟩ Φ6 [.blk b8 26 [.int .i64 ((((((sm1.Kids.getD 0 default).Kids).getD 0 default).Kids).getD 0 default).Kind), .string (bs ((((((sm1.Kids.getD 0 default).Kids).getD 0 default).Kids).getD 0 default).Text)), .int .i64 ((((((sm1.Kids.getD 0 default).Kids).getD 0 default).Kids).getD 0 default).N), .int .i64 ((((((sm1.Kids.getD 0 default).Kids).getD 0 default).Kids).getD 0 default).Dim), .int .i64 ((((((sm1.Kids.getD 0 default).Kids).getD 0 default).Kids).getD 0 default).At), sv14], .blk b7 26 [.int .i64 ((((((sm0.Kids.getD 0 default).Kids).getD 2 default).Kids).getD 0 default).Kind), .string (bs ((((((sm0.Kids.getD 0 default).Kids).getD 2 default).Kids).getD 0 default).Text)), .int .i64 ((((((sm0.Kids.getD 0 default).Kids).getD 2 default).Kids).getD 0 default).N), .int .i64 ((((((sm0.Kids.getD 0 default).Kids).getD 2 default).Kids).getD 0 default).Dim), .int .i64 ((((((sm0.Kids.getD 0 default).Kids).getD 2 default).Kids).getD 0 default).At), sv11], .blk b6 26 [.int .i64 sm5.Kind, .string (bs sm5.Text), .int .i64 sm5.N, .int .i64 sm5.Dim, .int .i64 sm5.At, kp6], .blk b5 26 [.int .i64 sm4.Kind, .string (bs sm4.Text), .int .i64 sm4.N, .int .i64 sm4.Dim, .int .i64 sm4.At, kp5], .blk b4 26 [.int .i64 sm3.Kind, .string (bs sm3.Text), .int .i64 sm3.N, .int .i64 sm3.Dim, .int .i64 sm3.At, kp4], .blk b3 26 [.int .i64 sm2.Kind, .string (bs sm2.Text), .int .i64 sm2.N, .int .i64 sm2.Dim, .int .i64 sm2.At, kp3], .blk b2 26 [.int .i64 sm1.Kind, .string (bs sm1.Text), .int .i64 sm1.N, .int .i64 sm1.Dim, .int .i64 sm1.At, kp2], .blk b1 26 [.int .i64 sm0.Kind, .string (bs sm0.Text), .int .i64 sm0.N, .int .i64 sm0.Dim, .int .i64 sm0.At, kp1]]) (e_store (v := .agg #[.int .i64 ((((((sm1.Kids.getD 0 default).Kids).getD 0 default).Kids).getD 0 default).Kind), .string (bs ((((((sm1.Kids.getD 0 default).Kids).getD 0 default).Kids).getD 0 default).Text)), .int .i64 ((((((sm1.Kids.getD 0 default).Kids).getD 0 default).Kids).getD 0 default).N), .int .i64 ((((((sm1.Kids.getD 0 default).Kids).getD 0 default).Kids).getD 0 default).Dim), .int .i64 ((((((sm1.Kids.getD 0 default).Kids).getD 0 default).Kids).getD 0 default).At), sv14]) 0 rfl rfl rfl sz26 rfl (List.all_eq_true.2 (fun u hu => Rep.one (show Rep.rep _ _ _ from hcr2) u hu)) rfl rfl rfl) ?_
      refine RW.nil ?_
      refine Post.then_n ?_
      refine AW.seq ?_
      refine AW.region ?_
      refine RW.q (v := .pointer (some (⟨b1, 5, none⟩))) rfl (q_fieldAddr rfl Tryd.underlying26 rfl sz24 rfl) ?_
      refine RW.q (v := kp1) rfl (q_load rfl Tryd.underlying24 rfl (Cell.blk 7 rfl rfl)) ?_
      refine RW.q (v := .pointer (some (Value.at kp1 (0 * 6)))) rfl (q_indexAddr rfl rfl hkp1.sl Tryd.underlying24 sz26 (by decide +kernel) (by decide +kernel) rfl) ?_
      refine RW.q (v := .pointer (some (Value.at kp1 (0 * 6 + 1)))) rfl (q_fieldAddr rfl Tryd.underlying26 rfl sz9 at_add) ?_
      refine RW.q (v := .string (bs ((sm0.Kids.getD 0 default).Text))) rfl (q_load rfl Tryd.underlying9 rfl (Cell.repJ (j := 1) hkp1 (by decide +kernel) (fun h => leaf26_1 h))) ?_
      refine RW.q (v := .bool true) rfl (q_as (v := .bool (decide ((sm0.Kids.getD 0 default).Text = ([108, 97, 107, 101] : List UInt8)))) (q_eqlStr (l := (sm0.Kids.getD 0 default).Text) (r := ([108, 97, 107, 101] : List UInt8)) rfl rfl) (congrArg Value.bool (by decide +kernel))) ?_
      refine RW.q (v := .bool true) rfl (q_move rfl) ?_
      refine RW.gl (v := .pointer (some (⟨b1, 5, none⟩))) rfl rfl rfl (q_fieldAddr rfl Tryd.underlying26 rfl sz24 rfl) ?_
      refine RW.gl (v := kp1) rfl rfl rfl (q_load rfl Tryd.underlying24 rfl (Cell.blk 7 rfl rfl)) ?_
      refine RW.gl (v := .pointer (some (Value.at kp1 (0 * 6)))) rfl rfl rfl (q_indexAddr rfl rfl hkp1.sl Tryd.underlying24 sz26 (by decide +kernel) (by decide +kernel) rfl) ?_
      refine RW.gl (v := .pointer (some (Value.at kp1 (0 * 6 + 5)))) rfl rfl rfl (q_fieldAddr rfl Tryd.underlying26 rfl sz24 at_add) ?_
      obtain ⟨sv15, hsv15, hpc13⟩ := leaf26_5 hkp1 (k := 0) (by decide +kernel)
      refine RW.gl (v := sv15) rfl rfl rfl (q_load rfl Tryd.underlying24 rfl (Cell.phi hpc13)) ?_
      refine RW.gl (v := .pointer (some (Value.at sv15 (1 * 6)))) rfl rfl rfl (q_indexAddr rfl rfl hsv15.sl Tryd.underlying24 sz26 (by decide +kernel) (by decide +kernel) rfl) ?_
      refine RW.gl (v := .pointer (some (Value.at sv15 (1 * 6 + 1)))) rfl rfl rfl (q_fieldAddr rfl Tryd.underlying26 rfl sz9 at_add) ?_
      refine RW.gl (v := .string (bs ((((sm0.Kids.getD 0 default).Kids).getD 1 default).Text))) rfl rfl rfl (q_load rfl Tryd.underlying9 rfl (Cell.repJ (j := 1) hsv15 (by decide +kernel) (fun h => leaf26_1 h))) ?_
      refine RW.gl (v := .bool true) rfl rfl rfl (q_as (v := .bool (decide ((((sm0.Kids.getD 0 default).Kids).getD 1 default).Text = ([85, 112, 112, 101, 114] : List UInt8)))) (q_eqlStr (l := (((sm0.Kids.getD 0 default).Kids).getD 1 default).Text) (r := ([85, 112, 112, 101, 114] : List UInt8)) rfl rfl) (congrArg Value.bool (by decide +kernel))) ?_
      refine RW.q (v := .bool true) rfl (q_pick (t := true) rfl (fun _ => rfl) (fun hp => nomatch hp)) ?_
      refine RW.q (v := .bool true) rfl (q_move rfl) ?_
      refine RW.gl (v := .pointer (some (⟨b7, 2, none⟩))) rfl rfl rfl (q_fieldAddr rfl Tryd.underlying26 rfl sz23 rfl) ?_
      refine RW.gl (v := .agg #[.int .i64 ((((((sm0.Kids.getD 0 default).Kids).getD 2 default).Kids).getD 0 default).N), .int .i64 ((((((sm0.Kids.getD 0 default).Kids).getD 2 default).Kids).getD 0 default).Dim)]) rfl rfl rfl (q_loadAgg rfl Tryd.underlying23 rfl sz23 rfl (Cells.blkP (off := 2) 1 rfl (fun j u hu => (by rcases j with _ | (_ | _) <;> first | exact hu | cases hu)))) ?_
      refine RW.gl (v := .agg #[.int .i64 4000000, .int .i64 1]) rfl rfl rfl (q_build (vals := [(0, .int .i64 4000000), (1, .int .i64 1)]) zero23 Tryd.underlying23 places23 rfl rfl) ?_
      refine RW.gl (v := .bool true) rfl rfl rfl (q_as (v := .bool (decide ((((((sm0.Kids.getD 0 default).Kids).getD 2 default).Kids).getD 0 default).N = 4000000) && decide ((((((sm0.Kids.getD 0 default).Kids).getD 2 default).Kids).getD 0 default).Dim = 1))) (q_eqlS rfl rfl (eqS23 _ _ _ _) eqG23) (congrArg Value.bool (by decide +kernel))) ?_
      refine RW.q (v := .bool true) rfl (q_pick (t := true) rfl (fun _ => rfl) (fun hp => nomatch hp)) ?_
      refine RW.q (v := .bool true) rfl (q_move rfl) ?_
      refine RW.gl (v := .pointer (some (⟨b8, 2, none⟩))) rfl rfl rfl (q_fieldAddr rfl Tryd.underlying26 rfl sz23 rfl) ?_
      refine RW.gl (v := .agg #[.int .i64 ((((((sm1.Kids.getD 0 default).Kids).getD 0 default).Kids).getD 0 default).N), .int .i64 ((((((sm1.Kids.getD 0 default).Kids).getD 0 default).Kids).getD 0 default).Dim)]) rfl rfl rfl (q_loadAgg rfl Tryd.underlying23 rfl sz23 rfl (Cells.blkP (off := 2) 0 rfl (fun j u hu => (by rcases j with _ | (_ | _) <;> first | exact hu | cases hu)))) ?_
      refine RW.gl (v := .agg #[.int .i64 5000, .int .i64 3]) rfl rfl rfl (q_build (vals := [(0, .int .i64 5000), (1, .int .i64 3)]) zero23 Tryd.underlying23 places23 rfl rfl) ?_
      refine RW.gl (v := .bool true) rfl rfl rfl (q_as (v := .bool (decide ((((((sm1.Kids.getD 0 default).Kids).getD 0 default).Kids).getD 0 default).N = 5000) && decide ((((((sm1.Kids.getD 0 default).Kids).getD 0 default).Kids).getD 0 default).Dim = 3))) (q_eqlS rfl rfl (eqS23 _ _ _ _) eqG23) (congrArg Value.bool (by decide +kernel))) ?_
      refine RW.q (v := .bool true) rfl (q_pick (t := true) rfl (fun _ => rfl) (fun hp => nomatch hp)) ?_
      refine RW.q (v := .bool true) rfl (q_move rfl) ?_
      refine RW.gl (v := .pointer (some (⟨b2, 5, none⟩))) rfl rfl rfl (q_fieldAddr rfl Tryd.underlying26 rfl sz24 rfl) ?_
      refine RW.gl (v := kp2) rfl rfl rfl (q_load rfl Tryd.underlying24 rfl (Cell.blk 6 rfl rfl)) ?_
      refine RW.gl (v := .pointer (some (Value.at kp2 (0 * 6)))) rfl rfl rfl (q_indexAddr rfl rfl hkp2.sl Tryd.underlying24 sz26 (by decide +kernel) (by decide +kernel) rfl) ?_
      refine RW.gl (v := .pointer (some (Value.at kp2 (0 * 6 + 5)))) rfl rfl rfl (q_fieldAddr rfl Tryd.underlying26 rfl sz24 at_add) ?_
      obtain ⟨sv16, hsv16, hpc14⟩ := leaf26_5 hkp2 (k := 0) (by decide +kernel)
      refine RW.gl (v := sv16) rfl rfl rfl (q_load rfl Tryd.underlying24 rfl (Cell.phi hpc14)) ?_
      refine RW.gl (v := .pointer (some (Value.at sv16 (0 * 6)))) rfl rfl rfl (q_indexAddr rfl rfl hsv16.sl Tryd.underlying24 sz26 (by decide +kernel) (by decide +kernel) rfl) ?_
      refine RW.gl (v := .pointer (some (Value.at sv16 (0 * 6 + 5)))) rfl rfl rfl (q_fieldAddr rfl Tryd.underlying26 rfl sz24 at_add) ?_
      obtain ⟨sv17, hsv17, hpc15⟩ := leaf26_5 hsv16 (k := 0) (by decide +kernel)
      refine RW.gl (v := sv17) rfl rfl rfl (q_load rfl Tryd.underlying24 rfl (Cell.phi hpc15)) ?_
      refine RW.gl (v := .pointer (some (Value.at sv17 (1 * 6)))) rfl rfl rfl (q_indexAddr rfl rfl hsv17.sl Tryd.underlying24 sz26 (by decide +kernel) (by decide +kernel) rfl) ?_
      refine RW.gl (v := .pointer (some (Value.at sv17 (1 * 6 + 1)))) rfl rfl rfl (q_fieldAddr rfl Tryd.underlying26 rfl sz9 at_add) ?_
      refine RW.gl (v := .string (bs ((((((sm1.Kids.getD 0 default).Kids).getD 0 default).Kids).getD 1 default).Text))) rfl rfl rfl (q_load rfl Tryd.underlying9 rfl (Cell.repJ (j := 1) hsv17 (by decide +kernel) (fun h => leaf26_1 h))) ?_
      refine RW.gl (v := .bool true) rfl rfl rfl (q_as (v := .bool (decide ((((((sm1.Kids.getD 0 default).Kids).getD 0 default).Kids).getD 1 default).Text = ([122] : List UInt8)))) (q_eqlStr (l := (((((sm1.Kids.getD 0 default).Kids).getD 0 default).Kids).getD 1 default).Text) (r := ([122] : List UInt8)) rfl rfl) (congrArg Value.bool (by decide +kernel))) ?_
      refine RW.q (v := .bool true) rfl (q_pick (t := true) rfl (fun _ => rfl) (fun hp => nomatch hp)) ?_
      refine RW.q (v := .bool true) rfl (q_move rfl) ?_
      refine RW.gl (v := .int .i64 2) rfl rfl rfl (q_move rfl) ?_
      refine RW.gl (v := .bool true) rfl rfl rfl (q_eql (a := 2) (b := 2) rfl rfl) ?_
      refine RW.q (v := .bool true) rfl (q_pick (t := true) rfl (fun _ => rfl) (fun hp => nomatch hp)) ?_
      refine RW.q (v := .bool true) rfl (q_move rfl) ?_
      refine RW.gl (v := .int .i64 8) rfl rfl rfl (q_move rfl) ?_
      refine RW.gl (v := .bool true) rfl rfl rfl (q_eql (a := 8) (b := 8) rfl rfl) ?_
      refine RW.q (v := .bool true) rfl (q_pick (t := true) rfl (fun _ => rfl) (fun hp => nomatch hp)) ?_
      refine RW.q (v := .bool true) rfl (q_move rfl) ?_
      refine RW.gl (v := .int .i64 2) rfl rfl rfl (q_move rfl) ?_
      refine RW.gl (v := .bool true) rfl rfl rfl (q_eql (a := 2) (b := 2) rfl rfl) ?_
      refine RW.q (v := .bool true) rfl (q_pick (t := true) rfl (fun _ => rfl) (fun hp => nomatch hp)) ?_
      refine RW.q (v := .bool true) rfl (q_move rfl) ?_
      refine RW.gl (v := .int .i64 3) rfl rfl rfl (q_move rfl) ?_
      refine RW.gl (v := .bool true) rfl rfl rfl (q_eql (a := 3) (b := 3) rfl rfl) ?_
      refine RW.q (v := .bool true) rfl (q_pick (t := true) rfl (fun _ => rfl) (fun hp => nomatch hp)) ?_
      refine RW.q (v := .bool true) rfl (q_move rfl) ?_
      refine RW.gl (v := .int .i64 2) rfl rfl rfl (q_move rfl) ?_
      refine RW.gl (v := .bool true) rfl rfl rfl (q_eql (a := 2) (b := 2) rfl rfl) ?_
      refine RW.q (v := .bool true) rfl (q_pick (t := true) rfl (fun _ => rfl) (fun hp => nomatch hp)) ?_
      refine RW.q (v := .bool true) rfl (q_move rfl) ?_
      refine RW.gl (v := .int .i64 7) rfl rfl rfl (q_move rfl) ?_
      refine RW.gl (v := .bool true) rfl rfl rfl (q_eql (a := 7) (b := 7) rfl rfl) ?_
      refine RW.q (v := .bool true) rfl (q_pick (t := true) rfl (fun _ => rfl) (fun hp => nomatch hp)) ?_
      refine RW.q (v := .bool true) rfl (q_move rfl) ?_
      refine RW.gl (v := .int .i64 7) rfl rfl rfl (q_move rfl) ?_
      refine RW.gl (v := .bool true) rfl rfl rfl (q_eql (a := 7) (b := 7) rfl rfl) ?_
      refine RW.q (v := .bool true) rfl (q_pick (t := true) rfl (fun _ => rfl) (fun hp => nomatch hp)) ?_
      refine RW.q (v := .bool true) rfl (q_move rfl) ?_
      refine RW.gl (v := .int .i64 6) rfl rfl rfl (q_move rfl) ?_
      refine RW.gl (v := .bool true) rfl rfl rfl (q_eql (a := 6) (b := 6) rfl rfl) ?_
      refine RW.q (v := .bool true) rfl (q_pick (t := true) rfl (fun _ => rfl) (fun hp => nomatch hp)) ?_
      refine RW.q (v := .bool true) rfl (q_move rfl) ?_
      refine RW.gl (v := .agg #[.int .i64 sm0.Kind, .string (bs sm0.Text), .int .i64 sm0.N, .int .i64 sm0.Dim, .int .i64 sm0.At, kp1]) rfl rfl rfl (q_loadAgg rfl Tryd.underlying26 rfl sz26 rfl (Cells.blk 7 rfl)) ?_
      refine RW.gl (v := .bool (Pa.right sm0)) rfl rfl rfl (q_call (args := #[.agg #[.int .i64 sm0.Kind, .string (bs sm0.Text), .int .i64 sm0.N, .int .i64 sm0.Dim, .int .i64 sm0.At, kp1]]) own11 rfl rfl (fun w1 hw1 => Right_c w1 (Go.K.hp w1) (Hp.le_refl _) (hG.mono hw1.phi) (hkp1.mono hw1.phi) hwp1)) ?_
      refine RW.q (v := .bool true) rfl (q_as (v := .bool (Pa.right sm0)) (q_pick (t := true) rfl (fun _ => rfl) (fun hp => nomatch hp)) (congrArg Value.bool (by decide +kernel))) ?_
      refine RW.q (v := .bool true) rfl (q_move rfl) ?_
      refine RW.gl (v := .agg #[.int .i64 sm1.Kind, .string (bs sm1.Text), .int .i64 sm1.N, .int .i64 sm1.Dim, .int .i64 sm1.At, kp2]) rfl rfl rfl (q_loadAgg rfl Tryd.underlying26 rfl sz26 rfl (Cells.blk 6 rfl)) ?_
      refine RW.gl (v := .string (bs (Pa.write sm1))) rfl rfl rfl (q_call (args := #[.agg #[.int .i64 sm1.Kind, .string (bs sm1.Text), .int .i64 sm1.N, .int .i64 sm1.Dim, .int .i64 sm1.At, kp2]]) own10 rfl rfl (fun w1 hw1 => treeWrite_c w1 (Go.K.hp w1) (Hp.le_refl _) (hG.mono hw1.phi) (hkp2.mono hw1.phi) hwp2 (by decide +kernel))) ?_
      refine RW.gl (v := .bool true) rfl rfl rfl (q_as (v := .bool (decide (Pa.write sm1 = ([120, 32, 123, 10, 32, 32, 121, 32, 53, 48, 48, 48, 32, 109, 109, 32, 122, 59, 10, 125, 10] : List UInt8)))) (q_eqlStr (l := Pa.write sm1) (r := ([120, 32, 123, 10, 32, 32, 121, 32, 53, 48, 48, 48, 32, 109, 109, 32, 122, 59, 10, 125, 10] : List UInt8)) rfl rfl) (congrArg Value.bool (by decide +kernel))) ?_
      refine RW.q (v := .bool true) rfl (q_pick (t := true) rfl (fun _ => rfl) (fun hp => nomatch hp)) ?_
      refine RW.q (v := .bool true) rfl (q_assign rfl) ?_
      refine RW.nil ?_
      refine Post.then_n ?_
      refine AW.ret ?_
      exact fin_val (v' := .bool true) rfl rfl rfl (rfl)

end Go.Proofs.YtjcahklnkakklaaDoor
