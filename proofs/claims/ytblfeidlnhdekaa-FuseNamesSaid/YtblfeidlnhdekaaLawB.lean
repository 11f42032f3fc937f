/- Walks (part LawB), printed by walk2.py. Conditions: those of each theorem. -/
import Derived.Test.YtblfeidlnhdekaaWalkN
import Derived.Test.YtblfeidlnhdekaaPlainF
import Derived.Test.YtblfeidlnhdekaaCore7
namespace Go.Proofs.Ytblfeidlnhdekaa
open Go Go.K Go.RowKit

set_option maxRecDepth 8000 in
set_option maxHeartbeats 2000000 in
theorem FuseNames_c (w : World) (Φ : Hp) (hΦ : Hp.le Φ (hp w)) {b : Bt.Basin} {cs : List Value} (hB : RepV Φ b cs) {h : Bt.Hull} {hcs : List Value} (hH : RepV Φ h hcs) {l : List Bt.Reading} {lv : Value} (hl : RepSl Φ l lv) :
    Calls Try.prog 4 #[.agg cs.toArray, .agg hcs.toArray, lv] w fun e w' => e = .returned (.bool true) ∧ Below w.heap.size w w' := by
  obtain ⟨v1, v3, v4, v5, v6, v7, v8, v9, hcs, hBw, r1, r3, r4, r5, r6, r7, r8, r9⟩ := (show Rep.rep Φ b cs from hB)
  subst hcs
  have hpm : b.Places.length * 152 ≤ 140737488355328 := r3.max
  have hgm : b.Gauges.length * 48 ≤ 140737488355328 := r6.max
  obtain ⟨hv1, hv2, hv3, hhcs, hhw, hr1, hr2, hr3⟩ := (show Rep.rep Φ h hcs from hH)
  subst hhcs
  have hm1 : h.Vol.length * 16 ≤ 140737488355328 := hr1.max
  have hm2 : h.Queue.length * 32 ≤ 140737488355328 := hr2.max
  have hm3 : h.Links.length * 40 ≤ 140737488355328 := hr3.max
  refine calls_of_AW (args := [.agg #[.string b.Name, v1, .int .i64 b.Cells, v3, v4, v5, v6, v7, v8, v9, .int .i64 b.Err], .agg #[.int .i64 h.Hour, hv1, hv2, hv3], lv]) Try.func4 rfl (Nat.le_of_ble_eq_true rfl) (St ⟨w, Φ, []⟩ Φ []) (StP.init w Φ hΦ []) ?_
  show AW Try.prog 182 [] _ _ _ [(0, .agg #[.string b.Name, v1, .int .i64 b.Cells, v3, v4, v5, v6, v7, v8, v9, .int .i64 b.Err]), (1, .agg #[.int .i64 h.Hour, hv1, hv2, hv3]), (2, lv)] _
  have hlm : l.length * 32 ≤ 140737488355328 := hl.max
  refine AW.seq ?_
  refine AW.region ?_
  refine RW.eff (fun b1 : Nat => .pointer (some (⟨b1, 0, none⟩))) (fun b1 => St ⟨w, Φ, []⟩ Φ [.blk b1 31 [.string b.Name, v1, .int .i64 b.Cells, v3, v4, v5, v6, v7, v8, v9, .int .i64 b.Err]]) rfl (e_boxA (cs := [.string b.Name, v1, .int .i64 b.Cells, v3, v4, v5, v6, v7, v8, v9, .int .i64 b.Err]) rfl) ?_
  intro b1
  refine RW.eff (fun b2 : Nat => .pointer (some (⟨b2, 0, none⟩))) (fun b2 => St ⟨w, Φ, []⟩ Φ [.blk b2 36 [.int .i64 h.Hour, hv1, hv2, hv3], .blk b1 31 [.string b.Name, v1, .int .i64 b.Cells, v3, v4, v5, v6, v7, v8, v9, .int .i64 b.Err]]) rfl (e_boxA (cs := [.int .i64 h.Hour, hv1, hv2, hv3]) rfl) ?_
  intro b2
  refine RW.q (v := .bool false) rfl (q_assign rfl) ?_
  refine RW.nil ?_
  refine Post.then_n ?_
  refine AW.seq ?_
  refine AW.region ?_
  refine RW.q (v := .bool true) rfl (q_call (args := #[]) own8 rfl rfl (fun w1 hw1 => small_c w1 (Go.K.hp w1) (Hp.le_refl _))) ?_
  refine RW.q (v := .bool true) rfl (q_assign rfl) ?_
  refine RW.nil ?_
  refine Post.then_n ?_
  refine AW.seq ?_
  refine AW.seq ?_
  refine AW.region ?_
  refine RW.q (v := .agg #[.string b.Name, v1, .int .i64 b.Cells, v3, v4, v5, v6, v7, v8, v9, .int .i64 b.Err]) rfl (q_loadAgg rfl Try.underlying31 rfl sz31 rfl (Cells.blk 1 rfl)) ?_
  refine RW.q (v := .agg #[.int .i64 h.Hour, hv1, hv2, hv3]) rfl (q_loadAgg rfl Try.underlying36 rfl sz36 rfl (Cells.blk 0 rfl)) ?_
  refine RW.q (v := .bool (decide (Fu.Few b h))) rfl (q_call (args := #[.agg #[.string b.Name, v1, .int .i64 b.Cells, v3, v4, v5, v6, v7, v8, v9, .int .i64 b.Err], .agg #[.int .i64 h.Hour, hv1, hv2, hv3]]) own9 rfl rfl (fun w1 hw1 => few_c w1 (Go.K.hp w1) (Hp.le_refl _) (hB.mono hw1.phi) (hH.mono hw1.phi))) ?_
  refine RW.q (v := .bool (!(decide (Fu.Few b h)))) rfl (q_not rfl) ?_
  refine RW.q (v := .bool (!(decide (Fu.Few b h)))) rfl (q_move rfl) ?_
  refine RW.g (b := (!(decide (Fu.Few b h)))) (v := lv) rfl rfl rfl (fun h => q_move rfl) ?_
  refine RW.g (b := (!(decide (Fu.Few b h)))) (v := .int .i64 ((l.length : Nat) : Int)) rfl rfl rfl (fun h => q_len_sl (gv_pos h) hl.sl Try.underlying37) ?_
  refine RW.g (b := (!(decide (Fu.Few b h)))) (v := .bool (decide ((40 : Int) < ((l.length : Nat) : Int)))) rfl rfl rfl (fun h => q_gtr (gv_pos h) rfl) ?_
  refine RW.q (v := .bool ((!(decide (Fu.Few b h))) || (decide ((40 : Int) < ((l.length : Nat) : Int))))) rfl (q_pick rfl (fun hp => pkOrT hp) (fun hp => (gv_pos hp).trans (pkOrF hp))) ?_
  refine RW.nil ?_
  refine Post.then_n ?_
  refine AW.cond (b := (!(decide (Fu.Few b h))) || (decide ((40 : Int) < ((l.length : Nat) : Int)))) rfl (fun hc1 => ?_) (fun hc1 => ?_)
  · simp [-List.getD_eq_getElem?_getD] at hc1
    refine AW.seq ?_
    refine AW.region ?_
    refine RW.q (v := .bool true) rfl (q_move rfl) ?_
    refine RW.q (v := .bool true) rfl (q_assign rfl) ?_
    refine RW.nil ?_
    refine Post.then_n ?_
    refine AW.ret ?_
    refine Post.then_r ?_
    exact fin_val (v' := .bool true) rfl rfl rfl (rfl)
  · simp [-List.getD_eq_getElem?_getD] at hc1
    refine AW.skip ?_
    refine Post.then_n ?_
    refine AW.seq ?_
    refine AW.seq ?_
    have hfew : Fu.Few b h := by simpa using hc1.1
    obtain ⟨hf1, hf2, hf3, hf4, hf5, hf6⟩ := hfew
    refine AW.region ?_
    refine RW.q (v := .int .i64 0) rfl (q_assign rfl) ?_
    refine RW.nil ?_
    refine Post.then_n ?_
    refine AW.block ?_
    refine AW.loop (fun s J m => ∃ (k : Nat), s = [(2, lv), (3, .pointer (some (⟨b1, 0, none⟩))), (4, .pointer (some (⟨b2, 0, none⟩))), (7, .bool true), (8, .int .i64 (k : Int))] ∧ J = St ⟨w, Φ, []⟩ Φ [.blk b2 36 [.int .i64 h.Hour, hv1, hv2, hv3], .blk b1 31 [.string b.Name, v1, .int .i64 b.Cells, v3, v4, v5, v6, v7, v8, v9, .int .i64 b.Err]] ∧ m = l.length - k ∧ (k ≤ l.length) ∧ (∀ i j, i < j → j < k → (l.getD i default).Gauge ≠ (l.getD j default).Gauge)) (s0 := _) (J1 := _) (m0 := _) ⟨0, rfl, rfl, rfl, (by omega), (fun i j h1 h2 => by omega)⟩ ⟨rfl, rfl, rfl, rfl, rfl, trivial⟩ (fun _ h => h) ?_
    rintro _ _ _ _ ⟨k, rfl, rfl, rfl, hk, hdi⟩
    refine AW.seq ?_
    refine AW.seq ?_
    refine AW.region ?_
    refine RW.q (v := .int .i64 (k : Int)) rfl (q_move rfl) ?_
    refine RW.q (v := lv) rfl (q_move rfl) ?_
    refine RW.q (v := .int .i64 ((l.length : Nat) : Int)) rfl (q_len_sl rfl hl.sl Try.underlying37) ?_
    refine RW.q (v := .bool (decide ((k : Int) < ((l.length : Nat) : Int)))) rfl (q_lss rfl rfl) ?_
    refine RW.nil ?_
    refine Post.then_n ?_
    refine AW.cond (b := decide ((k : Int) < ((l.length : Nat) : Int))) rfl (fun hc2 => ?_) (fun hc2 => ?_)
    · simp [-List.getD_eq_getElem?_getD] at hc2
      refine AW.skip ?_
      refine Post.then_n ?_
      refine AW.seq ?_
      refine AW.block ?_
      refine AW.seq ?_
      refine AW.region ?_
      refine RW.q (v := .int .i64 0) rfl (q_assign rfl) ?_
      refine RW.nil ?_
      refine Post.then_n ?_
      refine AW.block ?_
      refine AW.loop (fun s J m => ∃ (j : Nat), s = [(2, lv), (3, .pointer (some (⟨b1, 0, none⟩))), (4, .pointer (some (⟨b2, 0, none⟩))), (7, .bool true), (8, .int .i64 (k : Int)), (9, .int .i64 (j : Int))] ∧ J = St ⟨w, Φ, []⟩ Φ [.blk b2 36 [.int .i64 h.Hour, hv1, hv2, hv3], .blk b1 31 [.string b.Name, v1, .int .i64 b.Cells, v3, v4, v5, v6, v7, v8, v9, .int .i64 b.Err]] ∧ m = k - j ∧ (j ≤ k) ∧ (∀ i, i < j → (l.getD i default).Gauge ≠ (l.getD k default).Gauge)) (s0 := _) (J1 := _) (m0 := _) ⟨0, rfl, rfl, rfl, (by omega), (fun i h1 => by omega)⟩ ⟨rfl, rfl, rfl, rfl, rfl, rfl, trivial⟩ (fun _ h => h) ?_
      rintro _ _ _ _ ⟨j, rfl, rfl, rfl, hj, hdj⟩
      refine AW.seq ?_
      refine AW.seq ?_
      refine AW.region ?_
      refine RW.q (v := .int .i64 (j : Int)) rfl (q_move rfl) ?_
      refine RW.q (v := .int .i64 (k : Int)) rfl (q_move rfl) ?_
      refine RW.q (v := .bool (decide ((j : Int) < (k : Int)))) rfl (q_lss rfl rfl) ?_
      refine RW.nil ?_
      refine Post.then_n ?_
      refine AW.cond (b := decide ((j : Int) < (k : Int))) rfl (fun hc3 => ?_) (fun hc3 => ?_)
      · simp [-List.getD_eq_getElem?_getD] at hc3
        refine AW.skip ?_
        refine Post.then_n ?_
        refine AW.seq ?_
        refine AW.block ?_
        refine AW.seq ?_
        refine AW.draw (J0 := St ⟨w, Φ, []⟩ Φ [.blk b2 36 [.int .i64 h.Hour, hv1, hv2, hv3], .blk b1 31 [.string b.Name, v1, .int .i64 b.Cells, v3, v4, v5, v6, v7, v8, v9, .int .i64 b.Err]]) [.q, .q, .q, .q, .q, .q, .q, .q, .q, .q, .q] [0, 1, 2, 3, 4, 5, 6, 7, 8, 9, 10] hmix (by kernel_rfl) ?_
        refine DW.q (v := lv) (fun _ h => h) rfl (q_move rfl) ?_
        refine DW.q (v := .int .i64 (j : Int)) (fun _ h => h) rfl (q_move rfl) ?_
        refine DW.q (v := .pointer (some (Value.at lv (j * 4)))) (fun _ h => h) rfl (q_indexAddr rfl rfl hl.sl Try.underlying37 sz46 (by omega) (by omega) rfl) ?_
        refine DW.q (v := .pointer (some (Value.at lv (j * 4 + 0)))) (fun _ h => h) rfl (q_fieldAddr rfl Try.underlying46 rfl sz3 at_add) ?_
        refine DW.q (v := .int .i64 ((l.getD j default).Gauge)) (fun _ h => h) rfl (q_load rfl Try.underlying3 rfl (Cell.repE (j := 0) hl (by omega) rfl)) ?_
        refine DW.q (v := lv) (fun _ h => h) rfl (q_move rfl) ?_
        refine DW.q (v := .int .i64 (k : Int)) (fun _ h => h) rfl (q_move rfl) ?_
        refine DW.q (v := .pointer (some (Value.at lv (k * 4)))) (fun _ h => h) rfl (q_indexAddr rfl rfl hl.sl Try.underlying37 sz46 (by omega) (by omega) rfl) ?_
        refine DW.q (v := .pointer (some (Value.at lv (k * 4 + 0)))) (fun _ h => h) rfl (q_fieldAddr rfl Try.underlying46 rfl sz3 at_add) ?_
        refine DW.q (v := .int .i64 ((l.getD k default).Gauge)) (fun _ h => h) rfl (q_load rfl Try.underlying3 rfl (Cell.repE (j := 0) hl (by omega) rfl)) ?_
        refine DW.q (v := .bool (decide ((l.getD j default).Gauge = (l.getD k default).Gauge))) (fun _ h => h) rfl (q_eql rfl rfl) ?_
        refine DW.nil ?_
        refine Post.then_n ?_
        refine AW.cond (b := decide ((l.getD j default).Gauge = (l.getD k default).Gauge)) rfl (fun hc4 => ?_) (fun hc4 => ?_)
        · simp [-List.getD_eq_getElem?_getD] at hc4
          refine AW.seq ?_
          refine AW.region ?_
          refine RW.q (v := .bool true) rfl (q_move rfl) ?_
          refine RW.q (v := .bool true) rfl (q_assign rfl) ?_
          refine RW.nil ?_
          refine Post.then_n ?_
          refine AW.ret ?_
          refine Post.blk_r (Post.then_r (Post.then_r (Post.blk_r (Post.blk_r (Post.then_r (Post.then_r (Post.blk_r (Post.then_r ?_))))))))
          exact fin_val (v' := .bool true) rfl rfl rfl (rfl)
        · simp [-List.getD_eq_getElem?_getD] at hc4
          refine AW.skip ?_
          refine Post.blk_n (Post.then_n ?_)
          refine AW.region ?_
          refine RW.q (v := .int .i64 (j : Int)) rfl (q_move rfl) ?_
          refine RW.q (v := .int .i64 ((j + 1 : Nat) : Int)) rfl (q_add rfl rfl (by omega) (by unfold I64; omega)) ?_
          refine RW.q (v := .int .i64 ((j + 1 : Nat) : Int)) rfl (q_assign rfl) ?_
          refine RW.nil ?_
          exact Post.back (s' := _) (J' := _) (m' := _) (by omega) ⟨j + 1, rfl, rfl, rfl, (by omega), (Fu.lt_succ hdj (by assumption))⟩ ⟨rfl, rfl, rfl, rfl, rfl, rfl, trivial⟩ (fun _ h => h)
      · simp [-List.getD_eq_getElem?_getD] at hc3
        refine AW.exit ?_
        refine Post.then_x (Post.then_x (Post.blk_hit (Post.blk_n (Post.then_n ?_))))
        refine AW.region ?_
        refine RW.q (v := .int .i64 (k : Int)) rfl (q_move rfl) ?_
        refine RW.q (v := .int .i64 ((k + 1 : Nat) : Int)) rfl (q_add rfl rfl (by omega) (by unfold I64; omega)) ?_
        refine RW.q (v := .int .i64 ((k + 1 : Nat) : Int)) rfl (q_assign rfl) ?_
        refine RW.nil ?_
        exact Post.back (s' := _) (J' := _) (m' := _) (by omega) ⟨k + 1, rfl, rfl, rfl, (by omega), (fun i j h1 h2 => by rcases Nat.lt_or_eq_of_le (Nat.lt_succ_iff.1 h2) with h3 | h3; exact hdi i j h1 h3; subst h3; exact hdj i (by omega))⟩ ⟨rfl, rfl, rfl, rfl, rfl, trivial⟩ (fun _ h => h)
    · simp [-List.getD_eq_getElem?_getD] at hc2
      refine AW.exit ?_
      refine Post.then_x (Post.then_x (Post.blk_hit (Post.then_n ?_)))
      refine AW.seq ?_
      have hD : Fu.Dist l := List.pairwise_iff_getElem.2 (fun i j hi hj hij => by have h9 := hdi i j hij (by omega); rwa [List.getD_eq_getElem?_getD, List.getD_eq_getElem?_getD, List.getElem?_eq_getElem hi, List.getElem?_eq_getElem hj] at h9)
      refine AW.region ?_
      refine RW.q (v := .agg #[.string b.Name, v1, .int .i64 b.Cells, v3, v4, v5, v6, v7, v8, v9, .int .i64 b.Err]) rfl (q_loadAgg rfl Try.underlying31 rfl sz31 rfl (Cells.blk 1 rfl)) ?_
      refine RW.q (v := .agg #[.int .i64 h.Hour, hv1, hv2, hv3]) rfl (q_loadAgg rfl Try.underlying36 rfl sz36 rfl (Cells.blk 0 rfl)) ?_
      refine RW.q (v := lv) rfl (q_move rfl) ?_
      refine RW.eff (fun x : {z : (Value × Value × Value × Value) × Hp // (fun (y : Value × Value × Value × Value) (Ψ : Hp) => (RepSl Ψ (Fu.fuse b h l).V y.1) ∧ (RepSl Ψ h.Queue y.2.1) ∧ (RepSl Ψ (Fu.fuse b h l).K y.2.2.1) ∧ (RepSl Ψ (Fu.comp (Fu.fuse b h l).N) y.2.2.2) ∧ (RepV Ψ (Fu.hullOf h (Fu.fuse b h l)) [.int .i64 h.Hour, y.1, y.2.1, y.2.2.1])) z.1 z.2 ∧ Hp.le Φ z.2} => .tuple #[.agg #[.int .i64 h.Hour, x.1.1.1, x.1.1.2.1, x.1.1.2.2.1], x.1.1.2.2.2]) (fun x => St ⟨w, Φ, []⟩ x.1.2 [.blk b2 36 [.int .i64 h.Hour, hv1, hv2, hv3], .blk b1 31 [.string b.Name, v1, .int .i64 b.Cells, v3, v4, v5, v6, v7, v8, v9, .int .i64 b.Err]]) rfl (e_callX (fun (y : Value × Value × Value × Value) => .tuple #[.agg #[.int .i64 h.Hour, y.1, y.2.1, y.2.2.1], y.2.2.2]) (fun (y : Value × Value × Value × Value) (Ψ : Hp) => (RepSl Ψ (Fu.fuse b h l).V y.1) ∧ (RepSl Ψ h.Queue y.2.1) ∧ (RepSl Ψ (Fu.fuse b h l).K y.2.2.1) ∧ (RepSl Ψ (Fu.comp (Fu.fuse b h l).N) y.2.2.2) ∧ (RepV Ψ (Fu.hullOf h (Fu.fuse b h l)) [.int .i64 h.Hour, y.1, y.2.1, y.2.2.1])) (args := #[.agg #[.string b.Name, v1, .int .i64 b.Cells, v3, v4, v5, v6, v7, v8, v9, .int .i64 b.Err], .agg #[.int .i64 h.Hour, hv1, hv2, hv3], lv]) own12 rfl rfl (fun w1 hw1 => ((((Fuse_c w1 (Go.K.hp w1) (Hp.le_refl _) (hB.mono hw1.phi) (hH.mono hw1.phi) (hl.mono hw1.phi) (by omega) (by omega) (by omega) (by omega)).mono fun _ _ => retS_up (fun _ _ _ hl ⟨a, b, c, d, e, h1, h2, h3, h4⟩ => ⟨a, b, c, d, e, h1.mono hl, h2.mono hl, h3.mono hl, h4.mono hl⟩))).mono fun e w2 hr => by obtain ⟨v9, he9, hb9, u1, u2, u3, u4, hr9, q1, q2, q3, q4⟩ := hr; exact (show RetS _ _ (fun r Ψ => ∃ u1 u2 u3 u4 : Value, r = .tuple #[.agg #[.int .i64 h.Hour, u1, u2, u3], u4] ∧ RepSl Ψ (Fu.fuse b h l).V u1 ∧ RepSl Ψ h.Queue u2 ∧ RepSl Ψ (Fu.fuse b h l).K u3 ∧ RepSl Ψ (Fu.comp (Fu.fuse b h l).N) u4 ∧ RepV Ψ (Fu.hullOf h (Fu.fuse b h l)) [.int .i64 h.Hour, u1, u2, u3]) _ _ from ⟨v9, he9, hb9, u1, u2, u3, u4, hr9, q1, q2, q3, q4, ⟨_, _, _, rfl, (show I64 h.Hour from hourOf hH), q1, q2, q3⟩⟩)).mono fun e w2 hr => by obtain ⟨v9, he9, hb9, u1, u2, u3, u4, hr9, q1, q2, q3, q4, q5⟩ := hr; exact ⟨v9, he9, hb9, (u1, u2, u3, u4), hr9, q1, q2, q3, q4, q5⟩)) ?_
      rintro ⟨⟨⟨fv1, fv2, fv3, fv4⟩, Φ1⟩, ⟨kfv1, kfv2, kfv3, kfv4, Hfv1⟩, hlΦ1⟩
      replace kfv1 : RepSl Φ1 (Fu.fuse b h l).V fv1 := kfv1
      replace kfv2 : RepSl Φ1 h.Queue fv2 := kfv2
      replace kfv3 : RepSl Φ1 (Fu.fuse b h l).K fv3 := kfv3
      replace kfv4 : RepSl Φ1 (Fu.comp (Fu.fuse b h l).N) fv4 := kfv4
      replace Hfv1 : RepV Φ1 (Fu.hullOf h (Fu.fuse b h l)) [.int .i64 h.Hour, fv1, fv2, fv3] := Hfv1
      replace hlΦ1 : Hp.le Φ Φ1 := hlΦ1
      replace hB := hB.mono hlΦ1
      replace r3 := r3.mono hlΦ1
      replace r6 := r6.mono hlΦ1
      replace hH := hH.mono hlΦ1
      replace hr1 := hr1.mono hlΦ1
      replace hr2 := hr2.mono hlΦ1
      replace hr3 := hr3.mono hlΦ1
      replace hl := hl.mono hlΦ1
      refine RW.q (v := .tuple #[.agg #[.int .i64 h.Hour, fv1, fv2, fv3], fv4]) rfl (q_move rfl) ?_
      refine RW.q (v := .agg #[.int .i64 h.Hour, fv1, fv2, fv3]) rfl (q_extract rfl rfl) ?_
      refine RW.q (v := fv4) rfl (q_extract rfl rfl) ?_
      refine RW.eff (fun b3 : Nat => .pointer (some (⟨b3, 0, none⟩))) (fun b3 => St ⟨w, Φ, []⟩ Φ1 [.blk b3 36 [.int .i64 0, (.slice none 0 0), (.slice none 0 0), (.slice none 0 0)], .blk b2 36 [.int .i64 h.Hour, hv1, hv2, hv3], .blk b1 31 [.string b.Name, v1, .int .i64 b.Cells, v3, v4, v5, v6, v7, v8, v9, .int .i64 b.Err]]) rfl (e_alloc zero36) ?_
      intro b3
      refine RW.effn (J' := St ⟨w, Φ, []⟩ Φ1 [.blk b3 36 [.int .i64 h.Hour, fv1, fv2, fv3], .blk b2 36 [.int .i64 h.Hour, hv1, hv2, hv3], .blk b1 31 [.string b.Name, v1, .int .i64 b.Cells, v3, v4, v5, v6, v7, v8, v9, .int .i64 b.Err]]) (e_store (v := .agg #[.int .i64 h.Hour, fv1, fv2, fv3]) 0 rfl rfl rfl sz36 rfl (by show List.all [_, fv1, fv2, fv3] _ = true; simp only [List.all_cons, List.all_nil, oneCell_sl kfv1.sl, oneCell_sl kfv2.sl, oneCell_sl kfv3.sl]; rfl) rfl rfl rfl) ?_
      refine RW.q (v := fv4) rfl (q_assign rfl) ?_
      refine RW.nil ?_
      refine Post.then_n ?_
      refine AW.seq ?_
      refine AW.region ?_
      refine RW.q (v := (.slice none 0 0)) rfl (q_assign rfl) ?_
      refine RW.nil ?_
      refine Post.then_n ?_
      refine AW.seq ?_
      refine AW.seq ?_
      have hnl := (Fu.refOk_g b h l b.Gauges.length).len
      rw [Fu.refI_end] at hnl
      refine AW.region ?_
      refine RW.q (v := .int .i64 0) rfl (q_assign rfl) ?_
      refine RW.nil ?_
      refine Post.then_n ?_
      refine AW.block ?_
      refine AW.loop (fun s J m => ∃ (k : Nat), ∃ (M : List Bt.Reading), ∃ (kv : Value), s = [(2, lv), (3, .pointer (some (⟨b1, 0, none⟩))), (4, .pointer (some (⟨b2, 0, none⟩))), (7, .bool true), (10, .pointer (some (⟨b3, 0, none⟩))), (11, fv4), (12, kv), (13, .int .i64 (k : Int))] ∧ J = St ⟨w, Φ, []⟩ Φ1 [.row kv 46 4 M.length (flat M), .blk b3 36 [.int .i64 h.Hour, fv1, fv2, fv3], .blk b2 36 [.int .i64 h.Hour, hv1, hv2, hv3], .blk b1 31 [.string b.Name, v1, .int .i64 b.Cells, v3, v4, v5, v6, v7, v8, v9, .int .i64 b.Err]] ∧ m = l.length - k ∧ (k ≤ l.length) ∧ (M = (l.take k).filter (Fu.keptP b h l)) ∧ (IsSl kv M.length) ∧ (M.length ≤ k)) (s0 := _) (J1 := _) (m0 := _) ⟨0, [], _, rfl, rfl, rfl, (by omega), rfl, isSl_nil, (by simp)⟩ ⟨rfl, rfl, rfl, rfl, rfl, rfl, rfl, rfl, trivial⟩ (fun _ h => addNil h) ?_
      rintro _ _ _ _ ⟨k, M, kv, rfl, rfl, rfl, hk, hM, hkv, hMl⟩
      refine AW.seq ?_
      refine AW.seq ?_
      refine AW.region ?_
      refine RW.q (v := .int .i64 (k : Int)) rfl (q_move rfl) ?_
      refine RW.q (v := lv) rfl (q_move rfl) ?_
      refine RW.q (v := .int .i64 ((l.length : Nat) : Int)) rfl (q_len_sl rfl hl.sl Try.underlying37) ?_
      refine RW.q (v := .bool (decide ((k : Int) < ((l.length : Nat) : Int)))) rfl (q_lss rfl rfl) ?_
      refine RW.nil ?_
      refine Post.then_n ?_
      refine AW.cond (b := decide ((k : Int) < ((l.length : Nat) : Int))) rfl (fun hc5 => ?_) (fun hc5 => ?_)
      · simp [-List.getD_eq_getElem?_getD] at hc5
        refine AW.skip ?_
        refine Post.then_n ?_
        refine AW.seq ?_
        refine AW.block ?_
        refine AW.seq ?_
        refine AW.region ?_
        refine RW.q (v := .bool false) rfl (q_assign rfl) ?_
        refine RW.nil ?_
        refine Post.then_n ?_
        refine AW.seq ?_
        refine AW.seq ?_
        refine AW.region ?_
        refine RW.q (v := .int .i64 0) rfl (q_assign rfl) ?_
        refine RW.nil ?_
        refine Post.then_n ?_
        refine AW.block ?_
        refine AW.loop (fun s J m => ∃ (q : Nat), ∃ (bad : Bool), s = [(2, lv), (3, .pointer (some (⟨b1, 0, none⟩))), (4, .pointer (some (⟨b2, 0, none⟩))), (7, .bool true), (10, .pointer (some (⟨b3, 0, none⟩))), (11, fv4), (12, kv), (13, .int .i64 (k : Int)), (14, .bool bad), (15, .int .i64 (q : Int))] ∧ J = St ⟨w, Φ, []⟩ Φ1 [.row kv 46 4 M.length (flat M), .blk b3 36 [.int .i64 h.Hour, fv1, fv2, fv3], .blk b2 36 [.int .i64 h.Hour, hv1, hv2, hv3], .blk b1 31 [.string b.Name, v1, .int .i64 b.Cells, v3, v4, v5, v6, v7, v8, v9, .int .i64 b.Err]] ∧ m = (Fu.comp (Fu.fuse b h l).N).length - q ∧ (q ≤ (Fu.comp (Fu.fuse b h l).N).length) ∧ (bad = decide ((l.getD k default).Gauge ∈ (Fu.comp (Fu.fuse b h l).N).take q))) (s0 := _) (J1 := _) (m0 := _) ⟨0, false, rfl, rfl, rfl, (by omega), (by simp)⟩ ⟨rfl, rfl, rfl, rfl, rfl, rfl, rfl, rfl, rfl, rfl, trivial⟩ (fun _ h => h) ?_
        rintro _ _ _ _ ⟨q, bad, rfl, rfl, rfl, hq, hbad⟩
        refine AW.seq ?_
        refine AW.seq ?_
        refine AW.region ?_
        refine RW.q (v := .int .i64 (q : Int)) rfl (q_move rfl) ?_
        refine RW.q (v := fv4) rfl (q_move rfl) ?_
        refine RW.q (v := .int .i64 (((Fu.comp (Fu.fuse b h l).N).length : Nat) : Int)) rfl (q_len_sl rfl kfv4.sl Try.underlying29) ?_
        refine RW.q (v := .bool (decide ((q : Int) < (((Fu.comp (Fu.fuse b h l).N).length : Nat) : Int)))) rfl (q_lss rfl rfl) ?_
        refine RW.nil ?_
        refine Post.then_n ?_
        refine AW.cond (b := decide ((q : Int) < (((Fu.comp (Fu.fuse b h l).N).length : Nat) : Int))) rfl (fun hc6 => ?_) (fun hc6 => ?_)
        · simp [-List.getD_eq_getElem?_getD] at hc6
          refine AW.skip ?_
          refine Post.then_n ?_
          refine AW.seq ?_
          refine AW.block ?_
          refine AW.draw (J0 := St ⟨w, Φ, []⟩ Φ1 [.row kv 46 4 M.length (flat M), .blk b3 36 [.int .i64 h.Hour, fv1, fv2, fv3], .blk b2 36 [.int .i64 h.Hour, hv1, hv2, hv3], .blk b1 31 [.string b.Name, v1, .int .i64 b.Cells, v3, v4, v5, v6, v7, v8, v9, .int .i64 b.Err]]) [.q, .q, .q, .q, .q, .q, .q, .q, .q, .q, .q, .q, .q, .q] [0, 1, 2, 3, 4, 5, 6, 7, 8, 9, 10, 11, 12, 13] hmix (by kernel_rfl) ?_
          refine DW.q (v := .bool bad) (fun _ h => h) rfl (q_move rfl) ?_
          refine DW.q (v := .bool bad) (fun _ h => h) rfl (q_move rfl) ?_
          refine DW.g (b := bad) (v := fv4) (fun _ h => h) rfl rfl rfl (fun h => q_move rfl) ?_
          refine DW.g (b := bad) (v := .int .i64 (q : Int)) (fun _ h => h) rfl rfl rfl (fun h => q_move rfl) ?_
          refine DW.g (b := bad) (v := .pointer (some (Value.at fv4 (q * 1)))) (fun _ h => h) rfl rfl rfl (fun h => q_indexAddr (gv_pos h) (gv_pos h) kfv4.sl Try.underlying29 sz3 (by (try simp [-List.getD_eq_getElem?_getD] at h); omega) (by (try simp [-List.getD_eq_getElem?_getD] at h); omega) rfl) ?_
          refine DW.g (b := bad) (v := .int .i64 ((Fu.comp (Fu.fuse b h l).N).getD q 0)) (fun _ h => h) rfl rfl rfl (fun h => q_load (gv_pos h) Try.underlying3 rfl (Cell.repInt kfv4 (by (try simp [-List.getD_eq_getElem?_getD] at h); omega))) ?_
          refine DW.g (b := bad) (v := lv) (fun _ h => h) rfl rfl rfl (fun h => q_move rfl) ?_
          refine DW.g (b := bad) (v := .int .i64 (k : Int)) (fun _ h => h) rfl rfl rfl (fun h => q_move rfl) ?_
          refine DW.g (b := bad) (v := .pointer (some (Value.at lv (k * 4)))) (fun _ h => h) rfl rfl rfl (fun h => q_indexAddr (gv_pos h) (gv_pos h) hl.sl Try.underlying37 sz46 (by (try simp [-List.getD_eq_getElem?_getD] at h); omega) (by (try simp [-List.getD_eq_getElem?_getD] at h); omega) rfl) ?_
          refine DW.g (b := bad) (v := .pointer (some (Value.at lv (k * 4 + 0)))) (fun _ h => h) rfl rfl rfl (fun h => q_fieldAddr (gv_pos h) Try.underlying46 rfl sz3 at_add) ?_
          refine DW.g (b := bad) (v := .int .i64 ((l.getD k default).Gauge)) (fun _ h => h) rfl rfl rfl (fun h => q_load (gv_pos h) Try.underlying3 rfl (Cell.repE (j := 0) hl (by (try simp [-List.getD_eq_getElem?_getD] at h); omega) rfl)) ?_
          refine DW.g (b := bad) (v := .bool (decide ((Fu.comp (Fu.fuse b h l).N).getD q 0 = (l.getD k default).Gauge))) (fun _ h => h) rfl rfl rfl (fun h => q_eql (gv_pos h) (gv_pos h)) ?_
          refine DW.q (v := .bool (bad || (decide ((Fu.comp (Fu.fuse b h l).N).getD q 0 = (l.getD k default).Gauge)))) (fun _ h => h) rfl (q_pick rfl (fun hp => pkOrT hp) (fun hp => (gv_pos hp).trans (pkOrF hp))) ?_
          refine DW.q (v := .bool (bad || (decide ((Fu.comp (Fu.fuse b h l).N).getD q 0 = (l.getD k default).Gauge)))) (fun _ h => h) rfl (q_assign rfl) ?_
          refine DW.nil ?_
          refine Post.blk_n (Post.then_n ?_)
          refine AW.region ?_
          refine RW.q (v := .int .i64 (q : Int)) rfl (q_move rfl) ?_
          refine RW.q (v := .int .i64 ((q + 1 : Nat) : Int)) rfl (q_add rfl rfl (by omega) (by unfold I64; omega)) ?_
          refine RW.q (v := .int .i64 ((q + 1 : Nat) : Int)) rfl (q_assign rfl) ?_
          refine RW.nil ?_
          exact Post.back (s' := _) (J' := _) (m' := _) (by omega) ⟨q + 1, bad || (decide ((Fu.comp (Fu.fuse b h l).N).getD q 0 = (l.getD k default).Gauge)), rfl, rfl, rfl, (by omega), (by rw [hbad, Fu.take_snocI (by omega)]; simp [-List.getD_eq_getElem?_getD, eq_comm])⟩ ⟨rfl, rfl, rfl, rfl, rfl, rfl, rfl, rfl, rfl, rfl, trivial⟩ (fun _ h => h)
        · simp [-List.getD_eq_getElem?_getD] at hc6
          refine AW.exit ?_
          refine Post.then_x (Post.then_x (Post.blk_hit (Post.then_n ?_)))
          refine AW.seq ?_
          refine AW.seq ?_
          have hbe : bad = decide ((l.getD k default).Gauge ∈ Fu.comp (Fu.fuse b h l).N) := by rw [hbad, List.take_of_length_le (by omega)]
          have hkl : k < l.length := by omega
          have hmk := Fu.getD_mem hkl
          have hbh : bad = true → (l.getD k default).Hour = h.Hour := fun h9 => Fu.named_hour hD hmk (of_decide_eq_true (hbe ▸ h9))
          have hon : ((l.take (k + 1)).drop k) = [(l.getD k default)] := by rw [List.take_succ_eq_append_getElem hkl, List.drop_append_of_le_length (by rw [List.length_take]; omega), List.drop_of_length_le (by rw [List.length_take]; omega), List.getD_eq_getElem?_getD, List.getElem?_eq_getElem hkl]; rfl
          have hag : bad = false → (Fu.fuse b (Fu.hullOf h (Fu.fuse b h l)) ((l.take (k + 1)).drop k)) = ⟨(Fu.fuse b h l).V, (Fu.fuse b h l).K, []⟩ := fun h9 => by rw [hon]; exact Fu.fuse_again hD hmk (fun h8 => by rw [hbe, decide_eq_true (show (l.getD k default).Gauge ∈ Fu.comp (Fu.fuse b h l).N from h8)] at h9; cases h9)
          have hag2 : bad = false → (Fu.comp (Fu.fuse b (Fu.hullOf h (Fu.fuse b h l)) ((l.take (k + 1)).drop k)).N).length = 0 := fun h9 => by rw [hag h9]; rfl
          have hag3 : bad = false → Fu.sameH (Fu.hullOf (Fu.hullOf h (Fu.fuse b h l)) (Fu.fuse b (Fu.hullOf h (Fu.fuse b h l)) ((l.take (k + 1)).drop k))) (Fu.hullOf h (Fu.fuse b h l)) := fun h9 => by rw [hag h9]; exact ⟨rfl, rfl, rfl, rfl⟩
          have hfl1 := (Fu.refOk_g b h l b.Gauges.length).vl
          have hfl2 := (Fu.refOk_g b h l b.Gauges.length).kl
          rw [Fu.refI_end] at hfl1 hfl2
          have hkn : Fu.keptP b h l (l.getD k default) = (!bad && decide ((l.getD k default).Hour = h.Hour)) := by unfold Fu.keptP Fu.named; rw [hbe]; simp
          have hks : (l.take (k + 1)).filter (Fu.keptP b h l) = (l.take k).filter (Fu.keptP b h l) ++ (if Fu.keptP b h l (l.getD k default) then [(l.getD k default)] else []) := by rw [List.take_succ_eq_append_getElem hkl, List.filter_append, List.getD_eq_getElem?_getD, List.getElem?_eq_getElem hkl]; simp only [Option.getD_some, List.filter_cons, List.filter_nil]
          refine AW.draw (J0 := St ⟨w, Φ, []⟩ Φ1 [.row kv 46 4 M.length (flat M), .blk b3 36 [.int .i64 h.Hour, fv1, fv2, fv3], .blk b2 36 [.int .i64 h.Hour, hv1, hv2, hv3], .blk b1 31 [.string b.Name, v1, .int .i64 b.Cells, v3, v4, v5, v6, v7, v8, v9, .int .i64 b.Err]]) [.q, .q, .q, .q, .q, .q, .q, .q, .q, .q, .q] [0, 1, 2, 3, 4, 5, 6, 7, 8, 9, 10] hmix (by kernel_rfl) ?_
          refine DW.q (v := .bool bad) (fun _ h => h) rfl (q_move rfl) ?_
          refine DW.q (v := .bool bad) (fun _ h => h) rfl (q_move rfl) ?_
          refine DW.g (b := bad) (v := lv) (fun _ h => h) rfl rfl rfl (fun h => q_move rfl) ?_
          refine DW.g (b := bad) (v := .int .i64 (k : Int)) (fun _ h => h) rfl rfl rfl (fun h => q_move rfl) ?_
          refine DW.g (b := bad) (v := .pointer (some (Value.at lv (k * 4)))) (fun _ h => h) rfl rfl rfl (fun h => q_indexAddr (gv_pos h) (gv_pos h) hl.sl Try.underlying37 sz46 (by (try simp [-List.getD_eq_getElem?_getD] at h); omega) (by (try simp [-List.getD_eq_getElem?_getD] at h); omega) rfl) ?_
          refine DW.g (b := bad) (v := .pointer (some (Value.at lv (k * 4 + 1)))) (fun _ h => h) rfl rfl rfl (fun h => q_fieldAddr (gv_pos h) Try.underlying46 rfl sz3 at_add) ?_
          refine DW.g (b := bad) (v := .int .i64 ((l.getD k default).Hour)) (fun _ h => h) rfl rfl rfl (fun h => q_load (gv_pos h) Try.underlying3 rfl (Cell.repE (j := 1) hl (by (try simp [-List.getD_eq_getElem?_getD] at h); omega) rfl)) ?_
          refine DW.g (b := bad) (v := .pointer (some (⟨b2, 0, none⟩))) (fun _ h => h) rfl rfl rfl (fun h => q_fieldAddr rfl Try.underlying36 rfl sz3 rfl) ?_
          refine DW.g (b := bad) (v := .int .i64 h.Hour) (fun _ h => h) rfl rfl rfl (fun h => q_load (gv_pos h) Try.underlying3 rfl (Cell.blk 2 rfl rfl)) ?_
          refine DW.g (b := bad) (v := .bool (!decide ((l.getD k default).Hour = h.Hour))) (fun _ h => h) rfl rfl rfl (fun h => q_neq (gv_pos h) (gv_pos h)) ?_
          refine DW.q (v := .bool false) (fun _ h => h) rfl (q_as (v := .bool (bad && (!decide ((l.getD k default).Hour = h.Hour)))) (q_pick rfl (fun hp => (gv_pos hp).trans (pkAndT hp)) (fun hp => pkAndF hp)) (congrArg Value.bool (by cases hbd : bad <;> simp_all))) ?_
          refine DW.nil ?_
          refine Post.then_n ?_
          refine AW.cond (b := false) rfl (fun hc7 => ?_) (fun hc7 => ?_)
          · cases hc7
          · skip
            refine AW.skip ?_
            refine Post.then_n ?_
            refine AW.seq ?_
            refine AW.seq ?_
            refine AW.draw (J0 := St ⟨w, Φ, []⟩ Φ1 [.row kv 46 4 M.length (flat M), .blk b3 36 [.int .i64 h.Hour, fv1, fv2, fv3], .blk b2 36 [.int .i64 h.Hour, hv1, hv2, hv3], .blk b1 31 [.string b.Name, v1, .int .i64 b.Cells, v3, v4, v5, v6, v7, v8, v9, .int .i64 b.Err]]) [.q, .q, .q, .q, .q, .q, .q, .q, .q, .q, .q, .q] [0, 1, 2, 3, 4, 5, 6, 7, 8, 9, 10, 11] hmix (by kernel_rfl) ?_
            refine DW.q (v := .bool bad) (fun _ h => h) rfl (q_move rfl) ?_
            refine DW.q (v := .bool !bad) (fun _ h => h) rfl (q_not rfl) ?_
            refine DW.q (v := .bool !bad) (fun _ h => h) rfl (q_move rfl) ?_
            refine DW.g (b := !bad) (v := lv) (fun _ h => h) rfl rfl rfl (fun h => q_move rfl) ?_
            refine DW.g (b := !bad) (v := .int .i64 (k : Int)) (fun _ h => h) rfl rfl rfl (fun h => q_move rfl) ?_
            refine DW.g (b := !bad) (v := .pointer (some (Value.at lv (k * 4)))) (fun _ h => h) rfl rfl rfl (fun h => q_indexAddr (gv_pos h) (gv_pos h) hl.sl Try.underlying37 sz46 (by (try simp [-List.getD_eq_getElem?_getD] at h); omega) (by (try simp [-List.getD_eq_getElem?_getD] at h); omega) rfl) ?_
            refine DW.g (b := !bad) (v := .pointer (some (Value.at lv (k * 4 + 1)))) (fun _ h => h) rfl rfl rfl (fun h => q_fieldAddr (gv_pos h) Try.underlying46 rfl sz3 at_add) ?_
            refine DW.g (b := !bad) (v := .int .i64 ((l.getD k default).Hour)) (fun _ h => h) rfl rfl rfl (fun h => q_load (gv_pos h) Try.underlying3 rfl (Cell.repE (j := 1) hl (by (try simp [-List.getD_eq_getElem?_getD] at h); omega) rfl)) ?_
            refine DW.g (b := !bad) (v := .pointer (some (⟨b2, 0, none⟩))) (fun _ h => h) rfl rfl rfl (fun h => q_fieldAddr rfl Try.underlying36 rfl sz3 rfl) ?_
            refine DW.g (b := !bad) (v := .int .i64 h.Hour) (fun _ h => h) rfl rfl rfl (fun h => q_load (gv_pos h) Try.underlying3 rfl (Cell.blk 2 rfl rfl)) ?_
            refine DW.g (b := !bad) (v := .bool (decide ((l.getD k default).Hour = h.Hour))) (fun _ h => h) rfl rfl rfl (fun h => q_eql (gv_pos h) (gv_pos h)) ?_
            refine DW.q (v := .bool (!bad && (decide ((l.getD k default).Hour = h.Hour)))) (fun _ h => h) rfl (q_pick rfl (fun hp => (gv_pos hp).trans (pkAndT hp)) (fun hp => pkAndF hp)) ?_
            refine DW.nil ?_
            refine Post.then_n ?_
            refine AW.cond (b := !bad && (decide ((l.getD k default).Hour = h.Hour))) rfl (fun hc8 => ?_) (fun hc8 => ?_)
            · simp [-List.getD_eq_getElem?_getD] at hc8
              refine AW.region ?_
              refine RW.q (v := kv) rfl (q_move rfl) ?_
              refine RW.q (v := lv) rfl (q_move rfl) ?_
              refine RW.q (v := .int .i64 (k : Int)) rfl (q_move rfl) ?_
              refine RW.q (v := .pointer (some (Value.at lv (k * 4)))) rfl (q_indexAddr rfl rfl hl.sl Try.underlying37 sz46 (by omega) (by omega) rfl) ?_
              refine RW.q (v := .agg #[.int .i64 ((l.getD k default).Gauge), .int .i64 ((l.getD k default).Hour), .int .i64 ((l.getD k default).Value.Lo), .int .i64 ((l.getD k default).Value.Hi)]) rfl (q_loadAgg rfl Try.underlying46 rfl sz46 rfl (Cells.repE hl (by omega) rfl)) ?_
              refine RW.eff (fun b4 : Nat => (.slice (some ⟨b4, 0, none⟩) 1 1)) (fun b4 => St ⟨w, Φ, []⟩ Φ1 [.row (.slice (some ⟨b4, 0, none⟩) 1 1) 46 4 1 ([.int .i64 ((l.getD k default).Gauge), .int .i64 ((l.getD k default).Hour), .int .i64 ((l.getD k default).Value.Lo), .int .i64 ((l.getD k default).Value.Hi)]), .row kv 46 4 M.length (flat M), .blk b3 36 [.int .i64 h.Hour, fv1, fv2, fv3], .blk b2 36 [.int .i64 h.Hour, hv1, hv2, hv3], .blk b1 31 [.string b.Name, v1, .int .i64 b.Cells, v3, v4, v5, v6, v7, v8, v9, .int .i64 b.Err]]) rfl (e_buildSlice (vals := [(0, .agg #[.int .i64 ((l.getD k default).Gauge), .int .i64 ((l.getD k default).Hour), .int .i64 ((l.getD k default).Value.Lo), .int .i64 ((l.getD k default).Value.Hi)])]) (cells := [.int .i64 ((l.getD k default).Gauge), .int .i64 ((l.getD k default).Hour), .int .i64 ((l.getD k default).Value.Lo), .int .i64 ((l.getD k default).Value.Hi)]) Try.underlying37 inf46 rfl rfl rfl (by kernel_rfl) rfl) ?_
              intro b4
              refine RW.eff (fun xv : {vq : Value // IsSl vq (M.length + 1)} => xv.1) (fun xv => St ⟨w, Φ, []⟩ Φ1 [.row (.slice (some ⟨b4, 0, none⟩) 1 1) 46 4 1 ([.int .i64 ((l.getD k default).Gauge), .int .i64 ((l.getD k default).Hour), .int .i64 ((l.getD k default).Value.Lo), .int .i64 ((l.getD k default).Value.Hi)]), .row xv.1 46 4 ((M ++ [(l.getD k default)]).length) (flat (M ++ [(l.getD k default)])), .blk b3 36 [.int .i64 h.Hour, fv1, fv2, fv3], .blk b2 36 [.int .i64 h.Hour, hv1, hv2, hv3], .blk b1 31 [.string b.Name, v1, .int .i64 b.Cells, v3, v4, v5, v6, v7, v8, v9, .int .i64 b.Err]]) rfl (e_append 1 rfl rfl rfl Try.underlying37 inf46 rfl rfl rfl (Cells.row0 0 rfl) rfl (by first | omega | (simp; omega)) (by first | omega | (simp; omega)) (fun _ => by simp [flat] <;> rfl)) ?_
              rintro ⟨va1, hva1⟩
              refine RW.wk (J' := St ⟨w, Φ, []⟩ Φ1 [.row va1 46 4 ((M ++ [(l.getD k default)]).length) (flat (M ++ [(l.getD k default)])), .blk b3 36 [.int .i64 h.Hour, fv1, fv2, fv3], .blk b2 36 [.int .i64 h.Hour, hv1, hv2, hv3], .blk b1 31 [.string b.Name, v1, .int .i64 b.Cells, v3, v4, v5, v6, v7, v8, v9, .int .i64 b.Err]]) (fun _ h => StP.drop h (by exact .cons _ (.cons_cons _ (.cons_cons _ (.cons_cons _ (.cons_cons _ (.slnil))))))) ?_
              refine RW.q (v := va1) rfl (q_assign rfl) ?_
              refine RW.nil ?_
              refine Post.then_n ?_
              refine AW.seq ?_
              have hB_0 := hB
              have r3_0 := r3
              have r6_0 := r6
              have hH_0 := hH
              have hr1_0 := hr1
              have hr2_0 := hr2
              have hr3_0 := hr3
              have hl_0 := hl
              have kfv1_0 := kfv1
              have kfv2_0 := kfv2
              have kfv3_0 := kfv3
              have kfv4_0 := kfv4
              have Hfv1_0 := Hfv1
              refine AW.drawT (J0 := St ⟨w, Φ, []⟩ Φ1 [.row va1 46 4 ((M ++ [(l.getD k default)]).length) (flat (M ++ [(l.getD k default)])), .blk b3 36 [.int .i64 h.Hour, fv1, fv2, fv3], .blk b2 36 [.int .i64 h.Hour, hv1, hv2, hv3], .blk b1 31 [.string b.Name, v1, .int .i64 b.Cells, v3, v4, v5, v6, v7, v8, v9, .int .i64 b.Err]]) (fun s J => ∃ (fv5 : Value), ∃ (fv6 : Value), ∃ (fv7 : Value), ∃ (fv8 : Value), ∃ (Φ2 : Hp), ∃ (b5 : Nat), s = [(2, lv), (3, .pointer (some (⟨b1, 0, none⟩))), (4, .pointer (some (⟨b2, 0, none⟩))), (7, .bool true), (10, .pointer (some (⟨b3, 0, none⟩))), (11, fv4), (12, va1), (13, .int .i64 (k : Int)), (14, .bool bad), (15, .int .i64 (q : Int)), (68, .int .i64 (q : Int)), (69, fv4), (70, .int .i64 (((Fu.comp (Fu.fuse b h l).N).length : Nat) : Int)), (71, .bool (decide ((q : Int) < (((Fu.comp (Fu.fuse b h l).N).length : Nat) : Int)))), (87, .bool bad), (88, .bool bad), (97, .bool false), (98, .bool bad), (99, .bool !bad), (100, .bool !bad), (109, .bool (!bad && (decide ((l.getD k default).Hour = h.Hour)))), (110, kv), (111, lv), (112, .int .i64 (k : Int)), (113, .pointer (some (Value.at lv (k * 4)))), (114, .agg #[.int .i64 ((l.getD k default).Gauge), .int .i64 ((l.getD k default).Hour), .int .i64 ((l.getD k default).Value.Lo), .int .i64 ((l.getD k default).Value.Hi)]), (115, (.slice (some ⟨b4, 0, none⟩) 1 1)), (116, va1), (118, .agg #[.string b.Name, v1, .int .i64 b.Cells, v3, v4, v5, v6, v7, v8, v9, .int .i64 b.Err]), (119, .agg #[.int .i64 h.Hour, fv1, fv2, fv3]), (120, lv), (121, .int .i64 (k : Int)), (122, .int .i64 (k : Int)), (123, .int .i64 ((k + 1 : Nat) : Int)), (124, (subSl lv k (k + 1) 4)), (125, .tuple #[.agg #[.int .i64 ((Fu.hullOf h (Fu.fuse b h l)).Hour), fv5, fv6, fv7], fv8]), (117, .tuple #[.agg #[.int .i64 ((Fu.hullOf h (Fu.fuse b h l)).Hour), fv5, fv6, fv7], fv8]), (126, .agg #[.int .i64 ((Fu.hullOf h (Fu.fuse b h l)).Hour), fv5, fv6, fv7]), (127, fv8), (16, .pointer (some (⟨b5, 0, none⟩))), (17, fv8)] ∧ J = St ⟨w, Φ, []⟩ Φ2 [.blk b5 36 [.int .i64 ((Fu.hullOf h (Fu.fuse b h l)).Hour), fv5, fv6, fv7], .row va1 46 4 ((M ++ [(l.getD k default)]).length) (flat (M ++ [(l.getD k default)])), .blk b3 36 [.int .i64 h.Hour, fv1, fv2, fv3], .blk b2 36 [.int .i64 h.Hour, hv1, hv2, hv3], .blk b1 31 [.string b.Name, v1, .int .i64 b.Cells, v3, v4, v5, v6, v7, v8, v9, .int .i64 b.Err]] ∧ (RepSl Φ2 (Fu.fuse b (Fu.hullOf h (Fu.fuse b h l)) ((l.take (k + 1)).drop k)).V fv5) ∧ (RepSl Φ2 (Fu.hullOf h (Fu.fuse b h l)).Queue fv6) ∧ (RepSl Φ2 (Fu.fuse b (Fu.hullOf h (Fu.fuse b h l)) ((l.take (k + 1)).drop k)).K fv7) ∧ (RepSl Φ2 (Fu.comp (Fu.fuse b (Fu.hullOf h (Fu.fuse b h l)) ((l.take (k + 1)).drop k)).N) fv8) ∧ (RepV Φ2 (Fu.hullOf (Fu.hullOf h (Fu.fuse b h l)) (Fu.fuse b (Fu.hullOf h (Fu.fuse b h l)) ((l.take (k + 1)).drop k))) [.int .i64 (Fu.hullOf h (Fu.fuse b h l)).Hour, fv5, fv6, fv7]) ∧ (Hp.le Φ1 Φ2)) (.q 0 (.q 1 (.q 2 (.q 3 (.q 4 (.q 5 (.q 6 (.f 7 11 (.q 8 (.q 9 (.q 10 (.e 11 (.e 12 (.q 13 .nil)))))) (.e 7 (.q 8 (.q 9 (.q 10 (.e 12 (.q 13 .nil)))))))))))))) hmix (by kernel_rfl) ?_ ?_
              · skip
                refine DT.q (v := .agg #[.string b.Name, v1, .int .i64 b.Cells, v3, v4, v5, v6, v7, v8, v9, .int .i64 b.Err]) (fun _ h => h) rfl (q_loadAgg rfl Try.underlying31 rfl sz31 rfl (Cells.blk 3 rfl)) ?_
                refine DT.q (v := .agg #[.int .i64 h.Hour, fv1, fv2, fv3]) (fun _ h => h) rfl (q_loadAgg rfl Try.underlying36 rfl sz36 rfl (Cells.blk 1 rfl)) ?_
                refine DT.q (v := lv) (fun _ h => h) rfl (q_move rfl) ?_
                refine DT.q (v := .int .i64 (k : Int)) (fun _ h => h) rfl (q_move rfl) ?_
                refine DT.q (v := .int .i64 (k : Int)) (fun _ h => h) rfl (q_move rfl) ?_
                refine DT.q (v := .int .i64 ((k + 1 : Nat) : Int)) (fun _ h => h) rfl (q_add rfl rfl (by omega) (by unfold I64; omega)) ?_
                refine DT.q (v := (subSl lv k (k + 1) 4)) (fun _ h => h) rfl (q_sliceLH (v := lv) (l := (k : Int)) (m := ((k + 1 : Nat) : Int)) rfl rfl rfl hl.sl Try.underlying37 sz46 (by omega) (by omega) (by omega)) ?_
                refine DT.fork (fun x : {z : (Value × Value × Value × Value) × Hp // (fun (y : Value × Value × Value × Value) (Ψ : Hp) => (RepSl Ψ (Fu.fuse b (Fu.hullOf h (Fu.fuse b h l)) ((l.take (k + 1)).drop k)).V y.1) ∧ (RepSl Ψ (Fu.hullOf h (Fu.fuse b h l)).Queue y.2.1) ∧ (RepSl Ψ (Fu.fuse b (Fu.hullOf h (Fu.fuse b h l)) ((l.take (k + 1)).drop k)).K y.2.2.1) ∧ (RepSl Ψ (Fu.comp (Fu.fuse b (Fu.hullOf h (Fu.fuse b h l)) ((l.take (k + 1)).drop k)).N) y.2.2.2) ∧ (RepV Ψ (Fu.hullOf (Fu.hullOf h (Fu.fuse b h l)) (Fu.fuse b (Fu.hullOf h (Fu.fuse b h l)) ((l.take (k + 1)).drop k))) [.int .i64 (Fu.hullOf h (Fu.fuse b h l)).Hour, y.1, y.2.1, y.2.2.1])) z.1 z.2 ∧ Hp.le Φ1 z.2} => .tuple #[.agg #[.int .i64 ((Fu.hullOf h (Fu.fuse b h l)).Hour), x.1.1.1, x.1.1.2.1, x.1.1.2.2.1], x.1.1.2.2.2]) (fun b5 : Nat => .pointer (some (⟨b5, 0, none⟩))) (fun x => St ⟨w, Φ, []⟩ x.1.2 [.row va1 46 4 ((M ++ [(l.getD k default)]).length) (flat (M ++ [(l.getD k default)])), .blk b3 36 [.int .i64 h.Hour, fv1, fv2, fv3], .blk b2 36 [.int .i64 h.Hour, hv1, hv2, hv3], .blk b1 31 [.string b.Name, v1, .int .i64 b.Cells, v3, v4, v5, v6, v7, v8, v9, .int .i64 b.Err]]) (fun b5 => St ⟨w, Φ, []⟩ Φ1 [.blk b5 36 [.int .i64 0, (.slice none 0 0), (.slice none 0 0), (.slice none 0 0)], .row va1 46 4 ((M ++ [(l.getD k default)]).length) (flat (M ++ [(l.getD k default)])), .blk b3 36 [.int .i64 h.Hour, fv1, fv2, fv3], .blk b2 36 [.int .i64 h.Hour, hv1, hv2, hv3], .blk b1 31 [.string b.Name, v1, .int .i64 b.Cells, v3, v4, v5, v6, v7, v8, v9, .int .i64 b.Err]]) rfl rfl trivial trivial (fun x => (fun _ h => StP.know x.2.2 h)) (fun _ => (fun _ h => (StP.drop h (by exact .cons _ (.cons_cons _ (.cons_cons _ (.cons_cons _ (.cons_cons _ (.slnil))))))))) (e_callX (fun (y : Value × Value × Value × Value) => .tuple #[.agg #[.int .i64 ((Fu.hullOf h (Fu.fuse b h l)).Hour), y.1, y.2.1, y.2.2.1], y.2.2.2]) (fun (y : Value × Value × Value × Value) (Ψ : Hp) => (RepSl Ψ (Fu.fuse b (Fu.hullOf h (Fu.fuse b h l)) ((l.take (k + 1)).drop k)).V y.1) ∧ (RepSl Ψ (Fu.hullOf h (Fu.fuse b h l)).Queue y.2.1) ∧ (RepSl Ψ (Fu.fuse b (Fu.hullOf h (Fu.fuse b h l)) ((l.take (k + 1)).drop k)).K y.2.2.1) ∧ (RepSl Ψ (Fu.comp (Fu.fuse b (Fu.hullOf h (Fu.fuse b h l)) ((l.take (k + 1)).drop k)).N) y.2.2.2) ∧ (RepV Ψ (Fu.hullOf (Fu.hullOf h (Fu.fuse b h l)) (Fu.fuse b (Fu.hullOf h (Fu.fuse b h l)) ((l.take (k + 1)).drop k))) [.int .i64 (Fu.hullOf h (Fu.fuse b h l)).Hour, y.1, y.2.1, y.2.2.1])) (args := #[.agg #[.string b.Name, v1, .int .i64 b.Cells, v3, v4, v5, v6, v7, v8, v9, .int .i64 b.Err], .agg #[.int .i64 h.Hour, fv1, fv2, fv3], (subSl lv k (k + 1) 4)]) own12 rfl rfl (fun w1 hw1 => ((((Fuse_c w1 (Go.K.hp w1) (Hp.le_refl _) (hB.mono hw1.phi) (Hfv1.mono hw1.phi) ((hl.part (l := k) (m := k + 1) (by omega) (by omega)).mono hw1.phi) (by rw [hon]; simp) (by show (Fu.fuse b h l).V.length ≤ 1000; omega) (by show h.Queue.length ≤ 1000; omega) (by show (Fu.fuse b h l).K.length ≤ 1000; omega)).mono fun _ _ => retS_up (fun _ _ _ hl ⟨a, b, c, d, e, h1, h2, h3, h4⟩ => ⟨a, b, c, d, e, h1.mono hl, h2.mono hl, h3.mono hl, h4.mono hl⟩))).mono fun e w2 hr => by obtain ⟨v9, he9, hb9, u1, u2, u3, u4, hr9, q1, q2, q3, q4⟩ := hr; exact (show RetS _ _ (fun r Ψ => ∃ u1 u2 u3 u4 : Value, r = .tuple #[.agg #[.int .i64 (Fu.hullOf h (Fu.fuse b h l)).Hour, u1, u2, u3], u4] ∧ RepSl Ψ (Fu.fuse b (Fu.hullOf h (Fu.fuse b h l)) ((l.take (k + 1)).drop k)).V u1 ∧ RepSl Ψ (Fu.hullOf h (Fu.fuse b h l)).Queue u2 ∧ RepSl Ψ (Fu.fuse b (Fu.hullOf h (Fu.fuse b h l)) ((l.take (k + 1)).drop k)).K u3 ∧ RepSl Ψ (Fu.comp (Fu.fuse b (Fu.hullOf h (Fu.fuse b h l)) ((l.take (k + 1)).drop k)).N) u4 ∧ RepV Ψ (Fu.hullOf (Fu.hullOf h (Fu.fuse b h l)) (Fu.fuse b (Fu.hullOf h (Fu.fuse b h l)) ((l.take (k + 1)).drop k))) [.int .i64 (Fu.hullOf h (Fu.fuse b h l)).Hour, u1, u2, u3]) _ _ from ⟨v9, he9, hb9, u1, u2, u3, u4, hr9, q1, q2, q3, q4, ⟨_, _, _, rfl, (show I64 (Fu.hullOf h (Fu.fuse b h l)).Hour from hourOf Hfv1), q1, q2, q3⟩⟩)).mono fun e w2 hr => by obtain ⟨v9, he9, hb9, u1, u2, u3, u4, hr9, q1, q2, q3, q4, q5⟩ := hr; exact ⟨v9, he9, hb9, (u1, u2, u3, u4), hr9, q1, q2, q3, q4, q5⟩)) (e_alloc zero36) ?_ ?_
                · skip
                  rintro ⟨⟨⟨fv5, fv6, fv7, fv8⟩, Φ2⟩, ⟨kfv5, kfv6, kfv7, kfv8, Hfv5⟩, hlΦ2⟩
                  replace kfv5 : RepSl Φ2 (Fu.fuse b (Fu.hullOf h (Fu.fuse b h l)) ((l.take (k + 1)).drop k)).V fv5 := kfv5
                  replace kfv6 : RepSl Φ2 (Fu.hullOf h (Fu.fuse b h l)).Queue fv6 := kfv6
                  replace kfv7 : RepSl Φ2 (Fu.fuse b (Fu.hullOf h (Fu.fuse b h l)) ((l.take (k + 1)).drop k)).K fv7 := kfv7
                  replace kfv8 : RepSl Φ2 (Fu.comp (Fu.fuse b (Fu.hullOf h (Fu.fuse b h l)) ((l.take (k + 1)).drop k)).N) fv8 := kfv8
                  replace Hfv5 : RepV Φ2 (Fu.hullOf (Fu.hullOf h (Fu.fuse b h l)) (Fu.fuse b (Fu.hullOf h (Fu.fuse b h l)) ((l.take (k + 1)).drop k))) [.int .i64 (Fu.hullOf h (Fu.fuse b h l)).Hour, fv5, fv6, fv7] := Hfv5
                  replace hlΦ2 : Hp.le Φ1 Φ2 := hlΦ2
                  replace hB := hB.mono hlΦ2
                  replace r3 := r3.mono hlΦ2
                  replace r6 := r6.mono hlΦ2
                  replace hH := hH.mono hlΦ2
                  replace hr1 := hr1.mono hlΦ2
                  replace hr2 := hr2.mono hlΦ2
                  replace hr3 := hr3.mono hlΦ2
                  replace hl := hl.mono hlΦ2
                  replace kfv1 := kfv1.mono hlΦ2
                  replace kfv2 := kfv2.mono hlΦ2
                  replace kfv3 := kfv3.mono hlΦ2
                  replace kfv4 := kfv4.mono hlΦ2
                  replace Hfv1 := Hfv1.mono hlΦ2
                  refine DT.q (v := .tuple #[.agg #[.int .i64 ((Fu.hullOf h (Fu.fuse b h l)).Hour), fv5, fv6, fv7], fv8]) (fun _ h => StP.know hlΦ2 h) rfl (q_move rfl) ?_
                  refine DT.q (v := .agg #[.int .i64 ((Fu.hullOf h (Fu.fuse b h l)).Hour), fv5, fv6, fv7]) (fun _ h => StP.know hlΦ2 h) rfl (q_extract rfl rfl) ?_
                  refine DT.q (v := fv8) (fun _ h => StP.know hlΦ2 h) rfl (q_extract rfl rfl) ?_
                  refine DT.eff (fun b5 : Nat => .pointer (some (⟨b5, 0, none⟩))) (fun b5 => St ⟨w, Φ, []⟩ Φ2 [.blk b5 36 [.int .i64 0, (.slice none 0 0), (.slice none 0 0), (.slice none 0 0)], .row va1 46 4 ((M ++ [(l.getD k default)]).length) (flat (M ++ [(l.getD k default)])), .blk b3 36 [.int .i64 h.Hour, fv1, fv2, fv3], .blk b2 36 [.int .i64 h.Hour, hv1, hv2, hv3], .blk b1 31 [.string b.Name, v1, .int .i64 b.Cells, v3, v4, v5, v6, v7, v8, v9, .int .i64 b.Err]]) (fun _ _ => (fun _ h => StP.know hlΦ2 (StP.drop h (by exact .cons _ (.cons_cons _ (.cons_cons _ (.cons_cons _ (.cons_cons _ (.slnil))))))))) rfl (e_alloc zero36) ?_
                  intro b5
                  refine DT.effn (J' := St ⟨w, Φ, []⟩ Φ2 [.blk b5 36 [.int .i64 ((Fu.hullOf h (Fu.fuse b h l)).Hour), fv5, fv6, fv7], .row va1 46 4 ((M ++ [(l.getD k default)]).length) (flat (M ++ [(l.getD k default)])), .blk b3 36 [.int .i64 h.Hour, fv1, fv2, fv3], .blk b2 36 [.int .i64 h.Hour, hv1, hv2, hv3], .blk b1 31 [.string b.Name, v1, .int .i64 b.Cells, v3, v4, v5, v6, v7, v8, v9, .int .i64 b.Err]]) (fun _ => (fun _ h => StP.know hlΦ2 (StP.drop h (by exact .cons _ (.cons_cons _ (.cons_cons _ (.cons_cons _ (.cons_cons _ (.slnil))))))))) (e_store (v := .agg #[.int .i64 ((Fu.hullOf h (Fu.fuse b h l)).Hour), fv5, fv6, fv7]) 0 rfl rfl rfl sz36 rfl (by show List.all [_, fv5, fv6, fv7] _ = true; simp only [List.all_cons, List.all_nil, oneCell_sl kfv5.sl, oneCell_sl kfv6.sl, oneCell_sl kfv7.sl]; rfl) rfl rfl rfl) ?_
                  refine DT.q (v := fv8) (fun _ h => StP.know hlΦ2 (StP.drop h (by exact .cons _ (.cons_cons _ (.cons_cons _ (.cons_cons _ (.cons_cons _ (.slnil)))))))) rfl (q_assign rfl) ?_
                  refine DT.nil (s' := _) (J' := _) ⟨fv5, fv6, fv7, fv8, Φ2, b5, rfl, rfl, kfv5, kfv6, kfv7, kfv8, Hfv5, hlΦ2⟩ ⟨rfl, rfl, rfl, rfl, rfl, rfl, rfl, rfl, rfl, rfl, rfl, rfl, rfl, rfl, rfl, rfl, rfl, rfl, rfl, rfl, rfl, rfl, rfl, rfl, rfl, rfl, rfl, rfl, rfl, rfl, rfl, rfl, rfl, rfl, rfl, rfl, rfl, rfl, rfl, rfl, rfl, trivial⟩ (fun _ h => h)
                · skip
                  intro b5
                  refine DT.eff (fun x : {z : (Value × Value × Value × Value) × Hp // (fun (y : Value × Value × Value × Value) (Ψ : Hp) => (RepSl Ψ (Fu.fuse b (Fu.hullOf h (Fu.fuse b h l)) ((l.take (k + 1)).drop k)).V y.1) ∧ (RepSl Ψ (Fu.hullOf h (Fu.fuse b h l)).Queue y.2.1) ∧ (RepSl Ψ (Fu.fuse b (Fu.hullOf h (Fu.fuse b h l)) ((l.take (k + 1)).drop k)).K y.2.2.1) ∧ (RepSl Ψ (Fu.comp (Fu.fuse b (Fu.hullOf h (Fu.fuse b h l)) ((l.take (k + 1)).drop k)).N) y.2.2.2) ∧ (RepV Ψ (Fu.hullOf (Fu.hullOf h (Fu.fuse b h l)) (Fu.fuse b (Fu.hullOf h (Fu.fuse b h l)) ((l.take (k + 1)).drop k))) [.int .i64 (Fu.hullOf h (Fu.fuse b h l)).Hour, y.1, y.2.1, y.2.2.1])) z.1 z.2 ∧ Hp.le Φ1 z.2} => .tuple #[.agg #[.int .i64 ((Fu.hullOf h (Fu.fuse b h l)).Hour), x.1.1.1, x.1.1.2.1, x.1.1.2.2.1], x.1.1.2.2.2]) (fun x => St ⟨w, Φ, []⟩ x.1.2 [.blk b5 36 [.int .i64 0, (.slice none 0 0), (.slice none 0 0), (.slice none 0 0)], .row va1 46 4 ((M ++ [(l.getD k default)]).length) (flat (M ++ [(l.getD k default)])), .blk b3 36 [.int .i64 h.Hour, fv1, fv2, fv3], .blk b2 36 [.int .i64 h.Hour, hv1, hv2, hv3], .blk b1 31 [.string b.Name, v1, .int .i64 b.Cells, v3, v4, v5, v6, v7, v8, v9, .int .i64 b.Err]]) (fun _ x => (fun _ h => StP.know x.2.2 (StP.drop h (by exact .cons _ (.cons_cons _ (.cons_cons _ (.cons_cons _ (.cons_cons _ (.slnil))))))))) rfl (e_callX (fun (y : Value × Value × Value × Value) => .tuple #[.agg #[.int .i64 ((Fu.hullOf h (Fu.fuse b h l)).Hour), y.1, y.2.1, y.2.2.1], y.2.2.2]) (fun (y : Value × Value × Value × Value) (Ψ : Hp) => (RepSl Ψ (Fu.fuse b (Fu.hullOf h (Fu.fuse b h l)) ((l.take (k + 1)).drop k)).V y.1) ∧ (RepSl Ψ (Fu.hullOf h (Fu.fuse b h l)).Queue y.2.1) ∧ (RepSl Ψ (Fu.fuse b (Fu.hullOf h (Fu.fuse b h l)) ((l.take (k + 1)).drop k)).K y.2.2.1) ∧ (RepSl Ψ (Fu.comp (Fu.fuse b (Fu.hullOf h (Fu.fuse b h l)) ((l.take (k + 1)).drop k)).N) y.2.2.2) ∧ (RepV Ψ (Fu.hullOf (Fu.hullOf h (Fu.fuse b h l)) (Fu.fuse b (Fu.hullOf h (Fu.fuse b h l)) ((l.take (k + 1)).drop k))) [.int .i64 (Fu.hullOf h (Fu.fuse b h l)).Hour, y.1, y.2.1, y.2.2.1])) (args := #[.agg #[.string b.Name, v1, .int .i64 b.Cells, v3, v4, v5, v6, v7, v8, v9, .int .i64 b.Err], .agg #[.int .i64 h.Hour, fv1, fv2, fv3], (subSl lv k (k + 1) 4)]) own12 rfl rfl (fun w1 hw1 => ((((Fuse_c w1 (Go.K.hp w1) (Hp.le_refl _) (hB.mono hw1.phi) (Hfv1.mono hw1.phi) ((hl.part (l := k) (m := k + 1) (by omega) (by omega)).mono hw1.phi) (by rw [hon]; simp) (by show (Fu.fuse b h l).V.length ≤ 1000; omega) (by show h.Queue.length ≤ 1000; omega) (by show (Fu.fuse b h l).K.length ≤ 1000; omega)).mono fun _ _ => retS_up (fun _ _ _ hl ⟨a, b, c, d, e, h1, h2, h3, h4⟩ => ⟨a, b, c, d, e, h1.mono hl, h2.mono hl, h3.mono hl, h4.mono hl⟩))).mono fun e w2 hr => by obtain ⟨v9, he9, hb9, u1, u2, u3, u4, hr9, q1, q2, q3, q4⟩ := hr; exact (show RetS _ _ (fun r Ψ => ∃ u1 u2 u3 u4 : Value, r = .tuple #[.agg #[.int .i64 (Fu.hullOf h (Fu.fuse b h l)).Hour, u1, u2, u3], u4] ∧ RepSl Ψ (Fu.fuse b (Fu.hullOf h (Fu.fuse b h l)) ((l.take (k + 1)).drop k)).V u1 ∧ RepSl Ψ (Fu.hullOf h (Fu.fuse b h l)).Queue u2 ∧ RepSl Ψ (Fu.fuse b (Fu.hullOf h (Fu.fuse b h l)) ((l.take (k + 1)).drop k)).K u3 ∧ RepSl Ψ (Fu.comp (Fu.fuse b (Fu.hullOf h (Fu.fuse b h l)) ((l.take (k + 1)).drop k)).N) u4 ∧ RepV Ψ (Fu.hullOf (Fu.hullOf h (Fu.fuse b h l)) (Fu.fuse b (Fu.hullOf h (Fu.fuse b h l)) ((l.take (k + 1)).drop k))) [.int .i64 (Fu.hullOf h (Fu.fuse b h l)).Hour, u1, u2, u3]) _ _ from ⟨v9, he9, hb9, u1, u2, u3, u4, hr9, q1, q2, q3, q4, ⟨_, _, _, rfl, (show I64 (Fu.hullOf h (Fu.fuse b h l)).Hour from hourOf Hfv1), q1, q2, q3⟩⟩)).mono fun e w2 hr => by obtain ⟨v9, he9, hb9, u1, u2, u3, u4, hr9, q1, q2, q3, q4, q5⟩ := hr; exact ⟨v9, he9, hb9, (u1, u2, u3, u4), hr9, q1, q2, q3, q4, q5⟩)) ?_
                  rintro ⟨⟨⟨fv5, fv6, fv7, fv8⟩, Φ2⟩, ⟨kfv5, kfv6, kfv7, kfv8, Hfv5⟩, hlΦ2⟩
                  replace kfv5 : RepSl Φ2 (Fu.fuse b (Fu.hullOf h (Fu.fuse b h l)) ((l.take (k + 1)).drop k)).V fv5 := kfv5
                  replace kfv6 : RepSl Φ2 (Fu.hullOf h (Fu.fuse b h l)).Queue fv6 := kfv6
                  replace kfv7 : RepSl Φ2 (Fu.fuse b (Fu.hullOf h (Fu.fuse b h l)) ((l.take (k + 1)).drop k)).K fv7 := kfv7
                  replace kfv8 : RepSl Φ2 (Fu.comp (Fu.fuse b (Fu.hullOf h (Fu.fuse b h l)) ((l.take (k + 1)).drop k)).N) fv8 := kfv8
                  replace Hfv5 : RepV Φ2 (Fu.hullOf (Fu.hullOf h (Fu.fuse b h l)) (Fu.fuse b (Fu.hullOf h (Fu.fuse b h l)) ((l.take (k + 1)).drop k))) [.int .i64 (Fu.hullOf h (Fu.fuse b h l)).Hour, fv5, fv6, fv7] := Hfv5
                  replace hlΦ2 : Hp.le Φ1 Φ2 := hlΦ2
                  replace hB := hB.mono hlΦ2
                  replace r3 := r3.mono hlΦ2
                  replace r6 := r6.mono hlΦ2
                  replace hH := hH.mono hlΦ2
                  replace hr1 := hr1.mono hlΦ2
                  replace hr2 := hr2.mono hlΦ2
                  replace hr3 := hr3.mono hlΦ2
                  replace hl := hl.mono hlΦ2
                  replace kfv1 := kfv1.mono hlΦ2
                  replace kfv2 := kfv2.mono hlΦ2
                  replace kfv3 := kfv3.mono hlΦ2
                  replace kfv4 := kfv4.mono hlΦ2
                  replace Hfv1 := Hfv1.mono hlΦ2
                  refine DT.q (v := .tuple #[.agg #[.int .i64 ((Fu.hullOf h (Fu.fuse b h l)).Hour), fv5, fv6, fv7], fv8]) (fun _ h => StP.know hlΦ2 (StP.drop h (by exact .cons _ (.cons_cons _ (.cons_cons _ (.cons_cons _ (.cons_cons _ (.slnil)))))))) rfl (q_move rfl) ?_
                  refine DT.q (v := .agg #[.int .i64 ((Fu.hullOf h (Fu.fuse b h l)).Hour), fv5, fv6, fv7]) (fun _ h => StP.know hlΦ2 (StP.drop h (by exact .cons _ (.cons_cons _ (.cons_cons _ (.cons_cons _ (.cons_cons _ (.slnil)))))))) rfl (q_extract rfl rfl) ?_
                  refine DT.q (v := fv8) (fun _ h => StP.know hlΦ2 (StP.drop h (by exact .cons _ (.cons_cons _ (.cons_cons _ (.cons_cons _ (.cons_cons _ (.slnil)))))))) rfl (q_extract rfl rfl) ?_
                  refine DT.effn (J' := St ⟨w, Φ, []⟩ Φ2 [.blk b5 36 [.int .i64 ((Fu.hullOf h (Fu.fuse b h l)).Hour), fv5, fv6, fv7], .row va1 46 4 ((M ++ [(l.getD k default)]).length) (flat (M ++ [(l.getD k default)])), .blk b3 36 [.int .i64 h.Hour, fv1, fv2, fv3], .blk b2 36 [.int .i64 h.Hour, hv1, hv2, hv3], .blk b1 31 [.string b.Name, v1, .int .i64 b.Cells, v3, v4, v5, v6, v7, v8, v9, .int .i64 b.Err]]) (fun _ => (fun _ h => StP.know hlΦ2 (StP.drop h (by exact .cons _ (.cons_cons _ (.cons_cons _ (.cons_cons _ (.cons_cons _ (.slnil))))))))) (e_store (v := .agg #[.int .i64 ((Fu.hullOf h (Fu.fuse b h l)).Hour), fv5, fv6, fv7]) 0 rfl rfl rfl sz36 rfl (by show List.all [_, fv5, fv6, fv7] _ = true; simp only [List.all_cons, List.all_nil, oneCell_sl kfv5.sl, oneCell_sl kfv6.sl, oneCell_sl kfv7.sl]; rfl) rfl rfl rfl) ?_
                  refine DT.q (v := fv8) (fun _ h => StP.know hlΦ2 (StP.drop h (by exact .cons _ (.cons_cons _ (.cons_cons _ (.cons_cons _ (.cons_cons _ (.slnil)))))))) rfl (q_assign rfl) ?_
                  refine DT.nil (s' := _) (J' := _) ⟨fv5, fv6, fv7, fv8, Φ2, b5, rfl, rfl, kfv5, kfv6, kfv7, kfv8, Hfv5, hlΦ2⟩ ⟨rfl, rfl, rfl, rfl, rfl, rfl, rfl, rfl, rfl, rfl, rfl, rfl, rfl, rfl, rfl, rfl, rfl, rfl, rfl, rfl, rfl, rfl, rfl, rfl, rfl, rfl, rfl, rfl, rfl, rfl, rfl, rfl, rfl, rfl, rfl, rfl, rfl, rfl, rfl, rfl, rfl, trivial⟩ (fun _ h => h)
              rintro _ _ _ ⟨fv5, fv6, fv7, fv8, Φ2, b5, rfl, rfl, kfv5, kfv6, kfv7, kfv8, Hfv5, hlΦ2⟩
              replace hB := hB.mono hlΦ2
              replace r3 := r3.mono hlΦ2
              replace r6 := r6.mono hlΦ2
              replace hH := hH.mono hlΦ2
              replace hr1 := hr1.mono hlΦ2
              replace hr2 := hr2.mono hlΦ2
              replace hr3 := hr3.mono hlΦ2
              replace hl := hl.mono hlΦ2
              replace kfv1 := kfv1.mono hlΦ2
              replace kfv2 := kfv2.mono hlΦ2
              replace kfv3 := kfv3.mono hlΦ2
              replace kfv4 := kfv4.mono hlΦ2
              replace Hfv1 := Hfv1.mono hlΦ2
              refine Post.then_n ?_
              refine AW.seq ?_
              refine AW.region ?_
              refine RW.q (v := .bool bad) rfl (q_move rfl) ?_
              refine RW.q (v := .bool !bad) rfl (q_not rfl) ?_
              refine RW.q (v := .bool !bad) rfl (q_move rfl) ?_
              refine RW.g (b := !bad) (v := fv8) rfl rfl rfl (fun h => q_move rfl) ?_
              refine RW.g (b := !bad) (v := .int .i64 (((Fu.comp (Fu.fuse b (Fu.hullOf h (Fu.fuse b h l)) ((l.take (k + 1)).drop k)).N).length : Nat) : Int)) rfl rfl rfl (fun h => q_len_sl (gv_pos h) kfv8.sl Try.underlying29) ?_
              refine RW.g (b := !bad) (v := .bool (decide ((0 : Int) < (((Fu.comp (Fu.fuse b (Fu.hullOf h (Fu.fuse b h l)) ((l.take (k + 1)).drop k)).N).length : Nat) : Int)))) rfl rfl rfl (fun h => q_gtr (gv_pos h) rfl) ?_
              refine RW.g (b := !bad) (v := .bool (decide ((0 : Int) < (((Fu.comp (Fu.fuse b (Fu.hullOf h (Fu.fuse b h l)) ((l.take (k + 1)).drop k)).N).length : Nat) : Int)))) rfl rfl rfl (fun h => q_move (gv_pos h)) ?_
              refine RW.g2 (b1 := !bad) (b2 := (decide ((0 : Int) < (((Fu.comp (Fu.fuse b (Fu.hullOf h (Fu.fuse b h l)) ((l.take (k + 1)).drop k)).N).length : Nat) : Int)))) (v := .agg #[.int .i64 ((Fu.hullOf h (Fu.fuse b h l)).Hour), fv5, fv6, fv7]) rfl rfl rfl (fun hg1 hg2 => q_loadAgg rfl Try.underlying36 rfl sz36 rfl (Cells.blk 0 rfl)) ?_
              refine RW.g2 (b1 := !bad) (b2 := (decide ((0 : Int) < (((Fu.comp (Fu.fuse b (Fu.hullOf h (Fu.fuse b h l)) ((l.take (k + 1)).drop k)).N).length : Nat) : Int)))) (v := .agg #[.int .i64 h.Hour, fv1, fv2, fv3]) rfl rfl rfl (fun hg1 hg2 => q_loadAgg rfl Try.underlying36 rfl sz36 rfl (Cells.blk 2 rfl)) ?_
              refine RW.g2 (b1 := !bad) (b2 := (decide ((0 : Int) < (((Fu.comp (Fu.fuse b (Fu.hullOf h (Fu.fuse b h l)) ((l.take (k + 1)).drop k)).N).length : Nat) : Int)))) (v := .bool (decide (Fu.sameH (Fu.hullOf (Fu.hullOf h (Fu.fuse b h l)) (Fu.fuse b (Fu.hullOf h (Fu.fuse b h l)) ((l.take (k + 1)).drop k))) (Fu.hullOf h (Fu.fuse b h l))))) rfl rfl rfl (fun hg1 hg2 => q_call (args := #[.agg #[.int .i64 ((Fu.hullOf h (Fu.fuse b h l)).Hour), fv5, fv6, fv7], .agg #[.int .i64 h.Hour, fv1, fv2, fv3]]) own14 rfl (args2 ((gv_pos hg1).trans (gv_pos hg2)) ((gv_pos hg1).trans (gv_pos hg2))) (fun w1 hw1 => Same_c w1 (Go.K.hp w1) (Hp.le_refl _) (Hfv5.mono hw1.phi) (Hfv1.mono hw1.phi))) ?_
              refine RW.g2 (b1 := !bad) (b2 := (decide ((0 : Int) < (((Fu.comp (Fu.fuse b (Fu.hullOf h (Fu.fuse b h l)) ((l.take (k + 1)).drop k)).N).length : Nat) : Int)))) (v := .bool (!(decide (Fu.sameH (Fu.hullOf (Fu.hullOf h (Fu.fuse b h l)) (Fu.fuse b (Fu.hullOf h (Fu.fuse b h l)) ((l.take (k + 1)).drop k))) (Fu.hullOf h (Fu.fuse b h l)))))) rfl rfl rfl (fun hg1 hg2 => q_not ((gv_pos hg1).trans (gv_pos hg2))) ?_
              refine RW.g (b := !bad) (v := .bool ((decide ((0 : Int) < (((Fu.comp (Fu.fuse b (Fu.hullOf h (Fu.fuse b h l)) ((l.take (k + 1)).drop k)).N).length : Nat) : Int))) || (!(decide (Fu.sameH (Fu.hullOf (Fu.hullOf h (Fu.fuse b h l)) (Fu.fuse b (Fu.hullOf h (Fu.fuse b h l)) ((l.take (k + 1)).drop k))) (Fu.hullOf h (Fu.fuse b h l))))))) rfl rfl rfl (fun h => q_pick (gv_pos h) (fun hp => pkOrT hp) (fun hp => (gv_pos h).trans ((gv_pos hp).trans (pkOrF hp)))) ?_
              refine RW.q (v := .bool false) rfl (q_as (v := .bool (!bad && ((decide ((0 : Int) < (((Fu.comp (Fu.fuse b (Fu.hullOf h (Fu.fuse b h l)) ((l.take (k + 1)).drop k)).N).length : Nat) : Int))) || (!(decide (Fu.sameH (Fu.hullOf (Fu.hullOf h (Fu.fuse b h l)) (Fu.fuse b (Fu.hullOf h (Fu.fuse b h l)) ((l.take (k + 1)).drop k))) (Fu.hullOf h (Fu.fuse b h l)))))))) (q_pick rfl (fun hp => (gv_pos hp).trans (pkAndT hp)) (fun hp => pkAndF hp)) (congrArg Value.bool (by cases hbd : bad <;> simp_all))) ?_
              refine RW.nil ?_
              refine Post.then_n ?_
              refine AW.cond (b := false) rfl (fun hc9 => ?_) (fun hc9 => ?_)
              · cases hc9
              · skip
                refine AW.skip ?_
                refine Post.blk_n (Post.then_n ?_)
                refine AW.region ?_
                refine RW.q (v := .int .i64 (k : Int)) rfl (q_move rfl) ?_
                refine RW.q (v := .int .i64 ((k + 1 : Nat) : Int)) rfl (q_add rfl rfl (by omega) (by unfold I64; omega)) ?_
                refine RW.q (v := .int .i64 ((k + 1 : Nat) : Int)) rfl (q_assign rfl) ?_
                refine RW.nil ?_
                exact Post.back (s' := _) (J' := _) (m' := _) (by omega) ⟨k + 1, M ++ [(l.getD k default)], va1, rfl, rfl, rfl, (by omega), (by rw [hks, hkn, hM, hc8.1, decide_eq_true hc8.2]; rfl), (by simpa using hva1), (by simp; omega)⟩ ⟨rfl, rfl, rfl, rfl, rfl, rfl, rfl, rfl, trivial⟩ (fun _ h => StP.know (by assumption) (StP.drop h (by exact .cons _ (.cons_cons _ (.cons_cons _ (.cons_cons _ (.cons_cons _ (.slnil))))))))
            · simp [-List.getD_eq_getElem?_getD] at hc8
              refine AW.skip ?_
              refine Post.then_n ?_
              refine AW.seq ?_
              have hB_0 := hB
              have r3_0 := r3
              have r6_0 := r6
              have hH_0 := hH
              have hr1_0 := hr1
              have hr2_0 := hr2
              have hr3_0 := hr3
              have hl_0 := hl
              have kfv1_0 := kfv1
              have kfv2_0 := kfv2
              have kfv3_0 := kfv3
              have kfv4_0 := kfv4
              have Hfv1_0 := Hfv1
              refine AW.drawT (J0 := St ⟨w, Φ, []⟩ Φ1 [.row kv 46 4 M.length (flat M), .blk b3 36 [.int .i64 h.Hour, fv1, fv2, fv3], .blk b2 36 [.int .i64 h.Hour, hv1, hv2, hv3], .blk b1 31 [.string b.Name, v1, .int .i64 b.Cells, v3, v4, v5, v6, v7, v8, v9, .int .i64 b.Err]]) (fun s J => ∃ (fv9 : Value), ∃ (fv10 : Value), ∃ (fv11 : Value), ∃ (fv12 : Value), ∃ (Φ3 : Hp), ∃ (b6 : Nat), s = [(2, lv), (3, .pointer (some (⟨b1, 0, none⟩))), (4, .pointer (some (⟨b2, 0, none⟩))), (7, .bool true), (10, .pointer (some (⟨b3, 0, none⟩))), (11, fv4), (12, kv), (13, .int .i64 (k : Int)), (14, .bool bad), (15, .int .i64 (q : Int)), (68, .int .i64 (q : Int)), (69, fv4), (70, .int .i64 (((Fu.comp (Fu.fuse b h l).N).length : Nat) : Int)), (71, .bool (decide ((q : Int) < (((Fu.comp (Fu.fuse b h l).N).length : Nat) : Int)))), (87, .bool bad), (88, .bool bad), (97, .bool false), (98, .bool bad), (99, .bool !bad), (100, .bool !bad), (109, .bool (!bad && (decide ((l.getD k default).Hour = h.Hour)))), (118, .agg #[.string b.Name, v1, .int .i64 b.Cells, v3, v4, v5, v6, v7, v8, v9, .int .i64 b.Err]), (119, .agg #[.int .i64 h.Hour, fv1, fv2, fv3]), (120, lv), (121, .int .i64 (k : Int)), (122, .int .i64 (k : Int)), (123, .int .i64 ((k + 1 : Nat) : Int)), (124, (subSl lv k (k + 1) 4)), (125, .tuple #[.agg #[.int .i64 ((Fu.hullOf h (Fu.fuse b h l)).Hour), fv9, fv10, fv11], fv12]), (117, .tuple #[.agg #[.int .i64 ((Fu.hullOf h (Fu.fuse b h l)).Hour), fv9, fv10, fv11], fv12]), (126, .agg #[.int .i64 ((Fu.hullOf h (Fu.fuse b h l)).Hour), fv9, fv10, fv11]), (127, fv12), (16, .pointer (some (⟨b6, 0, none⟩))), (17, fv12)] ∧ J = St ⟨w, Φ, []⟩ Φ3 [.blk b6 36 [.int .i64 ((Fu.hullOf h (Fu.fuse b h l)).Hour), fv9, fv10, fv11], .row kv 46 4 M.length (flat M), .blk b3 36 [.int .i64 h.Hour, fv1, fv2, fv3], .blk b2 36 [.int .i64 h.Hour, hv1, hv2, hv3], .blk b1 31 [.string b.Name, v1, .int .i64 b.Cells, v3, v4, v5, v6, v7, v8, v9, .int .i64 b.Err]] ∧ (RepSl Φ3 (Fu.fuse b (Fu.hullOf h (Fu.fuse b h l)) ((l.take (k + 1)).drop k)).V fv9) ∧ (RepSl Φ3 (Fu.hullOf h (Fu.fuse b h l)).Queue fv10) ∧ (RepSl Φ3 (Fu.fuse b (Fu.hullOf h (Fu.fuse b h l)) ((l.take (k + 1)).drop k)).K fv11) ∧ (RepSl Φ3 (Fu.comp (Fu.fuse b (Fu.hullOf h (Fu.fuse b h l)) ((l.take (k + 1)).drop k)).N) fv12) ∧ (RepV Φ3 (Fu.hullOf (Fu.hullOf h (Fu.fuse b h l)) (Fu.fuse b (Fu.hullOf h (Fu.fuse b h l)) ((l.take (k + 1)).drop k))) [.int .i64 (Fu.hullOf h (Fu.fuse b h l)).Hour, fv9, fv10, fv11]) ∧ (Hp.le Φ1 Φ3)) (.q 0 (.q 1 (.q 2 (.q 3 (.q 4 (.q 5 (.q 6 (.f 7 11 (.q 8 (.q 9 (.q 10 (.e 11 (.e 12 (.q 13 .nil)))))) (.e 7 (.q 8 (.q 9 (.q 10 (.e 12 (.q 13 .nil)))))))))))))) hmix (by kernel_rfl) ?_ ?_
              · skip
                refine DT.q (v := .agg #[.string b.Name, v1, .int .i64 b.Cells, v3, v4, v5, v6, v7, v8, v9, .int .i64 b.Err]) (fun _ h => h) rfl (q_loadAgg rfl Try.underlying31 rfl sz31 rfl (Cells.blk 3 rfl)) ?_
                refine DT.q (v := .agg #[.int .i64 h.Hour, fv1, fv2, fv3]) (fun _ h => h) rfl (q_loadAgg rfl Try.underlying36 rfl sz36 rfl (Cells.blk 1 rfl)) ?_
                refine DT.q (v := lv) (fun _ h => h) rfl (q_move rfl) ?_
                refine DT.q (v := .int .i64 (k : Int)) (fun _ h => h) rfl (q_move rfl) ?_
                refine DT.q (v := .int .i64 (k : Int)) (fun _ h => h) rfl (q_move rfl) ?_
                refine DT.q (v := .int .i64 ((k + 1 : Nat) : Int)) (fun _ h => h) rfl (q_add rfl rfl (by omega) (by unfold I64; omega)) ?_
                refine DT.q (v := (subSl lv k (k + 1) 4)) (fun _ h => h) rfl (q_sliceLH (v := lv) (l := (k : Int)) (m := ((k + 1 : Nat) : Int)) rfl rfl rfl hl.sl Try.underlying37 sz46 (by omega) (by omega) (by omega)) ?_
                refine DT.fork (fun x : {z : (Value × Value × Value × Value) × Hp // (fun (y : Value × Value × Value × Value) (Ψ : Hp) => (RepSl Ψ (Fu.fuse b (Fu.hullOf h (Fu.fuse b h l)) ((l.take (k + 1)).drop k)).V y.1) ∧ (RepSl Ψ (Fu.hullOf h (Fu.fuse b h l)).Queue y.2.1) ∧ (RepSl Ψ (Fu.fuse b (Fu.hullOf h (Fu.fuse b h l)) ((l.take (k + 1)).drop k)).K y.2.2.1) ∧ (RepSl Ψ (Fu.comp (Fu.fuse b (Fu.hullOf h (Fu.fuse b h l)) ((l.take (k + 1)).drop k)).N) y.2.2.2) ∧ (RepV Ψ (Fu.hullOf (Fu.hullOf h (Fu.fuse b h l)) (Fu.fuse b (Fu.hullOf h (Fu.fuse b h l)) ((l.take (k + 1)).drop k))) [.int .i64 (Fu.hullOf h (Fu.fuse b h l)).Hour, y.1, y.2.1, y.2.2.1])) z.1 z.2 ∧ Hp.le Φ1 z.2} => .tuple #[.agg #[.int .i64 ((Fu.hullOf h (Fu.fuse b h l)).Hour), x.1.1.1, x.1.1.2.1, x.1.1.2.2.1], x.1.1.2.2.2]) (fun b6 : Nat => .pointer (some (⟨b6, 0, none⟩))) (fun x => St ⟨w, Φ, []⟩ x.1.2 [.row kv 46 4 M.length (flat M), .blk b3 36 [.int .i64 h.Hour, fv1, fv2, fv3], .blk b2 36 [.int .i64 h.Hour, hv1, hv2, hv3], .blk b1 31 [.string b.Name, v1, .int .i64 b.Cells, v3, v4, v5, v6, v7, v8, v9, .int .i64 b.Err]]) (fun b6 => St ⟨w, Φ, []⟩ Φ1 [.blk b6 36 [.int .i64 0, (.slice none 0 0), (.slice none 0 0), (.slice none 0 0)], .row kv 46 4 M.length (flat M), .blk b3 36 [.int .i64 h.Hour, fv1, fv2, fv3], .blk b2 36 [.int .i64 h.Hour, hv1, hv2, hv3], .blk b1 31 [.string b.Name, v1, .int .i64 b.Cells, v3, v4, v5, v6, v7, v8, v9, .int .i64 b.Err]]) rfl rfl trivial trivial (fun x => (fun _ h => StP.know x.2.2 h)) (fun _ => (fun _ h => (StP.drop h (by exact .cons _ (.cons_cons _ (.cons_cons _ (.cons_cons _ (.cons_cons _ (.slnil))))))))) (e_callX (fun (y : Value × Value × Value × Value) => .tuple #[.agg #[.int .i64 ((Fu.hullOf h (Fu.fuse b h l)).Hour), y.1, y.2.1, y.2.2.1], y.2.2.2]) (fun (y : Value × Value × Value × Value) (Ψ : Hp) => (RepSl Ψ (Fu.fuse b (Fu.hullOf h (Fu.fuse b h l)) ((l.take (k + 1)).drop k)).V y.1) ∧ (RepSl Ψ (Fu.hullOf h (Fu.fuse b h l)).Queue y.2.1) ∧ (RepSl Ψ (Fu.fuse b (Fu.hullOf h (Fu.fuse b h l)) ((l.take (k + 1)).drop k)).K y.2.2.1) ∧ (RepSl Ψ (Fu.comp (Fu.fuse b (Fu.hullOf h (Fu.fuse b h l)) ((l.take (k + 1)).drop k)).N) y.2.2.2) ∧ (RepV Ψ (Fu.hullOf (Fu.hullOf h (Fu.fuse b h l)) (Fu.fuse b (Fu.hullOf h (Fu.fuse b h l)) ((l.take (k + 1)).drop k))) [.int .i64 (Fu.hullOf h (Fu.fuse b h l)).Hour, y.1, y.2.1, y.2.2.1])) (args := #[.agg #[.string b.Name, v1, .int .i64 b.Cells, v3, v4, v5, v6, v7, v8, v9, .int .i64 b.Err], .agg #[.int .i64 h.Hour, fv1, fv2, fv3], (subSl lv k (k + 1) 4)]) own12 rfl rfl (fun w1 hw1 => ((((Fuse_c w1 (Go.K.hp w1) (Hp.le_refl _) (hB.mono hw1.phi) (Hfv1.mono hw1.phi) ((hl.part (l := k) (m := k + 1) (by omega) (by omega)).mono hw1.phi) (by rw [hon]; simp) (by show (Fu.fuse b h l).V.length ≤ 1000; omega) (by show h.Queue.length ≤ 1000; omega) (by show (Fu.fuse b h l).K.length ≤ 1000; omega)).mono fun _ _ => retS_up (fun _ _ _ hl ⟨a, b, c, d, e, h1, h2, h3, h4⟩ => ⟨a, b, c, d, e, h1.mono hl, h2.mono hl, h3.mono hl, h4.mono hl⟩))).mono fun e w2 hr => by obtain ⟨v9, he9, hb9, u1, u2, u3, u4, hr9, q1, q2, q3, q4⟩ := hr; exact (show RetS _ _ (fun r Ψ => ∃ u1 u2 u3 u4 : Value, r = .tuple #[.agg #[.int .i64 (Fu.hullOf h (Fu.fuse b h l)).Hour, u1, u2, u3], u4] ∧ RepSl Ψ (Fu.fuse b (Fu.hullOf h (Fu.fuse b h l)) ((l.take (k + 1)).drop k)).V u1 ∧ RepSl Ψ (Fu.hullOf h (Fu.fuse b h l)).Queue u2 ∧ RepSl Ψ (Fu.fuse b (Fu.hullOf h (Fu.fuse b h l)) ((l.take (k + 1)).drop k)).K u3 ∧ RepSl Ψ (Fu.comp (Fu.fuse b (Fu.hullOf h (Fu.fuse b h l)) ((l.take (k + 1)).drop k)).N) u4 ∧ RepV Ψ (Fu.hullOf (Fu.hullOf h (Fu.fuse b h l)) (Fu.fuse b (Fu.hullOf h (Fu.fuse b h l)) ((l.take (k + 1)).drop k))) [.int .i64 (Fu.hullOf h (Fu.fuse b h l)).Hour, u1, u2, u3]) _ _ from ⟨v9, he9, hb9, u1, u2, u3, u4, hr9, q1, q2, q3, q4, ⟨_, _, _, rfl, (show I64 (Fu.hullOf h (Fu.fuse b h l)).Hour from hourOf Hfv1), q1, q2, q3⟩⟩)).mono fun e w2 hr => by obtain ⟨v9, he9, hb9, u1, u2, u3, u4, hr9, q1, q2, q3, q4, q5⟩ := hr; exact ⟨v9, he9, hb9, (u1, u2, u3, u4), hr9, q1, q2, q3, q4, q5⟩)) (e_alloc zero36) ?_ ?_
                · skip
                  rintro ⟨⟨⟨fv9, fv10, fv11, fv12⟩, Φ3⟩, ⟨kfv9, kfv10, kfv11, kfv12, Hfv9⟩, hlΦ3⟩
                  replace kfv9 : RepSl Φ3 (Fu.fuse b (Fu.hullOf h (Fu.fuse b h l)) ((l.take (k + 1)).drop k)).V fv9 := kfv9
                  replace kfv10 : RepSl Φ3 (Fu.hullOf h (Fu.fuse b h l)).Queue fv10 := kfv10
                  replace kfv11 : RepSl Φ3 (Fu.fuse b (Fu.hullOf h (Fu.fuse b h l)) ((l.take (k + 1)).drop k)).K fv11 := kfv11
                  replace kfv12 : RepSl Φ3 (Fu.comp (Fu.fuse b (Fu.hullOf h (Fu.fuse b h l)) ((l.take (k + 1)).drop k)).N) fv12 := kfv12
                  replace Hfv9 : RepV Φ3 (Fu.hullOf (Fu.hullOf h (Fu.fuse b h l)) (Fu.fuse b (Fu.hullOf h (Fu.fuse b h l)) ((l.take (k + 1)).drop k))) [.int .i64 (Fu.hullOf h (Fu.fuse b h l)).Hour, fv9, fv10, fv11] := Hfv9
                  replace hlΦ3 : Hp.le Φ1 Φ3 := hlΦ3
                  replace hB := hB.mono hlΦ3
                  replace r3 := r3.mono hlΦ3
                  replace r6 := r6.mono hlΦ3
                  replace hH := hH.mono hlΦ3
                  replace hr1 := hr1.mono hlΦ3
                  replace hr2 := hr2.mono hlΦ3
                  replace hr3 := hr3.mono hlΦ3
                  replace hl := hl.mono hlΦ3
                  replace kfv1 := kfv1.mono hlΦ3
                  replace kfv2 := kfv2.mono hlΦ3
                  replace kfv3 := kfv3.mono hlΦ3
                  replace kfv4 := kfv4.mono hlΦ3
                  replace Hfv1 := Hfv1.mono hlΦ3
                  refine DT.q (v := .tuple #[.agg #[.int .i64 ((Fu.hullOf h (Fu.fuse b h l)).Hour), fv9, fv10, fv11], fv12]) (fun _ h => StP.know hlΦ3 h) rfl (q_move rfl) ?_
                  refine DT.q (v := .agg #[.int .i64 ((Fu.hullOf h (Fu.fuse b h l)).Hour), fv9, fv10, fv11]) (fun _ h => StP.know hlΦ3 h) rfl (q_extract rfl rfl) ?_
                  refine DT.q (v := fv12) (fun _ h => StP.know hlΦ3 h) rfl (q_extract rfl rfl) ?_
                  refine DT.eff (fun b6 : Nat => .pointer (some (⟨b6, 0, none⟩))) (fun b6 => St ⟨w, Φ, []⟩ Φ3 [.blk b6 36 [.int .i64 0, (.slice none 0 0), (.slice none 0 0), (.slice none 0 0)], .row kv 46 4 M.length (flat M), .blk b3 36 [.int .i64 h.Hour, fv1, fv2, fv3], .blk b2 36 [.int .i64 h.Hour, hv1, hv2, hv3], .blk b1 31 [.string b.Name, v1, .int .i64 b.Cells, v3, v4, v5, v6, v7, v8, v9, .int .i64 b.Err]]) (fun _ _ => (fun _ h => StP.know hlΦ3 (StP.drop h (by exact .cons _ (.cons_cons _ (.cons_cons _ (.cons_cons _ (.cons_cons _ (.slnil))))))))) rfl (e_alloc zero36) ?_
                  intro b6
                  refine DT.effn (J' := St ⟨w, Φ, []⟩ Φ3 [.blk b6 36 [.int .i64 ((Fu.hullOf h (Fu.fuse b h l)).Hour), fv9, fv10, fv11], .row kv 46 4 M.length (flat M), .blk b3 36 [.int .i64 h.Hour, fv1, fv2, fv3], .blk b2 36 [.int .i64 h.Hour, hv1, hv2, hv3], .blk b1 31 [.string b.Name, v1, .int .i64 b.Cells, v3, v4, v5, v6, v7, v8, v9, .int .i64 b.Err]]) (fun _ => (fun _ h => StP.know hlΦ3 (StP.drop h (by exact .cons _ (.cons_cons _ (.cons_cons _ (.cons_cons _ (.cons_cons _ (.slnil))))))))) (e_store (v := .agg #[.int .i64 ((Fu.hullOf h (Fu.fuse b h l)).Hour), fv9, fv10, fv11]) 0 rfl rfl rfl sz36 rfl (by show List.all [_, fv9, fv10, fv11] _ = true; simp only [List.all_cons, List.all_nil, oneCell_sl kfv9.sl, oneCell_sl kfv10.sl, oneCell_sl kfv11.sl]; rfl) rfl rfl rfl) ?_
                  refine DT.q (v := fv12) (fun _ h => StP.know hlΦ3 (StP.drop h (by exact .cons _ (.cons_cons _ (.cons_cons _ (.cons_cons _ (.cons_cons _ (.slnil)))))))) rfl (q_assign rfl) ?_
                  refine DT.nil (s' := _) (J' := _) ⟨fv9, fv10, fv11, fv12, Φ3, b6, rfl, rfl, kfv9, kfv10, kfv11, kfv12, Hfv9, hlΦ3⟩ ⟨rfl, rfl, rfl, rfl, rfl, rfl, rfl, rfl, rfl, rfl, rfl, rfl, rfl, rfl, rfl, rfl, rfl, rfl, rfl, rfl, rfl, rfl, rfl, rfl, rfl, rfl, rfl, rfl, rfl, rfl, rfl, rfl, rfl, rfl, trivial⟩ (fun _ h => h)
                · skip
                  intro b6
                  refine DT.eff (fun x : {z : (Value × Value × Value × Value) × Hp // (fun (y : Value × Value × Value × Value) (Ψ : Hp) => (RepSl Ψ (Fu.fuse b (Fu.hullOf h (Fu.fuse b h l)) ((l.take (k + 1)).drop k)).V y.1) ∧ (RepSl Ψ (Fu.hullOf h (Fu.fuse b h l)).Queue y.2.1) ∧ (RepSl Ψ (Fu.fuse b (Fu.hullOf h (Fu.fuse b h l)) ((l.take (k + 1)).drop k)).K y.2.2.1) ∧ (RepSl Ψ (Fu.comp (Fu.fuse b (Fu.hullOf h (Fu.fuse b h l)) ((l.take (k + 1)).drop k)).N) y.2.2.2) ∧ (RepV Ψ (Fu.hullOf (Fu.hullOf h (Fu.fuse b h l)) (Fu.fuse b (Fu.hullOf h (Fu.fuse b h l)) ((l.take (k + 1)).drop k))) [.int .i64 (Fu.hullOf h (Fu.fuse b h l)).Hour, y.1, y.2.1, y.2.2.1])) z.1 z.2 ∧ Hp.le Φ1 z.2} => .tuple #[.agg #[.int .i64 ((Fu.hullOf h (Fu.fuse b h l)).Hour), x.1.1.1, x.1.1.2.1, x.1.1.2.2.1], x.1.1.2.2.2]) (fun x => St ⟨w, Φ, []⟩ x.1.2 [.blk b6 36 [.int .i64 0, (.slice none 0 0), (.slice none 0 0), (.slice none 0 0)], .row kv 46 4 M.length (flat M), .blk b3 36 [.int .i64 h.Hour, fv1, fv2, fv3], .blk b2 36 [.int .i64 h.Hour, hv1, hv2, hv3], .blk b1 31 [.string b.Name, v1, .int .i64 b.Cells, v3, v4, v5, v6, v7, v8, v9, .int .i64 b.Err]]) (fun _ x => (fun _ h => StP.know x.2.2 (StP.drop h (by exact .cons _ (.cons_cons _ (.cons_cons _ (.cons_cons _ (.cons_cons _ (.slnil))))))))) rfl (e_callX (fun (y : Value × Value × Value × Value) => .tuple #[.agg #[.int .i64 ((Fu.hullOf h (Fu.fuse b h l)).Hour), y.1, y.2.1, y.2.2.1], y.2.2.2]) (fun (y : Value × Value × Value × Value) (Ψ : Hp) => (RepSl Ψ (Fu.fuse b (Fu.hullOf h (Fu.fuse b h l)) ((l.take (k + 1)).drop k)).V y.1) ∧ (RepSl Ψ (Fu.hullOf h (Fu.fuse b h l)).Queue y.2.1) ∧ (RepSl Ψ (Fu.fuse b (Fu.hullOf h (Fu.fuse b h l)) ((l.take (k + 1)).drop k)).K y.2.2.1) ∧ (RepSl Ψ (Fu.comp (Fu.fuse b (Fu.hullOf h (Fu.fuse b h l)) ((l.take (k + 1)).drop k)).N) y.2.2.2) ∧ (RepV Ψ (Fu.hullOf (Fu.hullOf h (Fu.fuse b h l)) (Fu.fuse b (Fu.hullOf h (Fu.fuse b h l)) ((l.take (k + 1)).drop k))) [.int .i64 (Fu.hullOf h (Fu.fuse b h l)).Hour, y.1, y.2.1, y.2.2.1])) (args := #[.agg #[.string b.Name, v1, .int .i64 b.Cells, v3, v4, v5, v6, v7, v8, v9, .int .i64 b.Err], .agg #[.int .i64 h.Hour, fv1, fv2, fv3], (subSl lv k (k + 1) 4)]) own12 rfl rfl (fun w1 hw1 => ((((Fuse_c w1 (Go.K.hp w1) (Hp.le_refl _) (hB.mono hw1.phi) (Hfv1.mono hw1.phi) ((hl.part (l := k) (m := k + 1) (by omega) (by omega)).mono hw1.phi) (by rw [hon]; simp) (by show (Fu.fuse b h l).V.length ≤ 1000; omega) (by show h.Queue.length ≤ 1000; omega) (by show (Fu.fuse b h l).K.length ≤ 1000; omega)).mono fun _ _ => retS_up (fun _ _ _ hl ⟨a, b, c, d, e, h1, h2, h3, h4⟩ => ⟨a, b, c, d, e, h1.mono hl, h2.mono hl, h3.mono hl, h4.mono hl⟩))).mono fun e w2 hr => by obtain ⟨v9, he9, hb9, u1, u2, u3, u4, hr9, q1, q2, q3, q4⟩ := hr; exact (show RetS _ _ (fun r Ψ => ∃ u1 u2 u3 u4 : Value, r = .tuple #[.agg #[.int .i64 (Fu.hullOf h (Fu.fuse b h l)).Hour, u1, u2, u3], u4] ∧ RepSl Ψ (Fu.fuse b (Fu.hullOf h (Fu.fuse b h l)) ((l.take (k + 1)).drop k)).V u1 ∧ RepSl Ψ (Fu.hullOf h (Fu.fuse b h l)).Queue u2 ∧ RepSl Ψ (Fu.fuse b (Fu.hullOf h (Fu.fuse b h l)) ((l.take (k + 1)).drop k)).K u3 ∧ RepSl Ψ (Fu.comp (Fu.fuse b (Fu.hullOf h (Fu.fuse b h l)) ((l.take (k + 1)).drop k)).N) u4 ∧ RepV Ψ (Fu.hullOf (Fu.hullOf h (Fu.fuse b h l)) (Fu.fuse b (Fu.hullOf h (Fu.fuse b h l)) ((l.take (k + 1)).drop k))) [.int .i64 (Fu.hullOf h (Fu.fuse b h l)).Hour, u1, u2, u3]) _ _ from ⟨v9, he9, hb9, u1, u2, u3, u4, hr9, q1, q2, q3, q4, ⟨_, _, _, rfl, (show I64 (Fu.hullOf h (Fu.fuse b h l)).Hour from hourOf Hfv1), q1, q2, q3⟩⟩)).mono fun e w2 hr => by obtain ⟨v9, he9, hb9, u1, u2, u3, u4, hr9, q1, q2, q3, q4, q5⟩ := hr; exact ⟨v9, he9, hb9, (u1, u2, u3, u4), hr9, q1, q2, q3, q4, q5⟩)) ?_
                  rintro ⟨⟨⟨fv9, fv10, fv11, fv12⟩, Φ3⟩, ⟨kfv9, kfv10, kfv11, kfv12, Hfv9⟩, hlΦ3⟩
                  replace kfv9 : RepSl Φ3 (Fu.fuse b (Fu.hullOf h (Fu.fuse b h l)) ((l.take (k + 1)).drop k)).V fv9 := kfv9
                  replace kfv10 : RepSl Φ3 (Fu.hullOf h (Fu.fuse b h l)).Queue fv10 := kfv10
                  replace kfv11 : RepSl Φ3 (Fu.fuse b (Fu.hullOf h (Fu.fuse b h l)) ((l.take (k + 1)).drop k)).K fv11 := kfv11
                  replace kfv12 : RepSl Φ3 (Fu.comp (Fu.fuse b (Fu.hullOf h (Fu.fuse b h l)) ((l.take (k + 1)).drop k)).N) fv12 := kfv12
                  replace Hfv9 : RepV Φ3 (Fu.hullOf (Fu.hullOf h (Fu.fuse b h l)) (Fu.fuse b (Fu.hullOf h (Fu.fuse b h l)) ((l.take (k + 1)).drop k))) [.int .i64 (Fu.hullOf h (Fu.fuse b h l)).Hour, fv9, fv10, fv11] := Hfv9
                  replace hlΦ3 : Hp.le Φ1 Φ3 := hlΦ3
                  replace hB := hB.mono hlΦ3
                  replace r3 := r3.mono hlΦ3
                  replace r6 := r6.mono hlΦ3
                  replace hH := hH.mono hlΦ3
                  replace hr1 := hr1.mono hlΦ3
                  replace hr2 := hr2.mono hlΦ3
                  replace hr3 := hr3.mono hlΦ3
                  replace hl := hl.mono hlΦ3
                  replace kfv1 := kfv1.mono hlΦ3
                  replace kfv2 := kfv2.mono hlΦ3
                  replace kfv3 := kfv3.mono hlΦ3
                  replace kfv4 := kfv4.mono hlΦ3
                  replace Hfv1 := Hfv1.mono hlΦ3
                  refine DT.q (v := .tuple #[.agg #[.int .i64 ((Fu.hullOf h (Fu.fuse b h l)).Hour), fv9, fv10, fv11], fv12]) (fun _ h => StP.know hlΦ3 (StP.drop h (by exact .cons _ (.cons_cons _ (.cons_cons _ (.cons_cons _ (.cons_cons _ (.slnil)))))))) rfl (q_move rfl) ?_
                  refine DT.q (v := .agg #[.int .i64 ((Fu.hullOf h (Fu.fuse b h l)).Hour), fv9, fv10, fv11]) (fun _ h => StP.know hlΦ3 (StP.drop h (by exact .cons _ (.cons_cons _ (.cons_cons _ (.cons_cons _ (.cons_cons _ (.slnil)))))))) rfl (q_extract rfl rfl) ?_
                  refine DT.q (v := fv12) (fun _ h => StP.know hlΦ3 (StP.drop h (by exact .cons _ (.cons_cons _ (.cons_cons _ (.cons_cons _ (.cons_cons _ (.slnil)))))))) rfl (q_extract rfl rfl) ?_
                  refine DT.effn (J' := St ⟨w, Φ, []⟩ Φ3 [.blk b6 36 [.int .i64 ((Fu.hullOf h (Fu.fuse b h l)).Hour), fv9, fv10, fv11], .row kv 46 4 M.length (flat M), .blk b3 36 [.int .i64 h.Hour, fv1, fv2, fv3], .blk b2 36 [.int .i64 h.Hour, hv1, hv2, hv3], .blk b1 31 [.string b.Name, v1, .int .i64 b.Cells, v3, v4, v5, v6, v7, v8, v9, .int .i64 b.Err]]) (fun _ => (fun _ h => StP.know hlΦ3 (StP.drop h (by exact .cons _ (.cons_cons _ (.cons_cons _ (.cons_cons _ (.cons_cons _ (.slnil))))))))) (e_store (v := .agg #[.int .i64 ((Fu.hullOf h (Fu.fuse b h l)).Hour), fv9, fv10, fv11]) 0 rfl rfl rfl sz36 rfl (by show List.all [_, fv9, fv10, fv11] _ = true; simp only [List.all_cons, List.all_nil, oneCell_sl kfv9.sl, oneCell_sl kfv10.sl, oneCell_sl kfv11.sl]; rfl) rfl rfl rfl) ?_
                  refine DT.q (v := fv12) (fun _ h => StP.know hlΦ3 (StP.drop h (by exact .cons _ (.cons_cons _ (.cons_cons _ (.cons_cons _ (.cons_cons _ (.slnil)))))))) rfl (q_assign rfl) ?_
                  refine DT.nil (s' := _) (J' := _) ⟨fv9, fv10, fv11, fv12, Φ3, b6, rfl, rfl, kfv9, kfv10, kfv11, kfv12, Hfv9, hlΦ3⟩ ⟨rfl, rfl, rfl, rfl, rfl, rfl, rfl, rfl, rfl, rfl, rfl, rfl, rfl, rfl, rfl, rfl, rfl, rfl, rfl, rfl, rfl, rfl, rfl, rfl, rfl, rfl, rfl, rfl, rfl, rfl, rfl, rfl, rfl, rfl, trivial⟩ (fun _ h => h)
              rintro _ _ _ ⟨fv9, fv10, fv11, fv12, Φ3, b6, rfl, rfl, kfv9, kfv10, kfv11, kfv12, Hfv9, hlΦ3⟩
              replace hB := hB.mono hlΦ3
              replace r3 := r3.mono hlΦ3
              replace r6 := r6.mono hlΦ3
              replace hH := hH.mono hlΦ3
              replace hr1 := hr1.mono hlΦ3
              replace hr2 := hr2.mono hlΦ3
              replace hr3 := hr3.mono hlΦ3
              replace hl := hl.mono hlΦ3
              replace kfv1 := kfv1.mono hlΦ3
              replace kfv2 := kfv2.mono hlΦ3
              replace kfv3 := kfv3.mono hlΦ3
              replace kfv4 := kfv4.mono hlΦ3
              replace Hfv1 := Hfv1.mono hlΦ3
              refine Post.then_n ?_
              refine AW.seq ?_
              refine AW.region ?_
              refine RW.q (v := .bool bad) rfl (q_move rfl) ?_
              refine RW.q (v := .bool !bad) rfl (q_not rfl) ?_
              refine RW.q (v := .bool !bad) rfl (q_move rfl) ?_
              refine RW.g (b := !bad) (v := fv12) rfl rfl rfl (fun h => q_move rfl) ?_
              refine RW.g (b := !bad) (v := .int .i64 (((Fu.comp (Fu.fuse b (Fu.hullOf h (Fu.fuse b h l)) ((l.take (k + 1)).drop k)).N).length : Nat) : Int)) rfl rfl rfl (fun h => q_len_sl (gv_pos h) kfv12.sl Try.underlying29) ?_
              refine RW.g (b := !bad) (v := .bool (decide ((0 : Int) < (((Fu.comp (Fu.fuse b (Fu.hullOf h (Fu.fuse b h l)) ((l.take (k + 1)).drop k)).N).length : Nat) : Int)))) rfl rfl rfl (fun h => q_gtr (gv_pos h) rfl) ?_
              refine RW.g (b := !bad) (v := .bool (decide ((0 : Int) < (((Fu.comp (Fu.fuse b (Fu.hullOf h (Fu.fuse b h l)) ((l.take (k + 1)).drop k)).N).length : Nat) : Int)))) rfl rfl rfl (fun h => q_move (gv_pos h)) ?_
              refine RW.g2 (b1 := !bad) (b2 := (decide ((0 : Int) < (((Fu.comp (Fu.fuse b (Fu.hullOf h (Fu.fuse b h l)) ((l.take (k + 1)).drop k)).N).length : Nat) : Int)))) (v := .agg #[.int .i64 ((Fu.hullOf h (Fu.fuse b h l)).Hour), fv9, fv10, fv11]) rfl rfl rfl (fun hg1 hg2 => q_loadAgg rfl Try.underlying36 rfl sz36 rfl (Cells.blk 0 rfl)) ?_
              refine RW.g2 (b1 := !bad) (b2 := (decide ((0 : Int) < (((Fu.comp (Fu.fuse b (Fu.hullOf h (Fu.fuse b h l)) ((l.take (k + 1)).drop k)).N).length : Nat) : Int)))) (v := .agg #[.int .i64 h.Hour, fv1, fv2, fv3]) rfl rfl rfl (fun hg1 hg2 => q_loadAgg rfl Try.underlying36 rfl sz36 rfl (Cells.blk 2 rfl)) ?_
              refine RW.g2 (b1 := !bad) (b2 := (decide ((0 : Int) < (((Fu.comp (Fu.fuse b (Fu.hullOf h (Fu.fuse b h l)) ((l.take (k + 1)).drop k)).N).length : Nat) : Int)))) (v := .bool (decide (Fu.sameH (Fu.hullOf (Fu.hullOf h (Fu.fuse b h l)) (Fu.fuse b (Fu.hullOf h (Fu.fuse b h l)) ((l.take (k + 1)).drop k))) (Fu.hullOf h (Fu.fuse b h l))))) rfl rfl rfl (fun hg1 hg2 => q_call (args := #[.agg #[.int .i64 ((Fu.hullOf h (Fu.fuse b h l)).Hour), fv9, fv10, fv11], .agg #[.int .i64 h.Hour, fv1, fv2, fv3]]) own14 rfl (args2 ((gv_pos hg1).trans (gv_pos hg2)) ((gv_pos hg1).trans (gv_pos hg2))) (fun w1 hw1 => Same_c w1 (Go.K.hp w1) (Hp.le_refl _) (Hfv9.mono hw1.phi) (Hfv1.mono hw1.phi))) ?_
              refine RW.g2 (b1 := !bad) (b2 := (decide ((0 : Int) < (((Fu.comp (Fu.fuse b (Fu.hullOf h (Fu.fuse b h l)) ((l.take (k + 1)).drop k)).N).length : Nat) : Int)))) (v := .bool (!(decide (Fu.sameH (Fu.hullOf (Fu.hullOf h (Fu.fuse b h l)) (Fu.fuse b (Fu.hullOf h (Fu.fuse b h l)) ((l.take (k + 1)).drop k))) (Fu.hullOf h (Fu.fuse b h l)))))) rfl rfl rfl (fun hg1 hg2 => q_not ((gv_pos hg1).trans (gv_pos hg2))) ?_
              refine RW.g (b := !bad) (v := .bool ((decide ((0 : Int) < (((Fu.comp (Fu.fuse b (Fu.hullOf h (Fu.fuse b h l)) ((l.take (k + 1)).drop k)).N).length : Nat) : Int))) || (!(decide (Fu.sameH (Fu.hullOf (Fu.hullOf h (Fu.fuse b h l)) (Fu.fuse b (Fu.hullOf h (Fu.fuse b h l)) ((l.take (k + 1)).drop k))) (Fu.hullOf h (Fu.fuse b h l))))))) rfl rfl rfl (fun h => q_pick (gv_pos h) (fun hp => pkOrT hp) (fun hp => (gv_pos h).trans ((gv_pos hp).trans (pkOrF hp)))) ?_
              refine RW.q (v := .bool false) rfl (q_as (v := .bool (!bad && ((decide ((0 : Int) < (((Fu.comp (Fu.fuse b (Fu.hullOf h (Fu.fuse b h l)) ((l.take (k + 1)).drop k)).N).length : Nat) : Int))) || (!(decide (Fu.sameH (Fu.hullOf (Fu.hullOf h (Fu.fuse b h l)) (Fu.fuse b (Fu.hullOf h (Fu.fuse b h l)) ((l.take (k + 1)).drop k))) (Fu.hullOf h (Fu.fuse b h l)))))))) (q_pick rfl (fun hp => (gv_pos hp).trans (pkAndT hp)) (fun hp => pkAndF hp)) (congrArg Value.bool (by cases hbd : bad <;> simp_all))) ?_
              refine RW.nil ?_
              refine Post.then_n ?_
              refine AW.cond (b := false) rfl (fun hc10 => ?_) (fun hc10 => ?_)
              · cases hc10
              · skip
                refine AW.skip ?_
                refine Post.blk_n (Post.then_n ?_)
                refine AW.region ?_
                refine RW.q (v := .int .i64 (k : Int)) rfl (q_move rfl) ?_
                refine RW.q (v := .int .i64 ((k + 1 : Nat) : Int)) rfl (q_add rfl rfl (by omega) (by unfold I64; omega)) ?_
                refine RW.q (v := .int .i64 ((k + 1 : Nat) : Int)) rfl (q_assign rfl) ?_
                refine RW.nil ?_
                exact Post.back (s' := _) (J' := _) (m' := _) (by omega) ⟨k + 1, M, kv, rfl, rfl, rfl, (by omega), (by rw [hks, hkn, hM, show (!bad && decide ((l.getD k default).Hour = h.Hour)) = false by simpa using hc8]; simp), hkv, (by omega)⟩ ⟨rfl, rfl, rfl, rfl, rfl, rfl, rfl, rfl, trivial⟩ (fun _ h => StP.know (by assumption) (StP.drop h (by exact .cons _ (.cons_cons _ (.cons_cons _ (.cons_cons _ (.cons_cons _ (.slnil))))))))
      · simp [-List.getD_eq_getElem?_getD] at hc5
        refine AW.exit ?_
        refine Post.then_x (Post.then_x (Post.blk_hit (Post.then_n ?_)))
        refine AW.seq ?_
        refine AW.seq ?_
        have hna : (Fu.comp (Fu.fuse b h l).N).Pairwise (· < ·) := Fu.named_asc b h l
        have hasc : ∀ i j, i < j → j < (Fu.comp (Fu.fuse b h l).N).length → (Fu.comp (Fu.fuse b h l).N).getD i 0 < (Fu.comp (Fu.fuse b h l).N).getD j 0 := fun i j hij hj => by rw [List.getD_eq_getElem?_getD, List.getD_eq_getElem?_getD, List.getElem?_eq_getElem hj, List.getElem?_eq_getElem (show i < (Fu.comp (Fu.fuse b h l).N).length by omega)]; exact List.pairwise_iff_getElem.1 hna i j (by omega) hj hij
        refine AW.region ?_
        refine RW.q (v := .int .i64 1) rfl (q_assign rfl) ?_
        refine RW.nil ?_
        refine Post.then_n ?_
        refine AW.block ?_
        refine AW.loop (fun s J m => ∃ (q : Nat), s = [(3, .pointer (some (⟨b1, 0, none⟩))), (4, .pointer (some (⟨b2, 0, none⟩))), (7, .bool true), (10, .pointer (some (⟨b3, 0, none⟩))), (11, fv4), (12, kv), (18, .int .i64 (q : Int))] ∧ J = St ⟨w, Φ, []⟩ Φ1 [.row kv 46 4 M.length (flat M), .blk b3 36 [.int .i64 h.Hour, fv1, fv2, fv3], .blk b2 36 [.int .i64 h.Hour, hv1, hv2, hv3], .blk b1 31 [.string b.Name, v1, .int .i64 b.Cells, v3, v4, v5, v6, v7, v8, v9, .int .i64 b.Err]] ∧ m = (Fu.comp (Fu.fuse b h l).N).length - q ∧ (1 ≤ q)) (s0 := _) (J1 := _) (m0 := _) ⟨1, rfl, rfl, rfl, (by omega)⟩ ⟨rfl, rfl, rfl, rfl, rfl, rfl, rfl, trivial⟩ (fun _ h => h) ?_
        rintro _ _ _ _ ⟨q, rfl, rfl, rfl, hq1⟩
        refine AW.seq ?_
        refine AW.seq ?_
        refine AW.region ?_
        refine RW.q (v := .int .i64 (q : Int)) rfl (q_move rfl) ?_
        refine RW.q (v := fv4) rfl (q_move rfl) ?_
        refine RW.q (v := .int .i64 (((Fu.comp (Fu.fuse b h l).N).length : Nat) : Int)) rfl (q_len_sl rfl kfv4.sl Try.underlying29) ?_
        refine RW.q (v := .bool (decide ((q : Int) < (((Fu.comp (Fu.fuse b h l).N).length : Nat) : Int)))) rfl (q_lss rfl rfl) ?_
        refine RW.nil ?_
        refine Post.then_n ?_
        refine AW.cond (b := decide ((q : Int) < (((Fu.comp (Fu.fuse b h l).N).length : Nat) : Int))) rfl (fun hc11 => ?_) (fun hc11 => ?_)
        · simp [-List.getD_eq_getElem?_getD] at hc11
          refine AW.skip ?_
          refine Post.then_n ?_
          refine AW.seq ?_
          refine AW.block ?_
          refine AW.seq ?_
          refine AW.draw (J0 := St ⟨w, Φ, []⟩ Φ1 [.row kv 46 4 M.length (flat M), .blk b3 36 [.int .i64 h.Hour, fv1, fv2, fv3], .blk b2 36 [.int .i64 h.Hour, hv1, hv2, hv3], .blk b1 31 [.string b.Name, v1, .int .i64 b.Cells, v3, v4, v5, v6, v7, v8, v9, .int .i64 b.Err]]) [.q, .q, .q, .q, .q, .q, .q, .q, .q, .q] [0, 1, 2, 3, 4, 5, 6, 7, 8, 9] hmix (by kernel_rfl) ?_
          refine DW.q (v := fv4) (fun _ h => h) rfl (q_move rfl) ?_
          refine DW.q (v := .int .i64 (q : Int)) (fun _ h => h) rfl (q_move rfl) ?_
          refine DW.q (v := .int .i64 (((q - 1) : Nat) : Int)) (fun _ h => h) rfl (q_as (v := .int .i64 ((q : Int) - 1)) (q_sub rfl rfl (by omega) (by unfold I64; omega)) (congrArg (Value.int .i64) (by omega))) ?_
          refine DW.q (v := .pointer (some (Value.at fv4 ((q - 1) * 1)))) (fun _ h => h) rfl (q_indexAddr rfl rfl kfv4.sl Try.underlying29 sz3 (by omega) (by omega) rfl) ?_
          refine DW.q (v := .int .i64 ((Fu.comp (Fu.fuse b h l).N).getD (q - 1) 0)) (fun _ h => h) rfl (q_load rfl Try.underlying3 rfl (Cell.repInt kfv4 (by omega))) ?_
          refine DW.q (v := fv4) (fun _ h => h) rfl (q_move rfl) ?_
          refine DW.q (v := .int .i64 (q : Int)) (fun _ h => h) rfl (q_move rfl) ?_
          refine DW.q (v := .pointer (some (Value.at fv4 (q * 1)))) (fun _ h => h) rfl (q_indexAddr rfl rfl kfv4.sl Try.underlying29 sz3 (by omega) (by omega) rfl) ?_
          refine DW.q (v := .int .i64 ((Fu.comp (Fu.fuse b h l).N).getD q 0)) (fun _ h => h) rfl (q_load rfl Try.underlying3 rfl (Cell.repInt kfv4 (by omega))) ?_
          refine DW.q (v := .bool false) (fun _ h => h) rfl (q_as (v := .bool (decide ((Fu.comp (Fu.fuse b h l).N).getD q 0 ≤ (Fu.comp (Fu.fuse b h l).N).getD (q - 1) 0))) (q_geq rfl rfl) (congrArg Value.bool (by have := hasc (q - 1) q (by omega) (by omega); exact decide_eq_false (by omega)))) ?_
          refine DW.nil ?_
          refine Post.then_n ?_
          refine AW.cond (b := false) rfl (fun hc12 => ?_) (fun hc12 => ?_)
          · cases hc12
          · skip
            refine AW.skip ?_
            refine Post.blk_n (Post.then_n ?_)
            refine AW.region ?_
            refine RW.q (v := .int .i64 (q : Int)) rfl (q_move rfl) ?_
            refine RW.q (v := .int .i64 ((q + 1 : Nat) : Int)) rfl (q_add rfl rfl (by omega) (by unfold I64; omega)) ?_
            refine RW.q (v := .int .i64 ((q + 1 : Nat) : Int)) rfl (q_assign rfl) ?_
            refine RW.nil ?_
            exact Post.back (s' := _) (J' := _) (m' := _) (by omega) ⟨q + 1, rfl, rfl, rfl, (by omega)⟩ ⟨rfl, rfl, rfl, rfl, rfl, rfl, rfl, trivial⟩ (fun _ h => h)
        · simp [-List.getD_eq_getElem?_getD] at hc11
          refine AW.exit ?_
          refine Post.then_x (Post.then_x (Post.blk_hit (Post.then_n ?_)))
          refine AW.seq ?_
          have hMe : M = l.filter (Fu.keptP b h l) := by rw [hM, List.take_of_length_le (by omega)]
          have hMw : ∀ x ∈ M, RepE.wf x := fun x hx => by rw [hMe] at hx; exact hl.wfE x (List.mem_filter.1 hx).1
          skip
          refine AW.frz (fun Φ4 hlΦ4 hshkpt => ?_)
          replace hB := hB.mono hlΦ4
          replace r3 := r3.mono hlΦ4
          replace r6 := r6.mono hlΦ4
          replace hH := hH.mono hlΦ4
          replace hr1 := hr1.mono hlΦ4
          replace hr2 := hr2.mono hlΦ4
          replace hr3 := hr3.mono hlΦ4
          replace hl := hl.mono hlΦ4
          replace kfv1 := kfv1.mono hlΦ4
          replace kfv2 := kfv2.mono hlΦ4
          replace kfv3 := kfv3.mono hlΦ4
          replace kfv4 := kfv4.mono hlΦ4
          replace Hfv1 := Hfv1.mono hlΦ4
          have hkpt : RepSl Φ4 M kv := RowS.repE even46 hshkpt rfl (by simp only [maxSl]; show M.length * 32 ≤ _; omega) hMw
          have hkp : Fu.fuse b h M = ⟨(Fu.fuse b h l).V, (Fu.fuse b h l).K, []⟩ := by rw [hMe]; exact Fu.fuse_kept hD
          refine AW.region ?_
          refine RW.q (v := .agg #[.string b.Name, v1, .int .i64 b.Cells, v3, v4, v5, v6, v7, v8, v9, .int .i64 b.Err]) rfl (q_loadAgg rfl Try.underlying31 rfl sz31 rfl (Cells.blk 2 rfl)) ?_
          refine RW.q (v := .agg #[.int .i64 h.Hour, hv1, hv2, hv3]) rfl (q_loadAgg rfl Try.underlying36 rfl sz36 rfl (Cells.blk 1 rfl)) ?_
          refine RW.q (v := kv) rfl (q_move rfl) ?_
          refine RW.eff (fun x : {z : (Value × Value × Value × Value) × Hp // (fun (y : Value × Value × Value × Value) (Ψ : Hp) => (RepSl Ψ (Fu.fuse b h M).V y.1) ∧ (RepSl Ψ h.Queue y.2.1) ∧ (RepSl Ψ (Fu.fuse b h M).K y.2.2.1) ∧ (RepSl Ψ (Fu.comp (Fu.fuse b h M).N) y.2.2.2) ∧ (RepV Ψ (Fu.hullOf h (Fu.fuse b h M)) [.int .i64 h.Hour, y.1, y.2.1, y.2.2.1])) z.1 z.2 ∧ Hp.le Φ4 z.2} => .tuple #[.agg #[.int .i64 h.Hour, x.1.1.1, x.1.1.2.1, x.1.1.2.2.1], x.1.1.2.2.2]) (fun x => St ⟨w, Φ, []⟩ x.1.2 [.blk b3 36 [.int .i64 h.Hour, fv1, fv2, fv3], .blk b2 36 [.int .i64 h.Hour, hv1, hv2, hv3], .blk b1 31 [.string b.Name, v1, .int .i64 b.Cells, v3, v4, v5, v6, v7, v8, v9, .int .i64 b.Err]]) rfl (e_callX (fun (y : Value × Value × Value × Value) => .tuple #[.agg #[.int .i64 h.Hour, y.1, y.2.1, y.2.2.1], y.2.2.2]) (fun (y : Value × Value × Value × Value) (Ψ : Hp) => (RepSl Ψ (Fu.fuse b h M).V y.1) ∧ (RepSl Ψ h.Queue y.2.1) ∧ (RepSl Ψ (Fu.fuse b h M).K y.2.2.1) ∧ (RepSl Ψ (Fu.comp (Fu.fuse b h M).N) y.2.2.2) ∧ (RepV Ψ (Fu.hullOf h (Fu.fuse b h M)) [.int .i64 h.Hour, y.1, y.2.1, y.2.2.1])) (args := #[.agg #[.string b.Name, v1, .int .i64 b.Cells, v3, v4, v5, v6, v7, v8, v9, .int .i64 b.Err], .agg #[.int .i64 h.Hour, hv1, hv2, hv3], kv]) own12 rfl rfl (fun w1 hw1 => ((((Fuse_c w1 (Go.K.hp w1) (Hp.le_refl _) (hB.mono hw1.phi) (hH.mono hw1.phi) (hkpt.mono hw1.phi) (by omega) (by omega) (by omega) (by omega)).mono fun _ _ => retS_up (fun _ _ _ hl ⟨a, b, c, d, e, h1, h2, h3, h4⟩ => ⟨a, b, c, d, e, h1.mono hl, h2.mono hl, h3.mono hl, h4.mono hl⟩))).mono fun e w2 hr => by obtain ⟨v9, he9, hb9, u1, u2, u3, u4, hr9, q1, q2, q3, q4⟩ := hr; exact (show RetS _ _ (fun r Ψ => ∃ u1 u2 u3 u4 : Value, r = .tuple #[.agg #[.int .i64 h.Hour, u1, u2, u3], u4] ∧ RepSl Ψ (Fu.fuse b h M).V u1 ∧ RepSl Ψ h.Queue u2 ∧ RepSl Ψ (Fu.fuse b h M).K u3 ∧ RepSl Ψ (Fu.comp (Fu.fuse b h M).N) u4 ∧ RepV Ψ (Fu.hullOf h (Fu.fuse b h M)) [.int .i64 h.Hour, u1, u2, u3]) _ _ from ⟨v9, he9, hb9, u1, u2, u3, u4, hr9, q1, q2, q3, q4, ⟨_, _, _, rfl, (show I64 h.Hour from hourOf hH), q1, q2, q3⟩⟩)).mono fun e w2 hr => by obtain ⟨v9, he9, hb9, u1, u2, u3, u4, hr9, q1, q2, q3, q4, q5⟩ := hr; exact ⟨v9, he9, hb9, (u1, u2, u3, u4), hr9, q1, q2, q3, q4, q5⟩)) ?_
          rintro ⟨⟨⟨fv13, fv14, fv15, fv16⟩, Φ5⟩, ⟨kfv13, kfv14, kfv15, kfv16, Hfv13⟩, hlΦ5⟩
          replace kfv13 : RepSl Φ5 (Fu.fuse b h M).V fv13 := kfv13
          replace kfv14 : RepSl Φ5 h.Queue fv14 := kfv14
          replace kfv15 : RepSl Φ5 (Fu.fuse b h M).K fv15 := kfv15
          replace kfv16 : RepSl Φ5 (Fu.comp (Fu.fuse b h M).N) fv16 := kfv16
          replace Hfv13 : RepV Φ5 (Fu.hullOf h (Fu.fuse b h M)) [.int .i64 h.Hour, fv13, fv14, fv15] := Hfv13
          replace hlΦ5 : Hp.le Φ4 Φ5 := hlΦ5
          replace hB := hB.mono hlΦ5
          replace r3 := r3.mono hlΦ5
          replace r6 := r6.mono hlΦ5
          replace hH := hH.mono hlΦ5
          replace hr1 := hr1.mono hlΦ5
          replace hr2 := hr2.mono hlΦ5
          replace hr3 := hr3.mono hlΦ5
          replace hl := hl.mono hlΦ5
          replace kfv1 := kfv1.mono hlΦ5
          replace kfv2 := kfv2.mono hlΦ5
          replace kfv3 := kfv3.mono hlΦ5
          replace kfv4 := kfv4.mono hlΦ5
          replace Hfv1 := Hfv1.mono hlΦ5
          replace hkpt := hkpt.mono hlΦ5
          refine RW.q (v := .tuple #[.agg #[.int .i64 h.Hour, fv13, fv14, fv15], fv16]) rfl (q_move rfl) ?_
          refine RW.q (v := .agg #[.int .i64 h.Hour, fv13, fv14, fv15]) rfl (q_extract rfl rfl) ?_
          refine RW.q (v := fv16) rfl (q_extract rfl rfl) ?_
          refine RW.eff (fun b7 : Nat => .pointer (some (⟨b7, 0, none⟩))) (fun b7 => St ⟨w, Φ, []⟩ Φ5 [.blk b7 36 [.int .i64 0, (.slice none 0 0), (.slice none 0 0), (.slice none 0 0)], .blk b3 36 [.int .i64 h.Hour, fv1, fv2, fv3], .blk b2 36 [.int .i64 h.Hour, hv1, hv2, hv3], .blk b1 31 [.string b.Name, v1, .int .i64 b.Cells, v3, v4, v5, v6, v7, v8, v9, .int .i64 b.Err]]) rfl (e_alloc zero36) ?_
          intro b7
          refine RW.effn (J' := St ⟨w, Φ, []⟩ Φ5 [.blk b7 36 [.int .i64 h.Hour, fv13, fv14, fv15], .blk b3 36 [.int .i64 h.Hour, fv1, fv2, fv3], .blk b2 36 [.int .i64 h.Hour, hv1, hv2, hv3], .blk b1 31 [.string b.Name, v1, .int .i64 b.Cells, v3, v4, v5, v6, v7, v8, v9, .int .i64 b.Err]]) (e_store (v := .agg #[.int .i64 h.Hour, fv13, fv14, fv15]) 0 rfl rfl rfl sz36 rfl (by show List.all [_, fv13, fv14, fv15] _ = true; simp only [List.all_cons, List.all_nil, oneCell_sl kfv13.sl, oneCell_sl kfv14.sl, oneCell_sl kfv15.sl]; rfl) rfl rfl rfl) ?_
          refine RW.q (v := fv16) rfl (q_assign rfl) ?_
          refine RW.nil ?_
          refine Post.then_n ?_
          refine AW.seq ?_
          refine AW.region ?_
          refine RW.q (v := .bool true) rfl (q_move rfl) ?_
          refine RW.q (v := .bool true) rfl (q_move rfl) ?_
          refine RW.gl (v := .agg #[.int .i64 h.Hour, fv1, fv2, fv3]) rfl rfl rfl (q_loadAgg rfl Try.underlying36 rfl sz36 rfl (Cells.blk 1 rfl)) ?_
          refine RW.gl (v := .agg #[.int .i64 h.Hour, fv13, fv14, fv15]) rfl rfl rfl (q_loadAgg rfl Try.underlying36 rfl sz36 rfl (Cells.blk 0 rfl)) ?_
          refine RW.gl (v := .bool true) rfl rfl rfl (q_as (v := .bool (decide (Fu.sameH (Fu.hullOf h (Fu.fuse b h l)) (Fu.hullOf h (Fu.fuse b h M))))) (q_call (args := #[.agg #[.int .i64 h.Hour, fv1, fv2, fv3], .agg #[.int .i64 h.Hour, fv13, fv14, fv15]]) own14 rfl rfl (fun w1 hw1 => Same_c w1 (Go.K.hp w1) (Hp.le_refl _) (Hfv1.mono hw1.phi) (Hfv13.mono hw1.phi))) (congrArg Value.bool (decide_eq_true ⟨rfl, by rw [hkp]; rfl, rfl, by rw [hkp]; rfl⟩))) ?_
          refine RW.q (v := .bool true) rfl (q_pick (t := true) rfl (fun _ => rfl) (fun hp => nomatch hp)) ?_
          refine RW.q (v := .bool true) rfl (q_move rfl) ?_
          refine RW.gl (v := fv16) rfl rfl rfl (q_move rfl) ?_
          refine RW.gl (v := .int .i64 (((Fu.comp (Fu.fuse b h M).N).length : Nat) : Int)) rfl rfl rfl (q_len_sl rfl kfv16.sl Try.underlying29) ?_
          refine RW.gl (v := .bool true) rfl rfl rfl (q_as (v := .bool (decide ((((Fu.comp (Fu.fuse b h M).N).length : Nat) : Int) = 0))) (q_eql rfl rfl) (congrArg Value.bool (by rw [hkp]; rfl))) ?_
          refine RW.q (v := .bool true) rfl (q_pick (t := true) rfl (fun _ => rfl) (fun hp => nomatch hp)) ?_
          refine RW.q (v := .bool true) rfl (q_move rfl) ?_
          refine RW.gl (v := .pointer (some (⟨b3, 1, none⟩))) rfl rfl rfl (q_fieldAddr rfl Try.underlying36 rfl sz32 rfl) ?_
          refine RW.gl (v := fv1) rfl rfl rfl (q_load rfl Try.underlying32 rfl (Cell.blk 1 rfl rfl)) ?_
          refine RW.gl (v := .pointer (some (⟨b7, 1, none⟩))) rfl rfl rfl (q_fieldAddr rfl Try.underlying36 rfl sz32 rfl) ?_
          refine RW.gl (v := fv13) rfl rfl rfl (q_load rfl Try.underlying32 rfl (Cell.blk 0 rfl rfl)) ?_
          refine RW.gl (v := .bool true) rfl rfl rfl (q_as (v := .bool (decide (((Fu.fuse b h l).V) = ((Fu.fuse b h M).V)))) (q_call (args := #[fv1, fv13]) own18 rfl rfl (fun w1 hw1 => SameAll_c w1 (Go.K.hp w1) (Hp.le_refl _) (kfv1.mono hw1.phi) (kfv13.mono hw1.phi))) (congrArg Value.bool (decide_eq_true (by rw [hkp])))) ?_
          refine RW.q (v := .bool true) rfl (q_pick (t := true) rfl (fun _ => rfl) (fun hp => nomatch hp)) ?_
          refine RW.q (v := .bool true) rfl (q_assign rfl) ?_
          refine RW.nil ?_
          refine Post.then_n ?_
          refine AW.ret ?_
          exact fin_val (v' := .bool true) rfl rfl rfl (rfl)

end Go.Proofs.Ytblfeidlnhdekaa
