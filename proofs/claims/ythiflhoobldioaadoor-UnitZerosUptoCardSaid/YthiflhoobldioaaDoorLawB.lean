/- Walks (part LawB), printed by walk2.py. Conditions: those of each theorem. -/
import Derived.Test.YthiflhoobldioaaDoorLawA
import Derived.Test.YthiflhoobldioaaDoorPlainC
namespace Go.Proofs.YthiflhoobldioaaDoor
open Go Go.K Go.RowKit

set_option maxRecDepth 8000 in
set_option maxHeartbeats 1000000 in
theorem UnitZeros_c (w : World) (Φ : Hp) (hΦ : Hp.le Φ (hp w)) (hG : Knows Φ Glob) {l n : List UInt8} {X Y : Int} (hX : 0 ≤ X ∧ X ≤ 255) (hY : 0 ≤ Y ∧ Y ≤ 255) (hl : l.length ≤ 1048576) :
    Calls Tryd.prog 5 #[.string (bs l), .string (bs n), .int .u8 X, .int .u8 Y] w fun e w' => e = .returned (.bool true) ∧ Below w.heap.size w w' := by
  obtain ⟨x, rfl⟩ := Int.eq_ofNat_of_zero_le hX.1
  obtain ⟨y, rfl⟩ := Int.eq_ofNat_of_zero_le hY.1
  refine calls_of_AW (args := [.string (bs l), .string (bs n), .int .u8 ((x : Nat) : Int), .int .u8 ((y : Nat) : Int)]) Tryd.func5 rfl (Nat.le_of_ble_eq_true rfl) (St ⟨w, Φ, []⟩ Φ []) (StP.init w Φ hΦ []) ?_
  show AW Tryd.prog 93 [] _ _ _ [(0, .string (bs l)), (1, .string (bs n)), (2, .int .u8 ((x : Nat) : Int)), (3, .int .u8 ((y : Nat) : Int))] _
  refine AW.seq ?_
  refine AW.region ?_
  refine RW.q (v := .bool false) rfl (q_assign rfl) ?_
  refine RW.nil ?_
  refine Post.then_n ?_
  refine AW.seq ?_
  refine AW.region ?_
  refine RW.q (v := .bool true) rfl (q_call (args := #[]) own8 rfl rfl (fun w1 hw1 => small_c w1 (Go.K.hp w1) (Hp.le_refl _) (hG.mono hw1.phi))) ?_
  refine RW.q (v := .bool true) rfl (q_assign rfl) ?_
  refine RW.nil ?_
  refine Post.then_n ?_
  refine AW.seq ?_
  refine AW.region ?_
  refine RW.q (v := .string (bs l)) rfl (q_move rfl) ?_
  refine RW.eff (fun x : {y : Value × Hp // (fun r Ψ => ∃ v a, r = .tuple #[v, .int .i64 a, .bool (Un.okF l)] ∧ (Un.okF l = true → RepSl Ψ (Un.dl (Un.bef l ++ Un.aft l)) v ∧ a = ((Un.aft l).length : Int))) y.1 y.2 ∧ Hp.le Φ y.2} => x.1.1) (fun x => St ⟨w, Φ, []⟩ x.1.2 []) rfl (e_callS (T := fun r Ψ => ∃ v a, r = .tuple #[v, .int .i64 a, .bool (Un.okF l)] ∧ (Un.okF l = true → RepSl Ψ (Un.dl (Un.bef l ++ Un.aft l)) v ∧ a = ((Un.aft l).length : Int))) (args := #[.string (bs l)]) own14 rfl rfl (fun w1 hw1 => (Split_c w1 (Go.K.hp w1) (Hp.le_refl _) (by omega)).mono fun _ _ => retS_up (fun _ _ _ hl => fun ⟨v, a, e, k⟩ => ⟨v, a, e, fun hk => ⟨(k hk).1.mono hl, (k hk).2⟩⟩))) ?_
  rintro ⟨⟨lv1, Φ1⟩, hsp1, hlΦ1⟩
  replace hsp1 : ∃ v a, lv1 = .tuple #[v, .int .i64 a, .bool (Un.okF l)] ∧ (Un.okF l = true → RepSl Φ1 (Un.dl (Un.bef l ++ Un.aft l)) v ∧ a = ((Un.aft l).length : Int)) := hsp1
  replace hlΦ1 : Hp.le Φ Φ1 := hlΦ1
  replace hG := hG.mono hlΦ1
  obtain ⟨sv1, af1, rfl, hsp1q⟩ := hsp1
  refine RW.q (v := .tuple #[sv1, .int .i64 af1, .bool (Un.okF l)]) rfl (q_move rfl) ?_
  refine RW.q (v := sv1) rfl (q_extract rfl rfl) ?_
  refine RW.q (v := .int .i64 af1) rfl (q_extract rfl rfl) ?_
  refine RW.q (v := .bool (Un.okF l)) rfl (q_extract rfl rfl) ?_
  refine RW.q (v := sv1) rfl (q_assign rfl) ?_
  refine RW.q (v := .int .i64 af1) rfl (q_assign rfl) ?_
  refine RW.q (v := .bool (Un.okF l)) rfl (q_assign rfl) ?_
  refine RW.nil ?_
  refine Post.then_n ?_
  refine AW.seq ?_
  refine AW.seq ?_
  refine AW.region ?_
  refine RW.q (v := .bool (Un.okF l)) rfl (q_move rfl) ?_
  refine RW.q (v := .bool (!(Un.okF l))) rfl (q_not rfl) ?_
  refine RW.q (v := .bool (!(Un.okF l))) rfl (q_move rfl) ?_
  refine RW.g (b := (!(Un.okF l))) (v := .string (bs n)) rfl rfl rfl (fun h => q_move rfl) ?_
  refine RW.g (b := (!(Un.okF l))) (v := .int .i64 ((n.length : Nat) : Int)) rfl rfl rfl (fun h => q_lenS (l := n) (gv_pos h) Tryd.underlying9) ?_
  refine RW.g (b := (!(Un.okF l))) (v := .bool (decide ((60 : Int) < ((n.length : Nat) : Int)))) rfl rfl rfl (fun h => q_gtr (gv_pos h) rfl) ?_
  refine RW.q (v := .bool ((!(Un.okF l)) || (decide ((60 : Int) < ((n.length : Nat) : Int))))) rfl (q_pick rfl (fun hp => pkOrT hp) (fun hp => (gv_pos hp).trans (pkOrF hp))) ?_
  refine RW.nil ?_
  refine Post.then_n ?_
  refine AW.cond (b := (!(Un.okF l)) || (decide ((60 : Int) < ((n.length : Nat) : Int)))) rfl (fun hc1 => ?_) (fun hc1 => ?_)
  · simp [-List.getD_eq_getElem?_getD] at hc1
    refine AW.seq ?_
    refine AW.region ?_
    refine RW.q (v := .bool true) rfl (q_move rfl) ?_
    refine RW.q (v := .bool true) rfl (q_assign rfl) ?_
    refine RW.nil ?_
    refine Post.then_n ?_
    refine AW.ret ?_
    refine Post.then_r ?_
    exact fin_val (v' := .bool true) rfl rfl rfl (rfl)
  · simp [-List.getD_eq_getElem?_getD] at hc1
    refine AW.skip ?_
    refine Post.then_n ?_
    refine AW.seq ?_
    obtain ⟨hsl, haf⟩ := hsp1q hc1.1
    subst haf
    obtain ⟨hb1, hb2, ha9, hpa⟩ := Un.okF_len hc1.1
    have hbl := Un.bef_len l
    refine AW.region ?_
    refine RW.q (v := .string (bs l)) rfl (q_move rfl) ?_
    refine RW.q (v := .string (bs l)) rfl (q_assign rfl) ?_
    refine RW.nil ?_
    refine Post.then_n ?_
    refine AW.seq ?_
    refine AW.seq ?_
    refine AW.region ?_
    refine RW.q (v := .int .i64 0) rfl (q_assign rfl) ?_
    refine RW.nil ?_
    refine Post.then_n ?_
    refine AW.block ?_
    refine AW.loop (fun s J m => ∃ (i : Nat), ∃ (q : List UInt8), s = [(0, .string (bs l)), (1, .string (bs n)), (2, .int .u8 ((x : Nat) : Int)), (3, .int .u8 ((y : Nat) : Int)), (8, .bool false), (9, .bool true), (11, .int .i64 (((Un.aft l).length : Nat) : Int)), (13, .string (bs q)), (14, .int .i64 (i : Int))] ∧ J = St ⟨w, Φ, []⟩ Φ1 [] ∧ m = x % 5 - i ∧ (i ≤ x % 5) ∧ (q = List.replicate i 48 ++ l)) (s0 := _) (J1 := _) (m0 := _) ⟨0, _, rfl, rfl, rfl, (by omega), rfl⟩ ⟨rfl, rfl, rfl, rfl, rfl, rfl, rfl, rfl, rfl, trivial⟩ (fun _ h => h) ?_
    rintro _ _ _ _ ⟨i, q, rfl, rfl, rfl, hi, hq⟩
    refine AW.seq ?_
    refine AW.seq ?_
    refine AW.region ?_
    refine RW.q (v := .int .i64 (i : Int)) rfl (q_move rfl) ?_
    refine RW.q (v := .int .u8 ((x : Nat) : Int)) rfl (q_move rfl) ?_
    refine RW.q (v := .int .u8 ((x % 5 : Nat) : Int)) rfl (q_remB (a := x) (b := 5) rfl rfl (by omega)) ?_
    refine RW.q (v := .int .i64 ((x % 5 : Nat) : Int)) rfl (q_toK (k := .i64) rfl Tryd.underlying5 Tryd.underlying3 (wrap64_of (by unfold I64; omega))) ?_
    refine RW.q (v := .bool (decide ((i : Int) < ((x % 5 : Nat) : Int)))) rfl (q_lss rfl rfl) ?_
    refine RW.nil ?_
    refine Post.then_n ?_
    refine AW.cond (b := decide ((i : Int) < ((x % 5 : Nat) : Int))) rfl (fun hc2 => ?_) (fun hc2 => ?_)
    · simp [-List.getD_eq_getElem?_getD] at hc2
      refine AW.skip ?_
      refine Post.then_n ?_
      refine AW.seq ?_
      refine AW.block ?_
      have hql : q.length ≤ l.length + 5 := by rw [hq]; simp only [List.length_append, List.length_replicate]; omega
      refine AW.region ?_
      refine RW.q (v := .string (bs q)) rfl (q_move rfl) ?_
      refine RW.q (v := .string (bs (([48] : List UInt8) ++ q))) rfl (q_catStr (l := ([48] : List UInt8)) (r := q) rfl rfl (by simp only [List.length_append, List.length_cons, List.length_nil]; omega) rfl) ?_
      refine RW.q (v := .string (bs (([48] : List UInt8) ++ q))) rfl (q_assign rfl) ?_
      refine RW.nil ?_
      refine Post.blk_n (Post.then_n ?_)
      refine AW.region ?_
      refine RW.q (v := .int .i64 (i : Int)) rfl (q_move rfl) ?_
      refine RW.q (v := .int .i64 ((i + 1 : Nat) : Int)) rfl (q_add rfl rfl (by omega) (by unfold I64; omega)) ?_
      refine RW.q (v := .int .i64 ((i + 1 : Nat) : Int)) rfl (q_assign rfl) ?_
      refine RW.nil ?_
      exact Post.back (s' := _) (J' := _) (m' := _) (by omega) ⟨i + 1, _, rfl, rfl, rfl, (by omega), (by rw [hq, ← List.append_assoc]; rfl)⟩ ⟨rfl, rfl, rfl, rfl, rfl, rfl, rfl, rfl, rfl, trivial⟩ (fun _ h => h)
    · simp [-List.getD_eq_getElem?_getD] at hc2
      refine AW.exit ?_
      refine Post.then_x (Post.then_x (Post.blk_hit (Post.then_n ?_)))
      refine AW.seq ?_
      refine AW.seq ?_
      refine AW.region ?_
      refine RW.q (v := .int .i64 0) rfl (q_assign rfl) ?_
      refine RW.nil ?_
      refine Post.then_n ?_
      refine AW.block ?_
      refine AW.loop (fun s J m => ∃ (j : Nat), ∃ (p : List UInt8), s = [(0, .string (bs l)), (1, .string (bs n)), (3, .int .u8 ((y : Nat) : Int)), (8, .bool false), (9, .bool true), (11, .int .i64 (((Un.aft l).length : Nat) : Int)), (13, .string (bs p)), (15, .int .i64 (j : Int))] ∧ J = St ⟨w, Φ, []⟩ Φ1 [] ∧ m = y % 5 - j ∧ (j ≤ y % 5) ∧ (p = q ++ List.replicate j 48) ∧ (0 < j → Un.pt l = true)) (s0 := _) (J1 := _) (m0 := _) ⟨0, _, rfl, rfl, rfl, (by omega), (List.append_nil _).symm, (fun h => absurd h (Nat.lt_irrefl _))⟩ ⟨rfl, rfl, rfl, rfl, rfl, rfl, rfl, rfl, trivial⟩ (fun _ h => h) ?_
      rintro _ _ _ _ ⟨j, p, rfl, rfl, rfl, hj, hp, hj0⟩
      refine AW.seq ?_
      refine AW.seq ?_
      refine AW.region ?_
      refine RW.q (v := .int .i64 (j : Int)) rfl (q_move rfl) ?_
      refine RW.q (v := .int .u8 ((y : Nat) : Int)) rfl (q_move rfl) ?_
      refine RW.q (v := .int .u8 ((y % 5 : Nat) : Int)) rfl (q_remB (a := y) (b := 5) rfl rfl (by omega)) ?_
      refine RW.q (v := .int .i64 ((y % 5 : Nat) : Int)) rfl (q_toK (k := .i64) rfl Tryd.underlying5 Tryd.underlying3 (wrap64_of (by unfold I64; omega))) ?_
      refine RW.q (v := .bool (decide ((j : Int) < ((y % 5 : Nat) : Int)))) rfl (q_lss rfl rfl) ?_
      refine RW.q (v := .bool (decide ((j : Int) < ((y % 5 : Nat) : Int)))) rfl (q_move rfl) ?_
      refine RW.g (b := (decide ((j : Int) < ((y % 5 : Nat) : Int)))) (v := .int .i64 (((Un.aft l).length : Nat) : Int)) rfl rfl rfl (fun h => q_move rfl) ?_
      refine RW.g (b := (decide ((j : Int) < ((y % 5 : Nat) : Int)))) (v := .bool (decide ((0 : Int) < (((Un.aft l).length : Nat) : Int)))) rfl rfl rfl (fun h => q_gtr (gv_pos h) rfl) ?_
      refine RW.q (v := .bool ((decide ((j : Int) < ((y % 5 : Nat) : Int))) && (decide ((0 : Int) < (((Un.aft l).length : Nat) : Int))))) rfl (q_pick rfl (fun hp => (gv_pos hp).trans (pkAndT hp)) (fun hp => pkAndF hp)) ?_
      refine RW.nil ?_
      refine Post.then_n ?_
      refine AW.cond (b := (decide ((j : Int) < ((y % 5 : Nat) : Int))) && (decide ((0 : Int) < (((Un.aft l).length : Nat) : Int)))) rfl (fun hc3 => ?_) (fun hc3 => ?_)
      · simp [-List.getD_eq_getElem?_getD] at hc3
        refine AW.skip ?_
        refine Post.then_n ?_
        refine AW.seq ?_
        refine AW.block ?_
        have hpl : p.length ≤ l.length + 10 := by rw [hp, hq]; simp only [List.length_append, List.length_replicate]; omega
        refine AW.region ?_
        refine RW.q (v := .string (bs p)) rfl (q_move rfl) ?_
        refine RW.q (v := .string (bs (p ++ ([48] : List UInt8)))) rfl (q_catStr (l := p) (r := ([48] : List UInt8)) rfl rfl (by simp only [List.length_append, List.length_cons, List.length_nil]; omega) rfl) ?_
        refine RW.q (v := .string (bs (p ++ ([48] : List UInt8)))) rfl (q_assign rfl) ?_
        refine RW.nil ?_
        refine Post.blk_n (Post.then_n ?_)
        refine AW.region ?_
        refine RW.q (v := .int .i64 (j : Int)) rfl (q_move rfl) ?_
        refine RW.q (v := .int .i64 ((j + 1 : Nat) : Int)) rfl (q_add rfl rfl (by omega) (by unfold I64; omega)) ?_
        refine RW.q (v := .int .i64 ((j + 1 : Nat) : Int)) rfl (q_assign rfl) ?_
        refine RW.nil ?_
        exact Post.back (s' := _) (J' := _) (m' := _) (by omega) ⟨j + 1, _, rfl, rfl, rfl, (by omega), (by rw [hp, List.append_assoc, ← List.replicate_succ']), (by intro h9; cases hpp : Un.pt l with | true => rfl | false => exact absurd (show 0 < (Un.aft l).length by omega) (by rw [(Un.bef_np hpp).2]; simp))⟩ ⟨rfl, rfl, rfl, rfl, rfl, rfl, rfl, rfl, trivial⟩ (fun _ h => h)
      · simp [-List.getD_eq_getElem?_getD] at hc3
        refine AW.exit ?_
        refine Post.then_x (Post.then_x (Post.blk_hit (Post.then_n ?_)))
        refine AW.seq ?_
        have hpl : p.length ≤ l.length + 10 := by rw [hp, hq]; simp only [List.length_append, List.length_replicate]; omega
        refine AW.region ?_
        refine RW.q (v := .string (bs p)) rfl (q_move rfl) ?_
        refine RW.eff (fun x : {y : Value × Hp // (fun r Ψ => ∃ v a, r = .tuple #[v, .int .i64 a, .bool (Un.okF p)] ∧ (Un.okF p = true → RepSl Ψ (Un.dl (Un.bef p ++ Un.aft p)) v ∧ a = ((Un.aft p).length : Int))) y.1 y.2 ∧ Hp.le Φ1 y.2} => x.1.1) (fun x => St ⟨w, Φ, []⟩ x.1.2 []) rfl (e_callS (T := fun r Ψ => ∃ v a, r = .tuple #[v, .int .i64 a, .bool (Un.okF p)] ∧ (Un.okF p = true → RepSl Ψ (Un.dl (Un.bef p ++ Un.aft p)) v ∧ a = ((Un.aft p).length : Int))) (args := #[.string (bs p)]) own14 rfl rfl (fun w1 hw1 => (Split_c w1 (Go.K.hp w1) (Hp.le_refl _) (by omega)).mono fun _ _ => retS_up (fun _ _ _ hl => fun ⟨v, a, e, k⟩ => ⟨v, a, e, fun hk => ⟨(k hk).1.mono hl, (k hk).2⟩⟩))) ?_
        rintro ⟨⟨lv2, Φ2⟩, hsp2, hlΦ2⟩
        replace hsp2 : ∃ v a, lv2 = .tuple #[v, .int .i64 a, .bool (Un.okF p)] ∧ (Un.okF p = true → RepSl Φ2 (Un.dl (Un.bef p ++ Un.aft p)) v ∧ a = ((Un.aft p).length : Int)) := hsp2
        replace hlΦ2 : Hp.le Φ1 Φ2 := hlΦ2
        replace hG := hG.mono hlΦ2
        replace hsl := hsl.mono hlΦ2
        obtain ⟨sv2, af2, rfl, hsp2q⟩ := hsp2
        refine RW.q (v := .tuple #[sv2, .int .i64 af2, .bool (Un.okF p)]) rfl (q_move rfl) ?_
        refine RW.q (v := sv2) rfl (q_extract rfl rfl) ?_
        refine RW.q (v := .int .i64 af2) rfl (q_extract rfl rfl) ?_
        refine RW.q (v := .bool (Un.okF p)) rfl (q_extract rfl rfl) ?_
        refine RW.q (v := sv2) rfl (q_assign rfl) ?_
        refine RW.q (v := .int .i64 af2) rfl (q_assign rfl) ?_
        refine RW.q (v := .bool (Un.okF p)) rfl (q_assign rfl) ?_
        refine RW.nil ?_
        refine Post.then_n ?_
        refine AW.seq ?_
        refine AW.seq ?_
        refine AW.region ?_
        refine RW.q (v := .bool (Un.okF p)) rfl (q_move rfl) ?_
        refine RW.q (v := .bool (!(Un.okF p))) rfl (q_not rfl) ?_
        refine RW.nil ?_
        refine Post.then_n ?_
        refine AW.cond (b := !(Un.okF p)) rfl (fun hc4 => ?_) (fun hc4 => ?_)
        · simp [-List.getD_eq_getElem?_getD] at hc4
          refine AW.seq ?_
          refine AW.region ?_
          refine RW.q (v := .bool true) rfl (q_move rfl) ?_
          refine RW.q (v := .bool true) rfl (q_assign rfl) ?_
          refine RW.nil ?_
          refine Post.then_n ?_
          refine AW.ret ?_
          refine Post.then_r ?_
          exact fin_val (v' := .bool true) rfl rfl rfl (rfl)
        · simp [-List.getD_eq_getElem?_getD] at hc4
          refine AW.skip ?_
          refine Post.then_n ?_
          refine AW.seq ?_
          have hpe : p = List.replicate i 48 ++ l ++ List.replicate j 48 := by rw [hp, hq]
          have heq : Un.amt p n = Un.amt l n := by rw [hpe]; exact Un.amt_zeros hc1.1 hj0 (by rw [← hpe]; exact hc4)
          have hpl : p.length ≤ l.length + 10 := by rw [hpe]; simp only [List.length_append, List.length_replicate]; omega
          refine AW.region ?_
          refine RW.q (v := .string (bs l)) rfl (q_move rfl) ?_
          refine RW.q (v := .string (bs n)) rfl (q_move rfl) ?_
          refine RW.q (v := .tuple #[.agg #[.int .i64 (((Un.amt l n).1 : Nat) : Int), .int .i64 (((Un.amt l n).2.1 : Nat) : Int)], .int .i64 (((Un.amt l n).2.2 : Nat) : Int)]) rfl (q_call (args := #[.string (bs l), .string (bs n)]) own9 rfl rfl (fun w1 hw1 => Amount_c w1 (Go.K.hp w1) (Hp.le_refl _) (hG.mono hw1.phi) (by omega))) ?_
          refine RW.q (v := .tuple #[.agg #[.int .i64 (((Un.amt l n).1 : Nat) : Int), .int .i64 (((Un.amt l n).2.1 : Nat) : Int)], .int .i64 (((Un.amt l n).2.2 : Nat) : Int)]) rfl (q_move rfl) ?_
          refine RW.q (v := .agg #[.int .i64 (((Un.amt l n).1 : Nat) : Int), .int .i64 (((Un.amt l n).2.1 : Nat) : Int)]) rfl (q_extract rfl rfl) ?_
          refine RW.q (v := .int .i64 (((Un.amt l n).2.2 : Nat) : Int)) rfl (q_extract rfl rfl) ?_
          refine RW.eff (fun b1 : Nat => .pointer (some (⟨b1, 0, none⟩))) (fun b1 => St ⟨w, Φ, []⟩ Φ2 [.blk b1 23 [.int .i64 0, .int .i64 0]]) rfl (e_alloc zero23) ?_
          intro b1
          refine RW.effn (J' := St ⟨w, Φ, []⟩ Φ2 [.blk b1 23 [.int .i64 (((Un.amt l n).1 : Nat) : Int), .int .i64 (((Un.amt l n).2.1 : Nat) : Int)]]) (e_store (v := .agg #[.int .i64 (((Un.amt l n).1 : Nat) : Int), .int .i64 (((Un.amt l n).2.1 : Nat) : Int)]) 0 rfl rfl rfl sz23 rfl rfl rfl rfl rfl) ?_
          refine RW.q (v := .int .i64 (((Un.amt l n).2.2 : Nat) : Int)) rfl (q_assign rfl) ?_
          refine RW.nil ?_
          refine Post.then_n ?_
          refine AW.seq ?_
          refine AW.region ?_
          refine RW.q (v := .string (bs p)) rfl (q_move rfl) ?_
          refine RW.q (v := .string (bs n)) rfl (q_move rfl) ?_
          refine RW.q (v := .tuple #[.agg #[.int .i64 (((Un.amt p n).1 : Nat) : Int), .int .i64 (((Un.amt p n).2.1 : Nat) : Int)], .int .i64 (((Un.amt p n).2.2 : Nat) : Int)]) rfl (q_call (args := #[.string (bs p), .string (bs n)]) own9 rfl rfl (fun w1 hw1 => Amount_c w1 (Go.K.hp w1) (Hp.le_refl _) (hG.mono hw1.phi) (by omega))) ?_
          refine RW.q (v := .tuple #[.agg #[.int .i64 (((Un.amt p n).1 : Nat) : Int), .int .i64 (((Un.amt p n).2.1 : Nat) : Int)], .int .i64 (((Un.amt p n).2.2 : Nat) : Int)]) rfl (q_move rfl) ?_
          refine RW.q (v := .agg #[.int .i64 (((Un.amt p n).1 : Nat) : Int), .int .i64 (((Un.amt p n).2.1 : Nat) : Int)]) rfl (q_extract rfl rfl) ?_
          refine RW.q (v := .int .i64 (((Un.amt p n).2.2 : Nat) : Int)) rfl (q_extract rfl rfl) ?_
          refine RW.eff (fun b2 : Nat => .pointer (some (⟨b2, 0, none⟩))) (fun b2 => St ⟨w, Φ, []⟩ Φ2 [.blk b2 23 [.int .i64 0, .int .i64 0], .blk b1 23 [.int .i64 (((Un.amt l n).1 : Nat) : Int), .int .i64 (((Un.amt l n).2.1 : Nat) : Int)]]) rfl (e_alloc zero23) ?_
          intro b2
          refine RW.effn (J' := St ⟨w, Φ, []⟩ Φ2 [.blk b2 23 [.int .i64 (((Un.amt p n).1 : Nat) : Int), .int .i64 (((Un.amt p n).2.1 : Nat) : Int)], .blk b1 23 [.int .i64 (((Un.amt l n).1 : Nat) : Int), .int .i64 (((Un.amt l n).2.1 : Nat) : Int)]]) (e_store (v := .agg #[.int .i64 (((Un.amt p n).1 : Nat) : Int), .int .i64 (((Un.amt p n).2.1 : Nat) : Int)]) 0 rfl rfl rfl sz23 rfl rfl rfl rfl rfl) ?_
          refine RW.q (v := .int .i64 (((Un.amt p n).2.2 : Nat) : Int)) rfl (q_assign rfl) ?_
          refine RW.nil ?_
          refine Post.then_n ?_
          refine AW.seq ?_
          rw [heq]
          refine AW.region ?_
          refine RW.q (v := .bool true) rfl (q_move rfl) ?_
          refine RW.q (v := .bool true) rfl (q_move rfl) ?_
          refine RW.gl (v := .agg #[.int .i64 (((Un.amt l n).1 : Nat) : Int), .int .i64 (((Un.amt l n).2.1 : Nat) : Int)]) rfl rfl rfl (q_loadAgg rfl Tryd.underlying23 rfl sz23 rfl (Cells.blk 1 rfl)) ?_
          refine RW.gl (v := .agg #[.int .i64 (((Un.amt l n).1 : Nat) : Int), .int .i64 (((Un.amt l n).2.1 : Nat) : Int)]) rfl rfl rfl (q_loadAgg rfl Tryd.underlying23 rfl sz23 rfl (Cells.blk 0 rfl)) ?_
          refine RW.gl (v := .bool true) rfl rfl rfl (q_as (v := .bool (decide ((((Un.amt l n).1 : Nat) : Int) = (((Un.amt l n).1 : Nat) : Int)) && decide ((((Un.amt l n).2.1 : Nat) : Int) = (((Un.amt l n).2.1 : Nat) : Int)))) (q_eqlS rfl rfl (eqS23 _ _ _ _) eqG23) (congrArg Value.bool (by simp))) ?_
          refine RW.q (v := .bool true) rfl (q_pick rfl (fun hp => pkOrT (q := true) (r := false) hp) (fun hp => pkOrF (q := true) (r := false) hp)) ?_
          refine RW.q (v := .bool true) rfl (q_move rfl) ?_
          refine RW.gl (v := .int .i64 (((Un.amt l n).2.2 : Nat) : Int)) rfl rfl rfl (q_move rfl) ?_
          refine RW.gl (v := .int .i64 (((Un.amt l n).2.2 : Nat) : Int)) rfl rfl rfl (q_move rfl) ?_
          refine RW.gl (v := .bool true) rfl rfl rfl (q_as (v := .bool (decide ((((Un.amt l n).2.2 : Nat) : Int) = (((Un.amt l n).2.2 : Nat) : Int)))) (q_eql rfl rfl) (congrArg Value.bool (decide_eq_true rfl))) ?_
          refine RW.q (v := .bool true) rfl (q_pick rfl (fun hp => pkOrT (q := true) (r := false) hp) (fun hp => pkOrF (q := true) (r := false) hp)) ?_
          refine RW.q (v := .bool true) rfl (q_assign rfl) ?_
          refine RW.nil ?_
          refine Post.then_n ?_
          refine AW.ret ?_
          exact fin_val (v' := .bool true) rfl rfl rfl (rfl)

end Go.Proofs.YthiflhoobldioaaDoor
