/- Walks (part LawD), printed by walk2.py. Conditions: those of each theorem. -/
import Derived.Test.YthiflhoobldioaaDoorLawC
import Derived.Test.YthiflhoobldioaaDoorPlainC
namespace Go.Proofs.YthiflhoobldioaaDoor
open Go Go.K Go.RowKit

set_option maxRecDepth 8000 in
set_option maxHeartbeats 1000000 in
theorem UnitAdds_c (w : World) (Φ : Hp) (hΦ : Hp.le Φ (hp w)) (hG : Knows Φ Glob) {a b : Int} {l : List UInt8} :
    Calls Tryd.prog 7 #[.int .i64 a, .int .i64 b, .string (bs l)] w fun e w' => e = .returned (.bool true) ∧ Below w.heap.size w w' := by
  refine calls_of_AW (args := [.int .i64 a, .int .i64 b, .string (bs l)]) Tryd.func7 rfl (Nat.le_of_ble_eq_true rfl) (St ⟨w, Φ, []⟩ Φ []) (StP.init w Φ hΦ []) ?_
  show AW Tryd.prog 100 [] _ _ _ [(0, .int .i64 a), (1, .int .i64 b), (2, .string (bs l))] _
  refine AW.seq ?_
  refine AW.region ?_
  refine RW.q (v := .bool false) rfl (q_assign rfl) ?_
  refine RW.nil ?_
  refine Post.then_n ?_
  refine AW.seq ?_
  refine AW.region ?_
  refine RW.q (v := .bool true) rfl (q_call (args := #[]) own8 rfl rfl (fun w1 hw1 => small_c w1 (Go.K.hp w1) (Hp.le_refl _) (hG.mono hw1.phi))) ?_
  refine RW.q (v := .bool true) rfl (q_assign rfl) ?_
  refine RW.nil ?_
  refine Post.then_n ?_
  refine AW.seq ?_
  refine AW.seq ?_
  refine AW.region ?_
  refine RW.q (v := .int .i64 a) rfl (q_move rfl) ?_
  refine RW.q (v := .bool (decide (a < 0))) rfl (q_lss rfl rfl) ?_
  refine RW.q (v := .bool (decide (a < 0))) rfl (q_move rfl) ?_
  refine RW.g (b := (decide (a < 0))) (v := .int .i64 a) rfl rfl rfl (fun h => q_move rfl) ?_
  refine RW.g (b := (decide (a < 0))) (v := .bool (decide ((1099511627776 : Int) < a))) rfl rfl rfl (fun h => q_gtr (gv_pos h) rfl) ?_
  refine RW.q (v := .bool ((decide (a < 0)) || (decide ((1099511627776 : Int) < a)))) rfl (q_pick rfl (fun hp => pkOrT hp) (fun hp => (gv_pos hp).trans (pkOrF hp))) ?_
  refine RW.q (v := .bool ((decide (a < 0)) || (decide ((1099511627776 : Int) < a)))) rfl (q_move rfl) ?_
  refine RW.g (b := ((decide (a < 0)) || (decide ((1099511627776 : Int) < a)))) (v := .int .i64 b) rfl rfl rfl (fun h => q_move rfl) ?_
  refine RW.g (b := ((decide (a < 0)) || (decide ((1099511627776 : Int) < a)))) (v := .bool (decide (b < 0))) rfl rfl rfl (fun h => q_lss (gv_pos h) rfl) ?_
  refine RW.q (v := .bool (((decide (a < 0)) || (decide ((1099511627776 : Int) < a))) || (decide (b < 0)))) rfl (q_pick rfl (fun hp => pkOrT hp) (fun hp => (gv_pos hp).trans (pkOrF hp))) ?_
  refine RW.q (v := .bool (((decide (a < 0)) || (decide ((1099511627776 : Int) < a))) || (decide (b < 0)))) rfl (q_move rfl) ?_
  refine RW.g (b := (((decide (a < 0)) || (decide ((1099511627776 : Int) < a))) || (decide (b < 0)))) (v := .int .i64 b) rfl rfl rfl (fun h => q_move rfl) ?_
  refine RW.g (b := (((decide (a < 0)) || (decide ((1099511627776 : Int) < a))) || (decide (b < 0)))) (v := .bool (decide ((1099511627776 : Int) < b))) rfl rfl rfl (fun h => q_gtr (gv_pos h) rfl) ?_
  refine RW.q (v := .bool ((((decide (a < 0)) || (decide ((1099511627776 : Int) < a))) || (decide (b < 0))) || (decide ((1099511627776 : Int) < b)))) rfl (q_pick rfl (fun hp => pkOrT hp) (fun hp => (gv_pos hp).trans (pkOrF hp))) ?_
  refine RW.nil ?_
  refine Post.then_n ?_
  refine AW.cond (b := (((decide (a < 0)) || (decide ((1099511627776 : Int) < a))) || (decide (b < 0))) || (decide ((1099511627776 : Int) < b))) rfl (fun hc1 => ?_) (fun hc1 => ?_)
  · simp [-List.getD_eq_getElem?_getD] at hc1
    refine AW.seq ?_
    refine AW.region ?_
    refine RW.q (v := .bool true) rfl (q_move rfl) ?_
    refine RW.q (v := .bool true) rfl (q_assign rfl) ?_
    refine RW.nil ?_
    refine Post.then_n ?_
    refine AW.ret ?_
    refine Post.then_r ?_
    exact fin_val (v' := .bool true) rfl rfl rfl (rfl)
  · simp [-List.getD_eq_getElem?_getD] at hc1
    refine AW.skip ?_
    refine Post.then_n ?_
    refine AW.seq ?_
    obtain ⟨p, rfl⟩ := Int.eq_ofNat_of_zero_le (show 0 ≤ a by omega)
    obtain ⟨q, rfl⟩ := Int.eq_ofNat_of_zero_le (show 0 ≤ b by omega)
    have hd0 : (Lib.decDigits (p)).length ≤ 16 := Un.dec_len_le (by omega) (by omega)
    have hd1 : (Lib.decDigits (q)).length ≤ 16 := Un.dec_len_le (by omega) (by omega)
    have hd2 : (Lib.decDigits (p + q)).length ≤ 16 := Un.dec_len_le (by omega) (by omega)
    have hm0 := (Un.amt_le (Lib.decDigits (p)) l).1
    have hm1 := (Un.amt_le (Lib.decDigits (q)) l).1
    unfold Un.M at hm0 hm1
    refine AW.region ?_
    refine RW.q (v := .int .i64 (p : Int)) rfl (q_move rfl) ?_
    refine RW.q (v := .string (bs (Lib.decDigits p))) rfl (q_call (args := #[.int .i64 (p : Int)]) own15 rfl rfl (fun w1 hw1 => Digits_c w1 (Go.K.hp w1) (Hp.le_refl _) (by omega))) ?_
    refine RW.q (v := .string (bs l)) rfl (q_move rfl) ?_
    refine RW.q (v := .tuple #[.agg #[.int .i64 (((Un.amt (Lib.decDigits p) l).1 : Nat) : Int), .int .i64 (((Un.amt (Lib.decDigits p) l).2.1 : Nat) : Int)], .int .i64 (((Un.amt (Lib.decDigits p) l).2.2 : Nat) : Int)]) rfl (q_call (args := #[.string (bs (Lib.decDigits p)), .string (bs l)]) own9 rfl rfl (fun w1 hw1 => Amount_c w1 (Go.K.hp w1) (Hp.le_refl _) (hG.mono hw1.phi) (by omega))) ?_
    refine RW.q (v := .tuple #[.agg #[.int .i64 (((Un.amt (Lib.decDigits p) l).1 : Nat) : Int), .int .i64 (((Un.amt (Lib.decDigits p) l).2.1 : Nat) : Int)], .int .i64 (((Un.amt (Lib.decDigits p) l).2.2 : Nat) : Int)]) rfl (q_move rfl) ?_
    refine RW.q (v := .agg #[.int .i64 (((Un.amt (Lib.decDigits p) l).1 : Nat) : Int), .int .i64 (((Un.amt (Lib.decDigits p) l).2.1 : Nat) : Int)]) rfl (q_extract rfl rfl) ?_
    refine RW.q (v := .int .i64 (((Un.amt (Lib.decDigits p) l).2.2 : Nat) : Int)) rfl (q_extract rfl rfl) ?_
    refine RW.eff (fun b1 : Nat => .pointer (some (⟨b1, 0, none⟩))) (fun b1 => St ⟨w, Φ, []⟩ Φ [.blk b1 23 [.int .i64 0, .int .i64 0]]) rfl (e_alloc zero23) ?_
    intro b1
    refine RW.effn (J' := St ⟨w, Φ, []⟩ Φ [.blk b1 23 [.int .i64 (((Un.amt (Lib.decDigits p) l).1 : Nat) : Int), .int .i64 (((Un.amt (Lib.decDigits p) l).2.1 : Nat) : Int)]]) (e_store (v := .agg #[.int .i64 (((Un.amt (Lib.decDigits p) l).1 : Nat) : Int), .int .i64 (((Un.amt (Lib.decDigits p) l).2.1 : Nat) : Int)]) 0 rfl rfl rfl sz23 rfl rfl rfl rfl rfl) ?_
    refine RW.q (v := .int .i64 (((Un.amt (Lib.decDigits p) l).2.2 : Nat) : Int)) rfl (q_assign rfl) ?_
    refine RW.nil ?_
    refine Post.then_n ?_
    refine AW.seq ?_
    refine AW.region ?_
    refine RW.q (v := .int .i64 (q : Int)) rfl (q_move rfl) ?_
    refine RW.q (v := .string (bs (Lib.decDigits q))) rfl (q_call (args := #[.int .i64 (q : Int)]) own15 rfl rfl (fun w1 hw1 => Digits_c w1 (Go.K.hp w1) (Hp.le_refl _) (by omega))) ?_
    refine RW.q (v := .string (bs l)) rfl (q_move rfl) ?_
    refine RW.q (v := .tuple #[.agg #[.int .i64 (((Un.amt (Lib.decDigits q) l).1 : Nat) : Int), .int .i64 (((Un.amt (Lib.decDigits q) l).2.1 : Nat) : Int)], .int .i64 (((Un.amt (Lib.decDigits q) l).2.2 : Nat) : Int)]) rfl (q_call (args := #[.string (bs (Lib.decDigits q)), .string (bs l)]) own9 rfl rfl (fun w1 hw1 => Amount_c w1 (Go.K.hp w1) (Hp.le_refl _) (hG.mono hw1.phi) (by omega))) ?_
    refine RW.q (v := .tuple #[.agg #[.int .i64 (((Un.amt (Lib.decDigits q) l).1 : Nat) : Int), .int .i64 (((Un.amt (Lib.decDigits q) l).2.1 : Nat) : Int)], .int .i64 (((Un.amt (Lib.decDigits q) l).2.2 : Nat) : Int)]) rfl (q_move rfl) ?_
    refine RW.q (v := .agg #[.int .i64 (((Un.amt (Lib.decDigits q) l).1 : Nat) : Int), .int .i64 (((Un.amt (Lib.decDigits q) l).2.1 : Nat) : Int)]) rfl (q_extract rfl rfl) ?_
    refine RW.q (v := .int .i64 (((Un.amt (Lib.decDigits q) l).2.2 : Nat) : Int)) rfl (q_extract rfl rfl) ?_
    refine RW.eff (fun b2 : Nat => .pointer (some (⟨b2, 0, none⟩))) (fun b2 => St ⟨w, Φ, []⟩ Φ [.blk b2 23 [.int .i64 0, .int .i64 0], .blk b1 23 [.int .i64 (((Un.amt (Lib.decDigits p) l).1 : Nat) : Int), .int .i64 (((Un.amt (Lib.decDigits p) l).2.1 : Nat) : Int)]]) rfl (e_alloc zero23) ?_
    intro b2
    refine RW.effn (J' := St ⟨w, Φ, []⟩ Φ [.blk b2 23 [.int .i64 (((Un.amt (Lib.decDigits q) l).1 : Nat) : Int), .int .i64 (((Un.amt (Lib.decDigits q) l).2.1 : Nat) : Int)], .blk b1 23 [.int .i64 (((Un.amt (Lib.decDigits p) l).1 : Nat) : Int), .int .i64 (((Un.amt (Lib.decDigits p) l).2.1 : Nat) : Int)]]) (e_store (v := .agg #[.int .i64 (((Un.amt (Lib.decDigits q) l).1 : Nat) : Int), .int .i64 (((Un.amt (Lib.decDigits q) l).2.1 : Nat) : Int)]) 0 rfl rfl rfl sz23 rfl rfl rfl rfl rfl) ?_
    refine RW.q (v := .int .i64 (((Un.amt (Lib.decDigits q) l).2.2 : Nat) : Int)) rfl (q_assign rfl) ?_
    refine RW.nil ?_
    refine Post.then_n ?_
    refine AW.seq ?_
    refine AW.region ?_
    refine RW.q (v := .int .i64 (p : Int)) rfl (q_move rfl) ?_
    refine RW.q (v := .int .i64 (q : Int)) rfl (q_move rfl) ?_
    refine RW.q (v := .int .i64 ((p + q : Nat) : Int)) rfl (q_add rfl rfl (by omega) (by unfold I64; omega)) ?_
    refine RW.q (v := .string (bs (Lib.decDigits (p + q)))) rfl (q_call (args := #[.int .i64 ((p + q : Nat) : Int)]) own15 rfl rfl (fun w1 hw1 => Digits_c w1 (Go.K.hp w1) (Hp.le_refl _) (by omega))) ?_
    refine RW.q (v := .string (bs l)) rfl (q_move rfl) ?_
    refine RW.q (v := .tuple #[.agg #[.int .i64 (((Un.amt (Lib.decDigits (p + q)) l).1 : Nat) : Int), .int .i64 (((Un.amt (Lib.decDigits (p + q)) l).2.1 : Nat) : Int)], .int .i64 (((Un.amt (Lib.decDigits (p + q)) l).2.2 : Nat) : Int)]) rfl (q_call (args := #[.string (bs (Lib.decDigits (p + q))), .string (bs l)]) own9 rfl rfl (fun w1 hw1 => Amount_c w1 (Go.K.hp w1) (Hp.le_refl _) (hG.mono hw1.phi) (by omega))) ?_
    refine RW.q (v := .tuple #[.agg #[.int .i64 (((Un.amt (Lib.decDigits (p + q)) l).1 : Nat) : Int), .int .i64 (((Un.amt (Lib.decDigits (p + q)) l).2.1 : Nat) : Int)], .int .i64 (((Un.amt (Lib.decDigits (p + q)) l).2.2 : Nat) : Int)]) rfl (q_move rfl) ?_
    refine RW.q (v := .agg #[.int .i64 (((Un.amt (Lib.decDigits (p + q)) l).1 : Nat) : Int), .int .i64 (((Un.amt (Lib.decDigits (p + q)) l).2.1 : Nat) : Int)]) rfl (q_extract rfl rfl) ?_
    refine RW.q (v := .int .i64 (((Un.amt (Lib.decDigits (p + q)) l).2.2 : Nat) : Int)) rfl (q_extract rfl rfl) ?_
    refine RW.eff (fun b3 : Nat => .pointer (some (⟨b3, 0, none⟩))) (fun b3 => St ⟨w, Φ, []⟩ Φ [.blk b3 23 [.int .i64 0, .int .i64 0], .blk b2 23 [.int .i64 (((Un.amt (Lib.decDigits q) l).1 : Nat) : Int), .int .i64 (((Un.amt (Lib.decDigits q) l).2.1 : Nat) : Int)], .blk b1 23 [.int .i64 (((Un.amt (Lib.decDigits p) l).1 : Nat) : Int), .int .i64 (((Un.amt (Lib.decDigits p) l).2.1 : Nat) : Int)]]) rfl (e_alloc zero23) ?_
    intro b3
    refine RW.effn (J' := St ⟨w, Φ, []⟩ Φ [.blk b3 23 [.int .i64 (((Un.amt (Lib.decDigits (p + q)) l).1 : Nat) : Int), .int .i64 (((Un.amt (Lib.decDigits (p + q)) l).2.1 : Nat) : Int)], .blk b2 23 [.int .i64 (((Un.amt (Lib.decDigits q) l).1 : Nat) : Int), .int .i64 (((Un.amt (Lib.decDigits q) l).2.1 : Nat) : Int)], .blk b1 23 [.int .i64 (((Un.amt (Lib.decDigits p) l).1 : Nat) : Int), .int .i64 (((Un.amt (Lib.decDigits p) l).2.1 : Nat) : Int)]]) (e_store (v := .agg #[.int .i64 (((Un.amt (Lib.decDigits (p + q)) l).1 : Nat) : Int), .int .i64 (((Un.amt (Lib.decDigits (p + q)) l).2.1 : Nat) : Int)]) 0 rfl rfl rfl sz23 rfl rfl rfl rfl rfl) ?_
    refine RW.q (v := .int .i64 (((Un.amt (Lib.decDigits (p + q)) l).2.2 : Nat) : Int)) rfl (q_assign rfl) ?_
    refine RW.nil ?_
    refine Post.then_n ?_
    refine AW.seq ?_
    refine AW.seq ?_
    refine AW.region ?_
    refine RW.q (v := .int .i64 (((Un.amt (Lib.decDigits p) l).2.2 : Nat) : Int)) rfl (q_move rfl) ?_
    refine RW.q (v := .bool (!decide ((((Un.amt (Lib.decDigits p) l).2.2 : Nat) : Int) = 0))) rfl (q_neq rfl rfl) ?_
    refine RW.q (v := .bool (!decide ((((Un.amt (Lib.decDigits p) l).2.2 : Nat) : Int) = 0))) rfl (q_move rfl) ?_
    refine RW.g (b := (!decide ((((Un.amt (Lib.decDigits p) l).2.2 : Nat) : Int) = 0))) (v := .int .i64 (((Un.amt (Lib.decDigits q) l).2.2 : Nat) : Int)) rfl rfl rfl (fun h => q_move rfl) ?_
    refine RW.g (b := (!decide ((((Un.amt (Lib.decDigits p) l).2.2 : Nat) : Int) = 0))) (v := .bool (!decide ((((Un.amt (Lib.decDigits q) l).2.2 : Nat) : Int) = 0))) rfl rfl rfl (fun h => q_neq (gv_pos h) rfl) ?_
    refine RW.q (v := .bool ((!decide ((((Un.amt (Lib.decDigits p) l).2.2 : Nat) : Int) = 0)) || (!decide ((((Un.amt (Lib.decDigits q) l).2.2 : Nat) : Int) = 0)))) rfl (q_pick rfl (fun hp => pkOrT hp) (fun hp => (gv_pos hp).trans (pkOrF hp))) ?_
    refine RW.nil ?_
    refine Post.then_n ?_
    refine AW.cond (b := (!decide ((((Un.amt (Lib.decDigits p) l).2.2 : Nat) : Int) = 0)) || (!decide ((((Un.amt (Lib.decDigits q) l).2.2 : Nat) : Int) = 0))) rfl (fun hc2 => ?_) (fun hc2 => ?_)
    · simp [-List.getD_eq_getElem?_getD] at hc2
      refine AW.seq ?_
      refine AW.region ?_
      refine RW.q (v := .bool true) rfl (q_move rfl) ?_
      refine RW.q (v := .bool true) rfl (q_assign rfl) ?_
      refine RW.nil ?_
      refine Post.then_n ?_
      refine AW.ret ?_
      refine Post.then_r ?_
      exact fin_val (v' := .bool true) rfl rfl rfl (rfl)
    · simp [-List.getD_eq_getElem?_getD] at hc2
      refine AW.skip ?_
      refine Post.then_n ?_
      refine AW.seq ?_
      refine AW.seq ?_
      have hA := Un.adds (p := p) (q := q) (n := l) (by omega) (by omega) (by omega) (by omega)
      unfold Un.M at hA
      refine AW.region ?_
      refine RW.q (v := .pointer (some (⟨b1, 0, none⟩))) rfl (q_fieldAddr rfl Tryd.underlying23 rfl sz3 rfl) ?_
      refine RW.q (v := .int .i64 (((Un.amt (Lib.decDigits p) l).1 : Nat) : Int)) rfl (q_load rfl Tryd.underlying3 rfl (Cell.blk 2 rfl rfl)) ?_
      refine RW.q (v := .pointer (some (⟨b2, 0, none⟩))) rfl (q_fieldAddr rfl Tryd.underlying23 rfl sz3 rfl) ?_
      refine RW.q (v := .int .i64 (((Un.amt (Lib.decDigits q) l).1 : Nat) : Int)) rfl (q_load rfl Tryd.underlying3 rfl (Cell.blk 1 rfl rfl)) ?_
      refine RW.q (v := .int .i64 (((Un.amt (Lib.decDigits p) l).1 + (Un.amt (Lib.decDigits q) l).1 : Nat) : Int)) rfl (q_add rfl rfl (by omega) (by unfold I64; omega)) ?_
      refine RW.q (v := .bool (decide ((1125899906842624 : Int) < (((Un.amt (Lib.decDigits p) l).1 + (Un.amt (Lib.decDigits q) l).1 : Nat) : Int)))) rfl (q_gtr rfl rfl) ?_
      refine RW.nil ?_
      refine Post.then_n ?_
      refine AW.cond (b := decide ((1125899906842624 : Int) < (((Un.amt (Lib.decDigits p) l).1 + (Un.amt (Lib.decDigits q) l).1 : Nat) : Int))) rfl (fun hc3 => ?_) (fun hc3 => ?_)
      · simp [-List.getD_eq_getElem?_getD] at hc3
        refine AW.seq ?_
        refine AW.region ?_
        refine RW.q (v := .bool true) rfl (q_move rfl) ?_
        refine RW.q (v := .bool true) rfl (q_move rfl) ?_
        refine RW.gl (v := .int .i64 (((Un.amt (Lib.decDigits (p + q)) l).2.2 : Nat) : Int)) rfl rfl rfl (q_move rfl) ?_
        refine RW.gl (v := .bool (decide ((((Un.amt (Lib.decDigits (p + q)) l).2.2 : Nat) : Int) = 7))) rfl rfl rfl (q_eql rfl rfl) ?_
        refine RW.q (v := .bool (true && (decide ((((Un.amt (Lib.decDigits (p + q)) l).2.2 : Nat) : Int) = 7)))) rfl (q_pick rfl (fun hp => pkAndT hp) (fun hp => pkAndF hp)) ?_
        refine RW.q (v := .bool (true && (decide ((((Un.amt (Lib.decDigits (p + q)) l).2.2 : Nat) : Int) = 7)))) rfl (q_assign rfl) ?_
        refine RW.nil ?_
        refine Post.then_n ?_
        refine AW.ret ?_
        refine Post.then_r ?_
        exact fin_val (v' := .bool (true && (decide ((((Un.amt (Lib.decDigits (p + q)) l).2.2 : Nat) : Int) = 7)))) rfl rfl rfl (by rw [hA.2.1 (by omega)]; rfl)
      · simp [-List.getD_eq_getElem?_getD] at hc3
        refine AW.skip ?_
        refine Post.then_n ?_
        refine AW.seq ?_
        refine AW.region ?_
        refine RW.q (v := .bool true) rfl (q_move rfl) ?_
        refine RW.q (v := .bool true) rfl (q_move rfl) ?_
        refine RW.gl (v := .int .i64 (((Un.amt (Lib.decDigits (p + q)) l).2.2 : Nat) : Int)) rfl rfl rfl (q_move rfl) ?_
        refine RW.gl (v := .bool (decide ((((Un.amt (Lib.decDigits (p + q)) l).2.2 : Nat) : Int) = 0))) rfl rfl rfl (q_eql rfl rfl) ?_
        refine RW.q (v := .bool (true && (decide ((((Un.amt (Lib.decDigits (p + q)) l).2.2 : Nat) : Int) = 0)))) rfl (q_pick rfl (fun hp => pkAndT hp) (fun hp => pkAndF hp)) ?_
        refine RW.q (v := .bool (true && (decide ((((Un.amt (Lib.decDigits (p + q)) l).2.2 : Nat) : Int) = 0)))) rfl (q_move rfl) ?_
        refine RW.g (b := (true && (decide ((((Un.amt (Lib.decDigits (p + q)) l).2.2 : Nat) : Int) = 0)))) (v := .pointer (some (⟨b3, 0, none⟩))) rfl rfl rfl (fun h => q_fieldAddr rfl Tryd.underlying23 rfl sz3 rfl) ?_
        refine RW.g (b := (true && (decide ((((Un.amt (Lib.decDigits (p + q)) l).2.2 : Nat) : Int) = 0)))) (v := .int .i64 (((Un.amt (Lib.decDigits (p + q)) l).1 : Nat) : Int)) rfl rfl rfl (fun h => q_load (gv_pos h) Tryd.underlying3 rfl (Cell.blk 0 rfl rfl)) ?_
        refine RW.g (b := (true && (decide ((((Un.amt (Lib.decDigits (p + q)) l).2.2 : Nat) : Int) = 0)))) (v := .pointer (some (⟨b1, 0, none⟩))) rfl rfl rfl (fun h => q_fieldAddr rfl Tryd.underlying23 rfl sz3 rfl) ?_
        refine RW.g (b := (true && (decide ((((Un.amt (Lib.decDigits (p + q)) l).2.2 : Nat) : Int) = 0)))) (v := .int .i64 (((Un.amt (Lib.decDigits p) l).1 : Nat) : Int)) rfl rfl rfl (fun h => q_load (gv_pos h) Tryd.underlying3 rfl (Cell.blk 2 rfl rfl)) ?_
        refine RW.g (b := (true && (decide ((((Un.amt (Lib.decDigits (p + q)) l).2.2 : Nat) : Int) = 0)))) (v := .pointer (some (⟨b2, 0, none⟩))) rfl rfl rfl (fun h => q_fieldAddr rfl Tryd.underlying23 rfl sz3 rfl) ?_
        refine RW.g (b := (true && (decide ((((Un.amt (Lib.decDigits (p + q)) l).2.2 : Nat) : Int) = 0)))) (v := .int .i64 (((Un.amt (Lib.decDigits q) l).1 : Nat) : Int)) rfl rfl rfl (fun h => q_load (gv_pos h) Tryd.underlying3 rfl (Cell.blk 1 rfl rfl)) ?_
        refine RW.g (b := (true && (decide ((((Un.amt (Lib.decDigits (p + q)) l).2.2 : Nat) : Int) = 0)))) (v := .int .i64 (((Un.amt (Lib.decDigits p) l).1 + (Un.amt (Lib.decDigits q) l).1 : Nat) : Int)) rfl rfl rfl (fun h => q_add (gv_pos h) (gv_pos h) (by (try simp [-List.getD_eq_getElem?_getD] at h); omega) (by (try simp [-List.getD_eq_getElem?_getD] at h); unfold I64; omega)) ?_
        refine RW.g (b := (true && (decide ((((Un.amt (Lib.decDigits (p + q)) l).2.2 : Nat) : Int) = 0)))) (v := .bool (decide ((((Un.amt (Lib.decDigits (p + q)) l).1 : Nat) : Int) = (((Un.amt (Lib.decDigits p) l).1 + (Un.amt (Lib.decDigits q) l).1 : Nat) : Int)))) rfl rfl rfl (fun h => q_eql (gv_pos h) (gv_pos h)) ?_
        refine RW.q (v := .bool ((true && (decide ((((Un.amt (Lib.decDigits (p + q)) l).2.2 : Nat) : Int) = 0))) && (decide ((((Un.amt (Lib.decDigits (p + q)) l).1 : Nat) : Int) = (((Un.amt (Lib.decDigits p) l).1 + (Un.amt (Lib.decDigits q) l).1 : Nat) : Int))))) rfl (q_pick rfl (fun hp => (gv_pos hp).trans (pkAndT hp)) (fun hp => pkAndF hp)) ?_
        refine RW.q (v := .bool ((true && (decide ((((Un.amt (Lib.decDigits (p + q)) l).2.2 : Nat) : Int) = 0))) && (decide ((((Un.amt (Lib.decDigits (p + q)) l).1 : Nat) : Int) = (((Un.amt (Lib.decDigits p) l).1 + (Un.amt (Lib.decDigits q) l).1 : Nat) : Int))))) rfl (q_move rfl) ?_
        refine RW.g (b := ((true && (decide ((((Un.amt (Lib.decDigits (p + q)) l).2.2 : Nat) : Int) = 0))) && (decide ((((Un.amt (Lib.decDigits (p + q)) l).1 : Nat) : Int) = (((Un.amt (Lib.decDigits p) l).1 + (Un.amt (Lib.decDigits q) l).1 : Nat) : Int))))) (v := .pointer (some (⟨b3, 1, none⟩))) rfl rfl rfl (fun h => q_fieldAddr rfl Tryd.underlying23 rfl sz3 rfl) ?_
        refine RW.g (b := ((true && (decide ((((Un.amt (Lib.decDigits (p + q)) l).2.2 : Nat) : Int) = 0))) && (decide ((((Un.amt (Lib.decDigits (p + q)) l).1 : Nat) : Int) = (((Un.amt (Lib.decDigits p) l).1 + (Un.amt (Lib.decDigits q) l).1 : Nat) : Int))))) (v := .int .i64 (((Un.amt (Lib.decDigits (p + q)) l).2.1 : Nat) : Int)) rfl rfl rfl (fun h => q_load (gv_pos h) Tryd.underlying3 rfl (Cell.blk 0 rfl rfl)) ?_
        refine RW.g (b := ((true && (decide ((((Un.amt (Lib.decDigits (p + q)) l).2.2 : Nat) : Int) = 0))) && (decide ((((Un.amt (Lib.decDigits (p + q)) l).1 : Nat) : Int) = (((Un.amt (Lib.decDigits p) l).1 + (Un.amt (Lib.decDigits q) l).1 : Nat) : Int))))) (v := .pointer (some (⟨b1, 1, none⟩))) rfl rfl rfl (fun h => q_fieldAddr rfl Tryd.underlying23 rfl sz3 rfl) ?_
        refine RW.g (b := ((true && (decide ((((Un.amt (Lib.decDigits (p + q)) l).2.2 : Nat) : Int) = 0))) && (decide ((((Un.amt (Lib.decDigits (p + q)) l).1 : Nat) : Int) = (((Un.amt (Lib.decDigits p) l).1 + (Un.amt (Lib.decDigits q) l).1 : Nat) : Int))))) (v := .int .i64 (((Un.amt (Lib.decDigits p) l).2.1 : Nat) : Int)) rfl rfl rfl (fun h => q_load (gv_pos h) Tryd.underlying3 rfl (Cell.blk 2 rfl rfl)) ?_
        refine RW.g (b := ((true && (decide ((((Un.amt (Lib.decDigits (p + q)) l).2.2 : Nat) : Int) = 0))) && (decide ((((Un.amt (Lib.decDigits (p + q)) l).1 : Nat) : Int) = (((Un.amt (Lib.decDigits p) l).1 + (Un.amt (Lib.decDigits q) l).1 : Nat) : Int))))) (v := .bool (decide ((((Un.amt (Lib.decDigits (p + q)) l).2.1 : Nat) : Int) = (((Un.amt (Lib.decDigits p) l).2.1 : Nat) : Int)))) rfl rfl rfl (fun h => q_eql (gv_pos h) (gv_pos h)) ?_
        refine RW.q (v := .bool (((true && (decide ((((Un.amt (Lib.decDigits (p + q)) l).2.2 : Nat) : Int) = 0))) && (decide ((((Un.amt (Lib.decDigits (p + q)) l).1 : Nat) : Int) = (((Un.amt (Lib.decDigits p) l).1 + (Un.amt (Lib.decDigits q) l).1 : Nat) : Int)))) && (decide ((((Un.amt (Lib.decDigits (p + q)) l).2.1 : Nat) : Int) = (((Un.amt (Lib.decDigits p) l).2.1 : Nat) : Int))))) rfl (q_pick rfl (fun hp => (gv_pos hp).trans (pkAndT hp)) (fun hp => pkAndF hp)) ?_
        refine RW.q (v := .bool (((true && (decide ((((Un.amt (Lib.decDigits (p + q)) l).2.2 : Nat) : Int) = 0))) && (decide ((((Un.amt (Lib.decDigits (p + q)) l).1 : Nat) : Int) = (((Un.amt (Lib.decDigits p) l).1 + (Un.amt (Lib.decDigits q) l).1 : Nat) : Int)))) && (decide ((((Un.amt (Lib.decDigits (p + q)) l).2.1 : Nat) : Int) = (((Un.amt (Lib.decDigits p) l).2.1 : Nat) : Int))))) rfl (q_move rfl) ?_
        refine RW.g (b := (((true && (decide ((((Un.amt (Lib.decDigits (p + q)) l).2.2 : Nat) : Int) = 0))) && (decide ((((Un.amt (Lib.decDigits (p + q)) l).1 : Nat) : Int) = (((Un.amt (Lib.decDigits p) l).1 + (Un.amt (Lib.decDigits q) l).1 : Nat) : Int)))) && (decide ((((Un.amt (Lib.decDigits (p + q)) l).2.1 : Nat) : Int) = (((Un.amt (Lib.decDigits p) l).2.1 : Nat) : Int))))) (v := .pointer (some (⟨b1, 1, none⟩))) rfl rfl rfl (fun h => q_fieldAddr rfl Tryd.underlying23 rfl sz3 rfl) ?_
        refine RW.g (b := (((true && (decide ((((Un.amt (Lib.decDigits (p + q)) l).2.2 : Nat) : Int) = 0))) && (decide ((((Un.amt (Lib.decDigits (p + q)) l).1 : Nat) : Int) = (((Un.amt (Lib.decDigits p) l).1 + (Un.amt (Lib.decDigits q) l).1 : Nat) : Int)))) && (decide ((((Un.amt (Lib.decDigits (p + q)) l).2.1 : Nat) : Int) = (((Un.amt (Lib.decDigits p) l).2.1 : Nat) : Int))))) (v := .int .i64 (((Un.amt (Lib.decDigits p) l).2.1 : Nat) : Int)) rfl rfl rfl (fun h => q_load (gv_pos h) Tryd.underlying3 rfl (Cell.blk 2 rfl rfl)) ?_
        refine RW.g (b := (((true && (decide ((((Un.amt (Lib.decDigits (p + q)) l).2.2 : Nat) : Int) = 0))) && (decide ((((Un.amt (Lib.decDigits (p + q)) l).1 : Nat) : Int) = (((Un.amt (Lib.decDigits p) l).1 + (Un.amt (Lib.decDigits q) l).1 : Nat) : Int)))) && (decide ((((Un.amt (Lib.decDigits (p + q)) l).2.1 : Nat) : Int) = (((Un.amt (Lib.decDigits p) l).2.1 : Nat) : Int))))) (v := .pointer (some (⟨b2, 1, none⟩))) rfl rfl rfl (fun h => q_fieldAddr rfl Tryd.underlying23 rfl sz3 rfl) ?_
        refine RW.g (b := (((true && (decide ((((Un.amt (Lib.decDigits (p + q)) l).2.2 : Nat) : Int) = 0))) && (decide ((((Un.amt (Lib.decDigits (p + q)) l).1 : Nat) : Int) = (((Un.amt (Lib.decDigits p) l).1 + (Un.amt (Lib.decDigits q) l).1 : Nat) : Int)))) && (decide ((((Un.amt (Lib.decDigits (p + q)) l).2.1 : Nat) : Int) = (((Un.amt (Lib.decDigits p) l).2.1 : Nat) : Int))))) (v := .int .i64 (((Un.amt (Lib.decDigits q) l).2.1 : Nat) : Int)) rfl rfl rfl (fun h => q_load (gv_pos h) Tryd.underlying3 rfl (Cell.blk 1 rfl rfl)) ?_
        refine RW.g (b := (((true && (decide ((((Un.amt (Lib.decDigits (p + q)) l).2.2 : Nat) : Int) = 0))) && (decide ((((Un.amt (Lib.decDigits (p + q)) l).1 : Nat) : Int) = (((Un.amt (Lib.decDigits p) l).1 + (Un.amt (Lib.decDigits q) l).1 : Nat) : Int)))) && (decide ((((Un.amt (Lib.decDigits (p + q)) l).2.1 : Nat) : Int) = (((Un.amt (Lib.decDigits p) l).2.1 : Nat) : Int))))) (v := .bool (decide ((((Un.amt (Lib.decDigits p) l).2.1 : Nat) : Int) = (((Un.amt (Lib.decDigits q) l).2.1 : Nat) : Int)))) rfl rfl rfl (fun h => q_eql (gv_pos h) (gv_pos h)) ?_
        refine RW.q (v := .bool ((((true && (decide ((((Un.amt (Lib.decDigits (p + q)) l).2.2 : Nat) : Int) = 0))) && (decide ((((Un.amt (Lib.decDigits (p + q)) l).1 : Nat) : Int) = (((Un.amt (Lib.decDigits p) l).1 + (Un.amt (Lib.decDigits q) l).1 : Nat) : Int)))) && (decide ((((Un.amt (Lib.decDigits (p + q)) l).2.1 : Nat) : Int) = (((Un.amt (Lib.decDigits p) l).2.1 : Nat) : Int)))) && (decide ((((Un.amt (Lib.decDigits p) l).2.1 : Nat) : Int) = (((Un.amt (Lib.decDigits q) l).2.1 : Nat) : Int))))) rfl (q_pick rfl (fun hp => (gv_pos hp).trans (pkAndT hp)) (fun hp => pkAndF hp)) ?_
        refine RW.q (v := .bool ((((true && (decide ((((Un.amt (Lib.decDigits (p + q)) l).2.2 : Nat) : Int) = 0))) && (decide ((((Un.amt (Lib.decDigits (p + q)) l).1 : Nat) : Int) = (((Un.amt (Lib.decDigits p) l).1 + (Un.amt (Lib.decDigits q) l).1 : Nat) : Int)))) && (decide ((((Un.amt (Lib.decDigits (p + q)) l).2.1 : Nat) : Int) = (((Un.amt (Lib.decDigits p) l).2.1 : Nat) : Int)))) && (decide ((((Un.amt (Lib.decDigits p) l).2.1 : Nat) : Int) = (((Un.amt (Lib.decDigits q) l).2.1 : Nat) : Int))))) rfl (q_assign rfl) ?_
        refine RW.nil ?_
        refine Post.then_n ?_
        refine AW.ret ?_
        exact fin_val (v' := .bool ((((true && (decide ((((Un.amt (Lib.decDigits (p + q)) l).2.2 : Nat) : Int) = 0))) && (decide ((((Un.amt (Lib.decDigits (p + q)) l).1 : Nat) : Int) = (((Un.amt (Lib.decDigits p) l).1 + (Un.amt (Lib.decDigits q) l).1 : Nat) : Int)))) && (decide ((((Un.amt (Lib.decDigits (p + q)) l).2.1 : Nat) : Int) = (((Un.amt (Lib.decDigits p) l).2.1 : Nat) : Int)))) && (decide ((((Un.amt (Lib.decDigits p) l).2.1 : Nat) : Int) = (((Un.amt (Lib.decDigits q) l).2.1 : Nat) : Int))))) rfl rfl rfl (by obtain ⟨e1, e2, e3⟩ := hA.2.2 (by omega); rw [e1, e2, e3, hA.1]; simp)

set_option maxRecDepth 8000 in
set_option maxHeartbeats 1000000 in
theorem UnitRatios_c (w : World) (Φ : Hp) (hΦ : Hp.le Φ (hp w)) (hG : Knows Φ Glob) {a : Int} {l n : List UInt8} :
    Calls Tryd.prog 6 #[.int .i64 a, .string (bs l), .string (bs n)] w fun e w' => e = .returned (.bool true) ∧ Below w.heap.size w w' := by
  refine calls_of_AW (args := [.int .i64 a, .string (bs l), .string (bs n)]) Tryd.func6 rfl (Nat.le_of_ble_eq_true rfl) (St ⟨w, Φ, []⟩ Φ []) (StP.init w Φ hΦ []) ?_
  show AW Tryd.prog 96 [] _ _ _ [(0, .int .i64 a), (1, .string (bs l)), (2, .string (bs n))] _
  refine AW.seq ?_
  refine AW.region ?_
  refine RW.q (v := .bool false) rfl (q_assign rfl) ?_
  refine RW.nil ?_
  refine Post.then_n ?_
  refine AW.seq ?_
  refine AW.region ?_
  refine RW.q (v := .bool true) rfl (q_call (args := #[]) own8 rfl rfl (fun w1 hw1 => small_c w1 (Go.K.hp w1) (Hp.le_refl _) (hG.mono hw1.phi))) ?_
  refine RW.q (v := .bool true) rfl (q_assign rfl) ?_
  refine RW.nil ?_
  refine Post.then_n ?_
  refine AW.seq ?_
  refine AW.seq ?_
  refine AW.region ?_
  refine RW.q (v := .int .i64 a) rfl (q_move rfl) ?_
  refine RW.q (v := .bool (decide (a < 0))) rfl (q_lss rfl rfl) ?_
  refine RW.q (v := .bool (decide (a < 0))) rfl (q_move rfl) ?_
  refine RW.g (b := (decide (a < 0))) (v := .int .i64 a) rfl rfl rfl (fun h => q_move rfl) ?_
  refine RW.g (b := (decide (a < 0))) (v := .bool (decide ((1099511627776 : Int) < a))) rfl rfl rfl (fun h => q_gtr (gv_pos h) rfl) ?_
  refine RW.q (v := .bool ((decide (a < 0)) || (decide ((1099511627776 : Int) < a)))) rfl (q_pick rfl (fun hp => pkOrT hp) (fun hp => (gv_pos hp).trans (pkOrF hp))) ?_
  refine RW.nil ?_
  refine Post.then_n ?_
  refine AW.cond (b := (decide (a < 0)) || (decide ((1099511627776 : Int) < a))) rfl (fun hc1 => ?_) (fun hc1 => ?_)
  · simp [-List.getD_eq_getElem?_getD] at hc1
    refine AW.seq ?_
    refine AW.region ?_
    refine RW.q (v := .bool true) rfl (q_move rfl) ?_
    refine RW.q (v := .bool true) rfl (q_assign rfl) ?_
    refine RW.nil ?_
    refine Post.then_n ?_
    refine AW.ret ?_
    refine Post.then_r ?_
    exact fin_val (v' := .bool true) rfl rfl rfl (rfl)
  · simp [-List.getD_eq_getElem?_getD] at hc1
    refine AW.skip ?_
    refine Post.then_n ?_
    refine AW.seq ?_
    obtain ⟨u, rfl⟩ := Int.eq_ofNat_of_zero_le (show 0 ≤ a by omega)
    have hd0 : (Lib.decDigits u).length ≤ 16 := Un.dec_len_le (by omega) (by omega)
    have hm0 := (Un.amt_le (Lib.decDigits u) l).1
    have hm1 := (Un.amt_le (Lib.decDigits u) n).1
    unfold Un.M at hm0 hm1
    have hl0 : (Lib.decDigits (Un.amt (Lib.decDigits u) l).1).length ≤ 16 := Un.dec_len_le (by omega) (by omega)
    have hl1 : (Lib.decDigits (Un.amt (Lib.decDigits u) n).1).length ≤ 16 := Un.dec_len_le (by omega) (by omega)
    refine AW.region ?_
    refine RW.q (v := .int .i64 (u : Int)) rfl (q_move rfl) ?_
    refine RW.q (v := .string (bs (Lib.decDigits u))) rfl (q_call (args := #[.int .i64 (u : Int)]) own15 rfl rfl (fun w1 hw1 => Digits_c w1 (Go.K.hp w1) (Hp.le_refl _) (by omega))) ?_
    refine RW.q (v := .string (bs l)) rfl (q_move rfl) ?_
    refine RW.q (v := .tuple #[.agg #[.int .i64 (((Un.amt (Lib.decDigits u) l).1 : Nat) : Int), .int .i64 (((Un.amt (Lib.decDigits u) l).2.1 : Nat) : Int)], .int .i64 (((Un.amt (Lib.decDigits u) l).2.2 : Nat) : Int)]) rfl (q_call (args := #[.string (bs (Lib.decDigits u)), .string (bs l)]) own9 rfl rfl (fun w1 hw1 => Amount_c w1 (Go.K.hp w1) (Hp.le_refl _) (hG.mono hw1.phi) (by omega))) ?_
    refine RW.q (v := .tuple #[.agg #[.int .i64 (((Un.amt (Lib.decDigits u) l).1 : Nat) : Int), .int .i64 (((Un.amt (Lib.decDigits u) l).2.1 : Nat) : Int)], .int .i64 (((Un.amt (Lib.decDigits u) l).2.2 : Nat) : Int)]) rfl (q_move rfl) ?_
    refine RW.q (v := .agg #[.int .i64 (((Un.amt (Lib.decDigits u) l).1 : Nat) : Int), .int .i64 (((Un.amt (Lib.decDigits u) l).2.1 : Nat) : Int)]) rfl (q_extract rfl rfl) ?_
    refine RW.q (v := .int .i64 (((Un.amt (Lib.decDigits u) l).2.2 : Nat) : Int)) rfl (q_extract rfl rfl) ?_
    refine RW.eff (fun b1 : Nat => .pointer (some (⟨b1, 0, none⟩))) (fun b1 => St ⟨w, Φ, []⟩ Φ [.blk b1 23 [.int .i64 0, .int .i64 0]]) rfl (e_alloc zero23) ?_
    intro b1
    refine RW.effn (J' := St ⟨w, Φ, []⟩ Φ [.blk b1 23 [.int .i64 (((Un.amt (Lib.decDigits u) l).1 : Nat) : Int), .int .i64 (((Un.amt (Lib.decDigits u) l).2.1 : Nat) : Int)]]) (e_store (v := .agg #[.int .i64 (((Un.amt (Lib.decDigits u) l).1 : Nat) : Int), .int .i64 (((Un.amt (Lib.decDigits u) l).2.1 : Nat) : Int)]) 0 rfl rfl rfl sz23 rfl rfl rfl rfl rfl) ?_
    refine RW.q (v := .int .i64 (((Un.amt (Lib.decDigits u) l).2.2 : Nat) : Int)) rfl (q_assign rfl) ?_
    refine RW.nil ?_
    refine Post.then_n ?_
    refine AW.seq ?_
    refine AW.region ?_
    refine RW.q (v := .int .i64 (u : Int)) rfl (q_move rfl) ?_
    refine RW.q (v := .string (bs (Lib.decDigits u))) rfl (q_call (args := #[.int .i64 (u : Int)]) own15 rfl rfl (fun w1 hw1 => Digits_c w1 (Go.K.hp w1) (Hp.le_refl _) (by omega))) ?_
    refine RW.q (v := .string (bs n)) rfl (q_move rfl) ?_
    refine RW.q (v := .tuple #[.agg #[.int .i64 (((Un.amt (Lib.decDigits u) n).1 : Nat) : Int), .int .i64 (((Un.amt (Lib.decDigits u) n).2.1 : Nat) : Int)], .int .i64 (((Un.amt (Lib.decDigits u) n).2.2 : Nat) : Int)]) rfl (q_call (args := #[.string (bs (Lib.decDigits u)), .string (bs n)]) own9 rfl rfl (fun w1 hw1 => Amount_c w1 (Go.K.hp w1) (Hp.le_refl _) (hG.mono hw1.phi) (by omega))) ?_
    refine RW.q (v := .tuple #[.agg #[.int .i64 (((Un.amt (Lib.decDigits u) n).1 : Nat) : Int), .int .i64 (((Un.amt (Lib.decDigits u) n).2.1 : Nat) : Int)], .int .i64 (((Un.amt (Lib.decDigits u) n).2.2 : Nat) : Int)]) rfl (q_move rfl) ?_
    refine RW.q (v := .agg #[.int .i64 (((Un.amt (Lib.decDigits u) n).1 : Nat) : Int), .int .i64 (((Un.amt (Lib.decDigits u) n).2.1 : Nat) : Int)]) rfl (q_extract rfl rfl) ?_
    refine RW.q (v := .int .i64 (((Un.amt (Lib.decDigits u) n).2.2 : Nat) : Int)) rfl (q_extract rfl rfl) ?_
    refine RW.eff (fun b2 : Nat => .pointer (some (⟨b2, 0, none⟩))) (fun b2 => St ⟨w, Φ, []⟩ Φ [.blk b2 23 [.int .i64 0, .int .i64 0], .blk b1 23 [.int .i64 (((Un.amt (Lib.decDigits u) l).1 : Nat) : Int), .int .i64 (((Un.amt (Lib.decDigits u) l).2.1 : Nat) : Int)]]) rfl (e_alloc zero23) ?_
    intro b2
    refine RW.effn (J' := St ⟨w, Φ, []⟩ Φ [.blk b2 23 [.int .i64 (((Un.amt (Lib.decDigits u) n).1 : Nat) : Int), .int .i64 (((Un.amt (Lib.decDigits u) n).2.1 : Nat) : Int)], .blk b1 23 [.int .i64 (((Un.amt (Lib.decDigits u) l).1 : Nat) : Int), .int .i64 (((Un.amt (Lib.decDigits u) l).2.1 : Nat) : Int)]]) (e_store (v := .agg #[.int .i64 (((Un.amt (Lib.decDigits u) n).1 : Nat) : Int), .int .i64 (((Un.amt (Lib.decDigits u) n).2.1 : Nat) : Int)]) 0 rfl rfl rfl sz23 rfl rfl rfl rfl rfl) ?_
    refine RW.q (v := .int .i64 (((Un.amt (Lib.decDigits u) n).2.2 : Nat) : Int)) rfl (q_assign rfl) ?_
    refine RW.nil ?_
    refine Post.then_n ?_
    refine AW.seq ?_
    refine AW.seq ?_
    refine AW.region ?_
    refine RW.q (v := .int .i64 (((Un.amt (Lib.decDigits u) l).2.2 : Nat) : Int)) rfl (q_move rfl) ?_
    refine RW.q (v := .bool (!decide ((((Un.amt (Lib.decDigits u) l).2.2 : Nat) : Int) = 0))) rfl (q_neq rfl rfl) ?_
    refine RW.q (v := .bool (!decide ((((Un.amt (Lib.decDigits u) l).2.2 : Nat) : Int) = 0))) rfl (q_move rfl) ?_
    refine RW.g (b := (!decide ((((Un.amt (Lib.decDigits u) l).2.2 : Nat) : Int) = 0))) (v := .int .i64 (((Un.amt (Lib.decDigits u) n).2.2 : Nat) : Int)) rfl rfl rfl (fun h => q_move rfl) ?_
    refine RW.g (b := (!decide ((((Un.amt (Lib.decDigits u) l).2.2 : Nat) : Int) = 0))) (v := .bool (!decide ((((Un.amt (Lib.decDigits u) n).2.2 : Nat) : Int) = 0))) rfl rfl rfl (fun h => q_neq (gv_pos h) rfl) ?_
    refine RW.q (v := .bool ((!decide ((((Un.amt (Lib.decDigits u) l).2.2 : Nat) : Int) = 0)) || (!decide ((((Un.amt (Lib.decDigits u) n).2.2 : Nat) : Int) = 0)))) rfl (q_pick rfl (fun hp => pkOrT hp) (fun hp => (gv_pos hp).trans (pkOrF hp))) ?_
    refine RW.q (v := .bool ((!decide ((((Un.amt (Lib.decDigits u) l).2.2 : Nat) : Int) = 0)) || (!decide ((((Un.amt (Lib.decDigits u) n).2.2 : Nat) : Int) = 0)))) rfl (q_move rfl) ?_
    refine RW.g (b := ((!decide ((((Un.amt (Lib.decDigits u) l).2.2 : Nat) : Int) = 0)) || (!decide ((((Un.amt (Lib.decDigits u) n).2.2 : Nat) : Int) = 0)))) (v := .pointer (some (⟨b1, 1, none⟩))) rfl rfl rfl (fun h => q_fieldAddr rfl Tryd.underlying23 rfl sz3 rfl) ?_
    refine RW.g (b := ((!decide ((((Un.amt (Lib.decDigits u) l).2.2 : Nat) : Int) = 0)) || (!decide ((((Un.amt (Lib.decDigits u) n).2.2 : Nat) : Int) = 0)))) (v := .int .i64 (((Un.amt (Lib.decDigits u) l).2.1 : Nat) : Int)) rfl rfl rfl (fun h => q_load (gv_pos h) Tryd.underlying3 rfl (Cell.blk 1 rfl rfl)) ?_
    refine RW.g (b := ((!decide ((((Un.amt (Lib.decDigits u) l).2.2 : Nat) : Int) = 0)) || (!decide ((((Un.amt (Lib.decDigits u) n).2.2 : Nat) : Int) = 0)))) (v := .pointer (some (⟨b2, 1, none⟩))) rfl rfl rfl (fun h => q_fieldAddr rfl Tryd.underlying23 rfl sz3 rfl) ?_
    refine RW.g (b := ((!decide ((((Un.amt (Lib.decDigits u) l).2.2 : Nat) : Int) = 0)) || (!decide ((((Un.amt (Lib.decDigits u) n).2.2 : Nat) : Int) = 0)))) (v := .int .i64 (((Un.amt (Lib.decDigits u) n).2.1 : Nat) : Int)) rfl rfl rfl (fun h => q_load (gv_pos h) Tryd.underlying3 rfl (Cell.blk 0 rfl rfl)) ?_
    refine RW.g (b := ((!decide ((((Un.amt (Lib.decDigits u) l).2.2 : Nat) : Int) = 0)) || (!decide ((((Un.amt (Lib.decDigits u) n).2.2 : Nat) : Int) = 0)))) (v := .bool (!decide ((((Un.amt (Lib.decDigits u) l).2.1 : Nat) : Int) = (((Un.amt (Lib.decDigits u) n).2.1 : Nat) : Int)))) rfl rfl rfl (fun h => q_neq (gv_pos h) (gv_pos h)) ?_
    refine RW.q (v := .bool (((!decide ((((Un.amt (Lib.decDigits u) l).2.2 : Nat) : Int) = 0)) || (!decide ((((Un.amt (Lib.decDigits u) n).2.2 : Nat) : Int) = 0))) || (!decide ((((Un.amt (Lib.decDigits u) l).2.1 : Nat) : Int) = (((Un.amt (Lib.decDigits u) n).2.1 : Nat) : Int))))) rfl (q_pick rfl (fun hp => pkOrT hp) (fun hp => (gv_pos hp).trans (pkOrF hp))) ?_
    refine RW.nil ?_
    refine Post.then_n ?_
    refine AW.cond (b := ((!decide ((((Un.amt (Lib.decDigits u) l).2.2 : Nat) : Int) = 0)) || (!decide ((((Un.amt (Lib.decDigits u) n).2.2 : Nat) : Int) = 0))) || (!decide ((((Un.amt (Lib.decDigits u) l).2.1 : Nat) : Int) = (((Un.amt (Lib.decDigits u) n).2.1 : Nat) : Int)))) rfl (fun hc2 => ?_) (fun hc2 => ?_)
    · simp [-List.getD_eq_getElem?_getD] at hc2
      refine AW.seq ?_
      refine AW.region ?_
      refine RW.q (v := .bool true) rfl (q_move rfl) ?_
      refine RW.q (v := .bool true) rfl (q_assign rfl) ?_
      refine RW.nil ?_
      refine Post.then_n ?_
      refine AW.ret ?_
      refine Post.then_r ?_
      exact fin_val (v' := .bool true) rfl rfl rfl (rfl)
    · simp [-List.getD_eq_getElem?_getD] at hc2
      refine AW.skip ?_
      refine Post.then_n ?_
      refine AW.seq ?_
      obtain ⟨m1, m2, hf1, hf2, hk1, hk2, hz1, hz2, hnv⟩ := Un.ratio (u := u) (n1 := l) (n2 := n) (by omega) (by omega) (by omega)
      have hr1 : Un.fdF l = m1 := by unfold Un.fdF; rw [hf1]; rfl
      have hr2 : Un.fdF n = m2 := by unfold Un.fdF; rw [hf2]; rfl
      refine AW.region ?_
      refine RW.q (v := .string (bs l)) rfl (q_move rfl) ?_
      refine RW.q (v := .tuple #[.int .i64 (((Un.fdF l).2.1 : Nat) : Int), .int .i64 (((Un.fdF l).2.2.1 : Nat) : Int), .int .i64 (((Un.fdF l).2.2.2.1 : Nat) : Int), .int .i64 (((Un.fdF l).2.2.2.2 : Nat) : Int), .bool ((Un.fac l).isSome)]) rfl (q_call (args := #[.string (bs l)]) own16 rfl rfl (fun w1 hw1 => Factor_c w1 (Go.K.hp w1) (Hp.le_refl _))) ?_
      refine RW.q (v := .tuple #[.int .i64 (((Un.fdF l).2.1 : Nat) : Int), .int .i64 (((Un.fdF l).2.2.1 : Nat) : Int), .int .i64 (((Un.fdF l).2.2.2.1 : Nat) : Int), .int .i64 (((Un.fdF l).2.2.2.2 : Nat) : Int), .bool ((Un.fac l).isSome)]) rfl (q_move rfl) ?_
      refine RW.q (v := .int .i64 (((Un.fdF l).2.1 : Nat) : Int)) rfl (q_extract rfl rfl) ?_
      refine RW.q (v := .int .i64 (((Un.fdF l).2.2.1 : Nat) : Int)) rfl (q_extract rfl rfl) ?_
      refine RW.q (v := .int .i64 (((Un.fdF l).2.2.2.1 : Nat) : Int)) rfl (q_extract rfl rfl) ?_
      refine RW.q (v := .int .i64 (((Un.fdF l).2.2.2.2 : Nat) : Int)) rfl (q_extract rfl rfl) ?_
      refine RW.q (v := .bool ((Un.fac l).isSome)) rfl (q_extract rfl rfl) ?_
      refine RW.q (v := .int .i64 (((Un.fdF l).2.1 : Nat) : Int)) rfl (q_assign rfl) ?_
      refine RW.q (v := .int .i64 (((Un.fdF l).2.2.1 : Nat) : Int)) rfl (q_assign rfl) ?_
      refine RW.q (v := .int .i64 (((Un.fdF l).2.2.2.1 : Nat) : Int)) rfl (q_assign rfl) ?_
      refine RW.q (v := .int .i64 (((Un.fdF l).2.2.2.2 : Nat) : Int)) rfl (q_assign rfl) ?_
      refine RW.q (v := .bool ((Un.fac l).isSome)) rfl (q_assign rfl) ?_
      refine RW.nil ?_
      refine Post.then_n ?_
      refine AW.seq ?_
      refine AW.region ?_
      refine RW.q (v := .string (bs n)) rfl (q_move rfl) ?_
      refine RW.q (v := .tuple #[.int .i64 (((Un.fdF n).2.1 : Nat) : Int), .int .i64 (((Un.fdF n).2.2.1 : Nat) : Int), .int .i64 (((Un.fdF n).2.2.2.1 : Nat) : Int), .int .i64 (((Un.fdF n).2.2.2.2 : Nat) : Int), .bool ((Un.fac n).isSome)]) rfl (q_call (args := #[.string (bs n)]) own16 rfl rfl (fun w1 hw1 => Factor_c w1 (Go.K.hp w1) (Hp.le_refl _))) ?_
      refine RW.q (v := .tuple #[.int .i64 (((Un.fdF n).2.1 : Nat) : Int), .int .i64 (((Un.fdF n).2.2.1 : Nat) : Int), .int .i64 (((Un.fdF n).2.2.2.1 : Nat) : Int), .int .i64 (((Un.fdF n).2.2.2.2 : Nat) : Int), .bool ((Un.fac n).isSome)]) rfl (q_move rfl) ?_
      refine RW.q (v := .int .i64 (((Un.fdF n).2.1 : Nat) : Int)) rfl (q_extract rfl rfl) ?_
      refine RW.q (v := .int .i64 (((Un.fdF n).2.2.1 : Nat) : Int)) rfl (q_extract rfl rfl) ?_
      refine RW.q (v := .int .i64 (((Un.fdF n).2.2.2.1 : Nat) : Int)) rfl (q_extract rfl rfl) ?_
      refine RW.q (v := .int .i64 (((Un.fdF n).2.2.2.2 : Nat) : Int)) rfl (q_extract rfl rfl) ?_
      refine RW.q (v := .bool ((Un.fac n).isSome)) rfl (q_extract rfl rfl) ?_
      refine RW.q (v := .int .i64 (((Un.fdF n).2.1 : Nat) : Int)) rfl (q_assign rfl) ?_
      refine RW.q (v := .int .i64 (((Un.fdF n).2.2.1 : Nat) : Int)) rfl (q_assign rfl) ?_
      refine RW.q (v := .int .i64 (((Un.fdF n).2.2.2.1 : Nat) : Int)) rfl (q_assign rfl) ?_
      refine RW.q (v := .int .i64 (((Un.fdF n).2.2.2.2 : Nat) : Int)) rfl (q_assign rfl) ?_
      refine RW.q (v := .bool ((Un.fac n).isSome)) rfl (q_assign rfl) ?_
      refine RW.nil ?_
      refine Post.then_n ?_
      refine AW.seq ?_
      rw [hr1, hr2]
      refine AW.region ?_
      refine RW.q (v := .pointer (some (⟨b2, 0, none⟩))) rfl (q_fieldAddr rfl Tryd.underlying23 rfl sz3 rfl) ?_
      refine RW.q (v := .int .i64 (((Un.amt (Lib.decDigits u) n).1 : Nat) : Int)) rfl (q_load rfl Tryd.underlying3 rfl (Cell.blk 0 rfl rfl)) ?_
      refine RW.q (v := .int .i64 ((m1.2.2.1 : Nat) : Int)) rfl (q_move rfl) ?_
      refine RW.q (v := .int .i64 ((m2.2.2.2.2 : Nat) : Int)) rfl (q_move rfl) ?_
      refine RW.q (v := .int .i64 ((m1.2.2.1 * m2.2.2.2.2 : Nat) : Int)) rfl (q_mul rfl rfl (Int.natCast_mul _ _).symm (by unfold I64; omega)) ?_
      refine RW.q (v := .int .i64 ((m1.2.2.2.1 : Nat) : Int)) rfl (q_move rfl) ?_
      refine RW.eff (fun x : {y : Value × Hp // (fun r Ψ => RepSl Ψ (Un.prL ((Un.amt (Lib.decDigits u) n).1) (m1.2.2.1 * m2.2.2.2.2) m1.2.2.2.1) r) y.1 y.2 ∧ Hp.le Φ y.2} => x.1.1) (fun x => St ⟨w, Φ, []⟩ x.1.2 [.blk b2 23 [.int .i64 (((Un.amt (Lib.decDigits u) n).1 : Nat) : Int), .int .i64 (((Un.amt (Lib.decDigits u) n).2.1 : Nat) : Int)], .blk b1 23 [.int .i64 (((Un.amt (Lib.decDigits u) l).1 : Nat) : Int), .int .i64 (((Un.amt (Lib.decDigits u) l).2.1 : Nat) : Int)]]) rfl (e_callS (T := fun r Ψ => RepSl Ψ (Un.prL ((Un.amt (Lib.decDigits u) n).1) (m1.2.2.1 * m2.2.2.2.2) m1.2.2.2.1) r) (args := #[.int .i64 (((Un.amt (Lib.decDigits u) n).1 : Nat) : Int), .int .i64 ((m1.2.2.1 * m2.2.2.2.2 : Nat) : Int), .int .i64 ((m1.2.2.2.1 : Nat) : Int)]) own17 rfl rfl (fun w1 hw1 => (prod_c w1 (Go.K.hp w1) (Hp.le_refl _) (by omega) (by omega) (by omega)).mono fun _ _ => retS_up (fun _ _ _ hl h => h.mono hl))) ?_
      rintro ⟨⟨lv1, Φ1⟩, hlv1, hlΦ1⟩
      replace hlv1 : RepSl Φ1 (Un.prL ((Un.amt (Lib.decDigits u) n).1) (m1.2.2.1 * m2.2.2.2.2) m1.2.2.2.1) lv1 := hlv1
      replace hlΦ1 : Hp.le Φ Φ1 := hlΦ1
      replace hG := hG.mono hlΦ1
      refine RW.q (v := lv1) rfl (q_assign rfl) ?_
      refine RW.nil ?_
      refine Post.then_n ?_
      refine AW.seq ?_
      refine AW.region ?_
      refine RW.q (v := .pointer (some (⟨b1, 0, none⟩))) rfl (q_fieldAddr rfl Tryd.underlying23 rfl sz3 rfl) ?_
      refine RW.q (v := .int .i64 (((Un.amt (Lib.decDigits u) l).1 : Nat) : Int)) rfl (q_load rfl Tryd.underlying3 rfl (Cell.blk 1 rfl rfl)) ?_
      refine RW.q (v := .int .i64 ((m2.2.2.1 : Nat) : Int)) rfl (q_move rfl) ?_
      refine RW.q (v := .int .i64 ((m1.2.2.2.2 : Nat) : Int)) rfl (q_move rfl) ?_
      refine RW.q (v := .int .i64 ((m2.2.2.1 * m1.2.2.2.2 : Nat) : Int)) rfl (q_mul rfl rfl (Int.natCast_mul _ _).symm (by unfold I64; omega)) ?_
      refine RW.q (v := .int .i64 ((m2.2.2.2.1 : Nat) : Int)) rfl (q_move rfl) ?_
      refine RW.eff (fun x : {y : Value × Hp // (fun r Ψ => RepSl Ψ (Un.prL ((Un.amt (Lib.decDigits u) l).1) (m2.2.2.1 * m1.2.2.2.2) m2.2.2.2.1) r) y.1 y.2 ∧ Hp.le Φ1 y.2} => x.1.1) (fun x => St ⟨w, Φ, []⟩ x.1.2 [.blk b2 23 [.int .i64 (((Un.amt (Lib.decDigits u) n).1 : Nat) : Int), .int .i64 (((Un.amt (Lib.decDigits u) n).2.1 : Nat) : Int)], .blk b1 23 [.int .i64 (((Un.amt (Lib.decDigits u) l).1 : Nat) : Int), .int .i64 (((Un.amt (Lib.decDigits u) l).2.1 : Nat) : Int)]]) rfl (e_callS (T := fun r Ψ => RepSl Ψ (Un.prL ((Un.amt (Lib.decDigits u) l).1) (m2.2.2.1 * m1.2.2.2.2) m2.2.2.2.1) r) (args := #[.int .i64 (((Un.amt (Lib.decDigits u) l).1 : Nat) : Int), .int .i64 ((m2.2.2.1 * m1.2.2.2.2 : Nat) : Int), .int .i64 ((m2.2.2.2.1 : Nat) : Int)]) own17 rfl rfl (fun w1 hw1 => (prod_c w1 (Go.K.hp w1) (Hp.le_refl _) (by omega) (by omega) (by omega)).mono fun _ _ => retS_up (fun _ _ _ hl h => h.mono hl))) ?_
      rintro ⟨⟨lv2, Φ2⟩, hlv2, hlΦ2⟩
      replace hlv2 : RepSl Φ2 (Un.prL ((Un.amt (Lib.decDigits u) l).1) (m2.2.2.1 * m1.2.2.2.2) m2.2.2.2.1) lv2 := hlv2
      replace hlΦ2 : Hp.le Φ1 Φ2 := hlΦ2
      replace hG := hG.mono hlΦ2
      replace hlv1 := hlv1.mono hlΦ2
      refine RW.q (v := lv2) rfl (q_assign rfl) ?_
      refine RW.nil ?_
      refine Post.then_n ?_
      refine AW.seq ?_
      refine AW.region ?_
      refine RW.q (v := .bool true) rfl (q_move rfl) ?_
      refine RW.q (v := .bool true) rfl (q_move rfl) ?_
      refine RW.gl (v := lv1) rfl rfl rfl (q_move rfl) ?_
      refine RW.gl (v := lv2) rfl rfl rfl (q_move rfl) ?_
      refine RW.gl (v := .bool (decide (Un.nv (Un.prL ((Un.amt (Lib.decDigits u) n).1) (m1.2.2.1 * m2.2.2.2.2) m1.2.2.2.1) = Un.nv (Un.prL ((Un.amt (Lib.decDigits u) l).1) (m2.2.2.1 * m1.2.2.2.2) m2.2.2.2.1)))) rfl rfl rfl (q_call (args := #[lv1, lv2]) own18 rfl rfl (fun w1 hw1 => same_c w1 (Go.K.hp w1) (Hp.le_refl _) (hlv1.mono hw1.phi) (hlv2.mono hw1.phi) (Un.prL_facts (by omega)).1 (Un.prL_facts (by omega)).1 (by rw [(Un.prL_facts (by omega)).2.1]; omega) (by rw [(Un.prL_facts (by omega)).2.1]; omega))) ?_
      refine RW.q (v := .bool (true && (decide (Un.nv (Un.prL ((Un.amt (Lib.decDigits u) n).1) (m1.2.2.1 * m2.2.2.2.2) m1.2.2.2.1) = Un.nv (Un.prL ((Un.amt (Lib.decDigits u) l).1) (m2.2.2.1 * m1.2.2.2.2) m2.2.2.2.1))))) rfl (q_pick rfl (fun hp => pkAndT hp) (fun hp => pkAndF hp)) ?_
      refine RW.q (v := .bool (true && (decide (Un.nv (Un.prL ((Un.amt (Lib.decDigits u) n).1) (m1.2.2.1 * m2.2.2.2.2) m1.2.2.2.1) = Un.nv (Un.prL ((Un.amt (Lib.decDigits u) l).1) (m2.2.2.1 * m1.2.2.2.2) m2.2.2.2.1))))) rfl (q_assign rfl) ?_
      refine RW.nil ?_
      refine Post.then_n ?_
      refine AW.ret ?_
      exact fin_val (v' := .bool (true && (decide (Un.nv (Un.prL ((Un.amt (Lib.decDigits u) n).1) (m1.2.2.1 * m2.2.2.2.2) m1.2.2.2.1) = Un.nv (Un.prL ((Un.amt (Lib.decDigits u) l).1) (m2.2.2.1 * m1.2.2.2.2) m2.2.2.2.1))))) rfl rfl rfl (by rw [decide_eq_true hnv]; rfl)

end Go.Proofs.YthiflhoobldioaaDoor
