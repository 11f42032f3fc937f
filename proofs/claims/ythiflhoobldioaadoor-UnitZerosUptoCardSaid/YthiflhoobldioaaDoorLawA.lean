/- Walks (part LawA), printed by walk2.py. Conditions: those of each theorem. -/
import Derived.Test.YthiflhoobldioaaDoorWalkF
namespace Go.Proofs.YthiflhoobldioaaDoor
open Go Go.K Go.RowKit

theorem eqF23 (a0 a1 b0 b1 : Int) (n : Nat) (w : World) : (Op.eqFields (n + 1) #[.int .i64 a0, .int .i64 a1] #[.int .i64 b0, .int .i64 b1] (Tryd.prog.fieldsOf 23).toList).run Tryd.prog w = .ok (decide (a0 = b0) && decide (a1 = b1)) w := by
  unfold Program.fieldsOf
  rw [Tryd.underlying23]
  have hp3 : ∀ {cs : Array Value} {o : Nat} {v : Value} (h : cs[o]? = some v) (w : World), (part 3 cs o).run Tryd.prog w = .ok v w := fun h w => run_part1 Tryd.underlying3 rfl h w
  have hq3 : ∀ (x y : Int) (w : World), (Op.equalIn (n + 1) 3 (.int .i64 x) (.int .i64 y)).run Tryd.prog w = .ok (x == y) w := fun x y w => run_equalIn_int w n 3 .i64 .i64 x y Tryd.underlying3
  simp only [Op.eqFields, ne_eq, String.reduceEq, not_false_eq_true, if_true, Sem.run_bind, hp3 (show #[Value.int .i64 a0, Value.int .i64 a1][0]? = some (.int .i64 a0) from rfl), hp3 (show #[Value.int .i64 b0, Value.int .i64 b1][0]? = some (.int .i64 b0) from rfl), hp3 (show #[Value.int .i64 a0, Value.int .i64 a1][1]? = some (.int .i64 a1) from rfl), hp3 (show #[Value.int .i64 b0, Value.int .i64 b1][1]? = some (.int .i64 b1) from rfl), hq3, Result.andThen_ok, Sem.run_ite, Sem.run_pure]
  by_cases h0 : a0 = b0 <;> by_cases h1 : a1 = b1 <;> simp [*]
theorem eqS23 (a0 a1 b0 b1 : Int) : ∀ w, (Op.equal 23 (.agg #[.int .i64 a0, .int .i64 a1]) (.agg #[.int .i64 b0, .int .i64 b1])).run Tryd.prog w = .ok (decide (a0 = b0) && decide (a1 = b1)) w := fun w => by
  have hT : Tryd.prog.underlying 23 = some (.struct (Tryd.prog.fieldsOf 23)) := by unfold Program.fieldsOf; rw [Tryd.underlying23]
  show (Op.equalIn (9998 + 1 + 1) 23 _ _).run Tryd.prog w = _
  rw [run_equalIn_struct w (9998 + 1) 23 _ _ hT (by kernel_rfl)]
  exact eqF23 a0 a1 b0 b1 9998 w
theorem eqG23 : Program.eqGuardType Tryd.prog Tryd.prog.depth 23 = false := by kernel_rfl
theorem am1 : Un.amt ([49, 46, 53] : List UInt8) ([77, 76] : List UInt8) = (1500000, 1, 0) := by decide +kernel
theorem am2 : Un.amt ([49] : List UInt8) ([77, 76, 112, 100] : List UInt8) = (0, 0, 7) := by decide +kernel
theorem am3 : Un.amt ([49, 46] : List UInt8) ([108] : List UInt8) = (0, 0, 2) := by decide +kernel
theorem wr1 : Un.wri 1500000 1 = ([49, 53, 48, 48, 48, 48, 48, 32, 108] : List UInt8) := by decide +kernel
theorem Un.wri_no {N D : Int} (h : ¬ (0 ≤ D ∧ D ≤ 6 ∧ 0 ≤ N ∧ N ≤ Un.M)) : Un.wri N D = [] := by unfold Un.wri; rw [if_neg h]
theorem Un.ub_last (n : Nat) : Value.bool (!decide ((((Lib.decDigits n).getD 0 0).toNat : Int) = ((48 : Nat) : Int)) || decide ((((Lib.decDigits n).length : Nat) : Int) = 1)) = .bool true := by
  congr 1
  rcases Un.dec_head n with h | h
  · have : ¬ ((((Lib.decDigits n).getD 0 0).toNat : Int) = ((48 : Nat) : Int)) := fun e => h (UInt8.toNat_inj.1 (by show ((Lib.decDigits n).getD 0 0).toNat = 48; omega))
    rw [decide_eq_false this]; rfl
  · rw [decide_eq_true (show (((Lib.decDigits n).length : Nat) : Int) = 1 by omega), Bool.or_true]
theorem Un.getD_app {l r : List UInt8} (h : 0 < l.length) : (l ++ r).getD 0 0 = l.getD 0 0 := by
  rw [List.getD_eq_getElem?_getD, List.getElem?_append_left h, ← List.getD_eq_getElem?_getD]
set_option maxRecDepth 8000 in
set_option maxHeartbeats 1000000 in
theorem small_c (w : World) (Φ : Hp) (hΦ : Hp.le Φ (hp w)) (hG : Knows Φ Glob) :
    Calls Tryd.prog 8 #[] w fun e w' => e = .returned (.bool true) ∧ Below w.heap.size w w' := by
  refine calls_of_AW (args := []) Tryd.func8 rfl (Nat.le_of_ble_eq_true rfl) (St ⟨w, Φ, []⟩ Φ []) (StP.init w Φ hΦ []) ?_
  show AW Tryd.prog 39 [] _ _ _ [] _
  refine AW.seq ?_
  refine AW.region ?_
  refine RW.q (v := .bool false) rfl (q_assign rfl) ?_
  refine RW.nil ?_
  refine Post.then_n ?_
  refine AW.seq ?_
  refine AW.region ?_
  refine RW.q (v := .tuple #[.agg #[.int .i64 1500000, .int .i64 1], .int .i64 0]) rfl (q_call (args := #[.string (bs ([49, 46, 53] : List UInt8)), .string (bs ([77, 76] : List UInt8))]) own9 rfl rfl (fun w1 hw1 => by have h9 := Amount_c w1 (Go.K.hp w1) (Hp.le_refl _) (hG.mono hw1.phi) (l := ([49, 46, 53] : List UInt8)) (n := ([77, 76] : List UInt8)) (by decide); rw [am1] at h9; exact h9)) ?_
  refine RW.q (v := .tuple #[.agg #[.int .i64 1500000, .int .i64 1], .int .i64 0]) rfl (q_move rfl) ?_
  refine RW.q (v := .agg #[.int .i64 1500000, .int .i64 1]) rfl (q_extract rfl rfl) ?_
  refine RW.q (v := .int .i64 0) rfl (q_extract rfl rfl) ?_
  refine RW.eff (fun b1 : Nat => .pointer (some (⟨b1, 0, none⟩))) (fun b1 => St ⟨w, Φ, []⟩ Φ [.blk b1 23 [.int .i64 0, .int .i64 0]]) rfl (e_alloc zero23) ?_
  intro b1
  refine RW.effn (J' := St ⟨w, Φ, []⟩ Φ [.blk b1 23 [.int .i64 1500000, .int .i64 1]]) (e_store (v := .agg #[.int .i64 1500000, .int .i64 1]) 0 rfl rfl rfl sz23 rfl rfl rfl rfl rfl) ?_
  refine RW.q (v := .int .i64 0) rfl (q_assign rfl) ?_
  refine RW.nil ?_
  refine Post.then_n ?_
  refine AW.seq ?_
  refine AW.region ?_
  refine RW.q (v := .tuple #[.agg #[.int .i64 0, .int .i64 0], .int .i64 7]) rfl (q_call (args := #[.string (bs ([49] : List UInt8)), .string (bs ([77, 76, 112, 100] : List UInt8))]) own9 rfl rfl (fun w1 hw1 => by have h9 := Amount_c w1 (Go.K.hp w1) (Hp.le_refl _) (hG.mono hw1.phi) (l := ([49] : List UInt8)) (n := ([77, 76, 112, 100] : List UInt8)) (by decide); rw [am2] at h9; exact h9)) ?_
  refine RW.q (v := .tuple #[.agg #[.int .i64 0, .int .i64 0], .int .i64 7]) rfl (q_move rfl) ?_
  refine RW.q (v := .agg #[.int .i64 0, .int .i64 0]) rfl (q_extract rfl rfl) ?_
  refine RW.q (v := .int .i64 7) rfl (q_extract rfl rfl) ?_
  refine RW.eff (fun b2 : Nat => .pointer (some (⟨b2, 0, none⟩))) (fun b2 => St ⟨w, Φ, []⟩ Φ [.blk b2 23 [.int .i64 0, .int .i64 0], .blk b1 23 [.int .i64 1500000, .int .i64 1]]) rfl (e_alloc zero23) ?_
  intro b2
  refine RW.effn (J' := St ⟨w, Φ, []⟩ Φ [.blk b2 23 [.int .i64 0, .int .i64 0], .blk b1 23 [.int .i64 1500000, .int .i64 1]]) (e_store (v := .agg #[.int .i64 0, .int .i64 0]) 0 rfl rfl rfl sz23 rfl rfl rfl rfl rfl) ?_
  refine RW.q (v := .int .i64 7) rfl (q_assign rfl) ?_
  refine RW.nil ?_
  refine Post.then_n ?_
  refine AW.seq ?_
  refine AW.region ?_
  refine RW.q (v := .tuple #[.agg #[.int .i64 0, .int .i64 0], .int .i64 2]) rfl (q_call (args := #[.string (bs ([49, 46] : List UInt8)), .string (bs ([108] : List UInt8))]) own9 rfl rfl (fun w1 hw1 => by have h9 := Amount_c w1 (Go.K.hp w1) (Hp.le_refl _) (hG.mono hw1.phi) (l := ([49, 46] : List UInt8)) (n := ([108] : List UInt8)) (by decide); rw [am3] at h9; exact h9)) ?_
  refine RW.q (v := .tuple #[.agg #[.int .i64 0, .int .i64 0], .int .i64 2]) rfl (q_move rfl) ?_
  refine RW.q (v := .agg #[.int .i64 0, .int .i64 0]) rfl (q_extract rfl rfl) ?_
  refine RW.q (v := .int .i64 2) rfl (q_extract rfl rfl) ?_
  refine RW.eff (fun b3 : Nat => .pointer (some (⟨b3, 0, none⟩))) (fun b3 => St ⟨w, Φ, []⟩ Φ [.blk b3 23 [.int .i64 0, .int .i64 0], .blk b2 23 [.int .i64 0, .int .i64 0], .blk b1 23 [.int .i64 1500000, .int .i64 1]]) rfl (e_alloc zero23) ?_
  intro b3
  refine RW.effn (J' := St ⟨w, Φ, []⟩ Φ [.blk b3 23 [.int .i64 0, .int .i64 0], .blk b2 23 [.int .i64 0, .int .i64 0], .blk b1 23 [.int .i64 1500000, .int .i64 1]]) (e_store (v := .agg #[.int .i64 0, .int .i64 0]) 0 rfl rfl rfl sz23 rfl rfl rfl rfl rfl) ?_
  refine RW.q (v := .int .i64 2) rfl (q_assign rfl) ?_
  refine RW.nil ?_
  refine Post.then_n ?_
  refine AW.seq ?_
  refine AW.region ?_
  refine RW.q (v := .int .i64 0) rfl (q_move rfl) ?_
  refine RW.q (v := .bool true) rfl (q_eql (a := 0) (b := 0) rfl rfl) ?_
  refine RW.q (v := .bool true) rfl (q_move rfl) ?_
  refine RW.gl (v := .agg #[.int .i64 1500000, .int .i64 1]) rfl rfl rfl (q_loadAgg rfl Tryd.underlying23 rfl sz23 rfl (Cells.blk 2 rfl)) ?_
  refine RW.gl (v := .agg #[.int .i64 1500000, .int .i64 1]) rfl rfl rfl (q_build (vals := [(0, .int .i64 1500000), (1, .int .i64 1)]) zero23 Tryd.underlying23 places23 rfl rfl) ?_
  refine RW.gl (v := .bool true) rfl rfl rfl (q_eqlS rfl rfl (eqS23 1500000 1 1500000 1) eqG23) ?_
  refine RW.q (v := .bool true) rfl (q_pick rfl (fun hp => pkOrT (q := true) (r := false) hp) (fun hp => pkOrF (q := true) (r := false) hp)) ?_
  refine RW.q (v := .bool true) rfl (q_move rfl) ?_
  refine RW.gl (v := .int .i64 7) rfl rfl rfl (q_move rfl) ?_
  refine RW.gl (v := .bool true) rfl rfl rfl (q_eql (a := 7) (b := 7) rfl rfl) ?_
  refine RW.q (v := .bool true) rfl (q_pick rfl (fun hp => pkOrT (q := true) (r := false) hp) (fun hp => pkOrF (q := true) (r := false) hp)) ?_
  refine RW.q (v := .bool true) rfl (q_move rfl) ?_
  refine RW.gl (v := .int .i64 2) rfl rfl rfl (q_move rfl) ?_
  refine RW.gl (v := .bool true) rfl rfl rfl (q_eql (a := 2) (b := 2) rfl rfl) ?_
  refine RW.q (v := .bool true) rfl (q_pick rfl (fun hp => pkOrT (q := true) (r := false) hp) (fun hp => pkOrF (q := true) (r := false) hp)) ?_
  refine RW.q (v := .bool true) rfl (q_move rfl) ?_
  refine RW.gl (v := .agg #[.int .i64 1500000, .int .i64 1]) rfl rfl rfl (q_loadAgg rfl Tryd.underlying23 rfl sz23 rfl (Cells.blk 2 rfl)) ?_
  refine RW.gl (v := .string (bs ([49, 53, 48, 48, 48, 48, 48, 32, 108] : List UInt8))) rfl rfl rfl (q_call (args := #[.agg #[.int .i64 1500000, .int .i64 1]]) own11 rfl rfl (fun w1 hw1 => by have h9 := Write_c w1 (Go.K.hp w1) (Hp.le_refl _) (hG.mono hw1.phi) (N := 1500000) (D := 1); rw [wr1] at h9; exact h9)) ?_
  refine RW.gl (v := .bool true) rfl rfl rfl (q_eqlStr (l := ([49, 53, 48, 48, 48, 48, 48, 32, 108] : List UInt8)) (r := ([49, 53, 48, 48, 48, 48, 48, 32, 108] : List UInt8)) rfl rfl) ?_
  refine RW.q (v := .bool true) rfl (q_pick rfl (fun hp => pkOrT (q := true) (r := false) hp) (fun hp => pkOrF (q := true) (r := false) hp)) ?_
  refine RW.q (v := .bool true) rfl (q_assign rfl) ?_
  refine RW.nil ?_
  refine Post.then_n ?_
  refine AW.ret ?_
  exact fin_val (v' := .bool true) rfl rfl rfl (rfl)

set_option maxRecDepth 8000 in
set_option maxHeartbeats 1000000 in
theorem UnitTells_c (w : World) (Φ : Hp) (hΦ : Hp.le Φ (hp w)) (hG : Knows Φ Glob) {l n : List UInt8} {N D : Int} :
    Calls Tryd.prog 3 #[.string (bs l), .string (bs n), .agg #[.int .i64 N, .int .i64 D]] w fun e w' => e = .returned (.bool true) ∧ Below w.heap.size w w' := by
  refine calls_of_AW (args := [.string (bs l), .string (bs n), .agg #[.int .i64 N, .int .i64 D]]) Tryd.func3 rfl (Nat.le_of_ble_eq_true rfl) (St ⟨w, Φ, []⟩ Φ []) (StP.init w Φ hΦ []) ?_
  show AW Tryd.prog 52 [] _ _ _ [(0, .string (bs l)), (1, .string (bs n)), (2, .agg #[.int .i64 N, .int .i64 D])] _
  refine AW.seq ?_
  refine AW.region ?_
  refine RW.eff (fun b1 : Nat => .pointer (some (⟨b1, 0, none⟩))) (fun b1 => St ⟨w, Φ, []⟩ Φ [.blk b1 23 [.int .i64 N, .int .i64 D]]) rfl (e_boxA (cs := [.int .i64 N, .int .i64 D]) rfl) ?_
  intro b1
  refine RW.q (v := .bool false) rfl (q_assign rfl) ?_
  refine RW.nil ?_
  refine Post.then_n ?_
  refine AW.seq ?_
  refine AW.region ?_
  refine RW.q (v := .bool true) rfl (q_call (args := #[]) own8 rfl rfl (fun w1 hw1 => small_c w1 (Go.K.hp w1) (Hp.le_refl _) (hG.mono hw1.phi))) ?_
  refine RW.q (v := .bool true) rfl (q_assign rfl) ?_
  refine RW.nil ?_
  refine Post.then_n ?_
  refine AW.seq ?_
  refine AW.seq ?_
  refine AW.region ?_
  refine RW.q (v := .string (bs l)) rfl (q_move rfl) ?_
  refine RW.q (v := .int .i64 ((l.length : Nat) : Int)) rfl (q_lenS (l := l) rfl Tryd.underlying9) ?_
  refine RW.q (v := .bool (decide ((100 : Int) < ((l.length : Nat) : Int)))) rfl (q_gtr rfl rfl) ?_
  refine RW.q (v := .bool (decide ((100 : Int) < ((l.length : Nat) : Int)))) rfl (q_move rfl) ?_
  refine RW.g (b := (decide ((100 : Int) < ((l.length : Nat) : Int)))) (v := .string (bs n)) rfl rfl rfl (fun h => q_move rfl) ?_
  refine RW.g (b := (decide ((100 : Int) < ((l.length : Nat) : Int)))) (v := .int .i64 ((n.length : Nat) : Int)) rfl rfl rfl (fun h => q_lenS (l := n) (gv_pos h) Tryd.underlying9) ?_
  refine RW.g (b := (decide ((100 : Int) < ((l.length : Nat) : Int)))) (v := .bool (decide ((100 : Int) < ((n.length : Nat) : Int)))) rfl rfl rfl (fun h => q_gtr (gv_pos h) rfl) ?_
  refine RW.q (v := .bool ((decide ((100 : Int) < ((l.length : Nat) : Int))) || (decide ((100 : Int) < ((n.length : Nat) : Int))))) rfl (q_pick rfl (fun hp => pkOrT hp) (fun hp => (gv_pos hp).trans (pkOrF hp))) ?_
  refine RW.nil ?_
  refine Post.then_n ?_
  refine AW.cond (b := (decide ((100 : Int) < ((l.length : Nat) : Int))) || (decide ((100 : Int) < ((n.length : Nat) : Int)))) rfl (fun hc1 => ?_) (fun hc1 => ?_)
  · simp [-List.getD_eq_getElem?_getD] at hc1
    refine AW.seq ?_
    refine AW.region ?_
    refine RW.q (v := .bool true) rfl (q_move rfl) ?_
    refine RW.q (v := .bool true) rfl (q_assign rfl) ?_
    refine RW.nil ?_
    refine Post.then_n ?_
    refine AW.ret ?_
    refine Post.then_r ?_
    exact fin_val (v' := .bool true) rfl rfl rfl (rfl)
  · simp [-List.getD_eq_getElem?_getD] at hc1
    refine AW.skip ?_
    refine Post.then_n ?_
    refine AW.seq ?_
    refine AW.region ?_
    refine RW.q (v := .string (bs l)) rfl (q_move rfl) ?_
    refine RW.q (v := .string (bs n)) rfl (q_move rfl) ?_
    refine RW.q (v := .tuple #[.agg #[.int .i64 (((Un.amt l n).1 : Nat) : Int), .int .i64 (((Un.amt l n).2.1 : Nat) : Int)], .int .i64 (((Un.amt l n).2.2 : Nat) : Int)]) rfl (q_call (args := #[.string (bs l), .string (bs n)]) own9 rfl rfl (fun w1 hw1 => Amount_c w1 (Go.K.hp w1) (Hp.le_refl _) (hG.mono hw1.phi) (by omega))) ?_
    refine RW.q (v := .tuple #[.agg #[.int .i64 (((Un.amt l n).1 : Nat) : Int), .int .i64 (((Un.amt l n).2.1 : Nat) : Int)], .int .i64 (((Un.amt l n).2.2 : Nat) : Int)]) rfl (q_move rfl) ?_
    refine RW.q (v := .agg #[.int .i64 (((Un.amt l n).1 : Nat) : Int), .int .i64 (((Un.amt l n).2.1 : Nat) : Int)]) rfl (q_extract rfl rfl) ?_
    refine RW.q (v := .int .i64 (((Un.amt l n).2.2 : Nat) : Int)) rfl (q_extract rfl rfl) ?_
    refine RW.eff (fun b2 : Nat => .pointer (some (⟨b2, 0, none⟩))) (fun b2 => St ⟨w, Φ, []⟩ Φ [.blk b2 23 [.int .i64 0, .int .i64 0], .blk b1 23 [.int .i64 N, .int .i64 D]]) rfl (e_alloc zero23) ?_
    intro b2
    refine RW.effn (J' := St ⟨w, Φ, []⟩ Φ [.blk b2 23 [.int .i64 (((Un.amt l n).1 : Nat) : Int), .int .i64 (((Un.amt l n).2.1 : Nat) : Int)], .blk b1 23 [.int .i64 N, .int .i64 D]]) (e_store (v := .agg #[.int .i64 (((Un.amt l n).1 : Nat) : Int), .int .i64 (((Un.amt l n).2.1 : Nat) : Int)]) 0 rfl rfl rfl sz23 rfl rfl rfl rfl rfl) ?_
    refine RW.q (v := .int .i64 (((Un.amt l n).2.2 : Nat) : Int)) rfl (q_assign rfl) ?_
    refine RW.nil ?_
    refine Post.then_n ?_
    refine AW.seq ?_
    refine AW.region ?_
    refine RW.q (v := .string (bs l)) rfl (q_move rfl) ?_
    refine RW.q (v := .string (bs n)) rfl (q_move rfl) ?_
    refine RW.q (v := .tuple #[.agg #[.int .i64 (((Un.amt l n).1 : Nat) : Int), .int .i64 (((Un.amt l n).2.1 : Nat) : Int)], .int .i64 (((Un.amt l n).2.2 : Nat) : Int)]) rfl (q_call (args := #[.string (bs l), .string (bs n)]) own10 rfl rfl (fun w1 hw1 => rAmount_c w1 (Go.K.hp w1) (Hp.le_refl _) (by omega))) ?_
    refine RW.q (v := .tuple #[.agg #[.int .i64 (((Un.amt l n).1 : Nat) : Int), .int .i64 (((Un.amt l n).2.1 : Nat) : Int)], .int .i64 (((Un.amt l n).2.2 : Nat) : Int)]) rfl (q_move rfl) ?_
    refine RW.q (v := .agg #[.int .i64 (((Un.amt l n).1 : Nat) : Int), .int .i64 (((Un.amt l n).2.1 : Nat) : Int)]) rfl (q_extract rfl rfl) ?_
    refine RW.q (v := .int .i64 (((Un.amt l n).2.2 : Nat) : Int)) rfl (q_extract rfl rfl) ?_
    refine RW.eff (fun b3 : Nat => .pointer (some (⟨b3, 0, none⟩))) (fun b3 => St ⟨w, Φ, []⟩ Φ [.blk b3 23 [.int .i64 0, .int .i64 0], .blk b2 23 [.int .i64 (((Un.amt l n).1 : Nat) : Int), .int .i64 (((Un.amt l n).2.1 : Nat) : Int)], .blk b1 23 [.int .i64 N, .int .i64 D]]) rfl (e_alloc zero23) ?_
    intro b3
    refine RW.effn (J' := St ⟨w, Φ, []⟩ Φ [.blk b3 23 [.int .i64 (((Un.amt l n).1 : Nat) : Int), .int .i64 (((Un.amt l n).2.1 : Nat) : Int)], .blk b2 23 [.int .i64 (((Un.amt l n).1 : Nat) : Int), .int .i64 (((Un.amt l n).2.1 : Nat) : Int)], .blk b1 23 [.int .i64 N, .int .i64 D]]) (e_store (v := .agg #[.int .i64 (((Un.amt l n).1 : Nat) : Int), .int .i64 (((Un.amt l n).2.1 : Nat) : Int)]) 0 rfl rfl rfl sz23 rfl rfl rfl rfl rfl) ?_
    refine RW.q (v := .int .i64 (((Un.amt l n).2.2 : Nat) : Int)) rfl (q_assign rfl) ?_
    refine RW.nil ?_
    refine Post.then_n ?_
    refine AW.seq ?_
    refine AW.draw (J0 := St ⟨w, Φ, []⟩ Φ [.blk b3 23 [.int .i64 (((Un.amt l n).1 : Nat) : Int), .int .i64 (((Un.amt l n).2.1 : Nat) : Int)], .blk b2 23 [.int .i64 (((Un.amt l n).1 : Nat) : Int), .int .i64 (((Un.amt l n).2.1 : Nat) : Int)], .blk b1 23 [.int .i64 N, .int .i64 D]]) [.q, .q, .q, .q, .q, .q, .q, .q, .q, .q, .q, .q, .q, .q, .q, .q, .q, .q, .q] [0, 1, 2, 3, 4, 5, 6, 7, 8, 9, 10, 11, 12, 13, 14, 15, 16, 17, 18] hmix (by kernel_rfl) ?_
    refine DW.q (v := .bool true) (fun _ h => h) rfl (q_move rfl) ?_
    refine DW.q (v := .bool true) (fun _ h => h) rfl (q_move rfl) ?_
    refine DW.gl (v := .agg #[.int .i64 (((Un.amt l n).1 : Nat) : Int), .int .i64 (((Un.amt l n).2.1 : Nat) : Int)]) (fun _ h => h) rfl rfl rfl (q_loadAgg rfl Tryd.underlying23 rfl sz23 rfl (Cells.blk 1 rfl)) ?_
    refine DW.gl (v := .agg #[.int .i64 (((Un.amt l n).1 : Nat) : Int), .int .i64 (((Un.amt l n).2.1 : Nat) : Int)]) (fun _ h => h) rfl rfl rfl (q_loadAgg rfl Tryd.underlying23 rfl sz23 rfl (Cells.blk 0 rfl)) ?_
    refine DW.gl (v := .bool true) (fun _ h => h) rfl rfl rfl (q_as (v := .bool (decide ((((Un.amt l n).1 : Nat) : Int) = (((Un.amt l n).1 : Nat) : Int)) && decide ((((Un.amt l n).2.1 : Nat) : Int) = (((Un.amt l n).2.1 : Nat) : Int)))) (q_eqlS rfl rfl (eqS23 _ _ _ _) eqG23) (congrArg Value.bool (by simp))) ?_
    refine DW.q (v := .bool true) (fun _ h => h) rfl (q_pick rfl (fun hp => pkOrT (q := true) (r := false) hp) (fun hp => pkOrF (q := true) (r := false) hp)) ?_
    refine DW.q (v := .bool true) (fun _ h => h) rfl (q_move rfl) ?_
    refine DW.gl (v := .int .i64 (((Un.amt l n).2.2 : Nat) : Int)) (fun _ h => h) rfl rfl rfl (q_move rfl) ?_
    refine DW.gl (v := .int .i64 (((Un.amt l n).2.2 : Nat) : Int)) (fun _ h => h) rfl rfl rfl (q_move rfl) ?_
    refine DW.gl (v := .bool true) (fun _ h => h) rfl rfl rfl (q_as (v := .bool (decide ((((Un.amt l n).2.2 : Nat) : Int) = (((Un.amt l n).2.2 : Nat) : Int)))) (q_eql rfl rfl) (congrArg Value.bool (decide_eq_true rfl))) ?_
    refine DW.q (v := .bool true) (fun _ h => h) rfl (q_pick rfl (fun hp => pkOrT (q := true) (r := false) hp) (fun hp => pkOrF (q := true) (r := false) hp)) ?_
    refine DW.q (v := .bool true) (fun _ h => h) rfl (q_move rfl) ?_
    refine DW.gl (v := .agg #[.int .i64 N, .int .i64 D]) (fun _ h => h) rfl rfl rfl (q_loadAgg rfl Tryd.underlying23 rfl sz23 rfl (Cells.blk 2 rfl)) ?_
    refine DW.gl (v := .string (bs (Un.wri N D))) (fun _ h => h) rfl rfl rfl (q_call (args := #[.agg #[.int .i64 N, .int .i64 D]]) own11 rfl rfl (fun w1 hw1 => Write_c w1 (Go.K.hp w1) (Hp.le_refl _) (hG.mono hw1.phi))) ?_
    refine DW.gl (v := .agg #[.int .i64 N, .int .i64 D]) (fun _ h => h) rfl rfl rfl (q_loadAgg rfl Tryd.underlying23 rfl sz23 rfl (Cells.blk 2 rfl)) ?_
    refine DW.gl (v := .string (bs (Un.wri N D))) (fun _ h => h) rfl rfl rfl (q_call (args := #[.agg #[.int .i64 N, .int .i64 D]]) own12 rfl rfl (fun w1 hw1 => rWrite_c w1 (Go.K.hp w1) (Hp.le_refl _))) ?_
    refine DW.gl (v := .bool true) (fun _ h => h) rfl rfl rfl (q_as (v := .bool (decide (Un.wri N D = Un.wri N D))) (q_eqlStr (l := Un.wri N D) (r := Un.wri N D) rfl rfl) (congrArg Value.bool (decide_eq_true rfl))) ?_
    refine DW.q (v := .bool true) (fun _ h => h) rfl (q_pick rfl (fun hp => pkOrT (q := true) (r := false) hp) (fun hp => pkOrF (q := true) (r := false) hp)) ?_
    refine DW.q (v := .bool true) (fun _ h => h) rfl (q_assign rfl) ?_
    refine DW.nil ?_
    refine Post.then_n ?_
    refine AW.ret ?_
    exact fin_val (v' := .bool true) rfl rfl rfl (rfl)

set_option maxRecDepth 8000 in
set_option maxHeartbeats 1000000 in
theorem UnitBack_c (w : World) (Φ : Hp) (hΦ : Hp.le Φ (hp w)) (hG : Knows Φ Glob) {N D : Int} :
    Calls Tryd.prog 4 #[.agg #[.int .i64 N, .int .i64 D]] w fun e w' => e = .returned (.bool true) ∧ Below w.heap.size w w' := by
  refine calls_of_AW (args := [.agg #[.int .i64 N, .int .i64 D]]) Tryd.func4 rfl (Nat.le_of_ble_eq_true rfl) (St ⟨w, Φ, []⟩ Φ []) (StP.init w Φ hΦ []) ?_
  show AW Tryd.prog 83 [] _ _ _ [(0, .agg #[.int .i64 N, .int .i64 D])] _
  refine AW.seq ?_
  refine AW.region ?_
  refine RW.eff (fun b1 : Nat => .pointer (some (⟨b1, 0, none⟩))) (fun b1 => St ⟨w, Φ, []⟩ Φ [.blk b1 23 [.int .i64 N, .int .i64 D]]) rfl (e_boxA (cs := [.int .i64 N, .int .i64 D]) rfl) ?_
  intro b1
  refine RW.q (v := .bool false) rfl (q_assign rfl) ?_
  refine RW.nil ?_
  refine Post.then_n ?_
  refine AW.seq ?_
  refine AW.region ?_
  refine RW.q (v := .bool true) rfl (q_call (args := #[]) own8 rfl rfl (fun w1 hw1 => small_c w1 (Go.K.hp w1) (Hp.le_refl _) (hG.mono hw1.phi))) ?_
  refine RW.q (v := .bool true) rfl (q_assign rfl) ?_
  refine RW.nil ?_
  refine Post.then_n ?_
  refine AW.seq ?_
  refine AW.region ?_
  refine RW.q (v := .agg #[.int .i64 N, .int .i64 D]) rfl (q_loadAgg rfl Tryd.underlying23 rfl sz23 rfl (Cells.blk 0 rfl)) ?_
  refine RW.q (v := .string (bs (Un.wri N D))) rfl (q_call (args := #[.agg #[.int .i64 N, .int .i64 D]]) own11 rfl rfl (fun w1 hw1 => Write_c w1 (Go.K.hp w1) (Hp.le_refl _) (hG.mono hw1.phi))) ?_
  refine RW.q (v := .string (bs (Un.wri N D))) rfl (q_assign rfl) ?_
  refine RW.nil ?_
  refine Post.then_n ?_
  refine AW.seq ?_
  refine AW.region ?_
  refine RW.q (v := .pointer (some (⟨b1, 1, none⟩))) rfl (q_fieldAddr rfl Tryd.underlying23 rfl sz3 rfl) ?_
  refine RW.q (v := .int .i64 D) rfl (q_load rfl Tryd.underlying3 rfl (Cell.blk 0 rfl rfl)) ?_
  refine RW.q (v := .tuple #[.string (bs (if 0 ≤ D then Un.bases.getD D.toNat [] else [])), .bool (decide (0 ≤ D) && decide (D < 7))]) rfl (q_call (args := #[.int .i64 D]) own13 rfl rfl (fun w1 hw1 => Base_c w1 (Go.K.hp w1) (Hp.le_refl _))) ?_
  refine RW.q (v := .tuple #[.string (bs (if 0 ≤ D then Un.bases.getD D.toNat [] else [])), .bool (decide (0 ≤ D) && decide (D < 7))]) rfl (q_move rfl) ?_
  refine RW.q (v := .string (bs (if 0 ≤ D then Un.bases.getD D.toNat [] else []))) rfl (q_extract rfl rfl) ?_
  refine RW.q (v := .bool (decide (0 ≤ D) && decide (D < 7))) rfl (q_extract rfl rfl) ?_
  refine RW.q (v := .string (bs (if 0 ≤ D then Un.bases.getD D.toNat [] else []))) rfl (q_assign rfl) ?_
  refine RW.q (v := .bool (decide (0 ≤ D) && decide (D < 7))) rfl (q_assign rfl) ?_
  refine RW.nil ?_
  refine Post.then_n ?_
  refine AW.seq ?_
  refine AW.seq ?_
  refine AW.region ?_
  refine RW.q (v := .bool (decide (0 ≤ D) && decide (D < 7))) rfl (q_move rfl) ?_
  refine RW.q (v := .bool (!(decide (0 ≤ D) && decide (D < 7)))) rfl (q_not rfl) ?_
  refine RW.q (v := .bool (!(decide (0 ≤ D) && decide (D < 7)))) rfl (q_move rfl) ?_
  refine RW.g (b := (!(decide (0 ≤ D) && decide (D < 7)))) (v := .pointer (some (⟨b1, 0, none⟩))) rfl rfl rfl (fun h => q_fieldAddr rfl Tryd.underlying23 rfl sz3 rfl) ?_
  refine RW.g (b := (!(decide (0 ≤ D) && decide (D < 7)))) (v := .int .i64 N) rfl rfl rfl (fun h => q_load (gv_pos h) Tryd.underlying3 rfl (Cell.blk 0 rfl rfl)) ?_
  refine RW.g (b := (!(decide (0 ≤ D) && decide (D < 7)))) (v := .bool (decide (N < 0))) rfl rfl rfl (fun h => q_lss (gv_pos h) rfl) ?_
  refine RW.q (v := .bool ((!(decide (0 ≤ D) && decide (D < 7))) || (decide (N < 0)))) rfl (q_pick rfl (fun hp => pkOrT hp) (fun hp => (gv_pos hp).trans (pkOrF hp))) ?_
  refine RW.q (v := .bool ((!(decide (0 ≤ D) && decide (D < 7))) || (decide (N < 0)))) rfl (q_move rfl) ?_
  refine RW.g (b := ((!(decide (0 ≤ D) && decide (D < 7))) || (decide (N < 0)))) (v := .pointer (some (⟨b1, 0, none⟩))) rfl rfl rfl (fun h => q_fieldAddr rfl Tryd.underlying23 rfl sz3 rfl) ?_
  refine RW.g (b := ((!(decide (0 ≤ D) && decide (D < 7))) || (decide (N < 0)))) (v := .int .i64 N) rfl rfl rfl (fun h => q_load (gv_pos h) Tryd.underlying3 rfl (Cell.blk 0 rfl rfl)) ?_
  refine RW.g (b := ((!(decide (0 ≤ D) && decide (D < 7))) || (decide (N < 0)))) (v := .bool (decide ((1125899906842624 : Int) < N))) rfl rfl rfl (fun h => q_gtr (gv_pos h) rfl) ?_
  refine RW.q (v := .bool (((!(decide (0 ≤ D) && decide (D < 7))) || (decide (N < 0))) || (decide ((1125899906842624 : Int) < N)))) rfl (q_pick rfl (fun hp => pkOrT hp) (fun hp => (gv_pos hp).trans (pkOrF hp))) ?_
  refine RW.nil ?_
  refine Post.then_n ?_
  refine AW.cond (b := ((!(decide (0 ≤ D) && decide (D < 7))) || (decide (N < 0))) || (decide ((1125899906842624 : Int) < N))) rfl (fun hc1 => ?_) (fun hc1 => ?_)
  · simp [-List.getD_eq_getElem?_getD] at hc1
    refine AW.seq ?_
    refine AW.region ?_
    refine RW.q (v := .bool true) rfl (q_move rfl) ?_
    refine RW.q (v := .bool true) rfl (q_move rfl) ?_
    refine RW.gl (v := .string (bs (Un.wri N D))) rfl rfl rfl (q_move rfl) ?_
    refine RW.gl (v := .bool (decide (Un.wri N D = ([] : List UInt8)))) rfl rfl rfl (q_eqlStr (l := Un.wri N D) (r := ([] : List UInt8)) rfl rfl) ?_
    refine RW.q (v := .bool (true && (decide (Un.wri N D = ([] : List UInt8))))) rfl (q_pick rfl (fun hp => pkAndT hp) (fun hp => pkAndF hp)) ?_
    refine RW.q (v := .bool (true && (decide (Un.wri N D = ([] : List UInt8))))) rfl (q_assign rfl) ?_
    refine RW.nil ?_
    refine Post.then_n ?_
    refine AW.ret ?_
    refine Post.then_r ?_
    exact fin_val (v' := .bool (true && (decide (Un.wri N D = ([] : List UInt8))))) rfl rfl rfl (by rw [decide_eq_true (Un.wri_no (by unfold Un.M; omega))]; rfl)
  · simp [-List.getD_eq_getElem?_getD] at hc1
    refine AW.skip ?_
    refine Post.then_n ?_
    refine AW.seq ?_
    obtain ⟨n, rfl⟩ := Int.eq_ofNat_of_zero_le (show 0 ≤ N by omega)
    obtain ⟨d, rfl⟩ := Int.eq_ofNat_of_zero_le (show 0 ≤ D by omega)
    have hdl : (Lib.decDigits n).length ≤ 16 := Un.dec_len_le (by omega) (by omega)
    have hbl := Un.bases_len d
    rw [if_pos (by omega : 0 ≤ (d : Int)), Int.toNat_natCast]
    have hb0 := Un.bases_nil d (by omega)
    have hin : 0 ≤ (d : Int) ∧ (d : Int) ≤ 6 ∧ 0 ≤ (n : Int) ∧ (n : Int) ≤ Un.M := by unfold Un.M; omega
    have hpos := Un.dec_len_pos n
    obtain ⟨S, hS⟩ : ∃ S, Un.wri n d = S := ⟨_, rfl⟩
    rw [hS]
    unfold Un.wri at hS
    rw [if_pos hin, Int.toNat_natCast, Int.toNat_natCast] at hS
    refine AW.region ?_
    refine RW.q (v := .string (bs S)) rfl (q_move rfl) ?_
    refine RW.q (v := .int .i64 ((S.length : Nat) : Int)) rfl (q_lenS (l := S) rfl Tryd.underlying9) ?_
    refine RW.q (v := .int .i64 ((S.length : Nat) : Int)) rfl (q_assign rfl) ?_
    refine RW.nil ?_
    refine Post.then_n ?_
    refine AW.seq ?_
    refine AW.seq ?_
    refine AW.region ?_
    refine RW.q (v := .string (bs (Un.bases.getD d []))) rfl (q_move rfl) ?_
    refine RW.q (v := .bool (!decide (Un.bases.getD d [] = ([] : List UInt8)))) rfl (q_neqStr (l := Un.bases.getD d []) (r := ([] : List UInt8)) rfl rfl) ?_
    refine RW.nil ?_
    refine Post.then_n ?_
    refine AW.cond (b := !decide (Un.bases.getD d [] = ([] : List UInt8))) rfl (fun hc2 => ?_) (fun hc2 => ?_)
    · simp [-List.getD_eq_getElem?_getD] at hc2
      refine AW.seq ?_
      rw [if_neg (by intro h9; exact hc2 (hb0.2 (by omega)))] at hS
      have hSl : S.length = (Lib.decDigits n).length + 1 + (Un.bases.getD d []).length := by rw [← hS]; simp only [List.length_append, List.length_cons, List.length_nil]
      refine AW.region ?_
      refine RW.q (v := .string (bs S)) rfl (q_move rfl) ?_
      refine RW.q (v := .int .i64 ((S.length : Nat) : Int)) rfl (q_lenS (l := S) rfl Tryd.underlying9) ?_
      refine RW.q (v := .string (bs (Un.bases.getD d []))) rfl (q_move rfl) ?_
      refine RW.q (v := .int .i64 (((Un.bases.getD d []).length : Nat) : Int)) rfl (q_lenS (l := Un.bases.getD d []) rfl Tryd.underlying9) ?_
      refine RW.q (v := .int .i64 (((S.length : Nat) : Int) - (((Un.bases.getD d []).length : Nat) : Int))) rfl (q_sub rfl rfl (by omega) (by unfold I64; omega)) ?_
      refine RW.q (v := .int .i64 ((((S.length : Nat) : Int) - (((Un.bases.getD d []).length : Nat) : Int)) - 1)) rfl (q_sub rfl rfl (by omega) (by unfold I64; omega)) ?_
      refine RW.q (v := .int .i64 ((((S.length : Nat) : Int) - (((Un.bases.getD d []).length : Nat) : Int)) - 1)) rfl (q_assign rfl) ?_
      refine RW.nil ?_
      refine Post.then_n ?_
      refine AW.seq ?_
      rw [show ((S.length : Int) - ((Un.bases.getD d []).length : Nat) - 1) = (((Lib.decDigits n).length : Nat) : Int) by omega]
      have hdr : S.drop (Lib.decDigits n).length = [32] ++ (Un.bases.getD d []) := by rw [← hS]; simp
      have htk : S.take (Lib.decDigits n).length = Lib.decDigits n := by rw [← hS]; simp
      have hS0 : S.getD 0 0 = (Lib.decDigits n).getD 0 0 := by rw [← hS, List.append_assoc]; exact Un.getD_app (by omega)
      refine AW.region ?_
      refine RW.q (v := .int .i64 (((Lib.decDigits n).length : Nat) : Int)) rfl (q_move rfl) ?_
      refine RW.q (v := .bool (decide ((((Lib.decDigits n).length : Nat) : Int) < 1))) rfl (q_lss rfl rfl) ?_
      refine RW.q (v := .bool (decide ((((Lib.decDigits n).length : Nat) : Int) < 1))) rfl (q_move rfl) ?_
      refine RW.g (b := (decide ((((Lib.decDigits n).length : Nat) : Int) < 1))) (v := .string (bs S)) rfl rfl rfl (fun h => q_move rfl) ?_
      refine RW.g (b := (decide ((((Lib.decDigits n).length : Nat) : Int) < 1))) (v := .int .i64 (((Lib.decDigits n).length : Nat) : Int)) rfl rfl rfl (fun h => q_move rfl) ?_
      refine RW.g (b := (decide ((((Lib.decDigits n).length : Nat) : Int) < 1))) (v := .string (bs (S.drop ((Lib.decDigits n).length)))) rfl rfl rfl (fun h => q_sliceSL (l := S) (i := (((Lib.decDigits n).length : Nat) : Int)) (gv_pos h) (gv_pos h) Tryd.underlying9 (by (try simp [-List.getD_eq_getElem?_getD] at h); omega) (by (try simp [-List.getD_eq_getElem?_getD] at h); omega)) ?_
      refine RW.g (b := (decide ((((Lib.decDigits n).length : Nat) : Int) < 1))) (v := .string (bs (Un.bases.getD d []))) rfl rfl rfl (fun h => q_move rfl) ?_
      refine RW.g (b := (decide ((((Lib.decDigits n).length : Nat) : Int) < 1))) (v := .string (bs (([32] : List UInt8) ++ (Un.bases.getD d [])))) rfl rfl rfl (fun h => q_catStr (l := ([32] : List UInt8)) (r := Un.bases.getD d []) rfl (gv_pos h) (by simp only [List.length_append, List.length_cons, List.length_nil]; omega) rfl) ?_
      refine RW.g (b := (decide ((((Lib.decDigits n).length : Nat) : Int) < 1))) (v := .bool (!decide (S.drop ((Lib.decDigits n).length) = ([32] : List UInt8) ++ (Un.bases.getD d [])))) rfl rfl rfl (fun h => q_neqStr (l := S.drop ((Lib.decDigits n).length)) (r := ([32] : List UInt8) ++ (Un.bases.getD d [])) (gv_pos h) (gv_pos h)) ?_
      refine RW.q (v := .bool ((decide ((((Lib.decDigits n).length : Nat) : Int) < 1)) || (!decide (S.drop ((Lib.decDigits n).length) = ([32] : List UInt8) ++ (Un.bases.getD d []))))) rfl (q_pick rfl (fun hp => pkOrT hp) (fun hp => (gv_pos hp).trans (pkOrF hp))) ?_
      refine RW.nil ?_
      refine Post.then_n ?_
      refine AW.cond (b := (decide ((((Lib.decDigits n).length : Nat) : Int) < 1)) || (!decide (S.drop ((Lib.decDigits n).length) = ([32] : List UInt8) ++ (Un.bases.getD d [])))) rfl (fun hc3 => ?_) (fun hc3 => ?_)
      · simp [-List.getD_eq_getElem?_getD] at hc3
        rcases hc3 with h | h
        · omega
        · exact absurd hdr h
      · simp [-List.getD_eq_getElem?_getD] at hc3
        refine AW.skip ?_
        refine Post.then_n ?_
        refine AW.seq ?_
        refine AW.region ?_
        refine RW.q (v := .string (bs S)) rfl (q_move rfl) ?_
        refine RW.q (v := .int .i64 (((Lib.decDigits n).length : Nat) : Int)) rfl (q_move rfl) ?_
        refine RW.q (v := .string (bs (Lib.decDigits n))) rfl (q_as (v := .string (bs (S.take ((Lib.decDigits n).length)))) (q_sliceSH (l := S) (j := (((Lib.decDigits n).length : Nat) : Int)) rfl rfl Tryd.underlying9 (by omega) (by omega)) (congrArg (fun z => Value.string (bs z)) (htk))) ?_
        refine RW.q (v := .string (bs (Un.bases.getD d []))) rfl (q_move rfl) ?_
        refine RW.q (v := .tuple #[.agg #[.int .i64 (((Un.amt (Lib.decDigits n) (Un.bases.getD d [])).1 : Nat) : Int), .int .i64 (((Un.amt (Lib.decDigits n) (Un.bases.getD d [])).2.1 : Nat) : Int)], .int .i64 (((Un.amt (Lib.decDigits n) (Un.bases.getD d [])).2.2 : Nat) : Int)]) rfl (q_call (args := #[.string (bs (Lib.decDigits n)), .string (bs (Un.bases.getD d []))]) own9 rfl rfl (fun w1 hw1 => Amount_c w1 (Go.K.hp w1) (Hp.le_refl _) (hG.mono hw1.phi) (by omega))) ?_
        refine RW.q (v := .tuple #[.agg #[.int .i64 (((Un.amt (Lib.decDigits n) (Un.bases.getD d [])).1 : Nat) : Int), .int .i64 (((Un.amt (Lib.decDigits n) (Un.bases.getD d [])).2.1 : Nat) : Int)], .int .i64 (((Un.amt (Lib.decDigits n) (Un.bases.getD d [])).2.2 : Nat) : Int)]) rfl (q_move rfl) ?_
        refine RW.q (v := .agg #[.int .i64 (((Un.amt (Lib.decDigits n) (Un.bases.getD d [])).1 : Nat) : Int), .int .i64 (((Un.amt (Lib.decDigits n) (Un.bases.getD d [])).2.1 : Nat) : Int)]) rfl (q_extract rfl rfl) ?_
        refine RW.q (v := .int .i64 (((Un.amt (Lib.decDigits n) (Un.bases.getD d [])).2.2 : Nat) : Int)) rfl (q_extract rfl rfl) ?_
        refine RW.eff (fun b2 : Nat => .pointer (some (⟨b2, 0, none⟩))) (fun b2 => St ⟨w, Φ, []⟩ Φ [.blk b2 23 [.int .i64 0, .int .i64 0], .blk b1 23 [.int .i64 (n : Int), .int .i64 (d : Int)]]) rfl (e_alloc zero23) ?_
        intro b2
        refine RW.effn (J' := St ⟨w, Φ, []⟩ Φ [.blk b2 23 [.int .i64 (((Un.amt (Lib.decDigits n) (Un.bases.getD d [])).1 : Nat) : Int), .int .i64 (((Un.amt (Lib.decDigits n) (Un.bases.getD d [])).2.1 : Nat) : Int)], .blk b1 23 [.int .i64 (n : Int), .int .i64 (d : Int)]]) (e_store (v := .agg #[.int .i64 (((Un.amt (Lib.decDigits n) (Un.bases.getD d [])).1 : Nat) : Int), .int .i64 (((Un.amt (Lib.decDigits n) (Un.bases.getD d [])).2.1 : Nat) : Int)]) 0 rfl rfl rfl sz23 rfl rfl rfl rfl rfl) ?_
        refine RW.q (v := .int .i64 (((Un.amt (Lib.decDigits n) (Un.bases.getD d [])).2.2 : Nat) : Int)) rfl (q_assign rfl) ?_
        refine RW.nil ?_
        refine Post.then_n ?_
        refine AW.seq ?_
        rw [Un.amt_back (by unfold Un.M; omega) (by omega)]
        refine AW.region ?_
        refine RW.q (v := .bool true) rfl (q_move rfl) ?_
        refine RW.q (v := .bool true) rfl (q_move rfl) ?_
        refine RW.gl (v := .int .i64 0) rfl rfl rfl (q_move rfl) ?_
        refine RW.gl (v := .bool true) rfl rfl rfl (q_eql (a := 0) (b := 0) rfl rfl) ?_
        refine RW.q (v := .bool true) rfl (q_pick rfl (fun hp => pkOrT (q := true) (r := false) hp) (fun hp => pkOrF (q := true) (r := false) hp)) ?_
        refine RW.q (v := .bool true) rfl (q_move rfl) ?_
        refine RW.gl (v := .agg #[.int .i64 (n : Int), .int .i64 (d : Int)]) rfl rfl rfl (q_loadAgg rfl Tryd.underlying23 rfl sz23 rfl (Cells.blk 0 rfl)) ?_
        refine RW.gl (v := .agg #[.int .i64 (n : Int), .int .i64 (d : Int)]) rfl rfl rfl (q_loadAgg rfl Tryd.underlying23 rfl sz23 rfl (Cells.blk 1 rfl)) ?_
        refine RW.gl (v := .bool true) rfl rfl rfl (q_as (v := .bool (decide ((n : Int) = (n : Int)) && decide ((d : Int) = (d : Int)))) (q_eqlS rfl rfl (eqS23 _ _ _ _) eqG23) (congrArg Value.bool (by simp))) ?_
        refine RW.q (v := .bool true) rfl (q_pick rfl (fun hp => pkOrT (q := true) (r := false) hp) (fun hp => pkOrF (q := true) (r := false) hp)) ?_
        refine RW.q (v := .bool true) rfl (q_move rfl) ?_
        refine RW.gl (v := .string (bs S)) rfl rfl rfl (q_move rfl) ?_
        refine RW.gl (v := .int .u8 (((S.getD 0 0).toNat : Nat) : Int)) rfl rfl rfl (q_indexS (l := S) (i := 0) rfl rfl Tryd.underlying9 (by omega) (by omega)) ?_
        refine RW.gl (v := .bool (!decide ((((S.getD 0 0).toNat : Nat) : Int) = ((48 : Nat) : Int)))) rfl rfl rfl (q_neq (a := (((S.getD 0 0).toNat : Nat) : Int)) (b := ((48 : Nat) : Int)) rfl rfl) ?_
        refine RW.gl (v := .bool (!decide ((((S.getD 0 0).toNat : Nat) : Int) = ((48 : Nat) : Int)))) rfl rfl rfl (q_move rfl) ?_
        refine RW.g (b := (!decide ((((S.getD 0 0).toNat : Nat) : Int) = ((48 : Nat) : Int)))) (v := .int .i64 (((Lib.decDigits n).length : Nat) : Int)) rfl rfl rfl (fun h => q_move rfl) ?_
        refine RW.g (b := (!decide ((((S.getD 0 0).toNat : Nat) : Int) = ((48 : Nat) : Int)))) (v := .bool (decide ((((Lib.decDigits n).length : Nat) : Int) = 1))) rfl rfl rfl (fun h => q_eql (gv_pos h) rfl) ?_
        refine RW.gl (v := .bool ((!decide ((((S.getD 0 0).toNat : Nat) : Int) = ((48 : Nat) : Int))) || (decide ((((Lib.decDigits n).length : Nat) : Int) = 1)))) rfl rfl rfl (q_pick rfl (fun hp => pkOrT hp) (fun hp => (gv_pos hp).trans (pkOrF hp))) ?_
        refine RW.q (v := .bool (true && ((!decide ((((S.getD 0 0).toNat : Nat) : Int) = ((48 : Nat) : Int))) || (decide ((((Lib.decDigits n).length : Nat) : Int) = 1))))) rfl (q_pick rfl (fun hp => pkAndT hp) (fun hp => pkAndF hp)) ?_
        refine RW.q (v := .bool (true && ((!decide ((((S.getD 0 0).toNat : Nat) : Int) = ((48 : Nat) : Int))) || (decide ((((Lib.decDigits n).length : Nat) : Int) = 1))))) rfl (q_assign rfl) ?_
        refine RW.nil ?_
        refine Post.then_n ?_
        refine AW.ret ?_
        exact fin_val (v' := .bool (true && ((!decide ((((S.getD 0 0).toNat : Nat) : Int) = ((48 : Nat) : Int))) || (decide ((((Lib.decDigits n).length : Nat) : Int) = 1))))) rfl rfl rfl (by rw [hS0]; exact Un.ub_last n)
    · simp [-List.getD_eq_getElem?_getD] at hc2
      refine AW.skip ?_
      refine Post.then_n ?_
      refine AW.seq ?_
      have hd0 : d = 0 := hb0.1 (by simpa using hc2)
      rw [if_pos (by omega)] at hS
      have htk : S.take (Lib.decDigits n).length = Lib.decDigits n := by rw [← hS]; simp
      rw [show S.length = (Lib.decDigits n).length from by rw [← hS]]
      have hSl : S.length = (Lib.decDigits n).length := by rw [← hS]
      have hS0 : S.getD 0 0 = (Lib.decDigits n).getD 0 0 := by rw [← hS]
      refine AW.region ?_
      refine RW.q (v := .string (bs S)) rfl (q_move rfl) ?_
      refine RW.q (v := .int .i64 (((Lib.decDigits n).length : Nat) : Int)) rfl (q_move rfl) ?_
      refine RW.q (v := .string (bs (Lib.decDigits n))) rfl (q_as (v := .string (bs (S.take ((Lib.decDigits n).length)))) (q_sliceSH (l := S) (j := (((Lib.decDigits n).length : Nat) : Int)) rfl rfl Tryd.underlying9 (by omega) (by omega)) (congrArg (fun z => Value.string (bs z)) (htk))) ?_
      refine RW.q (v := .string (bs (Un.bases.getD d []))) rfl (q_move rfl) ?_
      refine RW.q (v := .tuple #[.agg #[.int .i64 (((Un.amt (Lib.decDigits n) (Un.bases.getD d [])).1 : Nat) : Int), .int .i64 (((Un.amt (Lib.decDigits n) (Un.bases.getD d [])).2.1 : Nat) : Int)], .int .i64 (((Un.amt (Lib.decDigits n) (Un.bases.getD d [])).2.2 : Nat) : Int)]) rfl (q_call (args := #[.string (bs (Lib.decDigits n)), .string (bs (Un.bases.getD d []))]) own9 rfl rfl (fun w1 hw1 => Amount_c w1 (Go.K.hp w1) (Hp.le_refl _) (hG.mono hw1.phi) (by omega))) ?_
      refine RW.q (v := .tuple #[.agg #[.int .i64 (((Un.amt (Lib.decDigits n) (Un.bases.getD d [])).1 : Nat) : Int), .int .i64 (((Un.amt (Lib.decDigits n) (Un.bases.getD d [])).2.1 : Nat) : Int)], .int .i64 (((Un.amt (Lib.decDigits n) (Un.bases.getD d [])).2.2 : Nat) : Int)]) rfl (q_move rfl) ?_
      refine RW.q (v := .agg #[.int .i64 (((Un.amt (Lib.decDigits n) (Un.bases.getD d [])).1 : Nat) : Int), .int .i64 (((Un.amt (Lib.decDigits n) (Un.bases.getD d [])).2.1 : Nat) : Int)]) rfl (q_extract rfl rfl) ?_
      refine RW.q (v := .int .i64 (((Un.amt (Lib.decDigits n) (Un.bases.getD d [])).2.2 : Nat) : Int)) rfl (q_extract rfl rfl) ?_
      refine RW.eff (fun b3 : Nat => .pointer (some (⟨b3, 0, none⟩))) (fun b3 => St ⟨w, Φ, []⟩ Φ [.blk b3 23 [.int .i64 0, .int .i64 0], .blk b1 23 [.int .i64 (n : Int), .int .i64 (d : Int)]]) rfl (e_alloc zero23) ?_
      intro b3
      refine RW.effn (J' := St ⟨w, Φ, []⟩ Φ [.blk b3 23 [.int .i64 (((Un.amt (Lib.decDigits n) (Un.bases.getD d [])).1 : Nat) : Int), .int .i64 (((Un.amt (Lib.decDigits n) (Un.bases.getD d [])).2.1 : Nat) : Int)], .blk b1 23 [.int .i64 (n : Int), .int .i64 (d : Int)]]) (e_store (v := .agg #[.int .i64 (((Un.amt (Lib.decDigits n) (Un.bases.getD d [])).1 : Nat) : Int), .int .i64 (((Un.amt (Lib.decDigits n) (Un.bases.getD d [])).2.1 : Nat) : Int)]) 0 rfl rfl rfl sz23 rfl rfl rfl rfl rfl) ?_
      refine RW.q (v := .int .i64 (((Un.amt (Lib.decDigits n) (Un.bases.getD d [])).2.2 : Nat) : Int)) rfl (q_assign rfl) ?_
      refine RW.nil ?_
      refine Post.then_n ?_
      refine AW.seq ?_
      rw [Un.amt_back (by unfold Un.M; omega) (by omega)]
      refine AW.region ?_
      refine RW.q (v := .bool true) rfl (q_move rfl) ?_
      refine RW.q (v := .bool true) rfl (q_move rfl) ?_
      refine RW.gl (v := .int .i64 0) rfl rfl rfl (q_move rfl) ?_
      refine RW.gl (v := .bool true) rfl rfl rfl (q_eql (a := 0) (b := 0) rfl rfl) ?_
      refine RW.q (v := .bool true) rfl (q_pick rfl (fun hp => pkOrT (q := true) (r := false) hp) (fun hp => pkOrF (q := true) (r := false) hp)) ?_
      refine RW.q (v := .bool true) rfl (q_move rfl) ?_
      refine RW.gl (v := .agg #[.int .i64 (n : Int), .int .i64 (d : Int)]) rfl rfl rfl (q_loadAgg rfl Tryd.underlying23 rfl sz23 rfl (Cells.blk 0 rfl)) ?_
      refine RW.gl (v := .agg #[.int .i64 (n : Int), .int .i64 (d : Int)]) rfl rfl rfl (q_loadAgg rfl Tryd.underlying23 rfl sz23 rfl (Cells.blk 1 rfl)) ?_
      refine RW.gl (v := .bool true) rfl rfl rfl (q_as (v := .bool (decide ((n : Int) = (n : Int)) && decide ((d : Int) = (d : Int)))) (q_eqlS rfl rfl (eqS23 _ _ _ _) eqG23) (congrArg Value.bool (by simp))) ?_
      refine RW.q (v := .bool true) rfl (q_pick rfl (fun hp => pkOrT (q := true) (r := false) hp) (fun hp => pkOrF (q := true) (r := false) hp)) ?_
      refine RW.q (v := .bool true) rfl (q_move rfl) ?_
      refine RW.gl (v := .string (bs S)) rfl rfl rfl (q_move rfl) ?_
      refine RW.gl (v := .int .u8 (((S.getD 0 0).toNat : Nat) : Int)) rfl rfl rfl (q_indexS (l := S) (i := 0) rfl rfl Tryd.underlying9 (by omega) (by omega)) ?_
      refine RW.gl (v := .bool (!decide ((((S.getD 0 0).toNat : Nat) : Int) = ((48 : Nat) : Int)))) rfl rfl rfl (q_neq (a := (((S.getD 0 0).toNat : Nat) : Int)) (b := ((48 : Nat) : Int)) rfl rfl) ?_
      refine RW.gl (v := .bool (!decide ((((S.getD 0 0).toNat : Nat) : Int) = ((48 : Nat) : Int)))) rfl rfl rfl (q_move rfl) ?_
      refine RW.g (b := (!decide ((((S.getD 0 0).toNat : Nat) : Int) = ((48 : Nat) : Int)))) (v := .int .i64 (((Lib.decDigits n).length : Nat) : Int)) rfl rfl rfl (fun h => q_move rfl) ?_
      refine RW.g (b := (!decide ((((S.getD 0 0).toNat : Nat) : Int) = ((48 : Nat) : Int)))) (v := .bool (decide ((((Lib.decDigits n).length : Nat) : Int) = 1))) rfl rfl rfl (fun h => q_eql (gv_pos h) rfl) ?_
      refine RW.gl (v := .bool ((!decide ((((S.getD 0 0).toNat : Nat) : Int) = ((48 : Nat) : Int))) || (decide ((((Lib.decDigits n).length : Nat) : Int) = 1)))) rfl rfl rfl (q_pick rfl (fun hp => pkOrT hp) (fun hp => (gv_pos hp).trans (pkOrF hp))) ?_
      refine RW.q (v := .bool (true && ((!decide ((((S.getD 0 0).toNat : Nat) : Int) = ((48 : Nat) : Int))) || (decide ((((Lib.decDigits n).length : Nat) : Int) = 1))))) rfl (q_pick rfl (fun hp => pkAndT hp) (fun hp => pkAndF hp)) ?_
      refine RW.q (v := .bool (true && ((!decide ((((S.getD 0 0).toNat : Nat) : Int) = ((48 : Nat) : Int))) || (decide ((((Lib.decDigits n).length : Nat) : Int) = 1))))) rfl (q_assign rfl) ?_
      refine RW.nil ?_
      refine Post.then_n ?_
      refine AW.ret ?_
      exact fin_val (v' := .bool (true && ((!decide ((((S.getD 0 0).toNat : Nat) : Int) = ((48 : Nat) : Int))) || (decide ((((Lib.decDigits n).length : Nat) : Int) = 1))))) rfl rfl rfl (by rw [hS0]; exact Un.ub_last n)

end Go.Proofs.YthiflhoobldioaaDoor
