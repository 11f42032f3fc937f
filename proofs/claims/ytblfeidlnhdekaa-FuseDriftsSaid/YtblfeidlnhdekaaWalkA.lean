/- Walks (part WalkA), printed by walk2.py. Conditions: those of each theorem. -/
import Derived.Test.YtblfeidlnhdekaaLibA
import Derived.Test.YtblfeidlnhdekaaPlain
import Derived.Test.YtblfeidlnhdekaaCore6
namespace Go.Proofs.Ytblfeidlnhdekaa
open Go Go.K Go.RowKit

theorem eqF42 (a0 a1 b0 b1 : Int) (n : Nat) (w : World) : (Op.eqFields (n + 1) #[.int .i64 a0, .int .i64 a1] #[.int .i64 b0, .int .i64 b1] (Try.prog.fieldsOf 42).toList).run Try.prog w = .ok (decide (a0 = b0) && decide (a1 = b1)) w := by
  unfold Program.fieldsOf
  rw [Try.underlying42]
  have hp3 : ∀ {cs : Array Value} {o : Nat} {v : Value} (h : cs[o]? = some v) (w : World), (part 3 cs o).run Try.prog w = .ok v w := fun h w => run_part1 Try.underlying3 rfl h w
  have hq3 : ∀ (x y : Int) (w : World), (Op.equalIn (n + 1) 3 (.int .i64 x) (.int .i64 y)).run Try.prog w = .ok (x == y) w := fun x y w => run_equalIn_int w (n + 0) 3 .i64 .i64 x y Try.underlying3
  simp only [Op.eqFields, ne_eq, String.reduceEq, not_false_eq_true, if_true, Sem.run_bind, hp3 (show #[Value.int .i64 a0, Value.int .i64 a1][0]? = some (.int .i64 a0) from rfl), hp3 (show #[Value.int .i64 b0, Value.int .i64 b1][0]? = some (.int .i64 b0) from rfl), hp3 (show #[Value.int .i64 a0, Value.int .i64 a1][1]? = some (.int .i64 a1) from rfl), hp3 (show #[Value.int .i64 b0, Value.int .i64 b1][1]? = some (.int .i64 b1) from rfl), hq3, Result.andThen_ok, Sem.run_ite, Sem.run_pure]
  by_cases h0 : a0 = b0 <;> by_cases h1 : a1 = b1 <;> simp [*]
theorem eqS42 (a0 a1 b0 b1 : Int) : ∀ w, (Op.equal 42 (.agg #[.int .i64 a0, .int .i64 a1]) (.agg #[.int .i64 b0, .int .i64 b1])).run Try.prog w = .ok (decide (a0 = b0) && decide (a1 = b1)) w := fun w => by
  have hT : Try.prog.underlying 42 = some (.struct (Try.prog.fieldsOf 42)) := by unfold Program.fieldsOf; rw [Try.underlying42]
  show (Op.equalIn (9999 + 1) 42 _ _).run Try.prog w = _
  rw [run_equalIn_struct w 9999 42 _ _ hT (by kernel_rfl)]
  exact eqF42 a0 a1 b0 b1 9998 w
theorem eqG42 : Program.eqGuardType Try.prog Try.prog.depth 42 = false := by kernel_rfl
theorem eqF93 (a0 a1 a2 a3 b0 b1 b2 b3 : Int) (n : Nat) (w : World) : (Op.eqFields (n + 2) #[.int .i64 a0, .int .i64 a1, .int .i64 a2, .int .i64 a3] #[.int .i64 b0, .int .i64 b1, .int .i64 b2, .int .i64 b3] (Try.prog.fieldsOf 93).toList).run Try.prog w = .ok (decide (a0 = b0) && decide (a1 = b1) && decide (a2 = b2) && decide (a3 = b3)) w := by
  unfold Program.fieldsOf
  rw [Try.underlying93]
  have hp3 : ∀ {cs : Array Value} {o : Nat} {v : Value} (h : cs[o]? = some v) (w : World), (part 3 cs o).run Try.prog w = .ok v w := fun h w => run_part1 Try.underlying3 rfl h w
  have hq3 : ∀ (x y : Int) (w : World), (Op.equalIn (n + 2) 3 (.int .i64 x) (.int .i64 y)).run Try.prog w = .ok (x == y) w := fun x y w => run_equalIn_int w (n + 1) 3 .i64 .i64 x y Try.underlying3
  have hp42 : ∀ {cs es : Array Value} {o : Nat} (h : cs.extract o (o + 2) = es) (w : World), (part 42 cs o).run Try.prog w = .ok (.agg es) w := fun h w => run_partA Try.underlying42 rfl (by kernel_rfl) h w
  have hq42 : ∀ (x0 x1 y0 y1 : Int) (w : World), (Op.equalIn (n + 2) 42 (.agg #[.int .i64 x0, .int .i64 x1]) (.agg #[.int .i64 y0, .int .i64 y1])).run Try.prog w = .ok (decide (x0 = y0) && decide (x1 = y1)) w := fun x0 x1 y0 y1 w => by
    have hT : Try.prog.underlying 42 = some (.struct (Try.prog.fieldsOf 42)) := by unfold Program.fieldsOf; rw [Try.underlying42]
    rw [show n + 2 = (n + 1) + 1 from rfl, run_equalIn_struct w (n + 1) 42 _ _ hT (by kernel_rfl)]
    exact eqF42 x0 x1 y0 y1 (n + 0) w
  simp only [Op.eqFields, ne_eq, String.reduceEq, not_false_eq_true, if_true, Sem.run_bind, hp3 (show #[Value.int .i64 a0, Value.int .i64 a1, Value.int .i64 a2, Value.int .i64 a3][0]? = some (.int .i64 a0) from rfl), hp3 (show #[Value.int .i64 b0, Value.int .i64 b1, Value.int .i64 b2, Value.int .i64 b3][0]? = some (.int .i64 b0) from rfl), hp3 (show #[Value.int .i64 a0, Value.int .i64 a1, Value.int .i64 a2, Value.int .i64 a3][1]? = some (.int .i64 a1) from rfl), hp3 (show #[Value.int .i64 b0, Value.int .i64 b1, Value.int .i64 b2, Value.int .i64 b3][1]? = some (.int .i64 b1) from rfl), hp42 (show (#[Value.int .i64 a0, Value.int .i64 a1, Value.int .i64 a2, Value.int .i64 a3] : Array Value).extract 2 (2 + 2) = #[Value.int .i64 a2, Value.int .i64 a3] from rfl), hp42 (show (#[Value.int .i64 b0, Value.int .i64 b1, Value.int .i64 b2, Value.int .i64 b3] : Array Value).extract 2 (2 + 2) = #[Value.int .i64 b2, Value.int .i64 b3] from rfl), hq3, hq42, Result.andThen_ok, Sem.run_ite, Sem.run_pure]
  by_cases h0 : a0 = b0 <;> by_cases h1 : a1 = b1 <;> by_cases h2 : a2 = b2 <;> by_cases h3 : a3 = b3 <;> simp [*]
theorem eqS93 (a0 a1 a2 a3 b0 b1 b2 b3 : Int) : ∀ w, (Op.equal 93 (.agg #[.int .i64 a0, .int .i64 a1, .int .i64 a2, .int .i64 a3]) (.agg #[.int .i64 b0, .int .i64 b1, .int .i64 b2, .int .i64 b3])).run Try.prog w = .ok (decide (a0 = b0) && decide (a1 = b1) && decide (a2 = b2) && decide (a3 = b3)) w := fun w => by
  have hT : Try.prog.underlying 93 = some (.struct (Try.prog.fieldsOf 93)) := by unfold Program.fieldsOf; rw [Try.underlying93]
  show (Op.equalIn (9999 + 1) 93 _ _).run Try.prog w = _
  rw [run_equalIn_struct w 9999 93 _ _ hT (by kernel_rfl)]
  exact eqF93 a0 a1 a2 a3 b0 b1 b2 b3 9997 w
theorem eqG93 : Program.eqGuardType Try.prog Try.prog.depth 93 = false := by kernel_rfl
theorem eqF79 (a0 a1 a2 a3 a4 b0 b1 b2 b3 b4 : Int) (n : Nat) (w : World) : (Op.eqFields (n + 2) #[.int .i64 a0, .int .i64 a1, .int .i64 a2, .int .i64 a3, .int .i64 a4] #[.int .i64 b0, .int .i64 b1, .int .i64 b2, .int .i64 b3, .int .i64 b4] (Try.prog.fieldsOf 79).toList).run Try.prog w = .ok (decide (a0 = b0) && decide (a1 = b1) && decide (a2 = b2) && decide (a3 = b3) && decide (a4 = b4)) w := by
  unfold Program.fieldsOf
  rw [Try.underlying79]
  have hp3 : ∀ {cs : Array Value} {o : Nat} {v : Value} (h : cs[o]? = some v) (w : World), (part 3 cs o).run Try.prog w = .ok v w := fun h w => run_part1 Try.underlying3 rfl h w
  have hq3 : ∀ (x y : Int) (w : World), (Op.equalIn (n + 2) 3 (.int .i64 x) (.int .i64 y)).run Try.prog w = .ok (x == y) w := fun x y w => run_equalIn_int w (n + 1) 3 .i64 .i64 x y Try.underlying3
  have hp42 : ∀ {cs es : Array Value} {o : Nat} (h : cs.extract o (o + 2) = es) (w : World), (part 42 cs o).run Try.prog w = .ok (.agg es) w := fun h w => run_partA Try.underlying42 rfl (by kernel_rfl) h w
  have hq42 : ∀ (x0 x1 y0 y1 : Int) (w : World), (Op.equalIn (n + 2) 42 (.agg #[.int .i64 x0, .int .i64 x1]) (.agg #[.int .i64 y0, .int .i64 y1])).run Try.prog w = .ok (decide (x0 = y0) && decide (x1 = y1)) w := fun x0 x1 y0 y1 w => by
    have hT : Try.prog.underlying 42 = some (.struct (Try.prog.fieldsOf 42)) := by unfold Program.fieldsOf; rw [Try.underlying42]
    rw [show n + 2 = (n + 1) + 1 from rfl, run_equalIn_struct w (n + 1) 42 _ _ hT (by kernel_rfl)]
    exact eqF42 x0 x1 y0 y1 (n + 0) w
  simp only [Op.eqFields, ne_eq, String.reduceEq, not_false_eq_true, if_true, Sem.run_bind, hp42 (show (#[Value.int .i64 a0, Value.int .i64 a1, Value.int .i64 a2, Value.int .i64 a3, Value.int .i64 a4] : Array Value).extract 0 (0 + 2) = #[Value.int .i64 a0, Value.int .i64 a1] from rfl), hp42 (show (#[Value.int .i64 b0, Value.int .i64 b1, Value.int .i64 b2, Value.int .i64 b3, Value.int .i64 b4] : Array Value).extract 0 (0 + 2) = #[Value.int .i64 b0, Value.int .i64 b1] from rfl), hp3 (show #[Value.int .i64 a0, Value.int .i64 a1, Value.int .i64 a2, Value.int .i64 a3, Value.int .i64 a4][2]? = some (.int .i64 a2) from rfl), hp3 (show #[Value.int .i64 b0, Value.int .i64 b1, Value.int .i64 b2, Value.int .i64 b3, Value.int .i64 b4][2]? = some (.int .i64 b2) from rfl), hp42 (show (#[Value.int .i64 a0, Value.int .i64 a1, Value.int .i64 a2, Value.int .i64 a3, Value.int .i64 a4] : Array Value).extract 3 (3 + 2) = #[Value.int .i64 a3, Value.int .i64 a4] from rfl), hp42 (show (#[Value.int .i64 b0, Value.int .i64 b1, Value.int .i64 b2, Value.int .i64 b3, Value.int .i64 b4] : Array Value).extract 3 (3 + 2) = #[Value.int .i64 b3, Value.int .i64 b4] from rfl), hq3, hq42, Result.andThen_ok, Sem.run_ite, Sem.run_pure]
  by_cases h0 : a0 = b0 <;> by_cases h1 : a1 = b1 <;> by_cases h2 : a2 = b2 <;> by_cases h3 : a3 = b3 <;> by_cases h4 : a4 = b4 <;> simp [*]
theorem eqS79 (a0 a1 a2 a3 a4 b0 b1 b2 b3 b4 : Int) : ∀ w, (Op.equal 79 (.agg #[.int .i64 a0, .int .i64 a1, .int .i64 a2, .int .i64 a3, .int .i64 a4]) (.agg #[.int .i64 b0, .int .i64 b1, .int .i64 b2, .int .i64 b3, .int .i64 b4])).run Try.prog w = .ok (decide (a0 = b0) && decide (a1 = b1) && decide (a2 = b2) && decide (a3 = b3) && decide (a4 = b4)) w := fun w => by
  have hT : Try.prog.underlying 79 = some (.struct (Try.prog.fieldsOf 79)) := by unfold Program.fieldsOf; rw [Try.underlying79]
  show (Op.equalIn (9999 + 1) 79 _ _).run Try.prog w = _
  rw [run_equalIn_struct w 9999 79 _ _ hT (by kernel_rfl)]
  exact eqF79 a0 a1 a2 a3 a4 b0 b1 b2 b3 b4 9997 w
theorem eqG79 : Program.eqGuardType Try.prog Try.prog.depth 79 = false := by kernel_rfl
set_option maxRecDepth 8000 in
set_option maxHeartbeats 1000000 in
theorem sRight_c (w : World) (Φ : Hp) (hΦ : Hp.le Φ (hp w)) {aL aH : Int} :
    Calls Try.prog 70 #[.agg #[.int .i64 aL, .int .i64 aH]] w fun e w' => e = .returned (.bool (decide (aL ≤ aH))) ∧ Below w.heap.size w w' := by
  refine calls_of_AW (args := [.agg #[.int .i64 aL, .int .i64 aH]]) Try.func70 rfl (Nat.le_of_ble_eq_true rfl) (St ⟨w, Φ, []⟩ Φ []) (StP.init w Φ hΦ []) ?_
  show AW Try.prog 8 [] _ _ _ [(0, .agg #[.int .i64 aL, .int .i64 aH])] _
  refine AW.seq ?_
  refine AW.region ?_
  refine RW.eff (fun b1 : Nat => .pointer (some (⟨b1, 0, none⟩))) (fun b1 => St ⟨w, Φ, []⟩ Φ [.blk b1 42 [.int .i64 aL, .int .i64 aH]]) rfl (e_boxA (cs := [.int .i64 aL, .int .i64 aH]) rfl) ?_
  intro b1
  refine RW.q (v := .bool false) rfl (q_assign rfl) ?_
  refine RW.nil ?_
  refine Post.then_n ?_
  refine AW.seq ?_
  refine AW.region ?_
  refine RW.q (v := .pointer (some (⟨b1, 0, none⟩))) rfl (q_fieldAddr rfl Try.underlying42 rfl sz3 rfl) ?_
  refine RW.q (v := .int .i64 aL) rfl (q_load rfl Try.underlying3 rfl (Cell.blk 0 rfl rfl)) ?_
  refine RW.q (v := .pointer (some (⟨b1, 1, none⟩))) rfl (q_fieldAddr rfl Try.underlying42 rfl sz3 rfl) ?_
  refine RW.q (v := .int .i64 aH) rfl (q_load rfl Try.underlying3 rfl (Cell.blk 0 rfl rfl)) ?_
  refine RW.q (v := .bool (decide (aL ≤ aH))) rfl (q_leq rfl rfl) ?_
  refine RW.q (v := .bool (decide (aL ≤ aH))) rfl (q_assign rfl) ?_
  refine RW.nil ?_
  refine Post.then_n ?_
  refine AW.ret ?_
  exact fin_val (v' := .bool (decide (aL ≤ aH))) rfl rfl rfl (rfl)

set_option maxRecDepth 8000 in
set_option maxHeartbeats 1000000 in
theorem Meet_c (w : World) (Φ : Hp) (hΦ : Hp.le Φ (hp w)) {aL aH bL bH : Int} :
    Calls Try.prog 30 #[.agg #[.int .i64 aL, .int .i64 aH], .agg #[.int .i64 bL, .int .i64 bH]] w fun e w' => e = .returned (.tuple #[.agg #[.int .i64 (Fu.loOf (Fu.meet aL aH bL bH)), .int .i64 (Fu.hiOf (Fu.meet aL aH bL bH))], .bool (Fu.meet aL aH bL bH).isSome]) ∧ Below w.heap.size w w' := by
  refine calls_of_AW (args := [.agg #[.int .i64 aL, .int .i64 aH], .agg #[.int .i64 bL, .int .i64 bH]]) Try.func30 rfl (Nat.le_of_ble_eq_true rfl) (St ⟨w, Φ, []⟩ Φ []) (StP.init w Φ hΦ []) ?_
  show AW Try.prog 23 [] _ _ _ [(0, .agg #[.int .i64 aL, .int .i64 aH]), (1, .agg #[.int .i64 bL, .int .i64 bH])] _
  refine AW.seq ?_
  refine AW.region ?_
  refine RW.eff (fun b1 : Nat => .pointer (some (⟨b1, 0, none⟩))) (fun b1 => St ⟨w, Φ, []⟩ Φ [.blk b1 42 [.int .i64 aL, .int .i64 aH]]) rfl (e_boxA (cs := [.int .i64 aL, .int .i64 aH]) rfl) ?_
  intro b1
  refine RW.eff (fun b2 : Nat => .pointer (some (⟨b2, 0, none⟩))) (fun b2 => St ⟨w, Φ, []⟩ Φ [.blk b2 42 [.int .i64 bL, .int .i64 bH], .blk b1 42 [.int .i64 aL, .int .i64 aH]]) rfl (e_boxA (cs := [.int .i64 bL, .int .i64 bH]) rfl) ?_
  intro b2
  refine RW.eff (fun b3 : Nat => .pointer (some (⟨b3, 0, none⟩))) (fun b3 => St ⟨w, Φ, []⟩ Φ [.blk b3 42 [.int .i64 0, .int .i64 0], .blk b2 42 [.int .i64 bL, .int .i64 bH], .blk b1 42 [.int .i64 aL, .int .i64 aH]]) rfl (e_alloc zero42) ?_
  intro b3
  refine RW.q (v := .bool false) rfl (q_assign rfl) ?_
  refine RW.nil ?_
  refine Post.then_n ?_
  refine AW.seq ?_
  refine AW.region ?_
  refine RW.q (v := .pointer (some (⟨b1, 0, none⟩))) rfl (q_fieldAddr rfl Try.underlying42 rfl sz3 rfl) ?_
  refine RW.q (v := .int .i64 aL) rfl (q_load rfl Try.underlying3 rfl (Cell.blk 2 rfl rfl)) ?_
  refine RW.q (v := .pointer (some (⟨b2, 0, none⟩))) rfl (q_fieldAddr rfl Try.underlying42 rfl sz3 rfl) ?_
  refine RW.q (v := .int .i64 bL) rfl (q_load rfl Try.underlying3 rfl (Cell.blk 1 rfl rfl)) ?_
  refine RW.q (v := .int .i64 (max aL bL)) rfl (q_max rfl rfl) ?_
  refine RW.q (v := .pointer (some (⟨b1, 1, none⟩))) rfl (q_fieldAddr rfl Try.underlying42 rfl sz3 rfl) ?_
  refine RW.q (v := .int .i64 aH) rfl (q_load rfl Try.underlying3 rfl (Cell.blk 2 rfl rfl)) ?_
  refine RW.q (v := .pointer (some (⟨b2, 1, none⟩))) rfl (q_fieldAddr rfl Try.underlying42 rfl sz3 rfl) ?_
  refine RW.q (v := .int .i64 bH) rfl (q_load rfl Try.underlying3 rfl (Cell.blk 1 rfl rfl)) ?_
  refine RW.q (v := .int .i64 (min aH bH)) rfl (q_min rfl rfl) ?_
  refine RW.q (v := .agg #[.int .i64 (max aL bL), .int .i64 (min aH bH)]) rfl (q_build (vals := [(0, .int .i64 (max aL bL)), (1, .int .i64 (min aH bH))]) zero42 Try.underlying42 places42 rfl rfl) ?_
  refine RW.eff (fun b4 : Nat => .pointer (some (⟨b4, 0, none⟩))) (fun b4 => St ⟨w, Φ, []⟩ Φ [.blk b4 42 [.int .i64 0, .int .i64 0], .blk b3 42 [.int .i64 0, .int .i64 0], .blk b2 42 [.int .i64 bL, .int .i64 bH], .blk b1 42 [.int .i64 aL, .int .i64 aH]]) rfl (e_alloc zero42) ?_
  intro b4
  refine RW.effn (J' := St ⟨w, Φ, []⟩ Φ [.blk b4 42 [.int .i64 (max aL bL), .int .i64 (min aH bH)], .blk b3 42 [.int .i64 0, .int .i64 0], .blk b2 42 [.int .i64 bL, .int .i64 bH], .blk b1 42 [.int .i64 aL, .int .i64 aH]]) (e_store (v := .agg #[.int .i64 (max aL bL), .int .i64 (min aH bH)]) 0 rfl rfl rfl sz42 rfl rfl rfl rfl rfl) ?_
  refine RW.nil ?_
  refine Post.then_n ?_
  refine AW.seq ?_
  refine AW.seq ?_
  refine AW.region ?_
  refine RW.q (v := .agg #[.int .i64 (max aL bL), .int .i64 (min aH bH)]) rfl (q_loadAgg rfl Try.underlying42 rfl sz42 rfl (Cells.blk 0 rfl)) ?_
  refine RW.q (v := .bool (decide (max aL bL ≤ min aH bH))) rfl (q_call (args := #[.agg #[.int .i64 (max aL bL), .int .i64 (min aH bH)]]) own70 rfl rfl (fun w1 hw1 => sRight_c w1 (Go.K.hp w1) (Hp.le_refl _))) ?_
  refine RW.q (v := .bool (!(decide (max aL bL ≤ min aH bH)))) rfl (q_not rfl) ?_
  refine RW.nil ?_
  refine Post.then_n ?_
  refine AW.cond (b := !(decide (max aL bL ≤ min aH bH))) rfl (fun hc1 => ?_) (fun hc1 => ?_)
  · simp [-List.getD_eq_getElem?_getD] at hc1
    refine AW.seq ?_
    refine AW.region ?_
    refine RW.q (v := .agg #[.int .i64 0, .int .i64 0]) rfl (q_build (vals := []) zero42 Try.underlying42 places42 rfl rfl) ?_
    refine RW.effn (J' := St ⟨w, Φ, []⟩ Φ [.blk b4 42 [.int .i64 (max aL bL), .int .i64 (min aH bH)], .blk b3 42 [.int .i64 0, .int .i64 0], .blk b2 42 [.int .i64 bL, .int .i64 bH], .blk b1 42 [.int .i64 aL, .int .i64 aH]]) (e_store (v := .agg #[.int .i64 0, .int .i64 0]) 1 rfl rfl rfl sz42 rfl rfl rfl rfl rfl) ?_
    refine RW.q (v := .bool false) rfl (q_assign rfl) ?_
    refine RW.nil ?_
    refine Post.then_n ?_
    refine AW.ret ?_
    refine Post.then_r ?_
    refine fin_cell2 (cs := [.int .i64 0, .int .i64 0]) (v := .bool false) rfl rfl rfl rfl Try.underlying42 rfl sz42 rfl (Cells.blk 1 rfl) (fun w' hw => ?_)
    refine ⟨?_, hw.below rfl⟩
    unfold Fu.meet; rw [if_neg (by simpa using hc1)]; rfl
  · simp [-List.getD_eq_getElem?_getD] at hc1
    refine AW.skip ?_
    refine Post.then_n ?_
    refine AW.seq ?_
    refine AW.region ?_
    refine RW.q (v := .agg #[.int .i64 (max aL bL), .int .i64 (min aH bH)]) rfl (q_loadAgg rfl Try.underlying42 rfl sz42 rfl (Cells.blk 0 rfl)) ?_
    refine RW.effn (J' := St ⟨w, Φ, []⟩ Φ [.blk b4 42 [.int .i64 (max aL bL), .int .i64 (min aH bH)], .blk b3 42 [.int .i64 (max aL bL), .int .i64 (min aH bH)], .blk b2 42 [.int .i64 bL, .int .i64 bH], .blk b1 42 [.int .i64 aL, .int .i64 aH]]) (e_store (v := .agg #[.int .i64 (max aL bL), .int .i64 (min aH bH)]) 1 rfl rfl rfl sz42 rfl rfl rfl rfl rfl) ?_
    refine RW.q (v := .bool true) rfl (q_assign rfl) ?_
    refine RW.nil ?_
    refine Post.then_n ?_
    refine AW.ret ?_
    refine fin_cell2 (cs := [.int .i64 (max aL bL), .int .i64 (min aH bH)]) (v := .bool true) rfl rfl rfl rfl Try.underlying42 rfl sz42 rfl (Cells.blk 1 rfl) (fun w' hw => ?_)
    refine ⟨?_, hw.below rfl⟩
    unfold Fu.meet; rw [if_pos (by simpa using hc1)]; rfl

set_option maxRecDepth 8000 in
set_option maxHeartbeats 1000000 in
theorem rMeet_c (w : World) (Φ : Hp) (hΦ : Hp.le Φ (hp w)) {aL aH bL bH : Int} :
    Calls Try.prog 75 #[.agg #[.int .i64 aL, .int .i64 aH], .agg #[.int .i64 bL, .int .i64 bH]] w fun e w' => e = .returned (.tuple #[.agg #[.int .i64 (Fu.loOf (Fu.meet aL aH bL bH)), .int .i64 (Fu.hiOf (Fu.meet aL aH bL bH))], .bool (Fu.meet aL aH bL bH).isSome]) ∧ Below w.heap.size w w' := by
  refine calls_of_AW (args := [.agg #[.int .i64 aL, .int .i64 aH], .agg #[.int .i64 bL, .int .i64 bH]]) Try.func75 rfl (Nat.le_of_ble_eq_true rfl) (St ⟨w, Φ, []⟩ Φ []) (StP.init w Φ hΦ []) ?_
  show AW Try.prog 31 [] _ _ _ [(0, .agg #[.int .i64 aL, .int .i64 aH]), (1, .agg #[.int .i64 bL, .int .i64 bH])] _
  refine AW.seq ?_
  refine AW.region ?_
  refine RW.eff (fun b1 : Nat => .pointer (some (⟨b1, 0, none⟩))) (fun b1 => St ⟨w, Φ, []⟩ Φ [.blk b1 42 [.int .i64 aL, .int .i64 aH]]) rfl (e_boxA (cs := [.int .i64 aL, .int .i64 aH]) rfl) ?_
  intro b1
  refine RW.eff (fun b2 : Nat => .pointer (some (⟨b2, 0, none⟩))) (fun b2 => St ⟨w, Φ, []⟩ Φ [.blk b2 42 [.int .i64 bL, .int .i64 bH], .blk b1 42 [.int .i64 aL, .int .i64 aH]]) rfl (e_boxA (cs := [.int .i64 bL, .int .i64 bH]) rfl) ?_
  intro b2
  refine RW.eff (fun b3 : Nat => .pointer (some (⟨b3, 0, none⟩))) (fun b3 => St ⟨w, Φ, []⟩ Φ [.blk b3 42 [.int .i64 0, .int .i64 0], .blk b2 42 [.int .i64 bL, .int .i64 bH], .blk b1 42 [.int .i64 aL, .int .i64 aH]]) rfl (e_alloc zero42) ?_
  intro b3
  refine RW.q (v := .bool false) rfl (q_assign rfl) ?_
  refine RW.nil ?_
  refine Post.then_n ?_
  refine AW.seq ?_
  refine AW.region ?_
  refine RW.q (v := .agg #[.int .i64 aL, .int .i64 aH]) rfl (q_loadAgg rfl Try.underlying42 rfl sz42 rfl (Cells.blk 2 rfl)) ?_
  refine RW.eff (fun b4 : Nat => .pointer (some (⟨b4, 0, none⟩))) (fun b4 => St ⟨w, Φ, []⟩ Φ [.blk b4 42 [.int .i64 0, .int .i64 0], .blk b3 42 [.int .i64 0, .int .i64 0], .blk b2 42 [.int .i64 bL, .int .i64 bH], .blk b1 42 [.int .i64 aL, .int .i64 aH]]) rfl (e_alloc zero42) ?_
  intro b4
  refine RW.effn (J' := St ⟨w, Φ, []⟩ Φ [.blk b4 42 [.int .i64 aL, .int .i64 aH], .blk b3 42 [.int .i64 0, .int .i64 0], .blk b2 42 [.int .i64 bL, .int .i64 bH], .blk b1 42 [.int .i64 aL, .int .i64 aH]]) (e_store (v := .agg #[.int .i64 aL, .int .i64 aH]) 0 rfl rfl rfl sz42 rfl rfl rfl rfl rfl) ?_
  refine RW.nil ?_
  refine Post.then_n ?_
  refine AW.seq ?_
  refine AW.seq ?_
  refine AW.region ?_
  refine RW.q (v := .pointer (some (⟨b2, 0, none⟩))) rfl (q_fieldAddr rfl Try.underlying42 rfl sz3 rfl) ?_
  refine RW.q (v := .int .i64 bL) rfl (q_load rfl Try.underlying3 rfl (Cell.blk 2 rfl rfl)) ?_
  refine RW.q (v := .pointer (some (⟨b4, 0, none⟩))) rfl (q_fieldAddr rfl Try.underlying42 rfl sz3 rfl) ?_
  refine RW.q (v := .int .i64 aL) rfl (q_load rfl Try.underlying3 rfl (Cell.blk 0 rfl rfl)) ?_
  refine RW.q (v := .bool (decide (aL < bL))) rfl (q_gtr rfl rfl) ?_
  refine RW.nil ?_
  refine Post.then_n ?_
  refine AW.cond (b := decide (aL < bL)) rfl (fun hc1 => ?_) (fun hc1 => ?_)
  · simp [-List.getD_eq_getElem?_getD] at hc1
    refine AW.region ?_
    refine RW.q (v := .pointer (some (⟨b2, 0, none⟩))) rfl (q_fieldAddr rfl Try.underlying42 rfl sz3 rfl) ?_
    refine RW.q (v := .int .i64 bL) rfl (q_load rfl Try.underlying3 rfl (Cell.blk 2 rfl rfl)) ?_
    refine RW.q (v := .pointer (some (⟨b4, 0, none⟩))) rfl (q_fieldAddr rfl Try.underlying42 rfl sz3 rfl) ?_
    refine RW.effn (J' := St ⟨w, Φ, []⟩ Φ [.blk b4 42 [.int .i64 bL, .int .i64 aH], .blk b3 42 [.int .i64 0, .int .i64 0], .blk b2 42 [.int .i64 bL, .int .i64 bH], .blk b1 42 [.int .i64 aL, .int .i64 aH]]) (e_store (v := .int .i64 bL) 0 rfl rfl rfl sz3 rfl rfl rfl rfl rfl) ?_
    refine RW.nil ?_
    refine Post.then_n ?_
    refine AW.seq ?_
    refine AW.seq ?_
    refine AW.region ?_
    refine RW.q (v := .pointer (some (⟨b2, 1, none⟩))) rfl (q_fieldAddr rfl Try.underlying42 rfl sz3 rfl) ?_
    refine RW.q (v := .int .i64 bH) rfl (q_load rfl Try.underlying3 rfl (Cell.blk 2 rfl rfl)) ?_
    refine RW.q (v := .pointer (some (⟨b4, 1, none⟩))) rfl (q_fieldAddr rfl Try.underlying42 rfl sz3 rfl) ?_
    refine RW.q (v := .int .i64 aH) rfl (q_load rfl Try.underlying3 rfl (Cell.blk 0 rfl rfl)) ?_
    refine RW.q (v := .bool (decide (bH < aH))) rfl (q_lss rfl rfl) ?_
    refine RW.nil ?_
    refine Post.then_n ?_
    refine AW.cond (b := decide (bH < aH)) rfl (fun hc2 => ?_) (fun hc2 => ?_)
    · simp [-List.getD_eq_getElem?_getD] at hc2
      refine AW.region ?_
      refine RW.q (v := .pointer (some (⟨b2, 1, none⟩))) rfl (q_fieldAddr rfl Try.underlying42 rfl sz3 rfl) ?_
      refine RW.q (v := .int .i64 bH) rfl (q_load rfl Try.underlying3 rfl (Cell.blk 2 rfl rfl)) ?_
      refine RW.q (v := .pointer (some (⟨b4, 1, none⟩))) rfl (q_fieldAddr rfl Try.underlying42 rfl sz3 rfl) ?_
      refine RW.effn (J' := St ⟨w, Φ, []⟩ Φ [.blk b4 42 [.int .i64 bL, .int .i64 bH], .blk b3 42 [.int .i64 0, .int .i64 0], .blk b2 42 [.int .i64 bL, .int .i64 bH], .blk b1 42 [.int .i64 aL, .int .i64 aH]]) (e_store (v := .int .i64 bH) 0 rfl rfl rfl sz3 rfl rfl rfl rfl rfl) ?_
      refine RW.nil ?_
      refine Post.then_n ?_
      refine AW.seq ?_
      refine AW.seq ?_
      refine AW.region ?_
      refine RW.q (v := .pointer (some (⟨b4, 0, none⟩))) rfl (q_fieldAddr rfl Try.underlying42 rfl sz3 rfl) ?_
      refine RW.q (v := .int .i64 bL) rfl (q_load rfl Try.underlying3 rfl (Cell.blk 0 rfl rfl)) ?_
      refine RW.q (v := .pointer (some (⟨b4, 1, none⟩))) rfl (q_fieldAddr rfl Try.underlying42 rfl sz3 rfl) ?_
      refine RW.q (v := .int .i64 bH) rfl (q_load rfl Try.underlying3 rfl (Cell.blk 0 rfl rfl)) ?_
      refine RW.q (v := .bool (decide (bH < bL))) rfl (q_gtr rfl rfl) ?_
      refine RW.nil ?_
      refine Post.then_n ?_
      refine AW.cond (b := decide (bH < bL)) rfl (fun hc3 => ?_) (fun hc3 => ?_)
      · simp [-List.getD_eq_getElem?_getD] at hc3
        refine AW.seq ?_
        refine AW.region ?_
        refine RW.q (v := .agg #[.int .i64 0, .int .i64 0]) rfl (q_build (vals := []) zero42 Try.underlying42 places42 rfl rfl) ?_
        refine RW.effn (J' := St ⟨w, Φ, []⟩ Φ [.blk b4 42 [.int .i64 bL, .int .i64 bH], .blk b3 42 [.int .i64 0, .int .i64 0], .blk b2 42 [.int .i64 bL, .int .i64 bH], .blk b1 42 [.int .i64 aL, .int .i64 aH]]) (e_store (v := .agg #[.int .i64 0, .int .i64 0]) 1 rfl rfl rfl sz42 rfl rfl rfl rfl rfl) ?_
        refine RW.q (v := .bool false) rfl (q_assign rfl) ?_
        refine RW.nil ?_
        refine Post.then_n ?_
        refine AW.ret ?_
        refine Post.then_r ?_
        refine fin_cell2 (cs := [.int .i64 0, .int .i64 0]) (v := .bool false) rfl rfl rfl rfl Try.underlying42 rfl sz42 rfl (Cells.blk 1 rfl) (fun w' hw => ?_)
        refine ⟨?_, hw.below rfl⟩
        unfold Fu.meet; first | (rw [if_neg (by omega)]; rfl) | (rw [if_pos (by omega)]; simp only [Fu.loOf, Fu.hiOf, Option.isSome, show max aL bL = 0 by omega, show min aH bH = 0 by omega])
      · simp [-List.getD_eq_getElem?_getD] at hc3
        refine AW.skip ?_
        refine Post.then_n ?_
        refine AW.seq ?_
        refine AW.region ?_
        refine RW.q (v := .agg #[.int .i64 bL, .int .i64 bH]) rfl (q_loadAgg rfl Try.underlying42 rfl sz42 rfl (Cells.blk 0 rfl)) ?_
        refine RW.effn (J' := St ⟨w, Φ, []⟩ Φ [.blk b4 42 [.int .i64 bL, .int .i64 bH], .blk b3 42 [.int .i64 bL, .int .i64 bH], .blk b2 42 [.int .i64 bL, .int .i64 bH], .blk b1 42 [.int .i64 aL, .int .i64 aH]]) (e_store (v := .agg #[.int .i64 bL, .int .i64 bH]) 1 rfl rfl rfl sz42 rfl rfl rfl rfl rfl) ?_
        refine RW.q (v := .bool true) rfl (q_assign rfl) ?_
        refine RW.nil ?_
        refine Post.then_n ?_
        refine AW.ret ?_
        refine fin_cell2 (cs := [.int .i64 bL, .int .i64 bH]) (v := .bool true) rfl rfl rfl rfl Try.underlying42 rfl sz42 rfl (Cells.blk 1 rfl) (fun w' hw => ?_)
        refine ⟨?_, hw.below rfl⟩
        unfold Fu.meet; first | (rw [if_neg (by omega)]; rfl) | (rw [if_pos (by omega)]; simp only [Fu.loOf, Fu.hiOf, Option.isSome, show max aL bL = bL by omega, show min aH bH = bH by omega])
    · simp [-List.getD_eq_getElem?_getD] at hc2
      refine AW.skip ?_
      refine Post.then_n ?_
      refine AW.seq ?_
      refine AW.seq ?_
      refine AW.region ?_
      refine RW.q (v := .pointer (some (⟨b4, 0, none⟩))) rfl (q_fieldAddr rfl Try.underlying42 rfl sz3 rfl) ?_
      refine RW.q (v := .int .i64 bL) rfl (q_load rfl Try.underlying3 rfl (Cell.blk 0 rfl rfl)) ?_
      refine RW.q (v := .pointer (some (⟨b4, 1, none⟩))) rfl (q_fieldAddr rfl Try.underlying42 rfl sz3 rfl) ?_
      refine RW.q (v := .int .i64 aH) rfl (q_load rfl Try.underlying3 rfl (Cell.blk 0 rfl rfl)) ?_
      refine RW.q (v := .bool (decide (aH < bL))) rfl (q_gtr rfl rfl) ?_
      refine RW.nil ?_
      refine Post.then_n ?_
      refine AW.cond (b := decide (aH < bL)) rfl (fun hc4 => ?_) (fun hc4 => ?_)
      · simp [-List.getD_eq_getElem?_getD] at hc4
        refine AW.seq ?_
        refine AW.region ?_
        refine RW.q (v := .agg #[.int .i64 0, .int .i64 0]) rfl (q_build (vals := []) zero42 Try.underlying42 places42 rfl rfl) ?_
        refine RW.effn (J' := St ⟨w, Φ, []⟩ Φ [.blk b4 42 [.int .i64 bL, .int .i64 aH], .blk b3 42 [.int .i64 0, .int .i64 0], .blk b2 42 [.int .i64 bL, .int .i64 bH], .blk b1 42 [.int .i64 aL, .int .i64 aH]]) (e_store (v := .agg #[.int .i64 0, .int .i64 0]) 1 rfl rfl rfl sz42 rfl rfl rfl rfl rfl) ?_
        refine RW.q (v := .bool false) rfl (q_assign rfl) ?_
        refine RW.nil ?_
        refine Post.then_n ?_
        refine AW.ret ?_
        refine Post.then_r ?_
        refine fin_cell2 (cs := [.int .i64 0, .int .i64 0]) (v := .bool false) rfl rfl rfl rfl Try.underlying42 rfl sz42 rfl (Cells.blk 1 rfl) (fun w' hw => ?_)
        refine ⟨?_, hw.below rfl⟩
        unfold Fu.meet; first | (rw [if_neg (by omega)]; rfl) | (rw [if_pos (by omega)]; simp only [Fu.loOf, Fu.hiOf, Option.isSome, show max aL bL = 0 by omega, show min aH bH = 0 by omega])
      · simp [-List.getD_eq_getElem?_getD] at hc4
        refine AW.skip ?_
        refine Post.then_n ?_
        refine AW.seq ?_
        refine AW.region ?_
        refine RW.q (v := .agg #[.int .i64 bL, .int .i64 aH]) rfl (q_loadAgg rfl Try.underlying42 rfl sz42 rfl (Cells.blk 0 rfl)) ?_
        refine RW.effn (J' := St ⟨w, Φ, []⟩ Φ [.blk b4 42 [.int .i64 bL, .int .i64 aH], .blk b3 42 [.int .i64 bL, .int .i64 aH], .blk b2 42 [.int .i64 bL, .int .i64 bH], .blk b1 42 [.int .i64 aL, .int .i64 aH]]) (e_store (v := .agg #[.int .i64 bL, .int .i64 aH]) 1 rfl rfl rfl sz42 rfl rfl rfl rfl rfl) ?_
        refine RW.q (v := .bool true) rfl (q_assign rfl) ?_
        refine RW.nil ?_
        refine Post.then_n ?_
        refine AW.ret ?_
        refine fin_cell2 (cs := [.int .i64 bL, .int .i64 aH]) (v := .bool true) rfl rfl rfl rfl Try.underlying42 rfl sz42 rfl (Cells.blk 1 rfl) (fun w' hw => ?_)
        refine ⟨?_, hw.below rfl⟩
        unfold Fu.meet; first | (rw [if_neg (by omega)]; rfl) | (rw [if_pos (by omega)]; simp only [Fu.loOf, Fu.hiOf, Option.isSome, show max aL bL = bL by omega, show min aH bH = aH by omega])
  · simp [-List.getD_eq_getElem?_getD] at hc1
    refine AW.skip ?_
    refine Post.then_n ?_
    refine AW.seq ?_
    refine AW.seq ?_
    refine AW.region ?_
    refine RW.q (v := .pointer (some (⟨b2, 1, none⟩))) rfl (q_fieldAddr rfl Try.underlying42 rfl sz3 rfl) ?_
    refine RW.q (v := .int .i64 bH) rfl (q_load rfl Try.underlying3 rfl (Cell.blk 2 rfl rfl)) ?_
    refine RW.q (v := .pointer (some (⟨b4, 1, none⟩))) rfl (q_fieldAddr rfl Try.underlying42 rfl sz3 rfl) ?_
    refine RW.q (v := .int .i64 aH) rfl (q_load rfl Try.underlying3 rfl (Cell.blk 0 rfl rfl)) ?_
    refine RW.q (v := .bool (decide (bH < aH))) rfl (q_lss rfl rfl) ?_
    refine RW.nil ?_
    refine Post.then_n ?_
    refine AW.cond (b := decide (bH < aH)) rfl (fun hc5 => ?_) (fun hc5 => ?_)
    · simp [-List.getD_eq_getElem?_getD] at hc5
      refine AW.region ?_
      refine RW.q (v := .pointer (some (⟨b2, 1, none⟩))) rfl (q_fieldAddr rfl Try.underlying42 rfl sz3 rfl) ?_
      refine RW.q (v := .int .i64 bH) rfl (q_load rfl Try.underlying3 rfl (Cell.blk 2 rfl rfl)) ?_
      refine RW.q (v := .pointer (some (⟨b4, 1, none⟩))) rfl (q_fieldAddr rfl Try.underlying42 rfl sz3 rfl) ?_
      refine RW.effn (J' := St ⟨w, Φ, []⟩ Φ [.blk b4 42 [.int .i64 aL, .int .i64 bH], .blk b3 42 [.int .i64 0, .int .i64 0], .blk b2 42 [.int .i64 bL, .int .i64 bH], .blk b1 42 [.int .i64 aL, .int .i64 aH]]) (e_store (v := .int .i64 bH) 0 rfl rfl rfl sz3 rfl rfl rfl rfl rfl) ?_
      refine RW.nil ?_
      refine Post.then_n ?_
      refine AW.seq ?_
      refine AW.seq ?_
      refine AW.region ?_
      refine RW.q (v := .pointer (some (⟨b4, 0, none⟩))) rfl (q_fieldAddr rfl Try.underlying42 rfl sz3 rfl) ?_
      refine RW.q (v := .int .i64 aL) rfl (q_load rfl Try.underlying3 rfl (Cell.blk 0 rfl rfl)) ?_
      refine RW.q (v := .pointer (some (⟨b4, 1, none⟩))) rfl (q_fieldAddr rfl Try.underlying42 rfl sz3 rfl) ?_
      refine RW.q (v := .int .i64 bH) rfl (q_load rfl Try.underlying3 rfl (Cell.blk 0 rfl rfl)) ?_
      refine RW.q (v := .bool (decide (bH < aL))) rfl (q_gtr rfl rfl) ?_
      refine RW.nil ?_
      refine Post.then_n ?_
      refine AW.cond (b := decide (bH < aL)) rfl (fun hc6 => ?_) (fun hc6 => ?_)
      · simp [-List.getD_eq_getElem?_getD] at hc6
        refine AW.seq ?_
        refine AW.region ?_
        refine RW.q (v := .agg #[.int .i64 0, .int .i64 0]) rfl (q_build (vals := []) zero42 Try.underlying42 places42 rfl rfl) ?_
        refine RW.effn (J' := St ⟨w, Φ, []⟩ Φ [.blk b4 42 [.int .i64 aL, .int .i64 bH], .blk b3 42 [.int .i64 0, .int .i64 0], .blk b2 42 [.int .i64 bL, .int .i64 bH], .blk b1 42 [.int .i64 aL, .int .i64 aH]]) (e_store (v := .agg #[.int .i64 0, .int .i64 0]) 1 rfl rfl rfl sz42 rfl rfl rfl rfl rfl) ?_
        refine RW.q (v := .bool false) rfl (q_assign rfl) ?_
        refine RW.nil ?_
        refine Post.then_n ?_
        refine AW.ret ?_
        refine Post.then_r ?_
        refine fin_cell2 (cs := [.int .i64 0, .int .i64 0]) (v := .bool false) rfl rfl rfl rfl Try.underlying42 rfl sz42 rfl (Cells.blk 1 rfl) (fun w' hw => ?_)
        refine ⟨?_, hw.below rfl⟩
        unfold Fu.meet; first | (rw [if_neg (by omega)]; rfl) | (rw [if_pos (by omega)]; simp only [Fu.loOf, Fu.hiOf, Option.isSome, show max aL bL = 0 by omega, show min aH bH = 0 by omega])
      · simp [-List.getD_eq_getElem?_getD] at hc6
        refine AW.skip ?_
        refine Post.then_n ?_
        refine AW.seq ?_
        refine AW.region ?_
        refine RW.q (v := .agg #[.int .i64 aL, .int .i64 bH]) rfl (q_loadAgg rfl Try.underlying42 rfl sz42 rfl (Cells.blk 0 rfl)) ?_
        refine RW.effn (J' := St ⟨w, Φ, []⟩ Φ [.blk b4 42 [.int .i64 aL, .int .i64 bH], .blk b3 42 [.int .i64 aL, .int .i64 bH], .blk b2 42 [.int .i64 bL, .int .i64 bH], .blk b1 42 [.int .i64 aL, .int .i64 aH]]) (e_store (v := .agg #[.int .i64 aL, .int .i64 bH]) 1 rfl rfl rfl sz42 rfl rfl rfl rfl rfl) ?_
        refine RW.q (v := .bool true) rfl (q_assign rfl) ?_
        refine RW.nil ?_
        refine Post.then_n ?_
        refine AW.ret ?_
        refine fin_cell2 (cs := [.int .i64 aL, .int .i64 bH]) (v := .bool true) rfl rfl rfl rfl Try.underlying42 rfl sz42 rfl (Cells.blk 1 rfl) (fun w' hw => ?_)
        refine ⟨?_, hw.below rfl⟩
        unfold Fu.meet; first | (rw [if_neg (by omega)]; rfl) | (rw [if_pos (by omega)]; simp only [Fu.loOf, Fu.hiOf, Option.isSome, show max aL bL = aL by omega, show min aH bH = bH by omega])
    · simp [-List.getD_eq_getElem?_getD] at hc5
      refine AW.skip ?_
      refine Post.then_n ?_
      refine AW.seq ?_
      refine AW.seq ?_
      refine AW.region ?_
      refine RW.q (v := .pointer (some (⟨b4, 0, none⟩))) rfl (q_fieldAddr rfl Try.underlying42 rfl sz3 rfl) ?_
      refine RW.q (v := .int .i64 aL) rfl (q_load rfl Try.underlying3 rfl (Cell.blk 0 rfl rfl)) ?_
      refine RW.q (v := .pointer (some (⟨b4, 1, none⟩))) rfl (q_fieldAddr rfl Try.underlying42 rfl sz3 rfl) ?_
      refine RW.q (v := .int .i64 aH) rfl (q_load rfl Try.underlying3 rfl (Cell.blk 0 rfl rfl)) ?_
      refine RW.q (v := .bool (decide (aH < aL))) rfl (q_gtr rfl rfl) ?_
      refine RW.nil ?_
      refine Post.then_n ?_
      refine AW.cond (b := decide (aH < aL)) rfl (fun hc7 => ?_) (fun hc7 => ?_)
      · simp [-List.getD_eq_getElem?_getD] at hc7
        refine AW.seq ?_
        refine AW.region ?_
        refine RW.q (v := .agg #[.int .i64 0, .int .i64 0]) rfl (q_build (vals := []) zero42 Try.underlying42 places42 rfl rfl) ?_
        refine RW.effn (J' := St ⟨w, Φ, []⟩ Φ [.blk b4 42 [.int .i64 aL, .int .i64 aH], .blk b3 42 [.int .i64 0, .int .i64 0], .blk b2 42 [.int .i64 bL, .int .i64 bH], .blk b1 42 [.int .i64 aL, .int .i64 aH]]) (e_store (v := .agg #[.int .i64 0, .int .i64 0]) 1 rfl rfl rfl sz42 rfl rfl rfl rfl rfl) ?_
        refine RW.q (v := .bool false) rfl (q_assign rfl) ?_
        refine RW.nil ?_
        refine Post.then_n ?_
        refine AW.ret ?_
        refine Post.then_r ?_
        refine fin_cell2 (cs := [.int .i64 0, .int .i64 0]) (v := .bool false) rfl rfl rfl rfl Try.underlying42 rfl sz42 rfl (Cells.blk 1 rfl) (fun w' hw => ?_)
        refine ⟨?_, hw.below rfl⟩
        unfold Fu.meet; first | (rw [if_neg (by omega)]; rfl) | (rw [if_pos (by omega)]; simp only [Fu.loOf, Fu.hiOf, Option.isSome, show max aL bL = 0 by omega, show min aH bH = 0 by omega])
      · simp [-List.getD_eq_getElem?_getD] at hc7
        refine AW.skip ?_
        refine Post.then_n ?_
        refine AW.seq ?_
        refine AW.region ?_
        refine RW.q (v := .agg #[.int .i64 aL, .int .i64 aH]) rfl (q_loadAgg rfl Try.underlying42 rfl sz42 rfl (Cells.blk 0 rfl)) ?_
        refine RW.effn (J' := St ⟨w, Φ, []⟩ Φ [.blk b4 42 [.int .i64 aL, .int .i64 aH], .blk b3 42 [.int .i64 aL, .int .i64 aH], .blk b2 42 [.int .i64 bL, .int .i64 bH], .blk b1 42 [.int .i64 aL, .int .i64 aH]]) (e_store (v := .agg #[.int .i64 aL, .int .i64 aH]) 1 rfl rfl rfl sz42 rfl rfl rfl rfl rfl) ?_
        refine RW.q (v := .bool true) rfl (q_assign rfl) ?_
        refine RW.nil ?_
        refine Post.then_n ?_
        refine AW.ret ?_
        refine fin_cell2 (cs := [.int .i64 aL, .int .i64 aH]) (v := .bool true) rfl rfl rfl rfl Try.underlying42 rfl sz42 rfl (Cells.blk 1 rfl) (fun w' hw => ?_)
        refine ⟨?_, hw.below rfl⟩
        unfold Fu.meet; first | (rw [if_neg (by omega)]; rfl) | (rw [if_pos (by omega)]; simp only [Fu.loOf, Fu.hiOf, Option.isSome, show max aL bL = aL by omega, show min aH bH = aH by omega])

set_option maxRecDepth 8000 in
set_option maxHeartbeats 1000000 in
theorem Add_c (w : World) (Φ : Hp) (hΦ : Hp.le Φ (hp w)) {x y : Int} (hx : I64 x) (hy : I64 y) :
    Calls Try.prog 29 #[.int .i64 x, .int .i64 y] w fun e w' => e = .returned (.int .i64 (Fu.addS x y)) ∧ Below w.heap.size w w' := by
  refine calls_of_AW (args := [.int .i64 x, .int .i64 y]) Try.func29 rfl (Nat.le_of_ble_eq_true rfl) (St ⟨w, Φ, []⟩ Φ []) (StP.init w Φ hΦ []) ?_
  show AW Try.prog 24 [] _ _ _ [(0, .int .i64 x), (1, .int .i64 y)] _
  unfold I64 at hx hy
  refine AW.seq ?_
  refine AW.region ?_
  refine RW.q (v := .int .i64 0) rfl (q_assign rfl) ?_
  refine RW.nil ?_
  refine Post.then_n ?_
  refine AW.seq ?_
  refine AW.seq ?_
  refine AW.region ?_
  refine RW.q (v := .int .i64 y) rfl (q_move rfl) ?_
  refine RW.q (v := .bool (decide ((0 : Int) < y))) rfl (q_gtr rfl rfl) ?_
  refine RW.q (v := .bool (decide ((0 : Int) < y))) rfl (q_move rfl) ?_
  refine RW.g (b := (decide ((0 : Int) < y))) (v := .int .i64 x) rfl rfl rfl (fun h => q_move rfl) ?_
  refine RW.g (b := (decide ((0 : Int) < y))) (v := .int .i64 y) rfl rfl rfl (fun h => q_move rfl) ?_
  refine RW.g (b := (decide ((0 : Int) < y))) (v := .int .i64 (9223372036854775807 - y)) rfl rfl rfl (fun h => q_sub rfl (gv_pos h) (by (try simp [-List.getD_eq_getElem?_getD] at h); omega) (by (try simp [-List.getD_eq_getElem?_getD] at h); unfold I64; omega)) ?_
  refine RW.g (b := (decide ((0 : Int) < y))) (v := .bool (decide (9223372036854775807 - y < x))) rfl rfl rfl (fun h => q_gtr (gv_pos h) (gv_pos h)) ?_
  refine RW.q (v := .bool ((decide ((0 : Int) < y)) && (decide (9223372036854775807 - y < x)))) rfl (q_pick rfl (fun hp => (gv_pos hp).trans (pkAndT hp)) (fun hp => pkAndF hp)) ?_
  refine RW.nil ?_
  refine Post.then_n ?_
  refine AW.cond (b := (decide ((0 : Int) < y)) && (decide (9223372036854775807 - y < x))) rfl (fun hc1 => ?_) (fun hc1 => ?_)
  · simp [-List.getD_eq_getElem?_getD] at hc1
    refine AW.seq ?_
    refine AW.region ?_
    refine RW.q (v := .int .i64 9223372036854775807) rfl (q_assign rfl) ?_
    refine RW.nil ?_
    refine Post.then_n ?_
    refine AW.ret ?_
    refine Post.then_r ?_
    exact fin_val (v' := .int .i64 9223372036854775807) rfl rfl rfl (by unfold Fu.addS; rw [if_pos (by omega)])
  · simp [-List.getD_eq_getElem?_getD] at hc1
    refine AW.skip ?_
    refine Post.then_n ?_
    refine AW.seq ?_
    refine AW.seq ?_
    refine AW.region ?_
    refine RW.q (v := .int .i64 y) rfl (q_move rfl) ?_
    refine RW.q (v := .bool (decide (y < 0))) rfl (q_lss rfl rfl) ?_
    refine RW.q (v := .bool (decide (y < 0))) rfl (q_move rfl) ?_
    refine RW.g (b := (decide (y < 0))) (v := .int .i64 x) rfl rfl rfl (fun h => q_move rfl) ?_
    refine RW.g (b := (decide (y < 0))) (v := .int .i64 y) rfl rfl rfl (fun h => q_move rfl) ?_
    refine RW.g (b := (decide (y < 0))) (v := .int .i64 ((-9223372036854775808) - y)) rfl rfl rfl (fun h => q_sub rfl (gv_pos h) (by (try simp [-List.getD_eq_getElem?_getD] at h); omega) (by (try simp [-List.getD_eq_getElem?_getD] at h); unfold I64; omega)) ?_
    refine RW.g (b := (decide (y < 0))) (v := .bool (decide (x < (-9223372036854775808) - y))) rfl rfl rfl (fun h => q_lss (gv_pos h) (gv_pos h)) ?_
    refine RW.q (v := .bool ((decide (y < 0)) && (decide (x < (-9223372036854775808) - y)))) rfl (q_pick rfl (fun hp => (gv_pos hp).trans (pkAndT hp)) (fun hp => pkAndF hp)) ?_
    refine RW.nil ?_
    refine Post.then_n ?_
    refine AW.cond (b := (decide (y < 0)) && (decide (x < (-9223372036854775808) - y))) rfl (fun hc2 => ?_) (fun hc2 => ?_)
    · simp [-List.getD_eq_getElem?_getD] at hc2
      refine AW.seq ?_
      refine AW.region ?_
      refine RW.q (v := .int .i64 (-9223372036854775808)) rfl (q_assign rfl) ?_
      refine RW.nil ?_
      refine Post.then_n ?_
      refine AW.ret ?_
      refine Post.then_r ?_
      exact fin_val (v' := .int .i64 (-9223372036854775808)) rfl rfl rfl (by unfold Fu.addS; rw [if_neg (by omega), if_pos (by omega)])
    · simp [-List.getD_eq_getElem?_getD] at hc2
      refine AW.skip ?_
      refine Post.then_n ?_
      refine AW.seq ?_
      refine AW.region ?_
      refine RW.q (v := .int .i64 x) rfl (q_move rfl) ?_
      refine RW.q (v := .int .i64 y) rfl (q_move rfl) ?_
      refine RW.q (v := .int .i64 (x + y)) rfl (q_add rfl rfl (by omega) (by unfold I64; omega)) ?_
      refine RW.q (v := .int .i64 (x + y)) rfl (q_assign rfl) ?_
      refine RW.nil ?_
      refine Post.then_n ?_
      refine AW.ret ?_
      exact fin_val (v' := .int .i64 (x + y)) rfl rfl rfl (by unfold Fu.addS; rw [if_neg (by omega), if_neg (by omega)])

set_option maxRecDepth 8000 in
set_option maxHeartbeats 1000000 in
theorem gaugeOf_c (w : World) (Φ : Hp) (hΦ : Hp.le Φ (hp w)) {b : Bt.Basin} {cs : List Value} (hB : RepV Φ b cs) {r : Bt.Reading} :
    Calls Try.prog 26 #[.agg cs.toArray, .agg #[.int .i64 r.Gauge, .int .i64 r.Hour, .int .i64 r.Value.Lo, .int .i64 r.Value.Hi]] w fun e w' => e = .returned (.tuple #[.agg #[.string ((Fu.gaugeAt b.Gauges r.Gauge).Name), .int .i64 ((Fu.gaugeAt b.Gauges r.Gauge).Kind), .int .i64 ((Fu.gaugeAt b.Gauges r.Gauge).Target), .int .i64 ((Fu.gaugeAt b.Gauges r.Gauge).Err), .int .i64 ((Fu.gaugeAt b.Gauges r.Gauge).Drift)], .bool (decide (Fu.inG b.Gauges r.Gauge))]) ∧ Below w.heap.size w w' := by
  obtain ⟨v1, v3, v4, v5, v6, v7, v8, v9, hcs, hBw, r1, r3, r4, r5, r6, r7, r8, r9⟩ := (show Rep.rep Φ b cs from hB)
  subst hcs
  have hpm : b.Places.length * 152 ≤ 140737488355328 := r3.max
  have hgm : b.Gauges.length * 48 ≤ 140737488355328 := r6.max
  refine calls_of_AW (args := [.agg #[.string b.Name, v1, .int .i64 b.Cells, v3, v4, v5, v6, v7, v8, v9, .int .i64 b.Err], .agg #[.int .i64 r.Gauge, .int .i64 r.Hour, .int .i64 r.Value.Lo, .int .i64 r.Value.Hi]]) Try.func26 rfl (Nat.le_of_ble_eq_true rfl) (St ⟨w, Φ, []⟩ Φ []) (StP.init w Φ hΦ []) ?_
  show AW Try.prog 24 [] _ _ _ [(0, .agg #[.string b.Name, v1, .int .i64 b.Cells, v3, v4, v5, v6, v7, v8, v9, .int .i64 b.Err]), (1, .agg #[.int .i64 r.Gauge, .int .i64 r.Hour, .int .i64 r.Value.Lo, .int .i64 r.Value.Hi])] _
  refine AW.seq ?_
  refine AW.region ?_
  refine RW.eff (fun b1 : Nat => .pointer (some (⟨b1, 0, none⟩))) (fun b1 => St ⟨w, Φ, []⟩ Φ [.blk b1 31 [.string b.Name, v1, .int .i64 b.Cells, v3, v4, v5, v6, v7, v8, v9, .int .i64 b.Err]]) rfl (e_boxA (cs := [.string b.Name, v1, .int .i64 b.Cells, v3, v4, v5, v6, v7, v8, v9, .int .i64 b.Err]) rfl) ?_
  intro b1
  refine RW.eff (fun b2 : Nat => .pointer (some (⟨b2, 0, none⟩))) (fun b2 => St ⟨w, Φ, []⟩ Φ [.blk b2 46 [.int .i64 r.Gauge, .int .i64 r.Hour, .int .i64 r.Value.Lo, .int .i64 r.Value.Hi], .blk b1 31 [.string b.Name, v1, .int .i64 b.Cells, v3, v4, v5, v6, v7, v8, v9, .int .i64 b.Err]]) rfl (e_boxA (cs := [.int .i64 r.Gauge, .int .i64 r.Hour, .int .i64 r.Value.Lo, .int .i64 r.Value.Hi]) rfl) ?_
  intro b2
  refine RW.eff (fun b3 : Nat => .pointer (some (⟨b3, 0, none⟩))) (fun b3 => St ⟨w, Φ, []⟩ Φ [.blk b3 58 [.string (bs ([])), .int .i64 0, .int .i64 0, .int .i64 0, .int .i64 0], .blk b2 46 [.int .i64 r.Gauge, .int .i64 r.Hour, .int .i64 r.Value.Lo, .int .i64 r.Value.Hi], .blk b1 31 [.string b.Name, v1, .int .i64 b.Cells, v3, v4, v5, v6, v7, v8, v9, .int .i64 b.Err]]) rfl (e_alloc zero58) ?_
  intro b3
  refine RW.q (v := .bool false) rfl (q_assign rfl) ?_
  refine RW.nil ?_
  refine Post.then_n ?_
  refine AW.seq ?_
  refine AW.seq ?_
  refine AW.region ?_
  refine RW.q (v := .pointer (some (⟨b2, 0, none⟩))) rfl (q_fieldAddr rfl Try.underlying46 rfl sz3 rfl) ?_
  refine RW.q (v := .int .i64 r.Gauge) rfl (q_load rfl Try.underlying3 rfl (Cell.blk 1 rfl rfl)) ?_
  refine RW.q (v := .bool (decide (r.Gauge < 0))) rfl (q_lss rfl rfl) ?_
  refine RW.q (v := .bool (decide (r.Gauge < 0))) rfl (q_move rfl) ?_
  refine RW.g (b := (decide (r.Gauge < 0))) (v := .pointer (some (⟨b2, 0, none⟩))) rfl rfl rfl (fun h => q_fieldAddr rfl Try.underlying46 rfl sz3 rfl) ?_
  refine RW.g (b := (decide (r.Gauge < 0))) (v := .int .i64 r.Gauge) rfl rfl rfl (fun h => q_load (gv_pos h) Try.underlying3 rfl (Cell.blk 1 rfl rfl)) ?_
  refine RW.g (b := (decide (r.Gauge < 0))) (v := .pointer (some (⟨b1, 6, none⟩))) rfl rfl rfl (fun h => q_fieldAddr rfl Try.underlying31 rfl sz26 rfl) ?_
  refine RW.g (b := (decide (r.Gauge < 0))) (v := v6) rfl rfl rfl (fun h => q_load (gv_pos h) Try.underlying26 rfl (Cell.blk 2 rfl rfl)) ?_
  refine RW.g (b := (decide (r.Gauge < 0))) (v := .int .i64 ((b.Gauges.length : Nat) : Int)) rfl rfl rfl (fun h => q_len_sl (gv_pos h) r6.sl Try.underlying26) ?_
  refine RW.g (b := (decide (r.Gauge < 0))) (v := .bool (decide (((b.Gauges.length : Nat) : Int) ≤ r.Gauge))) rfl rfl rfl (fun h => q_geq (gv_pos h) (gv_pos h)) ?_
  refine RW.q (v := .bool ((decide (r.Gauge < 0)) || (decide (((b.Gauges.length : Nat) : Int) ≤ r.Gauge)))) rfl (q_pick rfl (fun hp => pkOrT hp) (fun hp => (gv_pos hp).trans (pkOrF hp))) ?_
  refine RW.nil ?_
  refine Post.then_n ?_
  refine AW.cond (b := (decide (r.Gauge < 0)) || (decide (((b.Gauges.length : Nat) : Int) ≤ r.Gauge))) rfl (fun hc1 => ?_) (fun hc1 => ?_)
  · simp [-List.getD_eq_getElem?_getD] at hc1
    refine AW.seq ?_
    refine AW.region ?_
    refine RW.q (v := .agg #[.string (bs ([])), .int .i64 0, .int .i64 0, .int .i64 0, .int .i64 0]) rfl (q_build (vals := []) zero58 Try.underlying58 places58 rfl rfl) ?_
    refine RW.effn (J' := St ⟨w, Φ, []⟩ Φ [.blk b3 58 [.string (bs ([])), .int .i64 0, .int .i64 0, .int .i64 0, .int .i64 0], .blk b2 46 [.int .i64 r.Gauge, .int .i64 r.Hour, .int .i64 r.Value.Lo, .int .i64 r.Value.Hi], .blk b1 31 [.string b.Name, v1, .int .i64 b.Cells, v3, v4, v5, v6, v7, v8, v9, .int .i64 b.Err]]) (e_store (v := .agg #[.string (bs ([])), .int .i64 0, .int .i64 0, .int .i64 0, .int .i64 0]) 0 rfl rfl rfl sz58 rfl rfl rfl rfl rfl) ?_
    refine RW.q (v := .bool false) rfl (q_assign rfl) ?_
    refine RW.nil ?_
    refine Post.then_n ?_
    refine AW.ret ?_
    refine Post.then_r ?_
    refine fin_cell2 (cs := [.string (bs ([])), .int .i64 0, .int .i64 0, .int .i64 0, .int .i64 0]) (v := .bool false) rfl rfl rfl rfl Try.underlying58 rfl sz58 rfl (Cells.blk 0 rfl) (fun w' hw => ?_)
    refine ⟨?_, hw.below rfl⟩
    have hn : ¬ Fu.inG b.Gauges r.Gauge := by unfold Fu.inG; omega
    rw [decide_eq_false hn]
    unfold Fu.gaugeAt; rw [if_neg hn]; rfl
  · simp [-List.getD_eq_getElem?_getD] at hc1
    refine AW.skip ?_
    refine Post.then_n ?_
    refine AW.seq ?_
    refine AW.region ?_
    refine RW.q (v := .pointer (some (⟨b1, 6, none⟩))) rfl (q_fieldAddr rfl Try.underlying31 rfl sz26 rfl) ?_
    refine RW.q (v := v6) rfl (q_load rfl Try.underlying26 rfl (Cell.blk 2 rfl rfl)) ?_
    refine RW.q (v := .pointer (some (⟨b2, 0, none⟩))) rfl (q_fieldAddr rfl Try.underlying46 rfl sz3 rfl) ?_
    refine RW.q (v := .int .i64 r.Gauge) rfl (q_load rfl Try.underlying3 rfl (Cell.blk 1 rfl rfl)) ?_
    refine RW.q (v := .pointer (some (Value.at v6 (r.Gauge.toNat * 5)))) rfl (q_indexAddr rfl rfl r6.sl Try.underlying26 sz58 (by omega) (by omega) rfl) ?_
    refine RW.q (v := .agg #[.string ((b.Gauges.getD r.Gauge.toNat default).Name), .int .i64 ((b.Gauges.getD r.Gauge.toNat default).Kind), .int .i64 ((b.Gauges.getD r.Gauge.toNat default).Target), .int .i64 ((b.Gauges.getD r.Gauge.toNat default).Err), .int .i64 ((b.Gauges.getD r.Gauge.toNat default).Drift)]) rfl (q_loadAgg rfl Try.underlying58 rfl sz58 rfl (Cells.repE r6 (by omega) rfl)) ?_
    refine RW.effn (J' := St ⟨w, Φ, []⟩ Φ [.blk b3 58 [.string ((b.Gauges.getD r.Gauge.toNat default).Name), .int .i64 ((b.Gauges.getD r.Gauge.toNat default).Kind), .int .i64 ((b.Gauges.getD r.Gauge.toNat default).Target), .int .i64 ((b.Gauges.getD r.Gauge.toNat default).Err), .int .i64 ((b.Gauges.getD r.Gauge.toNat default).Drift)], .blk b2 46 [.int .i64 r.Gauge, .int .i64 r.Hour, .int .i64 r.Value.Lo, .int .i64 r.Value.Hi], .blk b1 31 [.string b.Name, v1, .int .i64 b.Cells, v3, v4, v5, v6, v7, v8, v9, .int .i64 b.Err]]) (e_store (v := .agg #[.string ((b.Gauges.getD r.Gauge.toNat default).Name), .int .i64 ((b.Gauges.getD r.Gauge.toNat default).Kind), .int .i64 ((b.Gauges.getD r.Gauge.toNat default).Target), .int .i64 ((b.Gauges.getD r.Gauge.toNat default).Err), .int .i64 ((b.Gauges.getD r.Gauge.toNat default).Drift)]) 0 rfl rfl rfl sz58 rfl rfl rfl rfl rfl) ?_
    refine RW.q (v := .bool true) rfl (q_assign rfl) ?_
    refine RW.nil ?_
    refine Post.then_n ?_
    refine AW.ret ?_
    refine fin_cell2 (cs := [.string ((b.Gauges.getD r.Gauge.toNat default).Name), .int .i64 ((b.Gauges.getD r.Gauge.toNat default).Kind), .int .i64 ((b.Gauges.getD r.Gauge.toNat default).Target), .int .i64 ((b.Gauges.getD r.Gauge.toNat default).Err), .int .i64 ((b.Gauges.getD r.Gauge.toNat default).Drift)]) (v := .bool true) rfl rfl rfl rfl Try.underlying58 rfl sz58 rfl (Cells.blk 0 rfl) (fun w' hw => ?_)
    refine ⟨?_, hw.below rfl⟩
    have hn : Fu.inG b.Gauges r.Gauge := by unfold Fu.inG; omega
    rw [decide_eq_true hn]
    unfold Fu.gaugeAt; rw [if_pos hn]

set_option maxRecDepth 8000 in
set_option maxHeartbeats 1000000 in
theorem gauged_c (w : World) (Φ : Hp) (hΦ : Hp.le Φ (hp w)) {b : Bt.Basin} {cs : List Value} (hB : RepV Φ b cs) {r : Bt.Reading} :
    Calls Try.prog 31 #[.agg cs.toArray, .agg #[.int .i64 r.Gauge, .int .i64 r.Hour, .int .i64 r.Value.Lo, .int .i64 r.Value.Hi]] w fun e w' => e = .returned (.tuple #[.agg #[.string ((Fu.gaugeAt b.Gauges r.Gauge).Name), .int .i64 ((Fu.gaugeAt b.Gauges r.Gauge).Kind), .int .i64 ((Fu.gaugeAt b.Gauges r.Gauge).Target), .int .i64 ((Fu.gaugeAt b.Gauges r.Gauge).Err), .int .i64 ((Fu.gaugeAt b.Gauges r.Gauge).Drift)], .bool (decide (Fu.inG b.Gauges r.Gauge))]) ∧ Below w.heap.size w w' := by
  obtain ⟨v1, v3, v4, v5, v6, v7, v8, v9, hcs, hBw, r1, r3, r4, r5, r6, r7, r8, r9⟩ := (show Rep.rep Φ b cs from hB)
  subst hcs
  have hpm : b.Places.length * 152 ≤ 140737488355328 := r3.max
  have hgm : b.Gauges.length * 48 ≤ 140737488355328 := r6.max
  refine calls_of_AW (args := [.agg #[.string b.Name, v1, .int .i64 b.Cells, v3, v4, v5, v6, v7, v8, v9, .int .i64 b.Err], .agg #[.int .i64 r.Gauge, .int .i64 r.Hour, .int .i64 r.Value.Lo, .int .i64 r.Value.Hi]]) Try.func31 rfl (Nat.le_of_ble_eq_true rfl) (St ⟨w, Φ, []⟩ Φ []) (StP.init w Φ hΦ []) ?_
  show AW Try.prog 24 [] _ _ _ [(0, .agg #[.string b.Name, v1, .int .i64 b.Cells, v3, v4, v5, v6, v7, v8, v9, .int .i64 b.Err]), (1, .agg #[.int .i64 r.Gauge, .int .i64 r.Hour, .int .i64 r.Value.Lo, .int .i64 r.Value.Hi])] _
  refine AW.seq ?_
  refine AW.region ?_
  refine RW.eff (fun b1 : Nat => .pointer (some (⟨b1, 0, none⟩))) (fun b1 => St ⟨w, Φ, []⟩ Φ [.blk b1 31 [.string b.Name, v1, .int .i64 b.Cells, v3, v4, v5, v6, v7, v8, v9, .int .i64 b.Err]]) rfl (e_boxA (cs := [.string b.Name, v1, .int .i64 b.Cells, v3, v4, v5, v6, v7, v8, v9, .int .i64 b.Err]) rfl) ?_
  intro b1
  refine RW.eff (fun b2 : Nat => .pointer (some (⟨b2, 0, none⟩))) (fun b2 => St ⟨w, Φ, []⟩ Φ [.blk b2 46 [.int .i64 r.Gauge, .int .i64 r.Hour, .int .i64 r.Value.Lo, .int .i64 r.Value.Hi], .blk b1 31 [.string b.Name, v1, .int .i64 b.Cells, v3, v4, v5, v6, v7, v8, v9, .int .i64 b.Err]]) rfl (e_boxA (cs := [.int .i64 r.Gauge, .int .i64 r.Hour, .int .i64 r.Value.Lo, .int .i64 r.Value.Hi]) rfl) ?_
  intro b2
  refine RW.eff (fun b3 : Nat => .pointer (some (⟨b3, 0, none⟩))) (fun b3 => St ⟨w, Φ, []⟩ Φ [.blk b3 58 [.string (bs ([])), .int .i64 0, .int .i64 0, .int .i64 0, .int .i64 0], .blk b2 46 [.int .i64 r.Gauge, .int .i64 r.Hour, .int .i64 r.Value.Lo, .int .i64 r.Value.Hi], .blk b1 31 [.string b.Name, v1, .int .i64 b.Cells, v3, v4, v5, v6, v7, v8, v9, .int .i64 b.Err]]) rfl (e_alloc zero58) ?_
  intro b3
  refine RW.q (v := .bool false) rfl (q_assign rfl) ?_
  refine RW.nil ?_
  refine Post.then_n ?_
  refine AW.seq ?_
  refine AW.seq ?_
  refine AW.region ?_
  refine RW.q (v := .pointer (some (⟨b2, 0, none⟩))) rfl (q_fieldAddr rfl Try.underlying46 rfl sz3 rfl) ?_
  refine RW.q (v := .int .i64 r.Gauge) rfl (q_load rfl Try.underlying3 rfl (Cell.blk 1 rfl rfl)) ?_
  refine RW.q (v := .bool (decide (r.Gauge < 0))) rfl (q_lss rfl rfl) ?_
  refine RW.q (v := .bool (decide (r.Gauge < 0))) rfl (q_move rfl) ?_
  refine RW.g (b := (decide (r.Gauge < 0))) (v := .pointer (some (⟨b2, 0, none⟩))) rfl rfl rfl (fun h => q_fieldAddr rfl Try.underlying46 rfl sz3 rfl) ?_
  refine RW.g (b := (decide (r.Gauge < 0))) (v := .int .i64 r.Gauge) rfl rfl rfl (fun h => q_load (gv_pos h) Try.underlying3 rfl (Cell.blk 1 rfl rfl)) ?_
  refine RW.g (b := (decide (r.Gauge < 0))) (v := .pointer (some (⟨b1, 6, none⟩))) rfl rfl rfl (fun h => q_fieldAddr rfl Try.underlying31 rfl sz26 rfl) ?_
  refine RW.g (b := (decide (r.Gauge < 0))) (v := v6) rfl rfl rfl (fun h => q_load (gv_pos h) Try.underlying26 rfl (Cell.blk 2 rfl rfl)) ?_
  refine RW.g (b := (decide (r.Gauge < 0))) (v := .int .i64 ((b.Gauges.length : Nat) : Int)) rfl rfl rfl (fun h => q_len_sl (gv_pos h) r6.sl Try.underlying26) ?_
  refine RW.g (b := (decide (r.Gauge < 0))) (v := .bool (decide (((b.Gauges.length : Nat) : Int) ≤ r.Gauge))) rfl rfl rfl (fun h => q_geq (gv_pos h) (gv_pos h)) ?_
  refine RW.q (v := .bool ((decide (r.Gauge < 0)) || (decide (((b.Gauges.length : Nat) : Int) ≤ r.Gauge)))) rfl (q_pick rfl (fun hp => pkOrT hp) (fun hp => (gv_pos hp).trans (pkOrF hp))) ?_
  refine RW.nil ?_
  refine Post.then_n ?_
  refine AW.cond (b := (decide (r.Gauge < 0)) || (decide (((b.Gauges.length : Nat) : Int) ≤ r.Gauge))) rfl (fun hc1 => ?_) (fun hc1 => ?_)
  · simp [-List.getD_eq_getElem?_getD] at hc1
    refine AW.seq ?_
    refine AW.region ?_
    refine RW.q (v := .agg #[.string (bs ([])), .int .i64 0, .int .i64 0, .int .i64 0, .int .i64 0]) rfl (q_build (vals := []) zero58 Try.underlying58 places58 rfl rfl) ?_
    refine RW.effn (J' := St ⟨w, Φ, []⟩ Φ [.blk b3 58 [.string (bs ([])), .int .i64 0, .int .i64 0, .int .i64 0, .int .i64 0], .blk b2 46 [.int .i64 r.Gauge, .int .i64 r.Hour, .int .i64 r.Value.Lo, .int .i64 r.Value.Hi], .blk b1 31 [.string b.Name, v1, .int .i64 b.Cells, v3, v4, v5, v6, v7, v8, v9, .int .i64 b.Err]]) (e_store (v := .agg #[.string (bs ([])), .int .i64 0, .int .i64 0, .int .i64 0, .int .i64 0]) 0 rfl rfl rfl sz58 rfl rfl rfl rfl rfl) ?_
    refine RW.q (v := .bool false) rfl (q_assign rfl) ?_
    refine RW.nil ?_
    refine Post.then_n ?_
    refine AW.ret ?_
    refine Post.then_r ?_
    refine fin_cell2 (cs := [.string (bs ([])), .int .i64 0, .int .i64 0, .int .i64 0, .int .i64 0]) (v := .bool false) rfl rfl rfl rfl Try.underlying58 rfl sz58 rfl (Cells.blk 0 rfl) (fun w' hw => ?_)
    refine ⟨?_, hw.below rfl⟩
    have hn : ¬ Fu.inG b.Gauges r.Gauge := by unfold Fu.inG; omega
    rw [decide_eq_false hn]
    unfold Fu.gaugeAt; rw [if_neg hn]; rfl
  · simp [-List.getD_eq_getElem?_getD] at hc1
    refine AW.skip ?_
    refine Post.then_n ?_
    refine AW.seq ?_
    refine AW.region ?_
    refine RW.q (v := .pointer (some (⟨b1, 6, none⟩))) rfl (q_fieldAddr rfl Try.underlying31 rfl sz26 rfl) ?_
    refine RW.q (v := v6) rfl (q_load rfl Try.underlying26 rfl (Cell.blk 2 rfl rfl)) ?_
    refine RW.q (v := .pointer (some (⟨b2, 0, none⟩))) rfl (q_fieldAddr rfl Try.underlying46 rfl sz3 rfl) ?_
    refine RW.q (v := .int .i64 r.Gauge) rfl (q_load rfl Try.underlying3 rfl (Cell.blk 1 rfl rfl)) ?_
    refine RW.q (v := .pointer (some (Value.at v6 (r.Gauge.toNat * 5)))) rfl (q_indexAddr rfl rfl r6.sl Try.underlying26 sz58 (by omega) (by omega) rfl) ?_
    refine RW.q (v := .agg #[.string ((b.Gauges.getD r.Gauge.toNat default).Name), .int .i64 ((b.Gauges.getD r.Gauge.toNat default).Kind), .int .i64 ((b.Gauges.getD r.Gauge.toNat default).Target), .int .i64 ((b.Gauges.getD r.Gauge.toNat default).Err), .int .i64 ((b.Gauges.getD r.Gauge.toNat default).Drift)]) rfl (q_loadAgg rfl Try.underlying58 rfl sz58 rfl (Cells.repE r6 (by omega) rfl)) ?_
    refine RW.effn (J' := St ⟨w, Φ, []⟩ Φ [.blk b3 58 [.string ((b.Gauges.getD r.Gauge.toNat default).Name), .int .i64 ((b.Gauges.getD r.Gauge.toNat default).Kind), .int .i64 ((b.Gauges.getD r.Gauge.toNat default).Target), .int .i64 ((b.Gauges.getD r.Gauge.toNat default).Err), .int .i64 ((b.Gauges.getD r.Gauge.toNat default).Drift)], .blk b2 46 [.int .i64 r.Gauge, .int .i64 r.Hour, .int .i64 r.Value.Lo, .int .i64 r.Value.Hi], .blk b1 31 [.string b.Name, v1, .int .i64 b.Cells, v3, v4, v5, v6, v7, v8, v9, .int .i64 b.Err]]) (e_store (v := .agg #[.string ((b.Gauges.getD r.Gauge.toNat default).Name), .int .i64 ((b.Gauges.getD r.Gauge.toNat default).Kind), .int .i64 ((b.Gauges.getD r.Gauge.toNat default).Target), .int .i64 ((b.Gauges.getD r.Gauge.toNat default).Err), .int .i64 ((b.Gauges.getD r.Gauge.toNat default).Drift)]) 0 rfl rfl rfl sz58 rfl rfl rfl rfl rfl) ?_
    refine RW.q (v := .bool true) rfl (q_assign rfl) ?_
    refine RW.nil ?_
    refine Post.then_n ?_
    refine AW.ret ?_
    refine fin_cell2 (cs := [.string ((b.Gauges.getD r.Gauge.toNat default).Name), .int .i64 ((b.Gauges.getD r.Gauge.toNat default).Kind), .int .i64 ((b.Gauges.getD r.Gauge.toNat default).Target), .int .i64 ((b.Gauges.getD r.Gauge.toNat default).Err), .int .i64 ((b.Gauges.getD r.Gauge.toNat default).Drift)]) (v := .bool true) rfl rfl rfl rfl Try.underlying58 rfl sz58 rfl (Cells.blk 0 rfl) (fun w' hw => ?_)
    refine ⟨?_, hw.below rfl⟩
    have hn : Fu.inG b.Gauges r.Gauge := by unfold Fu.inG; omega
    rw [decide_eq_true hn]
    unfold Fu.gaugeAt; rw [if_pos hn]

set_option maxRecDepth 8000 in
set_option maxHeartbeats 1000000 in
theorem cRight_c (w : World) (Φ : Hp) (hΦ : Hp.le Φ (hp w)) {c : List Bt.Point} {v1 : Value} (h1 : RepSl Φ c v1) :
    Calls Try.prog 27 #[v1] w fun e w' => e = .returned (.bool (decide (Fu.RightC c))) ∧ Below w.heap.size w w' := by
  refine calls_of_AW (args := [v1]) Try.func27 rfl (Nat.le_of_ble_eq_true rfl) (St ⟨w, Φ, []⟩ Φ []) (StP.init w Φ hΦ []) ?_
  show AW Try.prog 63 [] _ _ _ [(0, v1)] _
  have hm1 : c.length * 16 ≤ 140737488355328 := h1.max
  refine AW.seq ?_
  refine AW.region ?_
  refine RW.q (v := .bool false) rfl (q_assign rfl) ?_
  refine RW.nil ?_
  refine Post.then_n ?_
  refine AW.seq ?_
  refine AW.seq ?_
  refine AW.region ?_
  refine RW.q (v := v1) rfl (q_move rfl) ?_
  refine RW.q (v := .int .i64 ((c.length : Nat) : Int)) rfl (q_len_sl rfl h1.sl Try.underlying60) ?_
  refine RW.q (v := .bool (decide (((c.length : Nat) : Int) < 1))) rfl (q_lss rfl rfl) ?_
  refine RW.q (v := .bool (decide (((c.length : Nat) : Int) < 1))) rfl (q_move rfl) ?_
  refine RW.g (b := (decide (((c.length : Nat) : Int) < 1))) (v := v1) rfl rfl rfl (fun h => q_move rfl) ?_
  refine RW.g (b := (decide (((c.length : Nat) : Int) < 1))) (v := .int .i64 ((c.length : Nat) : Int)) rfl rfl rfl (fun h => q_len_sl (gv_pos h) h1.sl Try.underlying60) ?_
  refine RW.g (b := (decide (((c.length : Nat) : Int) < 1))) (v := .bool (decide ((32 : Int) < ((c.length : Nat) : Int)))) rfl rfl rfl (fun h => q_gtr (gv_pos h) rfl) ?_
  refine RW.q (v := .bool ((decide (((c.length : Nat) : Int) < 1)) || (decide ((32 : Int) < ((c.length : Nat) : Int))))) rfl (q_pick rfl (fun hp => pkOrT hp) (fun hp => (gv_pos hp).trans (pkOrF hp))) ?_
  refine RW.nil ?_
  refine Post.then_n ?_
  refine AW.cond (b := (decide (((c.length : Nat) : Int) < 1)) || (decide ((32 : Int) < ((c.length : Nat) : Int)))) rfl (fun hc1 => ?_) (fun hc1 => ?_)
  · simp [-List.getD_eq_getElem?_getD] at hc1
    refine AW.seq ?_
    refine AW.region ?_
    refine RW.q (v := .bool false) rfl (q_assign rfl) ?_
    refine RW.nil ?_
    refine Post.then_n ?_
    refine AW.ret ?_
    refine Post.then_r ?_
    exact fin_val (v' := .bool false) rfl rfl rfl (by rw [decide_eq_false (fun hr => by have := hr.1; omega)])
  · simp [-List.getD_eq_getElem?_getD] at hc1
    refine AW.skip ?_
    refine Post.then_n ?_
    refine AW.seq ?_
    refine AW.seq ?_
    refine AW.region ?_
    refine RW.q (v := v1) rfl (q_move rfl) ?_
    refine RW.q (v := .int .i64 ((c.length : Nat) : Int)) rfl (q_len_sl rfl h1.sl Try.underlying60) ?_
    refine RW.q (v := .int .i64 0) rfl (q_move rfl) ?_
    refine RW.nil ?_
    refine Post.then_n ?_
    refine AW.block ?_
    refine AW.loop (fun s J m => ∃ (k : Nat), s = [(0, v1), (13, v1), (14, .int .i64 ((c.length : Nat) : Int)), (15, .int .i64 (k : Int))] ∧ J = St ⟨w, Φ, []⟩ Φ [] ∧ m = c.length - k ∧ (k ≤ c.length) ∧ (∀ j, j < k → Fu.PtOk c j)) (s0 := _) (J1 := _) (m0 := _) ⟨0, rfl, rfl, rfl, (by omega), (by omega)⟩ ⟨rfl, rfl, rfl, rfl, trivial⟩ (fun _ h => h) ?_
    rintro _ _ _ _ ⟨k, rfl, rfl, rfl, hk, hall⟩
    refine AW.seq ?_
    refine AW.region ?_
    refine RW.q (v := .bool (decide ((k : Int) < ((c.length : Nat) : Int)))) rfl (q_lss rfl rfl) ?_
    refine RW.nil ?_
    refine Post.then_n ?_
    refine AW.seq ?_
    refine AW.cond (b := decide ((k : Int) < ((c.length : Nat) : Int))) rfl (fun hc2 => ?_) (fun hc2 => ?_)
    · simp [-List.getD_eq_getElem?_getD] at hc2
      refine AW.skip ?_
      refine Post.then_n ?_
      refine AW.seq ?_
      refine AW.block ?_
      refine AW.seq ?_
      refine AW.region ?_
      refine RW.q (v := .int .i64 (k : Int)) rfl (q_move rfl) ?_
      refine RW.q (v := .pointer (some (Value.at v1 (k * 2)))) rfl (q_indexAddr rfl rfl h1.sl Try.underlying60 sz82 (by omega) (by omega) rfl) ?_
      refine RW.q (v := .agg #[.int .i64 ((c.getD k default).X), .int .i64 ((c.getD k default).Y)]) rfl (q_loadAgg rfl Try.underlying82 rfl sz82 rfl (Cells.repE h1 (by omega) rfl)) ?_
      refine RW.eff (fun b1 : Nat => .pointer (some (⟨b1, 0, none⟩))) (fun b1 => St ⟨w, Φ, []⟩ Φ [.blk b1 82 [.int .i64 0, .int .i64 0]]) rfl (e_alloc zero82) ?_
      intro b1
      refine RW.q (v := .int .i64 (k : Int)) rfl (q_assign rfl) ?_
      refine RW.effn (J' := St ⟨w, Φ, []⟩ Φ [.blk b1 82 [.int .i64 ((c.getD k default).X), .int .i64 ((c.getD k default).Y)]]) (e_store (v := .agg #[.int .i64 ((c.getD k default).X), .int .i64 ((c.getD k default).Y)]) 0 rfl rfl rfl sz82 rfl rfl rfl rfl rfl) ?_
      refine RW.nil ?_
      refine Post.then_n ?_
      refine AW.seq ?_
      refine AW.seq ?_
      refine AW.region ?_
      refine RW.q (v := .pointer (some (⟨b1, 0, none⟩))) rfl (q_fieldAddr rfl Try.underlying82 rfl sz3 rfl) ?_
      refine RW.q (v := .int .i64 ((c.getD k default).X)) rfl (q_load rfl Try.underlying3 rfl (Cell.blk 0 rfl rfl)) ?_
      refine RW.q (v := .bool (decide ((c.getD k default).X < 0))) rfl (q_lss rfl rfl) ?_
      refine RW.q (v := .bool (decide ((c.getD k default).X < 0))) rfl (q_move rfl) ?_
      refine RW.g (b := (decide ((c.getD k default).X < 0))) (v := .pointer (some (⟨b1, 0, none⟩))) rfl rfl rfl (fun h => q_fieldAddr rfl Try.underlying82 rfl sz3 rfl) ?_
      refine RW.g (b := (decide ((c.getD k default).X < 0))) (v := .int .i64 ((c.getD k default).X)) rfl rfl rfl (fun h => q_load (gv_pos h) Try.underlying3 rfl (Cell.blk 0 rfl rfl)) ?_
      refine RW.g (b := (decide ((c.getD k default).X < 0))) (v := .bool (decide ((1125899906842624 : Int) < (c.getD k default).X))) rfl rfl rfl (fun h => q_gtr (gv_pos h) rfl) ?_
      refine RW.q (v := .bool ((decide ((c.getD k default).X < 0)) || (decide ((1125899906842624 : Int) < (c.getD k default).X)))) rfl (q_pick rfl (fun hp => pkOrT hp) (fun hp => (gv_pos hp).trans (pkOrF hp))) ?_
      refine RW.q (v := .bool ((decide ((c.getD k default).X < 0)) || (decide ((1125899906842624 : Int) < (c.getD k default).X)))) rfl (q_move rfl) ?_
      refine RW.g (b := ((decide ((c.getD k default).X < 0)) || (decide ((1125899906842624 : Int) < (c.getD k default).X)))) (v := .pointer (some (⟨b1, 1, none⟩))) rfl rfl rfl (fun h => q_fieldAddr rfl Try.underlying82 rfl sz3 rfl) ?_
      refine RW.g (b := ((decide ((c.getD k default).X < 0)) || (decide ((1125899906842624 : Int) < (c.getD k default).X)))) (v := .int .i64 ((c.getD k default).Y)) rfl rfl rfl (fun h => q_load (gv_pos h) Try.underlying3 rfl (Cell.blk 0 rfl rfl)) ?_
      refine RW.g (b := ((decide ((c.getD k default).X < 0)) || (decide ((1125899906842624 : Int) < (c.getD k default).X)))) (v := .bool (decide ((c.getD k default).Y < 0))) rfl rfl rfl (fun h => q_lss (gv_pos h) rfl) ?_
      refine RW.q (v := .bool (((decide ((c.getD k default).X < 0)) || (decide ((1125899906842624 : Int) < (c.getD k default).X))) || (decide ((c.getD k default).Y < 0)))) rfl (q_pick rfl (fun hp => pkOrT hp) (fun hp => (gv_pos hp).trans (pkOrF hp))) ?_
      refine RW.q (v := .bool (((decide ((c.getD k default).X < 0)) || (decide ((1125899906842624 : Int) < (c.getD k default).X))) || (decide ((c.getD k default).Y < 0)))) rfl (q_move rfl) ?_
      refine RW.g (b := (((decide ((c.getD k default).X < 0)) || (decide ((1125899906842624 : Int) < (c.getD k default).X))) || (decide ((c.getD k default).Y < 0)))) (v := .pointer (some (⟨b1, 1, none⟩))) rfl rfl rfl (fun h => q_fieldAddr rfl Try.underlying82 rfl sz3 rfl) ?_
      refine RW.g (b := (((decide ((c.getD k default).X < 0)) || (decide ((1125899906842624 : Int) < (c.getD k default).X))) || (decide ((c.getD k default).Y < 0)))) (v := .int .i64 ((c.getD k default).Y)) rfl rfl rfl (fun h => q_load (gv_pos h) Try.underlying3 rfl (Cell.blk 0 rfl rfl)) ?_
      refine RW.g (b := (((decide ((c.getD k default).X < 0)) || (decide ((1125899906842624 : Int) < (c.getD k default).X))) || (decide ((c.getD k default).Y < 0)))) (v := .bool (decide ((1125899906842624 : Int) < (c.getD k default).Y))) rfl rfl rfl (fun h => q_gtr (gv_pos h) rfl) ?_
      refine RW.q (v := .bool ((((decide ((c.getD k default).X < 0)) || (decide ((1125899906842624 : Int) < (c.getD k default).X))) || (decide ((c.getD k default).Y < 0))) || (decide ((1125899906842624 : Int) < (c.getD k default).Y)))) rfl (q_pick rfl (fun hp => pkOrT hp) (fun hp => (gv_pos hp).trans (pkOrF hp))) ?_
      refine RW.nil ?_
      refine Post.then_n ?_
      refine AW.cond (b := (((decide ((c.getD k default).X < 0)) || (decide ((1125899906842624 : Int) < (c.getD k default).X))) || (decide ((c.getD k default).Y < 0))) || (decide ((1125899906842624 : Int) < (c.getD k default).Y))) rfl (fun hc3 => ?_) (fun hc3 => ?_)
      · simp [-List.getD_eq_getElem?_getD] at hc3
        refine AW.seq ?_
        refine AW.region ?_
        refine RW.q (v := .bool false) rfl (q_assign rfl) ?_
        refine RW.nil ?_
        refine Post.then_n ?_
        refine AW.ret ?_
        refine Post.then_r (Post.blk_r (Post.then_r (Post.then_r (Post.blk_r (Post.then_r ?_)))))
        exact fin_val (v' := .bool false) rfl rfl rfl (by rw [decide_eq_false (fun hr => by have hp := hr.2 k (by omega); unfold Fu.PtOk Fu.px Fu.py at hp; have h3 := hp.2.2; omega)])
      · simp [-List.getD_eq_getElem?_getD] at hc3
        refine AW.skip ?_
        refine Post.then_n ?_
        refine AW.seq ?_
        have hk0 : 0 < k → (((k : Nat) : Int) - 1).toNat = k - 1 := by omega
        refine AW.draw (J0 := St ⟨w, Φ, []⟩ Φ [.blk b1 82 [.int .i64 ((c.getD k default).X), .int .i64 ((c.getD k default).Y)]]) [.q, .q, .q, .q, .q, .q, .q, .q, .q, .q, .q, .q, .q, .q, .q, .q, .q, .q, .q, .q, .q, .q, .q, .q] [0, 1, 2, 3, 4, 5, 6, 7, 8, 9, 10, 11, 12, 13, 14, 15, 16, 17, 18, 19, 20, 21, 22, 23] hmix (by kernel_rfl) ?_
        refine DW.q (v := .int .i64 (k : Int)) (fun _ h => h) rfl (q_move rfl) ?_
        refine DW.q (v := .bool (decide ((0 : Int) < (k : Int)))) (fun _ h => h) rfl (q_gtr rfl rfl) ?_
        refine DW.q (v := .bool (decide ((0 : Int) < (k : Int)))) (fun _ h => h) rfl (q_move rfl) ?_
        refine DW.g (b := (decide ((0 : Int) < (k : Int)))) (v := .pointer (some (⟨b1, 0, none⟩))) (fun _ h => h) rfl rfl rfl (fun h => q_fieldAddr rfl Try.underlying82 rfl sz3 rfl) ?_
        refine DW.g (b := (decide ((0 : Int) < (k : Int)))) (v := .int .i64 ((c.getD k default).X)) (fun _ h => h) rfl rfl rfl (fun h => q_load (gv_pos h) Try.underlying3 rfl (Cell.blk 0 rfl rfl)) ?_
        refine DW.g (b := (decide ((0 : Int) < (k : Int)))) (v := v1) (fun _ h => h) rfl rfl rfl (fun h => q_move rfl) ?_
        refine DW.g (b := (decide ((0 : Int) < (k : Int)))) (v := .int .i64 (k : Int)) (fun _ h => h) rfl rfl rfl (fun h => q_move rfl) ?_
        refine DW.g (b := (decide ((0 : Int) < (k : Int)))) (v := .int .i64 ((k : Int) - 1)) (fun _ h => h) rfl rfl rfl (fun h => q_sub (gv_pos h) rfl (by (try simp [-List.getD_eq_getElem?_getD] at h); omega) (by (try simp [-List.getD_eq_getElem?_getD] at h); unfold I64; omega)) ?_
        refine DW.g (b := (decide ((0 : Int) < (k : Int)))) (v := .pointer (some (Value.at v1 ((((k : Int) - 1).toNat) * 2)))) (fun _ h => h) rfl rfl rfl (fun h => q_indexAddr (gv_pos h) (gv_pos h) h1.sl Try.underlying60 sz82 (by (try simp [-List.getD_eq_getElem?_getD] at h); omega) (by (try simp [-List.getD_eq_getElem?_getD] at h); omega) rfl) ?_
        refine DW.g (b := (decide ((0 : Int) < (k : Int)))) (v := .pointer (some (Value.at v1 ((((k : Int) - 1).toNat) * 2 + 0)))) (fun _ h => h) rfl rfl rfl (fun h => q_fieldAddr (gv_pos h) Try.underlying82 rfl sz3 at_add) ?_
        refine DW.g (b := (decide ((0 : Int) < (k : Int)))) (v := .int .i64 ((c.getD (((k : Int) - 1).toNat) default).X)) (fun _ h => h) rfl rfl rfl (fun h => q_load (gv_pos h) Try.underlying3 rfl (Cell.repE (j := 0) h1 (by (try simp [-List.getD_eq_getElem?_getD] at h); omega) rfl)) ?_
        refine DW.g (b := (decide ((0 : Int) < (k : Int)))) (v := .bool (decide ((c.getD k default).X ≤ (c.getD (((k : Int) - 1).toNat) default).X))) (fun _ h => h) rfl rfl rfl (fun h => q_leq (gv_pos h) (gv_pos h)) ?_
        refine DW.g (b := (decide ((0 : Int) < (k : Int)))) (v := .bool (decide ((c.getD k default).X ≤ (c.getD (((k : Int) - 1).toNat) default).X))) (fun _ h => h) rfl rfl rfl (fun h => q_move (gv_pos h)) ?_
        refine DW.g2 (b1 := (decide ((0 : Int) < (k : Int)))) (b2 := (decide ((c.getD k default).X ≤ (c.getD (((k : Int) - 1).toNat) default).X))) (v := .pointer (some (⟨b1, 1, none⟩))) (fun _ h => h) rfl rfl rfl (fun hg1 hg2 => q_fieldAddr rfl Try.underlying82 rfl sz3 rfl) ?_
        refine DW.g2 (b1 := (decide ((0 : Int) < (k : Int)))) (b2 := (decide ((c.getD k default).X ≤ (c.getD (((k : Int) - 1).toNat) default).X))) (v := .int .i64 ((c.getD k default).Y)) (fun _ h => h) rfl rfl rfl (fun hg1 hg2 => q_load ((gv_pos hg1).trans (gv_pos hg2)) Try.underlying3 rfl (Cell.blk 0 rfl rfl)) ?_
        refine DW.g2 (b1 := (decide ((0 : Int) < (k : Int)))) (b2 := (decide ((c.getD k default).X ≤ (c.getD (((k : Int) - 1).toNat) default).X))) (v := v1) (fun _ h => h) rfl rfl rfl (fun hg1 hg2 => q_move rfl) ?_
        refine DW.g2 (b1 := (decide ((0 : Int) < (k : Int)))) (b2 := (decide ((c.getD k default).X ≤ (c.getD (((k : Int) - 1).toNat) default).X))) (v := .int .i64 (k : Int)) (fun _ h => h) rfl rfl rfl (fun hg1 hg2 => q_move rfl) ?_
        refine DW.g2 (b1 := (decide ((0 : Int) < (k : Int)))) (b2 := (decide ((c.getD k default).X ≤ (c.getD (((k : Int) - 1).toNat) default).X))) (v := .int .i64 ((k : Int) - 1)) (fun _ h => h) rfl rfl rfl (fun hg1 hg2 => q_sub ((gv_pos hg1).trans (gv_pos hg2)) rfl (by (try simp [-List.getD_eq_getElem?_getD] at hg1); (try simp [-List.getD_eq_getElem?_getD] at hg2); omega) (by (try simp [-List.getD_eq_getElem?_getD] at hg1); (try simp [-List.getD_eq_getElem?_getD] at hg2); unfold I64; omega)) ?_
        refine DW.g2 (b1 := (decide ((0 : Int) < (k : Int)))) (b2 := (decide ((c.getD k default).X ≤ (c.getD (((k : Int) - 1).toNat) default).X))) (v := .pointer (some (Value.at v1 ((((k : Int) - 1).toNat) * 2)))) (fun _ h => h) rfl rfl rfl (fun hg1 hg2 => q_indexAddr ((gv_pos hg1).trans (gv_pos hg2)) ((gv_pos hg1).trans (gv_pos hg2)) h1.sl Try.underlying60 sz82 (by (try simp [-List.getD_eq_getElem?_getD] at hg1); (try simp [-List.getD_eq_getElem?_getD] at hg2); omega) (by (try simp [-List.getD_eq_getElem?_getD] at hg1); (try simp [-List.getD_eq_getElem?_getD] at hg2); omega) rfl) ?_
        refine DW.g2 (b1 := (decide ((0 : Int) < (k : Int)))) (b2 := (decide ((c.getD k default).X ≤ (c.getD (((k : Int) - 1).toNat) default).X))) (v := .pointer (some (Value.at v1 ((((k : Int) - 1).toNat) * 2 + 1)))) (fun _ h => h) rfl rfl rfl (fun hg1 hg2 => q_fieldAddr ((gv_pos hg1).trans (gv_pos hg2)) Try.underlying82 rfl sz3 at_add) ?_
        refine DW.g2 (b1 := (decide ((0 : Int) < (k : Int)))) (b2 := (decide ((c.getD k default).X ≤ (c.getD (((k : Int) - 1).toNat) default).X))) (v := .int .i64 ((c.getD (((k : Int) - 1).toNat) default).Y)) (fun _ h => h) rfl rfl rfl (fun hg1 hg2 => q_load ((gv_pos hg1).trans (gv_pos hg2)) Try.underlying3 rfl (Cell.repE (j := 1) h1 (by (try simp [-List.getD_eq_getElem?_getD] at hg1); (try simp [-List.getD_eq_getElem?_getD] at hg2); omega) rfl)) ?_
        refine DW.g2 (b1 := (decide ((0 : Int) < (k : Int)))) (b2 := (decide ((c.getD k default).X ≤ (c.getD (((k : Int) - 1).toNat) default).X))) (v := .bool (decide ((c.getD k default).Y < (c.getD (((k : Int) - 1).toNat) default).Y))) (fun _ h => h) rfl rfl rfl (fun hg1 hg2 => q_lss ((gv_pos hg1).trans (gv_pos hg2)) ((gv_pos hg1).trans (gv_pos hg2))) ?_
        refine DW.g (b := (decide ((0 : Int) < (k : Int)))) (v := .bool ((decide ((c.getD k default).X ≤ (c.getD (((k : Int) - 1).toNat) default).X)) || (decide ((c.getD k default).Y < (c.getD (((k : Int) - 1).toNat) default).Y)))) (fun _ h => h) rfl rfl rfl (fun h => q_pick (gv_pos h) (fun hp => pkOrT hp) (fun hp => (gv_pos h).trans ((gv_pos hp).trans (pkOrF hp)))) ?_
        refine DW.q (v := .bool ((decide ((0 : Int) < (k : Int))) && ((decide ((c.getD k default).X ≤ (c.getD (((k : Int) - 1).toNat) default).X)) || (decide ((c.getD k default).Y < (c.getD (((k : Int) - 1).toNat) default).Y))))) (fun _ h => h) rfl (q_pick rfl (fun hp => (gv_pos hp).trans (pkAndT hp)) (fun hp => pkAndF hp)) ?_
        refine DW.nil ?_
        refine Post.then_n ?_
        refine AW.cond (b := (decide ((0 : Int) < (k : Int))) && ((decide ((c.getD k default).X ≤ (c.getD (((k : Int) - 1).toNat) default).X)) || (decide ((c.getD k default).Y < (c.getD (((k : Int) - 1).toNat) default).Y)))) rfl (fun hc4 => ?_) (fun hc4 => ?_)
        · simp [-List.getD_eq_getElem?_getD] at hc4
          refine AW.seq ?_
          refine AW.region ?_
          refine RW.q (v := .bool false) rfl (q_assign rfl) ?_
          refine RW.nil ?_
          refine Post.then_n ?_
          refine AW.ret ?_
          refine Post.blk_r (Post.then_r (Post.then_r (Post.blk_r (Post.then_r ?_))))
          exact fin_val (v' := .bool false) rfl rfl rfl (by rw [decide_eq_false (fun hr => by have hp := hr.2 k (by omega); unfold Fu.PtOk Fu.px Fu.py at hp; have h3 := hp.2.2; omega)])
        · simp [-List.getD_eq_getElem?_getD] at hc4
          refine AW.skip ?_
          refine Post.blk_n (Post.then_n ?_)
          refine AW.region ?_
          refine RW.q (v := .int .i64 ((k + 1 : Nat) : Int)) rfl (q_add rfl rfl (by omega) (by unfold I64; omega)) ?_
          refine RW.q (v := .int .i64 ((k + 1 : Nat) : Int)) rfl (q_move rfl) ?_
          refine RW.nil ?_
          exact Post.back (s' := _) (J' := _) (m' := _) (by omega) ⟨k + 1, rfl, rfl, rfl, (by omega), (Fu.lt_succ hall (by unfold Fu.PtOk Fu.px Fu.py; refine ⟨by omega, by omega, fun h0 => ?_⟩; first | exact hc4 h0 | omega))⟩ ⟨rfl, rfl, rfl, rfl, trivial⟩ (fun _ h => StP.drop h (by exact .cons _ (.slnil)))
    · simp [-List.getD_eq_getElem?_getD] at hc2
      refine AW.exit ?_
      refine Post.then_x (Post.then_x (Post.blk_hit (Post.then_n ?_)))
      refine AW.seq ?_
      refine AW.region ?_
      refine RW.q (v := .bool true) rfl (q_assign rfl) ?_
      refine RW.nil ?_
      refine Post.then_n ?_
      refine AW.ret ?_
      exact fin_val (v' := .bool true) rfl rfl rfl (by rw [decide_eq_true ⟨by omega, fun j hj => hall j (by omega)⟩])

set_option maxRecDepth 8000 in
set_option maxHeartbeats 1000000 in
theorem vol_c (w : World) (Φ : Hp) (hΦ : Hp.le Φ (hp w)) {n : Int} :
    Calls Try.prog 71 #[.int .i64 n] w fun e w' => e = .returned (.bool (decide (0 ≤ n) && decide (n ≤ 1125899906842624))) ∧ Below w.heap.size w w' := by
  refine calls_of_AW (args := [.int .i64 n]) Try.func71 rfl (Nat.le_of_ble_eq_true rfl) (St ⟨w, Φ, []⟩ Φ []) (StP.init w Φ hΦ []) ?_
  show AW Try.prog 9 [] _ _ _ [(0, .int .i64 n)] _
  refine AW.seq ?_
  refine AW.region ?_
  refine RW.q (v := .bool false) rfl (q_assign rfl) ?_
  refine RW.nil ?_
  refine Post.then_n ?_
  refine AW.seq ?_
  refine AW.region ?_
  refine RW.q (v := .int .i64 n) rfl (q_move rfl) ?_
  refine RW.q (v := .bool (decide ((0 : Int) ≤ n))) rfl (q_geq rfl rfl) ?_
  refine RW.q (v := .bool (decide ((0 : Int) ≤ n))) rfl (q_move rfl) ?_
  refine RW.g (b := (decide ((0 : Int) ≤ n))) (v := .int .i64 n) rfl rfl rfl (fun h => q_move rfl) ?_
  refine RW.g (b := (decide ((0 : Int) ≤ n))) (v := .bool (decide (n ≤ 1125899906842624))) rfl rfl rfl (fun h => q_leq (gv_pos h) rfl) ?_
  refine RW.q (v := .bool ((decide ((0 : Int) ≤ n)) && (decide (n ≤ 1125899906842624)))) rfl (q_pick rfl (fun hp => (gv_pos hp).trans (pkAndT hp)) (fun hp => pkAndF hp)) ?_
  refine RW.q (v := .bool ((decide ((0 : Int) ≤ n)) && (decide (n ≤ 1125899906842624)))) rfl (q_assign rfl) ?_
  refine RW.nil ?_
  refine Post.then_n ?_
  refine AW.ret ?_
  exact fin_val (v' := .bool ((decide ((0 : Int) ≤ n)) && (decide (n ≤ 1125899906842624)))) rfl rfl rfl (rfl)

set_option maxRecDepth 8000 in
set_option maxHeartbeats 1000000 in
theorem rcRight_c (w : World) (Φ : Hp) (hΦ : Hp.le Φ (hp w)) {c : List Bt.Point} {v1 : Value} (h1 : RepSl Φ c v1) :
    Calls Try.prog 32 #[v1] w fun e w' => e = .returned (.bool (decide (Fu.RightC c))) ∧ Below w.heap.size w w' := by
  refine calls_of_AW (args := [v1]) Try.func32 rfl (Nat.le_of_ble_eq_true rfl) (St ⟨w, Φ, []⟩ Φ []) (StP.init w Φ hΦ []) ?_
  show AW Try.prog 66 [] _ _ _ [(0, v1)] _
  have hm1 : c.length * 16 ≤ 140737488355328 := h1.max
  refine AW.seq ?_
  refine AW.region ?_
  refine RW.q (v := .bool false) rfl (q_assign rfl) ?_
  refine RW.nil ?_
  refine Post.then_n ?_
  refine AW.seq ?_
  refine AW.seq ?_
  refine AW.region ?_
  refine RW.q (v := .int .i64 0) rfl (q_assign rfl) ?_
  refine RW.nil ?_
  refine Post.then_n ?_
  refine AW.block ?_
  refine AW.loop (fun s J m => ∃ (k : Nat), s = [(0, v1), (3, .int .i64 (k : Int))] ∧ J = St ⟨w, Φ, []⟩ Φ [] ∧ m = c.length - k ∧ (k ≤ c.length) ∧ (∀ j, j < k → Fu.PtOk c j)) (s0 := _) (J1 := _) (m0 := _) ⟨0, rfl, rfl, rfl, (by omega), (by omega)⟩ ⟨rfl, rfl, trivial⟩ (fun _ h => h) ?_
  rintro _ _ _ _ ⟨k, rfl, rfl, rfl, hk, hall⟩
  refine AW.seq ?_
  refine AW.seq ?_
  refine AW.region ?_
  refine RW.q (v := .int .i64 (k : Int)) rfl (q_move rfl) ?_
  refine RW.q (v := v1) rfl (q_move rfl) ?_
  refine RW.q (v := .int .i64 ((c.length : Nat) : Int)) rfl (q_len_sl rfl h1.sl Try.underlying60) ?_
  refine RW.q (v := .bool (decide ((k : Int) < ((c.length : Nat) : Int)))) rfl (q_lss rfl rfl) ?_
  refine RW.nil ?_
  refine Post.then_n ?_
  refine AW.cond (b := decide ((k : Int) < ((c.length : Nat) : Int))) rfl (fun hc1 => ?_) (fun hc1 => ?_)
  · simp [-List.getD_eq_getElem?_getD] at hc1
    refine AW.skip ?_
    refine Post.then_n ?_
    refine AW.seq ?_
    refine AW.block ?_
    refine AW.seq ?_
    have hk0 : 0 < k → (((k : Nat) : Int) - 1).toNat = k - 1 := by omega
    refine AW.draw (J0 := St ⟨w, Φ, []⟩ Φ []) [.q, .q, .q, .q, .q, .q, .q, .q, .q, .q, .q, .q, .q, .q, .q, .q, .q, .q, .q, .q, .q, .q, .q, .q, .q, .q, .q, .q, .q, .q, .q, .q, .q, .q, .q, .q, .q, .q, .q, .q, .q, .q, .q, .q, .q, .q, .q, .q] [0, 1, 2, 3, 4, 5, 6, 7, 8, 9, 10, 11, 12, 13, 14, 15, 16, 17, 18, 19, 20, 21, 22, 23, 24, 25, 26, 27, 28, 29, 30, 31, 32, 33, 34, 35, 36, 37, 38, 39, 40, 41, 42, 43, 44, 45, 46, 47] hmix (by kernel_rfl) ?_
    refine DW.q (v := v1) (fun _ h => h) rfl (q_move rfl) ?_
    refine DW.q (v := .int .i64 (k : Int)) (fun _ h => h) rfl (q_move rfl) ?_
    refine DW.q (v := .pointer (some (Value.at v1 (k * 2)))) (fun _ h => h) rfl (q_indexAddr rfl rfl h1.sl Try.underlying60 sz82 (by omega) (by omega) rfl) ?_
    refine DW.q (v := .pointer (some (Value.at v1 (k * 2 + 0)))) (fun _ h => h) rfl (q_fieldAddr rfl Try.underlying82 rfl sz3 at_add) ?_
    refine DW.q (v := .int .i64 ((c.getD k default).X)) (fun _ h => h) rfl (q_load rfl Try.underlying3 rfl (Cell.repE (j := 0) h1 (by omega) rfl)) ?_
    refine DW.q (v := .bool (decide (0 ≤ (c.getD k default).X) && decide ((c.getD k default).X ≤ 1125899906842624))) (fun _ h => h) rfl (q_call (args := #[.int .i64 ((c.getD k default).X)]) own71 rfl rfl (fun w1 hw1 => vol_c w1 (Go.K.hp w1) (Hp.le_refl _))) ?_
    refine DW.q (v := .bool (!(decide (0 ≤ (c.getD k default).X) && decide ((c.getD k default).X ≤ 1125899906842624)))) (fun _ h => h) rfl (q_not rfl) ?_
    refine DW.q (v := .bool (!(decide (0 ≤ (c.getD k default).X) && decide ((c.getD k default).X ≤ 1125899906842624)))) (fun _ h => h) rfl (q_move rfl) ?_
    refine DW.g (b := (!(decide (0 ≤ (c.getD k default).X) && decide ((c.getD k default).X ≤ 1125899906842624)))) (v := v1) (fun _ h => h) rfl rfl rfl (fun h => q_move rfl) ?_
    refine DW.g (b := (!(decide (0 ≤ (c.getD k default).X) && decide ((c.getD k default).X ≤ 1125899906842624)))) (v := .int .i64 (k : Int)) (fun _ h => h) rfl rfl rfl (fun h => q_move rfl) ?_
    refine DW.g (b := (!(decide (0 ≤ (c.getD k default).X) && decide ((c.getD k default).X ≤ 1125899906842624)))) (v := .pointer (some (Value.at v1 (k * 2)))) (fun _ h => h) rfl rfl rfl (fun h => q_indexAddr (gv_pos h) (gv_pos h) h1.sl Try.underlying60 sz82 (by (try simp [-List.getD_eq_getElem?_getD] at h); omega) (by (try simp [-List.getD_eq_getElem?_getD] at h); omega) rfl) ?_
    refine DW.g (b := (!(decide (0 ≤ (c.getD k default).X) && decide ((c.getD k default).X ≤ 1125899906842624)))) (v := .pointer (some (Value.at v1 (k * 2 + 1)))) (fun _ h => h) rfl rfl rfl (fun h => q_fieldAddr (gv_pos h) Try.underlying82 rfl sz3 at_add) ?_
    refine DW.g (b := (!(decide (0 ≤ (c.getD k default).X) && decide ((c.getD k default).X ≤ 1125899906842624)))) (v := .int .i64 ((c.getD k default).Y)) (fun _ h => h) rfl rfl rfl (fun h => q_load (gv_pos h) Try.underlying3 rfl (Cell.repE (j := 1) h1 (by (try simp [-List.getD_eq_getElem?_getD] at h); omega) rfl)) ?_
    refine DW.g (b := (!(decide (0 ≤ (c.getD k default).X) && decide ((c.getD k default).X ≤ 1125899906842624)))) (v := .bool (decide (0 ≤ (c.getD k default).Y) && decide ((c.getD k default).Y ≤ 1125899906842624))) (fun _ h => h) rfl rfl rfl (fun h => q_call (args := #[.int .i64 ((c.getD k default).Y)]) own71 rfl (args1 (gv_pos h)) (fun w1 hw1 => vol_c w1 (Go.K.hp w1) (Hp.le_refl _))) ?_
    refine DW.g (b := (!(decide (0 ≤ (c.getD k default).X) && decide ((c.getD k default).X ≤ 1125899906842624)))) (v := .bool (!(decide (0 ≤ (c.getD k default).Y) && decide ((c.getD k default).Y ≤ 1125899906842624)))) (fun _ h => h) rfl rfl rfl (fun h => q_not (gv_pos h)) ?_
    refine DW.q (v := .bool ((!(decide (0 ≤ (c.getD k default).X) && decide ((c.getD k default).X ≤ 1125899906842624))) || (!(decide (0 ≤ (c.getD k default).Y) && decide ((c.getD k default).Y ≤ 1125899906842624))))) (fun _ h => h) rfl (q_pick rfl (fun hp => pkOrT hp) (fun hp => (gv_pos hp).trans (pkOrF hp))) ?_
    refine DW.q (v := .bool ((!(decide (0 ≤ (c.getD k default).X) && decide ((c.getD k default).X ≤ 1125899906842624))) || (!(decide (0 ≤ (c.getD k default).Y) && decide ((c.getD k default).Y ≤ 1125899906842624))))) (fun _ h => h) rfl (q_move rfl) ?_
    refine DW.g (b := ((!(decide (0 ≤ (c.getD k default).X) && decide ((c.getD k default).X ≤ 1125899906842624))) || (!(decide (0 ≤ (c.getD k default).Y) && decide ((c.getD k default).Y ≤ 1125899906842624))))) (v := .int .i64 (k : Int)) (fun _ h => h) rfl rfl rfl (fun h => q_move rfl) ?_
    refine DW.g (b := ((!(decide (0 ≤ (c.getD k default).X) && decide ((c.getD k default).X ≤ 1125899906842624))) || (!(decide (0 ≤ (c.getD k default).Y) && decide ((c.getD k default).Y ≤ 1125899906842624))))) (v := .bool (decide ((0 : Int) < (k : Int)))) (fun _ h => h) rfl rfl rfl (fun h => q_gtr (gv_pos h) rfl) ?_
    refine DW.g (b := ((!(decide (0 ≤ (c.getD k default).X) && decide ((c.getD k default).X ≤ 1125899906842624))) || (!(decide (0 ≤ (c.getD k default).Y) && decide ((c.getD k default).Y ≤ 1125899906842624))))) (v := .bool (decide ((0 : Int) < (k : Int)))) (fun _ h => h) rfl rfl rfl (fun h => q_move (gv_pos h)) ?_
    refine DW.g2 (b1 := ((!(decide (0 ≤ (c.getD k default).X) && decide ((c.getD k default).X ≤ 1125899906842624))) || (!(decide (0 ≤ (c.getD k default).Y) && decide ((c.getD k default).Y ≤ 1125899906842624))))) (b2 := (decide ((0 : Int) < (k : Int)))) (v := v1) (fun _ h => h) rfl rfl rfl (fun hg1 hg2 => q_move rfl) ?_
    refine DW.g2 (b1 := ((!(decide (0 ≤ (c.getD k default).X) && decide ((c.getD k default).X ≤ 1125899906842624))) || (!(decide (0 ≤ (c.getD k default).Y) && decide ((c.getD k default).Y ≤ 1125899906842624))))) (b2 := (decide ((0 : Int) < (k : Int)))) (v := .int .i64 (k : Int)) (fun _ h => h) rfl rfl rfl (fun hg1 hg2 => q_move rfl) ?_
    refine DW.g2 (b1 := ((!(decide (0 ≤ (c.getD k default).X) && decide ((c.getD k default).X ≤ 1125899906842624))) || (!(decide (0 ≤ (c.getD k default).Y) && decide ((c.getD k default).Y ≤ 1125899906842624))))) (b2 := (decide ((0 : Int) < (k : Int)))) (v := .pointer (some (Value.at v1 (k * 2)))) (fun _ h => h) rfl rfl rfl (fun hg1 hg2 => q_indexAddr ((gv_pos hg1).trans (gv_pos hg2)) ((gv_pos hg1).trans (gv_pos hg2)) h1.sl Try.underlying60 sz82 (by (try simp [-List.getD_eq_getElem?_getD] at hg1); (try simp [-List.getD_eq_getElem?_getD] at hg2); omega) (by (try simp [-List.getD_eq_getElem?_getD] at hg1); (try simp [-List.getD_eq_getElem?_getD] at hg2); omega) rfl) ?_
    refine DW.g2 (b1 := ((!(decide (0 ≤ (c.getD k default).X) && decide ((c.getD k default).X ≤ 1125899906842624))) || (!(decide (0 ≤ (c.getD k default).Y) && decide ((c.getD k default).Y ≤ 1125899906842624))))) (b2 := (decide ((0 : Int) < (k : Int)))) (v := .pointer (some (Value.at v1 (k * 2 + 0)))) (fun _ h => h) rfl rfl rfl (fun hg1 hg2 => q_fieldAddr ((gv_pos hg1).trans (gv_pos hg2)) Try.underlying82 rfl sz3 at_add) ?_
    refine DW.g2 (b1 := ((!(decide (0 ≤ (c.getD k default).X) && decide ((c.getD k default).X ≤ 1125899906842624))) || (!(decide (0 ≤ (c.getD k default).Y) && decide ((c.getD k default).Y ≤ 1125899906842624))))) (b2 := (decide ((0 : Int) < (k : Int)))) (v := .int .i64 ((c.getD k default).X)) (fun _ h => h) rfl rfl rfl (fun hg1 hg2 => q_load ((gv_pos hg1).trans (gv_pos hg2)) Try.underlying3 rfl (Cell.repE (j := 0) h1 (by (try simp [-List.getD_eq_getElem?_getD] at hg1); (try simp [-List.getD_eq_getElem?_getD] at hg2); omega) rfl)) ?_
    refine DW.g2 (b1 := ((!(decide (0 ≤ (c.getD k default).X) && decide ((c.getD k default).X ≤ 1125899906842624))) || (!(decide (0 ≤ (c.getD k default).Y) && decide ((c.getD k default).Y ≤ 1125899906842624))))) (b2 := (decide ((0 : Int) < (k : Int)))) (v := v1) (fun _ h => h) rfl rfl rfl (fun hg1 hg2 => q_move rfl) ?_
    refine DW.g2 (b1 := ((!(decide (0 ≤ (c.getD k default).X) && decide ((c.getD k default).X ≤ 1125899906842624))) || (!(decide (0 ≤ (c.getD k default).Y) && decide ((c.getD k default).Y ≤ 1125899906842624))))) (b2 := (decide ((0 : Int) < (k : Int)))) (v := .int .i64 (k : Int)) (fun _ h => h) rfl rfl rfl (fun hg1 hg2 => q_move rfl) ?_
    refine DW.g2 (b1 := ((!(decide (0 ≤ (c.getD k default).X) && decide ((c.getD k default).X ≤ 1125899906842624))) || (!(decide (0 ≤ (c.getD k default).Y) && decide ((c.getD k default).Y ≤ 1125899906842624))))) (b2 := (decide ((0 : Int) < (k : Int)))) (v := .int .i64 ((k : Int) - 1)) (fun _ h => h) rfl rfl rfl (fun hg1 hg2 => q_sub ((gv_pos hg1).trans (gv_pos hg2)) rfl (by (try simp [-List.getD_eq_getElem?_getD] at hg1); (try simp [-List.getD_eq_getElem?_getD] at hg2); omega) (by (try simp [-List.getD_eq_getElem?_getD] at hg1); (try simp [-List.getD_eq_getElem?_getD] at hg2); unfold I64; omega)) ?_
    refine DW.g2 (b1 := ((!(decide (0 ≤ (c.getD k default).X) && decide ((c.getD k default).X ≤ 1125899906842624))) || (!(decide (0 ≤ (c.getD k default).Y) && decide ((c.getD k default).Y ≤ 1125899906842624))))) (b2 := (decide ((0 : Int) < (k : Int)))) (v := .pointer (some (Value.at v1 ((((k : Int) - 1).toNat) * 2)))) (fun _ h => h) rfl rfl rfl (fun hg1 hg2 => q_indexAddr ((gv_pos hg1).trans (gv_pos hg2)) ((gv_pos hg1).trans (gv_pos hg2)) h1.sl Try.underlying60 sz82 (by (try simp [-List.getD_eq_getElem?_getD] at hg1); (try simp [-List.getD_eq_getElem?_getD] at hg2); omega) (by (try simp [-List.getD_eq_getElem?_getD] at hg1); (try simp [-List.getD_eq_getElem?_getD] at hg2); omega) rfl) ?_
    refine DW.g2 (b1 := ((!(decide (0 ≤ (c.getD k default).X) && decide ((c.getD k default).X ≤ 1125899906842624))) || (!(decide (0 ≤ (c.getD k default).Y) && decide ((c.getD k default).Y ≤ 1125899906842624))))) (b2 := (decide ((0 : Int) < (k : Int)))) (v := .pointer (some (Value.at v1 ((((k : Int) - 1).toNat) * 2 + 0)))) (fun _ h => h) rfl rfl rfl (fun hg1 hg2 => q_fieldAddr ((gv_pos hg1).trans (gv_pos hg2)) Try.underlying82 rfl sz3 at_add) ?_
    refine DW.g2 (b1 := ((!(decide (0 ≤ (c.getD k default).X) && decide ((c.getD k default).X ≤ 1125899906842624))) || (!(decide (0 ≤ (c.getD k default).Y) && decide ((c.getD k default).Y ≤ 1125899906842624))))) (b2 := (decide ((0 : Int) < (k : Int)))) (v := .int .i64 ((c.getD (((k : Int) - 1).toNat) default).X)) (fun _ h => h) rfl rfl rfl (fun hg1 hg2 => q_load ((gv_pos hg1).trans (gv_pos hg2)) Try.underlying3 rfl (Cell.repE (j := 0) h1 (by (try simp [-List.getD_eq_getElem?_getD] at hg1); (try simp [-List.getD_eq_getElem?_getD] at hg2); omega) rfl)) ?_
    refine DW.g2 (b1 := ((!(decide (0 ≤ (c.getD k default).X) && decide ((c.getD k default).X ≤ 1125899906842624))) || (!(decide (0 ≤ (c.getD k default).Y) && decide ((c.getD k default).Y ≤ 1125899906842624))))) (b2 := (decide ((0 : Int) < (k : Int)))) (v := .bool (decide ((c.getD k default).X ≤ (c.getD (((k : Int) - 1).toNat) default).X))) (fun _ h => h) rfl rfl rfl (fun hg1 hg2 => q_leq ((gv_pos hg1).trans (gv_pos hg2)) ((gv_pos hg1).trans (gv_pos hg2))) ?_
    refine DW.g2 (b1 := ((!(decide (0 ≤ (c.getD k default).X) && decide ((c.getD k default).X ≤ 1125899906842624))) || (!(decide (0 ≤ (c.getD k default).Y) && decide ((c.getD k default).Y ≤ 1125899906842624))))) (b2 := (decide ((0 : Int) < (k : Int)))) (v := .bool (decide ((c.getD k default).X ≤ (c.getD (((k : Int) - 1).toNat) default).X))) (fun _ h => h) rfl rfl rfl (fun hg1 hg2 => q_move ((gv_pos hg1).trans (gv_pos hg2))) ?_
    refine DW.g3 (b1 := ((!(decide (0 ≤ (c.getD k default).X) && decide ((c.getD k default).X ≤ 1125899906842624))) || (!(decide (0 ≤ (c.getD k default).Y) && decide ((c.getD k default).Y ≤ 1125899906842624))))) (b2 := (decide ((0 : Int) < (k : Int)))) (b3 := (decide ((c.getD k default).X ≤ (c.getD (((k : Int) - 1).toNat) default).X))) (v := v1) (fun _ h => h) rfl rfl rfl (fun hg1 hg2 hg3 => q_move rfl) ?_
    refine DW.g3 (b1 := ((!(decide (0 ≤ (c.getD k default).X) && decide ((c.getD k default).X ≤ 1125899906842624))) || (!(decide (0 ≤ (c.getD k default).Y) && decide ((c.getD k default).Y ≤ 1125899906842624))))) (b2 := (decide ((0 : Int) < (k : Int)))) (b3 := (decide ((c.getD k default).X ≤ (c.getD (((k : Int) - 1).toNat) default).X))) (v := .int .i64 (k : Int)) (fun _ h => h) rfl rfl rfl (fun hg1 hg2 hg3 => q_move rfl) ?_
    refine DW.g3 (b1 := ((!(decide (0 ≤ (c.getD k default).X) && decide ((c.getD k default).X ≤ 1125899906842624))) || (!(decide (0 ≤ (c.getD k default).Y) && decide ((c.getD k default).Y ≤ 1125899906842624))))) (b2 := (decide ((0 : Int) < (k : Int)))) (b3 := (decide ((c.getD k default).X ≤ (c.getD (((k : Int) - 1).toNat) default).X))) (v := .pointer (some (Value.at v1 (k * 2)))) (fun _ h => h) rfl rfl rfl (fun hg1 hg2 hg3 => q_indexAddr ((gv_pos hg1).trans ((gv_pos hg2).trans (gv_pos hg3))) ((gv_pos hg1).trans ((gv_pos hg2).trans (gv_pos hg3))) h1.sl Try.underlying60 sz82 (by (try simp [-List.getD_eq_getElem?_getD] at hg1); (try simp [-List.getD_eq_getElem?_getD] at hg2); (try simp [-List.getD_eq_getElem?_getD] at hg3); omega) (by (try simp [-List.getD_eq_getElem?_getD] at hg1); (try simp [-List.getD_eq_getElem?_getD] at hg2); (try simp [-List.getD_eq_getElem?_getD] at hg3); omega) rfl) ?_
    refine DW.g3 (b1 := ((!(decide (0 ≤ (c.getD k default).X) && decide ((c.getD k default).X ≤ 1125899906842624))) || (!(decide (0 ≤ (c.getD k default).Y) && decide ((c.getD k default).Y ≤ 1125899906842624))))) (b2 := (decide ((0 : Int) < (k : Int)))) (b3 := (decide ((c.getD k default).X ≤ (c.getD (((k : Int) - 1).toNat) default).X))) (v := .pointer (some (Value.at v1 (k * 2 + 1)))) (fun _ h => h) rfl rfl rfl (fun hg1 hg2 hg3 => q_fieldAddr ((gv_pos hg1).trans ((gv_pos hg2).trans (gv_pos hg3))) Try.underlying82 rfl sz3 at_add) ?_
    refine DW.g3 (b1 := ((!(decide (0 ≤ (c.getD k default).X) && decide ((c.getD k default).X ≤ 1125899906842624))) || (!(decide (0 ≤ (c.getD k default).Y) && decide ((c.getD k default).Y ≤ 1125899906842624))))) (b2 := (decide ((0 : Int) < (k : Int)))) (b3 := (decide ((c.getD k default).X ≤ (c.getD (((k : Int) - 1).toNat) default).X))) (v := .int .i64 ((c.getD k default).Y)) (fun _ h => h) rfl rfl rfl (fun hg1 hg2 hg3 => q_load ((gv_pos hg1).trans ((gv_pos hg2).trans (gv_pos hg3))) Try.underlying3 rfl (Cell.repE (j := 1) h1 (by (try simp [-List.getD_eq_getElem?_getD] at hg1); (try simp [-List.getD_eq_getElem?_getD] at hg2); (try simp [-List.getD_eq_getElem?_getD] at hg3); omega) rfl)) ?_
    refine DW.g3 (b1 := ((!(decide (0 ≤ (c.getD k default).X) && decide ((c.getD k default).X ≤ 1125899906842624))) || (!(decide (0 ≤ (c.getD k default).Y) && decide ((c.getD k default).Y ≤ 1125899906842624))))) (b2 := (decide ((0 : Int) < (k : Int)))) (b3 := (decide ((c.getD k default).X ≤ (c.getD (((k : Int) - 1).toNat) default).X))) (v := v1) (fun _ h => h) rfl rfl rfl (fun hg1 hg2 hg3 => q_move rfl) ?_
    refine DW.g3 (b1 := ((!(decide (0 ≤ (c.getD k default).X) && decide ((c.getD k default).X ≤ 1125899906842624))) || (!(decide (0 ≤ (c.getD k default).Y) && decide ((c.getD k default).Y ≤ 1125899906842624))))) (b2 := (decide ((0 : Int) < (k : Int)))) (b3 := (decide ((c.getD k default).X ≤ (c.getD (((k : Int) - 1).toNat) default).X))) (v := .int .i64 (k : Int)) (fun _ h => h) rfl rfl rfl (fun hg1 hg2 hg3 => q_move rfl) ?_
    refine DW.g3 (b1 := ((!(decide (0 ≤ (c.getD k default).X) && decide ((c.getD k default).X ≤ 1125899906842624))) || (!(decide (0 ≤ (c.getD k default).Y) && decide ((c.getD k default).Y ≤ 1125899906842624))))) (b2 := (decide ((0 : Int) < (k : Int)))) (b3 := (decide ((c.getD k default).X ≤ (c.getD (((k : Int) - 1).toNat) default).X))) (v := .int .i64 ((k : Int) - 1)) (fun _ h => h) rfl rfl rfl (fun hg1 hg2 hg3 => q_sub ((gv_pos hg1).trans ((gv_pos hg2).trans (gv_pos hg3))) rfl (by (try simp [-List.getD_eq_getElem?_getD] at hg1); (try simp [-List.getD_eq_getElem?_getD] at hg2); (try simp [-List.getD_eq_getElem?_getD] at hg3); omega) (by (try simp [-List.getD_eq_getElem?_getD] at hg1); (try simp [-List.getD_eq_getElem?_getD] at hg2); (try simp [-List.getD_eq_getElem?_getD] at hg3); unfold I64; omega)) ?_
    refine DW.g3 (b1 := ((!(decide (0 ≤ (c.getD k default).X) && decide ((c.getD k default).X ≤ 1125899906842624))) || (!(decide (0 ≤ (c.getD k default).Y) && decide ((c.getD k default).Y ≤ 1125899906842624))))) (b2 := (decide ((0 : Int) < (k : Int)))) (b3 := (decide ((c.getD k default).X ≤ (c.getD (((k : Int) - 1).toNat) default).X))) (v := .pointer (some (Value.at v1 ((((k : Int) - 1).toNat) * 2)))) (fun _ h => h) rfl rfl rfl (fun hg1 hg2 hg3 => q_indexAddr ((gv_pos hg1).trans ((gv_pos hg2).trans (gv_pos hg3))) ((gv_pos hg1).trans ((gv_pos hg2).trans (gv_pos hg3))) h1.sl Try.underlying60 sz82 (by (try simp [-List.getD_eq_getElem?_getD] at hg1); (try simp [-List.getD_eq_getElem?_getD] at hg2); (try simp [-List.getD_eq_getElem?_getD] at hg3); omega) (by (try simp [-List.getD_eq_getElem?_getD] at hg1); (try simp [-List.getD_eq_getElem?_getD] at hg2); (try simp [-List.getD_eq_getElem?_getD] at hg3); omega) rfl) ?_
    refine DW.g3 (b1 := ((!(decide (0 ≤ (c.getD k default).X) && decide ((c.getD k default).X ≤ 1125899906842624))) || (!(decide (0 ≤ (c.getD k default).Y) && decide ((c.getD k default).Y ≤ 1125899906842624))))) (b2 := (decide ((0 : Int) < (k : Int)))) (b3 := (decide ((c.getD k default).X ≤ (c.getD (((k : Int) - 1).toNat) default).X))) (v := .pointer (some (Value.at v1 ((((k : Int) - 1).toNat) * 2 + 1)))) (fun _ h => h) rfl rfl rfl (fun hg1 hg2 hg3 => q_fieldAddr ((gv_pos hg1).trans ((gv_pos hg2).trans (gv_pos hg3))) Try.underlying82 rfl sz3 at_add) ?_
    refine DW.g3 (b1 := ((!(decide (0 ≤ (c.getD k default).X) && decide ((c.getD k default).X ≤ 1125899906842624))) || (!(decide (0 ≤ (c.getD k default).Y) && decide ((c.getD k default).Y ≤ 1125899906842624))))) (b2 := (decide ((0 : Int) < (k : Int)))) (b3 := (decide ((c.getD k default).X ≤ (c.getD (((k : Int) - 1).toNat) default).X))) (v := .int .i64 ((c.getD (((k : Int) - 1).toNat) default).Y)) (fun _ h => h) rfl rfl rfl (fun hg1 hg2 hg3 => q_load ((gv_pos hg1).trans ((gv_pos hg2).trans (gv_pos hg3))) Try.underlying3 rfl (Cell.repE (j := 1) h1 (by (try simp [-List.getD_eq_getElem?_getD] at hg1); (try simp [-List.getD_eq_getElem?_getD] at hg2); (try simp [-List.getD_eq_getElem?_getD] at hg3); omega) rfl)) ?_
    refine DW.g3 (b1 := ((!(decide (0 ≤ (c.getD k default).X) && decide ((c.getD k default).X ≤ 1125899906842624))) || (!(decide (0 ≤ (c.getD k default).Y) && decide ((c.getD k default).Y ≤ 1125899906842624))))) (b2 := (decide ((0 : Int) < (k : Int)))) (b3 := (decide ((c.getD k default).X ≤ (c.getD (((k : Int) - 1).toNat) default).X))) (v := .bool (decide ((c.getD k default).Y < (c.getD (((k : Int) - 1).toNat) default).Y))) (fun _ h => h) rfl rfl rfl (fun hg1 hg2 hg3 => q_lss ((gv_pos hg1).trans ((gv_pos hg2).trans (gv_pos hg3))) ((gv_pos hg1).trans ((gv_pos hg2).trans (gv_pos hg3)))) ?_
    refine DW.g2 (b1 := ((!(decide (0 ≤ (c.getD k default).X) && decide ((c.getD k default).X ≤ 1125899906842624))) || (!(decide (0 ≤ (c.getD k default).Y) && decide ((c.getD k default).Y ≤ 1125899906842624))))) (b2 := (decide ((0 : Int) < (k : Int)))) (v := .bool ((decide ((c.getD k default).X ≤ (c.getD (((k : Int) - 1).toNat) default).X)) || (decide ((c.getD k default).Y < (c.getD (((k : Int) - 1).toNat) default).Y)))) (fun _ h => h) rfl rfl rfl (fun hg1 hg2 => q_pick ((gv_pos hg1).trans (gv_pos hg2)) (fun hp => pkOrT hp) (fun hp => (gv_pos hg1).trans ((gv_pos hg2).trans ((gv_pos hp).trans (pkOrF hp))))) ?_
    refine DW.g (b := ((!(decide (0 ≤ (c.getD k default).X) && decide ((c.getD k default).X ≤ 1125899906842624))) || (!(decide (0 ≤ (c.getD k default).Y) && decide ((c.getD k default).Y ≤ 1125899906842624))))) (v := .bool ((decide ((0 : Int) < (k : Int))) && ((decide ((c.getD k default).X ≤ (c.getD (((k : Int) - 1).toNat) default).X)) || (decide ((c.getD k default).Y < (c.getD (((k : Int) - 1).toNat) default).Y))))) (fun _ h => h) rfl rfl rfl (fun h => q_pick (gv_pos h) (fun hp => (gv_pos h).trans ((gv_pos hp).trans (pkAndT hp))) (fun hp => pkAndF hp)) ?_
    refine DW.q (v := .bool (((!(decide (0 ≤ (c.getD k default).X) && decide ((c.getD k default).X ≤ 1125899906842624))) || (!(decide (0 ≤ (c.getD k default).Y) && decide ((c.getD k default).Y ≤ 1125899906842624)))) || ((decide ((0 : Int) < (k : Int))) && ((decide ((c.getD k default).X ≤ (c.getD (((k : Int) - 1).toNat) default).X)) || (decide ((c.getD k default).Y < (c.getD (((k : Int) - 1).toNat) default).Y)))))) (fun _ h => h) rfl (q_pick rfl (fun hp => pkOrT hp) (fun hp => (gv_pos hp).trans (pkOrF hp))) ?_
    refine DW.nil ?_
    refine Post.then_n ?_
    refine AW.cond (b := ((!(decide (0 ≤ (c.getD k default).X) && decide ((c.getD k default).X ≤ 1125899906842624))) || (!(decide (0 ≤ (c.getD k default).Y) && decide ((c.getD k default).Y ≤ 1125899906842624)))) || ((decide ((0 : Int) < (k : Int))) && ((decide ((c.getD k default).X ≤ (c.getD (((k : Int) - 1).toNat) default).X)) || (decide ((c.getD k default).Y < (c.getD (((k : Int) - 1).toNat) default).Y))))) rfl (fun hc2 => ?_) (fun hc2 => ?_)
    · simp [-List.getD_eq_getElem?_getD] at hc2
      refine AW.seq ?_
      refine AW.region ?_
      refine RW.q (v := .bool false) rfl (q_assign rfl) ?_
      refine RW.nil ?_
      refine Post.then_n ?_
      refine AW.ret ?_
      refine Post.blk_r (Post.then_r (Post.then_r (Post.blk_r (Post.then_r ?_))))
      exact fin_val (v' := .bool false) rfl rfl rfl (by rw [decide_eq_false (fun hr => by have hp := hr.2 k (by omega); unfold Fu.PtOk Fu.px Fu.py at hp; have h3 := hp.2.2; omega)])
    · simp [-List.getD_eq_getElem?_getD] at hc2
      refine AW.skip ?_
      refine Post.blk_n (Post.then_n ?_)
      refine AW.region ?_
      refine RW.q (v := .int .i64 (k : Int)) rfl (q_move rfl) ?_
      refine RW.q (v := .int .i64 ((k + 1 : Nat) : Int)) rfl (q_add rfl rfl (by omega) (by unfold I64; omega)) ?_
      refine RW.q (v := .int .i64 ((k + 1 : Nat) : Int)) rfl (q_assign rfl) ?_
      refine RW.nil ?_
      exact Post.back (s' := _) (J' := _) (m' := _) (by omega) ⟨k + 1, rfl, rfl, rfl, (by omega), (Fu.lt_succ hall (by unfold Fu.PtOk Fu.px Fu.py; refine ⟨by omega, by omega, fun h0 => ?_⟩; first | exact hc4 h0 | omega))⟩ ⟨rfl, rfl, trivial⟩ (fun _ h => h)
  · simp [-List.getD_eq_getElem?_getD] at hc1
    refine AW.exit ?_
    refine Post.then_x (Post.then_x (Post.blk_hit (Post.then_n ?_)))
    refine AW.seq ?_
    refine AW.region ?_
    refine RW.q (v := v1) rfl (q_move rfl) ?_
    refine RW.q (v := .int .i64 ((c.length : Nat) : Int)) rfl (q_len_sl rfl h1.sl Try.underlying60) ?_
    refine RW.q (v := .bool (decide ((1 : Int) ≤ ((c.length : Nat) : Int)))) rfl (q_geq rfl rfl) ?_
    refine RW.q (v := .bool (decide ((1 : Int) ≤ ((c.length : Nat) : Int)))) rfl (q_move rfl) ?_
    refine RW.g (b := (decide ((1 : Int) ≤ ((c.length : Nat) : Int)))) (v := v1) rfl rfl rfl (fun h => q_move rfl) ?_
    refine RW.g (b := (decide ((1 : Int) ≤ ((c.length : Nat) : Int)))) (v := .int .i64 ((c.length : Nat) : Int)) rfl rfl rfl (fun h => q_len_sl (gv_pos h) h1.sl Try.underlying60) ?_
    refine RW.g (b := (decide ((1 : Int) ≤ ((c.length : Nat) : Int)))) (v := .bool (decide (((c.length : Nat) : Int) ≤ 32))) rfl rfl rfl (fun h => q_leq (gv_pos h) rfl) ?_
    refine RW.q (v := .bool ((decide ((1 : Int) ≤ ((c.length : Nat) : Int))) && (decide (((c.length : Nat) : Int) ≤ 32)))) rfl (q_pick rfl (fun hp => (gv_pos hp).trans (pkAndT hp)) (fun hp => pkAndF hp)) ?_
    refine RW.q (v := .bool ((decide ((1 : Int) ≤ ((c.length : Nat) : Int))) && (decide (((c.length : Nat) : Int) ≤ 32)))) rfl (q_assign rfl) ?_
    refine RW.nil ?_
    refine Post.then_n ?_
    refine AW.ret ?_
    exact fin_val (v' := .bool ((decide ((1 : Int) ≤ ((c.length : Nat) : Int))) && (decide (((c.length : Nat) : Int) ≤ 32)))) rfl rfl rfl (by congr 1; simp only [← Bool.decide_and, decide_eq_decide]; exact ⟨fun h => ⟨by omega, fun j hj => hall j (by omega)⟩, fun h => by have := h.1; omega⟩)

set_option maxRecDepth 8000 in
set_option maxHeartbeats 1000000 in
theorem Same1_c (w : World) (Φ : Hp) (hΦ : Hp.le Φ (hp w)) {xs ys : List Int} {v1 v2 : Value} (h1 : RepSl Φ xs v1) (h2 : RepSl Φ ys v2) :
    Calls Try.prog 15 #[v1, v2] w fun e w' => e = .returned (.bool (decide (xs = ys))) ∧ Below w.heap.size w w' := by
  refine calls_of_AW (args := [v1, v2]) Try.func15 rfl (Nat.le_of_ble_eq_true rfl) (St ⟨w, Φ, []⟩ Φ []) (StP.init w Φ hΦ []) ?_
  show AW Try.prog 26 [] _ _ _ [(0, v1), (1, v2)] _
  have hm1 : xs.length * 8 ≤ 140737488355328 := h1.max
  have hm2 : ys.length * 8 ≤ 140737488355328 := h2.max
  refine AW.seq ?_
  refine AW.region ?_
  refine RW.q (v := .bool false) rfl (q_assign rfl) ?_
  refine RW.nil ?_
  refine Post.then_n ?_
  refine AW.seq ?_
  refine AW.seq ?_
  refine AW.region ?_
  refine RW.q (v := v1) rfl (q_move rfl) ?_
  refine RW.q (v := .int .i64 ((xs.length : Nat) : Int)) rfl (q_len_sl rfl h1.sl Try.underlying29) ?_
  refine RW.q (v := v2) rfl (q_move rfl) ?_
  refine RW.q (v := .int .i64 ((ys.length : Nat) : Int)) rfl (q_len_sl rfl h2.sl Try.underlying29) ?_
  refine RW.q (v := .bool (!decide (((xs.length : Nat) : Int) = ((ys.length : Nat) : Int)))) rfl (q_neq rfl rfl) ?_
  refine RW.nil ?_
  refine Post.then_n ?_
  refine AW.cond (b := !decide (((xs.length : Nat) : Int) = ((ys.length : Nat) : Int))) rfl (fun hc1 => ?_) (fun hc1 => ?_)
  · simp [-List.getD_eq_getElem?_getD] at hc1
    refine AW.seq ?_
    refine AW.region ?_
    refine RW.q (v := .bool false) rfl (q_assign rfl) ?_
    refine RW.nil ?_
    refine Post.then_n ?_
    refine AW.ret ?_
    refine Post.then_r ?_
    exact fin_val (v' := .bool false) rfl rfl rfl (by rw [decide_eq_false (fun e => hc1 (by rw [e]))])
  · simp [-List.getD_eq_getElem?_getD] at hc1
    refine AW.skip ?_
    refine Post.then_n ?_
    refine AW.seq ?_
    refine AW.seq ?_
    refine AW.region ?_
    refine RW.q (v := .int .i64 0) rfl (q_assign rfl) ?_
    refine RW.nil ?_
    refine Post.then_n ?_
    refine AW.block ?_
    refine AW.loop (fun s J m => ∃ (k : Nat), s = [(0, v1), (1, v2), (5, .int .i64 (k : Int))] ∧ J = St ⟨w, Φ, []⟩ Φ [] ∧ m = xs.length - k ∧ (k ≤ xs.length) ∧ (∀ j, j < k → xs.getD j 0 = ys.getD j 0)) (s0 := _) (J1 := _) (m0 := _) ⟨0, rfl, rfl, rfl, (by omega), (by omega)⟩ ⟨rfl, rfl, rfl, trivial⟩ (fun _ h => h) ?_
    rintro _ _ _ _ ⟨k, rfl, rfl, rfl, hk, heq⟩
    refine AW.seq ?_
    refine AW.seq ?_
    refine AW.region ?_
    refine RW.q (v := .int .i64 (k : Int)) rfl (q_move rfl) ?_
    refine RW.q (v := v1) rfl (q_move rfl) ?_
    refine RW.q (v := .int .i64 ((xs.length : Nat) : Int)) rfl (q_len_sl rfl h1.sl Try.underlying29) ?_
    refine RW.q (v := .bool (decide ((k : Int) < ((xs.length : Nat) : Int)))) rfl (q_lss rfl rfl) ?_
    refine RW.nil ?_
    refine Post.then_n ?_
    refine AW.cond (b := decide ((k : Int) < ((xs.length : Nat) : Int))) rfl (fun hc2 => ?_) (fun hc2 => ?_)
    · simp [-List.getD_eq_getElem?_getD] at hc2
      refine AW.skip ?_
      refine Post.then_n ?_
      refine AW.seq ?_
      refine AW.block ?_
      refine AW.seq ?_
      refine AW.draw (J0 := St ⟨w, Φ, []⟩ Φ []) [.q, .q, .q, .q, .q, .q, .q, .q, .q] [0, 1, 2, 3, 4, 5, 6, 7, 8] hmix (by kernel_rfl) ?_
      refine DW.q (v := v1) (fun _ h => h) rfl (q_move rfl) ?_
      refine DW.q (v := .int .i64 (k : Int)) (fun _ h => h) rfl (q_move rfl) ?_
      refine DW.q (v := .pointer (some (Value.at v1 (k * 1)))) (fun _ h => h) rfl (q_indexAddr rfl rfl h1.sl Try.underlying29 sz3 (by omega) (by omega) rfl) ?_
      refine DW.q (v := .int .i64 (xs.getD k 0)) (fun _ h => h) rfl (q_load rfl Try.underlying3 rfl (Cell.repInt h1 (by omega))) ?_
      refine DW.q (v := v2) (fun _ h => h) rfl (q_move rfl) ?_
      refine DW.q (v := .int .i64 (k : Int)) (fun _ h => h) rfl (q_move rfl) ?_
      refine DW.q (v := .pointer (some (Value.at v2 (k * 1)))) (fun _ h => h) rfl (q_indexAddr rfl rfl h2.sl Try.underlying29 sz3 (by omega) (by omega) rfl) ?_
      refine DW.q (v := .int .i64 (ys.getD k 0)) (fun _ h => h) rfl (q_load rfl Try.underlying3 rfl (Cell.repInt h2 (by omega))) ?_
      refine DW.q (v := .bool (!decide (xs.getD k 0 = ys.getD k 0))) (fun _ h => h) rfl (q_neq rfl rfl) ?_
      refine DW.nil ?_
      refine Post.then_n ?_
      refine AW.cond (b := !decide (xs.getD k 0 = ys.getD k 0)) rfl (fun hc3 => ?_) (fun hc3 => ?_)
      · simp [-List.getD_eq_getElem?_getD] at hc3
        refine AW.seq ?_
        refine AW.region ?_
        refine RW.q (v := .bool false) rfl (q_assign rfl) ?_
        refine RW.nil ?_
        refine Post.then_n ?_
        refine AW.ret ?_
        refine Post.blk_r (Post.then_r (Post.then_r (Post.blk_r (Post.then_r ?_))))
        exact fin_val (v' := .bool false) rfl rfl rfl (by rw [decide_eq_false (fun e => hc3 (by rw [e]))])
      · simp [-List.getD_eq_getElem?_getD] at hc3
        refine AW.skip ?_
        refine Post.blk_n (Post.then_n ?_)
        refine AW.region ?_
        refine RW.q (v := .int .i64 (k : Int)) rfl (q_move rfl) ?_
        refine RW.q (v := .int .i64 ((k + 1 : Nat) : Int)) rfl (q_add rfl rfl (by omega) (by unfold I64; omega)) ?_
        refine RW.q (v := .int .i64 ((k + 1 : Nat) : Int)) rfl (q_assign rfl) ?_
        refine RW.nil ?_
        exact Post.back (s' := _) (J' := _) (m' := _) (by omega) ⟨k + 1, rfl, rfl, rfl, (by omega), (Fu.lt_succ heq hc3)⟩ ⟨rfl, rfl, rfl, trivial⟩ (fun _ h => h)
    · simp [-List.getD_eq_getElem?_getD] at hc2
      refine AW.exit ?_
      refine Post.then_x (Post.then_x (Post.blk_hit (Post.then_n ?_)))
      refine AW.seq ?_
      refine AW.region ?_
      refine RW.q (v := .bool true) rfl (q_assign rfl) ?_
      refine RW.nil ?_
      refine Post.then_n ?_
      refine AW.ret ?_
      exact fin_val (v' := .bool true) rfl rfl rfl (by rw [decide_eq_true (Fu.getD_ext 0 (by omega) (fun j hj => heq j (by omega)))])

set_option maxRecDepth 8000 in
set_option maxHeartbeats 1000000 in
theorem SameAll_c (w : World) (Φ : Hp) (hΦ : Hp.le Φ (hp w)) {xs ys : List Bt.Span} {v1 v2 : Value} (h1 : RepSl Φ xs v1) (h2 : RepSl Φ ys v2) :
    Calls Try.prog 18 #[v1, v2] w fun e w' => e = .returned (.bool (decide (xs = ys))) ∧ Below w.heap.size w w' := by
  refine calls_of_AW (args := [v1, v2]) Try.func18 rfl (Nat.le_of_ble_eq_true rfl) (St ⟨w, Φ, []⟩ Φ []) (StP.init w Φ hΦ []) ?_
  show AW Try.prog 26 [] _ _ _ [(0, v1), (1, v2)] _
  have hm1 : xs.length * 16 ≤ 140737488355328 := h1.max
  have hm2 : ys.length * 16 ≤ 140737488355328 := h2.max
  refine AW.seq ?_
  refine AW.region ?_
  refine RW.q (v := .bool false) rfl (q_assign rfl) ?_
  refine RW.nil ?_
  refine Post.then_n ?_
  refine AW.seq ?_
  refine AW.seq ?_
  refine AW.region ?_
  refine RW.q (v := v1) rfl (q_move rfl) ?_
  refine RW.q (v := .int .i64 ((xs.length : Nat) : Int)) rfl (q_len_sl rfl h1.sl Try.underlying32) ?_
  refine RW.q (v := v2) rfl (q_move rfl) ?_
  refine RW.q (v := .int .i64 ((ys.length : Nat) : Int)) rfl (q_len_sl rfl h2.sl Try.underlying32) ?_
  refine RW.q (v := .bool (!decide (((xs.length : Nat) : Int) = ((ys.length : Nat) : Int)))) rfl (q_neq rfl rfl) ?_
  refine RW.nil ?_
  refine Post.then_n ?_
  refine AW.cond (b := !decide (((xs.length : Nat) : Int) = ((ys.length : Nat) : Int))) rfl (fun hc1 => ?_) (fun hc1 => ?_)
  · simp [-List.getD_eq_getElem?_getD] at hc1
    refine AW.seq ?_
    refine AW.region ?_
    refine RW.q (v := .bool false) rfl (q_assign rfl) ?_
    refine RW.nil ?_
    refine Post.then_n ?_
    refine AW.ret ?_
    refine Post.then_r ?_
    exact fin_val (v' := .bool false) rfl rfl rfl (by rw [decide_eq_false (fun e => hc1 (by rw [e]))])
  · simp [-List.getD_eq_getElem?_getD] at hc1
    refine AW.skip ?_
    refine Post.then_n ?_
    refine AW.seq ?_
    refine AW.seq ?_
    refine AW.region ?_
    refine RW.q (v := .int .i64 0) rfl (q_assign rfl) ?_
    refine RW.nil ?_
    refine Post.then_n ?_
    refine AW.block ?_
    refine AW.loop (fun s J m => ∃ (k : Nat), s = [(0, v1), (1, v2), (5, .int .i64 (k : Int))] ∧ J = St ⟨w, Φ, []⟩ Φ [] ∧ m = xs.length - k ∧ (k ≤ xs.length) ∧ (∀ j, j < k → xs.getD j default = ys.getD j default)) (s0 := _) (J1 := _) (m0 := _) ⟨0, rfl, rfl, rfl, (by omega), (by omega)⟩ ⟨rfl, rfl, rfl, trivial⟩ (fun _ h => h) ?_
    rintro _ _ _ _ ⟨k, rfl, rfl, rfl, hk, heq⟩
    refine AW.seq ?_
    refine AW.seq ?_
    refine AW.region ?_
    refine RW.q (v := .int .i64 (k : Int)) rfl (q_move rfl) ?_
    refine RW.q (v := v1) rfl (q_move rfl) ?_
    refine RW.q (v := .int .i64 ((xs.length : Nat) : Int)) rfl (q_len_sl rfl h1.sl Try.underlying32) ?_
    refine RW.q (v := .bool (decide ((k : Int) < ((xs.length : Nat) : Int)))) rfl (q_lss rfl rfl) ?_
    refine RW.nil ?_
    refine Post.then_n ?_
    refine AW.cond (b := decide ((k : Int) < ((xs.length : Nat) : Int))) rfl (fun hc2 => ?_) (fun hc2 => ?_)
    · simp [-List.getD_eq_getElem?_getD] at hc2
      refine AW.skip ?_
      refine Post.then_n ?_
      refine AW.seq ?_
      refine AW.block ?_
      refine AW.seq ?_
      refine AW.draw (J0 := St ⟨w, Φ, []⟩ Φ []) [.q, .q, .q, .q, .q, .q, .q, .q, .q] [0, 1, 2, 3, 4, 5, 6, 7, 8] hmix (by kernel_rfl) ?_
      refine DW.q (v := v1) (fun _ h => h) rfl (q_move rfl) ?_
      refine DW.q (v := .int .i64 (k : Int)) (fun _ h => h) rfl (q_move rfl) ?_
      refine DW.q (v := .pointer (some (Value.at v1 (k * 2)))) (fun _ h => h) rfl (q_indexAddr rfl rfl h1.sl Try.underlying32 sz42 (by omega) (by omega) rfl) ?_
      refine DW.q (v := .agg #[.int .i64 ((xs.getD k default).Lo), .int .i64 ((xs.getD k default).Hi)]) (fun _ h => h) rfl (q_loadAgg rfl Try.underlying42 rfl sz42 rfl (Cells.repE h1 (by omega) rfl)) ?_
      refine DW.q (v := v2) (fun _ h => h) rfl (q_move rfl) ?_
      refine DW.q (v := .int .i64 (k : Int)) (fun _ h => h) rfl (q_move rfl) ?_
      refine DW.q (v := .pointer (some (Value.at v2 (k * 2)))) (fun _ h => h) rfl (q_indexAddr rfl rfl h2.sl Try.underlying32 sz42 (by omega) (by omega) rfl) ?_
      refine DW.q (v := .agg #[.int .i64 ((ys.getD k default).Lo), .int .i64 ((ys.getD k default).Hi)]) (fun _ h => h) rfl (q_loadAgg rfl Try.underlying42 rfl sz42 rfl (Cells.repE h2 (by omega) rfl)) ?_
      refine DW.q (v := .bool (!(decide ((xs.getD k default).Lo = (ys.getD k default).Lo) && decide ((xs.getD k default).Hi = (ys.getD k default).Hi)))) (fun _ h => h) rfl (q_neqS rfl rfl (eqS42 _ _ _ _) eqG42) ?_
      refine DW.nil ?_
      refine Post.then_n ?_
      refine AW.cond (b := !(decide ((xs.getD k default).Lo = (ys.getD k default).Lo) && decide ((xs.getD k default).Hi = (ys.getD k default).Hi))) rfl (fun hc3 => ?_) (fun hc3 => ?_)
      · simp [-List.getD_eq_getElem?_getD] at hc3
        refine AW.seq ?_
        refine AW.region ?_
        refine RW.q (v := .bool false) rfl (q_assign rfl) ?_
        refine RW.nil ?_
        refine Post.then_n ?_
        refine AW.ret ?_
        refine Post.blk_r (Post.then_r (Post.then_r (Post.blk_r (Post.then_r ?_))))
        exact fin_val (v' := .bool false) rfl rfl rfl (by rw [decide_eq_false (fun e => by simp [e] at hc3)])
      · simp [-List.getD_eq_getElem?_getD] at hc3
        refine AW.skip ?_
        refine Post.blk_n (Post.then_n ?_)
        refine AW.region ?_
        refine RW.q (v := .int .i64 (k : Int)) rfl (q_move rfl) ?_
        refine RW.q (v := .int .i64 ((k + 1 : Nat) : Int)) rfl (q_add rfl rfl (by omega) (by unfold I64; omega)) ?_
        refine RW.q (v := .int .i64 ((k + 1 : Nat) : Int)) rfl (q_assign rfl) ?_
        refine RW.nil ?_
        exact Post.back (s' := _) (J' := _) (m' := _) (by omega) ⟨k + 1, rfl, rfl, rfl, (by omega), (Fu.lt_succ heq (Fu.span_ext (by simpa using hc3)))⟩ ⟨rfl, rfl, rfl, trivial⟩ (fun _ h => h)
    · simp [-List.getD_eq_getElem?_getD] at hc2
      refine AW.exit ?_
      refine Post.then_x (Post.then_x (Post.blk_hit (Post.then_n ?_)))
      refine AW.seq ?_
      refine AW.region ?_
      refine RW.q (v := .bool true) rfl (q_assign rfl) ?_
      refine RW.nil ?_
      refine Post.then_n ?_
      refine AW.ret ?_
      exact fin_val (v' := .bool true) rfl rfl rfl (by rw [decide_eq_true (Fu.getD_ext default (by omega) (fun j hj => heq j (by omega)))])

set_option maxRecDepth 8000 in
set_option maxHeartbeats 1000000 in
theorem has_c (w : World) (Φ : Hp) (hΦ : Hp.le Φ (hp w)) {xs : List Int} {v1 : Value} {v : Int} (h1 : RepSl Φ xs v1) :
    Calls Try.prog 50 #[v1, .int .i64 v] w fun e w' => e = .returned (.bool (decide (v ∈ xs))) ∧ Below w.heap.size w w' := by
  refine calls_of_AW (args := [v1, .int .i64 v]) Try.func50 rfl (Nat.le_of_ble_eq_true rfl) (St ⟨w, Φ, []⟩ Φ []) (StP.init w Φ hΦ []) ?_
  show AW Try.prog 18 [] _ _ _ [(0, v1), (1, .int .i64 v)] _
  have hm1 : xs.length * 8 ≤ 140737488355328 := h1.max
  refine AW.seq ?_
  refine AW.region ?_
  refine RW.q (v := .bool false) rfl (q_assign rfl) ?_
  refine RW.nil ?_
  refine Post.then_n ?_
  refine AW.seq ?_
  refine AW.seq ?_
  refine AW.region ?_
  refine RW.q (v := .int .i64 0) rfl (q_assign rfl) ?_
  refine RW.nil ?_
  refine Post.then_n ?_
  refine AW.block ?_
  refine AW.loop (fun s J m => ∃ (k : Nat), s = [(0, v1), (1, .int .i64 v), (5, .int .i64 (k : Int))] ∧ J = St ⟨w, Φ, []⟩ Φ [] ∧ m = xs.length - k ∧ (k ≤ xs.length) ∧ (∀ j, j < k → xs.getD j 0 ≠ v)) (s0 := _) (J1 := _) (m0 := _) ⟨0, rfl, rfl, rfl, (by omega), (by omega)⟩ ⟨rfl, rfl, rfl, trivial⟩ (fun _ h => h) ?_
  rintro _ _ _ _ ⟨k, rfl, rfl, rfl, hk, heq⟩
  refine AW.seq ?_
  refine AW.seq ?_
  refine AW.region ?_
  refine RW.q (v := .int .i64 (k : Int)) rfl (q_move rfl) ?_
  refine RW.q (v := v1) rfl (q_move rfl) ?_
  refine RW.q (v := .int .i64 ((xs.length : Nat) : Int)) rfl (q_len_sl rfl h1.sl Try.underlying29) ?_
  refine RW.q (v := .bool (decide ((k : Int) < ((xs.length : Nat) : Int)))) rfl (q_lss rfl rfl) ?_
  refine RW.nil ?_
  refine Post.then_n ?_
  refine AW.cond (b := decide ((k : Int) < ((xs.length : Nat) : Int))) rfl (fun hc1 => ?_) (fun hc1 => ?_)
  · simp [-List.getD_eq_getElem?_getD] at hc1
    refine AW.skip ?_
    refine Post.then_n ?_
    refine AW.seq ?_
    refine AW.block ?_
    refine AW.seq ?_
    refine AW.region ?_
    refine RW.q (v := v1) rfl (q_move rfl) ?_
    refine RW.q (v := .int .i64 (k : Int)) rfl (q_move rfl) ?_
    refine RW.q (v := .pointer (some (Value.at v1 (k * 1)))) rfl (q_indexAddr rfl rfl h1.sl Try.underlying29 sz3 (by omega) (by omega) rfl) ?_
    refine RW.q (v := .int .i64 (xs.getD k 0)) rfl (q_load rfl Try.underlying3 rfl (Cell.repInt h1 (by omega))) ?_
    refine RW.q (v := .int .i64 v) rfl (q_move rfl) ?_
    refine RW.q (v := .bool (decide (xs.getD k 0 = v))) rfl (q_eql rfl rfl) ?_
    refine RW.nil ?_
    refine Post.then_n ?_
    refine AW.cond (b := decide (xs.getD k 0 = v)) rfl (fun hc2 => ?_) (fun hc2 => ?_)
    · simp [-List.getD_eq_getElem?_getD] at hc2
      refine AW.seq ?_
      refine AW.region ?_
      refine RW.q (v := .bool true) rfl (q_assign rfl) ?_
      refine RW.nil ?_
      refine Post.then_n ?_
      refine AW.ret ?_
      refine Post.blk_r (Post.then_r (Post.then_r (Post.blk_r (Post.then_r ?_))))
      exact fin_val (v' := .bool true) rfl rfl rfl (by rw [decide_eq_true (Fu.mem_t (by omega) hc2)])
    · simp [-List.getD_eq_getElem?_getD] at hc2
      refine AW.skip ?_
      refine Post.blk_n (Post.then_n ?_)
      refine AW.region ?_
      refine RW.q (v := .int .i64 (k : Int)) rfl (q_move rfl) ?_
      refine RW.q (v := .int .i64 ((k + 1 : Nat) : Int)) rfl (q_add rfl rfl (by omega) (by unfold I64; omega)) ?_
      refine RW.q (v := .int .i64 ((k + 1 : Nat) : Int)) rfl (q_assign rfl) ?_
      refine RW.nil ?_
      exact Post.back (s' := _) (J' := _) (m' := _) (by omega) ⟨k + 1, rfl, rfl, rfl, (by omega), (Fu.lt_succ heq (by omega))⟩ ⟨rfl, rfl, rfl, trivial⟩ (fun _ h => h)
  · simp [-List.getD_eq_getElem?_getD] at hc1
    refine AW.exit ?_
    refine Post.then_x (Post.then_x (Post.blk_hit (Post.then_n ?_)))
    refine AW.seq ?_
    refine AW.region ?_
    refine RW.q (v := .bool false) rfl (q_assign rfl) ?_
    refine RW.nil ?_
    refine Post.then_n ?_
    refine AW.ret ?_
    exact fin_val (v' := .bool false) rfl rfl rfl (by rw [decide_eq_false (Fu.mem_f (fun j hj => heq j (by omega)))])

set_option maxRecDepth 8000 in
set_option maxHeartbeats 1000000 in
theorem Index_c (w : World) (Φ : Hp) (hΦ : Hp.le Φ (hp w)) {xs : List Int} {v1 : Value} {v : Int} (h1 : RepSl Φ xs v1) :
    Calls Try.prog 77 #[v1, .int .i64 v] w fun e w' => e = .returned (.int .i64 (Fu.idx xs v)) ∧ Below w.heap.size w w' := by
  refine calls_of_AW (args := [v1, .int .i64 v]) Try.func77 rfl (Nat.le_of_ble_eq_true rfl) (St ⟨w, Φ, []⟩ Φ []) (StP.init w Φ hΦ []) ?_
  show AW Try.prog 19 [] _ _ _ [(0, v1), (1, .int .i64 v)] _
  have hm1 : xs.length * 8 ≤ 140737488355328 := h1.max
  refine AW.seq ?_
  refine AW.region ?_
  refine RW.q (v := .int .i64 0) rfl (q_assign rfl) ?_
  refine RW.nil ?_
  refine Post.then_n ?_
  refine AW.seq ?_
  refine AW.seq ?_
  refine AW.region ?_
  refine RW.q (v := v1) rfl (q_move rfl) ?_
  refine RW.q (v := .int .i64 ((xs.length : Nat) : Int)) rfl (q_len_sl rfl h1.sl Try.underlying29) ?_
  refine RW.q (v := .int .i64 0) rfl (q_move rfl) ?_
  refine RW.nil ?_
  refine Post.then_n ?_
  refine AW.block ?_
  refine AW.loop (fun s J m => ∃ (k : Nat), s = [(0, v1), (1, .int .i64 v), (7, .int .i64 ((xs.length : Nat) : Int)), (8, .int .i64 (k : Int))] ∧ J = St ⟨w, Φ, []⟩ Φ [] ∧ m = xs.length - k ∧ (k ≤ xs.length) ∧ (∀ j, j < k → xs.getD j 0 ≠ v)) (s0 := _) (J1 := _) (m0 := _) ⟨0, rfl, rfl, rfl, (by omega), (by omega)⟩ ⟨rfl, rfl, rfl, rfl, trivial⟩ (fun _ h => h) ?_
  rintro _ _ _ _ ⟨k, rfl, rfl, rfl, hk, heq⟩
  refine AW.seq ?_
  refine AW.region ?_
  refine RW.q (v := .bool (decide ((k : Int) < ((xs.length : Nat) : Int)))) rfl (q_lss rfl rfl) ?_
  refine RW.nil ?_
  refine Post.then_n ?_
  refine AW.seq ?_
  refine AW.cond (b := decide ((k : Int) < ((xs.length : Nat) : Int))) rfl (fun hc1 => ?_) (fun hc1 => ?_)
  · simp [-List.getD_eq_getElem?_getD] at hc1
    refine AW.skip ?_
    refine Post.then_n ?_
    refine AW.seq ?_
    refine AW.block ?_
    refine AW.seq ?_
    refine AW.region ?_
    refine RW.q (v := .int .i64 (k : Int)) rfl (q_move rfl) ?_
    refine RW.q (v := .int .i64 (k : Int)) rfl (q_assign rfl) ?_
    refine RW.nil ?_
    refine Post.then_n ?_
    refine AW.seq ?_
    refine AW.region ?_
    refine RW.q (v := .int .i64 v) rfl (q_move rfl) ?_
    refine RW.q (v := v1) rfl (q_move rfl) ?_
    refine RW.q (v := .int .i64 (k : Int)) rfl (q_move rfl) ?_
    refine RW.q (v := .pointer (some (Value.at v1 (k * 1)))) rfl (q_indexAddr rfl rfl h1.sl Try.underlying29 sz3 (by omega) (by omega) rfl) ?_
    refine RW.q (v := .int .i64 (xs.getD k 0)) rfl (q_load rfl Try.underlying3 rfl (Cell.repInt h1 (by omega))) ?_
    refine RW.q (v := .bool (decide (v = xs.getD k 0))) rfl (q_eql rfl rfl) ?_
    refine RW.nil ?_
    refine Post.then_n ?_
    refine AW.cond (b := decide (v = xs.getD k 0)) rfl (fun hc2 => ?_) (fun hc2 => ?_)
    · simp [-List.getD_eq_getElem?_getD] at hc2
      refine AW.seq ?_
      refine AW.region ?_
      refine RW.q (v := .int .i64 (k : Int)) rfl (q_move rfl) ?_
      refine RW.q (v := .int .i64 (k : Int)) rfl (q_assign rfl) ?_
      refine RW.nil ?_
      refine Post.then_n ?_
      refine AW.ret ?_
      refine Post.blk_r (Post.then_r (Post.then_r (Post.blk_r (Post.then_r ?_))))
      exact fin_val (v' := .int .i64 (k : Int)) rfl rfl rfl (by rw [Fu.idx_hit (by omega) heq (by omega)])
    · simp [-List.getD_eq_getElem?_getD] at hc2
      refine AW.skip ?_
      refine Post.blk_n (Post.then_n ?_)
      refine AW.region ?_
      refine RW.q (v := .int .i64 ((k + 1 : Nat) : Int)) rfl (q_add rfl rfl (by omega) (by unfold I64; omega)) ?_
      refine RW.q (v := .int .i64 ((k + 1 : Nat) : Int)) rfl (q_move rfl) ?_
      refine RW.nil ?_
      exact Post.back (s' := _) (J' := _) (m' := _) (by omega) ⟨k + 1, rfl, rfl, rfl, (by omega), (Fu.lt_succ heq (by omega))⟩ ⟨rfl, rfl, rfl, rfl, trivial⟩ (fun _ h => h)
  · simp [-List.getD_eq_getElem?_getD] at hc1
    refine AW.exit ?_
    refine Post.then_x (Post.then_x (Post.blk_hit (Post.then_n ?_)))
    refine AW.seq ?_
    refine AW.region ?_
    refine RW.q (v := .int .i64 (-1)) rfl (q_assign rfl) ?_
    refine RW.nil ?_
    refine Post.then_n ?_
    refine AW.ret ?_
    exact fin_val (v' := .int .i64 (-1)) rfl rfl rfl (by rw [Fu.idx_miss (fun j hj => heq j (by omega))])

set_option maxRecDepth 8000 in
set_option maxHeartbeats 1000000 in
theorem Contains_c (w : World) (Φ : Hp) (hΦ : Hp.le Φ (hp w)) {xs : List Int} {v1 : Value} {v : Int} (h1 : RepSl Φ xs v1) :
    Calls Try.prog 49 #[v1, .int .i64 v] w fun e w' => e = .returned (.bool (decide (v ∈ xs))) ∧ Below w.heap.size w w' := by
  refine calls_of_AW (args := [v1, .int .i64 v]) Try.func49 rfl (Nat.le_of_ble_eq_true rfl) (St ⟨w, Φ, []⟩ Φ []) (StP.init w Φ hΦ []) ?_
  show AW Try.prog 9 [] _ _ _ [(0, v1), (1, .int .i64 v)] _
  refine AW.seq ?_
  refine AW.region ?_
  refine RW.q (v := .bool false) rfl (q_assign rfl) ?_
  refine RW.nil ?_
  refine Post.then_n ?_
  refine AW.seq ?_
  refine AW.region ?_
  refine RW.q (v := v1) rfl (q_move rfl) ?_
  refine RW.q (v := .int .i64 v) rfl (q_move rfl) ?_
  refine RW.q (v := .int .i64 (Fu.idx xs v)) rfl (q_call (args := #[v1, .int .i64 v]) own77 rfl rfl (fun w1 hw1 => Index_c w1 (Go.K.hp w1) (Hp.le_refl _) (h1.mono hw1.phi))) ?_
  refine RW.q (v := .bool (decide ((0 : Int) ≤ Fu.idx xs v))) rfl (q_geq rfl rfl) ?_
  refine RW.q (v := .bool (decide ((0 : Int) ≤ Fu.idx xs v))) rfl (q_assign rfl) ?_
  refine RW.nil ?_
  refine Post.then_n ?_
  refine AW.ret ?_
  exact fin_val (v' := .bool (decide ((0 : Int) ≤ Fu.idx xs v))) rfl rfl rfl (by rw [Fu.idx_mem])

end Go.Proofs.Ytblfeidlnhdekaa
