/- Walks (part WalkA), printed by walk2.py. Conditions: those of each theorem. -/
import Derived.Test.YtblfeidlnhdekaaXLibA
import Derived.Test.YtblfeidlnhdekaaXPlain
import Derived.Test.YtblfeidlnhdekaaXCore6
namespace Go.Proofs.Ytblfeidlnhdekaa
open Go Go.K Go.RowKit
set_option maxRecDepth 8000
set_option maxHeartbeats 1000000
attribute [local irreducible] AW RW DW Post Qt
theorem eqF42 (a0 a1 b0 b1 : Int) (n : Nat) (w : World) : (Op.eqFields (n + 1) #[iV a0, iV a1] #[iV b0, iV b1] (Try.prog.fieldsOf 42).toList).run Try.prog w = .ok (decide (a0 = b0) && decide (a1 = b1)) w := by
 unfold Program.fieldsOf
 rw [uT42]
 have hp3 : ∀ {cs : Array Value} {o : Nat} {v : Value} (h : cs[o]? = some v) (w : World), (part 3 cs o).run Try.prog w = .ok v w := fun h w => run_part1 uT3 rfl h w
 have hq3 : ∀ (x y : Int) (w : World), (Op.equalIn (n + 1) 3 (iV x) (iV y)).run Try.prog w = .ok (x == y) w := fun x y w => run_equalIn_int w (n + 0) 3 .i64 .i64 x y uT3
 simp only [Op.eqFields, ne_eq, String.reduceEq, not_false_eq_true, if_true, Sem.run_bind, hp3 (show #[Value.int .i64 a0, Value.int .i64 a1][0]? = some (iV a0) from rfl), hp3 (show #[Value.int .i64 b0, Value.int .i64 b1][0]? = some (iV b0) from rfl), hp3 (show #[Value.int .i64 a0, Value.int .i64 a1][1]? = some (iV a1) from rfl), hp3 (show #[Value.int .i64 b0, Value.int .i64 b1][1]? = some (iV b1) from rfl), hq3, Result.andThen_ok, Sem.run_ite, Sem.run_pure]
 by_cases h0 : a0 = b0 <;> by_cases h1 : a1 = b1 <;> simp [*]
theorem eqS42 (a0 a1 b0 b1 : Int) : ∀ w, (Op.equal 42 (.agg #[iV a0, iV a1]) (.agg #[iV b0, iV b1])).run Try.prog w = .ok (decide (a0 = b0) && decide (a1 = b1)) w := fun w => by
 have hT : Try.prog.underlying 42 = some (.struct (Try.prog.fieldsOf 42)) := by unfold Program.fieldsOf; rw [uT42]
 show (Op.equalIn (9999 + 1) 42 _ _).run Try.prog w = _
 rw [run_equalIn_struct w 9999 42 _ _ hT (by kernel_rfl)]
 exact eqF42 a0 a1 b0 b1 9998 w
theorem eqG42 : Program.eqGuardType Try.prog Try.prog.depth 42 = false := by kernel_rfl
theorem eqF93 (a0 a1 a2 a3 b0 b1 b2 b3 : Int) (n : Nat) (w : World) : (Op.eqFields (n + 2) #[iV a0, iV a1, iV a2, iV a3] #[iV b0, iV b1, iV b2, iV b3] (Try.prog.fieldsOf 93).toList).run Try.prog w = .ok (decide (a0 = b0) && decide (a1 = b1) && decide (a2 = b2) && decide (a3 = b3)) w := by
 unfold Program.fieldsOf
 rw [uT93]
 have hp3 : ∀ {cs : Array Value} {o : Nat} {v : Value} (h : cs[o]? = some v) (w : World), (part 3 cs o).run Try.prog w = .ok v w := fun h w => run_part1 uT3 rfl h w
 have hq3 : ∀ (x y : Int) (w : World), (Op.equalIn (n + 2) 3 (iV x) (iV y)).run Try.prog w = .ok (x == y) w := fun x y w => run_equalIn_int w (n + 1) 3 .i64 .i64 x y uT3
 have hp42 : ∀ {cs es : Array Value} {o : Nat} (h : cs.extract o (o + 2) = es) (w : World), (part 42 cs o).run Try.prog w = .ok (.agg es) w := fun h w => run_partA uT42 rfl (by kernel_rfl) h w
 have hq42 : ∀ (x0 x1 y0 y1 : Int) (w : World), (Op.equalIn (n + 2) 42 (.agg #[iV x0, iV x1]) (.agg #[iV y0, iV y1])).run Try.prog w = .ok (decide (x0 = y0) && decide (x1 = y1)) w := fun x0 x1 y0 y1 w => by
  have hT : Try.prog.underlying 42 = some (.struct (Try.prog.fieldsOf 42)) := by unfold Program.fieldsOf; rw [uT42]
  rw [show n + 2 = (n + 1) + 1 from rfl, run_equalIn_struct w (n + 1) 42 _ _ hT (by kernel_rfl)]
  exact eqF42 x0 x1 y0 y1 (n + 0) w
 simp only [Op.eqFields, ne_eq, String.reduceEq, not_false_eq_true, if_true, Sem.run_bind, hp3 (show #[Value.int .i64 a0, Value.int .i64 a1, Value.int .i64 a2, Value.int .i64 a3][0]? = some (iV a0) from rfl), hp3 (show #[Value.int .i64 b0, Value.int .i64 b1, Value.int .i64 b2, Value.int .i64 b3][0]? = some (iV b0) from rfl), hp3 (show #[Value.int .i64 a0, Value.int .i64 a1, Value.int .i64 a2, Value.int .i64 a3][1]? = some (iV a1) from rfl), hp3 (show #[Value.int .i64 b0, Value.int .i64 b1, Value.int .i64 b2, Value.int .i64 b3][1]? = some (iV b1) from rfl), hp42 (show (#[Value.int .i64 a0, Value.int .i64 a1, Value.int .i64 a2, Value.int .i64 a3] : Array Value).extract 2 (2 + 2) = #[Value.int .i64 a2, Value.int .i64 a3] from rfl), hp42 (show (#[Value.int .i64 b0, Value.int .i64 b1, Value.int .i64 b2, Value.int .i64 b3] : Array Value).extract 2 (2 + 2) = #[Value.int .i64 b2, Value.int .i64 b3] from rfl), hq3, hq42, Result.andThen_ok, Sem.run_ite, Sem.run_pure]
 by_cases h0 : a0 = b0 <;> by_cases h1 : a1 = b1 <;> by_cases h2 : a2 = b2 <;> by_cases h3 : a3 = b3 <;> simp [*]
theorem eqS93 (a0 a1 a2 a3 b0 b1 b2 b3 : Int) : ∀ w, (Op.equal 93 (.agg #[iV a0, iV a1, iV a2, iV a3]) (.agg #[iV b0, iV b1, iV b2, iV b3])).run Try.prog w = .ok (decide (a0 = b0) && decide (a1 = b1) && decide (a2 = b2) && decide (a3 = b3)) w := fun w => by
 have hT : Try.prog.underlying 93 = some (.struct (Try.prog.fieldsOf 93)) := by unfold Program.fieldsOf; rw [uT93]
 show (Op.equalIn (9999 + 1) 93 _ _).run Try.prog w = _
 rw [run_equalIn_struct w 9999 93 _ _ hT (by kernel_rfl)]
 exact eqF93 a0 a1 a2 a3 b0 b1 b2 b3 9997 w
theorem eqG93 : Program.eqGuardType Try.prog Try.prog.depth 93 = false := by kernel_rfl
theorem eqF79 (a0 a1 a2 a3 a4 b0 b1 b2 b3 b4 : Int) (n : Nat) (w : World) : (Op.eqFields (n + 2) #[iV a0, iV a1, iV a2, iV a3, iV a4] #[iV b0, iV b1, iV b2, iV b3, iV b4] (Try.prog.fieldsOf 79).toList).run Try.prog w = .ok (decide (a0 = b0) && decide (a1 = b1) && decide (a2 = b2) && decide (a3 = b3) && decide (a4 = b4)) w := by
 unfold Program.fieldsOf
 rw [uT79]
 have hp3 : ∀ {cs : Array Value} {o : Nat} {v : Value} (h : cs[o]? = some v) (w : World), (part 3 cs o).run Try.prog w = .ok v w := fun h w => run_part1 uT3 rfl h w
 have hq3 : ∀ (x y : Int) (w : World), (Op.equalIn (n + 2) 3 (iV x) (iV y)).run Try.prog w = .ok (x == y) w := fun x y w => run_equalIn_int w (n + 1) 3 .i64 .i64 x y uT3
 have hp42 : ∀ {cs es : Array Value} {o : Nat} (h : cs.extract o (o + 2) = es) (w : World), (part 42 cs o).run Try.prog w = .ok (.agg es) w := fun h w => run_partA uT42 rfl (by kernel_rfl) h w
 have hq42 : ∀ (x0 x1 y0 y1 : Int) (w : World), (Op.equalIn (n + 2) 42 (.agg #[iV x0, iV x1]) (.agg #[iV y0, iV y1])).run Try.prog w = .ok (decide (x0 = y0) && decide (x1 = y1)) w := fun x0 x1 y0 y1 w => by
  have hT : Try.prog.underlying 42 = some (.struct (Try.prog.fieldsOf 42)) := by unfold Program.fieldsOf; rw [uT42]
  rw [show n + 2 = (n + 1) + 1 from rfl, run_equalIn_struct w (n + 1) 42 _ _ hT (by kernel_rfl)]
  exact eqF42 x0 x1 y0 y1 (n + 0) w
 simp only [Op.eqFields, ne_eq, String.reduceEq, not_false_eq_true, if_true, Sem.run_bind, hp42 (show (#[Value.int .i64 a0, Value.int .i64 a1, Value.int .i64 a2, Value.int .i64 a3, Value.int .i64 a4] : Array Value).extract 0 (0 + 2) = #[Value.int .i64 a0, Value.int .i64 a1] from rfl), hp42 (show (#[Value.int .i64 b0, Value.int .i64 b1, Value.int .i64 b2, Value.int .i64 b3, Value.int .i64 b4] : Array Value).extract 0 (0 + 2) = #[Value.int .i64 b0, Value.int .i64 b1] from rfl), hp3 (show #[Value.int .i64 a0, Value.int .i64 a1, Value.int .i64 a2, Value.int .i64 a3, Value.int .i64 a4][2]? = some (iV a2) from rfl), hp3 (show #[Value.int .i64 b0, Value.int .i64 b1, Value.int .i64 b2, Value.int .i64 b3, Value.int .i64 b4][2]? = some (iV b2) from rfl), hp42 (show (#[Value.int .i64 a0, Value.int .i64 a1, Value.int .i64 a2, Value.int .i64 a3, Value.int .i64 a4] : Array Value).extract 3 (3 + 2) = #[Value.int .i64 a3, Value.int .i64 a4] from rfl), hp42 (show (#[Value.int .i64 b0, Value.int .i64 b1, Value.int .i64 b2, Value.int .i64 b3, Value.int .i64 b4] : Array Value).extract 3 (3 + 2) = #[Value.int .i64 b3, Value.int .i64 b4] from rfl), hq3, hq42, Result.andThen_ok, Sem.run_ite, Sem.run_pure]
 by_cases h0 : a0 = b0 <;> by_cases h1 : a1 = b1 <;> by_cases h2 : a2 = b2 <;> by_cases h3 : a3 = b3 <;> by_cases h4 : a4 = b4 <;> simp [*]
theorem eqS79 (a0 a1 a2 a3 a4 b0 b1 b2 b3 b4 : Int) : ∀ w, (Op.equal 79 (.agg #[iV a0, iV a1, iV a2, iV a3, iV a4]) (.agg #[iV b0, iV b1, iV b2, iV b3, iV b4])).run Try.prog w = .ok (decide (a0 = b0) && decide (a1 = b1) && decide (a2 = b2) && decide (a3 = b3) && decide (a4 = b4)) w := fun w => by
 have hT : Try.prog.underlying 79 = some (.struct (Try.prog.fieldsOf 79)) := by unfold Program.fieldsOf; rw [uT79]
 show (Op.equalIn (9999 + 1) 79 _ _).run Try.prog w = _
 rw [run_equalIn_struct w 9999 79 _ _ hT (by kernel_rfl)]
 exact eqF79 a0 a1 a2 a3 a4 b0 b1 b2 b3 b4 9997 w
theorem eqG79 : Program.eqGuardType Try.prog Try.prog.depth 79 = false := by kernel_rfl
theorem sRight_c (w : World) (Φ : Hp) (hΦ : Hp.le Φ (hp w)) {aL aH : Int} :
  Calls Try.prog 70 #[.agg #[iV aL, iV aH]] w fun e w' => e = .returned (.bool (decide (aL ≤ aH))) ∧ Bel w.heap.size w w' := by
 refine calls_of_AW (args := [.agg #[iV aL, iV aH]]) Try.func70 rfl (Nat.le_of_ble_eq_true rfl) (St ⟨w, Φ, []⟩ Φ []) (StP.init w Φ hΦ []) ?_
 show AW Try.prog 8 [] _ _ _ [(0, .agg #[iV aL, iV aH])] _
 refine g2 ?_
 refine RW.bxA rfl rfl fun b1 => ?_
 refine g14 ?_
 exact fin_val (v' := .bool (decide (aL ≤ aH))) rfl rfl rfl (rfl)
theorem Meet_c (w : World) (Φ : Hp) (hΦ : Hp.le Φ (hp w)) {aL aH bL bH : Int} :
  Calls Try.prog 30 #[.agg #[iV aL, iV aH], .agg #[iV bL, iV bH]] w fun e w' => e = .returned (.tuple #[.agg #[iV (Fu.loOf (Fu.meet aL aH bL bH)), iV (Fu.hiOf (Fu.meet aL aH bL bH))], .bool (Fu.meet aL aH bL bH).isSome]) ∧ Bel w.heap.size w w' := by
 refine calls_of_AW (args := [.agg #[iV aL, iV aH], .agg #[iV bL, iV bH]]) Try.func30 rfl (Nat.le_of_ble_eq_true rfl) (St ⟨w, Φ, []⟩ Φ []) (StP.init w Φ hΦ []) ?_
 show AW Try.prog 23 [] _ _ _ [(0, .agg #[iV aL, iV aH]), (1, .agg #[iV bL, iV bH])] _
 refine g2 ?_
 refine RW.bxA rfl rfl fun b1 => ?_
 refine RW.bxA rfl rfl fun b2 => ?_
 refine RW.alc rfl fun b3 => ?_
 refine g15 ?_
 refine RW.q (v := .agg #[iV (max aL bL), iV (min aH bH)]) rfl (q_build (vals := [(0, iV (max aL bL)), (1, iV (min aH bH))]) zero42 uT42 places42 rfl rfl) ?_
 refine RW.alc rfl fun b4 => ?_
 refine RW.effn (J' := St ⟨w, Φ, []⟩ Φ [.blk b4 42 [iV (max aL bL), iV (min aH bH)], .blk b3 42 [iV 0, iV 0], .blk b2 42 [iV bL, iV bH], .blk b1 42 [iV aL, iV aH]]) (e_store (v := .agg #[iV (max aL bL), iV (min aH bH)]) 0 rfl rfl rfl sz42 rfl rfl rfl rfl rfl) ?_
 refine g6 ?_
 refine RW.q (v := .bool (decide (max aL bL ≤ min aH bH))) rfl (q_call (args := #[.agg #[iV (max aL bL), iV (min aH bH)]]) own70 rfl rfl (fun w1 hw1 => sRight_c w1 (Go.K.hp w1) (Hp.le_refl _))) ?_
 refine g3 ?_
 refine AW.cond rfl (fun hc1 => ?_) fun hc1 => ?_
 ·
  simp [-List.getD_eq_getElem?_getD] at hc1
  refine g2 ?_
  refine RW.q (v := .agg #[iV 0, iV 0]) rfl (q_build (vals := []) zero42 uT42 places42 rfl rfl) (RW.effn (J' := St ⟨w, Φ, []⟩ Φ [.blk b4 42 [iV (max aL bL), iV (min aH bH)], .blk b3 42 [iV 0, iV 0], .blk b2 42 [iV bL, iV bH], .blk b1 42 [iV aL, iV aH]]) (e_store (v := .agg #[iV 0, iV 0]) 1 rfl rfl rfl sz42 rfl rfl rfl rfl rfl) ?_)
  refine g5 ?_
  refine fin_cell2 (cs := [iV 0, iV 0]) (v := .bool false) rfl rfl rfl rfl uT42 rfl sz42 rfl (Cells.blk 1 rfl) (fun w' hw => ?_)
  refine ⟨?_, hw.below rfl⟩
  unfold Fu.meet; rw [if_neg (by simpa using hc1)]; rfl
 ·
  simp [-List.getD_eq_getElem?_getD] at hc1
  refine g5 ?_
  refine RW.effn (J' := St ⟨w, Φ, []⟩ Φ [.blk b4 42 [iV (max aL bL), iV (min aH bH)], .blk b3 42 [iV (max aL bL), iV (min aH bH)], .blk b2 42 [iV bL, iV bH], .blk b1 42 [iV aL, iV aH]]) (e_store (v := .agg #[iV (max aL bL), iV (min aH bH)]) 1 rfl rfl rfl sz42 rfl rfl rfl rfl rfl) ?_
  refine g4 ?_
  refine fin_cell2 (cs := [iV (max aL bL), iV (min aH bH)]) (v := .bool true) rfl rfl rfl rfl uT42 rfl sz42 rfl (Cells.blk 1 rfl) (fun w' hw => ?_)
  refine ⟨?_, hw.below rfl⟩
  unfold Fu.meet; rw [if_pos (by simpa using hc1)]; rfl
theorem Add_c (w : World) (Φ : Hp) (hΦ : Hp.le Φ (hp w)) {x y : Int} (hx : I64 x) (hy : I64 y) :
  Calls Try.prog 29 #[iV x, iV y] w fun e w' => e = .returned (iV (Fu.addS x y)) ∧ Bel w.heap.size w w' := by
 refine calls_of_AW (args := [iV x, iV y]) Try.func29 rfl (Nat.le_of_ble_eq_true rfl) (St ⟨w, Φ, []⟩ Φ []) (StP.init w Φ hΦ []) ?_
 show AW Try.prog 24 [] _ _ _ [(0, iV x), (1, iV y)] _
 unfold I64 at hx hy
 refine g13 ?_
 refine RW.g (b := (decide ((0 : Int) < y))) (v := iV (9223372036854775807 - y)) rfl rfl rfl (fun h => q_sub rfl (gv_pos h) (by (try simp [-List.getD_eq_getElem?_getD] at h); omega) (by (try simp [-List.getD_eq_getElem?_getD] at h); unfold I64; omega)) ?_
 refine g1 ?_
 obtain ⟨qb1, hqb1⟩ : ∃ z : Bool, ((decide ((0 : Int) < y)) && (decide (9223372036854775807 - y < x))) = z := ⟨_, rfl⟩
 refine RW.q (v := .bool qb1) rfl (q_as (v := .bool ((decide ((0 : Int) < y)) && (decide (9223372036854775807 - y < x)))) (q_pick rfl (fun hp => (gv_pos hp).trans (pkAndT hp)) (fun hp => pkAndF hp)) (congrArg Value.bool hqb1)) ?_
 subst hqb1
 refine g2 ?_
 refine AW.cond rfl (fun hc1 => ?_) fun hc1 => ?_
 ·
  simp [-List.getD_eq_getElem?_getD] at hc1
  refine g7 ?_
  exact fin_val (v' := iV 9223372036854775807) rfl rfl rfl (by unfold Fu.addS; rw [if_pos (by omega)])
 ·
  simp [-List.getD_eq_getElem?_getD] at hc1
  refine g10 ?_
  refine RW.g (b := (decide (y < 0))) (v := iV ((-9223372036854775808) - y)) rfl rfl rfl (fun h => q_sub rfl (gv_pos h) (by (try simp [-List.getD_eq_getElem?_getD] at h); omega) (by (try simp [-List.getD_eq_getElem?_getD] at h); unfold I64; omega)) ?_
  refine g1 ?_
  obtain ⟨qb2, hqb2⟩ : ∃ z : Bool, ((decide (y < 0)) && (decide (x < (-9223372036854775808) - y))) = z := ⟨_, rfl⟩
  refine RW.q (v := .bool qb2) rfl (q_as (v := .bool ((decide (y < 0)) && (decide (x < (-9223372036854775808) - y)))) (q_pick rfl (fun hp => (gv_pos hp).trans (pkAndT hp)) (fun hp => pkAndF hp)) (congrArg Value.bool hqb2)) ?_
  subst hqb2
  refine g2 ?_
  refine AW.cond rfl (fun hc2 => ?_) fun hc2 => ?_
  ·
   simp [-List.getD_eq_getElem?_getD] at hc2
   refine g7 ?_
   exact fin_val (v' := iV (-9223372036854775808)) rfl rfl rfl (by unfold Fu.addS; rw [if_neg (by omega), if_pos (by omega)])
  ·
   simp [-List.getD_eq_getElem?_getD] at hc2
   refine g11 ?_
   exact fin_val (v' := iV (x + y)) rfl rfl rfl (by unfold Fu.addS; rw [if_neg (by omega), if_neg (by omega)])
theorem gaugeOf_c (w : World) (Φ : Hp) (hΦ : Hp.le Φ (hp w)) {b : Bt.Basin} {cs : List Value} (hB : RepV Φ b cs) {r : Bt.Reading} :
  Calls Try.prog 26 #[.agg cs.toArray, .agg #[iV r.Gauge, iV r.Hour, iV r.Value.Lo, iV r.Value.Hi]] w fun e w' => e = .returned (.tuple #[.agg #[.string ((Fu.gaugeAt b.Gauges r.Gauge).Name), iV ((Fu.gaugeAt b.Gauges r.Gauge).Kind), iV ((Fu.gaugeAt b.Gauges r.Gauge).Target), iV ((Fu.gaugeAt b.Gauges r.Gauge).Err), iV ((Fu.gaugeAt b.Gauges r.Gauge).Drift)], .bool (decide (Fu.inG b.Gauges r.Gauge))]) ∧ Bel w.heap.size w w' := by
 obtain ⟨v1, v3, v4, v5, v6, v7, v8, v9, hcs, hBw, r1, r3, r4, r5, r6, r7, r8, r9⟩ := (show Rep.rep Φ b cs from hB)
 subst hcs
 have hpm : b.Places.length * 152 ≤ 140737488355328 := r3.max
 have hgm : b.Gauges.length * 48 ≤ 140737488355328 := r6.max
 refine calls_of_AW (args := [.agg (cl31 b v1 v3 v4 v5 v6 v7 v8 v9).toArray, .agg #[iV r.Gauge, iV r.Hour, iV r.Value.Lo, iV r.Value.Hi]]) Try.func26 rfl (Nat.le_of_ble_eq_true rfl) (St ⟨w, Φ, []⟩ Φ []) (StP.init w Φ hΦ []) ?_
 show AW Try.prog 24 [] _ _ _ [(0, .agg (cl31 b v1 v3 v4 v5 v6 v7 v8 v9).toArray), (1, .agg #[iV r.Gauge, iV r.Hour, iV r.Value.Lo, iV r.Value.Hi])] _
 refine g2 ?_
 refine RW.bxA rfl rfl fun b1 => ?_
 refine RW.bxA rfl rfl fun b2 => ?_
 refine RW.alc rfl fun b3 => ?_
 refine RW.q (v := .bool false) rfl (q_assign rfl) (RW.nil (Post.then_n (AW.seq (AW.seq (AW.region (RW.q (v := pV b2 0) rfl (q_fieldAddr rfl uT46 rfl sz3 rfl) (RW.q (v := iV r.Gauge) rfl (q_load rfl uT3 rfl (Cell.blk 1 rfl rfl)) (RW.q (v := .bool (decide (r.Gauge < 0))) rfl (q_lss rfl rfl) (RW.q (v := .bool (decide (r.Gauge < 0))) rfl (q_move rfl) ?_)))))))))
 refine RW.g (b := (decide (r.Gauge < 0))) (v := pV b2 0) rfl rfl rfl (fun h => q_fieldAddr rfl uT46 rfl sz3 rfl) (RW.g (b := (decide (r.Gauge < 0))) (v := iV r.Gauge) rfl rfl rfl (fun h => q_load (gv_pos h) uT3 rfl (Cell.blk 1 rfl rfl)) (RW.g (b := (decide (r.Gauge < 0))) (v := pV b1 6) rfl rfl rfl (fun h => q_fieldAddr rfl uT31 rfl sz26 rfl) (RW.g (b := (decide (r.Gauge < 0))) (v := v6) rfl rfl rfl (fun h => q_load (gv_pos h) uT26 rfl (Cell.blk 2 rfl rfl)) (RW.g (b := (decide (r.Gauge < 0))) (v := iV (b.Gauges.length : Int)) rfl rfl rfl (fun h => q_len_sl (gv_pos h) r6.sl uT26) (RW.g (b := (decide (r.Gauge < 0))) (v := .bool (decide ((b.Gauges.length : Int) ≤ r.Gauge))) rfl rfl rfl (fun h => q_geq (gv_pos h) (gv_pos h)) ?_)))))
 obtain ⟨qb1, hqb1⟩ : ∃ z : Bool, ((decide (r.Gauge < 0)) || (decide ((b.Gauges.length : Int) ≤ r.Gauge))) = z := ⟨_, rfl⟩
 refine RW.q (v := .bool qb1) rfl (q_as (v := .bool ((decide (r.Gauge < 0)) || (decide ((b.Gauges.length : Int) ≤ r.Gauge)))) (q_pick rfl (fun hp => pkOrT hp) (fun hp => (gv_pos hp).trans (pkOrF hp))) (congrArg Value.bool hqb1)) ?_
 subst hqb1
 refine g2 ?_
 refine AW.cond rfl (fun hc1 => ?_) fun hc1 => ?_
 ·
  simp [-List.getD_eq_getElem?_getD] at hc1
  refine g2 ?_
  refine RW.q (v := .agg #[.string (bs ([])), iV 0, iV 0, iV 0, iV 0]) rfl (q_build (vals := []) zero58 uT58 places58 rfl rfl) (RW.effn (J' := St ⟨w, Φ, []⟩ Φ [.blk b3 58 [.string (bs ([])), iV 0, iV 0, iV 0, iV 0], .blk b2 46 [iV r.Gauge, iV r.Hour, iV r.Value.Lo, iV r.Value.Hi], .blk b1 31 (cl31 b v1 v3 v4 v5 v6 v7 v8 v9)]) (e_store (v := .agg #[.string (bs ([])), iV 0, iV 0, iV 0, iV 0]) 0 rfl rfl rfl sz58 rfl rfl rfl rfl rfl) ?_)
  refine g5 ?_
  refine fin_cell2 (cs := [.string (bs ([])), iV 0, iV 0, iV 0, iV 0]) (v := .bool false) rfl rfl rfl rfl uT58 rfl sz58 rfl (Cells.blk 0 rfl) (fun w' hw => ?_)
  refine ⟨?_, hw.below rfl⟩
  have hn : ¬ Fu.inG b.Gauges r.Gauge := by unfold Fu.inG; omega
  rw [decide_eq_false hn]
  unfold Fu.gaugeAt; rw [if_neg hn]; rfl
 ·
  simp [-List.getD_eq_getElem?_getD] at hc1
  refine g8 ?_
  refine RW.q (v := .pointer (some (Value.at v6 (r.Gauge.toNat * 5)))) rfl (q_indexAddr rfl rfl r6.sl uT26 sz58 (by omega) (by omega) rfl) (RW.q (v := .agg (cl58 (b.Gauges.getD r.Gauge.toNat default)).toArray) rfl (q_loadAgg rfl uT58 rfl sz58 rfl (Cells.repE r6 (by omega) rfl)) (RW.effn (J' := St ⟨w, Φ, []⟩ Φ [.blk b3 58 (cl58 (b.Gauges.getD r.Gauge.toNat default)), .blk b2 46 [iV r.Gauge, iV r.Hour, iV r.Value.Lo, iV r.Value.Hi], .blk b1 31 (cl31 b v1 v3 v4 v5 v6 v7 v8 v9)]) (e_store (v := .agg (cl58 (b.Gauges.getD r.Gauge.toNat default)).toArray) 0 rfl rfl rfl sz58 rfl rfl rfl rfl rfl) ?_))
  refine g4 ?_
  refine fin_cell2 (cs := [.string ((b.Gauges.getD r.Gauge.toNat default).Name), iV ((b.Gauges.getD r.Gauge.toNat default).Kind), iV ((b.Gauges.getD r.Gauge.toNat default).Target), iV ((b.Gauges.getD r.Gauge.toNat default).Err), iV ((b.Gauges.getD r.Gauge.toNat default).Drift)]) (v := .bool true) rfl rfl rfl rfl uT58 rfl sz58 rfl (Cells.blk 0 rfl) (fun w' hw => ?_)
  refine ⟨?_, hw.below rfl⟩
  have hn : Fu.inG b.Gauges r.Gauge := by unfold Fu.inG; omega
  rw [decide_eq_true hn]
  unfold Fu.gaugeAt; rw [if_pos hn]
theorem cRight_c (w : World) (Φ : Hp) (hΦ : Hp.le Φ (hp w)) {c : List Bt.Point} {v1 : Value} (h1 : RepSl Φ c v1) :
  Calls Try.prog 27 #[v1] w fun e w' => e = .returned (.bool (decide (Fu.RightC c))) ∧ Bel w.heap.size w w' := by
 refine calls_of_AW (args := [v1]) Try.func27 rfl (Nat.le_of_ble_eq_true rfl) (St ⟨w, Φ, []⟩ Φ []) (StP.init w Φ hΦ []) ?_
 show AW Try.prog 63 [] _ _ _ [(0, v1)] _
 have hm1 : c.length * 16 ≤ 140737488355328 := h1.max
 refine AW.seq (AW.region (RW.q (v := .bool false) rfl (q_assign rfl) (RW.nil (Post.then_n (AW.seq (AW.seq (AW.region (RW.q (v := v1) rfl (q_move rfl) (RW.q (v := iV (c.length : Int)) rfl (q_len_sl rfl h1.sl uT60) ?_)))))))))
 refine RW.q (v := .bool (decide ((c.length : Int) < 1))) rfl (q_lss rfl rfl) (RW.q (v := .bool (decide ((c.length : Int) < 1))) rfl (q_move rfl) (RW.g (b := (decide ((c.length : Int) < 1))) (v := v1) rfl rfl rfl (fun h => q_move rfl) (RW.g (b := (decide ((c.length : Int) < 1))) (v := iV (c.length : Int)) rfl rfl rfl (fun h => q_len_sl (gv_pos h) h1.sl uT60) (RW.g (b := (decide ((c.length : Int) < 1))) (v := .bool (decide ((32 : Int) < (c.length : Int)))) rfl rfl rfl (fun h => q_gtr (gv_pos h) rfl) ?_))))
 obtain ⟨qb1, hqb1⟩ : ∃ z : Bool, ((decide ((c.length : Int) < 1)) || (decide ((32 : Int) < (c.length : Int)))) = z := ⟨_, rfl⟩
 refine RW.q (v := .bool qb1) rfl (q_as (v := .bool ((decide ((c.length : Int) < 1)) || (decide ((32 : Int) < (c.length : Int))))) (q_pick rfl (fun hp => pkOrT hp) (fun hp => (gv_pos hp).trans (pkOrF hp))) (congrArg Value.bool hqb1)) ?_
 subst hqb1
 refine g2 ?_
 refine AW.cond rfl (fun hc1 => ?_) fun hc1 => ?_
 ·
  simp [-List.getD_eq_getElem?_getD] at hc1
  refine g7 ?_
  exact fin_val (v' := .bool false) rfl rfl rfl (by rw [decide_eq_false (fun hr => by have := hr.1; omega)])
 ·
  simp [-List.getD_eq_getElem?_getD] at hc1
  refine g11 ?_
  refine AW.loop (fun s J m => ∃ (k : Nat), s = [(0, v1), (13, v1), (14, iV (c.length : Int)), (15, iV (k : Int))] ∧ J = St ⟨w, Φ, []⟩ Φ [] ∧ m = c.length - k ∧ (k ≤ c.length) ∧ (∀ j, j < k → Fu.PtOk c j)) (s0 := _) (J1 := _) (m0 := _) ⟨0, rfl, rfl, rfl, (by omega), (by omega)⟩ ⟨rfl, rfl, rfl, rfl, trivial⟩ (fun _ h => h) ?_
  rintro _ _ _ _ ⟨k, rfl, rfl, rfl, hk, hall⟩
  refine g6 ?_
  refine AW.cond rfl (fun hc2 => ?_) fun hc2 => ?_
  ·
   simp [-List.getD_eq_getElem?_getD] at hc2
   refine g7 ?_
   refine RW.q (v := .pointer (some (Value.at v1 (k * 2)))) rfl (q_indexAddr rfl rfl h1.sl uT60 sz82 (by omega) (by omega) rfl) (RW.q (v := .agg #[iV ((c.getD k default).X), iV ((c.getD k default).Y)]) rfl (q_loadAgg rfl uT82 rfl sz82 rfl (Cells.repE h1 (by omega) rfl)) ?_)
   refine RW.alc rfl fun b1 => ?_
   refine g1 ?_
   refine RW.effn (J' := St ⟨w, Φ, []⟩ Φ [.blk b1 82 [iV ((c.getD k default).X), iV ((c.getD k default).Y)]]) (e_store (v := .agg #[iV ((c.getD k default).X), iV ((c.getD k default).Y)]) 0 rfl rfl rfl sz82 rfl rfl rfl rfl rfl) ?_
   refine g12 ?_
   obtain ⟨qb2, hqb2⟩ : ∃ z : Bool, ((decide ((c.getD k default).X < 0)) || (decide ((1125899906842624 : Int) < (c.getD k default).X))) = z := ⟨_, rfl⟩
   refine RW.q (v := .bool qb2) rfl (q_as (v := .bool ((decide ((c.getD k default).X < 0)) || (decide ((1125899906842624 : Int) < (c.getD k default).X)))) (q_pick rfl (fun hp => pkOrT hp) (fun hp => (gv_pos hp).trans (pkOrF hp))) (congrArg Value.bool hqb2)) ?_
   refine g4 ?_
   obtain ⟨qb3, hqb3⟩ : ∃ z : Bool, (qb2 || (decide ((c.getD k default).Y < 0))) = z := ⟨_, rfl⟩
   refine RW.q (v := .bool qb3) rfl (q_as (v := .bool (qb2 || (decide ((c.getD k default).Y < 0)))) (q_pick rfl (fun hp => pkOrT hp) (fun hp => (gv_pos hp).trans (pkOrF hp))) (congrArg Value.bool hqb3)) ?_
   refine g4 ?_
   obtain ⟨qb4, hqb4⟩ : ∃ z : Bool, (qb3 || (decide ((1125899906842624 : Int) < (c.getD k default).Y))) = z := ⟨_, rfl⟩
   refine RW.q (v := .bool qb4) rfl (q_as (v := .bool (qb3 || (decide ((1125899906842624 : Int) < (c.getD k default).Y)))) (q_pick rfl (fun hp => pkOrT hp) (fun hp => (gv_pos hp).trans (pkOrF hp))) (congrArg Value.bool hqb4)) ?_
   subst hqb4 hqb3 hqb2
   refine g2 ?_
   refine AW.cond rfl (fun hc3 => ?_) fun hc3 => ?_
   ·
    simp [-List.getD_eq_getElem?_getD] at hc3
    refine g12 ?_
    exact fin_val (v' := .bool false) rfl rfl rfl (by rw [decide_eq_false (fun hr => by have hp := hr.2 k (by omega); unfold Fu.PtOk Fu.px Fu.py at hp; have h3 := hp.2.2; omega)])
   ·
    simp [-List.getD_eq_getElem?_getD] at hc3
    refine g3 ?_
    have hk0 : 0 < k → ((k : Int) - 1).toNat = k - 1 := by omega
    refine AW.draw (J0 := St ⟨w, Φ, []⟩ Φ [.blk b1 82 [iV ((c.getD k default).X), iV ((c.getD k default).Y)]]) [.q, .q, .q, .q, .q, .q, .q, .q, .q, .q, .q, .q, .q, .q, .q, .q, .q, .q, .q, .q, .q, .q, .q, .q] [0, 1, 2, 3, 4, 5, 6, 7, 8, 9, 10, 11, 12, 13, 14, 15, 16, 17, 18, 19, 20, 21, 22, 23] hmix (by kernel_rfl) ?_
    refine g7 ?_
    refine DW.g (b := (decide ((0 : Int) < (k : Int)))) (v := iV ((k : Int) - 1)) (fun _ h => h) rfl rfl rfl (fun h => q_sub (gv_pos h) rfl (by (try simp [-List.getD_eq_getElem?_getD] at h); omega) (by (try simp [-List.getD_eq_getElem?_getD] at h); unfold I64; omega)) ?_
    refine DW.g (b := (decide ((0 : Int) < (k : Int)))) (v := .pointer (some (Value.at v1 ((((k : Int) - 1).toNat) * 2)))) (fun _ h => h) rfl rfl rfl (fun h => q_indexAddr (gv_pos h) (gv_pos h) h1.sl uT60 sz82 (by (try simp [-List.getD_eq_getElem?_getD] at h); omega) (by (try simp [-List.getD_eq_getElem?_getD] at h); omega) rfl) ?_
    refine g1 ?_
    refine DW.g (b := (decide ((0 : Int) < (k : Int)))) (v := iV ((c.getD (((k : Int) - 1).toNat) default).X)) (fun _ h => h) rfl rfl rfl (fun h => q_load (gv_pos h) uT3 rfl (Cell.repE (j := 0) h1 (by (try simp [-List.getD_eq_getElem?_getD] at h); omega) rfl)) ?_
    refine DW.g (b := (decide ((0 : Int) < (k : Int)))) (v := .bool (decide ((c.getD k default).X ≤ (c.getD (((k : Int) - 1).toNat) default).X))) (fun _ h => h) rfl rfl rfl (fun h => q_leq (gv_pos h) (gv_pos h)) (DW.g (b := (decide ((0 : Int) < (k : Int)))) (v := .bool (decide ((c.getD k default).X ≤ (c.getD (((k : Int) - 1).toNat) default).X))) (fun _ h => h) rfl rfl rfl (fun h => q_move (gv_pos h)) (DW.g2 (b1 := (decide ((0 : Int) < (k : Int)))) (b2 := (decide ((c.getD k default).X ≤ (c.getD (((k : Int) - 1).toNat) default).X))) (v := pV b1 1) (fun _ h => h) rfl rfl rfl (fun hg1 hg2 => q_fieldAddr rfl uT82 rfl sz3 rfl) (DW.g2 (b1 := (decide ((0 : Int) < (k : Int)))) (b2 := (decide ((c.getD k default).X ≤ (c.getD (((k : Int) - 1).toNat) default).X))) (v := iV ((c.getD k default).Y)) (fun _ h => h) rfl rfl rfl (fun hg1 hg2 => q_load ((gv_pos hg1).trans (gv_pos hg2)) uT3 rfl (Cell.blk 0 rfl rfl)) (DW.g2 (b1 := (decide ((0 : Int) < (k : Int)))) (b2 := (decide ((c.getD k default).X ≤ (c.getD (((k : Int) - 1).toNat) default).X))) (v := v1) (fun _ h => h) rfl rfl rfl (fun hg1 hg2 => q_move rfl) (DW.g2 (b1 := (decide ((0 : Int) < (k : Int)))) (b2 := (decide ((c.getD k default).X ≤ (c.getD (((k : Int) - 1).toNat) default).X))) (v := iV (k : Int)) (fun _ h => h) rfl rfl rfl (fun hg1 hg2 => q_move rfl) (DW.g2 (b1 := (decide ((0 : Int) < (k : Int)))) (b2 := (decide ((c.getD k default).X ≤ (c.getD (((k : Int) - 1).toNat) default).X))) (v := iV ((k : Int) - 1)) (fun _ h => h) rfl rfl rfl (fun hg1 hg2 => q_sub ((gv_pos hg1).trans (gv_pos hg2)) rfl (by (try simp [-List.getD_eq_getElem?_getD] at hg1); (try simp [-List.getD_eq_getElem?_getD] at hg2); omega) (by (try simp [-List.getD_eq_getElem?_getD] at hg1); (try simp [-List.getD_eq_getElem?_getD] at hg2); unfold I64; omega)) ?_))))))
    refine DW.g2 (b1 := (decide ((0 : Int) < (k : Int)))) (b2 := (decide ((c.getD k default).X ≤ (c.getD (((k : Int) - 1).toNat) default).X))) (v := .pointer (some (Value.at v1 ((((k : Int) - 1).toNat) * 2)))) (fun _ h => h) rfl rfl rfl (fun hg1 hg2 => q_indexAddr ((gv_pos hg1).trans (gv_pos hg2)) ((gv_pos hg1).trans (gv_pos hg2)) h1.sl uT60 sz82 (by (try simp [-List.getD_eq_getElem?_getD] at hg1); (try simp [-List.getD_eq_getElem?_getD] at hg2); omega) (by (try simp [-List.getD_eq_getElem?_getD] at hg1); (try simp [-List.getD_eq_getElem?_getD] at hg2); omega) rfl) ?_
    refine DW.g2 (b1 := (decide ((0 : Int) < (k : Int)))) (b2 := (decide ((c.getD k default).X ≤ (c.getD (((k : Int) - 1).toNat) default).X))) (v := .pointer (some (Value.at v1 ((((k : Int) - 1).toNat) * 2 + 1)))) (fun _ h => h) rfl rfl rfl (fun hg1 hg2 => q_fieldAddr ((gv_pos hg1).trans (gv_pos hg2)) uT82 rfl sz3 at_add) (DW.g2 (b1 := (decide ((0 : Int) < (k : Int)))) (b2 := (decide ((c.getD k default).X ≤ (c.getD (((k : Int) - 1).toNat) default).X))) (v := iV ((c.getD (((k : Int) - 1).toNat) default).Y)) (fun _ h => h) rfl rfl rfl (fun hg1 hg2 => q_load ((gv_pos hg1).trans (gv_pos hg2)) uT3 rfl (Cell.repE (j := 1) h1 (by (try simp [-List.getD_eq_getElem?_getD] at hg1); (try simp [-List.getD_eq_getElem?_getD] at hg2); omega) rfl)) ?_)
    refine DW.g2 (b1 := (decide ((0 : Int) < (k : Int)))) (b2 := (decide ((c.getD k default).X ≤ (c.getD (((k : Int) - 1).toNat) default).X))) (v := .bool (decide ((c.getD k default).Y < (c.getD (((k : Int) - 1).toNat) default).Y))) (fun _ h => h) rfl rfl rfl (fun hg1 hg2 => q_lss ((gv_pos hg1).trans (gv_pos hg2)) ((gv_pos hg1).trans (gv_pos hg2))) ?_
    obtain ⟨qb5, hqb5⟩ : ∃ z : Bool, ((decide ((c.getD k default).X ≤ (c.getD (((k : Int) - 1).toNat) default).X)) || (decide ((c.getD k default).Y < (c.getD (((k : Int) - 1).toNat) default).Y))) = z := ⟨_, rfl⟩
    refine DW.g (b := (decide ((0 : Int) < (k : Int)))) (v := .bool qb5) (fun _ h => h) rfl rfl rfl (fun h => q_as (v := .bool ((decide ((c.getD k default).X ≤ (c.getD (((k : Int) - 1).toNat) default).X)) || (decide ((c.getD k default).Y < (c.getD (((k : Int) - 1).toNat) default).Y)))) (q_pick (gv_pos h) (fun hp => pkOrT hp) (fun hp => (gv_pos h).trans ((gv_pos hp).trans (pkOrF hp)))) (congrArg Value.bool hqb5)) ?_
    obtain ⟨qb6, hqb6⟩ : ∃ z : Bool, ((decide ((0 : Int) < (k : Int))) && qb5) = z := ⟨_, rfl⟩
    refine DW.q (v := .bool qb6) (fun _ h => h) rfl (q_as (v := .bool ((decide ((0 : Int) < (k : Int))) && qb5)) (q_pick rfl (fun hp => (gv_pos hp).trans (pkAndT hp)) (fun hp => pkAndF hp)) (congrArg Value.bool hqb6)) ?_
    subst hqb6 hqb5
    refine g2 ?_
    refine AW.cond rfl (fun hc4 => ?_) fun hc4 => ?_
    ·
     simp [-List.getD_eq_getElem?_getD] at hc4
     refine g11 ?_
     exact fin_val (v' := .bool false) rfl rfl rfl (by rw [decide_eq_false (fun hr => by have hp := hr.2 k (by omega); unfold Fu.PtOk Fu.px Fu.py at hp; have h3 := hp.2.2; omega)])
    ·
     simp [-List.getD_eq_getElem?_getD] at hc4
     refine g7 ?_
     exact Post.back (s' := _) (J' := _) (m' := _) (by omega) ⟨k + 1, rfl, rfl, rfl, (by omega), (Fu.lt_succ hall (by unfold Fu.PtOk Fu.px Fu.py; refine ⟨by omega, by omega, fun h0 => ?_⟩; first | exact hc4 h0 | omega))⟩ ⟨rfl, rfl, rfl, rfl, trivial⟩ (fun _ h => StP.drop h (by exact .cons _ (.slnil)))
  ·
   simp [-List.getD_eq_getElem?_getD] at hc2
   refine g11 ?_
   exact fin_val (v' := .bool true) rfl rfl rfl (by rw [decide_eq_true ⟨by omega, fun j hj => hall j (by omega)⟩])
theorem SameAll_c (w : World) (Φ : Hp) (hΦ : Hp.le Φ (hp w)) {xs ys : List Bt.Span} {v1 v2 : Value} (h1 : RepSl Φ xs v1) (h2 : RepSl Φ ys v2) :
  Calls Try.prog 18 #[v1, v2] w fun e w' => e = .returned (.bool (decide (xs = ys))) ∧ Bel w.heap.size w w' := by
 refine calls_of_AW (args := [v1, v2]) Try.func18 rfl (Nat.le_of_ble_eq_true rfl) (St ⟨w, Φ, []⟩ Φ []) (StP.init w Φ hΦ []) ?_
 show AW Try.prog 26 [] _ _ _ [(0, v1), (1, v2)] _
 have hm1 : xs.length * 16 ≤ 140737488355328 := h1.max
 have hm2 : ys.length * 16 ≤ 140737488355328 := h2.max
 refine g15 ?_
 refine AW.cond rfl (fun hc1 => ?_) fun hc1 => ?_
 ·
  simp [-List.getD_eq_getElem?_getD] at hc1
  refine g7 ?_
  exact fin_val (v' := .bool false) rfl rfl rfl (by rw [decide_eq_false (fun e => hc1 (by rw [e]))])
 ·
  simp [-List.getD_eq_getElem?_getD] at hc1
  refine g9 ?_
  refine AW.loop (fun s J m => ∃ (k : Nat), s = [(0, v1), (1, v2), (5, iV (k : Int))] ∧ J = St ⟨w, Φ, []⟩ Φ [] ∧ m = xs.length - k ∧ (k ≤ xs.length) ∧ (∀ j, j < k → xs.getD j default = ys.getD j default)) (s0 := _) (J1 := _) (m0 := _) ⟨0, rfl, rfl, rfl, (by omega), (by omega)⟩ ⟨rfl, rfl, rfl, trivial⟩ (fun _ h => h) ?_
  rintro _ _ _ _ ⟨k, rfl, rfl, rfl, hk, heq⟩
  refine g9 ?_
  refine AW.cond rfl (fun hc2 => ?_) fun hc2 => ?_
  ·
   simp [-List.getD_eq_getElem?_getD] at hc2
   refine g5 ?_
   refine AW.draw (J0 := St ⟨w, Φ, []⟩ Φ []) [.q, .q, .q, .q, .q, .q, .q, .q, .q] [0, 1, 2, 3, 4, 5, 6, 7, 8] hmix (by kernel_rfl) ?_
   refine g2 ?_
   refine DW.q (v := .pointer (some (Value.at v1 (k * 2)))) (fun _ h => h) rfl (q_indexAddr rfl rfl h1.sl uT32 sz42 (by omega) (by omega) rfl) (DW.q (v := .agg #[iV ((xs.getD k default).Lo), iV ((xs.getD k default).Hi)]) (fun _ h => h) rfl (q_loadAgg rfl uT42 rfl sz42 rfl (Cells.repE h1 (by omega) rfl)) ?_)
   refine g2 ?_
   refine DW.q (v := .pointer (some (Value.at v2 (k * 2)))) (fun _ h => h) rfl (q_indexAddr rfl rfl h2.sl uT32 sz42 (by omega) (by omega) rfl) (DW.q (v := .agg #[iV ((ys.getD k default).Lo), iV ((ys.getD k default).Hi)]) (fun _ h => h) rfl (q_loadAgg rfl uT42 rfl sz42 rfl (Cells.repE h2 (by omega) rfl)) (DW.q (v := .bool (!(decide ((xs.getD k default).Lo = (ys.getD k default).Lo) && decide ((xs.getD k default).Hi = (ys.getD k default).Hi)))) (fun _ h => h) rfl (q_neqS rfl rfl (eqS42 _ _ _ _) eqG42) ?_))
   refine g2 ?_
   refine AW.cond rfl (fun hc3 => ?_) fun hc3 => ?_
   ·
    simp [-List.getD_eq_getElem?_getD] at hc3
    refine g11 ?_
    exact fin_val (v' := .bool false) rfl rfl rfl (by rw [decide_eq_false (fun e => by simp [e] at hc3)])
   ·
    simp [-List.getD_eq_getElem?_getD] at hc3
    refine g8 ?_
    exact Post.back (s' := _) (J' := _) (m' := _) (by omega) ⟨k + 1, rfl, rfl, rfl, (by omega), (Fu.lt_succ heq (Fu.span_ext (by simpa using hc3)))⟩ ⟨rfl, rfl, rfl, trivial⟩ (fun _ h => h)
  ·
   simp [-List.getD_eq_getElem?_getD] at hc2
   refine g11 ?_
   exact fin_val (v' := .bool true) rfl rfl rfl (by rw [decide_eq_true (Fu.getD_ext default (by omega) (fun j hj => heq j (by omega)))])
theorem Index_c (w : World) (Φ : Hp) (hΦ : Hp.le Φ (hp w)) {xs : List Int} {v1 : Value} {v : Int} (h1 : RepSl Φ xs v1) :
  Calls Try.prog 77 #[v1, iV v] w fun e w' => e = .returned (iV (Fu.idx xs v)) ∧ Bel w.heap.size w w' := by
 refine calls_of_AW (args := [v1, iV v]) Try.func77 rfl (Nat.le_of_ble_eq_true rfl) (St ⟨w, Φ, []⟩ Φ []) (StP.init w Φ hΦ []) ?_
 show AW Try.prog 19 [] _ _ _ [(0, v1), (1, iV v)] _
 have hm1 : xs.length * 8 ≤ 140737488355328 := h1.max
 refine g14 ?_
 refine AW.loop (fun s J m => ∃ (k : Nat), s = [(0, v1), (1, iV v), (7, iV (xs.length : Int)), (8, iV (k : Int))] ∧ J = St ⟨w, Φ, []⟩ Φ [] ∧ m = xs.length - k ∧ (k ≤ xs.length) ∧ (∀ j, j < k → xs.getD j 0 ≠ v)) (s0 := _) (J1 := _) (m0 := _) ⟨0, rfl, rfl, rfl, (by omega), (by omega)⟩ ⟨rfl, rfl, rfl, rfl, trivial⟩ (fun _ h => h) ?_
 rintro _ _ _ _ ⟨k, rfl, rfl, rfl, hk, heq⟩
 refine g6 ?_
 refine AW.cond rfl (fun hc1 => ?_) fun hc1 => ?_
 ·
  simp [-List.getD_eq_getElem?_getD] at hc1
  refine g15 ?_
  refine RW.q (v := .pointer (some (Value.at v1 (k * 1)))) rfl (q_indexAddr rfl rfl h1.sl uT29 sz3 (by omega) (by omega) rfl) (RW.q (v := iV (xs.getD k 0)) rfl (q_load rfl uT3 rfl (Cell.repInt h1 (by omega))) ?_)
  refine g3 ?_
  refine AW.cond rfl (fun hc2 => ?_) fun hc2 => ?_
  ·
   simp [-List.getD_eq_getElem?_getD] at hc2
   refine g12 ?_
   exact fin_val (v' := iV (k : Int)) rfl rfl rfl (by rw [Fu.idx_hit (by omega) heq (by omega)])
  ·
   simp [-List.getD_eq_getElem?_getD] at hc2
   refine g7 ?_
   exact Post.back (s' := _) (J' := _) (m' := _) (by omega) ⟨k + 1, rfl, rfl, rfl, (by omega), (Fu.lt_succ heq (by omega))⟩ ⟨rfl, rfl, rfl, rfl, trivial⟩ (fun _ h => h)
 ·
  simp [-List.getD_eq_getElem?_getD] at hc1
  refine g11 ?_
  exact fin_val (v' := iV (-1)) rfl rfl rfl (by rw [Fu.idx_miss (fun j hj => heq j (by omega))])
theorem Contains_c (w : World) (Φ : Hp) (hΦ : Hp.le Φ (hp w)) {xs : List Int} {v1 : Value} {v : Int} (h1 : RepSl Φ xs v1) :
  Calls Try.prog 49 #[v1, iV v] w fun e w' => e = .returned (.bool (decide (v ∈ xs))) ∧ Bel w.heap.size w w' := by
 refine calls_of_AW (args := [v1, iV v]) Try.func49 rfl (Nat.le_of_ble_eq_true rfl) (St ⟨w, Φ, []⟩ Φ []) (StP.init w Φ hΦ []) ?_
 show AW Try.prog 9 [] _ _ _ [(0, v1), (1, iV v)] _
 refine g9 ?_
 refine RW.q (v := iV (Fu.idx xs v)) rfl (q_call (args := #[v1, iV v]) own77 rfl rfl (fun w1 hw1 => Index_c w1 (Go.K.hp w1) (Hp.le_refl _) (h1.mono hw1.phi))) ?_
 refine g5 ?_
 exact fin_val (v' := .bool (decide ((0 : Int) ≤ Fu.idx xs v))) rfl rfl rfl (by rw [Fu.idx_mem])
end Go.Proofs.Ytblfeidlnhdekaa
