/- Lemmas. Conditions: those of each theorem. -/
import Derived.Test.YtblfeidlnhdekaaGreatSSePlD
set_option maxRecDepth 8000
set_option maxHeartbeats 16000000
namespace Go.Proofs.YtblfeidlnhdekaaGreat.Sr
open Go Go.K Go.RowKit
attribute [local irreducible] AW RW DW Post Qt
theorem sz171 : (pg.info? 171).map (·.size) = some 4 := by kernel_rfl
theorem zero171 : (pg.info? 171).map (·.zero) = some (some (.agg #[iV 0, iV 0, iV 0, iV 0])) := by kernel_rfl
instance : ZL pg 171 [iV 0, iV 0, iV 0, iV 0] := ⟨_, zero171, rfl⟩
instance : SZ pg 171 4 := ⟨sz171⟩
instance : AG pg 171 4 := ⟨_, uT171, rfl, sz171⟩
theorem eqS171 (a0 a1 a2 a3 b0 b1 b2 b3 : Int) : ∀ w, (Op.equal 171 (.agg #[iV a0, iV a1, iV a2, iV a3]) (.agg #[iV b0, iV b1, iV b2, iV b3])).run pg w = .ok (decide (a0 = b0) && decide (a1 = b1) && decide (a2 = b2) && decide (a3 = b3)) w := fun w => by
 have h := run_equal_ints (P := pg) (t := 171) uT171 uT3 ((mS sz3).imp fun _ h => h.1) (by kernel_rfl) [a0, a1, a2, a3] [b0, b1, b2, b3] rfl rfl w
 rw [show (#[iV a0, iV a1, iV a2, iV a3] : Array Value) = ([a0, a1, a2, a3].map (Value.int .i64)).toArray from rfl, show (#[iV b0, iV b1, iV b2, iV b3] : Array Value) = ([b0, b1, b2, b3].map (Value.int .i64)).toArray from rfl, h]
 refine congrArg (fun q => Result.ok q w) ?_
 by_cases h0 : a0 = b0 <;> by_cases h1 : a1 = b1 <;> by_cases h2 : a2 = b2 <;> by_cases h3 : a3 = b3 <;> simp [*]
theorem eqG171 : Program.eqGuardType pg pg.depth 171 = false := by kernel_rfl
theorem eqF57 (a0 a1 a2 a3 b0 b1 b2 b3 : Int) (a4 b4 : ByteArray) (n : Nat) (w : World) : (Op.eqFields (n + 1) #[iV a0, iV a1, iV a2, iV a3, .string a4] #[iV b0, iV b1, iV b2, iV b3, .string b4] (pg.fieldsOf 57).toList).run pg w = .ok (decide (a0 = b0) && decide (a1 = b1) && decide (a2 = b2) && decide (a3 = b3) && decide (a4.data.toList = b4.data.toList)) w := by
 unfold Program.fieldsOf
 rw [uT57]
 have hp3 : ∀ {cs : Array Value} {o : Nat} {v : Value} (h : cs[o]? = some v) (w : World), (part 3 cs o).run pg w = .ok v w := fun h w => run_part1 uT3 rfl h w
 have hq3 : ∀ (x y : Int) (w : World), (Op.equalIn (n + 1) 3 (iV x) (iV y)).run pg w = .ok (x == y) w := fun x y w => run_equalIn_int w (n + 0) 3 .i64 .i64 x y uT3
 have hp9 : ∀ {cs : Array Value} {o : Nat} {v : Value} (h : cs[o]? = some v) (w : World), (part 9 cs o).run pg w = .ok v w := fun h w => run_part1 uT9 rfl h w
 have hq9 : ∀ (x y : ByteArray) (w : World), (Op.equalIn (n + 1) 9 (.string x) (.string y)).run pg w = .ok (decide (x.data.toList = y.data.toList)) w := fun x y w => by
  rw [show n + 1 = (n + 0) + 1 from rfl, run_equalIn_string w (n + 0) 9 x y uT9]
  congr 1; rw [ByteArray.toList_eq, ByteArray.toList_eq]; cases h8 : (x.data.toList == y.data.toList) with | true => rw [decide_eq_true (beq_iff_eq.1 h8)] | false => rw [decide_eq_false (fun h => by rw [beq_iff_eq.2 h] at h8; cases h8)]
 simp only [Op.eqFields, ne_eq, String.reduceEq, not_false_eq_true, if_true, Sem.run_bind, hp3 (show #[Value.int .i64 a0, Value.int .i64 a1, Value.int .i64 a2, Value.int .i64 a3, Value.string a4][0]? = some (iV a0) from rfl), hp3 (show #[Value.int .i64 b0, Value.int .i64 b1, Value.int .i64 b2, Value.int .i64 b3, Value.string b4][0]? = some (iV b0) from rfl), hp3 (show #[Value.int .i64 a0, Value.int .i64 a1, Value.int .i64 a2, Value.int .i64 a3, Value.string a4][1]? = some (iV a1) from rfl), hp3 (show #[Value.int .i64 b0, Value.int .i64 b1, Value.int .i64 b2, Value.int .i64 b3, Value.string b4][1]? = some (iV b1) from rfl), hp3 (show #[Value.int .i64 a0, Value.int .i64 a1, Value.int .i64 a2, Value.int .i64 a3, Value.string a4][2]? = some (iV a2) from rfl), hp3 (show #[Value.int .i64 b0, Value.int .i64 b1, Value.int .i64 b2, Value.int .i64 b3, Value.string b4][2]? = some (iV b2) from rfl), hp3 (show #[Value.int .i64 a0, Value.int .i64 a1, Value.int .i64 a2, Value.int .i64 a3, Value.string a4][3]? = some (iV a3) from rfl), hp3 (show #[Value.int .i64 b0, Value.int .i64 b1, Value.int .i64 b2, Value.int .i64 b3, Value.string b4][3]? = some (iV b3) from rfl), hp9 (show #[Value.int .i64 a0, Value.int .i64 a1, Value.int .i64 a2, Value.int .i64 a3, Value.string a4][4]? = some (.string a4) from rfl), hp9 (show #[Value.int .i64 b0, Value.int .i64 b1, Value.int .i64 b2, Value.int .i64 b3, Value.string b4][4]? = some (.string b4) from rfl), hq3, hq9, Result.andThen_ok, Sem.run_ite, Sem.run_pure]
 by_cases h0 : a0 = b0 <;> by_cases h1 : a1 = b1 <;> by_cases h2 : a2 = b2 <;> by_cases h3 : a3 = b3 <;> by_cases h4 : a4.data.toList = b4.data.toList <;> simp [*]
theorem eqS57 (a0 a1 a2 a3 b0 b1 b2 b3 : Int) (a4 b4 : ByteArray) : ∀ w, (Op.equal 57 (.agg #[iV a0, iV a1, iV a2, iV a3, .string a4]) (.agg #[iV b0, iV b1, iV b2, iV b3, .string b4])).run pg w = .ok (decide (a0 = b0) && decide (a1 = b1) && decide (a2 = b2) && decide (a3 = b3) && decide (a4.data.toList = b4.data.toList)) w := fun w => by
 have hT : pg.underlying 57 = some (.struct (pg.fieldsOf 57)) := by unfold Program.fieldsOf; rw [uT57]
 show (Op.equalIn (9999 + 1) 57 _ _).run pg w = _
 rw [run_equalIn_struct w 9999 57 _ _ hT (by kernel_rfl)]
 exact eqF57 a0 a1 a2 a3 b0 b1 b2 b3 a4 b4 9998 w
theorem eqG57 : Program.eqGuardType pg pg.depth 57 = false := by kernel_rfl
theorem Add_c (w : World) (Φ : Hp) (hΦ : Hp.le Φ (hp w)) {x y : Int} (hx : I64 x) (hy : I64 y) :
  Calls pg 24 #[iV x, iV y] w fun e w' => e = .returned (iV (Se.addS x y)) ∧ Bel w.heap.size w w' := by
 refine in2 24 Tryz.func24 rfl rfl hΦ ?_
 unfold I64 at hx hy
 refine gs13 ?_
 refine RW.g (b := (decide ((0 : Int) < y))) (v := iV (9223372036854775807 - y)) rfl rfl rfl (fun h => q_sub rfl (gv_pos h) (by (try simp [-List.getD_eq_getElem?_getD] at h); omega) (by (try simp [-List.getD_eq_getElem?_getD] at h); unfold I64; omega)) ?_
 refine gs1 ?_
 refine RW.q (v := .bool ((decide ((0 : Int) < y)) && (decide (9223372036854775807 - y < x)))) rfl (qpA rfl rfl rfl) ?_
 refine gs2 ?_
 refine AW.cond rfl (fun hc1 => ?_) fun hc1 => ?_
 ·
  simp [-List.getD_eq_getElem?_getD] at hc1
  refine gs7 ?_
  exact fin_val (v' := iV 9223372036854775807) rfl rfl rfl (by unfold Se.addS; rw [if_pos (by omega)])
 ·
  simp [-List.getD_eq_getElem?_getD] at hc1
  refine gs10 ?_
  refine RW.g (b := (decide (y < 0))) (v := iV ((-9223372036854775808) - y)) rfl rfl rfl (fun h => q_sub rfl (gv_pos h) (by (try simp [-List.getD_eq_getElem?_getD] at h); omega) (by (try simp [-List.getD_eq_getElem?_getD] at h); unfold I64; omega)) ?_
  refine gs1 ?_
  refine RW.q (v := .bool ((decide (y < 0)) && (decide (x < (-9223372036854775808) - y)))) rfl (qpA rfl rfl rfl) ?_
  refine gs2 ?_
  refine AW.cond rfl (fun hc2 => ?_) fun hc2 => ?_
  ·
   simp [-List.getD_eq_getElem?_getD] at hc2
   refine gs7 ?_
   exact fin_val (v' := iV (-9223372036854775808)) rfl rfl rfl (by unfold Se.addS; rw [if_neg (by omega), if_pos (by omega)])
  ·
   simp [-List.getD_eq_getElem?_getD] at hc2
   refine gs11 ?_
   exact fin_val (v' := iV (x + y)) rfl rfl rfl (by unfold Se.addS; rw [if_neg (by omega), if_neg (by omega)])
theorem Sub_c (w : World) (Φ : Hp) (hΦ : Hp.le Φ (hp w)) {x y : Int} (hx : I64 x) (hy : I64 y) :
  Calls pg 23 #[iV x, iV y] w fun e w' => e = .returned (iV (Se.subS x y)) ∧ Bel w.heap.size w w' := by
 refine in2 24 Tryz.func23 rfl rfl hΦ ?_
 unfold I64 at hx hy
 refine gs13 ?_
 refine RW.g (b := (decide (y < 0))) (v := iV (9223372036854775807 + y)) rfl rfl rfl (fun h => q_add rfl (gv_pos h) (by (try simp [-List.getD_eq_getElem?_getD] at h); omega) (by (try simp [-List.getD_eq_getElem?_getD] at h); unfold I64; omega)) ?_
 refine gs1 ?_
 refine RW.q (v := .bool ((decide (y < 0)) && (decide (9223372036854775807 + y < x)))) rfl (qpA rfl rfl rfl) ?_
 refine gs2 ?_
 refine AW.cond rfl (fun hc1 => ?_) fun hc1 => ?_
 ·
  simp [-List.getD_eq_getElem?_getD] at hc1
  refine gs7 ?_
  exact fin_val (v' := iV 9223372036854775807) rfl rfl rfl (by unfold Se.subS; rw [if_pos (by omega)])
 ·
  simp [-List.getD_eq_getElem?_getD] at hc1
  refine gs10 ?_
  refine RW.g (b := (decide ((0 : Int) < y))) (v := iV ((-9223372036854775808) + y)) rfl rfl rfl (fun h => q_add rfl (gv_pos h) (by (try simp [-List.getD_eq_getElem?_getD] at h); omega) (by (try simp [-List.getD_eq_getElem?_getD] at h); unfold I64; omega)) ?_
  refine gs1 ?_
  refine RW.q (v := .bool ((decide ((0 : Int) < y)) && (decide (x < (-9223372036854775808) + y)))) rfl (qpA rfl rfl rfl) ?_
  refine gs2 ?_
  refine AW.cond rfl (fun hc2 => ?_) fun hc2 => ?_
  ·
   simp [-List.getD_eq_getElem?_getD] at hc2
   refine gs7 ?_
   exact fin_val (v' := iV (-9223372036854775808)) rfl rfl rfl (by unfold Se.subS; rw [if_neg (by omega), if_pos (by omega)])
  ·
   simp [-List.getD_eq_getElem?_getD] at hc2
   refine gs11 ?_
   exact fin_val (v' := iV (x - y)) rfl rfl rfl (by unfold Se.subS; rw [if_neg (by omega), if_neg (by omega)])
theorem sRight_c (w : World) (Φ : Hp) (hΦ : Hp.le Φ (hp w)) {aL aH : Int} :
  Calls pg 25 #[.agg #[iV aL, iV aH]] w fun e w' => e = .returned (.bool (decide (aL ≤ aH))) ∧ Bel w.heap.size w w' := by
 refine in1 8 Tryz.func25 rfl rfl hΦ ?_
 refine gs2 ?_
 refine RW.bxA rfl rfl fun b1 => ?_
 refine gs14 ?_
 exact fin_val (v' := .bool (decide (aL ≤ aH))) rfl rfl rfl (rfl)
theorem floor_c (w : World) (Φ : Hp) (hΦ : Hp.le Φ (hp w)) {n : Int} (hn : I64 n) :
  Calls pg 68 #[iV n] w fun e w' => e = .returned (iV (n / 60)) ∧ Bel w.heap.size w w' := by
 refine in1 12 Tryz.func68 rfl rfl hΦ ?_
 have h1 := Int.mul_tdiv_add_tmod n 60
 have h2 := Int.tmod_lt_of_pos n (show (0 : Int) < 60 by decide)
 have h3 := Int.lt_tmod_of_pos n (show (0 : Int) < 60 by decide)
 unfold I64 at hn
 refine gs8 ?_
 refine RW.q (v := iV (n.tdiv 60)) rfl (q_quo rfl rfl (by omega) rfl (by unfold I64; omega)) ?_
 refine gs7 ?_
 refine RW.q (v := iV (n.tmod 60)) rfl (q_rem rfl rfl (by omega) rfl) ?_
 refine gs3 ?_
 refine AW.cond rfl (fun hc1 => ?_) fun hc1 => ?_
 ·
  simp [-List.getD_eq_getElem?_getD] at hc1
  refine gs13 ?_
  exact fin_val (v' := iV ((n.tdiv 60) - 1)) rfl rfl rfl (congrArg (Value.int .i64) (by omega))
 ·
  simp [-List.getD_eq_getElem?_getD] at hc1
  refine gs9 ?_
  exact fin_val (v' := iV (n.tdiv 60)) rfl rfl rfl (congrArg (Value.int .i64) (by omega))
theorem hourOf_c (w : World) (Φ : Hp) (hΦ : Hp.le Φ (hp w)) {q : Bt.Gauge} {t : Bt.Gram} (hck : 0 ≤ t.Clock ∧ t.Clock ≤ 1006633019) :
  Calls pg 22 #[.agg #[.string q.Name, iV q.Kind, iV q.Target, iV q.Err, iV q.Drift], .agg #[iV t.Gauge, iV t.Seq, iV t.Clock, iV t.Value, .string t.Tag]] w fun e w' => e = .returned (.tuple #[iV (if 0 ≤ q.Drift ∧ q.Drift < 60 then Se.hourT q t else 0), .bool (decide (Se.Sure q t))]) ∧ Bel w.heap.size w w' := by
 refine in2 30 Tryz.func22 rfl rfl hΦ ?_
 have hc := hck
 refine gs2 ?_
 refine RW.bxA rfl rfl fun b1 => ?_
 refine RW.bxA rfl rfl fun b2 => ?_
 refine gs14 ?_
 refine RW.q (v := .bool ((decide (q.Drift < 0)) || (decide ((60 : Int) ≤ q.Drift)))) rfl (qpO rfl rfl rfl) ?_
 refine gs2 ?_
 refine AW.cond rfl (fun hc1 => ?_) fun hc1 => ?_
 ·
  simp [-List.getD_eq_getElem?_getD] at hc1
  refine gs8 ?_
  refine fin_out2 (v := iV 0) (u := .bool false) rfl rfl rfl rfl (fun w' hw => ?_)
  refine ⟨?_, hw.below rfl⟩
  rw [if_neg (by omega), decide_eq_false (fun h => by have h1 := h.1; have h2 := h.2.1; omega)]
 ·
  simp [-List.getD_eq_getElem?_getD] at hc1
  refine gs9 ?_
  refine RW.c rfl (fun w1 hw1 => floor_c w1 (Go.K.hp w1) (Hp.le_refl _) (by unfold I64; omega)) rfl rfl ?_
  refine gs12 ?_
  refine RW.c rfl (fun w1 hw1 => floor_c w1 (Go.K.hp w1) (Hp.le_refl _) (by unfold I64; omega)) rfl rfl ?_
  refine gs6 ?_
  refine fin_out2 (v := iV ((t.Clock - q.Drift) / 60)) (u := .bool (decide ((t.Clock - q.Drift) / 60 = (t.Clock + q.Drift) / 60))) rfl rfl rfl rfl (fun w' hw => ?_)
  refine ⟨?_, hw.below rfl⟩
  rw [if_pos (by omega)]
  unfold Se.hourT
  rw [show decide (Se.Sure q t) = decide ((t.Clock - q.Drift) / 60 = (t.Clock + q.Drift) / 60) from decide_eq_decide.2 ⟨fun h => h.2.2, fun h => ⟨by omega, by omega, h⟩⟩]
theorem numbers_c (w : World) (Φ : Hp) (hΦ : Hp.le Φ (hp w)) {t : Bt.Gram} :
  Calls pg 95 #[.agg #[iV t.Gauge, iV t.Seq, iV t.Clock, iV t.Value, .string t.Tag]] w fun e w' => e = .returned (.agg #[iV t.Gauge, iV t.Seq, iV t.Clock, iV t.Value]) ∧ Bel w.heap.size w w' := by
 refine in1 12 Tryz.func95 rfl rfl hΦ ?_
 refine gs2 ?_
 refine RW.bxA rfl rfl fun b1 => ?_
 refine RW.alc rfl fun b2 => ?_
 refine gs12 ?_
 refine RW.q (v := .agg #[iV t.Gauge, iV t.Seq, iV t.Clock, iV t.Value]) rfl (q_buildArr (vals := [(0, iV t.Gauge), (1, iV t.Seq), (2, iV t.Clock), (3, iV t.Value)]) zero171 uT171 sz3 rfl rfl) ?_
 refine gs4 ?_
 refine fin_cell1 (cs := [iV t.Gauge, iV t.Seq, iV t.Clock, iV t.Value]) rfl rfl rfl uT171 rfl sz171 rfl (Cells.blk 0 rfl) (fun w' hw => ?_)
 refine ⟨?_, hw.below rfl⟩
 rfl
theorem wellFormed_c (w : World) (Φ : Hp) (hΦ : Hp.le Φ (hp w)) {t : Bt.Gram} :
  Calls pg 67 #[.agg #[iV t.Gauge, iV t.Seq, iV t.Clock, iV t.Value, .string t.Tag]] w fun e w' => e = .returned (.bool (decide (Se.Formed t))) ∧ Bel w.heap.size w w' := by
 refine in1 39 Tryz.func67 rfl rfl hΦ ?_
 refine gs2 ?_
 refine RW.bxA rfl rfl fun b1 => ?_
 refine gs5 ?_
 refine RW.q (v := .agg #[iV 0, iV 0, iV 0, iV (-1099511627776)]) rfl (q_buildArr (vals := [(0, iV 0), (1, iV 0), (2, iV 0), (3, iV (-1099511627776))]) zero171 uT171 sz3 rfl rfl) ?_
 refine RW.alc rfl fun b2 => ?_
 refine gs5 ?_
 refine RW.q (v := .agg #[iV 127, iV 1099511627776, iV 1006633019, iV 1099511627776]) rfl (q_buildArr (vals := [(0, iV 127), (1, iV 1099511627776), (2, iV 1006633019), (3, iV 1099511627776)]) zero171 uT171 sz3 rfl rfl) ?_
 refine RW.alc rfl fun b3 => ?_
 refine gs6 ?_
 refine RW.c rfl (fun w1 hw1 => numbers_c w1 (Go.K.hp w1) (Hp.le_refl _) (t := t)) rfl rfl ?_
 refine RW.alc rfl fun b4 => ?_
 refine gs11 ?_
 refine AW.lp (fun s J m => ∃ (k : Nat), ∃ (c0 : Int), ∃ (c1 : Int), ∃ (c2 : Int), ∃ (c3 : Int), s = [(1, pV b1 0), (2, .bool false), (3, pV b2 0), (4, pV b3 0), (5, pV b4 0), (12, .agg #[iV t.Gauge, iV t.Seq, iV t.Clock, iV t.Value]), (13, iV (k : Int))] ∧ J = St ⟨w, Φ, []⟩ Φ [.blk b4 171 [iV c0, iV c1, iV c2, iV c3], .blk b3 171 [iV 127, iV 1099511627776, iV 1006633019, iV 1099511627776], .blk b2 171 [iV 0, iV 0, iV 0, iV (-1099511627776)], .blk b1 57 [iV t.Gauge, iV t.Seq, iV t.Clock, iV t.Value, .string t.Tag]] ∧ m = 4 - k ∧ (k ≤ 4) ∧ (c0 = if 0 < k then max 0 (min 127 t.Gauge) else t.Gauge) ∧ (c1 = if 1 < k then max 0 (min 1099511627776 t.Seq) else t.Seq) ∧ (c2 = if 2 < k then max 0 (min 1006633019 t.Clock) else t.Clock) ∧ (c3 = if 3 < k then max (-1099511627776) (min 1099511627776 t.Value) else t.Value)) ⟨0, t.Gauge, t.Seq, t.Clock, t.Value, rfl, rfl, rfl, (by omega), rfl, rfl, rfl, rfl⟩ ?_
 rintro _ _ _ _ ⟨k, c0, c1, c2, c3, rfl, rfl, rfl, hk, hc0_, hc1_, hc2_, hc3_⟩
 refine gs6 ?_
 refine AW.cond rfl (fun hc1 => ?_) fun hc1 => ?_
 ·
  simp [-List.getD_eq_getElem?_getD] at hc1
  refine gs5 ?_
  rcases (show k = 0 ∨ k = 1 ∨ k = 2 ∨ k = 3 by omega) with rfl | rfl | rfl | rfl
  ·
   refine gs2 ?_
   refine RW.q (v := iV t.Gauge) rfl (q_indexA1 (cs := #[iV t.Gauge, iV t.Seq, iV t.Clock, iV t.Value]) rfl rfl uT171 uT3 rfl sz3 (by decide) (by decide) rfl) ?_
   refine gs4 ?_
   refine AW.draw (J0 := St ⟨w, Φ, []⟩ Φ [.blk b4 171 [iV c0, iV c1, iV c2, iV c3], .blk b3 171 [iV 127, iV 1099511627776, iV 1006633019, iV 1099511627776], .blk b2 171 [iV 0, iV 0, iV 0, iV (-1099511627776)], .blk b1 57 [iV t.Gauge, iV t.Seq, iV t.Clock, iV t.Value, .string t.Tag]]) [.q, .q, .q, .q, .q, .q, .q, .q, .q, .q, .q, .e] [0, 1, 2, 3, 4, 5, 6, 7, 8, 9, 10, 11] hmix (by kernel_rfl) ?_
   refine gs2 ?_
   refine DW.q (v := pV b2 0) (fun _ h => h) rfl (q_indexAddrA (i := ((0 : Nat) : Int)) rfl rfl uT171 sz3 (by decide) (by decide) rfl) ?_
   refine gs2 ?_
   refine DW.q (v := pV b3 0) (fun _ h => h) rfl (q_indexAddrA (i := ((0 : Nat) : Int)) rfl rfl uT171 sz3 (by decide) (by decide) rfl) ?_
   refine gs4 ?_
   refine DW.q (v := pV b4 0) (fun _ h => h) rfl (q_indexAddrA (i := ((0 : Nat) : Int)) rfl rfl uT171 sz3 (by decide) (by decide) rfl) (DW.effn (J' := St ⟨w, Φ, []⟩ Φ [.blk b4 171 [iV (max 0 (min 127 t.Gauge)), iV c1, iV c2, iV c3], .blk b3 171 [iV 127, iV 1099511627776, iV 1006633019, iV 1099511627776], .blk b2 171 [iV 0, iV 0, iV 0, iV (-1099511627776)], .blk b1 57 [iV t.Gauge, iV t.Seq, iV t.Clock, iV t.Value, .string t.Tag]]) (fun h => absurd rfl h) (e_store (v := iV (max 0 (min 127 t.Gauge))) 0 rfl rfl rfl sz3 rfl rfl rfl rfl rfl) ?_)
   refine gs7 ?_
   exact Post.bk ⟨1, max 0 (min 127 t.Gauge), c1, c2, c3, rfl, rfl, rfl, (by omega), (by first | rfl | (rw [hc0_]; rfl)), (by first | rfl | (rw [hc1_]; rfl)), (by first | rfl | (rw [hc2_]; rfl)), (by first | rfl | (rw [hc3_]; rfl))⟩
  ·
   refine gs2 ?_
   refine RW.q (v := iV t.Seq) rfl (q_indexA1 (cs := #[iV t.Gauge, iV t.Seq, iV t.Clock, iV t.Value]) rfl rfl uT171 uT3 rfl sz3 (by decide) (by decide) rfl) ?_
   refine gs4 ?_
   refine AW.draw (J0 := St ⟨w, Φ, []⟩ Φ [.blk b4 171 [iV c0, iV c1, iV c2, iV c3], .blk b3 171 [iV 127, iV 1099511627776, iV 1006633019, iV 1099511627776], .blk b2 171 [iV 0, iV 0, iV 0, iV (-1099511627776)], .blk b1 57 [iV t.Gauge, iV t.Seq, iV t.Clock, iV t.Value, .string t.Tag]]) [.q, .q, .q, .q, .q, .q, .q, .q, .q, .q, .q, .e] [0, 1, 2, 3, 4, 5, 6, 7, 8, 9, 10, 11] hmix (by kernel_rfl) ?_
   refine gs2 ?_
   refine DW.q (v := pV b2 1) (fun _ h => h) rfl (q_indexAddrA (i := ((1 : Nat) : Int)) rfl rfl uT171 sz3 (by decide) (by decide) rfl) ?_
   refine gs2 ?_
   refine DW.q (v := pV b3 1) (fun _ h => h) rfl (q_indexAddrA (i := ((1 : Nat) : Int)) rfl rfl uT171 sz3 (by decide) (by decide) rfl) ?_
   refine gs4 ?_
   refine DW.q (v := pV b4 1) (fun _ h => h) rfl (q_indexAddrA (i := ((1 : Nat) : Int)) rfl rfl uT171 sz3 (by decide) (by decide) rfl) (DW.effn (J' := St ⟨w, Φ, []⟩ Φ [.blk b4 171 [iV c0, iV (max 0 (min 1099511627776 t.Seq)), iV c2, iV c3], .blk b3 171 [iV 127, iV 1099511627776, iV 1006633019, iV 1099511627776], .blk b2 171 [iV 0, iV 0, iV 0, iV (-1099511627776)], .blk b1 57 [iV t.Gauge, iV t.Seq, iV t.Clock, iV t.Value, .string t.Tag]]) (fun h => absurd rfl h) (e_store (v := iV (max 0 (min 1099511627776 t.Seq))) 0 rfl rfl rfl sz3 rfl rfl rfl rfl rfl) ?_)
   refine gs7 ?_
   exact Post.bk ⟨2, c0, max 0 (min 1099511627776 t.Seq), c2, c3, rfl, rfl, rfl, (by omega), (by first | rfl | (rw [hc0_]; rfl)), (by first | rfl | (rw [hc1_]; rfl)), (by first | rfl | (rw [hc2_]; rfl)), (by first | rfl | (rw [hc3_]; rfl))⟩
  ·
   refine gs2 ?_
   refine RW.q (v := iV t.Clock) rfl (q_indexA1 (cs := #[iV t.Gauge, iV t.Seq, iV t.Clock, iV t.Value]) rfl rfl uT171 uT3 rfl sz3 (by decide) (by decide) rfl) ?_
   refine gs4 ?_
   refine AW.draw (J0 := St ⟨w, Φ, []⟩ Φ [.blk b4 171 [iV c0, iV c1, iV c2, iV c3], .blk b3 171 [iV 127, iV 1099511627776, iV 1006633019, iV 1099511627776], .blk b2 171 [iV 0, iV 0, iV 0, iV (-1099511627776)], .blk b1 57 [iV t.Gauge, iV t.Seq, iV t.Clock, iV t.Value, .string t.Tag]]) [.q, .q, .q, .q, .q, .q, .q, .q, .q, .q, .q, .e] [0, 1, 2, 3, 4, 5, 6, 7, 8, 9, 10, 11] hmix (by kernel_rfl) ?_
   refine gs2 ?_
   refine DW.q (v := pV b2 2) (fun _ h => h) rfl (q_indexAddrA (i := ((2 : Nat) : Int)) rfl rfl uT171 sz3 (by decide) (by decide) rfl) ?_
   refine gs2 ?_
   refine DW.q (v := pV b3 2) (fun _ h => h) rfl (q_indexAddrA (i := ((2 : Nat) : Int)) rfl rfl uT171 sz3 (by decide) (by decide) rfl) ?_
   refine gs4 ?_
   refine DW.q (v := pV b4 2) (fun _ h => h) rfl (q_indexAddrA (i := ((2 : Nat) : Int)) rfl rfl uT171 sz3 (by decide) (by decide) rfl) (DW.effn (J' := St ⟨w, Φ, []⟩ Φ [.blk b4 171 [iV c0, iV c1, iV (max 0 (min 1006633019 t.Clock)), iV c3], .blk b3 171 [iV 127, iV 1099511627776, iV 1006633019, iV 1099511627776], .blk b2 171 [iV 0, iV 0, iV 0, iV (-1099511627776)], .blk b1 57 [iV t.Gauge, iV t.Seq, iV t.Clock, iV t.Value, .string t.Tag]]) (fun h => absurd rfl h) (e_store (v := iV (max 0 (min 1006633019 t.Clock))) 0 rfl rfl rfl sz3 rfl rfl rfl rfl rfl) ?_)
   refine gs7 ?_
   exact Post.bk ⟨3, c0, c1, max 0 (min 1006633019 t.Clock), c3, rfl, rfl, rfl, (by omega), (by first | rfl | (rw [hc0_]; rfl)), (by first | rfl | (rw [hc1_]; rfl)), (by first | rfl | (rw [hc2_]; rfl)), (by first | rfl | (rw [hc3_]; rfl))⟩
  ·
   refine gs2 ?_
   refine RW.q (v := iV t.Value) rfl (q_indexA1 (cs := #[iV t.Gauge, iV t.Seq, iV t.Clock, iV t.Value]) rfl rfl uT171 uT3 rfl sz3 (by decide) (by decide) rfl) ?_
   refine gs4 ?_
   refine AW.draw (J0 := St ⟨w, Φ, []⟩ Φ [.blk b4 171 [iV c0, iV c1, iV c2, iV c3], .blk b3 171 [iV 127, iV 1099511627776, iV 1006633019, iV 1099511627776], .blk b2 171 [iV 0, iV 0, iV 0, iV (-1099511627776)], .blk b1 57 [iV t.Gauge, iV t.Seq, iV t.Clock, iV t.Value, .string t.Tag]]) [.q, .q, .q, .q, .q, .q, .q, .q, .q, .q, .q, .e] [0, 1, 2, 3, 4, 5, 6, 7, 8, 9, 10, 11] hmix (by kernel_rfl) ?_
   refine gs2 ?_
   refine DW.q (v := pV b2 3) (fun _ h => h) rfl (q_indexAddrA (i := ((3 : Nat) : Int)) rfl rfl uT171 sz3 (by decide) (by decide) rfl) ?_
   refine gs2 ?_
   refine DW.q (v := pV b3 3) (fun _ h => h) rfl (q_indexAddrA (i := ((3 : Nat) : Int)) rfl rfl uT171 sz3 (by decide) (by decide) rfl) ?_
   refine gs4 ?_
   refine DW.q (v := pV b4 3) (fun _ h => h) rfl (q_indexAddrA (i := ((3 : Nat) : Int)) rfl rfl uT171 sz3 (by decide) (by decide) rfl) (DW.effn (J' := St ⟨w, Φ, []⟩ Φ [.blk b4 171 [iV c0, iV c1, iV c2, iV (max (-1099511627776) (min 1099511627776 t.Value))], .blk b3 171 [iV 127, iV 1099511627776, iV 1006633019, iV 1099511627776], .blk b2 171 [iV 0, iV 0, iV 0, iV (-1099511627776)], .blk b1 57 [iV t.Gauge, iV t.Seq, iV t.Clock, iV t.Value, .string t.Tag]]) (fun h => absurd rfl h) (e_store (v := iV (max (-1099511627776) (min 1099511627776 t.Value))) 0 rfl rfl rfl sz3 rfl rfl rfl rfl rfl) ?_)
   refine gs7 ?_
   exact Post.bk ⟨4, c0, c1, c2, max (-1099511627776) (min 1099511627776 t.Value), rfl, rfl, rfl, (by omega), (by first | rfl | (rw [hc0_]; rfl)), (by first | rfl | (rw [hc1_]; rfl)), (by first | rfl | (rw [hc2_]; rfl)), (by first | rfl | (rw [hc3_]; rfl))⟩
 ·
  simp [-List.getD_eq_getElem?_getD] at hc1
  refine gs6 ?_
  have hk4 : k = 4 := by omega
  subst hk4
  rw [if_pos (by decide)] at hc0_ hc1_ hc2_ hc3_
  refine AW.draw (J0 := St ⟨w, Φ, []⟩ Φ [.blk b4 171 [iV c0, iV c1, iV c2, iV c3], .blk b3 171 [iV 127, iV 1099511627776, iV 1006633019, iV 1099511627776], .blk b2 171 [iV 0, iV 0, iV 0, iV (-1099511627776)], .blk b1 57 [iV t.Gauge, iV t.Seq, iV t.Clock, iV t.Value, .string t.Tag]]) [.q, .q, .q, .q, .q, .q, .q, .q, .q, .q, .q] [0, 1, 2, 3, 4, 5, 6, 7, 8, 9, 10] hmix (by kernel_rfl) ?_
  refine gs2 ?_
  refine DW.c (fun _ h => h) rfl (fun w1 hw1 => numbers_c w1 (Go.K.hp w1) (Hp.le_refl _) (t := t)) rfl rfl (DW.q (v := .bool (decide (c0 = t.Gauge) && decide (c1 = t.Seq) && decide (c2 = t.Clock) && decide (c3 = t.Value))) (fun _ h => h) rfl (q_eqlS rfl rfl (eqS171 _ _ _ _ _ _ _ _) eqG171) ?_)
  refine gs3 ?_
  refine DW.g (b := (decide (c0 = t.Gauge) && decide (c1 = t.Seq) && decide (c2 = t.Clock) && decide (c3 = t.Value))) (v := iV (t.Tag.data.toList.length : Int)) (fun _ h => h) rfl rfl rfl (fun h => q_lenS (l := t.Tag.data.toList) (gv_pos h) uT9) ?_
  refine gs1 ?_
  refine DW.q (v := .bool ((decide (c0 = t.Gauge) && decide (c1 = t.Seq) && decide (c2 = t.Clock) && decide (c3 = t.Value)) && (decide ((t.Tag.data.toList.length : Int) = 8)))) (fun _ h => h) rfl (qpA rfl rfl rfl) ?_
  refine gs4 ?_
  exact fin_val (v' := .bool ((decide (c0 = t.Gauge) && decide (c1 = t.Seq) && decide (c2 = t.Clock) && decide (c3 = t.Value)) && (decide ((t.Tag.data.toList.length : Int) = 8)))) rfl rfl rfl (by rw [hc0_, hc1_, hc2_, hc3_]; exact congrArg Value.bool (Se.formed_iff t))
theorem Right_c (w : World) (Φ : Hp) (hΦ : Hp.le Φ (hp w)) {b : Bt.Basin} {cs : List Value} (hB : RepV Φ b cs) {t : Bt.Gram} :
  Calls pg 21 #[.agg cs.toArray, .agg #[iV t.Gauge, iV t.Seq, iV t.Clock, iV t.Value, .string t.Tag]] w fun e w' => e = .returned (.bool (decide (Se.Right b.Gauges.length t))) ∧ Bel w.heap.size w w' := by
 obtain ⟨v1, v3, v4, v5, v6, v7, v8, v9, hcs, hBw, r1, r3, r4, r5, r6, r7, r8, r9⟩ := (show Rep.rep Φ b cs from hB)
 subst hcs
 have hgm : b.Gauges.length * 48 ≤ 140737488355328 := r6.max
 refine in2 15 Tryz.func21 rfl rfl hΦ ?_
 refine gs2 ?_
 refine RW.bxA rfl rfl fun b1 => ?_
 refine RW.bxA rfl rfl fun b2 => ?_
 refine gs6 ?_
 refine RW.c rfl (fun w1 hw1 => wellFormed_c w1 (Go.K.hp w1) (Hp.le_refl _) (t := t)) rfl rfl ?_
 refine gs7 ?_
 refine RW.q (v := .bool ((decide (Se.Formed t)) && (decide (t.Gauge < (b.Gauges.length : Int))))) rfl (qpA rfl rfl rfl) ?_
 refine gs4 ?_
 exact fin_val (v' := .bool ((decide (Se.Formed t)) && (decide (t.Gauge < (b.Gauges.length : Int))))) rfl rfl rfl (by rw [← Se.right_iff])
end Go.Proofs.YtblfeidlnhdekaaGreat.Sr
namespace Go.Proofs.YtblfeidlnhdekaaGreat.Sr
open Go Go.K Go.RowKit
attribute [local irreducible] AW RW DW Post Qt
theorem voids_c {B : Bs} {Φ : Hp} {C : List Chunk} (_ : B.E = []) {xs : List Bt.Gram} {v1 : Value} (h1 : RepSl Φ xs v1) (w : World) (hW : (St B Φ C).p w) :
  Calls pg 20 #[v1] w fun e w' => ∃ x : Nat, e = .returned (.map (some x)) ∧ (St B Φ (.kmap kInt Value.bool x (Se.voidM xs) :: C)).p w' := by
 refine inJ1 42 Tryz.func20 rfl rfl (J := St B Φ C) hW ?_
 have hm1 : xs.length * 48 ≤ 140737488355328 := h1.max
 refine gs7 ?_
 refine RW.eff (fun b1 : Nat => .map (some b1)) (fun b1 => St B Φ ((.kmap kNum gramV b1 (fun _ => none)) :: C)) rfl (e_kmake kNum gramV) ?_
 intro b1
 refine gs5 ?_
 refine RW.eff (fun b2 : Nat => .map (some b2)) (fun b2 => St B Φ ((.kmap kInt Value.bool b2 (fun _ => none)) :: (.kmap kNum gramV b1 (fun _ => none)) :: C)) rfl (e_kmake kInt Value.bool) ?_
 intro b2
 refine gs12 ?_
 refine AW.loop (fun s J m => ∃ (k : Nat), s = [(0, v1), (3, .map (some b1)), (4, .map (some b2)), (12, v1), (13, iV (xs.length : Int)), (14, iV (k : Int))] ∧ J = St B Φ ((.kmap kInt Value.bool b2 (Se.voidM (xs.take k))) :: (.kmap kNum gramV b1 (Se.frst (xs.take k))) :: C) ∧ m = xs.length - k ∧ (k ≤ xs.length)) (s0 := _) (J1 := _) (m0 := _) ⟨0, rfl, rfl, rfl, (by omega)⟩ ⟨rfl, rfl, rfl, rfl, rfl, rfl, trivial⟩ (fun _ h => by rw [show Se.voidM (xs.take 0) = fun _ => none from Se.voidM_nil, show Se.frst (xs.take 0) = fun _ => none from Se.frst_nil]; exact h) ?_
 rintro _ _ _ _ ⟨k, rfl, rfl, rfl, hk⟩
 refine gs6 ?_
 refine AW.cond rfl (fun hc1 => ?_) fun hc1 => ?_
 ·
  simp [-List.getD_eq_getElem?_getD] at hc1
  refine gs7 ?_
  refine RW.q (v := .agg #[iV ((xs.getD k default).Gauge), iV ((xs.getD k default).Seq), iV ((xs.getD k default).Clock), iV ((xs.getD k default).Value), .string ((xs.getD k default).Tag)]) rfl (q_loadAgg rfl uT57 rfl sz57 rfl (Cells.repE h1 (by omega) rfl)) ?_
  refine RW.alc rfl fun b3 => ?_
  refine gs4 ?_
  have hwk : I64 (xs.getD k default).Gauge ∧ I64 (xs.getD k default).Seq ∧ I64 (xs.getD k default).Clock ∧ I64 (xs.getD k default).Value ∧ (xs.getD k default).Tag.size ≤ maxLen := h1.wfE _ (Se.getD_mem (by omega))
  have hwp : kNum.good ((xs.getD k default).Gauge, (xs.getD k default).Seq) := ⟨hwk.1, hwk.2.1⟩
  have hwg : kInt.good (xs.getD k default).Gauge := hwk.1
  refine gs5 ?_
  refine RW.q (v := .agg #[iV ((xs.getD k default).Gauge), iV ((xs.getD k default).Seq)]) rfl (q_build (vals := [(0, iV ((xs.getD k default).Gauge)), (1, iV ((xs.getD k default).Seq))]) zero133 uT133 places133 rfl rfl) ?_
  refine RW.alc rfl fun b4 => ?_
  refine gs7 ?_
  refine RW.q (v := .tuple #[.agg #[iV ((((Se.frst (xs.take k)) ((xs.getD k default).Gauge, (xs.getD k default).Seq)).getD default).Gauge), iV ((((Se.frst (xs.take k)) ((xs.getD k default).Gauge, (xs.getD k default).Seq)).getD default).Seq), iV ((((Se.frst (xs.take k)) ((xs.getD k default).Gauge, (xs.getD k default).Seq)).getD default).Clock), iV ((((Se.frst (xs.take k)) ((xs.getD k default).Gauge, (xs.getD k default).Seq)).getD default).Value), .string ((((Se.frst (xs.take k)) ((xs.getD k default).Gauge, (xs.getD k default).Seq)).getD default).Tag)], .bool (((Se.frst (xs.take k)) ((xs.getD k default).Gauge, (xs.getD k default).Seq)).isSome)]) rfl (q_kLook (L := kNum) (ew := gramV) (M := Se.frst (xs.take k)) (k := ((xs.getD k default).Gauge, (xs.getD k default).Seq)) (d := default) 3 rfl rfl rfl (by assumption) uT131 zero57) (RW.q (v := .tuple #[.agg #[iV ((((Se.frst (xs.take k)) ((xs.getD k default).Gauge, (xs.getD k default).Seq)).getD default).Gauge), iV ((((Se.frst (xs.take k)) ((xs.getD k default).Gauge, (xs.getD k default).Seq)).getD default).Seq), iV ((((Se.frst (xs.take k)) ((xs.getD k default).Gauge, (xs.getD k default).Seq)).getD default).Clock), iV ((((Se.frst (xs.take k)) ((xs.getD k default).Gauge, (xs.getD k default).Seq)).getD default).Value), .string ((((Se.frst (xs.take k)) ((xs.getD k default).Gauge, (xs.getD k default).Seq)).getD default).Tag)], .bool (((Se.frst (xs.take k)) ((xs.getD k default).Gauge, (xs.getD k default).Seq)).isSome)]) rfl (q_move rfl) ?_)
  refine gs2 ?_
  refine RW.alc rfl fun b5 => ?_
  refine gs10 ?_
  refine AW.cond rfl (fun hc2 => ?_) fun hc2 => ?_
  ·
   simp [-List.getD_eq_getElem?_getD] at hc2
   refine gs4 ?_
   refine RW.effn (J' := St B Φ ((.blk b5 57 [iV ((((Se.frst (xs.take k)) ((xs.getD k default).Gauge, (xs.getD k default).Seq)).getD default).Gauge), iV ((((Se.frst (xs.take k)) ((xs.getD k default).Gauge, (xs.getD k default).Seq)).getD default).Seq), iV ((((Se.frst (xs.take k)) ((xs.getD k default).Gauge, (xs.getD k default).Seq)).getD default).Clock), iV ((((Se.frst (xs.take k)) ((xs.getD k default).Gauge, (xs.getD k default).Seq)).getD default).Value), .string ((((Se.frst (xs.take k)) ((xs.getD k default).Gauge, (xs.getD k default).Seq)).getD default).Tag)]) :: (.blk b4 133 [iV ((xs.getD k default).Gauge), iV ((xs.getD k default).Seq)]) :: (.blk b3 57 [iV ((xs.getD k default).Gauge), iV ((xs.getD k default).Seq), iV ((xs.getD k default).Clock), iV ((xs.getD k default).Value), .string ((xs.getD k default).Tag)]) :: (.kmap kInt Value.bool b2 (Se.voidM (xs.take k))) :: (.kmap kNum gramV b1 (fun j => if j = ((xs.getD k default).Gauge, (xs.getD k default).Seq) then some (xs.getD k default) else (Se.frst (xs.take k)) j)) :: C)) (e_kPut (L := kNum) (ew := gramV) (M := Se.frst (xs.take k)) (k := ((xs.getD k default).Gauge, (xs.getD k default).Seq)) (v := (xs.getD k default)) 4 rfl rfl rfl rfl (by assumption) uT131 rfl) ?_
   refine gs7 ?_
   have hno : Se.frst (xs.take k) ((xs.getD k default).Gauge, (xs.getD k default).Seq) = none := by simpa using hc2
   exact Post.back (s' := _) (J' := _) (m' := _) (by omega) ⟨k + 1, rfl, rfl, rfl, (by omega)⟩ ⟨rfl, rfl, rfl, rfl, rfl, rfl, trivial⟩ (fun _ h => by rw [Se.take_snoc (show k < xs.length by omega), ← Se.frst_put hno, Se.voidM_keep (t := (xs.getD k default)) (by rintro ⟨f, hf, _⟩; rw [hno] at hf; cases hf)]; exact StP.drop h (by exact .cons _ (.cons _ (.cons _ (.cons_cons _ (.cons_cons _ ((List.Sublist.refl _))))))))
  ·
   simp [-List.getD_eq_getElem?_getD] at hc2
   refine gs4 ?_
   refine RW.q (v := .bool (!(decide ((((Se.frst (xs.take k)) ((xs.getD k default).Gauge, (xs.getD k default).Seq)).getD default).Gauge = (xs.getD k default).Gauge) && decide ((((Se.frst (xs.take k)) ((xs.getD k default).Gauge, (xs.getD k default).Seq)).getD default).Seq = (xs.getD k default).Seq) && decide ((((Se.frst (xs.take k)) ((xs.getD k default).Gauge, (xs.getD k default).Seq)).getD default).Clock = (xs.getD k default).Clock) && decide ((((Se.frst (xs.take k)) ((xs.getD k default).Gauge, (xs.getD k default).Seq)).getD default).Value = (xs.getD k default).Value) && decide (((((Se.frst (xs.take k)) ((xs.getD k default).Gauge, (xs.getD k default).Seq)).getD default).Tag).data.toList = ((xs.getD k default).Tag).data.toList)))) rfl (q_neqS rfl rfl (eqS57 _ _ _ _ _ _ _ _ _ _) eqG57) ?_
   refine gs2 ?_
   refine AW.cond rfl (fun hc3 => ?_) fun hc3 => ?_
   ·
    simp [-List.getD_eq_getElem?_getD] at hc3
    refine gs4 ?_
    refine RW.effn (J' := St B Φ ((.blk b5 57 [iV ((((Se.frst (xs.take k)) ((xs.getD k default).Gauge, (xs.getD k default).Seq)).getD default).Gauge), iV ((((Se.frst (xs.take k)) ((xs.getD k default).Gauge, (xs.getD k default).Seq)).getD default).Seq), iV ((((Se.frst (xs.take k)) ((xs.getD k default).Gauge, (xs.getD k default).Seq)).getD default).Clock), iV ((((Se.frst (xs.take k)) ((xs.getD k default).Gauge, (xs.getD k default).Seq)).getD default).Value), .string ((((Se.frst (xs.take k)) ((xs.getD k default).Gauge, (xs.getD k default).Seq)).getD default).Tag)]) :: (.blk b4 133 [iV ((xs.getD k default).Gauge), iV ((xs.getD k default).Seq)]) :: (.blk b3 57 [iV ((xs.getD k default).Gauge), iV ((xs.getD k default).Seq), iV ((xs.getD k default).Clock), iV ((xs.getD k default).Value), .string ((xs.getD k default).Tag)]) :: (.kmap kInt Value.bool b2 (fun j => if j = (xs.getD k default).Gauge then some true else (Se.voidM (xs.take k)) j)) :: (.kmap kNum gramV b1 (Se.frst (xs.take k))) :: C)) (e_kPut (L := kInt) (ew := Value.bool) (M := Se.voidM (xs.take k)) (k := (xs.getD k default).Gauge) (v := true) 3 rfl rfl rfl rfl (by assumption) uT82 rfl) ?_
    refine gs7 ?_
    obtain ⟨fz, hfz⟩ := Option.isSome_iff_exists.1 (show (Se.frst (xs.take k) ((xs.getD k default).Gauge, (xs.getD k default).Seq)).isSome = true by simpa using hc2)
    have hyes : Se.frst (xs.take k) ((xs.getD k default).Gauge, (xs.getD k default).Seq) = some fz := hfz
    have hdif : fz ≠ (xs.getD k default) := fun e => by rw [hyes] at hc3; simp [e] at hc3
    exact Post.back (s' := _) (J' := _) (m' := _) (by omega) ⟨k + 1, rfl, rfl, rfl, (by omega)⟩ ⟨rfl, rfl, rfl, rfl, rfl, rfl, trivial⟩ (fun _ h => by rw [Se.take_snoc (show k < xs.length by omega), Se.frst_keep hyes, ← Se.voidM_put hyes hdif]; exact StP.drop h (by exact .cons _ (.cons _ (.cons _ (.cons_cons _ (.cons_cons _ ((List.Sublist.refl _))))))))
   ·
    simp [-List.getD_eq_getElem?_getD] at hc3
    refine gs7 ?_
    obtain ⟨fz, hfz⟩ := Option.isSome_iff_exists.1 (show (Se.frst (xs.take k) ((xs.getD k default).Gauge, (xs.getD k default).Seq)).isSome = true by simpa using hc2)
    have hyes : Se.frst (xs.take k) ((xs.getD k default).Gauge, (xs.getD k default).Seq) = some fz := hfz
    have hsam : fz = (xs.getD k default) := by rw [hyes] at hc3; exact Se.gram_eqP (by simpa [-List.getD_eq_getElem?_getD] using hc3)
    exact Post.back (s' := _) (J' := _) (m' := _) (by omega) ⟨k + 1, rfl, rfl, rfl, (by omega)⟩ ⟨rfl, rfl, rfl, rfl, rfl, rfl, trivial⟩ (fun _ h => by rw [Se.take_snoc (show k < xs.length by omega), Se.frst_keep hyes, Se.voidM_keep (t := (xs.getD k default)) (by rintro ⟨f, hf, hne⟩; rw [hyes] at hf; exact hne ((sJ hf).symm.trans hsam))]; exact StP.drop h (by exact .cons _ (.cons _ (.cons _ (.cons_cons _ (.cons_cons _ ((List.Sublist.refl _))))))))
 ·
  simp [-List.getD_eq_getElem?_getD] at hc1
  refine gs12 ?_
  refine fin_out1 rfl rfl rfl (fun w' hw => ⟨b2, rfl, ?_⟩)
  rw [show xs.take k = xs from List.take_of_length_le (by omega)] at hw
  exact StP.drop hw (by exact .cons_cons _ (.cons _ ((List.Sublist.refl _))))
end Go.Proofs.YtblfeidlnhdekaaGreat.Sr
