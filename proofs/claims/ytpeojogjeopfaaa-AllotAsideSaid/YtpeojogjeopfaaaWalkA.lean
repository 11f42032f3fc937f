/- Walks (part WalkA), printed by walk2.py. Conditions: those of each theorem. -/
import Derived.Test.YtpeojogjeopfaaaTypes
import Derived.Test.YtpeojogjeopfaaaPlain
import Derived.Test.YtpeojogjeopfaaaRows
namespace Go.Proofs.Ytpeojogjeopfaaa
open Go Go.K Go.RowKit

theorem hmix : Try.prog.follows .mixedOrders = true := by kernel_rfl
theorem sz3 : (Try.prog.info? 3).map (·.size) = some 1 := by kernel_rfl
theorem zero3 : (Try.prog.info? 3).map (·.zero) = some (some (.int .i64 0)) := by kernel_rfl
theorem inf3 : (Try.prog.info? 3).map (fun i => (i.zero, i.size, i.bytes)) = some (some (.int .i64 0), 1, 8) := by kernel_rfl
theorem sz4 : (Try.prog.info? 4).map (·.size) = some 1 := by kernel_rfl
theorem zero4 : (Try.prog.info? 4).map (·.zero) = some (some (.bool false)) := by kernel_rfl
theorem inf4 : (Try.prog.info? 4).map (fun i => (i.zero, i.size, i.bytes)) = some (some (.bool false), 1, 1) := by kernel_rfl
theorem sz9 : (Try.prog.info? 9).map (·.size) = some 1 := by kernel_rfl
theorem zero9 : (Try.prog.info? 9).map (·.zero) = some (some (.string ⟨#[]⟩)) := by kernel_rfl
theorem inf9 : (Try.prog.info? 9).map (fun i => (i.zero, i.size, i.bytes)) = some (some (.string ⟨#[]⟩), 1, 16) := by kernel_rfl
theorem sz23 : (Try.prog.info? 23).map (·.size) = some 1 := by kernel_rfl
theorem zero23 : (Try.prog.info? 23).map (·.zero) = some (some (.slice none 0 0)) := by kernel_rfl
theorem inf23 : (Try.prog.info? 23).map (fun i => (i.zero, i.size, i.bytes)) = some (some (.slice none 0 0), 1, 24) := by kernel_rfl
theorem sz29 : (Try.prog.info? 29).map (·.size) = some 1 := by kernel_rfl
theorem zero29 : (Try.prog.info? 29).map (·.zero) = some (some (.slice none 0 0)) := by kernel_rfl
theorem inf29 : (Try.prog.info? 29).map (fun i => (i.zero, i.size, i.bytes)) = some (some (.slice none 0 0), 1, 24) := by kernel_rfl
theorem sz31 : (Try.prog.info? 31).map (·.size) = some 11 := by kernel_rfl
theorem zero31 : (Try.prog.info? 31).map (·.zero) = some (some (.agg #[.string ⟨#[]⟩, .slice none 0 0, .int .i64 0, .slice none 0 0, .slice none 0 0, .slice none 0 0, .slice none 0 0, .slice none 0 0, .slice none 0 0, .slice none 0 0, .int .i64 0])) := by kernel_rfl
theorem inf31 : (Try.prog.info? 31).map (fun i => (i.zero, i.size, i.bytes)) = some (some (.agg #[.string ⟨#[]⟩, .slice none 0 0, .int .i64 0, .slice none 0 0, .slice none 0 0, .slice none 0 0, .slice none 0 0, .slice none 0 0, .slice none 0 0, .slice none 0 0, .int .i64 0]), 11, 224) := by kernel_rfl
theorem places31 : ∀ w, ((#[{ name := "Name", type := 9, offset := 0, embedded := false, tag := "", pkgPath := "", byteOffset := 0 }, { name := "Owners", type := 22, offset := 1, embedded := false, tag := "", pkgPath := "", byteOffset := 16 }, { name := "Cells", type := 3, offset := 2, embedded := false, tag := "", pkgPath := "", byteOffset := 40 }, { name := "Places", type := 23, offset := 3, embedded := false, tag := "", pkgPath := "", byteOffset := 48 }, { name := "Links", type := 24, offset := 4, embedded := false, tag := "", pkgPath := "", byteOffset := 72 }, { name := "Towns", type := 25, offset := 5, embedded := false, tag := "", pkgPath := "", byteOffset := 96 }, { name := "Gauges", type := 26, offset := 6, embedded := false, tag := "", pkgPath := "", byteOffset := 120 }, { name := "Roads", type := 27, offset := 7, embedded := false, tag := "", pkgPath := "", byteOffset := 144 }, { name := "Shelters", type := 28, offset := 8, embedded := false, tag := "", pkgPath := "", byteOffset := 168 }, { name := "Room", type := 29, offset := 9, embedded := false, tag := "", pkgPath := "", byteOffset := 192 }, { name := "Err", type := 3, offset := 10, embedded := false, tag := "", pkgPath := "", byteOffset := 216 }] : Array Field).mapM fun f => do pure (f.offset, ← sizeOf f.type) : Sem (Array (Nat × Nat))).run Try.prog w = .ok #[(0, 1), (1, 1), (2, 1), (3, 1), (4, 1), (5, 1), (6, 1), (7, 1), (8, 1), (9, 1), (10, 1)] w := fun w => by kernel_rfl
theorem sz32 : (Try.prog.info? 32).map (·.size) = some 1 := by kernel_rfl
theorem zero32 : (Try.prog.info? 32).map (·.zero) = some (some (.slice none 0 0)) := by kernel_rfl
theorem inf32 : (Try.prog.info? 32).map (fun i => (i.zero, i.size, i.bytes)) = some (some (.slice none 0 0), 1, 24) := by kernel_rfl
theorem sz33 : (Try.prog.info? 33).map (·.size) = some 1 := by kernel_rfl
theorem zero33 : (Try.prog.info? 33).map (·.zero) = some (some (.slice none 0 0)) := by kernel_rfl
theorem inf33 : (Try.prog.info? 33).map (fun i => (i.zero, i.size, i.bytes)) = some (some (.slice none 0 0), 1, 24) := by kernel_rfl
theorem sz45 : (Try.prog.info? 45).map (·.size) = some 9 := by kernel_rfl
theorem zero45 : (Try.prog.info? 45).map (·.zero) = some (some (.agg #[.int .i64 0, .int .i64 0, .int .i64 0, .int .i64 0, .int .i64 0, .int .i64 0, .int .i64 0, .int .i64 0, .int .i64 0])) := by kernel_rfl
theorem inf45 : (Try.prog.info? 45).map (fun i => (i.zero, i.size, i.bytes)) = some (some (.agg #[.int .i64 0, .int .i64 0, .int .i64 0, .int .i64 0, .int .i64 0, .int .i64 0, .int .i64 0, .int .i64 0, .int .i64 0]), 9, 72) := by kernel_rfl
theorem places45 : ∀ w, ((#[{ name := "Id", type := 3, offset := 0, embedded := false, tag := "", pkgPath := "", byteOffset := 0 }, { name := "Owner", type := 3, offset := 1, embedded := false, tag := "", pkgPath := "", byteOffset := 8 }, { name := "Date", type := 3, offset := 2, embedded := false, tag := "", pkgPath := "", byteOffset := 16 }, { name := "Place", type := 3, offset := 3, embedded := false, tag := "", pkgPath := "", byteOffset := 24 }, { name := "Rate", type := 3, offset := 4, embedded := false, tag := "", pkgPath := "", byteOffset := 32 }, { name := "From", type := 3, offset := 5, embedded := false, tag := "", pkgPath := "", byteOffset := 40 }, { name := "Until", type := 3, offset := 6, embedded := false, tag := "", pkgPath := "", byteOffset := 48 }, { name := "Back", type := 3, offset := 7, embedded := false, tag := "", pkgPath := "", byteOffset := 56 }, { name := "BackTo", type := 3, offset := 8, embedded := false, tag := "", pkgPath := "", byteOffset := 64 }] : Array Field).mapM fun f => do pure (f.offset, ← sizeOf f.type) : Sem (Array (Nat × Nat))).run Try.prog w = .ok #[(0, 1), (1, 1), (2, 1), (3, 1), (4, 1), (5, 1), (6, 1), (7, 1), (8, 1)] w := fun w => by kernel_rfl
theorem sz47 : (Try.prog.info? 47).map (·.size) = some 2 := by kernel_rfl
theorem zero47 : (Try.prog.info? 47).map (·.zero) = some (some (.agg #[.int .i64 0, .int .i64 0])) := by kernel_rfl
theorem inf47 : (Try.prog.info? 47).map (fun i => (i.zero, i.size, i.bytes)) = some (some (.agg #[.int .i64 0, .int .i64 0]), 2, 16) := by kernel_rfl
theorem places47 : ∀ w, ((#[{ name := "Right", type := 3, offset := 0, embedded := false, tag := "", pkgPath := "", byteOffset := 0 }, { name := "Litres", type := 3, offset := 1, embedded := false, tag := "", pkgPath := "", byteOffset := 8 }] : Array Field).mapM fun f => do pure (f.offset, ← sizeOf f.type) : Sem (Array (Nat × Nat))).run Try.prog w = .ok #[(0, 1), (1, 1)] w := fun w => by kernel_rfl
theorem sz52 : (Try.prog.info? 52).map (·.size) = some 1 := by kernel_rfl
theorem zero52 : (Try.prog.info? 52).map (·.zero) = some (some (.slice none 0 0)) := by kernel_rfl
theorem inf52 : (Try.prog.info? 52).map (fun i => (i.zero, i.size, i.bytes)) = some (some (.slice none 0 0), 1, 24) := by kernel_rfl
theorem sz62 : (Try.prog.info? 62).map (·.size) = some 12 := by kernel_rfl
theorem zero62 : (Try.prog.info? 62).map (·.zero) = some (some (.agg #[.string ⟨#[]⟩, .int .i64 0, .int .i64 0, .int .i64 0, .slice none 0 0, .slice none 0 0, .int .i64 0, .int .i64 0, .int .i64 0, .int .i64 0, .int .i64 0, .slice none 0 0])) := by kernel_rfl
theorem inf62 : (Try.prog.info? 62).map (fun i => (i.zero, i.size, i.bytes)) = some (some (.agg #[.string ⟨#[]⟩, .int .i64 0, .int .i64 0, .int .i64 0, .slice none 0 0, .slice none 0 0, .int .i64 0, .int .i64 0, .int .i64 0, .int .i64 0, .int .i64 0, .slice none 0 0]), 12, 152) := by kernel_rfl
theorem places62 : ∀ w, ((#[{ name := "Name", type := 9, offset := 0, embedded := false, tag := "", pkgPath := "", byteOffset := 0 }, { name := "Kind", type := 3, offset := 1, embedded := false, tag := "", pkgPath := "", byteOffset := 16 }, { name := "Office", type := 3, offset := 2, embedded := false, tag := "", pkgPath := "", byteOffset := 24 }, { name := "Cap", type := 3, offset := 3, embedded := false, tag := "", pkgPath := "", byteOffset := 32 }, { name := "Level", type := 59, offset := 4, embedded := false, tag := "", pkgPath := "", byteOffset := 40 }, { name := "Start", type := 29, offset := 5, embedded := false, tag := "", pkgPath := "", byteOffset := 64 }, { name := "Num", type := 3, offset := 6, embedded := false, tag := "", pkgPath := "", byteOffset := 88 }, { name := "Den", type := 3, offset := 7, embedded := false, tag := "", pkgPath := "", byteOffset := 96 }, { name := "Down", type := 3, offset := 8, embedded := false, tag := "", pkgPath := "", byteOffset := 104 }, { name := "Delay", type := 3, offset := 9, embedded := false, tag := "", pkgPath := "", byteOffset := 112 }, { name := "Floor", type := 3, offset := 10, embedded := false, tag := "", pkgPath := "", byteOffset := 120 }, { name := "Rain", type := 60, offset := 11, embedded := false, tag := "", pkgPath := "", byteOffset := 128 }] : Array Field).mapM fun f => do pure (f.offset, ← sizeOf f.type) : Sem (Array (Nat × Nat))).run Try.prog w = .ok #[(0, 1), (1, 1), (2, 1), (3, 1), (4, 1), (5, 1), (6, 1), (7, 1), (8, 1), (9, 1), (10, 1), (11, 1)] w := fun w => by kernel_rfl
theorem own9 : Own Try.prog 9 := own_of (by kernel_rfl)
theorem own10 : Own Try.prog 10 := own_of (by kernel_rfl)
theorem own11 : Own Try.prog 11 := own_of (by kernel_rfl)
theorem own12 : Own Try.prog 12 := own_of (by kernel_rfl)
theorem own13 : Own Try.prog 13 := own_of (by kernel_rfl)
theorem own14 : Own Try.prog 14 := own_of (by kernel_rfl)
theorem own15 : Own Try.prog 15 := own_of (by kernel_rfl)
theorem own16 : Own Try.prog 16 := own_of (by kernel_rfl)
theorem own17 : Own Try.prog 17 := own_of (by kernel_rfl)
theorem own18 : Own Try.prog 18 := own_of (by kernel_rfl)
theorem own19 : Own Try.prog 19 := own_of (by kernel_rfl)
theorem own20 : Own Try.prog 20 := own_of (by kernel_rfl)
theorem own21 : Own Try.prog 21 := own_of (by kernel_rfl)
theorem own22 : Own Try.prog 22 := own_of (by kernel_rfl)
theorem own26 : Own Try.prog 26 := own_of (by kernel_rfl)
theorem own27 : Own Try.prog 27 := own_of (by kernel_rfl)
theorem own28 : Own Try.prog 28 := own_of (by kernel_rfl)
theorem own29 : Own Try.prog 29 := own_of (by kernel_rfl)
theorem own30 : Own Try.prog 30 := own_of (by kernel_rfl)
theorem own31 : Own Try.prog 31 := own_of (by kernel_rfl)
theorem own32 : Own Try.prog 32 := own_of (by kernel_rfl)
theorem own33 : Own Try.prog 33 := own_of (by kernel_rfl)
theorem own34 : Own Try.prog 34 := own_of (by kernel_rfl)
theorem own51 : Own Try.prog 51 := own_of (by kernel_rfl)
theorem eqF47 (a b c d : Int) (n : Nat) (w : World) : (Op.eqFields (n + 1) #[.int .i64 a, .int .i64 b] #[.int .i64 c, .int .i64 d] (Try.prog.fieldsOf 47).toList).run Try.prog w = .ok (decide (a = c) && decide (b = d)) w := by
  unfold Program.fieldsOf
  rw [Try.underlying47]
  have hp : ∀ {cs : Array Value} {o : Nat} {v : Value} (h : cs[o]? = some v) (w : World), (part 3 cs o).run Try.prog w = .ok v w := fun h w => run_part1 Try.underlying3 rfl h w
  have hq : ∀ (x y : Int) (w : World), (Op.equalIn (n + 1) 3 (.int .i64 x) (.int .i64 y)).run Try.prog w = .ok (x == y) w := fun x y w => run_equalIn_int w n 3 .i64 .i64 x y Try.underlying3
  simp only [Op.eqFields, ne_eq, String.reduceEq, not_false_eq_true, if_true, Sem.run_bind, hp (show #[Value.int .i64 a, Value.int .i64 b][0]? = some (.int .i64 a) from rfl), hp (show #[Value.int .i64 c, Value.int .i64 d][0]? = some (.int .i64 c) from rfl), hp (show #[Value.int .i64 a, Value.int .i64 b][1]? = some (.int .i64 b) from rfl), hp (show #[Value.int .i64 c, Value.int .i64 d][1]? = some (.int .i64 d) from rfl), hq, Result.andThen_ok, Sem.run_ite, Sem.run_pure]
  by_cases h1 : a = c <;> by_cases h2 : b = d <;> simp [h1, h2]
theorem eqS47 (a b c d : Int) : ∀ w, (Op.equal 47 (.agg #[.int .i64 a, .int .i64 b]) (.agg #[.int .i64 c, .int .i64 d])).run Try.prog w = .ok (decide (a = c) && decide (b = d)) w := fun w => by
  have hT : Try.prog.underlying 47 = some (.struct (Try.prog.fieldsOf 47)) := by unfold Program.fieldsOf; rw [Try.underlying47]
  show (Op.equalIn (9998 + 1 + 1) 47 _ _).run Try.prog w = _
  rw [run_equalIn_struct w (9998 + 1) 47 _ _ hT (by kernel_rfl)]
  exact eqF47 a b c d 9998 w
theorem eqG47 : Program.eqGuardType Try.prog Try.prog.depth 47 = false := by kernel_rfl
set_option maxRecDepth 8000 in
set_option maxHeartbeats 1000000 in
theorem isPlace_c (w : World) (Φ : Hp) (hΦ : Hp.le Φ (hp w)) {b : Bt.Basin} {cs : List Value} (hB : RepV Φ b cs) {p : Int} :
    Calls Try.prog 28 #[.agg cs.toArray, .int .i64 p] w fun e w' => e = .returned (.bool (Al.isP b.Places p)) ∧ Below w.heap.size w w' := by
  obtain ⟨v1, v3, v4, v5, v6, v7, v8, v9, hcs, hBw, r1, r3, r4, r5, r6, r7, r8, r9⟩ := (show Rep.rep Φ b cs from hB)
  subst hcs
  have hpm : b.Places.length * 152 ≤ 140737488355328 := r3.max
  refine calls_of_AW (args := [.agg #[.string b.Name, v1, .int .i64 b.Cells, v3, v4, v5, v6, v7, v8, v9, .int .i64 b.Err], .int .i64 p]) Try.func28 rfl (Nat.le_of_ble_eq_true rfl) (St ⟨w, Φ, []⟩ Φ []) (StP.init w Φ hΦ []) ?_
  show AW Try.prog 14 [] _ _ _ [(0, .agg #[.string b.Name, v1, .int .i64 b.Cells, v3, v4, v5, v6, v7, v8, v9, .int .i64 b.Err]), (1, .int .i64 p)] _
  refine AW.seq ?_
  refine AW.region ?_
  refine RW.eff (fun b1 : Nat => .pointer (some (⟨b1, 0, none⟩))) (fun b1 => St ⟨w, Φ, []⟩ Φ [.blk b1 31 [.string b.Name, v1, .int .i64 b.Cells, v3, v4, v5, v6, v7, v8, v9, .int .i64 b.Err]]) rfl (e_boxA (cs := [.string b.Name, v1, .int .i64 b.Cells, v3, v4, v5, v6, v7, v8, v9, .int .i64 b.Err]) rfl) ?_
  intro b1
  refine RW.q (v := .bool false) rfl (q_assign rfl) ?_
  refine RW.nil ?_
  refine Post.then_n ?_
  refine AW.seq ?_
  refine AW.region ?_
  refine RW.q (v := .int .i64 p) rfl (q_move rfl) ?_
  refine RW.q (v := .bool (decide ((0 : Int) ≤ p))) rfl (q_geq rfl rfl) ?_
  refine RW.q (v := .bool (decide ((0 : Int) ≤ p))) rfl (q_move rfl) ?_
  refine RW.g (b := (decide ((0 : Int) ≤ p))) (v := .int .i64 p) rfl rfl rfl (fun h => q_move rfl) ?_
  refine RW.g (b := (decide ((0 : Int) ≤ p))) (v := .pointer (some (⟨b1, 3, none⟩))) rfl rfl rfl (fun h => q_fieldAddr rfl Try.underlying31 rfl sz23 rfl) ?_
  refine RW.g (b := (decide ((0 : Int) ≤ p))) (v := v3) rfl rfl rfl (fun h => q_load (gv_pos h) Try.underlying23 rfl (Cell.blk 0 rfl rfl)) ?_
  refine RW.g (b := (decide ((0 : Int) ≤ p))) (v := .int .i64 ((b.Places.length : Nat) : Int)) rfl rfl rfl (fun h => q_len_sl (gv_pos h) r3.sl Try.underlying23) ?_
  refine RW.g (b := (decide ((0 : Int) ≤ p))) (v := .bool (decide (p < ((b.Places.length : Nat) : Int)))) rfl rfl rfl (fun h => q_lss (gv_pos h) (gv_pos h)) ?_
  refine RW.q (v := .bool ((decide ((0 : Int) ≤ p)) && (decide (p < ((b.Places.length : Nat) : Int))))) rfl (q_pick rfl (fun hp => (gv_pos hp).trans (pkAndT hp)) (fun hp => pkAndF hp)) ?_
  refine RW.q (v := .bool ((decide ((0 : Int) ≤ p)) && (decide (p < ((b.Places.length : Nat) : Int))))) rfl (q_assign rfl) ?_
  refine RW.nil ?_
  refine Post.then_n ?_
  refine AW.ret ?_
  exact fin_val (v' := .bool ((decide ((0 : Int) ≤ p)) && (decide (p < ((b.Places.length : Nat) : Int))))) rfl rfl rfl (rfl)

set_option maxRecDepth 8000 in
set_option maxHeartbeats 1000000 in
theorem Has_c (w : World) (Φ : Hp) (hΦ : Hp.le Φ (hp w)) {xs : List Int} {v1 : Value} {v : Int} (h1 : RepSl Φ xs v1) :
    Calls Try.prog 21 #[v1, .int .i64 v] w fun e w' => e = .returned (.bool (decide (v ∈ xs))) ∧ Below w.heap.size w w' := by
  refine calls_of_AW (args := [v1, .int .i64 v]) Try.func21 rfl (Nat.le_of_ble_eq_true rfl) (St ⟨w, Φ, []⟩ Φ []) (StP.init w Φ hΦ []) ?_
  show AW Try.prog 18 [] _ _ _ [(0, v1), (1, .int .i64 v)] _
  have hm1 : xs.length * 8 ≤ 140737488355328 := h1.max
  refine AW.seq ?_
  refine AW.region ?_
  refine RW.q (v := .bool false) rfl (q_assign rfl) ?_
  refine RW.nil ?_
  refine Post.then_n ?_
  refine AW.seq ?_
  refine AW.seq ?_
  refine AW.region ?_
  refine RW.q (v := .int .i64 0) rfl (q_assign rfl) ?_
  refine RW.nil ?_
  refine Post.then_n ?_
  refine AW.block ?_
  refine AW.loop (fun s J m => ∃ (k : Nat), s = [(0, v1), (1, .int .i64 v), (5, .int .i64 (k : Int))] ∧ J = St ⟨w, Φ, []⟩ Φ [] ∧ m = xs.length - k ∧ (k ≤ xs.length) ∧ (∀ j, j < k → xs.getD j 0 ≠ v)) (s0 := _) (J1 := _) (m0 := _) ⟨0, rfl, rfl, rfl, (by omega), (by omega)⟩ ⟨rfl, rfl, rfl, trivial⟩ (fun _ h => h) ?_
  rintro _ _ _ _ ⟨k, rfl, rfl, rfl, hk, heq⟩
  refine AW.seq ?_
  refine AW.seq ?_
  refine AW.region ?_
  refine RW.q (v := .int .i64 (k : Int)) rfl (q_move rfl) ?_
  refine RW.q (v := v1) rfl (q_move rfl) ?_
  refine RW.q (v := .int .i64 ((xs.length : Nat) : Int)) rfl (q_len_sl rfl h1.sl Try.underlying29) ?_
  refine RW.q (v := .bool (decide ((k : Int) < ((xs.length : Nat) : Int)))) rfl (q_lss rfl rfl) ?_
  refine RW.nil ?_
  refine Post.then_n ?_
  refine AW.cond (b := decide ((k : Int) < ((xs.length : Nat) : Int))) rfl (fun hc1 => ?_) (fun hc1 => ?_)
  · simp [-List.getD_eq_getElem?_getD] at hc1
    refine AW.skip ?_
    refine Post.then_n ?_
    refine AW.seq ?_
    refine AW.block ?_
    refine AW.seq ?_
    refine AW.region ?_
    refine RW.q (v := v1) rfl (q_move rfl) ?_
    refine RW.q (v := .int .i64 (k : Int)) rfl (q_move rfl) ?_
    refine RW.q (v := .pointer (some (Value.at v1 (k * 1)))) rfl (q_indexAddr rfl rfl h1.sl Try.underlying29 sz3 (by omega) (by omega) rfl) ?_
    refine RW.q (v := .int .i64 (xs.getD k 0)) rfl (q_load rfl Try.underlying3 rfl (Cell.repInt h1 (by omega))) ?_
    refine RW.q (v := .int .i64 v) rfl (q_move rfl) ?_
    refine RW.q (v := .bool (decide (xs.getD k 0 = v))) rfl (q_eql rfl rfl) ?_
    refine RW.nil ?_
    refine Post.then_n ?_
    refine AW.cond (b := decide (xs.getD k 0 = v)) rfl (fun hc2 => ?_) (fun hc2 => ?_)
    · simp [-List.getD_eq_getElem?_getD] at hc2
      refine AW.seq ?_
      refine AW.region ?_
      refine RW.q (v := .bool true) rfl (q_assign rfl) ?_
      refine RW.nil ?_
      refine Post.then_n ?_
      refine AW.ret ?_
      refine Post.blk_r (Post.then_r (Post.then_r (Post.blk_r (Post.then_r ?_))))
      exact fin_val (v' := .bool true) rfl rfl rfl (by rw [Al.has_t (by omega) hc2])
    · simp [-List.getD_eq_getElem?_getD] at hc2
      refine AW.skip ?_
      refine Post.blk_n (Post.then_n ?_)
      refine AW.region ?_
      refine RW.q (v := .int .i64 (k : Int)) rfl (q_move rfl) ?_
      refine RW.q (v := .int .i64 ((k + 1 : Nat) : Int)) rfl (q_add rfl rfl (by omega) (by unfold I64; omega)) ?_
      refine RW.q (v := .int .i64 ((k + 1 : Nat) : Int)) rfl (q_assign rfl) ?_
      refine RW.nil ?_
      exact Post.back (s' := _) (J' := _) (m' := _) (by omega) ⟨k + 1, rfl, rfl, rfl, (by omega), (Al.lt_succ heq hc2)⟩ ⟨rfl, rfl, rfl, trivial⟩ (fun _ h => h)
  · simp [-List.getD_eq_getElem?_getD] at hc1
    refine AW.exit ?_
    refine Post.then_x (Post.then_x (Post.blk_hit (Post.then_n ?_)))
    refine AW.seq ?_
    refine AW.region ?_
    refine RW.q (v := .bool false) rfl (q_assign rfl) ?_
    refine RW.nil ?_
    refine Post.then_n ?_
    refine AW.ret ?_
    exact fin_val (v' := .bool false) rfl rfl rfl (by rw [Al.has_f (fun j hj => heq j (by omega))])

set_option maxRecDepth 8000 in
set_option maxHeartbeats 1000000 in
theorem SameInts_c (w : World) (Φ : Hp) (hΦ : Hp.le Φ (hp w)) {xs ys : List Int} {v1 v2 : Value} (h1 : RepSl Φ xs v1) (h2 : RepSl Φ ys v2) :
    Calls Try.prog 13 #[v1, v2] w fun e w' => e = .returned (.bool (decide (xs = ys))) ∧ Below w.heap.size w w' := by
  refine calls_of_AW (args := [v1, v2]) Try.func13 rfl (Nat.le_of_ble_eq_true rfl) (St ⟨w, Φ, []⟩ Φ []) (StP.init w Φ hΦ []) ?_
  show AW Try.prog 26 [] _ _ _ [(0, v1), (1, v2)] _
  have hm1 : xs.length * 8 ≤ 140737488355328 := h1.max
  have hm2 : ys.length * 8 ≤ 140737488355328 := h2.max
  refine AW.seq ?_
  refine AW.region ?_
  refine RW.q (v := .bool false) rfl (q_assign rfl) ?_
  refine RW.nil ?_
  refine Post.then_n ?_
  refine AW.seq ?_
  refine AW.seq ?_
  refine AW.region ?_
  refine RW.q (v := v1) rfl (q_move rfl) ?_
  refine RW.q (v := .int .i64 ((xs.length : Nat) : Int)) rfl (q_len_sl rfl h1.sl Try.underlying29) ?_
  refine RW.q (v := v2) rfl (q_move rfl) ?_
  refine RW.q (v := .int .i64 ((ys.length : Nat) : Int)) rfl (q_len_sl rfl h2.sl Try.underlying29) ?_
  refine RW.q (v := .bool (!decide (((xs.length : Nat) : Int) = ((ys.length : Nat) : Int)))) rfl (q_neq rfl rfl) ?_
  refine RW.nil ?_
  refine Post.then_n ?_
  refine AW.cond (b := !decide (((xs.length : Nat) : Int) = ((ys.length : Nat) : Int))) rfl (fun hc1 => ?_) (fun hc1 => ?_)
  · simp [-List.getD_eq_getElem?_getD] at hc1
    refine AW.seq ?_
    refine AW.region ?_
    refine RW.q (v := .bool false) rfl (q_assign rfl) ?_
    refine RW.nil ?_
    refine Post.then_n ?_
    refine AW.ret ?_
    refine Post.then_r ?_
    exact fin_val (v' := .bool false) rfl rfl rfl (by rw [decide_eq_false (fun e => hc1 (by rw [e]))])
  · simp [-List.getD_eq_getElem?_getD] at hc1
    refine AW.skip ?_
    refine Post.then_n ?_
    refine AW.seq ?_
    refine AW.seq ?_
    refine AW.region ?_
    refine RW.q (v := .int .i64 0) rfl (q_assign rfl) ?_
    refine RW.nil ?_
    refine Post.then_n ?_
    refine AW.block ?_
    refine AW.loop (fun s J m => ∃ (k : Nat), s = [(0, v1), (1, v2), (5, .int .i64 (k : Int))] ∧ J = St ⟨w, Φ, []⟩ Φ [] ∧ m = xs.length - k ∧ (k ≤ xs.length) ∧ (∀ j, j < k → xs.getD j 0 = ys.getD j 0)) (s0 := _) (J1 := _) (m0 := _) ⟨0, rfl, rfl, rfl, (by omega), (by omega)⟩ ⟨rfl, rfl, rfl, trivial⟩ (fun _ h => h) ?_
    rintro _ _ _ _ ⟨k, rfl, rfl, rfl, hk, heq⟩
    refine AW.seq ?_
    refine AW.seq ?_
    refine AW.region ?_
    refine RW.q (v := .int .i64 (k : Int)) rfl (q_move rfl) ?_
    refine RW.q (v := v1) rfl (q_move rfl) ?_
    refine RW.q (v := .int .i64 ((xs.length : Nat) : Int)) rfl (q_len_sl rfl h1.sl Try.underlying29) ?_
    refine RW.q (v := .bool (decide ((k : Int) < ((xs.length : Nat) : Int)))) rfl (q_lss rfl rfl) ?_
    refine RW.nil ?_
    refine Post.then_n ?_
    refine AW.cond (b := decide ((k : Int) < ((xs.length : Nat) : Int))) rfl (fun hc2 => ?_) (fun hc2 => ?_)
    · simp [-List.getD_eq_getElem?_getD] at hc2
      refine AW.skip ?_
      refine Post.then_n ?_
      refine AW.seq ?_
      refine AW.block ?_
      refine AW.seq ?_
      refine AW.draw (J0 := St ⟨w, Φ, []⟩ Φ []) [.q, .q, .q, .q, .q, .q, .q, .q, .q] [0, 1, 2, 3, 4, 5, 6, 7, 8] hmix (by kernel_rfl) ?_
      refine DW.q (v := v1) (fun _ h => h) rfl (q_move rfl) ?_
      refine DW.q (v := .int .i64 (k : Int)) (fun _ h => h) rfl (q_move rfl) ?_
      refine DW.q (v := .pointer (some (Value.at v1 (k * 1)))) (fun _ h => h) rfl (q_indexAddr rfl rfl h1.sl Try.underlying29 sz3 (by omega) (by omega) rfl) ?_
      refine DW.q (v := .int .i64 (xs.getD k 0)) (fun _ h => h) rfl (q_load rfl Try.underlying3 rfl (Cell.repInt h1 (by omega))) ?_
      refine DW.q (v := v2) (fun _ h => h) rfl (q_move rfl) ?_
      refine DW.q (v := .int .i64 (k : Int)) (fun _ h => h) rfl (q_move rfl) ?_
      refine DW.q (v := .pointer (some (Value.at v2 (k * 1)))) (fun _ h => h) rfl (q_indexAddr rfl rfl h2.sl Try.underlying29 sz3 (by omega) (by omega) rfl) ?_
      refine DW.q (v := .int .i64 (ys.getD k 0)) (fun _ h => h) rfl (q_load rfl Try.underlying3 rfl (Cell.repInt h2 (by omega))) ?_
      refine DW.q (v := .bool (!decide (xs.getD k 0 = ys.getD k 0))) (fun _ h => h) rfl (q_neq rfl rfl) ?_
      refine DW.nil ?_
      refine Post.then_n ?_
      refine AW.cond (b := !decide (xs.getD k 0 = ys.getD k 0)) rfl (fun hc3 => ?_) (fun hc3 => ?_)
      · simp [-List.getD_eq_getElem?_getD] at hc3
        refine AW.seq ?_
        refine AW.region ?_
        refine RW.q (v := .bool false) rfl (q_assign rfl) ?_
        refine RW.nil ?_
        refine Post.then_n ?_
        refine AW.ret ?_
        refine Post.blk_r (Post.then_r (Post.then_r (Post.blk_r (Post.then_r ?_))))
        exact fin_val (v' := .bool false) rfl rfl rfl (by rw [decide_eq_false (fun e => hc3 (by rw [e]))])
      · simp [-List.getD_eq_getElem?_getD] at hc3
        refine AW.skip ?_
        refine Post.blk_n (Post.then_n ?_)
        refine AW.region ?_
        refine RW.q (v := .int .i64 (k : Int)) rfl (q_move rfl) ?_
        refine RW.q (v := .int .i64 ((k + 1 : Nat) : Int)) rfl (q_add rfl rfl (by omega) (by unfold I64; omega)) ?_
        refine RW.q (v := .int .i64 ((k + 1 : Nat) : Int)) rfl (q_assign rfl) ?_
        refine RW.nil ?_
        exact Post.back (s' := _) (J' := _) (m' := _) (by omega) ⟨k + 1, rfl, rfl, rfl, (by omega), (Al.lt_succ heq hc3)⟩ ⟨rfl, rfl, rfl, trivial⟩ (fun _ h => h)
    · simp [-List.getD_eq_getElem?_getD] at hc2
      refine AW.exit ?_
      refine Post.then_x (Post.then_x (Post.blk_hit (Post.then_n ?_)))
      refine AW.seq ?_
      refine AW.region ?_
      refine RW.q (v := .bool true) rfl (q_assign rfl) ?_
      refine RW.nil ?_
      refine Post.then_n ?_
      refine AW.ret ?_
      exact fin_val (v' := .bool true) rfl rfl rfl (by rw [decide_eq_true (Al.list_ext (by omega) (fun j hj => heq j (by omega)))])

set_option maxRecDepth 8000 in
set_option maxHeartbeats 1000000 in
theorem Same_c (w : World) (Φ : Hp) (hΦ : Hp.le Φ (hp w)) {xs ys : List Bt.Grant} {v1 v2 : Value} (h1 : RepSl Φ xs v1) (h2 : RepSl Φ ys v2) :
    Calls Try.prog 18 #[v1, v2] w fun e w' => e = .returned (.bool (decide (xs = ys))) ∧ Below w.heap.size w w' := by
  refine calls_of_AW (args := [v1, v2]) Try.func18 rfl (Nat.le_of_ble_eq_true rfl) (St ⟨w, Φ, []⟩ Φ []) (StP.init w Φ hΦ []) ?_
  show AW Try.prog 26 [] _ _ _ [(0, v1), (1, v2)] _
  have hm1 : xs.length * 16 ≤ 140737488355328 := h1.max
  have hm2 : ys.length * 16 ≤ 140737488355328 := h2.max
  refine AW.seq ?_
  refine AW.region ?_
  refine RW.q (v := .bool false) rfl (q_assign rfl) ?_
  refine RW.nil ?_
  refine Post.then_n ?_
  refine AW.seq ?_
  refine AW.seq ?_
  refine AW.region ?_
  refine RW.q (v := v1) rfl (q_move rfl) ?_
  refine RW.q (v := .int .i64 ((xs.length : Nat) : Int)) rfl (q_len_sl rfl h1.sl Try.underlying33) ?_
  refine RW.q (v := v2) rfl (q_move rfl) ?_
  refine RW.q (v := .int .i64 ((ys.length : Nat) : Int)) rfl (q_len_sl rfl h2.sl Try.underlying33) ?_
  refine RW.q (v := .bool (!decide (((xs.length : Nat) : Int) = ((ys.length : Nat) : Int)))) rfl (q_neq rfl rfl) ?_
  refine RW.nil ?_
  refine Post.then_n ?_
  refine AW.cond (b := !decide (((xs.length : Nat) : Int) = ((ys.length : Nat) : Int))) rfl (fun hc1 => ?_) (fun hc1 => ?_)
  · simp [-List.getD_eq_getElem?_getD] at hc1
    refine AW.seq ?_
    refine AW.region ?_
    refine RW.q (v := .bool false) rfl (q_assign rfl) ?_
    refine RW.nil ?_
    refine Post.then_n ?_
    refine AW.ret ?_
    refine Post.then_r ?_
    exact fin_val (v' := .bool false) rfl rfl rfl (by rw [decide_eq_false (fun e => hc1 (by rw [e]))])
  · simp [-List.getD_eq_getElem?_getD] at hc1
    refine AW.skip ?_
    refine Post.then_n ?_
    refine AW.seq ?_
    refine AW.seq ?_
    refine AW.region ?_
    refine RW.q (v := .int .i64 0) rfl (q_assign rfl) ?_
    refine RW.nil ?_
    refine Post.then_n ?_
    refine AW.block ?_
    refine AW.loop (fun s J m => ∃ (k : Nat), s = [(0, v1), (1, v2), (5, .int .i64 (k : Int))] ∧ J = St ⟨w, Φ, []⟩ Φ [] ∧ m = xs.length - k ∧ (k ≤ xs.length) ∧ (∀ j, j < k → xs.getD j default = ys.getD j default)) (s0 := _) (J1 := _) (m0 := _) ⟨0, rfl, rfl, rfl, (by omega), (by omega)⟩ ⟨rfl, rfl, rfl, trivial⟩ (fun _ h => h) ?_
    rintro _ _ _ _ ⟨k, rfl, rfl, rfl, hk, heq⟩
    refine AW.seq ?_
    refine AW.seq ?_
    refine AW.region ?_
    refine RW.q (v := .int .i64 (k : Int)) rfl (q_move rfl) ?_
    refine RW.q (v := v1) rfl (q_move rfl) ?_
    refine RW.q (v := .int .i64 ((xs.length : Nat) : Int)) rfl (q_len_sl rfl h1.sl Try.underlying33) ?_
    refine RW.q (v := .bool (decide ((k : Int) < ((xs.length : Nat) : Int)))) rfl (q_lss rfl rfl) ?_
    refine RW.nil ?_
    refine Post.then_n ?_
    refine AW.cond (b := decide ((k : Int) < ((xs.length : Nat) : Int))) rfl (fun hc2 => ?_) (fun hc2 => ?_)
    · simp [-List.getD_eq_getElem?_getD] at hc2
      refine AW.skip ?_
      refine Post.then_n ?_
      refine AW.seq ?_
      refine AW.block ?_
      refine AW.seq ?_
      refine AW.draw (J0 := St ⟨w, Φ, []⟩ Φ []) [.q, .q, .q, .q, .q, .q, .q, .q, .q] [0, 1, 2, 3, 4, 5, 6, 7, 8] hmix (by kernel_rfl) ?_
      refine DW.q (v := v1) (fun _ h => h) rfl (q_move rfl) ?_
      refine DW.q (v := .int .i64 (k : Int)) (fun _ h => h) rfl (q_move rfl) ?_
      refine DW.q (v := .pointer (some (Value.at v1 (k * 2)))) (fun _ h => h) rfl (q_indexAddr rfl rfl h1.sl Try.underlying33 sz47 (by omega) (by omega) rfl) ?_
      refine DW.q (v := .agg #[.int .i64 ((xs.getD k default).Right), .int .i64 ((xs.getD k default).Litres)]) (fun _ h => h) rfl (q_loadAgg rfl Try.underlying47 rfl sz47 rfl (Cells.repE h1 (by omega) rfl)) ?_
      refine DW.q (v := v2) (fun _ h => h) rfl (q_move rfl) ?_
      refine DW.q (v := .int .i64 (k : Int)) (fun _ h => h) rfl (q_move rfl) ?_
      refine DW.q (v := .pointer (some (Value.at v2 (k * 2)))) (fun _ h => h) rfl (q_indexAddr rfl rfl h2.sl Try.underlying33 sz47 (by omega) (by omega) rfl) ?_
      refine DW.q (v := .agg #[.int .i64 ((ys.getD k default).Right), .int .i64 ((ys.getD k default).Litres)]) (fun _ h => h) rfl (q_loadAgg rfl Try.underlying47 rfl sz47 rfl (Cells.repE h2 (by omega) rfl)) ?_
      refine DW.q (v := .bool (!(decide ((xs.getD k default).Right = (ys.getD k default).Right) && decide ((xs.getD k default).Litres = (ys.getD k default).Litres)))) (fun _ h => h) rfl (q_neqS rfl rfl (eqS47 _ _ _ _) eqG47) ?_
      refine DW.nil ?_
      refine Post.then_n ?_
      refine AW.cond (b := !(decide ((xs.getD k default).Right = (ys.getD k default).Right) && decide ((xs.getD k default).Litres = (ys.getD k default).Litres))) rfl (fun hc3 => ?_) (fun hc3 => ?_)
      · simp [-List.getD_eq_getElem?_getD] at hc3
        refine AW.seq ?_
        refine AW.region ?_
        refine RW.q (v := .bool false) rfl (q_assign rfl) ?_
        refine RW.nil ?_
        refine Post.then_n ?_
        refine AW.ret ?_
        refine Post.blk_r (Post.then_r (Post.then_r (Post.blk_r (Post.then_r ?_))))
        exact fin_val (v' := .bool false) rfl rfl rfl (by rw [decide_eq_false (fun e => hc3.elim (fun h => h (by rw [e])) (fun h => h (by rw [e])))])
      · simp [-List.getD_eq_getElem?_getD] at hc3
        refine AW.skip ?_
        refine Post.blk_n (Post.then_n ?_)
        refine AW.region ?_
        refine RW.q (v := .int .i64 (k : Int)) rfl (q_move rfl) ?_
        refine RW.q (v := .int .i64 ((k + 1 : Nat) : Int)) rfl (q_add rfl rfl (by omega) (by unfold I64; omega)) ?_
        refine RW.q (v := .int .i64 ((k + 1 : Nat) : Int)) rfl (q_assign rfl) ?_
        refine RW.nil ?_
        exact Post.back (s' := _) (J' := _) (m' := _) (by omega) ⟨k + 1, rfl, rfl, rfl, (by omega), (Al.lt_succ heq (Al.grant_ext hc3))⟩ ⟨rfl, rfl, rfl, trivial⟩ (fun _ h => h)
    · simp [-List.getD_eq_getElem?_getD] at hc2
      refine AW.exit ?_
      refine Post.then_x (Post.then_x (Post.blk_hit (Post.then_n ?_)))
      refine AW.seq ?_
      refine AW.region ?_
      refine RW.q (v := .bool true) rfl (q_assign rfl) ?_
      refine RW.nil ?_
      refine Post.then_n ?_
      refine AW.ret ?_
      exact fin_val (v' := .bool true) rfl rfl rfl (by rw [decide_eq_true (Al.list_extE (by omega) (fun j hj => heq j (by omega)))])

set_option maxRecDepth 8000 in
set_option maxHeartbeats 1000000 in
theorem Find_c (w : World) (Φ : Hp) (hΦ : Hp.le Φ (hp w)) {rs : List Bt.Right} {v1 : Value} {v : Int} (h1 : RepSl Φ rs v1) :
    Calls Try.prog 31 #[v1, .int .i64 v] w fun e w' => e = .returned (.int .i64 (Al.findI rs v)) ∧ Below w.heap.size w w' := by
  refine calls_of_AW (args := [v1, .int .i64 v]) Try.func31 rfl (Nat.le_of_ble_eq_true rfl) (St ⟨w, Φ, []⟩ Φ []) (StP.init w Φ hΦ []) ?_
  show AW Try.prog 20 [] _ _ _ [(0, v1), (1, .int .i64 v)] _
  have hm1 : rs.length * 72 ≤ 140737488355328 := h1.max
  refine AW.seq ?_
  refine AW.region ?_
  refine RW.q (v := .int .i64 0) rfl (q_assign rfl) ?_
  refine RW.nil ?_
  refine Post.then_n ?_
  refine AW.seq ?_
  refine AW.seq ?_
  refine AW.region ?_
  refine RW.q (v := .int .i64 0) rfl (q_assign rfl) ?_
  refine RW.nil ?_
  refine Post.then_n ?_
  refine AW.block ?_
  refine AW.loop (fun s J m => ∃ (k : Nat), s = [(0, v1), (1, .int .i64 v), (5, .int .i64 (k : Int))] ∧ J = St ⟨w, Φ, []⟩ Φ [] ∧ m = rs.length - k ∧ (k ≤ rs.length) ∧ (∀ j, j < k → (rs.getD j default).Id ≠ v)) (s0 := _) (J1 := _) (m0 := _) ⟨0, rfl, rfl, rfl, (by omega), (by omega)⟩ ⟨rfl, rfl, rfl, trivial⟩ (fun _ h => h) ?_
  rintro _ _ _ _ ⟨k, rfl, rfl, rfl, hk, heq⟩
  refine AW.seq ?_
  refine AW.seq ?_
  refine AW.region ?_
  refine RW.q (v := .int .i64 (k : Int)) rfl (q_move rfl) ?_
  refine RW.q (v := v1) rfl (q_move rfl) ?_
  refine RW.q (v := .int .i64 ((rs.length : Nat) : Int)) rfl (q_len_sl rfl h1.sl Try.underlying32) ?_
  refine RW.q (v := .bool (decide ((k : Int) < ((rs.length : Nat) : Int)))) rfl (q_lss rfl rfl) ?_
  refine RW.nil ?_
  refine Post.then_n ?_
  refine AW.cond (b := decide ((k : Int) < ((rs.length : Nat) : Int))) rfl (fun hc1 => ?_) (fun hc1 => ?_)
  · simp [-List.getD_eq_getElem?_getD] at hc1
    refine AW.skip ?_
    refine Post.then_n ?_
    refine AW.seq ?_
    refine AW.block ?_
    refine AW.seq ?_
    refine AW.region ?_
    refine RW.q (v := v1) rfl (q_move rfl) ?_
    refine RW.q (v := .int .i64 (k : Int)) rfl (q_move rfl) ?_
    refine RW.q (v := .pointer (some (Value.at v1 (k * 9)))) rfl (q_indexAddr rfl rfl h1.sl Try.underlying32 sz45 (by omega) (by omega) rfl) ?_
    refine RW.q (v := .pointer (some (Value.at v1 (k * 9 + 0)))) rfl (q_fieldAddr rfl Try.underlying45 rfl sz3 at_add) ?_
    refine RW.q (v := .int .i64 ((rs.getD k default).Id)) rfl (q_load rfl Try.underlying3 rfl (Cell.repE (j := 0) h1 (by omega) rfl)) ?_
    refine RW.q (v := .int .i64 v) rfl (q_move rfl) ?_
    refine RW.q (v := .bool (decide ((rs.getD k default).Id = v))) rfl (q_eql rfl rfl) ?_
    refine RW.nil ?_
    refine Post.then_n ?_
    refine AW.cond (b := decide ((rs.getD k default).Id = v)) rfl (fun hc2 => ?_) (fun hc2 => ?_)
    · simp [-List.getD_eq_getElem?_getD] at hc2
      refine AW.seq ?_
      refine AW.region ?_
      refine RW.q (v := .int .i64 (k : Int)) rfl (q_move rfl) ?_
      refine RW.q (v := .int .i64 (k : Int)) rfl (q_assign rfl) ?_
      refine RW.nil ?_
      refine Post.then_n ?_
      refine AW.ret ?_
      refine Post.blk_r (Post.then_r (Post.then_r (Post.blk_r (Post.then_r ?_))))
      exact fin_val (v' := .int .i64 (k : Int)) rfl rfl rfl (by rw [Al.findI_hit (by omega) heq hc2])
    · simp [-List.getD_eq_getElem?_getD] at hc2
      refine AW.skip ?_
      refine Post.blk_n (Post.then_n ?_)
      refine AW.region ?_
      refine RW.q (v := .int .i64 (k : Int)) rfl (q_move rfl) ?_
      refine RW.q (v := .int .i64 ((k + 1 : Nat) : Int)) rfl (q_add rfl rfl (by omega) (by unfold I64; omega)) ?_
      refine RW.q (v := .int .i64 ((k + 1 : Nat) : Int)) rfl (q_assign rfl) ?_
      refine RW.nil ?_
      exact Post.back (s' := _) (J' := _) (m' := _) (by omega) ⟨k + 1, rfl, rfl, rfl, (by omega), (Al.lt_succ heq hc2)⟩ ⟨rfl, rfl, rfl, trivial⟩ (fun _ h => h)
  · simp [-List.getD_eq_getElem?_getD] at hc1
    refine AW.exit ?_
    refine Post.then_x (Post.then_x (Post.blk_hit (Post.then_n ?_)))
    refine AW.seq ?_
    refine AW.region ?_
    refine RW.q (v := .int .i64 (-1)) rfl (q_assign rfl) ?_
    refine RW.nil ?_
    refine Post.then_n ?_
    refine AW.ret ?_
    exact fin_val (v' := .int .i64 (-1)) rfl rfl rfl (by rw [Al.findI_miss (fun j hj => heq j (by omega))])

set_option maxRecDepth 8000 in
set_option maxHeartbeats 1000000 in
theorem few_c (w : World) (Φ : Hp) (hΦ : Hp.le Φ (hp w)) {b : Bt.Basin} {cs : List Value} (hB : RepV Φ b cs) {rs : List Bt.Right} {w1 : Value} (h1 : RepSl Φ rs w1) {gs : List Bt.Grant} {w2 : Value} (h2 : RepSl Φ gs w2) :
    Calls Try.prog 10 #[.agg cs.toArray, w1, w2] w fun e w' => e = .returned (.bool (decide ((b.Places.length : Int) ≤ 64) && decide ((rs.length : Int) ≤ 40) && decide ((gs.length : Int) ≤ 80))) ∧ Below w.heap.size w w' := by
  obtain ⟨v1, v3, v4, v5, v6, v7, v8, v9, hcs, hBw, r1, r3, r4, r5, r6, r7, r8, r9⟩ := (show Rep.rep Φ b cs from hB)
  subst hcs
  have hpm : b.Places.length * 152 ≤ 140737488355328 := r3.max
  refine calls_of_AW (args := [.agg #[.string b.Name, v1, .int .i64 b.Cells, v3, v4, v5, v6, v7, v8, v9, .int .i64 b.Err], w1, w2]) Try.func10 rfl (Nat.le_of_ble_eq_true rfl) (St ⟨w, Φ, []⟩ Φ []) (StP.init w Φ hΦ []) ?_
  show AW Try.prog 21 [] _ _ _ [(0, .agg #[.string b.Name, v1, .int .i64 b.Cells, v3, v4, v5, v6, v7, v8, v9, .int .i64 b.Err]), (1, w1), (2, w2)] _
  refine AW.seq ?_
  refine AW.region ?_
  refine RW.eff (fun b1 : Nat => .pointer (some (⟨b1, 0, none⟩))) (fun b1 => St ⟨w, Φ, []⟩ Φ [.blk b1 31 [.string b.Name, v1, .int .i64 b.Cells, v3, v4, v5, v6, v7, v8, v9, .int .i64 b.Err]]) rfl (e_boxA (cs := [.string b.Name, v1, .int .i64 b.Cells, v3, v4, v5, v6, v7, v8, v9, .int .i64 b.Err]) rfl) ?_
  intro b1
  refine RW.q (v := .bool false) rfl (q_assign rfl) ?_
  refine RW.nil ?_
  refine Post.then_n ?_
  refine AW.seq ?_
  refine AW.region ?_
  refine RW.q (v := .pointer (some (⟨b1, 3, none⟩))) rfl (q_fieldAddr rfl Try.underlying31 rfl sz23 rfl) ?_
  refine RW.q (v := v3) rfl (q_load rfl Try.underlying23 rfl (Cell.blk 0 rfl rfl)) ?_
  refine RW.q (v := .int .i64 ((b.Places.length : Nat) : Int)) rfl (q_len_sl rfl r3.sl Try.underlying23) ?_
  refine RW.q (v := .bool (decide (((b.Places.length : Nat) : Int) ≤ 64))) rfl (q_leq rfl rfl) ?_
  refine RW.q (v := .bool (decide (((b.Places.length : Nat) : Int) ≤ 64))) rfl (q_move rfl) ?_
  refine RW.g (b := (decide (((b.Places.length : Nat) : Int) ≤ 64))) (v := w1) rfl rfl rfl (fun h => q_move rfl) ?_
  refine RW.g (b := (decide (((b.Places.length : Nat) : Int) ≤ 64))) (v := .int .i64 ((rs.length : Nat) : Int)) rfl rfl rfl (fun h => q_len_sl (gv_pos h) h1.sl Try.underlying32) ?_
  refine RW.g (b := (decide (((b.Places.length : Nat) : Int) ≤ 64))) (v := .bool (decide (((rs.length : Nat) : Int) ≤ 40))) rfl rfl rfl (fun h => q_leq (gv_pos h) rfl) ?_
  refine RW.q (v := .bool ((decide (((b.Places.length : Nat) : Int) ≤ 64)) && (decide (((rs.length : Nat) : Int) ≤ 40)))) rfl (q_pick rfl (fun hp => (gv_pos hp).trans (pkAndT hp)) (fun hp => pkAndF hp)) ?_
  refine RW.q (v := .bool ((decide (((b.Places.length : Nat) : Int) ≤ 64)) && (decide (((rs.length : Nat) : Int) ≤ 40)))) rfl (q_move rfl) ?_
  refine RW.g (b := ((decide (((b.Places.length : Nat) : Int) ≤ 64)) && (decide (((rs.length : Nat) : Int) ≤ 40)))) (v := w2) rfl rfl rfl (fun h => q_move rfl) ?_
  refine RW.g (b := ((decide (((b.Places.length : Nat) : Int) ≤ 64)) && (decide (((rs.length : Nat) : Int) ≤ 40)))) (v := .int .i64 ((gs.length : Nat) : Int)) rfl rfl rfl (fun h => q_len_sl (gv_pos h) h2.sl Try.underlying33) ?_
  refine RW.g (b := ((decide (((b.Places.length : Nat) : Int) ≤ 64)) && (decide (((rs.length : Nat) : Int) ≤ 40)))) (v := .bool (decide (((gs.length : Nat) : Int) ≤ 80))) rfl rfl rfl (fun h => q_leq (gv_pos h) rfl) ?_
  refine RW.q (v := .bool (((decide (((b.Places.length : Nat) : Int) ≤ 64)) && (decide (((rs.length : Nat) : Int) ≤ 40))) && (decide (((gs.length : Nat) : Int) ≤ 80)))) rfl (q_pick rfl (fun hp => (gv_pos hp).trans (pkAndT hp)) (fun hp => pkAndF hp)) ?_
  refine RW.q (v := .bool (((decide (((b.Places.length : Nat) : Int) ≤ 64)) && (decide (((rs.length : Nat) : Int) ≤ 40))) && (decide (((gs.length : Nat) : Int) ≤ 80)))) rfl (q_assign rfl) ?_
  refine RW.nil ?_
  refine Post.then_n ?_
  refine AW.ret ?_
  exact fin_val (v' := .bool (((decide (((b.Places.length : Nat) : Int) ≤ 64)) && (decide (((rs.length : Nat) : Int) ≤ 40))) && (decide (((gs.length : Nat) : Int) ≤ 80)))) rfl rfl rfl (rfl)

set_option maxRecDepth 8000 in
set_option maxHeartbeats 1000000 in
theorem Add_c (w : World) (Φ : Hp) (hΦ : Hp.le Φ (hp w)) {x y : Int} (hx : Al.Ok64 x) (hy : Al.Ok64 y) :
    Calls Try.prog 22 #[.int .i64 x, .int .i64 y] w fun e w' => e = .returned (.int .i64 (Al.addS x y)) ∧ Below w.heap.size w w' := by
  refine calls_of_AW (args := [.int .i64 x, .int .i64 y]) Try.func22 rfl (Nat.le_of_ble_eq_true rfl) (St ⟨w, Φ, []⟩ Φ []) (StP.init w Φ hΦ []) ?_
  show AW Try.prog 24 [] _ _ _ [(0, .int .i64 x), (1, .int .i64 y)] _
  unfold Al.Ok64 Al.minI Al.maxI at hx hy
  refine AW.seq ?_
  refine AW.region ?_
  refine RW.q (v := .int .i64 0) rfl (q_assign rfl) ?_
  refine RW.nil ?_
  refine Post.then_n ?_
  refine AW.seq ?_
  refine AW.seq ?_
  refine AW.region ?_
  refine RW.q (v := .int .i64 y) rfl (q_move rfl) ?_
  refine RW.q (v := .bool (decide ((0 : Int) < y))) rfl (q_gtr rfl rfl) ?_
  refine RW.q (v := .bool (decide ((0 : Int) < y))) rfl (q_move rfl) ?_
  refine RW.g (b := (decide ((0 : Int) < y))) (v := .int .i64 x) rfl rfl rfl (fun h => q_move rfl) ?_
  refine RW.g (b := (decide ((0 : Int) < y))) (v := .int .i64 y) rfl rfl rfl (fun h => q_move rfl) ?_
  refine RW.g (b := (decide ((0 : Int) < y))) (v := .int .i64 (9223372036854775807 - y)) rfl rfl rfl (fun h => q_sub rfl (gv_pos h) (by (try simp [-List.getD_eq_getElem?_getD] at h); omega) (by (try simp [-List.getD_eq_getElem?_getD] at h); unfold I64; omega)) ?_
  refine RW.g (b := (decide ((0 : Int) < y))) (v := .bool (decide (9223372036854775807 - y < x))) rfl rfl rfl (fun h => q_gtr (gv_pos h) (gv_pos h)) ?_
  refine RW.q (v := .bool ((decide ((0 : Int) < y)) && (decide (9223372036854775807 - y < x)))) rfl (q_pick rfl (fun hp => (gv_pos hp).trans (pkAndT hp)) (fun hp => pkAndF hp)) ?_
  refine RW.nil ?_
  refine Post.then_n ?_
  refine AW.cond (b := (decide ((0 : Int) < y)) && (decide (9223372036854775807 - y < x))) rfl (fun hc1 => ?_) (fun hc1 => ?_)
  · simp [-List.getD_eq_getElem?_getD] at hc1
    refine AW.seq ?_
    refine AW.region ?_
    refine RW.q (v := .int .i64 9223372036854775807) rfl (q_assign rfl) ?_
    refine RW.nil ?_
    refine Post.then_n ?_
    refine AW.ret ?_
    refine Post.then_r ?_
    exact fin_val (v' := .int .i64 9223372036854775807) rfl rfl rfl (by unfold Al.addS Al.maxI Al.minI; rw [if_pos (by omega)])
  · simp [-List.getD_eq_getElem?_getD] at hc1
    refine AW.skip ?_
    refine Post.then_n ?_
    refine AW.seq ?_
    refine AW.seq ?_
    refine AW.region ?_
    refine RW.q (v := .int .i64 y) rfl (q_move rfl) ?_
    refine RW.q (v := .bool (decide (y < 0))) rfl (q_lss rfl rfl) ?_
    refine RW.q (v := .bool (decide (y < 0))) rfl (q_move rfl) ?_
    refine RW.g (b := (decide (y < 0))) (v := .int .i64 x) rfl rfl rfl (fun h => q_move rfl) ?_
    refine RW.g (b := (decide (y < 0))) (v := .int .i64 y) rfl rfl rfl (fun h => q_move rfl) ?_
    refine RW.g (b := (decide (y < 0))) (v := .int .i64 ((-9223372036854775808) - y)) rfl rfl rfl (fun h => q_sub rfl (gv_pos h) (by (try simp [-List.getD_eq_getElem?_getD] at h); omega) (by (try simp [-List.getD_eq_getElem?_getD] at h); unfold I64; omega)) ?_
    refine RW.g (b := (decide (y < 0))) (v := .bool (decide (x < (-9223372036854775808) - y))) rfl rfl rfl (fun h => q_lss (gv_pos h) (gv_pos h)) ?_
    refine RW.q (v := .bool ((decide (y < 0)) && (decide (x < (-9223372036854775808) - y)))) rfl (q_pick rfl (fun hp => (gv_pos hp).trans (pkAndT hp)) (fun hp => pkAndF hp)) ?_
    refine RW.nil ?_
    refine Post.then_n ?_
    refine AW.cond (b := (decide (y < 0)) && (decide (x < (-9223372036854775808) - y))) rfl (fun hc2 => ?_) (fun hc2 => ?_)
    · simp [-List.getD_eq_getElem?_getD] at hc2
      refine AW.seq ?_
      refine AW.region ?_
      refine RW.q (v := .int .i64 (-9223372036854775808)) rfl (q_assign rfl) ?_
      refine RW.nil ?_
      refine Post.then_n ?_
      refine AW.ret ?_
      refine Post.then_r ?_
      exact fin_val (v' := .int .i64 (-9223372036854775808)) rfl rfl rfl (by unfold Al.addS Al.maxI Al.minI; rw [if_neg (by omega), if_pos (by omega)])
    · simp [-List.getD_eq_getElem?_getD] at hc2
      refine AW.skip ?_
      refine Post.then_n ?_
      refine AW.seq ?_
      refine AW.region ?_
      refine RW.q (v := .int .i64 x) rfl (q_move rfl) ?_
      refine RW.q (v := .int .i64 y) rfl (q_move rfl) ?_
      refine RW.q (v := .int .i64 (x + y)) rfl (q_add rfl rfl (by omega) (by unfold I64; omega)) ?_
      refine RW.q (v := .int .i64 (x + y)) rfl (q_assign rfl) ?_
      refine RW.nil ?_
      refine Post.then_n ?_
      refine AW.ret ?_
      exact fin_val (v' := .int .i64 (x + y)) rfl rfl rfl (by unfold Al.addS Al.maxI Al.minI; rw [if_neg (by omega), if_neg (by omega)])

set_option maxRecDepth 8000 in
set_option maxHeartbeats 1000000 in
theorem rAdd_c (w : World) (Φ : Hp) (hΦ : Hp.le Φ (hp w)) {x y : Int} (hx : Al.Ok64 x) (hy : Al.Ok64 y) :
    Calls Try.prog 34 #[.int .i64 x, .int .i64 y] w fun e w' => e = .returned (.int .i64 (Al.addS x y)) ∧ Below w.heap.size w w' := by
  refine calls_of_AW (args := [.int .i64 x, .int .i64 y]) Try.func34 rfl (Nat.le_of_ble_eq_true rfl) (St ⟨w, Φ, []⟩ Φ []) (StP.init w Φ hΦ []) ?_
  show AW Try.prog 24 [] _ _ _ [(0, .int .i64 x), (1, .int .i64 y)] _
  unfold Al.Ok64 Al.minI Al.maxI at hx hy
  refine AW.seq ?_
  refine AW.region ?_
  refine RW.q (v := .int .i64 0) rfl (q_assign rfl) ?_
  refine RW.nil ?_
  refine Post.then_n ?_
  refine AW.seq ?_
  refine AW.seq ?_
  refine AW.region ?_
  refine RW.q (v := .int .i64 y) rfl (q_move rfl) ?_
  refine RW.q (v := .bool (decide ((0 : Int) < y))) rfl (q_gtr rfl rfl) ?_
  refine RW.q (v := .bool (decide ((0 : Int) < y))) rfl (q_move rfl) ?_
  refine RW.g (b := (decide ((0 : Int) < y))) (v := .int .i64 x) rfl rfl rfl (fun h => q_move rfl) ?_
  refine RW.g (b := (decide ((0 : Int) < y))) (v := .int .i64 y) rfl rfl rfl (fun h => q_move rfl) ?_
  refine RW.g (b := (decide ((0 : Int) < y))) (v := .int .i64 (9223372036854775807 - y)) rfl rfl rfl (fun h => q_sub rfl (gv_pos h) (by (try simp [-List.getD_eq_getElem?_getD] at h); omega) (by (try simp [-List.getD_eq_getElem?_getD] at h); unfold I64; omega)) ?_
  refine RW.g (b := (decide ((0 : Int) < y))) (v := .bool (decide (9223372036854775807 - y < x))) rfl rfl rfl (fun h => q_gtr (gv_pos h) (gv_pos h)) ?_
  refine RW.q (v := .bool ((decide ((0 : Int) < y)) && (decide (9223372036854775807 - y < x)))) rfl (q_pick rfl (fun hp => (gv_pos hp).trans (pkAndT hp)) (fun hp => pkAndF hp)) ?_
  refine RW.nil ?_
  refine Post.then_n ?_
  refine AW.cond (b := (decide ((0 : Int) < y)) && (decide (9223372036854775807 - y < x))) rfl (fun hc1 => ?_) (fun hc1 => ?_)
  · simp [-List.getD_eq_getElem?_getD] at hc1
    refine AW.seq ?_
    refine AW.region ?_
    refine RW.q (v := .int .i64 9223372036854775807) rfl (q_assign rfl) ?_
    refine RW.nil ?_
    refine Post.then_n ?_
    refine AW.ret ?_
    refine Post.then_r ?_
    exact fin_val (v' := .int .i64 9223372036854775807) rfl rfl rfl (by unfold Al.addS Al.maxI Al.minI; rw [if_pos (by omega)])
  · simp [-List.getD_eq_getElem?_getD] at hc1
    refine AW.skip ?_
    refine Post.then_n ?_
    refine AW.seq ?_
    refine AW.seq ?_
    refine AW.region ?_
    refine RW.q (v := .int .i64 y) rfl (q_move rfl) ?_
    refine RW.q (v := .bool (decide (y < 0))) rfl (q_lss rfl rfl) ?_
    refine RW.q (v := .bool (decide (y < 0))) rfl (q_move rfl) ?_
    refine RW.g (b := (decide (y < 0))) (v := .int .i64 x) rfl rfl rfl (fun h => q_move rfl) ?_
    refine RW.g (b := (decide (y < 0))) (v := .int .i64 y) rfl rfl rfl (fun h => q_move rfl) ?_
    refine RW.g (b := (decide (y < 0))) (v := .int .i64 ((-9223372036854775808) - y)) rfl rfl rfl (fun h => q_sub rfl (gv_pos h) (by (try simp [-List.getD_eq_getElem?_getD] at h); omega) (by (try simp [-List.getD_eq_getElem?_getD] at h); unfold I64; omega)) ?_
    refine RW.g (b := (decide (y < 0))) (v := .bool (decide (x < (-9223372036854775808) - y))) rfl rfl rfl (fun h => q_lss (gv_pos h) (gv_pos h)) ?_
    refine RW.q (v := .bool ((decide (y < 0)) && (decide (x < (-9223372036854775808) - y)))) rfl (q_pick rfl (fun hp => (gv_pos hp).trans (pkAndT hp)) (fun hp => pkAndF hp)) ?_
    refine RW.nil ?_
    refine Post.then_n ?_
    refine AW.cond (b := (decide (y < 0)) && (decide (x < (-9223372036854775808) - y))) rfl (fun hc2 => ?_) (fun hc2 => ?_)
    · simp [-List.getD_eq_getElem?_getD] at hc2
      refine AW.seq ?_
      refine AW.region ?_
      refine RW.q (v := .int .i64 (-9223372036854775808)) rfl (q_assign rfl) ?_
      refine RW.nil ?_
      refine Post.then_n ?_
      refine AW.ret ?_
      refine Post.then_r ?_
      exact fin_val (v' := .int .i64 (-9223372036854775808)) rfl rfl rfl (by unfold Al.addS Al.maxI Al.minI; rw [if_neg (by omega), if_pos (by omega)])
    · simp [-List.getD_eq_getElem?_getD] at hc2
      refine AW.skip ?_
      refine Post.then_n ?_
      refine AW.seq ?_
      refine AW.region ?_
      refine RW.q (v := .int .i64 x) rfl (q_move rfl) ?_
      refine RW.q (v := .int .i64 y) rfl (q_move rfl) ?_
      refine RW.q (v := .int .i64 (x + y)) rfl (q_add rfl rfl (by omega) (by unfold I64; omega)) ?_
      refine RW.q (v := .int .i64 (x + y)) rfl (q_assign rfl) ?_
      refine RW.nil ?_
      refine Post.then_n ?_
      refine AW.ret ?_
      exact fin_val (v' := .int .i64 (x + y)) rfl rfl rfl (by unfold Al.addS Al.maxI Al.minI; rw [if_neg (by omega), if_neg (by omega)])

set_option maxRecDepth 8000 in
set_option maxHeartbeats 1000000 in
theorem Clamp_c (w : World) (Φ : Hp) (hΦ : Hp.le Φ (hp w)) {x lo hi : Int} :
    Calls Try.prog 29 #[.int .i64 x, .int .i64 lo, .int .i64 hi] w fun e w' => e = .returned (.int .i64 (Al.clamp x lo hi)) ∧ Below w.heap.size w w' := by
  refine calls_of_AW (args := [.int .i64 x, .int .i64 lo, .int .i64 hi]) Try.func29 rfl (Nat.le_of_ble_eq_true rfl) (St ⟨w, Φ, []⟩ Φ []) (StP.init w Φ hΦ []) ?_
  show AW Try.prog 16 [] _ _ _ [(0, .int .i64 x), (1, .int .i64 lo), (2, .int .i64 hi)] _
  refine AW.seq ?_
  refine AW.region ?_
  refine RW.q (v := .int .i64 0) rfl (q_assign rfl) ?_
  refine RW.nil ?_
  refine Post.then_n ?_
  refine AW.seq ?_
  refine AW.seq ?_
  refine AW.region ?_
  refine RW.q (v := .int .i64 x) rfl (q_move rfl) ?_
  refine RW.q (v := .int .i64 lo) rfl (q_move rfl) ?_
  refine RW.q (v := .bool (decide (x < lo))) rfl (q_lss rfl rfl) ?_
  refine RW.nil ?_
  refine Post.then_n ?_
  refine AW.cond (b := decide (x < lo)) rfl (fun hc1 => ?_) (fun hc1 => ?_)
  · simp [-List.getD_eq_getElem?_getD] at hc1
    refine AW.seq ?_
    refine AW.region ?_
    refine RW.q (v := .int .i64 lo) rfl (q_move rfl) ?_
    refine RW.q (v := .int .i64 lo) rfl (q_assign rfl) ?_
    refine RW.nil ?_
    refine Post.then_n ?_
    refine AW.ret ?_
    refine Post.then_r ?_
    exact fin_val (v' := .int .i64 lo) rfl rfl rfl (by unfold Al.clamp; rw [if_pos (by omega)])
  · simp [-List.getD_eq_getElem?_getD] at hc1
    refine AW.skip ?_
    refine Post.then_n ?_
    refine AW.seq ?_
    refine AW.seq ?_
    refine AW.region ?_
    refine RW.q (v := .int .i64 x) rfl (q_move rfl) ?_
    refine RW.q (v := .int .i64 hi) rfl (q_move rfl) ?_
    refine RW.q (v := .bool (decide (hi < x))) rfl (q_gtr rfl rfl) ?_
    refine RW.nil ?_
    refine Post.then_n ?_
    refine AW.cond (b := decide (hi < x)) rfl (fun hc2 => ?_) (fun hc2 => ?_)
    · simp [-List.getD_eq_getElem?_getD] at hc2
      refine AW.seq ?_
      refine AW.region ?_
      refine RW.q (v := .int .i64 hi) rfl (q_move rfl) ?_
      refine RW.q (v := .int .i64 hi) rfl (q_assign rfl) ?_
      refine RW.nil ?_
      refine Post.then_n ?_
      refine AW.ret ?_
      refine Post.then_r ?_
      exact fin_val (v' := .int .i64 hi) rfl rfl rfl (by unfold Al.clamp; rw [if_neg (by omega), if_pos (by omega)])
    · simp [-List.getD_eq_getElem?_getD] at hc2
      refine AW.skip ?_
      refine Post.then_n ?_
      refine AW.seq ?_
      refine AW.region ?_
      refine RW.q (v := .int .i64 x) rfl (q_move rfl) ?_
      refine RW.q (v := .int .i64 x) rfl (q_assign rfl) ?_
      refine RW.nil ?_
      refine Post.then_n ?_
      refine AW.ret ?_
      exact fin_val (v' := .int .i64 x) rfl rfl rfl (by unfold Al.clamp; rw [if_neg (by omega), if_neg (by omega)])

set_option maxRecDepth 8000 in
set_option maxHeartbeats 1000000 in
theorem rClamp_c (w : World) (Φ : Hp) (hΦ : Hp.le Φ (hp w)) {x lo hi : Int} :
    Calls Try.prog 33 #[.int .i64 x, .int .i64 lo, .int .i64 hi] w fun e w' => e = .returned (.int .i64 (Al.clamp x lo hi)) ∧ Below w.heap.size w w' := by
  refine calls_of_AW (args := [.int .i64 x, .int .i64 lo, .int .i64 hi]) Try.func33 rfl (Nat.le_of_ble_eq_true rfl) (St ⟨w, Φ, []⟩ Φ []) (StP.init w Φ hΦ []) ?_
  show AW Try.prog 16 [] _ _ _ [(0, .int .i64 x), (1, .int .i64 lo), (2, .int .i64 hi)] _
  refine AW.seq ?_
  refine AW.region ?_
  refine RW.q (v := .int .i64 0) rfl (q_assign rfl) ?_
  refine RW.nil ?_
  refine Post.then_n ?_
  refine AW.seq ?_
  refine AW.seq ?_
  refine AW.region ?_
  refine RW.q (v := .int .i64 x) rfl (q_move rfl) ?_
  refine RW.q (v := .int .i64 lo) rfl (q_move rfl) ?_
  refine RW.q (v := .bool (decide (x < lo))) rfl (q_lss rfl rfl) ?_
  refine RW.nil ?_
  refine Post.then_n ?_
  refine AW.cond (b := decide (x < lo)) rfl (fun hc1 => ?_) (fun hc1 => ?_)
  · simp [-List.getD_eq_getElem?_getD] at hc1
    refine AW.seq ?_
    refine AW.region ?_
    refine RW.q (v := .int .i64 lo) rfl (q_move rfl) ?_
    refine RW.q (v := .int .i64 lo) rfl (q_assign rfl) ?_
    refine RW.nil ?_
    refine Post.then_n ?_
    refine AW.ret ?_
    refine Post.then_r ?_
    exact fin_val (v' := .int .i64 lo) rfl rfl rfl (by unfold Al.clamp; rw [if_pos (by omega)])
  · simp [-List.getD_eq_getElem?_getD] at hc1
    refine AW.skip ?_
    refine Post.then_n ?_
    refine AW.seq ?_
    refine AW.seq ?_
    refine AW.region ?_
    refine RW.q (v := .int .i64 x) rfl (q_move rfl) ?_
    refine RW.q (v := .int .i64 hi) rfl (q_move rfl) ?_
    refine RW.q (v := .bool (decide (hi < x))) rfl (q_gtr rfl rfl) ?_
    refine RW.nil ?_
    refine Post.then_n ?_
    refine AW.cond (b := decide (hi < x)) rfl (fun hc2 => ?_) (fun hc2 => ?_)
    · simp [-List.getD_eq_getElem?_getD] at hc2
      refine AW.seq ?_
      refine AW.region ?_
      refine RW.q (v := .int .i64 hi) rfl (q_move rfl) ?_
      refine RW.q (v := .int .i64 hi) rfl (q_assign rfl) ?_
      refine RW.nil ?_
      refine Post.then_n ?_
      refine AW.ret ?_
      refine Post.then_r ?_
      exact fin_val (v' := .int .i64 hi) rfl rfl rfl (by unfold Al.clamp; rw [if_neg (by omega), if_pos (by omega)])
    · simp [-List.getD_eq_getElem?_getD] at hc2
      refine AW.skip ?_
      refine Post.then_n ?_
      refine AW.seq ?_
      refine AW.region ?_
      refine RW.q (v := .int .i64 x) rfl (q_move rfl) ?_
      refine RW.q (v := .int .i64 x) rfl (q_assign rfl) ?_
      refine RW.nil ?_
      refine Post.then_n ?_
      refine AW.ret ?_
      exact fin_val (v' := .int .i64 x) rfl rfl rfl (by unfold Al.clamp; rw [if_neg (by omega), if_neg (by omega)])

end Go.Proofs.Ytpeojogjeopfaaa
