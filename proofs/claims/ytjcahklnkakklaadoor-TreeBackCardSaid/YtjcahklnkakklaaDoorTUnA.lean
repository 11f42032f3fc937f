/- Walks (part UnA), printed by walk2.py. Conditions: those of each theorem. -/
import Derived.Test.YtjcahklnkakklaaDoorTLibA
import Derived.Test.YtjcahklnkakklaaDoorTUnPlB
import Derived.Lib.LaidTab
namespace Go.Proofs.YtjcahklnkakklaaDoor
open Go Go.K Go.RowKit
set_option maxRecDepth 8000
set_option maxHeartbeats 1000000
attribute [local irreducible] AW RW DW Post Qt
def mCells : List Value := Un.ms.flatMap fun m => [.string (bs m.1), iV (m.2.1 : Int), iV (m.2.2.1 : Int), iV (m.2.2.2 : Int)]
theorem flat4 {α β : Type} (f : α → List β) (h : ∀ x, (f x).length = 4) : ∀ (l : List α) (d : α) (k j : Nat), k < l.length → j < 4 → (l.flatMap f)[k * 4 + j]? = (f (l.getD k d))[j]?
 | [], _, _, _, hk, _ => absurd hk (Nat.not_lt_zero _)
 | x :: l, d, 0, j, _, hj => by rw [List.flatMap_cons, Nat.zero_mul, Nat.zero_add, List.getElem?_append_left (by rw [h]; exact hj)]; rfl
 | x :: l, d, k + 1, j, hk, hj => by
  rw [List.flatMap_cons, List.getElem?_append_right (by rw [h]; omega), h, show (k + 1) * 4 + j - 4 = k * 4 + j by omega, flat4 f h l d k j (by simpa using hk) hj]; rfl
def Glob (w : World) : Prop := (∀ j v, mCells[j]? = some v → w.cell? ⟨0, j, none⟩ = some v) ∧ Lib.TabIs Tryd.prog w "internal/strconv.uint64pow10" .u64 Lib.pow10Tab
theorem glob_cells {B : Bs} {Φ : Hp} {C : List Chunk} (h : Knows Φ Glob) : Cells (St B Φ C) ⟨0, 0, none⟩ mCells := fun j v hv w hw => by
 have e : (⟨0, 0, none⟩ : Addr).add j = ⟨0, j, none⟩ := by simp only [Addr.add]; split <;> simp_all
 rw [e]; exact (h w hw.phi).1 j v hv
theorem mea_at {k : Nat} (hk : k < 19) {m : Un.Mea} (hm : Un.ms.getD k default = m) : ∀ j v, [Value.string (bs m.1), iV (m.2.1 : Int), iV (m.2.2.1 : Int), iV (m.2.2.2 : Int)][j]? = some v → mCells.toArray[(k : Int).toNat * 4 + j]? = some v := fun j v hv => by
 have hj : j < 4 := (List.getElem?_eq_some_iff.1 hv).1
 subst hm
 have h := flat4 (fun m : Un.Mea => [Value.string (bs m.1), iV (m.2.1 : Int), iV (m.2.2.1 : Int), iV (m.2.2.2 : Int)]) (fun _ => rfl) Un.ms default k j (by rw [Un.ms_len]; exact hk) hj
 rw [Int.toNat_natCast, List.getElem?_toArray]
 exact h.trans hv
theorem sz85 : (Tryd.prog.info? 85).map (·.size) = some 76 := by kernel_rfl
theorem add64_run (x y : Nat) (w : World) : (add64Entry [Value.int .u64 (x : Int), .int .u64 (y : Int), .int .u64 ((0 : Nat) : Int)].toArray).run Tryd.prog w = .ok (.tuple #[.int .u64 (((x + y) % 18446744073709551616 : Nat) : Int), .int .u64 (((x + y) / 18446744073709551616 : Nat) : Int)]) w := by
 have h := run_add64 (P := Tryd.prog) (x : Int) (y : Int) 0 (by omega) (by omega) (by omega) (by omega) w
 rw [show [Value.int .u64 (x : Int), .int .u64 (y : Int), .int .u64 ((0 : Nat) : Int)].toArray = #[.int .u64 (x : Int), .int .u64 (y : Int), .int .u64 0] from rfl, h]
 congr 4 <;> simp <;> omega
theorem digits_c (w : World) (Φ : Hp) (hΦ : Hp.le Φ (hp w)) {l : List UInt8} (hl : l.length ≤ 1099511627776) {n : Int} :
  Calls Tryd.prog 26 #[.string (bs l), iV n] w fun e w' => e = .returned (.bool (Un.digs l n)) ∧ Bel w.heap.size w w' := by
 refine calls_of_AW (args := [.string (bs l), iV n]) Tryd.func26 rfl (Nat.le_of_ble_eq_true rfl) (St ⟨w, Φ, []⟩ Φ []) (StP.init w Φ hΦ []) ?_
 show AW Tryd.prog 31 [] _ _ _ [(0, .string (bs l)), (1, iV n)] _
 refine g9 ?_
 refine RW.q (v := iV (l.length : Int)) rfl (q_lenS (l := l) rfl uT9) ?_
 refine g4 ?_
 refine AW.loop (fun s J m => ∃ (k : Nat), s = [(0, .string (bs l)), (1, iV n), (7, iV (l.length : Int)), (8, iV (k : Int))] ∧ J = St ⟨w, Φ, []⟩ Φ [] ∧ m = l.length - k ∧ (k ≤ l.length) ∧ (∀ j, j < k → Un.isD (l.getD j 0) = true)) (s0 := _) (J1 := _) (m0 := _) ⟨0, rfl, rfl, rfl, (by omega), (by omega)⟩ ⟨rfl, rfl, rfl, rfl, trivial⟩ (fun _ h => h) ?_
 rintro _ _ _ _ ⟨k, rfl, rfl, rfl, hk, hall⟩
 refine g6 ?_
 refine AW.cond rfl (fun hc1 => ?_) fun hc1 => ?_
 ·
  simp [-List.getD_eq_getElem?_getD] at hc1
  refine g14 ?_
  refine RW.q (v := .int .u8 (((l.getD k 0).toNat : Nat) : Int)) rfl (q_indexS (l := l) (i := (k : Int)) rfl rfl uT9 (by omega) (by omega)) ?_
  refine RW.q (v := .bool (decide ((((l.getD k 0).toNat : Nat) : Int) < ((48 : Nat) : Int)))) rfl (q_lss (a := (((l.getD k 0).toNat : Nat) : Int)) (b := ((48 : Nat) : Int)) rfl rfl) ?_
  refine g3 ?_
  refine RW.g (b := (decide ((((l.getD k 0).toNat : Nat) : Int) < ((48 : Nat) : Int)))) (v := .int .u8 (((l.getD k 0).toNat : Nat) : Int)) rfl rfl rfl (fun h => q_indexS (l := l) (i := (k : Int)) (gv_pos h) (gv_pos h) uT9 (by (try simp [-List.getD_eq_getElem?_getD] at h); omega) (by (try simp [-List.getD_eq_getElem?_getD] at h); omega)) ?_
  refine RW.g (b := (decide ((((l.getD k 0).toNat : Nat) : Int) < ((48 : Nat) : Int)))) (v := .bool (decide (((57 : Nat) : Int) < (((l.getD k 0).toNat : Nat) : Int)))) rfl rfl rfl (fun h => q_gtr (a := (((l.getD k 0).toNat : Nat) : Int)) (b := ((57 : Nat) : Int)) (gv_pos h) rfl) ?_
  obtain ⟨qb1, hqb1⟩ : ∃ qz : Bool, ((decide ((((l.getD k 0).toNat : Nat) : Int) < ((48 : Nat) : Int))) || (decide (((57 : Nat) : Int) < (((l.getD k 0).toNat : Nat) : Int)))) = qz := ⟨_, rfl⟩
  refine RW.q (v := .bool qb1) rfl (q_as (v := .bool ((decide ((((l.getD k 0).toNat : Nat) : Int) < ((48 : Nat) : Int))) || (decide (((57 : Nat) : Int) < (((l.getD k 0).toNat : Nat) : Int))))) (q_pick rfl (fun hp => pkOrT hp) (fun hp => (gv_pos hp).trans (pkOrF hp))) (congrArg Value.bool hqb1)) ?_
  subst hqb1
  refine g2 ?_
  refine AW.cond rfl (fun hc2 => ?_) fun hc2 => ?_
  ·
   simp [-List.getD_eq_getElem?_getD] at hc2
   refine g1 ?_
   have hbad : Un.isD (l.getD k 0) = false := by
    cases hd : Un.isD (l.getD k 0) with
    | false => rfl
    | true => rw [Un.isD_iff] at hd; omega
   refine g10 ?_
   exact fin_val (v' := .bool false) rfl rfl rfl (by rw [Un.digs_bad (by omega) hbad])
  ·
   simp [-List.getD_eq_getElem?_getD] at hc2
   refine g7 ?_
   exact Post.back (s' := _) (J' := _) (m' := _) (by omega) ⟨k + 1, rfl, rfl, rfl, (by omega), (Un.lt_succ' hall (by rw [Un.isD_iff]; omega))⟩ ⟨rfl, rfl, rfl, rfl, trivial⟩ (fun _ h => h)
 ·
  simp [-List.getD_eq_getElem?_getD] at hc1
  refine g8 ?_
  refine RW.q (v := iV (l.length : Int)) rfl (q_lenS (l := l) rfl uT9) ?_
  refine g3 ?_
  refine RW.g (b := (decide ((1 : Int) ≤ (l.length : Int)))) (v := iV (l.length : Int)) rfl rfl rfl (fun h => q_lenS (l := l) (gv_pos h) uT9) ?_
  refine g2 ?_
  obtain ⟨qb2, hqb2⟩ : ∃ qz : Bool, ((decide ((1 : Int) ≤ (l.length : Int))) && (decide ((l.length : Int) ≤ n))) = qz := ⟨_, rfl⟩
  refine RW.q (v := .bool qb2) rfl (q_as (v := .bool ((decide ((1 : Int) ≤ (l.length : Int))) && (decide ((l.length : Int) ≤ n)))) (q_pick rfl (fun hp => (gv_pos hp).trans (pkAndT hp)) (fun hp => pkAndF hp)) (congrArg Value.bool hqb2)) ?_
  refine g1 ?_
  subst hqb2
  refine g3 ?_
  exact fin_val (v' := .bool ((decide ((1 : Int) ≤ (l.length : Int))) && (decide ((l.length : Int) ≤ n)))) rfl rfl rfl (by rw [Un.digs_good (fun j hj => hall j (by omega))]; congr 2; simp only [decide_eq_decide]; omega)
theorem value_c (w : World) (Φ : Hp) (hΦ : Hp.le Φ (hp w)) {l : List UInt8} (hl : l.length ≤ 1099511627776) (hd : ∀ b ∈ l, Un.isD b = true) :
  Calls Tryd.prog 29 #[.string (bs l)] w fun e w' => e = .returned (iV (Un.valC l : Int)) ∧ Bel w.heap.size w w' := by
 refine calls_of_AW (args := [.string (bs l)]) Tryd.func29 rfl (Nat.le_of_ble_eq_true rfl) (St ⟨w, Φ, []⟩ Φ []) (StP.init w Φ hΦ []) ?_
 show AW Tryd.prog 21 [] _ _ _ [(0, .string (bs l))] _
 refine g14 ?_
 refine RW.q (v := iV (l.length : Int)) rfl (q_lenS (l := l) rfl uT9) ?_
 refine g4 ?_
 refine AW.loop (fun s J m => ∃ (k : Nat), s = [(0, .string (bs l)), (6, iV (l.length : Int)), (7, iV (k : Int)), (3, iV ((Un.valC (l.take k) : Nat) : Int))] ∧ J = St ⟨w, Φ, []⟩ Φ [] ∧ m = l.length - k ∧ (k ≤ l.length)) (s0 := _) (J1 := _) (m0 := _) ⟨0, rfl, rfl, rfl, (by omega)⟩ ⟨rfl, rfl, rfl, rfl, trivial⟩ (fun _ h => h) ?_
 rintro _ _ _ _ ⟨k, rfl, rfl, rfl, hk⟩
 refine g6 ?_
 refine AW.cond rfl (fun hc1 => ?_) fun hc1 => ?_
 ·
  simp [-List.getD_eq_getElem?_getD] at hc1
  refine g5 ?_
  have hdk := Un.get_all hd (show k < l.length by omega)
  rw [Un.isD_iff] at hdk
  have hvl := Un.valC_le (l.take k)
  unfold Un.M at hvl
  refine g7 ?_
  refine RW.q (v := iV (10 * ((Un.valC (l.take k) : Nat) : Int))) rfl (q_mul rfl rfl rfl (by unfold I64; omega)) ?_
  refine g2 ?_
  refine RW.q (v := .int .u8 (((l.getD k 0).toNat : Nat) : Int)) rfl (q_indexS (l := l) (i := (k : Int)) rfl rfl uT9 (by omega) (by omega)) ?_
  refine RW.q (v := .int .u8 ((((l.getD k 0).toNat) - 48 : Nat) : Int)) rfl (q_subB (a := ((l.getD k 0).toNat)) (b := 48) rfl rfl (by omega) rfl (by have := UInt8.toNat_lt (l.getD k 0); omega)) ?_
  refine RW.q (v := iV ((((l.getD k 0).toNat) - 48 : Nat) : Int)) rfl (q_toK (k := .i64) rfl uT5 uT3 (wrap64_of (by have := UInt8.toNat_lt (l.getD k 0); unfold I64; omega))) ?_
  refine g1 ?_
  refine RW.q (v := iV ((Un.valC (l.take (k + 1)) : Nat) : Int)) rfl (q_as (v := iV (min ((10 * ((Un.valC (l.take k) : Nat) : Int)) + ((((l.getD k 0).toNat) - 48 : Nat) : Int)) 1125899906842625)) (q_min rfl rfl) (congrArg (Value.int .i64) (by rw [Un.take_snoc (show k < l.length by omega), Un.valC_snoc]; unfold Un.dg Un.M; omega))) ?_
  refine g8 ?_
  exact Post.back (s' := _) (J' := _) (m' := _) (by omega) ⟨k + 1, rfl, rfl, rfl, (by omega)⟩ ⟨rfl, rfl, rfl, rfl, trivial⟩ (fun _ h => h)
 ·
  simp [-List.getD_eq_getElem?_getD] at hc1
  refine g12 ?_
  exact fin_val (v' := iV ((Un.valC (l.take k) : Nat) : Int)) rfl rfl rfl (by rw [List.take_of_length_le (by omega)])
theorem find_c (w : World) (Φ : Hp) (hΦ : Hp.le Φ (hp w)) (hG : Knows Φ Glob) {l : List UInt8} :
  Calls Tryd.prog 27 #[.string (bs l)] w fun e w' => e = .returned (.tuple #[.agg #[.string (bs ((Un.fdM l).1)), iV (((Un.fdM l).2.1 : Nat) : Int), iV (((Un.fdM l).2.2.1 : Nat) : Int), iV (((Un.fdM l).2.2.2 : Nat) : Int)], .bool (Un.look l).isSome]) ∧ Bel w.heap.size w w' := by
 refine calls_of_AW (args := [.string (bs l)]) Tryd.func27 rfl (Nat.le_of_ble_eq_true rfl) (St ⟨w, Φ, []⟩ Φ []) (StP.init w Φ hΦ []) ?_
 show AW Tryd.prog 17 [] _ _ _ [(0, .string (bs l))] _
 refine g2 ?_
 refine RW.alc rfl fun b1 => ?_
 refine g6 ?_
 refine RW.q (v := .agg mCells.toArray) rfl (q_loadAgg rfl uT85 rfl sz85 rfl (glob_cells hG)) ?_
 refine g4 ?_
 refine AW.loop (fun s J m => ∃ (k : Nat), s = [(0, .string (bs l)), (2, pV b1 0), (3, .bool false), (6, .agg mCells.toArray), (7, iV (k : Int))] ∧ J = St ⟨w, Φ, []⟩ Φ [.blk b1 70 [.string (bs ([])), iV 0, iV 0, iV 0]] ∧ m = 19 - k ∧ (k ≤ 19) ∧ (∀ j, j < k → (Un.ms.getD j default).1 ≠ l)) (s0 := _) (J1 := _) (m0 := _) ⟨0, rfl, rfl, rfl, (by omega), (by omega)⟩ ⟨rfl, rfl, rfl, rfl, rfl, trivial⟩ (fun _ h => h) ?_
 rintro _ _ _ _ ⟨k, rfl, rfl, rfl, hk, hne⟩
 refine g6 ?_
 refine AW.cond rfl (fun hc1 => ?_) fun hc1 => ?_
 ·
  simp [-List.getD_eq_getElem?_getD] at hc1
  refine g6 ?_
  refine RW.q (v := .agg #[.string (bs ((Un.ms.getD k default).1)), iV (((Un.ms.getD k default).2.1 : Nat) : Int), iV (((Un.ms.getD k default).2.2.1 : Nat) : Int), iV (((Un.ms.getD k default).2.2.2 : Nat) : Int)]) rfl (q_indexArr (es := [.string (bs ((Un.ms.getD k default).1)), iV (((Un.ms.getD k default).2.1 : Nat) : Int), iV (((Un.ms.getD k default).2.2.1 : Nat) : Int), iV (((Un.ms.getD k default).2.2.2 : Nat) : Int)]) (k := .i64) rfl rfl uT85 uT70 rfl sz70 (by omega) (by omega) rfl (mea_at (k := k) (by omega) rfl)) ?_
  refine RW.alc rfl fun b2 => ?_
  refine RW.effn (J' := St ⟨w, Φ, []⟩ Φ [.blk b2 70 [.string (bs ((Un.ms.getD k default).1)), iV (((Un.ms.getD k default).2.1 : Nat) : Int), iV (((Un.ms.getD k default).2.2.1 : Nat) : Int), iV (((Un.ms.getD k default).2.2.2 : Nat) : Int)], .blk b1 70 [.string (bs ([])), iV 0, iV 0, iV 0]]) (e_store (v := .agg #[.string (bs ((Un.ms.getD k default).1)), iV (((Un.ms.getD k default).2.1 : Nat) : Int), iV (((Un.ms.getD k default).2.2.1 : Nat) : Int), iV (((Un.ms.getD k default).2.2.2 : Nat) : Int)]) 0 rfl rfl rfl sz70 rfl rfl rfl rfl rfl) ?_
  refine g7 ?_
  refine RW.q (v := .bool (decide ((Un.ms.getD k default).1 = l))) rfl (q_eqlStr (l := (Un.ms.getD k default).1) (r := l) rfl rfl) ?_
  refine g2 ?_
  refine AW.cond rfl (fun hc2 => ?_) fun hc2 => ?_
  ·
   simp [-List.getD_eq_getElem?_getD] at hc2
   refine g3 ?_
   refine RW.effn (J' := St ⟨w, Φ, []⟩ Φ [.blk b2 70 [.string (bs ((Un.ms.getD k default).1)), iV (((Un.ms.getD k default).2.1 : Nat) : Int), iV (((Un.ms.getD k default).2.2.1 : Nat) : Int), iV (((Un.ms.getD k default).2.2.2 : Nat) : Int)], .blk b1 70 [.string (bs ((Un.ms.getD k default).1)), iV (((Un.ms.getD k default).2.1 : Nat) : Int), iV (((Un.ms.getD k default).2.2.1 : Nat) : Int), iV (((Un.ms.getD k default).2.2.2 : Nat) : Int)]]) (e_store (v := .agg #[.string (bs ((Un.ms.getD k default).1)), iV (((Un.ms.getD k default).2.1 : Nat) : Int), iV (((Un.ms.getD k default).2.2.1 : Nat) : Int), iV (((Un.ms.getD k default).2.2.2 : Nat) : Int)]) 1 rfl rfl rfl sz70 rfl rfl rfl rfl rfl) ?_
   refine g9 ?_
   refine fin_cell2 (cs := [.string (bs ((Un.ms.getD k default).1)), iV (((Un.ms.getD k default).2.1 : Nat) : Int), iV (((Un.ms.getD k default).2.2.1 : Nat) : Int), iV (((Un.ms.getD k default).2.2.2 : Nat) : Int)]) (v := .bool true) rfl rfl rfl rfl uT70 rfl sz70 rfl (Cells.blk 1 rfl) (fun w' hw => ?_)
   refine ⟨?_, hw.below rfl⟩
   have hlk := Un.look_hit (by omega) hne hc2
   rw [show Un.fdM l = (Un.ms.getD k default) from by unfold Un.fdM; rw [hlk]; rfl, hlk]
   rfl
  ·
   simp [-List.getD_eq_getElem?_getD] at hc2
   refine g7 ?_
   exact Post.back (s' := _) (J' := _) (m' := _) (by omega) ⟨k + 1, rfl, rfl, rfl, (by omega), (Un.lt_succ' hne hc2)⟩ ⟨rfl, rfl, rfl, rfl, rfl, trivial⟩ (fun _ h => StP.drop h (by exact .cons _ (.cons_cons _ (.slnil))))
 ·
  simp [-List.getD_eq_getElem?_getD] at hc1
  refine g7 ?_
  refine RW.q (v := .agg #[.string (bs ([])), iV 0, iV 0, iV 0]) rfl (q_build (vals := []) zero70 uT70 places70 rfl rfl) ?_
  refine RW.effn (J' := St ⟨w, Φ, []⟩ Φ [.blk b1 70 [.string (bs ([])), iV 0, iV 0, iV 0]]) (e_store (v := .agg #[.string (bs ([])), iV 0, iV 0, iV 0]) 0 rfl rfl rfl sz70 rfl rfl rfl rfl rfl) ?_
  refine g4 ?_
  refine fin_cell2 (cs := [.string (bs ([])), iV 0, iV 0, iV 0]) (v := .bool false) rfl rfl rfl rfl uT70 rfl sz70 rfl (Cells.blk 0 rfl) (fun w' hw => ?_)
  refine ⟨?_, hw.below rfl⟩
  have hlk := Un.look_miss (n := l) (fun j hj => hne j (by omega))
  rw [show Un.fdM l = ([], 0, 0, 0) from by unfold Un.fdM; rw [hlk]; rfl, hlk]
  rfl
theorem base_c (w : World) (Φ : Hp) (hΦ : Hp.le Φ (hp w)) (hG : Knows Φ Glob) {d : Nat} (hd : d < 7) :
  Calls Tryd.prog 49 #[iV (d : Int)] w fun e w' => e = .returned (.string (bs (Un.bases.getD d []))) ∧ Bel w.heap.size w w' := by
 refine calls_of_AW (args := [iV (d : Int)]) Tryd.func49 rfl (Nat.le_of_ble_eq_true rfl) (St ⟨w, Φ, []⟩ Φ []) (StP.init w Φ hΦ []) ?_
 show AW Tryd.prog 26 [] _ _ _ [(0, iV (d : Int))] _
 refine g8 ?_
 refine RW.q (v := .agg mCells.toArray) rfl (q_loadAgg rfl uT85 rfl sz85 rfl (glob_cells hG)) ?_
 refine g4 ?_
 refine AW.loop (fun s J m => ∃ (k : Nat), s = [(0, iV (d : Int)), (2, .string (bs ([] : List UInt8))), (5, .agg mCells.toArray), (6, iV (k : Int))] ∧ J = St ⟨w, Φ, []⟩ Φ [] ∧ m = 19 - k ∧ (k ≤ 19) ∧ (∀ j, j < k → ¬ ((Un.ms.getD j default).2.1 = d ∧ (Un.ms.getD j default).2.2.1 = 1 ∧ (Un.ms.getD j default).2.2.2 = 1))) (s0 := _) (J1 := _) (m0 := _) ⟨0, rfl, rfl, rfl, (by omega), (by omega)⟩ ⟨rfl, rfl, rfl, rfl, trivial⟩ (fun _ h => h) ?_
 rintro _ _ _ _ ⟨k, rfl, rfl, rfl, hk, hne⟩
 refine g6 ?_
 refine AW.cond rfl (fun hc1 => ?_) fun hc1 => ?_
 ·
  simp [-List.getD_eq_getElem?_getD] at hc1
  refine g6 ?_
  refine RW.q (v := .agg #[.string (bs ((Un.ms.getD k default).1)), iV (((Un.ms.getD k default).2.1 : Nat) : Int), iV (((Un.ms.getD k default).2.2.1 : Nat) : Int), iV (((Un.ms.getD k default).2.2.2 : Nat) : Int)]) rfl (q_indexArr (es := [.string (bs ((Un.ms.getD k default).1)), iV (((Un.ms.getD k default).2.1 : Nat) : Int), iV (((Un.ms.getD k default).2.2.1 : Nat) : Int), iV (((Un.ms.getD k default).2.2.2 : Nat) : Int)]) (k := .i64) rfl rfl uT85 uT70 rfl sz70 (by omega) (by omega) rfl (mea_at (k := k) (by omega) rfl)) ?_
  refine RW.alc rfl fun b1 => ?_
  refine RW.effn (J' := St ⟨w, Φ, []⟩ Φ [.blk b1 70 [.string (bs ((Un.ms.getD k default).1)), iV (((Un.ms.getD k default).2.1 : Nat) : Int), iV (((Un.ms.getD k default).2.2.1 : Nat) : Int), iV (((Un.ms.getD k default).2.2.2 : Nat) : Int)]]) (e_store (v := .agg #[.string (bs ((Un.ms.getD k default).1)), iV (((Un.ms.getD k default).2.1 : Nat) : Int), iV (((Un.ms.getD k default).2.2.1 : Nat) : Int), iV (((Un.ms.getD k default).2.2.2 : Nat) : Int)]) 0 rfl rfl rfl sz70 rfl rfl rfl rfl rfl) ?_
  refine g12 ?_
  obtain ⟨qb1, hqb1⟩ : ∃ qz : Bool, ((decide ((((Un.ms.getD k default).2.1 : Nat) : Int) = (d : Int))) && (decide ((((Un.ms.getD k default).2.2.1 : Nat) : Int) = 1))) = qz := ⟨_, rfl⟩
  refine RW.q (v := .bool qb1) rfl (q_as (v := .bool ((decide ((((Un.ms.getD k default).2.1 : Nat) : Int) = (d : Int))) && (decide ((((Un.ms.getD k default).2.2.1 : Nat) : Int) = 1)))) (q_pick rfl (fun hp => (gv_pos hp).trans (pkAndT hp)) (fun hp => pkAndF hp)) (congrArg Value.bool hqb1)) ?_
  refine g4 ?_
  obtain ⟨qb2, hqb2⟩ : ∃ qz : Bool, (qb1 && (decide ((((Un.ms.getD k default).2.2.2 : Nat) : Int) = 1))) = qz := ⟨_, rfl⟩
  refine RW.q (v := .bool qb2) rfl (q_as (v := .bool (qb1 && (decide ((((Un.ms.getD k default).2.2.2 : Nat) : Int) = 1)))) (q_pick rfl (fun hp => (gv_pos hp).trans (pkAndT hp)) (fun hp => pkAndF hp)) (congrArg Value.bool hqb2)) ?_
  subst hqb2 hqb1
  refine g2 ?_
  refine AW.cond rfl (fun hc2 => ?_) fun hc2 => ?_
  ·
   simp [-List.getD_eq_getElem?_getD] at hc2
   refine g13 ?_
   exact fin_val (v' := .string (bs ((Un.ms.getD k default).1))) rfl rfl rfl (by rw [Un.base_hit k (by omega) (by omega) (by omega), show (Un.ms.getD k default).2.1 = d by omega])
  ·
   simp [-List.getD_eq_getElem?_getD] at hc2
   refine g7 ?_
   exact Post.back (s' := _) (J' := _) (m' := _) (by omega) ⟨k + 1, rfl, rfl, rfl, (by omega), (Un.lt_succ' hne (fun h => hc2 (by omega) (by omega) (by omega)))⟩ ⟨rfl, rfl, rfl, rfl, trivial⟩ (fun _ h => StP.drop h (by exact .cons _ (.slnil)))
 ·
  simp [-List.getD_eq_getElem?_getD] at hc1
  refine g11 ?_
  obtain ⟨j, hj1, hj2⟩ := Un.base_some d hd
  exact absurd hj2 (hne j (by omega))
theorem IndexByte_c (w : World) (Φ : Hp) (hΦ : Hp.le Φ (hp w)) {l : List UInt8} {c : UInt8} :
  Calls Tryd.prog 71 #[.string (bs l), .int .u8 (c.toNat : Int)] w fun e w' => e = .returned (iV (Lib.indexByte l c)) ∧ Bel w.heap.size w w' := by
 refine calls_of_AW (args := [.string (bs l), .int .u8 (c.toNat : Int)]) Tryd.func71 rfl (Nat.le_of_ble_eq_true rfl) (St ⟨w, Φ, []⟩ Φ []) (StP.init w Φ hΦ []) ?_
 show AW Tryd.prog 8 [] _ _ _ [(0, .string (bs l)), (1, .int .u8 (c.toNat : Int))] _
 refine g9 ?_
 refine RW.q (v := iV (Lib.indexByte l c)) rfl (q_indexByte (l := l) (c := c) Tryd.func79 rfl rfl (by kernel_rfl) (by kernel_rfl) rfl rfl) ?_
 refine g4 ?_
 exact fin_val (v' := iV (Lib.indexByte l c)) rfl rfl rfl (rfl)
theorem Index_c (w : World) (Φ : Hp) (hΦ : Hp.le Φ (hp w)) {l : List UInt8} :
  Calls Tryd.prog 64 #[.string (bs l), .string (bs ([46] : List UInt8))] w fun e w' => e = .returned (iV (if Un.pt l then ((Un.bef l).length : Int) else -1)) ∧ Bel w.heap.size w w' := by
 refine calls_of_AW (args := [.string (bs l), .string (bs ([46] : List UInt8))]) Tryd.func64 rfl (Nat.le_of_ble_eq_true rfl) (St ⟨w, Φ, []⟩ Φ []) (StP.init w Φ hΦ []) ?_
 show AW Tryd.prog 143 [] _ _ _ [(0, .string (bs l)), (1, .string (bs ([46] : List UInt8)))] _
 refine g8 ?_
 refine RW.q (v := iV 1) rfl (q_lenS (l := ([46] : List UInt8)) rfl uT9) ?_
 refine g8 ?_
 refine RW.q (v := .bool false) rfl (q_eql (a := 1) (b := 0) rfl rfl) ?_
 refine g3 ?_
 refine RW.gl (v := .bool (decide (([46] : List UInt8) = l))) rfl rfl rfl (q_eqlStr (l := ([46] : List UInt8)) (r := l) rfl rfl) ?_
 obtain ⟨qb1, hqb1⟩ : ∃ qz : Bool, (false || (decide (([46] : List UInt8) = l))) = qz := ⟨_, rfl⟩
 refine RW.q (v := .bool qb1) rfl (q_as (v := .bool (false || (decide (([46] : List UInt8) = l)))) (q_pick rfl (fun hp => pkOrT hp) (fun hp => pkOrF hp)) (congrArg Value.bool hqb1)) ?_
 refine g1 ?_
 subst hqb1
 refine g2 ?_
 refine AW.cond rfl (fun hc1 => ?_) fun hc1 => ?_
 ·
  simp [-List.getD_eq_getElem?_getD] at hc1
  refine g8 ?_
  exact fin_val (v' := iV 0) rfl rfl rfl (by have h9 : l = [46] := (by simpa using hc1.symm); subst h9; rfl)
 ·
  simp [-List.getD_eq_getElem?_getD] at hc1
  refine g3 ?_
  refine RW.q (v := .bool true) rfl (q_eql (a := 1) (b := 1) rfl rfl) ?_
  refine g3 ?_
  refine AW.condT rfl ?_
  refine g4 ?_
  refine RW.q (v := .int .u8 (((46 : UInt8).toNat : Nat) : Int)) rfl (q_indexS (l := ([46] : List UInt8)) (i := 0) rfl rfl uT9 (by omega) (by simp)) ?_
  refine RW.q (v := iV (Lib.indexByte l (46 : UInt8))) rfl (q_call (args := #[.string (bs l), .int .u8 (((46 : UInt8).toNat : Nat) : Int)]) own71 rfl rfl (fun w1 hw1 => IndexByte_c w1 (Go.K.hp w1) (Hp.le_refl _))) ?_
  refine g6 ?_
  exact fin_val (v' := iV (Lib.indexByte l (46 : UInt8))) rfl rfl rfl (by rw [Un.indexByte_dot])
theorem Cut_c (w : World) (Φ : Hp) (hΦ : Hp.le Φ (hp w)) {l : List UInt8} (hl : l.length ≤ 1099511627776) :
  Calls Tryd.prog 42 #[.string (bs l), .string (bs ([46] : List UInt8))] w fun e w' => e = .returned (.tuple #[.string (bs (Un.bef l)), .string (bs (Un.aft l)), .bool (Un.pt l)]) ∧ Bel w.heap.size w w' := by
 refine calls_of_AW (args := [.string (bs l), .string (bs ([46] : List UInt8))]) Tryd.func42 rfl (Nat.le_of_ble_eq_true rfl) (St ⟨w, Φ, []⟩ Φ []) (StP.init w Φ hΦ []) ?_
 show AW Tryd.prog 23 [] _ _ _ [(0, .string (bs l)), (1, .string (bs ([46] : List UInt8)))] _
 have hbl := Un.bef_len l
 refine g12 ?_
 refine RW.q (v := iV (if Un.pt l then ((Un.bef l).length : Int) else -1)) rfl (q_call (args := #[.string (bs l), .string (bs ([46] : List UInt8))]) own64 rfl rfl (fun w1 hw1 => Index_c w1 (Go.K.hp w1) (Hp.le_refl _))) ?_
 refine g9 ?_
 refine AW.cond rfl (fun hc1 => ?_) fun hc1 => ?_
 ·
  simp [-List.getD_eq_getElem?_getD] at hc1
  have hp : Un.pt l = true := by
   cases hp : Un.pt l with
   | true => rfl
   | false => rw [hp] at hc1; simp at hc1
  rw [hp, if_pos rfl]
  refine g1 ?_
  have hbp := Un.bef_len' hp
  refine AW.draw (J0 := St ⟨w, Φ, []⟩ Φ []) [.q, .q, .q, .q, .q, .q, .q, .q, .q, .q, .q, .q] [0, 1, 2, 3, 4, 5, 6, 7, 8, 9, 10, 11] hmix (by kernel_rfl) ?_
  refine g2 ?_
  refine DW.q (v := .string (bs (l.take ((Un.bef l).length)))) (fun _ h => h) rfl (q_sliceSH (l := l) (j := (((Un.bef l).length : Nat) : Int)) rfl rfl uT9 (by omega) (by omega)) ?_
  refine g3 ?_
  refine DW.q (v := iV 1) (fun _ h => h) rfl (q_lenS (l := ([46] : List UInt8)) rfl uT9) ?_
  refine g1 ?_
  refine DW.q (v := .string (bs (l.drop ((Un.bef l).length + 1)))) (fun _ h => h) rfl (q_sliceSL (l := l) (i := (((Un.bef l).length + 1 : Nat) : Int)) rfl rfl uT9 (by omega) (by omega)) ?_
  refine g7 ?_
  refine fin_out3 (v1 := .string (bs (l.take ((Un.bef l).length)))) (v2 := .string (bs (l.drop ((Un.bef l).length + 1)))) (v3 := .bool true) rfl rfl rfl rfl rfl (fun w' hw => ?_)
  refine ⟨?_, hw.below rfl⟩
  obtain ⟨h1, h2⟩ := Un.cut_take hp
  rw [h1, h2]
 ·
  simp [-List.getD_eq_getElem?_getD] at hc1
  have hp : Un.pt l = false := by
   cases hp : Un.pt l with
   | false => rfl
   | true => rw [hp] at hc1; simp at hc1; omega
  refine g11 ?_
  refine fin_out3 (v1 := .string (bs l)) (v2 := .string (bs ([] : List UInt8))) (v3 := .bool false) rfl rfl rfl rfl rfl (fun w' hw => ?_)
  refine ⟨?_, hw.below rfl⟩
  rw [hp, (Un.bef_np hp).1, (Un.bef_np hp).2]
theorem sCut_c (w : World) (Φ : Hp) (hΦ : Hp.le Φ (hp w)) {l : List UInt8} (hl : l.length ≤ 1099511627776) :
  Calls Tryd.prog 25 #[.string (bs l), .string (bs ([46] : List UInt8))] w fun e w' => e = .returned (.tuple #[.string (bs (Un.bef l)), .string (bs (Un.aft l)), .bool (Un.pt l)]) ∧ Bel w.heap.size w w' := by
 refine calls_of_AW (args := [.string (bs l), .string (bs ([46] : List UInt8))]) Tryd.func25 rfl (Nat.le_of_ble_eq_true rfl) (St ⟨w, Φ, []⟩ Φ []) (StP.init w Φ hΦ []) ?_
 show AW Tryd.prog 13 [] _ _ _ [(0, .string (bs l)), (1, .string (bs ([46] : List UInt8)))] _
 have hbl := Un.bef_len l
 refine g11 ?_
 refine RW.q (v := .tuple #[.string (bs (Un.bef l)), .string (bs (Un.aft l)), .bool (Un.pt l)]) rfl (q_call (args := #[.string (bs l), .string (bs ([46] : List UInt8))]) own42 rfl rfl (fun w1 hw1 => Cut_c w1 (Go.K.hp w1) (Hp.le_refl _) (by omega))) ?_
 refine g9 ?_
 refine fin_out3 (v1 := .string (bs (Un.bef l))) (v2 := .string (bs (Un.aft l))) (v3 := .bool (Un.pt l)) rfl rfl rfl rfl rfl (fun w' hw => ?_)
 refine ⟨?_, hw.below rfl⟩
 rfl
end Go.Proofs.YtjcahklnkakklaaDoor
