/- Walks (part WalkB), printed by walk2.py. Conditions: those of each theorem. -/
import Derived.Test.YtblfeidlnhdekaaXWalkA
import Derived.Test.YtblfeidlnhdekaaXBits
import Derived.Test.YtblfeidlnhdekaaXPlainB
namespace Go.Proofs.Ytblfeidlnhdekaa
open Go Go.K Go.RowKit
set_option maxRecDepth 8000
set_option maxHeartbeats 1000000
attribute [local irreducible] AW RW DW Post Qt
theorem Scale_c (w : World) (Φ : Hp) (hΦ : Hp.le Φ (hp w)) {x k d : Int} (hx : 0 ≤ x ∧ x ≤ 1125899906842624) (hk : 0 ≤ k ∧ k ≤ 1125899906842624) (hd : 1 ≤ d ∧ d ≤ 1125899906842624) (hq : x * k / d ≤ 1125899906842624) :
  Calls Try.prog 69 #[iV x, iV k, iV d] w fun e w' => e = .returned (.tuple #[iV (x * k / d), iV (x * k % d), .bool true]) ∧ Bel w.heap.size w w' := by
 obtain ⟨X, rfl⟩ := Int.eq_ofNat_of_zero_le hx.1
 obtain ⟨K, rfl⟩ := Int.eq_ofNat_of_zero_le hk.1
 obtain ⟨D, rfl⟩ := Int.eq_ofNat_of_zero_le (show 0 ≤ d by omega)
 refine calls_of_AW (args := [iV (X : Int), iV (K : Int), iV (D : Int)]) Try.func69 rfl (Nat.le_of_ble_eq_true rfl) (St ⟨w, Φ, []⟩ Φ []) (StP.init w Φ hΦ []) ?_
 show AW Try.prog 61 [] _ _ _ [(0, iV (X : Int)), (1, iV (K : Int)), (2, iV (D : Int))] _
 obtain ⟨Z, hZ⟩ : ∃ Z, X * K = Z := ⟨_, rfl⟩
 have hxe : (X : Int) * (K : Int) / (D : Int) = ((Z / D : Nat) : Int) := by rw [← hZ, Int.natCast_ediv, Int.natCast_mul]
 have hxm : (X : Int) * (K : Int) % (D : Int) = ((Z % D : Nat) : Int) := by rw [← hZ, Int.natCast_emod, Int.natCast_mul]
 have hq1 : Z / D ≤ 1125899906842624 := by rw [hxe] at hq; omega
 have hzd : Z < 18446744073709551616 * D := by have h9 := Nat.lt_mul_div_succ Z (show 0 < D by omega); have h8 : D * (Z / D + 1) ≤ D * 18446744073709551616 := Nat.mul_le_mul_left D (by omega); rw [Nat.mul_comm 18446744073709551616 D]; omega
 have hhi : Z / 18446744073709551616 < D := by rw [Nat.div_lt_iff_lt_mul (by omega), Nat.mul_comm]; exact hzd
 have hdm : Z / 18446744073709551616 * 18446744073709551616 + Z % 18446744073709551616 = Z := by rw [Nat.mul_comm]; exact Nat.div_add_mod _ _
 have hmd := Nat.mod_lt Z (show 0 < D by omega)
 have hml := Nat.mod_lt Z (show 0 < 18446744073709551616 by omega)
 refine g15 ?_
 obtain ⟨qb1, hqb1⟩ : ∃ z : Bool, ((decide ((X : Int) < 0)) || (decide ((1125899906842624 : Int) < (X : Int)))) = z := ⟨_, rfl⟩
 refine RW.q (v := .bool qb1) rfl (q_as (v := .bool ((decide ((X : Int) < 0)) || (decide ((1125899906842624 : Int) < (X : Int))))) (q_pick rfl (fun hp => pkOrT hp) (fun hp => (gv_pos hp).trans (pkOrF hp))) (congrArg Value.bool hqb1)) ?_
 refine g3 ?_
 refine RW.q (v := .bool (qb1 || (decide ((K : Int) < 0)))) rfl (q_pick rfl (fun hp => pkOrT hp) (fun hp => (gv_pos hp).trans (pkOrF hp))) ?_
 refine g3 ?_
 obtain ⟨qb2, hqb2⟩ : ∃ z : Bool, ((qb1 || (decide ((K : Int) < 0))) || (decide ((1125899906842624 : Int) < (K : Int)))) = z := ⟨_, rfl⟩
 refine RW.q (v := .bool qb2) rfl (q_as (v := .bool ((qb1 || (decide ((K : Int) < 0))) || (decide ((1125899906842624 : Int) < (K : Int))))) (q_pick rfl (fun hp => pkOrT hp) (fun hp => (gv_pos hp).trans (pkOrF hp))) (congrArg Value.bool hqb2)) ?_
 refine g3 ?_
 refine RW.q (v := .bool (qb2 || (decide ((D : Int) < 1)))) rfl (q_pick rfl (fun hp => pkOrT hp) (fun hp => (gv_pos hp).trans (pkOrF hp))) ?_
 refine g3 ?_
 obtain ⟨qb3, hqb3⟩ : ∃ z : Bool, ((qb2 || (decide ((D : Int) < 1))) || (decide ((1125899906842624 : Int) < (D : Int)))) = z := ⟨_, rfl⟩
 refine RW.q (v := .bool qb3) rfl (q_as (v := .bool ((qb2 || (decide ((D : Int) < 1))) || (decide ((1125899906842624 : Int) < (D : Int))))) (q_pick rfl (fun hp => pkOrT hp) (fun hp => (gv_pos hp).trans (pkOrF hp))) (congrArg Value.bool hqb3)) ?_
 subst hqb3 hqb2 hqb1
 refine g2 ?_
 refine AW.cond rfl (fun hc1 => ?_) fun hc1 => ?_
 ·
  simp [-List.getD_eq_getElem?_getD] at hc1
  omega
 ·
  simp [-List.getD_eq_getElem?_getD] at hc1
  refine g5 ?_
  refine RW.q (v := .int .u64 (X : Int)) rfl (q_toU (r := X) rfl uT3 uT157 rfl (by omega)) ?_
  refine g1 ?_
  refine RW.q (v := .int .u64 (K : Int)) rfl (q_toU (r := K) rfl uT3 uT157 rfl (by omega)) (RW.q (v := .tuple #[.int .u64 ((X * K / 18446744073709551616 : Nat) : Int), .int .u64 ((X * K % 18446744073709551616 : Nat) : Int)]) rfl (q_call (args := #[.int .u64 (X : Int), .int .u64 (K : Int)]) own96 rfl rfl (fun w1 hw1 => Mul64_c w1 (Go.K.hp w1) (Hp.le_refl _) (by omega) (by omega))) (RW.q (v := .tuple #[.int .u64 ((X * K / 18446744073709551616 : Nat) : Int), .int .u64 ((X * K % 18446744073709551616 : Nat) : Int)]) rfl (q_move rfl) ?_))
  refine g8 ?_
  rw [hZ]
  refine g3 ?_
  refine RW.q (v := .int .u64 (D : Int)) rfl (q_toU (r := D) rfl uT3 uT157 rfl (by omega)) ?_
  refine g3 ?_
  refine AW.cond rfl (fun hc2 => ?_) fun hc2 => ?_
  ·
   simp [-List.getD_eq_getElem?_getD] at hc2
   omega
  ·
   simp [-List.getD_eq_getElem?_getD] at hc2
   refine g7 ?_
   refine RW.q (v := .int .u64 (D : Int)) rfl (q_toU (r := D) rfl uT3 uT157 rfl (by omega)) (RW.q (v := .tuple #[.int .u64 ((((Z / 18446744073709551616) * 18446744073709551616 + (Z % 18446744073709551616)) / D : Nat) : Int), .int .u64 ((((Z / 18446744073709551616) * 18446744073709551616 + (Z % 18446744073709551616)) % D : Nat) : Int)]) rfl (q_call (args := #[.int .u64 ((Z / 18446744073709551616 : Nat) : Int), .int .u64 ((Z % 18446744073709551616 : Nat) : Int), .int .u64 (D : Int)]) own97 rfl rfl (fun w1 hw1 => Div64_c w1 (Go.K.hp w1) (Hp.le_refl _) (by omega) (by omega) (by omega))) (RW.q (v := .tuple #[.int .u64 ((((Z / 18446744073709551616) * 18446744073709551616 + (Z % 18446744073709551616)) / D : Nat) : Int), .int .u64 ((((Z / 18446744073709551616) * 18446744073709551616 + (Z % 18446744073709551616)) % D : Nat) : Int)]) rfl (q_move rfl) ?_))
   refine g8 ?_
   rw [hdm]
   refine g5 ?_
   refine AW.cond rfl (fun hc3 => ?_) fun hc3 => ?_
   ·
    simp [-List.getD_eq_getElem?_getD] at hc3
    omega
   ·
    simp [-List.getD_eq_getElem?_getD] at hc3
    refine g5 ?_
    refine RW.q (v := iV ((Z / D : Nat) : Int)) rfl (q_ofU (a := (Z / D)) rfl uT157 uT3 (by omega)) ?_
    refine g1 ?_
    refine RW.q (v := iV ((Z % D : Nat) : Int)) rfl (q_ofU (a := (Z % D)) rfl uT157 uT3 (by omega)) ?_
    refine g6 ?_
    refine fin_out3 (v1 := iV ((Z / D : Nat) : Int)) (v2 := iV ((Z % D : Nat) : Int)) (v3 := .bool true) rfl rfl rfl rfl rfl (fun w' hw => ?_)
    refine ⟨?_, hw.below rfl⟩
    rw [hxe, hxm]
theorem Search_c (w : World) (Φ : Hp) (hΦ : Hp.le Φ (hp w)) {n r : Nat} {kf : FuncId} {capt : Array Value} (hk : Own Try.prog kf) (hn : n ≤ 140737488355328) (hr : r ≤ n) (hf : ∀ w1, Bel w.heap.size w w1 → ∀ i, i < n → Calls Try.prog kf (#[iV (i : Int)] ++ capt) w1 fun e w2 => e = .returned (.bool (decide (r ≤ i))) ∧ Bel w1.heap.size w1 w2) :
  Calls Try.prog 67 #[iV (n : Int), (.func (.func kf) #[] capt)] w fun e w' => e = .returned (iV (r : Int)) ∧ Bel w.heap.size w w' := by
 refine calls_of_AW (args := [iV (n : Int), (.func (.func kf) #[] capt)]) Try.func67 rfl (Nat.le_of_ble_eq_true rfl) (St ⟨w, Φ, []⟩ Φ []) (StP.init w Φ hΦ []) ?_
 show AW Try.prog 26 [] _ _ _ [(0, iV (n : Int)), (1, (.func (.func kf) #[] capt))] _
 refine g14 ?_
 refine AW.loop (fun s J m => ∃ (i : Nat), ∃ (j : Nat), s = [(0, iV (n : Int)), (1, (.func (.func kf) #[] capt)), (5, iV (i : Int)), (6, iV (j : Int))] ∧ J = St ⟨w, Φ, []⟩ Φ [] ∧ m = j - i ∧ (i ≤ r) ∧ (r ≤ j) ∧ (j ≤ n)) (s0 := _) (J1 := _) (m0 := _) ⟨0, n, rfl, rfl, rfl, (by omega), (by omega), (by omega)⟩ ⟨rfl, rfl, rfl, rfl, trivial⟩ (fun _ h => h) ?_
 rintro _ _ _ _ ⟨i, j, rfl, rfl, rfl, hi, hj, hjn⟩
 refine g8 ?_
 refine AW.cond rfl (fun hc1 => ?_) fun hc1 => ?_
 ·
  simp [-List.getD_eq_getElem?_getD] at hc1
  refine g8 ?_
  refine RW.q (v := .int .u64 ((i + j : Nat) : Int)) rfl (q_toU (r := (i + j)) rfl uT3 uT156 rfl (by omega)) (RW.q (v := .int .u64 (((i + j) / 2 ^ 1 : Nat) : Int)) rfl (q_shrU' (a := (i + j)) (c := 1) rfl rfl (by omega)) (RW.q (v := iV (((i + j) / 2 : Nat) : Int)) rfl (q_as (v := iV (((i + j) / 2 ^ 1 : Nat) : Int)) (q_ofU (a := ((i + j) / 2 ^ 1)) rfl uT156 uT3 (by omega)) (congrArg (Value.int .i64) (by simp))) ?_))
  refine g7 ?_
  refine RW.q (v := .bool (decide (r ≤ (i + j) / 2))) rfl (q_call (args := [iV (((i + j) / 2 : Nat) : Int)].toArray ++ capt) hk rfl (args_capt rfl) (fun w1 hw1 => hf w1 (hw1.below rfl) ((i + j) / 2) (by omega))) ?_
  refine g3 ?_
  refine AW.cond rfl (fun hc2 => ?_) fun hc2 => ?_
  ·
   simp [-List.getD_eq_getElem?_getD] at hc2
   refine g6 ?_
   exact Post.back (s' := _) (J' := _) (m' := _) (by omega) ⟨(i + j) / 2 + 1, j, rfl, rfl, rfl, (by omega), (by omega), (by omega)⟩ ⟨rfl, rfl, rfl, rfl, trivial⟩ (fun _ h => h)
  ·
   simp [-List.getD_eq_getElem?_getD] at hc2
   refine g5 ?_
   exact Post.back (s' := _) (J' := _) (m' := _) (by omega) ⟨i, (i + j) / 2, rfl, rfl, rfl, (by omega), (by omega), (by omega)⟩ ⟨rfl, rfl, rfl, rfl, trivial⟩ (fun _ h => h)
 ·
  simp [-List.getD_eq_getElem?_getD] at hc1
  refine g12 ?_
  exact fin_val (v' := iV (i : Int)) rfl rfl rfl (by rw [show i = r by omega])
theorem Least1_c (w : World) (Φ : Hp) (hΦ : Hp.le Φ (hp w)) {c : List Bt.Point} {v1 : Value} (h1 : RepSl Φ c v1) {y : Int} {b1 b2 : Nat} (p1 : PCell Φ ⟨b1, 0, none⟩ v1) (p2 : PCell Φ ⟨b2, 0, none⟩ (iV y)) {i : Nat} (hi : i < c.length) :
  Calls Try.prog 68 #[iV (i : Int), .pointer (some ⟨b1, 0, none⟩), .pointer (some ⟨b2, 0, none⟩)] w fun e w' => e = .returned (.bool (decide (y ≤ (c.getD i default).Y))) ∧ Bel w.heap.size w w' := by
 refine calls_of_AW (args := [iV (i : Int), pV b1 0, pV b2 0]) Try.func68 rfl (Nat.le_of_ble_eq_true rfl) (St ⟨w, Φ, []⟩ Φ []) (StP.init w Φ hΦ []) ?_
 show AW Try.prog 12 [] _ _ _ [(0, iV (i : Int)), (1, pV b1 0), (2, pV b2 0)] _
 have hm1 : c.length * 16 ≤ 140737488355328 := h1.max
 refine g6 ?_
 refine AW.draw (J0 := St ⟨w, Φ, []⟩ Φ []) [.q, .q, .q, .q, .q, .q, .q, .q] [0, 1, 2, 3, 4, 5, 6, 7] hmix (by kernel_rfl) (DW.q (v := v1) (fun _ h => h) rfl (q_load rfl uT60 rfl (Cell.phi p1)) ?_)
 refine g1 ?_
 refine DW.q (v := .pointer (some (Value.at v1 (i * 2)))) (fun _ h => h) rfl (q_indexAddr rfl rfl h1.sl uT60 sz82 (by omega) (by omega) rfl) ?_
 refine g1 ?_
 refine DW.q (v := iV ((c.getD i default).Y)) (fun _ h => h) rfl (q_load rfl uT3 rfl (Cell.repE (j := 1) h1 (by omega) rfl)) (DW.q (v := iV y) (fun _ h => h) rfl (q_load rfl uT3 rfl (Cell.phi p2)) ?_)
 refine g5 ?_
 exact fin_val (v' := .bool (decide (y ≤ (c.getD i default).Y))) rfl rfl rfl (rfl)
theorem Least_c (w : World) (Φ : Hp) (hΦ : Hp.le Φ (hp w)) {c : List Bt.Point} {v1 : Value} (h1 : RepSl Φ c v1) {y : Int} (hyI : I64 y) :
  Calls Try.prog 28 #[v1, iV y] w fun e w' => e = .returned (.tuple #[iV (Fu.intOf (Fu.leastC c y)), .bool (Fu.leastC c y).isSome]) ∧ Bel w.heap.size w w' := by
 refine calls_of_AW (args := [v1, iV y]) Try.func28 rfl (Nat.le_of_ble_eq_true rfl) (St ⟨w, Φ, []⟩ Φ []) (StP.init w Φ hΦ []) ?_
 show AW Try.prog 69 [] _ _ _ [(0, v1), (1, iV y)] _
 have hm1 : c.length * 16 ≤ 140737488355328 := h1.max
 refine g2 ?_
 refine RW.eff (fun b1 : Nat => pV b1 0) (fun b1 => St ⟨w, Φ, []⟩ Φ [.blk b1 60 [v1]]) rfl (e_boxSl rfl h1.sl) ?_
 intro b1
 refine RW.eff (fun b2 : Nat => pV b2 0) (fun b2 => St ⟨w, Φ, []⟩ Φ [.blk b2 3 [iV y], .blk b1 60 [v1]]) rfl (e_box (v := iV y) rfl) ?_
 intro b2
 refine g6 ?_
 refine AW.draw (J0 := St ⟨w, Φ, []⟩ Φ [.blk b2 3 [iV y], .blk b1 60 [v1]]) [.q, .q, .q, .q, .q, .q, .q, .q, .q, .q, .q, .q, .q, .q] [0, 1, 2, 3, 4, 5, 6, 7, 8, 9, 10, 11, 12, 13] hmix (by kernel_rfl) ?_
 refine g1 ?_
 refine DW.q (v := .bool (decide (Fu.RightC c))) (fun _ h => h) rfl (q_call (args := #[v1]) own27 rfl rfl (fun w1 hw1 => cRight_c w1 (Go.K.hp w1) (Hp.le_refl _) (h1.mono hw1.phi))) (DW.q (v := .bool (!(decide (Fu.RightC c)))) (fun _ h => h) rfl (q_not rfl) (DW.q (v := .bool (!(decide (Fu.RightC c)))) (fun _ h => h) rfl (q_move rfl) (DW.g (b := (!(decide (Fu.RightC c)))) (v := iV y) (fun _ h => h) rfl rfl rfl (fun h => q_load rfl uT3 rfl (Cell.blk 0 rfl rfl)) (DW.g (b := (!(decide (Fu.RightC c)))) (v := v1) (fun _ h => h) rfl rfl rfl (fun h => q_load rfl uT60 rfl (Cell.blk 1 rfl rfl)) (DW.g (b := (!(decide (Fu.RightC c)))) (v := v1) (fun _ h => h) rfl rfl rfl (fun h => q_load rfl uT60 rfl (Cell.blk 1 rfl rfl)) (DW.g (b := (!(decide (Fu.RightC c)))) (v := iV (c.length : Int)) (fun _ h => h) rfl rfl rfl (fun h => q_len_sl (gv_pos h) h1.sl uT60) (DW.g (b := (!(decide (Fu.RightC c)))) (v := iV ((c.length : Int) - 1)) (fun _ h => h) rfl rfl rfl (fun h => q_sub (gv_pos h) rfl (by (try simp [-List.getD_eq_getElem?_getD] at h); omega) (by (try simp [-List.getD_eq_getElem?_getD] at h); unfold I64; omega)) ?_)))))))
 refine DW.g (b := (!(decide (Fu.RightC c)))) (v := .pointer (some (Value.at v1 ((((c.length : Int) - 1).toNat) * 2)))) (fun _ h => h) rfl rfl rfl (fun h => q_indexAddr (gv_pos h) (gv_pos h) h1.sl uT60 sz82 (by simp [-List.getD_eq_getElem?_getD] at h; have := h.1.1; omega) (by simp [-List.getD_eq_getElem?_getD] at h; have := h.1.1; omega) rfl) ?_
 refine g1 ?_
 refine DW.g (b := (!(decide (Fu.RightC c)))) (v := iV ((c.getD (((c.length : Int) - 1).toNat) default).Y)) (fun _ h => h) rfl rfl rfl (fun h => q_load (gv_pos h) uT3 rfl (Cell.repE (j := 1) h1 (by simp [-List.getD_eq_getElem?_getD] at h; have := h.1.1; omega) rfl)) ?_
 refine g1 ?_
 obtain ⟨qb1, hqb1⟩ : ∃ z : Bool, ((!(decide (Fu.RightC c))) || (decide ((c.getD (((c.length : Int) - 1).toNat) default).Y < y))) = z := ⟨_, rfl⟩
 refine DW.q (v := .bool qb1) (fun _ h => h) rfl (q_as (v := .bool ((!(decide (Fu.RightC c))) || (decide ((c.getD (((c.length : Int) - 1).toNat) default).Y < y)))) (q_pick rfl (fun hp => pkOrT hp) (fun hp => (gv_pos hp).trans (pkOrF hp))) (congrArg Value.bool hqb1)) ?_
 subst hqb1
 refine g2 ?_
 refine AW.cond rfl (fun hc1 => ?_) fun hc1 => ?_
 ·
  simp [-List.getD_eq_getElem?_getD] at hc1
  refine g8 ?_
  refine fin_out2 (v := iV 0) (u := .bool false) rfl rfl rfl rfl (fun w' hw => ?_)
  refine ⟨?_, hw.below rfl⟩
  have hn : Fu.leastC c y = none := by
   unfold Fu.leastC
   rw [if_neg (fun h => ?_)]
   have h2 := h.2
   unfold Fu.py at h2
   first | (have := hc1 h.1; omega) | (rcases hc1 with h3 | h3; exact h3 h.1; omega)
  rw [hn]; rfl
 ·
  simp [-List.getD_eq_getElem?_getD] at hc1
  refine g3 ?_
  have hR : Fu.RightC c := hc1.1
  have hl1 := hR.1.1
  have hy : y ≤ Fu.py c (c.length - 1) := hc1.2
  have hpl := Fu.posY_le (c := c) y
  have hlt := Fu.posY_lt hR hy
  refine g3 ?_
  refine RW.q (v := .func (.func 68) #[] #[pV b1 0, pV b2 0]) rfl (q_makeFunc rfl rfl) (RW.q (v := iV ((Fu.posY c y : Nat) : Int)) rfl (q_call (args := #[iV (c.length : Int), .func (.func 68) #[] #[pV b1 0, pV b2 0]]) own67 rfl rfl (fun w1 hw1 => Search_c w1 (Go.K.hp w1) (Hp.le_refl _) (capt := #[pV b1 0, pV b2 0]) own68 (by omega) hpl (fun w2 hb2 i hi => (Least1_c w2 (Go.K.hp w2) (Hp.le_refl _) ((h1.mono hw1.phi).mono (below_le hb2)) ((blk_cell (hw1.sat _ (List.mem_of_getElem? (i := 1) rfl)) rfl).mono (below_le hb2)) ((blk_cell (hw1.sat _ (List.mem_of_getElem? (i := 0) rfl)) rfl).mono (below_le hb2)) hi).mono fun e w3 ⟨he, hb3⟩ => ⟨by rw [he]; exact congrArg (fun q => Ending.returned (.bool q)) (decide_eq_decide.2 (Fu.posY_iff hR hi).symm), hb3⟩))) ?_)
  refine g10 ?_
  refine AW.cond rfl (fun hc2 => ?_) fun hc2 => ?_
  ·
   simp [-List.getD_eq_getElem?_getD] at hc2
   refine g8 ?_
   refine fin_out2 (v := iV 0) (u := .bool true) rfl rfl rfl rfl (fun w' hw => ?_)
   refine ⟨?_, hw.below rfl⟩
   rw [Fu.leastC_eq hR hy, if_pos (by omega)]; rfl
  ·
   simp [-List.getD_eq_getElem?_getD] at hc2
   refine g3 ?_
   have hp0 : Fu.posY c y ≠ 0 := by omega
   obtain ⟨P, hP⟩ : ∃ P, Fu.posY c y = P + 1 := ⟨Fu.posY c y - 1, by omega⟩
   have hls := Fu.least_step hR hy hp0
   have hle := Fu.leastC_eq hR hy
   rw [if_neg hp0] at hle
   rw [hP, Nat.add_sub_cancel] at hls hle
   have hlt2 : P + 1 < c.length := by omega
   rw [hP]
   have hPi : (((P + 1 : Nat) : Int) - 1).toNat = P := by omega
   have hpt1 := (hR.pt hlt2).1
   have hpt0 := (hR.pt (show P < c.length by omega)).1
   have hpy1 := (hR.pt hlt2).2.1
   have hpy0 := (hR.pt (show P < c.length by omega)).2.1
   obtain ⟨k0, w0, d0, m0, m1, u1, u0⟩ := hls
   simp only [Fu.px, Fu.py] at hle k0 w0 d0 m0 m1 u1 u0 hpt1 hpt0 hpy1 hpy0
   refine g3 ?_
   refine RW.q (v := iV (P : Int)) rfl (q_as (v := iV (((P + 1 : Nat) : Int) - 1)) (q_sub rfl rfl (by omega) (by unfold I64; omega)) (congrArg (Value.int .i64) (by omega))) (RW.q (v := .pointer (some (Value.at v1 (P * 2)))) rfl (q_indexAddr rfl rfl h1.sl uT60 sz82 (by omega) (by omega) rfl) (RW.q (v := .agg #[iV ((c.getD P default).X), iV ((c.getD P default).Y)]) rfl (q_loadAgg rfl uT82 rfl sz82 rfl (Cells.repE h1 (by omega) rfl)) ?_))
   refine RW.alc rfl fun b3 => ?_
   refine RW.effn (J' := St ⟨w, Φ, []⟩ Φ [.blk b3 82 [iV ((c.getD P default).X), iV ((c.getD P default).Y)], .blk b2 3 [iV y], .blk b1 60 [v1]]) (e_store (v := .agg #[iV ((c.getD P default).X), iV ((c.getD P default).Y)]) 0 rfl rfl rfl sz82 rfl rfl rfl rfl rfl) ?_
   refine g3 ?_
   refine AW.draw (J0 := St ⟨w, Φ, []⟩ Φ [.blk b3 82 [iV ((c.getD P default).X), iV ((c.getD P default).Y)], .blk b2 3 [iV y], .blk b1 60 [v1]]) [.q, .q, .q, .q, .q, .q, .q, .q, .q, .q, .q, .q, .q, .q, .q, .q, .q, .q, .q, .q, .q, .q, .q, .q, .q, .q, .q, .q] [0, 1, 2, 3, 4, 5, 6, 7, 8, 9, 10, 11, 12, 13, 14, 15, 16, 17, 18, 19, 20, 21, 22, 23, 24, 25, 26, 27] hmix (by kernel_rfl) ?_
   refine g6 ?_
   refine DW.q (v := .pointer (some (Value.at v1 ((P + 1) * 2)))) (fun _ h => h) rfl (q_indexAddr rfl rfl h1.sl uT60 sz82 (by omega) (by omega) rfl) ?_
   refine g1 ?_
   refine DW.q (v := iV ((c.getD (P + 1) default).X)) (fun _ h => h) rfl (q_load rfl uT3 rfl (Cell.repE (j := 0) h1 (by omega) rfl)) ?_
   refine g5 ?_
   refine DW.q (v := .pointer (some (Value.at v1 ((P + 1) * 2)))) (fun _ h => h) rfl (q_indexAddr rfl rfl h1.sl uT60 sz82 (by omega) (by omega) rfl) ?_
   refine g1 ?_
   refine DW.q (v := iV ((c.getD (P + 1) default).Y)) (fun _ h => h) rfl (q_load rfl uT3 rfl (Cell.repE (j := 1) h1 (by omega) rfl)) ?_
   refine g3 ?_
   refine DW.q (v := .tuple #[iV ((y - ((c.getD P default).Y)) * (((c.getD (P + 1) default).X) - ((c.getD P default).X)) / (((c.getD (P + 1) default).Y) - ((c.getD P default).Y))), iV ((y - ((c.getD P default).Y)) * (((c.getD (P + 1) default).X) - ((c.getD P default).X)) % (((c.getD (P + 1) default).Y) - ((c.getD P default).Y))), .bool true]) (fun _ h => h) rfl (q_call (args := #[iV (y - ((c.getD P default).Y)), iV (((c.getD (P + 1) default).X) - ((c.getD P default).X)), iV (((c.getD (P + 1) default).Y) - ((c.getD P default).Y))]) own69 rfl rfl (fun w1 hw1 => Scale_c w1 (Go.K.hp w1) (Hp.le_refl _) (by omega) (by omega) (by omega) (by omega))) (DW.q (v := .tuple #[iV ((y - ((c.getD P default).Y)) * (((c.getD (P + 1) default).X) - ((c.getD P default).X)) / (((c.getD (P + 1) default).Y) - ((c.getD P default).Y))), iV ((y - ((c.getD P default).Y)) * (((c.getD (P + 1) default).X) - ((c.getD P default).X)) % (((c.getD (P + 1) default).Y) - ((c.getD P default).Y))), .bool true]) (fun _ h => h) rfl (q_move rfl) ?_)
   refine g15 ?_
   refine AW.cond rfl (fun hc3 => ?_) fun hc3 => ?_
   ·
    simp [-List.getD_eq_getElem?_getD] at hc3
    refine g17 ?_
    refine fin_out2 (v := iV (((c.getD P default).X) + (((y - ((c.getD P default).Y)) * (((c.getD (P + 1) default).X) - ((c.getD P default).X)) / (((c.getD (P + 1) default).Y) - ((c.getD P default).Y))) + 1))) (u := .bool true) rfl rfl rfl rfl (fun w' hw => ?_)
    refine ⟨?_, hw.below rfl⟩
    rw [hle]; unfold Fu.up; rw [if_pos (by omega)]; rfl
   ·
    simp [-List.getD_eq_getElem?_getD] at hc3
    refine g13 ?_
    refine fin_out2 (v := iV (((c.getD P default).X) + ((y - ((c.getD P default).Y)) * (((c.getD (P + 1) default).X) - ((c.getD P default).X)) / (((c.getD (P + 1) default).Y) - ((c.getD P default).Y))))) (u := .bool true) rfl rfl rfl rfl (fun w' hw => ?_)
    refine ⟨?_, hw.below rfl⟩
    rw [hle]; unfold Fu.up; rw [if_neg (by omega), Int.add_zero]; rfl
end Go.Proofs.Ytblfeidlnhdekaa
