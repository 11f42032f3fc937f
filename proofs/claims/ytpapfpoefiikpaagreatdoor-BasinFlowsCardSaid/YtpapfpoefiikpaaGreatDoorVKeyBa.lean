/- Lemmas. Conditions: those of each theorem. -/
import Derived.Test.YtpapfpoefiikpaaGreatDoorVBcP
import Derived.Test.YtpapfpoefiikpaaGreatDoorVBits
import Derived.DeepKeys4
set_option maxRecDepth 8000
set_option maxHeartbeats 16000000
namespace Go.Proofs.YtpapfpoefiikpaaGreatDoor
open Go Go.K Go.RowKit
attribute [local irreducible] AW RW DW Post Qt
theorem cRight_c (w : World) (Φ : Hp) (hΦ : Hp.le Φ (hp w)) {c : List Bt.Point} {v1 : Value} (h1 : RepSl Φ c v1) :
  Calls pg 79 #[v1] w fun e w' => e = .returned (.bool (decide (Fu.RightC c))) ∧ Bel w.heap.size w w' := by
 refine in1 63 Tryz.func79 rfl rfl hΦ ?_
 have hm1 : c.length * 16 ≤ 140737488355328 := h1.max
 refine gs15 ?_
 refine RW.pkO rfl rfl rfl rfl fun qb1 hqb1 => ?_
 subst hqb1
 refine gs2 ?_
 refine AW.cond rfl (fun hc1 => ?_) fun hc1 => ?_
 ·
  simp [-List.getD_eq_getElem?_getD] at hc1
  refine gs7 ?_
  exact fin_val (v' := .bool false) rfl rfl rfl (by rw [decide_eq_false (fun hr => by have := hr.1; omega)])
 ·
  simp [-List.getD_eq_getElem?_getD] at hc1
  refine gs11 ?_
  refine AW.lp (fun s J m => ∃ (k : Nat), s = [(0, v1), (13, v1), (14, iV (c.length : Int)), (15, iV (k : Int))] ∧ J = St ⟨w, Φ, []⟩ Φ [] ∧ m = c.length - k ∧ (k ≤ c.length) ∧ (∀ j, j < k → Fu.PtOk c j)) ⟨0, rfl, rfl, rfl, (by omega), (by omega)⟩ ?_
  rintro _ _ _ _ ⟨k, rfl, rfl, rfl, hk, hall⟩
  refine gs6 ?_
  refine AW.cond rfl (fun hc2 => ?_) fun hc2 => ?_
  ·
   simp [-List.getD_eq_getElem?_getD] at hc2
   refine gs8 ?_
   refine RW.q (v := .agg #[iV ((c.getD k default).X), iV ((c.getD k default).Y)]) rfl (q_loadAgg rfl uT75 rfl sz75 rfl (Cells.repE h1 (by omega) rfl)) ?_
   refine RW.alc rfl fun b1 => ?_
   refine gs14 ?_
   refine RW.pkO rfl rfl rfl rfl fun qb2 hqb2 => ?_
   refine gs4 ?_
   refine RW.pkO rfl rfl rfl rfl fun qb3 hqb3 => ?_
   refine gs4 ?_
   refine RW.pkO rfl rfl rfl rfl fun qb4 hqb4 => ?_
   subst hqb4 hqb3 hqb2
   refine gs2 ?_
   refine AW.cond rfl (fun hc3 => ?_) fun hc3 => ?_
   ·
    simp [-List.getD_eq_getElem?_getD] at hc3
    refine gs12 ?_
    exact fin_val (v' := .bool false) rfl rfl rfl (by rw [decide_eq_false (fun hr => by have hp := hr.2 k (by omega); unfold Fu.PtOk Fu.px Fu.py at hp; have h3 := hp.2.2; omega)])
   ·
    simp [-List.getD_eq_getElem?_getD] at hc3
    refine gs3 ?_
    have hk0 : 0 < k → ((k : Int) - 1).toNat = k - 1 := by omega
    refine AW.draw (J0 := St ⟨w, Φ, []⟩ Φ [.blk b1 75 [iV ((c.getD k default).X), iV ((c.getD k default).Y)]]) [.q, .q, .q, .q, .q, .q, .q, .q, .q, .q, .q, .q, .q, .q, .q, .q, .q, .q, .q, .q, .q, .q, .q, .q] [0, 1, 2, 3, 4, 5, 6, 7, 8, 9, 10, 11, 12, 13, 14, 15, 16, 17, 18, 19, 20, 21, 22, 23] hmix (by kernel_rfl) ?_
    refine gs7 ?_
    refine DW.g (b := (decide ((0 : Int) < (k : Int)))) (v := iV ((k : Int) - 1)) (fun _ h => h) rfl rfl rfl (fun h => q_sub (gv_pos h) rfl (by (try simp [-List.getD_eq_getElem?_getD] at h); omega) (by (try simp [-List.getD_eq_getElem?_getD] at h); unfold I64; omega)) ?_
    refine DW.g (b := (decide ((0 : Int) < (k : Int)))) (v := .pointer (some (Value.at v1 ((((k : Int) - 1).toNat) * 2)))) (fun _ h => h) rfl rfl rfl (fun h => q_indexAddr (gv_pos h) (gv_pos h) h1.sl uT55 sz75 (by (try simp [-List.getD_eq_getElem?_getD] at h); omega) (by (try simp [-List.getD_eq_getElem?_getD] at h); omega) rfl) ?_
    refine gs1 ?_
    refine DW.g (b := (decide ((0 : Int) < (k : Int)))) (v := iV ((c.getD (((k : Int) - 1).toNat) default).X)) (fun _ h => h) rfl rfl rfl (fun h => q_load (gv_pos h) uT3 rfl (Cell.repE (j := 0) h1 (by (try simp [-List.getD_eq_getElem?_getD] at h); omega) rfl)) ?_
    refine gs2 ?_
    refine DW.g2 (b1 := (decide ((0 : Int) < (k : Int)))) (b2 := (decide ((c.getD k default).X ≤ (c.getD (((k : Int) - 1).toNat) default).X))) (v := pV b1 1) (fun _ h => h) rfl rfl rfl (fun hg1 hg2 => q_fieldAddr rfl uT75 rfl sz3 rfl) (DW.g2 (b1 := (decide ((0 : Int) < (k : Int)))) (b2 := (decide ((c.getD k default).X ≤ (c.getD (((k : Int) - 1).toNat) default).X))) (v := iV ((c.getD k default).Y)) (fun _ h => h) rfl rfl rfl (fun hg1 hg2 => q_load ((gv_pos hg1).trans (gv_pos hg2)) uT3 rfl (Cell.blk 0 rfl rfl)) (DW.g2 (b1 := (decide ((0 : Int) < (k : Int)))) (b2 := (decide ((c.getD k default).X ≤ (c.getD (((k : Int) - 1).toNat) default).X))) (v := v1) (fun _ h => h) rfl rfl rfl (fun hg1 hg2 => q_move rfl) (DW.g2 (b1 := (decide ((0 : Int) < (k : Int)))) (b2 := (decide ((c.getD k default).X ≤ (c.getD (((k : Int) - 1).toNat) default).X))) (v := iV (k : Int)) (fun _ h => h) rfl rfl rfl (fun hg1 hg2 => q_move rfl) (DW.g2 (b1 := (decide ((0 : Int) < (k : Int)))) (b2 := (decide ((c.getD k default).X ≤ (c.getD (((k : Int) - 1).toNat) default).X))) (v := iV ((k : Int) - 1)) (fun _ h => h) rfl rfl rfl (fun hg1 hg2 => q_sub ((gv_pos hg1).trans (gv_pos hg2)) rfl (by (try simp [-List.getD_eq_getElem?_getD] at hg1); (try simp [-List.getD_eq_getElem?_getD] at hg2); omega) (by (try simp [-List.getD_eq_getElem?_getD] at hg1); (try simp [-List.getD_eq_getElem?_getD] at hg2); unfold I64; omega)) ?_))))
    refine DW.g2 (b1 := (decide ((0 : Int) < (k : Int)))) (b2 := (decide ((c.getD k default).X ≤ (c.getD (((k : Int) - 1).toNat) default).X))) (v := .pointer (some (Value.at v1 ((((k : Int) - 1).toNat) * 2)))) (fun _ h => h) rfl rfl rfl (fun hg1 hg2 => q_indexAddr ((gv_pos hg1).trans (gv_pos hg2)) ((gv_pos hg1).trans (gv_pos hg2)) h1.sl uT55 sz75 (by (try simp [-List.getD_eq_getElem?_getD] at hg1); (try simp [-List.getD_eq_getElem?_getD] at hg2); omega) (by (try simp [-List.getD_eq_getElem?_getD] at hg1); (try simp [-List.getD_eq_getElem?_getD] at hg2); omega) rfl) ?_
    refine DW.g2 (b1 := (decide ((0 : Int) < (k : Int)))) (b2 := (decide ((c.getD k default).X ≤ (c.getD (((k : Int) - 1).toNat) default).X))) (v := .pointer (some (Value.at v1 ((((k : Int) - 1).toNat) * 2 + 1)))) (fun _ h => h) rfl rfl rfl (fun hg1 hg2 => q_fieldAddr ((gv_pos hg1).trans (gv_pos hg2)) uT75 rfl sz3 at_add) (DW.g2 (b1 := (decide ((0 : Int) < (k : Int)))) (b2 := (decide ((c.getD k default).X ≤ (c.getD (((k : Int) - 1).toNat) default).X))) (v := iV ((c.getD (((k : Int) - 1).toNat) default).Y)) (fun _ h => h) rfl rfl rfl (fun hg1 hg2 => q_load ((gv_pos hg1).trans (gv_pos hg2)) uT3 rfl (Cell.repE (j := 1) h1 (by (try simp [-List.getD_eq_getElem?_getD] at hg1); (try simp [-List.getD_eq_getElem?_getD] at hg2); omega) rfl)) ?_)
    refine DW.g2 (b1 := (decide ((0 : Int) < (k : Int)))) (b2 := (decide ((c.getD k default).X ≤ (c.getD (((k : Int) - 1).toNat) default).X))) (v := .bool (decide ((c.getD k default).Y < (c.getD (((k : Int) - 1).toNat) default).Y))) (fun _ h => h) rfl rfl rfl (fun hg1 hg2 => q_lss ((gv_pos hg1).trans (gv_pos hg2)) ((gv_pos hg1).trans (gv_pos hg2))) ?_
    obtain ⟨qb5, hqb5⟩ : ∃ z : Bool, ((decide ((c.getD k default).X ≤ (c.getD (((k : Int) - 1).toNat) default).X)) || (decide ((c.getD k default).Y < (c.getD (((k : Int) - 1).toNat) default).Y))) = z := ⟨_, rfl⟩
    refine DW.g (b := (decide ((0 : Int) < (k : Int)))) (v := .bool qb5) (fun _ h => h) rfl rfl rfl (fun h => q_as (v := .bool ((decide ((c.getD k default).X ≤ (c.getD (((k : Int) - 1).toNat) default).X)) || (decide ((c.getD k default).Y < (c.getD (((k : Int) - 1).toNat) default).Y)))) (q_pick (gv_pos h) (fun hp => pkOrT hp) (fun hp => (gv_pos h).trans ((gv_pos hp).trans (pkOrF hp)))) (congrArg Value.bool hqb5)) (DW.pkA (fun _ h => h) rfl rfl rfl rfl fun qb6 hqb6 => ?_)
    subst hqb6 hqb5
    refine gs2 ?_
    refine AW.cond rfl (fun hc4 => ?_) fun hc4 => ?_
    ·
     simp [-List.getD_eq_getElem?_getD] at hc4
     refine gs11 ?_
     exact fin_val (v' := .bool false) rfl rfl rfl (by rw [decide_eq_false (fun hr => by have hp := hr.2 k (by omega); unfold Fu.PtOk Fu.px Fu.py at hp; have h3 := hp.2.2; omega)])
    ·
     simp [-List.getD_eq_getElem?_getD] at hc4
     refine gs7 ?_
     exact Post.bk ⟨k + 1, rfl, rfl, rfl, (by omega), (Fu.lt_succ hall (by unfold Fu.PtOk Fu.px Fu.py; refine ⟨by omega, by omega, fun h0 => ?_⟩; first | exact hc4 h0 | omega))⟩
  ·
   simp [-List.getD_eq_getElem?_getD] at hc2
   refine gs11 ?_
   exact fin_val (v' := .bool true) rfl rfl rfl (by rw [decide_eq_true ⟨by omega, fun j hj => hall j (by omega)⟩])
theorem Scale_c (w : World) (Φ : Hp) (hΦ : Hp.le Φ (hp w)) {x k d : Int} (hx : 0 ≤ x ∧ x ≤ 1125899906842624) (hk : 0 ≤ k ∧ k ≤ 1125899906842624) (hd : 1 ≤ d ∧ d ≤ 1125899906842624) (hq : x * k / d ≤ 1125899906842624) :
  Calls pg 181 #[iV x, iV k, iV d] w fun e w' => e = .returned (.tuple #[iV (x * k / d), iV (x * k % d), .bool true]) ∧ Bel w.heap.size w w' := by
 obtain ⟨X, rfl⟩ := Int.eq_ofNat_of_zero_le hx.1
 obtain ⟨K, rfl⟩ := Int.eq_ofNat_of_zero_le hk.1
 obtain ⟨D, rfl⟩ := Int.eq_ofNat_of_zero_le (show 0 ≤ d by omega)
 refine in3 61 Tryz.func181 rfl rfl hΦ ?_
 obtain ⟨Z, hZ⟩ : ∃ Z, X * K = Z := ⟨_, rfl⟩
 have hxe : (X : Int) * (K : Int) / (D : Int) = ((Z / D : Nat) : Int) := by rw [← hZ, Int.natCast_ediv, Int.natCast_mul]
 have hxm : (X : Int) * (K : Int) % (D : Int) = ((Z % D : Nat) : Int) := by rw [← hZ, Int.natCast_emod, Int.natCast_mul]
 have hq1 : Z / D ≤ 1125899906842624 := by rw [hxe] at hq; omega
 have hzd : Z < 18446744073709551616 * D := by have h9 := Nat.lt_mul_div_succ Z (show 0 < D by omega); have h8 : D * (Z / D + 1) ≤ D * 18446744073709551616 := Nat.mul_le_mul_left D (by omega); rw [Nat.mul_comm 18446744073709551616 D]; omega
 have hhi : Z / 18446744073709551616 < D := by rw [Nat.div_lt_iff_lt_mul (by omega), Nat.mul_comm]; exact hzd
 have hdm : Z / 18446744073709551616 * 18446744073709551616 + Z % 18446744073709551616 = Z := by rw [Nat.mul_comm]; exact Nat.div_add_mod _ _
 have hmd := Nat.mod_lt Z (show 0 < D by omega)
 have hml := Nat.mod_lt Z (show 0 < 18446744073709551616 by omega)
 refine gs15 ?_
 refine RW.pkO rfl rfl rfl rfl fun qb1 hqb1 => ?_
 refine gs3 ?_
 refine RW.q (v := .bool (qb1 || (decide ((K : Int) < 0)))) rfl (qpO rfl rfl rfl) ?_
 refine gs3 ?_
 refine RW.pkO rfl rfl rfl rfl fun qb2 hqb2 => ?_
 refine gs3 ?_
 refine RW.q (v := .bool (qb2 || (decide ((D : Int) < 1)))) rfl (qpO rfl rfl rfl) ?_
 refine gs3 ?_
 refine RW.pkO rfl rfl rfl rfl fun qb3 hqb3 => ?_
 subst hqb3 hqb2 hqb1
 refine gs2 ?_
 refine AW.cond rfl (fun hc1 => ?_) fun hc1 => ?_
 ·
  simp [-List.getD_eq_getElem?_getD] at hc1
  omega
 ·
  simp [-List.getD_eq_getElem?_getD] at hc1
  refine gs5 ?_
  refine RW.q (v := .int .u64 (X : Int)) rfl (q_toU (r := X) rfl uT3 uT192 rfl (by omega)) ?_
  refine gs1 ?_
  refine RW.q (v := .int .u64 (K : Int)) rfl (q_toU (r := K) rfl uT3 uT192 rfl (by omega)) (RW.c rfl (fun w1 hw1 => Mul64_c w1 (Go.K.hp w1) (Hp.le_refl _) (by omega) (by omega)) rfl rfl (RW.q rfl (q_move rfl) ?_))
  refine gs8 ?_
  rw [hZ]
  refine gs3 ?_
  refine RW.q (v := .int .u64 (D : Int)) rfl (q_toU (r := D) rfl uT3 uT192 rfl (by omega)) ?_
  refine gs3 ?_
  refine AW.cond rfl (fun hc2 => ?_) fun hc2 => ?_
  ·
   simp [-List.getD_eq_getElem?_getD] at hc2
   omega
  ·
   simp [-List.getD_eq_getElem?_getD] at hc2
   refine gs7 ?_
   refine RW.q (v := .int .u64 (D : Int)) rfl (q_toU (r := D) rfl uT3 uT192 rfl (by omega)) (RW.c rfl (fun w1 hw1 => Div64_c w1 (Go.K.hp w1) (Hp.le_refl _) (by omega) (by omega) (by omega)) rfl rfl (RW.q rfl (q_move rfl) ?_))
   refine gs8 ?_
   rw [hdm]
   refine gs5 ?_
   refine AW.cond rfl (fun hc3 => ?_) fun hc3 => ?_
   ·
    simp [-List.getD_eq_getElem?_getD] at hc3
    omega
   ·
    simp [-List.getD_eq_getElem?_getD] at hc3
    refine gs5 ?_
    refine RW.q (v := iV ((Z / D : Nat) : Int)) rfl (q_ofU (a := (Z / D)) rfl uT192 uT3 (by omega)) ?_
    refine gs1 ?_
    refine RW.q (v := iV ((Z % D : Nat) : Int)) rfl (q_ofU (a := (Z % D)) rfl uT192 uT3 (by omega)) ?_
    refine gs6 ?_
    refine fin_out3 (v1 := iV ((Z / D : Nat) : Int)) (v2 := iV ((Z % D : Nat) : Int)) (v3 := .bool true) rfl rfl rfl rfl rfl (fun w' hw => ?_)
    refine ⟨?_, hw.below rfl⟩
    rw [hxe, hxm]
theorem Search_c (w : World) (Φ : Hp) (hΦ : Hp.le Φ (hp w)) {n r : Nat} {kf : FuncId} {capt : Array Value} (hk : Go.K.Own pg kf) (hn : n ≤ 140737488355328) (hr : r ≤ n) (hf : ∀ w1, Bel w.heap.size w w1 → ∀ i, i < n → Calls pg kf (#[iV (i : Int)] ++ capt) w1 fun e w2 => e = .returned (.bool (decide (r ≤ i))) ∧ Bel w1.heap.size w1 w2) :
  Calls pg 179 #[iV (n : Int), (.func (.func kf) #[] capt)] w fun e w' => e = .returned (iV (r : Int)) ∧ Bel w.heap.size w w' := by
 refine in2 26 Tryz.func179 rfl rfl hΦ ?_
 refine gs14 ?_
 refine AW.lp (fun s J m => ∃ (i : Nat), ∃ (j : Nat), s = [(0, iV (n : Int)), (1, (.func (.func kf) #[] capt)), (5, iV (i : Int)), (6, iV (j : Int))] ∧ J = St ⟨w, Φ, []⟩ Φ [] ∧ m = j - i ∧ (i ≤ r) ∧ (r ≤ j) ∧ (j ≤ n)) ⟨0, n, rfl, rfl, rfl, (by omega), (by omega), (by omega)⟩ ?_
 rintro _ _ _ _ ⟨i, j, rfl, rfl, rfl, hi, hj, hjn⟩
 refine gs8 ?_
 refine AW.cond rfl (fun hc1 => ?_) fun hc1 => ?_
 ·
  simp [-List.getD_eq_getElem?_getD] at hc1
  refine gs8 ?_
  refine RW.q (v := .int .u64 ((i + j : Nat) : Int)) rfl (q_toU (r := (i + j)) rfl uT3 uT184 rfl (by omega)) (RW.q (v := .int .u64 (((i + j) / 2 ^ 1 : Nat) : Int)) rfl (q_shrU' (a := (i + j)) (c := 1) rfl rfl (by omega)) (RW.q (v := iV (((i + j) / 2 : Nat) : Int)) rfl (q_as (v := iV (((i + j) / 2 ^ 1 : Nat) : Int)) (q_ofU (a := ((i + j) / 2 ^ 1)) rfl uT184 uT3 (by omega)) (congrArg (Value.int .i64) (by simp))) ?_))
  refine gs7 ?_
  refine RW.q (v := .bool (decide (r ≤ (i + j) / 2))) rfl (q_call (args := [iV (((i + j) / 2 : Nat) : Int)].toArray ++ capt) hk rfl (args_capt rfl) (fun w1 hw1 => hf w1 (hw1.below rfl) ((i + j) / 2) (by omega))) ?_
  refine gs3 ?_
  refine AW.cond rfl (fun hc2 => ?_) fun hc2 => ?_
  ·
   simp [-List.getD_eq_getElem?_getD] at hc2
   refine gs6 ?_
   exact Post.bk ⟨(i + j) / 2 + 1, j, rfl, rfl, rfl, (by omega), (by omega), (by omega)⟩
  ·
   simp [-List.getD_eq_getElem?_getD] at hc2
   refine gs5 ?_
   exact Post.bk ⟨i, (i + j) / 2, rfl, rfl, rfl, (by omega), (by omega), (by omega)⟩
 ·
  simp [-List.getD_eq_getElem?_getD] at hc1
  refine gs12 ?_
  exact fin_val (v' := iV (i : Int)) rfl rfl rfl (by rw [show i = r by omega])
theorem bIn_c (w : World) (Φ : Hp) (hΦ : Hp.le Φ (hp w)) {n lo hi : Int} :
  Calls pg 75 #[iV n, iV lo, iV hi] w fun e w' => e = .returned (.bool (decide (lo ≤ n ∧ n ≤ hi))) ∧ Bel w.heap.size w w' := by
 refine in3 15 Tryz.func75 rfl rfl hΦ ?_
 refine gs14 ?_
 refine RW.pkA rfl rfl rfl rfl fun qb1 hqb1 => ?_
 refine gs1 ?_
 subst hqb1
 refine gs3 ?_
 exact fin_val (v' := .bool ((decide (lo ≤ n)) && (decide (n ≤ hi)))) rfl rfl rfl (congrArg Value.bool (Bool.decide_and _ _).symm)
theorem bVol_c (w : World) (Φ : Hp) (hΦ : Hp.le Φ (hp w)) {n : Int} :
  Calls pg 76 #[iV n] w fun e w' => e = .returned (.bool (decide (0 ≤ n ∧ n ≤ 1125899906842624))) ∧ Bel w.heap.size w w' := by
 refine in1 5 Tryz.func76 rfl rfl hΦ ?_
 refine gs8 ?_
 refine RW.c rfl (fun w1 hw1 => bIn_c w1 (Go.K.hp w1) (Hp.le_refl _)) rfl rfl ?_
 refine gs4 ?_
 exact fin_val (v' := .bool (decide (0 ≤ n ∧ n ≤ 1125899906842624))) rfl rfl rfl (rfl)
theorem bIdx_c (w : World) (Φ : Hp) (hΦ : Hp.le Φ (hp w)) {n len : Int} (hm : 0 ≤ len ∧ len ≤ 4611686018427387904) :
  Calls pg 82 #[iV n, iV len] w fun e w' => e = .returned (.bool (decide (0 ≤ n ∧ n < len))) ∧ Bel w.heap.size w w' := by
 refine in2 9 Tryz.func82 rfl rfl hΦ ?_
 refine gs10 ?_
 refine RW.c rfl (fun w1 hw1 => bIn_c w1 (Go.K.hp w1) (Hp.le_refl _)) rfl rfl ?_
 refine gs4 ?_
 exact fin_val (v' := .bool (decide (0 ≤ n ∧ n ≤ len - 1))) rfl rfl rfl (congrArg Value.bool (decide_eq_decide.2 (by omega)))
theorem bFrac_c (w : World) (Φ : Hp) (hΦ : Hp.le Φ (hp w)) {n d : Int} :
  Calls pg 80 #[iV n, iV d] w fun e w' => e = .returned (.bool (decide ((0 ≤ n ∧ n ≤ 1125899906842624) ∧ (0 ≤ d ∧ d ≤ 1125899906842624) ∧ (d = 0 → n = 0)))) ∧ Bel w.heap.size w w' := by
 refine in2 19 Tryz.func80 rfl rfl hΦ ?_
 refine gs8 ?_
 refine RW.c rfl (fun w1 hw1 => bVol_c w1 (Go.K.hp w1) (Hp.le_refl _)) rfl rfl ?_
 refine gs2 ?_
 refine RW.gc rfl rfl rfl (fun w1 hw1 => bVol_c w1 (Go.K.hp w1) (Hp.le_refl _)) rfl (fun h => args1 (gv_pos h)) ?_
 refine RW.pkA rfl rfl rfl rfl fun qb1 hqb1 => ?_
 refine gs4 ?_
 refine RW.g2 (b1 := qb1) (b2 := (!decide (d = 0))) (v := iV n) rfl rfl rfl (fun hg1 hg2 => q_move rfl) (RW.g2 (b1 := qb1) (b2 := (!decide (d = 0))) (v := .bool (decide (n = 0))) rfl rfl rfl (fun hg1 hg2 => q_eql ((gv_pos hg1).trans (gv_pos hg2)) rfl) ?_)
 obtain ⟨qb2, hqb2⟩ : ∃ z : Bool, ((!decide (d = 0)) || (decide (n = 0))) = z := ⟨_, rfl⟩
 refine RW.g (b := qb1) (v := .bool qb2) rfl rfl rfl (fun h => q_as (v := .bool ((!decide (d = 0)) || (decide (n = 0)))) (q_pick (gv_pos h) (fun hp => pkOrT hp) (fun hp => (gv_pos h).trans ((gv_pos hp).trans (pkOrF hp)))) (congrArg Value.bool hqb2)) (RW.q (v := .bool (qb1 && qb2)) rfl (qpA rfl rfl rfl) ?_)
 refine gs1 ?_
 subst hqb2 hqb1
 refine gs3 ?_
 exact fin_val (v' := .bool (((decide (0 ≤ n ∧ n ≤ 1125899906842624)) && (decide (0 ≤ d ∧ d ≤ 1125899906842624))) && ((!decide (d = 0)) || (decide (n = 0))))) rfl rfl rfl (congrArg Value.bool (by rw [Bool.eq_iff_iff]; simp only [Bool.and_eq_true, Bool.or_eq_true, Bool.not_eq_true', decide_eq_true_eq, decide_eq_false_iff_not] <;> omega))
theorem bTgt_c (w : World) (Φ : Hp) (hΦ : Hp.le Φ (hp w)) {b : Bt.Basin} {cs : List Value} (hB : RepV Φ b cs) {n d : Int} :
  Calls pg 81 #[.agg cs.toArray, iV n, iV d] w fun e w' => e = .returned (.bool (decide (d = -1 ∨ (0 ≤ d ∧ d < (b.Places.length : Int)) ∧ d ≠ n))) ∧ Bel w.heap.size w w' := by
 obtain ⟨v1, v3, v4, v5, v6, v7, v8, v9, hcs, hBw, r1, r3, r4, r5, r6, r7, r8, r9⟩ := (show Rep.rep Φ b cs from hB)
 subst hcs
 have hpm : b.Places.length * 152 ≤ 140737488355328 := r3.max
 refine in3 21 Tryz.func81 rfl rfl hΦ ?_
 refine gs2 ?_
 refine RW.bxA rfl rfl fun b1 => ?_
 refine gs12 ?_
 refine RW.gc rfl rfl rfl (fun w1 hw1 => bIdx_c w1 (Go.K.hp w1) (Hp.le_refl _) (by (try simp [-List.getD_eq_getElem?_getD] at h); omega)) rfl (fun h => args2 (gv_pos h) (gv_pos h)) ?_
 refine gs1 ?_
 refine RW.g2 (b1 := (decide (d = (-1)))) (b2 := (decide (0 ≤ d ∧ d < (b.Places.length : Int)))) (v := iV d) rfl rfl rfl (fun hg1 hg2 => q_move rfl) (RW.g2 (b1 := (decide (d = (-1)))) (b2 := (decide (0 ≤ d ∧ d < (b.Places.length : Int)))) (v := iV n) rfl rfl rfl (fun hg1 hg2 => q_move rfl) (RW.g2 (b1 := (decide (d = (-1)))) (b2 := (decide (0 ≤ d ∧ d < (b.Places.length : Int)))) (v := .bool (!decide (d = n))) rfl rfl rfl (fun hg1 hg2 => q_neq ((gv_pos hg1).trans (gv_pos hg2)) ((gv_pos hg1).trans (gv_pos hg2))) ?_))
 obtain ⟨qb1, hqb1⟩ : ∃ z : Bool, ((decide (0 ≤ d ∧ d < (b.Places.length : Int))) && (!decide (d = n))) = z := ⟨_, rfl⟩
 refine RW.g (b := (decide (d = (-1)))) (v := .bool qb1) rfl rfl rfl (fun h => q_as (v := .bool ((decide (0 ≤ d ∧ d < (b.Places.length : Int))) && (!decide (d = n)))) (q_pick (gv_pos h) (fun hp => (gv_pos h).trans ((gv_pos hp).trans (pkAndT hp))) (fun hp => pkAndF hp)) (congrArg Value.bool hqb1)) (RW.q (v := .bool ((decide (d = (-1))) || qb1)) rfl (qpO rfl rfl rfl) ?_)
 refine gs1 ?_
 subst hqb1
 refine gs3 ?_
 exact fin_val (v' := .bool ((decide (d = (-1))) || ((decide (0 ≤ d ∧ d < (b.Places.length : Int))) && (!decide (d = n))))) rfl rfl rfl (congrArg Value.bool (by rw [Bool.eq_iff_iff]; simp only [Bool.and_eq_true, Bool.or_eq_true, Bool.not_eq_true', decide_eq_true_eq, decide_eq_false_iff_not] <;> omega))
theorem bNext_c (w : World) (Φ : Hp) (hΦ : Hp.le Φ (hp w)) {b : Bt.Basin} {cs : List Value} (hB : RepV Φ b cs) {n d : Int} (hd : d ≠ -1 → 0 ≤ d ∧ d < (b.Places.length : Int)) (hn : 0 ≤ n ∧ n ≤ 2) :
  Calls pg 85 #[.agg cs.toArray, iV n, iV d] w fun e w' => e = .returned (.bool (decide ((d = -1 → n = 2) ∧ (d ≠ -1 → (b.Places.getD d.toNat default).Office = n ∨ (b.Places.getD d.toNat default).Office = n + 1)))) ∧ Bel w.heap.size w w' := by
 obtain ⟨v1, v3, v4, v5, v6, v7, v8, v9, hcs, hBw, r1, r3, r4, r5, r6, r7, r8, r9⟩ := (show Rep.rep Φ b cs from hB)
 subst hcs
 have hpm : b.Places.length * 152 ≤ 140737488355328 := r3.max
 refine in3 27 Tryz.func85 rfl rfl hΦ ?_
 refine gs2 ?_
 refine RW.bxA rfl rfl fun b1 => ?_
 refine gs10 ?_
 refine AW.cond rfl (fun hc1 => ?_) fun hc1 => ?_
 ·
  simp [-List.getD_eq_getElem?_getD] at hc1
  refine gs9 ?_
  exact fin_val (v' := .bool (decide (n = 2))) rfl rfl rfl (congrArg Value.bool (decide_eq_decide.2 (by omega)))
 ·
  simp [-List.getD_eq_getElem?_getD] at hc1
  refine gs7 ?_
  refine RW.q (v := .pointer (some (Value.at v3 (d.toNat * 12)))) rfl (q_indexAddr rfl rfl r3.sl uT23 sz58 (by omega) (by omega) rfl) ?_
  refine gs1 ?_
  refine RW.q (v := iV ((b.Places.getD d.toNat default).Office)) rfl (q_load rfl uT3 rfl (Cell.repJ (j := 2) r3 (by omega) (fun h => leaf58_2 h))) ?_
  refine gs11 ?_
  refine RW.g (b := (decide ((b.Places.getD d.toNat default).Office = n))) (v := iV (n + 1)) rfl rfl rfl (fun h => q_add (gv_pos h) rfl (by (try simp [-List.getD_eq_getElem?_getD] at h); omega) (by (try simp [-List.getD_eq_getElem?_getD] at h); unfold I64; omega)) ?_
  refine gs1 ?_
  refine RW.pkO rfl rfl rfl rfl fun qb1 hqb1 => ?_
  refine gs1 ?_
  subst hqb1
  refine gs3 ?_
  exact fin_val (v' := .bool ((decide ((b.Places.getD d.toNat default).Office = n)) || (decide ((b.Places.getD d.toNat default).Office = n + 1)))) rfl rfl rfl (congrArg Value.bool (by rw [Bool.eq_iff_iff]; simp only [Bool.or_eq_true, decide_eq_true_eq] <;> omega))
theorem value1_c (w : World) (Φ : Hp) (hΦ : Hp.le Φ (hp w)) {c : List Bt.Point} {v1 : Value} (h1 : RepSl Φ c v1) {x : Int} {b1 b2 : Nat} (p1 : PCell Φ ⟨b1, 0, none⟩ v1) (p2 : PCell Φ ⟨b2, 0, none⟩ (iV x)) {i : Nat} (hi : i < c.length) :
  Calls pg 180 #[iV (i : Int), .pointer (some ⟨b1, 0, none⟩), .pointer (some ⟨b2, 0, none⟩)] w fun e w' => e = .returned (.bool (decide (x < (c.getD i default).X))) ∧ Bel w.heap.size w w' := by
 refine in3 12 Tryz.func180 rfl rfl hΦ ?_
 have hm1 : c.length * 16 ≤ 140737488355328 := h1.max
 refine gs6 ?_
 refine AW.draw (J0 := St ⟨w, Φ, []⟩ Φ []) [.q, .q, .q, .q, .q, .q, .q, .q] [0, 1, 2, 3, 4, 5, 6, 7] hmix (by kernel_rfl) (DW.q (v := v1) (fun _ h => h) rfl (q_load rfl uT55 rfl (Cell.phi p1)) ?_)
 refine gs3 ?_
 refine DW.q (v := iV ((c.getD i default).X)) (fun _ h => h) rfl (q_load rfl uT3 rfl (Cell.repE (j := 0) h1 (by omega) rfl)) (DW.q (v := iV x) (fun _ h => h) rfl (q_load rfl uT3 rfl (Cell.phi p2)) ?_)
 refine gs5 ?_
 exact fin_val (v' := .bool (decide (x < (c.getD i default).X))) rfl rfl rfl (rfl)
theorem bvalue_c (w : World) (Φ : Hp) (hΦ : Hp.le Φ (hp w)) {c : List Bt.Point} {v1 : Value} (h1 : RepSl Φ c v1) (hR : Fu.RightC c) {x : Int} (_ : I64 x) :
  Calls pg 162 #[v1, iV x] w fun e w' => e = .returned (.tuple #[iV (Fu.valC c x), .bool (Fu.remC c x)]) ∧ Bel w.heap.size w w' := by
 refine in2 63 Tryz.func162 rfl rfl hΦ ?_
 have hm1 : c.length * 16 ≤ 140737488355328 := h1.max
 have hl1 := hR.1.1
 have hpl := Ba.posG_le c x
 refine gs2 ?_
 refine RW.eff (fun b1 : Nat => pV b1 0) (fun b1 => St ⟨w, Φ, []⟩ Φ [.blk b1 55 [v1]]) rfl (e_boxSl rfl h1.sl) ?_
 intro b1
 refine RW.eff (fun b2 : Nat => pV b2 0) (fun b2 => St ⟨w, Φ, []⟩ Φ [.blk b2 3 [iV x], .blk b1 55 [v1]]) rfl (e_box (v := iV x) rfl) ?_
 intro b2
 refine gs8 ?_
 refine RW.q (v := .func (.func 180) #[] #[pV b1 0, pV b2 0]) rfl (q_makeFunc rfl rfl) (RW.c rfl (fun w1 hw1 => Search_c w1 (Go.K.hp w1) (Hp.le_refl _) (capt := #[pV b1 0, pV b2 0]) oK (by omega) hpl (fun w2 hb2 i hi => (value1_c w2 (Go.K.hp w2) (Hp.le_refl _) ((h1.mono hw1.phi).mono (below_le hb2)) ((blk_cell (hw1.sAt 1 rfl) rfl).mono (below_le hb2)) ((blk_cell (hw1.sAt 0 rfl) rfl).mono (below_le hb2)) hi).mono fun e w3 ⟨he, hb3⟩ => ⟨by rw [he]; exact congrArg (fun q => Ending.returned (.bool q)) (decide_eq_decide.2 (Ba.posG_iff hR hi).symm), hb3⟩)) rfl rfl ?_)
 refine gs10 ?_
 refine AW.cond rfl (fun hc1 => ?_) fun hc1 => ?_
 ·
  simp [-List.getD_eq_getElem?_getD] at hc1
  refine gs3 ?_
  refine RW.q (v := .pointer (some (Value.at v1 (0 * 2)))) rfl (q_indexAddr rfl rfl h1.sl uT55 sz75 (by omega) (by omega) rfl) ?_
  refine gs1 ?_
  refine RW.q (v := iV ((c.getD 0 default).Y)) rfl (q_load rfl uT3 rfl (Cell.repE (j := 1) h1 (by omega) rfl)) ?_
  refine gs6 ?_
  refine fin_out2 (v := iV ((c.getD 0 default).Y)) (u := .bool false) rfl rfl rfl rfl (fun w' hw => ?_)
  refine ⟨?_, hw.below rfl⟩
  have h9 := Ba.val_0 hR (x := x) ((Ba.posG_iff hR (by omega)).1 (by omega))
  rw [h9.1, h9.2]
  rfl
 ·
  simp [-List.getD_eq_getElem?_getD] at hc1
  refine gs3 ?_
  obtain ⟨P, hP⟩ : ∃ P, Ba.posG c x = P + 1 := ⟨Ba.posG c x - 1, by omega⟩
  rw [hP]
  have hPc : P < c.length := by omega
  have hPx : Fu.px c P ≤ x := by have h9 := (Ba.posG_iff hR hPc (x := x)); omega
  refine gs3 ?_
  refine RW.q (v := iV (P : Int)) rfl (q_as (v := iV (((P + 1 : Nat) : Int) - 1)) (q_sub rfl rfl (by omega) (by unfold I64; omega)) (congrArg (Value.int .i64) (by omega))) ?_
  refine gs1 ?_
  refine RW.q (v := .agg #[iV ((c.getD P default).X), iV ((c.getD P default).Y)]) rfl (q_loadAgg rfl uT75 rfl sz75 rfl (Cells.repE h1 (by omega) rfl)) ?_
  refine RW.alc rfl fun b3 => ?_
  refine gs12 ?_
  refine AW.cond rfl (fun hc2 => ?_) fun hc2 => ?_
  ·
   simp [-List.getD_eq_getElem?_getD] at hc2
   refine gs10 ?_
   refine fin_out2 (v := iV ((c.getD P default).Y)) (u := .bool false) rfl rfl rfl rfl (fun w' hw => ?_)
   refine ⟨?_, hw.below rfl⟩
   have h9 := Ba.val_top hR (x := x) (by have h8 : c.length - 1 = P := (by omega); rw [h8]; exact hPx)
   rw [h9.1, h9.2, show c.length - 1 = P by omega]
   rfl
  ·
   simp [-List.getD_eq_getElem?_getD] at hc2
   refine gs3 ?_
   have hlt2 : P + 1 < c.length := by omega
   have hPx2 : x < Fu.px c (P + 1) := (Ba.posG_iff hR hlt2).1 (by omega)
   have hvs := Ba.val_seg hR hlt2 hPx hPx2
   have s9 := Fu.seg_of hR (show 0 < P + 1 by omega) hlt2
   have w0 := s9.w0; have d0 := s9.d0; have wM := s9.wM; have dM := s9.dM
   have hmd := Fu.mul_div_rng (k := x - Fu.px c P) (by omega) (show x - Fu.px c P ≤ Fu.px c (P + 1) - Fu.px c P by omega) w0 d0
   have hpt1 := (hR.pt hlt2).1
   have hpt0 := (hR.pt hPc).1
   have hpy1 := (hR.pt hlt2).2.1
   have hpy0 := (hR.pt hPc).2.1
   simp only [Nat.add_sub_cancel] at w0 d0 wM dM hmd
   simp only [Fu.px, Fu.py] at hvs hPx hPx2 w0 d0 wM dM hmd hpt1 hpt0 hpy1 hpy0
   refine AW.draw (J0 := St ⟨w, Φ, []⟩ Φ [.blk b3 75 [iV ((c.getD P default).X), iV ((c.getD P default).Y)], .blk b2 3 [iV x], .blk b1 55 [v1]]) [.q, .q, .q, .q, .q, .q, .q, .q, .q, .q, .q, .q, .q, .q, .q, .q, .q, .q, .q, .q, .q, .q, .q, .q, .q, .q, .q, .q] [0, 1, 2, 3, 4, 5, 6, 7, 8, 9, 10, 11, 12, 13, 14, 15, 16, 17, 18, 19, 20, 21, 22, 23, 24, 25, 26, 27] hmix (by kernel_rfl) ?_
   refine gs8 ?_
   refine DW.q (v := iV ((c.getD (P + 1) default).Y)) (fun _ h => h) rfl (q_load rfl uT3 rfl (Cell.repE (j := 1) h1 (by omega) rfl)) ?_
   refine gs7 ?_
   refine DW.q (v := iV ((c.getD (P + 1) default).X)) (fun _ h => h) rfl (q_load rfl uT3 rfl (Cell.repE (j := 0) h1 (by omega) rfl)) ?_
   refine gs3 ?_
   refine DW.c (fun _ h => h) rfl (fun w1 hw1 => Scale_c w1 (Go.K.hp w1) (Hp.le_refl _) (by omega) (by omega) (by omega) (by omega)) rfl rfl (DW.q (v := .tuple #[iV ((x - ((c.getD P default).X)) * (((c.getD (P + 1) default).Y) - ((c.getD P default).Y)) / (((c.getD (P + 1) default).X) - ((c.getD P default).X))), iV ((x - ((c.getD P default).X)) * (((c.getD (P + 1) default).Y) - ((c.getD P default).Y)) % (((c.getD (P + 1) default).X) - ((c.getD P default).X))), .bool true]) (fun _ h => h) rfl (q_move rfl) ?_)
   refine gs21 ?_
   refine fin_out2 (v := iV (((c.getD P default).Y) + ((x - ((c.getD P default).X)) * (((c.getD (P + 1) default).Y) - ((c.getD P default).Y)) / (((c.getD (P + 1) default).X) - ((c.getD P default).X))))) (u := .bool (decide ((0 : Int) < (x - ((c.getD P default).X)) * (((c.getD (P + 1) default).Y) - ((c.getD P default).Y)) % (((c.getD (P + 1) default).X) - ((c.getD P default).X))))) rfl rfl rfl rfl (fun w' hw => ?_)
   refine ⟨?_, hw.below rfl⟩
   rw [hvs.1, hvs.2]
   rfl
theorem Under_c (w : World) (Φ : Hp) (hΦ : Hp.le Φ (hp w)) {a b : List Bt.Point} {v1 v2 : Value} (h1 : RepSl Φ a v1) (h2 : RepSl Φ b v2) :
  Calls pg 121 #[v1, v2] w fun e w' => e = .returned (.bool (decide (Ba.underC a b))) ∧ Bel w.heap.size w w' := by
 refine in2 66 Tryz.func121 rfl rfl hΦ ?_
 have hm1 : a.length * 16 ≤ 140737488355328 := h1.max
 have hm2 : b.length * 16 ≤ 140737488355328 := h2.max
 refine gs9 ?_
 refine RW.c rfl (fun w1 hw1 => cRight_c w1 (Go.K.hp w1) (Hp.le_refl _) (h1.mono hw1.phi)) rfl rfl ?_
 refine gs3 ?_
 refine RW.gc rfl rfl rfl (fun w1 hw1 => cRight_c w1 (Go.K.hp w1) (Hp.le_refl _) (h2.mono hw1.phi)) rfl (fun h => args1 (gv_pos h)) ?_
 refine gs1 ?_
 refine RW.pkO rfl rfl rfl rfl fun qb1 hqb1 => ?_
 subst hqb1
 refine gs2 ?_
 refine AW.cond rfl (fun hc1 => ?_) fun hc1 => ?_
 ·
  simp [-List.getD_eq_getElem?_getD] at hc1
  refine gs7 ?_
  exact fin_val (v' := .bool false) rfl rfl rfl (congrArg Value.bool (decide_eq_false (fun h9 => by have h8 := h9.1; simp [h8.1, h8.2] at hc1)).symm)
 ·
  simp [-List.getD_eq_getElem?_getD] at hc1
  refine gs11 ?_
  refine AW.lp (fun s J m => ∃ (k : Nat), s = [(0, v1), (1, v2), (21, v1), (22, iV (a.length : Int)), (23, iV (k : Int))] ∧ J = St ⟨w, Φ, []⟩ Φ [] ∧ m = a.length - k ∧ (k ≤ a.length) ∧ (∀ j, j < k → Fu.py a j ≤ Fu.valC b (Fu.px a j))) ⟨0, rfl, rfl, rfl, (by omega), (fun j hj => absurd hj (by omega))⟩ ?_
  rintro _ _ _ _ ⟨k, rfl, rfl, rfl, hk, hall⟩
  refine gs6 ?_
  refine AW.cond rfl (fun hc2 => ?_) fun hc2 => ?_
  ·
   simp [-List.getD_eq_getElem?_getD] at hc2
   refine gs7 ?_
   refine RW.q (v := .agg #[iV ((a.getD k default).X), iV ((a.getD k default).Y)]) rfl (q_loadAgg rfl uT75 rfl sz75 rfl (Cells.repE h1 (by omega) rfl)) ?_
   refine RW.alc rfl fun b1 => ?_
   refine gs4 ?_
   have hpk := hc1.1.pt (show k < a.length by omega)
   unfold Fu.PtOk Fu.px Fu.py at hpk
   have hpI : I64 (a.getD k default).X := by unfold I64; omega
   refine gs4 ?_
   refine RW.c rfl (fun w1 hw1 => bvalue_c w1 (Go.K.hp w1) (Hp.le_refl _) (h2.mono hw1.phi) hc1.2 hpI) rfl rfl (RW.q rfl (q_move rfl) ?_)
   refine gs14 ?_
   refine AW.cond rfl (fun hc3 => ?_) fun hc3 => ?_
   ·
    simp [-List.getD_eq_getElem?_getD] at hc3
    refine gs11 ?_
    exact fin_val (v' := .bool false) rfl rfl rfl (congrArg Value.bool (decide_eq_false (fun h9 => by have h8 := h9.2.1 k (by omega); unfold Fu.py Fu.px at h8; omega)).symm)
   ·
    simp [-List.getD_eq_getElem?_getD] at hc3
    refine gs7 ?_
    exact Post.bk ⟨k + 1, rfl, rfl, rfl, (by omega), (Fu.lt_succ hall (by unfold Fu.py Fu.px; omega))⟩
  ·
   simp [-List.getD_eq_getElem?_getD] at hc2
   refine gs14 ?_
   refine AW.lp (fun s J m => ∃ (i : Nat), s = [(0, v1), (39, v2), (40, iV (b.length : Int)), (41, iV (i : Int))] ∧ J = St ⟨w, Φ, []⟩ Φ [] ∧ m = b.length - i ∧ (i ≤ b.length) ∧ (∀ j, j < i → ¬ (Fu.py b j < Fu.valC a (Fu.px b j) ∨ Fu.valC a (Fu.px b j) = Fu.py b j ∧ Fu.remC a (Fu.px b j) = true))) ⟨0, rfl, rfl, rfl, (by omega), (fun j hj => absurd hj (by omega))⟩ ?_
   rintro _ _ _ _ ⟨i, rfl, rfl, rfl, hi, hal2⟩
   refine gs6 ?_
   refine AW.cond rfl (fun hc4 => ?_) fun hc4 => ?_
   ·
    simp [-List.getD_eq_getElem?_getD] at hc4
    refine gs7 ?_
    refine RW.q (v := .agg #[iV ((b.getD i default).X), iV ((b.getD i default).Y)]) rfl (q_loadAgg rfl uT75 rfl sz75 rfl (Cells.repE h2 (by omega) rfl)) ?_
    refine RW.alc rfl fun b2 => ?_
    refine gs4 ?_
    have hpk := hc1.2.pt (show i < b.length by omega)
    unfold Fu.PtOk Fu.px Fu.py at hpk
    have hpI : I64 (b.getD i default).X := by unfold I64; omega
    refine gs4 ?_
    refine RW.c rfl (fun w1 hw1 => bvalue_c w1 (Go.K.hp w1) (Hp.le_refl _) (h1.mono hw1.phi) hc1.1 hpI) rfl rfl (RW.q rfl (q_move rfl) ?_)
    refine gs18 ?_
    refine RW.g2 (b1 := (decide ((b.getD i default).Y < Fu.valC a ((b.getD i default).X)))) (b2 := (decide (Fu.valC a ((b.getD i default).X) = (b.getD i default).Y))) (v := .bool (Fu.remC a ((b.getD i default).X))) rfl rfl rfl (fun hg1 hg2 => q_move rfl) ?_
    obtain ⟨qb2, hqb2⟩ : ∃ z : Bool, ((decide (Fu.valC a ((b.getD i default).X) = (b.getD i default).Y)) && (Fu.remC a ((b.getD i default).X))) = z := ⟨_, rfl⟩
    refine RW.g (b := (decide ((b.getD i default).Y < Fu.valC a ((b.getD i default).X)))) (v := .bool qb2) rfl rfl rfl (fun h => q_as (v := .bool ((decide (Fu.valC a ((b.getD i default).X) = (b.getD i default).Y)) && (Fu.remC a ((b.getD i default).X)))) (q_pick (gv_pos h) (fun hp => (gv_pos h).trans ((gv_pos hp).trans (pkAndT hp))) (fun hp => pkAndF hp)) (congrArg Value.bool hqb2)) ?_
    refine RW.pkO rfl rfl rfl rfl fun qb3 hqb3 => ?_
    subst hqb3 hqb2
    refine gs2 ?_
    refine AW.cond rfl (fun hc5 => ?_) fun hc5 => ?_
    ·
     simp [-List.getD_eq_getElem?_getD] at hc5
     refine gs11 ?_
     exact fin_val (v' := .bool false) rfl rfl rfl (congrArg Value.bool (decide_eq_false (fun h9 => h9.2.2 i (by omega) (by unfold Fu.py Fu.px; exact hc5))).symm)
    ·
     simp [-List.getD_eq_getElem?_getD] at hc5
     refine gs7 ?_
     exact Post.bk ⟨i + 1, rfl, rfl, rfl, (by omega), (Fu.lt_succ hal2 (by unfold Fu.py Fu.px; intro h9; rcases h9 with h9 | h9; exact absurd h9 (by omega); exact absurd (hc5.2 h9.1) (by rw [h9.2]; simp)))⟩
   ·
    simp [-List.getD_eq_getElem?_getD] at hc4
    refine gs11 ?_
    exact fin_val (v' := .bool true) rfl rfl rfl (congrArg Value.bool (decide_eq_true (show Ba.underC a b from ⟨hc1, fun j hj => hall j (by omega), fun j hj => hal2 j (by omega)⟩)).symm)
theorem slope_c (w : World) (Φ : Hp) (hΦ : Hp.le Φ (hp w)) {a d : Int} (ha : 0 ≤ a ∧ a ≤ 1125899906842624) (hd : 0 ≤ d ∧ d ≤ 1125899906842624) :
  Calls pg 86 #[iV a, iV d] w fun e w' => e = .returned (iV (Ba.slope a d)) ∧ Bel w.heap.size w w' := by
 obtain ⟨A, rfl⟩ := Int.eq_ofNat_of_zero_le ha.1
 obtain ⟨D, rfl⟩ := Int.eq_ofNat_of_zero_le hd.1
 refine in2 34 Tryz.func86 rfl rfl hΦ ?_
 obtain ⟨Z, hZ⟩ : ∃ Z, A * 1099511627776 = Z := ⟨_, rfl⟩
 refine gs12 ?_
 refine AW.cond rfl (fun hc1 => ?_) fun hc1 => ?_
 ·
  simp [-List.getD_eq_getElem?_getD] at hc1
  refine gs7 ?_
  exact fin_val (v' := iV 0) rfl rfl rfl (by unfold Ba.slope; rw [if_pos (by omega)])
 ·
  simp [-List.getD_eq_getElem?_getD] at hc1
  refine gs10 ?_
  refine AW.cond rfl (fun hc2 => ?_) fun hc2 => ?_
  ·
   simp [-List.getD_eq_getElem?_getD] at hc2
   refine gs7 ?_
   exact fin_val (v' := iV 1099511627777) rfl rfl rfl (by unfold Ba.slope; rw [if_neg (by omega), if_pos (by omega)])
  ·
   simp [-List.getD_eq_getElem?_getD] at hc2
   refine gs5 ?_
   refine RW.q (v := .int .u64 (A : Int)) rfl (q_toU (r := A) rfl uT3 uT192 rfl (by omega)) (RW.q (v := .tuple #[.int .u64 ((A * 1099511627776 / 18446744073709551616 : Nat) : Int), .int .u64 ((A * 1099511627776 % 18446744073709551616 : Nat) : Int)]) rfl (q_call (args := #[.int .u64 (A : Int), .int .u64 ((1099511627776 : Nat) : Int)]) oK rfl rfl (fun w1 hw1 => Mul64_c w1 (Go.K.hp w1) (Hp.le_refl _) (by omega) (by omega))) (RW.q rfl (q_move rfl) ?_))
   refine gs7 ?_
   rw [hZ]
   have hD : 0 < D := by omega
   have hzd : Z / 18446744073709551616 < D := by rw [Nat.div_lt_iff_lt_mul (by omega)]; omega
   have hml := Nat.mod_lt Z (show 0 < 18446744073709551616 by omega)
   have hdm : Z / 18446744073709551616 * 18446744073709551616 + Z % 18446744073709551616 = Z := by rw [Nat.mul_comm]; exact Nat.div_add_mod _ _
   have hq40 : Z / D ≤ 1099511627776 := Nat.div_le_of_le_mul (show Z ≤ D * 1099511627776 by omega)
   have hxe : (A : Int) * 1099511627776 / (D : Int) = ((Z / D : Nat) : Int) := by rw [← hZ, Int.natCast_ediv, Int.natCast_mul]; rfl
   have hxm : (A : Int) * 1099511627776 % (D : Int) = ((Z % D : Nat) : Int) := by rw [← hZ, Int.natCast_emod, Int.natCast_mul]; rfl
   refine gs4 ?_
   refine RW.q (v := .int .u64 (D : Int)) rfl (q_toU (r := D) rfl uT3 uT192 rfl (by omega)) (RW.c rfl (fun w1 hw1 => Div64_c w1 (Go.K.hp w1) (Hp.le_refl _) (by omega) (by omega) (by omega)) rfl rfl (RW.q rfl (q_move rfl) ?_))
   refine gs8 ?_
   rw [hdm]
   refine gs5 ?_
   refine AW.cond rfl (fun hc3 => ?_) fun hc3 => ?_
   ·
    simp [-List.getD_eq_getElem?_getD] at hc3
    refine gs2 ?_
    refine RW.q (v := .int .u64 (((Z / D) + 1 : Nat) : Int)) rfl (q_addU (a := (Z / D)) (b := 1) rfl rfl (Nat.mod_eq_of_lt (by omega))) ?_
    refine gs6 ?_
    refine RW.q (v := iV (((Z / D) + 1 : Nat) : Int)) rfl (q_ofU (a := ((Z / D) + 1)) rfl uT192 uT3 (by omega)) ?_
    refine gs4 ?_
    exact fin_val (v' := iV (((Z / D) + 1 : Nat) : Int)) rfl rfl rfl (congrArg (Value.int .i64) (by unfold Ba.slope; rw [if_neg (by omega), if_neg (by omega), hxe, hxm, if_neg (by omega)]; omega))
   ·
    simp [-List.getD_eq_getElem?_getD] at hc3
    refine gs5 ?_
    refine RW.q (v := iV ((Z / D : Nat) : Int)) rfl (q_ofU (a := (Z / D)) rfl uT192 uT3 (by omega)) ?_
    refine gs4 ?_
    exact fin_val (v' := iV ((Z / D : Nat) : Int)) rfl rfl rfl (congrArg (Value.int .i64) (by unfold Ba.slope; rw [if_neg (by omega), if_neg (by omega), hxe, hxm, if_pos (by omega)]; omega))
end Go.Proofs.YtpapfpoefiikpaaGreatDoor
namespace Go.Proofs.YtpapfpoefiikpaaGreatDoor
open Go Go.K Go.RowKit Go.WideMaps Go.Maps
theorem sz145 : (pg.info? 145).map (·.size) = some 1 := by kernel_rfl
theorem zero145 : (pg.info? 145).map (·.zero) = some (some (.map none)) := by kernel_rfl
theorem laidOut_ : laidOutB pg = true := by kernel_rfl
theorem tySize : ∃ m, pg.types.size = m + 1 := ⟨pg.types.size - 1, by kernel_rfl⟩
theorem cells191 : pg.cellsOf 191 = 2 := by kernel_rfl
theorem cells9 : pg.cellsOf 9 = 1 := by kernel_rfl
theorem keyT191 : pg.keyType 191 = true := by kernel_rfl
theorem mark_key {a b : ByteArray} (ha : a.size ≤ maxLen) (hb : b.size ≤ maxLen) : ∃ l, keyOf pg 191 (.agg #[.string a, .string b]) = some l := by
  obtain ⟨m, hm⟩ := tySize
  have hf : (Value.agg #[.string a, .string b]).formed pg 191 = true := by simp [Value.formed, Tryz.underlying191, cells191]
  unfold keyOf
  rw [Tryz.underlying191]
  simp only [keyT191, hf, Bool.and_self, if_true, hm]
  refine ⟨.string (keyBytes [.string a.data.toList, .string b.data.toList]), ?_⟩
  simp [Program.keyLits, Tryz.underlying191, Tryz.underlying9, Value.cells, cells191, cells9, ha, hb]
abbrev markV (k : Ba.Mk) : Value := .agg #[.string k.1, .string k.2]
theorem markV_inj {a b : Ba.Mk} (h : markV a = markV b) : a = b := by
  obtain ⟨a1, a2⟩ := a; obtain ⟨b1, b2⟩ := b
  simp only [markV, Value.agg.injEq, Array.mk.injEq, List.cons.injEq, Value.string.injEq, and_true] at h
  rw [h.1, h.2]
noncomputable def kMark : KL pg 191 Ba.Mk := KL.of (Keyed.of_law (deep_law_laid laidOut_ (m := 2) (by omega) (odT (by kernel_rfl)) (by kernel_rfl) (by rw [Tryz.underlying191]))) markV (fun k => k.1.size ≤ maxLen ∧ k.2.size ≤ maxLen) markV_inj fun a ha => mark_key ha.1 ha.2
end Go.Proofs.YtpapfpoefiikpaaGreatDoor
