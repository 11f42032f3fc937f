/- Walks (part WalkBb), printed by walk2.py. Conditions: those of each theorem. -/
import Derived.Test.YtblfeidlnhdekaaXWalkBa
import Derived.Test.YtblfeidlnhdekaaXKeyBa
namespace Go.Proofs.Ytblfeidlnhdekaa
open Go Go.K Go.RowKit
set_option maxRecDepth 8000
set_option maxHeartbeats 1000000
attribute [local irreducible] AW RW DW Post Qt
theorem steepest_c (w : World) (Φ : Hp) (hΦ : Hp.le Φ (hp w)) {css : List (List Bt.Point)} {v1 : Value} (h1 : RepSl Φ css v1) (hR : ∀ c ∈ css, Fu.RightC c) :
  Calls Try.prog 89 #[v1] w fun e w' => e = .returned (iV (Ba.stAll css)) ∧ Bel w.heap.size w w' := by
 refine calls_of_AW (args := [v1]) Try.func89 rfl (Nat.le_of_ble_eq_true rfl) (St ⟨w, Φ, []⟩ Φ []) (StP.init w Φ hΦ []) ?_
 show AW Try.prog 48 [] _ _ _ [(0, v1)] _
 have hm1 : css.length * 24 ≤ 140737488355328 := h1.max
 refine g19 ?_
 refine AW.loop (fun s J m => ∃ (k : Nat), ∃ (u : Int), s = [(7, v1), (8, iV (css.length : Int)), (3, iV u), (9, iV (k : Int))] ∧ J = St ⟨w, Φ, []⟩ Φ [] ∧ m = css.length - k ∧ (k ≤ css.length) ∧ (u = Ba.stAll (css.take k))) (s0 := _) (J1 := _) (m0 := _) ⟨0, 0, rfl, rfl, rfl, (by omega), rfl⟩ ⟨rfl, rfl, rfl, rfl, trivial⟩ (fun _ h => h) ?_
 rintro _ _ _ _ ⟨k, u, rfl, rfl, rfl, hk, hu⟩
 refine g6 ?_
 refine AW.cond rfl (fun hc1 => ?_) fun hc1 => ?_
 ·
  simp [-List.getD_eq_getElem?_getD] at hc1
  refine g5 ?_
  have hRk : Fu.RightC (css.getD k []) := hR _ (by rw [List.getD_eq_getElem?_getD, List.getElem?_eq_getElem (show k < css.length by omega)]; exact List.getElem_mem _)
  have hl1 := hRk.1
  refine g1 ?_
  refine RW.q (v := .pointer (some (Value.at v1 (k * 1)))) rfl (q_indexAddr rfl rfl h1.sl uT167 sz60 (by omega) (by omega) rfl) ?_
  obtain ⟨sv1, hsv1, hpc1⟩ := h1.sub (k := k) (by omega)
  refine RW.q (v := sv1) rfl (q_load rfl uT60 rfl (Cell.phi hpc1)) ?_
  refine g9 ?_
  refine AW.loop (fun s J m => ∃ (n : Nat), ∃ (t : Int), s = [(5, sv1), (7, v1), (8, iV (css.length : Int)), (9, iV (k : Int)), (3, iV t), (6, iV ((n + 1 : Nat) : Int))] ∧ J = St ⟨w, Φ, []⟩ Φ [] ∧ m = (css.getD k []).length - n ∧ (n + 1 ≤ (css.getD k []).length) ∧ (t = Ba.stTo u (css.getD k []) n)) (s0 := _) (J1 := _) (m0 := _) ⟨0, u, rfl, rfl, rfl, (by omega), rfl⟩ ⟨rfl, rfl, rfl, rfl, rfl, rfl, trivial⟩ (fun _ h => h) ?_
  rintro _ _ _ _ ⟨n, t, rfl, rfl, rfl, hn, ht⟩
  refine g9 ?_
  refine AW.cond rfl (fun hc2 => ?_) fun hc2 => ?_
  ·
   simp [-List.getD_eq_getElem?_getD] at hc2
   refine g4 ?_
   have hp1 := hRk.pt (show n + 1 < (css.getD k []).length by omega)
   have hp0 := hRk.pt (show n < (css.getD k []).length by omega)
   have hp2 := hp1.2.2 (by omega)
   rw [Nat.add_sub_cancel] at hp2
   unfold Fu.PtOk Fu.px Fu.py at hp0 hp1
   unfold Fu.px Fu.py at hp2
   refine AW.draw (J0 := St ⟨w, Φ, []⟩ Φ []) [.q, .q, .q, .q, .q, .q, .q, .q, .q, .q, .q, .q, .q, .q, .q, .q, .q, .q, .q, .q, .q, .q, .q, .q, .q, .q, .q, .q] [0, 1, 2, 3, 4, 5, 6, 7, 8, 9, 10, 11, 12, 13, 14, 15, 16, 17, 18, 19, 20, 21, 22, 23, 24, 25, 26, 27] hmix (by kernel_rfl) ?_
   refine g3 ?_
   refine DW.q (v := .pointer (some (Value.at sv1 ((n + 1) * 2)))) (fun _ h => h) rfl (q_indexAddr rfl rfl hsv1.sl uT60 sz82 (by omega) (by omega) rfl) ?_
   refine g1 ?_
   refine DW.q (v := iV (((css.getD k []).getD (n + 1) default).Y)) (fun _ h => h) rfl (q_load rfl uT3 rfl (Cell.repE (j := 1) hsv1 (by omega) rfl)) ?_
   refine g2 ?_
   refine DW.q (v := iV (n : Int)) (fun _ h => h) rfl (q_as (v := iV (((n + 1 : Nat) : Int) - 1)) (q_sub rfl rfl (by omega) (by unfold I64; omega)) (congrArg (Value.int .i64) ((by omega)))) (DW.q (v := .pointer (some (Value.at sv1 (n * 2)))) (fun _ h => h) rfl (q_indexAddr rfl rfl hsv1.sl uT60 sz82 (by omega) (by omega) rfl) ?_)
   refine g1 ?_
   refine DW.q (v := iV (((css.getD k []).getD n default).Y)) (fun _ h => h) rfl (q_load rfl uT3 rfl (Cell.repE (j := 1) hsv1 (by omega) rfl)) ?_
   refine g3 ?_
   refine DW.q (v := .pointer (some (Value.at sv1 ((n + 1) * 2)))) (fun _ h => h) rfl (q_indexAddr rfl rfl hsv1.sl uT60 sz82 (by omega) (by omega) rfl) ?_
   refine g1 ?_
   refine DW.q (v := iV (((css.getD k []).getD (n + 1) default).X)) (fun _ h => h) rfl (q_load rfl uT3 rfl (Cell.repE (j := 0) hsv1 (by omega) rfl)) ?_
   refine g2 ?_
   refine DW.q (v := iV (n : Int)) (fun _ h => h) rfl (q_as (v := iV (((n + 1 : Nat) : Int) - 1)) (q_sub rfl rfl (by omega) (by unfold I64; omega)) (congrArg (Value.int .i64) ((by omega)))) (DW.q (v := .pointer (some (Value.at sv1 (n * 2)))) (fun _ h => h) rfl (q_indexAddr rfl rfl hsv1.sl uT60 sz82 (by omega) (by omega) rfl) ?_)
   refine g1 ?_
   refine DW.q (v := iV (((css.getD k []).getD n default).X)) (fun _ h => h) rfl (q_load rfl uT3 rfl (Cell.repE (j := 0) hsv1 (by omega) rfl)) ?_
   refine g1 ?_
   refine DW.q (v := iV (Ba.slope ((((css.getD k []).getD (n + 1) default).Y) - (((css.getD k []).getD n default).Y)) ((((css.getD k []).getD (n + 1) default).X) - (((css.getD k []).getD n default).X)))) (fun _ h => h) rfl (q_call (args := #[iV ((((css.getD k []).getD (n + 1) default).Y) - (((css.getD k []).getD n default).Y)), iV ((((css.getD k []).getD (n + 1) default).X) - (((css.getD k []).getD n default).X))]) own88 rfl rfl (fun w1 hw1 => slope_c w1 (Go.K.hp w1) (Hp.le_refl _) (by omega) (by omega))) ?_
   refine g10 ?_
   exact Post.back (s' := _) (J' := _) (m' := _) (by omega) ⟨n + 1, _, rfl, rfl, rfl, (by omega), (by rw [ht]; rfl)⟩ ⟨rfl, rfl, rfl, rfl, rfl, rfl, trivial⟩ (fun _ h => h)
  ·
   simp [-List.getD_eq_getElem?_getD] at hc2
   refine g10 ?_
   exact Post.back (s' := _) (J' := _) (m' := _) (by omega) ⟨k + 1, t, rfl, rfl, rfl, (by omega), (by rw [ht, show n = (css.getD k []).length - 1 by omega]; exact Ba.stAll_snoc css (by omega) hu)⟩ ⟨rfl, rfl, rfl, rfl, trivial⟩ (fun _ h => h)
 ·
  simp [-List.getD_eq_getElem?_getD] at hc1
  refine g12 ?_
  exact fin_val (v' := iV u) rfl rfl rfl (by rw [hu, List.take_of_length_le (by omega)])
def nmBad0 (x : ByteArray) : Bool := (((((decide ((x.data.toList.length : Int) < 1)) || (decide ((24 : Int) < (x.data.toList.length : Int)))) || (decide (x.data.toList = ([111, 117, 116] : List UInt8)))) || (decide ((((x.data.toList.getD 0 0).toNat : Nat) : Int) < ((97 : Nat) : Int)))) || (decide (((122 : Nat) : Int) < (((x.data.toList.getD 0 0).toNat : Nat) : Int))))
def nmBad (x : ByteArray) (k : Nat) : Bool := ((((decide ((((x.data.toList.getD k 0).toNat : Nat) : Int) < ((97 : Nat) : Int))) || (decide (((122 : Nat) : Int) < (((x.data.toList.getD k 0).toNat : Nat) : Int)))) && ((decide ((((x.data.toList.getD k 0).toNat : Nat) : Int) < ((48 : Nat) : Int))) || (decide (((57 : Nat) : Int) < (((x.data.toList.getD k 0).toNat : Nat) : Int))))) && (!decide ((((x.data.toList.getD k 0).toNat : Nat) : Int) = ((95 : Nat) : Int))))
def isNm (x : ByteArray) : Bool := !nmBad0 x && decide (∀ j, j < x.data.toList.length → 1 ≤ j → nmBad x j = false)
theorem isName_c (w : World) (Φ : Hp) (hΦ : Hp.le Φ (hp w)) {x : ByteArray} (hx : x.size ≤ maxLen) :
  Calls Try.prog 101 #[.string x] w fun e w' => e = .returned (.bool (isNm x)) ∧ Bel w.heap.size w w' := by
 refine calls_of_AW (args := [.string x]) Try.func101 rfl (Nat.le_of_ble_eq_true rfl) (St ⟨w, Φ, []⟩ Φ []) (StP.init w Φ hΦ []) ?_
 show AW Try.prog 54 [] _ _ _ [(0, .string x)] _
 have hxl : x.data.toList.length ≤ 9223372036854775807 := hx
 refine g9 ?_
 refine RW.q (v := iV (x.data.toList.length : Int)) rfl (q_lenS (l := x.data.toList) rfl uT9) ?_
 refine g3 ?_
 refine RW.g (b := (decide ((x.data.toList.length : Int) < 1))) (v := iV (x.data.toList.length : Int)) rfl rfl rfl (fun h => q_lenS (l := x.data.toList) (gv_pos h) uT9) ?_
 refine g1 ?_
 obtain ⟨qb1, hqb1⟩ : ∃ z : Bool, ((decide ((x.data.toList.length : Int) < 1)) || (decide ((24 : Int) < (x.data.toList.length : Int)))) = z := ⟨_, rfl⟩
 refine RW.q (v := .bool qb1) rfl (q_as (v := .bool ((decide ((x.data.toList.length : Int) < 1)) || (decide ((24 : Int) < (x.data.toList.length : Int))))) (q_pick rfl (fun hp => pkOrT hp) (fun hp => (gv_pos hp).trans (pkOrF hp))) (congrArg Value.bool hqb1)) ?_
 refine g2 ?_
 refine RW.g (b := qb1) (v := .bool (decide (x.data.toList = ([111, 117, 116] : List UInt8)))) rfl rfl rfl (fun h => q_eqlStr (l := x.data.toList) (r := ([111, 117, 116] : List UInt8)) (gv_pos h) rfl) ?_
 obtain ⟨qb2, hqb2⟩ : ∃ z : Bool, (qb1 || (decide (x.data.toList = ([111, 117, 116] : List UInt8)))) = z := ⟨_, rfl⟩
 refine RW.q (v := .bool qb2) rfl (q_as (v := .bool (qb1 || (decide (x.data.toList = ([111, 117, 116] : List UInt8))))) (q_pick rfl (fun hp => pkOrT hp) (fun hp => (gv_pos hp).trans (pkOrF hp))) (congrArg Value.bool hqb2)) ?_
 refine g2 ?_
 refine RW.g (b := qb2) (v := .int .u8 (((x.data.toList.getD 0 0).toNat : Nat) : Int)) rfl rfl rfl (fun h => q_indexS (l := x.data.toList) (i := 0) (gv_pos h) rfl uT9 (by subst hqb2 hqb1; (try simp [-List.getD_eq_getElem?_getD, -Array.length_toList] at h); omega) (by subst hqb2 hqb1; (try simp [-List.getD_eq_getElem?_getD, -Array.length_toList] at h); omega)) ?_
 refine RW.g (b := qb2) (v := .bool (decide ((((x.data.toList.getD 0 0).toNat : Nat) : Int) < ((97 : Nat) : Int)))) rfl rfl rfl (fun h => q_lss (a := (((x.data.toList.getD 0 0).toNat : Nat) : Int)) (b := ((97 : Nat) : Int)) (gv_pos h) rfl) ?_
 obtain ⟨qb3, hqb3⟩ : ∃ z : Bool, (qb2 || (decide ((((x.data.toList.getD 0 0).toNat : Nat) : Int) < ((97 : Nat) : Int)))) = z := ⟨_, rfl⟩
 refine RW.q (v := .bool qb3) rfl (q_as (v := .bool (qb2 || (decide ((((x.data.toList.getD 0 0).toNat : Nat) : Int) < ((97 : Nat) : Int))))) (q_pick rfl (fun hp => pkOrT hp) (fun hp => (gv_pos hp).trans (pkOrF hp))) (congrArg Value.bool hqb3)) ?_
 refine g2 ?_
 refine RW.g (b := qb3) (v := .int .u8 (((x.data.toList.getD 0 0).toNat : Nat) : Int)) rfl rfl rfl (fun h => q_indexS (l := x.data.toList) (i := 0) (gv_pos h) rfl uT9 (by subst hqb3 hqb2 hqb1; (try simp [-List.getD_eq_getElem?_getD, -Array.length_toList] at h); omega) (by subst hqb3 hqb2 hqb1; (try simp [-List.getD_eq_getElem?_getD, -Array.length_toList] at h); omega)) ?_
 refine RW.g (b := qb3) (v := .bool (decide (((122 : Nat) : Int) < (((x.data.toList.getD 0 0).toNat : Nat) : Int)))) rfl rfl rfl (fun h => q_gtr (a := (((x.data.toList.getD 0 0).toNat : Nat) : Int)) (b := ((122 : Nat) : Int)) (gv_pos h) rfl) ?_
 obtain ⟨qb4, hqb4⟩ : ∃ z : Bool, (qb3 || (decide (((122 : Nat) : Int) < (((x.data.toList.getD 0 0).toNat : Nat) : Int)))) = z := ⟨_, rfl⟩
 refine RW.q (v := .bool qb4) rfl (q_as (v := .bool (qb3 || (decide (((122 : Nat) : Int) < (((x.data.toList.getD 0 0).toNat : Nat) : Int))))) (q_pick rfl (fun hp => pkOrT hp) (fun hp => (gv_pos hp).trans (pkOrF hp))) (congrArg Value.bool hqb4)) ?_
 subst hqb4 hqb3 hqb2 hqb1
 refine g2 ?_
 refine AW.cond rfl (fun hc1 => ?_) fun hc1 => ?_
 ·
  refine g7 ?_
  exact fin_val (v' := .bool false) rfl rfl rfl (by unfold isNm; rw [show nmBad0 x = true from hc1]; rfl)
 ·
  refine g9 ?_
  refine AW.loop (fun s J m => ∃ (k : Nat), s = [(0, .string x), (3, iV (k : Int))] ∧ J = St ⟨w, Φ, []⟩ Φ [] ∧ m = x.data.toList.length - k ∧ (1 ≤ k) ∧ (∀ j, j < k → 1 ≤ j → nmBad x j = false)) (s0 := _) (J1 := _) (m0 := _) ⟨1, rfl, rfl, rfl, (by omega), (fun j hj h1 => absurd h1 (by omega))⟩ ⟨rfl, rfl, trivial⟩ (fun _ h => h) ?_
  rintro _ _ _ _ ⟨k, rfl, rfl, rfl, hk, hall⟩
  refine g5 ?_
  refine RW.q (v := iV (x.data.toList.length : Int)) rfl (q_lenS (l := x.data.toList) rfl uT9) ?_
  refine g3 ?_
  refine AW.cond rfl (fun hc2 => ?_) fun hc2 => ?_
  ·
   simp [-List.getD_eq_getElem?_getD, -Array.length_toList] at hc2
   refine g8 ?_
   refine RW.q (v := .int .u8 (((x.data.toList.getD k 0).toNat : Nat) : Int)) rfl (q_indexS (l := x.data.toList) (i := (k : Int)) rfl rfl uT9 (by omega) (by omega)) ?_
   refine g6 ?_
   refine RW.q (v := .bool (decide ((((x.data.toList.getD k 0).toNat : Nat) : Int) < ((97 : Nat) : Int)))) rfl (q_lss (a := (((x.data.toList.getD k 0).toNat : Nat) : Int)) (b := ((97 : Nat) : Int)) rfl rfl) ?_
   refine g2 ?_
   refine RW.g (b := (decide ((((x.data.toList.getD k 0).toNat : Nat) : Int) < ((97 : Nat) : Int)))) (v := .bool (decide (((122 : Nat) : Int) < (((x.data.toList.getD k 0).toNat : Nat) : Int)))) rfl rfl rfl (fun h => q_gtr (a := (((x.data.toList.getD k 0).toNat : Nat) : Int)) (b := ((122 : Nat) : Int)) (gv_pos h) rfl) ?_
   obtain ⟨qb5, hqb5⟩ : ∃ z : Bool, ((decide ((((x.data.toList.getD k 0).toNat : Nat) : Int) < ((97 : Nat) : Int))) || (decide (((122 : Nat) : Int) < (((x.data.toList.getD k 0).toNat : Nat) : Int)))) = z := ⟨_, rfl⟩
   refine RW.q (v := .bool qb5) rfl (q_as (v := .bool ((decide ((((x.data.toList.getD k 0).toNat : Nat) : Int) < ((97 : Nat) : Int))) || (decide (((122 : Nat) : Int) < (((x.data.toList.getD k 0).toNat : Nat) : Int))))) (q_pick rfl (fun hp => pkOrT hp) (fun hp => (gv_pos hp).trans (pkOrF hp))) (congrArg Value.bool hqb5)) ?_
   refine g2 ?_
   refine RW.g (b := qb5) (v := .bool (decide ((((x.data.toList.getD k 0).toNat : Nat) : Int) < ((48 : Nat) : Int)))) rfl rfl rfl (fun h => q_lss (a := (((x.data.toList.getD k 0).toNat : Nat) : Int)) (b := ((48 : Nat) : Int)) (gv_pos h) rfl) (RW.g (b := qb5) (v := .bool (decide ((((x.data.toList.getD k 0).toNat : Nat) : Int) < ((48 : Nat) : Int)))) rfl rfl rfl (fun h => q_move (gv_pos h)) (RW.g2 (b1 := qb5) (b2 := (decide ((((x.data.toList.getD k 0).toNat : Nat) : Int) < ((48 : Nat) : Int)))) (v := .int .u8 (((x.data.toList.getD k 0).toNat : Nat) : Int)) rfl rfl rfl (fun hg1 hg2 => q_move rfl) (RW.g2 (b1 := qb5) (b2 := (decide ((((x.data.toList.getD k 0).toNat : Nat) : Int) < ((48 : Nat) : Int)))) (v := .bool (decide (((57 : Nat) : Int) < (((x.data.toList.getD k 0).toNat : Nat) : Int)))) rfl rfl rfl (fun hg1 hg2 => q_gtr (a := (((x.data.toList.getD k 0).toNat : Nat) : Int)) (b := ((57 : Nat) : Int)) ((gv_pos hg1).trans (gv_pos hg2)) rfl) ?_)))
   obtain ⟨qb6, hqb6⟩ : ∃ z : Bool, ((decide ((((x.data.toList.getD k 0).toNat : Nat) : Int) < ((48 : Nat) : Int))) || (decide (((57 : Nat) : Int) < (((x.data.toList.getD k 0).toNat : Nat) : Int)))) = z := ⟨_, rfl⟩
   refine RW.g (b := qb5) (v := .bool qb6) rfl rfl rfl (fun h => q_as (v := .bool ((decide ((((x.data.toList.getD k 0).toNat : Nat) : Int) < ((48 : Nat) : Int))) || (decide (((57 : Nat) : Int) < (((x.data.toList.getD k 0).toNat : Nat) : Int))))) (q_pick (gv_pos h) (fun hp => pkOrT hp) (fun hp => (gv_pos h).trans ((gv_pos hp).trans (pkOrF hp)))) (congrArg Value.bool hqb6)) (RW.q (v := .bool (qb5 && qb6)) rfl (q_pick rfl (fun hp => (gv_pos hp).trans (pkAndT hp)) (fun hp => pkAndF hp)) ?_)
   refine g2 ?_
   refine RW.g (b := (qb5 && qb6)) (v := .bool (!decide ((((x.data.toList.getD k 0).toNat : Nat) : Int) = ((95 : Nat) : Int)))) rfl rfl rfl (fun h => q_neq (a := (((x.data.toList.getD k 0).toNat : Nat) : Int)) (b := ((95 : Nat) : Int)) (gv_pos h) rfl) ?_
   obtain ⟨qb7, hqb7⟩ : ∃ z : Bool, ((qb5 && qb6) && (!decide ((((x.data.toList.getD k 0).toNat : Nat) : Int) = ((95 : Nat) : Int)))) = z := ⟨_, rfl⟩
   refine RW.q (v := .bool qb7) rfl (q_as (v := .bool ((qb5 && qb6) && (!decide ((((x.data.toList.getD k 0).toNat : Nat) : Int) = ((95 : Nat) : Int))))) (q_pick rfl (fun hp => (gv_pos hp).trans (pkAndT hp)) (fun hp => pkAndF hp)) (congrArg Value.bool hqb7)) ?_
   subst hqb7 hqb6 hqb5
   refine g2 ?_
   refine AW.cond rfl (fun hc3 => ?_) fun hc3 => ?_
   ·
    refine g11 ?_
    exact fin_val (v' := .bool false) rfl rfl rfl (by unfold isNm; rw [decide_eq_false (fun h9 => Bool.noConfusion ((h9 k (by omega) (by omega)).symm.trans hc3)), Bool.and_false])
   ·
    refine g8 ?_
    exact Post.back (s' := _) (J' := _) (m' := _) (by omega) ⟨k + 1, rfl, rfl, rfl, (by omega), (Fu.lt_succ hall (fun _ => hc3))⟩ ⟨rfl, rfl, trivial⟩ (fun _ h => h)
  ·
   simp [-List.getD_eq_getElem?_getD, -Array.length_toList] at hc2
   refine g11 ?_
   exact fin_val (v' := .bool true) rfl rfl rfl (by unfold isNm; rw [show nmBad0 x = false from hc1, decide_eq_true (fun j hj h1 => hall j (by omega) h1)]; rfl)
def grpB (s : ByteArray) : ByteArray := if s.data.toList = [115, 104, 101, 108, 116, 101, 114] then (bs [116, 111, 119, 110]) else s
def frsB (M : Ba.Mk → Option Bool) (s n : ByteArray) : Bool := !((!(isNm n)) || (M (grpB s, n)).getD false)
def putB (M : Ba.Mk → Option Bool) (s n : ByteArray) : Ba.Mk → Option Bool := if frsB M s n = true then fun j => if j = (grpB s, n) then some true else M j else M
theorem fresh_c {B : Bs} {Φ : Hp} {C : List Chunk} (hBE : B.E = []) {bm : Nat} {M : Ba.Mk → Option Bool} {s n : ByteArray} (hs : s.size ≤ maxLen) (hn : n.size ≤ maxLen) (w : World) (hW : (St B Φ (.kmap kMark Value.bool bm M :: C)).p w) :
  Calls Try.prog 81 #[.map (some bm), .string s, .string n] w fun e w' => ∃ x : Unit, e = .returned (.bool (frsB M s n)) ∧ (St B Φ (.kmap kMark Value.bool bm (putB M s n) :: C)).p w' := by
 refine calls_of_AW (args := [.map (some bm), .string s, .string n]) Try.func81 rfl (Nat.le_of_ble_eq_true rfl) (St B Φ ((.kmap kMark Value.bool bm (M)) :: C)) hW ?_
 show AW Try.prog 23 [] _ _ _ [(0, .map (some bm)), (1, .string s), (2, .string n)] _
 refine g9 ?_
 refine RW.q (v := .bool (decide (s.data.toList = ([115, 104, 101, 108, 116, 101, 114] : List UInt8)))) rfl (q_eqlStr (l := s.data.toList) (r := ([115, 104, 101, 108, 116, 101, 114] : List UInt8)) rfl rfl) ?_
 refine g2 ?_
 refine AW.cond rfl (fun hc1 => ?_) fun hc1 => ?_
 ·
  simp [-List.getD_eq_getElem?_getD] at hc1
  refine g8 ?_
  refine RW.q (v := .agg #[.string (bs ([116, 111, 119, 110] : List UInt8)), .string n]) rfl (q_build (vals := [(0, .string (bs ([116, 111, 119, 110] : List UInt8))), (1, .string n)]) zero164 uT164 places164 rfl rfl) (RW.eff (fun b1 : Nat => pV b1 0) (fun b1 => St B Φ ((.blk b1 164 [.string (bs ([])), .string (bs ([]))]) :: (.kmap kMark Value.bool bm (M)) :: C)) rfl (e_alloc zero164) ?_)
  intro b1
  refine RW.effn (J' := St B Φ ((.blk b1 164 [.string (bs ([116, 111, 119, 110] : List UInt8)), .string n]) :: (.kmap kMark Value.bool bm (M)) :: C)) (e_store (v := .agg #[.string (bs ([116, 111, 119, 110] : List UInt8)), .string n]) 0 rfl rfl rfl sz164 rfl rfl rfl rfl rfl) ?_
  refine g4 ?_
  have hkg : kMark.good ((bs ([116, 111, 119, 110] : List UInt8)), n) := ⟨(by show (4 : Nat) ≤ maxLen; decide), hn⟩
  refine g2 ?_
  refine RW.q (v := .bool (isNm n)) rfl (q_call (args := #[.string n]) own101 rfl rfl (fun w1 hw1 => isName_c w1 (Go.K.hp w1) (Hp.le_refl _) hn)) (RW.q (v := .bool (!(isNm n))) rfl (q_not rfl) (RW.q (v := .bool (!(isNm n))) rfl (q_move rfl) (RW.g (b := (!(isNm n))) (v := .map (some bm)) rfl rfl rfl (fun h => q_move rfl) (RW.g (b := (!(isNm n))) (v := .agg #[.string (bs ([116, 111, 119, 110] : List UInt8)), .string n]) rfl rfl rfl (fun h => q_loadAgg rfl uT164 rfl sz164 rfl (Cells.blk 0 rfl)) (RW.g (b := (!(isNm n))) (v := .bool (((M) ((bs ([116, 111, 119, 110] : List UInt8)), n)).getD false)) rfl rfl rfl (fun h => q_kLook1 (L := kMark) (ew := Value.bool) (M := M) (k := ((bs ([116, 111, 119, 110] : List UInt8)), n)) (d := false) 1 rfl (gv_pos h) (gv_pos h) (by assumption) uT126 zero4) ?_)))))
  obtain ⟨qb1, hqb1⟩ : ∃ z : Bool, ((!(isNm n)) || (((M) ((bs ([116, 111, 119, 110] : List UInt8)), n)).getD false)) = z := ⟨_, rfl⟩
  refine RW.q (v := .bool qb1) rfl (q_as (v := .bool ((!(isNm n)) || (((M) ((bs ([116, 111, 119, 110] : List UInt8)), n)).getD false))) (q_pick rfl (fun hp => pkOrT hp) (fun hp => (gv_pos hp).trans (pkOrF hp))) (congrArg Value.bool hqb1)) ?_
  subst hqb1
  refine g2 ?_
  refine AW.cond rfl (fun hc2 => ?_) fun hc2 => ?_
  ·
   refine g7 ?_
   have hdone : True := trivial
   have hgr : grpB s = (bs [116, 111, 119, 110]) := by unfold grpB; rw [if_pos hc1]
   have hfr : frsB M s n = false := by unfold frsB; rw [hgr]; exact congrArg (!·) hc2
   have hpu : putB M s n = M := by unfold putB; rw [hfr]; exact if_neg (by simp)
   refine fin_out1 (v := .bool false) rfl rfl rfl (fun w' hw => ⟨(), by rw [hfr], ?_⟩)
   rw [hpu]
   exact StP.drop hw (by exact .cons _ (.cons_cons _ ((List.Sublist.refl _))))
  ·
   refine AW.skip (Post.then_n (AW.seq (AW.region (RW.q (v := .map (some bm)) rfl (q_move rfl) (RW.q (v := .agg #[.string (bs ([116, 111, 119, 110] : List UInt8)), .string n]) rfl (q_loadAgg rfl uT164 rfl sz164 rfl (Cells.blk 0 rfl)) (RW.effn (J' := St B Φ ((.blk b1 164 [.string (bs ([116, 111, 119, 110] : List UInt8)), .string n]) :: (.kmap kMark Value.bool bm (fun j => if j = ((bs ([116, 111, 119, 110] : List UInt8)), n) then some true else (M) j)) :: C)) (e_kPut (L := kMark) (ew := Value.bool) (M := M) (k := ((bs ([116, 111, 119, 110] : List UInt8)), n)) (v := true) 1 rfl rfl rfl rfl (by assumption) uT126 rfl) ?_))))))
   refine g8 ?_
   have hdone : True := trivial
   have hgr : grpB s = (bs [116, 111, 119, 110]) := by unfold grpB; rw [if_pos hc1]
   have hfr : frsB M s n = true := by unfold frsB; rw [hgr]; exact congrArg (!·) hc2
   have hpu : putB M s n = fun j => if j = ((bs [116, 111, 119, 110]), n) then some true else M j := by unfold putB; rw [hfr, hgr, if_pos rfl]
   refine fin_out1 (v := .bool true) rfl rfl rfl (fun w' hw => ⟨(), by rw [hfr], ?_⟩)
   rw [hpu]
   exact StP.drop hw (by exact .cons _ (.cons_cons _ ((List.Sublist.refl _))))
 ·
  simp [-List.getD_eq_getElem?_getD] at hc1
  refine g6 ?_
  refine RW.q (v := .agg #[.string s, .string n]) rfl (q_build (vals := [(0, .string s), (1, .string n)]) zero164 uT164 places164 rfl rfl) (RW.eff (fun b2 : Nat => pV b2 0) (fun b2 => St B Φ ((.blk b2 164 [.string (bs ([])), .string (bs ([]))]) :: (.kmap kMark Value.bool bm (M)) :: C)) rfl (e_alloc zero164) ?_)
  intro b2
  refine RW.effn (J' := St B Φ ((.blk b2 164 [.string s, .string n]) :: (.kmap kMark Value.bool bm (M)) :: C)) (e_store (v := .agg #[.string s, .string n]) 0 rfl rfl rfl sz164 rfl rfl rfl rfl rfl) ?_
  refine g4 ?_
  have hkg : kMark.good (s, n) := ⟨hs, hn⟩
  refine g2 ?_
  refine RW.q (v := .bool (isNm n)) rfl (q_call (args := #[.string n]) own101 rfl rfl (fun w1 hw1 => isName_c w1 (Go.K.hp w1) (Hp.le_refl _) hn)) (RW.q (v := .bool (!(isNm n))) rfl (q_not rfl) (RW.q (v := .bool (!(isNm n))) rfl (q_move rfl) (RW.g (b := (!(isNm n))) (v := .map (some bm)) rfl rfl rfl (fun h => q_move rfl) (RW.g (b := (!(isNm n))) (v := .agg #[.string s, .string n]) rfl rfl rfl (fun h => q_loadAgg rfl uT164 rfl sz164 rfl (Cells.blk 0 rfl)) (RW.g (b := (!(isNm n))) (v := .bool (((M) (s, n)).getD false)) rfl rfl rfl (fun h => q_kLook1 (L := kMark) (ew := Value.bool) (M := M) (k := (s, n)) (d := false) 1 rfl (gv_pos h) (gv_pos h) (by assumption) uT126 zero4) ?_)))))
  obtain ⟨qb2, hqb2⟩ : ∃ z : Bool, ((!(isNm n)) || (((M) (s, n)).getD false)) = z := ⟨_, rfl⟩
  refine RW.q (v := .bool qb2) rfl (q_as (v := .bool ((!(isNm n)) || (((M) (s, n)).getD false))) (q_pick rfl (fun hp => pkOrT hp) (fun hp => (gv_pos hp).trans (pkOrF hp))) (congrArg Value.bool hqb2)) ?_
  subst hqb2
  refine g2 ?_
  refine AW.cond rfl (fun hc3 => ?_) fun hc3 => ?_
  ·
   refine g7 ?_
   have hdone : True := trivial
   have hgr : grpB s = s := by unfold grpB; rw [if_neg hc1]
   have hfr : frsB M s n = false := by unfold frsB; rw [hgr]; exact congrArg (!·) hc3
   have hpu : putB M s n = M := by unfold putB; rw [hfr]; exact if_neg (by simp)
   refine fin_out1 (v := .bool false) rfl rfl rfl (fun w' hw => ⟨(), by rw [hfr], ?_⟩)
   rw [hpu]
   exact StP.drop hw (by exact .cons _ (.cons_cons _ ((List.Sublist.refl _))))
  ·
   refine AW.skip (Post.then_n (AW.seq (AW.region (RW.q (v := .map (some bm)) rfl (q_move rfl) (RW.q (v := .agg #[.string s, .string n]) rfl (q_loadAgg rfl uT164 rfl sz164 rfl (Cells.blk 0 rfl)) (RW.effn (J' := St B Φ ((.blk b2 164 [.string s, .string n]) :: (.kmap kMark Value.bool bm (fun j => if j = (s, n) then some true else (M) j)) :: C)) (e_kPut (L := kMark) (ew := Value.bool) (M := M) (k := (s, n)) (v := true) 1 rfl rfl rfl rfl (by assumption) uT126 rfl) ?_))))))
   refine g8 ?_
   have hdone : True := trivial
   have hgr : grpB s = s := by unfold grpB; rw [if_neg hc1]
   have hfr : frsB M s n = true := by unfold frsB; rw [hgr]; exact congrArg (!·) hc3
   have hpu : putB M s n = fun j => if j = (s, n) then some true else M j := by unfold putB; rw [hfr, hgr, if_pos rfl]
   refine fin_out1 (v := .bool true) rfl rfl rfl (fun w' hw => ⟨(), by rw [hfr], ?_⟩)
   rw [hpu]
   exact StP.drop hw (by exact .cons _ (.cons_cons _ ((List.Sublist.refl _))))
theorem check_c {B : Bs} {Φ : Hp} {C : List Chunk} (hBE : B.E = []) {bo bq : Nat} {t : Bool} {bm : Nat} {M : Ba.Mk → Option Bool} {s n : ByteArray} (hs : s.size ≤ maxLen) (hn : n.size ≤ maxLen) (w : World) (hW : (St B Φ ((.blk bo 4 [.bool t]) :: (.blk bq 126 [.map (some bm)]) :: (.kmap kMark Value.bool bm (M)) :: C)).p w) :
  Calls Try.prog 80 #[.string s, .string n, pV bq 0, pV bo 0] w fun e w' => ∃ x : Unit, e = .returned (.tuple #[]) ∧ (St B Φ ((.blk bo 4 [.bool (frsB M s n && t)]) :: (.blk bq 126 [.map (some bm)]) :: (.kmap kMark Value.bool bm (putB M s n)) :: C)).p w' := by
 refine calls_of_AW (args := [.string s, .string n, pV bq 0, pV bo 0]) Try.func80 rfl (Nat.le_of_ble_eq_true rfl) (St B Φ ((.blk bo 4 [.bool t]) :: (.blk bq 126 [.map (some bm)]) :: (.kmap kMark Value.bool bm (M)) :: C)) hW ?_
 show AW Try.prog 13 [] _ _ _ [(0, .string s), (1, .string n), (2, pV bq 0), (3, pV bo 0)] _
 refine g4 ?_
 refine RW.eff (fun u1 : Unit => .bool (frsB M s n)) (fun u1 => St B Φ ((.blk bo 4 [.bool t]) :: (.blk bq 126 [.map (some bm)]) :: (.kmap kMark Value.bool bm (putB M s n)) :: C)) rfl (e_call (args := #[.map (some bm), .string s, .string n]) own81 rfl rfl (fun w1 hw1 => (fresh_c (C := ((.blk bo 4 [.bool t]) :: (.blk bq 126 [.map (some bm)]) :: C)) hBE (by assumption) (by assumption) w1 (hw1.perm (List.perm_middle (a := (.kmap kMark Value.bool bm (M) : Chunk)) (l₁ := ([.blk bo 4 [.bool t], .blk bq 126 [.map (some bm)]] : List Chunk)) (l₂ := (C : List Chunk))).symm)).mono fun e w2 ⟨x, he, hp⟩ => ⟨x, he, hp.perm (List.perm_middle (a := (.kmap kMark Value.bool bm (putB M s n) : Chunk)) (l₁ := ([.blk bo 4 [.bool t], .blk bq 126 [.map (some bm)]] : List Chunk)) (l₂ := (C : List Chunk)))⟩)) ?_
 intro u1
 refine g2 ?_
 refine RW.q (v := .bool ((frsB M s n) && t)) rfl (q_pick rfl (fun hp => (gv_pos hp).trans (pkAndT hp)) (fun hp => pkAndF hp)) ?_
 refine g2 ?_
 exact fin_none rfl rfl (fun _ h => h) (fun w' hw => ⟨(), rfl, hw⟩)
end Go.Proofs.Ytblfeidlnhdekaa
