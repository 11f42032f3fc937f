/- Lemmas. Conditions: those of each theorem. -/
import Derived.Test.YtpeojogjeopfaaaKKeyBa
set_option maxRecDepth 8000
set_option maxHeartbeats 16000000
namespace Go.Proofs.Ytpeojogjeopfaaa
open Go Go.K Go.RowKit
theorem steepest_c (w : World) (Φ : Hp) (hΦ : Hp.le Φ (hp w)) {css : List (List Bt.Point)} {v1 : Value} (h1 : RepSl Φ css v1) (hR : ∀ c ∈ css, Fu.RightC c) :
  Calls pg 65 #[v1] w fun e w' => e = .returned (iV (Ba.stAll css)) ∧ Bel w.heap.size w w' := by
 refine calls_of_AW (args := [v1]) Try.func65 rfl (lBT rfl) (St ⟨w, Φ, []⟩ Φ []) (StP.init w Φ hΦ []) ?_
 show AW pg 48 [] _ _ _ [(0, v1)] _
 have hm1 : css.length * 24 ≤ 140737488355328 := h1.max
 refine AW.seq (AW.region (RW.q (v := iV 0) rfl (q_assign rfl) (RW.nil (Post.then_n (AW.seq (AW.region (RW.q (v := iV 0) rfl (q_assign rfl) (RW.nil (Post.then_n ?_)))))))))
 refine AW.seq (AW.seq (AW.region (RW.q rfl (q_move rfl) (RW.q (v := iV (css.length : Int)) rfl (q_len_sl rfl h1.sl uT124) (RW.q rfl (q_move rfl) (RW.nil (Post.then_n (AW.block (AW.loop (fun s J m => ∃ (k : Nat), ∃ (u : Int), s = [(7, v1), (8, iV (css.length : Int)), (3, iV u), (9, iV (k : Int))] ∧ J = St ⟨w, Φ, []⟩ Φ [] ∧ m = css.length - k ∧ (k ≤ css.length) ∧ (u = Ba.stAll (css.take k))) (s0 := _) (J1 := _) (m0 := _) ⟨0, 0, rfl, rfl, rfl, (by omega), rfl⟩ ⟨rfl, rfl, rfl, rfl, trivial⟩ (fun _ h => h) ?_)))))))))
 rintro _ _ _ _ ⟨k, u, rfl, rfl, rfl, hk, hu⟩
 refine AW.seq (AW.region (RW.q (v := .bool (decide ((k : Int) < (css.length : Int)))) rfl (q_lss rfl rfl) (RW.nil (Post.then_n (AW.seq (AW.cond (b := decide ((k : Int) < (css.length : Int))) rfl (fun hc1 => ?_) (fun hc1 => ?_)))))))
 ·
  simp [-List.getD_eq_getElem?_getD] at hc1
  refine AW.skip (Post.then_n (AW.seq (AW.block (AW.seq ?_))))
  have hRk : Fu.RightC (css.getD k []) := hR _ (by rw [gDD, List.getElem?_eq_getElem (show k < css.length by omega)]; exact List.getElem_mem _)
  have hl1 := hRk.1
  refine AW.region (RW.q (v := .pointer (some (Value.at v1 (k * 1)))) rfl (q_indexAddr rfl rfl h1.sl uT124 sz59 (by omega) (by omega) rfl) ?_)
  obtain ⟨sv1, hsv1, hpc1⟩ := h1.sub (k := k) (by omega)
  refine RW.q (v := sv1) rfl (q_load rfl uT59 rfl (Cell.phi hpc1)) (RW.q (v := sv1) rfl (q_assign rfl) (RW.nil (Post.then_n (AW.seq (AW.region (RW.q (v := iV 1) rfl (q_assign rfl) (RW.nil (Post.then_n (AW.block ?_)))))))))
  refine AW.loop (fun s J m => ∃ (n : Nat), ∃ (t : Int), s = [(5, sv1), (7, v1), (8, iV (css.length : Int)), (9, iV (k : Int)), (3, iV t), (6, iV ((n + 1 : Nat) : Int))] ∧ J = St ⟨w, Φ, []⟩ Φ [] ∧ m = (css.getD k []).length - n ∧ (n + 1 ≤ (css.getD k []).length) ∧ (t = Ba.stTo u (css.getD k []) n)) (s0 := _) (J1 := _) (m0 := _) ⟨0, u, rfl, rfl, rfl, (by omega), rfl⟩ ⟨rfl, rfl, rfl, rfl, rfl, rfl, trivial⟩ (fun _ h => h) ?_
  rintro _ _ _ _ ⟨n, t, rfl, rfl, rfl, hn, ht⟩
  refine AW.seq (AW.seq (AW.region (RW.q rfl (q_move rfl) (RW.q rfl (q_move rfl) (RW.q (v := iV (((css.getD k []).length : Nat) : Int)) rfl (q_len_sl rfl hsv1.sl uT59) (RW.q (v := .bool (decide (((n + 1 : Nat) : Int) < (((css.getD k []).length : Nat) : Int)))) rfl (q_lss rfl rfl) (RW.nil (Post.then_n (AW.cond (b := decide (((n + 1 : Nat) : Int) < (((css.getD k []).length : Nat) : Int))) rfl (fun hc2 => ?_) (fun hc2 => ?_))))))))))
  ·
   simp [-List.getD_eq_getElem?_getD] at hc2
   refine AW.skip (Post.then_n (AW.seq (AW.block ?_)))
   have hp1 := hRk.pt (show n + 1 < (css.getD k []).length by omega)
   have hp0 := hRk.pt (show n < (css.getD k []).length by omega)
   have hp2 := hp1.2.2 (by omega)
   rw [Nat.add_sub_cancel] at hp2
   unfold Fu.PtOk Fu.px Fu.py at hp0 hp1
   unfold Fu.px Fu.py at hp2
   refine AW.draw (J0 := St ⟨w, Φ, []⟩ Φ []) [.q, .q, .q, .q, .q, .q, .q, .q, .q, .q, .q, .q, .q, .q, .q, .q, .q, .q, .q, .q, .q, .q, .q, .q, .q, .q, .q, .q] [0, 1, 2, 3, 4, 5, 6, 7, 8, 9, 10, 11, 12, 13, 14, 15, 16, 17, 18, 19, 20, 21, 22, 23, 24, 25, 26, 27] hmix (by kernel_rfl) (DW.q (fun _ h => h) rfl (q_move rfl) (DW.q (fun _ h => h) rfl (q_move rfl) (DW.q (fun _ h => h) rfl (q_move rfl) (DW.q (v := .pointer (some (Value.at sv1 ((n + 1) * 2)))) (fun _ h => h) rfl (q_indexAddr rfl rfl hsv1.sl uT59 sz122 (by omega) (by omega) rfl) (DW.q (v := .pointer (some (Value.at sv1 ((n + 1) * 2 + 1)))) (fun _ h => h) rfl (q_fieldAddr rfl uT122 rfl sz3 at_add) (DW.q (v := iV (((css.getD k []).getD (n + 1) default).Y)) (fun _ h => h) rfl (q_load rfl uT3 rfl (Cell.repE (j := 1) hsv1 (by omega) rfl)) (DW.q (fun _ h => h) rfl (q_move rfl) (DW.q (fun _ h => h) rfl (q_move rfl) (DW.q (v := iV (n : Int)) (fun _ h => h) rfl (q_as (v := iV (((n + 1 : Nat) : Int) - 1)) (q_sub rfl rfl (by omega) (by unfold I64; omega)) (congrArg (Value.int .i64) ((by omega)))) ?_)))))))))
   refine DW.q (v := .pointer (some (Value.at sv1 (n * 2)))) (fun _ h => h) rfl (q_indexAddr rfl rfl hsv1.sl uT59 sz122 (by omega) (by omega) rfl) (DW.q (v := .pointer (some (Value.at sv1 (n * 2 + 1)))) (fun _ h => h) rfl (q_fieldAddr rfl uT122 rfl sz3 at_add) (DW.q (v := iV (((css.getD k []).getD n default).Y)) (fun _ h => h) rfl (q_load rfl uT3 rfl (Cell.repE (j := 1) hsv1 (by omega) rfl)) (DW.q (v := iV ((((css.getD k []).getD (n + 1) default).Y) - (((css.getD k []).getD n default).Y))) (fun _ h => h) rfl (q_sub rfl rfl (by omega) (by unfold I64; omega)) (DW.q (fun _ h => h) rfl (q_move rfl) (DW.q (fun _ h => h) rfl (q_move rfl) (DW.q (v := .pointer (some (Value.at sv1 ((n + 1) * 2)))) (fun _ h => h) rfl (q_indexAddr rfl rfl hsv1.sl uT59 sz122 (by omega) (by omega) rfl) (DW.q (v := .pointer (some (Value.at sv1 ((n + 1) * 2 + 0)))) (fun _ h => h) rfl (q_fieldAddr rfl uT122 rfl sz3 at_add) (DW.q (v := iV (((css.getD k []).getD (n + 1) default).X)) (fun _ h => h) rfl (q_load rfl uT3 rfl (Cell.repE (j := 0) hsv1 (by omega) rfl)) (DW.q (fun _ h => h) rfl (q_move rfl) ?_)))))))))
   refine DW.q (fun _ h => h) rfl (q_move rfl) (DW.q (v := iV (n : Int)) (fun _ h => h) rfl (q_as (v := iV (((n + 1 : Nat) : Int) - 1)) (q_sub rfl rfl (by omega) (by unfold I64; omega)) (congrArg (Value.int .i64) ((by omega)))) (DW.q (v := .pointer (some (Value.at sv1 (n * 2)))) (fun _ h => h) rfl (q_indexAddr rfl rfl hsv1.sl uT59 sz122 (by omega) (by omega) rfl) (DW.q (v := .pointer (some (Value.at sv1 (n * 2 + 0)))) (fun _ h => h) rfl (q_fieldAddr rfl uT122 rfl sz3 at_add) (DW.q (v := iV (((css.getD k []).getD n default).X)) (fun _ h => h) rfl (q_load rfl uT3 rfl (Cell.repE (j := 0) hsv1 (by omega) rfl)) (DW.q (v := iV ((((css.getD k []).getD (n + 1) default).X) - (((css.getD k []).getD n default).X))) (fun _ h => h) rfl (q_sub rfl rfl (by omega) (by unfold I64; omega)) (DW.q (v := iV (Ba.slope ((((css.getD k []).getD (n + 1) default).Y) - (((css.getD k []).getD n default).Y)) ((((css.getD k []).getD (n + 1) default).X) - (((css.getD k []).getD n default).X)))) (fun _ h => h) rfl (q_call (args := #[iV ((((css.getD k []).getD (n + 1) default).Y) - (((css.getD k []).getD n default).Y)), iV ((((css.getD k []).getD (n + 1) default).X) - (((css.getD k []).getD n default).X))]) oK rfl rfl (fun w1 hw1 => slope_c w1 (Go.K.hp w1) (Hp.le_refl _) (by omega) (by omega))) (DW.q (v := iV (max t (Ba.slope ((((css.getD k []).getD (n + 1) default).Y) - (((css.getD k []).getD n default).Y)) ((((css.getD k []).getD (n + 1) default).X) - (((css.getD k []).getD n default).X))))) (fun _ h => h) rfl (q_max rfl rfl) (DW.q (v := iV (max t (Ba.slope ((((css.getD k []).getD (n + 1) default).Y) - (((css.getD k []).getD n default).Y)) ((((css.getD k []).getD (n + 1) default).X) - (((css.getD k []).getD n default).X))))) (fun _ h => h) rfl (q_assign rfl) (DW.nil ?_)))))))))
   refine Post.blk_n (Post.then_n ?_)
   refine AW.region (RW.q rfl (q_move rfl) (RW.q (v := iV ((n + 1 + 1 : Nat) : Int)) rfl (q_add rfl rfl (by omega) (by unfold I64; omega)) (RW.q (v := iV ((n + 1 + 1 : Nat) : Int)) rfl (q_assign rfl) (RW.nil ?_))))
   exact Post.back (s' := _) (J' := _) (m' := _) (by omega) ⟨n + 1, _, rfl, rfl, rfl, (by omega), (by rw [ht]; rfl)⟩ ⟨rfl, rfl, rfl, rfl, rfl, rfl, trivial⟩ (fun _ h => h)
  ·
   simp [-List.getD_eq_getElem?_getD] at hc2
   refine AW.exit (Post.then_x (Post.then_x (Post.blk_hit (Post.blk_n (Post.then_n ?_)))))
   refine AW.region (RW.q (v := iV ((k + 1 : Nat) : Int)) rfl (q_add rfl rfl (by omega) (by unfold I64; omega)) (RW.q rfl (q_move rfl) (RW.nil ?_)))
   exact Post.back (s' := _) (J' := _) (m' := _) (by omega) ⟨k + 1, t, rfl, rfl, rfl, (by omega), (by rw [ht, show n = (css.getD k []).length - 1 by omega]; exact Ba.stAll_snoc css (by omega) hu)⟩ ⟨rfl, rfl, rfl, rfl, trivial⟩ (fun _ h => h)
 ·
  simp [-List.getD_eq_getElem?_getD] at hc1
  refine AW.exit (Post.then_x (Post.then_x (Post.blk_hit (Post.then_n ?_))))
  refine AW.seq (AW.region (RW.q rfl (q_move rfl) (RW.q (v := iV u) rfl (q_assign rfl) (RW.nil (Post.then_n (AW.ret ?_))))))
  exact fin_val (v' := iV u) rfl rfl rfl (by rw [hu, List.take_of_length_le (by omega)])
def nmBad0 (x : ByteArray) : Bool := (((((decide ((x.data.toList.length : Int) < 1)) || (decide ((24 : Int) < (x.data.toList.length : Int)))) || (decide (x.data.toList = ([111, 117, 116] : List UInt8)))) || (decide ((((x.data.toList.getD 0 0).toNat : Nat) : Int) < ((97 : Nat) : Int)))) || (decide (((122 : Nat) : Int) < (((x.data.toList.getD 0 0).toNat : Nat) : Int))))
def nmBad (x : ByteArray) (k : Nat) : Bool := ((((decide ((((x.data.toList.getD k 0).toNat : Nat) : Int) < ((97 : Nat) : Int))) || (decide (((122 : Nat) : Int) < (((x.data.toList.getD k 0).toNat : Nat) : Int)))) && ((decide ((((x.data.toList.getD k 0).toNat : Nat) : Int) < ((48 : Nat) : Int))) || (decide (((57 : Nat) : Int) < (((x.data.toList.getD k 0).toNat : Nat) : Int))))) && (!decide ((((x.data.toList.getD k 0).toNat : Nat) : Int) = ((95 : Nat) : Int))))
def isNm (x : ByteArray) : Bool := !nmBad0 x && decide (∀ j, j < x.data.toList.length → 1 ≤ j → nmBad x j = false)
theorem isName_c (w : World) (Φ : Hp) (hΦ : Hp.le Φ (hp w)) {x : ByteArray} (hx : x.size ≤ maxLen) :
  Calls pg 73 #[.string x] w fun e w' => e = .returned (.bool (isNm x)) ∧ Bel w.heap.size w w' := by
 refine calls_of_AW (args := [.string x]) Try.func73 rfl (lBT rfl) (St ⟨w, Φ, []⟩ Φ []) (StP.init w Φ hΦ []) ?_
 show AW pg 54 [] _ _ _ [(0, .string x)] _
 have hxl : x.data.toList.length ≤ 9223372036854775807 := hx
 refine AW.seq (AW.region (RW.q (v := .bool false) rfl (q_assign rfl) (RW.nil (Post.then_n (AW.seq (AW.seq (AW.region (RW.q rfl (q_move rfl) (RW.q (v := iV (x.data.toList.length : Int)) rfl (q_lenS (l := x.data.toList) rfl uT9) ?_)))))))))
 refine RW.q (v := .bool (decide ((x.data.toList.length : Int) < 1))) rfl (q_lss rfl rfl) (RW.q rfl (q_move rfl) (RW.g (b := (decide ((x.data.toList.length : Int) < 1))) (v := .string x) rfl rfl rfl (fun h => q_move rfl) (RW.g (b := (decide ((x.data.toList.length : Int) < 1))) (v := iV (x.data.toList.length : Int)) rfl rfl rfl (fun h => q_lenS (l := x.data.toList) (gv_pos h) uT9) (RW.g (b := (decide ((x.data.toList.length : Int) < 1))) (v := .bool (decide ((24 : Int) < (x.data.toList.length : Int)))) rfl rfl rfl (fun h => q_gtr (gv_pos h) rfl) ?_))))
 obtain ⟨qb1, hqb1⟩ : ∃ qz : Bool, ((decide ((x.data.toList.length : Int) < 1)) || (decide ((24 : Int) < (x.data.toList.length : Int)))) = qz := ⟨_, rfl⟩
 refine RW.q (v := .bool qb1) rfl (q_as (v := .bool ((decide ((x.data.toList.length : Int) < 1)) || (decide ((24 : Int) < (x.data.toList.length : Int))))) (qpO rfl rfl rfl) (congrArg Value.bool hqb1)) (RW.q rfl (q_move rfl) (RW.g (b := qb1) (v := .string x) rfl rfl rfl (fun h => q_move rfl) (RW.g (b := qb1) (v := .bool (decide (x.data.toList = ([111, 117, 116] : List UInt8)))) rfl rfl rfl (fun h => q_eqlStr (l := x.data.toList) (r := ([111, 117, 116] : List UInt8)) (gv_pos h) rfl) ?_)))
 obtain ⟨qb2, hqb2⟩ : ∃ qz : Bool, (qb1 || (decide (x.data.toList = ([111, 117, 116] : List UInt8)))) = qz := ⟨_, rfl⟩
 refine RW.q (v := .bool qb2) rfl (q_as (v := .bool (qb1 || (decide (x.data.toList = ([111, 117, 116] : List UInt8))))) (qpO rfl rfl rfl) (congrArg Value.bool hqb2)) (RW.q rfl (q_move rfl) (RW.g (b := qb2) (v := .string x) rfl rfl rfl (fun h => q_move rfl) (RW.g (b := qb2) (v := .int .u8 (((x.data.toList.getD 0 0).toNat : Nat) : Int)) rfl rfl rfl (fun h => q_indexS (l := x.data.toList) (i := 0) (gv_pos h) rfl uT9 (by subst hqb2 hqb1; (try simp [-List.getD_eq_getElem?_getD, -Array.length_toList] at h); omega) (by subst hqb2 hqb1; (try simp [-List.getD_eq_getElem?_getD, -Array.length_toList] at h); omega)) ?_)))
 refine RW.g (b := qb2) (v := .bool (decide ((((x.data.toList.getD 0 0).toNat : Nat) : Int) < ((97 : Nat) : Int)))) rfl rfl rfl (fun h => q_lss (a := (((x.data.toList.getD 0 0).toNat : Nat) : Int)) (b := ((97 : Nat) : Int)) (gv_pos h) rfl) ?_
 obtain ⟨qb3, hqb3⟩ : ∃ qz : Bool, (qb2 || (decide ((((x.data.toList.getD 0 0).toNat : Nat) : Int) < ((97 : Nat) : Int)))) = qz := ⟨_, rfl⟩
 refine RW.q (v := .bool qb3) rfl (q_as (v := .bool (qb2 || (decide ((((x.data.toList.getD 0 0).toNat : Nat) : Int) < ((97 : Nat) : Int))))) (qpO rfl rfl rfl) (congrArg Value.bool hqb3)) (RW.q rfl (q_move rfl) (RW.g (b := qb3) (v := .string x) rfl rfl rfl (fun h => q_move rfl) (RW.g (b := qb3) (v := .int .u8 (((x.data.toList.getD 0 0).toNat : Nat) : Int)) rfl rfl rfl (fun h => q_indexS (l := x.data.toList) (i := 0) (gv_pos h) rfl uT9 (by subst hqb3 hqb2 hqb1; (try simp [-List.getD_eq_getElem?_getD, -Array.length_toList] at h); omega) (by subst hqb3 hqb2 hqb1; (try simp [-List.getD_eq_getElem?_getD, -Array.length_toList] at h); omega)) ?_)))
 refine RW.g (b := qb3) (v := .bool (decide (((122 : Nat) : Int) < (((x.data.toList.getD 0 0).toNat : Nat) : Int)))) rfl rfl rfl (fun h => q_gtr (a := (((x.data.toList.getD 0 0).toNat : Nat) : Int)) (b := ((122 : Nat) : Int)) (gv_pos h) rfl) ?_
 obtain ⟨qb4, hqb4⟩ : ∃ qz : Bool, (qb3 || (decide (((122 : Nat) : Int) < (((x.data.toList.getD 0 0).toNat : Nat) : Int)))) = qz := ⟨_, rfl⟩
 refine RW.q (v := .bool qb4) rfl (q_as (v := .bool (qb3 || (decide (((122 : Nat) : Int) < (((x.data.toList.getD 0 0).toNat : Nat) : Int))))) (qpO rfl rfl rfl) (congrArg Value.bool hqb4)) ?_
 subst hqb4 hqb3 hqb2 hqb1
 refine RW.nil (Post.then_n (AW.cond (b := (((((decide ((x.data.toList.length : Int) < 1)) || (decide ((24 : Int) < (x.data.toList.length : Int)))) || (decide (x.data.toList = ([111, 117, 116] : List UInt8)))) || (decide ((((x.data.toList.getD 0 0).toNat : Nat) : Int) < ((97 : Nat) : Int)))) || (decide (((122 : Nat) : Int) < (((x.data.toList.getD 0 0).toNat : Nat) : Int))))) rfl (fun hc1 => ?_) (fun hc1 => ?_)))
 ·
  refine AW.seq (AW.region (RW.q (v := .bool false) rfl (q_assign rfl) (RW.nil (Post.then_n (AW.ret (Post.then_r ?_))))))
  exact fin_val (v' := .bool false) rfl rfl rfl (by unfold isNm; rw [show nmBad0 x = true from hc1]; rfl)
 ·
  refine AW.skip (Post.then_n (AW.seq (AW.seq (AW.region (RW.q (v := iV 1) rfl (q_assign rfl) (RW.nil (Post.then_n (AW.block (AW.loop (fun s J m => ∃ (k : Nat), s = [(0, .string x), (3, iV (k : Int))] ∧ J = St ⟨w, Φ, []⟩ Φ [] ∧ m = x.data.toList.length - k ∧ (1 ≤ k) ∧ (∀ j, j < k → 1 ≤ j → nmBad x j = false)) (s0 := _) (J1 := _) (m0 := _) ⟨1, rfl, rfl, rfl, (by omega), (fun j hj h1 => absurd h1 (by omega))⟩ ⟨rfl, rfl, trivial⟩ (fun _ h => h) ?_)))))))))
  rintro _ _ _ _ ⟨k, rfl, rfl, rfl, hk, hall⟩
  refine AW.seq (AW.seq (AW.region (RW.q rfl (q_move rfl) (RW.q rfl (q_move rfl) (RW.q (v := iV (x.data.toList.length : Int)) rfl (q_lenS (l := x.data.toList) rfl uT9) (RW.q (v := .bool (decide ((k : Int) < (x.data.toList.length : Int)))) rfl (q_lss rfl rfl) (RW.nil (Post.then_n (AW.cond (b := decide ((k : Int) < (x.data.toList.length : Int))) rfl (fun hc2 => ?_) (fun hc2 => ?_))))))))))
  ·
   simp [-List.getD_eq_getElem?_getD, -Array.length_toList] at hc2
   refine AW.skip (Post.then_n (AW.seq (AW.block (AW.seq (AW.region (RW.q rfl (q_move rfl) (RW.q rfl (q_move rfl) (RW.q (v := .int .u8 (((x.data.toList.getD k 0).toNat : Nat) : Int)) rfl (q_indexS (l := x.data.toList) (i := (k : Int)) rfl rfl uT9 (by omega) (by omega)) (RW.q (v := .int .u8 (((x.data.toList.getD k 0).toNat : Nat) : Int)) rfl (q_assign rfl) ?_)))))))))
   refine RW.nil (Post.then_n (AW.seq (AW.region (RW.q rfl (q_move rfl) (RW.q (v := .bool (decide ((((x.data.toList.getD k 0).toNat : Nat) : Int) < ((97 : Nat) : Int)))) rfl (q_lss (a := (((x.data.toList.getD k 0).toNat : Nat) : Int)) (b := ((97 : Nat) : Int)) rfl rfl) (RW.q (v := .bool (decide ((((x.data.toList.getD k 0).toNat : Nat) : Int) < ((97 : Nat) : Int)))) rfl (q_move rfl) (RW.g (b := (decide ((((x.data.toList.getD k 0).toNat : Nat) : Int) < ((97 : Nat) : Int)))) (v := .int .u8 (((x.data.toList.getD k 0).toNat : Nat) : Int)) rfl rfl rfl (fun h => q_move rfl) (RW.g (b := (decide ((((x.data.toList.getD k 0).toNat : Nat) : Int) < ((97 : Nat) : Int)))) (v := .bool (decide (((122 : Nat) : Int) < (((x.data.toList.getD k 0).toNat : Nat) : Int)))) rfl rfl rfl (fun h => q_gtr (a := (((x.data.toList.getD k 0).toNat : Nat) : Int)) (b := ((122 : Nat) : Int)) (gv_pos h) rfl) ?_))))))))
   obtain ⟨qb5, hqb5⟩ : ∃ qz : Bool, ((decide ((((x.data.toList.getD k 0).toNat : Nat) : Int) < ((97 : Nat) : Int))) || (decide (((122 : Nat) : Int) < (((x.data.toList.getD k 0).toNat : Nat) : Int)))) = qz := ⟨_, rfl⟩
   refine RW.q (v := .bool qb5) rfl (q_as (v := .bool ((decide ((((x.data.toList.getD k 0).toNat : Nat) : Int) < ((97 : Nat) : Int))) || (decide (((122 : Nat) : Int) < (((x.data.toList.getD k 0).toNat : Nat) : Int))))) (qpO rfl rfl rfl) (congrArg Value.bool hqb5)) (RW.q rfl (q_move rfl) (RW.g (b := qb5) (v := .int .u8 (((x.data.toList.getD k 0).toNat : Nat) : Int)) rfl rfl rfl (fun h => q_move rfl) (RW.g (b := qb5) (v := .bool (decide ((((x.data.toList.getD k 0).toNat : Nat) : Int) < ((48 : Nat) : Int)))) rfl rfl rfl (fun h => q_lss (a := (((x.data.toList.getD k 0).toNat : Nat) : Int)) (b := ((48 : Nat) : Int)) (gv_pos h) rfl) (RW.g (b := qb5) (v := .bool (decide ((((x.data.toList.getD k 0).toNat : Nat) : Int) < ((48 : Nat) : Int)))) rfl rfl rfl (fun h => q_move (gv_pos h)) (RW.g2 (b1 := qb5) (b2 := (decide ((((x.data.toList.getD k 0).toNat : Nat) : Int) < ((48 : Nat) : Int)))) (v := .int .u8 (((x.data.toList.getD k 0).toNat : Nat) : Int)) rfl rfl rfl (fun hg1 hg2 => q_move rfl) (RW.g2 (b1 := qb5) (b2 := (decide ((((x.data.toList.getD k 0).toNat : Nat) : Int) < ((48 : Nat) : Int)))) (v := .bool (decide (((57 : Nat) : Int) < (((x.data.toList.getD k 0).toNat : Nat) : Int)))) rfl rfl rfl (fun hg1 hg2 => q_gtr (a := (((x.data.toList.getD k 0).toNat : Nat) : Int)) (b := ((57 : Nat) : Int)) ((gv_pos hg1).trans (gv_pos hg2)) rfl) ?_))))))
   obtain ⟨qb6, hqb6⟩ : ∃ qz : Bool, ((decide ((((x.data.toList.getD k 0).toNat : Nat) : Int) < ((48 : Nat) : Int))) || (decide (((57 : Nat) : Int) < (((x.data.toList.getD k 0).toNat : Nat) : Int)))) = qz := ⟨_, rfl⟩
   refine RW.g (b := qb5) (v := .bool qb6) rfl rfl rfl (fun h => q_as (v := .bool ((decide ((((x.data.toList.getD k 0).toNat : Nat) : Int) < ((48 : Nat) : Int))) || (decide (((57 : Nat) : Int) < (((x.data.toList.getD k 0).toNat : Nat) : Int))))) (q_pick (gv_pos h) (fun hp => pkOrT hp) (fun hp => (gv_pos h).trans ((gv_pos hp).trans (pkOrF hp)))) (congrArg Value.bool hqb6)) (RW.q (v := .bool (qb5 && qb6)) rfl (qpA rfl rfl rfl) (RW.q rfl (q_move rfl) (RW.g (b := (qb5 && qb6)) (v := .int .u8 (((x.data.toList.getD k 0).toNat : Nat) : Int)) rfl rfl rfl (fun h => q_move rfl) (RW.g (b := (qb5 && qb6)) (v := .bool (!decide ((((x.data.toList.getD k 0).toNat : Nat) : Int) = ((95 : Nat) : Int)))) rfl rfl rfl (fun h => q_neq (a := (((x.data.toList.getD k 0).toNat : Nat) : Int)) (b := ((95 : Nat) : Int)) (gv_pos h) rfl) ?_))))
   obtain ⟨qb7, hqb7⟩ : ∃ qz : Bool, ((qb5 && qb6) && (!decide ((((x.data.toList.getD k 0).toNat : Nat) : Int) = ((95 : Nat) : Int)))) = qz := ⟨_, rfl⟩
   refine RW.q (v := .bool qb7) rfl (q_as (v := .bool ((qb5 && qb6) && (!decide ((((x.data.toList.getD k 0).toNat : Nat) : Int) = ((95 : Nat) : Int))))) (qpA rfl rfl rfl) (congrArg Value.bool hqb7)) ?_
   subst hqb7 hqb6 hqb5
   refine RW.nil (Post.then_n (AW.cond (b := ((((decide ((((x.data.toList.getD k 0).toNat : Nat) : Int) < ((97 : Nat) : Int))) || (decide (((122 : Nat) : Int) < (((x.data.toList.getD k 0).toNat : Nat) : Int)))) && ((decide ((((x.data.toList.getD k 0).toNat : Nat) : Int) < ((48 : Nat) : Int))) || (decide (((57 : Nat) : Int) < (((x.data.toList.getD k 0).toNat : Nat) : Int))))) && (!decide ((((x.data.toList.getD k 0).toNat : Nat) : Int) = ((95 : Nat) : Int))))) rfl (fun hc3 => ?_) (fun hc3 => ?_)))
   ·
    refine AW.seq (AW.region (RW.q (v := .bool false) rfl (q_assign rfl) (RW.nil (Post.then_n (AW.ret (Post.blk_r (Post.then_r (Post.then_r (Post.blk_r (Post.then_r ?_))))))))))
    exact fin_val (v' := .bool false) rfl rfl rfl (by unfold isNm; rw [decide_eq_false (fun h9 => Bool.noConfusion ((h9 k (by omega) (by omega)).symm.trans hc3)), Bool.and_false])
   ·
    refine AW.skip (Post.blk_n (Post.then_n ?_))
    refine AW.region (RW.q rfl (q_move rfl) (RW.q (v := iV ((k + 1 : Nat) : Int)) rfl (q_add rfl rfl (by omega) (by unfold I64; omega)) (RW.q (v := iV ((k + 1 : Nat) : Int)) rfl (q_assign rfl) (RW.nil ?_))))
    exact Post.back (s' := _) (J' := _) (m' := _) (by omega) ⟨k + 1, rfl, rfl, rfl, (by omega), (Fu.lt_succ hall (fun _ => hc3))⟩ ⟨rfl, rfl, trivial⟩ (fun _ h => h)
  ·
   simp [-List.getD_eq_getElem?_getD, -Array.length_toList] at hc2
   refine AW.exit (Post.then_x (Post.then_x (Post.blk_hit (Post.then_n ?_))))
   refine AW.seq (AW.region (RW.q (v := .bool true) rfl (q_assign rfl) (RW.nil (Post.then_n (AW.ret ?_)))))
   exact fin_val (v' := .bool true) rfl rfl rfl (by unfold isNm; rw [show nmBad0 x = false from hc1, decide_eq_true (fun j hj h1 => hall j (by omega) h1)]; rfl)
def grpB (s : ByteArray) : ByteArray := if s.data.toList = [115, 104, 101, 108, 116, 101, 114] then (bs [116, 111, 119, 110]) else s
def frsB (M : Ba.Mk → Option Bool) (s n : ByteArray) : Bool := !((!(isNm n)) || (M (grpB s, n)).getD false)
def putB (M : Ba.Mk → Option Bool) (s n : ByteArray) : Ba.Mk → Option Bool := if frsB M s n = true then fun j => if j = (grpB s, n) then some true else M j else M
theorem fresh_c {B : Bs} {Φ : Hp} {C : List Chunk} (_ : B.E = []) {bm : Nat} {M : Ba.Mk → Option Bool} {s n : ByteArray} (hs : s.size ≤ maxLen) (hn : n.size ≤ maxLen) (w : World) (hW : (St B Φ (.kmap kMark Value.bool bm M :: C)).p w) :
  Calls pg 56 #[.map (some bm), .string s, .string n] w fun e w' => ∃ _ : Unit, e = .returned (.bool (frsB M s n)) ∧ (St B Φ (.kmap kMark Value.bool bm (putB M s n) :: C)).p w' := by
 refine calls_of_AW (args := [.map (some bm), .string s, .string n]) Try.func56 rfl (lBT rfl) (St B Φ ((.kmap kMark Value.bool bm (M)) :: C)) hW ?_
 show AW pg 23 [] _ _ _ [(0, .map (some bm)), (1, .string s), (2, .string n)] _
 refine AW.seq (AW.region (RW.q (v := .bool false) rfl (q_assign rfl) (RW.nil (Post.then_n (AW.seq (AW.seq (AW.region (RW.q rfl (q_move rfl) (RW.q (v := .bool (decide (s.data.toList = ([115, 104, 101, 108, 116, 101, 114] : List UInt8)))) rfl (q_eqlStr (l := s.data.toList) (r := ([115, 104, 101, 108, 116, 101, 114] : List UInt8)) rfl rfl) ?_)))))))))
 refine RW.nil (Post.then_n (AW.cond (b := decide (s.data.toList = ([115, 104, 101, 108, 116, 101, 114] : List UInt8))) rfl (fun hc1 => ?_) (fun hc1 => ?_)))
 ·
  simp [-List.getD_eq_getElem?_getD] at hc1
  refine AW.region (RW.q (v := .string (bs ([116, 111, 119, 110] : List UInt8))) rfl (q_assign rfl) (RW.nil (Post.then_n (AW.seq (AW.region (RW.q rfl (q_move rfl) (RW.q rfl (q_move rfl) (RW.q (v := .agg #[.string (bs ([116, 111, 119, 110] : List UInt8)), .string n]) rfl (q_build (vals := [(0, .string (bs ([116, 111, 119, 110] : List UInt8))), (1, .string n)]) zero119 uT119 places119 rfl rfl) (RW.eff (fun b1 : Nat => pV b1 0) (fun b1 => St B Φ ((.blk b1 119 [.string (bs ([])), .string (bs ([]))]) :: (.kmap kMark Value.bool bm (M)) :: C)) rfl (e_alloc zero119) ?_)))))))))
  intro b1
  refine RW.effn (J' := St B Φ ((.blk b1 119 [.string (bs ([116, 111, 119, 110] : List UInt8)), .string n]) :: (.kmap kMark Value.bool bm (M)) :: C)) (e_store (v := .agg #[.string (bs ([116, 111, 119, 110] : List UInt8)), .string n]) 0 rfl rfl rfl sz119 rfl rfl rfl rfl rfl) (RW.nil (Post.then_n (AW.seq (AW.seq ?_))))
  have hkg : kMark.good ((bs ([116, 111, 119, 110] : List UInt8)), n) := ⟨(by show (4 : Nat) ≤ maxLen; decide), hn⟩
  refine AW.region (RW.q rfl (q_move rfl) (RW.q (v := .bool (isNm n)) rfl (q_call (args := #[.string n]) oK rfl rfl (fun w1 hw1 => isName_c w1 (Go.K.hp w1) (Hp.le_refl _) hn)) (RW.q (v := .bool (!(isNm n))) rfl (q_not rfl) (RW.q rfl (q_move rfl) (RW.g (b := (!(isNm n))) (v := .map (some bm)) rfl rfl rfl (fun h => q_move rfl) (RW.g (b := (!(isNm n))) (v := .agg #[.string (bs ([116, 111, 119, 110] : List UInt8)), .string n]) rfl rfl rfl (fun h => q_loadAgg rfl uT119 rfl sz119 rfl (Cells.blk 0 rfl)) (RW.g (b := (!(isNm n))) (v := .bool (((M) ((bs ([116, 111, 119, 110] : List UInt8)), n)).getD false)) rfl rfl rfl (fun h => q_kLook1 (L := kMark) (ew := Value.bool) (M := M) (k := ((bs ([116, 111, 119, 110] : List UInt8)), n)) (d := false) 1 rfl (gv_pos h) (gv_pos h) (by assumption) uT89 zero4) ?_)))))))
  obtain ⟨qb1, hqb1⟩ : ∃ qz : Bool, ((!(isNm n)) || (((M) ((bs ([116, 111, 119, 110] : List UInt8)), n)).getD false)) = qz := ⟨_, rfl⟩
  refine RW.q (v := .bool qb1) rfl (q_as (v := .bool ((!(isNm n)) || (((M) ((bs ([116, 111, 119, 110] : List UInt8)), n)).getD false))) (qpO rfl rfl rfl) (congrArg Value.bool hqb1)) ?_
  subst hqb1
  refine RW.nil (Post.then_n (AW.cond (b := ((!(isNm n)) || (((M) ((bs ([116, 111, 119, 110] : List UInt8)), n)).getD false))) rfl (fun hc2 => ?_) (fun hc2 => ?_)))
  ·
   refine AW.seq (AW.region (RW.q (v := .bool false) rfl (q_assign rfl) (RW.nil (Post.then_n (AW.ret (Post.then_r ?_))))))
   have hdone : True := trivial
   have hgr : grpB s = (bs [116, 111, 119, 110]) := by unfold grpB; rw [if_pos hc1]
   have hfr : frsB M s n = false := by unfold frsB; rw [hgr]; exact congrArg (!·) hc2
   have hpu : putB M s n = M := by unfold putB; rw [hfr]; exact if_neg (by simp)
   refine fin_out1 (v := .bool false) rfl rfl rfl (fun w' hw => ⟨(), by rw [hfr], ?_⟩)
   rw [hpu]
   exact StP.drop hw (by exact .cons _ (.cons_cons _ ((List.Sublist.refl _))))
  ·
   refine AW.skip (Post.then_n (AW.seq (AW.region (RW.q rfl (q_move rfl) (RW.q (v := .agg #[.string (bs ([116, 111, 119, 110] : List UInt8)), .string n]) rfl (q_loadAgg rfl uT119 rfl sz119 rfl (Cells.blk 0 rfl)) (RW.effn (J' := St B Φ ((.blk b1 119 [.string (bs ([116, 111, 119, 110] : List UInt8)), .string n]) :: (.kmap kMark Value.bool bm (fun j => if j = ((bs ([116, 111, 119, 110] : List UInt8)), n) then some true else (M) j)) :: C)) (e_kPut (L := kMark) (ew := Value.bool) (M := M) (k := ((bs ([116, 111, 119, 110] : List UInt8)), n)) (v := true) 1 rfl rfl rfl rfl (by assumption) uT89 rfl) (RW.nil (Post.then_n (AW.seq ?_)))))))))
   refine AW.region (RW.q (v := .bool true) rfl (q_assign rfl) (RW.nil (Post.then_n (AW.ret ?_))))
   have hdone : True := trivial
   have hgr : grpB s = (bs [116, 111, 119, 110]) := by unfold grpB; rw [if_pos hc1]
   have hfr : frsB M s n = true := by unfold frsB; rw [hgr]; exact congrArg (!·) hc2
   have hpu : putB M s n = fun j => if j = ((bs [116, 111, 119, 110]), n) then some true else M j := by unfold putB; rw [hfr, hgr, if_pos rfl]
   refine fin_out1 (v := .bool true) rfl rfl rfl (fun w' hw => ⟨(), by rw [hfr], ?_⟩)
   rw [hpu]
   exact StP.drop hw (by exact .cons _ (.cons_cons _ ((List.Sublist.refl _))))
 ·
  simp [-List.getD_eq_getElem?_getD] at hc1
  refine AW.skip (Post.then_n (AW.seq (AW.region (RW.q rfl (q_move rfl) (RW.q rfl (q_move rfl) (RW.q (v := .agg #[.string s, .string n]) rfl (q_build (vals := [(0, .string s), (1, .string n)]) zero119 uT119 places119 rfl rfl) (RW.eff (fun b2 : Nat => pV b2 0) (fun b2 => St B Φ ((.blk b2 119 [.string (bs ([])), .string (bs ([]))]) :: (.kmap kMark Value.bool bm (M)) :: C)) rfl (e_alloc zero119) ?_)))))))
  intro b2
  refine RW.effn (J' := St B Φ ((.blk b2 119 [.string s, .string n]) :: (.kmap kMark Value.bool bm (M)) :: C)) (e_store (v := .agg #[.string s, .string n]) 0 rfl rfl rfl sz119 rfl rfl rfl rfl rfl) (RW.nil (Post.then_n (AW.seq (AW.seq ?_))))
  have hkg : kMark.good (s, n) := ⟨hs, hn⟩
  refine AW.region (RW.q rfl (q_move rfl) (RW.q (v := .bool (isNm n)) rfl (q_call (args := #[.string n]) oK rfl rfl (fun w1 hw1 => isName_c w1 (Go.K.hp w1) (Hp.le_refl _) hn)) (RW.q (v := .bool (!(isNm n))) rfl (q_not rfl) (RW.q rfl (q_move rfl) (RW.g (b := (!(isNm n))) (v := .map (some bm)) rfl rfl rfl (fun h => q_move rfl) (RW.g (b := (!(isNm n))) (v := .agg #[.string s, .string n]) rfl rfl rfl (fun h => q_loadAgg rfl uT119 rfl sz119 rfl (Cells.blk 0 rfl)) (RW.g (b := (!(isNm n))) (v := .bool (((M) (s, n)).getD false)) rfl rfl rfl (fun h => q_kLook1 (L := kMark) (ew := Value.bool) (M := M) (k := (s, n)) (d := false) 1 rfl (gv_pos h) (gv_pos h) (by assumption) uT89 zero4) ?_)))))))
  obtain ⟨qb2, hqb2⟩ : ∃ qz : Bool, ((!(isNm n)) || (((M) (s, n)).getD false)) = qz := ⟨_, rfl⟩
  refine RW.q (v := .bool qb2) rfl (q_as (v := .bool ((!(isNm n)) || (((M) (s, n)).getD false))) (qpO rfl rfl rfl) (congrArg Value.bool hqb2)) ?_
  subst hqb2
  refine RW.nil (Post.then_n (AW.cond (b := ((!(isNm n)) || (((M) (s, n)).getD false))) rfl (fun hc3 => ?_) (fun hc3 => ?_)))
  ·
   refine AW.seq (AW.region (RW.q (v := .bool false) rfl (q_assign rfl) (RW.nil (Post.then_n (AW.ret (Post.then_r ?_))))))
   have hdone : True := trivial
   have hgr : grpB s = s := by unfold grpB; rw [if_neg hc1]
   have hfr : frsB M s n = false := by unfold frsB; rw [hgr]; exact congrArg (!·) hc3
   have hpu : putB M s n = M := by unfold putB; rw [hfr]; exact if_neg (by simp)
   refine fin_out1 (v := .bool false) rfl rfl rfl (fun w' hw => ⟨(), by rw [hfr], ?_⟩)
   rw [hpu]
   exact StP.drop hw (by exact .cons _ (.cons_cons _ ((List.Sublist.refl _))))
  ·
   refine AW.skip (Post.then_n (AW.seq (AW.region (RW.q rfl (q_move rfl) (RW.q (v := .agg #[.string s, .string n]) rfl (q_loadAgg rfl uT119 rfl sz119 rfl (Cells.blk 0 rfl)) (RW.effn (J' := St B Φ ((.blk b2 119 [.string s, .string n]) :: (.kmap kMark Value.bool bm (fun j => if j = (s, n) then some true else (M) j)) :: C)) (e_kPut (L := kMark) (ew := Value.bool) (M := M) (k := (s, n)) (v := true) 1 rfl rfl rfl rfl (by assumption) uT89 rfl) (RW.nil (Post.then_n (AW.seq ?_)))))))))
   refine AW.region (RW.q (v := .bool true) rfl (q_assign rfl) (RW.nil (Post.then_n (AW.ret ?_))))
   have hdone : True := trivial
   have hgr : grpB s = s := by unfold grpB; rw [if_neg hc1]
   have hfr : frsB M s n = true := by unfold frsB; rw [hgr]; exact congrArg (!·) hc3
   have hpu : putB M s n = fun j => if j = (s, n) then some true else M j := by unfold putB; rw [hfr, hgr, if_pos rfl]
   refine fin_out1 (v := .bool true) rfl rfl rfl (fun w' hw => ⟨(), by rw [hfr], ?_⟩)
   rw [hpu]
   exact StP.drop hw (by exact .cons _ (.cons_cons _ ((List.Sublist.refl _))))
theorem check_c {B : Bs} {Φ : Hp} {C : List Chunk} (hBE : B.E = []) {bo bq : Nat} {t : Bool} {bm : Nat} {M : Ba.Mk → Option Bool} {s n : ByteArray} (hs : s.size ≤ maxLen) (hn : n.size ≤ maxLen) (w : World) (hW : (St B Φ ((.blk bo 4 [.bool t]) :: (.blk bq 89 [.map (some bm)]) :: (.kmap kMark Value.bool bm (M)) :: C)).p w) :
  Calls pg 55 #[.string s, .string n, pV bq 0, pV bo 0] w fun e w' => ∃ _ : Unit, e = .returned (.tuple #[]) ∧ (St B Φ ((.blk bo 4 [.bool (frsB M s n && t)]) :: (.blk bq 89 [.map (some bm)]) :: (.kmap kMark Value.bool bm (putB M s n)) :: C)).p w' := by
 refine calls_of_AW (args := [.string s, .string n, pV bq 0, pV bo 0]) Try.func55 rfl (lBT rfl) (St B Φ ((.blk bo 4 [.bool t]) :: (.blk bq 89 [.map (some bm)]) :: (.kmap kMark Value.bool bm (M)) :: C)) hW ?_
 show AW pg 13 [] _ _ _ [(0, .string s), (1, .string n), (2, pV bq 0), (3, pV bo 0)] _
 refine AW.region (RW.q (v := .map (some bm)) rfl (q_load rfl uT89 rfl (Cell.blk 1 rfl rfl)) (RW.q rfl (q_move rfl) (RW.q rfl (q_move rfl) (RW.eff (fun u1 : Unit => .bool (frsB M s n)) (fun u1 => St B Φ ((.blk bo 4 [.bool t]) :: (.blk bq 89 [.map (some bm)]) :: (.kmap kMark Value.bool bm (putB M s n)) :: C)) rfl (e_call (args := #[.map (some bm), .string s, .string n]) oK rfl rfl (fun w1 hw1 => (fresh_c (C := ((.blk bo 4 [.bool t]) :: (.blk bq 89 [.map (some bm)]) :: C)) hBE (by assumption) (by assumption) w1 (hw1.perm (List.perm_middle (a := (.kmap kMark Value.bool bm (M) : Chunk)) (l₁ := ([.blk bo 4 [.bool t], .blk bq 89 [.map (some bm)]] : List Chunk)) (l₂ := (C : List Chunk))).symm)).mono fun e w2 ⟨x, he, hp⟩ => ⟨x, he, hp.perm (List.perm_middle (a := (.kmap kMark Value.bool bm (putB M s n) : Chunk)) (l₁ := ([.blk bo 4 [.bool t], .blk bq 89 [.map (some bm)]] : List Chunk)) (l₂ := (C : List Chunk)))⟩)) ?_))))
 intro u1
 refine RW.q rfl (q_move rfl) (RW.g (b := (frsB M s n)) (v := .bool t) rfl rfl rfl (fun h => q_load rfl uT4 rfl (Cell.blk 0 rfl rfl)) (RW.q (v := .bool ((frsB M s n) && t)) rfl (qpA rfl rfl rfl) (RW.effn (J' := St B Φ ((.blk bo 4 [.bool ((frsB M s n) && t)]) :: (.blk bq 89 [.map (some bm)]) :: (.kmap kMark Value.bool bm (putB M s n)) :: C)) (e_store (v := .bool ((frsB M s n) && t)) 0 rfl rfl rfl sz4 rfl rfl rfl rfl rfl) (RW.nil ?_))))
 exact fin_none rfl rfl (fun _ h => h) (fun w' hw => ⟨(), rfl, hw⟩)
end Go.Proofs.Ytpeojogjeopfaaa
namespace Ba
theorem set_fill {L : List Int} {k n : Nat} (hL : L.length = n) (hk : k < n) {x : Int} (hx : L.getD k 0 = x) : (L.take k ++ List.replicate (n - k) (0 : Int)).set k x = L.take (k + 1) ++ List.replicate (n - (k + 1)) (0 : Int) := by
  subst hL
  have hlen : (L.take k).length = k := by simp; omega
  rw [List.set_append_right _ _ (by omega), hlen, Nat.sub_self, show L.length - k = (L.length - (k + 1)) + 1 by omega, List.replicate_succ, List.set_cons_zero, List.take_add_one, List.getElem?_eq_getElem hk]
  have : L[k] = x := by rw [← hx, gDD, List.getElem?_eq_getElem hk]; rfl
  simp [this]
theorem getD_setI (S : List Int) (i : Nat) (x : Int) (j : Nat) : (S.set i x).getD j 0 = S.getD j 0 ∨ (S.set i x).getD j 0 = x := by
  rw [gDD, gDD, List.getElem?_set]
  by_cases h : i = j
  · subst h
    rw [if_pos rfl]
    by_cases h2 : i < S.length
    · rw [if_pos h2]; exact .inr rfl
    · rw [if_neg h2]; left; rw [List.getElem?_eq_none (by omega)]
  · rw [if_neg h]; exact .inl rfl
def Bnd (S : List Int) (B : Int) : Prop := ∀ j, 0 ≤ S.getD j 0 ∧ S.getD j 0 ≤ B
theorem Bnd.mono {S : List Int} {B B' : Int} (h : Bnd S B) (hb : B ≤ B') : Bnd S B' := fun j => ⟨(h j).1, by have := (h j).2; omega⟩
theorem Bnd.set {S : List Int} {B B' : Int} (h : Bnd S B) (hb : B ≤ B') {i : Nat} {x : Int} (h0 : 0 ≤ x) (h1 : x ≤ B') : Bnd (S.set i x) B' := fun j => by
  rcases getD_setI S i x j with e | e
  · rw [e]; have := h j; omega
  · rw [e]; exact ⟨h0, h1⟩
theorem foldl_snoc {α σ : Type} [Inhabited α] (f : σ → α → σ) (s : σ) {L : List α} {k : Nat} (hk : k < L.length) {S : σ} (h : S = (L.take k).foldl f s) : f S (L.getD k default) = (L.take (k + 1)).foldl f s := by
  rw [List.take_add_one, List.getElem?_eq_getElem hk, List.foldl_append, ← h]
  simp [hk]
theorem bnd_map {α : Type} {L : List α} {f : α → Int} {B : Int} (h0 : 0 ≤ B) (h : ∀ x ∈ L, 0 ≤ f x ∧ f x ≤ B) : Bnd (L.map f) B := fun j => by
  rw [gDD, List.getElem?_map]
  cases e : L[j]? with
  | none => exact ⟨Int.le_refl _, h0⟩
  | some x => exact h x (List.mem_of_getElem? e)
end Ba
namespace Fu
theorem getD_mem {α : Type} [Inhabited α] {L : List α} {i : Nat} (h : i < L.length) : L.getD i default ∈ L := by
  rw [gDD, List.getElem?_eq_getElem h]; exact List.getElem_mem h
theorem getD_memI {L : List Int} {i : Nat} (h : i < L.length) : L.getD i 0 ∈ L := by
  rw [gDD, List.getElem?_eq_getElem h]; exact List.getElem_mem h
end Fu
