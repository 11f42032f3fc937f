/- Lemmas. Conditions: those of each theorem. -/
import Derived.Test.YtpapfpoefiikpaaGreatDoorVKeyBa
import Derived.Test.YtpapfpoefiikpaaGreatDoorVBcJ
import Derived.Test.YtpapfpoefiikpaaGreatDoorVPanK
set_option maxRecDepth 8000
set_option maxHeartbeats 16000000
namespace Go.Proofs.YtpapfpoefiikpaaGreatDoor
open Go Go.K Go.RowKit
attribute [local irreducible] AW RW DW Post Qt
theorem steepest_c (w : World) (Φ : Hp) (hΦ : Hp.le Φ (hp w)) {css : List (List Bt.Point)} {v1 : Value} (h1 : RepSl Φ css v1) (hR : ∀ c ∈ css, Fu.RightC c) :
  Calls pg 87 #[v1] w fun e w' => e = .returned (iV (Ba.stAll css)) ∧ Bel w.heap.size w w' := by
 refine in1 48 Tryz.func87 rfl rfl hΦ ?_
 have hm1 : css.length * 24 ≤ 140737488355328 := h1.max
 refine gs19 ?_
 refine AW.lp (fun s J m => ∃ (k : Nat), ∃ (u : Int), s = [(7, v1), (8, iV (css.length : Int)), (3, iV u), (9, iV (k : Int))] ∧ J = St ⟨w, Φ, []⟩ Φ [] ∧ m = css.length - k ∧ (k ≤ css.length) ∧ (u = Ba.stAll (css.take k))) ⟨0, 0, rfl, rfl, rfl, (by omega), rfl⟩ ?_
 rintro _ _ _ _ ⟨k, u, rfl, rfl, rfl, hk, hu⟩
 refine gs6 ?_
 refine AW.cond rfl (fun hc1 => ?_) fun hc1 => ?_
 ·
  simp [-List.getD_eq_getElem?_getD] at hc1
  refine gs5 ?_
  have hRk : Fu.RightC (css.getD k []) := hR _ (by rw [gDD, List.getElem?_eq_getElem (show k < css.length by omega)]; exact List.getElem_mem _)
  have hl1 := hRk.1
  refine gs2 ?_
  obtain ⟨sv1, hsv1, hpc1⟩ := h1.sub (k := k) (by omega)
  refine RW.q (v := sv1) rfl (q_load rfl uT55 rfl (Cell.phi hpc1)) ?_
  refine gs9 ?_
  refine AW.lp (fun s J m => ∃ (n : Nat), ∃ (t : Int), s = [(5, sv1), (7, v1), (8, iV (css.length : Int)), (9, iV (k : Int)), (3, iV t), (6, iV ((n + 1 : Nat) : Int))] ∧ J = St ⟨w, Φ, []⟩ Φ [] ∧ m = (css.getD k []).length - n ∧ (n + 1 ≤ (css.getD k []).length) ∧ (t = Ba.stTo u (css.getD k []) n)) ⟨0, u, rfl, rfl, rfl, (by omega), rfl⟩ ?_
  rintro _ _ _ _ ⟨n, t, rfl, rfl, rfl, hn, ht⟩
  refine gs9 ?_
  refine AW.cond rfl (fun hc2 => ?_) fun hc2 => ?_
  ·
   simp [-List.getD_eq_getElem?_getD] at hc2
   refine gs4 ?_
   have hp1 := hRk.pt (show n + 1 < (css.getD k []).length by omega)
   have hp0 := hRk.pt (show n < (css.getD k []).length by omega)
   have hp2 := hp1.2.2 (by omega)
   rw [Nat.add_sub_cancel] at hp2
   unfold Fu.PtOk Fu.px Fu.py at hp0 hp1
   unfold Fu.px Fu.py at hp2
   refine AW.draw (J0 := St ⟨w, Φ, []⟩ Φ []) [.q, .q, .q, .q, .q, .q, .q, .q, .q, .q, .q, .q, .q, .q, .q, .q, .q, .q, .q, .q, .q, .q, .q, .q, .q, .q, .q, .q] [0, 1, 2, 3, 4, 5, 6, 7, 8, 9, 10, 11, 12, 13, 14, 15, 16, 17, 18, 19, 20, 21, 22, 23, 24, 25, 26, 27] hmix (by kernel_rfl) ?_
   refine gs5 ?_
   refine DW.q (v := iV (((css.getD k []).getD (n + 1) default).Y)) (fun _ h => h) rfl (q_load rfl uT3 rfl (Cell.repE (j := 1) hsv1 (by omega) rfl)) ?_
   refine gs2 ?_
   refine DW.q (v := iV (n : Int)) (fun _ h => h) rfl (q_as (v := iV (((n + 1 : Nat) : Int) - 1)) (q_sub rfl rfl (by omega) (by unfold I64; omega)) (congrArg (Value.int .i64) ((by omega)))) ?_
   refine gs2 ?_
   refine DW.q (v := iV (((css.getD k []).getD n default).Y)) (fun _ h => h) rfl (q_load rfl uT3 rfl (Cell.repE (j := 1) hsv1 (by omega) rfl)) ?_
   refine gs5 ?_
   refine DW.q (v := iV (((css.getD k []).getD (n + 1) default).X)) (fun _ h => h) rfl (q_load rfl uT3 rfl (Cell.repE (j := 0) hsv1 (by omega) rfl)) ?_
   refine gs2 ?_
   refine DW.q (v := iV (n : Int)) (fun _ h => h) rfl (q_as (v := iV (((n + 1 : Nat) : Int) - 1)) (q_sub rfl rfl (by omega) (by unfold I64; omega)) (congrArg (Value.int .i64) ((by omega)))) ?_
   refine gs2 ?_
   refine DW.q (v := iV (((css.getD k []).getD n default).X)) (fun _ h => h) rfl (q_load rfl uT3 rfl (Cell.repE (j := 0) hsv1 (by omega) rfl)) ?_
   refine gs1 ?_
   refine DW.c (fun _ h => h) rfl (fun w1 hw1 => slope_c w1 (Go.K.hp w1) (Hp.le_refl _) (by omega) (by omega)) rfl rfl ?_
   refine gs10 ?_
   exact Post.back (s' := _) (J' := _) (m' := _) (by omega) ⟨n + 1, _, rfl, rfl, rfl, (by omega), (by rw [ht]; rfl)⟩ ⟨rfl, rfl, rfl, rfl, rfl, rfl, trivial⟩ (fun _ h => h)
  ·
   simp [-List.getD_eq_getElem?_getD] at hc2
   refine gs10 ?_
   exact Post.bk ⟨k + 1, t, rfl, rfl, rfl, (by omega), (by rw [ht, show n = (css.getD k []).length - 1 by omega]; exact Ba.stAll_snoc css (by omega) hu)⟩
 ·
  simp [-List.getD_eq_getElem?_getD] at hc1
  refine gs12 ?_
  exact fin_val (v' := iV u) rfl rfl rfl (by rw [hu, List.take_of_length_le (by omega)])
def nmBad0 (x : ByteArray) : Bool := (((((decide ((x.data.toList.length : Int) < 1)) || (decide ((24 : Int) < (x.data.toList.length : Int)))) || (decide (x.data.toList = ([111, 117, 116] : List UInt8)))) || (decide ((((x.data.toList.getD 0 0).toNat : Nat) : Int) < ((97 : Nat) : Int)))) || (decide (((122 : Nat) : Int) < (((x.data.toList.getD 0 0).toNat : Nat) : Int))))
def nmBad (x : ByteArray) (k : Nat) : Bool := ((((decide ((((x.data.toList.getD k 0).toNat : Nat) : Int) < ((97 : Nat) : Int))) || (decide (((122 : Nat) : Int) < (((x.data.toList.getD k 0).toNat : Nat) : Int)))) && ((decide ((((x.data.toList.getD k 0).toNat : Nat) : Int) < ((48 : Nat) : Int))) || (decide (((57 : Nat) : Int) < (((x.data.toList.getD k 0).toNat : Nat) : Int))))) && (!decide ((((x.data.toList.getD k 0).toNat : Nat) : Int) = ((95 : Nat) : Int))))
def isNm (x : ByteArray) : Bool := !nmBad0 x && decide (∀ j, j < x.data.toList.length → 1 ≤ j → nmBad x j = false)
theorem isName_c (w : World) (Φ : Hp) (hΦ : Hp.le Φ (hp w)) {x : ByteArray} (hx : x.size ≤ maxLen) :
  Calls pg 120 #[.string x] w fun e w' => e = .returned (.bool (isNm x)) ∧ Bel w.heap.size w w' := by
 refine in1 54 Tryz.func120 rfl rfl hΦ ?_
 have hxl : x.data.toList.length ≤ 9223372036854775807 := hx
 refine gs9 ?_
 refine RW.q (v := iV (x.data.toList.length : Int)) rfl (q_lenS (l := x.data.toList) rfl uT9) ?_
 refine gs3 ?_
 refine RW.g (b := (decide ((x.data.toList.length : Int) < 1))) (v := iV (x.data.toList.length : Int)) rfl rfl rfl (fun h => q_lenS (l := x.data.toList) (gv_pos h) uT9) ?_
 refine gs1 ?_
 refine RW.pkO rfl rfl rfl rfl fun qb1 hqb1 => ?_
 refine gs2 ?_
 refine RW.g (b := qb1) (v := .bool (decide (x.data.toList = ([111, 117, 116] : List UInt8)))) rfl rfl rfl (fun h => q_eqlStr (l := x.data.toList) (r := ([111, 117, 116] : List UInt8)) (gv_pos h) rfl) ?_
 refine RW.pkO rfl rfl rfl rfl fun qb2 hqb2 => ?_
 refine gs2 ?_
 refine RW.g (b := qb2) (v := .int .u8 (((x.data.toList.getD 0 0).toNat : Nat) : Int)) rfl rfl rfl (fun h => q_indexS (l := x.data.toList) (i := 0) (gv_pos h) rfl uT9 (by subst hqb2 hqb1; (try simp [-List.getD_eq_getElem?_getD, -Array.length_toList] at h); omega) (by subst hqb2 hqb1; (try simp [-List.getD_eq_getElem?_getD, -Array.length_toList] at h); omega)) ?_
 refine RW.g (b := qb2) (v := .bool (decide ((((x.data.toList.getD 0 0).toNat : Nat) : Int) < ((97 : Nat) : Int)))) rfl rfl rfl (fun h => q_lss (a := (((x.data.toList.getD 0 0).toNat : Nat) : Int)) (b := ((97 : Nat) : Int)) (gv_pos h) rfl) ?_
 refine RW.pkO rfl rfl rfl rfl fun qb3 hqb3 => ?_
 refine gs2 ?_
 refine RW.g (b := qb3) (v := .int .u8 (((x.data.toList.getD 0 0).toNat : Nat) : Int)) rfl rfl rfl (fun h => q_indexS (l := x.data.toList) (i := 0) (gv_pos h) rfl uT9 (by subst hqb3 hqb2 hqb1; (try simp [-List.getD_eq_getElem?_getD, -Array.length_toList] at h); omega) (by subst hqb3 hqb2 hqb1; (try simp [-List.getD_eq_getElem?_getD, -Array.length_toList] at h); omega)) ?_
 refine RW.g (b := qb3) (v := .bool (decide (((122 : Nat) : Int) < (((x.data.toList.getD 0 0).toNat : Nat) : Int)))) rfl rfl rfl (fun h => q_gtr (a := (((x.data.toList.getD 0 0).toNat : Nat) : Int)) (b := ((122 : Nat) : Int)) (gv_pos h) rfl) ?_
 refine RW.pkO rfl rfl rfl rfl fun qb4 hqb4 => ?_
 subst hqb4 hqb3 hqb2 hqb1
 refine gs2 ?_
 refine AW.cond rfl (fun hc1 => ?_) fun hc1 => ?_
 ·
  refine gs7 ?_
  exact fin_val (v' := .bool false) rfl rfl rfl (by unfold isNm; rw [show nmBad0 x = true from hc1]; rfl)
 ·
  refine gs9 ?_
  refine AW.lp (fun s J m => ∃ (k : Nat), s = [(0, .string x), (3, iV (k : Int))] ∧ J = St ⟨w, Φ, []⟩ Φ [] ∧ m = x.data.toList.length - k ∧ (1 ≤ k) ∧ (∀ j, j < k → 1 ≤ j → nmBad x j = false)) ⟨1, rfl, rfl, rfl, (by omega), (fun j hj h1 => absurd h1 (by omega))⟩ ?_
  rintro _ _ _ _ ⟨k, rfl, rfl, rfl, hk, hall⟩
  refine gs5 ?_
  refine RW.q (v := iV (x.data.toList.length : Int)) rfl (q_lenS (l := x.data.toList) rfl uT9) ?_
  refine gs3 ?_
  refine AW.cond rfl (fun hc2 => ?_) fun hc2 => ?_
  ·
   simp [-List.getD_eq_getElem?_getD, -Array.length_toList] at hc2
   refine gs8 ?_
   refine RW.q (v := .int .u8 (((x.data.toList.getD k 0).toNat : Nat) : Int)) rfl (q_indexS (l := x.data.toList) (i := (k : Int)) rfl rfl uT9 (by omega) (by omega)) ?_
   refine gs6 ?_
   refine RW.q (v := .bool (decide ((((x.data.toList.getD k 0).toNat : Nat) : Int) < ((97 : Nat) : Int)))) rfl (q_lss (a := (((x.data.toList.getD k 0).toNat : Nat) : Int)) (b := ((97 : Nat) : Int)) rfl rfl) ?_
   refine gs2 ?_
   refine RW.g (b := (decide ((((x.data.toList.getD k 0).toNat : Nat) : Int) < ((97 : Nat) : Int)))) (v := .bool (decide (((122 : Nat) : Int) < (((x.data.toList.getD k 0).toNat : Nat) : Int)))) rfl rfl rfl (fun h => q_gtr (a := (((x.data.toList.getD k 0).toNat : Nat) : Int)) (b := ((122 : Nat) : Int)) (gv_pos h) rfl) ?_
   refine RW.pkO rfl rfl rfl rfl fun qb5 hqb5 => ?_
   refine gs2 ?_
   refine RW.g (b := qb5) (v := .bool (decide ((((x.data.toList.getD k 0).toNat : Nat) : Int) < ((48 : Nat) : Int)))) rfl rfl rfl (fun h => q_lss (a := (((x.data.toList.getD k 0).toNat : Nat) : Int)) (b := ((48 : Nat) : Int)) (gv_pos h) rfl) ?_
   refine gs1 ?_
   refine RW.g2 (b1 := qb5) (b2 := (decide ((((x.data.toList.getD k 0).toNat : Nat) : Int) < ((48 : Nat) : Int)))) (v := .int .u8 (((x.data.toList.getD k 0).toNat : Nat) : Int)) rfl rfl rfl (fun hg1 hg2 => q_move rfl) (RW.g2 (b1 := qb5) (b2 := (decide ((((x.data.toList.getD k 0).toNat : Nat) : Int) < ((48 : Nat) : Int)))) (v := .bool (decide (((57 : Nat) : Int) < (((x.data.toList.getD k 0).toNat : Nat) : Int)))) rfl rfl rfl (fun hg1 hg2 => q_gtr (a := (((x.data.toList.getD k 0).toNat : Nat) : Int)) (b := ((57 : Nat) : Int)) ((gv_pos hg1).trans (gv_pos hg2)) rfl) ?_)
   obtain ⟨qb6, hqb6⟩ : ∃ z : Bool, ((decide ((((x.data.toList.getD k 0).toNat : Nat) : Int) < ((48 : Nat) : Int))) || (decide (((57 : Nat) : Int) < (((x.data.toList.getD k 0).toNat : Nat) : Int)))) = z := ⟨_, rfl⟩
   refine RW.g (b := qb5) (v := .bool qb6) rfl rfl rfl (fun h => q_as (v := .bool ((decide ((((x.data.toList.getD k 0).toNat : Nat) : Int) < ((48 : Nat) : Int))) || (decide (((57 : Nat) : Int) < (((x.data.toList.getD k 0).toNat : Nat) : Int))))) (q_pick (gv_pos h) (fun hp => pkOrT hp) (fun hp => (gv_pos h).trans ((gv_pos hp).trans (pkOrF hp)))) (congrArg Value.bool hqb6)) (RW.q (v := .bool (qb5 && qb6)) rfl (qpA rfl rfl rfl) ?_)
   refine gs2 ?_
   refine RW.g (b := (qb5 && qb6)) (v := .bool (!decide ((((x.data.toList.getD k 0).toNat : Nat) : Int) = ((95 : Nat) : Int)))) rfl rfl rfl (fun h => q_neq (a := (((x.data.toList.getD k 0).toNat : Nat) : Int)) (b := ((95 : Nat) : Int)) (gv_pos h) rfl) ?_
   refine RW.pkA rfl rfl rfl rfl fun qb7 hqb7 => ?_
   subst hqb7 hqb6 hqb5
   refine gs2 ?_
   refine AW.cond rfl (fun hc3 => ?_) fun hc3 => ?_
   ·
    refine gs11 ?_
    exact fin_val (v' := .bool false) rfl rfl rfl (by unfold isNm; rw [decide_eq_false (fun h9 => Bool.noConfusion ((h9 k (by omega) (by omega)).symm.trans hc3)), Bool.and_false])
   ·
    refine gs8 ?_
    exact Post.bk ⟨k + 1, rfl, rfl, rfl, (by omega), (Fu.lt_succ hall (fun _ => hc3))⟩
  ·
   simp [-List.getD_eq_getElem?_getD, -Array.length_toList] at hc2
   refine gs11 ?_
   exact fin_val (v' := .bool true) rfl rfl rfl (by unfold isNm; rw [show nmBad0 x = false from hc1, decide_eq_true (fun j hj h1 => hall j (by omega) h1)]; rfl)
def grpB (s : ByteArray) : ByteArray := if s.data.toList = [115, 104, 101, 108, 116, 101, 114] then (bs [116, 111, 119, 110]) else s
def frsB (M : Ba.Mk → Option Bool) (s n : ByteArray) : Bool := !((!(isNm n)) || (M (grpB s, n)).getD false)
def putB (M : Ba.Mk → Option Bool) (s n : ByteArray) : Ba.Mk → Option Bool := if frsB M s n = true then fun j => if j = (grpB s, n) then some true else M j else M
theorem fresh_c {B : Bs} {Φ : Hp} {C : List Chunk} (_ : B.E = []) {bm : Nat} {M : Ba.Mk → Option Bool} {s n : ByteArray} (hs : s.size ≤ maxLen) (hn : n.size ≤ maxLen) (w : World) (hW : (St B Φ (.kmap kMark Value.bool bm M :: C)).p w) :
  Calls pg 78 #[.map (some bm), .string s, .string n] w fun e w' => ∃ _ : Unit, e = .returned (.bool (frsB M s n)) ∧ (St B Φ (.kmap kMark Value.bool bm (putB M s n) :: C)).p w' := by
 refine inJ3 23 Tryz.func78 rfl rfl (J := St B Φ ((.kmap kMark Value.bool bm (M)) :: C)) hW ?_
 refine gs9 ?_
 refine RW.q (v := .bool (decide (s.data.toList = ([115, 104, 101, 108, 116, 101, 114] : List UInt8)))) rfl (q_eqlStr (l := s.data.toList) (r := ([115, 104, 101, 108, 116, 101, 114] : List UInt8)) rfl rfl) ?_
 refine gs2 ?_
 refine AW.cond rfl (fun hc1 => ?_) fun hc1 => ?_
 ·
  simp [-List.getD_eq_getElem?_getD] at hc1
  refine gs8 ?_
  refine RW.q (v := .agg #[.string (bs ([116, 111, 119, 110] : List UInt8)), .string n]) rfl (q_build (vals := [(0, .string (bs ([116, 111, 119, 110] : List UInt8))), (1, .string n)]) zero191 uT191 places191 rfl rfl) ?_
  refine RW.alc rfl fun b1 => ?_
  refine gs5 ?_
  have hkg : kMark.good ((bs ([116, 111, 119, 110] : List UInt8)), n) := ⟨(by show (4 : Nat) ≤ maxLen; decide), hn⟩
  refine gs2 ?_
  refine RW.c rfl (fun w1 hw1 => isName_c w1 (Go.K.hp w1) (Hp.le_refl _) hn) rfl rfl ?_
  refine gs4 ?_
  refine RW.g (b := (!(isNm n))) (v := .bool (((M) ((bs ([116, 111, 119, 110] : List UInt8)), n)).getD false)) rfl rfl rfl (fun h => q_kLook1 (L := kMark) (ew := Value.bool) (M := M) (k := ((bs ([116, 111, 119, 110] : List UInt8)), n)) (d := false) 1 rfl (gv_pos h) (gv_pos h) (by assumption) uT145 zero4) ?_
  refine RW.pkO rfl rfl rfl rfl fun qb1 hqb1 => ?_
  subst hqb1
  refine gs2 ?_
  refine AW.cond rfl (fun hc2 => ?_) fun hc2 => ?_
  ·
   refine gs7 ?_
   have hdone : True := trivial
   have hgr : grpB s = (bs [116, 111, 119, 110]) := by unfold grpB; rw [if_pos hc1]
   have hfr : frsB M s n = false := by unfold frsB; rw [hgr]; exact congrArg (!·) hc2
   have hpu : putB M s n = M := by unfold putB; rw [hfr]; exact if_neg (by simp)
   refine fin_out1 (v := .bool false) rfl rfl rfl (fun w' hw => ⟨(), by rw [hfr], ?_⟩)
   rw [hpu]
   exact StP.drop hw (by exact .cons _ (.cons_cons _ ((List.Sublist.refl _))))
  ·
   refine gs6 ?_
   refine RW.effn (J' := St B Φ ((.blk b1 191 [.string (bs ([116, 111, 119, 110] : List UInt8)), .string n]) :: (.kmap kMark Value.bool bm (fun j => if j = ((bs ([116, 111, 119, 110] : List UInt8)), n) then some true else (M) j)) :: C)) (e_kPut (L := kMark) (ew := Value.bool) (M := M) (k := ((bs ([116, 111, 119, 110] : List UInt8)), n)) (v := true) 1 rfl rfl rfl rfl (by assumption) uT145 rfl) ?_
   refine gs8 ?_
   have hdone : True := trivial
   have hgr : grpB s = (bs [116, 111, 119, 110]) := by unfold grpB; rw [if_pos hc1]
   have hfr : frsB M s n = true := by unfold frsB; rw [hgr]; exact congrArg (!·) hc2
   have hpu : putB M s n = fun j => if j = ((bs [116, 111, 119, 110]), n) then some true else M j := by unfold putB; rw [hfr, hgr, if_pos rfl]
   refine fin_out1 (v := .bool true) rfl rfl rfl (fun w' hw => ⟨(), by rw [hfr], ?_⟩)
   rw [hpu]
   exact StP.drop hw (by exact .cons _ (.cons_cons _ ((List.Sublist.refl _))))
 ·
  simp [-List.getD_eq_getElem?_getD] at hc1
  refine gs6 ?_
  refine RW.q (v := .agg #[.string s, .string n]) rfl (q_build (vals := [(0, .string s), (1, .string n)]) zero191 uT191 places191 rfl rfl) ?_
  refine RW.alc rfl fun b2 => ?_
  refine gs5 ?_
  have hkg : kMark.good (s, n) := ⟨hs, hn⟩
  refine gs2 ?_
  refine RW.c rfl (fun w1 hw1 => isName_c w1 (Go.K.hp w1) (Hp.le_refl _) hn) rfl rfl ?_
  refine gs4 ?_
  refine RW.g (b := (!(isNm n))) (v := .bool (((M) (s, n)).getD false)) rfl rfl rfl (fun h => q_kLook1 (L := kMark) (ew := Value.bool) (M := M) (k := (s, n)) (d := false) 1 rfl (gv_pos h) (gv_pos h) (by assumption) uT145 zero4) ?_
  refine RW.pkO rfl rfl rfl rfl fun qb2 hqb2 => ?_
  subst hqb2
  refine gs2 ?_
  refine AW.cond rfl (fun hc3 => ?_) fun hc3 => ?_
  ·
   refine gs7 ?_
   have hdone : True := trivial
   have hgr : grpB s = s := by unfold grpB; rw [if_neg hc1]
   have hfr : frsB M s n = false := by unfold frsB; rw [hgr]; exact congrArg (!·) hc3
   have hpu : putB M s n = M := by unfold putB; rw [hfr]; exact if_neg (by simp)
   refine fin_out1 (v := .bool false) rfl rfl rfl (fun w' hw => ⟨(), by rw [hfr], ?_⟩)
   rw [hpu]
   exact StP.drop hw (by exact .cons _ (.cons_cons _ ((List.Sublist.refl _))))
  ·
   refine gs6 ?_
   refine RW.effn (J' := St B Φ ((.blk b2 191 [.string s, .string n]) :: (.kmap kMark Value.bool bm (fun j => if j = (s, n) then some true else (M) j)) :: C)) (e_kPut (L := kMark) (ew := Value.bool) (M := M) (k := (s, n)) (v := true) 1 rfl rfl rfl rfl (by assumption) uT145 rfl) ?_
   refine gs8 ?_
   have hdone : True := trivial
   have hgr : grpB s = s := by unfold grpB; rw [if_neg hc1]
   have hfr : frsB M s n = true := by unfold frsB; rw [hgr]; exact congrArg (!·) hc3
   have hpu : putB M s n = fun j => if j = (s, n) then some true else M j := by unfold putB; rw [hfr, hgr, if_pos rfl]
   refine fin_out1 (v := .bool true) rfl rfl rfl (fun w' hw => ⟨(), by rw [hfr], ?_⟩)
   rw [hpu]
   exact StP.drop hw (by exact .cons _ (.cons_cons _ ((List.Sublist.refl _))))
theorem check_c {B : Bs} {Φ : Hp} {C : List Chunk} (hBE : B.E = []) {bo bq : Nat} {t : Bool} {bm : Nat} {M : Ba.Mk → Option Bool} {s n : ByteArray} (hs : s.size ≤ maxLen) (hn : n.size ≤ maxLen) (w : World) (hW : (St B Φ ((.blk bo 4 [.bool t]) :: (.blk bq 145 [.map (some bm)]) :: (.kmap kMark Value.bool bm (M)) :: C)).p w) :
  Calls pg 77 #[.string s, .string n, pV bq 0, pV bo 0] w fun e w' => ∃ _ : Unit, e = .returned (.tuple #[]) ∧ (St B Φ ((.blk bo 4 [.bool (frsB M s n && t)]) :: (.blk bq 145 [.map (some bm)]) :: (.kmap kMark Value.bool bm (putB M s n)) :: C)).p w' := by
 refine inJ4 13 Tryz.func77 rfl rfl (J := St B Φ ((.blk bo 4 [.bool t]) :: (.blk bq 145 [.map (some bm)]) :: (.kmap kMark Value.bool bm (M)) :: C)) hW ?_
 refine gs4 ?_
 refine RW.eff (fun u1 : Unit => .bool (frsB M s n)) (fun u1 => St B Φ ((.blk bo 4 [.bool t]) :: (.blk bq 145 [.map (some bm)]) :: (.kmap kMark Value.bool bm (putB M s n)) :: C)) rfl (e_call (args := #[.map (some bm), .string s, .string n]) oK rfl rfl (fun w1 hw1 => (fresh_c (C := ((.blk bo 4 [.bool t]) :: (.blk bq 145 [.map (some bm)]) :: C)) hBE (by assumption) (by assumption) w1 (hw1.perm (List.perm_middle (a := (.kmap kMark Value.bool bm (M) : Chunk)) (l₁ := ([.blk bo 4 [.bool t], .blk bq 145 [.map (some bm)]] : List Chunk)) (l₂ := (C : List Chunk))).symm)).mono fun e w2 ⟨x, he, hp⟩ => ⟨x, he, hp.perm (List.perm_middle (a := (.kmap kMark Value.bool bm (putB M s n) : Chunk)) (l₁ := ([.blk bo 4 [.bool t], .blk bq 145 [.map (some bm)]] : List Chunk)) (l₂ := (C : List Chunk)))⟩)) ?_
 intro u1
 refine gs2 ?_
 refine RW.q (v := .bool ((frsB M s n) && t)) rfl (qpA rfl rfl rfl) ?_
 refine gs2 ?_
 exact fin_none rfl rfl (fun _ h => h) (fun w' hw => ⟨(), rfl, hw⟩)
end Go.Proofs.YtpapfpoefiikpaaGreatDoor
namespace Go.Proofs.YtpapfpoefiikpaaGreatDoor
open Go Go.K Go.RowKit
section
variable {f : Nat → Value} {s : List (Nat × Value)} {B : Bs} {Φ : Hp} {C : List Chunk} {ty : TypeId} {pos : String} {af : Array Edge} {x y : Operand} {dst : Option Nat} {g : Option (Nat × Bool)}
theorem q_nLook2 {b : Nat} {M : List UInt8 → Option Int} {k : List UInt8} (hm : (imap b M).sat Φ) (hx : ev (fr f s) x = .map (some b)) (hy : ev (fr f s) y = .string (bs k)) (hk : k.length ≤ maxLen) : Qt pg (St B Φ C) f s ⟨dst, .lookup 108 x y true, ty, pos, af, g⟩ (.tuple #[.int .i64 ((M k).getD 0), .bool (M k).isSome]) :=
  q_kLookP (L := kStr) (d := (0 : Int)) hm hx hy hk Tryz.underlying108 zero3
theorem q_nLook {b : Nat} {M : List UInt8 → Option Int} {k : List UInt8} (hm : (imap b M).sat Φ) (hx : ev (fr f s) x = .map (some b)) (hy : ev (fr f s) y = .string (bs k)) (hk : k.length ≤ maxLen) : Qt pg (St B Φ C) f s ⟨dst, .lookup 108 x y false, ty, pos, af, g⟩ (.int .i64 ((M k).getD 0)) :=
  q_kLookP1 (L := kStr) (d := (0 : Int)) hm hx hy hk Tryz.underlying108 zero3
end
attribute [local irreducible] AW RW DW Post Qt
theorem place_c (w : World) (Φ : Hp) (hΦ : Hp.le Φ (hp w)) {n : Bc.Nm} {nv : Value} (hn : NmR Φ n nv) {s : List UInt8} (hs : s.length ≤ maxLen) : Calls pg 136 #[nv, .string (bs s)] w fun e w' => e = .returned (.int .i64 (n.place s)) ∧ Bel w.heap.size w w' := by
  obtain ⟨b1, b2, b3, b4, rfl, h1, h2, h3, h4⟩ := hn
  have hR : n.place s = if s = [111, 117, 116] then -1 else (n.pl s).getD 0 := rfl
  generalize n.place s = R at *
  refine in2 11 Tryz.func136 rfl rfl hΦ ?_
  repeat refine g1 ?_
  refine RW.bxA rfl rfl fun b5 => ?_
  rcases Decidable.em (s = [111, 117, 116]) with h | h
  · rw [if_pos h] at hR
    repeat first | refine t2 ?_ | refine t3 ?_ | refine g1 ?_
    exact fin_out1 (v := .int .i64 (-1)) rfl rfl rfl (fun w' hw => ⟨by rw [hR], hw.below rfl⟩)
  · rw [if_neg h] at hR
    repeat first | refine t2 ?_ | refine t3 ?_ | refine g1 ?_ | refine RW.q rfl (q_nLook h1 rfl rfl hs) ?_
    exact fin_out1 (v := .int .i64 ((n.pl s).getD 0)) rfl rfl rfl (fun w' hw => ⟨by rw [hR], hw.below rfl⟩)
theorem known_c (w : World) (Φ : Hp) (hΦ : Hp.le Φ (hp w)) {n : Bc.Nm} {nv : Value} (hn : NmR Φ n nv) {c : Int} {s : List UInt8} (hs : s.length ≤ maxLen) : Calls pg 133 #[nv, .int .u8 c, .string (bs s)] w fun e w' => e = .returned (.bool (n.knownI c s)) ∧ Bel w.heap.size w w' := by
  obtain ⟨b1, b2, b3, b4, rfl, h1, h2, h3, h4⟩ := hn
  have hR : n.knownI c s = if c = 80 ∨ c = 81 then (n.pl s).isSome else if c = 75 then (n.lk s).isSome else if c = 84 then (n.tn s).isSome else if c = 87 then (n.en s).isSome else true := rfl
  generalize n.knownI c s = R at *
  refine in3 47 Tryz.func133 rfl rfl hΦ ?_
  repeat refine g1 ?_
  refine RW.bxA rfl rfl fun b5 => ?_
  have h6 : c = 80 ∨ c = 81 ∨ c = 75 ∨ c = 84 ∨ c = 87 ∨ (c ≠ 80 ∧ c ≠ 81 ∧ c ≠ 75 ∧ c ≠ 84 ∧ c ≠ 87) := by omega
  rcases h6 with h | h | h | h | h | h
  all_goals
    simp [h] at hR
    subst hR
    repeat first | refine t2 ?_ | refine t3 ?_ | refine g1 ?_ | refine RW.q rfl (q_nLook2 h4 rfl rfl hs) ?_ | refine RW.q rfl (q_nLook2 h3 rfl rfl hs) ?_ | refine RW.q rfl (q_nLook2 h2 rfl rfl hs) ?_ | refine RW.q rfl (q_nLook2 h1 rfl rfl hs) ?_
    exact fin_out1 (v := .bool _) rfl rfl rfl (fun w' hw => ⟨rfl, hw.below rfl⟩)
section
variable {f : Nat → Value} {s : List (Nat × Value)} {B : Bs} {Φ : Hp} {C : List Chunk} {ty : TypeId} {pos : String} {af : Array Edge} {x y z : Operand} {ts : Array TypeId} {dst : Option Nat} {g : Option (Nat × Bool)}
theorem q_isNm {b : ByteArray} (hx : ev (fr f s) x = .string b) (hb : b.size ≤ maxLen) : Qt pg (St B Φ C) f s ⟨dst, .call { callee := .value (.func 120), args := #[x], argTypes := ts }, ty, pos, af, g⟩ (.bool (isNm b)) :=
  q_cl (k := 120) (args := #[.string b]) rfl (by simp [hx]) fun w1 hw1 => isName_c w1 Φ hw1.phi hb
theorem q_known {n : Bc.Nm} {nv : Value} (hn : NmR Φ n nv) {c : Int} {k : List UInt8} (hx : ev (fr f s) x = nv) (hy : ev (fr f s) y = .int .u8 c) (hz : ev (fr f s) z = .string (bs k)) (hk : k.length ≤ maxLen) : Qt pg (St B Φ C) f s ⟨dst, .call { callee := .value (.func 133), args := #[x, y, z], argTypes := ts }, ty, pos, af, g⟩ (.bool (n.knownI c k)) :=
  q_cl (k := 133) (args := #[nv, .int .u8 c, .string (bs k)]) rfl (by simp [hx, hy, hz]) fun w1 hw1 => known_c w1 Φ hw1.phi hn hk
theorem q_place {n : Bc.Nm} {nv : Value} (hn : NmR Φ n nv) {k : List UInt8} (hx : ev (fr f s) x = nv) (hy : ev (fr f s) y = .string (bs k)) (hk : k.length ≤ maxLen) : Qt pg (St B Φ C) f s ⟨dst, .call { callee := .value (.func 136), args := #[x, y], argTypes := ts }, ty, pos, af, g⟩ (.int .i64 (n.place k)) :=
  q_cl (k := 136) (args := #[nv, .string (bs k)]) rfl (by simp [hx, hy]) fun w1 hw1 => place_c w1 Φ hw1.phi hn hk
end
noncomputable abbrev fmap (b : Nat) (M : Ba.Mk → Option Bool) : Chunk := .kmap kMark Value.bool b M
theorem fresh_at {B : Bs} {Φ : Hp} {C C' : List Chunk} {bm : Nat} {M : Ba.Mk → Option Bool} {s n : ByteArray} (hBE : B.E = []) (i : Nat) (hi : C[i]? = some (fmap bm M)) (hs : s.size ≤ maxLen) (hn : n.size ≤ maxLen) (hC : C.set i (fmap bm (putB M s n)) = C') (w : World) (hw : StP B Φ C w) :
    Calls pg 78 #[.map (some bm), .string s, .string n] w fun e w' => ∃ _ : Unit, e = .returned (.bool (frsB M s n)) ∧ StP B Φ C' w' := by
  have h1 : StP B Φ ([fmap bm M] ++ C.eraseIdx i) w := StP.frontAt hw i hi
  exact (fresh_c hBE hs hn w h1).mono fun e w' ⟨_, he, h2⟩ => ⟨(), he, StP.backAt i hi hC h2⟩
theorem RW.frs {N : Nat} {D : List Deferred} {ops : Array Oper} {Q : Exit → Act → World → Prop} {Pn : List PanicEntry → World → Prop} [hQ : PanQ D Q Pn] {f : Nat → Value} {s : List (Nat × Value)} {B : Bs} {Φ : Hp} {C C' : List Chunk} {rest : List Oper} {ty : TypeId} {pos : String} {af : Array Edge} {ts : Array TypeId} {d : Nat} {x y z : Operand} {bm : Nat} {M : Ba.Mk → Option Bool} {so n : ByteArray} (hBE : B.E = []) (i : Nat) (hi : C[i]? = some (fmap bm M)) (hd : Nat.blt d N = true) (hx : ev (fr f s) x = .map (some bm)) (hy : ev (fr f s) y = .string so) (hz : ev (fr f s) z = .string n) (hs : so.size ≤ maxLen) (hn : n.size ≤ maxLen) [hC : SetL C i (fmap bm (putB M so n)) C']
    (kk : RW pg N D ops Q rest f ((d, .bool (frsB M so n)) :: s) (St B Φ C')) : RW pg N D ops Q (⟨some d, .call { callee := .value (.func 78), args := #[x, y, z], argTypes := ts }, ty, pos, af, none⟩ :: rest) f s (St B Φ C) :=
  RW.ec (X := Unit) (V := fun _ => .bool (frsB M so n)) (J' := fun _ => St B Φ C') (args := #[.map (some bm), .string so, .string n]) hd (fun w hw => fresh_at hBE i hi hs hn hC.h w hw) rfl (by simp [hx, hy, hz]) fun _ => kk
theorem right_c {B : Bs} {Φ : Hp} {C : List Chunk} (hBE : B.E = []) {bm : Nat} {M : Ba.Mk → Option Bool} {n : Bc.Nm} {nv : Value} (hn : NmR Φ n nv) {c : UInt8} {s : List UInt8} (hs : s.length ≤ maxLen) (w : World) (hW : (St B Φ (fmap bm M :: C)).p w) :
    Calls pg 100 #[.map (some bm), nv, .int .u8 ((c.toNat : Nat) : Int), .string (bs s)] w fun e w' => ∃ _ : Unit, e = .returned (.bool (Bc.rightN isNm frsB putB n M c s).1) ∧ (St B Φ (fmap bm (Bc.rightN isNm frsB putB n M c s).2 :: C)).p w' := by
  have hn2 := hn
  obtain ⟨b1, b2, b3, b4, rfl, h1, h2, h3, h4⟩ := hn2
  have hsz : (bs s).size ≤ maxLen := hs
  have hR : Bc.rightN isNm frsB putB n M c s = if ((c.toNat : Nat) : Int) = 79 then (frsB M (bs [111, 119, 110, 101, 114]) (bs s), putB M (bs [111, 119, 110, 101, 114]) (bs s)) else if ((c.toNat : Nat) : Int) = 81 ∧ s = [111, 117, 116] then (true, M) else (isNm (bs s) && n.knownI ((c.toNat : Nat) : Int) s, M) := rfl
  generalize Bc.rightN isNm frsB putB n M c s = R at *
  generalize ((c.toNat : Nat) : Int) = z at *
  refine inJ4 30 Tryz.func100 rfl rfl (J := St B Φ (fmap bm M :: C)) hW ?_
  repeat refine g1 ?_
  refine RW.bxA rfl rfl fun b5 => ?_
  rcases Decidable.em (z = 79) with e1 | e1
  · rw [if_pos e1] at hR
    subst hR
    repeat first | refine t2 ?_ | refine t3 ?_ | refine g1 ?_ | refine RW.frs (M := M) hBE 1 rfl rfl rfl rfl rfl (show (5 : Nat) ≤ maxLen by decide) hsz ?_
    exact fin_out1 (v := .bool _) rfl rfl rfl (fun w' hw => ⟨(), rfl, StP.drop hw (List.sublist_cons_self _ _)⟩)
  rw [if_neg e1] at hR
  rcases Decidable.em (z = 81 ∧ s = [111, 117, 116]) with e2 | e2
  · rw [if_pos e2] at hR
    subst hR
    have e3 := e2.1
    repeat first | refine RW.gl rfl rfl rfl (q_strT rfl rfl e2.2) ?_ | refine t2 ?_ | refine t3 ?_ | refine g1 ?_
    exact fin_out1 (v := .bool true) rfl rfl rfl (fun w' hw => ⟨(), rfl, StP.drop hw (List.sublist_cons_self _ _)⟩)
  rw [if_neg e2] at hR
  have e4 : (z = 81 ∧ s ≠ [111, 117, 116]) ∨ z ≠ 81 := by
    rcases Decidable.em (z = 81) with h | h
    · exact .inl ⟨h, fun h' => e2 ⟨h, h'⟩⟩
    · exact .inr h
  cases hnm : isNm (bs s) with
  | true =>
    rw [hnm] at hR
    subst hR
    rcases e4 with ⟨e3, e5⟩ | e3
    · repeat first | refine RW.gl rfl rfl rfl (q_strF rfl rfl e5) ?_ | refine t2 ?_ | refine t3 ?_ | refine g1 ?_ | refine RW.q rfl (q_as (q_isNm rfl hsz) (congrArg Value.bool hnm)) ?_ | refine RW.gl rfl rfl rfl (q_known hn rfl rfl rfl hs) ?_
      exact fin_out1 (v := .bool _) rfl rfl rfl (fun w' hw => ⟨(), rfl, StP.drop hw (List.sublist_cons_self _ _)⟩)
    · repeat first | refine t2 ?_ | refine t3 ?_ | refine g1 ?_ | refine RW.q rfl (q_as (q_isNm rfl hsz) (congrArg Value.bool hnm)) ?_ | refine RW.gl rfl rfl rfl (q_known hn rfl rfl rfl hs) ?_
      exact fin_out1 (v := .bool _) rfl rfl rfl (fun w' hw => ⟨(), rfl, StP.drop hw (List.sublist_cons_self _ _)⟩)
  | false =>
    rw [hnm] at hR
    subst hR
    rcases e4 with ⟨e3, e5⟩ | e3
    · repeat first | refine RW.gl rfl rfl rfl (q_strF rfl rfl e5) ?_ | refine t2 ?_ | refine t3 ?_ | refine g1 ?_ | refine RW.q rfl (q_as (q_isNm rfl hsz) (congrArg Value.bool hnm)) ?_
      exact fin_out1 (v := .bool false) rfl rfl rfl (fun w' hw => ⟨(), rfl, StP.drop hw (List.sublist_cons_self _ _)⟩)
    · repeat first | refine t2 ?_ | refine t3 ?_ | refine g1 ?_ | refine RW.q rfl (q_as (q_isNm rfl hsz) (congrArg Value.bool hnm)) ?_
      exact fin_out1 (v := .bool false) rfl rfl rfl (fun w' hw => ⟨(), rfl, StP.drop hw (List.sublist_cons_self _ _)⟩)
end Go.Proofs.YtpapfpoefiikpaaGreatDoor
namespace Bc
open Bt
def DOk (d : Node) : Prop := 0 < (wordsOf d).length ∧ ∃ ps, props d.Text = some ps ∧ ∀ p ∈ propsOf d, ∃ W, wanted d p.Text ps = some W ∧ fits p.Kids W = true
end Bc
namespace Go.Proofs.YtpapfpoefiikpaaGreatDoor
open Go Go.K Go.RowKit
theorem kmap_mono {κ β : Type} [DecidableEq κ] {P : Program} {kt : TypeId} {L : KL P kt κ} {ev : β → Value} {b : Nat} {M : κ → Option β} {Φ Ψ : Hp} (h : (Chunk.kmap L ev b M).sat Φ) (hl : Hp.le Φ Ψ) : (Chunk.kmap L ev b M).sat Ψ := by
  obtain ⟨es, clock, h1, h2⟩ := h
  exact ⟨es, clock, hl _ _ h1, h2⟩
theorem NmR.mono {Φ Ψ : Hp} {n : Bc.Nm} {r : Value} (h : NmR Φ n r) (hl : Hp.le Φ Ψ) : NmR Ψ n r := by
  obtain ⟨b1, b2, b3, b4, e, h1, h2, h3, h4⟩ := h
  exact ⟨b1, b2, b3, b4, e, kmap_mono h1 hl, kmap_mono h2 hl, kmap_mono h3 hl, kmap_mono h4 hl⟩
theorem TabM.mono {Φ Ψ : Hp} {b : Nat} {M : List UInt8 → Option Value} (h : TabM Φ b M) (hl : Hp.le Φ Ψ) : TabM Ψ b M := by
  refine ⟨kmap_mono h.1 hl, fun k => ?_⟩
  have h2 := h.2 k
  cases hp : Bc.props k with
  | none => rw [hp] at h2; exact h2
  | some ps => rw [hp] at h2; obtain ⟨v, e, h3⟩ := h2; exact ⟨v, e, h3.mono hl⟩
section
variable {N : Nat} {D : List Deferred} {ops : Array Oper} {Q : Exit → Act → World → Prop} {Pn : List PanicEntry → World → Prop} {f : Nat → Value} {s : List (Nat × Value)} {B : Bs} {Φ : Hp} {C C' : List Chunk} {J0 : Cls} {tg : List Tg} {rest : List Oper} {ty : TypeId} {pos : String} {af : Array Edge} {ts : Array TypeId} {d : Nat} {x y z u : Operand} {bm : Nat} {M : Ba.Mk → Option Bool}
theorem RW.mkF [hQ : PanQ D Q Pn] {T : TypeId} (hd : Nat.blt d N = true) (kk : ∀ b, RW pg N D ops Q rest f ((d, .map (some b)) :: s) (St B Φ (fmap b (fun _ => none) :: C))) : RW pg N D ops Q (⟨some d, .makeMap T none, ty, pos, af, none⟩ :: rest) f s (St B Φ C) :=
  RW.eff (X := Nat) (fun b => .map (some b)) (fun b => St B Φ (fmap b (fun _ => none) :: C)) hd (e_kmake kMark Value.bool) kk
theorem DW.frs {so n : ByteArray} (hBE : B.E = []) (i : Nat) (hi : C[i]? = some (fmap bm M)) (hd : Nat.blt d N = true) (hx : ev (fr f s) x = .map (some bm)) (hy : ev (fr f s) y = .string so) (hz : ev (fr f s) z = .string n) (hs : so.size ≤ maxLen) (hn : n.size ≤ maxLen) [hC : SetL C i (fmap bm (putB M so n)) C'] (hJ : ∀ w, (St B Φ C').p w → J0.p w)
    (kk : DW pg Pn N D ops J0 Q tg rest f ((d, .bool (frsB M so n)) :: s) (St B Φ C')) : DW pg Pn N D ops J0 Q (.e :: tg) (⟨some d, .call { callee := .value (.func 78), args := #[x, y, z], argTypes := ts }, ty, pos, af, none⟩ :: rest) f s (St B Φ C) :=
  DW.eff (X := Unit) (fun _ => .bool (frsB M so n)) (fun _ => St B Φ C') (fun _ _ => hJ) hd (e_call (args := #[.map (some bm), .string so, .string n]) oK rfl (by simp [hx, hy, hz]) fun w hw => fresh_at hBE i hi hs hn hC.h w hw) fun _ => kk
theorem right_at {n : Bc.Nm} {nv : Value} (hn : NmR Φ n nv) {c : UInt8} {k : List UInt8} (hBE : B.E = []) (i : Nat) (hi : C[i]? = some (fmap bm M)) (hs : k.length ≤ maxLen) (hC : C.set i (fmap bm (Bc.rightN isNm frsB putB n M c k).2) = C') (w : World) (hw : StP B Φ C w) :
    Calls pg 100 #[.map (some bm), nv, .int .u8 ((c.toNat : Nat) : Int), .string (bs k)] w fun e w' => ∃ _ : Unit, e = .returned (.bool (Bc.rightN isNm frsB putB n M c k).1) ∧ StP B Φ C' w' := by
  have h1 : StP B Φ ([fmap bm M] ++ C.eraseIdx i) w := StP.frontAt hw i hi
  exact (right_c hBE hn hs w h1).mono fun e w' ⟨_, he, h2⟩ => ⟨(), he, StP.backAt i hi hC h2⟩
theorem DW.rt {n : Bc.Nm} {nv : Value} {c : UInt8} {k : List UInt8} {j gd : Nat} {want : Bool} (hn : NmR Φ n nv) (hBE : B.E = []) (i : Nat) (hi : C[i]? = some (fmap bm M)) (hd : Nat.blt d N = true) (hg : (ops[j]?).bind (·.dst) = some gd) (hb : fr f s gd = .bool want) (hx : ev (fr f s) x = .map (some bm)) (hy : ev (fr f s) y = nv) (hz : ev (fr f s) z = .int .u8 ((c.toNat : Nat) : Int)) (hu : ev (fr f s) u = .string (bs k)) (hs : k.length ≤ maxLen) [hC : SetL C i (fmap bm (Bc.rightN isNm frsB putB n M c k).2) C'] (hJ : ∀ w, (St B Φ C').p w → J0.p w)
    (kk : DW pg Pn N D ops J0 Q tg rest f ((d, .bool (Bc.rightN isNm frsB putB n M c k).1) :: s) (St B Φ C')) : DW pg Pn N D ops J0 Q (.e :: tg) (⟨some d, .call { callee := .value (.func 100), args := #[x, y, z, u], argTypes := ts }, ty, pos, af, some (j, want)⟩ :: rest) f s (St B Φ C) :=
  DW.effg (X := Unit) (fun _ => .bool (Bc.rightN isNm frsB putB n M c k).1) (fun _ => St B Φ C') (fun _ _ => hJ) hd hg hb (e_call (args := #[.map (some bm), nv, .int .u8 ((c.toNat : Nat) : Int), .string (bs k)]) oK rfl (by simp [hx, hy, hz, hu]) fun w hw => right_at hn hBE i hi hs hC.h w hw) fun _ => kk
theorem DW.gs {op : Op} {j gd : Nat} {want : Bool} (hJ : ∀ w, (St B Φ C).p w → J0.p w) (hd : Nat.blt d N = true) (hy : (ops[j]?).bind (·.dst) = some gd) (hb : fr f s gd = .bool (!want)) (k : DW pg Pn N D ops J0 Q tg rest f ((d, undef) :: s) (St B Φ C)) : DW pg Pn N D ops J0 Q (.q :: tg) (⟨some d, op, ty, pos, af, some (j, want)⟩ :: rest) f s (St B Φ C) :=
  DW.g (v := undef) hJ hd hy hb (fun h => by cases want <;> cases h) (by rw [gv_neg (by cases want <;> simp)]; exact k)
theorem DW.gse {op : Op} {j gd : Nat} {want : Bool} (hJ : ∀ w, (St B Φ C).p w → J0.p w) (hd : Nat.blt d N = true) (hy : (ops[j]?).bind (·.dst) = some gd) (hb : fr f s gd = .bool (!want)) (k : DW pg Pn N D ops J0 Q tg rest f ((d, undef) :: s) (St B Φ C)) : DW pg Pn N D ops J0 Q (.e :: tg) (⟨some d, op, ty, pos, af, some (j, want)⟩ :: rest) f s (St B Φ C) :=
  DW.skp (fun _ => hJ) hd hy hb (by cases want <;> simp) k
theorem val_pos {p : Bc.Prp} {xs : List Bt.Node} (hp : Bc.PG p) (hf : Bc.fits xs p = true) {i : Nat} (hi : i < xs.length) (hk : (xs.getD i default).Kind = 3) : (p.many = false → i < p.values.length) ∧ 0 < (Bc.val p i).length := by
  obtain ⟨h1, h2⟩ := Bc.fits_amts hp hf i hi
  refine ⟨h1, ?_⟩
  have h3 : (Bc.amts (xs.getD i default)).length = 1 := by unfold Bc.amts; rw [if_neg (by rw [hk]; decide)]; rfl
  omega
theorem q_pval {dst : Option Nat} {g : Option (Nat × Bool)} {p : Bc.Prp} {v : Value} (hp : RepSl Φ p.values v) {i : Nat} (h1 : p.many = true → 0 < p.values.length) (h2 : p.many = false → i < p.values.length) (hx : ev (fr f s) x = prA p v) (hy : ev (fr f s) y = .int .i64 (i : Int)) : Qt pg (St B Φ C) f s ⟨dst, .call { callee := .value (.func 101), args := #[x, y], argTypes := ts }, ty, pos, af, g⟩ (.string (bs (Bc.val p i))) :=
  q_cl (k := 101) (args := #[prA p v, .int .i64 (i : Int)]) rfl (by simp [hx, hy]) fun w1 hw1 => pvalue_c w1 Φ hw1.phi hp h1 h2
end
theorem t4 {A B : Prop} (k : B) (h : Kt B → A := by
  intro k
  first
  | apply DW.q
    intro _ h
    first | refine StP.drop h ?_ | (refine StP.know ?_ (StP.drop h ?_); assumption)
    repeat first | exact List.Sublist.refl _ | apply List.Sublist.cons_cons | apply List.Sublist.cons
    exact rfl
    first
    | apply qa_mv
      exact rfl
    | apply qa_as
      exact rfl
    | apply qa_fa0
      exact rfl
    | apply qa_ld
      exact rfl
      first | exact Cell.blk 0 rfl rfl | exact Cell.blk 1 rfl rfl | exact Cell.blk 2 rfl rfl | exact Cell.blk 3 rfl rfl | exact Cell.blk 4 rfl rfl | exact Cell.blk 5 rfl rfl
    | apply qa_ldA
      exact rfl
      first | exact Cells.blk 0 rfl | exact Cells.blk 1 rfl | exact Cells.blk 2 rfl | exact Cells.blk 3 rfl | exact Cells.blk 4 rfl | exact Cells.blk 5 rfl
      exact rfl
    | apply q_not
      exact rfl
    | apply qa_fat
      exact rfl
    | apply qa_fab
      exact rfl
    | apply q_pkT
      exact rfl
      exact rfl
    | apply q_pkF
      exact rfl
      exact rfl
    exact k.r
  | apply DW.gl
    intro _ h
    first | refine StP.drop h ?_ | (refine StP.know ?_ (StP.drop h ?_); assumption)
    repeat first | exact List.Sublist.refl _ | apply List.Sublist.cons_cons | apply List.Sublist.cons
    exact rfl
    exact rfl
    exact rfl
    first
    | apply qa_mv
      exact rfl
    | apply qa_as
      exact rfl
    | apply qa_fa0
      exact rfl
    | apply qa_ld
      exact rfl
      first | exact Cell.blk 0 rfl rfl | exact Cell.blk 1 rfl rfl | exact Cell.blk 2 rfl rfl | exact Cell.blk 3 rfl rfl | exact Cell.blk 4 rfl rfl | exact Cell.blk 5 rfl rfl
    | apply qa_ldA
      exact rfl
      first | exact Cells.blk 0 rfl | exact Cells.blk 1 rfl | exact Cells.blk 2 rfl | exact Cells.blk 3 rfl | exact Cells.blk 4 rfl | exact Cells.blk 5 rfl
      exact rfl
    | apply q_not
      exact rfl
    | apply qa_fat
      exact rfl
    | apply qa_fab
      exact rfl
    | apply q_pkT
      exact rfl
      exact rfl
    | apply q_pkF
      exact rfl
      exact rfl
    exact k.r
  | apply DW.gs
    intro _ h
    first | refine StP.drop h ?_ | (refine StP.know ?_ (StP.drop h ?_); assumption)
    repeat first | exact List.Sublist.refl _ | apply List.Sublist.cons_cons | apply List.Sublist.cons
    exact rfl
    exact rfl
    exact rfl
    exact k.r
  | apply DW.gse
    intro _ h
    first | refine StP.drop h ?_ | (refine StP.know ?_ (StP.drop h ?_); assumption)
    repeat first | exact List.Sublist.refl _ | apply List.Sublist.cons_cons | apply List.Sublist.cons
    exact rfl
    exact rfl
    exact rfl
    exact k.r) : A := h ⟨k⟩
attribute [local irreducible] AW RW DW Post Qt
theorem wrongName_c (w : World) (Φ : Hp) (hΦ : Hp.le Φ (hp w)) {x : Bt.Node} {kv : Value} (hk : RepSl Φ x.Kids kv) {n : Bc.Nm} {nv : Value} (hn : NmR Φ n nv) (hE : ∀ d ∈ x.Kids, Bc.DOk d) :
    Calls pg 54 #[ndA x kv, nv] w fun e w' => e = .returned (.tuple #[.int .i64 ((Bc.wnL isNm frsB putB n (fun _ => none) x.Kids).getD 0), .bool (Bc.wnL isNm frsB putB n (fun _ => none) x.Kids).isSome]) ∧ Bel w.heap.size w w' := by
  obtain ⟨R, hR⟩ : ∃ R, Bc.wnL isNm frsB putB n (fun _ => none) x.Kids = R := ⟨_, rfl⟩
  rw [hR]
  have hn2 := hn
  obtain ⟨b1, b2, b3, b4, rfl, -⟩ := hn2
  refine in2 93 Tryz.func54 rfl rfl hΦ ?_
  repeat refine g1 ?_
  refine RW.bxA rfl rfl fun bx => ?_
  refine RW.bxA rfl rfl fun bn => ?_
  repeat refine g1 ?_
  refine RW.cS rfl (fun w1 hw1 => properties_c w1 Φ hw1.phi) rfl rfl ?_
  rintro _ Ψ ⟨bt, Mt, rfl, htab⟩ hlΨ
  replace hk := hk.mono hlΨ
  replace hn := hn.mono hlΨ
  repeat refine g1 ?_
  refine RW.mkF rfl fun bm => ?_
  repeat refine g1 ?_
  have hkm : x.Kids.length * 72 ≤ 140737488355328 := hk.max
  generalize x.Kids = ds at *
  obtain ⟨A, c, rfl, _⟩ := hk.sl
  repeat refine g1 ?_
  refine AW.lp (fun s J m => ∃ (i : Nat) (M : Ba.Mk → Option Bool), s = [(24, .int .i64 (i : Int)), (23, .int .i64 ((ds.length : Nat) : Int)), (22, .slice A ds.length c), (7, .map (some bm)), (6, .map (some bt)), (3, .pointer (some ⟨bn, 0, none⟩))] ∧ J = St ⟨w, Φ, []⟩ Ψ [fmap bm M, .blk bn 110 (nmV b1 b2 b3 b4)] ∧ m = ds.length - i ∧ i ≤ ds.length ∧ Bc.wnL isNm frsB putB n M (ds.drop i) = R) ⟨0, _, rfl, rfl, rfl, Nat.zero_le _, hR⟩ ?_
  rintro _ _ _ _ ⟨i, M, rfl, rfl, rfl, hi, hu⟩
  repeat refine g1 ?_
  refine AW.cond rfl (fun h => ?_) fun h => ?_
  · have h : i < ds.length := by simpa using h
    rw [drop_at h] at hu
    repeat refine g1 ?_
    refine RW.nd hk h rfl rfl rfl rfl fun kd q hkd hwd => ?_
    obtain ⟨hwl, ps, hps, hpp⟩ := hE _ (mem_at h)
    generalize ds.getD i default = d at *
    have htl : d.Text.length ≤ maxLen := hwd.2.1
    have hsl := sortOf_len htl
    rw [Bc.wnL, hps] at hu
    replace hu : (if d.Text ≠ [98, 97, 115, 105, 110] ∧ frsB M (bs (Bc.sortOf d.Text)) (bs (Bc.word d).Text) = false then some (Bc.word d).At else match Bc.wnP isNm frsB putB n d ps (if d.Text = [98, 97, 115, 105, 110] then M else putB M (bs (Bc.sortOf d.Text)) (bs (Bc.word d).Text)) (Bc.propsOf d) with | .error a => some a | .ok sn' => Bc.wnL isNm frsB putB n sn' (ds.drop (i + 1))) = R := hu
    repeat refine g1 ?_
    refine RW.q rfl (q_neqStr (l := d.Text) (r := [98, 97, 115, 105, 110]) rfl rfl) ?_
    repeat refine g1 ?_
    refine AW.mid (fun s J => ∃ M', s = [(9, .pointer (some ⟨q, 0, none⟩)), (24, .int .i64 (i : Int)), (23, .int .i64 ((ds.length : Nat) : Int)), (22, .slice A ds.length c), (7, .map (some bm)), (6, .map (some bt)), (3, .pointer (some ⟨bn, 0, none⟩))] ∧ J = St ⟨w, Φ, []⟩ Ψ [.blk q 40 (ndC d kd), fmap bm M', .blk bn 110 (nmV b1 b2 b3 b4)] ∧ (match Bc.wnP isNm frsB putB n d ps M' (Bc.propsOf d) with | .error a => some a | .ok sn' => Bc.wnL isNm frsB putB n sn' (ds.drop (i + 1))) = R) ?_ ?_
    · refine AW.cond rfl (fun h1 => ?_) fun h1 => ?_
      · have h1 : d.Text ≠ [98, 97, 115, 105, 110] := by simpa using h1
        rw [if_neg h1] at hu
        repeat refine g1 ?_
        refine RW.cS rfl (fun w1 hw1 => bword_c w1 Ψ hw1.phi hkd hwl) rfl rfl ?_
        rintro _ Ψ2 ⟨wv, rfl, hww, hwk⟩ hlΨ2
        have hnl : (Bc.word d).Text.length ≤ maxLen := hww.2.1
        generalize Bc.word d = wd at *
        refine RW.alc rfl fun q2 => ?_
        repeat refine g1 ?_
        refine RW.stA 0 rfl rfl rfl (ndC_one hwk.sl) rfl rfl ?_
        repeat refine g1 ?_
        refine AW.draw (J0 := St ⟨w, Φ, []⟩ Ψ2 [.blk q2 40 (ndC wd wv), .blk q 40 (ndC d kd)]) [.q, .q, .q, .q, .q, .q, .e, .q] [0, 1, 2, 3, 4, 5, 6, 7] hmix (by kernel_rfl) ?_
        repeat refine t4 ?_
        refine DW.c (fun _ h => StP.drop h (.cons_cons _ (.cons_cons _ (List.nil_sublist _)))) rfl (fun w _ => sortOf_c w) rfl rfl ?_
        repeat refine t4 ?_
        refine DW.frs (M := M) rfl 2 rfl rfl rfl rfl rfl hsl hnl (fun _ h => StP.drop h (.cons_cons _ (.cons_cons _ (List.nil_sublist _)))) ?_
        repeat refine t4 ?_
        refine DW.nil ?_
        repeat refine g1 ?_
        refine AW.cond rfl (fun h2 => ?_) fun h2 => ?_
        · have h2 : frsB M (bs (Bc.sortOf d.Text)) (bs wd.Text) = false := by simpa using h2
          rw [if_pos ⟨h1, h2⟩] at hu
          subst hu
          repeat first | refine g1 ?_ | refine Post.mid_r ?_
          exact fin_out2 (v := .int .i64 wd.At) (u := .bool true) rfl rfl rfl rfl (fun w' hw => ⟨rfl, hw.below rfl⟩)
        · have h2 : frsB M (bs (Bc.sortOf d.Text)) (bs wd.Text) = true := by simpa using h2
          rw [if_neg (fun h => by rw [h2] at h; cases h.2)] at hu
          repeat refine g1 ?_
          exact Post.mid_n ⟨_, rfl, rfl, hu⟩ ⟨rfl, rfl, rfl, rfl, rfl, rfl, rfl, trivial⟩ (fun _ h => StP.know hlΨ2 (h.drop (.cons _ (List.Sublist.refl _))))
      · have h1 : d.Text = [98, 97, 115, 105, 110] := by simpa using h1
        rw [if_pos h1, if_neg (fun h => h.1 h1)] at hu
        repeat refine g1 ?_
        exact Post.mid_n ⟨_, rfl, rfl, hu⟩ ⟨rfl, rfl, rfl, rfl, rfl, rfl, rfl, trivial⟩ (fun _ h => h)
    clear hu
    rintro f' _ _ ⟨M1, rfl, rfl, hu⟩
    repeat refine g1 ?_
    refine RW.cS rfl (fun w1 hw1 => words_c w1 Ψ hw1.phi hkd) rfl rfl ?_
    rintro _ Ψ3 ⟨v1, v2, rfl, -, hvp⟩ hlΨ3
    have hvm : (Bc.propsOf d).length * 72 ≤ 140737488355328 := hvp.max
    have hkd3 := hkd.mono hlΨ3
    have htab3 := htab.mono hlΨ3
    have hn3 := hn.mono hlΨ3
    obtain ⟨pv, hpv, hpr⟩ := tab_look htab3 hps
    generalize Bc.propsOf d = pl at *
    obtain ⟨A2, c2, rfl, _⟩ := hvp.sl
    repeat refine g1 ?_
    refine AW.lp (fun s J m => ∃ (j : Nat) (M : Ba.Mk → Option Bool), s = [(50, .int .i64 (j : Int)), (49, .int .i64 ((pl.length : Nat) : Int)), (48, .slice A2 pl.length c2), (9, .pointer (some ⟨q, 0, none⟩)), (24, .int .i64 (i : Int)), (23, .int .i64 ((ds.length : Nat) : Int)), (22, .slice A ds.length c), (7, .map (some bm)), (6, .map (some bt)), (3, .pointer (some ⟨bn, 0, none⟩))] ∧ J = St ⟨w, Φ, []⟩ Ψ3 [.blk q 40 (ndC d kd), fmap bm M, .blk bn 110 (nmV b1 b2 b3 b4)] ∧ m = pl.length - j ∧ j ≤ pl.length ∧ (match Bc.wnP isNm frsB putB n d ps M (pl.drop j) with | .error a => some a | .ok sn' => Bc.wnL isNm frsB putB n sn' (ds.drop (i + 1))) = R) ⟨0, _, rfl, rfl, rfl, Nat.zero_le _, hu⟩ ?_
    clear hu
    rintro _ _ _ _ ⟨j, M, rfl, rfl, rfl, hj, hu⟩
    repeat refine g1 ?_
    refine AW.cond rfl (fun h2 => ?_) fun h2 => ?_
    · have h2 : j < pl.length := by simpa using h2
      rw [drop_at h2, Bc.wnP] at hu
      repeat refine g1 ?_
      refine RW.nd hvp h2 rfl rfl rfl rfl fun kp q3 hkp hwp => ?_
      obtain ⟨W, hW, hfit⟩ := hpp _ (mem_at h2)
      generalize pl.getD j default = p at *
      have hpl : p.Text.length ≤ maxLen := hwp.2.1
      have hpg := Bc.wanted_pg (Bc.props_pg hps) hW
      rw [hW] at hu
      replace hu : (match (match Bc.wnV isNm frsB putB n W M 0 p.Kids with | .error a => .error a | .ok sn' => Bc.wnP isNm frsB putB n d ps sn' (pl.drop (j + 1)) : Except Int (Ba.Mk → Option Bool)) with | .error a => some a | .ok sn' => Bc.wnL isNm frsB putB n sn' (ds.drop (i + 1))) = R := hu
      repeat refine g1 ?_
      refine RW.q rfl (q_as (q_tLook1 (k := d.Text) htab3 rfl rfl htl) (by rw [hpv]; rfl : _ = pv)) ?_
      repeat refine g1 ?_
      refine RW.cS rfl (fun w1 hw1 => wanted_c w1 Ψ3 hw1.phi hkd3 hpr) rfl rfl ?_
      rintro _ Ψ4 ⟨wv, rfl, hwv⟩ hlΨ4
      rw [hW] at hwv
      rw [hW]
      replace hwv : RepSl Ψ4 W.values wv := hwv
      have hkp4 := hkp.mono hlΨ4
      have hn4 := hn3.mono hlΨ4
      have hkpm : p.Kids.length * 72 ≤ 140737488355328 := hkp.max
      repeat refine g1 ?_
      refine RW.alc rfl fun q4 => ?_
      refine RW.stA 0 rfl rfl rfl (prC_one hwv.sl) rfl rfl ?_
      repeat refine g1 ?_
      generalize p.Kids = vs at *
      obtain ⟨A3, c3, rfl, _⟩ := hkp.sl
      repeat refine g1 ?_
      refine AW.lp (fun s J m => ∃ (k : Nat) (M : Ba.Mk → Option Bool), s = [(68, .int .i64 (k : Int)), (67, .int .i64 ((vs.length : Nat) : Int)), (66, .slice A3 vs.length c3), (15, .pointer (some ⟨q4, 0, none⟩)), (50, .int .i64 (j : Int)), (49, .int .i64 ((pl.length : Nat) : Int)), (48, .slice A2 pl.length c2), (9, .pointer (some ⟨q, 0, none⟩)), (24, .int .i64 (i : Int)), (23, .int .i64 ((ds.length : Nat) : Int)), (22, .slice A ds.length c), (7, .map (some bm)), (6, .map (some bt)), (3, .pointer (some ⟨bn, 0, none⟩))] ∧ J = St ⟨w, Φ, []⟩ Ψ4 [.blk q4 167 (prC W wv), .blk q 40 (ndC d kd), fmap bm M, .blk bn 110 (nmV b1 b2 b3 b4)] ∧ m = vs.length - k ∧ k ≤ vs.length ∧ (match (match Bc.wnV isNm frsB putB n W M k (vs.drop k) with | .error a => .error a | .ok sn' => Bc.wnP isNm frsB putB n d ps sn' (pl.drop (j + 1)) : Except Int (Ba.Mk → Option Bool)) with | .error a => some a | .ok sn' => Bc.wnL isNm frsB putB n sn' (ds.drop (i + 1))) = R) ⟨0, _, rfl, rfl, rfl, Nat.zero_le _, hu⟩ ?_
      clear hu
      rintro _ _ _ _ ⟨k, M, rfl, rfl, rfl, hk3, hu⟩
      repeat refine g1 ?_
      refine AW.cond rfl (fun h3 => ?_) fun h3 => ?_
      · have h3 : k < vs.length := by simpa using h3
        rw [drop_at h3, Bc.wnV] at hu
        repeat refine g1 ?_
        refine RW.nd6 hkp4 h3 rfl rfl rfl rfl rfl fun kk q5 hkk hwk => ?_
        have hvv := fun h => val_pos (i := k) hpg hfit h3 h
        generalize vs.getD k default = v at *
        have hvl : v.Text.length ≤ maxLen := hwk.2.1
        repeat refine g1 ?_
        rcases Decidable.em (v.Kind = 3) with h4 | h4
        · obtain ⟨hv1, hv2⟩ := hvv h4
          rw [if_pos h4] at hu
          refine AW.draw (J0 := St ⟨w, Φ, []⟩ Ψ4 [.blk q5 40 (ndC v kk), .blk q4 167 (prC W wv), .blk bn 110 (nmV b1 b2 b3 b4)]) [.q, .q, .q, .q, .q, .q, .q, .q, .q, .q, .q, .q, .e, .q, .q] [0, 1, 2, 3, 4, 5, 6, 7, 8, 9, 10, 11, 12, 13, 14] hmix (by kernel_rfl) ?_
          repeat refine t4 ?_
          refine DW.q (fun _ h => StP.drop h (.cons_cons _ (.cons_cons _ (.cons _ (.cons _ (List.Sublist.refl _)))))) rfl (q_eqlT (a := v.Kind) (b := 3) rfl rfl h4) ?_
          repeat refine t4 ?_
          refine DW.gl (fun _ h => StP.drop h (.cons_cons _ (.cons_cons _ (.cons _ (.cons _ (List.Sublist.refl _)))))) rfl rfl rfl (q_pval hwv hpg.1 hv1 rfl rfl) ?_
          refine DW.gl (fun _ h => StP.drop h (.cons_cons _ (.cons_cons _ (.cons _ (.cons _ (List.Sublist.refl _)))))) rfl rfl rfl (q_as (q_indexS (l := Bc.val W k) (i := (0 : Int)) rfl rfl Tryz.underlying9 (by omega) (by omega)) rfl) ?_
          repeat refine t4 ?_
          refine DW.rt (M := M) (c := (Bc.val W k).getD 0 0) hn4 rfl 3 rfl rfl rfl rfl rfl rfl rfl rfl hvl (fun _ h => StP.drop h (.cons_cons _ (.cons_cons _ (.cons _ (.cons _ (List.Sublist.refl _)))))) ?_
          repeat refine t4 ?_
          refine DW.nil ?_
          repeat refine g1 ?_
          generalize Bc.rightN isNm frsB putB n M ((Bc.val W k).getD 0 0) v.Text = rr at *
          refine AW.cond rfl (fun h5 => ?_) fun h5 => ?_
          · have h5 : rr.1 = false := by simpa using h5
            rw [if_pos h5] at hu
            subst hu
            repeat refine g1 ?_
            exact fin_out2 (v := .int .i64 v.At) (u := .bool true) rfl rfl rfl rfl (fun w' hw => ⟨rfl, hw.below rfl⟩)
          · have h5 : rr.1 = true := by simpa using h5
            rw [if_neg (by rw [h5]; simp)] at hu
            repeat refine g1 ?_
            exact Post.bk ⟨k + 1, _, rfl, rfl, rfl, h3, hu⟩
        · rw [if_neg h4] at hu
          refine AW.draw (J0 := St ⟨w, Φ, []⟩ Ψ4 [.blk q5 40 (ndC v kk)]) [.q, .q, .q, .q, .q, .q, .q, .q, .q, .q, .q, .q, .e, .q, .q] [0, 1, 2, 3, 4, 5, 6, 7, 8, 9, 10, 11, 12, 13, 14] hmix (by kernel_rfl) ?_
          repeat refine t4 ?_
          refine DW.q (fun _ h => StP.drop h (.cons_cons _ (List.nil_sublist _))) rfl (q_eqlF (a := v.Kind) (b := 3) rfl rfl h4) ?_
          repeat refine t4 ?_
          refine DW.nil ?_
          repeat first | refine t2 ?_ | refine g1 ?_
          exact Post.bk ⟨k + 1, _, rfl, rfl, rfl, h3, hu⟩
      · have h3 : k = vs.length := by have := odF h3; omega
        rw [h3, List.drop_length, Bc.wnV] at hu
        repeat refine g1 ?_
        exact Post.bk (hJ := fun _ h => StP.know hlΨ4 (h.drop (.cons _ (List.Sublist.refl _)))) ⟨j + 1, _, rfl, rfl, rfl, h2, hu⟩
    · have h2 : j = pl.length := by have := odF h2; omega
      rw [h2, List.drop_length, Bc.wnP] at hu
      repeat refine g1 ?_
      exact Post.bk (hJ := fun _ h => StP.know hlΨ3 (h.drop (.cons _ (List.Sublist.refl _)))) ⟨i + 1, _, rfl, rfl, rfl, h, hu⟩
  · have h : i = ds.length := by have := odF h; omega
    rw [h, List.drop_length, Bc.wnL] at hu
    subst hu
    repeat refine g1 ?_
    exact fin_out2 (v := .int .i64 0) (u := .bool false) rfl rfl rfl rfl (fun w' hw => ⟨rfl, hw.below rfl⟩)
end Go.Proofs.YtpapfpoefiikpaaGreatDoor
