/- Lemmas. Conditions: those of each theorem. -/
import Derived.Test.YtnfmjfheciihjaaGreatDoorTLxA
import Derived.Test.YtnfmjfheciihjaaGreatDoorTRnd
set_option maxRecDepth 8000
set_option maxHeartbeats 16000000
namespace Go.Proofs.YtnfmjfheciihjaaGreatDoor
open Go Go.K Go.RowKit
attribute [local irreducible] AW RW DW Post Qt
theorem tokV {k k' : Int} {t t' : List UInt8} {a e e' : Int} {b b' : Bool} (h1 : k = k') (h2 : t = t') (h3 : e = e') (h4 : b = b') : Ending.returned (.tuple #[.agg #[iV k, .string (bs t), iV a], iV e, .bool b]) = .returned (.tuple #[.agg #[iV k', .string (bs t'), iV a], iV e', .bool b']) := by subst h1 h2 h3 h4; rfl
theorem sign_c (w : World) (Φ : Hp) (hΦ : Hp.le Φ (hp w)) {l : List UInt8} (hl : l.length ≤ 1099511627776) (h0 : 0 < l.length) :
  Calls pg 117 #[.string (bs l)] w fun e w' => e = .returned (iV ((Lx.signN l : Nat) : Int)) ∧ Bel w.heap.size w w' := by
 refine calls_of_AW (args := [.string (bs l)]) Tryz.func117 rfl (lBT rfl) (St ⟨w, Φ, []⟩ Φ []) (StP.init w Φ hΦ []) ?_
 show AW pg 34 [] _ _ _ [(0, .string (bs l))] _
 refine g9 ?_
 refine RW.q (v := .int .u8 (((l.getD 0 0).toNat : Nat) : Int)) rfl (q_indexS (l := l) (i := 0) rfl rfl uT9 (by omega) (by omega)) ?_
 refine g6 ?_
 refine RW.q (v := .bool (decide ((((l.getD 0 0).toNat : Nat) : Int) = ((60 : Nat) : Int)))) rfl (q_eql (a := (((l.getD 0 0).toNat : Nat) : Int)) (b := ((60 : Nat) : Int)) rfl rfl) ?_
 refine g3 ?_
 refine AW.orCh (t := 5) (x := 4) (a := (((l.getD 0 0).toNat : Nat) : Int)) rfl rfl _ rfl rfl rfl rfl fun _ => ?_
 refine g1 ?_
 refine AW.cond rfl (fun hc1 => ?_) fun hc1 => ?_
 ·
  simp [-List.getD_eq_getElem?_getD, -Nat.reduceLeDiff] at hc1
  refine g4 ?_
  refine RW.q (v := iV (l.length : Int)) rfl (q_lenS (l := l) rfl uT9) ?_
  refine g3 ?_
  refine RW.g (b := (decide ((1 : Int) < (l.length : Int)))) (v := .int .u8 (((l.getD 1 0).toNat : Nat) : Int)) rfl rfl rfl (fun h => q_indexS (l := l) (i := 1) (gv_pos h) rfl uT9 (by (try simp [-List.getD_eq_getElem?_getD, -Nat.reduceLeDiff] at h); omega) (by (try simp [-List.getD_eq_getElem?_getD, -Nat.reduceLeDiff] at h); omega)) ?_
  refine RW.g (b := (decide ((1 : Int) < (l.length : Int)))) (v := .bool (decide ((((l.getD 1 0).toNat : Nat) : Int) = ((61 : Nat) : Int)))) rfl rfl rfl (fun h => q_eql (a := (((l.getD 1 0).toNat : Nat) : Int)) (b := ((61 : Nat) : Int)) (gv_pos h) rfl) ?_
  obtain ⟨qb1, hqb1⟩ : ∃ qz : Bool, ((decide ((1 : Int) < (l.length : Int))) && (decide ((((l.getD 1 0).toNat : Nat) : Int) = ((61 : Nat) : Int)))) = qz := ⟨_, rfl⟩
  refine RW.q (v := .bool qb1) rfl (q_as (v := .bool ((decide ((1 : Int) < (l.length : Int))) && (decide ((((l.getD 1 0).toNat : Nat) : Int) = ((61 : Nat) : Int))))) (qpA rfl rfl rfl) (congrArg Value.bool hqb1)) ?_
  subst hqb1
  refine g2 ?_
  refine AW.cond rfl (fun hc2 => ?_) fun hc2 => ?_
  ·
   simp [-List.getD_eq_getElem?_getD, -Nat.reduceLeDiff] at hc2
   refine g9 ?_
   have hsg : Lx.signN l = 2 := by
    unfold Lx.signN
    simp only []
    first | (rw [if_pos (by omega), if_pos (by omega)]; done) | (rw [if_pos (by omega), if_neg (by omega), if_pos (by omega)]; done) | (rw [if_pos (by omega), if_neg (by omega), if_neg (by omega)]; done) | (rw [if_neg (by omega), if_pos (by omega)]; done) | (rw [if_neg (by omega), if_neg (by omega)]; done)
   exact fin_val (v' := iV 2) rfl rfl rfl (by rw [hsg]; rfl)
  ·
   simp [-List.getD_eq_getElem?_getD, -Nat.reduceLeDiff] at hc2
   refine g5 ?_
   refine RW.q (v := .int .u8 (((l.getD 0 0).toNat : Nat) : Int)) rfl (q_indexS (l := l) (i := 0) rfl rfl uT9 (by omega) (by omega)) (RW.q (v := .bool (!decide ((((l.getD 0 0).toNat : Nat) : Int) = ((33 : Nat) : Int)))) rfl (q_neq (a := (((l.getD 0 0).toNat : Nat) : Int)) (b := ((33 : Nat) : Int)) rfl rfl) ?_)
   refine g2 ?_
   refine AW.cond rfl (fun hc3 => ?_) fun hc3 => ?_
   ·
    simp [-List.getD_eq_getElem?_getD, -Nat.reduceLeDiff] at hc3
    refine g8 ?_
    have hsg : Lx.signN l = 1 := by
     unfold Lx.signN
     simp only []
     first | (rw [if_pos (by omega), if_pos (by omega)]; done) | (rw [if_pos (by omega), if_neg (by omega), if_pos (by omega)]; done) | (rw [if_pos (by omega), if_neg (by omega), if_neg (by omega)]; done) | (rw [if_neg (by omega), if_pos (by omega)]; done) | (rw [if_neg (by omega), if_neg (by omega)]; done)
    exact fin_val (v' := iV 1) rfl rfl rfl (by rw [hsg]; rfl)
   ·
    simp [-List.getD_eq_getElem?_getD, -Nat.reduceLeDiff] at hc3
    refine g9 ?_
    have hsg : Lx.signN l = 0 := by
     unfold Lx.signN
     simp only []
     first | (rw [if_pos (by omega), if_pos (by omega)]; done) | (rw [if_pos (by omega), if_neg (by omega), if_pos (by omega)]; done) | (rw [if_pos (by omega), if_neg (by omega), if_neg (by omega)]; done) | (rw [if_neg (by omega), if_pos (by omega)]; done) | (rw [if_neg (by omega), if_neg (by omega)]; done)
    exact fin_val (v' := iV 0) rfl rfl rfl (by rw [hsg]; rfl)
 ·
  simp [-List.getD_eq_getElem?_getD, -Nat.reduceLeDiff] at hc1
  refine g3 ?_
  refine RW.q (v := .bool (decide ((((l.getD 0 0).toNat : Nat) : Int) = ((123 : Nat) : Int)))) rfl (q_eql (a := (((l.getD 0 0).toNat : Nat) : Int)) (b := ((123 : Nat) : Int)) rfl rfl) ?_
  refine g3 ?_
  refine AW.orCh (t := 21) (x := 4) (a := (((l.getD 0 0).toNat : Nat) : Int)) rfl rfl _ rfl rfl rfl rfl fun _ => ?_
  refine g1 ?_
  refine AW.cond rfl (fun hc4 => ?_) fun hc4 => ?_
  ·
   simp [-List.getD_eq_getElem?_getD, -Nat.reduceLeDiff] at hc4
   refine g8 ?_
   have hsg : Lx.signN l = 1 := by
    unfold Lx.signN
    simp only []
    first | (rw [if_pos (by omega), if_pos (by omega)]; done) | (rw [if_pos (by omega), if_neg (by omega), if_pos (by omega)]; done) | (rw [if_pos (by omega), if_neg (by omega), if_neg (by omega)]; done) | (rw [if_neg (by omega), if_pos (by omega)]; done) | (rw [if_neg (by omega), if_neg (by omega)]; done)
   exact fin_val (v' := iV 1) rfl rfl rfl (by rw [hsg]; rfl)
  ·
   simp [-List.getD_eq_getElem?_getD, -Nat.reduceLeDiff] at hc4
   refine g9 ?_
   have hsg : Lx.signN l = 0 := by
    unfold Lx.signN
    simp only []
    first | (rw [if_pos (by omega), if_pos (by omega)]; done) | (rw [if_pos (by omega), if_neg (by omega), if_pos (by omega)]; done) | (rw [if_pos (by omega), if_neg (by omega), if_neg (by omega)]; done) | (rw [if_neg (by omega), if_pos (by omega)]; done) | (rw [if_neg (by omega), if_neg (by omega)]; done)
   exact fin_val (v' := iV 0) rfl rfl rfl (by rw [hsg]; rfl)
theorem token_c (w : World) (Φ : Hp) (hΦ : Hp.le Φ (hp w)) {l : List UInt8} {a : Nat} (hl : l.length ≤ 1099511627776) (ha : a < l.length) :
  Calls pg 94 #[.string (bs l), iV (a : Int)] w fun e w' => e = .returned (.tuple #[.agg #[iV (((Lx.tk (l.drop a)).1 : Nat) : Int), .string (bs (Lx.txt (l.drop a))), iV (a : Int)], iV ((a + (Lx.tk (l.drop a)).2.2.2.1 : Nat) : Int), .bool (Lx.tk (l.drop a)).2.2.2.2]) ∧ Bel w.heap.size w w' := by
 refine calls_of_AW (args := [.string (bs l), iV (a : Int)]) Tryz.func94 rfl (lBT rfl) (St ⟨w, Φ, []⟩ Φ []) (StP.init w Φ hΦ []) ?_
 show AW pg 122 [] _ _ _ [(0, .string (bs l)), (1, iV (a : Int))] _
 have hg0 : (l.drop a).getD 0 0 = l.getD a 0 := Lx.getD_drop l a 0
 have hld : (l.drop a).length = l.length - a := List.length_drop
 refine g2 ?_
 refine RW.alc rfl fun b1 => ?_
 refine g9 ?_
 refine RW.q (v := .int .u8 (((l.getD a 0).toNat : Nat) : Int)) rfl (q_indexS (l := l) (i := (a : Int)) rfl rfl uT9 (by omega) (by omega)) ?_
 refine g7 ?_
 refine RW.q (v := .bool (Lx.isL (l.getD a 0))) rfl (q_call (args := #[.int .u8 (((l.getD a 0).toNat : Nat) : Int)]) oK rfl rfl (fun w1 hw1 => letter_c w1 (Go.K.hp w1) (Hp.le_refl _))) ?_
 refine g3 ?_
 refine AW.cond rfl (fun hc1 => ?_) fun hc1 => ?_
 ·
  refine g4 ?_
  refine RW.q (v := iV ((a + Lx.run Lx.inN (l.drop a) : Nat) : Int)) rfl (q_call (args := #[.string (bs l), iV (a : Int), .func (.func 114) #[] #[]]) oK rfl rfl (fun w1 hw1 => run_c w1 (Go.K.hp w1) (Hp.le_refl _) (by omega) (by omega) oK (fun w2 c => inName_c w2 (Go.K.hp w2) (Hp.le_refl _)))) ?_
  refine g4 ?_
  have hrinN := Lx.run_drop_le Lx.inN l a (by omega)
  refine g4 ?_
  refine RW.q (v := .string (bs ((l.drop a).take ((a + Lx.run Lx.inN (l.drop a)) - a)))) rfl (q_sliceSLH (l := l) (i := (a : Int)) (j := ((a + Lx.run Lx.inN (l.drop a) : Nat) : Int)) rfl rfl rfl uT9 (by omega) (by omega) (by omega)) ?_
  refine g1 ?_
  refine RW.q (v := .agg #[iV 0, .string (bs ((l.drop a).take ((a + Lx.run Lx.inN (l.drop a)) - a))), iV (a : Int)]) rfl (q_build (vals := [(0, iV 0), (1, .string (bs ((l.drop a).take ((a + Lx.run Lx.inN (l.drop a)) - a)))), (2, iV (a : Int))]) zero134 uT134 places134 rfl rfl) ?_
  refine g5 ?_
  refine RW.effn (J' := St ⟨w, Φ, []⟩ Φ [.blk b1 134 [iV 0, .string (bs ((l.drop a).take ((a + Lx.run Lx.inN (l.drop a)) - a))), iV (a : Int)]]) (e_store (v := .agg #[iV 0, .string (bs ((l.drop a).take ((a + Lx.run Lx.inN (l.drop a)) - a))), iV (a : Int)]) 0 rfl rfl rfl sz134 rfl rfl rfl rfl rfl) ?_
  refine g7 ?_
  refine fin_res (vs := [.agg #[iV 0, .string (bs ((l.drop a).take ((a + Lx.run Lx.inN (l.drop a)) - a))), iV (a : Int)], iV ((a + Lx.run Lx.inN (l.drop a) : Nat) : Int), .bool (decide (((a + Lx.run Lx.inN (l.drop a) : Nat) : Int) - (a : Int) ≤ 24))]) (v := .tuple #[.agg #[iV 0, .string (bs ((l.drop a).take ((a + Lx.run Lx.inN (l.drop a)) - a))), iV (a : Int)], iV ((a + Lx.run Lx.inN (l.drop a) : Nat) : Int), .bool (decide (((a + Lx.run Lx.inN (l.drop a) : Nat) : Int) - (a : Int) ≤ 24))]) rfl rfl ⟨.agg rfl rfl (Cells.blk 0 rfl), .tmp rfl, .tmp rfl, trivial⟩ rfl (fun w' hw => ?_)
  refine ⟨?_, hw.below rfl⟩
  have htk : Lx.tk (l.drop a) = (0, 0, Lx.run Lx.inN (l.drop a), Lx.run Lx.inN (l.drop a), decide (Lx.run Lx.inN (l.drop a) ≤ 24)) := by
   unfold Lx.tk; rw [hg0, if_pos hc1]
  exact tokV (by rw [htk]; rfl) (by rw [Lx.txt, htk]; simp) (by rw [htk] <;> omega) (by rw [htk]; exact decide_eq_decide.2 (by omega))
 ·
  refine g3 ?_
  refine RW.q (v := .bool (Lx.isD (l.getD a 0))) rfl (q_call (args := #[.int .u8 (((l.getD a 0).toNat : Nat) : Int)]) oK rfl rfl (fun w1 hw1 => digit_c w1 (Go.K.hp w1) (Hp.le_refl _))) ?_
  refine g3 ?_
  refine AW.cond rfl (fun hc2 => ?_) fun hc2 => ?_
  ·
   refine g4 ?_
   refine RW.q (v := iV ((a + Lx.run Lx.isD (l.drop a) : Nat) : Int)) rfl (q_call (args := #[.string (bs l), iV (a : Int), .func (.func 115) #[] #[]]) oK rfl rfl (fun w1 hw1 => run_c w1 (Go.K.hp w1) (Hp.le_refl _) (by omega) (by omega) oK (fun w2 c => digit_c w2 (Go.K.hp w2) (Hp.le_refl _)))) ?_
   refine g5 ?_
   have hrisD := Lx.run_drop_le Lx.isD l a (by omega)
   refine g4 ?_
   refine RW.q (v := iV (l.length : Int)) rfl (q_lenS (l := l) rfl uT9) ?_
   refine g4 ?_
   refine RW.g (b := (decide (((a + Lx.run Lx.isD (l.drop a) + 1 : Nat) : Int) < (l.length : Int)))) (v := .int .u8 (((l.getD (a + Lx.run Lx.isD (l.drop a)) 0).toNat : Nat) : Int)) rfl rfl rfl (fun h => q_indexS (l := l) (i := ((a + Lx.run Lx.isD (l.drop a) : Nat) : Int)) (gv_pos h) (gv_pos h) uT9 (by (try simp [-List.getD_eq_getElem?_getD] at h); omega) (by (try simp [-List.getD_eq_getElem?_getD] at h); omega)) ?_
   refine RW.g (b := (decide (((a + Lx.run Lx.isD (l.drop a) + 1 : Nat) : Int) < (l.length : Int)))) (v := .bool (decide ((((l.getD (a + Lx.run Lx.isD (l.drop a)) 0).toNat : Nat) : Int) = ((46 : Nat) : Int)))) rfl rfl rfl (fun h => q_eql (a := (((l.getD (a + Lx.run Lx.isD (l.drop a)) 0).toNat : Nat) : Int)) (b := ((46 : Nat) : Int)) (gv_pos h) rfl) (RW.q (v := .bool ((decide (((a + Lx.run Lx.isD (l.drop a) + 1 : Nat) : Int) < (l.length : Int))) && (decide ((((l.getD (a + Lx.run Lx.isD (l.drop a)) 0).toNat : Nat) : Int) = ((46 : Nat) : Int))))) rfl (qpA rfl rfl rfl) ?_)
   refine g3 ?_
   refine RW.g (b := ((decide (((a + Lx.run Lx.isD (l.drop a) + 1 : Nat) : Int) < (l.length : Int))) && (decide ((((l.getD (a + Lx.run Lx.isD (l.drop a)) 0).toNat : Nat) : Int) = ((46 : Nat) : Int))))) (v := iV ((a + Lx.run Lx.isD (l.drop a) + 1 : Nat) : Int)) rfl rfl rfl (fun h => q_add (gv_pos h) rfl (by (try simp [-List.getD_eq_getElem?_getD] at h); omega) (by (try simp [-List.getD_eq_getElem?_getD] at h); unfold I64; omega)) ?_
   refine RW.g (b := ((decide (((a + Lx.run Lx.isD (l.drop a) + 1 : Nat) : Int) < (l.length : Int))) && (decide ((((l.getD (a + Lx.run Lx.isD (l.drop a)) 0).toNat : Nat) : Int) = ((46 : Nat) : Int))))) (v := .int .u8 (((l.getD (a + Lx.run Lx.isD (l.drop a) + 1) 0).toNat : Nat) : Int)) rfl rfl rfl (fun h => q_indexS (l := l) (i := ((a + Lx.run Lx.isD (l.drop a) + 1 : Nat) : Int)) (gv_pos h) (gv_pos h) uT9 (by (try simp [-List.getD_eq_getElem?_getD] at h); omega) (by (try simp [-List.getD_eq_getElem?_getD] at h); omega)) ?_
   refine RW.g (b := ((decide (((a + Lx.run Lx.isD (l.drop a) + 1 : Nat) : Int) < (l.length : Int))) && (decide ((((l.getD (a + Lx.run Lx.isD (l.drop a)) 0).toNat : Nat) : Int) = ((46 : Nat) : Int))))) (v := .bool (Lx.isD (l.getD (a + Lx.run Lx.isD (l.drop a) + 1) 0))) rfl rfl rfl (fun h => q_call (args := #[.int .u8 (((l.getD (a + Lx.run Lx.isD (l.drop a) + 1) 0).toNat : Nat) : Int)]) oK rfl (args1 (gv_pos h)) (fun w1 hw1 => digit_c w1 (Go.K.hp w1) (Hp.le_refl _))) (RW.q (v := .bool (((decide (((a + Lx.run Lx.isD (l.drop a) + 1 : Nat) : Int) < (l.length : Int))) && (decide ((((l.getD (a + Lx.run Lx.isD (l.drop a)) 0).toNat : Nat) : Int) = ((46 : Nat) : Int)))) && (Lx.isD (l.getD (a + Lx.run Lx.isD (l.drop a) + 1) 0)))) rfl (qpA rfl rfl rfl) ?_)
   refine g2 ?_
   refine AW.cond rfl (fun hc3 => ?_) fun hc3 => ?_
   ·
    simp [-List.getD_eq_getElem?_getD] at hc3
    have hnum : Lx.numN (l.drop a) = Lx.run Lx.isD (l.drop a) + 1 + Lx.run Lx.isD (l.drop (a + Lx.run Lx.isD (l.drop a) + 1)) := by
     unfold Lx.numN
     rw [if_pos (by rw [hld, Lx.getD_drop, Lx.getD_drop]; refine ⟨by omega, by omega, ?_⟩; simpa [Nat.add_assoc] using hc3.2), List.drop_drop]; rfl
    have hrE := Lx.run_drop_le Lx.isD l (a + Lx.run Lx.isD (l.drop a) + 1) (by omega)
    refine g4 ?_
    refine RW.q (v := iV (((a + Lx.run Lx.isD (l.drop a) + 1) + Lx.run Lx.isD (l.drop (a + Lx.run Lx.isD (l.drop a) + 1)) : Nat) : Int)) rfl (q_call (args := #[.string (bs l), iV ((a + Lx.run Lx.isD (l.drop a) + 1 : Nat) : Int), .func (.func 115) #[] #[]]) oK rfl rfl (fun w1 hw1 => run_c w1 (Go.K.hp w1) (Hp.le_refl _) (by omega) (by omega) oK (fun w2 c => digit_c w2 (Go.K.hp w2) (Hp.le_refl _)))) ?_
    refine g8 ?_
    refine RW.q (v := .string (bs ((l.drop a).take (((a + Lx.run Lx.isD (l.drop a) + 1) + Lx.run Lx.isD (l.drop (a + Lx.run Lx.isD (l.drop a) + 1))) - a)))) rfl (q_sliceSLH (l := l) (i := (a : Int)) (j := (((a + Lx.run Lx.isD (l.drop a) + 1) + Lx.run Lx.isD (l.drop (a + Lx.run Lx.isD (l.drop a) + 1)) : Nat) : Int)) rfl rfl rfl uT9 (by omega) (by omega) (by omega)) ?_
    refine g1 ?_
    refine RW.q (v := .agg #[iV 1, .string (bs ((l.drop a).take (((a + Lx.run Lx.isD (l.drop a) + 1) + Lx.run Lx.isD (l.drop (a + Lx.run Lx.isD (l.drop a) + 1))) - a))), iV (a : Int)]) rfl (q_build (vals := [(0, iV 1), (1, .string (bs ((l.drop a).take (((a + Lx.run Lx.isD (l.drop a) + 1) + Lx.run Lx.isD (l.drop (a + Lx.run Lx.isD (l.drop a) + 1))) - a)))), (2, iV (a : Int))]) zero134 uT134 places134 rfl rfl) ?_
    refine g5 ?_
    refine RW.effn (J' := St ⟨w, Φ, []⟩ Φ [.blk b1 134 [iV 1, .string (bs ((l.drop a).take (((a + Lx.run Lx.isD (l.drop a) + 1) + Lx.run Lx.isD (l.drop (a + Lx.run Lx.isD (l.drop a) + 1))) - a))), iV (a : Int)]]) (e_store (v := .agg #[iV 1, .string (bs ((l.drop a).take (((a + Lx.run Lx.isD (l.drop a) + 1) + Lx.run Lx.isD (l.drop (a + Lx.run Lx.isD (l.drop a) + 1))) - a))), iV (a : Int)]) 0 rfl rfl rfl sz134 rfl rfl rfl rfl rfl) ?_
    refine g7 ?_
    refine fin_res (vs := [.agg #[iV 1, .string (bs ((l.drop a).take (((a + Lx.run Lx.isD (l.drop a) + 1) + Lx.run Lx.isD (l.drop (a + Lx.run Lx.isD (l.drop a) + 1))) - a))), iV (a : Int)], iV (((a + Lx.run Lx.isD (l.drop a) + 1) + Lx.run Lx.isD (l.drop (a + Lx.run Lx.isD (l.drop a) + 1)) : Nat) : Int), .bool (decide ((((a + Lx.run Lx.isD (l.drop a) + 1) + Lx.run Lx.isD (l.drop (a + Lx.run Lx.isD (l.drop a) + 1)) : Nat) : Int) - (a : Int) ≤ 24))]) (v := .tuple #[.agg #[iV 1, .string (bs ((l.drop a).take (((a + Lx.run Lx.isD (l.drop a) + 1) + Lx.run Lx.isD (l.drop (a + Lx.run Lx.isD (l.drop a) + 1))) - a))), iV (a : Int)], iV (((a + Lx.run Lx.isD (l.drop a) + 1) + Lx.run Lx.isD (l.drop (a + Lx.run Lx.isD (l.drop a) + 1)) : Nat) : Int), .bool (decide ((((a + Lx.run Lx.isD (l.drop a) + 1) + Lx.run Lx.isD (l.drop (a + Lx.run Lx.isD (l.drop a) + 1)) : Nat) : Int) - (a : Int) ≤ 24))]) rfl rfl ⟨.agg rfl rfl (Cells.blk 0 rfl), .tmp rfl, .tmp rfl, trivial⟩ rfl (fun w' hw => ?_)
    refine ⟨?_, hw.below rfl⟩
    have htk : Lx.tk (l.drop a) = (1, 0, Lx.numN (l.drop a), Lx.numN (l.drop a), decide (Lx.numN (l.drop a) ≤ 24)) := by
     unfold Lx.tk; rw [hg0, if_neg (by rw [hc1]; simp), if_pos hc2]
    exact tokV (by rw [htk]; rfl) (by rw [Lx.txt, htk]; rw [hnum]; simp only [List.drop_zero]; congr 1; omega) (by rw [htk]; simp only []; rw [hnum]; omega) (by rw [htk]; rw [hnum]; exact decide_eq_decide.2 (by omega))
   ·
    simp [-List.getD_eq_getElem?_getD] at hc3
    have hnum : Lx.numN (l.drop a) = Lx.run Lx.isD (l.drop a) := by
     unfold Lx.numN
     rw [if_neg (by rw [hld, Lx.getD_drop, Lx.getD_drop]; rintro ⟨h7, h8, h9⟩; have h6 := hc3 (by omega) (by omega); rw [Nat.add_assoc] at h6; rw [h6] at h9; cases h9)]
    refine g7 ?_
    refine RW.q (v := .string (bs ((l.drop a).take ((a + Lx.run Lx.isD (l.drop a)) - a)))) rfl (q_sliceSLH (l := l) (i := (a : Int)) (j := ((a + Lx.run Lx.isD (l.drop a) : Nat) : Int)) rfl rfl rfl uT9 (by omega) (by omega) (by omega)) ?_
    refine g1 ?_
    refine RW.q (v := .agg #[iV 1, .string (bs ((l.drop a).take ((a + Lx.run Lx.isD (l.drop a)) - a))), iV (a : Int)]) rfl (q_build (vals := [(0, iV 1), (1, .string (bs ((l.drop a).take ((a + Lx.run Lx.isD (l.drop a)) - a)))), (2, iV (a : Int))]) zero134 uT134 places134 rfl rfl) ?_
    refine g5 ?_
    refine RW.effn (J' := St ⟨w, Φ, []⟩ Φ [.blk b1 134 [iV 1, .string (bs ((l.drop a).take ((a + Lx.run Lx.isD (l.drop a)) - a))), iV (a : Int)]]) (e_store (v := .agg #[iV 1, .string (bs ((l.drop a).take ((a + Lx.run Lx.isD (l.drop a)) - a))), iV (a : Int)]) 0 rfl rfl rfl sz134 rfl rfl rfl rfl rfl) ?_
    refine g7 ?_
    refine fin_res (vs := [.agg #[iV 1, .string (bs ((l.drop a).take ((a + Lx.run Lx.isD (l.drop a)) - a))), iV (a : Int)], iV ((a + Lx.run Lx.isD (l.drop a) : Nat) : Int), .bool (decide (((a + Lx.run Lx.isD (l.drop a) : Nat) : Int) - (a : Int) ≤ 24))]) (v := .tuple #[.agg #[iV 1, .string (bs ((l.drop a).take ((a + Lx.run Lx.isD (l.drop a)) - a))), iV (a : Int)], iV ((a + Lx.run Lx.isD (l.drop a) : Nat) : Int), .bool (decide (((a + Lx.run Lx.isD (l.drop a) : Nat) : Int) - (a : Int) ≤ 24))]) rfl rfl ⟨.agg rfl rfl (Cells.blk 0 rfl), .tmp rfl, .tmp rfl, trivial⟩ rfl (fun w' hw => ?_)
    refine ⟨?_, hw.below rfl⟩
    have htk : Lx.tk (l.drop a) = (1, 0, Lx.numN (l.drop a), Lx.numN (l.drop a), decide (Lx.numN (l.drop a) ≤ 24)) := by
     unfold Lx.tk; rw [hg0, if_neg (by rw [hc1]; simp), if_pos hc2]
    exact tokV (by rw [htk]; rfl) (by rw [Lx.txt, htk]; rw [hnum]; simp) (by rw [htk]; simp only []; rw [hnum]) (by rw [htk]; rw [hnum]; exact decide_eq_decide.2 (by omega))
  ·
   refine g3 ?_
   refine RW.q (v := .bool (decide ((((l.getD a 0).toNat : Nat) : Int) = ((34 : Nat) : Int)))) rfl (q_eql (a := (((l.getD a 0).toNat : Nat) : Int)) (b := ((34 : Nat) : Int)) rfl rfl) ?_
   refine g3 ?_
   refine AW.cond rfl (fun hc4 => ?_) fun hc4 => ?_
   ·
    simp [-List.getD_eq_getElem?_getD] at hc4
    refine g5 ?_
    refine RW.q (v := iV (((a + 1) + Lx.run Lx.inS (l.drop (a + 1)) : Nat) : Int)) rfl (q_call (args := #[.string (bs l), iV ((a + 1 : Nat) : Int), .func (.func 116) #[] #[]]) oK rfl rfl (fun w1 hw1 => run_c w1 (Go.K.hp w1) (Hp.le_refl _) (by omega) (by omega) oK (fun w2 c => inString_c w2 (Go.K.hp w2) (Hp.le_refl _)))) ?_
    refine g4 ?_
    have hrinS := Lx.run_drop_le Lx.inS l (a + 1) (by omega)
    refine g3 ?_
    refine RW.q (v := iV (l.length : Int)) rfl (q_lenS (l := l) rfl uT9) ?_
    refine g4 ?_
    refine RW.g (b := (decide ((((a + 1) + Lx.run Lx.inS (l.drop (a + 1)) : Nat) : Int) < (l.length : Int)))) (v := .int .u8 (((l.getD ((a + 1) + Lx.run Lx.inS (l.drop (a + 1))) 0).toNat : Nat) : Int)) rfl rfl rfl (fun h => q_indexS (l := l) (i := (((a + 1) + Lx.run Lx.inS (l.drop (a + 1)) : Nat) : Int)) (gv_pos h) (gv_pos h) uT9 (by (try simp [-List.getD_eq_getElem?_getD] at h); omega) (by (try simp [-List.getD_eq_getElem?_getD] at h); omega)) ?_
    refine RW.g (b := (decide ((((a + 1) + Lx.run Lx.inS (l.drop (a + 1)) : Nat) : Int) < (l.length : Int)))) (v := .bool (decide ((((l.getD ((a + 1) + Lx.run Lx.inS (l.drop (a + 1))) 0).toNat : Nat) : Int) = ((34 : Nat) : Int)))) rfl rfl rfl (fun h => q_eql (a := (((l.getD ((a + 1) + Lx.run Lx.inS (l.drop (a + 1))) 0).toNat : Nat) : Int)) (b := ((34 : Nat) : Int)) (gv_pos h) rfl) (RW.q (v := .bool ((decide ((((a + 1) + Lx.run Lx.inS (l.drop (a + 1)) : Nat) : Int) < (l.length : Int))) && (decide ((((l.getD ((a + 1) + Lx.run Lx.inS (l.drop (a + 1))) 0).toNat : Nat) : Int) = ((34 : Nat) : Int))))) rfl (qpA rfl rfl rfl) ?_)
    refine g3 ?_
    refine RW.g (b := ((decide ((((a + 1) + Lx.run Lx.inS (l.drop (a + 1)) : Nat) : Int) < (l.length : Int))) && (decide ((((l.getD ((a + 1) + Lx.run Lx.inS (l.drop (a + 1))) 0).toNat : Nat) : Int) = ((34 : Nat) : Int))))) (v := iV ((((a + 1) + Lx.run Lx.inS (l.drop (a + 1)) : Nat) : Int) - (a : Int))) rfl rfl rfl (fun h => q_sub (gv_pos h) (gv_pos h) (by (try simp [-List.getD_eq_getElem?_getD] at h); omega) (by (try simp [-List.getD_eq_getElem?_getD] at h); unfold I64; omega)) ?_
    refine RW.g (b := ((decide ((((a + 1) + Lx.run Lx.inS (l.drop (a + 1)) : Nat) : Int) < (l.length : Int))) && (decide ((((l.getD ((a + 1) + Lx.run Lx.inS (l.drop (a + 1))) 0).toNat : Nat) : Int) = ((34 : Nat) : Int))))) (v := iV (((((a + 1) + Lx.run Lx.inS (l.drop (a + 1)) : Nat) : Int) - (a : Int)) - 1)) rfl rfl rfl (fun h => q_sub (gv_pos h) rfl (by (try simp [-List.getD_eq_getElem?_getD] at h); omega) (by (try simp [-List.getD_eq_getElem?_getD] at h); unfold I64; omega)) ?_
    refine g1 ?_
    refine RW.q (v := .bool (((decide ((((a + 1) + Lx.run Lx.inS (l.drop (a + 1)) : Nat) : Int) < (l.length : Int))) && (decide ((((l.getD ((a + 1) + Lx.run Lx.inS (l.drop (a + 1))) 0).toNat : Nat) : Int) = ((34 : Nat) : Int)))) && (decide (((((a + 1) + Lx.run Lx.inS (l.drop (a + 1)) : Nat) : Int) - (a : Int)) - 1 ≤ 500)))) rfl (qpA rfl rfl rfl) ?_
    refine g4 ?_
    have hdd : (l.drop a).drop 1 = l.drop (a + 1) := List.drop_drop ..
    refine g5 ?_
    refine RW.q (v := .string (bs ((l.drop (a + 1)).take (((a + 1) + Lx.run Lx.inS (l.drop (a + 1))) - (a + 1))))) rfl (q_sliceSLH (l := l) (i := ((a + 1 : Nat) : Int)) (j := (((a + 1) + Lx.run Lx.inS (l.drop (a + 1)) : Nat) : Int)) rfl rfl rfl uT9 (by omega) (by omega) (by omega)) ?_
    refine g1 ?_
    refine RW.q (v := .agg #[iV 2, .string (bs ((l.drop (a + 1)).take (((a + 1) + Lx.run Lx.inS (l.drop (a + 1))) - (a + 1)))), iV (a : Int)]) rfl (q_build (vals := [(0, iV 2), (1, .string (bs ((l.drop (a + 1)).take (((a + 1) + Lx.run Lx.inS (l.drop (a + 1))) - (a + 1))))), (2, iV (a : Int))]) zero134 uT134 places134 rfl rfl) ?_
    refine g3 ?_
    refine RW.effn (J' := St ⟨w, Φ, []⟩ Φ [.blk b1 134 [iV 2, .string (bs ((l.drop (a + 1)).take (((a + 1) + Lx.run Lx.inS (l.drop (a + 1))) - (a + 1)))), iV (a : Int)]]) (e_store (v := .agg #[iV 2, .string (bs ((l.drop (a + 1)).take (((a + 1) + Lx.run Lx.inS (l.drop (a + 1))) - (a + 1)))), iV (a : Int)]) 0 rfl rfl rfl sz134 rfl rfl rfl rfl rfl) ?_
    refine g7 ?_
    refine fin_res (vs := [.agg #[iV 2, .string (bs ((l.drop (a + 1)).take (((a + 1) + Lx.run Lx.inS (l.drop (a + 1))) - (a + 1)))), iV (a : Int)], iV (((a + 1) + Lx.run Lx.inS (l.drop (a + 1)) + 1 : Nat) : Int), .bool (((decide ((((a + 1) + Lx.run Lx.inS (l.drop (a + 1)) : Nat) : Int) < (l.length : Int))) && (decide ((((l.getD ((a + 1) + Lx.run Lx.inS (l.drop (a + 1))) 0).toNat : Nat) : Int) = ((34 : Nat) : Int)))) && (decide (((((a + 1) + Lx.run Lx.inS (l.drop (a + 1)) : Nat) : Int) - (a : Int)) - 1 ≤ 500)))]) (v := .tuple #[.agg #[iV 2, .string (bs ((l.drop (a + 1)).take (((a + 1) + Lx.run Lx.inS (l.drop (a + 1))) - (a + 1)))), iV (a : Int)], iV (((a + 1) + Lx.run Lx.inS (l.drop (a + 1)) + 1 : Nat) : Int), .bool (((decide ((((a + 1) + Lx.run Lx.inS (l.drop (a + 1)) : Nat) : Int) < (l.length : Int))) && (decide ((((l.getD ((a + 1) + Lx.run Lx.inS (l.drop (a + 1))) 0).toNat : Nat) : Int) = ((34 : Nat) : Int)))) && (decide (((((a + 1) + Lx.run Lx.inS (l.drop (a + 1)) : Nat) : Int) - (a : Int)) - 1 ≤ 500)))]) rfl rfl ⟨.agg rfl rfl (Cells.blk 0 rfl), .tmp rfl, .tmp rfl, trivial⟩ rfl (fun w' hw => ?_)
    refine ⟨?_, hw.below rfl⟩
    have htk : Lx.tk (l.drop a) = (2, 1, Lx.run Lx.inS ((l.drop a).drop 1), Lx.run Lx.inS ((l.drop a).drop 1) + 2, decide (Lx.run Lx.inS ((l.drop a).drop 1) + 1 < (l.drop a).length ∧ ((l.drop a).getD (Lx.run Lx.inS ((l.drop a).drop 1) + 1) 0).toNat = 34 ∧ Lx.run Lx.inS ((l.drop a).drop 1) ≤ 500)) := by
     unfold Lx.tk; rw [hg0, if_neg (by rw [hc1]; simp), if_neg (by rw [hc2]; simp), if_pos (by omega)]
    exact tokV (by rw [htk]; rfl) (by rw [Lx.txt, htk]; rw [hdd]; simp only; congr 1; omega) (by rw [htk, hdd]; simp only []; omega) (by rw [htk]; rw [Bool.eq_iff_iff]; simp only [Bool.and_eq_true, decide_eq_true_eq]; rw [hdd, Lx.getD_drop, hld, show a + (Lx.run Lx.inS (l.drop (a + 1)) + 1) = a + 1 + Lx.run Lx.inS (l.drop (a + 1)) by omega]; omega)
   ·
    simp [-List.getD_eq_getElem?_getD] at hc4
    refine g4 ?_
    have hsg2 : Lx.signN (l.drop a) ≤ l.length - a := by rw [← hld]; exact Lx.signN_le _
    refine g4 ?_
    refine RW.q (v := .string (bs (l.drop a))) rfl (q_sliceSL (l := l) (i := (a : Int)) rfl rfl uT9 (by omega) (by omega)) (RW.q (v := iV ((Lx.signN (l.drop a) : Nat) : Int)) rfl (q_call (args := #[.string (bs (l.drop a))]) oK rfl rfl (fun w1 hw1 => sign_c w1 (Go.K.hp w1) (Hp.le_refl _) (by simp; omega) (by simp; omega))) ?_)
    refine g9 ?_
    refine RW.q (v := .string (bs ((l.drop a).take ((a + Lx.signN (l.drop a)) - a)))) rfl (q_sliceSLH (l := l) (i := (a : Int)) (j := ((a + Lx.signN (l.drop a) : Nat) : Int)) rfl rfl rfl uT9 (by omega) (by omega) (by omega)) ?_
    refine g1 ?_
    refine RW.q (v := .agg #[iV 3, .string (bs ((l.drop a).take ((a + Lx.signN (l.drop a)) - a))), iV (a : Int)]) rfl (q_build (vals := [(0, iV 3), (1, .string (bs ((l.drop a).take ((a + Lx.signN (l.drop a)) - a)))), (2, iV (a : Int))]) zero134 uT134 places134 rfl rfl) ?_
    refine g4 ?_
    refine RW.effn (J' := St ⟨w, Φ, []⟩ Φ [.blk b1 134 [iV 3, .string (bs ((l.drop a).take ((a + Lx.signN (l.drop a)) - a))), iV (a : Int)]]) (e_store (v := .agg #[iV 3, .string (bs ((l.drop a).take ((a + Lx.signN (l.drop a)) - a))), iV (a : Int)]) 0 rfl rfl rfl sz134 rfl rfl rfl rfl rfl) ?_
    refine g5 ?_
    refine fin_res (vs := [.agg #[iV 3, .string (bs ((l.drop a).take ((a + Lx.signN (l.drop a)) - a))), iV (a : Int)], iV ((a + Lx.signN (l.drop a) : Nat) : Int), .bool (decide ((a : Int) < ((a + Lx.signN (l.drop a) : Nat) : Int)))]) (v := .tuple #[.agg #[iV 3, .string (bs ((l.drop a).take ((a + Lx.signN (l.drop a)) - a))), iV (a : Int)], iV ((a + Lx.signN (l.drop a) : Nat) : Int), .bool (decide ((a : Int) < ((a + Lx.signN (l.drop a) : Nat) : Int)))]) rfl rfl ⟨.agg rfl rfl (Cells.blk 0 rfl), .tmp rfl, .tmp rfl, trivial⟩ rfl (fun w' hw => ?_)
    refine ⟨?_, hw.below rfl⟩
    have htk : Lx.tk (l.drop a) = (3, 0, Lx.signN (l.drop a), Lx.signN (l.drop a), decide (0 < Lx.signN (l.drop a))) := by
     unfold Lx.tk; rw [hg0, if_neg (by rw [hc1]; simp), if_neg (by rw [hc2]; simp), if_neg (by omega)]
    exact tokV (by rw [htk]; rfl) (by rw [Lx.txt, htk]; simp) (by rw [htk] <;> omega) (by rw [htk]; exact decide_eq_decide.2 (by omega))
theorem I64.nat {n : Nat} (h : n ≤ 1099511627776) : I64 (n : Int) := by unfold I64; omega
instance : Rep Bt.Token where
 sz := 3
 bytes := 32
 rep := fun _ x cs => cs = [iV x.Kind, .string (bs x.Text), iV x.At] ∧ (I64 x.Kind ∧ x.Text.length ≤ maxLen ∧ I64 x.At)
 len := fun h => by rw [h.1]; rfl
 mono := fun _ h => h
 one := fun h u hu => by
  rw [h.1] at hu
  simp only [List.mem_cons, List.not_mem_nil, or_false] at hu
  rcases hu with rfl | rfl | rfl <;> rfl
instance : RepE Bt.Token where
 cells := fun x => [iV x.Kind, .string (bs x.Text), iV x.At]
 wf := fun x => I64 x.Kind ∧ x.Text.length ≤ maxLen ∧ I64 x.At
 iff := Iff.rfl
theorem evenTok : EvenE Bt.Token := fun _ => rfl
abbrev Tkn (N : Nat) := {x : Bt.Token × Bool // Lx.wfT N x.1}
def tkV (x : Bt.Token) : Value := .agg #[iV x.Kind, .string (bs x.Text), iV x.At]
def encT {N : Nat} (x : Tkn N) : Array Value := #[tkV x.1.1, .bool x.1.2]
theorem pcell_same {B1 : Nat} {w w' : World} {v : Value} (h : w'.heap[B1]? = w.heap[B1]?) (hp : PCell (hp w) ⟨B1, 0, none⟩ v) : PCell (K.hp w') ⟨B1, 0, none⟩ v := by
 obtain ⟨cs, T, fz, h1, h2, h3⟩ := hp
 exact ⟨cs, T, fz, h.trans h1, h2, h3⟩
theorem tokens1_stops {n : Nat} {l : List UInt8} (hl : l.length ≤ 65536) {B1 : Nat} {w : World} (hp1 : PCell (hp w) ⟨B1, 0, none⟩ (.string (bs l))) :
  SeqStopsK Fence.wide n pg 92 #[.pointer (some ⟨B1, 0, none⟩)] (encT (N := l.length)) (fun W W' => W'.heap[B1]? = W.heap[B1]?) (fun xs => xs.map (·.1) = Lx.seqT l) (fun xs => xs.map (·.1) <+: Lx.seqT l) (l.length + 2) w := by
 intro l0 J Jx W hW hJ hJx hY h00
 have hp2 : PCell (hp W) ⟨B1, 0, none⟩ (.string (bs l)) := pcell_same (hW.block B1 (by obtain ⟨cs, T, fz, h1, _⟩ := hp1; exact (Array.getElem?_eq_some_iff.1 h1).1)) hp1
 have hK : ∀ Φ Ψ : Hp, Hp.le Φ Ψ → PCell Φ ⟨B1, 0, none⟩ (.string (bs l)) → PCell Ψ ⟨B1, 0, none⟩ (.string (bs l)) := fun _ _ h k => k.mono h
 have hK0 : ∀ Φ Ψ : Hp, Hp.le Φ Ψ → True → True := fun _ _ _ _ => trivial
 have hcell : ∀ x, Cell (Jc J (fun Φ => PCell Φ ⟨B1, 0, none⟩ (.string (bs l))) hJ hK x) ⟨B1, 0, none⟩ (.string (bs l)) := fun x w hw => hw.2.cell
 refine callsIn_of_AI (args := [.func (.yield l0) #[] #[], .pointer (some ⟨B1, 0, none⟩)]) Tryz.func92 rfl trivial (lBT rfl) rfl (Jc J (fun Φ => PCell Φ ⟨B1, 0, none⟩ (.string (bs l))) hJ hK []) ⟨h00, hp2⟩ ?_
 generalize hR : (fun (e : Ending) W' => (∃ v, e = .returned v) ∧ ((∃ xs : List (Tkn l.length), xs.map (·.1) = Lx.seqT l ∧ J xs W') ∨ (∃ pre : List (Tkn l.length), pre.map (·.1) <+: Lx.seqT l ∧ Jx pre W'))) = R
 have hRt : ∀ xs : List (Tkn l.length), xs.map (·.1) = Lx.seqT l → ∀ v W', J xs W' → R (.returned v) W' := fun xs h1 v W' h2 => by rw [← hR]; exact ⟨⟨_, rfl⟩, .inl ⟨xs, h1, h2⟩⟩
 have hRf : ∀ xs : List (Tkn l.length), xs.map (·.1) <+: Lx.seqT l → ∀ v W', Jx xs W' → R (.returned v) W' := fun xs h1 v W' h2 => by rw [← hR]; exact ⟨⟨_, rfl⟩, .inr ⟨xs, h1, h2⟩⟩
 have hLO : ¬ LetsOut (bodyPost pg Tryz.f92 R) := fun ⟨_, _, h⟩ => by
  have h' : R .outgrown _ := h
  rw [← hR] at h'
  obtain ⟨⟨v, hv⟩, _⟩ := h'
  cases hv
 show AI _ _ pg 37 [] _ _ _ [(0, .func (.yield l0) #[] #[]), (1, .pointer (some ⟨B1, 0, none⟩))] _
 have hs0 := Lx.skp_le false l
 refine AI.seq (AI.seq (AI.region rfl hLO ?_))
 refine RW.q rfl (qa_ld rfl (hcell [])) (RW.q (v := iV ((0 + Lx.skp false (l.drop 0) : Nat) : Int)) rfl (q_call (args := #[.string (bs l), iV ((0 : Nat) : Int)]) oK rfl rfl (fun w1 _ => skip_c w1 (K.hp w1) (Hp.le_refl _) (by omega) (by omega))) ?_)
 refine g2 ?_
 refine PI.qn0 (PI.then_n (AI.block (AI.loop (fun s J' m => ∃ (pre : List (Tkn l.length)) (a fu : Nat), s = [(0, .func (.yield l0) #[] #[]), (1, .pointer (some ⟨B1, 0, none⟩)), (3, iV (a : Int))] ∧ J' = Jc J (fun Φ => PCell Φ ⟨B1, 0, none⟩ (.string (bs l))) hJ hK pre ∧ m = l.length - a ∧ a ≤ l.length ∧ l.length - a < fu ∧ pre.map (·.1) ++ Lx.stm fu l a = Lx.seqT l ∧ pre.length + fu ≤ l.length + 1)
  (s0 := _) (J1 := _) (m0 := _) ⟨[], 0 + Lx.skp false (l.drop 0), l.length + 1, rfl, rfl, rfl, by simpa using hs0, by omega, by simp [Lx.seqT], by simp⟩ ⟨rfl, rfl, rfl, trivial⟩ (fun _ h => h) ?_)))
 rintro _ _ _ _ ⟨pre, a, fu, rfl, rfl, rfl, ha, hfu, hpre, hpl⟩
 refine AI.seq (AI.seq (AI.region rfl hLO ?_))
 refine g1 ?_
 refine RW.q rfl (qa_ld rfl (hcell pre)) (RW.q rfl (q_lenS (l := l) rfl uT9) ?_)
 refine g2 ?_
 obtain ⟨fv, rfl⟩ : ∃ fv, fu = fv + 1 := ⟨fu - 1, by omega⟩
 refine PI.qn0 (PI.then_n (AI.cond rfl (fun hc => ?_) fun hc => ?_))
 ·
  have hc : a < l.length := by simpa using hc
  have hld : (l.drop a).length = l.length - a := List.length_drop
  refine AI.skip (PI.then_n (AI.block (AI.seq (AI.base fun w1 hw1 => AI.region rfl hLO ?_))))
  refine RW.q rfl (qa_ld rfl (Cell.phi hw1.2)) ?_
  refine g1 ?_
  refine RW.q (v := .tuple #[.agg #[iV (((Lx.tk (l.drop a)).1 : Nat) : Int), .string (bs (Lx.txt (l.drop a))), iV (a : Int)], iV ((a + (Lx.tk (l.drop a)).2.2.2.1 : Nat) : Int), .bool (Lx.tk (l.drop a)).2.2.2.2]) rfl (q_call (args := #[.string (bs l), iV (a : Int)]) oK rfl rfl (fun w1 _ => token_c w1 (K.hp w1) (Hp.le_refl _) (by omega) (by omega))) ?_
  refine g4 ?_
  refine RW.alc rfl fun b4 => ?_
  refine g4 ?_
  refine PI.qn0 (PI.then_n (AI.seq (AI.seq (AI.regionK 3 rfl hLO ?_))))
  refine g4 ?_
  let x : Tkn l.length := ⟨(⟨((Lx.tk (l.drop a)).1 : Nat), Lx.txt (l.drop a), (a : Nat)⟩, (Lx.tk (l.drop a)).2.2.2.2), Lx.wf_tok (by omega)⟩
  refine PI.yield hLO rfl rfl rfl (args := encT x) rfl (J' := fun b => if b then Jc J (fun Φ => PCell Φ ⟨B1, 0, none⟩ (.string (bs l))) hJ hK (pre ++ [x]) else Jc Jx (fun _ => True) hJx hK0 (pre ++ [x])) (fun w2 hw2 => ?_) (fun b => ?_)
  ·
   have hw3 := st_Jc (hJ := hJ) (hK := hK) hw1 hw2
   obtain ⟨fn, tmps, assign, body, hy, hr⟩ := hY pre x w2 hw3.1 (by omega)
   refine ⟨fn, tmps, assign, body, hy, hr.mono fun e w3 he => ?_⟩
   rcases he with ⟨he, h1, h2⟩ | ⟨he, h1⟩
   ·
    exact ⟨true, he, h1, pcell_same h2 hw3.2⟩
   ·
    exact ⟨false, he, h1, trivial⟩
  ·
   cases b with
   | false =>
    refine g2 ?_
    refine RW.g (b := true) (v := undef) rfl rfl rfl (fun h => nomatch h) (RW.g (b := true) (v := undef) rfl rfl rfl (fun h => nomatch h) (RW.q (v := .bool true) rfl (q_pick (t := true) rfl (fun _ => rfl) (fun hp => nomatch hp)) ?_))
    refine g1 ?_
    refine PI.qn0 (PI.then_n (AI.cond (b := true) rfl (fun _ => AI.ret ?_) (fun h => nomatch h)))
    refine g5 ?_
    refine fin_none rfl rfl (fun _ h => h) fun w3 hw3 => hRf (pre ++ [x]) ?_ _ _ hw3.1
    rw [← hpre]
    cases hk : (Lx.tk (l.drop a)).2.2.2.2 with
    | true => rw [Lx.stm_tok hc hk]; simp [x, hk]
    | false => rw [Lx.stm_bad hc hk]; simp [x, hk]
   | true =>
    refine g2 ?_
    refine RW.gl rfl rfl rfl (q_move rfl) (RW.gl (v := .bool (!(Lx.tk (l.drop a)).2.2.2.2)) rfl rfl rfl (q_not rfl) (RW.q (v := .bool (!(Lx.tk (l.drop a)).2.2.2.2)) rfl (q_pick (t := false) rfl (fun hp => nomatch hp) (fun _ => rfl)) ?_))
    refine g1 ?_
    refine PI.qn0 (PI.then_n (AI.cond rfl (fun hk => AI.ret ?_) fun hk => AI.skip (PI.then_n (AI.region rfl hLO ?_))))
    ·
     have hk : (Lx.tk (l.drop a)).2.2.2.2 = false := by simpa using hk
     refine g5 ?_
     refine fin_none rfl rfl (fun _ h => h) fun w3 hw3 => hRt (pre ++ [x]) ?_ _ _ hw3.1
     rw [← hpre, Lx.stm_bad hc hk]; simp [x, hk]
    ·
     have hk : (Lx.tk (l.drop a)).2.2.2.2 = true := by simpa using hk
     obtain ⟨hu1, hu2⟩ := Lx.tk_ok (l := l.drop a) (by omega) hk
     have hs1 := Lx.skp_le false (l.drop (a + (Lx.tk (l.drop a)).2.2.2.1))
     rw [List.length_drop] at hs1
     refine RW.q rfl (qa_ld rfl (hcell (pre ++ [x]))) ?_
     refine g1 ?_
     refine RW.q (v := iV ((a + (Lx.tk (l.drop a)).2.2.2.1 + Lx.skp false (l.drop (a + (Lx.tk (l.drop a)).2.2.2.1)) : Nat) : Int)) rfl (q_call (args := #[.string (bs l), iV ((a + (Lx.tk (l.drop a)).2.2.2.1 : Nat) : Int)]) oK rfl rfl (fun w1 _ => skip_c w1 (K.hp w1) (Hp.le_refl _) (by omega) (by omega))) ?_
     refine g2 ?_
     refine PI.qn0 (Post.blk_n ?_)
     exact Post.back (s' := _) (J' := _) (m' := _) (by omega) ⟨pre ++ [x], a + (Lx.tk (l.drop a)).2.2.2.1 + Lx.skp false (l.drop (a + (Lx.tk (l.drop a)).2.2.2.1)), fv, rfl, rfl, rfl, by omega, by omega, by rw [← hpre, Lx.stm_tok hc hk]; simp [x, hk], by simp; omega⟩ ⟨rfl, rfl, rfl, trivial⟩ (fun _ h => h)
 ·
  have hc : l.length ≤ a := by simpa using hc
  refine AI.exit (Post.then_x (Post.then_x (Post.blk_hit (PI.then_n (AI.regionK 4 rfl hLO ?_)))))
  refine g1 ?_
  refine RW.q rfl (qa_ld rfl (hcell pre)) (RW.q rfl (q_lenS (l := l) rfl uT9) (RW.q (v := .agg #[iV 4, .string (bs []), iV (l.length : Int)]) rfl (q_build (vals := [(0, iV 4), (2, iV (l.length : Int))]) zero134 uT134 places134 rfl rfl) ?_))
  refine g1 ?_
  let x : Tkn l.length := ⟨(⟨4, [], l.length⟩, true), Lx.wf_end l⟩
  have hx : (pre ++ [x]).map (·.1) = Lx.seqT l := by rw [← hpre, Lx.stm_end hc]; simp [x]
  refine PI.yield hLO rfl rfl rfl (args := encT x) rfl (J' := fun b => if b then Jc J (fun _ => True) hJ hK0 (pre ++ [x]) else Jc Jx (fun _ => True) hJx hK0 (pre ++ [x])) (fun w2 hw2 => ?_) (fun b => ?_)
  ·
   obtain ⟨fn, tmps, assign, body, hy, hr⟩ := hY pre x w2 hw2.1 (by omega)
   refine ⟨fn, tmps, assign, body, hy, hr.mono fun e w3 he => ?_⟩
   rcases he with ⟨he, h1, h2⟩ | ⟨he, h1⟩
   ·
    exact ⟨true, he, h1, trivial⟩
   ·
    exact ⟨false, he, h1, trivial⟩
  ·
   cases b with
   | false =>
    refine g1 ?_
    refine PI.qn0 ?_
    exact fin_none rfl rfl (fun _ h => h) fun w3 hw3 => hRf (pre ++ [x]) (by rw [hx]; exact List.prefix_refl _) _ _ hw3.1
   | true =>
    refine g1 ?_
    refine PI.qn0 ?_
    exact fin_none rfl rfl (fun _ h => h) fun w3 hw3 => hRt (pre ++ [x]) hx _ _ hw3.1
end Go.Proofs.YtnfmjfheciihjaaGreatDoor
namespace Un
open Go
end Un
namespace Un
open Go
/-! ### for the reference's walks -/
end Un
namespace Bt
structure Node where
  Kind : Int
  Text : List UInt8
  N : Int
  Dim : Int
  At : Int
  Kids : List Node
instance : Inhabited Node := ⟨⟨0, [], 0, 0, 0, []⟩⟩
end Bt
namespace Un
end Un
namespace Pa
open Bt
abbrev Er := Int × Int
abbrev R (α : Type) := Except Er (α × List Token)
def pk (ts : List Token) : Token := ts.headD default
def isS (c : List UInt8) (ts : List Token) : Bool := decide ((pk ts).Kind = 3) && decide ((pk ts).Text = c)
def wrd (k : Int) (t : Token) : Node := ⟨k, t.Text, 0, 0, t.At, []⟩
def fail {α : Type} (ts : List Token) : R α := .error (2, (pk ts).At)
def nameP (ts : List Token) : R Token := if (pk ts).Kind = 0 then .ok (pk ts, ts.tail) else fail ts
def wordP (ts : List Token) : R Node := if (pk ts).Kind = 0 then .ok (wrd 3 (pk ts), ts.tail) else if (pk ts).Kind = 2 then .ok (wrd 4 (pk ts), ts.tail) else fail ts
def isUnit (t : List UInt8) : Bool := !decide ((Un.amt [48] t).2.2 = 6)
def unitOf (ts : List Token) : List UInt8 := if (pk ts).Kind = 0 ∧ isUnit (pk ts).Text = true then (pk ts).Text else []
def unitRest (ts : List Token) : List Token := if (pk ts).Kind = 0 ∧ isUnit (pk ts).Text = true then ts.tail else ts
def amtP (ts : List Token) : R Node :=
  let a := Un.amt (pk ts).Text (unitOf ts.tail)
  if a.2.2 = 0 then .ok (⟨5, [], a.1, a.2.1, (pk ts).At, []⟩, unitRest ts.tail) else .error (7, (pk ts).At)
def grp (at_ : Int) (ks : List Node) : Node := ⟨6, [], 0, 0, at_, ks⟩
mutual
def valP : Nat → Nat → List Token → R Node
  | 0, _, _ => .error (0, 0)
  | f + 1, g, ts =>
    if (pk ts).Kind = 1 then amtP ts
    else if isS [40] ts = true then
      (if 40 ≤ g then .error (8, (pk ts).At) else match grpP f (g + 1) ts.tail with
        | .error e => .error e
        | .ok (xs, r) => .ok (grp (pk ts).At xs, r))
    else wordP ts
def grpP : Nat → Nat → List Token → R (List Node)
  | 0, _, _ => .error (0, 0)
  | f + 1, g, ts => match valP f g ts with
    | .error e => .error e
    | .ok (x, r) =>
      if isS [41] r = true then .ok ([x], r.tail)
      else if isS [44] r = true then (match grpP f g r.tail with
        | .error e => .error e
        | .ok (xs, r') => .ok (x :: xs, r'))
      else fail r
end
def many (c : List UInt8) (p : List Token → R Node) : Nat → List Token → R (List Node)
  | 0, _ => .error (0, 0)
  | f + 1, ts => if isS c ts = true then .ok ([], ts.tail) else match p ts with
    | .error e => .error e
    | .ok (x, r) => (match many c p f r with
      | .error e => .error e
      | .ok (xs, r') => .ok (x :: xs, r'))
def val0 (ts : List Token) : R Node := valP (2 * ts.length) 0 ts
def propP (ts : List Token) : R Node := match nameP ts with
  | .error e => .error e
  | .ok (t, r) => (match many [59] val0 r.length r with
    | .error e => .error e
    | .ok (xs, r') => .ok (⟨2, t.Text, 0, 0, t.At, xs⟩, r'))
def declP (ts : List Token) : R Node := match nameP ts with
  | .error e => .error e
  | .ok (t, r) => (match many [123] wordP r.length r with
    | .error e => .error e
    | .ok (xs, r') => (match many [125] propP r'.length r' with
      | .error e => .error e
      | .ok (ys, r'') => .ok (⟨1, t.Text, 0, 0, t.At, xs ++ ys⟩, r'')))
def fileP : Nat → List Token → R (List Node)
  | 0, _ => .error (0, 0)
  | f + 1, ts => if (pk ts).Kind = 4 then .ok ([], ts) else match declP ts with
    | .error e => .error e
    | .ok (x, r) => (match fileP f r with
      | .error e => .error e
      | .ok (xs, r') => .ok (x :: xs, r'))
def fileN (ts : List Token) : R Node := match fileP (ts.length + 1) ts with
  | .error e => .error e
  | .ok (xs, r) => .ok (⟨0, [], 0, 0, 0, xs⟩, r)
def parseT (ts : List Token) : Node × Int × Int := match fileN ts with
  | .error e => (default, e.1, e.2)
  | .ok (x, _) => (x, 0, 0)
def parse (s : List UInt8) : Node × Int × Int :=
  if (Lx.scan s).2.1 = 0 then parseT (Lx.scan s).1 else (default, (Lx.scan s).2.1, (Lx.scan s).2.2)
def good : List Token → Prop
  | [] => False
  | [t] => t.Kind = 4
  | _ :: u :: r => good (u :: r)
end Pa
namespace Bt
structure Nd where
  Kind : Int
  n : Int
  of_ : Int
  of2 : Int
  At : Int
  name : Token
  owner : Token
  kids : List Nd
instance : Inhabited Nd := ⟨⟨0, 0, 0, 0, 0, default, default, []⟩⟩
structure Prm where
  name : Token
  kind : Int
instance : Inhabited Prm := ⟨⟨default, 0⟩⟩
structure Fn where
  name : Token
  params : List Prm
  result : Int
  body : Nd
instance : Inhabited Fn := ⟨⟨default, [], 0, default⟩⟩
structure Cl where
  link : Token
  cond : Nd
  value : Nd
instance : Inhabited Cl := ⟨⟨default, default, default⟩⟩
end Bt
namespace Ru
open Bt Pa
abbrev sIf : List UInt8 := [105, 102]
abbrev sThen : List UInt8 := [116, 104, 101, 110]
abbrev sElse : List UInt8 := [101, 108, 115, 101]
abbrev sOr : List UInt8 := [111, 114]
abbrev sAnd : List UInt8 := [97, 110, 100]
abbrev sPlus : List UInt8 := [43]
abbrev sMinus : List UInt8 := [45]
abbrev sStar : List UInt8 := [42]
abbrev sSlash : List UInt8 := [47]
abbrev sNot : List UInt8 := [110, 111, 116]
abbrev sLt : List UInt8 := [60]
abbrev sLe : List UInt8 := [60, 61]
abbrev sGt : List UInt8 := [62]
abbrev sGe : List UInt8 := [62, 61]
abbrev sEq : List UInt8 := [61, 61]
abbrev sNe : List UInt8 := [33, 61]
abbrev sLp : List UInt8 := [40]
abbrev sRp : List UInt8 := [41]
abbrev sComma : List UInt8 := [44]
abbrev sColon : List UInt8 := [58]
abbrev sIs : List UInt8 := [61]
abbrev sDef : List UInt8 := [100, 101, 102]
abbrev sWhen : List UInt8 := [119, 104, 101, 110]
abbrev sSet : List UInt8 := [115, 101, 116]
abbrev sTo : List UInt8 := [116, 111]
abbrev sInt : List UInt8 := [105, 110, 116]
abbrev sBool : List UInt8 := [98, 111, 111, 108]
abbrev sVolume : List UInt8 := [118, 111, 108, 117, 109, 101]
abbrev sLevel : List UInt8 := [108, 101, 118, 101, 108]
abbrev sOwned : List UInt8 := [111, 119, 110, 101, 100]
abbrev sPos : List UInt8 := [112, 111, 115]
abbrev sCrest : List UInt8 := [99, 114, 101, 115, 116]
abbrev sHour : List UInt8 := [104, 111, 117, 114]
abbrev sDay : List UInt8 := [100, 97, 121]
abbrev sMonth : List UInt8 := [109, 111, 110, 116, 104]
abbrev sTrue : List UInt8 := [116, 114, 117, 101]
abbrev sFalse : List UInt8 := [102, 97, 108, 115, 101]
abbrev S := List Token × Int
abbrev R (α : Type) := Except (Int × Int) (α × S)
def bnd {α β : Type} (x : R α) (k : α → S → R β) : R β := match x with
  | .error e => .error e
  | .ok (a, s) => k a s
def kw (t : List UInt8) : Bool := [sDef, sInt, sBool, sWhen, sThen, sSet, sTo, sIf, sElse, sOr, sAnd, sNot, sTrue, sFalse, sVolume, sLevel, sOwned, sPos, sCrest, sHour, sDay, sMonth].contains t
def factOf (t : List UInt8) : Option Int :=
  if t = sVolume then some 0 else if t = sLevel then some 1 else if t = sOwned then some 2 else if t = sPos then some 3 else if t = sHour then some 4 else if t = sDay then some 5 else if t = sMonth then some 6 else if t = sCrest then some 7 else none
def isT (c : List UInt8) (ts : List Token) : Bool := (decide ((pk ts).Kind = 0) || decide ((pk ts).Kind = 3)) && decide ((pk ts).Text = c)
def fail {α : Type} (s : S) : R α := .error ((pk s.1).At, s.2)
def exp (c : List UInt8) (s : S) : R Unit := if isT c s.1 = true then .ok ((), s.1.tail, s.2) else fail s
def nameR (s : S) : R Token := if (pk s.1).Kind = 0 then .ok (pk s.1, s.1.tail, s.2) else fail s
def identR (s : S) : R Token := if kw (pk s.1).Text = true then fail s else nameR s
def kindR (s : S) : R Int := if isT sInt s.1 = true then .ok (0, s.1.tail, s.2) else bnd (exp sBool s) fun _ s => .ok (1, s)
def nd (k a : Int) (ks : List Nd) : Nd := ⟨k, 0, 0, 0, a, default, default, ks⟩
def numR (s : S) : R Nd :=
  let a := Un.amt (pk s.1).Text (unitOf s.1.tail)
  .ok (⟨0, a.1, 0, 0, (pk s.1).At, default, default, []⟩, unitRest s.1.tail, if a.2.2 ≠ 0 ∧ s.2 < 0 then (pk s.1).At else s.2)
def truth (t : Token) : Nd := nd 10 t.At [nd 0 t.At [], ⟨0, if t.Text = sFalse then 1 else 0, 0, 0, t.At, default, default, []⟩]
def factR (t : Token) (k : Int) (s : S) : R Nd :=
  if k = 4 ∨ k = 5 ∨ k = 6 then .ok (⟨1, k, 0, 0, t.At, default, default, []⟩, s)
  else bnd (exp sLp s) fun _ s => bnd (nameR s) fun nm s =>
    if k = 2 then bnd (exp sComma s) fun _ s => bnd (nameR s) fun ow s => bnd (exp sRp s) fun _ s => .ok (⟨1, k, 0, 0, t.At, nm, ow, []⟩, s)
    else bnd (exp sRp s) fun _ s => .ok (⟨1, k, 0, 0, t.At, nm, default, []⟩, s)
def opOf (n : Nat) (ts : List Token) : Option Int :=
  if n = 0 then (if isT sOr ts then some 12 else none)
  else if n = 1 then (if isT sAnd ts then some 11 else none)
  else if n = 2 then (if isT sPlus ts then some 4 else if isT sMinus ts then some 5 else none)
  else (if isT sStar ts then some 6 else if isT sSlash ts then some 7 else none)
def cmpSign (t : List UInt8) : Bool := [sLt, sLe, sGt, sGe, sEq, sNe].contains t
def rel (op : List UInt8) (x y : Nd) : Nd :=
  if op = sLt then nd 8 x.At [x, y] else if op = sLe then nd 9 x.At [x, y] else if op = sGt then nd 8 x.At [y, x] else if op = sGe then nd 9 x.At [y, x]
  else if op = sNe then nd 3 x.At [nd 10 x.At [x, y]] else nd 10 x.At [x, y]
mutual
def expr : Nat → S → R Nd
  | 0, _ => .error (0, 0)
  | f + 1, s =>
    if isT sIf s.1 = true then
      bnd (expr f (s.1.tail, s.2)) fun x s1 => bnd (exp sThen s1) fun _ s2 => bnd (expr f s2) fun y s3 => bnd (exp sElse s3) fun _ s4 => bnd (expr f s4) fun z s5 => .ok (nd 13 (pk s.1).At [x, y, z], s5)
    else level f 0 s
def level : Nat → Nat → S → R Nd
  | 0, _, _ => .error (0, 0)
  | f + 1, n, s => bnd (below f n s) fun x s1 => lvl f n x s1
def lvl : Nat → Nat → Nd → S → R Nd
  | 0, _, _, _ => .error (0, 0)
  | f + 1, n, x, s => match opOf n s.1 with
    | none => .ok (x, s)
    | some k => bnd (below f n (s.1.tail, s.2)) fun y s1 => lvl f n (nd k x.At [x, y]) s1
def below : Nat → Nat → S → R Nd
  | 0, _, _ => .error (0, 0)
  | f + 1, n, s => if n = 1 then neg f s else if n = 3 then factor f s else level f (n + 1) s
def neg : Nat → S → R Nd
  | 0, _ => .error (0, 0)
  | f + 1, s => if isT sNot s.1 = true then bnd (neg f (s.1.tail, s.2)) fun x s1 => .ok (nd 3 (pk s.1).At [x], s1) else cmp f s
def cmp : Nat → S → R Nd
  | 0, _ => .error (0, 0)
  | f + 1, s => bnd (level f 2 s) fun x s1 =>
    if (pk s1.1).Kind = 3 ∧ cmpSign (pk s1.1).Text = true then bnd (level f 2 (s1.1.tail, s1.2)) fun y s2 => .ok (rel (pk s1.1).Text x y, s2) else .ok (x, s1)
def factor : Nat → S → R Nd
  | 0, _ => .error (0, 0)
  | f + 1, s => if isT sMinus s.1 = true then bnd (factor f (s.1.tail, s.2)) fun x s1 => .ok (nd 2 (pk s.1).At [x], s1) else prim f s
def prim : Nat → S → R Nd
  | 0, _ => .error (0, 0)
  | f + 1, s => if (pk s.1).Kind = 1 then numR s else if (pk s.1).Kind = 0 then word f s
    else bnd (exp sLp s) fun _ s1 => bnd (expr f s1) fun x s2 => bnd (exp sRp s2) fun _ s3 => .ok ({ x with At := (pk s.1).At }, s3)
def word : Nat → S → R Nd
  | 0, _ => .error (0, 0)
  | f + 1, s =>
    if (pk s.1).Text = sTrue ∨ (pk s.1).Text = sFalse then .ok (truth (pk s.1), s.1.tail, s.2)
    else match factOf (pk s.1).Text with
      | some k => factR (pk s.1) k (s.1.tail, s.2)
      | none => bnd (identR s) fun nm s1 =>
        if isT sLp s1.1 = true then
          (if isT sRp s1.1.tail = true then .ok (⟨14, 0, 0, 0, (pk s.1).At, nm, default, []⟩, s1.1.tail.tail, s1.2)
          else bnd (args f (s1.1.tail, s1.2)) fun ks s2 => .ok (⟨14, 0, 0, 0, (pk s.1).At, nm, default, ks⟩, s2))
        else .ok (⟨15, 0, 0, 0, (pk s.1).At, nm, default, []⟩, s1)
def args : Nat → S → R (List Nd)
  | 0, _ => .error (0, 0)
  | f + 1, s => bnd (expr f s) fun x s1 =>
    if isT sComma s1.1 = true then bnd (args f (s1.1.tail, s1.2)) fun xs s2 => .ok (x :: xs, s2)
    else bnd (exp sRp s1) fun _ s2 => .ok ([x], s2)
end
def fu (ts : List Token) : Nat := 20 * ts.length + 20
def expr0 (s : S) : R Nd := expr (fu s.1) s
def prms : Nat → S → R (List Prm)
  | 0, _ => .error (0, 0)
  | f + 1, s => bnd (identR s) fun nm s1 => bnd (exp sColon s1) fun _ s2 => bnd (kindR s2) fun k s3 =>
    if isT sComma s3.1 = true then bnd (prms f (s3.1.tail, s3.2)) fun xs s4 => .ok (⟨nm, k⟩ :: xs, s4)
    else bnd (exp sRp s3) fun _ s4 => .ok ([⟨nm, k⟩], s4)
def funR (s : S) : R Fn := bnd (identR s) fun nm s1 => bnd (exp sLp s1) fun _ s2 =>
  bnd (if isT sRp s2.1 = true then .ok ([], s2.1.tail, s2.2) else prms s2.1.length s2) fun ps s3 => bnd (exp sColon s3) fun _ s4 => bnd (kindR s4) fun k s5 => bnd (exp sIs s5) fun _ s6 => bnd (expr0 s6) fun b s7 => .ok (⟨nm, ps, k, b⟩, s7)
def clR (s : S) : R Cl := bnd (expr0 s) fun c s1 => bnd (exp sThen s1) fun _ s2 => bnd (exp sSet s2) fun _ s3 => bnd (nameR s3) fun l s4 => bnd (exp sTo s4) fun _ s5 => bnd (expr0 s5) fun v s6 => .ok (⟨l, c, v⟩, s6)
def defs : Nat → S → R (List Fn)
  | 0, _ => .error (0, 0)
  | f + 1, s => if isT sDef s.1 = true then bnd (funR (s.1.tail, s.2)) fun x s1 => bnd (defs f s1) fun xs s2 => .ok (x :: xs, s2) else .ok ([], s)
def whens : Nat → S → R (List Cl)
  | 0, _ => .error (0, 0)
  | f + 1, s => if isT sWhen s.1 = true then bnd (clR (s.1.tail, s.2)) fun x s1 => bnd (whens f s1) fun xs s2 => .ok (x :: xs, s2) else .ok ([], s)
def prgR (s : S) : R (List Fn × List Cl) := bnd (defs s.1.length s) fun fs s1 => bnd (whens s1.1.length s1) fun cs s2 => if (pk s2.1).Kind = 4 then .ok ((fs, cs), s2) else fail s2
def parse (ts : List Token) : (List Fn × List Cl) × Int × Int := match prgR (ts, -1) with
  | .error e => if 0 ≤ e.2 then (([], []), 7, e.2) else (([], []), 2, e.1)
  | .ok (p, s) => if 0 ≤ s.2 then (([], []), 7, s.2) else (p, 0, 0)
end Ru
namespace Ru
open Bt Pa
theorem bnd_ok {α β : Type} {x : R α} {k : α → S → R β} {b : β} {s : S} (h : bnd x k = .ok (b, s)) : ∃ a s1, x = .ok (a, s1) ∧ k a s1 = .ok (b, s) := by
  unfold bnd at h
  split at h
  · cases h
  · exact ⟨_, _, rfl, h⟩
theorem bnd_err {α β : Type} {x : R α} {k : α → S → R β} {e : Int × Int} (h : bnd x k = .error e) : x = .error e ∨ ∃ a s1, x = .ok (a, s1) ∧ k a s1 = .error e := by
  unfold bnd at h
  split at h
  · cases h; exact .inl rfl
  · exact .inr ⟨_, _, rfl, h⟩
end Ru
