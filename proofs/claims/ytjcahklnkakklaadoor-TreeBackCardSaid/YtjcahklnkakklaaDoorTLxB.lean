/- Walks (part LxB), printed by walk2.py. Conditions: those of each theorem. -/
import Derived.Test.YtjcahklnkakklaaDoorTLxA
import Derived.Test.YtjcahklnkakklaaDoorTRes
namespace Go.Proofs.YtjcahklnkakklaaDoor
open Go Go.K Go.RowKit
attribute [local irreducible] AW RW DW Post Qt

theorem tokV {k k' : Int} {t t' : List UInt8} {a e e' : Int} {b b' : Bool} (h1 : k = k') (h2 : t = t') (h3 : e = e') (h4 : b = b') : Ending.returned (.tuple #[.agg #[.int .i64 k, .string (bs t), .int .i64 a], .int .i64 e, .bool b]) = .returned (.tuple #[.agg #[.int .i64 k', .string (bs t'), .int .i64 a], .int .i64 e', .bool b']) := by subst h1 h2 h3 h4; rfl
set_option maxRecDepth 8000 in
set_option maxHeartbeats 1000000 in
theorem sign_c (w : World) (Φ : Hp) (hΦ : Hp.le Φ (hp w)) {l : List UInt8} (hl : l.length ≤ 1099511627776) (h0 : 0 < l.length) :
    Calls Tryd.prog 63 #[.string (bs l)] w fun e w' => e = .returned (.int .i64 ((Lx.signN l : Nat) : Int)) ∧ Bel w.heap.size w w' := by
  refine calls_of_AW (args := [.string (bs l)]) Tryd.func63 rfl (Nat.le_of_ble_eq_true rfl) (St ⟨w, Φ, []⟩ Φ []) (StP.init w Φ hΦ []) ?_
  show AW Tryd.prog 34 [] _ _ _ [(0, .string (bs l))] _
  refine g9 ?_
  refine RW.q (v := .int .u8 (((l.getD 0 0).toNat : Nat) : Int)) rfl (q_indexS (l := l) (i := 0) rfl rfl Tryd.underlying9 (by omega) (by omega)) ?_
  refine g6 ?_
  refine RW.q (v := .bool (decide ((((l.getD 0 0).toNat : Nat) : Int) = ((60 : Nat) : Int)))) rfl (q_eql (a := (((l.getD 0 0).toNat : Nat) : Int)) (b := ((60 : Nat) : Int)) rfl rfl) ?_
  refine g3 ?_
  refine AW.orCh (t := 5) (x := 4) (a := (((l.getD 0 0).toNat : Nat) : Int)) rfl rfl _ rfl rfl rfl rfl fun _ => ?_
  refine g1 ?_
  refine AW.cond rfl (fun hc1 => ?_) fun hc1 => ?_
  · simp [-List.getD_eq_getElem?_getD, -Nat.reduceLeDiff] at hc1
    refine g4 ?_
    refine RW.q (v := .int .i64 ((l.length : Nat) : Int)) rfl (q_lenS (l := l) rfl Tryd.underlying9) ?_
    refine g3 ?_
    refine RW.g (b := (decide ((1 : Int) < ((l.length : Nat) : Int)))) (v := .int .u8 (((l.getD 1 0).toNat : Nat) : Int)) rfl rfl rfl (fun h => q_indexS (l := l) (i := 1) (gv_pos h) rfl Tryd.underlying9 (by (try simp [-List.getD_eq_getElem?_getD, -Nat.reduceLeDiff] at h); omega) (by (try simp [-List.getD_eq_getElem?_getD, -Nat.reduceLeDiff] at h); omega)) ?_
    refine RW.g (b := (decide ((1 : Int) < ((l.length : Nat) : Int)))) (v := .bool (decide ((((l.getD 1 0).toNat : Nat) : Int) = ((61 : Nat) : Int)))) rfl rfl rfl (fun h => q_eql (a := (((l.getD 1 0).toNat : Nat) : Int)) (b := ((61 : Nat) : Int)) (gv_pos h) rfl) ?_
    obtain ⟨qb1, hqb1⟩ : ∃ qz : Bool, ((decide ((1 : Int) < ((l.length : Nat) : Int))) && (decide ((((l.getD 1 0).toNat : Nat) : Int) = ((61 : Nat) : Int)))) = qz := ⟨_, rfl⟩
    refine RW.q (v := .bool qb1) rfl (q_as (v := .bool ((decide ((1 : Int) < ((l.length : Nat) : Int))) && (decide ((((l.getD 1 0).toNat : Nat) : Int) = ((61 : Nat) : Int))))) (q_pick rfl (fun hp => (gv_pos hp).trans (pkAndT hp)) (fun hp => pkAndF hp)) (congrArg Value.bool hqb1)) ?_
    subst hqb1
    refine g2 ?_
    refine AW.cond rfl (fun hc2 => ?_) fun hc2 => ?_
    · simp [-List.getD_eq_getElem?_getD, -Nat.reduceLeDiff] at hc2
      refine g9 ?_
      have hsg : Lx.signN l = 2 := by
        unfold Lx.signN
        simp only []
        first | (rw [if_pos (by omega), if_pos (by omega)]; done) | (rw [if_pos (by omega), if_neg (by omega), if_pos (by omega)]; done) | (rw [if_pos (by omega), if_neg (by omega), if_neg (by omega)]; done) | (rw [if_neg (by omega), if_pos (by omega)]; done) | (rw [if_neg (by omega), if_neg (by omega)]; done)
      exact fin_val (v' := .int .i64 2) rfl rfl rfl (by rw [hsg]; rfl)
    · simp [-List.getD_eq_getElem?_getD, -Nat.reduceLeDiff] at hc2
      refine g5 ?_
      refine RW.q (v := .int .u8 (((l.getD 0 0).toNat : Nat) : Int)) rfl (q_indexS (l := l) (i := 0) rfl rfl Tryd.underlying9 (by omega) (by omega)) ?_
      refine RW.q (v := .bool (!decide ((((l.getD 0 0).toNat : Nat) : Int) = ((33 : Nat) : Int)))) rfl (q_neq (a := (((l.getD 0 0).toNat : Nat) : Int)) (b := ((33 : Nat) : Int)) rfl rfl) ?_
      refine g2 ?_
      refine AW.cond rfl (fun hc3 => ?_) fun hc3 => ?_
      · simp [-List.getD_eq_getElem?_getD, -Nat.reduceLeDiff] at hc3
        refine g8 ?_
        have hsg : Lx.signN l = 1 := by
          unfold Lx.signN
          simp only []
          first | (rw [if_pos (by omega), if_pos (by omega)]; done) | (rw [if_pos (by omega), if_neg (by omega), if_pos (by omega)]; done) | (rw [if_pos (by omega), if_neg (by omega), if_neg (by omega)]; done) | (rw [if_neg (by omega), if_pos (by omega)]; done) | (rw [if_neg (by omega), if_neg (by omega)]; done)
        exact fin_val (v' := .int .i64 1) rfl rfl rfl (by rw [hsg]; rfl)
      · simp [-List.getD_eq_getElem?_getD, -Nat.reduceLeDiff] at hc3
        refine g9 ?_
        have hsg : Lx.signN l = 0 := by
          unfold Lx.signN
          simp only []
          first | (rw [if_pos (by omega), if_pos (by omega)]; done) | (rw [if_pos (by omega), if_neg (by omega), if_pos (by omega)]; done) | (rw [if_pos (by omega), if_neg (by omega), if_neg (by omega)]; done) | (rw [if_neg (by omega), if_pos (by omega)]; done) | (rw [if_neg (by omega), if_neg (by omega)]; done)
        exact fin_val (v' := .int .i64 0) rfl rfl rfl (by rw [hsg]; rfl)
  · simp [-List.getD_eq_getElem?_getD, -Nat.reduceLeDiff] at hc1
    refine g3 ?_
    refine RW.q (v := .bool (decide ((((l.getD 0 0).toNat : Nat) : Int) = ((123 : Nat) : Int)))) rfl (q_eql (a := (((l.getD 0 0).toNat : Nat) : Int)) (b := ((123 : Nat) : Int)) rfl rfl) ?_
    refine g3 ?_
    refine AW.orCh (t := 21) (x := 4) (a := (((l.getD 0 0).toNat : Nat) : Int)) rfl rfl _ rfl rfl rfl rfl fun _ => ?_
    refine g1 ?_
    refine AW.cond rfl (fun hc4 => ?_) fun hc4 => ?_
    · simp [-List.getD_eq_getElem?_getD, -Nat.reduceLeDiff] at hc4
      refine g8 ?_
      have hsg : Lx.signN l = 1 := by
        unfold Lx.signN
        simp only []
        first | (rw [if_pos (by omega), if_pos (by omega)]; done) | (rw [if_pos (by omega), if_neg (by omega), if_pos (by omega)]; done) | (rw [if_pos (by omega), if_neg (by omega), if_neg (by omega)]; done) | (rw [if_neg (by omega), if_pos (by omega)]; done) | (rw [if_neg (by omega), if_neg (by omega)]; done)
      exact fin_val (v' := .int .i64 1) rfl rfl rfl (by rw [hsg]; rfl)
    · simp [-List.getD_eq_getElem?_getD, -Nat.reduceLeDiff] at hc4
      refine g9 ?_
      have hsg : Lx.signN l = 0 := by
        unfold Lx.signN
        simp only []
        first | (rw [if_pos (by omega), if_pos (by omega)]; done) | (rw [if_pos (by omega), if_neg (by omega), if_pos (by omega)]; done) | (rw [if_pos (by omega), if_neg (by omega), if_neg (by omega)]; done) | (rw [if_neg (by omega), if_pos (by omega)]; done) | (rw [if_neg (by omega), if_neg (by omega)]; done)
      exact fin_val (v' := .int .i64 0) rfl rfl rfl (by rw [hsg]; rfl)

set_option maxRecDepth 8000 in
set_option maxHeartbeats 1000000 in
theorem token_c (w : World) (Φ : Hp) (hΦ : Hp.le Φ (hp w)) {l : List UInt8} {a : Nat} (hl : l.length ≤ 1099511627776) (ha : a < l.length) :
    Calls Tryd.prog 41 #[.string (bs l), .int .i64 (a : Int)] w fun e w' => e = .returned (.tuple #[.agg #[.int .i64 (((Lx.tk (l.drop a)).1 : Nat) : Int), .string (bs (Lx.txt (l.drop a))), .int .i64 (a : Int)], .int .i64 ((a + (Lx.tk (l.drop a)).2.2.2.1 : Nat) : Int), .bool (Lx.tk (l.drop a)).2.2.2.2]) ∧ Bel w.heap.size w w' := by
  refine calls_of_AW (args := [.string (bs l), .int .i64 (a : Int)]) Tryd.func41 rfl (Nat.le_of_ble_eq_true rfl) (St ⟨w, Φ, []⟩ Φ []) (StP.init w Φ hΦ []) ?_
  show AW Tryd.prog 122 [] _ _ _ [(0, .string (bs l)), (1, .int .i64 (a : Int))] _
  have hg0 : (l.drop a).getD 0 0 = l.getD a 0 := Lx.getD_drop l a 0
  have hld : (l.drop a).length = l.length - a := List.length_drop
  refine g2 ?_
  refine RW.alc rfl fun b1 => ?_
  refine g9 ?_
  refine RW.q (v := .int .u8 (((l.getD a 0).toNat : Nat) : Int)) rfl (q_indexS (l := l) (i := (a : Int)) rfl rfl Tryd.underlying9 (by omega) (by omega)) ?_
  refine g7 ?_
  refine RW.q (v := .bool (Lx.isL (l.getD a 0))) rfl (q_call (args := #[.int .u8 (((l.getD a 0).toNat : Nat) : Int)]) own59 rfl rfl (fun w1 hw1 => letter_c w1 (Go.K.hp w1) (Hp.le_refl _))) ?_
  refine g3 ?_
  refine AW.cond rfl (fun hc1 => ?_) fun hc1 => ?_
  · skip
    refine g4 ?_
    refine RW.q (v := .int .i64 ((a + Lx.run Lx.inN (l.drop a) : Nat) : Int)) rfl (q_call (args := #[.string (bs l), .int .i64 (a : Int), .func (.func 60) #[] #[]]) own57 rfl rfl (fun w1 hw1 => run_c w1 (Go.K.hp w1) (Hp.le_refl _) (by omega) (by omega) own60 (fun w2 c => inName_c w2 (Go.K.hp w2) (Hp.le_refl _)))) ?_
    refine g4 ?_
    have hrinN := Lx.run_drop_le Lx.inN l a (by omega)
    refine g4 ?_
    refine RW.q (v := .string (bs ((l.drop a).take ((a + Lx.run Lx.inN (l.drop a)) - a)))) rfl (q_sliceSLH (l := l) (i := (a : Int)) (j := ((a + Lx.run Lx.inN (l.drop a) : Nat) : Int)) rfl rfl rfl Tryd.underlying9 (by omega) (by omega) (by omega)) ?_
    refine g1 ?_
    refine RW.q (v := .agg #[.int .i64 0, .string (bs ((l.drop a).take ((a + Lx.run Lx.inN (l.drop a)) - a))), .int .i64 (a : Int)]) rfl (q_build (vals := [(0, .int .i64 0), (1, .string (bs ((l.drop a).take ((a + Lx.run Lx.inN (l.drop a)) - a)))), (2, .int .i64 (a : Int))]) zero39 Tryd.underlying39 places39 rfl rfl) ?_
    refine g5 ?_
    refine RW.effn (J' := St ⟨w, Φ, []⟩ Φ [.blk b1 39 [.int .i64 0, .string (bs ((l.drop a).take ((a + Lx.run Lx.inN (l.drop a)) - a))), .int .i64 (a : Int)]]) (e_store (v := .agg #[.int .i64 0, .string (bs ((l.drop a).take ((a + Lx.run Lx.inN (l.drop a)) - a))), .int .i64 (a : Int)]) 0 rfl rfl rfl sz39 rfl rfl rfl rfl rfl) ?_
    refine g7 ?_
    refine fin_res (vs := [.agg #[.int .i64 0, .string (bs ((l.drop a).take ((a + Lx.run Lx.inN (l.drop a)) - a))), .int .i64 (a : Int)], .int .i64 ((a + Lx.run Lx.inN (l.drop a) : Nat) : Int), .bool (decide (((a + Lx.run Lx.inN (l.drop a) : Nat) : Int) - (a : Int) ≤ 24))]) (v := .tuple #[.agg #[.int .i64 0, .string (bs ((l.drop a).take ((a + Lx.run Lx.inN (l.drop a)) - a))), .int .i64 (a : Int)], .int .i64 ((a + Lx.run Lx.inN (l.drop a) : Nat) : Int), .bool (decide (((a + Lx.run Lx.inN (l.drop a) : Nat) : Int) - (a : Int) ≤ 24))]) rfl rfl ⟨.agg rfl rfl (Cells.blk 0 rfl), .tmp rfl, .tmp rfl, trivial⟩ rfl (fun w' hw => ?_)
    refine ⟨?_, hw.below rfl⟩
    have htk : Lx.tk (l.drop a) = (0, 0, Lx.run Lx.inN (l.drop a), Lx.run Lx.inN (l.drop a), decide (Lx.run Lx.inN (l.drop a) ≤ 24)) := by
      unfold Lx.tk; rw [hg0, if_pos hc1]
    exact tokV (by rw [htk]; rfl) (by rw [Lx.txt, htk]; simp) (by rw [htk] <;> omega) (by rw [htk]; exact decide_eq_decide.2 (by omega))
  · skip
    refine g3 ?_
    refine RW.q (v := .bool (Lx.isD (l.getD a 0))) rfl (q_call (args := #[.int .u8 (((l.getD a 0).toNat : Nat) : Int)]) own61 rfl rfl (fun w1 hw1 => digit_c w1 (Go.K.hp w1) (Hp.le_refl _))) ?_
    refine g3 ?_
    refine AW.cond rfl (fun hc2 => ?_) fun hc2 => ?_
    · skip
      refine g4 ?_
      refine RW.q (v := .int .i64 ((a + Lx.run Lx.isD (l.drop a) : Nat) : Int)) rfl (q_call (args := #[.string (bs l), .int .i64 (a : Int), .func (.func 61) #[] #[]]) own57 rfl rfl (fun w1 hw1 => run_c w1 (Go.K.hp w1) (Hp.le_refl _) (by omega) (by omega) own61 (fun w2 c => digit_c w2 (Go.K.hp w2) (Hp.le_refl _)))) ?_
      refine g5 ?_
      have hrisD := Lx.run_drop_le Lx.isD l a (by omega)
      refine g4 ?_
      refine RW.q (v := .int .i64 ((l.length : Nat) : Int)) rfl (q_lenS (l := l) rfl Tryd.underlying9) ?_
      refine g4 ?_
      refine RW.g (b := (decide (((a + Lx.run Lx.isD (l.drop a) + 1 : Nat) : Int) < ((l.length : Nat) : Int)))) (v := .int .u8 (((l.getD (a + Lx.run Lx.isD (l.drop a)) 0).toNat : Nat) : Int)) rfl rfl rfl (fun h => q_indexS (l := l) (i := ((a + Lx.run Lx.isD (l.drop a) : Nat) : Int)) (gv_pos h) (gv_pos h) Tryd.underlying9 (by (try simp [-List.getD_eq_getElem?_getD] at h); omega) (by (try simp [-List.getD_eq_getElem?_getD] at h); omega)) ?_
      refine RW.g (b := (decide (((a + Lx.run Lx.isD (l.drop a) + 1 : Nat) : Int) < ((l.length : Nat) : Int)))) (v := .bool (decide ((((l.getD (a + Lx.run Lx.isD (l.drop a)) 0).toNat : Nat) : Int) = ((46 : Nat) : Int)))) rfl rfl rfl (fun h => q_eql (a := (((l.getD (a + Lx.run Lx.isD (l.drop a)) 0).toNat : Nat) : Int)) (b := ((46 : Nat) : Int)) (gv_pos h) rfl) ?_
      refine RW.q (v := .bool ((decide (((a + Lx.run Lx.isD (l.drop a) + 1 : Nat) : Int) < ((l.length : Nat) : Int))) && (decide ((((l.getD (a + Lx.run Lx.isD (l.drop a)) 0).toNat : Nat) : Int) = ((46 : Nat) : Int))))) rfl (q_pick rfl (fun hp => (gv_pos hp).trans (pkAndT hp)) (fun hp => pkAndF hp)) ?_
      refine g3 ?_
      refine RW.g (b := ((decide (((a + Lx.run Lx.isD (l.drop a) + 1 : Nat) : Int) < ((l.length : Nat) : Int))) && (decide ((((l.getD (a + Lx.run Lx.isD (l.drop a)) 0).toNat : Nat) : Int) = ((46 : Nat) : Int))))) (v := .int .i64 ((a + Lx.run Lx.isD (l.drop a) + 1 : Nat) : Int)) rfl rfl rfl (fun h => q_add (gv_pos h) rfl (by (try simp [-List.getD_eq_getElem?_getD] at h); omega) (by (try simp [-List.getD_eq_getElem?_getD] at h); unfold I64; omega)) ?_
      refine RW.g (b := ((decide (((a + Lx.run Lx.isD (l.drop a) + 1 : Nat) : Int) < ((l.length : Nat) : Int))) && (decide ((((l.getD (a + Lx.run Lx.isD (l.drop a)) 0).toNat : Nat) : Int) = ((46 : Nat) : Int))))) (v := .int .u8 (((l.getD (a + Lx.run Lx.isD (l.drop a) + 1) 0).toNat : Nat) : Int)) rfl rfl rfl (fun h => q_indexS (l := l) (i := ((a + Lx.run Lx.isD (l.drop a) + 1 : Nat) : Int)) (gv_pos h) (gv_pos h) Tryd.underlying9 (by (try simp [-List.getD_eq_getElem?_getD] at h); omega) (by (try simp [-List.getD_eq_getElem?_getD] at h); omega)) ?_
      refine RW.g (b := ((decide (((a + Lx.run Lx.isD (l.drop a) + 1 : Nat) : Int) < ((l.length : Nat) : Int))) && (decide ((((l.getD (a + Lx.run Lx.isD (l.drop a)) 0).toNat : Nat) : Int) = ((46 : Nat) : Int))))) (v := .bool (Lx.isD (l.getD (a + Lx.run Lx.isD (l.drop a) + 1) 0))) rfl rfl rfl (fun h => q_call (args := #[.int .u8 (((l.getD (a + Lx.run Lx.isD (l.drop a) + 1) 0).toNat : Nat) : Int)]) own61 rfl (args1 (gv_pos h)) (fun w1 hw1 => digit_c w1 (Go.K.hp w1) (Hp.le_refl _))) ?_
      refine RW.q (v := .bool (((decide (((a + Lx.run Lx.isD (l.drop a) + 1 : Nat) : Int) < ((l.length : Nat) : Int))) && (decide ((((l.getD (a + Lx.run Lx.isD (l.drop a)) 0).toNat : Nat) : Int) = ((46 : Nat) : Int)))) && (Lx.isD (l.getD (a + Lx.run Lx.isD (l.drop a) + 1) 0)))) rfl (q_pick rfl (fun hp => (gv_pos hp).trans (pkAndT hp)) (fun hp => pkAndF hp)) ?_
      refine g2 ?_
      refine AW.cond rfl (fun hc3 => ?_) fun hc3 => ?_
      · simp [-List.getD_eq_getElem?_getD] at hc3
        have hnum : Lx.numN (l.drop a) = Lx.run Lx.isD (l.drop a) + 1 + Lx.run Lx.isD (l.drop (a + Lx.run Lx.isD (l.drop a) + 1)) := by
          unfold Lx.numN
          rw [if_pos (by rw [hld, Lx.getD_drop, Lx.getD_drop]; refine ⟨by omega, by omega, ?_⟩; simpa [Nat.add_assoc] using hc3.2), List.drop_drop]; rfl
        have hrE := Lx.run_drop_le Lx.isD l (a + Lx.run Lx.isD (l.drop a) + 1) (by omega)
        refine g4 ?_
        refine RW.q (v := .int .i64 (((a + Lx.run Lx.isD (l.drop a) + 1) + Lx.run Lx.isD (l.drop (a + Lx.run Lx.isD (l.drop a) + 1)) : Nat) : Int)) rfl (q_call (args := #[.string (bs l), .int .i64 ((a + Lx.run Lx.isD (l.drop a) + 1 : Nat) : Int), .func (.func 61) #[] #[]]) own57 rfl rfl (fun w1 hw1 => run_c w1 (Go.K.hp w1) (Hp.le_refl _) (by omega) (by omega) own61 (fun w2 c => digit_c w2 (Go.K.hp w2) (Hp.le_refl _)))) ?_
        refine g8 ?_
        refine RW.q (v := .string (bs ((l.drop a).take (((a + Lx.run Lx.isD (l.drop a) + 1) + Lx.run Lx.isD (l.drop (a + Lx.run Lx.isD (l.drop a) + 1))) - a)))) rfl (q_sliceSLH (l := l) (i := (a : Int)) (j := (((a + Lx.run Lx.isD (l.drop a) + 1) + Lx.run Lx.isD (l.drop (a + Lx.run Lx.isD (l.drop a) + 1)) : Nat) : Int)) rfl rfl rfl Tryd.underlying9 (by omega) (by omega) (by omega)) ?_
        refine g1 ?_
        refine RW.q (v := .agg #[.int .i64 1, .string (bs ((l.drop a).take (((a + Lx.run Lx.isD (l.drop a) + 1) + Lx.run Lx.isD (l.drop (a + Lx.run Lx.isD (l.drop a) + 1))) - a))), .int .i64 (a : Int)]) rfl (q_build (vals := [(0, .int .i64 1), (1, .string (bs ((l.drop a).take (((a + Lx.run Lx.isD (l.drop a) + 1) + Lx.run Lx.isD (l.drop (a + Lx.run Lx.isD (l.drop a) + 1))) - a)))), (2, .int .i64 (a : Int))]) zero39 Tryd.underlying39 places39 rfl rfl) ?_
        refine g5 ?_
        refine RW.effn (J' := St ⟨w, Φ, []⟩ Φ [.blk b1 39 [.int .i64 1, .string (bs ((l.drop a).take (((a + Lx.run Lx.isD (l.drop a) + 1) + Lx.run Lx.isD (l.drop (a + Lx.run Lx.isD (l.drop a) + 1))) - a))), .int .i64 (a : Int)]]) (e_store (v := .agg #[.int .i64 1, .string (bs ((l.drop a).take (((a + Lx.run Lx.isD (l.drop a) + 1) + Lx.run Lx.isD (l.drop (a + Lx.run Lx.isD (l.drop a) + 1))) - a))), .int .i64 (a : Int)]) 0 rfl rfl rfl sz39 rfl rfl rfl rfl rfl) ?_
        refine g7 ?_
        refine fin_res (vs := [.agg #[.int .i64 1, .string (bs ((l.drop a).take (((a + Lx.run Lx.isD (l.drop a) + 1) + Lx.run Lx.isD (l.drop (a + Lx.run Lx.isD (l.drop a) + 1))) - a))), .int .i64 (a : Int)], .int .i64 (((a + Lx.run Lx.isD (l.drop a) + 1) + Lx.run Lx.isD (l.drop (a + Lx.run Lx.isD (l.drop a) + 1)) : Nat) : Int), .bool (decide ((((a + Lx.run Lx.isD (l.drop a) + 1) + Lx.run Lx.isD (l.drop (a + Lx.run Lx.isD (l.drop a) + 1)) : Nat) : Int) - (a : Int) ≤ 24))]) (v := .tuple #[.agg #[.int .i64 1, .string (bs ((l.drop a).take (((a + Lx.run Lx.isD (l.drop a) + 1) + Lx.run Lx.isD (l.drop (a + Lx.run Lx.isD (l.drop a) + 1))) - a))), .int .i64 (a : Int)], .int .i64 (((a + Lx.run Lx.isD (l.drop a) + 1) + Lx.run Lx.isD (l.drop (a + Lx.run Lx.isD (l.drop a) + 1)) : Nat) : Int), .bool (decide ((((a + Lx.run Lx.isD (l.drop a) + 1) + Lx.run Lx.isD (l.drop (a + Lx.run Lx.isD (l.drop a) + 1)) : Nat) : Int) - (a : Int) ≤ 24))]) rfl rfl ⟨.agg rfl rfl (Cells.blk 0 rfl), .tmp rfl, .tmp rfl, trivial⟩ rfl (fun w' hw => ?_)
        refine ⟨?_, hw.below rfl⟩
        have htk : Lx.tk (l.drop a) = (1, 0, Lx.numN (l.drop a), Lx.numN (l.drop a), decide (Lx.numN (l.drop a) ≤ 24)) := by
          unfold Lx.tk; rw [hg0, if_neg (by rw [hc1]; simp), if_pos hc2]
        exact tokV (by rw [htk]; rfl) (by rw [Lx.txt, htk]; rw [hnum]; simp only [List.drop_zero]; congr 1; omega) (by rw [htk]; simp only []; rw [hnum]; omega) (by rw [htk]; rw [hnum]; exact decide_eq_decide.2 (by omega))
      · simp [-List.getD_eq_getElem?_getD] at hc3
        have hnum : Lx.numN (l.drop a) = Lx.run Lx.isD (l.drop a) := by
          unfold Lx.numN
          rw [if_neg (by rw [hld, Lx.getD_drop, Lx.getD_drop]; rintro ⟨h7, h8, h9⟩; have h6 := hc3 (by omega) (by omega); rw [Nat.add_assoc] at h6; rw [h6] at h9; cases h9)]
        refine g7 ?_
        refine RW.q (v := .string (bs ((l.drop a).take ((a + Lx.run Lx.isD (l.drop a)) - a)))) rfl (q_sliceSLH (l := l) (i := (a : Int)) (j := ((a + Lx.run Lx.isD (l.drop a) : Nat) : Int)) rfl rfl rfl Tryd.underlying9 (by omega) (by omega) (by omega)) ?_
        refine g1 ?_
        refine RW.q (v := .agg #[.int .i64 1, .string (bs ((l.drop a).take ((a + Lx.run Lx.isD (l.drop a)) - a))), .int .i64 (a : Int)]) rfl (q_build (vals := [(0, .int .i64 1), (1, .string (bs ((l.drop a).take ((a + Lx.run Lx.isD (l.drop a)) - a)))), (2, .int .i64 (a : Int))]) zero39 Tryd.underlying39 places39 rfl rfl) ?_
        refine g5 ?_
        refine RW.effn (J' := St ⟨w, Φ, []⟩ Φ [.blk b1 39 [.int .i64 1, .string (bs ((l.drop a).take ((a + Lx.run Lx.isD (l.drop a)) - a))), .int .i64 (a : Int)]]) (e_store (v := .agg #[.int .i64 1, .string (bs ((l.drop a).take ((a + Lx.run Lx.isD (l.drop a)) - a))), .int .i64 (a : Int)]) 0 rfl rfl rfl sz39 rfl rfl rfl rfl rfl) ?_
        refine g7 ?_
        refine fin_res (vs := [.agg #[.int .i64 1, .string (bs ((l.drop a).take ((a + Lx.run Lx.isD (l.drop a)) - a))), .int .i64 (a : Int)], .int .i64 ((a + Lx.run Lx.isD (l.drop a) : Nat) : Int), .bool (decide (((a + Lx.run Lx.isD (l.drop a) : Nat) : Int) - (a : Int) ≤ 24))]) (v := .tuple #[.agg #[.int .i64 1, .string (bs ((l.drop a).take ((a + Lx.run Lx.isD (l.drop a)) - a))), .int .i64 (a : Int)], .int .i64 ((a + Lx.run Lx.isD (l.drop a) : Nat) : Int), .bool (decide (((a + Lx.run Lx.isD (l.drop a) : Nat) : Int) - (a : Int) ≤ 24))]) rfl rfl ⟨.agg rfl rfl (Cells.blk 0 rfl), .tmp rfl, .tmp rfl, trivial⟩ rfl (fun w' hw => ?_)
        refine ⟨?_, hw.below rfl⟩
        have htk : Lx.tk (l.drop a) = (1, 0, Lx.numN (l.drop a), Lx.numN (l.drop a), decide (Lx.numN (l.drop a) ≤ 24)) := by
          unfold Lx.tk; rw [hg0, if_neg (by rw [hc1]; simp), if_pos hc2]
        exact tokV (by rw [htk]; rfl) (by rw [Lx.txt, htk]; rw [hnum]; simp) (by rw [htk]; simp only []; rw [hnum]) (by rw [htk]; rw [hnum]; exact decide_eq_decide.2 (by omega))
    · skip
      refine g3 ?_
      refine RW.q (v := .bool (decide ((((l.getD a 0).toNat : Nat) : Int) = ((34 : Nat) : Int)))) rfl (q_eql (a := (((l.getD a 0).toNat : Nat) : Int)) (b := ((34 : Nat) : Int)) rfl rfl) ?_
      refine g3 ?_
      refine AW.cond rfl (fun hc4 => ?_) fun hc4 => ?_
      · simp [-List.getD_eq_getElem?_getD] at hc4
        refine g5 ?_
        refine RW.q (v := .int .i64 (((a + 1) + Lx.run Lx.inS (l.drop (a + 1)) : Nat) : Int)) rfl (q_call (args := #[.string (bs l), .int .i64 ((a + 1 : Nat) : Int), .func (.func 62) #[] #[]]) own57 rfl rfl (fun w1 hw1 => run_c w1 (Go.K.hp w1) (Hp.le_refl _) (by omega) (by omega) own62 (fun w2 c => inString_c w2 (Go.K.hp w2) (Hp.le_refl _)))) ?_
        refine g4 ?_
        have hrinS := Lx.run_drop_le Lx.inS l (a + 1) (by omega)
        refine g3 ?_
        refine RW.q (v := .int .i64 ((l.length : Nat) : Int)) rfl (q_lenS (l := l) rfl Tryd.underlying9) ?_
        refine g4 ?_
        refine RW.g (b := (decide ((((a + 1) + Lx.run Lx.inS (l.drop (a + 1)) : Nat) : Int) < ((l.length : Nat) : Int)))) (v := .int .u8 (((l.getD ((a + 1) + Lx.run Lx.inS (l.drop (a + 1))) 0).toNat : Nat) : Int)) rfl rfl rfl (fun h => q_indexS (l := l) (i := (((a + 1) + Lx.run Lx.inS (l.drop (a + 1)) : Nat) : Int)) (gv_pos h) (gv_pos h) Tryd.underlying9 (by (try simp [-List.getD_eq_getElem?_getD] at h); omega) (by (try simp [-List.getD_eq_getElem?_getD] at h); omega)) ?_
        refine RW.g (b := (decide ((((a + 1) + Lx.run Lx.inS (l.drop (a + 1)) : Nat) : Int) < ((l.length : Nat) : Int)))) (v := .bool (decide ((((l.getD ((a + 1) + Lx.run Lx.inS (l.drop (a + 1))) 0).toNat : Nat) : Int) = ((34 : Nat) : Int)))) rfl rfl rfl (fun h => q_eql (a := (((l.getD ((a + 1) + Lx.run Lx.inS (l.drop (a + 1))) 0).toNat : Nat) : Int)) (b := ((34 : Nat) : Int)) (gv_pos h) rfl) ?_
        refine RW.q (v := .bool ((decide ((((a + 1) + Lx.run Lx.inS (l.drop (a + 1)) : Nat) : Int) < ((l.length : Nat) : Int))) && (decide ((((l.getD ((a + 1) + Lx.run Lx.inS (l.drop (a + 1))) 0).toNat : Nat) : Int) = ((34 : Nat) : Int))))) rfl (q_pick rfl (fun hp => (gv_pos hp).trans (pkAndT hp)) (fun hp => pkAndF hp)) ?_
        refine g3 ?_
        refine RW.g (b := ((decide ((((a + 1) + Lx.run Lx.inS (l.drop (a + 1)) : Nat) : Int) < ((l.length : Nat) : Int))) && (decide ((((l.getD ((a + 1) + Lx.run Lx.inS (l.drop (a + 1))) 0).toNat : Nat) : Int) = ((34 : Nat) : Int))))) (v := .int .i64 ((((a + 1) + Lx.run Lx.inS (l.drop (a + 1)) : Nat) : Int) - (a : Int))) rfl rfl rfl (fun h => q_sub (gv_pos h) (gv_pos h) (by (try simp [-List.getD_eq_getElem?_getD] at h); omega) (by (try simp [-List.getD_eq_getElem?_getD] at h); unfold I64; omega)) ?_
        refine RW.g (b := ((decide ((((a + 1) + Lx.run Lx.inS (l.drop (a + 1)) : Nat) : Int) < ((l.length : Nat) : Int))) && (decide ((((l.getD ((a + 1) + Lx.run Lx.inS (l.drop (a + 1))) 0).toNat : Nat) : Int) = ((34 : Nat) : Int))))) (v := .int .i64 (((((a + 1) + Lx.run Lx.inS (l.drop (a + 1)) : Nat) : Int) - (a : Int)) - 1)) rfl rfl rfl (fun h => q_sub (gv_pos h) rfl (by (try simp [-List.getD_eq_getElem?_getD] at h); omega) (by (try simp [-List.getD_eq_getElem?_getD] at h); unfold I64; omega)) ?_
        refine g1 ?_
        refine RW.q (v := .bool (((decide ((((a + 1) + Lx.run Lx.inS (l.drop (a + 1)) : Nat) : Int) < ((l.length : Nat) : Int))) && (decide ((((l.getD ((a + 1) + Lx.run Lx.inS (l.drop (a + 1))) 0).toNat : Nat) : Int) = ((34 : Nat) : Int)))) && (decide (((((a + 1) + Lx.run Lx.inS (l.drop (a + 1)) : Nat) : Int) - (a : Int)) - 1 ≤ 500)))) rfl (q_pick rfl (fun hp => (gv_pos hp).trans (pkAndT hp)) (fun hp => pkAndF hp)) ?_
        refine g4 ?_
        have hdd : (l.drop a).drop 1 = l.drop (a + 1) := List.drop_drop ..
        refine g5 ?_
        refine RW.q (v := .string (bs ((l.drop (a + 1)).take (((a + 1) + Lx.run Lx.inS (l.drop (a + 1))) - (a + 1))))) rfl (q_sliceSLH (l := l) (i := ((a + 1 : Nat) : Int)) (j := (((a + 1) + Lx.run Lx.inS (l.drop (a + 1)) : Nat) : Int)) rfl rfl rfl Tryd.underlying9 (by omega) (by omega) (by omega)) ?_
        refine g1 ?_
        refine RW.q (v := .agg #[.int .i64 2, .string (bs ((l.drop (a + 1)).take (((a + 1) + Lx.run Lx.inS (l.drop (a + 1))) - (a + 1)))), .int .i64 (a : Int)]) rfl (q_build (vals := [(0, .int .i64 2), (1, .string (bs ((l.drop (a + 1)).take (((a + 1) + Lx.run Lx.inS (l.drop (a + 1))) - (a + 1))))), (2, .int .i64 (a : Int))]) zero39 Tryd.underlying39 places39 rfl rfl) ?_
        refine g3 ?_
        refine RW.effn (J' := St ⟨w, Φ, []⟩ Φ [.blk b1 39 [.int .i64 2, .string (bs ((l.drop (a + 1)).take (((a + 1) + Lx.run Lx.inS (l.drop (a + 1))) - (a + 1)))), .int .i64 (a : Int)]]) (e_store (v := .agg #[.int .i64 2, .string (bs ((l.drop (a + 1)).take (((a + 1) + Lx.run Lx.inS (l.drop (a + 1))) - (a + 1)))), .int .i64 (a : Int)]) 0 rfl rfl rfl sz39 rfl rfl rfl rfl rfl) ?_
        refine g7 ?_
        refine fin_res (vs := [.agg #[.int .i64 2, .string (bs ((l.drop (a + 1)).take (((a + 1) + Lx.run Lx.inS (l.drop (a + 1))) - (a + 1)))), .int .i64 (a : Int)], .int .i64 (((a + 1) + Lx.run Lx.inS (l.drop (a + 1)) + 1 : Nat) : Int), .bool (((decide ((((a + 1) + Lx.run Lx.inS (l.drop (a + 1)) : Nat) : Int) < ((l.length : Nat) : Int))) && (decide ((((l.getD ((a + 1) + Lx.run Lx.inS (l.drop (a + 1))) 0).toNat : Nat) : Int) = ((34 : Nat) : Int)))) && (decide (((((a + 1) + Lx.run Lx.inS (l.drop (a + 1)) : Nat) : Int) - (a : Int)) - 1 ≤ 500)))]) (v := .tuple #[.agg #[.int .i64 2, .string (bs ((l.drop (a + 1)).take (((a + 1) + Lx.run Lx.inS (l.drop (a + 1))) - (a + 1)))), .int .i64 (a : Int)], .int .i64 (((a + 1) + Lx.run Lx.inS (l.drop (a + 1)) + 1 : Nat) : Int), .bool (((decide ((((a + 1) + Lx.run Lx.inS (l.drop (a + 1)) : Nat) : Int) < ((l.length : Nat) : Int))) && (decide ((((l.getD ((a + 1) + Lx.run Lx.inS (l.drop (a + 1))) 0).toNat : Nat) : Int) = ((34 : Nat) : Int)))) && (decide (((((a + 1) + Lx.run Lx.inS (l.drop (a + 1)) : Nat) : Int) - (a : Int)) - 1 ≤ 500)))]) rfl rfl ⟨.agg rfl rfl (Cells.blk 0 rfl), .tmp rfl, .tmp rfl, trivial⟩ rfl (fun w' hw => ?_)
        refine ⟨?_, hw.below rfl⟩
        have htk : Lx.tk (l.drop a) = (2, 1, Lx.run Lx.inS ((l.drop a).drop 1), Lx.run Lx.inS ((l.drop a).drop 1) + 2, decide (Lx.run Lx.inS ((l.drop a).drop 1) + 1 < (l.drop a).length ∧ ((l.drop a).getD (Lx.run Lx.inS ((l.drop a).drop 1) + 1) 0).toNat = 34 ∧ Lx.run Lx.inS ((l.drop a).drop 1) ≤ 500)) := by
          unfold Lx.tk; rw [hg0, if_neg (by rw [hc1]; simp), if_neg (by rw [hc2]; simp), if_pos (by omega)]
        exact tokV (by rw [htk]; rfl) (by rw [Lx.txt, htk]; rw [hdd]; simp only [hdd]; congr 1; omega) (by rw [htk, hdd]; simp only []; omega) (by rw [htk]; rw [Bool.eq_iff_iff]; simp only [Bool.and_eq_true, decide_eq_true_eq]; rw [hdd, Lx.getD_drop, hld, show a + (Lx.run Lx.inS (l.drop (a + 1)) + 1) = a + 1 + Lx.run Lx.inS (l.drop (a + 1)) by omega]; omega)
      · simp [-List.getD_eq_getElem?_getD] at hc4
        refine g4 ?_
        have hsg2 : Lx.signN (l.drop a) ≤ l.length - a := by rw [← hld]; exact Lx.signN_le _
        refine g4 ?_
        refine RW.q (v := .string (bs (l.drop a))) rfl (q_sliceSL (l := l) (i := (a : Int)) rfl rfl Tryd.underlying9 (by omega) (by omega)) ?_
        refine RW.q (v := .int .i64 ((Lx.signN (l.drop a) : Nat) : Int)) rfl (q_call (args := #[.string (bs (l.drop a))]) own63 rfl rfl (fun w1 hw1 => sign_c w1 (Go.K.hp w1) (Hp.le_refl _) (by simp; omega) (by simp; omega))) ?_
        refine g9 ?_
        refine RW.q (v := .string (bs ((l.drop a).take ((a + Lx.signN (l.drop a)) - a)))) rfl (q_sliceSLH (l := l) (i := (a : Int)) (j := ((a + Lx.signN (l.drop a) : Nat) : Int)) rfl rfl rfl Tryd.underlying9 (by omega) (by omega) (by omega)) ?_
        refine g1 ?_
        refine RW.q (v := .agg #[.int .i64 3, .string (bs ((l.drop a).take ((a + Lx.signN (l.drop a)) - a))), .int .i64 (a : Int)]) rfl (q_build (vals := [(0, .int .i64 3), (1, .string (bs ((l.drop a).take ((a + Lx.signN (l.drop a)) - a)))), (2, .int .i64 (a : Int))]) zero39 Tryd.underlying39 places39 rfl rfl) ?_
        refine g4 ?_
        refine RW.effn (J' := St ⟨w, Φ, []⟩ Φ [.blk b1 39 [.int .i64 3, .string (bs ((l.drop a).take ((a + Lx.signN (l.drop a)) - a))), .int .i64 (a : Int)]]) (e_store (v := .agg #[.int .i64 3, .string (bs ((l.drop a).take ((a + Lx.signN (l.drop a)) - a))), .int .i64 (a : Int)]) 0 rfl rfl rfl sz39 rfl rfl rfl rfl rfl) ?_
        refine g5 ?_
        refine fin_res (vs := [.agg #[.int .i64 3, .string (bs ((l.drop a).take ((a + Lx.signN (l.drop a)) - a))), .int .i64 (a : Int)], .int .i64 ((a + Lx.signN (l.drop a) : Nat) : Int), .bool (decide ((a : Int) < ((a + Lx.signN (l.drop a) : Nat) : Int)))]) (v := .tuple #[.agg #[.int .i64 3, .string (bs ((l.drop a).take ((a + Lx.signN (l.drop a)) - a))), .int .i64 (a : Int)], .int .i64 ((a + Lx.signN (l.drop a) : Nat) : Int), .bool (decide ((a : Int) < ((a + Lx.signN (l.drop a) : Nat) : Int)))]) rfl rfl ⟨.agg rfl rfl (Cells.blk 0 rfl), .tmp rfl, .tmp rfl, trivial⟩ rfl (fun w' hw => ?_)
        refine ⟨?_, hw.below rfl⟩
        have htk : Lx.tk (l.drop a) = (3, 0, Lx.signN (l.drop a), Lx.signN (l.drop a), decide (0 < Lx.signN (l.drop a))) := by
          unfold Lx.tk; rw [hg0, if_neg (by rw [hc1]; simp), if_neg (by rw [hc2]; simp), if_neg (by omega)]
        exact tokV (by rw [htk]; rfl) (by rw [Lx.txt, htk]; simp) (by rw [htk] <;> omega) (by rw [htk]; exact decide_eq_decide.2 (by omega))

end Go.Proofs.YtjcahklnkakklaaDoor
