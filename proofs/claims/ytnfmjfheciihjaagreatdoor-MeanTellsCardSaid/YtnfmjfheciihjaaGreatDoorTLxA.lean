/- Lemmas. Conditions: those of each theorem. -/
import Derived.Test.YtnfmjfheciihjaaGreatDoorTRfA
import Derived.Test.YtnfmjfheciihjaaGreatDoorTRes
set_option maxRecDepth 8000
set_option maxHeartbeats 16000000
namespace Go.Proofs.YtnfmjfheciihjaaGreatDoor
open Go Go.K Go.RowKit
attribute [local irreducible] AW RW DW Post Qt

end Go.Proofs.YtnfmjfheciihjaaGreatDoor
namespace Lx
def rt (l : List UInt8) (a : Nat) : Bt.Token × Nat :=
  if isL (l.getD 0 0) then (if run inN l ≤ 24 then (⟨0, l.take (run inN l), a⟩, run inN l) else (⟨0, [], 0⟩, 0))
  else if isD (l.getD 0 0) then (if numN l ≤ 24 then (⟨1, l.take (numN l), a⟩, numN l) else (⟨0, [], 0⟩, 0))
  else if (l.getD 0 0).toNat = 34 then (if quo l = 0 then (⟨0, [], 0⟩, 0) else (⟨2, (l.drop 1).take (quo l - 2), a⟩, quo l))
  else (⟨3, l.take (signN l), a⟩, signN l)
theorem quo_le (l : List UInt8) : quo l ≤ l.length := by unfold quo; split <;> omega
theorem quo_two (l : List UInt8) : quo l = 0 ∨ 2 ≤ quo l := by unfold quo; split <;> omega
end Lx
namespace Go.Proofs.YtnfmjfheciihjaaGreatDoor
open Go Go.K Go.RowKit
attribute [local irreducible] AW RW DW Post Qt
theorem rtV {k k' : Int} {t t' : List UInt8} {a a' e e' : Int} (h1 : k = k') (h2 : t = t') (h3 : a = a') (h4 : e = e') : Ending.returned (.tuple #[.agg #[.int .i64 k, .string (bs t), .int .i64 a], .int .i64 e]) = .returned (.tuple #[.agg #[.int .i64 k', .string (bs t'), .int .i64 a'], .int .i64 e']) := by subst h1 h2 h3 h4; rfl
theorem ftoken_c (w : World) (Φ : Hp) (hΦ : Hp.le Φ (hp w)) {l : List UInt8} {a : Nat} (hl : l.length ≤ 1099511627776) (ha : a < l.length) :
    Calls pg 128 #[.string (bs l), .int .i64 (a : Int)] w fun e w' => e = .returned (.tuple #[.agg #[.int .i64 (Lx.rt (l.drop a) a).1.Kind, .string (bs (Lx.rt (l.drop a) a).1.Text), .int .i64 (Lx.rt (l.drop a) a).1.At], .int .i64 (((Lx.rt (l.drop a) a).2 : Nat) : Int)]) ∧ Bel w.heap.size w w' := by
  refine calls_of_AW (args := [.string (bs l), .int .i64 (a : Int)]) Tryz.func128 rfl (lBT rfl) (St ⟨w, Φ, []⟩ Φ []) (StP.init w Φ hΦ []) ?_
  show AW pg 82 [] _ _ _ [(0, .string (bs l)), (1, .int .i64 (a : Int))] _
  have hg0 : (l.drop a).getD 0 0 = l.getD a 0 := Lx.getD_drop l a 0
  have hg1 : (l.drop a).getD 1 0 = l.getD (a + 1) 0 := Lx.getD_drop l a 1
  have hld : (l.drop a).length = l.length - a := List.length_drop
  refine g2 ?_
  refine RW.alc rfl fun b1 => ?_
  refine g7 ?_
  refine RW.q (v := .int .u8 (((l.getD a 0).toNat : Nat) : Int)) rfl (q_indexS (l := l) (i := (a : Int)) rfl rfl Tryz.underlying9 (by omega) (by omega)) ?_
  refine g8 ?_
  refine RW.q (v := .bool (Lx.isL (l.getD a 0))) rfl (q_call (args := #[.int .u8 (((l.getD a 0).toNat : Nat) : Int)]) oK rfl rfl (fun w1 hw1 => fletter_c w1 (Go.K.hp w1) (Hp.le_refl _))) ?_
  refine g3 ?_
  refine AW.cond rfl (fun hc1 => ?_) fun hc1 => ?_
  · skip
    refine g4 ?_
    refine RW.q (v := .int .i64 ((Lx.run Lx.inN (l.drop a) : Nat) : Int)) rfl (q_call (args := #[.string (bs l), .int .i64 (a : Int)]) oK rfl rfl (fun w1 hw1 => fword_c w1 (Go.K.hp w1) (Hp.le_refl _) (by omega) (by omega))) ?_
    refine g10 ?_
    refine AW.cond rfl (fun hc2 => ?_) fun hc2 => ?_
    · simp [-List.getD_eq_getElem?_getD] at hc2
      refine g2 ?_
      refine RW.q (v := .agg #[.int .i64 0, .string (bs ([])), .int .i64 0]) rfl (q_build (vals := []) zero134 Tryz.underlying134 places134 rfl rfl) ?_
      refine RW.effn (J' := St ⟨w, Φ, []⟩ Φ [.blk b1 134 [.int .i64 0, .string (bs ([])), .int .i64 0]]) (e_store (v := .agg #[.int .i64 0, .string (bs ([])), .int .i64 0]) 0 rfl rfl rfl sz134 rfl rfl rfl rfl rfl) ?_
      refine g7 ?_
      refine fin_cell2 (cs := [.int .i64 0, .string (bs ([])), .int .i64 0]) (v := .int .i64 0) rfl rfl rfl rfl Tryz.underlying134 rfl sz134 rfl (Cells.blk 0 rfl) (fun w' hw => ?_)
      refine ⟨?_, hw.below rfl⟩
      have hrt : Lx.rt (l.drop a) a = (⟨0, [], 0⟩, 0) := by
        unfold Lx.rt; rw [hg0, if_pos hc1, if_neg (by omega)]
      exact rtV (by rw [hrt] <;> rfl) (by rw [hrt] <;> rfl) (by rw [hrt] <;> rfl) (by rw [hrt] <;> rfl)
    · simp [-List.getD_eq_getElem?_getD] at hc2
      refine g3 ?_
      have hle := Lx.run_drop_le Lx.inN l a (by omega)
      refine g6 ?_
      refine RW.q (v := .string (bs ((l.drop a).take ((a + Lx.run Lx.inN (l.drop a)) - a)))) rfl (q_sliceSLH (l := l) (i := (a : Int)) (j := ((a + Lx.run Lx.inN (l.drop a) : Nat) : Int)) rfl rfl rfl Tryz.underlying9 (by omega) (by omega) (by omega)) ?_
      refine g1 ?_
      refine RW.q (v := .agg #[.int .i64 0, .string (bs ((l.drop a).take ((a + Lx.run Lx.inN (l.drop a)) - a))), .int .i64 (a : Int)]) rfl (q_build (vals := [(0, .int .i64 0), (1, .string (bs ((l.drop a).take ((a + Lx.run Lx.inN (l.drop a)) - a)))), (2, .int .i64 (a : Int))]) zero134 Tryz.underlying134 places134 rfl rfl) ?_
      refine g1 ?_
      refine RW.effn (J' := St ⟨w, Φ, []⟩ Φ [.blk b1 134 [.int .i64 0, .string (bs ((l.drop a).take ((a + Lx.run Lx.inN (l.drop a)) - a))), .int .i64 (a : Int)]]) (e_store (v := .agg #[.int .i64 0, .string (bs ((l.drop a).take ((a + Lx.run Lx.inN (l.drop a)) - a))), .int .i64 (a : Int)]) 0 rfl rfl rfl sz134 rfl rfl rfl rfl rfl) ?_
      refine g6 ?_
      refine fin_cell2 (cs := [.int .i64 0, .string (bs ((l.drop a).take ((a + Lx.run Lx.inN (l.drop a)) - a))), .int .i64 (a : Int)]) (v := .int .i64 ((Lx.run Lx.inN (l.drop a) : Nat) : Int)) rfl rfl rfl rfl Tryz.underlying134 rfl sz134 rfl (Cells.blk 0 rfl) (fun w' hw => ?_)
      refine ⟨?_, hw.below rfl⟩
      have hrt : Lx.rt (l.drop a) a = (⟨0, (l.drop a).take (Lx.run Lx.inN (l.drop a)), a⟩, Lx.run Lx.inN (l.drop a)) := by
        unfold Lx.rt; rw [hg0, if_pos hc1, if_pos (by omega)]
      exact rtV (by rw [hrt] <;> rfl) (by rw [hrt] <;> simp) (by rw [hrt] <;> rfl) (by rw [hrt] <;> rfl)
  · skip
    refine g3 ?_
    refine RW.q (v := .bool (Lx.isD (l.getD a 0))) rfl (q_call (args := #[.int .u8 (((l.getD a 0).toNat : Nat) : Int)]) oK rfl rfl (fun w1 hw1 => fdigit_c w1 (Go.K.hp w1) (Hp.le_refl _))) ?_
    refine g3 ?_
    refine AW.cond rfl (fun hc3 => ?_) fun hc3 => ?_
    · skip
      refine g4 ?_
      refine RW.q (v := .int .i64 ((Lx.numN (l.drop a) : Nat) : Int)) rfl (q_call (args := #[.string (bs l), .int .i64 (a : Int)]) oK rfl rfl (fun w1 hw1 => fnumber_c w1 (Go.K.hp w1) (Hp.le_refl _) (by omega) (by omega))) ?_
      refine g10 ?_
      refine AW.cond rfl (fun hc4 => ?_) fun hc4 => ?_
      · simp [-List.getD_eq_getElem?_getD] at hc4
        refine g2 ?_
        refine RW.q (v := .agg #[.int .i64 0, .string (bs ([])), .int .i64 0]) rfl (q_build (vals := []) zero134 Tryz.underlying134 places134 rfl rfl) ?_
        refine RW.effn (J' := St ⟨w, Φ, []⟩ Φ [.blk b1 134 [.int .i64 0, .string (bs ([])), .int .i64 0]]) (e_store (v := .agg #[.int .i64 0, .string (bs ([])), .int .i64 0]) 0 rfl rfl rfl sz134 rfl rfl rfl rfl rfl) ?_
        refine g7 ?_
        refine fin_cell2 (cs := [.int .i64 0, .string (bs ([])), .int .i64 0]) (v := .int .i64 0) rfl rfl rfl rfl Tryz.underlying134 rfl sz134 rfl (Cells.blk 0 rfl) (fun w' hw => ?_)
        refine ⟨?_, hw.below rfl⟩
        have hrt : Lx.rt (l.drop a) a = (⟨0, [], 0⟩, 0) := by
          unfold Lx.rt; rw [hg0, if_neg (by rw [hc1]; simp), if_pos hc3, if_neg (by omega)]
        exact rtV (by rw [hrt] <;> rfl) (by rw [hrt] <;> rfl) (by rw [hrt] <;> rfl) (by rw [hrt] <;> rfl)
      · simp [-List.getD_eq_getElem?_getD] at hc4
        refine g3 ?_
        have hle : a + Lx.numN (l.drop a) ≤ l.length := by have h7 := Lx.numN_le (l.drop a); rw [hld] at h7; omega
        refine g6 ?_
        refine RW.q (v := .string (bs ((l.drop a).take ((a + Lx.numN (l.drop a)) - a)))) rfl (q_sliceSLH (l := l) (i := (a : Int)) (j := ((a + Lx.numN (l.drop a) : Nat) : Int)) rfl rfl rfl Tryz.underlying9 (by omega) (by omega) (by omega)) ?_
        refine g1 ?_
        refine RW.q (v := .agg #[.int .i64 1, .string (bs ((l.drop a).take ((a + Lx.numN (l.drop a)) - a))), .int .i64 (a : Int)]) rfl (q_build (vals := [(0, .int .i64 1), (1, .string (bs ((l.drop a).take ((a + Lx.numN (l.drop a)) - a)))), (2, .int .i64 (a : Int))]) zero134 Tryz.underlying134 places134 rfl rfl) ?_
        refine g1 ?_
        refine RW.effn (J' := St ⟨w, Φ, []⟩ Φ [.blk b1 134 [.int .i64 1, .string (bs ((l.drop a).take ((a + Lx.numN (l.drop a)) - a))), .int .i64 (a : Int)]]) (e_store (v := .agg #[.int .i64 1, .string (bs ((l.drop a).take ((a + Lx.numN (l.drop a)) - a))), .int .i64 (a : Int)]) 0 rfl rfl rfl sz134 rfl rfl rfl rfl rfl) ?_
        refine g6 ?_
        refine fin_cell2 (cs := [.int .i64 1, .string (bs ((l.drop a).take ((a + Lx.numN (l.drop a)) - a))), .int .i64 (a : Int)]) (v := .int .i64 ((Lx.numN (l.drop a) : Nat) : Int)) rfl rfl rfl rfl Tryz.underlying134 rfl sz134 rfl (Cells.blk 0 rfl) (fun w' hw => ?_)
        refine ⟨?_, hw.below rfl⟩
        have hrt : Lx.rt (l.drop a) a = (⟨1, (l.drop a).take (Lx.numN (l.drop a)), a⟩, Lx.numN (l.drop a)) := by
          unfold Lx.rt; rw [hg0, if_neg (by rw [hc1]; simp), if_pos hc3, if_pos (by omega)]
        exact rtV (by rw [hrt] <;> rfl) (by rw [hrt] <;> simp) (by rw [hrt] <;> rfl) (by rw [hrt] <;> rfl)
    · skip
      refine g3 ?_
      refine RW.q (v := .bool (decide ((((l.getD a 0).toNat : Nat) : Int) = ((34 : Nat) : Int)))) rfl (q_eql (a := (((l.getD a 0).toNat : Nat) : Int)) (b := ((34 : Nat) : Int)) rfl rfl) ?_
      refine g3 ?_
      refine AW.cond rfl (fun hc5 => ?_) fun hc5 => ?_
      · simp [-List.getD_eq_getElem?_getD] at hc5
        refine g4 ?_
        refine RW.q (v := .int .i64 ((Lx.quo (l.drop a) : Nat) : Int)) rfl (q_call (args := #[.string (bs l), .int .i64 (a : Int)]) oK rfl rfl (fun w1 hw1 => fquoted_c w1 (Go.K.hp w1) (Hp.le_refl _) (by omega) (by omega))) ?_
        refine g10 ?_
        refine AW.cond rfl (fun hc6 => ?_) fun hc6 => ?_
        · simp [-List.getD_eq_getElem?_getD] at hc6
          refine g2 ?_
          refine RW.q (v := .agg #[.int .i64 0, .string (bs ([])), .int .i64 0]) rfl (q_build (vals := []) zero134 Tryz.underlying134 places134 rfl rfl) ?_
          refine RW.effn (J' := St ⟨w, Φ, []⟩ Φ [.blk b1 134 [.int .i64 0, .string (bs ([])), .int .i64 0]]) (e_store (v := .agg #[.int .i64 0, .string (bs ([])), .int .i64 0]) 0 rfl rfl rfl sz134 rfl rfl rfl rfl rfl) ?_
          refine g7 ?_
          refine fin_cell2 (cs := [.int .i64 0, .string (bs ([])), .int .i64 0]) (v := .int .i64 0) rfl rfl rfl rfl Tryz.underlying134 rfl sz134 rfl (Cells.blk 0 rfl) (fun w' hw => ?_)
          refine ⟨?_, hw.below rfl⟩
          have hrt : Lx.rt (l.drop a) a = (⟨0, [], 0⟩, 0) := by
            unfold Lx.rt; rw [hg0, if_neg (by rw [hc1]; simp), if_neg (by rw [hc3]; simp), if_pos (by omega), if_pos (by omega)]
          exact rtV (by rw [hrt] <;> rfl) (by rw [hrt] <;> rfl) (by rw [hrt] <;> rfl) (by rw [hrt] <;> rfl)
        · simp [-List.getD_eq_getElem?_getD] at hc6
          refine g3 ?_
          have hle := Lx.quo_le (l.drop a)
          rw [hld] at hle
          have hl2 := Lx.quo_two (l.drop a)
          refine g8 ?_
          refine RW.q (v := .string (bs ((l.drop (a + 1)).take (((((a + Lx.quo (l.drop a) : Nat) : Int) - 1).toNat) - (a + 1))))) rfl (q_sliceSLH (l := l) (i := ((a + 1 : Nat) : Int)) (j := ((a + Lx.quo (l.drop a) : Nat) : Int) - 1) rfl rfl rfl Tryz.underlying9 (by omega) (by omega) (by omega)) ?_
          refine g1 ?_
          refine RW.q (v := .agg #[.int .i64 2, .string (bs ((l.drop (a + 1)).take (((((a + Lx.quo (l.drop a) : Nat) : Int) - 1).toNat) - (a + 1)))), .int .i64 (a : Int)]) rfl (q_build (vals := [(0, .int .i64 2), (1, .string (bs ((l.drop (a + 1)).take (((((a + Lx.quo (l.drop a) : Nat) : Int) - 1).toNat) - (a + 1))))), (2, .int .i64 (a : Int))]) zero134 Tryz.underlying134 places134 rfl rfl) ?_
          refine g1 ?_
          refine RW.effn (J' := St ⟨w, Φ, []⟩ Φ [.blk b1 134 [.int .i64 2, .string (bs ((l.drop (a + 1)).take (((((a + Lx.quo (l.drop a) : Nat) : Int) - 1).toNat) - (a + 1)))), .int .i64 (a : Int)]]) (e_store (v := .agg #[.int .i64 2, .string (bs ((l.drop (a + 1)).take (((((a + Lx.quo (l.drop a) : Nat) : Int) - 1).toNat) - (a + 1)))), .int .i64 (a : Int)]) 0 rfl rfl rfl sz134 rfl rfl rfl rfl rfl) ?_
          refine g6 ?_
          refine fin_cell2 (cs := [.int .i64 2, .string (bs ((l.drop (a + 1)).take (((((a + Lx.quo (l.drop a) : Nat) : Int) - 1).toNat) - (a + 1)))), .int .i64 (a : Int)]) (v := .int .i64 ((Lx.quo (l.drop a) : Nat) : Int)) rfl rfl rfl rfl Tryz.underlying134 rfl sz134 rfl (Cells.blk 0 rfl) (fun w' hw => ?_)
          refine ⟨?_, hw.below rfl⟩
          have hrt : Lx.rt (l.drop a) a = (⟨2, ((l.drop a).drop 1).take (Lx.quo (l.drop a) - 2), a⟩, Lx.quo (l.drop a)) := by
            unfold Lx.rt; rw [hg0, if_neg (by rw [hc1]; simp), if_neg (by rw [hc3]; simp), if_pos (by omega), if_neg (by omega)]
          exact rtV (by rw [hrt] <;> rfl) (by rw [hrt] <;> (simp only [List.drop_drop]; congr 1; omega)) (by rw [hrt] <;> rfl) (by rw [hrt] <;> rfl)
      · simp [-List.getD_eq_getElem?_getD] at hc5
        refine g7 ?_
        refine RW.q (v := .int .i64 ((Lx.signN (l.drop a) : Nat) : Int)) rfl (q_call (args := #[.string (bs l), .int .i64 (a : Int)]) oK rfl rfl (fun w1 hw1 => fsigned_c w1 (Go.K.hp w1) (Hp.le_refl _) (by omega) (by omega))) ?_
        refine g4 ?_
        have hle : a + Lx.signN (l.drop a) ≤ l.length := by have h7 := Lx.signN_le (l.drop a); rw [hld] at h7; omega
        refine g6 ?_
        refine RW.q (v := .string (bs ((l.drop a).take ((a + Lx.signN (l.drop a)) - a)))) rfl (q_sliceSLH (l := l) (i := (a : Int)) (j := ((a + Lx.signN (l.drop a) : Nat) : Int)) rfl rfl rfl Tryz.underlying9 (by omega) (by omega) (by omega)) ?_
        refine g1 ?_
        refine RW.q (v := .agg #[.int .i64 3, .string (bs ((l.drop a).take ((a + Lx.signN (l.drop a)) - a))), .int .i64 (a : Int)]) rfl (q_build (vals := [(0, .int .i64 3), (1, .string (bs ((l.drop a).take ((a + Lx.signN (l.drop a)) - a)))), (2, .int .i64 (a : Int))]) zero134 Tryz.underlying134 places134 rfl rfl) ?_
        refine g1 ?_
        refine RW.effn (J' := St ⟨w, Φ, []⟩ Φ [.blk b1 134 [.int .i64 3, .string (bs ((l.drop a).take ((a + Lx.signN (l.drop a)) - a))), .int .i64 (a : Int)]]) (e_store (v := .agg #[.int .i64 3, .string (bs ((l.drop a).take ((a + Lx.signN (l.drop a)) - a))), .int .i64 (a : Int)]) 0 rfl rfl rfl sz134 rfl rfl rfl rfl rfl) ?_
        refine g4 ?_
        refine fin_cell2 (cs := [.int .i64 3, .string (bs ((l.drop a).take ((a + Lx.signN (l.drop a)) - a))), .int .i64 (a : Int)]) (v := .int .i64 ((Lx.signN (l.drop a) : Nat) : Int)) rfl rfl rfl rfl Tryz.underlying134 rfl sz134 rfl (Cells.blk 0 rfl) (fun w' hw => ?_)
        refine ⟨?_, hw.below rfl⟩
        have hrt : Lx.rt (l.drop a) a = (⟨3, (l.drop a).take (Lx.signN (l.drop a)), a⟩, Lx.signN (l.drop a)) := by
          unfold Lx.rt; rw [hg0, if_neg (by rw [hc1]; simp), if_neg (by rw [hc3]; simp), if_neg (by omega)]
        exact rtV (by rw [hrt] <;> rfl) (by rw [hrt] <;> simp) (by rw [hrt] <;> rfl) (by rw [hrt] <;> rfl)

theorem letter_c (w : World) (Φ : Hp) (hΦ : Hp.le Φ (hp w)) {c : UInt8} :
  Calls pg 113 #[.int .u8 (c.toNat : Int)] w fun e w' => e = .returned (.bool (Lx.isL c)) ∧ Bel w.heap.size w w' := by
 refine calls_of_AW (args := [.int .u8 (c.toNat : Int)]) Tryz.func113 rfl (lBT rfl) (St ⟨w, Φ, []⟩ Φ []) (StP.init w Φ hΦ []) ?_
 show AW pg 17 [] _ _ _ [(0, .int .u8 (c.toNat : Int))] _
 refine g8 ?_
 refine RW.q (v := .bool (decide (((97 : Nat) : Int) ≤ (c.toNat : Int)))) rfl (q_geq (a := (c.toNat : Int)) (b := ((97 : Nat) : Int)) rfl rfl) ?_
 refine g2 ?_
 refine RW.g (b := (decide (((97 : Nat) : Int) ≤ (c.toNat : Int)))) (v := .bool (decide ((c.toNat : Int) ≤ ((122 : Nat) : Int)))) rfl rfl rfl (fun h => q_leq (a := (c.toNat : Int)) (b := ((122 : Nat) : Int)) (gv_pos h) rfl) (RW.q (v := .bool ((decide (((97 : Nat) : Int) ≤ (c.toNat : Int))) && (decide ((c.toNat : Int) ≤ ((122 : Nat) : Int))))) rfl (qpA rfl rfl rfl) ?_)
 refine g2 ?_
 refine RW.g (b := ((decide (((97 : Nat) : Int) ≤ (c.toNat : Int))) && (decide ((c.toNat : Int) ≤ ((122 : Nat) : Int))))) (v := .bool (decide (((65 : Nat) : Int) ≤ (c.toNat : Int)))) rfl rfl rfl (fun h => q_geq (a := (c.toNat : Int)) (b := ((65 : Nat) : Int)) (gv_pos h) rfl) ?_
 refine g1 ?_
 refine RW.g2 (b1 := ((decide (((97 : Nat) : Int) ≤ (c.toNat : Int))) && (decide ((c.toNat : Int) ≤ ((122 : Nat) : Int))))) (b2 := (decide (((65 : Nat) : Int) ≤ (c.toNat : Int)))) (v := .int .u8 (c.toNat : Int)) rfl rfl rfl (fun hg1 hg2 => q_move rfl) (RW.g2 (b1 := ((decide (((97 : Nat) : Int) ≤ (c.toNat : Int))) && (decide ((c.toNat : Int) ≤ ((122 : Nat) : Int))))) (b2 := (decide (((65 : Nat) : Int) ≤ (c.toNat : Int)))) (v := .bool (decide ((c.toNat : Int) ≤ ((90 : Nat) : Int)))) rfl rfl rfl (fun hg1 hg2 => q_leq (a := (c.toNat : Int)) (b := ((90 : Nat) : Int)) ((gv_pos hg1).trans (gv_pos hg2)) rfl) (RW.g (b := ((decide (((97 : Nat) : Int) ≤ (c.toNat : Int))) && (decide ((c.toNat : Int) ≤ ((122 : Nat) : Int))))) (v := .bool ((decide (((65 : Nat) : Int) ≤ (c.toNat : Int))) && (decide ((c.toNat : Int) ≤ ((90 : Nat) : Int))))) rfl rfl rfl (fun h => q_pick (gv_pos h) (fun hp => (gv_pos h).trans ((gv_pos hp).trans (pkAndT hp))) (fun hp => pkAndF hp)) (RW.q (v := .bool (((decide (((97 : Nat) : Int) ≤ (c.toNat : Int))) && (decide ((c.toNat : Int) ≤ ((122 : Nat) : Int)))) || ((decide (((65 : Nat) : Int) ≤ (c.toNat : Int))) && (decide ((c.toNat : Int) ≤ ((90 : Nat) : Int)))))) rfl (qpO rfl rfl rfl) ?_)))
 refine g4 ?_
 exact fin_val (v' := .bool (((decide (((97 : Nat) : Int) ≤ (c.toNat : Int))) && (decide ((c.toNat : Int) ≤ ((122 : Nat) : Int)))) || ((decide (((65 : Nat) : Int) ≤ (c.toNat : Int))) && (decide ((c.toNat : Int) ≤ ((90 : Nat) : Int)))))) rfl rfl rfl (congrArg Value.bool (by unfold Lx.isL; rw [Bool.eq_iff_iff]; simp only [Bool.and_eq_true, Bool.or_eq_true, decide_eq_true_eq]; omega))
theorem digit_c (w : World) (Φ : Hp) (hΦ : Hp.le Φ (hp w)) {c : UInt8} :
  Calls pg 115 #[.int .u8 (c.toNat : Int)] w fun e w' => e = .returned (.bool (Lx.isD c)) ∧ Bel w.heap.size w w' := by
 refine calls_of_AW (args := [.int .u8 (c.toNat : Int)]) Tryz.func115 rfl (lBT rfl) (St ⟨w, Φ, []⟩ Φ []) (StP.init w Φ hΦ []) ?_
 show AW pg 9 [] _ _ _ [(0, .int .u8 (c.toNat : Int))] _
 refine g8 ?_
 refine RW.q (v := .bool (decide (((48 : Nat) : Int) ≤ (c.toNat : Int)))) rfl (q_geq (a := (c.toNat : Int)) (b := ((48 : Nat) : Int)) rfl rfl) ?_
 refine g2 ?_
 refine RW.g (b := (decide (((48 : Nat) : Int) ≤ (c.toNat : Int)))) (v := .bool (decide ((c.toNat : Int) ≤ ((57 : Nat) : Int)))) rfl rfl rfl (fun h => q_leq (a := (c.toNat : Int)) (b := ((57 : Nat) : Int)) (gv_pos h) rfl) (RW.q (v := .bool ((decide (((48 : Nat) : Int) ≤ (c.toNat : Int))) && (decide ((c.toNat : Int) ≤ ((57 : Nat) : Int))))) rfl (qpA rfl rfl rfl) ?_)
 refine g4 ?_
 exact fin_val (v' := .bool ((decide (((48 : Nat) : Int) ≤ (c.toNat : Int))) && (decide ((c.toNat : Int) ≤ ((57 : Nat) : Int))))) rfl rfl rfl (congrArg Value.bool (by unfold Lx.isD; rw [Bool.eq_iff_iff]; simp only [Bool.and_eq_true, decide_eq_true_eq]; omega))
theorem inName_c (w : World) (Φ : Hp) (hΦ : Hp.le Φ (hp w)) {c : UInt8} :
  Calls pg 114 #[.int .u8 (c.toNat : Int)] w fun e w' => e = .returned (.bool (Lx.inN c)) ∧ Bel w.heap.size w w' := by
 refine calls_of_AW (args := [.int .u8 (c.toNat : Int)]) Tryz.func114 rfl (lBT rfl) (St ⟨w, Φ, []⟩ Φ []) (StP.init w Φ hΦ []) ?_
 show AW pg 13 [] _ _ _ [(0, .int .u8 (c.toNat : Int))] _
 refine g8 ?_
 refine RW.q (v := .bool (Lx.isL c)) rfl (q_call (args := #[.int .u8 (c.toNat : Int)]) oK rfl rfl (fun w1 hw1 => letter_c w1 (Go.K.hp w1) (Hp.le_refl _))) ?_
 refine g2 ?_
 refine RW.g (b := (Lx.isL c)) (v := .bool (Lx.isD c)) rfl rfl rfl (fun h => q_call (args := #[.int .u8 (c.toNat : Int)]) oK rfl (args1 (gv_pos h)) (fun w1 hw1 => digit_c w1 (Go.K.hp w1) (Hp.le_refl _))) (RW.q (v := .bool ((Lx.isL c) || (Lx.isD c))) rfl (qpO rfl rfl rfl) ?_)
 refine g2 ?_
 refine RW.g (b := ((Lx.isL c) || (Lx.isD c))) (v := .bool (decide ((c.toNat : Int) = ((95 : Nat) : Int)))) rfl rfl rfl (fun h => q_eql (a := (c.toNat : Int)) (b := ((95 : Nat) : Int)) (gv_pos h) rfl) (RW.q (v := .bool (((Lx.isL c) || (Lx.isD c)) || (decide ((c.toNat : Int) = ((95 : Nat) : Int))))) rfl (qpO rfl rfl rfl) ?_)
 refine g4 ?_
 exact fin_val (v' := .bool (((Lx.isL c) || (Lx.isD c)) || (decide ((c.toNat : Int) = ((95 : Nat) : Int))))) rfl rfl rfl (congrArg Value.bool (by unfold Lx.inN; congr 1; exact decide_eq_decide.2 (by omega)))
theorem inString_c (w : World) (Φ : Hp) (hΦ : Hp.le Φ (hp w)) {c : UInt8} :
  Calls pg 116 #[.int .u8 (c.toNat : Int)] w fun e w' => e = .returned (.bool (Lx.inS c)) ∧ Bel w.heap.size w w' := by
 refine calls_of_AW (args := [.int .u8 (c.toNat : Int)]) Tryz.func116 rfl (lBT rfl) (St ⟨w, Φ, []⟩ Φ []) (StP.init w Φ hΦ []) ?_
 show AW pg 17 [] _ _ _ [(0, .int .u8 (c.toNat : Int))] _
 refine g8 ?_
 refine RW.q (v := .bool (decide (((32 : Nat) : Int) ≤ (c.toNat : Int)))) rfl (q_geq (a := (c.toNat : Int)) (b := ((32 : Nat) : Int)) rfl rfl) ?_
 refine g2 ?_
 refine RW.g (b := (decide (((32 : Nat) : Int) ≤ (c.toNat : Int)))) (v := .bool (decide ((c.toNat : Int) ≤ ((126 : Nat) : Int)))) rfl rfl rfl (fun h => q_leq (a := (c.toNat : Int)) (b := ((126 : Nat) : Int)) (gv_pos h) rfl) (RW.q (v := .bool ((decide (((32 : Nat) : Int) ≤ (c.toNat : Int))) && (decide ((c.toNat : Int) ≤ ((126 : Nat) : Int))))) rfl (qpA rfl rfl rfl) ?_)
 refine g2 ?_
 refine RW.g (b := ((decide (((32 : Nat) : Int) ≤ (c.toNat : Int))) && (decide ((c.toNat : Int) ≤ ((126 : Nat) : Int))))) (v := .bool (!decide ((c.toNat : Int) = ((34 : Nat) : Int)))) rfl rfl rfl (fun h => q_neq (a := (c.toNat : Int)) (b := ((34 : Nat) : Int)) (gv_pos h) rfl) (RW.q (v := .bool (((decide (((32 : Nat) : Int) ≤ (c.toNat : Int))) && (decide ((c.toNat : Int) ≤ ((126 : Nat) : Int)))) && (!decide ((c.toNat : Int) = ((34 : Nat) : Int))))) rfl (qpA rfl rfl rfl) ?_)
 refine g2 ?_
 refine RW.g (b := (((decide (((32 : Nat) : Int) ≤ (c.toNat : Int))) && (decide ((c.toNat : Int) ≤ ((126 : Nat) : Int)))) && (!decide ((c.toNat : Int) = ((34 : Nat) : Int))))) (v := .bool (!decide ((c.toNat : Int) = ((92 : Nat) : Int)))) rfl rfl rfl (fun h => q_neq (a := (c.toNat : Int)) (b := ((92 : Nat) : Int)) (gv_pos h) rfl) (RW.q (v := .bool ((((decide (((32 : Nat) : Int) ≤ (c.toNat : Int))) && (decide ((c.toNat : Int) ≤ ((126 : Nat) : Int)))) && (!decide ((c.toNat : Int) = ((34 : Nat) : Int)))) && (!decide ((c.toNat : Int) = ((92 : Nat) : Int))))) rfl (qpA rfl rfl rfl) ?_)
 refine g4 ?_
 exact fin_val (v' := .bool ((((decide (((32 : Nat) : Int) ≤ (c.toNat : Int))) && (decide ((c.toNat : Int) ≤ ((126 : Nat) : Int)))) && (!decide ((c.toNat : Int) = ((34 : Nat) : Int)))) && (!decide ((c.toNat : Int) = ((92 : Nat) : Int))))) rfl rfl rfl (congrArg Value.bool (by unfold Lx.inS; rw [Bool.eq_iff_iff]; simp only [Bool.and_eq_true, Bool.not_eq_true', decide_eq_true_eq, decide_eq_false_iff_not]; omega))
theorem skip1_c (w : World) (Φ : Hp) (hΦ : Hp.le Φ (hp w)) {c : UInt8} :
  Calls pg 112 #[.int .u8 (c.toNat : Int)] w fun e w' => e = .returned (.bool (Lx.nNl c)) ∧ Bel w.heap.size w w' := by
 refine calls_of_AW (args := [.int .u8 (c.toNat : Int)]) Tryz.func112 rfl (lBT rfl) (St ⟨w, Φ, []⟩ Φ []) (StP.init w Φ hΦ []) ?_
 show AW pg 5 [] _ _ _ [(0, .int .u8 (c.toNat : Int))] _
 refine g8 ?_
 refine RW.q (v := .bool (!decide ((c.toNat : Int) = ((10 : Nat) : Int)))) rfl (q_neq (a := (c.toNat : Int)) (b := ((10 : Nat) : Int)) rfl rfl) ?_
 refine g4 ?_
 exact fin_val (v' := .bool (!decide ((c.toNat : Int) = ((10 : Nat) : Int)))) rfl rfl rfl (congrArg Value.bool (by unfold Lx.nNl; rw [Bool.eq_iff_iff]; simp only [Bool.not_eq_true', decide_eq_true_eq, decide_eq_false_iff_not]; omega))
theorem run_c (w : World) (Φ : Hp) (hΦ : Hp.le Φ (hp w)) {l : List UInt8} {a : Nat} (hl : l.length ≤ 1099511627776) (ha : a ≤ l.length) {k : Nat} (hk : Go.K.Own pg k) {p : UInt8 → Bool} (hp : ∀ (w : World) (c : UInt8), Calls pg k #[.int .u8 (c.toNat : Int)] w fun e w' => e = .returned (.bool (p c)) ∧ Bel w.heap.size w w') :
  Calls pg 111 #[.string (bs l), iV (a : Int), .func (.func k) #[] #[]] w fun e w' => e = .returned (iV ((a + Lx.run p (l.drop a) : Nat) : Int)) ∧ Bel w.heap.size w w' := by
 refine calls_of_AW (args := [.string (bs l), iV (a : Int), .func (.func k) #[] #[]]) Tryz.func111 rfl (lBT rfl) (St ⟨w, Φ, []⟩ Φ []) (StP.init w Φ hΦ []) ?_
 show AW pg 21 [] _ _ _ [(0, .string (bs l)), (1, iV (a : Int)), (2, .func (.func k) #[] #[])] _
 refine g7 ?_
 refine AW.loop (fun s J m => ∃ (i : Nat), s = [(0, .string (bs l)), (2, .func (.func k) #[] #[]), (1, iV (i : Int))] ∧ J = St ⟨w, Φ, []⟩ Φ [] ∧ m = l.length - i ∧ (a ≤ i) ∧ (i ≤ l.length) ∧ (i + Lx.run p (l.drop i) = a + Lx.run p (l.drop a))) (s0 := _) (J1 := _) (m0 := _) ⟨a, rfl, rfl, rfl, (Nat.le_refl _), ha, rfl⟩ ⟨rfl, rfl, rfl, trivial⟩ (fun _ h => h) ?_
 rintro _ _ _ _ ⟨i, rfl, rfl, rfl, hai, hil, hE⟩
 refine g5 ?_
 refine RW.q (v := iV (l.length : Int)) rfl (q_lenS (l := l) rfl uT9) ?_
 refine g5 ?_
 refine RW.g (b := (decide ((i : Int) < (l.length : Int)))) (v := .int .u8 (((l.getD i 0).toNat : Nat) : Int)) rfl rfl rfl (fun h => q_indexS (l := l) (i := (i : Int)) (gv_pos h) (gv_pos h) uT9 (by (try simp [-List.getD_eq_getElem?_getD] at h); omega) (by (try simp [-List.getD_eq_getElem?_getD] at h); omega)) ?_
 refine RW.g (b := (decide ((i : Int) < (l.length : Int)))) (v := .bool (p (l.getD i 0))) rfl rfl rfl (fun h => q_call (args := #[.int .u8 (((l.getD i 0).toNat : Nat) : Int)]) (first := #[]) (capt := #[]) hk (gv_pos h) (args1 (gv_pos h)) (fun w1 _ => hp w1 (l.getD i 0))) ?_
 obtain ⟨qb1, hqb1⟩ : ∃ qz : Bool, ((decide ((i : Int) < (l.length : Int))) && (p (l.getD i 0))) = qz := ⟨_, rfl⟩
 refine RW.q (v := .bool qb1) rfl (q_as (v := .bool ((decide ((i : Int) < (l.length : Int))) && (p (l.getD i 0)))) (qpA rfl rfl rfl) (congrArg Value.bool hqb1)) ?_
 subst hqb1
 refine g2 ?_
 refine AW.cond rfl (fun hc1 => ?_) fun hc1 => ?_
 ·
  simp [-List.getD_eq_getElem?_getD] at hc1
  have hpi : p (l.getD i 0) = true := by
   first | exact hc1.2 | (simp only [Bool.and_eq_true] at hc1; exact hc1.2)
  have hil2 : i < l.length := by first | omega | (have := hc1.1; simp at this; omega)
  refine g9 ?_
  exact Post.back (s' := _) (J' := _) (m' := _) (by omega) ⟨i + 1, rfl, rfl, rfl, (by omega), (by omega), (by rw [← hE, Lx.run_yes (show i < l.length by omega) hpi]; omega)⟩ ⟨rfl, rfl, rfl, trivial⟩ (fun _ h => h)
 ·
  simp [-List.getD_eq_getElem?_getD] at hc1
  refine g12 ?_
  have hrz : Lx.run p (l.drop i) = 0 := by
   by_cases h9 : i < l.length
   ·
    have hpi : p (l.getD i 0) = false := by
     cases h8 : p (l.getD i 0) with
     | false => rfl
     | true => exact absurd h8 (by simpa [h9] using hc1)
    exact Lx.run_no h9 hpi
   ·
    exact Lx.run_end (by omega)
  exact fin_val (v' := iV (i : Int)) rfl rfl rfl (by rw [← hE, hrz]; simp)
theorem skip_c (w : World) (Φ : Hp) (hΦ : Hp.le Φ (hp w)) {l : List UInt8} {a : Nat} (hl : l.length ≤ 1099511627776) (ha : a ≤ l.length) :
  Calls pg 93 #[.string (bs l), iV (a : Int)] w fun e w' => e = .returned (iV ((a + Lx.skp false (l.drop a) : Nat) : Int)) ∧ Bel w.heap.size w w' := by
 refine calls_of_AW (args := [.string (bs l), iV (a : Int)]) Tryz.func93 rfl (lBT rfl) (St ⟨w, Φ, []⟩ Φ []) (StP.init w Φ hΦ []) ?_
 show AW pg 26 [] _ _ _ [(0, .string (bs l)), (1, iV (a : Int))] _
 refine g7 ?_
 refine AW.loop (fun s J m => ∃ (i : Nat), s = [(0, .string (bs l)), (1, iV (i : Int))] ∧ J = St ⟨w, Φ, []⟩ Φ [] ∧ m = l.length - i ∧ (a ≤ i) ∧ (i ≤ l.length) ∧ (i + Lx.skp false (l.drop i) = a + Lx.skp false (l.drop a))) (s0 := _) (J1 := _) (m0 := _) ⟨a, rfl, rfl, rfl, (Nat.le_refl _), ha, rfl⟩ ⟨rfl, rfl, trivial⟩ (fun _ h => h) ?_
 rintro _ _ _ _ ⟨i, rfl, rfl, rfl, hai, hil, hE⟩
 refine g5 ?_
 refine RW.q (v := iV (l.length : Int)) rfl (q_lenS (l := l) rfl uT9) ?_
 refine g3 ?_
 refine AW.cond rfl (fun hc1 => ?_) fun hc1 => ?_
 ·
  simp [-List.getD_eq_getElem?_getD] at hc1
  have hil2 : i < l.length := by omega
  refine g7 ?_
  refine RW.q (v := .int .u8 (((l.getD i 0).toNat : Nat) : Int)) rfl (q_indexS (l := l) (i := (i : Int)) rfl rfl uT9 (by omega) (by omega)) ?_
  refine g6 ?_
  refine RW.q (v := .bool (decide ((((l.getD i 0).toNat : Nat) : Int) = ((9 : Nat) : Int)))) rfl (q_eql (a := (((l.getD i 0).toNat : Nat) : Int)) (b := ((9 : Nat) : Int)) rfl rfl) ?_
  refine g3 ?_
  refine AW.orCh (t := 13) (x := 11) (a := (((l.getD i 0).toNat : Nat) : Int)) rfl rfl _ rfl rfl rfl rfl fun _ => ?_
  refine g1 ?_
  refine AW.cond rfl (fun hc2 => ?_) fun hc2 => ?_
  ·
   simp [-List.getD_eq_getElem?_getD] at hc2
   refine g7 ?_
   have hws : Lx.ws (l.getD i 0) = true := by unfold Lx.ws; exact decide_eq_true (by omega)
   exact Post.back (s' := _) (J' := _) (m' := _) (by omega) ⟨i + 1, rfl, rfl, rfl, (by omega), (by omega), (by rw [← hE, Lx.skp_ws hil2 hws]; omega)⟩ ⟨rfl, rfl, trivial⟩ (fun _ h => h)
  ·
   simp [-List.getD_eq_getElem?_getD] at hc2
   refine g2 ?_
   refine RW.q (v := .bool (decide ((((l.getD i 0).toNat : Nat) : Int) = ((35 : Nat) : Int)))) rfl (q_eql (a := (((l.getD i 0).toNat : Nat) : Int)) (b := ((35 : Nat) : Int)) rfl rfl) ?_
   refine g3 ?_
   refine AW.cond rfl (fun hc3 => ?_) fun hc3 => ?_
   ·
    simp [-List.getD_eq_getElem?_getD] at hc3
    refine g3 ?_
    refine RW.q (v := iV ((i + Lx.run Lx.nNl (l.drop i) : Nat) : Int)) rfl (q_call (args := #[.string (bs l), iV (i : Int), .func (.func 112) #[] #[]]) oK rfl rfl (fun w1 hw1 => run_c w1 (Go.K.hp w1) (Hp.le_refl _) (by omega) (by omega) oK (fun w2 c => skip1_c w2 (Go.K.hp w2) (Hp.le_refl _)))) ?_
    refine g4 ?_
    have hr1 := Lx.run_yes (p := Lx.nNl) hil2 (by unfold Lx.nNl; exact decide_eq_true (by omega))
    have hr2 := Lx.run_drop_le Lx.nNl l i (by omega)
    exact Post.back (s' := _) (J' := _) (m' := _) (by omega) ⟨i + Lx.run Lx.nNl (l.drop i), rfl, rfl, rfl, (by omega), (by omega), (by rw [← hE, Lx.skp_com hil2 (by omega)]; omega)⟩ ⟨rfl, rfl, trivial⟩ (fun _ h => h)
   ·
    simp [-List.getD_eq_getElem?_getD] at hc3
    refine g12 ?_
    exact fin_val (v' := iV (i : Int)) rfl rfl rfl (by rw [← hE, Lx.skp_no hil2 (by unfold Lx.ws; exact decide_eq_false (by omega)) (by omega)]; simp)
 ·
  simp [-List.getD_eq_getElem?_getD] at hc1
  refine g12 ?_
  exact fin_val (v' := iV (i : Int)) rfl rfl rfl (by rw [← hE, Lx.skp_end (by omega)]; simp)
end Go.Proofs.YtnfmjfheciihjaaGreatDoor
