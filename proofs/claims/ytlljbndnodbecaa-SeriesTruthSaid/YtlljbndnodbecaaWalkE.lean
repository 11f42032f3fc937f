/- Walks (part WalkE), printed by walk2.py. Conditions: those of each theorem. -/
import Derived.Test.YtlljbndnodbecaaWalkD
import Derived.Test.YtlljbndnodbecaaKeys
namespace Go.Proofs.Ytlljbndnodbecaa
open Go Go.K Go.RowKit

set_option maxRecDepth 8000 in
set_option maxHeartbeats 1000000 in
theorem voids_c {B : Bs} {Φ : Hp} {C : List Chunk} (hBE : B.E = []) {xs : List Bt.Gram} {v1 : Value} (h1 : RepSl Φ xs v1) (w : World) (hW : (St B Φ C).p w) :
    Calls Try.prog 25 #[v1] w fun e w' => ∃ x : Nat, e = .returned (.map (some x)) ∧ (St B Φ (.kmap kInt Value.bool x (Se.voidM xs) :: C)).p w' := by
  refine calls_of_AW (args := [v1]) Try.func25 rfl (Nat.le_of_ble_eq_true rfl) (St B Φ C) hW ?_
  show AW Try.prog 42 [] _ _ _ [(0, v1)] _
  have hm1 : xs.length * 48 ≤ 140737488355328 := h1.max
  refine AW.seq ?_
  refine AW.region ?_
  refine RW.q (v := (.map none)) rfl (q_assign rfl) ?_
  refine RW.nil ?_
  refine Post.then_n ?_
  refine AW.seq ?_
  refine AW.region ?_
  refine RW.eff (fun b1 : Nat => .map (some b1)) (fun b1 => St B Φ ((.kmap kNum gramV b1 (fun _ => none)) :: C)) rfl (e_kmake kNum gramV) ?_
  intro b1
  refine RW.q (v := .map (some b1)) rfl (q_assign rfl) ?_
  refine RW.nil ?_
  refine Post.then_n ?_
  refine AW.seq ?_
  refine AW.region ?_
  refine RW.eff (fun b2 : Nat => .map (some b2)) (fun b2 => St B Φ ((.kmap kInt Value.bool b2 (fun _ => none)) :: (.kmap kNum gramV b1 (fun _ => none)) :: C)) rfl (e_kmake kInt Value.bool) ?_
  intro b2
  refine RW.q (v := .map (some b2)) rfl (q_assign rfl) ?_
  refine RW.nil ?_
  refine Post.then_n ?_
  refine AW.seq ?_
  refine AW.seq ?_
  refine AW.region ?_
  refine RW.q (v := v1) rfl (q_move rfl) ?_
  refine RW.q (v := .int .i64 ((xs.length : Nat) : Int)) rfl (q_len_sl rfl h1.sl Try.underlying22) ?_
  refine RW.q (v := .int .i64 0) rfl (q_move rfl) ?_
  refine RW.nil ?_
  refine Post.then_n ?_
  refine AW.block ?_
  refine AW.loop (fun s J m => ∃ (k : Nat), s = [(0, v1), (3, .map (some b1)), (4, .map (some b2)), (12, v1), (13, .int .i64 ((xs.length : Nat) : Int)), (14, .int .i64 (k : Int))] ∧ J = St B Φ ((.kmap kInt Value.bool b2 (Se.voidM (xs.take k))) :: (.kmap kNum gramV b1 (Se.frst (xs.take k))) :: C) ∧ m = xs.length - k ∧ (k ≤ xs.length)) (s0 := _) (J1 := _) (m0 := _) ⟨0, rfl, rfl, rfl, (by omega)⟩ ⟨rfl, rfl, rfl, rfl, rfl, rfl, trivial⟩ (fun _ h => by rw [show Se.voidM (xs.take 0) = fun _ => none from Se.voidM_nil, show Se.frst (xs.take 0) = fun _ => none from Se.frst_nil]; exact h) ?_
  rintro _ _ _ _ ⟨k, rfl, rfl, rfl, hk⟩
  refine AW.seq ?_
  refine AW.region ?_
  refine RW.q (v := .bool (decide ((k : Int) < ((xs.length : Nat) : Int)))) rfl (q_lss rfl rfl) ?_
  refine RW.nil ?_
  refine Post.then_n ?_
  refine AW.seq ?_
  refine AW.cond (b := decide ((k : Int) < ((xs.length : Nat) : Int))) rfl (fun hc1 => ?_) (fun hc1 => ?_)
  · simp [-List.getD_eq_getElem?_getD] at hc1
    refine AW.skip ?_
    refine Post.then_n ?_
    refine AW.seq ?_
    refine AW.block ?_
    refine AW.seq ?_
    refine AW.region ?_
    refine RW.q (v := .pointer (some (Value.at v1 (k * 5)))) rfl (q_indexAddr rfl rfl h1.sl Try.underlying22 sz29 (by omega) (by omega) rfl) ?_
    refine RW.q (v := .agg #[.int .i64 ((xs.getD k default).Gauge), .int .i64 ((xs.getD k default).Seq), .int .i64 ((xs.getD k default).Clock), .int .i64 ((xs.getD k default).Value), .string ((xs.getD k default).Tag)]) rfl (q_loadAgg rfl Try.underlying29 rfl sz29 rfl (Cells.repE h1 (by omega) rfl)) ?_
    refine RW.eff (fun b3 : Nat => .pointer (some (⟨b3, 0, none⟩))) (fun b3 => St B Φ ((.blk b3 29 [.int .i64 0, .int .i64 0, .int .i64 0, .int .i64 0, .string (bs ([]))]) :: (.kmap kInt Value.bool b2 (Se.voidM (xs.take k))) :: (.kmap kNum gramV b1 (Se.frst (xs.take k))) :: C)) rfl (e_alloc zero29) ?_
    intro b3
    refine RW.effn (J' := St B Φ ((.blk b3 29 [.int .i64 ((xs.getD k default).Gauge), .int .i64 ((xs.getD k default).Seq), .int .i64 ((xs.getD k default).Clock), .int .i64 ((xs.getD k default).Value), .string ((xs.getD k default).Tag)]) :: (.kmap kInt Value.bool b2 (Se.voidM (xs.take k))) :: (.kmap kNum gramV b1 (Se.frst (xs.take k))) :: C)) (e_store (v := .agg #[.int .i64 ((xs.getD k default).Gauge), .int .i64 ((xs.getD k default).Seq), .int .i64 ((xs.getD k default).Clock), .int .i64 ((xs.getD k default).Value), .string ((xs.getD k default).Tag)]) 0 rfl rfl rfl sz29 rfl rfl rfl rfl rfl) ?_
    refine RW.nil ?_
    refine Post.then_n ?_
    refine AW.seq ?_
    have hwk : I64 (xs.getD k default).Gauge ∧ I64 (xs.getD k default).Seq ∧ I64 (xs.getD k default).Clock ∧ I64 (xs.getD k default).Value ∧ (xs.getD k default).Tag.size ≤ maxLen := h1.wfE _ (Se.getD_mem (by omega))
    have hwp : kNum.good ((xs.getD k default).Gauge, (xs.getD k default).Seq) := ⟨hwk.1, hwk.2.1⟩
    have hwg : kInt.good (xs.getD k default).Gauge := hwk.1
    refine AW.region ?_
    refine RW.q (v := .pointer (some (⟨b3, 0, none⟩))) rfl (q_fieldAddr rfl Try.underlying29 rfl sz3 rfl) ?_
    refine RW.q (v := .int .i64 ((xs.getD k default).Gauge)) rfl (q_load rfl Try.underlying3 rfl (Cell.blk 0 rfl rfl)) ?_
    refine RW.q (v := .pointer (some (⟨b3, 1, none⟩))) rfl (q_fieldAddr rfl Try.underlying29 rfl sz3 rfl) ?_
    refine RW.q (v := .int .i64 ((xs.getD k default).Seq)) rfl (q_load rfl Try.underlying3 rfl (Cell.blk 0 rfl rfl)) ?_
    refine RW.q (v := .agg #[.int .i64 ((xs.getD k default).Gauge), .int .i64 ((xs.getD k default).Seq)]) rfl (q_build (vals := [(0, .int .i64 ((xs.getD k default).Gauge)), (1, .int .i64 ((xs.getD k default).Seq))]) zero92 Try.underlying92 places92 rfl rfl) ?_
    refine RW.eff (fun b4 : Nat => .pointer (some (⟨b4, 0, none⟩))) (fun b4 => St B Φ ((.blk b4 92 [.int .i64 0, .int .i64 0]) :: (.blk b3 29 [.int .i64 ((xs.getD k default).Gauge), .int .i64 ((xs.getD k default).Seq), .int .i64 ((xs.getD k default).Clock), .int .i64 ((xs.getD k default).Value), .string ((xs.getD k default).Tag)]) :: (.kmap kInt Value.bool b2 (Se.voidM (xs.take k))) :: (.kmap kNum gramV b1 (Se.frst (xs.take k))) :: C)) rfl (e_alloc zero92) ?_
    intro b4
    refine RW.effn (J' := St B Φ ((.blk b4 92 [.int .i64 ((xs.getD k default).Gauge), .int .i64 ((xs.getD k default).Seq)]) :: (.blk b3 29 [.int .i64 ((xs.getD k default).Gauge), .int .i64 ((xs.getD k default).Seq), .int .i64 ((xs.getD k default).Clock), .int .i64 ((xs.getD k default).Value), .string ((xs.getD k default).Tag)]) :: (.kmap kInt Value.bool b2 (Se.voidM (xs.take k))) :: (.kmap kNum gramV b1 (Se.frst (xs.take k))) :: C)) (e_store (v := .agg #[.int .i64 ((xs.getD k default).Gauge), .int .i64 ((xs.getD k default).Seq)]) 0 rfl rfl rfl sz92 rfl rfl rfl rfl rfl) ?_
    refine RW.nil ?_
    refine Post.then_n ?_
    refine AW.seq ?_
    refine AW.region ?_
    refine RW.q (v := .map (some b1)) rfl (q_move rfl) ?_
    refine RW.q (v := .agg #[.int .i64 ((xs.getD k default).Gauge), .int .i64 ((xs.getD k default).Seq)]) rfl (q_loadAgg rfl Try.underlying92 rfl sz92 rfl (Cells.blk 0 rfl)) ?_
    refine RW.q (v := .tuple #[.agg #[.int .i64 ((((Se.frst (xs.take k)) ((xs.getD k default).Gauge, (xs.getD k default).Seq)).getD default).Gauge), .int .i64 ((((Se.frst (xs.take k)) ((xs.getD k default).Gauge, (xs.getD k default).Seq)).getD default).Seq), .int .i64 ((((Se.frst (xs.take k)) ((xs.getD k default).Gauge, (xs.getD k default).Seq)).getD default).Clock), .int .i64 ((((Se.frst (xs.take k)) ((xs.getD k default).Gauge, (xs.getD k default).Seq)).getD default).Value), .string ((((Se.frst (xs.take k)) ((xs.getD k default).Gauge, (xs.getD k default).Seq)).getD default).Tag)], .bool (((Se.frst (xs.take k)) ((xs.getD k default).Gauge, (xs.getD k default).Seq)).isSome)]) rfl (q_kLook (L := kNum) (ew := gramV) (M := Se.frst (xs.take k)) (k := ((xs.getD k default).Gauge, (xs.getD k default).Seq)) (d := default) 3 rfl rfl rfl (by assumption) Try.underlying90 zero29) ?_
    refine RW.q (v := .tuple #[.agg #[.int .i64 ((((Se.frst (xs.take k)) ((xs.getD k default).Gauge, (xs.getD k default).Seq)).getD default).Gauge), .int .i64 ((((Se.frst (xs.take k)) ((xs.getD k default).Gauge, (xs.getD k default).Seq)).getD default).Seq), .int .i64 ((((Se.frst (xs.take k)) ((xs.getD k default).Gauge, (xs.getD k default).Seq)).getD default).Clock), .int .i64 ((((Se.frst (xs.take k)) ((xs.getD k default).Gauge, (xs.getD k default).Seq)).getD default).Value), .string ((((Se.frst (xs.take k)) ((xs.getD k default).Gauge, (xs.getD k default).Seq)).getD default).Tag)], .bool (((Se.frst (xs.take k)) ((xs.getD k default).Gauge, (xs.getD k default).Seq)).isSome)]) rfl (q_move rfl) ?_
    refine RW.q (v := .agg #[.int .i64 ((((Se.frst (xs.take k)) ((xs.getD k default).Gauge, (xs.getD k default).Seq)).getD default).Gauge), .int .i64 ((((Se.frst (xs.take k)) ((xs.getD k default).Gauge, (xs.getD k default).Seq)).getD default).Seq), .int .i64 ((((Se.frst (xs.take k)) ((xs.getD k default).Gauge, (xs.getD k default).Seq)).getD default).Clock), .int .i64 ((((Se.frst (xs.take k)) ((xs.getD k default).Gauge, (xs.getD k default).Seq)).getD default).Value), .string ((((Se.frst (xs.take k)) ((xs.getD k default).Gauge, (xs.getD k default).Seq)).getD default).Tag)]) rfl (q_extract rfl rfl) ?_
    refine RW.q (v := .bool (((Se.frst (xs.take k)) ((xs.getD k default).Gauge, (xs.getD k default).Seq)).isSome)) rfl (q_extract rfl rfl) ?_
    refine RW.eff (fun b5 : Nat => .pointer (some (⟨b5, 0, none⟩))) (fun b5 => St B Φ ((.blk b5 29 [.int .i64 0, .int .i64 0, .int .i64 0, .int .i64 0, .string (bs ([]))]) :: (.blk b4 92 [.int .i64 ((xs.getD k default).Gauge), .int .i64 ((xs.getD k default).Seq)]) :: (.blk b3 29 [.int .i64 ((xs.getD k default).Gauge), .int .i64 ((xs.getD k default).Seq), .int .i64 ((xs.getD k default).Clock), .int .i64 ((xs.getD k default).Value), .string ((xs.getD k default).Tag)]) :: (.kmap kInt Value.bool b2 (Se.voidM (xs.take k))) :: (.kmap kNum gramV b1 (Se.frst (xs.take k))) :: C)) rfl (e_alloc zero29) ?_
    intro b5
    refine RW.effn (J' := St B Φ ((.blk b5 29 [.int .i64 ((((Se.frst (xs.take k)) ((xs.getD k default).Gauge, (xs.getD k default).Seq)).getD default).Gauge), .int .i64 ((((Se.frst (xs.take k)) ((xs.getD k default).Gauge, (xs.getD k default).Seq)).getD default).Seq), .int .i64 ((((Se.frst (xs.take k)) ((xs.getD k default).Gauge, (xs.getD k default).Seq)).getD default).Clock), .int .i64 ((((Se.frst (xs.take k)) ((xs.getD k default).Gauge, (xs.getD k default).Seq)).getD default).Value), .string ((((Se.frst (xs.take k)) ((xs.getD k default).Gauge, (xs.getD k default).Seq)).getD default).Tag)]) :: (.blk b4 92 [.int .i64 ((xs.getD k default).Gauge), .int .i64 ((xs.getD k default).Seq)]) :: (.blk b3 29 [.int .i64 ((xs.getD k default).Gauge), .int .i64 ((xs.getD k default).Seq), .int .i64 ((xs.getD k default).Clock), .int .i64 ((xs.getD k default).Value), .string ((xs.getD k default).Tag)]) :: (.kmap kInt Value.bool b2 (Se.voidM (xs.take k))) :: (.kmap kNum gramV b1 (Se.frst (xs.take k))) :: C)) (e_store (v := .agg #[.int .i64 ((((Se.frst (xs.take k)) ((xs.getD k default).Gauge, (xs.getD k default).Seq)).getD default).Gauge), .int .i64 ((((Se.frst (xs.take k)) ((xs.getD k default).Gauge, (xs.getD k default).Seq)).getD default).Seq), .int .i64 ((((Se.frst (xs.take k)) ((xs.getD k default).Gauge, (xs.getD k default).Seq)).getD default).Clock), .int .i64 ((((Se.frst (xs.take k)) ((xs.getD k default).Gauge, (xs.getD k default).Seq)).getD default).Value), .string ((((Se.frst (xs.take k)) ((xs.getD k default).Gauge, (xs.getD k default).Seq)).getD default).Tag)]) 0 rfl rfl rfl sz29 rfl rfl rfl rfl rfl) ?_
    refine RW.q (v := .bool (((Se.frst (xs.take k)) ((xs.getD k default).Gauge, (xs.getD k default).Seq)).isSome)) rfl (q_assign rfl) ?_
    refine RW.nil ?_
    refine Post.then_n ?_
    refine AW.seq ?_
    refine AW.region ?_
    refine RW.q (v := .bool (((Se.frst (xs.take k)) ((xs.getD k default).Gauge, (xs.getD k default).Seq)).isSome)) rfl (q_move rfl) ?_
    refine RW.q (v := .bool (!(((Se.frst (xs.take k)) ((xs.getD k default).Gauge, (xs.getD k default).Seq)).isSome))) rfl (q_not rfl) ?_
    refine RW.nil ?_
    refine Post.then_n ?_
    refine AW.cond (b := !(((Se.frst (xs.take k)) ((xs.getD k default).Gauge, (xs.getD k default).Seq)).isSome)) rfl (fun hc2 => ?_) (fun hc2 => ?_)
    · simp [-List.getD_eq_getElem?_getD] at hc2
      refine AW.region ?_
      refine RW.q (v := .map (some b1)) rfl (q_move rfl) ?_
      refine RW.q (v := .agg #[.int .i64 ((xs.getD k default).Gauge), .int .i64 ((xs.getD k default).Seq)]) rfl (q_loadAgg rfl Try.underlying92 rfl sz92 rfl (Cells.blk 1 rfl)) ?_
      refine RW.q (v := .agg #[.int .i64 ((xs.getD k default).Gauge), .int .i64 ((xs.getD k default).Seq), .int .i64 ((xs.getD k default).Clock), .int .i64 ((xs.getD k default).Value), .string ((xs.getD k default).Tag)]) rfl (q_loadAgg rfl Try.underlying29 rfl sz29 rfl (Cells.blk 2 rfl)) ?_
      refine RW.effn (J' := St B Φ ((.blk b5 29 [.int .i64 ((((Se.frst (xs.take k)) ((xs.getD k default).Gauge, (xs.getD k default).Seq)).getD default).Gauge), .int .i64 ((((Se.frst (xs.take k)) ((xs.getD k default).Gauge, (xs.getD k default).Seq)).getD default).Seq), .int .i64 ((((Se.frst (xs.take k)) ((xs.getD k default).Gauge, (xs.getD k default).Seq)).getD default).Clock), .int .i64 ((((Se.frst (xs.take k)) ((xs.getD k default).Gauge, (xs.getD k default).Seq)).getD default).Value), .string ((((Se.frst (xs.take k)) ((xs.getD k default).Gauge, (xs.getD k default).Seq)).getD default).Tag)]) :: (.blk b4 92 [.int .i64 ((xs.getD k default).Gauge), .int .i64 ((xs.getD k default).Seq)]) :: (.blk b3 29 [.int .i64 ((xs.getD k default).Gauge), .int .i64 ((xs.getD k default).Seq), .int .i64 ((xs.getD k default).Clock), .int .i64 ((xs.getD k default).Value), .string ((xs.getD k default).Tag)]) :: (.kmap kInt Value.bool b2 (Se.voidM (xs.take k))) :: (.kmap kNum gramV b1 (fun j => if j = ((xs.getD k default).Gauge, (xs.getD k default).Seq) then some (xs.getD k default) else (Se.frst (xs.take k)) j)) :: C)) (e_kPut (L := kNum) (ew := gramV) (M := Se.frst (xs.take k)) (k := ((xs.getD k default).Gauge, (xs.getD k default).Seq)) (v := (xs.getD k default)) 4 rfl rfl rfl rfl (by assumption) Try.underlying90 rfl) ?_
      refine RW.nil ?_
      refine Post.blk_n (Post.then_n ?_)
      refine AW.region ?_
      refine RW.q (v := .int .i64 ((k + 1 : Nat) : Int)) rfl (q_add rfl rfl (by omega) (by unfold I64; omega)) ?_
      refine RW.q (v := .int .i64 ((k + 1 : Nat) : Int)) rfl (q_move rfl) ?_
      refine RW.nil ?_
      have hno : Se.frst (xs.take k) ((xs.getD k default).Gauge, (xs.getD k default).Seq) = none := by simpa using hc2
      exact Post.back (s' := _) (J' := _) (m' := _) (by omega) ⟨k + 1, rfl, rfl, rfl, (by omega)⟩ ⟨rfl, rfl, rfl, rfl, rfl, rfl, trivial⟩ (fun _ h => by rw [Se.take_snoc (show k < xs.length by omega), ← Se.frst_put hno, Se.voidM_keep (t := (xs.getD k default)) (by rintro ⟨f, hf, _⟩; rw [hno] at hf; cases hf)]; exact StP.drop h (by exact .cons _ (.cons _ (.cons _ (.cons_cons _ (.cons_cons _ ((List.Sublist.refl _))))))))
    · simp [-List.getD_eq_getElem?_getD] at hc2
      refine AW.seq ?_
      refine AW.region ?_
      refine RW.q (v := .agg #[.int .i64 ((((Se.frst (xs.take k)) ((xs.getD k default).Gauge, (xs.getD k default).Seq)).getD default).Gauge), .int .i64 ((((Se.frst (xs.take k)) ((xs.getD k default).Gauge, (xs.getD k default).Seq)).getD default).Seq), .int .i64 ((((Se.frst (xs.take k)) ((xs.getD k default).Gauge, (xs.getD k default).Seq)).getD default).Clock), .int .i64 ((((Se.frst (xs.take k)) ((xs.getD k default).Gauge, (xs.getD k default).Seq)).getD default).Value), .string ((((Se.frst (xs.take k)) ((xs.getD k default).Gauge, (xs.getD k default).Seq)).getD default).Tag)]) rfl (q_loadAgg rfl Try.underlying29 rfl sz29 rfl (Cells.blk 0 rfl)) ?_
      refine RW.q (v := .agg #[.int .i64 ((xs.getD k default).Gauge), .int .i64 ((xs.getD k default).Seq), .int .i64 ((xs.getD k default).Clock), .int .i64 ((xs.getD k default).Value), .string ((xs.getD k default).Tag)]) rfl (q_loadAgg rfl Try.underlying29 rfl sz29 rfl (Cells.blk 2 rfl)) ?_
      refine RW.q (v := .bool (!(decide ((((Se.frst (xs.take k)) ((xs.getD k default).Gauge, (xs.getD k default).Seq)).getD default).Gauge = (xs.getD k default).Gauge) && decide ((((Se.frst (xs.take k)) ((xs.getD k default).Gauge, (xs.getD k default).Seq)).getD default).Seq = (xs.getD k default).Seq) && decide ((((Se.frst (xs.take k)) ((xs.getD k default).Gauge, (xs.getD k default).Seq)).getD default).Clock = (xs.getD k default).Clock) && decide ((((Se.frst (xs.take k)) ((xs.getD k default).Gauge, (xs.getD k default).Seq)).getD default).Value = (xs.getD k default).Value) && decide (((((Se.frst (xs.take k)) ((xs.getD k default).Gauge, (xs.getD k default).Seq)).getD default).Tag).data.toList = ((xs.getD k default).Tag).data.toList)))) rfl (q_neqS rfl rfl (eqS29 _ _ _ _ _ _ _ _ _ _) eqG29) ?_
      refine RW.nil ?_
      refine Post.then_n ?_
      refine AW.cond (b := !(decide ((((Se.frst (xs.take k)) ((xs.getD k default).Gauge, (xs.getD k default).Seq)).getD default).Gauge = (xs.getD k default).Gauge) && decide ((((Se.frst (xs.take k)) ((xs.getD k default).Gauge, (xs.getD k default).Seq)).getD default).Seq = (xs.getD k default).Seq) && decide ((((Se.frst (xs.take k)) ((xs.getD k default).Gauge, (xs.getD k default).Seq)).getD default).Clock = (xs.getD k default).Clock) && decide ((((Se.frst (xs.take k)) ((xs.getD k default).Gauge, (xs.getD k default).Seq)).getD default).Value = (xs.getD k default).Value) && decide (((((Se.frst (xs.take k)) ((xs.getD k default).Gauge, (xs.getD k default).Seq)).getD default).Tag).data.toList = ((xs.getD k default).Tag).data.toList))) rfl (fun hc3 => ?_) (fun hc3 => ?_)
      · simp [-List.getD_eq_getElem?_getD] at hc3
        refine AW.region ?_
        refine RW.q (v := .map (some b2)) rfl (q_move rfl) ?_
        refine RW.q (v := .pointer (some (⟨b3, 0, none⟩))) rfl (q_fieldAddr rfl Try.underlying29 rfl sz3 rfl) ?_
        refine RW.q (v := .int .i64 ((xs.getD k default).Gauge)) rfl (q_load rfl Try.underlying3 rfl (Cell.blk 2 rfl rfl)) ?_
        refine RW.effn (J' := St B Φ ((.blk b5 29 [.int .i64 ((((Se.frst (xs.take k)) ((xs.getD k default).Gauge, (xs.getD k default).Seq)).getD default).Gauge), .int .i64 ((((Se.frst (xs.take k)) ((xs.getD k default).Gauge, (xs.getD k default).Seq)).getD default).Seq), .int .i64 ((((Se.frst (xs.take k)) ((xs.getD k default).Gauge, (xs.getD k default).Seq)).getD default).Clock), .int .i64 ((((Se.frst (xs.take k)) ((xs.getD k default).Gauge, (xs.getD k default).Seq)).getD default).Value), .string ((((Se.frst (xs.take k)) ((xs.getD k default).Gauge, (xs.getD k default).Seq)).getD default).Tag)]) :: (.blk b4 92 [.int .i64 ((xs.getD k default).Gauge), .int .i64 ((xs.getD k default).Seq)]) :: (.blk b3 29 [.int .i64 ((xs.getD k default).Gauge), .int .i64 ((xs.getD k default).Seq), .int .i64 ((xs.getD k default).Clock), .int .i64 ((xs.getD k default).Value), .string ((xs.getD k default).Tag)]) :: (.kmap kInt Value.bool b2 (fun j => if j = (xs.getD k default).Gauge then some true else (Se.voidM (xs.take k)) j)) :: (.kmap kNum gramV b1 (Se.frst (xs.take k))) :: C)) (e_kPut (L := kInt) (ew := Value.bool) (M := Se.voidM (xs.take k)) (k := (xs.getD k default).Gauge) (v := true) 3 rfl rfl rfl rfl (by assumption) Try.underlying69 rfl) ?_
        refine RW.nil ?_
        refine Post.blk_n (Post.then_n ?_)
        refine AW.region ?_
        refine RW.q (v := .int .i64 ((k + 1 : Nat) : Int)) rfl (q_add rfl rfl (by omega) (by unfold I64; omega)) ?_
        refine RW.q (v := .int .i64 ((k + 1 : Nat) : Int)) rfl (q_move rfl) ?_
        refine RW.nil ?_
        obtain ⟨fz, hfz⟩ := Option.isSome_iff_exists.1 (show (Se.frst (xs.take k) ((xs.getD k default).Gauge, (xs.getD k default).Seq)).isSome = true by simpa using hc2)
        have hyes : Se.frst (xs.take k) ((xs.getD k default).Gauge, (xs.getD k default).Seq) = some fz := hfz
        have hdif : fz ≠ (xs.getD k default) := fun e => by rw [hyes] at hc3; simp [e] at hc3
        exact Post.back (s' := _) (J' := _) (m' := _) (by omega) ⟨k + 1, rfl, rfl, rfl, (by omega)⟩ ⟨rfl, rfl, rfl, rfl, rfl, rfl, trivial⟩ (fun _ h => by rw [Se.take_snoc (show k < xs.length by omega), Se.frst_keep hyes, ← Se.voidM_put hyes hdif]; exact StP.drop h (by exact .cons _ (.cons _ (.cons _ (.cons_cons _ (.cons_cons _ ((List.Sublist.refl _))))))))
      · simp [-List.getD_eq_getElem?_getD] at hc3
        refine AW.skip ?_
        refine Post.blk_n (Post.then_n ?_)
        refine AW.region ?_
        refine RW.q (v := .int .i64 ((k + 1 : Nat) : Int)) rfl (q_add rfl rfl (by omega) (by unfold I64; omega)) ?_
        refine RW.q (v := .int .i64 ((k + 1 : Nat) : Int)) rfl (q_move rfl) ?_
        refine RW.nil ?_
        obtain ⟨fz, hfz⟩ := Option.isSome_iff_exists.1 (show (Se.frst (xs.take k) ((xs.getD k default).Gauge, (xs.getD k default).Seq)).isSome = true by simpa using hc2)
        have hyes : Se.frst (xs.take k) ((xs.getD k default).Gauge, (xs.getD k default).Seq) = some fz := hfz
        have hsam : fz = (xs.getD k default) := by rw [hyes] at hc3; exact Se.gram_eqP (by simpa [-List.getD_eq_getElem?_getD] using hc3)
        exact Post.back (s' := _) (J' := _) (m' := _) (by omega) ⟨k + 1, rfl, rfl, rfl, (by omega)⟩ ⟨rfl, rfl, rfl, rfl, rfl, rfl, trivial⟩ (fun _ h => by rw [Se.take_snoc (show k < xs.length by omega), Se.frst_keep hyes, Se.voidM_keep (t := (xs.getD k default)) (by rintro ⟨f, hf, hne⟩; rw [hyes] at hf; exact hne ((Option.some.inj hf).symm.trans hsam))]; exact StP.drop h (by exact .cons _ (.cons _ (.cons _ (.cons_cons _ (.cons_cons _ ((List.Sublist.refl _))))))))
  · simp [-List.getD_eq_getElem?_getD] at hc1
    refine AW.exit ?_
    refine Post.then_x (Post.then_x (Post.blk_hit (Post.then_n ?_)))
    refine AW.seq ?_
    refine AW.region ?_
    refine RW.q (v := .map (some b2)) rfl (q_move rfl) ?_
    refine RW.q (v := .map (some b2)) rfl (q_assign rfl) ?_
    refine RW.nil ?_
    refine Post.then_n ?_
    refine AW.ret ?_
    refine fin_out1 rfl rfl rfl (fun w' hw => ⟨b2, rfl, ?_⟩)
    rw [show xs.take k = xs from List.take_of_length_le (by omega)] at hw
    exact StP.drop hw (by exact .cons_cons _ (.cons _ ((List.Sublist.refl _))))

set_option maxRecDepth 8000 in
set_option maxHeartbeats 1000000 in
theorem Void_c (w : World) (Φ : Hp) (hΦ : Hp.le Φ (hp w)) {xs : List Bt.Gram} {v1 : Value} (h1 : RepSl Φ xs v1) {q : Int} (hq : I64 q) :
    Calls Try.prog 12 #[v1, .int .i64 q] w fun e w' => e = .returned (.bool (decide (Se.VoidP xs q))) ∧ Bel w.heap.size w w' := by
  refine calls_of_AW (args := [v1, .int .i64 q]) Try.func12 rfl (Nat.le_of_ble_eq_true rfl) (St ⟨w, Φ, []⟩ Φ []) (StP.init w Φ hΦ []) ?_
  show AW Try.prog 9 [] _ _ _ [(0, v1), (1, .int .i64 q)] _
  refine AW.seq ?_
  refine AW.region ?_
  refine RW.q (v := .bool false) rfl (q_assign rfl) ?_
  refine RW.nil ?_
  refine Post.then_n ?_
  refine AW.seq ?_
  refine AW.region ?_
  refine RW.q (v := v1) rfl (q_move rfl) ?_
  refine RW.eff (fun b1 : Nat => .map (some b1)) (fun b1 => St ⟨w, Φ, []⟩ Φ [.kmap kInt Value.bool b1 (Se.voidM xs)]) rfl (e_call (args := #[v1]) own25 rfl rfl (fun w1 hw1 => voids_c rfl h1 w1 hw1)) ?_
  intro b1
  refine RW.q (v := .int .i64 q) rfl (q_move rfl) ?_
  refine RW.q (v := .bool (decide (Se.VoidP xs q))) rfl (q_as (q_kLook1 (L := kInt) (ew := Value.bool) (M := Se.voidM xs) (k := q) (d := false) 0 rfl rfl rfl (show kInt.good q from hq) Try.underlying69 zero4) (show Value.bool (((Se.voidM xs) q).getD false) = _ from congrArg Value.bool (Se.voidM_dec _ _))) ?_
  refine RW.q (v := .bool (decide (Se.VoidP xs q))) rfl (q_assign rfl) ?_
  refine RW.nil ?_
  refine Post.then_n ?_
  refine AW.ret ?_
  exact fin_val (v' := .bool (decide (Se.VoidP xs q))) rfl rfl rfl (rfl)

end Go.Proofs.Ytlljbndnodbecaa
