/- Walks (part WalkF), printed by walk2.py. Conditions: those of each theorem. -/
import Derived.Test.YtpeojogjeopfaaaWalkE
namespace Go.Proofs.Ytpeojogjeopfaaa
open Go Go.K Go.RowKit

def cellsR (r : Bt.Right) : Value := .agg #[.int .i64 r.Id, .int .i64 r.Owner, .int .i64 r.Date, .int .i64 r.Place, .int .i64 r.Rate, .int .i64 r.From, .int .i64 r.Until, .int .i64 r.Back, .int .i64 r.BackTo]
theorem mapR (o : Option Bt.Right) : Value.tuple #[(o.map cellsR).getD (.agg #[.int .i64 0, .int .i64 0, .int .i64 0, .int .i64 0, .int .i64 0, .int .i64 0, .int .i64 0, .int .i64 0, .int .i64 0]), .bool (o.map cellsR).isSome] = .tuple #[.agg #[.int .i64 ((o.getD default).Id), .int .i64 ((o.getD default).Owner), .int .i64 ((o.getD default).Date), .int .i64 ((o.getD default).Place), .int .i64 ((o.getD default).Rate), .int .i64 ((o.getD default).From), .int .i64 ((o.getD default).Until), .int .i64 ((o.getD default).Back), .int .i64 ((o.getD default).BackTo)], .bool o.isSome] := by cases o <;> rfl
set_option maxRecDepth 8000 in
set_option maxHeartbeats 1000000 in
theorem Back_c (w : World) (Φ : Hp) (hΦ : Hp.le Φ (hp w)) {b : Bt.Basin} {cs : List Value} (hB : RepV Φ b cs) {rs : List Bt.Right} {v2s : Value} (h2 : RepSl Φ rs v2s) {gs : List Bt.Grant} {v4s : Value} (h4 : RepSl Φ gs v4s) :
    Calls Try.prog 16 #[.agg cs.toArray, v2s, v4s] w (RetS noHp w fun r Ψ => RepSl Ψ (Al.back b.Places rs gs) r) := by
  obtain ⟨v1, v3, v4, v5, v6, v7, v8, v9, hcs, hBw, r1, r3, r4, r5, r6, r7, r8, r9⟩ := (show Rep.rep Φ b cs from hB)
  subst hcs
  have hpm : b.Places.length * 152 ≤ 140737488355328 := r3.max
  refine calls_of_AW (args := [.agg #[.string b.Name, v1, .int .i64 b.Cells, v3, v4, v5, v6, v7, v8, v9, .int .i64 b.Err], v2s, v4s]) Try.func16 rfl (Nat.le_of_ble_eq_true rfl) (St ⟨w, Φ, []⟩ Φ []) (StP.init w Φ hΦ []) ?_
  show AW Try.prog 93 [] _ _ _ [(0, .agg #[.string b.Name, v1, .int .i64 b.Cells, v3, v4, v5, v6, v7, v8, v9, .int .i64 b.Err]), (1, v2s), (2, v4s)] _
  have hm2 : rs.length * 72 ≤ 140737488355328 := h2.max
  have hm4 : gs.length * 16 ≤ 140737488355328 := h4.max
  refine AW.seq ?_
  refine AW.region ?_
  refine RW.eff (fun b1 : Nat => .pointer (some (⟨b1, 0, none⟩))) (fun b1 => St ⟨w, Φ, []⟩ Φ [.blk b1 31 [.string b.Name, v1, .int .i64 b.Cells, v3, v4, v5, v6, v7, v8, v9, .int .i64 b.Err]]) rfl (e_boxA (cs := [.string b.Name, v1, .int .i64 b.Cells, v3, v4, v5, v6, v7, v8, v9, .int .i64 b.Err]) rfl) ?_
  intro b1
  refine RW.q (v := (.slice none 0 0)) rfl (q_assign rfl) ?_
  refine RW.nil ?_
  refine Post.then_n ?_
  refine AW.seq ?_
  refine AW.region ?_
  refine RW.eff (fun b2 : Nat => .map (some b2)) (fun b2 => St ⟨w, Φ, []⟩ Φ [.imap b2 (fun _ => none), .blk b1 31 [.string b.Name, v1, .int .i64 b.Cells, v3, v4, v5, v6, v7, v8, v9, .int .i64 b.Err]]) rfl (e_makeMap) ?_
  intro b2
  refine RW.q (v := .map (some b2)) rfl (q_assign rfl) ?_
  refine RW.nil ?_
  refine Post.then_n ?_
  refine AW.seq ?_
  refine AW.seq ?_
  refine AW.region ?_
  refine RW.q (v := v2s) rfl (q_move rfl) ?_
  refine RW.q (v := .int .i64 ((rs.length : Nat) : Int)) rfl (q_len_sl rfl h2.sl Try.underlying32) ?_
  refine RW.q (v := .int .i64 0) rfl (q_move rfl) ?_
  refine RW.nil ?_
  refine Post.then_n ?_
  refine AW.block ?_
  refine AW.loop (fun s J m => ∃ (k : Nat), s = [(2, v4s), (3, .pointer (some (⟨b1, 0, none⟩))), (7, .map (some b2)), (22, v2s), (23, .int .i64 ((rs.length : Nat) : Int)), (24, .int .i64 (k : Int))] ∧ J = St ⟨w, Φ, []⟩ Φ [.imap b2 (fun id => (Al.findR (rs.take k) id).map cellsR), .blk b1 31 [.string b.Name, v1, .int .i64 b.Cells, v3, v4, v5, v6, v7, v8, v9, .int .i64 b.Err]] ∧ m = rs.length - k ∧ (k ≤ rs.length)) (s0 := _) (J1 := _) (m0 := _) ⟨0, rfl, rfl, rfl, (by omega)⟩ ⟨rfl, rfl, rfl, rfl, rfl, rfl, trivial⟩ (fun _ h => h) ?_
  rintro _ _ _ _ ⟨k, rfl, rfl, rfl, hk⟩
  refine AW.seq ?_
  refine AW.region ?_
  refine RW.q (v := .bool (decide ((k : Int) < ((rs.length : Nat) : Int)))) rfl (q_lss rfl rfl) ?_
  refine RW.nil ?_
  refine Post.then_n ?_
  refine AW.seq ?_
  refine AW.cond (b := decide ((k : Int) < ((rs.length : Nat) : Int))) rfl (fun hc1 => ?_) (fun hc1 => ?_)
  · simp [-List.getD_eq_getElem?_getD] at hc1
    refine AW.skip ?_
    refine Post.then_n ?_
    refine AW.seq ?_
    refine AW.block ?_
    refine AW.seq ?_
    refine AW.region ?_
    refine RW.q (v := .pointer (some (Value.at v2s (k * 9)))) rfl (q_indexAddr rfl rfl h2.sl Try.underlying32 sz45 (by omega) (by omega) rfl) ?_
    refine RW.q (v := .agg #[.int .i64 ((rs.getD k default).Id), .int .i64 ((rs.getD k default).Owner), .int .i64 ((rs.getD k default).Date), .int .i64 ((rs.getD k default).Place), .int .i64 ((rs.getD k default).Rate), .int .i64 ((rs.getD k default).From), .int .i64 ((rs.getD k default).Until), .int .i64 ((rs.getD k default).Back), .int .i64 ((rs.getD k default).BackTo)]) rfl (q_loadAgg rfl Try.underlying45 rfl sz45 rfl (Cells.repE h2 (by omega) rfl)) ?_
    refine RW.eff (fun b3 : Nat => .pointer (some (⟨b3, 0, none⟩))) (fun b3 => St ⟨w, Φ, []⟩ Φ [.blk b3 45 [.int .i64 0, .int .i64 0, .int .i64 0, .int .i64 0, .int .i64 0, .int .i64 0, .int .i64 0, .int .i64 0, .int .i64 0], .imap b2 (fun id => (Al.findR (rs.take k) id).map cellsR), .blk b1 31 [.string b.Name, v1, .int .i64 b.Cells, v3, v4, v5, v6, v7, v8, v9, .int .i64 b.Err]]) rfl (e_alloc zero45) ?_
    intro b3
    refine RW.effn (J' := St ⟨w, Φ, []⟩ Φ [.blk b3 45 [.int .i64 ((rs.getD k default).Id), .int .i64 ((rs.getD k default).Owner), .int .i64 ((rs.getD k default).Date), .int .i64 ((rs.getD k default).Place), .int .i64 ((rs.getD k default).Rate), .int .i64 ((rs.getD k default).From), .int .i64 ((rs.getD k default).Until), .int .i64 ((rs.getD k default).Back), .int .i64 ((rs.getD k default).BackTo)], .imap b2 (fun id => (Al.findR (rs.take k) id).map cellsR), .blk b1 31 [.string b.Name, v1, .int .i64 b.Cells, v3, v4, v5, v6, v7, v8, v9, .int .i64 b.Err]]) (e_store (v := .agg #[.int .i64 ((rs.getD k default).Id), .int .i64 ((rs.getD k default).Owner), .int .i64 ((rs.getD k default).Date), .int .i64 ((rs.getD k default).Place), .int .i64 ((rs.getD k default).Rate), .int .i64 ((rs.getD k default).From), .int .i64 ((rs.getD k default).Until), .int .i64 ((rs.getD k default).Back), .int .i64 ((rs.getD k default).BackTo)]) 0 rfl rfl rfl sz45 rfl rfl rfl rfl rfl) ?_
    refine RW.nil ?_
    refine Post.then_n ?_
    refine AW.seq ?_
    refine AW.region ?_
    refine RW.q (v := .map (some b2)) rfl (q_move rfl) ?_
    refine RW.q (v := .pointer (some (⟨b3, 0, none⟩))) rfl (q_fieldAddr rfl Try.underlying45 rfl sz3 rfl) ?_
    refine RW.q (v := .int .i64 ((rs.getD k default).Id)) rfl (q_load rfl Try.underlying3 rfl (Cell.blk 0 rfl rfl)) ?_
    refine RW.q (v := .tuple #[.agg #[.int .i64 (((Al.findR (rs.take k) ((rs.getD k default).Id)).getD default).Id), .int .i64 (((Al.findR (rs.take k) ((rs.getD k default).Id)).getD default).Owner), .int .i64 (((Al.findR (rs.take k) ((rs.getD k default).Id)).getD default).Date), .int .i64 (((Al.findR (rs.take k) ((rs.getD k default).Id)).getD default).Place), .int .i64 (((Al.findR (rs.take k) ((rs.getD k default).Id)).getD default).Rate), .int .i64 (((Al.findR (rs.take k) ((rs.getD k default).Id)).getD default).From), .int .i64 (((Al.findR (rs.take k) ((rs.getD k default).Id)).getD default).Until), .int .i64 (((Al.findR (rs.take k) ((rs.getD k default).Id)).getD default).Back), .int .i64 (((Al.findR (rs.take k) ((rs.getD k default).Id)).getD default).BackTo)], .bool ((Al.findR (rs.take k) ((rs.getD k default).Id)).isSome)]) rfl (q_as (q_mapLook 1 rfl rfl rfl Try.underlying66 Try.underlying3 zero45) (mapR (Al.findR (rs.take k) ((rs.getD k default).Id)))) ?_
    refine RW.q (v := .tuple #[.agg #[.int .i64 (((Al.findR (rs.take k) ((rs.getD k default).Id)).getD default).Id), .int .i64 (((Al.findR (rs.take k) ((rs.getD k default).Id)).getD default).Owner), .int .i64 (((Al.findR (rs.take k) ((rs.getD k default).Id)).getD default).Date), .int .i64 (((Al.findR (rs.take k) ((rs.getD k default).Id)).getD default).Place), .int .i64 (((Al.findR (rs.take k) ((rs.getD k default).Id)).getD default).Rate), .int .i64 (((Al.findR (rs.take k) ((rs.getD k default).Id)).getD default).From), .int .i64 (((Al.findR (rs.take k) ((rs.getD k default).Id)).getD default).Until), .int .i64 (((Al.findR (rs.take k) ((rs.getD k default).Id)).getD default).Back), .int .i64 (((Al.findR (rs.take k) ((rs.getD k default).Id)).getD default).BackTo)], .bool ((Al.findR (rs.take k) ((rs.getD k default).Id)).isSome)]) rfl (q_move rfl) ?_
    refine RW.q (v := .agg #[.int .i64 (((Al.findR (rs.take k) ((rs.getD k default).Id)).getD default).Id), .int .i64 (((Al.findR (rs.take k) ((rs.getD k default).Id)).getD default).Owner), .int .i64 (((Al.findR (rs.take k) ((rs.getD k default).Id)).getD default).Date), .int .i64 (((Al.findR (rs.take k) ((rs.getD k default).Id)).getD default).Place), .int .i64 (((Al.findR (rs.take k) ((rs.getD k default).Id)).getD default).Rate), .int .i64 (((Al.findR (rs.take k) ((rs.getD k default).Id)).getD default).From), .int .i64 (((Al.findR (rs.take k) ((rs.getD k default).Id)).getD default).Until), .int .i64 (((Al.findR (rs.take k) ((rs.getD k default).Id)).getD default).Back), .int .i64 (((Al.findR (rs.take k) ((rs.getD k default).Id)).getD default).BackTo)]) rfl (q_extract rfl rfl) ?_
    refine RW.q (v := .bool ((Al.findR (rs.take k) ((rs.getD k default).Id)).isSome)) rfl (q_extract rfl rfl) ?_
    refine RW.eff (fun b4 : Nat => .pointer (some (⟨b4, 0, none⟩))) (fun b4 => St ⟨w, Φ, []⟩ Φ [.blk b4 45 [.int .i64 0, .int .i64 0, .int .i64 0, .int .i64 0, .int .i64 0, .int .i64 0, .int .i64 0, .int .i64 0, .int .i64 0], .blk b3 45 [.int .i64 ((rs.getD k default).Id), .int .i64 ((rs.getD k default).Owner), .int .i64 ((rs.getD k default).Date), .int .i64 ((rs.getD k default).Place), .int .i64 ((rs.getD k default).Rate), .int .i64 ((rs.getD k default).From), .int .i64 ((rs.getD k default).Until), .int .i64 ((rs.getD k default).Back), .int .i64 ((rs.getD k default).BackTo)], .imap b2 (fun id => (Al.findR (rs.take k) id).map cellsR), .blk b1 31 [.string b.Name, v1, .int .i64 b.Cells, v3, v4, v5, v6, v7, v8, v9, .int .i64 b.Err]]) rfl (e_alloc zero45) ?_
    intro b4
    refine RW.effn (J' := St ⟨w, Φ, []⟩ Φ [.blk b4 45 [.int .i64 (((Al.findR (rs.take k) ((rs.getD k default).Id)).getD default).Id), .int .i64 (((Al.findR (rs.take k) ((rs.getD k default).Id)).getD default).Owner), .int .i64 (((Al.findR (rs.take k) ((rs.getD k default).Id)).getD default).Date), .int .i64 (((Al.findR (rs.take k) ((rs.getD k default).Id)).getD default).Place), .int .i64 (((Al.findR (rs.take k) ((rs.getD k default).Id)).getD default).Rate), .int .i64 (((Al.findR (rs.take k) ((rs.getD k default).Id)).getD default).From), .int .i64 (((Al.findR (rs.take k) ((rs.getD k default).Id)).getD default).Until), .int .i64 (((Al.findR (rs.take k) ((rs.getD k default).Id)).getD default).Back), .int .i64 (((Al.findR (rs.take k) ((rs.getD k default).Id)).getD default).BackTo)], .blk b3 45 [.int .i64 ((rs.getD k default).Id), .int .i64 ((rs.getD k default).Owner), .int .i64 ((rs.getD k default).Date), .int .i64 ((rs.getD k default).Place), .int .i64 ((rs.getD k default).Rate), .int .i64 ((rs.getD k default).From), .int .i64 ((rs.getD k default).Until), .int .i64 ((rs.getD k default).Back), .int .i64 ((rs.getD k default).BackTo)], .imap b2 (fun id => (Al.findR (rs.take k) id).map cellsR), .blk b1 31 [.string b.Name, v1, .int .i64 b.Cells, v3, v4, v5, v6, v7, v8, v9, .int .i64 b.Err]]) (e_store (v := .agg #[.int .i64 (((Al.findR (rs.take k) ((rs.getD k default).Id)).getD default).Id), .int .i64 (((Al.findR (rs.take k) ((rs.getD k default).Id)).getD default).Owner), .int .i64 (((Al.findR (rs.take k) ((rs.getD k default).Id)).getD default).Date), .int .i64 (((Al.findR (rs.take k) ((rs.getD k default).Id)).getD default).Place), .int .i64 (((Al.findR (rs.take k) ((rs.getD k default).Id)).getD default).Rate), .int .i64 (((Al.findR (rs.take k) ((rs.getD k default).Id)).getD default).From), .int .i64 (((Al.findR (rs.take k) ((rs.getD k default).Id)).getD default).Until), .int .i64 (((Al.findR (rs.take k) ((rs.getD k default).Id)).getD default).Back), .int .i64 (((Al.findR (rs.take k) ((rs.getD k default).Id)).getD default).BackTo)]) 0 rfl rfl rfl sz45 rfl rfl rfl rfl rfl) ?_
    refine RW.q (v := .bool ((Al.findR (rs.take k) ((rs.getD k default).Id)).isSome)) rfl (q_assign rfl) ?_
    refine RW.nil ?_
    refine Post.then_n ?_
    refine AW.seq ?_
    refine AW.region ?_
    refine RW.q (v := .bool ((Al.findR (rs.take k) ((rs.getD k default).Id)).isSome)) rfl (q_move rfl) ?_
    refine RW.q (v := .bool (!((Al.findR (rs.take k) ((rs.getD k default).Id)).isSome))) rfl (q_not rfl) ?_
    refine RW.nil ?_
    refine Post.then_n ?_
    refine AW.cond (b := !((Al.findR (rs.take k) ((rs.getD k default).Id)).isSome)) rfl (fun hc2 => ?_) (fun hc2 => ?_)
    · simp [-List.getD_eq_getElem?_getD] at hc2
      refine AW.region ?_
      refine RW.q (v := .map (some b2)) rfl (q_move rfl) ?_
      refine RW.q (v := .pointer (some (⟨b3, 0, none⟩))) rfl (q_fieldAddr rfl Try.underlying45 rfl sz3 rfl) ?_
      refine RW.q (v := .int .i64 ((rs.getD k default).Id)) rfl (q_load rfl Try.underlying3 rfl (Cell.blk 1 rfl rfl)) ?_
      refine RW.q (v := .agg #[.int .i64 ((rs.getD k default).Id), .int .i64 ((rs.getD k default).Owner), .int .i64 ((rs.getD k default).Date), .int .i64 ((rs.getD k default).Place), .int .i64 ((rs.getD k default).Rate), .int .i64 ((rs.getD k default).From), .int .i64 ((rs.getD k default).Until), .int .i64 ((rs.getD k default).Back), .int .i64 ((rs.getD k default).BackTo)]) rfl (q_loadAgg rfl Try.underlying45 rfl sz45 rfl (Cells.blk 1 rfl)) ?_
      refine RW.effn (J' := St ⟨w, Φ, []⟩ Φ [.blk b4 45 [.int .i64 (((Al.findR (rs.take k) ((rs.getD k default).Id)).getD default).Id), .int .i64 (((Al.findR (rs.take k) ((rs.getD k default).Id)).getD default).Owner), .int .i64 (((Al.findR (rs.take k) ((rs.getD k default).Id)).getD default).Date), .int .i64 (((Al.findR (rs.take k) ((rs.getD k default).Id)).getD default).Place), .int .i64 (((Al.findR (rs.take k) ((rs.getD k default).Id)).getD default).Rate), .int .i64 (((Al.findR (rs.take k) ((rs.getD k default).Id)).getD default).From), .int .i64 (((Al.findR (rs.take k) ((rs.getD k default).Id)).getD default).Until), .int .i64 (((Al.findR (rs.take k) ((rs.getD k default).Id)).getD default).Back), .int .i64 (((Al.findR (rs.take k) ((rs.getD k default).Id)).getD default).BackTo)], .blk b3 45 [.int .i64 ((rs.getD k default).Id), .int .i64 ((rs.getD k default).Owner), .int .i64 ((rs.getD k default).Date), .int .i64 ((rs.getD k default).Place), .int .i64 ((rs.getD k default).Rate), .int .i64 ((rs.getD k default).From), .int .i64 ((rs.getD k default).Until), .int .i64 ((rs.getD k default).Back), .int .i64 ((rs.getD k default).BackTo)], .imap b2 (fun j => if j = (rs.getD k default).Id then some (.agg #[.int .i64 ((rs.getD k default).Id), .int .i64 ((rs.getD k default).Owner), .int .i64 ((rs.getD k default).Date), .int .i64 ((rs.getD k default).Place), .int .i64 ((rs.getD k default).Rate), .int .i64 ((rs.getD k default).From), .int .i64 ((rs.getD k default).Until), .int .i64 ((rs.getD k default).Back), .int .i64 ((rs.getD k default).BackTo)]) else (fun id => (Al.findR (rs.take k) id).map cellsR) j), .blk b1 31 [.string b.Name, v1, .int .i64 b.Cells, v3, v4, v5, v6, v7, v8, v9, .int .i64 b.Err]]) (e_mapPut (m := fun id => (Al.findR (rs.take k) id).map cellsR) (v := .agg #[.int .i64 ((rs.getD k default).Id), .int .i64 ((rs.getD k default).Owner), .int .i64 ((rs.getD k default).Date), .int .i64 ((rs.getD k default).Place), .int .i64 ((rs.getD k default).Rate), .int .i64 ((rs.getD k default).From), .int .i64 ((rs.getD k default).Until), .int .i64 ((rs.getD k default).Back), .int .i64 ((rs.getD k default).BackTo)]) 2 rfl rfl rfl rfl Try.underlying66 Try.underlying3 (by show (Al.findR (rs.take k) (rs.getD k default).Id).map cellsR = none; rw [hc2]; rfl) rfl) ?_
      refine RW.nil ?_
      refine Post.blk_n (Post.then_n ?_)
      refine AW.region ?_
      refine RW.q (v := .int .i64 ((k + 1 : Nat) : Int)) rfl (q_add rfl rfl (by omega) (by unfold I64; omega)) ?_
      refine RW.q (v := .int .i64 ((k + 1 : Nat) : Int)) rfl (q_move rfl) ?_
      refine RW.nil ?_
      exact Post.back (s' := _) (J' := _) (m' := _) (by omega) ⟨k + 1, rfl, rfl, rfl, (by omega)⟩ ⟨rfl, rfl, rfl, rfl, rfl, rfl, trivial⟩ (fun _ h => by rw [← Al.findR_put cellsR hc1 (by rw [hc2]; rfl)]; exact StP.drop h (by exact .cons _ (.cons _ (.cons_cons _ (.cons_cons _ (.slnil))))))
    · simp [-List.getD_eq_getElem?_getD] at hc2
      refine AW.skip ?_
      refine Post.blk_n (Post.then_n ?_)
      refine AW.region ?_
      refine RW.q (v := .int .i64 ((k + 1 : Nat) : Int)) rfl (q_add rfl rfl (by omega) (by unfold I64; omega)) ?_
      refine RW.q (v := .int .i64 ((k + 1 : Nat) : Int)) rfl (q_move rfl) ?_
      refine RW.nil ?_
      exact Post.back (s' := _) (J' := _) (m' := _) (by omega) ⟨k + 1, rfl, rfl, rfl, (by omega)⟩ ⟨rfl, rfl, rfl, rfl, rfl, rfl, trivial⟩ (fun _ h => by rw [show (fun id => (Al.findR (rs.take (k + 1)) id).map cellsR) = (fun id => (Al.findR (rs.take k) id).map cellsR) from funext fun id => by rw [Al.findR_keep hc1 (by simpa using hc2)]]; exact StP.drop h (by exact .cons _ (.cons _ (.cons_cons _ (.cons_cons _ (.slnil))))))
  · simp [-List.getD_eq_getElem?_getD] at hc1
    refine AW.exit ?_
    refine Post.then_x (Post.then_x (Post.blk_hit (Post.then_n ?_)))
    refine AW.seq ?_
    rw [show rs.take k = rs from List.take_of_length_le (by omega)]
    refine AW.region ?_
    refine RW.q (v := .pointer (some (⟨b1, 3, none⟩))) rfl (q_fieldAddr rfl Try.underlying31 rfl sz23 rfl) ?_
    refine RW.q (v := v3) rfl (q_load rfl Try.underlying23 rfl (Cell.blk 1 rfl rfl)) ?_
    refine RW.q (v := .int .i64 ((b.Places.length : Nat) : Int)) rfl (q_len_sl rfl r3.sl Try.underlying23) ?_
    refine RW.eff (fun b5 : Nat => (.slice (some ⟨b5, 0, none⟩) b.Places.length b.Places.length)) (fun b5 => St ⟨w, Φ, []⟩ Φ [.row (.slice (some ⟨b5, 0, none⟩) b.Places.length b.Places.length) 3 1 b.Places.length ((List.replicate b.Places.length 0).map (Value.int .i64)), .imap b2 (fun id => (Al.findR rs id).map cellsR), .blk b1 31 [.string b.Name, v1, .int .i64 b.Cells, v3, v4, v5, v6, v7, v8, v9, .int .i64 b.Err]]) rfl (e_makeSlice rfl rfl Try.underlying29 inf3 (by omega) (by omega) (by omega) rfl (made_int (n := b.Places.length) (by omega))) ?_
    intro b5
    refine RW.q (v := (.slice (some ⟨b5, 0, none⟩) b.Places.length b.Places.length)) rfl (q_assign rfl) ?_
    refine RW.nil ?_
    refine Post.then_n ?_
    refine AW.seq ?_
    refine AW.seq ?_
    refine AW.region ?_
    refine RW.q (v := v4s) rfl (q_move rfl) ?_
    refine RW.q (v := .int .i64 ((gs.length : Nat) : Int)) rfl (q_len_sl rfl h4.sl Try.underlying33) ?_
    refine RW.q (v := .int .i64 0) rfl (q_move rfl) ?_
    refine RW.nil ?_
    refine Post.then_n ?_
    refine AW.block ?_
    refine AW.loop (fun s J m => ∃ (i : Nat), ∃ (O : List Int), s = [(3, .pointer (some (⟨b1, 0, none⟩))), (7, .map (some b2)), (12, (.slice (some ⟨b5, 0, none⟩) b.Places.length b.Places.length)), (46, v4s), (47, .int .i64 ((gs.length : Nat) : Int)), (48, .int .i64 (i : Int))] ∧ J = St ⟨w, Φ, []⟩ Φ [.row (.slice (some ⟨b5, 0, none⟩) b.Places.length b.Places.length) 3 1 b.Places.length (O.map (Value.int .i64)), .imap b2 (fun id => (Al.findR rs id).map cellsR), .blk b1 31 [.string b.Name, v1, .int .i64 b.Cells, v3, v4, v5, v6, v7, v8, v9, .int .i64 b.Err]] ∧ m = gs.length - i ∧ (i ≤ gs.length) ∧ (O = (gs.take i).foldl (Al.backStep b.Places rs) (List.replicate b.Places.length 0)) ∧ (Al.OI b.Places.length O)) (s0 := _) (J1 := _) (m0 := _) ⟨0, _, rfl, rfl, rfl, (by omega), rfl, (Al.zero_oi _)⟩ ⟨rfl, rfl, rfl, rfl, rfl, rfl, trivial⟩ (fun _ h => h) ?_
    rintro _ _ _ _ ⟨i, O, rfl, rfl, rfl, hi, hO, hOI⟩
    refine AW.seq ?_
    refine AW.region ?_
    refine RW.q (v := .bool (decide ((i : Int) < ((gs.length : Nat) : Int)))) rfl (q_lss rfl rfl) ?_
    refine RW.nil ?_
    refine Post.then_n ?_
    refine AW.seq ?_
    refine AW.cond (b := decide ((i : Int) < ((gs.length : Nat) : Int))) rfl (fun hc3 => ?_) (fun hc3 => ?_)
    · simp [-List.getD_eq_getElem?_getD] at hc3
      refine AW.skip ?_
      refine Post.then_n ?_
      refine AW.seq ?_
      refine AW.block ?_
      refine AW.seq ?_
      refine AW.region ?_
      refine RW.q (v := .pointer (some (Value.at v4s (i * 2)))) rfl (q_indexAddr rfl rfl h4.sl Try.underlying33 sz47 (by omega) (by omega) rfl) ?_
      refine RW.q (v := .agg #[.int .i64 ((gs.getD i default).Right), .int .i64 ((gs.getD i default).Litres)]) rfl (q_loadAgg rfl Try.underlying47 rfl sz47 rfl (Cells.repE h4 (by omega) rfl)) ?_
      refine RW.eff (fun b6 : Nat => .pointer (some (⟨b6, 0, none⟩))) (fun b6 => St ⟨w, Φ, []⟩ Φ [.blk b6 47 [.int .i64 0, .int .i64 0], .row (.slice (some ⟨b5, 0, none⟩) b.Places.length b.Places.length) 3 1 b.Places.length (O.map (Value.int .i64)), .imap b2 (fun id => (Al.findR rs id).map cellsR), .blk b1 31 [.string b.Name, v1, .int .i64 b.Cells, v3, v4, v5, v6, v7, v8, v9, .int .i64 b.Err]]) rfl (e_alloc zero47) ?_
      intro b6
      refine RW.effn (J' := St ⟨w, Φ, []⟩ Φ [.blk b6 47 [.int .i64 ((gs.getD i default).Right), .int .i64 ((gs.getD i default).Litres)], .row (.slice (some ⟨b5, 0, none⟩) b.Places.length b.Places.length) 3 1 b.Places.length (O.map (Value.int .i64)), .imap b2 (fun id => (Al.findR rs id).map cellsR), .blk b1 31 [.string b.Name, v1, .int .i64 b.Cells, v3, v4, v5, v6, v7, v8, v9, .int .i64 b.Err]]) (e_store (v := .agg #[.int .i64 ((gs.getD i default).Right), .int .i64 ((gs.getD i default).Litres)]) 0 rfl rfl rfl sz47 rfl rfl rfl rfl rfl) ?_
      refine RW.nil ?_
      refine Post.then_n ?_
      refine AW.seq ?_
      refine AW.region ?_
      refine RW.q (v := .map (some b2)) rfl (q_move rfl) ?_
      refine RW.q (v := .pointer (some (⟨b6, 0, none⟩))) rfl (q_fieldAddr rfl Try.underlying47 rfl sz3 rfl) ?_
      refine RW.q (v := .int .i64 ((gs.getD i default).Right)) rfl (q_load rfl Try.underlying3 rfl (Cell.blk 0 rfl rfl)) ?_
      refine RW.q (v := .tuple #[.agg #[.int .i64 (((Al.findR rs ((gs.getD i default).Right)).getD default).Id), .int .i64 (((Al.findR rs ((gs.getD i default).Right)).getD default).Owner), .int .i64 (((Al.findR rs ((gs.getD i default).Right)).getD default).Date), .int .i64 (((Al.findR rs ((gs.getD i default).Right)).getD default).Place), .int .i64 (((Al.findR rs ((gs.getD i default).Right)).getD default).Rate), .int .i64 (((Al.findR rs ((gs.getD i default).Right)).getD default).From), .int .i64 (((Al.findR rs ((gs.getD i default).Right)).getD default).Until), .int .i64 (((Al.findR rs ((gs.getD i default).Right)).getD default).Back), .int .i64 (((Al.findR rs ((gs.getD i default).Right)).getD default).BackTo)], .bool ((Al.findR rs ((gs.getD i default).Right)).isSome)]) rfl (q_as (q_mapLook 2 rfl rfl rfl Try.underlying66 Try.underlying3 zero45) (mapR (Al.findR rs ((gs.getD i default).Right)))) ?_
      refine RW.q (v := .tuple #[.agg #[.int .i64 (((Al.findR rs ((gs.getD i default).Right)).getD default).Id), .int .i64 (((Al.findR rs ((gs.getD i default).Right)).getD default).Owner), .int .i64 (((Al.findR rs ((gs.getD i default).Right)).getD default).Date), .int .i64 (((Al.findR rs ((gs.getD i default).Right)).getD default).Place), .int .i64 (((Al.findR rs ((gs.getD i default).Right)).getD default).Rate), .int .i64 (((Al.findR rs ((gs.getD i default).Right)).getD default).From), .int .i64 (((Al.findR rs ((gs.getD i default).Right)).getD default).Until), .int .i64 (((Al.findR rs ((gs.getD i default).Right)).getD default).Back), .int .i64 (((Al.findR rs ((gs.getD i default).Right)).getD default).BackTo)], .bool ((Al.findR rs ((gs.getD i default).Right)).isSome)]) rfl (q_move rfl) ?_
      refine RW.q (v := .agg #[.int .i64 (((Al.findR rs ((gs.getD i default).Right)).getD default).Id), .int .i64 (((Al.findR rs ((gs.getD i default).Right)).getD default).Owner), .int .i64 (((Al.findR rs ((gs.getD i default).Right)).getD default).Date), .int .i64 (((Al.findR rs ((gs.getD i default).Right)).getD default).Place), .int .i64 (((Al.findR rs ((gs.getD i default).Right)).getD default).Rate), .int .i64 (((Al.findR rs ((gs.getD i default).Right)).getD default).From), .int .i64 (((Al.findR rs ((gs.getD i default).Right)).getD default).Until), .int .i64 (((Al.findR rs ((gs.getD i default).Right)).getD default).Back), .int .i64 (((Al.findR rs ((gs.getD i default).Right)).getD default).BackTo)]) rfl (q_extract rfl rfl) ?_
      refine RW.q (v := .bool ((Al.findR rs ((gs.getD i default).Right)).isSome)) rfl (q_extract rfl rfl) ?_
      refine RW.eff (fun b7 : Nat => .pointer (some (⟨b7, 0, none⟩))) (fun b7 => St ⟨w, Φ, []⟩ Φ [.blk b7 45 [.int .i64 0, .int .i64 0, .int .i64 0, .int .i64 0, .int .i64 0, .int .i64 0, .int .i64 0, .int .i64 0, .int .i64 0], .blk b6 47 [.int .i64 ((gs.getD i default).Right), .int .i64 ((gs.getD i default).Litres)], .row (.slice (some ⟨b5, 0, none⟩) b.Places.length b.Places.length) 3 1 b.Places.length (O.map (Value.int .i64)), .imap b2 (fun id => (Al.findR rs id).map cellsR), .blk b1 31 [.string b.Name, v1, .int .i64 b.Cells, v3, v4, v5, v6, v7, v8, v9, .int .i64 b.Err]]) rfl (e_alloc zero45) ?_
      intro b7
      refine RW.effn (J' := St ⟨w, Φ, []⟩ Φ [.blk b7 45 [.int .i64 (((Al.findR rs ((gs.getD i default).Right)).getD default).Id), .int .i64 (((Al.findR rs ((gs.getD i default).Right)).getD default).Owner), .int .i64 (((Al.findR rs ((gs.getD i default).Right)).getD default).Date), .int .i64 (((Al.findR rs ((gs.getD i default).Right)).getD default).Place), .int .i64 (((Al.findR rs ((gs.getD i default).Right)).getD default).Rate), .int .i64 (((Al.findR rs ((gs.getD i default).Right)).getD default).From), .int .i64 (((Al.findR rs ((gs.getD i default).Right)).getD default).Until), .int .i64 (((Al.findR rs ((gs.getD i default).Right)).getD default).Back), .int .i64 (((Al.findR rs ((gs.getD i default).Right)).getD default).BackTo)], .blk b6 47 [.int .i64 ((gs.getD i default).Right), .int .i64 ((gs.getD i default).Litres)], .row (.slice (some ⟨b5, 0, none⟩) b.Places.length b.Places.length) 3 1 b.Places.length (O.map (Value.int .i64)), .imap b2 (fun id => (Al.findR rs id).map cellsR), .blk b1 31 [.string b.Name, v1, .int .i64 b.Cells, v3, v4, v5, v6, v7, v8, v9, .int .i64 b.Err]]) (e_store (v := .agg #[.int .i64 (((Al.findR rs ((gs.getD i default).Right)).getD default).Id), .int .i64 (((Al.findR rs ((gs.getD i default).Right)).getD default).Owner), .int .i64 (((Al.findR rs ((gs.getD i default).Right)).getD default).Date), .int .i64 (((Al.findR rs ((gs.getD i default).Right)).getD default).Place), .int .i64 (((Al.findR rs ((gs.getD i default).Right)).getD default).Rate), .int .i64 (((Al.findR rs ((gs.getD i default).Right)).getD default).From), .int .i64 (((Al.findR rs ((gs.getD i default).Right)).getD default).Until), .int .i64 (((Al.findR rs ((gs.getD i default).Right)).getD default).Back), .int .i64 (((Al.findR rs ((gs.getD i default).Right)).getD default).BackTo)]) 0 rfl rfl rfl sz45 rfl rfl rfl rfl rfl) ?_
      refine RW.q (v := .bool ((Al.findR rs ((gs.getD i default).Right)).isSome)) rfl (q_assign rfl) ?_
      refine RW.nil ?_
      refine Post.then_n ?_
      refine AW.seq ?_
      refine AW.seq ?_
      refine AW.region ?_
      refine RW.q (v := .bool ((Al.findR rs ((gs.getD i default).Right)).isSome)) rfl (q_move rfl) ?_
      refine RW.q (v := .bool (!((Al.findR rs ((gs.getD i default).Right)).isSome))) rfl (q_not rfl) ?_
      refine RW.q (v := .bool (!((Al.findR rs ((gs.getD i default).Right)).isSome))) rfl (q_move rfl) ?_
      refine RW.g (b := (!((Al.findR rs ((gs.getD i default).Right)).isSome))) (v := .agg #[.string b.Name, v1, .int .i64 b.Cells, v3, v4, v5, v6, v7, v8, v9, .int .i64 b.Err]) rfl rfl rfl (fun h => q_loadAgg rfl Try.underlying31 rfl sz31 rfl (Cells.blk 4 rfl)) ?_
      refine RW.g (b := (!((Al.findR rs ((gs.getD i default).Right)).isSome))) (v := .pointer (some (⟨b7, 8, none⟩))) rfl rfl rfl (fun h => q_fieldAddr rfl Try.underlying45 rfl sz3 rfl) ?_
      refine RW.g (b := (!((Al.findR rs ((gs.getD i default).Right)).isSome))) (v := .int .i64 (((Al.findR rs ((gs.getD i default).Right)).getD default).BackTo)) rfl rfl rfl (fun h => q_load (gv_pos h) Try.underlying3 rfl (Cell.blk 0 rfl rfl)) ?_
      refine RW.g (b := (!((Al.findR rs ((gs.getD i default).Right)).isSome))) (v := .bool (decide (0 ≤ ((Al.findR rs ((gs.getD i default).Right)).getD default).BackTo) && decide (((Al.findR rs ((gs.getD i default).Right)).getD default).BackTo < (b.Places.length : Int)))) rfl rfl rfl (fun h => q_call (args := #[.agg #[.string b.Name, v1, .int .i64 b.Cells, v3, v4, v5, v6, v7, v8, v9, .int .i64 b.Err], .int .i64 (((Al.findR rs ((gs.getD i default).Right)).getD default).BackTo)]) own28 rfl (args2 (gv_pos h) (gv_pos h)) (fun w1 hw1 => isPlace_c w1 (Go.K.hp w1) (Hp.le_refl _) (hB.mono hw1.phi))) ?_
      refine RW.g (b := (!((Al.findR rs ((gs.getD i default).Right)).isSome))) (v := .bool (!(decide (0 ≤ ((Al.findR rs ((gs.getD i default).Right)).getD default).BackTo) && decide (((Al.findR rs ((gs.getD i default).Right)).getD default).BackTo < (b.Places.length : Int))))) rfl rfl rfl (fun h => q_not (gv_pos h)) ?_
      refine RW.q (v := .bool ((!((Al.findR rs ((gs.getD i default).Right)).isSome)) || (!(decide (0 ≤ ((Al.findR rs ((gs.getD i default).Right)).getD default).BackTo) && decide (((Al.findR rs ((gs.getD i default).Right)).getD default).BackTo < (b.Places.length : Int)))))) rfl (q_pick rfl (fun hp => pkOrT hp) (fun hp => (gv_pos hp).trans (pkOrF hp))) ?_
      refine RW.nil ?_
      refine Post.then_n ?_
      refine AW.cond (b := (!((Al.findR rs ((gs.getD i default).Right)).isSome)) || (!(decide (0 ≤ ((Al.findR rs ((gs.getD i default).Right)).getD default).BackTo) && decide (((Al.findR rs ((gs.getD i default).Right)).getD default).BackTo < (b.Places.length : Int))))) rfl (fun hc4 => ?_) (fun hc4 => ?_)
      · simp [-List.getD_eq_getElem?_getD] at hc4
        refine AW.exit ?_
        refine Post.then_x (Post.blk_hit (Post.then_n ?_))
        refine AW.region ?_
        refine RW.q (v := .int .i64 ((i + 1 : Nat) : Int)) rfl (q_add rfl rfl (by omega) (by unfold I64; omega)) ?_
        refine RW.q (v := .int .i64 ((i + 1 : Nat) : Int)) rfl (q_move rfl) ?_
        refine RW.nil ?_
        have hsk : (Al.findR rs (gs.getD i default).Right).isSome = false ∨ ¬ (0 ≤ ((Al.findR rs (gs.getD i default).Right).getD default).BackTo ∧ ((Al.findR rs (gs.getD i default).Right).getD default).BackTo < b.Places.length) := by
          rcases hc4 with h | h
          · exact .inl (by simpa using h)
          · exact .inr (fun hh => by omega)
        exact Post.back (s' := _) (J' := _) (m' := _) (by omega) ⟨i + 1, O, rfl, rfl, rfl, (by omega), (by rw [Al.foldl_takeG _ _ hc3, ← hO, Al.backStep_skip hsk]), hOI⟩ ⟨rfl, rfl, rfl, rfl, rfl, rfl, trivial⟩ (fun _ h => StP.drop h (by exact .cons _ (.cons _ (.cons_cons _ (.cons_cons _ (.cons_cons _ (.slnil)))))))
      · simp [-List.getD_eq_getElem?_getD] at hc4
        refine AW.skip ?_
        refine Post.then_n ?_
        refine AW.seq ?_
        have hin : 0 ≤ ((Al.findR rs (gs.getD i default).Right).getD default).BackTo ∧ ((Al.findR rs (gs.getD i default).Right).getD default).BackTo < b.Places.length := by have := hc4.2; omega
        have hst := Al.backStep_take (ps := b.Places) (out := O) (gr := (gs.getD i default)) hc4.1 hin
        have hol := hOI.1
        have hsr := Al.share_rng (gs.getD i default).Litres ((Al.findR rs (gs.getD i default).Right).getD default).Back
        have hcx := Al.clamp_rng (n := (gs.getD i default).Litres) (lo := 0) (hi := Al.maxV) (by unfold Al.maxV; omega)
        have hck := Al.clamp_rng (n := ((Al.findR rs (gs.getD i default).Right).getD default).Back) (lo := 0) (hi := 1000) (by omega)
        simp only [Al.maxV] at hst hsr hcx
        refine AW.region ?_
        refine RW.q (v := .pointer (some (⟨b6, 1, none⟩))) rfl (q_fieldAddr rfl Try.underlying47 rfl sz3 rfl) ?_
        refine RW.q (v := .int .i64 ((gs.getD i default).Litres)) rfl (q_load rfl Try.underlying3 rfl (Cell.blk 1 rfl rfl)) ?_
        refine RW.q (v := .int .i64 (Al.clamp ((gs.getD i default).Litres) 0 1125899906842624)) rfl (q_call (args := #[.int .i64 ((gs.getD i default).Litres), .int .i64 0, .int .i64 1125899906842624]) own29 rfl rfl (fun w1 hw1 => Clamp_c w1 (Go.K.hp w1) (Hp.le_refl _))) ?_
        refine RW.q (v := .int .i64 (Al.clamp ((gs.getD i default).Litres) 0 1125899906842624)) rfl (q_assign rfl) ?_
        refine RW.nil ?_
        refine Post.then_n ?_
        refine AW.seq ?_
        refine AW.region ?_
        refine RW.q (v := .int .i64 (Al.clamp ((gs.getD i default).Litres) 0 1125899906842624)) rfl (q_move rfl) ?_
        refine RW.q (v := .pointer (some (⟨b7, 7, none⟩))) rfl (q_fieldAddr rfl Try.underlying45 rfl sz3 rfl) ?_
        refine RW.q (v := .int .i64 (((Al.findR rs ((gs.getD i default).Right)).getD default).Back)) rfl (q_load rfl Try.underlying3 rfl (Cell.blk 0 rfl rfl)) ?_
        refine RW.q (v := .int .i64 (Al.clamp (((Al.findR rs ((gs.getD i default).Right)).getD default).Back) 0 1000)) rfl (q_call (args := #[.int .i64 (((Al.findR rs ((gs.getD i default).Right)).getD default).Back), .int .i64 0, .int .i64 1000]) own29 rfl rfl (fun w1 hw1 => Clamp_c w1 (Go.K.hp w1) (Hp.le_refl _))) ?_
        refine RW.q (v := .tuple #[.int .i64 ((Al.clamp ((gs.getD i default).Litres) 0 1125899906842624) * (Al.clamp (((Al.findR rs ((gs.getD i default).Right)).getD default).Back) 0 1000) / 1000), .int .i64 ((Al.clamp ((gs.getD i default).Litres) 0 1125899906842624) * (Al.clamp (((Al.findR rs ((gs.getD i default).Right)).getD default).Back) 0 1000) % 1000), .bool true]) rfl (q_call (args := #[.int .i64 (Al.clamp ((gs.getD i default).Litres) 0 1125899906842624), .int .i64 (Al.clamp (((Al.findR rs ((gs.getD i default).Right)).getD default).Back) 0 1000), .int .i64 1000]) own30 rfl rfl (fun w1 hw1 => Scale_c w1 (Go.K.hp w1) (Hp.le_refl _) (by unfold Al.maxV; exact hcx) (by unfold Al.maxV; omega) (by unfold Al.maxV; omega) (Int.le_trans hsr.2.2.2 (by omega)) (by unfold Al.maxV; exact hsr.2.1))) ?_
        refine RW.q (v := .tuple #[.int .i64 ((Al.clamp ((gs.getD i default).Litres) 0 1125899906842624) * (Al.clamp (((Al.findR rs ((gs.getD i default).Right)).getD default).Back) 0 1000) / 1000), .int .i64 ((Al.clamp ((gs.getD i default).Litres) 0 1125899906842624) * (Al.clamp (((Al.findR rs ((gs.getD i default).Right)).getD default).Back) 0 1000) % 1000), .bool true]) rfl (q_move rfl) ?_
        refine RW.q (v := .int .i64 ((Al.clamp ((gs.getD i default).Litres) 0 1125899906842624) * (Al.clamp (((Al.findR rs ((gs.getD i default).Right)).getD default).Back) 0 1000) / 1000)) rfl (q_extract rfl rfl) ?_
        refine RW.q (v := .int .i64 ((Al.clamp ((gs.getD i default).Litres) 0 1125899906842624) * (Al.clamp (((Al.findR rs ((gs.getD i default).Right)).getD default).Back) 0 1000) % 1000)) rfl (q_extract rfl rfl) ?_
        refine RW.q (v := .bool true) rfl (q_extract rfl rfl) ?_
        refine RW.q (v := .int .i64 ((Al.clamp ((gs.getD i default).Litres) 0 1125899906842624) * (Al.clamp (((Al.findR rs ((gs.getD i default).Right)).getD default).Back) 0 1000) / 1000)) rfl (q_assign rfl) ?_
        refine RW.q (v := .int .i64 ((Al.clamp ((gs.getD i default).Litres) 0 1125899906842624) * (Al.clamp (((Al.findR rs ((gs.getD i default).Right)).getD default).Back) 0 1000) % 1000)) rfl (q_assign rfl) ?_
        refine RW.q (v := .bool true) rfl (q_assign rfl) ?_
        refine RW.nil ?_
        refine Post.then_n ?_
        have hB_0 := hB
        have r3_0 := r3
        have h2_0 := h2
        have h4_0 := h4
        refine AW.draw (J0 := St ⟨w, Φ, []⟩ Φ [.blk b7 45 [.int .i64 (((Al.findR rs ((gs.getD i default).Right)).getD default).Id), .int .i64 (((Al.findR rs ((gs.getD i default).Right)).getD default).Owner), .int .i64 (((Al.findR rs ((gs.getD i default).Right)).getD default).Date), .int .i64 (((Al.findR rs ((gs.getD i default).Right)).getD default).Place), .int .i64 (((Al.findR rs ((gs.getD i default).Right)).getD default).Rate), .int .i64 (((Al.findR rs ((gs.getD i default).Right)).getD default).From), .int .i64 (((Al.findR rs ((gs.getD i default).Right)).getD default).Until), .int .i64 (((Al.findR rs ((gs.getD i default).Right)).getD default).Back), .int .i64 (((Al.findR rs ((gs.getD i default).Right)).getD default).BackTo)], .blk b6 47 [.int .i64 ((gs.getD i default).Right), .int .i64 ((gs.getD i default).Litres)], .row (.slice (some ⟨b5, 0, none⟩) b.Places.length b.Places.length) 3 1 b.Places.length (O.map (Value.int .i64)), .imap b2 (fun id => (Al.findR rs id).map cellsR), .blk b1 31 [.string b.Name, v1, .int .i64 b.Cells, v3, v4, v5, v6, v7, v8, v9, .int .i64 b.Err]]) [.q, .q, .q, .q, .q, .q, .q, .q, .q, .q, .q, .e] [0, 1, 2, 3, 4, 5, 6, 7, 8, 9, 10, 11] hmix (by kernel_rfl) ?_
        refine DW.q (v := (.slice (some ⟨b5, 0, none⟩) b.Places.length b.Places.length)) (fun _ h => h) rfl (q_move rfl) ?_
        refine DW.q (v := .pointer (some (⟨b7, 8, none⟩))) (fun _ h => h) rfl (q_fieldAddr rfl Try.underlying45 rfl sz3 rfl) ?_
        refine DW.q (v := .int .i64 (((Al.findR rs ((gs.getD i default).Right)).getD default).BackTo)) (fun _ h => h) rfl (q_load rfl Try.underlying3 rfl (Cell.blk 0 rfl rfl)) ?_
        refine DW.q (v := (.slice (some ⟨b5, 0, none⟩) b.Places.length b.Places.length)) (fun _ h => h) rfl (q_move rfl) ?_
        refine DW.q (v := .pointer (some (⟨b7, 8, none⟩))) (fun _ h => h) rfl (q_fieldAddr rfl Try.underlying45 rfl sz3 rfl) ?_
        refine DW.q (v := .int .i64 (((Al.findR rs ((gs.getD i default).Right)).getD default).BackTo)) (fun _ h => h) rfl (q_load rfl Try.underlying3 rfl (Cell.blk 0 rfl rfl)) ?_
        refine DW.q (v := .pointer (some (Value.at (.slice (some ⟨b5, 0, none⟩) b.Places.length b.Places.length) (((((Al.findR rs ((gs.getD i default).Right)).getD default).BackTo).toNat) * 1)))) (fun _ h => h) rfl (q_indexAddr rfl rfl isSl_mk Try.underlying29 sz3 (by omega) (by omega) rfl) ?_
        refine DW.q (v := .int .i64 ((O).getD ((((Al.findR rs ((gs.getD i default).Right)).getD default).BackTo).toNat) 0)) (fun _ h => h) rfl (q_load rfl Try.underlying3 rfl (Cell.rowInt 2 rfl (by omega))) ?_
        refine DW.q (v := .int .i64 ((Al.clamp ((gs.getD i default).Litres) 0 1125899906842624) * (Al.clamp (((Al.findR rs ((gs.getD i default).Right)).getD default).Back) 0 1000) / 1000)) (fun _ h => h) rfl (q_move rfl) ?_
        refine DW.q (v := .int .i64 (Al.addS ((O).getD ((((Al.findR rs ((gs.getD i default).Right)).getD default).BackTo).toNat) 0) ((Al.clamp ((gs.getD i default).Litres) 0 1125899906842624) * (Al.clamp (((Al.findR rs ((gs.getD i default).Right)).getD default).Back) 0 1000) / 1000))) (fun _ h => h) rfl (q_call (args := #[.int .i64 ((O).getD ((((Al.findR rs ((gs.getD i default).Right)).getD default).BackTo).toNat) 0), .int .i64 ((Al.clamp ((gs.getD i default).Litres) 0 1125899906842624) * (Al.clamp (((Al.findR rs ((gs.getD i default).Right)).getD default).Back) 0 1000) / 1000)]) own22 rfl rfl (fun w1 hw1 => Add_c w1 (Go.K.hp w1) (Hp.le_refl _) (hOI.2 _) (by have h9 := hsr.2.1; unfold Al.Ok64 Al.minI Al.maxI; omega))) ?_
        refine DW.q (v := .pointer (some (Value.at (.slice (some ⟨b5, 0, none⟩) b.Places.length b.Places.length) (((((Al.findR rs ((gs.getD i default).Right)).getD default).BackTo).toNat) * 1)))) (fun _ h => h) rfl (q_indexAddr rfl rfl isSl_mk Try.underlying29 sz3 (by omega) (by omega) rfl) ?_
        refine DW.effn (J' := St ⟨w, Φ, []⟩ Φ [.blk b7 45 [.int .i64 (((Al.findR rs ((gs.getD i default).Right)).getD default).Id), .int .i64 (((Al.findR rs ((gs.getD i default).Right)).getD default).Owner), .int .i64 (((Al.findR rs ((gs.getD i default).Right)).getD default).Date), .int .i64 (((Al.findR rs ((gs.getD i default).Right)).getD default).Place), .int .i64 (((Al.findR rs ((gs.getD i default).Right)).getD default).Rate), .int .i64 (((Al.findR rs ((gs.getD i default).Right)).getD default).From), .int .i64 (((Al.findR rs ((gs.getD i default).Right)).getD default).Until), .int .i64 (((Al.findR rs ((gs.getD i default).Right)).getD default).Back), .int .i64 (((Al.findR rs ((gs.getD i default).Right)).getD default).BackTo)], .blk b6 47 [.int .i64 ((gs.getD i default).Right), .int .i64 ((gs.getD i default).Litres)], .row (.slice (some ⟨b5, 0, none⟩) b.Places.length b.Places.length) 3 1 b.Places.length ((O.set ((((Al.findR rs ((gs.getD i default).Right)).getD default).BackTo).toNat) (Al.addS ((O).getD ((((Al.findR rs ((gs.getD i default).Right)).getD default).BackTo).toNat) 0) ((Al.clamp ((gs.getD i default).Litres) 0 1125899906842624) * (Al.clamp (((Al.findR rs ((gs.getD i default).Right)).getD default).Back) 0 1000) / 1000))).map (Value.int .i64)), .imap b2 (fun id => (Al.findR rs id).map cellsR), .blk b1 31 [.string b.Name, v1, .int .i64 b.Cells, v3, v4, v5, v6, v7, v8, v9, .int .i64 b.Err]]) (fun h => absurd rfl h) (e_storeRow (v := .int .i64 (Al.addS ((O).getD ((((Al.findR rs ((gs.getD i default).Right)).getD default).BackTo).toNat) 0) ((Al.clamp ((gs.getD i default).Litres) 0 1125899906842624) * (Al.clamp (((Al.findR rs ((gs.getD i default).Right)).getD default).Back) 0 1000) / 1000))) 2 rfl rfl rfl sz3 rfl rfl (by simp [-List.getD_eq_getElem?_getD]; omega) (splice_int (by omega)) rfl) ?_
        refine DW.nil ?_
        refine Post.blk_n (Post.then_n ?_)
        refine AW.region ?_
        refine RW.q (v := .int .i64 ((i + 1 : Nat) : Int)) rfl (q_add rfl rfl (by omega) (by unfold I64; omega)) ?_
        refine RW.q (v := .int .i64 ((i + 1 : Nat) : Int)) rfl (q_move rfl) ?_
        refine RW.nil ?_
        exact Post.back (s' := _) (J' := _) (m' := _) (by omega) ⟨i + 1, _, rfl, rfl, rfl, (by omega), (by rw [Al.foldl_takeG _ _ hc3, ← hO, hst]), (by rw [← hst]; exact Al.backStep_oi hOI)⟩ ⟨rfl, rfl, rfl, rfl, rfl, rfl, trivial⟩ (fun _ h => StP.drop h (by exact .cons _ (.cons _ (.cons_cons _ (.cons_cons _ (.cons_cons _ (.slnil)))))))
    · simp [-List.getD_eq_getElem?_getD] at hc3
      refine AW.exit ?_
      refine Post.then_x (Post.then_x (Post.blk_hit (Post.then_n ?_)))
      refine AW.seq ?_
      refine AW.region ?_
      refine RW.q (v := (.slice (some ⟨b5, 0, none⟩) b.Places.length b.Places.length)) rfl (q_move rfl) ?_
      refine RW.q (v := (.slice (some ⟨b5, 0, none⟩) b.Places.length b.Places.length)) rfl (q_assign rfl) ?_
      refine RW.nil ?_
      refine Post.then_n ?_
      refine AW.ret ?_
      rw [List.take_of_length_le (by omega)] at hO
      have hres : Al.back b.Places rs gs = O := hO.symm
      rw [hres]
      have hol := hOI.1
      refine fin_rep rfl rfl rfl (fun w' hw => RowS.ints (row_ext hw 0 rfl) (by simp only [maxSl]; omega) (fun x hx => ?_))
      obtain ⟨j, hj, rfl⟩ := List.mem_iff_getElem.1 hx
      have h9 := hOI.2 j
      rw [List.getD_eq_getElem?_getD, List.getElem?_eq_getElem hj, Option.getD_some] at h9
      unfold Al.Ok64 Al.minI Al.maxI at h9
      unfold I64; omega

end Go.Proofs.Ytpeojogjeopfaaa
