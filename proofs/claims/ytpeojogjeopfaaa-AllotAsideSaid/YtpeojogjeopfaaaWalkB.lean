/- Walks (part WalkB), printed by walk2.py. Conditions: those of each theorem. -/
import Derived.Test.YtpeojogjeopfaaaWalkA
namespace Go.Proofs.Ytpeojogjeopfaaa
open Go Go.K Go.RowKit

set_option maxRecDepth 8000 in
set_option maxHeartbeats 1000000 in
theorem Reach_c (w : World) (Φ : Hp) (hΦ : Hp.le Φ (hp w)) {b : Bt.Basin} {cs : List Value} (hB : RepV Φ b cs) {p : Int} :
    Calls Try.prog 14 #[.agg cs.toArray, .int .i64 p] w (RetS noHp w fun r Ψ => RepSl Ψ (Al.reach b.Places p) r) := by
  obtain ⟨v1, v3, v4, v5, v6, v7, v8, v9, hcs, hBw, r1, r3, r4, r5, r6, r7, r8, r9⟩ := (show Rep.rep Φ b cs from hB)
  subst hcs
  have hpm : b.Places.length * 152 ≤ 140737488355328 := r3.max
  refine calls_of_AW (args := [.agg #[.string b.Name, v1, .int .i64 b.Cells, v3, v4, v5, v6, v7, v8, v9, .int .i64 b.Err], .int .i64 p]) Try.func14 rfl (Nat.le_of_ble_eq_true rfl) (St ⟨w, Φ, []⟩ Φ []) (StP.init w Φ hΦ []) ?_
  show AW Try.prog 42 [] _ _ _ [(0, .agg #[.string b.Name, v1, .int .i64 b.Cells, v3, v4, v5, v6, v7, v8, v9, .int .i64 b.Err]), (1, .int .i64 p)] _
  refine AW.seq ?_
  refine AW.region ?_
  refine RW.eff (fun b1 : Nat => .pointer (some (⟨b1, 0, none⟩))) (fun b1 => St ⟨w, Φ, []⟩ Φ [.blk b1 31 [.string b.Name, v1, .int .i64 b.Cells, v3, v4, v5, v6, v7, v8, v9, .int .i64 b.Err]]) rfl (e_boxA (cs := [.string b.Name, v1, .int .i64 b.Cells, v3, v4, v5, v6, v7, v8, v9, .int .i64 b.Err]) rfl) ?_
  intro b1
  refine RW.q (v := (.slice none 0 0)) rfl (q_assign rfl) ?_
  refine RW.nil ?_
  refine Post.then_n ?_
  refine AW.seq ?_
  refine AW.region ?_
  refine RW.q (v := (.slice none 0 0)) rfl (q_assign rfl) ?_
  refine RW.nil ?_
  refine Post.then_n ?_
  refine AW.seq ?_
  refine AW.region ?_
  refine RW.q (v := .pointer (some (⟨b1, 3, none⟩))) rfl (q_fieldAddr rfl Try.underlying31 rfl sz23 rfl) ?_
  refine RW.q (v := v3) rfl (q_load rfl Try.underlying23 rfl (Cell.blk 0 rfl rfl)) ?_
  refine RW.q (v := .int .i64 ((b.Places.length : Nat) : Int)) rfl (q_len_sl rfl r3.sl Try.underlying23) ?_
  refine RW.eff (fun b2 : Nat => (.slice (some ⟨b2, 0, none⟩) b.Places.length b.Places.length)) (fun b2 => St ⟨w, Φ, []⟩ Φ [.row (.slice (some ⟨b2, 0, none⟩) b.Places.length b.Places.length) 4 1 b.Places.length ((List.replicate b.Places.length false).map Value.bool), .blk b1 31 [.string b.Name, v1, .int .i64 b.Cells, v3, v4, v5, v6, v7, v8, v9, .int .i64 b.Err]]) rfl (e_makeSlice rfl rfl Try.underlying52 inf4 (by omega) (by omega) (by omega) rfl (made_bool (n := b.Places.length) (by omega))) ?_
  intro b2
  refine RW.q (v := (.slice (some ⟨b2, 0, none⟩) b.Places.length b.Places.length)) rfl (q_assign rfl) ?_
  refine RW.nil ?_
  refine Post.then_n ?_
  refine AW.seq ?_
  refine AW.block ?_
  refine AW.loop (fun s J m => ∃ (cur : Int), ∃ (L : List Int), ∃ (lv : Value), s = [(2, .pointer (some (⟨b1, 0, none⟩))), (6, (.slice (some ⟨b2, 0, none⟩) b.Places.length b.Places.length)), (1, .int .i64 cur), (5, lv)] ∧ J = St ⟨w, Φ, []⟩ Φ [.row lv 3 1 L.length (L.map (Value.int .i64)), .row (.slice (some ⟨b2, 0, none⟩) b.Places.length b.Places.length) 4 1 b.Places.length ((Al.seenL b.Places.length L).map Value.bool), .blk b1 31 [.string b.Name, v1, .int .i64 b.Cells, v3, v4, v5, v6, v7, v8, v9, .int .i64 b.Err]] ∧ m = b.Places.length - L.length ∧ (Al.RI b.Places.length L) ∧ (Al.reachGo b.Places (b.Places.length + 1 - L.length) cur L = Al.reach b.Places p) ∧ (IsSl lv L.length)) (s0 := _) (J1 := _) (m0 := _) ⟨p, [], _, rfl, rfl, rfl, Al.RI.nil, rfl, isSl_nil⟩ ⟨rfl, rfl, rfl, rfl, trivial⟩ (fun _ h => by rw [Al.seenL_nil]; exact addNil h) ?_
  rintro _ _ _ _ ⟨cur, L, lv, rfl, rfl, rfl, hRI, hgo, hlv⟩
  have hLl := hRI.len
  have hLm : L.length * 8 ≤ maxSl := by simp only [maxSl]; omega
  have hLw : ∀ x ∈ L, I64 x := fun x hx => by have := hRI.2 x hx; unfold I64; omega
  refine AW.seq ?_
  refine AW.seq ?_
  have hsl := Al.seenL_len b.Places.length L
  refine AW.region ?_
  refine RW.q (v := .agg #[.string b.Name, v1, .int .i64 b.Cells, v3, v4, v5, v6, v7, v8, v9, .int .i64 b.Err]) rfl (q_loadAgg rfl Try.underlying31 rfl sz31 rfl (Cells.blk 2 rfl)) ?_
  refine RW.q (v := .int .i64 cur) rfl (q_move rfl) ?_
  refine RW.q (v := .bool (decide (0 ≤ cur) && decide (cur < (b.Places.length : Int)))) rfl (q_call (args := #[.agg #[.string b.Name, v1, .int .i64 b.Cells, v3, v4, v5, v6, v7, v8, v9, .int .i64 b.Err], .int .i64 cur]) own28 rfl rfl (fun w1 hw1 => isPlace_c w1 (Go.K.hp w1) (Hp.le_refl _) (hB.mono hw1.phi))) ?_
  refine RW.q (v := .bool (decide (0 ≤ cur) && decide (cur < (b.Places.length : Int)))) rfl (q_move rfl) ?_
  refine RW.g (b := (decide (0 ≤ cur) && decide (cur < (b.Places.length : Int)))) (v := (.slice (some ⟨b2, 0, none⟩) b.Places.length b.Places.length)) rfl rfl rfl (fun h => q_move rfl) ?_
  refine RW.g (b := (decide (0 ≤ cur) && decide (cur < (b.Places.length : Int)))) (v := .int .i64 cur) rfl rfl rfl (fun h => q_move rfl) ?_
  refine RW.g (b := (decide (0 ≤ cur) && decide (cur < (b.Places.length : Int)))) (v := .pointer (some (Value.at (.slice (some ⟨b2, 0, none⟩) b.Places.length b.Places.length) (cur.toNat * 1)))) rfl rfl rfl (fun h => q_indexAddr (gv_pos h) (gv_pos h) isSl_mk Try.underlying52 sz4 (by (try simp [-List.getD_eq_getElem?_getD] at h); omega) (by (try simp [-List.getD_eq_getElem?_getD] at h); omega) rfl) ?_
  refine RW.g (b := (decide (0 ≤ cur) && decide (cur < (b.Places.length : Int)))) (v := .bool ((Al.seenL b.Places.length L).getD cur.toNat false)) rfl rfl rfl (fun h => q_load (gv_pos h) Try.underlying4 rfl (Cell.rowBool 1 rfl (by (try simp [-List.getD_eq_getElem?_getD] at h); omega))) ?_
  refine RW.g (b := (decide (0 ≤ cur) && decide (cur < (b.Places.length : Int)))) (v := .bool (!((Al.seenL b.Places.length L).getD cur.toNat false))) rfl rfl rfl (fun h => q_not (gv_pos h)) ?_
  refine RW.q (v := .bool ((decide (0 ≤ cur) && decide (cur < (b.Places.length : Int))) && (!((Al.seenL b.Places.length L).getD cur.toNat false)))) rfl (q_pick rfl (fun hp => (gv_pos hp).trans (pkAndT hp)) (fun hp => pkAndF hp)) ?_
  refine RW.nil ?_
  refine Post.then_n ?_
  refine AW.cond (b := (decide (0 ≤ cur) && decide (cur < (b.Places.length : Int))) && (!((Al.seenL b.Places.length L).getD cur.toNat false))) rfl (fun hc1 => ?_) (fun hc1 => ?_)
  · simp [-List.getD_eq_getElem?_getD] at hc1
    refine AW.skip ?_
    refine Post.then_n ?_
    refine AW.block ?_
    refine AW.seq ?_
    have hin : 0 ≤ cur ∧ cur < b.Places.length := hc1.1
    have hnL : cur ∉ L := by
      have h := hc1.2
      rw [Al.seenL_get (by omega), Int.toNat_of_nonneg hin.1] at h
      simpa using h
    have hLs := (hRI.snoc hin hnL).len
    rw [List.length_append, List.length_singleton] at hLs
    refine AW.region ?_
    refine RW.q (v := (.slice (some ⟨b2, 0, none⟩) b.Places.length b.Places.length)) rfl (q_move rfl) ?_
    refine RW.q (v := .int .i64 cur) rfl (q_move rfl) ?_
    refine RW.q (v := .pointer (some (Value.at (.slice (some ⟨b2, 0, none⟩) b.Places.length b.Places.length) (cur.toNat * 1)))) rfl (q_indexAddr rfl rfl isSl_mk Try.underlying52 sz4 (by omega) (by omega) rfl) ?_
    refine RW.effn (J' := St ⟨w, Φ, []⟩ Φ [.row lv 3 1 L.length (L.map (Value.int .i64)), .row (.slice (some ⟨b2, 0, none⟩) b.Places.length b.Places.length) 4 1 b.Places.length (((Al.seenL b.Places.length L).set cur.toNat true).map Value.bool), .blk b1 31 [.string b.Name, v1, .int .i64 b.Cells, v3, v4, v5, v6, v7, v8, v9, .int .i64 b.Err]]) (e_storeRow (v := .bool true) 1 rfl rfl rfl sz4 rfl rfl (by simp [-List.getD_eq_getElem?_getD]; omega) (splice_bool (by omega)) rfl) ?_
    refine RW.nil ?_
    refine Post.then_n ?_
    refine AW.seq ?_
    refine AW.region ?_
    refine RW.q (v := lv) rfl (q_move rfl) ?_
    refine RW.q (v := .int .i64 cur) rfl (q_move rfl) ?_
    refine RW.eff (fun b3 : Nat => (.slice (some ⟨b3, 0, none⟩) 1 1)) (fun b3 => St ⟨w, Φ, []⟩ Φ [.row (.slice (some ⟨b3, 0, none⟩) 1 1) 3 1 1 ([.int .i64 cur]), .row lv 3 1 L.length (L.map (Value.int .i64)), .row (.slice (some ⟨b2, 0, none⟩) b.Places.length b.Places.length) 4 1 b.Places.length (((Al.seenL b.Places.length L).set cur.toNat true).map Value.bool), .blk b1 31 [.string b.Name, v1, .int .i64 b.Cells, v3, v4, v5, v6, v7, v8, v9, .int .i64 b.Err]]) rfl (e_buildSlice (vals := [(0, .int .i64 cur)]) (cells := [.int .i64 cur]) Try.underlying29 inf3 rfl rfl rfl (by kernel_rfl) rfl) ?_
    intro b3
    refine RW.eff (fun xv : {vq : Value // IsSl vq (L.length + 1)} => xv.1) (fun xv => St ⟨w, Φ, []⟩ Φ [.row (.slice (some ⟨b3, 0, none⟩) 1 1) 3 1 1 ([.int .i64 cur]), .row xv.1 3 1 ((L ++ [cur]).length) ((L ++ [cur]).map (Value.int .i64)), .row (.slice (some ⟨b2, 0, none⟩) b.Places.length b.Places.length) 4 1 b.Places.length (((Al.seenL b.Places.length L).set cur.toNat true).map Value.bool), .blk b1 31 [.string b.Name, v1, .int .i64 b.Cells, v3, v4, v5, v6, v7, v8, v9, .int .i64 b.Err]]) rfl (e_append 1 rfl rfl rfl Try.underlying29 inf3 rfl rfl rfl (Cells.row0 0 rfl) rfl (by omega) (by omega) (fun _ => by simp)) ?_
    rintro ⟨va1, hva1⟩
    refine RW.wk (J' := St ⟨w, Φ, []⟩ Φ [.row va1 3 1 ((L ++ [cur]).length) ((L ++ [cur]).map (Value.int .i64)), .row (.slice (some ⟨b2, 0, none⟩) b.Places.length b.Places.length) 4 1 b.Places.length (((Al.seenL b.Places.length L).set cur.toNat true).map Value.bool), .blk b1 31 [.string b.Name, v1, .int .i64 b.Cells, v3, v4, v5, v6, v7, v8, v9, .int .i64 b.Err]]) (fun _ h => StP.drop h (by exact .cons _ (.cons_cons _ (.cons_cons _ (.cons_cons _ (.slnil)))))) ?_
    refine RW.q (v := va1) rfl (q_assign rfl) ?_
    refine RW.nil ?_
    refine Post.then_n ?_
    refine AW.seq ?_
    refine AW.seq ?_
    refine AW.region ?_
    refine RW.q (v := .pointer (some (⟨b1, 3, none⟩))) rfl (q_fieldAddr rfl Try.underlying31 rfl sz23 rfl) ?_
    refine RW.q (v := v3) rfl (q_load rfl Try.underlying23 rfl (Cell.blk 2 rfl rfl)) ?_
    refine RW.q (v := .int .i64 cur) rfl (q_move rfl) ?_
    refine RW.q (v := .pointer (some (Value.at v3 (cur.toNat * 12)))) rfl (q_indexAddr rfl rfl r3.sl Try.underlying23 sz62 (by omega) (by omega) rfl) ?_
    refine RW.q (v := .pointer (some (Value.at v3 (cur.toNat * 12 + 9)))) rfl (q_fieldAddr rfl Try.underlying62 rfl sz3 at_add) ?_
    refine RW.q (v := .int .i64 ((b.Places.getD cur.toNat default).Delay)) rfl (q_load rfl Try.underlying3 rfl (Cell.repJ (j := 9) r3 (by omega) (fun h => leaf62_9 h))) ?_
    refine RW.q (v := .bool (decide ((24 : Int) ≤ (b.Places.getD cur.toNat default).Delay))) rfl (q_geq rfl rfl) ?_
    refine RW.nil ?_
    refine Post.then_n ?_
    refine AW.cond (b := decide ((24 : Int) ≤ (b.Places.getD cur.toNat default).Delay)) rfl (fun hc2 => ?_) (fun hc2 => ?_)
    · simp [-List.getD_eq_getElem?_getD] at hc2
      refine AW.exit ?_
      refine Post.then_x (Post.blk_miss rfl (Post.then_x (Post.blk_hit (Post.then_n ?_))))
      refine AW.seq ?_
      refine AW.region ?_
      refine RW.q (v := va1) rfl (q_move rfl) ?_
      refine RW.q (v := va1) rfl (q_assign rfl) ?_
      refine RW.nil ?_
      refine Post.then_n ?_
      refine AW.ret ?_
      have hres : Al.reach b.Places p = L ++ [cur] := hgo.symm.trans (Al.reach_last hRI hin hnL hc2)
      rw [hres]
      refine fin_rep rfl rfl rfl (fun w' hw => RowS.ints (row_ext hw 0 rfl) (by simp only [maxSl, List.length_append, List.length_singleton]; omega) (fun x hx => ?_))
      have hx : x ∈ L ++ [cur] := hx
      have hxr : 0 ≤ x ∧ x < b.Places.length := by
        exact (hRI.snoc hin hnL).2 x hx
      unfold I64; omega
    · simp [-List.getD_eq_getElem?_getD] at hc2
      refine AW.skip ?_
      refine Post.then_n ?_
      refine AW.region ?_
      refine RW.q (v := .pointer (some (⟨b1, 3, none⟩))) rfl (q_fieldAddr rfl Try.underlying31 rfl sz23 rfl) ?_
      refine RW.q (v := v3) rfl (q_load rfl Try.underlying23 rfl (Cell.blk 2 rfl rfl)) ?_
      refine RW.q (v := .int .i64 cur) rfl (q_move rfl) ?_
      refine RW.q (v := .pointer (some (Value.at v3 (cur.toNat * 12)))) rfl (q_indexAddr rfl rfl r3.sl Try.underlying23 sz62 (by omega) (by omega) rfl) ?_
      refine RW.q (v := .pointer (some (Value.at v3 (cur.toNat * 12 + 8)))) rfl (q_fieldAddr rfl Try.underlying62 rfl sz3 at_add) ?_
      refine RW.q (v := .int .i64 ((b.Places.getD cur.toNat default).Down)) rfl (q_load rfl Try.underlying3 rfl (Cell.repJ (j := 8) r3 (by omega) (fun h => leaf62_8 h))) ?_
      refine RW.q (v := .int .i64 ((b.Places.getD cur.toNat default).Down)) rfl (q_assign rfl) ?_
      refine RW.nil ?_
      refine Post.blk_n ?_
      exact Post.back (s' := _) (J' := _) (m' := _) (by simp; omega) ⟨(b.Places.getD cur.toNat default).Down, L ++ [cur], va1, rfl, rfl, rfl, (hRI.snoc hin hnL), (by rw [← hgo, Al.reach_step hRI hin hnL hc2]), (by simpa using hva1)⟩ ⟨rfl, rfl, rfl, rfl, trivial⟩ (fun _ h => by rw [← Al.seenL_set hin]; simpa using h)
  · simp [-List.getD_eq_getElem?_getD] at hc1
    refine AW.exit ?_
    refine Post.then_x (Post.then_x (Post.blk_hit (Post.then_n ?_)))
    refine AW.seq ?_
    have hns : ¬ ((0 ≤ cur ∧ cur < b.Places.length) ∧ cur ∉ L) := fun h => by
      have h2 := hc1 h.1.1 h.1.2
      rw [Al.seenL_get (by omega), Int.toNat_of_nonneg h.1.1] at h2
      exact h.2 (by simpa using h2)
    refine AW.region ?_
    refine RW.q (v := lv) rfl (q_move rfl) ?_
    refine RW.q (v := lv) rfl (q_assign rfl) ?_
    refine RW.nil ?_
    refine Post.then_n ?_
    refine AW.ret ?_
    have hres : Al.reach b.Places p = L := hgo.symm.trans (Al.reach_stop hRI hns)
    rw [hres]
    refine fin_rep rfl rfl rfl (fun w' hw => RowS.ints (row_ext hw 0 rfl) (by simp only [maxSl]; omega) (fun x hx => ?_))
    have hx : x ∈ L := hx
    have hxr : 0 ≤ x ∧ x < b.Places.length := by
      exact hRI.2 x hx
    unfold I64; omega

set_option maxRecDepth 8000 in
set_option maxHeartbeats 1000000 in
theorem rReach_c (w : World) (Φ : Hp) (hΦ : Hp.le Φ (hp w)) {b : Bt.Basin} {cs : List Value} (hB : RepV Φ b cs) {p : Int} :
    Calls Try.prog 15 #[.agg cs.toArray, .int .i64 p] w (RetS noHp w fun r Ψ => RepSl Ψ (Al.reach b.Places p) r) := by
  obtain ⟨v1, v3, v4, v5, v6, v7, v8, v9, hcs, hBw, r1, r3, r4, r5, r6, r7, r8, r9⟩ := (show Rep.rep Φ b cs from hB)
  subst hcs
  have hpm : b.Places.length * 152 ≤ 140737488355328 := r3.max
  refine calls_of_AW (args := [.agg #[.string b.Name, v1, .int .i64 b.Cells, v3, v4, v5, v6, v7, v8, v9, .int .i64 b.Err], .int .i64 p]) Try.func15 rfl (Nat.le_of_ble_eq_true rfl) (St ⟨w, Φ, []⟩ Φ []) (StP.init w Φ hΦ []) ?_
  show AW Try.prog 40 [] _ _ _ [(0, .agg #[.string b.Name, v1, .int .i64 b.Cells, v3, v4, v5, v6, v7, v8, v9, .int .i64 b.Err]), (1, .int .i64 p)] _
  refine AW.seq ?_
  refine AW.region ?_
  refine RW.eff (fun b1 : Nat => .pointer (some (⟨b1, 0, none⟩))) (fun b1 => St ⟨w, Φ, []⟩ Φ [.blk b1 31 [.string b.Name, v1, .int .i64 b.Cells, v3, v4, v5, v6, v7, v8, v9, .int .i64 b.Err]]) rfl (e_boxA (cs := [.string b.Name, v1, .int .i64 b.Cells, v3, v4, v5, v6, v7, v8, v9, .int .i64 b.Err]) rfl) ?_
  intro b1
  refine RW.q (v := (.slice none 0 0)) rfl (q_assign rfl) ?_
  refine RW.nil ?_
  refine Post.then_n ?_
  refine AW.seq ?_
  refine AW.region ?_
  refine RW.q (v := (.slice none 0 0)) rfl (q_assign rfl) ?_
  refine RW.nil ?_
  refine Post.then_n ?_
  refine AW.seq ?_
  refine AW.block ?_
  refine AW.loop (fun s J m => ∃ (cur : Int), ∃ (L : List Int), ∃ (lv : Value), s = [(2, .pointer (some (⟨b1, 0, none⟩))), (1, .int .i64 cur), (5, lv)] ∧ J = St ⟨w, Φ, []⟩ Φ [.row lv 3 1 L.length (L.map (Value.int .i64)), .blk b1 31 [.string b.Name, v1, .int .i64 b.Cells, v3, v4, v5, v6, v7, v8, v9, .int .i64 b.Err]] ∧ m = b.Places.length - L.length ∧ (Al.RI b.Places.length L) ∧ (Al.reachGo b.Places (b.Places.length + 1 - L.length) cur L = Al.reach b.Places p) ∧ (IsSl lv L.length)) (s0 := _) (J1 := _) (m0 := _) ⟨p, [], _, rfl, rfl, rfl, Al.RI.nil, rfl, isSl_nil⟩ ⟨rfl, rfl, rfl, trivial⟩ (fun _ h => addNil h) ?_
  rintro _ _ _ _ ⟨cur, L, lv, rfl, rfl, rfl, hRI, hgo, hlv⟩
  have hLl := hRI.len
  have hLm : L.length * 8 ≤ maxSl := by simp only [maxSl]; omega
  have hLw : ∀ x ∈ L, I64 x := fun x hx => by have := hRI.2 x hx; unfold I64; omega
  refine AW.seq ?_
  refine AW.seq ?_
  refine AW.region ?_
  refine RW.q (v := .int .i64 cur) rfl (q_move rfl) ?_
  refine RW.q (v := .bool (decide ((0 : Int) ≤ cur))) rfl (q_geq rfl rfl) ?_
  refine RW.q (v := .bool (decide ((0 : Int) ≤ cur))) rfl (q_move rfl) ?_
  refine RW.g (b := (decide ((0 : Int) ≤ cur))) (v := .int .i64 cur) rfl rfl rfl (fun h => q_move rfl) ?_
  refine RW.g (b := (decide ((0 : Int) ≤ cur))) (v := .pointer (some (⟨b1, 3, none⟩))) rfl rfl rfl (fun h => q_fieldAddr rfl Try.underlying31 rfl sz23 rfl) ?_
  refine RW.g (b := (decide ((0 : Int) ≤ cur))) (v := v3) rfl rfl rfl (fun h => q_load (gv_pos h) Try.underlying23 rfl (Cell.blk 1 rfl rfl)) ?_
  refine RW.g (b := (decide ((0 : Int) ≤ cur))) (v := .int .i64 ((b.Places.length : Nat) : Int)) rfl rfl rfl (fun h => q_len_sl (gv_pos h) r3.sl Try.underlying23) ?_
  refine RW.g (b := (decide ((0 : Int) ≤ cur))) (v := .bool (decide (cur < ((b.Places.length : Nat) : Int)))) rfl rfl rfl (fun h => q_lss (gv_pos h) (gv_pos h)) ?_
  refine RW.q (v := .bool ((decide ((0 : Int) ≤ cur)) && (decide (cur < ((b.Places.length : Nat) : Int))))) rfl (q_pick rfl (fun hp => (gv_pos hp).trans (pkAndT hp)) (fun hp => pkAndF hp)) ?_
  refine RW.q (v := .bool ((decide ((0 : Int) ≤ cur)) && (decide (cur < ((b.Places.length : Nat) : Int))))) rfl (q_move rfl) ?_
  refine RW.g (b := ((decide ((0 : Int) ≤ cur)) && (decide (cur < ((b.Places.length : Nat) : Int))))) (v := lv) rfl rfl rfl (fun h => q_move rfl) ?_
  refine RW.g (b := ((decide ((0 : Int) ≤ cur)) && (decide (cur < ((b.Places.length : Nat) : Int))))) (v := .int .i64 cur) rfl rfl rfl (fun h => q_move rfl) ?_
  refine RW.g (b := ((decide ((0 : Int) ≤ cur)) && (decide (cur < ((b.Places.length : Nat) : Int))))) (v := .bool (decide (cur ∈ L))) rfl rfl rfl (fun h => q_call (args := #[lv, .int .i64 cur]) own21 rfl (args2 (gv_pos h) (gv_pos h)) (fun w1 hw1 => Has_c w1 (Go.K.hp w1) (Hp.le_refl _) (RowS.ints (xs := L) (show RowS (Go.K.hp w1) lv 3 1 (L.length) (L.map (Value.int .i64)) from hw1.sat _ (List.mem_of_getElem? (i := 0) rfl)) hLm hLw))) ?_
  refine RW.g (b := ((decide ((0 : Int) ≤ cur)) && (decide (cur < ((b.Places.length : Nat) : Int))))) (v := .bool (!(decide (cur ∈ L)))) rfl rfl rfl (fun h => q_not (gv_pos h)) ?_
  refine RW.q (v := .bool (((decide ((0 : Int) ≤ cur)) && (decide (cur < ((b.Places.length : Nat) : Int)))) && (!(decide (cur ∈ L))))) rfl (q_pick rfl (fun hp => (gv_pos hp).trans (pkAndT hp)) (fun hp => pkAndF hp)) ?_
  refine RW.nil ?_
  refine Post.then_n ?_
  refine AW.cond (b := ((decide ((0 : Int) ≤ cur)) && (decide (cur < ((b.Places.length : Nat) : Int)))) && (!(decide (cur ∈ L)))) rfl (fun hc1 => ?_) (fun hc1 => ?_)
  · simp [-List.getD_eq_getElem?_getD] at hc1
    refine AW.skip ?_
    refine Post.then_n ?_
    refine AW.block ?_
    refine AW.seq ?_
    have hin : 0 ≤ cur ∧ cur < b.Places.length := hc1.1
    have hnL : cur ∉ L := hc1.2
    have hLs := (hRI.snoc hin hnL).len
    rw [List.length_append, List.length_singleton] at hLs
    refine AW.region ?_
    refine RW.q (v := lv) rfl (q_move rfl) ?_
    refine RW.q (v := .int .i64 cur) rfl (q_move rfl) ?_
    refine RW.eff (fun b2 : Nat => (.slice (some ⟨b2, 0, none⟩) 1 1)) (fun b2 => St ⟨w, Φ, []⟩ Φ [.row (.slice (some ⟨b2, 0, none⟩) 1 1) 3 1 1 ([.int .i64 cur]), .row lv 3 1 L.length (L.map (Value.int .i64)), .blk b1 31 [.string b.Name, v1, .int .i64 b.Cells, v3, v4, v5, v6, v7, v8, v9, .int .i64 b.Err]]) rfl (e_buildSlice (vals := [(0, .int .i64 cur)]) (cells := [.int .i64 cur]) Try.underlying29 inf3 rfl rfl rfl (by kernel_rfl) rfl) ?_
    intro b2
    refine RW.eff (fun xv : {vq : Value // IsSl vq (L.length + 1)} => xv.1) (fun xv => St ⟨w, Φ, []⟩ Φ [.row (.slice (some ⟨b2, 0, none⟩) 1 1) 3 1 1 ([.int .i64 cur]), .row xv.1 3 1 ((L ++ [cur]).length) ((L ++ [cur]).map (Value.int .i64)), .blk b1 31 [.string b.Name, v1, .int .i64 b.Cells, v3, v4, v5, v6, v7, v8, v9, .int .i64 b.Err]]) rfl (e_append 1 rfl rfl rfl Try.underlying29 inf3 rfl rfl rfl (Cells.row0 0 rfl) rfl (by omega) (by omega) (fun _ => by simp)) ?_
    rintro ⟨va1, hva1⟩
    refine RW.wk (J' := St ⟨w, Φ, []⟩ Φ [.row va1 3 1 ((L ++ [cur]).length) ((L ++ [cur]).map (Value.int .i64)), .blk b1 31 [.string b.Name, v1, .int .i64 b.Cells, v3, v4, v5, v6, v7, v8, v9, .int .i64 b.Err]]) (fun _ h => StP.drop h (by exact .cons _ (.cons_cons _ (.cons_cons _ (.slnil))))) ?_
    refine RW.q (v := va1) rfl (q_assign rfl) ?_
    refine RW.nil ?_
    refine Post.then_n ?_
    refine AW.seq ?_
    refine AW.seq ?_
    refine AW.region ?_
    refine RW.q (v := .pointer (some (⟨b1, 3, none⟩))) rfl (q_fieldAddr rfl Try.underlying31 rfl sz23 rfl) ?_
    refine RW.q (v := v3) rfl (q_load rfl Try.underlying23 rfl (Cell.blk 1 rfl rfl)) ?_
    refine RW.q (v := .int .i64 cur) rfl (q_move rfl) ?_
    refine RW.q (v := .pointer (some (Value.at v3 (cur.toNat * 12)))) rfl (q_indexAddr rfl rfl r3.sl Try.underlying23 sz62 (by omega) (by omega) rfl) ?_
    refine RW.q (v := .pointer (some (Value.at v3 (cur.toNat * 12 + 9)))) rfl (q_fieldAddr rfl Try.underlying62 rfl sz3 at_add) ?_
    refine RW.q (v := .int .i64 ((b.Places.getD cur.toNat default).Delay)) rfl (q_load rfl Try.underlying3 rfl (Cell.repJ (j := 9) r3 (by omega) (fun h => leaf62_9 h))) ?_
    refine RW.q (v := .bool (decide ((24 : Int) ≤ (b.Places.getD cur.toNat default).Delay))) rfl (q_geq rfl rfl) ?_
    refine RW.nil ?_
    refine Post.then_n ?_
    refine AW.cond (b := decide ((24 : Int) ≤ (b.Places.getD cur.toNat default).Delay)) rfl (fun hc2 => ?_) (fun hc2 => ?_)
    · simp [-List.getD_eq_getElem?_getD] at hc2
      refine AW.seq ?_
      refine AW.region ?_
      refine RW.q (v := va1) rfl (q_move rfl) ?_
      refine RW.q (v := va1) rfl (q_assign rfl) ?_
      refine RW.nil ?_
      refine Post.then_n ?_
      refine AW.ret ?_
      refine Post.then_r (Post.blk_r (Post.then_r (Post.blk_r (Post.then_r ?_))))
      have hres : Al.reach b.Places p = L ++ [cur] := hgo.symm.trans (Al.reach_last hRI hin hnL hc2)
      rw [hres]
      refine fin_rep rfl rfl rfl (fun w' hw => RowS.ints (row_ext hw 0 rfl) (by simp only [maxSl, List.length_append, List.length_singleton]; omega) (fun x hx => ?_))
      have hx : x ∈ L ++ [cur] := hx
      have hxr : 0 ≤ x ∧ x < b.Places.length := by
        exact (hRI.snoc hin hnL).2 x hx
      unfold I64; omega
    · simp [-List.getD_eq_getElem?_getD] at hc2
      refine AW.skip ?_
      refine Post.then_n ?_
      refine AW.region ?_
      refine RW.q (v := .pointer (some (⟨b1, 3, none⟩))) rfl (q_fieldAddr rfl Try.underlying31 rfl sz23 rfl) ?_
      refine RW.q (v := v3) rfl (q_load rfl Try.underlying23 rfl (Cell.blk 1 rfl rfl)) ?_
      refine RW.q (v := .int .i64 cur) rfl (q_move rfl) ?_
      refine RW.q (v := .pointer (some (Value.at v3 (cur.toNat * 12)))) rfl (q_indexAddr rfl rfl r3.sl Try.underlying23 sz62 (by omega) (by omega) rfl) ?_
      refine RW.q (v := .pointer (some (Value.at v3 (cur.toNat * 12 + 8)))) rfl (q_fieldAddr rfl Try.underlying62 rfl sz3 at_add) ?_
      refine RW.q (v := .int .i64 ((b.Places.getD cur.toNat default).Down)) rfl (q_load rfl Try.underlying3 rfl (Cell.repJ (j := 8) r3 (by omega) (fun h => leaf62_8 h))) ?_
      refine RW.q (v := .int .i64 ((b.Places.getD cur.toNat default).Down)) rfl (q_assign rfl) ?_
      refine RW.nil ?_
      refine Post.blk_n ?_
      exact Post.back (s' := _) (J' := _) (m' := _) (by simp; omega) ⟨(b.Places.getD cur.toNat default).Down, L ++ [cur], va1, rfl, rfl, rfl, (hRI.snoc hin hnL), (by rw [← hgo, Al.reach_step hRI hin hnL hc2]), (by simpa using hva1)⟩ ⟨rfl, rfl, rfl, trivial⟩ (fun _ h => by simpa using h)
  · simp [-List.getD_eq_getElem?_getD] at hc1
    refine AW.exit ?_
    refine Post.then_x (Post.then_x (Post.blk_hit (Post.then_n ?_)))
    refine AW.seq ?_
    have hns : ¬ ((0 ≤ cur ∧ cur < b.Places.length) ∧ cur ∉ L) := fun h => h.2 (hc1 h.1.1 h.1.2)
    refine AW.region ?_
    refine RW.q (v := lv) rfl (q_move rfl) ?_
    refine RW.q (v := lv) rfl (q_assign rfl) ?_
    refine RW.nil ?_
    refine Post.then_n ?_
    refine AW.ret ?_
    have hres : Al.reach b.Places p = L := hgo.symm.trans (Al.reach_stop hRI hns)
    rw [hres]
    refine fin_rep rfl rfl rfl (fun w' hw => RowS.ints (row_ext hw 0 rfl) (by simp only [maxSl]; omega) (fun x hx => ?_))
    have hx : x ∈ L := hx
    have hxr : 0 ≤ x ∧ x < b.Places.length := by
      exact hRI.2 x hx
    unfold I64; omega

set_option maxRecDepth 8000 in
set_option maxHeartbeats 1000000 in
theorem least_c (w : World) (Φ : Hp) (hΦ : Hp.le Φ (hp w)) {xs : List Int} {v1 : Value} {n : Int} (h1 : RepSl Φ xs v1) :
    Calls Try.prog 27 #[.int .i64 n, v1] w fun e w' => e = .returned (.int .i64 (xs.foldl min n)) ∧ Below w.heap.size w w' := by
  refine calls_of_AW (args := [.int .i64 n, v1]) Try.func27 rfl (Nat.le_of_ble_eq_true rfl) (St ⟨w, Φ, []⟩ Φ []) (StP.init w Φ hΦ []) ?_
  show AW Try.prog 18 [] _ _ _ [(0, .int .i64 n), (1, v1)] _
  have hm1 : xs.length * 8 ≤ 140737488355328 := h1.max
  refine AW.seq ?_
  refine AW.region ?_
  refine RW.q (v := .int .i64 0) rfl (q_assign rfl) ?_
  refine RW.nil ?_
  refine Post.then_n ?_
  refine AW.seq ?_
  refine AW.seq ?_
  refine AW.region ?_
  refine RW.q (v := v1) rfl (q_move rfl) ?_
  refine RW.q (v := .int .i64 ((xs.length : Nat) : Int)) rfl (q_len_sl rfl h1.sl Try.underlying29) ?_
  refine RW.q (v := .int .i64 0) rfl (q_move rfl) ?_
  refine RW.nil ?_
  refine Post.then_n ?_
  refine AW.block ?_
  refine AW.loop (fun s J m => ∃ (k : Nat), s = [(7, v1), (8, .int .i64 ((xs.length : Nat) : Int)), (0, .int .i64 ((xs.take k).foldl min n)), (9, .int .i64 (k : Int))] ∧ J = St ⟨w, Φ, []⟩ Φ [] ∧ m = xs.length - k ∧ (k ≤ xs.length)) (s0 := _) (J1 := _) (m0 := _) ⟨0, rfl, rfl, rfl, (by omega)⟩ ⟨rfl, rfl, rfl, rfl, trivial⟩ (fun _ h => h) ?_
  rintro _ _ _ _ ⟨k, rfl, rfl, rfl, hk⟩
  refine AW.seq ?_
  refine AW.region ?_
  refine RW.q (v := .bool (decide ((k : Int) < ((xs.length : Nat) : Int)))) rfl (q_lss rfl rfl) ?_
  refine RW.nil ?_
  refine Post.then_n ?_
  refine AW.seq ?_
  refine AW.cond (b := decide ((k : Int) < ((xs.length : Nat) : Int))) rfl (fun hc1 => ?_) (fun hc1 => ?_)
  · simp [-List.getD_eq_getElem?_getD] at hc1
    refine AW.skip ?_
    refine Post.then_n ?_
    refine AW.seq ?_
    refine AW.block ?_
    refine AW.seq ?_
    refine AW.region ?_
    refine RW.q (v := .pointer (some (Value.at v1 (k * 1)))) rfl (q_indexAddr rfl rfl h1.sl Try.underlying29 sz3 (by omega) (by omega) rfl) ?_
    refine RW.q (v := .int .i64 (xs.getD k 0)) rfl (q_load rfl Try.underlying3 rfl (Cell.repInt h1 (by omega))) ?_
    refine RW.q (v := .int .i64 (xs.getD k 0)) rfl (q_assign rfl) ?_
    refine RW.nil ?_
    refine Post.then_n ?_
    refine AW.region ?_
    refine RW.q (v := .int .i64 ((xs.take k).foldl min n)) rfl (q_move rfl) ?_
    refine RW.q (v := .int .i64 (xs.getD k 0)) rfl (q_move rfl) ?_
    refine RW.q (v := .int .i64 ((xs.take (k + 1)).foldl min n)) rfl (q_as (v := .int .i64 (min ((xs.take k).foldl min n) (xs.getD k 0))) (q_min rfl rfl) (congrArg (Value.int .i64) ((Al.foldl_take min n (by omega)).symm))) ?_
    refine RW.q (v := .int .i64 ((xs.take (k + 1)).foldl min n)) rfl (q_assign rfl) ?_
    refine RW.nil ?_
    refine Post.blk_n (Post.then_n ?_)
    refine AW.region ?_
    refine RW.q (v := .int .i64 ((k + 1 : Nat) : Int)) rfl (q_add rfl rfl (by omega) (by unfold I64; omega)) ?_
    refine RW.q (v := .int .i64 ((k + 1 : Nat) : Int)) rfl (q_move rfl) ?_
    refine RW.nil ?_
    exact Post.back (s' := _) (J' := _) (m' := _) (by omega) ⟨k + 1, rfl, rfl, rfl, (by omega)⟩ ⟨rfl, rfl, rfl, rfl, trivial⟩ (fun _ h => h)
  · simp [-List.getD_eq_getElem?_getD] at hc1
    refine AW.exit ?_
    refine Post.then_x (Post.then_x (Post.blk_hit (Post.then_n ?_)))
    refine AW.seq ?_
    refine AW.region ?_
    refine RW.q (v := .int .i64 ((xs.take k).foldl min n)) rfl (q_move rfl) ?_
    refine RW.q (v := .int .i64 ((xs.take k).foldl min n)) rfl (q_assign rfl) ?_
    refine RW.nil ?_
    refine Post.then_n ?_
    refine AW.ret ?_
    exact fin_val (v' := .int .i64 ((xs.take k).foldl min n)) rfl rfl rfl (by rw [List.take_of_length_le (by omega)])

end Go.Proofs.Ytpeojogjeopfaaa
