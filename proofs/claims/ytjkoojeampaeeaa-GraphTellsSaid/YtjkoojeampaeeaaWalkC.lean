/- The walks of layer 11 (part WalkC), printed by walk.py. Conditions: those of each theorem. -/
import Derived.Test.YtjkoojeampaeeaaWalkB
namespace Go.Proofs.Ytjkoojeampaeeaa
open Go Go.K Go.RowKit

theorem visit_t {u w : Int} {d q : List Int} (h : d.getD w.toNat 0 < 0) : Gr.visit u (d, q) w = (d.set w.toNat (d.getD u.toNat 0 + 1), q ++ [w]) := by unfold Gr.visit; rw [if_pos h]
theorem visit_f {u w : Int} {d q : List Int} (h : 0 ≤ d.getD w.toNat 0) : Gr.visit u (d, q) w = (d, q) := by unfold Gr.visit; rw [if_neg (by simp only; omega)]
/-- the chunks of the search -/
abbrev CS (b5 b4 b2 n : Nat) (u : Int) (dv : Value) (x : Gr.St) (qv : Value) : List Chunk := [.blk b5 3 [.int .i64 u], .blk b4 25 [qv], .row qv 3 1 x.2.length (x.2.map (Value.int .i64)), .blk b2 25 [dv], .row dv 3 1 n (x.1.map (Value.int .i64))]

theorem fill_eq {n : Nat} {L : List Int} (hl : L.length = n) (h : ∀ j, j < n → L.getD j 0 = -1) : L = List.replicate n (-1) := by
  apply List.ext_getElem (by simp [hl])
  intro i h1 h2
  have := h i (by omega)
  simpa [List.getD_eq_getElem?_getD, h1] using this
theorem fill_set {L : List Int} {k : Nat} (hk : k < L.length) (h : ∀ j, j < k → L.getD j 0 = -1) : ∀ j, j < k + 1 → (L.set k (-1)).getD j 0 = -1 := fun j hj => by
  by_cases hjk : j = k
  · subst hjk; simp [List.getD_eq_getElem?_getD, hk]
  · have := h j (by omega)
    simp only [List.getD_eq_getElem?_getD] at this ⊢
    rw [List.getElem?_set_ne (by omega)]; exact this
/-- in the middle of a node's successors -/
theorem step_facts {n : Nat} {arcs : List Gr.Arc} {v u : Int} {i k : Nat} {d q : List Int} (hok : Gr.Ok n arcs) (hI : Gr.InvI n arcs v i (Gr.bfs n arcs v i)) (hu : (Gr.bfs n arcs v i).2[i]? = some u) (hk : k < (Gr.succs arcs u).length)
    (hx : (d, q) = ((Gr.succs arcs u).take k).foldl (Gr.visit u) (Gr.bfs n arcs v i)) (hn : n ≤ 256 := by omega) :
    d.length = n ∧ (0 ≤ (Gr.succs arcs u).getD k 0 ∧ (Gr.succs arcs u).getD k 0 < n) ∧ q.length ≤ 256 ∧ (-1 ≤ d.getD u.toNat 0 ∧ d.getD u.toNat 0 ≤ 256) ∧
      ((Gr.succs arcs u).take (k + 1)).foldl (Gr.visit u) (Gr.bfs n arcs v i) = Gr.visit u (((Gr.succs arcs u).take k).foldl (Gr.visit u) (Gr.bfs n arcs v i)) ((Gr.succs arcs u).getD k 0) := by
  have hum := List.mem_of_getElem? hu
  have hmem : ∀ w ∈ Gr.succs arcs u, (0 ≤ w ∧ w < (n : Int)) ∧ (⟨u, w⟩ : Gr.Arc) ∈ arcs := fun w hw => ⟨(hok _ (Gr.mem_succs.1 hw)).2, Gr.mem_succs.1 hw⟩
  obtain ⟨k1, k2, _, k4⟩ := Gr.fold_inv ((Gr.succs arcs u).take k) (Gr.bfs n arcs v i) hI.toInv0 (hI.front u hu) hum (fun w hw => hmem w (List.mem_of_mem_take hw))
  rw [← hx] at k1 k2 k4
  have hl : q.length ≤ n := Gr.int_nodup_le k1.nodup fun w hw => ⟨(k1.q w hw).1, (k1.q w hw).2.1⟩
  have huq : u ∈ q := by obtain ⟨⟨t, ht⟩, _⟩ := k4; simp only at ht; rw [ht]; simp [hum]
  have h1 := (k1.q u huq).2.2.1
  have h2 := k1.small u huq
  have hD : Gr.D (d, q) u = d.getD u.toNat 0 := rfl
  simp only at h2
  refine ⟨k1.len, (hmem _ ?_).1, by omega, by omega, ?_⟩
  · have := getD_some (d := 0) hk
    exact List.mem_of_getElem? this
  · rw [List.take_succ_eq_append_getElem hk, List.foldl_append]
    simp [List.getD_eq_getElem?_getD, hk]
theorem step_len {n : Nat} {arcs : List Gr.Arc} {v u : Int} {i : Nat} (hok : Gr.Ok n arcs) (hI : Gr.InvI n arcs v i (Gr.bfs n arcs v i)) (hu : (Gr.bfs n arcs v i).2[i]? = some u) :
    (Gr.bfs n arcs v i).2.length ≤ ((Gr.succs arcs u).foldl (Gr.visit u) (Gr.bfs n arcs v i)).2.length := by
  obtain ⟨_, _, _, ⟨t, ht⟩, _⟩ := Gr.fold_inv (Gr.succs arcs u) (Gr.bfs n arcs v i) hI.toInv0 (hI.front u hu) (List.mem_of_getElem? hu) (fun w hw => ⟨(hok _ (Gr.mem_succs.1 hw)).2, Gr.mem_succs.1 hw⟩)
  rw [ht]; simp
set_option maxHeartbeats 400000 in
theorem dvisit_c {B : Bs} {Φ : Hp} {b5 b4 b2 n : Nat} {u x : Int} {d q : List Int} {dv qv : Value} (hdv : IsSl dv n) (hqv : IsSl qv q.length) (hd : d.length = n) (hx : 0 ≤ x ∧ x < n) (hu : 0 ≤ u ∧ u < n) (hq : q.length ≤ 256) (hD : -1 ≤ d.getD u.toNat 0 ∧ d.getD u.toNat 0 ≤ 256)
    (w : World) (hW : (St B Φ (CS b5 b4 b2 n u dv (d, q) qv)).p w) : Calls Try.prog 35 #[.int .i64 x, .pointer (some ⟨b2, 0, none⟩), .pointer (some ⟨b5, 0, none⟩), .pointer (some ⟨b4, 0, none⟩)] w fun e w' =>
      ∃ y : {qv' : Value // IsSl qv' (Gr.visit u (d, q) x).2.length}, e = .returned (.tuple #[]) ∧ (St B Φ (CS b5 b4 b2 n u dv (Gr.visit u (d, q) x) y.1)).p w' := by
  refine calls_of_AW (args := [.int .i64 x, .pointer (some (⟨b2, 0, none⟩)), .pointer (some (⟨b5, 0, none⟩)), .pointer (some (⟨b4, 0, none⟩))]) Try.func35 rfl (Nat.le_of_ble_eq_true rfl) (St B Φ [.blk b5 3 [.int .i64 u], .blk b4 25 [qv], .row qv 3 1 q.length (q.map (Value.int .i64)), .blk b2 25 [dv], .row dv 3 1 n (d.map (Value.int .i64))]) hW ?_
  show AW Try.prog 22 [] _ _ _ [(0, .int .i64 x), (1, .pointer (some (⟨b2, 0, none⟩))), (2, .pointer (some (⟨b5, 0, none⟩))), (3, .pointer (some (⟨b4, 0, none⟩)))] _
  refine AW.seq ?_
  refine AW.region ?_
  refine RW.q (v := dv) rfl (q_load rfl Try.underlying25 rfl (Cell.blk 3 rfl rfl)) ?_
  refine RW.q (v := .int .i64 x) rfl (q_move rfl) ?_
  refine RW.q (v := .pointer (some (Value.at dv (x.toNat * 1)))) rfl (q_indexAddr rfl rfl hdv Try.underlying25 sz3 (by omega) (by omega) rfl) ?_
  refine RW.q (v := .int .i64 ((d).getD x.toNat 0)) rfl (q_load rfl Try.underlying3 rfl (Cell.rowInt 4 rfl (by omega))) ?_
  refine RW.q (v := .bool (decide ((d).getD x.toNat 0 < 0))) rfl (q_lss rfl rfl) ?_
  refine RW.nil ?_
  refine Post.then_n ?_
  refine AW.cond (b := decide ((d).getD x.toNat 0 < 0)) rfl (fun hc1 => ?_) (fun hc1 => ?_)
  · simp [-List.getD_eq_getElem?_getD] at hc1
    refine AW.seq ?_
    refine AW.draw (J0 := St B Φ [.blk b5 3 [.int .i64 u], .blk b4 25 [qv], .row qv 3 1 q.length (q.map (Value.int .i64)), .blk b2 25 [dv], .row dv 3 1 n (d.map (Value.int .i64))]) [true, true, true, true, true, true, true, true, false] hmix (by kernel_rfl) ?_
    refine DW.q (v := dv) (fun _ h => h) rfl (q_load rfl Try.underlying25 rfl (Cell.blk 3 rfl rfl)) ?_
    refine DW.q (v := .int .i64 x) (fun _ h => h) rfl (q_move rfl) ?_
    refine DW.q (v := dv) (fun _ h => h) rfl (q_load rfl Try.underlying25 rfl (Cell.blk 3 rfl rfl)) ?_
    refine DW.q (v := .int .i64 u) (fun _ h => h) rfl (q_load rfl Try.underlying3 rfl (Cell.blk 0 rfl rfl)) ?_
    refine DW.q (v := .pointer (some (Value.at dv (u.toNat * 1)))) (fun _ h => h) rfl (q_indexAddr rfl rfl hdv Try.underlying25 sz3 (by omega) (by omega) rfl) ?_
    refine DW.q (v := .int .i64 ((d).getD u.toNat 0)) (fun _ h => h) rfl (q_load rfl Try.underlying3 rfl (Cell.rowInt 4 rfl (by omega))) ?_
    refine DW.q (v := .int .i64 (((d).getD u.toNat 0) + 1)) (fun _ h => h) rfl (q_add rfl rfl (by omega) (by unfold I64; omega)) ?_
    refine DW.q (v := .pointer (some (Value.at dv (x.toNat * 1)))) (fun _ h => h) rfl (q_indexAddr rfl rfl hdv Try.underlying25 sz3 (by omega) (by omega) rfl) ?_
    refine DW.effn (J' := St B Φ [.blk b5 3 [.int .i64 u], .blk b4 25 [qv], .row qv 3 1 q.length (q.map (Value.int .i64)), .blk b2 25 [dv], .row dv 3 1 n ((d.set x.toNat (((d).getD u.toNat 0) + 1)).map (Value.int .i64))]) (fun h => absurd rfl h) (e_storeRow (v := .int .i64 (((d).getD u.toNat 0) + 1)) 4 rfl rfl rfl sz3 rfl rfl (by simp [-List.getD_eq_getElem?_getD]; omega) (splice_int (by omega)) rfl) ?_
    refine DW.nil ?_
    refine Post.then_n ?_
    refine AW.region ?_
    refine RW.q (v := qv) rfl (q_load rfl Try.underlying25 rfl (Cell.blk 1 rfl rfl)) ?_
    refine RW.q (v := .int .i64 x) rfl (q_move rfl) ?_
    refine RW.eff (fun b1 : Nat => (.slice (some ⟨b1, 0, none⟩) 1 1)) (fun b1 => St B Φ [.row (.slice (some ⟨b1, 0, none⟩) 1 1) 3 1 1 ([.int .i64 x]), .blk b5 3 [.int .i64 u], .blk b4 25 [qv], .row qv 3 1 q.length (q.map (Value.int .i64)), .blk b2 25 [dv], .row dv 3 1 n ((d.set x.toNat (((d).getD u.toNat 0) + 1)).map (Value.int .i64))]) rfl (e_buildSlice (vals := [(0, .int .i64 x)]) (cells := [.int .i64 x]) Try.underlying25 inf3 rfl rfl rfl (by kernel_rfl) rfl) ?_
    intro b1
    refine RW.eff (fun xv : {vq : Value // IsSl vq (q.length + 1)} => xv.1) (fun xv => St B Φ [.row (.slice (some ⟨b1, 0, none⟩) 1 1) 3 1 1 ([.int .i64 x]), .blk b5 3 [.int .i64 u], .blk b4 25 [qv], .row xv.1 3 1 ((q ++ [x]).length) ((q ++ [x]).map (Value.int .i64)), .blk b2 25 [dv], .row dv 3 1 n ((d.set x.toNat (((d).getD u.toNat 0) + 1)).map (Value.int .i64))]) rfl (e_append 3 rfl rfl rfl Try.underlying25 inf3 rfl rfl rfl (Cells.row0 0 rfl) rfl (by omega) (by omega) (fun _ => by simp)) ?_
    rintro ⟨va1, hva1⟩
    refine RW.wk (J' := St B Φ [.blk b5 3 [.int .i64 u], .blk b4 25 [qv], .row va1 3 1 ((q ++ [x]).length) ((q ++ [x]).map (Value.int .i64)), .blk b2 25 [dv], .row dv 3 1 n ((d.set x.toNat (((d).getD u.toNat 0) + 1)).map (Value.int .i64))]) (fun _ h => StP.drop h (by exact .cons _ (.cons_cons _ (.cons_cons _ (.cons_cons _ (.cons_cons _ (.cons_cons _ (.slnil)))))))) ?_
    refine RW.effn (J' := St B Φ [.blk b5 3 [.int .i64 u], .blk b4 25 [va1], .row va1 3 1 ((q ++ [x]).length) ((q ++ [x]).map (Value.int .i64)), .blk b2 25 [dv], .row dv 3 1 n ((d.set x.toNat (((d).getD u.toNat 0) + 1)).map (Value.int .i64))]) (e_storeSl (v := va1) 1 rfl rfl rfl hva1 sz25 rfl rfl rfl) ?_
    refine RW.nil ?_
    refine fin_none (J' := St B Φ [.blk b5 3 [.int .i64 u], .blk b4 25 [va1], .row va1 3 1 ((q ++ [x]).length) ((q ++ [x]).map (Value.int .i64)), .blk b2 25 [dv], .row dv 3 1 n ((d.set x.toNat (((d).getD u.toNat 0) + 1)).map (Value.int .i64))]) rfl rfl (fun _ h => h) (fun w' hw' => ?_)
    refine ⟨⟨va1, by rw [visit_t hc1]; simpa using hva1⟩, rfl, ?_⟩
    show (St B Φ (CS b5 b4 b2 n u dv (Gr.visit u (d, q) x) va1)).p w'
    rw [visit_t hc1]; simpa [CS] using hw'
  · simp [-List.getD_eq_getElem?_getD] at hc1
    refine AW.skip ?_
    refine fin_none (J' := St B Φ [.blk b5 3 [.int .i64 u], .blk b4 25 [qv], .row qv 3 1 q.length (q.map (Value.int .i64)), .blk b2 25 [dv], .row dv 3 1 n (d.map (Value.int .i64))]) rfl rfl (fun _ h => h) (fun w' hw' => ?_)
    refine ⟨⟨qv, by rw [visit_f hc1]; exact hqv⟩, rfl, ?_⟩
    show (St B Φ (CS b5 b4 b2 n u dv (Gr.visit u (d, q) x) qv)).p w'
    rw [visit_f hc1]; exact hw'

set_option maxHeartbeats 1000000 in
theorem distances_c (w : World) (Φ : Hp) (hΦ : Hp.le Φ (hp w)) {n : Nat} {arcs : List Gr.Arc} {fv : Value} {v : Int} (hvis : IsVis Φ n arcs fv) (hn : n ≤ 256) (hok : Gr.Ok n arcs) (hv : 0 ≤ v ∧ v < n) :
    Calls Try.prog 30 #[.int .i64 (n : Int), fv, .int .i64 v] w (RetS noHp w fun r Ψ => RepSl Ψ (Gr.distL n arcs v) r) := by
  obtain ⟨bv, nv, rfl, hpc, hr⟩ := hvis
  refine calls_of_AW (args := [.int .i64 (n : Int), .func (.func 34) #[] #[.pointer (some (⟨bv, 0, none⟩))], .int .i64 v]) Try.func30 rfl (Nat.le_of_ble_eq_true rfl) (St ⟨w, Φ, []⟩ Φ []) (StP.init w Φ hΦ []) ?_
  show AW Try.prog 43 [] _ _ _ [(0, .int .i64 (n : Int)), (1, .func (.func 34) #[] #[.pointer (some (⟨bv, 0, none⟩))]), (2, .int .i64 v)] _
  refine AW.seq ?_
  refine AW.region ?_
  refine RW.q (v := (.slice none 0 0)) rfl (q_assign rfl) ?_
  refine RW.nil ?_
  refine Post.then_n ?_
  refine AW.seq ?_
  refine AW.region ?_
  refine RW.q (v := .int .i64 (n : Int)) rfl (q_move rfl) ?_
  refine RW.eff (fun b1 : Nat => (.slice (some ⟨b1, 0, none⟩) n n)) (fun b1 => St ⟨w, Φ, []⟩ Φ [.row (.slice (some ⟨b1, 0, none⟩) n n) 3 1 n ((List.replicate n 0).map (Value.int .i64))]) rfl (e_makeSlice rfl rfl Try.underlying25 inf3 (by omega) (by omega) (by omega) rfl (made_int (n := n) (by omega))) ?_
  intro b1
  refine RW.eff (fun b2 : Nat => .pointer (some (⟨b2, 0, none⟩))) (fun b2 => St ⟨w, Φ, []⟩ Φ [.blk b2 25 [(.slice none 0 0)], .row (.slice (some ⟨b1, 0, none⟩) n n) 3 1 n ((List.replicate n 0).map (Value.int .i64))]) rfl (e_alloc zero25) ?_
  intro b2
  refine RW.effn (J' := St ⟨w, Φ, []⟩ Φ [.blk b2 25 [(.slice (some ⟨b1, 0, none⟩) n n)], .row (.slice (some ⟨b1, 0, none⟩) n n) 3 1 n ((List.replicate n 0).map (Value.int .i64))]) (e_store (v := (.slice (some ⟨b1, 0, none⟩) n n)) 0 rfl rfl rfl sz25 rfl rfl rfl rfl rfl) ?_
  refine RW.nil ?_
  refine Post.then_n ?_
  refine AW.seq ?_
  refine AW.seq ?_
  refine AW.region ?_
  refine RW.q (v := (.slice (some ⟨b1, 0, none⟩) n n)) rfl (q_load rfl Try.underlying25 rfl (Cell.blk 0 rfl rfl)) ?_
  refine RW.q (v := .int .i64 (n : Int)) rfl (q_len_sl rfl isSl_mk Try.underlying25) ?_
  refine RW.q (v := .int .i64 0) rfl (q_move rfl) ?_
  refine RW.nil ?_
  refine Post.then_n ?_
  refine AW.block ?_
  refine AW.loop (fun s J m => ∃ (k : Nat), ∃ (L : List Int), s = [(0, .int .i64 (n : Int)), (1, .func (.func 34) #[] #[.pointer (some (⟨bv, 0, none⟩))]), (2, .int .i64 v), (7, .pointer (some (⟨b2, 0, none⟩))), (15, .int .i64 (n : Int)), (16, .int .i64 (k : Int))] ∧ J = St ⟨w, Φ, []⟩ Φ [.blk b2 25 [(.slice (some ⟨b1, 0, none⟩) n n)], .row (.slice (some ⟨b1, 0, none⟩) n n) 3 1 n (L.map (Value.int .i64))] ∧ m = n - k ∧ (k ≤ n) ∧ (L.length = n) ∧ (∀ j, j < k → L.getD j 0 = -1)) (s0 := _) (J1 := _) (m0 := _) ⟨0, _, rfl, rfl, rfl, (by omega), (by simp), (by omega)⟩ ⟨rfl, rfl, rfl, rfl, rfl, rfl, trivial⟩ (fun _ h => h) ?_
  rintro _ _ _ _ ⟨k, L, rfl, rfl, rfl, hk, hL, heq⟩
  refine AW.seq ?_
  refine AW.region ?_
  refine RW.q (v := .bool (decide ((k : Int) < (n : Int)))) rfl (q_lss rfl rfl) ?_
  refine RW.nil ?_
  refine Post.then_n ?_
  refine AW.seq ?_
  refine AW.cond (b := decide ((k : Int) < (n : Int))) rfl (fun hc1 => ?_) (fun hc1 => ?_)
  · simp [-List.getD_eq_getElem?_getD] at hc1
    refine AW.skip ?_
    refine Post.then_n ?_
    refine AW.seq ?_
    refine AW.block ?_
    refine AW.seq ?_
    refine AW.region ?_
    refine RW.q (v := .int .i64 (k : Int)) rfl (q_move rfl) ?_
    refine RW.q (v := .int .i64 (k : Int)) rfl (q_assign rfl) ?_
    refine RW.nil ?_
    refine Post.then_n ?_
    refine AW.region ?_
    refine RW.q (v := (.slice (some ⟨b1, 0, none⟩) n n)) rfl (q_load rfl Try.underlying25 rfl (Cell.blk 0 rfl rfl)) ?_
    refine RW.q (v := .int .i64 (k : Int)) rfl (q_move rfl) ?_
    refine RW.q (v := .pointer (some (Value.at (.slice (some ⟨b1, 0, none⟩) n n) (k * 1)))) rfl (q_indexAddr rfl rfl isSl_mk Try.underlying25 sz3 (by omega) (by omega) rfl) ?_
    refine RW.effn (J' := St ⟨w, Φ, []⟩ Φ [.blk b2 25 [(.slice (some ⟨b1, 0, none⟩) n n)], .row (.slice (some ⟨b1, 0, none⟩) n n) 3 1 n ((L.set k (-1)).map (Value.int .i64))]) (e_storeRow (v := .int .i64 (-1)) 1 rfl rfl rfl sz3 rfl rfl (by simp [-List.getD_eq_getElem?_getD]; omega) (splice_int (by omega)) rfl) ?_
    refine RW.nil ?_
    refine Post.blk_n (Post.then_n ?_)
    refine AW.region ?_
    refine RW.q (v := .int .i64 ((k + 1 : Nat) : Int)) rfl (q_add rfl rfl (by omega) (by unfold I64; omega)) ?_
    refine RW.q (v := .int .i64 ((k + 1 : Nat) : Int)) rfl (q_move rfl) ?_
    refine RW.nil ?_
    exact Post.back (s' := _) (J' := _) (m' := _) (by omega) ⟨k + 1, _, rfl, rfl, rfl, (by omega), (by simp [hL]), (fill_set (by omega) heq)⟩ ⟨rfl, rfl, rfl, rfl, rfl, rfl, trivial⟩ (fun _ h => h)
  · simp [-List.getD_eq_getElem?_getD] at hc1
    refine AW.exit ?_
    refine Post.then_x (Post.then_x (Post.blk_hit (Post.then_n ?_)))
    refine AW.seq ?_
    obtain rfl : L = List.replicate n (-1) := fill_eq hL (fun j hj => heq j (by omega))
    refine AW.region ?_
    refine RW.q (v := (.slice (some ⟨b1, 0, none⟩) n n)) rfl (q_load rfl Try.underlying25 rfl (Cell.blk 0 rfl rfl)) ?_
    refine RW.q (v := .int .i64 v) rfl (q_move rfl) ?_
    refine RW.q (v := .pointer (some (Value.at (.slice (some ⟨b1, 0, none⟩) n n) (v.toNat * 1)))) rfl (q_indexAddr rfl rfl isSl_mk Try.underlying25 sz3 (by omega) (by omega) rfl) ?_
    refine RW.effn (J' := St ⟨w, Φ, []⟩ Φ [.blk b2 25 [(.slice (some ⟨b1, 0, none⟩) n n)], .row (.slice (some ⟨b1, 0, none⟩) n n) 3 1 n (((List.replicate n (-1)).set v.toNat 0).map (Value.int .i64))]) (e_storeRow (v := .int .i64 0) 1 rfl rfl rfl sz3 rfl rfl (by simp [-List.getD_eq_getElem?_getD]; omega) (splice_int (by omega)) rfl) ?_
    refine RW.nil ?_
    refine Post.then_n ?_
    refine AW.seq ?_
    refine AW.region ?_
    refine RW.q (v := .int .i64 v) rfl (q_move rfl) ?_
    refine RW.eff (fun b3 : Nat => (.slice (some ⟨b3, 0, none⟩) 1 1)) (fun b3 => St ⟨w, Φ, []⟩ Φ [.row (.slice (some ⟨b3, 0, none⟩) 1 1) 3 1 1 ([.int .i64 v]), .blk b2 25 [(.slice (some ⟨b1, 0, none⟩) n n)], .row (.slice (some ⟨b1, 0, none⟩) n n) 3 1 n (((List.replicate n (-1)).set v.toNat 0).map (Value.int .i64))]) rfl (e_buildSlice (vals := [(0, .int .i64 v)]) (cells := [.int .i64 v]) Try.underlying25 inf3 rfl rfl rfl (by kernel_rfl) rfl) ?_
    intro b3
    refine RW.eff (fun b4 : Nat => .pointer (some (⟨b4, 0, none⟩))) (fun b4 => St ⟨w, Φ, []⟩ Φ [.blk b4 25 [(.slice none 0 0)], .row (.slice (some ⟨b3, 0, none⟩) 1 1) 3 1 1 ([.int .i64 v]), .blk b2 25 [(.slice (some ⟨b1, 0, none⟩) n n)], .row (.slice (some ⟨b1, 0, none⟩) n n) 3 1 n (((List.replicate n (-1)).set v.toNat 0).map (Value.int .i64))]) rfl (e_alloc zero25) ?_
    intro b4
    refine RW.effn (J' := St ⟨w, Φ, []⟩ Φ [.blk b4 25 [(.slice (some ⟨b3, 0, none⟩) 1 1)], .row (.slice (some ⟨b3, 0, none⟩) 1 1) 3 1 1 ([.int .i64 v]), .blk b2 25 [(.slice (some ⟨b1, 0, none⟩) n n)], .row (.slice (some ⟨b1, 0, none⟩) n n) 3 1 n (((List.replicate n (-1)).set v.toNat 0).map (Value.int .i64))]) (e_store (v := (.slice (some ⟨b3, 0, none⟩) 1 1)) 0 rfl rfl rfl sz25 rfl rfl rfl rfl rfl) ?_
    refine RW.nil ?_
    refine Post.then_n ?_
    refine AW.seq ?_
    refine AW.seq ?_
    refine AW.region ?_
    refine RW.q (v := .int .i64 0) rfl (q_assign rfl) ?_
    refine RW.nil ?_
    refine Post.then_n ?_
    refine AW.block ?_
    refine AW.loop (fun s J m => ∃ (i : Nat), ∃ (qv : Value), s = [(1, .func (.func 34) #[] #[.pointer (some (⟨bv, 0, none⟩))]), (7, .pointer (some (⟨b2, 0, none⟩))), (9, .pointer (some (⟨b4, 0, none⟩))), (10, .int .i64 (i : Int))] ∧ J = St ⟨w, Φ, []⟩ Φ [.blk b4 25 [qv], .row qv 3 1 ((Gr.bfs n arcs v i).2.length) (((Gr.bfs n arcs v i).2).map (Value.int .i64)), .blk b2 25 [(.slice (some ⟨b1, 0, none⟩) n n)], .row (.slice (some ⟨b1, 0, none⟩) n n) 3 1 n (((Gr.bfs n arcs v i).1).map (Value.int .i64))] ∧ m = n - i ∧ (∀ j, j < i → j < (Gr.bfs n arcs v j).2.length) ∧ (i ≤ (Gr.bfs n arcs v i).2.length) ∧ (IsSl qv (Gr.bfs n arcs v i).2.length)) (s0 := _) (J1 := _) (m0 := _) ⟨0, _, rfl, rfl, rfl, (by omega), (by omega), isSl_mk⟩ ⟨rfl, rfl, rfl, rfl, trivial⟩ (fun _ h => h) ?_
    rintro _ _ _ _ ⟨i, qv, rfl, rfl, rfl, hJ, hle, hqv⟩
    have hI := Gr.bfs_inv hok hv i hJ
    have hln := Gr.bfs_len hI
    refine AW.seq ?_
    refine AW.seq ?_
    refine AW.region ?_
    refine RW.q (v := .int .i64 (i : Int)) rfl (q_move rfl) ?_
    refine RW.q (v := qv) rfl (q_load rfl Try.underlying25 rfl (Cell.blk 0 rfl rfl)) ?_
    refine RW.q (v := .int .i64 (((Gr.bfs n arcs v i).2.length : Nat) : Int)) rfl (q_len_sl rfl hqv Try.underlying25) ?_
    refine RW.q (v := .bool (decide ((i : Int) < (((Gr.bfs n arcs v i).2.length : Nat) : Int)))) rfl (q_lss rfl rfl) ?_
    refine RW.nil ?_
    refine Post.then_n ?_
    refine AW.cond (b := decide ((i : Int) < (((Gr.bfs n arcs v i).2.length : Nat) : Int))) rfl (fun hc2 => ?_) (fun hc2 => ?_)
    · simp [-List.getD_eq_getElem?_getD] at hc2
      refine AW.skip ?_
      refine Post.then_n ?_
      refine AW.seq ?_
      refine AW.block ?_
      refine AW.seq ?_
      refine AW.region ?_
      refine RW.q (v := qv) rfl (q_load rfl Try.underlying25 rfl (Cell.blk 0 rfl rfl)) ?_
      refine RW.q (v := .int .i64 (i : Int)) rfl (q_move rfl) ?_
      refine RW.q (v := .pointer (some (Value.at qv (i * 1)))) rfl (q_indexAddr rfl rfl hqv Try.underlying25 sz3 (by omega) (by omega) rfl) ?_
      refine RW.q (v := .int .i64 (((Gr.bfs n arcs v i).2).getD i 0)) rfl (q_load rfl Try.underlying3 rfl (Cell.rowInt 1 rfl (by omega))) ?_
      refine RW.eff (fun b5 : Nat => .pointer (some (⟨b5, 0, none⟩))) (fun b5 => St ⟨w, Φ, []⟩ Φ [.blk b5 3 [.int .i64 0], .blk b4 25 [qv], .row qv 3 1 ((Gr.bfs n arcs v i).2.length) (((Gr.bfs n arcs v i).2).map (Value.int .i64)), .blk b2 25 [(.slice (some ⟨b1, 0, none⟩) n n)], .row (.slice (some ⟨b1, 0, none⟩) n n) 3 1 n (((Gr.bfs n arcs v i).1).map (Value.int .i64))]) rfl (e_alloc zero3) ?_
      intro b5
      refine RW.effn (J' := St ⟨w, Φ, []⟩ Φ [.blk b5 3 [.int .i64 (((Gr.bfs n arcs v i).2).getD i 0)], .blk b4 25 [qv], .row qv 3 1 ((Gr.bfs n arcs v i).2.length) (((Gr.bfs n arcs v i).2).map (Value.int .i64)), .blk b2 25 [(.slice (some ⟨b1, 0, none⟩) n n)], .row (.slice (some ⟨b1, 0, none⟩) n n) 3 1 n (((Gr.bfs n arcs v i).1).map (Value.int .i64))]) (e_store (v := .int .i64 (((Gr.bfs n arcs v i).2).getD i 0)) 0 rfl rfl rfl sz3 rfl rfl rfl rfl rfl) ?_
      refine RW.nil ?_
      refine Post.then_n ?_
      obtain ⟨u, hud⟩ : ∃ u, u = (Gr.bfs n arcs v i).2.getD i 0 := ⟨_, rfl⟩
      have hu1 : (Gr.bfs n arcs v i).2[i]? = some u := by rw [hud]; exact getD_some (by omega)
      have hu := hI.q u (List.mem_of_getElem? hu1)
      rw [← hud]
      refine AW.region ?_
      refine RW.q (v := .func (.func 34) #[] #[.pointer (some (⟨bv, 0, none⟩))]) rfl (q_move rfl) ?_
      refine RW.q (v := .int .i64 u) rfl (q_load rfl Try.underlying3 rfl (Cell.blk 0 rfl rfl)) ?_
      refine RW.q (v := .func (.func 35) #[] #[.pointer (some (⟨b2, 0, none⟩)), .pointer (some (⟨b5, 0, none⟩)), .pointer (some (⟨b4, 0, none⟩))]) rfl (q_makeFunc rfl rfl) ?_
      have hsl := Gr.succs_len arcs u
      have hstp : ∀ k (x : Gr.St × Value), k < (Gr.succs arcs u).length → (fun k (x : Gr.St × Value) => x.1 = ((Gr.succs arcs u).take k).foldl (Gr.visit u) (Gr.bfs n arcs v i) ∧ IsSl x.2 x.1.2.length) k x → ∀ w2, ((fun x : Gr.St × Value => St ⟨w, Φ, []⟩ Φ (CS b5 b4 b2 n u (.slice (some ⟨b1, 0, none⟩) n n) x.1 x.2)) x).p w2 → Calls Try.prog 35 (#[.int .i64 ((Gr.succs arcs u).getD k 0)] ++ #[.pointer (some ⟨b2, 0, none⟩), .pointer (some ⟨b5, 0, none⟩), .pointer (some ⟨b4, 0, none⟩)]) w2 fun e w' => ∃ y : {x : Gr.St × Value // (fun k (x : Gr.St × Value) => x.1 = ((Gr.succs arcs u).take k).foldl (Gr.visit u) (Gr.bfs n arcs v i) ∧ IsSl x.2 x.1.2.length) (k + 1) x}, e = .returned (.tuple #[]) ∧ ((fun x : Gr.St × Value => St ⟨w, Φ, []⟩ Φ (CS b5 b4 b2 n u (.slice (some ⟨b1, 0, none⟩) n n) x.1 x.2)) y.1).p w' := by
        rintro k ⟨⟨d, q⟩, qv1⟩ hk ⟨hx, hqv1⟩ w2 hw2
        obtain ⟨k1, k2, k3, k4, k5⟩ := step_facts hok hI hu1 hk hx
        refine (dvisit_c isSl_mk hqv1 k1 k2 (by omega) k3 k4 w2 hw2).mono fun e w' ⟨y, he, hy⟩ => ⟨⟨(Gr.visit u (d, q) ((Gr.succs arcs u).getD k 0), y.1), ?_, y.2⟩, he, hy⟩
        rw [k5, ← hx]
      refine RW.eff (fun x : {x : Gr.St × Value // x.1 = (Gr.succs arcs u).foldl (Gr.visit u) (Gr.bfs n arcs v i) ∧ IsSl x.2 x.1.2.length} => .tuple #[]) (fun x => St ⟨w, Φ, []⟩ Φ (CS b5 b4 b2 n u (.slice (some ⟨b1, 0, none⟩) n n) x.1.1 x.1.2)) rfl (e_call (args := #[.int .i64 u, .func (.func 35) #[] #[.pointer (some (⟨b2, 0, none⟩)), .pointer (some (⟨b5, 0, none⟩)), .pointer (some (⟨b4, 0, none⟩))], .pointer (some (⟨bv, 0, none⟩))]) own34 rfl rfl (fun w1 hw1 => (vis_c (fun x : Gr.St × Value => St ⟨w, Φ, []⟩ Φ (CS b5 b4 b2 n u (.slice (some ⟨b1, 0, none⟩) n n) x.1 x.2)) (fun k (x : Gr.St × Value) => x.1 = ((Gr.succs arcs u).take k).foldl (Gr.visit u) (Gr.bfs n arcs v i) ∧ IsSl x.2 x.1.2.length) (Gr.succs arcs u) (fun x w hw => hw.phi) hpc hr (by omega) (by rw [Gr.table_len]; omega) (by rw [Gr.table_get (by omega)]; congr 1; omega) own35 hstp (Gr.bfs n arcs v i, qv) ⟨by simp, hqv⟩ w1 hw1).mono fun e w' ⟨y, he, hy⟩ => ⟨⟨y.1, y.2.1.trans (by rw [List.take_length]), y.2.2⟩, he, hy⟩)) ?_
      rintro ⟨⟨x1, qv1⟩, hx1, hqv1⟩
      refine RW.nil ?_
      refine Post.blk_n (Post.then_n ?_)
      refine AW.region ?_
      refine RW.q (v := .int .i64 (i : Int)) rfl (q_move rfl) ?_
      refine RW.q (v := .int .i64 ((i + 1 : Nat) : Int)) rfl (q_add rfl rfl (by omega) (by unfold I64; omega)) ?_
      refine RW.q (v := .int .i64 ((i + 1 : Nat) : Int)) rfl (q_assign rfl) ?_
      refine RW.nil ?_
      replace hx1 : x1 = (Gr.succs arcs u).foldl (Gr.visit u) (Gr.bfs n arcs v i) := hx1
      replace hqv1 : IsSl qv1 x1.2.length := hqv1
      have hbs : Gr.bfs n arcs v (i + 1) = x1 := by rw [Gr.bfs, if_pos hc2, hx1, hud]; rfl
      have hJ1 : ∀ j, j < i + 1 → j < (Gr.bfs n arcs v j).2.length := Gr.lt_succ hJ hc2
      have hI1 := Gr.bfs_inv hok hv (i + 1) hJ1
      rw [hbs] at hI1
      have hgr := step_len hok hI hu1
      rw [← hx1] at hgr
      exact Post.back (s' := _) (J' := _) (m' := _) (by omega) ⟨i + 1, qv1, rfl, rfl, rfl, hJ1, (by rw [hbs]; omega), (by rw [hbs]; exact hqv1)⟩ ⟨rfl, rfl, rfl, rfl, trivial⟩ (fun _ h => by rw [hbs]; exact StP.drop h (.cons _ (List.Sublist.refl _)))
    · simp [-List.getD_eq_getElem?_getD] at hc2
      refine AW.exit ?_
      refine Post.then_x (Post.then_x (Post.blk_hit (Post.then_n ?_)))
      refine AW.seq ?_
      refine AW.region ?_
      refine RW.q (v := (.slice (some ⟨b1, 0, none⟩) n n)) rfl (q_load rfl Try.underlying25 rfl (Cell.blk 2 rfl rfl)) ?_
      refine RW.q (v := (.slice (some ⟨b1, 0, none⟩) n n)) rfl (q_assign rfl) ?_
      refine RW.nil ?_
      refine Post.then_n ?_
      refine AW.ret ?_
      have hI := Gr.bfs_inv hok hv i hJ
      have hln := Gr.bfs_len hI
      refine fin_rep rfl rfl rfl (fun w' hw => ?_)
      have hro := row_ext (Φr := noHp) hw 3 rfl
      rw [Gr.bfs_end hI (by omega) hle] at hro
      have hd := Gr.distL_is hok hv
      refine RowS.ints hro (by simp only [maxSl]; omega) (fun x hx => ?_)
      obtain ⟨j, hj, rfl⟩ := List.mem_iff_getElem.1 hx
      have h1 := hd.2 (j : Int) (by omega) (by have := hd.1; omega)
      simp only [Int.toNat_natCast, List.getD_eq_getElem?_getD, List.getElem?_eq_getElem hj, Option.getD_some] at h1
      unfold I64; omega

end Go.Proofs.Ytjkoojeampaeeaa
