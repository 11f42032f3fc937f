/- The walks of layer 11 (part WalkD), printed by walk.py. Conditions: those of each theorem. -/
import Derived.Test.YtjkoojeampaeeaaWalkC
namespace Go.Proofs.Ytjkoojeampaeeaa
open Go Go.K Go.RowKit

theorem retS_up {Φ : Hp} {w : World} {T : Value → Hp → Prop} {e : Ending} {w' : World} (hT : ∀ v Ψ Ψ', Hp.le Ψ Ψ' → T v Ψ → T v Ψ') (h : RetS noHp w T e w') : RetS Φ w T e w' :=
  let ⟨v, h1, h2, h3⟩ := h; ⟨v, h1, h2, hT _ _ _ (ext_mono (fun _ _ h => by cases h)) h3⟩
theorem StP.know {B : Bs} {Φ Φ' : Hp} {C : List Chunk} {w : World} (hl : Hp.le Φ Φ') (h : StP B Φ' C w) : StP B Φ C w :=
  { h with phi := Hp.le_trans hl h.phi, orig := fun b o e hb => h.orig b o (hl b o e) hb, away := fun b hb => ⟨Option.eq_none_iff_forall_ne_some.2 (fun o e => by
      have := (h.away b hb).1
      rw [hl b o e] at this; cases this), (h.away b hb).2⟩ }
theorem repSl_nil {α : Type} [Rep α] {Φ : Hp} : RepSl Φ ([] : List α) (.slice none 0 0) := ⟨isSl_nil, by simp [maxSl], fun i hi => absurd hi (by simp)⟩
theorem row_nil {Φ : Hp} {T sz : Nat} : RowS Φ (.slice none 0 0) T sz 0 [] := ⟨by simp, .inl ⟨rfl, rfl⟩⟩
theorem addNil {B : Bs} {Φ : Hp} {C : List Chunk} {w : World} {T sz : Nat} (h : StP B Φ C w) : StP B Φ (.row (.slice none 0 0) T sz 0 [] :: C) w :=
  { h with
    sat := fun c hc => (List.mem_cons.1 hc).elim (fun e => by subst e; exact row_nil) (h.sat c)
    sep := List.pairwise_cons.2 ⟨fun c _ b hb => (by cases hb), h.sep⟩
    away := fun b hb => h.away b (by simpa [Chunk.row, blks] using hb) }
set_option maxHeartbeats 400000 in
theorem cvisit_c {B : Bs} {Φ : Hp} {bb bd n : Nat} {best x : Int} {d : List Int} {dv : Value} (hd : RepSl Φ d dv) (hl : d.length = n) (hx : 0 ≤ x ∧ x < n) (hb : -1 ≤ best ∧ best < n)
    (w : World) (hW : (St B Φ [.blk bb 3 [.int .i64 best], .blk bd 25 [dv]]).p w) : Calls Try.prog 36 #[.int .i64 x, .pointer (some ⟨bd, 0, none⟩), .pointer (some ⟨bb, 0, none⟩)] w fun e w' =>
      e = .returned (.tuple #[]) ∧ (St B Φ [.blk bb 3 [.int .i64 (Gr.closeStep d best x)], .blk bd 25 [dv]]).p w' := by
  refine calls_of_AW (args := [.int .i64 x, .pointer (some (⟨bd, 0, none⟩)), .pointer (some (⟨bb, 0, none⟩))]) Try.func36 rfl (Nat.le_of_ble_eq_true rfl) (St B Φ [.blk bb 3 [.int .i64 best], .blk bd 25 [dv]]) hW ?_
  show AW Try.prog 39 [] _ _ _ [(0, .int .i64 x), (1, .pointer (some (⟨bd, 0, none⟩))), (2, .pointer (some (⟨bb, 0, none⟩)))] _
  refine AW.seq ?_
  refine AW.seq ?_
  refine AW.region ?_
  refine RW.q (v := dv) rfl (q_load rfl Try.underlying25 rfl (Cell.blk 1 rfl rfl)) ?_
  refine RW.q (v := .int .i64 x) rfl (q_move rfl) ?_
  refine RW.q (v := .pointer (some (Value.at dv (x.toNat * 1)))) rfl (q_indexAddr rfl rfl hd.sl Try.underlying25 sz3 (by omega) (by omega) rfl) ?_
  refine RW.q (v := .int .i64 (d.getD x.toNat 0)) rfl (q_load rfl Try.underlying3 rfl (Cell.repInt hd (by omega))) ?_
  refine RW.q (v := .bool (decide (d.getD x.toNat 0 < 0))) rfl (q_lss rfl rfl) ?_
  refine RW.nil ?_
  refine Post.then_n ?_
  refine AW.cond (b := decide (d.getD x.toNat 0 < 0)) rfl (fun hc1 => ?_) (fun hc1 => ?_)
  · simp [-List.getD_eq_getElem?_getD] at hc1
    refine AW.ret ?_
    refine Post.then_r ?_
    refine fin_none (J' := St B Φ [.blk bb 3 [.int .i64 best], .blk bd 25 [dv]]) rfl rfl (fun _ h => h) (fun w' hw' => ⟨rfl, ?_⟩)
    have he : Gr.closeStep d best x = best := by
      unfold Gr.closeStep; split <;> (try split) <;> omega
    rw [he]; exact hw'
  · simp [-List.getD_eq_getElem?_getD] at hc1
    refine AW.skip ?_
    refine Post.then_n ?_
    refine AW.seq ?_
    refine AW.draw (J0 := St B Φ [.blk bb 3 [.int .i64 best], .blk bd 25 [dv]]) [true, true, true, true, true, true, true, true, true, true, true, true, true, true, true, true, true, true, true, true, true, true, true, true, true, true, true, true, true] hmix (by kernel_rfl) ?_
    refine DW.q (v := .int .i64 best) (fun _ h => h) rfl (q_load rfl Try.underlying3 rfl (Cell.blk 0 rfl rfl)) ?_
    refine DW.q (v := .bool (decide (best < 0))) (fun _ h => h) rfl (q_lss rfl rfl) ?_
    refine DW.q (v := .bool (decide (best < 0))) (fun _ h => h) rfl (q_move rfl) ?_
    refine DW.g (b := (decide (best < 0))) (v := dv) (fun _ h => h) rfl rfl rfl (fun h => q_load rfl Try.underlying25 rfl (Cell.blk 1 rfl rfl)) ?_
    refine DW.g (b := (decide (best < 0))) (v := .int .i64 x) (fun _ h => h) rfl rfl rfl (fun h => q_move rfl) ?_
    refine DW.g (b := (decide (best < 0))) (v := .pointer (some (Value.at dv (x.toNat * 1)))) (fun _ h => h) rfl rfl rfl (fun h => q_indexAddr (gv_pos h) (gv_pos h) hd.sl Try.underlying25 sz3 (by simp [-List.getD_eq_getElem?_getD] at h; omega) (by simp [-List.getD_eq_getElem?_getD] at h; omega) rfl) ?_
    refine DW.g (b := (decide (best < 0))) (v := .int .i64 (d.getD x.toNat 0)) (fun _ h => h) rfl rfl rfl (fun h => q_load (gv_pos h) Try.underlying3 rfl (Cell.repInt hd (by simp [-List.getD_eq_getElem?_getD] at h; omega))) ?_
    refine DW.g (b := (decide (best < 0))) (v := dv) (fun _ h => h) rfl rfl rfl (fun h => q_load rfl Try.underlying25 rfl (Cell.blk 1 rfl rfl)) ?_
    refine DW.g (b := (decide (best < 0))) (v := .int .i64 best) (fun _ h => h) rfl rfl rfl (fun h => q_load rfl Try.underlying3 rfl (Cell.blk 0 rfl rfl)) ?_
    refine DW.g (b := (decide (best < 0))) (v := .pointer (some (Value.at dv (best.toNat * 1)))) (fun _ h => h) rfl rfl rfl (fun h => q_indexAddr (gv_pos h) (gv_pos h) hd.sl Try.underlying25 sz3 (by simp [-List.getD_eq_getElem?_getD] at h; omega) (by simp [-List.getD_eq_getElem?_getD] at h; omega) rfl) ?_
    refine DW.g (b := (decide (best < 0))) (v := .int .i64 (d.getD best.toNat 0)) (fun _ h => h) rfl rfl rfl (fun h => q_load (gv_pos h) Try.underlying3 rfl (Cell.repInt hd (by simp [-List.getD_eq_getElem?_getD] at h; omega))) ?_
    refine DW.g (b := (decide (best < 0))) (v := .bool (decide (d.getD x.toNat 0 < d.getD best.toNat 0))) (fun _ h => h) rfl rfl rfl (fun h => q_lss (gv_pos h) (gv_pos h)) ?_
    refine DW.q (v := .bool ((decide (best < 0)) || (decide (d.getD x.toNat 0 < d.getD best.toNat 0)))) (fun _ h => h) rfl (q_pick rfl (fun hp => pkOrT hp) (fun hp => (gv_pos hp).trans (pkOrF hp))) ?_
    refine DW.q (v := .bool ((decide (best < 0)) || (decide (d.getD x.toNat 0 < d.getD best.toNat 0)))) (fun _ h => h) rfl (q_move rfl) ?_
    refine DW.g (b := ((decide (best < 0)) || (decide (d.getD x.toNat 0 < d.getD best.toNat 0)))) (v := dv) (fun _ h => h) rfl rfl rfl (fun h => q_load rfl Try.underlying25 rfl (Cell.blk 1 rfl rfl)) ?_
    refine DW.g (b := ((decide (best < 0)) || (decide (d.getD x.toNat 0 < d.getD best.toNat 0)))) (v := .int .i64 x) (fun _ h => h) rfl rfl rfl (fun h => q_move rfl) ?_
    refine DW.g (b := ((decide (best < 0)) || (decide (d.getD x.toNat 0 < d.getD best.toNat 0)))) (v := .pointer (some (Value.at dv (x.toNat * 1)))) (fun _ h => h) rfl rfl rfl (fun h => q_indexAddr (gv_pos h) (gv_pos h) hd.sl Try.underlying25 sz3 (by simp [-List.getD_eq_getElem?_getD] at h; omega) (by simp [-List.getD_eq_getElem?_getD] at h; omega) rfl) ?_
    refine DW.g (b := ((decide (best < 0)) || (decide (d.getD x.toNat 0 < d.getD best.toNat 0)))) (v := .int .i64 (d.getD x.toNat 0)) (fun _ h => h) rfl rfl rfl (fun h => q_load (gv_pos h) Try.underlying3 rfl (Cell.repInt hd (by simp [-List.getD_eq_getElem?_getD] at h; omega))) ?_
    refine DW.g (b := ((decide (best < 0)) || (decide (d.getD x.toNat 0 < d.getD best.toNat 0)))) (v := dv) (fun _ h => h) rfl rfl rfl (fun h => q_load rfl Try.underlying25 rfl (Cell.blk 1 rfl rfl)) ?_
    refine DW.g (b := ((decide (best < 0)) || (decide (d.getD x.toNat 0 < d.getD best.toNat 0)))) (v := .int .i64 best) (fun _ h => h) rfl rfl rfl (fun h => q_load rfl Try.underlying3 rfl (Cell.blk 0 rfl rfl)) ?_
    refine DW.g (b := ((decide (best < 0)) || (decide (d.getD x.toNat 0 < d.getD best.toNat 0)))) (v := .pointer (some (Value.at dv (best.toNat * 1)))) (fun _ h => h) rfl rfl rfl (fun h => q_indexAddr (gv_pos h) (gv_pos h) hd.sl Try.underlying25 sz3 (by simp [-List.getD_eq_getElem?_getD] at h; omega) (by simp [-List.getD_eq_getElem?_getD] at h; omega) rfl) ?_
    refine DW.g (b := ((decide (best < 0)) || (decide (d.getD x.toNat 0 < d.getD best.toNat 0)))) (v := .int .i64 (d.getD best.toNat 0)) (fun _ h => h) rfl rfl rfl (fun h => q_load (gv_pos h) Try.underlying3 rfl (Cell.repInt hd (by simp [-List.getD_eq_getElem?_getD] at h; omega))) ?_
    refine DW.g (b := ((decide (best < 0)) || (decide (d.getD x.toNat 0 < d.getD best.toNat 0)))) (v := .bool (decide (d.getD x.toNat 0 = d.getD best.toNat 0))) (fun _ h => h) rfl rfl rfl (fun h => q_eql (gv_pos h) (gv_pos h)) ?_
    refine DW.g (b := ((decide (best < 0)) || (decide (d.getD x.toNat 0 < d.getD best.toNat 0)))) (v := .bool (decide (d.getD x.toNat 0 = d.getD best.toNat 0))) (fun _ h => h) rfl rfl rfl (fun h => q_move (gv_pos h)) ?_
    refine DW.g2 (b1 := ((decide (best < 0)) || (decide (d.getD x.toNat 0 < d.getD best.toNat 0)))) (b2 := (decide (d.getD x.toNat 0 = d.getD best.toNat 0))) (v := .int .i64 x) (fun _ h => h) rfl rfl rfl (fun h1 h2 => q_move rfl) ?_
    refine DW.g2 (b1 := ((decide (best < 0)) || (decide (d.getD x.toNat 0 < d.getD best.toNat 0)))) (b2 := (decide (d.getD x.toNat 0 = d.getD best.toNat 0))) (v := .int .i64 best) (fun _ h => h) rfl rfl rfl (fun h1 h2 => q_load rfl Try.underlying3 rfl (Cell.blk 0 rfl rfl)) ?_
    refine DW.g2 (b1 := ((decide (best < 0)) || (decide (d.getD x.toNat 0 < d.getD best.toNat 0)))) (b2 := (decide (d.getD x.toNat 0 = d.getD best.toNat 0))) (v := .bool (decide (x < best))) (fun _ h => h) rfl rfl rfl (fun h1 h2 => q_lss ((gv_pos h1).trans (gv_pos h2)) ((gv_pos h1).trans (gv_pos h2))) ?_
    refine DW.g (b := ((decide (best < 0)) || (decide (d.getD x.toNat 0 < d.getD best.toNat 0)))) (v := .bool ((decide (d.getD x.toNat 0 = d.getD best.toNat 0)) && (decide (x < best)))) (fun _ h => h) rfl rfl rfl (fun h => q_pick (gv_pos h) (fun hp => (gv_pos h).trans ((gv_pos hp).trans (pkAndT hp))) (fun hp => pkAndF hp)) ?_
    refine DW.q (v := .bool (((decide (best < 0)) || (decide (d.getD x.toNat 0 < d.getD best.toNat 0))) || ((decide (d.getD x.toNat 0 = d.getD best.toNat 0)) && (decide (x < best))))) (fun _ h => h) rfl (q_pick rfl (fun hp => pkOrT hp) (fun hp => (gv_pos hp).trans (pkOrF hp))) ?_
    refine DW.nil ?_
    refine Post.then_n ?_
    refine AW.cond (b := ((decide (best < 0)) || (decide (d.getD x.toNat 0 < d.getD best.toNat 0))) || ((decide (d.getD x.toNat 0 = d.getD best.toNat 0)) && (decide (x < best)))) rfl (fun hc2 => ?_) (fun hc2 => ?_)
    · simp [-List.getD_eq_getElem?_getD] at hc2
      refine AW.region ?_
      refine RW.q (v := .int .i64 x) rfl (q_move rfl) ?_
      refine RW.effn (J' := St B Φ [.blk bb 3 [.int .i64 x], .blk bd 25 [dv]]) (e_store (v := .int .i64 x) 0 rfl rfl rfl sz3 rfl rfl rfl rfl rfl) ?_
      refine RW.nil ?_
      refine fin_none (J' := St B Φ [.blk bb 3 [.int .i64 x], .blk bd 25 [dv]]) rfl rfl (fun _ h => h) (fun w' hw' => ⟨rfl, ?_⟩)
      have he : Gr.closeStep d best x = x := by
        unfold Gr.closeStep; split <;> (try split) <;> omega
      rw [he]; exact hw'
    · simp [-List.getD_eq_getElem?_getD] at hc2
      refine AW.skip ?_
      refine fin_none (J' := St B Φ [.blk bb 3 [.int .i64 best], .blk bd 25 [dv]]) rfl rfl (fun _ h => h) (fun w' hw' => ⟨rfl, ?_⟩)
      have he : Gr.closeStep d best x = best := by
        unfold Gr.closeStep; split <;> (try split) <;> omega
      rw [he]; exact hw'

set_option maxHeartbeats 400000 in
theorem closest_c (w : World) (Φ : Hp) (hΦ : Hp.le Φ (hp w)) {n : Nat} {arcs : List Gr.Arc} {fv dv : Value} {v : Int} {d : List Int} (hvis : IsVis Φ n arcs fv) (hd : RepSl Φ d dv) (hl : d.length = n) (hn : n ≤ 256) (hok : Gr.Ok n arcs) (hv : 0 ≤ v ∧ v < n) :
    Calls Try.prog 31 #[fv, dv, .int .i64 v] w fun e w' => e = .returned (.int .i64 (Gr.closest arcs d v)) ∧ Below w.heap.size w w' := by
  obtain ⟨bv, nv, rfl, hpc, hr⟩ := hvis
  refine calls_of_AW (args := [.func (.func 34) #[] #[.pointer (some (⟨bv, 0, none⟩))], dv, .int .i64 v]) Try.func31 rfl (Nat.le_of_ble_eq_true rfl) (St ⟨w, Φ, []⟩ Φ []) (StP.init w Φ hΦ []) ?_
  show AW Try.prog 13 [] _ _ _ [(0, .func (.func 34) #[] #[.pointer (some (⟨bv, 0, none⟩))]), (1, dv), (2, .int .i64 v)] _
  refine AW.seq ?_
  refine AW.region ?_
  refine RW.eff (fun b1 : Nat => .pointer (some (⟨b1, 0, none⟩))) (fun b1 => St ⟨w, Φ, []⟩ Φ [.blk b1 25 [dv]]) rfl (e_boxSl rfl hd.sl) ?_
  intro b1
  refine RW.q (v := .int .i64 0) rfl (q_assign rfl) ?_
  refine RW.nil ?_
  refine Post.then_n ?_
  refine AW.seq ?_
  refine AW.region ?_
  refine RW.eff (fun b2 : Nat => .pointer (some (⟨b2, 0, none⟩))) (fun b2 => St ⟨w, Φ, []⟩ Φ [.blk b2 3 [.int .i64 0], .blk b1 25 [dv]]) rfl (e_alloc zero3) ?_
  intro b2
  refine RW.effn (J' := St ⟨w, Φ, []⟩ Φ [.blk b2 3 [.int .i64 (-1)], .blk b1 25 [dv]]) (e_store (v := .int .i64 (-1)) 0 rfl rfl rfl sz3 rfl rfl rfl rfl rfl) ?_
  refine RW.nil ?_
  refine Post.then_n ?_
  refine AW.seq ?_
  refine AW.region ?_
  refine RW.q (v := .func (.func 34) #[] #[.pointer (some (⟨bv, 0, none⟩))]) rfl (q_move rfl) ?_
  refine RW.q (v := .int .i64 v) rfl (q_move rfl) ?_
  refine RW.q (v := .func (.func 36) #[] #[.pointer (some (⟨b1, 0, none⟩)), .pointer (some (⟨b2, 0, none⟩))]) rfl (q_makeFunc rfl rfl) ?_
  have hstp : ∀ k (best : Int), k < (Gr.succs arcs v).length → (fun k (best : Int) => best = ((Gr.succs arcs v).take k).foldl (Gr.closeStep d) (-1)) k best → ∀ w2, ((fun best : Int => St ⟨w, Φ, []⟩ Φ [.blk b2 3 [.int .i64 best], .blk b1 25 [dv]]) best).p w2 → Calls Try.prog 36 (#[.int .i64 ((Gr.succs arcs v).getD k 0)] ++ #[.pointer (some ⟨b1, 0, none⟩), .pointer (some ⟨b2, 0, none⟩)]) w2 fun e w' => ∃ y : {best : Int // (fun k (best : Int) => best = ((Gr.succs arcs v).take k).foldl (Gr.closeStep d) (-1)) (k + 1) best}, e = .returned (.tuple #[]) ∧ ((fun best : Int => St ⟨w, Φ, []⟩ Φ [.blk b2 3 [.int .i64 best], .blk b1 25 [dv]]) y.1).p w' := by
    intro k best hk hbest w2 hw2
    have hm : ∀ x ∈ Gr.succs arcs v, 0 ≤ x ∧ x < (n : Int) := fun x hx => (hok _ (Gr.mem_succs.1 hx)).2
    have hbr : -1 ≤ best ∧ best < (n : Int) := by rw [show best = _ from hbest]; exact Gr.fold_range _ _ (by omega) (fun x hx => hm x (List.mem_of_mem_take hx))
    have hx := hm _ (List.mem_of_getElem? (getD_some (d := 0) hk))
    refine (cvisit_c hd hl hx hbr w2 hw2).mono fun e w' ⟨he, hy⟩ => ⟨⟨_, ?_⟩, he, hy⟩
    show Gr.closeStep d best ((Gr.succs arcs v).getD k 0) = ((Gr.succs arcs v).take (k + 1)).foldl (Gr.closeStep d) (-1)
    rw [show best = _ from hbest, List.take_succ_eq_append_getElem hk, List.foldl_append]
    simp [List.getD_eq_getElem?_getD, hk]
  refine RW.eff (fun x : {best : Int // best = Gr.closest arcs d v} => .tuple #[]) (fun x => St ⟨w, Φ, []⟩ Φ [.blk b2 3 [.int .i64 x.1], .blk b1 25 [dv]]) rfl (e_call (args := #[.int .i64 v, .func (.func 36) #[] #[.pointer (some (⟨b1, 0, none⟩)), .pointer (some (⟨b2, 0, none⟩))], .pointer (some (⟨bv, 0, none⟩))]) own34 rfl rfl (fun w1 hw1 => (vis_c (fun best : Int => St ⟨w, Φ, []⟩ Φ [.blk b2 3 [.int .i64 best], .blk b1 25 [dv]]) (fun k (best : Int) => best = ((Gr.succs arcs v).take k).foldl (Gr.closeStep d) (-1)) (Gr.succs arcs v) (fun x w hw => hw.phi) hpc hr (by omega) (by rw [Gr.table_len]; omega) (by rw [Gr.table_get (by omega)]; congr 1; omega) own36 hstp (-1) (by simp) w1 hw1).mono fun e w' ⟨y, he, hy⟩ => ⟨⟨y.1, y.2.trans (by rw [List.take_length]; rfl)⟩, he, hy⟩)) ?_
  rintro ⟨_, rfl⟩
  refine RW.nil ?_
  refine Post.then_n ?_
  refine AW.seq ?_
  refine AW.region ?_
  refine RW.q (v := .int .i64 (Gr.closest arcs d v)) rfl (q_load rfl Try.underlying3 rfl (Cell.blk 0 rfl rfl)) ?_
  refine RW.q (v := .int .i64 (Gr.closest arcs d v)) rfl (q_assign rfl) ?_
  refine RW.nil ?_
  refine Post.then_n ?_
  refine AW.ret ?_
  exact fin_val (v' := .int .i64 (Gr.closest arcs d v)) rfl rfl rfl (rfl)

set_option maxHeartbeats 1000000 in
theorem reached_t (w : World) (Φ : Hp) (hΦ : Hp.le Φ (hp w)) {n : Nat} {arcs : List Gr.Arc} {v1 : Value} (h1 : RepSl Φ arcs v1) (hrt : Gr.rightB n arcs = true) {v : Int} :
    Calls Try.prog 32 #[.int .i64 (n : Int), v1, .int .i64 v] w (RetS noHp w fun r Ψ => RepSl Ψ (Gr.downM n arcs v) r) := by
  refine calls_of_AW (args := [.int .i64 (n : Int), v1, .int .i64 v]) Try.func32 rfl (Nat.le_of_ble_eq_true rfl) (St ⟨w, Φ, []⟩ Φ []) (StP.init w Φ hΦ []) ?_
  show AW Try.prog 43 [] _ _ _ [(0, .int .i64 (n : Int)), (1, v1), (2, .int .i64 v)] _
  obtain ⟨hn, har, hok⟩ := Gr.right_ok hrt
  rw [Int.toNat_natCast] at hok
  have hn2 : n ≤ 256 := by omega
  clear hn
  have hmh1 : arcs.length * 16 ≤ 140737488355328 := h1.max
  refine AW.seq ?_
  refine AW.region ?_
  refine RW.q (v := (.slice none 0 0)) rfl (q_assign rfl) ?_
  refine RW.nil ?_
  refine Post.then_n ?_
  refine AW.seq ?_
  refine AW.seq ?_
  refine AW.region ?_
  refine RW.q (v := .int .i64 (n : Int)) rfl (q_move rfl) ?_
  refine RW.q (v := v1) rfl (q_move rfl) ?_
  refine RW.q (v := .bool (Gr.rightB (n : Int) arcs)) rfl (q_call (args := #[.int .i64 (n : Int), v1]) own10 rfl rfl (fun w1 hw1 => Right_c w1 Φ hw1.phi h1)) ?_
  refine RW.q (v := .bool (!(Gr.rightB (n : Int) arcs))) rfl (q_not rfl) ?_
  refine RW.q (v := .bool (!(Gr.rightB (n : Int) arcs))) rfl (q_move rfl) ?_
  refine RW.g (b := (!(Gr.rightB (n : Int) arcs))) (v := .int .i64 v) rfl rfl rfl (fun h => q_move rfl) ?_
  refine RW.g (b := (!(Gr.rightB (n : Int) arcs))) (v := .bool (decide (v < 0))) rfl rfl rfl (fun h => q_lss (gv_pos h) rfl) ?_
  refine RW.q (v := .bool ((!(Gr.rightB (n : Int) arcs)) || (decide (v < 0)))) rfl (q_pick rfl (fun hp => pkOrT hp) (fun hp => (gv_pos hp).trans (pkOrF hp))) ?_
  refine RW.q (v := .bool ((!(Gr.rightB (n : Int) arcs)) || (decide (v < 0)))) rfl (q_move rfl) ?_
  refine RW.g (b := ((!(Gr.rightB (n : Int) arcs)) || (decide (v < 0)))) (v := .int .i64 v) rfl rfl rfl (fun h => q_move rfl) ?_
  refine RW.g (b := ((!(Gr.rightB (n : Int) arcs)) || (decide (v < 0)))) (v := .int .i64 (n : Int)) rfl rfl rfl (fun h => q_move rfl) ?_
  refine RW.g (b := ((!(Gr.rightB (n : Int) arcs)) || (decide (v < 0)))) (v := .bool (decide ((n : Int) ≤ v))) rfl rfl rfl (fun h => q_geq (gv_pos h) (gv_pos h)) ?_
  refine RW.q (v := .bool (((!(Gr.rightB (n : Int) arcs)) || (decide (v < 0))) || (decide ((n : Int) ≤ v)))) rfl (q_pick rfl (fun hp => pkOrT hp) (fun hp => (gv_pos hp).trans (pkOrF hp))) ?_
  refine RW.nil ?_
  refine Post.then_n ?_
  refine AW.cond (b := ((!(Gr.rightB (n : Int) arcs)) || (decide (v < 0))) || (decide ((n : Int) ≤ v))) rfl (fun hc1 => ?_) (fun hc1 => ?_)
  · simp [-List.getD_eq_getElem?_getD] at hc1
    simp [hrt] at hc1
    refine AW.seq ?_
    refine AW.region ?_
    refine RW.q (v := (.slice none 0 0)) rfl (q_assign rfl) ?_
    refine RW.nil ?_
    refine Post.then_n ?_
    refine AW.ret ?_
    refine Post.then_r ?_
    rw [Gr.downM, if_neg (by omega)]
    exact fin_rep rfl rfl rfl (fun w' hw => repSl_nil)
  · simp [-List.getD_eq_getElem?_getD] at hc1
    simp [hrt] at hc1
    refine AW.skip ?_
    refine Post.then_n ?_
    refine AW.seq ?_
    refine AW.region ?_
    refine RW.q (v := (.slice none 0 0)) rfl (q_assign rfl) ?_
    refine RW.nil ?_
    refine Post.then_n ?_
    refine AW.seq ?_
    refine AW.seq ?_
    refine AW.region ?_
    refine RW.q (v := .int .i64 (n : Int)) rfl (q_move rfl) ?_
    refine RW.q (v := .int .i64 (n : Int)) rfl (q_move rfl) ?_
    refine RW.q (v := v1) rfl (q_move rfl) ?_
    refine RW.eff (fun x : {y : Value × Hp // (fun r Ψ => IsVis Ψ n arcs r) y.1 y.2 ∧ Hp.le Φ y.2} => x.1.1) (fun x => St ⟨w, Φ, []⟩ x.1.2 []) rfl (e_callS (T := fun r Ψ => IsVis Ψ n arcs r) (args := #[.int .i64 (n : Int), v1]) own27 rfl rfl (fun w1 hw1 => (visitor_c w1 Φ hw1.phi h1 (by omega) (by first | omega | (simp [Gr.rev]; omega)) hok).mono fun _ _ => retS_up (fun _ _ _ hl h => h.mono hl))) ?_
    rintro ⟨⟨fv1, Φ1⟩, hvis1, hlΦ1⟩
    replace hvis1 : IsVis Φ1 n arcs fv1 := hvis1
    replace hlΦ1 : Hp.le Φ Φ1 := hlΦ1
    replace h1 := h1.mono hlΦ1
    refine RW.q (v := .int .i64 v) rfl (q_move rfl) ?_
    refine RW.eff (fun x : {y : Value × Hp // (fun r Ψ => RepSl Ψ (Gr.distL n arcs v) r) y.1 y.2 ∧ Hp.le Φ1 y.2} => x.1.1) (fun x => St ⟨w, Φ, []⟩ x.1.2 []) rfl (e_callS (T := fun r Ψ => RepSl Ψ (Gr.distL n arcs v) r) (args := #[.int .i64 (n : Int), fv1, .int .i64 v]) own30 rfl rfl (fun w1 hw1 => (distances_c w1 Φ1 hw1.phi hvis1 (by omega) hok (by omega)).mono fun _ _ => retS_up (fun _ _ _ hl h => h.mono hl))) ?_
    rintro ⟨⟨dv1, Φ2⟩, hd1, hlΦ2⟩
    replace hd1 : RepSl Φ2 (Gr.distL n arcs v) dv1 := hd1
    replace hlΦ2 : Hp.le Φ1 Φ2 := hlΦ2
    replace h1 := h1.mono hlΦ2
    replace hvis1 := hvis1.mono hlΦ2
    refine RW.q (v := .int .i64 (((Gr.distL n arcs v).length : Nat) : Int)) rfl (q_len_sl rfl hd1.sl Try.underlying25) ?_
    refine RW.q (v := .int .i64 0) rfl (q_move rfl) ?_
    refine RW.nil ?_
    refine Post.then_n ?_
    refine AW.block ?_
    have hdl := (Gr.distL_is hok (v := v) (by omega)).1
    have hrl := fun k => Gr.reachL_len k (Gr.distL n arcs v)
    refine AW.loop (fun s J m => ∃ (k : Nat), ∃ (lv : Value), s = [(28, dv1), (29, .int .i64 (((Gr.distL n arcs v).length : Nat) : Int)), (30, .int .i64 (k : Int)), (7, lv)] ∧ J = St ⟨w, Φ, []⟩ Φ2 [.row lv 3 1 ((Gr.reachL k (Gr.distL n arcs v)).length) ((Gr.reachL k (Gr.distL n arcs v)).map (Value.int .i64))] ∧ m = n - k ∧ (k ≤ n) ∧ (IsSl lv (Gr.reachL k (Gr.distL n arcs v)).length)) (s0 := _) (J1 := _) (m0 := _) ⟨0, _, rfl, rfl, rfl, (by omega), isSl_nil⟩ ⟨rfl, rfl, rfl, rfl, trivial⟩ (fun _ h => addNil h) ?_
    rintro _ _ _ _ ⟨k, lv, rfl, rfl, rfl, hk, hlv⟩
    have hrlk := hrl k
    refine AW.seq ?_
    refine AW.region ?_
    refine RW.q (v := .bool (decide ((k : Int) < (((Gr.distL n arcs v).length : Nat) : Int)))) rfl (q_lss rfl rfl) ?_
    refine RW.nil ?_
    refine Post.then_n ?_
    refine AW.seq ?_
    refine AW.cond (b := decide ((k : Int) < (((Gr.distL n arcs v).length : Nat) : Int))) rfl (fun hc2 => ?_) (fun hc2 => ?_)
    · simp [-List.getD_eq_getElem?_getD] at hc2
      refine AW.skip ?_
      refine Post.then_n ?_
      refine AW.seq ?_
      refine AW.block ?_
      refine AW.seq ?_
      refine AW.region ?_
      refine RW.q (v := .int .i64 (k : Int)) rfl (q_move rfl) ?_
      refine RW.q (v := .pointer (some (Value.at dv1 (k * 1)))) rfl (q_indexAddr rfl rfl hd1.sl Try.underlying25 sz3 (by omega) (by omega) rfl) ?_
      refine RW.q (v := .int .i64 ((Gr.distL n arcs v).getD k 0)) rfl (q_load rfl Try.underlying3 rfl (Cell.repInt hd1 (by omega))) ?_
      refine RW.q (v := .int .i64 (k : Int)) rfl (q_assign rfl) ?_
      refine RW.q (v := .int .i64 ((Gr.distL n arcs v).getD k 0)) rfl (q_assign rfl) ?_
      refine RW.nil ?_
      refine Post.then_n ?_
      refine AW.seq ?_
      refine AW.region ?_
      refine RW.q (v := .int .i64 ((Gr.distL n arcs v).getD k 0)) rfl (q_move rfl) ?_
      refine RW.q (v := .bool (decide ((0 : Int) ≤ (Gr.distL n arcs v).getD k 0))) rfl (q_geq rfl rfl) ?_
      refine RW.nil ?_
      refine Post.then_n ?_
      refine AW.cond (b := decide ((0 : Int) ≤ (Gr.distL n arcs v).getD k 0)) rfl (fun hc3 => ?_) (fun hc3 => ?_)
      · simp [-List.getD_eq_getElem?_getD] at hc3
        refine AW.region ?_
        refine RW.q (v := lv) rfl (q_move rfl) ?_
        refine RW.q (v := .int .i64 (k : Int)) rfl (q_move rfl) ?_
        refine RW.eff (fun b1 : Nat => (.slice (some ⟨b1, 0, none⟩) 1 1)) (fun b1 => St ⟨w, Φ, []⟩ Φ2 [.row (.slice (some ⟨b1, 0, none⟩) 1 1) 3 1 1 ([.int .i64 (k : Int)]), .row lv 3 1 ((Gr.reachL k (Gr.distL n arcs v)).length) ((Gr.reachL k (Gr.distL n arcs v)).map (Value.int .i64))]) rfl (e_buildSlice (vals := [(0, .int .i64 (k : Int))]) (cells := [.int .i64 (k : Int)]) Try.underlying25 inf3 rfl rfl rfl (by kernel_rfl) rfl) ?_
        intro b1
        refine RW.eff (fun xv : {vq : Value // IsSl vq ((Gr.reachL k (Gr.distL n arcs v)).length + 1)} => xv.1) (fun xv => St ⟨w, Φ, []⟩ Φ2 [.row (.slice (some ⟨b1, 0, none⟩) 1 1) 3 1 1 ([.int .i64 (k : Int)]), .row xv.1 3 1 (((Gr.reachL k (Gr.distL n arcs v)) ++ [(k : Int)]).length) (((Gr.reachL k (Gr.distL n arcs v)) ++ [(k : Int)]).map (Value.int .i64))]) rfl (e_append 1 rfl rfl rfl Try.underlying25 inf3 rfl rfl rfl (Cells.row0 0 rfl) rfl (by omega) (by omega) (fun _ => by simp)) ?_
        rintro ⟨va1, hva1⟩
        refine RW.wk (J' := St ⟨w, Φ, []⟩ Φ2 [.row va1 3 1 (((Gr.reachL k (Gr.distL n arcs v)) ++ [(k : Int)]).length) (((Gr.reachL k (Gr.distL n arcs v)) ++ [(k : Int)]).map (Value.int .i64))]) (fun _ h => StP.drop h (by exact .cons _ (.cons_cons _ (.slnil)))) ?_
        refine RW.q (v := va1) rfl (q_assign rfl) ?_
        refine RW.nil ?_
        refine Post.blk_n (Post.then_n ?_)
        refine AW.region ?_
        refine RW.q (v := .int .i64 ((k + 1 : Nat) : Int)) rfl (q_add rfl rfl (by omega) (by unfold I64; omega)) ?_
        refine RW.q (v := .int .i64 ((k + 1 : Nat) : Int)) rfl (q_move rfl) ?_
        refine RW.nil ?_
        have hrs := Gr.reachL_step (k := k) (d := Gr.distL n arcs v)
        rw [if_pos (by omega)] at hrs
        exact Post.back (s' := _) (J' := _) (m' := _) (by omega) ⟨k + 1, va1, rfl, rfl, rfl, (by omega), (by rw [hrs]; simpa using hva1)⟩ ⟨rfl, rfl, rfl, rfl, trivial⟩ (fun _ h => by rw [hrs]; simpa using h)
      · simp [-List.getD_eq_getElem?_getD] at hc3
        refine AW.skip ?_
        refine Post.blk_n (Post.then_n ?_)
        refine AW.region ?_
        refine RW.q (v := .int .i64 ((k + 1 : Nat) : Int)) rfl (q_add rfl rfl (by omega) (by unfold I64; omega)) ?_
        refine RW.q (v := .int .i64 ((k + 1 : Nat) : Int)) rfl (q_move rfl) ?_
        refine RW.nil ?_
        have hrs := Gr.reachL_step (k := k) (d := Gr.distL n arcs v)
        rw [if_neg (by omega)] at hrs
        exact Post.back (s' := _) (J' := _) (m' := _) (by omega) ⟨k + 1, lv, rfl, rfl, rfl, (by omega), (by rw [hrs]; exact hlv)⟩ ⟨rfl, rfl, rfl, rfl, trivial⟩ (fun _ h => by rw [hrs]; exact h)
    · simp [-List.getD_eq_getElem?_getD] at hc2
      refine AW.exit ?_
      refine Post.then_x (Post.then_x (Post.blk_hit (Post.then_n ?_)))
      refine AW.seq ?_
      refine AW.region ?_
      refine RW.q (v := lv) rfl (q_move rfl) ?_
      refine RW.q (v := lv) rfl (q_assign rfl) ?_
      refine RW.nil ?_
      refine Post.then_n ?_
      refine AW.ret ?_
      obtain rfl : k = n := by omega
      rw [Gr.downM, if_pos ⟨hrt, by omega⟩, Int.toNat_natCast]
      have hrl := Gr.reachL_len k (Gr.distL k arcs v)
      refine fin_rep rfl rfl rfl (fun w' hw => RowS.ints (row_ext hw 0 rfl) (by simp only [maxSl]; omega) (fun x hx => ?_))
      have := Gr.reachL_mem.1 hx
      unfold I64; omega

set_option maxHeartbeats 1000000 in
theorem reached_f (w : World) (Φ : Hp) (hΦ : Hp.le Φ (hp w)) {n : Int} {arcs : List Gr.Arc} {v1 : Value} (h1 : RepSl Φ arcs v1) (hrf : Gr.rightB n arcs = false) {v : Int} :
    Calls Try.prog 32 #[.int .i64 n, v1, .int .i64 v] w (RetS noHp w fun r Ψ => RepSl Ψ (Gr.downM n arcs v) r) := by
  refine calls_of_AW (args := [.int .i64 n, v1, .int .i64 v]) Try.func32 rfl (Nat.le_of_ble_eq_true rfl) (St ⟨w, Φ, []⟩ Φ []) (StP.init w Φ hΦ []) ?_
  show AW Try.prog 43 [] _ _ _ [(0, .int .i64 n), (1, v1), (2, .int .i64 v)] _
  refine AW.seq ?_
  refine AW.region ?_
  refine RW.q (v := (.slice none 0 0)) rfl (q_assign rfl) ?_
  refine RW.nil ?_
  refine Post.then_n ?_
  refine AW.seq ?_
  refine AW.seq ?_
  refine AW.region ?_
  refine RW.q (v := .int .i64 n) rfl (q_move rfl) ?_
  refine RW.q (v := v1) rfl (q_move rfl) ?_
  refine RW.q (v := .bool (Gr.rightB n arcs)) rfl (q_call (args := #[.int .i64 n, v1]) own10 rfl rfl (fun w1 hw1 => Right_c w1 Φ hw1.phi h1)) ?_
  refine RW.q (v := .bool (!(Gr.rightB n arcs))) rfl (q_not rfl) ?_
  refine RW.q (v := .bool (!(Gr.rightB n arcs))) rfl (q_move rfl) ?_
  refine RW.g (b := (!(Gr.rightB n arcs))) (v := .int .i64 v) rfl rfl rfl (fun h => q_move rfl) ?_
  refine RW.g (b := (!(Gr.rightB n arcs))) (v := .bool (decide (v < 0))) rfl rfl rfl (fun h => q_lss (gv_pos h) rfl) ?_
  refine RW.q (v := .bool ((!(Gr.rightB n arcs)) || (decide (v < 0)))) rfl (q_pick rfl (fun hp => pkOrT hp) (fun hp => (gv_pos hp).trans (pkOrF hp))) ?_
  refine RW.q (v := .bool ((!(Gr.rightB n arcs)) || (decide (v < 0)))) rfl (q_move rfl) ?_
  refine RW.g (b := ((!(Gr.rightB n arcs)) || (decide (v < 0)))) (v := .int .i64 v) rfl rfl rfl (fun h => q_move rfl) ?_
  refine RW.g (b := ((!(Gr.rightB n arcs)) || (decide (v < 0)))) (v := .int .i64 n) rfl rfl rfl (fun h => q_move rfl) ?_
  refine RW.g (b := ((!(Gr.rightB n arcs)) || (decide (v < 0)))) (v := .bool (decide (n ≤ v))) rfl rfl rfl (fun h => q_geq (gv_pos h) (gv_pos h)) ?_
  refine RW.q (v := .bool (((!(Gr.rightB n arcs)) || (decide (v < 0))) || (decide (n ≤ v)))) rfl (q_pick rfl (fun hp => pkOrT hp) (fun hp => (gv_pos hp).trans (pkOrF hp))) ?_
  refine RW.nil ?_
  refine Post.then_n ?_
  refine AW.cond (b := ((!(Gr.rightB n arcs)) || (decide (v < 0))) || (decide (n ≤ v))) rfl (fun hc1 => ?_) (fun hc1 => ?_)
  · simp [-List.getD_eq_getElem?_getD] at hc1
    refine AW.seq ?_
    refine AW.region ?_
    refine RW.q (v := (.slice none 0 0)) rfl (q_assign rfl) ?_
    refine RW.nil ?_
    refine Post.then_n ?_
    refine AW.ret ?_
    refine Post.then_r ?_
    rw [Gr.downM, if_neg (by simp [hrf])]
    exact fin_rep rfl rfl rfl (fun w' hw => repSl_nil)
  · simp [-List.getD_eq_getElem?_getD] at hc1
    simp [hrf] at hc1

theorem reached_c (w : World) (Φ : Hp) (hΦ : Hp.le Φ (hp w)) {n : Int} {arcs : List Gr.Arc} {v1 : Value} (h1 : RepSl Φ arcs v1) {v : Int} :
    Calls Try.prog 32 #[.int .i64 n, v1, .int .i64 v] w (RetS noHp w fun r Ψ => RepSl Ψ (Gr.downM n arcs v) r) := by
  cases h : Gr.rightB n arcs with
  | false => exact reached_f w Φ hΦ h1 h
  | true =>
    obtain ⟨N, rfl⟩ := Int.eq_ofNat_of_zero_le (Gr.right_ok h).1.1
    exact reached_t w Φ hΦ h1 h

set_option maxHeartbeats 1000000 in
theorem Down_c (w : World) (Φ : Hp) (hΦ : Hp.le Φ (hp w)) {arcs : List Gr.Arc} {v1 : Value} (h1 : RepSl Φ arcs v1) {n v : Int} :
    Calls Try.prog 19 #[.int .i64 n, v1, .int .i64 v] w (RetS noHp w fun r Ψ => RepSl Ψ (Gr.downM n arcs v) r) := by
  refine calls_of_AW (args := [.int .i64 n, v1, .int .i64 v]) Try.func19 rfl (Nat.le_of_ble_eq_true rfl) (St ⟨w, Φ, []⟩ Φ []) (StP.init w Φ hΦ []) ?_
  show AW Try.prog 11 [] _ _ _ [(0, .int .i64 n), (1, v1), (2, .int .i64 v)] _
  refine AW.seq ?_
  refine AW.region ?_
  refine RW.q (v := (.slice none 0 0)) rfl (q_assign rfl) ?_
  refine RW.nil ?_
  refine Post.then_n ?_
  refine AW.seq ?_
  refine AW.region ?_
  refine RW.q (v := .int .i64 n) rfl (q_move rfl) ?_
  refine RW.q (v := v1) rfl (q_move rfl) ?_
  refine RW.q (v := .int .i64 v) rfl (q_move rfl) ?_
  refine RW.eff (fun x : {y : Value × Hp × Hp // (fun r Ψ => RepSl Ψ (Gr.downM n arcs v) r) y.1 y.2.2 ∧ Hp.le Φ y.2.1 ∧ Hp.le y.2.2 y.2.1 ∧ ∀ b o, y.2.2 b = some o → w.heap.size ≤ b} => x.1.1) (fun x => St ⟨w, Φ, []⟩ x.1.2.1 []) rfl (e_callF (T := fun r Ψ => RepSl Ψ (Gr.downM n arcs v) r) (args := #[.int .i64 n, v1, .int .i64 v]) own32 rfl rfl (fun w1 hw1 => reached_c w1 Φ hw1.phi h1)) ?_
  rintro ⟨⟨dv1, Φ1, Φ1n⟩, hd1, hlΦ1, hleΦ1, hfrΦ1⟩
  replace hd1 : RepSl Φ1n (Gr.downM n arcs v) dv1 := hd1
  replace hlΦ1 : Hp.le Φ Φ1 := hlΦ1
  refine RW.q (v := dv1) rfl (q_assign rfl) ?_
  refine RW.nil ?_
  refine Post.then_n ?_
  refine AW.ret ?_
  exact fin_rep rfl rfl rfl (fun w' hw => RepSl.mono hd1 (fresh_ext hw hleΦ1 hfrΦ1))

set_option maxHeartbeats 1000000 in
theorem Up_c (w : World) (Φ : Hp) (hΦ : Hp.le Φ (hp w)) {arcs : List Gr.Arc} {v1 : Value} (h1 : RepSl Φ arcs v1) {n v : Int} (har : arcs.length ≤ 4096) :
    Calls Try.prog 24 #[.int .i64 n, v1, .int .i64 v] w (RetS noHp w fun r Ψ => RepSl Ψ (Gr.downM n (Gr.rev arcs) v) r) := by
  refine calls_of_AW (args := [.int .i64 n, v1, .int .i64 v]) Try.func24 rfl (Nat.le_of_ble_eq_true rfl) (St ⟨w, Φ, []⟩ Φ []) (StP.init w Φ hΦ []) ?_
  show AW Try.prog 12 [] _ _ _ [(0, .int .i64 n), (1, v1), (2, .int .i64 v)] _
  refine AW.seq ?_
  refine AW.region ?_
  refine RW.q (v := (.slice none 0 0)) rfl (q_assign rfl) ?_
  refine RW.nil ?_
  refine Post.then_n ?_
  refine AW.seq ?_
  refine AW.region ?_
  refine RW.q (v := .int .i64 n) rfl (q_move rfl) ?_
  refine RW.q (v := v1) rfl (q_move rfl) ?_
  refine RW.eff (fun x : {y : Value × Hp // (fun r Ψ => RepSl Ψ (Gr.rev arcs) r) y.1 y.2 ∧ Hp.le Φ y.2} => x.1.1) (fun x => St ⟨w, Φ, []⟩ x.1.2 []) rfl (e_callS (T := fun r Ψ => RepSl Ψ (Gr.rev arcs) r) (args := #[v1]) own29 rfl rfl (fun w1 hw1 => (reverse_c w1 Φ hw1.phi h1 (by omega)).mono fun _ _ => retS_up (fun _ _ _ hl h => h.mono hl))) ?_
  rintro ⟨⟨rv1, Φ1⟩, hrv1, hlΦ1⟩
  replace hrv1 : RepSl Φ1 (Gr.rev arcs) rv1 := hrv1
  replace hlΦ1 : Hp.le Φ Φ1 := hlΦ1
  refine RW.q (v := .int .i64 v) rfl (q_move rfl) ?_
  refine RW.eff (fun x : {y : Value × Hp × Hp // (fun r Ψ => RepSl Ψ (Gr.downM n (Gr.rev arcs) v) r) y.1 y.2.2 ∧ Hp.le Φ1 y.2.1 ∧ Hp.le y.2.2 y.2.1 ∧ ∀ b o, y.2.2 b = some o → w.heap.size ≤ b} => x.1.1) (fun x => St ⟨w, Φ, []⟩ x.1.2.1 []) rfl (e_callF (T := fun r Ψ => RepSl Ψ (Gr.downM n (Gr.rev arcs) v) r) (args := #[.int .i64 n, rv1, .int .i64 v]) own32 rfl rfl (fun w1 hw1 => reached_c w1 Φ1 hw1.phi hrv1)) ?_
  rintro ⟨⟨dv1, Φ2, Φ2n⟩, hd1, hlΦ2, hleΦ2, hfrΦ2⟩
  replace hd1 : RepSl Φ2n (Gr.downM n (Gr.rev arcs) v) dv1 := hd1
  replace hlΦ2 : Hp.le Φ1 Φ2 := hlΦ2
  replace hrv1 := hrv1.mono hlΦ2
  refine RW.q (v := dv1) rfl (q_assign rfl) ?_
  refine RW.nil ?_
  refine Post.then_n ?_
  refine AW.ret ?_
  exact fin_rep rfl rfl rfl (fun w' hw => RepSl.mono hd1 (fresh_ext hw hleΦ2 hfrΦ2))

end Go.Proofs.Ytjkoojeampaeeaa
