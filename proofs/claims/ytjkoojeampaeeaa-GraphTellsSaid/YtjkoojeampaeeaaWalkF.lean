/- The walks of layer 11 (part WalkF), printed by walk.py. Conditions: those of each theorem. -/
import Derived.Test.YtjkoojeampaeeaaWalkE
namespace Go.Proofs.Ytjkoojeampaeeaa
open Go Go.K Go.RowKit

/-- the chunks of an order -/
abbrev CO (b2 n : Nat) (wv lv : Value) (L W : List Int) : List Chunk := [.row lv 3 1 L.length (L.map (Value.int .i64)), .blk b2 25 [wv], .row wv 3 1 n (W.map (Value.int .i64))]
theorem mem_snoc {p : Int → Prop} {L : List Int} {v : Int} (h : ∀ x ∈ L, p x) (hv : p v) : ∀ x ∈ L ++ [v], p x := fun x hx => by
  rcases List.mem_append.1 hx with h1 | h1
  · exact h x h1
  · obtain rfl : x = v := by simpa using h1
    exact hv
theorem order_bd {n : Nat} {arcs : List Gr.Arc} {L : List Int} {v i : Nat} (hi : i < n) : -1 ≤ ((Gr.waitL n arcs L).set v (-1)).getD i 0 ∧ ((Gr.waitL n arcs L).set v (-1)).getD i 0 ≤ arcs.length := by
  have h := Gr.waitV_bd arcs L (i : Int)
  have hl : i < (Gr.waitL n arcs L).length := by rw [Gr.waitL_len]; exact hi
  by_cases hvi : v = i
  · subst hvi; simp [List.getD_eq_getElem?_getD, hl]
  · rw [← Gr.waitL_get hi] at h
    simp only [List.getD_eq_getElem?_getD] at h ⊢
    rw [List.getElem?_set_ne hvi]; exact h
set_option maxHeartbeats 400000 in
theorem ovisit_c {B : Bs} {Φ : Hp} {b2 n : Nat} {x : Int} {L W : List Int} {wv lv : Value} (hwv : IsSl wv n) (hWl : W.length = n) (hx : 0 ≤ x ∧ x < n) (hr : -10000 ≤ W.getD x.toNat 0 ∧ W.getD x.toNat 0 ≤ 10000)
    (w : World) (hW : (St B Φ (CO b2 n wv lv L W)).p w) : Calls Try.prog 28 #[.int .i64 x, .pointer (some ⟨b2, 0, none⟩)] w fun e w' =>
      e = .returned (.tuple #[]) ∧ (St B Φ (CO b2 n wv lv L (Gr.dec W x))).p w' := by
  refine calls_of_AW (args := [.int .i64 x, .pointer (some (⟨b2, 0, none⟩))]) Try.func28 rfl (Nat.le_of_ble_eq_true rfl) (St B Φ [.row lv 3 1 L.length (L.map (Value.int .i64)), .blk b2 25 [wv], .row wv 3 1 n (W.map (Value.int .i64))]) hW ?_
  show AW Try.prog 9 [] _ _ _ [(0, .int .i64 x), (1, .pointer (some (⟨b2, 0, none⟩)))] _
  refine AW.region ?_
  refine RW.q (v := wv) rfl (q_load rfl Try.underlying25 rfl (Cell.blk 1 rfl rfl)) ?_
  refine RW.q (v := .int .i64 x) rfl (q_move rfl) ?_
  refine RW.q (v := .pointer (some (Value.at wv (x.toNat * 1)))) rfl (q_indexAddr rfl rfl hwv Try.underlying25 sz3 (by omega) (by omega) rfl) ?_
  refine RW.q (v := .int .i64 ((W).getD x.toNat 0)) rfl (q_load rfl Try.underlying3 rfl (Cell.rowInt 2 rfl (by omega))) ?_
  refine RW.q (v := .int .i64 (((W).getD x.toNat 0) - 1)) rfl (q_sub rfl rfl (by omega) (by unfold I64; omega)) ?_
  refine RW.q (v := .pointer (some (Value.at wv (x.toNat * 1)))) rfl (q_indexAddr rfl rfl hwv Try.underlying25 sz3 (by omega) (by omega) rfl) ?_
  refine RW.effn (J' := St B Φ [.row lv 3 1 L.length (L.map (Value.int .i64)), .blk b2 25 [wv], .row wv 3 1 n ((W.set x.toNat (((W).getD x.toNat 0) - 1)).map (Value.int .i64))]) (e_storeRow (v := .int .i64 (((W).getD x.toNat 0) - 1)) 2 rfl rfl rfl sz3 rfl rfl (by simp [-List.getD_eq_getElem?_getD]; omega) (splice_int (by omega)) rfl) ?_
  refine RW.nil ?_
  exact fin_none (J' := St B Φ [.row lv 3 1 L.length (L.map (Value.int .i64)), .blk b2 25 [wv], .row wv 3 1 n ((W.set x.toNat (((W).getD x.toNat 0) - 1)).map (Value.int .i64))]) rfl rfl (fun _ h => h) (fun w' hw' => ⟨rfl, hw'⟩)

set_option maxHeartbeats 1000000 in
theorem Order_t (w : World) (Φ : Hp) (hΦ : Hp.le Φ (hp w)) {n : Nat} {arcs : List Gr.Arc} {v1 : Value} (h1 : RepSl Φ arcs v1) (hrt : Gr.rightB n arcs = true) :
    Calls Try.prog 11 #[.int .i64 (n : Int), v1] w (RetS noHp w fun r Ψ => PairRep Ψ (Gr.orderM n arcs) r) := by
  refine calls_of_AW (args := [.int .i64 (n : Int), v1]) Try.func11 rfl (Nat.le_of_ble_eq_true rfl) (St ⟨w, Φ, []⟩ Φ []) (StP.init w Φ hΦ []) ?_
  show AW Try.prog 68 [] _ _ _ [(0, .int .i64 (n : Int)), (1, v1)] _
  obtain ⟨hn, har, hok⟩ := Gr.right_ok hrt
  rw [Int.toNat_natCast] at hok
  have hn2 : n ≤ 256 := by omega
  clear hn
  have hmh1 : arcs.length * 16 ≤ 140737488355328 := h1.max
  refine AW.seq ?_
  refine AW.region ?_
  refine RW.q (v := (.slice none 0 0)) rfl (q_assign rfl) ?_
  refine RW.q (v := .bool false) rfl (q_assign rfl) ?_
  refine RW.nil ?_
  refine Post.then_n ?_
  refine AW.seq ?_
  refine AW.seq ?_
  refine AW.region ?_
  refine RW.q (v := .int .i64 (n : Int)) rfl (q_move rfl) ?_
  refine RW.q (v := v1) rfl (q_move rfl) ?_
  refine RW.q (v := .bool (Gr.rightB (n : Int) arcs)) rfl (q_call (args := #[.int .i64 (n : Int), v1]) own10 rfl rfl (fun w1 hw1 => Right_c w1 Φ hw1.phi h1)) ?_
  refine RW.q (v := .bool (!(Gr.rightB (n : Int) arcs))) rfl (q_not rfl) ?_
  refine RW.nil ?_
  refine Post.then_n ?_
  refine AW.cond (b := !(Gr.rightB (n : Int) arcs)) rfl (fun hc1 => ?_) (fun hc1 => ?_)
  · simp [-List.getD_eq_getElem?_getD] at hc1
    simp [hrt] at hc1
  · simp [-List.getD_eq_getElem?_getD] at hc1
    refine AW.skip ?_
    refine Post.then_n ?_
    refine AW.seq ?_
    refine AW.region ?_
    refine RW.q (v := .int .i64 (n : Int)) rfl (q_move rfl) ?_
    refine RW.q (v := v1) rfl (q_move rfl) ?_
    refine RW.eff (fun x : {y : Value × Hp // (fun r Ψ => IsVis Ψ n arcs r) y.1 y.2 ∧ Hp.le Φ y.2} => x.1.1) (fun x => St ⟨w, Φ, []⟩ x.1.2 []) rfl (e_callS (T := fun r Ψ => IsVis Ψ n arcs r) (args := #[.int .i64 (n : Int), v1]) own27 rfl rfl (fun w1 hw1 => (visitor_c w1 Φ hw1.phi h1 (by omega) (by first | omega | (simp [Gr.rev]; omega)) hok).mono fun _ _ => retS_up (fun _ _ _ hl h => h.mono hl))) ?_
    rintro ⟨⟨fv1, Φ1⟩, hvis1, hlΦ1⟩
    replace hvis1 : IsVis Φ1 n arcs fv1 := hvis1
    replace hlΦ1 : Hp.le Φ Φ1 := hlΦ1
    replace h1 := h1.mono hlΦ1
    refine RW.q (v := fv1) rfl (q_assign rfl) ?_
    refine RW.nil ?_
    refine Post.then_n ?_
    refine AW.seq ?_
    obtain ⟨bv, nv, rfl, hpc, hr⟩ := hvis1
    refine AW.region ?_
    refine RW.q (v := .int .i64 (n : Int)) rfl (q_move rfl) ?_
    refine RW.eff (fun b1 : Nat => (.slice (some ⟨b1, 0, none⟩) n n)) (fun b1 => St ⟨w, Φ, []⟩ Φ1 [.row (.slice (some ⟨b1, 0, none⟩) n n) 3 1 n ((List.replicate n 0).map (Value.int .i64))]) rfl (e_makeSlice rfl rfl Try.underlying25 inf3 (by omega) (by omega) (by omega) rfl (made_int (n := n) (by omega))) ?_
    intro b1
    refine RW.eff (fun b2 : Nat => .pointer (some (⟨b2, 0, none⟩))) (fun b2 => St ⟨w, Φ, []⟩ Φ1 [.blk b2 25 [(.slice none 0 0)], .row (.slice (some ⟨b1, 0, none⟩) n n) 3 1 n ((List.replicate n 0).map (Value.int .i64))]) rfl (e_alloc zero25) ?_
    intro b2
    refine RW.effn (J' := St ⟨w, Φ, []⟩ Φ1 [.blk b2 25 [(.slice (some ⟨b1, 0, none⟩) n n)], .row (.slice (some ⟨b1, 0, none⟩) n n) 3 1 n ((List.replicate n 0).map (Value.int .i64))]) (e_store (v := (.slice (some ⟨b1, 0, none⟩) n n)) 0 rfl rfl rfl sz25 rfl rfl rfl rfl rfl) ?_
    refine RW.nil ?_
    refine Post.then_n ?_
    refine AW.seq ?_
    refine AW.seq ?_
    refine AW.region ?_
    refine RW.q (v := v1) rfl (q_move rfl) ?_
    refine RW.q (v := .int .i64 ((arcs.length : Nat) : Int)) rfl (q_len_sl rfl h1.sl Try.underlying22) ?_
    refine RW.q (v := .int .i64 0) rfl (q_move rfl) ?_
    refine RW.nil ?_
    refine Post.then_n ?_
    refine AW.block ?_
    refine AW.loop (fun s J m => ∃ (k : Nat), s = [(0, .int .i64 (n : Int)), (6, .func (.func 34) #[] #[.pointer (some (⟨bv, 0, none⟩))]), (7, .pointer (some (⟨b2, 0, none⟩))), (21, v1), (22, .int .i64 ((arcs.length : Nat) : Int)), (23, .int .i64 (k : Int))] ∧ J = St ⟨w, Φ, []⟩ Φ1 [.blk b2 25 [(.slice (some ⟨b1, 0, none⟩) n n)], .row (.slice (some ⟨b1, 0, none⟩) n n) 3 1 n ((Gr.countL n (arcs.take k)).map (Value.int .i64))] ∧ m = arcs.length - k ∧ (k ≤ arcs.length)) (s0 := _) (J1 := _) (m0 := _) ⟨0, rfl, rfl, rfl, (by omega)⟩ ⟨rfl, rfl, rfl, rfl, rfl, rfl, trivial⟩ (fun _ h => by rw [List.take_zero, Gr.countL_zero]; exact h) ?_
    rintro _ _ _ _ ⟨k, rfl, rfl, rfl, hk⟩
    refine AW.seq ?_
    refine AW.region ?_
    refine RW.q (v := .bool (decide ((k : Int) < ((arcs.length : Nat) : Int)))) rfl (q_lss rfl rfl) ?_
    refine RW.nil ?_
    refine Post.then_n ?_
    refine AW.seq ?_
    refine AW.cond (b := decide ((k : Int) < ((arcs.length : Nat) : Int))) rfl (fun hc2 => ?_) (fun hc2 => ?_)
    · simp [-List.getD_eq_getElem?_getD] at hc2
      refine AW.skip ?_
      refine Post.then_n ?_
      refine AW.seq ?_
      refine AW.block ?_
      refine AW.seq ?_
      refine AW.region ?_
      refine RW.q (v := .pointer (some (Value.at v1 (k * 2)))) rfl (q_indexAddr rfl rfl h1.sl Try.underlying22 sz31 (by omega) (by omega) rfl) ?_
      refine RW.q (v := .agg #[.int .i64 ((arcs.getD k default).From), .int .i64 ((arcs.getD k default).To)]) rfl (q_loadAgg rfl Try.underlying31 rfl sz31 rfl (Cells.repE h1 (by omega) rfl)) ?_
      refine RW.eff (fun b3 : Nat => .pointer (some (⟨b3, 0, none⟩))) (fun b3 => St ⟨w, Φ, []⟩ Φ1 [.blk b3 31 [.int .i64 0, .int .i64 0], .blk b2 25 [(.slice (some ⟨b1, 0, none⟩) n n)], .row (.slice (some ⟨b1, 0, none⟩) n n) 3 1 n ((Gr.countL n (arcs.take k)).map (Value.int .i64))]) rfl (e_alloc zero31) ?_
      intro b3
      refine RW.effn (J' := St ⟨w, Φ, []⟩ Φ1 [.blk b3 31 [.int .i64 ((arcs.getD k default).From), .int .i64 ((arcs.getD k default).To)], .blk b2 25 [(.slice (some ⟨b1, 0, none⟩) n n)], .row (.slice (some ⟨b1, 0, none⟩) n n) 3 1 n ((Gr.countL n (arcs.take k)).map (Value.int .i64))]) (e_store (v := .agg #[.int .i64 ((arcs.getD k default).From), .int .i64 ((arcs.getD k default).To)]) 0 rfl rfl rfl sz31 rfl rfl rfl rfl rfl) ?_
      refine RW.nil ?_
      refine Post.then_n ?_
      have ha := hok (arcs.getD k default) (by simp [List.getD_eq_getElem?_getD, hc2])
      have hcb := Gr.countL_bd (n := n) (arcs := arcs.take k) (arcs.getD k default).To.toNat
      have hcn := Gr.countL_len n (arcs.take k)
      rw [List.length_take] at hcb
      refine AW.region ?_
      refine RW.q (v := (.slice (some ⟨b1, 0, none⟩) n n)) rfl (q_load rfl Try.underlying25 rfl (Cell.blk 1 rfl rfl)) ?_
      refine RW.q (v := .pointer (some (⟨b3, 1, none⟩))) rfl (q_fieldAddr rfl Try.underlying31 rfl sz3 rfl) ?_
      refine RW.q (v := .int .i64 ((arcs.getD k default).To)) rfl (q_load rfl Try.underlying3 rfl (Cell.blk 0 rfl rfl)) ?_
      refine RW.q (v := .pointer (some (Value.at (.slice (some ⟨b1, 0, none⟩) n n) ((((arcs.getD k default).To).toNat) * 1)))) rfl (q_indexAddr rfl rfl isSl_mk Try.underlying25 sz3 (by omega) (by omega) rfl) ?_
      refine RW.q (v := .int .i64 (((Gr.countL n (arcs.take k))).getD (((arcs.getD k default).To).toNat) 0)) rfl (q_load rfl Try.underlying3 rfl (Cell.rowInt 2 rfl (by omega))) ?_
      refine RW.q (v := .int .i64 ((((Gr.countL n (arcs.take k))).getD (((arcs.getD k default).To).toNat) 0) + 1)) rfl (q_add rfl rfl (by omega) (by unfold I64; omega)) ?_
      refine RW.q (v := .pointer (some (Value.at (.slice (some ⟨b1, 0, none⟩) n n) ((((arcs.getD k default).To).toNat) * 1)))) rfl (q_indexAddr rfl rfl isSl_mk Try.underlying25 sz3 (by omega) (by omega) rfl) ?_
      refine RW.effn (J' := St ⟨w, Φ, []⟩ Φ1 [.blk b3 31 [.int .i64 ((arcs.getD k default).From), .int .i64 ((arcs.getD k default).To)], .blk b2 25 [(.slice (some ⟨b1, 0, none⟩) n n)], .row (.slice (some ⟨b1, 0, none⟩) n n) 3 1 n (((Gr.countL n (arcs.take k)).set (((arcs.getD k default).To).toNat) ((((Gr.countL n (arcs.take k))).getD (((arcs.getD k default).To).toNat) 0) + 1)).map (Value.int .i64))]) (e_storeRow (v := .int .i64 ((((Gr.countL n (arcs.take k))).getD (((arcs.getD k default).To).toNat) 0) + 1)) 2 rfl rfl rfl sz3 rfl rfl (by simp [-List.getD_eq_getElem?_getD]; omega) (splice_int (by omega)) rfl) ?_
      refine RW.nil ?_
      refine Post.blk_n (Post.then_n ?_)
      refine AW.region ?_
      refine RW.q (v := .int .i64 ((k + 1 : Nat) : Int)) rfl (q_add rfl rfl (by omega) (by unfold I64; omega)) ?_
      refine RW.q (v := .int .i64 ((k + 1 : Nat) : Int)) rfl (q_move rfl) ?_
      refine RW.nil ?_
      exact Post.back (s' := _) (J' := _) (m' := _) (by omega) ⟨k + 1, rfl, rfl, rfl, (by omega)⟩ ⟨rfl, rfl, rfl, rfl, rfl, rfl, trivial⟩ (fun _ h => by rw [Gr.countL_step hok hc2]; exact StP.drop h (.cons _ (List.Sublist.refl _)))
    · simp [-List.getD_eq_getElem?_getD] at hc2
      refine AW.exit ?_
      refine Post.then_x (Post.then_x (Post.blk_hit (Post.then_n ?_)))
      refine AW.seq ?_
      obtain rfl : k = arcs.length := by omega
      rw [List.take_length, Gr.countL_end]
      refine AW.region ?_
      refine RW.q (v := .int .i64 (n : Int)) rfl (q_move rfl) ?_
      refine RW.eff (fun b4 : Nat => (.slice (some ⟨b4, 0, none⟩) 0 n)) (fun b4 => St ⟨w, Φ, []⟩ Φ1 [.row (.slice (some ⟨b4, 0, none⟩) 0 n) 3 1 0 (([] : List Int).map (Value.int .i64)), .blk b2 25 [(.slice (some ⟨b1, 0, none⟩) n n)], .row (.slice (some ⟨b1, 0, none⟩) n n) 3 1 n ((Gr.waitL n arcs []).map (Value.int .i64))]) rfl (e_makeSlice rfl rfl Try.underlying25 inf3 (by omega) (by omega) (by omega) rfl (made_int (n := 0) (by omega))) ?_
      intro b4
      refine RW.q (v := (.slice (some ⟨b4, 0, none⟩) 0 n)) rfl (q_assign rfl) ?_
      refine RW.nil ?_
      refine Post.then_n ?_
      refine AW.seq ?_
      refine AW.seq ?_
      refine AW.region ?_
      refine RW.q (v := .int .i64 (n : Int)) rfl (q_move rfl) ?_
      refine RW.q (v := .int .i64 0) rfl (q_move rfl) ?_
      refine RW.nil ?_
      refine Post.then_n ?_
      refine AW.block ?_
      refine AW.loop (fun s J m => ∃ (i : Nat), ∃ (L : List Int), ∃ (lv : Value), s = [(0, .int .i64 (n : Int)), (6, .func (.func 34) #[] #[.pointer (some (⟨bv, 0, none⟩))]), (7, .pointer (some (⟨b2, 0, none⟩))), (10, lv), (37, .int .i64 (n : Int)), (38, .int .i64 (i : Int))] ∧ J = St ⟨w, Φ, []⟩ Φ1 [.row lv 3 1 L.length (L.map (Value.int .i64)), .blk b2 25 [(.slice (some ⟨b1, 0, none⟩) n n)], .row (.slice (some ⟨b1, 0, none⟩) n n) 3 1 n ((Gr.waitL n arcs L).map (Value.int .i64))] ∧ m = n - i ∧ (i ≤ n) ∧ (IsSl lv L.length) ∧ (L.length = i) ∧ (∀ x ∈ L, 0 ≤ x ∧ x < (n : Int)) ∧ (∀ x ∈ L, ∀ a ∈ arcs, a.To = x → a.From ∈ L) ∧ (Gr.orderGo n arcs (n - i) L = Gr.orderGo n arcs n [])) (s0 := _) (J1 := _) (m0 := _) ⟨0, [], _, rfl, rfl, rfl, (by omega), isSl_mk, rfl, (by simp), (by simp), rfl⟩ ⟨rfl, rfl, rfl, rfl, rfl, rfl, trivial⟩ (fun _ h => h) ?_
      rintro _ _ _ _ ⟨i, L, lv, rfl, rfl, rfl, hi, hlv, hLl, hLn, hcl, hgo⟩
      refine AW.seq ?_
      refine AW.region ?_
      refine RW.q (v := .bool (decide ((i : Int) < (n : Int)))) rfl (q_lss rfl rfl) ?_
      refine RW.nil ?_
      refine Post.then_n ?_
      refine AW.seq ?_
      refine AW.cond (b := decide ((i : Int) < (n : Int))) rfl (fun hc3 => ?_) (fun hc3 => ?_)
      · simp [-List.getD_eq_getElem?_getD] at hc3
        refine AW.skip ?_
        refine Post.then_n ?_
        refine AW.seq ?_
        refine AW.block ?_
        refine AW.seq ?_
        refine AW.region ?_
        refine RW.q (v := .int .i64 0) rfl (q_assign rfl) ?_
        refine RW.nil ?_
        refine Post.then_n ?_
        refine AW.seq ?_
        refine AW.block ?_
        refine AW.loop (fun s J m => ∃ (v : Nat), s = [(0, .int .i64 (n : Int)), (6, .func (.func 34) #[] #[.pointer (some (⟨bv, 0, none⟩))]), (7, .pointer (some (⟨b2, 0, none⟩))), (10, lv), (37, .int .i64 (n : Int)), (38, .int .i64 (i : Int)), (11, .int .i64 (v : Int))] ∧ J = St ⟨w, Φ, []⟩ Φ1 [.row lv 3 1 L.length (L.map (Value.int .i64)), .blk b2 25 [(.slice (some ⟨b1, 0, none⟩) n n)], .row (.slice (some ⟨b1, 0, none⟩) n n) 3 1 n ((Gr.waitL n arcs L).map (Value.int .i64))] ∧ m = n - v ∧ (v ≤ n) ∧ (∀ j, j < v → (Gr.waitL n arcs L).getD j 0 ≠ 0)) (s0 := _) (J1 := _) (m0 := _) ⟨0, rfl, rfl, rfl, (by omega), (by omega)⟩ ⟨rfl, rfl, rfl, rfl, rfl, rfl, rfl, trivial⟩ (fun _ h => h) ?_
        rintro _ _ _ _ ⟨v, rfl, rfl, rfl, hv, hne⟩
        refine AW.seq ?_
        refine AW.seq ?_
        have hwl := Gr.waitL_len n arcs L
        refine AW.region ?_
        refine RW.q (v := .int .i64 (v : Int)) rfl (q_move rfl) ?_
        refine RW.q (v := .int .i64 (n : Int)) rfl (q_move rfl) ?_
        refine RW.q (v := .bool (decide ((v : Int) < (n : Int)))) rfl (q_lss rfl rfl) ?_
        refine RW.q (v := .bool (decide ((v : Int) < (n : Int)))) rfl (q_move rfl) ?_
        refine RW.g (b := (decide ((v : Int) < (n : Int)))) (v := (.slice (some ⟨b1, 0, none⟩) n n)) rfl rfl rfl (fun h => q_load rfl Try.underlying25 rfl (Cell.blk 1 rfl rfl)) ?_
        refine RW.g (b := (decide ((v : Int) < (n : Int)))) (v := .int .i64 (v : Int)) rfl rfl rfl (fun h => q_move rfl) ?_
        refine RW.g (b := (decide ((v : Int) < (n : Int)))) (v := .pointer (some (Value.at (.slice (some ⟨b1, 0, none⟩) n n) (v * 1)))) rfl rfl rfl (fun h => q_indexAddr (gv_pos h) (gv_pos h) isSl_mk Try.underlying25 sz3 (by simp [-List.getD_eq_getElem?_getD] at h; omega) (by simp [-List.getD_eq_getElem?_getD] at h; omega) rfl) ?_
        refine RW.g (b := (decide ((v : Int) < (n : Int)))) (v := .int .i64 (((Gr.waitL n arcs L)).getD v 0)) rfl rfl rfl (fun h => q_load (gv_pos h) Try.underlying3 rfl (Cell.rowInt 2 rfl (by simp [-List.getD_eq_getElem?_getD] at h; omega))) ?_
        refine RW.g (b := (decide ((v : Int) < (n : Int)))) (v := .bool (!decide (((Gr.waitL n arcs L)).getD v 0 = 0))) rfl rfl rfl (fun h => q_neq (gv_pos h) rfl) ?_
        refine RW.q (v := .bool ((decide ((v : Int) < (n : Int))) && (!decide (((Gr.waitL n arcs L)).getD v 0 = 0)))) rfl (q_pick rfl (fun hp => (gv_pos hp).trans (pkAndT hp)) (fun hp => pkAndF hp)) ?_
        refine RW.nil ?_
        refine Post.then_n ?_
        refine AW.cond (b := (decide ((v : Int) < (n : Int))) && (!decide (((Gr.waitL n arcs L)).getD v 0 = 0))) rfl (fun hc4 => ?_) (fun hc4 => ?_)
        · simp [-List.getD_eq_getElem?_getD] at hc4
          refine AW.skip ?_
          refine Post.then_n ?_
          refine AW.block ?_
          refine AW.region ?_
          refine RW.q (v := .int .i64 (v : Int)) rfl (q_move rfl) ?_
          refine RW.q (v := .int .i64 ((v + 1 : Nat) : Int)) rfl (q_add rfl rfl (by omega) (by unfold I64; omega)) ?_
          refine RW.q (v := .int .i64 ((v + 1 : Nat) : Int)) rfl (q_assign rfl) ?_
          refine RW.nil ?_
          refine Post.blk_n ?_
          exact Post.back (s' := _) (J' := _) (m' := _) (by omega) ⟨v + 1, rfl, rfl, rfl, (by omega), (Gr.lt_succ hne hc4.2)⟩ ⟨rfl, rfl, rfl, rfl, rfl, rfl, rfl, trivial⟩ (fun _ h => h)
        · simp [-List.getD_eq_getElem?_getD] at hc4
          refine AW.exit ?_
          refine Post.then_x (Post.then_x (Post.blk_hit (Post.then_n ?_)))
          refine AW.seq ?_
          refine AW.seq ?_
          refine AW.region ?_
          refine RW.q (v := .int .i64 (v : Int)) rfl (q_move rfl) ?_
          refine RW.q (v := .int .i64 (n : Int)) rfl (q_move rfl) ?_
          refine RW.q (v := .bool (decide ((v : Int) = (n : Int)))) rfl (q_eql rfl rfl) ?_
          refine RW.nil ?_
          refine Post.then_n ?_
          refine AW.cond (b := decide ((v : Int) = (n : Int))) rfl (fun hc5 => ?_) (fun hc5 => ?_)
          · simp [-List.getD_eq_getElem?_getD] at hc5
            refine AW.seq ?_
            refine AW.region ?_
            refine RW.q (v := (.slice none 0 0)) rfl (q_assign rfl) ?_
            refine RW.q (v := .bool false) rfl (q_assign rfl) ?_
            refine RW.nil ?_
            refine Post.then_n ?_
            refine AW.ret ?_
            refine Post.then_r (Post.blk_r (Post.then_r (Post.then_r (Post.blk_r (Post.then_r ?_)))))
            have hres : Gr.orderM n arcs = none := by
              rw [Gr.orderM, if_pos hrt, Int.toNat_natCast, ← hgo, show n - i = (n - (i + 1)) + 1 by omega, Gr.orderGo, Gr.nextFree_none (fun j hj => hne j (by omega))]
            rw [hres]
            exact fin_rep2 rfl rfl rfl rfl (fun w' hw => pair_none)
          · simp [-List.getD_eq_getElem?_getD] at hc5
            refine AW.skip ?_
            refine Post.then_n ?_
            refine AW.seq ?_
            have hvn : v < n := by omega
            have hv0 : (Gr.waitL n arcs L).getD v 0 = 0 := hc4 hvn
            have hws := Gr.waitL_step hok hvn (by rw [← Gr.waitL_get hvn]; exact hv0) hcl
            have hwl := Gr.waitL_len n arcs L
            refine AW.region ?_
            refine RW.q (v := lv) rfl (q_move rfl) ?_
            refine RW.q (v := .int .i64 (v : Int)) rfl (q_move rfl) ?_
            refine RW.eff (fun b5 : Nat => (.slice (some ⟨b5, 0, none⟩) 1 1)) (fun b5 => St ⟨w, Φ, []⟩ Φ1 [.row (.slice (some ⟨b5, 0, none⟩) 1 1) 3 1 1 ([.int .i64 (v : Int)]), .row lv 3 1 L.length (L.map (Value.int .i64)), .blk b2 25 [(.slice (some ⟨b1, 0, none⟩) n n)], .row (.slice (some ⟨b1, 0, none⟩) n n) 3 1 n ((Gr.waitL n arcs L).map (Value.int .i64))]) rfl (e_buildSlice (vals := [(0, .int .i64 (v : Int))]) (cells := [.int .i64 (v : Int)]) Try.underlying25 inf3 rfl rfl rfl (by kernel_rfl) rfl) ?_
            intro b5
            refine RW.eff (fun xv : {vq : Value // IsSl vq (L.length + 1)} => xv.1) (fun xv => St ⟨w, Φ, []⟩ Φ1 [.row (.slice (some ⟨b5, 0, none⟩) 1 1) 3 1 1 ([.int .i64 (v : Int)]), .row xv.1 3 1 ((L ++ [(v : Int)]).length) ((L ++ [(v : Int)]).map (Value.int .i64)), .blk b2 25 [(.slice (some ⟨b1, 0, none⟩) n n)], .row (.slice (some ⟨b1, 0, none⟩) n n) 3 1 n ((Gr.waitL n arcs L).map (Value.int .i64))]) rfl (e_append 1 rfl rfl rfl Try.underlying25 inf3 rfl rfl rfl (Cells.row0 0 rfl) rfl (by omega) (by omega) (fun _ => by simp)) ?_
            rintro ⟨va1, hva1⟩
            refine RW.wk (J' := St ⟨w, Φ, []⟩ Φ1 [.row va1 3 1 ((L ++ [(v : Int)]).length) ((L ++ [(v : Int)]).map (Value.int .i64)), .blk b2 25 [(.slice (some ⟨b1, 0, none⟩) n n)], .row (.slice (some ⟨b1, 0, none⟩) n n) 3 1 n ((Gr.waitL n arcs L).map (Value.int .i64))]) (fun _ h => StP.drop h (by exact .cons _ (.cons_cons _ (.cons_cons _ (.cons_cons _ (.slnil)))))) ?_
            refine RW.q (v := va1) rfl (q_assign rfl) ?_
            refine RW.nil ?_
            refine Post.then_n ?_
            refine AW.seq ?_
            refine AW.region ?_
            refine RW.q (v := (.slice (some ⟨b1, 0, none⟩) n n)) rfl (q_load rfl Try.underlying25 rfl (Cell.blk 1 rfl rfl)) ?_
            refine RW.q (v := .int .i64 (v : Int)) rfl (q_move rfl) ?_
            refine RW.q (v := .pointer (some (Value.at (.slice (some ⟨b1, 0, none⟩) n n) (v * 1)))) rfl (q_indexAddr rfl rfl isSl_mk Try.underlying25 sz3 (by omega) (by omega) rfl) ?_
            refine RW.effn (J' := St ⟨w, Φ, []⟩ Φ1 [.row va1 3 1 ((L ++ [(v : Int)]).length) ((L ++ [(v : Int)]).map (Value.int .i64)), .blk b2 25 [(.slice (some ⟨b1, 0, none⟩) n n)], .row (.slice (some ⟨b1, 0, none⟩) n n) 3 1 n (((Gr.waitL n arcs L).set v (-1)).map (Value.int .i64))]) (e_storeRow (v := .int .i64 (-1)) 2 rfl rfl rfl sz3 rfl rfl (by simp [-List.getD_eq_getElem?_getD]; omega) (splice_int (by omega)) rfl) ?_
            refine RW.nil ?_
            refine Post.then_n ?_
            refine AW.region ?_
            refine RW.q (v := .func (.func 34) #[] #[.pointer (some (⟨bv, 0, none⟩))]) rfl (q_move rfl) ?_
            refine RW.q (v := .int .i64 (v : Int)) rfl (q_move rfl) ?_
            refine RW.q (v := .func (.func 28) #[] #[.pointer (some (⟨b2, 0, none⟩))]) rfl (q_makeFunc rfl rfl) ?_
            have hsl := Gr.succs_len arcs (v : Int)
            have hstp : ∀ k (X : List Int), k < (Gr.succs arcs (v : Int)).length → (fun k (X : List Int) => X = ((Gr.succs arcs (v : Int)).take k).foldl Gr.dec ((Gr.waitL n arcs L).set v (-1))) k X → ∀ w2, ((fun X : List Int => St ⟨w, Φ, []⟩ Φ1 (CO b2 n (.slice (some ⟨b1, 0, none⟩) n n) va1 (L ++ [(v : Int)]) X)) X).p w2 → Calls Try.prog 28 (#[.int .i64 ((Gr.succs arcs (v : Int)).getD k 0)] ++ #[.pointer (some ⟨b2, 0, none⟩)]) w2 fun e w' => ∃ y : {X : List Int // (fun k (X : List Int) => X = ((Gr.succs arcs (v : Int)).take k).foldl Gr.dec ((Gr.waitL n arcs L).set v (-1))) (k + 1) X}, e = .returned (.tuple #[]) ∧ ((fun X : List Int => St ⟨w, Φ, []⟩ Φ1 (CO b2 n (.slice (some ⟨b1, 0, none⟩) n n) va1 (L ++ [(v : Int)]) X)) y.1).p w' := by
              intro k X hk hX w2 hw2
              have hX : X = ((Gr.succs arcs (v : Int)).take k).foldl Gr.dec ((Gr.waitL n arcs L).set v (-1)) := hX
              have hm : ∀ x ∈ Gr.succs arcs (v : Int), 0 ≤ x ∧ x < (n : Int) := fun x hx => (hok _ (Gr.mem_succs.1 hx)).2
              have hx := hm _ (List.mem_of_getElem? (getD_some (d := 0) hk))
              have hf := Gr.dec_fold ((Gr.succs arcs (v : Int)).take k) ((Gr.waitL n arcs L).set v (-1)) (fun x hx => by rw [List.length_set, Gr.waitL_len]; exact hm x (List.mem_of_mem_take hx))
              rw [List.length_set, Gr.waitL_len, ← hX] at hf
              have hg := hf.2 _ hx.1 hx.2
              have hcc := List.count_le_length (a := (Gr.succs arcs (v : Int)).getD k 0) (l := (Gr.succs arcs (v : Int)).take k)
              rw [List.length_take] at hcc
              have hb := order_bd (n := n) (arcs := arcs) (L := L) (v := v) (i := ((Gr.succs arcs (v : Int)).getD k 0).toNat) (by omega)
              refine (ovisit_c isSl_mk hf.1 hx (by omega) w2 hw2).mono fun e w' ⟨he, hy⟩ => ⟨⟨_, ?_⟩, he, hy⟩
              show Gr.dec X ((Gr.succs arcs (v : Int)).getD k 0) = ((Gr.succs arcs (v : Int)).take (k + 1)).foldl Gr.dec ((Gr.waitL n arcs L).set v (-1))
              rw [hX, List.take_succ_eq_append_getElem hk, List.foldl_append]
              simp [List.getD_eq_getElem?_getD, hk]
            refine RW.eff (fun x : {X : List Int // X = Gr.waitL n arcs (L ++ [(v : Int)])} => .tuple #[]) (fun x => St ⟨w, Φ, []⟩ Φ1 (CO b2 n (.slice (some ⟨b1, 0, none⟩) n n) va1 (L ++ [(v : Int)]) x.1)) rfl (e_call (args := #[.int .i64 (v : Int), .func (.func 28) #[] #[.pointer (some (⟨b2, 0, none⟩))], .pointer (some (⟨bv, 0, none⟩))]) own34 rfl rfl (fun w1 hw1 => (vis_c (fun X : List Int => St ⟨w, Φ, []⟩ Φ1 (CO b2 n (.slice (some ⟨b1, 0, none⟩) n n) va1 (L ++ [(v : Int)]) X)) (fun k (X : List Int) => X = ((Gr.succs arcs (v : Int)).take k).foldl Gr.dec ((Gr.waitL n arcs L).set v (-1))) (Gr.succs arcs (v : Int)) (fun x w hw => hw.phi) hpc hr (by omega) (by rw [Gr.table_len]; omega) (by rw [Gr.table_get (by omega)]; congr 1) own28 hstp _ (by simp) w1 hw1).mono fun e w' ⟨y, he, hy⟩ => ⟨⟨y.1, y.2.trans (by rw [List.take_length]; exact hws.1)⟩, he, hy⟩)) ?_
            rintro ⟨_, rfl⟩
            refine RW.nil ?_
            refine Post.blk_n (Post.then_n ?_)
            refine AW.region ?_
            refine RW.q (v := .int .i64 ((i + 1 : Nat) : Int)) rfl (q_add rfl rfl (by omega) (by unfold I64; omega)) ?_
            refine RW.q (v := .int .i64 ((i + 1 : Nat) : Int)) rfl (q_move rfl) ?_
            refine RW.nil ?_
            exact Post.back (s' := _) (J' := _) (m' := _) (by omega) ⟨i + 1, L ++ [(v : Int)], va1, rfl, rfl, rfl, (by omega), (by simpa using hva1), (by simp; omega), (mem_snoc hLn (by omega)), hws.2, (by rw [← hgo, show n - i = (n - (i + 1)) + 1 by omega, Gr.orderGo, Gr.nextFree_some hvn hne hv0])⟩ ⟨rfl, rfl, rfl, rfl, rfl, rfl, trivial⟩ (fun _ h => h)
      · simp [-List.getD_eq_getElem?_getD] at hc3
        refine AW.exit ?_
        refine Post.then_x (Post.then_x (Post.blk_hit (Post.then_n ?_)))
        refine AW.seq ?_
        refine AW.region ?_
        refine RW.q (v := lv) rfl (q_move rfl) ?_
        refine RW.q (v := lv) rfl (q_assign rfl) ?_
        refine RW.q (v := .bool true) rfl (q_assign rfl) ?_
        refine RW.nil ?_
        refine Post.then_n ?_
        refine AW.ret ?_
        have hres : Gr.orderM n arcs = some L := by
          rw [Gr.orderM, if_pos hrt, Int.toNat_natCast, ← hgo, show n - i = 0 by omega, Gr.orderGo]
        rw [hres]
        refine fin_rep2 rfl rfl rfl rfl (fun w' hw => ⟨_, rfl, RowS.ints (row_ext hw 0 rfl) (by simp only [maxSl]; omega) (fun x hx => ?_)⟩)
        have hx : x ∈ L := hx
        have := hLn x hx
        unfold I64; omega

set_option maxHeartbeats 1000000 in
theorem Order_f (w : World) (Φ : Hp) (hΦ : Hp.le Φ (hp w)) {n : Int} {arcs : List Gr.Arc} {v1 : Value} (h1 : RepSl Φ arcs v1) (hrf : Gr.rightB n arcs = false) :
    Calls Try.prog 11 #[.int .i64 n, v1] w (RetS noHp w fun r Ψ => PairRep Ψ (Gr.orderM n arcs) r) := by
  refine calls_of_AW (args := [.int .i64 n, v1]) Try.func11 rfl (Nat.le_of_ble_eq_true rfl) (St ⟨w, Φ, []⟩ Φ []) (StP.init w Φ hΦ []) ?_
  show AW Try.prog 68 [] _ _ _ [(0, .int .i64 n), (1, v1)] _
  refine AW.seq ?_
  refine AW.region ?_
  refine RW.q (v := (.slice none 0 0)) rfl (q_assign rfl) ?_
  refine RW.q (v := .bool false) rfl (q_assign rfl) ?_
  refine RW.nil ?_
  refine Post.then_n ?_
  refine AW.seq ?_
  refine AW.seq ?_
  refine AW.region ?_
  refine RW.q (v := .int .i64 n) rfl (q_move rfl) ?_
  refine RW.q (v := v1) rfl (q_move rfl) ?_
  refine RW.q (v := .bool (Gr.rightB n arcs)) rfl (q_call (args := #[.int .i64 n, v1]) own10 rfl rfl (fun w1 hw1 => Right_c w1 Φ hw1.phi h1)) ?_
  refine RW.q (v := .bool (!(Gr.rightB n arcs))) rfl (q_not rfl) ?_
  refine RW.nil ?_
  refine Post.then_n ?_
  refine AW.cond (b := !(Gr.rightB n arcs)) rfl (fun hc1 => ?_) (fun hc1 => ?_)
  · simp [-List.getD_eq_getElem?_getD] at hc1
    refine AW.seq ?_
    refine AW.region ?_
    refine RW.q (v := (.slice none 0 0)) rfl (q_assign rfl) ?_
    refine RW.q (v := .bool false) rfl (q_assign rfl) ?_
    refine RW.nil ?_
    refine Post.then_n ?_
    refine AW.ret ?_
    refine Post.then_r ?_
    rw [Gr.orderM, if_neg (by simp [hrf])]
    exact fin_rep2 rfl rfl rfl rfl (fun w' hw => pair_none)
  · simp [-List.getD_eq_getElem?_getD] at hc1
    simp [hrf] at hc1

theorem Order_c (w : World) (Φ : Hp) (hΦ : Hp.le Φ (hp w)) {n : Int} {arcs : List Gr.Arc} {v1 : Value} (h1 : RepSl Φ arcs v1) :
    Calls Try.prog 11 #[.int .i64 n, v1] w (RetS noHp w fun r Ψ => PairRep Ψ (Gr.orderM n arcs) r) := by
  cases h : Gr.rightB n arcs with
  | false => exact Order_f w Φ hΦ h1 h
  | true =>
    obtain ⟨N, rfl⟩ := Int.eq_ofNat_of_zero_le (Gr.right_ok h).1.1
    exact Order_t w Φ hΦ h1 h

end Go.Proofs.Ytjkoojeampaeeaa
