/- The walks of layer 11 (part WalkE), printed by walk.py. Conditions: those of each theorem. -/
import Derived.Test.YtjkoojeampaeeaaWalkD
namespace Go.Proofs.Ytjkoojeampaeeaa
open Go Go.K Go.RowKit

/-- a list, and whether there is one -/
def PairRep (Ψ : Hp) (o : Option (List Int)) (r : Value) : Prop := ∃ v, r = .tuple #[v, .bool o.isSome] ∧ RepSl Ψ (o.getD []) v
theorem pair_none {Ψ : Hp} : PairRep Ψ none (.tuple #[.slice none 0 0, .bool false]) := ⟨_, rfl, repSl_nil⟩
set_option maxHeartbeats 1000000 in
theorem Path_t (w : World) (Φ : Hp) (hΦ : Hp.le Φ (hp w)) {n : Nat} {arcs : List Gr.Arc} {v1 : Value} (h1 : RepSl Φ arcs v1) (hrt : Gr.rightB n arcs = true) {a b : Int} :
    Calls Try.prog 17 #[.int .i64 (n : Int), v1, .int .i64 a, .int .i64 b] w (RetS noHp w fun r Ψ => PairRep Ψ (Gr.pathM n arcs a b) r) := by
  refine calls_of_AW (args := [.int .i64 (n : Int), v1, .int .i64 a, .int .i64 b]) Try.func17 rfl (Nat.le_of_ble_eq_true rfl) (St ⟨w, Φ, []⟩ Φ []) (StP.init w Φ hΦ []) ?_
  show AW Try.prog 66 [] _ _ _ [(0, .int .i64 (n : Int)), (1, v1), (2, .int .i64 a), (3, .int .i64 b)] _
  obtain ⟨hn, har, hok⟩ := Gr.right_ok hrt
  rw [Int.toNat_natCast] at hok
  have hn2 : n ≤ 256 := by omega
  clear hn
  have hmh1 : arcs.length * 16 ≤ 140737488355328 := h1.max
  refine AW.seq ?_
  refine AW.region ?_
  refine RW.q (v := (.slice none 0 0)) rfl (q_assign rfl) ?_
  refine RW.q (v := .bool false) rfl (q_assign rfl) ?_
  refine RW.nil ?_
  refine Post.then_n ?_
  refine AW.seq ?_
  refine AW.seq ?_
  refine AW.region ?_
  refine RW.q (v := .int .i64 (n : Int)) rfl (q_move rfl) ?_
  refine RW.q (v := v1) rfl (q_move rfl) ?_
  refine RW.q (v := .bool (Gr.rightB (n : Int) arcs)) rfl (q_call (args := #[.int .i64 (n : Int), v1]) own10 rfl rfl (fun w1 hw1 => Right_c w1 Φ hw1.phi h1)) ?_
  refine RW.q (v := .bool (!(Gr.rightB (n : Int) arcs))) rfl (q_not rfl) ?_
  refine RW.q (v := .bool (!(Gr.rightB (n : Int) arcs))) rfl (q_move rfl) ?_
  refine RW.g (b := (!(Gr.rightB (n : Int) arcs))) (v := .int .i64 a) rfl rfl rfl (fun h => q_move rfl) ?_
  refine RW.g (b := (!(Gr.rightB (n : Int) arcs))) (v := .bool (decide (a < 0))) rfl rfl rfl (fun h => q_lss (gv_pos h) rfl) ?_
  refine RW.q (v := .bool ((!(Gr.rightB (n : Int) arcs)) || (decide (a < 0)))) rfl (q_pick rfl (fun hp => pkOrT hp) (fun hp => (gv_pos hp).trans (pkOrF hp))) ?_
  refine RW.q (v := .bool ((!(Gr.rightB (n : Int) arcs)) || (decide (a < 0)))) rfl (q_move rfl) ?_
  refine RW.g (b := ((!(Gr.rightB (n : Int) arcs)) || (decide (a < 0)))) (v := .int .i64 a) rfl rfl rfl (fun h => q_move rfl) ?_
  refine RW.g (b := ((!(Gr.rightB (n : Int) arcs)) || (decide (a < 0)))) (v := .int .i64 (n : Int)) rfl rfl rfl (fun h => q_move rfl) ?_
  refine RW.g (b := ((!(Gr.rightB (n : Int) arcs)) || (decide (a < 0)))) (v := .bool (decide ((n : Int) ≤ a))) rfl rfl rfl (fun h => q_geq (gv_pos h) (gv_pos h)) ?_
  refine RW.q (v := .bool (((!(Gr.rightB (n : Int) arcs)) || (decide (a < 0))) || (decide ((n : Int) ≤ a)))) rfl (q_pick rfl (fun hp => pkOrT hp) (fun hp => (gv_pos hp).trans (pkOrF hp))) ?_
  refine RW.q (v := .bool (((!(Gr.rightB (n : Int) arcs)) || (decide (a < 0))) || (decide ((n : Int) ≤ a)))) rfl (q_move rfl) ?_
  refine RW.g (b := (((!(Gr.rightB (n : Int) arcs)) || (decide (a < 0))) || (decide ((n : Int) ≤ a)))) (v := .int .i64 b) rfl rfl rfl (fun h => q_move rfl) ?_
  refine RW.g (b := (((!(Gr.rightB (n : Int) arcs)) || (decide (a < 0))) || (decide ((n : Int) ≤ a)))) (v := .bool (decide (b < 0))) rfl rfl rfl (fun h => q_lss (gv_pos h) rfl) ?_
  refine RW.q (v := .bool ((((!(Gr.rightB (n : Int) arcs)) || (decide (a < 0))) || (decide ((n : Int) ≤ a))) || (decide (b < 0)))) rfl (q_pick rfl (fun hp => pkOrT hp) (fun hp => (gv_pos hp).trans (pkOrF hp))) ?_
  refine RW.q (v := .bool ((((!(Gr.rightB (n : Int) arcs)) || (decide (a < 0))) || (decide ((n : Int) ≤ a))) || (decide (b < 0)))) rfl (q_move rfl) ?_
  refine RW.g (b := ((((!(Gr.rightB (n : Int) arcs)) || (decide (a < 0))) || (decide ((n : Int) ≤ a))) || (decide (b < 0)))) (v := .int .i64 b) rfl rfl rfl (fun h => q_move rfl) ?_
  refine RW.g (b := ((((!(Gr.rightB (n : Int) arcs)) || (decide (a < 0))) || (decide ((n : Int) ≤ a))) || (decide (b < 0)))) (v := .int .i64 (n : Int)) rfl rfl rfl (fun h => q_move rfl) ?_
  refine RW.g (b := ((((!(Gr.rightB (n : Int) arcs)) || (decide (a < 0))) || (decide ((n : Int) ≤ a))) || (decide (b < 0)))) (v := .bool (decide ((n : Int) ≤ b))) rfl rfl rfl (fun h => q_geq (gv_pos h) (gv_pos h)) ?_
  refine RW.q (v := .bool (((((!(Gr.rightB (n : Int) arcs)) || (decide (a < 0))) || (decide ((n : Int) ≤ a))) || (decide (b < 0))) || (decide ((n : Int) ≤ b)))) rfl (q_pick rfl (fun hp => pkOrT hp) (fun hp => (gv_pos hp).trans (pkOrF hp))) ?_
  refine RW.nil ?_
  refine Post.then_n ?_
  refine AW.cond (b := ((((!(Gr.rightB (n : Int) arcs)) || (decide (a < 0))) || (decide ((n : Int) ≤ a))) || (decide (b < 0))) || (decide ((n : Int) ≤ b))) rfl (fun hc1 => ?_) (fun hc1 => ?_)
  · simp [-List.getD_eq_getElem?_getD] at hc1
    have hnin : ¬ ((0 ≤ a ∧ a < n) ∧ (0 ≤ b ∧ b < n)) := by simp [hrt] at hc1; omega
    refine AW.seq ?_
    refine AW.region ?_
    refine RW.q (v := (.slice none 0 0)) rfl (q_assign rfl) ?_
    refine RW.q (v := .bool false) rfl (q_assign rfl) ?_
    refine RW.nil ?_
    refine Post.then_n ?_
    refine AW.ret ?_
    refine Post.then_r ?_
    rw [Gr.pathM, if_neg (by omega)]
    exact fin_rep2 rfl rfl rfl rfl (fun w' hw => pair_none)
  · simp [-List.getD_eq_getElem?_getD] at hc1
    refine AW.skip ?_
    refine Post.then_n ?_
    refine AW.seq ?_
    have hin : (0 ≤ a ∧ a < n) ∧ (0 ≤ b ∧ b < n) := by simp [hrt] at hc1; omega
    have hT : Gr.IsTo n arcs b (Gr.distL n (Gr.rev arcs) b) := Gr.distL_is hok.rev (by omega)
    have hdl := hT.1
    refine AW.region ?_
    refine RW.q (v := .int .i64 (n : Int)) rfl (q_move rfl) ?_
    refine RW.q (v := .int .i64 (n : Int)) rfl (q_move rfl) ?_
    refine RW.q (v := v1) rfl (q_move rfl) ?_
    refine RW.eff (fun x : {y : Value × Hp // (fun r Ψ => RepSl Ψ (Gr.rev arcs) r) y.1 y.2 ∧ Hp.le Φ y.2} => x.1.1) (fun x => St ⟨w, Φ, []⟩ x.1.2 []) rfl (e_callS (T := fun r Ψ => RepSl Ψ (Gr.rev arcs) r) (args := #[v1]) own29 rfl rfl (fun w1 hw1 => (reverse_c w1 Φ hw1.phi h1 (by omega)).mono fun _ _ => retS_up (fun _ _ _ hl h => h.mono hl))) ?_
    rintro ⟨⟨rv1, Φ1⟩, hrv1, hlΦ1⟩
    replace hrv1 : RepSl Φ1 (Gr.rev arcs) rv1 := hrv1
    replace hlΦ1 : Hp.le Φ Φ1 := hlΦ1
    replace h1 := h1.mono hlΦ1
    refine RW.eff (fun x : {y : Value × Hp // (fun r Ψ => IsVis Ψ n (Gr.rev arcs) r) y.1 y.2 ∧ Hp.le Φ1 y.2} => x.1.1) (fun x => St ⟨w, Φ, []⟩ x.1.2 []) rfl (e_callS (T := fun r Ψ => IsVis Ψ n (Gr.rev arcs) r) (args := #[.int .i64 (n : Int), rv1]) own27 rfl rfl (fun w1 hw1 => (visitor_c w1 Φ1 hw1.phi hrv1 (by omega) (by first | omega | (simp [Gr.rev]; omega)) (Gr.Ok.rev hok)).mono fun _ _ => retS_up (fun _ _ _ hl h => h.mono hl))) ?_
    rintro ⟨⟨fv1, Φ2⟩, hvis1, hlΦ2⟩
    replace hvis1 : IsVis Φ2 n (Gr.rev arcs) fv1 := hvis1
    replace hlΦ2 : Hp.le Φ1 Φ2 := hlΦ2
    replace h1 := h1.mono hlΦ2
    replace hrv1 := hrv1.mono hlΦ2
    refine RW.q (v := .int .i64 b) rfl (q_move rfl) ?_
    refine RW.eff (fun x : {y : Value × Hp // (fun r Ψ => RepSl Ψ (Gr.distL n (Gr.rev arcs) b) r) y.1 y.2 ∧ Hp.le Φ2 y.2} => x.1.1) (fun x => St ⟨w, Φ, []⟩ x.1.2 []) rfl (e_callS (T := fun r Ψ => RepSl Ψ (Gr.distL n (Gr.rev arcs) b) r) (args := #[.int .i64 (n : Int), fv1, .int .i64 b]) own30 rfl rfl (fun w1 hw1 => (distances_c w1 Φ2 hw1.phi hvis1 (by omega) (Gr.Ok.rev hok) (by omega)).mono fun _ _ => retS_up (fun _ _ _ hl h => h.mono hl))) ?_
    rintro ⟨⟨dv1, Φ3⟩, hd1, hlΦ3⟩
    replace hd1 : RepSl Φ3 (Gr.distL n (Gr.rev arcs) b) dv1 := hd1
    replace hlΦ3 : Hp.le Φ2 Φ3 := hlΦ3
    replace h1 := h1.mono hlΦ3
    replace hrv1 := hrv1.mono hlΦ3
    replace hvis1 := hvis1.mono hlΦ3
    refine RW.q (v := dv1) rfl (q_assign rfl) ?_
    refine RW.nil ?_
    refine Post.then_n ?_
    refine AW.seq ?_
    refine AW.seq ?_
    refine AW.region ?_
    refine RW.q (v := dv1) rfl (q_move rfl) ?_
    refine RW.q (v := .int .i64 a) rfl (q_move rfl) ?_
    refine RW.q (v := .pointer (some (Value.at dv1 (a.toNat * 1)))) rfl (q_indexAddr rfl rfl hd1.sl Try.underlying25 sz3 (by omega) (by omega) rfl) ?_
    refine RW.q (v := .int .i64 ((Gr.distL n (Gr.rev arcs) b).getD a.toNat 0)) rfl (q_load rfl Try.underlying3 rfl (Cell.repInt hd1 (by omega))) ?_
    refine RW.q (v := .bool (decide ((Gr.distL n (Gr.rev arcs) b).getD a.toNat 0 < 0))) rfl (q_lss rfl rfl) ?_
    refine RW.nil ?_
    refine Post.then_n ?_
    refine AW.cond (b := decide ((Gr.distL n (Gr.rev arcs) b).getD a.toNat 0 < 0)) rfl (fun hc2 => ?_) (fun hc2 => ?_)
    · simp [-List.getD_eq_getElem?_getD] at hc2
      refine AW.seq ?_
      refine AW.region ?_
      refine RW.q (v := (.slice none 0 0)) rfl (q_assign rfl) ?_
      refine RW.q (v := .bool false) rfl (q_assign rfl) ?_
      refine RW.nil ?_
      refine Post.then_n ?_
      refine AW.ret ?_
      refine Post.then_r ?_
      rw [Gr.pathM, if_neg (fun h => by have := h.2.2.2; rw [Int.toNat_natCast] at this; omega)]
      exact fin_rep2 rfl rfl rfl rfl (fun w' hw => pair_none)
    · simp [-List.getD_eq_getElem?_getD] at hc2
      refine AW.skip ?_
      refine Post.then_n ?_
      refine AW.seq ?_
      refine AW.region ?_
      refine RW.q (v := .int .i64 (n : Int)) rfl (q_move rfl) ?_
      refine RW.q (v := v1) rfl (q_move rfl) ?_
      refine RW.eff (fun x : {y : Value × Hp // (fun r Ψ => IsVis Ψ n arcs r) y.1 y.2 ∧ Hp.le Φ3 y.2} => x.1.1) (fun x => St ⟨w, Φ, []⟩ x.1.2 []) rfl (e_callS (T := fun r Ψ => IsVis Ψ n arcs r) (args := #[.int .i64 (n : Int), v1]) own27 rfl rfl (fun w1 hw1 => (visitor_c w1 Φ3 hw1.phi h1 (by omega) (by first | omega | (simp [Gr.rev]; omega)) hok).mono fun _ _ => retS_up (fun _ _ _ hl h => h.mono hl))) ?_
      rintro ⟨⟨fv2, Φ4⟩, hvis2, hlΦ4⟩
      replace hvis2 : IsVis Φ4 n arcs fv2 := hvis2
      replace hlΦ4 : Hp.le Φ3 Φ4 := hlΦ4
      replace h1 := h1.mono hlΦ4
      replace hrv1 := hrv1.mono hlΦ4
      replace hvis1 := hvis1.mono hlΦ4
      replace hd1 := hd1.mono hlΦ4
      refine RW.q (v := fv2) rfl (q_assign rfl) ?_
      refine RW.nil ?_
      refine Post.then_n ?_
      refine AW.seq ?_
      refine AW.region ?_
      refine RW.q (v := .int .i64 a) rfl (q_move rfl) ?_
      refine RW.eff (fun b1 : Nat => (.slice (some ⟨b1, 0, none⟩) 1 1)) (fun b1 => St ⟨w, Φ, []⟩ Φ4 [.row (.slice (some ⟨b1, 0, none⟩) 1 1) 3 1 1 ([.int .i64 a])]) rfl (e_buildSlice (vals := [(0, .int .i64 a)]) (cells := [.int .i64 a]) Try.underlying25 inf3 rfl rfl rfl (by kernel_rfl) rfl) ?_
      intro b1
      refine RW.q (v := (.slice (some ⟨b1, 0, none⟩) 1 1)) rfl (q_assign rfl) ?_
      refine RW.nil ?_
      refine Post.then_n ?_
      refine AW.seq ?_
      refine AW.seq ?_
      refine AW.region ?_
      refine RW.q (v := .int .i64 a) rfl (q_move rfl) ?_
      refine RW.q (v := .int .i64 a) rfl (q_assign rfl) ?_
      refine RW.nil ?_
      refine Post.then_n ?_
      refine AW.block ?_
      refine AW.loop (fun s J m => ∃ (cur : Int), ∃ (L : List Int), ∃ (lv : Value), s = [(3, .int .i64 b), (10, dv1), (11, fv2), (13, .int .i64 cur), (12, lv)] ∧ J = St ⟨w, Φ, []⟩ Φ4 [.row lv 3 1 L.length (L.map (Value.int .i64))] ∧ m = ((Gr.distL n (Gr.rev arcs) b).getD cur.toNat 0).toNat ∧ (0 ≤ cur ∧ cur < n) ∧ (0 ≤ (Gr.distL n (Gr.rev arcs) b).getD cur.toNat 0) ∧ (L ++ Gr.pathGo arcs (Gr.distL n (Gr.rev arcs) b) b n cur = a :: Gr.pathGo arcs (Gr.distL n (Gr.rev arcs) b) b n a) ∧ (IsSl lv L.length)) (s0 := _) (J1 := _) (m0 := _) ⟨a, [a], _, rfl, rfl, rfl, (by omega), (by omega), rfl, isSl_mk⟩ ⟨rfl, rfl, rfl, rfl, rfl, trivial⟩ (fun _ h => h) ?_
      rintro _ _ _ _ ⟨cur, L, lv, rfl, rfl, rfl, hcur, h0, hL, hlv⟩
      refine AW.seq ?_
      refine AW.seq ?_
      refine AW.region ?_
      refine RW.q (v := .int .i64 cur) rfl (q_move rfl) ?_
      refine RW.q (v := .int .i64 b) rfl (q_move rfl) ?_
      refine RW.q (v := .bool (!decide (cur = b))) rfl (q_neq rfl rfl) ?_
      refine RW.nil ?_
      refine Post.then_n ?_
      refine AW.cond (b := !decide (cur = b)) rfl (fun hc3 => ?_) (fun hc3 => ?_)
      · simp [-List.getD_eq_getElem?_getD] at hc3
        refine AW.skip ?_
        refine Post.then_n ?_
        refine AW.block ?_
        refine AW.seq ?_
        refine AW.region ?_
        refine RW.q (v := fv2) rfl (q_move rfl) ?_
        refine RW.q (v := dv1) rfl (q_move rfl) ?_
        refine RW.q (v := .int .i64 cur) rfl (q_move rfl) ?_
        refine RW.q (v := .int .i64 (Gr.closest arcs (Gr.distL n (Gr.rev arcs) b) cur)) rfl (q_call (args := #[fv2, dv1, .int .i64 cur]) own31 rfl rfl (fun w1 hw1 => closest_c w1 Φ4 hw1.phi hvis2 hd1 hdl (by omega) hok (by omega))) ?_
        refine RW.q (v := .int .i64 (Gr.closest arcs (Gr.distL n (Gr.rev arcs) b) cur)) rfl (q_assign rfl) ?_
        refine RW.nil ?_
        refine Post.then_n ?_
        have hst := Gr.pathGo_step hok hT hcur h0 hc3
        have hcl := Gr.closest_to hok hT hcur hst.2
        have hlen := congrArg List.length hL
        have hla := Gr.pathGo_len hok hT n a (by omega) (by omega) (Gr.to_lt hT (by omega))
        have hlc := Gr.pathGo_len hok hT n cur hcur h0 (Gr.to_lt hT hcur)
        have hta := Gr.to_lt hT (v := a) (by omega)
        rw [List.length_append, List.length_cons] at hlen
        refine AW.region ?_
        refine RW.q (v := lv) rfl (q_move rfl) ?_
        refine RW.q (v := .int .i64 (Gr.closest arcs (Gr.distL n (Gr.rev arcs) b) cur)) rfl (q_move rfl) ?_
        refine RW.eff (fun b2 : Nat => (.slice (some ⟨b2, 0, none⟩) 1 1)) (fun b2 => St ⟨w, Φ, []⟩ Φ4 [.row (.slice (some ⟨b2, 0, none⟩) 1 1) 3 1 1 ([.int .i64 (Gr.closest arcs (Gr.distL n (Gr.rev arcs) b) cur)]), .row lv 3 1 L.length (L.map (Value.int .i64))]) rfl (e_buildSlice (vals := [(0, .int .i64 (Gr.closest arcs (Gr.distL n (Gr.rev arcs) b) cur))]) (cells := [.int .i64 (Gr.closest arcs (Gr.distL n (Gr.rev arcs) b) cur)]) Try.underlying25 inf3 rfl rfl rfl (by kernel_rfl) rfl) ?_
        intro b2
        refine RW.eff (fun xv : {vq : Value // IsSl vq (L.length + 1)} => xv.1) (fun xv => St ⟨w, Φ, []⟩ Φ4 [.row (.slice (some ⟨b2, 0, none⟩) 1 1) 3 1 1 ([.int .i64 (Gr.closest arcs (Gr.distL n (Gr.rev arcs) b) cur)]), .row xv.1 3 1 ((L ++ [Gr.closest arcs (Gr.distL n (Gr.rev arcs) b) cur]).length) ((L ++ [Gr.closest arcs (Gr.distL n (Gr.rev arcs) b) cur]).map (Value.int .i64))]) rfl (e_append 1 rfl rfl rfl Try.underlying25 inf3 rfl rfl rfl (Cells.row0 0 rfl) rfl (by omega) (by omega) (fun _ => by simp)) ?_
        rintro ⟨va1, hva1⟩
        refine RW.wk (J' := St ⟨w, Φ, []⟩ Φ4 [.row va1 3 1 ((L ++ [Gr.closest arcs (Gr.distL n (Gr.rev arcs) b) cur]).length) ((L ++ [Gr.closest arcs (Gr.distL n (Gr.rev arcs) b) cur]).map (Value.int .i64))]) (fun _ h => StP.drop h (by exact .cons _ (.cons_cons _ (.slnil)))) ?_
        refine RW.q (v := va1) rfl (q_assign rfl) ?_
        refine RW.nil ?_
        refine Post.blk_n ?_
        exact Post.back (s' := _) (J' := _) (m' := _) (by rw [hcl.2.1]; omega) ⟨(Gr.closest arcs (Gr.distL n (Gr.rev arcs) b) cur), L ++ [(Gr.closest arcs (Gr.distL n (Gr.rev arcs) b) cur)], va1, rfl, rfl, rfl, hcl.1, (by rw [hcl.2.1]; omega), (by rw [List.append_assoc, List.singleton_append, ← hst.1]; exact hL), (by simpa using hva1)⟩ ⟨rfl, rfl, rfl, rfl, rfl, trivial⟩ (fun _ h => by simpa using h)
      · simp [-List.getD_eq_getElem?_getD] at hc3
        refine AW.exit ?_
        refine Post.then_x (Post.then_x (Post.blk_hit (Post.then_n ?_)))
        refine AW.seq ?_
        refine AW.region ?_
        refine RW.q (v := lv) rfl (q_move rfl) ?_
        refine RW.q (v := lv) rfl (q_assign rfl) ?_
        refine RW.q (v := .bool true) rfl (q_assign rfl) ?_
        refine RW.nil ?_
        refine Post.then_n ?_
        refine AW.ret ?_
        subst hc3
        rw [Gr.pathGo_end, List.append_nil] at hL
        have hlen := congrArg List.length hL
        rw [List.length_cons] at hlen
        have hla := Gr.pathGo_len hok hT n a (by omega) (by omega) (Gr.to_lt hT (by omega))
        have hta := Gr.to_lt hT (v := a) (by omega)
        rw [Gr.pathM, if_pos ⟨hrt, by omega, by omega, by rw [Int.toNat_natCast]; omega⟩, Int.toNat_natCast, ← hL]
        refine fin_rep2 rfl rfl rfl rfl (fun w' hw => ⟨_, rfl, RowS.ints (row_ext hw 0 rfl) (by simp only [maxSl]; omega) (fun x hx => ?_)⟩)
        rw [hL] at hx
        have hxr : 0 ≤ x ∧ x < n := by
          rcases List.mem_cons.1 hx with rfl | hx
          · omega
          · exact Gr.pathGo_in hok hT n a (by omega) (by omega) x hx
        unfold I64; omega

set_option maxHeartbeats 1000000 in
theorem Path_f (w : World) (Φ : Hp) (hΦ : Hp.le Φ (hp w)) {n : Int} {arcs : List Gr.Arc} {v1 : Value} (h1 : RepSl Φ arcs v1) (hrf : Gr.rightB n arcs = false) {a b : Int} :
    Calls Try.prog 17 #[.int .i64 n, v1, .int .i64 a, .int .i64 b] w (RetS noHp w fun r Ψ => PairRep Ψ (Gr.pathM n arcs a b) r) := by
  refine calls_of_AW (args := [.int .i64 n, v1, .int .i64 a, .int .i64 b]) Try.func17 rfl (Nat.le_of_ble_eq_true rfl) (St ⟨w, Φ, []⟩ Φ []) (StP.init w Φ hΦ []) ?_
  show AW Try.prog 66 [] _ _ _ [(0, .int .i64 n), (1, v1), (2, .int .i64 a), (3, .int .i64 b)] _
  refine AW.seq ?_
  refine AW.region ?_
  refine RW.q (v := (.slice none 0 0)) rfl (q_assign rfl) ?_
  refine RW.q (v := .bool false) rfl (q_assign rfl) ?_
  refine RW.nil ?_
  refine Post.then_n ?_
  refine AW.seq ?_
  refine AW.seq ?_
  refine AW.region ?_
  refine RW.q (v := .int .i64 n) rfl (q_move rfl) ?_
  refine RW.q (v := v1) rfl (q_move rfl) ?_
  refine RW.q (v := .bool (Gr.rightB n arcs)) rfl (q_call (args := #[.int .i64 n, v1]) own10 rfl rfl (fun w1 hw1 => Right_c w1 Φ hw1.phi h1)) ?_
  refine RW.q (v := .bool (!(Gr.rightB n arcs))) rfl (q_not rfl) ?_
  refine RW.q (v := .bool (!(Gr.rightB n arcs))) rfl (q_move rfl) ?_
  refine RW.g (b := (!(Gr.rightB n arcs))) (v := .int .i64 a) rfl rfl rfl (fun h => q_move rfl) ?_
  refine RW.g (b := (!(Gr.rightB n arcs))) (v := .bool (decide (a < 0))) rfl rfl rfl (fun h => q_lss (gv_pos h) rfl) ?_
  refine RW.q (v := .bool ((!(Gr.rightB n arcs)) || (decide (a < 0)))) rfl (q_pick rfl (fun hp => pkOrT hp) (fun hp => (gv_pos hp).trans (pkOrF hp))) ?_
  refine RW.q (v := .bool ((!(Gr.rightB n arcs)) || (decide (a < 0)))) rfl (q_move rfl) ?_
  refine RW.g (b := ((!(Gr.rightB n arcs)) || (decide (a < 0)))) (v := .int .i64 a) rfl rfl rfl (fun h => q_move rfl) ?_
  refine RW.g (b := ((!(Gr.rightB n arcs)) || (decide (a < 0)))) (v := .int .i64 n) rfl rfl rfl (fun h => q_move rfl) ?_
  refine RW.g (b := ((!(Gr.rightB n arcs)) || (decide (a < 0)))) (v := .bool (decide (n ≤ a))) rfl rfl rfl (fun h => q_geq (gv_pos h) (gv_pos h)) ?_
  refine RW.q (v := .bool (((!(Gr.rightB n arcs)) || (decide (a < 0))) || (decide (n ≤ a)))) rfl (q_pick rfl (fun hp => pkOrT hp) (fun hp => (gv_pos hp).trans (pkOrF hp))) ?_
  refine RW.q (v := .bool (((!(Gr.rightB n arcs)) || (decide (a < 0))) || (decide (n ≤ a)))) rfl (q_move rfl) ?_
  refine RW.g (b := (((!(Gr.rightB n arcs)) || (decide (a < 0))) || (decide (n ≤ a)))) (v := .int .i64 b) rfl rfl rfl (fun h => q_move rfl) ?_
  refine RW.g (b := (((!(Gr.rightB n arcs)) || (decide (a < 0))) || (decide (n ≤ a)))) (v := .bool (decide (b < 0))) rfl rfl rfl (fun h => q_lss (gv_pos h) rfl) ?_
  refine RW.q (v := .bool ((((!(Gr.rightB n arcs)) || (decide (a < 0))) || (decide (n ≤ a))) || (decide (b < 0)))) rfl (q_pick rfl (fun hp => pkOrT hp) (fun hp => (gv_pos hp).trans (pkOrF hp))) ?_
  refine RW.q (v := .bool ((((!(Gr.rightB n arcs)) || (decide (a < 0))) || (decide (n ≤ a))) || (decide (b < 0)))) rfl (q_move rfl) ?_
  refine RW.g (b := ((((!(Gr.rightB n arcs)) || (decide (a < 0))) || (decide (n ≤ a))) || (decide (b < 0)))) (v := .int .i64 b) rfl rfl rfl (fun h => q_move rfl) ?_
  refine RW.g (b := ((((!(Gr.rightB n arcs)) || (decide (a < 0))) || (decide (n ≤ a))) || (decide (b < 0)))) (v := .int .i64 n) rfl rfl rfl (fun h => q_move rfl) ?_
  refine RW.g (b := ((((!(Gr.rightB n arcs)) || (decide (a < 0))) || (decide (n ≤ a))) || (decide (b < 0)))) (v := .bool (decide (n ≤ b))) rfl rfl rfl (fun h => q_geq (gv_pos h) (gv_pos h)) ?_
  refine RW.q (v := .bool (((((!(Gr.rightB n arcs)) || (decide (a < 0))) || (decide (n ≤ a))) || (decide (b < 0))) || (decide (n ≤ b)))) rfl (q_pick rfl (fun hp => pkOrT hp) (fun hp => (gv_pos hp).trans (pkOrF hp))) ?_
  refine RW.nil ?_
  refine Post.then_n ?_
  refine AW.cond (b := ((((!(Gr.rightB n arcs)) || (decide (a < 0))) || (decide (n ≤ a))) || (decide (b < 0))) || (decide (n ≤ b))) rfl (fun hc1 => ?_) (fun hc1 => ?_)
  · simp [-List.getD_eq_getElem?_getD] at hc1
    refine AW.seq ?_
    refine AW.region ?_
    refine RW.q (v := (.slice none 0 0)) rfl (q_assign rfl) ?_
    refine RW.q (v := .bool false) rfl (q_assign rfl) ?_
    refine RW.nil ?_
    refine Post.then_n ?_
    refine AW.ret ?_
    refine Post.then_r ?_
    rw [Gr.pathM, if_neg (by simp [hrf])]
    exact fin_rep2 rfl rfl rfl rfl (fun w' hw => pair_none)
  · simp [-List.getD_eq_getElem?_getD] at hc1
    simp [hrf] at hc1

theorem Path_c (w : World) (Φ : Hp) (hΦ : Hp.le Φ (hp w)) {n : Int} {arcs : List Gr.Arc} {v1 : Value} (h1 : RepSl Φ arcs v1) {a b : Int} :
    Calls Try.prog 17 #[.int .i64 n, v1, .int .i64 a, .int .i64 b] w (RetS noHp w fun r Ψ => PairRep Ψ (Gr.pathM n arcs a b) r) := by
  cases h : Gr.rightB n arcs with
  | false => exact Path_f w Φ hΦ h1 h
  | true =>
    obtain ⟨N, rfl⟩ := Int.eq_ofNat_of_zero_le (Gr.right_ok h).1.1
    exact Path_t w Φ hΦ h1 h

set_option maxHeartbeats 1000000 in
theorem Loop_t (w : World) (Φ : Hp) (hΦ : Hp.le Φ (hp w)) {n : Nat} {arcs : List Gr.Arc} {v1 : Value} (h1 : RepSl Φ arcs v1) (hrt : Gr.rightB n arcs = true) :
    Calls Try.prog 12 #[.int .i64 (n : Int), v1] w (RetS noHp w fun r Ψ => RepSl Ψ (Gr.loopM n arcs) r) := by
  refine calls_of_AW (args := [.int .i64 (n : Int), v1]) Try.func12 rfl (Nat.le_of_ble_eq_true rfl) (St ⟨w, Φ, []⟩ Φ []) (StP.init w Φ hΦ []) ?_
  show AW Try.prog 51 [] _ _ _ [(0, .int .i64 (n : Int)), (1, v1)] _
  obtain ⟨hn, har, hok⟩ := Gr.right_ok hrt
  rw [Int.toNat_natCast] at hok
  have hn2 : n ≤ 256 := by omega
  clear hn
  have hmh1 : arcs.length * 16 ≤ 140737488355328 := h1.max
  refine AW.seq ?_
  refine AW.region ?_
  refine RW.q (v := (.slice none 0 0)) rfl (q_assign rfl) ?_
  refine RW.nil ?_
  refine Post.then_n ?_
  refine AW.seq ?_
  refine AW.seq ?_
  refine AW.region ?_
  refine RW.q (v := .int .i64 (n : Int)) rfl (q_move rfl) ?_
  refine RW.q (v := v1) rfl (q_move rfl) ?_
  refine RW.q (v := .bool (Gr.rightB (n : Int) arcs)) rfl (q_call (args := #[.int .i64 (n : Int), v1]) own10 rfl rfl (fun w1 hw1 => Right_c w1 Φ hw1.phi h1)) ?_
  refine RW.q (v := .bool (!(Gr.rightB (n : Int) arcs))) rfl (q_not rfl) ?_
  refine RW.nil ?_
  refine Post.then_n ?_
  refine AW.cond (b := !(Gr.rightB (n : Int) arcs)) rfl (fun hc1 => ?_) (fun hc1 => ?_)
  · simp [-List.getD_eq_getElem?_getD] at hc1
    simp [hrt] at hc1
  · simp [-List.getD_eq_getElem?_getD] at hc1
    refine AW.skip ?_
    refine Post.then_n ?_
    refine AW.seq ?_
    refine AW.region ?_
    refine RW.q (v := .int .i64 (n : Int)) rfl (q_move rfl) ?_
    refine RW.q (v := v1) rfl (q_move rfl) ?_
    refine RW.eff (fun x : {y : Value × Hp // (fun r Ψ => IsVis Ψ n arcs r) y.1 y.2 ∧ Hp.le Φ y.2} => x.1.1) (fun x => St ⟨w, Φ, []⟩ x.1.2 []) rfl (e_callS (T := fun r Ψ => IsVis Ψ n arcs r) (args := #[.int .i64 (n : Int), v1]) own27 rfl rfl (fun w1 hw1 => (visitor_c w1 Φ hw1.phi h1 (by omega) (by first | omega | (simp [Gr.rev]; omega)) hok).mono fun _ _ => retS_up (fun _ _ _ hl h => h.mono hl))) ?_
    rintro ⟨⟨fv1, Φ1⟩, hvis1, hlΦ1⟩
    replace hvis1 : IsVis Φ1 n arcs fv1 := hvis1
    replace hlΦ1 : Hp.le Φ Φ1 := hlΦ1
    replace h1 := h1.mono hlΦ1
    refine RW.q (v := .int .i64 (n : Int)) rfl (q_move rfl) ?_
    refine RW.q (v := v1) rfl (q_move rfl) ?_
    refine RW.eff (fun x : {y : Value × Hp // (fun r Ψ => RepSl Ψ (Gr.rev arcs) r) y.1 y.2 ∧ Hp.le Φ1 y.2} => x.1.1) (fun x => St ⟨w, Φ, []⟩ x.1.2 []) rfl (e_callS (T := fun r Ψ => RepSl Ψ (Gr.rev arcs) r) (args := #[v1]) own29 rfl rfl (fun w1 hw1 => (reverse_c w1 Φ1 hw1.phi h1 (by omega)).mono fun _ _ => retS_up (fun _ _ _ hl h => h.mono hl))) ?_
    rintro ⟨⟨rv1, Φ2⟩, hrv1, hlΦ2⟩
    replace hrv1 : RepSl Φ2 (Gr.rev arcs) rv1 := hrv1
    replace hlΦ2 : Hp.le Φ1 Φ2 := hlΦ2
    replace h1 := h1.mono hlΦ2
    replace hvis1 := hvis1.mono hlΦ2
    refine RW.eff (fun x : {y : Value × Hp // (fun r Ψ => IsVis Ψ n (Gr.rev arcs) r) y.1 y.2 ∧ Hp.le Φ2 y.2} => x.1.1) (fun x => St ⟨w, Φ, []⟩ x.1.2 []) rfl (e_callS (T := fun r Ψ => IsVis Ψ n (Gr.rev arcs) r) (args := #[.int .i64 (n : Int), rv1]) own27 rfl rfl (fun w1 hw1 => (visitor_c w1 Φ2 hw1.phi hrv1 (by omega) (by first | omega | (simp [Gr.rev]; omega)) (Gr.Ok.rev hok)).mono fun _ _ => retS_up (fun _ _ _ hl h => h.mono hl))) ?_
    rintro ⟨⟨fv2, Φ3⟩, hvis2, hlΦ3⟩
    replace hvis2 : IsVis Φ3 n (Gr.rev arcs) fv2 := hvis2
    replace hlΦ3 : Hp.le Φ2 Φ3 := hlΦ3
    replace h1 := h1.mono hlΦ3
    replace hvis1 := hvis1.mono hlΦ3
    replace hrv1 := hrv1.mono hlΦ3
    refine RW.q (v := fv1) rfl (q_assign rfl) ?_
    refine RW.q (v := fv2) rfl (q_assign rfl) ?_
    refine RW.nil ?_
    refine Post.then_n ?_
    refine AW.seq ?_
    refine AW.seq ?_
    refine AW.region ?_
    refine RW.q (v := .int .i64 (n : Int)) rfl (q_move rfl) ?_
    refine RW.q (v := .int .i64 0) rfl (q_move rfl) ?_
    refine RW.nil ?_
    refine Post.then_n ?_
    refine AW.block ?_
    refine AW.loop (fun s J m => ∃ (v : Nat), s = [(0, .int .i64 (n : Int)), (5, fv1), (6, fv2), (22, .int .i64 (n : Int)), (23, .int .i64 (v : Int))] ∧ J = St ⟨w, Φ, []⟩ Φ3 [] ∧ m = n - v ∧ (v ≤ n) ∧ (Gr.loopFrom n arcs (n - v) v = Gr.loopFrom n arcs n 0)) (s0 := _) (J1 := _) (m0 := _) ⟨0, rfl, rfl, rfl, (by omega), rfl⟩ ⟨rfl, rfl, rfl, rfl, rfl, trivial⟩ (fun _ h => h) ?_
    rintro _ _ _ _ ⟨v, rfl, rfl, rfl, hv, hloop⟩
    refine AW.seq ?_
    refine AW.region ?_
    refine RW.q (v := .bool (decide ((v : Int) < (n : Int)))) rfl (q_lss rfl rfl) ?_
    refine RW.nil ?_
    refine Post.then_n ?_
    refine AW.seq ?_
    refine AW.cond (b := decide ((v : Int) < (n : Int))) rfl (fun hc2 => ?_) (fun hc2 => ?_)
    · simp [-List.getD_eq_getElem?_getD] at hc2
      refine AW.skip ?_
      refine Post.then_n ?_
      refine AW.seq ?_
      refine AW.block ?_
      refine AW.seq ?_
      refine AW.region ?_
      refine RW.q (v := .int .i64 (v : Int)) rfl (q_move rfl) ?_
      refine RW.q (v := .int .i64 (v : Int)) rfl (q_assign rfl) ?_
      refine RW.nil ?_
      refine Post.then_n ?_
      refine AW.seq ?_
      have hvn : 0 ≤ (v : Int) ∧ (v : Int) < n := by omega
      have hT : Gr.IsTo n arcs (v : Int) (Gr.distL n (Gr.rev arcs) (v : Int)) := Gr.distL_is hok.rev hvn
      have hdl := hT.1
      have hsp := Gr.closest_spec (d := (Gr.distL n (Gr.rev arcs) (v : Int))) (v := (v : Int)) hok
      have hcr := Gr.closest_range (d := (Gr.distL n (Gr.rev arcs) (v : Int))) (v := (v : Int)) hok
      refine AW.region ?_
      refine RW.q (v := .int .i64 (n : Int)) rfl (q_move rfl) ?_
      refine RW.q (v := fv2) rfl (q_move rfl) ?_
      refine RW.q (v := .int .i64 (v : Int)) rfl (q_move rfl) ?_
      refine RW.eff (fun x : {y : Value × Hp // (fun r Ψ => RepSl Ψ (Gr.distL n (Gr.rev arcs) (v : Int)) r) y.1 y.2 ∧ Hp.le Φ3 y.2} => x.1.1) (fun x => St ⟨w, Φ, []⟩ x.1.2 []) rfl (e_callS (T := fun r Ψ => RepSl Ψ (Gr.distL n (Gr.rev arcs) (v : Int)) r) (args := #[.int .i64 (n : Int), fv2, .int .i64 (v : Int)]) own30 rfl rfl (fun w1 hw1 => (distances_c w1 Φ3 hw1.phi hvis2 (by omega) (Gr.Ok.rev hok) (by omega)).mono fun _ _ => retS_up (fun _ _ _ hl h => h.mono hl))) ?_
      rintro ⟨⟨dv1, Φ4⟩, hd1, hlΦ4⟩
      replace hd1 : RepSl Φ4 (Gr.distL n (Gr.rev arcs) (v : Int)) dv1 := hd1
      replace hlΦ4 : Hp.le Φ3 Φ4 := hlΦ4
      replace h1 := h1.mono hlΦ4
      replace hvis1 := hvis1.mono hlΦ4
      replace hrv1 := hrv1.mono hlΦ4
      replace hvis2 := hvis2.mono hlΦ4
      refine RW.q (v := dv1) rfl (q_assign rfl) ?_
      refine RW.nil ?_
      refine Post.then_n ?_
      refine AW.seq ?_
      refine AW.region ?_
      refine RW.q (v := fv1) rfl (q_move rfl) ?_
      refine RW.q (v := dv1) rfl (q_move rfl) ?_
      refine RW.q (v := .int .i64 (v : Int)) rfl (q_move rfl) ?_
      refine RW.q (v := .int .i64 (Gr.closest arcs (Gr.distL n (Gr.rev arcs) (v : Int)) (v : Int))) rfl (q_call (args := #[fv1, dv1, .int .i64 (v : Int)]) own31 rfl rfl (fun w1 hw1 => closest_c w1 Φ4 hw1.phi hvis1 hd1 hdl (by omega) hok (by omega))) ?_
      refine RW.q (v := .int .i64 (Gr.closest arcs (Gr.distL n (Gr.rev arcs) (v : Int)) (v : Int))) rfl (q_assign rfl) ?_
      refine RW.nil ?_
      refine Post.then_n ?_
      refine AW.seq ?_
      refine AW.seq ?_
      refine AW.region ?_
      refine RW.q (v := .int .i64 (Gr.closest arcs (Gr.distL n (Gr.rev arcs) (v : Int)) (v : Int))) rfl (q_move rfl) ?_
      refine RW.q (v := .bool (decide (Gr.closest arcs (Gr.distL n (Gr.rev arcs) (v : Int)) (v : Int) < 0))) rfl (q_lss rfl rfl) ?_
      refine RW.nil ?_
      refine Post.then_n ?_
      refine AW.cond (b := decide (Gr.closest arcs (Gr.distL n (Gr.rev arcs) (v : Int)) (v : Int) < 0)) rfl (fun hc3 => ?_) (fun hc3 => ?_)
      · simp [-List.getD_eq_getElem?_getD] at hc3
        refine AW.exit ?_
        refine Post.then_x (Post.blk_hit (Post.then_n ?_))
        refine AW.region ?_
        refine RW.q (v := .int .i64 ((v + 1 : Nat) : Int)) rfl (q_add rfl rfl (by omega) (by unfold I64; omega)) ?_
        refine RW.q (v := .int .i64 ((v + 1 : Nat) : Int)) rfl (q_move rfl) ?_
        refine RW.nil ?_
        exact Post.back (s' := _) (J' := _) (m' := _) (by omega) ⟨v + 1, rfl, rfl, rfl, (by omega), (by rw [← hloop, show n - v = (n - (v + 1)) + 1 by omega, Gr.loopFrom, if_pos hc3])⟩ ⟨rfl, rfl, rfl, rfl, rfl, trivial⟩ (fun _ h => StP.know (by assumption) h)
      · simp [-List.getD_eq_getElem?_getD] at hc3
        refine AW.skip ?_
        refine Post.then_n ?_
        refine AW.seq ?_
        have hcw : (0 ≤ Gr.closest arcs (Gr.distL n (Gr.rev arcs) (v : Int)) v ∧ Gr.closest arcs (Gr.distL n (Gr.rev arcs) (v : Int)) v < n) ∧ 0 ≤ (Gr.distL n (Gr.rev arcs) (v : Int)).getD (Gr.closest arcs (Gr.distL n (Gr.rev arcs) (v : Int)) v).toNat 0 := by
          rcases hsp with h | h
          · omega
          · exact ⟨by omega, h.2.2.1⟩
        refine AW.region ?_
        refine RW.q (v := .int .i64 (v : Int)) rfl (q_move rfl) ?_
        refine RW.eff (fun b1 : Nat => (.slice (some ⟨b1, 0, none⟩) 1 1)) (fun b1 => St ⟨w, Φ, []⟩ Φ4 [.row (.slice (some ⟨b1, 0, none⟩) 1 1) 3 1 1 ([.int .i64 (v : Int)])]) rfl (e_buildSlice (vals := [(0, .int .i64 (v : Int))]) (cells := [.int .i64 (v : Int)]) Try.underlying25 inf3 rfl rfl rfl (by kernel_rfl) rfl) ?_
        intro b1
        refine RW.q (v := (.slice (some ⟨b1, 0, none⟩) 1 1)) rfl (q_assign rfl) ?_
        refine RW.nil ?_
        refine Post.then_n ?_
        refine AW.seq ?_
        refine AW.block ?_
        refine AW.loop (fun s J m => ∃ (cur : Int), ∃ (L : List Int), ∃ (lv : Value), s = [(5, fv1), (7, .int .i64 (v : Int)), (8, dv1), (9, .int .i64 cur), (10, lv)] ∧ J = St ⟨w, Φ, []⟩ Φ4 [.row lv 3 1 L.length (L.map (Value.int .i64))] ∧ m = ((Gr.distL n (Gr.rev arcs) (v : Int)).getD cur.toNat 0).toNat ∧ (0 ≤ cur ∧ cur < n) ∧ (0 ≤ (Gr.distL n (Gr.rev arcs) (v : Int)).getD cur.toNat 0) ∧ (L ++ Gr.cycGo arcs (Gr.distL n (Gr.rev arcs) (v : Int)) v n cur = (v : Int) :: Gr.cycGo arcs (Gr.distL n (Gr.rev arcs) (v : Int)) v n (Gr.closest arcs (Gr.distL n (Gr.rev arcs) (v : Int)) v)) ∧ (IsSl lv L.length)) (s0 := _) (J1 := _) (m0 := _) ⟨_, [(v : Int)], _, rfl, rfl, rfl, hcw.1, hcw.2, rfl, isSl_mk⟩ ⟨rfl, rfl, rfl, rfl, rfl, trivial⟩ (fun _ h => h) ?_
        rintro _ _ _ _ ⟨cur, L, lv, rfl, rfl, rfl, hcur, h0, hL, hlv⟩
        refine AW.seq ?_
        refine AW.seq ?_
        refine AW.region ?_
        refine RW.q (v := .int .i64 cur) rfl (q_move rfl) ?_
        refine RW.q (v := .int .i64 (v : Int)) rfl (q_move rfl) ?_
        refine RW.q (v := .bool (!decide (cur = (v : Int)))) rfl (q_neq rfl rfl) ?_
        refine RW.nil ?_
        refine Post.then_n ?_
        refine AW.cond (b := !decide (cur = (v : Int))) rfl (fun hc4 => ?_) (fun hc4 => ?_)
        · simp [-List.getD_eq_getElem?_getD] at hc4
          refine AW.skip ?_
          refine Post.then_n ?_
          refine AW.block ?_
          refine AW.seq ?_
          have hst := Gr.cycGo_step hok hT hcur h0 hc4
          have hps := (Gr.pathGo_step hok hT hcur h0 hc4).2
          have hcl := Gr.closest_to hok hT hcur hps
          have hlen := congrArg List.length hL
          have hla := Gr.pathGo_len hok hT n _ hcw.1 hcw.2 (Gr.to_lt hT hcw.1)
          have hta := Gr.to_lt hT hcw.1
          rw [List.length_append, List.length_cons, Gr.cycGo_len, Gr.cycGo_len] at hlen
          refine AW.region ?_
          refine RW.q (v := lv) rfl (q_move rfl) ?_
          refine RW.q (v := .int .i64 cur) rfl (q_move rfl) ?_
          refine RW.eff (fun b2 : Nat => (.slice (some ⟨b2, 0, none⟩) 1 1)) (fun b2 => St ⟨w, Φ, []⟩ Φ4 [.row (.slice (some ⟨b2, 0, none⟩) 1 1) 3 1 1 ([.int .i64 cur]), .row lv 3 1 L.length (L.map (Value.int .i64))]) rfl (e_buildSlice (vals := [(0, .int .i64 cur)]) (cells := [.int .i64 cur]) Try.underlying25 inf3 rfl rfl rfl (by kernel_rfl) rfl) ?_
          intro b2
          refine RW.eff (fun xv : {vq : Value // IsSl vq (L.length + 1)} => xv.1) (fun xv => St ⟨w, Φ, []⟩ Φ4 [.row (.slice (some ⟨b2, 0, none⟩) 1 1) 3 1 1 ([.int .i64 cur]), .row xv.1 3 1 ((L ++ [cur]).length) ((L ++ [cur]).map (Value.int .i64))]) rfl (e_append 1 rfl rfl rfl Try.underlying25 inf3 rfl rfl rfl (Cells.row0 0 rfl) rfl (by omega) (by omega) (fun _ => by simp)) ?_
          rintro ⟨va1, hva1⟩
          refine RW.wk (J' := St ⟨w, Φ, []⟩ Φ4 [.row va1 3 1 ((L ++ [cur]).length) ((L ++ [cur]).map (Value.int .i64))]) (fun _ h => StP.drop h (by exact .cons _ (.cons_cons _ (.slnil)))) ?_
          refine RW.q (v := va1) rfl (q_assign rfl) ?_
          refine RW.nil ?_
          refine Post.then_n ?_
          refine AW.region ?_
          refine RW.q (v := fv1) rfl (q_move rfl) ?_
          refine RW.q (v := dv1) rfl (q_move rfl) ?_
          refine RW.q (v := .int .i64 cur) rfl (q_move rfl) ?_
          refine RW.q (v := .int .i64 (Gr.closest arcs (Gr.distL n (Gr.rev arcs) (v : Int)) cur)) rfl (q_call (args := #[fv1, dv1, .int .i64 cur]) own31 rfl rfl (fun w1 hw1 => closest_c w1 Φ4 hw1.phi hvis1 hd1 hdl (by omega) hok (by omega))) ?_
          refine RW.q (v := .int .i64 (Gr.closest arcs (Gr.distL n (Gr.rev arcs) (v : Int)) cur)) rfl (q_assign rfl) ?_
          refine RW.nil ?_
          refine Post.blk_n ?_
          exact Post.back (s' := _) (J' := _) (m' := _) (by rw [hcl.2.1]; omega) ⟨(Gr.closest arcs (Gr.distL n (Gr.rev arcs) (v : Int)) cur), L ++ [cur], va1, rfl, rfl, rfl, hcl.1, (by rw [hcl.2.1]; omega), (by rw [List.append_assoc, List.singleton_append, ← hst]; exact hL), (by simpa using hva1)⟩ ⟨rfl, rfl, rfl, rfl, rfl, trivial⟩ (fun _ h => by simpa using h)
        · simp [-List.getD_eq_getElem?_getD] at hc4
          refine AW.exit ?_
          refine Post.then_x (Post.then_x (Post.blk_hit (Post.then_n ?_)))
          refine AW.seq ?_
          refine AW.region ?_
          refine RW.q (v := lv) rfl (q_move rfl) ?_
          refine RW.q (v := lv) rfl (q_assign rfl) ?_
          refine RW.nil ?_
          refine Post.then_n ?_
          refine AW.ret ?_
          refine Post.blk_r (Post.then_r (Post.then_r (Post.blk_r (Post.then_r ?_))))
          subst hc4
          rw [Gr.cycGo_end, List.append_nil] at hL
          have hlen := congrArg List.length hL
          rw [List.length_cons, Gr.cycGo_len] at hlen
          have hla := Gr.pathGo_len hok hT n _ hcw.1 hcw.2 (Gr.to_lt hT hcw.1)
          have hta := Gr.to_lt hT hcw.1
          have hres : Gr.loopM n arcs = L := by
            rw [Gr.loopM, if_pos hrt, Int.toNat_natCast, ← hloop, show n - v = (n - (v + 1)) + 1 by omega, Gr.loopFrom, if_neg (by omega), Gr.loopAt, if_neg (by omega), hL]
          rw [hres]
          refine fin_rep rfl rfl rfl (fun w' hw => RowS.ints (row_ext hw 0 rfl) (by simp only [maxSl]; omega) (fun x hx => ?_))
          rw [hL] at hx
          have hxr : 0 ≤ x ∧ x < n := by
            rcases List.mem_cons.1 hx with rfl | hx
            · omega
            · exact Gr.cycGo_in hok hT n _ hcw.1 hcw.2 x hx
          unfold I64; omega
    · simp [-List.getD_eq_getElem?_getD] at hc2
      refine AW.exit ?_
      refine Post.then_x (Post.then_x (Post.blk_hit (Post.then_n ?_)))
      refine AW.seq ?_
      refine AW.region ?_
      refine RW.q (v := (.slice none 0 0)) rfl (q_assign rfl) ?_
      refine RW.nil ?_
      refine Post.then_n ?_
      refine AW.ret ?_
      have hres : Gr.loopM n arcs = [] := by
        rw [Gr.loopM, if_pos hrt, Int.toNat_natCast, ← hloop, show n - v = 0 by omega, Gr.loopFrom]
      rw [hres]
      exact fin_rep rfl rfl rfl (fun w' hw => repSl_nil)

set_option maxHeartbeats 1000000 in
theorem Loop_f (w : World) (Φ : Hp) (hΦ : Hp.le Φ (hp w)) {n : Int} {arcs : List Gr.Arc} {v1 : Value} (h1 : RepSl Φ arcs v1) (hrf : Gr.rightB n arcs = false) :
    Calls Try.prog 12 #[.int .i64 n, v1] w (RetS noHp w fun r Ψ => RepSl Ψ (Gr.loopM n arcs) r) := by
  refine calls_of_AW (args := [.int .i64 n, v1]) Try.func12 rfl (Nat.le_of_ble_eq_true rfl) (St ⟨w, Φ, []⟩ Φ []) (StP.init w Φ hΦ []) ?_
  show AW Try.prog 51 [] _ _ _ [(0, .int .i64 n), (1, v1)] _
  refine AW.seq ?_
  refine AW.region ?_
  refine RW.q (v := (.slice none 0 0)) rfl (q_assign rfl) ?_
  refine RW.nil ?_
  refine Post.then_n ?_
  refine AW.seq ?_
  refine AW.seq ?_
  refine AW.region ?_
  refine RW.q (v := .int .i64 n) rfl (q_move rfl) ?_
  refine RW.q (v := v1) rfl (q_move rfl) ?_
  refine RW.q (v := .bool (Gr.rightB n arcs)) rfl (q_call (args := #[.int .i64 n, v1]) own10 rfl rfl (fun w1 hw1 => Right_c w1 Φ hw1.phi h1)) ?_
  refine RW.q (v := .bool (!(Gr.rightB n arcs))) rfl (q_not rfl) ?_
  refine RW.nil ?_
  refine Post.then_n ?_
  refine AW.cond (b := !(Gr.rightB n arcs)) rfl (fun hc1 => ?_) (fun hc1 => ?_)
  · simp [-List.getD_eq_getElem?_getD] at hc1
    refine AW.seq ?_
    refine AW.region ?_
    refine RW.q (v := (.slice none 0 0)) rfl (q_assign rfl) ?_
    refine RW.nil ?_
    refine Post.then_n ?_
    refine AW.ret ?_
    refine Post.then_r ?_
    rw [Gr.loopM, if_neg (by simp [hrf])]
    exact fin_rep rfl rfl rfl (fun w' hw => repSl_nil)
  · simp [-List.getD_eq_getElem?_getD] at hc1
    simp [hrf] at hc1

theorem Loop_c (w : World) (Φ : Hp) (hΦ : Hp.le Φ (hp w)) {n : Int} {arcs : List Gr.Arc} {v1 : Value} (h1 : RepSl Φ arcs v1) :
    Calls Try.prog 12 #[.int .i64 n, v1] w (RetS noHp w fun r Ψ => RepSl Ψ (Gr.loopM n arcs) r) := by
  cases h : Gr.rightB n arcs with
  | false => exact Loop_f w Φ hΦ h1 h
  | true =>
    obtain ⟨N, rfl⟩ := Int.eq_ofNat_of_zero_le (Gr.right_ok h).1.1
    exact Loop_t w Φ hΦ h1 h

end Go.Proofs.Ytjkoojeampaeeaa
