/- The walks of layer 11 (part WalkJ), printed by walk.py. Conditions: those of each theorem. -/
import Derived.Test.YtjkoojeampaeeaaWalkI
namespace Go.Proofs.Ytjkoojeampaeeaa
open Go Go.K Go.RowKit

set_option maxHeartbeats 1000000 in
theorem rLoop_t (w : World) (Φ : Hp) (hΦ : Hp.le Φ (hp w)) {n : Nat} {arcs : List Gr.Arc} {v1 : Value} (h1 : RepSl Φ arcs v1) (hrt : Gr.rightB n arcs = true) :
    Calls Try.prog 26 #[.int .i64 (n : Int), v1] w (RetS noHp w fun r Ψ => RepSl Ψ (Gr.loopM n arcs) r) := by
  refine calls_of_AW (args := [.int .i64 (n : Int), v1]) Try.func26 rfl (Nat.le_of_ble_eq_true rfl) (St ⟨w, Φ, []⟩ Φ []) (StP.init w Φ hΦ []) ?_
  show AW Try.prog 79 [] _ _ _ [(0, .int .i64 (n : Int)), (1, v1)] _
  obtain ⟨hn, har, hok⟩ := Gr.right_ok hrt
  rw [Int.toNat_natCast] at hok
  have hn2 : n ≤ 256 := by omega
  clear hn
  have hmh1 : arcs.length * 16 ≤ 140737488355328 := h1.max
  refine AW.seq ?_
  refine AW.region ?_
  refine RW.q (v := (.slice none 0 0)) rfl (q_assign rfl) ?_
  refine RW.nil ?_
  refine Post.then_n ?_
  refine AW.seq ?_
  refine AW.region ?_
  refine RW.q (v := .int .i64 (n : Int)) rfl (q_move rfl) ?_
  refine RW.q (v := v1) rfl (q_move rfl) ?_
  refine RW.q (v := .bool (Gr.rightB (n : Int) arcs)) rfl (q_call (args := #[.int .i64 (n : Int), v1]) own22 rfl rfl (fun w1 hw1 => rRight_c w1 Φ hw1.phi h1)) ?_
  refine RW.q (v := .bool (Gr.rightB (n : Int) arcs)) rfl (q_assign rfl) ?_
  refine RW.nil ?_
  refine Post.then_n ?_
  refine AW.seq ?_
  refine AW.seq ?_
  refine AW.region ?_
  refine RW.q (v := .bool (Gr.rightB (n : Int) arcs)) rfl (q_move rfl) ?_
  refine RW.q (v := .bool (!(Gr.rightB (n : Int) arcs))) rfl (q_not rfl) ?_
  refine RW.nil ?_
  refine Post.then_n ?_
  refine AW.cond (b := !(Gr.rightB (n : Int) arcs)) rfl (fun hc1 => ?_) (fun hc1 => ?_)
  · simp [-List.getD_eq_getElem?_getD] at hc1
    simp [hrt] at hc1
  · simp [-List.getD_eq_getElem?_getD] at hc1
    refine AW.skip ?_
    refine Post.then_n ?_
    refine AW.seq ?_
    refine AW.seq ?_
    refine AW.region ?_
    refine RW.q (v := .int .i64 0) rfl (q_assign rfl) ?_
    refine RW.nil ?_
    refine Post.then_n ?_
    refine AW.block ?_
    refine AW.loop (fun s J m => ∃ (v : Nat), s = [(0, .int .i64 (n : Int)), (1, v1), (6, .int .i64 (v : Int))] ∧ J = St ⟨w, Φ, []⟩ Φ [] ∧ m = n - v ∧ (v ≤ n) ∧ (Gr.loopFrom n arcs (n - v) v = Gr.loopFrom n arcs n 0)) (s0 := _) (J1 := _) (m0 := _) ⟨0, rfl, rfl, rfl, (by omega), rfl⟩ ⟨rfl, rfl, rfl, trivial⟩ (fun _ h => h) ?_
    rintro _ _ _ _ ⟨v, rfl, rfl, rfl, hv, hloop⟩
    refine AW.seq ?_
    refine AW.seq ?_
    refine AW.region ?_
    refine RW.q (v := .int .i64 (v : Int)) rfl (q_move rfl) ?_
    refine RW.q (v := .int .i64 (n : Int)) rfl (q_move rfl) ?_
    refine RW.q (v := .bool (decide ((v : Int) < (n : Int)))) rfl (q_lss rfl rfl) ?_
    refine RW.nil ?_
    refine Post.then_n ?_
    refine AW.cond (b := decide ((v : Int) < (n : Int))) rfl (fun hc2 => ?_) (fun hc2 => ?_)
    · simp [-List.getD_eq_getElem?_getD] at hc2
      refine AW.skip ?_
      refine Post.then_n ?_
      refine AW.seq ?_
      refine AW.block ?_
      refine AW.seq ?_
      refine AW.region ?_
      refine RW.q (v := (.slice none 0 0)) rfl (q_assign rfl) ?_
      refine RW.nil ?_
      refine Post.then_n ?_
      refine AW.seq ?_
      refine AW.seq ?_
      refine AW.region ?_
      refine RW.q (v := .int .i64 0) rfl (q_assign rfl) ?_
      refine RW.nil ?_
      refine Post.then_n ?_
      refine AW.block ?_
      refine AW.loop (fun s J m => ∃ (k : Nat), ∃ (bw : Int), ∃ (B : List Int), ∃ (bv : Value), s = [(0, .int .i64 (n : Int)), (1, v1), (6, .int .i64 (v : Int)), (7, bv), (8, .int .i64 (k : Int))] ∧ J = St ⟨w, Φ, []⟩ Φ [.row bv 3 1 B.length (B.map (Value.int .i64))] ∧ m = n - k ∧ (k ≤ n) ∧ (Gr.CI n arcs (v : Int) k bw B) ∧ (IsSl bv B.length) ∧ (nilSl bv = decide (B.length = 0))) (s0 := _) (J1 := _) (m0 := _) ⟨0, -1, [], _, rfl, rfl, rfl, (by omega), Gr.CI.start, isSl_nil, rfl⟩ ⟨rfl, rfl, rfl, rfl, rfl, trivial⟩ (fun _ h => addNil h) ?_
      rintro _ _ _ _ ⟨k, bw, B, bv, rfl, rfl, rfl, hk, hCI, hbv, hnb⟩
      refine AW.seq ?_
      refine AW.seq ?_
      refine AW.region ?_
      refine RW.q (v := .int .i64 (k : Int)) rfl (q_move rfl) ?_
      refine RW.q (v := .int .i64 (n : Int)) rfl (q_move rfl) ?_
      refine RW.q (v := .bool (decide ((k : Int) < (n : Int)))) rfl (q_lss rfl rfl) ?_
      refine RW.nil ?_
      refine Post.then_n ?_
      refine AW.cond (b := decide ((k : Int) < (n : Int))) rfl (fun hc3 => ?_) (fun hc3 => ?_)
      · simp [-List.getD_eq_getElem?_getD] at hc3
        refine AW.skip ?_
        refine Post.then_n ?_
        refine AW.seq ?_
        refine AW.block ?_
        refine AW.seq ?_
        refine AW.region ?_
        refine RW.q (v := v1) rfl (q_move rfl) ?_
        refine RW.q (v := .int .i64 (v : Int)) rfl (q_move rfl) ?_
        refine RW.q (v := .int .i64 (k : Int)) rfl (q_move rfl) ?_
        refine RW.q (v := .bool (decide ((⟨(v : Int), (k : Int)⟩ : Gr.Arc) ∈ arcs))) rfl (q_call (args := #[v1, .int .i64 (v : Int), .int .i64 (k : Int)]) own14 rfl rfl (fun w1 hw1 => Has_c w1 Φ hw1.phi h1)) ?_
        refine RW.q (v := .bool (decide ((⟨(v : Int), (k : Int)⟩ : Gr.Arc) ∈ arcs))) rfl (q_assign rfl) ?_
        refine RW.nil ?_
        refine Post.then_n ?_
        refine AW.seq ?_
        refine AW.region ?_
        refine RW.q (v := .int .i64 (n : Int)) rfl (q_move rfl) ?_
        refine RW.q (v := v1) rfl (q_move rfl) ?_
        refine RW.q (v := .int .i64 (k : Int)) rfl (q_move rfl) ?_
        refine RW.q (v := .int .i64 (v : Int)) rfl (q_move rfl) ?_
        refine RW.eff (fun x : {y : Value × Hp // (fun r Ψ => PairRep Ψ (Gr.pathM (n : Int) arcs (k : Int) (v : Int)) r) y.1 y.2 ∧ Hp.le Φ y.2} => x.1.1) (fun x => St ⟨w, Φ, []⟩ x.1.2 [.row bv 3 1 B.length (B.map (Value.int .i64))]) rfl (e_callS (T := fun r Ψ => PairRep Ψ (Gr.pathM (n : Int) arcs (k : Int) (v : Int)) r) (args := #[.int .i64 (n : Int), v1, .int .i64 (k : Int), .int .i64 (v : Int)]) own21 rfl rfl (fun w1 hw1 => (rPath_c w1 Φ hw1.phi h1).mono fun _ _ => retS_up (fun _ _ _ hl h => h.mono hl))) ?_
        rintro ⟨⟨rp1, Φ1⟩, hrp1, hlΦ1⟩
        replace hrp1 : PairRep Φ1 (Gr.pathM (n : Int) arcs (k : Int) (v : Int)) rp1 := hrp1
        replace hlΦ1 : Hp.le Φ Φ1 := hlΦ1
        replace h1 := h1.mono hlΦ1
        obtain ⟨pv1, rfl, hpv1⟩ := hrp1
        refine RW.q (v := .tuple #[pv1, .bool ((Gr.pathM (n : Int) arcs (k : Int) (v : Int)).isSome)]) rfl (q_move rfl) ?_
        refine RW.q (v := pv1) rfl (q_extract rfl rfl) ?_
        refine RW.q (v := .bool ((Gr.pathM (n : Int) arcs (k : Int) (v : Int)).isSome)) rfl (q_extract rfl rfl) ?_
        refine RW.q (v := pv1) rfl (q_assign rfl) ?_
        refine RW.q (v := .bool ((Gr.pathM (n : Int) arcs (k : Int) (v : Int)).isSome)) rfl (q_assign rfl) ?_
        refine RW.nil ?_
        refine Post.then_n ?_
        refine AW.seq ?_
        refine AW.seq ?_
        refine AW.region ?_
        refine RW.q (v := .bool (decide ((⟨(v : Int), (k : Int)⟩ : Gr.Arc) ∈ arcs))) rfl (q_move rfl) ?_
        refine RW.q (v := .bool (!(decide ((⟨(v : Int), (k : Int)⟩ : Gr.Arc) ∈ arcs)))) rfl (q_not rfl) ?_
        refine RW.q (v := .bool (!(decide ((⟨(v : Int), (k : Int)⟩ : Gr.Arc) ∈ arcs)))) rfl (q_move rfl) ?_
        refine RW.g (b := (!(decide ((⟨(v : Int), (k : Int)⟩ : Gr.Arc) ∈ arcs)))) (v := .bool ((Gr.pathM (n : Int) arcs (k : Int) (v : Int)).isSome)) rfl rfl rfl (fun h => q_move rfl) ?_
        refine RW.g (b := (!(decide ((⟨(v : Int), (k : Int)⟩ : Gr.Arc) ∈ arcs)))) (v := .bool (!((Gr.pathM (n : Int) arcs (k : Int) (v : Int)).isSome))) rfl rfl rfl (fun h => q_not (gv_pos h)) ?_
        refine RW.q (v := .bool ((!(decide ((⟨(v : Int), (k : Int)⟩ : Gr.Arc) ∈ arcs))) || (!((Gr.pathM (n : Int) arcs (k : Int) (v : Int)).isSome)))) rfl (q_pick rfl (fun hp => pkOrT hp) (fun hp => (gv_pos hp).trans (pkOrF hp))) ?_
        refine RW.nil ?_
        refine Post.then_n ?_
        refine AW.cond (b := (!(decide ((⟨(v : Int), (k : Int)⟩ : Gr.Arc) ∈ arcs))) || (!((Gr.pathM (n : Int) arcs (k : Int) (v : Int)).isSome))) rfl (fun hc4 => ?_) (fun hc4 => ?_)
        · simp [-List.getD_eq_getElem?_getD] at hc4
          refine AW.exit ?_
          refine Post.then_x (Post.blk_hit (Post.then_n ?_))
          refine AW.region ?_
          refine RW.q (v := .int .i64 (k : Int)) rfl (q_move rfl) ?_
          refine RW.q (v := .int .i64 ((k + 1 : Nat) : Int)) rfl (q_add rfl rfl (by omega) (by unfold I64; omega)) ?_
          refine RW.q (v := .int .i64 ((k + 1 : Nat) : Int)) rfl (q_assign rfl) ?_
          refine RW.nil ?_
          have hsk : (⟨(v : Int), (k : Int)⟩ : Gr.Arc) ∈ arcs → (Gr.distL n (Gr.rev arcs) (v : Int)).getD k 0 < 0 := fun ha => by
            have h1 := Gr.path_is (a := (k : Int)) (b := (v : Int)) hrt (by omega) (by omega)
            rw [Int.toNat_natCast, Int.toNat_natCast] at h1
            refine Classical.byContradiction fun h2 => ?_
            have h3 := h1.2 (by omega)
            rcases hc4 with h | h
            · exact h ha
            · rw [h] at h3; cases h3
          exact Post.back (s' := _) (J' := _) (m' := _) (by omega) ⟨k + 1, bw, B, bv, rfl, rfl, rfl, (by omega), (hCI.skip hsk), hbv, hnb⟩ ⟨rfl, rfl, rfl, rfl, rfl, trivial⟩ (fun _ h => StP.know (by assumption) h)
        · simp [-List.getD_eq_getElem?_getD] at hc4
          refine AW.skip ?_
          refine Post.then_n ?_
          refine AW.seq ?_
          obtain ⟨ha, hso⟩ := hc4
          have h0 := (Gr.path_is hrt (by omega) (by omega)).1 hso
          rw [Int.toNat_natCast, Int.toNat_natCast] at h0
          obtain ⟨p, hp⟩ := Option.isSome_iff_exists.1 hso
          have hgp : (Gr.pathM n arcs k v).getD [] = p := by rw [hp]; rfl
          rw [hgp] at hpv1
          have hpm : p.length * 8 ≤ 140737488355328 := hpv1.max
          obtain ⟨hcut, hp0⟩ := Gr.way_cut hp
          rw [Int.toNat_natCast] at hcut
          refine AW.region ?_
          refine RW.q (v := .int .i64 (v : Int)) rfl (q_move rfl) ?_
          refine RW.eff (fun b1 : Nat => (.slice (some ⟨b1, 0, none⟩) 1 1)) (fun b1 => St ⟨w, Φ, []⟩ Φ1 [.row (.slice (some ⟨b1, 0, none⟩) 1 1) 3 1 1 ([.int .i64 (v : Int)]), .row bv 3 1 B.length (B.map (Value.int .i64))]) rfl (e_buildSlice (vals := [(0, .int .i64 (v : Int))]) (cells := [.int .i64 (v : Int)]) Try.underlying25 inf3 rfl rfl rfl (by kernel_rfl) rfl) ?_
          intro b1
          refine RW.q (v := pv1) rfl (q_move rfl) ?_
          refine RW.q (v := pv1) rfl (q_move rfl) ?_
          refine RW.q (v := .int .i64 ((p.length : Nat) : Int)) rfl (q_len_sl rfl hpv1.sl Try.underlying25) ?_
          refine RW.q (v := .int .i64 ((p.length - 1 : Nat) : Int)) rfl (q_sub rfl rfl (by omega) (by unfold I64; omega)) ?_
          refine RW.q (v := (subSl pv1 0 (p.length - 1) 1)) rfl (q_sliceH (v := pv1) (m := ((p.length - 1 : Nat) : Int)) rfl rfl hpv1.sl Try.underlying25 sz3 (by omega) (by omega)) ?_
          refine RW.eff (fun xv : {vq : Value // IsSl vq (1 + ((p.length - 1) - 0))} => xv.1) (fun xv => St ⟨w, Φ, []⟩ Φ1 [.row xv.1 3 1 ((([(v : Int)]) ++ ((p.take (p.length - 1)).drop 0)).length) ((([(v : Int)]) ++ ((p.take (p.length - 1)).drop 0)).map (Value.int .i64)), .row bv 3 1 B.length (B.map (Value.int .i64))]) rfl (e_appendPhi (yv := (subSl pv1 0 (p.length - 1) 1)) 0 rfl rfl rfl (isSl_sub hpv1.sl (by omega) (by omega)) Try.underlying25 inf3 rfl rfl (by simp <;> omega) (ints_cells (hpv1.part (l := 0) (m := p.length - 1) (by omega) (by omega))) (ints_one _) (by omega) (by omega) (fun _ => by simp [Nat.add_comm])) ?_
          rintro ⟨va1, hva1⟩
          refine RW.q (v := va1) rfl (q_assign rfl) ?_
          refine RW.nil ?_
          refine Post.then_n ?_
          refine AW.seq ?_
          have hcc : ([(v : Int)]) ++ ((p.take (p.length - 1)).drop 0) = ((v : Int) :: Gr.cycGo arcs (Gr.distL n (Gr.rev arcs) (v : Int)) v n (k : Int)) := by rw [List.drop_zero, hcut]; rfl
          rw [hcc]
          have hlc : 1 + (p.length - 1 - 0) = ((v : Int) :: Gr.cycGo arcs (Gr.distL n (Gr.rev arcs) (v : Int)) v n (k : Int)).length := by rw [← hcc]; simp; omega
          have hT : Gr.IsTo n arcs (v : Int) (Gr.distL n (Gr.rev arcs) (v : Int)) := Gr.distL_is hok.rev (by omega)
          have hck := Gr.cyc_len (v := (v : Int)) (w := (k : Int)) hok (by omega) (by omega) (by rw [Int.toNat_natCast]; exact h0)
          have htl := Gr.to_lt hT (v := (k : Int)) (by omega)
          have hCm : ((v : Int) :: Gr.cycGo arcs (Gr.distL n (Gr.rev arcs) (v : Int)) v n (k : Int)).length * 8 ≤ maxSl := by simp only [maxSl]; omega
          have hCw : ∀ x ∈ ((v : Int) :: Gr.cycGo arcs (Gr.distL n (Gr.rev arcs) (v : Int)) v n (k : Int)), I64 x := fun x hx => by
            have hxr : 0 ≤ x ∧ x < n := by
              rcases List.mem_cons.1 hx with rfl | hx
              · omega
              · exact Gr.cycGo_in hok hT n (k : Int) (by omega) (by rw [Int.toNat_natCast]; exact h0) x hx
            unfold I64; omega
          have hrg := hCI.rng hok (by omega) hk
          have hBm : B.length * 8 ≤ maxSl := by simp only [maxSl]; omega
          have hBw : ∀ x ∈ B, I64 x := fun x hx => by have := hrg.1 x hx; unfold I64; omega
          refine AW.region ?_
          refine RW.q (v := bv) rfl (q_move rfl) ?_
          refine RW.q (v := .bool (nilSl bv)) rfl (q_eqNil rfl hbv Try.underlying25) ?_
          refine RW.q (v := .bool (nilSl bv)) rfl (q_move rfl) ?_
          refine RW.g (b := (nilSl bv)) (v := va1) rfl rfl rfl (fun h => q_move rfl) ?_
          refine RW.g (b := (nilSl bv)) (v := .int .i64 ((1 + ((p.length - 1) - 0) : Nat) : Int)) rfl rfl rfl (fun h => q_len_sl (gv_pos h) hva1 Try.underlying25) ?_
          refine RW.g (b := (nilSl bv)) (v := bv) rfl rfl rfl (fun h => q_move rfl) ?_
          refine RW.g (b := (nilSl bv)) (v := .int .i64 ((B.length : Nat) : Int)) rfl rfl rfl (fun h => q_len_sl (gv_pos h) hbv Try.underlying25) ?_
          refine RW.g (b := (nilSl bv)) (v := .bool (decide (((1 + ((p.length - 1) - 0) : Nat) : Int) < ((B.length : Nat) : Int)))) rfl rfl rfl (fun h => q_lss (gv_pos h) (gv_pos h)) ?_
          refine RW.q (v := .bool ((nilSl bv) || (decide (((1 + ((p.length - 1) - 0) : Nat) : Int) < ((B.length : Nat) : Int))))) rfl (q_pick rfl (fun hp => pkOrT hp) (fun hp => (gv_pos hp).trans (pkOrF hp))) ?_
          refine RW.q (v := .bool ((nilSl bv) || (decide (((1 + ((p.length - 1) - 0) : Nat) : Int) < ((B.length : Nat) : Int))))) rfl (q_move rfl) ?_
          refine RW.g (b := ((nilSl bv) || (decide (((1 + ((p.length - 1) - 0) : Nat) : Int) < ((B.length : Nat) : Int))))) (v := va1) rfl rfl rfl (fun h => q_move rfl) ?_
          refine RW.g (b := ((nilSl bv) || (decide (((1 + ((p.length - 1) - 0) : Nat) : Int) < ((B.length : Nat) : Int))))) (v := .int .i64 ((1 + ((p.length - 1) - 0) : Nat) : Int)) rfl rfl rfl (fun h => q_len_sl (gv_pos h) hva1 Try.underlying25) ?_
          refine RW.g (b := ((nilSl bv) || (decide (((1 + ((p.length - 1) - 0) : Nat) : Int) < ((B.length : Nat) : Int))))) (v := bv) rfl rfl rfl (fun h => q_move rfl) ?_
          refine RW.g (b := ((nilSl bv) || (decide (((1 + ((p.length - 1) - 0) : Nat) : Int) < ((B.length : Nat) : Int))))) (v := .int .i64 ((B.length : Nat) : Int)) rfl rfl rfl (fun h => q_len_sl (gv_pos h) hbv Try.underlying25) ?_
          refine RW.g (b := ((nilSl bv) || (decide (((1 + ((p.length - 1) - 0) : Nat) : Int) < ((B.length : Nat) : Int))))) (v := .bool (decide (((1 + ((p.length - 1) - 0) : Nat) : Int) = ((B.length : Nat) : Int)))) rfl rfl rfl (fun h => q_eql (gv_pos h) (gv_pos h)) ?_
          refine RW.g (b := ((nilSl bv) || (decide (((1 + ((p.length - 1) - 0) : Nat) : Int) < ((B.length : Nat) : Int))))) (v := .bool (decide (((1 + ((p.length - 1) - 0) : Nat) : Int) = ((B.length : Nat) : Int)))) rfl rfl rfl (fun h => q_move (gv_pos h)) ?_
          refine RW.g2 (b1 := ((nilSl bv) || (decide (((1 + ((p.length - 1) - 0) : Nat) : Int) < ((B.length : Nat) : Int))))) (b2 := (decide (((1 + ((p.length - 1) - 0) : Nat) : Int) = ((B.length : Nat) : Int)))) (v := va1) rfl rfl rfl (fun hg1 hg2 => q_move rfl) ?_
          refine RW.g2 (b1 := ((nilSl bv) || (decide (((1 + ((p.length - 1) - 0) : Nat) : Int) < ((B.length : Nat) : Int))))) (b2 := (decide (((1 + ((p.length - 1) - 0) : Nat) : Int) = ((B.length : Nat) : Int)))) (v := bv) rfl rfl rfl (fun hg1 hg2 => q_move rfl) ?_
          refine RW.g2 (b1 := ((nilSl bv) || (decide (((1 + ((p.length - 1) - 0) : Nat) : Int) < ((B.length : Nat) : Int))))) (b2 := (decide (((1 + ((p.length - 1) - 0) : Nat) : Int) = ((B.length : Nat) : Int)))) (v := .bool (Gr.lessB ((v : Int) :: Gr.cycGo arcs (Gr.distL n (Gr.rev arcs) (v : Int)) v n (k : Int)) B)) rfl rfl rfl (fun hg1 hg2 => q_call (args := #[va1, bv]) own16 rfl (args2 ((gv_pos hg1).trans (gv_pos hg2)) ((gv_pos hg1).trans (gv_pos hg2))) (fun w1 hw1 => Less_c w1 (Go.K.hp w1) (Hp.le_refl _) (RowS.ints (show RowS (Go.K.hp w1) va1 3 1 (((v : Int) :: Gr.cycGo arcs (Gr.distL n (Gr.rev arcs) (v : Int)) v n (k : Int)).length) (((v : Int) :: Gr.cycGo arcs (Gr.distL n (Gr.rev arcs) (v : Int)) v n (k : Int)).map (Value.int .i64)) from hw1.sat _ (List.mem_of_getElem? (i := 0) rfl)) hCm hCw) (RowS.ints (show RowS (Go.K.hp w1) bv 3 1 (B.length) (B.map (Value.int .i64)) from hw1.sat _ (List.mem_of_getElem? (i := 1) rfl)) hBm hBw) (by (try simp [-List.getD_eq_getElem?_getD] at hg1); (try simp [-List.getD_eq_getElem?_getD] at hg2); omega))) ?_
          refine RW.g (b := ((nilSl bv) || (decide (((1 + ((p.length - 1) - 0) : Nat) : Int) < ((B.length : Nat) : Int))))) (v := .bool ((decide (((1 + ((p.length - 1) - 0) : Nat) : Int) = ((B.length : Nat) : Int))) && (Gr.lessB ((v : Int) :: Gr.cycGo arcs (Gr.distL n (Gr.rev arcs) (v : Int)) v n (k : Int)) B))) rfl rfl rfl (fun h => q_pick (gv_pos h) (fun hp => (gv_pos h).trans ((gv_pos hp).trans (pkAndT hp))) (fun hp => pkAndF hp)) ?_
          refine RW.q (v := .bool (((nilSl bv) || (decide (((1 + ((p.length - 1) - 0) : Nat) : Int) < ((B.length : Nat) : Int)))) || ((decide (((1 + ((p.length - 1) - 0) : Nat) : Int) = ((B.length : Nat) : Int))) && (Gr.lessB ((v : Int) :: Gr.cycGo arcs (Gr.distL n (Gr.rev arcs) (v : Int)) v n (k : Int)) B)))) rfl (q_pick rfl (fun hp => pkOrT hp) (fun hp => (gv_pos hp).trans (pkOrF hp))) ?_
          refine RW.nil ?_
          refine Post.then_n ?_
          refine AW.cond (b := ((nilSl bv) || (decide (((1 + ((p.length - 1) - 0) : Nat) : Int) < ((B.length : Nat) : Int)))) || ((decide (((1 + ((p.length - 1) - 0) : Nat) : Int) = ((B.length : Nat) : Int))) && (Gr.lessB ((v : Int) :: Gr.cycGo arcs (Gr.distL n (Gr.rev arcs) (v : Int)) v n (k : Int)) B))) rfl (fun hc5 => ?_) (fun hc5 => ?_)
          · simp [-List.getD_eq_getElem?_getD] at hc5
            refine AW.region ?_
            refine RW.q (v := va1) rfl (q_move rfl) ?_
            refine RW.q (v := va1) rfl (q_assign rfl) ?_
            refine RW.nil ?_
            refine Post.blk_n (Post.then_n ?_)
            refine AW.region ?_
            refine RW.q (v := .int .i64 (k : Int)) rfl (q_move rfl) ?_
            refine RW.q (v := .int .i64 ((k + 1 : Nat) : Int)) rfl (q_add rfl rfl (by omega) (by unfold I64; omega)) ?_
            refine RW.q (v := .int .i64 ((k + 1 : Nat) : Int)) rfl (q_assign rfl) ?_
            refine RW.nil ?_
            have htk : B.length = 0 ∨ ((v : Int) :: Gr.cycGo arcs (Gr.distL n (Gr.rev arcs) (v : Int)) v n (k : Int)).length < B.length ∨ (((v : Int) :: Gr.cycGo arcs (Gr.distL n (Gr.rev arcs) (v : Int)) v n (k : Int)).length = B.length ∧ Gr.lessB ((v : Int) :: Gr.cycGo arcs (Gr.distL n (Gr.rev arcs) (v : Int)) v n (k : Int)) B = true) := by
              rcases hc5 with (h | h) | h
              · exact .inl (by rw [hnb] at h; simpa using h)
              · exact .inr (.inl (by omega))
              · exact .inr (.inr ⟨by omega, h.2⟩)
            exact Post.back (s' := _) (J' := _) (m' := _) (by omega) ⟨k + 1, (k : Int), ((v : Int) :: Gr.cycGo arcs (Gr.distL n (Gr.rev arcs) (v : Int)) v n (k : Int)), va1, rfl, rfl, rfl, (by omega), (hCI.take hok (by omega) (by omega) ha h0 htk), (by rw [← hlc]; exact hva1), (by rw [nilSl_pos hva1 (by omega)]; exact (decide_eq_false (by simp)).symm)⟩ ⟨rfl, rfl, rfl, rfl, rfl, trivial⟩ (fun _ h => StP.know (by assumption) (StP.drop h (.cons_cons _ (.cons _ .slnil))))
          · simp [-List.getD_eq_getElem?_getD] at hc5
            refine AW.skip ?_
            refine Post.blk_n (Post.then_n ?_)
            refine AW.region ?_
            refine RW.q (v := .int .i64 (k : Int)) rfl (q_move rfl) ?_
            refine RW.q (v := .int .i64 ((k + 1 : Nat) : Int)) rfl (q_add rfl rfl (by omega) (by unfold I64; omega)) ?_
            refine RW.q (v := .int .i64 ((k + 1 : Nat) : Int)) rfl (q_assign rfl) ?_
            refine RW.nil ?_
            have hne : B.length ≠ 0 := by
              have := hc5.1.1
              rw [hnb] at this
              simpa using this
            exact Post.back (s' := _) (J' := _) (m' := _) (by omega) ⟨k + 1, bw, B, bv, rfl, rfl, rfl, (by omega), (hCI.keep hok (by omega) (by omega) h0 hne (by omega)), hbv, hnb⟩ ⟨rfl, rfl, rfl, rfl, rfl, trivial⟩ (fun _ h => StP.know (by assumption) (StP.drop h (.cons _ (.cons_cons _ .slnil))))
      · simp [-List.getD_eq_getElem?_getD] at hc3
        refine AW.exit ?_
        refine Post.then_x (Post.then_x (Post.blk_hit (Post.then_n ?_)))
        refine AW.seq ?_
        have hkn : k = n := by omega
        have hdn := (hkn ▸ hCI : Gr.CI n arcs (v : Int) n bw B).done hok (by omega)
        refine AW.region ?_
        refine RW.q (v := bv) rfl (q_move rfl) ?_
        refine RW.q (v := .bool (!(nilSl bv))) rfl (q_neNil rfl hbv Try.underlying25) ?_
        refine RW.nil ?_
        refine Post.then_n ?_
        refine AW.cond (b := !(nilSl bv)) rfl (fun hc6 => ?_) (fun hc6 => ?_)
        · simp [-List.getD_eq_getElem?_getD] at hc6
          refine AW.seq ?_
          refine AW.region ?_
          refine RW.q (v := bv) rfl (q_move rfl) ?_
          refine RW.q (v := bv) rfl (q_assign rfl) ?_
          refine RW.nil ?_
          refine Post.then_n ?_
          refine AW.ret ?_
          refine Post.blk_r (Post.then_r (Post.then_r (Post.blk_r (Post.then_r ?_))))
          have hB0 : B.length ≠ 0 := by rw [hnb] at hc6; simpa using hc6
          have hres : Gr.loopM n arcs = B := by
            rw [Gr.loopM, if_pos hrt, Int.toNat_natCast, ← hloop, show n - v = (n - (v + 1)) + 1 by omega, Gr.loopFrom, if_neg (fun h => hB0 (hdn.2.2 h)), hdn.1]
          rw [hres]
          have hrg := hCI.rng hok (by omega) hk
          refine fin_rep rfl rfl rfl (fun w' hw => RowS.ints (row_ext hw 0 rfl) (by simp only [maxSl]; omega) (fun x hx => ?_))
          have := hrg.1 x hx
          unfold I64; omega
        · simp [-List.getD_eq_getElem?_getD] at hc6
          refine AW.skip ?_
          refine Post.blk_n (Post.then_n ?_)
          refine AW.region ?_
          refine RW.q (v := .int .i64 (v : Int)) rfl (q_move rfl) ?_
          refine RW.q (v := .int .i64 ((v + 1 : Nat) : Int)) rfl (q_add rfl rfl (by omega) (by unfold I64; omega)) ?_
          refine RW.q (v := .int .i64 ((v + 1 : Nat) : Int)) rfl (q_assign rfl) ?_
          refine RW.nil ?_
          have hB0 : B.length = 0 := by rw [hnb] at hc6; simpa using hc6
          exact Post.back (s' := _) (J' := _) (m' := _) (by omega) ⟨v + 1, rfl, rfl, rfl, (by omega), (by rw [← hloop, show n - v = (n - (v + 1)) + 1 by omega, Gr.loopFrom, if_pos (hdn.2.1 hB0)])⟩ ⟨rfl, rfl, rfl, trivial⟩ (fun _ h => StP.drop h (.cons _ .slnil))
    · simp [-List.getD_eq_getElem?_getD] at hc2
      refine AW.exit ?_
      refine Post.then_x (Post.then_x (Post.blk_hit (Post.then_n ?_)))
      refine AW.seq ?_
      refine AW.region ?_
      refine RW.q (v := (.slice none 0 0)) rfl (q_assign rfl) ?_
      refine RW.nil ?_
      refine Post.then_n ?_
      refine AW.ret ?_
      have hres : Gr.loopM n arcs = [] := by
        rw [Gr.loopM, if_pos hrt, Int.toNat_natCast, ← hloop, show n - v = 0 by omega, Gr.loopFrom]
      rw [hres]
      exact fin_rep rfl rfl rfl (fun w' hw => repSl_nil)

set_option maxHeartbeats 1000000 in
theorem rLoop_f (w : World) (Φ : Hp) (hΦ : Hp.le Φ (hp w)) {n : Int} {arcs : List Gr.Arc} {v1 : Value} (h1 : RepSl Φ arcs v1) (hrf : Gr.rightB n arcs = false) :
    Calls Try.prog 26 #[.int .i64 n, v1] w (RetS noHp w fun r Ψ => RepSl Ψ (Gr.loopM n arcs) r) := by
  refine calls_of_AW (args := [.int .i64 n, v1]) Try.func26 rfl (Nat.le_of_ble_eq_true rfl) (St ⟨w, Φ, []⟩ Φ []) (StP.init w Φ hΦ []) ?_
  show AW Try.prog 79 [] _ _ _ [(0, .int .i64 n), (1, v1)] _
  refine AW.seq ?_
  refine AW.region ?_
  refine RW.q (v := (.slice none 0 0)) rfl (q_assign rfl) ?_
  refine RW.nil ?_
  refine Post.then_n ?_
  refine AW.seq ?_
  refine AW.region ?_
  refine RW.q (v := .int .i64 n) rfl (q_move rfl) ?_
  refine RW.q (v := v1) rfl (q_move rfl) ?_
  refine RW.q (v := .bool (Gr.rightB n arcs)) rfl (q_call (args := #[.int .i64 n, v1]) own22 rfl rfl (fun w1 hw1 => rRight_c w1 Φ hw1.phi h1)) ?_
  refine RW.q (v := .bool (Gr.rightB n arcs)) rfl (q_assign rfl) ?_
  refine RW.nil ?_
  refine Post.then_n ?_
  refine AW.seq ?_
  refine AW.seq ?_
  refine AW.region ?_
  refine RW.q (v := .bool (Gr.rightB n arcs)) rfl (q_move rfl) ?_
  refine RW.q (v := .bool (!(Gr.rightB n arcs))) rfl (q_not rfl) ?_
  refine RW.nil ?_
  refine Post.then_n ?_
  refine AW.cond (b := !(Gr.rightB n arcs)) rfl (fun hc1 => ?_) (fun hc1 => ?_)
  · simp [-List.getD_eq_getElem?_getD] at hc1
    refine AW.seq ?_
    refine AW.region ?_
    refine RW.q (v := (.slice none 0 0)) rfl (q_assign rfl) ?_
    refine RW.nil ?_
    refine Post.then_n ?_
    refine AW.ret ?_
    refine Post.then_r ?_
    rw [Gr.loopM, if_neg (by simp [hrf])]
    exact fin_rep rfl rfl rfl (fun w' hw => repSl_nil)
  · simp [-List.getD_eq_getElem?_getD] at hc1
    simp [hrf] at hc1

theorem rLoop_c (w : World) (Φ : Hp) (hΦ : Hp.le Φ (hp w)) {n : Int} {arcs : List Gr.Arc} {v1 : Value} (h1 : RepSl Φ arcs v1) :
    Calls Try.prog 26 #[.int .i64 n, v1] w (RetS noHp w fun r Ψ => RepSl Ψ (Gr.loopM n arcs) r) := by
  cases h : Gr.rightB n arcs with
  | false => exact rLoop_f w Φ hΦ h1 h
  | true =>
    obtain ⟨N, rfl⟩ := Int.eq_ofNat_of_zero_le (Gr.right_ok h).1.1
    exact rLoop_t w Φ hΦ h1 h

end Go.Proofs.Ytjkoojeampaeeaa
