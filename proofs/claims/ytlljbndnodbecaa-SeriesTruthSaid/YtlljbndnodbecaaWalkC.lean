/- Walks (part WalkC), printed by walk2.py. Conditions: those of each theorem. -/
import Derived.Test.YtlljbndnodbecaaWalkB
import Derived.Test.YtlljbndnodbecaaPlainE
import Derived.Test.YtlljbndnodbecaaCore12
namespace Go.Proofs.Ytlljbndnodbecaa
open Go Go.K Go.RowKit

set_option maxRecDepth 8000 in
set_option maxHeartbeats 1000000 in
theorem Grow_c {B : Bs} {Φ : Hp} {C : List Chunk} (hBE : B.E = []) {n : Nat} (hn : n ≤ 1000000) (w : World) (hW : (St B Φ C).p w) :
    Calls Try.prog 36 #[.slice none 0 0, .int .i64 (n : Int)] w fun e w' => ∃ x : {r : Value // IsSl r 0}, e = .returned (x.1) ∧ (St B Φ (.row x.1 29 5 0 [] :: C)).p w' := by
  refine calls_of_AW (args := [(.slice none 0 0), .int .i64 (n : Int)]) Try.func36 rfl (Nat.le_of_ble_eq_true rfl) (St B Φ C) hW ?_
  show AW Try.prog 27 [] _ _ _ [(0, (.slice none 0 0)), (1, .int .i64 (n : Int))] _
  refine AW.seq ?_
  refine AW.region ?_
  refine RW.q (v := (.slice none 0 0)) rfl (q_assign rfl) ?_
  refine RW.nil ?_
  refine Post.then_n ?_
  refine AW.seq ?_
  refine AW.seq ?_
  refine AW.region ?_
  refine RW.q (v := .int .i64 (n : Int)) rfl (q_move rfl) ?_
  refine RW.q (v := .bool (decide ((n : Int) < 0))) rfl (q_lss rfl rfl) ?_
  refine RW.nil ?_
  refine Post.then_n ?_
  refine AW.cond (b := decide ((n : Int) < 0)) rfl (fun hc1 => ?_) (fun hc1 => ?_)
  · simp [-List.getD_eq_getElem?_getD] at hc1
    omega
  · simp [-List.getD_eq_getElem?_getD] at hc1
    refine AW.skip ?_
    refine Post.then_n ?_
    refine AW.seq ?_
    refine AW.seq ?_
    refine AW.region ?_
    refine RW.q (v := .int .i64 (n : Int)) rfl (q_move rfl) ?_
    refine RW.q (v := (.slice none 0 0)) rfl (q_move rfl) ?_
    refine RW.q (v := .int .i64 0) rfl (q_capNil rfl Try.underlying22) ?_
    refine RW.q (v := (.slice none 0 0)) rfl (q_move rfl) ?_
    refine RW.q (v := .int .i64 (0 : Int)) rfl (q_len_sl rfl isSl_nil Try.underlying22) ?_
    refine RW.q (v := .int .i64 (0 - (0 : Int))) rfl (q_sub rfl rfl (by omega) (by unfold I64; omega)) ?_
    refine RW.q (v := .int .i64 (n : Int)) rfl (q_sub rfl rfl (by omega) (by unfold I64; omega)) ?_
    refine RW.q (v := .int .i64 (n : Int)) rfl (q_assign rfl) ?_
    refine RW.nil ?_
    refine Post.then_n ?_
    refine AW.seq ?_
    refine AW.region ?_
    refine RW.q (v := .int .i64 (n : Int)) rfl (q_move rfl) ?_
    refine RW.q (v := .bool (decide ((0 : Int) < (n : Int)))) rfl (q_gtr rfl rfl) ?_
    refine RW.nil ?_
    refine Post.then_n ?_
    refine AW.cond (b := decide ((0 : Int) < (n : Int))) rfl (fun hc2 => ?_) (fun hc2 => ?_)
    · simp [-List.getD_eq_getElem?_getD] at hc2
      refine AW.region ?_
      refine RW.q (v := (.slice none 0 0)) rfl (q_move rfl) ?_
      refine RW.q (v := (.slice none 0 0)) rfl (q_move rfl) ?_
      refine RW.q (v := .int .i64 0) rfl (q_capNil rfl Try.underlying22) ?_
      refine RW.q (v := (subSl (.slice none 0 0) 0 0 5)) rfl (q_sliceH (v := (.slice none 0 0)) (m := 0) rfl rfl isSl_nil Try.underlying22 sz29 (by omega) (by omega)) ?_
      refine RW.q (v := .int .i64 (n : Int)) rfl (q_move rfl) ?_
      refine RW.eff (fun x : {q : Nat × Nat // n ≤ q.2} => (.slice (some ⟨x.1.1, 0, none⟩) n x.1.2)) (fun x => St B Φ ((.row (.slice (some ⟨x.1.1, 0, none⟩) 0 x.1.2) 29 5 0 ([])) :: C)) rfl (e_appendZ (n := n) rfl rfl Try.underlying22 Try.underlying3 inf29 rfl (by omega) (by decide) (by omega) (by decide)) ?_
      rintro ⟨⟨gb1, gc1⟩, hgc1⟩
      refine RW.q (v := (.slice none 0 0)) rfl (q_move rfl) ?_
      refine RW.q (v := .int .i64 (0 : Int)) rfl (q_len_sl rfl isSl_nil Try.underlying22) ?_
      refine RW.q (v := (subSl (.slice (some ⟨gb1, 0, none⟩) n gc1) 0 0 5)) rfl (q_sliceH (v := (.slice (some ⟨gb1, 0, none⟩) n gc1)) (m := (0 : Int)) rfl rfl ⟨_, _, rfl, fun _ => rfl, hgc1⟩ Try.underlying22 sz29 (by omega) (by omega)) ?_
      refine RW.q (v := (subSl (.slice (some ⟨gb1, 0, none⟩) n gc1) 0 0 5)) rfl (q_assign rfl) ?_
      refine RW.nil ?_
      refine Post.then_n ?_
      refine AW.seq ?_
      refine AW.region ?_
      refine RW.q (v := (subSl (.slice (some ⟨gb1, 0, none⟩) n gc1) 0 0 5)) rfl (q_move rfl) ?_
      refine RW.q (v := (subSl (.slice (some ⟨gb1, 0, none⟩) n gc1) 0 0 5)) rfl (q_assign rfl) ?_
      refine RW.nil ?_
      refine Post.then_n ?_
      refine AW.ret ?_
      refine fin_out1 rfl rfl rfl (fun w' hw => ⟨⟨.slice (some ⟨gb1, 0, none⟩) 0 gc1, _, _, rfl, fun h => absurd h (Nat.lt_irrefl 0), Nat.zero_le _⟩, by simp [fr, subSl, sliced, Addr.add], hw⟩)
    · simp [-List.getD_eq_getElem?_getD] at hc2
      refine AW.skip ?_
      refine Post.then_n ?_
      refine AW.seq ?_
      refine AW.region ?_
      refine RW.q (v := (.slice none 0 0)) rfl (q_move rfl) ?_
      refine RW.q (v := (.slice none 0 0)) rfl (q_assign rfl) ?_
      refine RW.nil ?_
      refine Post.then_n ?_
      refine AW.ret ?_
      refine fin_out1 rfl rfl rfl (fun w' hw => ⟨⟨.slice none 0 0, isSl_nil⟩, rfl, StP.nilRow hw _ _⟩)

set_option maxRecDepth 8000 in
set_option maxHeartbeats 1000000 in
theorem Concat_c {B : Bs} {Φ : Hp} {C : List Chunk} (hBE : B.E = []) {xss : List (List Bt.Gram)} {v1 : Value} (h1 : RepSl Φ xss v1) (hT : xss.flatten.length ≤ 1000000) (w : World) (hW : (St B Φ C).p w) :
    Calls Try.prog 21 #[v1] w fun e w' => ∃ x : {r : Value // IsSl r xss.flatten.length}, e = .returned (x.1) ∧ (St B Φ (.row x.1 29 5 xss.flatten.length (flat xss.flatten) :: C)).p w' := by
  refine calls_of_AW (args := [v1]) Try.func21 rfl (Nat.le_of_ble_eq_true rfl) (St B Φ C) hW ?_
  show AW Try.prog 36 [] _ _ _ [(0, v1)] _
  have hm1 : xss.length * 24 ≤ 140737488355328 := h1.max
  refine AW.seq ?_
  refine AW.region ?_
  refine RW.q (v := (.slice none 0 0)) rfl (q_assign rfl) ?_
  refine RW.nil ?_
  refine Post.then_n ?_
  refine AW.seq ?_
  refine AW.region ?_
  refine RW.q (v := .int .i64 0) rfl (q_assign rfl) ?_
  refine RW.nil ?_
  refine Post.then_n ?_
  refine AW.seq ?_
  refine AW.seq ?_
  refine AW.region ?_
  refine RW.q (v := v1) rfl (q_move rfl) ?_
  refine RW.q (v := .int .i64 ((xss.length : Nat) : Int)) rfl (q_len_sl rfl h1.sl Try.underlying84) ?_
  refine RW.q (v := .int .i64 0) rfl (q_move rfl) ?_
  refine RW.nil ?_
  refine Post.then_n ?_
  refine AW.block ?_
  refine AW.loop (fun s J m => ∃ (k : Nat), s = [(0, v1), (9, v1), (10, .int .i64 ((xss.length : Nat) : Int)), (3, .int .i64 (((xss.take k).flatten.length : Nat) : Int)), (11, .int .i64 (k : Int))] ∧ J = St B Φ C ∧ m = xss.length - k ∧ (k ≤ xss.length)) (s0 := _) (J1 := _) (m0 := _) ⟨0, rfl, rfl, rfl, (by omega)⟩ ⟨rfl, rfl, rfl, rfl, rfl, trivial⟩ (fun _ h => h) ?_
  rintro _ _ _ _ ⟨k, rfl, rfl, rfl, hk⟩
  refine AW.seq ?_
  refine AW.region ?_
  refine RW.q (v := .bool (decide ((k : Int) < ((xss.length : Nat) : Int)))) rfl (q_lss rfl rfl) ?_
  refine RW.nil ?_
  refine Post.then_n ?_
  refine AW.seq ?_
  refine AW.cond (b := decide ((k : Int) < ((xss.length : Nat) : Int))) rfl (fun hc1 => ?_) (fun hc1 => ?_)
  · simp [-List.getD_eq_getElem?_getD] at hc1
    refine AW.skip ?_
    refine Post.then_n ?_
    refine AW.seq ?_
    refine AW.block ?_
    refine AW.seq ?_
    have hfk := Se.flat_le xss k
    refine AW.region ?_
    refine RW.q (v := .pointer (some (Value.at v1 (k * 1)))) rfl (q_indexAddr rfl rfl h1.sl Try.underlying84 sz22 (by omega) (by omega) rfl) ?_
    obtain ⟨sv1, hsv1, hpc1⟩ := h1.sub (k := k) (by omega)
    refine RW.q (v := sv1) rfl (q_load rfl Try.underlying22 rfl (Cell.phi hpc1)) ?_
    refine RW.q (v := sv1) rfl (q_assign rfl) ?_
    refine RW.nil ?_
    refine Post.then_n ?_
    refine AW.seq ?_
    have hfs := Se.flat_step xss k (by omega)
    have hfk1 := Se.flat_le xss (k + 1)
    refine AW.region ?_
    refine RW.q (v := .int .i64 (((xss.take k).flatten.length : Nat) : Int)) rfl (q_move rfl) ?_
    refine RW.q (v := sv1) rfl (q_move rfl) ?_
    refine RW.q (v := .int .i64 (((xss.getD k []).length : Nat) : Int)) rfl (q_len_sl rfl hsv1.sl Try.underlying22) ?_
    refine RW.q (v := .int .i64 (((xss.take (k + 1)).flatten.length : Nat) : Int)) rfl (q_add rfl rfl (by omega) (by unfold I64; omega)) ?_
    refine RW.q (v := .int .i64 (((xss.take (k + 1)).flatten.length : Nat) : Int)) rfl (q_assign rfl) ?_
    refine RW.nil ?_
    refine Post.then_n ?_
    refine AW.seq ?_
    refine AW.region ?_
    refine RW.q (v := .int .i64 (((xss.take (k + 1)).flatten.length : Nat) : Int)) rfl (q_move rfl) ?_
    refine RW.q (v := .bool (decide ((((xss.take (k + 1)).flatten.length : Nat) : Int) < 0))) rfl (q_lss rfl rfl) ?_
    refine RW.nil ?_
    refine Post.then_n ?_
    refine AW.cond (b := decide ((((xss.take (k + 1)).flatten.length : Nat) : Int) < 0)) rfl (fun hc2 => ?_) (fun hc2 => ?_)
    · simp [-List.getD_eq_getElem?_getD] at hc2
      omega
    · simp [-List.getD_eq_getElem?_getD] at hc2
      refine AW.skip ?_
      refine Post.blk_n (Post.then_n ?_)
      refine AW.region ?_
      refine RW.q (v := .int .i64 ((k + 1 : Nat) : Int)) rfl (q_add rfl rfl (by omega) (by unfold I64; omega)) ?_
      refine RW.q (v := .int .i64 ((k + 1 : Nat) : Int)) rfl (q_move rfl) ?_
      refine RW.nil ?_
      exact Post.back (s' := _) (J' := _) (m' := _) (by omega) ⟨k + 1, rfl, rfl, rfl, (by omega)⟩ ⟨rfl, rfl, rfl, rfl, rfl, trivial⟩ (fun _ h => h)
  · simp [-List.getD_eq_getElem?_getD] at hc1
    refine AW.exit ?_
    refine Post.then_x (Post.then_x (Post.blk_hit (Post.then_n ?_)))
    refine AW.seq ?_
    have hke : xss.take k = xss := List.take_of_length_le (by omega)
    have hfk := Se.flat_le xss k
    refine AW.region ?_
    refine RW.q (v := .int .i64 (((xss.take k).flatten.length : Nat) : Int)) rfl (q_move rfl) ?_
    refine RW.eff (fun x : {r : Value // IsSl r 0} => x.1) (fun x => St B Φ ((.row x.1 29 5 0 (flat ([] : List Bt.Gram))) :: C)) rfl (e_call (args := #[(.slice none 0 0), .int .i64 (((xss.take k).flatten.length : Nat) : Int)]) own36 rfl rfl (fun w1 hw1 => Grow_c hBE (n := (xss.take k).flatten.length) (by omega) w1 hw1)) ?_
    rintro ⟨rv1, hrv1⟩
    refine RW.q (v := rv1) rfl (q_assign rfl) ?_
    refine RW.nil ?_
    refine Post.then_n ?_
    refine AW.seq ?_
    refine AW.seq ?_
    refine AW.region ?_
    refine RW.q (v := v1) rfl (q_move rfl) ?_
    refine RW.q (v := .int .i64 ((xss.length : Nat) : Int)) rfl (q_len_sl rfl h1.sl Try.underlying84) ?_
    refine RW.q (v := .int .i64 0) rfl (q_move rfl) ?_
    refine RW.nil ?_
    refine Post.then_n ?_
    refine AW.block ?_
    refine AW.loop (fun s J m => ∃ (k : Nat), ∃ (gv : Value), s = [(0, v1), (25, v1), (26, .int .i64 ((xss.length : Nat) : Int)), (6, gv), (27, .int .i64 (k : Int))] ∧ J = St B Φ ((.row gv 29 5 (((xss.take k).flatten).length) (flat ((xss.take k).flatten))) :: C) ∧ m = xss.length - k ∧ (k ≤ xss.length) ∧ (IsSl gv (xss.take k).flatten.length)) (s0 := _) (J1 := _) (m0 := _) ⟨0, rv1, rfl, rfl, rfl, (by omega), hrv1⟩ ⟨rfl, rfl, rfl, rfl, rfl, trivial⟩ (fun _ h => h) ?_
    rintro _ _ _ _ ⟨k, gv, rfl, rfl, rfl, hk, hgv⟩
    refine AW.seq ?_
    refine AW.region ?_
    refine RW.q (v := .bool (decide ((k : Int) < ((xss.length : Nat) : Int)))) rfl (q_lss rfl rfl) ?_
    refine RW.nil ?_
    refine Post.then_n ?_
    refine AW.seq ?_
    refine AW.cond (b := decide ((k : Int) < ((xss.length : Nat) : Int))) rfl (fun hc3 => ?_) (fun hc3 => ?_)
    · simp [-List.getD_eq_getElem?_getD] at hc3
      refine AW.skip ?_
      refine Post.then_n ?_
      refine AW.seq ?_
      refine AW.block ?_
      refine AW.seq ?_
      have hfs := Se.flat_step xss k (by omega)
      have hfk1 := Se.flat_le xss (k + 1)
      have hfk := Se.flat_le xss k
      refine AW.region ?_
      refine RW.q (v := .pointer (some (Value.at v1 (k * 1)))) rfl (q_indexAddr rfl rfl h1.sl Try.underlying84 sz22 (by omega) (by omega) rfl) ?_
      obtain ⟨sv2, hsv2, hpc2⟩ := h1.sub (k := k) (by omega)
      refine RW.q (v := sv2) rfl (q_load rfl Try.underlying22 rfl (Cell.phi hpc2)) ?_
      refine RW.q (v := sv2) rfl (q_assign rfl) ?_
      refine RW.nil ?_
      refine Post.then_n ?_
      refine AW.region ?_
      refine RW.q (v := gv) rfl (q_move rfl) ?_
      refine RW.q (v := sv2) rfl (q_move rfl) ?_
      refine RW.eff (fun xv : {vq : Value // IsSl vq (((xss.take k).flatten).length + ((xss.getD k []).length))} => xv.1) (fun xv => St B Φ ((.row xv.1 29 5 ((((xss.take k).flatten) ++ (xss.getD k [])).length) (flat (((xss.take k).flatten) ++ (xss.getD k [])))) :: C)) rfl (e_appendPhi (yv := sv2) 0 rfl rfl rfl hsv2.sl Try.underlying22 inf29 rfl rfl (flat_len even29 _) (repE_cells even29 hsv2) (flat_one hsv2) (by omega) (by omega) (fun _ => by simp [flat])) ?_
      rintro ⟨va1, hva1⟩
      refine RW.q (v := va1) rfl (q_assign rfl) ?_
      refine RW.nil ?_
      refine Post.blk_n (Post.then_n ?_)
      refine AW.region ?_
      refine RW.q (v := .int .i64 ((k + 1 : Nat) : Int)) rfl (q_add rfl rfl (by omega) (by unfold I64; omega)) ?_
      refine RW.q (v := .int .i64 ((k + 1 : Nat) : Int)) rfl (q_move rfl) ?_
      refine RW.nil ?_
      exact Post.back (s' := _) (J' := _) (m' := _) (by omega) ⟨k + 1, va1, rfl, rfl, rfl, (by omega), (by rw [hfs]; exact hva1)⟩ ⟨rfl, rfl, rfl, rfl, rfl, trivial⟩ (fun _ h => by rw [Se.flat_take xss k (by omega)]; exact h)
    · simp [-List.getD_eq_getElem?_getD] at hc3
      refine AW.exit ?_
      refine Post.then_x (Post.then_x (Post.blk_hit (Post.then_n ?_)))
      refine AW.seq ?_
      have hke : xss.take k = xss := List.take_of_length_le (by omega)
      rw [hke] at hgv
      refine AW.region ?_
      refine RW.q (v := gv) rfl (q_move rfl) ?_
      refine RW.q (v := gv) rfl (q_assign rfl) ?_
      refine RW.nil ?_
      refine Post.then_n ?_
      refine AW.ret ?_
      refine fin_out1 rfl rfl rfl (fun w' hw => ⟨⟨gv, hgv⟩, rfl, by rw [hke] at hw; exact hw⟩)

set_option maxRecDepth 8000 in
set_option maxHeartbeats 1000000 in
theorem Compact_c {B : Bs} {Φ : Hp} {C : List Chunk} (hBE : B.E = []) {v : Value} {n : Nat} {L : List Bt.Gram} (hv : IsSl v n) (hL : L.length = n) (hn : n ≤ 1000000) (w : World) (hW : (St B Φ (.row v 29 5 n (flat L) :: C)).p w) :
    Calls Try.prog 24 #[v] w fun e w' => ∃ x : {r : Value // IsSl r (Se.comp L).length}, e = .returned (x.1) ∧ (St B Φ (.row x.1 29 5 (Se.comp L).length (flat (Se.comp L)) :: C)).p w' := by
  refine calls_of_AW (args := [v]) Try.func24 rfl (Nat.le_of_ble_eq_true rfl) (St B Φ ((.row v 29 5 n (flat L)) :: C)) hW ?_
  show AW Try.prog 61 [] _ _ _ [(0, v)] _
  refine AW.seq ?_
  refine AW.region ?_
  refine RW.q (v := (.slice none 0 0)) rfl (q_assign rfl) ?_
  refine RW.nil ?_
  refine Post.then_n ?_
  refine AW.seq ?_
  refine AW.seq ?_
  refine AW.region ?_
  refine RW.q (v := v) rfl (q_move rfl) ?_
  refine RW.q (v := .int .i64 (n : Int)) rfl (q_len_sl rfl hv Try.underlying22) ?_
  refine RW.q (v := .bool (decide ((n : Int) < 2))) rfl (q_lss rfl rfl) ?_
  refine RW.nil ?_
  refine Post.then_n ?_
  refine AW.cond (b := decide ((n : Int) < 2)) rfl (fun hc1 => ?_) (fun hc1 => ?_)
  · simp [-List.getD_eq_getElem?_getD] at hc1
    refine AW.seq ?_
    refine AW.region ?_
    refine RW.q (v := v) rfl (q_move rfl) ?_
    refine RW.q (v := v) rfl (q_assign rfl) ?_
    refine RW.nil ?_
    refine Post.then_n ?_
    refine AW.ret ?_
    refine Post.then_r ?_
    have hcp : Se.comp L = L := by have h9 := Se.comp_id (L := L) (k := L.length) (Nat.le_refl _) (fun j h1 h2 => by omega); rwa [List.take_length] at h9
    refine fin_out1 rfl rfl rfl (fun w' hw => ⟨⟨v, by rw [hcp, hL]; exact hv⟩, rfl, ?_⟩)
    show (St B Φ (.row v 29 5 (Se.comp L).length (flat (Se.comp L)) :: C)).p w'
    rw [hcp, hL]
    exact hw
  · simp [-List.getD_eq_getElem?_getD] at hc1
    refine AW.skip ?_
    refine Post.then_n ?_
    refine AW.seq ?_
    refine AW.seq ?_
    refine AW.region ?_
    refine RW.q (v := .int .i64 1) rfl (q_assign rfl) ?_
    refine RW.nil ?_
    refine Post.then_n ?_
    refine AW.block ?_
    refine AW.loop (fun s J m => ∃ (k : Nat), s = [(0, v), (3, .int .i64 (k : Int))] ∧ J = St B Φ ((.row v 29 5 n (flat L)) :: C) ∧ m = n - k ∧ (1 ≤ k) ∧ (k ≤ n) ∧ (∀ j, 1 ≤ j → j < k → L.getD j default ≠ L.getD (j - 1) default)) (s0 := _) (J1 := _) (m0 := _) ⟨1, rfl, rfl, rfl, (by omega), (by omega), (fun j h1 h2 => by omega)⟩ ⟨rfl, rfl, trivial⟩ (fun _ h => h) ?_
    rintro _ _ _ _ ⟨k, rfl, rfl, rfl, hk1, hkn, hne⟩
    refine AW.seq ?_
    refine AW.seq ?_
    refine AW.region ?_
    refine RW.q (v := .int .i64 (k : Int)) rfl (q_move rfl) ?_
    refine RW.q (v := v) rfl (q_move rfl) ?_
    refine RW.q (v := .int .i64 (n : Int)) rfl (q_len_sl rfl hv Try.underlying22) ?_
    refine RW.q (v := .bool (decide ((k : Int) < (n : Int)))) rfl (q_lss rfl rfl) ?_
    refine RW.nil ?_
    refine Post.then_n ?_
    refine AW.cond (b := decide ((k : Int) < (n : Int))) rfl (fun hc2 => ?_) (fun hc2 => ?_)
    · simp [-List.getD_eq_getElem?_getD] at hc2
      refine AW.skip ?_
      refine Post.then_n ?_
      refine AW.seq ?_
      refine AW.block ?_
      refine AW.seq ?_
      refine AW.draw (J0 := St B Φ ((.row v 29 5 n (flat L)) :: C)) [.q, .q, .q, .q, .q, .q, .q, .q, .q, .q] [0, 1, 2, 3, 4, 5, 6, 7, 8, 9] hmix (by kernel_rfl) ?_
      refine DW.q (v := v) (fun _ h => h) rfl (q_move rfl) ?_
      refine DW.q (v := .int .i64 (k : Int)) (fun _ h => h) rfl (q_move rfl) ?_
      refine DW.q (v := .pointer (some (Value.at v (k * 5)))) (fun _ h => h) rfl (q_indexAddr rfl rfl hv Try.underlying22 sz29 (by omega) (by omega) rfl) ?_
      refine DW.q (v := .agg #[.int .i64 ((L.getD k default).Gauge), .int .i64 ((L.getD k default).Seq), .int .i64 ((L.getD k default).Clock), .int .i64 ((L.getD k default).Value), .string ((L.getD k default).Tag)]) (fun _ h => h) rfl (q_loadAgg rfl Try.underlying29 rfl sz29 rfl (Cells.rowE even29 0 rfl (by omega) rfl)) ?_
      refine DW.q (v := v) (fun _ h => h) rfl (q_move rfl) ?_
      refine DW.q (v := .int .i64 (k : Int)) (fun _ h => h) rfl (q_move rfl) ?_
      refine DW.q (v := .int .i64 (((k - 1) : Nat) : Int)) (fun _ h => h) rfl (q_as (v := .int .i64 ((k : Int) - 1)) (q_sub rfl rfl (by omega) (by unfold I64; omega)) (congrArg (Value.int .i64) (by omega))) ?_
      refine DW.q (v := .pointer (some (Value.at v ((k - 1) * 5)))) (fun _ h => h) rfl (q_indexAddr rfl rfl hv Try.underlying22 sz29 (by omega) (by omega) rfl) ?_
      refine DW.q (v := .agg #[.int .i64 ((L.getD (k - 1) default).Gauge), .int .i64 ((L.getD (k - 1) default).Seq), .int .i64 ((L.getD (k - 1) default).Clock), .int .i64 ((L.getD (k - 1) default).Value), .string ((L.getD (k - 1) default).Tag)]) (fun _ h => h) rfl (q_loadAgg rfl Try.underlying29 rfl sz29 rfl (Cells.rowE even29 0 rfl (by omega) rfl)) ?_
      refine DW.q (v := .bool (decide ((L.getD k default).Gauge = (L.getD (k - 1) default).Gauge) && decide ((L.getD k default).Seq = (L.getD (k - 1) default).Seq) && decide ((L.getD k default).Clock = (L.getD (k - 1) default).Clock) && decide ((L.getD k default).Value = (L.getD (k - 1) default).Value) && decide (((L.getD k default).Tag).data.toList = ((L.getD (k - 1) default).Tag).data.toList))) (fun _ h => h) rfl (q_eqlS rfl rfl (eqS29 _ _ _ _ _ _ _ _ _ _) eqG29) ?_
      refine DW.nil ?_
      refine Post.then_n ?_
      refine AW.cond (b := decide ((L.getD k default).Gauge = (L.getD (k - 1) default).Gauge) && decide ((L.getD k default).Seq = (L.getD (k - 1) default).Seq) && decide ((L.getD k default).Clock = (L.getD (k - 1) default).Clock) && decide ((L.getD k default).Value = (L.getD (k - 1) default).Value) && decide (((L.getD k default).Tag).data.toList = ((L.getD (k - 1) default).Tag).data.toList)) rfl (fun hc3 => ?_) (fun hc3 => ?_)
      · simp [-List.getD_eq_getElem?_getD] at hc3
        refine AW.seq ?_
        have heq1 : L.getD k default = L.getD (k - 1) default := Se.gram_eqP (by simpa [-List.getD_eq_getElem?_getD] using hc3)
        refine AW.region ?_
        refine RW.q (v := v) rfl (q_move rfl) ?_
        refine RW.q (v := .int .i64 (k : Int)) rfl (q_move rfl) ?_
        refine RW.q (v := (subSl v k n 5)) rfl (q_sliceL (v := v) (l := (k : Int)) rfl rfl hv Try.underlying22 sz29 (by omega) (by omega)) ?_
        refine RW.q (v := (subSl v k n 5)) rfl (q_assign rfl) ?_
        refine RW.nil ?_
        refine Post.then_n ?_
        refine AW.seq ?_
        refine AW.seq ?_
        refine AW.region ?_
        refine RW.q (v := .int .i64 1) rfl (q_assign rfl) ?_
        refine RW.nil ?_
        refine Post.then_n ?_
        refine AW.block ?_
        refine AW.loop (fun s J m => ∃ (c : Nat), ∃ (d : Nat), ∃ (K : List Bt.Gram), s = [(0, v), (4, (subSl v k n 5)), (3, .int .i64 (c : Int)), (5, .int .i64 (d : Int))] ∧ J = St B Φ ((.row v 29 5 n (flat K)) :: C) ∧ m = n - d ∧ (1 ≤ d) ∧ (k + d ≤ n) ∧ (k ≤ c) ∧ (Se.CmI L K c (k + d))) (s0 := _) (J1 := _) (m0 := _) ⟨k, 1, _, rfl, rfl, rfl, (by omega), (by omega), (by omega), (Se.CmI.start (by omega) (by omega) heq1 hne)⟩ ⟨rfl, rfl, rfl, rfl, trivial⟩ (fun _ h => h) ?_
        rintro _ _ _ _ ⟨c, d, K, rfl, rfl, rfl, hd1, hdn, hck, hI⟩
        refine AW.seq ?_
        refine AW.seq ?_
        refine AW.region ?_
        refine RW.q (v := .int .i64 (d : Int)) rfl (q_move rfl) ?_
        refine RW.q (v := (subSl v k n 5)) rfl (q_move rfl) ?_
        refine RW.q (v := .int .i64 (((n - k) : Nat) : Int)) rfl (q_len_sl rfl (isSl_sub hv (by omega) (by omega)) Try.underlying22) ?_
        refine RW.q (v := .bool (decide ((d : Int) < (((n - k) : Nat) : Int)))) rfl (q_lss rfl rfl) ?_
        refine RW.nil ?_
        refine Post.then_n ?_
        refine AW.cond (b := decide ((d : Int) < (((n - k) : Nat) : Int))) rfl (fun hc4 => ?_) (fun hc4 => ?_)
        · simp [-List.getD_eq_getElem?_getD] at hc4
          refine AW.skip ?_
          refine Post.then_n ?_
          refine AW.seq ?_
          refine AW.block ?_
          refine AW.seq ?_
          have hKl := hI.len
          have hkp := hI.kp
          have hg1 : K.getD (k + d) default = L.getD (k + d) default := hI.post (k + d) (by omega) (by omega)
          have hg2 : K.getD (k + (d - 1)) default = L.getD (k + d - 1) default := by rw [show k + (d - 1) = k + d - 1 by omega]; exact hI.post (k + d - 1) (by omega) (by omega)
          refine AW.draw (J0 := St B Φ ((.row v 29 5 n (flat K)) :: C)) [.q, .q, .q, .q, .q, .q, .q, .q, .q, .q] [0, 1, 2, 3, 4, 5, 6, 7, 8, 9] hmix (by kernel_rfl) ?_
          refine DW.q (v := (subSl v k n 5)) (fun _ h => h) rfl (q_move rfl) ?_
          refine DW.q (v := .int .i64 (d : Int)) (fun _ h => h) rfl (q_move rfl) ?_
          refine DW.q (v := .pointer (some (Value.at v ((k + d) * 5)))) (fun _ h => h) rfl (q_indexAddr (v := (subSl v k n 5)) rfl rfl (isSl_sub hv (by omega) (by omega)) Try.underlying22 sz29 (by omega) (by omega) (by rw [at_sub (l := k) (m := n) hv (by omega) (by omega)]; exact congrArg (Value.at _) (by omega))) ?_
          refine DW.q (v := .agg #[.int .i64 ((K.getD (k + d) default).Gauge), .int .i64 ((K.getD (k + d) default).Seq), .int .i64 ((K.getD (k + d) default).Clock), .int .i64 ((K.getD (k + d) default).Value), .string ((K.getD (k + d) default).Tag)]) (fun _ h => h) rfl (q_loadAgg rfl Try.underlying29 rfl sz29 rfl (Cells.rowE even29 0 rfl (by omega) rfl)) ?_
          refine DW.q (v := (subSl v k n 5)) (fun _ h => h) rfl (q_move rfl) ?_
          refine DW.q (v := .int .i64 (d : Int)) (fun _ h => h) rfl (q_move rfl) ?_
          refine DW.q (v := .int .i64 (((d - 1) : Nat) : Int)) (fun _ h => h) rfl (q_as (v := .int .i64 ((d : Int) - 1)) (q_sub rfl rfl (by omega) (by unfold I64; omega)) (congrArg (Value.int .i64) (by omega))) ?_
          refine DW.q (v := .pointer (some (Value.at v ((k + (d - 1)) * 5)))) (fun _ h => h) rfl (q_indexAddr (v := (subSl v k n 5)) rfl rfl (isSl_sub hv (by omega) (by omega)) Try.underlying22 sz29 (by omega) (by omega) (by rw [at_sub (l := k) (m := n) hv (by omega) (by omega)]; exact congrArg (Value.at _) (by omega))) ?_
          refine DW.q (v := .agg #[.int .i64 ((K.getD (k + (d - 1)) default).Gauge), .int .i64 ((K.getD (k + (d - 1)) default).Seq), .int .i64 ((K.getD (k + (d - 1)) default).Clock), .int .i64 ((K.getD (k + (d - 1)) default).Value), .string ((K.getD (k + (d - 1)) default).Tag)]) (fun _ h => h) rfl (q_loadAgg rfl Try.underlying29 rfl sz29 rfl (Cells.rowE even29 0 rfl (by omega) rfl)) ?_
          refine DW.q (v := .bool (!(decide ((K.getD (k + d) default).Gauge = (K.getD (k + (d - 1)) default).Gauge) && decide ((K.getD (k + d) default).Seq = (K.getD (k + (d - 1)) default).Seq) && decide ((K.getD (k + d) default).Clock = (K.getD (k + (d - 1)) default).Clock) && decide ((K.getD (k + d) default).Value = (K.getD (k + (d - 1)) default).Value) && decide (((K.getD (k + d) default).Tag).data.toList = ((K.getD (k + (d - 1)) default).Tag).data.toList)))) (fun _ h => h) rfl (q_neqS rfl rfl (eqS29 _ _ _ _ _ _ _ _ _ _) eqG29) ?_
          refine DW.nil ?_
          refine Post.then_n ?_
          refine AW.cond (b := !(decide ((K.getD (k + d) default).Gauge = (K.getD (k + (d - 1)) default).Gauge) && decide ((K.getD (k + d) default).Seq = (K.getD (k + (d - 1)) default).Seq) && decide ((K.getD (k + d) default).Clock = (K.getD (k + (d - 1)) default).Clock) && decide ((K.getD (k + d) default).Value = (K.getD (k + (d - 1)) default).Value) && decide (((K.getD (k + d) default).Tag).data.toList = ((K.getD (k + (d - 1)) default).Tag).data.toList))) rfl (fun hc5 => ?_) (fun hc5 => ?_)
          · simp [-List.getD_eq_getElem?_getD] at hc5
            refine AW.seq ?_
            have hne2 : L.getD (k + d) default ≠ L.getD (k + d - 1) default := fun e => by rw [hg1, hg2, e] at hc5; simp at hc5
            refine AW.region ?_
            refine RW.q (v := v) rfl (q_move rfl) ?_
            refine RW.q (v := .int .i64 (c : Int)) rfl (q_move rfl) ?_
            refine RW.q (v := (subSl v k n 5)) rfl (q_move rfl) ?_
            refine RW.q (v := .int .i64 (d : Int)) rfl (q_move rfl) ?_
            refine RW.q (v := .pointer (some (Value.at v ((k + d) * 5)))) rfl (q_indexAddr (v := (subSl v k n 5)) rfl rfl (isSl_sub hv (by omega) (by omega)) Try.underlying22 sz29 (by omega) (by omega) (by rw [at_sub (l := k) (m := n) hv (by omega) (by omega)]; exact congrArg (Value.at _) (by omega))) ?_
            refine RW.q (v := .agg #[.int .i64 ((K.getD (k + d) default).Gauge), .int .i64 ((K.getD (k + d) default).Seq), .int .i64 ((K.getD (k + d) default).Clock), .int .i64 ((K.getD (k + d) default).Value), .string ((K.getD (k + d) default).Tag)]) rfl (q_loadAgg rfl Try.underlying29 rfl sz29 rfl (Cells.rowE even29 0 rfl (by omega) rfl)) ?_
            refine RW.q (v := .pointer (some (Value.at v (c * 5)))) rfl (q_indexAddr rfl rfl hv Try.underlying22 sz29 (by omega) (by omega) rfl) ?_
            refine RW.effn (J' := St B Φ ((.row v 29 5 n (flat (K.set c (K.getD (k + d) default)))) :: C)) (e_storeRow (v := .agg #[.int .i64 ((K.getD (k + d) default).Gauge), .int .i64 ((K.getD (k + d) default).Seq), .int .i64 ((K.getD (k + d) default).Clock), .int .i64 ((K.getD (k + d) default).Value), .string ((K.getD (k + d) default).Tag)]) 0 rfl rfl rfl sz29 rfl rfl (by rw [flat_len even29]; simp [Rep.sz]; omega) (splice_E even29 (k := c) (x := (K.getD (k + d) default)) (by first | omega | (simp; omega)) rfl) rfl) ?_
            refine RW.nil ?_
            refine Post.then_n ?_
            refine AW.region ?_
            refine RW.q (v := .int .i64 (c : Int)) rfl (q_move rfl) ?_
            refine RW.q (v := .int .i64 ((c + 1 : Nat) : Int)) rfl (q_add rfl rfl (by omega) (by unfold I64; omega)) ?_
            refine RW.q (v := .int .i64 ((c + 1 : Nat) : Int)) rfl (q_assign rfl) ?_
            refine RW.nil ?_
            refine Post.blk_n (Post.then_n ?_)
            refine AW.region ?_
            refine RW.q (v := .int .i64 (d : Int)) rfl (q_move rfl) ?_
            refine RW.q (v := .int .i64 ((d + 1 : Nat) : Int)) rfl (q_add rfl rfl (by omega) (by unfold I64; omega)) ?_
            refine RW.q (v := .int .i64 ((d + 1 : Nat) : Int)) rfl (q_assign rfl) ?_
            refine RW.nil ?_
            exact Post.back (s' := _) (J' := _) (m' := _) (by omega) ⟨c + 1, d + 1, _, rfl, rfl, rfl, (by omega), (by omega), (by omega), (by have h9 := hI.put (by omega) hne2; rw [hg1]; exact h9)⟩ ⟨rfl, rfl, rfl, rfl, trivial⟩ (fun _ h => h)
          · simp [-List.getD_eq_getElem?_getD] at hc5
            refine AW.skip ?_
            refine Post.blk_n (Post.then_n ?_)
            refine AW.region ?_
            refine RW.q (v := .int .i64 (d : Int)) rfl (q_move rfl) ?_
            refine RW.q (v := .int .i64 ((d + 1 : Nat) : Int)) rfl (q_add rfl rfl (by omega) (by unfold I64; omega)) ?_
            refine RW.q (v := .int .i64 ((d + 1 : Nat) : Int)) rfl (q_assign rfl) ?_
            refine RW.nil ?_
            have heq2 : L.getD (k + d) default = L.getD (k + d - 1) default := by rw [← hg1, ← hg2]; exact Se.gram_eqP (by simpa [-List.getD_eq_getElem?_getD] using hc5)
            exact Post.back (s' := _) (J' := _) (m' := _) (by omega) ⟨c, d + 1, _, rfl, rfl, rfl, (by omega), (by omega), (by omega), (hI.keep (by omega) heq2)⟩ ⟨rfl, rfl, rfl, rfl, trivial⟩ (fun _ h => h)
        · simp [-List.getD_eq_getElem?_getD] at hc4
          refine AW.exit ?_
          refine Post.then_x (Post.then_x (Post.blk_hit (Post.then_n ?_)))
          refine AW.seq ?_
          have hKl := hI.len
          have hkp := hI.kp
          refine AW.region ?_
          refine RW.q (v := v) rfl (q_move rfl) ?_
          refine RW.q (v := .int .i64 (c : Int)) rfl (q_move rfl) ?_
          refine RW.q (v := (subSl v c n 5)) rfl (q_sliceL (v := v) (l := (c : Int)) rfl rfl hv Try.underlying22 sz29 (by omega) (by omega)) ?_
          refine RW.effn (J' := St B Φ ((.row v 29 5 n (flat (K.take c ++ List.replicate (n - c) default))) :: C)) (e_clearE (u := v) (n := n) (k := c) (xs := K) even29 0 rfl rfl Try.underlying22 inf29 rfl rfl (by decide) (by omega) (by omega) rfl) ?_
          refine RW.nil ?_
          refine Post.then_n ?_
          refine AW.seq ?_
          refine AW.region ?_
          refine RW.q (v := v) rfl (q_move rfl) ?_
          refine RW.q (v := .int .i64 (c : Int)) rfl (q_move rfl) ?_
          refine RW.q (v := (subSl v 0 c 5)) rfl (q_sliceH (v := v) (m := (c : Int)) rfl rfl hv Try.underlying22 sz29 (by omega) (by omega)) ?_
          refine RW.q (v := (subSl v 0 c 5)) rfl (q_assign rfl) ?_
          refine RW.nil ?_
          refine Post.then_n ?_
          refine AW.ret ?_
          refine Post.blk_r (Post.then_r (Post.then_r (Post.blk_r (Post.then_r ?_))))
          have hcl : (Se.comp L).length = c := by have h9 := hI.kl; rw [List.take_of_length_le (by omega)] at h9; exact h9.symm
          have hcp : K.take c = Se.comp L := by have h9 := hI.pre; rw [List.take_of_length_le (l := L) (by omega)] at h9; exact h9
          refine fin_out1 rfl rfl rfl (fun w' hw => ⟨⟨subSl v 0 c 5, by rw [hcl]; exact isSl_sub hv (Nat.zero_le _) (by omega)⟩, rfl, ?_⟩)
          show (St B Φ (.row (subSl v 0 c 5) 29 5 (Se.comp L).length (flat (Se.comp L)) :: C)).p w'
          rw [hcl, ← hcp]
          have h9 := StP.rowTakeE even29 (k := c) hw (by omega)
          rw [List.take_append_of_le_length (by rw [List.length_take]; omega), List.take_take, Nat.min_self] at h9
          exact h9
      · simp [-List.getD_eq_getElem?_getD] at hc3
        refine AW.skip ?_
        refine Post.blk_n (Post.then_n ?_)
        refine AW.region ?_
        refine RW.q (v := .int .i64 (k : Int)) rfl (q_move rfl) ?_
        refine RW.q (v := .int .i64 ((k + 1 : Nat) : Int)) rfl (q_add rfl rfl (by omega) (by unfold I64; omega)) ?_
        refine RW.q (v := .int .i64 ((k + 1 : Nat) : Int)) rfl (q_assign rfl) ?_
        refine RW.nil ?_
        exact Post.back (s' := _) (J' := _) (m' := _) (by omega) ⟨k + 1, rfl, rfl, rfl, (by omega), (by omega), (fun j h1 h2 => by rcases Nat.lt_or_eq_of_le (Nat.lt_succ_iff.1 h2) with h3 | h3; exact hne j h1 h3; subst h3; exact fun e => by rw [e] at hc3; simp at hc3)⟩ ⟨rfl, rfl, trivial⟩ (fun _ h => h)
    · simp [-List.getD_eq_getElem?_getD] at hc2
      refine AW.exit ?_
      refine Post.then_x (Post.then_x (Post.blk_hit (Post.then_n ?_)))
      refine AW.seq ?_
      refine AW.region ?_
      refine RW.q (v := v) rfl (q_move rfl) ?_
      refine RW.q (v := v) rfl (q_assign rfl) ?_
      refine RW.nil ?_
      refine Post.then_n ?_
      refine AW.ret ?_
      have hcp : Se.comp L = L := by have h9 := Se.comp_id (L := L) (k := L.length) (Nat.le_refl _) (fun j h1 h2 => hne j h1 (by omega)); rwa [List.take_length] at h9
      refine fin_out1 rfl rfl rfl (fun w' hw => ⟨⟨v, by rw [hcp, hL]; exact hv⟩, rfl, ?_⟩)
      show (St B Φ (.row v 29 5 (Se.comp L).length (flat (Se.comp L)) :: C)).p w'
      rw [hcp, hL]
      exact hw

end Go.Proofs.Ytlljbndnodbecaa
