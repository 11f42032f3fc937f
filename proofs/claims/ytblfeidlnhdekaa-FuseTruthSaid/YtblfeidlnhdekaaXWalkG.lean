/- Walks (part WalkG), printed by walk2.py. Conditions: those of each theorem. -/
import Derived.Test.YtblfeidlnhdekaaXWalkF
namespace Go.Proofs.Ytblfeidlnhdekaa
open Go Go.K Go.RowKit
set_option maxRecDepth 8000
set_option maxHeartbeats 1000000
attribute [local irreducible] AW RW DW Post Qt
theorem cloneV_c {B : Bs} {Φ : Hp} {C : List Chunk} (hBE : B.E = []) {xs : List Bt.Span} {v1 : Value} (h1 : RepSl Φ xs v1) (w : World) (hW : (St B Φ C).p w) :
  Calls Try.prog 34 #[v1] w fun e w' => ∃ x : {y : Value // IsSl y xs.length}, e = .returned (x.1) ∧ (St B Φ (.row x.1 42 2 xs.length (flat xs) :: C)).p w' := by
 refine calls_of_AW (args := [v1]) Try.func34 rfl (Nat.le_of_ble_eq_true rfl) (St B Φ C) hW ?_
 show AW Try.prog 8 [] _ _ _ [(0, v1)] _
 have hm1 : xs.length * 16 ≤ 140737488355328 := h1.max
 refine g9 ?_
 refine RW.q (v := .bool (nilSl v1)) rfl (q_eqNil rfl h1.sl uT32) ?_
 refine g2 ?_
 refine AW.cond rfl (fun hc1 => ?_) fun hc1 => ?_
 ·
  refine g7 ?_
  have hx0 : xs = [] := by
   rcases Nat.eq_zero_or_pos xs.length with h9 | h9
   ·
    exact List.length_eq_zero_iff.1 h9
   ·
    rw [nilSl_pos h1.sl h9] at hc1; cases hc1
  subst hx0
  exact fin_out1 rfl rfl rfl (fun w' hw => ⟨⟨.slice none 0 0, isSl_nil⟩, rfl, addNil hw⟩)
 ·
  refine g4 ?_
  refine RW.eff (fun b1 : Nat => (.slice (some ⟨b1, 0, none⟩) 0 0)) (fun b1 => St B Φ ((.row (.slice (some ⟨b1, 0, none⟩) 0 0) 42 2 0 (flat ([] : List Bt.Span))) :: C)) rfl (e_buildSlice0 uT32 inf42) ?_
  intro b1
  refine g1 ?_
  refine RW.eff (fun xv : {vq : Value // IsSl vq (0 + xs.length)} => xv.1) (fun xv => St B Φ ((.row xv.1 42 2 ((([] : List Bt.Span) ++ xs).length) (flat (([] : List Bt.Span) ++ xs))) :: C)) rfl (e_appendPhi (yv := v1) 0 rfl rfl rfl h1.sl uT32 inf42 rfl rfl (flat_len even42 _) (repE_cells even42 h1) (flat_one h1) (by omega) (by omega) (fun _ => by simp [flat])) ?_
  rintro ⟨va1, hva1⟩
  refine g4 ?_
  refine fin_out1 rfl rfl rfl (fun w' hw => ⟨⟨va1, by simpa using hva1⟩, rfl, by simpa using hw⟩)
theorem cloneQ_c {B : Bs} {Φ : Hp} {C : List Chunk} (hBE : B.E = []) {xs : List Bt.Sum} {v1 : Value} (h1 : RepSl Φ xs v1) (w : World) (hW : (St B Φ C).p w) :
  Calls Try.prog 35 #[v1] w fun e w' => ∃ x : {y : Value // IsSl y xs.length}, e = .returned (x.1) ∧ (St B Φ (.row x.1 93 4 xs.length (flat xs) :: C)).p w' := by
 refine calls_of_AW (args := [v1]) Try.func35 rfl (Nat.le_of_ble_eq_true rfl) (St B Φ C) hW ?_
 show AW Try.prog 8 [] _ _ _ [(0, v1)] _
 have hm1 : xs.length * 32 ≤ 140737488355328 := h1.max
 refine g9 ?_
 refine RW.q (v := .bool (nilSl v1)) rfl (q_eqNil rfl h1.sl uT33) ?_
 refine g2 ?_
 refine AW.cond rfl (fun hc1 => ?_) fun hc1 => ?_
 ·
  refine g7 ?_
  have hx0 : xs = [] := by
   rcases Nat.eq_zero_or_pos xs.length with h9 | h9
   ·
    exact List.length_eq_zero_iff.1 h9
   ·
    rw [nilSl_pos h1.sl h9] at hc1; cases hc1
  subst hx0
  exact fin_out1 rfl rfl rfl (fun w' hw => ⟨⟨.slice none 0 0, isSl_nil⟩, rfl, addNil hw⟩)
 ·
  refine g4 ?_
  refine RW.eff (fun b1 : Nat => (.slice (some ⟨b1, 0, none⟩) 0 0)) (fun b1 => St B Φ ((.row (.slice (some ⟨b1, 0, none⟩) 0 0) 93 4 0 (flat ([] : List Bt.Sum))) :: C)) rfl (e_buildSlice0 uT33 inf93) ?_
  intro b1
  refine g1 ?_
  refine RW.eff (fun xv : {vq : Value // IsSl vq (0 + xs.length)} => xv.1) (fun xv => St B Φ ((.row xv.1 93 4 ((([] : List Bt.Sum) ++ xs).length) (flat (([] : List Bt.Sum) ++ xs))) :: C)) rfl (e_appendPhi (yv := v1) 0 rfl rfl rfl h1.sl uT33 inf93 rfl rfl (flat_len even93 _) (repE_cells even93 h1) (flat_one h1) (by omega) (by omega) (fun _ => by simp [flat])) ?_
  rintro ⟨va1, hva1⟩
  refine g4 ?_
  refine fin_out1 rfl rfl rfl (fun w' hw => ⟨⟨va1, by simpa using hva1⟩, rfl, by simpa using hw⟩)
theorem cloneL_c {B : Bs} {Φ : Hp} {C : List Chunk} (hBE : B.E = []) {xs : List Bt.Known} {v1 : Value} (h1 : RepSl Φ xs v1) (w : World) (hW : (St B Φ C).p w) :
  Calls Try.prog 36 #[v1] w fun e w' => ∃ x : {y : Value // IsSl y xs.length}, e = .returned (x.1) ∧ (St B Φ (.row x.1 79 5 xs.length (flat xs) :: C)).p w' := by
 refine calls_of_AW (args := [v1]) Try.func36 rfl (Nat.le_of_ble_eq_true rfl) (St B Φ C) hW ?_
 show AW Try.prog 8 [] _ _ _ [(0, v1)] _
 have hm1 : xs.length * 40 ≤ 140737488355328 := h1.max
 refine g9 ?_
 refine RW.q (v := .bool (nilSl v1)) rfl (q_eqNil rfl h1.sl uT34) ?_
 refine g2 ?_
 refine AW.cond rfl (fun hc1 => ?_) fun hc1 => ?_
 ·
  refine g7 ?_
  have hx0 : xs = [] := by
   rcases Nat.eq_zero_or_pos xs.length with h9 | h9
   ·
    exact List.length_eq_zero_iff.1 h9
   ·
    rw [nilSl_pos h1.sl h9] at hc1; cases hc1
  subst hx0
  exact fin_out1 rfl rfl rfl (fun w' hw => ⟨⟨.slice none 0 0, isSl_nil⟩, rfl, addNil hw⟩)
 ·
  refine g4 ?_
  refine RW.eff (fun b1 : Nat => (.slice (some ⟨b1, 0, none⟩) 0 0)) (fun b1 => St B Φ ((.row (.slice (some ⟨b1, 0, none⟩) 0 0) 79 5 0 (flat ([] : List Bt.Known))) :: C)) rfl (e_buildSlice0 uT34 inf79) ?_
  intro b1
  refine g1 ?_
  refine RW.eff (fun xv : {vq : Value // IsSl vq (0 + xs.length)} => xv.1) (fun xv => St B Φ ((.row xv.1 79 5 ((([] : List Bt.Known) ++ xs).length) (flat (([] : List Bt.Known) ++ xs))) :: C)) rfl (e_appendPhi (yv := v1) 0 rfl rfl rfl h1.sl uT34 inf79 rfl rfl (flat_len even79 _) (repE_cells even79 h1) (flat_one h1) (by omega) (by omega) (fun _ => by simp [flat])) ?_
  rintro ⟨va1, hva1⟩
  refine g4 ?_
  refine fin_out1 rfl rfl rfl (fun w' hw => ⟨⟨va1, by simpa using hva1⟩, rfl, by simpa using hw⟩)
theorem part2_c (w : World) (Φ : Hp) (hΦ : Hp.le Φ (hp w)) {pa : Addr} :
  Calls Try.prog 41 #[.pointer (some pa)] w fun e w' => e = .returned (.pointer (some pa)) ∧ Bel w.heap.size w w' := by
 refine calls_of_AW (args := [.pointer (some pa)]) Try.func41 rfl (Nat.le_of_ble_eq_true rfl) (St ⟨w, Φ, []⟩ Φ []) (StP.init w Φ hΦ []) ?_
 show AW Try.prog 4 [] _ _ _ [(0, .pointer (some pa))] _
 refine g12 ?_
 exact fin_val (v' := .pointer (some pa)) rfl rfl rfl (rfl)
theorem part3_c (w : World) (Φ : Hp) (hΦ : Hp.le Φ (hp w)) {pa : Addr} :
  Calls Try.prog 43 #[.pointer (some pa)] w fun e w' => e = .returned (.pointer (some (pa.add 0))) ∧ Bel w.heap.size w w' := by
 refine calls_of_AW (args := [.pointer (some pa)]) Try.func43 rfl (Nat.le_of_ble_eq_true rfl) (St ⟨w, Φ, []⟩ Φ []) (StP.init w Φ hΦ []) ?_
 show AW Try.prog 6 [] _ _ _ [(0, .pointer (some pa))] _
 refine g8 ?_
 refine RW.q (v := .pointer (some pa)) rfl (q_nilCheck rfl) (RW.q (v := .pointer (some (pa.add 0))) rfl (q_fieldAddr rfl uT79 rfl sz42 rfl) (RW.q (v := .pointer (some (pa.add 0))) rfl (q_assign rfl) (RW.nil (Post.then_n (AW.ret ?_)))))
 exact fin_val (v' := .pointer (some (pa.add 0))) rfl rfl rfl (rfl)
theorem narV_c {B : Bs} {Φ : Hp} {C : List Chunk} (hBE : B.E = []) {v : Value} {n : Nat} {L : List Bt.Span} (hv : IsSl v n) (hL : L.length = n) (hn : n ≤ 1000000) {i : Nat} {lo hi : Int} (hi_ : i < n) (w : World) (hW : (St B Φ (.row v 42 2 n (flat L) :: C)).p w) :
  Calls Try.prog 40 #[v, iV (i : Int), .func (.func 41) #[] #[], .agg #[iV lo, iV hi]] w fun e w' => ∃ x : Unit, e = .returned (.bool (Fu.meet (L.getD i default).Lo (L.getD i default).Hi lo hi).isSome) ∧ (St B Φ (.row v 42 2 n (flat (Fu.narV L i lo hi)) :: C)).p w' := by
 refine calls_of_AW (args := [v, iV (i : Int), .func (.func 41) #[] #[], .agg #[iV lo, iV hi]]) Try.func40 rfl (Nat.le_of_ble_eq_true rfl) (St B Φ ((.row v 42 2 n (flat L)) :: C)) hW ?_
 show AW Try.prog 30 [] _ _ _ [(0, v), (1, iV (i : Int)), (2, .func (.func 41) #[] #[]), (3, .agg #[iV lo, iV hi])] _
 refine g2 ?_
 refine RW.bxA rfl rfl fun b1 => ?_
 refine g8 ?_
 refine RW.q (v := .pointer (some (Value.at v (i * 2)))) rfl (q_indexAddr rfl rfl hv uT32 sz42 (by omega) (by omega) rfl) (RW.q (v := .pointer (some (Value.at v (i * 2)))) rfl (q_call (args := #[.pointer (some (Value.at v (i * 2)))]) own41 rfl rfl (fun w1 hw1 => part2_c w1 (Go.K.hp w1) (Hp.le_refl _))) ?_)
 refine g4 ?_
 refine AW.draw (J0 := St B Φ ((.blk b1 42 [iV lo, iV hi]) :: (.row v 42 2 n (flat L)) :: C)) [.q, .q, .q, .q, .q, .q, .q, .q, .e, .e, .q] [0, 1, 2, 3, 4, 5, 6, 7, 8, 9, 10] hmix (by kernel_rfl) ?_
 refine g1 ?_
 refine DW.q (v := .pointer (some (Value.at v (i * 2)))) (fun _ h => h) rfl (q_nilCheck rfl) (DW.q (v := .agg #[iV ((L.getD i default).Lo), iV ((L.getD i default).Hi)]) (fun _ h => h) rfl (q_loadAgg rfl uT42 rfl sz42 rfl (Cells.rowE even42 1 rfl (by omega) rfl)) ?_)
 refine g1 ?_
 refine DW.q (v := .tuple #[.agg #[iV (Fu.loOf (Fu.meet ((L.getD i default).Lo) ((L.getD i default).Hi) lo hi)), iV (Fu.hiOf (Fu.meet ((L.getD i default).Lo) ((L.getD i default).Hi) lo hi))], .bool ((Fu.meet ((L.getD i default).Lo) ((L.getD i default).Hi) lo hi).isSome)]) (fun _ h => h) rfl (q_call (args := #[.agg #[iV ((L.getD i default).Lo), iV ((L.getD i default).Hi)], .agg #[iV lo, iV hi]]) own30 rfl rfl (fun w1 hw1 => Meet_c w1 (Go.K.hp w1) (Hp.le_refl _))) (DW.q (v := .tuple #[.agg #[iV (Fu.loOf (Fu.meet ((L.getD i default).Lo) ((L.getD i default).Hi) lo hi)), iV (Fu.hiOf (Fu.meet ((L.getD i default).Lo) ((L.getD i default).Hi) lo hi))], .bool ((Fu.meet ((L.getD i default).Lo) ((L.getD i default).Hi) lo hi).isSome)]) (fun _ h => h) rfl (q_move rfl) ?_)
 refine g2 ?_
 refine DW.eff (fun b2 : Nat => pV b2 0) (fun b2 => St B Φ ((.blk b2 42 [iV 0, iV 0]) :: (.blk b1 42 [iV lo, iV hi]) :: (.row v 42 2 n (flat L)) :: C)) (fun _ _ => (fun _ h => (StP.drop h (by exact .cons _ (.cons_cons _ (.cons_cons _ ((List.Sublist.refl _)))))))) rfl (e_alloc zero42) ?_
 intro b2
 refine DW.effn (J' := St B Φ ((.blk b2 42 [iV (Fu.loOf (Fu.meet ((L.getD i default).Lo) ((L.getD i default).Hi) lo hi)), iV (Fu.hiOf (Fu.meet ((L.getD i default).Lo) ((L.getD i default).Hi) lo hi))]) :: (.blk b1 42 [iV lo, iV hi]) :: (.row v 42 2 n (flat L)) :: C)) (fun _ => (fun _ h => (StP.drop h (by exact .cons _ (.cons_cons _ (.cons_cons _ ((List.Sublist.refl _)))))))) (e_store (v := .agg #[iV (Fu.loOf (Fu.meet ((L.getD i default).Lo) ((L.getD i default).Hi) lo hi)), iV (Fu.hiOf (Fu.meet ((L.getD i default).Lo) ((L.getD i default).Hi) lo hi))]) 0 rfl rfl rfl sz42 rfl rfl rfl rfl rfl) (DW.q (v := .bool ((Fu.meet ((L.getD i default).Lo) ((L.getD i default).Hi) lo hi).isSome)) (fun _ h => (StP.drop h (by exact .cons _ (.cons_cons _ (.cons_cons _ ((List.Sublist.refl _))))))) rfl (q_assign rfl) ?_)
 refine g8 ?_
 refine AW.cond rfl (fun hc1 => ?_) fun hc1 => ?_
 ·
  refine g3 ?_
  refine RW.q (v := .pointer (some (Value.at v (i * 2)))) rfl (q_nilCheck rfl) (RW.effn (J' := St B Φ ((.blk b2 42 [iV (Fu.loOf (Fu.meet ((L.getD i default).Lo) ((L.getD i default).Hi) lo hi)), iV (Fu.hiOf (Fu.meet ((L.getD i default).Lo) ((L.getD i default).Hi) lo hi))]) :: (.blk b1 42 [iV lo, iV hi]) :: (.row v 42 2 n (flat (L.set i (⟨Fu.loOf (Fu.meet ((L.getD i default).Lo) ((L.getD i default).Hi) lo hi), Fu.hiOf (Fu.meet ((L.getD i default).Lo) ((L.getD i default).Hi) lo hi)⟩ : Bt.Span)))) :: C)) (e_storeRow (v := .agg #[iV (Fu.loOf (Fu.meet ((L.getD i default).Lo) ((L.getD i default).Hi) lo hi)), iV (Fu.hiOf (Fu.meet ((L.getD i default).Lo) ((L.getD i default).Hi) lo hi))]) 2 rfl rfl rfl sz42 rfl rfl (by rw [flat_len even42]; simp [Rep.sz]; omega) (splice_E even42 (k := i) (x := (⟨Fu.loOf (Fu.meet ((L.getD i default).Lo) ((L.getD i default).Hi) lo hi), Fu.hiOf (Fu.meet ((L.getD i default).Lo) ((L.getD i default).Hi) lo hi)⟩ : Bt.Span)) (by first | omega | (simp; omega)) rfl) rfl) ?_)
  refine g9 ?_
  refine fin_out1 rfl rfl rfl (fun w' hw => ⟨(), rfl, ?_⟩)
  unfold Fu.narV
  obtain ⟨z, hz⟩ := Option.isSome_iff_exists.1 hc1
  rw [hz] at hw ⊢
  exact StP.drop hw (by exact .cons _ (.cons _ (.cons_cons _ ((List.Sublist.refl _)))))
 ·
  refine g9 ?_
  refine fin_out1 rfl rfl rfl (fun w' hw => ⟨(), rfl, ?_⟩)
  unfold Fu.narV
  rw [show Fu.meet (L.getD i default).Lo (L.getD i default).Hi lo hi = none by simpa using hc1]
  exact StP.drop hw (by exact .cons _ (.cons _ (.cons_cons _ ((List.Sublist.refl _)))))
theorem narL_c {B : Bs} {Φ : Hp} {C : List Chunk} (hBE : B.E = []) {v : Value} {n : Nat} {L : List Bt.Known} (hv : IsSl v n) (hL : L.length = n) (hn : n ≤ 1000000) {i : Nat} {lo hi : Int} (hi_ : i < n) (w : World) (hW : (St B Φ (.row v 79 5 n (flat L) :: C)).p w) :
  Calls Try.prog 42 #[v, iV (i : Int), .func (.func 43) #[] #[], .agg #[iV lo, iV hi]] w fun e w' => ∃ x : Unit, e = .returned (.bool (Fu.meet (L.getD i default).Pos.Lo (L.getD i default).Pos.Hi lo hi).isSome) ∧ (St B Φ (.row v 79 5 n (flat (Fu.narL L i lo hi)) :: C)).p w' := by
 refine calls_of_AW (args := [v, iV (i : Int), .func (.func 43) #[] #[], .agg #[iV lo, iV hi]]) Try.func42 rfl (Nat.le_of_ble_eq_true rfl) (St B Φ ((.row v 79 5 n (flat L)) :: C)) hW ?_
 show AW Try.prog 30 [] _ _ _ [(0, v), (1, iV (i : Int)), (2, .func (.func 43) #[] #[]), (3, .agg #[iV lo, iV hi])] _
 refine g2 ?_
 refine RW.bxA rfl rfl fun b1 => ?_
 refine g8 ?_
 refine RW.q (v := .pointer (some (Value.at v (i * 5)))) rfl (q_indexAddr rfl rfl hv uT34 sz79 (by omega) (by omega) rfl) (RW.q (v := .pointer (some (Value.at v (i * 5 + 0)))) rfl (q_call (args := #[.pointer (some (Value.at v (i * 5)))]) own43 rfl rfl (fun w1 hw1 => (part3_c w1 (Go.K.hp w1) (Hp.le_refl _)).mono fun e w2 ⟨he, hb⟩ => ⟨by rw [he, at_add], hb⟩)) ?_)
 refine g4 ?_
 refine AW.draw (J0 := St B Φ ((.blk b1 42 [iV lo, iV hi]) :: (.row v 79 5 n (flat L)) :: C)) [.q, .q, .q, .q, .q, .q, .q, .q, .e, .e, .q] [0, 1, 2, 3, 4, 5, 6, 7, 8, 9, 10] hmix (by kernel_rfl) ?_
 refine g1 ?_
 refine DW.q (v := .pointer (some (Value.at v (i * 5 + 0)))) (fun _ h => h) rfl (q_nilCheck rfl) (DW.q (v := .agg #[iV ((L.getD i default).Pos.Lo), iV ((L.getD i default).Pos.Hi)]) (fun _ h => h) rfl (q_loadAgg rfl uT42 rfl sz42 rfl (Cells.rowP even79 (off := 0) 1 rfl (by omega) (fun j u hu => (by rcases j with _ | (_ | _) <;> first | exact hu | cases hu)))) ?_)
 refine g1 ?_
 refine DW.q (v := .tuple #[.agg #[iV (Fu.loOf (Fu.meet ((L.getD i default).Pos.Lo) ((L.getD i default).Pos.Hi) lo hi)), iV (Fu.hiOf (Fu.meet ((L.getD i default).Pos.Lo) ((L.getD i default).Pos.Hi) lo hi))], .bool ((Fu.meet ((L.getD i default).Pos.Lo) ((L.getD i default).Pos.Hi) lo hi).isSome)]) (fun _ h => h) rfl (q_call (args := #[.agg #[iV ((L.getD i default).Pos.Lo), iV ((L.getD i default).Pos.Hi)], .agg #[iV lo, iV hi]]) own30 rfl rfl (fun w1 hw1 => Meet_c w1 (Go.K.hp w1) (Hp.le_refl _))) (DW.q (v := .tuple #[.agg #[iV (Fu.loOf (Fu.meet ((L.getD i default).Pos.Lo) ((L.getD i default).Pos.Hi) lo hi)), iV (Fu.hiOf (Fu.meet ((L.getD i default).Pos.Lo) ((L.getD i default).Pos.Hi) lo hi))], .bool ((Fu.meet ((L.getD i default).Pos.Lo) ((L.getD i default).Pos.Hi) lo hi).isSome)]) (fun _ h => h) rfl (q_move rfl) ?_)
 refine g2 ?_
 refine DW.eff (fun b2 : Nat => pV b2 0) (fun b2 => St B Φ ((.blk b2 42 [iV 0, iV 0]) :: (.blk b1 42 [iV lo, iV hi]) :: (.row v 79 5 n (flat L)) :: C)) (fun _ _ => (fun _ h => (StP.drop h (by exact .cons _ (.cons_cons _ (.cons_cons _ ((List.Sublist.refl _)))))))) rfl (e_alloc zero42) ?_
 intro b2
 refine DW.effn (J' := St B Φ ((.blk b2 42 [iV (Fu.loOf (Fu.meet ((L.getD i default).Pos.Lo) ((L.getD i default).Pos.Hi) lo hi)), iV (Fu.hiOf (Fu.meet ((L.getD i default).Pos.Lo) ((L.getD i default).Pos.Hi) lo hi))]) :: (.blk b1 42 [iV lo, iV hi]) :: (.row v 79 5 n (flat L)) :: C)) (fun _ => (fun _ h => (StP.drop h (by exact .cons _ (.cons_cons _ (.cons_cons _ ((List.Sublist.refl _)))))))) (e_store (v := .agg #[iV (Fu.loOf (Fu.meet ((L.getD i default).Pos.Lo) ((L.getD i default).Pos.Hi) lo hi)), iV (Fu.hiOf (Fu.meet ((L.getD i default).Pos.Lo) ((L.getD i default).Pos.Hi) lo hi))]) 0 rfl rfl rfl sz42 rfl rfl rfl rfl rfl) (DW.q (v := .bool ((Fu.meet ((L.getD i default).Pos.Lo) ((L.getD i default).Pos.Hi) lo hi).isSome)) (fun _ h => (StP.drop h (by exact .cons _ (.cons_cons _ (.cons_cons _ ((List.Sublist.refl _))))))) rfl (q_assign rfl) ?_)
 refine g8 ?_
 refine AW.cond rfl (fun hc1 => ?_) fun hc1 => ?_
 ·
  refine g3 ?_
  refine RW.q (v := .pointer (some (Value.at v (i * 5 + 0)))) rfl (q_nilCheck rfl) (RW.effn (J' := St B Φ ((.blk b2 42 [iV (Fu.loOf (Fu.meet ((L.getD i default).Pos.Lo) ((L.getD i default).Pos.Hi) lo hi)), iV (Fu.hiOf (Fu.meet ((L.getD i default).Pos.Lo) ((L.getD i default).Pos.Hi) lo hi))]) :: (.blk b1 42 [iV lo, iV hi]) :: (.row v 79 5 n (flat (L.set i (⟨⟨Fu.loOf (Fu.meet ((L.getD i default).Pos.Lo) ((L.getD i default).Pos.Hi) lo hi), Fu.hiOf (Fu.meet ((L.getD i default).Pos.Lo) ((L.getD i default).Pos.Hi) lo hi)⟩, (L.getD i default).Target, ⟨(L.getD i default).Open.Lo, (L.getD i default).Open.Hi⟩⟩ : Bt.Known)))) :: C)) (e_storeRow (v := .agg #[iV (Fu.loOf (Fu.meet ((L.getD i default).Pos.Lo) ((L.getD i default).Pos.Hi) lo hi)), iV (Fu.hiOf (Fu.meet ((L.getD i default).Pos.Lo) ((L.getD i default).Pos.Hi) lo hi))]) 2 rfl rfl rfl sz42 rfl rfl (by rw [flat_len even79]; simp [Rep.sz]; omega) (splice_P even79 (k := i) (off := 0) (x := (⟨⟨Fu.loOf (Fu.meet ((L.getD i default).Pos.Lo) ((L.getD i default).Pos.Hi) lo hi), Fu.hiOf (Fu.meet ((L.getD i default).Pos.Lo) ((L.getD i default).Pos.Hi) lo hi)⟩, (L.getD i default).Target, ⟨(L.getD i default).Open.Lo, (L.getD i default).Open.Hi⟩⟩ : Bt.Known)) (by first | omega | (simp; omega)) rfl (Nat.le_of_ble_eq_true rfl)) rfl) ?_)
  refine g9 ?_
  refine fin_out1 rfl rfl rfl (fun w' hw => ⟨(), rfl, ?_⟩)
  unfold Fu.narL
  obtain ⟨z, hz⟩ := Option.isSome_iff_exists.1 hc1
  rw [hz] at hw ⊢
  exact StP.drop hw (by exact .cons _ (.cons _ (.cons_cons _ ((List.Sublist.refl _)))))
 ·
  refine g9 ?_
  refine fin_out1 rfl rfl rfl (fun w' hw => ⟨(), rfl, ?_⟩)
  unfold Fu.narL
  rw [show Fu.meet (L.getD i default).Pos.Lo (L.getD i default).Pos.Hi lo hi = none by simpa using hc1]
  exact StP.drop hw (by exact .cons _ (.cons _ (.cons_cons _ ((List.Sublist.refl _)))))
theorem Compact_c {B : Bs} {Φ : Hp} {C : List Chunk} (hBE : B.E = []) {v : Value} {n : Nat} {L : List Int} (hv : IsSl v n) (hL : L.length = n) (hn : n ≤ 1000000) (w : World) (hW : (St B Φ (.row v 3 1 n (L.map (Value.int .i64)) :: C)).p w) :
  Calls Try.prog 44 #[v] w fun e w' => ∃ x : {r : Value // IsSl r (Fu.comp L).length}, e = .returned (x.1) ∧ (St B Φ (.row x.1 3 1 (Fu.comp L).length ((Fu.comp L).map (Value.int .i64)) :: C)).p w' := by
 refine calls_of_AW (args := [v]) Try.func44 rfl (Nat.le_of_ble_eq_true rfl) (St B Φ ((.row v 3 1 n (L.map (Value.int .i64))) :: C)) hW ?_
 show AW Try.prog 61 [] _ _ _ [(0, v)] _
 refine g13 ?_
 refine AW.cond rfl (fun hc1 => ?_) fun hc1 => ?_
 ·
  simp [-List.getD_eq_getElem?_getD] at hc1
  refine g8 ?_
  have hcp : Fu.comp L = L := by have h9 := Fu.comp_id (L := L) (k := L.length) (Nat.le_refl _) (fun j h1 h2 => by omega); rwa [List.take_length] at h9
  refine fin_out1 rfl rfl rfl (fun w' hw => ⟨⟨v, by rw [hcp, hL]; exact hv⟩, rfl, ?_⟩)
  show (St B Φ (.row v 3 1 (Fu.comp L).length ((Fu.comp L).map (Value.int .i64)) :: C)).p w'
  rw [hcp, hL]
  exact hw
 ·
  simp [-List.getD_eq_getElem?_getD] at hc1
  refine g9 ?_
  refine AW.loop (fun s J m => ∃ (k : Nat), s = [(0, v), (3, iV (k : Int))] ∧ J = St B Φ ((.row v 3 1 n (L.map (Value.int .i64))) :: C) ∧ m = n - k ∧ (1 ≤ k) ∧ (k ≤ n) ∧ (∀ j, 1 ≤ j → j < k → L.getD j 0 ≠ L.getD (j - 1) 0)) (s0 := _) (J1 := _) (m0 := _) ⟨1, rfl, rfl, rfl, (by omega), (by omega), (fun j h1 h2 => by omega)⟩ ⟨rfl, rfl, trivial⟩ (fun _ h => h) ?_
  rintro _ _ _ _ ⟨k, rfl, rfl, rfl, hk1, hkn, hne⟩
  refine g9 ?_
  refine AW.cond rfl (fun hc2 => ?_) fun hc2 => ?_
  ·
   simp [-List.getD_eq_getElem?_getD] at hc2
   refine g5 ?_
   refine AW.draw (J0 := St B Φ ((.row v 3 1 n (L.map (Value.int .i64))) :: C)) [.q, .q, .q, .q, .q, .q, .q, .q, .q, .q] [0, 1, 2, 3, 4, 5, 6, 7, 8, 9] hmix (by kernel_rfl) ?_
   refine g2 ?_
   refine DW.q (v := .pointer (some (Value.at v (k * 1)))) (fun _ h => h) rfl (q_indexAddr rfl rfl hv uT29 sz3 (by omega) (by omega) rfl) (DW.q (v := iV ((L).getD k 0)) (fun _ h => h) rfl (q_load rfl uT3 rfl (Cell.rowInt 0 rfl (by omega))) ?_)
   refine g2 ?_
   refine DW.q (v := iV (((k - 1) : Nat) : Int)) (fun _ h => h) rfl (q_as (v := iV ((k : Int) - 1)) (q_sub rfl rfl (by omega) (by unfold I64; omega)) (congrArg (Value.int .i64) (by omega))) (DW.q (v := .pointer (some (Value.at v ((k - 1) * 1)))) (fun _ h => h) rfl (q_indexAddr rfl rfl hv uT29 sz3 (by omega) (by omega) rfl) (DW.q (v := iV ((L).getD (k - 1) 0)) (fun _ h => h) rfl (q_load rfl uT3 rfl (Cell.rowInt 0 rfl (by omega))) ?_))
   refine g3 ?_
   refine AW.cond rfl (fun hc3 => ?_) fun hc3 => ?_
   ·
    simp [-List.getD_eq_getElem?_getD] at hc3
    refine g4 ?_
    refine RW.q (v := (subSl v k n 1)) rfl (q_sliceL (v := v) (l := (k : Int)) rfl rfl hv uT29 sz3 (by omega) (by omega)) ?_
    refine g10 ?_
    refine AW.loop (fun s J m => ∃ (c : Nat), ∃ (d : Nat), ∃ (K : List Int), s = [(0, v), (4, (subSl v k n 1)), (3, iV (c : Int)), (5, iV (d : Int))] ∧ J = St B Φ ((.row v 3 1 n (K.map (Value.int .i64))) :: C) ∧ m = n - d ∧ (1 ≤ d) ∧ (k + d ≤ n) ∧ (k ≤ c) ∧ (Fu.CmI L K c (k + d))) (s0 := _) (J1 := _) (m0 := _) ⟨k, 1, _, rfl, rfl, rfl, (by omega), (by omega), (by omega), (Fu.CmI.start (by omega) (by omega) hc3 hne)⟩ ⟨rfl, rfl, rfl, rfl, trivial⟩ (fun _ h => h) ?_
    rintro _ _ _ _ ⟨c, d, K, rfl, rfl, rfl, hd1, hdn, hck, hI⟩
    refine g5 ?_
    refine RW.q (v := iV (((n - k) : Nat) : Int)) rfl (q_len_sl rfl (isSl_sub hv (by omega) (by omega)) uT29) ?_
    refine g3 ?_
    refine AW.cond rfl (fun hc4 => ?_) fun hc4 => ?_
    ·
     simp [-List.getD_eq_getElem?_getD] at hc4
     refine g5 ?_
     have hKl := hI.len
     have hkp := hI.kp
     have hg1 : K.getD (k + d) 0 = L.getD (k + d) 0 := hI.post (k + d) (by omega) (by omega)
     have hg2 : K.getD (k + (d - 1)) 0 = L.getD (k + d - 1) 0 := by rw [show k + (d - 1) = k + d - 1 by omega]; exact hI.post (k + d - 1) (by omega) (by omega)
     refine AW.draw (J0 := St B Φ ((.row v 3 1 n (K.map (Value.int .i64))) :: C)) [.q, .q, .q, .q, .q, .q, .q, .q, .q, .q] [0, 1, 2, 3, 4, 5, 6, 7, 8, 9] hmix (by kernel_rfl) ?_
     refine g2 ?_
     refine DW.q (v := .pointer (some (Value.at v ((k + d) * 1)))) (fun _ h => h) rfl (q_indexAddr (v := (subSl v k n 1)) rfl rfl (isSl_sub hv (by omega) (by omega)) uT29 sz3 (by omega) (by omega) (by rw [at_sub (l := k) (m := n) hv (by omega) (by omega)]; exact congrArg (Value.at _) (by omega))) (DW.q (v := iV ((K).getD (k + d) 0)) (fun _ h => h) rfl (q_load rfl uT3 rfl (Cell.rowInt 0 rfl (by omega))) ?_)
     refine g2 ?_
     refine DW.q (v := iV (((d - 1) : Nat) : Int)) (fun _ h => h) rfl (q_as (v := iV ((d : Int) - 1)) (q_sub rfl rfl (by omega) (by unfold I64; omega)) (congrArg (Value.int .i64) (by omega))) (DW.q (v := .pointer (some (Value.at v ((k + (d - 1)) * 1)))) (fun _ h => h) rfl (q_indexAddr (v := (subSl v k n 1)) rfl rfl (isSl_sub hv (by omega) (by omega)) uT29 sz3 (by omega) (by omega) (by rw [at_sub (l := k) (m := n) hv (by omega) (by omega)]; exact congrArg (Value.at _) (by omega))) (DW.q (v := iV ((K).getD (k + (d - 1)) 0)) (fun _ h => h) rfl (q_load rfl uT3 rfl (Cell.rowInt 0 rfl (by omega))) ?_))
     refine g3 ?_
     refine AW.cond rfl (fun hc5 => ?_) fun hc5 => ?_
     ·
      simp [-List.getD_eq_getElem?_getD] at hc5
      refine g1 ?_
      have hne2 : L.getD (k + d) 0 ≠ L.getD (k + d - 1) 0 := by rw [← hg1, ← hg2]; exact hc5
      refine g5 ?_
      refine RW.q (v := .pointer (some (Value.at v ((k + d) * 1)))) rfl (q_indexAddr (v := (subSl v k n 1)) rfl rfl (isSl_sub hv (by omega) (by omega)) uT29 sz3 (by omega) (by omega) (by rw [at_sub (l := k) (m := n) hv (by omega) (by omega)]; exact congrArg (Value.at _) (by omega))) (RW.q (v := iV ((K).getD (k + d) 0)) rfl (q_load rfl uT3 rfl (Cell.rowInt 0 rfl (by omega))) (RW.q (v := .pointer (some (Value.at v (c * 1)))) rfl (q_indexAddr rfl rfl hv uT29 sz3 (by omega) (by omega) rfl) (RW.effn (J' := St B Φ ((.row v 3 1 n ((K.set c ((K).getD (k + d) 0)).map (Value.int .i64))) :: C)) (e_storeRow (v := iV ((K).getD (k + d) 0)) 0 rfl rfl rfl sz3 rfl rfl (by simp [-List.getD_eq_getElem?_getD]; omega) (splice_int (by omega)) rfl) ?_)))
      refine g9 ?_
      have hkd : True := trivial
      refine g5 ?_
      exact Post.back (s' := _) (J' := _) (m' := _) (by omega) ⟨c + 1, d + 1, _, rfl, rfl, rfl, (by omega), (by omega), (by omega), (by have h9 := hI.put (by omega) hne2; rw [hg1]; exact h9)⟩ ⟨rfl, rfl, rfl, rfl, trivial⟩ (fun _ h => h)
     ·
      simp [-List.getD_eq_getElem?_getD] at hc5
      refine g3 ?_
      have hkd : True := trivial
      refine g5 ?_
      have heq2 : L.getD (k + d) 0 = L.getD (k + d - 1) 0 := by rw [← hg1, ← hg2]; exact hc5
      exact Post.back (s' := _) (J' := _) (m' := _) (by omega) ⟨c, d + 1, _, rfl, rfl, rfl, (by omega), (by omega), (by omega), (hI.keep (by omega) heq2)⟩ ⟨rfl, rfl, rfl, rfl, trivial⟩ (fun _ h => h)
    ·
     simp [-List.getD_eq_getElem?_getD] at hc4
     refine g6 ?_
     have hKl := hI.len
     have hkp := hI.kp
     refine g3 ?_
     refine RW.q (v := (subSl v c n 1)) rfl (q_sliceL (v := v) (l := (c : Int)) rfl rfl hv uT29 sz3 (by omega) (by omega)) (RW.effn (J' := St B Φ ((.row v 3 1 n ((K.take c ++ List.replicate (n - c) 0).map (Value.int .i64))) :: C)) (e_clearI (u := v) (n := n) (k := c) (xs := K) 0 rfl rfl uT29 inf3 (by omega) (by omega) rfl) ?_)
     refine g6 ?_
     refine RW.q (v := (subSl v 0 c 1)) rfl (q_sliceH (v := v) (m := (c : Int)) rfl rfl hv uT29 sz3 (by omega) (by omega)) ?_
     refine g9 ?_
     have hcl : (Fu.comp L).length = c := by have h9 := hI.kl; rw [List.take_of_length_le (by omega)] at h9; exact h9.symm
     have hcp : K.take c = Fu.comp L := by have h9 := hI.pre; rw [List.take_of_length_le (l := L) (by omega)] at h9; exact h9
     refine fin_out1 rfl rfl rfl (fun w' hw => ⟨⟨subSl v 0 c 1, by rw [hcl]; exact isSl_sub hv (Nat.zero_le _) (by omega)⟩, rfl, ?_⟩)
     show (St B Φ (.row (subSl v 0 c 1) 3 1 (Fu.comp L).length ((Fu.comp L).map (Value.int .i64)) :: C)).p w'
     rw [hcl, ← hcp]
     have h9 := StP.rowTake (k := c) hw (by omega)
     rw [Nat.mul_one, ← List.map_take, List.take_append_of_le_length (by rw [List.length_take]; omega), List.take_take, Nat.min_self] at h9
     exact h9
   ·
    simp [-List.getD_eq_getElem?_getD] at hc3
    refine g8 ?_
    exact Post.back (s' := _) (J' := _) (m' := _) (by omega) ⟨k + 1, rfl, rfl, rfl, (by omega), (by omega), (fun j h1 h2 => by rcases Nat.lt_or_eq_of_le (Nat.lt_succ_iff.1 h2) with h3 | h3; exact hne j h1 h3; subst h3; exact hc3)⟩ ⟨rfl, rfl, trivial⟩ (fun _ h => h)
  ·
   simp [-List.getD_eq_getElem?_getD] at hc2
   refine g12 ?_
   have hcp : Fu.comp L = L := by have h9 := Fu.comp_id (L := L) (k := L.length) (Nat.le_refl _) (fun j h1 h2 => hne j h1 (by omega)); rwa [List.take_length] at h9
   refine fin_out1 rfl rfl rfl (fun w' hw => ⟨⟨v, by rw [hcp, hL]; exact hv⟩, rfl, ?_⟩)
   show (St B Φ (.row v 3 1 (Fu.comp L).length ((Fu.comp L).map (Value.int .i64)) :: C)).p w'
   rw [hcp, hL]
   exact hw
end Go.Proofs.Ytblfeidlnhdekaa
