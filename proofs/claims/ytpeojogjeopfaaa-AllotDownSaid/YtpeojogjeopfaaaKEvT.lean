/- Lemmas. Conditions: those of each theorem. -/
import Derived.Test.YtpeojogjeopfaaaKWalkBf
import Derived.Test.YtpeojogjeopfaaaKCore11
import Derived.Shelf.Lay
import Derived.Ground.SlsfProg
import Derived.Ground.NamesProg
import Derived.Test.YtpeojogjeopfaaaKEvN
set_option maxRecDepth 8000
set_option maxHeartbeats 16000000
namespace Go.Proofs.Ytpeojogjeopfaaa
open Go Go.K Go.RowKit
theorem right_rb {b : Bt.Basin} (h : rightB b = true) : Ad.RB b := by
 simp only [rightB, Bool.and_eq_true, decide_eq_true_eq] at h
 obtain ⟨⟨⟨⟨⟨⟨⟨⟨hh, _⟩, hp⟩, hl⟩, _⟩, _⟩, _⟩, _⟩, _⟩ := h
 have h1 := hh.1
 simp only [headBad, Bool.or_eq_false_iff, decide_eq_false_iff_not, Bool.not_eq_false', decide_eq_true_eq] at h1
 refine ⟨by omega, by omega, fun i hi => ?_, fun i hi => ?_, fun i hi => ?_⟩
 ·
  have h2 := (hp.1 i hi).1
  simp only [placeBad, Bool.or_eq_false_iff, Bool.not_eq_false', decide_eq_true_eq] at h2
  omega
 ·
  have h2 := hl i hi
  simp only [linkBad, Bool.or_eq_false_iff, Bool.not_eq_false', decide_eq_true_eq] at h2
  omega
 ·
  have h2 := hl i hi
  simp only [linkBad, Bool.or_eq_false_iff, Bool.not_eq_false', decide_eq_true_eq] at h2
  omega
end Go.Proofs.Ytpeojogjeopfaaa
namespace Se
open Go.Sort Go.Proofs
theorem ltOf_iff {α : Type} (cf : α → α → Int) (x y : α) : ltOf cf x y = true ↔ cf x y < 0 := by simp [ltOf]
theorem ltOf_not {α : Type} (cf : α → α → Int) (x y : α) : ltOf cf x y = false ↔ ¬ cf x y < 0 := by simp [ltOf]
theorem swo_of {α : Type} {cf : α → α → Int} (hi : ∀ x, ¬ cf x x < 0) (ht : ∀ x y z, cf x y < 0 → cf y z < 0 → cf x z < 0) (hn : ∀ x y z, ¬ cf x y < 0 → ¬ cf y z < 0 → ¬ cf x z < 0) : SWO (ltOf cf) where
  irrefl := fun x => (ltOf_not cf x x).2 (hi x)
  trans := fun x y z h k => (ltOf_iff cf x z).2 (ht x y z ((ltOf_iff cf x y).1 h) ((ltOf_iff cf y z).1 k))
  ntrans := fun x y z h k => (ltOf_not cf x z).2 (hn x y z ((ltOf_not cf x y).1 h) ((ltOf_not cf y z).1 k))
theorem swoA : SWO (ltOf cA) := swo_of (fun x => by rw [cA_iff]; unfold ltA; omega) (fun x y z => by simp only [cA_iff]; unfold ltA; omega) (fun x y z => by simp only [cA_iff]; unfold ltA; omega)
end Se
namespace Go.Proofs
open Go.Shelf Go.RowKit Go.Lib Go.Sort
shelf_lay_g SlLaysF0.n6 Slsf 6 at Try 46 as Try.sortA
end Go.Proofs
namespace Go.Proofs.Ytpeojogjeopfaaa
open Go Go.K Go.RowKit Go.Sort Go.Proofs
theorem sortA_c {B : Bs} {Φ : Hp} {C : List Chunk} {v : Value} {n : Nat} {L : List Gr.Arc} (hL : L.length = n) (hn : n ≤ 1000000) (w : World) (hW : (St B Φ (.row v 73 2 n (flat L) :: C)).p w) :
    Calls pg 46 #[v, .func (.func 47) #[] #[]] w fun e w' => ∃ d : {d : List Gr.Arc // d.Perm L ∧ d.Pairwise (fun x y => ltOf Se.cA y x = false)}, e = .returned (.tuple #[]) ∧ (St B Φ (.row v 73 2 n (flat d.1) :: C)).p w' := by
  have hs : RowS (hp w) v 73 2 n (flat L) := hW.sat _ (List.mem_cons_self ..)
  rcases hs.2 with ⟨rfl, h0⟩ | ⟨g, cap, cur, rfl, h2, h3, h4, h5, h6⟩
  · subst h0
    obtain rfl : L = [] := List.length_eq_zero_iff.1 hL
    have h := AnyF.slices_SortFunc_none Try.sortA none 0 (.func (.func 47) #[] #[]) w
    change Calls pg 46 _ _ _ at h
    exact h.mono fun e w' ⟨he, hw⟩ => ⟨⟨[], List.Perm.refl _, List.Pairwise.nil⟩, he, by rw [hw]; exact hW⟩
  · have eg : ∀ args w, (callFunc 47 args).run pg w = .ok (.enter 47 args) w := enters_of Try.func47 (by kernel_rfl) rfl
    have hb : g < w.heap.size := lt_of_some h2
    have hH := holdsK_row (α := Gr.Arc) even73 hL hs
    have h := AnyQ.slices_SortFunc Try.sortA 2 Try.isAgg73 Try.sizeOf73 (RepE.cells (α := Gr.Arc)) even73 (fun x u hu => by
      simp only [RepE.cells, List.mem_cons, List.not_mem_nil, or_false] at hu
      rcases hu with rfl | rfl <;> rfl) Se.cA Se.swoA 47 #[] g 0 cap L.toArray w eg (cmpLays_of fun W x y => cmpA_c W (hp W) (Hp.le_refl _)) hH hb (by rw [List.size_toArray]; omega)
    change Calls pg 46 _ _ _ at h
    rw [List.size_toArray, hL] at h
    refine h.mono fun e w' ⟨he, d', m, os, hp', hs', hw⟩ => ?_
    have hds : d'.size = n := by rw [hp'.1, List.size_toArray, hL]
    refine ⟨⟨d'.toList, perm_of_permIn (by rw [List.size_toArray, hL]; exact hp'), pairwise_of_sortedIn (by rw [hds]; exact hs')⟩, he, ?_⟩
    rw [hw]
    exact StP.sorted even73 hW 0 rfl hds
end Go.Proofs.Ytpeojogjeopfaaa
namespace Go.Proofs.Ytpeojogjeopfaaa
open Go Go.K Go.RowKit
theorem Arcs_c (w : World) (Φ : Hp) (hΦ : Hp.le Φ (hp w)) {b : Bt.Basin} {cs : List Value} (hB : RepV Φ b cs) (hb : Ad.RB b) :
  Calls pg 25 #[.agg cs.toArray] w (RetS noHp w fun r Ψ => ∃ L, RepSl Ψ L r ∧ L.length ≤ (Ad.arcs b).length ∧ ∀ a, a ∈ L ↔ a ∈ Ad.arcs b) := by
 obtain ⟨v1, v3, v4, v5, v6, v7, v8, v9, hcs, hBw, r1, r3, r4, r5, r6, r7, r8, r9⟩ := (show Rep.rep Φ b cs from hB)
 subst hcs
 have hpm : b.Places.length * 152 ≤ 140737488355328 := r3.max
 refine calls_of_AW (args := [.agg (cl31 b v1 v3 v4 v5 v6 v7 v8 v9).toArray]) Try.func25 rfl (lBT rfl) (St ⟨w, Φ, []⟩ Φ []) (StP.init w Φ hΦ []) ?_
 show AW pg 51 [] _ _ _ [(0, .agg (cl31 b v1 v3 v4 v5 v6 v7 v8 v9).toArray)] _
 have hpl := hb.np
 have hll := hb.nl
 have hm4 : b.Links.length * 200 ≤ 140737488355328 := r4.max
 refine AW.seq (AW.region (RW.eff (fun b1 : Nat => pV b1 0) (fun b1 => St ⟨w, Φ, []⟩ Φ [.blk b1 31 (cl31 b v1 v3 v4 v5 v6 v7 v8 v9)]) rfl (e_boxA (cs := cl31 b v1 v3 v4 v5 v6 v7 v8 v9) rfl) ?_))
 intro b1
 refine RW.q (v := nS) rfl (q_assign rfl) (RW.nil (Post.then_n (AW.seq (AW.region (RW.eff (fun b2 : Nat => pV b2 0) (fun b2 => St ⟨w, Φ, []⟩ Φ [.blk b2 57 [nS], .blk b1 31 (cl31 b v1 v3 v4 v5 v6 v7 v8 v9)]) rfl (e_alloc zero57) ?_)))))
 intro b2
 refine RW.nil (Post.then_n (AW.seq (AW.region (RW.q (v := .func (.func 45) #[] #[pV b2 0]) rfl (q_makeFunc rfl rfl) (RW.q (v := .func (.func 45) #[] #[pV b2 0]) rfl (q_assign rfl) (RW.nil (Post.then_n (AW.seq (AW.seq ?_)))))))))
 refine AW.region (RW.q (v := pV b1 3) rfl (q_fieldAddr rfl uT31 rfl sz23 rfl) (RW.q (v := v3) rfl (q_load rfl uT23 rfl (Cell.blk 1 rfl rfl)) (RW.q (v := iV (b.Places.length : Int)) rfl (q_len_sl rfl r3.sl uT23) (RW.q rfl (q_move rfl) (RW.nil (Post.then_n (AW.block (AW.loop (fun s J m => ∃ (k : Nat), ∃ (lv : Value), s = [(1, pV b1 0), (3, pV b2 0), (4, .func (.func 45) #[] #[pV b2 0]), (11, v3), (12, iV (b.Places.length : Int)), (13, iV (k : Int))] ∧ J = St ⟨w, Φ, []⟩ Φ [.blk b2 57 [lv], .row lv 73 2 ((Ad.aP b.Places k).length) (flat (Ad.aP b.Places k)), .blk b1 31 (cl31 b v1 v3 v4 v5 v6 v7 v8 v9)] ∧ m = b.Places.length - k ∧ (k ≤ b.Places.length) ∧ (IsSl lv (Ad.aP b.Places k).length)) (s0 := _) (J1 := _) (m0 := _) ⟨0, nS, rfl, rfl, rfl, (by omega), isSl_nil⟩ ⟨rfl, rfl, rfl, rfl, rfl, rfl, trivial⟩ (fun _ h => StP.sel (addNil h) [1, 0, 2] (by decide) rfl) ?_))))))))
 rintro _ _ _ _ ⟨k, lv, rfl, rfl, rfl, hk, hlv⟩
 refine AW.seq (AW.region (RW.q (v := .bool (decide ((k : Int) < (b.Places.length : Int)))) rfl (q_lss rfl rfl) (RW.nil (Post.then_n (AW.seq (AW.cond (b := decide ((k : Int) < (b.Places.length : Int))) rfl (fun hc1 => ?_) (fun hc1 => ?_)))))))
 ·
  simp [-List.getD_eq_getElem?_getD] at hc1
  refine AW.skip (Post.then_n (AW.seq (AW.block (AW.seq ?_))))
  have hap := Ad.aP_len b.Places k
  refine AW.region (RW.q rfl (q_move rfl) (RW.q (v := .pointer (some (Value.at v3 (k * 12)))) rfl (q_indexAddr rfl rfl r3.sl uT23 sz62 (by omega) (by omega) rfl) ?_))
  obtain ⟨cv1, hcr1, hcc1⟩ := RepSl.whole (k := k) r3 (by omega)
  obtain ⟨sv1, sv2, sv3, hcE1, hcw1, hsv1, hsv2, hsv3⟩ := (show Rep.rep _ _ _ from hcr1)
  subst hcE1
  refine RW.q (v := .agg (cl62 (b.Places.getD k default) sv1 sv2 sv3).toArray) rfl (q_loadAgg rfl uT62 rfl sz62 rfl (Cells.phiK hcc1)) (RW.eff (fun b3 : Nat => pV b3 0) (fun b3 => St ⟨w, Φ, []⟩ Φ [.blk b3 62 [.string (bs ([])), iV 0, iV 0, iV 0, nS, nS, iV 0, iV 0, iV 0, iV 0, iV 0, nS], .blk b2 57 [lv], .row lv 73 2 ((Ad.aP b.Places k).length) (flat (Ad.aP b.Places k)), .blk b1 31 (cl31 b v1 v3 v4 v5 v6 v7 v8 v9)]) rfl (e_alloc zero62) ?_)
  intro b3
  refine RW.q (v := iV (k : Int)) rfl (q_assign rfl) (RW.effn (J' := St ⟨w, Φ, []⟩ Φ [.blk b3 62 (cl62 (b.Places.getD k default) sv1 sv2 sv3), .blk b2 57 [lv], .row lv 73 2 ((Ad.aP b.Places k).length) (flat (Ad.aP b.Places k)), .blk b1 31 (cl31 b v1 v3 v4 v5 v6 v7 v8 v9)]) (e_store (v := .agg (cl62 (b.Places.getD k default) sv1 sv2 sv3).toArray) 0 rfl rfl rfl sz62 rfl (List.all_eq_true.2 (fun u hu => Rep.one (show Rep.rep _ _ _ from hcr1) u hu)) rfl rfl rfl) (RW.nil (Post.then_n (AW.region (RW.q rfl (q_move rfl) (RW.q rfl (q_move rfl) (RW.q (v := pV b3 8) rfl (q_fieldAddr rfl uT62 rfl sz3 rfl) (RW.q (v := iV ((b.Places.getD k default).Down)) rfl (q_load rfl uT3 rfl (Cell.blk 0 rfl rfl)) (RW.eff (fun x : {v : Value // IsSl v (Ad.addA (Ad.aP b.Places k) (k : Int) ((b.Places.getD k default).Down)).length} => .tuple #[]) (fun x => St ⟨w, Φ, []⟩ Φ [.blk b2 57 [x.1], .row x.1 73 2 ((Ad.addA (Ad.aP b.Places k) (k : Int) ((b.Places.getD k default).Down)).length) (flat (Ad.addA (Ad.aP b.Places k) (k : Int) ((b.Places.getD k default).Down))), .blk b3 62 (cl62 (b.Places.getD k default) sv1 sv2 sv3), .blk b1 31 (cl31 b v1 v3 v4 v5 v6 v7 v8 v9)]) rfl (e_call (args := #[iV (k : Int), iV ((b.Places.getD k default).Down), pV b2 0]) oK rfl rfl (fun w1 hw1 => add_c (C := [.blk b3 62 (cl62 (b.Places.getD k default) sv1 sv2 sv3), .blk b1 31 (cl31 b v1 v3 v4 v5 v6 v7 v8 v9)]) (by unfold I64; omega) (by have h9 := hcw1; unfold I64 at h9 ⊢; omega) hlv (by omega) w1 (StP.sel hw1 [1, 2, 0, 3] (by decide) rfl))) ?_)))))))))
  rintro ⟨av1, hav1⟩
  refine RW.nil (Post.blk_n (Post.then_n ?_))
  refine AW.region (RW.q (v := iV ((k + 1 : Nat) : Int)) rfl (q_add rfl rfl (by omega) (by unfold I64; omega)) (RW.q rfl (q_move rfl) (RW.nil ?_)))
  have hst : Ad.aP b.Places (k + 1) = Ad.addA (Ad.aP b.Places k) (k : Int) ((b.Places.getD k default).Down) := rfl
  exact Post.back (s' := _) (J' := _) (m' := _) (by omega) ⟨k + 1, av1, rfl, rfl, rfl, (by omega), (by rw [hst]; exact hav1)⟩ ⟨rfl, rfl, rfl, rfl, rfl, rfl, trivial⟩ (fun _ h => by rw [hst]; exact StP.drop h (by exact .cons_cons _ (.cons_cons _ (.cons _ (.cons_cons _ (.slnil))))))
 ·
  simp [-List.getD_eq_getElem?_getD] at hc1
  refine AW.exit (Post.then_x (Post.then_x (Post.blk_hit (Post.then_n ?_))))
  refine AW.seq (AW.seq (AW.region (RW.q (v := pV b1 4) rfl (q_fieldAddr rfl uT31 rfl sz24 rfl) (RW.q (v := v4) rfl (q_load rfl uT24 rfl (Cell.blk 2 rfl rfl)) (RW.q (v := iV (b.Links.length : Int)) rfl (q_len_sl rfl r4.sl uT24) (RW.q rfl (q_move rfl) (RW.nil (Post.then_n (AW.block ?_)))))))))
  have hke : k = b.Places.length := by omega
  subst hke
  refine AW.loop (fun s J m => ∃ (k : Nat), ∃ (lv : Value), s = [(1, pV b1 0), (3, pV b2 0), (4, .func (.func 45) #[] #[pV b2 0]), (25, v4), (26, iV (b.Links.length : Int)), (27, iV (k : Int))] ∧ J = St ⟨w, Φ, []⟩ Φ [.blk b2 57 [lv], .row lv 73 2 ((Ad.aL b k).length) (flat (Ad.aL b k)), .blk b1 31 (cl31 b v1 v3 v4 v5 v6 v7 v8 v9)] ∧ m = b.Links.length - k ∧ (k ≤ b.Links.length) ∧ (IsSl lv (Ad.aL b k).length)) (s0 := _) (J1 := _) (m0 := _) ⟨0, lv, rfl, rfl, rfl, (by omega), hlv⟩ ⟨rfl, rfl, rfl, rfl, rfl, rfl, trivial⟩ (fun _ h => h) ?_
  rintro _ _ _ _ ⟨k, lv, rfl, rfl, rfl, hk, hlv⟩
  refine AW.seq (AW.region (RW.q (v := .bool (decide ((k : Int) < (b.Links.length : Int)))) rfl (q_lss rfl rfl) (RW.nil (Post.then_n (AW.seq (AW.cond (b := decide ((k : Int) < (b.Links.length : Int))) rfl (fun hc2 => ?_) (fun hc2 => ?_)))))))
  ·
   simp [-List.getD_eq_getElem?_getD] at hc2
   refine AW.skip (Post.then_n (AW.seq (AW.block (AW.seq ?_))))
   have hal := Ad.aL_len b k
   have hal1 := Ad.addA_len (Ad.aL b k) (b.Links.getD k default).From (b.Links.getD k default).To
   refine AW.region (RW.q (v := .pointer (some (Value.at v4 (k * 18)))) rfl (q_indexAddr rfl rfl r4.sl uT24 sz78 (by omega) (by omega) rfl) ?_)
   obtain ⟨cv2, hcr2, hcc2⟩ := RepSl.whole (k := k) r4 (by omega)
   obtain ⟨sv4, sv5, sv6, hcE2, hcw2, hsv4, hsv5, hsv6⟩ := (show Rep.rep _ _ _ from hcr2)
   subst hcE2
   refine RW.q (v := .agg (cl78 (b.Links.getD k default) sv4 sv5 sv6).toArray) rfl (q_loadAgg rfl uT78 rfl sz78 rfl (Cells.phiK hcc2)) (RW.eff (fun b4 : Nat => pV b4 0) (fun b4 => St ⟨w, Φ, []⟩ Φ [.blk b4 78 [.string (bs ([])), iV 0, iV 0, iV 0, nS, nS, nS, iV 0, iV 0, iV 0, iV 0, iV 0, iV 0, iV 0, iV 0, iV 0, iV 0, iV 0], .blk b2 57 [lv], .row lv 73 2 ((Ad.aL b k).length) (flat (Ad.aL b k)), .blk b1 31 (cl31 b v1 v3 v4 v5 v6 v7 v8 v9)]) rfl (e_alloc zero78) ?_)
   intro b4
   refine RW.effn (J' := St ⟨w, Φ, []⟩ Φ [.blk b4 78 (cl78 (b.Links.getD k default) sv4 sv5 sv6), .blk b2 57 [lv], .row lv 73 2 ((Ad.aL b k).length) (flat (Ad.aL b k)), .blk b1 31 (cl31 b v1 v3 v4 v5 v6 v7 v8 v9)]) (e_store (v := .agg (cl78 (b.Links.getD k default) sv4 sv5 sv6).toArray) 0 rfl rfl rfl sz78 rfl (List.all_eq_true.2 (fun u hu => Rep.one (show Rep.rep _ _ _ from hcr2) u hu)) rfl rfl rfl) (RW.nil (Post.then_n (AW.seq (AW.region (RW.q rfl (q_move rfl) (RW.q (v := pV b4 2) rfl (q_fieldAddr rfl uT78 rfl sz3 rfl) (RW.q (v := iV ((b.Links.getD k default).From)) rfl (q_load rfl uT3 rfl (Cell.blk 0 rfl rfl)) (RW.q (v := pV b4 3) rfl (q_fieldAddr rfl uT78 rfl sz3 rfl) (RW.q (v := iV ((b.Links.getD k default).To)) rfl (q_load rfl uT3 rfl (Cell.blk 0 rfl rfl)) ?_)))))))))
   refine RW.eff (fun x : {v : Value // IsSl v (Ad.addA (Ad.aL b k) ((b.Links.getD k default).From) ((b.Links.getD k default).To)).length} => .tuple #[]) (fun x => St ⟨w, Φ, []⟩ Φ [.blk b2 57 [x.1], .row x.1 73 2 ((Ad.addA (Ad.aL b k) ((b.Links.getD k default).From) ((b.Links.getD k default).To)).length) (flat (Ad.addA (Ad.aL b k) ((b.Links.getD k default).From) ((b.Links.getD k default).To))), .blk b4 78 (cl78 (b.Links.getD k default) sv4 sv5 sv6), .blk b1 31 (cl31 b v1 v3 v4 v5 v6 v7 v8 v9)]) rfl (e_call (args := #[iV ((b.Links.getD k default).From), iV ((b.Links.getD k default).To), pV b2 0]) oK rfl rfl (fun w1 hw1 => add_c (C := [.blk b4 78 (cl78 (b.Links.getD k default) sv4 sv5 sv6), .blk b1 31 (cl31 b v1 v3 v4 v5 v6 v7 v8 v9)]) (by have h9 := hcw2; unfold I64 at h9 ⊢; omega) (by have h9 := hcw2; unfold I64 at h9 ⊢; omega) hlv (by omega) w1 (StP.sel hw1 [1, 2, 0, 3] (by decide) rfl))) ?_
   rintro ⟨av2, hav2⟩
   refine RW.nil (Post.then_n (AW.seq (AW.region (RW.q (v := pV b4 1) rfl (q_fieldAddr rfl uT78 rfl sz3 rfl) (RW.q (v := iV ((b.Links.getD k default).Kind)) rfl (q_load rfl uT3 rfl (Cell.blk 2 rfl rfl)) (RW.q (v := .bool (decide ((b.Links.getD k default).Kind = 4))) rfl (q_eql rfl rfl) (RW.nil (Post.then_n (AW.cond (b := decide ((b.Links.getD k default).Kind = 4)) rfl (fun hc3 => ?_) (fun hc3 => ?_))))))))))
   ·
    simp [-List.getD_eq_getElem?_getD] at hc3
    refine AW.region (RW.q rfl (q_move rfl) (RW.q (v := pV b4 3) rfl (q_fieldAddr rfl uT78 rfl sz3 rfl) (RW.q (v := iV ((b.Links.getD k default).To)) rfl (q_load rfl uT3 rfl (Cell.blk 2 rfl rfl)) (RW.q (v := pV b4 2) rfl (q_fieldAddr rfl uT78 rfl sz3 rfl) (RW.q (v := iV ((b.Links.getD k default).From)) rfl (q_load rfl uT3 rfl (Cell.blk 2 rfl rfl)) (RW.eff (fun x : {v : Value // IsSl v (Ad.addA (Ad.addA (Ad.aL b k) ((b.Links.getD k default).From) ((b.Links.getD k default).To)) ((b.Links.getD k default).To) ((b.Links.getD k default).From)).length} => .tuple #[]) (fun x => St ⟨w, Φ, []⟩ Φ [.blk b2 57 [x.1], .row x.1 73 2 ((Ad.addA (Ad.addA (Ad.aL b k) ((b.Links.getD k default).From) ((b.Links.getD k default).To)) ((b.Links.getD k default).To) ((b.Links.getD k default).From)).length) (flat (Ad.addA (Ad.addA (Ad.aL b k) ((b.Links.getD k default).From) ((b.Links.getD k default).To)) ((b.Links.getD k default).To) ((b.Links.getD k default).From))), .blk b4 78 (cl78 (b.Links.getD k default) sv4 sv5 sv6), .blk b1 31 (cl31 b v1 v3 v4 v5 v6 v7 v8 v9)]) rfl (e_call (args := #[iV ((b.Links.getD k default).To), iV ((b.Links.getD k default).From), pV b2 0]) oK rfl rfl (fun w1 hw1 => add_c (C := [.blk b4 78 (cl78 (b.Links.getD k default) sv4 sv5 sv6), .blk b1 31 (cl31 b v1 v3 v4 v5 v6 v7 v8 v9)]) (by have h9 := hcw2; unfold I64 at h9 ⊢; omega) (by have h9 := hcw2; unfold I64 at h9 ⊢; omega) hav2 (by omega) w1 (StP.sel hw1 [0, 1, 2, 3] (by decide) rfl))) ?_))))))
    rintro ⟨av3, hav3⟩
    refine RW.nil (Post.blk_n (Post.then_n ?_))
    refine AW.region (RW.q (v := iV ((k + 1 : Nat) : Int)) rfl (q_add rfl rfl (by omega) (by unfold I64; omega)) (RW.q rfl (q_move rfl) (RW.nil ?_)))
    have hst : Ad.aL b (k + 1) = Ad.addA (Ad.addA (Ad.aL b k) ((b.Links.getD k default).From) ((b.Links.getD k default).To)) ((b.Links.getD k default).To) ((b.Links.getD k default).From) := (by show Ad.aLk (Ad.aL b k) (b.Links.getD k default) = _; unfold Ad.aLk; exact if_pos hc3)
    exact Post.back (s' := _) (J' := _) (m' := _) (by omega) ⟨k + 1, av3, rfl, rfl, rfl, (by omega), (by rw [hst]; exact hav3)⟩ ⟨rfl, rfl, rfl, rfl, rfl, rfl, trivial⟩ (fun _ h => by rw [hst]; exact StP.drop h (by exact .cons_cons _ (.cons_cons _ (.cons _ (.cons_cons _ (.slnil))))))
   ·
    simp [-List.getD_eq_getElem?_getD] at hc3
    refine AW.skip (Post.blk_n (Post.then_n ?_))
    refine AW.region (RW.q (v := iV ((k + 1 : Nat) : Int)) rfl (q_add rfl rfl (by omega) (by unfold I64; omega)) (RW.q rfl (q_move rfl) (RW.nil ?_)))
    have hst : Ad.aL b (k + 1) = Ad.addA (Ad.aL b k) ((b.Links.getD k default).From) ((b.Links.getD k default).To) := (by show Ad.aLk (Ad.aL b k) (b.Links.getD k default) = _; unfold Ad.aLk; exact if_neg hc3)
    exact Post.back (s' := _) (J' := _) (m' := _) (by omega) ⟨k + 1, av2, rfl, rfl, rfl, (by omega), (by rw [hst]; exact hav2)⟩ ⟨rfl, rfl, rfl, rfl, rfl, rfl, trivial⟩ (fun _ h => by rw [hst]; exact StP.drop h (by exact .cons_cons _ (.cons_cons _ (.cons _ (.cons_cons _ (.slnil))))))
  ·
   simp [-List.getD_eq_getElem?_getD] at hc2
   refine AW.exit (Post.then_x (Post.then_x (Post.blk_hit (Post.then_n ?_))))
   refine AW.seq ?_
   have hke : k = b.Links.length := by omega
   have hal := Ad.aL_len b k
   have hok := Ad.aL_ok hb k (by omega)
   have hae : Ad.arcs b = Ad.aL b k := by rw [hke]; rfl
   refine AW.region (RW.q (v := lv) rfl (q_load rfl uT57 rfl (Cell.blk 0 rfl rfl)) (RW.eff (fun x : {d : List Gr.Arc // d.Perm (Ad.aL b k) ∧ d.Pairwise (fun x y => Go.Proofs.ltOf Se.cA y x = false)} => .tuple #[]) (fun x => St ⟨w, Φ, []⟩ Φ [.row lv 73 2 ((Ad.aL b k).length) (flat x.1), .blk b2 57 [lv], .blk b1 31 (cl31 b v1 v3 v4 v5 v6 v7 v8 v9)]) rfl (e_call (args := #[lv, .func (.func 47) #[] #[]]) oK rfl rfl (fun w1 hw1 => sortA_c (C := [.blk b2 57 [lv], .blk b1 31 (cl31 b v1 v3 v4 v5 v6 v7 v8 v9)]) (L := Ad.aL b k) rfl (by omega) w1 (StP.sel hw1 [1, 0, 2] (by decide) rfl))) ?_))
   rintro ⟨dL1, hdp1, _⟩
   refine RW.nil (Post.then_n (AW.seq ?_))
   have hdl := hdp1.length_eq
   have hcl := Se.comp_le dL1
   have hal9 : (Ad.arcs b).length = (Ad.aL b k).length := by rw [hae]
   have hmem : ∀ a, a ∈ Se.comp dL1 ↔ a ∈ Ad.arcs b := fun a => by rw [Se.comp_iff, hdp1.mem_iff, hae]
   have hwf : ∀ x ∈ Se.comp dL1, RepE.wf x := fun x hx => by
    have h9 := hok x (by rw [← hae]; exact (hmem x).1 hx)
    show I64 x.From ∧ I64 x.To
    unfold I64; omega
   refine AW.region (RW.q (v := lv) rfl (q_load rfl uT57 rfl (Cell.blk 1 rfl rfl)) (RW.eff (fun x : {r : Value // IsSl r (Se.comp dL1).length} => x.1) (fun x => St ⟨w, Φ, []⟩ Φ [.row x.1 73 2 ((Se.comp dL1).length) (flat (Se.comp dL1)), .blk b2 57 [lv], .blk b1 31 (cl31 b v1 v3 v4 v5 v6 v7 v8 v9)]) rfl (e_call (args := #[lv]) oK rfl rfl (fun w1 hw1 => Compact_c (C := [.blk b2 57 [lv], .blk b1 31 (cl31 b v1 v3 v4 v5 v6 v7 v8 v9)]) rfl (L := dL1) hlv (by omega) (by omega) w1 (StP.sel hw1 [0, 1, 2] (by decide) rfl))) ?_))
   rintro ⟨cv3, hcv1⟩
   refine RW.q (v := cv3) rfl (q_assign rfl) (RW.nil (Post.then_n (AW.ret (fin_rep rfl rfl rfl (fun w' hw => ⟨_, RowS.repE even73 (l := Se.comp dL1) (row_ext hw 0 rfl) rfl (by show (Se.comp dL1).length * 16 ≤ _; simp only [maxSl]; omega) hwf, by show (Se.comp dL1).length ≤ (Ad.arcs b).length; omega, hmem⟩)))))
end Go.Proofs.Ytpeojogjeopfaaa
namespace Go.Proofs.Ytpeojogjeopfaaa
open Go Go.K Go.RowKit Go.K.Ev
noncomputable def eStr : KL pg 9 (List UInt8) := KL.of (Maps.string_keyed Try.underlying9) (fun l => .string (bs l)) (fun l => l.length ≤ maxLen) (fun h => bs_inj (by simpa using h)) fun a ha => ⟨_, WideMaps.keyOf_string_mk Try.underlying9 (by rw [bs_size]; exact ha)⟩
noncomputable def eInt : KL pg 3 Int := KL.of (Maps.int_keyed Try.underlying3) (Value.int .i64) I64 (fun h => by simpa using h) fun a ha => ⟨_, Maps.keyOf_int_mk Try.underlying3 (by unfold I64 at ha; simp [Lit.wf, IntKind.min, IntKind.max, IntKind.bits, IntKind.signed]; omega)⟩
noncomputable def mpP : Mp pg where
 ks := 9
 ki := 3
 LS := eStr
 LI := eInt
 hS := fun _ => rfl
 gS := fun _ h => h
 hI := fun _ => rfl
 gI := fun _ h => h
 ex := fun _ _ => none
 hex := fun _ _ _ h => by cases h
def isT : V → Bool
 | .e (.one (.c (.bool true))) => true
 | _ => false
theorem isT_ok {v : V} (h : isT v = true) : v = .e (.one (.c (.bool true))) := by
 unfold isT at h
 split at h
 ·
  rfl
 ·
  cases h
noncomputable def goS : Bool := match callE mpP (fun _ => none) noCl 3000 9 [] .nil 0 with
 | some x => isT x.1
 | none => false
theorem goS_ok : goS = true := by decide +kernel
theorem small_c (w : World) (Φ : Hp) (hΦ : Hp.le Φ (hp w)) : Calls pg 9 #[] w (fun e w' => e = .returned (.bool true) ∧ Bel w.heap.size w w') := by
 have h := goS_ok
 unfold goS at h
 split at h
 rotate_left
 ·
  cases h
 rename_i x hx
 refine (ev_ret (callE_sound hmix noCl_ok 3000) hx (xs := []) hΦ (ρ := fun _ => none) (fun g o e => by cases e) rfl CR.nil (fun o ho => rfl) (T := fun v _ => v = .bool true) (fun ρ' Ψ v hF hv => ?_) (fun v Ψ Ψ' hl hT => hT)).2.mono fun e w' hh => ?_
 ·
  rw [isT_ok h] at hv
  exact (sJ hv).symm
 ·
  obtain ⟨v, rfl, hbel, rfl⟩ := hh
  exact ⟨rfl, hbel⟩
end Go.Proofs.Ytpeojogjeopfaaa
