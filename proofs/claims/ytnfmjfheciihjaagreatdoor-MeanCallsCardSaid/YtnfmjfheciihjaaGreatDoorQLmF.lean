/- Calls of a function that calls itself. Conditions: those of each theorem. -/
import Derived.Test.YtnfmjfheciihjaaGreatDoorQSuF
set_option maxRecDepth 8000
set_option maxHeartbeats 16000000
namespace Go.Proofs.YtnfmjfheciihjaaGreatDoor
open Go Go.K Go.RowKit
open Ru (pB NmS BasV)
attribute [local irreducible] AW RW DW DT Post Qt
theorem MeanCalls_c (w : World) (Φ : Hp) (hΦ : Hp.le Φ (hp w)) (hG : Knows Φ Glob) {n : Int} : Calls Tryz.prog 6 #[iV n] w fun e w' => e = .returned (.bool true) ∧ Bel w.heap.size w w' := by
 refine calls_of_AW (args := [iV n]) Tryz.func6 rfl (lBT rfl) (St ⟨w, Φ, []⟩ Φ []) (StP.init w Φ hΦ []) ?_
 show AW _ _ [] _ _ _ [(0, iV n)] _
 repeat refine gs1 ?_
 refine RW.q (v := .bool true) rfl (q_call (args := #[]) own8 rfl rfl (fun w1 hw1 => small_c w1 Φ hw1.phi hG)) ?_
 repeat refine gs1 ?_
 refine RW.q (v := .bool (decide (n < 0) || decide (200 < n))) rfl (qpO rfl rfl rfl) ?_
 repeat refine gs1 ?_
 refine AW.cond rfl (fun h => ?_) fun h => ?_
 ·
  repeat refine gs1 ?_
  exact fin_res (vs := [.bool true]) rfl rfl ⟨.tmp rfl, trivial⟩ rfl (fun w' hw => ⟨rfl, hw.below rfl⟩)
 have h : ¬ (n < 0 ∨ 200 < n) := by simpa using h
 obtain ⟨m, rfl⟩ : ∃ m : Nat, n = m := ⟨n.toNat, by omega⟩
 have hm : m ≤ 200 := by omega
 repeat refine gs1 ?_
 refine RW.eff _ _ rfl (e_callS (args := #[]) own14 rfl rfl (fun w1 hw1 => plain_c w1 Φ hw1.phi)) ?_
 rintro ⟨⟨v, Φ1⟩, ⟨b, hv, hb, hp1, hone⟩, hl1⟩
 simp only at hv hb hp1 hl1 ⊢
 subst hv
 have hG1 := hG.mono hl1
 refine RW.alc rfl fun b4 => ?_
 refine RW.effn (e_stA (cs' := b.cs) 0 rfl rfl rfl hone rfl rfl) ?_
 repeat refine gs1 ?_
 refine AW.drawT (J0 := St ⟨w, Φ, []⟩ Φ1 [.blk b4 31 b.cs]) (fun s J => ∃ (Ψ : Hp) (b5 : Nat) (y : Option Addr × Nat × Option Addr × Nat), Hp.le Φ1 Ψ ∧ RepSl Ψ (Ru.ruleF m).Funcs (.slice y.1 (Ru.ruleF m).Funcs.length y.2.1) ∧ RepSl Ψ (Ru.ruleF m).Clauses (.slice y.2.2.1 (Ru.ruleF m).Clauses.length y.2.2.2) ∧ s = [(0, iV (m : Int)), (3, .bool true), (4, pB b4), (5, pB b5), (6, iV 0)] ∧ J = St ⟨w, Φ, []⟩ Ψ [.blk b5 35 [.slice y.1 (Ru.ruleF m).Funcs.length y.2.1, .slice y.2.2.1 (Ru.ruleF m).Clauses.length y.2.2.2], .blk b4 31 b.cs]) (.q 0 (.q 1 (.q 2 (.q 3 (.q 4 (.f 5 10 (.q 6 (.q 7 (.q 8 (.q 9 (.e 10 (.e 11 (.q 12 (.q 13 .nil)))))))) (.e 5 (.q 6 (.q 7 (.q 8 (.q 9 (.e 11 (.q 12 (.q 13 .nil)))))))))))))) hmix (by kernel_rfl) ?_ ?_
 ·
  refine DT.q (v := .agg b.cs.toArray) (fun _ h => h) rfl (qa_ldA (cs := b.cs) rfl (Cells.blk 0 rfl) rfl) (DT.q (fun _ h => h) rfl (q_move rfl) (DT.q (fun _ h => h) rfl (q_call (args := #[iV (m : Int)]) own13 rfl rfl (fun w1 hw1 => ldigits_c w1 (by omega))) (DT.q (v := .string (bs (Ru.sF1 ++ [102, 40] ++ Ru.num m))) (fun _ h => h) rfl (q_catStr rfl rfl (Ru.lenF1 hm) rfl) (DT.q (v := .string (bs (Ru.srcF (Ru.num m)))) (fun _ h => h) rfl (q_catStr (l := Ru.sF1 ++ [102, 40] ++ Ru.num m) (r := [41, 10]) rfl rfl (Ru.lenF2 hm) (by simp [Ru.srcF])) (DT.fork _ (fun b5 : Nat => .pointer (some ⟨b5, 0, none⟩)) _ (fun b5 => St ⟨w, Φ, []⟩ Φ1 [.blk b5 35 [.slice none 0 0, .slice none 0 0], .blk b4 31 b.cs]) rfl rfl trivial trivial ?_ ?_ (e_callS (args := #[.agg b.cs.toArray, .string (bs (Ru.srcF (Ru.num m)))]) own16 rfl rfl (fun w1 hw1 => parse_x (Ru.parse_F (by unfold Un.M; omega)) (rParse_c w1 Φ1 hw1.phi hG1 hb (l := (Ru.srcF (Ru.num m))) (Nat.le_trans (Ru.lenF3 hm) (by decide))))) (e_alloc zero35) ?_ ?_)))))
  ·
   exact fun x w1 h => StP.less h x.2.2
  ·
   exact fun b5 w1 h => StP.sel h [1] (by decide) rfl
  ·
   rintro ⟨⟨v, Ψ⟩, ⟨y, hv, hyf, hyc⟩, hle⟩
   simp only at hv hyf hyc hle ⊢
   subst hv
   refine DT.q (fun _ h => StP.less h hle) rfl (q_move rfl) (DT.q (fun _ h => StP.less h hle) rfl (q_extract rfl rfl) (DT.q (fun _ h => StP.less h hle) rfl (q_extract rfl rfl) (DT.q (fun _ h => StP.less h hle) rfl (q_extract rfl rfl) (DT.eff _ (fun b5 => St ⟨w, Φ, []⟩ Ψ [.blk b5 35 [.slice none 0 0, .slice none 0 0], .blk b4 31 b.cs]) (fun _ b5 w1 h => StP.less (StP.sel h [1] (by decide) rfl) hle) rfl (e_alloc zero35) fun b5 => (DT.effn (J' := St ⟨w, Φ, []⟩ Ψ [.blk b5 35 [.slice y.1 (Ru.ruleF m).Funcs.length y.2.1, .slice y.2.2.1 (Ru.ruleF m).Clauses.length y.2.2.2], .blk b4 31 b.cs]) (fun _ w1 h => StP.less (StP.sel h [1] (by decide) rfl) hle) (e_stA (cs' := [.slice y.1 (Ru.ruleF m).Funcs.length y.2.1, .slice y.2.2.1 (Ru.ruleF m).Clauses.length y.2.2.2]) 0 rfl rfl rfl rfl rfl rfl) (DT.q (fun _ h => StP.less (StP.sel h [1] (by decide) rfl) hle) rfl (q_assign rfl) (DT.q (fun _ h => StP.less (StP.sel h [1] (by decide) rfl) hle) rfl (q_assign rfl) ?_)))))))
   exact DT.nil (s' := _) (J' := _) ⟨Ψ, b5, y, hle, hyf, hyc, rfl, rfl⟩ ⟨rfl, rfl, rfl, rfl, rfl, trivial⟩ (fun _ h => h)
  ·
   intro b5
   refine DT.eff _ _ ?_ rfl (e_callS (args := #[.agg b.cs.toArray, .string (bs (Ru.srcF (Ru.num m)))]) own16 rfl rfl (fun w1 hw1 => parse_x (Ru.parse_F (by unfold Un.M; omega)) (rParse_c w1 Φ1 hw1.phi hG1 hb (l := (Ru.srcF (Ru.num m))) (Nat.le_trans (Ru.lenF3 hm) (by decide))))) ?_
   ·
    exact fun _ x w1 h => StP.less (StP.sel h [1] (by decide) rfl) x.2.2
   rintro ⟨⟨v, Ψ⟩, ⟨y, hv, hyf, hyc⟩, hle⟩
   simp only at hv hyf hyc hle ⊢
   subst hv
   refine DT.q (fun _ h => StP.less (StP.sel h [1] (by decide) rfl) hle) rfl (q_move rfl) (DT.q (fun _ h => StP.less (StP.sel h [1] (by decide) rfl) hle) rfl (q_extract rfl rfl) (DT.q (fun _ h => StP.less (StP.sel h [1] (by decide) rfl) hle) rfl (q_extract rfl rfl) (DT.q (fun _ h => StP.less (StP.sel h [1] (by decide) rfl) hle) rfl (q_extract rfl rfl) (DT.effn (J' := St ⟨w, Φ, []⟩ Ψ [.blk b5 35 [.slice y.1 (Ru.ruleF m).Funcs.length y.2.1, .slice y.2.2.1 (Ru.ruleF m).Clauses.length y.2.2.2], .blk b4 31 b.cs]) (fun _ w1 h => StP.less (StP.sel h [1] (by decide) rfl) hle) (e_stA (cs' := [.slice y.1 (Ru.ruleF m).Funcs.length y.2.1, .slice y.2.2.1 (Ru.ruleF m).Clauses.length y.2.2.2]) 0 rfl rfl rfl rfl rfl rfl) (DT.q (fun _ h => StP.less (StP.sel h [1] (by decide) rfl) hle) rfl (q_assign rfl) (DT.q (fun _ h => StP.less (StP.sel h [1] (by decide) rfl) hle) rfl (q_assign rfl) ?_))))))
   exact DT.nil (s' := _) (J' := _) ⟨Ψ, b5, y, hle, hyf, hyc, rfl, rfl⟩ ⟨rfl, rfl, rfl, rfl, rfl, trivial⟩ (fun _ h => h)
 rintro f7 _ _ ⟨Ψ, b5, y, hle, hyf, hyc, rfl, rfl⟩
 by_cases h99 : m ≤ 99
 ·
  have hrun : Mn.run Ru.env0 [4, 2] (Ru.ruleF m) Mn.fct0 = ⟨[(0, 3)], m + 2, 0⟩ := by rw [Mn.run_F hm, if_pos h99]
  repeat refine gs1 ?_
  refine RW.q (v := .agg (fcC (fc1 (.slice none 0 0)) 0).toArray) rfl (q_build (vals := []) zero38 uT38 places38 rfl rfl) (RW.eff _ _ rfl (e_callS (args := #[.agg b.cs.toArray, .agg #[.slice y.1 _ y.2.1, .slice y.2.2.1 _ y.2.2.2], .agg (fcC (fc1 (.slice none 0 0)) 0).toArray]) own11 rfl rfl (fun w1 hw1 => run_x (hrun ▸ mRun_c w1 Ψ hw1.phi (hG1.mono hle) (hb.mono hle) (hp1.mono hle) e0l e0m pos0 hyf hyc (f := Mn.fct0) (fc1_ok (l := []) repSl_nil) (i64_lit (n := 0) (by omega))))) ?_)
  rintro ⟨⟨v, Ψ2⟩, ⟨⟨oA, oc⟩, hv, ho⟩, hle2⟩
  simp only at hv ho hle2 ⊢
  subst hv
  repeat refine gs1 ?_
  refine RW.alc rfl fun b8 => ?_
  repeat refine gs1 ?_
  refine AW.cond rfl (fun hc => absurd (odT hc) (by omega)) fun _ => ?_
  repeat refine gs1 ?_
  refine RW.q rfl (qkT rfl rfl) (RW.q rfl (q_move rfl) (RW.g rfl rfl rfl (fun _ => qa_fa0 rfl) (RW.g rfl rfl rfl (fun _ => qa_ld rfl (Cell.blk 0 rfl rfl)) (RW.g (v := .bool true) rfl rfl rfl (fun _ => q_as (q_eql rfl rfl) rfl) (RW.q rfl (qkT rfl rfl) (RW.q rfl (q_move rfl) (RW.g rfl rfl rfl (fun _ => qa_fa0 rfl) (RW.g (v := iV ((m : Int) + 2)) rfl rfl rfl (fun _ => qa_ld rfl (Cell.blk 0 rfl rfl)) (RW.g (v := iV (m : Int)) rfl rfl rfl (fun _ => q_move rfl) ?_)))))))))
  refine RW.g (v := iV ((m : Int) + 2)) rfl rfl rfl (fun _ => qa_add rfl rfl (by unfold I64; omega)) (RW.g (v := .bool true) rfl rfl rfl (fun _ => q_as (q_eql rfl rfl) (congrArg Value.bool (decide_eq_true rfl))) (RW.q rfl (qkT rfl rfl) (RW.q rfl (q_move rfl) (RW.g rfl rfl rfl (fun _ => qa_fa0 rfl) (RW.g rfl rfl rfl (fun _ => qa_ld rfl (Cell.blk 0 rfl rfl)) (RW.g (v := iV 1) rfl rfl rfl (fun _ => q_len_sl rfl ho.sl uT42) (RW.g (v := .bool true) rfl rfl rfl (fun _ => q_as (q_eql rfl rfl) rfl) (RW.q rfl (qkT rfl rfl) (RW.q rfl (q_move rfl) ?_)))))))))
  refine RW.g rfl rfl rfl (fun _ => qa_fa0 rfl) (RW.g rfl rfl rfl (fun _ => qa_ld rfl (Cell.blk 0 rfl rfl)) (RW.g (v := .pointer (some (Value.at (.slice oA 1 oc) (0 * 2)))) rfl rfl rfl (fun _ => qa_ixL (n := 1) (i := 0) rfl rfl ho.sl (by omega)) (RW.g rfl rfl rfl (fun _ => qa_fat rfl) (RW.g (v := iV 3) rfl rfl rfl (fun _ => qa_ld rfl (Cell.repE (k := 0) (j := 1) ho (by decide) rfl)) (RW.g (v := .bool true) rfl rfl rfl (fun _ => q_as (q_eql rfl rfl) rfl) (RW.q rfl (qkT rfl rfl) ?_))))))
  repeat refine gs1 ?_
  exact fin_res (vs := [.bool true]) rfl rfl ⟨.tmp rfl, trivial⟩ rfl (fun w' hw => ⟨rfl, hw.below rfl⟩)
 ·
  have hrun : Mn.run Ru.env0 [4, 2] (Ru.ruleF m) Mn.fct0 = ⟨[], 102, 8⟩ := by rw [Mn.run_F hm, if_neg h99]
  repeat refine gs1 ?_
  refine RW.q (v := .agg (fcC (fc1 (.slice none 0 0)) 0).toArray) rfl (q_build (vals := []) zero38 uT38 places38 rfl rfl) (RW.eff _ _ rfl (e_callS (args := #[.agg b.cs.toArray, .agg #[.slice y.1 _ y.2.1, .slice y.2.2.1 _ y.2.2.2], .agg (fcC (fc1 (.slice none 0 0)) 0).toArray]) own11 rfl rfl (fun w1 hw1 => run_x (hrun ▸ mRun_c w1 Ψ hw1.phi (hG1.mono hle) (hb.mono hle) (hp1.mono hle) e0l e0m pos0 hyf hyc (f := Mn.fct0) (fc1_ok (l := []) repSl_nil) (i64_lit (n := 0) (by omega))))) ?_)
  rintro ⟨⟨v, Ψ2⟩, ⟨⟨oA, oc⟩, hv, ho⟩, hle2⟩
  simp only at hv ho hle2 ⊢
  subst hv
  repeat refine gs1 ?_
  refine RW.alc rfl fun b8 => ?_
  repeat refine gs1 ?_
  refine AW.cond rfl (fun _ => ?_) fun hc => absurd (odF hc) (by omega)
  repeat refine gs1 ?_
  refine RW.q rfl (qkT rfl rfl) (RW.q rfl (q_move rfl) (RW.g rfl rfl rfl (fun _ => qa_fa0 rfl) (RW.g rfl rfl rfl (fun _ => qa_ld rfl (Cell.blk 0 rfl rfl)) (RW.g (v := .bool true) rfl rfl rfl (fun _ => q_as (q_eql rfl rfl) rfl) (RW.q rfl (qkT rfl rfl) (RW.q rfl (q_move rfl) (RW.g rfl rfl rfl (fun _ => qa_fa0 rfl) (RW.g rfl rfl rfl (fun _ => qa_ld rfl (Cell.blk 0 rfl rfl)) (RW.g (v := .bool true) rfl rfl rfl (fun _ => q_as (q_eql rfl rfl) rfl) ?_)))))))))
  refine RW.q rfl (qkT rfl rfl) ?_
  repeat refine gs1 ?_
  exact fin_res (vs := [.bool true]) rfl rfl ⟨.tmp rfl, trivial⟩ rfl (fun w' hw => ⟨rfl, hw.below rfl⟩)
end Go.Proofs.YtnfmjfheciihjaaGreatDoor
