/- Lemmas. Conditions: those of each theorem. -/
import Derived.Test.YtjmeeofdffdpnaaGreatDoorMVmW
set_option maxRecDepth 8000
set_option maxHeartbeats 16000000
namespace Go.Proofs.YtjmeeofdffdpnaaGreatDoor
open Go Go.K Go.RowKit
open Ru (pB)
attribute [local irreducible] AW RW DW Post Qt
theorem vRight_c (w : World) {r : Bt.Rule} {fv cv : Value} (hf : RepSl (hp w) r.Funcs fv) (hc : RepSl (hp w) r.Clauses cv) (hb : (Vm.cops r).length ≤ 900000000) {c : Vm.Code} {o1 f1 t1 : Value} (ho1 : RepSl (hp w) c.Ops o1) (hf1 : RepSl (hp w) c.Funcs f1) (ht1 : RepSl (hp w) c.Starts t1) :
   Calls pg 18 #[.agg #[fv, cv], .agg (cdC o1 f1 t1).toArray] w fun e w' => e = .returned (.bool (Vm.soP r && decide (c = Vm.compile r))) ∧ Bel w.heap.size w w' := by
 obtain ⟨fA, fc, rfl, _⟩ := hf.sl
 obtain ⟨cA, cc, rfl, _⟩ := hc.sl
 obtain ⟨A1, c1, rfl, _⟩ := ho1.sl
 obtain ⟨B1, d1, rfl, _⟩ := hf1.sl
 obtain ⟨E1, e1, rfl, _⟩ := ht1.sl
 refine calls_of_AW (args := [.agg #[.slice fA r.Funcs.length fc, .slice cA r.Clauses.length cc], .agg (cdC (.slice A1 c.Ops.length c1) (.slice B1 c.Funcs.length d1) (.slice E1 c.Starts.length e1)).toArray]) Tryz.func18 rfl (lBT rfl) (St ⟨w, hp w, []⟩ (hp w) []) (StP.init w (hp w) (Hp.le_refl _) []) ?_
 show AW _ _ [] _ _ _ [(0, .agg #[.slice fA r.Funcs.length fc, .slice cA r.Clauses.length cc]), (1, .agg (cdC (.slice A1 c.Ops.length c1) (.slice B1 c.Funcs.length d1) (.slice E1 c.Starts.length e1)).toArray)] _
 repeat refine gs1 ?_
 refine RW.bxA (cs := (rS2 fA fc cA cc r)) rfl rfl fun b2 => ?_
 refine RW.bxA (cs := cdC (.slice A1 c.Ops.length c1) (.slice B1 c.Funcs.length d1) (.slice E1 c.Starts.length e1)) rfl rfl fun b3 => ?_
 repeat refine gs1 ?_
 refine RW.q rfl (q_call (args := #[.agg #[.slice fA r.Funcs.length fc, .slice cA r.Clauses.length cc]]) oK rfl rfl (fun w1 hw1 => soundP_c w1 (hp w) hw1.phi hf hc)) ?_
 repeat refine gs1 ?_
 refine AW.cond rfl (fun h => ?_) fun h => ?_
 · have h : Vm.soP r = false := by simpa using h
   repeat refine gs1 ?_
   exact fin_res (vs := [.bool false]) rfl rfl ⟨.tmp rfl, trivial⟩ rfl (fun w' hw => ⟨by rw [h]; rfl, hw.below rfl⟩)
 have h : Vm.soP r = true := by simpa using h
 rw [h, Bool.true_and]
 repeat refine gs1 ?_
 refine RW.eff _ _ rfl (e_callS (args := #[.agg #[.slice fA r.Funcs.length fc, .slice cA r.Clauses.length cc]]) oK rfl rfl (fun w1 hw1 => comp_c w1 (hp w) (hf.mono hw1.phi) (hc.mono hw1.phi) hb)) ?_
 rintro ⟨⟨v, Ψ⟩, ⟨⟨o2, f2, t2⟩, hv, ho⟩, hle⟩
 simp only at hv ho hle ⊢
 subst hv
 have ho2 : RepSl Ψ (Vm.compile r).Ops o2 := ho.o
 have hf2 : RepSl Ψ (Vm.compile r).Funcs f2 := ho.f
 have ht2 : RepSl Ψ (Vm.compile r).Starts t2 := ho.s
 obtain ⟨A2, c2, rfl, _⟩ := ho2.sl
 obtain ⟨B2, d2, rfl, _⟩ := hf2.sl
 obtain ⟨E2, e2, rfl, _⟩ := ht2.sl
 refine RW.alc rfl fun b5 => ?_
 repeat refine gs1 ?_
 refine RW.q rfl (q_call (args := #[.slice A1 c.Ops.length c1, .slice A2 (Vm.compile r).Ops.length c2]) oK rfl rfl (fun w1 hw1 => eqOps_c w1 (ho1.mono (hle.trans hw1.phi)) (ho2.mono hw1.phi))) ?_
 repeat refine gs1 ?_
 refine RW.g (b := decide (c.Ops = (Vm.compile r).Ops)) (v := .bool (decide (c.Funcs = (Vm.compile r).Funcs))) rfl rfl rfl (fun h => q_call (args := #[.slice B1 c.Funcs.length d1, .slice B2 (Vm.compile r).Funcs.length d2]) oK rfl (args2 (gv_pos h) (gv_pos h)) (fun w1 hw1 => eqI_c w1 Ψ hw1.phi (hf1.mono hle) hf2)) ?_
 repeat refine gs1 ?_
 refine RW.q (v := .bool (decide (c.Ops = (Vm.compile r).Ops) && decide (c.Funcs = (Vm.compile r).Funcs))) rfl (qpA rfl rfl rfl) ?_
 repeat refine gs1 ?_
 refine RW.g (b := (decide (c.Ops = (Vm.compile r).Ops) && decide (c.Funcs = (Vm.compile r).Funcs))) (v := .bool (decide (c.Starts = (Vm.compile r).Starts))) rfl rfl rfl (fun h => q_call (args := #[.slice E1 c.Starts.length e1, .slice E2 (Vm.compile r).Starts.length e2]) oK rfl (args2 (gv_pos h) (gv_pos h)) (fun w1 hw1 => eqI_c w1 Ψ hw1.phi (ht1.mono hle) ht2)) ?_
 repeat refine gs1 ?_
 refine RW.q (v := .bool (decide (c = Vm.compile r))) rfl (q_as (qpA rfl rfl rfl) (congrArg Value.bool code_eq.symm)) ?_
 repeat refine gs1 ?_
 exact fin_res (vs := [.bool (decide (c = Vm.compile r))]) rfl rfl ⟨.tmp rfl, trivial⟩ rfl (fun w' hw => ⟨rfl, (StP.less hw (Hp.le_refl _)).below rfl⟩)
end Go.Proofs.YtjmeeofdffdpnaaGreatDoor
namespace Go.Proofs.YtjmeeofdffdpnaaGreatDoor
open Go Go.K Go.RowKit
open Ru (pB BasV)
attribute [local irreducible] AW RW DW Post Qt
theorem i64_mem {S : List Int} {v : Int} (h : ∀ x ∈ S ++ [v], I64 x) : (∀ x ∈ S, I64 x) ∧ I64 v := ⟨fun x hx => h x (by simp [hx]), h v (by simp)⟩
theorem push_i {S : List Int} {v : Int} (h : ∀ x ∈ S, I64 x) (hv : I64 v) : ∀ x ∈ S ++ [v], I64 x := fun x hx => by
 rcases List.mem_append.1 hx with hx | hx
 · exact h x hx
 · obtain rfl := List.mem_singleton.1 hx; exact hv
theorem stepO_ok {X : Vm.Cx} {o : Vm.Op} {m m' : Vm.M} {N : Nat} (hN : X.ps.length = N) (hoA : o.Kind = 0 → I64 o.A) (hF : ∀ n o q, I64 (Mn.factV X.f X.d n o q)) (hpi : ∀ v ∈ X.ps, I64 v) (h : Vm.stepO X o m = some m') (hm : OkM N m) (hb : m.st.length ≤ 100000000) : OkM N m' ∧ m'.st.length ≤ m.st.length + 1 := by
 obtain ⟨pc, S, cl, u, tg, se, fa, en⟩ := m
 obtain ⟨h1, h2, h3, h4, h5, h6, h7⟩ := hm
 simp only at h1 h2 h3 h4 h5 h6 h7 hb
 unfold Vm.stepO at h
 by_cases k0 : o.Kind = 0
 · rw [if_pos k0] at h
   obtain rfl := (sJ h).symm
   exact ⟨⟨push_i h1 (hoA k0), h2, h3, h4, h5, h6, h7⟩, by simp [Vm.M.push]⟩
 rw [if_neg k0] at h
 by_cases k1 : o.Kind = 1
 · rw [if_pos k1] at h
   obtain ⟨q, hq, hh⟩ := bS h
   split at hh
   rotate_left
   · cases hh
   rename_i hA
   obtain rfl := (sJ hh).symm
   refine ⟨⟨push_i h1 ?_, h2, h3, h4, h5, h6, h7⟩, by simp [Vm.M.push]⟩
   rw [gDD, List.getElem?_eq_getElem (by omega)]
   exact (h2 q (List.mem_of_getLast? hq)).2 _ (List.getElem_mem _)
 rw [if_neg k1] at h
 by_cases k2 : o.Kind = 2
 · rw [if_pos k2] at h
   split at h
   rotate_left
   · cases h
   obtain rfl := (sJ h).symm
   exact ⟨⟨push_i h1 (hF _ _ _), h2, h3, h4, h5, h6, h7⟩, by simp [Vm.M.push]⟩
 rw [if_neg k2] at h
 by_cases k3 : o.Kind = 3
 · rw [if_pos k3] at h
   obtain ⟨⟨v, m1⟩, hp, hh⟩ := bS h
   obtain ⟨S0, hS, rfl⟩ := Vm.pop_some hp
   simp only at hS
   subst hS
   obtain rfl := (sJ hh).symm
   exact ⟨⟨push_i (i64_mem h1).1 (Mn.lim_i _), h2, h3, h4, h5, h6, h7⟩, by simp [Vm.M.push]⟩
 rw [if_neg k3] at h
 by_cases k4 : o.Kind = 4
 · rw [if_pos k4] at h
   obtain ⟨⟨v, m1⟩, hp, hh⟩ := bS h
   obtain ⟨S0, hS, rfl⟩ := Vm.pop_some hp
   simp only at hS
   subst hS
   obtain rfl := (sJ hh).symm
   exact ⟨⟨push_i (i64_mem h1).1 (Mn.wr_i _), h2, h3, h4, h5, h6, h7⟩, by simp [Vm.M.push]⟩
 rw [if_neg k4] at h
 by_cases k5 : 5 ≤ o.Kind ∧ o.Kind ≤ 11
 · rw [if_pos k5] at h
   obtain ⟨⟨v2, m2⟩, hp, hh⟩ := bS h
   obtain ⟨S1, hS, rfl⟩ := Vm.pop_some hp
   simp only at hS
   subst hS
   obtain ⟨⟨v1, m1⟩, hp1, hh2⟩ := bS hh
   obtain ⟨S0, hS, rfl⟩ := Vm.pop_some hp1
   simp only at hS
   subst hS
   have hS0 := (i64_mem (i64_mem h1).1).1
   split at hh2
   · rename_i v hv
     obtain rfl := (sJ hh2).symm
     exact ⟨⟨push_i hS0 (Mn.op2_i hv), h2, h3, h4, h5, h6, h7⟩, by simp [Vm.M.push]⟩
   · obtain rfl := (sJ hh2).symm
     exact ⟨⟨hS0, h2, h3, h4, h5, h6, h7⟩, by simp [Vm.M.stop]; omega⟩
 rw [if_neg k5] at h
 have hj : ∀ {m1 m2 : Vm.M} {a : Int}, m1.jmp a = some m2 → OkM N m1 → OkM N m2 ∧ m2.st.length ≤ m1.st.length := fun {m1 m2 a} hj hm => by
   unfold Vm.M.jmp at hj
   split at hj
   · obtain rfl := (sJ hj).symm
     exact ⟨⟨hm.st, hm.cl, hm.cn, hm.u, hm.tg, hm.tn, hm.sn⟩, Nat.le_refl _⟩
   · cases hj
 by_cases k12 : o.Kind = 12
 · rw [if_pos k12] at h
   have := hj h ⟨h1, h2, h3, h4, h5, h6, h7⟩
   exact ⟨this.1, by have := this.2; simp only at this ⊢; omega⟩
 rw [if_neg k12] at h
 by_cases k13 : o.Kind = 13
 · rw [if_pos k13] at h
   obtain ⟨⟨v, m1⟩, hp, hh⟩ := bS h
   obtain ⟨S0, hS, rfl⟩ := Vm.pop_some hp
   simp only at hS
   subst hS
   have hk : OkM N (⟨pc, S0, cl, u, tg, se, fa, en⟩ : Vm.M) := ⟨(i64_mem h1).1, h2, h3, h4, h5, h6, h7⟩
   simp only at hh
   split at hh
   · have := hj hh hk
     exact ⟨this.1, by have := this.2; simp only [List.length_append] at this ⊢; omega⟩
   · obtain rfl := (sJ hh).symm
     exact ⟨hk, by simp only [List.length_append]; omega⟩
 rw [if_neg k13] at h
 by_cases k14 : o.Kind = 14
 · rw [if_pos k14] at h
   obtain ⟨⟨v, m1⟩, hp, hh⟩ := bS h
   obtain ⟨S0, hS, rfl⟩ := Vm.pop_some hp
   simp only at hS
   subst hS
   have hk : OkM N (⟨pc, S0, cl, u, tg, se, fa, en⟩ : Vm.M) := ⟨(i64_mem h1).1, h2, h3, h4, h5, h6, h7⟩
   simp only at hh
   split at hh
   · have := hj hh hk
     exact ⟨this.1, by have := this.2; simp only [List.length_append] at this ⊢; omega⟩
   · obtain rfl := (sJ hh).symm
     exact ⟨hk, by simp only [List.length_append]; omega⟩
 rw [if_neg k14] at h
 by_cases k15 : o.Kind = 15
 · rw [if_pos k15] at h
   simp only at h
   by_cases h10 : 10000 ≤ u
   · rw [if_pos h10] at h
     obtain rfl := (sJ h).symm
     exact ⟨⟨h1, h2, h3, h4, h5, h6, h7⟩, by simp [Vm.M.stop]⟩
   rw [if_neg h10] at h
   by_cases h100 : 100 ≤ cl.length
   · rw [if_pos h100] at h
     obtain rfl := (sJ h).symm
     exact ⟨⟨h1, h2, h3, ⟨by show 0 ≤ u + 1; omega, by show u + 1 ≤ 10000; omega⟩, h5, h6, h7⟩, by simp [Vm.M.stop]⟩
   rw [if_neg h100] at h
   split at h
   rotate_left
   · cases h
   obtain ⟨q, hq, hh⟩ := bS h
   have := hj hh ⟨fun v hv => h1 v (List.mem_of_mem_take hv), fun q hq => by
     rcases List.mem_append.1 hq with hq | hq
     · exact h2 q hq
     · obtain rfl := List.mem_singleton.1 hq
       exact ⟨by show (List.drop _ S).length ≤ _; rw [List.length_drop]; omega, fun v hv => h1 v (List.mem_of_mem_drop hv)⟩, by show (cl ++ _).length ≤ 100; rw [List.length_append, List.length_singleton]; omega, ⟨by show 0 ≤ u + 1; omega, by show u + 1 ≤ 10000; omega⟩, h5, h6, h7⟩
   exact ⟨this.1, by have := this.2; simp only [List.length_take] at this ⊢; omega⟩
 rw [if_neg k15] at h
 by_cases k16 : o.Kind = 16
 · rw [if_pos k16] at h
   obtain ⟨q, hq, hh⟩ := bS h
   obtain rfl := (sJ hh).symm
   exact ⟨⟨h1, fun q hq => h2 q (List.dropLast_subset _ hq), by show cl.dropLast.length ≤ 100; rw [List.length_dropLast]; omega, h4, h5, h6, h7⟩, by simp⟩
 rw [if_neg k16] at h
 by_cases k17 : o.Kind = 17
 · rw [if_pos k17] at h
   simp only at h
   by_cases h10 : 10000 ≤ u
   · rw [if_pos h10] at h
     obtain rfl := (sJ h).symm
     exact ⟨⟨h1, h2, h3, h4, h5, h6, h7⟩, by simp [Vm.M.stop]⟩
   rw [if_neg h10] at h
   split at h
   rotate_left
   · cases h
   have hk : OkM N (⟨pc, S, cl, u + 1, tg, se, fa, en⟩ : Vm.M) := ⟨h1, h2, h3, ⟨by show 0 ≤ u + 1; omega, by show u + 1 ≤ 10000; omega⟩, h5, h6, h7⟩
   split at h
   · have := hj h hk
     exact ⟨this.1, by have := this.2; simp only at this ⊢; omega⟩
   · obtain rfl := (sJ h).symm
     exact ⟨hk, by simp⟩
 rw [if_neg k17] at h
 by_cases k18 : o.Kind = 18
 · rw [if_pos k18] at h
   split at h
   rotate_left
   · cases h
   rename_i hA
   simp only at hA
   obtain ⟨⟨v, m1⟩, hp, hh⟩ := bS h
   obtain ⟨S0, hS, rfl⟩ := Vm.pop_some hp
   simp only at hS
   subst hS
   obtain rfl := (sJ hh).symm
   refine ⟨⟨(i64_mem h1).1, h2, h3, h4, fun t ht => ?_, by show (tg.set _ _).length = N; rw [List.length_set]; exact h6, by show (se.set _ _).length = N; rw [List.length_set]; exact h7⟩, by simp only [List.length_append]; omega⟩
   rcases List.mem_or_eq_of_mem_set ht with ht | rfl
   · exact h5 t ht
   · exact Mn.clampI_i (i64_mem h1).2 (I64.nat (n := 0) (by omega)) (hpi _ (by rw [gDD, List.getElem?_eq_getElem (by omega)]; exact List.getElem_mem _))
 rw [if_neg k18] at h
 by_cases k19 : o.Kind = 19
 · rw [if_pos k19] at h
   obtain rfl := (sJ h).symm
   exact ⟨⟨h1, h2, h3, h4, h5, h6, h7⟩, by simp⟩
 rw [if_neg k19] at h
 cases h
theorem stepO_kind {X : Vm.Cx} {o : Vm.Op} {m m' : Vm.M} (h : Vm.stepO X o m = some m') : 0 ≤ o.Kind ∧ o.Kind < 20 := by
 refine Classical.byContradiction fun hc => ?_
 unfold Vm.stepO at h
 rw [if_neg (by omega), if_neg (by omega), if_neg (by omega), if_neg (by omega), if_neg (by omega), if_neg (by omega), if_neg (by omega), if_neg (by omega), if_neg (by omega), if_neg (by omega), if_neg (by omega), if_neg (by omega), if_neg (by omega), if_neg (by omega)] at h
 cases h
theorem jmp_u {m m2 : Vm.M} {a : Int} (h : m.jmp a = some m2) : m2.u = m.u := by
 unfold Vm.M.jmp at h
 split at h
 · rw [← sJ h]
 · cases h
theorem pop_u {m : Vm.M} {q : Int × Vm.M} (h : m.pop = some q) : q.2.u = m.u := by
 obtain ⟨v, m1⟩ := q
 obtain ⟨S, _, rfl⟩ := Vm.pop_some h
 rfl
theorem stepO_u {X : Vm.Cx} {o : Vm.Op} {m m' : Vm.M} (h : Vm.stepO X o m = some m') : m'.u = m.u ∨ (m.u < 10000 ∧ m'.u = m.u + 1) := by
 unfold Vm.stepO at h
 by_cases k0 : o.Kind = 0
 · rw [if_pos k0] at h
   exact .inl (by rw [← sJ h]; rfl)
 rw [if_neg k0] at h
 by_cases k1 : o.Kind = 1
 · rw [if_pos k1] at h
   obtain ⟨q, hp, hh⟩ := bS h
   split at hh
   · exact .inl (by rw [← sJ hh]; rfl)
   · cases hh
 rw [if_neg k1] at h
 by_cases k2 : o.Kind = 2
 · rw [if_pos k2] at h
   split at h
   · exact .inl (by rw [← sJ h]; rfl)
   · cases h
 rw [if_neg k2] at h
 by_cases k3 : o.Kind = 3
 · rw [if_pos k3] at h
   obtain ⟨q, hp, hh⟩ := bS h
   have := pop_u hp
   exact .inl (by rw [← sJ hh]; exact this)
 rw [if_neg k3] at h
 by_cases k4 : o.Kind = 4
 · rw [if_pos k4] at h
   obtain ⟨q, hp, hh⟩ := bS h
   have := pop_u hp
   exact .inl (by rw [← sJ hh]; exact this)
 rw [if_neg k4] at h
 by_cases k5 : 5 ≤ o.Kind ∧ o.Kind ≤ 11
 · rw [if_pos k5] at h
   obtain ⟨q, hp, hh⟩ := bS h
   have := pop_u hp
   obtain ⟨q2, hp2, hh2⟩ := bS hh
   have h2 := pop_u hp2
   split at hh2
   · exact .inl (by rw [← sJ hh2]; exact h2.trans this)
   · exact .inl (by rw [← sJ hh2]; exact h2.trans this)
 rw [if_neg k5] at h
 by_cases k12 : o.Kind = 12
 · rw [if_pos k12] at h
   exact .inl (jmp_u h)
 rw [if_neg k12] at h
 by_cases k13 : o.Kind = 13
 · rw [if_pos k13] at h
   obtain ⟨q, hp, hh⟩ := bS h
   have := pop_u hp
   split at hh
   · exact .inl ((jmp_u hh).trans this)
   · exact .inl (by rw [← sJ hh]; exact this)
 rw [if_neg k13] at h
 by_cases k14 : o.Kind = 14
 · rw [if_pos k14] at h
   obtain ⟨q, hp, hh⟩ := bS h
   have := pop_u hp
   split at hh
   · exact .inl ((jmp_u hh).trans this)
   · exact .inl (by rw [← sJ hh]; exact this)
 rw [if_neg k14] at h
 by_cases k15 : o.Kind = 15
 · rw [if_pos k15] at h
   split at h
   · exact .inl (by rw [← sJ h]; rfl)
   split at h
   · exact .inr ⟨by omega, by rw [← sJ h]; rfl⟩
   split at h
   · obtain ⟨q, hp, hh⟩ := bS h
     exact .inr ⟨by omega, jmp_u hh⟩
   · cases h
 rw [if_neg k15] at h
 by_cases k16 : o.Kind = 16
 · rw [if_pos k16] at h
   obtain ⟨q, hp, hh⟩ := bS h
   exact .inl (by rw [← sJ hh])
 rw [if_neg k16] at h
 by_cases k17 : o.Kind = 17
 · rw [if_pos k17] at h
   split at h
   · exact .inl (by rw [← sJ h]; rfl)
   split at h
   · split at h
     · exact .inr ⟨by omega, jmp_u h⟩
     · exact .inr ⟨by omega, by rw [← sJ h]⟩
   · cases h
 rw [if_neg k17] at h
 by_cases k18 : o.Kind = 18
 · rw [if_pos k18] at h
   split at h
   · obtain ⟨q, hp, hh⟩ := bS h
     have := pop_u hp
     exact .inl (by rw [← sJ hh]; exact this)
   · cases h
 rw [if_neg k18] at h
 by_cases k19 : o.Kind = 19
 · rw [if_pos k19] at h
   exact .inl (by rw [← sJ h])
 rw [if_neg k19] at h
 cases h
theorem stepM_some {X : Vm.Cx} {m m' : Vm.M} (h : Vm.stepM X m = some m') : m.en = false ∧ ∃ o, X.c.Ops[m.pc]? = some o ∧ Vm.stepO X o { m with pc := m.pc + 1 } = some m' := by
 unfold Vm.stepM at h
 split at h
 · cases h
 · rename_i he
   exact ⟨by simpa using he, bS h⟩
theorem stepN_u {X : Vm.Cx} : ∀ {n : Nat} {m m' : Vm.M}, Vm.stepN X n m = some m' → 0 ≤ m.u ∧ m.u ≤ 10000 → 0 ≤ m'.u ∧ m'.u ≤ 10000
 | 0, m, m', h, hu => by cases h; exact hu
 | n + 1, m, m', h, hu => by
   rw [Vm.stepN] at h
   obtain ⟨m1, h1, h2⟩ := bS h
   obtain ⟨_, o, _, h3⟩ := stepM_some h1
   refine stepN_u h2 ?_
   rcases stepO_u h3 with h4 | ⟨h4, h5⟩
   · rw [h4]; exact hu
   · simp only at h4 h5; omega
def tabM : Nat → Int → Option Value
 | 0 => fun _ => none
 | n + 1 => fun j => if j = (n : Int) then some (.func (.func (tgt (n : Int))) #[] #[]) else tabM n j
theorem tabM_none : ∀ (n : Nat) (k : Int), (n : Int) ≤ k → tabM n k = none
 | 0, _, _ => rfl
 | n + 1, k, h => by
   unfold tabM
   rw [if_neg (by omega), tabM_none n k (by omega)]
theorem tabM_some : ∀ (n : Nat) (k : Int), 0 ≤ k → k < n → tabM n k = some (.func (.func (tgt k)) #[] #[])
 | 0, k, h, h2 => by omega
 | n + 1, k, h, h2 => by
   unfold tabM
   by_cases hk : k = (n : Int)
   · rw [if_pos hk, hk]
   · rw [if_neg hk, tabM_some n k h (by omega)]
section
variable {P : Program} {Pn : List PanicEntry → World → Prop} {B : Bs} {Φ : Hp} {C : List Chunk} {f : Nat → Value} {s : List (Nat × Value)} {dst : Option Nat} {ty : TypeId} {pos : String} {af : Array Edge} {g : Option (Nat × Bool)} {x y z : Operand} {t kt et : TypeId}
theorem e_tabIns {b n : Nat} {k : Int} {v : Value} (hkn : k = (n : Int)) (hvv : v = .func (.func (tgt (n : Int))) #[] #[]) (hx : ev (fr f s) x = .map (some b)) (hy : ev (fr f s) y = .int .i64 k) (hv : ev (fr f s) z = v) (hT : P.underlying t = some (.map kt et)) (hk : P.underlying kt = some (.int .i64)) :
   ∀ w, (St B Φ [.imap b (tabM n)]).p w → effX P Pn (fun _ w' => (St B Φ [.imap b (tabM (n + 1))]).p w') ((execOp (ev (fr f s)) ⟨none, .insert t x y z, ty, pos, af, g⟩).run P w) := by
 subst hkn
 subst hvv
 exact e_mapPut (ty := ty) (pos := pos) (af := af) (g := g) (k := (n : Int)) 0 rfl hx hy hv hT hk (tabM_none n n (Int.le_refl _)) rfl
theorem q_mapLookP1 {b : Nat} {m : Int → Option Value} {k : Int} {v : Value} (hm : (Chunk.imap b m).sat Φ) (hx : ev (fr f s) x = .map (some b)) (hy : ev (fr f s) y = .int .i64 k) (hT : P.underlying t = some (.map kt et)) (hk : P.underlying kt = some (.int .i64)) (hv : m k = some v) : Qt P (St B Φ C) f s ⟨dst, .lookup t x y false, ty, pos, af, g⟩ v := qt_val fun w hw => by
 obtain ⟨es, clock, hes, hik, hm⟩ := hm
 have hb : w.heap[b]? = some (.map es clock) := hw.phi b _ hes
 obtain ⟨r, hr, hrm⟩ := findNow_int (k := k) es.toList 0 hik
 rw [hm k, hv] at hrm
 have hg : (getObj b).run P w = .ok (.map es clock) w := by simp [getObj, Sem.run, hb]
 have hc : (Instr.checkKey es.isEmpty 10000 kt (.int .i64 k)).run P w = .ok () w := run_checkKey_int hk w
 have hf : (Instr.findKey kt (.int .i64 k) es.toList).run P w = .ok r w := by simp [Instr.findKey, run_underlying hk, hr]
 simp only [execOp, hx, hy, Instr.lookup, Sem.run_bind, run_underlying hT, Result.andThen_ok, hg, Sem.run_pure, hc, hf]
 cases r with
 | none => cases hrm
 | some p =>
   have : v = p.2 := by simpa using hrm.symm
   simp [this]
end
theorem instr_c (w : World) : Calls pg 35 #[] w (MkR w (fun b : Nat => .map (some b)) fun b => [.imap b (tabM 20)]) := by
 refine calls_of_AW (args := []) Tryz.func35 rfl (lBT rfl) (St ⟨w, hp w, []⟩ (hp w) []) (StP.init w (hp w) (Hp.le_refl _) []) ?_
 show AW _ _ [] _ _ _ [] _
 repeat refine gs1 ?_
 refine RW.eff _ _ rfl e_makeMap fun b => ?_
 refine RW.wk (J' := St ⟨w, hp w, []⟩ (hp w) [.imap b (tabM 0)]) (fun _ h => h) ?_
 iterate 20 refine RW.effn (e_tabIns rfl rfl rfl rfl rfl Tryz.underlying94 Tryz.underlying3) ?_
 repeat refine gs1 ?_
 exact fin_res (vs := [.map (some b)]) rfl rfl ⟨.tmp rfl, trivial⟩ rfl (fun w' hw => ⟨b, rfl, hw⟩)
theorem mapLe {Φ Ψ : Hp} {b : Nat} {M : Int → Option Value} (hl : Hp.le Φ Ψ) (h : (Chunk.imap b M).sat Φ) : ∀ b' ∈ (Chunk.imap b M).fp, Ψ b' = Φ b' := fun b' hb => by
 obtain rfl : b' = b := List.mem_singleton.1 (show b' ∈ [b] from hb)
 obtain ⟨es, ck, h1, _⟩ := h
 rw [h1]
 exact hl _ _ h1
theorem cw {e : Ru.Env} {r : Bt.Rule} (hr : Ru.rightR e r = true) (hso : Vm.soP r = true) : ∀ o ∈ (Vm.compile r).Ops, Vm.wO o := Vm.compile_wJ hso (fun q hq => (jright_f hr q hq).1) fun c hc => ⟨(jright_c hr c hc).2.2.1, (jright_c hr c hc).2.2.2⟩
theorem mop_cells {Φ : Hp} {l : List Vm.Op} {v : Value} (h : RepSl Φ l v) {i : Nat} (hi : i < l.length) : PCells Φ (Value.at v (i * 3)) (opC (l.getD i default)) := fun j u hj => by
 obtain ⟨cs, ⟨h1, _⟩, h2⟩ := h.at_ i hi
 rw [at_add]
 refine h2 j u ?_
 rw [h1]
 rwa [gDD, List.getElem?_eq_getElem hi] at hj
def vrun (e : Ru.Env) (ps : List Int) (r : Bt.Rule) (c : Vm.Code) (f : Bt.Facts) : Bt.Order := if (Ru.rightR e r && (Vm.soP r && decide (c = Vm.compile r))) = true then Mn.runR ps r f else ⟨[], 0, 1⟩
theorem s0 {B : Bs} {Φ : Hp} {c : Chunk} {C : List Chunk} {w : World} (h : StP B Φ (c :: C) w) : StP B Φ [c] w := StP.sel h [0] (by decide) rfl
theorem vRun_c (w : World) (Φ : Hp) (hΦ : Hp.le Φ (hp w)) (hG : Knows Φ Glob) {b : BasV} {e : Ru.Env} {ps : List Int} (hb : b.ok Φ e) (hpos : PosS Φ b.lv ps) (hpl : ps.length = e.links.length) (hpm : ps.length * 200 ≤ maxSl) (hpi : ∀ x ∈ ps, I64 x) {r : Bt.Rule} {fv cv : Value} (hf : RepSl Φ r.Funcs fv) (hc : RepSl Φ r.Clauses cv) (hlen : (Vm.cops r).length ≤ 1990) {c : Vm.Code} {o1 f1 t1 : Value} (ho : RepSl Φ c.Ops o1) (hfu : RepSl Φ c.Funcs f1) (hst : RepSl Φ c.Starts t1) {f : Bt.Facts} {yf : FcV} (hy : yf.ok Φ f) (hh : I64 f.Hour) :
   Calls pg 16 #[.agg b.cs.toArray, .agg #[fv, cv], .agg (cdC o1 f1 t1).toArray, .agg (fcC yf f.Hour).toArray] w (OrdR w Φ (vrun e ps r c f)) := by
 obtain ⟨fA, fc, rfl, _⟩ := hf.sl
 obtain ⟨cA, cc, rfl, _⟩ := hc.sl
 obtain ⟨oA, oc, rfl, _⟩ := ho.sl
 obtain ⟨uA, uc, rfl, _⟩ := hfu.sl
 obtain ⟨tA, tc, rfl, _⟩ := hst.sl
 refine calls_of_AW (args := [.agg b.cs.toArray, .agg #[.slice fA r.Funcs.length fc, .slice cA r.Clauses.length cc], .agg (cdC (.slice oA c.Ops.length oc) (.slice uA c.Funcs.length uc) (.slice tA c.Starts.length tc)).toArray, .agg (fcC yf f.Hour).toArray]) Tryz.func16 rfl (lBT rfl) (St ⟨w, Φ, []⟩ Φ []) (StP.init w Φ hΦ []) ?_
 show AW _ _ [] _ _ _ [(0, .agg b.cs.toArray), (1, .agg #[.slice fA r.Funcs.length fc, .slice cA r.Clauses.length cc]), (2, .agg (cdC (.slice oA c.Ops.length oc) (.slice uA c.Funcs.length uc) (.slice tA c.Starts.length tc)).toArray), (3, .agg (fcC yf f.Hour).toArray)] _
 generalize hoV : Value.slice oA c.Ops.length oc = o1 at *
 generalize huV : Value.slice uA c.Funcs.length uc = f1 at *
 generalize htV : Value.slice tA c.Starts.length tc = t1 at *
 repeat refine gs1 ?_
 refine RW.bxA (cs := b.cs) rfl rfl fun b4 => ?_
 repeat refine gs1 ?_
 refine RW.bxA (cs := (rS2 fA fc cA cc r)) rfl rfl fun b5 => ?_
 repeat refine gs1 ?_
 refine RW.bxA (cs := cdC o1 f1 t1) rfl rfl fun b6 => ?_
 repeat refine gs1 ?_
 refine RW.bxA (cs := fcC yf f.Hour) rfl rfl fun b7 => ?_
 repeat refine gs1 ?_
 refine RW.alc rfl fun b8 => ?_
 repeat refine gs1 ?_
 refine RW.q rfl (q_call (args := #[.agg b.cs.toArray, .agg #[.slice fA r.Funcs.length fc, .slice cA r.Clauses.length cc]]) oK rfl rfl (fun w1 hw1 => ruleRight_c w1 (hb.mono hw1.phi) (hf.mono hw1.phi) (hc.mono hw1.phi))) ?_
 repeat refine gs1 ?_
 refine RW.g (b := !Ru.rightR e r) (v := .bool (Vm.soP r && decide (c = Vm.compile r))) rfl rfl rfl (fun h => q_call (args := #[.agg #[.slice fA r.Funcs.length fc, .slice cA r.Clauses.length cc], .agg (cdC o1 f1 t1).toArray]) oK rfl (args2 (gv_pos h) (gv_pos h)) (fun w1 hw1 => vRight_c w1 (hf.mono hw1.phi) (hc.mono hw1.phi) (by omega) (ho.mono hw1.phi) (hfu.mono hw1.phi) (hst.mono hw1.phi))) ?_
 repeat refine gs1 ?_
 refine RW.q (v := .bool (!Ru.rightR e r || !(Vm.soP r && decide (c = Vm.compile r)))) rfl (qpO rfl rfl rfl) ?_
 repeat refine gs1 ?_
 refine AW.cond rfl (fun h => ?_) fun h => ?_
 · have hz : vrun e ps r c f = ⟨[], 0, 1⟩ := by
     unfold vrun
     rw [if_neg (by
       intro h2
       rw [Bool.and_eq_true] at h2
       rw [h2.1, h2.2] at h
       cases h)]
   repeat refine gs1 ?_
   refine RW.q (v := .agg (orC (.slice none 0 0) 0 1).toArray) rfl (q_build (vals := [(2, .int .i64 1)]) zero51 Tryz.underlying51 places51 rfl rfl) ?_
   repeat refine gs1 ?_
   rw [hz]
   exact fin_res (vs := [.agg (orC (.slice none 0 0) 0 1).toArray]) rfl rfl ⟨.agg rfl rfl (Cells.blk 0 rfl), trivial⟩ rfl (fun w1 hw1 => ⟨_, rfl, hw1.below rfl, .slice none 0 0, rfl, repSl_nil⟩)
 have h1 : Ru.rightR e r = true ∧ Vm.soP r = true ∧ c = Vm.compile r := by
   simp only [Bool.or_eq_false_iff, Bool.not_eq_false', Bool.and_eq_true, decide_eq_true_eq] at h
   exact ⟨h.1, h.2.1, h.2.2⟩
 obtain ⟨hr, hso, hcc⟩ := h1
 have hrun : vrun e ps r c f = Mn.runR ps r f := by unfold vrun; rw [if_pos (by rw [hr, hso, decide_eq_true hcc]; rfl)]
 rw [hrun]
 have hol : (Vm.compile r).Ops.length ≤ 1990 := by
   have : (Vm.compile r).Ops = Vm.cops r := by rw [Vm.compile_ops hso]; rfl
   rw [this]; exact hlen
 obtain ⟨mf, ⟨n0, hn0, hstep⟩, hen, hres⟩ := Vm.run_sim f hr hso hol hpl ⟨fun q hq => jright_f hr q hq, fun q hq => jright_c hr q hq⟩
 obtain ⟨X, hX⟩ : ∃ X : Vm.Cx, X = ⟨Vm.compile r, f, (Mn.dateOf f.Hour).1, ps⟩ := ⟨_, rfl⟩
 rw [← hX] at hstep
 rw [← hres]
 clear h hrun
 simp only [maxSl] at hpm
 generalize hn : ps.length = n at hpl hpm hstep
 refine AW.wk (J' := St ⟨w, Φ, []⟩ Φ [.blk b7 41 (fcC yf f.Hour), .blk b6 38 (cdC o1 f1 t1), .blk b5 35 (rS2 fA fc cA cc r), .blk b4 31 b.cs, .blk b8 51 zO]) (fun _ h => StP.sel h [1, 2, 3, 4, 0] (by decide) rfl) ?_
 refine AW.frz fun Φ1 l1 s7 => ?_
 refine AW.frz fun Φ2 l2 s6 => ?_
 refine AW.frz fun Φ3 l3 s5 => ?_
 refine AW.frz fun Φ4 l4 s4 => ?_
 have hl : Hp.le Φ Φ4 := ((l1.trans l2).trans l3).trans l4
 have hb := hb.mono hl
 have hls := hb.l.sl
 rw [← hpl] at hls
 have q4 : Φ4 b4 = some (.cells b.cs.toArray 31 (0, 0)) := s4
 have q6 : Φ4 b6 = some (.cells (cdC o1 f1 t1).toArray 38 (0, 0)) := (l3.trans l4) _ _ s6
 have q7 : Φ4 b7 = some (.cells (fcC yf f.Hour).toArray 41 (0, 0)) := ((l2.trans l3).trans l4) _ _ s7
 have q44 : PCell Φ4 ⟨b4, 4, none⟩ b.lv := PCell.blk q4 rfl
 have q74 : PCell Φ4 ⟨b7, 4, none⟩ (.int .i64 f.Hour) := PCell.blk q7 rfl
 have p4 := PCells.blk q4
 have p6 := PCells.blk q6
 have p7 := PCells.blk q7
 repeat refine gs1 ?_
 refine AW.drawZ (J0 := St ⟨w, Φ, []⟩ Φ4 [.blk b8 51 zO]) [.q, .q, .q, .q, .q, .q, .q, .q, .q, .p, .e, .q, .e, .q] [0, 1, 2, 3, 4, 5, 7, 8, 9, 6, 10, 11, 12, 13] hmix (by kernel_rfl) ?_
 refine DW.q (v := .agg b.cs.toArray) (fun _ h => h) rfl (qa_ldA (cs := b.cs) rfl (Cells.phi p4) rfl) ?_
 refine DW.q (v := .agg (cdC o1 f1 t1).toArray) (fun _ h => h) rfl (qa_ldA (cs := cdC o1 f1 t1) rfl (Cells.phi p6) rfl) ?_
 refine DW.q (v := .agg (fcC yf f.Hour).toArray) (fun _ h => h) rfl (qa_ldA (cs := fcC yf f.Hour) rfl (Cells.phi p7) rfl) ?_
 refine DW.q (fun _ h => h) rfl (qa_fa0 rfl) ?_
 refine DW.q (v := b.lv) (fun _ h => h) rfl (qa_ld rfl (Cell.phi q44)) ?_
 refine DW.q (v := .int .i64 ((n : Nat) : Int)) (fun _ h => h) rfl (qa_len rfl hls) ?_
 refine DW.q (fun _ h => h) rfl (qa_fa0 rfl) ?_
 refine DW.q (v := b.lv) (fun _ h => h) rfl (qa_ld rfl (Cell.phi q44)) ?_
 refine DW.q (v := .int .i64 ((n : Nat) : Int)) (fun _ h => h) rfl (qa_len rfl hls) ?_
 refine DW.pair (X := Nat) (Y := Nat) (fun bt => nR bt n) (fun bq => nR bq n) (fun bt => St ⟨w, Φ, []⟩ Φ4 [.row (nR bt n) 3 1 n (List.replicate n (.int .i64 0)), .blk b8 51 zO]) (fun bq => St ⟨w, Φ, []⟩ Φ4 [.row (nR bq n) 4 1 n (List.replicate n (.bool false)), .blk b8 51 zO]) (fun bt bq => St ⟨w, Φ, []⟩ Φ4 [.row (nR bt n) 3 1 n (List.replicate n (.int .i64 0)), .row (nR bq n) 4 1 n (List.replicate n (.bool false)), .blk b8 51 zO]) rfl rfl rfl trivial trivial (fun _ => trivial) (fun _ => trivial) (fun _ _ h => StP.sel h [1] (by decide) rfl) (fun _ _ h => StP.sel h [1] (by decide) rfl) (fun _ _ _ h => StP.sel h [2] (by decide) rfl)
   ?_ ?_ ?_ ?_ fun bt bq => ?_
 · exact e_makeSlice (l := n) (c := n) (n := n) (xs := List.replicate n (.int .i64 0)) rfl rfl Tryz.underlying29 inf3 (Nat.le_refl _) (by omega) (by omega) (Nat.mul_one _) made_one
 · intro bt w1 hw1
   refine effX_mono (fun v w2 hx => ?_) (e_makeSlice (l := n) (c := n) (n := n) (xs := List.replicate n (.bool false)) rfl rfl Tryz.underlying86 inf4 (Nat.le_refl _) (by omega) (by omega) (Nat.mul_one _) made_one w1 hw1)
   obtain ⟨bq, hv, hp⟩ := hx
   exact ⟨bq, hv, StP.sel hp [1, 0, 2] (by decide) rfl⟩
 · exact e_makeSlice (l := n) (c := n) (n := n) (xs := List.replicate n (.bool false)) rfl rfl Tryz.underlying86 inf4 (Nat.le_refl _) (by omega) (by omega) (Nat.mul_one _) made_one
 · exact fun bq => e_makeSlice (l := n) (c := n) (n := n) (xs := List.replicate n (.int .i64 0)) rfl rfl Tryz.underlying29 inf3 (Nat.le_refl _) (by omega) (by omega) (Nat.mul_one _) made_one
 obtain ⟨y0, hy0⟩ : ∃ y0 : MnV, y0 = ⟨b, o1, f1, t1, yf, f.Hour, (0, 0, 0, 0), nR bt n, nR bq n⟩ := ⟨_, rfl⟩
 obtain ⟨y, hyy⟩ : ∃ y : MnV, y = ⟨b, o1, f1, t1, yf, f.Hour, (Mn.dateOf f.Hour).1, nR bt n, nR bq n⟩ := ⟨_, rfl⟩
 refine DW.q (v := .agg (MnV.cs y0 0 (.slice none 0 0) (.slice none 0 0) 0 0 false).toArray) (fun _ h => StP.sel h [2] (by decide) rfl) rfl (by subst hy0; exact q_build (vals := [(0, .agg b.cs.toArray), (1, .agg (cdC o1 f1 t1).toArray), (2, .agg (fcC yf f.Hour).toArray), (8, nR bt n), (9, nR bq n)]) zero91 Tryz.underlying91 places91 rfl (by kernel_rfl)) ?_
 refine DW.eff _ _ (fun _ b w1 h => StP.sel h [3] (by decide) rfl) rfl (e_boxA (cs := MnV.cs y0 0 (.slice none 0 0) (.slice none 0 0) 0 0 false) rfl) fun x => ?_
 refine DW.q (v := pB x) (fun _ h => StP.sel h [3] (by decide) rfl) rfl (q_assign rfl) ?_
 repeat refine gs1 ?_
 refine RW.q rfl (q_call (args := #[.int .i64 f.Hour]) oK rfl rfl (fun w1 hw1 => dateOf_c w1 (Φ := Φ4) hw1.phi (hG.mono hl) hh)) ?_
 repeat refine gs1 ?_
 refine RW.effn (J' := St ⟨w, Φ, []⟩ Φ4 [mB x y 0 (.slice none 0 0) (.slice none 0 0) 0 0 false, .row (nR bt n) 3 1 n (List.replicate n (.int .i64 0)), .row (nR bq n) 4 1 n (List.replicate n (.bool false)), .blk b8 51 zO]) (by subst hy0; subst hyy; exact e_store (v := .agg (dtC (Mn.dateOf f.Hour).1).toArray) 0 rfl rfl rfl sz88 rfl rfl rfl rfl rfl) ?_
 repeat refine gs1 ?_
 refine RW.mk rfl oK rfl rfl (fun w1 _ => instr_c w1) fun bm => ?_
 refine RW.frz fun Φ5 l5 hm => ?_
 have hl5 := hl.trans l5
 repeat refine gs1 ?_
 have hX5 : CxR Φ5 X y := by
   subst hX; subst hyy
   exact ⟨(hcc ▸ hfu).mono hl5, hy.mono hl5, rfl, hpos.mono hl5, by show IsSl b.lv ps.length; rw [hn]; exact hls, fact_i hy _ (date_i _).1 (date_i _).2.1 (date_i _).2.2, hpi⟩
 have hXc : X.c = Vm.compile r := by rw [hX]
 have hXn : X.ps.length = n := by rw [hX]; exact hn
 have hmu := stepN_u hstep ⟨Int.le_refl 0, by show (0 : Int) ≤ 10000; omega⟩
 have hn1 : n0 ≤ 20002000 := by omega
 have p6' : PCell Φ5 ⟨b6, 0, none⟩ o1 := (PCell.blk q6 rfl).mono l5
 have hoS : IsSl o1 c.Ops.length := (ho.mono hl5).sl
 obtain ⟨m0, hm0⟩ : ∃ m0, m0 = Vm.V 0 [] [] 0 (List.replicate n 0) (List.replicate n false) := ⟨_, rfl⟩
 rw [← hm0] at hstep
 have hOk0 : OkM n m0 := by
   subst hm0
   exact { st := fun v hv => absurd hv (List.not_mem_nil), cl := fun q hq => absurd hq (List.not_mem_nil), cn := Nat.zero_le _, u := ⟨Int.le_refl 0, by show (0 : Int) ≤ 10000; omega⟩, tg := fun v hv => by rw [(List.mem_replicate.1 hv).2]; exact I64.nat (n := 0) (by omega), tn := List.length_replicate, sn := List.length_replicate }
 have hS0 : m0.st.length ≤ 0 := by subst hm0; exact Nat.le_refl _
 have hF0 : Frs Φ5 m0.cl [] := by subst hm0; trivial
 refine AW.wk (J' := St ⟨w, Φ, []⟩ Φ5 [mB x y m0.pc (.slice none 0 0) (.slice none 0 0) m0.u m0.fa m0.en, sR (.slice none 0 0) m0.st, kR (.slice none 0 0) m0.cl.length (frC m0.cl []), tR y m0.tg, eR y m0.se, .blk b8 51 zO]) (fun w1 h => ?_) ?_
 · have h2 := StP.nilRow (StP.nilRow h 3 1) 209 2
   subst hm0; subst hyy
   simp only [tR, eR, List.length_replicate, List.map_replicate]
   exact StP.sel h2 [2, 1, 0, 3, 4, 5] (by decide) rfl
 refine AW.loop (fun s J q => ∃ (i : Nat) (Ψ : Hp) (m : Vm.M) (ks kc : Value) (vs : List Value), s = [(6, pB b6), (8, pB b8), (9, pB x), (10, .map (some bm))] ∧ J = St ⟨w, Φ, []⟩ Ψ [mB x y m.pc ks kc m.u m.fa m.en, sR ks m.st, kR kc m.cl.length (frC m.cl vs), tR y m.tg, eR y m.se, .blk b8 51 zO] ∧ q = n0 - i ∧ i ≤ n0 ∧ Hp.le Φ5 Ψ ∧ OkM n m ∧ m.st.length ≤ i ∧ Frs Ψ m.cl vs ∧ Vm.stepN X (n0 - i) m = some mf) (s0 := _) (J1 := _) (m0 := _) ⟨0, Φ5, m0, _, _, _, rfl, rfl, rfl, Nat.zero_le _, Hp.le_refl _, hOk0, hS0, hF0, hstep⟩ ⟨rfl, rfl, rfl, rfl, trivial⟩ (fun _ h => h) ?_
 rintro _ _ _ _ ⟨i, Ψ, m, ks, kc, vs, rfl, rfl, rfl, hi, hle, hok, hsl, hFr, hsm⟩
 repeat refine gs1 ?_
 refine AW.cond rfl (fun h => ?_) fun h => ?_
 · have hef : m.en = false := by simpa using h
   obtain ⟨k, hk⟩ : ∃ k, n0 - i = k + 1 := by
     cases hk : n0 - i with
     | zero =>
       rw [hk] at hsm
       cases hsm
       rw [hen] at hef; cases hef
     | succ k => exact ⟨k, rfl⟩
   rw [hk, Vm.stepN] at hsm
   obtain ⟨m1, hm1, hsm1⟩ := bS hsm
   obtain ⟨_, o, hop, hso1⟩ := stepM_some hm1
   rw [hXc, ← hcc] at hop
   obtain ⟨hpo, hoe⟩ := List.getElem?_eq_some_iff.1 hop
   have hpoe : c.Ops.getD m.pc default = o := by rw [gDD, hop]; rfl
   have po := mop_cells ((ho.mono hl5).mono hle) (i := m.pc) hpo
   rw [hpoe] at po
   have hwf : Vm.wO o := cw hr hso o (by rw [← hcc]; exact List.mem_of_getElem? hop)
   have hOl : c.Ops.length ≤ 1990 := by rw [hcc]; exact hol
   have hpc : m.pc ≤ 1990 := by omega
   have hkind := stepO_kind hso1
   have p6i := p6'.mono hle
   repeat refine gs1 ?_
   refine AW.drawZ (J0 := St ⟨w, Φ, []⟩ Ψ [mB x y m.pc ks kc m.u m.fa m.en]) [.q, .q, .q, .q, .q, .q, .q, .q, .e, .e] [0, 1, 2, 3, 4, 5, 6, 7, 8, 9] hmix (by kernel_rfl) ?_
   refine DW.q (fun _ => s0) rfl (qa_fa0 rfl) ?_
   refine DW.q (v := o1) (fun _ => s0) rfl (qa_ld rfl (Cell.phi p6i)) ?_
   refine DW.q (fun _ => s0) rfl (q_move rfl) ?_
   refine DW.q (v := pB x) (fun _ => s0) rfl (qa_nc rfl) ?_
   refine DW.q (fun _ => s0) rfl (qa_fa0 rfl) ?_
   refine DW.q (fun _ => s0) rfl (qa_ld rfl (Cell.blk 0 rfl rfl)) ?_
   refine DW.q (v := .pointer (some (Value.at o1 (m.pc * 3)))) (fun _ => s0) rfl (qa_ixN (n := c.Ops.length) (i := m.pc) rfl rfl hoS hpo) ?_
   refine DW.q (v := .agg (opC o).toArray) (fun _ => s0) rfl (qa_ldA (cs := opC o) rfl (Cells.phi po) rfl) ?_
   refine DW.eff _ _ (fun _ b w1 h => StP.sel h [1] (by decide) rfl) rfl (e_alloc zero56) fun b11 => ?_
   refine DW.effn (J' := St ⟨w, Φ, []⟩ Ψ [.blk b11 56 (opC o), mB x y m.pc ks kc m.u m.fa m.en, sR ks m.st, kR kc m.cl.length (frC m.cl vs), tR y m.tg, eR y m.se, .blk b8 51 zO]) (fun h => absurd rfl h) (e_store (v := .agg (opC o).toArray) 0 rfl rfl rfl sz56 rfl rfl rfl rfl rfl) ?_
   repeat refine gs1 ?_
   refine RW.wk (J' := St ⟨w, Φ, []⟩ Ψ [.blk b11 56 (opC o), mB x y (m.pc + 1) ks kc m.u m.fa m.en, sR ks m.st, kR kc m.cl.length (frC m.cl vs), tR y m.tg, eR y m.se, .blk b8 51 zO]) (fun _ h => h) ?_
   refine RW.q (v := .func (.func (tgt o.Kind)) #[] #[]) rfl (q_mapLookP1 (m := tabM 20) (k := o.Kind) ((Chunk.imap bm (tabM 20)).loc _ _ (fun b hb => (mapLe hle hm) b hb) hm) rfl rfl Tryz.underlying94 Tryz.underlying3 (tabM_some 20 o.Kind hkind.1 hkind.2)) ?_
   repeat refine gs1 ?_
   refine RW.ownG (args := #[pB x, .agg (opC o).toArray]) (C2 := [.blk b11 56 (opC o), .blk b8 51 zO]) [1, 2, 3, 4, 5, 0, 6] (by decide) rfl rfl (own_tgt o.Kind) rfl rfl (fun w1 hw1 => minstr_c w1 (m := { m with pc := m.pc + 1 }) (hX5.mono hle) hXn hwf.1 hwf.2 hso1 ⟨hok.st, hok.cl, hok.cn, hok.u, hok.tg, hok.tn, hok.sn⟩ (by show m.st.length ≤ _; omega) hFr hw1) fun z Ψ2 hl2 hz => ?_
   obtain ⟨hok1, hsl1⟩ := stepO_ok hXn hwf.1 hX5.F hX5.pi hso1 ⟨hok.st, hok.cl, hok.cn, hok.u, hok.tg, hok.tn, hok.sn⟩ (by show m.st.length ≤ _; omega)
   have hsl2 : m1.st.length ≤ i + 1 := by have h9 : m1.st.length ≤ m.st.length + 1 := hsl1; omega
   have hsm2 : Vm.stepN X (n0 - (i + 1)) m1 = some mf := by rw [show n0 - (i + 1) = k by omega]; exact hsm1
   obtain ⟨ks2, kc2, vs2, ex⟩ := z
   cases ex with
   | none =>
     refine RW.wk (J' := St ⟨w, Φ, []⟩ Ψ2 [mB x y m1.pc ks2 kc2 m1.u m1.fa m1.en, sR ks2 m1.st, kR kc2 m1.cl.length (frC m1.cl vs2), tR y m1.tg, eR y m1.se, .blk b8 51 zO]) (fun _ h => StP.sel h [0, 1, 2, 3, 4, 6] (by decide) rfl) ?_
     repeat refine gs1 ?_
     exact Post.back (s' := _) (J' := _) (m' := _) (by omega) ⟨i + 1, Ψ2, m1, ks2, kc2, vs2, rfl, rfl, rfl, by omega, hle.trans hl2, hok1, hsl2, hz, hsm2⟩ ⟨rfl, rfl, rfl, rfl, trivial⟩ (fun _ h => h)
   | some p =>
     obtain ⟨av, l⟩ := p
     obtain ⟨cl0, bk, vs0, hcl, hvs, hF0⟩ := hz
     refine RW.frz fun Ψ3 l3 r3 => ?_
     have hla := hok1.cl (bk, l) (by rw [hcl]; simp)
     have hF3 : Frs Ψ3 m1.cl vs2 := by
       simp only at hvs
       rw [hcl, hvs]
       exact (hF0.mono l3).snoc (RowS.ints r3 (by have := hla.1; simp only [maxSl] at this ⊢; omega) hla.2)
     refine RW.wk (J' := St ⟨w, Φ, []⟩ Ψ3 [mB x y m1.pc ks2 kc2 m1.u m1.fa m1.en, sR ks2 m1.st, kR kc2 m1.cl.length (frC m1.cl vs2), tR y m1.tg, eR y m1.se, .blk b8 51 zO]) (fun _ h => StP.sel h [0, 1, 2, 3, 4, 6] (by decide) rfl) ?_
     repeat refine gs1 ?_
     exact Post.back (s' := _) (J' := _) (m' := _) (by omega) ⟨i + 1, Ψ3, m1, ks2, kc2, vs2, rfl, rfl, rfl, by omega, (hle.trans hl2).trans l3, hok1, hsl2, hF3, hsm2⟩ ⟨rfl, rfl, rfl, rfl, trivial⟩ (fun _ h => h)
 have hef : m.en = true := by simpa using h
 have hmm : m = mf := by
   cases hk : n0 - i with
   | zero =>
     rw [hk] at hsm
     exact sJ hsm
   | succ k =>
     rw [hk, Vm.stepN] at hsm
     obtain ⟨m1, hm1, _⟩ := bS hsm
     rw [(stepM_some hm1).1] at hef
     cases hef
 rw [← hmm]
 repeat refine gs1 ?_
 refine AW.drawZ (J0 := St ⟨w, Φ, []⟩ Ψ [mB x y m.pc ks kc m.u m.fa m.en]) [.q, .q, .q, .q, .q, .q, .q, .q, .q, .e, .e] [0, 1, 2, 3, 4, 5, 6, 7, 8, 9, 10] hmix (by kernel_rfl) ?_
 refine DW.q (fun _ => s0) rfl (q_move rfl) ?_
 refine DW.q (v := pB x) (fun _ => s0) rfl (qa_nc rfl) ?_
 refine DW.q (fun _ => s0) rfl (qa_fa0 rfl) ?_
 refine DW.q (fun _ => s0) rfl (qa_ld rfl (Cell.blk 0 rfl rfl)) ?_
 refine DW.q (fun _ => s0) rfl (q_move rfl) ?_
 refine DW.q (v := pB x) (fun _ => s0) rfl (qa_nc rfl) ?_
 refine DW.q (fun _ => s0) rfl (qa_fa0 rfl) ?_
 refine DW.q (fun _ => s0) rfl (qa_ld rfl (Cell.blk 0 rfl rfl)) ?_
 refine DW.q (v := .agg (orC (.slice none 0 0) m.u m.fa).toArray) (fun _ => s0) rfl (q_build (vals := [(1, .int .i64 m.u), (2, .int .i64 m.fa)]) zero51 Tryz.underlying51 places51 rfl rfl) ?_
 refine DW.eff _ _ (fun _ b w1 h => StP.sel h [1] (by decide) rfl) rfl (e_alloc zero51) fun b12 => ?_
 refine DW.effn (J' := St ⟨w, Φ, []⟩ Ψ [.blk b12 51 (orC (.slice none 0 0) m.u m.fa), mB x y m.pc ks kc m.u m.fa m.en, sR ks m.st, kR kc m.cl.length (frC m.cl vs), tR y m.tg, eR y m.se, .blk b8 51 zO]) (fun h => absurd rfl h) (e_store (v := .agg (orC (.slice none 0 0) m.u m.fa).toArray) 0 rfl rfl rfl sz51 rfl rfl rfl rfl rfl) ?_
 repeat refine gs1 ?_
 refine AW.cond rfl (fun h => ?_) fun h => ?_
 · have hfa : m.fa ≠ 0 := by simpa using h
   repeat refine gs1 ?_
   have hz : Vm.resM m = ⟨[], m.u, m.fa⟩ := by unfold Vm.resM; rw [if_neg hfa]
   rw [hz]
   exact fin_res (vs := [.agg (orC (.slice none 0 0) m.u m.fa).toArray]) rfl rfl ⟨.agg rfl rfl (Cells.blk 6 rfl), trivial⟩ rfl (fun w1 hw1 => ⟨_, rfl, hw1.below rfl, .slice none 0 0, rfl, repSl_nil⟩)
 have hfa : m.fa = 0 := by simpa using h
 have hz : Vm.resM m = ⟨Mn.cmds m.se m.tg, m.u, 0⟩ := by unfold Vm.resM; rw [if_pos hfa]
 rw [hz, hfa]
 have hsn := hok.sn
 have htn := hok.tn
 have hss : IsSl y.sv m.se.length := by rw [hsn, hyy]; exact isSl_mk (Nat.le_refl _)
 have hts : IsSl y.tv m.tg.length := by rw [htn, hyy]; exact isSl_mk (Nat.le_refl _)
 repeat refine gs1 ?_
 generalize hnn : m.se.length = n1 at hss hsn
 have hnb : n1 ≤ 281474976710656 := by omega
 refine AW.loop (fun s J q => ∃ (k : Nat) (cv : Value) (c : List (Int × Int)), s = [(8, pB b8), (9, pB x), (12, pB b12), (94, y.sv), (95, .int .i64 ((n1 : Nat) : Int)), (96, .int .i64 (k : Int))] ∧ J = St ⟨w, Φ, []⟩ Ψ [.blk b12 51 (orC cv m.u 0), mB x y m.pc ks kc m.u 0 m.en, sR ks m.st, kR kc m.cl.length (frC m.cl vs), tR y m.tg, eR y m.se, .blk b8 51 zO, .row cv 73 2 c.length (flat c)] ∧ q = n1 - k ∧ k ≤ n1 ∧ IsSl cv c.length ∧ c.length ≤ k ∧ c = cmdsTo m.se m.tg k) (s0 := [(8, pB b8), (9, pB x), (12, pB b12), (94, y.sv), (95, .int .i64 ((n1 : Nat) : Int)), (96, .int .i64 ((0 : Nat) : Int))]) (J1 := _) (m0 := _) ⟨0, .slice none 0 0, [], rfl, rfl, rfl, Nat.zero_le _, isSl_nil, Nat.le_refl _, rfl⟩ ⟨rfl, rfl, rfl, rfl, rfl, rfl, trivial⟩ (fun _ h => StP.sel (addNil (T := 73) (sz := 2) h) [1, 2, 3, 4, 5, 6, 7, 0] (by decide) rfl) ?_
 rintro _ _ _ _ ⟨k, cv, c2, rfl, rfl, rfl, hk, hcv, hck, hcm⟩
 repeat refine gs1 ?_
 refine AW.cond rfl (fun h => ?_) fun h => ?_
 · have h : k < n1 := by have := odT h; omega
   have hcS : ∀ {B : Bs} {C : List Chunk} (j : Nat), C[j]? = some (eR y m.se) → Cell (St B Ψ C) (Value.at y.sv (k * 1)) (.bool (m.se.getD k false)) := fun j hj => Cell.row j hj (by rw [Nat.mul_one, List.getElem?_map, gDD, List.getElem?_eq_getElem (by omega)]; rfl)
   have hcT : ∀ {B : Bs} {C : List Chunk} (j : Nat), C[j]? = some (tR y m.tg) → Cell (St B Ψ C) (Value.at y.tv (k * 1)) (.int .i64 (m.tg.getD k 0)) := fun j hj => Cell.row j hj (by rw [Nat.mul_one, List.getElem?_map, gDD, List.getElem?_eq_getElem (by omega)]; rfl)
   repeat refine gs1 ?_
   refine RW.q (v := .bool (m.se.getD k false)) rfl (qa_ld rfl (hcS 5 rfl)) ?_
   repeat refine gs1 ?_
   refine AW.cond rfl (fun hs => ?_) fun hs => ?_
   · have hc1 : cmdsTo m.se m.tg (k + 1) = c2 ++ [((k : Int), m.tg.getD k 0)] := by rw [hcm, cmdsTo_snoc, if_pos hs]
     have hne : c2.length + 1 ≤ n1 := by omega
     have hcb : c2.length + 1 ≤ 8000000000000 := by omega
     obtain ⟨cA2, cc2, rfl, _⟩ := hcv
     repeat refine gs1 ?_
     have hj : ∀ (w1 : World) (cv2 : Value) (l : Nat) (cs : List Value), StP ⟨w, Φ, []⟩ Ψ [.blk b12 51 (orC (.slice cA2 c2.length cc2) m.u 0), mB x y m.pc ks kc m.u 0 m.en, sR ks m.st, kR kc m.cl.length (frC m.cl vs), tR y m.tg, eR y m.se, .blk b8 51 zO, .row cv2 73 2 l cs] w1 → StP ⟨w, Φ, []⟩ Ψ [.blk b12 51 (orC (.slice cA2 c2.length cc2) m.u 0), mB x y m.pc ks kc m.u 0 m.en, tR y m.tg] w1 := fun w1 cv2 l cs h => StP.sel h [0, 1, 4] (by decide) rfl
     refine AW.drawZ (J0 := St ⟨w, Φ, []⟩ Ψ [.blk b12 51 (orC (.slice cA2 c2.length cc2) m.u 0), mB x y m.pc ks kc m.u 0 m.en, tR y m.tg]) [.q, .q, .q, .q, .q, .q, .q, .q, .q, .q, .q, .e, .e, .q, .e] [0, 1, 2, 3, 4, 5, 6, 7, 8, 9, 10, 11, 12, 13, 14] hmix (by kernel_rfl) ?_
     refine DW.q (fun w1 h => hj w1 _ _ _ h) rfl (qa_fa0 rfl) ?_
     refine DW.q (fun w1 h => hj w1 _ _ _ h) rfl (qa_ld rfl (Cell.blk 0 rfl rfl)) ?_
     refine DW.q (fun w1 h => hj w1 _ _ _ h) rfl (q_move rfl) ?_
     refine DW.q (fun w1 h => hj w1 _ _ _ h) rfl (q_move rfl) ?_
     refine DW.q (v := pB x) (fun w1 h => hj w1 _ _ _ h) rfl (qa_nc rfl) ?_
     refine DW.q (fun w1 h => hj w1 _ _ _ h) rfl (qa_fa0 rfl) ?_
     refine DW.q (fun w1 h => hj w1 _ _ _ h) rfl (qa_ld rfl (Cell.blk 1 rfl rfl)) ?_
     refine DW.q (fun w1 h => hj w1 _ _ _ h) rfl (q_move rfl) ?_
     refine DW.q (v := .pointer (some (Value.at y.tv (k * 1)))) (fun w1 h => hj w1 _ _ _ h) rfl (qa_ixN (n := m.tg.length) (i := k) rfl rfl hts (by omega)) ?_
     refine DW.q (v := .int .i64 (m.tg.getD k 0)) (fun w1 h => hj w1 _ _ _ h) rfl (qa_ld rfl (hcT 2 rfl)) ?_
     refine DW.q (v := .agg #[.int .i64 (k : Int), .int .i64 (m.tg.getD k 0)]) (fun w1 h => hj w1 _ _ _ h) rfl (q_build (vals := [(0, .int .i64 (k : Int)), (1, .int .i64 (m.tg.getD k 0))]) zero73 Tryz.underlying73 places73 rfl rfl) ?_
     refine DW.eff _ _ (fun _ _ _ h => StP.sel h [1, 2, 5] (by decide) rfl) rfl (e_buildSlice (vals := [(0, .agg #[.int .i64 (k : Int), .int .i64 (m.tg.getD k 0)])]) (cells := [.int .i64 (k : Int), .int .i64 (m.tg.getD k 0)]) Tryz.underlying48 inf73 rfl rfl rfl (by kernel_rfl) rfl) fun b13 => ?_
     refine DW.eff (fun xv : {vq : Value // IsSl vq (c2.length + 1)} => xv.1) (fun xv => St ⟨w, Φ, []⟩ Ψ [.row (.slice (some ⟨b13, 0, none⟩) 1 1) 73 2 1 [.int .i64 (k : Int), .int .i64 (m.tg.getD k 0)], .blk b12 51 (orC (.slice cA2 c2.length cc2) m.u 0), mB x y m.pc ks kc m.u 0 m.en, sR ks m.st, kR kc m.cl.length (frC m.cl vs), tR y m.tg, eR y m.se, .blk b8 51 zO, .row xv.1 73 2 (c2.length + 1) (flat c2 ++ [.int .i64 (k : Int), .int .i64 (m.tg.getD k 0)])]) (fun _ _ _ h => StP.sel h [1, 2, 5] (by decide) rfl) rfl (e_append 8 rfl rfl rfl Tryz.underlying48 inf73 rfl rfl rfl (Cells.row0 0 rfl) rfl (by omega) (by omega) (fun _ => rfl)) ?_
     rintro ⟨kv2, hkv2⟩
     refine DW.q (fun _ h => StP.sel h [1, 2, 5] (by decide) rfl) rfl (qa_fa0 rfl) ?_
     refine DW.effn (J' := St ⟨w, Φ, []⟩ Ψ [.row (.slice (some ⟨b13, 0, none⟩) 1 1) 73 2 1 [.int .i64 (k : Int), .int .i64 (m.tg.getD k 0)], .blk b12 51 (orC kv2 m.u 0), mB x y m.pc ks kc m.u 0 m.en, sR ks m.st, kR kc m.cl.length (frC m.cl vs), tR y m.tg, eR y m.se, .blk b8 51 zO, .row kv2 73 2 (c2.length + 1) (flat c2 ++ [.int .i64 (k : Int), .int .i64 (m.tg.getD k 0)])]) (fun h => absurd rfl h) (e_storeSl (v := kv2) 1 rfl rfl rfl hkv2 sz48 rfl rfl rfl) ?_
     repeat refine gs1 ?_
     exact Post.back (s' := _) (J' := _) (m' := _) (by omega) ⟨k + 1, kv2, c2 ++ [((k : Int), m.tg.getD k 0)], rfl, rfl, rfl, by omega, by rw [List.length_append]; exact hkv2, by rw [List.length_append]; simp; omega, hc1.symm⟩ ⟨rfl, rfl, rfl, rfl, rfl, rfl, trivial⟩ (fun _ h => by rw [List.length_append, flat_append]; exact StP.sel h [1, 2, 3, 4, 5, 6, 7, 8] (by decide) rfl)
   · have hc1 : cmdsTo m.se m.tg (k + 1) = c2 := by rw [hcm, cmdsTo_snoc, if_neg (by rw [hs]; simp), List.append_nil]
     repeat refine gs1 ?_
     exact Post.back (s' := _) (J' := _) (m' := _) (by omega) ⟨k + 1, cv, c2, rfl, rfl, rfl, by omega, hcv, by omega, hc1.symm⟩ ⟨rfl, rfl, rfl, rfl, rfl, rfl, trivial⟩ (fun _ h => h)
 have h : k = n1 := by have := odF h; omega
 subst h
 obtain ⟨cA2, cc2, rfl, _⟩ := hcv
 repeat refine gs1 ?_
 have hce : Mn.cmds m.se m.tg = c2 := by rw [hcm]; unfold Mn.cmds cmdsTo; rw [hnn]
 rw [hce]
 exact fin_res (vs := [.agg (orC (.slice cA2 c2.length cc2) m.u 0).toArray]) rfl rfl ⟨.agg rfl rfl (Cells.blk 6 rfl), trivial⟩ rfl (fun w1 hw1 => ⟨_, rfl, hw1.below rfl, .slice cA2 c2.length cc2, rfl, RowS.repE evenCmd (row_ext hw1 7 rfl) rfl (by show c2.length * 16 ≤ maxSl; simp only [maxSl]; omega) (fun z hz => cmdsTo_i hok.tg k (by omega) z (by rw [← hcm]; exact hz))⟩)
end Go.Proofs.YtjmeeofdffdpnaaGreatDoor
