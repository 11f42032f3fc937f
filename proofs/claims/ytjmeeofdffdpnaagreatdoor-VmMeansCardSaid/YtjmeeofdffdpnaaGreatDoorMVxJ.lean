/- Lemmas. Conditions: those of each theorem. -/
import Derived.Test.YtjmeeofdffdpnaaGreatDoorMVxH
import Derived.Test.YtjmeeofdffdpnaaGreatDoorMEvN
set_option maxRecDepth 8000
set_option maxHeartbeats 16000000
namespace Go.Proofs.YtjmeeofdffdpnaaGreatDoor
open Go Go.K Go.RowKit
open Ru (pB BasV)
attribute [local irreducible] AW RW DW Post Qt
theorem vRunBad_c (w : World) {b : BasV} {e : Ru.Env} (hb : b.ok (hp w) e) {r : Bt.Rule} {fv cv : Value} (hf : RepSl (hp w) r.Funcs fv) (hc : RepSl (hp w) r.Clauses cv) (hlen : (Vm.cops r).length ≤ 900000000) {c : Vm.Code} {o1 f1 t1 : Value} (ho : RepSl (hp w) c.Ops o1) (hfu : RepSl (hp w) c.Funcs f1) (hst : RepSl (hp w) c.Starts t1) {yf : FcV} {hr : Int} (hbad : (Ru.rightR e r && (Vm.soP r && decide (c = Vm.compile r))) = false) :
   Calls pg 16 #[.agg b.cs.toArray, .agg #[fv, cv], .agg (cdC o1 f1 t1).toArray, .agg (fcC yf hr).toArray] w fun e' w' => e' = .returned (.agg (orC (.slice none 0 0) 0 1).toArray) ∧ Bel w.heap.size w w' := by
 obtain ⟨fA, fc, rfl, _⟩ := hf.sl
 obtain ⟨cA, cc, rfl, _⟩ := hc.sl
 obtain ⟨oA, oc, rfl, _⟩ := ho.sl
 obtain ⟨uA, uc, rfl, _⟩ := hfu.sl
 obtain ⟨tA, tc, rfl, _⟩ := hst.sl
 refine calls_of_AW (args := [.agg b.cs.toArray, .agg #[.slice fA r.Funcs.length fc, .slice cA r.Clauses.length cc], .agg (cdC (.slice oA c.Ops.length oc) (.slice uA c.Funcs.length uc) (.slice tA c.Starts.length tc)).toArray, .agg (fcC yf hr).toArray]) Tryz.func16 rfl (lBT rfl) (St ⟨w, hp w, []⟩ (hp w) []) (StP.init w (hp w) (Hp.le_refl _) []) ?_
 show AW _ _ [] _ _ _ [(0, .agg b.cs.toArray), (1, .agg #[.slice fA r.Funcs.length fc, .slice cA r.Clauses.length cc]), (2, .agg (cdC (.slice oA c.Ops.length oc) (.slice uA c.Funcs.length uc) (.slice tA c.Starts.length tc)).toArray), (3, .agg (fcC yf hr).toArray)] _
 generalize hoV : Value.slice oA c.Ops.length oc = o1 at *
 generalize huV : Value.slice uA c.Funcs.length uc = f1 at *
 generalize htV : Value.slice tA c.Starts.length tc = t1 at *
 repeat refine gs1 ?_
 refine RW.bxA (cs := b.cs) rfl rfl fun b4 => ?_
 repeat refine gs1 ?_
 refine RW.bxA (cs := (rS2 fA fc cA cc r)) rfl rfl fun b5 => ?_
 repeat refine gs1 ?_
 refine RW.bxA (cs := cdC o1 f1 t1) rfl rfl fun b6 => ?_
 repeat refine gs1 ?_
 refine RW.bxA (cs := fcC yf hr) rfl rfl fun b7 => ?_
 repeat refine gs1 ?_
 refine RW.alc rfl fun b8 => ?_
 repeat refine gs1 ?_
 refine RW.q rfl (q_call (args := #[.agg b.cs.toArray, .agg #[.slice fA r.Funcs.length fc, .slice cA r.Clauses.length cc]]) oK rfl rfl (fun w1 hw1 => ruleRight_c w1 (hb.mono hw1.phi) (hf.mono hw1.phi) (hc.mono hw1.phi))) ?_
 repeat refine gs1 ?_
 refine RW.g (b := !Ru.rightR e r) (v := .bool (Vm.soP r && decide (c = Vm.compile r))) rfl rfl rfl (fun h => q_call (args := #[.agg #[.slice fA r.Funcs.length fc, .slice cA r.Clauses.length cc], .agg (cdC o1 f1 t1).toArray]) oK rfl (args2 (gv_pos h) (gv_pos h)) (fun w1 hw1 => vRight_c w1 (hf.mono hw1.phi) (hc.mono hw1.phi) (by omega) (ho.mono hw1.phi) (hfu.mono hw1.phi) (hst.mono hw1.phi))) ?_
 repeat refine gs1 ?_
 refine RW.q (v := .bool (!Ru.rightR e r || !(Vm.soP r && decide (c = Vm.compile r)))) rfl (qpO rfl rfl rfl) ?_
 repeat refine gs1 ?_
 refine AW.cond rfl (fun h => ?_) fun h => ?_
 · skip
   repeat refine gs1 ?_
   refine RW.q (v := .agg (orC (.slice none 0 0) 0 1).toArray) rfl (q_build (vals := [(2, .int .i64 1)]) zero51 Tryz.underlying51 places51 rfl rfl) ?_
   repeat refine gs1 ?_
   exact fin_res (vs := [.agg (orC (.slice none 0 0) 0 1).toArray]) rfl rfl ⟨.agg rfl rfl (Cells.blk 0 rfl), trivial⟩ rfl (fun w1 hw1 => ⟨rfl, hw1.below rfl⟩)
 exfalso
 rw [Bool.or_eq_false_iff] at h
 rw [Bool.not_eq_false'] at h
 rw [h.1, Bool.true_and] at hbad
 rw [hbad] at h
 cases h.2
end Go.Proofs.YtjmeeofdffdpnaaGreatDoor
namespace Vm
open Bt Mn Ru
theorem den_lt {l : List (List UInt8)} {i : Int} (h : den l i = true) : 0 ≤ i ∧ i < l.length := by
 unfold den at h
 simp only [Bool.and_eq_true, decide_eq_true_eq] at h
 exact ⟨h.1.1.1, h.1.1.2⟩
structure Few1 (e : Env) : Prop where
 p : e.places.length ≤ 1000
 o : e.owners.length ≤ 1000
 l : e.links.length ≤ 1000
 t : e.towns.length ≤ 1000
theorem jfact_rng {e : Env} {x : Expr} (hF : Few1 e) (h : jfact e x = true) : 0 ≤ x.N ∧ x.N < 8 ∧ 0 ≤ x.Of ∧ x.Of < 1024 ∧ 0 ≤ x.Of2 ∧ x.Of2 < 1024 := by
 obtain ⟨p, o, l, t⟩ := hF
 unfold jfact at h
 split at h
 · simp only [Bool.and_eq_true, decide_eq_true_eq] at h
   have := den_lt h.1; omega
 split at h
 · simp only [Bool.and_eq_true] at h
   have h1 := den_lt h.1; have h2 := den_lt h.2; omega
 split at h
 · simp only [Bool.and_eq_true, decide_eq_true_eq] at h
   have := den_lt h.1; omega
 split at h
 · simp only [Bool.and_eq_true, decide_eq_true_eq] at h
   have := den_lt h.1; omega
 split at h
 · simp only [Bool.and_eq_true, decide_eq_true_eq] at h
   omega
 · cases h
theorem soL_of {r : Rule} {ps : Nat} : ∀ {xs : List Expr} {d : Nat}, (∀ x ∈ xs, soE r ps d x = true) → soL r ps d xs = true
 | [], _, _ => by unfold soL; rfl
 | x :: xs, d, h => by
   unfold soL
   rw [h x (List.mem_cons_self ..), soL_of fun y hy => h y (List.mem_cons_of_mem _ hy)]; rfl
theorem jx_so {e : Env} {r : Rule} (hF : Few1 e) {ts : List Int} : ∀ (j : Nat) (x : Expr) (d : Nat), (jx e r.Funcs ts j x).2 = true → j + d = 41 → soE r ts.length d x = true
 | 0, x, d, hj, _ => by rw [jx_zero] at hj; cases hj
 | j + 1, ⟨k, n, o, q, ks⟩, d, hj, hd => by
   have hn := jx_node hj
   have hk := jx_kid hj
   obtain ⟨l, h1, h2, h3⟩ := jx_ok hj
   obtain ⟨h4, _⟩ := jxs_mem h1
   have hl : ks.length = l.length := by rw [h4, List.length_map]
   have hks : soL r ts.length (d + 1) ks = true := soL_of fun y hy => jx_so hF j y (d + 1) (hk y hy) (by omega)
   unfold soE
   rw [hks, Bool.and_true]
   simp only [Bool.and_eq_true, decide_eq_true_eq]
   unfold jnd at h3
   simp only at h3
   have a2 := hn.a2
   have a1 := hn.a1
   have a3 := hn.a3
   have k14 := hn.k14
   have k15 := hn.k15
   simp only at a2 a1 a3 k14 k15
   by_cases k0 : k = 0
   · rw [if_pos k0] at h3
     simp only [Bool.and_eq_true, decide_eq_true_eq] at h3
     have hl0 : ks.length = 0 := by rw [hl, h3.1.1]; rfl
     refine ⟨⟨⟨by omega, by omega⟩, ?_⟩, ?_⟩
     · rw [if_neg (by omega), if_neg (by omega), if_neg (by omega)]
     · rw [if_pos (.inl k0)]; exact hl0
   rw [if_neg k0] at h3
   by_cases k1 : k = 1
   · rw [if_pos k1] at h3
     simp only [Bool.and_eq_true, decide_eq_true_eq] at h3
     have hl0 : ks.length = 0 := by rw [hl, h3.1]; rfl
     have hr := jfact_rng hF h3.2
     simp only at hr
     refine ⟨⟨⟨by omega, by omega⟩, ?_⟩, ?_⟩
     · rw [if_neg (by omega), if_pos k1]; exact decide_eq_true hr
     · rw [if_pos (.inr (.inr k1))]; exact hl0
   rw [if_neg k1] at h3
   by_cases h15 : k = 15
   · rw [if_pos h15] at h3
     have h6 := k15 h15
     split at h3
     · cases h3
     · rename_i hc
       have hl0 : ks.length = 0 := by
         rw [hl]
         exact List.length_eq_zero_iff.2 (Classical.byContradiction fun h => hc (.inl h))
       refine ⟨⟨⟨by omega, by omega⟩, ?_⟩, ?_⟩
       · rw [if_pos h15]; exact decide_eq_true h6
       · rw [if_pos (.inr (.inl h15))]; exact hl0
   rw [if_neg h15] at h3
   by_cases h14 : k = 14
   · obtain ⟨b1, b2, b3⟩ := k14 h14
     refine ⟨⟨⟨by omega, by omega⟩, ?_⟩, ?_⟩
     · rw [if_neg h15, if_neg k1, if_pos h14]; exact decide_eq_true ⟨b1, b2⟩
     · rw [if_neg (by omega), if_neg (by omega), if_neg (by omega), if_pos h14, b3]
       unfold arE
       rw [gDD, gDD, List.getElem?_map]
       have hlt : n.toNat < r.Funcs.length := by omega
       rw [List.getElem?_eq_getElem hlt]; rfl
   by_cases h2' : k = 2 ∨ k = 3
   · refine ⟨⟨⟨by omega, by omega⟩, ?_⟩, ?_⟩
     · rw [if_neg h15, if_neg k1, if_neg h14]
     · rw [if_neg (by omega), if_pos h2']; exact a1 h2'
   by_cases h13 : k = 13
   · refine ⟨⟨⟨by omega, by omega⟩, ?_⟩, ?_⟩
     · rw [if_neg h15, if_neg k1, if_neg h14]
     · rw [if_neg (by omega), if_neg h2', if_pos h13]; exact a3 h13
   have h9 := a2 k0 k1 (by omega) (by omega) h13 h14 h15
   refine ⟨⟨⟨by omega, by omega⟩, ?_⟩, ?_⟩
   · rw [if_neg h15, if_neg k1, if_neg h14]
   · rw [if_neg (by omega), if_neg h2', if_neg h13, if_neg h14]; exact h9.1
theorem right_so {e : Env} {r : Rule} (hF : Few1 e) (hJ : ∀ q ∈ r.Funcs, (jx e r.Funcs q.Params 40 q.Body).2 = true) (hC : ∀ c ∈ r.Clauses, (jx e r.Funcs [] 40 c.If).2 = true ∧ (jx e r.Funcs [] 40 c.To).2 = true) : soP r = true := by
 unfold soP
 rw [Bool.and_eq_true, List.all_eq_true, List.all_eq_true]
 exact ⟨fun q hq => jx_so hF 40 q.Body 1 (hJ q hq) rfl, fun c hc => by
   have h1 : soE r 0 1 c.If = true := jx_so (ts := []) hF 40 c.If 1 (hC c hc).1 rfl
   have h2 : soE r 0 1 c.To = true := jx_so (ts := []) hF 40 c.To 1 (hC c hc).2 rfl
   rw [h1, h2]; rfl⟩
end Vm
namespace Ru
open Bt
def lit (n : Int) : Expr := ⟨0, n, 0, 0, []⟩
end Ru
namespace Mn
open Bt Ru
end Mn
namespace Go.Proofs.YtjmeeofdffdpnaaGreatDoor
open Go Go.K Go.RowKit
open Ru (pB NmS BasV)
attribute [local irreducible] AW RW DW Post Qt
theorem eqF49 (a b c d : Int) (n : Nat) (w : World) : (Op.eqFields (n + 1) #[iV a, iV b] #[iV c, iV d] (pg.fieldsOf 73).toList).run pg w = .ok (decide (a = c) && decide (b = d)) w := by
 unfold Program.fieldsOf
 rw [uT73]
 have hp : ∀ {cs : Array Value} {o : Nat} {v : Value} (h : cs[o]? = some v) (w : World), (part 3 cs o).run pg w = .ok v w := fun h w => run_part1 uT3 rfl h w
 have hq : ∀ (x y : Int) (w : World), (Op.equalIn (n + 1) 3 (iV x) (iV y)).run pg w = .ok (x == y) w := fun x y w => run_equalIn_int w n 3 .i64 .i64 x y uT3
 simp only [Op.eqFields, ne_eq, String.reduceEq, not_false_eq_true, if_true, Sem.run_bind, hp (show #[Value.int .i64 a, Value.int .i64 b][0]? = some (iV a) from rfl), hp (show #[Value.int .i64 c, Value.int .i64 d][0]? = some (iV c) from rfl), hp (show #[Value.int .i64 a, Value.int .i64 b][1]? = some (iV b) from rfl), hp (show #[Value.int .i64 c, Value.int .i64 d][1]? = some (iV d) from rfl), hq, Result.andThen_ok, Sem.run_ite, Sem.run_pure]
 by_cases h1 : a = c <;> by_cases h2 : b = d <;> simp [h1, h2]
theorem eqS49 (a b c d : Int) : ∀ w, (Op.equal 73 (.agg #[iV a, iV b]) (.agg #[iV c, iV d])).run pg w = .ok (decide (a = c) && decide (b = d)) w := fun w => by
 have hT : pg.underlying 73 = some (.struct (pg.fieldsOf 73)) := by unfold Program.fieldsOf; rw [uT73]
 show (Op.equalIn (9998 + 1 + 1) 73 _ _).run pg w = _
 rw [run_equalIn_struct w (9998 + 1) 73 _ _ hT (by kernel_rfl)]
 exact eqF49 a b c d 9998 w
theorem eqG49 : Program.eqGuardType pg pg.depth 73 = false := by kernel_rfl
def _root_.Mn.sameO (a b : Bt.Order) : Bool := decide (a.Used = b.Used) && decide (a.Fault = b.Fault) && decide (a.Cmds = b.Cmds)
theorem oSame_c (w : World) {a b : Bt.Order} {v1 v2 : Value} (h1 : RepSl (hp w) a.Cmds v1) (h2 : RepSl (hp w) b.Cmds v2) :
  Calls pg 15 #[.agg (orC v1 a.Used a.Fault).toArray, .agg (orC v2 b.Used b.Fault).toArray] w fun e w' => e = .returned (.bool (Mn.sameO a b)) ∧ Bel w.heap.size w w' := by
 obtain ⟨A1, c1, rfl, _⟩ := h1.sl
 obtain ⟨A2, c2, rfl, _⟩ := h2.sl
 have s1 := h1.sl
 have s2 := h2.sl
 have m1 := h1.max
 simp only [Rep.bytes, maxSl] at m1
 refine calls_of_AW (args := [.agg (orC (.slice A1 a.Cmds.length c1) a.Used a.Fault).toArray, .agg (orC (.slice A2 b.Cmds.length c2) b.Used b.Fault).toArray]) Tryz.func15 rfl (lBT rfl) (St ⟨w, hp w, []⟩ (hp w) []) (StP.init w (hp w) (Hp.le_refl _) []) ?_
 show AW _ _ [] _ _ _ [(0, .agg (orC (.slice A1 a.Cmds.length c1) a.Used a.Fault).toArray), (1, .agg (orC (.slice A2 b.Cmds.length c2) b.Used b.Fault).toArray)] _
 repeat refine gs1 ?_
 refine RW.bxA (cs := orC (.slice A1 a.Cmds.length c1) a.Used a.Fault) rfl rfl fun b2 => ?_
 refine RW.bxA (cs := orC (.slice A2 b.Cmds.length c2) b.Used b.Fault) rfl rfl fun b3 => ?_
 repeat refine gs1 ?_
 refine RW.q (v := .bool ((!decide (a.Used = b.Used)) || !decide (a.Fault = b.Fault))) rfl (qpO rfl rfl rfl) ?_
 repeat refine gs1 ?_
 refine RW.g (b := ((!decide (a.Used = b.Used)) || !decide (a.Fault = b.Fault))) (v := iV (a.Cmds.length : Int)) rfl rfl rfl (fun h => q_len_sl (gv_pos h) s1 uT48) ?_
 repeat refine gs1 ?_
 refine RW.g (b := ((!decide (a.Used = b.Used)) || !decide (a.Fault = b.Fault))) (v := iV (b.Cmds.length : Int)) rfl rfl rfl (fun h => q_len_sl (gv_pos h) s2 uT48) ?_
 repeat refine gs1 ?_
 refine RW.q (v := .bool (((!decide (a.Used = b.Used)) || !decide (a.Fault = b.Fault)) || !decide ((a.Cmds.length : Int) = (b.Cmds.length : Int)))) rfl (qpO rfl rfl rfl) ?_
 repeat refine gs1 ?_
 refine AW.cond rfl (fun h => ?_) fun h => ?_
 ·
  repeat refine gs1 ?_
  exact fin_res (vs := [.bool false]) rfl rfl ⟨.tmp rfl, trivial⟩ rfl (fun w' hw => ⟨by
   have hz : Mn.sameO a b = false := by
    unfold Mn.sameO
    by_cases h1 : a.Used = b.Used
    ·
     by_cases h2 : a.Fault = b.Fault
     ·
      have : a.Cmds ≠ b.Cmds := fun he => by simp [h1, h2, he] at h
      simp [this]
     ·
      simp [h2]
    ·
     simp [h1]
   rw [hz]; rfl, hw.below rfl⟩)
 have h : (a.Used = b.Used ∧ a.Fault = b.Fault) ∧ a.Cmds.length = b.Cmds.length := by
  simp at h; exact ⟨⟨h.1.1, h.1.2⟩, by omega⟩
 obtain ⟨⟨hu, hfl⟩, hlen⟩ := h
 repeat refine gs1 ?_
 refine AW.loop (fun s J q => ∃ i : Nat, s = [(2, pB b2), (3, pB b3), (5, iV (i : Int))] ∧ J = St ⟨w, hp w, []⟩ (hp w) [.blk b3 51 (orC (.slice A2 b.Cmds.length c2) b.Used b.Fault), .blk b2 51 (orC (.slice A1 a.Cmds.length c1) a.Used a.Fault)] ∧ q = a.Cmds.length - i ∧ i ≤ a.Cmds.length ∧ ∀ j, j < i → a.Cmds.getD j (0, 0) = b.Cmds.getD j (0, 0)) (s0 := [(2, pB b2), (3, pB b3), (5, iV ((0 : Nat) : Int))]) (J1 := _) (m0 := _) ⟨0, rfl, rfl, rfl, Nat.zero_le _, fun j hj => by omega⟩ ⟨rfl, rfl, rfl, trivial⟩ (fun _ h => h) ?_
 rintro _ _ _ _ ⟨i, rfl, rfl, rfl, hi, hall⟩
 repeat refine gs1 ?_
 refine AW.cond rfl (fun h => ?_) fun h => ?_
 ·
  have h : i < a.Cmds.length := by have := odT h; omega
  have hb : i < b.Cmds.length := by omega
  repeat refine gs1 ?_
  refine AW.drawZ (J0 := St ⟨w, hp w, []⟩ (hp w) [.blk b3 51 (orC (.slice A2 b.Cmds.length c2) b.Used b.Fault), .blk b2 51 (orC (.slice A1 a.Cmds.length c1) a.Used a.Fault)]) [.q, .q, .q, .q, .q, .q, .q, .q, .q, .q, .q] [0, 1, 2, 3, 4, 5, 6, 7, 8, 9, 10] hmix (by kernel_rfl) ?_
  repeat refine gs1 ?_
  refine DW.q (v := .agg #[iV (a.Cmds.getD i (0, 0)).1, iV (a.Cmds.getD i (0, 0)).2]) (fun _ h => h) rfl (qa_ldA (cs := [iV (a.Cmds.getD i (0, 0)).1, iV (a.Cmds.getD i (0, 0)).2]) rfl (Cells.repE h1 h rfl) rfl) ?_
  repeat refine gs1 ?_
  refine DW.q (v := .agg #[iV (b.Cmds.getD i (0, 0)).1, iV (b.Cmds.getD i (0, 0)).2]) (fun _ h => h) rfl (qa_ldA (cs := [iV (b.Cmds.getD i (0, 0)).1, iV (b.Cmds.getD i (0, 0)).2]) rfl (Cells.repE h2 hb rfl) rfl) (DW.q (v := .bool (!(decide ((a.Cmds.getD i (0, 0)).1 = (b.Cmds.getD i (0, 0)).1) && decide ((a.Cmds.getD i (0, 0)).2 = (b.Cmds.getD i (0, 0)).2)))) (fun _ h => h) rfl (q_neqS rfl rfl (eqS49 _ _ _ _) eqG49) ?_)
  repeat refine gs1 ?_
  refine AW.cond rfl (fun hc => ?_) fun hc => ?_
  ·
   repeat refine gs1 ?_
   exact fin_res (vs := [.bool false]) rfl rfl ⟨.tmp rfl, trivial⟩ rfl (fun w' hw => ⟨by
    have hz : Mn.sameO a b = false := by
     unfold Mn.sameO
     have : a.Cmds ≠ b.Cmds := fun he => by simp [he] at hc
     simp [this]
    rw [hz]; rfl, hw.below rfl⟩)
  ·
   have hc : a.Cmds.getD i (0, 0) = b.Cmds.getD i (0, 0) := by
    simp only [Bool.not_eq_false', Bool.and_eq_true, decide_eq_true_eq] at hc
    exact Prod.ext hc.1 hc.2
   repeat refine gs1 ?_
   exact Post.back (s' := _) (J' := _) (m' := _) (by omega) ⟨i + 1, rfl, rfl, rfl, by omega, fun j hj => by
    by_cases hji : j = i
    ·
     subst hji; exact hc
    ·
     exact hall j (by omega)⟩ ⟨rfl, rfl, rfl, trivial⟩ (fun _ h => h)
 ·
  have h : i = a.Cmds.length := by have := odF h; omega
  subst h
  repeat refine gs1 ?_
  exact fin_res (vs := [.bool true]) rfl rfl ⟨.tmp rfl, trivial⟩ rfl (fun w' hw => ⟨by
   have hz : Mn.sameO a b = true := by
    unfold Mn.sameO
    have : a.Cmds = b.Cmds := List.ext_getElem hlen fun i h1 h2 => by
     have := hall i h1
     rwa [gDD, gDD, List.getElem?_eq_getElem h1, List.getElem?_eq_getElem h2] at this
    simp [this, hu, hfl]
   rw [hz]; rfl, hw.below rfl⟩)
end Go.Proofs.YtjmeeofdffdpnaaGreatDoor
namespace Go.Proofs.YtjmeeofdffdpnaaGreatDoor
open Go Go.K Go.RowKit Go.K.Ev
open Ru (BasV NmS)
noncomputable def eStr : KL pg 9 (List UInt8) := KL.of (Maps.string_keyed Tryz.underlying9) (fun l => .string (bs l)) (fun l => l.length ≤ maxLen) (fun h => bs_inj (by simpa using h)) fun a ha => ⟨_, WideMaps.keyOf_string_mk Tryz.underlying9 (by rw [bs_size]; exact ha)⟩
noncomputable def mpP : Mp pg where
 ks := 9
 ki := 3
 LS := eStr
 LI := kInt
 hS := fun _ => rfl
 gS := fun _ h => h
 hI := fun _ => rfl
 gI := fun _ h => h
 ex := exV 238 230
 hex := exV_ok ⟨_, Tryz.func238, rfl, rfl, by kernel_rfl, by kernel_rfl⟩ ⟨_, Tryz.func230, rfl, rfl, by kernel_rfl, by kernel_rfl⟩
/-! ### the lexer -/
def tkS (l : List Bt.Token) : List S := l.flatMap fun t => [.c (.int .i64 t.Kind), .c (.string (bs t.Text)), .c (.int .i64 t.At)]
def scanO : Cl := fun k args H n => bif Nat.beq k 55 then match args with
 | [.one (.c (.string b))] => let r := Lx.scan b.data.toList
  bif Nat.ble b.data.toList.length maxLen && (Nat.blt 0 r.1.length && Nat.beq r.2.1.toNat 0) then (T.ins (.kn (tkS r.1)) 64 H n).map fun H => (.tu [.one (.sl n 0 0 r.1.length), .one (.c (.int .i64 r.2.1)), .one (.c (.int .i64 r.2.2))], H, n + 1) else none
 | _ => none else none
theorem tkS_dn {ρ : En} (l : List Bt.Token) : dnL ρ (tkS l) = some (l.flatMap fun t => [Value.int .i64 t.Kind, .string (bs t.Text), .int .i64 t.At]) := by
 have : tkS l = (l.flatMap fun t => [Value.int .i64 t.Kind, .string (bs t.Text), .int .i64 t.At]).map .c := by
  unfold tkS
  induction l with
  | nil => rfl
  | cons a l ih => simp only [List.flatMap_cons, List.map_append, ih]; rfl
 rw [this]; exact dnL_cs _
theorem flat3 (d : Bt.Token) : ∀ (l : List Bt.Token) (k : Nat) (x : Value), (l.flatMap fun t => [Value.int .i64 t.Kind, .string (bs t.Text), .int .i64 t.At])[k]? = some x → ∃ i j, k = i * 3 + j ∧ i < l.length ∧ [Value.int .i64 (l.getD i d).Kind, .string (bs (l.getD i d).Text), .int .i64 (l.getD i d).At][j]? = some x
 | [], k, x, h => by simp at h
 | a :: l, k, x, h => by
  rw [List.flatMap_cons] at h
  by_cases hk : k < 3
  ·
   rw [List.getElem?_append_left (by simpa using hk)] at h
   exact ⟨0, k, by omega, by simp, h⟩
  ·
   rw [List.getElem?_append_right (by simpa using Nat.le_of_not_lt hk)] at h
   obtain ⟨i, j, h1, h2, h3⟩ := flat3 d l (k - 3) x (by simpa using h)
   exact ⟨i + 1, j, by omega, by simpa using h2, by simpa using h3⟩
theorem scanO_ok {gl : Nat → Option Nat} : ClOK mpP gl scanO := by
 intro k args H n r hr ρ Φ C xs w hg hx hC hf hw
 unfold scanO at hr
 obtain ⟨hk, h1⟩ := bif_some hr
 clear hr
 have hk := nB hk
 subst hk
 split at h1
 rotate_left
 ·
  cases h1
 rename_i b
 obtain ⟨hb, h2⟩ := bif_some h1
 clear h1
 obtain ⟨H', hi, rfl⟩ := _root_.mS h2
 clear h2
 simp only [Bool.and_eq_true] at hb
 obtain ⟨hl, hpos, _⟩ := hb
 obtain rfl := sJ hx
 refine ⟨oK, ?_⟩
 have hbs : b = bs b.data.toList := rfl
 generalize b.data.toList = l at *
 subst hbs
 refine (Scan_c w Φ hw.phi (l := l) (Nat.le_of_ble_eq_true hl)).mono fun e w' hh => ?_
 obtain ⟨u, rfl, hbel, v, rfl, hrep⟩ := hh
 obtain ⟨A, cap, rfl, hA, hcap⟩ := hrep.sl
 have hpos' : 0 < (Lx.scan l).1.length := by simpa [Nat.blt_eq] using hpos
 obtain ⟨a, rfl⟩ := Option.isSome_iff_exists.1 (hA hpos')
 have hw' := hw.call hbel
 have hle := le_ext hbel hw.phi
 obtain ⟨L1, L2, e, e'⟩ := T.ins_L id hi
 have hC2 := hC.mono (En.le_put (a := (a, cap)) hf) hle
 have hk0 := hC2.ck
 rw [T.l, e] at hk0
 obtain ⟨C1, C2, rfl, h5, h6⟩ := ckL_app hk0
 refine ⟨_, rfl, ρ.put n (a, cap), C1 ++ C2, _, En.le_put hf, hle, fun v ev => ?_, ⟨by rw [T.l, e']; exact ckL_put (c := []) (o := id n) (x := .kn _) h5 rfl h6, fun o cs hm => ?_⟩, hf.put, hw'⟩
 ·
  obtain rfl := sJ ev
  have ha0 : a.add 0 = a := by simp [Addr.add]
  simp [dnV, dnEs, dnE, dn, put_self, hcap, ha0]
 ·
  rw [T.l, e'] at hm
  simp only [List.mem_append, List.mem_cons, Prod.mk.injEq, id] at hm
  rcases hm with h8 | ⟨rfl, h8⟩ | h8
  ·
   exact hC2.kn o cs (by rw [T.l, e]; exact List.mem_append_left _ h8)
  ·
   simp only [O.kn.injEq] at h8
   subst h8
   refine ⟨a, cap, _, put_self, tkS_dn _, fun k x hx w2 hw2 => ?_⟩
   obtain ⟨i, j, rfl, hi3, hj⟩ := flat3 default _ k x hx
   obtain ⟨cs, h9, h10⟩ := hrep.at_ i hi3
   obtain ⟨rfl, _⟩ := h9
   have h11 := h10 j x (by simpa [gDD, hi3] using hj)
   have h12 := (h11.mono hw2).cell
   have : Value.at (.slice (some a) (Lx.scan l).1.length cap) (i * Rep.sz Bt.Token + j) = a.add (i * 3 + j) := rfl
   rw [this] at h12
   exact h12
  ·
   exact hC2.kn o cs (by rw [T.l, e]; exact List.mem_append_right _ h8)
/-! ### programs in memory -/
mutual
def ckE (H : T) : Bt.Expr → List S → Bool
 | ⟨k, n, o, q, ks⟩, cs => match cs with
  | [a, b, c, d, s] => ckI k a && (ckI n b && (ckI o c && (ckI q d && ckSl H ks.length 56 (ckEl H ks) s)))
  | _ => false
def ckEl (H : T) : List Bt.Expr → List S → Bool
 | [], _ => true
 | x :: xs, cs => ckE H x (cs.take 5) && ckEl H xs (cs.drop 5)
end
section
variable {ρ : En} {Ψ : Hp} {H : T}
theorem five {a b c d s : S} {vs : List Value} (h : dnL ρ [a, b, c, d, s] = some vs) : ∃ a' b' c' d' s', dn ρ a = some a' ∧ dn ρ b = some b' ∧ dn ρ c = some c' ∧ dn ρ d = some d' ∧ dn ρ s = some s' ∧ vs = [a', b', c', d', s'] := by
 simp only [dnL, bI, mI, Option.some.injEq] at h
 obtain ⟨a', h1, _, ⟨b', h2, _, ⟨c', h3, _, ⟨d', h4, _, ⟨s', h5, _, rfl, rfl⟩, rfl⟩, rfl⟩, rfl⟩, rfl⟩ := h
 exact ⟨a', b', c', d', s', h1, h2, h3, h4, h5, rfl⟩
mutual
theorem ckE_ok (hF : Froz ρ Ψ H) : ∀ (x : Bt.Expr) (cs : List S) (vs : List Value), ckE H x cs = true → dnL ρ cs = some vs → rpE Ψ x vs
 | ⟨k, n, o, q, ks⟩, cs, vs, h, hd => by
  unfold ckE at h
  split at h
  rotate_left
  ·
   cases h
  rename_i a b c d s
  simp only [Bool.and_eq_true] at h
  obtain ⟨h1, h2, h3, h4, h5⟩ := h
  obtain ⟨a', b', c', d', s', g1, g2, g3, g4, g5, rfl⟩ := five hd
  obtain ⟨rfl, k1⟩ := ckI_ok h1 g1
  obtain ⟨rfl, k2⟩ := ckI_ok h2 g2
  obtain ⟨rfl, k3⟩ := ckI_ok h3 g3
  obtain ⟨rfl, k4⟩ := ckI_ok h4 g4
  obtain ⟨h6, h7, h8⟩ := ckSl_ok hF h5 g5
  unfold rpE
  rcases h8 with h8 | ⟨cs, us, h8, h9, h10⟩
  ·
   obtain rfl : ks = [] := List.length_eq_zero_iff.1 h8
   exact ⟨s', [], rfl, ⟨k1, k2, k3, k4⟩, h6, h7, by unfold rpX; rfl, fun i c hc => by simp at hc⟩
  ·
   obtain ⟨css, h11, h12⟩ := ckEl_ok hF ks cs us h8 h9
   exact ⟨s', css, rfl, ⟨k1, k2, k3, k4⟩, h6, h7, h11, fun i c hc j u hj => h10 _ _ (h12 i c hc j u hj)⟩
theorem ckEl_ok (hF : Froz ρ Ψ H) : ∀ (xs : List Bt.Expr) (cs : List S) (vs : List Value), ckEl H xs cs = true → dnL ρ cs = some vs → ∃ css, rpX Ψ xs css ∧ ∀ i c, css[i]? = some c → ∀ j u, c[j]? = some u → vs[i * 5 + j]? = some u
 | [], cs, vs, h, hd => ⟨[], by unfold rpX; rfl, fun i c hc => by simp at hc⟩
 | x :: xs, cs, vs, h, hd => by
  unfold ckEl at h
  simp only [Bool.and_eq_true] at h
  have h1 := ckE_ok hF x _ _ h.1 (dnL_take 5 hd)
  obtain ⟨css, h2, h3⟩ := ckEl_ok hF xs _ _ h.2 (dnL_drop 5 hd)
  refine ⟨vs.take 5 :: css, by unfold rpX; exact ⟨_, _, rfl, h1, h2⟩, fun i c hc j u hj => ?_⟩
  cases i with
  | zero =>
   obtain rfl : vs.take 5 = c := by simpa using hc
   rw [List.getElem?_take] at hj
   split at hj
   ·
    simpa using hj
   ·
    cases hj
  | succ i =>
   have := h3 i c (by simpa using hc) j u hj
   rw [List.getElem?_drop] at this
   rw [← this]
   congr 1; omega
end
theorem kids_ok (hF : Froz ρ Ψ H) {xs : List Bt.Expr} {s : S} {v : Value} (h : ckSl H xs.length 56 (ckEl H xs) s = true) (hd : dn ρ s = some v) : RepSl Ψ xs v := by
 obtain ⟨h6, h7, h8⟩ := ckSl_ok hF h hd
 refine ⟨h6, h7, fun i hi => ?_⟩
 rcases h8 with h8 | ⟨cs, us, h8, h9, h10⟩
 ·
  omega
 ·
  obtain ⟨css, h11, h12⟩ := ckEl_ok hF xs cs us h8 h9
  obtain ⟨c, h13, h14⟩ := (rpX_iff.1 h11).2 i hi
  exact ⟨c, h14, fun j u hj => h10 _ _ (h12 i c h13 j u hj)⟩
end
def ckB5 (H : T) (x : Bt.Expr) : List S → Bool
 | [a, b, c, d, s] => ckI x.Kind a && (ckI x.N b && (ckI x.Of c && (ckI x.Of2 d && ckSl H x.Kids.length 56 (ckEl H x.Kids) s)))
 | _ => false
theorem ckB5_ok {ρ : En} {Ψ : Hp} {H : T} (hF : Froz ρ Ψ H) {x : Bt.Expr} {cs : List S} {vs : List Value} (h : ckB5 H x cs = true) (hd : dnL ρ cs = some vs) : ∃ v, vs = exC x v ∧ wfE x ∧ RepSl Ψ x.Kids v := by
 unfold ckB5 at h
 split at h
 rotate_left
 ·
  cases h
 simp only [Bool.and_eq_true] at h
 obtain ⟨h1, h2, h3, h4, h5⟩ := h
 obtain ⟨a', b', c', d', s', g1, g2, g3, g4, g5, rfl⟩ := five hd
 obtain ⟨rfl, k1⟩ := ckI_ok h1 g1
 obtain ⟨rfl, k2⟩ := ckI_ok h2 g2
 obtain ⟨rfl, k3⟩ := ckI_ok h3 g3
 obtain ⟨rfl, k4⟩ := ckI_ok h4 g4
 exact ⟨s', rfl, ⟨k1, k2, k3, k4⟩, kids_ok hF h5 g5⟩
instance : Rfy Bt.RFunc where
 ck := fun H x cs => match cs with
  | a :: b :: c :: cs => ckB x.Name a && (ckS H x.Params b && (ckI x.Result c && ckB5 H x.Body cs))
  | _ => false
 ok := fun hF h hd => by
  split at h
  ·
   simp only [Bool.and_eq_true] at h
   simp only [dnL, bI, mI] at hd
   obtain ⟨a', h1, _, ⟨b', h2, _, ⟨c', h3, us, h4, rfl⟩, rfl⟩, rfl⟩ := hd
   obtain ⟨rfl, k1⟩ := ckB_ok h.1 h1
   have k2 := ckS_ok hF h.2.1 h2
   obtain ⟨rfl, k3⟩ := ckI_ok h.2.2.1 h3
   obtain ⟨v, rfl, k4, k5⟩ := ckB5_ok hF h.2.2.2 h4
   exact ⟨b', v, rfl, k1, k2, k3, k4, k5⟩
  ·
   cases h
instance : Rfy Bt.RClause where
 ck := fun H x cs => ckB5 H x.If (cs.take 5) && (match cs.drop 5 with
  | a :: cs => ckI x.Link a && ckB5 H x.To cs
  | _ => false)
 ok := fun {ρ Ψ H x cs vs} hF h hd => by
  obtain ⟨h1, h2⟩ := Bool.and_eq_true_iff.1 h
  obtain ⟨u, k1, k2, k3⟩ := ckB5_ok hF h1 (dnL_take 5 hd)
  have hd2 := dnL_drop 5 hd
  split at h2
  ·
   rename_i a cs' he
   rw [he] at hd2
   simp only [Bool.and_eq_true] at h2
   simp only [dnL, bI, mI] at hd2
   obtain ⟨a', h3, us, h4, h5⟩ := hd2
   obtain ⟨rfl, k4⟩ := ckI_ok h2.1 h3
   obtain ⟨v, rfl, k5, k6⟩ := ckB5_ok hF h2.2 h4
   refine ⟨u, v, ?_, k2, k3, k4, k5, k6⟩
   rw [← List.take_append_drop 5 vs, k1, ← h5]
  ·
   cases h2
def ckNm (H : T) (sz : Nat) (ns : List (List UInt8)) (s : S) : Bool := ckSl H ns.length 200 (fun cs => (List.range ns.length).all fun i => match cs[i * sz]? with
 | some (.c (.string b)) => decide (b.data.toList = ns.getD i []) && Nat.ble (ns.getD i []).length maxLen
 | _ => false) s
theorem ckNm_ok {ρ : En} {Ψ : Hp} {H : T} {sz : Nat} {ns : List (List UInt8)} {s : S} {v : Value} (hF : Froz ρ Ψ H) (h : ckNm H sz ns s = true) (hd : dn ρ s = some v) : NmS Ψ v sz ns := by
 obtain ⟨h1, h2, h3⟩ := ckSl_ok hF h hd
 have hb : ns.length ≤ 9223372036854775807 := by simp only [maxSl] at h2; omega
 rcases h3 with h3 | ⟨cs, vs, h4, h5, h6⟩
 ·
  exact ⟨h1, fun i hi => by omega, fun n hn => (by rw [List.length_eq_zero_iff.1 h3] at hn; cases hn), hb⟩
 have key : ∀ i (hi : i < ns.length), vs[i * sz]? = some (.string (bs ns[i])) ∧ ns[i].length ≤ maxLen := fun i hi => by
  have := List.all_eq_true.1 h4 i (List.mem_range.2 hi)
  split at this
  ·
   rename_i b hb
   simp only [Bool.and_eq_true, decide_eq_true_eq] at this
   obtain ⟨h7, h8⟩ := this
   have e : ns.getD i [] = ns[i] := by rw [gDD, List.getElem?_eq_getElem hi]; rfl
   rw [e] at h7 h8
   obtain ⟨x, hx, hx2⟩ := dnL_get h5 hb
   obtain rfl := sJ hx
   refine ⟨?_, Nat.le_of_ble_eq_true h8⟩
   rw [hx2, ← h7]
   rfl
  ·
   cases this
 exact ⟨h1, fun i hi => h6 _ _ (key i hi).1, fun n hn => by
  obtain ⟨i, hi, rfl⟩ := List.getElem_of_mem hn
  exact (key i hi).2, hb⟩
noncomputable def rightO (e : Ru.Env) (r : Bt.Rule) : Cl := fun k args H n => bif Nat.beq k 20 then match args with
 | [.ag [.c (.string _), s1, .c (.int .i64 _), s3, s4, s5, _, _, _, _, .c (.int .i64 _)], .ag [f, c]] =>
  bif ckNm H 1 e.owners s1 && (ckNm H 12 e.places s3 && (ckNm H 18 e.links s4 && (ckNm H 7 e.towns s5 && (ckS H r.Funcs f && ckS H r.Clauses c)))) then some (.e (.one (.c (.bool (Ru.rightR e r)))), H, n) else none
 | _ => none else none
theorem rightO_ok {gl : Nat → Option Nat} {e : Ru.Env} {r : Bt.Rule} : ClOK mpP gl (rightO e r) := by
 intro k args H n r' hr ρ Φ C xs w hg hx hC hf hw
 unfold rightO at hr
 obtain ⟨hk, h1⟩ := bif_some hr
 clear hr
 have hk := nB hk
 subst hk
 split at h1
 rotate_left
 ·
  cases h1
 rename_i a s1 ce s3 s4 s5 s6 s7 s8 s9 er f c
 obtain ⟨hb, h2⟩ := bif_some h1
 clear h1
 obtain rfl := sJ h2
 simp only [Bool.and_eq_true] at hb
 obtain ⟨b1, b2, b3, b4, b5, b6⟩ := hb
 simp only [dnEs, dnE, dnL, bI, mI, Option.some.injEq] at hx
 obtain ⟨_, ⟨_, ⟨a', ha, _, ⟨v1, g1, _, ⟨ce', hce, _, ⟨v3, g3, _, ⟨v4, g4, _, ⟨v5, g5, _, ⟨v6, g6, _, ⟨v7, g7, _, ⟨v8, g8, _, ⟨v9, g9, _, ⟨er', her, _, rfl, rfl⟩, rfl⟩, rfl⟩, rfl⟩, rfl⟩, rfl⟩, rfl⟩, rfl⟩, rfl⟩, rfl⟩, rfl⟩, rfl⟩, _, ⟨_, ⟨_, ⟨vf, gf, _, ⟨vc, gc, _, rfl, rfl⟩, rfl⟩, rfl⟩, _, rfl, rfl⟩, rfl⟩ := hx
 obtain rfl := sJ ha
 obtain rfl := sJ hce
 obtain rfl := sJ her
 have hF : Froz ρ (hp w) H := froz_ok hC fun c hc => hw.sat c hc
 refine ⟨oK, (ruleRight_c w (b := ⟨a.data.toList, v1, ce, v3, v4, v5, v6, v7, v8, v9, er⟩) (e := e) ⟨ckNm_ok hF b1 g1, ckNm_ok hF b2 g3, ckNm_ok hF b3 g4, ckNm_ok hF b4 g5⟩ (ckS_ok hF b5 gf) (ckS_ok hF b6 gc)).mono fun e' w' hh => ?_⟩
 obtain ⟨rfl, hbel⟩ := hh
 have hle := le_ext hbel hw.phi
 exact ⟨_, rfl, ρ, C, _, En.le_refl _, hle, fun v ev => by rw [← sJ ev]; rfl, hC.mono (En.le_refl _) hle, hf, hw.call hbel⟩
abbrev lvW : List Value := [Value.string (bs [111, 114]), .int .i64 12, .string (bs [111, 114]), .int .i64 12, .string (bs [97, 110, 100]), .int .i64 11, .string (bs [97, 110, 100]), .int .i64 11, .string (bs [43]), .int .i64 4, .string (bs [45]), .int .i64 5, .string (bs [42]), .int .i64 6, .string (bs [47]), .int .i64 7]
def gV (g : Nat) : Option Nat := bif Nat.beq g 0 then some 4 else bif Nat.beq g 1 then some 2 else bif Nat.beq g 5 then some 3 else none
abbrev moV : List Value := [Value.int .i64 31, .int .i64 29, .int .i64 31, .int .i64 30, .int .i64 31, .int .i64 30, .int .i64 31, .int .i64 31, .int .i64 30, .int .i64 31, .int .i64 30, .int .i64 31]
def knV : List (Nat × List S) := [(2, lvW.map .c), (3, mCells.map .c), (4, moV.map .c)]
def HV : T := (knT knV .nil).getD .nil
abbrev ρV : En := enL [(2, ⟨1, 0, none⟩, 0), (3, ⟨5, 0, none⟩, 0), (4, ⟨0, 0, none⟩, 0)]
def ruleV : Bt.Rule := ⟨[], [⟨⟨8, 0, 0, 0, [⟨0, 10, 0, 0, []⟩, ⟨1, 0, 1, 0, []⟩]⟩, 1, ⟨0, 1, 0, 0, []⟩⟩]⟩
def envV : Ru.Env := ⟨[[108, 97, 107, 101], [98, 114, 111, 111, 107]], [[112, 117, 98, 108, 105, 99]], [[103, 49], [103, 50]], [[111, 108, 100, 116, 111, 119, 110]]⟩
noncomputable def orV : Cl := fun k args H m => bif Nat.beq k 55 then scanO k args H m else bif Nat.beq k 56 then dfO mpP gV noCl 3000 k args H m else rightO envV ruleV k args H m
theorem orV_ok : ClOK mpP gV orV := fun k args H m r h => by
 unfold orV at h
 cases h1 : Nat.beq k 55 with
 | true => rw [h1] at h; exact scanO_ok k args H m r h
 | false =>
  rw [h1] at h
  simp only [cond_false] at h
  cases h2 : Nat.beq k 56 with
  | true => rw [h2] at h; simp only [cond_true] at h; exact dfO_ok hmix noCl_ok 3000 k args H m r h
  | false =>
   rw [h2] at h
   simp only [cond_false] at h
   exact rightO_ok k args H m r h
def isT : V → Bool
 | .e (.one (.c (.bool true))) => true
 | _ => false
theorem isT_ok {v : V} (h : isT v = true) : v = .e (.one (.c (.bool true))) := by
 unfold isT at h
 split at h
 ·
  rfl
 ·
  cases h
noncomputable def goV : Bool := match callE mpP gV orV 3000 9 [] HV 5 with
 | some x => isT x.1
 | none => false
theorem HV_kn {Φ : Hp} (hG : Knows Φ Glob) : CR mpP.mc ρV Φ HV [] := by
 have hs : knT knV .nil = some HV := by
  have : (knT knV .nil).isSome = true := by decide +kernel
  obtain ⟨x, hx⟩ := Option.isSome_iff_exists.1 this
  unfold HV
  rw [hx]; rfl
 refine knT_ok hs (fun p hp => ?_) CR.nil
 have ha : ∀ b k, (⟨b, 0, none⟩ : Addr).add k = ⟨b, k, none⟩ := fun b k => add_base
 simp only [knV, List.mem_cons, List.not_mem_nil, or_false] at hp
 rcases hp with rfl | rfl | rfl
 ·
  exact ⟨_, _, _, rfl, dnL_cs _, fun k x hx w hw => by rw [ha]; exact (hG w hw).2.1 k x hx⟩
 ·
  exact ⟨_, _, _, rfl, dnL_cs _, fun k x hx w hw => by rw [ha]; exact (hG w hw).1 k x hx⟩
 ·
  exact ⟨_, _, _, rfl, dnL_cs _, fun k x hx w hw => by rw [ha]; exact (hG w hw).2.2 k x hx⟩
theorem goV_ok : goV = true := by decide +kernel
theorem smallV_c (w : World) (Φ : Hp) (hΦ : Hp.le Φ (hp w)) (hG : Knows Φ Glob) : Calls pg 9 #[] w (fun e w' => e = .returned (.bool true) ∧ Bel w.heap.size w w') := by
 have h := goV_ok
 unfold goV at h
 split at h
 rotate_left
 ·
  cases h
 rename_i x hx
 refine (ev_ret (callE_sound hmix orV_ok 3000) hx (xs := []) hΦ (ρ := ρV) (fun g o e => ?_) rfl (HV_kn hG) (fun o ho => ?_) (T := fun v _ => v = .bool true) (fun ρ' Ψ v hF hv => ?_) (fun v Ψ Ψ' hl hT => hT)).2.mono fun e w' hh => ?_
 ·
  unfold gV at e
  cases g0 : Nat.beq g 0 with
  | true =>
   rw [g0] at e
   obtain rfl := nB g0
   obtain rfl := sJ e
   exact ⟨_, rfl⟩
  | false =>
   rw [g0] at e
   simp only [cond_false] at e
   cases g1 : Nat.beq g 1 with
   | true =>
    rw [g1] at e
    obtain rfl := nB g1
    obtain rfl := sJ e
    exact ⟨_, rfl⟩
   | false =>
    rw [g1] at e
    simp only [cond_false] at e
    obtain ⟨g2, e⟩ := bif_some e
    obtain rfl := nB g2
    obtain rfl := sJ e
    exact ⟨_, rfl⟩
 ·
  simp only [ρV, enL]
  rw [if_neg (by omega), if_neg (by omega), if_neg (by omega)]
 ·
  rw [isT_ok h] at hv
  exact (sJ hv).symm
 ·
  obtain ⟨v, rfl, hbel, rfl⟩ := hh
  exact ⟨rfl, hbel⟩
end Go.Proofs.YtjmeeofdffdpnaaGreatDoor
namespace Go.Proofs.YtjmeeofdffdpnaaGreatDoor
open Go Go.K Go.RowKit
open Ru (pB BasV)
attribute [local irreducible] AW RW DW Post Qt
theorem sameO_rfl (a : Bt.Order) : Mn.sameO a a = true := by unfold Mn.sameO; simp
theorem vmMeans_c (w : World) (Φ : Hp) (hΦ : Hp.le Φ (hp w)) (hG : Knows Φ Glob) {b : BasV} {e : Ru.Env} {ps : List Int} (hb : b.ok Φ e) (hpos : PosS Φ b.lv ps) (hpl : ps.length = e.links.length) (hpm : ps.length * 200 ≤ maxSl) (hpi : ∀ x ∈ ps, I64 x) {r : Bt.Rule} {fv cv : Value} (hf : RepSl Φ r.Funcs fv) (hc : RepSl Φ r.Clauses cv) {f : Bt.Facts} {yf : FcV} (hy : yf.ok Φ f) (hh : I64 f.Hour) :
   Calls pg 7 #[.agg b.cs.toArray, .agg #[fv, cv], .agg (fcC yf f.Hour).toArray] w fun e w' => e = .returned (.bool true) ∧ Bel w.heap.size w w' := by
 obtain ⟨fA, fc, rfl, _⟩ := hf.sl
 obtain ⟨cA, cc, rfl, _⟩ := hc.sl
 have hps := hb.p.sl
 have hos := hb.o.sl
 have hls := hb.l.sl
 have hts := hb.t.sl
 refine calls_of_AW (args := [.agg b.cs.toArray, .agg #[.slice fA r.Funcs.length fc, .slice cA r.Clauses.length cc], .agg (fcC yf f.Hour).toArray]) Tryz.func7 rfl (lBT rfl) (St ⟨w, Φ, []⟩ Φ []) (StP.init w Φ hΦ []) ?_
 show AW _ _ [] _ _ _ [(0, .agg b.cs.toArray), (1, .agg #[.slice fA r.Funcs.length fc, .slice cA r.Clauses.length cc]), (2, .agg (fcC yf f.Hour).toArray)] _
 repeat refine gs1 ?_
 refine RW.bxA (cs := b.cs) rfl rfl fun b3 => ?_
 refine RW.bxA (cs := (rS2 fA fc cA cc r)) rfl rfl fun b4 => ?_
 refine RW.bxA (cs := fcC yf f.Hour) rfl rfl fun b5 => ?_
 repeat refine gs1 ?_
 refine RW.q rfl (q_call (args := #[]) oK rfl rfl (fun w1 hw1 => smallV_c w1 Φ hw1.phi hG)) ?_
 repeat refine gs1 ?_
 refine RW.q rfl (q_call (args := #[.agg #[.slice fA r.Funcs.length fc, .slice cA r.Clauses.length cc]]) oK rfl rfl (fun w1 hw1 => few_c w1 (hf.mono hw1.phi) (hc.mono hw1.phi))) ?_
 repeat refine gs1 ?_
 refine AW.cond rfl (fun h => ?_) fun h => ?_
 · repeat refine gs1 ?_
   exact fin_res (vs := [.bool true]) rfl rfl ⟨.tmp rfl, trivial⟩ rfl (fun w' hw => ⟨rfl, hw.below rfl⟩)
 have hfw : Mn.few r = true := by simpa using h
 have hnd := Vm.few_nd hfw
 have hcl := Vm.cops_len r
 repeat refine gs1 ?_
 refine RW.eff _ _ rfl (e_callS (args := #[.agg #[.slice fA r.Funcs.length fc, .slice cA r.Clauses.length cc]]) oK rfl rfl (fun w1 hw1 => comp_c w1 Φ (hf.mono hw1.phi) (hc.mono hw1.phi) (by omega))) ?_
 rintro ⟨⟨v, Ψ⟩, ⟨⟨o2, f2, t2⟩, hv, ho⟩, hle⟩
 simp only at hv ho hle ⊢
 subst hv
 have ho2 : RepSl Ψ (Vm.compile r).Ops o2 := ho.o
 have hf2 : RepSl Ψ (Vm.compile r).Funcs f2 := ho.f
 have ht2 : RepSl Ψ (Vm.compile r).Starts t2 := ho.s
 refine RW.alc rfl fun b9 => ?_
 repeat refine gs1 ?_
 refine RW.effn (J' := St ⟨w, Φ, []⟩ Ψ [.blk b9 38 (cdC o2 f2 t2), .blk b5 41 (fcC yf f.Hour), .blk b4 35 (rS2 fA fc cA cc r), .blk b3 31 b.cs]) (by
   obtain ⟨A2, c2, rfl, _⟩ := ho2.sl
   obtain ⟨B2, d2, rfl, _⟩ := hf2.sl
   obtain ⟨E2, e2, rfl, _⟩ := ht2.sl
   exact e_store (v := .agg (cdC (.slice A2 (Vm.compile r).Ops.length c2) (.slice B2 (Vm.compile r).Funcs.length d2) (.slice E2 (Vm.compile r).Starts.length e2)).toArray) 0 rfl rfl rfl sz38 rfl rfl rfl rfl rfl) ?_
 repeat refine gs1 ?_
 refine RW.q rfl (q_call (args := #[.agg b.cs.toArray, .agg #[.slice fA r.Funcs.length fc, .slice cA r.Clauses.length cc]]) oK rfl rfl (fun w1 hw1 => ruleRight_c w1 (hb.mono (hle.trans hw1.phi)) (hf.mono (hle.trans hw1.phi)) (hc.mono (hle.trans hw1.phi)))) ?_
 repeat refine gs1 ?_
 refine RW.g (b := Ru.rightR e r) (v := .bool (Vm.soP r)) rfl rfl rfl (fun h => q_as (q_call (args := #[.agg #[.slice fA r.Funcs.length fc, .slice cA r.Clauses.length cc], .agg (cdC o2 f2 t2).toArray]) oK rfl (args2 (gv_pos h) (gv_pos h)) (fun w1 hw1 => vRight_c w1 (hf.mono (hle.trans hw1.phi)) (hc.mono (hle.trans hw1.phi)) (by omega) (ho2.mono hw1.phi) (hf2.mono hw1.phi) (ht2.mono hw1.phi))) (congrArg Value.bool (by rw [decide_eq_true rfl, Bool.and_true]))) ?_
 repeat refine gs1 ?_
 obtain ⟨c1, hc1⟩ : ∃ c, c = (Ru.rightR e r && !Vm.soP r) := ⟨_, rfl⟩
 obtain ⟨c2, hc2⟩ : ∃ c, c = (c1 && decide ((e.places.length : Int) ≤ 1000)) := ⟨_, rfl⟩
 obtain ⟨c3, hc3⟩ : ∃ c, c = (c2 && decide ((e.owners.length : Int) ≤ 1000)) := ⟨_, rfl⟩
 obtain ⟨c4, hc4⟩ : ∃ c, c = (c3 && decide ((e.links.length : Int) ≤ 1000)) := ⟨_, rfl⟩
 obtain ⟨c5, hc5⟩ : ∃ c, c = (c4 && decide ((e.towns.length : Int) ≤ 1000)) := ⟨_, rfl⟩
 refine RW.q (v := .bool c1) rfl (q_as (qpA rfl rfl rfl) (congrArg Value.bool hc1.symm)) ?_
 repeat refine gs1 ?_
 refine RW.g (b := c1) (v := .int .i64 (e.places.length : Int)) rfl rfl rfl (fun h => q_len_sl (gv_pos h) hps Tryz.underlying23) ?_
 repeat refine gs1 ?_
 refine RW.q (v := .bool c2) rfl (q_as (qpA rfl rfl rfl) (congrArg Value.bool hc2.symm)) ?_
 repeat refine gs1 ?_
 refine RW.g (b := c2) (v := .int .i64 (e.owners.length : Int)) rfl rfl rfl (fun h => q_len_sl (gv_pos h) hos Tryz.underlying22) ?_
 repeat refine gs1 ?_
 refine RW.q (v := .bool c3) rfl (q_as (qpA rfl rfl rfl) (congrArg Value.bool hc3.symm)) ?_
 repeat refine gs1 ?_
 refine RW.g (b := c3) (v := .int .i64 (e.links.length : Int)) rfl rfl rfl (fun h => q_len_sl (gv_pos h) hls Tryz.underlying24) ?_
 repeat refine gs1 ?_
 refine RW.q (v := .bool c4) rfl (q_as (qpA rfl rfl rfl) (congrArg Value.bool hc4.symm)) ?_
 repeat refine gs1 ?_
 refine RW.g (b := c4) (v := .int .i64 (e.towns.length : Int)) rfl rfl rfl (fun h => q_len_sl (gv_pos h) hts Tryz.underlying25) ?_
 repeat refine gs1 ?_
 refine RW.q (v := .bool c5) rfl (q_as (qpA rfl rfl rfl) (congrArg Value.bool hc5.symm)) ?_
 repeat refine gs1 ?_
 refine AW.cond rfl (fun h => ?_) fun _ => ?_
 · exfalso
   subst hc5 hc4 hc3 hc2 hc1
   simp only [Bool.and_eq_true, decide_eq_true_eq, Bool.not_eq_true'] at h
   obtain ⟨⟨⟨⟨⟨hr, hns⟩, h1⟩, h2⟩, h3⟩, h4⟩ := h
   have := Vm.right_so (e := e) (r := r) ⟨by omega, by omega, by omega, by omega⟩ (fun q hq => (jright_f hr q hq).1) fun c hc => ⟨(jright_c hr c hc).2.2.1, (jright_c hr c hc).2.2.2⟩
   rw [this] at hns
   cases hns
 clear hc1 hc2 hc3 hc4 hc5
 repeat refine gs1 ?_
 refine RW.q (v := .bool (Vm.soP r)) rfl (q_as (q_call (args := #[.agg #[.slice fA r.Funcs.length fc, .slice cA r.Clauses.length cc], .agg (cdC o2 f2 t2).toArray]) oK rfl rfl (fun w1 hw1 => vRight_c w1 (hf.mono (hle.trans hw1.phi)) (hc.mono (hle.trans hw1.phi)) (by omega) (ho2.mono hw1.phi) (hf2.mono hw1.phi) (ht2.mono hw1.phi))) (congrArg Value.bool (by rw [decide_eq_true rfl, Bool.and_true]))) ?_
 repeat refine gs1 ?_
 refine AW.cond rfl (fun h => ?_) fun h => ?_
 · have hns : Vm.soP r = false := by simpa using h
   repeat refine gs1 ?_
   refine RW.g (b := true) (v := .agg (orC (.slice none 0 0) 0 1).toArray) rfl rfl rfl (fun h => q_call (args := #[.agg b.cs.toArray, .agg #[.slice fA r.Funcs.length fc, .slice cA r.Clauses.length cc], .agg (cdC o2 f2 t2).toArray, .agg (fcC yf f.Hour).toArray]) oK rfl (by exact args4 (gv_pos h) (gv_pos h) (gv_pos h) (gv_pos h)) (fun w1 hw1 => vRunBad_c w1 (hb.mono (hle.trans hw1.phi)) (hf.mono (hle.trans hw1.phi)) (hc.mono (hle.trans hw1.phi)) (by omega) (ho2.mono hw1.phi) (hf2.mono hw1.phi) (ht2.mono hw1.phi) (by rw [hns]; simp))) ?_
   repeat refine gs1 ?_
   refine RW.q (v := .bool true) rfl (q_pick rfl (fun _ => rfl) (fun h => nomatch h)) ?_
   repeat refine gs1 ?_
   exact fin_res (vs := [.bool true]) rfl rfl ⟨.tmp rfl, trivial⟩ rfl (fun w' hw => ⟨rfl, (StP.less hw (Hp.le_refl _)).below rfl⟩)
 have hso : Vm.soP r = true := by simpa using h
 have hvr : vrun e ps r (Vm.compile r) f = Mn.run e ps r f := by
   unfold vrun Mn.run
   rw [hso, decide_eq_true rfl, Bool.and_true, Bool.and_true]
 repeat refine gs1 ?_
 refine AW.drawZ (J0 := St ⟨w, Φ, []⟩ Ψ [.blk b9 38 (cdC o2 f2 t2), .blk b5 41 (fcC yf f.Hour), .blk b4 35 (rS2 fA fc cA cc r), .blk b3 31 b.cs]) [.q, .q, .q, .q, .q, .q, .q, .e, .e, .e, .q] [0, 1, 2, 3, 5, 6, 7, 4, 8, 9, 10] hmix (by kernel_rfl) ?_
 refine DW.q (v := .agg b.cs.toArray) (fun _ h => h) rfl (qa_ldA (cs := b.cs) rfl (Cells.blk 3 rfl) rfl) ?_
 refine DW.q (v := .agg #[.slice fA r.Funcs.length fc, .slice cA r.Clauses.length cc]) (fun _ h => h) rfl (qa_ldA (cs := (rS2 fA fc cA cc r)) rfl (Cells.blk 2 rfl) rfl) ?_
 refine DW.q (v := .agg (cdC o2 f2 t2).toArray) (fun _ h => h) rfl (qa_ldA (cs := cdC o2 f2 t2) rfl (Cells.blk 0 rfl) rfl) ?_
 refine DW.q (v := .agg (fcC yf f.Hour).toArray) (fun _ h => h) rfl (qa_ldA (cs := fcC yf f.Hour) rfl (Cells.blk 1 rfl) rfl) ?_
 refine DW.q (v := .agg b.cs.toArray) (fun _ h => h) rfl (qa_ldA (cs := b.cs) rfl (Cells.blk 3 rfl) rfl) ?_
 refine DW.q (v := .agg #[.slice fA r.Funcs.length fc, .slice cA r.Clauses.length cc]) (fun _ h => h) rfl (qa_ldA (cs := (rS2 fA fc cA cc r)) rfl (Cells.blk 2 rfl) rfl) ?_
 refine DW.q (v := .agg (fcC yf f.Hour).toArray) (fun _ h => h) rfl (qa_ldA (cs := fcC yf f.Hour) rfl (Cells.blk 1 rfl) rfl) ?_
 refine DW.eff _ _ (fun _ x w1 h => StP.less h x.2.2) rfl (e_callS (args := #[.agg b.cs.toArray, .agg #[.slice fA r.Funcs.length fc, .slice cA r.Clauses.length cc], .agg (cdC o2 f2 t2).toArray, .agg (fcC yf f.Hour).toArray]) oK rfl rfl (fun w1 hw1 => vRun_c w1 Ψ hw1.phi (hG.mono hle) (hb.mono hle) (hpos.mono hle) hpl hpm hpi (hf.mono hle) (hc.mono hle) (by omega) ho2 hf2 ht2 (hy.mono hle) hh)) ?_
 rintro ⟨⟨v1, Ψ1⟩, ⟨cv1, hv1, hs1⟩, hle1⟩
 simp only at hv1 hs1 hle1 ⊢
 subst hv1
 rw [hvr] at hs1 ⊢
 refine DW.eff _ _ (fun _ x w1 h => StP.less h (hle1.trans x.2.2)) rfl (e_callS (args := #[.agg b.cs.toArray, .agg #[.slice fA r.Funcs.length fc, .slice cA r.Clauses.length cc], .agg (fcC yf f.Hour).toArray]) oK rfl rfl (fun w1 hw1 => mRun_c w1 Ψ1 hw1.phi (hG.mono (hle.trans hle1)) (hb.mono (hle.trans hle1)) (hpos.mono (hle.trans hle1)) hpl hpm hpi (hf.mono (hle.trans hle1)) (hc.mono (hle.trans hle1)) (hy.mono (hle.trans hle1)) hh)) ?_
 rintro ⟨⟨v2, Ψ2⟩, ⟨cv2, hv2, hs2⟩, hle2⟩
 simp only at hv2 hs2 hle2 ⊢
 subst hv2
 have hs1' := hs1.mono hle2
 refine DW.eff (X := Unit) (fun _ => .bool true) (fun _ => St ⟨w, Φ, []⟩ Ψ2 [.blk b9 38 (cdC o2 f2 t2), .blk b5 41 (fcC yf f.Hour), .blk b4 35 (rS2 fA fc cA cc r), .blk b3 31 b.cs]) (fun _ _ w1 h => StP.less h (hle1.trans hle2)) rfl (e_quiet (q_as (q_call (args := #[.agg (orC cv1 (Mn.run e ps r f).Used (Mn.run e ps r f).Fault).toArray, .agg (orC cv2 (Mn.run e ps r f).Used (Mn.run e ps r f).Fault).toArray]) oK rfl rfl (fun w1 hw1 => oSame_c w1 (hs1'.mono hw1.phi) (hs2.mono hw1.phi))) (congrArg Value.bool (sameO_rfl _)))) fun _ => ?_
 refine DW.q (v := .bool true) (fun w1 h => StP.less h (hle1.trans hle2)) rfl (q_assign rfl) ?_
 repeat refine gs1 ?_
 refine RW.q (v := .bool true) rfl (q_pick rfl (fun _ => rfl) (fun h => nomatch h)) ?_
 repeat refine gs1 ?_
 exact fin_res (vs := [.bool true]) rfl rfl ⟨.tmp rfl, trivial⟩ rfl (fun w' hw => ⟨rfl, (StP.less hw (Hp.le_refl _)).below rfl⟩)
end Go.Proofs.YtjmeeofdffdpnaaGreatDoor
