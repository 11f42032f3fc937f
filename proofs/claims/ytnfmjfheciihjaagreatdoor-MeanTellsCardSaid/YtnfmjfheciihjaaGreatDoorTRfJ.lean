/- Lemmas. Conditions: those of each theorem. -/
import Derived.Test.YtnfmjfheciihjaaGreatDoorTRfG
set_option maxRecDepth 8000
set_option maxHeartbeats 16000000
namespace Go.Proofs.YtnfmjfheciihjaaGreatDoor
open Go Go.K Go.RowKit
open Ru (pB NmS BasV BigE)
attribute [local irreducible] AW RW DW Post Qt
abbrev rX (r : Bt.Rule) (i : Nat) (Aa : Option Addr) (ca : Nat) (Ab : Option Addr) (cb : Nat) : List Value := rcC (r.Clauses.getD i default) (.slice Aa (r.Clauses.getD i default).If.Kids.length ca) (.slice Ab (r.Clauses.getD i default).To.Kids.length cb)
theorem has_eq {e : Ru.Env} {fs : List Bt.RFunc} {ts : List Int} {x : Bt.Expr} {k : Int} : (!(Ru.jx e fs ts 40 x).2 || !decide ((Ru.jx e fs ts 40 x).1 = k)) = !Ru.jhas e fs ts x k := by
  unfold Ru.jhas; rw [Bool.not_and]
theorem cl_eq : ∀ d r1 r2 k1 k2 : Bool, ((((!d || !r1) || !r2) || !k1) || !k2) = !(d && (r1 && k1) && (r2 && k2)) := by decide
theorem fRight_c (w : World) (Φ : Hp) (hΦ : Hp.le Φ (hp w)) {b : BasV} {e : Ru.Env} (hb : b.ok Φ e) (hB : BigE e) {r : Bt.Rule} {fv cv : Value} (hf : RepSl Φ r.Funcs fv) (hc : RepSl Φ r.Clauses cv) :
    Calls pg 24 #[.agg b.cs.toArray, .agg #[fv, cv]] w fun e' w' => e' = .returned (.bool (Ru.rightR e r)) ∧ Bel w.heap.size w w' := by
  have hfs := hf.sl
  have hcs := hc.sl
  have hfb : r.Funcs.length * 104 ≤ maxSl := hf.max
  have hcb : r.Clauses.length * 120 ≤ maxSl := hc.max
  simp only [maxSl] at hfb hcb
  obtain ⟨fA, fc, rfl, _⟩ := hf.sl
  obtain ⟨cA, cc, rfl, _⟩ := hc.sl
  refine calls_of_AW (args := [.agg b.cs.toArray, .agg #[.slice fA r.Funcs.length fc, .slice cA r.Clauses.length cc]]) Tryz.func24 rfl (lBT rfl) (St ⟨w, Φ, []⟩ Φ []) (StP.init w Φ hΦ []) ?_
  show AW _ _ [] _ _ _ [(0, .agg b.cs.toArray), (1, .agg #[.slice fA r.Funcs.length fc, .slice cA r.Clauses.length cc])] _
  repeat refine gs1 ?_
  refine RW.bxA (cs := b.cs) rfl rfl fun b2 => ?_
  refine RW.bxA (cs := (rS2 fA fc cA cc r)) rfl rfl fun b3 => ?_
  repeat refine gs1 ?_
  refine RW.q (v := .bool (Ru.jhead [] r.Funcs)) rfl (q_call (args := #[.agg #[.slice fA r.Funcs.length fc, .slice cA r.Clauses.length cc]]) oK rfl rfl (fun w1 hw1 => fheaded_c w1 Φ hw1.phi hf hcs)) ?_
  repeat refine gs1 ?_
  refine AW.cond rfl (fun c => ?_) fun c => ?_
  · have c : Ru.jhead [] r.Funcs = false := by simpa using c
    have hz : Ru.rightR e r = false := by unfold Ru.rightR; rw [c]; rfl
    repeat refine gs1 ?_
    exact fin_res (vs := [.bool false]) rfl rfl ⟨.tmp rfl, trivial⟩ rfl (fun w' hw => ⟨by rw [hz]; rfl, hw.below rfl⟩)
  have hhd : Ru.jhead [] r.Funcs = true := by simpa using c
  repeat refine gs1 ?_
  refine AW.loop (fun s J q => ∃ i : Nat, s = [(2, pB b2), (3, pB b3), (5, .int .i64 (i : Int))] ∧ J = St ⟨w, Φ, []⟩ Φ [.blk b3 35 (rS2 fA fc cA cc r), .blk b2 31 b.cs] ∧ q = r.Funcs.length - i ∧ i ≤ r.Funcs.length ∧ (r.Funcs.take i).all (fun f => Ru.jhas e r.Funcs f.Params f.Body f.Result) = true) (s0 := _) (J1 := _) (m0 := _) ⟨0, rfl, rfl, rfl, Nat.zero_le _, rfl⟩ ⟨rfl, rfl, rfl, trivial⟩ (fun _ h => h) ?_
  rintro _ _ _ _ ⟨i, rfl, rfl, rfl, hi, hbd⟩
  repeat refine gs1 ?_
  refine AW.cond rfl (fun h => ?_) fun h => ?_
  · have h : i < r.Funcs.length := by have := odT h; omega
    obtain ⟨qv, Ab, cb, hpb, hqv, hbk, hwb, hnm, hres⟩ := funW hf h
    obtain ⟨qA, qc, rfl, _⟩ := hqv.sl
    have hget : (r.Funcs.getD i default) = r.Funcs[i] := by rw [gDD, List.getElem?_eq_getElem h]; rfl
    repeat refine gs1 ?_
    refine RW.alc rfl fun b6 => ?_
    repeat refine gs1 ?_
    refine AW.drawZ (J0 := St ⟨w, Φ, []⟩ Φ [.blk b6 71 (rfC (r.Funcs.getD i default) (.slice qA (r.Funcs.getD i default).Params.length qc) (.slice Ab (r.Funcs.getD i default).Body.Kids.length cb)), .blk b3 35 (rS2 fA fc cA cc r), .blk b2 31 b.cs]) [.q, .q, .q, .q, .q, .q, .q, .q, .q, .q, .q, .q, .q, .q, .q, .q, .q, .q, .q] [0, 1, 2, 3, 4, 5, 6, 7, 8, 9, 10, 11, 12, 13, 14, 15, 16, 17, 18] hmix (by kernel_rfl) ?_
    repeat refine gs1 ?_
    refine DW.q (v := .agg (exC (r.Funcs.getD i default).Body (.slice Ab (r.Funcs.getD i default).Body.Kids.length cb)).toArray) (fun _ h => h) rfl (qa_ldA (cs := (exC (r.Funcs.getD i default).Body (.slice Ab (r.Funcs.getD i default).Body.Kids.length cb))) rfl (Cells.blkP 0 rfl (fun j u hj => by rw [Nat.add_comm]; exact hj)) rfl) ?_
    repeat refine gs1 ?_
    refine DW.q (v := .bool (Ru.jx e r.Funcs (r.Funcs.getD i default).Params 40 (r.Funcs.getD i default).Body).2) (fun _ h => h) rfl (q_call (args := #[.agg b.cs.toArray, .agg #[.slice fA r.Funcs.length fc, .slice cA r.Clauses.length cc], .agg (exC (r.Funcs.getD i default).Body (.slice Ab (r.Funcs.getD i default).Body.Kids.length cb)).toArray, .slice qA (r.Funcs.getD i default).Params.length qc, .int .i64 ((40 : Nat) : Int)]) oK rfl rfl (fun w1 hw1 => fright_c 40 w1 hw1.phi hb hB hf hcs hbk hqv (by omega))) ?_
    repeat refine gs1 ?_
    refine DW.g (b := !(Ru.jx e r.Funcs (r.Funcs.getD i default).Params 40 (r.Funcs.getD i default).Body).2) (v := .agg (exC (r.Funcs.getD i default).Body (.slice Ab (r.Funcs.getD i default).Body.Kids.length cb)).toArray) (fun _ h => h) rfl rfl rfl (fun h => qa_ldA (cs := (exC (r.Funcs.getD i default).Body (.slice Ab (r.Funcs.getD i default).Body.Kids.length cb))) (gv_pos h) (Cells.blkP 0 rfl (fun j u hj => by rw [Nat.add_comm]; exact hj)) rfl) ?_
    repeat refine gs1 ?_
    refine DW.g (b := !(Ru.jx e r.Funcs (r.Funcs.getD i default).Params 40 (r.Funcs.getD i default).Body).2) (v := .int .i64 (Ru.jx e r.Funcs (r.Funcs.getD i default).Params 40 (r.Funcs.getD i default).Body).1) (fun _ h => h) rfl rfl rfl (fun h => q_call (args := #[.agg #[.slice fA r.Funcs.length fc, .slice cA r.Clauses.length cc], .agg (exC (r.Funcs.getD i default).Body (.slice Ab (r.Funcs.getD i default).Body.Kids.length cb)).toArray, .slice qA (r.Funcs.getD i default).Params.length qc]) oK rfl (args3 (gv_pos h) (gv_pos h) (gv_pos h)) (fun w1 hw1 => fKind_c 40 w1 hw1.phi hf hcs hbk hqv (by simpa using h))) ?_
    repeat refine gs1 ?_
    refine DW.q (v := .bool (!Ru.jhas e r.Funcs (r.Funcs.getD i default).Params (r.Funcs.getD i default).Body (r.Funcs.getD i default).Result)) (fun _ h => h) rfl (q_as (qpO rfl rfl rfl) (congrArg Value.bool has_eq)) ?_
    repeat refine gs1 ?_
    refine AW.cond rfl (fun c => ?_) fun c => ?_
    · have c : Ru.jhas e r.Funcs (r.Funcs.getD i default).Params (r.Funcs.getD i default).Body (r.Funcs.getD i default).Result = false := by simpa using c
      have hz : Ru.rightR e r = false := by unfold Ru.rightR; rw [show r.Funcs.all (fun f => Ru.jhas e r.Funcs f.Params f.Body f.Result) = false from List.all_eq_false.2 ⟨(r.Funcs.getD i default), by rw [hget]; exact List.getElem_mem h, by rw [c]; simp⟩]; simp
      repeat refine gs1 ?_
      exact fin_res (vs := [.bool false]) rfl rfl ⟨.tmp rfl, trivial⟩ rfl (fun w' hw => ⟨by rw [hz]; rfl, hw.below rfl⟩)
    have c : Ru.jhas e r.Funcs (r.Funcs.getD i default).Params (r.Funcs.getD i default).Body (r.Funcs.getD i default).Result = true := by simpa using c
    repeat refine gs1 ?_
    exact Post.back (s' := _) (J' := _) (m' := _) (by omega) ⟨i + 1, rfl, rfl, rfl, by omega, by rw [Ru.take_snoc h, List.all_append, hbd, ← hget, List.all_cons, List.all_nil, c]; rfl⟩ ⟨rfl, rfl, rfl, trivial⟩ (fun _ h => StP.sel h [1, 2] (by decide) rfl)
  have h : i = r.Funcs.length := by have := odF h; omega
  subst h
  rw [List.take_length] at hbd
  repeat refine gs1 ?_
  refine AW.loop (fun s J q => ∃ i : Nat, s = [(2, pB b2), (3, pB b3), (7, .int .i64 (i : Int))] ∧ J = St ⟨w, Φ, []⟩ Φ [.blk b3 35 (rS2 fA fc cA cc r), .blk b2 31 b.cs] ∧ q = r.Clauses.length - i ∧ i ≤ r.Clauses.length ∧ (r.Clauses.take i).all (Ru.jcl e r.Funcs) = true) (s0 := _) (J1 := _) (m0 := _) ⟨0, rfl, rfl, rfl, Nat.zero_le _, rfl⟩ ⟨rfl, rfl, rfl, trivial⟩ (fun _ h => h) ?_
  rintro _ _ _ _ ⟨i, rfl, rfl, rfl, hi, hcd⟩
  repeat refine gs1 ?_
  refine AW.cond rfl (fun h => ?_) fun h => ?_
  · have h : i < r.Clauses.length := by have := odT h; omega
    obtain ⟨Aa, ca, Ab, cb, hpb, hki, hkt, hwi, hwt, hlk⟩ := clV hc h
    have hget : (r.Clauses.getD i default) = r.Clauses[i] := by rw [gDD, List.getElem?_eq_getElem h]; rfl
    repeat refine gs1 ?_
    refine RW.alc rfl fun b8 => ?_
    repeat refine gs1 ?_
    refine AW.drawZ (J0 := St ⟨w, Φ, []⟩ Φ [.blk b8 73 (rX r i Aa ca Ab cb), .blk b3 35 (rS2 fA fc cA cc r), .blk b2 31 b.cs]) [.q, .q, .q, .e, .e, .q, .q, .q, .q, .q, .q, .q, .q, .q, .q, .q, .q, .q, .q, .q, .q, .q, .q, .q, .q, .q, .q, .q, .q, .q, .q, .q, .q, .q, .q, .q] [0, 1, 2, 3, 4, 5, 6, 7, 8, 9, 10, 11, 12, 13, 14, 15, 16, 17, 18, 19, 20, 21, 22, 23, 24, 25, 26, 27, 28, 29, 30, 31, 32, 33, 34, 35] hmix (by kernel_rfl) ?_
    refine DW.q (fun _ h => h) rfl (qa_fa0 rfl) ?_
    refine DW.q (fun _ h => h) rfl (qa_ld rfl (Cell.blk 0 rfl rfl)) ?_
    refine DW.q (v := .agg b.cs.toArray) (fun _ h => h) rfl (qa_ldA (cs := b.cs) rfl (Cells.blk 2 rfl) rfl) ?_
    refine DW.eff _ _ (fun _ x w1 h => StP.less h x.2.2) rfl (e_callS (args := #[.agg b.cs.toArray]) oK rfl rfl (fun w1 hw1 => fLinks_c w1 Φ hw1.phi hb.l hB.l)) ?_
    rintro ⟨⟨u, Ψ⟩, ⟨⟨nA, nc⟩, hu, hn⟩, hle⟩
    simp only at hu hn hle ⊢
    subst hu
    have hL : ∀ w1, (St ⟨w, Φ, []⟩ Ψ [.blk b8 73 (rX r i Aa ca Ab cb), .blk b3 35 (rS2 fA fc cA cc r), .blk b2 31 b.cs]).p w1 → (St ⟨w, Φ, []⟩ Φ [.blk b8 73 (rX r i Aa ca Ab cb), .blk b3 35 (rS2 fA fc cA cc r), .blk b2 31 b.cs]).p w1 := fun _ h => StP.less h hle
    refine DW.eff (X := Unit) (fun _ => .bool (Ru.den e.links (r.Clauses.getD i default).Link)) (fun _ => St ⟨w, Φ, []⟩ Ψ [.blk b8 73 (rX r i Aa ca Ab cb), .blk b3 35 (rS2 fA fc cA cc r), .blk b2 31 b.cs]) (fun _ _ => hL) rfl (e_quiet (q_call (args := #[.int .i64 (r.Clauses.getD i default).Link, .slice nA e.links.length nc]) oK rfl rfl (fun w1 hw1 => first_c w1 Ψ hw1.phi hn))) fun _ => ?_
    refine DW.q (v := .bool (!(Ru.den e.links (r.Clauses.getD i default).Link))) hL rfl (q_not rfl) ?_
    refine DW.q (v := .bool (!(Ru.den e.links (r.Clauses.getD i default).Link))) hL rfl (q_move rfl) ?_
    refine DW.g (b := (!(Ru.den e.links (r.Clauses.getD i default).Link))) (v := .agg b.cs.toArray) hL rfl rfl rfl (fun h => qa_ldA (cs := b.cs) rfl (Cells.blk 2 rfl) rfl) ?_
    refine DW.g (b := (!(Ru.den e.links (r.Clauses.getD i default).Link))) (v := .agg #[.slice fA r.Funcs.length fc, .slice cA r.Clauses.length cc]) hL rfl rfl rfl (fun h => qa_ldA (cs := (rS2 fA fc cA cc r)) rfl (Cells.blk 1 rfl) rfl) ?_
    refine DW.g (b := (!(Ru.den e.links (r.Clauses.getD i default).Link))) (v := .pointer (some ⟨b8, 0, none⟩)) hL rfl rfl rfl (fun _ => qa_fa0 rfl) ?_
    refine DW.g (b := (!(Ru.den e.links (r.Clauses.getD i default).Link))) (v := .agg (exC (r.Clauses.getD i default).If (.slice Aa (r.Clauses.getD i default).If.Kids.length ca)).toArray) hL rfl rfl rfl (fun h => qa_ldA (cs := (exC (r.Clauses.getD i default).If (.slice Aa (r.Clauses.getD i default).If.Kids.length ca))) (gv_pos h) (Cells.blkP 0 rfl (fun j u hj => by rcases j with _ | _ | _ | _ | _ | j <;> first | exact hj | cases hj)) rfl) ?_
    refine DW.g (b := (!(Ru.den e.links (r.Clauses.getD i default).Link))) (v := .bool (Ru.jx e r.Funcs [] 40 (r.Clauses.getD i default).If).2) hL rfl rfl rfl (fun h => q_call (args := #[.agg b.cs.toArray, .agg #[.slice fA r.Funcs.length fc, .slice cA r.Clauses.length cc], .agg (exC (r.Clauses.getD i default).If (.slice Aa (r.Clauses.getD i default).If.Kids.length ca)).toArray, .slice none 0 0, .int .i64 ((40 : Nat) : Int)]) oK rfl (args5 (gv_pos h) (gv_pos h) (gv_pos h) rfl rfl) (fun w1 hw1 => fright_c 40 w1 hw1.phi hb hB hf hcs hki repSl_nil (by omega))) ?_
    refine DW.g (b := (!(Ru.den e.links (r.Clauses.getD i default).Link))) (v := .bool (!(Ru.jx e r.Funcs [] 40 (r.Clauses.getD i default).If).2)) hL rfl rfl rfl (fun h => q_not (gv_pos h)) ?_
    refine DW.q (v := .bool ((!(Ru.den e.links (r.Clauses.getD i default).Link)) || !(Ru.jx e r.Funcs [] 40 (r.Clauses.getD i default).If).2)) hL rfl (qpO rfl rfl rfl) ?_
    refine DW.q (v := .bool ((!(Ru.den e.links (r.Clauses.getD i default).Link)) || !(Ru.jx e r.Funcs [] 40 (r.Clauses.getD i default).If).2)) hL rfl (q_move rfl) ?_
    refine DW.g (b := ((!(Ru.den e.links (r.Clauses.getD i default).Link)) || !(Ru.jx e r.Funcs [] 40 (r.Clauses.getD i default).If).2)) (v := .agg b.cs.toArray) hL rfl rfl rfl (fun h => qa_ldA (cs := b.cs) rfl (Cells.blk 2 rfl) rfl) ?_
    refine DW.g (b := ((!(Ru.den e.links (r.Clauses.getD i default).Link)) || !(Ru.jx e r.Funcs [] 40 (r.Clauses.getD i default).If).2)) (v := .agg #[.slice fA r.Funcs.length fc, .slice cA r.Clauses.length cc]) hL rfl rfl rfl (fun h => qa_ldA (cs := (rS2 fA fc cA cc r)) rfl (Cells.blk 1 rfl) rfl) ?_
    refine DW.g (b := ((!(Ru.den e.links (r.Clauses.getD i default).Link)) || !(Ru.jx e r.Funcs [] 40 (r.Clauses.getD i default).If).2)) (v := .pointer (some ⟨b8, 6, none⟩)) hL rfl rfl rfl (fun _ => qa_fa0 rfl) ?_
    refine DW.g (b := ((!(Ru.den e.links (r.Clauses.getD i default).Link)) || !(Ru.jx e r.Funcs [] 40 (r.Clauses.getD i default).If).2)) (v := .agg (exC (r.Clauses.getD i default).To (.slice Ab (r.Clauses.getD i default).To.Kids.length cb)).toArray) hL rfl rfl rfl (fun h => qa_ldA (cs := (exC (r.Clauses.getD i default).To (.slice Ab (r.Clauses.getD i default).To.Kids.length cb))) (gv_pos h) (Cells.blkP 0 rfl (fun j u hj => by rw [Nat.add_comm]; exact hj)) rfl) ?_
    refine DW.g (b := ((!(Ru.den e.links (r.Clauses.getD i default).Link)) || !(Ru.jx e r.Funcs [] 40 (r.Clauses.getD i default).If).2)) (v := .bool (Ru.jx e r.Funcs [] 40 (r.Clauses.getD i default).To).2) hL rfl rfl rfl (fun h => q_call (args := #[.agg b.cs.toArray, .agg #[.slice fA r.Funcs.length fc, .slice cA r.Clauses.length cc], .agg (exC (r.Clauses.getD i default).To (.slice Ab (r.Clauses.getD i default).To.Kids.length cb)).toArray, .slice none 0 0, .int .i64 ((40 : Nat) : Int)]) oK rfl (args5 (gv_pos h) (gv_pos h) (gv_pos h) rfl rfl) (fun w1 hw1 => fright_c 40 w1 hw1.phi hb hB hf hcs hkt repSl_nil (by omega))) ?_
    refine DW.g (b := ((!(Ru.den e.links (r.Clauses.getD i default).Link)) || !(Ru.jx e r.Funcs [] 40 (r.Clauses.getD i default).If).2)) (v := .bool (!(Ru.jx e r.Funcs [] 40 (r.Clauses.getD i default).To).2)) hL rfl rfl rfl (fun h => q_not (gv_pos h)) ?_
    refine DW.q (v := .bool (((!(Ru.den e.links (r.Clauses.getD i default).Link)) || !(Ru.jx e r.Funcs [] 40 (r.Clauses.getD i default).If).2) || !(Ru.jx e r.Funcs [] 40 (r.Clauses.getD i default).To).2)) hL rfl (qpO rfl rfl rfl) ?_
    refine DW.q (v := .bool (((!(Ru.den e.links (r.Clauses.getD i default).Link)) || !(Ru.jx e r.Funcs [] 40 (r.Clauses.getD i default).If).2) || !(Ru.jx e r.Funcs [] 40 (r.Clauses.getD i default).To).2)) hL rfl (q_move rfl) ?_
    refine DW.g (b := (((!(Ru.den e.links (r.Clauses.getD i default).Link)) || !(Ru.jx e r.Funcs [] 40 (r.Clauses.getD i default).If).2) || !(Ru.jx e r.Funcs [] 40 (r.Clauses.getD i default).To).2)) (v := .agg #[.slice fA r.Funcs.length fc, .slice cA r.Clauses.length cc]) hL rfl rfl rfl (fun h => qa_ldA (cs := (rS2 fA fc cA cc r)) rfl (Cells.blk 1 rfl) rfl) ?_
    refine DW.g (b := (((!(Ru.den e.links (r.Clauses.getD i default).Link)) || !(Ru.jx e r.Funcs [] 40 (r.Clauses.getD i default).If).2) || !(Ru.jx e r.Funcs [] 40 (r.Clauses.getD i default).To).2)) (v := .pointer (some ⟨b8, 0, none⟩)) hL rfl rfl rfl (fun _ => qa_fa0 rfl) ?_
    refine DW.g (b := (((!(Ru.den e.links (r.Clauses.getD i default).Link)) || !(Ru.jx e r.Funcs [] 40 (r.Clauses.getD i default).If).2) || !(Ru.jx e r.Funcs [] 40 (r.Clauses.getD i default).To).2)) (v := .agg (exC (r.Clauses.getD i default).If (.slice Aa (r.Clauses.getD i default).If.Kids.length ca)).toArray) hL rfl rfl rfl (fun h => qa_ldA (cs := (exC (r.Clauses.getD i default).If (.slice Aa (r.Clauses.getD i default).If.Kids.length ca))) (gv_pos h) (Cells.blkP 0 rfl (fun j u hj => by rcases j with _ | _ | _ | _ | _ | j <;> first | exact hj | cases hj)) rfl) ?_
    refine DW.g (b := (((!(Ru.den e.links (r.Clauses.getD i default).Link)) || !(Ru.jx e r.Funcs [] 40 (r.Clauses.getD i default).If).2) || !(Ru.jx e r.Funcs [] 40 (r.Clauses.getD i default).To).2)) (v := .int .i64 (Ru.jx e r.Funcs [] 40 (r.Clauses.getD i default).If).1) hL rfl rfl rfl (fun h => q_call (args := #[.agg #[.slice fA r.Funcs.length fc, .slice cA r.Clauses.length cc], .agg (exC (r.Clauses.getD i default).If (.slice Aa (r.Clauses.getD i default).If.Kids.length ca)).toArray, .slice none 0 0]) oK rfl (args3 (gv_pos h) (gv_pos h) rfl) (fun w1 hw1 => fKind_c 40 w1 hw1.phi hf hcs hki repSl_nil (by simp only [Bool.or_eq_false_iff, Bool.not_eq_false'] at h; exact h.1.2))) ?_
    refine DW.g (b := (((!(Ru.den e.links (r.Clauses.getD i default).Link)) || !(Ru.jx e r.Funcs [] 40 (r.Clauses.getD i default).If).2) || !(Ru.jx e r.Funcs [] 40 (r.Clauses.getD i default).To).2)) (v := .bool (!decide ((Ru.jx e r.Funcs [] 40 (r.Clauses.getD i default).If).1 = 1))) hL rfl rfl rfl (fun h => q_neq (gv_pos h) rfl) ?_
    refine DW.q (v := .bool ((((!(Ru.den e.links (r.Clauses.getD i default).Link)) || !(Ru.jx e r.Funcs [] 40 (r.Clauses.getD i default).If).2) || !(Ru.jx e r.Funcs [] 40 (r.Clauses.getD i default).To).2) || !decide ((Ru.jx e r.Funcs [] 40 (r.Clauses.getD i default).If).1 = 1))) hL rfl (qpO rfl rfl rfl) ?_
    refine DW.q (v := .bool ((((!(Ru.den e.links (r.Clauses.getD i default).Link)) || !(Ru.jx e r.Funcs [] 40 (r.Clauses.getD i default).If).2) || !(Ru.jx e r.Funcs [] 40 (r.Clauses.getD i default).To).2) || !decide ((Ru.jx e r.Funcs [] 40 (r.Clauses.getD i default).If).1 = 1))) hL rfl (q_move rfl) ?_
    refine DW.g (b := ((((!(Ru.den e.links (r.Clauses.getD i default).Link)) || !(Ru.jx e r.Funcs [] 40 (r.Clauses.getD i default).If).2) || !(Ru.jx e r.Funcs [] 40 (r.Clauses.getD i default).To).2) || !decide ((Ru.jx e r.Funcs [] 40 (r.Clauses.getD i default).If).1 = 1))) (v := .agg #[.slice fA r.Funcs.length fc, .slice cA r.Clauses.length cc]) hL rfl rfl rfl (fun h => qa_ldA (cs := (rS2 fA fc cA cc r)) rfl (Cells.blk 1 rfl) rfl) ?_
    refine DW.g (b := ((((!(Ru.den e.links (r.Clauses.getD i default).Link)) || !(Ru.jx e r.Funcs [] 40 (r.Clauses.getD i default).If).2) || !(Ru.jx e r.Funcs [] 40 (r.Clauses.getD i default).To).2) || !decide ((Ru.jx e r.Funcs [] 40 (r.Clauses.getD i default).If).1 = 1))) (v := .pointer (some ⟨b8, 6, none⟩)) hL rfl rfl rfl (fun _ => qa_fa0 rfl) ?_
    refine DW.g (b := ((((!(Ru.den e.links (r.Clauses.getD i default).Link)) || !(Ru.jx e r.Funcs [] 40 (r.Clauses.getD i default).If).2) || !(Ru.jx e r.Funcs [] 40 (r.Clauses.getD i default).To).2) || !decide ((Ru.jx e r.Funcs [] 40 (r.Clauses.getD i default).If).1 = 1))) (v := .agg (exC (r.Clauses.getD i default).To (.slice Ab (r.Clauses.getD i default).To.Kids.length cb)).toArray) hL rfl rfl rfl (fun h => qa_ldA (cs := (exC (r.Clauses.getD i default).To (.slice Ab (r.Clauses.getD i default).To.Kids.length cb))) (gv_pos h) (Cells.blkP 0 rfl (fun j u hj => by rw [Nat.add_comm]; exact hj)) rfl) ?_
    refine DW.g (b := ((((!(Ru.den e.links (r.Clauses.getD i default).Link)) || !(Ru.jx e r.Funcs [] 40 (r.Clauses.getD i default).If).2) || !(Ru.jx e r.Funcs [] 40 (r.Clauses.getD i default).To).2) || !decide ((Ru.jx e r.Funcs [] 40 (r.Clauses.getD i default).If).1 = 1))) (v := .int .i64 (Ru.jx e r.Funcs [] 40 (r.Clauses.getD i default).To).1) hL rfl rfl rfl (fun h => q_call (args := #[.agg #[.slice fA r.Funcs.length fc, .slice cA r.Clauses.length cc], .agg (exC (r.Clauses.getD i default).To (.slice Ab (r.Clauses.getD i default).To.Kids.length cb)).toArray, .slice none 0 0]) oK rfl (args3 (gv_pos h) (gv_pos h) rfl) (fun w1 hw1 => fKind_c 40 w1 hw1.phi hf hcs hkt repSl_nil (by simp only [Bool.or_eq_false_iff, Bool.not_eq_false'] at h; exact h.1.2))) ?_
    refine DW.g (b := ((((!(Ru.den e.links (r.Clauses.getD i default).Link)) || !(Ru.jx e r.Funcs [] 40 (r.Clauses.getD i default).If).2) || !(Ru.jx e r.Funcs [] 40 (r.Clauses.getD i default).To).2) || !decide ((Ru.jx e r.Funcs [] 40 (r.Clauses.getD i default).If).1 = 1))) (v := .bool (!decide ((Ru.jx e r.Funcs [] 40 (r.Clauses.getD i default).To).1 = 0))) hL rfl rfl rfl (fun h => q_neq (gv_pos h) rfl) ?_
    refine DW.q (v := .bool (!Ru.jcl e r.Funcs (r.Clauses.getD i default))) hL rfl (q_as (qpO rfl rfl rfl) (congrArg Value.bool (cl_eq _ _ _ _ _))) ?_
    repeat refine gs1 ?_
    refine AW.cond rfl (fun c => ?_) fun c => ?_
    · have c : Ru.jcl e r.Funcs (r.Clauses.getD i default) = false := by simpa using c
      have hz : Ru.rightR e r = false := by unfold Ru.rightR; rw [show r.Clauses.all (Ru.jcl e r.Funcs) = false from List.all_eq_false.2 ⟨(r.Clauses.getD i default), by rw [hget]; exact List.getElem_mem h, by rw [c]; simp⟩]; simp
      repeat refine gs1 ?_
      exact fin_res (vs := [.bool false]) rfl rfl ⟨.tmp rfl, trivial⟩ rfl (fun w' hw => ⟨by rw [hz]; rfl, (StP.less hw hle).below rfl⟩)
    have c : Ru.jcl e r.Funcs (r.Clauses.getD i default) = true := by simpa using c
    repeat refine gs1 ?_
    exact Post.back (s' := _) (J' := _) (m' := _) (by omega) ⟨i + 1, rfl, rfl, rfl, by omega, by rw [Ru.take_snoc h, List.all_append, hcd, ← hget, List.all_cons, List.all_nil, c]; rfl⟩ ⟨rfl, rfl, rfl, trivial⟩ (fun _ h => StP.less (StP.sel h [1, 2] (by decide) rfl) hle)
  have h : i = r.Clauses.length := by have := odF h; omega
  subst h
  rw [List.take_length] at hcd
  repeat refine gs1 ?_
  exact fin_res (vs := [.bool true]) rfl rfl ⟨.tmp rfl, trivial⟩ rfl (fun w' hw => ⟨by unfold Ru.rightR; rw [hhd, hbd, hcd]; rfl, hw.below rfl⟩)
end Go.Proofs.YtnfmjfheciihjaaGreatDoor
namespace Mn
theorem lim_id {n : Int} (h1 : mn ≤ n) (h2 : n ≤ mx) : lim n = n := by
  have h1 : -9223372036854775808 ≤ n := h1
  have h2 : n ≤ 9223372036854775807 := h2
  unfold lim mn mx; rw [if_neg (by omega), if_neg (by omega)]
theorem lim_hi {n : Int} (h : mx ≤ n) : lim n = mx := by
  have h : 9223372036854775807 ≤ n := h
  unfold lim mn mx; split <;> (try split) <;> omega
theorem lim_lo {n : Int} (h : n ≤ mn) : lim n = mn := by
  have h : n ≤ -9223372036854775808 := h
  unfold lim mn mx; split <;> (try split) <;> omega
theorem mul_ge {a : Int} {k : Int} (ha : 0 ≤ a) (hk : 1 ≤ k) : a ≤ a * k := by
  have h := Int.mul_le_mul_of_nonneg_left hk ha
  omega
theorem step_pos {n a k : Int} (hn : 0 ≤ n) (ha : 0 ≤ a) (hk : 0 ≤ k) : lim (lim n + lim a * k) = lim (n + a * k) := by
  have hak : 0 ≤ a * k := Int.mul_nonneg ha hk
  by_cases h1 : mx ≤ n
  · rw [lim_hi h1, lim_hi (n := n + a * k) (by omega)]
    have : 0 ≤ lim a * k := Int.mul_nonneg (by unfold lim mn mx; split <;> (try split) <;> omega) hk
    exact lim_hi (by omega)
  · rw [lim_id (n := n) (by unfold mn; omega) (by omega)]
    by_cases h2 : mx ≤ a
    · rw [lim_hi h2]
      by_cases h3 : k = 0
      · subst h3; simp
      · have h4 := mul_ge (a := mx) (k := k) (by unfold mx; omega) (by omega)
        have h5 := mul_ge ha (show 1 ≤ k by omega)
        rw [lim_hi (n := n + mx * k) (by omega), lim_hi (n := n + a * k) (by omega)]
    · rw [lim_id (n := a) (by unfold mn; omega) (by omega)]
theorem step_neg {n a k : Int} (hn : n ≤ 0) (ha : a ≤ 0) (hk : 0 ≤ k) : lim (lim n + lim a * k) = lim (n + a * k) := by
  have hak : a * k ≤ 0 := by
    have := Int.mul_nonneg (show 0 ≤ -a by omega) hk
    rw [Int.neg_mul] at this; omega
  by_cases h1 : n ≤ mn
  · rw [lim_lo h1, lim_lo (n := n + a * k) (by omega)]
    have : lim a * k ≤ 0 := by
      have h0 : lim a ≤ 0 := by unfold lim mn mx; split <;> (try split) <;> omega
      have := Int.mul_nonneg (show 0 ≤ -lim a by omega) hk
      rw [Int.neg_mul] at this; omega
    exact lim_lo (by omega)
  · rw [lim_id (n := n) (by omega) (by unfold mx; omega)]
    by_cases h2 : a ≤ mn
    · rw [lim_lo h2]
      by_cases h3 : k = 0
      · subst h3; simp
      · have h4 := mul_ge (a := -mn) (k := k) (by unfold mn; omega) (by omega)
        have h5 := mul_ge (a := -a) (show 0 ≤ -a by omega) (show 1 ≤ k by omega)
        rw [Int.neg_mul] at h4 h5
        rw [lim_lo (n := n + mn * k) (by omega), lim_lo (n := n + a * k) (by omega)]
    · rw [lim_id (n := a) (by omega) (by unfold mx; omega)]
theorem step_any {n a k : Int} (h : (0 ≤ n ∧ 0 ≤ a) ∨ (n ≤ 0 ∧ a ≤ 0)) (hk : 0 ≤ k) : lim (lim n + lim a * k) = lim (n + a * k) := h.elim (fun h => step_pos h.1 h.2 hk) fun h => step_neg h.1 h.2 hk
theorem lim_sgn {n : Int} : (0 ≤ n → 0 ≤ lim n) ∧ (n ≤ 0 → lim n ≤ 0) := by unfold lim mn mx; constructor <;> intro _ <;> split <;> (try split) <;> omega
theorem mul_neg2 {a b : Int} (ha : Go.K.I64 a) (hb : b < 0) : lim (lim (0 - a) * -b) = lim (a * b) := by
  unfold Go.K.I64 at ha
  by_cases h : a = mn
  · subst h
    rw [lim_hi (n := 0 - mn) (by unfold mn mx; omega)]
    have h4 := mul_ge (a := mx) (k := -b) (by unfold mx; omega) (by omega)
    have h5 := mul_ge (a := -mn) (k := -b) (by unfold mn; omega) (by omega)
    rw [Int.neg_mul_neg] at h5
    rw [lim_hi h4, lim_hi (n := mn * b) (by unfold mn mx at *; omega)]
  · rw [lim_id (n := 0 - a) (by unfold mn at *; omega) (by unfold mn mx at *; omega), Int.zero_sub, Int.neg_mul_neg]
theorem mul_least {a : Int} (ha : a ≠ 0) : lim (a * mn) = if 0 < a then mn else mx := by
  split
  · have h5 := mul_ge (a := -mn) (k := a) (by unfold mn; omega) (by omega)
    rw [Int.neg_mul, Int.mul_comm mn a] at h5
    exact lim_lo (by omega)
  · have h5 := mul_ge (a := -mn) (k := -a) (by unfold mn; omega) (by omega)
    rw [Int.neg_mul_neg, Int.mul_comm mn a] at h5
    exact lim_hi (by unfold mn mx at *; omega)
end Mn
namespace Go.Proofs.YtnfmjfheciihjaaGreatDoor
open Go Go.K Go.RowKit
open Ru (pB)
attribute [local irreducible] AW RW DW Post Qt
theorem fAdd_c (w : World) {a b : Int} (ha : I64 a) (hb : I64 b) : Calls pg 89 #[.int .i64 a, .int .i64 b] w fun e w' => e = .returned (.int .i64 (Mn.lim (a + b))) ∧ Bel w.heap.size w w' := by
  unfold I64 at ha hb
  refine calls_of_AW (args := [.int .i64 a, .int .i64 b]) Tryz.func89 rfl (lBT rfl) (St ⟨w, hp w, []⟩ (hp w) []) (StP.init w (hp w) (Hp.le_refl _) []) ?_
  show AW _ _ [] _ _ _ [(0, .int .i64 a), (1, .int .i64 b)] _
  repeat refine gs1 ?_
  refine RW.g (b := decide (0 < b)) (v := .int .i64 (9223372036854775807 - b)) rfl rfl rfl (fun h => q_sub rfl (gv_pos h) rfl (by have := odT h; unfold I64; omega)) ?_
  refine RW.g (b := decide (0 < b)) (v := .bool (decide (9223372036854775807 - b < a))) rfl rfl rfl (fun h => q_gtr (gv_pos h) (gv_pos h)) ?_
  refine RW.q (v := .bool (decide (0 < b) && decide (9223372036854775807 - b < a))) rfl (qpA rfl rfl rfl) ?_
  repeat refine gs1 ?_
  refine AW.cond rfl (fun c => ?_) fun c => ?_
  · have c : 0 < b ∧ 9223372036854775807 - b < a := by simpa using c
    repeat refine gs1 ?_
    exact fin_res (vs := [.int .i64 9223372036854775807]) rfl rfl ⟨.tmp rfl, trivial⟩ rfl (fun w' hw => ⟨by rw [Mn.lim_hi (by unfold Mn.mx; omega)]; rfl, hw.below rfl⟩)
  have c1 : ¬ (0 < b ∧ 9223372036854775807 - b < a) := fun h => by simp [h.1, h.2] at c
  repeat refine gs1 ?_
  refine RW.g (b := decide (b < 0)) (v := .int .i64 (-9223372036854775808 - b)) rfl rfl rfl (fun h => q_sub rfl (gv_pos h) rfl (by have := odT h; unfold I64; omega)) ?_
  refine RW.g (b := decide (b < 0)) (v := .bool (decide (a < -9223372036854775808 - b))) rfl rfl rfl (fun h => q_lss (gv_pos h) (gv_pos h)) ?_
  refine RW.q (v := .bool (decide (b < 0) && decide (a < -9223372036854775808 - b))) rfl (qpA rfl rfl rfl) ?_
  repeat refine gs1 ?_
  refine AW.cond rfl (fun c => ?_) fun c => ?_
  · have c : b < 0 ∧ a < -9223372036854775808 - b := by simpa using c
    repeat refine gs1 ?_
    exact fin_res (vs := [.int .i64 (-9223372036854775808)]) rfl rfl ⟨.tmp rfl, trivial⟩ rfl (fun w' hw => ⟨by rw [Mn.lim_lo (by unfold Mn.mn; omega)]; rfl, hw.below rfl⟩)
  have c2 : ¬ (b < 0 ∧ a < -9223372036854775808 - b) := fun h => by simp [h.1, h.2] at c
  repeat refine gs1 ?_
  exact fin_res (vs := [.int .i64 (a + b)]) rfl rfl ⟨.tmp rfl, trivial⟩ rfl (fun w' hw => ⟨by rw [Mn.lim_id (by unfold Mn.mn; omega) (by unfold Mn.mx; omega)]; rfl, hw.below rfl⟩)
theorem fSub_c (w : World) {a b : Int} (ha : I64 a) (hb : I64 b) : Calls pg 88 #[.int .i64 a, .int .i64 b] w fun e w' => e = .returned (.int .i64 (Mn.lim (a - b))) ∧ Bel w.heap.size w w' := by
  unfold I64 at ha hb
  refine calls_of_AW (args := [.int .i64 a, .int .i64 b]) Tryz.func88 rfl (lBT rfl) (St ⟨w, hp w, []⟩ (hp w) []) (StP.init w (hp w) (Hp.le_refl _) []) ?_
  show AW _ _ [] _ _ _ [(0, .int .i64 a), (1, .int .i64 b)] _
  repeat refine gs1 ?_
  refine RW.g (b := decide (b < 0)) (v := .int .i64 (9223372036854775807 + b)) rfl rfl rfl (fun h => q_add rfl (gv_pos h) rfl (by have := odT h; unfold I64; omega)) ?_
  refine RW.g (b := decide (b < 0)) (v := .bool (decide (9223372036854775807 + b < a))) rfl rfl rfl (fun h => q_gtr (gv_pos h) (gv_pos h)) ?_
  refine RW.q (v := .bool (decide (b < 0) && decide (9223372036854775807 + b < a))) rfl (qpA rfl rfl rfl) ?_
  repeat refine gs1 ?_
  refine AW.cond rfl (fun c => ?_) fun c => ?_
  · have c : b < 0 ∧ 9223372036854775807 + b < a := by simpa using c
    repeat refine gs1 ?_
    exact fin_res (vs := [.int .i64 9223372036854775807]) rfl rfl ⟨.tmp rfl, trivial⟩ rfl (fun w' hw => ⟨by rw [Mn.lim_hi (by unfold Mn.mx; omega)]; rfl, hw.below rfl⟩)
  have c1 : ¬ (b < 0 ∧ 9223372036854775807 + b < a) := fun h => by simp [h.1, h.2] at c
  repeat refine gs1 ?_
  refine RW.g (b := decide (0 < b)) (v := .int .i64 (-9223372036854775808 + b)) rfl rfl rfl (fun h => q_add rfl (gv_pos h) rfl (by have := odT h; unfold I64; omega)) ?_
  refine RW.g (b := decide (0 < b)) (v := .bool (decide (a < -9223372036854775808 + b))) rfl rfl rfl (fun h => q_lss (gv_pos h) (gv_pos h)) ?_
  refine RW.q (v := .bool (decide (0 < b) && decide (a < -9223372036854775808 + b))) rfl (qpA rfl rfl rfl) ?_
  repeat refine gs1 ?_
  refine AW.cond rfl (fun c => ?_) fun c => ?_
  · have c : 0 < b ∧ a < -9223372036854775808 + b := by simpa using c
    repeat refine gs1 ?_
    exact fin_res (vs := [.int .i64 (-9223372036854775808)]) rfl rfl ⟨.tmp rfl, trivial⟩ rfl (fun w' hw => ⟨by rw [Mn.lim_lo (by unfold Mn.mn; omega)]; rfl, hw.below rfl⟩)
  have c2 : ¬ (0 < b ∧ a < -9223372036854775808 + b) := fun h => by simp [h.1, h.2] at c
  repeat refine gs1 ?_
  exact fin_res (vs := [.int .i64 (a - b)]) rfl rfl ⟨.tmp rfl, trivial⟩ rfl (fun w' hw => ⟨by rw [Mn.lim_id (by unfold Mn.mn; omega) (by unfold Mn.mx; omega)]; rfl, hw.below rfl⟩)
theorem fneg_c (w : World) {a : Int} (ha : I64 a) : Calls pg 59 #[.int .i64 a] w fun e w' => e = .returned (.int .i64 (Mn.lim (0 - a))) ∧ Bel w.heap.size w w' := by
  refine calls_of_AW (args := [.int .i64 a]) Tryz.func59 rfl (lBT rfl) (St ⟨w, hp w, []⟩ (hp w) []) (StP.init w (hp w) (Hp.le_refl _) []) ?_
  show AW _ _ [] _ _ _ [(0, .int .i64 a)] _
  repeat refine gs1 ?_
  refine RW.q (v := .int .i64 (Mn.lim (0 - a))) rfl (q_call (args := #[.int .i64 0, .int .i64 a]) oK rfl rfl (fun w1 hw1 => fSub_c w1 (by unfold I64; omega) ha)) ?_
  repeat refine gs1 ?_
  exact fin_res (vs := [.int .i64 (Mn.lim (0 - a))]) rfl rfl ⟨.tmp rfl, trivial⟩ rfl (fun w' hw => ⟨rfl, hw.below rfl⟩)
theorem fnum_c (w : World) {b : Bool} : Calls pg 91 #[.bool b] w fun e w' => e = .returned (.int .i64 (if b then 1 else 0)) ∧ Bel w.heap.size w w' := by
  refine calls_of_AW (args := [.bool b]) Tryz.func91 rfl (lBT rfl) (St ⟨w, hp w, []⟩ (hp w) []) (StP.init w (hp w) (Hp.le_refl _) []) ?_
  show AW _ _ [] _ _ _ [(0, .bool b)] _
  repeat refine gs1 ?_
  refine AW.cond rfl (fun c => ?_) fun c => ?_
  · rw [c]
    repeat refine gs1 ?_
    exact fin_res (vs := [.int .i64 1]) rfl rfl ⟨.tmp rfl, trivial⟩ rfl (fun w' hw => ⟨rfl, hw.below rfl⟩)
  · rw [c]
    repeat refine gs1 ?_
    exact fin_res (vs := [.int .i64 0]) rfl rfl ⟨.tmp rfl, trivial⟩ rfl (fun w' hw => ⟨rfl, hw.below rfl⟩)
theorem fClamp_c (w : World) {a lo hi : Int} : Calls pg 27 #[.int .i64 a, .int .i64 lo, .int .i64 hi] w fun e w' => e = .returned (.int .i64 (Mn.clampI a lo hi)) ∧ Bel w.heap.size w w' := by
  refine calls_of_AW (args := [.int .i64 a, .int .i64 lo, .int .i64 hi]) Tryz.func27 rfl (lBT rfl) (St ⟨w, hp w, []⟩ (hp w) []) (StP.init w (hp w) (Hp.le_refl _) []) ?_
  show AW _ _ [] _ _ _ [(0, .int .i64 a), (1, .int .i64 lo), (2, .int .i64 hi)] _
  unfold Mn.clampI
  repeat refine gs1 ?_
  refine AW.cond rfl (fun c => ?_) fun c => ?_
  · rw [if_pos (odT c)]
    repeat refine gs1 ?_
    exact fin_res (vs := [.int .i64 lo]) rfl rfl ⟨.tmp rfl, trivial⟩ rfl (fun w' hw => ⟨rfl, hw.below rfl⟩)
  rw [if_neg (odF c)]
  repeat refine gs1 ?_
  refine AW.cond rfl (fun c => ?_) fun c => ?_
  · rw [if_pos (odT c)]
    repeat refine gs1 ?_
    exact fin_res (vs := [.int .i64 hi]) rfl rfl ⟨.tmp rfl, trivial⟩ rfl (fun w' hw => ⟨rfl, hw.below rfl⟩)
  rw [if_neg (odF c)]
  repeat refine gs1 ?_
  exact fin_res (vs := [.int .i64 a]) rfl rfl ⟨.tmp rfl, trivial⟩ rfl (fun w' hw => ⟨rfl, hw.below rfl⟩)
end Go.Proofs.YtnfmjfheciihjaaGreatDoor
namespace Go.Proofs.YtnfmjfheciihjaaGreatDoor
open Go Go.K Go.RowKit
attribute [local irreducible] AW RW DW DT Post Qt
theorem _root_.Go.K.AW.mid {P : Program} {N : Nat} {D : List Deferred} {Q : Exit → Act → World → Prop} {f : Nat → Value} {s : List (Nat × Value)} {J : Cls} {x : Code} (I : List (Nat × Value) → Cls → Prop) (h : AW P N D x (Mid N D I Q) f s J) (k : ∀ f' s' J', I s' J' → Post N D Q .normal f' s' J') : AW P N D x Q f s J := by
  unfold AW at *
  exact fun a w ha hw => Code.wp_mono (fun e a' w' hQ => by
    cases e with
    | normal =>
      obtain ⟨f', s', J', hI, hr, hp⟩ := hQ
      have hk := k f' s' J' hI
      unfold Post at hk
      exact hk a' w' hr hp
    | _ => exact hQ) (h a w ha hw)
theorem pos1 : (∀ x ∈ ([1048576, 2] : List Int), I64 x) := fun x hx => by
  simp only [List.mem_cons, List.not_mem_nil, or_false] at hx
  rcases hx with rfl | rfl <;> (unfold I64; omega)
end Go.Proofs.YtnfmjfheciihjaaGreatDoor
namespace Mn
theorem tdiv_I64 {a b : Int} (ha : Go.K.I64 a) (h0 : b ≠ 0) (h1 : b ≠ -1) : Go.K.I64 (a.tdiv b) := by
  have h2 : (a.tdiv b).natAbs = a.natAbs / b.natAbs := Int.natAbs_tdiv a b
  have h3 : a.natAbs / b.natAbs ≤ a.natAbs := Nat.div_le_self ..
  unfold Go.K.I64 at ha ⊢
  by_cases hb : b = 1
  · subst hb; rw [Int.tdiv_one]; exact ha
  · have h4 : a.natAbs / b.natAbs ≤ a.natAbs / 2 := Nat.div_le_div_left (by omega) (by omega)
    omega
end Mn
namespace Go.Proofs.YtnfmjfheciihjaaGreatDoor
open Go Go.K Go.RowKit
open Ru (pB)
attribute [local irreducible] AW RW DW Post Qt
theorem fTimes_c : ∀ (g : Nat) (w : World) {a b : Int}, I64 a → I64 b → (b < 0 → 1 ≤ g) → Calls pg 90 #[.int .i64 a, .int .i64 b] w fun e w' => e = .returned (.int .i64 (Mn.lim (a * b))) ∧ Bel w.heap.size w w'
  | g, w, a, b, ha, hb, hg => by
    have hIa := ha
    unfold I64 at ha hb
    refine calls_of_AW (args := [.int .i64 a, .int .i64 b]) Tryz.func90 rfl (lBT rfl) (St ⟨w, hp w, []⟩ (hp w) []) (StP.init w (hp w) (Hp.le_refl _) []) ?_
    show AW _ _ [] _ _ _ [(0, .int .i64 a), (1, .int .i64 b)] _
    repeat refine gs1 ?_
    refine RW.q (v := .bool (decide (b = -9223372036854775808) && !decide (a = 0))) rfl (qpA rfl rfl rfl) ?_
    repeat refine gs1 ?_
    refine AW.cond rfl (fun c => ?_) fun c => ?_
    · have c : b = -9223372036854775808 ∧ a ≠ 0 := by simpa using c
      obtain ⟨hb1, c0⟩ := c
      subst hb1
      have hM := Mn.mul_least c0
      unfold Mn.mn Mn.mx at hM
      rw [hM]
      repeat refine gs1 ?_
      refine AW.cond rfl (fun c => ?_) fun c => ?_
      · rw [if_pos (odT c)]
        repeat refine gs1 ?_
        exact fin_res (vs := [.int .i64 (-9223372036854775808)]) rfl rfl ⟨.tmp rfl, trivial⟩ rfl (fun w' hw => ⟨rfl, hw.below rfl⟩)
      rw [if_neg (odF c)]
      repeat refine gs1 ?_
      exact fin_res (vs := [.int .i64 9223372036854775807]) rfl rfl ⟨.tmp rfl, trivial⟩ rfl (fun w' hw => ⟨rfl, hw.below rfl⟩)
    have c1 : ¬ (b = -9223372036854775808 ∧ a ≠ 0) := fun h => by simp [h.1, h.2] at c
    clear c
    repeat refine gs1 ?_
    refine RW.q (v := .bool (decide (b < 0) && !decide (b = -9223372036854775808))) rfl (qpA rfl rfl rfl) ?_
    repeat refine gs1 ?_
    refine AW.cond rfl (fun c => ?_) fun c => ?_
    · have c : b < 0 ∧ b ≠ -9223372036854775808 := by simpa using c
      obtain ⟨g, rfl⟩ : ∃ k, g = k + 1 := ⟨g - 1, by have := hg c.1; omega⟩
      rw [← Mn.mul_neg2 hIa c.1]
      have hl := Mn.lim_I64 (0 - a)
      repeat refine gs1 ?_
      refine RW.q (v := .int .i64 (Mn.lim (0 - a))) rfl (q_call (args := #[.int .i64 a]) oK rfl rfl (fun w1 hw1 => fneg_c w1 hIa)) ?_
      repeat refine gs1 ?_
      refine RW.q (v := .int .i64 (-b)) rfl (q_neg rfl rfl (by unfold I64; omega)) ?_
      refine RW.q (v := .int .i64 (Mn.lim (Mn.lim (0 - a) * -b))) rfl (q_call (args := #[.int .i64 (Mn.lim (0 - a)), .int .i64 (-b)]) oK rfl rfl (fun w1 hw1 => fTimes_c g w1 hl (by unfold I64; omega) (by omega))) ?_
      repeat refine gs1 ?_
      exact fin_res (vs := [.int .i64 (Mn.lim (Mn.lim (0 - a) * -b))]) rfl rfl ⟨.tmp rfl, trivial⟩ rfl (fun w' hw => ⟨rfl, hw.below rfl⟩)
    have c2 : 0 ≤ b ∨ a = 0 := by
      by_cases h : b = -9223372036854775808
      · right; exact Classical.byContradiction fun h2 => c1 ⟨h, h2⟩
      · left; simp only [Bool.and_eq_false_iff, decide_eq_false_iff_not, Bool.not_eq_false', decide_eq_true_eq] at c; omega
    clear c
    repeat refine gs1 ?_
    refine AW.loop (fun s J q => ∃ n x y : Int, s = [(0, .int .i64 x), (1, .int .i64 y), (5, .int .i64 n)] ∧ J = St ⟨w, hp w, []⟩ (hp w) [] ∧ q = y.toNat ∧ I64 n ∧ I64 x ∧ I64 y ∧ (0 ≤ y ∨ x = 0) ∧ ((0 ≤ n ∧ 0 ≤ x) ∨ (n ≤ 0 ∧ x ≤ 0)) ∧ Mn.lim (n + x * y) = Mn.lim (a * b)) (s0 := _) (J1 := _) (m0 := _) ⟨0, a, b, rfl, rfl, rfl, by unfold I64; omega, hIa, hb, c2, by omega, by rw [Int.zero_add]⟩ ⟨rfl, rfl, rfl, trivial⟩ (fun _ h => h) ?_
    rintro _ _ _ _ ⟨n, x, y, rfl, rfl, rfl, hn, hx, hy, hy0, hsg, hE⟩
    repeat refine gs1 ?_
    refine RW.q (v := .bool (decide (0 < y) && !decide (x = 0))) rfl (qpA rfl rfl rfl) ?_
    repeat refine gs1 ?_
    refine AW.cond rfl (fun c => ?_) fun c => ?_
    · have c : 0 < y ∧ x ≠ 0 := by simpa using c
      have hy2 := hy
      unfold I64 at hy2
      have hdm : y.tmod 2 = y % 2 := Int.tmod_eq_emod_of_nonneg (by omega)
      have hdq : y.tdiv 2 = y / 2 := Int.tdiv_eq_ediv_of_nonneg (by omega)
      have hst : ∀ n1, n1 = n + x * (y % 2) → Mn.lim (Mn.lim n1 + Mn.lim (x + x) * (y / 2)) = Mn.lim (a * b) := fun n1 h1 => by
        have hsg2 : (0 ≤ n1 ∧ 0 ≤ x + x) ∨ (n1 ≤ 0 ∧ x + x ≤ 0) := by
          have : y % 2 = 0 ∨ y % 2 = 1 := by omega
          rcases this with h2 | h2 <;> rw [h2] at h1 <;> omega
        rw [Mn.step_any hsg2 (by omega), ← hE, h1]
        congr 1
        have : y = y % 2 + 2 * (y / 2) := by omega
        conv => rhs; rw [this]
        rw [Int.mul_add, Int.add_mul, Int.add_assoc]
        congr 2
        rw [← Int.mul_assoc, Int.mul_comm x 2, Int.two_mul, Int.add_mul]
      have hx2 := Mn.lim_I64 (x + x)
      repeat refine gs1 ?_
      refine RW.q (v := .int .i64 (y % 2)) rfl (q_rem rfl rfl (by decide) hdm) ?_
      repeat refine gs1 ?_
      refine AW.mid (I := fun s J => s = [(0, .int .i64 x), (1, .int .i64 y), (5, .int .i64 (Mn.lim (n + x * (y % 2))))] ∧ J = St ⟨w, hp w, []⟩ (hp w) []) ?_ ?_
      · refine AW.cond rfl (fun c3 => ?_) fun c3 => ?_
        · have c3 : y % 2 = 1 := odT c3
          rw [c3, Int.mul_one]
          repeat refine gs1 ?_
          refine RW.q (v := .int .i64 (Mn.lim (n + x))) rfl (q_call (args := #[.int .i64 n, .int .i64 x]) oK rfl rfl (fun w1 hw1 => fAdd_c w1 hn hx)) ?_
          repeat refine gs1 ?_
          exact Post.mid_n (s' := _) (J' := _) ⟨rfl, rfl⟩ ⟨rfl, rfl, rfl, trivial⟩ (fun _ h => h)
        · have c3 : y % 2 = 0 := by have := odF c3; omega
          rw [c3, Int.mul_zero, Int.add_zero, Mn.lim_id hn.1 hn.2]
          repeat refine gs1 ?_
          exact Post.mid_n (s' := _) (J' := _) ⟨rfl, rfl⟩ ⟨rfl, rfl, rfl, trivial⟩ (fun _ h => h)
      rintro f2 _ _ ⟨rfl, rfl⟩
      have hsg3 : (0 ≤ Mn.lim (n + x * (y % 2)) ∧ 0 ≤ Mn.lim (x + x)) ∨ (Mn.lim (n + x * (y % 2)) ≤ 0 ∧ Mn.lim (x + x) ≤ 0) := by
        have h1 := Mn.lim_sgn (n := n + x * (y % 2))
        have h2 := Mn.lim_sgn (n := x + x)
        have h3 : y % 2 = 0 ∨ y % 2 = 1 := by omega
        rcases hsg with h4 | h4
        · left; refine ⟨h1.1 ?_, h2.1 (by omega)⟩
          rcases h3 with h3 | h3 <;> rw [h3] <;> omega
        · right; refine ⟨h1.2 ?_, h2.2 (by omega)⟩
          rcases h3 with h3 | h3 <;> rw [h3] <;> omega
      repeat refine gs1 ?_
      refine RW.q (v := .int .i64 (Mn.lim (x + x))) rfl (q_call (args := #[.int .i64 x, .int .i64 x]) oK rfl rfl (fun w1 hw1 => fAdd_c w1 hx hx)) ?_
      repeat refine gs1 ?_
      refine RW.q (v := .int .i64 (y / 2)) rfl (q_quo rfl rfl (by decide) hdq (by unfold I64; omega)) ?_
      repeat refine gs1 ?_
      exact Post.back (s' := _) (J' := _) (m' := _) (by omega) ⟨Mn.lim (n + x * (y % 2)), Mn.lim (x + x), y / 2, rfl, rfl, rfl, Mn.lim_I64 _, hx2, by unfold I64; omega, by omega, hsg3, hst _ rfl⟩ ⟨rfl, rfl, rfl, trivial⟩ (fun _ h => h)
    have hz : x * y = 0 := by
      by_cases hx0 : x = 0
      · rw [hx0, Int.zero_mul]
      · have hyz : y = 0 := by
          simp [hx0] at c; omega
        rw [hyz, Int.mul_zero]
    rw [hz, Int.add_zero, Mn.lim_id hn.1 hn.2] at hE
    rw [← hE]
    repeat refine gs1 ?_
    exact fin_res (vs := [.int .i64 n]) rfl rfl ⟨.tmp rfl, trivial⟩ rfl (fun w' hw => ⟨rfl, hw.below rfl⟩)
theorem fAt_c (w : World) {Φ : Hp} (hΦ : Hp.le Φ (hp w)) {xs : List Int} {v : Value} (hv : RepSl Φ xs v) {i n : Int} : Calls pg 87 #[v, .int .i64 i, .int .i64 n] w fun e w' => e = .returned (.int .i64 (if i < 0 ∨ (xs.length : Int) ≤ i then n else xs.getD i.toNat 0)) ∧ Bel w.heap.size w w' := by
  have hsl := hv.sl
  obtain ⟨vA, vc, rfl, _⟩ := hv.sl
  refine calls_of_AW (args := [.slice vA xs.length vc, .int .i64 i, .int .i64 n]) Tryz.func87 rfl (lBT rfl) (St ⟨w, Φ, []⟩ Φ []) (StP.init w Φ hΦ []) ?_
  show AW _ _ [] _ _ _ [(0, .slice vA xs.length vc), (1, .int .i64 i), (2, .int .i64 n)] _
  repeat refine gs1 ?_
  refine RW.g (b := decide (0 ≤ i)) (v := .int .i64 ((xs.length : Nat) : Int)) rfl rfl rfl (fun h => q_len_sl (gv_pos h) hsl Tryz.underlying29) ?_
  repeat refine gs1 ?_
  refine RW.q (v := .bool (decide (0 ≤ i) && decide (i < (xs.length : Int)))) rfl (qpA rfl rfl rfl) ?_
  repeat refine gs1 ?_
  refine AW.cond rfl (fun c => ?_) fun c => ?_
  · have c : 0 ≤ i ∧ i < (xs.length : Int) := by simpa using c
    obtain ⟨m, rfl⟩ : ∃ m : Nat, i = m := ⟨i.toNat, by omega⟩
    have hm : m < xs.length := by omega
    have pe := RepSl.gi' hv hm
    rw [if_neg (by omega), Int.toNat_natCast]
    repeat refine gs1 ?_
    exact fin_res (vs := [.int .i64 (xs.getD m 0)]) rfl rfl ⟨.tmp rfl, trivial⟩ rfl (fun w' hw => ⟨rfl, hw.below rfl⟩)
  have c : i < 0 ∨ (xs.length : Int) ≤ i := by
    simp only [Bool.and_eq_false_iff, decide_eq_false_iff_not] at c; omega
  rw [if_pos c]
  repeat refine gs1 ?_
  exact fin_res (vs := [.int .i64 n]) rfl rfl ⟨.tmp rfl, trivial⟩ rfl (fun w' hw => ⟨rfl, hw.below rfl⟩)
theorem fTwo_c (w : World) {k a b : Int} (ha : I64 a) (hb : I64 b) (_ : 4 ≤ k ∧ k ≤ 10) {v : Int} (hv : Mn.op2 k a b = .ok v) : Calls pg 60 #[.int .i64 k, .int .i64 a, .int .i64 b] w fun e w' => e = .returned (.int .i64 v) ∧ Bel w.heap.size w w' := by
  unfold Mn.op2 at hv
  refine calls_of_AW (args := [.int .i64 k, .int .i64 a, .int .i64 b]) Tryz.func60 rfl (lBT rfl) (St ⟨w, hp w, []⟩ (hp w) []) (StP.init w (hp w) (Hp.le_refl _) []) ?_
  show AW _ _ [] _ _ _ [(0, .int .i64 k), (1, .int .i64 a), (2, .int .i64 b)] _
  repeat refine gs1 ?_
  refine AW.cond rfl (fun c => ?_) fun c4 => ?_
  · rw [if_pos (odT c)] at hv
    cases hv
    repeat refine gs1 ?_
    refine RW.q (v := .int .i64 (Mn.lim (a + b))) rfl (q_call (args := #[.int .i64 a, .int .i64 b]) oK rfl rfl (fun w1 hw1 => fAdd_c w1 ha hb)) ?_
    repeat refine gs1 ?_
    exact fin_res (vs := [.int .i64 (Mn.lim (a + b))]) rfl rfl ⟨.tmp rfl, trivial⟩ rfl (fun w' hw => ⟨rfl, hw.below rfl⟩)
  rw [if_neg (odF c4)] at hv
  repeat refine gs1 ?_
  refine AW.cond rfl (fun c => ?_) fun c5 => ?_
  · rw [if_pos (odT c)] at hv
    cases hv
    repeat refine gs1 ?_
    refine RW.q (v := .int .i64 (Mn.lim (a - b))) rfl (q_call (args := #[.int .i64 a, .int .i64 b]) oK rfl rfl (fun w1 hw1 => fSub_c w1 ha hb)) ?_
    repeat refine gs1 ?_
    exact fin_res (vs := [.int .i64 (Mn.lim (a - b))]) rfl rfl ⟨.tmp rfl, trivial⟩ rfl (fun w' hw => ⟨rfl, hw.below rfl⟩)
  rw [if_neg (odF c5)] at hv
  repeat refine gs1 ?_
  refine AW.cond rfl (fun c => ?_) fun c6 => ?_
  · rw [if_pos (odT c)] at hv
    cases hv
    repeat refine gs1 ?_
    refine RW.q (v := .int .i64 (Mn.lim (a * b))) rfl (q_call (args := #[.int .i64 a, .int .i64 b]) oK rfl rfl (fun w1 hw1 => fTimes_c 1 w1 ha hb (fun _ => Nat.le_refl _))) ?_
    repeat refine gs1 ?_
    exact fin_res (vs := [.int .i64 (Mn.lim (a * b))]) rfl rfl ⟨.tmp rfl, trivial⟩ rfl (fun w' hw => ⟨rfl, hw.below rfl⟩)
  rw [if_neg (odF c6)] at hv
  repeat refine gs1 ?_
  refine AW.cond rfl (fun c => ?_) fun c7 => ?_
  · rw [if_pos (odT c)] at hv
    split at hv
    · cases hv
    rename_i hb0
    cases hv
    repeat refine gs1 ?_
    refine AW.cond rfl (fun c => ?_) fun c => ?_
    · have c : b = -1 := odT c
      have hq : a.tdiv b = 0 - a := by rw [c, Int.tdiv_neg, Int.tdiv_one]; omega
      rw [hq]
      repeat refine gs1 ?_
      refine RW.q (v := .int .i64 (Mn.lim (0 - a))) rfl (q_call (args := #[.int .i64 a]) oK rfl rfl (fun w1 hw1 => fneg_c w1 ha)) ?_
      repeat refine gs1 ?_
      exact fin_res (vs := [.int .i64 (Mn.lim (0 - a))]) rfl rfl ⟨.tmp rfl, trivial⟩ rfl (fun w' hw => ⟨rfl, hw.below rfl⟩)
    have c : b ≠ -1 := odF c
    have hI : I64 (a.tdiv b) := Mn.tdiv_I64 ha hb0 c
    rw [Mn.lim_id hI.1 hI.2]
    repeat refine gs1 ?_
    refine RW.q (v := .int .i64 (a.tdiv b)) rfl (q_quo rfl rfl hb0 rfl hI) ?_
    repeat refine gs1 ?_
    exact fin_res (vs := [.int .i64 (a.tdiv b)]) rfl rfl ⟨.tmp rfl, trivial⟩ rfl (fun w' hw => ⟨rfl, hw.below rfl⟩)
  rw [if_neg (odF c7)] at hv
  repeat refine gs1 ?_
  refine AW.cond rfl (fun c => ?_) fun c8 => ?_
  · rw [if_pos (odT c)] at hv
    cases hv
    repeat refine gs1 ?_
    refine RW.q (v := .int .i64 (if a < b then 1 else 0)) rfl (q_as (q_call (args := #[.bool (decide (a < b))]) oK rfl rfl (fun w1 hw1 => fnum_c w1)) (by congr 1; by_cases h : a < b <;> simp [h])) ?_
    repeat refine gs1 ?_
    exact fin_res (vs := [.int .i64 (if a < b then 1 else 0)]) rfl rfl ⟨.tmp rfl, trivial⟩ rfl (fun w' hw => ⟨rfl, hw.below rfl⟩)
  rw [if_neg (odF c8)] at hv
  repeat refine gs1 ?_
  refine AW.cond rfl (fun c => ?_) fun c9 => ?_
  · rw [if_pos (odT c)] at hv
    cases hv
    repeat refine gs1 ?_
    refine RW.q (v := .int .i64 (if a ≤ b then 1 else 0)) rfl (q_as (q_call (args := #[.bool (decide (a ≤ b))]) oK rfl rfl (fun w1 hw1 => fnum_c w1)) (by congr 1; by_cases h : a ≤ b <;> simp [h])) ?_
    repeat refine gs1 ?_
    exact fin_res (vs := [.int .i64 (if a ≤ b then 1 else 0)]) rfl rfl ⟨.tmp rfl, trivial⟩ rfl (fun w' hw => ⟨rfl, hw.below rfl⟩)
  rw [if_neg (odF c9)] at hv
  cases hv
  repeat refine gs1 ?_
  refine RW.q (v := .int .i64 (if a = b then 1 else 0)) rfl (q_as (q_call (args := #[.bool (decide (a = b))]) oK rfl rfl (fun w1 hw1 => fnum_c w1)) (by congr 1; by_cases h : a = b <;> simp [h])) ?_
  repeat refine gs1 ?_
  exact fin_res (vs := [.int .i64 (if a = b then 1 else 0)]) rfl rfl ⟨.tmp rfl, trivial⟩ rfl (fun w' hw => ⟨rfl, hw.below rfl⟩)
end Go.Proofs.YtnfmjfheciihjaaGreatDoor
