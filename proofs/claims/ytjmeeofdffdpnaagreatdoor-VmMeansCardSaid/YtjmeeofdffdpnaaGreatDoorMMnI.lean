/- Lemmas. Conditions: those of each theorem. -/
import Derived.Test.YtjmeeofdffdpnaaGreatDoorMMnH
set_option maxRecDepth 8000
set_option maxHeartbeats 16000000
namespace Go.Proofs.YtjmeeofdffdpnaaGreatDoor
open Go Go.K Go.RowKit
open Ru (pB NmS BasV)
attribute [local irreducible] AW RW DW Post Qt
abbrev zO : List Value := orC nS 0 0
abbrev ctl (b7 b6 : Nat) : List Deferred := [{ target := .fn (.func 51) #[pB b7, pB b6], args := #[] }]
theorem run_leaves {w w' : World} {Φ Φ3 : Hp} {b7 x b6 : Nat} {y : RnV} {c : Int} {er : Int × Int} {o : Bt.Order} {a : Act} (ho : o = ⟨[], er.2, er.1⟩) (h6 : a.tmps.getD 6 undef = pB b6) (hd : a.defers = ctl b7 b6) (h : StP ⟨w, Φ, []⟩ Φ3 (dfM b7 x b6 y er.2 c zO) w') : bodyPostD pg Tryz.f21 (OrdR w Φ o) (.panic (fE er)) a w' := by
 show Leaves _ _ a.tmps _ a.defers (.panicking _) w'
 rw [hd]
 refine leaves_one oK (by simp) ((mrcv_pan w' Φ3 (StP.rebase h)).mono fun e u' w'' hh => ?_)
 obtain ⟨h1, h2, h3⟩ := hh
 have hj := StP.join h h3
 refine ⟨h1, h2, _, results_run (S := fun t => a.tmps.getD t undef) (J := St ⟨w, Φ, []⟩ Φ3 (dfM b7 x b6 y er.2 c (orC nS er.2 er.1))) (vs := [.agg (orC nS er.2 er.1).toArray]) rfl (fun _ => rfl) hj ⟨.agg h6 rfl (Cells.blk 2 rfl), trivial⟩, ?_⟩
 subst ho
 exact ⟨_, rfl, hj.below rfl, _, rfl, repSl_nil⟩
theorem jright_f {e : Ru.Env} {r : Bt.Rule} (h : Ru.rightR e r = true) : ∀ q ∈ r.Funcs, (Ru.jx e r.Funcs q.Params 40 q.Body).2 = true ∧ (Ru.jx e r.Funcs q.Params 40 q.Body).1 = q.Result := fun q hq => by
 unfold Ru.rightR at h
 simp only [Bool.and_eq_true] at h
 have := List.all_eq_true.1 h.1.2 q hq
 unfold Ru.jhas at this
 simpa using this
theorem jright_c {e : Ru.Env} {r : Bt.Rule} (h : Ru.rightR e r = true) : ∀ c ∈ r.Clauses, 0 ≤ c.Link ∧ c.Link < e.links.length ∧ (Ru.jx e r.Funcs [] 40 c.If).2 = true ∧ (Ru.jx e r.Funcs [] 40 c.To).2 = true := fun c hc => by
 unfold Ru.rightR at h
 simp only [Bool.and_eq_true] at h
 have := List.all_eq_true.1 h.2 c hc
 unfold Ru.jcl Ru.jhas Ru.den at this
 simp only [Bool.and_eq_true, decide_eq_true_eq] at this
 exact ⟨this.1.1.1.1.1, this.1.1.1.1.2, this.1.2.1, this.2.1⟩
theorem splice_map {α : Type} {g : α → Value} {l : List α} {m : Nat} {x : α} (h : m < l.length) (h1 : (g x).cells.toList = [g x] := by rfl) : splice (l.map g) m (g x).cells.toList = (l.set m x).map g := by
 rw [h1, splice, List.map_set, List.set_eq_take_append_cons_drop, if_pos (by rw [List.length_map]; exact h)]; simp
def cmdsTo (S : List Bool) (T : List Int) (k : Nat) : List (Int × Int) := (List.range k).flatMap fun l => if S.getD l false = true then [((l : Int), T.getD l 0)] else []
theorem cmdsTo_snoc {S : List Bool} {T : List Int} {k : Nat} : cmdsTo S T (k + 1) = cmdsTo S T k ++ if S.getD k false = true then [((k : Int), T.getD k 0)] else [] := by
 unfold cmdsTo; rw [List.range_succ, List.flatMap_append]; simp
theorem cmdsTo_i {S : List Bool} {T : List Int} (h : ∀ t ∈ T, I64 t) : ∀ k, k ≤ 9223372036854775807 → ∀ c ∈ cmdsTo S T k, I64 c.1 ∧ I64 c.2
 | 0, _, c, hc => by cases hc
 | k + 1, hk, c, hc => by
  rw [cmdsTo_snoc] at hc
  rcases List.mem_append.1 hc with hc | hc
  ·
   exact cmdsTo_i h k (by omega) c hc
  ·
   split at hc
   ·
    obtain rfl : c = _ := by simpa using hc
    refine ⟨by unfold I64; omega, ?_⟩
    show I64 (T.getD k 0)
    by_cases hkt : k < T.length
    ·
     rw [gDD, List.getElem?_eq_getElem hkt]; exact h _ (List.getElem_mem hkt)
    ·
     rw [gDD, List.getElem?_eq_none (by omega)]; exact I64.nat (n := 0) (by omega)
   ·
    cases hc
theorem cls_cons {fs : List Bt.RFunc} {f : Bt.Facts} {d : Mn.Dt} {ps : List Int} {s : List Bool} {t : List Int} {u : Int} {cs : List Bt.RClause} {i : Nat} (h : i < cs.length) : Mn.cls fs f d ps (cs.drop i) s t u = Mn.cls fs f d ps (cs.getD i default :: cs.drop (i + 1)) s t u := by
 rw [List.drop_eq_getElem_cons h, gDD, List.getElem?_eq_getElem h]; rfl
theorem AllK13 (Ks : Nat → List Chunk) : AllK 13 Ks = Ks 0 ++ (Ks 1 ++ (Ks 2 ++ (Ks 3 ++ (Ks 4 ++ (Ks 5 ++ (Ks 6 ++ (Ks 7 ++ (Ks 8 ++ (Ks 9 ++ (Ks 10 ++ (Ks 11 ++ (Ks 12 ++ [])))))))))))) := rfl
theorem made_one {v : Value} {n : Nat} : (madeCells #[v] (n * 1)).toList.take n = List.replicate n v := by
 simp [madeCells, Nat.mod_one, List.map_const']
instance zlMn : ZL pg 121 [.pointer none] := ⟨.pointer none, by kernel_rfl, rfl⟩
abbrev nR (b n : Nat) : Value := .slice (some ⟨b, 0, none⟩) n n
abbrev rY (fA : Option Addr) (fc : Nat) (r : Bt.Rule) (cA : Option Addr) (cc : Nat) (yf : FcV) (f : Bt.Facts) (bt bq n : Nat) : RnV := ⟨.slice fA r.Funcs.length fc, .slice cA r.Clauses.length cc, yf, f.Hour, (Mn.dateOf f.Hour).1, nR bt n, nR bq n⟩
abbrev rX (r : Bt.Rule) (i : Nat) (Aa : Option Addr) (ca : Nat) (Ab : Option Addr) (cb : Nat) : List Value := rcC (r.Clauses.getD i default) (.slice Aa (r.Clauses.getD i default).If.Kids.length ca) (.slice Ab (r.Clauses.getD i default).To.Kids.length cb)
theorem mRun_c (w : World) (Φ : Hp) (hΦ : Hp.le Φ (hp w)) (hG : Knows Φ Glob) {b : BasV} {e : Ru.Env} {ps : List Int} (hb : b.ok Φ e) (hpos : PosS Φ b.lv ps) (hpl : ps.length = e.links.length) (hpm : ps.length * 200 ≤ maxSl) (hpi : ∀ x ∈ ps, I64 x) {r : Bt.Rule} {fv cv : Value} (hf : RepSl Φ r.Funcs fv) (hc : RepSl Φ r.Clauses cv) {f : Bt.Facts} {yf : FcV} (hy : yf.ok Φ f) (hh : I64 f.Hour) :
  Calls pg 21 #[.agg b.cs.toArray, .agg #[fv, cv], .agg (fcC yf f.Hour).toArray] w (OrdR w Φ (Mn.run e ps r f)) := by
 obtain ⟨fA, fc, rfl, _⟩ := hf.sl
 obtain ⟨cA, cc, rfl, _⟩ := hc.sl
 refine calls_of_wp_defers Tryz.func21 rfl (AW.go (J := St ⟨w, Φ, []⟩ Φ []) (f := fun _ => undef) (s := [(0, .agg b.cs.toArray), (1, .agg #[.slice fA r.Funcs.length fc, .slice cA r.Clauses.length cc]), (2, .agg (fcC yf f.Hour).toArray)]) ?_ (rel_init (args := [.agg b.cs.toArray, .agg #[.slice fA r.Funcs.length fc, .slice cA r.Clauses.length cc], .agg (fcC yf f.Hour).toArray]) (lBT rfl)) (StP.init w Φ hΦ []))
 repeat refine gs1 ?_
 refine RW.bxA (cs := b.cs) rfl rfl fun b3 => ?_
 refine RW.frzB rfl fun Φ1 hl1 hb3 => ?_
 refine RW.bxA (cs := (rS2 fA fc cA cc r)) rfl rfl fun b4 => ?_
 refine RW.frzB rfl fun Φ2 hl2 hb4 => ?_
 refine RW.bxA (cs := fcC yf f.Hour) rfl rfl fun b5 => ?_
 refine RW.frzB rfl fun Φ3 hl3 hb5 => ?_
 have hl : Hp.le Φ Φ3 := (hl1.trans hl2).trans hl3
 have hb3 : Φ3 b3 = some (.cells b.cs.toArray 31 (0, 0)) := (hl2.trans hl3) _ _ hb3
 have hb4 : Φ3 b4 = some (.cells (rS2 fA fc cA cc r).toArray 35 (0, 0)) := hl3 _ _ hb4
 have hb5 : Φ3 b5 = some (.cells (fcC yf f.Hour).toArray 41 (0, 0)) := hb5
 have hb := hb.mono hl
 have hf := hf.mono hl
 have hc := hc.mono hl
 have hy := hy.mono hl
 have hpos := hpos.mono hl
 have hG := hG.mono hl
 have hcs := hc.sl
 have hls := hb.l.sl
 have q3 := PCells.blk hb3
 have q4 := PCells.blk hb4
 have q5 := PCells.blk hb5
 have q41 : PCell Φ3 ⟨b4, 1, none⟩ (.slice cA r.Clauses.length cc) := PCell.blk hb4 rfl
 have q34 : PCell Φ3 ⟨b3, 4, none⟩ b.lv := PCell.blk hb3 rfl
 have q54 : PCell Φ3 ⟨b5, 4, none⟩ (iV f.Hour) := PCell.blk hb5 rfl
 refine RW.alc rfl fun b6 => ?_
 repeat refine gs1 ?_
 refine RW.q rfl (q_call (args := #[.agg b.cs.toArray, .agg #[.slice fA r.Funcs.length fc, .slice cA r.Clauses.length cc]]) oK rfl rfl (fun w1 hw1 => ruleRight_c w1 (hb.mono hw1.phi) (hf.mono hw1.phi) (hc.mono hw1.phi))) ?_
 repeat refine gs1 ?_
 refine AW.cond rfl (fun h0 => ?_) fun h0 => ?_
 ·
  have h0 : Ru.rightR e r = false := by simpa using h0
  repeat refine gs1 ?_
  refine RW.q (v := .agg (orC nS 0 1).toArray) rfl (q_build (vals := [(2, iV 1)]) zero51 uT51 places51 rfl rfl) ?_
  repeat refine gs1 ?_
  repeat refine gs1 ?_
  have hz : Mn.run e ps r f = ⟨[], 0, 1⟩ := by unfold Mn.run; rw [if_neg (by rw [h0]; simp)]
  rw [hz]
  exact fin_D0 (vs := [.agg (orC nS 0 1).toArray]) rfl ⟨.agg rfl rfl (Cells.blk 0 rfl), trivial⟩ rfl (fun w1 hw1 => ⟨_, rfl, hw1.below rfl, .slice none 0 0, rfl, repSl_nil⟩)
 have h0 : Ru.rightR e r = true := by simpa using h0
 have hrun : Mn.run e ps r f = Mn.runR ps r f := by unfold Mn.run; rw [if_pos h0]
 rw [hrun]
 repeat refine gs1 ?_
 simp only [maxSl] at hpm
 generalize hn : ps.length = n at hpl hpm
 rw [← hpl] at hls
 refine AW.drawM (base := [(3, pB b3), (4, pB b4), (5, pB b5), (6, pB b6)]) [FQ 17 (.agg (rS2 fA fc cA cc r).toArray),
  FQ 18 (.agg (fcC yf f.Hour).toArray),
  FQ 19 (.pointer (some ⟨b3, 4, none⟩)),
  FQ 20 b.lv,
  FQ 21 (iV (n : Int)),
  FE (X := Nat) 22 (fun b => nR b n) (fun b => [.row (nR b n) 3 1 n (List.replicate n (iV 0))]),
  FQ 23 (.pointer (some ⟨b3, 4, none⟩)),
  FQ 24 b.lv,
  FQ 25 (iV (n : Int)),
  FE (X := Nat) 26 (fun b => nR b n) (fun b => [.row (nR b n) 4 1 n (List.replicate n (.bool false))]),
  ([27, 22, 26], fun vs K => ∃ u1 u2, vs = [.agg (RnV.cs ⟨.slice fA r.Funcs.length fc, .slice cA r.Clauses.length cc, yf, f.Hour, (0, 0, 0, 0), u1, u2⟩ 0 0).toArray, u1, u2] ∧ K = []),
  ([28, 27], fun vs K => ∃ (b : Nat) (v : List Value), vs = [pB b, .agg v.toArray] ∧ K = [.blk b 123 v]),
  FE (X := Nat) 7 (fun b => pB b) (fun b => [.blk b 121 [.pointer none]])] (fun s J => ∃ b7 x bt bq : Nat, s = [(3, pB b3), (4, pB b4), (5, pB b5), (6, pB b6), (7, pB b7)] ∧ J = St ⟨w, Φ, []⟩ Φ3 [.blk b7 121 [pB x], rB x ⟨.slice fA r.Funcs.length fc, .slice cA r.Clauses.length cc, yf, f.Hour, (0, 0, 0, 0), nR bt n, nR bq n⟩ 0 0, .row (nR bt n) 3 1 n (List.replicate n (iV 0)), .row (nR bq n) 4 1 n (List.replicate n (.bool false)), .blk b6 51 zO]) hmix (by kernel_rfl) ⟨rfl, rfl, rfl, rfl, trivial⟩ ⟨stepQ rfl fun S Ks hs hd => qa_ldA (cs := (rS2 fA fc cA cc r)) (show ev (fr S []) (.tmp 4) = _ from hs.2.1) (Cells.phi q4) rfl,
  stepQ rfl fun S Ks hs hd => qa_ldA (cs := fcC yf f.Hour) (show ev (fr S []) (.tmp 5) = _ from hs.2.2.1) (Cells.phi q5) rfl,
  stepQ rfl fun S Ks hs hd => qa_fa0 hs.1,
  stepQ rfl fun S Ks hs hd => qa_ld (dq (d := 19) (K := Ks 2) (dep_l hd 2 rfl)) (Cell.phi q34),
  stepQ rfl fun S Ks hs hd => qa_len (dq (d := 20) (K := Ks 3) (dep_l hd 3 rfl)) hls,
  stepE (d := 22) (Vz := fun b : Nat => nR b n) (Kz := fun b => [.row (nR b n) 3 1 n (List.replicate n (iV 0))]) rfl fun S Ks w1 hs hw hd => e_makeSlice (f := S) (s := []) (l := n) (c := n) (n := n) (xs := List.replicate n (iV 0)) (show ev (fr S []) (.tmp 21) = _ from dq (d := 21) (K := Ks 4) (dep_l hd 4 rfl)) (show ev (fr S []) (.tmp 21) = _ from dq (d := 21) (K := Ks 4) (dep_l hd 4 rfl)) uT29 inf3 (Nat.le_refl _) (by omega) (by omega) (Nat.mul_one _) made_one w1 (StP.now w1),
  stepQ rfl fun S Ks hs hd => qa_fa0 hs.1,
  stepQ rfl fun S Ks hs hd => qa_ld (dq (d := 23) (K := Ks 6) (dep_l hd 6 rfl)) (Cell.phi q34),
  stepQ rfl fun S Ks hs hd => qa_len (dq (d := 24) (K := Ks 7) (dep_l hd 7 rfl)) hls,
  stepE (d := 26) (Vz := fun b : Nat => nR b n) (Kz := fun b => [.row (nR b n) 4 1 n (List.replicate n (.bool false))]) rfl fun S Ks w1 hs hw hd => e_makeSlice (f := S) (s := []) (l := n) (c := n) (n := n) (xs := List.replicate n (.bool false)) (show ev (fr S []) (.tmp 25) = _ from dq (d := 25) (K := Ks 8) (dep_l hd 8 rfl)) (show ev (fr S []) (.tmp 25) = _ from dq (d := 25) (K := Ks 8) (dep_l hd 8 rfl)) uT86 inf4 (Nat.le_refl _) (by omega) (by omega) (Nat.mul_one _) made_one w1 (StP.now w1),
  stepQS fun S Ks hs hd => by
   obtain ⟨m1, h1, _⟩ := (dep_l hd 5 rfl : ∃ x : Nat, [22].map S = [nR x n] ∧ Ks 5 = [.row (nR x n) 3 1 n (List.replicate n (iV 0))])
   obtain ⟨m2, h2, _⟩ := (dep_l hd 9 rfl : ∃ x : Nat, [26].map S = [nR x n] ∧ Ks 9 = [.row (nR x n) 4 1 n (List.replicate n (.bool false))])
   have e0 := (dq (d := 17) (K := Ks 0) (dep_l hd 0 rfl))
   have e00 := (dq (d := 18) (K := Ks 1) (dep_l hd 1 rfl))
   have e1 : S 22 = nR m1 n := by simpa using h1
   have e2 : S 26 = nR m2 n := by simpa using h2
   refine ⟨.agg (RnV.cs ⟨.slice fA r.Funcs.length fc, .slice cA r.Clauses.length cc, yf, f.Hour, (0, 0, 0, 0), nR m1 n, nR m2 n⟩ 0 0).toArray, q_build (vals := [(0, .agg (rS2 fA fc cA cc r).toArray), (1, .agg (fcC yf f.Hour).toArray), (5, nR m1 n), (6, nR m2 n)]) zero123 uT123 places123 (by show [(0, S 17), (1, S 18), (5, S 22), (6, S 26)] = _; rw [e0, e00, e1, e2]) (by kernel_rfl), nR m1 n, nR m2 n, ?_, rfl⟩
   show [_, S 22, S 26] = _
   rw [e1, e2]; rfl,
  fun S Ks w1 hs hw hd => by
   obtain ⟨u1, u2, h1, _⟩ := (dep_l hd 10 rfl : ∃ u1 u2, [27, 22, 26].map S = [.agg (RnV.cs ⟨.slice fA r.Funcs.length fc, .slice cA r.Clauses.length cc, yf, f.Hour, (0, 0, 0, 0), u1, u2⟩ 0 0).toArray, u1, u2] ∧ Ks 10 = [])
   simp only [List.map_cons, List.map_nil, List.cons.injEq, and_true] at h1
   refine effX_mono (fun u w' hx => ?_) (e_boxA (f := S) (s := []) (cs := RnV.cs ⟨.slice fA r.Funcs.length fc, .slice cA r.Clauses.length cc, yf, f.Hour, (0, 0, 0, 0), u1, u2⟩ 0 0) (by show S 27 = _; exact h1.1) w1 (StP.now w1))
   obtain ⟨b, rfl, hx⟩ := hx
   exact ⟨[.blk b 123 (RnV.cs ⟨.slice fA r.Funcs.length fc, .slice cA r.Clauses.length cc, yf, f.Hour, (0, 0, 0, 0), u1, u2⟩ 0 0)], ⟨b, RnV.cs ⟨.slice fA r.Funcs.length fc, .slice cA r.Clauses.length cc, yf, f.Hour, (0, 0, 0, 0), u1, u2⟩ 0 0, by show [_, S 27] = _; rw [h1.1]; rfl, rfl⟩, hx⟩,
  stepE rfl fun S Ks w1 hs hw hd => e_allocF (StP.now w1), trivial⟩ (fun o S Ks ho hs hd => ?_) ?_
 ·
  obtain rfl : _ = o := sJ ho
  obtain ⟨bt, vt, kt⟩ := (hd 5 : ∃ x : Nat, [22].map S = [nR x n] ∧ Ks 5 = [.row (nR x n) 3 1 n (List.replicate n (iV 0))])
  obtain ⟨bq, vq, kq⟩ := (hd 9 : ∃ x : Nat, [26].map S = [nR x n] ∧ Ks 9 = [.row (nR x n) 4 1 n (List.replicate n (.bool false))])
  obtain ⟨u1, u2, v27, k10⟩ := (hd 10 : ∃ u1 u2, [27, 22, 26].map S = [.agg (RnV.cs ⟨.slice fA r.Funcs.length fc, .slice cA r.Clauses.length cc, yf, f.Hour, (0, 0, 0, 0), u1, u2⟩ 0 0).toArray, u1, u2] ∧ Ks 10 = [])
  obtain ⟨x, v, v28, k11⟩ := (hd 11 : ∃ (b : Nat) (v : List Value), [28, 27].map S = [pB b, .agg v.toArray] ∧ Ks 11 = [.blk b 123 v])
  obtain ⟨b7, v7, k12⟩ := (hd 12 : ∃ x : Nat, [7].map S = [pB x] ∧ Ks 12 = [.blk x 121 [.pointer none]])
  simp only [List.map_cons, List.map_nil, List.cons.injEq, and_true] at vt vq v27 v28 v7
  obtain ⟨v27, rfl, rfl⟩ := v27
  obtain ⟨v28, w28⟩ := v28
  rw [v27] at w28
  have h9 : RnV.cs ⟨.slice fA r.Funcs.length fc, .slice cA r.Clauses.length cc, yf, f.Hour, (0, 0, 0, 0), S 22, S 26⟩ 0 0 = v := congrArg Array.toList (Value.agg.inj w28)
  subst h9
  rw [vt, vq] at k11
  have k0 : Ks 0 = [] := And.right (hd 0 : _ ∧ Ks 0 = [])
  have k1 : Ks 1 = [] := And.right (hd 1 : _ ∧ Ks 1 = [])
  have k2 : Ks 2 = [] := And.right (hd 2 : _ ∧ Ks 2 = [])
  have k3 : Ks 3 = [] := And.right (hd 3 : _ ∧ Ks 3 = [])
  have k4 : Ks 4 = [] := And.right (hd 4 : _ ∧ Ks 4 = [])
  have k6 : Ks 6 = [] := And.right (hd 6 : _ ∧ Ks 6 = [])
  have k7 : Ks 7 = [] := And.right (hd 7 : _ ∧ Ks 7 = [])
  have k8 : Ks 8 = [] := And.right (hd 8 : _ ∧ Ks 8 = [])
  refine ⟨_, _, ⟨b7, x, bt, bq, rfl, rfl⟩, ⟨hs.1, hs.2.1, hs.2.2.1, hs.2.2.2.1, v7, trivial⟩, fun w1 hw1 => ?_⟩
  have hw2 : StP ⟨w, Φ, []⟩ Φ3 (AllK 13 Ks ++ [.blk b6 51 zO]) w1 := hw1
  rw [AllK13, k0, k1, k2, k3, k4, kt, k6, k7, k8, kq, k10, k11, k12] at hw2
  simp only [List.nil_append, List.append_nil, List.cons_append] at hw2
  refine effX_mono (fun v w' h => ?_) (e_store (Pn := NoPn) (f := S) (s := []) (x := .tmp 7) (y := .tmp 28) (v := pB x) (n := 1) (B := ⟨w, Φ, []⟩) (Φ := Φ3) (C := [.row (nR bt n) 3 1 n (List.replicate n (iV 0)), .row (nR bq n) 4 1 n (List.replicate n (.bool false)), rB x ⟨.slice fA r.Funcs.length fc, .slice cA r.Clauses.length cc, yf, f.Hour, (0, 0, 0, 0), nR bt n, nR bq n⟩ 0 0, .blk b7 121 [.pointer none], .blk b6 51 zO]) 3 rfl v7 v28 sz121 rfl rfl rfl rfl rfl w1 hw2)
  exact StP.sel h [3, 2, 0, 1, 4] (by decide) rfl
 rintro f7 _ _ ⟨b7, x, bt, bq, rfl, rfl⟩
 repeat refine gs1 ?_
 refine AW.drawZ (J0 := St ⟨w, Φ, []⟩ Φ3 [.blk b7 121 [pB x]]) [.q, .q, .q, .q, .q, .q, .q, .q, .p, .q] [0, 1, 2, 3, 4, 5, 7, 8, 6, 9] hmix (by kernel_rfl) (DW.q (fun _ h => StP.sel h [0] (by decide) rfl) rfl (qa_ld rfl (Cell.blk 0 rfl rfl)) (DW.q (fun _ h => StP.sel h [0] (by decide) rfl) rfl (qa_fa0 rfl) (DW.q (v := iV f.Hour) (fun _ h => StP.sel h [0] (by decide) rfl) rfl (qa_ld rfl (Cell.phi q54)) (DW.q (fun _ h => StP.sel h [0] (by decide) rfl) rfl (q_call (args := #[iV f.Hour]) oK rfl rfl (fun w1 hw1 => dateOf_c w1 (Φ := Φ3) hw1.phi hG hh)) (DW.q (fun _ h => StP.sel h [0] (by decide) rfl) rfl (q_move rfl) (DW.q (fun _ h => StP.sel h [0] (by decide) rfl) rfl (q_extract rfl rfl) (DW.q (fun _ h => StP.sel h [0] (by decide) rfl) rfl (q_nilCheck rfl) (DW.q (fun _ h => StP.sel h [0] (by decide) rfl) rfl (qa_fa0 rfl) (DW.pairQN (J' := St ⟨w, Φ, []⟩ Φ3 [.blk b7 121 [pB x], rB x (rY fA fc r cA cc yf f bt bq n) 0 0, .row (nR bt n) 3 1 n (List.replicate n (iV 0)), .row (nR bq n) 4 1 n (List.replicate n (.bool false)), .blk b6 51 zO]) rfl (fun _ h => StP.sel h [0] (by decide) rfl) (fun _ h => StP.sel h [0] (by decide) rfl) (q_extract rfl rfl) (e_store (v := .agg (dtC (Mn.dateOf f.Hour).1).toArray) 1 rfl rfl rfl sz88 rfl rfl rfl rfl rfl) (e_store (v := .agg (dtC (Mn.dateOf f.Hour).1).toArray) 1 rfl rfl rfl sz88 rfl rfl rfl rfl rfl) ?_)))))))))
--REST
 repeat refine gs1 ?_
 refine RW.dfr (k := 51) (first := #[]) (capt := #[pB b7, pB b6]) rfl ?_
 repeat refine gs1 ?_
 have hD : Mn.runR ps r f = (match Mn.cls r.Funcs f (Mn.dateOf f.Hour).1 ps r.Clauses (List.replicate n false) (List.replicate n 0) 0 with
  | .error e => ⟨[], e.2, e.1⟩
  | .ok ((s, t), u) => ⟨Mn.cmds s t, u, 0⟩) := by unfold Mn.runR; rw [hn]; rfl
 generalize hres : Mn.cls r.Funcs f (Mn.dateOf f.Hour).1 ps r.Clauses (List.replicate n false) (List.replicate n 0) 0 = res at hD
 have hErr : ∀ {er : Int × Int} {c : Int} {w' : World} {a : Act}, res = .error er → a.tmps.getD 6 undef = pB b6 → a.defers = ctl b7 b6 → StP ⟨w, Φ, []⟩ Φ3 (dfM b7 x b6 (rY fA fc r cA cc yf f bt bq n) er.2 c zO) w' → bodyPostD pg Tryz.f21 (OrdR w Φ (Mn.runR ps r f)) (.panic (fE er)) a w' := fun he h6 hd h => run_leaves (by rw [hD, he]) h6 hd h
 have hE : ECtx Φ3 e r.Funcs f (rY fA fc r cA cc yf f bt bq n) := ⟨hf, hy, fun q hq => (jright_f h0 q hq).1, fact_i hy _ (date_i _).1 (date_i _).2.1 (date_i _).2.2⟩
 have hcb : r.Clauses.length * 120 ≤ maxSl := hc.max
 simp only [maxSl] at hcb
 refine AW.loop (fun s J q => ∃ (i : Nat) (S : List Bool) (T : List Int) (u : Int), s = [(3, pB b3), (6, pB b6), (7, pB b7), (40, .slice cA r.Clauses.length cc), (41, iV (r.Clauses.length : Int)), (42, iV (i : Int))] ∧ J = St ⟨w, Φ, []⟩ Φ3 [rB x (rY fA fc r cA cc yf f bt bq n) u 0, .blk b7 121 [pB x], .row (nR bt n) 3 1 n (T.map (Value.int .i64)), .row (nR bq n) 4 1 n (S.map Value.bool), .blk b6 51 zO] ∧ q = r.Clauses.length - i ∧ i ≤ r.Clauses.length ∧ 0 ≤ u ∧ S.length = n ∧ T.length = n ∧ (∀ t ∈ T, I64 t) ∧ Mn.cls r.Funcs f (Mn.dateOf f.Hour).1 ps (r.Clauses.drop i) S T u = res) (s0 := [(3, pB b3), (6, pB b6), (7, pB b7), (40, .slice cA r.Clauses.length cc), (41, iV (r.Clauses.length : Int)), (42, iV ((0 : Nat) : Int))]) (J1 := _) (m0 := _) ⟨0, List.replicate n false, List.replicate n 0, 0, rfl, rfl, rfl, Nat.zero_le _, by omega, by simp, by simp, fun t ht => by rw [(List.mem_replicate.1 ht).2]; exact I64.nat (n := 0) (by omega), hres⟩ ⟨rfl, rfl, rfl, rfl, rfl, rfl, trivial⟩ (fun _ h => by rw [List.map_replicate, List.map_replicate]; exact StP.sel h [1, 0, 2, 3, 4] (by decide) rfl) ?_
 rintro _ _ _ _ ⟨i, S, T, u, rfl, rfl, rfl, hi, hu, hSl, hTl, hTi, hcl⟩
 repeat refine gs1 ?_
 refine AW.cond rfl (fun h => ?_) fun h => ?_
 ·
  have h : i < r.Clauses.length := by have := odT h; omega
  obtain ⟨Aa, ca, Ab, cb, hpb, hki, hkt, hwi, hwt, hlk⟩ := clV hc h
  have hcr := jright_c h0 (r.Clauses.getD i default) (by rw [gDD, List.getElem?_eq_getElem h]; exact List.getElem_mem h)
  obtain ⟨hl0, hl1, hjI, hjT⟩ := hcr
  obtain ⟨m, hm⟩ : ∃ m : Nat, (r.Clauses.getD i default).Link = m := ⟨(r.Clauses.getD i default).Link.toNat, by omega⟩
  have hmn : m < n := by omega
  rw [cls_cons h] at hcl
  have hcl' := hcl
  unfold Mn.cls at hcl
  rw [hm, Int.toNat_natCast] at hcl
  repeat refine gs1 ?_
  refine RW.alc rfl fun b9 => ?_
  repeat refine gs1 ?_
  refine RW.ownQ (args := #[pB x]) (C2 := [.blk b9 76 (rX r i Aa ca Ab cb), .blk b7 121 [pB x], .row (nR bt n) 3 1 n (T.map (Value.int .i64)), .row (nR bq n) 4 1 n (S.map Value.bool), .blk b6 51 zO]) [1, 0, 2, 3, 4, 5] (by decide) rfl rfl oK rfl rfl (fun w1 hw1 => step_c w1 hu hw1) (fun er CE a w' he hk ha hw => ?_) ?_
  ·
   obtain ⟨c', rfl⟩ := hk
   by_cases h5 : 10000 ≤ u
   ·
    rw [if_pos h5] at he hcl
    cases he
    exact hErr hcl.symm (ha.get 6) ha.defers (StP.sel hw [2, 0, 5] (by decide) rfl)
   ·
    rw [if_neg h5] at he; cases he
  intro u1 _ hr
  by_cases h5 : 10000 ≤ u
  ·
   rw [if_pos h5] at hr; cases hr
  rw [if_neg h5] at hr hcl
  cases hr
  repeat refine gs1 ?_
  have hix : ∀ {J : Cls} {s : List (Nat × Value)} {f' : Nat → Value} {dst : Option Nat} {ty : TypeId} {pos : String} {af : Array Edge} {a b : Operand}, ev (fr f' s) a = nR bq n → ev (fr f' s) b = iV (r.Clauses.getD i default).Link → Qt pg J f' s ⟨dst, .indexAddr 86 a b, ty, pos, af, none⟩ (.pointer (some (Value.at (nR bq n) (m * 1)))) := fun ha hb => qa_ixN (n := n) (i := m) ha (hb.trans (by rw [hm])) (isSl_mk (Nat.le_refl _)) hmn
  have hcS : ∀ {B : Bs} {C : List Chunk} (k : Nat), C[k]? = some (.row (nR bq n) 4 1 n (S.map Value.bool)) → Cell (St B Φ3 C) (Value.at (nR bq n) (m * 1)) (.bool (S.getD m false)) := fun k hk => Cell.row k hk (by rw [Nat.mul_one, List.getElem?_map, gDD, List.getElem?_eq_getElem (by omega)]; rfl)
  cases hS : S.getD m false with
  | true =>
   rw [if_pos hS] at hcl
   refine AW.drawZ (J0 := St ⟨w, Φ, []⟩ Φ3 [rB x (rY fA fc r cA cc yf f bt bq n) (u + 1) 0, .blk b9 76 (rX r i Aa ca Ab cb), .blk b7 121 [pB x], .row (nR bt n) 3 1 n (T.map (Value.int .i64)), .row (nR bq n) 4 1 n (S.map Value.bool), .blk b6 51 zO]) [.q, .q, .q, .q, .q, .q, .q, .q, .q, .q, .q, .q, .q, .e, .q, .q] [0, 1, 2, 3, 4, 5, 6, 7, 8, 9, 10, 11, 12, 13, 14, 15] hmix (by kernel_rfl) ?_
   repeat refine gs1 ?_
   refine DW.q (fun _ h => h) rfl (hix rfl rfl) (DW.q (v := .bool true) (fun _ h => h) rfl (qa_ld rfl (by have := hcS (B := ⟨w, Φ, []⟩) (C := [rB x (rY fA fc r cA cc yf f bt bq n) (u + 1) 0, .blk b9 76 (rX r i Aa ca Ab cb), .blk b7 121 [pB x], .row (nR bt n) 3 1 n (T.map (Value.int .i64)), .row (nR bq n) 4 1 n (S.map Value.bool), .blk b6 51 zO]) 4 rfl; rwa [hS] at this)) ?_)
   repeat refine gs1 ?_
   refine DW.g (b := false) (v := .bool false) (fun _ h => h) rfl rfl rfl (fun h => by simp at h) (DW.skp (b := false) (fun _ _ h => h) rfl rfl rfl (by decide) (DW.g (b := false) (v := .bool false) (fun _ h => h) rfl rfl rfl (fun h => by simp at h) (DW.q (v := .bool false) (fun _ h => h) rfl (q_pick rfl (fun h => nomatch h) (fun _ => rfl)) ?_)))
   repeat refine gs1 ?_
   exact Post.back (s' := _) (J' := _) (m' := _) (by omega) ⟨i + 1, S, T, u + 1, rfl, rfl, rfl, by omega, by omega, hSl, hTl, hTi, hcl⟩ ⟨rfl, rfl, rfl, rfl, rfl, rfl, trivial⟩ (fun _ h => StP.sel h [0, 2, 3, 4, 5] (by decide) rfl)
  | false =>
   rw [if_neg (by rw [hS]; simp)] at hcl
   have hSom : ∀ (u2 : Int) (w1 : World), StP ⟨w, Φ, []⟩ Φ3 [rB x (rY fA fc r cA cc yf f bt bq n) (u2) 0, .blk b9 76 (rX r i Aa ca Ab cb), .blk b7 121 [pB x], .row (nR bt n) 3 1 n (T.map (Value.int .i64)), .row (nR bq n) 4 1 n (S.map Value.bool), .blk b6 51 zO] w1 → StP ⟨w, Φ, []⟩ Φ3 [.som x 123 [(14, nR bt n), (15, nR bq n)], .blk b9 76 (rX r i Aa ca Ab cb), .blk b7 121 [pB x], .row (nR bt n) 3 1 n (T.map (Value.int .i64)), .row (nR bq n) 4 1 n (S.map Value.bool), .blk b6 51 zO] w1 := fun u2 w1 h => StP.toSom h (by simp)
   have hPK : PanK (ctl b7 b6) 6 (pB b6) (bodyPostD pg Tryz.f21 (OrdR w Φ (Mn.runR ps r f))) (fun c w' => ∃ er c', c = fE er ∧ res = .error er ∧ StP ⟨w, Φ, []⟩ Φ3 (dfM b7 x b6 (rY fA fc r cA cc yf f bt bq n) er.2 c' zO) w') := ⟨fun c a w' hd h6 hp => by
    obtain ⟨er, c', rfl, he, hw⟩ := hp
    exact hErr he h6 hd hw⟩
   refine AW.drawK (sl := 6) (v := pB b6) (J0 := St ⟨w, Φ, []⟩ Φ3 [.som x 123 [(14, nR bt n), (15, nR bq n)], .blk b9 76 (rX r i Aa ca Ab cb), .blk b7 121 [pB x], .row (nR bt n) 3 1 n (T.map (Value.int .i64)), .row (nR bq n) 4 1 n (S.map Value.bool), .blk b6 51 zO]) [.q, .q, .q, .q, .q, .q, .q, .q, .q, .q, .q, .q, .q, .e, .q, .q] [0, 1, 2, 3, 4, 5, 6, 7, 8, 9, 10, 11, 12, 13, 14, 15] hmix (by kernel_rfl) (by kernel_rfl) rfl (DW.q (hSom _) rfl (qa_ld rfl (Cell.blk 2 rfl rfl)) (DW.q (hSom _) rfl (q_nilCheck rfl) (DW.q (hSom _) rfl (qa_fa0 rfl) (DW.q (v := nR bq n) (hSom _) rfl (qa_ld rfl (Cell.som 0 rfl (by simp))) (DW.q (hSom _) rfl (qa_fa0 rfl) (DW.q (hSom _) rfl (qa_ld rfl (Cell.blk 1 rfl rfl)) (DW.q (hSom _) rfl (hix rfl rfl) (DW.q (v := .bool false) (hSom _) rfl (qa_ld rfl (by have := hcS (B := ⟨w, Φ, []⟩) (C := [.som x 123 [(14, nR bt n), (15, nR bq n)], .blk b9 76 (rX r i Aa ca Ab cb), .blk b7 121 [pB x], .row (nR bt n) 3 1 n (T.map (Value.int .i64)), .row (nR bq n) 4 1 n (S.map Value.bool), .blk b6 51 zO]) 4 rfl; rwa [hS] at this)) (DW.q (v := .bool true) (hSom _) rfl (q_as (q_not rfl) rfl) ?_)))))))))
   refine DW.q (hSom _) rfl (q_move rfl) (DW.g (b := true) (hSom _) rfl rfl rfl (fun _ => qa_ld rfl (Cell.blk 2 rfl rfl)) (DW.g (b := true) (hSom _) rfl rfl rfl (fun _ => qa_fa0 rfl) (DW.g (b := true) (v := .agg (exC (r.Clauses.getD i default).If (.slice Aa (r.Clauses.getD i default).If.Kids.length ca)).toArray) (hSom _) rfl rfl rfl (fun _ => qa_ldA (cs := (exC (r.Clauses.getD i default).If (.slice Aa (r.Clauses.getD i default).If.Kids.length ca))) rfl (Cells.blkP 1 rfl (fun j u hj => by rw [Nat.zero_add]; exact (List.getElem?_append_left (List.getElem?_eq_some_iff.1 hj).1).trans hj)) rfl) ?_)))
   refine DW.tke rfl rfl (DW.own (args := #[pB x, .agg (exC (r.Clauses.getD i default).If (.slice Aa (r.Clauses.getD i default).If.Kids.length ca)).toArray, .slice none 0 0]) (C2 := [.blk b9 76 (rX r i Aa ca Ab cb), .blk b7 121 [pB x], .row (nR bt n) 3 1 n (T.map (Value.int .i64)), .row (nR bq n) 4 1 n (S.map Value.bool), .blk b6 51 zO]) [0, 1, 2, 3, 4, 5] (by decide) rfl rfl oK rfl rfl (fun w1 hw1 => eval_c Mn.big Φ3 (r.Clauses.getD i default).If _ w1 40 [] [] _ (u + 1) 0 hE hki hjI rfl repSl_nil (by omega) (by omega) (by omega) (by decide) hw1) (fun er CE w2 he hk hw => ?_) (fun v _ w1 h => hSom _ w1 h) ?_)
   ·
    obtain ⟨c', rfl⟩ := hk
    exact ⟨er, c', rfl, by rw [← hcl]; exact Mn.bnd_err he, StP.sel hw [2, 0, 5] (by decide) rfl⟩
   rintro ⟨va, u2⟩ _ hr
   rw [Mn.bnd_ok hr] at hcl
   have hu2 := (Mn.ev_rng hE.J hE.F Mn.big hjI rfl (fun x hx => by cases hx) hr).2
   simp only at hcl hu2 ⊢
   refine DW.g (b := true) (v := .bool (!decide (va = 0))) (hSom _) rfl rfl rfl (fun _ => q_neq rfl rfl) (DW.q (v := .bool (!decide (va = 0))) (hSom _) rfl (q_pick rfl (fun _ => rfl) (fun h => nomatch h)) ?_)
   repeat refine gs1 ?_
   refine AW.cond rfl (fun hv => ?_) fun hv => ?_
   ·
    have hv : va ≠ 0 := by simpa using hv
    rw [if_neg hv] at hcl
    repeat refine gs1 ?_
    refine AW.drawK (sl := 6) (v := pB b6) (J0 := St ⟨w, Φ, []⟩ Φ3 [.som x 123 [(14, nR bt n), (15, nR bq n)], .blk b9 76 (rX r i Aa ca Ab cb), .blk b7 121 [pB x], .row (nR bt n) 3 1 n (T.map (Value.int .i64)), .row (nR bq n) 4 1 n (S.map Value.bool), .blk b6 51 zO]) [.q, .q, .q, .q, .q, .q, .q, .q, .q, .q, .q, .q, .q, .q, .q, .q, .e, .q, .q, .e] [0, 1, 2, 3, 4, 5, 6, 7, 8, 10, 11, 12, 13, 14, 15, 16, 9, 17, 18, 19] hmix (by kernel_rfl) (by kernel_rfl) rfl (DW.q (hSom _) rfl (qa_ld rfl (Cell.blk 2 rfl rfl)) (DW.q (hSom _) rfl (q_nilCheck rfl) (DW.q (hSom _) rfl (qa_fa0 rfl) (DW.q (v := nR bt n) (hSom _) rfl (qa_ld rfl (Cell.som 0 rfl (by simp))) (DW.q (hSom _) rfl (qa_fa0 rfl) (DW.q (hSom _) rfl (qa_ld rfl (Cell.blk 1 rfl rfl)) (DW.q (hSom _) rfl (qa_ld rfl (Cell.blk 2 rfl rfl)) (DW.q (hSom _) rfl (qa_fa0 rfl) (DW.q (v := .agg (exC (r.Clauses.getD i default).To (.slice Ab (r.Clauses.getD i default).To.Kids.length cb)).toArray) (hSom _) rfl (qa_ldA (cs := (exC (r.Clauses.getD i default).To (.slice Ab (r.Clauses.getD i default).To.Kids.length cb))) rfl (Cells.blkP 1 rfl (fun j u hj => by rw [Nat.add_comm]; exact hj)) rfl) ?_)))))))))
    refine DW.q (hSom _) rfl (qa_fa0 rfl) (DW.q (v := b.lv) (hSom _) rfl (qa_ld rfl (Cell.phi q34)) (DW.q (hSom _) rfl (qa_fa0 rfl) (DW.q (hSom _) rfl (qa_ld rfl (Cell.blk 1 rfl rfl)) (DW.q (v := .pointer (some (Value.at b.lv (m * 18)))) (hSom _) rfl (qa_ixN (n := n) (i := m) rfl (by show Value.int .i64 _ = _; rw [hm]) hls hmn) (DW.q (hSom _) rfl (qa_fat rfl) (DW.q (v := iV (ps.getD m 0)) (hSom _) rfl (qa_ld rfl (Cell.phi (hpos m (by omega)))) (DW.own (args := #[pB x, .agg (exC (r.Clauses.getD i default).To (.slice Ab (r.Clauses.getD i default).To.Kids.length cb)).toArray, .slice none 0 0]) (C2 := [.blk b9 76 (rX r i Aa ca Ab cb), .blk b7 121 [pB x], .row (nR bt n) 3 1 n (T.map (Value.int .i64)), .row (nR bq n) 4 1 n (S.map Value.bool), .blk b6 51 zO]) [0, 1, 2, 3, 4, 5] (by decide) rfl rfl oK rfl rfl (fun w1 hw1 => eval_c Mn.big Φ3 (r.Clauses.getD i default).To _ w1 40 [] [] _ u2 0 hE hkt hjT rfl repSl_nil (by omega) (by omega) (by omega) (by decide) hw1) (fun er CE w2 he hk hw => ?_) (fun v _ w1 h => hSom _ w1 h) ?_)))))))
    ·
     obtain ⟨c', rfl⟩ := hk
     exact ⟨er, c', rfl, by rw [← hcl]; exact Mn.bnd_err he, StP.sel hw [2, 0, 5] (by decide) rfl⟩
    rintro ⟨vt, u3⟩ _ hrt
    rw [Mn.bnd_ok hrt] at hcl
    have hu3 := Mn.ev_rng hE.J hE.F Mn.big hjT rfl (fun x hx => by cases hx) hrt
    simp only at hcl hu3 ⊢
    refine DW.q (v := iV (Mn.clampI vt 0 (ps.getD m 0))) (hSom _) rfl (q_call (args := #[iV vt, iV 0, iV (ps.getD m 0)]) oK rfl rfl (fun w1 hw1 => Clamp_c w1 (hp w1) (Hp.le_refl _))) (DW.q (v := .pointer (some (Value.at (nR bt n) (m * 1)))) (hSom _) rfl (qa_ixN (n := n) (i := m) rfl (by show Value.int .i64 _ = _; rw [hm]) (isSl_mk (Nat.le_refl _)) hmn) (DW.effn (J' := St ⟨w, Φ, []⟩ Φ3 [rB x (rY fA fc r cA cc yf f bt bq n) (u3) 0, .blk b9 76 (rX r i Aa ca Ab cb), .blk b7 121 [pB x], .row (nR bt n) 3 1 n ((T.set m (Mn.clampI vt 0 (ps.getD m 0))).map (Value.int .i64)), .row (nR bq n) 4 1 n (S.map Value.bool), .blk b6 51 zO]) (fun h => absurd rfl h) (e_storeRow (n := 0) 3 rfl rfl rfl sz3 rfl rfl (by rw [List.length_map]; omega) (by rw [Nat.mul_one]; exact splice_map (by omega)) rfl) ?_))
    repeat refine gs1 ?_
    refine AW.drawZ (J0 := St ⟨w, Φ, []⟩ Φ3 [rB x (rY fA fc r cA cc yf f bt bq n) (u3) 0, .blk b9 76 (rX r i Aa ca Ab cb), .blk b7 121 [pB x], .row (nR bt n) 3 1 n ((T.set m (Mn.clampI vt 0 (ps.getD m 0))).map (Value.int .i64)), .row (nR bq n) 4 1 n (S.map Value.bool), .blk b6 51 zO]) [.q, .q, .q, .q, .q, .q, .q, .e] [0, 1, 2, 3, 4, 5, 6, 7] hmix (by kernel_rfl) ?_
    repeat refine gs1 ?_
    refine DW.q (fun _ h => h) rfl (hix rfl rfl) (DW.effn (J' := St ⟨w, Φ, []⟩ Φ3 [rB x (rY fA fc r cA cc yf f bt bq n) (u3) 0, .blk b9 76 (rX r i Aa ca Ab cb), .blk b7 121 [pB x], .row (nR bt n) 3 1 n ((T.set m (Mn.clampI vt 0 (ps.getD m 0))).map (Value.int .i64)), .row (nR bq n) 4 1 n ((S.set m true).map Value.bool), .blk b6 51 zO]) (fun h => absurd rfl h) (e_storeRow (n := 0) 4 rfl rfl rfl sz4 rfl rfl (by rw [List.length_map]; omega) (by rw [Nat.mul_one]; exact splice_map (by omega)) rfl) ?_)
    repeat refine gs1 ?_
    exact Post.back (s' := _) (J' := _) (m' := _) (by omega) ⟨i + 1, S.set m true, T.set m (Mn.clampI vt 0 (ps.getD m 0)), u3, rfl, rfl, rfl, by omega, by omega, by rw [List.length_set]; exact hSl, by rw [List.length_set]; exact hTl, fun t ht => by
     rcases List.mem_or_eq_of_mem_set ht with ht | rfl
     ·
      exact hTi t ht
     ·
      exact Mn.clampI_i hu3.1 (I64.nat (n := 0) (by omega)) (hpi _ (by rw [gDD, List.getElem?_eq_getElem (by omega)]; exact List.getElem_mem _)), hcl⟩ ⟨rfl, rfl, rfl, rfl, rfl, rfl, trivial⟩ (fun _ h => StP.sel h [0, 2, 3, 4, 5] (by decide) rfl)
   ·
    have hv : va = 0 := by simpa using hv
    rw [if_pos hv] at hcl
    repeat refine gs1 ?_
    exact Post.back (s' := _) (J' := _) (m' := _) (by omega) ⟨i + 1, S, T, u2, rfl, rfl, rfl, by omega, by omega, hSl, hTl, hTi, hcl⟩ ⟨rfl, rfl, rfl, rfl, rfl, rfl, trivial⟩ (fun _ h => StP.sel h [0, 2, 3, 4, 5] (by decide) rfl)
 have h : i = r.Clauses.length := by have := odF h; omega
 subst h
 rw [List.drop_length] at hcl
 have hD : Mn.runR ps r f = ⟨Mn.cmds S T, u, 0⟩ := by rw [hD, ← hcl]; rfl
 rw [hD]
 repeat refine gs1 ?_
 refine AW.loop (fun s J q => ∃ (k : Nat) (cv : Value) (c : List (Int × Int)), s = [(6, pB b6), (7, pB b7), (99, nR bq n), (100, iV (n : Int)), (101, iV (k : Int))] ∧ J = St ⟨w, Φ, []⟩ Φ3 [.blk b6 51 (orC cv u 0), rB x (rY fA fc r cA cc yf f bt bq n) u 0, .blk b7 121 [pB x], .row (nR bt n) 3 1 n (T.map (Value.int .i64)), .row (nR bq n) 4 1 n (S.map Value.bool), .row cv 73 2 c.length (flat c)] ∧ q = n - k ∧ k ≤ n ∧ IsSl cv c.length ∧ c.length ≤ k ∧ c = cmdsTo S T k) (s0 := [(6, pB b6), (7, pB b7), (99, nR bq n), (100, iV (n : Int)), (101, iV ((0 : Nat) : Int))]) (J1 := _) (m0 := _) ⟨0, .slice none 0 0, [], rfl, rfl, rfl, Nat.zero_le _, isSl_nil, Nat.le_refl _, rfl⟩ ⟨rfl, rfl, rfl, rfl, rfl, trivial⟩ (fun _ h => StP.sel (addNil (T := 73) (sz := 2) h) [5, 1, 2, 3, 4, 0] (by decide) rfl) ?_
 rintro _ _ _ _ ⟨k, cv, c, rfl, rfl, rfl, hk, hcv, hck, hcm⟩
 repeat refine gs1 ?_
 refine AW.cond rfl (fun h => ?_) fun h => ?_
 ·
  have h : k < n := by have := odT h; omega
  have hcS : ∀ {B : Bs} {C : List Chunk} (j : Nat), C[j]? = some (.row (nR bq n) 4 1 n (S.map Value.bool)) → Cell (St B Φ3 C) (Value.at (nR bq n) (k * 1)) (.bool (S.getD k false)) := fun j hj => Cell.row j hj (by rw [Nat.mul_one, List.getElem?_map, gDD, List.getElem?_eq_getElem (by omega)]; rfl)
  have hcT : ∀ {B : Bs} {C : List Chunk} (j : Nat), C[j]? = some (.row (nR bt n) 3 1 n (T.map (Value.int .i64))) → Cell (St B Φ3 C) (Value.at (nR bt n) (k * 1)) (iV (T.getD k 0)) := fun j hj => Cell.row j hj (by rw [Nat.mul_one, List.getElem?_map, gDD, List.getElem?_eq_getElem (by omega)]; rfl)
  repeat refine gs1 ?_
  refine RW.q (v := .bool (S.getD k false)) rfl (qa_ld rfl (hcS 4 rfl)) ?_
  repeat refine gs1 ?_
  refine AW.cond rfl (fun hs => ?_) fun hs => ?_
  ·
   have hc1 : cmdsTo S T (k + 1) = c ++ [((k : Int), T.getD k 0)] := by rw [hcm, cmdsTo_snoc, if_pos hs]
   have hne : c.length + 1 ≤ n := by omega
   obtain ⟨cA2, cc2, rfl, _⟩ := hcv
   repeat refine gs1 ?_
   have hj : ∀ (w1 : World) (cv2 : Value) (c2 : List (Int × Int)), StP ⟨w, Φ, []⟩ Φ3 [.blk b6 51 (orC (.slice cA2 c.length cc2) u 0), rB x (rY fA fc r cA cc yf f bt bq n) u 0, .blk b7 121 [pB x], .row (nR bt n) 3 1 n (T.map (Value.int .i64)), .row (nR bq n) 4 1 n (S.map Value.bool), .row cv2 73 2 c2.length (flat c2)] w1 → StP ⟨w, Φ, []⟩ Φ3 [.blk b6 51 (orC (.slice cA2 c.length cc2) u 0), rB x (rY fA fc r cA cc yf f bt bq n) u 0, .blk b7 121 [pB x], .row (nR bt n) 3 1 n (T.map (Value.int .i64))] w1 := fun w1 cv2 c2 h => StP.sel h [0, 1, 2, 3] (by decide) rfl
   refine AW.drawZ (J0 := St ⟨w, Φ, []⟩ Φ3 [.blk b6 51 (orC (.slice cA2 c.length cc2) u 0), rB x (rY fA fc r cA cc yf f bt bq n) u 0, .blk b7 121 [pB x], .row (nR bt n) 3 1 n (T.map (Value.int .i64))]) [.q, .q, .q, .q, .q, .q, .q, .q, .q, .q, .q, .e, .e, .q, .e] [0, 1, 2, 3, 4, 5, 6, 7, 8, 9, 10, 11, 12, 13, 14] hmix (by kernel_rfl) (DW.q (fun w1 h => hj w1 _ _ h) rfl (qa_fa0 rfl) (DW.q (fun w1 h => hj w1 _ _ h) rfl (qa_ld rfl (Cell.blk 0 rfl rfl)) (DW.q (fun w1 h => hj w1 _ _ h) rfl (q_move rfl) (DW.q (fun w1 h => hj w1 _ _ h) rfl (qa_ld rfl (Cell.blk 2 rfl rfl)) (DW.q (fun w1 h => hj w1 _ _ h) rfl (q_nilCheck rfl) (DW.q (fun w1 h => hj w1 _ _ h) rfl (qa_fa0 rfl) (DW.q (fun w1 h => hj w1 _ _ h) rfl (qa_ld rfl (Cell.blk 1 rfl rfl)) (DW.q (fun w1 h => hj w1 _ _ h) rfl (q_move rfl) (DW.q (v := .pointer (some (Value.at (nR bt n) (k * 1)))) (fun w1 h => hj w1 _ _ h) rfl (qa_ixN (n := n) (i := k) rfl rfl (isSl_mk (Nat.le_refl _)) h) ?_)))))))))
   refine DW.q (v := iV (T.getD k 0)) (fun w1 h => hj w1 _ _ h) rfl (qa_ld rfl (hcT 3 rfl)) (DW.q (v := .agg #[iV (k : Int), iV (T.getD k 0)]) (fun w1 h => hj w1 _ _ h) rfl (q_build (vals := [(0, iV (k : Int)), (1, iV (T.getD k 0))]) zero73 uT73 places73 rfl rfl) (DW.eff _ _ (fun _ _ _ h => StP.sel h [1, 2, 3, 4] (by decide) rfl) rfl (e_buildSlice (vals := [(0, .agg #[iV (k : Int), iV (T.getD k 0)])]) (cells := [iV (k : Int), iV (T.getD k 0)]) uT48 inf73 rfl rfl rfl (by kernel_rfl) rfl) fun b8 => (DW.eff (fun xv : {vq : Value // IsSl vq (c.length + 1)} => xv.1) (fun xv => St ⟨w, Φ, []⟩ Φ3 [.row (.slice (some ⟨b8, 0, none⟩) 1 1) 73 2 1 [iV (k : Int), iV (T.getD k 0)], .blk b6 51 (orC (.slice cA2 c.length cc2) u 0), rB x (rY fA fc r cA cc yf f bt bq n) u 0, .blk b7 121 [pB x], .row (nR bt n) 3 1 n (T.map (Value.int .i64)), .row (nR bq n) 4 1 n (S.map Value.bool), .row xv.1 73 2 (c.length + 1) (flat c ++ [iV (k : Int), iV (T.getD k 0)])]) (fun _ _ _ h => StP.sel h [1, 2, 3, 4] (by decide) rfl) rfl (e_append 6 rfl rfl rfl uT48 inf73 rfl rfl rfl (Cells.row0 0 rfl) rfl (by omega) (by omega) (fun _ => rfl)) ?_)))
   rintro ⟨kv2, hkv2⟩
   refine DW.q (fun _ h => StP.sel h [1, 2, 3, 4] (by decide) rfl) rfl (qa_fa0 rfl) (DW.effn (J' := St ⟨w, Φ, []⟩ Φ3 [.row (.slice (some ⟨b8, 0, none⟩) 1 1) 73 2 1 [iV (k : Int), iV (T.getD k 0)], .blk b6 51 (orC kv2 u 0), rB x (rY fA fc r cA cc yf f bt bq n) u 0, .blk b7 121 [pB x], .row (nR bt n) 3 1 n (T.map (Value.int .i64)), .row (nR bq n) 4 1 n (S.map Value.bool), .row kv2 73 2 (c.length + 1) (flat c ++ [iV (k : Int), iV (T.getD k 0)])]) (fun h => absurd rfl h) (e_storeSl (v := kv2) 1 rfl rfl rfl hkv2 sz48 rfl rfl rfl) ?_)
   repeat refine gs1 ?_
   exact Post.back (s' := _) (J' := _) (m' := _) (by omega) ⟨k + 1, kv2, c ++ [((k : Int), T.getD k 0)], rfl, rfl, rfl, by omega, by rw [List.length_append]; exact hkv2, by rw [List.length_append]; simp; omega, hc1.symm⟩ ⟨rfl, rfl, rfl, rfl, rfl, trivial⟩ (fun _ h => by rw [List.length_append, flat_append]; exact StP.sel h [1, 2, 3, 4, 5, 6] (by decide) rfl)
  ·
   have hc1 : cmdsTo S T (k + 1) = c := by rw [hcm, cmdsTo_snoc, if_neg (by rw [hs]; simp), List.append_nil]
   repeat refine gs1 ?_
   exact Post.back (s' := _) (J' := _) (m' := _) (by omega) ⟨k + 1, cv, c, rfl, rfl, rfl, by omega, hcv, by omega, hc1.symm⟩ ⟨rfl, rfl, rfl, rfl, rfl, trivial⟩ (fun _ h => h)
 have h : k = n := by have := odF h; omega
 subst h
 obtain ⟨cA2, cc2, rfl, _⟩ := hcv
 repeat refine gs1 ?_
 have hcl2 : ∀ w1, (St ⟨w, Φ, []⟩ Φ3 [.blk b6 51 (orC (.slice cA2 c.length cc2) u 0), rB x (rY fA fc r cA cc yf f bt bq k) u 0, .blk b7 121 [pB x], .row (nR bt k) 3 1 k (T.map (Value.int .i64)), .row (nR bq k) 4 1 k (S.map Value.bool), .row (.slice cA2 c.length cc2) 73 2 c.length (flat c)]).p w1 → StP ⟨w, Φ, []⟩ Φ3 (dfM b7 x b6 (rY fA fc r cA cc yf f bt bq k) u 0 (orC (.slice cA2 c.length cc2) u 0) ++ [.row (.slice cA2 c.length cc2) 73 2 c.length (flat c)]) w1 := fun w1 h => StP.sel h [2, 1, 0, 5] (by decide) rfl
 have hce : Mn.cmds S T = c := by rw [hcm]; unfold Mn.cmds cmdsTo; rw [hSl]
 rw [hce]
 exact fin_D2 (J2 := St ⟨w, Φ, []⟩ Φ3 (dfM b7 x b6 (rY fA fc r cA cc yf f bt bq k) u 0 (orC (.slice cA2 c.length cc2) u 0) ++ [.row (.slice cA2 c.length cc2) 73 2 c.length (flat c)])) oK (fun w1 hw1 => (mrcv_ret w1 Φ3 (StP.hand (hcl2 w1 hw1))).mono fun e u w2 hh => ⟨hh.1, hh.2.1, StP.frameL (hcl2 w1 hw1) hh.2.2⟩) (vs := [.agg (orC (.slice cA2 c.length cc2) u 0).toArray]) rfl ⟨.agg rfl rfl (Cells.blk 2 rfl), trivial⟩ rfl (fun w1 hw1 => ⟨_, rfl, hw1.below rfl, .slice cA2 c.length cc2, rfl, RowS.repE evenCmd (row_ext hw1 3 rfl) rfl (by show c.length * 16 ≤ maxSl; simp only [maxSl]; omega) (fun z hz => cmdsTo_i hTi k (by omega) z (by rw [← hcm]; exact hz))⟩)
end Go.Proofs.YtjmeeofdffdpnaaGreatDoor
