/- Lemmas. Conditions: those of each theorem. -/
import Derived.Test.YtnfmjfheciihjaaGreatDoorYSmB
import Derived.Test.YtnfmjfheciihjaaGreatDoorYOpenS
set_option maxRecDepth 8000
set_option maxHeartbeats 16000000
namespace Go.Proofs.YtnfmjfheciihjaaGreatDoor
open Go Go.K Go.RowKit
open Ru (pB NmS BasV)
attribute [local irreducible] AW RW DW DT Post Qt
theorem only_int {Φ : Hp} {xs : List Int} {v : Value} (h : RepSl Φ xs v) {m : Nat} (hm : m < xs.length) : PCell Φ (Value.at v (m * 1)) (.int .i64 (xs.getD m 0)) := by
  have := (h.int hm).1
  rw [Nat.mul_one, gDD, List.getElem?_eq_getElem hm]; exact this
theorem only_i {Φ : Hp} {xs : List Int} {v : Value} (h : RepSl Φ xs v) {m : Nat} (hm : m < xs.length) : I64 (xs.getD m 0) := by
  rw [gDD, List.getElem?_eq_getElem hm]; exact (h.int hm).2
theorem only_set {Φ : Hp} {xs : List Int} {v x : Value} {m : Nat} {u : Int} {n : Nat} (hn : n = 0 + xs.length) (h : RepSl Φ xs v) (hu : I64 u) {Ψ : Hp} (hr : RowS Ψ x 3 1 n ((xs.set m u).map (Value.int .i64))) : RepSl Ψ (xs.set m u) x := by
  subst hn
  refine RowS.ints hr ?_ ?_
  · have := h.max; simp only [maxSl] at this ⊢; have h2 : xs.length * 8 ≤ maxSl := this; simp only [maxSl] at h2; omega
  · intro y hy
    rcases List.mem_or_eq_of_mem_set hy with h1 | h1
    · obtain ⟨i, hi, rfl⟩ := List.mem_iff_getElem.1 h1
      exact (h.int hi).2
    · rw [h1]; exact hu
theorem only_sets {Φ : Hp} {xss : List (List Int)} {v x sv : Value} {vs : List Value} {m : Nat} {us : List Int} {n : Nat} (hn : n = 0 + xss.length) (h : RepSl Φ xss v) (hl : vs.length = xss.length) (hr : ∀ i, i < xss.length → RepSl Φ (xss.getD i []) (vs.getD i undef)) (hu : RepSl Φ us sv) {Ψ : Hp} (hle : Hp.le Φ Ψ) (hx : RowS Ψ x 29 1 n (vs.set m sv)) : RepSl Ψ (xss.set m us) x := by
  subst hn
  refine RowS.lists hx (by rw [List.length_set, List.length_set]; exact hl) (by rw [List.length_set]; omega) ?_ ?_
  · intro i hi
    rw [List.length_set] at hi
    by_cases h1 : i = m
    · subst h1
      rw [gDD, gDD, List.getElem?_set_self (by omega), List.getElem?_set_self (by omega)]
      exact hu.mono hle
    · rw [gDD, gDD, List.getElem?_set_ne (Ne.symm h1), List.getElem?_set_ne (Ne.symm h1), ← gDD, ← gDD]
      exact (hr i hi).mono hle
  · have := h.max; have h2 : xss.length * 24 ≤ maxSl := this; omega
theorem fc_one {Φ : Hp} {y : FcV} {f : Bt.Facts} (h : y.ok Φ f) (k : Int) : (fcC y k).all Value.oneCell' = true := by
  obtain ⟨v1, v2, v3, v4, v5⟩ := y
  have h1 : IsSl v1 f.Volume.length := h.vol.sl
  have h2 : IsSl v2 f.Level.length := h.lev.sl
  have h3 : IsSl v3 f.Owned.length := h.own.sl
  have h4 : IsSl v4 f.Pos.length := h.pos.sl
  have h5 : IsSl v5 f.Crest.length := h.cre.sl
  obtain ⟨_, _, rfl, _⟩ := h1
  obtain ⟨_, _, rfl, _⟩ := h2
  obtain ⟨_, _, rfl, _⟩ := h3
  obtain ⟨_, _, rfl, _⟩ := h4
  obtain ⟨_, _, rfl, _⟩ := h5
  rfl
abbrev onS (a b : List Int) (m : Nat) : List Int := a.set m (b.getD m 0)
abbrev rI (x : Value) (n : Nat) (l : List Int) : Chunk := .row x 3 1 (0 + n) (l.map (Value.int .i64))
abbrev onK (b : BasV) (r : Bt.Rule) (fA : Option Addr) (fc : Nat) (cA : Option Addr) (cc : Nat) (yf yg : FcV) (f q : Bt.Facts) (b5 b6 b7 b8 : Nat) : List Chunk := [.blk b8 38 (fcC yg q.Hour), .blk b7 38 (fcC yf f.Hour), .blk b6 35 (rS2 fA fc cA cc r), .blk b5 31 b.cs]
abbrev onR (x1 x2 x3 x4 x5 : Value) (l1 l2 : List Int) (vs : List Value) (l4 l5 : List Int) (f : Bt.Facts) (C : List Chunk) : List Chunk := rI x5 f.Crest.length l5 :: rI x4 f.Pos.length l4 :: .row x3 29 1 (0 + f.Owned.length) vs :: rI x2 f.Level.length l2 :: rI x1 f.Volume.length l1 :: C
abbrev onF (b : Nat) (v1 v2 v3 v4 v5 : Value) (f : Bt.Facts) : Chunk := .blk b 38 (fcC ⟨v1, v2, v3, v4, v5⟩ f.Hour)
theorem sameO_self (a : Bt.Order) : Mn.sameO a a = true := by unfold Mn.sameO; simp

theorem MeanOnly_c (w : World) (Φ : Hp) (hΦ : Hp.le Φ (hp w)) (hG : Knows Φ Glob) {b : BasV} {e : Ru.Env} {ps : List Int} (hb : b.ok Φ e) (hpos : PosS Φ b.lv ps) (hpl : ps.length = e.links.length) (hpm : ps.length * 200 ≤ maxSl) (hpi : ∀ x ∈ ps, I64 x) {r : Bt.Rule} {fv cv : Value} (hf : RepSl Φ r.Funcs fv) (hc : RepSl Φ r.Clauses cv) {f : Bt.Facts} {yf : FcV} (hy : yf.ok Φ f) (hh : I64 f.Hour) {q : Bt.Facts} {yg : FcV} (hz : yg.ok Φ q) {n : Int} :
    Calls pg 7 #[.agg b.cs.toArray, .agg #[fv, cv], .agg (fcC yf f.Hour).toArray, .agg (fcC yg q.Hour).toArray, .int .i64 n] w fun e w' => e = .returned (.bool true) ∧ Bel w.heap.size w w' := by
  obtain ⟨fA, fc, rfl, _⟩ := hf.sl
  obtain ⟨cA, cc, rfl, _⟩ := hc.sl
  refine calls_of_AW (args := [.agg b.cs.toArray, .agg #[.slice fA r.Funcs.length fc, .slice cA r.Clauses.length cc], .agg (fcC yf f.Hour).toArray, .agg (fcC yg q.Hour).toArray, .int .i64 n]) Tryz.func7 rfl (lBT rfl) (St ⟨w, Φ, []⟩ Φ []) (StP.init w Φ hΦ []) ?_
  show AW _ _ [] _ _ _ [(0, .agg b.cs.toArray), (1, .agg #[.slice fA r.Funcs.length fc, .slice cA r.Clauses.length cc]), (2, .agg (fcC yf f.Hour).toArray), (3, .agg (fcC yg q.Hour).toArray), (4, .int .i64 n)] _
  refine gR ?_
  refine RW.bxA (cs := b.cs) rfl rfl fun b5 => ?_
  refine RW.bxA (cs := (rS2 fA fc cA cc r)) rfl rfl fun b6 => ?_
  refine RW.bxA (cs := fcC yf f.Hour) rfl rfl fun b7 => ?_
  refine RW.bxA (cs := fcC yg q.Hour) rfl rfl fun b8 => ?_
  refine gR ?_
  refine RW.q (v := .bool true) rfl (q_call (args := #[]) oK rfl rfl (fun w1 hw1 => small_c w1 Φ hw1.phi hG)) ?_
  refine gR ?_
  refine RW.q (v := .bool (Mn.few r)) rfl (q_call (args := #[.agg #[.slice fA r.Funcs.length fc, .slice cA r.Clauses.length cc]]) oK rfl rfl (fun w1 hw1 => few_c w1 (hf.mono hw1.phi) (hc.mono hw1.phi))) ?_
  refine gR ?_
  refine RW.q (v := .bool (!Mn.few r || Mn.namesR r n)) rfl (q_call (args := #[.agg #[.slice fA r.Funcs.length fc, .slice cA r.Clauses.length cc], .int .i64 n]) oK rfl rfl (fun w1 hw1 => names_c w1 (hf.mono hw1.phi) (hc.mono hw1.phi))) ?_
  refine gR ?_
  obtain ⟨c1, hc1⟩ : ∃ c, c = (!Mn.few r || (!Mn.few r || Mn.namesR r n)) := ⟨_, rfl⟩
  obtain ⟨c2, hc2⟩ : ∃ c, c = (c1 || decide (n < 0)) := ⟨_, rfl⟩
  obtain ⟨c3, hc3⟩ : ∃ c, c = (c2 || decide ((f.Volume.length : Int) ≤ n)) := ⟨_, rfl⟩
  obtain ⟨c4, hc4⟩ : ∃ c, c = (c3 || decide ((f.Level.length : Int) ≤ n)) := ⟨_, rfl⟩
  obtain ⟨c5, hc5⟩ : ∃ c, c = (c4 || decide ((f.Owned.length : Int) ≤ n)) := ⟨_, rfl⟩
  obtain ⟨c6, hc6⟩ : ∃ c, c = (c5 || decide ((f.Pos.length : Int) ≤ n)) := ⟨_, rfl⟩
  obtain ⟨c7, hc7⟩ : ∃ c, c = (c6 || decide ((f.Crest.length : Int) ≤ n)) := ⟨_, rfl⟩
  obtain ⟨c8, hc8⟩ : ∃ c, c = (c7 || decide ((q.Volume.length : Int) ≤ n)) := ⟨_, rfl⟩
  obtain ⟨c9, hc9⟩ : ∃ c, c = (c8 || decide ((q.Level.length : Int) ≤ n)) := ⟨_, rfl⟩
  obtain ⟨c10, hc10⟩ : ∃ c, c = (c9 || decide ((q.Owned.length : Int) ≤ n)) := ⟨_, rfl⟩
  obtain ⟨c11, hc11⟩ : ∃ c, c = (c10 || decide ((q.Pos.length : Int) ≤ n)) := ⟨_, rfl⟩
  obtain ⟨c12, hc12⟩ : ∃ c, c = (c11 || decide ((q.Crest.length : Int) ≤ n)) := ⟨_, rfl⟩
  refine RW.q (v := .bool c1) rfl (q_as (qpO rfl rfl rfl) (congrArg Value.bool hc1.symm)) ?_
  refine gR ?_
  refine RW.q (v := .bool c2) rfl (q_as (qpO rfl rfl rfl) (congrArg Value.bool hc2.symm)) ?_
  refine gR ?_
  refine RW.g (b := c2) (v := .int .i64 (f.Volume.length : Int)) rfl rfl rfl (fun h => q_len_sl (gv_pos h) hy.vol.sl Tryz.underlying29) ?_
  refine gR ?_
  refine RW.q (v := .bool c3) rfl (q_as (qpO rfl rfl rfl) (congrArg Value.bool hc3.symm)) ?_
  refine gR ?_
  refine RW.g (b := c3) (v := .int .i64 (f.Level.length : Int)) rfl rfl rfl (fun h => q_len_sl (gv_pos h) hy.lev.sl Tryz.underlying29) ?_
  refine gR ?_
  refine RW.q (v := .bool c4) rfl (q_as (qpO rfl rfl rfl) (congrArg Value.bool hc4.symm)) ?_
  refine gR ?_
  refine RW.g (b := c4) (v := .int .i64 (f.Owned.length : Int)) rfl rfl rfl (fun h => q_len_sl (gv_pos h) hy.own.sl Tryz.underlying36) ?_
  refine gR ?_
  refine RW.q (v := .bool c5) rfl (q_as (qpO rfl rfl rfl) (congrArg Value.bool hc5.symm)) ?_
  refine gR ?_
  refine RW.g (b := c5) (v := .int .i64 (f.Pos.length : Int)) rfl rfl rfl (fun h => q_len_sl (gv_pos h) hy.pos.sl Tryz.underlying29) ?_
  refine gR ?_
  refine RW.q (v := .bool c6) rfl (q_as (qpO rfl rfl rfl) (congrArg Value.bool hc6.symm)) ?_
  refine gR ?_
  refine RW.g (b := c6) (v := .int .i64 (f.Crest.length : Int)) rfl rfl rfl (fun h => q_len_sl (gv_pos h) hy.cre.sl Tryz.underlying29) ?_
  refine gR ?_
  refine RW.q (v := .bool c7) rfl (q_as (qpO rfl rfl rfl) (congrArg Value.bool hc7.symm)) ?_
  refine gR ?_
  refine RW.g (b := c7) (v := .int .i64 (q.Volume.length : Int)) rfl rfl rfl (fun h => q_len_sl (gv_pos h) hz.vol.sl Tryz.underlying29) ?_
  refine gR ?_
  refine RW.q (v := .bool c8) rfl (q_as (qpO rfl rfl rfl) (congrArg Value.bool hc8.symm)) ?_
  refine gR ?_
  refine RW.g (b := c8) (v := .int .i64 (q.Level.length : Int)) rfl rfl rfl (fun h => q_len_sl (gv_pos h) hz.lev.sl Tryz.underlying29) ?_
  refine gR ?_
  refine RW.q (v := .bool c9) rfl (q_as (qpO rfl rfl rfl) (congrArg Value.bool hc9.symm)) ?_
  refine gR ?_
  refine RW.g (b := c9) (v := .int .i64 (q.Owned.length : Int)) rfl rfl rfl (fun h => q_len_sl (gv_pos h) hz.own.sl Tryz.underlying36) ?_
  refine gR ?_
  refine RW.q (v := .bool c10) rfl (q_as (qpO rfl rfl rfl) (congrArg Value.bool hc10.symm)) ?_
  refine gR ?_
  refine RW.g (b := c10) (v := .int .i64 (q.Pos.length : Int)) rfl rfl rfl (fun h => q_len_sl (gv_pos h) hz.pos.sl Tryz.underlying29) ?_
  refine gR ?_
  refine RW.q (v := .bool c11) rfl (q_as (qpO rfl rfl rfl) (congrArg Value.bool hc11.symm)) ?_
  refine gR ?_
  refine RW.g (b := c11) (v := .int .i64 (q.Crest.length : Int)) rfl rfl rfl (fun h => q_len_sl (gv_pos h) hz.cre.sl Tryz.underlying29) ?_
  refine gR ?_
  refine RW.q (v := .bool c12) rfl (q_as (qpO rfl rfl rfl) (congrArg Value.bool hc12.symm)) ?_
  refine gR ?_
  refine AW.cond rfl (fun h => ?_) fun h => ?_
  · refine gR ?_
    exact fin_res (vs := [.bool true]) rfl rfl ⟨.tmp rfl, trivial⟩ rfl (fun w' hw => ⟨rfl, hw.below rfl⟩)
  have hall : Mn.few r = true ∧ Mn.namesR r n = false ∧ 0 ≤ n ∧ n < f.Volume.length ∧ n < f.Level.length ∧ n < f.Owned.length ∧ n < f.Pos.length ∧ n < f.Crest.length ∧ n < q.Volume.length ∧ n < q.Level.length ∧ n < q.Owned.length ∧ n < q.Pos.length ∧ n < q.Crest.length := by
    subst hc12 hc11 hc10 hc9 hc8 hc7 hc6 hc5 hc4 hc3 hc2 hc1
    simp only [Bool.or_eq_false_iff, decide_eq_false_iff_not, Bool.not_eq_false'] at h
    exact ⟨by simpa using h.1.1.1.1.1.1.1.1.1.1.1.1, h.1.1.1.1.1.1.1.1.1.1.1.2.2, by omega, by omega, by omega, by omega, by omega, by omega, by omega, by omega, by omega, by omega, by omega⟩
  clear h hc1 hc2 hc3 hc4 hc5 hc6 hc7 hc8 hc9 hc10 hc11 hc12
  obtain ⟨_, hnm, hn0, k1, k2, k3, k4, k5, k6, k7, k8, k9, k10⟩ := hall
  obtain ⟨m, rfl⟩ : ∃ m : Nat, n = m := ⟨n.toNat, by omega⟩
  replace k6 : m < q.Volume.length := by omega
  replace k7 : m < q.Level.length := by omega
  replace k8 : m < q.Owned.length := by omega
  replace k9 : m < q.Pos.length := by omega
  replace k10 : m < q.Crest.length := by omega
  obtain ⟨vs, hvl, hvc, hvr, hvo⟩ := hy.own.vals
  obtain ⟨us, hul, huc, hur, huo⟩ := hz.own.vals
  have hum := hur m k8
  obtain ⟨oA, oc, hoe, _⟩ := hum.sl
  have huc2 := huc m _ (List.getElem?_eq_getElem (by omega : m < us.length))
  have hoe2 : us[m]'(by omega) = .slice oA (q.Owned.getD m []).length oc := by
    rw [← hoe, gDD, List.getElem?_eq_getElem (by omega : m < us.length)]; rfl
  rw [hoe2] at huc2
  rw [hoe] at hum
  have hmx1 : f.Volume.length * 8 ≤ maxSl := hy.vol.max
  have hmx2 : f.Level.length * 8 ≤ maxSl := hy.lev.max
  have hmx3 : f.Owned.length * 24 ≤ maxSl := hy.own.max
  have hmx4 : f.Pos.length * 8 ≤ maxSl := hy.pos.max
  have hmx5 : f.Crest.length * 8 ≤ maxSl := hy.cre.max
  simp only [maxSl] at hmx1 hmx2 hmx3 hmx4 hmx5
  refine gR ?_
  refine RW.alc rfl fun b14 => ?_
  refine RW.effn (J' := St ⟨w, Φ, []⟩ Φ (onF b14 yf.vol yf.lev yf.own yf.pos yf.cre f :: onK b r fA fc cA cc yf yg f q b5 b6 b7 b8)) (e_stA (cs' := fcC yf f.Hour) 0 rfl rfl rfl (fc_one hy _) rfl rfl) ?_
  refine gR ?_
  refine RW.eff (fun bb : Nat => .slice (some ⟨bb, 0, none⟩) 0 0) (fun bb => St ⟨w, Φ, []⟩ Φ (.row (.slice (some ⟨bb, 0, none⟩) 0 0) 3 1 0 [] :: onF b14 yf.vol yf.lev yf.own yf.pos yf.cre f :: onK b r fA fc cA cc yf yg f q b5 b6 b7 b8)) rfl (e_buildSlice0 Tryz.underlying29 inf3) fun bb => ?_
  refine gR ?_
  refine RW.eff (fun xv : {vq : Value // IsSl vq (0 + f.Volume.length)} => xv.1) (fun xv => St ⟨w, Φ, []⟩ Φ (rI xv.1 f.Volume.length f.Volume :: onF b14 yf.vol yf.lev yf.own yf.pos yf.cre f :: onK b r fA fc cA cc yf yg f q b5 b6 b7 b8)) rfl (e_appendPhi (yv := yf.vol) 0 rfl rfl rfl hy.vol.sl Tryz.underlying29 inf3 rfl rfl (by simp) (ints_cells hy.vol) (ints_one _) (by omega) (by omega) (fun _ => rfl)) ?_
  rintro ⟨x1, hx1⟩
  refine gs1 ?_
  refine RW.effn (J' := St ⟨w, Φ, []⟩ Φ (rI x1 f.Volume.length f.Volume :: onF b14 x1 yf.lev yf.own yf.pos yf.cre f :: onK b r fA fc cA cc yf yg f q b5 b6 b7 b8)) (e_storeSl (v := x1) 1 rfl rfl rfl hx1 sz29 rfl rfl rfl) ?_
  refine gR ?_
  refine RW.eff (fun bb : Nat => .slice (some ⟨bb, 0, none⟩) 0 0) (fun bb => St ⟨w, Φ, []⟩ Φ (.row (.slice (some ⟨bb, 0, none⟩) 0 0) 3 1 0 [] :: rI x1 f.Volume.length f.Volume :: onF b14 x1 yf.lev yf.own yf.pos yf.cre f :: onK b r fA fc cA cc yf yg f q b5 b6 b7 b8)) rfl (e_buildSlice0 Tryz.underlying29 inf3) fun bb => ?_
  refine gR ?_
  refine RW.eff (fun xv : {vq : Value // IsSl vq (0 + f.Level.length)} => xv.1) (fun xv => St ⟨w, Φ, []⟩ Φ (rI xv.1 f.Level.length f.Level :: rI x1 f.Volume.length f.Volume :: onF b14 x1 yf.lev yf.own yf.pos yf.cre f :: onK b r fA fc cA cc yf yg f q b5 b6 b7 b8)) rfl (e_appendPhi (yv := yf.lev) 0 rfl rfl rfl hy.lev.sl Tryz.underlying29 inf3 rfl rfl (by simp) (ints_cells hy.lev) (ints_one _) (by omega) (by omega) (fun _ => rfl)) ?_
  rintro ⟨x2, hx2⟩
  refine gs1 ?_
  refine RW.effn (J' := St ⟨w, Φ, []⟩ Φ (rI x2 f.Level.length f.Level :: rI x1 f.Volume.length f.Volume :: onF b14 x1 x2 yf.own yf.pos yf.cre f :: onK b r fA fc cA cc yf yg f q b5 b6 b7 b8)) (e_storeSl (v := x2) 2 rfl rfl rfl hx2 sz29 rfl rfl rfl) ?_
  refine gR ?_
  refine RW.eff (fun bb : Nat => .slice (some ⟨bb, 0, none⟩) 0 0) (fun bb => St ⟨w, Φ, []⟩ Φ (.row (.slice (some ⟨bb, 0, none⟩) 0 0) 29 1 0 [] :: rI x2 f.Level.length f.Level :: rI x1 f.Volume.length f.Volume :: onF b14 x1 x2 yf.own yf.pos yf.cre f :: onK b r fA fc cA cc yf yg f q b5 b6 b7 b8)) rfl (e_buildSlice0 Tryz.underlying36 inf29) fun bb => ?_
  refine gR ?_
  refine RW.eff (fun xv : {vq : Value // IsSl vq (0 + f.Owned.length)} => xv.1) (fun xv => St ⟨w, Φ, []⟩ Φ (.row xv.1 29 1 (0 + f.Owned.length) vs :: rI x2 f.Level.length f.Level :: rI x1 f.Volume.length f.Volume :: onF b14 x1 x2 yf.own yf.pos yf.cre f :: onK b r fA fc cA cc yf yg f q b5 b6 b7 b8)) rfl (e_appendPhi (yv := yf.own) 0 rfl rfl rfl hy.own.sl Tryz.underlying36 inf29 rfl rfl (by rw [hvl, Nat.mul_one]) hvc hvo (by omega) (by omega) (fun _ => rfl)) ?_
  rintro ⟨x3, hx3⟩
  refine gs1 ?_
  refine RW.effn (J' := St ⟨w, Φ, []⟩ Φ (.row x3 29 1 (0 + f.Owned.length) vs :: rI x2 f.Level.length f.Level :: rI x1 f.Volume.length f.Volume :: onF b14 x1 x2 x3 yf.pos yf.cre f :: onK b r fA fc cA cc yf yg f q b5 b6 b7 b8)) (e_storeSl (v := x3) 3 rfl rfl rfl hx3 sz36 rfl rfl rfl) ?_
  refine gR ?_
  refine RW.eff (fun bb : Nat => .slice (some ⟨bb, 0, none⟩) 0 0) (fun bb => St ⟨w, Φ, []⟩ Φ (.row (.slice (some ⟨bb, 0, none⟩) 0 0) 3 1 0 [] :: .row x3 29 1 (0 + f.Owned.length) vs :: rI x2 f.Level.length f.Level :: rI x1 f.Volume.length f.Volume :: onF b14 x1 x2 x3 yf.pos yf.cre f :: onK b r fA fc cA cc yf yg f q b5 b6 b7 b8)) rfl (e_buildSlice0 Tryz.underlying29 inf3) fun bb => ?_
  refine gR ?_
  refine RW.eff (fun xv : {vq : Value // IsSl vq (0 + f.Pos.length)} => xv.1) (fun xv => St ⟨w, Φ, []⟩ Φ (rI xv.1 f.Pos.length f.Pos :: .row x3 29 1 (0 + f.Owned.length) vs :: rI x2 f.Level.length f.Level :: rI x1 f.Volume.length f.Volume :: onF b14 x1 x2 x3 yf.pos yf.cre f :: onK b r fA fc cA cc yf yg f q b5 b6 b7 b8)) rfl (e_appendPhi (yv := yf.pos) 0 rfl rfl rfl hy.pos.sl Tryz.underlying29 inf3 rfl rfl (by simp) (ints_cells hy.pos) (ints_one _) (by omega) (by omega) (fun _ => rfl)) ?_
  rintro ⟨x4, hx4⟩
  refine gs1 ?_
  refine RW.effn (J' := St ⟨w, Φ, []⟩ Φ (rI x4 f.Pos.length f.Pos :: .row x3 29 1 (0 + f.Owned.length) vs :: rI x2 f.Level.length f.Level :: rI x1 f.Volume.length f.Volume :: onF b14 x1 x2 x3 x4 yf.cre f :: onK b r fA fc cA cc yf yg f q b5 b6 b7 b8)) (e_storeSl (v := x4) 4 rfl rfl rfl hx4 sz29 rfl rfl rfl) ?_
  refine gR ?_
  refine RW.eff (fun bb : Nat => .slice (some ⟨bb, 0, none⟩) 0 0) (fun bb => St ⟨w, Φ, []⟩ Φ (.row (.slice (some ⟨bb, 0, none⟩) 0 0) 3 1 0 [] :: rI x4 f.Pos.length f.Pos :: .row x3 29 1 (0 + f.Owned.length) vs :: rI x2 f.Level.length f.Level :: rI x1 f.Volume.length f.Volume :: onF b14 x1 x2 x3 x4 yf.cre f :: onK b r fA fc cA cc yf yg f q b5 b6 b7 b8)) rfl (e_buildSlice0 Tryz.underlying29 inf3) fun bb => ?_
  refine gR ?_
  refine RW.eff (fun xv : {vq : Value // IsSl vq (0 + f.Crest.length)} => xv.1) (fun xv => St ⟨w, Φ, []⟩ Φ (rI xv.1 f.Crest.length f.Crest :: rI x4 f.Pos.length f.Pos :: .row x3 29 1 (0 + f.Owned.length) vs :: rI x2 f.Level.length f.Level :: rI x1 f.Volume.length f.Volume :: onF b14 x1 x2 x3 x4 yf.cre f :: onK b r fA fc cA cc yf yg f q b5 b6 b7 b8)) rfl (e_appendPhi (yv := yf.cre) 0 rfl rfl rfl hy.cre.sl Tryz.underlying29 inf3 rfl rfl (by simp) (ints_cells hy.cre) (ints_one _) (by omega) (by omega) (fun _ => rfl)) ?_
  rintro ⟨x5, hx5⟩
  refine gs1 ?_
  refine RW.effn (J' := St ⟨w, Φ, []⟩ Φ (rI x5 f.Crest.length f.Crest :: rI x4 f.Pos.length f.Pos :: .row x3 29 1 (0 + f.Owned.length) vs :: rI x2 f.Level.length f.Level :: rI x1 f.Volume.length f.Volume :: onF b14 x1 x2 x3 x4 x5 f :: onK b r fA fc cA cc yf yg f q b5 b6 b7 b8)) (e_storeSl (v := x5) 5 rfl rfl rfl hx5 sz29 rfl rfl rfl) ?_
  refine gR ?_
  have s1 := hz.vol.sl
  have s2 := hz.lev.sl
  have s3 := hz.own.sl
  have s4 := hz.pos.sl
  have s5 := hz.cre.sl
  have p1 := only_int hz.vol k6
  have p2 := only_int hz.lev k7
  have p3 : PCell Φ (Value.at yg.own (m * 1)) (.slice oA (q.Owned.getD m []).length oc) := by rw [Nat.mul_one]; exact huc2
  have p4 := only_int hz.pos k9
  have p5 := only_int hz.cre k10
  refine AW.drawZ (J0 := St ⟨w, Φ, []⟩ Φ (onR x1 x2 x3 x4 x5 f.Volume f.Level vs f.Pos f.Crest f (onF b14 x1 x2 x3 x4 x5 f :: onK b r fA fc cA cc yf yg f q b5 b6 b7 b8))) (tq9 [.e]) od10 hmix (by kernel_rfl) ?_
  refine gR ?_
  refine DW.effn (J' := St ⟨w, Φ, []⟩ Φ (onR x1 x2 x3 x4 x5 (onS f.Volume q.Volume m) f.Level vs f.Pos f.Crest f (onF b14 x1 x2 x3 x4 x5 f :: onK b r fA fc cA cc yf yg f q b5 b6 b7 b8))) (fun h => absurd rfl h) (e_storeRow (n := 0) 4 rfl rfl rfl sz3 rfl rfl (by rw [List.length_map]; omega) (by rw [Nat.mul_one]; exact splice_map (by omega)) rfl) ?_
  refine gR ?_
  refine AW.drawZ (J0 := St ⟨w, Φ, []⟩ Φ (onR x1 x2 x3 x4 x5 (onS f.Volume q.Volume m) f.Level vs f.Pos f.Crest f (onF b14 x1 x2 x3 x4 x5 f :: onK b r fA fc cA cc yf yg f q b5 b6 b7 b8))) (tq9 [.e]) od10 hmix (by kernel_rfl) ?_
  refine gR ?_
  refine DW.effn (J' := St ⟨w, Φ, []⟩ Φ (onR x1 x2 x3 x4 x5 (onS f.Volume q.Volume m) (onS f.Level q.Level m) vs f.Pos f.Crest f (onF b14 x1 x2 x3 x4 x5 f :: onK b r fA fc cA cc yf yg f q b5 b6 b7 b8))) (fun h => absurd rfl h) (e_storeRow (n := 0) 3 rfl rfl rfl sz3 rfl rfl (by rw [List.length_map]; omega) (by rw [Nat.mul_one]; exact splice_map (by omega)) rfl) ?_
  refine gR ?_
  refine AW.drawZ (J0 := St ⟨w, Φ, []⟩ Φ (onR x1 x2 x3 x4 x5 (onS f.Volume q.Volume m) (onS f.Level q.Level m) vs f.Pos f.Crest f (onF b14 x1 x2 x3 x4 x5 f :: onK b r fA fc cA cc yf yg f q b5 b6 b7 b8))) (tq9 [.e]) od10 hmix (by kernel_rfl) ?_
  refine gR ?_
  refine DW.effn (J' := St ⟨w, Φ, []⟩ Φ (onR x1 x2 x3 x4 x5 (onS f.Volume q.Volume m) (onS f.Level q.Level m) (vs.set m (.slice oA (q.Owned.getD m []).length oc)) f.Pos f.Crest f (onF b14 x1 x2 x3 x4 x5 f :: onK b r fA fc cA cc yf yg f q b5 b6 b7 b8))) (fun h => absurd rfl h) (e_storeRow (n := 0) 2 rfl rfl rfl sz29 rfl rfl (by rw [hvl]; omega) (splice_one (by omega)) rfl) ?_
  refine gR ?_
  refine AW.drawZ (J0 := St ⟨w, Φ, []⟩ Φ (onR x1 x2 x3 x4 x5 (onS f.Volume q.Volume m) (onS f.Level q.Level m) (vs.set m (.slice oA (q.Owned.getD m []).length oc)) f.Pos f.Crest f (onF b14 x1 x2 x3 x4 x5 f :: onK b r fA fc cA cc yf yg f q b5 b6 b7 b8))) (tq9 [.e]) od10 hmix (by kernel_rfl) ?_
  refine gR ?_
  refine DW.effn (J' := St ⟨w, Φ, []⟩ Φ (onR x1 x2 x3 x4 x5 (onS f.Volume q.Volume m) (onS f.Level q.Level m) (vs.set m (.slice oA (q.Owned.getD m []).length oc)) (onS f.Pos q.Pos m) f.Crest f (onF b14 x1 x2 x3 x4 x5 f :: onK b r fA fc cA cc yf yg f q b5 b6 b7 b8))) (fun h => absurd rfl h) (e_storeRow (n := 0) 1 rfl rfl rfl sz3 rfl rfl (by rw [List.length_map]; omega) (by rw [Nat.mul_one]; exact splice_map (by omega)) rfl) ?_
  refine gR ?_
  refine AW.drawZ (J0 := St ⟨w, Φ, []⟩ Φ (onR x1 x2 x3 x4 x5 (onS f.Volume q.Volume m) (onS f.Level q.Level m) (vs.set m (.slice oA (q.Owned.getD m []).length oc)) (onS f.Pos q.Pos m) f.Crest f (onF b14 x1 x2 x3 x4 x5 f :: onK b r fA fc cA cc yf yg f q b5 b6 b7 b8))) (tq9 [.e]) od10 hmix (by kernel_rfl) ?_
  refine gR ?_
  refine DW.effn (J' := St ⟨w, Φ, []⟩ Φ (onR x1 x2 x3 x4 x5 (onS f.Volume q.Volume m) (onS f.Level q.Level m) (vs.set m (.slice oA (q.Owned.getD m []).length oc)) (onS f.Pos q.Pos m) (onS f.Crest q.Crest m) f (onF b14 x1 x2 x3 x4 x5 f :: onK b r fA fc cA cc yf yg f q b5 b6 b7 b8))) (fun h => absurd rfl h) (e_storeRow (n := 0) 0 rfl rfl rfl sz3 rfl rfl (by rw [List.length_map]; omega) (by rw [Nat.mul_one]; exact splice_map (by omega)) rfl) ?_
  refine gR ?_
  refine AW.frz fun Φ5 l5 r5 => ?_
  refine AW.frz fun Φ4 l4 r4 => ?_
  refine AW.frz fun Φ3 l3 r3 => ?_
  refine AW.frz fun Φ2 l2 r2 => ?_
  refine AW.frz fun Φ1 l1 r1 => ?_
  have l45 := l5.trans l4
  have l35 := l45.trans l3
  have l25 := l35.trans l2
  have l15 := l25.trans l1
  have hz2 : FcV.ok Φ1 ⟨x1, x2, x3, x4, x5⟩ (Mn.setF f m (q.Volume.getD m 0) (q.Level.getD m 0) (q.Pos.getD m 0) (q.Crest.getD m 0) (q.Owned.getD m [])) :=
    ⟨only_set rfl hy.vol (only_i hz.vol k6) r1, (only_set rfl hy.lev (only_i hz.lev k7) r2).mono l1, (only_sets rfl hy.own hvl hvr hum l35 r3).mono (l2.trans l1), (only_set rfl hy.pos (only_i hz.pos k9) r4).mono (l3.trans (l2.trans l1)), (only_set rfl hy.cre (only_i hz.cre k10) r5).mono (l4.trans (l3.trans (l2.trans l1)))⟩
  have hS : Mn.run e ps r (Mn.setF f m (q.Volume.getD m 0) (q.Level.getD m 0) (q.Pos.getD m 0) (q.Crest.getD m 0) (q.Owned.getD m [])) = Mn.run e ps r f := (Mn.run_same (f := f) (h := Mn.setF f m (q.Volume.getD m 0) (q.Level.getD m 0) (q.Pos.getD m 0) (q.Crest.getD m 0) (q.Owned.getD m [])) hnm rfl (fun n a q h => Mn.setF_same n a q h)).symm
  generalize hR : Mn.run e ps r f = R at hS
  obtain ⟨RC, RU, RF⟩ := R
  refine AW.drawZ (J0 := St ⟨w, Φ, []⟩ Φ1 (onF b14 x1 x2 x3 x4 x5 f :: onK b r fA fc cA cc yf yg f q b5 b6 b7 b8)) [.q, .q, .q, .q, .q, .q, .e, .e, .e, .q] [0, 1, 2, 4, 5, 6, 3, 7, 8, 9] hmix (by kernel_rfl) ?_
  refine DW.q (v := .agg b.cs.toArray) (fun _ h => h) rfl (qa_ldA (cs := b.cs) rfl (Cells.blk 4 rfl) rfl) ?_
  refine DW.q (v := .agg #[.slice fA r.Funcs.length fc, .slice cA r.Clauses.length cc]) (fun _ h => h) rfl (qa_ldA (cs := (rS2 fA fc cA cc r)) rfl (Cells.blk 3 rfl) rfl) ?_
  refine DW.q (v := .agg (fcC yf f.Hour).toArray) (fun _ h => h) rfl (qa_ldA (cs := fcC yf f.Hour) rfl (Cells.blk 2 rfl) rfl) ?_
  refine DW.q (v := .agg b.cs.toArray) (fun _ h => h) rfl (qa_ldA (cs := b.cs) rfl (Cells.blk 4 rfl) rfl) ?_
  refine DW.q (v := .agg #[.slice fA r.Funcs.length fc, .slice cA r.Clauses.length cc]) (fun _ h => h) rfl (qa_ldA (cs := (rS2 fA fc cA cc r)) rfl (Cells.blk 3 rfl) rfl) ?_
  refine DW.q (v := .agg (fcC ⟨x1, x2, x3, x4, x5⟩ f.Hour).toArray) (fun _ h => h) rfl (qa_ldA (cs := fcC ⟨x1, x2, x3, x4, x5⟩ f.Hour) rfl (Cells.blk 0 rfl) rfl) ?_
  refine DW.eff _ _ (fun _ x w1 h => StP.less h x.2.2) rfl (e_callS (args := #[.agg b.cs.toArray, .agg #[.slice fA r.Funcs.length fc, .slice cA r.Clauses.length cc], .agg (fcC yf f.Hour).toArray]) oK rfl rfl (fun w1 hw1 => run_x (hR ▸ mRun_c w1 Φ1 hw1.phi (hG.mono l15) (hb.mono l15) (hpos.mono l15) hpl hpm hpi (hf.mono l15) (hc.mono l15) (hy.mono l15) hh))) ?_
  rintro ⟨⟨v, Ψ⟩, ⟨y1, hv, ho⟩, hle⟩
  simp only at hv ho hle ⊢
  subst hv
  have hle2 := l15.trans hle
  refine DW.eff _ _ (fun _ x w1 h => StP.less h (hle.trans x.2.2)) rfl (e_callS (args := #[.agg b.cs.toArray, .agg #[.slice fA r.Funcs.length fc, .slice cA r.Clauses.length cc], .agg (fcC ⟨x1, x2, x3, x4, x5⟩ f.Hour).toArray]) oK rfl rfl (fun w1 hw1 => run_x (hS ▸ mRun_c w1 Ψ hw1.phi (hG.mono hle2) (hb.mono hle2) (hpos.mono hle2) hpl hpm hpi (hf.mono hle2) (hc.mono hle2) (hz2.mono hle) hh))) ?_
  rintro ⟨⟨v, Ψ2⟩, ⟨y2, hv, hs2⟩, hle3⟩
  simp only at hv hs2 hle3 ⊢
  subst hv
  have ho2 := ho.mono hle3
  refine DW.eff (X := Unit) (fun _ => .bool true) (fun _ => St ⟨w, Φ, []⟩ Ψ2 (onF b14 x1 x2 x3 x4 x5 f :: onK b r fA fc cA cc yf yg f q b5 b6 b7 b8)) (fun _ _ w1 h => StP.less h (hle.trans hle3)) rfl (e_quiet (q_as (q_call (args := #[.agg (orC (.slice y1.1 RC.length y1.2) RU RF).toArray, .agg (orC (.slice y2.1 RC.length y2.2) RU RF).toArray]) oK rfl rfl (fun w1 hw1 => oSame_c (a := ⟨RC, RU, RF⟩) (b := ⟨RC, RU, RF⟩) w1 (ho2.mono hw1.phi) (hs2.mono hw1.phi))) (congrArg Value.bool (sameO_self _)))) fun _ => ?_
  refine DW.q (v := .bool true) (fun w1 h => StP.less h (hle.trans hle3)) rfl (q_assign rfl) ?_
  refine gR ?_
  refine RW.q (v := .bool true) rfl (q_pick rfl (fun _ => rfl) (fun h => nomatch h)) ?_
  refine gR ?_
  exact fin_res (vs := [.bool true]) rfl rfl ⟨.tmp rfl, trivial⟩ rfl (fun w' hw => ⟨rfl, (StP.less hw (Hp.le_refl _)).below rfl⟩)
end Go.Proofs.YtnfmjfheciihjaaGreatDoor
namespace Go.Proofs.YtnfmjfheciihjaaGreatDoor
open Go Go.K Go.ChangeShapes Go.RowKit Go.WideElems
open Ru (NmS BasV)
section
variable {H : Type} {enc : TypeId × Value → H} {P : Program} {W : World} {n : Nat} {t e : TypeId} {cs : List Value} {x : DataW H × List MemPlace}
def Dat (enc : TypeId × Value → H) (P : Program) (W : World) (n : Nat) (t : TypeId) (cs : List Value) (x : DataW H × List MemPlace) : Prop :=
  DataW.trod enc P W 0 (fun _ => true) true n t cs = some x ∧ (x.1.weights P t).all (· ≤ reachBytes) = true
theorem Dat.slice (ht : P.underlying t = some (.slice e)) (h : Dat enc P W n t cs x) : ∃ (v : Value) (k : Nat), cs = [v] ∧ IsSl v k ∧ k * P.bytesOf e ≤ maxSl ∧ ∀ i, i < k → ∃ cs' m y, m < n ∧ Dat enc P W m e cs' y ∧ ∀ j u, cs'[j]? = some u → PCell (hp W) (Value.at v (i * P.cellsOf e + j)) u := by
  obtain ⟨h, hw⟩ := h
  rcases DataW.trod_slice ht h with ⟨rfl, _⟩ | ⟨a, len, cap, elems, rest, n', hn, rfl, hx, _, hl, _, hlen, he, _, _⟩
  · exact ⟨_, 0, rfl, isSl_nil, by simp, fun i hi => absurd hi (by simp)⟩
  · rw [hx] at hw
    simp only [DataW.weights, ht, List.all_cons, List.all_append, Bool.and_eq_true, decide_eq_true_eq, List.length_map] at hw
    obtain ⟨hw1, hw2, _⟩ := hw
    refine ⟨_, len, rfl, ⟨_, _, rfl, fun _ => rfl, by omega⟩, ?_, fun i hi => ?_⟩
    · have h1 : (elems.length + rest.length) * P.bytesOf e ≤ reachBytes := hw1
      have h2 : len * P.bytesOf e ≤ (elems.length + rest.length) * P.bytesOf e := Nat.mul_le_mul_right _ (by omega)
      have h3 : reachBytes ≤ maxSl := by decide
      omega
    · have hi' := he i hi
      have hil : i < elems.length := by rw [hlen]; exact hi
      rw [List.getElem?_eq_getElem hil] at hi'
      obtain ⟨cs', hc, hd⟩ := Option.bind_eq_some_iff.1 hi'
      refine ⟨cs', n', _, by omega, ⟨hd, weights_all hw2 _ (List.mem_map.2 ⟨_, List.getElem_mem hil, rfl⟩)⟩, fun j u hj => pcell_of ?_⟩
      obtain ⟨_, hcl, hat⟩ := World.cells?_some hc
      have hjl : j < P.cellsOf e := by rw [← hcl]; exact (List.getElem?_eq_some_iff.1 hj).1
      have := hat j hjl
      rw [hj, add_add] at this
      exact this
theorem Dat.rows {β : Type} {g : β → List Value → Prop} (ht : P.underlying t = some (.slice e)) (h : Dat enc P W n t cs x) (hg : ∀ m cs' y, m < n → Dat enc P W m e cs' y → ∃ b, g b cs') : ∃ (v : Value) (l : List β), cs = [v] ∧ IsSl v l.length ∧ l.length * P.bytesOf e ≤ maxSl ∧ ∀ i (h : i < l.length), ∃ cs', g l[i] cs' ∧ ∀ j u, cs'[j]? = some u → PCell (hp W) (Value.at v (i * P.cellsOf e + j)) u := by
  obtain ⟨v, k, hv, hk, hb, hi⟩ := h.slice ht
  have hex : ∀ i : Fin k, ∃ b : β, ∃ cs', g b cs' ∧ ∀ j u, cs'[j]? = some u → PCell (hp W) (Value.at v (i.1 * P.cellsOf e + j)) u := fun i => by
    obtain ⟨cs', m, y, hm, hy, hc⟩ := hi i.1 i.2
    obtain ⟨b, hb⟩ := hg m cs' y hm hy
    exact ⟨b, cs', hb, hc⟩
  refine ⟨v, List.ofFn fun i : Fin k => (hex i).choose, hv, by rw [List.length_ofFn]; exact hk, by rw [List.length_ofFn]; exact hb, fun i hi => ?_⟩
  rw [List.length_ofFn] at hi
  rw [List.getElem_ofFn]
  exact (hex ⟨i, hi⟩).choose_spec
theorem Dat.sl (α : Type) [Rep α] (ht : P.underlying t = some (.slice e)) (hC : P.cellsOf e = Rep.sz α) (hb : P.bytesOf e = Rep.bytes α) (h : Dat enc P W n t cs x) (hg : ∀ m cs' y, m < n → Dat enc P W m e cs' y → ∃ a : α, Rep.rep (hp W) a cs') : ∃ (v : Value) (l : List α), cs = [v] ∧ RepSl (hp W) l v := by
  obtain ⟨v, l, h1, h2, h3, h4⟩ := h.rows ht hg
  exact ⟨v, l, h1, h2, hb ▸ h3, fun i hi => hC ▸ h4 i hi⟩
theorem Dat.int (ht : P.underlying t = some (.int .i64)) (h : Dat enc P W n t cs x) : ∃ a : Int, cs = [.int .i64 a] ∧ I64 a := by
  obtain ⟨a, k, _, w⟩ := DataW.trod_int ht h.1
  exact ⟨a, k, i64_wf w⟩
theorem Dat.str (ht : P.underlying t = some .string) (h : Dat enc P W n t cs x) : ∃ a : List UInt8, cs = [.string (bs a)] ∧ a.length ≤ maxLen := by
  obtain ⟨a, k, _, w⟩ := DataW.trod_string ht h.1
  exact ⟨a.data.toList, k, by simpa using w⟩
theorem Dat.fields {fs : Array Field} (ht : P.underlying t = some (.struct fs)) (h : Dat enc P W n t cs x) : cs.length = P.cellsOf t ∧ ∃ m, m < n ∧ ∀ (k : Nat) (f : Field), fs[k]? = some f → ∃ y, Dat enc P W m f.type ((cs.drop f.offset).take (P.cellsOf f.type)) y := by
  obtain ⟨h, hw⟩ := h
  obtain ⟨xs, m, hn, hx, hl, hlen, hf⟩ := DataW.trod_struct ht h
  subst hx
  have hw : (DataW.weightsEach P (fs.toList.map (·.type)) (xs.map (·.1))).all (· ≤ reachBytes) = true := by
    have h2 := hw
    simp only [DataW.weights, ht] at h2
    exact h2
  refine ⟨hl, m, by omega, fun k f hk => ?_⟩
  have hk2 : k < xs.length := by rw [hlen]; exact (Array.getElem?_eq_some_iff.1 hk).1
  refine ⟨xs[k], (hf k f hk).trans (List.getElem?_eq_getElem hk2), weights_arg k hw ?_ ?_⟩
  · rw [List.getElem?_map, Array.getElem?_toList, hk]; rfl
  · rw [List.getElem?_map, List.getElem?_eq_getElem hk2]; rfl
end
section
variable {H : Type} {enc : TypeId × Value → H} {W : World} {n : Nat} {cs : List Value} {x : DataW H × List MemPlace}
theorem oc3 : pg.cellsOf 3 = 1 := by kernel_rfl
theorem oc9 : pg.cellsOf 9 = 1 := by kernel_rfl
theorem vlen2 {l : List Value} (h : l.length = 2) : ∃ a0 a1, l = [a0, a1] := match l, h with
  | [_, _], _ => ⟨_, _, rfl⟩
theorem vlen5 {l : List Value} (h : l.length = 5) : ∃ a0 a1 a2 a3 a4, l = [a0, a1, a2, a3, a4] := match l, h with
  | [_, _, _, _, _], _ => ⟨_, _, _, _, _, rfl⟩
theorem vlen6 {l : List Value} (h : l.length = 6) : ∃ a0 a1 a2 a3 a4 a5, l = [a0, a1, a2, a3, a4, a5] := match l, h with
  | [_, _, _, _, _, _], _ => ⟨_, _, _, _, _, _, rfl⟩
theorem vlen8 {l : List Value} (h : l.length = 8) : ∃ a0 a1 a2 a3 a4 a5 a6 a7, l = [a0, a1, a2, a3, a4, a5, a6, a7] := match l, h with
  | [_, _, _, _, _, _, _, _], _ => ⟨_, _, _, _, _, _, _, _, rfl⟩
theorem vlen11 {l : List Value} (h : l.length = 11) : ∃ a0 a1 a2 a3 a4 a5 a6 a7 a8 a9 a10, l = [a0, a1, a2, a3, a4, a5, a6, a7, a8, a9, a10] := match l, h with
  | [_, _, _, _, _, _, _, _, _, _, _], _ => ⟨_, _, _, _, _, _, _, _, _, _, _, rfl⟩
theorem open_ints (h : Dat enc pg W n 29 cs x) : ∃ (v : Value) (l : List Int), cs = [v] ∧ RepSl (hp W) l v :=
  h.sl Int Tryz.underlying29 oc3 (by kernel_rfl) fun _ _ _ _ hy => hy.int Tryz.underlying3
theorem open_expr : ∀ (n : Nat) {cs : List Value} {x : DataW H × List MemPlace}, Dat enc pg W n 69 cs x → ∃ a : Bt.Expr, Rep.rep (hp W) a cs := fun n => by
  induction n using Nat.strongRecOn with
  | _ n ih =>
    intro cs x h
    obtain ⟨hl, m, hm, hf⟩ := h.fields Tryz.underlying69
    obtain ⟨y0, h0⟩ := hf 0 ⟨_, 3, 0, _, _, _, _⟩ rfl
    obtain ⟨y1, h1⟩ := hf 1 ⟨_, 3, 1, _, _, _, _⟩ rfl
    obtain ⟨y2, h2⟩ := hf 2 ⟨_, 3, 2, _, _, _, _⟩ rfl
    obtain ⟨y3, h3⟩ := hf 3 ⟨_, 3, 3, _, _, _, _⟩ rfl
    obtain ⟨y4, h4⟩ := hf 4 ⟨_, 67, 4, _, _, _, _⟩ rfl
    obtain ⟨a0, k0, w0⟩ := h0.int Tryz.underlying3
    obtain ⟨a1, k1, w1⟩ := h1.int Tryz.underlying3
    obtain ⟨a2, k2, w2⟩ := h2.int Tryz.underlying3
    obtain ⟨a3, k3, w3⟩ := h3.int Tryz.underlying3
    obtain ⟨v4, l4, k4, r4⟩ := h4.sl Bt.Expr Tryz.underlying67 (by kernel_rfl) (by kernel_rfl) fun q _ _ hq hy => ih q (by omega) hy
    have e67 : pg.cellsOf 67 = 1 := by kernel_rfl
    have hl : cs.length = 5 := hl.trans (by kernel_rfl)
    obtain ⟨c0, c1, c2, c3, c4, rfl⟩ := vlen5 hl
    simp only [oc3, e67, List.drop_zero, List.drop_succ_cons, List.take_succ_cons, List.take_zero, List.cons.injEq, and_true] at k0 k1 k2 k3 k4
    subst k0; subst k1; subst k2; subst k3; subst k4
    exact ⟨⟨a0, a1, a2, a3, l4⟩, repE'.2 ⟨_, rfl, ⟨w0, w1, w2, w3⟩, r4⟩⟩
theorem open_fun (h : Dat enc pg W n 71 cs x) : ∃ a : Bt.RFunc, Rep.rep (hp W) a cs := by
  obtain ⟨hl, m, hm, hf⟩ := h.fields Tryz.underlying71
  obtain ⟨y0, h0⟩ := hf 0 ⟨_, 9, 0, _, _, _, _⟩ rfl
  obtain ⟨y1, h1⟩ := hf 1 ⟨_, 29, 1, _, _, _, _⟩ rfl
  obtain ⟨y2, h2⟩ := hf 2 ⟨_, 3, 2, _, _, _, _⟩ rfl
  obtain ⟨y3, h3⟩ := hf 3 ⟨_, 69, 3, _, _, _, _⟩ rfl
  obtain ⟨a0, k0, w0⟩ := h0.str Tryz.underlying9
  obtain ⟨v1, l1, k1, r1⟩ := open_ints h1
  obtain ⟨a2, k2, w2⟩ := h2.int Tryz.underlying3
  obtain ⟨a3, r3⟩ := open_expr m h3
  obtain ⟨v3, k3, w3, r3⟩ := repE'.1 r3
  have e29 : pg.cellsOf 29 = 1 := by kernel_rfl
  have e69 : pg.cellsOf 69 = 5 := by kernel_rfl
  have hl : cs.length = 8 := hl.trans (by kernel_rfl)
  obtain ⟨c0, c1, c2, c3, c4, c5, c6, c7, rfl⟩ := vlen8 hl
  simp only [oc3, oc9, e29, e69, exC, List.drop_zero, List.drop_succ_cons, List.take_succ_cons, List.take_zero, List.cons.injEq, and_true] at k0 k1 k2 k3
  obtain ⟨j0, j1, j2, j3, j4⟩ := k3
  subst k0; subst k1; subst k2; subst j0; subst j1; subst j2; subst j3; subst j4
  exact ⟨⟨a0, l1, a2, a3⟩, _, _, rfl, w0, r1, w2, w3, r3⟩
theorem open_cl (h : Dat enc pg W n 73 cs x) : ∃ a : Bt.RClause, Rep.rep (hp W) a cs := by
  obtain ⟨hl, m, hm, hf⟩ := h.fields Tryz.underlying73
  obtain ⟨y0, h0⟩ := hf 0 ⟨_, 69, 0, _, _, _, _⟩ rfl
  obtain ⟨y1, h1⟩ := hf 1 ⟨_, 3, 5, _, _, _, _⟩ rfl
  obtain ⟨y2, h2⟩ := hf 2 ⟨_, 69, 6, _, _, _, _⟩ rfl
  obtain ⟨a0, r0⟩ := open_expr m h0
  obtain ⟨v0, k0, w0, z0⟩ := repE'.1 r0
  clear r0
  obtain ⟨a1, k1, w1⟩ := h1.int Tryz.underlying3
  obtain ⟨a2, r2⟩ := open_expr m h2
  obtain ⟨v2, k2, w2, z2⟩ := repE'.1 r2
  clear r2
  have e69 : pg.cellsOf 69 = 5 := by kernel_rfl
  have hl : cs.length = 11 := hl.trans (by kernel_rfl)
  obtain ⟨c0, c1, c2, c3, c4, c5, c6, c7, c8, c9, c10, rfl⟩ := vlen11 hl
  simp only [oc3, e69, exC, List.drop_zero, List.drop_succ_cons, List.take_succ_cons, List.take_zero, List.cons.injEq, and_true] at k0 k1 k2
  obtain ⟨j0, j1, j2, j3, j4⟩ := k0
  obtain ⟨i0, i1, i2, i3, i4⟩ := k2
  subst k1; subst j0; subst j1; subst j2; subst j3; subst j4; subst i0; subst i1; subst i2; subst i3; subst i4
  exact ⟨⟨a0, a1, a2⟩, _, _, rfl, w0, z0, w1, w2, z2⟩
theorem open_rule (h : Dat enc pg W n 35 cs x) : ∃ (r : Bt.Rule) (fv cv : Value), cs = [fv, cv] ∧ RepSl (hp W) r.Funcs fv ∧ RepSl (hp W) r.Clauses cv := by
  obtain ⟨hl, m, hm, hf⟩ := h.fields Tryz.underlying35
  obtain ⟨y0, h0⟩ := hf 0 ⟨_, 32, 0, _, _, _, _⟩ rfl
  obtain ⟨y1, h1⟩ := hf 1 ⟨_, 33, 1, _, _, _, _⟩ rfl
  obtain ⟨v0, l0, k0, r0⟩ := h0.sl Bt.RFunc Tryz.underlying32 (by kernel_rfl) (by kernel_rfl) fun _ _ _ _ hy => open_fun hy
  obtain ⟨v1, l1, k1, r1⟩ := h1.sl Bt.RClause Tryz.underlying33 (by kernel_rfl) (by kernel_rfl) fun _ _ _ _ hy => open_cl hy
  have e32 : pg.cellsOf 32 = 1 := by kernel_rfl
  have e33 : pg.cellsOf 33 = 1 := by kernel_rfl
  have hl : cs.length = 2 := hl.trans (by kernel_rfl)
  obtain ⟨c0, c1, rfl⟩ := vlen2 hl
  simp only [e32, e33, List.drop_zero, List.drop_succ_cons, List.take_succ_cons, List.take_zero, List.cons.injEq, and_true] at k0 k1
  subst k0; subst k1
  exact ⟨⟨l0, l1⟩, _, _, rfl, r0, r1⟩
theorem open_facts (h : Dat enc pg W n 38 cs x) : ∃ (f : Bt.Facts) (yf : FcV), cs = fcC yf f.Hour ∧ yf.ok (hp W) f ∧ I64 f.Hour := by
  obtain ⟨hl, m, hm, hf⟩ := h.fields Tryz.underlying38
  obtain ⟨y0, h0⟩ := hf 0 ⟨_, 29, 0, _, _, _, _⟩ rfl
  obtain ⟨y1, h1⟩ := hf 1 ⟨_, 29, 1, _, _, _, _⟩ rfl
  obtain ⟨y2, h2⟩ := hf 2 ⟨_, 36, 2, _, _, _, _⟩ rfl
  obtain ⟨y3, h3⟩ := hf 3 ⟨_, 29, 3, _, _, _, _⟩ rfl
  obtain ⟨y4, h4⟩ := hf 4 ⟨_, 3, 4, _, _, _, _⟩ rfl
  obtain ⟨y5, h5⟩ := hf 5 ⟨_, 29, 5, _, _, _, _⟩ rfl
  obtain ⟨v0, l0, k0, r0⟩ := open_ints h0
  obtain ⟨v1, l1, k1, r1⟩ := open_ints h1
  obtain ⟨v2, l2, k2, r2⟩ := h2.sl (List Int) Tryz.underlying36 (by kernel_rfl) (by kernel_rfl) fun _ _ _ _ hy => by
    obtain ⟨v, l, k, r⟩ := open_ints hy
    exact ⟨l, v, k, r⟩
  obtain ⟨v3, l3, k3, r3⟩ := open_ints h3
  obtain ⟨a4, k4, w4⟩ := h4.int Tryz.underlying3
  obtain ⟨v5, l5, k5, r5⟩ := open_ints h5
  have e29 : pg.cellsOf 29 = 1 := by kernel_rfl
  have e36 : pg.cellsOf 36 = 1 := by kernel_rfl
  have hl : cs.length = 6 := hl.trans (by kernel_rfl)
  obtain ⟨c0, c1, c2, c3, c4, c5, rfl⟩ := vlen6 hl
  simp only [oc3, e29, e36, List.drop_zero, List.drop_succ_cons, List.take_succ_cons, List.take_zero, List.cons.injEq, and_true] at k0 k1 k2 k3 k4 k5
  subst k0; subst k1; subst k2; subst k3; subst k4; subst k5
  exact ⟨⟨l0, l1, l2, l3, a4, l5⟩, ⟨c0, c1, c2, c3, c5⟩, rfl, ⟨r0, r1, r2, r3, r5⟩, w4⟩
theorem nmS_of {Φ : Hp} {v : Value} {sz by_ : Nat} {l : List (List UInt8 × Int)} (h1 : IsSl v l.length) (h2 : l.length * by_ ≤ maxSl) (h0 : 0 < by_) (h3 : ∀ i (h : i < l.length), ∃ cs : List Value, (cs[0]? = some (.string (bs l[i].1)) ∧ l[i].1.length ≤ maxLen) ∧ ∀ j u, cs[j]? = some u → PCell Φ (Value.at v (i * sz + j)) u) : NmS Φ v sz (l.map (·.1)) := by
  refine ⟨by rw [List.length_map]; exact h1, fun i hi => ?_, fun q hq => ?_, ?_⟩
  · have hi' : i < l.length := by rwa [List.length_map] at hi
    obtain ⟨cs, h4, h5⟩ := h3 i hi'
    rw [List.getElem_map]
    exact h5 0 _ h4.1
  · obtain ⟨a, ha, rfl⟩ := List.mem_map.1 hq
    obtain ⟨i, hi, rfl⟩ := List.mem_iff_getElem.1 ha
    obtain ⟨cs, h4, _⟩ := h3 i hi
    exact h4.2
  · rw [List.length_map]
    have h6 : l.length * 1 ≤ l.length * by_ := Nat.mul_le_mul_left _ h0
    simp only [maxSl] at h2
    omega
theorem name_str (h : Dat enc pg W n 9 cs x) : ∃ b : List UInt8 × Int, cs[0]? = some (.string (bs b.1)) ∧ b.1.length ≤ maxLen := by
  obtain ⟨a, rfl, w⟩ := h.str Tryz.underlying9
  exact ⟨(a, 0), rfl, w⟩
theorem take_at {l : List Value} {o : Nat} {u : Value} (h : (l.drop o).take 1 = [u]) : l[o]? = some u := by
  have h1 : ((l.drop o).take 1)[0]? = some u := by rw [h]; rfl
  simpa [List.getElem?_take, List.getElem?_drop] using h1
theorem name_of {t : TypeId} {fs : Array Field} {f : Field} (ht : pg.underlying t = some (.struct fs)) (hf0 : fs[0]? = some f) (h9 : f.type = 9) (h0 : f.offset = 0) (h : Dat enc pg W n t cs x) : ∃ b : List UInt8 × Int, cs[0]? = some (.string (bs b.1)) ∧ b.1.length ≤ maxLen := by
  obtain ⟨_, m, _, hf⟩ := h.fields ht
  obtain ⟨y, hy⟩ := hf 0 f hf0
  rw [h9, h0, oc9] at hy
  obtain ⟨a, k, w⟩ := hy.str Tryz.underlying9
  exact ⟨(a, 0), take_at k, w⟩
theorem link_of (h : Dat enc pg W n 58 cs x) : ∃ b : List UInt8 × Int, (cs[0]? = some (.string (bs b.1)) ∧ b.1.length ≤ maxLen) ∧ cs[7]? = some (.int .i64 b.2) ∧ I64 b.2 := by
  obtain ⟨_, m, _, hf⟩ := h.fields Tryz.underlying58
  obtain ⟨y, hy⟩ := hf 0 ⟨_, 9, 0, _, _, _, _⟩ rfl
  obtain ⟨z, hz⟩ := hf 6 ⟨_, 3, 7, _, _, _, _⟩ rfl
  obtain ⟨a, k, w⟩ := hy.str Tryz.underlying9
  obtain ⟨p, k2, w2⟩ := hz.int Tryz.underlying3
  have k : (cs.drop 0).take 1 = [.string (bs a)] := by rw [← oc9]; exact k
  have k2 : (cs.drop 7).take 1 = [.int .i64 p] := by rw [← oc3]; exact k2
  exact ⟨(a, p), ⟨take_at (o := 0) k, w⟩, take_at (o := 7) k2, w2⟩
theorem open_basin (h : Dat enc pg W n 31 cs x) : ∃ (b : BasV) (e : Ru.Env) (ps : List Int), cs = b.cs ∧ b.ok (hp W) e ∧ PosS (hp W) b.lv ps ∧ ps.length = e.links.length ∧ ps.length * 200 ≤ maxSl ∧ ∀ x ∈ ps, I64 x := by
  obtain ⟨hl, m, hm, hf⟩ := h.fields Tryz.underlying31
  obtain ⟨y0, h0⟩ := hf 0 ⟨_, 9, 0, _, _, _, _⟩ rfl
  obtain ⟨y1, h1⟩ := hf 1 ⟨_, 22, 1, _, _, _, _⟩ rfl
  obtain ⟨y2, h2⟩ := hf 2 ⟨_, 3, 2, _, _, _, _⟩ rfl
  obtain ⟨y3, h3⟩ := hf 3 ⟨_, 23, 3, _, _, _, _⟩ rfl
  obtain ⟨y4, h4⟩ := hf 4 ⟨_, 24, 4, _, _, _, _⟩ rfl
  obtain ⟨y5, h5⟩ := hf 5 ⟨_, 25, 5, _, _, _, _⟩ rfl
  obtain ⟨y10, h10⟩ := hf 10 ⟨_, 3, 10, _, _, _, _⟩ rfl
  obtain ⟨a0, k0, w0⟩ := h0.str Tryz.underlying9
  obtain ⟨v1, l1, k1, s1, b1, r1⟩ := h1.rows Tryz.underlying22 fun _ _ _ _ hy => name_str hy
  obtain ⟨a2, k2, w2⟩ := h2.int Tryz.underlying3
  obtain ⟨v3, l3, k3, s3, b3, r3⟩ := h3.rows Tryz.underlying23 fun _ _ _ _ hy => name_of Tryz.underlying92 rfl rfl rfl hy
  obtain ⟨v4, l4, k4, s4, b4, r4⟩ := h4.rows Tryz.underlying24 fun _ _ _ _ hy => link_of hy
  obtain ⟨v5, l5, k5, s5, b5, r5⟩ := h5.rows Tryz.underlying25 fun _ _ _ _ hy => name_of Tryz.underlying94 rfl rfl rfl hy
  obtain ⟨a10, k10, w10⟩ := h10.int Tryz.underlying3
  have e22 : pg.cellsOf 22 = 1 := by kernel_rfl
  have e23 : pg.cellsOf 23 = 1 := by kernel_rfl
  have e24 : pg.cellsOf 24 = 1 := by kernel_rfl
  have e25 : pg.cellsOf 25 = 1 := by kernel_rfl
  have c92 : pg.cellsOf 92 = 12 := by kernel_rfl
  have c58 : pg.cellsOf 58 = 18 := by kernel_rfl
  have c94 : pg.cellsOf 94 = 7 := by kernel_rfl
  have d58 : pg.bytesOf 58 = 200 := by kernel_rfl
  have p9 : 0 < pg.bytesOf 9 := by decide +kernel
  have p92 : 0 < pg.bytesOf 92 := by decide +kernel
  have p94 : 0 < pg.bytesOf 94 := by decide +kernel
  rw [oc9] at r1; rw [c92] at r3; rw [c58] at r4; rw [c94] at r5; rw [d58] at b4
  have hl : cs.length = 11 := hl.trans (by kernel_rfl)
  obtain ⟨c0, c1, c2, c3, c4, c5, c6, c7, c8, c9, c10, rfl⟩ := vlen11 hl
  simp only [oc3, oc9, e22, e23, e24, e25, List.drop_zero, List.drop_succ_cons, List.take_succ_cons, List.take_zero, List.cons.injEq, and_true] at k0 k1 k2 k3 k4 k5 k10
  subst k0; subst k1; subst k2; subst k3; subst k4; subst k5; subst k10
  refine ⟨⟨a0, c1, a2, c3, c4, c5, c6, c7, c8, c9, a10⟩, ⟨l3.map (·.1), l1.map (·.1), l4.map (·.1), l5.map (·.1)⟩, l4.map (·.2), rfl, ⟨nmS_of s1 b1 p9 r1, nmS_of s3 b3 p92 r3, nmS_of s4 b4 (by omega) fun i hi => ?_, nmS_of s5 b5 p94 r5⟩, fun i hi => ?_, ?_, ?_, fun q hq => ?_⟩
  · obtain ⟨cs', hg, hc⟩ := r4 i hi
    exact ⟨cs', hg.1, hc⟩
  · rw [List.length_map] at hi
    obtain ⟨cs', hg, hc⟩ := r4 i hi
    have := hc 7 _ hg.2.1
    rw [gDD, List.getElem?_map, List.getElem?_eq_getElem hi]
    exact this
  · rw [List.length_map]; show l4.length = (l4.map (·.1)).length; rw [List.length_map]
  · rw [List.length_map]; exact b4
  · obtain ⟨a, ha, rfl⟩ := List.mem_map.1 hq
    obtain ⟨i, hi, rfl⟩ := List.mem_iff_getElem.1 ha
    obtain ⟨cs', hg, hc⟩ := r4 i hi
    exact hg.2.2
end
end Go.Proofs.YtnfmjfheciihjaaGreatDoor
