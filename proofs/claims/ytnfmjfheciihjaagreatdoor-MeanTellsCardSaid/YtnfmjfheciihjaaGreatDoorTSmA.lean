/- Lemmas. Conditions: those of each theorem. -/
import Derived.Test.YtnfmjfheciihjaaGreatDoorTRfQ
set_option maxRecDepth 8000
set_option maxHeartbeats 16000000
namespace Go.K
open Go Go.RowKit
theorem RW.tke {P : Program} {N : Nat} {D : List Deferred} {ops : Array Oper} {Q : Exit → Act → World → Prop} {f : Nat → Value} {s : List (Nat × Value)} {J : Cls} {d : Option Nat} {j gd : Nat} {want : Bool} {op : Op} {ty : TypeId} {pos : String} {af : Array Edge} {rest : List Oper}
    (hy : (ops[j]?).bind (·.dst) = some gd) (hb : fr f s gd = .bool want) (h : RW P N D ops Q (⟨d, op, ty, pos, af, none⟩ :: rest) f s J) :
    RW P N D ops Q (⟨d, op, ty, pos, af, some (j, want)⟩ :: rest) f s J := fun a w ha hw => by
  have hyy := yielded_of (ops := ops) ha hy hb
  have h1 := h a w ha hw
  unfold wpList at h1 ⊢
  rw [if_pos (show Region.wanted ⟨d, op, ty, pos, af, none⟩ (yielded ops a.tmps) = true from rfl)] at h1
  rw [if_pos (by simp [Region.wanted, hyy])]
  exact h1
end Go.K
namespace Go.Proofs.YtnfmjfheciihjaaGreatDoor
open Go Go.K Go.RowKit
open Ru (pB NmS BasV BigE)
open Mn (toV B01)
attribute [local irreducible] AW RW DW Post Qt
theorem jright_b {e : Ru.Env} {r : Bt.Rule} (h : Ru.rightR e r = true) : ∀ c ∈ r.Clauses, (Ru.jx e r.Funcs [] 40 c.If).1 = 1 := fun c hc => by
  unfold Ru.rightR at h
  simp only [Bool.and_eq_true] at h
  have := List.all_eq_true.1 h.2 c hc
  unfold Ru.jcl Ru.jhas at this
  simp only [Bool.and_eq_true, decide_eq_true_eq] at this
  exact this.1.2.2
abbrev xY (b : BasV) (fA : Option Addr) (fc : Nat) (r : Bt.Rule) (cA : Option Addr) (cc : Nat) (yf : FcV) (h : Int) : XV := ⟨b, .slice fA r.Funcs.length fc, .slice cA r.Clauses.length cc, yf, h⟩
theorem val_x {e : Ru.Env} {fs : List Bt.RFunc} {f : Bt.Facts} {x : Nat} {y : XV} {Φ : Hp} {X : Bt.Expr} {v : Value} {u k : Int} (hE : EF Φ y e fs f) (hv : RepSl Φ X.Kids v) (hj : (Ru.jx e fs [] 40 X).2 = true) (hu : k = 0 → 0 ≤ u ∧ u ≤ 10000) :
    ∃ z : Int × Int × Int, (∀ w1, StP ⟨w1, Φ, fps [xB x y u 0 k]⟩ Φ [xB x y u 0 k] w1 → Calls pg 26 #[pB x, .agg (exC X v).toArray, .slice none 0 0] w1 (fvR w1 Φ x y u 0 k z)) ∧ I64 z.1 ∧ (z.2.2 = 0 → 0 ≤ z.2.1 ∧ z.2.1 ≤ 10000) ∧
      ((k ≠ 0 ∧ z = (0, u, k)) ∨ (k = 0 ∧ z.2.2 = 0 ∧ Mn.ev fs f (dOf f) Mn.big 0 X [] u = .ok (z.1, z.2.1)) ∨ (k = 0 ∧ z.2.2 ≠ 0 ∧ z.1 = 0 ∧ Mn.ev fs f (dOf f) Mn.big 0 X [] u = .error (z.2.2, z.2.1))) := by
  have i0 : I64 0 := I64.nat (n := 0) (by omega)
  by_cases hk : k = 0
  · subst hk
    have hu := hu rfl
    have hP : PT Φ [] [] (.slice none 0 0) := ⟨rfl, repSl_nil, fun i hi => absurd hi (Nat.not_lt_zero _)⟩
    have hg := Mn.ev_good (fs := fs) (f := f) (d := dOf f) Mn.big 0 X [] u hu.2
    have hc := fun w1 => fvalue_c (e := e) (fs := fs) (f := f) (x := x) (y := y) Mn.big Φ X v w1 40 [] [] (.slice none 0 0) u 0 hE hv hj hP hu (by omega) (by decide)
    cases hr : Mn.ev fs f (dOf f) Mn.big 0 X [] u with
    | error q =>
      obtain ⟨k, u3⟩ := q
      rw [hr] at hg
      have h5 : k ≠ 0 := Mn.ev_err hE.J1 Mn.big 0 _ [] [] 40 u (k, u3) hj (by omega) (by omega) (by decide) hr
      refine ⟨(0, u3, k), fun w1 h1 => ?_, i0, fun h => absurd h h5, .inr (.inr ⟨rfl, h5, rfl, rfl⟩)⟩
      have := hc w1 h1; rw [hr] at this; exact this
    | ok p =>
      obtain ⟨a, u3⟩ := p
      rw [hr] at hg
      have hg : u3 ≤ 10000 := hg
      have h5 := Mn.ev_rng hE.J1 hE.R Mn.big hj rfl (fun x hx => by cases hx) hr
      refine ⟨(a, u3, 0), fun w1 h1 => ?_, h5.1, fun _ => ⟨by have := h5.2; show 0 ≤ u3; omega, hg⟩, .inr (.inl ⟨rfl, rfl, rfl⟩)⟩
      have := hc w1 h1; rw [hr] at this; exact this
  · exact ⟨(0, u, k), fun w1 h1 => fvalK_c w1 hk hv.sl h1, i0, fun h => absurd h hk, .inl ⟨hk, rfl⟩⟩
theorem fRun_c (w : World) (Φ : Hp) (hΦ : Hp.le Φ (hp w)) {b : BasV} {e : Ru.Env} {ps : List Int} (hb : b.ok Φ e) (hB : BigE e) (hpos : PosS Φ b.lv ps) (hpl : ps.length = e.links.length) (hpm : ps.length * 200 ≤ maxSl) (hpi : ∀ x ∈ ps, I64 x) {r : Bt.Rule} {fv cv : Value} (hf : RepSl Φ r.Funcs fv) (hc : RepSl Φ r.Clauses cv) {f : Bt.Facts} {yf : FcV} (hy : yf.ok Φ f) (hh : I64 f.Hour) :
    Calls pg 12 #[.agg b.cs.toArray, .agg #[fv, cv], .agg (fcC yf f.Hour).toArray] w (OrdR w Φ (Mn.run e ps r f)) := by
  obtain ⟨fA, fc, rfl, _⟩ := hf.sl
  obtain ⟨cA, cc, rfl, _⟩ := hc.sl
  refine calls_of_AW (args := [.agg b.cs.toArray, .agg #[.slice fA r.Funcs.length fc, .slice cA r.Clauses.length cc], .agg (fcC yf f.Hour).toArray]) Tryz.func12 rfl (lBT rfl) (St ⟨w, Φ, []⟩ Φ []) (StP.init w Φ hΦ []) ?_
  show AW _ _ [] _ _ _ [(0, .agg b.cs.toArray), (1, .agg #[.slice fA r.Funcs.length fc, .slice cA r.Clauses.length cc]), (2, .agg (fcC yf f.Hour).toArray)] _
  repeat refine gs1 ?_
  refine RW.bxA (cs := b.cs) rfl rfl fun b3 => ?_
  refine RW.frzB rfl fun Φ1 hl1 hb3 => ?_
  refine RW.bxA (cs := (rS2 fA fc cA cc r)) rfl rfl fun b4 => ?_
  refine RW.frzB rfl fun Φ2 hl2 hb4 => ?_
  refine RW.bxA (cs := fcC yf f.Hour) rfl rfl fun b5 => ?_
  refine RW.frzB rfl fun Φ3 hl3 hb5 => ?_
  have hl : Hp.le Φ Φ3 := (hl1.trans hl2).trans hl3
  have hb3 : Φ3 b3 = some (.cells b.cs.toArray 31 (0, 0)) := (hl2.trans hl3) _ _ hb3
  have hb4 : Φ3 b4 = some (.cells (rS2 fA fc cA cc r).toArray 35 (0, 0)) := hl3 _ _ hb4
  have hb5 : Φ3 b5 = some (.cells (fcC yf f.Hour).toArray 38 (0, 0)) := hb5
  have hb := hb.mono hl
  have hf := hf.mono hl
  have hc := hc.mono hl
  have hy := hy.mono hl
  have hpos := hpos.mono hl
  have hcs := hc.sl
  have hls := hb.l.sl
  have q3 := PCells.blk hb3
  have q4 := PCells.blk hb4
  have q5 := PCells.blk hb5
  have q41 : PCell Φ3 ⟨b4, 1, none⟩ (.slice cA r.Clauses.length cc) := PCell.blk hb4 rfl
  have q34 : PCell Φ3 ⟨b3, 4, none⟩ b.lv := PCell.blk hb3 rfl
  refine RW.alc rfl fun b6 => ?_
  repeat refine gs1 ?_
  refine RW.q rfl (q_call (args := #[.agg b.cs.toArray, .agg #[.slice fA r.Funcs.length fc, .slice cA r.Clauses.length cc]]) oK rfl rfl (fun w1 hw1 => fRight_c w1 Φ3 hw1.phi hb hB hf hc)) ?_
  repeat refine gs1 ?_
  refine AW.cond rfl (fun h0 => ?_) fun h0 => ?_
  · have h0 : Ru.rightR e r = false := by simpa using h0
    repeat refine gs1 ?_
    refine RW.q (v := .agg (orC (.slice none 0 0) 0 1).toArray) rfl (q_build (vals := [(2, .int .i64 1)]) zero45 Tryz.underlying45 places45 rfl rfl) ?_
    repeat refine gs1 ?_
    repeat refine gs1 ?_
    have hz : Mn.run e ps r f = ⟨[], 0, 1⟩ := by unfold Mn.run; rw [if_neg (by rw [h0]; simp)]
    rw [hz]
    exact fin_res (vs := [.agg (orC (.slice none 0 0) 0 1).toArray]) rfl rfl ⟨.agg rfl rfl (Cells.blk 0 rfl), trivial⟩ rfl (fun w1 hw1 => ⟨_, rfl, hw1.below rfl, .slice none 0 0, rfl, repSl_nil⟩)
  have h0 : Ru.rightR e r = true := by simpa using h0
  have hrun : Mn.run e ps r f = Mn.runR ps r f := by unfold Mn.run; rw [if_pos h0]
  rw [hrun]
  simp only [maxSl] at hpm
  generalize hn : ps.length = n at hpl hpm
  rw [← hpl] at hls
  repeat refine gs1 ?_
  refine RW.q (v := .agg (XV.cs (xY b fA fc r cA cc yf f.Hour) 0 0 0).toArray) rfl (q_build (vals := [(0, .agg b.cs.toArray), (1, .agg #[.slice fA r.Funcs.length fc, .slice cA r.Clauses.length cc]), (2, .agg (fcC yf f.Hour).toArray)]) zero88 Tryz.underlying88 places88 rfl (by kernel_rfl)) ?_
  refine RW.bxA (cs := XV.cs (xY b fA fc r cA cc yf f.Hour) 0 0 0) rfl rfl fun x => ?_
  repeat refine gs1 ?_
  refine RW.eff _ _ rfl (e_makeSlice (l := n) (c := n) (n := n) (xs := List.replicate n (.bool false)) rfl rfl Tryz.underlying52 inf4 (Nat.le_refl _) (by omega) (by omega) (Nat.mul_one _) made_one) fun bq => ?_
  repeat refine gs1 ?_
  refine RW.eff _ _ rfl (e_makeSlice (l := n) (c := n) (n := n) (xs := List.replicate n (.int .i64 0)) rfl rfl Tryz.underlying29 inf3 (Nat.le_refl _) (by omega) (by omega) (Nat.mul_one _) made_one) fun bt => ?_
  repeat refine gs1 ?_
  have hD : Mn.runR ps r f = (match Mn.cls r.Funcs f (Mn.dateOf f.Hour).1 ps r.Clauses (List.replicate n false) (List.replicate n 0) 0 with
    | .error e => ⟨[], e.2, e.1⟩
    | .ok ((s, t), u) => ⟨Mn.cmds s t, u, 0⟩) := by unfold Mn.runR; rw [hn]; rfl
  generalize hres : Mn.cls r.Funcs f (Mn.dateOf f.Hour).1 ps r.Clauses (List.replicate n false) (List.replicate n 0) 0 = res at hD
  have hE : EF Φ3 (xY b fA fc r cA cc yf f.Hour) e r.Funcs f := ⟨hf, ⟨_, hcs⟩, hy, rfl, hh, fun q hq => jright_f h0 q hq⟩
  have hcb : r.Clauses.length * 120 ≤ maxSl := hc.max
  simp only [maxSl] at hcb
  refine AW.loop (fun s J q => ∃ (i : Nat) (S : List Bool) (T : List Int) (u k : Int), s = [(3, pB b3), (4, pB b4), (6, pB b6), (8, pB x), (9, nR bq n), (10, nR bt n), (11, .int .i64 (i : Int))] ∧ J = St ⟨w, Φ, []⟩ Φ3 [xB x (xY b fA fc r cA cc yf f.Hour) u 0 k, .row (nR bt n) 3 1 n (T.map (Value.int .i64)), .row (nR bq n) 4 1 n (S.map Value.bool), .blk b6 45 zO] ∧ q = r.Clauses.length - i ∧ i ≤ r.Clauses.length ∧ S.length = n ∧ T.length = n ∧ (∀ t ∈ T, I64 t) ∧ ((k = 0 ∧ (0 ≤ u ∧ u ≤ 10000) ∧ Mn.cls r.Funcs f (Mn.dateOf f.Hour).1 ps (r.Clauses.drop i) S T u = res) ∨ (k ≠ 0 ∧ res = .error (k, u)))) (s0 := [(3, pB b3), (4, pB b4), (6, pB b6), (8, pB x), (9, nR bq n), (10, nR bt n), (11, .int .i64 ((0 : Nat) : Int))]) (J1 := _) (m0 := _) ⟨0, List.replicate n false, List.replicate n 0, 0, 0, rfl, rfl, rfl, Nat.zero_le _, by simp, by simp, fun t ht => by rw [(List.mem_replicate.1 ht).2]; exact I64.nat (n := 0) (by omega), .inl ⟨rfl, by omega, hres⟩⟩ ⟨rfl, rfl, rfl, rfl, rfl, rfl, rfl, trivial⟩ (fun _ h => by rw [List.map_replicate, List.map_replicate]; exact StP.sel h [2, 0, 1, 3] (by decide) rfl) ?_
  rintro _ _ _ _ ⟨i, S, T, u, k, rfl, rfl, rfl, hi, hSl, hTl, hTi, hst⟩
  repeat refine gs1 ?_
  refine RW.g (v := pB x) rfl rfl rfl (fun h => by exact q_nilCheck (gv_pos h)) ?_
  repeat refine gs1 ?_
  refine RW.q (v := .bool (decide ((i : Int) < (r.Clauses.length : Nat)) && decide (k = 0))) rfl (qpA rfl rfl rfl) ?_
  repeat refine gs1 ?_
  refine AW.cond rfl (fun h => ?_) fun h => ?_
  · have hik : i < r.Clauses.length ∧ k = 0 := by simpa using h
    clear h
    obtain ⟨h, rfl⟩ := hik
    obtain ⟨hu, hcl⟩ := hst.elim (fun h => h.2) fun h => absurd rfl h.1
    clear hst
    obtain ⟨Aa, ca, Ab, cb, hpb, hki, hkt, hwi, hwt, hlk⟩ := clV hc h
    have hcm : r.Clauses.getD i default ∈ r.Clauses := by rw [gDD, List.getElem?_eq_getElem h]; exact List.getElem_mem h
    have hcr := jright_c h0 (r.Clauses.getD i default) hcm
    have hct := jright_b h0 (r.Clauses.getD i default) hcm
    obtain ⟨hl0, hl1, hjI, hjT⟩ := hcr
    obtain ⟨m, hm⟩ : ∃ m : Nat, (r.Clauses.getD i default).Link = m := ⟨(r.Clauses.getD i default).Link.toNat, by omega⟩
    have hmn : m < n := by omega
    rw [cls_cons h] at hcl
    unfold Mn.cls at hcl
    rw [hm, Int.toNat_natCast] at hcl
    repeat refine gs1 ?_
    refine RW.alc rfl fun b9 => ?_
    repeat refine gs1 ?_
    refine RW.own (args := #[pB x]) (C2 := [.blk b9 73 (rX r i Aa ca Ab cb), .row (nR bt n) 3 1 n (T.map (Value.int .i64)), .row (nR bq n) 4 1 n (S.map Value.bool), .blk b6 45 zO]) [1, 0, 2, 3, 4] (by decide) rfl rfl oK rfl rfl (fun w1 hw1 => fStep_c w1 hu hw1) (fun _ _ _ h => nomatch h) (fun z _ hz => ?_)
    obtain ⟨u1, k1⟩ := z
    replace hz := Except.ok.inj hz
    have hst1 : (k1 = 14 ∧ res = .error (14, u1)) ∨ (k1 = 0 ∧ (0 ≤ u1 ∧ u1 ≤ 10000) ∧ (if S.getD m false = true then Mn.cls r.Funcs f (Mn.dateOf f.Hour).1 ps (r.Clauses.drop (i + 1)) S T u1
      else Mn.bnd (Mn.ev r.Funcs f (Mn.dateOf f.Hour).1 Mn.big 0 (r.Clauses.getD i default).If [] u1) fun v u =>
        if v = 0 then Mn.cls r.Funcs f (Mn.dateOf f.Hour).1 ps (r.Clauses.drop (i + 1)) S T u
        else Mn.bnd (Mn.ev r.Funcs f (Mn.dateOf f.Hour).1 Mn.big 0 (r.Clauses.getD i default).To [] u) fun v u => Mn.cls r.Funcs f (Mn.dateOf f.Hour).1 ps (r.Clauses.drop (i + 1)) (S.set m true) (T.set m (Mn.clampI v 0 (ps.getD m 0))) u) = res) := by
      unfold stp at hz
      rw [if_neg (by simp)] at hz
      by_cases h5 : u = 10000
      · rw [if_pos h5] at hz
        rw [if_pos (by omega)] at hcl
        obtain ⟨rfl, rfl⟩ := Prod.mk.inj hz
        exact .inl ⟨rfl, hcl.symm⟩
      · rw [if_neg h5] at hz
        rw [if_neg (by omega)] at hcl
        obtain ⟨rfl, rfl⟩ := Prod.mk.inj hz
        exact .inr ⟨rfl, by omega, hcl⟩
    clear hcl hz
    simp only [List.cons_append, List.nil_append]
    repeat refine gs1 ?_
    have hix : ∀ {J : Cls} {s : List (Nat × Value)} {f' : Nat → Value} {dst : Option Nat} {ty : TypeId} {pos : String} {af : Array Edge} {a b : Operand}, ev (fr f' s) a = nR bq n → ev (fr f' s) b = .int .i64 (r.Clauses.getD i default).Link → Qt pg J f' s ⟨dst, .indexAddr 52 a b, ty, pos, af, none⟩ (.pointer (some (Value.at (nR bq n) (m * 1)))) := fun ha hb => qa_ixN (n := n) (i := m) ha (hb.trans (by rw [hm])) (isSl_mk (Nat.le_refl _)) hmn
    have hcS : ∀ {B : Bs} {C : List Chunk} (k : Nat), C[k]? = some (.row (nR bq n) 4 1 n (S.map Value.bool)) → Cell (St B Φ3 C) (Value.at (nR bq n) (m * 1)) (.bool (S.getD m false)) := fun k hk => Cell.row k hk (by rw [Nat.mul_one, List.getElem?_map, gDD, List.getElem?_eq_getElem (by omega)]; rfl)
    refine RW.q rfl (hix rfl rfl) ?_
    refine RW.q (v := .bool (S.getD m false)) rfl (qa_ld rfl (hcS 3 rfl)) ?_
    repeat refine gs1 ?_
    cases hS : S.getD m false with
    | true =>
      rw [if_pos hS] at hst1
      repeat refine gs1 ?_
      repeat refine RW.g (b := true) (v := undef) rfl rfl rfl (fun h => nomatch h) ?_
      refine RW.q (v := .bool true) rfl (q_pick rfl (fun _ => rfl) (fun h => nomatch h)) ?_
      repeat refine gs1 ?_
      repeat refine RW.g (b := true) (v := undef) rfl rfl rfl (fun h => nomatch h) ?_
      refine RW.q (v := .bool true) rfl (q_pick rfl (fun _ => rfl) (fun h => nomatch h)) ?_
      repeat refine gs1 ?_
      exact Post.back (s' := _) (J' := _) (m' := _) (by omega) ⟨i + 1, S, T, u1, k1, rfl, rfl, rfl, by omega, hSl, hTl, hTi, hst1.elim (fun h => .inr ⟨by omega, by rw [h.1]; exact h.2⟩) fun h => .inl h⟩ ⟨rfl, rfl, rfl, rfl, rfl, rfl, rfl, trivial⟩ (fun _ h => StP.sel h [0, 2, 3, 4] (by decide) rfl)
    | false =>
      rw [if_neg (by rw [hS]; simp)] at hst1
      obtain ⟨⟨v, u2, k2⟩, hcall, hvi, hu2, hz⟩ := val_x (x := x) (k := k1) hE hki hjI (fun h => hst1.elim (fun h2 => by omega) fun h2 => h2.2.1)
      simp only at hu2 hz hvi
      repeat refine gs1 ?_
      refine RW.g (b := false) (v := .agg (exC (r.Clauses.getD i default).If (.slice Aa (r.Clauses.getD i default).If.Kids.length ca)).toArray) rfl rfl rfl (fun _ => qa_ldA (cs := (exC (r.Clauses.getD i default).If (.slice Aa (r.Clauses.getD i default).If.Kids.length ca))) rfl (Cells.blkP 1 rfl (fun j u hj => by rw [Nat.zero_add]; exact (List.getElem?_append_left (List.getElem?_eq_some_iff.1 hj).1).trans hj)) rfl) ?_
      refine RW.tke rfl rfl ?_
      refine RW.own (args := #[pB x, .agg (exC (r.Clauses.getD i default).If (.slice Aa (r.Clauses.getD i default).If.Kids.length ca)).toArray, .slice none 0 0]) (C2 := [.blk b9 73 (rX r i Aa ca Ab cb), .row (nR bt n) 3 1 n (T.map (Value.int .i64)), .row (nR bq n) 4 1 n (S.map Value.bool), .blk b6 45 zO]) [0, 1, 2, 3, 4] (by decide) rfl rfl oK rfl rfl hcall (fun _ _ _ h => nomatch h) (fun z _ hz => ?_)
      obtain rfl := Except.ok.inj hz
      clear hz
      simp only [List.cons_append, List.nil_append]
      refine RW.g (b := false) (v := .bool (!decide (v = 1))) rfl rfl rfl (fun _ => q_neq rfl rfl) ?_
      refine RW.q (v := .bool (!decide (v = 1))) rfl (q_pick rfl (fun h => nomatch h) (fun _ => rfl)) ?_
      repeat refine gs1 ?_
      refine RW.g (v := pB x) rfl rfl rfl (fun h => by exact q_nilCheck (gv_pos h)) ?_
      repeat refine gs1 ?_
      refine RW.q (v := .bool (!decide (v = 1) || !decide (k2 = 0))) rfl (qpO rfl rfl rfl) ?_
      repeat refine gs1 ?_
      refine AW.cond rfl (fun hv => ?_) fun hv => ?_
      · have hv : v ≠ 1 ∨ k2 ≠ 0 := by simpa using hv
        repeat refine gs1 ?_
        refine Post.back (s' := _) (J' := _) (m' := _) (by omega) ⟨i + 1, S, T, u2, k2, rfl, rfl, rfl, by omega, hSl, hTl, hTi, ?_⟩ ⟨rfl, rfl, rfl, rfl, rfl, rfl, rfl, trivial⟩ (fun _ h => StP.sel h [0, 2, 3, 4] (by decide) rfl)
        rcases hz with ⟨h1, h2⟩ | ⟨h1, h2, h3⟩ | ⟨h1, h2, _, h3⟩
        · obtain ⟨rfl, rfl, rfl⟩ : v = 0 ∧ u2 = u1 ∧ k2 = k1 := by simpa using h2
          rcases hst1 with ⟨rfl, h4⟩ | ⟨h4, _⟩
          · exact .inr ⟨by omega, h4⟩
          · exact absurd h4 h1
        · have hv0 : v = 0 := by
            rcases Mn.ev_typ hE.J Mn.big 0 _ [] [] 40 u1 v u2 hjI (fun i hi => absurd hi (Nat.not_lt_zero _)) hct h3 with h | h
            · exact h
            · exact absurd (hv.resolve_left (fun hh => hh h)) (fun hh => hh h2)
          rcases hst1 with ⟨rfl, _⟩ | ⟨_, _, h4⟩
          · omega
          · rw [h3] at h4
            simp only [Mn.bnd] at h4
            rw [if_pos hv0] at h4
            exact .inl ⟨h2, hu2 h2, h4⟩
        · rcases hst1 with ⟨rfl, _⟩ | ⟨_, _, h4⟩
          · omega
          · rw [h3] at h4
            exact .inr ⟨h2, h4.symm⟩
      · have hv : v = 1 ∧ k2 = 0 := by simpa using hv
        obtain ⟨rfl, rfl⟩ := hv
        have hst2 : Mn.bnd (Mn.ev r.Funcs f (Mn.dateOf f.Hour).1 Mn.big 0 (r.Clauses.getD i default).To [] u2) (fun v u => Mn.cls r.Funcs f (Mn.dateOf f.Hour).1 ps (r.Clauses.drop (i + 1)) (S.set m true) (T.set m (Mn.clampI v 0 (ps.getD m 0))) u) = res := by
          rcases hz with ⟨h1, h2⟩ | ⟨h1, h2, h3⟩ | ⟨h1, h2, _, h3⟩
          · exact absurd (congrArg Prod.fst h2) (show ¬ (1 : Int) = 0 by decide)
          · rcases hst1 with ⟨rfl, _⟩ | ⟨_, _, h4⟩
            · omega
            · rw [h3] at h4
              simp only [Mn.bnd] at h4
              rw [if_neg (by decide)] at h4
              exact h4
          · exact absurd rfl h2
        clear hst1 hz hcall
        obtain ⟨⟨v, u3, k3⟩, hcall, hvi, hu3, hz⟩ := val_x (x := x) (k := 0) hE hkt hjT (fun _ => hu2 rfl)
        simp only at hu3 hz hvi
        repeat refine gs1 ?_
        refine RW.q (v := .agg (exC (r.Clauses.getD i default).To (.slice Ab (r.Clauses.getD i default).To.Kids.length cb)).toArray) rfl (qa_ldA (cs := (exC (r.Clauses.getD i default).To (.slice Ab (r.Clauses.getD i default).To.Kids.length cb))) rfl (Cells.blkP 1 rfl (fun j u hj => by rw [Nat.add_comm]; exact hj)) rfl) ?_
        refine RW.own (args := #[pB x, .agg (exC (r.Clauses.getD i default).To (.slice Ab (r.Clauses.getD i default).To.Kids.length cb)).toArray, .slice none 0 0]) (C2 := [.blk b9 73 (rX r i Aa ca Ab cb), .row (nR bt n) 3 1 n (T.map (Value.int .i64)), .row (nR bq n) 4 1 n (S.map Value.bool), .blk b6 45 zO]) [0, 1, 2, 3, 4] (by decide) rfl rfl oK rfl rfl hcall (fun _ _ _ h => nomatch h) (fun z _ hz => ?_)
        obtain rfl := Except.ok.inj hz
        clear hz
        simp only [List.cons_append, List.nil_append]
        repeat refine gs1 ?_
        refine RW.q rfl (hix rfl rfl) ?_
        refine RW.effn (J' := St ⟨w, Φ, []⟩ Φ3 [xB x (xY b fA fc r cA cc yf f.Hour) u3 0 k3, .blk b9 73 (rX r i Aa ca Ab cb), .row (nR bt n) 3 1 n (T.map (Value.int .i64)), .row (nR bq n) 4 1 n ((S.set m true).map Value.bool), .blk b6 45 zO]) (e_storeRow (n := 0) 3 rfl rfl rfl sz4 rfl rfl (by rw [List.length_map]; omega) (by rw [Nat.mul_one]; exact splice_map (by omega)) rfl) ?_
        repeat refine gs1 ?_
        refine AW.drawZ (J0 := St ⟨w, Φ, []⟩ Φ3 [xB x (xY b fA fc r cA cc yf f.Hour) u3 0 k3, .blk b9 73 (rX r i Aa ca Ab cb)]) [.q, .q, .q, .q, .q, .q, .q, .q, .q, .q, .q, .q, .q, .e] [0, 1, 2, 3, 4, 5, 6, 7, 8, 9, 10, 11, 12, 13] hmix (by kernel_rfl) ?_
        refine DW.q (v := nR bt n) (fun _ h => StP.sel h [0, 1] (by decide) rfl) rfl (qa_mv rfl) ?_
        refine DW.q (fun _ h => StP.sel h [0, 1] (by decide) rfl) rfl (qa_fa0 rfl) ?_
        refine DW.q (fun _ h => StP.sel h [0, 1] (by decide) rfl) rfl (qa_ld rfl (Cell.blk 1 rfl rfl)) ?_
        refine DW.q (v := .int .i64 v) (fun _ h => StP.sel h [0, 1] (by decide) rfl) rfl (qa_mv rfl) ?_
        refine DW.q (fun _ h => StP.sel h [0, 1] (by decide) rfl) rfl (qa_fa0 rfl) ?_
        refine DW.q (v := b.lv) (fun _ h => StP.sel h [0, 1] (by decide) rfl) rfl (qa_ld rfl (Cell.phi q34)) ?_
        refine DW.q (fun _ h => StP.sel h [0, 1] (by decide) rfl) rfl (qa_fa0 rfl) ?_
        refine DW.q (fun _ h => StP.sel h [0, 1] (by decide) rfl) rfl (qa_ld rfl (Cell.blk 1 rfl rfl)) ?_
        refine DW.q (v := .pointer (some (Value.at b.lv (m * 18)))) (fun _ h => StP.sel h [0, 1] (by decide) rfl) rfl (qa_ixN (n := n) (i := m) rfl (by show Value.int .i64 _ = _; rw [hm]) hls hmn) ?_
        refine DW.q (fun _ h => StP.sel h [0, 1] (by decide) rfl) rfl (qa_fat rfl) ?_
        refine DW.q (v := .int .i64 (ps.getD m 0)) (fun _ h => StP.sel h [0, 1] (by decide) rfl) rfl (qa_ld rfl (Cell.phi (hpos m (by omega)))) ?_
        refine DW.q (v := .int .i64 (Mn.clampI v 0 (ps.getD m 0))) (fun _ h => StP.sel h [0, 1] (by decide) rfl) rfl (q_call (args := #[.int .i64 v, .int .i64 0, .int .i64 (ps.getD m 0)]) oK rfl rfl (fun w1 hw1 => fClamp_c w1)) ?_
        refine DW.q (v := .pointer (some (Value.at (nR bt n) (m * 1)))) (fun _ h => StP.sel h [0, 1] (by decide) rfl) rfl (qa_ixN (n := n) (i := m) rfl (by show Value.int .i64 _ = _; rw [hm]) (isSl_mk (Nat.le_refl _)) hmn) ?_
        refine DW.effn (J' := St ⟨w, Φ, []⟩ Φ3 [xB x (xY b fA fc r cA cc yf f.Hour) u3 0 k3, .blk b9 73 (rX r i Aa ca Ab cb), .row (nR bt n) 3 1 n ((T.set m (Mn.clampI v 0 (ps.getD m 0))).map (Value.int .i64)), .row (nR bq n) 4 1 n ((S.set m true).map Value.bool), .blk b6 45 zO]) (fun h => absurd rfl h) (e_storeRow (n := 0) 2 rfl rfl rfl sz3 rfl rfl (by rw [List.length_map]; omega) (by rw [Nat.mul_one]; exact splice_map (by omega)) rfl) ?_
        repeat refine gs1 ?_
        refine Post.back (s' := _) (J' := _) (m' := _) (by omega) ⟨i + 1, S.set m true, T.set m (Mn.clampI v 0 (ps.getD m 0)), u3, k3, rfl, rfl, rfl, by omega, by rw [List.length_set]; exact hSl, by rw [List.length_set]; exact hTl, fun t ht => by
          rcases List.mem_or_eq_of_mem_set ht with ht | rfl
          · exact hTi t ht
          · exact Mn.clampI_i hvi (I64.nat (n := 0) (by omega)) (hpi _ (by rw [gDD, List.getElem?_eq_getElem (by omega)]; exact List.getElem_mem _)), ?_⟩ ⟨rfl, rfl, rfl, rfl, rfl, rfl, rfl, trivial⟩ (fun _ h => StP.sel h [0, 2, 3, 4] (by decide) rfl)
        rcases hz with ⟨h1, h2⟩ | ⟨h1, h2, h3⟩ | ⟨h1, h2, _, h3⟩
        · exact absurd rfl h1
        · rw [h3] at hst2
          exact .inl ⟨h2, hu3 h2, hst2⟩
        · rw [h3] at hst2
          exact .inr ⟨h2, hst2.symm⟩
  have h : ¬ (i < r.Clauses.length ∧ k = 0) := fun hh => by simp [hh.1, hh.2] at h
  repeat refine gs1 ?_
  refine AW.cond rfl (fun hk => ?_) fun hk => ?_
  · have hk : k ≠ 0 := by simpa using hk
    have hr : res = .error (k, u) := hst.elim (fun h => absurd h.1 hk) fun h => h.2
    rw [hr] at hD
    rw [hD]
    repeat refine gs1 ?_
    refine AW.drawZ (J0 := St ⟨w, Φ, []⟩ Φ3 [xB x (xY b fA fc r cA cc yf f.Hour) u 0 k, .row (nR bt n) 3 1 n (T.map (Value.int .i64)), .row (nR bq n) 4 1 n (S.map Value.bool), .blk b6 45 zO]) [.q, .q, .q, .q, .q, .q, .q, .q, .q, .e] [0, 1, 2, 3, 4, 5, 6, 7, 8, 9] hmix (by kernel_rfl) ?_
    repeat refine gs1 ?_
    refine DW.q (v := .agg (orC (.slice none 0 0) u k).toArray) (fun _ h => h) rfl (q_build (vals := [(1, .int .i64 u), (2, .int .i64 k)]) zero45 Tryz.underlying45 places45 rfl rfl) ?_
    refine DW.effn (J' := St ⟨w, Φ, []⟩ Φ3 [xB x (xY b fA fc r cA cc yf f.Hour) u 0 k, .row (nR bt n) 3 1 n (T.map (Value.int .i64)), .row (nR bq n) 4 1 n (S.map Value.bool), .blk b6 45 (orC (.slice none 0 0) u k)]) (fun h => absurd rfl h) (e_store (v := .agg (orC (.slice none 0 0) u k).toArray) 3 rfl rfl rfl sz45 rfl rfl rfl rfl rfl) ?_
    repeat refine gs1 ?_
    exact fin_res (vs := [.agg (orC (.slice none 0 0) u k).toArray]) rfl rfl ⟨.agg rfl rfl (Cells.blk 3 rfl), trivial⟩ rfl (fun w1 hw1 => ⟨_, rfl, hw1.below rfl, .slice none 0 0, rfl, repSl_nil⟩)
  have hk : k = 0 := by simpa using hk
  subst hk
  have h : i = r.Clauses.length := by omega
  subst h
  obtain ⟨hu, hcl⟩ := hst.elim (fun h => h.2) fun h => absurd rfl h.1
  rw [List.drop_length] at hcl
  have hD : Mn.runR ps r f = ⟨Mn.cmds S T, u, 0⟩ := by rw [hD, ← hcl]; rfl
  rw [hD]
  repeat refine gs1 ?_
  refine RW.q (v := .agg (orC (.slice none 0 0) u 0).toArray) rfl (q_build (vals := [(1, .int .i64 u)]) zero45 Tryz.underlying45 places45 rfl rfl) ?_
  repeat refine gs1 ?_
  refine RW.alc rfl fun o => ?_
  repeat refine gs1 ?_
  refine AW.loop (fun s J q => ∃ (k : Nat) (cv : Value) (c : List (Int × Int)), s = [(6, pB b6), (9, nR bq n), (10, nR bt n), (14, pB o), (15, .int .i64 (k : Int))] ∧ J = St ⟨w, Φ, []⟩ Φ3 [.blk o 45 (orC cv u 0), .row (nR bt n) 3 1 n (T.map (Value.int .i64)), .row (nR bq n) 4 1 n (S.map Value.bool), .blk b6 45 zO, .row cv 49 2 c.length (flat c)] ∧ q = n - k ∧ k ≤ n ∧ IsSl cv c.length ∧ c.length ≤ k ∧ c = cmdsTo S T k) (s0 := [(6, pB b6), (9, nR bq n), (10, nR bt n), (14, pB o), (15, .int .i64 ((0 : Nat) : Int))]) (J1 := _) (m0 := _) ⟨0, .slice none 0 0, [], rfl, rfl, rfl, Nat.zero_le _, isSl_nil, Nat.le_refl _, rfl⟩ ⟨rfl, rfl, rfl, rfl, rfl, trivial⟩ (fun _ h => StP.sel (addNil (T := 49) (sz := 2) h) [1, 3, 4, 5, 0] (by decide) rfl) ?_
  rintro _ _ _ _ ⟨k, cv, c, rfl, rfl, rfl, hk, hcv, hck, hcm⟩
  repeat refine gs1 ?_
  refine AW.cond rfl (fun h => ?_) fun h => ?_
  · have h : k < n := by have := odT h; omega
    have hcS : ∀ {B : Bs} {C : List Chunk} (j : Nat), C[j]? = some (.row (nR bq n) 4 1 n (S.map Value.bool)) → Cell (St B Φ3 C) (Value.at (nR bq n) (k * 1)) (.bool (S.getD k false)) := fun j hj => Cell.row j hj (by rw [Nat.mul_one, List.getElem?_map, gDD, List.getElem?_eq_getElem (by omega)]; rfl)
    have hcT : ∀ {B : Bs} {C : List Chunk} (j : Nat), C[j]? = some (.row (nR bt n) 3 1 n (T.map (Value.int .i64))) → Cell (St B Φ3 C) (Value.at (nR bt n) (k * 1)) (.int .i64 (T.getD k 0)) := fun j hj => Cell.row j hj (by rw [Nat.mul_one, List.getElem?_map, gDD, List.getElem?_eq_getElem (by omega)]; rfl)
    repeat refine gs1 ?_
    refine RW.q (v := .bool (S.getD k false)) rfl (qa_ld rfl (hcS 2 rfl)) ?_
    repeat refine gs1 ?_
    refine AW.cond rfl (fun hs => ?_) fun hs => ?_
    · have hc1 : cmdsTo S T (k + 1) = c ++ [((k : Int), T.getD k 0)] := by rw [hcm, cmdsTo_snoc, if_pos hs]
      have hne : c.length + 1 ≤ n := by omega
      obtain ⟨cA2, cc2, rfl, _⟩ := hcv
      repeat refine gs1 ?_
      have hj : ∀ (w1 : World) (cv2 : Value) (c2 : List (Int × Int)), StP ⟨w, Φ, []⟩ Φ3 [.blk o 45 (orC (.slice cA2 c.length cc2) u 0), .row (nR bt n) 3 1 n (T.map (Value.int .i64)), .row (nR bq n) 4 1 n (S.map Value.bool), .blk b6 45 zO, .row cv2 49 2 c2.length (flat c2)] w1 → StP ⟨w, Φ, []⟩ Φ3 [.blk o 45 (orC (.slice cA2 c.length cc2) u 0), .row (nR bt n) 3 1 n (T.map (Value.int .i64))] w1 := fun w1 cv2 c2 h => StP.sel h [0, 1] (by decide) rfl
      refine AW.drawZ (J0 := St ⟨w, Φ, []⟩ Φ3 [.blk o 45 (orC (.slice cA2 c.length cc2) u 0), .row (nR bt n) 3 1 n (T.map (Value.int .i64))]) [.q, .q, .q, .q, .q, .q, .q, .q, .e, .e, .q, .e] [0, 1, 2, 3, 4, 5, 6, 7, 8, 9, 10, 11] hmix (by kernel_rfl) ?_
      refine DW.q (fun w1 h => hj w1 _ _ h) rfl (qa_fa0 rfl) ?_
      refine DW.q (fun w1 h => hj w1 _ _ h) rfl (qa_ld rfl (Cell.blk 0 rfl rfl)) ?_
      refine DW.q (fun w1 h => hj w1 _ _ h) rfl (q_move rfl) ?_
      refine DW.q (fun w1 h => hj w1 _ _ h) rfl (q_move rfl) ?_
      refine DW.q (fun w1 h => hj w1 _ _ h) rfl (q_move rfl) ?_
      refine DW.q (v := .pointer (some (Value.at (nR bt n) (k * 1)))) (fun w1 h => hj w1 _ _ h) rfl (qa_ixN (n := n) (i := k) rfl rfl (isSl_mk (Nat.le_refl _)) h) ?_
      refine DW.q (v := .int .i64 (T.getD k 0)) (fun w1 h => hj w1 _ _ h) rfl (qa_ld rfl (hcT 1 rfl)) ?_
      refine DW.q (v := .agg #[.int .i64 (k : Int), .int .i64 (T.getD k 0)]) (fun w1 h => hj w1 _ _ h) rfl (q_build (vals := [(0, .int .i64 (k : Int)), (1, .int .i64 (T.getD k 0))]) zero49 Tryz.underlying49 places49 rfl rfl) ?_
      refine DW.eff _ _ (fun _ _ _ h => StP.sel h [1, 2] (by decide) rfl) rfl (e_buildSlice (vals := [(0, .agg #[.int .i64 (k : Int), .int .i64 (T.getD k 0)])]) (cells := [.int .i64 (k : Int), .int .i64 (T.getD k 0)]) Tryz.underlying42 inf49 rfl rfl rfl (by kernel_rfl) rfl) fun b8 => ?_
      refine DW.eff (fun xv : {vq : Value // IsSl vq (c.length + 1)} => xv.1) (fun xv => St ⟨w, Φ, []⟩ Φ3 [.row (.slice (some ⟨b8, 0, none⟩) 1 1) 49 2 1 [.int .i64 (k : Int), .int .i64 (T.getD k 0)], .blk o 45 (orC (.slice cA2 c.length cc2) u 0), .row (nR bt n) 3 1 n (T.map (Value.int .i64)), .row (nR bq n) 4 1 n (S.map Value.bool), .blk b6 45 zO, .row xv.1 49 2 (c.length + 1) (flat c ++ [.int .i64 (k : Int), .int .i64 (T.getD k 0)])]) (fun _ _ _ h => StP.sel h [1, 2] (by decide) rfl) rfl (e_append 5 rfl rfl rfl Tryz.underlying42 inf49 rfl rfl rfl (Cells.row0 0 rfl) rfl (by omega) (by omega) (fun _ => rfl)) ?_
      rintro ⟨kv2, hkv2⟩
      refine DW.q (fun _ h => StP.sel h [1, 2] (by decide) rfl) rfl (qa_fa0 rfl) ?_
      refine DW.effn (J' := St ⟨w, Φ, []⟩ Φ3 [.row (.slice (some ⟨b8, 0, none⟩) 1 1) 49 2 1 [.int .i64 (k : Int), .int .i64 (T.getD k 0)], .blk o 45 (orC kv2 u 0), .row (nR bt n) 3 1 n (T.map (Value.int .i64)), .row (nR bq n) 4 1 n (S.map Value.bool), .blk b6 45 zO, .row kv2 49 2 (c.length + 1) (flat c ++ [.int .i64 (k : Int), .int .i64 (T.getD k 0)])]) (fun h => absurd rfl h) (e_storeSl (v := kv2) 1 rfl rfl rfl hkv2 sz42 rfl rfl rfl) ?_
      repeat refine gs1 ?_
      exact Post.back (s' := _) (J' := _) (m' := _) (by omega) ⟨k + 1, kv2, c ++ [((k : Int), T.getD k 0)], rfl, rfl, rfl, by omega, by rw [List.length_append]; exact hkv2, by rw [List.length_append]; simp; omega, hc1.symm⟩ ⟨rfl, rfl, rfl, rfl, rfl, trivial⟩ (fun _ h => by rw [List.length_append, flat_append]; exact StP.sel h [1, 2, 3, 4, 5] (by decide) rfl)
    · have hc1 : cmdsTo S T (k + 1) = c := by rw [hcm, cmdsTo_snoc, if_neg (by rw [hs]; simp), List.append_nil]
      repeat refine gs1 ?_
      exact Post.back (s' := _) (J' := _) (m' := _) (by omega) ⟨k + 1, cv, c, rfl, rfl, rfl, by omega, hcv, by omega, hc1.symm⟩ ⟨rfl, rfl, rfl, rfl, rfl, trivial⟩ (fun _ h => h)
  have h : k = n := by have := odF h; omega
  subst h
  obtain ⟨cA2, cc2, rfl, _⟩ := hcv
  repeat refine gs1 ?_
  have hce : Mn.cmds S T = c := by rw [hcm]; unfold Mn.cmds cmdsTo; rw [hSl]
  rw [hce]
  exact fin_res (vs := [.agg (orC (.slice cA2 c.length cc2) u 0).toArray]) rfl rfl ⟨.agg rfl rfl (Cells.blk 3 rfl), trivial⟩ rfl (fun w1 hw1 => ⟨_, rfl, hw1.below rfl, .slice cA2 c.length cc2, rfl, RowS.repE evenCmd (row_ext hw1 4 rfl) rfl (by show c.length * 16 ≤ maxSl; simp only [maxSl]; omega) (fun z hz => cmdsTo_i hTi k (by omega) z (by rw [← hcm]; exact hz))⟩)
end Go.Proofs.YtnfmjfheciihjaaGreatDoor
namespace Ru
open Bt
def env0 : Env := ⟨[[108, 97, 107, 101], [98, 114, 111, 111, 107]], [[112, 117, 98, 108, 105, 99]], [[103, 49], [103, 50]], [[111, 108, 100, 116, 111, 119, 110]]⟩
def srcA : List UInt8 := [119, 104, 101, 110, 32, 118, 111, 108, 117, 109, 101, 40, 108, 97, 107, 101, 41, 32, 62, 32, 49, 48, 32, 116, 104, 101, 110, 32, 115, 101, 116, 32, 103, 49, 32, 116, 111, 32, 57, 10, 119, 104, 101, 110, 32, 116, 114, 117, 101, 32, 116, 104, 101, 110, 32, 115, 101, 116, 32, 103, 49, 32, 116, 111, 32, 49, 10, 119, 104, 101, 110, 32, 116, 114, 117, 101, 32, 116, 104, 101, 110, 32, 115, 101, 116, 32, 103, 50, 32, 116, 111, 32, 48, 32, 45, 32, 53, 10]
def srcB : List UInt8 := [100, 101, 102, 32, 102, 40, 110, 58, 32, 105, 110, 116, 41, 58, 32, 98, 111, 111, 108, 32, 61, 32, 102, 40, 110, 41, 10, 119, 104, 101, 110, 32, 102, 40, 49, 41, 32, 116, 104, 101, 110, 32, 115, 101, 116, 32, 103, 49, 32, 116, 111, 32, 49, 10]
def lit (n : Int) : Expr := ⟨0, n, 0, 0, []⟩
def tru : Expr := ⟨10, 0, 0, 0, [lit 0, lit 0]⟩
def ruleA : Rule := ⟨[], [⟨⟨8, 0, 0, 0, [lit 10, ⟨1, 0, 0, 0, []⟩]⟩, 0, lit 9⟩, ⟨tru, 0, lit 1⟩, ⟨tru, 1, ⟨5, 0, 0, 0, [lit 0, lit 5]⟩⟩]⟩
def ruleB : Rule := ⟨[⟨[102], [0], 1, ⟨14, 0, 0, 0, [⟨15, 0, 0, 0, []⟩]⟩⟩], [⟨⟨14, 0, 0, 0, [lit 1]⟩, 0, lit 1⟩]⟩
end Ru
namespace Mn
open Bt Ru
def fctA (n : Int) : Facts := ⟨[n], [], [], [], 0, []⟩
def fct0 : Facts := ⟨[], [], [], [], 0, []⟩
theorem run_A1 : run env0 [4, 2] ruleA (fctA 11) = ⟨[(0, 4), (1, 0)], 3, 0⟩ := by kernel_rfl
theorem run_A2 : run env0 [4, 2] ruleA (fctA 10) = ⟨[(0, 1), (1, 0)], 3, 0⟩ := by kernel_rfl
theorem run_B : run env0 [4, 2] ruleB fct0 = ⟨[], 102, 8⟩ := by kernel_rfl
end Mn
namespace Go.Proofs.YtnfmjfheciihjaaGreatDoor
open Go Go.K Go.RowKit
open Ru (pB NmS BasV)
attribute [local irreducible] AW RW DW Post Qt
theorem eqF49 (a b c d : Int) (n : Nat) (w : World) : (Op.eqFields (n + 1) #[iV a, iV b] #[iV c, iV d] (pg.fieldsOf 49).toList).run pg w = .ok (decide (a = c) && decide (b = d)) w := by
 unfold Program.fieldsOf
 rw [uT49]
 have hp : ∀ {cs : Array Value} {o : Nat} {v : Value} (h : cs[o]? = some v) (w : World), (part 3 cs o).run pg w = .ok v w := fun h w => run_part1 uT3 rfl h w
 have hq : ∀ (x y : Int) (w : World), (Op.equalIn (n + 1) 3 (iV x) (iV y)).run pg w = .ok (x == y) w := fun x y w => run_equalIn_int w n 3 .i64 .i64 x y uT3
 simp only [Op.eqFields, ne_eq, String.reduceEq, not_false_eq_true, if_true, Sem.run_bind, hp (show #[Value.int .i64 a, Value.int .i64 b][0]? = some (iV a) from rfl), hp (show #[Value.int .i64 c, Value.int .i64 d][0]? = some (iV c) from rfl), hp (show #[Value.int .i64 a, Value.int .i64 b][1]? = some (iV b) from rfl), hp (show #[Value.int .i64 c, Value.int .i64 d][1]? = some (iV d) from rfl), hq, Result.andThen_ok, Sem.run_ite, Sem.run_pure]
 by_cases h1 : a = c <;> by_cases h2 : b = d <;> simp [h1, h2]
theorem eqS49 (a b c d : Int) : ∀ w, (Op.equal 49 (.agg #[iV a, iV b]) (.agg #[iV c, iV d])).run pg w = .ok (decide (a = c) && decide (b = d)) w := fun w => by
 have hT : pg.underlying 49 = some (.struct (pg.fieldsOf 49)) := by unfold Program.fieldsOf; rw [uT49]
 show (Op.equalIn (9998 + 1 + 1) 49 _ _).run pg w = _
 rw [run_equalIn_struct w (9998 + 1) 49 _ _ hT (by kernel_rfl)]
 exact eqF49 a b c d 9998 w
theorem eqG49 : Program.eqGuardType pg pg.depth 49 = false := by kernel_rfl
theorem RowS.pc {Φ : Hp} {v : Value} {T sz n : Nat} {xs : List Value} (h : RowS Φ v T sz n xs) {k : Nat} {x : Value} (hx : xs[k]? = some x) : PCell Φ (Value.at v k) x := by
 obtain ⟨hl, hs⟩ := h
 have hk : k < xs.length := (List.getElem?_eq_some_iff.1 hx).1
 rcases hs with ⟨rfl, rfl⟩ | ⟨g, cap, cur, rfl, h2, h3, h4, h5, h6⟩
 ·
  omega
 ·
  have ha : Value.at (.slice (some ⟨g, 0, none⟩) n cap) k = ⟨g, k, none⟩ := by
   simp only [Value.at, Addr.add]; split <;> simp_all
  rw [ha]
  refine ⟨cur, T, (0, 0), h2, rfl, ?_⟩
  rw [← h6] at hx
  simp only [List.getElem?_take] at hx
  split at hx
  ·
   simpa using hx
  ·
   cases hx
abbrev sV (l : List UInt8) : Value := .string (bs l)
abbrev plC (nm : List UInt8) : List Value := [sV nm, iV 0, iV 0, iV 0, .slice none 0 0, .slice none 0 0, iV 0, iV 0, iV 0, iV 0, iV 0, .slice none 0 0]
abbrev lkC (nm : List UInt8) (p : Int) : List Value := [sV nm, iV 0, iV 0, iV 0, .slice none 0 0, .slice none 0 0, .slice none 0 0, iV p, iV 0, iV 0, iV 0, iV 0, iV 0, iV 0, iV 0, iV 0, iV 0, iV 0]
abbrev tnC (nm : List UInt8) : List Value := [sV nm, iV 0, iV 0, iV 0, iV 0, iV 0, iV 0]
theorem nms1 {Φ : Hp} {v : Value} {T sz : Nat} {xs : List Value} {a : List UInt8} (h : RowS Φ v T sz 1 xs) (h1 : xs[0]? = some (sV a)) (ha : a.length ≤ maxLen) : NmS Φ v sz [a] := ⟨h.isSl, fun i hi => by
 obtain rfl : i = 0 := by simpa using hi
 rw [Nat.zero_mul]; exact RowS.pc h h1, fun n hn => by
 obtain rfl : n = a := by simpa using hn
 exact ha, by simp⟩
theorem nms2 {Φ : Hp} {v : Value} {T sz : Nat} {xs : List Value} {a b : List UInt8} (h : RowS Φ v T sz 2 xs) (h1 : xs[0]? = some (sV a)) (h2 : xs[sz]? = some (sV b)) (ha : a.length ≤ maxLen) (hb : b.length ≤ maxLen) : NmS Φ v sz [a, b] := ⟨h.isSl, fun i hi => by
 match i, hi with
 | 0, _ => rw [Nat.zero_mul]; exact RowS.pc h h1
 | 1, _ => rw [Nat.one_mul]; exact RowS.pc h h2, fun n hn => by
 rcases (by simpa using hn : n = a ∨ n = b) with rfl | rfl
 ·
  exact ha
 ·
  exact hb, by simp⟩
abbrev plK (z : Nat × Nat × Nat × Nat) : List Chunk := [.row (nR z.2.2.1 2) 58 18 2 (lkC [103, 49] 4 ++ lkC [103, 50] 2), .row (nR z.2.2.2 1) 94 7 1 (tnC [111, 108, 100, 116, 111, 119, 110]), .row (nR z.2.1 2) 92 12 2 (plC [108, 97, 107, 101] ++ plC [98, 114, 111, 111, 107]), .row (nR z.1 1) 9 1 1 [sV [112, 117, 98, 108, 105, 99]]]
abbrev plB (z : Nat × Nat × Nat × Nat) : BasV := ⟨[], nR z.1 1, 0, nR z.2.1 2, nR z.2.2.1 2, nR z.2.2.2 1, .slice none 0 0, .slice none 0 0, .slice none 0 0, .slice none 0 0, 0⟩
theorem plainM_c (w : World) : Calls pg 14 #[] w (MkR w (fun z => .agg (plB z).cs.toArray) plK) := by
 refine calls_of_AW (args := []) Tryz.func14 rfl (lBT rfl) (St ⟨w, hp w, []⟩ (hp w) []) (StP.init w (hp w) (Hp.le_refl _) []) ?_
 show AW _ _ [] _ _ _ [] _
 repeat refine gs1 ?_
 refine RW.alc rfl fun b0 => ?_
 repeat refine gs1 ?_
 refine RW.eff _ _ rfl (e_buildSlice (vals := [(0, sV [112, 117, 98, 108, 105, 99])]) (cells := [sV [112, 117, 98, 108, 105, 99]]) uT22 inf9 rfl rfl rfl (by kernel_rfl) rfl) fun b1 => (RW.q (v := .agg (plC [108, 97, 107, 101]).toArray) rfl (q_build (vals := [(0, sV [108, 97, 107, 101])]) zero92 uT92 places92 rfl rfl) (RW.q (v := .agg (plC [98, 114, 111, 111, 107]).toArray) rfl (q_build (vals := [(0, sV [98, 114, 111, 111, 107])]) zero92 uT92 places92 rfl rfl) (RW.eff _ _ rfl (e_buildSlice (vals := [(0, .agg (plC [108, 97, 107, 101]).toArray), (1, .agg (plC [98, 114, 111, 111, 107]).toArray)]) (cells := plC [108, 97, 107, 101] ++ plC [98, 114, 111, 111, 107]) uT23 inf92 rfl rfl rfl (by kernel_rfl) rfl) fun b4 => (RW.q (v := .agg (lkC [103, 49] 4).toArray) rfl (q_build (vals := [(0, sV [103, 49]), (6, iV 4)]) zero58 uT58 places58 rfl rfl) (RW.q (v := .agg (lkC [103, 50] 2).toArray) rfl (q_build (vals := [(0, sV [103, 50]), (6, iV 2)]) zero58 uT58 places58 rfl rfl) (RW.eff _ _ rfl (e_buildSlice (vals := [(0, .agg (lkC [103, 49] 4).toArray), (1, .agg (lkC [103, 50] 2).toArray)]) (cells := lkC [103, 49] 4 ++ lkC [103, 50] 2) uT24 inf58 rfl rfl rfl (by kernel_rfl) rfl) fun b7 => (RW.q (v := .agg (tnC [111, 108, 100, 116, 111, 119, 110]).toArray) rfl (q_build (vals := [(0, sV [111, 108, 100, 116, 111, 119, 110])]) zero94 uT94 places94 rfl rfl) (RW.eff _ _ rfl (e_buildSlice (vals := [(0, .agg (tnC [111, 108, 100, 116, 111, 119, 110]).toArray)]) (cells := tnC [111, 108, 100, 116, 111, 119, 110]) uT25 inf94 rfl rfl rfl (by kernel_rfl) rfl) fun b9 => (RW.q (v := .agg (plB (b1, b4, b7, b9)).cs.toArray) rfl (q_build (vals := [(1, nR b1 1), (3, nR b4 2), (4, nR b7 2), (5, nR b9 1)]) zero31 uT31 places31 rfl rfl) ?_)))))))))
 refine RW.wk (J' := St ⟨w, hp w, []⟩ (hp w) (.blk b0 31 [.string (bs []), .slice none 0 0, iV 0, .slice none 0 0, .slice none 0 0, .slice none 0 0, .slice none 0 0, .slice none 0 0, .slice none 0 0, .slice none 0 0, iV 0] :: plK (b1, b4, b7, b9))) (fun _ h => StP.sel h [4, 1, 0, 2, 3] (by decide) rfl) (RW.effn (J' := St ⟨w, hp w, []⟩ (hp w) (.blk b0 31 (plB (b1, b4, b7, b9)).cs :: plK (b1, b4, b7, b9))) (e_store (v := .agg (plB (b1, b4, b7, b9)).cs.toArray) 0 rfl rfl rfl sz31 rfl rfl rfl rfl rfl) ?_)
 repeat refine gs1 ?_
 exact fin_res (vs := [.agg (plB (b1, b4, b7, b9)).cs.toArray]) rfl rfl ⟨.agg rfl rfl (Cells.blk 0 rfl), trivial⟩ rfl (fun w' hw => ⟨(b1, b4, b7, b9), rfl, StP.sel hw [1, 2, 3, 4] (by decide) rfl⟩)
structure PlR (Ψ : Hp) (b : BasV) (z : Nat × Nat × Nat × Nat) : Prop where
 e : b = plB z
 o : RowS Ψ (nR z.1 1) 9 1 1 [sV [112, 117, 98, 108, 105, 99]]
 p : RowS Ψ (nR z.2.1 2) 92 12 2 (plC [108, 97, 107, 101] ++ plC [98, 114, 111, 111, 107])
 l : RowS Ψ (nR z.2.2.1 2) 58 18 2 (lkC [103, 49] 4 ++ lkC [103, 50] 2)
 t : RowS Ψ (nR z.2.2.2 1) 94 7 1 (tnC [111, 108, 100, 116, 111, 119, 110])
theorem plain_c (w : World) (Φ : Hp) (_ : Hp.le Φ (hp w)) : Calls pg 14 #[] w (RetS Φ w fun v Ψ => ∃ (b : BasV) (z : Nat × Nat × Nat × Nat), v = .agg b.cs.toArray ∧ b.ok Ψ Ru.env0 ∧ PosS Ψ b.lv [4, 2] ∧ b.cs.all Value.oneCell' = true ∧ PlR Ψ b z) := (plainM_c w).mono fun e w' hh => by
 obtain ⟨z, rfl, hw⟩ := hh
 have r3 := row_ext (Φr := Φ) hw 0 rfl
 refine ⟨_, rfl, hw.below rfl, plB z, z, rfl, ⟨nms1 (row_ext hw 3 rfl) rfl (by decide), nms2 (row_ext hw 2 rfl) rfl rfl (by decide) (by decide), nms2 r3 rfl rfl (by decide) (by decide), nms1 (row_ext hw 1 rfl) rfl (by decide)⟩, fun i hi => ?_, rfl, rfl, row_ext hw 3 rfl, row_ext hw 2 rfl, r3, row_ext hw 1 rfl⟩
 match i, hi with
 | 0, _ => exact RowS.pc r3 (k := 7) rfl
 | 1, _ => exact RowS.pc r3 (k := 25) rfl
def _root_.Mn.sameO (a b : Bt.Order) : Bool := decide (a.Used = b.Used) && decide (a.Fault = b.Fault) && decide (a.Cmds = b.Cmds)
theorem oSame_c (w : World) {a b : Bt.Order} {v1 v2 : Value} (h1 : RepSl (hp w) a.Cmds v1) (h2 : RepSl (hp w) b.Cmds v2) :
  Calls pg 10 #[.agg (orC v1 a.Used a.Fault).toArray, .agg (orC v2 b.Used b.Fault).toArray] w fun e w' => e = .returned (.bool (Mn.sameO a b)) ∧ Bel w.heap.size w w' := by
 obtain ⟨A1, c1, rfl, _⟩ := h1.sl
 obtain ⟨A2, c2, rfl, _⟩ := h2.sl
 have s1 := h1.sl
 have s2 := h2.sl
 have m1 := h1.max
 simp only [Rep.bytes, maxSl] at m1
 refine calls_of_AW (args := [.agg (orC (.slice A1 a.Cmds.length c1) a.Used a.Fault).toArray, .agg (orC (.slice A2 b.Cmds.length c2) b.Used b.Fault).toArray]) Tryz.func10 rfl (lBT rfl) (St ⟨w, hp w, []⟩ (hp w) []) (StP.init w (hp w) (Hp.le_refl _) []) ?_
 show AW _ _ [] _ _ _ [(0, .agg (orC (.slice A1 a.Cmds.length c1) a.Used a.Fault).toArray), (1, .agg (orC (.slice A2 b.Cmds.length c2) b.Used b.Fault).toArray)] _
 repeat refine gs1 ?_
 refine RW.bxA (cs := orC (.slice A1 a.Cmds.length c1) a.Used a.Fault) rfl rfl fun b2 => ?_
 refine RW.bxA (cs := orC (.slice A2 b.Cmds.length c2) b.Used b.Fault) rfl rfl fun b3 => ?_
 repeat refine gs1 ?_
 refine RW.q (v := .bool ((!decide (a.Used = b.Used)) || !decide (a.Fault = b.Fault))) rfl (qpO rfl rfl rfl) ?_
 repeat refine gs1 ?_
 refine RW.g (b := ((!decide (a.Used = b.Used)) || !decide (a.Fault = b.Fault))) (v := iV (a.Cmds.length : Int)) rfl rfl rfl (fun h => q_len_sl (gv_pos h) s1 uT42) ?_
 repeat refine gs1 ?_
 refine RW.g (b := ((!decide (a.Used = b.Used)) || !decide (a.Fault = b.Fault))) (v := iV (b.Cmds.length : Int)) rfl rfl rfl (fun h => q_len_sl (gv_pos h) s2 uT42) ?_
 repeat refine gs1 ?_
 refine RW.q (v := .bool (((!decide (a.Used = b.Used)) || !decide (a.Fault = b.Fault)) || !decide ((a.Cmds.length : Int) = (b.Cmds.length : Int)))) rfl (qpO rfl rfl rfl) ?_
 repeat refine gs1 ?_
 refine AW.cond rfl (fun h => ?_) fun h => ?_
 ·
  repeat refine gs1 ?_
  exact fin_res (vs := [.bool false]) rfl rfl ⟨.tmp rfl, trivial⟩ rfl (fun w' hw => ⟨by
   have hz : Mn.sameO a b = false := by
    unfold Mn.sameO
    by_cases h1 : a.Used = b.Used
    ·
     by_cases h2 : a.Fault = b.Fault
     ·
      have : a.Cmds ≠ b.Cmds := fun he => by simp [h1, h2, he] at h
      simp [this]
     ·
      simp [h2]
    ·
     simp [h1]
   rw [hz]; rfl, hw.below rfl⟩)
 have h : (a.Used = b.Used ∧ a.Fault = b.Fault) ∧ a.Cmds.length = b.Cmds.length := by
  simp at h; exact ⟨⟨h.1.1, h.1.2⟩, by omega⟩
 obtain ⟨⟨hu, hfl⟩, hlen⟩ := h
 repeat refine gs1 ?_
 refine AW.loop (fun s J q => ∃ i : Nat, s = [(2, pB b2), (3, pB b3), (5, iV (i : Int))] ∧ J = St ⟨w, hp w, []⟩ (hp w) [.blk b3 45 (orC (.slice A2 b.Cmds.length c2) b.Used b.Fault), .blk b2 45 (orC (.slice A1 a.Cmds.length c1) a.Used a.Fault)] ∧ q = a.Cmds.length - i ∧ i ≤ a.Cmds.length ∧ ∀ j, j < i → a.Cmds.getD j (0, 0) = b.Cmds.getD j (0, 0)) (s0 := [(2, pB b2), (3, pB b3), (5, iV ((0 : Nat) : Int))]) (J1 := _) (m0 := _) ⟨0, rfl, rfl, rfl, Nat.zero_le _, fun j hj => by omega⟩ ⟨rfl, rfl, rfl, trivial⟩ (fun _ h => h) ?_
 rintro _ _ _ _ ⟨i, rfl, rfl, rfl, hi, hall⟩
 repeat refine gs1 ?_
 refine AW.cond rfl (fun h => ?_) fun h => ?_
 ·
  have h : i < a.Cmds.length := by have := odT h; omega
  have hb : i < b.Cmds.length := by omega
  repeat refine gs1 ?_
  refine AW.drawZ (J0 := St ⟨w, hp w, []⟩ (hp w) [.blk b3 45 (orC (.slice A2 b.Cmds.length c2) b.Used b.Fault), .blk b2 45 (orC (.slice A1 a.Cmds.length c1) a.Used a.Fault)]) [.q, .q, .q, .q, .q, .q, .q, .q, .q, .q, .q] [0, 1, 2, 3, 4, 5, 6, 7, 8, 9, 10] hmix (by kernel_rfl) ?_
  repeat refine gs1 ?_
  refine DW.q (v := .agg #[iV (a.Cmds.getD i (0, 0)).1, iV (a.Cmds.getD i (0, 0)).2]) (fun _ h => h) rfl (qa_ldA (cs := [iV (a.Cmds.getD i (0, 0)).1, iV (a.Cmds.getD i (0, 0)).2]) rfl (Cells.repE h1 h rfl) rfl) ?_
  repeat refine gs1 ?_
  refine DW.q (v := .agg #[iV (b.Cmds.getD i (0, 0)).1, iV (b.Cmds.getD i (0, 0)).2]) (fun _ h => h) rfl (qa_ldA (cs := [iV (b.Cmds.getD i (0, 0)).1, iV (b.Cmds.getD i (0, 0)).2]) rfl (Cells.repE h2 hb rfl) rfl) (DW.q (v := .bool (!(decide ((a.Cmds.getD i (0, 0)).1 = (b.Cmds.getD i (0, 0)).1) && decide ((a.Cmds.getD i (0, 0)).2 = (b.Cmds.getD i (0, 0)).2)))) (fun _ h => h) rfl (q_neqS rfl rfl (eqS49 _ _ _ _) eqG49) ?_)
  repeat refine gs1 ?_
  refine AW.cond rfl (fun hc => ?_) fun hc => ?_
  ·
   repeat refine gs1 ?_
   exact fin_res (vs := [.bool false]) rfl rfl ⟨.tmp rfl, trivial⟩ rfl (fun w' hw => ⟨by
    have hz : Mn.sameO a b = false := by
     unfold Mn.sameO
     have : a.Cmds ≠ b.Cmds := fun he => by simp [he] at hc
     simp [this]
    rw [hz]; rfl, hw.below rfl⟩)
  ·
   have hc : a.Cmds.getD i (0, 0) = b.Cmds.getD i (0, 0) := by
    simp only [Bool.not_eq_false', Bool.and_eq_true, decide_eq_true_eq] at hc
    exact Prod.ext hc.1 hc.2
   repeat refine gs1 ?_
   exact Post.back (s' := _) (J' := _) (m' := _) (by omega) ⟨i + 1, rfl, rfl, rfl, by omega, fun j hj => by
    by_cases hji : j = i
    ·
     subst hji; exact hc
    ·
     exact hall j (by omega)⟩ ⟨rfl, rfl, rfl, trivial⟩ (fun _ h => h)
 ·
  have h : i = a.Cmds.length := by have := odF h; omega
  subst h
  repeat refine gs1 ?_
  exact fin_res (vs := [.bool true]) rfl rfl ⟨.tmp rfl, trivial⟩ rfl (fun w' hw => ⟨by
   have hz : Mn.sameO a b = true := by
    unfold Mn.sameO
    have : a.Cmds = b.Cmds := List.ext_getElem hlen fun i h1 h2 => by
     have := hall i h1
     rwa [gDD, gDD, List.getElem?_eq_getElem h1, List.getElem?_eq_getElem h2] at this
    simp [this, hu, hfl]
   rw [hz]; rfl, hw.below rfl⟩)
end Go.Proofs.YtnfmjfheciihjaaGreatDoor
