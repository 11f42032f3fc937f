/- Lemmas. Conditions: those of each theorem. -/
import Derived.Test.YtnfmjfheciihjaaGreatDoorYRuU
set_option maxRecDepth 8000
set_option maxHeartbeats 16000000
namespace Go.Proofs.YtnfmjfheciihjaaGreatDoor
open Go Go.K Go.RowKit
open Ru (tr trs pB nC TrF fC cC prC fnP clP Tl NmS BasV ixM wfH okT)
attribute [local irreducible] AW RW DW Post Qt
theorem tprogram_c (w : World) {Φ : Hp} {fs : List Bt.Fn} {cs : List Bt.Cl} {fv cv : Value} {l F m G : List Nat} {t : Nat} {a : Int} (hok : Ru.okR (fs, cs)) (hfr : RowS Φ fv 143 1 fs.length (l.map pB)) (hfl : fnP.L Φ fs l F) (hcr : RowS Φ cv 148 1 cs.length (m.map pB)) (hcl : clP.L Φ cs m G)
  (h0 : StP ⟨w, Φ, fps [tB fv cv t a]⟩ Φ [tB fv cv t a] w) : Calls pg 33 #[pB t] w (OwnU w Φ [tB fv cv t a] (fun _ : Unit => .tuple #[]) fun _ => [tB fv cv t (Ru.lstL a (Ru.tyP (fs, cs)))]) := by
 refine calls_of_AW (args := [pB t]) Tryz.func33 rfl (lBT rfl) (St ⟨w, Φ, fps [tB fv cv t a]⟩ Φ [tB fv cv t a]) h0 ?_
 show AW _ _ [] _ _ _ [(0, pB t)] _
 obtain ⟨hof, hoc, hnf, hnc⟩ := hok
 simp only at hof hoc hnf hnc
 have hC : FCtx Φ fs fv := ⟨⟨l, F, hfr, hfl⟩, hnf, fun f hf => (hof f hf).2.2⟩
 have hT := fun n => texpr_c (cv := cv) (t := t) hC n
 have hfv := hfr.isSl
 have hcv := hcr.isSl
 refine gR ?_
 refine AW.loop (fun s J g => ∃ i : Nat, s = [(0, pB t), (10, fv), (11, iV (fs.length : Int)), (12, iV (i : Int))] ∧ J = St ⟨w, Φ, fps [tB fv cv t a]⟩ Φ [tB fv cv t (Ru.lstL a ((fs.take i).flatMap fun f => Ru.wantB fs f.params f.body f.result))] ∧ g = fs.length - i ∧ i ≤ fs.length) (s0 := _) (J1 := _) (m0 := _) ⟨0, rfl, rfl, rfl, Nat.zero_le _⟩ ⟨rfl, rfl, rfl, rfl, trivial⟩ (fun _ h => h) ?_
 rintro _ _ _ _ ⟨i, rfl, rfl, rfl, hi⟩
 refine gR ?_
 refine AW.cond rfl (fun h => ?_) fun h => ?_
 ·
  have h : i < fs.length := by have := odT h; omega
  obtain ⟨bf, F1, hbf, pv, bd, G1, hb1, hb2, hb3, _⟩ := Ru.OP.Lget hfl i h
  obtain ⟨ho1, ho2, ho3⟩ := hof fs[i] (List.getElem_mem h)
  have pe : PCell Φ (Value.at fv (i * 1)) (pB bf) := Ru.RowS.cellP hfr (by rw [Nat.mul_one, List.getElem?_map, hbf]; rfl)
  have q4 : PCell Φ ⟨bf, 4, none⟩ (iV fs[i].result) := PCell.blk (cs := fC fs[i].name pv fs[i].result (pB bd)) hb1 rfl
  have q5 : PCell Φ ⟨bf, 5, none⟩ (pB bd) := PCell.blk (cs := fC fs[i].name pv fs[i].result (pB bd)) hb1 rfl
  have hfp : FP Φ fs[i].params (pB bf) := .inr ⟨bf, _, pv, _, bd, rfl, hb1, hb2⟩
  refine gR ?_
  refine AW.drawZ (J0 := St ⟨w, Φ, fps [tB fv cv t a]⟩ Φ [tB fv cv t (Ru.lstL a ((fs.take i).flatMap fun f => Ru.wantB fs f.params f.body f.result))]) (tq10 [.e]) od11 hmix (by kernel_rfl) ?_
  refine gR ?_
  refine DW.eff _ _ (fun hh => absurd rfl hh) rfl (e_ownU (args := #[pB t, pB bd, pB bf, iV fs[i].result]) (C2 := []) [0] (by decide) rfl oK rfl rfl (fun w1 hw1 => want_of (hT _) (Nat.le_refl _) ho2 ho1 hb3 hfp hw1)) fun _ => ?_
  refine gR ?_
  have e1 : (fs.take (i + 1)).flatMap (fun f => Ru.wantB fs f.params f.body f.result) = (fs.take i).flatMap (fun f => Ru.wantB fs f.params f.body f.result) ++ Ru.wantB fs fs[i].params fs[i].body fs[i].result := by rw [Ru.take_snoc h, List.flatMap_append, List.flatMap_cons, List.flatMap_nil, List.append_nil]
  exact Post.back (s' := _) (J' := _) (m' := _) (by omega) ⟨i + 1, rfl, rfl, rfl, by omega⟩ ⟨rfl, rfl, rfl, rfl, trivial⟩ (fun _ h => by rw [e1, Ru.lstL_app]; exact h)
 ·
  have h : i = fs.length := by have := odF h; omega
  subst h
  rw [List.take_length]
  generalize ha1 : Ru.lstL a (fs.flatMap fun f => Ru.wantB fs f.params f.body f.result) = a1
  refine gR ?_
  refine AW.loop (fun s J g => ∃ i : Nat, s = [(0, pB t), (32, cv), (33, iV (cs.length : Int)), (34, iV (i : Int))] ∧ J = St ⟨w, Φ, fps [tB fv cv t a]⟩ Φ [tB fv cv t (Ru.lstL a1 ((cs.take i).flatMap fun c => Ru.wantB fs [] c.cond 1 ++ Ru.wantB fs [] c.value 0))] ∧ g = cs.length - i ∧ i ≤ cs.length) (s0 := _) (J1 := _) (m0 := _) ⟨0, rfl, rfl, rfl, Nat.zero_le _⟩ ⟨rfl, rfl, rfl, rfl, trivial⟩ (fun _ h => h) ?_
  rintro _ _ _ _ ⟨i, rfl, rfl, rfl, hi⟩
  refine gR ?_
  refine AW.cond rfl (fun h => ?_) fun h => ?_
  ·
   have h : i < cs.length := by have := odT h; omega
   obtain ⟨bq, F1, hbq, bc, bv, G1, G2, hb1, hb2, hb3, _⟩ := Ru.OP.Lget hcl i h
   obtain ⟨ho1, ho2, ho3, ho4⟩ := hoc cs[i] (List.getElem_mem h)
   have pe : PCell Φ (Value.at cv (i * 1)) (pB bq) := Ru.RowS.cellP hcr (by rw [Nat.mul_one, List.getElem?_map, hbq]; rfl)
   have q3 : PCell Φ ⟨bq, 3, none⟩ (pB bc) := PCell.blk (cs := cC cs[i].link (pB bc) (pB bv)) hb1 rfl
   have q4 : PCell Φ ⟨bq, 4, none⟩ (pB bv) := PCell.blk (cs := cC cs[i].link (pB bc) (pB bv)) hb1 rfl
   have hfp : FP Φ [] (.pointer none) := .inl ⟨rfl, rfl⟩
   refine gR ?_
   refine RW.ownU (args := #[pB t, pB bc, .pointer none, iV 1]) (C2 := []) [0] (by decide) rfl rfl oK rfl rfl (fun w1 hw1 => want_of (ps := []) (hT _) (Nat.le_refl _) ho2 ho1 hb2 hfp hw1) fun _ => ?_
   refine gR ?_
   refine RW.ownU (args := #[pB t, pB bv, .pointer none, iV 0]) (C2 := []) [0] (by decide) rfl rfl oK rfl rfl (fun w1 hw1 => want_of (ps := []) (hT _) (Nat.le_refl _) ho4 ho3 hb3 hfp hw1) fun _ => ?_
   refine gR ?_
   have e1 : (cs.take (i + 1)).flatMap (fun c => Ru.wantB fs [] c.cond 1 ++ Ru.wantB fs [] c.value 0) = (cs.take i).flatMap (fun c => Ru.wantB fs [] c.cond 1 ++ Ru.wantB fs [] c.value 0) ++ (Ru.wantB fs [] cs[i].cond 1 ++ Ru.wantB fs [] cs[i].value 0) := by rw [Ru.take_snoc h, List.flatMap_append, List.flatMap_cons, List.flatMap_nil, List.append_nil]
   exact Post.back (s' := _) (J' := _) (m' := _) (by omega) ⟨i + 1, rfl, rfl, rfl, by omega⟩ ⟨rfl, rfl, rfl, rfl, trivial⟩ (fun _ h => by rw [e1, Ru.lstL_app, Ru.lstL_app]; exact h)
  ·
   have h : i = cs.length := by have := odF h; omega
   subst h
   rw [List.take_length]
   have e2 : Ru.lstL a1 (cs.flatMap fun c => Ru.wantB fs [] c.cond 1 ++ Ru.wantB fs [] c.value 0) = Ru.lstL a (Ru.tyP (fs, cs)) := by unfold Ru.tyP; rw [Ru.lstL_app, ← ha1]
   rw [e2]
   refine gR ?_
   exact fin_none (J' := St ⟨w, Φ, fps [tB fv cv t a]⟩ Φ [tB fv cv t (Ru.lstL a (Ru.tyP (fs, cs)))]) rfl rfl (fun _ h => h) (fun w1 hw1 => ⟨(), rfl, hw1⟩)
def RlV (Ψ : Hp) (r : Bt.Rule) (y : Value × Value) : Prop := RepSl Ψ r.Funcs y.1 ∧ RepSl Ψ r.Clauses y.2
abbrev ParR2 (w : World) (Φ : Hp) (x : Bt.Rule × Int × Int) : Ending → World → Prop := RetS Φ w fun v Ψ => ∃ y : Value × Value, v = .tuple #[.agg #[y.1, y.2], iV x.2.1, iV x.2.2] ∧ RlV Ψ x.1 y
theorem repSl_nil {α : Type} [Rep α] {Ψ : Hp} : RepSl Ψ ([] : List α) nS := ⟨isSl_nil, by show 0 * _ ≤ maxSl; rw [Nat.zero_mul]; exact Nat.zero_le _, fun i hi => by cases hi⟩
theorem parR2_err {w w' : World} {Φ Ψ : Hp} {C : List Chunk} {x : Bt.Rule × Int × Int} {k a : Int} (h : StP ⟨w, Φ, []⟩ Ψ C w') (hx : x = (default, k, a)) : ParR2 w Φ x (.returned (.tuple #[.agg [nS, nS].toArray, iV k, iV a])) w' := by
 subst hx
 exact ⟨_, rfl, h.below rfl, (nS, nS), rfl, repSl_nil, repSl_nil⟩
theorem rParse_c (w : World) (Φ : Hp) (hΦ : Hp.le Φ (hp w)) (hG : Knows Φ Glob) {b : BasV} {e : Ru.Env} (hb : b.ok Φ e) {l : List UInt8} (hl : l.length ≤ maxLen) :
  Calls pg 16 #[.agg b.cs.toArray, .string (bs l)] w (ParR2 w Φ (Ru.ruleParse e l)) := by
 refine calls_of_AW (args := [.agg b.cs.toArray, .string (bs l)]) Tryz.func16 rfl (lBT rfl) (St ⟨w, Φ, []⟩ Φ []) (StP.init w Φ hΦ []) ?_
 show AW _ _ [] _ _ _ [(0, .agg b.cs.toArray), (1, .string (bs l))] _
 refine gR ?_
 refine RW.bxA (cs := b.cs) rfl rfl fun b2 => ?_
 refine gR ?_
 refine RW.alc rfl fun b4 => ?_
 refine gR ?_
 refine RW.q rfl (q_lenS rfl uT9) ?_
 refine gR ?_
 refine AW.cond rfl (fun h0 => ?_) fun h0 => ?_
 ·
  have h0 : 8192 < l.length := by have := odT h0; omega
  refine gR ?_
  refine RW.q (v := .agg [nS, nS].toArray) rfl (q_build (vals := []) zero35 uT35 places35 rfl rfl) ?_
  refine gR ?_
  exact fin_res (vs := [.agg [nS, nS].toArray, iV 8, iV 0]) rfl rfl ⟨.agg rfl rfl (Cells.blk 0 rfl), .tmp rfl, .tmp rfl, trivial⟩ rfl (fun w1 hw1 => parR2_err hw1 (by unfold Ru.ruleParse; rw [if_pos h0]))
 have h0 : ¬ 8192 < l.length := by have := odF h0; omega
 refine gR ?_
 refine RW.eff _ _ rfl (e_callS (args := #[.string (bs l)]) oK rfl rfl (fun w1 hw1 => Scan_c w1 Φ hw1.phi hl)) ?_
 rintro ⟨⟨rv, Ψ⟩, ⟨tv, hrv, htv⟩, hlΨ⟩
 simp only at hrv htv hlΨ ⊢
 subst hrv
 refine gR ?_
 refine AW.cond rfl (fun h1 => ?_) fun h1 => ?_
 ·
  have h1 : (Lx.scan l).2.1 ≠ 0 := by simpa using h1
  refine gR ?_
  refine RW.q (v := .agg [nS, nS].toArray) rfl (q_build (vals := []) zero35 uT35 places35 rfl rfl) ?_
  refine gR ?_
  exact fin_res (vs := [.agg [nS, nS].toArray, iV (Lx.scan l).2.1, iV (Lx.scan l).2.2]) rfl rfl ⟨.agg rfl rfl (Cells.blk 0 rfl), .tmp rfl, .tmp rfl, trivial⟩ rfl (fun w1 hw1 => parR2_err hw1 (by unfold Ru.ruleParse; rw [if_neg h0, if_pos h1]))
 have h1 : (Lx.scan l).2.1 = 0 := by simpa using h1
 obtain ⟨hgood, hwf, hlen, _⟩ := Pa.scan_good h1
 have hln := Ru.scan_len h1
 have hgrow : ∀ {b o}, Φ b = some o → Ψ b = some o := fun h => hlΨ _ _ h
 have hGΨ : Knows Ψ Glob := hG.mono hlΨ
 generalize hts : (Lx.scan l).1 = ts at *
 have hok : Ru.okP 20000 (Ru.parse ts).1 := by
  have h := Ru.parse_sh hgood
  exact ⟨fun x hx => (h.1 x hx).mono (by omega), fun x hx => (h.2.1 x hx).mono (by omega), by have := h.2.2; omega⟩
 have hfr := Ru.parse_fr (P := fun a => 0 ≤ a) hgood (fun t ht => (hwf t ht).2.2.2.1)
 have hpc : PCtx Ψ ts tv := ⟨htv, hwf, hlen⟩
 refine gR ?_
 refine RW.own (args := #[tv]) (A := []) (C2 := [.blk b4 35 [.slice none 0 0, .slice none 0 0], .blk b2 31 b.cs]) [0, 1] (by decide) rfl rfl oK rfl rfl (fun w1 hw1 => parse_c w1 Ψ hw1.phi hGΨ hpc hgood) (fun er CE w2 he => nomatch he) ?_
 rintro x ⟨fv, cv, l1, F, m, G⟩ hx
 have hx : Ru.parse ts = x := by cases hx; rfl
 rw [hx] at hok hfr
 obtain ⟨⟨fs, cs⟩, code, at_⟩ := x
 simp only at hok hfr
 refine RW.use (φ := IsSl fv fs.length ∧ IsSl cv cs.length) (fun w1 hw1 => ⟨RowS.isSl (hw1.sAt 0 rfl), RowS.isSl (hw1.sAt 2 rfl)⟩) fun hsl => ?_
 obtain ⟨⟨fA, fc, rfl, hf1⟩, ⟨cA, cc, rfl, hc1⟩⟩ := hsl
 refine gR ?_
 refine RW.alc rfl fun b10 => ?_
 refine gR ?_
 refine AW.cond rfl (fun h2 => ?_) fun h2 => ?_
 ·
  have h2 : code ≠ 0 := by simpa using h2
  refine gR ?_
  refine RW.q (v := .agg [nS, nS].toArray) rfl (q_build (vals := []) zero35 uT35 places35 rfl rfl) ?_
  refine gR ?_
  exact fin_res (vs := [.agg [nS, nS].toArray, iV code, iV at_]) rfl rfl ⟨.agg rfl rfl (Cells.blk 5 rfl), .tmp rfl, .tmp rfl, trivial⟩ rfl (fun w1 hw1 => parR2_err hw1 (by unfold Ru.ruleParse; rw [if_neg h0, if_neg (by rw [h1]; simp), hts, hx, if_pos h2]))
 have h2 : code = 0 := by simpa using h2
 have hd : ∀ t ∈ Ru.trees (fs, cs), Ru.dep t ≤ 1000000 := fun t ht => by
  have hdn := Ru.dep_nn t
  rw [Ru.trees_eq] at ht
  rcases List.mem_append.1 ht with ht | ht
  ·
   obtain ⟨f, hf, rfl⟩ := List.mem_map.1 ht
   have := (hok.1 f hf).2.2.2; omega
  ·
   obtain ⟨c, hc, ht⟩ := List.mem_flatMap.1 ht
   have := hok.2.1 c hc
   simp only [Ru.clT, List.mem_cons, List.not_mem_nil, or_false] at ht
   rcases ht with rfl | rfl
   ·
    have := this.2.1; omega
   ·
    have := this.2.2.2; omega
 have hcnt : fs.length + cs.length ≤ 20000 := hok.2.2
 refine gR ?_
 refine RW.q (v := iV (Ru.tooDeep (fs, cs))) rfl (q_call (args := #[.agg #[.slice fA fs.length fc, .slice cA cs.length cc]]) oK rfl rfl (fun w1 hw1 => tooDeep_c w1 (x := (fs, cs)) (hw1.sAt 1 rfl) (hw1.sAt 2 rfl).1 (hw1.sAt 3 rfl) (hw1.sAt 4 rfl).1 hd (by simp only; omega))) ?_
 refine gR ?_
 refine AW.cond rfl (fun h3 => ?_) fun h3 => ?_
 ·
  have h3 : 0 ≤ Ru.tooDeep (fs, cs) := odT h3
  refine gR ?_
  refine RW.q (v := .agg [nS, nS].toArray) rfl (q_build (vals := []) zero35 uT35 places35 rfl rfl) ?_
  refine gR ?_
  exact fin_res (vs := [.agg [nS, nS].toArray, iV 8, iV (Ru.tooDeep (fs, cs))]) rfl rfl ⟨.agg rfl rfl (Cells.blk 5 rfl), .tmp rfl, .tmp rfl, trivial⟩ rfl (fun w1 hw1 => parR2_err hw1 (by unfold Ru.ruleParse; rw [if_neg h0, if_neg (by rw [h1]; simp), hts, hx, if_neg (by rw [h2]; simp), if_pos h3]))
 have h3 : ¬ 0 ≤ Ru.tooDeep (fs, cs) := odF h3
 have hbΨ := hb.mono hlΨ
 refine gR ?_
 refine RW.mk (args := #[.agg b.cs.toArray, .agg #[.slice fA fs.length fc, .slice cA cs.length cc]]) rfl oK rfl rfl (fun w1 hw1 => newResolver_c w1 (hbΨ.mono hw1.phi) (hw1.sAt 1 rfl) (hw1.sAt 2 rfl).1) fun z => (RW.wk (J' := St ⟨w, Φ, []⟩ Ψ [tab z.m1 e.places, tab z.m2 e.owners, tab z.m3 e.links, tab z.m4 e.towns, tab z.m5 (Ru.fnN fs), .blk z.r 110 (rC (.slice fA fs.length fc) (.slice cA cs.length cc) z (-1)), .blk b10 101 [.slice fA fs.length fc, .slice cA cs.length cc], .row (.slice fA fs.length fc) 143 1 fs.length (l1.map pB), fnP.cks fs l1 F, .row (.slice cA cs.length cc) 148 1 cs.length (m.map pB), clP.cks cs m G, .blk b4 35 [nS, nS], .blk b2 31 b.cs]) (fun _ h => StP.sel h [1, 2, 3, 4, 5, 0, 6, 7, 8, 9, 10, 11, 12] (by decide) rfl) (RW.frzB rfl fun Ω1 hk1 ht1 => (RW.frzB rfl fun Ω2 hk2 ht2 => (RW.frzB rfl fun Ω3 hk3 ht3 => (RW.frzB rfl fun Ω4 hk4 ht4 => (RW.frzB rfl fun Ω5 hk5 ht5 => ?_))))))
 have hle5 : Hp.le Ψ Ω5 := (((hk1.trans hk2).trans hk3).trans hk4).trans hk5
 have hR : RCtx Ω5 z e (Ru.fnN fs) := ⟨tab_up ht1 (((hk2.trans hk3).trans hk4).trans hk5), tab_up ht2 ((hk3.trans hk4).trans hk5), tab_up ht3 (hk4.trans hk5), tab_up ht4 hk5, ht5, hb.p.big, hb.o.big, hb.l.big, hb.t.big, by simp only [Ru.fnN, List.length_map]; omega⟩
 refine gR ?_
 refine RW.ownG (args := #[pB z.r]) (C2 := [.blk b10 101 [.slice fA fs.length fc, .slice cA cs.length cc], .blk b4 35 [nS, nS], .blk b2 31 b.cs]) [0, 2, 3, 4, 5, 1, 6, 7] (by decide) rfl rfl oK rfl rfl (fun w1 hw1 => rule_c w1 hR hok hw1) ?_
 rintro ⟨v1, v2⟩ Ω6 hk6 ⟨hr1, hr2⟩
 obtain ⟨uA, uc, hu, _⟩ := hr1.sl
 obtain ⟨xA, xc, hxs, _⟩ := hr2.sl
 simp only at hu hxs hr1 hr2
 subst hu; subst hxs
 refine RW.alc rfl fun b13 => ?_
 refine gR ?_
 refine AW.cond rfl (fun h4 => ?_) fun h4 => ?_
 ·
  have h4 : 0 ≤ Ru.lstL (-1) (Ru.badP e (fs, cs)) := odT h4
  refine gR ?_
  refine AW.drawZ (J0 := St ⟨w, Φ, []⟩ Ω6 [.blk z.r 110 (rC (.slice fA fs.length fc) (.slice cA cs.length cc) z (Ru.lstL (-1) (Ru.badP e (fs, cs))))]) [.q, .q, .q, .q, .q, .e, .q, .q] od8 hmix (by kernel_rfl) (DW.q (v := .agg [nS, nS].toArray) (fun _ h => StP.drop h (by repeat first | exact List.Sublist.refl _ | apply List.Sublist.cons_cons | apply List.Sublist.cons)) rfl (q_build (vals := []) zero35 uT35 places35 rfl rfl) ?_)
  refine gR ?_
  refine DW.effn (fun _ _ h => StP.drop h (by repeat first | exact List.Sublist.refl _ | apply List.Sublist.cons_cons | apply List.Sublist.cons)) (e_stA (cs' := [nS, nS]) 7 rfl rfl rfl rfl rfl rfl) ?_
  refine gR ?_
  exact fin_res (vs := [.agg [nS, nS].toArray, iV 4, iV (Ru.lstL (-1) (Ru.badP e (fs, cs)))]) rfl rfl ⟨.agg rfl rfl (Cells.blk 7 rfl), .tmp rfl, .tmp rfl, trivial⟩ rfl (fun w1 hw1 => parR2_err hw1 (by unfold Ru.ruleParse; rw [if_neg h0, if_neg (by rw [h1]; simp), hts, hx, if_neg (by rw [h2]; simp), if_neg h3, if_pos h4]))
 have h4 : ¬ 0 ≤ Ru.lstL (-1) (Ru.badP e (fs, cs)) := odF h4
 have hbad : Ru.badP e (fs, cs) = [] := Ru.lstL_neg (a := -1) (Ru.badP_mem hfr.1 hfr.2) (by omega)
 have hokr := Ru.okR_res (e := e) hok hbad
 refine gR ?_
 refine RW.q (v := .agg [.slice fA fs.length fc, .slice cA cs.length cc, iV (-1)].toArray) rfl (q_build (vals := [(0, .agg #[.slice fA fs.length fc, .slice cA cs.length cc]), (1, iV (-1))]) zero112 uT112 places112 rfl (by kernel_rfl)) ?_
 refine RW.alc rfl fun b14 => ?_
 refine gR ?_
 refine RW.wk (J' := St ⟨w, Φ, []⟩ Ω6 [.row (.slice fA fs.length fc) 143 1 fs.length (l1.map pB), fnP.cks (fs.map (Ru.resF e fs)) l1 F, .row (.slice cA cs.length cc) 148 1 cs.length (m.map pB), clP.cks (cs.map (Ru.resC e fs)) m G, tB (.slice fA fs.length fc) (.slice cA cs.length cc) b14 (-1), .blk b13 35 [(.slice uA ((fs.map (Ru.resF e fs)).map Ru.outF).length uc), (.slice xA ((cs.map (Ru.resC e fs)).map (Ru.outC e)).length xc)], .blk z.r 110 (rC (.slice fA fs.length fc) (.slice cA cs.length cc) z (Ru.lstL (-1) (Ru.badP e (fs, cs)))), .blk b10 101 [.slice fA fs.length fc, .slice cA cs.length cc], .blk b4 35 [nS, nS], .blk b2 31 b.cs]) (fun _ h => StP.sel h [3, 4, 5, 6, 0, 1, 2, 7, 8, 9] (by decide) rfl) (RW.frzB rfl fun Θ1 hq1 hs1 => (RW.frzB rfl fun Θ2 hq2 hs2 => (RW.frzB rfl fun Θ3 hq3 hs3 => (RW.frzB rfl fun Θ4 hq4 hs4 => ?_))))
 have hs1 : RowS Θ4 (.slice fA fs.length fc) 143 1 (fs.map (Ru.resF e fs)).length (l1.map pB) := by rw [List.length_map]; exact RowS.up hs1 ((hq2.trans hq3).trans hq4)
 have hs2 := Ru.OP.Lup hs2.1 (hq3.trans hq4)
 have hs3 : RowS Θ4 (.slice cA cs.length cc) 148 1 (cs.map (Ru.resC e fs)).length (m.map pB) := by rw [List.length_map]; exact RowS.up hs3 hq4
 have hs4 := hs4.1
 have hle9 : Hp.le Ω6 Θ4 := ((hq1.trans hq2).trans hq3).trans hq4
 refine RW.ownU (args := #[pB b14]) (C2 := [.blk b13 35 [(.slice uA ((fs.map (Ru.resF e fs)).map Ru.outF).length uc), (.slice xA ((cs.map (Ru.resC e fs)).map (Ru.outC e)).length xc)], .blk z.r 110 (rC (.slice fA fs.length fc) (.slice cA cs.length cc) z (Ru.lstL (-1) (Ru.badP e (fs, cs)))), .blk b10 101 [.slice fA fs.length fc, .slice cA cs.length cc], .blk b4 35 [nS, nS], .blk b2 31 b.cs]) [0, 1, 2, 3, 4, 5] (by decide) rfl rfl oK rfl rfl (fun w1 hw1 => tprogram_c w1 hokr hs1 hs2 hs3 hs4 hw1) fun _ => ?_
 refine gR ?_
 refine AW.cond rfl (fun h5 => ?_) fun h5 => ?_
 ·
  have h5 : 0 ≤ Ru.lstL (-1) (Ru.tyP (Ru.resP e (fs, cs))) := odT h5
  refine gR ?_
  refine AW.drawZ (J0 := St ⟨w, Φ, []⟩ Θ4 [tB (.slice fA fs.length fc) (.slice cA cs.length cc) b14 (Ru.lstL (-1) (Ru.tyP (fs.map (Ru.resF e fs), cs.map (Ru.resC e fs))))]) [.q, .q, .q, .e, .q, .q] od6 hmix (by kernel_rfl) (DW.q (v := .agg [nS, nS].toArray) (fun _ h => StP.drop h (by repeat first | exact List.Sublist.refl _ | apply List.Sublist.cons_cons | apply List.Sublist.cons)) rfl (q_build (vals := []) zero35 uT35 places35 rfl rfl) ?_)
  refine gR ?_
  refine DW.effn (fun _ _ h => StP.drop h (by repeat first | exact List.Sublist.refl _ | apply List.Sublist.cons_cons | apply List.Sublist.cons)) (e_stA (cs' := [nS, nS]) 4 rfl rfl rfl rfl rfl rfl) ?_
  refine gR ?_
  exact fin_res (vs := [.agg [nS, nS].toArray, iV 5, iV (Ru.lstL (-1) (Ru.tyP (fs.map (Ru.resF e fs), cs.map (Ru.resC e fs))))]) rfl rfl ⟨.agg rfl rfl (Cells.blk 4 rfl), .tmp rfl, .tmp rfl, trivial⟩ rfl (fun w1 hw1 => parR2_err hw1 (by unfold Ru.ruleParse; rw [if_neg h0, if_neg (by rw [h1]; simp), hts, hx, if_neg (by rw [h2]; simp), if_neg h3, if_neg h4, if_pos h5]; rfl))
 have h5 : ¬ 0 ≤ Ru.lstL (-1) (Ru.tyP (Ru.resP e (fs, cs))) := odF h5
 refine gR ?_
 exact fin_res (vs := [.agg [(.slice uA ((fs.map (Ru.resF e fs)).map Ru.outF).length uc), (.slice xA ((cs.map (Ru.resC e fs)).map (Ru.outC e)).length xc)].toArray, iV 0, iV 0]) rfl rfl ⟨.agg rfl rfl (Cells.blk 4 rfl), .tmp rfl, .tmp rfl, trivial⟩ rfl (fun w1 hw1 => ⟨_, rfl, hw1.below rfl, ((.slice uA ((fs.map (Ru.resF e fs)).map Ru.outF).length uc), (.slice xA ((cs.map (Ru.resC e fs)).map (Ru.outC e)).length xc)), by unfold Ru.ruleParse; rw [if_neg h0, if_neg (by rw [h1]; simp), hts, hx, if_neg (by rw [h2]; simp), if_neg h3, if_neg h4, if_neg h5]; rfl, by
  have hΞ := hw1.phi_ext
  have he : Ru.ruleParse e l = (⟨(Ru.resP e (fs, cs)).1.map Ru.outF, (Ru.resP e (fs, cs)).2.map (Ru.outC e)⟩, 0, 0) := by unfold Ru.ruleParse; rw [if_neg h0, if_neg (by rw [h1]; simp), hts, hx, if_neg (by rw [h2]; simp), if_neg h3, if_neg h4, if_neg h5]
  rw [he]
  exact ⟨(hr1.mono hle9).mono hΞ, (hr2.mono hle9).mono hΞ⟩⟩)
end Go.Proofs.YtnfmjfheciihjaaGreatDoor
namespace Go.K
open Go Go.RowKit
section
variable {P : Program} {f : Nat → Value} {s : List (Nat × Value)} {J : Cls} {ty : TypeId} {pos : String} {af : Array Edge} {x y : Operand} {dst : Option Nat} {g : Option (Nat × Bool)} {t t' : TypeId}
theorem q_cvt {a r : Int} {k k' : IntKind} {d : TypeDesc} (hx : ev (fr f s) x = .int k' a) (h1 : P.underlying t = some d) (h2 : P.underlying t' = some (.int k)) (hw : k.wrap a = r) : Qt P J f s ⟨dst, .convert t t' x, ty, pos, af, g⟩ (.int k r) := qt_val fun w _ => by
 simp only [execOp, hx, convert, Sem.run_bind, run_underlying h1, run_underlying h2, Result.andThen_ok, Conv.intToInt, hw, Sem.run_pure]
theorem q_negW {a r : Int} {k : IntKind} (hx : ev (fr f s) x = .int k a) (hw : k.wrap (-a) = r) : Qt P J f s ⟨dst, .unOp .neg t x, ty, pos, af, g⟩ (.int k r) := qt_val fun w _ => by
 simp [execOp, hx, Op.unary, Op.intArith, hw]
end
theorem wrap_i64 (n : Int) : IntKind.i64.wrap n = if n % 18446744073709551616 ≥ 9223372036854775808 then n % 18446744073709551616 - 18446744073709551616 else n % 18446744073709551616 := by simp [IntKind.wrap, IntKind.bits, IntKind.signed]
end Go.K
namespace Go.Proofs.YtnfmjfheciihjaaGreatDoor
open Go Go.K Go.RowKit
attribute [local irreducible] AW RW DW Post Qt
theorem mat_c (w : World) {xs : List Int} {v1 : Value} {i : Int} (h1 : RepSl (hp w) xs v1) : Calls pg 78 #[v1, iV i] w fun e w' => e = .returned (iV (Mn.atL xs i)) ∧ Bel w.heap.size w w' := by
 refine calls_of_AW (args := [v1, iV i]) Tryz.func78 rfl (lBT rfl) (St ⟨w, hp w, []⟩ (hp w) []) (StP.init w (hp w) (Hp.le_refl _) []) ?_
 show AW _ _ [] _ _ _ [(0, v1), (1, iV i)] _
 have hsl := h1.sl
 refine gR ?_
 refine RW.g (b := decide (i < 0)) (v := iV (xs.length : Int)) rfl rfl rfl (fun h => q_len_sl (gv_pos h) hsl uT29) ?_
 refine gR ?_
 refine RW.q (v := .bool (decide (i < 0) || decide ((xs.length : Int) ≤ i))) rfl (qpO rfl rfl rfl) ?_
 refine gR ?_
 refine AW.cond rfl (fun h => ?_) fun h => ?_
 ·
  have h : i < 0 ∨ (xs.length : Int) ≤ i := by simpa using h
  refine gR ?_
  exact fin_res (vs := [iV 0]) rfl rfl ⟨.tmp rfl, trivial⟩ rfl (fun w' hw => ⟨by unfold Mn.atL; rw [if_pos h]; rfl, hw.below rfl⟩)
 ·
  have h : ¬ (i < 0 ∨ (xs.length : Int) ≤ i) := by simpa using h
  obtain ⟨n, rfl⟩ : ∃ n : Nat, i = n := ⟨i.toNat, by omega⟩
  have hn : n < xs.length := by omega
  have pe : PCell (hp w) (Value.at v1 (n * 1)) (iV (xs.getD n 0)) := by
   have := (h1.int hn).1
   rw [Nat.mul_one, gDD, List.getElem?_eq_getElem hn]; exact this
  refine gR ?_
  exact fin_res (vs := [iV (xs.getD n 0)]) rfl rfl ⟨.tmp rfl, trivial⟩ rfl (fun w' hw => ⟨by unfold Mn.atL; rw [if_neg h, Int.toNat_natCast]; rfl, hw.below rfl⟩)
theorem size_c (w : World) {a : Int} (ha : I64 a) : Calls pg 107 #[iV a] w fun e w' => e = .returned (.int .u64 (a.natAbs : Int)) ∧ Bel w.heap.size w w' := by
 refine calls_of_AW (args := [iV a]) Tryz.func107 rfl (lBT rfl) (St ⟨w, hp w, []⟩ (hp w) []) (StP.init w (hp w) (Hp.le_refl _) []) ?_
 show AW _ _ [] _ _ _ [(0, iV a)] _
 unfold I64 at ha
 refine gR ?_
 refine AW.cond rfl (fun h => ?_) fun h => ?_
 ·
  have h : a < 0 := odT h
  refine gR ?_
  refine RW.q (v := .int .u64 (a + 18446744073709551616)) rfl (q_cvt rfl uT3 uT182 (by rw [IntKind.wrap_u64]; omega)) (RW.q (v := .int .u64 (a.natAbs : Int)) rfl (q_negW rfl (by rw [IntKind.wrap_u64]; omega)) ?_)
  refine gR ?_
  exact fin_res (vs := [.int .u64 (a.natAbs : Int)]) rfl rfl ⟨.tmp rfl, trivial⟩ rfl (fun w' hw => ⟨rfl, hw.below rfl⟩)
 ·
  have h : ¬ a < 0 := odF h
  refine gR ?_
  refine RW.q (v := .int .u64 (a.natAbs : Int)) rfl (q_cvt rfl uT3 uT182 (by rw [IntKind.wrap_u64]; omega)) ?_
  refine gR ?_
  exact fin_res (vs := [.int .u64 (a.natAbs : Int)]) rfl rfl ⟨.tmp rfl, trivial⟩ rfl (fun w' hw => ⟨rfl, hw.below rfl⟩)
theorem abs_neg {a b : Int} (h : decide (a < 0) ≠ decide (b < 0)) : a * b = -((a.natAbs * b.natAbs : Nat) : Int) := by
 rw [Int.natCast_mul]
 by_cases ha : a < 0
 ·
  have hb : ¬ b < 0 := fun hb => h (by simp [ha, hb])
  rw [show (a.natAbs : Int) = -a by omega, show (b.natAbs : Int) = b by omega, Int.neg_mul, Int.neg_neg]
 ·
  have hb : b < 0 := by
   by_cases hb : b < 0
   ·
    exact hb
   ·
    exact absurd (by simp [ha, hb]) h
  rw [show (a.natAbs : Int) = a by omega, show (b.natAbs : Int) = -b by omega, Int.mul_neg, Int.neg_neg]
theorem abs_pos {a b : Int} (h : decide (a < 0) = decide (b < 0)) : a * b = ((a.natAbs * b.natAbs : Nat) : Int) := by
 rw [Int.natCast_mul]
 by_cases ha : a < 0
 ·
  have hb : b < 0 := by
   by_cases hb : b < 0
   ·
    exact hb
   ·
    simp [ha, hb] at h
  rw [show (a.natAbs : Int) = -a by omega, show (b.natAbs : Int) = -b by omega, Int.neg_mul_neg]
 ·
  have hb : ¬ b < 0 := fun hb => by simp [ha, hb] at h
  rw [show (a.natAbs : Int) = a by omega, show (b.natAbs : Int) = b by omega]
theorem mproduct_c (w : World) {a b : Int} (ha : I64 a) (hb : I64 b) : Calls pg 80 #[iV a, iV b] w fun e w' => e = .returned (iV (Mn.lim (a * b))) ∧ Bel w.heap.size w w' := by
 refine calls_of_AW (args := [iV a, iV b]) Tryz.func80 rfl (lBT rfl) (St ⟨w, hp w, []⟩ (hp w) []) (StP.init w (hp w) (Hp.le_refl _) []) ?_
 show AW _ _ [] _ _ _ [(0, iV a), (1, iV b)] _
 have ha0 := ha
 have hb0 := hb
 unfold I64 at ha0 hb0
 refine gR ?_
 refine RW.q rfl (q_call (args := #[iV a]) oK rfl rfl (fun w1 hw1 => size_c w1 ha)) ?_
 refine gR ?_
 refine RW.q rfl (q_call (args := #[iV b]) oK rfl rfl (fun w1 hw1 => size_c w1 hb)) (RW.q rfl (q_call (args := #[.int .u64 (a.natAbs : Int), .int .u64 (b.natAbs : Int)]) oK rfl rfl (fun w1 hw1 => Mul64_c w1 (hp w1) (Hp.le_refl _) (by omega) (by omega))) ?_)
 refine gR ?_
 generalize hm : a.natAbs * b.natAbs = m
 have hd := Nat.div_add_mod m 18446744073709551616
 have hr := Nat.mod_lt m (show 0 < 18446744073709551616 by omega)
 generalize hh : m / 18446744073709551616 = hi at *
 generalize hlo : m % 18446744073709551616 = lo at *
 refine RW.q (v := .bool (!(decide (a < 0) == decide (b < 0)))) rfl (q_neqB rfl rfl uT4) ?_
 refine gR ?_
 refine AW.cond rfl (fun h => ?_) fun h => ?_
 ·
  have h : decide (a < 0) ≠ decide (b < 0) := by simpa using h
  have hp1 := abs_neg h
  rw [hm] at hp1
  refine gR ?_
  refine RW.q (v := .bool (!decide ((hi : Int) = 0) || decide ((9223372036854775808 : Int) < (lo : Int)))) rfl (qpO rfl rfl rfl) ?_
  refine gR ?_
  refine AW.cond rfl (fun h2 => ?_) fun h2 => ?_
  ·
   have h2 : ¬ hi = 0 ∨ 9223372036854775808 < lo := by simp only [Bool.or_eq_true, Bool.not_eq_true', decide_eq_false_iff_not, decide_eq_true_eq] at h2; omega
   refine gR ?_
   exact fin_res (vs := [iV (-9223372036854775808)]) rfl rfl ⟨.tmp rfl, trivial⟩ rfl (fun w' hw => ⟨by rw [hp1]; unfold Mn.lim Mn.mn Mn.mx; rw [if_pos (by omega)]; rfl, hw.below rfl⟩)
  ·
   have h2 : hi = 0 ∧ lo ≤ 9223372036854775808 := by simp only [Bool.or_eq_false_iff, Bool.not_eq_false', decide_eq_true_eq, decide_eq_false_iff_not] at h2; omega
   refine gR ?_
   refine RW.q (v := .int .u64 ((-(lo : Int)) % 18446744073709551616)) rfl (q_negW rfl (by rw [IntKind.wrap_u64])) (RW.q (v := iV (-(lo : Int))) rfl (q_cvt rfl uT182 uT3 (by rw [wrap_i64]; split <;> omega)) ?_)
   refine gR ?_
   exact fin_res (vs := [iV (-(lo : Int))]) rfl rfl ⟨.tmp rfl, trivial⟩ rfl (fun w' hw => ⟨by rw [hp1]; unfold Mn.lim Mn.mn Mn.mx; rw [if_neg (by omega), if_neg (by omega), show (m : Int) = lo by omega]; rfl, hw.below rfl⟩)
 ·
  have h : decide (a < 0) = decide (b < 0) := by simpa using h
  have hp1 := abs_pos h
  rw [hm] at hp1
  refine gR ?_
  refine RW.q (v := .bool (!decide ((hi : Int) = 0) || decide ((9223372036854775807 : Int) < (lo : Int)))) rfl (qpO rfl rfl rfl) ?_
  refine gR ?_
  refine AW.cond rfl (fun h2 => ?_) fun h2 => ?_
  ·
   have h2 : ¬ hi = 0 ∨ 9223372036854775807 < lo := by simp only [Bool.or_eq_true, Bool.not_eq_true', decide_eq_false_iff_not, decide_eq_true_eq] at h2; omega
   refine gR ?_
   exact fin_res (vs := [iV 9223372036854775807]) rfl rfl ⟨.tmp rfl, trivial⟩ rfl (fun w' hw => ⟨by rw [hp1]; unfold Mn.lim Mn.mn Mn.mx; rw [if_neg (by omega), if_pos (by omega)]; rfl, hw.below rfl⟩)
  ·
   have h2 : hi = 0 ∧ lo ≤ 9223372036854775807 := by simp only [Bool.or_eq_false_iff, Bool.not_eq_false', decide_eq_true_eq, decide_eq_false_iff_not] at h2; omega
   refine gR ?_
   refine RW.q (v := iV (lo : Int)) rfl (q_cvt rfl uT182 uT3 (by rw [wrap_i64]; split <;> omega)) ?_
   refine gR ?_
   exact fin_res (vs := [iV (lo : Int)]) rfl rfl ⟨.tmp rfl, trivial⟩ rfl (fun w' hw => ⟨by rw [hp1]; unfold Mn.lim Mn.mn Mn.mx; rw [if_neg (by omega), if_neg (by omega), show (m : Int) = lo by omega]; rfl, hw.below rfl⟩)
end Go.Proofs.YtnfmjfheciihjaaGreatDoor
namespace Bt
structure Facts where
 Volume : List Int
 Level : List Int
 Owned : List (List Int)
 Pos : List Int
 Hour : Int
 Crest : List Int
instance : Inhabited Facts := ⟨⟨[], [], [], [], 0, []⟩⟩
end Bt
namespace Mn
open Bt
abbrev Dt := Int × Int × Int × Int
def wr (n : Int) : Int := Go.IntKind.wrap .i64 n
def factV (f : Facts) (d : Dt) (n o q : Int) : Int :=
 if n = 0 then atL f.Volume o else if n = 1 then atL f.Level o
 else if n = 2 then (if o < 0 ∨ (f.Owned.length : Int) ≤ o then 0 else atL (f.Owned.getD o.toNat []) q)
 else if n = 3 then atL f.Pos o else if n = 4 then d.2.2.2 else if n = 5 then d.2.2.1 else if n = 6 then d.2.1
 else if n = 7 then (if o < 0 ∨ (f.Crest.length : Int) ≤ o then -1 else f.Crest.getD o.toNat 0) else 0
def op2 (k x y : Int) : Except Int Int :=
 if k = 4 then .ok (lim (x + y)) else if k = 5 then .ok (lim (x - y)) else if k = 6 then .ok (lim (x * y))
 else if k = 7 then (if y = 0 then .error 1 else .ok (lim (x.tdiv y)))
 else if k = 8 then .ok (if x < y then 1 else 0) else if k = 9 then .ok (if x ≤ y then 1 else 0) else .ok (if x = y then 1 else 0)
abbrev R (α : Type) := Except (Int × Int) (α × Int)
def bnd {α β : Type} (x : R α) (k : α → Int → R β) : R β := match x with
 | .error e => .error e
 | .ok (a, u) => k a u
def evs (f : Expr → Int → R Int) : List Expr → Int → R (List Int)
 | [], u => .ok ([], u)
 | e :: es, u => bnd (f e u) fun v u => bnd (evs f es u) fun vs u => .ok (v :: vs, u)
def kid (e : Expr) (i : Nat) : Expr := e.Kids.getD i default
def ev (fs : List RFunc) (f : Facts) (d : Dt) : Nat → Int → Expr → List Int → Int → R Int
 | 0, _, _, _, _ => .error (0, 0)
 | g + 1, c, e, ps, u =>
  if e.Kind = 0 then .ok (e.N, u)
  else if e.Kind = 15 then .ok (ps.getD e.N.toNat 0, u)
  else if e.Kind = 1 then .ok (factV f d e.N e.Of e.Of2, u)
  else if e.Kind = 2 then bnd (ev fs f d g c (kid e 0) ps u) fun v u => .ok (lim (0 - v), u)
  else if e.Kind = 3 then bnd (ev fs f d g c (kid e 0) ps u) fun v u => .ok (wr (1 - v), u)
  else if e.Kind = 11 then bnd (ev fs f d g c (kid e 0) ps u) fun v u => if v = 0 then .ok (0, u) else ev fs f d g c (kid e 1) ps u
  else if e.Kind = 12 then bnd (ev fs f d g c (kid e 0) ps u) fun v u => if v ≠ 0 then .ok (1, u) else ev fs f d g c (kid e 1) ps u
  else if e.Kind = 13 then bnd (ev fs f d g c (kid e 0) ps u) fun v u => if v ≠ 0 then ev fs f d g c (kid e 1) ps u else ev fs f d g c (kid e 2) ps u
  else if e.Kind = 14 then bnd (evs (fun x u => ev fs f d g c x ps u) e.Kids u) fun vs u =>
   if 10000 ≤ u then .error (14, u) else if 100 ≤ c then .error (8, u + 1) else ev fs f d g (c + 1) (fs.getD e.N.toNat default).Body vs (u + 1)
  else bnd (ev fs f d g c (kid e 0) ps u) fun x u => bnd (ev fs f d g c (kid e 1) ps u) fun y u => match op2 e.Kind x y with
   | .error k => .error (k, u)
   | .ok v => .ok (v, u)
theorem bnd_ok {α β : Type} {x : R α} {k : α → Int → R β} {a : α} {u : Int} (h : x = .ok (a, u)) : bnd x k = k a u := by rw [h]; rfl
theorem bnd_err {α β : Type} {x : R α} {k : α → Int → R β} {e : Int × Int} (h : x = .error e) : bnd x k = .error e := by rw [h]; rfl
end Mn
namespace Go.Proofs.YtnfmjfheciihjaaGreatDoor
open Go Go.K Go.RowKit
open Ru (pB)
attribute [local irreducible] AW RW DW Post Qt
structure FcV where
 vol : Value
 lev : Value
 own : Value
 pos : Value
 cre : Value
structure FcV.ok (Φ : Hp) (v : FcV) (f : Bt.Facts) : Prop where
 vol : RepSl Φ f.Volume v.vol
 lev : RepSl Φ f.Level v.lev
 own : RepSl Φ f.Owned v.own
 pos : RepSl Φ f.Pos v.pos
 cre : RepSl Φ f.Crest v.cre
theorem FcV.ok.mono {Φ Ψ : Hp} {v : FcV} {f : Bt.Facts} (h : v.ok Φ f) (hl : Hp.le Φ Ψ) : v.ok Ψ f := ⟨h.vol.mono hl, h.lev.mono hl, h.own.mono hl, h.pos.mono hl, h.cre.mono hl⟩
structure RnV where
 rf : Value
 rc : Value
 fc : FcV
 hr : Int
 d : Mn.Dt
 tv : Value
 sv : Value
abbrev RnV.cs (y : RnV) (u c : Int) : List Value := [y.rf, y.rc, y.fc.vol, y.fc.lev, y.fc.own, y.fc.pos, iV y.hr, y.fc.cre, iV y.d.1, iV y.d.2.1, iV y.d.2.2.1, iV y.d.2.2.2, iV u, iV c, y.tv, y.sv]
abbrev fE (e : Int × Int) : List PanicEntry := [⟨.iface 83 (.agg #[iV e.1]), false, false⟩]
abbrev opR (w : World) (Φ : Hp) (res : Except Int Int) : Ending → World → Prop := OwnK w Φ [] res (fun v (_ : Unit) => iV v) (fun _ _ => []) (fun k => fE (k, 0)) fun _ CE => CE = []
theorem tdiv_le (x y : Int) : (x.tdiv y).natAbs ≤ x.natAbs := by
 rw [Int.natAbs_tdiv]; exact Nat.div_le_self _ _
theorem operate_c (w : World) {Φ : Hp} (hΦ : Hp.le Φ (hp w)) {k x y : Int} (hx : I64 x) (hy : I64 y) : Calls pg 51 #[iV k, iV x, iV y] w (opR w Φ (Mn.op2 k x y)) := by
 refine calls_of_AW (args := [iV k, iV x, iV y]) Tryz.func51 rfl (lBT rfl) (St ⟨w, Φ, []⟩ Φ []) (StP.init w Φ hΦ []) ?_
 show AW _ _ [] _ _ _ [(0, iV k), (1, iV x), (2, iV y)] _
 have fin : ∀ {v : Int} {w' : World}, Mn.op2 k x y = .ok v → (St ⟨w, Φ, []⟩ Φ []).p w' → opR w Φ (Mn.op2 k x y) (.returned (iV v)) w' := fun h hw => .inl ⟨_, (), h, rfl, hw⟩
 refine gR ?_
 refine AW.cond rfl (fun h => ?_) fun h4 => ?_
 ·
  have h : k = 4 := odT h
  refine gR ?_
  refine RW.q rfl (q_call (args := #[iV x, iV y]) oK rfl rfl (fun w1 hw1 => Add_c w1 (hp w1) (Hp.le_refl _) hx hy)) ?_
  refine gR ?_
  exact fin_res (vs := [iV (Mn.lim (x + y))]) rfl rfl ⟨.tmp rfl, trivial⟩ rfl (fun w' hw => fin (by unfold Mn.op2; rw [if_pos h]) hw)
 have h4 : k ≠ 4 := odF h4
 refine gR ?_
 refine AW.cond rfl (fun h => ?_) fun h5 => ?_
 ·
  have h : k = 5 := odT h
  refine gR ?_
  refine RW.q rfl (q_call (args := #[iV x, iV y]) oK rfl rfl (fun w1 hw1 => Sub_c w1 (hp w1) (Hp.le_refl _) hx hy)) ?_
  refine gR ?_
  exact fin_res (vs := [iV (Mn.lim (x - y))]) rfl rfl ⟨.tmp rfl, trivial⟩ rfl (fun w' hw => fin (by unfold Mn.op2; rw [if_neg h4, if_pos h]) hw)
 have h5 : k ≠ 5 := odF h5
 refine gR ?_
 refine AW.cond rfl (fun h => ?_) fun h6 => ?_
 ·
  have h : k = 6 := odT h
  refine gR ?_
  refine RW.q rfl (q_call (args := #[iV x, iV y]) oK rfl rfl (fun w1 hw1 => mproduct_c w1 hx hy)) ?_
  refine gR ?_
  exact fin_res (vs := [iV (Mn.lim (x * y))]) rfl rfl ⟨.tmp rfl, trivial⟩ rfl (fun w' hw => fin (by unfold Mn.op2; rw [if_neg h4, if_neg h5, if_pos h]) hw)
 have h6 : k ≠ 6 := odF h6
 refine gR ?_
 refine AW.cond rfl (fun h => ?_) fun h7 => ?_
 ·
  have h : k = 7 := odT h
  refine gR ?_
  refine AW.cond rfl (fun h0 => ?_) fun h0 => ?_
  ·
   have h0 : y = 0 := odT h0
   refine gR ?_
   refine RW.q (v := .agg #[iV 1]) rfl (q_build (vals := [(0, iV 1)]) zero83 uT83 places83 rfl rfl) ?_
   refine gR ?_
   exact RW.pan rfl (fun w' hw => .inr ⟨1, [], by unfold Mn.op2; rw [if_neg h4, if_neg h5, if_neg h6, if_pos h, if_pos h0], rfl, rfl, hw⟩)
  ·
   have h0 : y ≠ 0 := odF h0
   refine gR ?_
   refine RW.q (v := .bool (decide (x = -9223372036854775808) && decide (y = -1))) rfl (qpA rfl rfl rfl) ?_
   refine gR ?_
   have hdl := tdiv_le x y
   have ho : Mn.op2 k x y = .ok (Mn.lim (x.tdiv y)) := by unfold Mn.op2; rw [if_neg h4, if_neg h5, if_neg h6, if_pos h, if_neg h0]
   unfold I64 at hx hy
   refine AW.cond rfl (fun hm => ?_) fun hm => ?_
   ·
    have hm : x = -9223372036854775808 ∧ y = -1 := by simpa using hm
    refine gR ?_
    exact fin_res (vs := [iV 9223372036854775807]) rfl rfl ⟨.tmp rfl, trivial⟩ rfl (fun w' hw => fin (by rw [ho, hm.1, hm.2]; rfl) hw)
   ·
    have hm : ¬ (x = -9223372036854775808 ∧ y = -1) := by simpa using hm
    have hin : -9223372036854775808 ≤ x.tdiv y ∧ x.tdiv y ≤ 9223372036854775807 := by
     by_cases hx0 : x = -9223372036854775808
     ·
      have hy1 : y ≠ -1 := fun hh => hm ⟨hx0, hh⟩
      refine ⟨by omega, ?_⟩
      by_cases hyp : 0 < y
      ·
       have h1 : x.tdiv y ≤ 0 := by
        rw [hx0, Int.neg_tdiv]
        have := Int.tdiv_nonneg (a := 9223372036854775808) (b := y) (by omega) (by omega)
        omega
       omega
      ·
       have h2 : (x.tdiv y).natAbs = x.natAbs / y.natAbs := Int.natAbs_tdiv x y
       have h3 : x.natAbs / y.natAbs ≤ x.natAbs / 2 := Nat.div_le_div_left (by omega) (by omega)
       omega
     ·
      omega
    refine gR ?_
    refine RW.q rfl (q_quo rfl rfl h0 rfl hin) ?_
    refine gR ?_
    exact fin_res (vs := [iV (x.tdiv y)]) rfl rfl ⟨.tmp rfl, trivial⟩ rfl (fun w' hw => fin (by rw [ho]; unfold Mn.lim Mn.mn Mn.mx; rw [if_neg (by omega), if_neg (by omega)]) hw)
 have h7 : k ≠ 7 := odF h7
 refine gR ?_
 refine AW.cond rfl (fun h => ?_) fun h8 => ?_
 ·
  have h : k = 8 := odT h
  refine gR ?_
  refine RW.q rfl (q_call (args := #[.bool (decide (x < y))]) oK rfl rfl (fun w1 hw1 => truth1_c w1 (hp w1) (Hp.le_refl _))) ?_
  refine gR ?_
  exact fin_res (vs := [iV (if decide (x < y) then 1 else 0)]) rfl rfl ⟨.tmp rfl, trivial⟩ rfl (fun w' hw => fin (by unfold Mn.op2; rw [if_neg h4, if_neg h5, if_neg h6, if_neg h7, if_pos h]; simp) hw)
 have h8 : k ≠ 8 := odF h8
 refine gR ?_
 refine AW.cond rfl (fun h => ?_) fun h9 => ?_
 ·
  have h : k = 9 := odT h
  refine gR ?_
  refine RW.q rfl (q_call (args := #[.bool (decide (x ≤ y))]) oK rfl rfl (fun w1 hw1 => truth1_c w1 (hp w1) (Hp.le_refl _))) ?_
  refine gR ?_
  exact fin_res (vs := [iV (if decide (x ≤ y) then 1 else 0)]) rfl rfl ⟨.tmp rfl, trivial⟩ rfl (fun w' hw => fin (by unfold Mn.op2; rw [if_neg h4, if_neg h5, if_neg h6, if_neg h7, if_neg h8, if_pos h]; simp) hw)
 have h9 : k ≠ 9 := odF h9
 refine gR ?_
 refine RW.q rfl (q_call (args := #[.bool (decide (x = y))]) oK rfl rfl (fun w1 hw1 => truth1_c w1 (hp w1) (Hp.le_refl _))) ?_
 refine gR ?_
 exact fin_res (vs := [iV (if decide (x = y) then 1 else 0)]) rfl rfl ⟨.tmp rfl, trivial⟩ rfl (fun w' hw => fin (by unfold Mn.op2; rw [if_neg h4, if_neg h5, if_neg h6, if_neg h7, if_neg h8, if_neg h9]; simp) hw)
end Go.Proofs.YtnfmjfheciihjaaGreatDoor
namespace Ru
open Bt
structure Jn (fs : List RFunc) (nt : Nat) (x : Expr) : Prop where
  k0 : x.Kind = 0 → 0 ≤ x.N ∧ x.N ≤ 1125899906842624
  k15 : x.Kind = 15 → 0 ≤ x.N ∧ x.N < nt
  k14 : x.Kind = 14 → 0 ≤ x.N ∧ x.N < fs.length ∧ x.Kids.length = (fs.getD x.N.toNat default).Params.length
  a1 : x.Kind = 2 ∨ x.Kind = 3 → x.Kids.length = 1
  a3 : x.Kind = 13 → x.Kids.length = 3
  a2 : x.Kind ≠ 0 → x.Kind ≠ 1 → x.Kind ≠ 2 → x.Kind ≠ 3 → x.Kind ≠ 13 → x.Kind ≠ 14 → x.Kind ≠ 15 → x.Kids.length = 2 ∧ 4 ≤ x.Kind ∧ x.Kind ≤ 12
variable {e : Env} {fs : List RFunc} {ts : List Int} {j : Nat} {x : Expr}
theorem jx_ok (h : (jx e fs ts (j + 1) x).2 = true) : ∃ ks, jxs (jx e fs ts j) x.Kids = some ks ∧ jx e fs ts (j + 1) x = jnd e fs ts x ks ∧ (jnd e fs ts x ks).2 = true := by
  have h0 := h
  unfold jx at h
  split at h
  · cases h
  · rename_i hk
    split at h
    · cases h
    · rename_i ks hks
      exact ⟨ks, hks, by rw [jx, if_neg hk, hks], h⟩
theorem jx_zero : (jx e fs ts 0 x).2 = false := rfl
theorem jx_kid (h : (jx e fs ts (j + 1) x).2 = true) : ∀ y ∈ x.Kids, (jx e fs ts j y).2 = true := by
  obtain ⟨ks, h1, _⟩ := jx_ok h
  exact (jxs_mem h1).2
theorem jop_len {k : Int} {l : List Int} (h : (jop k l).2 = true) : (k = 2 ∨ k = 3 → l.length = 1) ∧ (k = 13 → l.length = 3) ∧ (k ≠ 2 → k ≠ 3 → k ≠ 13 → l.length = 2 ∧ 4 ≤ k ∧ k ≤ 12) := by
  unfold jop at h
  repeat' split at h
  all_goals simp only [Bool.and_eq_true, decide_eq_true_eq] at h
  · subst h; subst_vars; exact ⟨fun _ => rfl, fun h => by omega, fun h => by omega⟩
  · subst h; subst_vars; exact ⟨fun _ => rfl, fun h => by omega, fun h => by omega⟩
  · subst h; exact ⟨fun h => by omega, fun h => by omega, fun _ _ _ => ⟨rfl, by omega, by omega⟩⟩
  · subst h; exact ⟨fun h => by omega, fun h => by omega, fun _ _ _ => ⟨rfl, by omega, by omega⟩⟩
  · exact ⟨fun h => by omega, fun h => by omega, fun _ _ _ => ⟨h.1, by omega, by omega⟩⟩
  · subst h; exact ⟨fun h => by omega, fun h => by omega, fun _ _ _ => ⟨rfl, by omega, by omega⟩⟩
  · cases h
  · rename_i h2
    exact ⟨fun h => by omega, fun _ => Classical.byContradiction fun hc => h2 (.inl hc), fun _ _ hh => by omega⟩
  · cases h
theorem jx_node (h : (jx e fs ts (j + 1) x).2 = true) : Jn fs ts.length x := by
  obtain ⟨ks, h1, _, h2⟩ := jx_ok h
  obtain ⟨h3, _⟩ := jxs_mem h1
  have hl : x.Kids.length = ks.length := by rw [h3, List.length_map]
  unfold jnd at h2
  split at h2
  · rename_i hk
    simp only [Bool.and_eq_true, decide_eq_true_eq] at h2
    exact ⟨fun _ => ⟨h2.1.2, h2.2⟩, fun h => by omega, fun h => by omega, fun h => by omega, fun h => by omega, fun h => by omega⟩
  · split at h2
    · exact ⟨fun h => by omega, fun h => by omega, fun h => by omega, fun h => by omega, fun h => by omega, fun _ h => by omega⟩
    · split at h2
      · split at h2
        · cases h2
        · exact ⟨fun h => by omega, fun _ => by omega, fun h => by omega, fun h => by omega, fun h => by omega, fun _ _ _ _ _ _ h => by omega⟩
      · split at h2
        · split at h2
          · cases h2
          · simp only [decide_eq_true_eq] at h2
            exact ⟨fun h => by omega, fun h => by omega, fun _ => ⟨by omega, by omega, by rw [hl, h2]⟩, fun h => by omega, fun h => by omega, fun _ _ _ _ _ h => by omega⟩
        · split at h2
          · cases h2
          · have := jop_len h2
            exact ⟨fun h => by omega, fun h => by omega, fun h => by omega, fun h => by have := this.1 h; omega, fun h => by have := this.2.1 h; omega, fun _ _ a b c _ _ => by have := this.2.2 a b c; omega⟩
end Ru
namespace Mn
open Bt Ru
open Go.K (I64)
theorem bnd_okE {α β : Type} {x : R α} {k : α → Int → R β} {r : β × Int} (h : bnd x k = .ok r) : ∃ a u, x = .ok (a, u) ∧ k a u = .ok r := by
  cases x with
  | error e => cases h
  | ok p => exact ⟨p.1, p.2, rfl, h⟩
theorem lim_i (n : Int) : I64 (lim n) := by
  have := lim_I64 n
  unfold I64; unfold mn mx at this; omega
theorem wr_i (n : Int) : I64 (wr n) := by
  unfold wr I64; rw [Go.K.wrap_i64]; split <;> omega
theorem op2_i {k x y v : Int} (h : op2 k x y = .ok v) : I64 v := by
  unfold op2 at h
  repeat' split at h
  all_goals cases h
  all_goals first | exact lim_i _ | (unfold I64; omega)
theorem evs_app {f : Expr → Int → R Int} : ∀ (xs ys : List Expr) (u : Int), evs f (xs ++ ys) u = bnd (evs f xs u) fun l u => bnd (evs f ys u) fun m u => .ok (l ++ m, u)
  | [], ys, u => by
    simp only [List.nil_append, evs, bnd]
    cases evs f ys u <;> rfl
  | x :: xs, ys, u => by
    simp only [List.cons_append, evs]
    cases h : f x u with
    | error e => rfl
    | ok p =>
      obtain ⟨v, u1⟩ := p
      simp only [bnd, evs_app xs ys u1]
      cases h2 : evs f xs u1 with
      | error e => rfl
      | ok q =>
        obtain ⟨l, u2⟩ := q
        simp only
        cases h3 : evs f ys u2 <;> rfl
theorem evs_rng {f : Expr → Int → R Int} : ∀ {xs : List Expr} {u : Int} {l : List Int} {u' : Int}, (∀ x ∈ xs, ∀ u v u', f x u = .ok (v, u') → I64 v ∧ u ≤ u') → evs f xs u = .ok (l, u') → l.length = xs.length ∧ (∀ v ∈ l, I64 v) ∧ u ≤ u'
  | [], u, l, u', _, h => by cases h; exact ⟨rfl, fun v hv => absurd hv (List.not_mem_nil), Int.le_refl _⟩
  | x :: xs, u, l, u', hf, h => by
    unfold evs at h
    obtain ⟨v, u1, h1, h⟩ := bnd_okE h
    obtain ⟨vs, u2, h2, h⟩ := bnd_okE h
    cases h
    obtain ⟨i1, i2⟩ := hf x (List.mem_cons_self ..) _ _ _ h1
    obtain ⟨j1, j2, j3⟩ := evs_rng (fun y hy => hf y (List.mem_cons_of_mem _ hy)) h2
    refine ⟨by simp [j1], fun y hy => ?_, by omega⟩
    rcases List.mem_cons.1 hy with rfl | hy
    · exact i1
    · exact j2 y hy
theorem kid_mem {x : Expr} {i : Nat} (h : i < x.Kids.length) : kid x i ∈ x.Kids := by
  unfold kid
  rw [gDD, List.getElem?_eq_getElem h]
  exact List.getElem_mem h
theorem kid_get {x : Expr} {i : Nat} (h : i < x.Kids.length) : kid x i = x.Kids[i] := by
  unfold kid
  rw [gDD, List.getElem?_eq_getElem h]; rfl
variable {e : Env} {fs : List RFunc} {f : Facts} {d : Dt}
theorem ev_rngA (hJ : ∀ q ∈ fs, (jx e fs q.Params 40 q.Body).2 = true) (hF : ∀ n o q, I64 (factV f d n o q)) : ∀ (g : Nat) (c : Int) (x : Expr) (ts ps : List Int) (j : Nat) (u v u' : Int), (jx e fs ts j x).2 = true → ps.length = ts.length → (∀ p ∈ ps, I64 p) → ev fs f d g c x ps u = .ok (v, u') → I64 v ∧ u ≤ u' := by
  intro g
  induction g with
  | zero => intro c x ts ps j u v u' _ _ _ h; rw [ev] at h; cases h
  | succ g ih =>
    intro c x ts ps j u v u' hj hl hp h
    cases j with
    | zero => exact absurd hj (by rw [jx_zero]; simp)
    | succ j =>
    have hn := jx_node hj
    have hk := jx_kid hj
    have hI : ∀ {y : Expr} {u v u' : Int}, y ∈ x.Kids → ev fs f d g c y ps u = .ok (v, u') → I64 v ∧ u ≤ u' := fun hy h => ih _ _ _ _ _ _ _ _ (hk _ hy) hl hp h
    rw [ev] at h
    by_cases k0 : x.Kind = 0
    · rw [if_pos k0] at h
      have k := k0
      cases h
      have := hn.k0 k
      exact ⟨by unfold I64; omega, Int.le_refl _⟩
    rw [if_neg k0] at h
    by_cases k15 : x.Kind = 15
    · rw [if_pos k15] at h
      have k := k15
      cases h
      have := hn.k15 k
      refine ⟨?_, Int.le_refl _⟩
      rw [gDD, List.getElem?_eq_getElem (by omega)]
      exact hp _ (List.getElem_mem _)
    rw [if_neg k15] at h
    by_cases k1 : x.Kind = 1
    · rw [if_pos k1] at h
      have k := k1
      cases h; exact ⟨hF _ _ _, Int.le_refl _⟩
    rw [if_neg k1] at h
    by_cases k2 : x.Kind = 2
    · rw [if_pos k2] at h
      have k := k2
      obtain ⟨a, u1, h1, h⟩ := bnd_okE h
      cases h
      exact ⟨lim_i _, (hI (kid_mem (by have := hn.a1 (.inl k); omega)) h1).2⟩
    rw [if_neg k2] at h
    by_cases k3 : x.Kind = 3
    · rw [if_pos k3] at h
      have k := k3
      obtain ⟨a, u1, h1, h⟩ := bnd_okE h
      cases h
      exact ⟨wr_i _, (hI (kid_mem (by have := hn.a1 (.inr k); omega)) h1).2⟩
    rw [if_neg k3] at h
    by_cases k11 : x.Kind = 11
    · rw [if_pos k11] at h
      have k := k11
      have hl2 := hn.a2 (by omega) (by omega) (by omega) (by omega) (by omega) (by omega) (by omega)
      obtain ⟨a, u1, h1, h⟩ := bnd_okE h
      have i1 := (hI (kid_mem (by omega)) h1).2
      split at h
      · cases h; exact ⟨by unfold I64; omega, i1⟩
      · have := hI (kid_mem (by omega)) h
        exact ⟨this.1, by omega⟩
    rw [if_neg k11] at h
    by_cases k12 : x.Kind = 12
    · rw [if_pos k12] at h
      have k := k12
      have hl2 := hn.a2 (by omega) (by omega) (by omega) (by omega) (by omega) (by omega) (by omega)
      obtain ⟨a, u1, h1, h⟩ := bnd_okE h
      have i1 := (hI (kid_mem (by omega)) h1).2
      split at h
      · cases h; exact ⟨by unfold I64; omega, i1⟩
      · have := hI (kid_mem (by omega)) h
        exact ⟨this.1, by omega⟩
    rw [if_neg k12] at h
    by_cases k13 : x.Kind = 13
    · rw [if_pos k13] at h
      have k := k13
      have hl3 := hn.a3 k
      obtain ⟨a, u1, h1, h⟩ := bnd_okE h
      have i1 := (hI (kid_mem (by omega)) h1).2
      split at h
      · have := hI (kid_mem (by omega)) h
        exact ⟨this.1, by omega⟩
      · have := hI (kid_mem (by omega)) h
        exact ⟨this.1, by omega⟩
    rw [if_neg k13] at h
    by_cases k14 : x.Kind = 14
    · rw [if_pos k14] at h
      have k := k14
      obtain ⟨h14a, h14b, h14c⟩ := hn.k14 k
      obtain ⟨vs, u1, h1, h⟩ := bnd_okE h
      obtain ⟨r1, r2, r3⟩ := evs_rng (fun y hy u v u' h => hI hy h) h1
      split at h
      · cases h
      split at h
      · cases h
      have hm : fs.getD x.N.toNat default ∈ fs := by
        rw [gDD, List.getElem?_eq_getElem (by omega)]
        exact List.getElem_mem _
      have := ih _ _ _ _ _ _ _ _ (hJ _ hm) (by omega) r2 h
      exact ⟨this.1, by omega⟩
    rw [if_neg k14] at h
    · have hl2 := hn.a2 (by omega) (by omega) (by omega) (by omega) (by omega) (by omega) (by omega)
      obtain ⟨a, u1, h1, h⟩ := bnd_okE h
      obtain ⟨b, u2, h2, h⟩ := bnd_okE h
      have i1 := (hI (kid_mem (by omega)) h1).2
      have i2 := (hI (kid_mem (by omega)) h2).2
      split at h
      · cases h
      · rename_i ho
        cases h
        exact ⟨op2_i ho, by omega⟩
theorem ev_rng (hJ : ∀ q ∈ fs, (jx e fs q.Params 40 q.Body).2 = true) (hF : ∀ n o q, I64 (factV f d n o q)) (g : Nat) {c : Int} {x : Expr} {ts ps : List Int} {j : Nat} {u v u' : Int} (hj : (jx e fs ts j x).2 = true) (hl : ps.length = ts.length) (hp : ∀ p ∈ ps, I64 p) (h : ev fs f d g c x ps u = .ok (v, u')) : I64 v ∧ u ≤ u' := ev_rngA hJ hF g c x ts ps j u v u' hj hl hp h
end Mn
namespace Bt
structure Order where
  Cmds : List (Int × Int)
  Used : Int
  Fault : Int
end Bt
namespace Mn
open Bt Ru
abbrev big : Nat := 5000
def cls (fs : List RFunc) (f : Facts) (d : Dt) (ps : List Int) : List RClause → List Bool → List Int → Int → R (List Bool × List Int)
  | [], s, t, u => .ok ((s, t), u)
  | c :: cs, s, t, u =>
    if 10000 ≤ u then .error (14, u)
    else if s.getD c.Link.toNat false = true then cls fs f d ps cs s t (u + 1)
    else bnd (ev fs f d big 0 c.If [] (u + 1)) fun v u =>
      if v = 0 then cls fs f d ps cs s t u
      else bnd (ev fs f d big 0 c.To [] u) fun v u => cls fs f d ps cs (s.set c.Link.toNat true) (t.set c.Link.toNat (clampI v 0 (ps.getD c.Link.toNat 0))) u
def cmds (s : List Bool) (t : List Int) : List (Int × Int) := (List.range s.length).flatMap fun l => if s.getD l false = true then [((l : Int), t.getD l 0)] else []
def runR (ps : List Int) (r : Rule) (f : Facts) : Order := match cls r.Funcs f (dateOf f.Hour).1 ps r.Clauses (List.replicate ps.length false) (List.replicate ps.length 0) 0 with
  | .error e => ⟨[], e.2, e.1⟩
  | .ok ((s, t), u) => ⟨cmds s t, u, 0⟩
def run (e : Env) (ps : List Int) (r : Rule) (f : Facts) : Order := if rightR e r = true then runR ps r f else ⟨[], 0, 1⟩
theorem clampI_i {n lo hi : Int} (h1 : Go.K.I64 n) (h2 : Go.K.I64 lo) (h3 : Go.K.I64 hi) : Go.K.I64 (clampI n lo hi) := by
  unfold clampI; split
  · exact h2
  · split
    · exact h3
    · exact h1
end Mn
