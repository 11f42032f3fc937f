/- Lemmas. Conditions: those of each theorem. -/
import Derived.Test.YtnfmjfheciihjaaGreatDoorXRuU
set_option maxRecDepth 8000
set_option maxHeartbeats 16000000
namespace Go.Proofs.YtnfmjfheciihjaaGreatDoor
open Go Go.K Go.RowKit
open Ru (tr trs pB nC TrF fC cC prC fnP clP Tl NmS BasV ixM wfH okT)
attribute [local irreducible] AW RW DW Post Qt
theorem tprogram_c (w : World) {Φ : Hp} {fs : List Bt.Fn} {cs : List Bt.Cl} {fv cv : Value} {l F m G : List Nat} {t : Nat} {a : Int} (hok : Ru.okR (fs, cs)) (hfr : RowS Φ fv 143 1 fs.length (l.map pB)) (hfl : fnP.L Φ fs l F) (hcr : RowS Φ cv 148 1 cs.length (m.map pB)) (hcl : clP.L Φ cs m G)
  (h0 : StP ⟨w, Φ, fps [tB fv cv t a]⟩ Φ [tB fv cv t a] w) : Calls pg 33 #[pB t] w (OwnU w Φ [tB fv cv t a] (fun _ : Unit => .tuple #[]) fun _ => [tB fv cv t (Ru.lstL a (Ru.tyP (fs, cs)))]) := by
 refine calls_of_AW (args := [pB t]) Tryz.func33 rfl (lBT rfl) (St ⟨w, Φ, fps [tB fv cv t a]⟩ Φ [tB fv cv t a]) h0 ?_
 show AW _ _ [] _ _ _ [(0, pB t)] _
 obtain ⟨hof, hoc, hnf, hnc⟩ := hok
 simp only at hof hoc hnf hnc
 have hC : FCtx Φ fs fv := ⟨⟨l, F, hfr, hfl⟩, hnf, fun f hf => (hof f hf).2.2⟩
 have hT := fun n => texpr_c (cv := cv) (t := t) hC n
 have hfv := hfr.isSl
 have hcv := hcr.isSl
 repeat refine gs1 ?_
 refine AW.loop (fun s J g => ∃ i : Nat, s = [(0, pB t), (10, fv), (11, iV (fs.length : Int)), (12, iV (i : Int))] ∧ J = St ⟨w, Φ, fps [tB fv cv t a]⟩ Φ [tB fv cv t (Ru.lstL a ((fs.take i).flatMap fun f => Ru.wantB fs f.params f.body f.result))] ∧ g = fs.length - i ∧ i ≤ fs.length) (s0 := _) (J1 := _) (m0 := _) ⟨0, rfl, rfl, rfl, Nat.zero_le _⟩ ⟨rfl, rfl, rfl, rfl, trivial⟩ (fun _ h => h) ?_
 rintro _ _ _ _ ⟨i, rfl, rfl, rfl, hi⟩
 repeat refine gs1 ?_
 refine AW.cond rfl (fun h => ?_) fun h => ?_
 ·
  have h : i < fs.length := by have := odT h; omega
  obtain ⟨bf, F1, hbf, pv, bd, G1, hb1, hb2, hb3, _⟩ := Ru.OP.Lget hfl i h
  obtain ⟨ho1, ho2, ho3⟩ := hof fs[i] (List.getElem_mem h)
  have pe : PCell Φ (Value.at fv (i * 1)) (pB bf) := Ru.RowS.cellP hfr (by rw [Nat.mul_one, List.getElem?_map, hbf]; rfl)
  have q4 : PCell Φ ⟨bf, 4, none⟩ (iV fs[i].result) := PCell.blk (cs := fC fs[i].name pv fs[i].result (pB bd)) hb1 rfl
  have q5 : PCell Φ ⟨bf, 5, none⟩ (pB bd) := PCell.blk (cs := fC fs[i].name pv fs[i].result (pB bd)) hb1 rfl
  have hfp : FP Φ fs[i].params (pB bf) := .inr ⟨bf, _, pv, _, bd, rfl, hb1, hb2⟩
  repeat refine gs1 ?_
  refine AW.drawZ (J0 := St ⟨w, Φ, fps [tB fv cv t a]⟩ Φ [tB fv cv t (Ru.lstL a ((fs.take i).flatMap fun f => Ru.wantB fs f.params f.body f.result))]) [.q, .q, .q, .q, .q, .q, .q, .q, .q, .q, .e] [0, 1, 2, 3, 4, 5, 6, 7, 8, 9, 10] hmix (by kernel_rfl) ?_
  repeat refine gs1 ?_
  refine DW.eff _ _ (fun hh => absurd rfl hh) rfl (e_ownU (args := #[pB t, pB bd, pB bf, iV fs[i].result]) (C2 := []) [0] (by decide) rfl oK rfl rfl (fun w1 hw1 => want_of (hT _) (Nat.le_refl _) ho2 ho1 hb3 hfp hw1)) fun _ => ?_
  repeat refine gs1 ?_
  have e1 : (fs.take (i + 1)).flatMap (fun f => Ru.wantB fs f.params f.body f.result) = (fs.take i).flatMap (fun f => Ru.wantB fs f.params f.body f.result) ++ Ru.wantB fs fs[i].params fs[i].body fs[i].result := by rw [Ru.take_snoc h, List.flatMap_append, List.flatMap_cons, List.flatMap_nil, List.append_nil]
  exact Post.back (s' := _) (J' := _) (m' := _) (by omega) ⟨i + 1, rfl, rfl, rfl, by omega⟩ ⟨rfl, rfl, rfl, rfl, trivial⟩ (fun _ h => by rw [e1, Ru.lstL_app]; exact h)
 ·
  have h : i = fs.length := by have := odF h; omega
  subst h
  rw [List.take_length]
  generalize ha1 : Ru.lstL a (fs.flatMap fun f => Ru.wantB fs f.params f.body f.result) = a1
  repeat refine gs1 ?_
  refine AW.loop (fun s J g => ∃ i : Nat, s = [(0, pB t), (32, cv), (33, iV (cs.length : Int)), (34, iV (i : Int))] ∧ J = St ⟨w, Φ, fps [tB fv cv t a]⟩ Φ [tB fv cv t (Ru.lstL a1 ((cs.take i).flatMap fun c => Ru.wantB fs [] c.cond 1 ++ Ru.wantB fs [] c.value 0))] ∧ g = cs.length - i ∧ i ≤ cs.length) (s0 := _) (J1 := _) (m0 := _) ⟨0, rfl, rfl, rfl, Nat.zero_le _⟩ ⟨rfl, rfl, rfl, rfl, trivial⟩ (fun _ h => h) ?_
  rintro _ _ _ _ ⟨i, rfl, rfl, rfl, hi⟩
  repeat refine gs1 ?_
  refine AW.cond rfl (fun h => ?_) fun h => ?_
  ·
   have h : i < cs.length := by have := odT h; omega
   obtain ⟨bq, F1, hbq, bc, bv, G1, G2, hb1, hb2, hb3, _⟩ := Ru.OP.Lget hcl i h
   obtain ⟨ho1, ho2, ho3, ho4⟩ := hoc cs[i] (List.getElem_mem h)
   have pe : PCell Φ (Value.at cv (i * 1)) (pB bq) := Ru.RowS.cellP hcr (by rw [Nat.mul_one, List.getElem?_map, hbq]; rfl)
   have q3 : PCell Φ ⟨bq, 3, none⟩ (pB bc) := PCell.blk (cs := cC cs[i].link (pB bc) (pB bv)) hb1 rfl
   have q4 : PCell Φ ⟨bq, 4, none⟩ (pB bv) := PCell.blk (cs := cC cs[i].link (pB bc) (pB bv)) hb1 rfl
   have hfp : FP Φ [] (.pointer none) := .inl ⟨rfl, rfl⟩
   repeat refine gs1 ?_
   refine RW.ownU (args := #[pB t, pB bc, .pointer none, iV 1]) (C2 := []) [0] (by decide) rfl rfl oK rfl rfl (fun w1 hw1 => want_of (ps := []) (hT _) (Nat.le_refl _) ho2 ho1 hb2 hfp hw1) fun _ => ?_
   repeat refine gs1 ?_
   refine RW.ownU (args := #[pB t, pB bv, .pointer none, iV 0]) (C2 := []) [0] (by decide) rfl rfl oK rfl rfl (fun w1 hw1 => want_of (ps := []) (hT _) (Nat.le_refl _) ho4 ho3 hb3 hfp hw1) fun _ => ?_
   repeat refine gs1 ?_
   have e1 : (cs.take (i + 1)).flatMap (fun c => Ru.wantB fs [] c.cond 1 ++ Ru.wantB fs [] c.value 0) = (cs.take i).flatMap (fun c => Ru.wantB fs [] c.cond 1 ++ Ru.wantB fs [] c.value 0) ++ (Ru.wantB fs [] cs[i].cond 1 ++ Ru.wantB fs [] cs[i].value 0) := by rw [Ru.take_snoc h, List.flatMap_append, List.flatMap_cons, List.flatMap_nil, List.append_nil]
   exact Post.back (s' := _) (J' := _) (m' := _) (by omega) ⟨i + 1, rfl, rfl, rfl, by omega⟩ ⟨rfl, rfl, rfl, rfl, trivial⟩ (fun _ h => by rw [e1, Ru.lstL_app, Ru.lstL_app]; exact h)
  ·
   have h : i = cs.length := by have := odF h; omega
   subst h
   rw [List.take_length]
   have e2 : Ru.lstL a1 (cs.flatMap fun c => Ru.wantB fs [] c.cond 1 ++ Ru.wantB fs [] c.value 0) = Ru.lstL a (Ru.tyP (fs, cs)) := by unfold Ru.tyP; rw [Ru.lstL_app, ← ha1]
   rw [e2]
   repeat refine gs1 ?_
   exact fin_none (J' := St ⟨w, Φ, fps [tB fv cv t a]⟩ Φ [tB fv cv t (Ru.lstL a (Ru.tyP (fs, cs)))]) rfl rfl (fun _ h => h) (fun w1 hw1 => ⟨(), rfl, hw1⟩)
def RlV (Ψ : Hp) (r : Bt.Rule) (y : Value × Value) : Prop := RepSl Ψ r.Funcs y.1 ∧ RepSl Ψ r.Clauses y.2
abbrev ParR2 (w : World) (Φ : Hp) (x : Bt.Rule × Int × Int) : Ending → World → Prop := RetS Φ w fun v Ψ => ∃ y : Value × Value, v = .tuple #[.agg #[y.1, y.2], iV x.2.1, iV x.2.2] ∧ RlV Ψ x.1 y
theorem repSl_nil {α : Type} [Rep α] {Ψ : Hp} : RepSl Ψ ([] : List α) nS := ⟨isSl_nil, by show 0 * _ ≤ maxSl; rw [Nat.zero_mul]; exact Nat.zero_le _, fun i hi => by cases hi⟩
theorem parR2_err {w w' : World} {Φ Ψ : Hp} {C : List Chunk} {x : Bt.Rule × Int × Int} {k a : Int} (h : StP ⟨w, Φ, []⟩ Ψ C w') (hx : x = (default, k, a)) : ParR2 w Φ x (.returned (.tuple #[.agg [.slice none 0 0, .slice none 0 0].toArray, iV k, iV a])) w' := by
 subst hx
 exact ⟨_, rfl, h.below rfl, (.slice none 0 0, .slice none 0 0), rfl, repSl_nil, repSl_nil⟩
theorem rParse_c (w : World) (Φ : Hp) (hΦ : Hp.le Φ (hp w)) (hG : Knows Φ Glob) {b : BasV} {e : Ru.Env} (hb : b.ok Φ e) {l : List UInt8} (hl : l.length ≤ maxLen) :
  Calls pg 16 #[.agg b.cs.toArray, .string (bs l)] w (ParR2 w Φ (Ru.ruleParse e l)) := by
 refine calls_of_AW (args := [.agg b.cs.toArray, .string (bs l)]) Tryz.func16 rfl (lBT rfl) (St ⟨w, Φ, []⟩ Φ []) (StP.init w Φ hΦ []) ?_
 show AW _ _ [] _ _ _ [(0, .agg b.cs.toArray), (1, .string (bs l))] _
 repeat refine gs1 ?_
 refine RW.bxA (cs := b.cs) rfl rfl fun b2 => ?_
 repeat refine gs1 ?_
 refine RW.alc rfl fun b4 => ?_
 repeat refine gs1 ?_
 refine RW.q rfl (q_lenS rfl uT9) ?_
 repeat refine gs1 ?_
 refine AW.cond rfl (fun h0 => ?_) fun h0 => ?_
 ·
  have h0 : 8192 < l.length := by have := odT h0; omega
  repeat refine gs1 ?_
  refine RW.q (v := .agg [.slice none 0 0, .slice none 0 0].toArray) rfl (q_build (vals := []) zero35 uT35 places35 rfl rfl) ?_
  repeat refine gs1 ?_
  exact fin_res (vs := [.agg [.slice none 0 0, .slice none 0 0].toArray, iV 8, iV 0]) rfl rfl ⟨.agg rfl rfl (Cells.blk 0 rfl), .tmp rfl, .tmp rfl, trivial⟩ rfl (fun w1 hw1 => parR2_err hw1 (by unfold Ru.ruleParse; rw [if_pos h0]))
 have h0 : ¬ 8192 < l.length := by have := odF h0; omega
 repeat refine gs1 ?_
 refine RW.eff _ _ rfl (e_callS (args := #[.string (bs l)]) oK rfl rfl (fun w1 hw1 => Scan_c w1 Φ hw1.phi hl)) ?_
 rintro ⟨⟨rv, Ψ⟩, ⟨tv, hrv, htv⟩, hlΨ⟩
 simp only at hrv htv hlΨ ⊢
 subst hrv
 repeat refine gs1 ?_
 refine AW.cond rfl (fun h1 => ?_) fun h1 => ?_
 ·
  have h1 : (Lx.scan l).2.1 ≠ 0 := by simpa using h1
  repeat refine gs1 ?_
  refine RW.q (v := .agg [.slice none 0 0, .slice none 0 0].toArray) rfl (q_build (vals := []) zero35 uT35 places35 rfl rfl) ?_
  repeat refine gs1 ?_
  exact fin_res (vs := [.agg [.slice none 0 0, .slice none 0 0].toArray, iV (Lx.scan l).2.1, iV (Lx.scan l).2.2]) rfl rfl ⟨.agg rfl rfl (Cells.blk 0 rfl), .tmp rfl, .tmp rfl, trivial⟩ rfl (fun w1 hw1 => parR2_err hw1 (by unfold Ru.ruleParse; rw [if_neg h0, if_pos h1]))
 have h1 : (Lx.scan l).2.1 = 0 := by simpa using h1
 obtain ⟨hgood, hwf, hlen, _⟩ := Pa.scan_good h1
 have hln := Ru.scan_len h1
 have hgrow : ∀ {b o}, Φ b = some o → Ψ b = some o := fun h => hlΨ _ _ h
 have hGΨ : Knows Ψ Glob := hG.mono hlΨ
 generalize hts : (Lx.scan l).1 = ts at *
 have hok : Ru.okP 20000 (Ru.parse ts).1 := by
  have h := Ru.parse_sh hgood
  exact ⟨fun x hx => (h.1 x hx).mono (by omega), fun x hx => (h.2.1 x hx).mono (by omega), by have := h.2.2; omega⟩
 have hfr := Ru.parse_fr (P := fun a => 0 ≤ a) hgood (fun t ht => (hwf t ht).2.2.2.1)
 have hpc : PCtx Ψ ts tv := ⟨htv, hwf, hlen⟩
 repeat refine gs1 ?_
 refine RW.own (args := #[tv]) (A := []) (C2 := [.blk b4 35 [.slice none 0 0, .slice none 0 0], .blk b2 31 b.cs]) [0, 1] (by decide) rfl rfl oK rfl rfl (fun w1 hw1 => parse_c w1 Ψ hw1.phi hGΨ hpc hgood) (fun er CE w2 he => nomatch he) ?_
 rintro x ⟨fv, cv, l1, F, m, G⟩ hx
 have hx : Ru.parse ts = x := by cases hx; rfl
 rw [hx] at hok hfr
 obtain ⟨⟨fs, cs⟩, code, at_⟩ := x
 simp only at hok hfr
 refine RW.use (φ := IsSl fv fs.length ∧ IsSl cv cs.length) (fun w1 hw1 => ⟨RowS.isSl (hw1.sAt 0 rfl), RowS.isSl (hw1.sAt 2 rfl)⟩) fun hsl => ?_
 obtain ⟨⟨fA, fc, rfl, hf1⟩, ⟨cA, cc, rfl, hc1⟩⟩ := hsl
 repeat refine gs1 ?_
 refine RW.alc rfl fun b10 => ?_
 repeat refine gs1 ?_
 refine AW.cond rfl (fun h2 => ?_) fun h2 => ?_
 ·
  have h2 : code ≠ 0 := by simpa using h2
  repeat refine gs1 ?_
  refine RW.q (v := .agg [.slice none 0 0, .slice none 0 0].toArray) rfl (q_build (vals := []) zero35 uT35 places35 rfl rfl) ?_
  repeat refine gs1 ?_
  exact fin_res (vs := [.agg [.slice none 0 0, .slice none 0 0].toArray, iV code, iV at_]) rfl rfl ⟨.agg rfl rfl (Cells.blk 5 rfl), .tmp rfl, .tmp rfl, trivial⟩ rfl (fun w1 hw1 => parR2_err hw1 (by unfold Ru.ruleParse; rw [if_neg h0, if_neg (by rw [h1]; simp), hts, hx, if_pos h2]))
 have h2 : code = 0 := by simpa using h2
 have hd : ∀ t ∈ Ru.trees (fs, cs), Ru.dep t ≤ 1000000 := fun t ht => by
  have hdn := Ru.dep_nn t
  rw [Ru.trees_eq] at ht
  rcases List.mem_append.1 ht with ht | ht
  ·
   obtain ⟨f, hf, rfl⟩ := List.mem_map.1 ht
   have := (hok.1 f hf).2.2.2; omega
  ·
   obtain ⟨c, hc, ht⟩ := List.mem_flatMap.1 ht
   have := hok.2.1 c hc
   simp only [Ru.clT, List.mem_cons, List.not_mem_nil, or_false] at ht
   rcases ht with rfl | rfl
   ·
    have := this.2.1; omega
   ·
    have := this.2.2.2; omega
 have hcnt : fs.length + cs.length ≤ 20000 := hok.2.2
 repeat refine gs1 ?_
 refine RW.q (v := iV (Ru.tooDeep (fs, cs))) rfl (q_call (args := #[.agg #[.slice fA fs.length fc, .slice cA cs.length cc]]) oK rfl rfl (fun w1 hw1 => tooDeep_c w1 (x := (fs, cs)) (hw1.sAt 1 rfl) (hw1.sAt 2 rfl).1 (hw1.sAt 3 rfl) (hw1.sAt 4 rfl).1 hd (by simp only; omega))) ?_
 repeat refine gs1 ?_
 refine AW.cond rfl (fun h3 => ?_) fun h3 => ?_
 ·
  have h3 : 0 ≤ Ru.tooDeep (fs, cs) := odT h3
  repeat refine gs1 ?_
  refine RW.q (v := .agg [.slice none 0 0, .slice none 0 0].toArray) rfl (q_build (vals := []) zero35 uT35 places35 rfl rfl) ?_
  repeat refine gs1 ?_
  exact fin_res (vs := [.agg [.slice none 0 0, .slice none 0 0].toArray, iV 8, iV (Ru.tooDeep (fs, cs))]) rfl rfl ⟨.agg rfl rfl (Cells.blk 5 rfl), .tmp rfl, .tmp rfl, trivial⟩ rfl (fun w1 hw1 => parR2_err hw1 (by unfold Ru.ruleParse; rw [if_neg h0, if_neg (by rw [h1]; simp), hts, hx, if_neg (by rw [h2]; simp), if_pos h3]))
 have h3 : ¬ 0 ≤ Ru.tooDeep (fs, cs) := odF h3
 have hbΨ := hb.mono hlΨ
 repeat refine gs1 ?_
 refine RW.mk (args := #[.agg b.cs.toArray, .agg #[.slice fA fs.length fc, .slice cA cs.length cc]]) rfl oK rfl rfl (fun w1 hw1 => newResolver_c w1 (hbΨ.mono hw1.phi) (hw1.sAt 1 rfl) (hw1.sAt 2 rfl).1) fun z => (RW.wk (J' := St ⟨w, Φ, []⟩ Ψ [tab z.m1 e.places, tab z.m2 e.owners, tab z.m3 e.links, tab z.m4 e.towns, tab z.m5 (Ru.fnN fs), .blk z.r 110 (rC (.slice fA fs.length fc) (.slice cA cs.length cc) z (-1)), .blk b10 101 [.slice fA fs.length fc, .slice cA cs.length cc], .row (.slice fA fs.length fc) 143 1 fs.length (l1.map pB), fnP.cks fs l1 F, .row (.slice cA cs.length cc) 148 1 cs.length (m.map pB), clP.cks cs m G, .blk b4 35 [.slice none 0 0, .slice none 0 0], .blk b2 31 b.cs]) (fun _ h => StP.sel h [1, 2, 3, 4, 5, 0, 6, 7, 8, 9, 10, 11, 12] (by decide) rfl) (RW.frzB rfl fun Ω1 hk1 ht1 => (RW.frzB rfl fun Ω2 hk2 ht2 => (RW.frzB rfl fun Ω3 hk3 ht3 => (RW.frzB rfl fun Ω4 hk4 ht4 => (RW.frzB rfl fun Ω5 hk5 ht5 => ?_))))))
 have hle5 : Hp.le Ψ Ω5 := (((hk1.trans hk2).trans hk3).trans hk4).trans hk5
 have hR : RCtx Ω5 z e (Ru.fnN fs) := ⟨tab_up ht1 (((hk2.trans hk3).trans hk4).trans hk5), tab_up ht2 ((hk3.trans hk4).trans hk5), tab_up ht3 (hk4.trans hk5), tab_up ht4 hk5, ht5, hb.p.big, hb.o.big, hb.l.big, hb.t.big, by simp only [Ru.fnN, List.length_map]; omega⟩
 repeat refine gs1 ?_
 refine RW.ownG (args := #[pB z.r]) (C2 := [.blk b10 101 [.slice fA fs.length fc, .slice cA cs.length cc], .blk b4 35 [.slice none 0 0, .slice none 0 0], .blk b2 31 b.cs]) [0, 2, 3, 4, 5, 1, 6, 7] (by decide) rfl rfl oK rfl rfl (fun w1 hw1 => rule_c w1 hR hok hw1) ?_
 rintro ⟨v1, v2⟩ Ω6 hk6 ⟨hr1, hr2⟩
 obtain ⟨uA, uc, hu, _⟩ := hr1.sl
 obtain ⟨xA, xc, hxs, _⟩ := hr2.sl
 simp only at hu hxs hr1 hr2
 subst hu; subst hxs
 refine RW.alc rfl fun b13 => ?_
 repeat refine gs1 ?_
 refine AW.cond rfl (fun h4 => ?_) fun h4 => ?_
 ·
  have h4 : 0 ≤ Ru.lstL (-1) (Ru.badP e (fs, cs)) := odT h4
  repeat refine gs1 ?_
  refine AW.drawZ (J0 := St ⟨w, Φ, []⟩ Ω6 [.blk z.r 110 (rC (.slice fA fs.length fc) (.slice cA cs.length cc) z (Ru.lstL (-1) (Ru.badP e (fs, cs))))]) [.q, .q, .q, .q, .q, .e, .q, .q] [0, 1, 2, 3, 4, 5, 6, 7] hmix (by kernel_rfl) (DW.q (v := .agg [.slice none 0 0, .slice none 0 0].toArray) (fun _ h => StP.drop h (by repeat first | exact List.Sublist.refl _ | apply List.Sublist.cons_cons | apply List.Sublist.cons)) rfl (q_build (vals := []) zero35 uT35 places35 rfl rfl) ?_)
  repeat refine gs1 ?_
  refine DW.effn (fun _ _ h => StP.drop h (by repeat first | exact List.Sublist.refl _ | apply List.Sublist.cons_cons | apply List.Sublist.cons)) (e_stA (cs' := [.slice none 0 0, .slice none 0 0]) 7 rfl rfl rfl rfl rfl rfl) ?_
  repeat refine gs1 ?_
  exact fin_res (vs := [.agg [.slice none 0 0, .slice none 0 0].toArray, iV 4, iV (Ru.lstL (-1) (Ru.badP e (fs, cs)))]) rfl rfl ⟨.agg rfl rfl (Cells.blk 7 rfl), .tmp rfl, .tmp rfl, trivial⟩ rfl (fun w1 hw1 => parR2_err hw1 (by unfold Ru.ruleParse; rw [if_neg h0, if_neg (by rw [h1]; simp), hts, hx, if_neg (by rw [h2]; simp), if_neg h3, if_pos h4]))
 have h4 : ¬ 0 ≤ Ru.lstL (-1) (Ru.badP e (fs, cs)) := odF h4
 have hbad : Ru.badP e (fs, cs) = [] := Ru.lstL_neg (a := -1) (Ru.badP_mem hfr.1 hfr.2) (by omega)
 have hokr := Ru.okR_res (e := e) hok hbad
 repeat refine gs1 ?_
 refine RW.q (v := .agg [.slice fA fs.length fc, .slice cA cs.length cc, iV (-1)].toArray) rfl (q_build (vals := [(0, .agg #[.slice fA fs.length fc, .slice cA cs.length cc]), (1, iV (-1))]) zero112 uT112 places112 rfl (by kernel_rfl)) ?_
 refine RW.alc rfl fun b14 => ?_
 repeat refine gs1 ?_
 refine RW.wk (J' := St ⟨w, Φ, []⟩ Ω6 [.row (.slice fA fs.length fc) 143 1 fs.length (l1.map pB), fnP.cks (fs.map (Ru.resF e fs)) l1 F, .row (.slice cA cs.length cc) 148 1 cs.length (m.map pB), clP.cks (cs.map (Ru.resC e fs)) m G, tB (.slice fA fs.length fc) (.slice cA cs.length cc) b14 (-1), .blk b13 35 [(.slice uA ((fs.map (Ru.resF e fs)).map Ru.outF).length uc), (.slice xA ((cs.map (Ru.resC e fs)).map (Ru.outC e)).length xc)], .blk z.r 110 (rC (.slice fA fs.length fc) (.slice cA cs.length cc) z (Ru.lstL (-1) (Ru.badP e (fs, cs)))), .blk b10 101 [.slice fA fs.length fc, .slice cA cs.length cc], .blk b4 35 [.slice none 0 0, .slice none 0 0], .blk b2 31 b.cs]) (fun _ h => StP.sel h [3, 4, 5, 6, 0, 1, 2, 7, 8, 9] (by decide) rfl) (RW.frzB rfl fun Θ1 hq1 hs1 => (RW.frzB rfl fun Θ2 hq2 hs2 => (RW.frzB rfl fun Θ3 hq3 hs3 => (RW.frzB rfl fun Θ4 hq4 hs4 => ?_))))
 have hs1 : RowS Θ4 (.slice fA fs.length fc) 143 1 (fs.map (Ru.resF e fs)).length (l1.map pB) := by rw [List.length_map]; exact RowS.up hs1 ((hq2.trans hq3).trans hq4)
 have hs2 := Ru.OP.Lup hs2.1 (hq3.trans hq4)
 have hs3 : RowS Θ4 (.slice cA cs.length cc) 148 1 (cs.map (Ru.resC e fs)).length (m.map pB) := by rw [List.length_map]; exact RowS.up hs3 hq4
 have hs4 := hs4.1
 have hle9 : Hp.le Ω6 Θ4 := ((hq1.trans hq2).trans hq3).trans hq4
 refine RW.ownU (args := #[pB b14]) (C2 := [.blk b13 35 [(.slice uA ((fs.map (Ru.resF e fs)).map Ru.outF).length uc), (.slice xA ((cs.map (Ru.resC e fs)).map (Ru.outC e)).length xc)], .blk z.r 110 (rC (.slice fA fs.length fc) (.slice cA cs.length cc) z (Ru.lstL (-1) (Ru.badP e (fs, cs)))), .blk b10 101 [.slice fA fs.length fc, .slice cA cs.length cc], .blk b4 35 [.slice none 0 0, .slice none 0 0], .blk b2 31 b.cs]) [0, 1, 2, 3, 4, 5] (by decide) rfl rfl oK rfl rfl (fun w1 hw1 => tprogram_c w1 hokr hs1 hs2 hs3 hs4 hw1) fun _ => ?_
 repeat refine gs1 ?_
 refine AW.cond rfl (fun h5 => ?_) fun h5 => ?_
 ·
  have h5 : 0 ≤ Ru.lstL (-1) (Ru.tyP (Ru.resP e (fs, cs))) := odT h5
  repeat refine gs1 ?_
  refine AW.drawZ (J0 := St ⟨w, Φ, []⟩ Θ4 [tB (.slice fA fs.length fc) (.slice cA cs.length cc) b14 (Ru.lstL (-1) (Ru.tyP (fs.map (Ru.resF e fs), cs.map (Ru.resC e fs))))]) [.q, .q, .q, .e, .q, .q] [0, 1, 2, 3, 4, 5] hmix (by kernel_rfl) (DW.q (v := .agg [.slice none 0 0, .slice none 0 0].toArray) (fun _ h => StP.drop h (by repeat first | exact List.Sublist.refl _ | apply List.Sublist.cons_cons | apply List.Sublist.cons)) rfl (q_build (vals := []) zero35 uT35 places35 rfl rfl) ?_)
  repeat refine gs1 ?_
  refine DW.effn (fun _ _ h => StP.drop h (by repeat first | exact List.Sublist.refl _ | apply List.Sublist.cons_cons | apply List.Sublist.cons)) (e_stA (cs' := [.slice none 0 0, .slice none 0 0]) 4 rfl rfl rfl rfl rfl rfl) ?_
  repeat refine gs1 ?_
  exact fin_res (vs := [.agg [.slice none 0 0, .slice none 0 0].toArray, iV 5, iV (Ru.lstL (-1) (Ru.tyP (fs.map (Ru.resF e fs), cs.map (Ru.resC e fs))))]) rfl rfl ⟨.agg rfl rfl (Cells.blk 4 rfl), .tmp rfl, .tmp rfl, trivial⟩ rfl (fun w1 hw1 => parR2_err hw1 (by unfold Ru.ruleParse; rw [if_neg h0, if_neg (by rw [h1]; simp), hts, hx, if_neg (by rw [h2]; simp), if_neg h3, if_neg h4, if_pos h5]; rfl))
 have h5 : ¬ 0 ≤ Ru.lstL (-1) (Ru.tyP (Ru.resP e (fs, cs))) := odF h5
 repeat refine gs1 ?_
 exact fin_res (vs := [.agg [(.slice uA ((fs.map (Ru.resF e fs)).map Ru.outF).length uc), (.slice xA ((cs.map (Ru.resC e fs)).map (Ru.outC e)).length xc)].toArray, iV 0, iV 0]) rfl rfl ⟨.agg rfl rfl (Cells.blk 4 rfl), .tmp rfl, .tmp rfl, trivial⟩ rfl (fun w1 hw1 => ⟨_, rfl, hw1.below rfl, ((.slice uA ((fs.map (Ru.resF e fs)).map Ru.outF).length uc), (.slice xA ((cs.map (Ru.resC e fs)).map (Ru.outC e)).length xc)), by unfold Ru.ruleParse; rw [if_neg h0, if_neg (by rw [h1]; simp), hts, hx, if_neg (by rw [h2]; simp), if_neg h3, if_neg h4, if_neg h5]; rfl, by
  have hΞ := hw1.phi_ext
  have he : Ru.ruleParse e l = (⟨(Ru.resP e (fs, cs)).1.map Ru.outF, (Ru.resP e (fs, cs)).2.map (Ru.outC e)⟩, 0, 0) := by unfold Ru.ruleParse; rw [if_neg h0, if_neg (by rw [h1]; simp), hts, hx, if_neg (by rw [h2]; simp), if_neg h3, if_neg h4, if_neg h5]
  rw [he]
  exact ⟨(hr1.mono hle9).mono hΞ, (hr2.mono hle9).mono hΞ⟩⟩)
end Go.Proofs.YtnfmjfheciihjaaGreatDoor
namespace Go.K
open Go Go.RowKit
section
variable {P : Program} {f : Nat → Value} {s : List (Nat × Value)} {J : Cls} {ty : TypeId} {pos : String} {af : Array Edge} {x y : Operand} {dst : Option Nat} {g : Option (Nat × Bool)} {t t' : TypeId}
theorem q_cvt {a r : Int} {k k' : IntKind} {d : TypeDesc} (hx : ev (fr f s) x = .int k' a) (h1 : P.underlying t = some d) (h2 : P.underlying t' = some (.int k)) (hw : k.wrap a = r) : Qt P J f s ⟨dst, .convert t t' x, ty, pos, af, g⟩ (.int k r) := qt_val fun w _ => by
 simp only [execOp, hx, convert, Sem.run_bind, run_underlying h1, run_underlying h2, Result.andThen_ok, Conv.intToInt, hw, Sem.run_pure]
theorem q_negW {a r : Int} {k : IntKind} (hx : ev (fr f s) x = .int k a) (hw : k.wrap (-a) = r) : Qt P J f s ⟨dst, .unOp .neg t x, ty, pos, af, g⟩ (.int k r) := qt_val fun w _ => by
 simp [execOp, hx, Op.unary, Op.intArith, hw]
end
theorem wrap_i64 (n : Int) : IntKind.i64.wrap n = if n % 18446744073709551616 ≥ 9223372036854775808 then n % 18446744073709551616 - 18446744073709551616 else n % 18446744073709551616 := by simp [IntKind.wrap, IntKind.bits, IntKind.signed]
end Go.K
namespace Go.Proofs.YtnfmjfheciihjaaGreatDoor
open Go Go.K Go.RowKit
attribute [local irreducible] AW RW DW Post Qt
theorem mat_c (w : World) {xs : List Int} {v1 : Value} {i : Int} (h1 : RepSl (hp w) xs v1) : Calls pg 78 #[v1, iV i] w fun e w' => e = .returned (iV (Mn.atL xs i)) ∧ Bel w.heap.size w w' := by
 refine calls_of_AW (args := [v1, iV i]) Tryz.func78 rfl (lBT rfl) (St ⟨w, hp w, []⟩ (hp w) []) (StP.init w (hp w) (Hp.le_refl _) []) ?_
 show AW _ _ [] _ _ _ [(0, v1), (1, iV i)] _
 have hsl := h1.sl
 repeat refine gs1 ?_
 refine RW.g (b := decide (i < 0)) (v := iV (xs.length : Int)) rfl rfl rfl (fun h => q_len_sl (gv_pos h) hsl uT29) ?_
 repeat refine gs1 ?_
 refine RW.q (v := .bool (decide (i < 0) || decide ((xs.length : Int) ≤ i))) rfl (qpO rfl rfl rfl) ?_
 repeat refine gs1 ?_
 refine AW.cond rfl (fun h => ?_) fun h => ?_
 ·
  have h : i < 0 ∨ (xs.length : Int) ≤ i := by simpa using h
  repeat refine gs1 ?_
  exact fin_res (vs := [iV 0]) rfl rfl ⟨.tmp rfl, trivial⟩ rfl (fun w' hw => ⟨by unfold Mn.atL; rw [if_pos h]; rfl, hw.below rfl⟩)
 ·
  have h : ¬ (i < 0 ∨ (xs.length : Int) ≤ i) := by simpa using h
  obtain ⟨n, rfl⟩ : ∃ n : Nat, i = n := ⟨i.toNat, by omega⟩
  have hn : n < xs.length := by omega
  have pe : PCell (hp w) (Value.at v1 (n * 1)) (iV (xs.getD n 0)) := by
   have := (h1.int hn).1
   rw [Nat.mul_one, gDD, List.getElem?_eq_getElem hn]; exact this
  repeat refine gs1 ?_
  exact fin_res (vs := [iV (xs.getD n 0)]) rfl rfl ⟨.tmp rfl, trivial⟩ rfl (fun w' hw => ⟨by unfold Mn.atL; rw [if_neg h, Int.toNat_natCast]; rfl, hw.below rfl⟩)
theorem size_c (w : World) {a : Int} (ha : I64 a) : Calls pg 107 #[iV a] w fun e w' => e = .returned (.int .u64 (a.natAbs : Int)) ∧ Bel w.heap.size w w' := by
 refine calls_of_AW (args := [iV a]) Tryz.func107 rfl (lBT rfl) (St ⟨w, hp w, []⟩ (hp w) []) (StP.init w (hp w) (Hp.le_refl _) []) ?_
 show AW _ _ [] _ _ _ [(0, iV a)] _
 unfold I64 at ha
 repeat refine gs1 ?_
 refine AW.cond rfl (fun h => ?_) fun h => ?_
 ·
  have h : a < 0 := odT h
  repeat refine gs1 ?_
  refine RW.q (v := .int .u64 (a + 18446744073709551616)) rfl (q_cvt rfl uT3 uT182 (by rw [IntKind.wrap_u64]; omega)) (RW.q (v := .int .u64 (a.natAbs : Int)) rfl (q_negW rfl (by rw [IntKind.wrap_u64]; omega)) ?_)
  repeat refine gs1 ?_
  exact fin_res (vs := [.int .u64 (a.natAbs : Int)]) rfl rfl ⟨.tmp rfl, trivial⟩ rfl (fun w' hw => ⟨rfl, hw.below rfl⟩)
 ·
  have h : ¬ a < 0 := odF h
  repeat refine gs1 ?_
  refine RW.q (v := .int .u64 (a.natAbs : Int)) rfl (q_cvt rfl uT3 uT182 (by rw [IntKind.wrap_u64]; omega)) ?_
  repeat refine gs1 ?_
  exact fin_res (vs := [.int .u64 (a.natAbs : Int)]) rfl rfl ⟨.tmp rfl, trivial⟩ rfl (fun w' hw => ⟨rfl, hw.below rfl⟩)
theorem abs_neg {a b : Int} (h : decide (a < 0) ≠ decide (b < 0)) : a * b = -((a.natAbs * b.natAbs : Nat) : Int) := by
 rw [Int.natCast_mul]
 by_cases ha : a < 0
 ·
  have hb : ¬ b < 0 := fun hb => h (by simp [ha, hb])
  rw [show (a.natAbs : Int) = -a by omega, show (b.natAbs : Int) = b by omega, Int.neg_mul, Int.neg_neg]
 ·
  have hb : b < 0 := by
   by_cases hb : b < 0
   ·
    exact hb
   ·
    exact absurd (by simp [ha, hb]) h
  rw [show (a.natAbs : Int) = a by omega, show (b.natAbs : Int) = -b by omega, Int.mul_neg, Int.neg_neg]
theorem abs_pos {a b : Int} (h : decide (a < 0) = decide (b < 0)) : a * b = ((a.natAbs * b.natAbs : Nat) : Int) := by
 rw [Int.natCast_mul]
 by_cases ha : a < 0
 ·
  have hb : b < 0 := by
   by_cases hb : b < 0
   ·
    exact hb
   ·
    simp [ha, hb] at h
  rw [show (a.natAbs : Int) = -a by omega, show (b.natAbs : Int) = -b by omega, Int.neg_mul_neg]
 ·
  have hb : ¬ b < 0 := fun hb => by simp [ha, hb] at h
  rw [show (a.natAbs : Int) = a by omega, show (b.natAbs : Int) = b by omega]
theorem mproduct_c (w : World) {a b : Int} (ha : I64 a) (hb : I64 b) : Calls pg 80 #[iV a, iV b] w fun e w' => e = .returned (iV (Mn.lim (a * b))) ∧ Bel w.heap.size w w' := by
 refine calls_of_AW (args := [iV a, iV b]) Tryz.func80 rfl (lBT rfl) (St ⟨w, hp w, []⟩ (hp w) []) (StP.init w (hp w) (Hp.le_refl _) []) ?_
 show AW _ _ [] _ _ _ [(0, iV a), (1, iV b)] _
 have ha0 := ha
 have hb0 := hb
 unfold I64 at ha0 hb0
 repeat refine gs1 ?_
 refine RW.q rfl (q_call (args := #[iV a]) oK rfl rfl (fun w1 hw1 => size_c w1 ha)) ?_
 repeat refine gs1 ?_
 refine RW.q rfl (q_call (args := #[iV b]) oK rfl rfl (fun w1 hw1 => size_c w1 hb)) (RW.q rfl (q_call (args := #[.int .u64 (a.natAbs : Int), .int .u64 (b.natAbs : Int)]) oK rfl rfl (fun w1 hw1 => Mul64_c w1 (hp w1) (Hp.le_refl _) (by omega) (by omega))) ?_)
 repeat refine gs1 ?_
 generalize hm : a.natAbs * b.natAbs = m
 have hd := Nat.div_add_mod m 18446744073709551616
 have hr := Nat.mod_lt m (show 0 < 18446744073709551616 by omega)
 generalize hh : m / 18446744073709551616 = hi at *
 generalize hlo : m % 18446744073709551616 = lo at *
 refine RW.q (v := .bool (!(decide (a < 0) == decide (b < 0)))) rfl (q_neqB rfl rfl uT4) ?_
 repeat refine gs1 ?_
 refine AW.cond rfl (fun h => ?_) fun h => ?_
 ·
  have h : decide (a < 0) ≠ decide (b < 0) := by simpa using h
  have hp1 := abs_neg h
  rw [hm] at hp1
  repeat refine gs1 ?_
  refine RW.q (v := .bool (!decide ((hi : Int) = 0) || decide ((9223372036854775808 : Int) < (lo : Int)))) rfl (qpO rfl rfl rfl) ?_
  repeat refine gs1 ?_
  refine AW.cond rfl (fun h2 => ?_) fun h2 => ?_
  ·
   have h2 : ¬ hi = 0 ∨ 9223372036854775808 < lo := by simp only [Bool.or_eq_true, Bool.not_eq_true', decide_eq_false_iff_not, decide_eq_true_eq] at h2; omega
   repeat refine gs1 ?_
   exact fin_res (vs := [iV (-9223372036854775808)]) rfl rfl ⟨.tmp rfl, trivial⟩ rfl (fun w' hw => ⟨by rw [hp1]; unfold Mn.lim Mn.mn Mn.mx; rw [if_pos (by omega)]; rfl, hw.below rfl⟩)
  ·
   have h2 : hi = 0 ∧ lo ≤ 9223372036854775808 := by simp only [Bool.or_eq_false_iff, Bool.not_eq_false', decide_eq_true_eq, decide_eq_false_iff_not] at h2; omega
   repeat refine gs1 ?_
   refine RW.q (v := .int .u64 ((-(lo : Int)) % 18446744073709551616)) rfl (q_negW rfl (by rw [IntKind.wrap_u64])) (RW.q (v := iV (-(lo : Int))) rfl (q_cvt rfl uT182 uT3 (by rw [wrap_i64]; split <;> omega)) ?_)
   repeat refine gs1 ?_
   exact fin_res (vs := [iV (-(lo : Int))]) rfl rfl ⟨.tmp rfl, trivial⟩ rfl (fun w' hw => ⟨by rw [hp1]; unfold Mn.lim Mn.mn Mn.mx; rw [if_neg (by omega), if_neg (by omega), show (m : Int) = lo by omega]; rfl, hw.below rfl⟩)
 ·
  have h : decide (a < 0) = decide (b < 0) := by simpa using h
  have hp1 := abs_pos h
  rw [hm] at hp1
  repeat refine gs1 ?_
  refine RW.q (v := .bool (!decide ((hi : Int) = 0) || decide ((9223372036854775807 : Int) < (lo : Int)))) rfl (qpO rfl rfl rfl) ?_
  repeat refine gs1 ?_
  refine AW.cond rfl (fun h2 => ?_) fun h2 => ?_
  ·
   have h2 : ¬ hi = 0 ∨ 9223372036854775807 < lo := by simp only [Bool.or_eq_true, Bool.not_eq_true', decide_eq_false_iff_not, decide_eq_true_eq] at h2; omega
   repeat refine gs1 ?_
   exact fin_res (vs := [iV 9223372036854775807]) rfl rfl ⟨.tmp rfl, trivial⟩ rfl (fun w' hw => ⟨by rw [hp1]; unfold Mn.lim Mn.mn Mn.mx; rw [if_neg (by omega), if_pos (by omega)]; rfl, hw.below rfl⟩)
  ·
   have h2 : hi = 0 ∧ lo ≤ 9223372036854775807 := by simp only [Bool.or_eq_false_iff, Bool.not_eq_false', decide_eq_true_eq, decide_eq_false_iff_not] at h2; omega
   repeat refine gs1 ?_
   refine RW.q (v := iV (lo : Int)) rfl (q_cvt rfl uT182 uT3 (by rw [wrap_i64]; split <;> omega)) ?_
   repeat refine gs1 ?_
   exact fin_res (vs := [iV (lo : Int)]) rfl rfl ⟨.tmp rfl, trivial⟩ rfl (fun w' hw => ⟨by rw [hp1]; unfold Mn.lim Mn.mn Mn.mx; rw [if_neg (by omega), if_neg (by omega), show (m : Int) = lo by omega]; rfl, hw.below rfl⟩)
end Go.Proofs.YtnfmjfheciihjaaGreatDoor
namespace Bt
structure Facts where
 Volume : List Int
 Level : List Int
 Owned : List (List Int)
 Pos : List Int
 Hour : Int
 Crest : List Int
instance : Inhabited Facts := ⟨⟨[], [], [], [], 0, []⟩⟩
end Bt
namespace Mn
open Bt
abbrev Dt := Int × Int × Int × Int
def wr (n : Int) : Int := Go.IntKind.wrap .i64 n
def factV (f : Facts) (d : Dt) (n o q : Int) : Int :=
 if n = 0 then atL f.Volume o else if n = 1 then atL f.Level o
 else if n = 2 then (if o < 0 ∨ (f.Owned.length : Int) ≤ o then 0 else atL (f.Owned.getD o.toNat []) q)
 else if n = 3 then atL f.Pos o else if n = 4 then d.2.2.2 else if n = 5 then d.2.2.1 else if n = 6 then d.2.1
 else if n = 7 then (if o < 0 ∨ (f.Crest.length : Int) ≤ o then -1 else f.Crest.getD o.toNat 0) else 0
def op2 (k x y : Int) : Except Int Int :=
 if k = 4 then .ok (lim (x + y)) else if k = 5 then .ok (lim (x - y)) else if k = 6 then .ok (lim (x * y))
 else if k = 7 then (if y = 0 then .error 1 else .ok (lim (x.tdiv y)))
 else if k = 8 then .ok (if x < y then 1 else 0) else if k = 9 then .ok (if x ≤ y then 1 else 0) else .ok (if x = y then 1 else 0)
abbrev R (α : Type) := Except (Int × Int) (α × Int)
def bnd {α β : Type} (x : R α) (k : α → Int → R β) : R β := match x with
 | .error e => .error e
 | .ok (a, u) => k a u
def evs (f : Expr → Int → R Int) : List Expr → Int → R (List Int)
 | [], u => .ok ([], u)
 | e :: es, u => bnd (f e u) fun v u => bnd (evs f es u) fun vs u => .ok (v :: vs, u)
def kid (e : Expr) (i : Nat) : Expr := e.Kids.getD i default
def ev (fs : List RFunc) (f : Facts) (d : Dt) : Nat → Int → Expr → List Int → Int → R Int
 | 0, _, _, _, _ => .error (0, 0)
 | g + 1, c, e, ps, u =>
  if e.Kind = 0 then .ok (e.N, u)
  else if e.Kind = 15 then .ok (ps.getD e.N.toNat 0, u)
  else if e.Kind = 1 then .ok (factV f d e.N e.Of e.Of2, u)
  else if e.Kind = 2 then bnd (ev fs f d g c (kid e 0) ps u) fun v u => .ok (lim (0 - v), u)
  else if e.Kind = 3 then bnd (ev fs f d g c (kid e 0) ps u) fun v u => .ok (wr (1 - v), u)
  else if e.Kind = 11 then bnd (ev fs f d g c (kid e 0) ps u) fun v u => if v = 0 then .ok (0, u) else ev fs f d g c (kid e 1) ps u
  else if e.Kind = 12 then bnd (ev fs f d g c (kid e 0) ps u) fun v u => if v ≠ 0 then .ok (1, u) else ev fs f d g c (kid e 1) ps u
  else if e.Kind = 13 then bnd (ev fs f d g c (kid e 0) ps u) fun v u => if v ≠ 0 then ev fs f d g c (kid e 1) ps u else ev fs f d g c (kid e 2) ps u
  else if e.Kind = 14 then bnd (evs (fun x u => ev fs f d g c x ps u) e.Kids u) fun vs u =>
   if 10000 ≤ u then .error (14, u) else if 100 ≤ c then .error (8, u + 1) else ev fs f d g (c + 1) (fs.getD e.N.toNat default).Body vs (u + 1)
  else bnd (ev fs f d g c (kid e 0) ps u) fun x u => bnd (ev fs f d g c (kid e 1) ps u) fun y u => match op2 e.Kind x y with
   | .error k => .error (k, u)
   | .ok v => .ok (v, u)
theorem bnd_ok {α β : Type} {x : R α} {k : α → Int → R β} {a : α} {u : Int} (h : x = .ok (a, u)) : bnd x k = k a u := by rw [h]; rfl
theorem bnd_err {α β : Type} {x : R α} {k : α → Int → R β} {e : Int × Int} (h : x = .error e) : bnd x k = .error e := by rw [h]; rfl
end Mn
namespace Go.Proofs.YtnfmjfheciihjaaGreatDoor
open Go Go.K Go.RowKit
open Ru (pB)
attribute [local irreducible] AW RW DW Post Qt
structure FcV where
 vol : Value
 lev : Value
 own : Value
 pos : Value
 cre : Value
structure FcV.ok (Φ : Hp) (v : FcV) (f : Bt.Facts) : Prop where
 vol : RepSl Φ f.Volume v.vol
 lev : RepSl Φ f.Level v.lev
 own : RepSl Φ f.Owned v.own
 pos : RepSl Φ f.Pos v.pos
 cre : RepSl Φ f.Crest v.cre
theorem FcV.ok.mono {Φ Ψ : Hp} {v : FcV} {f : Bt.Facts} (h : v.ok Φ f) (hl : Hp.le Φ Ψ) : v.ok Ψ f := ⟨h.vol.mono hl, h.lev.mono hl, h.own.mono hl, h.pos.mono hl, h.cre.mono hl⟩
structure RnV where
 rf : Value
 rc : Value
 fc : FcV
 hr : Int
 d : Mn.Dt
 tv : Value
 sv : Value
abbrev RnV.cs (y : RnV) (u c : Int) : List Value := [y.rf, y.rc, y.fc.vol, y.fc.lev, y.fc.own, y.fc.pos, iV y.hr, y.fc.cre, iV y.d.1, iV y.d.2.1, iV y.d.2.2.1, iV y.d.2.2.2, iV u, iV c, y.tv, y.sv]
abbrev fE (e : Int × Int) : List PanicEntry := [⟨.iface 83 (.agg #[iV e.1]), false, false⟩]
abbrev opR (w : World) (Φ : Hp) (res : Except Int Int) : Ending → World → Prop := OwnK w Φ [] res (fun v (_ : Unit) => iV v) (fun _ _ => []) (fun k => fE (k, 0)) fun _ CE => CE = []
theorem tdiv_le (x y : Int) : (x.tdiv y).natAbs ≤ x.natAbs := by
 rw [Int.natAbs_tdiv]; exact Nat.div_le_self _ _
theorem operate_c (w : World) {Φ : Hp} (hΦ : Hp.le Φ (hp w)) {k x y : Int} (hx : I64 x) (hy : I64 y) : Calls pg 51 #[iV k, iV x, iV y] w (opR w Φ (Mn.op2 k x y)) := by
 refine calls_of_AW (args := [iV k, iV x, iV y]) Tryz.func51 rfl (lBT rfl) (St ⟨w, Φ, []⟩ Φ []) (StP.init w Φ hΦ []) ?_
 show AW _ _ [] _ _ _ [(0, iV k), (1, iV x), (2, iV y)] _
 have fin : ∀ {v : Int} {w' : World}, Mn.op2 k x y = .ok v → (St ⟨w, Φ, []⟩ Φ []).p w' → opR w Φ (Mn.op2 k x y) (.returned (iV v)) w' := fun h hw => .inl ⟨_, (), h, rfl, hw⟩
 repeat refine gs1 ?_
 refine AW.cond rfl (fun h => ?_) fun h4 => ?_
 ·
  have h : k = 4 := odT h
  repeat refine gs1 ?_
  refine RW.q rfl (q_call (args := #[iV x, iV y]) oK rfl rfl (fun w1 hw1 => Add_c w1 (hp w1) (Hp.le_refl _) hx hy)) ?_
  repeat refine gs1 ?_
  exact fin_res (vs := [iV (Mn.lim (x + y))]) rfl rfl ⟨.tmp rfl, trivial⟩ rfl (fun w' hw => fin (by unfold Mn.op2; rw [if_pos h]) hw)
 have h4 : k ≠ 4 := odF h4
 repeat refine gs1 ?_
 refine AW.cond rfl (fun h => ?_) fun h5 => ?_
 ·
  have h : k = 5 := odT h
  repeat refine gs1 ?_
  refine RW.q rfl (q_call (args := #[iV x, iV y]) oK rfl rfl (fun w1 hw1 => Sub_c w1 (hp w1) (Hp.le_refl _) hx hy)) ?_
  repeat refine gs1 ?_
  exact fin_res (vs := [iV (Mn.lim (x - y))]) rfl rfl ⟨.tmp rfl, trivial⟩ rfl (fun w' hw => fin (by unfold Mn.op2; rw [if_neg h4, if_pos h]) hw)
 have h5 : k ≠ 5 := odF h5
 repeat refine gs1 ?_
 refine AW.cond rfl (fun h => ?_) fun h6 => ?_
 ·
  have h : k = 6 := odT h
  repeat refine gs1 ?_
  refine RW.q rfl (q_call (args := #[iV x, iV y]) oK rfl rfl (fun w1 hw1 => mproduct_c w1 hx hy)) ?_
  repeat refine gs1 ?_
  exact fin_res (vs := [iV (Mn.lim (x * y))]) rfl rfl ⟨.tmp rfl, trivial⟩ rfl (fun w' hw => fin (by unfold Mn.op2; rw [if_neg h4, if_neg h5, if_pos h]) hw)
 have h6 : k ≠ 6 := odF h6
 repeat refine gs1 ?_
 refine AW.cond rfl (fun h => ?_) fun h7 => ?_
 ·
  have h : k = 7 := odT h
  repeat refine gs1 ?_
  refine AW.cond rfl (fun h0 => ?_) fun h0 => ?_
  ·
   have h0 : y = 0 := odT h0
   repeat refine gs1 ?_
   refine RW.q (v := .agg #[iV 1]) rfl (q_build (vals := [(0, iV 1)]) zero83 uT83 places83 rfl rfl) ?_
   repeat refine gs1 ?_
   exact RW.pan rfl (fun w' hw => .inr ⟨1, [], by unfold Mn.op2; rw [if_neg h4, if_neg h5, if_neg h6, if_pos h, if_pos h0], rfl, rfl, hw⟩)
  ·
   have h0 : y ≠ 0 := odF h0
   repeat refine gs1 ?_
   refine RW.q (v := .bool (decide (x = -9223372036854775808) && decide (y = -1))) rfl (qpA rfl rfl rfl) ?_
   repeat refine gs1 ?_
   have hdl := tdiv_le x y
   have ho : Mn.op2 k x y = .ok (Mn.lim (x.tdiv y)) := by unfold Mn.op2; rw [if_neg h4, if_neg h5, if_neg h6, if_pos h, if_neg h0]
   unfold I64 at hx hy
   refine AW.cond rfl (fun hm => ?_) fun hm => ?_
   ·
    have hm : x = -9223372036854775808 ∧ y = -1 := by simpa using hm
    repeat refine gs1 ?_
    exact fin_res (vs := [iV 9223372036854775807]) rfl rfl ⟨.tmp rfl, trivial⟩ rfl (fun w' hw => fin (by rw [ho, hm.1, hm.2]; rfl) hw)
   ·
    have hm : ¬ (x = -9223372036854775808 ∧ y = -1) := by simpa using hm
    have hin : -9223372036854775808 ≤ x.tdiv y ∧ x.tdiv y ≤ 9223372036854775807 := by
     by_cases hx0 : x = -9223372036854775808
     ·
      have hy1 : y ≠ -1 := fun hh => hm ⟨hx0, hh⟩
      refine ⟨by omega, ?_⟩
      by_cases hyp : 0 < y
      ·
       have h1 : x.tdiv y ≤ 0 := by
        rw [hx0, Int.neg_tdiv]
        have := Int.tdiv_nonneg (a := 9223372036854775808) (b := y) (by omega) (by omega)
        omega
       omega
      ·
       have h2 : (x.tdiv y).natAbs = x.natAbs / y.natAbs := Int.natAbs_tdiv x y
       have h3 : x.natAbs / y.natAbs ≤ x.natAbs / 2 := Nat.div_le_div_left (by omega) (by omega)
       omega
     ·
      omega
    repeat refine gs1 ?_
    refine RW.q rfl (q_quo rfl rfl h0 rfl hin) ?_
    repeat refine gs1 ?_
    exact fin_res (vs := [iV (x.tdiv y)]) rfl rfl ⟨.tmp rfl, trivial⟩ rfl (fun w' hw => fin (by rw [ho]; unfold Mn.lim Mn.mn Mn.mx; rw [if_neg (by omega), if_neg (by omega)]) hw)
 have h7 : k ≠ 7 := odF h7
 repeat refine gs1 ?_
 refine AW.cond rfl (fun h => ?_) fun h8 => ?_
 ·
  have h : k = 8 := odT h
  repeat refine gs1 ?_
  refine RW.q rfl (q_call (args := #[.bool (decide (x < y))]) oK rfl rfl (fun w1 hw1 => truth1_c w1 (hp w1) (Hp.le_refl _))) ?_
  repeat refine gs1 ?_
  exact fin_res (vs := [iV (if decide (x < y) then 1 else 0)]) rfl rfl ⟨.tmp rfl, trivial⟩ rfl (fun w' hw => fin (by unfold Mn.op2; rw [if_neg h4, if_neg h5, if_neg h6, if_neg h7, if_pos h]; simp) hw)
 have h8 : k ≠ 8 := odF h8
 repeat refine gs1 ?_
 refine AW.cond rfl (fun h => ?_) fun h9 => ?_
 ·
  have h : k = 9 := odT h
  repeat refine gs1 ?_
  refine RW.q rfl (q_call (args := #[.bool (decide (x ≤ y))]) oK rfl rfl (fun w1 hw1 => truth1_c w1 (hp w1) (Hp.le_refl _))) ?_
  repeat refine gs1 ?_
  exact fin_res (vs := [iV (if decide (x ≤ y) then 1 else 0)]) rfl rfl ⟨.tmp rfl, trivial⟩ rfl (fun w' hw => fin (by unfold Mn.op2; rw [if_neg h4, if_neg h5, if_neg h6, if_neg h7, if_neg h8, if_pos h]; simp) hw)
 have h9 : k ≠ 9 := odF h9
 repeat refine gs1 ?_
 refine RW.q rfl (q_call (args := #[.bool (decide (x = y))]) oK rfl rfl (fun w1 hw1 => truth1_c w1 (hp w1) (Hp.le_refl _))) ?_
 repeat refine gs1 ?_
 exact fin_res (vs := [iV (if decide (x = y) then 1 else 0)]) rfl rfl ⟨.tmp rfl, trivial⟩ rfl (fun w' hw => fin (by unfold Mn.op2; rw [if_neg h4, if_neg h5, if_neg h6, if_neg h7, if_neg h8, if_neg h9]; simp) hw)
abbrev rB (x : Nat) (y : RnV) (u c : Int) : Chunk := .blk x 79 (y.cs u c)
theorem RepSl.gi {Φ : Hp} {xs : List Int} {v : Value} {n : Nat} (h : RepSl Φ xs v) (hn : n < xs.length) : PCell Φ (Value.at v (n * 1)) (iV (xs.getD n 0)) := by
 have := (h.int hn).1
 rw [Nat.mul_one, gDD, List.getElem?_eq_getElem hn]; exact this
theorem mfact_c (w : World) {xb : Nat} {y : RnV} {u c : Int} {f : Bt.Facts} {k n o q : Int} {ks : List Bt.Expr} {v : Value} (hb : hp w xb = some (.cells (y.cs u c).toArray 79 (0, 0))) (hf : y.fc.ok (hp w) f) :
  Calls pg 48 #[pB xb, .agg (exC ⟨k, n, o, q, ks⟩ v).toArray] w fun e w' => e = .returned (iV (Mn.factV f y.d n o q)) ∧ Bel w.heap.size w w' := by
 refine calls_of_AW (args := [pB xb, .agg (exC ⟨k, n, o, q, ks⟩ v).toArray]) Tryz.func48 rfl (lBT rfl) (St ⟨w, hp w, []⟩ (hp w) []) (StP.init w (hp w) (Hp.le_refl _) []) ?_
 show AW _ _ [] _ _ _ [(0, pB xb), (1, .agg (exC ⟨k, n, o, q, ks⟩ v).toArray)] _
 have pvol : PCell (hp w) ⟨xb, 2, none⟩ y.fc.vol := PCell.blk (cs := y.cs u c) hb rfl
 have svol := hf.vol.sl
 have plev : PCell (hp w) ⟨xb, 3, none⟩ y.fc.lev := PCell.blk (cs := y.cs u c) hb rfl
 have slev := hf.lev.sl
 have pown : PCell (hp w) ⟨xb, 4, none⟩ y.fc.own := PCell.blk (cs := y.cs u c) hb rfl
 have sown := hf.own.sl
 have ppos : PCell (hp w) ⟨xb, 5, none⟩ y.fc.pos := PCell.blk (cs := y.cs u c) hb rfl
 have spos := hf.pos.sl
 have pcre : PCell (hp w) ⟨xb, 7, none⟩ y.fc.cre := PCell.blk (cs := y.cs u c) hb rfl
 have scre := hf.cre.sl
 have pd9 : PCell (hp w) ⟨xb, 9, none⟩ (iV y.d.2.1) := PCell.blk (cs := y.cs u c) hb rfl
 have pd10 : PCell (hp w) ⟨xb, 10, none⟩ (iV y.d.2.2.1) := PCell.blk (cs := y.cs u c) hb rfl
 have pd11 : PCell (hp w) ⟨xb, 11, none⟩ (iV y.d.2.2.2) := PCell.blk (cs := y.cs u c) hb rfl
 repeat refine gs1 ?_
 refine RW.bxA (cs := exC ⟨k, n, o, q, ks⟩ v) rfl rfl fun b3 => ?_
 repeat refine gs1 ?_
 refine AW.cond rfl (fun h => ?_) fun n0 => ?_
 ·
  have h : n = 0 := odT h
  repeat refine gs1 ?_
  refine AW.drawZ (J0 := St ⟨w, hp w, []⟩ (hp w) [.blk b3 69 (exC ⟨k, n, o, q, ks⟩ v)]) [.q, .q, .q, .q, .q, .q, .q, .e, .q] [0, 1, 2, 3, 4, 5, 6, 7, 8] hmix (by kernel_rfl) ?_
  repeat refine gs1 ?_
  refine DW.qe (fun _ _ h => h) rfl (q_call (args := #[y.fc.vol, iV o]) oK rfl rfl (fun w1 hw1 => mat_c w1 (hf.vol.mono hw1.phi))) ?_
  repeat refine gs1 ?_
  exact fin_res (vs := [iV (Mn.atL f.Volume o)]) rfl rfl ⟨.tmp rfl, trivial⟩ rfl (fun w' hw => ⟨by unfold Mn.factV; rw [if_pos h]; rfl, hw.below rfl⟩)
 have n0 : n ≠ 0 := odF n0
 repeat refine gs1 ?_
 refine AW.cond rfl (fun h => ?_) fun n1 => ?_
 ·
  have h : n = 1 := odT h
  repeat refine gs1 ?_
  refine AW.drawZ (J0 := St ⟨w, hp w, []⟩ (hp w) [.blk b3 69 (exC ⟨k, n, o, q, ks⟩ v)]) [.q, .q, .q, .q, .q, .q, .q, .e, .q] [0, 1, 2, 3, 4, 5, 6, 7, 8] hmix (by kernel_rfl) ?_
  repeat refine gs1 ?_
  refine DW.qe (fun _ _ h => h) rfl (q_call (args := #[y.fc.lev, iV o]) oK rfl rfl (fun w1 hw1 => mat_c w1 (hf.lev.mono hw1.phi))) ?_
  repeat refine gs1 ?_
  exact fin_res (vs := [iV (Mn.atL f.Level o)]) rfl rfl ⟨.tmp rfl, trivial⟩ rfl (fun w' hw => ⟨by unfold Mn.factV; rw [if_neg n0, if_pos h]; rfl, hw.below rfl⟩)
 have n1 : n ≠ 1 := odF n1
 repeat refine gs1 ?_
 refine AW.cond rfl (fun h => ?_) fun n2 => ?_
 ·
  have h : n = 2 := odT h
  repeat refine gs1 ?_
  refine AW.drawZ (J0 := St ⟨w, hp w, []⟩ (hp w) [.blk b3 69 (exC ⟨k, n, o, q, ks⟩ v)]) [.q, .q, .q, .q, .q, .q, .q, .q, .q, .q, .q, .q, .q, .q] [0, 1, 2, 3, 4, 5, 6, 7, 8, 9, 10, 11, 12, 13] hmix (by kernel_rfl) ?_
  repeat refine gs1 ?_
  refine DW.g (b := decide (o < 0)) (v := pB xb) (fun _ h => h) rfl rfl rfl (fun h => qa_nc (gv_pos h)) (DW.g (b := decide (o < 0)) (v := .pointer (some ⟨xb, 2, none⟩)) (fun _ h => h) rfl rfl rfl (fun h => qa_fa0 (gv_pos h)) (DW.g (b := decide (o < 0)) (v := .pointer (some ⟨xb, 2 + 2, none⟩)) (fun _ h => h) rfl rfl rfl (fun h => qa_fab (p := 2) (gv_pos h)) (DW.g (b := decide (o < 0)) (v := y.fc.own) (fun _ h => h) rfl rfl rfl (fun h => qa_ld (gv_pos h) (Cell.phi pown)) (DW.g (b := decide (o < 0)) (v := iV (f.Owned.length : Int)) (fun _ h => h) rfl rfl rfl (fun h => q_len_sl (gv_pos h) sown uT36) ?_))))
  repeat refine gs1 ?_
  refine DW.q (v := .bool (decide (o < 0) || decide ((f.Owned.length : Int) ≤ o))) (fun _ h => h) rfl (qpO rfl rfl rfl) ?_
  repeat refine gs1 ?_
  refine AW.cond rfl (fun hi => ?_) fun hi => ?_
  ·
   have hi : o < 0 ∨ (f.Owned.length : Int) ≤ o := by simpa using hi
   repeat refine gs1 ?_
   exact fin_res (vs := [iV (0)]) rfl rfl ⟨.tmp rfl, trivial⟩ rfl (fun w' hw => ⟨by unfold Mn.factV; rw [if_neg n0, if_neg n1, if_pos h, if_pos hi]; rfl, hw.below rfl⟩)
  have hi : ¬ (o < 0 ∨ (f.Owned.length : Int) ≤ o) := by simpa using hi
  have a0 := n0
  have a1 := n1
  have ah := h
  obtain ⟨m, rfl⟩ : ∃ m : Nat, o = m := ⟨o.toNat, by omega⟩
  have hm : m < f.Owned.length := by omega
  obtain ⟨sv, hsv, hpv⟩ := hf.own.sub hm
  repeat refine gs1 ?_
  refine AW.drawZ (J0 := St ⟨w, hp w, []⟩ (hp w) [.blk b3 69 (exC ⟨k, n, (m : Int), q, ks⟩ v)]) [.q, .q, .q, .q, .q, .q, .q, .q, .q, .q, .q, .e, .q] [0, 1, 2, 3, 4, 5, 6, 7, 8, 9, 10, 11, 12] hmix (by kernel_rfl) ?_
  repeat refine gs1 ?_
  refine DW.qe (fun _ _ h => h) rfl (q_call (args := #[sv, iV q]) oK rfl rfl (fun w1 hw1 => mat_c w1 (hsv.mono hw1.phi))) ?_
  repeat refine gs1 ?_
  exact fin_res (vs := [iV (Mn.atL (f.Owned.getD m []) q)]) rfl rfl ⟨.tmp rfl, trivial⟩ rfl (fun w' hw => ⟨by unfold Mn.factV; rw [if_neg a0, if_neg a1, if_pos ah, if_neg hi, Int.toNat_natCast]; rfl, hw.below rfl⟩)
 have n2 : n ≠ 2 := odF n2
 repeat refine gs1 ?_
 refine AW.cond rfl (fun h => ?_) fun n3 => ?_
 ·
  have h : n = 3 := odT h
  repeat refine gs1 ?_
  refine AW.drawZ (J0 := St ⟨w, hp w, []⟩ (hp w) [.blk b3 69 (exC ⟨k, n, o, q, ks⟩ v)]) [.q, .q, .q, .q, .q, .q, .q, .e, .q] [0, 1, 2, 3, 4, 5, 6, 7, 8] hmix (by kernel_rfl) ?_
  repeat refine gs1 ?_
  refine DW.qe (fun _ _ h => h) rfl (q_call (args := #[y.fc.pos, iV o]) oK rfl rfl (fun w1 hw1 => mat_c w1 (hf.pos.mono hw1.phi))) ?_
  repeat refine gs1 ?_
  exact fin_res (vs := [iV (Mn.atL f.Pos o)]) rfl rfl ⟨.tmp rfl, trivial⟩ rfl (fun w' hw => ⟨by unfold Mn.factV; rw [if_neg n0, if_neg n1, if_neg n2, if_pos h]; rfl, hw.below rfl⟩)
 have n3 : n ≠ 3 := odF n3
 repeat refine gs1 ?_
 refine AW.cond rfl (fun h => ?_) fun n4 => ?_
 ·
  have h : n = 4 := odT h
  repeat refine gs1 ?_
  exact fin_res (vs := [iV (y.d.2.2.2)]) rfl rfl ⟨.tmp rfl, trivial⟩ rfl (fun w' hw => ⟨by unfold Mn.factV; rw [if_neg n0, if_neg n1, if_neg n2, if_neg n3, if_pos h]; rfl, hw.below rfl⟩)
 have n4 : n ≠ 4 := odF n4
 repeat refine gs1 ?_
 refine AW.cond rfl (fun h => ?_) fun n5 => ?_
 ·
  have h : n = 5 := odT h
  repeat refine gs1 ?_
  exact fin_res (vs := [iV (y.d.2.2.1)]) rfl rfl ⟨.tmp rfl, trivial⟩ rfl (fun w' hw => ⟨by unfold Mn.factV; rw [if_neg n0, if_neg n1, if_neg n2, if_neg n3, if_neg n4, if_pos h]; rfl, hw.below rfl⟩)
 have n5 : n ≠ 5 := odF n5
 repeat refine gs1 ?_
 refine AW.cond rfl (fun h => ?_) fun n6 => ?_
 ·
  have h : n = 6 := odT h
  repeat refine gs1 ?_
  exact fin_res (vs := [iV (y.d.2.1)]) rfl rfl ⟨.tmp rfl, trivial⟩ rfl (fun w' hw => ⟨by unfold Mn.factV; rw [if_neg n0, if_neg n1, if_neg n2, if_neg n3, if_neg n4, if_neg n5, if_pos h]; rfl, hw.below rfl⟩)
 have n6 : n ≠ 6 := odF n6
 repeat refine gs1 ?_
 refine AW.cond rfl (fun h => ?_) fun n7 => ?_
 ·
  have h : n = 7 := odT h
  repeat refine gs1 ?_
  refine AW.drawZ (J0 := St ⟨w, hp w, []⟩ (hp w) [.blk b3 69 (exC ⟨k, n, o, q, ks⟩ v)]) [.q, .q, .q, .q, .q, .q, .q, .q, .q, .q, .q, .q, .q, .q] [0, 1, 2, 3, 4, 5, 6, 7, 8, 9, 10, 11, 12, 13] hmix (by kernel_rfl) ?_
  repeat refine gs1 ?_
  refine DW.g (b := decide (o < 0)) (v := pB xb) (fun _ h => h) rfl rfl rfl (fun h => qa_nc (gv_pos h)) (DW.g (b := decide (o < 0)) (v := .pointer (some ⟨xb, 2, none⟩)) (fun _ h => h) rfl rfl rfl (fun h => qa_fa0 (gv_pos h)) (DW.g (b := decide (o < 0)) (v := .pointer (some ⟨xb, 2 + 5, none⟩)) (fun _ h => h) rfl rfl rfl (fun h => qa_fab (p := 2) (gv_pos h)) (DW.g (b := decide (o < 0)) (v := y.fc.cre) (fun _ h => h) rfl rfl rfl (fun h => qa_ld (gv_pos h) (Cell.phi pcre)) (DW.g (b := decide (o < 0)) (v := iV (f.Crest.length : Int)) (fun _ h => h) rfl rfl rfl (fun h => q_len_sl (gv_pos h) scre uT29) ?_))))
  repeat refine gs1 ?_
  refine DW.q (v := .bool (decide (o < 0) || decide ((f.Crest.length : Int) ≤ o))) (fun _ h => h) rfl (qpO rfl rfl rfl) ?_
  repeat refine gs1 ?_
  refine AW.cond rfl (fun hi => ?_) fun hi => ?_
  ·
   have hi : o < 0 ∨ (f.Crest.length : Int) ≤ o := by simpa using hi
   repeat refine gs1 ?_
   exact fin_res (vs := [iV (-1)]) rfl rfl ⟨.tmp rfl, trivial⟩ rfl (fun w' hw => ⟨by unfold Mn.factV; rw [if_neg n0, if_neg n1, if_neg n2, if_neg n3, if_neg n4, if_neg n5, if_neg n6, if_pos h, if_pos hi]; rfl, hw.below rfl⟩)
  have hi : ¬ (o < 0 ∨ (f.Crest.length : Int) ≤ o) := by simpa using hi
  have a0 := n0
  have a1 := n1
  have a2 := n2
  have a3 := n3
  have a4 := n4
  have a5 := n5
  have a6 := n6
  have ah := h
  obtain ⟨m, rfl⟩ : ∃ m : Nat, o = m := ⟨o.toNat, by omega⟩
  have hm : m < f.Crest.length := by omega
  have pe := RepSl.gi hf.cre hm
  repeat refine gs1 ?_
  refine AW.drawZ (J0 := St ⟨w, hp w, []⟩ (hp w) [.blk b3 69 (exC ⟨k, n, (m : Int), q, ks⟩ v)]) [.q, .q, .q, .q, .q, .q, .q, .q, .q, .q] [0, 1, 2, 3, 4, 5, 6, 7, 8, 9] hmix (by kernel_rfl) ?_
  repeat refine gs1 ?_
  exact fin_res (vs := [iV (f.Crest.getD m 0)]) rfl rfl ⟨.tmp rfl, trivial⟩ rfl (fun w' hw => ⟨by unfold Mn.factV; rw [if_neg a0, if_neg a1, if_neg a2, if_neg a3, if_neg a4, if_neg a5, if_neg a6, if_pos ah, if_neg hi, Int.toNat_natCast]; rfl, hw.below rfl⟩)
 have n7 : n ≠ 7 := odF n7
 repeat refine gs1 ?_
 repeat refine gs1 ?_
 exact fin_res (vs := [iV (0)]) rfl rfl ⟨.tmp rfl, trivial⟩ rfl (fun w' hw => ⟨by unfold Mn.factV; rw [if_neg n0, if_neg n1, if_neg n2, if_neg n3, if_neg n4, if_neg n5, if_neg n6, if_neg n7]; rfl, hw.below rfl⟩)
abbrev stR (w : World) (Φ : Hp) (x : Nat) (y : RnV) (u c : Int) : Ending → World → Prop := OwnK w Φ [rB x y u c] (if 10000 ≤ u then (.error (14, u) : Except (Int × Int) Int) else .ok (u + 1)) (fun _ (_ : Unit) => .tuple #[]) (fun u' _ => [rB x y u' c]) fE fun er CE => ∃ c', CE = [rB x y er.2 c']
theorem step_c (w : World) {Φ : Hp} {x : Nat} {y : RnV} {u c : Int} (hu : 0 ≤ u) (h0 : StP ⟨w, Φ, fps [rB x y u c]⟩ Φ [rB x y u c] w) : Calls pg 22 #[pB x] w (stR w Φ x y u c) := by
 refine calls_of_AW (args := [pB x]) Tryz.func22 rfl (lBT rfl) (St ⟨w, Φ, fps [rB x y u c]⟩ Φ [rB x y u c]) h0 ?_
 show AW _ _ [] _ _ _ [(0, pB x)] _
 repeat refine gs1 ?_
 refine AW.cond rfl (fun h => ?_) fun h => ?_
 ·
  have h : 10000 ≤ u := odT h
  repeat refine gs1 ?_
  refine RW.q (v := .agg #[iV 14]) rfl (q_build (vals := [(0, iV 14)]) zero83 uT83 places83 rfl rfl) ?_
  repeat refine gs1 ?_
  exact RW.pan rfl (fun w' hw => .inr ⟨(14, u), _, if_pos h, rfl, ⟨c, rfl⟩, hw⟩)
 ·
  have h : ¬ 10000 ≤ u := odF h
  repeat refine gs1 ?_
  exact fin_none (J' := St ⟨w, Φ, fps [rB x y u c]⟩ Φ [rB x y (u + 1) c]) rfl rfl (fun _ h => h) (fun w1 hw1 => .inl ⟨u + 1, (), if_neg h, rfl, hw1⟩)
end Go.Proofs.YtnfmjfheciihjaaGreatDoor
