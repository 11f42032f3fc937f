/- Lemmas. Conditions: those of each theorem. -/
import Derived.Test.YtnfmjfheciihjaaGreatDoorYExR
set_option maxRecDepth 8000
set_option maxHeartbeats 16000000
namespace Go.K
open Go Go.RowKit
section
variable {P : Program} {N : Nat} {D : List Deferred} {ops : Array Oper} {Q : Exit → Act → World → Prop} {f : Nat → Value} {s : List (Nat × Value)} {B : Bs} {Φ : Hp} {C : List Chunk}
theorem RW.frzX {l : List Oper} {c : Chunk} (hE : ∀ b ∈ B.E, ∃ c2 ∈ C, b ∈ c2.fp) (k : ∀ Φ', Hp.le Φ Φ' → c.sat Φ' → RW P N D ops Q l f s (St B Φ' C)) : RW P N D ops Q l f s (St B Φ (c :: C)) := fun a w ha hw => by
 obtain ⟨Φ', h1, h2, h3⟩ := StP.freezeX hw hE
 exact k Φ' h1 h2 a w ha h3
theorem AW.frzX {l : Code} {c : Chunk} (hE : ∀ b ∈ B.E, ∃ c2 ∈ C, b ∈ c2.fp) (k : ∀ Φ', Hp.le Φ Φ' → c.sat Φ' → AW P N D l Q f s (St B Φ' C)) : AW P N D l Q f s (St B Φ (c :: C)) := fun a w ha hw => by
 obtain ⟨Φ', h1, h2, h3⟩ := StP.freezeX hw hE
 exact k Φ' h1 h2 a w ha h3
end
end Go.K
namespace Ru
open Go Go.K Bt
section
variable {B : Bs} {Φ : Hp} {C : List Chunk} {w : World} {α : Type} {o : OP α}
theorem OP.at {xs ys : List α} {y : α} {l G : List Nat} (h : StP B Φ (o.cks (xs ++ y :: ys) l G :: C) w) : ∃ l1 b l3 F1 F F3, l = l1 ++ b :: l3 ∧ G = F1 ++ (F ++ F3) ∧ l1.length = xs.length ∧ StP B Φ (o.cks xs l1 F1 :: o.ck y b F :: o.cks ys l3 F3 :: C) w := by
 obtain ⟨l1, l2, F1, F2, h1, h2, h3, h4, h5⟩ := OP.split h
 obtain ⟨m1, m2, G1, G2, k1, k2, k3, k4, k5⟩ := OP.split (xs := [y]) (h5.perm (List.Perm.swap _ _ _))
 obtain ⟨b, hb, k6⟩ := OP.to1 k5
 subst hb
 exact ⟨l1, b, m2, F1, G1, G2, by rw [h1, k1]; rfl, by rw [h2, k2], h3, k6.perm (List.perm_middle (l₁ := [_, _])).symm⟩
theorem OP.un {xs ys : List α} {y : α} {l1 l3 F1 F F3 : List Nat} {b : Nat} (h : StP B Φ (o.cks xs l1 F1 :: o.ck y b F :: o.cks ys l3 F3 :: C) w) : StP B Φ (o.cks (xs ++ y :: ys) (l1 ++ b :: l3) (F1 ++ (F ++ F3)) :: C) w := by
 have h1 := OP.one (h.perm (List.Perm.swap _ _ _))
 have h2 := OP.app (h1.perm (List.Perm.cons _ (List.Perm.swap _ _ _)))
 exact OP.app (h2.perm (List.Perm.swap _ _ _))
theorem cl_cut {x : Bt.Cl} {b : Nat} {F : List Nat} (h : StP B Φ (clP.ck x b F :: C) w) :
  ∃ bc bv G1 G2, F = b :: (G1 ++ G2) ∧ wfK x.link ∧ StP B Φ (.blk b 150 (cC x.link (pB bc) (pB bv)) :: tr x.cond bc G1 :: tr x.value bv G2 :: C) w := by
 obtain ⟨⟨bc, bv, G1, G2, h1, h2, h3, h4, h5⟩, hn⟩ := h.sat _ (List.mem_cons_self ..)
 subst h4
 obtain ⟨hn1, hn2⟩ := List.nodup_cons.1 hn
 obtain ⟨hn3, hn4, hn5⟩ := List.nodup_append.1 hn2
 refine ⟨bc, bv, G1, G2, rfl, h5, StP.recut (C1 := [clP.ck x b _]) (C2 := [.blk b 150 (cC x.link (pB bc) (pB bv)), tr x.cond bc G1, tr x.value bv G2]) h ?_ ?_ ?_⟩
 ·
  intro c hc
  simp only [List.mem_cons, List.not_mem_nil, or_false] at hc
  rcases hc with rfl | rfl | rfl
  ·
   exact h1
  ·
   exact ⟨h2, hn3⟩
  ·
   exact ⟨h3, hn4⟩
 ·
  refine List.pairwise_cons.2 ⟨fun d hd c hc => ?_, List.pairwise_cons.2 ⟨fun d hd c hc => ?_, List.pairwise_singleton ..⟩⟩
  ·
   obtain rfl : c = b := by simpa [Chunk.blk] using hc
   simp only [List.mem_cons, List.not_mem_nil, or_false] at hd
   rcases hd with rfl | rfl
   ·
    exact fun hm => hn1 (List.mem_append_left _ hm)
   ·
    exact fun hm => hn1 (List.mem_append_right _ hm)
  ·
   simp only [List.mem_cons, List.not_mem_nil, or_false] at hd
   subst hd
   exact fun hm => hn5 c hc c hm rfl
 ·
  intro c hc
  simpa [Chunk.blk, tr, OP.ck] using hc
end
def badTo (e : Env) (fs : List Bt.Fn) (i : Nat) : List Int := (fs.zipIdx.take i).flatMap fun q => badF e fs q.2 q.1
theorem badTo_snoc {e : Env} {fs : List Bt.Fn} {i : Nat} (h : i < fs.length) : badTo e fs (i + 1) = badTo e fs i ++ badF e fs i fs[i] := by
 have h' : i < fs.zipIdx.length := by simpa using h
 have e1 : fs.zipIdx[i] = (fs[i], i) := by rw [List.getElem_zipIdx, Nat.zero_add]
 unfold badTo
 rw [take_snoc h', List.flatMap_append, e1]
 simp
theorem badTo_all {e : Env} {fs : List Bt.Fn} : badTo e fs fs.length = fs.zipIdx.flatMap fun q => badF e fs q.2 q.1 := by
 unfold badTo
 rw [List.take_of_length_le (by simp)]
def dupTo (ps : List Prm) (j : Nat) : List Int := ((ps.zipIdx.take j).filter fun q => decide (ix (prN ps) q.1.name.Text ≠ some q.2)).map (·.1.name.At)
theorem dupTo_all {ps : List Prm} : dupTo ps ps.length = dupP ps := by
 unfold dupTo dupP
 rw [List.take_of_length_le (by simp)]
theorem ix_lt {l : List (List UInt8)} {t : List UInt8} {n : Nat} (h : ix l t = some n) : n < l.length := by
 unfold ix at h
 exact (List.findIdx?_eq_some_iff_findIdx_eq.1 h).1
theorem ix_at {l : List (List UInt8)} {j : Nat} (h : j < l.length) : ix l l[j] = some j ↔ ix (l.take j) l[j] = none := by
 have e : l = l.take j ++ l[j] :: l.drop (j + 1) := by rw [← List.drop_eq_getElem_cons h, List.take_append_drop]
 have e2 : ix l l[j] = (ix (l.take j) l[j]).or (some j) := by
  have h2 : ix (l.take j ++ l[j] :: l.drop (j + 1)) l[j] = (ix (l.take j) l[j]).or (some j) := by
   unfold ix
   rw [List.findIdx?_append, List.findIdx?_cons]
   simp only [decide_true, if_true, Option.map_some, List.length_take, Nat.min_eq_left (Nat.le_of_lt h), Nat.zero_add]
  exact (congrArg (fun q => ix q l[j]) e).trans h2
 rw [e2]
 cases hq : ix (l.take j) l[j] with
 | none => simp
 | some n =>
  have := ix_lt hq
  simp only [List.length_take] at this
  simp
  omega
theorem dupTo_snoc {ps : List Prm} {j : Nat} (h : j < ps.length) : dupTo ps (j + 1) = dupTo ps j ++ if ix ((prN ps).take j) ps[j].name.Text = none then [] else [ps[j].name.At] := by
 have h' : j < ps.zipIdx.length := by simpa using h
 have e1 : ps.zipIdx[j] = (ps[j], j) := by rw [List.getElem_zipIdx, Nat.zero_add]
 have hp : j < (prN ps).length := by simpa [prN] using h
 have e2 : (prN ps)[j] = ps[j].name.Text := by simp [prN]
 have h3 := ix_at hp
 rw [e2] at h3
 unfold dupTo
 rw [take_snoc h', List.filter_append, List.map_append, e1]
 congr 1
 by_cases hc : ix ((prN ps).take j) ps[j].name.Text = none
 ·
  rw [if_pos hc]; simp [h3.2 hc]
 ·
  rw [if_neg hc]
  have : ix (prN ps) ps[j].name.Text ≠ some j := fun hh => hc (h3.1 hh)
  simp [this]
end Ru
namespace Go.Proofs.YtnfmjfheciihjaaGreatDoor
open Go Go.K Go.RowKit
open Ru (tr trs pB nC TrF fC cC prC fnP clP Tl NmS BasV ixM wfH)
attribute [local irreducible] AW RW DW Post Qt
theorem ixM_B' {l : List (List UInt8)} {t : List UInt8} (h : Ru.ix l t = none) : ixM l t = none := by unfold ixM; rw [h]; rfl
theorem ixM_N' {l : List (List UInt8)} {t : List UInt8} (h : ixM l t = none) : Ru.ix l t = none := by unfold ixM at h; exact Option.map_eq_none_iff.1 h
theorem flatMap_at {α : Type} {g : α → List Value} {n : Nat} (hg : ∀ x, (g x).length = n) : ∀ {l : List α} {j : Nat} (h : j < l.length) (k : Nat) (v : Value), (g l[j])[k]? = some v → (l.flatMap g)[j * n + k]? = some v
 | x :: xs, 0, _, k, v, hv => by
  simp only [List.getElem_cons_zero] at hv
  rw [List.flatMap_cons, Nat.zero_mul, Nat.zero_add, List.getElem?_append_left]
  ·
   exact hv
  ·
   exact (List.getElem?_eq_some_iff.1 hv).1
 | x :: xs, j + 1, h, k, v, hv => by
  simp only [List.getElem_cons_succ] at hv
  rw [List.flatMap_cons, List.getElem?_append_right (by rw [hg, Nat.add_mul]; omega), hg]
  have := flatMap_at hg (l := xs) (j := j) (by simpa using h) k v hv
  rw [show (j + 1) * n + k - n = j * n + k by rw [Nat.add_mul]; omega]
  exact this
theorem prC_at {ps : List Bt.Prm} {j : Nat} (h : j < ps.length) : ∀ (k : Nat) (v : Value), (prC ps[j])[k]? = some v → (ps.flatMap prC)[j * 4 + k]? = some v := flatMap_at (g := prC) (n := 4) (fun _ => rfl) h
theorem _root_.Go.K.Cells.rowAt {B : Bs} {Φ : Hp} {C : List Chunk} {v : Value} {T sz n k : Nat} {xs cs : List Value} (i : Nat) (hi : C[i]? = some (.row v T sz n xs)) (h : ∀ (j : Nat) (u : Value), cs[j]? = some u → xs[k + j]? = some u) : Cells (St B Φ C) (Value.at v k) cs := fun j u hj => by
 rw [at_add]; exact Cell.row i hi (h j u hj)
theorem own_ix {fs : List Bt.Fn} {i : Nat} (h : i < fs.length) : (ixM (Ru.fnN fs) fs[i].name.Text).getD 0 = (i : Int) ↔ Ru.ix (Ru.fnN fs) fs[i].name.Text = some i := by
 have h' : i < (Ru.fnN fs).length := by simpa [Ru.fnN] using h
 have e2 : (Ru.fnN fs)[i] = fs[i].name.Text := by simp [Ru.fnN]
 have h3 := Ru.ix_at h'
 rw [e2] at h3
 cases hq : Ru.ix (Ru.fnN fs) fs[i].name.Text with
 | none =>
  have h4 : Ru.ix ((Ru.fnN fs).take i) fs[i].name.Text = none := by
   unfold Ru.ix at hq ⊢
   rw [List.findIdx?_eq_none_iff] at hq ⊢
   exact fun x hx => hq x (List.mem_of_mem_take hx)
  have := h3.2 h4
  rw [hq] at this; cases this
 | some n => unfold ixM; rw [hq]; simp only [Option.map_some, Option.getD_some, Option.some.injEq]; omega
structure FG where
 l1 : List Nat
 b : Nat
 l3 : List Nat
 F1 : List Nat
 F3 : List Nat
 pv : Value
 bb : Nat
 G1 : List Nat
structure CG where
 l1 : List Nat
 b : Nat
 l3 : List Nat
 F1 : List Nat
 F3 : List Nat
 bc : Nat
 bv : Nat
 G1 : List Nat
 G2 : List Nat
theorem rule_c (w : World) {Φ : Hp} {e : Ru.Env} {fs : List Bt.Fn} {cs : List Bt.Cl} {z : RsB} {fv cv : Value} {l F m G : List Nat} (hR : RCtx Φ z e (Ru.fnN fs)) (hok : Ru.okP 20000 (fs, cs))
  (h0 : StP ⟨w, Φ, fps [.blk z.r 110 (rC fv cv z (-1)), .row fv 143 1 fs.length (l.map pB), fnP.cks fs l F, .row cv 148 1 cs.length (m.map pB), clP.cks cs m G]⟩ Φ [.blk z.r 110 (rC fv cv z (-1)), .row fv 143 1 fs.length (l.map pB), fnP.cks fs l F, .row cv 148 1 cs.length (m.map pB), clP.cks cs m G] w) :
  Calls pg 32 #[pB z.r] w (OwnG w Φ [.blk z.r 110 (rC fv cv z (-1)), .row fv 143 1 fs.length (l.map pB), fnP.cks fs l F, .row cv 148 1 cs.length (m.map pB), clP.cks cs m G] (fun y : Value × Value => .agg #[y.1, y.2]) (fun _ => [.blk z.r 110 (rC fv cv z (Ru.lstL (-1) (Ru.badP e (fs, cs)))), .row fv 143 1 fs.length (l.map pB), fnP.cks (fs.map (Ru.resF e fs)) l F, .row cv 148 1 cs.length (m.map pB), clP.cks (cs.map (Ru.resC e fs)) m G])
   fun y Ψ => RepSl Ψ ((fs.map (Ru.resF e fs)).map Ru.outF) y.1 ∧ RepSl Ψ ((cs.map (Ru.resC e fs)).map (Ru.outC e)) y.2) := by
 refine calls_of_AW (args := [pB z.r]) Tryz.func32 rfl (lBT rfl) (St ⟨w, Φ, fps [.blk z.r 110 (rC fv cv z (-1)), .row fv 143 1 fs.length (l.map pB), fnP.cks fs l F, .row cv 148 1 cs.length (m.map pB), clP.cks cs m G]⟩ Φ [.blk z.r 110 (rC fv cv z (-1)), .row fv 143 1 fs.length (l.map pB), fnP.cks fs l F, .row cv 148 1 cs.length (m.map pB), clP.cks cs m G]) h0 ?_
 show AW _ _ [] _ _ _ [(0, pB z.r)] _
 have hnf : fs.length ≤ 20000 := by have := hok.2.2; simp only at this; omega
 have hnc : cs.length ≤ 20000 := by have := hok.2.2; simp only at this; omega
 generalize hE : fps [.blk z.r 110 (rC fv cv z (-1)), .row fv 143 1 fs.length (l.map pB), fnP.cks fs l F, .row cv 148 1 cs.length (m.map pB), clP.cks cs m G] = E
 refine gR ?_
 refine RW.alc rfl fun b2 => ?_
 refine gR ?_
 refine RW.alc rfl fun b3 => ?_
 refine gR ?_
 refine RW.use (φ := IsSl fv fs.length) (fun w1 hw1 => RowS.isSl (hw1.sAt 3 rfl)) fun hfv => (RW.use (φ := IsSl cv cs.length) (fun w1 hw1 => RowS.isSl (hw1.sAt 5 rfl)) fun hcv => ?_)
 refine gR ?_
 refine AW.wk (J' := St ⟨w, Φ, E⟩ Φ [.blk b3 35 [nS, nS], .row nS 71 8 0 [], .blk z.r 110 (rC fv cv z (Ru.lstL (-1) (Ru.badTo e fs 0))), .row fv 143 1 fs.length (l.map pB), fnP.cks ((fs.take 0).map (Ru.resF e fs) ++ fs.drop 0) l F, .row cv 148 1 cs.length (m.map pB), clP.cks cs m G, .blk b2 35 [nS, nS]]) (fun _ h => StP.sel (addNil (T := 71) (sz := 8) h) [1, 0, 3, 4, 5, 6, 7, 2] (by decide) rfl) (AW.loop (fun s J g => ∃ (i : Nat) (ofv : Value) (cells : List Value) (Ψ : Hp), s = [(0, pB z.r), (2, pB b2), (3, pB b3), (21, fv), (22, iV (fs.length : Int)), (23, iV (i : Int))] ∧ J = St ⟨w, Φ, E⟩ Ψ [.blk b3 35 [ofv, nS], .row ofv 71 8 i cells, .blk z.r 110 (rC fv cv z (Ru.lstL (-1) (Ru.badTo e fs i))), .row fv 143 1 fs.length (l.map pB), fnP.cks ((fs.take i).map (Ru.resF e fs) ++ fs.drop i) l F, .row cv 148 1 cs.length (m.map pB), clP.cks cs m G, .blk b2 35 [nS, nS]] ∧ g = fs.length - i ∧ i ≤ fs.length ∧ Hp.le Φ Ψ ∧ IsSl ofv i ∧ RepC Ψ (((fs.take i).map (Ru.resF e fs)).map Ru.outF) cells) (s0 := _) (J1 := _) (m0 := _) ⟨0, nS, [], Φ, rfl, rfl, rfl, by omega, Hp.le_refl _, isSl_nil, RepC.nil⟩ ⟨rfl, rfl, rfl, rfl, rfl, rfl, trivial⟩ (fun _ h => h) ?_)
 rintro _ _ _ _ ⟨i, ofv, cells, Ψ, rfl, rfl, rfl, hi, hle, hofv, hrc⟩
 obtain ⟨oA, oc, rfl, hos⟩ := hofv
 refine gR ?_
 refine AW.cond rfl (fun h => ?_) fun h => ?_
 ·
  have h : i < fs.length := by have := odT h; omega
  have hokf := hok.1 fs[i] (List.getElem_mem h)
  have hpb : fs[i].params.length ≤ 20000 := hokf.1.2
  have hRΨ := hR.up hle
  have hsp := Ru.take_drop_at h
  rw [hsp]
  refine gR ?_
  refine RW.ex (J' := fun y : {y : FG // l = y.l1 ++ y.b :: y.l3 ∧ F = y.F1 ++ ((y.b :: (blks y.pv ++ y.G1)) ++ y.F3) ∧ y.l1.length = i ∧ Ru.wfK fs[i].name ∧ (fs[i].result = 0 ∨ fs[i].result = 1) ∧ (∀ q ∈ fs[i].params, Ru.wfP q) ∧ IsSl y.pv fs[i].params.length} => St ⟨w, Φ, E⟩ Ψ [fnP.cks ((fs.take i).map (Ru.resF e fs)) y.1.l1 y.1.F1, .blk y.1.b 147 (fC fs[i].name y.1.pv fs[i].result (pB y.1.bb)), .row y.1.pv 156 4 fs[i].params.length (fs[i].params.flatMap prC), tr fs[i].body y.1.bb y.1.G1, fnP.cks (fs.drop (i + 1)) y.1.l3 y.1.F3, .blk b3 35 [.slice oA i oc, nS], .row (.slice oA i oc) 71 8 i cells, .blk z.r 110 (rC fv cv z (Ru.lstL (-1) (Ru.badTo e fs i))), .row fv 143 1 fs.length (l.map pB), .row cv 148 1 cs.length (m.map pB), clP.cks cs m G, .blk b2 35 [nS, nS]]) (fun w1 hw1 => ?_) ?_
  ·
   obtain ⟨l1, b, l3, F1, F2, F3, e1, e2, e3, e4⟩ := Ru.OP.at (C := [.blk b3 35 [.slice oA i oc, nS], .row (.slice oA i oc) 71 8 i cells, .blk z.r 110 (rC fv cv z (Ru.lstL (-1) (Ru.badTo e fs i))), .row fv 143 1 fs.length (l.map pB), .row cv 148 1 cs.length (m.map pB), clP.cks cs m G, .blk b2 35 [nS, nS]]) (StP.sel hw1 [4, 0, 1, 2, 3, 5, 6, 7] (by decide) rfl)
   obtain ⟨pv, bb, G1, e5, e6, e7, e8, e9⟩ := Ru.fn_cut (e4.perm (List.Perm.swap _ _ _))
   refine ⟨⟨⟨l1, b, l3, F1, F3, pv, bb, G1⟩, e1, by rw [e2, e5], by rw [e3, List.length_map, List.length_take]; omega, e6, e7, e8, RowS.isSl (e9.sAt 1 rfl)⟩, ?_⟩
   exact StP.sel (C' := [fnP.cks ((fs.take i).map (Ru.resF e fs)) l1 F1, .blk b 147 (fC fs[i].name pv fs[i].result (pB bb)), .row pv 156 4 fs[i].params.length (fs[i].params.flatMap prC), tr fs[i].body bb G1, fnP.cks (fs.drop (i + 1)) l3 F3, .blk b3 35 [.slice oA i oc, nS], .row (.slice oA i oc) 71 8 i cells, .blk z.r 110 (rC fv cv z (Ru.lstL (-1) (Ru.badTo e fs i))), .row fv 143 1 fs.length (l.map pB), .row cv 148 1 cs.length (m.map pB), clP.cks cs m G, .blk b2 35 [nS, nS]]) e9 [3, 0, 1, 2, 4, 5, 6, 7, 8, 9, 10, 11] (by decide) rfl
  rintro ⟨⟨l1, bf, l3, F1, F3, pv, bd, G1⟩, e1, e2, e3, hwn, hwr, hwp, hpv⟩
  simp only at e1 e2 e3 hpv ⊢
  have hlb : (l.map pB)[i]? = some (pB bf) := by rw [e1, List.getElem?_map, List.getElem?_append_right (by omega), e3, Nat.sub_self]; rfl
  refine RW.q (v := pB bf) rfl (q_load rfl uT143 rfl (Cell.row 8 rfl (by rw [Nat.mul_one]; exact hlb))) ?_
  refine gR ?_
  refine AW.draw (J0 := St ⟨w, Φ, E⟩ Ψ [fnP.cks ((fs.take i).map (Ru.resF e fs)) l1 F1, .blk bf 147 (fC fs[i].name pv fs[i].result (pB bd)), .row pv 156 4 fs[i].params.length (fs[i].params.flatMap prC), tr fs[i].body bd G1, fnP.cks (fs.drop (i + 1)) l3 F3, .blk b3 35 [.slice oA i oc, nS], .row (.slice oA i oc) 71 8 i cells, .blk z.r 110 (rC fv cv z (Ru.lstL (-1) (Ru.badTo e fs i))), .row fv 143 1 fs.length (l.map pB), .row cv 148 1 cs.length (m.map pB), clP.cks cs m G, .blk b2 35 [nS, nS]]) (tq12 []) od12 hmix (by kernel_rfl) ?_
  refine gR ?_
  have hgn : kStr.good fs[i].name.Text := by have h : fs[i].name.Text.length ≤ 65536 := hwn.2.1; show _ ≤ maxLen; simp only [maxLen]; omega
  refine DW.q (fun _ h => h) rfl (q_kLookP1 (d := (0 : Int)) (k := fs[i].name.Text) hRΨ.f rfl rfl hgn uT108 zero3) ?_
  refine gR ?_
  refine AW.joinT (I := fun s' J' => s' = [(0, pB z.r), (2, pB b2), (3, pB b3), (21, fv), (22, iV (fs.length : Int)), (23, iV (i : Int)), (4, iV (i : Int)), (5, pB bf)] ∧ J' = St ⟨w, Φ, E⟩ Ψ [fnP.cks ((fs.take i).map (Ru.resF e fs)) l1 F1, .blk bf 147 (fC fs[i].name pv fs[i].result (pB bd)), .row pv 156 4 fs[i].params.length (fs[i].params.flatMap prC), tr fs[i].body bd G1, fnP.cks (fs.drop (i + 1)) l3 F3, .blk b3 35 [.slice oA i oc, nS], .row (.slice oA i oc) 71 8 i cells, .blk z.r 110 (rC fv cv z (Ru.lstL (Ru.lstL (-1) (Ru.badTo e fs i)) (if Ru.ix (Ru.fnN fs) fs[i].name.Text = some i then [] else [fs[i].name.At]))), .row fv 143 1 fs.length (l.map pB), .row cv 148 1 cs.length (m.map pB), clP.cks cs m G, .blk b2 35 [nS, nS]]) ?_ ?_
  ·
   refine AW.cond rfl (fun hc => ?_) fun hc => ?_
   ·
    have hc : ¬ Ru.ix (Ru.fnN fs) fs[i].name.Text = some i := fun hh => by rw [(own_ix h).2 hh] at hc; simp at hc
    refine gR ?_
    refine AW.drawW (J0 := St ⟨w, Φ, E⟩ Ψ [fnP.cks ((fs.take i).map (Ru.resF e fs)) l1 F1, .blk bf 147 (fC fs[i].name pv fs[i].result (pB bd)), .row pv 156 4 fs[i].params.length (fs[i].params.flatMap prC), tr fs[i].body bd G1, fnP.cks (fs.drop (i + 1)) l3 F3, .blk b3 35 [.slice oA i oc, nS], .row (.slice oA i oc) 71 8 i cells, .blk z.r 110 (rC fv cv z (Ru.lstL (-1) (Ru.badTo e fs i))), .row fv 143 1 fs.length (l.map pB), .row cv 148 1 cs.length (m.map pB), clP.cks cs m G, .blk b2 35 [nS, nS]]) (tq10 [.e, .q, .q, .e]) od14 hmix (by kernel_rfl) ?_
    refine gR ?_
    refine DW.qe (v := iV (Ru.lst (Ru.lstL (-1) (Ru.badTo e fs i)) fs[i].name.At)) (fun _ _ h => h) rfl (q_call (args := #[iV (Ru.lstL (-1) (Ru.badTo e fs i)), iV fs[i].name.At]) oK rfl rfl (fun w1 _ => least_c w1 (hp w1) (Hp.le_refl _))) ?_
    refine gR ?_
    exact Post.mid_n ⟨rfl, rfl⟩ ⟨rfl, rfl, rfl, rfl, rfl, rfl, rfl, rfl, trivial⟩ (fun _ h => by rw [if_neg hc]; exact h)
   ·
    have hc : Ru.ix (Ru.fnN fs) fs[i].name.Text = some i := (own_ix h).1 (by simpa using hc)
    refine gR ?_
    exact Post.mid_n ⟨rfl, rfl⟩ ⟨rfl, rfl, rfl, rfl, rfl, rfl, rfl, rfl, trivial⟩ (fun _ h => by rw [if_pos hc]; exact h)
  ·
   rintro f1 _ _ ⟨rfl, rfl⟩
   generalize ha1 : Ru.lstL (Ru.lstL (-1) (Ru.badTo e fs i)) (if Ru.ix (Ru.fnN fs) fs[i].name.Text = some i then [] else [fs[i].name.At]) = a1
   refine gR ?_
   refine RW.eff _ _ rfl (e_kmake kStr (Value.int .i64)) fun bm => ?_
   refine gR ?_
   refine RW.eff _ _ rfl (e_makeSlice (l := 0) (c := fs[i].params.length) (n := 0) (xs := []) rfl rfl uT29 inf3 (by omega) (by have := hokf.1.2; omega) (by have := hokf.1.2; omega) rfl rfl) fun bk => ?_
   refine gR ?_
   refine AW.loop (fun s J g => ∃ (j : Nat) (kv : Value), s = [(0, pB z.r), (2, pB b2), (3, pB b3), (21, fv), (22, iV (fs.length : Int)), (23, iV (i : Int)), (5, pB bf), (6, .map (some bm)), (7, kv), (63, pv), (64, iV ((fs[i].params.length : Nat) : Int)), (65, iV (j : Int))] ∧ J = St ⟨w, Φ, E⟩ Ψ [.row kv 3 1 j (((fs[i].params.take j).map (·.kind)).map (Value.int .i64)), tab bm ((Ru.prN fs[i].params).take j), fnP.cks ((fs.take i).map (Ru.resF e fs)) l1 F1, .blk bf 147 (fC fs[i].name pv fs[i].result (pB bd)), .row pv 156 4 fs[i].params.length (fs[i].params.flatMap prC), tr fs[i].body bd G1, fnP.cks (fs.drop (i + 1)) l3 F3, .blk b3 35 [.slice oA i oc, nS], .row (.slice oA i oc) 71 8 i cells, .blk z.r 110 (rC fv cv z (Ru.lstL a1 (Ru.dupTo fs[i].params j))), .row fv 143 1 fs.length (l.map pB), .row cv 148 1 cs.length (m.map pB), clP.cks cs m G, .blk b2 35 [nS, nS]] ∧ g = fs[i].params.length - j ∧ j ≤ fs[i].params.length ∧ IsSl kv j) (s0 := [(0, pB z.r), (2, pB b2), (3, pB b3), (21, fv), (22, iV (fs.length : Int)), (23, iV (i : Int)), (5, pB bf), (6, .map (some bm)), (7, .slice (some ⟨bk, 0, none⟩) 0 fs[i].params.length), (63, pv), (64, iV ((fs[i].params.length : Nat) : Int)), (65, iV ((0 : Nat) : Int))]) (J1 := St ⟨w, Φ, E⟩ Ψ [.row (.slice (some ⟨bk, 0, none⟩) 0 fs[i].params.length) 3 1 0 (((fs[i].params.take 0).map (·.kind)).map (Value.int .i64)), tab bm ((Ru.prN fs[i].params).take 0), fnP.cks ((fs.take i).map (Ru.resF e fs)) l1 F1, .blk bf 147 (fC fs[i].name pv fs[i].result (pB bd)), .row pv 156 4 fs[i].params.length (fs[i].params.flatMap prC), tr fs[i].body bd G1, fnP.cks (fs.drop (i + 1)) l3 F3, .blk b3 35 [.slice oA i oc, nS], .row (.slice oA i oc) 71 8 i cells, .blk z.r 110 (rC fv cv z (a1)), .row fv 143 1 fs.length (l.map pB), .row cv 148 1 cs.length (m.map pB), clP.cks cs m G, .blk b2 35 [nS, nS]]) (m0 := _) ⟨0, .slice (some ⟨bk, 0, none⟩) 0 fs[i].params.length, rfl, rfl, rfl, Nat.zero_le _, isSl_mk (Nat.zero_le _)⟩ ⟨rfl, rfl, rfl, rfl, rfl, rfl, rfl, rfl, rfl, rfl, rfl, rfl, trivial⟩ (fun _ h => StP.sel h [0, 1, 2, 3, 4, 5, 6, 7, 8, 9, 10, 11, 12, 13] (by decide) rfl) ?_
   rintro _ _ _ _ ⟨j, kv, rfl, rfl, rfl, hj, hkv⟩
   obtain ⟨kA, kc, rfl, hks⟩ := hkv
   refine gR ?_
   refine AW.cond rfl (fun h2 => ?_) fun h2 => ?_
   ·
    have h2 : j < fs[i].params.length := by have := odT h2; omega
    have hpr := hwp fs[i].params[j] (List.getElem_mem h2)
    have hgp : kStr.good fs[i].params[j].name.Text := by have h : fs[i].params[j].name.Text.length ≤ 65536 := hpr.1.2.1; show _ ≤ maxLen; simp only [maxLen]; omega
    have hpc := prC_at h2
    refine gR ?_
    refine RW.q (v := .agg (prC fs[i].params[j]).toArray) rfl (qa_ldA (cs := prC fs[i].params[j]) rfl (Cells.rowAt 4 rfl hpc) rfl) ?_
    refine RW.alc rfl fun b9 => ?_
    refine gR ?_
    refine RW.q rfl (q_kLook (d := (0 : Int)) (k := fs[i].params[j].name.Text) 2 rfl rfl rfl hgp uT108 zero3) ?_
    refine gR ?_
    have hpn : (Ru.prN fs[i].params).take (j + 1) = (Ru.prN fs[i].params).take j ++ [fs[i].params[j].name.Text] := by rw [Ru.take_snoc (by simpa [Ru.prN] using h2)]; simp [Ru.prN]
    refine AW.joinT (I := fun s' J' => s' = [(0, pB z.r), (2, pB b2), (3, pB b3), (21, fv), (22, iV (fs.length : Int)), (23, iV (i : Int)), (5, pB bf), (6, .map (some bm)), (7, .slice kA j kc), (63, pv), (64, iV ((fs[i].params.length : Nat) : Int)), (65, iV (j : Int)), (9, pB b9)] ∧ J' = St ⟨w, Φ, E⟩ Ψ [.blk b9 156 (prC fs[i].params[j]), .row (.slice kA j kc) 3 1 j (((fs[i].params.take j).map (·.kind)).map (Value.int .i64)), tab bm ((Ru.prN fs[i].params).take (j + 1)), fnP.cks ((fs.take i).map (Ru.resF e fs)) l1 F1, .blk bf 147 (fC fs[i].name pv fs[i].result (pB bd)), .row pv 156 4 fs[i].params.length (fs[i].params.flatMap prC), tr fs[i].body bd G1, fnP.cks (fs.drop (i + 1)) l3 F3, .blk b3 35 [.slice oA i oc, nS], .row (.slice oA i oc) 71 8 i cells, .blk z.r 110 (rC fv cv z (Ru.lstL a1 (Ru.dupTo fs[i].params (j + 1)))), .row fv 143 1 fs.length (l.map pB), .row cv 148 1 cs.length (m.map pB), clP.cks cs m G, .blk b2 35 [nS, nS]]) ?_ ?_
    ·
     refine AW.cond rfl (fun hc => ?_) fun hc => ?_
     ·
      have hc : (ixM ((Ru.prN fs[i].params).take j) fs[i].params[j].name.Text).isSome = true := hc
      have hcn : ¬ Ru.ix ((Ru.prN fs[i].params).take j) fs[i].params[j].name.Text = none := fun hh => by rw [ixM_B' hh] at hc; cases hc
      refine gR ?_
      refine AW.drawW (J0 := St ⟨w, Φ, E⟩ Ψ [.blk b9 156 (prC fs[i].params[j]), .row (.slice kA j kc) 3 1 j (((fs[i].params.take j).map (·.kind)).map (Value.int .i64)), tab bm ((Ru.prN fs[i].params).take j), fnP.cks ((fs.take i).map (Ru.resF e fs)) l1 F1, .blk bf 147 (fC fs[i].name pv fs[i].result (pB bd)), .row pv 156 4 fs[i].params.length (fs[i].params.flatMap prC), tr fs[i].body bd G1, fnP.cks (fs.drop (i + 1)) l3 F3, .blk b3 35 [.slice oA i oc, nS], .row (.slice oA i oc) 71 8 i cells, .blk z.r 110 (rC fv cv z (Ru.lstL a1 (Ru.dupTo fs[i].params j))), .row fv 143 1 fs.length (l.map pB), .row cv 148 1 cs.length (m.map pB), clP.cks cs m G, .blk b2 35 [nS, nS]]) (tq8 [.e, .q, .q, .e]) od12 hmix (by kernel_rfl) ?_
      refine gR ?_
      refine DW.qe (v := iV (Ru.lst (Ru.lstL a1 (Ru.dupTo fs[i].params j)) fs[i].params[j].name.At)) (fun _ _ h => h) rfl (q_call (args := #[iV (Ru.lstL a1 (Ru.dupTo fs[i].params j)), iV fs[i].params[j].name.At]) oK rfl rfl (fun w1 _ => least_c w1 (hp w1) (Hp.le_refl _))) ?_
      refine gR ?_
      exact Post.mid_n ⟨rfl, rfl⟩ ⟨rfl, rfl, rfl, rfl, rfl, rfl, rfl, rfl, rfl, rfl, rfl, rfl, rfl, trivial⟩ (fun _ h => by unfold tab; rw [Ru.dupTo_snoc h2, if_neg hcn, Ru.lstL_app, hpn, Ru.ixM_old hc]; exact h)
     ·
      have hc : ixM ((Ru.prN fs[i].params).take j) fs[i].params[j].name.Text = none := by
       cases hq : ixM ((Ru.prN fs[i].params).take j) fs[i].params[j].name.Text with
       | none => rfl
       | some x => rw [hq] at hc; cases hc
      have hcn : Ru.ix ((Ru.prN fs[i].params).take j) fs[i].params[j].name.Text = none := ixM_N' hc
      refine gR ?_
      refine RW.effn (e_kPut (k := fs[i].params[j].name.Text) (v := (j : Int)) 2 rfl rfl rfl rfl hgp uT108 rfl) ?_
      refine gR ?_
      have hM := Ru.ixM_new hc
      rw [List.length_take, Nat.min_eq_left (by simpa [Ru.prN] using hj), ← hpn] at hM
      exact Post.mid_n ⟨rfl, rfl⟩ ⟨rfl, rfl, rfl, rfl, rfl, rfl, rfl, rfl, rfl, rfl, rfl, rfl, rfl, trivial⟩ (fun _ h => by unfold tab; rw [Ru.dupTo_snoc h2, if_pos hcn, List.append_nil, ← hM]; exact h)
    ·
     rintro f2 _ _ ⟨rfl, rfl⟩
     refine gR ?_
     refine RW.eff _ _ rfl (e_buildSlice (vals := [(0, iV fs[i].params[j].kind)]) (cells := [iV fs[i].params[j].kind]) uT29 inf3 rfl rfl rfl (by kernel_rfl) rfl) fun b8 => ?_
     refine gR ?_
     refine RW.eff (fun xv : {vq : Value // IsSl vq (j + 1)} => xv.1) (fun xv => St ⟨w, Φ, E⟩ Ψ [.row (.slice (some ⟨b8, 0, none⟩) 1 1) 3 1 1 [iV fs[i].params[j].kind], .blk b9 156 (prC fs[i].params[j]), .row xv.1 3 1 (j + 1) (((fs[i].params.take j).map (·.kind)).map (Value.int .i64) ++ [iV fs[i].params[j].kind]), tab bm ((Ru.prN fs[i].params).take (j + 1)), fnP.cks ((fs.take i).map (Ru.resF e fs)) l1 F1, .blk bf 147 (fC fs[i].name pv fs[i].result (pB bd)), .row pv 156 4 fs[i].params.length (fs[i].params.flatMap prC), tr fs[i].body bd G1, fnP.cks (fs.drop (i + 1)) l3 F3, .blk b3 35 [.slice oA i oc, nS], .row (.slice oA i oc) 71 8 i cells, .blk z.r 110 (rC fv cv z (Ru.lstL a1 (Ru.dupTo fs[i].params (j + 1)))), .row fv 143 1 fs.length (l.map pB), .row cv 148 1 cs.length (m.map pB), clP.cks cs m G, .blk b2 35 [nS, nS]]) rfl (e_append 2 rfl rfl rfl uT29 inf3 rfl rfl rfl (Cells.row0 0 rfl) rfl (by have := hokf.1.2; omega) (by have := hokf.1.2; omega) (fun _ => rfl)) ?_
     rintro ⟨va, hva⟩
     refine gR ?_
     exact Post.back (s' := _) (J' := _) (m' := _) (by omega) ⟨j + 1, va, rfl, rfl, rfl, by omega, hva⟩ ⟨rfl, rfl, rfl, rfl, rfl, rfl, rfl, rfl, rfl, rfl, rfl, rfl, trivial⟩ (fun w1 hw1 => by
      rw [Ru.take_snoc h2, List.map_append, List.map_append]
      exact StP.sel hw1 [2, 3, 4, 5, 6, 7, 8, 9, 10, 11, 12, 13, 14, 15] (by decide) rfl)
   ·
    have h2 : j = fs[i].params.length := by have := odF h2; omega
    have hpl : (Ru.prN fs[i].params).length = fs[i].params.length := by simp [Ru.prN]
    refine AW.wk (J' := St ⟨w, Φ, E⟩ Ψ [.row (.slice kA j kc) 3 1 j ((fs[i].params.map (·.kind)).map (Value.int .i64)), tab bm (Ru.prN fs[i].params), fnP.cks ((fs.take i).map (Ru.resF e fs)) l1 F1, .blk bf 147 (fC fs[i].name pv fs[i].result (pB bd)), .row pv 156 4 fs[i].params.length (fs[i].params.flatMap prC), tr fs[i].body bd G1, fnP.cks (fs.drop (i + 1)) l3 F3, .blk b3 35 [.slice oA i oc, nS], .row (.slice oA i oc) 71 8 i cells, .blk z.r 110 (rC fv cv z (Ru.lstL a1 (Ru.dupP fs[i].params))), .row fv 143 1 fs.length (l.map pB), .row cv 148 1 cs.length (m.map pB), clP.cks cs m G, .blk b2 35 [nS, nS]]) (fun _ hh => by rw [h2, Ru.dupTo_all, List.take_length, List.take_of_length_le (by rw [hpl]; exact Nat.le_refl _)] at hh; rw [h2]; exact hh) ?_
    refine gR ?_
    refine RW.wk (J' := St ⟨w, Φ, E⟩ Ψ [tab bm (Ru.prN fs[i].params), .row (.slice kA j kc) 3 1 j ((fs[i].params.map (·.kind)).map (Value.int .i64)), fnP.cks ((fs.take i).map (Ru.resF e fs)) l1 F1, .blk bf 147 (fC fs[i].name pv fs[i].result (pB bd)), .row pv 156 4 fs[i].params.length (fs[i].params.flatMap prC), tr fs[i].body bd G1, fnP.cks (fs.drop (i + 1)) l3 F3, .blk b3 35 [.slice oA i oc, nS], .row (.slice oA i oc) 71 8 i cells, .blk z.r 110 (rC fv cv z (Ru.lstL a1 (Ru.dupP fs[i].params))), .row fv 143 1 fs.length (l.map pB), .row cv 148 1 cs.length (m.map pB), clP.cks cs m G, .blk b2 35 [nS, nS]]) (fun _ h => StP.sel h [1, 0, 2, 3, 4, 5, 6, 7, 8, 9, 10, 11, 12, 13] (by decide) rfl) ?_
    refine RW.frzX (fun c hc => by
     rw [← hE] at hc
     simp only [fps, List.flatMap_cons, List.flatMap_nil, List.append_nil, List.mem_append] at hc
     rcases hc with hc | hc | hc | hc | hc
     ·
      exact ⟨_, List.mem_of_getElem? (i := 8) rfl, hc⟩
     ·
      exact ⟨_, List.mem_of_getElem? (i := 9) rfl, hc⟩
     ·
      have hc : c ∈ F := hc
      rw [e2] at hc
      simp only [List.mem_append, List.mem_cons] at hc
      rcases hc with hc | (hc | hc | hc) | hc
      ·
       exact ⟨_, List.mem_of_getElem? (i := 1) rfl, hc⟩
      ·
       exact ⟨_, List.mem_of_getElem? (i := 2) rfl, List.mem_singleton.2 hc⟩
      ·
       exact ⟨_, List.mem_of_getElem? (i := 3) rfl, hc⟩
      ·
       exact ⟨_, List.mem_of_getElem? (i := 4) rfl, hc⟩
      ·
       exact ⟨_, List.mem_of_getElem? (i := 5) rfl, hc⟩
     ·
      exact ⟨_, List.mem_of_getElem? (i := 10) rfl, hc⟩
     ·
      exact ⟨_, List.mem_of_getElem? (i := 11) rfl, hc⟩) fun Ψ1 hl1 htb => ?_
    refine RW.wk (J' := St ⟨w, Φ, E⟩ Ψ1 [.row (.slice kA j kc) 3 1 j ((fs[i].params.map (·.kind)).map (Value.int .i64)), fnP.cks ((fs.take i).map (Ru.resF e fs)) l1 F1, .blk bf 147 (fC fs[i].name pv fs[i].result (pB bd)), .row pv 156 4 fs[i].params.length (fs[i].params.flatMap prC), tr fs[i].body bd G1, fnP.cks (fs.drop (i + 1)) l3 F3, .blk b3 35 [.slice oA i oc, nS], .row (.slice oA i oc) 71 8 i cells, .blk z.r 110 (rC fv cv z (Ru.lstL a1 (Ru.dupP fs[i].params))), .row fv 143 1 fs.length (l.map pB), .row cv 148 1 cs.length (m.map pB), clP.cks cs m G, .blk b2 35 [nS, nS]]) (fun _ h => StP.sel h [0, 1, 2, 3, 4, 5, 6, 7, 8, 9, 10, 11, 12] (by decide) rfl) ?_
    refine RW.frzX (fun c hc => by
     rw [← hE] at hc
     simp only [fps, List.flatMap_cons, List.flatMap_nil, List.append_nil, List.mem_append] at hc
     rcases hc with hc | hc | hc | hc | hc
     ·
      exact ⟨_, List.mem_of_getElem? (i := 7) rfl, hc⟩
     ·
      exact ⟨_, List.mem_of_getElem? (i := 8) rfl, hc⟩
     ·
      have hc : c ∈ F := hc
      rw [e2] at hc
      simp only [List.mem_append, List.mem_cons] at hc
      rcases hc with hc | (hc | hc | hc) | hc
      ·
       exact ⟨_, List.mem_of_getElem? (i := 0) rfl, hc⟩
      ·
       exact ⟨_, List.mem_of_getElem? (i := 1) rfl, List.mem_singleton.2 hc⟩
      ·
       exact ⟨_, List.mem_of_getElem? (i := 2) rfl, hc⟩
      ·
       exact ⟨_, List.mem_of_getElem? (i := 3) rfl, hc⟩
      ·
       exact ⟨_, List.mem_of_getElem? (i := 4) rfl, hc⟩
     ·
      exact ⟨_, List.mem_of_getElem? (i := 9) rfl, hc⟩
     ·
      exact ⟨_, List.mem_of_getElem? (i := 10) rfl, hc⟩) fun Ψ2 hl2 hks2 => ?_
    have hkr : RepSl Ψ2 (fs[i].params.map (·.kind)) (.slice kA j kc) := RowS.ints (n := j) hks2 (by have := hokf.1.2; unfold maxSl; omega) (fun x hx => by
     obtain ⟨q, hq, rfl⟩ := List.mem_map.1 hx
     rcases hokf.1.1 q hq with h | h <;> (rw [h]; exact ⟨by decide, by decide⟩))
    have hle2 : Hp.le Φ Ψ2 := hle.trans (hl1.trans hl2)
    have hmv : PMap Ψ2 (Ru.prN fs[i].params) (.map (some bm)) := .of (tab_up htb hl2)
    refine gR ?_
    refine RW.ownG (args := #[pB z.r, pB bd, .map (some bm)]) (C2 := [fnP.cks ((fs.take i).map (Ru.resF e fs)) l1 F1, .blk bf 147 (fC fs[i].name pv fs[i].result (pB bd)), .row pv 156 4 fs[i].params.length (fs[i].params.flatMap prC), fnP.cks (fs.drop (i + 1)) l3 F3, .blk b3 35 [.slice oA i oc, nS], .row (.slice oA i oc) 71 8 i cells, .row fv 143 1 fs.length (l.map pB), .row cv 148 1 cs.length (m.map pB), clP.cks cs m G, .blk b2 35 [nS, nS]]) [7, 3, 0, 1, 2, 4, 5, 6, 8, 9, 10, 11] (by decide) rfl rfl oK rfl rfl (fun w1 hw1 => rexpr_c (by rw [hpl]; have := hokf.1.2; omega) _ w1 Ψ2 fs[i].body bd G1 _ (Nat.le_refl _) (by have := hokf.2.2.2; omega) (hR.up hle2) hmv hw1) ?_
    rintro v3 Ψ3 hl3 ⟨hwf3, hrep3⟩
    obtain ⟨uA, uc, hu, _⟩ := hrep3.sl
    have hone3 : (exA (Ru.res e (Ru.fnN fs) (Ru.prN fs[i].params) fs[i].body) v3).all Value.oneCell' = true := by subst hu; rfl
    refine RW.alc rfl fun bx => ?_
    refine RW.effn (J' := St ⟨w, Φ, E⟩ Ψ3 [.blk bx 69 (exA (Ru.res e (Ru.fnN fs) (Ru.prN fs[i].params) fs[i].body) v3), .blk z.r 110 (rC fv cv z (Ru.lstL (Ru.lstL a1 (Ru.dupP fs[i].params)) (Ru.bad e (Ru.fnN fs) (Ru.prN fs[i].params) fs[i].body))), tr (Ru.res e (Ru.fnN fs) (Ru.prN fs[i].params) fs[i].body) bd G1, fnP.cks ((fs.take i).map (Ru.resF e fs)) l1 F1, .blk bf 147 (fC fs[i].name pv fs[i].result (pB bd)), .row pv 156 4 fs[i].params.length (fs[i].params.flatMap prC), fnP.cks (fs.drop (i + 1)) l3 F3, .blk b3 35 [.slice oA i oc, nS], .row (.slice oA i oc) 71 8 i cells, .row fv 143 1 fs.length (l.map pB), .row cv 148 1 cs.length (m.map pB), clP.cks cs m G, .blk b2 35 [nS, nS]]) (e_store (v := .agg (exA (Ru.res e (Ru.fnN fs) (Ru.prN fs[i].params) fs[i].body) v3).toArray) 0 rfl rfl rfl sz69 rfl hone3 rfl rfl rfl) ?_
    refine gR ?_
    have hone4 : ((.string (bs fs[i].name.Text) :: .slice kA j kc :: iV fs[i].result :: (exA (Ru.res e (Ru.fnN fs) (Ru.prN fs[i].params) fs[i].body) v3)) : List Value).all Value.oneCell' = true := by subst hu; rfl
    refine AW.drawW (J0 := St ⟨w, Φ, E⟩ Ψ3 [.blk bx 69 (exA (Ru.res e (Ru.fnN fs) (Ru.prN fs[i].params) fs[i].body) v3), .blk bf 147 (fC fs[i].name pv fs[i].result (pB bd)), .blk b3 35 [.slice oA i oc, nS]]) (tq14 [.e, .e, .q, .e]) od18 hmix (by kernel_rfl) ?_
    refine gR ?_
    refine DW.q (v := .agg (.string (bs fs[i].name.Text) :: .slice kA j kc :: iV fs[i].result :: (exA (Ru.res e (Ru.fnN fs) (Ru.prN fs[i].params) fs[i].body) v3)).toArray) (fun _ h => StP.drop h (by repeat first | exact List.Sublist.refl _ | apply List.Sublist.cons_cons | apply List.Sublist.cons)) rfl (q_build (vals := [(0, .string (bs fs[i].name.Text)), (1, .slice kA j kc), (2, iV fs[i].result), (3, .agg (exA (Ru.res e (Ru.fnN fs) (Ru.prN fs[i].params) fs[i].body) v3).toArray)]) zero71 uT71 places71 rfl (by kernel_rfl)) ?_
    refine gR ?_
    refine DW.eff _ _ (fun _ _ _ h => StP.drop h (by repeat first | exact List.Sublist.refl _ | apply List.Sublist.cons_cons | apply List.Sublist.cons)) rfl (e_buildSlice (vals := [(0, .agg (.string (bs fs[i].name.Text) :: .slice kA j kc :: iV fs[i].result :: (exA (Ru.res e (Ru.fnN fs) (Ru.prN fs[i].params) fs[i].body) v3)).toArray)]) (cells := (.string (bs fs[i].name.Text) :: .slice kA j kc :: iV fs[i].result :: (exA (Ru.res e (Ru.fnN fs) (Ru.prN fs[i].params) fs[i].body) v3))) uT32 inf71 rfl rfl rfl (by kernel_rfl) rfl) fun b8 => ?_
    refine gR ?_
    refine DW.eff (fun xv : {vq : Value // IsSl vq (i + 1)} => xv.1) (fun xv => St ⟨w, Φ, E⟩ Ψ3 [.row (.slice (some ⟨b8, 0, none⟩) 1 1) 71 8 1 (.string (bs fs[i].name.Text) :: .slice kA j kc :: iV fs[i].result :: (exA (Ru.res e (Ru.fnN fs) (Ru.prN fs[i].params) fs[i].body) v3)), .blk bx 69 (exA (Ru.res e (Ru.fnN fs) (Ru.prN fs[i].params) fs[i].body) v3), .blk z.r 110 (rC fv cv z (Ru.lstL (Ru.lstL a1 (Ru.dupP fs[i].params)) (Ru.bad e (Ru.fnN fs) (Ru.prN fs[i].params) fs[i].body))), tr (Ru.res e (Ru.fnN fs) (Ru.prN fs[i].params) fs[i].body) bd G1, fnP.cks ((fs.take i).map (Ru.resF e fs)) l1 F1, .blk bf 147 (fC fs[i].name pv fs[i].result (pB bd)), .row pv 156 4 fs[i].params.length (fs[i].params.flatMap prC), fnP.cks (fs.drop (i + 1)) l3 F3, .blk b3 35 [.slice oA i oc, nS], .row xv.1 71 8 (i + 1) (cells ++ (.string (bs fs[i].name.Text) :: .slice kA j kc :: iV fs[i].result :: (exA (Ru.res e (Ru.fnN fs) (Ru.prN fs[i].params) fs[i].body) v3))), .row fv 143 1 fs.length (l.map pB), .row cv 148 1 cs.length (m.map pB), clP.cks cs m G, .blk b2 35 [nS, nS]]) (fun _ _ _ h => StP.drop h (by repeat first | exact List.Sublist.refl _ | apply List.Sublist.cons_cons | apply List.Sublist.cons)) rfl (e_append 9 rfl rfl rfl uT32 inf71 rfl rfl rfl (Cells.row0 0 rfl) hone4 (by omega) (by omega) (fun _ => rfl)) ?_
    rintro ⟨va, hva⟩
    obtain ⟨wA, wc, rfl, hws⟩ := hva
    refine gR ?_
    exact Post.back (s' := _) (J' := _) (m' := _) (by omega) ⟨i + 1, .slice wA (i + 1) wc, cells ++ (.string (bs fs[i].name.Text) :: .slice kA j kc :: iV fs[i].result :: (exA (Ru.res e (Ru.fnN fs) (Ru.prN fs[i].params) fs[i].body) v3)), Ψ3, rfl, rfl, rfl, by omega, hle2.trans hl3, ⟨wA, wc, rfl, hws⟩, by
     rw [Ru.take_snoc h, List.map_append, List.map_append]
     refine (hrc.mono ((hl1.trans hl2).trans hl3)).snoc (x := Ru.outF (Ru.resF e fs fs[i])) ⟨.slice kA j kc, v3, ?_, by have h : fs[i].name.Text.length ≤ 65536 := hwn.2.1; show fs[i].name.Text.length ≤ maxLen; simp only [maxLen]; omega, hkr.mono hl3, by show I64 fs[i].result; rcases hwr with h | h <;> (rw [h]; exact ⟨by decide, by decide⟩), hwf3, hrep3⟩
     show _ = Value.string (bs fs[i].name.Text) :: Value.slice kA j kc :: Value.int .i64 fs[i].result :: exC (Ru.toE (Ru.res e (Ru.fnN fs) (Ru.prN fs[i].params) fs[i].body)) v3
     rw [exC_toE]⟩ ⟨rfl, rfl, rfl, rfl, rfl, rfl, trivial⟩ (fun w1 hw1 => by
     have k1 := Ru.fn_join (x := Ru.resF e fs fs[i]) (C := [.row (.slice (some ⟨b8, 0, none⟩) 1 1) 71 8 1 (.string (bs fs[i].name.Text) :: .slice kA j kc :: iV fs[i].result :: (exA (Ru.res e (Ru.fnN fs) (Ru.prN fs[i].params) fs[i].body) v3)), .blk bx 69 (exA (Ru.res e (Ru.fnN fs) (Ru.prN fs[i].params) fs[i].body) v3), .blk z.r 110 (rC fv cv z (Ru.lstL (Ru.lstL a1 (Ru.dupP fs[i].params)) (Ru.bad e (Ru.fnN fs) (Ru.prN fs[i].params) fs[i].body))), fnP.cks ((fs.take i).map (Ru.resF e fs)) l1 F1, fnP.cks (fs.drop (i + 1)) l3 F3, .blk b3 35 [.slice wA (i + 1) wc, nS], .row (.slice wA (i + 1) wc) 71 8 (i + 1) (cells ++ (.string (bs fs[i].name.Text) :: .slice kA j kc :: iV fs[i].result :: (exA (Ru.res e (Ru.fnN fs) (Ru.prN fs[i].params) fs[i].body) v3))), .row fv 143 1 fs.length (l.map pB), .row cv 148 1 cs.length (m.map pB), clP.cks cs m G, .blk b2 35 [nS, nS]]) hwn hwr hwp (StP.sel hw1 [5, 6, 3, 0, 1, 2, 4, 7, 8, 9, 10, 11, 12, 13] (by decide) rfl)
     have k2 := Ru.OP.un (C := [.blk b3 35 [.slice wA (i + 1) wc, nS], .row (.slice wA (i + 1) wc) 71 8 (i + 1) (cells ++ (.string (bs fs[i].name.Text) :: .slice kA j kc :: iV fs[i].result :: (exA (Ru.res e (Ru.fnN fs) (Ru.prN fs[i].params) fs[i].body) v3))), .blk z.r 110 (rC fv cv z (Ru.lstL (Ru.lstL a1 (Ru.dupP fs[i].params)) (Ru.bad e (Ru.fnN fs) (Ru.prN fs[i].params) fs[i].body))), .row fv 143 1 fs.length (l.map pB), .row cv 148 1 cs.length (m.map pB), clP.cks cs m G, .blk b2 35 [nS, nS]]) (StP.sel k1 [4, 0, 5, 6, 7, 3, 8, 9, 10, 11] (by decide) rfl)
     have e9 : List.map (Ru.resF e fs) (fs.take (i + 1)) ++ fs.drop (i + 1) = List.map (Ru.resF e fs) (fs.take i) ++ Ru.resF e fs fs[i] :: fs.drop (i + 1) := by rw [Ru.take_snoc h, List.map_append, List.append_assoc]; rfl
     have e8 : Ru.lstL (-1) (Ru.badTo e fs (i + 1)) = Ru.lstL (Ru.lstL a1 (Ru.dupP fs[i].params)) (Ru.bad e (Ru.fnN fs) (Ru.prN fs[i].params) fs[i].body) := by
      rw [Ru.badTo_snoc h, Ru.lstL_app, ← ha1]
      unfold Ru.badF
      rw [Ru.lstL_app, Ru.lstL_app]
     rw [e9, e8, e1, e2]
     rw [e1] at k2
     exact StP.sel k2 [1, 2, 3, 4, 0, 5, 6, 7] (by decide) rfl)
 ·
  have h : i = fs.length := by have := odF h; omega
  subst h
  rw [List.take_length, List.drop_length, List.append_nil]
  rw [List.take_length] at hrc
  refine gR ?_
  refine AW.wk (J' := St ⟨w, Φ, E⟩ Ψ [.blk b3 35 [.slice oA fs.length oc, nS], .row nS 73 11 0 [], .blk z.r 110 (rC fv cv z (Ru.lstL (-1) (Ru.badTo e fs fs.length))), clP.cks cs m G, .row (.slice oA fs.length oc) 71 8 fs.length cells, .row fv 143 1 fs.length (l.map pB), fnP.cks (fs.map (Ru.resF e fs)) l F, .row cv 148 1 cs.length (m.map pB), .blk b2 35 [nS, nS]]) (fun _ h => StP.sel (addNil (T := 73) (sz := 11) h) [1, 0, 3, 7, 2, 4, 5, 6, 8] (by decide) rfl) (AW.loop (fun s J g => ∃ (i : Nat) (ocv : Value) (dells : List Value) (Ω : Hp), s = [(0, pB z.r), (2, pB b2), (3, pB b3), (130, cv), (131, iV (cs.length : Int)), (132, iV (i : Int))] ∧ J = St ⟨w, Φ, E⟩ Ω [.blk b3 35 [.slice oA fs.length oc, ocv], .row ocv 73 11 i dells, .blk z.r 110 (rC fv cv z (Ru.lstL (Ru.lstL (-1) (Ru.badTo e fs fs.length)) ((cs.take i).flatMap (Ru.badC e fs)))), clP.cks ((cs.take i).map (Ru.resC e fs) ++ cs.drop i) m G, .row (.slice oA fs.length oc) 71 8 fs.length cells, .row fv 143 1 fs.length (l.map pB), fnP.cks (fs.map (Ru.resF e fs)) l F, .row cv 148 1 cs.length (m.map pB), .blk b2 35 [nS, nS]] ∧ g = cs.length - i ∧ i ≤ cs.length ∧ Hp.le Ψ Ω ∧ IsSl ocv i ∧ RepC Ω (((cs.take i).map (Ru.resC e fs)).map (Ru.outC e)) dells) (s0 := _) (J1 := _) (m0 := _) ⟨0, nS, [], Ψ, rfl, rfl, rfl, Nat.zero_le _, Hp.le_refl _, isSl_nil, RepC.nil⟩ ⟨rfl, rfl, rfl, rfl, rfl, rfl, trivial⟩ (fun _ h => h) ?_)
  rintro _ _ _ _ ⟨i, ocv, dells, Ω, rfl, rfl, rfl, hi, hleΩ, hocv, hrd⟩
  obtain ⟨pA, pc, rfl, hps⟩ := hocv
  refine gR ?_
  refine AW.cond rfl (fun h => ?_) fun h => ?_
  ·
   have h : i < cs.length := by have := odT h; omega
   have hokc := hok.2.1 cs[i] (List.getElem_mem h)
   have hRΩ := hR.up (hle.trans hleΩ)
   have hsp := Ru.take_drop_at h
   rw [hsp]
   refine gR ?_
   refine RW.ex (J' := fun y : {y : CG // m = y.l1 ++ y.b :: y.l3 ∧ G = y.F1 ++ ((y.b :: (y.G1 ++ y.G2)) ++ y.F3) ∧ y.l1.length = i ∧ Ru.wfK cs[i].link} => St ⟨w, Φ, E⟩ Ω [clP.cks ((cs.take i).map (Ru.resC e fs)) y.1.l1 y.1.F1, .blk y.1.b 150 (cC cs[i].link (pB y.1.bc) (pB y.1.bv)), tr cs[i].cond y.1.bc y.1.G1, tr cs[i].value y.1.bv y.1.G2, clP.cks (cs.drop (i + 1)) y.1.l3 y.1.F3, .blk b3 35 [.slice oA fs.length oc, .slice pA i pc], .row (.slice pA i pc) 73 11 i dells, .blk z.r 110 (rC fv cv z (Ru.lstL (Ru.lstL (-1) (Ru.badTo e fs fs.length)) ((cs.take i).flatMap (Ru.badC e fs)))), .row (.slice oA fs.length oc) 71 8 fs.length cells, .row fv 143 1 fs.length (l.map pB), fnP.cks (fs.map (Ru.resF e fs)) l F, .row cv 148 1 cs.length (m.map pB), .blk b2 35 [nS, nS]]) (fun w1 hw1 => ?_) ?_
   ·
    obtain ⟨l1, b, l3, F1, F2, F3, e1, e2, e3, e4⟩ := Ru.OP.at (C := [.blk b3 35 [.slice oA fs.length oc, .slice pA i pc], .row (.slice pA i pc) 73 11 i dells, .blk z.r 110 (rC fv cv z (Ru.lstL (Ru.lstL (-1) (Ru.badTo e fs fs.length)) ((cs.take i).flatMap (Ru.badC e fs)))), .row (.slice oA fs.length oc) 71 8 fs.length cells, .row fv 143 1 fs.length (l.map pB), fnP.cks (fs.map (Ru.resF e fs)) l F, .row cv 148 1 cs.length (m.map pB), .blk b2 35 [nS, nS]]) (StP.sel hw1 [3, 0, 1, 2, 4, 5, 6, 7, 8] (by decide) rfl)
    obtain ⟨bc, bv, G1, G2, e5, e6, e9⟩ := Ru.cl_cut (e4.perm (List.Perm.swap _ _ _))
    refine ⟨⟨⟨l1, b, l3, F1, F3, bc, bv, G1, G2⟩, e1, by rw [e2, e5], by rw [e3, List.length_map, List.length_take]; omega, e6⟩, ?_⟩
    exact StP.sel (C' := [clP.cks ((cs.take i).map (Ru.resC e fs)) l1 F1, .blk b 150 (cC cs[i].link (pB bc) (pB bv)), tr cs[i].cond bc G1, tr cs[i].value bv G2, clP.cks (cs.drop (i + 1)) l3 F3, .blk b3 35 [.slice oA fs.length oc, .slice pA i pc], .row (.slice pA i pc) 73 11 i dells, .blk z.r 110 (rC fv cv z (Ru.lstL (Ru.lstL (-1) (Ru.badTo e fs fs.length)) ((cs.take i).flatMap (Ru.badC e fs)))), .row (.slice oA fs.length oc) 71 8 fs.length cells, .row fv 143 1 fs.length (l.map pB), fnP.cks (fs.map (Ru.resF e fs)) l F, .row cv 148 1 cs.length (m.map pB), .blk b2 35 [nS, nS]]) e9 [3, 0, 1, 2, 4, 5, 6, 7, 8, 9, 10, 11, 12] (by decide) rfl
   rintro ⟨⟨l1, bq, l3, F1, F3, bc, bv, G1, G2⟩, e1, e2, e3, hwl⟩
   simp only at e1 e2 e3 ⊢
   have hlb : (m.map pB)[i]? = some (pB bq) := by rw [e1, List.getElem?_map, List.getElem?_append_right (by omega), e3, Nat.sub_self]; rfl
   refine RW.q (v := pB bq) rfl (q_load rfl uT148 rfl (Cell.row 11 rfl (by rw [Nat.mul_one]; exact hlb))) ?_
   refine gR ?_
   refine RW.ownG (args := #[pB z.r, pB bc, .map none]) (C2 := [clP.cks ((cs.take i).map (Ru.resC e fs)) l1 F1, .blk bq 150 (cC cs[i].link (pB bc) (pB bv)), tr cs[i].value bv G2, clP.cks (cs.drop (i + 1)) l3 F3, .blk b3 35 [.slice oA fs.length oc, .slice pA i pc], .row (.slice pA i pc) 73 11 i dells, .row (.slice oA fs.length oc) 71 8 fs.length cells, .row fv 143 1 fs.length (l.map pB), fnP.cks (fs.map (Ru.resF e fs)) l F, .row cv 148 1 cs.length (m.map pB), .blk b2 35 [nS, nS]]) [7, 2, 0, 1, 3, 4, 5, 6, 8, 9, 10, 11, 12] (by decide) rfl rfl oK rfl rfl (fun w1 hw1 => rexpr_c (ps := []) (Nat.zero_le _) _ w1 Ω cs[i].cond bc G1 _ (Nat.le_refl _) (by have := hokc.2.1; omega) hRΩ (.inl ⟨rfl, rfl⟩) hw1) ?_
   rintro v3 Ω1 hl1 ⟨hwf3, hrep3⟩
   obtain ⟨uA, uc, hu, _⟩ := hrep3.sl
   have hone3 : (exA (Ru.res e (Ru.fnN fs) [] cs[i].cond) v3).all Value.oneCell' = true := by subst hu; rfl
   refine RW.alc rfl fun bx => ?_
   refine RW.effn (J' := St ⟨w, Φ, E⟩ Ω1 [.blk bx 69 (exA (Ru.res e (Ru.fnN fs) [] cs[i].cond) v3), .blk z.r 110 (rC fv cv z (Ru.lstL (Ru.lstL (Ru.lstL (-1) (Ru.badTo e fs fs.length)) ((cs.take i).flatMap (Ru.badC e fs))) (Ru.bad e (Ru.fnN fs) [] cs[i].cond))), tr (Ru.res e (Ru.fnN fs) [] cs[i].cond) bc G1, clP.cks ((cs.take i).map (Ru.resC e fs)) l1 F1, .blk bq 150 (cC cs[i].link (pB bc) (pB bv)), tr cs[i].value bv G2, clP.cks (cs.drop (i + 1)) l3 F3, .blk b3 35 [.slice oA fs.length oc, .slice pA i pc], .row (.slice pA i pc) 73 11 i dells, .row (.slice oA fs.length oc) 71 8 fs.length cells, .row fv 143 1 fs.length (l.map pB), fnP.cks (fs.map (Ru.resF e fs)) l F, .row cv 148 1 cs.length (m.map pB), .blk b2 35 [nS, nS]]) (e_store (v := .agg (exA (Ru.res e (Ru.fnN fs) [] cs[i].cond) v3).toArray) 0 rfl rfl rfl sz69 rfl hone3 rfl rfl rfl) ?_
   refine gR ?_
   have hpre : ∀ (a : Int) (j : Nat) (v : Value), ((zP5 fv cv z.m1 z.m2 z.m3 z.m4 z.m5) : List Value)[j]? = some v → (rC fv cv z a)[j]? = some v := fun a j v hj => by
    match j, hj with
    | 0, hj => exact hj
    | 1, hj => exact hj
    | 2, hj => exact hj
    | 3, hj => exact hj
    | 4, hj => exact hj
    | 5, hj => exact hj
    | 6, hj => exact hj
   have hJ : ∀ w1, (St ⟨w, Φ, E⟩ Ω1 [.blk bx 69 (exA (Ru.res e (Ru.fnN fs) [] cs[i].cond) v3), .blk z.r 110 (rC fv cv z (Ru.lstL (Ru.lstL (Ru.lstL (-1) (Ru.badTo e fs fs.length)) ((cs.take i).flatMap (Ru.badC e fs))) (Ru.bad e (Ru.fnN fs) [] cs[i].cond))), tr (Ru.res e (Ru.fnN fs) [] cs[i].cond) bc G1, clP.cks ((cs.take i).map (Ru.resC e fs)) l1 F1, .blk bq 150 (cC cs[i].link (pB bc) (pB bv)), tr cs[i].value bv G2, clP.cks (cs.drop (i + 1)) l3 F3, .blk b3 35 [.slice oA fs.length oc, .slice pA i pc], .row (.slice pA i pc) 73 11 i dells, .row (.slice oA fs.length oc) 71 8 fs.length cells, .row fv 143 1 fs.length (l.map pB), fnP.cks (fs.map (Ru.resF e fs)) l F, .row cv 148 1 cs.length (m.map pB), .blk b2 35 [nS, nS]]).p w1 → (St ⟨w, Φ, E⟩ Ω1 [.blk bq 150 (cC cs[i].link (pB bc) (pB bv)), .pre z.r 110 (zP5 fv cv z.m1 z.m2 z.m3 z.m4 z.m5)]).p w1 := fun w1 h => (StP.toPre (h.sel (C' := [.blk z.r 110 (rC fv cv z (Ru.lstL (Ru.lstL (Ru.lstL (-1) (Ru.badTo e fs fs.length)) ((cs.take i).flatMap (Ru.badC e fs))) (Ru.bad e (Ru.fnN fs) [] cs[i].cond))), .blk bq 150 (cC cs[i].link (pB bc) (pB bv))]) [1, 4] (by decide) rfl) (hpre _)).sel [1, 0] (by decide) rfl
   have hJ2 : ∀ w1, (St ⟨w, Φ, E⟩ Ω1 [.blk z.r 110 (rC fv cv z (Ru.lstL (Ru.lstL (Ru.lstL (Ru.lstL (-1) (Ru.badTo e fs fs.length)) ((cs.take i).flatMap (Ru.badC e fs))) (Ru.bad e (Ru.fnN fs) [] cs[i].cond)) (Ru.ixB e.links cs[i].link))), .blk bx 69 (exA (Ru.res e (Ru.fnN fs) [] cs[i].cond) v3), tr (Ru.res e (Ru.fnN fs) [] cs[i].cond) bc G1, clP.cks ((cs.take i).map (Ru.resC e fs)) l1 F1, .blk bq 150 (cC cs[i].link (pB bc) (pB bv)), tr cs[i].value bv G2, clP.cks (cs.drop (i + 1)) l3 F3, .blk b3 35 [.slice oA fs.length oc, .slice pA i pc], .row (.slice pA i pc) 73 11 i dells, .row (.slice oA fs.length oc) 71 8 fs.length cells, .row fv 143 1 fs.length (l.map pB), fnP.cks (fs.map (Ru.resF e fs)) l F, .row cv 148 1 cs.length (m.map pB), .blk b2 35 [nS, nS]]).p w1 → (St ⟨w, Φ, E⟩ Ω1 [.blk bq 150 (cC cs[i].link (pB bc) (pB bv)), .pre z.r 110 (zP5 fv cv z.m1 z.m2 z.m3 z.m4 z.m5)]).p w1 := fun w1 h => (StP.toPre (h.sel (C' := [.blk z.r 110 (rC fv cv z (Ru.lstL (Ru.lstL (Ru.lstL (Ru.lstL (-1) (Ru.badTo e fs fs.length)) ((cs.take i).flatMap (Ru.badC e fs))) (Ru.bad e (Ru.fnN fs) [] cs[i].cond)) (Ru.ixB e.links cs[i].link))), .blk bq 150 (cC cs[i].link (pB bc) (pB bv))]) [0, 4] (by decide) rfl) (hpre _)).sel [1, 0] (by decide) rfl
   have hgl : cs[i].link.Text.length ≤ maxLen := by have h : cs[i].link.Text.length ≤ 65536 := hwl.2.1; simp only [maxLen]; omega
   have hRΩ1 := hRΩ.up hl1
   refine AW.draw (J0 := St ⟨w, Φ, E⟩ Ω1 [.blk bq 150 (cC cs[i].link (pB bc) (pB bv)), .pre z.r 110 (zP5 fv cv z.m1 z.m2 z.m3 z.m4 z.m5)]) (tq9 [.e, .q]) od11 hmix (by kernel_rfl) ?_
   refine gR ?_
   refine DW.q (v := .agg (tkC cs[i].link).toArray) (fun w1 h => hJ w1 h) rfl (qa_ldA (cs := tkC cs[i].link) rfl (Cells.blk3 0 rfl rfl rfl rfl) rfl) (DW.ownU (args := #[pB z.r, .map (some z.m3), .agg (tkC cs[i].link).toArray]) (C2 := [.blk bx 69 (exA (Ru.res e (Ru.fnN fs) [] cs[i].cond) v3), tr (Ru.res e (Ru.fnN fs) [] cs[i].cond) bc G1, clP.cks ((cs.take i).map (Ru.resC e fs)) l1 F1, .blk bq 150 (cC cs[i].link (pB bc) (pB bv)), tr cs[i].value bv G2, clP.cks (cs.drop (i + 1)) l3 F3, .blk b3 35 [.slice oA fs.length oc, .slice pA i pc], .row (.slice pA i pc) 73 11 i dells, .row (.slice oA fs.length oc) 71 8 fs.length cells, .row fv 143 1 fs.length (l.map pB), fnP.cks (fs.map (Ru.resF e fs)) l F, .row cv 148 1 cs.length (m.map pB), .blk b2 35 [nS, nS]]) [1, 0, 2, 3, 4, 5, 6, 7, 8, 9, 10, 11, 12, 13] (by decide) rfl rfl oK rfl rfl (fun w1 hw1 => rfind_c w1 (.of hRΩ1.l) hgl hw1) (fun _ w1 h => hJ2 w1 h) fun _ => (DW.q (fun w1 h => hJ2 w1 h) rfl (q_assign (v := iV (Ru.ixN e.links cs[i].link)) rfl) ?_))
   refine gR ?_
   refine AW.drawW (J0 := St ⟨w, Φ, E⟩ Ω1 [.blk bx 69 (exA (Ru.res e (Ru.fnN fs) [] cs[i].cond) v3), .blk bq 150 (cC cs[i].link (pB bc) (pB bv)), .blk b3 35 [.slice oA fs.length oc, .slice pA i pc]]) (tq9 [.e, .q, .e, .e, .q, .e]) od15 hmix (by kernel_rfl) ?_
   refine gR ?_
   refine DW.ownG (args := #[pB z.r, pB bv, .map none]) (C2 := [.blk bx 69 (exA (Ru.res e (Ru.fnN fs) [] cs[i].cond) v3), tr (Ru.res e (Ru.fnN fs) [] cs[i].cond) bc G1, clP.cks ((cs.take i).map (Ru.resC e fs)) l1 F1, .blk bq 150 (cC cs[i].link (pB bc) (pB bv)), clP.cks (cs.drop (i + 1)) l3 F3, .blk b3 35 [.slice oA fs.length oc, .slice pA i pc], .row (.slice pA i pc) 73 11 i dells, .row (.slice oA fs.length oc) 71 8 fs.length cells, .row fv 143 1 fs.length (l.map pB), fnP.cks (fs.map (Ru.resF e fs)) l F, .row cv 148 1 cs.length (m.map pB), .blk b2 35 [nS, nS]]) [0, 5, 1, 2, 3, 4, 6, 7, 8, 9, 10, 11, 12, 13] (by decide) rfl rfl oK rfl rfl (fun w1 hw1 => rexpr_c (ps := []) (Nat.zero_le _) _ w1 Ω1 cs[i].value bv G2 _ (Nat.le_refl _) (by have := hokc.2.2.2; omega) hRΩ1 (.inl ⟨rfl, rfl⟩) hw1) (fun _ Ψ2 w1 hl2 h => StP.know hl2 (StP.drop h (by repeat first | exact List.Sublist.refl _ | apply List.Sublist.cons_cons | apply List.Sublist.cons))) ?_
   rintro v4 Ω2 hl2 ⟨hwf4, hrep4⟩
   obtain ⟨xA, xc, hx, _⟩ := hrep4.sl
   have hone4 : (((exA (Ru.res e (Ru.fnN fs) [] cs[i].cond) v3) ++ iV (Ru.ixN e.links cs[i].link) :: (exA (Ru.res e (Ru.fnN fs) [] cs[i].value) v4)) : List Value).all Value.oneCell' = true := by subst hu; subst hx; rfl
   refine gR ?_
   refine DW.q (v := .agg ((exA (Ru.res e (Ru.fnN fs) [] cs[i].cond) v3) ++ iV (Ru.ixN e.links cs[i].link) :: (exA (Ru.res e (Ru.fnN fs) [] cs[i].value) v4)).toArray) (fun _ h => StP.know hl2 (StP.drop h (by repeat first | exact List.Sublist.refl _ | apply List.Sublist.cons_cons | apply List.Sublist.cons))) rfl (q_build (vals := [(0, .agg (exA (Ru.res e (Ru.fnN fs) [] cs[i].cond) v3).toArray), (1, iV (Ru.ixN e.links cs[i].link)), (2, .agg (exA (Ru.res e (Ru.fnN fs) [] cs[i].value) v4).toArray)]) zero73 uT73 places73 rfl (by kernel_rfl)) (DW.eff _ _ (fun _ _ _ h => StP.know hl2 (StP.drop h (by repeat first | exact List.Sublist.refl _ | apply List.Sublist.cons_cons | apply List.Sublist.cons))) rfl (e_buildSlice (vals := [(0, .agg ((exA (Ru.res e (Ru.fnN fs) [] cs[i].cond) v3) ++ iV (Ru.ixN e.links cs[i].link) :: (exA (Ru.res e (Ru.fnN fs) [] cs[i].value) v4)).toArray)]) (cells := ((exA (Ru.res e (Ru.fnN fs) [] cs[i].cond) v3) ++ iV (Ru.ixN e.links cs[i].link) :: (exA (Ru.res e (Ru.fnN fs) [] cs[i].value) v4))) uT33 inf73 rfl rfl rfl (by kernel_rfl) rfl) fun b8 => ?_)
   refine gR ?_
   refine DW.eff (fun xv : {vq : Value // IsSl vq (i + 1)} => xv.1) (fun xv => St ⟨w, Φ, E⟩ Ω2 [.row (.slice (some ⟨b8, 0, none⟩) 1 1) 73 11 1 ((exA (Ru.res e (Ru.fnN fs) [] cs[i].cond) v3) ++ iV (Ru.ixN e.links cs[i].link) :: (exA (Ru.res e (Ru.fnN fs) [] cs[i].value) v4)), .blk z.r 110 (rC fv cv z (Ru.lstL (Ru.lstL (Ru.lstL (Ru.lstL (Ru.lstL (-1) (Ru.badTo e fs fs.length)) ((cs.take i).flatMap (Ru.badC e fs))) (Ru.bad e (Ru.fnN fs) [] cs[i].cond)) (Ru.ixB e.links cs[i].link)) (Ru.bad e (Ru.fnN fs) [] cs[i].value))), tr (Ru.res e (Ru.fnN fs) [] cs[i].value) bv G2, .blk bx 69 (exA (Ru.res e (Ru.fnN fs) [] cs[i].cond) v3), tr (Ru.res e (Ru.fnN fs) [] cs[i].cond) bc G1, clP.cks ((cs.take i).map (Ru.resC e fs)) l1 F1, .blk bq 150 (cC cs[i].link (pB bc) (pB bv)), clP.cks (cs.drop (i + 1)) l3 F3, .blk b3 35 [.slice oA fs.length oc, .slice pA i pc], .row xv.1 73 11 (i + 1) (dells ++ ((exA (Ru.res e (Ru.fnN fs) [] cs[i].cond) v3) ++ iV (Ru.ixN e.links cs[i].link) :: (exA (Ru.res e (Ru.fnN fs) [] cs[i].value) v4))), .row (.slice oA fs.length oc) 71 8 fs.length cells, .row fv 143 1 fs.length (l.map pB), fnP.cks (fs.map (Ru.resF e fs)) l F, .row cv 148 1 cs.length (m.map pB), .blk b2 35 [nS, nS]]) (fun _ _ _ h => StP.know hl2 (StP.drop h (by repeat first | exact List.Sublist.refl _ | apply List.Sublist.cons_cons | apply List.Sublist.cons))) rfl (e_append 9 rfl rfl rfl uT33 inf73 rfl rfl rfl (Cells.row0 0 rfl) hone4 (by omega) (by omega) (fun _ => rfl)) ?_
   rintro ⟨va, hva⟩
   obtain ⟨wA, wc, rfl, hws⟩ := hva
   refine gR ?_
   exact Post.back (s' := _) (J' := _) (m' := _) (by omega) ⟨i + 1, .slice wA (i + 1) wc, dells ++ ((exA (Ru.res e (Ru.fnN fs) [] cs[i].cond) v3) ++ iV (Ru.ixN e.links cs[i].link) :: (exA (Ru.res e (Ru.fnN fs) [] cs[i].value) v4)), Ω2, rfl, rfl, rfl, by omega, (hleΩ.trans hl1).trans hl2, ⟨wA, wc, rfl, hws⟩, by
    rw [Ru.take_snoc h, List.map_append, List.map_append]
    refine (hrd.mono (hl1.trans hl2)).snoc (x := Ru.outC e (Ru.resC e fs cs[i])) ⟨v3, v4, ?_, hwf3, hrep3.mono hl2, Ru.ixN_I64 _ hR.nl, hwf4, hrep4⟩
    show _ = exC (Ru.toE (Ru.res e (Ru.fnN fs) [] cs[i].cond)) v3 ++ Value.int .i64 (Ru.ixN e.links cs[i].link) :: exC (Ru.toE (Ru.res e (Ru.fnN fs) [] cs[i].value)) v4
    rw [exC_toE, exC_toE]⟩ ⟨rfl, rfl, rfl, rfl, rfl, rfl, trivial⟩ (fun w1 hw1 => by
    have k1 := Ru.cl_join (x := Ru.resC e fs cs[i]) (C := [.row (.slice (some ⟨b8, 0, none⟩) 1 1) 73 11 1 ((exA (Ru.res e (Ru.fnN fs) [] cs[i].cond) v3) ++ iV (Ru.ixN e.links cs[i].link) :: (exA (Ru.res e (Ru.fnN fs) [] cs[i].value) v4)), .blk z.r 110 (rC fv cv z (Ru.lstL (Ru.lstL (Ru.lstL (Ru.lstL (Ru.lstL (-1) (Ru.badTo e fs fs.length)) ((cs.take i).flatMap (Ru.badC e fs))) (Ru.bad e (Ru.fnN fs) [] cs[i].cond)) (Ru.ixB e.links cs[i].link)) (Ru.bad e (Ru.fnN fs) [] cs[i].value))), .blk bx 69 (exA (Ru.res e (Ru.fnN fs) [] cs[i].cond) v3), clP.cks ((cs.take i).map (Ru.resC e fs)) l1 F1, clP.cks (cs.drop (i + 1)) l3 F3, .blk b3 35 [.slice oA fs.length oc, .slice wA (i + 1) wc], .row (.slice wA (i + 1) wc) 73 11 (i + 1) (dells ++ ((exA (Ru.res e (Ru.fnN fs) [] cs[i].cond) v3) ++ iV (Ru.ixN e.links cs[i].link) :: (exA (Ru.res e (Ru.fnN fs) [] cs[i].value) v4))), .row (.slice oA fs.length oc) 71 8 fs.length cells, .row fv 143 1 fs.length (l.map pB), fnP.cks (fs.map (Ru.resF e fs)) l F, .row cv 148 1 cs.length (m.map pB), .blk b2 35 [nS, nS]]) hwl (StP.sel hw1 [6, 4, 2, 0, 1, 3, 5, 7, 8, 9, 10, 11, 12, 13, 14] (by decide) rfl)
    have k2 := Ru.OP.un (C := [.blk b3 35 [.slice oA fs.length oc, .slice wA (i + 1) wc], .row (.slice wA (i + 1) wc) 73 11 (i + 1) (dells ++ ((exA (Ru.res e (Ru.fnN fs) [] cs[i].cond) v3) ++ iV (Ru.ixN e.links cs[i].link) :: (exA (Ru.res e (Ru.fnN fs) [] cs[i].value) v4))), .blk z.r 110 (rC fv cv z (Ru.lstL (Ru.lstL (Ru.lstL (Ru.lstL (Ru.lstL (-1) (Ru.badTo e fs fs.length)) ((cs.take i).flatMap (Ru.badC e fs))) (Ru.bad e (Ru.fnN fs) [] cs[i].cond)) (Ru.ixB e.links cs[i].link)) (Ru.bad e (Ru.fnN fs) [] cs[i].value))), .row (.slice oA fs.length oc) 71 8 fs.length cells, .row fv 143 1 fs.length (l.map pB), fnP.cks (fs.map (Ru.resF e fs)) l F, .row cv 148 1 cs.length (m.map pB), .blk b2 35 [nS, nS]]) (StP.sel k1 [4, 0, 5, 6, 7, 2, 8, 9, 10, 11, 12] (by decide) rfl)
    have e9 : List.map (Ru.resC e fs) (cs.take (i + 1)) ++ cs.drop (i + 1) = List.map (Ru.resC e fs) (cs.take i) ++ Ru.resC e fs cs[i] :: cs.drop (i + 1) := by rw [Ru.take_snoc h, List.map_append, List.append_assoc]; rfl
    have e7 : (cs.take (i + 1)).flatMap (Ru.badC e fs) = (cs.take i).flatMap (Ru.badC e fs) ++ Ru.badC e fs cs[i] := by rw [Ru.take_snoc h, List.flatMap_append, List.flatMap_cons, List.flatMap_nil, List.append_nil]
    have e8 : Ru.lstL (Ru.lstL (-1) (Ru.badTo e fs fs.length)) ((cs.take (i + 1)).flatMap (Ru.badC e fs)) = Ru.lstL (Ru.lstL (Ru.lstL (Ru.lstL (Ru.lstL (-1) (Ru.badTo e fs fs.length)) ((cs.take i).flatMap (Ru.badC e fs))) (Ru.bad e (Ru.fnN fs) [] cs[i].cond)) (Ru.ixB e.links cs[i].link)) (Ru.bad e (Ru.fnN fs) [] cs[i].value) := by
     rw [e7, Ru.lstL_app]
     unfold Ru.badC
     rw [Ru.lstL_app, Ru.lstL_app]
    rw [e9, e8, e1, e2]
    rw [e1] at k2
    exact StP.sel k2 [1, 2, 3, 0, 4, 5, 6, 7, 8] (by decide) rfl)
  ·
   have h : i = cs.length := by have := odF h; omega
   subst h
   rw [List.take_length, List.drop_length, List.append_nil]
   rw [List.take_length] at hrd
   refine gR ?_
   refine fin_res (vs := [.agg [.slice oA fs.length oc, .slice pA cs.length pc].toArray]) rfl rfl ⟨.agg rfl rfl (Cells.blk 8 rfl), trivial⟩ rfl (fun w1 hw1 => ?_)
   have e8 : Ru.lstL (Ru.lstL (-1) (Ru.badTo e fs fs.length)) (cs.flatMap (Ru.badC e fs)) = Ru.lstL (-1) (Ru.badP e (fs, cs)) := by unfold Ru.badP; rw [Ru.lstL_app, Ru.badTo_all]
   rw [e8] at hw1
   obtain ⟨Ω1, hl1, hs1, k1⟩ := StP.freezeX (c := .row (.slice oA fs.length oc) 71 8 fs.length cells) (C := [.row (.slice pA cs.length pc) 73 11 cs.length dells, .blk z.r 110 (rC fv cv z (Ru.lstL (-1) (Ru.badP e (fs, cs)))), .row fv 143 1 fs.length (l.map pB), fnP.cks (fs.map (Ru.resF e fs)) l F, .row cv 148 1 cs.length (m.map pB), clP.cks (cs.map (Ru.resC e fs)) m G]) (StP.sel hw1 [4, 1, 2, 5, 6, 7, 3] (by decide) rfl) (fun c hc => by
    rw [← hE] at hc
    simp only [fps, List.flatMap_cons, List.flatMap_nil, List.append_nil, List.mem_append] at hc
    rcases hc with hc | hc | hc | hc | hc
    ·
     exact ⟨_, List.mem_of_getElem? (i := 1) rfl, hc⟩
    ·
     exact ⟨_, List.mem_of_getElem? (i := 2) rfl, hc⟩
    ·
     exact ⟨_, List.mem_of_getElem? (i := 3) rfl, hc⟩
    ·
     exact ⟨_, List.mem_of_getElem? (i := 4) rfl, hc⟩
    ·
     exact ⟨_, List.mem_of_getElem? (i := 5) rfl, hc⟩)
   obtain ⟨Ω2, hl2, hs2, k2⟩ := StP.freezeX (c := .row (.slice pA cs.length pc) 73 11 cs.length dells) (C := [.blk z.r 110 (rC fv cv z (Ru.lstL (-1) (Ru.badP e (fs, cs)))), .row fv 143 1 fs.length (l.map pB), fnP.cks (fs.map (Ru.resF e fs)) l F, .row cv 148 1 cs.length (m.map pB), clP.cks (cs.map (Ru.resC e fs)) m G]) k1 (fun c hc => by
    rw [← hE] at hc
    simp only [fps, List.flatMap_cons, List.flatMap_nil, List.append_nil, List.mem_append] at hc
    rcases hc with hc | hc | hc | hc | hc
    ·
     exact ⟨_, List.mem_of_getElem? (i := 0) rfl, hc⟩
    ·
     exact ⟨_, List.mem_of_getElem? (i := 1) rfl, hc⟩
    ·
     exact ⟨_, List.mem_of_getElem? (i := 2) rfl, hc⟩
    ·
     exact ⟨_, List.mem_of_getElem? (i := 3) rfl, hc⟩
    ·
     exact ⟨_, List.mem_of_getElem? (i := 4) rfl, hc⟩)
   rw [← hE] at k2
   refine ⟨(.slice oA fs.length oc, .slice pA cs.length pc), Ω2, rfl, ((hle.trans hleΩ).trans hl1).trans hl2, k2, ?_, ?_⟩
   ·
    exact (RowS.repC (α := Bt.RFunc) hs1 (hrc.mono (hleΩ.trans hl1)) (by simp) (by show fs.length * 104 ≤ maxSl; unfold maxSl; omega)).mono hl2
   ·
    exact RowS.repC (α := Bt.RClause) hs2 (hrd.mono (hl1.trans hl2)) (by simp) (by show cs.length * 120 ≤ maxSl; unfold maxSl; omega)
end Go.Proofs.YtnfmjfheciihjaaGreatDoor
