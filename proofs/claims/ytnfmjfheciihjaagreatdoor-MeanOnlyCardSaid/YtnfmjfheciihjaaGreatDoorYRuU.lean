/- Lemmas. Conditions: those of each theorem. -/
import Derived.Test.YtnfmjfheciihjaaGreatDoorYRsG
import Derived.Test.YtnfmjfheciihjaaGreatDoorYDrz
set_option maxRecDepth 8000
set_option maxHeartbeats 16000000
namespace Ru
open Go Go.K Bt
def okT (nf np : Nat) : Nd → Prop
 | ⟨k, n, _, _, _, _, _, ks⟩ => ar k ks.length ∧ (k = 15 → 0 ≤ n ∧ n < np) ∧ (k = 14 → 0 ≤ n ∧ n < nf) ∧ okTL nf np ks
where okTL (nf np : Nat) : List Nd → Prop
 | [] => True
 | x :: xs => okT nf np x ∧ okTL nf np xs
theorem okTL_mem {nf np : Nat} : ∀ {xs : List Nd}, okT.okTL nf np xs → ∀ x ∈ xs, okT nf np x
 | [], _, _, h => by cases h
 | y :: ys, h, x, hx => by
  rcases List.mem_cons.1 hx with rfl | hx
  ·
   exact h.1
  ·
   exact okTL_mem h.2 x hx
theorem tyW_snoc {fs : List Bt.Fn} {ps : List Prm} {y : Nd} {k : Int} : ∀ {xs : List Nd} {l : List Int}, l.length = xs.length → ty.tyW fs ps (xs ++ [y]) (l ++ [k]) = ty.tyW fs ps xs l ++ wantB fs ps y k
 | [], [], _ => by simp only [List.nil_append, ty.tyW, List.headD_cons, List.append_nil, wantB]; rfl
 | x :: xs, a :: l, h => by
  simp only [List.cons_append, ty.tyW, List.headD_cons, List.tail_cons, List.append_assoc]
  rw [tyW_snoc (xs := xs) (l := l) (by simpa using h)]; rfl
theorem tyA_snoc {fs : List Bt.Fn} {ps : List Prm} {y : Nd} : ∀ (xs : List Nd), ty.tyA fs ps (xs ++ [y]) = ty.tyA fs ps xs ++ (ty fs ps y).2
 | [] => by simp only [List.nil_append, ty.tyA, List.append_nil]
 | x :: xs => by simp only [List.cons_append, ty.tyA, tyA_snoc xs, List.append_assoc]
end Ru
namespace Go.Proofs.YtnfmjfheciihjaaGreatDoor
open Go Go.K Go.RowKit
open Ru (tr trs pB nC TrF fC cC prC fnP clP Tl NmS BasV ixM wfH okT)
attribute [local irreducible] AW RW DW Post Qt
structure FCtx (Φ : Hp) (fs : List Bt.Fn) (fv : Value) : Prop where
 h : ∃ l F, RowS Φ fv 143 1 fs.length (l.map pB) ∧ fnP.L Φ fs l F
 n : fs.length ≤ 20000
 p : ∀ f ∈ fs, f.params.length ≤ 20000
def FP (Φ : Hp) (ps : List Bt.Prm) (v : Value) : Prop := (v = .pointer none ∧ ps = []) ∨ ∃ (bf : Nat) (nm : Bt.Token) (pv : Value) (r : Int) (bd : Nat), v = pB bf ∧ Φ bf = some (.cells (fC nm pv r (pB bd)).toArray 147 (0, 0)) ∧ RowS Φ pv 156 4 ps.length (ps.flatMap prC)
abbrev tC (fv cv : Value) (a : Int) : List Value := [fv, cv, iV a]
section
variable {fs : List Bt.Fn} {fv cv : Value} {t : Nat} {Φ : Hp}
abbrev tB (fv cv : Value) (t : Nat) (a : Int) : Chunk := .blk t 112 (tC fv cv a)
def TyOK (fs : List Bt.Fn) (fv cv : Value) (t : Nat) (Φ : Hp) (n : Nat) : Prop := ∀ (x : Bt.Nd) (b : Nat) (F : List Nat) (w : World) (a : Int) (ps : List Bt.Prm) (fp : Value), Ru.dep x ≤ n → Ru.nn x ≤ 1000000 → okT fs.length ps.length x → TrF Φ x b F → FP Φ ps fp →
 StP ⟨w, Φ, fps [tB fv cv t a]⟩ Φ [tB fv cv t a] w → Calls pg 102 #[pB t, pB b, fp] w (OwnU w Φ [tB fv cv t a] (fun _ : Unit => iV (Ru.ty fs ps x).1) fun _ => [tB fv cv t (Ru.lstL a (Ru.ty fs ps x).2)])
theorem want_of {n : Nat} (hT : TyOK fs fv cv t Φ n) {x : Bt.Nd} {b : Nat} {F : List Nat} {w : World} {a k : Int} {ps : List Bt.Prm} {fp : Value} (hd : Ru.dep x ≤ n) (hn : Ru.nn x ≤ 1000000) (hx : okT fs.length ps.length x) (hF : TrF Φ x b F) (hfp : FP Φ ps fp)
  (h0 : StP ⟨w, Φ, fps [tB fv cv t a]⟩ Φ [tB fv cv t a] w) : Calls pg 74 #[pB t, pB b, fp, iV k] w (OwnU w Φ [tB fv cv t a] (fun _ : Unit => .tuple #[]) fun _ => [tB fv cv t (Ru.lstL a (Ru.wantB fs ps x k))]) := by
 refine calls_of_AW (args := [pB t, pB b, fp, iV k]) Tryz.func74 rfl (lBT rfl) (St ⟨w, Φ, fps [tB fv cv t a]⟩ Φ [tB fv cv t a]) h0 ?_
 show AW _ _ [] _ _ _ [(0, pB t), (1, pB b), (2, fp), (3, iV k)] _
 have hat := Ru.TrF.at_ hF
 refine gR ?_
 refine RW.ownU (args := #[pB t, pB b, fp]) (C2 := []) [0] (by decide) rfl rfl oK rfl rfl (fun w1 hw1 => hT x b F w1 a ps fp hd hn hx hF hfp hw1) fun _ => ?_
 refine gR ?_
 refine AW.cond rfl (fun h => ?_) fun h => ?_
 ·
  have h : ¬ (Ru.ty fs ps x).1 = k := by simpa using h
  have hb : Ru.lstL a (Ru.wantB fs ps x k) = Ru.lst (Ru.lstL a (Ru.ty fs ps x).2) x.At := by unfold Ru.wantB; rw [if_neg h, Ru.lstL_app]; rfl
  rw [hb]
  refine gR ?_
  refine AW.drawZ (J0 := St ⟨w, Φ, fps [tB fv cv t a]⟩ Φ [tB fv cv t (Ru.lstL a (Ru.ty fs ps x).2)]) (tq9 [.e, .q, .q, .e]) od13 hmix (by kernel_rfl) ?_
  refine gR ?_
  refine DW.qe (v := iV (Ru.lst (Ru.lstL a (Ru.ty fs ps x).2) x.At)) (fun _ _ h => h) rfl (q_call (args := #[iV (Ru.lstL a (Ru.ty fs ps x).2), iV x.At]) oK rfl rfl (fun w1 _ => least_c w1 (hp w1) (Hp.le_refl _))) ?_
  refine gR ?_
  exact fin_none (J' := St ⟨w, Φ, fps [tB fv cv t a]⟩ Φ [tB fv cv t (Ru.lst (Ru.lstL a (Ru.ty fs ps x).2) x.At)]) rfl rfl (fun _ h => h) (fun w1 hw1 => ⟨(), rfl, hw1⟩)
 ·
  have h : (Ru.ty fs ps x).1 = k := by simpa using h
  have hb : Ru.lstL a (Ru.wantB fs ps x k) = Ru.lstL a (Ru.ty fs ps x).2 := by unfold Ru.wantB; rw [if_pos h, List.append_nil]
  rw [hb]
  refine gR ?_
  exact fin_none (J' := St ⟨w, Φ, fps [tB fv cv t a]⟩ Φ [tB fv cv t (Ru.lstL a (Ru.ty fs ps x).2)]) rfl rfl (fun _ h => h) (fun w1 hw1 => ⟨(), rfl, hw1⟩)
theorem all_of {n : Nat} (hT : TyOK fs fv cv t Φ n) {k n0 o q at_ : Int} {nm ow : Bt.Token} {ks : List Bt.Nd} {b : Nat} {F : List Nat} {w : World} {a kd : Int} {ps : List Bt.Prm} {fp : Value} (hd : Ru.dep.depL ks ≤ n) (hn : Ru.nn.nnL ks ≤ 1000000) (hx : okT.okTL fs.length ps.length ks) (hF : TrF Φ ⟨k, n0, o, q, at_, nm, ow, ks⟩ b F) (hfp : FP Φ ps fp)
  (h0 : StP ⟨w, Φ, fps [tB fv cv t a]⟩ Φ [tB fv cv t a] w) : Calls pg 123 #[pB t, pB b, fp, iV kd] w (OwnU w Φ [tB fv cv t a] (fun _ : Unit => .tuple #[]) fun _ => [tB fv cv t (Ru.lstL a (Ru.ty.tyW fs ps ks (List.replicate ks.length kd)))]) := by
 refine calls_of_AW (args := [pB t, pB b, fp, iV kd]) Tryz.func123 rfl (lBT rfl) (St ⟨w, Φ, fps [tB fv cv t a]⟩ Φ [tB fv cv t a]) h0 ?_
 show AW _ _ [] _ _ _ [(0, pB t), (1, pB b), (2, fp), (3, iV kd)] _
 obtain ⟨kv, l, G, h1, h2, h3, _⟩ := hF
 have hkv := h2.isSl
 have hln := Ru.nnL_len ks
 have p11 : PCell Φ ⟨b, 11, none⟩ kv := PCell.blk (cs := nC k n0 o q at_ nm ow kv) h1 rfl
 refine gR ?_
 refine AW.loop (fun s J m => ∃ i : Nat, s = [(0, pB t), (2, fp), (3, iV kd), (13, kv), (14, iV (ks.length : Int)), (15, iV (i : Int))] ∧ J = St ⟨w, Φ, fps [tB fv cv t a]⟩ Φ [tB fv cv t (Ru.lstL a (Ru.ty.tyW fs ps (ks.take i) (List.replicate i kd)))] ∧ m = ks.length - i ∧ i ≤ ks.length) (s0 := _) (J1 := _) (m0 := _) ⟨0, rfl, rfl, rfl, Nat.zero_le _⟩ ⟨rfl, rfl, rfl, rfl, rfl, rfl, trivial⟩ (fun _ h => h) ?_
 rintro _ _ _ _ ⟨i, rfl, rfl, rfl, hi⟩
 refine gR ?_
 refine AW.cond rfl (fun h => ?_) fun h => ?_
 ·
  have h : i < ks.length := by have := odT h; omega
  obtain ⟨b1, F1, hb1, hT1⟩ := Ru.TrL.get h3 i h
  have hd1 : Ru.dep ks[i] ≤ n := by have := Ru.depL_le (xs := ks) h; omega
  have hn1 : Ru.nn ks[i] ≤ 1000000 := by have := Ru.nnL_mem _ (List.getElem_mem h); omega
  have hx1 := Ru.okTL_mem hx _ (List.getElem_mem h)
  have pe : PCell Φ (Value.at kv (i * 1)) (pB b1) := Ru.RowS.cellP h2 (by rw [Nat.mul_one, List.getElem?_map, hb1]; rfl)
  refine gR ?_
  refine RW.ownU (args := #[pB t, pB b1, fp, iV kd]) (C2 := []) [0] (by decide) rfl rfl oK rfl rfl (fun w1 hw1 => want_of hT hd1 hn1 hx1 hT1 hfp hw1) fun _ => ?_
  refine gR ?_
  have e1 : Ru.ty.tyW fs ps (ks.take (i + 1)) (List.replicate (i + 1) kd) = Ru.ty.tyW fs ps (ks.take i) (List.replicate i kd) ++ Ru.wantB fs ps ks[i] kd := by
   rw [Ru.take_snoc h, List.replicate_succ', Ru.tyW_snoc (by rw [List.length_replicate, List.length_take]; omega)]
  exact Post.back (s' := _) (J' := _) (m' := _) (by omega) ⟨i + 1, rfl, rfl, rfl, by omega⟩ ⟨rfl, rfl, rfl, rfl, rfl, rfl, trivial⟩ (fun _ h => by rw [e1, Ru.lstL_app]; exact h)
 ·
  have h : i = ks.length := by have := odF h; omega
  subst h
  rw [List.take_length]
  refine gR ?_
  exact fin_none (J' := St ⟨w, Φ, fps [tB fv cv t a]⟩ Φ [tB fv cv t (Ru.lstL a (Ru.ty.tyW fs ps ks (List.replicate ks.length kd)))]) rfl rfl (fun _ h => h) (fun w1 hw1 => ⟨(), rfl, hw1⟩)
end
end Go.Proofs.YtnfmjfheciihjaaGreatDoor
namespace Ru
open Bt
variable {fs : List Bt.Fn} {ps : List Bt.Prm} {k n a b at_ : Int} {nm ow : Bt.Token} {ks : List Bt.Nd}
theorem ty15 : ty fs ps ⟨15, n, a, b, at_, nm, ow, ks⟩ = ((ps.getD n.toNat default).kind, []) := by rw [Ru.ty.eq_def]; rfl
theorem ty14 : ty fs ps ⟨14, n, a, b, at_, nm, ow, ks⟩ = ((fs.getD n.toNat default).result, if ks.length = (fs.getD n.toNat default).params.length then ty.tyW fs ps ks ((fs.getD n.toNat default).params.map (·.kind)) else nm.At :: ty.tyA fs ps ks) := by rw [Ru.ty.eq_def]; rfl
theorem ty10 {x y : Nd} : ty fs ps ⟨10, n, a, b, at_, nm, ow, [x, y]⟩ = (1, (ty fs ps x).2 ++ wantB fs ps y (ty fs ps x).1) := by rw [Ru.ty.eq_def]; rfl
theorem ty13 {x y z : Nd} : ty fs ps ⟨13, n, a, b, at_, nm, ow, [x, y, z]⟩ = ((ty fs ps y).1, wantB fs ps x 1 ++ ((ty fs ps y).2 ++ wantB fs ps z (ty fs ps y).1)) := by rw [Ru.ty.eq_def]; rfl
theorem tyB (c15 : k ≠ 15) (c14 : k ≠ 14) (c10 : k ≠ 10) (c13 : k ≠ 13) : ty fs ps ⟨k, n, a, b, at_, nm, ow, ks⟩ = (if k = 3 ∨ k = 11 ∨ k = 12 then (1, ty.tyW fs ps ks (List.replicate ks.length 1))
  else if k = 8 ∨ k = 9 then (1, ty.tyW fs ps ks (List.replicate ks.length 0))
  else (0, ty.tyW fs ps ks (List.replicate ks.length 0))) := by
 rw [Ru.ty.eq_def]
 simp only [c15, c14, c10, c13, if_false]
end Ru
namespace Go.Proofs.YtnfmjfheciihjaaGreatDoor
open Go Go.K Go.RowKit
open Ru (tr trs pB nC TrF fC cC prC fnP clP Tl NmS BasV ixM wfH okT)
attribute [local irreducible] AW RW DW Post Qt
section
variable {fs : List Bt.Fn} {fv cv : Value} {t : Nat} {Φ : Hp}
theorem call_of {n : Nat} (hT : TyOK fs fv cv t Φ n) (hC : FCtx Φ fs fv) {o q at_ : Int} {m : Nat} {nm ow : Bt.Token} {ks : List Bt.Nd} {b : Nat} {F : List Nat} {w : World} {a : Int} {ps : List Bt.Prm} {fp : Value} (hm : m < fs.length) (hd : Ru.dep.depL ks ≤ n) (hn : Ru.nn.nnL ks ≤ 1000000) (hx : okT.okTL fs.length ps.length ks) (hF : TrF Φ ⟨14, (m : Int), o, q, at_, nm, ow, ks⟩ b F) (hfp : FP Φ ps fp)
  (h0 : StP ⟨w, Φ, fps [tB fv cv t a]⟩ Φ [tB fv cv t a] w) : Calls pg 122 #[pB t, pB b, fp] w (OwnU w Φ [tB fv cv t a] (fun _ : Unit => iV fs[m].result) fun _ => [tB fv cv t (Ru.lstL a (if ks.length = fs[m].params.length then Ru.ty.tyW fs ps ks (fs[m].params.map (·.kind)) else nm.At :: Ru.ty.tyA fs ps ks))]) := by
 refine calls_of_AW (args := [pB t, pB b, fp]) Tryz.func122 rfl (lBT rfl) (St ⟨w, Φ, fps [tB fv cv t a]⟩ Φ [tB fv cv t a]) h0 ?_
 show AW _ _ [] _ _ _ [(0, pB t), (1, pB b), (2, fp)] _
 obtain ⟨kv, l, G, h1, h2, h3, _⟩ := hF
 have hkv := h2.isSl
 have hln := Ru.nnL_len ks
 obtain ⟨fl, Fl, hfr, hfl⟩ := hC.h
 have hfv := hfr.isSl
 obtain ⟨bf, F1, hbf, pv, bd, G1, hb1, hb2, _, _, hwn, hwr, hwp⟩ := Ru.OP.Lget hfl m hm
 have hpv := hb2.isSl
 have hnp := hC.p _ (List.getElem_mem hm)
 have hnf := hC.n
 have p1 : PCell Φ ⟨b, 1, none⟩ (iV (m : Int)) := PCell.blk (cs := nC 14 (m : Int) o q at_ nm ow kv) h1 rfl
 have p7 : PCell Φ ⟨b, 7, none⟩ (iV nm.At) := PCell.blk (cs := nC 14 (m : Int) o q at_ nm ow kv) h1 rfl
 have p11 : PCell Φ ⟨b, 11, none⟩ kv := PCell.blk (cs := nC 14 (m : Int) o q at_ nm ow kv) h1 rfl
 have pf : PCell Φ (Value.at fv (m * 1)) (pB bf) := Ru.RowS.cellP hfr (by rw [Nat.mul_one, List.getElem?_map, hbf]; rfl)
 have q3 : PCell Φ ⟨bf, 3, none⟩ pv := PCell.blk (cs := fC fs[m].name pv fs[m].result (pB bd)) hb1 rfl
 have q4 : PCell Φ ⟨bf, 4, none⟩ (iV fs[m].result) := PCell.blk (cs := fC fs[m].name pv fs[m].result (pB bd)) hb1 rfl
 refine gR ?_
 refine AW.drawZ (J0 := St ⟨w, Φ, fps [tB fv cv t a]⟩ Φ [tB fv cv t (a)]) (tq12 []) od12 hmix (by kernel_rfl) ?_
 refine gR ?_
 refine AW.drawZ (J0 := St ⟨w, Φ, fps [tB fv cv t a]⟩ Φ [tB fv cv t (a)]) (tq12 []) od12 hmix (by kernel_rfl) ?_
 refine gR ?_
 refine AW.cond rfl (fun hs => ?_) fun hs => ?_
 ·
  have hs : ¬ ks.length = fs[m].params.length := by have := hs; simp only [Bool.not_eq_true', decide_eq_false_iff_not] at this; omega
  refine gR ?_
  refine AW.drawZ (J0 := St ⟨w, Φ, fps [tB fv cv t a]⟩ Φ [tB fv cv t (a)]) (tq10 [.e, .q, .q, .e]) od14 hmix (by kernel_rfl) ?_
  refine gR ?_
  refine DW.qe (v := iV (Ru.lst a nm.At)) (fun _ _ h => h) rfl (q_call (args := #[iV a, iV nm.At]) oK rfl rfl (fun w1 _ => least_c w1 (hp w1) (Hp.le_refl _))) ?_
  refine gR ?_
  refine AW.loop (fun s J g => ∃ i : Nat, s = [(0, pB t), (2, fp), (7, pB bf), (8, .bool (decide ((ks.length : Int) = (fs[m].params.length : Int)))), (51, kv), (52, iV (ks.length : Int)), (53, iV (i : Int))] ∧ J = St ⟨w, Φ, fps [tB fv cv t a]⟩ Φ [tB fv cv t (Ru.lstL (Ru.lst a nm.At) (Ru.ty.tyA fs ps (ks.take i)))] ∧ g = ks.length - i ∧ i ≤ ks.length) (s0 := [(0, pB t), (2, fp), (7, pB bf), (8, .bool (decide ((ks.length : Int) = (fs[m].params.length : Int)))), (51, kv), (52, iV (ks.length : Int)), (53, iV ((0 : Nat) : Int))]) (J1 := _) (m0 := _) ⟨0, rfl, rfl, rfl, Nat.zero_le _⟩ ⟨rfl, rfl, rfl, rfl, rfl, rfl, rfl, trivial⟩ (fun _ h => h) ?_
  rintro _ _ _ _ ⟨i, rfl, rfl, rfl, hi⟩
  refine gR ?_
  refine AW.cond rfl (fun h => ?_) fun h => ?_
  ·
   have h : i < ks.length := by have := odT h; omega
   obtain ⟨b1, F2, hb1', hT1⟩ := Ru.TrL.get h3 i h
   have hd1 : Ru.dep ks[i] ≤ n := by have := Ru.depL_le (xs := ks) h; omega
   have hn1 : Ru.nn ks[i] ≤ 1000000 := by have := Ru.nnL_mem _ (List.getElem_mem h); omega
   have hx1 := Ru.okTL_mem hx _ (List.getElem_mem h)
   have pe : PCell Φ (Value.at kv (i * 1)) (pB b1) := Ru.RowS.cellP h2 (by rw [Nat.mul_one, List.getElem?_map, hb1']; rfl)
   refine gR ?_
   refine AW.cond rfl (fun h8 => absurd (odT h8) (by omega)) fun _ => ?_
   refine gR ?_
   refine RW.ownU (args := #[pB t, pB b1, fp]) (C2 := []) [0] (by decide) rfl rfl oK rfl rfl (fun w1 hw1 => hT ks[i] b1 F2 w1 _ ps fp hd1 hn1 hx1 hT1 hfp hw1) fun _ => ?_
   refine gR ?_
   have e1 : Ru.ty.tyA fs ps (ks.take (i + 1)) = Ru.ty.tyA fs ps (ks.take i) ++ (Ru.ty fs ps ks[i]).2 := by rw [Ru.take_snoc h, Ru.tyA_snoc]
   exact Post.back (s' := _) (J' := _) (m' := _) (by omega) ⟨i + 1, rfl, rfl, rfl, by omega⟩ ⟨rfl, rfl, rfl, rfl, rfl, rfl, rfl, trivial⟩ (fun _ h => by rw [e1, Ru.lstL_app]; exact h)
  ·
   have h : i = ks.length := by have := odF h; omega
   subst h
   rw [List.take_length]
   refine gR ?_
   exact fin_res (vs := [iV fs[m].result]) rfl rfl ⟨.tmp rfl, trivial⟩ rfl (fun w1 hw1 => ⟨(), rfl, by rw [if_neg hs]; exact hw1⟩)
 ·
  have hs : ks.length = fs[m].params.length := by have := hs; simp only [Bool.not_eq_false', decide_eq_true_eq] at this; omega
  refine gR ?_
  refine AW.loop (fun s J g => ∃ i : Nat, s = [(0, pB t), (2, fp), (7, pB bf), (8, .bool (decide ((ks.length : Int) = (fs[m].params.length : Int)))), (51, kv), (52, iV (ks.length : Int)), (53, iV (i : Int))] ∧ J = St ⟨w, Φ, fps [tB fv cv t a]⟩ Φ [tB fv cv t (Ru.lstL (a) (Ru.ty.tyW fs ps (ks.take i) ((fs[m].params.map (·.kind)).take i)))] ∧ g = ks.length - i ∧ i ≤ ks.length) (s0 := [(0, pB t), (2, fp), (7, pB bf), (8, .bool (decide ((ks.length : Int) = (fs[m].params.length : Int)))), (51, kv), (52, iV (ks.length : Int)), (53, iV ((0 : Nat) : Int))]) (J1 := _) (m0 := _) ⟨0, rfl, rfl, rfl, Nat.zero_le _⟩ ⟨rfl, rfl, rfl, rfl, rfl, rfl, rfl, trivial⟩ (fun _ h => h) ?_
  rintro _ _ _ _ ⟨i, rfl, rfl, rfl, hi⟩
  refine gR ?_
  refine AW.cond rfl (fun h => ?_) fun h => ?_
  ·
   have h : i < ks.length := by have := odT h; omega
   obtain ⟨b1, F2, hb1', hT1⟩ := Ru.TrL.get h3 i h
   have hd1 : Ru.dep ks[i] ≤ n := by have := Ru.depL_le (xs := ks) h; omega
   have hn1 : Ru.nn ks[i] ≤ 1000000 := by have := Ru.nnL_mem _ (List.getElem_mem h); omega
   have hx1 := Ru.okTL_mem hx _ (List.getElem_mem h)
   have pe : PCell Φ (Value.at kv (i * 1)) (pB b1) := Ru.RowS.cellP h2 (by rw [Nat.mul_one, List.getElem?_map, hb1']; rfl)
   have hip : i < fs[m].params.length := by omega
   have pk : PCell Φ (Value.at pv (i * 4 + 3)) (iV fs[m].params[i].kind) := Ru.RowS.cellP hb2 (prC_at hip 3 _ rfl)
   refine gR ?_
   refine AW.cond rfl (fun _ => ?_) fun h8 => absurd (odF h8) (by omega)
   refine gR ?_
   refine RW.ownU (args := #[pB t, pB b1, fp, iV fs[m].params[i].kind]) (C2 := []) [0] (by decide) rfl rfl oK rfl rfl (fun w1 hw1 => want_of hT hd1 hn1 hx1 hT1 hfp hw1) fun _ => ?_
   refine gR ?_
   have e1 : Ru.ty.tyW fs ps (ks.take (i + 1)) ((fs[m].params.map (·.kind)).take (i + 1)) = Ru.ty.tyW fs ps (ks.take i) ((fs[m].params.map (·.kind)).take i) ++ Ru.wantB fs ps ks[i] fs[m].params[i].kind := by
    rw [Ru.take_snoc h, Ru.take_snoc (l := fs[m].params.map (·.kind)) (by simpa using hip), Ru.tyW_snoc (by rw [List.length_take, List.length_take, List.length_map]; omega), List.getElem_map]
   exact Post.back (s' := _) (J' := _) (m' := _) (by omega) ⟨i + 1, rfl, rfl, rfl, by omega⟩ ⟨rfl, rfl, rfl, rfl, rfl, rfl, rfl, trivial⟩ (fun _ h => by rw [e1, Ru.lstL_app]; exact h)
  ·
   have h : i = ks.length := by have := odF h; omega
   subst h
   rw [List.take_length, List.take_of_length_le (l := fs[m].params.map (·.kind)) (by rw [List.length_map]; omega)]
   refine gR ?_
   exact fin_res (vs := [iV fs[m].result]) rfl rfl ⟨.tmp rfl, trivial⟩ rfl (fun w1 hw1 => ⟨(), rfl, by rw [if_pos hs]; exact hw1⟩)
theorem texpr_c (hC : FCtx Φ fs fv) : ∀ n, TyOK fs fv cv t Φ n := by
 intro n
 induction n with
 | zero =>
  intro x b F w a ps fp hd
  obtain ⟨k, n, o, q, at_, nm, ow, ks⟩ := x
  simp only [Ru.dep] at hd
  omega
 | succ n ih =>
 intro x b F w a ps fp hd hn hx hF hfp h0
 obtain ⟨k, n0, o, q, at_, nm, ow, ks⟩ := x
 have hF0 := hF
 obtain ⟨kv, l, G, h1, h2, h3, h4, hwf⟩ := hF
 obtain ⟨har, h15, h14, hks⟩ := hx
 simp only [Ru.dep] at hd
 simp only [Ru.nn] at hn
 have hkv := h2.isSl
 have hdk : Ru.dep.depL ks ≤ n := by omega
 have hnk : Ru.nn.nnL ks ≤ 1000000 := by omega
 refine calls_of_AW (args := [pB t, pB b, fp]) Tryz.func102 rfl (lBT rfl) (St ⟨w, Φ, fps [tB fv cv t a]⟩ Φ [tB fv cv t a]) h0 ?_
 show AW _ _ [] _ _ _ [(0, pB t), (1, pB b), (2, fp)] _
 have p0 : PCell Φ ⟨b, 0, none⟩ (iV k) := PCell.blk (cs := nC k n0 o q at_ nm ow kv) h1 rfl
 have p1 : PCell Φ ⟨b, 1, none⟩ (iV n0) := PCell.blk (cs := nC k n0 o q at_ nm ow kv) h1 rfl
 have p11 : PCell Φ ⟨b, 11, none⟩ kv := PCell.blk (cs := nC k n0 o q at_ nm ow kv) h1 rfl
 refine gR ?_
 refine AW.cond rfl (fun c15 => ?_) fun c15 => ?_
 ·
  have c15 : k = 15 := odT c15
  obtain ⟨hn0, hn1⟩ := h15 c15
  subst c15
  obtain ⟨m, rfl⟩ : ∃ m : Nat, n0 = m := ⟨n0.toNat, by omega⟩
  have hm : m < ps.length := by omega
  rcases hfp with ⟨_, rfl⟩ | ⟨bf, fnm, pv, r, bd, rfl, hb1, hb2⟩
  ·
   simp at hm
  have hpv := hb2.isSl
  have q3 : PCell Φ ⟨bf, 3, none⟩ pv := PCell.blk (cs := fC fnm pv r (pB bd)) hb1 rfl
  have pk : PCell Φ (Value.at pv (m * 4 + 3)) (iV ps[m].kind) := Ru.RowS.cellP hb2 (prC_at hm 3 _ rfl)
  have hty : Ru.ty fs ps ⟨15, (m : Int), o, q, at_, nm, ow, ks⟩ = (ps[m].kind, []) := by rw [Ru.ty15, Int.toNat_natCast, gDD, List.getElem?_eq_getElem hm]; rfl
  refine gR ?_
  refine AW.drawZ (J0 := St ⟨w, Φ, fps [tB fv cv t a]⟩ Φ [tB fv cv t (a)]) (tq12 []) od12 hmix (by kernel_rfl) ?_
  refine gR ?_
  exact fin_res (vs := [iV (ps[m].kind)]) rfl rfl ⟨.tmp rfl, trivial⟩ rfl (fun w1 hw1 => ⟨(), by rw [hty]; rfl, by rw [hty]; exact hw1⟩)
 ·
  have c15 : k ≠ 15 := odF c15
  refine gR ?_
  refine AW.cond rfl (fun c14 => ?_) fun c14 => ?_
  ·
   have c14 : k = 14 := odT c14
   obtain ⟨hn0, hn1⟩ := h14 c14
   subst c14
   obtain ⟨m, rfl⟩ : ∃ m : Nat, n0 = m := ⟨n0.toNat, by omega⟩
   have hm : m < fs.length := by omega
   have hty : Ru.ty fs ps ⟨14, (m : Int), o, q, at_, nm, ow, ks⟩ = (fs[m].result, if ks.length = fs[m].params.length then Ru.ty.tyW fs ps ks (fs[m].params.map (·.kind)) else nm.At :: Ru.ty.tyA fs ps ks) := by rw [Ru.ty14, Int.toNat_natCast, gDD, List.getElem?_eq_getElem hm]; rfl
   rw [hty]
   refine gR ?_
   refine RW.ownU (args := #[pB t, pB b, fp]) (C2 := []) [0] (by decide) rfl rfl oK rfl rfl (fun w1 hw1 => call_of ih hC hm hdk hnk hks hF0 hfp hw1) fun _ => ?_
   refine gR ?_
   exact fin_res (vs := [iV fs[m].result]) rfl rfl ⟨.tmp rfl, trivial⟩ rfl (fun w1 hw1 => ⟨(), rfl, hw1⟩)
  ·
   have c14 : k ≠ 14 := odF c14
   refine gR ?_
   refine AW.cond rfl (fun c10 => ?_) fun c10 => ?_
   ·
    have c10 : k = 10 := odT c10
    have hl2 : ks.length = 2 := har.2.2.2.2.1 (by omega)
    subst c10
    obtain ⟨x, y, rfl⟩ : ∃ x y, ks = [x, y] := by match ks, hl2 with | [x, y], _ => exact ⟨x, y, rfl⟩
    have hkv2 : IsSl kv 2 := hkv
    obtain ⟨bx, Fbx, hbbx, hTbx⟩ := Ru.TrL.get h3 0 (by simp)
    have pebx : PCell Φ (Value.at kv (0 * 1)) (pB bx) := Ru.RowS.cellP h2 (by rw [Nat.mul_one, List.getElem?_map, hbbx]; rfl)
    have hdbx : Ru.dep x ≤ n := by simp only [Ru.dep.depL] at hdk; omega
    have hnbx : Ru.nn x ≤ 1000000 := by simp only [Ru.nn.nnL] at hnk; omega
    have hxbx : okT fs.length ps.length x := Ru.okTL_mem hks _ (by simp)
    obtain ⟨bY, FbY, hbbY, hTbY⟩ := Ru.TrL.get h3 1 (by simp)
    have pebY : PCell Φ (Value.at kv (1 * 1)) (pB bY) := Ru.RowS.cellP h2 (by rw [Nat.mul_one, List.getElem?_map, hbbY]; rfl)
    have hdbY : Ru.dep y ≤ n := by simp only [Ru.dep.depL] at hdk; omega
    have hnbY : Ru.nn y ≤ 1000000 := by simp only [Ru.nn.nnL] at hnk; omega
    have hxbY : okT fs.length ps.length y := Ru.okTL_mem hks _ (by simp)
    have hty : Ru.ty fs ps ⟨10, n0, o, q, at_, nm, ow, [x, y]⟩ = (1, (Ru.ty fs ps x).2 ++ Ru.wantB fs ps y (Ru.ty fs ps x).1) := Ru.ty10
    rw [hty]
    refine gR ?_
    refine AW.drawZ (J0 := St ⟨w, Φ, fps [tB fv cv t a]⟩ Φ []) [.q, .q, .q, .q, .q, .q, .q, .q, .q, .q, .q, .q, .q, .q, .q, .q, .e, .e] od18 hmix (by kernel_rfl) ?_
    refine gR ?_
    refine DW.q (fun _ h => StP.drop h (List.nil_sublist _)) rfl (qa_ixL rfl rfl hkv2 (by decide)) ?_
    refine gR ?_
    refine DW.q (fun _ h => StP.drop h (List.nil_sublist _)) rfl (qa_ixL rfl rfl hkv2 (by decide)) ?_
    refine gR ?_
    refine DW.ownU (args := #[pB t, pB bx, fp]) (C2 := []) [0] (by decide) rfl rfl oK rfl rfl (fun w1 hw1 => ih x bx Fbx w1 a ps fp hdbx hnbx hxbx hTbx hfp hw1) (fun _ _ h => StP.drop h (List.nil_sublist _)) fun _ => (DW.ownU (args := #[pB t, pB bY, fp, iV (Ru.ty fs ps x).1]) (C2 := []) [0] (by decide) rfl rfl oK rfl rfl (fun w1 hw1 => want_of ih hdbY hnbY hxbY hTbY hfp hw1) (fun _ _ h => StP.drop h (List.nil_sublist _)) fun _ => ?_)
    refine gR ?_
    exact fin_res (vs := [iV 1]) rfl rfl ⟨.tmp rfl, trivial⟩ rfl (fun w1 hw1 => ⟨(), rfl, by simp only [Ru.lstL_app]; exact hw1⟩)
   ·
    have c10 : k ≠ 10 := odF c10
    refine gR ?_
    refine AW.cond rfl (fun c13 => ?_) fun c13 => ?_
    ·
     have c13 : k = 13 := odT c13
     have hl3 : ks.length = 3 := har.2.2.2.2.2 c13
     subst c13
     obtain ⟨x, y, z, rfl⟩ : ∃ x y z, ks = [x, y, z] := by match ks, hl3 with | [x, y, z], _ => exact ⟨x, y, z, rfl⟩
     have hkv3 : IsSl kv 3 := hkv
     obtain ⟨bx, Fbx, hbbx, hTbx⟩ := Ru.TrL.get h3 0 (by simp)
     have pebx : PCell Φ (Value.at kv (0 * 1)) (pB bx) := Ru.RowS.cellP h2 (by rw [Nat.mul_one, List.getElem?_map, hbbx]; rfl)
     have hdbx : Ru.dep x ≤ n := by simp only [Ru.dep.depL] at hdk; omega
     have hnbx : Ru.nn x ≤ 1000000 := by simp only [Ru.nn.nnL] at hnk; omega
     have hxbx : okT fs.length ps.length x := Ru.okTL_mem hks _ (by simp)
     obtain ⟨bY, FbY, hbbY, hTbY⟩ := Ru.TrL.get h3 1 (by simp)
     have pebY : PCell Φ (Value.at kv (1 * 1)) (pB bY) := Ru.RowS.cellP h2 (by rw [Nat.mul_one, List.getElem?_map, hbbY]; rfl)
     have hdbY : Ru.dep y ≤ n := by simp only [Ru.dep.depL] at hdk; omega
     have hnbY : Ru.nn y ≤ 1000000 := by simp only [Ru.nn.nnL] at hnk; omega
     have hxbY : okT fs.length ps.length y := Ru.okTL_mem hks _ (by simp)
     obtain ⟨bz, Fbz, hbbz, hTbz⟩ := Ru.TrL.get h3 2 (by simp)
     have pebz : PCell Φ (Value.at kv (2 * 1)) (pB bz) := Ru.RowS.cellP h2 (by rw [Nat.mul_one, List.getElem?_map, hbbz]; rfl)
     have hdbz : Ru.dep z ≤ n := by simp only [Ru.dep.depL] at hdk; omega
     have hnbz : Ru.nn z ≤ 1000000 := by simp only [Ru.nn.nnL] at hnk; omega
     have hxbz : okT fs.length ps.length z := Ru.okTL_mem hks _ (by simp)
     have hty : Ru.ty fs ps ⟨13, n0, o, q, at_, nm, ow, [x, y, z]⟩ = ((Ru.ty fs ps y).1, Ru.wantB fs ps x 1 ++ ((Ru.ty fs ps y).2 ++ Ru.wantB fs ps z (Ru.ty fs ps y).1)) := Ru.ty13
     rw [hty]
     refine gR ?_
     refine RW.q rfl (qa_ixL rfl rfl hkv3 (by decide)) ?_
     refine gR ?_
     refine RW.ownU (args := #[pB t, pB bx, fp, iV 1]) (C2 := []) [0] (by decide) rfl rfl oK rfl rfl (fun w1 hw1 => want_of ih hdbx hnbx hxbx hTbx hfp hw1) fun _ => ?_
     refine gR ?_
     refine RW.q rfl (qa_ixL rfl rfl hkv3 (by decide)) ?_
     refine gR ?_
     refine RW.ownU (args := #[pB t, pB bY, fp]) (C2 := []) [0] (by decide) rfl rfl oK rfl rfl (fun w1 hw1 => ih y bY FbY w1 _ ps fp hdbY hnbY hxbY hTbY hfp hw1) fun _ => ?_
     refine gR ?_
     refine RW.q rfl (qa_ixL rfl rfl hkv3 (by decide)) ?_
     refine gR ?_
     refine RW.ownU (args := #[pB t, pB bz, fp, iV (Ru.ty fs ps y).1]) (C2 := []) [0] (by decide) rfl rfl oK rfl rfl (fun w1 hw1 => want_of ih hdbz hnbz hxbz hTbz hfp hw1) fun _ => ?_
     refine gR ?_
     exact fin_res (vs := [iV (Ru.ty fs ps y).1]) rfl rfl ⟨.tmp rfl, trivial⟩ rfl (fun w1 hw1 => ⟨(), rfl, by simp only [Ru.lstL_app]; exact hw1⟩)
    ·
     have c13 : k ≠ 13 := odF c13
     refine gR ?_
     refine AW.orCh (kd := .i64) (t := 82) (x := 11) (a := k) rfl rfl _ rfl rfl rfl rfl fun f' => ?_
     refine gR ?_
     have e3 : (decide (k = 3) || [((11 : Int), 84), (12, 85)].any fun p => decide (k = p.1)) = decide (k = 3 ∨ k = 11 ∨ k = 12) := by simp
     refine AW.cond rfl (fun c3 => ?_) fun c3 => ?_
     ·
      have c3 : k = 3 ∨ k = 11 ∨ k = 12 := odT (e3.symm.trans c3)
      have hty : Ru.ty fs ps ⟨k, n0, o, q, at_, nm, ow, ks⟩ = (1, Ru.ty.tyW fs ps ks (List.replicate ks.length 1)) := by rw [Ru.tyB c15 c14 c10 c13, if_pos c3]
      rw [hty]
      refine gR ?_
      refine RW.ownU (args := #[pB t, pB b, fp, iV 1]) (C2 := []) [0] (by decide) rfl rfl oK rfl rfl (fun w1 hw1 => all_of ih hdk hnk hks hF0 hfp hw1) fun _ => ?_
      refine gR ?_
      exact fin_res (vs := [iV 1]) rfl rfl ⟨.tmp rfl, trivial⟩ rfl (fun w1 hw1 => ⟨(), rfl, hw1⟩)
     ·
      have c3 : ¬ (k = 3 ∨ k = 11 ∨ k = 12) := odF (e3.symm.trans c3)
      refine gR ?_
      refine AW.orCh (kd := .i64) (t := 90) (x := 11) (a := k) rfl rfl _ rfl rfl rfl rfl fun f'' => ?_
      refine gR ?_
      have e8 : (decide (k = 8) || [((9 : Int), 92)].any fun p => decide (k = p.1)) = decide (k = 8 ∨ k = 9) := by simp
      refine AW.cond rfl (fun c8 => ?_) fun c8 => ?_
      ·
       have c8 : k = 8 ∨ k = 9 := odT (e8.symm.trans c8)
       have hty : Ru.ty fs ps ⟨k, n0, o, q, at_, nm, ow, ks⟩ = (1, Ru.ty.tyW fs ps ks (List.replicate ks.length 0)) := by rw [Ru.tyB c15 c14 c10 c13, if_neg c3, if_pos c8]
       rw [hty]
       refine gR ?_
       refine RW.ownU (args := #[pB t, pB b, fp, iV 0]) (C2 := []) [0] (by decide) rfl rfl oK rfl rfl (fun w1 hw1 => all_of ih hdk hnk hks hF0 hfp hw1) fun _ => ?_
       refine gR ?_
       exact fin_res (vs := [iV 1]) rfl rfl ⟨.tmp rfl, trivial⟩ rfl (fun w1 hw1 => ⟨(), rfl, hw1⟩)
      ·
       have c8 : ¬ (k = 8 ∨ k = 9) := odF (e8.symm.trans c8)
       have hty : Ru.ty fs ps ⟨k, n0, o, q, at_, nm, ow, ks⟩ = (0, Ru.ty.tyW fs ps ks (List.replicate ks.length 0)) := by rw [Ru.tyB c15 c14 c10 c13, if_neg c3, if_neg c8]
       rw [hty]
       refine gR ?_
       refine RW.ownU (args := #[pB t, pB b, fp, iV 0]) (C2 := []) [0] (by decide) rfl rfl oK rfl rfl (fun w1 hw1 => all_of ih hdk hnk hks hF0 hfp hw1) fun _ => ?_
       refine gR ?_
       exact fin_res (vs := [iV 0]) rfl rfl ⟨.tmp rfl, trivial⟩ rfl (fun w1 hw1 => ⟨(), rfl, hw1⟩)
end
end Go.Proofs.YtnfmjfheciihjaaGreatDoor
namespace Ru
open Bt Pa
def fro (P : Int → Prop) : Nd → Prop
  | ⟨k, n, _, _, a, nm, ow, ks⟩ => P a ∧ (k = 14 ∨ k = 15 → P nm.At) ∧ (k = 1 → n ≠ 4 → n ≠ 5 → n ≠ 6 → P nm.At) ∧ (k = 1 → n = 2 → P ow.At) ∧ froL P ks
where froL (P : Int → Prop) : List Nd → Prop
  | [] => True
  | x :: xs => fro P x ∧ froL P xs
abbrev froL := @fro.froL
variable {P : Int → Prop}
theorem fro_pos {x : Nd} (h : fro P x) : P x.At := by
  obtain ⟨k, n, o, q, a, nm, ow, ks⟩ := x
  exact h.1
theorem fro_nd {k a : Int} {ks : List Nd} (ha : P a) (h1 : k ≠ 1 ∧ k ≠ 14 ∧ k ≠ 15) (h2 : froL P ks) : fro P (nd k a ks) :=
  ⟨ha, fun h => by omega, fun h => by omega, fun h => by omega, h2⟩
theorem fro_at {x : Nd} {a : Int} (h : fro P x) (ha : P a) : fro P { x with At := a } := by
  obtain ⟨k, n, o, q, a0, nm, ow, ks⟩ := x
  exact ⟨ha, h.2⟩
theorem pk_mem {ts : List Token} (hg : good ts) : pk ts ∈ ts := by
  cases ts with
  | nil => exact absurd hg (by simp [good])
  | cons t ts => exact List.mem_cons_self ..
theorem factR_fro {t : Token} {k : Int} {s s' : S} {x : Nd} (hg : good s.1) (ht : P t.At) (hP : ∀ t ∈ s.1, P t.At) (h : factR t k s = .ok (x, s')) : fro P x := by
  unfold factR at h
  split at h
  · rename_i h4
    cases h; exact ⟨ht, fun h => by omega, fun _ _ _ _ => by omega, fun _ h => by omega, trivial⟩
  · obtain ⟨_, s1, h1, h⟩ := bnd_ok h
    have g1 := (exp_ok hg h1).1
    obtain ⟨nm, s2, h2, h⟩ := bnd_ok h
    have k2 := nameR_ok g1.2.1 h2
    have pn : P nm.At := by rw [k2.2.2]; exact hP _ (g1.1.subset (pk_mem g1.2.1))
    split at h
    · obtain ⟨_, s3, h3, h⟩ := bnd_ok h
      have g3 := (exp_ok k2.1.2.1 h3).1
      obtain ⟨ow, s4, h4, h⟩ := bnd_ok h
      have k4 := nameR_ok g3.2.1 h4
      have po : P ow.At := by rw [k4.2.2]; exact hP _ (g1.1.subset (k2.1.1.subset (g3.1.subset (pk_mem g3.2.1))))
      obtain ⟨_, s5, h5, h⟩ := bnd_ok h
      cases h; exact ⟨ht, fun h => by omega, fun _ _ _ _ => pn, fun _ _ => po, trivial⟩
    · rename_i hk2
      obtain ⟨_, s3, h3, h⟩ := bnd_ok h
      cases h; exact ⟨ht, fun h => by omega, fun _ _ _ _ => pn, fun _ h => absurd h hk2, trivial⟩
theorem rel_fro {op : List UInt8} {x y : Nd} (hx : fro P x) (hy : fro P y) : fro P (rel op x y) := by
  have h2 : ∀ k u v, (8 ≤ k ∧ k ≤ 10) → fro P u → fro P v → fro P (nd k x.At [u, v]) := fun k u v hk hu hv => fro_nd (fro_pos hx) (by omega) ⟨hu, hv, trivial⟩
  have h2' : ∀ k u v, (8 ≤ k ∧ k ≤ 10) → fro P u → fro P v → fro P (nd k x.At [u, v]) := h2
  unfold rel
  repeat' split
  · exact h2 8 x y (by decide) hx hy
  · exact h2 9 x y (by decide) hx hy
  · exact h2 8 y x (by decide) hy hx
  · exact h2 9 y x (by decide) hy hx
  · exact fro_nd (fro_pos hx) (by decide) ⟨h2 10 x y (by decide) hx hy, trivial⟩
  · exact h2 10 x y (by decide) hx hy
theorem truth_fro {t : Token} (ht : P t.At) : fro P (truth t) :=
  fro_nd ht (by decide) ⟨fro_nd ht (by decide) trivial, ⟨ht, fun h => by omega, fun h => by omega, fun h => by omega, trivial⟩, trivial⟩
theorem numR_fro {s s' : S} {x : Nd} (hg : good s.1) (hP : ∀ t ∈ s.1, P t.At) (h : numR s = .ok (x, s')) : fro P x := by
  unfold numR at h
  cases h
  exact ⟨hP _ (pk_mem hg), fun h => by omega, fun h => by omega, fun h => by omega, trivial⟩
theorem all_fr : ∀ f : Nat, (∀ (s s' : S) (x : Nd), good s.1 → (∀ t ∈ s.1, P t.At) → expr f s = .ok (x, s') → fro P x) ∧ (∀ (n : Nat) (s s' : S) (x : Nd), good s.1 → (∀ t ∈ s.1, P t.At) → level f n s = .ok (x, s') → fro P x) ∧ (∀ (n : Nat) (y : Nd) (s s' : S) (x : Nd), good s.1 → (∀ t ∈ s.1, P t.At) → fro P y → lvl f n y s = .ok (x, s') → fro P x) ∧
    (∀ (n : Nat) (s s' : S) (x : Nd), good s.1 → (∀ t ∈ s.1, P t.At) → below f n s = .ok (x, s') → fro P x) ∧ (∀ (s s' : S) (x : Nd), good s.1 → (∀ t ∈ s.1, P t.At) → neg f s = .ok (x, s') → fro P x) ∧ (∀ (s s' : S) (x : Nd), good s.1 → (∀ t ∈ s.1, P t.At) → cmp f s = .ok (x, s') → fro P x) ∧
    (∀ (s s' : S) (x : Nd), good s.1 → (∀ t ∈ s.1, P t.At) → factor f s = .ok (x, s') → fro P x) ∧ (∀ (s s' : S) (x : Nd), good s.1 → (∀ t ∈ s.1, P t.At) → prim f s = .ok (x, s') → fro P x) ∧ (∀ (s s' : S) (x : Nd), good s.1 → (∀ t ∈ s.1, P t.At) → (pk s.1).Kind = 0 → word f s = .ok (x, s') → fro P x) ∧ (∀ (s s' : S) (xs : List Nd), good s.1 → (∀ t ∈ s.1, P t.At) → args f s = .ok (xs, s') → froL P xs)
  | 0 => ⟨fun s s' x _ _ h => (by rw [expr] at h; cases h), fun n s s' x _ _ h => (by rw [level] at h; cases h), fun n y s s' x _ _ _ h => (by rw [lvl] at h; cases h), fun n s s' x _ _ h => (by rw [below] at h; cases h), fun s s' x _ _ h => (by rw [neg] at h; cases h), fun s s' x _ _ h => (by rw [cmp] at h; cases h), fun s s' x _ _ h => (by rw [factor] at h; cases h), fun s s' x _ _ h => (by rw [prim] at h; cases h), fun s s' x _ _ _ h => (by rw [word] at h; cases h), fun s s' x _ _ h => (by rw [args] at h; cases h)⟩
  | f + 1 => by
    obtain ⟨iE, iL, iV, iB, iN, iC, iF, iP, iW, iA⟩ := all_fr f
    obtain ⟨aE, aL, aV, aB, aN, aC, aF, aP, aW, aA⟩ := all_ok f
    have up : ∀ {a b : List Token}, Ad a b → (∀ t ∈ a, P t.At) → ∀ t ∈ b, P t.At := fun g h t ht => h t (g.1.subset ht)
    refine ⟨fun s s' x hg hP h => ?_, fun n s s' x hg hP h => ?_, fun n y s s' x hg hP hy h => ?_, fun n s s' x hg hP h => ?_, fun s s' x hg hP h => ?_, fun s s' x hg hP h => ?_, fun s s' x hg hP h => ?_, fun s s' x hg hP h => ?_, fun s s' x hg hP hk h => ?_, fun s s' x hg hP h => ?_⟩
    · rw [expr] at h
      split at h
      · rename_i hs
        have g0 := ad_isT hg hs
        have q0 := up g0 hP
        obtain ⟨x1, s1, h1, h⟩ := bnd_ok h
        have g1 := aE _ _ _ g0.2.1 h1
        have q1 := up g1 q0
        have d1 := iE _ _ _ g0.2.1 q0 h1
        obtain ⟨_, s2, h2, h⟩ := bnd_ok h
        have g2 := (exp_ok g1.2.1 h2).1
        have q2 := up g2 q1
        obtain ⟨x3, s3, h3, h⟩ := bnd_ok h
        have g3 := aE _ _ _ g2.2.1 h3
        have q3 := up g3 q2
        have d3 := iE _ _ _ g2.2.1 q2 h3
        obtain ⟨_, s4, h4, h⟩ := bnd_ok h
        have g4 := (exp_ok g3.2.1 h4).1
        have q4 := up g4 q3
        obtain ⟨x5, s5, h5, h⟩ := bnd_ok h
        have d5 := iE _ _ _ g4.2.1 q4 h5
        cases h
        exact fro_nd (hP _ (pk_mem hg)) (by decide) ⟨d1, d3, d5, trivial⟩
      · exact iL _ _ _ _ hg hP h
    · rw [level] at h
      obtain ⟨x1, s1, h1, h⟩ := bnd_ok h
      have g1 := aB _ _ _ _ hg h1
      exact iV _ _ _ _ _ g1.2.1 (up g1 hP) (iB _ _ _ _ hg hP h1) h
    · rw [lvl] at h
      split at h
      · cases h; exact hy
      · rename_i k hk
        have g0 := ad_op hg hk
        have hkk := (opOf_kind hk).2
        obtain ⟨x1, s1, h1, h⟩ := bnd_ok h
        have g1 := aB _ _ _ _ g0.2.1 h1
        have q0 := up g0 hP
        have d1 := iB _ _ _ _ g0.2.1 q0 h1
        exact iV n _ _ _ _ g1.2.1 (up g1 q0) (fro_nd (k := k) (ks := [y, x1]) (fro_pos hy) (by omega) ⟨hy, d1, trivial⟩) h
    · rw [below] at h
      split at h
      · exact iN _ _ _ hg hP h
      · split at h
        · exact iF _ _ _ hg hP h
        · exact iL _ _ _ _ hg hP h
    · rw [neg] at h
      split at h
      · rename_i hs
        have g0 := ad_isT hg hs
        obtain ⟨x1, s1, h1, h⟩ := bnd_ok h
        have d1 := iN _ _ _ g0.2.1 (up g0 hP) h1
        cases h
        exact fro_nd (hP _ (pk_mem hg)) (by decide) ⟨d1, trivial⟩
      · exact iC _ _ _ hg hP h
    · rw [cmp] at h
      obtain ⟨x1, s1, h1, h⟩ := bnd_ok h
      have g1 := aL _ _ _ _ hg h1
      have d1 := iL _ _ _ _ hg hP h1
      split at h
      · rename_i hs
        have g2 := ad_tail g1.2.1 (by omega)
        obtain ⟨x2, s2, h2, h⟩ := bnd_ok h
        have d2 := iL _ _ _ _ g2.2.1 (up g2 (up g1 hP)) h2
        cases h
        exact rel_fro d1 d2
      · cases h; exact d1
    · rw [factor] at h
      split at h
      · rename_i hs
        have g0 := ad_isT hg hs
        obtain ⟨x1, s1, h1, h⟩ := bnd_ok h
        have d1 := iF _ _ _ g0.2.1 (up g0 hP) h1
        cases h
        exact fro_nd (hP _ (pk_mem hg)) (by decide) ⟨d1, trivial⟩
      · exact iP _ _ _ hg hP h
    · rw [prim] at h
      split at h
      · exact numR_fro hg hP h
      · split at h
        · rename_i hk; exact iW _ _ _ hg hP hk h
        · obtain ⟨_, s1, h1, h⟩ := bnd_ok h
          have g1 := (exp_ok hg h1).1
          obtain ⟨x2, s2, h2, h⟩ := bnd_ok h
          have d2 := iE _ _ _ g1.2.1 (up g1 hP) h2
          obtain ⟨_, s3, h3, h⟩ := bnd_ok h
          cases h
          exact fro_at d2 (hP _ (pk_mem hg))
    · rw [word] at h
      have g0 := ad_tail hg (by omega)
      have pa := hP _ (pk_mem hg)
      split at h
      · cases h
        exact truth_fro pa
      · split at h
        · rename_i k hk
          exact factR_fro g0.2.1 pa (up g0 hP) h
        · obtain ⟨nm, s1, h1, h⟩ := bnd_ok h
          have k1 := identR_ok hg h1
          have g1 := k1.1
          have pn : P nm.At := by rw [k1.2.2]; exact pa
          have hl : ∀ k : Int, k = 14 ∨ k = 15 → ∀ ks, froL P ks → fro P ⟨k, 0, 0, 0, (pk s.1).At, nm, default, ks⟩ := fun k hk ks h2 =>
            ⟨pa, fun _ => pn, fun h => by omega, fun h => by omega, h2⟩
          split at h
          · rename_i hs
            have g2 := ad_isT g1.2.1 hs
            split at h
            · cases h
              exact hl 14 (.inl rfl) [] trivial
            · obtain ⟨ks, s2, h2, h⟩ := bnd_ok h
              have d2 := iA _ _ _ g2.2.1 (up g2 (up g1 hP)) h2
              cases h
              exact hl 14 (.inl rfl) ks d2
          · cases h
            exact hl 15 (.inr rfl) [] trivial
    · rw [args] at h
      obtain ⟨x1, s1, h1, h⟩ := bnd_ok h
      have g1 := aE _ _ _ hg h1
      have d1 := iE _ _ _ hg hP h1
      split at h
      · rename_i hs
        have g2 := ad_isT g1.2.1 hs
        obtain ⟨xs, s2, h2, h⟩ := bnd_ok h
        have d2 := iA _ _ _ g2.2.1 (up g2 (up g1 hP)) h2
        cases h
        exact ⟨d1, d2⟩
      · obtain ⟨_, s2, h2, h⟩ := bnd_ok h
        cases h
        exact ⟨d1, trivial⟩
theorem expr0_fr {s s' : S} {x : Nd} (hg : good s.1) (hP : ∀ t ∈ s.1, P t.At) (h : expr0 s = .ok (x, s')) : fro P x := (all_fr _).1 _ _ _ hg hP h
theorem prms_fr : ∀ (f : Nat) {s s' : S} {xs : List Prm}, good s.1 → (∀ t ∈ s.1, P t.At) → prms f s = .ok (xs, s') → ∀ q ∈ xs, P q.name.At
  | 0, _, _, _, _, _, h => by rw [prms] at h; cases h
  | f + 1, s, s', xs, hg, hP, h => by
    have up : ∀ {a b : List Token}, Ad a b → (∀ t ∈ a, P t.At) → ∀ t ∈ b, P t.At := fun g h t ht => h t (g.1.subset ht)
    rw [prms] at h
    obtain ⟨nm, s1, h1, h⟩ := bnd_ok h
    have k1 := identR_ok hg h1
    have pn : P nm.At := by rw [k1.2.2]; exact hP _ (pk_mem hg)
    have g1 := k1.1
    obtain ⟨_, s2, h2, h⟩ := bnd_ok h
    have g2 := (exp_ok g1.2.1 h2).1
    obtain ⟨k, s3, h3, h⟩ := bnd_ok h
    have g3 := (kindR_ok g2.2.1 h3).1
    split at h
    · rename_i hs
      have g4 := ad_isT g3.2.1 hs
      obtain ⟨ys, s4, h4, h⟩ := bnd_ok h
      have i4 := prms_fr f g4.2.1 (up g4 (up g3 (up g2 (up g1 hP)))) h4
      cases h
      intro q hq
      rcases List.mem_cons.1 hq with rfl | hq
      · exact pn
      · exact i4 q hq
    · obtain ⟨_, s4, h4, h⟩ := bnd_ok h
      cases h
      intro q hq
      rw [List.mem_singleton.1 hq]
      exact pn
def froF (P : Int → Prop) (f : Fn) : Prop := P f.name.At ∧ (∀ q ∈ f.params, P q.name.At) ∧ fro P f.body
def froC (P : Int → Prop) (c : Cl) : Prop := P c.link.At ∧ fro P c.cond ∧ fro P c.value
theorem funR_fr {s s' : S} {x : Fn} (hg : good s.1) (hP : ∀ t ∈ s.1, P t.At) (h : funR s = .ok (x, s')) : froF P x := by
  have up : ∀ {a b : List Token}, Ad a b → (∀ t ∈ a, P t.At) → ∀ t ∈ b, P t.At := fun g h t ht => h t (g.1.subset ht)
  unfold funR at h
  obtain ⟨nm, s1, h1, h⟩ := bnd_ok h
  have k1 := identR_ok hg h1
  have pn : P nm.At := by rw [k1.2.2]; exact hP _ (pk_mem hg)
  have g1 := k1.1
  obtain ⟨_, s2, h2, h⟩ := bnd_ok h
  have g2 := g1.trans (exp_ok g1.2.1 h2).1
  obtain ⟨ps, s3, h3, h⟩ := bnd_ok h
  have g3 : Ad s.1 s3.1 ∧ ∀ q ∈ ps, P q.name.At := by
    split at h3
    · rename_i hs; cases h3; exact ⟨g2.trans (ad_isT g2.2.1 hs), fun q hq => (by cases hq)⟩
    · exact ⟨g2.trans (prms_ok _ g2.2.1 h3), prms_fr _ g2.2.1 (up g2 hP) h3⟩
  obtain ⟨_, s4, h4, h⟩ := bnd_ok h
  have g4 := g3.1.trans (exp_ok g3.1.2.1 h4).1
  obtain ⟨k, s5, h5, h⟩ := bnd_ok h
  have g5 := g4.trans (kindR_ok g4.2.1 h5).1
  obtain ⟨_, s6, h6, h⟩ := bnd_ok h
  have g6 := g5.trans (exp_ok g5.2.1 h6).1
  obtain ⟨b, s7, h7, h⟩ := bnd_ok h
  have d7 := expr0_fr g6.2.1 (up g6 hP) h7
  cases h
  exact ⟨pn, g3.2, d7⟩
theorem clR_fr {s s' : S} {x : Cl} (hg : good s.1) (hP : ∀ t ∈ s.1, P t.At) (h : clR s = .ok (x, s')) : froC P x := by
  have up : ∀ {a b : List Token}, Ad a b → (∀ t ∈ a, P t.At) → ∀ t ∈ b, P t.At := fun g h t ht => h t (g.1.subset ht)
  unfold clR at h
  obtain ⟨c, s1, h1, h⟩ := bnd_ok h
  have d1 := expr0_fr hg hP h1
  have g1 := expr0_ok hg h1
  obtain ⟨_, s2, h2, h⟩ := bnd_ok h
  have g2 := g1.trans (exp_ok g1.2.1 h2).1
  obtain ⟨_, s3, h3, h⟩ := bnd_ok h
  have g3 := g2.trans (exp_ok g2.2.1 h3).1
  obtain ⟨l, s4, h4, h⟩ := bnd_ok h
  have k4 := nameR_ok g3.2.1 h4
  have pl : P l.At := by rw [k4.2.2]; exact up g3 hP _ (pk_mem g3.2.1)
  have g4 := g3.trans k4.1
  obtain ⟨_, s5, h5, h⟩ := bnd_ok h
  have g5 := g4.trans (exp_ok g4.2.1 h5).1
  obtain ⟨v, s6, h6, h⟩ := bnd_ok h
  have d6 := expr0_fr g5.2.1 (up g5 hP) h6
  cases h
  exact ⟨pl, d1, d6⟩
theorem defs_fr : ∀ (f : Nat) {s s' : S} {xs : List Fn}, good s.1 → (∀ t ∈ s.1, P t.At) → defs f s = .ok (xs, s') → ∀ x ∈ xs, froF P x
  | 0, _, _, _, _, _, h => by rw [defs] at h; cases h
  | f + 1, s, s', xs, hg, hP, h => by
    have up : ∀ {a b : List Token}, Ad a b → (∀ t ∈ a, P t.At) → ∀ t ∈ b, P t.At := fun g h t ht => h t (g.1.subset ht)
    rw [defs] at h
    split at h
    · rename_i hs
      have g0 := ad_isT hg hs
      obtain ⟨x, s1, h1, h⟩ := bnd_ok h
      have g1 := funR_ok g0.2.1 h1
      have d1 := funR_fr g0.2.1 (up g0 hP) h1
      obtain ⟨ys, s2, h2, h⟩ := bnd_ok h
      have i2 := defs_fr f g1.2.1 (up g1 (up g0 hP)) h2
      cases h
      intro y hy
      rcases List.mem_cons.1 hy with rfl | hy
      · exact d1
      · exact i2 y hy
    · cases h; intro x hx; cases hx
theorem whens_fr : ∀ (f : Nat) {s s' : S} {xs : List Cl}, good s.1 → (∀ t ∈ s.1, P t.At) → whens f s = .ok (xs, s') → ∀ x ∈ xs, froC P x
  | 0, _, _, _, _, _, h => by rw [whens] at h; cases h
  | f + 1, s, s', xs, hg, hP, h => by
    have up : ∀ {a b : List Token}, Ad a b → (∀ t ∈ a, P t.At) → ∀ t ∈ b, P t.At := fun g h t ht => h t (g.1.subset ht)
    rw [whens] at h
    split at h
    · rename_i hs
      have g0 := ad_isT hg hs
      obtain ⟨x, s1, h1, h⟩ := bnd_ok h
      have g1 := clR_ok g0.2.1 h1
      have d1 := clR_fr g0.2.1 (up g0 hP) h1
      obtain ⟨ys, s2, h2, h⟩ := bnd_ok h
      have i2 := whens_fr f g1.2.1 (up g1 (up g0 hP)) h2
      cases h
      intro y hy
      rcases List.mem_cons.1 hy with rfl | hy
      · exact d1
      · exact i2 y hy
    · cases h; intro x hx; cases hx
theorem parse_fr {ts : List Token} (hg : good ts) (hP : ∀ t ∈ ts, P t.At) : (∀ x ∈ (parse ts).1.1, froF P x) ∧ ∀ x ∈ (parse ts).1.2, froC P x := by
  unfold parse
  cases hr : prgR (ts, -1) with
  | error e =>
    simp only
    split <;> exact ⟨fun x hx => (by cases hx), fun x hx => (by cases hx)⟩
  | ok r =>
    obtain ⟨p, s⟩ := r
    simp only
    unfold prgR at hr
    obtain ⟨fs, s1, h1, h⟩ := bnd_ok hr
    obtain ⟨cs, s2, h2, h⟩ := bnd_ok h
    have d0 := defs_sh _ (s := (ts, -1)) hg h1
    have d1 := defs_fr _ (s := (ts, -1)) hg hP h1
    have d2 := whens_fr _ d0.2.1.2 (fun t ht => hP t (d0.2.1.1.subset ht)) h2
    split
    · exact ⟨fun x hx => (by cases hx), fun x hx => (by cases hx)⟩
    · split at h
      · cases h; exact ⟨d1, d2⟩
      · cases h
theorem lst_neg {a d : Int} (hd : 0 ≤ d) : ¬ lst a d < 0 := by unfold lst; split <;> omega
theorem lstL_neg : ∀ {l : List Int} {a : Int}, (∀ x ∈ l, 0 ≤ x) → lstL a l < 0 → l = []
  | [], _, _, _ => rfl
  | x :: xs, a, h, hl => by
    exfalso
    have h0 := lst_neg (a := a) (h x (List.mem_cons_self ..))
    have h1 : lstL (lst a x) xs < 0 := hl
    have h2 := lstL_neg (fun y hy => h y (List.mem_cons_of_mem _ hy)) h1
    subst h2
    exact h0 h1
theorem ixB_mem {P : Int → Prop} {l : List (List UInt8)} {t : Token} (h : P t.At) : ∀ x ∈ ixB l t, P x := by
  unfold ixB
  split
  · intro x hx; cases hx
  · intro x hx; rw [List.mem_singleton.1 hx]; exact h
mutual
theorem bad_mem {P : Int → Prop} {e : Env} {fs ps : List (List UInt8)} : ∀ (x : Nd), fro P x → ∀ a ∈ bad e fs ps x, P a
  | ⟨k, n, _, _, _, nm, ow, ks⟩, h, a, ha => by
    unfold bad at ha
    rcases List.mem_append.1 ha with ha | ha
    · obtain ⟨_, h1, h2, h3, _⟩ := h
      split at ha
      · exact ixB_mem (h1 (by omega)) a ha
      · split at ha
        · exact ixB_mem (h1 (by omega)) a ha
        · split at ha
          · rename_i hk
            split at ha
            · exact ixB_mem (h2 hk (by omega) (by omega) (by omega)) a ha
            · split at ha
              · rename_i hn
                rcases List.mem_append.1 ha with ha | ha
                · exact ixB_mem (h2 hk (by omega) (by omega) (by omega)) a ha
                · exact ixB_mem (h3 hk hn) a ha
              · split at ha
                · exact ixB_mem (h2 hk (by omega) (by omega) (by omega)) a ha
                · split at ha
                  · exact ixB_mem (h2 hk (by omega) (by omega) (by omega)) a ha
                  · cases ha
          · cases ha
    · exact badL_mem ks h.2.2.2.2 a ha
theorem badL_mem {P : Int → Prop} {e : Env} {fs ps : List (List UInt8)} : ∀ (xs : List Nd), froL P xs → ∀ a ∈ bad.badL e fs ps xs, P a
  | [], _, a, ha => by simp only [bad.badL] at ha; cases ha
  | x :: xs, h, a, ha => by
    simp only [bad.badL] at ha
    rcases List.mem_append.1 ha with ha | ha
    · exact bad_mem x h.1 a ha
    · exact badL_mem xs h.2 a ha
end
theorem badP_mem {P : Int → Prop} {e : Env} {p : List Fn × List Cl} (hf : ∀ x ∈ p.1, froF P x) (hc : ∀ x ∈ p.2, froC P x) : ∀ a ∈ badP e p, P a := by
  intro a ha
  unfold badP at ha
  rcases List.mem_append.1 ha with ha | ha
  · obtain ⟨⟨f, i⟩, hm, ha⟩ := List.mem_flatMap.1 ha
    have hfm : f ∈ p.1 := by
      have := List.mem_zipIdx hm
      obtain ⟨_, h2, h3⟩ := this
      rw [h3]; exact List.getElem_mem _
    obtain ⟨h1, h2, h3⟩ := hf f hfm
    simp only [badF] at ha
    rcases List.mem_append.1 ha with ha | ha
    · rcases List.mem_append.1 ha with ha | ha
      · split at ha
        · cases ha
        · rw [List.mem_singleton.1 ha]; exact h1
      · unfold dupP at ha
        obtain ⟨q, hq, rfl⟩ := List.mem_map.1 ha
        have hq := (List.mem_filter.1 hq).1
        obtain ⟨_, h4, h5⟩ := List.mem_zipIdx hq
        rw [h5]; exact h2 _ (List.getElem_mem _)
    · exact bad_mem _ h3 a ha
  · obtain ⟨c, hm, ha⟩ := List.mem_flatMap.1 ha
    obtain ⟨h1, h2, h3⟩ := hc c hm
    unfold badC at ha
    rcases List.mem_append.1 ha with ha | ha
    · rcases List.mem_append.1 ha with ha | ha
      · exact bad_mem _ h2 a ha
      · exact ixB_mem h1 a ha
    · exact bad_mem _ h3 a ha
end Ru
namespace Ru
open Bt Pa
theorem ixB_nil {l : List (List UInt8)} {t : Token} (h : ixB l t = []) : 0 ≤ ixN l t ∧ ixN l t < l.length := by
  unfold ixB at h
  split at h
  · rename_i hs
    obtain ⟨n, hn⟩ := Option.isSome_iff_exists.1 hs
    have := ix_lt hn
    unfold ixN; rw [hn]; simp only [Option.getD_some]; omega
  · cases h
mutual
theorem okT_res {e : Env} {fs ps : List (List UInt8)} : ∀ (x : Nd), sh x → bad e fs ps x = [] → okT fs.length ps.length (res e fs ps x)
  | ⟨k, n, o, q, a, nm, ow, ks⟩, hs, hb => by
    obtain ⟨har, _, _, hn, _, _, hks⟩ := hs
    unfold bad at hb
    obtain ⟨hb1, hb2⟩ := List.append_eq_nil_iff.1 hb
    have hk := okTL_res ks hks hb2
    have har' : ar k (res.resL e fs ps ks).length := by rw [resL_len]; exact har
    unfold res
    split
    · rename_i h15
      rw [if_pos h15] at hb1
      have := ixB_nil hb1
      exact ⟨har', fun _ => this, fun h => by omega, hk⟩
    · rename_i h15
      rw [if_neg h15] at hb1
      split
      · rename_i h14
        rw [if_pos h14] at hb1
        have := ixB_nil hb1
        exact ⟨har', fun h => absurd h h15, fun _ => this, hk⟩
      · rename_i h14
        split
        · repeat' split
          all_goals exact ⟨har', fun h => absurd h h15, fun h => absurd h h14, hk⟩
        · exact ⟨har', fun h => absurd h h15, fun h => absurd h h14, hk⟩
theorem okTL_res {e : Env} {fs ps : List (List UInt8)} : ∀ (xs : List Nd), sh.shL xs → bad.badL e fs ps xs = [] → okT.okTL fs.length ps.length (res.resL e fs ps xs)
  | [], _, _ => by simp only [res.resL]; trivial
  | x :: xs, h, hb => by
    simp only [bad.badL] at hb
    obtain ⟨h1, h2⟩ := List.append_eq_nil_iff.1 hb
    simp only [res.resL]
    exact ⟨okT_res x h.1 h1, okTL_res xs h.2 h2⟩
end
mutual
theorem nn_res {e : Env} {fs ps : List (List UInt8)} : ∀ (x : Nd), nn (res e fs ps x) = nn x
  | ⟨k, n, o, q, a, nm, ow, ks⟩ => by
    have h := nnL_res (e := e) (fs := fs) (ps := ps) ks
    unfold res
    repeat' split
    all_goals simp only [nn, h]
theorem nnL_res {e : Env} {fs ps : List (List UInt8)} : ∀ (xs : List Nd), nn.nnL (res.resL e fs ps xs) = nn.nnL xs
  | [] => rfl
  | x :: xs => by simp only [res.resL, nn.nnL, nn_res x, nnL_res xs]
end
def okR (p : List Fn × List Cl) : Prop := (∀ f ∈ p.1, okT p.1.length f.params.length f.body ∧ nn f.body ≤ 1000000 ∧ f.params.length ≤ 20000) ∧ (∀ c ∈ p.2, okT p.1.length 0 c.cond ∧ nn c.cond ≤ 1000000 ∧ okT p.1.length 0 c.value ∧ nn c.value ≤ 1000000) ∧ p.1.length ≤ 20000 ∧ p.2.length ≤ 20000
theorem okR_res {e : Env} {p : List Fn × List Cl} (hp : okP 20000 p) (hb : badP e p = []) : okR (resP e p) := by
  unfold badP at hb
  obtain ⟨hb1, hb2⟩ := List.append_eq_nil_iff.1 hb
  have hl := hp.2.2
  have hfn : (fnN p.1).length = p.1.length := by simp [fnN]
  have hrl : (resP e p).1.length = p.1.length := by simp [resP]
  refine ⟨fun f hf => ?_, fun c hc => ?_, by rw [hrl]; omega, by simp only [resP, List.length_map]; omega⟩
  · rw [hrl]
    obtain ⟨g, hg, rfl⟩ := List.mem_map.1 hf
    obtain ⟨i, hi, rfl⟩ := List.mem_iff_getElem.1 hg
    have hz : (p.1[i], i) ∈ p.1.zipIdx := List.mem_iff_getElem.2 ⟨i, by simpa using hi, by simp⟩
    have h3 := (List.flatMap_eq_nil_iff.1 hb1) _ hz
    simp only [badF] at h3
    obtain ⟨h4, h5⟩ := List.append_eq_nil_iff.1 h3
    have hk := hp.1 _ hg
    refine ⟨?_, by simp only [resF]; rw [nn_res]; have := hk.2.2.2; omega, hk.1.2⟩
    have h6 := okT_res (e := e) (fs := fnN p.1) (ps := prN p.1[i].params) p.1[i].body hk.2.2.1 h5
    rw [hfn, show (prN p.1[i].params).length = p.1[i].params.length by simp [prN]] at h6
    exact h6
  · rw [hrl]
    obtain ⟨g, hg, rfl⟩ := List.mem_map.1 hc
    have h3 := (List.flatMap_eq_nil_iff.1 hb2) _ hg
    unfold badC at h3
    obtain ⟨h4, h5⟩ := List.append_eq_nil_iff.1 h3
    obtain ⟨h6, h7⟩ := List.append_eq_nil_iff.1 h4
    have hk := hp.2.1 _ hg
    have k1 := okT_res (e := e) (fs := fnN p.1) (ps := []) g.cond hk.1 h6
    have k2 := okT_res (e := e) (fs := fnN p.1) (ps := []) g.value hk.2.2.1 h5
    rw [hfn] at k1 k2
    exact ⟨k1, by simp only [resC]; rw [nn_res]; have := hk.2.1; omega, k2, by simp only [resC]; rw [nn_res]; have := hk.2.2.2; omega⟩
theorem scan_len {s : List UInt8} (h : (Lx.scan s).2.1 = 0) : (Lx.scan s).1.length ≤ s.length + 1 := by
  obtain ⟨_, _, _, _, he, _⟩ := scan_good h
  rw [he, List.length_map]
  have := Lx.stm_len (s.length + 1) s (Lx.skp false s)
  simp only [Lx.seqT]; omega
end Ru
