/- Lemmas. Conditions: those of each theorem. -/
import Derived.Test.YtnfmjfheciihjaaGreatDoorYMnR
set_option maxRecDepth 8000
set_option maxHeartbeats 16000000
namespace Mn
open Bt Ru
def inside : Expr → Int → Bool
  | ⟨k, _, a, _, ks⟩, o => (decide (k = 1) && decide (a = o)) || insideL ks o
where insideL : List Expr → Int → Bool
  | [], _ => false
  | x :: xs, o => inside x o || insideL xs o
theorem inside_eq (x : Expr) (o : Int) : inside x o = ((decide (x.Kind = 1) && decide (x.Of = o)) || inside.insideL x.Kids o) := by
  obtain ⟨k, n, a, b, ks⟩ := x
  rw [inside]
theorem insideL_eq : ∀ (xs : List Expr) (o : Int), inside.insideL xs o = xs.any fun x => inside x o
  | [], _ => by rw [inside.insideL]; rfl
  | x :: xs, o => by rw [inside.insideL, insideL_eq xs o, List.any_cons]
def clIn (c : RClause) (o : Int) : Bool := inside c.If o || inside c.To o
def namesR (r : Rule) (o : Int) : Bool := (r.Funcs.any fun q => inside q.Body o) || r.Clauses.any fun c => clIn c o
theorem inside_kid {x : Expr} {o : Int} (h : inside x o = false) : ∀ y ∈ x.Kids, inside y o = false := fun y hy => by
  rw [inside_eq, insideL_eq] at h
  simp only [Bool.or_eq_false_iff] at h
  have := List.any_eq_false.1 h.2 y hy
  simpa using this
theorem inside_at {x : Expr} {o : Int} (h : inside x o = false) (i : Nat) : inside (kid x i) o = false := by
  unfold kid
  by_cases hi : i < x.Kids.length
  · rw [gDD, List.getElem?_eq_getElem hi]
    exact inside_kid h _ (List.getElem_mem hi)
  · rw [gDD, List.getElem?_eq_none (by omega)]
    show inside default o = false
    rw [inside_eq]; rfl
theorem evs_same {f g : Expr → Int → R Int} : ∀ {xs : List Expr} (u : Int), (∀ x ∈ xs, ∀ u, f x u = g x u) → evs f xs u = evs g xs u
  | [], u, _ => rfl
  | x :: xs, u, h => by
    unfold evs
    rw [h x (List.mem_cons_self ..)]
    congr 1
    funext v u
    rw [evs_same u fun y hy => h y (List.mem_cons_of_mem _ hy)]
variable {fs : List RFunc} {f h : Facts} {d : Dt}
theorem ev_same {o : Int} (hf : ∀ n a q, a ≠ o → factV f d n a q = factV h d n a q) (hb : ∀ q ∈ fs, inside q.Body o = false) : ∀ (g : Nat) (c : Int) (x : Expr) (ps : List Int) (u : Int), inside x o = false → ev fs f d g c x ps u = ev fs h d g c x ps u := by
  intro g
  induction g with
  | zero => intro c x ps u _; rw [ev, ev]
  | succ g ih =>
    intro c x ps u hx
    have hk : ∀ i u, ev fs f d g c (kid x i) ps u = ev fs h d g c (kid x i) ps u := fun i u => ih c _ ps u (inside_at hx i)
    rw [ev, ev]
    by_cases k1 : x.Kind = 1
    · have ho : x.Of ≠ o := fun he => by
        rw [inside_eq] at hx
        simp [k1, he] at hx
      simp only [if_neg (show ¬ x.Kind = 0 by omega), if_neg (show ¬ x.Kind = 15 by omega), if_pos k1, hf _ _ _ ho]
    · have hbd : inside (fs.getD x.N.toNat default).Body o = false := by
        by_cases hi : x.N.toNat < fs.length
        · rw [gDD, List.getElem?_eq_getElem hi]
          exact hb _ (List.getElem_mem hi)
        · rw [gDD, List.getElem?_eq_none (by omega)]
          show inside default o = false
          rw [inside_eq]; rfl
      have hev : ∀ u, evs (fun y u => ev fs f d g c y ps u) x.Kids u = evs (fun y u => ev fs h d g c y ps u) x.Kids u := fun u => evs_same u fun y hy u => ih c y ps u (inside_kid hx y hy)
      have hcl : ∀ vs u, ev fs f d g (c + 1) (fs.getD x.N.toNat default).Body vs u = ev fs h d g (c + 1) (fs.getD x.N.toNat default).Body vs u := fun vs u => ih _ _ vs u hbd
      simp only [if_neg k1, hk, hev, hcl]
theorem cls_same {o : Int} {ps : List Int} (hf : ∀ n a q, a ≠ o → factV f d n a q = factV h d n a q) (hb : ∀ q ∈ fs, inside q.Body o = false) : ∀ (cs : List RClause) (s : List Bool) (t : List Int) (u : Int), (∀ c ∈ cs, clIn c o = false) → cls fs f d ps cs s t u = cls fs h d ps cs s t u
  | [], s, t, u, _ => by rw [cls, cls]
  | c :: cs, s, t, u, hc => by
    have h1 := hc c (List.mem_cons_self ..)
    unfold clIn at h1
    simp only [Bool.or_eq_false_iff] at h1
    have ih := fun s t u => cls_same (ps := ps) hf hb cs s t u fun c h => hc c (List.mem_cons_of_mem _ h)
    rw [cls, cls]
    simp only [ih, ev_same hf hb _ _ _ _ _ h1.1, ev_same hf hb _ _ _ _ _ h1.2]
theorem run_same {e : Env} {ps : List Int} {r : Rule} {o : Int} (hr : namesR r o = false) (hh : h.Hour = f.Hour) (hf : ∀ n a q, a ≠ o → factV f (dateOf f.Hour).1 n a q = factV h (dateOf f.Hour).1 n a q) : run e ps r f = run e ps r h := by
  unfold namesR at hr
  simp only [Bool.or_eq_false_iff] at hr
  unfold run runR
  rw [hh, cls_same hf (fun q hq => by simpa using List.any_eq_false.1 hr.1 q hq) r.Clauses _ _ _ (fun c hc => by simpa using List.any_eq_false.1 hr.2 c hc)]
theorem atL_set {l : List Int} {k : Nat} {v a : Int} (h : a ≠ (k : Int)) : atL (l.set k v) a = atL l a := by
  unfold atL
  rw [List.length_set]
  split
  · rfl
  · rw [gDD, List.getElem?_set_ne (by omega), ← gDD]
def setF (f : Facts) (k : Nat) (v l p c : Int) (w : List Int) : Facts := ⟨f.Volume.set k v, f.Level.set k l, f.Owned.set k w, f.Pos.set k p, f.Hour, f.Crest.set k c⟩
theorem setF_same {k : Nat} {v l p c : Int} {w : List Int} : ∀ n a q, a ≠ (k : Int) → factV f d n a q = factV (setF f k v l p c w) d n a q := fun n a q ha => by
  unfold factV setF
  simp only [atL_set ha, List.length_set]
  have h1 : ∀ {α : Type} (xs : List α) (y z : α), ¬ (a < 0) → (xs.set k y).getD a.toNat z = xs.getD a.toNat z := fun xs y z h0 => by
    rw [gDD, List.getElem?_set_ne (by omega), ← gDD]
  by_cases h0 : a < 0
  · simp only [h0, true_or, if_true]
  · simp only [h1 _ _ _ h0]
end Mn
namespace Go.Proofs.YtnfmjfheciihjaaGreatDoor
open Go Go.K Go.RowKit
open Ru (pB)
attribute [local irreducible] AW RW DW Post Qt
abbrev xK (X : Bt.Expr) (i : Nat) (A : Option Addr) (c : Nat) : List Value := exC (Mn.kid X i) (.slice A (Mn.kid X i).Kids.length c)
abbrev rB (x : Nat) (y : RnV) (u c : Int) : Chunk := .blk x 79 (y.cs u c)
theorem RepSl.gi {Φ : Hp} {xs : List Int} {v : Value} {n : Nat} (h : RepSl Φ xs v) (hn : n < xs.length) : PCell Φ (Value.at v (n * 1)) (iV (xs.getD n 0)) := by
 have := (h.int hn).1
 rw [Nat.mul_one, gDD, List.getElem?_eq_getElem hn]; exact this
theorem mfact_c (w : World) {xb : Nat} {y : RnV} {u c : Int} {f : Bt.Facts} {k n o q : Int} {ks : List Bt.Expr} {v : Value} (hb : hp w xb = some (.cells (y.cs u c).toArray 79 (0, 0))) (hf : y.fc.ok (hp w) f) :
  Calls pg 48 #[pB xb, .agg (exC ⟨k, n, o, q, ks⟩ v).toArray] w fun e w' => e = .returned (iV (Mn.factV f y.d n o q)) ∧ Bel w.heap.size w w' := by
 refine calls_of_AW (args := [pB xb, .agg (exC ⟨k, n, o, q, ks⟩ v).toArray]) Tryz.func48 rfl (lBT rfl) (St ⟨w, hp w, []⟩ (hp w) []) (StP.init w (hp w) (Hp.le_refl _) []) ?_
 show AW _ _ [] _ _ _ [(0, pB xb), (1, .agg (exC ⟨k, n, o, q, ks⟩ v).toArray)] _
 have pvol : PCell (hp w) ⟨xb, 2, none⟩ y.fc.vol := PCell.blk (cs := y.cs u c) hb rfl
 have svol := hf.vol.sl
 have plev : PCell (hp w) ⟨xb, 3, none⟩ y.fc.lev := PCell.blk (cs := y.cs u c) hb rfl
 have slev := hf.lev.sl
 have pown : PCell (hp w) ⟨xb, 4, none⟩ y.fc.own := PCell.blk (cs := y.cs u c) hb rfl
 have sown := hf.own.sl
 have ppos : PCell (hp w) ⟨xb, 5, none⟩ y.fc.pos := PCell.blk (cs := y.cs u c) hb rfl
 have spos := hf.pos.sl
 have pcre : PCell (hp w) ⟨xb, 7, none⟩ y.fc.cre := PCell.blk (cs := y.cs u c) hb rfl
 have scre := hf.cre.sl
 have pd9 : PCell (hp w) ⟨xb, 9, none⟩ (iV y.d.2.1) := PCell.blk (cs := y.cs u c) hb rfl
 have pd10 : PCell (hp w) ⟨xb, 10, none⟩ (iV y.d.2.2.1) := PCell.blk (cs := y.cs u c) hb rfl
 have pd11 : PCell (hp w) ⟨xb, 11, none⟩ (iV y.d.2.2.2) := PCell.blk (cs := y.cs u c) hb rfl
 refine gR ?_
 refine RW.bxA (cs := exC ⟨k, n, o, q, ks⟩ v) rfl rfl fun b3 => ?_
 refine gR ?_
 refine AW.cond rfl (fun h => ?_) fun n0 => ?_
 ·
  have h : n = 0 := odT h
  refine gR ?_
  refine AW.drawZ (J0 := St ⟨w, hp w, []⟩ (hp w) [.blk b3 69 (exC ⟨k, n, o, q, ks⟩ v)]) (tq7 [.e, .q]) od9 hmix (by kernel_rfl) ?_
  refine gR ?_
  refine DW.qe (fun _ _ h => h) rfl (q_call (args := #[y.fc.vol, iV o]) oK rfl rfl (fun w1 hw1 => mat_c w1 (hf.vol.mono hw1.phi))) ?_
  refine gR ?_
  exact fin_res (vs := [iV (Mn.atL f.Volume o)]) rfl rfl ⟨.tmp rfl, trivial⟩ rfl (fun w' hw => ⟨by unfold Mn.factV; rw [if_pos h]; rfl, hw.below rfl⟩)
 have n0 : n ≠ 0 := odF n0
 refine gR ?_
 refine AW.cond rfl (fun h => ?_) fun n1 => ?_
 ·
  have h : n = 1 := odT h
  refine gR ?_
  refine AW.drawZ (J0 := St ⟨w, hp w, []⟩ (hp w) [.blk b3 69 (exC ⟨k, n, o, q, ks⟩ v)]) (tq7 [.e, .q]) od9 hmix (by kernel_rfl) ?_
  refine gR ?_
  refine DW.qe (fun _ _ h => h) rfl (q_call (args := #[y.fc.lev, iV o]) oK rfl rfl (fun w1 hw1 => mat_c w1 (hf.lev.mono hw1.phi))) ?_
  refine gR ?_
  exact fin_res (vs := [iV (Mn.atL f.Level o)]) rfl rfl ⟨.tmp rfl, trivial⟩ rfl (fun w' hw => ⟨by unfold Mn.factV; rw [if_neg n0, if_pos h]; rfl, hw.below rfl⟩)
 have n1 : n ≠ 1 := odF n1
 refine gR ?_
 refine AW.cond rfl (fun h => ?_) fun n2 => ?_
 ·
  have h : n = 2 := odT h
  refine gR ?_
  refine AW.drawZ (J0 := St ⟨w, hp w, []⟩ (hp w) [.blk b3 69 (exC ⟨k, n, o, q, ks⟩ v)]) (tq14 []) od14 hmix (by kernel_rfl) ?_
  refine gR ?_
  refine DW.g (b := decide (o < 0)) (v := pB xb) (fun _ h => h) rfl rfl rfl (fun h => qa_nc (gv_pos h)) (DW.g (b := decide (o < 0)) (v := .pointer (some ⟨xb, 2, none⟩)) (fun _ h => h) rfl rfl rfl (fun h => qa_fa0 (gv_pos h)) (DW.g (b := decide (o < 0)) (v := .pointer (some ⟨xb, 2 + 2, none⟩)) (fun _ h => h) rfl rfl rfl (fun h => qa_fab (p := 2) (gv_pos h)) (DW.g (b := decide (o < 0)) (v := y.fc.own) (fun _ h => h) rfl rfl rfl (fun h => qa_ld (gv_pos h) (Cell.phi pown)) (DW.g (b := decide (o < 0)) (v := iV (f.Owned.length : Int)) (fun _ h => h) rfl rfl rfl (fun h => q_len_sl (gv_pos h) sown uT36) ?_))))
  refine gR ?_
  refine DW.q (v := .bool (decide (o < 0) || decide ((f.Owned.length : Int) ≤ o))) (fun _ h => h) rfl (qpO rfl rfl rfl) ?_
  refine gR ?_
  refine AW.cond rfl (fun hi => ?_) fun hi => ?_
  ·
   have hi : o < 0 ∨ (f.Owned.length : Int) ≤ o := by simpa using hi
   refine gR ?_
   exact fin_res (vs := [iV (0)]) rfl rfl ⟨.tmp rfl, trivial⟩ rfl (fun w' hw => ⟨by unfold Mn.factV; rw [if_neg n0, if_neg n1, if_pos h, if_pos hi]; rfl, hw.below rfl⟩)
  have hi : ¬ (o < 0 ∨ (f.Owned.length : Int) ≤ o) := by simpa using hi
  have a0 := n0
  have a1 := n1
  have ah := h
  obtain ⟨m, rfl⟩ : ∃ m : Nat, o = m := ⟨o.toNat, by omega⟩
  have hm : m < f.Owned.length := by omega
  obtain ⟨sv, hsv, hpv⟩ := hf.own.sub hm
  refine gR ?_
  refine AW.drawZ (J0 := St ⟨w, hp w, []⟩ (hp w) [.blk b3 69 (exC ⟨k, n, (m : Int), q, ks⟩ v)]) (tq11 [.e, .q]) od13 hmix (by kernel_rfl) ?_
  refine gR ?_
  refine DW.qe (fun _ _ h => h) rfl (q_call (args := #[sv, iV q]) oK rfl rfl (fun w1 hw1 => mat_c w1 (hsv.mono hw1.phi))) ?_
  refine gR ?_
  exact fin_res (vs := [iV (Mn.atL (f.Owned.getD m []) q)]) rfl rfl ⟨.tmp rfl, trivial⟩ rfl (fun w' hw => ⟨by unfold Mn.factV; rw [if_neg a0, if_neg a1, if_pos ah, if_neg hi, Int.toNat_natCast]; rfl, hw.below rfl⟩)
 have n2 : n ≠ 2 := odF n2
 refine gR ?_
 refine AW.cond rfl (fun h => ?_) fun n3 => ?_
 ·
  have h : n = 3 := odT h
  refine gR ?_
  refine AW.drawZ (J0 := St ⟨w, hp w, []⟩ (hp w) [.blk b3 69 (exC ⟨k, n, o, q, ks⟩ v)]) (tq7 [.e, .q]) od9 hmix (by kernel_rfl) ?_
  refine gR ?_
  refine DW.qe (fun _ _ h => h) rfl (q_call (args := #[y.fc.pos, iV o]) oK rfl rfl (fun w1 hw1 => mat_c w1 (hf.pos.mono hw1.phi))) ?_
  refine gR ?_
  exact fin_res (vs := [iV (Mn.atL f.Pos o)]) rfl rfl ⟨.tmp rfl, trivial⟩ rfl (fun w' hw => ⟨by unfold Mn.factV; rw [if_neg n0, if_neg n1, if_neg n2, if_pos h]; rfl, hw.below rfl⟩)
 have n3 : n ≠ 3 := odF n3
 refine gR ?_
 refine AW.cond rfl (fun h => ?_) fun n4 => ?_
 ·
  have h : n = 4 := odT h
  refine gR ?_
  exact fin_res (vs := [iV (y.d.2.2.2)]) rfl rfl ⟨.tmp rfl, trivial⟩ rfl (fun w' hw => ⟨by unfold Mn.factV; rw [if_neg n0, if_neg n1, if_neg n2, if_neg n3, if_pos h]; rfl, hw.below rfl⟩)
 have n4 : n ≠ 4 := odF n4
 refine gR ?_
 refine AW.cond rfl (fun h => ?_) fun n5 => ?_
 ·
  have h : n = 5 := odT h
  refine gR ?_
  exact fin_res (vs := [iV (y.d.2.2.1)]) rfl rfl ⟨.tmp rfl, trivial⟩ rfl (fun w' hw => ⟨by unfold Mn.factV; rw [if_neg n0, if_neg n1, if_neg n2, if_neg n3, if_neg n4, if_pos h]; rfl, hw.below rfl⟩)
 have n5 : n ≠ 5 := odF n5
 refine gR ?_
 refine AW.cond rfl (fun h => ?_) fun n6 => ?_
 ·
  have h : n = 6 := odT h
  refine gR ?_
  exact fin_res (vs := [iV (y.d.2.1)]) rfl rfl ⟨.tmp rfl, trivial⟩ rfl (fun w' hw => ⟨by unfold Mn.factV; rw [if_neg n0, if_neg n1, if_neg n2, if_neg n3, if_neg n4, if_neg n5, if_pos h]; rfl, hw.below rfl⟩)
 have n6 : n ≠ 6 := odF n6
 refine gR ?_
 refine AW.cond rfl (fun h => ?_) fun n7 => ?_
 ·
  have h : n = 7 := odT h
  refine gR ?_
  refine AW.drawZ (J0 := St ⟨w, hp w, []⟩ (hp w) [.blk b3 69 (exC ⟨k, n, o, q, ks⟩ v)]) (tq14 []) od14 hmix (by kernel_rfl) ?_
  refine gR ?_
  refine DW.g (b := decide (o < 0)) (v := pB xb) (fun _ h => h) rfl rfl rfl (fun h => qa_nc (gv_pos h)) (DW.g (b := decide (o < 0)) (v := .pointer (some ⟨xb, 2, none⟩)) (fun _ h => h) rfl rfl rfl (fun h => qa_fa0 (gv_pos h)) (DW.g (b := decide (o < 0)) (v := .pointer (some ⟨xb, 2 + 5, none⟩)) (fun _ h => h) rfl rfl rfl (fun h => qa_fab (p := 2) (gv_pos h)) (DW.g (b := decide (o < 0)) (v := y.fc.cre) (fun _ h => h) rfl rfl rfl (fun h => qa_ld (gv_pos h) (Cell.phi pcre)) (DW.g (b := decide (o < 0)) (v := iV (f.Crest.length : Int)) (fun _ h => h) rfl rfl rfl (fun h => q_len_sl (gv_pos h) scre uT29) ?_))))
  refine gR ?_
  refine DW.q (v := .bool (decide (o < 0) || decide ((f.Crest.length : Int) ≤ o))) (fun _ h => h) rfl (qpO rfl rfl rfl) ?_
  refine gR ?_
  refine AW.cond rfl (fun hi => ?_) fun hi => ?_
  ·
   have hi : o < 0 ∨ (f.Crest.length : Int) ≤ o := by simpa using hi
   refine gR ?_
   exact fin_res (vs := [iV (-1)]) rfl rfl ⟨.tmp rfl, trivial⟩ rfl (fun w' hw => ⟨by unfold Mn.factV; rw [if_neg n0, if_neg n1, if_neg n2, if_neg n3, if_neg n4, if_neg n5, if_neg n6, if_pos h, if_pos hi]; rfl, hw.below rfl⟩)
  have hi : ¬ (o < 0 ∨ (f.Crest.length : Int) ≤ o) := by simpa using hi
  have a0 := n0
  have a1 := n1
  have a2 := n2
  have a3 := n3
  have a4 := n4
  have a5 := n5
  have a6 := n6
  have ah := h
  obtain ⟨m, rfl⟩ : ∃ m : Nat, o = m := ⟨o.toNat, by omega⟩
  have hm : m < f.Crest.length := by omega
  have pe := RepSl.gi hf.cre hm
  refine gR ?_
  refine AW.drawZ (J0 := St ⟨w, hp w, []⟩ (hp w) [.blk b3 69 (exC ⟨k, n, (m : Int), q, ks⟩ v)]) (tq10 []) od10 hmix (by kernel_rfl) ?_
  refine gR ?_
  exact fin_res (vs := [iV (f.Crest.getD m 0)]) rfl rfl ⟨.tmp rfl, trivial⟩ rfl (fun w' hw => ⟨by unfold Mn.factV; rw [if_neg a0, if_neg a1, if_neg a2, if_neg a3, if_neg a4, if_neg a5, if_neg a6, if_pos ah, if_neg hi, Int.toNat_natCast]; rfl, hw.below rfl⟩)
 have n7 : n ≠ 7 := odF n7
 refine gR ?_
 refine gR ?_
 exact fin_res (vs := [iV (0)]) rfl rfl ⟨.tmp rfl, trivial⟩ rfl (fun w' hw => ⟨by unfold Mn.factV; rw [if_neg n0, if_neg n1, if_neg n2, if_neg n3, if_neg n4, if_neg n5, if_neg n6, if_neg n7]; rfl, hw.below rfl⟩)
abbrev stR (w : World) (Φ : Hp) (x : Nat) (y : RnV) (u c : Int) : Ending → World → Prop := OwnK w Φ [rB x y u c] (if 10000 ≤ u then (.error (14, u) : Except (Int × Int) Int) else .ok (u + 1)) (fun _ (_ : Unit) => .tuple #[]) (fun u' _ => [rB x y u' c]) fE fun er CE => ∃ c', CE = [rB x y er.2 c']
theorem step_c (w : World) {Φ : Hp} {x : Nat} {y : RnV} {u c : Int} (hu : 0 ≤ u) (h0 : StP ⟨w, Φ, fps [rB x y u c]⟩ Φ [rB x y u c] w) : Calls pg 22 #[pB x] w (stR w Φ x y u c) := by
 refine calls_of_AW (args := [pB x]) Tryz.func22 rfl (lBT rfl) (St ⟨w, Φ, fps [rB x y u c]⟩ Φ [rB x y u c]) h0 ?_
 show AW _ _ [] _ _ _ [(0, pB x)] _
 refine gR ?_
 refine AW.cond rfl (fun h => ?_) fun h => ?_
 ·
  have h : 10000 ≤ u := odT h
  refine gR ?_
  refine RW.q (v := .agg #[iV 14]) rfl (q_build (vals := [(0, iV 14)]) zero83 uT83 places83 rfl rfl) ?_
  refine gR ?_
  exact RW.pan rfl (fun w' hw => .inr ⟨(14, u), _, if_pos h, rfl, ⟨c, rfl⟩, hw⟩)
 ·
  have h : ¬ 10000 ≤ u := odF h
  refine gR ?_
  exact fin_none (J' := St ⟨w, Φ, fps [rB x y u c]⟩ Φ [rB x y (u + 1) c]) rfl rfl (fun _ h => h) (fun w1 hw1 => .inl ⟨u + 1, (), if_neg h, rfl, hw1⟩)
end Go.Proofs.YtnfmjfheciihjaaGreatDoor
namespace Go.K
open Go Go.RowKit
section
variable {P : Program} {f : Nat → Value} {s : List (Nat × Value)} {J : Cls} {ty : TypeId} {pos : String} {af : Array Edge} {x y : Operand} {dst : Option Nat} {g : Option (Nat × Bool)} {t t' : TypeId}
theorem q_subW {a b : Int} (hx : ev (fr f s) x = iV a) (hy : ev (fr f s) y = iV b) : Qt P J f s ⟨dst, .binOp .sub t x y t', ty, pos, af, g⟩ (iV (IntKind.wrap .i64 (a - b))) := q_arith hx hy (by simp only [Op.intArith]) rfl
end
end Go.K
namespace Go.Proofs.YtnfmjfheciihjaaGreatDoor
open Go Go.K Go.RowKit
open Ru (pB)
attribute [local irreducible] AW RW DW Post Qt
structure ECtx (Φ : Hp) (e : Ru.Env) (fs : List Bt.RFunc) (f : Bt.Facts) (y : RnV) : Prop where
 rf : RepSl Φ fs y.rf
 fc : y.fc.ok Φ f
 J : ∀ q ∈ fs, (Ru.jx e fs q.Params 40 q.Body).2 = true
 F : ∀ n o q, I64 (Mn.factV f y.d n o q)
theorem ECtx.mono {Φ Ψ : Hp} {e : Ru.Env} {fs : List Bt.RFunc} {f : Bt.Facts} {y : RnV} (h : ECtx Φ e fs f y) (hl : Hp.le Φ Ψ) : ECtx Ψ e fs f y := ⟨h.rf.mono hl, h.fc.mono hl, h.J, h.F⟩
abbrev evR (w : World) (Φ : Hp) (x : Nat) (y : RnV) (u c : Int) (res : Mn.R Int) : Ending → World → Prop := OwnK w Φ [rB x y u c] res (fun v (_ : Unit) => iV v.1) (fun v _ => [rB x y v.2 c]) fE fun er CE => ∃ c', CE = [rB x y er.2 c']
def EvOK (e : Ru.Env) (fs : List Bt.RFunc) (f : Bt.Facts) (x : Nat) (y : RnV) (g : Nat) : Prop := ∀ (Φ : Hp) (X : Bt.Expr) (v : Value) (w : World) (j : Nat) (ts ps : List Int) (pv : Value) (u c : Int), ECtx Φ e fs f y → RepSl Φ X.Kids v → (Ru.jx e fs ts j X).2 = true → ps.length = ts.length → RepSl Φ ps pv → 0 ≤ u → 0 ≤ c → c ≤ 100 → (j : Int) + 41 * (101 - c) ≤ g →
 StP ⟨w, Φ, fps [rB x y u c]⟩ Φ [rB x y u c] w → Calls pg 23 #[pB x, .agg (exC X v).toArray, pv] w (evR w Φ x y u c (Mn.ev fs f y.d g c X ps u))
theorem evR.ok {w w' : World} {Φ : Hp} {x : Nat} {y : RnV} {u c v u' : Int} {res : Mn.R Int} (h : res = .ok (v, u')) {C : List Chunk} (hw : StP ⟨w, Φ, fps [rB x y u c]⟩ Φ (rB x y u' c :: C) w') : evR w Φ x y u c res (.returned (iV v)) w' := .inl ⟨(v, u'), (), h, rfl, StP.sel hw [0] (by decide) rfl⟩
theorem evR.ok1 {w w' : World} {Φ : Hp} {x : Nat} {y : RnV} {u c v u' : Int} {res : Mn.R Int} {k : Chunk} (h : res = .ok (v, u')) {C : List Chunk} (hw : StP ⟨w, Φ, fps [rB x y u c]⟩ Φ (k :: rB x y u' c :: C) w') : evR w Φ x y u c res (.returned (iV v)) w' := .inl ⟨(v, u'), (), h, rfl, StP.sel hw [1] (by decide) rfl⟩
theorem evR.pn {w w' : World} {Φ : Hp} {x : Nat} {y : RnV} {u c : Int} {res : Mn.R Int} {er : Int × Int} {CE C : List Chunk} (h : res = .error er) (hk : ∃ c', CE = [rB x y er.2 c']) (hw : StP ⟨w, Φ, fps [rB x y u c]⟩ Φ (CE ++ C) w') : evR w Φ x y u c res (.panicked (fE er)) w' := by
 obtain ⟨c', rfl⟩ := hk
 exact .inr ⟨er, _, h, rfl, ⟨c', rfl⟩, StP.sel hw [0] (by decide) rfl⟩
theorem kidV {Φ : Hp} {xs : List Bt.Expr} {v : Value} (h : RepSl Φ xs v) {i : Nat} (hi : i < xs.length) : ∃ A c, PCells Φ (Value.at v (i * 5)) (exC (xs.getD i default) (.slice A (xs.getD i default).Kids.length c)) ∧ RepSl Φ (xs.getD i default).Kids (.slice A (xs.getD i default).Kids.length c) := by
 obtain ⟨cs, h1, h2⟩ := h.at_ i hi
 obtain ⟨kv, rfl, h3, h4⟩ := repE'.1 h1
 obtain ⟨A, c, rfl, _⟩ := h4.sl
 have he : xs[i] = xs.getD i default := by rw [gDD, List.getElem?_eq_getElem hi]; rfl
 rw [he] at h2 h4
 refine ⟨A, c, fun q u hq => ?_, h4⟩
 rw [at_add]
 exact h2 q u hq
section
variable {e : Ru.Env} {fs : List Bt.RFunc} {f : Bt.Facts} {x : Nat} {y : RnV}
theorem eval_of {g : Nat} (ih : EvOK e fs f x y g) (hcall : ∀ (Φ : Hp) (X : Bt.Expr) (v : Value) (w : World) (j : Nat) (ts ps : List Int) (pv : Value) (u c : Int), ECtx Φ e fs f y → RepSl Φ X.Kids v → X.Kind = 14 → (Ru.jx e fs ts (j + 1) X).2 = true → ps.length = ts.length → RepSl Φ ps pv → 0 ≤ u → 0 ≤ c → c ≤ 100 → (j : Int) + 41 * (101 - c) ≤ g → StP ⟨w, Φ, fps [rB x y u c]⟩ Φ [rB x y u c] w → Calls pg 50 #[pB x, .agg (exC X v).toArray, pv] w (evR w Φ x y u c (Mn.ev fs f y.d (g + 1) c X ps u))) : EvOK e fs f x y (g + 1) := by
 intro Φ X v w j ts ps pv u c hC hv hj hlen hpv hu hc0 hc1 hg h0
 cases j with
 | zero => rw [Ru.jx_zero] at hj; cases hj
 | succ j =>
 have hn := Ru.jx_node hj
 have hkj := Ru.jx_kid hj
 have hlim : (j : Int) + 41 * (101 - c) ≤ g := by omega
 have hpi := hpv.i64
 have hI : ∀ {i : Nat} {u v u' : Int}, i < X.Kids.length → Mn.ev fs f y.d g c (Mn.kid X i) ps u = .ok (v, u') → I64 v ∧ u ≤ u' := fun hi h => Mn.ev_rng hC.J hC.F g (hkj _ (Mn.kid_mem hi)) hlen hpi h
 have hK : ∀ {i : Nat} (hi : i < X.Kids.length) {A : Option Addr} {cc : Nat} {u1 : Int} {w1 : World}, 0 ≤ u1 → RepSl Φ (Mn.kid X i).Kids (.slice A (Mn.kid X i).Kids.length cc) → StP ⟨w1, Φ, fps [rB x y u1 c]⟩ Φ [rB x y u1 c] w1 → Calls pg 23 #[pB x, .agg (exC (Mn.kid X i) (.slice A (Mn.kid X i).Kids.length cc)).toArray, pv] w1 (evR w1 Φ x y u1 c (Mn.ev fs f y.d g c (Mn.kid X i) ps u1)) := fun {i} hi {A cc u1 w1} hu1 hr hw => ih Φ _ _ _ j ts ps pv _ c hC hr (hkj _ (Mn.kid_mem hi)) hlen hpv hu1 hc0 hc1 hlim hw
 obtain ⟨vA, vc, rfl, _⟩ := hv.sl
 have hvs := hv.sl
 obtain ⟨pA, pc, rfl, _⟩ := hpv.sl
 have hps := hpv.sl
 generalize hev : Mn.ev fs f y.d (g + 1) c X ps u = res
 rw [Mn.ev] at hev
 refine calls_of_AW (args := [pB x, .agg (exC X (.slice vA X.Kids.length vc)).toArray, .slice pA ps.length pc]) Tryz.func23 rfl (lBT rfl) (St ⟨w, Φ, fps [rB x y u c]⟩ Φ [rB x y u c]) h0 ?_
 show AW _ _ [] _ _ _ [(0, pB x), (1, .agg (exC X (.slice vA X.Kids.length vc)).toArray), (2, .slice pA ps.length pc)] _
 refine gR ?_
 refine RW.bxA (cs := (exC X (.slice vA X.Kids.length vc))) rfl rfl fun b4 => ?_
 refine gR ?_
 refine AW.cond rfl (fun h => ?_) fun n0 => ?_
 ·
  have h : X.Kind = 0 := odT h
  rw [if_pos h] at hev
  refine gR ?_
  exact fin_res (vs := [iV (X.N)]) rfl rfl ⟨.tmp rfl, trivial⟩ rfl (fun w1 hw1 => evR.ok1 hev.symm hw1)
 have n0 : X.Kind ≠ 0 := odF n0
 rw [if_neg n0] at hev
 refine gR ?_
 refine AW.cond rfl (fun h => ?_) fun n15 => ?_
 ·
  have h : X.Kind = 15 := odT h
  rw [if_pos h] at hev
  have h15 := hn.k15 h
  obtain ⟨m, hm⟩ : ∃ m : Nat, X.N = m := ⟨X.N.toNat, by omega⟩
  have hml : m < ps.length := by omega
  have pe := RepSl.gi hpv hml
  refine gR ?_
  refine RW.q (v := .pointer (some (Value.at (.slice pA ps.length pc) (m * 1)))) rfl (qa_ixN (n := ps.length) (i := m) rfl (by show Value.int .i64 X.N = _; rw [hm]) hps hml) ?_
  refine gR ?_
  exact fin_res (vs := [iV (ps.getD m 0)]) rfl rfl ⟨.tmp rfl, trivial⟩ rfl (fun w1 hw1 => evR.ok1 (by rw [← hev, hm, Int.toNat_natCast]) hw1)
 have n15 : X.Kind ≠ 15 := odF n15
 rw [if_neg n15] at hev
 refine gR ?_
 refine AW.cond rfl (fun h => ?_) fun n1 => ?_
 ·
  have h : X.Kind = 1 := odT h
  rw [if_pos h] at hev
  refine gR ?_
  refine RW.q rfl (q_call (args := #[pB x, .agg (exC X (.slice vA X.Kids.length vc)).toArray]) oK rfl rfl (fun w1 hw1 => mfact_c w1 (y := y) (u := u) (c := c) (ks := X.Kids) (hw1.sAt 1 rfl) (hC.fc.mono hw1.phi))) ?_
  refine gR ?_
  exact fin_res (vs := [iV (Mn.factV f y.d X.N X.Of X.Of2)]) rfl rfl ⟨.tmp rfl, trivial⟩ rfl (fun w1 hw1 => evR.ok1 hev.symm hw1)
 have n1 : X.Kind ≠ 1 := odF n1
 rw [if_neg n1] at hev
 refine gR ?_
 refine AW.cond rfl (fun h => ?_) fun n2 => ?_
 ·
  have h : X.Kind = 2 := odT h
  rw [if_pos h] at hev
  have hl := hn.a1 (.inl h)
  obtain ⟨Aa, ca, hpa, hra⟩ := kidV hv (i := 0) (by omega)
  change PCells Φ _ (xK X 0 Aa ca) at hpa
  change RepSl Φ (Mn.kid X 0).Kids (.slice Aa (Mn.kid X 0).Kids.length ca) at hra
  refine gR ?_
  refine RW.q (v := .pointer (some (Value.at (.slice vA X.Kids.length vc) (0 * 5)))) rfl (qa_ixL (n := X.Kids.length) (i := 0) rfl rfl hvs (by omega)) (RW.q (v := .agg (xK X 0 Aa ca).toArray) rfl (qa_ldA (cs := xK X 0 Aa ca) rfl (Cells.phi hpa) rfl) ?_)
  refine gR ?_
  refine RW.own (args := #[pB x, .agg (xK X 0 Aa ca).toArray, .slice pA ps.length pc]) (C2 := [.blk b4 69 (exC X (.slice vA X.Kids.length vc))]) [1, 0] (by decide) rfl rfl oK rfl rfl (fun w1 hw1 => hK (i := 0) (by omega) (hu) hra hw1) (fun er CE w2 he hk hw => evR.pn (by rw [← hev]; exact Mn.bnd_err he) hk hw) ?_
  rintro ⟨va, ua⟩ _ hr
  rw [Mn.bnd_ok hr] at hev
  have hIa := hI (by omega) hr
  simp only at hIa ⊢
  refine gR ?_
  refine RW.q rfl (q_call (args := #[iV 0, iV va]) oK rfl rfl (fun w1 hw1 => Sub_c w1 (hp w1) (Hp.le_refl _) (by unfold I64; omega) hIa.1)) ?_
  refine gR ?_
  exact fin_res (vs := [iV (Mn.lim (0 - va))]) rfl rfl ⟨.tmp rfl, trivial⟩ rfl (fun w1 hw1 => evR.ok hev.symm hw1)
 have n2 : X.Kind ≠ 2 := odF n2
 rw [if_neg n2] at hev
 refine gR ?_
 refine AW.cond rfl (fun h => ?_) fun n3 => ?_
 ·
  have h : X.Kind = 3 := odT h
  rw [if_pos h] at hev
  have hl := hn.a1 (.inr h)
  obtain ⟨Aa, ca, hpa, hra⟩ := kidV hv (i := 0) (by omega)
  change PCells Φ _ (xK X 0 Aa ca) at hpa
  change RepSl Φ (Mn.kid X 0).Kids (.slice Aa (Mn.kid X 0).Kids.length ca) at hra
  refine gR ?_
  refine RW.q (v := .pointer (some (Value.at (.slice vA X.Kids.length vc) (0 * 5)))) rfl (qa_ixL (n := X.Kids.length) (i := 0) rfl rfl hvs (by omega)) (RW.q (v := .agg (xK X 0 Aa ca).toArray) rfl (qa_ldA (cs := xK X 0 Aa ca) rfl (Cells.phi hpa) rfl) ?_)
  refine gR ?_
  refine RW.own (args := #[pB x, .agg (xK X 0 Aa ca).toArray, .slice pA ps.length pc]) (C2 := [.blk b4 69 (exC X (.slice vA X.Kids.length vc))]) [1, 0] (by decide) rfl rfl oK rfl rfl (fun w1 hw1 => hK (i := 0) (by omega) (hu) hra hw1) (fun er CE w2 he hk hw => evR.pn (by rw [← hev]; exact Mn.bnd_err he) hk hw) ?_
  rintro ⟨va, ua⟩ _ hr
  rw [Mn.bnd_ok hr] at hev
  have hIa := hI (by omega) hr
  simp only at hIa ⊢
  refine gR ?_
  refine RW.q (v := iV (Mn.wr (1 - va))) rfl (q_subW rfl rfl) ?_
  refine gR ?_
  exact fin_res (vs := [iV (Mn.wr (1 - va))]) rfl rfl ⟨.tmp rfl, trivial⟩ rfl (fun w1 hw1 => evR.ok hev.symm hw1)
 have n3 : X.Kind ≠ 3 := odF n3
 rw [if_neg n3] at hev
 refine gR ?_
 refine AW.cond rfl (fun h => ?_) fun n11 => ?_
 ·
  have h : X.Kind = 11 := odT h
  rw [if_pos h] at hev
  have hl := hn.a2 n0 n1 n2 n3 (by omega) (by omega) n15
  obtain ⟨Aa, ca, hpa, hra⟩ := kidV hv (i := 0) (by omega)
  change PCells Φ _ (xK X 0 Aa ca) at hpa
  change RepSl Φ (Mn.kid X 0).Kids (.slice Aa (Mn.kid X 0).Kids.length ca) at hra
  refine gR ?_
  refine RW.q (v := .pointer (some (Value.at (.slice vA X.Kids.length vc) (0 * 5)))) rfl (qa_ixL (n := X.Kids.length) (i := 0) rfl rfl hvs (by omega)) (RW.q (v := .agg (xK X 0 Aa ca).toArray) rfl (qa_ldA (cs := xK X 0 Aa ca) rfl (Cells.phi hpa) rfl) ?_)
  refine gR ?_
  refine RW.own (args := #[pB x, .agg (xK X 0 Aa ca).toArray, .slice pA ps.length pc]) (C2 := [.blk b4 69 (exC X (.slice vA X.Kids.length vc))]) [1, 0] (by decide) rfl rfl oK rfl rfl (fun w1 hw1 => hK (i := 0) (by omega) (hu) hra hw1) (fun er CE w2 he hk hw => evR.pn (by rw [← hev]; exact Mn.bnd_err he) hk hw) ?_
  rintro ⟨va, ua⟩ _ hr
  rw [Mn.bnd_ok hr] at hev
  have hIa := hI (by omega) hr
  simp only at hIa ⊢
  refine gR ?_
  refine AW.cond rfl (fun hc => ?_) fun hc => ?_
  ·
   have hc : va = 0 := odT hc
   rw [if_pos hc] at hev
   refine gR ?_
   exact fin_res (vs := [iV (0)]) rfl rfl ⟨.tmp rfl, trivial⟩ rfl (fun w1 hw1 => evR.ok hev.symm hw1)
  have hc : va ≠ 0 := odF hc
  rw [if_neg hc] at hev
  obtain ⟨Ab, cb, hpb, hrb⟩ := kidV hv (i := 1) (by omega)
  change PCells Φ _ (xK X 1 Ab cb) at hpb
  change RepSl Φ (Mn.kid X 1).Kids (.slice Ab (Mn.kid X 1).Kids.length cb) at hrb
  refine gR ?_
  refine RW.q (v := .pointer (some (Value.at (.slice vA X.Kids.length vc) (1 * 5)))) rfl (qa_ixL (n := X.Kids.length) (i := 1) rfl rfl hvs (by omega)) (RW.q (v := .agg (xK X 1 Ab cb).toArray) rfl (qa_ldA (cs := xK X 1 Ab cb) rfl (Cells.phi hpb) rfl) ?_)
  refine gR ?_
  refine RW.own (args := #[pB x, .agg (xK X 1 Ab cb).toArray, .slice pA ps.length pc]) (C2 := [.blk b4 69 (exC X (.slice vA X.Kids.length vc))]) [0, 1] (by decide) rfl rfl oK rfl rfl (fun w1 hw1 => hK (i := 1) (by omega) (by omega) hrb hw1) (fun er CE w2 he hk hw => evR.pn (hev.symm.trans he) hk hw) ?_
  rintro ⟨vb, ub⟩ _ hr
  simp only
  refine gR ?_
  exact fin_res (vs := [iV (vb)]) rfl rfl ⟨.tmp rfl, trivial⟩ rfl (fun w1 hw1 => evR.ok (hev.symm.trans hr) hw1)
 have n11 : X.Kind ≠ 11 := odF n11
 rw [if_neg n11] at hev
 refine gR ?_
 refine AW.cond rfl (fun h => ?_) fun n12 => ?_
 ·
  have h : X.Kind = 12 := odT h
  rw [if_pos h] at hev
  have hl := hn.a2 n0 n1 n2 n3 (by omega) (by omega) n15
  obtain ⟨Aa, ca, hpa, hra⟩ := kidV hv (i := 0) (by omega)
  change PCells Φ _ (xK X 0 Aa ca) at hpa
  change RepSl Φ (Mn.kid X 0).Kids (.slice Aa (Mn.kid X 0).Kids.length ca) at hra
  refine gR ?_
  refine RW.q (v := .pointer (some (Value.at (.slice vA X.Kids.length vc) (0 * 5)))) rfl (qa_ixL (n := X.Kids.length) (i := 0) rfl rfl hvs (by omega)) (RW.q (v := .agg (xK X 0 Aa ca).toArray) rfl (qa_ldA (cs := xK X 0 Aa ca) rfl (Cells.phi hpa) rfl) ?_)
  refine gR ?_
  refine RW.own (args := #[pB x, .agg (xK X 0 Aa ca).toArray, .slice pA ps.length pc]) (C2 := [.blk b4 69 (exC X (.slice vA X.Kids.length vc))]) [1, 0] (by decide) rfl rfl oK rfl rfl (fun w1 hw1 => hK (i := 0) (by omega) (hu) hra hw1) (fun er CE w2 he hk hw => evR.pn (by rw [← hev]; exact Mn.bnd_err he) hk hw) ?_
  rintro ⟨va, ua⟩ _ hr
  rw [Mn.bnd_ok hr] at hev
  have hIa := hI (by omega) hr
  simp only at hIa ⊢
  refine gR ?_
  refine AW.cond rfl (fun hc => ?_) fun hc => ?_
  ·
   have hc : va ≠ 0 := by simpa using hc
   rw [if_pos hc] at hev
   refine gR ?_
   exact fin_res (vs := [iV (1)]) rfl rfl ⟨.tmp rfl, trivial⟩ rfl (fun w1 hw1 => evR.ok hev.symm hw1)
  have hc : va = 0 := by simpa using hc
  rw [if_neg (by omega)] at hev
  obtain ⟨Ab, cb, hpb, hrb⟩ := kidV hv (i := 1) (by omega)
  change PCells Φ _ (xK X 1 Ab cb) at hpb
  change RepSl Φ (Mn.kid X 1).Kids (.slice Ab (Mn.kid X 1).Kids.length cb) at hrb
  refine gR ?_
  refine RW.q (v := .pointer (some (Value.at (.slice vA X.Kids.length vc) (1 * 5)))) rfl (qa_ixL (n := X.Kids.length) (i := 1) rfl rfl hvs (by omega)) (RW.q (v := .agg (xK X 1 Ab cb).toArray) rfl (qa_ldA (cs := xK X 1 Ab cb) rfl (Cells.phi hpb) rfl) ?_)
  refine gR ?_
  refine RW.own (args := #[pB x, .agg (xK X 1 Ab cb).toArray, .slice pA ps.length pc]) (C2 := [.blk b4 69 (exC X (.slice vA X.Kids.length vc))]) [0, 1] (by decide) rfl rfl oK rfl rfl (fun w1 hw1 => hK (i := 1) (by omega) (by omega) hrb hw1) (fun er CE w2 he hk hw => evR.pn (hev.symm.trans he) hk hw) ?_
  rintro ⟨vb, ub⟩ _ hr
  simp only
  refine gR ?_
  exact fin_res (vs := [iV (vb)]) rfl rfl ⟨.tmp rfl, trivial⟩ rfl (fun w1 hw1 => evR.ok (hev.symm.trans hr) hw1)
 have n12 : X.Kind ≠ 12 := odF n12
 rw [if_neg n12] at hev
 refine gR ?_
 refine AW.cond rfl (fun h => ?_) fun n13 => ?_
 ·
  have h : X.Kind = 13 := odT h
  rw [if_pos h] at hev
  have hl := hn.a3 h
  obtain ⟨Aa, ca, hpa, hra⟩ := kidV hv (i := 0) (by omega)
  change PCells Φ _ (xK X 0 Aa ca) at hpa
  change RepSl Φ (Mn.kid X 0).Kids (.slice Aa (Mn.kid X 0).Kids.length ca) at hra
  refine gR ?_
  refine RW.q (v := .pointer (some (Value.at (.slice vA X.Kids.length vc) (0 * 5)))) rfl (qa_ixL (n := X.Kids.length) (i := 0) rfl rfl hvs (by omega)) (RW.q (v := .agg (xK X 0 Aa ca).toArray) rfl (qa_ldA (cs := xK X 0 Aa ca) rfl (Cells.phi hpa) rfl) ?_)
  refine gR ?_
  refine RW.own (args := #[pB x, .agg (xK X 0 Aa ca).toArray, .slice pA ps.length pc]) (C2 := [.blk b4 69 (exC X (.slice vA X.Kids.length vc))]) [1, 0] (by decide) rfl rfl oK rfl rfl (fun w1 hw1 => hK (i := 0) (by omega) (hu) hra hw1) (fun er CE w2 he hk hw => evR.pn (by rw [← hev]; exact Mn.bnd_err he) hk hw) ?_
  rintro ⟨va, ua⟩ _ hr
  rw [Mn.bnd_ok hr] at hev
  have hIa := hI (by omega) hr
  simp only at hIa ⊢
  refine gR ?_
  refine AW.cond rfl (fun hc => ?_) fun hc => ?_
  ·
   have hc : va ≠ 0 := by simpa using hc
   rw [if_pos hc] at hev
   obtain ⟨Ab, cb, hpb, hrb⟩ := kidV hv (i := 1) (by omega)
   change PCells Φ _ (xK X 1 Ab cb) at hpb
   change RepSl Φ (Mn.kid X 1).Kids (.slice Ab (Mn.kid X 1).Kids.length cb) at hrb
   refine gR ?_
   refine RW.q (v := .pointer (some (Value.at (.slice vA X.Kids.length vc) (1 * 5)))) rfl (qa_ixL (n := X.Kids.length) (i := 1) rfl rfl hvs (by omega)) (RW.q (v := .agg (xK X 1 Ab cb).toArray) rfl (qa_ldA (cs := xK X 1 Ab cb) rfl (Cells.phi hpb) rfl) ?_)
   refine gR ?_
   refine RW.own (args := #[pB x, .agg (xK X 1 Ab cb).toArray, .slice pA ps.length pc]) (C2 := [.blk b4 69 (exC X (.slice vA X.Kids.length vc))]) [0, 1] (by decide) rfl rfl oK rfl rfl (fun w1 hw1 => hK (i := 1) (by omega) (by omega) hrb hw1) (fun er CE w2 he hk hw => evR.pn (hev.symm.trans he) hk hw) ?_
   rintro ⟨vb, ub⟩ _ hr
   simp only
   refine gR ?_
   exact fin_res (vs := [iV (vb)]) rfl rfl ⟨.tmp rfl, trivial⟩ rfl (fun w1 hw1 => evR.ok (hev.symm.trans hr) hw1)
  have hc : va = 0 := by simpa using hc
  rw [if_neg (by omega)] at hev
  obtain ⟨Ab, cb, hpb, hrb⟩ := kidV hv (i := 2) (by omega)
  change PCells Φ _ (exC (Mn.kid X 2) (.slice Ab (Mn.kid X 2).Kids.length cb)) at hpb
  change RepSl Φ (Mn.kid X 2).Kids (.slice Ab (Mn.kid X 2).Kids.length cb) at hrb
  refine gR ?_
  refine RW.q (v := .pointer (some (Value.at (.slice vA X.Kids.length vc) (2 * 5)))) rfl (qa_ixL (n := X.Kids.length) (i := 2) rfl rfl hvs (by omega)) (RW.q (v := .agg (exC (Mn.kid X 2) (.slice Ab (Mn.kid X 2).Kids.length cb)).toArray) rfl (qa_ldA (cs := exC (Mn.kid X 2) (.slice Ab (Mn.kid X 2).Kids.length cb)) rfl (Cells.phi hpb) rfl) ?_)
  refine gR ?_
  refine RW.own (args := #[pB x, .agg (exC (Mn.kid X 2) (.slice Ab (Mn.kid X 2).Kids.length cb)).toArray, .slice pA ps.length pc]) (C2 := [.blk b4 69 (exC X (.slice vA X.Kids.length vc))]) [0, 1] (by decide) rfl rfl oK rfl rfl (fun w1 hw1 => hK (i := 2) (by omega) (by omega) hrb hw1) (fun er CE w2 he hk hw => evR.pn (hev.symm.trans he) hk hw) ?_
  rintro ⟨vb, ub⟩ _ hr
  simp only
  refine gR ?_
  exact fin_res (vs := [iV (vb)]) rfl rfl ⟨.tmp rfl, trivial⟩ rfl (fun w1 hw1 => evR.ok (hev.symm.trans hr) hw1)
 have n13 : X.Kind ≠ 13 := odF n13
 rw [if_neg n13] at hev
 refine gR ?_
 refine AW.cond rfl (fun h => ?_) fun n14 => ?_
 ·
  have h : X.Kind = 14 := odT h
  rw [if_pos h] at hev
  have hev2 : Mn.ev fs f y.d (g + 1) c X ps u = res := by rw [Mn.ev, if_neg n0, if_neg n15, if_neg n1, if_neg n2, if_neg n3, if_neg n11, if_neg n12, if_neg n13, if_pos h]; exact hev
  refine gR ?_
  refine RW.own (args := #[pB x, .agg (exC X (.slice vA X.Kids.length vc)).toArray, .slice pA ps.length pc]) (C2 := [.blk b4 69 (exC X (.slice vA X.Kids.length vc))]) [1, 0] (by decide) rfl rfl oK rfl rfl (fun w1 hw1 => hcall Φ X _ w1 j ts ps _ u c hC hv h hj hlen hpv hu hc0 hc1 hlim hw1) (fun er CE w2 he hk hw => evR.pn (hev2.symm.trans he) hk hw) ?_
  rintro ⟨vb, ub⟩ _ hr
  simp only
  refine gR ?_
  exact fin_res (vs := [iV (vb)]) rfl rfl ⟨.tmp rfl, trivial⟩ rfl (fun w1 hw1 => evR.ok (hev2.symm.trans hr) hw1)
 have n14 : X.Kind ≠ 14 := odF n14
 rw [if_neg n14] at hev
 refine gR ?_
 have hl := hn.a2 n0 n1 n2 n3 n13 n14 n15
 obtain ⟨Aa, ca, hpa, hra⟩ := kidV hv (i := 0) (by omega)
 change PCells Φ _ (xK X 0 Aa ca) at hpa
 change RepSl Φ (Mn.kid X 0).Kids (.slice Aa (Mn.kid X 0).Kids.length ca) at hra
 refine gR ?_
 refine RW.q (v := .pointer (some (Value.at (.slice vA X.Kids.length vc) (0 * 5)))) rfl (qa_ixL (n := X.Kids.length) (i := 0) rfl rfl hvs (by omega)) (RW.q (v := .agg (xK X 0 Aa ca).toArray) rfl (qa_ldA (cs := xK X 0 Aa ca) rfl (Cells.phi hpa) rfl) ?_)
 refine gR ?_
 refine RW.own (args := #[pB x, .agg (xK X 0 Aa ca).toArray, .slice pA ps.length pc]) (C2 := [.blk b4 69 (exC X (.slice vA X.Kids.length vc))]) [1, 0] (by decide) rfl rfl oK rfl rfl (fun w1 hw1 => hK (i := 0) (by omega) (hu) hra hw1) (fun er CE w2 he hk hw => evR.pn (by rw [← hev]; exact Mn.bnd_err he) hk hw) ?_
 rintro ⟨va, ua⟩ _ hr
 rw [Mn.bnd_ok hr] at hev
 have hIa := hI (by omega) hr
 simp only at hIa ⊢
 refine gR ?_
 obtain ⟨Ab, cb, hpb, hrb⟩ := kidV hv (i := 1) (by omega)
 change PCells Φ _ (xK X 1 Ab cb) at hpb
 change RepSl Φ (Mn.kid X 1).Kids (.slice Ab (Mn.kid X 1).Kids.length cb) at hrb
 refine AW.draw (J0 := St ⟨w, Φ, fps [rB x y u c]⟩ Φ [.blk b4 69 (exC X (.slice vA X.Kids.length vc))]) (tq9 [.e, .e, .q]) od12 hmix (by kernel_rfl) ?_
 refine gR ?_
 refine DW.q (v := .pointer (some (Value.at (.slice vA X.Kids.length vc) (1 * 5)))) (fun _ h => St.one 1 rfl h) rfl (qa_ixL (n := X.Kids.length) (i := 1) rfl rfl hvs (by omega)) (DW.q (v := .agg (xK X 1 Ab cb).toArray) (fun _ h => St.one 1 rfl h) rfl (qa_ldA (cs := xK X 1 Ab cb) rfl (Cells.phi hpb) rfl) ?_)
 refine gR ?_
 refine DW.own (args := #[pB x, .agg (xK X 1 Ab cb).toArray, .slice pA ps.length pc]) (C2 := [.blk b4 69 (exC X (.slice vA X.Kids.length vc))]) [0, 1] (by decide) rfl rfl oK rfl rfl (fun w1 hw1 => hK (i := 1) (by omega) (by omega) hrb hw1) (fun er CE w2 he hk hw => evR.pn (by rw [← hev]; exact Mn.bnd_err he) hk hw) (fun _ _ _ h => St.one 1 rfl h) ?_
 rintro ⟨vb, ub⟩ _ hr
 rw [Mn.bnd_ok hr] at hev
 have hIb := hI (by omega) hr
 simp only at hIb ⊢
 refine gR ?_
 refine DW.own (args := #[iV X.Kind, iV va, iV vb]) (A := []) (C2 := [rB x y ub c, .blk b4 69 (exC X (.slice vA X.Kids.length vc))]) [0, 1] (by decide) rfl rfl oK rfl rfl (fun w1 hw1 => operate_c w1 hw1.phi hIa.1 hIb.1) (fun er CE w2 he hk hw => ?_) (fun _ _ _ h => St.one 1 rfl h) ?_
 ·
  obtain rfl := hk
  exact evR.pn (er := (er, ub)) (CE := [rB x y ub c]) (by rw [← hev, he]) ⟨c, rfl⟩ hw
 rintro vo _ hr2
 rw [hr2] at hev
 refine gR ?_
 exact fin_res (vs := [iV (vo)]) rfl rfl ⟨.tmp rfl, trivial⟩ rfl (fun w1 hw1 => evR.ok hev.symm hw1)
end
theorem evR.less {w w' : World} {Φ Ψ : Hp} {x : Nat} {y : RnV} {u c v u' : Int} {res : Mn.R Int} (h : res = .ok (v, u')) {C : List Chunk} (hl : Hp.le Φ Ψ) (hw : StP ⟨w, Φ, fps [rB x y u c]⟩ Ψ (rB x y u' c :: C) w') : evR w Φ x y u c res (.returned (iV v)) w' := evR.ok h (StP.less hw hl)
theorem funV {Φ : Hp} {xs : List Bt.RFunc} {v : Value} (h : RepSl Φ xs v) {i : Nat} (hi : i < xs.length) : ∃ A c, PCells Φ (Value.at v (i * 8 + 3)) (exC (xs.getD i default).Body (.slice A (xs.getD i default).Body.Kids.length c)) ∧ RepSl Φ (xs.getD i default).Body.Kids (.slice A (xs.getD i default).Body.Kids.length c) := by
 obtain ⟨cs, h1, h2⟩ := h.at_ i hi
 obtain ⟨pv, kv, rfl, _, _, _, h3, h4⟩ := h1
 obtain ⟨A, c, rfl, _⟩ := h4.sl
 have he : xs[i] = xs.getD i default := by rw [gDD, List.getElem?_eq_getElem hi]; rfl
 rw [he] at h2 h4
 refine ⟨A, c, fun q u hq => ?_, h4⟩
 rw [at_add, Nat.add_assoc]
 refine h2 (3 + q) u ?_
 rw [Nat.add_comm 3 q]
 exact hq
section
variable {e : Ru.Env} {fs : List Bt.RFunc} {f : Bt.Facts} {x : Nat} {y : RnV}
theorem mcall_of {g : Nat} (ih : EvOK e fs f x y g) (Φ : Hp) (X : Bt.Expr) (v : Value) (w : World) (j : Nat) (ts ps : List Int) (pv : Value) (u c : Int) (hC : ECtx Φ e fs f y) (hv : RepSl Φ X.Kids v) (hk14 : X.Kind = 14) (hj : (Ru.jx e fs ts (j + 1) X).2 = true) (hlen : ps.length = ts.length) (hpv : RepSl Φ ps pv) (hu : 0 ≤ u) (hc0 : 0 ≤ c) (hc1 : c ≤ 100) (hlim : (j : Int) + 41 * (101 - c) ≤ g)
  (h0 : StP ⟨w, Φ, fps [rB x y u c]⟩ Φ [rB x y u c] w) : Calls pg 50 #[pB x, .agg (exC X v).toArray, pv] w (evR w Φ x y u c (Mn.ev fs f y.d (g + 1) c X ps u)) := by
 have hn := Ru.jx_node hj
 have hkj := Ru.jx_kid hj
 have hpi := hpv.i64
 have hI : ∀ z ∈ X.Kids, ∀ u v u', Mn.ev fs f y.d g c z ps u = .ok (v, u') → I64 v ∧ u ≤ u' := fun z hz u v u' h => Mn.ev_rng hC.J hC.F g (hkj z hz) hlen hpi h
 obtain ⟨h14a, h14b, h14c⟩ := hn.k14 hk14
 obtain ⟨m, hm⟩ : ∃ m : Nat, X.N = m := ⟨X.N.toNat, by omega⟩
 rw [hm, Int.toNat_natCast] at h14c
 have hml : m < fs.length := by omega
 have hxm := hv.max
 have hxb : X.Kids.length * 56 ≤ maxSl := hxm
 simp only [maxSl] at hxb
 obtain ⟨vA, vc, rfl, _⟩ := hv.sl
 have hvs := hv.sl
 have hfs := hC.rf.sl
 have hev : Mn.ev fs f y.d (g + 1) c X ps u = Mn.bnd (Mn.evs (fun z u => Mn.ev fs f y.d g c z ps u) X.Kids u) fun vs u => if 10000 ≤ u then .error (14, u) else if 100 ≤ c then .error (8, u + 1) else Mn.ev fs f y.d g (c + 1) (fs.getD m default).Body vs (u + 1) := by
  rw [Mn.ev, if_neg (by omega), if_neg (by omega), if_neg (by omega), if_neg (by omega), if_neg (by omega), if_neg (by omega), if_neg (by omega), if_neg (by omega), if_pos hk14, hm, Int.toNat_natCast]
 generalize hres : Mn.ev fs f y.d (g + 1) c X ps u = res
 rw [hres] at hev
 refine calls_of_AW (args := [pB x, .agg (exC X (.slice vA X.Kids.length vc)).toArray, pv]) Tryz.func50 rfl (lBT rfl) (St ⟨w, Φ, fps [rB x y u c]⟩ Φ [rB x y u c]) h0 ?_
 show AW _ _ [] _ _ _ [(0, pB x), (1, .agg (exC X (.slice vA X.Kids.length vc)).toArray), (2, pv)] _
 refine gR ?_
 refine RW.bxA (cs := exC X (.slice vA X.Kids.length vc)) rfl rfl fun b4 => ?_
 refine gR ?_
 refine RW.eff _ _ rfl (e_makeSlice (l := 0) (c := X.Kids.length) (n := 0) (xs := []) rfl rfl uT29 inf3 (by omega) (by omega) (by omega) rfl rfl) fun bk => ?_
 refine gR ?_
 refine AW.loop (fun s J q => ∃ (i : Nat) (vals : List Int) (u1 : Int) (kv : Value), s = [(0, pB x), (2, pv), (4, pB b4), (7, kv), (16, .slice vA X.Kids.length vc), (17, iV (X.Kids.length : Int)), (18, iV (i : Int))] ∧ J = St ⟨w, Φ, fps [rB x y u c]⟩ Φ [.row kv 3 1 i (vals.map (Value.int .i64)), .blk b4 69 (exC X (.slice vA X.Kids.length vc)), rB x y u1 c] ∧ q = X.Kids.length - i ∧ i ≤ X.Kids.length ∧ IsSl kv i ∧ Mn.evs (fun z u => Mn.ev fs f y.d g c z ps u) (X.Kids.take i) u = .ok (vals, u1)) (s0 := [(0, pB x), (2, pv), (4, pB b4), (7, .slice (some ⟨bk, 0, none⟩) 0 X.Kids.length), (16, .slice vA X.Kids.length vc), (17, iV (X.Kids.length : Int)), (18, iV ((0 : Nat) : Int))]) (J1 := _) (m0 := _) ⟨0, [], u, .slice (some ⟨bk, 0, none⟩) 0 X.Kids.length, rfl, rfl, rfl, Nat.zero_le _, isSl_mk (Nat.zero_le _), rfl⟩ ⟨rfl, rfl, rfl, rfl, rfl, rfl, rfl, trivial⟩ (fun _ h => h) ?_
 rintro _ _ _ _ ⟨i, vals, u1, kv, rfl, rfl, rfl, hi, hkv, he1⟩
 obtain ⟨r1, r2, r3⟩ := Mn.evs_rng (fun z hz => hI z (List.mem_of_mem_take hz)) he1
 rw [List.length_take, Nat.min_eq_left hi] at r1
 obtain ⟨kA, kc, rfl, _⟩ := hkv
 refine gR ?_
 refine AW.cond rfl (fun h => ?_) fun h => ?_
 ·
  have h : i < X.Kids.length := by have := odT h; omega
  obtain ⟨Aa, ca, hpa, hra⟩ := kidV hv (i := i) h
  change PCells Φ _ (exC (Mn.kid X i) (.slice Aa (Mn.kid X i).Kids.length ca)) at hpa
  change RepSl Φ (Mn.kid X i).Kids (.slice Aa (Mn.kid X i).Kids.length ca) at hra
  have htk : X.Kids.take (i + 1) = X.Kids.take i ++ [Mn.kid X i] := by rw [Ru.take_snoc h, Mn.kid_get h]
  have hall : ∀ er, Mn.ev fs f y.d g c (Mn.kid X i) ps u1 = .error er → res = .error er := fun er hr => by
   have hsp : X.Kids = X.Kids.take i ++ (Mn.kid X i :: X.Kids.drop (i + 1)) := by rw [Mn.kid_get h, ← List.drop_eq_getElem_cons h, List.take_append_drop]
   rw [hev, hsp, Mn.evs_app, Mn.bnd_ok he1]
   simp only [Mn.evs, hr]; rfl
  refine gR ?_
  refine RW.alc rfl fun b9 => ?_
  refine gR ?_
  refine RW.own (args := #[pB x, .agg (exC (Mn.kid X i) (.slice Aa (Mn.kid X i).Kids.length ca)).toArray, pv]) (C2 := [.blk b9 69 (exC (Mn.kid X i) (.slice Aa (Mn.kid X i).Kids.length ca)), .row (.slice kA i kc) 3 1 i (vals.map (Value.int .i64)), .blk b4 69 (exC X (.slice vA X.Kids.length vc))]) [3, 0, 1, 2] (by decide) rfl rfl oK rfl rfl (fun w1 hw1 => ih Φ _ _ _ j ts ps pv _ c hC hra (hkj _ (Mn.kid_mem h)) hlen hpv (by omega) hc0 hc1 hlim hw1) (fun er CE w2 he hk hw => evR.pn (hall er he) hk hw) ?_
  rintro ⟨va, u2⟩ _ hr
  have hIa := hI _ (Mn.kid_mem h) _ _ _ hr
  simp only
  refine gR ?_
  refine RW.eff _ _ rfl (e_buildSlice (vals := [(0, iV va)]) (cells := [iV va]) uT29 inf3 rfl rfl rfl (by kernel_rfl) rfl) fun b8 => ?_
  refine gR ?_
  refine RW.eff (fun xv : {vq : Value // IsSl vq (i + 1)} => xv.1) (fun xv => St ⟨w, Φ, fps [rB x y u c]⟩ Φ [.row (.slice (some ⟨b8, 0, none⟩) 1 1) 3 1 1 [iV va], rB x y u2 c, .blk b9 69 (exC (Mn.kid X i) (.slice Aa (Mn.kid X i).Kids.length ca)), .row xv.1 3 1 (i + 1) (vals.map (Value.int .i64) ++ [iV va]), .blk b4 69 (exC X (.slice vA X.Kids.length vc))]) rfl (e_append 3 rfl rfl rfl uT29 inf3 rfl rfl rfl (Cells.row0 0 rfl) rfl (by omega) (by omega) (fun _ => rfl)) ?_
  rintro ⟨kv2, hkv2⟩
  simp only
  refine gR ?_
  exact Post.back (s' := _) (J' := _) (m' := _) (by omega) ⟨i + 1, vals ++ [va], u2, kv2, rfl, rfl, rfl, by omega, hkv2, by rw [htk, Mn.evs_app, Mn.bnd_ok he1]; simp only [Mn.evs, hr]; rfl⟩ ⟨rfl, rfl, rfl, rfl, rfl, rfl, rfl, trivial⟩ (fun _ h => by rw [List.map_append]; exact StP.sel h [3, 4, 1] (by decide) rfl)
 ·
  have h : i = X.Kids.length := by have := odF h; omega
  subst h
  rw [List.take_length] at he1
  rw [Mn.bnd_ok he1] at hev
  refine gR ?_
  refine RW.own (args := #[pB x]) (C2 := [.row (.slice kA X.Kids.length kc) 3 1 X.Kids.length (vals.map (Value.int .i64)), .blk b4 69 (exC X (.slice vA X.Kids.length vc))]) [2, 0, 1] (by decide) rfl rfl oK rfl rfl (fun w1 hw1 => step_c w1 (by omega) hw1) (fun er CE w2 he hk hw => ?_) ?_
  ·
   by_cases h : 10000 ≤ u1
   ·
    rw [if_pos h] at he hev
    cases he
    exact evR.pn hev hk hw
   ·
    rw [if_neg h] at he; cases he
  intro u2 _ hr
  by_cases hu1 : 10000 ≤ u1
  ·
   rw [if_pos hu1] at hr; cases hr
  rw [if_neg hu1] at hr hev
  cases hr
  refine RW.wk (J' := St ⟨w, Φ, fps [rB x y u c]⟩ Φ [.row (.slice kA X.Kids.length kc) 3 1 X.Kids.length (vals.map (Value.int .i64)), rB x y (u1 + 1) c, .blk b4 69 (exC X (.slice vA X.Kids.length vc))]) (fun _ h => StP.sel h [1, 0, 2] (by decide) rfl) (RW.frzX (fun b hb => ⟨_, List.mem_cons_self .., hb⟩) fun Φ1 hl1 hs1 => ?_)
  have hvr : RepSl Φ1 vals (.slice kA X.Kids.length kc) := RowS.ints (T := 3) hs1 (by simp only [maxSl]; omega) r2
  have hC1 := hC.mono hl1
  obtain ⟨Ab, cb, hpb, hrb⟩ := funV hC1.rf hml
  refine gR ?_
  refine AW.cond rfl (fun h => ?_) fun h => ?_
  ·
   have h : 100 ≤ c := odT h
   rw [if_pos h] at hev
   refine gR ?_
   refine RW.q (v := .agg #[iV 8]) rfl (q_build (vals := [(0, iV 8)]) zero83 uT83 places83 rfl rfl) ?_
   refine gR ?_
   exact RW.pan rfl (fun w' hw => evR.pn (er := (8, u1 + 1)) (CE := [rB x y (u1 + 1) c]) hev ⟨c, rfl⟩ (StP.less hw hl1))
  have h : ¬ 100 ≤ c := odF h
  rw [if_neg h] at hev
  have hmf : fs.getD m default ∈ fs := by
   rw [gDD, List.getElem?_eq_getElem hml]
   exact List.getElem_mem _
  refine gR ?_
  have hpre : ∀ (u c : Int) (j : Nat) (v : Value), [y.rf][j]? = some v → (y.cs u c)[j]? = some v := fun u c j v hj => by
   cases j with
   | zero => exact hj
   | succ j => cases hj
  have hJ0 : ∀ w1, (St ⟨w, Φ, fps [rB x y u c]⟩ Φ1 [rB x y (u1 + 1) (c + 1), .blk b4 69 (exC X (.slice vA X.Kids.length vc))]).p w1 → (St ⟨w, Φ, fps [rB x y u c]⟩ Φ1 [.pre x 79 [y.rf], .blk b4 69 (exC X (.slice vA X.Kids.length vc))]).p w1 := fun w1 h => StP.toPre h (hpre _ _)
  refine AW.drawZ (J0 := St ⟨w, Φ, fps [rB x y u c]⟩ Φ1 [.pre x 79 [y.rf], .blk b4 69 (exC X (.slice vA X.Kids.length vc))]) (tq12 [.e, .q]) od14 hmix (by kernel_rfl) ?_
  refine gR ?_
  refine DW.q (v := .pointer (some (Value.at y.rf (m * 8)))) hJ0 rfl (qa_ixN (n := fs.length) (i := m) rfl (by show Value.int .i64 X.N = _; rw [hm]) hfs hml) ?_
  refine gR ?_
  refine DW.own (args := #[pB x, .agg (exC (fs.getD m default).Body (.slice Ab (fs.getD m default).Body.Kids.length cb)).toArray, .slice kA X.Kids.length kc]) (C2 := [.blk b4 69 (exC X (.slice vA X.Kids.length vc))]) [0, 1] (by decide) rfl rfl oK rfl rfl (fun w1 hw1 => ih Φ1 _ _ _ 40 (fs.getD m default).Params vals _ (u1 + 1) (c + 1) hC1 hrb (hC.J _ hmf) (by omega) hvr (by omega) (by omega) (by omega) (by omega) hw1) (fun er CE w2 he hk hw => evR.pn (hev.trans he) hk (StP.less hw hl1)) (fun _ _ _ h => StP.toPre h (hpre _ _)) ?_
  rintro ⟨va, u2⟩ _ hr
  simp only
  refine DW.q (v := iV va) (fun _ h => StP.toPre h (hpre _ _)) rfl (qa_as rfl) ?_
  refine gR ?_
  exact fin_res (vs := [iV va]) rfl rfl ⟨.tmp rfl, trivial⟩ rfl (fun w1 hw1 => evR.less (hev.trans hr) hl1 (by have h := hw1; simp only [Int.add_sub_cancel] at h; exact h))
theorem eval_c : ∀ g, EvOK e fs f x y g
 | 0 => fun Φ X v w j ts ps pv u c hC hv hj hlen hpv hu hc0 hc1 hg h0 => by omega
 | g + 1 => eval_of (eval_c g) (mcall_of (eval_c g))
end
end Go.Proofs.YtnfmjfheciihjaaGreatDoor
