/- Lemmas. Conditions: those of each theorem. -/
import Derived.Test.YtnfmjfheciihjaaGreatDoorYRdD
set_option maxRecDepth 8000
set_option maxHeartbeats 16000000
namespace Go.Proofs.YtnfmjfheciihjaaGreatDoor
open Go Go.K Go.RowKit
open Ru (tr pB nC wfH wfK tr_fin0 tr_fin1 tr_fin2 tr_fin3 tr_at tr_wf tr_join1 tr_join2)
attribute [local irreducible] AW RW DW Post Qt
theorem relation_c (w : World) (Φ : Hp) {op : List UInt8} {x y : Bt.Nd} {bx by_ : Nat} {Fx Fy : List Nat} (h0 : StP ⟨w, Φ, fps [tr x bx Fx, tr y by_ Fy]⟩ Φ [tr x bx Fx, tr y by_ Fy] w) :
  Calls pg 143 #[.string (bs op), pB bx, pB by_] w (OwnK w Φ [tr x bx Fx, tr y by_ Fy] (.ok (Ru.rel op x y)) (fun _ (y : Nat × List Nat) => pB y.1) (fun x y => [tr x y.1 y.2]) pE (fun _ _ => False)) := by
 refine calls_of_AW (args := [.string (bs op), pB bx, pB by_]) Tryz.func143 rfl (lBT rfl) (St ⟨w, Φ, fps [tr x bx Fx, tr y by_ Fy]⟩ Φ [tr x bx Fx, tr y by_ Fy]) h0 ?_
 show AW _ _ [] _ _ _ [(0, .string (bs op)), (1, pB bx), (2, pB by_)] _
 obtain ⟨_, _, _, _, hat, _, _⟩ := tr_wf 0 rfl h0
 refine gP ?_
 refine RW.q rfl (qa_ld rfl (tr_at 0 rfl)) ?_
 refine gP ?_
 refine RW.eff _ _ rfl (e_buildSlice (vals := [(0, pB bx), (1, pB by_)]) (cells := [pB bx, pB by_]) uT142 inf145 rfl rfl rfl (by kernel_rfl) rfl) fun bk => ?_
 refine gP ?_
 refine RW.q (v := .agg (nC 10 0 0 0 x.At default default (.slice (some ⟨bk, 0, none⟩) 2 2)).toArray) rfl (q_build (vals := [(0, iV 10), (4, iV x.At), (7, .slice (some ⟨bk, 0, none⟩) 2 2)]) zero153 uT153 places153 rfl rfl) ?_
 refine RW.bxA (cs := nC 10 0 0 0 x.At default default (.slice (some ⟨bk, 0, none⟩) 2 2)) rfl rfl fun bn => ?_
 refine gP ?_
 refine RW.q (v := .bool (decide (op = Ru.sLt))) rfl (q_eqlStr rfl rfl) ?_
 refine gP ?_
 refine AW.cond rfl (fun h0 => ?_) fun h0 => ?_
 ·
  have h0 : op = Ru.sLt := by simpa using h0
  have hf : Ru.rel op x y = Ru.nd 8 x.At [x, y] := by unfold Ru.rel; rw [if_pos h0]
  refine gP ?_
  refine fin_res (vs := [pB bn]) rfl rfl ⟨.tmp rfl, trivial⟩ rfl (fun w1 hw1 => ?_)
  obtain ⟨F, hF⟩ := tr_join2 (k := 8) (n := 0) (o := 0) (q := 0) (a := x.At) (nm := default) (ow := default) (x := x) (y := y) (b := bn) (C := []) (wfH_0 (by omega) (by omega) hat) (hw1.sel [0, 1, 2, 3] (by decide) rfl)
  exact .inl ⟨Ru.rel op x y, (bn, F), rfl, rfl, by rw [hf]; exact hF⟩
 have h0 : ¬ op = Ru.sLt := by simpa using h0
 refine gP ?_
 refine RW.q (v := .bool (decide (op = Ru.sLe))) rfl (q_eqlStr rfl rfl) ?_
 refine gP ?_
 refine AW.cond rfl (fun h1 => ?_) fun h1 => ?_
 ·
  have h1 : op = Ru.sLe := by simpa using h1
  have hf : Ru.rel op x y = Ru.nd 9 x.At [x, y] := by unfold Ru.rel; rw [if_neg h0, if_pos h1]
  refine gP ?_
  refine fin_res (vs := [pB bn]) rfl rfl ⟨.tmp rfl, trivial⟩ rfl (fun w1 hw1 => ?_)
  obtain ⟨F, hF⟩ := tr_join2 (k := 9) (n := 0) (o := 0) (q := 0) (a := x.At) (nm := default) (ow := default) (x := x) (y := y) (b := bn) (C := []) (wfH_0 (by omega) (by omega) hat) (hw1.sel [0, 1, 2, 3] (by decide) rfl)
  exact .inl ⟨Ru.rel op x y, (bn, F), rfl, rfl, by rw [hf]; exact hF⟩
 have h1 : ¬ op = Ru.sLe := by simpa using h1
 refine gP ?_
 refine RW.q (v := .bool (decide (op = Ru.sGt))) rfl (q_eqlStr rfl rfl) ?_
 refine gP ?_
 refine AW.cond rfl (fun h2 => ?_) fun h2 => ?_
 ·
  have h2 : op = Ru.sGt := by simpa using h2
  have hf : Ru.rel op x y = Ru.nd 8 x.At [y, x] := by unfold Ru.rel; rw [if_neg h0, if_neg h1, if_pos h2]
  refine gP ?_
  refine RW.eff _ _ rfl (e_buildSlice (vals := [(0, pB by_), (1, pB bx)]) (cells := [pB by_, pB bx]) uT142 inf145 rfl rfl rfl (by kernel_rfl) rfl) fun bk2 => ?_
  refine gP ?_
  refine fin_res (vs := [pB bn]) rfl rfl ⟨.tmp rfl, trivial⟩ rfl (fun w1 hw1 => ?_)
  obtain ⟨F, hF⟩ := tr_join2 (k := 8) (n := 0) (o := 0) (q := 0) (a := x.At) (nm := default) (ow := default) (x := y) (y := x) (b := bn) (C := []) (wfH_0 (by omega) (by omega) hat) (hw1.sel [1, 0, 4, 3] (by decide) rfl)
  exact .inl ⟨Ru.rel op x y, (bn, F), rfl, rfl, by rw [hf]; exact hF⟩
 have h2 : ¬ op = Ru.sGt := by simpa using h2
 refine gP ?_
 refine RW.q (v := .bool (decide (op = Ru.sGe))) rfl (q_eqlStr rfl rfl) ?_
 refine gP ?_
 refine AW.cond rfl (fun h3 => ?_) fun h3 => ?_
 ·
  have h3 : op = Ru.sGe := by simpa using h3
  have hf : Ru.rel op x y = Ru.nd 9 x.At [y, x] := by unfold Ru.rel; rw [if_neg h0, if_neg h1, if_neg h2, if_pos h3]
  refine gP ?_
  refine RW.eff _ _ rfl (e_buildSlice (vals := [(0, pB by_), (1, pB bx)]) (cells := [pB by_, pB bx]) uT142 inf145 rfl rfl rfl (by kernel_rfl) rfl) fun bk2 => ?_
  refine gP ?_
  refine fin_res (vs := [pB bn]) rfl rfl ⟨.tmp rfl, trivial⟩ rfl (fun w1 hw1 => ?_)
  obtain ⟨F, hF⟩ := tr_join2 (k := 9) (n := 0) (o := 0) (q := 0) (a := x.At) (nm := default) (ow := default) (x := y) (y := x) (b := bn) (C := []) (wfH_0 (by omega) (by omega) hat) (hw1.sel [1, 0, 4, 3] (by decide) rfl)
  exact .inl ⟨Ru.rel op x y, (bn, F), rfl, rfl, by rw [hf]; exact hF⟩
 have h3 : ¬ op = Ru.sGe := by simpa using h3
 refine gP ?_
 refine RW.q (v := .bool (decide (op = Ru.sNe))) rfl (q_eqlStr rfl rfl) ?_
 refine gP ?_
 refine AW.cond rfl (fun h4 => ?_) fun h4 => ?_
 ·
  have h4 : op = Ru.sNe := by simpa using h4
  have hf : Ru.rel op x y = Ru.nd 3 x.At [Ru.nd 10 x.At [x, y]] := by unfold Ru.rel; rw [if_neg h0, if_neg h1, if_neg h2, if_neg h3, if_pos h4]
  refine gP ?_
  refine RW.q rfl (qa_ld rfl (tr_at 2 rfl)) ?_
  refine gP ?_
  refine RW.eff _ _ rfl (e_buildSlice (vals := [(0, pB bn)]) (cells := [pB bn]) uT142 inf145 rfl rfl rfl (by kernel_rfl) rfl) fun bk2 => ?_
  refine gP ?_
  refine RW.q (v := .agg (nC 3 0 0 0 x.At default default (.slice (some ⟨bk2, 0, none⟩) 1 1)).toArray) rfl (q_build (vals := [(0, iV 3), (4, iV x.At), (7, .slice (some ⟨bk2, 0, none⟩) 1 1)]) zero153 uT153 places153 rfl rfl) ?_
  refine RW.bxA (cs := nC 3 0 0 0 x.At default default (.slice (some ⟨bk2, 0, none⟩) 1 1)) rfl rfl fun bn2 => ?_
  refine gP ?_
  refine fin_res (vs := [pB bn2]) rfl rfl ⟨.tmp rfl, trivial⟩ rfl (fun w1 hw1 => ?_)
  obtain ⟨F1, hF1⟩ := tr_join2 (k := 10) (n := 0) (o := 0) (q := 0) (a := x.At) (nm := default) (ow := default) (x := x) (y := y) (b := bn) (C := [.blk bn2 153 (nC 3 0 0 0 x.At default default (.slice (some ⟨bk2, 0, none⟩) 1 1)), .row (.slice (some ⟨bk2, 0, none⟩) 1 1) 145 1 1 [pB bn]]) (wfH_0 (by omega) (by omega) hat) (hw1.sel [2, 3, 4, 5, 0, 1] (by decide) rfl)
  obtain ⟨F, hF⟩ := tr_join1 (k := 3) (n := 0) (o := 0) (q := 0) (a := x.At) (nm := default) (ow := default) (b := bn2) (b1 := bn) (C := []) (wfH_0 (by omega) (by omega) hat) (hF1.sel [1, 2, 0] (by decide) rfl)
  exact .inl ⟨Ru.rel op x y, (bn2, F), rfl, rfl, by rw [hf]; exact hF⟩
 have h4 : ¬ op = Ru.sNe := by simpa using h4
 refine gP ?_
 have hf : Ru.rel op x y = Ru.nd 10 x.At [x, y] := by unfold Ru.rel; rw [if_neg h0, if_neg h1, if_neg h2, if_neg h3, if_neg h4]
 refine fin_res (vs := [pB bn]) rfl rfl ⟨.tmp rfl, trivial⟩ rfl (fun w1 hw1 => ?_)
 obtain ⟨F, hF⟩ := tr_join2 (k := 10) (n := 0) (o := 0) (q := 0) (a := x.At) (nm := default) (ow := default) (x := x) (y := y) (b := bn) (C := []) (wfH_0 (by omega) (by omega) hat) (hw1.sel [0, 1, 2, 3] (by decide) rfl)
 exact .inl ⟨Ru.rel op x y, (bn, F), rfl, rfl, by rw [hf]; exact hF⟩
def lvT (n i : Nat) : List UInt8 := [Ru.sOr, Ru.sOr, Ru.sAnd, Ru.sAnd, Ru.sPlus, Ru.sMinus, Ru.sStar, Ru.sSlash].getD (2 * n + i) []
def lvK (n i : Nat) : Int := [12, 12, 11, 11, 4, 5, 6, 7].getD (2 * n + i) 0
abbrev lvC (n : Nat) : List Value := [.string (bs (lvT n 0)), iV (lvK n 0), .string (bs (lvT n 1)), iV (lvK n 1)]
theorem lv_cells {B : Bs} {Φ : Hp} {C : List Chunk} (h : Knows Φ Glob) {n : Nat} (hn : n < 4) : Cells (St B Φ C) ⟨1, n * 4, none⟩ (lvC n) := fun j v hv w hw => by
 have e : (⟨1, n * 4, none⟩ : Addr).add j = ⟨1, n * 4 + j, none⟩ := by simp only [Addr.add]; split <;> simp_all
 rw [e]
 refine (h w hw.phi).2.1 _ v ?_
 have hj : j < 4 := (List.getElem?_eq_some_iff.1 hv).1
 rw [← hv]
 match n, hn, j, hj with
 | 0, _, 0, _ | 0, _, 1, _ | 0, _, 2, _ | 0, _, 3, _ | 1, _, 0, _ | 1, _, 1, _ | 1, _, 2, _ | 1, _, 3, _ | 2, _, 0, _ | 2, _, 1, _ | 2, _, 2, _ | 2, _, 3, _ | 3, _, 0, _ | 3, _, 1, _ | 3, _, 2, _ | 3, _, 3, _ => rfl
theorem opOf_lv {n : Nat} (hn : n < 4) (ts : List Bt.Token) : Ru.opOf n ts = if Ru.isT (lvT n 0) ts = true then some (lvK n 0) else if Ru.isT (lvT n 1) ts = true then some (lvK n 1) else none := by
 match n, hn with
 | 0, _ | 1, _ => unfold Ru.opOf; simp only [lvT, lvK, gDD, List.getElem?_cons_zero, List.getElem?_cons_succ, Option.getD_some, Nat.mul_zero, Nat.zero_add, Nat.mul_one, Nat.add_zero, if_true, Nat.reduceAdd]; split <;> simp_all
 | 2, _ | 3, _ => rfl
instance : AG pg 198 4 := ⟨_, uT198, rfl, by kernel_rfl⟩
theorem operator_c (w : World) (Φ : Hp) (hG : Knows Φ Glob) {p : Nat} {tv : Value} {toks : List Bt.Token} {z : Ru.S} (hc : PCtx Φ toks tv) (hz : PS toks z) {n : Nat} (hn : n < 4) (h0 : StP ⟨w, Φ, [p]⟩ Φ [pA p tv toks z] w) :
  Calls pg 130 #[.pointer (some ⟨p, 0, none⟩), iV (n : Int)] w (PK w Φ p tv toks [pA p tv toks z] (.ok (Ru.opOf n z.1, if (Ru.opOf n z.1).isSome = true then (z.1.tail, z.2) else z)) (fun x (_ : Unit) => .tuple #[iV (x.getD 0), .bool x.isSome]) fun _ _ => []) := by
 refine calls_of_AW (args := [.pointer (some ⟨p, 0, none⟩), iV (n : Int)]) Tryz.func130 rfl (lBT rfl) (St ⟨w, Φ, [p]⟩ Φ [pA p tv toks z]) h0 ?_
 show AW _ _ [] _ _ _ [(0, .pointer (some ⟨p, 0, none⟩)), (1, iV (n : Int))] _
 have hop := opOf_lv hn z.1
 refine gP ?_
 refine RW.q (v := .pointer (some ⟨1, n * 4, none⟩)) rfl (q_indexAddrA (p := ⟨1, 0, none⟩) (i := (n : Int)) (sz := 4) rfl rfl uT199 (by kernel_rfl) (by omega) (by omega) (by rw [Int.toNat_natCast]; simp only [Addr.add]; split <;> simp_all)) (RW.q (v := .agg (lvC n).toArray) rfl (qa_ldA (cs := lvC n) rfl (lv_cells hG hn) rfl) ?_)
 refine gP ?_
 refine AW.loop (fun s J m => ∃ i : Nat, s = [(0, .pointer (some ⟨p, 0, none⟩)), (4, iV 0), (5, .bool false), (10, .agg (lvC n).toArray), (11, iV (i : Int))] ∧ J = St ⟨w, Φ, [p]⟩ Φ [pA p tv toks z] ∧ m = 2 - i ∧ i ≤ 2 ∧ ∀ j, j < i → Ru.isT (lvT n j) z.1 = false) (s0 := _) (J1 := _) (m0 := _) ⟨0, rfl, rfl, rfl, by omega, fun j hj => by omega⟩ ⟨rfl, rfl, rfl, rfl, rfl, trivial⟩ (fun _ h => h) ?_
 rintro _ _ _ _ ⟨i, rfl, rfl, rfl, hi, hne⟩
 refine gP ?_
 refine AW.cond rfl (fun h => ?_) fun h => ?_
 ·
  have h : i < 2 := by have := odT h; omega
  have hlk : Ru.isT (lvT n i) z.1 = true → Ru.opOf n z.1 = some (lvK n i) := fun ht => by
   rw [hop]
   match i, h, hne with
   | 0, _, _ => rw [if_pos ht]
   | 1, _, hne => rw [if_neg (by rw [hne 0 (by omega)]; simp), if_pos ht]
  refine gP ?_
  refine RW.q (v := .agg #[.string (bs (lvT n i)), iV (lvK n i)]) rfl (q_indexArr (es := [.string (bs (lvT n i)), iV (lvK n i)]) (k := .i64) (i := (i : Int)) rfl rfl uT198 uT197 rfl sz197 (by omega) (by omega) rfl (fun j v hv => by
   have hj : j < 2 := (List.getElem?_eq_some_iff.1 hv).1
   rw [← hv]
   match i, h, j, hj with
   | 0, _, 0, _ | 0, _, 1, _ | 1, _, 0, _ | 1, _, 1, _ => rfl)) ?_
  refine RW.alc rfl fun b7 => ?_
  refine gP ?_
  refine RW.own (args := #[.pointer (some ⟨p, 0, none⟩), .string (bs (lvT n i))]) (C2 := [.blk b7 197 [.string (bs (lvT n i)), iV (lvK n i)]]) [1, 0] (by decide) rfl rfl oK rfl rfl (fun w1 hw1 => accept_c w1 Φ hc hz hw1) (fun er CE w' he => nomatch he) ?_
  rintro ⟨b, z1⟩ _ hres
  cases hres
  refine gP ?_
  refine AW.cond rfl (fun ht => ?_) fun ht => ?_
  ·
   have ht : Ru.isT (lvT n i) z.1 = true := ht
   rw [if_pos ht]
   refine gP ?_
   exact fin_res (vs := [iV (lvK n i), .bool true]) rfl rfl ⟨.tmp rfl, .tmp rfl, trivial⟩ rfl (fun w' hw => PK.ok () (by rw [hlk ht]; rfl) rfl (hw.sel [0] (by decide) rfl))
  ·
   have ht : Ru.isT (lvT n i) z.1 = false := ht
   rw [show (if Ru.isT (lvT n i) z.1 = true then (z.1.tail, z.2) else z) = z from if_neg (by rw [ht]; simp)]
   refine gP ?_
   exact Post.back (s' := _) (J' := _) (m' := _) (by omega) ⟨i + 1, rfl, rfl, rfl, by omega, fun j hj => by
    rcases Nat.lt_succ_iff_lt_or_eq.1 hj with h1 | rfl
    ·
     exact hne j h1
    ·
     exact ht⟩ ⟨rfl, rfl, rfl, rfl, rfl, trivial⟩ (fun _ h => StP.sel h [0] (by decide) rfl)
 ·
  have h : i = 2 := by have := odF h; omega
  subst h
  have hno : Ru.opOf n z.1 = none := by rw [hop, if_neg (by rw [hne 0 (by omega)]; simp), if_neg (by rw [hne 1 (by omega)]; simp)]
  refine gP ?_
  exact fin_res (vs := [iV 0, .bool false]) rfl rfl ⟨.tmp rfl, .tmp rfl, trivial⟩ rfl (fun w' hw => PK.ok () (by rw [hno]; rfl) rfl hw)
end Go.Proofs.YtnfmjfheciihjaaGreatDoor
namespace Go.Proofs.YtnfmjfheciihjaaGreatDoor
open Go Go.K Go.RowKit
open Ru (tr trs pB nC wfH wfK tr_fin0 tr_fin1 tr_fin2 tr_fin3 tr_at tr_wf)
attribute [local irreducible] AW RW DW Post Qt
def lvR : Nat → Nat
 | 0 => 13
 | 1 => 11
 | 2 => 7
 | _ => 5
def blR : Nat → Nat
 | 0 => 12
 | 1 => 10
 | 2 => 6
 | _ => 4
structure AllC (Φ : Hp) (p : Nat) (tv : Value) (toks : List Bt.Token) (f : Nat) : Prop where
 expr : ∀ (w : World) (z : Ru.S), PS toks z → 20 * z.1.length + 14 ≤ f → StP ⟨w, Φ, [p]⟩ Φ [pA p tv toks z] w → Calls pg 97 #[pB p] w (EK w Φ p tv toks z (Ru.expr f z))
 level : ∀ (w : World) (z : Ru.S) (n : Nat), n < 4 → PS toks z → 20 * z.1.length + lvR n ≤ f → StP ⟨w, Φ, [p]⟩ Φ [pA p tv toks z] w → Calls pg 121 #[pB p, iV (n : Int)] w (EK w Φ p tv toks z (Ru.level f n z))
 below : ∀ (w : World) (z : Ru.S) (n : Nat), n < 4 → PS toks z → 20 * z.1.length + blR n ≤ f → StP ⟨w, Φ, [p]⟩ Φ [pA p tv toks z] w → Calls pg 129 #[pB p, iV (n : Int)] w (EK w Φ p tv toks z (Ru.below f n z))
 neg : ∀ (w : World) (z : Ru.S), PS toks z → 20 * z.1.length + 9 ≤ f → StP ⟨w, Φ, [p]⟩ Φ [pA p tv toks z] w → Calls pg 138 #[pB p] w (EK w Φ p tv toks z (Ru.neg f z))
 cmp : ∀ (w : World) (z : Ru.S), PS toks z → 20 * z.1.length + 8 ≤ f → StP ⟨w, Φ, [p]⟩ Φ [pA p tv toks z] w → Calls pg 141 #[pB p] w (EK w Φ p tv toks z (Ru.cmp f z))
 factor : ∀ (w : World) (z : Ru.S), PS toks z → 20 * z.1.length + 3 ≤ f → StP ⟨w, Φ, [p]⟩ Φ [pA p tv toks z] w → Calls pg 139 #[pB p] w (EK w Φ p tv toks z (Ru.factor f z))
 prim : ∀ (w : World) (z : Ru.S), PS toks z → 20 * z.1.length + 2 ≤ f → StP ⟨w, Φ, [p]⟩ Φ [pA p tv toks z] w → Calls pg 142 #[pB p] w (EK w Φ p tv toks z (Ru.prim f z))
 word : ∀ (w : World) (z : Ru.S), PS toks z → (Pa.pk z.1).Kind = 0 → 20 * z.1.length + 1 ≤ f → StP ⟨w, Φ, [p]⟩ Φ [pA p tv toks z] w → Calls pg 145 #[pB p] w (EK w Φ p tv toks z (Ru.word f z))
theorem PS.isT {toks : List Bt.Token} {z : Ru.S} {c : List UInt8} (h : PS toks z) (ht : Ru.isT c z.1 = true) : PS toks (z.1.tail, z.2) ∧ z.1.tail.length + 1 = z.1.length :=
 ⟨h.ad (Ru.ad_isT h.good ht), (Pa.good_tail h.good (by have := Ru.isT_kind ht; omega)).2⟩
theorem PS.le {toks : List Bt.Token} {z z1 : Ru.S} (h : PS toks z) (ha : Pa.Ad z.1 z1.1) : PS toks z1 ∧ z1.1.length < z.1.length := ⟨⟨ha.1.trans h.suf, ha.2.1⟩, ha.2.2⟩
theorem PS.exp {toks : List Bt.Token} {z z1 : Ru.S} {c : List UInt8} {u : Unit} (hz : PS toks z) (hr : Ru.exp c z = .ok (u, z1)) : PS toks z1 ∧ z1.1.length < z.1.length := hz.le (Ru.exp_ok hz.good hr).1
theorem PS.ex {toks : List Bt.Token} {z z1 : Ru.S} {x : Bt.Nd} {f : Nat} (hz : PS toks z) (hr : Ru.expr f z = .ok (x, z1)) : PS toks z1 ∧ z1.1.length < z.1.length := hz.le ((Ru.all_ok f).1 _ _ _ hz.good hr)
theorem PS.lev {toks : List Bt.Token} {z z1 : Ru.S} {x : Bt.Nd} {f n : Nat} (hz : PS toks z) (hr : Ru.level f n z = .ok (x, z1)) : PS toks z1 ∧ z1.1.length < z.1.length := hz.le ((Ru.all_ok f).2.1 _ _ _ _ hz.good hr)
theorem PS.bel {toks : List Bt.Token} {z z1 : Ru.S} {x : Bt.Nd} {f n : Nat} (hz : PS toks z) (hr : Ru.below f n z = .ok (x, z1)) : PS toks z1 ∧ z1.1.length < z.1.length := hz.le ((Ru.all_ok f).2.2.2.1 _ _ _ _ hz.good hr)
theorem PS.name {toks : List Bt.Token} {z z1 : Ru.S} {t : Bt.Token} (hz : PS toks z) (hr : Ru.nameR z = .ok (t, z1)) : PS toks z1 ∧ z1.1.length < z.1.length := hz.le (Ru.nameR_ok hz.good hr).1
theorem PS.ident {toks : List Bt.Token} {z z1 : Ru.S} {t : Bt.Token} (hz : PS toks z) (hr : Ru.identR z = .ok (t, z1)) : PS toks z1 ∧ z1.1.length < z.1.length := hz.le (Ru.identR_ok hz.good hr).1
section
variable {Φ : Hp} {p : Nat} {tv : Value} {toks : List Bt.Token}
theorem neg_c (w : World) (hc : PCtx Φ toks tv) {z : Ru.S} (hz : PS toks z) {f : Nat} (ih : AllC Φ p tv toks f) (hf : 20 * z.1.length + 9 ≤ f + 1) (h0 : StP ⟨w, Φ, [p]⟩ Φ [pA p tv toks z] w) :
  Calls pg 138 #[pB p] w (EK w Φ p tv toks z (Ru.neg (f + 1) z)) := by
 refine calls_of_AW (args := [pB p]) Tryz.func138 rfl (lBT rfl) (St ⟨w, Φ, [p]⟩ Φ [pA p tv toks z]) h0 ?_
 show AW _ _ [] _ _ _ [(0, pB p)] _
 have hat := wfT_at (wf_pk hc.wf hz.suf hz.ne)
 refine gP ?_
 refine RW.q rfl (q_call (args := #[pB p]) oK rfl rfl (fun w1 hw1 => peek_c w1 (blkAt 0 rfl hw1) (hc.mono hw1.phi) hz)) ?_
 refine gP ?_
 refine RW.own (args := #[pB p, .string (bs Ru.sNot)]) (C2 := []) [0] (by decide) rfl rfl oK rfl rfl (fun w1 hw1 => accept_c w1 Φ hc hz hw1) (fun er CE w2 he => nomatch he) ?_
 rintro ⟨_, _⟩ _ hres
 cases hres
 refine gP ?_
 refine AW.cond rfl (fun ht => ?_) fun ht => ?_
 ·
  have ht : Ru.isT Ru.sNot z.1 = true := ht
  obtain ⟨hz1, hl⟩ := hz.isT ht
  have hs : Ru.neg (f + 1) z = Ru.bnd (Ru.neg f (z.1.tail, z.2)) fun x s1 => .ok (Ru.nd 3 (Pa.pk z.1).At [x], s1) := by rw [Ru.neg, if_pos ht]
  rw [if_pos ht]
  refine gP ?_
  refine RW.own (args := #[pB p]) (C2 := []) [0] (by decide) rfl rfl oK rfl rfl (fun w1 hw1 => ih.neg w1 _ hz1 (by simp only []; omega) hw1) (fun er CE w2 he hk hw => PK.pn (hs.trans (Ru.bnd_of_err he)) hk hw) ?_
  rintro ⟨x, z1⟩ ⟨b, F⟩ hr
  refine gP ?_
  refine RW.eff _ _ rfl (e_buildSlice (vals := [(0, pB b)]) (cells := [pB b]) uT142 inf145 rfl rfl rfl (by kernel_rfl) rfl) fun bk => ?_
  refine gP ?_
  refine RW.q (v := .agg (nC 3 0 0 0 (Pa.pk z.1).At default default (.slice (some ⟨bk, 0, none⟩) 1 1)).toArray) rfl (q_build (vals := [(0, iV 3), (4, iV ((Pa.pk z.1).At)), (7, .slice (some ⟨bk, 0, none⟩) 1 1)]) zero153 uT153 places153 rfl rfl) ?_
  refine RW.bxA (cs := nC 3 0 0 0 (Pa.pk z.1).At default default (.slice (some ⟨bk, 0, none⟩) 1 1)) rfl rfl fun bn => ?_
  refine gP ?_
  exact fin_res (vs := [pB bn]) rfl rfl ⟨.tmp rfl, trivial⟩ rfl (fun w2 hw => EK.ok (hs.trans (Ru.bnd_of_ok hr)) (tr_fin1 [0, 1, 3, 2] (by decide) rfl (wfH_0 (by omega) (by omega) hat) hw))
 ·
  have ht : Ru.isT Ru.sNot z.1 = false := ht
  have hs : Ru.neg (f + 1) z = Ru.cmp f z := by rw [Ru.neg, if_neg (by rw [ht]; simp)]
  rw [if_neg (by rw [ht]; simp)]
  refine gP ?_
  refine RW.own (args := #[pB p]) (C2 := []) [0] (by decide) rfl rfl oK rfl rfl (fun w1 hw1 => ih.cmp w1 _ hz (by omega) hw1) (fun er CE w2 he hk hw => PK.pn (hs.trans he) hk hw) ?_
  rintro ⟨x, z1⟩ ⟨b, F⟩ hr
  refine gP ?_
  exact fin_res (vs := [pB b]) rfl rfl ⟨.tmp rfl, trivial⟩ rfl (fun w2 hw => EK.ok (hs.trans hr) ⟨F, hw⟩)
theorem factor_c (w : World) (hc : PCtx Φ toks tv) {z : Ru.S} (hz : PS toks z) {f : Nat} (ih : AllC Φ p tv toks f) (hf : 20 * z.1.length + 3 ≤ f + 1) (h0 : StP ⟨w, Φ, [p]⟩ Φ [pA p tv toks z] w) :
  Calls pg 139 #[pB p] w (EK w Φ p tv toks z (Ru.factor (f + 1) z)) := by
 refine calls_of_AW (args := [pB p]) Tryz.func139 rfl (lBT rfl) (St ⟨w, Φ, [p]⟩ Φ [pA p tv toks z]) h0 ?_
 show AW _ _ [] _ _ _ [(0, pB p)] _
 have hat := wfT_at (wf_pk hc.wf hz.suf hz.ne)
 refine gP ?_
 refine RW.q rfl (q_call (args := #[pB p]) oK rfl rfl (fun w1 hw1 => peek_c w1 (blkAt 0 rfl hw1) (hc.mono hw1.phi) hz)) ?_
 refine gP ?_
 refine RW.own (args := #[pB p, .string (bs Ru.sMinus)]) (C2 := []) [0] (by decide) rfl rfl oK rfl rfl (fun w1 hw1 => accept_c w1 Φ hc hz hw1) (fun er CE w2 he => nomatch he) ?_
 rintro ⟨_, _⟩ _ hres
 cases hres
 refine gP ?_
 refine AW.cond rfl (fun ht => ?_) fun ht => ?_
 ·
  have ht : Ru.isT Ru.sMinus z.1 = true := ht
  obtain ⟨hz1, hl⟩ := hz.isT ht
  have hs : Ru.factor (f + 1) z = Ru.bnd (Ru.factor f (z.1.tail, z.2)) fun x s1 => .ok (Ru.nd 2 (Pa.pk z.1).At [x], s1) := by rw [Ru.factor, if_pos ht]
  rw [if_pos ht]
  refine gP ?_
  refine RW.own (args := #[pB p]) (C2 := []) [0] (by decide) rfl rfl oK rfl rfl (fun w1 hw1 => ih.factor w1 _ hz1 (by simp only []; omega) hw1) (fun er CE w2 he hk hw => PK.pn (hs.trans (Ru.bnd_of_err he)) hk hw) ?_
  rintro ⟨x, z1⟩ ⟨b, F⟩ hr
  refine gP ?_
  refine RW.eff _ _ rfl (e_buildSlice (vals := [(0, pB b)]) (cells := [pB b]) uT142 inf145 rfl rfl rfl (by kernel_rfl) rfl) fun bk => ?_
  refine gP ?_
  refine RW.q (v := .agg (nC 2 0 0 0 (Pa.pk z.1).At default default (.slice (some ⟨bk, 0, none⟩) 1 1)).toArray) rfl (q_build (vals := [(0, iV 2), (4, iV ((Pa.pk z.1).At)), (7, .slice (some ⟨bk, 0, none⟩) 1 1)]) zero153 uT153 places153 rfl rfl) ?_
  refine RW.bxA (cs := nC 2 0 0 0 (Pa.pk z.1).At default default (.slice (some ⟨bk, 0, none⟩) 1 1)) rfl rfl fun bn => ?_
  refine gP ?_
  exact fin_res (vs := [pB bn]) rfl rfl ⟨.tmp rfl, trivial⟩ rfl (fun w2 hw => EK.ok (hs.trans (Ru.bnd_of_ok hr)) (tr_fin1 [0, 1, 3, 2] (by decide) rfl (wfH_0 (by omega) (by omega) hat) hw))
 ·
  have ht : Ru.isT Ru.sMinus z.1 = false := ht
  have hs : Ru.factor (f + 1) z = Ru.prim f z := by rw [Ru.factor, if_neg (by rw [ht]; simp)]
  rw [if_neg (by rw [ht]; simp)]
  refine gP ?_
  refine RW.own (args := #[pB p]) (C2 := []) [0] (by decide) rfl rfl oK rfl rfl (fun w1 hw1 => ih.prim w1 _ hz (by omega) hw1) (fun er CE w2 he hk hw => PK.pn (hs.trans he) hk hw) ?_
  rintro ⟨x, z1⟩ ⟨b, F⟩ hr
  refine gP ?_
  exact fin_res (vs := [pB b]) rfl rfl ⟨.tmp rfl, trivial⟩ rfl (fun w2 hw => EK.ok (hs.trans hr) ⟨F, hw⟩)
theorem expr_c (w : World) (hc : PCtx Φ toks tv) {z : Ru.S} (hz : PS toks z) {f : Nat} (ih : AllC Φ p tv toks f) (hf : 20 * z.1.length + 14 ≤ f + 1) (h0 : StP ⟨w, Φ, [p]⟩ Φ [pA p tv toks z] w) :
  Calls pg 97 #[pB p] w (EK w Φ p tv toks z (Ru.expr (f + 1) z)) := by
 refine calls_of_AW (args := [pB p]) Tryz.func97 rfl (lBT rfl) (St ⟨w, Φ, [p]⟩ Φ [pA p tv toks z]) h0 ?_
 show AW _ _ [] _ _ _ [(0, pB p)] _
 have hat := wfT_at (wf_pk hc.wf hz.suf hz.ne)
 refine gP ?_
 refine RW.q rfl (q_call (args := #[pB p]) oK rfl rfl (fun w1 hw1 => peek_c w1 (blkAt 0 rfl hw1) (hc.mono hw1.phi) hz)) ?_
 refine gP ?_
 refine RW.own (args := #[pB p, .string (bs Ru.sIf)]) (C2 := []) [0] (by decide) rfl rfl oK rfl rfl (fun w1 hw1 => accept_c w1 Φ hc hz hw1) (fun er CE w2 he => nomatch he) ?_
 rintro ⟨_, _⟩ _ hres
 cases hres
 refine gP ?_
 refine AW.cond rfl (fun ht => ?_) fun ht => ?_
 ·
  have ht : Ru.isT Ru.sIf z.1 = false := by simpa using ht
  have hs : Ru.expr (f + 1) z = Ru.level f 0 z := by rw [Ru.expr, if_neg (by rw [ht]; simp)]
  rw [if_neg (by rw [ht]; simp)]
  refine gP ?_
  refine RW.own (args := #[pB p, iV ((0 : Nat) : Int)]) (C2 := []) [0] (by decide) rfl rfl oK rfl rfl (fun w1 hw1 => ih.level w1 _ 0 (by omega) hz (by simp only [lvR]; omega) hw1) (fun er CE w2 he hk hw => PK.pn (hs.trans he) hk hw) ?_
  rintro ⟨x, z1⟩ ⟨b, F⟩ hr
  refine gP ?_
  exact fin_res (vs := [pB b]) rfl rfl ⟨.tmp rfl, trivial⟩ rfl (fun w2 hw => EK.ok (hs.trans hr) ⟨F, hw⟩)
 ·
  have ht : Ru.isT Ru.sIf z.1 = true := by simpa using ht
  obtain ⟨hz1, hl⟩ := hz.isT ht
  have hs : Ru.expr (f + 1) z = Ru.bnd (Ru.expr f (z.1.tail, z.2)) fun x s1 => Ru.bnd (Ru.exp Ru.sThen s1) fun _ s2 => Ru.bnd (Ru.expr f s2) fun y s3 => Ru.bnd (Ru.exp Ru.sElse s3) fun _ s4 => Ru.bnd (Ru.expr f s4) fun z5 s5 => .ok (Ru.nd 13 (Pa.pk z.1).At [x, y, z5], s5) := by rw [Ru.expr, if_pos ht]
  rw [if_pos ht]
  refine gP ?_
  refine RW.own (args := #[pB p]) (C2 := []) [0] (by decide) rfl rfl oK rfl rfl (fun w1 hw1 => ih.expr w1 _ hz1 (by simp only []; omega) hw1) (fun er CE w2 he hk hw => PK.pn (hs.trans (Ru.bnd_of_err he)) hk hw) ?_
  rintro ⟨x1, z1⟩ ⟨b1, F1⟩ hr1
  have hs1 := hs.trans (Ru.bnd_of_ok hr1)
  obtain ⟨hz1, hl1⟩ := PS.ex hz1 hr1
  refine gP ?_
  refine RW.own (args := #[pB p, .string (bs Ru.sThen)]) (C2 := [tr x1 b1 F1]) [0, 1] (by decide) rfl rfl oK rfl rfl (fun w1 hw1 => expect_c w1 Φ hc hz1 hw1) (fun er CE w2 he hk hw => PK.pn (hs1.trans (Ru.bnd_of_err he)) hk hw) ?_
  rintro ⟨_, z2⟩ _ hr2
  have hs2 := hs1.trans (Ru.bnd_of_ok hr2)
  obtain ⟨hz2, hl2⟩ := PS.exp hz1 hr2
  refine gP ?_
  refine RW.own (args := #[pB p]) (C2 := [tr x1 b1 F1]) [0, 1] (by decide) rfl rfl oK rfl rfl (fun w1 hw1 => ih.expr w1 _ hz2 (by simp only [] at *; omega) hw1) (fun er CE w2 he hk hw => PK.pn (hs2.trans (Ru.bnd_of_err he)) hk hw) ?_
  rintro ⟨x3, z3⟩ ⟨b3, F3⟩ hr3
  have hs3 := hs2.trans (Ru.bnd_of_ok hr3)
  obtain ⟨hz3, hl3⟩ := PS.ex hz2 hr3
  refine gP ?_
  refine RW.own (args := #[pB p, .string (bs Ru.sElse)]) (C2 := [tr x3 b3 F3, tr x1 b1 F1]) [0, 1, 2] (by decide) rfl rfl oK rfl rfl (fun w1 hw1 => expect_c w1 Φ hc hz3 hw1) (fun er CE w2 he hk hw => PK.pn (hs3.trans (Ru.bnd_of_err he)) hk hw) ?_
  rintro ⟨_, z4⟩ _ hr4
  have hs4 := hs3.trans (Ru.bnd_of_ok hr4)
  obtain ⟨hz4, hl4⟩ := PS.exp hz3 hr4
  refine gP ?_
  refine RW.own (args := #[pB p]) (C2 := [tr x3 b3 F3, tr x1 b1 F1]) [0, 1, 2] (by decide) rfl rfl oK rfl rfl (fun w1 hw1 => ih.expr w1 _ hz4 (by simp only [] at *; omega) hw1) (fun er CE w2 he hk hw => PK.pn (hs4.trans (Ru.bnd_of_err he)) hk hw) ?_
  rintro ⟨x5, z5⟩ ⟨b5, F5⟩ hr5
  have hs5 := hs4.trans (Ru.bnd_of_ok hr5)
  refine gP ?_
  refine RW.eff _ _ rfl (e_buildSlice (vals := [(0, pB b1), (1, pB b3), (2, pB b5)]) (cells := [pB b1, pB b3, pB b5]) uT142 inf145 rfl rfl rfl (by kernel_rfl) rfl) fun bk => ?_
  refine gP ?_
  refine RW.q (v := .agg (nC 13 0 0 0 (Pa.pk z.1).At default default (.slice (some ⟨bk, 0, none⟩) 3 3)).toArray) rfl (q_build (vals := [(0, iV 13), (4, iV ((Pa.pk z.1).At)), (7, .slice (some ⟨bk, 0, none⟩) 3 3)]) zero153 uT153 places153 rfl rfl) ?_
  refine RW.bxA (cs := nC 13 0 0 0 (Pa.pk z.1).At default default (.slice (some ⟨bk, 0, none⟩) 3 3)) rfl rfl fun bn => ?_
  refine gP ?_
  exact fin_res (vs := [pB bn]) rfl rfl ⟨.tmp rfl, trivial⟩ rfl (fun w2 hw => EK.ok hs5 (tr_fin3 [0, 1, 5, 4, 3, 2] (by decide) rfl (wfH_0 (by omega) (by omega) hat) hw))
end
theorem lvR_eq {n : Nat} (hn : n < 4) : lvR n = blR n + 1 := by
 match n, hn with
 | 0, _ | 1, _ | 2, _ | 3, _ => rfl
theorem lvR_le {n : Nat} (hn : n < 4) : 5 ≤ lvR n ∧ lvR n ≤ 13 := by
 match n, hn with
 | 0, _ | 1, _ | 2, _ | 3, _ => exact ⟨by decide, by decide⟩
section
variable {Φ : Hp} {p : Nat} {tv : Value} {toks : List Bt.Token}
theorem below_c (w : World) (_ : PCtx Φ toks tv) {z : Ru.S} (hz : PS toks z) {f : Nat} {n : Nat} (hn : n < 4) (ih : AllC Φ p tv toks f) (hf : 20 * z.1.length + blR n ≤ f + 1) (h0 : StP ⟨w, Φ, [p]⟩ Φ [pA p tv toks z] w) :
  Calls pg 129 #[pB p, iV (n : Int)] w (EK w Φ p tv toks z (Ru.below (f + 1) n z)) := by
 refine calls_of_AW (args := [pB p, iV (n : Int)]) Tryz.func129 rfl (lBT rfl) (St ⟨w, Φ, [p]⟩ Φ [pA p tv toks z]) h0 ?_
 show AW _ _ [] _ _ _ [(0, pB p), (1, iV (n : Int))] _
 refine gP ?_
 refine AW.cond rfl (fun h1 => ?_) fun h1 => ?_
 ·
  have h1 : n = 1 := by have := odT h1; omega
  subst h1
  have hs : Ru.below (f + 1) 1 z = Ru.neg f z := by rw [Ru.below, if_pos rfl]
  refine gP ?_
  refine RW.own (args := #[pB p]) (C2 := []) [0] (by decide) rfl rfl oK rfl rfl (fun w1 hw1 => ih.neg w1 _ hz (by simp only [blR] at hf; omega) hw1) (fun er CE w2 he hk hw => PK.pn (hs.trans he) hk hw) ?_
  rintro ⟨x, z1⟩ ⟨b, F⟩ hr
  refine gP ?_
  exact fin_res (vs := [pB b]) rfl rfl ⟨.tmp rfl, trivial⟩ rfl (fun w2 hw => EK.ok (hs.trans hr) ⟨F, hw⟩)
 ·
  have h1 : n ≠ 1 := by have := odF h1; omega
  refine gP ?_
  refine AW.cond rfl (fun h3 => ?_) fun h3 => ?_
  ·
   have h3 : n = 3 := by have := odT h3; omega
   subst h3
   have hs : Ru.below (f + 1) 3 z = Ru.factor f z := by rw [Ru.below, if_neg (by decide), if_pos rfl]
   refine gP ?_
   refine RW.own (args := #[pB p]) (C2 := []) [0] (by decide) rfl rfl oK rfl rfl (fun w1 hw1 => ih.factor w1 _ hz (by simp only [blR] at hf; omega) hw1) (fun er CE w2 he hk hw => PK.pn (hs.trans he) hk hw) ?_
   rintro ⟨x, z1⟩ ⟨b, F⟩ hr
   refine gP ?_
   exact fin_res (vs := [pB b]) rfl rfl ⟨.tmp rfl, trivial⟩ rfl (fun w2 hw => EK.ok (hs.trans hr) ⟨F, hw⟩)
  ·
   have h3 : n ≠ 3 := by have := odF h3; omega
   have hs : Ru.below (f + 1) n z = Ru.level f (n + 1) z := by rw [Ru.below, if_neg h1, if_neg h3]
   have hb : lvR (n + 1) + 1 = blR n := by
    match n, hn, h1, h3 with
    | 0, _, _, _ | 2, _, _, _ => rfl
    | 1, _, h, _ => exact absurd rfl h
    | 3, _, _, h => exact absurd rfl h
   refine gP ?_
   refine RW.own (args := #[pB p, iV ((n + 1 : Nat) : Int)]) (C2 := []) [0] (by decide) rfl rfl oK rfl rfl (fun w1 hw1 => ih.level w1 _ (n + 1) (by omega) hz (by omega) hw1) (fun er CE w2 he hk hw => PK.pn (hs.trans he) hk hw) ?_
   rintro ⟨x, z1⟩ ⟨b, F⟩ hr
   refine gP ?_
   exact fin_res (vs := [pB b]) rfl rfl ⟨.tmp rfl, trivial⟩ rfl (fun w2 hw => EK.ok (hs.trans hr) ⟨F, hw⟩)
theorem cmp_c (w : World) (hc : PCtx Φ toks tv) {z : Ru.S} (hz : PS toks z) {f : Nat} (ih : AllC Φ p tv toks f) (hf : 20 * z.1.length + 8 ≤ f + 1) (h0 : StP ⟨w, Φ, [p]⟩ Φ [pA p tv toks z] w) :
  Calls pg 141 #[pB p] w (EK w Φ p tv toks z (Ru.cmp (f + 1) z)) := by
 refine calls_of_AW (args := [pB p]) Tryz.func141 rfl (lBT rfl) (St ⟨w, Φ, [p]⟩ Φ [pA p tv toks z]) h0 ?_
 show AW _ _ [] _ _ _ [(0, pB p)] _
 have hs0 : Ru.cmp (f + 1) z = Ru.bnd (Ru.level f 2 z) fun x s1 => if (Pa.pk s1.1).Kind = 3 ∧ Ru.cmpSign (Pa.pk s1.1).Text = true then Ru.bnd (Ru.level f 2 (s1.1.tail, s1.2)) fun y s2 => .ok (Ru.rel (Pa.pk s1.1).Text x y, s2) else .ok (x, s1) := by rw [Ru.cmp]
 refine gP ?_
 refine RW.own (args := #[pB p, iV ((2 : Nat) : Int)]) (C2 := []) [0] (by decide) rfl rfl oK rfl rfl (fun w1 hw1 => ih.level w1 _ 2 (by omega) hz (by simp only [lvR]; omega) hw1) (fun er CE w2 he hk hw => PK.pn (hs0.trans (Ru.bnd_of_err he)) hk hw) ?_
 rintro ⟨x, z1⟩ ⟨b, F⟩ hr
 have hs1 := hs0.trans (Ru.bnd_of_ok hr)
 obtain ⟨hz1, hl1⟩ := hz.lev hr
 have hwt := wf_pk hc.wf hz1.suf hz1.ne
 refine gP ?_
 refine RW.q rfl (q_call (args := #[pB p]) oK rfl rfl (fun w1 hw1 => peek_c w1 (blkAt 0 rfl hw1) (hc.mono hw1.phi) hz1)) ?_
 refine gP ?_
 refine RW.alc rfl fun b4 => ?_
 refine gP ?_
 refine AW.cond rfl (fun h3 => ?_) fun h3 => ?_
 ·
  have h3 : (Pa.pk z1.1).Kind ≠ 3 := by simpa using h3
  have hs := hs1.trans (if_neg (fun h => h3 h.1))
  refine gP ?_
  exact fin_res (vs := [pB b]) rfl rfl ⟨.tmp rfl, trivial⟩ rfl (fun w2 hw => EK.ok hs ⟨F, hw.sel [1, 2] (by decide) rfl⟩)
 ·
  have h3 : (Pa.pk z1.1).Kind = 3 := by simpa using h3
  refine gP ?_
  refine RW.q (v := .bool (decide ((Pa.pk z1.1).Text = Ru.sLt))) rfl (q_eqlStr rfl rfl) ?_
  refine gP ?_
  refine AW.orChS (t := 15) (x := 14) (a := (Pa.pk z1.1).Text) rfl rfl _ rfl rfl rfl rfl fun _ => ?_
  refine gP ?_
  have hcs : (decide ((Pa.pk z1.1).Text = Ru.sLt) || [(Ru.sLe, 17), (Ru.sGt, 18), (Ru.sGe, 19), (Ru.sEq, 20), (Ru.sNe, 21)].any fun q => decide ((Pa.pk z1.1).Text = q.1)) = Ru.cmpSign (Pa.pk z1.1).Text := by
   unfold Ru.cmpSign
   rw [Bool.eq_iff_iff]
   simp only [List.any_cons, List.any_nil, Bool.or_false, Bool.or_eq_true, decide_eq_true_eq, List.contains_iff_mem, List.mem_cons, List.not_mem_nil, or_false]
  refine AW.cond rfl (fun h => ?_) fun h => ?_
  ·
   have h : Ru.cmpSign (Pa.pk z1.1).Text = true := hcs.symm.trans h
   have hs2 := hs1.trans (if_pos ⟨h3, h⟩)
   have had := Pa.ad_tail hz1.good (by omega)
   have hz2 : PS toks (z1.1.tail, z1.2) := hz1.ad had
   have hl := (Pa.good_tail hz1.good (by omega)).2
   have hle := Pa.suf_len hz1.suf
   have hln := hc.len
   refine gP ?_
   refine RW.effn (J' := St ⟨w, Φ, [p]⟩ Φ [.blk b4 134 (tkC (Pa.pk z1.1)), .blk p 137 [tv, iV ((toks.length - z1.1.length + 1 : Nat) : Int), iV z1.2], tr x b F]) (e_store (v := iV ((toks.length - z1.1.length + 1 : Nat) : Int)) 1 rfl rfl rfl sz3 rfl rfl rfl rfl rfl) ?_
   refine gP ?_
   refine AW.wk (J' := St ⟨w, Φ, [p]⟩ Φ [.blk b4 134 (tkC (Pa.pk z1.1)), pA p tv toks (z1.1.tail, z1.2), tr x b F]) (fun _ h => by unfold pA; rw [pcs_next hz1.suf hl]; exact h) (AW.draw (J0 := St ⟨w, Φ, [p]⟩ Φ [.blk b4 134 (tkC (Pa.pk z1.1))]) [.q, .q, .q, .q, .e, .e, .q] od7 hmix (by kernel_rfl) ?_)
   refine gP ?_
   refine DW.own (args := #[pB p, iV ((2 : Nat) : Int)]) (C2 := [.blk b4 134 (tkC (Pa.pk z1.1)), tr x b F]) [1, 0, 2] (by decide) rfl rfl oK rfl rfl (fun w1 hw1 => ih.level w1 _ 2 (by omega) hz2 (by simp only [lvR]; omega) hw1) (fun er CE w2 he hk hw => PK.pn (hs2.trans (Ru.bnd_of_err he)) hk hw) (fun _ _ _ h => St.one 2 rfl h) ?_
   rintro ⟨y, z3⟩ ⟨b2, F2⟩ hr2
   have hs3 := hs2.trans (Ru.bnd_of_ok hr2)
   refine gP ?_
   refine DW.own (args := #[.string (bs (Pa.pk z1.1).Text), pB b, pB b2]) (A := [tr x b F, tr y b2 F2]) (C2 := [pA p tv toks z3, .blk b4 134 (tkC (Pa.pk z1.1))]) [3, 1, 0, 2] (by decide) rfl rfl oK rfl rfl (fun w1 hw1 => relation_c w1 Φ hw1) (fun er CE w2 he => nomatch he) (fun _ _ _ h => St.one 2 rfl h) ?_
   rintro _ ⟨b5, F5⟩ hr3
   cases hr3
   refine gP ?_
   exact fin_res (vs := [pB b5]) rfl rfl ⟨.tmp rfl, trivial⟩ rfl (fun w2 hw => EK.ok hs3 ⟨F5, hw.sel [1, 0] (by decide) rfl⟩)
  ·
   have h : Ru.cmpSign (Pa.pk z1.1).Text = false := hcs.symm.trans h
   have hs := hs1.trans (if_neg (fun hh => by rw [h] at hh; exact absurd hh.2 (by simp)))
   refine gP ?_
   exact fin_res (vs := [pB b]) rfl rfl ⟨.tmp rfl, trivial⟩ rfl (fun w2 hw => EK.ok hs ⟨F, hw.sel [1, 2] (by decide) rfl⟩)
theorem level_c (w : World) (hG : Knows Φ Glob) (hc : PCtx Φ toks tv) {z : Ru.S} (hz : PS toks z) {f : Nat} {n : Nat} (hn : n < 4) (ih : ∀ g, g ≤ f → AllC Φ p tv toks g) (hf : 20 * z.1.length + lvR n ≤ f + 1) (h0 : StP ⟨w, Φ, [p]⟩ Φ [pA p tv toks z] w) :
  Calls pg 121 #[pB p, iV (n : Int)] w (EK w Φ p tv toks z (Ru.level (f + 1) n z)) := by
 refine calls_of_AW (args := [pB p, iV (n : Int)]) Tryz.func121 rfl (lBT rfl) (St ⟨w, Φ, [p]⟩ Φ [pA p tv toks z]) h0 ?_
 show AW _ _ [] _ _ _ [(0, pB p), (1, iV (n : Int))] _
 have hs0 : Ru.level (f + 1) n z = Ru.bnd (Ru.below f n z) fun x s1 => Ru.lvl f n x s1 := by rw [Ru.level]
 have hlv := lvR_eq hn
 have hlv2 := lvR_le hn
 refine gP ?_
 refine RW.own (args := #[pB p, iV (n : Int)]) (C2 := []) [0] (by decide) rfl rfl oK rfl rfl (fun w1 hw1 => (ih f (Nat.le_refl _)).below w1 _ n hn hz (by omega) hw1) (fun er CE w2 he hk hw => PK.pn (hs0.trans (Ru.bnd_of_err he)) hk hw) ?_
 rintro ⟨x0, z0⟩ ⟨b0, F0⟩ hr
 have hs1 := hs0.trans (Ru.bnd_of_ok hr)
 obtain ⟨hz0, hl0⟩ := hz.bel hr
 refine gP ?_
 refine AW.loop (fun s J m => ∃ (x : Bt.Nd) (b : Nat) (F : List Nat) (zz : Ru.S) (g : Nat), s = [(0, pB p), (1, iV (n : Int)), (5, pB b)] ∧ J = St ⟨w, Φ, [p]⟩ Φ [pA p tv toks zz, tr x b F] ∧ m = zz.1.length ∧ PS toks zz ∧ 20 * zz.1.length + 16 ≤ g ∧ g ≤ f ∧ Ru.level (f + 1) n z = Ru.lvl g n x zz) (s0 := _) (J1 := _) (m0 := _) ⟨x0, b0, F0, z0, f, rfl, rfl, rfl, hz0, by omega, Nat.le_refl _, hs1⟩ ⟨rfl, rfl, rfl, trivial⟩ (fun _ h => h) ?_
 rintro _ _ _ _ ⟨x, b, F, zz, g, rfl, rfl, rfl, hzz, hg, hgf, hs⟩
 obtain ⟨g, rfl⟩ : ∃ g1, g = g1 + 1 := ⟨g - 1, by omega⟩
 refine gP ?_
 refine RW.own (args := #[pB p, iV (n : Int)]) (C2 := [tr x b F]) [0, 1] (by decide) rfl rfl oK rfl rfl (fun w1 hw1 => operator_c w1 Φ hG hc hzz hn hw1) (fun er CE w2 he => nomatch he) ?_
 rintro ⟨_, _⟩ _ hres
 cases hres
 refine gP ?_
 refine AW.cond rfl (fun h => ?_) fun h => ?_
 ·
  have h : Ru.opOf n zz.1 = none := by simpa using h
  have hs2 : Ru.level (f + 1) n z = .ok (x, zz) := by rw [hs, Ru.lvl, h]
  rw [if_neg (by rw [h]; simp)]
  refine gP ?_
  exact fin_res (vs := [pB b]) rfl rfl ⟨.tmp rfl, trivial⟩ rfl (fun w2 hw => EK.ok hs2 ⟨F, hw⟩)
 ·
  have h : (Ru.opOf n zz.1).isSome = true := by simpa using h
  rw [if_pos h]
  obtain ⟨k, hk⟩ := Option.isSome_iff_exists.1 h
  rw [hk]
  simp only [Option.getD_some, Option.isSome_some]
  obtain ⟨hkk, hk1, hk2⟩ := Ru.opOf_kind hk
  have had := Ru.ad_op hzz.good hk
  have hz1 : PS toks (zz.1.tail, zz.2) := hzz.ad had
  have hl1 : zz.1.tail.length < zz.1.length := had.2.2
  have hs2 : Ru.level (f + 1) n z = Ru.bnd (Ru.below g n (zz.1.tail, zz.2)) fun y s1 => Ru.lvl g n (Ru.nd k x.At [x, y]) s1 := by rw [hs, Ru.lvl, hk]
  refine gP ?_
  refine AW.draw (J0 := St ⟨w, Φ, [p]⟩ Φ [tr x b F]) (tq8 [.e, .e, .q, .e, .q]) od13 hmix (by kernel_rfl) ?_
  refine gP ?_
  refine DW.q (fun _ h => St.one 1 rfl h) rfl (qa_ld rfl (tr_at 0 rfl)) ?_
  refine gP ?_
  refine DW.own (args := #[pB p, iV (n : Int)]) (C2 := [tr x b F]) [0, 1] (by decide) rfl rfl oK rfl rfl (fun w1 hw1 => (ih g (by omega)).below w1 _ n hn hz1 (by simp only []; omega) hw1) (fun er CE w2 he hk hw => PK.pn (hs2.trans (Ru.bnd_of_err he)) hk hw) (fun _ _ _ h => St.one 2 rfl h) ?_
  rintro ⟨y, z3⟩ ⟨b2, F2⟩ hr2
  have hs3 := hs2.trans (Ru.bnd_of_ok hr2)
  obtain ⟨hz3, hl3⟩ := hz1.bel hr2
  refine gP ?_
  refine DW.eff _ _ (fun _ _ _ h => St.one 3 rfl h) rfl (e_buildSlice (vals := [(0, pB b), (1, pB b2)]) (cells := [pB b, pB b2]) uT142 inf145 rfl rfl rfl (by kernel_rfl) rfl) fun bk => ?_
  refine gP ?_
  refine DW.q (v := .agg (nC k 0 0 0 x.At default default (.slice (some ⟨bk, 0, none⟩) 2 2)).toArray) (fun _ h => St.one 3 rfl h) rfl (q_build (vals := [(0, iV k), (4, iV x.At), (7, .slice (some ⟨bk, 0, none⟩) 2 2)]) zero153 uT153 places153 rfl rfl) ?_
  refine gP ?_
  refine DW.eff _ _ (fun _ _ _ h => St.one 4 rfl h) rfl (e_boxA (cs := nC k 0 0 0 x.At default default (.slice (some ⟨bk, 0, none⟩) 2 2)) rfl) fun bn => ?_
  refine gP ?_
  exact Post.back (s' := _) (J' := _) (m' := _) (by simp only [] at *; omega) ⟨Ru.nd k x.At [x, y], bn, bn :: (blks (.slice (some ⟨bk, 0, none⟩) 2 2) ++ (F ++ F2)), z3, g, rfl, rfl, rfl, hz3, by simp only [] at *; omega, by omega, hs3⟩ ⟨rfl, rfl, rfl, trivial⟩ (fun w2 h => by
   obtain ⟨_, _, _, _, hat, _, _⟩ := tr_wf 4 rfl h
   exact (Ru.tr_join2x (k := k) (n := 0) (o := 0) (q := 0) (a := x.At) (nm := default) (ow := default) (C := [pA p tv toks z3]) (wfH_0 (by omega) (by omega) hat) (StP.sel h [0, 1, 4, 3, 2] (by decide) rfl)).sel [1, 0] (by decide) rfl)
theorem prim_c (w : World) (hG : Knows Φ Glob) (hc : PCtx Φ toks tv) {z : Ru.S} (hz : PS toks z) {f : Nat} (ih : AllC Φ p tv toks f) (hf : 20 * z.1.length + 2 ≤ f + 1) (h0 : StP ⟨w, Φ, [p]⟩ Φ [pA p tv toks z] w) :
  Calls pg 142 #[pB p] w (EK w Φ p tv toks z (Ru.prim (f + 1) z)) := by
 refine calls_of_AW (args := [pB p]) Tryz.func142 rfl (lBT rfl) (St ⟨w, Φ, [p]⟩ Φ [pA p tv toks z]) h0 ?_
 show AW _ _ [] _ _ _ [(0, pB p)] _
 have hwt := wf_pk hc.wf hz.suf hz.ne
 have hat := wfT_at hwt
 refine gP ?_
 refine RW.q rfl (q_call (args := #[pB p]) oK rfl rfl (fun w1 hw1 => peek_c w1 (blkAt 0 rfl hw1) (hc.mono hw1.phi) hz)) ?_
 refine gP ?_
 refine RW.alc rfl fun b3 => ?_
 refine gP ?_
 refine AW.cond rfl (fun h1 => ?_) fun h1 => ?_
 ·
  have h1 : (Pa.pk z.1).Kind = 1 := by simpa using h1
  have hs : Ru.prim (f + 1) z = Ru.numR z := by rw [Ru.prim, if_pos h1]
  refine gP ?_
  refine RW.own (args := #[pB p]) (C2 := [.blk b3 134 (tkC (Pa.pk z.1))]) [1, 0] (by decide) rfl rfl oK rfl rfl (fun w1 hw1 => number_c w1 Φ hG hc hz h1 hw1) (fun er CE w2 he hk hw => PK.pn (hs.trans he) hk hw) ?_
  rintro ⟨x, z1⟩ ⟨b, F⟩ hr
  refine gP ?_
  exact fin_res (vs := [pB b]) rfl rfl ⟨.tmp rfl, trivial⟩ rfl (fun w2 hw => EK.ok (hs.trans hr) ⟨F, hw.sel [0, 1] (by decide) rfl⟩)
 ·
  have h1 : (Pa.pk z.1).Kind ≠ 1 := by simpa using h1
  refine gP ?_
  refine AW.cond rfl (fun h2 => ?_) fun h2 => ?_
  ·
   have h2 : (Pa.pk z.1).Kind = 0 := by simpa using h2
   have hs : Ru.prim (f + 1) z = Ru.word f z := by rw [Ru.prim, if_neg h1, if_pos h2]
   refine gP ?_
   refine RW.own (args := #[pB p]) (C2 := [.blk b3 134 (tkC (Pa.pk z.1))]) [1, 0] (by decide) rfl rfl oK rfl rfl (fun w1 hw1 => ih.word w1 _ hz h2 (by omega) hw1) (fun er CE w2 he hk hw => PK.pn (hs.trans he) hk hw) ?_
   rintro ⟨x, z1⟩ ⟨b, F⟩ hr
   refine gP ?_
   exact fin_res (vs := [pB b]) rfl rfl ⟨.tmp rfl, trivial⟩ rfl (fun w2 hw => EK.ok (hs.trans hr) ⟨F, hw.sel [0, 1] (by decide) rfl⟩)
  ·
   have h2 : (Pa.pk z.1).Kind ≠ 0 := by simpa using h2
   have hs0 : Ru.prim (f + 1) z = Ru.bnd (Ru.exp Ru.sLp z) fun _ s1 => Ru.bnd (Ru.expr f s1) fun x s2 => Ru.bnd (Ru.exp Ru.sRp s2) fun _ s3 => .ok ({ x with At := (Pa.pk z.1).At }, s3) := by rw [Ru.prim, if_neg h1, if_neg h2]
   refine gP ?_
   refine RW.own (args := #[pB p, .string (bs Ru.sLp)]) (C2 := [.blk b3 134 (tkC (Pa.pk z.1))]) [1, 0] (by decide) rfl rfl oK rfl rfl (fun w1 hw1 => expect_c w1 Φ hc hz hw1) (fun er CE w2 he hk hw => PK.pn (hs0.trans (Ru.bnd_of_err he)) hk hw) ?_
   rintro ⟨_, z1⟩ _ hr1
   have hs1 := hs0.trans (Ru.bnd_of_ok hr1)
   obtain ⟨hz1, hl1⟩ := hz.exp hr1
   refine gP ?_
   refine RW.own (args := #[pB p]) (C2 := [.blk b3 134 (tkC (Pa.pk z.1))]) [0, 1] (by decide) rfl rfl oK rfl rfl (fun w1 hw1 => ih.expr w1 _ hz1 (by omega) hw1) (fun er CE w2 he hk hw => PK.pn (hs1.trans (Ru.bnd_of_err he)) hk hw) ?_
   rintro ⟨x, z2⟩ ⟨b, F⟩ hr2
   have hs2 := hs1.trans (Ru.bnd_of_ok hr2)
   obtain ⟨hz2, hl2⟩ := hz1.ex hr2
   refine gP ?_
   refine RW.own (args := #[pB p, .string (bs Ru.sRp)]) (C2 := [tr x b F, .blk b3 134 (tkC (Pa.pk z.1))]) [0, 1, 2] (by decide) rfl rfl oK rfl rfl (fun w1 hw1 => expect_c w1 Φ hc hz2 hw1) (fun er CE w2 he hk hw => PK.pn (hs2.trans (Ru.bnd_of_err he)) hk hw) ?_
   rintro ⟨_, z3⟩ _ hr3
   have hs3 := hs2.trans (Ru.bnd_of_ok hr3)
   refine RW.wk (J' := St ⟨w, Φ, [p]⟩ Φ [tr x b F, pA p tv toks z3, .blk b3 134 (tkC (Pa.pk z.1))]) (fun _ h => StP.sel h [1, 0, 2] (by decide) rfl) (Ru.RW.cut fun kv l G0 hF hwx hll => ?_)
   refine gP ?_
   refine fin_res (vs := [pB b]) rfl rfl ⟨.tmp rfl, trivial⟩ rfl (fun w2 hw => EK.ok hs3 ⟨_, (Ru.tr_join ⟨hwx.1, hwx.2.1, hwx.2.2.1, hwx.2.2.2.1, hat, hwx.2.2.2.2.2⟩ hw).sel [1, 0] (by decide) rfl⟩)
end
end Go.Proofs.YtnfmjfheciihjaaGreatDoor
