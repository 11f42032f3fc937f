/- Lemmas. Conditions: those of each theorem. -/
import Derived.Test.YtnfmjfheciihjaaGreatDoorYExD
set_option maxRecDepth 8000
set_option maxHeartbeats 16000000
namespace Go.K
open Go Go.RowKit
section
variable {P : Program} {N : Nat} {D : List Deferred} {ops : Array Oper} {Q : Exit → Act → World → Prop} {f : Nat → Value} {s : List (Nat × Value)} {J : Cls} {α : Type} {J' : α → Cls}
theorem AW.ex {c : Code} (h : ∀ w, J.p w → ∃ x, (J' x).p w) (k : ∀ x, AW P N D c Q f s (J' x)) : AW P N D c Q f s J := fun a w ha hw => by
 obtain ⟨x, hx⟩ := h w hw
 exact k x a w ha hx
theorem RW.ex {l : List Oper} (h : ∀ w, J.p w → ∃ x, (J' x).p w) (k : ∀ x, RW P N D ops Q l f s (J' x)) : RW P N D ops Q l f s J := fun a w ha hw => by
 obtain ⟨x, hx⟩ := h w hw
 exact k x a w ha hx
theorem AW.joinT {c y : Code} (I : List (Nat × Value) → Cls → Prop) (h : AW P N D c (Mid N D I Q) f s J) (k : ∀ f' s' J', I s' J' → AW P N D y Q f' s' J') : AW P N D c (Exit.then (fun a w => y.wp P Q a w) Q) f s J := fun a w ha hw => by
 refine Code.wp_mono (fun e a' w' hQ => ?_) (h a w ha hw)
 cases e with
 | normal => obtain ⟨f', s', J', hI, hr, hp⟩ := hQ; exact k f' s' J' hI a' w' hr hp
 | _ => exact hQ
theorem AW.use {c : Code} {φ : Prop} (hf : ∀ w, J.p w → φ) (h : φ → AW P N D c Q f s J) : AW P N D c Q f s J := fun a w ha hw => h (hf w hw) a w ha hw
end
end Go.K
namespace Ru
open Go Go.K Bt
section
variable {B : Bs} {Φ : Hp} {C : List Chunk} {w : World}
theorem trs_at {xs ys : List Nd} {y : Nd} {l G : List Nat} (h : StP B Φ (trs (xs ++ y :: ys) l G :: C) w) : ∃ l1 b l3 F1 F F3, l = l1 ++ b :: l3 ∧ G = F1 ++ (F ++ F3) ∧ l1.length = xs.length ∧ StP B Φ (trs xs l1 F1 :: tr y b F :: trs ys l3 F3 :: C) w := by
 obtain ⟨l1, l2, F1, F2, h1, h2, h3, h4, h5⟩ := trs_split h
 obtain ⟨m1, m2, G1, G2, k1, k2, k3, k4, k5⟩ := trs_split (xs := [y]) (h5.perm (List.Perm.swap _ _ _))
 obtain ⟨b, hb, k6⟩ := trs_to1 k5
 subst hb
 exact ⟨l1, b, m2, F1, G1, G2, by rw [h1, k1]; rfl, by rw [h2, k2], h3, k6.perm (List.perm_middle (l₁ := [_, _])).symm⟩
theorem trs_un {xs ys : List Nd} {y : Nd} {l1 l3 F1 F F3 : List Nat} {b : Nat} (h : StP B Φ (trs xs l1 F1 :: tr y b F :: trs ys l3 F3 :: C) w) : StP B Φ (trs (xs ++ y :: ys) (l1 ++ b :: l3) (F1 ++ (F ++ F3)) :: C) w := by
 have h1 := trs_one (h.perm (List.Perm.swap _ _ _))
 have h2 := trs_app (h1.perm (List.Perm.cons _ (List.Perm.swap _ _ _)))
 exact trs_app (h2.perm (List.Perm.swap _ _ _))
end
end Ru
namespace Ru
open Go Go.K Bt
end Ru
namespace Ru
open Go Go.K Bt
theorem ixN_I64 {l : List (List UInt8)} (t : Token) (h : l.length ≤ 9223372036854775807) : I64 (ixN l t) := by
 unfold ixN ix
 cases hq : l.findIdx? (fun x => decide (x = t.Text)) with
 | none => exact ⟨by decide, by decide⟩
 | some n =>
  have := (List.findIdx?_eq_some_iff_findIdx_eq.1 hq).1
  simp only [Option.getD_some]
  unfold I64; omega
theorem resL_len {e : Env} {fs ps : List (List UInt8)} : ∀ (xs : List Nd), (res.resL e fs ps xs).length = xs.length
 | [] => rfl
 | x :: xs => by simp only [res.resL, List.length_cons, resL_len xs]
theorem resL_app {e : Env} {fs ps : List (List UInt8)} : ∀ (xs ys : List Nd), res.resL e fs ps (xs ++ ys) = res.resL e fs ps xs ++ res.resL e fs ps ys
 | [], _ => rfl
 | x :: xs, ys => by simp only [res.resL, List.cons_append, resL_app xs ys]
theorem badL_app {e : Env} {fs ps : List (List UInt8)} : ∀ (xs ys : List Nd), bad.badL e fs ps (xs ++ ys) = bad.badL e fs ps xs ++ bad.badL e fs ps ys
 | [], _ => rfl
 | x :: xs, ys => by simp only [bad.badL, List.cons_append, badL_app xs ys, List.append_assoc]
theorem toEL_len : ∀ (xs : List Nd), (toE.toEL xs).length = xs.length
 | [] => rfl
 | x :: xs => by simp only [toE.toEL, List.length_cons, toEL_len xs]
theorem toEL_app : ∀ (xs ys : List Nd), toE.toEL (xs ++ ys) = toE.toEL xs ++ toE.toEL ys
 | [], _ => rfl
 | x :: xs, ys => by simp only [toE.toEL, List.cons_append, toEL_app xs ys]
theorem lstL_app (a : Int) (l m : List Int) : lstL a (l ++ m) = lstL (lstL a l) m := List.foldl_append
theorem take_drop_at {α : Type} {l : List α} {i : Nat} (h : i < l.length) : l.drop i = l[i] :: l.drop (i + 1) := (List.drop_eq_getElem_cons h)
end Ru
namespace Go.Proofs.YtnfmjfheciihjaaGreatDoor
open Go Go.K Go.RowKit
open Ru (tr trs pB nC TrF fC cC fnP clP Tl NmS BasV ixM wfH)
attribute [local irreducible] AW RW DW Post Qt
abbrev zP5 (fv cv : Value) (a b c d e : Nat) : List Value := [fv, cv, .map (some a), .map (some b), .map (some c), .map (some d), .map (some e)]
structure RCtx (Φ : Hp) (z : RsB) (e : Ru.Env) (fns : List (List UInt8)) : Prop where
 p : (tab z.m1 e.places).sat Φ
 o : (tab z.m2 e.owners).sat Φ
 l : (tab z.m3 e.links).sat Φ
 t : (tab z.m4 e.towns).sat Φ
 f : (tab z.m5 fns).sat Φ
 np : e.places.length ≤ 9223372036854775807
 no : e.owners.length ≤ 9223372036854775807
 nl : e.links.length ≤ 9223372036854775807
 nt : e.towns.length ≤ 9223372036854775807
 nf : fns.length ≤ 9223372036854775807
theorem RCtx.up {Φ Ψ : Hp} {z : RsB} {e : Ru.Env} {fns : List (List UInt8)} (h : RCtx Φ z e fns) (hl : Hp.le Φ Ψ) : RCtx Ψ z e fns := { h with
 p := tab_up h.p hl
 o := tab_up h.o hl
 l := tab_up h.l hl
 t := tab_up h.t hl
 f := tab_up h.f hl }
theorem PMap.of {Φ : Hp} {b : Nat} {l : List (List UInt8)} (h : (tab b l).sat Φ) : PMap Φ l (.map (some b)) := .inr ⟨b, rfl, h⟩
def Own1 (e : Ru.Env) (fs ps : List (List UInt8)) (k n o q : Int) (nm ow : Bt.Token) (a n' o' q' a' : Int) : Prop :=
 I64 n' ∧ I64 o' ∧ I64 q' ∧ ∀ (at_ : Int) (ks : List Bt.Nd), Ru.res e fs ps ⟨k, n, o, q, at_, nm, ow, ks⟩ = ⟨k, n', o', q', at_, nm, ow, Ru.res.resL e fs ps ks⟩ ∧ Ru.lstL a (Ru.bad e fs ps ⟨k, n, o, q, at_, nm, ow, ks⟩) = Ru.lstL a' (Ru.bad.badL e fs ps ks)
abbrev exA (x : Bt.Nd) (v : Value) : List Value := [iV x.Kind, iV x.n, iV x.of_, iV x.of2, v]
theorem exC_toE (y : Bt.Nd) (v : Value) : exC (Ru.toE y) v = exA y v := by cases y; rfl
section
variable {e : Ru.Env} {fs ps : List (List UInt8)} {k n o q a : Int} {nm ow : Bt.Token} {Φ : Hp} {z : RsB}
theorem own1_var (h : k = 15) (hp : ps.length ≤ 9223372036854775807) (ho : I64 o) (hq : I64 q) : Own1 e fs ps k n o q nm ow a (Ru.ixN ps nm) o q (Ru.lstL a (Ru.ixB ps nm)) := by
 subst h
 exact ⟨Ru.ixN_I64 nm hp, ho, hq, fun at_ ks => ⟨by rw [Ru.res, if_pos rfl], by rw [Ru.bad, if_pos rfl, Ru.lstL_app]⟩⟩
theorem own1_call (h : k = 14) (hp : fs.length ≤ 9223372036854775807) (ho : I64 o) (hq : I64 q) : Own1 e fs ps k n o q nm ow a (Ru.ixN fs nm) o q (Ru.lstL a (Ru.ixB fs nm)) := by
 subst h
 exact ⟨Ru.ixN_I64 nm hp, ho, hq, fun at_ ks => ⟨by rw [Ru.res, if_neg (by decide), if_pos rfl], by rw [Ru.bad, if_neg (by decide), if_pos rfl, Ru.lstL_app]⟩⟩
theorem own1_pl (h : k = 1) (hn : n = 0 ∨ n = 1) (hp : e.places.length ≤ 9223372036854775807) (h1 : I64 n) (hq : I64 q) : Own1 e fs ps k n o q nm ow a n (Ru.ixN e.places nm) q (Ru.lstL a (Ru.ixB e.places nm)) := by
 subst h
 exact ⟨h1, Ru.ixN_I64 nm hp, hq, fun at_ ks => ⟨by rw [Ru.res, if_neg (by decide), if_neg (by decide), if_pos rfl, if_pos hn], by rw [Ru.bad, if_neg (by decide), if_neg (by decide), if_pos rfl, if_pos hn, Ru.lstL_app]⟩⟩
theorem own1_ow (h : k = 1) (hn : n = 2) (hp : e.places.length ≤ 9223372036854775807) (ho : e.owners.length ≤ 9223372036854775807) (h1 : I64 n) : Own1 e fs ps k n o q nm ow a n (Ru.ixN e.places nm) (Ru.ixN e.owners ow) (Ru.lstL (Ru.lstL a (Ru.ixB e.places nm)) (Ru.ixB e.owners ow)) := by
 subst h; subst hn
 exact ⟨h1, Ru.ixN_I64 nm hp, Ru.ixN_I64 ow ho, fun at_ ks => ⟨by rw [Ru.res, if_neg (by decide), if_neg (by decide), if_pos rfl, if_neg (by decide), if_pos rfl], by rw [Ru.bad, if_neg (by decide), if_neg (by decide), if_pos rfl, if_neg (by decide), if_pos rfl, Ru.lstL_app, Ru.lstL_app]⟩⟩
theorem own1_ln (h : k = 1) (hn : n = 3) (hp : e.links.length ≤ 9223372036854775807) (h1 : I64 n) (hq : I64 q) : Own1 e fs ps k n o q nm ow a n (Ru.ixN e.links nm) q (Ru.lstL a (Ru.ixB e.links nm)) := by
 subst h; subst hn
 exact ⟨h1, Ru.ixN_I64 nm hp, hq, fun at_ ks => ⟨by rw [Ru.res, if_neg (by decide), if_neg (by decide), if_pos rfl, if_neg (by decide), if_neg (by decide), if_pos rfl], by rw [Ru.bad, if_neg (by decide), if_neg (by decide), if_pos rfl, if_neg (by decide), if_neg (by decide), if_pos rfl, Ru.lstL_app]⟩⟩
theorem own1_tw (h : k = 1) (hn : n = 7) (hp : e.towns.length ≤ 9223372036854775807) (h1 : I64 n) (hq : I64 q) : Own1 e fs ps k n o q nm ow a n (Ru.ixN e.towns nm) q (Ru.lstL a (Ru.ixB e.towns nm)) := by
 subst h; subst hn
 exact ⟨h1, Ru.ixN_I64 nm hp, hq, fun at_ ks => ⟨by rw [Ru.res, if_neg (by decide), if_neg (by decide), if_pos rfl, if_neg (by decide), if_neg (by decide), if_neg (by decide), if_pos rfl], by rw [Ru.bad, if_neg (by decide), if_neg (by decide), if_pos rfl, if_neg (by decide), if_neg (by decide), if_neg (by decide), if_pos rfl, Ru.lstL_app]⟩⟩
theorem own1_no1 (h : k = 1) (h01 : ¬ (n = 0 ∨ n = 1)) (h2 : n ≠ 2) (h3 : n ≠ 3) (h7 : n ≠ 7) (h1 : I64 n) (ho : I64 o) (hq : I64 q) : Own1 e fs ps k n o q nm ow a n o q a := by
 subst h
 exact ⟨h1, ho, hq, fun at_ ks => ⟨by rw [Ru.res, if_neg (by decide), if_neg (by decide), if_pos rfl, if_neg h01, if_neg h2, if_neg h3, if_neg h7], by rw [Ru.bad, if_neg (by decide), if_neg (by decide), if_pos rfl, if_neg h01, if_neg h2, if_neg h3, if_neg h7]; rfl⟩⟩
theorem own1_no (h15 : k ≠ 15) (h14 : k ≠ 14) (h1' : k ≠ 1) (h1 : I64 n) (ho : I64 o) (hq : I64 q) : Own1 e fs ps k n o q nm ow a n o q a :=
 ⟨h1, ho, hq, fun at_ ks => ⟨by rw [Ru.res, if_neg h15, if_neg h14, if_neg h1'], by rw [Ru.bad, if_neg h15, if_neg h14, if_neg h1']; rfl⟩⟩
end
theorem rexpr_c {e : Ru.Env} {fs ps : List (List UInt8)} {z : RsB} {fv cv mv : Value} (hps : ps.length ≤ 9223372036854775807) : ∀ (n : Nat) (w : World) (Φ : Hp) (x : Bt.Nd) (b : Nat) (F : List Nat) (a : Int), Ru.dep x ≤ n → Ru.nn x ≤ 1000000 → RCtx Φ z e fs → PMap Φ ps mv →
  StP ⟨w, Φ, fps [.blk z.r 110 (rC fv cv z a), tr x b F]⟩ Φ [.blk z.r 110 (rC fv cv z a), tr x b F] w →
  Calls pg 72 #[pB z.r, pB b, mv] w (OwnG w Φ [.blk z.r 110 (rC fv cv z a), tr x b F] (fun v : Value => .agg (exA (Ru.res e fs ps x) v).toArray) (fun _ => [.blk z.r 110 (rC fv cv z (Ru.lstL a (Ru.bad e fs ps x))), tr (Ru.res e fs ps x) b F])
   fun v Ψ => wfE (Ru.toE (Ru.res e fs ps x)) ∧ RepSl Ψ (Ru.toE (Ru.res e fs ps x)).Kids v) := by
 intro n
 induction n with
 | zero =>
  intro w Φ x b F a hd
  obtain ⟨k, n, o, q, at_, nm, ow, ks⟩ := x
  simp only [Ru.dep] at hd
  omega
 | succ n ih =>
 intro w Φ x b F a hd hn hR hm h0
 obtain ⟨k, n0, o0, q0, at_, nm, ow, ks⟩ := x
 simp only [Ru.dep] at hd
 simp only [Ru.nn] at hn
 have hks := Ru.nnL_len ks
 refine calls_of_AW (args := [pB z.r, pB b, mv]) Tryz.func72 rfl (lBT rfl) (St ⟨w, Φ, fps [.blk z.r 110 (rC fv cv z a), tr ⟨k, n0, o0, q0, at_, nm, ow, ks⟩ b F]⟩ Φ [.blk z.r 110 (rC fv cv z a), tr ⟨k, n0, o0, q0, at_, nm, ow, ks⟩ b F]) h0 ?_
 show AW _ _ [] _ _ _ [(0, pB z.r), (1, pB b), (2, mv)] _
 refine gR ?_
 refine RW.alc rfl fun b6 => ?_
 refine gR ?_
 refine RW.wk (J' := St ⟨w, Φ, fps [.blk z.r 110 (rC fv cv z a), tr ⟨k, n0, o0, q0, at_, nm, ow, ks⟩ b F]⟩ Φ [tr ⟨k, n0, o0, q0, at_, nm, ow, ks⟩ b F, .blk z.r 110 (rC fv cv z a), .blk b6 69 zN5]) (fun _ h => StP.sel h [2, 1, 0] (by decide) rfl) (Ru.RW.cut fun kv l G hF hwf hl => ?_)
 generalize hE : fps [.blk z.r 110 (rC fv cv z a), tr ⟨k, n0, o0, q0, at_, nm, ow, ks⟩ b F] = E
 subst hF
 have hnm : nm.Text.length ≤ maxLen := by have h : nm.Text.length ≤ 65536 := hwf.2.2.2.2.2.1.2.1; simp only [maxLen]; omega
 have how : ow.Text.length ≤ maxLen := by have h : ow.Text.length ≤ 65536 := hwf.2.2.2.2.2.2.2.1; simp only [maxLen]; omega
 have hk64 : I64 k := hwf.1
 have hn64 : I64 n0 := hwf.2.1
 have ho64 : I64 o0 := hwf.2.2.1
 have hq64 : I64 q0 := hwf.2.2.2.1
 refine RW.q (v := iV k) rfl (q_load rfl uT3 rfl (Cell.blk 0 rfl rfl)) (RW.nil (Post.then_n ?_))
 have hpre : ∀ (a : Int) (j : Nat) (v : Value), ((zP5 fv cv z.m1 z.m2 z.m3 z.m4 z.m5) : List Value)[j]? = some v → (rC fv cv z a)[j]? = some v := fun a j v hj => by
  match j, hj with
  | 0, hj => exact hj
  | 1, hj => exact hj
  | 2, hj => exact hj
  | 3, hj => exact hj
  | 4, hj => exact hj
  | 5, hj => exact hj
  | 6, hj => exact hj
 refine AW.joinT (I := fun s' J' => ∃ n' o' q' a' : Int, Own1 e fs ps k n0 o0 q0 nm ow a n' o' q' a' ∧ s' = [(0, pB z.r), (1, pB b), (2, mv), (6, pB b6)] ∧ J' = St ⟨w, Φ, E⟩ Φ [.blk b 153 (nC k n' o' q' at_ nm ow kv), .row kv 145 1 ks.length (l.map pB), trs ks l G, .blk z.r 110 (rC fv cv z a'), .blk b6 69 zN5]) ?_ ?_
 ·
  refine gR ?_
  refine AW.cond rfl (fun h15 => ?_) fun h15 => ?_
  ·
   have h15 : k = 15 := odT h15
   refine gR ?_
   refine RW.ownU (args := #[pB z.r, mv, .agg (tkC nm).toArray]) (C2 := [.blk b 153 (nC k n0 o0 q0 at_ nm ow kv), .row kv 145 1 ks.length (l.map pB), trs ks l G, .blk b6 69 zN5]) [3, 0, 1, 2, 4] (by decide) rfl rfl oK rfl rfl (fun w1 hw1 => rfind_c w1 hm hnm hw1) fun _ => ?_
   refine gR ?_
   exact Post.mid_n ⟨(Ru.ixN ps nm), o0, q0, (Ru.lstL a (Ru.ixB ps nm)), own1_var h15 hps ho64 hq64, rfl, rfl⟩ ⟨rfl, rfl, rfl, rfl, trivial⟩ (fun _ h => StP.sel h [1, 2, 3, 0, 4] (by decide) rfl)
  ·
   have h15 : k ≠ 15 := odF h15
   refine gR ?_
   refine AW.cond rfl (fun h14 => ?_) fun h14 => ?_
   ·
    have h14 : k = 14 := odT h14
    refine gR ?_
    have hJ : ∀ w1, (St ⟨w, Φ, E⟩ Φ [.blk b 153 (nC k n0 o0 q0 at_ nm ow kv), .row kv 145 1 ks.length (l.map pB), trs ks l G, .blk z.r 110 (rC fv cv z a), .blk b6 69 zN5]).p w1 → (St ⟨w, Φ, E⟩ Φ [.blk b 153 (nC k n0 o0 q0 at_ nm ow kv), .pre z.r 110 (zP5 fv cv z.m1 z.m2 z.m3 z.m4 z.m5)]).p w1 := fun w1 h => (StP.toPre (h.sel (C' := [.blk z.r 110 (rC fv cv z a), .blk b 153 (nC k n0 o0 q0 at_ nm ow kv)]) [3, 0] (by decide) rfl) (hpre a)).sel [1, 0] (by decide) rfl
    have hJ2 : ∀ w1, (St ⟨w, Φ, E⟩ Φ [.blk z.r 110 (rC fv cv z (Ru.lstL a (Ru.ixB fs nm))), .blk b 153 (nC k n0 o0 q0 at_ nm ow kv), .row kv 145 1 ks.length (l.map pB), trs ks l G, .blk b6 69 zN5]).p w1 → (St ⟨w, Φ, E⟩ Φ [.blk b 153 (nC k n0 o0 q0 at_ nm ow kv), .pre z.r 110 (zP5 fv cv z.m1 z.m2 z.m3 z.m4 z.m5)]).p w1 := fun w1 h => (StP.toPre (h.sel (C' := [.blk z.r 110 (rC fv cv z (Ru.lstL a (Ru.ixB fs nm))), .blk b 153 (nC k n0 o0 q0 at_ nm ow kv)]) [0, 1] (by decide) rfl) (hpre (Ru.lstL a (Ru.ixB fs nm)))).sel [1, 0] (by decide) rfl
    refine AW.drawW (J0 := St ⟨w, Φ, E⟩ Φ [.blk b 153 (nC k n0 o0 q0 at_ nm ow kv), .pre z.r 110 (zP5 fv cv z.m1 z.m2 z.m3 z.m4 z.m5)]) (tq10 [.e, .q, .q, .e]) od14 hmix (by kernel_rfl) ?_
    refine gR ?_
    refine DW.ownU (args := #[pB z.r, .map (some z.m5), .agg (tkC nm).toArray]) (C2 := [.blk b 153 (nC k n0 o0 q0 at_ nm ow kv), .row kv 145 1 ks.length (l.map pB), trs ks l G, .blk b6 69 zN5]) [3, 0, 1, 2, 4] (by decide) rfl rfl oK rfl rfl (fun w1 hw1 => rfind_c w1 (.of hR.f) hnm hw1) (fun _ w1 h => hJ2 w1 h) fun _ => ?_
    refine gR ?_
    exact Post.mid_n ⟨(Ru.ixN fs nm), o0, q0, (Ru.lstL a (Ru.ixB fs nm)), own1_call h14 hR.nf ho64 hq64, rfl, rfl⟩ ⟨rfl, rfl, rfl, rfl, trivial⟩ (fun _ h => StP.sel h [1, 2, 3, 0, 4] (by decide) rfl)
   ·
    have h14 : k ≠ 14 := odF h14
    refine gR ?_
    refine AW.cond rfl (fun h1 => ?_) fun h1 => ?_
    ·
     have h1 : k = 1 := odT h1
     refine gR ?_
     refine AW.orCh (t := 47) (x := 46) (a := n0) rfl rfl _ rfl rfl rfl rfl fun f' => ?_
     refine gR ?_
     have h01 : (decide (n0 = 0) || [((1 : Int), 49)].any fun p => decide (n0 = p.1)) = decide (n0 = 0 ∨ n0 = 1) := by simp
     refine AW.cond rfl (fun hc => ?_) fun hc => ?_
     ·
      have hc : n0 = 0 ∨ n0 = 1 := odT (h01.symm.trans hc)
      refine gR ?_
      have hJ : ∀ w1, (St ⟨w, Φ, E⟩ Φ [.blk b 153 (nC k n0 o0 q0 at_ nm ow kv), .row kv 145 1 ks.length (l.map pB), trs ks l G, .blk z.r 110 (rC fv cv z a), .blk b6 69 zN5]).p w1 → (St ⟨w, Φ, E⟩ Φ [.blk b 153 (nC k n0 o0 q0 at_ nm ow kv), .pre z.r 110 (zP5 fv cv z.m1 z.m2 z.m3 z.m4 z.m5)]).p w1 := fun w1 h => (StP.toPre (h.sel (C' := [.blk z.r 110 (rC fv cv z a), .blk b 153 (nC k n0 o0 q0 at_ nm ow kv)]) [3, 0] (by decide) rfl) (hpre a)).sel [1, 0] (by decide) rfl
      have hJ2 : ∀ w1, (St ⟨w, Φ, E⟩ Φ [.blk z.r 110 (rC fv cv z (Ru.lstL a (Ru.ixB e.places nm))), .blk b 153 (nC k n0 o0 q0 at_ nm ow kv), .row kv 145 1 ks.length (l.map pB), trs ks l G, .blk b6 69 zN5]).p w1 → (St ⟨w, Φ, E⟩ Φ [.blk b 153 (nC k n0 o0 q0 at_ nm ow kv), .pre z.r 110 (zP5 fv cv z.m1 z.m2 z.m3 z.m4 z.m5)]).p w1 := fun w1 h => (StP.toPre (h.sel (C' := [.blk z.r 110 (rC fv cv z (Ru.lstL a (Ru.ixB e.places nm))), .blk b 153 (nC k n0 o0 q0 at_ nm ow kv)]) [0, 1] (by decide) rfl) (hpre (Ru.lstL a (Ru.ixB e.places nm)))).sel [1, 0] (by decide) rfl
      refine AW.drawW (J0 := St ⟨w, Φ, E⟩ Φ [.blk b 153 (nC k n0 o0 q0 at_ nm ow kv), .pre z.r 110 (zP5 fv cv z.m1 z.m2 z.m3 z.m4 z.m5)]) (tq10 [.e, .q, .q, .e]) od14 hmix (by kernel_rfl) ?_
      refine gR ?_
      refine DW.ownU (args := #[pB z.r, .map (some z.m1), .agg (tkC nm).toArray]) (C2 := [.blk b 153 (nC k n0 o0 q0 at_ nm ow kv), .row kv 145 1 ks.length (l.map pB), trs ks l G, .blk b6 69 zN5]) [3, 0, 1, 2, 4] (by decide) rfl rfl oK rfl rfl (fun w1 hw1 => rfind_c w1 (.of hR.p) hnm hw1) (fun _ w1 h => hJ2 w1 h) fun _ => ?_
      refine gR ?_
      exact Post.mid_n ⟨n0, (Ru.ixN e.places nm), q0, (Ru.lstL a (Ru.ixB e.places nm)), own1_pl h1 hc hR.np hn64 hq64, rfl, rfl⟩ ⟨rfl, rfl, rfl, rfl, trivial⟩ (fun _ h => StP.sel h [1, 2, 3, 0, 4] (by decide) rfl)
     ·
      have hc : ¬ (n0 = 0 ∨ n0 = 1) := odF (h01.symm.trans hc)
      refine gR ?_
      refine AW.cond rfl (fun h2 => ?_) fun h2 => ?_
      ·
       have h2 : n0 = 2 := odT h2
       refine gR ?_
       have hJ : ∀ w1, (St ⟨w, Φ, E⟩ Φ [.blk b 153 (nC k n0 o0 q0 at_ nm ow kv), .row kv 145 1 ks.length (l.map pB), trs ks l G, .blk z.r 110 (rC fv cv z a), .blk b6 69 zN5]).p w1 → (St ⟨w, Φ, E⟩ Φ [.blk b 153 (nC k n0 o0 q0 at_ nm ow kv), .pre z.r 110 (zP5 fv cv z.m1 z.m2 z.m3 z.m4 z.m5)]).p w1 := fun w1 h => (StP.toPre (h.sel (C' := [.blk z.r 110 (rC fv cv z a), .blk b 153 (nC k n0 o0 q0 at_ nm ow kv)]) [3, 0] (by decide) rfl) (hpre a)).sel [1, 0] (by decide) rfl
       have hJ2 : ∀ w1, (St ⟨w, Φ, E⟩ Φ [.blk z.r 110 (rC fv cv z (Ru.lstL a (Ru.ixB e.places nm))), .blk b 153 (nC k n0 o0 q0 at_ nm ow kv), .row kv 145 1 ks.length (l.map pB), trs ks l G, .blk b6 69 zN5]).p w1 → (St ⟨w, Φ, E⟩ Φ [.blk b 153 (nC k n0 o0 q0 at_ nm ow kv), .pre z.r 110 (zP5 fv cv z.m1 z.m2 z.m3 z.m4 z.m5)]).p w1 := fun w1 h => (StP.toPre (h.sel (C' := [.blk z.r 110 (rC fv cv z (Ru.lstL a (Ru.ixB e.places nm))), .blk b 153 (nC k n0 o0 q0 at_ nm ow kv)]) [0, 1] (by decide) rfl) (hpre (Ru.lstL a (Ru.ixB e.places nm)))).sel [1, 0] (by decide) rfl
       refine AW.drawW (J0 := St ⟨w, Φ, E⟩ Φ [.blk b 153 (nC k n0 o0 q0 at_ nm ow kv), .pre z.r 110 (zP5 fv cv z.m1 z.m2 z.m3 z.m4 z.m5)]) (tq10 [.e, .q, .q, .e]) od14 hmix (by kernel_rfl) ?_
       refine gR ?_
       refine DW.ownU (args := #[pB z.r, .map (some z.m1), .agg (tkC nm).toArray]) (C2 := [.blk b 153 (nC k n0 o0 q0 at_ nm ow kv), .row kv 145 1 ks.length (l.map pB), trs ks l G, .blk b6 69 zN5]) [3, 0, 1, 2, 4] (by decide) rfl rfl oK rfl rfl (fun w1 hw1 => rfind_c w1 (.of hR.p) hnm hw1) (fun _ w1 h => hJ2 w1 h) fun _ => ?_
       refine gR ?_
       refine AW.wk (J' := St ⟨w, Φ, E⟩ Φ [.blk b 153 (nC k n0 (Ru.ixN e.places nm) q0 at_ nm ow kv), .row kv 145 1 ks.length (l.map pB), trs ks l G, .blk z.r 110 (rC fv cv z (Ru.lstL a (Ru.ixB e.places nm))), .blk b6 69 zN5]) (fun _ h => StP.sel h [1, 2, 3, 0, 4] (by decide) rfl) ?_
       clear hJ hJ2
       have hJ : ∀ w1, (St ⟨w, Φ, E⟩ Φ [.blk b 153 (nC k n0 (Ru.ixN e.places nm) q0 at_ nm ow kv), .row kv 145 1 ks.length (l.map pB), trs ks l G, .blk z.r 110 (rC fv cv z (Ru.lstL a (Ru.ixB e.places nm))), .blk b6 69 zN5]).p w1 → (St ⟨w, Φ, E⟩ Φ [.blk b 153 (nC k n0 (Ru.ixN e.places nm) q0 at_ nm ow kv), .pre z.r 110 (zP5 fv cv z.m1 z.m2 z.m3 z.m4 z.m5)]).p w1 := fun w1 h => (StP.toPre (h.sel (C' := [.blk z.r 110 (rC fv cv z (Ru.lstL a (Ru.ixB e.places nm))), .blk b 153 (nC k n0 (Ru.ixN e.places nm) q0 at_ nm ow kv)]) [3, 0] (by decide) rfl) (hpre (Ru.lstL a (Ru.ixB e.places nm)))).sel [1, 0] (by decide) rfl
       have hJ2 : ∀ w1, (St ⟨w, Φ, E⟩ Φ [.blk z.r 110 (rC fv cv z (Ru.lstL (Ru.lstL a (Ru.ixB e.places nm)) (Ru.ixB e.owners ow))), .blk b 153 (nC k n0 (Ru.ixN e.places nm) q0 at_ nm ow kv), .row kv 145 1 ks.length (l.map pB), trs ks l G, .blk b6 69 zN5]).p w1 → (St ⟨w, Φ, E⟩ Φ [.blk b 153 (nC k n0 (Ru.ixN e.places nm) q0 at_ nm ow kv), .pre z.r 110 (zP5 fv cv z.m1 z.m2 z.m3 z.m4 z.m5)]).p w1 := fun w1 h => (StP.toPre (h.sel (C' := [.blk z.r 110 (rC fv cv z (Ru.lstL (Ru.lstL a (Ru.ixB e.places nm)) (Ru.ixB e.owners ow))), .blk b 153 (nC k n0 (Ru.ixN e.places nm) q0 at_ nm ow kv)]) [0, 1] (by decide) rfl) (hpre (Ru.lstL (Ru.lstL a (Ru.ixB e.places nm)) (Ru.ixB e.owners ow)))).sel [1, 0] (by decide) rfl
       refine AW.drawW (J0 := St ⟨w, Φ, E⟩ Φ [.blk b 153 (nC k n0 (Ru.ixN e.places nm) q0 at_ nm ow kv), .pre z.r 110 (zP5 fv cv z.m1 z.m2 z.m3 z.m4 z.m5)]) (tq10 [.e, .q, .q, .e]) od14 hmix (by kernel_rfl) ?_
       refine gR ?_
       refine DW.ownU (args := #[pB z.r, .map (some z.m2), .agg (tkC ow).toArray]) (C2 := [.blk b 153 (nC k n0 (Ru.ixN e.places nm) q0 at_ nm ow kv), .row kv 145 1 ks.length (l.map pB), trs ks l G, .blk b6 69 zN5]) [3, 0, 1, 2, 4] (by decide) rfl rfl oK rfl rfl (fun w1 hw1 => rfind_c w1 (.of hR.o) how hw1) (fun _ w1 h => hJ2 w1 h) fun _ => ?_
       refine gR ?_
       exact Post.mid_n ⟨n0, (Ru.ixN e.places nm), (Ru.ixN e.owners ow), (Ru.lstL (Ru.lstL a (Ru.ixB e.places nm)) (Ru.ixB e.owners ow)), own1_ow h1 h2 hR.np hR.no hn64, rfl, rfl⟩ ⟨rfl, rfl, rfl, rfl, trivial⟩ (fun _ h => StP.sel h [1, 2, 3, 0, 4] (by decide) rfl)
      ·
       have h2 : n0 ≠ 2 := odF h2
       refine gR ?_
       refine AW.cond rfl (fun h3 => ?_) fun h3 => ?_
       ·
        have h3 : n0 = 3 := odT h3
        refine gR ?_
        have hJ : ∀ w1, (St ⟨w, Φ, E⟩ Φ [.blk b 153 (nC k n0 o0 q0 at_ nm ow kv), .row kv 145 1 ks.length (l.map pB), trs ks l G, .blk z.r 110 (rC fv cv z a), .blk b6 69 zN5]).p w1 → (St ⟨w, Φ, E⟩ Φ [.blk b 153 (nC k n0 o0 q0 at_ nm ow kv), .pre z.r 110 (zP5 fv cv z.m1 z.m2 z.m3 z.m4 z.m5)]).p w1 := fun w1 h => (StP.toPre (h.sel (C' := [.blk z.r 110 (rC fv cv z a), .blk b 153 (nC k n0 o0 q0 at_ nm ow kv)]) [3, 0] (by decide) rfl) (hpre a)).sel [1, 0] (by decide) rfl
        have hJ2 : ∀ w1, (St ⟨w, Φ, E⟩ Φ [.blk z.r 110 (rC fv cv z (Ru.lstL a (Ru.ixB e.links nm))), .blk b 153 (nC k n0 o0 q0 at_ nm ow kv), .row kv 145 1 ks.length (l.map pB), trs ks l G, .blk b6 69 zN5]).p w1 → (St ⟨w, Φ, E⟩ Φ [.blk b 153 (nC k n0 o0 q0 at_ nm ow kv), .pre z.r 110 (zP5 fv cv z.m1 z.m2 z.m3 z.m4 z.m5)]).p w1 := fun w1 h => (StP.toPre (h.sel (C' := [.blk z.r 110 (rC fv cv z (Ru.lstL a (Ru.ixB e.links nm))), .blk b 153 (nC k n0 o0 q0 at_ nm ow kv)]) [0, 1] (by decide) rfl) (hpre (Ru.lstL a (Ru.ixB e.links nm)))).sel [1, 0] (by decide) rfl
        refine AW.drawW (J0 := St ⟨w, Φ, E⟩ Φ [.blk b 153 (nC k n0 o0 q0 at_ nm ow kv), .pre z.r 110 (zP5 fv cv z.m1 z.m2 z.m3 z.m4 z.m5)]) (tq10 [.e, .q, .q, .e]) od14 hmix (by kernel_rfl) ?_
        refine gR ?_
        refine DW.ownU (args := #[pB z.r, .map (some z.m3), .agg (tkC nm).toArray]) (C2 := [.blk b 153 (nC k n0 o0 q0 at_ nm ow kv), .row kv 145 1 ks.length (l.map pB), trs ks l G, .blk b6 69 zN5]) [3, 0, 1, 2, 4] (by decide) rfl rfl oK rfl rfl (fun w1 hw1 => rfind_c w1 (.of hR.l) hnm hw1) (fun _ w1 h => hJ2 w1 h) fun _ => ?_
        refine gR ?_
        exact Post.mid_n ⟨n0, (Ru.ixN e.links nm), q0, (Ru.lstL a (Ru.ixB e.links nm)), own1_ln h1 h3 hR.nl hn64 hq64, rfl, rfl⟩ ⟨rfl, rfl, rfl, rfl, trivial⟩ (fun _ h => StP.sel h [1, 2, 3, 0, 4] (by decide) rfl)
       ·
        have h3 : n0 ≠ 3 := odF h3
        refine gR ?_
        refine AW.cond rfl (fun h7 => ?_) fun h7 => ?_
        ·
         have h7 : n0 = 7 := odT h7
         refine gR ?_
         have hJ : ∀ w1, (St ⟨w, Φ, E⟩ Φ [.blk b 153 (nC k n0 o0 q0 at_ nm ow kv), .row kv 145 1 ks.length (l.map pB), trs ks l G, .blk z.r 110 (rC fv cv z a), .blk b6 69 zN5]).p w1 → (St ⟨w, Φ, E⟩ Φ [.blk b 153 (nC k n0 o0 q0 at_ nm ow kv), .pre z.r 110 (zP5 fv cv z.m1 z.m2 z.m3 z.m4 z.m5)]).p w1 := fun w1 h => (StP.toPre (h.sel (C' := [.blk z.r 110 (rC fv cv z a), .blk b 153 (nC k n0 o0 q0 at_ nm ow kv)]) [3, 0] (by decide) rfl) (hpre a)).sel [1, 0] (by decide) rfl
         have hJ2 : ∀ w1, (St ⟨w, Φ, E⟩ Φ [.blk z.r 110 (rC fv cv z (Ru.lstL a (Ru.ixB e.towns nm))), .blk b 153 (nC k n0 o0 q0 at_ nm ow kv), .row kv 145 1 ks.length (l.map pB), trs ks l G, .blk b6 69 zN5]).p w1 → (St ⟨w, Φ, E⟩ Φ [.blk b 153 (nC k n0 o0 q0 at_ nm ow kv), .pre z.r 110 (zP5 fv cv z.m1 z.m2 z.m3 z.m4 z.m5)]).p w1 := fun w1 h => (StP.toPre (h.sel (C' := [.blk z.r 110 (rC fv cv z (Ru.lstL a (Ru.ixB e.towns nm))), .blk b 153 (nC k n0 o0 q0 at_ nm ow kv)]) [0, 1] (by decide) rfl) (hpre (Ru.lstL a (Ru.ixB e.towns nm)))).sel [1, 0] (by decide) rfl
         refine AW.drawW (J0 := St ⟨w, Φ, E⟩ Φ [.blk b 153 (nC k n0 o0 q0 at_ nm ow kv), .pre z.r 110 (zP5 fv cv z.m1 z.m2 z.m3 z.m4 z.m5)]) (tq10 [.e, .q, .q, .e]) od14 hmix (by kernel_rfl) ?_
         refine gR ?_
         refine DW.ownU (args := #[pB z.r, .map (some z.m4), .agg (tkC nm).toArray]) (C2 := [.blk b 153 (nC k n0 o0 q0 at_ nm ow kv), .row kv 145 1 ks.length (l.map pB), trs ks l G, .blk b6 69 zN5]) [3, 0, 1, 2, 4] (by decide) rfl rfl oK rfl rfl (fun w1 hw1 => rfind_c w1 (.of hR.t) hnm hw1) (fun _ w1 h => hJ2 w1 h) fun _ => ?_
         refine gR ?_
         exact Post.mid_n ⟨n0, (Ru.ixN e.towns nm), q0, (Ru.lstL a (Ru.ixB e.towns nm)), own1_tw h1 h7 hR.nt hn64 hq64, rfl, rfl⟩ ⟨rfl, rfl, rfl, rfl, trivial⟩ (fun _ h => StP.sel h [1, 2, 3, 0, 4] (by decide) rfl)
        ·
         have h7 : n0 ≠ 7 := odF h7
         refine gR ?_
         exact Post.mid_n ⟨n0, o0, q0, a, own1_no1 h1 hc h2 h3 h7 hn64 ho64 hq64, rfl, rfl⟩ ⟨rfl, rfl, rfl, rfl, trivial⟩ (fun _ h => h)
    ·
     have h1 : k ≠ 1 := odF h1
     refine gR ?_
     exact Post.mid_n ⟨n0, o0, q0, a, own1_no h15 h14 h1 hn64 ho64 hq64, rfl, rfl⟩ ⟨rfl, rfl, rfl, rfl, trivial⟩ (fun _ h => h)
 ·
  rintro f' s' J' ⟨n1, o1, q1, a1, ⟨hn1, ho1, hq1, hO⟩, rfl, rfl⟩
  obtain ⟨hres, hbad⟩ := hO at_ ks
  rw [hres, hbad]
  clear hO hres hbad hpre
  refine gR ?_
  refine AW.draw (J0 := St ⟨w, Φ, E⟩ Φ [.blk b 153 (nC k n1 o1 q1 at_ nm ow kv)]) [.q, .q, .q, .q, .q, .q, .q, .q, .q, .q, .q, .q, .q, .q, .q, .q, .q, .e, .e] [0, 1, 2, 3, 4, 5, 6, 7, 8, 9, 10, 11, 12, 13, 14, 15, 16, 17, 18] hmix (by kernel_rfl) ?_
  refine gR ?_
  refine DW.q (v := .agg #[iV k, iV n1, iV o1, iV q1, .slice none 0 0]) (fun _ h => St.one 0 rfl h) rfl (q_build (vals := [(0, iV k), (1, iV n1), (2, iV o1), (3, iV q1)]) zero69 uT69 places69 rfl (by kernel_rfl)) (DW.eff _ _ (fun _ _ _ h => St.one 1 rfl h) rfl (e_alloc zero69) fun b7 => ?_)
  refine gR ?_
  refine RW.use (φ := IsSl kv ks.length) (fun w1 hw1 => RowS.isSl (hw1.sAt 2 rfl)) fun hkv => ?_
  refine gR ?_
  refine AW.wk (J' := St ⟨w, Φ, E⟩ Φ [.blk b7 69 [iV k, iV n1, iV o1, iV q1, .slice none 0 0], .row nS 69 5 0 [], .blk b 153 (nC k n1 o1 q1 at_ nm ow kv), .row kv 145 1 ks.length (l.map pB), trs ks l G, .blk z.r 110 (rC fv cv z a1), .blk b6 69 zN5]) (fun _ h => StP.sel (addNil (T := 69) (sz := 5) h) [1, 0, 2, 3, 4, 5, 6] (by decide) rfl) (AW.loop (fun s J g => ∃ (i : Nat) (v : Value) (cells : List Value) (Ψ : Hp), s = [(0, pB z.r), (1, pB b), (2, mv), (6, pB b6), (7, pB b7), (141, kv), (142, iV (ks.length : Int)), (143, iV (i : Int))] ∧ J = St ⟨w, Φ, E⟩ Ψ [.blk b7 69 [iV k, iV n1, iV o1, iV q1, v], .row v 69 5 i cells, .blk b 153 (nC k n1 o1 q1 at_ nm ow kv), .row kv 145 1 ks.length (l.map pB), trs (Ru.res.resL e fs ps (ks.take i) ++ ks.drop i) l G, .blk z.r 110 (rC fv cv z (Ru.lstL a1 (Ru.bad.badL e fs ps (ks.take i)))), .blk b6 69 zN5] ∧ g = ks.length - i ∧ i ≤ ks.length ∧ IsSl v i ∧ Hp.le Φ Ψ ∧ RepC Ψ (Ru.toE.toEL (Ru.res.resL e fs ps (ks.take i))) cells) (s0 := _) (J1 := _) (m0 := _) ⟨0, .slice none 0 0, [], Φ, rfl, rfl, rfl, by omega, isSl_nil, Hp.le_refl _, RepC.nil⟩ ⟨rfl, rfl, rfl, rfl, rfl, rfl, rfl, rfl, trivial⟩ (fun _ h => h) ?_)
  rintro _ _ _ _ ⟨i, v, cells, Ψ, rfl, rfl, rfl, hi, hv, hle, hrc⟩
  obtain ⟨vA, vc, rfl, hvs⟩ := hv
  refine gR ?_
  refine AW.cond rfl (fun h => ?_) fun h => ?_
  ·
   have h : i < ks.length := by have := odT h; omega
   refine gR ?_
   have hsp := Ru.take_drop_at h
   rw [hsp]
   refine RW.ex (J' := fun y : {y : List Nat × Nat × List Nat × List Nat × List Nat × List Nat // l = y.1 ++ y.2.1 :: y.2.2.1 ∧ G = y.2.2.2.1 ++ (y.2.2.2.2.1 ++ y.2.2.2.2.2) ∧ y.1.length = i} => St ⟨w, Φ, E⟩ Ψ [trs (Ru.res.resL e fs ps (ks.take i)) y.1.1 y.1.2.2.2.1, tr ks[i] y.1.2.1 y.1.2.2.2.2.1, trs (ks.drop (i + 1)) y.1.2.2.1 y.1.2.2.2.2.2, .blk b7 69 [iV k, iV n1, iV o1, iV q1, .slice vA i vc], .row (.slice vA i vc) 69 5 i cells, .blk b 153 (nC k n1 o1 q1 at_ nm ow kv), .row kv 145 1 ks.length (l.map pB), .blk z.r 110 (rC fv cv z (Ru.lstL a1 (Ru.bad.badL e fs ps (ks.take i)))), .blk b6 69 zN5]) (fun w1 hw1 => by
    obtain ⟨l1, bb, l3, F1, F2, F3, e1, e2, e3, e4⟩ := Ru.trs_at (C := [.blk b7 69 [iV k, iV n1, iV o1, iV q1, .slice vA i vc], .row (.slice vA i vc) 69 5 i cells, .blk b 153 (nC k n1 o1 q1 at_ nm ow kv), .row kv 145 1 ks.length (l.map pB), .blk z.r 110 (rC fv cv z (Ru.lstL a1 (Ru.bad.badL e fs ps (ks.take i)))), .blk b6 69 zN5]) (StP.sel hw1 [4, 0, 1, 2, 3, 5, 6] (by decide) rfl)
    exact ⟨⟨(l1, bb, l3, F1, F2, F3), e1, e2, by rw [e3, Ru.resL_len, List.length_take]; omega⟩, e4⟩) ?_
   rintro ⟨⟨l1, bb, l3, F1, F2, F3⟩, e1, e2, e3⟩
   simp only at e1 e2 e3 ⊢
   have hlb : (l.map pB)[i]? = some (pB bb) := by rw [e1, List.getElem?_map, List.getElem?_append_right (by omega), e3, Nat.sub_self]; rfl
   refine RW.q (v := pB bb) rfl (q_load rfl uT145 rfl (Cell.row 6 rfl (by rw [Nat.mul_one]; exact hlb))) ?_
   refine gR ?_
   have hmem : ks[i] ∈ ks := List.getElem_mem h
   have hdi : Ru.dep ks[i] ≤ n := by have := Ru.depL_le (xs := ks) h; omega
   have hni : Ru.nn ks[i] ≤ 1000000 := by have := Ru.nnL_mem _ hmem; omega
   refine AW.drawW (J0 := St ⟨w, Φ, E⟩ Ψ [.blk b7 69 [iV k, iV n1, iV o1, iV q1, .slice vA i vc]]) [.q, .q, .q, .q, .q, .e, .e, .e, .q, .e] od10 hmix (by kernel_rfl) ?_
   refine gR ?_
   refine DW.ownG (args := #[pB z.r, pB bb, mv]) (C2 := [trs (Ru.res.resL e fs ps (ks.take i)) l1 F1, trs (ks.drop (i + 1)) l3 F3, .blk b7 69 [iV k, iV n1, iV o1, iV q1, .slice vA i vc], .row (.slice vA i vc) 69 5 i cells, .blk b 153 (nC k n1 o1 q1 at_ nm ow kv), .row kv 145 1 ks.length (l.map pB), .blk b6 69 zN5]) [7, 1, 0, 2, 3, 4, 5, 6, 8] (by decide) rfl rfl oK rfl rfl (fun w1 hw1 => ih w1 Ψ ks[i] bb F2 _ hdi hni (hR.up hle) (hm.up hle) hw1) (fun _ Ψ2 w1 hl2 h => StP.know hl2 (St.one 4 rfl h)) ?_
   rintro v2 Ψ2 hl2 ⟨hwf2, hrep2⟩
   obtain ⟨uA, uc, hu, _⟩ := hrep2.sl
   refine gR ?_
   have hone : (exA (Ru.res e fs ps ks[i]) v2).all Value.oneCell' = true := by subst hu; rfl
   refine DW.eff _ _ (fun _ _ _ h => StP.know hl2 (St.one 5 rfl h)) rfl (e_buildSlice (vals := [(0, .agg (exA (Ru.res e fs ps ks[i]) v2).toArray)]) (cells := exA (Ru.res e fs ps ks[i]) v2) uT67 inf69 rfl rfl rfl (by kernel_rfl) rfl) fun b8 => ?_
   refine gR ?_
   refine DW.eff (fun xv : {vq : Value // IsSl vq (i + 1)} => xv.1) (fun xv => St ⟨w, Φ, E⟩ Ψ2 [.row (.slice (some ⟨b8, 0, none⟩) 1 1) 69 5 1 (exA (Ru.res e fs ps ks[i]) v2), .blk z.r 110 (rC fv cv z (Ru.lstL (Ru.lstL a1 (Ru.bad.badL e fs ps (ks.take i))) (Ru.bad e fs ps ks[i]))), tr (Ru.res e fs ps ks[i]) bb F2, trs (Ru.res.resL e fs ps (ks.take i)) l1 F1, trs (ks.drop (i + 1)) l3 F3, .blk b7 69 [iV k, iV n1, iV o1, iV q1, .slice vA i vc], .row xv.1 69 5 (i + 1) (cells ++ exA (Ru.res e fs ps ks[i]) v2), .blk b 153 (nC k n1 o1 q1 at_ nm ow kv), .row kv 145 1 ks.length (l.map pB), .blk b6 69 zN5]) (fun _ _ _ h => StP.know hl2 (St.one 5 rfl h)) rfl (e_append 6 rfl rfl rfl uT67 inf69 rfl rfl rfl (Cells.row0 0 rfl) hone (by omega) (by omega) (fun _ => rfl)) ?_
   rintro ⟨va, hva⟩
   obtain ⟨wA, wc, rfl, hws⟩ := hva
   refine gR ?_
   exact Post.back (s' := _) (J' := _) (m' := _) (by omega) ⟨i + 1, .slice wA (i + 1) wc, cells ++ exA (Ru.res e fs ps ks[i]) v2, Ψ2, rfl, rfl, rfl, by omega, ⟨wA, wc, rfl, hws⟩, hle.trans hl2, by
    rw [Ru.take_snoc h, Ru.resL_app, Ru.toEL_app]
    exact (hrc.mono hl2).snoc (repE'.2 ⟨v2, (exC_toE _ _).symm, hwf2, hrep2⟩)⟩ ⟨rfl, rfl, rfl, rfl, rfl, rfl, rfl, rfl, trivial⟩ (fun w1 hw1 => by
    rw [e1, e2, Ru.take_snoc h, Ru.resL_app, Ru.badL_app, Ru.lstL_app]
    have e9 : Ru.bad.badL e fs ps [ks[i]] = Ru.bad e fs ps ks[i] := by simp only [Ru.bad.badL, List.append_nil]
    have e8 : Ru.res.resL e fs ps (ks.take i) ++ Ru.res.resL e fs ps [ks[i]] ++ ks.drop (i + 1) = Ru.res.resL e fs ps (ks.take i) ++ Ru.res e fs ps ks[i] :: ks.drop (i + 1) := by simp only [Ru.res.resL, List.append_assoc, List.cons_append, List.nil_append]
    rw [e9, e8]
    rw [e1] at hw1
    exact (Ru.trs_un (C := [.blk b7 69 [iV k, iV n1, iV o1, iV q1, .slice wA (i + 1) wc], .row (.slice wA (i + 1) wc) 69 5 (i + 1) (cells ++ exA (Ru.res e fs ps ks[i]) v2), .blk b 153 (nC k n1 o1 q1 at_ nm ow kv), .row kv 145 1 ks.length ((l1 ++ bb :: l3).map pB), .blk z.r 110 (rC fv cv z (Ru.lstL (Ru.lstL a1 (Ru.bad.badL e fs ps (ks.take i))) (Ru.bad e fs ps ks[i]))), .blk b6 69 zN5]) (StP.sel hw1 [3, 2, 4, 5, 6, 7, 8, 1, 9] (by decide) rfl)).sel [1, 2, 3, 4, 0, 5, 6] (by decide) rfl)
  ·
   have h : i = ks.length := by have := odF h; omega
   subst h
   rw [List.take_length, List.drop_length, List.append_nil]
   rw [List.take_length] at hrc
   refine gR ?_
   refine fin_res (vs := [.agg (exA ⟨k, n1, o1, q1, at_, nm, ow, Ru.res.resL e fs ps ks⟩ (.slice vA ks.length vc)).toArray]) rfl rfl ⟨.agg rfl rfl (Cells.blk 6 rfl), trivial⟩ rfl (fun w1 hw1 => ?_)
   have h1 := Ru.tr_join (k := k) (n := n1) (o := o1) (q := q1) (a := at_) (nm := nm) (ow := ow) (ks := Ru.res.resL e fs ps ks) (b := b) (kv := kv) (l := l) (G := G) (C := [.row (.slice vA ks.length vc) 69 5 ks.length cells, .blk z.r 110 (rC fv cv z (Ru.lstL a1 (Ru.bad.badL e fs ps ks)))]) ⟨hwf.1, hn1, ho1, hq1, hwf.2.2.2.2⟩ (by
    rw [Ru.resL_len]
    exact StP.sel hw1 [2, 3, 4, 1, 5] (by decide) rfl)
   obtain ⟨Ψ3, hl3, hsat, h2⟩ := StP.freezeX (c := .row (.slice vA ks.length vc) 69 5 ks.length cells) (C := [tr ⟨k, n1, o1, q1, at_, nm, ow, Ru.res.resL e fs ps ks⟩ b (b :: (blks kv ++ G)), .blk z.r 110 (rC fv cv z (Ru.lstL a1 (Ru.bad.badL e fs ps ks)))]) (h1.sel [1, 0, 2] (by decide) rfl) (fun c hc => by
    rw [← hE] at hc
    simp only [fps, List.flatMap_cons, List.flatMap_nil, List.append_nil] at hc
    rcases List.mem_append.1 hc with hc | hc
    ·
     exact ⟨_, List.mem_cons_of_mem _ (List.mem_cons_self ..), hc⟩
    ·
     exact ⟨_, List.mem_cons_self .., hc⟩)
   rw [← hE] at h2
   refine ⟨.slice vA ks.length vc, Ψ3, rfl, hle.trans hl3, h2.sel [1, 0] (by decide) rfl, ⟨hk64, hn1, ho1, hq1⟩, ?_⟩
   exact RowS.repC (α := Bt.Expr) hsat (hrc.mono hl3) (by show (Ru.toE.toEL (Ru.res.resL e fs ps ks)).length = ks.length; rw [Ru.toEL_len, Ru.resL_len]) (by show ks.length * 56 ≤ maxSl; unfold maxSl; omega)
end Go.Proofs.YtnfmjfheciihjaaGreatDoor
namespace Go.Proofs.YtnfmjfheciihjaaGreatDoor
open Go Go.K Go.RowKit
abbrev rfC (x : Bt.RFunc) (pv v : Value) : List Value := .string (bs x.Name) :: pv :: iV x.Result :: exC x.Body v
abbrev rcC (x : Bt.RClause) (u v : Value) : List Value := exC x.If u ++ iV x.Link :: exC x.To v
theorem exC_one {x : Bt.Expr} {v : Value} (h : v.oneCell' = true) : ∀ u ∈ exC x v, u.oneCell' = true := by
 intro u hu
 simp only [exC, List.mem_cons, List.not_mem_nil, or_false] at hu
 rcases hu with rfl | rfl | rfl | rfl | rfl
 all_goals first | rfl | exact h
instance : Rep Bt.RFunc where
 sz := 8
 bytes := 104
 rep := fun Φ x cs => ∃ pv v, cs = rfC x pv v ∧ x.Name.length ≤ maxLen ∧ RepSl Φ x.Params pv ∧ I64 x.Result ∧ wfE x.Body ∧ RepSl Φ x.Body.Kids v
 len := fun ⟨pv, v, h, _⟩ => by rw [h]; rfl
 mono := fun hl ⟨pv, v, h1, h2, h3, h4, h5, h6⟩ => ⟨pv, v, h1, h2, h3.mono hl, h4, h5, h6.mono hl⟩
 one := fun ⟨pv, v, h1, h2, h3, h4, h5, h6⟩ u hu => by
  rw [h1] at hu
  simp only [rfC, List.mem_cons] at hu
  rcases hu with rfl | rfl | rfl | hu
  ·
   rfl
  ·
   exact isSl_one h3.sl
  ·
   rfl
  ·
   exact exC_one (x := ‹Bt.RFunc›.Body) (isSl_one h6.sl) u (by simpa using hu)
instance : Rep Bt.RClause where
 sz := 11
 bytes := 120
 rep := fun Φ x cs => ∃ u v, cs = rcC x u v ∧ wfE x.If ∧ RepSl Φ x.If.Kids u ∧ I64 x.Link ∧ wfE x.To ∧ RepSl Φ x.To.Kids v
 len := fun ⟨pv, v, h, _⟩ => by rw [h]; rfl
 mono := fun hl ⟨u, v, h1, h2, h3, h4, h5, h6⟩ => ⟨u, v, h1, h2, h3.mono hl, h4, h5, h6.mono hl⟩
 one := fun ⟨a, v, h1, h2, h3, h4, h5, h6⟩ u hu => by
  rw [h1] at hu
  rcases List.mem_append.1 hu with hu | hu
  ·
   exact exC_one (isSl_one h3.sl) u hu
  ·
   rcases List.mem_cons.1 hu with rfl | hu
   ·
    rfl
   ·
    exact exC_one (isSl_one h6.sl) u hu
end Go.Proofs.YtnfmjfheciihjaaGreatDoor
