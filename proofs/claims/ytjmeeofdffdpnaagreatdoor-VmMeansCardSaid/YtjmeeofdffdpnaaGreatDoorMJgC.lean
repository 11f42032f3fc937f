/- Lemmas. Conditions: those of each theorem. -/
import Derived.Test.YtjmeeofdffdpnaaGreatDoorMJgA
set_option maxRecDepth 8000
set_option maxHeartbeats 16000000
namespace Ru
open Go
def left (es : Array MapEntry) (seen : Array Nat) : Nat := (es.toList.filter fun e => !seen.contains e.born).length
theorem contains_push (seen : Array Nat) (a c : Nat) : (seen.push a).contains c = (seen.contains c || c == a) := by
 rw [Bool.eq_iff_iff]; simp
theorem left_lt {es : Array MapEntry} {seen : Array Nat} {e : MapEntry} (he : e ∈ es.toList) (hn : seen.contains e.born = false) : left es (seen.push e.born) < left es seen := by
 unfold left
 have key : ∀ l : List MapEntry, (l.filter fun e' => !(seen.push e.born).contains e'.born).length ≤ (l.filter fun e' => !seen.contains e'.born).length ∧ (e ∈ l → (l.filter fun e' => !(seen.push e.born).contains e'.born).length < (l.filter fun e' => !seen.contains e'.born).length) := by
  intro l
  induction l with
  | nil => exact ⟨Nat.le_refl _, fun h => by cases h⟩
  | cons a l ih =>
   obtain ⟨i1, i2⟩ := ih
   have hp := contains_push seen e.born a.born
   cases hs : seen.contains a.born with
   | true =>
    rw [hs, Bool.true_or] at hp
    have e1 : ((a :: l).filter fun e' => !(seen.push e.born).contains e'.born) = l.filter fun e' => !(seen.push e.born).contains e'.born := List.filter_cons_of_neg (by rw [hp]; simp)
    have e2 : ((a :: l).filter fun e' => !seen.contains e'.born) = l.filter fun e' => !seen.contains e'.born := List.filter_cons_of_neg (by rw [hs]; simp)
    rw [e1, e2]
    refine ⟨i1, fun h => ?_⟩
    rcases List.mem_cons.1 h with h | h
    ·
     subst h; rw [hn] at hs; cases hs
    ·
     exact i2 h
   | false =>
    have e2 : ((a :: l).filter fun e' => !seen.contains e'.born) = a :: l.filter fun e' => !seen.contains e'.born := List.filter_cons_of_pos (by rw [hs]; simp)
    rw [e2]
    by_cases hab : a.born = e.born
    ·
     have e1 : ((a :: l).filter fun e' => !(seen.push e.born).contains e'.born) = l.filter fun e' => !(seen.push e.born).contains e'.born := List.filter_cons_of_neg (by rw [hp, hab]; simp)
     rw [e1]
     simp only [List.length_cons]
     exact ⟨by omega, fun _ => by omega⟩
    ·
     have e1 : ((a :: l).filter fun e' => !(seen.push e.born).contains e'.born) = a :: l.filter fun e' => !(seen.push e.born).contains e'.born := List.filter_cons_of_pos (by rw [hp, hs]; simp [hab])
     rw [e1]
     simp only [List.length_cons]
     refine ⟨by omega, fun h => ?_⟩
     rcases List.mem_cons.1 h with h | h
     ·
      subst h; exact absurd rfl hab
     ·
      have := i2 h; omega
 exact (key es.toList).2 he
theorem born_inj {α β : Type} {f : α → β} : ∀ {l : List α}, (l.map f).Nodup → ∀ {x y : α}, x ∈ l → y ∈ l → f x = f y → x = y
 | [], _, _, _, h, _, _ => by cases h
 | a :: l, hn, x, y, hx, hy, h => by
  obtain ⟨h1, h2⟩ := List.nodup_cons.1 hn
  by_cases ex : x = a
  ·
   by_cases ey : y = a
   ·
    rw [ex, ey]
   ·
    have h3 : y ∈ l := (List.mem_cons.1 hy).resolve_left ey
    have h4 : f y ∈ l.map f := List.mem_map_of_mem h3
    rw [← h, ex] at h4; exact absurd h4 h1
  ·
   have h3 : x ∈ l := (List.mem_cons.1 hx).resolve_left ex
   by_cases ey : y = a
   ·
    have h4 : f x ∈ l.map f := List.mem_map_of_mem h3
    rw [h, ey] at h4; exact absurd h4 h1
   ·
    exact born_inj h2 h3 ((List.mem_cons.1 hy).resolve_left ey) h
def denM (ns : List (List UInt8)) (i : Int) : Option Bool := if den ns i = true then some true else none
theorem denM_get (ns : List (List UInt8)) (i : Int) : (denM ns i).getD false = den ns i := by
 unfold denM
 cases h : den ns i
 ·
  rfl
 ·
  rfl
theorem ix_get {ns : List (List UInt8)} {k : List UInt8} {j : Nat} (h : ix ns k = some j) : j < ns.length ∧ ns.getD j [] = k := by
 unfold ix at h
 rw [List.findIdx?_eq_some_iff_getElem] at h
 obtain ⟨h1, h2, _⟩ := h
 refine ⟨h1, ?_⟩
 rw [gDD, List.getElem?_eq_getElem h1]
 exact odT h2
theorem den_ix {ns : List (List UInt8)} {k : List UInt8} {j : Nat} (h : ix ns k = some j) : den ns (j : Int) = isNm k := by
 obtain ⟨h1, h2⟩ := ix_get h
 unfold den
 rw [Int.toNat_natCast, h2, h]
 simp [h1]
theorem den_some {ns : List (List UInt8)} {i : Int} (h : den ns i = true) : ∃ j : Nat, i = j ∧ j < ns.length ∧ isNm (ns.getD j []) = true ∧ ix ns (ns.getD j []) = some j := by
 unfold den at h
 simp only [Bool.and_eq_true, decide_eq_true_eq] at h
 exact ⟨i.toNat, by omega, by omega, h.1.2, h.2⟩
end Ru
namespace Go.Proofs.YtjmeeofdffdpnaaGreatDoor
open Go Go.K Go.RowKit
open Ru (pB NmS BasV ixM denM)
attribute [local irreducible] AW RW DW Post Qt
noncomputable def kInt : KL pg 3 Int := KL.of (Maps.int_keyed uT3) (Value.int .i64) I64 (fun h => by simpa using h) fun a ha => ⟨_, Maps.keyOf_int_mk uT3 (by unfold I64 at ha; simp [Lit.wf, IntKind.min, IntKind.max, IntKind.bits, IntKind.signed]; omega)⟩
noncomputable abbrev dtab (b : Nat) (ns : List (List UInt8)) : Chunk := .kmap kInt Value.bool b (denM ns)
theorem denotable_c (w : World) {ns : List (List UInt8)} {k bb : Nat} (hk : Go.K.Own pg k) (hlen : ∀ n ∈ ns, n.length ≤ maxLen) (hbig : ns.length ≤ 9223372036854775807) (hname : ∀ w1, Hp.le (hp w) (hp w1) → ∀ i (hi : i < ns.length), Calls pg k #[iV (i : Int), pB bb] w1 fun e w' => e = .returned (.string (bs ns[i])) ∧ Bel w1.heap.size w1 w') :
  Calls pg 40 #[iV (ns.length : Int), .func (.func k) #[] #[pB bb]] w (MkR w (fun b : Nat => .map (some b)) fun b => [dtab b ns]) := by
 refine calls_of_AW (args := [iV (ns.length : Int), .func (.func k) #[] #[pB bb]]) Tryz.func40 rfl (lBT rfl) (St ⟨w, hp w, []⟩ (hp w) []) (StP.init w (hp w) (Hp.le_refl _) []) ?_
 show AW _ _ [] _ _ _ [(0, iV (ns.length : Int)), (1, .func (.func k) #[] #[pB bb])] _
 repeat refine gs1 ?_
 refine RW.eff _ _ rfl (e_kmake kInt Value.bool) fun b5 => ?_
 repeat refine gs1 ?_
 refine RW.mk (args := #[iV (ns.length : Int), .func (.func k) #[] #[pB bb]]) rfl oK rfl rfl (fun w1 hw1 => indices_c w1 hk hlen hbig (fun w2 hl i hi => hname w2 (hw1.phi.trans hl) i hi)) fun mb => (RW.eff (fun x : {q : Nat × Array MapEntry × Nat // KM kStr (Value.int .i64) q.2.1 q.2.2 (ixM ns)} => .pointer (some ⟨x.1.1, 0, none⟩)) (fun x => St ⟨w, hp w, []⟩ (hp w) [.obj x.1.1 (.mapIter (some mb) x.1.2.2 #[] x.1.2.2), .obj mb (.map x.1.2.1 x.1.2.2), .kmap kInt Value.bool b5 (fun _ => none)]) rfl (e_krange (L := kStr) (ew := Value.int .i64) (M := ixM ns) 0 rfl rfl uT141) ?_)
 rintro ⟨⟨it, es, ck⟩, hkm⟩
 replace hkm : KM kStr (Value.int .i64) es ck (ixM ns) := hkm
 repeat refine gs1 ?_
 refine AW.loop (fun s J m => ∃ (seen : Array Nat) (M : Int → Option Bool), s = [(5, .map (some b5)), (12, .pointer (some ⟨it, 0, none⟩))] ∧ J = St ⟨w, hp w, []⟩ (hp w) [.obj it (.mapIter (some mb) ck seen ck), .obj mb (.map es ck), .kmap kInt Value.bool b5 M] ∧ m = Ru.left es seen ∧ (∀ i t, M i = some t → t = true ∧ Ru.den ns i = true) ∧ (∀ e ∈ es.toList, seen.contains e.born = true → ∀ k v, e.key = kStr.enc k → ixM ns k = some v → Ru.isNm k = true → M v = some true)) (s0 := _) (J1 := _) (m0 := _) ⟨#[], fun _ => none, rfl, rfl, rfl, (fun i t h => nomatch h), (fun e _ h => by simp at h)⟩ ⟨rfl, rfl, trivial⟩ (fun _ h => h) ?_
 rintro _ _ _ _ ⟨seen, M, rfl, rfl, rfl, hM1, hM2⟩
 refine AW.seq (AW.nextR (L := kStr) (ew := Value.int .i64) (M := ixM ns) 0 1 rfl rfl rfl hkm rfl rfl (C' := fun bn => [.obj it (.mapIter (some mb) ck (seen.push bn) ck), .obj mb (.map es ck), .kmap kInt Value.bool b5 M]) (fun _ => rfl) ?_ ?_)
 ·
  intro hall
  refine Post.then_n (AW.seq (AW.condF rfl ?_))
  repeat refine gs1 ?_
  exact fin_res (vs := [.map (some b5)]) rfl rfl ⟨.tmp rfl, trivial⟩ rfl (fun w' hw => ⟨b5, rfl, by
   have hMe : M = denM ns := by
    funext i
    unfold denM
    by_cases hd : Ru.den ns i = true
    ·
     rw [if_pos hd]
     obtain ⟨j, rfl, hj, hnm, hix⟩ := Ru.den_some hd
     have hx : ixM ns (ns.getD j []) = some (j : Int) := by unfold ixM; rw [hix]; rfl
     obtain ⟨e, he, hek⟩ := hkm.has _ _ hx
     exact hM2 e he (hall e he) _ _ hek hx hnm
    ·
     rw [if_neg hd]
     cases hq : M i with
     | none => rfl
     | some t => exact absurd (hM1 i t hq).2 hd
   show StP _ _ [.kmap kInt Value.bool b5 (denM ns)] _
   rw [← hMe]
   exact StP.sel hw [2] (by decide) rfl⟩)
 ·
  intro e kk v he hns hgk hek hMk hev
  have hgl : kk.length ≤ maxLen := hgk
  obtain ⟨j, hj, hjv⟩ : ∃ j : Nat, Ru.ix ns kk = some j ∧ v = (j : Int) := by
   unfold ixM at hMk
   obtain ⟨j, h1, h2⟩ := _root_.mS hMk
   exact ⟨j, h1, h2.symm⟩
  subst hjv
  have hjl := (Ru.ix_get hj).1
  have hgv : kInt.good (j : Int) := by show I64 _; unfold I64; omega
  refine Post.then_n (AW.seq (AW.condT rfl (AW.skip (Post.then_n (AW.block (AW.seq (AW.region (RW.q (v := .tuple #[.string (bs kk), iV (j : Int)]) rfl (q_kentry2 (L := kStr) (ew := Value.int .i64) (M := ixM ns) (k := kk) (v := (j : Int)) 0 1 rfl rfl rfl hkm he hek hev) ?_))))))))
  repeat refine gs1 ?_
  refine RW.q rfl (q_call (args := #[.string (bs kk)]) oK rfl rfl (fun w1 hw1 => isName_c w1 (hp w1) (Hp.le_refl _) hgl)) ?_
  repeat refine gs1 ?_
  have hcomp : ∀ (M2 : Int → Option Bool), (∀ i t, M i = some t → M2 i = some t) → (Ru.isNm kk = true → M2 (j : Int) = some true) → ∀ e' ∈ es.toList, (seen.push e.born).contains e'.born = true → ∀ k v, e'.key = kStr.enc k → ixM ns k = some v → Ru.isNm k = true → M2 v = some true := fun M2 hsub hnew e' he' hs k v hk2 hx hn => by
   rw [Ru.contains_push, Bool.or_eq_true] at hs
   rcases hs with hs | hs
   ·
    exact hsub _ _ (hM2 e' he' hs k v hk2 hx hn)
   ·
    have hb : e'.born = e.born := by simpa using hs
    have hee : e' = e := by
     exact Ru.born_inj hkm.born he' he hb
    subst hee
    have hkk : k = kk := kStr.inj (hk2.symm.trans hek)
    subst hkk
    have hv : v = (j : Int) := by rw [hMk] at hx; exact (sJ hx).symm
    rw [hv]; exact hnew hn
  refine AW.cond rfl (fun hc => ?_) fun hc => ?_
  ·
   have hden : Ru.den ns (j : Int) = true := (Ru.den_ix hj).trans hc
   repeat refine gs1 ?_
   refine RW.effn (e_kPut (L := kInt) (ew := Value.bool) (k := (j : Int)) (v := true) 2 rfl rfl rfl rfl hgv uT101 rfl) ?_
   repeat refine gs1 ?_
   refine Post.back (s' := _) (J' := _) (m' := _) (Ru.left_lt he hns) ⟨seen.push e.born, fun i => if i = (j : Int) then some true else M i, rfl, rfl, rfl, fun i t ht => ?_, hcomp _ (fun i t ht => ?_) fun _ => if_pos rfl⟩ ⟨rfl, rfl, trivial⟩ (fun _ h => h)
   ·
    simp only at ht
    by_cases hi : i = (j : Int)
    ·
     rw [if_pos hi] at ht; subst hi; cases ht; exact ⟨rfl, hden⟩
    ·
     rw [if_neg hi] at ht; exact hM1 i t ht
   ·
    by_cases hi : i = (j : Int)
    ·
     simp only [if_pos hi]; rw [(hM1 i t ht).1]
    ·
     simp only [if_neg hi]; exact ht
  ·
   repeat refine gs1 ?_
   exact Post.back (s' := _) (J' := _) (m' := _) (Ru.left_lt he hns) ⟨seen.push e.born, M, rfl, rfl, rfl, hM1, hcomp M (fun _ _ h => h) fun hn => absurd hn (by rw [hc]; simp)⟩ ⟨rfl, rfl, trivial⟩ (fun _ h => h)
theorem RepSl.gi' {Φ : Hp} {xs : List Int} {v : Value} (h : RepSl Φ xs v) {i : Nat} (hn : i < xs.length) : PCell Φ (Value.at v (i * 1)) (iV (xs.getD i 0)) := by
 have := (h.int hn).1
 rw [Nat.mul_one, gDD, List.getElem?_eq_getElem hn]; exact this
structure JC (Φ : Hp) (e : Ru.Env) (fs : List Bt.RFunc) (fv : Value) (m1 m2 m3 m4 : Nat) : Prop where
 f : RepSl Φ fs fv
 p : (dtab m1 e.places).sat Φ
 o : (dtab m2 e.owners).sat Φ
 l : (dtab m3 e.links).sat Φ
 t : (dtab m4 e.towns).sat Φ
theorem dtab_up {Φ Ψ : Hp} {b : Nat} {ns : List (List UInt8)} (h : (dtab b ns).sat Φ) (hl : Hp.le Φ Ψ) : (dtab b ns).sat Ψ := by
 obtain ⟨es, c, h1, h2⟩ := h
 exact ⟨es, c, hl _ _ h1, h2⟩
theorem JC.mono {Φ Ψ : Hp} {e : Ru.Env} {fs : List Bt.RFunc} {fv : Value} {m1 m2 m3 m4 : Nat} (h : JC Φ e fs fv m1 m2 m3 m4) (hl : Hp.le Φ Ψ) : JC Ψ e fs fv m1 m2 m3 m4 := ⟨h.f.mono hl, dtab_up h.p hl, dtab_up h.o hl, dtab_up h.l hl, dtab_up h.t hl⟩
abbrev jC (fv : Value) (m1 m2 m3 m4 : Nat) : List Value := [fv, .map (some m1), .map (some m2), .map (some m3), .map (some m4)]
section
variable {P : Program} {f : Nat → Value} {s : List (Nat × Value)}
theorem q_den {B : Bs} {Φ : Hp} {C : List Chunk} {dst : Option Nat} {ty : TypeId} {pos : String} {af : Array Edge} {g : Option (Nat × Bool)} {x y : Operand} {b : Nat} {ns : List (List UInt8)} {i : Int} (hm : (dtab b ns).sat Φ) (hx : ev (fr f s) x = .map (some b)) (hy : ev (fr f s) y = iV i) (hi : I64 i) : Qt pg (St B Φ C) f s ⟨dst, .lookup 101 x y false, ty, pos, af, g⟩ (.bool (Ru.den ns i)) := by
 rw [← Ru.denM_get]
 exact q_kLookP1 (L := kInt) (ew := Value.bool) (M := denM ns) (k := i) (d := false) hm hx hy hi uT101 zero4
end
theorem jfact_c (w : World) {Φ : Hp} (hΦ : Hp.le Φ (hp w)) {e : Ru.Env} {fs : List Bt.RFunc} {fv : Value} {m1 m2 m3 m4 : Nat} (hJ : JC Φ e fs fv m1 m2 m3 m4) {X : Bt.Expr} {v : Value} (hX : wfE X) :
  Calls pg 146 #[.agg (jC fv m1 m2 m3 m4).toArray, .agg (exC X v).toArray] w fun e' w' => e' = .returned (.bool (Ru.jfact e X)) ∧ Bel w.heap.size w w' := by
 refine calls_of_AW (args := [.agg (jC fv m1 m2 m3 m4).toArray, .agg (exC X v).toArray]) Tryz.func146 rfl (lBT rfl) (St ⟨w, Φ, []⟩ Φ []) (StP.init w Φ hΦ []) ?_
 show AW _ _ [] _ _ _ [(0, .agg (jC fv m1 m2 m3 m4).toArray), (1, .agg (exC X v).toArray)] _
 obtain ⟨_, _, hO, hO2⟩ := hX
 repeat refine gs1 ?_
 refine RW.bxA (cs := jC fv m1 m2 m3 m4) rfl rfl fun b2 => ?_
 refine RW.bxA (cs := exC X v) rfl rfl fun b3 => ?_
 repeat refine gs1 ?_
 refine AW.orCh (kd := .i64) (t := 7) (x := 6) (a := X.N) rfl rfl _ rfl rfl rfl rfl fun f' => ?_
 repeat refine gs1 ?_
 have e1 : (decide (X.N = 0) || [((1 : Int), 9)].any fun p => decide (X.N = p.1)) = decide (X.N = 0 ∨ X.N = 1) := by simp
 refine AW.cond rfl (fun c => ?_) fun c => ?_
 ·
  have c : X.N = 0 ∨ X.N = 1 := odT (e1.symm.trans c)
  repeat refine gs1 ?_
  refine RW.q rfl (q_den hJ.p rfl rfl hO) ?_
  repeat refine gs1 ?_
  refine RW.q (v := .bool (Ru.den e.places X.Of && decide (X.Of2 = 0))) rfl (qpA rfl rfl rfl) ?_
  repeat refine gs1 ?_
  exact fin_res (vs := [.bool (Ru.den e.places X.Of && decide (X.Of2 = 0))]) rfl rfl ⟨.tmp rfl, trivial⟩ rfl (fun w' hw => ⟨by unfold Ru.jfact; rw [if_pos c]; rfl, hw.below rfl⟩)
 have c0 : ¬ (X.N = 0 ∨ X.N = 1) := odF (e1.symm.trans c)
 repeat refine gs1 ?_
 refine AW.cond rfl (fun c => ?_) fun c2 => ?_
 ·
  have c : X.N = 2 := odT c
  repeat refine gs1 ?_
  refine RW.q rfl (q_den hJ.p rfl rfl hO) ?_
  repeat refine gs1 ?_
  refine RW.g (b := Ru.den e.places X.Of) (v := .bool (Ru.den e.owners X.Of2)) rfl rfl rfl (fun h => q_den hJ.o (gv_pos h) (gv_pos h) hO2) (RW.q (v := .bool (Ru.den e.places X.Of && Ru.den e.owners X.Of2)) rfl (qpA rfl rfl rfl) ?_)
  repeat refine gs1 ?_
  exact fin_res (vs := [.bool (Ru.den e.places X.Of && Ru.den e.owners X.Of2)]) rfl rfl ⟨.tmp rfl, trivial⟩ rfl (fun w' hw => ⟨by unfold Ru.jfact; rw [if_neg c0, if_pos c]; rfl, hw.below rfl⟩)
 have c2 : X.N ≠ 2 := odF c2
 repeat refine gs1 ?_
 refine AW.cond rfl (fun c => ?_) fun c3 => ?_
 ·
  have c : X.N = 3 := odT c
  repeat refine gs1 ?_
  refine RW.q rfl (q_den hJ.l rfl rfl hO) ?_
  repeat refine gs1 ?_
  refine RW.q (v := .bool (Ru.den e.links X.Of && decide (X.Of2 = 0))) rfl (qpA rfl rfl rfl) ?_
  repeat refine gs1 ?_
  exact fin_res (vs := [.bool (Ru.den e.links X.Of && decide (X.Of2 = 0))]) rfl rfl ⟨.tmp rfl, trivial⟩ rfl (fun w' hw => ⟨by unfold Ru.jfact; rw [if_neg c0, if_neg c2, if_pos c]; rfl, hw.below rfl⟩)
 have c3 : X.N ≠ 3 := odF c3
 repeat refine gs1 ?_
 refine AW.cond rfl (fun c => ?_) fun c7 => ?_
 ·
  have c : X.N = 7 := odT c
  repeat refine gs1 ?_
  refine RW.q rfl (q_den hJ.t rfl rfl hO) ?_
  repeat refine gs1 ?_
  refine RW.q (v := .bool (Ru.den e.towns X.Of && decide (X.Of2 = 0))) rfl (qpA rfl rfl rfl) ?_
  repeat refine gs1 ?_
  exact fin_res (vs := [.bool (Ru.den e.towns X.Of && decide (X.Of2 = 0))]) rfl rfl ⟨.tmp rfl, trivial⟩ rfl (fun w' hw => ⟨by unfold Ru.jfact; rw [if_neg c0, if_neg c2, if_neg c3, if_pos c]; rfl, hw.below rfl⟩)
 have c7 : X.N ≠ 7 := odF c7
 repeat refine gs1 ?_
 refine AW.orCh (kd := .i64) (t := 58) (x := 6) (a := X.N) rfl rfl _ rfl rfl rfl rfl fun f' => ?_
 repeat refine gs1 ?_
 have e4 : (decide (X.N = 4) || [((5 : Int), 60), (6, 61)].any fun p => decide (X.N = p.1)) = decide (X.N = 4 ∨ X.N = 5 ∨ X.N = 6) := by simp
 refine AW.cond rfl (fun c => ?_) fun c => ?_
 ·
  have c : X.N = 4 ∨ X.N = 5 ∨ X.N = 6 := odT (e4.symm.trans c)
  repeat refine gs1 ?_
  refine RW.q (v := .bool (decide (X.Of = 0) && decide (X.Of2 = 0))) rfl (qpA rfl rfl rfl) ?_
  repeat refine gs1 ?_
  exact fin_res (vs := [.bool (decide (X.Of = 0) && decide (X.Of2 = 0))]) rfl rfl ⟨.tmp rfl, trivial⟩ rfl (fun w' hw => ⟨by unfold Ru.jfact; rw [if_neg c0, if_neg c2, if_neg c3, if_neg c7, if_pos c]; rfl, hw.below rfl⟩)
 have c4 : ¬ (X.N = 4 ∨ X.N = 5 ∨ X.N = 6) := odF (e4.symm.trans c)
 repeat refine gs1 ?_
 exact fin_res (vs := [.bool false]) rfl rfl ⟨.tmp rfl, trivial⟩ rfl (fun w' hw => ⟨by unfold Ru.jfact; rw [if_neg c0, if_neg c2, if_neg c3, if_neg c7, if_neg c4]; rfl, hw.below rfl⟩)
theorem same_c (w : World) {bb : Nat} {kv lv : Value} {ks ls : List Int} (hb : hp w bb = some (.cells [kv].toArray 29 (0, 0))) (h1 : RepSl (hp w) ks kv) (h2 : RepSl (hp w) ls lv) : Calls pg 170 #[lv, pB bb] w fun e w' => e = .returned (.bool (decide (ks = ls))) ∧ Bel w.heap.size w w' := by
 refine calls_of_AW (args := [lv, pB bb]) Tryz.func170 rfl (lBT rfl) (St ⟨w, hp w, []⟩ (hp w) []) (StP.init w (hp w) (Hp.le_refl _) []) ?_
 show AW _ _ [] _ _ _ [(0, lv), (1, pB bb)] _
 have pk : PCell (hp w) ⟨bb, 0, none⟩ kv := PCell.blk (cs := [kv]) hb rfl
 repeat refine gs1 ?_
 refine RW.q rfl (q_call (args := #[kv, lv]) oK rfl rfl (fun w1 hw1 => eqI_c w1 (hp w1) (Hp.le_refl _) (h1.mono hw1.phi) (h2.mono hw1.phi))) ?_
 repeat refine gs1 ?_
 exact fin_res (vs := [.bool (decide (ks = ls))]) rfl rfl ⟨.tmp rfl, trivial⟩ rfl (fun w' hw => ⟨rfl, hw.below rfl⟩)
theorem jop_c (w : World) {Φ : Hp} (hΦ : Hp.le Φ (hp w)) {k : Int} {ks : List Int} {kv : Value} (hks : RepSl Φ ks kv) : Calls pg 147 #[iV k, kv] w fun e w' => e = .returned (.tuple #[iV (Ru.jop k ks).1, .bool (Ru.jop k ks).2]) ∧ Bel w.heap.size w w' := by
 obtain ⟨kA, kc, rfl, _⟩ := hks.sl
 have hsl := hks.sl
 refine calls_of_AW (args := [iV k, .slice kA ks.length kc]) Tryz.func147 rfl (lBT rfl) (St ⟨w, Φ, []⟩ Φ []) (StP.init w Φ hΦ []) ?_
 show AW _ _ [] _ _ _ [(0, iV k), (1, .slice kA ks.length kc)] _
 repeat refine gs1 ?_
 refine RW.eff _ _ rfl (e_boxSl rfl hsl) fun b3 => ?_
 repeat refine gs1 ?_
 refine AW.cond rfl (fun c => ?_) fun c2 => ?_
 ·
  have c : k = 2 := odT c
  repeat refine gs1 ?_
  refine RW.eff _ _ rfl (e_buildSlice (vals := [(0, iV 0)]) (cells := [iV 0]) uT29 inf3 rfl rfl rfl (by kernel_rfl) rfl) fun b8 => (RW.q rfl (q_call (args := #[.slice (some ⟨b8, 0, none⟩) 1 1, pB b3]) oK rfl rfl (fun w1 hw1 => same_c w1 (ls := [0]) (hw1.sAt 1 rfl) (hks.mono hw1.phi) (RowS.ints (T := 3) (n := 1) (hw1.sAt 0 rfl) (by decide) (fun z hz => by simp only [List.mem_cons, List.not_mem_nil, or_false] at hz; subst hz; unfold I64; omega)))) ?_)
  repeat refine gs1 ?_
  exact fin_res (vs := [iV 0, .bool (decide (ks = [0]))]) rfl rfl ⟨.tmp rfl, .tmp rfl, trivial⟩ rfl (fun w' hw => ⟨by unfold Ru.jop; rw [if_pos c]; rfl, hw.below rfl⟩)
 have c2 : k ≠ 2 := odF c2
 repeat refine gs1 ?_
 refine AW.cond rfl (fun c => ?_) fun c3 => ?_
 ·
  have c : k = 3 := odT c
  repeat refine gs1 ?_
  refine RW.eff _ _ rfl (e_buildSlice (vals := [(0, iV 1)]) (cells := [iV 1]) uT29 inf3 rfl rfl rfl (by kernel_rfl) rfl) fun b8 => (RW.q rfl (q_call (args := #[.slice (some ⟨b8, 0, none⟩) 1 1, pB b3]) oK rfl rfl (fun w1 hw1 => same_c w1 (ls := [1]) (hw1.sAt 1 rfl) (hks.mono hw1.phi) (RowS.ints (T := 3) (n := 1) (hw1.sAt 0 rfl) (by decide) (fun z hz => by simp only [List.mem_cons, List.not_mem_nil, or_false] at hz; subst hz; unfold I64; omega)))) ?_)
  repeat refine gs1 ?_
  exact fin_res (vs := [iV 1, .bool (decide (ks = [1]))]) rfl rfl ⟨.tmp rfl, .tmp rfl, trivial⟩ rfl (fun w' hw => ⟨by unfold Ru.jop; rw [if_neg c2, if_pos c]; rfl, hw.below rfl⟩)
 have c3 : k ≠ 3 := odF c3
 repeat refine gs1 ?_
 refine AW.orCh (kd := .i64) (t := 19) (x := 8) (a := k) rfl rfl _ rfl rfl rfl rfl fun f1 => ?_
 repeat refine gs1 ?_
 have e4 : (decide (k = 4) || [((5 : Int), 21), (6, 22), (7, 23)].any fun p => decide (k = p.1)) = decide (k = 4 ∨ k = 5 ∨ k = 6 ∨ k = 7) := by simp
 refine AW.cond rfl (fun c => ?_) fun c4 => ?_
 ·
  have c : k = 4 ∨ k = 5 ∨ k = 6 ∨ k = 7 := odT (e4.symm.trans c)
  repeat refine gs1 ?_
  refine RW.eff _ _ rfl (e_buildSlice (vals := [(0, iV 0), (1, iV 0)]) (cells := [iV 0, iV 0]) uT29 inf3 rfl rfl rfl (by kernel_rfl) rfl) fun b8 => (RW.q rfl (q_call (args := #[.slice (some ⟨b8, 0, none⟩) 2 2, pB b3]) oK rfl rfl (fun w1 hw1 => same_c w1 (ls := [0, 0]) (hw1.sAt 1 rfl) (hks.mono hw1.phi) (RowS.ints (T := 3) (n := 2) (hw1.sAt 0 rfl) (by decide) (fun z hz => by simp only [List.mem_cons, List.not_mem_nil, or_false, or_self] at hz; subst hz; unfold I64; omega)))) ?_)
  repeat refine gs1 ?_
  exact fin_res (vs := [iV 0, .bool (decide (ks = [0, 0]))]) rfl rfl ⟨.tmp rfl, .tmp rfl, trivial⟩ rfl (fun w' hw => ⟨by unfold Ru.jop; rw [if_neg c2, if_neg c3, if_pos c]; rfl, hw.below rfl⟩)
 have c4 : ¬ (k = 4 ∨ k = 5 ∨ k = 6 ∨ k = 7) := odF (e4.symm.trans c4)
 repeat refine gs1 ?_
 refine AW.orCh (kd := .i64) (t := 27) (x := 8) (a := k) rfl rfl _ rfl rfl rfl rfl fun f2 => ?_
 repeat refine gs1 ?_
 have e8 : (decide (k = 8) || [((9 : Int), 29)].any fun p => decide (k = p.1)) = decide (k = 8 ∨ k = 9) := by simp
 refine AW.cond rfl (fun c => ?_) fun c8 => ?_
 ·
  have c : k = 8 ∨ k = 9 := odT (e8.symm.trans c)
  repeat refine gs1 ?_
  refine RW.eff _ _ rfl (e_buildSlice (vals := [(0, iV 0), (1, iV 0)]) (cells := [iV 0, iV 0]) uT29 inf3 rfl rfl rfl (by kernel_rfl) rfl) fun b8 => (RW.q rfl (q_call (args := #[.slice (some ⟨b8, 0, none⟩) 2 2, pB b3]) oK rfl rfl (fun w1 hw1 => same_c w1 (ls := [0, 0]) (hw1.sAt 1 rfl) (hks.mono hw1.phi) (RowS.ints (T := 3) (n := 2) (hw1.sAt 0 rfl) (by decide) (fun z hz => by simp only [List.mem_cons, List.not_mem_nil, or_false, or_self] at hz; subst hz; unfold I64; omega)))) ?_)
  repeat refine gs1 ?_
  exact fin_res (vs := [iV 1, .bool (decide (ks = [0, 0]))]) rfl rfl ⟨.tmp rfl, .tmp rfl, trivial⟩ rfl (fun w' hw => ⟨by unfold Ru.jop; rw [if_neg c2, if_neg c3, if_neg c4, if_pos c]; rfl, hw.below rfl⟩)
 have c8 : ¬ (k = 8 ∨ k = 9) := odF (e8.symm.trans c8)
 repeat refine gs1 ?_
 refine AW.cond rfl (fun c => ?_) fun c10 => ?_
 ·
  have c : k = 10 := odT c
  repeat refine gs1 ?_
  refine AW.drawZ (J0 := St ⟨w, Φ, []⟩ Φ [.blk b3 29 [.slice kA ks.length kc]]) [.q, .q, .q, .q, .q, .q, .q, .q, .q, .q, .q, .q, .q, .q] [0, 1, 2, 3, 4, 5, 6, 7, 8, 9, 10, 11, 12, 13] hmix (by kernel_rfl) ?_
  repeat refine gs1 ?_
  refine DW.g (b := decide ((ks.length : Int) = 2)) (v := .pointer (some (Value.at (.slice kA ks.length kc) (0 * 1)))) (fun _ h => h) rfl rfl rfl (fun h => qa_ixL (n := ks.length) (i := 0) (gv_pos h) rfl hsl (by have := odT h; omega)) (DW.g (b := decide ((ks.length : Int) = 2)) (v := iV (ks.getD 0 0)) (fun _ h => h) rfl rfl rfl (fun h => qa_ld (gv_pos h) (Cell.phi (RepSl.gi' hks (by have := odT h; omega)))) ?_)
  repeat refine gs1 ?_
  refine DW.g (b := decide ((ks.length : Int) = 2)) (v := .pointer (some (Value.at (.slice kA ks.length kc) (1 * 1)))) (fun _ h => h) rfl rfl rfl (fun h => qa_ixL (n := ks.length) (i := 1) (gv_pos h) rfl hsl (by have := odT h; omega)) (DW.g (b := decide ((ks.length : Int) = 2)) (v := iV (ks.getD 1 0)) (fun _ h => h) rfl rfl rfl (fun h => qa_ld (gv_pos h) (Cell.phi (RepSl.gi' hks (by have := odT h; omega)))) ?_)
  repeat refine gs1 ?_
  refine DW.q (v := .bool (decide ((ks.length : Int) = 2) && decide (ks.getD 0 0 = ks.getD 1 0))) (fun _ h => h) rfl (qpA rfl rfl rfl) ?_
  repeat refine gs1 ?_
  have e2 : decide ((ks.length : Int) = 2) = decide (ks.length = 2) := decide_eq_decide.2 (by omega)
  exact fin_res (vs := [iV 1, .bool (decide ((ks.length : Int) = 2) && decide (ks.getD 0 0 = ks.getD 1 0))]) rfl rfl ⟨.tmp rfl, .tmp rfl, trivial⟩ rfl (fun w' hw => ⟨by unfold Ru.jop; rw [if_neg c2, if_neg c3, if_neg c4, if_neg c8, if_pos c, e2]; rfl, hw.below rfl⟩)
 have c10 : k ≠ 10 := odF c10
 repeat refine gs1 ?_
 refine AW.orCh (kd := .i64) (t := 47) (x := 8) (a := k) rfl rfl _ rfl rfl rfl rfl fun f3 => ?_
 repeat refine gs1 ?_
 have e11 : (decide (k = 11) || [((12 : Int), 49)].any fun p => decide (k = p.1)) = decide (k = 11 ∨ k = 12) := by simp
 refine AW.cond rfl (fun c => ?_) fun c11 => ?_
 ·
  have c : k = 11 ∨ k = 12 := odT (e11.symm.trans c)
  repeat refine gs1 ?_
  refine RW.eff _ _ rfl (e_buildSlice (vals := [(0, iV 1), (1, iV 1)]) (cells := [iV 1, iV 1]) uT29 inf3 rfl rfl rfl (by kernel_rfl) rfl) fun b8 => (RW.q rfl (q_call (args := #[.slice (some ⟨b8, 0, none⟩) 2 2, pB b3]) oK rfl rfl (fun w1 hw1 => same_c w1 (ls := [1, 1]) (hw1.sAt 1 rfl) (hks.mono hw1.phi) (RowS.ints (T := 3) (n := 2) (hw1.sAt 0 rfl) (by decide) (fun z hz => by simp only [List.mem_cons, List.not_mem_nil, or_false, or_self] at hz; subst hz; unfold I64; omega)))) ?_)
  repeat refine gs1 ?_
  exact fin_res (vs := [iV 1, .bool (decide (ks = [1, 1]))]) rfl rfl ⟨.tmp rfl, .tmp rfl, trivial⟩ rfl (fun w' hw => ⟨by unfold Ru.jop; rw [if_neg c2, if_neg c3, if_neg c4, if_neg c8, if_neg c10, if_pos c]; rfl, hw.below rfl⟩)
 have c11 : ¬ (k = 11 ∨ k = 12) := odF (e11.symm.trans c11)
 repeat refine gs1 ?_
 refine AW.cond rfl (fun c => ?_) fun c13 => ?_
 ·
  have c : k = 13 := odT c
  repeat refine gs1 ?_
  refine AW.drawZ (J0 := St ⟨w, Φ, []⟩ Φ [.blk b3 29 [.slice kA ks.length kc]]) [.q, .q, .q, .q, .q, .q, .q, .q, .q, .q, .q, .q, .q, .q, .q, .q, .q, .q] [0, 1, 2, 3, 4, 5, 6, 7, 8, 9, 10, 11, 12, 13, 14, 15, 16, 17] hmix (by kernel_rfl) ?_
  repeat refine gs1 ?_
  refine DW.g (b := (!decide ((ks.length : Int) = 3))) (v := .pointer (some (Value.at (.slice kA ks.length kc) (0 * 1)))) (fun _ h => h) rfl rfl rfl (fun h => qa_ixL (n := ks.length) (i := 0) (gv_pos h) rfl hsl (by have : (ks.length : Int) = 3 := (by simpa using h); omega)) (DW.g (b := (!decide ((ks.length : Int) = 3))) (v := iV (ks.getD 0 0)) (fun _ h => h) rfl rfl rfl (fun h => qa_ld (gv_pos h) (Cell.phi (RepSl.gi' hks (by have : (ks.length : Int) = 3 := (by simpa using h); omega)))) ?_)
  repeat refine gs1 ?_
  refine DW.q (v := .bool (!decide ((ks.length : Int) = 3) || !decide (ks.getD 0 0 = 1))) (fun _ h => h) rfl (qpO rfl rfl rfl) ?_
  repeat refine gs1 ?_
  refine DW.g (b := (!decide ((ks.length : Int) = 3) || !decide (ks.getD 0 0 = 1))) (v := .pointer (some (Value.at (.slice kA ks.length kc) (1 * 1)))) (fun _ h => h) rfl rfl rfl (fun h => qa_ixL (n := ks.length) (i := 1) (gv_pos h) rfl hsl (by have : (ks.length : Int) = 3 := (by simp only [Bool.or_eq_false_iff, Bool.not_eq_false', decide_eq_true_eq] at h; exact h.1); omega)) (DW.g (b := (!decide ((ks.length : Int) = 3) || !decide (ks.getD 0 0 = 1))) (v := iV (ks.getD 1 0)) (fun _ h => h) rfl rfl rfl (fun h => qa_ld (gv_pos h) (Cell.phi (RepSl.gi' hks (by have : (ks.length : Int) = 3 := (by simp only [Bool.or_eq_false_iff, Bool.not_eq_false', decide_eq_true_eq] at h; exact h.1); omega)))) ?_)
  repeat refine gs1 ?_
  refine DW.g (b := (!decide ((ks.length : Int) = 3) || !decide (ks.getD 0 0 = 1))) (v := .pointer (some (Value.at (.slice kA ks.length kc) (2 * 1)))) (fun _ h => h) rfl rfl rfl (fun h => qa_ixL (n := ks.length) (i := 2) (gv_pos h) rfl hsl (by have : (ks.length : Int) = 3 := (by simp only [Bool.or_eq_false_iff, Bool.not_eq_false', decide_eq_true_eq] at h; exact h.1); omega)) (DW.g (b := (!decide ((ks.length : Int) = 3) || !decide (ks.getD 0 0 = 1))) (v := iV (ks.getD 2 0)) (fun _ h => h) rfl rfl rfl (fun h => qa_ld (gv_pos h) (Cell.phi (RepSl.gi' hks (by have : (ks.length : Int) = 3 := (by simp only [Bool.or_eq_false_iff, Bool.not_eq_false', decide_eq_true_eq] at h; exact h.1); omega)))) ?_)
  repeat refine gs1 ?_
  refine DW.q (v := .bool ((!decide ((ks.length : Int) = 3) || !decide (ks.getD 0 0 = 1)) || !decide (ks.getD 1 0 = ks.getD 2 0))) (fun _ h => h) rfl (qpO rfl rfl rfl) ?_
  repeat refine gs1 ?_
  refine AW.cond rfl (fun d => ?_) fun d => ?_
  ·
   have d : ks.length ≠ 3 ∨ ks.getD 0 0 ≠ 1 ∨ ks.getD 1 0 ≠ ks.getD 2 0 := by simp only [Bool.or_eq_true, Bool.not_eq_true', decide_eq_false_iff_not] at d; omega
   repeat refine gs1 ?_
   exact fin_res (vs := [iV 0, .bool false]) rfl rfl ⟨.tmp rfl, .tmp rfl, trivial⟩ rfl (fun w' hw => ⟨by unfold Ru.jop; rw [if_neg c2, if_neg c3, if_neg c4, if_neg c8, if_neg c10, if_neg c11, if_pos c, if_pos d]; rfl, hw.below rfl⟩)
  ·
   have d : ks.length = 3 ∧ ks.getD 0 0 = 1 ∧ ks.getD 1 0 = ks.getD 2 0 := by simp only [Bool.or_eq_false_iff, Bool.not_eq_false', decide_eq_true_eq] at d; omega
   have p1 := RepSl.gi' hks (i := 1) (by omega)
   repeat refine gs1 ?_
   refine RW.q (v := .pointer (some (Value.at (.slice kA ks.length kc) (1 * 1)))) rfl (qa_ixL (n := ks.length) (i := 1) rfl rfl hsl (by omega)) ?_
   repeat refine gs1 ?_
   exact fin_res (vs := [iV (ks.getD 1 0), .bool true]) rfl rfl ⟨.tmp rfl, .tmp rfl, trivial⟩ rfl (fun w' hw => ⟨by unfold Ru.jop; rw [if_neg c2, if_neg c3, if_neg c4, if_neg c8, if_neg c10, if_neg c11, if_pos c, if_neg (by omega)]; rfl, hw.below rfl⟩)
 have c13 : k ≠ 13 := odF c13
 repeat refine gs1 ?_
 exact fin_res (vs := [iV 0, .bool false]) rfl rfl ⟨.tmp rfl, .tmp rfl, trivial⟩ rfl (fun w' hw => ⟨by unfold Ru.jop; rw [if_neg c2, if_neg c3, if_neg c4, if_neg c8, if_neg c10, if_neg c11, if_neg c13]; rfl, hw.below rfl⟩)
end Go.Proofs.YtjmeeofdffdpnaaGreatDoor
