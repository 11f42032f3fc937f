/- Lemmas. Conditions: those of each theorem. -/
import Derived.Test.YtnfmjfheciihjaaGreatDoorTMnD
set_option maxRecDepth 8000
set_option maxHeartbeats 16000000
namespace Ru
open Bt
structure Jn (fs : List RFunc) (nt : Nat) (x : Expr) : Prop where
  k0 : x.Kind = 0 → 0 ≤ x.N ∧ x.N ≤ 1125899906842624
  k15 : x.Kind = 15 → 0 ≤ x.N ∧ x.N < nt
  k14 : x.Kind = 14 → 0 ≤ x.N ∧ x.N < fs.length ∧ x.Kids.length = (fs.getD x.N.toNat default).Params.length
  a1 : x.Kind = 2 ∨ x.Kind = 3 → x.Kids.length = 1
  a3 : x.Kind = 13 → x.Kids.length = 3
  a2 : x.Kind ≠ 0 → x.Kind ≠ 1 → x.Kind ≠ 2 → x.Kind ≠ 3 → x.Kind ≠ 13 → x.Kind ≠ 14 → x.Kind ≠ 15 → x.Kids.length = 2 ∧ 4 ≤ x.Kind ∧ x.Kind ≤ 12
variable {e : Env} {fs : List RFunc} {ts : List Int} {j : Nat} {x : Expr}
theorem jx_ok (h : (jx e fs ts (j + 1) x).2 = true) : ∃ ks, jxs (jx e fs ts j) x.Kids = some ks ∧ jx e fs ts (j + 1) x = jnd e fs ts x ks ∧ (jnd e fs ts x ks).2 = true := by
  have h0 := h
  unfold jx at h
  split at h
  · cases h
  · rename_i hk
    split at h
    · cases h
    · rename_i ks hks
      exact ⟨ks, hks, by rw [jx, if_neg hk, hks], h⟩
theorem jx_zero : (jx e fs ts 0 x).2 = false := rfl
theorem jx_kid (h : (jx e fs ts (j + 1) x).2 = true) : ∀ y ∈ x.Kids, (jx e fs ts j y).2 = true := by
  obtain ⟨ks, h1, _⟩ := jx_ok h
  exact (jxs_mem h1).2
theorem jop_len {k : Int} {l : List Int} (h : (jop k l).2 = true) : (k = 2 ∨ k = 3 → l.length = 1) ∧ (k = 13 → l.length = 3) ∧ (k ≠ 2 → k ≠ 3 → k ≠ 13 → l.length = 2 ∧ 4 ≤ k ∧ k ≤ 12) := by
  unfold jop at h
  repeat' split at h
  all_goals simp only [Bool.and_eq_true, decide_eq_true_eq] at h
  · subst h; subst_vars; exact ⟨fun _ => rfl, fun h => by omega, fun h => by omega⟩
  · subst h; subst_vars; exact ⟨fun _ => rfl, fun h => by omega, fun h => by omega⟩
  · subst h; exact ⟨fun h => by omega, fun h => by omega, fun _ _ _ => ⟨rfl, by omega, by omega⟩⟩
  · subst h; exact ⟨fun h => by omega, fun h => by omega, fun _ _ _ => ⟨rfl, by omega, by omega⟩⟩
  · exact ⟨fun h => by omega, fun h => by omega, fun _ _ _ => ⟨h.1, by omega, by omega⟩⟩
  · subst h; exact ⟨fun h => by omega, fun h => by omega, fun _ _ _ => ⟨rfl, by omega, by omega⟩⟩
  · cases h
  · rename_i h2
    exact ⟨fun h => by omega, fun _ => Classical.byContradiction fun hc => h2 (.inl hc), fun _ _ hh => by omega⟩
  · cases h
theorem jx_node (h : (jx e fs ts (j + 1) x).2 = true) : Jn fs ts.length x := by
  obtain ⟨ks, h1, _, h2⟩ := jx_ok h
  obtain ⟨h3, _⟩ := jxs_mem h1
  have hl : x.Kids.length = ks.length := by rw [h3, List.length_map]
  unfold jnd at h2
  split at h2
  · rename_i hk
    simp only [Bool.and_eq_true, decide_eq_true_eq] at h2
    exact ⟨fun _ => ⟨h2.1.2, h2.2⟩, fun h => by omega, fun h => by omega, fun h => by omega, fun h => by omega, fun h => by omega⟩
  · split at h2
    · exact ⟨fun h => by omega, fun h => by omega, fun h => by omega, fun h => by omega, fun h => by omega, fun _ h => by omega⟩
    · split at h2
      · split at h2
        · cases h2
        · exact ⟨fun h => by omega, fun _ => by omega, fun h => by omega, fun h => by omega, fun h => by omega, fun _ _ _ _ _ _ h => by omega⟩
      · split at h2
        · split at h2
          · cases h2
          · simp only [decide_eq_true_eq] at h2
            exact ⟨fun h => by omega, fun h => by omega, fun _ => ⟨by omega, by omega, by rw [hl, h2]⟩, fun h => by omega, fun h => by omega, fun _ _ _ _ _ h => by omega⟩
        · split at h2
          · cases h2
          · have := jop_len h2
            exact ⟨fun h => by omega, fun h => by omega, fun h => by omega, fun h => by have := this.1 h; omega, fun h => by have := this.2.1 h; omega, fun _ _ a b c _ _ => by have := this.2.2 a b c; omega⟩
end Ru
namespace Mn
open Bt Ru
open Go.K (I64)
theorem bnd_okE {α β : Type} {x : R α} {k : α → Int → R β} {r : β × Int} (h : bnd x k = .ok r) : ∃ a u, x = .ok (a, u) ∧ k a u = .ok r := by
  cases x with
  | error e => cases h
  | ok p => exact ⟨p.1, p.2, rfl, h⟩
theorem lim_i (n : Int) : I64 (lim n) := by
  have := lim_I64 n
  unfold I64; unfold mn mx at this; omega
theorem wr_i (n : Int) : I64 (wr n) := by
  unfold wr I64; rw [Go.K.wrap_i64]; split <;> omega
theorem op2_i {k x y v : Int} (h : op2 k x y = .ok v) : I64 v := by
  unfold op2 at h
  repeat' split at h
  all_goals cases h
  all_goals first | exact lim_i _ | (unfold I64; omega)
theorem evs_app {f : Expr → Int → R Int} : ∀ (xs ys : List Expr) (u : Int), evs f (xs ++ ys) u = bnd (evs f xs u) fun l u => bnd (evs f ys u) fun m u => .ok (l ++ m, u)
  | [], ys, u => by
    simp only [List.nil_append, evs, bnd]
    cases evs f ys u <;> rfl
  | x :: xs, ys, u => by
    simp only [List.cons_append, evs]
    cases h : f x u with
    | error e => rfl
    | ok p =>
      obtain ⟨v, u1⟩ := p
      simp only [bnd, evs_app xs ys u1]
      cases h2 : evs f xs u1 with
      | error e => rfl
      | ok q =>
        obtain ⟨l, u2⟩ := q
        simp only
        cases h3 : evs f ys u2 <;> rfl
theorem evs_rng {f : Expr → Int → R Int} : ∀ {xs : List Expr} {u : Int} {l : List Int} {u' : Int}, (∀ x ∈ xs, ∀ u v u', f x u = .ok (v, u') → I64 v ∧ u ≤ u') → evs f xs u = .ok (l, u') → l.length = xs.length ∧ (∀ v ∈ l, I64 v) ∧ u ≤ u'
  | [], u, l, u', _, h => by cases h; exact ⟨rfl, fun v hv => absurd hv (List.not_mem_nil), Int.le_refl _⟩
  | x :: xs, u, l, u', hf, h => by
    unfold evs at h
    obtain ⟨v, u1, h1, h⟩ := bnd_okE h
    obtain ⟨vs, u2, h2, h⟩ := bnd_okE h
    cases h
    obtain ⟨i1, i2⟩ := hf x (List.mem_cons_self ..) _ _ _ h1
    obtain ⟨j1, j2, j3⟩ := evs_rng (fun y hy => hf y (List.mem_cons_of_mem _ hy)) h2
    refine ⟨by simp [j1], fun y hy => ?_, by omega⟩
    rcases List.mem_cons.1 hy with rfl | hy
    · exact i1
    · exact j2 y hy
theorem kid_mem {x : Expr} {i : Nat} (h : i < x.Kids.length) : kid x i ∈ x.Kids := by
  unfold kid
  rw [gDD, List.getElem?_eq_getElem h]
  exact List.getElem_mem h
theorem kid_get {x : Expr} {i : Nat} (h : i < x.Kids.length) : kid x i = x.Kids[i] := by
  unfold kid
  rw [gDD, List.getElem?_eq_getElem h]; rfl
variable {e : Env} {fs : List RFunc} {f : Facts} {d : Dt}
theorem ev_rngA (hJ : ∀ q ∈ fs, (jx e fs q.Params 40 q.Body).2 = true) (hF : ∀ n o q, I64 (factV f d n o q)) : ∀ (g : Nat) (c : Int) (x : Expr) (ts ps : List Int) (j : Nat) (u v u' : Int), (jx e fs ts j x).2 = true → ps.length = ts.length → (∀ p ∈ ps, I64 p) → ev fs f d g c x ps u = .ok (v, u') → I64 v ∧ u ≤ u' := by
  intro g
  induction g with
  | zero => intro c x ts ps j u v u' _ _ _ h; rw [ev] at h; cases h
  | succ g ih =>
    intro c x ts ps j u v u' hj hl hp h
    cases j with
    | zero => exact absurd hj (by rw [jx_zero]; simp)
    | succ j =>
    have hn := jx_node hj
    have hk := jx_kid hj
    have hI : ∀ {y : Expr} {u v u' : Int}, y ∈ x.Kids → ev fs f d g c y ps u = .ok (v, u') → I64 v ∧ u ≤ u' := fun hy h => ih _ _ _ _ _ _ _ _ (hk _ hy) hl hp h
    rw [ev] at h
    by_cases k0 : x.Kind = 0
    · rw [if_pos k0] at h
      have k := k0
      cases h
      have := hn.k0 k
      exact ⟨by unfold I64; omega, Int.le_refl _⟩
    rw [if_neg k0] at h
    by_cases k15 : x.Kind = 15
    · rw [if_pos k15] at h
      have k := k15
      cases h
      have := hn.k15 k
      refine ⟨?_, Int.le_refl _⟩
      rw [gDD, List.getElem?_eq_getElem (by omega)]
      exact hp _ (List.getElem_mem _)
    rw [if_neg k15] at h
    by_cases k1 : x.Kind = 1
    · rw [if_pos k1] at h
      have k := k1
      cases h; exact ⟨hF _ _ _, Int.le_refl _⟩
    rw [if_neg k1] at h
    by_cases k2 : x.Kind = 2
    · rw [if_pos k2] at h
      have k := k2
      obtain ⟨a, u1, h1, h⟩ := bnd_okE h
      cases h
      exact ⟨lim_i _, (hI (kid_mem (by have := hn.a1 (.inl k); omega)) h1).2⟩
    rw [if_neg k2] at h
    by_cases k3 : x.Kind = 3
    · rw [if_pos k3] at h
      have k := k3
      obtain ⟨a, u1, h1, h⟩ := bnd_okE h
      cases h
      exact ⟨wr_i _, (hI (kid_mem (by have := hn.a1 (.inr k); omega)) h1).2⟩
    rw [if_neg k3] at h
    by_cases k11 : x.Kind = 11
    · rw [if_pos k11] at h
      have k := k11
      have hl2 := hn.a2 (by omega) (by omega) (by omega) (by omega) (by omega) (by omega) (by omega)
      obtain ⟨a, u1, h1, h⟩ := bnd_okE h
      have i1 := (hI (kid_mem (by omega)) h1).2
      split at h
      · cases h; exact ⟨by unfold I64; omega, i1⟩
      · have := hI (kid_mem (by omega)) h
        exact ⟨this.1, by omega⟩
    rw [if_neg k11] at h
    by_cases k12 : x.Kind = 12
    · rw [if_pos k12] at h
      have k := k12
      have hl2 := hn.a2 (by omega) (by omega) (by omega) (by omega) (by omega) (by omega) (by omega)
      obtain ⟨a, u1, h1, h⟩ := bnd_okE h
      have i1 := (hI (kid_mem (by omega)) h1).2
      split at h
      · cases h; exact ⟨by unfold I64; omega, i1⟩
      · have := hI (kid_mem (by omega)) h
        exact ⟨this.1, by omega⟩
    rw [if_neg k12] at h
    by_cases k13 : x.Kind = 13
    · rw [if_pos k13] at h
      have k := k13
      have hl3 := hn.a3 k
      obtain ⟨a, u1, h1, h⟩ := bnd_okE h
      have i1 := (hI (kid_mem (by omega)) h1).2
      split at h
      · have := hI (kid_mem (by omega)) h
        exact ⟨this.1, by omega⟩
      · have := hI (kid_mem (by omega)) h
        exact ⟨this.1, by omega⟩
    rw [if_neg k13] at h
    by_cases k14 : x.Kind = 14
    · rw [if_pos k14] at h
      have k := k14
      obtain ⟨h14a, h14b, h14c⟩ := hn.k14 k
      obtain ⟨vs, u1, h1, h⟩ := bnd_okE h
      obtain ⟨r1, r2, r3⟩ := evs_rng (fun y hy u v u' h => hI hy h) h1
      split at h
      · cases h
      split at h
      · cases h
      have hm : fs.getD x.N.toNat default ∈ fs := by
        rw [gDD, List.getElem?_eq_getElem (by omega)]
        exact List.getElem_mem _
      have := ih _ _ _ _ _ _ _ _ (hJ _ hm) (by omega) r2 h
      exact ⟨this.1, by omega⟩
    rw [if_neg k14] at h
    · have hl2 := hn.a2 (by omega) (by omega) (by omega) (by omega) (by omega) (by omega) (by omega)
      obtain ⟨a, u1, h1, h⟩ := bnd_okE h
      obtain ⟨b, u2, h2, h⟩ := bnd_okE h
      have i1 := (hI (kid_mem (by omega)) h1).2
      have i2 := (hI (kid_mem (by omega)) h2).2
      split at h
      · cases h
      · rename_i ho
        cases h
        exact ⟨op2_i ho, by omega⟩
theorem ev_rng (hJ : ∀ q ∈ fs, (jx e fs q.Params 40 q.Body).2 = true) (hF : ∀ n o q, I64 (factV f d n o q)) (g : Nat) {c : Int} {x : Expr} {ts ps : List Int} {j : Nat} {u v u' : Int} (hj : (jx e fs ts j x).2 = true) (hl : ps.length = ts.length) (hp : ∀ p ∈ ps, I64 p) (h : ev fs f d g c x ps u = .ok (v, u')) : I64 v ∧ u ≤ u' := ev_rngA hJ hF g c x ts ps j u v u' hj hl hp h
end Mn
namespace Go.K
open Go Go.RowKit
section
variable {P : Program} {f : Nat → Value} {s : List (Nat × Value)} {J : Cls} {ty : TypeId} {pos : String} {af : Array Edge} {x y : Operand} {dst : Option Nat} {g : Option (Nat × Bool)} {t t' : TypeId}
theorem q_subW {a b : Int} (hx : ev (fr f s) x = iV a) (hy : ev (fr f s) y = iV b) : Qt P J f s ⟨dst, .binOp .sub t x y t', ty, pos, af, g⟩ (iV (IntKind.wrap .i64 (a - b))) := q_arith hx hy (by simp only [Op.intArith]) rfl
end
end Go.K
namespace Go.Proofs.YtnfmjfheciihjaaGreatDoor
open Go Go.K Go.RowKit
open Ru (pB)
attribute [local irreducible] AW RW DW Post Qt
abbrev xK (X : Bt.Expr) (i : Nat) (A : Option Addr) (c : Nat) : List Value := exC (Mn.kid X i) (.slice A (Mn.kid X i).Kids.length c)
structure ECtx (Φ : Hp) (e : Ru.Env) (fs : List Bt.RFunc) (f : Bt.Facts) (y : RnV) : Prop where
 rf : RepSl Φ fs y.rf
 fc : y.fc.ok Φ f
 J : ∀ q ∈ fs, (Ru.jx e fs q.Params 40 q.Body).2 = true
 F : ∀ n o q, I64 (Mn.factV f y.d n o q)
theorem ECtx.mono {Φ Ψ : Hp} {e : Ru.Env} {fs : List Bt.RFunc} {f : Bt.Facts} {y : RnV} (h : ECtx Φ e fs f y) (hl : Hp.le Φ Ψ) : ECtx Ψ e fs f y := ⟨h.rf.mono hl, h.fc.mono hl, h.J, h.F⟩
abbrev evR (w : World) (Φ : Hp) (x : Nat) (y : RnV) (u c : Int) (res : Mn.R Int) : Ending → World → Prop := OwnK w Φ [rB x y u c] res (fun v (_ : Unit) => iV v.1) (fun v _ => [rB x y v.2 c]) fE fun er CE => ∃ c', CE = [rB x y er.2 c']
def EvOK (e : Ru.Env) (fs : List Bt.RFunc) (f : Bt.Facts) (x : Nat) (y : RnV) (g : Nat) : Prop := ∀ (Φ : Hp) (X : Bt.Expr) (v : Value) (w : World) (j : Nat) (ts ps : List Int) (pv : Value) (u c : Int), ECtx Φ e fs f y → RepSl Φ X.Kids v → (Ru.jx e fs ts j X).2 = true → ps.length = ts.length → RepSl Φ ps pv → 0 ≤ u → 0 ≤ c → c ≤ 100 → (j : Int) + 41 * (101 - c) ≤ g →
 StP ⟨w, Φ, fps [rB x y u c]⟩ Φ [rB x y u c] w → Calls pg 23 #[pB x, .agg (exC X v).toArray, pv] w (evR w Φ x y u c (Mn.ev fs f y.d g c X ps u))
theorem evR.ok {w w' : World} {Φ : Hp} {x : Nat} {y : RnV} {u c v u' : Int} {res : Mn.R Int} (h : res = .ok (v, u')) {C : List Chunk} (hw : StP ⟨w, Φ, fps [rB x y u c]⟩ Φ (rB x y u' c :: C) w') : evR w Φ x y u c res (.returned (iV v)) w' := .inl ⟨(v, u'), (), h, rfl, StP.sel hw [0] (by decide) rfl⟩
theorem evR.ok1 {w w' : World} {Φ : Hp} {x : Nat} {y : RnV} {u c v u' : Int} {res : Mn.R Int} {k : Chunk} (h : res = .ok (v, u')) {C : List Chunk} (hw : StP ⟨w, Φ, fps [rB x y u c]⟩ Φ (k :: rB x y u' c :: C) w') : evR w Φ x y u c res (.returned (iV v)) w' := .inl ⟨(v, u'), (), h, rfl, StP.sel hw [1] (by decide) rfl⟩
theorem evR.pn {w w' : World} {Φ : Hp} {x : Nat} {y : RnV} {u c : Int} {res : Mn.R Int} {er : Int × Int} {CE C : List Chunk} (h : res = .error er) (hk : ∃ c', CE = [rB x y er.2 c']) (hw : StP ⟨w, Φ, fps [rB x y u c]⟩ Φ (CE ++ C) w') : evR w Φ x y u c res (.panicked (fE er)) w' := by
 obtain ⟨c', rfl⟩ := hk
 exact .inr ⟨er, _, h, rfl, ⟨c', rfl⟩, StP.sel hw [0] (by decide) rfl⟩
theorem kidV {Φ : Hp} {xs : List Bt.Expr} {v : Value} (h : RepSl Φ xs v) {i : Nat} (hi : i < xs.length) : ∃ A c, PCells Φ (Value.at v (i * 5)) (exC (xs.getD i default) (.slice A (xs.getD i default).Kids.length c)) ∧ RepSl Φ (xs.getD i default).Kids (.slice A (xs.getD i default).Kids.length c) := by
 obtain ⟨cs, h1, h2⟩ := h.at_ i hi
 obtain ⟨kv, rfl, h3, h4⟩ := repE'.1 h1
 obtain ⟨A, c, rfl, _⟩ := h4.sl
 have he : xs[i] = xs.getD i default := by rw [gDD, List.getElem?_eq_getElem hi]; rfl
 rw [he] at h2 h4
 refine ⟨A, c, fun q u hq => ?_, h4⟩
 rw [at_add]
 exact h2 q u hq
section
variable {e : Ru.Env} {fs : List Bt.RFunc} {f : Bt.Facts} {x : Nat} {y : RnV}
theorem eval_of {g : Nat} (ih : EvOK e fs f x y g) (hcall : ∀ (Φ : Hp) (X : Bt.Expr) (v : Value) (w : World) (j : Nat) (ts ps : List Int) (pv : Value) (u c : Int), ECtx Φ e fs f y → RepSl Φ X.Kids v → X.Kind = 14 → (Ru.jx e fs ts (j + 1) X).2 = true → ps.length = ts.length → RepSl Φ ps pv → 0 ≤ u → 0 ≤ c → c ≤ 100 → (j : Int) + 41 * (101 - c) ≤ g → StP ⟨w, Φ, fps [rB x y u c]⟩ Φ [rB x y u c] w → Calls pg 50 #[pB x, .agg (exC X v).toArray, pv] w (evR w Φ x y u c (Mn.ev fs f y.d (g + 1) c X ps u))) : EvOK e fs f x y (g + 1) := by
 intro Φ X v w j ts ps pv u c hC hv hj hlen hpv hu hc0 hc1 hg h0
 cases j with
 | zero => rw [Ru.jx_zero] at hj; cases hj
 | succ j =>
 have hn := Ru.jx_node hj
 have hkj := Ru.jx_kid hj
 have hlim : (j : Int) + 41 * (101 - c) ≤ g := by omega
 have hpi := hpv.i64
 have hI : ∀ {i : Nat} {u v u' : Int}, i < X.Kids.length → Mn.ev fs f y.d g c (Mn.kid X i) ps u = .ok (v, u') → I64 v ∧ u ≤ u' := fun hi h => Mn.ev_rng hC.J hC.F g (hkj _ (Mn.kid_mem hi)) hlen hpi h
 have hK : ∀ {i : Nat} (hi : i < X.Kids.length) {A : Option Addr} {cc : Nat} {u1 : Int} {w1 : World}, 0 ≤ u1 → RepSl Φ (Mn.kid X i).Kids (.slice A (Mn.kid X i).Kids.length cc) → StP ⟨w1, Φ, fps [rB x y u1 c]⟩ Φ [rB x y u1 c] w1 → Calls pg 23 #[pB x, .agg (exC (Mn.kid X i) (.slice A (Mn.kid X i).Kids.length cc)).toArray, pv] w1 (evR w1 Φ x y u1 c (Mn.ev fs f y.d g c (Mn.kid X i) ps u1)) := fun {i} hi {A cc u1 w1} hu1 hr hw => ih Φ _ _ _ j ts ps pv _ c hC hr (hkj _ (Mn.kid_mem hi)) hlen hpv hu1 hc0 hc1 hlim hw
 obtain ⟨vA, vc, rfl, _⟩ := hv.sl
 have hvs := hv.sl
 obtain ⟨pA, pc, rfl, _⟩ := hpv.sl
 have hps := hpv.sl
 generalize hev : Mn.ev fs f y.d (g + 1) c X ps u = res
 rw [Mn.ev] at hev
 refine calls_of_AW (args := [pB x, .agg (exC X (.slice vA X.Kids.length vc)).toArray, .slice pA ps.length pc]) Tryz.func23 rfl (lBT rfl) (St ⟨w, Φ, fps [rB x y u c]⟩ Φ [rB x y u c]) h0 ?_
 show AW _ _ [] _ _ _ [(0, pB x), (1, .agg (exC X (.slice vA X.Kids.length vc)).toArray), (2, .slice pA ps.length pc)] _
 repeat refine gs1 ?_
 refine RW.bxA (cs := (exC X (.slice vA X.Kids.length vc))) rfl rfl fun b4 => ?_
 repeat refine gs1 ?_
 refine AW.cond rfl (fun h => ?_) fun n0 => ?_
 ·
  have h : X.Kind = 0 := odT h
  rw [if_pos h] at hev
  repeat refine gs1 ?_
  exact fin_res (vs := [iV (X.N)]) rfl rfl ⟨.tmp rfl, trivial⟩ rfl (fun w1 hw1 => evR.ok1 hev.symm hw1)
 have n0 : X.Kind ≠ 0 := odF n0
 rw [if_neg n0] at hev
 repeat refine gs1 ?_
 refine AW.cond rfl (fun h => ?_) fun n15 => ?_
 ·
  have h : X.Kind = 15 := odT h
  rw [if_pos h] at hev
  have h15 := hn.k15 h
  obtain ⟨m, hm⟩ : ∃ m : Nat, X.N = m := ⟨X.N.toNat, by omega⟩
  have hml : m < ps.length := by omega
  have pe := RepSl.gi hpv hml
  repeat refine gs1 ?_
  refine RW.q (v := .pointer (some (Value.at (.slice pA ps.length pc) (m * 1)))) rfl (qa_ixN (n := ps.length) (i := m) rfl (by show Value.int .i64 X.N = _; rw [hm]) hps hml) ?_
  repeat refine gs1 ?_
  exact fin_res (vs := [iV (ps.getD m 0)]) rfl rfl ⟨.tmp rfl, trivial⟩ rfl (fun w1 hw1 => evR.ok1 (by rw [← hev, hm, Int.toNat_natCast]) hw1)
 have n15 : X.Kind ≠ 15 := odF n15
 rw [if_neg n15] at hev
 repeat refine gs1 ?_
 refine AW.cond rfl (fun h => ?_) fun n1 => ?_
 ·
  have h : X.Kind = 1 := odT h
  rw [if_pos h] at hev
  repeat refine gs1 ?_
  refine RW.q rfl (q_call (args := #[pB x, .agg (exC X (.slice vA X.Kids.length vc)).toArray]) oK rfl rfl (fun w1 hw1 => mfact_c w1 (y := y) (u := u) (c := c) (ks := X.Kids) (hw1.sAt 1 rfl) (hC.fc.mono hw1.phi))) ?_
  repeat refine gs1 ?_
  exact fin_res (vs := [iV (Mn.factV f y.d X.N X.Of X.Of2)]) rfl rfl ⟨.tmp rfl, trivial⟩ rfl (fun w1 hw1 => evR.ok1 hev.symm hw1)
 have n1 : X.Kind ≠ 1 := odF n1
 rw [if_neg n1] at hev
 repeat refine gs1 ?_
 refine AW.cond rfl (fun h => ?_) fun n2 => ?_
 ·
  have h : X.Kind = 2 := odT h
  rw [if_pos h] at hev
  have hl := hn.a1 (.inl h)
  obtain ⟨Aa, ca, hpa, hra⟩ := kidV hv (i := 0) (by omega)
  change PCells Φ _ (xK X 0 Aa ca) at hpa
  change RepSl Φ (Mn.kid X 0).Kids (.slice Aa (Mn.kid X 0).Kids.length ca) at hra
  repeat refine gs1 ?_
  refine RW.q (v := .pointer (some (Value.at (.slice vA X.Kids.length vc) (0 * 5)))) rfl (qa_ixL (n := X.Kids.length) (i := 0) rfl rfl hvs (by omega)) (RW.q (v := .agg (xK X 0 Aa ca).toArray) rfl (qa_ldA (cs := xK X 0 Aa ca) rfl (Cells.phi hpa) rfl) ?_)
  repeat refine gs1 ?_
  refine RW.own (args := #[pB x, .agg (xK X 0 Aa ca).toArray, .slice pA ps.length pc]) (C2 := [.blk b4 69 (exC X (.slice vA X.Kids.length vc))]) [1, 0] (by decide) rfl rfl oK rfl rfl (fun w1 hw1 => hK (i := 0) (by omega) (hu) hra hw1) (fun er CE w2 he hk hw => evR.pn (by rw [← hev]; exact Mn.bnd_err he) hk hw) ?_
  rintro ⟨va, ua⟩ _ hr
  rw [Mn.bnd_ok hr] at hev
  have hIa := hI (by omega) hr
  simp only at hIa ⊢
  repeat refine gs1 ?_
  refine RW.q rfl (q_call (args := #[iV 0, iV va]) oK rfl rfl (fun w1 hw1 => Sub_c w1 (hp w1) (Hp.le_refl _) (by unfold I64; omega) hIa.1)) ?_
  repeat refine gs1 ?_
  exact fin_res (vs := [iV (Mn.lim (0 - va))]) rfl rfl ⟨.tmp rfl, trivial⟩ rfl (fun w1 hw1 => evR.ok hev.symm hw1)
 have n2 : X.Kind ≠ 2 := odF n2
 rw [if_neg n2] at hev
 repeat refine gs1 ?_
 refine AW.cond rfl (fun h => ?_) fun n3 => ?_
 ·
  have h : X.Kind = 3 := odT h
  rw [if_pos h] at hev
  have hl := hn.a1 (.inr h)
  obtain ⟨Aa, ca, hpa, hra⟩ := kidV hv (i := 0) (by omega)
  change PCells Φ _ (xK X 0 Aa ca) at hpa
  change RepSl Φ (Mn.kid X 0).Kids (.slice Aa (Mn.kid X 0).Kids.length ca) at hra
  repeat refine gs1 ?_
  refine RW.q (v := .pointer (some (Value.at (.slice vA X.Kids.length vc) (0 * 5)))) rfl (qa_ixL (n := X.Kids.length) (i := 0) rfl rfl hvs (by omega)) (RW.q (v := .agg (xK X 0 Aa ca).toArray) rfl (qa_ldA (cs := xK X 0 Aa ca) rfl (Cells.phi hpa) rfl) ?_)
  repeat refine gs1 ?_
  refine RW.own (args := #[pB x, .agg (xK X 0 Aa ca).toArray, .slice pA ps.length pc]) (C2 := [.blk b4 69 (exC X (.slice vA X.Kids.length vc))]) [1, 0] (by decide) rfl rfl oK rfl rfl (fun w1 hw1 => hK (i := 0) (by omega) (hu) hra hw1) (fun er CE w2 he hk hw => evR.pn (by rw [← hev]; exact Mn.bnd_err he) hk hw) ?_
  rintro ⟨va, ua⟩ _ hr
  rw [Mn.bnd_ok hr] at hev
  have hIa := hI (by omega) hr
  simp only at hIa ⊢
  repeat refine gs1 ?_
  refine RW.q (v := iV (Mn.wr (1 - va))) rfl (q_subW rfl rfl) ?_
  repeat refine gs1 ?_
  exact fin_res (vs := [iV (Mn.wr (1 - va))]) rfl rfl ⟨.tmp rfl, trivial⟩ rfl (fun w1 hw1 => evR.ok hev.symm hw1)
 have n3 : X.Kind ≠ 3 := odF n3
 rw [if_neg n3] at hev
 repeat refine gs1 ?_
 refine AW.cond rfl (fun h => ?_) fun n11 => ?_
 ·
  have h : X.Kind = 11 := odT h
  rw [if_pos h] at hev
  have hl := hn.a2 n0 n1 n2 n3 (by omega) (by omega) n15
  obtain ⟨Aa, ca, hpa, hra⟩ := kidV hv (i := 0) (by omega)
  change PCells Φ _ (xK X 0 Aa ca) at hpa
  change RepSl Φ (Mn.kid X 0).Kids (.slice Aa (Mn.kid X 0).Kids.length ca) at hra
  repeat refine gs1 ?_
  refine RW.q (v := .pointer (some (Value.at (.slice vA X.Kids.length vc) (0 * 5)))) rfl (qa_ixL (n := X.Kids.length) (i := 0) rfl rfl hvs (by omega)) (RW.q (v := .agg (xK X 0 Aa ca).toArray) rfl (qa_ldA (cs := xK X 0 Aa ca) rfl (Cells.phi hpa) rfl) ?_)
  repeat refine gs1 ?_
  refine RW.own (args := #[pB x, .agg (xK X 0 Aa ca).toArray, .slice pA ps.length pc]) (C2 := [.blk b4 69 (exC X (.slice vA X.Kids.length vc))]) [1, 0] (by decide) rfl rfl oK rfl rfl (fun w1 hw1 => hK (i := 0) (by omega) (hu) hra hw1) (fun er CE w2 he hk hw => evR.pn (by rw [← hev]; exact Mn.bnd_err he) hk hw) ?_
  rintro ⟨va, ua⟩ _ hr
  rw [Mn.bnd_ok hr] at hev
  have hIa := hI (by omega) hr
  simp only at hIa ⊢
  repeat refine gs1 ?_
  refine AW.cond rfl (fun hc => ?_) fun hc => ?_
  ·
   have hc : va = 0 := odT hc
   rw [if_pos hc] at hev
   repeat refine gs1 ?_
   exact fin_res (vs := [iV (0)]) rfl rfl ⟨.tmp rfl, trivial⟩ rfl (fun w1 hw1 => evR.ok hev.symm hw1)
  have hc : va ≠ 0 := odF hc
  rw [if_neg hc] at hev
  obtain ⟨Ab, cb, hpb, hrb⟩ := kidV hv (i := 1) (by omega)
  change PCells Φ _ (xK X 1 Ab cb) at hpb
  change RepSl Φ (Mn.kid X 1).Kids (.slice Ab (Mn.kid X 1).Kids.length cb) at hrb
  repeat refine gs1 ?_
  refine RW.q (v := .pointer (some (Value.at (.slice vA X.Kids.length vc) (1 * 5)))) rfl (qa_ixL (n := X.Kids.length) (i := 1) rfl rfl hvs (by omega)) (RW.q (v := .agg (xK X 1 Ab cb).toArray) rfl (qa_ldA (cs := xK X 1 Ab cb) rfl (Cells.phi hpb) rfl) ?_)
  repeat refine gs1 ?_
  refine RW.own (args := #[pB x, .agg (xK X 1 Ab cb).toArray, .slice pA ps.length pc]) (C2 := [.blk b4 69 (exC X (.slice vA X.Kids.length vc))]) [0, 1] (by decide) rfl rfl oK rfl rfl (fun w1 hw1 => hK (i := 1) (by omega) (by omega) hrb hw1) (fun er CE w2 he hk hw => evR.pn (hev.symm.trans he) hk hw) ?_
  rintro ⟨vb, ub⟩ _ hr
  simp only
  repeat refine gs1 ?_
  exact fin_res (vs := [iV (vb)]) rfl rfl ⟨.tmp rfl, trivial⟩ rfl (fun w1 hw1 => evR.ok (hev.symm.trans hr) hw1)
 have n11 : X.Kind ≠ 11 := odF n11
 rw [if_neg n11] at hev
 repeat refine gs1 ?_
 refine AW.cond rfl (fun h => ?_) fun n12 => ?_
 ·
  have h : X.Kind = 12 := odT h
  rw [if_pos h] at hev
  have hl := hn.a2 n0 n1 n2 n3 (by omega) (by omega) n15
  obtain ⟨Aa, ca, hpa, hra⟩ := kidV hv (i := 0) (by omega)
  change PCells Φ _ (xK X 0 Aa ca) at hpa
  change RepSl Φ (Mn.kid X 0).Kids (.slice Aa (Mn.kid X 0).Kids.length ca) at hra
  repeat refine gs1 ?_
  refine RW.q (v := .pointer (some (Value.at (.slice vA X.Kids.length vc) (0 * 5)))) rfl (qa_ixL (n := X.Kids.length) (i := 0) rfl rfl hvs (by omega)) (RW.q (v := .agg (xK X 0 Aa ca).toArray) rfl (qa_ldA (cs := xK X 0 Aa ca) rfl (Cells.phi hpa) rfl) ?_)
  repeat refine gs1 ?_
  refine RW.own (args := #[pB x, .agg (xK X 0 Aa ca).toArray, .slice pA ps.length pc]) (C2 := [.blk b4 69 (exC X (.slice vA X.Kids.length vc))]) [1, 0] (by decide) rfl rfl oK rfl rfl (fun w1 hw1 => hK (i := 0) (by omega) (hu) hra hw1) (fun er CE w2 he hk hw => evR.pn (by rw [← hev]; exact Mn.bnd_err he) hk hw) ?_
  rintro ⟨va, ua⟩ _ hr
  rw [Mn.bnd_ok hr] at hev
  have hIa := hI (by omega) hr
  simp only at hIa ⊢
  repeat refine gs1 ?_
  refine AW.cond rfl (fun hc => ?_) fun hc => ?_
  ·
   have hc : va ≠ 0 := by simpa using hc
   rw [if_pos hc] at hev
   repeat refine gs1 ?_
   exact fin_res (vs := [iV (1)]) rfl rfl ⟨.tmp rfl, trivial⟩ rfl (fun w1 hw1 => evR.ok hev.symm hw1)
  have hc : va = 0 := by simpa using hc
  rw [if_neg (by omega)] at hev
  obtain ⟨Ab, cb, hpb, hrb⟩ := kidV hv (i := 1) (by omega)
  change PCells Φ _ (xK X 1 Ab cb) at hpb
  change RepSl Φ (Mn.kid X 1).Kids (.slice Ab (Mn.kid X 1).Kids.length cb) at hrb
  repeat refine gs1 ?_
  refine RW.q (v := .pointer (some (Value.at (.slice vA X.Kids.length vc) (1 * 5)))) rfl (qa_ixL (n := X.Kids.length) (i := 1) rfl rfl hvs (by omega)) (RW.q (v := .agg (xK X 1 Ab cb).toArray) rfl (qa_ldA (cs := xK X 1 Ab cb) rfl (Cells.phi hpb) rfl) ?_)
  repeat refine gs1 ?_
  refine RW.own (args := #[pB x, .agg (xK X 1 Ab cb).toArray, .slice pA ps.length pc]) (C2 := [.blk b4 69 (exC X (.slice vA X.Kids.length vc))]) [0, 1] (by decide) rfl rfl oK rfl rfl (fun w1 hw1 => hK (i := 1) (by omega) (by omega) hrb hw1) (fun er CE w2 he hk hw => evR.pn (hev.symm.trans he) hk hw) ?_
  rintro ⟨vb, ub⟩ _ hr
  simp only
  repeat refine gs1 ?_
  exact fin_res (vs := [iV (vb)]) rfl rfl ⟨.tmp rfl, trivial⟩ rfl (fun w1 hw1 => evR.ok (hev.symm.trans hr) hw1)
 have n12 : X.Kind ≠ 12 := odF n12
 rw [if_neg n12] at hev
 repeat refine gs1 ?_
 refine AW.cond rfl (fun h => ?_) fun n13 => ?_
 ·
  have h : X.Kind = 13 := odT h
  rw [if_pos h] at hev
  have hl := hn.a3 h
  obtain ⟨Aa, ca, hpa, hra⟩ := kidV hv (i := 0) (by omega)
  change PCells Φ _ (xK X 0 Aa ca) at hpa
  change RepSl Φ (Mn.kid X 0).Kids (.slice Aa (Mn.kid X 0).Kids.length ca) at hra
  repeat refine gs1 ?_
  refine RW.q (v := .pointer (some (Value.at (.slice vA X.Kids.length vc) (0 * 5)))) rfl (qa_ixL (n := X.Kids.length) (i := 0) rfl rfl hvs (by omega)) (RW.q (v := .agg (xK X 0 Aa ca).toArray) rfl (qa_ldA (cs := xK X 0 Aa ca) rfl (Cells.phi hpa) rfl) ?_)
  repeat refine gs1 ?_
  refine RW.own (args := #[pB x, .agg (xK X 0 Aa ca).toArray, .slice pA ps.length pc]) (C2 := [.blk b4 69 (exC X (.slice vA X.Kids.length vc))]) [1, 0] (by decide) rfl rfl oK rfl rfl (fun w1 hw1 => hK (i := 0) (by omega) (hu) hra hw1) (fun er CE w2 he hk hw => evR.pn (by rw [← hev]; exact Mn.bnd_err he) hk hw) ?_
  rintro ⟨va, ua⟩ _ hr
  rw [Mn.bnd_ok hr] at hev
  have hIa := hI (by omega) hr
  simp only at hIa ⊢
  repeat refine gs1 ?_
  refine AW.cond rfl (fun hc => ?_) fun hc => ?_
  ·
   have hc : va ≠ 0 := by simpa using hc
   rw [if_pos hc] at hev
   obtain ⟨Ab, cb, hpb, hrb⟩ := kidV hv (i := 1) (by omega)
   change PCells Φ _ (xK X 1 Ab cb) at hpb
   change RepSl Φ (Mn.kid X 1).Kids (.slice Ab (Mn.kid X 1).Kids.length cb) at hrb
   repeat refine gs1 ?_
   refine RW.q (v := .pointer (some (Value.at (.slice vA X.Kids.length vc) (1 * 5)))) rfl (qa_ixL (n := X.Kids.length) (i := 1) rfl rfl hvs (by omega)) (RW.q (v := .agg (xK X 1 Ab cb).toArray) rfl (qa_ldA (cs := xK X 1 Ab cb) rfl (Cells.phi hpb) rfl) ?_)
   repeat refine gs1 ?_
   refine RW.own (args := #[pB x, .agg (xK X 1 Ab cb).toArray, .slice pA ps.length pc]) (C2 := [.blk b4 69 (exC X (.slice vA X.Kids.length vc))]) [0, 1] (by decide) rfl rfl oK rfl rfl (fun w1 hw1 => hK (i := 1) (by omega) (by omega) hrb hw1) (fun er CE w2 he hk hw => evR.pn (hev.symm.trans he) hk hw) ?_
   rintro ⟨vb, ub⟩ _ hr
   simp only
   repeat refine gs1 ?_
   exact fin_res (vs := [iV (vb)]) rfl rfl ⟨.tmp rfl, trivial⟩ rfl (fun w1 hw1 => evR.ok (hev.symm.trans hr) hw1)
  have hc : va = 0 := by simpa using hc
  rw [if_neg (by omega)] at hev
  obtain ⟨Ab, cb, hpb, hrb⟩ := kidV hv (i := 2) (by omega)
  change PCells Φ _ (exC (Mn.kid X 2) (.slice Ab (Mn.kid X 2).Kids.length cb)) at hpb
  change RepSl Φ (Mn.kid X 2).Kids (.slice Ab (Mn.kid X 2).Kids.length cb) at hrb
  repeat refine gs1 ?_
  refine RW.q (v := .pointer (some (Value.at (.slice vA X.Kids.length vc) (2 * 5)))) rfl (qa_ixL (n := X.Kids.length) (i := 2) rfl rfl hvs (by omega)) (RW.q (v := .agg (exC (Mn.kid X 2) (.slice Ab (Mn.kid X 2).Kids.length cb)).toArray) rfl (qa_ldA (cs := exC (Mn.kid X 2) (.slice Ab (Mn.kid X 2).Kids.length cb)) rfl (Cells.phi hpb) rfl) ?_)
  repeat refine gs1 ?_
  refine RW.own (args := #[pB x, .agg (exC (Mn.kid X 2) (.slice Ab (Mn.kid X 2).Kids.length cb)).toArray, .slice pA ps.length pc]) (C2 := [.blk b4 69 (exC X (.slice vA X.Kids.length vc))]) [0, 1] (by decide) rfl rfl oK rfl rfl (fun w1 hw1 => hK (i := 2) (by omega) (by omega) hrb hw1) (fun er CE w2 he hk hw => evR.pn (hev.symm.trans he) hk hw) ?_
  rintro ⟨vb, ub⟩ _ hr
  simp only
  repeat refine gs1 ?_
  exact fin_res (vs := [iV (vb)]) rfl rfl ⟨.tmp rfl, trivial⟩ rfl (fun w1 hw1 => evR.ok (hev.symm.trans hr) hw1)
 have n13 : X.Kind ≠ 13 := odF n13
 rw [if_neg n13] at hev
 repeat refine gs1 ?_
 refine AW.cond rfl (fun h => ?_) fun n14 => ?_
 ·
  have h : X.Kind = 14 := odT h
  rw [if_pos h] at hev
  have hev2 : Mn.ev fs f y.d (g + 1) c X ps u = res := by rw [Mn.ev, if_neg n0, if_neg n15, if_neg n1, if_neg n2, if_neg n3, if_neg n11, if_neg n12, if_neg n13, if_pos h]; exact hev
  repeat refine gs1 ?_
  refine RW.own (args := #[pB x, .agg (exC X (.slice vA X.Kids.length vc)).toArray, .slice pA ps.length pc]) (C2 := [.blk b4 69 (exC X (.slice vA X.Kids.length vc))]) [1, 0] (by decide) rfl rfl oK rfl rfl (fun w1 hw1 => hcall Φ X _ w1 j ts ps _ u c hC hv h hj hlen hpv hu hc0 hc1 hlim hw1) (fun er CE w2 he hk hw => evR.pn (hev2.symm.trans he) hk hw) ?_
  rintro ⟨vb, ub⟩ _ hr
  simp only
  repeat refine gs1 ?_
  exact fin_res (vs := [iV (vb)]) rfl rfl ⟨.tmp rfl, trivial⟩ rfl (fun w1 hw1 => evR.ok (hev2.symm.trans hr) hw1)
 have n14 : X.Kind ≠ 14 := odF n14
 rw [if_neg n14] at hev
 repeat refine gs1 ?_
 have hl := hn.a2 n0 n1 n2 n3 n13 n14 n15
 obtain ⟨Aa, ca, hpa, hra⟩ := kidV hv (i := 0) (by omega)
 change PCells Φ _ (xK X 0 Aa ca) at hpa
 change RepSl Φ (Mn.kid X 0).Kids (.slice Aa (Mn.kid X 0).Kids.length ca) at hra
 repeat refine gs1 ?_
 refine RW.q (v := .pointer (some (Value.at (.slice vA X.Kids.length vc) (0 * 5)))) rfl (qa_ixL (n := X.Kids.length) (i := 0) rfl rfl hvs (by omega)) (RW.q (v := .agg (xK X 0 Aa ca).toArray) rfl (qa_ldA (cs := xK X 0 Aa ca) rfl (Cells.phi hpa) rfl) ?_)
 repeat refine gs1 ?_
 refine RW.own (args := #[pB x, .agg (xK X 0 Aa ca).toArray, .slice pA ps.length pc]) (C2 := [.blk b4 69 (exC X (.slice vA X.Kids.length vc))]) [1, 0] (by decide) rfl rfl oK rfl rfl (fun w1 hw1 => hK (i := 0) (by omega) (hu) hra hw1) (fun er CE w2 he hk hw => evR.pn (by rw [← hev]; exact Mn.bnd_err he) hk hw) ?_
 rintro ⟨va, ua⟩ _ hr
 rw [Mn.bnd_ok hr] at hev
 have hIa := hI (by omega) hr
 simp only at hIa ⊢
 repeat refine gs1 ?_
 obtain ⟨Ab, cb, hpb, hrb⟩ := kidV hv (i := 1) (by omega)
 change PCells Φ _ (xK X 1 Ab cb) at hpb
 change RepSl Φ (Mn.kid X 1).Kids (.slice Ab (Mn.kid X 1).Kids.length cb) at hrb
 refine AW.draw (J0 := St ⟨w, Φ, fps [rB x y u c]⟩ Φ [.blk b4 69 (exC X (.slice vA X.Kids.length vc))]) [.q, .q, .q, .q, .q, .q, .q, .q, .q, .e, .e, .q] [0, 1, 2, 3, 4, 5, 6, 7, 8, 9, 10, 11] hmix (by kernel_rfl) ?_
 repeat refine gs1 ?_
 refine DW.q (v := .pointer (some (Value.at (.slice vA X.Kids.length vc) (1 * 5)))) (fun _ h => St.one 1 rfl h) rfl (qa_ixL (n := X.Kids.length) (i := 1) rfl rfl hvs (by omega)) (DW.q (v := .agg (xK X 1 Ab cb).toArray) (fun _ h => St.one 1 rfl h) rfl (qa_ldA (cs := xK X 1 Ab cb) rfl (Cells.phi hpb) rfl) ?_)
 repeat refine gs1 ?_
 refine DW.own (args := #[pB x, .agg (xK X 1 Ab cb).toArray, .slice pA ps.length pc]) (C2 := [.blk b4 69 (exC X (.slice vA X.Kids.length vc))]) [0, 1] (by decide) rfl rfl oK rfl rfl (fun w1 hw1 => hK (i := 1) (by omega) (by omega) hrb hw1) (fun er CE w2 he hk hw => evR.pn (by rw [← hev]; exact Mn.bnd_err he) hk hw) (fun _ _ _ h => St.one 1 rfl h) ?_
 rintro ⟨vb, ub⟩ _ hr
 rw [Mn.bnd_ok hr] at hev
 have hIb := hI (by omega) hr
 simp only at hIb ⊢
 repeat refine gs1 ?_
 refine DW.own (args := #[iV X.Kind, iV va, iV vb]) (A := []) (C2 := [rB x y ub c, .blk b4 69 (exC X (.slice vA X.Kids.length vc))]) [0, 1] (by decide) rfl rfl oK rfl rfl (fun w1 hw1 => operate_c w1 hw1.phi hIa.1 hIb.1) (fun er CE w2 he hk hw => ?_) (fun _ _ _ h => St.one 1 rfl h) ?_
 ·
  obtain rfl := hk
  exact evR.pn (er := (er, ub)) (CE := [rB x y ub c]) (by rw [← hev, he]) ⟨c, rfl⟩ hw
 rintro vo _ hr2
 rw [hr2] at hev
 repeat refine gs1 ?_
 exact fin_res (vs := [iV (vo)]) rfl rfl ⟨.tmp rfl, trivial⟩ rfl (fun w1 hw1 => evR.ok hev.symm hw1)
end
theorem evR.less {w w' : World} {Φ Ψ : Hp} {x : Nat} {y : RnV} {u c v u' : Int} {res : Mn.R Int} (h : res = .ok (v, u')) {C : List Chunk} (hl : Hp.le Φ Ψ) (hw : StP ⟨w, Φ, fps [rB x y u c]⟩ Ψ (rB x y u' c :: C) w') : evR w Φ x y u c res (.returned (iV v)) w' := evR.ok h (StP.less hw hl)
theorem funV {Φ : Hp} {xs : List Bt.RFunc} {v : Value} (h : RepSl Φ xs v) {i : Nat} (hi : i < xs.length) : ∃ A c, PCells Φ (Value.at v (i * 8 + 3)) (exC (xs.getD i default).Body (.slice A (xs.getD i default).Body.Kids.length c)) ∧ RepSl Φ (xs.getD i default).Body.Kids (.slice A (xs.getD i default).Body.Kids.length c) := by
 obtain ⟨cs, h1, h2⟩ := h.at_ i hi
 obtain ⟨pv, kv, rfl, _, _, _, h3, h4⟩ := h1
 obtain ⟨A, c, rfl, _⟩ := h4.sl
 have he : xs[i] = xs.getD i default := by rw [gDD, List.getElem?_eq_getElem hi]; rfl
 rw [he] at h2 h4
 refine ⟨A, c, fun q u hq => ?_, h4⟩
 rw [at_add, Nat.add_assoc]
 refine h2 (3 + q) u ?_
 rw [Nat.add_comm 3 q]
 exact hq
section
variable {e : Ru.Env} {fs : List Bt.RFunc} {f : Bt.Facts} {x : Nat} {y : RnV}
theorem mcall_of {g : Nat} (ih : EvOK e fs f x y g) (Φ : Hp) (X : Bt.Expr) (v : Value) (w : World) (j : Nat) (ts ps : List Int) (pv : Value) (u c : Int) (hC : ECtx Φ e fs f y) (hv : RepSl Φ X.Kids v) (hk14 : X.Kind = 14) (hj : (Ru.jx e fs ts (j + 1) X).2 = true) (hlen : ps.length = ts.length) (hpv : RepSl Φ ps pv) (hu : 0 ≤ u) (hc0 : 0 ≤ c) (hc1 : c ≤ 100) (hlim : (j : Int) + 41 * (101 - c) ≤ g)
  (h0 : StP ⟨w, Φ, fps [rB x y u c]⟩ Φ [rB x y u c] w) : Calls pg 50 #[pB x, .agg (exC X v).toArray, pv] w (evR w Φ x y u c (Mn.ev fs f y.d (g + 1) c X ps u)) := by
 have hn := Ru.jx_node hj
 have hkj := Ru.jx_kid hj
 have hpi := hpv.i64
 have hI : ∀ z ∈ X.Kids, ∀ u v u', Mn.ev fs f y.d g c z ps u = .ok (v, u') → I64 v ∧ u ≤ u' := fun z hz u v u' h => Mn.ev_rng hC.J hC.F g (hkj z hz) hlen hpi h
 obtain ⟨h14a, h14b, h14c⟩ := hn.k14 hk14
 obtain ⟨m, hm⟩ : ∃ m : Nat, X.N = m := ⟨X.N.toNat, by omega⟩
 rw [hm, Int.toNat_natCast] at h14c
 have hml : m < fs.length := by omega
 have hxm := hv.max
 have hxb : X.Kids.length * 56 ≤ maxSl := hxm
 simp only [maxSl] at hxb
 obtain ⟨vA, vc, rfl, _⟩ := hv.sl
 have hvs := hv.sl
 have hfs := hC.rf.sl
 have hev : Mn.ev fs f y.d (g + 1) c X ps u = Mn.bnd (Mn.evs (fun z u => Mn.ev fs f y.d g c z ps u) X.Kids u) fun vs u => if 10000 ≤ u then .error (14, u) else if 100 ≤ c then .error (8, u + 1) else Mn.ev fs f y.d g (c + 1) (fs.getD m default).Body vs (u + 1) := by
  rw [Mn.ev, if_neg (by omega), if_neg (by omega), if_neg (by omega), if_neg (by omega), if_neg (by omega), if_neg (by omega), if_neg (by omega), if_neg (by omega), if_pos hk14, hm, Int.toNat_natCast]
 generalize hres : Mn.ev fs f y.d (g + 1) c X ps u = res
 rw [hres] at hev
 refine calls_of_AW (args := [pB x, .agg (exC X (.slice vA X.Kids.length vc)).toArray, pv]) Tryz.func50 rfl (lBT rfl) (St ⟨w, Φ, fps [rB x y u c]⟩ Φ [rB x y u c]) h0 ?_
 show AW _ _ [] _ _ _ [(0, pB x), (1, .agg (exC X (.slice vA X.Kids.length vc)).toArray), (2, pv)] _
 repeat refine gs1 ?_
 refine RW.bxA (cs := exC X (.slice vA X.Kids.length vc)) rfl rfl fun b4 => ?_
 repeat refine gs1 ?_
 refine RW.eff _ _ rfl (e_makeSlice (l := 0) (c := X.Kids.length) (n := 0) (xs := []) rfl rfl uT29 inf3 (by omega) (by omega) (by omega) rfl rfl) fun bk => ?_
 repeat refine gs1 ?_
 refine AW.loop (fun s J q => ∃ (i : Nat) (vals : List Int) (u1 : Int) (kv : Value), s = [(0, pB x), (2, pv), (4, pB b4), (7, kv), (16, .slice vA X.Kids.length vc), (17, iV (X.Kids.length : Int)), (18, iV (i : Int))] ∧ J = St ⟨w, Φ, fps [rB x y u c]⟩ Φ [.row kv 3 1 i (vals.map (Value.int .i64)), .blk b4 69 (exC X (.slice vA X.Kids.length vc)), rB x y u1 c] ∧ q = X.Kids.length - i ∧ i ≤ X.Kids.length ∧ IsSl kv i ∧ Mn.evs (fun z u => Mn.ev fs f y.d g c z ps u) (X.Kids.take i) u = .ok (vals, u1)) (s0 := [(0, pB x), (2, pv), (4, pB b4), (7, .slice (some ⟨bk, 0, none⟩) 0 X.Kids.length), (16, .slice vA X.Kids.length vc), (17, iV (X.Kids.length : Int)), (18, iV ((0 : Nat) : Int))]) (J1 := _) (m0 := _) ⟨0, [], u, .slice (some ⟨bk, 0, none⟩) 0 X.Kids.length, rfl, rfl, rfl, Nat.zero_le _, isSl_mk (Nat.zero_le _), rfl⟩ ⟨rfl, rfl, rfl, rfl, rfl, rfl, rfl, trivial⟩ (fun _ h => h) ?_
 rintro _ _ _ _ ⟨i, vals, u1, kv, rfl, rfl, rfl, hi, hkv, he1⟩
 obtain ⟨r1, r2, r3⟩ := Mn.evs_rng (fun z hz => hI z (List.mem_of_mem_take hz)) he1
 rw [List.length_take, Nat.min_eq_left hi] at r1
 obtain ⟨kA, kc, rfl, _⟩ := hkv
 repeat refine gs1 ?_
 refine AW.cond rfl (fun h => ?_) fun h => ?_
 ·
  have h : i < X.Kids.length := by have := odT h; omega
  obtain ⟨Aa, ca, hpa, hra⟩ := kidV hv (i := i) h
  change PCells Φ _ (exC (Mn.kid X i) (.slice Aa (Mn.kid X i).Kids.length ca)) at hpa
  change RepSl Φ (Mn.kid X i).Kids (.slice Aa (Mn.kid X i).Kids.length ca) at hra
  have htk : X.Kids.take (i + 1) = X.Kids.take i ++ [Mn.kid X i] := by rw [Ru.take_snoc h, Mn.kid_get h]
  have hall : ∀ er, Mn.ev fs f y.d g c (Mn.kid X i) ps u1 = .error er → res = .error er := fun er hr => by
   have hsp : X.Kids = X.Kids.take i ++ (Mn.kid X i :: X.Kids.drop (i + 1)) := by rw [Mn.kid_get h, ← List.drop_eq_getElem_cons h, List.take_append_drop]
   rw [hev, hsp, Mn.evs_app, Mn.bnd_ok he1]
   simp only [Mn.evs, hr]; rfl
  repeat refine gs1 ?_
  refine RW.alc rfl fun b9 => ?_
  repeat refine gs1 ?_
  refine RW.own (args := #[pB x, .agg (exC (Mn.kid X i) (.slice Aa (Mn.kid X i).Kids.length ca)).toArray, pv]) (C2 := [.blk b9 69 (exC (Mn.kid X i) (.slice Aa (Mn.kid X i).Kids.length ca)), .row (.slice kA i kc) 3 1 i (vals.map (Value.int .i64)), .blk b4 69 (exC X (.slice vA X.Kids.length vc))]) [3, 0, 1, 2] (by decide) rfl rfl oK rfl rfl (fun w1 hw1 => ih Φ _ _ _ j ts ps pv _ c hC hra (hkj _ (Mn.kid_mem h)) hlen hpv (by omega) hc0 hc1 hlim hw1) (fun er CE w2 he hk hw => evR.pn (hall er he) hk hw) ?_
  rintro ⟨va, u2⟩ _ hr
  have hIa := hI _ (Mn.kid_mem h) _ _ _ hr
  simp only
  repeat refine gs1 ?_
  refine RW.eff _ _ rfl (e_buildSlice (vals := [(0, iV va)]) (cells := [iV va]) uT29 inf3 rfl rfl rfl (by kernel_rfl) rfl) fun b8 => ?_
  repeat refine gs1 ?_
  refine RW.eff (fun xv : {vq : Value // IsSl vq (i + 1)} => xv.1) (fun xv => St ⟨w, Φ, fps [rB x y u c]⟩ Φ [.row (.slice (some ⟨b8, 0, none⟩) 1 1) 3 1 1 [iV va], rB x y u2 c, .blk b9 69 (exC (Mn.kid X i) (.slice Aa (Mn.kid X i).Kids.length ca)), .row xv.1 3 1 (i + 1) (vals.map (Value.int .i64) ++ [iV va]), .blk b4 69 (exC X (.slice vA X.Kids.length vc))]) rfl (e_append 3 rfl rfl rfl uT29 inf3 rfl rfl rfl (Cells.row0 0 rfl) rfl (by omega) (by omega) (fun _ => rfl)) ?_
  rintro ⟨kv2, hkv2⟩
  simp only
  repeat refine gs1 ?_
  exact Post.back (s' := _) (J' := _) (m' := _) (by omega) ⟨i + 1, vals ++ [va], u2, kv2, rfl, rfl, rfl, by omega, hkv2, by rw [htk, Mn.evs_app, Mn.bnd_ok he1]; simp only [Mn.evs, hr]; rfl⟩ ⟨rfl, rfl, rfl, rfl, rfl, rfl, rfl, trivial⟩ (fun _ h => by rw [List.map_append]; exact StP.sel h [3, 4, 1] (by decide) rfl)
 ·
  have h : i = X.Kids.length := by have := odF h; omega
  subst h
  rw [List.take_length] at he1
  rw [Mn.bnd_ok he1] at hev
  repeat refine gs1 ?_
  refine RW.own (args := #[pB x]) (C2 := [.row (.slice kA X.Kids.length kc) 3 1 X.Kids.length (vals.map (Value.int .i64)), .blk b4 69 (exC X (.slice vA X.Kids.length vc))]) [2, 0, 1] (by decide) rfl rfl oK rfl rfl (fun w1 hw1 => step_c w1 (by omega) hw1) (fun er CE w2 he hk hw => ?_) ?_
  ·
   by_cases h : 10000 ≤ u1
   ·
    rw [if_pos h] at he hev
    cases he
    exact evR.pn hev hk hw
   ·
    rw [if_neg h] at he; cases he
  intro u2 _ hr
  by_cases hu1 : 10000 ≤ u1
  ·
   rw [if_pos hu1] at hr; cases hr
  rw [if_neg hu1] at hr hev
  cases hr
  refine RW.wk (J' := St ⟨w, Φ, fps [rB x y u c]⟩ Φ [.row (.slice kA X.Kids.length kc) 3 1 X.Kids.length (vals.map (Value.int .i64)), rB x y (u1 + 1) c, .blk b4 69 (exC X (.slice vA X.Kids.length vc))]) (fun _ h => StP.sel h [1, 0, 2] (by decide) rfl) (RW.frzX (fun b hb => ⟨_, List.mem_cons_self .., hb⟩) fun Φ1 hl1 hs1 => ?_)
  have hvr : RepSl Φ1 vals (.slice kA X.Kids.length kc) := RowS.ints (T := 3) hs1 (by simp only [maxSl]; omega) r2
  have hC1 := hC.mono hl1
  obtain ⟨Ab, cb, hpb, hrb⟩ := funV hC1.rf hml
  repeat refine gs1 ?_
  refine AW.cond rfl (fun h => ?_) fun h => ?_
  ·
   have h : 100 ≤ c := odT h
   rw [if_pos h] at hev
   repeat refine gs1 ?_
   refine RW.q (v := .agg #[iV 8]) rfl (q_build (vals := [(0, iV 8)]) zero83 uT83 places83 rfl rfl) ?_
   repeat refine gs1 ?_
   exact RW.pan rfl (fun w' hw => evR.pn (er := (8, u1 + 1)) (CE := [rB x y (u1 + 1) c]) hev ⟨c, rfl⟩ (StP.less hw hl1))
  have h : ¬ 100 ≤ c := odF h
  rw [if_neg h] at hev
  have hmf : fs.getD m default ∈ fs := by
   rw [gDD, List.getElem?_eq_getElem hml]
   exact List.getElem_mem _
  repeat refine gs1 ?_
  have hpre : ∀ (u c : Int) (j : Nat) (v : Value), [y.rf][j]? = some v → (y.cs u c)[j]? = some v := fun u c j v hj => by
   cases j with
   | zero => exact hj
   | succ j => cases hj
  have hJ0 : ∀ w1, (St ⟨w, Φ, fps [rB x y u c]⟩ Φ1 [rB x y (u1 + 1) (c + 1), .blk b4 69 (exC X (.slice vA X.Kids.length vc))]).p w1 → (St ⟨w, Φ, fps [rB x y u c]⟩ Φ1 [.pre x 79 [y.rf], .blk b4 69 (exC X (.slice vA X.Kids.length vc))]).p w1 := fun w1 h => StP.toPre h (hpre _ _)
  refine AW.drawZ (J0 := St ⟨w, Φ, fps [rB x y u c]⟩ Φ1 [.pre x 79 [y.rf], .blk b4 69 (exC X (.slice vA X.Kids.length vc))]) [.q, .q, .q, .q, .q, .q, .q, .q, .q, .q, .q, .q, .e, .q] [0, 1, 2, 3, 4, 5, 6, 7, 8, 9, 10, 11, 12, 13] hmix (by kernel_rfl) ?_
  repeat refine gs1 ?_
  refine DW.q (v := .pointer (some (Value.at y.rf (m * 8)))) hJ0 rfl (qa_ixN (n := fs.length) (i := m) rfl (by show Value.int .i64 X.N = _; rw [hm]) hfs hml) ?_
  repeat refine gs1 ?_
  refine DW.own (args := #[pB x, .agg (exC (fs.getD m default).Body (.slice Ab (fs.getD m default).Body.Kids.length cb)).toArray, .slice kA X.Kids.length kc]) (C2 := [.blk b4 69 (exC X (.slice vA X.Kids.length vc))]) [0, 1] (by decide) rfl rfl oK rfl rfl (fun w1 hw1 => ih Φ1 _ _ _ 40 (fs.getD m default).Params vals _ (u1 + 1) (c + 1) hC1 hrb (hC.J _ hmf) (by omega) hvr (by omega) (by omega) (by omega) (by omega) hw1) (fun er CE w2 he hk hw => evR.pn (hev.trans he) hk (StP.less hw hl1)) (fun _ _ _ h => StP.toPre h (hpre _ _)) ?_
  rintro ⟨va, u2⟩ _ hr
  simp only
  refine DW.q (v := iV va) (fun _ h => StP.toPre h (hpre _ _)) rfl (qa_as rfl) ?_
  repeat refine gs1 ?_
  exact fin_res (vs := [iV va]) rfl rfl ⟨.tmp rfl, trivial⟩ rfl (fun w1 hw1 => evR.less (hev.trans hr) hl1 (by have h := hw1; simp only [Int.add_sub_cancel] at h; exact h))
theorem eval_c : ∀ g, EvOK e fs f x y g
 | 0 => fun Φ X v w j ts ps pv u c hC hv hj hlen hpv hu hc0 hc1 hg h0 => by omega
 | g + 1 => eval_of (eval_c g) (mcall_of (eval_c g))
end
end Go.Proofs.YtnfmjfheciihjaaGreatDoor
namespace Bt
structure Order where
  Cmds : List (Int × Int)
  Used : Int
  Fault : Int
end Bt
namespace Mn
open Bt Ru
abbrev big : Nat := 5000
def cls (fs : List RFunc) (f : Facts) (d : Dt) (ps : List Int) : List RClause → List Bool → List Int → Int → R (List Bool × List Int)
  | [], s, t, u => .ok ((s, t), u)
  | c :: cs, s, t, u =>
    if 10000 ≤ u then .error (14, u)
    else if s.getD c.Link.toNat false = true then cls fs f d ps cs s t (u + 1)
    else bnd (ev fs f d big 0 c.If [] (u + 1)) fun v u =>
      if v = 0 then cls fs f d ps cs s t u
      else bnd (ev fs f d big 0 c.To [] u) fun v u => cls fs f d ps cs (s.set c.Link.toNat true) (t.set c.Link.toNat (clampI v 0 (ps.getD c.Link.toNat 0))) u
def cmds (s : List Bool) (t : List Int) : List (Int × Int) := (List.range s.length).flatMap fun l => if s.getD l false = true then [((l : Int), t.getD l 0)] else []
def runR (ps : List Int) (r : Rule) (f : Facts) : Order := match cls r.Funcs f (dateOf f.Hour).1 ps r.Clauses (List.replicate ps.length false) (List.replicate ps.length 0) 0 with
  | .error e => ⟨[], e.2, e.1⟩
  | .ok ((s, t), u) => ⟨cmds s t, u, 0⟩
def run (e : Env) (ps : List Int) (r : Rule) (f : Facts) : Order := if rightR e r = true then runR ps r f else ⟨[], 0, 1⟩
theorem clampI_i {n lo hi : Int} (h1 : Go.K.I64 n) (h2 : Go.K.I64 lo) (h3 : Go.K.I64 hi) : Go.K.I64 (clampI n lo hi) := by
  unfold clampI; split
  · exact h2
  · split
    · exact h3
    · exact h1
end Mn
