/- Lemmas. Conditions: those of each theorem. -/
import Derived.Test.YtnfmjfheciihjaaGreatDoorTRfM
set_option maxRecDepth 8000
set_option maxHeartbeats 16000000
namespace Mn
open Bt Ru
def good {α : Type} : R α → Prop
  | .ok (_, u) => u ≤ 10000
  | .error (_, u) => u ≤ 10000
theorem good_bnd {α β : Type} {r : R α} {k : α → Int → R β} (h : good r) (hk : ∀ a u, u ≤ 10000 → good (k a u)) : good (bnd r k) := by
  cases r with
  | error e => exact h
  | ok p => exact hk p.1 p.2 h
theorem evs_good {f : Expr → Int → R Int} : ∀ {xs : List Expr} {u : Int}, (∀ x ∈ xs, ∀ u, u ≤ 10000 → good (f x u)) → u ≤ 10000 → good (evs f xs u)
  | [], u, _, h => h
  | x :: xs, u, hf, h => by
    unfold evs
    exact good_bnd (hf x (List.mem_cons_self ..) u h) fun v u h => good_bnd (evs_good (fun y hy => hf y (List.mem_cons_of_mem _ hy)) h) fun vs u h => h
variable {fs : List RFunc} {f : Facts} {d : Dt}
theorem ev_good : ∀ (g : Nat) (c : Int) (x : Expr) (ps : List Int) (u : Int), u ≤ 10000 → good (ev fs f d g c x ps u) := by
  intro g
  induction g with
  | zero => intro c x ps u _; rw [ev]; show (0 : Int) ≤ 10000; omega
  | succ g ih =>
    intro c x ps u hu
    rw [ev]
    by_cases k0 : x.Kind = 0
    · rw [if_pos k0]; exact hu
    rw [if_neg k0]
    by_cases k15 : x.Kind = 15
    · rw [if_pos k15]; exact hu
    rw [if_neg k15]
    by_cases k1 : x.Kind = 1
    · rw [if_pos k1]; exact hu
    rw [if_neg k1]
    by_cases k2 : x.Kind = 2
    · rw [if_pos k2]; exact good_bnd (ih _ _ _ _ hu) fun _ _ h => h
    rw [if_neg k2]
    by_cases k3 : x.Kind = 3
    · rw [if_pos k3]; exact good_bnd (ih _ _ _ _ hu) fun _ _ h => h
    rw [if_neg k3]
    by_cases k11 : x.Kind = 11
    · rw [if_pos k11]; exact good_bnd (ih _ _ _ _ hu) fun v u h => by split; exact h; exact ih _ _ _ _ h
    rw [if_neg k11]
    by_cases k12 : x.Kind = 12
    · rw [if_pos k12]; exact good_bnd (ih _ _ _ _ hu) fun v u h => by split; exact h; exact ih _ _ _ _ h
    rw [if_neg k12]
    by_cases k13 : x.Kind = 13
    · rw [if_pos k13]; exact good_bnd (ih _ _ _ _ hu) fun v u h => by split <;> exact ih _ _ _ _ h
    rw [if_neg k13]
    by_cases k14 : x.Kind = 14
    · rw [if_pos k14]
      exact good_bnd (evs_good (fun y _ u h => ih _ _ _ _ h) hu) fun vs u h => by
        split
        · exact h
        split
        · show u + 1 ≤ 10000; omega
        · exact ih _ _ _ _ (by omega)
    rw [if_neg k14]
    exact good_bnd (ih _ _ _ _ hu) fun a u h => good_bnd (ih _ _ _ _ h) fun b u h => by split <;> exact h
def toV : R Int → Int × Int × Int
  | .ok (v, u) => (v, u, 0)
  | .error (k, u) => (0, u, k)
theorem evs_one {F : Expr → Int → R Int} {a : Expr} {u : Int} : evs F [a] u = bnd (F a u) fun v u => .ok ([v], u) := by
  unfold evs; cases F a u <;> rfl
theorem evs_two {F : Expr → Int → R Int} {a b : Expr} {u : Int} : evs F [a, b] u = bnd (F a u) fun v u => bnd (F b u) fun z u => .ok ([v, z], u) := by
  unfold evs; cases F a u with
  | error e => rfl
  | ok p =>
    simp only [bnd]
    rw [evs_one]
    cases F b p.2 <;> rfl
def fin (fs : List RFunc) (f : Facts) (d : Dt) (g : Nat) (c : Int) (x : Expr) (ps l : List Int) (u : Int) : R Int :=
  if x.Kind = 0 then .ok (x.N, u)
  else if x.Kind = 15 then .ok (ps.getD x.N.toNat 0, u)
  else if x.Kind = 1 then .ok (factV f d x.N x.Of x.Of2, u)
  else if x.Kind = 2 then .ok (lim (0 - l.getD 0 0), u)
  else if x.Kind = 3 then .ok (wr (1 - l.getD 0 0), u)
  else if x.Kind = 14 then (if 10000 ≤ u then .error (14, u) else if 100 ≤ c then .error (8, u + 1) else ev fs f d g (c + 1) (fs.getD x.N.toNat default).Body l (u + 1))
  else match op2 x.Kind (l.getD 0 0) (l.getD 1 0) with
    | .error k => .error (k, u)
    | .ok v => .ok (v, u)
theorem ev_fin {e : Env} {ts : List Int} {j : Nat} {g : Nat} {c : Int} {x : Expr} {ps : List Int} {u : Int} (hj : (jx e fs ts (j + 1) x).2 = true) (h11 : x.Kind ≠ 11) (h12 : x.Kind ≠ 12) (h13 : x.Kind ≠ 13) :
    ev fs f d (g + 1) c x ps u = bnd (evs (fun y u => ev fs f d g c y ps u) x.Kids u) fun l u => fin fs f d g c x ps l u := by
  have hn := jx_node hj
  rw [ev]
  unfold fin
  by_cases k0 : x.Kind = 0
  · have hk : x.Kids = [] := by
      obtain ⟨ks, h1, h2, h3⟩ := jx_ok hj
      obtain ⟨h4, _⟩ := jxs_mem h1
      unfold jnd at h3
      rw [if_pos k0] at h3
      simp only [Bool.and_eq_true, decide_eq_true_eq] at h3
      rw [h3.1.1] at h4
      exact List.map_eq_nil_iff.1 h4.symm
    rw [hk]
    simp only [if_pos k0]; rfl
  by_cases k15 : x.Kind = 15
  · have hk : x.Kids = [] := by
      obtain ⟨ks, h1, h2, h3⟩ := jx_ok hj
      obtain ⟨h4, _⟩ := jxs_mem h1
      unfold jnd at h3
      rw [if_neg k0, if_neg (by omega), if_pos k15] at h3
      split at h3
      · cases h3
      · rename_i hh
        have : ks = [] := Classical.byContradiction fun hc => hh (.inl hc)
        rw [this] at h4
        exact List.map_eq_nil_iff.1 h4.symm
    rw [hk]
    simp only [if_neg k0, if_pos k15]; rfl
  by_cases k1 : x.Kind = 1
  · have hk : x.Kids = [] := by
      obtain ⟨ks, h1, h2, h3⟩ := jx_ok hj
      obtain ⟨h4, _⟩ := jxs_mem h1
      unfold jnd at h3
      rw [if_neg k0, if_pos k1] at h3
      simp only [Bool.and_eq_true, decide_eq_true_eq] at h3
      rw [h3.1] at h4
      exact List.map_eq_nil_iff.1 h4.symm
    rw [hk]
    simp only [if_neg k0, if_neg k15, if_pos k1]; rfl
  have one : ∀ (hl : x.Kids.length = 1), x.Kids = [kid x 0] := fun hl => by
    obtain ⟨a, ha⟩ := List.length_eq_one_iff.1 hl
    unfold kid; rw [ha]; rfl
  simp only [if_neg k0, if_neg k15, if_neg k1, if_neg h11, if_neg h12, if_neg h13]
  by_cases k2 : x.Kind = 2
  · rw [one (hn.a1 (.inl k2)), evs_one]
    simp only [if_pos k2]
    cases ev fs f d g c (kid x 0) ps u <;> rfl
  by_cases k3 : x.Kind = 3
  · rw [one (hn.a1 (.inr k3)), evs_one]
    simp only [if_neg k2, if_pos k3]
    cases ev fs f d g c (kid x 0) ps u <;> rfl
  simp only [if_neg k2, if_neg k3]
  by_cases k14 : x.Kind = 14
  · simp only [if_pos k14]
  simp only [if_neg k14]
  have hl2 := (hn.a2 k0 k1 k2 k3 h13 k14 k15).1
  have two : x.Kids = [kid x 0, kid x 1] := by
    match hx : x.Kids, hl2 with
    | [a, b], _ => unfold kid; rw [hx]; rfl
  rw [two, evs_two]
  cases ev fs f d g c (kid x 0) ps u with
  | error q => rfl
  | ok p =>
    simp only [bnd]
    cases ev fs f d g c (kid x 1) ps p.2 <;> rfl
end Mn
namespace Mn
open Bt Ru
open Go.K (I64)
theorem op2_err {k x y e : Int} (h : op2 k x y = .error e) : e ≠ 0 := by
  unfold op2 at h
  repeat' split at h
  all_goals first | (cases h; omega) | cases h
theorem bnd_errE {α β : Type} {x : R α} {k : α → Int → R β} {r : Int × Int} (h : bnd x k = .error r) : x = .error r ∨ ∃ a u, x = .ok (a, u) ∧ k a u = .error r := by
  cases x with
  | error e => exact .inl (by simpa [bnd] using h)
  | ok p => exact .inr ⟨p.1, p.2, rfl, h⟩
theorem evs_err {f : Expr → Int → R Int} : ∀ {xs : List Expr} {u : Int} {r : Int × Int}, (∀ x ∈ xs, ∀ u r, f x u = .error r → r.1 ≠ 0) → evs f xs u = .error r → r.1 ≠ 0
  | [], u, r, _, h => by cases h
  | x :: xs, u, r, hf, h => by
    unfold evs at h
    rcases bnd_errE h with h | ⟨v, u1, h1, h⟩
    · exact hf x (List.mem_cons_self ..) _ _ h
    rcases bnd_errE h with h | ⟨vs, u2, h2, h⟩
    · exact evs_err (fun y hy => hf y (List.mem_cons_of_mem _ hy)) h
    · cases h
variable {e : Env} {fs : List RFunc} {f : Facts} {d : Dt}
theorem ev_err (hJ : ∀ q ∈ fs, (jx e fs q.Params 40 q.Body).2 = true) : ∀ (g : Nat) (c : Int) (x : Expr) (ts ps : List Int) (j : Nat) (u : Int) (r : Int × Int), (jx e fs ts j x).2 = true → 0 ≤ c → c ≤ 100 → j + 41 * (100 - c).toNat + 1 ≤ g → ev fs f d g c x ps u = .error r → r.1 ≠ 0 := by
  intro g
  induction g with
  | zero => intro c x ts ps j u r _ _ _ hg; omega
  | succ g ih =>
    intro c x ts ps j u r hj hc0 hc1 hg h
    cases j with
    | zero => exact absurd hj (by rw [jx_zero]; simp)
    | succ j =>
    have hn := jx_node hj
    have hk := jx_kid hj
    have hI : ∀ {y : Expr} {u : Int} {r : Int × Int}, y ∈ x.Kids → ev fs f d g c y ps u = .error r → r.1 ≠ 0 := fun hy h => ih _ _ _ _ _ _ _ (hk _ hy) hc0 hc1 (by omega) h
    rw [ev] at h
    by_cases k0 : x.Kind = 0
    · rw [if_pos k0] at h; cases h
    rw [if_neg k0] at h
    by_cases k15 : x.Kind = 15
    · rw [if_pos k15] at h; cases h
    rw [if_neg k15] at h
    by_cases k1 : x.Kind = 1
    · rw [if_pos k1] at h; cases h
    rw [if_neg k1] at h
    by_cases k2 : x.Kind = 2
    · rw [if_pos k2] at h
      rcases bnd_errE h with h | ⟨a, u1, h1, h⟩
      · exact hI (kid_mem (by have := hn.a1 (.inl k2); omega)) h
      · cases h
    rw [if_neg k2] at h
    by_cases k3 : x.Kind = 3
    · rw [if_pos k3] at h
      rcases bnd_errE h with h | ⟨a, u1, h1, h⟩
      · exact hI (kid_mem (by have := hn.a1 (.inr k3); omega)) h
      · cases h
    rw [if_neg k3] at h
    by_cases k11 : x.Kind = 11
    · rw [if_pos k11] at h
      have hl2 := hn.a2 (by omega) (by omega) (by omega) (by omega) (by omega) (by omega) (by omega)
      rcases bnd_errE h with h | ⟨a, u1, h1, h⟩
      · exact hI (kid_mem (by omega)) h
      · split at h
        · cases h
        · exact hI (kid_mem (by omega)) h
    rw [if_neg k11] at h
    by_cases k12 : x.Kind = 12
    · rw [if_pos k12] at h
      have hl2 := hn.a2 (by omega) (by omega) (by omega) (by omega) (by omega) (by omega) (by omega)
      rcases bnd_errE h with h | ⟨a, u1, h1, h⟩
      · exact hI (kid_mem (by omega)) h
      · split at h
        · cases h
        · exact hI (kid_mem (by omega)) h
    rw [if_neg k12] at h
    by_cases k13 : x.Kind = 13
    · rw [if_pos k13] at h
      have hl3 := hn.a3 k13
      rcases bnd_errE h with h | ⟨a, u1, h1, h⟩
      · exact hI (kid_mem (by omega)) h
      · split at h
        · exact hI (kid_mem (by omega)) h
        · exact hI (kid_mem (by omega)) h
    rw [if_neg k13] at h
    by_cases k14 : x.Kind = 14
    · rw [if_pos k14] at h
      obtain ⟨h14a, h14b, h14c⟩ := hn.k14 k14
      rcases bnd_errE h with h | ⟨vs, u1, h1, h⟩
      · exact evs_err (fun y hy u r h => hI hy h) h
      split at h
      · cases h; simp
      split at h
      · cases h; simp
      have hm : fs.getD x.N.toNat default ∈ fs := by
        rw [gDD, List.getElem?_eq_getElem (by omega)]
        exact List.getElem_mem _
      exact ih _ _ _ _ _ _ _ (hJ _ hm) (by omega) (by omega) (by omega) h
    rw [if_neg k14] at h
    · have hl2 := hn.a2 (by omega) (by omega) (by omega) (by omega) (by omega) (by omega) (by omega)
      rcases bnd_errE h with h | ⟨a, u1, h1, h⟩
      · exact hI (kid_mem (by omega)) h
      rcases bnd_errE h with h | ⟨b, u2, h2, h⟩
      · exact hI (kid_mem (by omega)) h
      split at h
      · rename_i ho
        cases h
        exact op2_err ho
      · cases h
end Mn
namespace Mn
open Bt Ru
variable {e : Env} {fs : List RFunc} {ts : List Int} {j : Nat} {x : Expr}
theorem jx_want (hj : (jx e fs ts (j + 1) x).2 = true) {i : Nat} (hi : i < x.Kids.length) : (jx e fs ts j (kid x i)).1 = wantV fs x (x.Kids.map fun y => (jx e fs ts j y).1) i := by
  obtain ⟨ks, h1, h2, h3⟩ := jx_ok hj
  obtain ⟨h4, _⟩ := jxs_mem h1
  have hc : ¬ (x.Kind ≠ 1 ∧ (x.Of ≠ 0 ∨ x.Of2 ≠ 0)) := fun hc => by rw [jx, if_pos hc] at hj; cases hj
  have hN := (jnd_len hc h3).trans (by rw [h4, List.length_map] : (ks.length : Int) = (x.Kids.length : Int))
  have := (jx_iff hN (jx_kid hj)).1 hj i hi
  rw [getD_gd hi] at this
  exact this
end Mn
namespace Go.Proofs.YtnfmjfheciihjaaGreatDoor
open Go Go.K Go.RowKit
open Ru (pB NmS BasV)
open Mn (toV B01)
attribute [local irreducible] AW RW DW Post Qt
abbrev fvR (w : World) (Φ : Hp) (x : Nat) (y : XV) (u c k : Int) (r : Int × Int × Int) : Ending → World → Prop := OwnK w Φ [xB x y u c k] (.ok r : Except Unit (Int × Int × Int)) (fun r (_ : Unit) => .int .i64 r.1) (fun r _ => [xB x y r.2.1 c r.2.2]) (fun _ => []) fun _ _ => False
structure EF (Φ : Hp) (y : XV) (e : Ru.Env) (fs : List Bt.RFunc) (f : Bt.Facts) : Prop where
  F : RepSl Φ fs y.fv
  C : ∃ n, IsSl y.cv n
  Y : y.fc.ok Φ f
  H : y.hr = f.Hour
  I : I64 f.Hour
  J : ∀ q ∈ fs, (Ru.jx e fs q.Params 40 q.Body).2 = true ∧ (Ru.jx e fs q.Params 40 q.Body).1 = q.Result
theorem EF.J1 {Φ : Hp} {y : XV} {e : Ru.Env} {fs : List Bt.RFunc} {f : Bt.Facts} (h : EF Φ y e fs f) : ∀ q ∈ fs, (Ru.jx e fs q.Params 40 q.Body).2 = true := fun q hq => (h.J q hq).1
abbrev dOf (f : Bt.Facts) : Mn.Dt := (Mn.dateOf f.Hour).1
theorem EF.R {Φ : Hp} {y : XV} {e : Ru.Env} {fs : List Bt.RFunc} {f : Bt.Facts} (h : EF Φ y e fs f) : ∀ n o q, I64 (Mn.factV f (dOf f) n o q) := by
  have hd := date_i f.Hour
  exact fact_i h.Y _ hd.1 hd.2.1 hd.2.2
structure PT (Φ : Hp) (ts ps : List Int) (pv : Value) : Prop where
  L : ps.length = ts.length
  P : RepSl Φ ps pv
  T : ∀ i, i < ts.length → ts.getD i 0 = 1 → B01 (ps.getD i 0)
theorem PT.I {Φ : Hp} {ts ps : List Int} {pv : Value} (h : PT Φ ts ps pv) : ∀ p ∈ ps, I64 p := fun p hp => by
  obtain ⟨i, hi, rfl⟩ := List.mem_iff_getElem.1 hp
  exact (h.P.int hi).2
def VOK (e : Ru.Env) (fs : List Bt.RFunc) (f : Bt.Facts) (x : Nat) (y : XV) (g : Nat) : Prop := ∀ (Φ : Hp) (X : Bt.Expr) (v : Value) (w : World) (j : Nat) (ts ps : List Int) (pv : Value) (u c : Int), EF Φ y e fs f → RepSl Φ X.Kids v → (Ru.jx e fs ts j X).2 = true → PT Φ ts ps pv → (0 ≤ u ∧ u ≤ 10000) → (0 ≤ c ∧ c ≤ 100) → j + 41 * (100 - c).toNat + 1 ≤ g → StP ⟨w, Φ, fps [xB x y u c 0]⟩ Φ [xB x y u c 0] w → Calls pg 26 #[pB x, .agg (exC X v).toArray, pv] w (fvR w Φ x y u c 0 (toV (Mn.ev fs f (dOf f) g c X ps u)))
theorem fvalK_c (w : World) {Φ : Hp} {x : Nat} {y : XV} {u c k : Int} (hk : k ≠ 0) {X : Bt.Expr} {v pv : Value} {kn : Nat} (hv : IsSl v kn) (h0 : StP ⟨w, Φ, fps [xB x y u c k]⟩ Φ [xB x y u c k] w) : Calls pg 26 #[pB x, .agg (exC X v).toArray, pv] w (fvR w Φ x y u c k (0, u, k)) := by
  obtain ⟨vA, vc, rfl, _⟩ := hv
  refine calls_of_AW (args := [pB x, .agg (exC X (.slice vA kn vc)).toArray, pv]) Tryz.func26 rfl (lBT rfl) (St ⟨w, Φ, fps [xB x y u c k]⟩ Φ [xB x y u c k]) h0 ?_
  show AW _ _ [] _ _ _ [(0, pB x), (1, .agg (exC X (.slice vA kn vc)).toArray), (2, pv)] _
  repeat refine gs1 ?_
  refine RW.bxA (cs := exC X (.slice vA kn vc)) rfl rfl fun b4 => ?_
  repeat refine gs1 ?_
  refine AW.cond rfl (fun h => ?_) fun h => ?_
  · repeat refine gs1 ?_
    exact fin_res (vs := [.int .i64 0]) rfl rfl ⟨.tmp rfl, trivial⟩ rfl (fun w' hw => .inl ⟨(0, u, k), (), rfl, rfl, StP.sel hw [1] (by decide) rfl⟩)
  · exact absurd (by simpa using h) hk
theorem choose_of {e : Ru.Env} {fs : List Bt.RFunc} {f : Bt.Facts} {x : Nat} {y : XV} {g : Nat} (ih : VOK e fs f x y g) (Φ : Hp) (X : Bt.Expr) (v : Value) (w : World) (j : Nat) (ts ps : List Int) (pv : Value) (u c : Int) (hE : EF Φ y e fs f) (hv : RepSl Φ X.Kids v) (hj : (Ru.jx e fs ts (j + 1) X).2 = true) (hp : PT Φ ts ps pv) (hu : 0 ≤ u ∧ u ≤ 10000) (hc : 0 ≤ c ∧ c ≤ 100) (hg : (j + 1) + 41 * (100 - c).toNat + 1 ≤ g + 1) (hK : X.Kind = 11 ∨ X.Kind = 12 ∨ X.Kind = 13) (h0 : StP ⟨w, Φ, fps [xB x y u c 0]⟩ Φ [xB x y u c 0] w) :
    Calls pg 57 #[pB x, .agg (exC X v).toArray, pv] w (fvR w Φ x y u c 0 (toV (Mn.ev fs f (dOf f) (g + 1) c X ps u))) := by
  have hn := Ru.jx_node hj
  have hkid := Ru.jx_kid hj
  have hvs := hv.sl
  obtain ⟨vA, vc, rfl, _⟩ := hv.sl
  obtain ⟨pA, pc, rfl, _⟩ := hp.P.sl
  have hl : 2 ≤ X.Kids.length := by
    rcases hK with h | h | h
    · have := hn.a2 (by omega) (by omega) (by omega) (by omega) (by omega) (by omega) (by omega); omega
    · have := hn.a2 (by omega) (by omega) (by omega) (by omega) (by omega) (by omega) (by omega); omega
    · have := hn.a3 h; omega
  have hl0 : 0 < X.Kids.length := by omega
  have hl1 : 1 < X.Kids.length := by omega
  have ht0 : (Ru.jx e fs ts j (Mn.kid X 0)).1 = 1 := by
    rw [Mn.jx_want hj hl0]
    unfold Ru.wantV
    rcases hK with h | h | h
    · rw [if_pos (by omega)]
    · rw [if_pos (by omega)]
    · rw [if_neg (by omega), if_neg (by omega), if_neg (by omega), if_pos h, if_pos rfl]
  refine calls_of_AW (args := [pB x, .agg (exC X (.slice vA X.Kids.length vc)).toArray, .slice pA ps.length pc]) Tryz.func57 rfl (lBT rfl) (St ⟨w, Φ, fps [xB x y u c 0]⟩ Φ [xB x y u c 0]) h0 ?_
  show AW _ _ [] _ _ _ [(0, pB x), (1, .agg (exC X (.slice vA X.Kids.length vc)).toArray), (2, .slice pA ps.length pc)] _
  obtain ⟨A0, c0, hp0, hr0⟩ := kidV hv (i := 0) hl0
  have hI : ∀ (i : Nat) (hi : i < X.Kids.length) {u : Int} (hu : 0 ≤ u ∧ u ≤ 10000) {A : Option Addr} {cc : Nat} (hr : RepSl Φ (X.Kids.getD i default).Kids (.slice A (X.Kids.getD i default).Kids.length cc)) (w1 : World), StP ⟨w1, Φ, fps [xB x y u c 0]⟩ Φ [xB x y u c 0] w1 → Calls pg 26 #[pB x, .agg (exC (X.Kids.getD i default) (.slice A (X.Kids.getD i default).Kids.length cc)).toArray, .slice pA ps.length pc] w1 (fvR w1 Φ x y u c 0 (toV (Mn.ev fs f (dOf f) g c (Mn.kid X i) ps u))) := fun i hi u hu A cc hr w1 h1 => ih Φ (X.Kids.getD i default) _ w1 j ts ps _ u c hE hr (hkid _ (Ru.gd_mem hi)) hp hu hc (by omega) h1
  repeat refine gs1 ?_
  refine RW.bxA (cs := exC X (.slice vA X.Kids.length vc)) rfl rfl fun b4 => ?_
  repeat refine gs1 ?_
  refine RW.own (args := #[pB x, .agg (exC (X.Kids.getD 0 default) (.slice A0 (X.Kids.getD 0 default).Kids.length c0)).toArray, .slice pA ps.length pc]) (C2 := [.blk b4 69 (exC X (.slice vA X.Kids.length vc))]) [1, 0] (by decide) rfl rfl oK rfl rfl (fun w1 hw1 => hI 0 hl0 hu hr0 w1 hw1) (fun _ _ _ h => nomatch h) (fun z _ hz => ?_)
  obtain ⟨z1, z2, z3⟩ := z
  replace hz := Except.ok.inj hz
  have hE0 : ∀ r, Mn.ev fs f (dOf f) g c (Mn.kid X 0) ps u = r → Mn.ev fs f (dOf f) (g + 1) c X ps u = Mn.bnd r fun v u => if X.Kind = 11 then (if v = 0 then .ok (0, u) else Mn.ev fs f (dOf f) g c (Mn.kid X 1) ps u) else if X.Kind = 12 then (if v ≠ 0 then .ok (1, u) else Mn.ev fs f (dOf f) g c (Mn.kid X 1) ps u) else (if v ≠ 0 then Mn.ev fs f (dOf f) g c (Mn.kid X 1) ps u else Mn.ev fs f (dOf f) g c (Mn.kid X 2) ps u) := fun r hr => by
    rw [Mn.ev]
    rcases hK with h | h | h
    · simp only [if_neg (show ¬ X.Kind = 0 by omega), if_neg (show ¬ X.Kind = 15 by omega), if_neg (show ¬ X.Kind = 1 by omega), if_neg (show ¬ X.Kind = 2 by omega), if_neg (show ¬ X.Kind = 3 by omega), if_pos h, hr]
    · simp only [if_neg (show ¬ X.Kind = 0 by omega), if_neg (show ¬ X.Kind = 15 by omega), if_neg (show ¬ X.Kind = 1 by omega), if_neg (show ¬ X.Kind = 2 by omega), if_neg (show ¬ X.Kind = 3 by omega), if_neg (show ¬ X.Kind = 11 by omega), if_pos h, hr]
    · simp only [if_neg (show ¬ X.Kind = 0 by omega), if_neg (show ¬ X.Kind = 15 by omega), if_neg (show ¬ X.Kind = 1 by omega), if_neg (show ¬ X.Kind = 2 by omega), if_neg (show ¬ X.Kind = 3 by omega), if_neg (show ¬ X.Kind = 11 by omega), if_neg (show ¬ X.Kind = 12 by omega), if_pos h, hr]
  cases hr : Mn.ev fs f (dOf f) g c (Mn.kid X 0) ps u with
  | error q =>
    obtain ⟨k, u1⟩ := q
    have hk : k ≠ 0 := Mn.ev_err hE.J1 g c _ ts ps j u (k, u1) (hkid _ (Ru.gd_mem hl0)) hc.1 hc.2 (by omega) hr
    rw [hE0 _ hr]
    rw [hr] at hz
    simp only [toV, Prod.mk.injEq] at hz
    obtain ⟨rfl, rfl, rfl⟩ := hz
    simp only [List.cons_append, List.nil_append]
    repeat refine gs1 ?_
    refine AW.cond rfl (fun h => ?_) fun h => ?_
    · repeat refine gs1 ?_
      exact fin_res (vs := [.int .i64 0]) rfl rfl ⟨.tmp rfl, trivial⟩ rfl (fun w' hw => .inl ⟨(0, u1, k), (), rfl, rfl, StP.sel hw [0] (by decide) rfl⟩)
    · exact absurd (by simpa using h) hk
  | ok p =>
    obtain ⟨a, u1⟩ := p
    have ha := Mn.ev_typ hE.J g c _ ts ps j u a u1 (hkid _ (Ru.gd_mem hl0)) hp.T ht0 hr
    have hu1 : 0 ≤ u1 ∧ u1 ≤ 10000 := by
      have h1 := (Mn.ev_rng hE.J1 hE.R g (hkid _ (Ru.gd_mem hl0)) hp.L hp.I hr).2
      have h2 := Mn.ev_good (fs := fs) (f := f) (d := dOf f) g c (Mn.kid X 0) ps u hu.2
      rw [hr] at h2
      have h2 : u1 ≤ 10000 := h2
      omega
    rw [hE0 _ hr]
    rw [hr] at hz
    simp only [toV, Prod.mk.injEq] at hz
    obtain ⟨rfl, rfl, rfl⟩ := hz
    simp only [List.cons_append, List.nil_append, Mn.bnd]
    repeat refine gs1 ?_
    refine RW.q (v := .bool (decide (X.Kind = 13) && decide (a = 0))) rfl (qpA rfl rfl rfl) ?_
    repeat refine gs1 ?_
    refine AW.cond rfl (fun h => ?_) fun h => ?_
    · have h : X.Kind = 13 ∧ a = 0 := by simpa using h
      have hl2 : 2 < X.Kids.length := by have := hn.a3 h.1; omega
      rw [if_neg (by omega), if_neg (by omega), if_neg (by omega)]
      obtain ⟨A2, c2, hp2, hr2⟩ := kidV hv (i := 2) hl2
      repeat refine gs1 ?_
      refine RW.own (args := #[pB x, .agg (exC (X.Kids.getD 2 default) (.slice A2 (X.Kids.getD 2 default).Kids.length c2)).toArray, .slice pA ps.length pc]) (C2 := [.blk b4 69 (exC X (.slice vA X.Kids.length vc))]) [0, 1] (by decide) rfl rfl oK rfl rfl (fun w1 hw1 => hI 2 hl2 hu1 hr2 w1 hw1) (fun _ _ _ h => nomatch h) (fun z _ hz => ?_)
      repeat refine gs1 ?_
      exact fin_res (vs := [.int .i64 z.1]) rfl rfl ⟨.tmp rfl, trivial⟩ rfl (fun w' hw => .inl ⟨z, (), hz, rfl, StP.sel hw [0] (by decide) rfl⟩)
    have h13 : ¬ (X.Kind = 13 ∧ a = 0) := fun hh => by simp [hh.1, hh.2] at h
    repeat refine gs1 ?_
    refine RW.q (v := .bool (decide (X.Kind = 11) && decide (a = 0))) rfl (qpA rfl rfl rfl) ?_
    repeat refine gs1 ?_
    refine RW.g2 (b1 := (decide (X.Kind = 11) && decide (a = 0))) (b2 := decide (X.Kind = 12)) (v := .int .i64 a) rfl rfl rfl (fun hg1 hg2 => q_move rfl) ?_
    refine RW.g2 (b1 := (decide (X.Kind = 11) && decide (a = 0))) (b2 := decide (X.Kind = 12)) (v := .bool (decide (a = 1))) rfl rfl rfl (fun hg1 hg2 => q_eql ((gv_pos hg1).trans (gv_pos hg2)) rfl) ?_
    refine RW.g (b := (decide (X.Kind = 11) && decide (a = 0))) (v := .bool (decide (X.Kind = 12) && decide (a = 1))) rfl rfl rfl (fun h => q_pick (gv_pos h) (fun hp => (gv_pos h).trans ((gv_pos hp).trans (pkAndT hp))) (fun hp => pkAndF hp)) ?_
    refine RW.q (v := .bool ((decide (X.Kind = 11) && decide (a = 0)) || (decide (X.Kind = 12) && decide (a = 1)))) rfl (qpO rfl rfl rfl) ?_
    repeat refine gs1 ?_
    refine AW.cond rfl (fun h => ?_) fun h => ?_
    · have h : (X.Kind = 11 ∧ a = 0) ∨ (X.Kind = 12 ∧ a = 1) := by simpa using h
      have hv2 : (if X.Kind = 11 then (if a = 0 then (.ok (0, u1) : Mn.R Int) else Mn.ev fs f (dOf f) g c (Mn.kid X 1) ps u1) else if X.Kind = 12 then (if a ≠ 0 then .ok (1, u1) else Mn.ev fs f (dOf f) g c (Mn.kid X 1) ps u1) else (if a ≠ 0 then Mn.ev fs f (dOf f) g c (Mn.kid X 1) ps u1 else Mn.ev fs f (dOf f) g c (Mn.kid X 2) ps u1)) = .ok (a, u1) := by
        rcases h with h | h
        · rw [if_pos h.1, if_pos h.2, h.2]
        · rw [if_neg (by omega), if_pos h.1, if_pos (by omega), h.2]
      rw [hv2]
      repeat refine gs1 ?_
      exact fin_res (vs := [.int .i64 a]) rfl rfl ⟨.tmp rfl, trivial⟩ rfl (fun w' hw => .inl ⟨(a, u1, 0), (), rfl, rfl, StP.sel hw [0] (by decide) rfl⟩)
    have h : ¬ ((X.Kind = 11 ∧ a = 0) ∨ (X.Kind = 12 ∧ a = 1)) := fun hh => by rcases hh with hh | hh <;> simp [hh.1, hh.2] at h
    have hv2 : (if X.Kind = 11 then (if a = 0 then (.ok (0, u1) : Mn.R Int) else Mn.ev fs f (dOf f) g c (Mn.kid X 1) ps u1) else if X.Kind = 12 then (if a ≠ 0 then .ok (1, u1) else Mn.ev fs f (dOf f) g c (Mn.kid X 1) ps u1) else (if a ≠ 0 then Mn.ev fs f (dOf f) g c (Mn.kid X 1) ps u1 else Mn.ev fs f (dOf f) g c (Mn.kid X 2) ps u1)) = Mn.ev fs f (dOf f) g c (Mn.kid X 1) ps u1 := by
      rcases hK with hk | hk | hk
      · rw [if_pos hk, if_neg (by omega)]
      · rw [if_neg (by omega), if_pos hk, if_neg (by rcases ha with h2 | h2 <;> omega)]
      · rw [if_neg (by omega), if_neg (by omega), if_pos (by omega)]
    rw [hv2]
    obtain ⟨A1, c1, hp1, hr1⟩ := kidV hv (i := 1) hl1
    repeat refine gs1 ?_
    refine RW.own (args := #[pB x, .agg (exC (X.Kids.getD 1 default) (.slice A1 (X.Kids.getD 1 default).Kids.length c1)).toArray, .slice pA ps.length pc]) (C2 := [.blk b4 69 (exC X (.slice vA X.Kids.length vc))]) [0, 1] (by decide) rfl rfl oK rfl rfl (fun w1 hw1 => hI 1 hl1 hu1 hr1 w1 hw1) (fun _ _ _ h => nomatch h) (fun z _ hz => ?_)
    repeat refine gs1 ?_
    exact fin_res (vs := [.int .i64 z.1]) rfl rfl ⟨.tmp rfl, trivial⟩ rfl (fun w' hw => .inl ⟨z, (), hz, rfl, StP.sel hw [0] (by decide) rfl⟩)
end Go.Proofs.YtnfmjfheciihjaaGreatDoor
namespace Mn
open Bt Ru
theorem evs_take {F : Expr → Int → R Int} {xs : List Expr} {i : Nat} (h : i < xs.length) {u : Int} : evs F (xs.take (i + 1)) u = bnd (evs F (xs.take i) u) fun l u => bnd (F (xs.getD i default) u) fun v u => .ok (l ++ [v], u) := by
  have he : xs.take (i + 1) = xs.take i ++ [xs.getD i default] := by
    rw [List.take_add_one, List.getElem?_eq_getElem h, gDD, List.getElem?_eq_getElem h]; rfl
  rw [he, evs_app]
  congr 1
  funext l u
  rw [evs_one]
  cases F (xs.getD i default) u <;> rfl
theorem jfact_n {e : Env} {x : Expr} (h : jfact e x = true) : 0 ≤ x.N ∧ x.N ≤ 7 := by
  unfold jfact at h
  repeat' split at h
  all_goals first | omega | cases h
theorem jx_fact {e : Env} {fs : List RFunc} {ts : List Int} {j : Nat} {x : Expr} (h : (jx e fs ts (j + 1) x).2 = true) (k : x.Kind = 1) : 0 ≤ x.N ∧ x.N ≤ 7 := by
  obtain ⟨ks, h1, h2, h3⟩ := jx_ok h
  unfold jnd at h3
  rw [if_neg (by omega), if_pos k] at h3
  exact jfact_n (Bool.and_eq_true_iff.1 h3).2
end Mn
namespace Go.Proofs.YtnfmjfheciihjaaGreatDoor
open Go Go.K Go.RowKit
open Ru (pB NmS BasV)
open Mn (toV B01)
attribute [local irreducible] AW RW DW Post Qt
theorem EF.mono {Φ Ψ : Hp} {y : XV} {e : Ru.Env} {fs : List Bt.RFunc} {f : Bt.Facts} (h : EF Φ y e fs f) (hl : Hp.le Φ Ψ) : EF Ψ y e fs f := ⟨h.F.mono hl, h.C, h.Y.mono hl, h.H, h.I, h.J⟩
abbrev XV.pre (y : XV) : List Value := [.string (bs y.b.nm), y.b.ov, .int .i64 y.b.ce, y.b.pv, y.b.lv, y.b.tv, y.b.gv, y.b.rv, y.b.sv, y.b.mv, .int .i64 y.b.er, y.fv]
theorem value_of {e : Ru.Env} {fs : List Bt.RFunc} {f : Bt.Facts} {x : Nat} {y : XV} {g : Nat} (ih : VOK e fs f x y g) : VOK e fs f x y (g + 1) := fun Φ X v w j ts ps pv u c hE hv hj hp hu hc hg h0 => by
  cases j with
  | zero => rw [Ru.jx_zero] at hj; cases hj
  | succ j =>
  have hn := Ru.jx_node hj
  have hkid := Ru.jx_kid hj
  have hvs := hv.sl
  have hxb : X.Kids.length * 56 ≤ maxSl := hv.max
  simp only [maxSl] at hxb
  obtain ⟨vA, vc, rfl, _⟩ := hv.sl
  have hps := hp.P.sl
  obtain ⟨pA, pc, rfl, _⟩ := hp.P.sl
  refine calls_of_AW (args := [pB x, .agg (exC X (.slice vA X.Kids.length vc)).toArray, .slice pA ps.length pc]) Tryz.func26 rfl (lBT rfl) (St ⟨w, Φ, fps [xB x y u c 0]⟩ Φ [xB x y u c 0]) h0 ?_
  show AW _ _ [] _ _ _ [(0, pB x), (1, .agg (exC X (.slice vA X.Kids.length vc)).toArray), (2, .slice pA ps.length pc)] _
  repeat refine gs1 ?_
  refine RW.bxA (cs := exC X (.slice vA X.Kids.length vc)) rfl rfl fun b4 => ?_
  repeat refine gs1 ?_
  refine RW.q (v := .bool (decide (X.Kind = 11) || decide (X.Kind = 12))) rfl (qpO rfl rfl rfl) ?_
  repeat refine gs1 ?_
  refine RW.q (v := .bool (decide (X.Kind = 11) || decide (X.Kind = 12) || decide (X.Kind = 13))) rfl (qpO rfl rfl rfl) ?_
  repeat refine gs1 ?_
  refine AW.cond rfl (fun h => ?_) fun h => ?_
  · have hK : X.Kind = 11 ∨ X.Kind = 12 ∨ X.Kind = 13 := by simpa [or_assoc] using h
    repeat refine gs1 ?_
    refine RW.own (args := #[pB x, .agg (exC X (.slice vA X.Kids.length vc)).toArray, .slice pA ps.length pc]) (C2 := [.blk b4 69 (exC X (.slice vA X.Kids.length vc))]) [1, 0] (by decide) rfl rfl oK rfl rfl (fun w1 hw1 => choose_of ih Φ X _ w1 j ts ps _ u c hE hv hj hp hu hc hg hK hw1) (fun _ _ _ h => nomatch h) (fun z _ hz => ?_)
    repeat refine gs1 ?_
    exact fin_res (vs := [.int .i64 z.1]) rfl rfl ⟨.tmp rfl, trivial⟩ rfl (fun w' hw => .inl ⟨z, (), hz, rfl, StP.sel hw [0] (by decide) rfl⟩)
  have hK : X.Kind ≠ 11 ∧ X.Kind ≠ 12 ∧ X.Kind ≠ 13 := by simp only [Bool.or_eq_false_iff, decide_eq_false_iff_not] at h; exact ⟨h.1.1, h.1.2, h.2⟩
  rw [Mn.ev_fin hj hK.1 hK.2.1 hK.2.2]
  obtain ⟨F, hF⟩ : ∃ F, F = fun (y : Bt.Expr) (u : Int) => Mn.ev fs f (dOf f) g c y ps u := ⟨_, rfl⟩
  rw [← hF]
  have hFv : ∀ (y : Bt.Expr) (u : Int), F y u = Mn.ev fs f (dOf f) g c y ps u := fun _ _ => by rw [hF]
  repeat refine gs1 ?_
  refine AW.loop (fun s J q => ∃ (i : Nat) (rv : Value) (l : List Int) (u2 k2 : Int), s = [(0, pB x), (2, .slice pA ps.length pc), (4, pB b4), (7, rv), (8, .int .i64 (i : Int))] ∧ J = St ⟨w, Φ, fps [xB x y u c 0]⟩ Φ [.row rv 3 1 i (l.map (Value.int .i64)), xB x y u2 c k2, .blk b4 69 (exC X (.slice vA X.Kids.length vc))] ∧ q = X.Kids.length - i ∧ i ≤ X.Kids.length ∧ IsSl rv i ∧ l.length = i ∧ ((k2 = 0 ∧ Mn.evs F (X.Kids.take i) u = .ok (l, u2) ∧ (0 ≤ u2 ∧ u2 ≤ 10000) ∧ ∀ v ∈ l, I64 v) ∨ (k2 ≠ 0 ∧ Mn.evs F (X.Kids.take i) u = .error (k2, u2)))) (s0 := [(0, pB x), (2, .slice pA ps.length pc), (4, pB b4), (7, .slice none 0 0), (8, .int .i64 ((0 : Nat) : Int))]) (J1 := _) (m0 := _) ⟨0, .slice none 0 0, [], u, 0, rfl, rfl, rfl, Nat.zero_le _, ⟨none, 0, rfl, fun h => absurd h (Nat.lt_irrefl _), Nat.le_refl _⟩, rfl, .inl ⟨rfl, rfl, hu, fun v hv => by cases hv⟩⟩ ⟨rfl, rfl, rfl, rfl, rfl, trivial⟩ (fun _ h => StP.nilRow (StP.sel h [1, 0] (by decide) rfl) _ _) ?_
  rintro _ _ _ _ ⟨i, rv, l, u2, k2, rfl, rfl, rfl, hi, hrv, hll, hst⟩
  repeat refine gs1 ?_
  refine AW.cond rfl (fun h => ?_) fun h => ?_
  · have h : i < X.Kids.length := by have := odT h; omega
    obtain ⟨Aa, ca, hpa, hra⟩ := kidV hv h
    obtain ⟨r, hcall, hnext⟩ : ∃ r : Int × Int × Int, (∀ w1, StP ⟨w1, Φ, fps [xB x y u2 c k2]⟩ Φ [xB x y u2 c k2] w1 → Calls pg 26 #[pB x, .agg (exC (X.Kids.getD i default) (.slice Aa (X.Kids.getD i default).Kids.length ca)).toArray, .slice pA ps.length pc] w1 (fvR w1 Φ x y u2 c k2 r)) ∧ ((r.2.2 = 0 ∧ Mn.evs F (X.Kids.take (i + 1)) u = .ok (l ++ [r.1], r.2.1) ∧ (0 ≤ r.2.1 ∧ r.2.1 ≤ 10000) ∧ ∀ v ∈ l ++ [r.1], I64 v) ∨ (r.2.2 ≠ 0 ∧ Mn.evs F (X.Kids.take (i + 1)) u = .error (r.2.2, r.2.1))) := by
      rcases hst with ⟨rfl, hev, hu2, hIl⟩ | ⟨hk2, hev⟩
      · refine ⟨toV (F (X.Kids.getD i default) u2), fun w1 h1 => by rw [hFv]; exact ih Φ (X.Kids.getD i default) _ w1 j ts ps _ u2 c hE hra (hkid _ (Ru.gd_mem h)) hp hu2 hc (by omega) h1, ?_⟩
        rw [Mn.evs_take h, hev]
        have hg2 := Mn.ev_good (fs := fs) (f := f) (d := dOf f) g c (X.Kids.getD i default) ps u2 hu2.2
        cases hr : F (X.Kids.getD i default) u2 with
        | error q =>
          obtain ⟨k, u3⟩ := q
          right
          rw [hFv] at hr
          exact ⟨Mn.ev_err hE.J1 g c _ ts ps j u2 (k, u3) (hkid _ (Ru.gd_mem h)) hc.1 hc.2 (by omega) hr, by simp only [Mn.bnd]; rw [hFv, hr]; rfl⟩
        | ok p =>
          obtain ⟨a, u3⟩ := p
          left
          rw [hFv] at hr
          have h5 := Mn.ev_rng hE.J1 hE.R g (hkid _ (Ru.gd_mem h)) hp.L hp.I hr
          rw [hr] at hg2
          have hg2 : u3 ≤ 10000 := hg2
          refine ⟨rfl, by simp only [Mn.bnd]; rw [hFv, hr]; rfl, ⟨by show 0 ≤ u3; omega, hg2⟩, fun v hv => ?_⟩
          rcases List.mem_append.1 hv with h6 | h6
          · exact hIl v h6
          · rw [List.mem_singleton.1 h6]; exact h5.1
      · exact ⟨(0, u2, k2), fun w1 h1 => fvalK_c w1 hk2 hra.sl h1, .inr ⟨hk2, by rw [Mn.evs_take h, hev]; rfl⟩⟩
    repeat refine gs1 ?_
    refine RW.own (args := #[pB x, .agg (exC (X.Kids.getD i default) (.slice Aa (X.Kids.getD i default).Kids.length ca)).toArray, .slice pA ps.length pc]) (C2 := [.row rv 3 1 i (l.map (Value.int .i64)), .blk b4 69 (exC X (.slice vA X.Kids.length vc))]) [1, 0, 2] (by decide) rfl rfl oK rfl rfl hcall (fun _ _ _ h => nomatch h) (fun z _ hz => ?_)
    obtain rfl := Except.ok.inj hz
    clear hz
    obtain ⟨z1, z2, z3⟩ := r
    simp only [List.cons_append, List.nil_append] at hnext ⊢
    repeat refine gs1 ?_
    refine RW.eff _ _ rfl (e_buildSlice (vals := [(0, .int .i64 z1)]) (cells := [.int .i64 z1]) Tryz.underlying29 inf3 rfl rfl rfl (by kernel_rfl) rfl) fun b8 => ?_
    refine RW.eff (fun xv : {vq : Value // IsSl vq (i + 1)} => xv.1) (fun xv => St ⟨w, Φ, fps [xB x y u c 0]⟩ Φ [.row (.slice (some ⟨b8, 0, none⟩) 1 1) 3 1 1 [.int .i64 z1], xB x y z2 c z3, .row xv.1 3 1 (i + 1) (l.map (Value.int .i64) ++ [.int .i64 z1]), .blk b4 69 (exC X (.slice vA X.Kids.length vc))]) rfl (e_append 2 rfl rfl rfl Tryz.underlying29 inf3 rfl rfl rfl (Cells.row0 0 rfl) rfl (by omega) (by omega) (fun _ => rfl)) ?_
    rintro ⟨v2, hv2⟩
    repeat refine gs1 ?_
    exact Post.back (s' := _) (J' := _) (m' := _) (by omega) ⟨i + 1, v2, l ++ [z1], z2, z3, rfl, rfl, rfl, by omega, hv2, by simp [hll], hnext⟩ ⟨rfl, rfl, rfl, rfl, rfl, trivial⟩ (fun _ h => by rw [List.map_append]; exact StP.sel h [2, 1, 3] (by decide) rfl)
  have h : i = X.Kids.length := by have := odF h; omega
  subst h
  rw [List.take_length] at hst
  obtain ⟨rA, rc, rfl, _⟩ := hrv
  repeat refine gs1 ?_
  refine AW.frzX (fun b hb => ⟨_, List.mem_cons_self .., hb⟩) fun Φ1 hl1 hs1 => ?_
  refine AW.cond rfl (fun hk => ?_) fun hk => ?_
  · have hk : k2 ≠ 0 := by simpa using hk
    rcases hst with ⟨h1, _⟩ | ⟨_, hev⟩
    · exact absurd h1 hk
    rw [hev]
    repeat refine gs1 ?_
    exact fin_res (vs := [.int .i64 0]) rfl rfl ⟨.tmp rfl, trivial⟩ rfl (fun w' hw => .inl ⟨(0, u2, k2), (), rfl, rfl, StP.less (StP.sel hw [0] (by decide) rfl) hl1⟩)
  have hk : k2 = 0 := by simpa using hk
  subst hk
  obtain ⟨hev, hu2, hIl⟩ : Mn.evs F X.Kids u = .ok (l, u2) ∧ (0 ≤ u2 ∧ u2 ≤ 10000) ∧ ∀ v ∈ l, I64 v := by
    rcases hst with ⟨_, h1⟩ | ⟨h1, _⟩
    · exact h1
    · exact absurd rfl h1
  rw [hev]
  simp only [Mn.bnd]
  have hvr : RepSl Φ1 l (.slice rA X.Kids.length rc) := RowS.ints (T := 3) hs1 (by simp only [maxSl]; omega) hIl
  have hE1 := hE.mono hl1
  have hpP := hp.P.mono hl1
  unfold Mn.fin
  have fin1 : ∀ (a : Int) (w' : World), (St ⟨w, Φ, fps [xB x y u c 0]⟩ Φ1 [xB x y u2 c 0, .blk b4 69 (exC X (.slice vA X.Kids.length vc))]).p w' → fvR w Φ x y u c 0 (toV (.ok (a, u2))) (.returned (.int .i64 a)) w' := fun a w' hw => .inl ⟨(a, u2, 0), (), rfl, rfl, StP.less (StP.sel hw [0] (by decide) rfl) hl1⟩
  repeat refine gs1 ?_
  refine AW.cond rfl (fun k => ?_) fun k0 => ?_
  · rw [if_pos (odT k)]
    repeat refine gs1 ?_
    exact fin_res (vs := [.int .i64 X.N]) rfl rfl ⟨.tmp rfl, trivial⟩ rfl (fun w' hw => fin1 _ w' hw)
  rw [if_neg (odF k0)]
  repeat refine gs1 ?_
  refine AW.cond rfl (fun k => ?_) fun k15 => ?_
  · have k : X.Kind = 15 := odT k
    rw [if_pos k]
    have h15 := hn.k15 k
    obtain ⟨m, hm⟩ : ∃ m : Nat, X.N = m := ⟨X.N.toNat, by omega⟩
    have hml : m < ps.length := by have := hp.L; omega
    have pe := RepSl.gi' hpP hml
    rw [hm, Int.toNat_natCast]
    repeat refine gs1 ?_
    refine RW.q (v := .pointer (some (Value.at (.slice pA ps.length pc) (m * 1)))) rfl (qa_ixN (n := ps.length) (i := m) rfl (by show Value.int .i64 X.N = _; rw [hm]) hps hml) ?_
    repeat refine gs1 ?_
    exact fin_res (vs := [.int .i64 (ps.getD m 0)]) rfl rfl ⟨.tmp rfl, trivial⟩ rfl (fun w' hw => fin1 _ w' hw)
  rw [if_neg (odF k15)]
  repeat refine gs1 ?_
  have hBK : ∀ w1, (St ⟨w, Φ, fps [xB x y u c 0]⟩ Φ1 [xB x y u2 c 0, .blk b4 69 (exC X (.slice vA X.Kids.length vc))]).p w1 → (St ⟨w, Φ, fps [xB x y u c 0]⟩ Φ1 [xB x y u2 c 0, .blk b4 69 (exC X (.slice vA X.Kids.length vc))]).p w1 := fun _ h => h
  refine AW.cond rfl (fun k => ?_) fun k1 => ?_
  · have k : X.Kind = 1 := odT k
    rw [if_pos k]
    repeat refine gs1 ?_
    refine AW.draw (J0 := St ⟨w, Φ, fps [xB x y u c 0]⟩ Φ1 [xB x y u2 c 0, .blk b4 69 (exC X (.slice vA X.Kids.length vc))]) [.q, .q, .q, .q, .q, .q, .q] [0, 1, 2, 3, 4, 5, 6] hmix (by kernel_rfl) ?_
    repeat refine gs1 ?_
    refine DW.q (v := .agg (fcC y.fc y.hr).toArray) hBK rfl (qa_ldA (cs := fcC y.fc y.hr) rfl (Cells.blkP 0 rfl (fun j u hj => by rcases j with _ | _ | _ | _ | _ | _ | j <;> first | exact hj | cases hj)) rfl) ?_
    repeat refine gs1 ?_
    refine DW.q hBK rfl (q_call (args := #[.agg (fcC y.fc y.hr).toArray, .agg (exC X (.slice vA X.Kids.length vc)).toArray]) oK rfl rfl (fun w1 hw1 => by rw [hE.H]; exact fFact_c w1 hw1.phi hE1.Y hE.I hvs (Mn.jx_fact hj k))) ?_
    repeat refine gs1 ?_
    exact fin_res (vs := [.int .i64 (Mn.factV f (dOf f) X.N X.Of X.Of2)]) rfl rfl ⟨.tmp rfl, trivial⟩ rfl (fun w' hw => fin1 _ w' hw)
  have k0 : X.Kind ≠ 0 := odF k0
  have k15 : X.Kind ≠ 15 := odF k15
  have k1 : X.Kind ≠ 1 := odF k1
  rw [if_neg k1]
  have hlI : ∀ (i : Nat), I64 (l.getD i 0) := fun i => by
    by_cases h : i < l.length
    · have := (hvr.int h).2
      rwa [gDD, List.getElem?_eq_getElem h]
    · rw [gDD, List.getElem?_eq_none (by omega)]; unfold I64; simp
  have hls : IsSl (.slice rA X.Kids.length rc) X.Kids.length := hll ▸ hvr.sl
  repeat refine gs1 ?_
  refine AW.cond rfl (fun k => ?_) fun k2 => ?_
  · have k : X.Kind = 2 := odT k
    rw [if_pos k]
    have hl1 : 0 < l.length := by have := hn.a1 (.inl k); omega
    have pe := RepSl.gi' hvr hl1
    repeat refine gs1 ?_
    refine RW.q (v := .pointer (some (Value.at (.slice rA X.Kids.length rc) (0 * 1)))) rfl (qa_ixL (n := X.Kids.length) (i := 0) rfl rfl hls (by omega)) ?_
    repeat refine gs1 ?_
    refine RW.q rfl (q_call (args := #[.int .i64 (l.getD 0 0)]) oK rfl rfl (fun w1 hw1 => fneg_c w1 (hlI 0))) ?_
    repeat refine gs1 ?_
    exact fin_res (vs := [.int .i64 (Mn.lim (0 - l.getD 0 0))]) rfl rfl ⟨.tmp rfl, trivial⟩ rfl (fun w' hw => fin1 _ w' hw)
  have k2 : X.Kind ≠ 2 := odF k2
  rw [if_neg k2]
  repeat refine gs1 ?_
  refine AW.cond rfl (fun k => ?_) fun k3 => ?_
  · have k : X.Kind = 3 := odT k
    rw [if_pos k]
    have hl1 : 0 < l.length := by have := hn.a1 (.inr k); omega
    have pe := RepSl.gi' hvr hl1
    repeat refine gs1 ?_
    refine RW.q (v := .pointer (some (Value.at (.slice rA X.Kids.length rc) (0 * 1)))) rfl (qa_ixL (n := X.Kids.length) (i := 0) rfl rfl hls (by omega)) ?_
    repeat refine gs1 ?_
    refine RW.q (v := .int .i64 (Mn.wr (1 - l.getD 0 0))) rfl (q_subW rfl rfl) ?_
    repeat refine gs1 ?_
    exact fin_res (vs := [.int .i64 (Mn.wr (1 - l.getD 0 0))]) rfl rfl ⟨.tmp rfl, trivial⟩ rfl (fun w' hw => fin1 _ w' hw)
  have k3 : X.Kind ≠ 3 := odF k3
  rw [if_neg k3]
  repeat refine gs1 ?_
  refine AW.cond rfl (fun k => ?_) fun k14 => ?_
  · have k : X.Kind = 14 := odT k
    rw [if_pos k]
    obtain ⟨h14a, h14b, h14c⟩ := hn.k14 k
    obtain ⟨m, hm⟩ : ∃ m : Nat, X.N = m := ⟨X.N.toNat, by omega⟩
    rw [hm, Int.toNat_natCast] at h14c
    have hml : m < fs.length := by omega
    have hfs := hE1.F.sl
    obtain ⟨Ab, cb, hpb, hrb⟩ := funV hE1.F hml
    have hmf : fs.getD m default ∈ fs := by
      rw [gDD, List.getElem?_eq_getElem hml]
      exact List.getElem_mem _
    rw [hm, Int.toNat_natCast]
    repeat refine gs1 ?_
    refine RW.own (args := #[pB x]) (C2 := [.blk b4 69 (exC X (.slice vA X.Kids.length vc))]) [0, 1] (by decide) rfl rfl oK rfl rfl (fun w1 hw1 => fStep_c w1 hu2 hw1) (fun _ _ _ h => nomatch h) (fun z _ hz => ?_)
    obtain ⟨u3, k3⟩ := z
    replace hz := Except.ok.inj hz
    simp only [List.cons_append, List.nil_append]
    repeat refine gs1 ?_
    refine RW.g (v := pB x) rfl rfl rfl (fun h => by exact q_nilCheck (gv_pos h)) ?_
    repeat refine gs1 ?_
    refine RW.q (v := .bool (decide (k3 = 0) && decide (c = 100))) rfl (qpA rfl rfl rfl) ?_
    repeat refine gs1 ?_
    obtain ⟨k4, hk4⟩ : ∃ k4 : Int, k4 = if k3 = 0 ∧ c = 100 then 8 else k3 := ⟨_, rfl⟩
    refine AW.mid (I := fun s J => s = [(0, pB x), (4, pB b4), (7, .slice rA X.Kids.length rc)] ∧ J = St ⟨w, Φ, fps [xB x y u c 0]⟩ Φ1 [xB x y u3 c k4, .blk b4 69 (exC X (.slice vA X.Kids.length vc))]) ?_ ?_
    · refine AW.cond rfl (fun h => ?_) fun h => ?_
      · have h : k3 = 0 ∧ c = 100 := by simpa using h
        rw [if_pos h] at hk4
        repeat refine gs1 ?_
        exact Post.mid_n (s' := _) (J' := _) ⟨rfl, rfl⟩ ⟨rfl, rfl, rfl, trivial⟩ (fun _ h => by rw [hk4]; exact h)
      · rw [if_neg (fun hh => by simp [hh.1, hh.2] at h)] at hk4
        repeat refine gs1 ?_
        exact Post.mid_n (s' := _) (J' := _) ⟨rfl, rfl⟩ ⟨rfl, rfl, rfl, trivial⟩ (fun _ h => by rw [hk4]; exact h)
    rintro f1 _ _ ⟨rfl, rfl⟩
    have hP1 : PT Φ1 (fs.getD m default).Params l (.slice rA X.Kids.length rc) := by
      obtain ⟨r1, r2⟩ := Mn.evs_typ (P := fun z v => (Ru.jx e fs ts j z).1 = 1 → B01 v) (fun z hz u v u' h3 h4 => Mn.ev_typ hE.J g c z ts ps j u v u' (hkid _ hz) hp.T h4 (by rw [← hFv]; exact h3)) hev
      refine ⟨by omega, hvr, fun i hi ht => r2 i (by omega) ?_⟩
      have h5 := Mn.jx_want hj (i := i) (by omega)
      unfold Ru.wantV at h5
      rw [if_neg (by omega), if_pos k, hm, Int.toNat_natCast, ht] at h5
      exact h5
    obtain ⟨r, hcall, hres⟩ : ∃ r : Int × Int × Int, (∀ w1, StP ⟨w1, Φ1, fps [xB x y u3 (c + 1) k4]⟩ Φ1 [xB x y u3 (c + 1) k4] w1 → Calls pg 26 #[pB x, .agg (exC (fs.getD m default).Body (.slice Ab (fs.getD m default).Body.Kids.length cb)).toArray, .slice rA X.Kids.length rc] w1 (fvR w1 Φ1 x y u3 (c + 1) k4 r)) ∧ toV (if 10000 ≤ u2 then .error (14, u2) else if 100 ≤ c then .error (8, u2 + 1) else Mn.ev fs f (dOf f) g (c + 1) (fs.getD m default).Body l (u2 + 1)) = r := by
      unfold stp at hz
      rw [if_neg (by simp)] at hz
      by_cases h1 : u2 = 10000
      · rw [if_pos h1] at hz
        obtain ⟨rfl, rfl⟩ := Prod.mk.inj hz
        rw [if_neg (by omega)] at hk4
        exact ⟨_, fun w1 hw1 => fvalK_c w1 (by omega) hrb.sl hw1, by rw [if_pos (by omega), hk4]; rfl⟩
      rw [if_neg h1] at hz
      obtain ⟨rfl, rfl⟩ := Prod.mk.inj hz
      rw [if_neg (by omega)]
      by_cases h2 : c = 100
      · rw [if_pos ⟨rfl, h2⟩] at hk4
        exact ⟨_, fun w1 hw1 => fvalK_c w1 (by omega) hrb.sl hw1, by rw [if_pos (by omega), hk4]; rfl⟩
      rw [if_neg (by omega)] at hk4
      subst hk4
      exact ⟨_, fun w1 hw1 => ih Φ1 _ _ w1 40 (fs.getD m default).Params l _ (u2 + 1) (c + 1) hE1 hrb (hE.J1 _ hmf) hP1 (by omega) (by omega) (by omega) hw1, by rw [if_neg (by omega)]⟩
    rw [hres]
    have hpre : ∀ (u c k : Int) (j : Nat) (v : Value), y.pre[j]? = some v → (y.cs u c k)[j]? = some v := fun u c k j v hj => (List.getElem?_append_left (List.getElem?_eq_some_iff.1 hj).1).trans hj
    have hJ0 : ∀ w1, (St ⟨w, Φ, fps [xB x y u c 0]⟩ Φ1 [xB x y u3 (c + 1) k4, .blk b4 69 (exC X (.slice vA X.Kids.length vc))]).p w1 → (St ⟨w, Φ, fps [xB x y u c 0]⟩ Φ1 [.pre x 88 y.pre, .blk b4 69 (exC X (.slice vA X.Kids.length vc))]).p w1 := fun w1 h => StP.toPre h (hpre _ _ _)
    repeat refine gs1 ?_
    refine AW.drawZ (J0 := St ⟨w, Φ, fps [xB x y u c 0]⟩ Φ1 [.pre x 88 y.pre, .blk b4 69 (exC X (.slice vA X.Kids.length vc))]) [.q, .q, .q, .q, .q, .q, .q, .q, .q, .q, .q, .q, .e, .q] [0, 1, 2, 3, 4, 5, 6, 7, 8, 9, 10, 11, 12, 13] hmix (by kernel_rfl) ?_
    repeat refine gs1 ?_
    refine DW.q (v := .pointer (some (Value.at y.fv (m * 8)))) hJ0 rfl (qa_ixN (n := fs.length) (i := m) rfl (by show Value.int .i64 X.N = _; rw [hm]) hfs hml) ?_
    repeat refine gs1 ?_
    refine DW.own (args := #[pB x, .agg (exC (fs.getD m default).Body (.slice Ab (fs.getD m default).Body.Kids.length cb)).toArray, .slice rA X.Kids.length rc]) (C2 := [.blk b4 69 (exC X (.slice vA X.Kids.length vc))]) [0, 1] (by decide) rfl rfl oK rfl rfl hcall (fun _ _ _ h => nomatch h) (fun _ _ _ h => StP.toPre h (hpre _ _ _)) (fun z _ hz => ?_)
    obtain rfl := Except.ok.inj hz
    clear hz
    refine DW.q (v := .int .i64 r.1) (fun _ h => StP.toPre h (hpre _ _ _)) rfl (qa_as rfl) ?_
    repeat refine gs1 ?_
    exact fin_res (vs := [.int .i64 r.1]) rfl rfl ⟨.tmp rfl, trivial⟩ rfl (fun w' hw => .inl ⟨r, (), rfl, rfl, by have h := hw; simp only [Int.add_sub_cancel] at h; exact StP.less (StP.sel h [0] (by decide) rfl) hl1⟩)
  have k14 : X.Kind ≠ 14 := odF k14
  rw [if_neg k14]
  obtain ⟨hlen2, hk4, hk12⟩ := hn.a2 k0 k1 k2 k3 hK.2.2 k14 k15
  have pe0 := RepSl.gi' hvr (i := 0) (by omega)
  have pe1 := RepSl.gi' hvr (i := 1) (by omega)
  repeat refine gs1 ?_
  refine AW.mid (I := fun s J => s = [(4, pB b4), (7, .slice rA X.Kids.length rc)] ∧ J = St ⟨w, Φ, fps [xB x y u c 0]⟩ Φ1 [xB x y u2 c 0, .blk b4 69 (exC X (.slice vA X.Kids.length vc))] ∧ (X.Kind = 7 → l.getD 1 0 ≠ 0)) ?_ ?_
  · refine AW.cond rfl (fun k => ?_) fun k7 => ?_
    · have k : X.Kind = 7 := odT k
      repeat refine gs1 ?_
      refine RW.q (v := .pointer (some (Value.at (.slice rA X.Kids.length rc) (1 * 1)))) rfl (qa_ixL (n := X.Kids.length) (i := 1) rfl rfl hls (by omega)) ?_
      repeat refine gs1 ?_
      refine AW.cond rfl (fun h => ?_) fun h => ?_
      · have h : l.getD 1 0 = 0 := odT h
        have ho : Mn.op2 X.Kind (l.getD 0 0) (l.getD 1 0) = .error 1 := by
          unfold Mn.op2
          rw [if_neg (by omega), if_neg (by omega), if_neg (by omega), if_pos k, if_pos h]
        rw [ho]
        repeat refine gs1 ?_
        refine Post.mid_r ?_
        repeat refine gs1 ?_
        exact fin_res (vs := [.int .i64 0]) rfl rfl ⟨.tmp rfl, trivial⟩ rfl (fun w' hw => .inl ⟨(0, u2, 1), (), rfl, rfl, StP.less (StP.sel hw [0] (by decide) rfl) hl1⟩)
      · have h : l.getD 1 0 ≠ 0 := odF h
        repeat refine gs1 ?_
        exact Post.mid_n (s' := _) (J' := _) ⟨rfl, rfl, fun _ => h⟩ ⟨rfl, rfl, trivial⟩ (fun _ h => h)
    · have k7 : X.Kind ≠ 7 := odF k7
      repeat refine gs1 ?_
      exact Post.mid_n (s' := _) (J' := _) ⟨rfl, rfl, fun h => absurd h k7⟩ ⟨rfl, rfl, trivial⟩ (fun _ h => h)
  rintro f1 _ _ ⟨rfl, rfl, h7⟩
  obtain ⟨v, hvo⟩ : ∃ v, Mn.op2 X.Kind (l.getD 0 0) (l.getD 1 0) = .ok v := by
    unfold Mn.op2
    repeat' split
    all_goals first | exact ⟨_, rfl⟩ | (exfalso; exact h7 (by assumption) (by assumption))
  rw [hvo]
  repeat refine gs1 ?_
  refine AW.draw (J0 := St ⟨w, Φ, fps [xB x y u c 0]⟩ Φ1 [xB x y u2 c 0, .blk b4 69 (exC X (.slice vA X.Kids.length vc))]) [.q, .q, .q, .q, .q, .q, .q, .q, .q, .q] [0, 1, 2, 3, 4, 5, 6, 7, 8, 9] hmix (by kernel_rfl) ?_
  repeat refine gs1 ?_
  refine DW.q (v := .pointer (some (Value.at (.slice rA X.Kids.length rc) (0 * 1)))) hBK rfl (qa_ixL (n := X.Kids.length) (i := 0) rfl rfl hls (by omega)) ?_
  repeat refine gs1 ?_
  refine DW.q (v := .pointer (some (Value.at (.slice rA X.Kids.length rc) (1 * 1)))) hBK rfl (qa_ixL (n := X.Kids.length) (i := 1) rfl rfl hls (by omega)) ?_
  repeat refine gs1 ?_
  refine DW.q hBK rfl (q_call (args := #[.int .i64 X.Kind, .int .i64 (l.getD 0 0), .int .i64 (l.getD 1 0)]) oK rfl rfl (fun w1 hw1 => fTwo_c w1 (hlI 0) (hlI 1) (by omega) hvo)) ?_
  repeat refine gs1 ?_
  exact fin_res (vs := [.int .i64 v]) rfl rfl ⟨.tmp rfl, trivial⟩ rfl (fun w' hw => fin1 _ w' hw)
theorem fvalue_c {e : Ru.Env} {fs : List Bt.RFunc} {f : Bt.Facts} {x : Nat} {y : XV} : ∀ g, VOK e fs f x y g
  | 0 => fun Φ X v w j ts ps pv u c hE hv hj hp hu hc hg h0 => by omega
  | g + 1 => value_of (fvalue_c g)
end Go.Proofs.YtnfmjfheciihjaaGreatDoor
