/- Lemmas. Conditions: those of each theorem. -/
import Derived.Test.YtnfmjfheciihjaaGreatDoorYRsB
set_option maxRecDepth 8000
set_option maxHeartbeats 16000000
namespace Ru
open Bt Pa
def ar (k : Int) (m : Nat) : Prop := 0 ≤ k ∧ k ≤ 15 ∧ (k = 0 ∨ k = 1 ∨ k = 15 → m = 0) ∧ (k = 2 ∨ k = 3 → m = 1) ∧ (4 ≤ k ∧ k ≤ 12 → m = 2) ∧ (k = 13 → m = 3)
def sh : Nd → Prop
  | ⟨k, n, o, q, _, _, _, ks⟩ => ar k ks.length ∧ o = 0 ∧ q = 0 ∧ (2 ≤ k → n = 0) ∧ (k = 1 → 0 ≤ n ∧ n ≤ 7) ∧ (k = 0 → 0 ≤ n ∧ n ≤ 1125899906842624) ∧ shL ks
where shL : List Nd → Prop
  | [] => True
  | x :: xs => sh x ∧ shL xs
abbrev shL := sh.shL
def nn : Nd → Nat
  | ⟨_, _, _, _, _, _, _, ks⟩ => nnL ks + 1
where nnL : List Nd → Nat
  | [] => 0
  | x :: xs => nn x + nnL xs
theorem nnL_len : ∀ (xs : List Nd), xs.length ≤ nn.nnL xs
  | [] => Nat.le_refl _
  | ⟨_, _, _, _, _, _, _, ks⟩ :: xs => by
    have := nnL_len xs
    simp only [nn.nnL, nn, List.length_cons]; omega
theorem nnL_mem : ∀ {xs : List Nd}, ∀ x ∈ xs, nn x ≤ nn.nnL xs
  | [], _, h => by cases h
  | y :: ys, x, h => by
    simp only [nn.nnL]
    rcases List.mem_cons.1 h with rfl | h
    · omega
    · have := nnL_mem x h; omega
mutual
theorem dep_nn : ∀ (x : Nd), dep x ≤ nn x
  | ⟨_, _, _, _, _, _, _, ks⟩ => by
    have := depL_nn ks
    simp only [dep, nn]; omega
theorem depL_nn : ∀ (xs : List Nd), dep.depL xs ≤ nn.nnL xs
  | [] => Nat.le_refl _
  | x :: xs => by
    have := dep_nn x
    have := depL_nn xs
    simp only [dep.depL, nn.nnL]; omega
end
def Gd (s : S) (x : Nd) (s' : S) : Prop := sh x ∧ nn x + 3 * s'.1.length ≤ 3 * s.1.length
theorem sh_nd {k a : Int} {ks : List Nd} (h1 : ar k ks.length) (h2 : shL ks) (h3 : k ≠ 1) : sh (nd k a ks) :=
  ⟨h1, rfl, rfl, fun _ => rfl, fun h => absurd h h3, fun _ => ⟨Int.le_refl _, by decide⟩, h2⟩
theorem factOf_le {t : List UInt8} {k : Int} (h : factOf t = some k) : 0 ≤ k ∧ k ≤ 7 := by
  unfold factOf at h
  repeat' split at h
  all_goals first | (cases h; exact ⟨by decide, by decide⟩) | cases h
theorem factR_sh {t : Token} {k : Int} {s s' : S} {x : Nd} (hk : 0 ≤ k ∧ k ≤ 7) (h : factR t k s = .ok (x, s')) : sh x ∧ nn x = 1 := by
  have hs : ∀ nm ow, sh ⟨1, k, 0, 0, t.At, nm, ow, []⟩ ∧ nn ⟨1, k, 0, 0, t.At, nm, ow, []⟩ = 1 := fun nm ow =>
    ⟨⟨⟨by decide, by decide, fun _ => rfl, fun h => by omega, fun h => by omega, fun h => by omega⟩, rfl, rfl, fun h => by omega, fun _ => hk, fun h => by omega, trivial⟩, rfl⟩
  unfold factR at h
  split at h
  · cases h; exact hs _ _
  · obtain ⟨_, s1, h1, h⟩ := bnd_ok h
    obtain ⟨_, s2, h2, h⟩ := bnd_ok h
    split at h
    · obtain ⟨_, s3, h3, h⟩ := bnd_ok h
      obtain ⟨_, s4, h4, h⟩ := bnd_ok h
      obtain ⟨_, s5, h5, h⟩ := bnd_ok h
      cases h; exact hs _ _
    · obtain ⟨_, s3, h3, h⟩ := bnd_ok h
      cases h; exact hs _ _
theorem rel_sh {op : List UInt8} {x y : Nd} (hx : sh x) (hy : sh y) : sh (rel op x y) ∧ nn (rel op x y) ≤ nn x + nn y + 2 := by
  have h2 : ∀ k a u v, (8 ≤ k ∧ k ≤ 10) → sh u → sh v → sh (nd k a [u, v]) ∧ nn (nd k a [u, v]) = nn u + nn v + 1 := fun k a u v hk hu hv =>
    ⟨sh_nd ⟨by omega, by omega, fun h => by omega, fun h => by omega, fun _ => rfl, fun h => by omega⟩ ⟨hu, hv, trivial⟩ (by omega), by simp only [nd, nn, nn.nnL]; omega⟩
  unfold rel
  repeat' split
  · obtain ⟨a, b⟩ := h2 8 x.At x y (by decide) hx hy; exact ⟨a, by omega⟩
  · obtain ⟨a, b⟩ := h2 9 x.At x y (by decide) hx hy; exact ⟨a, by omega⟩
  · obtain ⟨a, b⟩ := h2 8 x.At y x (by decide) hy hx; exact ⟨a, by omega⟩
  · obtain ⟨a, b⟩ := h2 9 x.At y x (by decide) hy hx; exact ⟨a, by omega⟩
  · obtain ⟨a, b⟩ := h2 10 x.At x y (by decide) hx hy
    refine ⟨sh_nd ⟨by decide, by decide, fun h => by omega, fun _ => rfl, fun h => by omega, fun h => by omega⟩ ⟨a, trivial⟩ (by decide), ?_⟩
    show nn.nnL [nd 10 x.At [x, y]] + 1 ≤ _
    simp only [nn.nnL]; omega
  · obtain ⟨a, b⟩ := h2 10 x.At x y (by decide) hx hy; exact ⟨a, by omega⟩
theorem nn_at (x : Nd) (a : Int) : nn { x with At := a } = nn x := by cases x; rfl
theorem sh_at {x : Nd} (h : sh x) (a : Int) : sh { x with At := a } := by cases x; exact h
theorem truth_sh (t : Token) : sh (truth t) ∧ nn (truth t) = 3 := by
  refine ⟨sh_nd ⟨by decide, by decide, fun h => by omega, fun h => by omega, fun _ => rfl, fun h => by omega⟩ ⟨sh_nd ⟨by decide, by decide, fun _ => rfl, fun h => by omega, fun h => by omega, fun h => by omega⟩ trivial (by decide), ⟨⟨by decide, by decide, fun _ => rfl, fun h => by omega, fun h => by omega, fun h => by omega⟩, rfl, rfl, fun h => by omega, fun h => by omega, fun _ => ?_, trivial⟩, trivial⟩ (by decide), by simp only [truth, nd, nn, nn.nnL]⟩
  split <;> decide
theorem numR_sh {s s' : S} {x : Nd} (h : numR s = .ok (x, s')) : sh x ∧ nn x = 1 := by
  unfold numR at h
  cases h
  refine ⟨⟨⟨by decide, by decide, fun _ => rfl, fun h => by omega, fun h => by omega, fun h => by omega⟩, rfl, rfl, fun h => by omega, fun h => by omega, fun _ => ?_, trivial⟩, rfl⟩
  have := (Un.amt_le (pk s.1).Text (unitOf s.1.tail)).1
  omega
theorem all_sh : ∀ f : Nat, (∀ (s s' : S) (x : Nd), good s.1 → expr f s = .ok (x, s') → Gd s x s') ∧ (∀ (n : Nat) (s s' : S) (x : Nd), good s.1 → level f n s = .ok (x, s') → Gd s x s') ∧ (∀ (n : Nat) (y : Nd) (s s' : S) (x : Nd), good s.1 → sh y → lvl f n y s = .ok (x, s') → sh x ∧ nn x + 3 * s'.1.length ≤ nn y + 3 * s.1.length) ∧
    (∀ (n : Nat) (s s' : S) (x : Nd), good s.1 → below f n s = .ok (x, s') → Gd s x s') ∧ (∀ (s s' : S) (x : Nd), good s.1 → neg f s = .ok (x, s') → Gd s x s') ∧ (∀ (s s' : S) (x : Nd), good s.1 → cmp f s = .ok (x, s') → Gd s x s') ∧
    (∀ (s s' : S) (x : Nd), good s.1 → factor f s = .ok (x, s') → Gd s x s') ∧ (∀ (s s' : S) (x : Nd), good s.1 → prim f s = .ok (x, s') → Gd s x s') ∧ (∀ (s s' : S) (x : Nd), good s.1 → (pk s.1).Kind = 0 → word f s = .ok (x, s') → Gd s x s') ∧ (∀ (s s' : S) (xs : List Nd), good s.1 → args f s = .ok (xs, s') → shL xs ∧ nn.nnL xs + 3 * s'.1.length ≤ 3 * s.1.length)
  | 0 => ⟨fun s s' x _ h => (by rw [expr] at h; cases h), fun n s s' x _ h => (by rw [level] at h; cases h), fun n y s s' x _ _ h => (by rw [lvl] at h; cases h), fun n s s' x _ h => (by rw [below] at h; cases h), fun s s' x _ h => (by rw [neg] at h; cases h), fun s s' x _ h => (by rw [cmp] at h; cases h), fun s s' x _ h => (by rw [factor] at h; cases h), fun s s' x _ h => (by rw [prim] at h; cases h), fun s s' x _ _ h => (by rw [word] at h; cases h), fun s s' x _ h => (by rw [args] at h; cases h)⟩
  | f + 1 => by
    obtain ⟨iE, iL, iV, iB, iN, iC, iF, iP, iW, iA⟩ := all_sh f
    obtain ⟨aE, aL, aV, aB, aN, aC, aF, aP, aW, aA⟩ := all_ok f
    refine ⟨fun s s' x hg h => ?_, fun n s s' x hg h => ?_, fun n y s s' x hg hy h => ?_, fun n s s' x hg h => ?_, fun s s' x hg h => ?_, fun s s' x hg h => ?_, fun s s' x hg h => ?_, fun s s' x hg h => ?_, fun s s' x hg hk h => ?_, fun s s' x hg h => ?_⟩
    · rw [expr] at h
      split at h
      · rename_i hs
        have g0 := ad_isT hg hs
        obtain ⟨x1, s1, h1, h⟩ := bnd_ok h
        have g1 := aE _ _ _ g0.2.1 h1
        have d1 := iE _ _ _ g0.2.1 h1
        obtain ⟨_, s2, h2, h⟩ := bnd_ok h
        have g2 := (exp_ok g1.2.1 h2).1
        obtain ⟨x3, s3, h3, h⟩ := bnd_ok h
        have g3 := aE _ _ _ g2.2.1 h3
        have d3 := iE _ _ _ g2.2.1 h3
        obtain ⟨_, s4, h4, h⟩ := bnd_ok h
        have g4 := (exp_ok g3.2.1 h4).1
        obtain ⟨x5, s5, h5, h⟩ := bnd_ok h
        have d5 := iE _ _ _ g4.2.1 h5
        have g5 := aE _ _ _ g4.2.1 h5
        cases h
        refine ⟨sh_nd ⟨by decide, by decide, fun h => by omega, fun h => by omega, fun h => by omega, fun _ => rfl⟩ ⟨d1.1, d3.1, d5.1, trivial⟩ (by decide), ?_⟩
        have l0 := g0.2.2; have l1 := d1.2; have l2 := g2.2.2; have l3 := d3.2; have l4 := g4.2.2; have l5 := d5.2; have m1 := g1.2.2; have m3 := g3.2.2; have m5 := g5.2.2
        simp only [nd, nn, nn.nnL] at l1 l3 l5 ⊢
        omega
      · exact iL _ _ _ _ hg h
    · rw [level] at h
      obtain ⟨x1, s1, h1, h⟩ := bnd_ok h
      have g1 := aB _ _ _ _ hg h1
      have d1 := iB _ _ _ _ hg h1
      have d2 := iV _ _ _ _ _ g1.2.1 d1.1 h
      exact ⟨d2.1, by have := d1.2; have := d2.2; omega⟩
    · rw [lvl] at h
      split at h
      · cases h; exact ⟨hy, Nat.le_refl _⟩
      · rename_i k hk
        have g0 := ad_op hg hk
        have hkk := (opOf_kind hk).2
        obtain ⟨x1, s1, h1, h⟩ := bnd_ok h
        have g1 := aB _ _ _ _ g0.2.1 h1
        have d1 := iB _ _ _ _ g0.2.1 h1
        have d2 := iV n _ _ _ _ g1.2.1 (sh_nd (k := k) (a := y.At) (ks := [y, x1]) ⟨by omega, by omega, fun h => by omega, fun h => by omega, fun _ => rfl, fun h => by omega⟩ ⟨hy, d1.1, trivial⟩ (by omega)) h
        refine ⟨d2.1, ?_⟩
        have l0 := g0.2.2; have l1 := d1.2; have l2 := d2.2; have m1 := g1.2.2
        simp only [nd, nn, nn.nnL] at l1 l2 m1
        omega
    · rw [below] at h
      split at h
      · exact iN _ _ _ hg h
      · split at h
        · exact iF _ _ _ hg h
        · exact iL _ _ _ _ hg h
    · rw [neg] at h
      split at h
      · rename_i hs
        have g0 := ad_isT hg hs
        obtain ⟨x1, s1, h1, h⟩ := bnd_ok h
        have d1 := iN _ _ _ g0.2.1 h1
        cases h
        refine ⟨sh_nd ⟨by decide, by decide, fun h => by omega, fun _ => rfl, fun h => by omega, fun h => by omega⟩ ⟨d1.1, trivial⟩ (by decide), ?_⟩
        have l0 := g0.2.2; have l1 := d1.2
        simp only [nd, nn, nn.nnL] at l1 ⊢
        omega
      · exact iC _ _ _ hg h
    · rw [cmp] at h
      obtain ⟨x1, s1, h1, h⟩ := bnd_ok h
      have g1 := aL _ _ _ _ hg h1
      have d1 := iL _ _ _ _ hg h1
      split at h
      · rename_i hs
        have g2 := ad_tail g1.2.1 (by omega)
        obtain ⟨x2, s2, h2, h⟩ := bnd_ok h
        have g3 := aL _ _ _ _ g2.2.1 h2
        have d2 := iL _ _ _ _ g2.2.1 h2
        cases h
        have hr := rel_sh (op := (pk s1.1).Text) d1.1 d2.1
        refine ⟨hr.1, ?_⟩
        have l1 := d1.2; have l2 := d2.2; have l3 := g2.2.2; have l4 := hr.2; have m1 := g1.2.2; have m3 := g3.2.2
        simp only at l1 l2 l3 l4 ⊢
        omega
      · cases h; exact d1
    · rw [factor] at h
      split at h
      · rename_i hs
        have g0 := ad_isT hg hs
        obtain ⟨x1, s1, h1, h⟩ := bnd_ok h
        have d1 := iF _ _ _ g0.2.1 h1
        cases h
        refine ⟨sh_nd ⟨by decide, by decide, fun h => by omega, fun _ => rfl, fun h => by omega, fun h => by omega⟩ ⟨d1.1, trivial⟩ (by decide), ?_⟩
        have l0 := g0.2.2; have l1 := d1.2
        simp only [nd, nn, nn.nnL] at l1 ⊢
        omega
      · exact iP _ _ _ hg h
    · rw [prim] at h
      split at h
      · rename_i hk
        have := (numR_ok hg hk h).2.2
        obtain ⟨d1, d2⟩ := numR_sh h
        exact ⟨d1, by omega⟩
      · split at h
        · rename_i hk; exact iW _ _ _ hg hk h
        · obtain ⟨_, s1, h1, h⟩ := bnd_ok h
          have g1 := (exp_ok hg h1).1
          obtain ⟨x2, s2, h2, h⟩ := bnd_ok h
          have g2 := aE _ _ _ g1.2.1 h2
          have d2 := iE _ _ _ g1.2.1 h2
          obtain ⟨_, s3, h3, h⟩ := bnd_ok h
          have g3 := (exp_ok g2.2.1 h3).1
          cases h
          refine ⟨sh_at d2.1 _, ?_⟩
          have l1 := g1.2.2; have l2 := d2.2; have l3 := g3.2.2
          simp only [nn_at]
          omega
    · rw [word] at h
      have g0 := ad_tail hg (by omega)
      have l0 := g0.2.2
      split at h
      · cases h
        have := truth_sh (pk s.1)
        exact ⟨this.1, by have := this.2; simp only; omega⟩
      · split at h
        · rename_i k hk
          have g1 := (factR_ok g0.2.1 h).1.length_le
          have := factR_sh (factOf_le hk) h
          exact ⟨this.1, by have := this.2; simp only at g1; omega⟩
        · obtain ⟨nm, s1, h1, h⟩ := bnd_ok h
          have g1 := (identR_ok hg h1).1
          have l1 := g1.2.2
          have hl : ∀ k : Int, k = 14 ∨ k = 15 → ∀ ks, (k = 15 → ks.length = 0) → shL ks → sh ⟨k, 0, 0, 0, (pk s.1).At, nm, default, ks⟩ := fun k hk ks h1 h2 =>
            ⟨⟨by omega, by omega, fun h => h1 (by omega), fun h => by omega, fun h => by omega, fun h => by omega⟩, rfl, rfl, fun _ => rfl, fun h => by omega, fun h => by omega, h2⟩
          split at h
          · rename_i hs
            have g2 := ad_isT g1.2.1 hs
            have l2 := g2.2.2
            split at h
            · rename_i hs2
              have g3 := (ad_isT g2.2.1 hs2).2.2
              cases h
              exact ⟨hl 14 (.inl rfl) [] (fun _ => rfl) trivial, by simp only [nn, nn.nnL]; omega⟩
            · obtain ⟨ks, s2, h2, h⟩ := bnd_ok h
              have d2 := iA _ _ _ g2.2.1 h2
              cases h
              exact ⟨hl 14 (.inl rfl) ks (fun h => by omega) d2.1, by have := d2.2; simp only [nn] at this ⊢; omega⟩
          · cases h
            exact ⟨hl 15 (.inr rfl) [] (fun _ => rfl) trivial, by simp only [nn, nn.nnL]; omega⟩
    · rw [args] at h
      obtain ⟨x1, s1, h1, h⟩ := bnd_ok h
      have g1 := aE _ _ _ hg h1
      have d1 := iE _ _ _ hg h1
      have l1 := d1.2
      split at h
      · rename_i hs
        have g2 := ad_isT g1.2.1 hs
        obtain ⟨xs, s2, h2, h⟩ := bnd_ok h
        have d2 := iA _ _ _ g2.2.1 h2
        have g3 := aA _ _ _ g2.2.1 h2
        cases h
        refine ⟨⟨d1.1, d2.1⟩, ?_⟩
        have l2 := g2.2.2; have l3 := d2.2; have m1 := g1.2.2; have m3 := g3.2.2
        simp only [nn.nnL] at l3 ⊢
        omega
      · obtain ⟨_, s2, h2, h⟩ := bnd_ok h
        have g2 := (exp_ok g1.2.1 h2).1.2.2
        cases h
        exact ⟨⟨d1.1, trivial⟩, by simp only [nn.nnL]; omega⟩
theorem expr0_sh {s s' : S} {x : Nd} (hg : good s.1) (h : expr0 s = .ok (x, s')) : sh x ∧ nn x ≤ 3 * s.1.length := by
  have := (all_sh _).1 _ _ _ hg h
  exact ⟨this.1, by have := this.2; omega⟩
theorem prms_kind : ∀ (f : Nat) {s s' : S} {xs : List Prm}, good s.1 → prms f s = .ok (xs, s') → (∀ q ∈ xs, q.kind = 0 ∨ q.kind = 1) ∧ xs.length ≤ s.1.length
  | 0, _, _, _, _, h => by rw [prms] at h; cases h
  | f + 1, s, s', xs, hg, h => by
    rw [prms] at h
    obtain ⟨nm, s1, h1, h⟩ := bnd_ok h
    have g1 := (identR_ok hg h1).1
    obtain ⟨_, s2, h2, h⟩ := bnd_ok h
    have g2 := (exp_ok g1.2.1 h2).1
    obtain ⟨k, s3, h3, h⟩ := bnd_ok h
    have g3 := kindR_ok g2.2.1 h3
    split at h
    · rename_i hs
      obtain ⟨ys, s4, h4, h⟩ := bnd_ok h
      have i4 := prms_kind f (ad_isT g3.1.2.1 hs).2.1 h4
      have l4 := (ad_isT g3.1.2.1 hs).2.2
      have l5 := i4.2
      have l6 := g1.2.2; have l7 := g2.2.2; have l8 := g3.1.2.2
      cases h
      refine ⟨fun q hq => ?_, by simp only [List.length_cons] at *; omega⟩
      rcases List.mem_cons.1 hq with rfl | hq
      · exact g3.2.2
      · exact i4.1 q hq
    · obtain ⟨_, s4, h4, h⟩ := bnd_ok h
      cases h
      have l6 := g1.2.2
      refine ⟨fun q hq => ?_, by simp only [List.length_singleton]; omega⟩
      rw [List.mem_singleton.1 hq]
      exact g3.2.2
def okF (n : Nat) (f : Fn) : Prop := ((∀ q ∈ f.params, q.kind = 0 ∨ q.kind = 1) ∧ f.params.length ≤ n) ∧ (f.result = 0 ∨ f.result = 1) ∧ sh f.body ∧ nn f.body ≤ 3 * n
def okC (n : Nat) (c : Cl) : Prop := sh c.cond ∧ nn c.cond ≤ 3 * n ∧ sh c.value ∧ nn c.value ≤ 3 * n
theorem funR_sh {s s' : S} {x : Fn} (hg : good s.1) (h : funR s = .ok (x, s')) : okF s.1.length x := by
  unfold funR at h
  obtain ⟨nm, s1, h1, h⟩ := bnd_ok h
  have g1 := (identR_ok hg h1).1
  obtain ⟨_, s2, h2, h⟩ := bnd_ok h
  have g2 := g1.trans (exp_ok g1.2.1 h2).1
  obtain ⟨ps, s3, h3, h⟩ := bnd_ok h
  have g3 : Ad s.1 s3.1 ∧ (∀ q ∈ ps, q.kind = 0 ∨ q.kind = 1) ∧ ps.length ≤ s.1.length := by
    split at h3
    · rename_i hs; cases h3; exact ⟨g2.trans (ad_isT g2.2.1 hs), fun q hq => (by cases hq), Nat.zero_le _⟩
    · have := prms_kind _ g2.2.1 h3
      exact ⟨g2.trans (prms_ok _ g2.2.1 h3), this.1, by have := this.2; have := g2.2.2; omega⟩
  obtain ⟨_, s4, h4, h⟩ := bnd_ok h
  have g4 := g3.1.trans (exp_ok g3.1.2.1 h4).1
  obtain ⟨k, s5, h5, h⟩ := bnd_ok h
  have k5 := (kindR_ok g4.2.1 h5).2.2
  have g5 := g4.trans (kindR_ok g4.2.1 h5).1
  obtain ⟨_, s6, h6, h⟩ := bnd_ok h
  have g6 := g5.trans (exp_ok g5.2.1 h6).1
  obtain ⟨b, s7, h7, h⟩ := bnd_ok h
  have d7 := expr0_sh g6.2.1 h7
  cases h
  exact ⟨g3.2, k5, d7.1, by have := d7.2; have := g6.2.2; simp only; omega⟩
theorem clR_sh {s s' : S} {x : Cl} (hg : good s.1) (h : clR s = .ok (x, s')) : okC s.1.length x := by
  unfold clR at h
  obtain ⟨c, s1, h1, h⟩ := bnd_ok h
  have d1 := expr0_sh hg h1
  have g1 := expr0_ok hg h1
  obtain ⟨_, s2, h2, h⟩ := bnd_ok h
  have g2 := g1.trans (exp_ok g1.2.1 h2).1
  obtain ⟨_, s3, h3, h⟩ := bnd_ok h
  have g3 := g2.trans (exp_ok g2.2.1 h3).1
  obtain ⟨l, s4, h4, h⟩ := bnd_ok h
  have g4 := g3.trans (nameR_ok g3.2.1 h4).1
  obtain ⟨_, s5, h5, h⟩ := bnd_ok h
  have g5 := g4.trans (exp_ok g4.2.1 h5).1
  obtain ⟨v, s6, h6, h⟩ := bnd_ok h
  have d6 := expr0_sh g5.2.1 h6
  cases h
  exact ⟨d1.1, d1.2, d6.1, by have := d6.2; have := g5.2.2; simp only; omega⟩
theorem okF.mono {n m : Nat} {f : Fn} (h : okF n f) (hm : n ≤ m) : okF m f := ⟨⟨h.1.1, Nat.le_trans h.1.2 hm⟩, h.2.1, h.2.2.1, by have := h.2.2.2; omega⟩
theorem okC.mono {n m : Nat} {c : Cl} (h : okC n c) (hm : n ≤ m) : okC m c := ⟨h.1, by have := h.2.1; omega, h.2.2.1, by have := h.2.2.2; omega⟩
theorem defs_sh : ∀ (f : Nat) {s s' : S} {xs : List Fn}, good s.1 → defs f s = .ok (xs, s') → (∀ x ∈ xs, okF s.1.length x) ∧ Le s.1 s'.1 ∧ xs.length + s'.1.length ≤ s.1.length
  | 0, _, _, _, _, h => by rw [defs] at h; cases h
  | f + 1, s, s', xs, hg, h => by
    rw [defs] at h
    split at h
    · rename_i hs
      have g0 := ad_isT hg hs
      obtain ⟨x, s1, h1, h⟩ := bnd_ok h
      have g1 := funR_ok g0.2.1 h1
      have d1 := funR_sh g0.2.1 h1
      obtain ⟨ys, s2, h2, h⟩ := bnd_ok h
      obtain ⟨i1, i2, i3⟩ := defs_sh f g1.2.1 h2
      cases h
      have l0 := g0.2.2; have l1 := g1.2.2
      simp only at l1
      refine ⟨fun y hy => ?_, ⟨i2.1.trans (g1.1.trans g0.1), i2.2⟩, by simp only [List.length_cons]; omega⟩
      rcases List.mem_cons.1 hy with rfl | hy
      · exact d1.mono (by simp only; omega)
      · exact (i1 y hy).mono (by omega)
    · cases h; exact ⟨fun x hx => (by cases hx), ⟨List.suffix_refl _, hg⟩, by simp⟩
theorem whens_sh : ∀ (f : Nat) {s s' : S} {xs : List Cl}, good s.1 → whens f s = .ok (xs, s') → (∀ x ∈ xs, okC s.1.length x) ∧ Le s.1 s'.1 ∧ xs.length + s'.1.length ≤ s.1.length
  | 0, _, _, _, _, h => by rw [whens] at h; cases h
  | f + 1, s, s', xs, hg, h => by
    rw [whens] at h
    split at h
    · rename_i hs
      have g0 := ad_isT hg hs
      obtain ⟨x, s1, h1, h⟩ := bnd_ok h
      have g1 := clR_ok g0.2.1 h1
      have d1 := clR_sh g0.2.1 h1
      obtain ⟨ys, s2, h2, h⟩ := bnd_ok h
      obtain ⟨i1, i2, i3⟩ := whens_sh f g1.2.1 h2
      cases h
      have l0 := g0.2.2; have l1 := g1.2.2
      simp only at l1
      refine ⟨fun y hy => ?_, ⟨i2.1.trans (g1.1.trans g0.1), i2.2⟩, by simp only [List.length_cons]; omega⟩
      rcases List.mem_cons.1 hy with rfl | hy
      · exact d1.mono (by simp only; omega)
      · exact (i1 y hy).mono (by omega)
    · cases h; exact ⟨fun x hx => (by cases hx), ⟨List.suffix_refl _, hg⟩, by simp⟩
def okP (n : Nat) (p : List Fn × List Cl) : Prop := (∀ x ∈ p.1, okF n x) ∧ (∀ x ∈ p.2, okC n x) ∧ p.1.length + p.2.length ≤ n
theorem parse_sh {ts : List Token} (hg : good ts) : okP ts.length (parse ts).1 := by
  unfold parse
  cases hr : prgR (ts, -1) with
  | error e =>
    simp only
    split <;> exact ⟨fun x hx => (by cases hx), fun x hx => (by cases hx), Nat.zero_le _⟩
  | ok r =>
    obtain ⟨p, s⟩ := r
    simp only
    unfold prgR at hr
    obtain ⟨fs, s1, h1, h⟩ := bnd_ok hr
    obtain ⟨cs, s2, h2, h⟩ := bnd_ok h
    have d1 := defs_sh _ (s := (ts, -1)) hg h1
    have d2 := whens_sh _ d1.2.1.2 h2
    have hl := d1.2.1.1.length_le
    split
    · exact ⟨fun x hx => (by cases hx), fun x hx => (by cases hx), Nat.zero_le _⟩
    · split at h
      · cases h
        refine ⟨d1.1, fun x hx => (d2.1 x hx).mono hl, ?_⟩
        have := d1.2.2; have := d2.2.2
        simp only at *
        omega
      · cases h
end Ru
namespace Ru
open Go Go.K Bt
theorem OP.Lget {α : Type} {o : OP α} {H : Hp} : ∀ {xs : List α} {l F : List Nat}, o.L H xs l F → ∀ i (hi : i < xs.length), ∃ b F', l[i]? = some b ∧ o.P H xs[i] b F'
 | x :: xs, l, F, ⟨b, l2, F1, F2, h1, h2, h3, h4⟩, 0, _ => ⟨b, F1, by rw [h1]; rfl, h3⟩
 | x :: xs, l, F, ⟨b, l2, F1, F2, h1, h2, h3, h4⟩, i + 1, hi => by
  obtain ⟨b', F', h5, h6⟩ := OP.Lget h4 i (by simpa using hi)
  exact ⟨b', F', by rw [h1]; simpa using h5, by simpa using h6⟩
def Tl (H : Hp) (ts : List Nd) (l : List Nat) : Prop := l.length = ts.length ∧ ∀ j (hj : j < ts.length), ∃ b F, l[j]? = some b ∧ TrF H ts[j] b F
theorem Tl.nil {H : Hp} : Tl H [] [] := ⟨rfl, fun j hj => by cases hj⟩
theorem Tl.snoc {H : Hp} {ts : List Nd} {l : List Nat} {t : Nd} {b : Nat} {F : List Nat} (h : Tl H ts l) (ht : TrF H t b F) : Tl H (ts ++ [t]) (l ++ [b]) := by
 refine ⟨by rw [List.length_append, List.length_append, h.1]; rfl, fun j hj => ?_⟩
 by_cases hlt : j < ts.length
 ·
  obtain ⟨c, G, h1, h2⟩ := h.2 j hlt
  exact ⟨c, G, by rw [List.getElem?_append_left (by rw [h.1]; exact hlt)]; exact h1, by rw [List.getElem_append_left hlt]; exact h2⟩
 ·
  obtain rfl : j = ts.length := by simp only [List.length_append, List.length_singleton] at hj; omega
  exact ⟨b, F, by rw [List.getElem?_append_right (by rw [h.1]; exact Nat.le_refl _), h.1, Nat.sub_self]; rfl, by simpa using ht⟩
theorem take_snoc {α : Type} {l : List α} {i : Nat} (h : i < l.length) : l.take (i + 1) = l.take i ++ [l[i]] := by
 rw [List.take_add_one, List.getElem?_eq_getElem h]; rfl
theorem TrF.at_ {H : Hp} : ∀ {x : Nd} {b : Nat} {F : List Nat}, TrF H x b F → PCell H ⟨b, 4, none⟩ (iV x.At)
 | ⟨_, _, _, _, _, _, _, _⟩, _, _, ⟨_, _, _, h1, _⟩ => ⟨_, _, _, h1, rfl, rfl⟩
theorem find_at {α : Type} {p : α → Bool} : ∀ {l : List α} {i : Nat} (hi : i < l.length), (∀ t ∈ l.take i, p t = false) → p l[i] = true → l.find? p = some l[i]
 | x :: xs, 0, _, _, h => by rw [List.find?_cons_of_pos (by simpa using h)]; rfl
 | x :: xs, i + 1, hi, h1, h2 => by
  rw [List.find?_cons_of_neg (by have := h1 x (by simp); simp [this])]
  exact find_at (by simpa using hi) (fun t ht => h1 t (by simp [ht])) (by simpa using h2)
def clT (c : Cl) : List Nd := [c.cond, c.value]
theorem trees_eq (p : List Bt.Fn × List Cl) : trees p = p.1.map (·.body) ++ p.2.flatMap clT := rfl
theorem flatMap_clT_len (l : List Cl) : (l.flatMap clT).length = 2 * l.length := by
 induction l with
 | nil => rfl
 | cons c l ih => rw [List.flatMap_cons, List.length_append, ih, List.length_cons]; simp only [clT, List.length_cons, List.length_nil]; omega
end Ru
namespace Go.Proofs.YtnfmjfheciihjaaGreatDoor
open Go Go.K Go.RowKit
open Ru (tr trs pB nC TrF fC cC fnP clP Tl)
attribute [local irreducible] AW RW DW Post Qt
theorem tooDeep_c (w : World) {x : List Bt.Fn × List Bt.Cl} {fv cv : Value} {l F m G : List Nat} (hf : RowS (hp w) fv 143 1 x.1.length (l.map pB)) (hfl : fnP.L (hp w) x.1 l F) (hc : RowS (hp w) cv 148 1 x.2.length (m.map pB)) (hcl : clP.L (hp w) x.2 m G)
  (hd : ∀ t ∈ Ru.trees x, Ru.dep t ≤ 1000000) (hn : x.1.length + x.2.length ≤ 65536) :
  Calls pg 30 #[.agg #[fv, cv]] w fun e w' => e = .returned (iV (Ru.tooDeep x)) ∧ Bel w.heap.size w w' := by
 obtain ⟨fA, fc, rfl, _⟩ := hf.isSl
 obtain ⟨cA, cc, rfl, _⟩ := hc.isSl
 refine calls_of_AW (args := [.agg #[.slice fA x.1.length fc, .slice cA x.2.length cc]]) Tryz.func30 rfl (lBT rfl) (St ⟨w, hp w, []⟩ (hp w) []) (StP.init w (hp w) (Hp.le_refl _) []) ?_
 show AW _ _ [] _ _ _ [(0, .agg #[.slice fA x.1.length fc, .slice cA x.2.length cc])] _
 refine gP ?_
 refine RW.bxA (cs := [.slice fA x.1.length fc, .slice cA x.2.length cc]) rfl rfl fun p => ?_
 refine gP ?_
 refine RW.q rfl (q_len_sl rfl hf.isSl uT98) ?_
 refine gP ?_
 refine AW.wk (J' := St ⟨w, hp w, []⟩ (hp w) [.row nS 145 1 0 [], .blk p 101 [.slice fA x.1.length fc, .slice cA x.2.length cc]]) (fun _ h => addNil (T := 145) (sz := 1) h) (AW.loop (fun s J q => ∃ (i : Nat) (L : List Nat) (v3 : Value), s = [(1, pB p), (3, v3), (11, .slice fA x.1.length fc), (12, iV (x.1.length : Int)), (13, iV (i : Int))] ∧ J = St ⟨w, hp w, []⟩ (hp w) [.row v3 145 1 i (L.map pB), .blk p 101 [.slice fA x.1.length fc, .slice cA x.2.length cc]] ∧ q = x.1.length - i ∧ i ≤ x.1.length ∧ IsSl v3 i ∧ Tl (hp w) ((x.1.take i).map (·.body)) L) (s0 := _) (J1 := _) (m0 := _) ⟨0, [], .slice none 0 0, rfl, rfl, rfl, by omega, isSl_nil, Ru.Tl.nil⟩ ⟨rfl, rfl, rfl, rfl, rfl, trivial⟩ (fun _ h => h) ?_)
 rintro _ _ _ _ ⟨i, L, v3, rfl, rfl, rfl, hi, hv3, hT⟩
 refine gP ?_
 refine AW.cond rfl (fun h => ?_) fun h => ?_
 ·
  have h : i < x.1.length := by have := odT h; omega
  obtain ⟨b, F1, hb, pv, bb, G1, hb1, hb2, hb3, _⟩ := Ru.OP.Lget hfl i h
  refine gP ?_
  refine RW.q (v := .pointer (some (Value.at (.slice fA x.1.length fc) (i * 1)))) rfl (q_indexAddr rfl rfl hf.isSl uT98 sz143 (by omega) (by omega) rfl) (RW.q (v := pB b) rfl (q_load rfl uT143 rfl (Cell.phi (Ru.RowS.cellP hf (by rw [Nat.mul_one, List.getElem?_map, hb]; rfl)))) ?_)
  refine gP ?_
  refine RW.q (v := pB bb) rfl (q_load rfl uT145 rfl (Cell.phi ⟨_, _, _, hb1, rfl, rfl⟩)) (RW.eff _ _ rfl (e_buildSlice (vals := [(0, pB bb)]) (cells := [pB bb]) uT142 inf145 rfl rfl rfl (by kernel_rfl) rfl) fun b6 => (RW.eff (fun xv : {vq : Value // IsSl vq (i + 1)} => xv.1) (fun xv => St ⟨w, hp w, []⟩ (hp w) [.row (.slice (some ⟨b6, 0, none⟩) 1 1) 145 1 1 [pB bb], .row xv.1 145 1 (i + 1) (L.map pB ++ [pB bb]), .blk p 101 [.slice fA x.1.length fc, .slice cA x.2.length cc]]) rfl (e_append 1 rfl rfl rfl uT142 inf145 rfl rfl rfl (Cells.row0 0 rfl) rfl (by omega) (by omega) (fun _ => rfl)) ?_))
  rintro ⟨va, hva⟩
  refine gP ?_
  exact Post.back (s' := _) (J' := _) (m' := _) (by omega) ⟨i + 1, L ++ [bb], va, rfl, rfl, rfl, by omega, hva, by rw [Ru.take_snoc h, List.map_append]; exact hT.snoc hb3⟩ ⟨rfl, rfl, rfl, rfl, rfl, trivial⟩ (fun w2 h => by
   rw [List.map_append]; exact StP.sel h [1, 2] (by decide) rfl)
 ·
  have h : i = x.1.length := by have := odF h; omega
  subst h
  rw [List.take_length] at hT
  refine gP ?_
  refine RW.q rfl (q_len_sl rfl hc.isSl uT99) ?_
  refine gP ?_
  refine AW.loop (fun s J q => ∃ (i : Nat) (L : List Nat) (v3 : Value), s = [(1, pB p), (3, v3), (26, .slice cA x.2.length cc), (27, iV (x.2.length : Int)), (28, iV (i : Int))] ∧ J = St ⟨w, hp w, []⟩ (hp w) [.row v3 145 1 (x.1.length + 2 * i) (L.map pB), .blk p 101 [.slice fA x.1.length fc, .slice cA x.2.length cc]] ∧ q = x.2.length - i ∧ i ≤ x.2.length ∧ IsSl v3 (x.1.length + 2 * i) ∧ Tl (hp w) (x.1.map (·.body) ++ (x.2.take i).flatMap Ru.clT) L) (s0 := _) (J1 := _) (m0 := _) ⟨0, L, v3, rfl, rfl, rfl, by omega, hv3, by simpa using hT⟩ ⟨rfl, rfl, rfl, rfl, rfl, trivial⟩ (fun _ h => h) ?_
  rintro _ _ _ _ ⟨i, L, v3, rfl, rfl, rfl, hi, hv3, hT⟩
  refine gP ?_
  refine AW.cond rfl (fun h => ?_) fun h => ?_
  ·
   have h : i < x.2.length := by have := odT h; omega
   obtain ⟨b, F1, hb, bc, bv, G1, G2, hb1, hb2, hb3, _⟩ := Ru.OP.Lget hcl i h
   refine gP ?_
   refine RW.q (v := .pointer (some (Value.at (.slice cA x.2.length cc) (i * 1)))) rfl (q_indexAddr rfl rfl hc.isSl uT99 sz148 (by omega) (by omega) rfl) (RW.q (v := pB b) rfl (q_load rfl uT148 rfl (Cell.phi (Ru.RowS.cellP hc (by rw [Nat.mul_one, List.getElem?_map, hb]; rfl)))) ?_)
   refine gP ?_
   refine AW.draw (J0 := St ⟨w, hp w, []⟩ (hp w) [.blk p 101 [.slice fA x.1.length fc, .slice cA x.2.length cc]]) (tq9 [.e, .e, .q]) od12 hmix (by kernel_rfl) ?_
   refine gP ?_
   refine DW.q (fun _ h => St.one 1 rfl h) rfl (q_load (v := pB bc) rfl uT145 rfl (Cell.phi ⟨_, _, _, hb1, rfl, rfl⟩)) ?_
   refine gP ?_
   refine DW.q (fun _ h => St.one 1 rfl h) rfl (q_load (v := pB bv) rfl uT145 rfl (Cell.phi ⟨_, _, _, hb1, rfl, rfl⟩)) (DW.eff _ _ (fun _ _ _ h => St.one 2 rfl h) rfl (e_buildSlice (vals := [(0, pB bc), (1, pB bv)]) (cells := [pB bc, pB bv]) uT142 inf145 rfl rfl rfl (by kernel_rfl) rfl) fun b6 => (DW.eff (fun xv : {vq : Value // IsSl vq (x.1.length + 2 * i + 2)} => xv.1) (fun xv => St ⟨w, hp w, []⟩ (hp w) [.row (.slice (some ⟨b6, 0, none⟩) 2 2) 145 1 2 [pB bc, pB bv], .row xv.1 145 1 (x.1.length + 2 * i + 2) (L.map pB ++ [pB bc, pB bv]), .blk p 101 [.slice fA x.1.length fc, .slice cA x.2.length cc]]) (fun _ _ _ h => St.one 2 rfl h) rfl (e_append 1 rfl rfl rfl uT142 inf145 rfl rfl rfl (Cells.row0 0 rfl) rfl (by omega) (by omega) (fun _ => rfl)) ?_))
   rintro ⟨va, hva⟩
   refine gP ?_
   exact Post.back (s' := _) (J' := _) (m' := _) (by omega) ⟨i + 1, L ++ [bc] ++ [bv], va, rfl, rfl, rfl, by omega, hva, by
    rw [Ru.take_snoc h, List.flatMap_append, ← List.append_assoc]
    have e : (List.flatMap Ru.clT [x.2[i]]) = [x.2[i].cond] ++ [x.2[i].value] := by simp [Ru.clT]
    rw [e, ← List.append_assoc]
    exact (hT.snoc hb2).snoc hb3⟩ ⟨rfl, rfl, rfl, rfl, rfl, trivial⟩ (fun w2 h => by
    rw [List.map_append, List.map_append, List.append_assoc]; exact StP.sel h [1, 2] (by decide) rfl)
  ·
   have h : i = x.2.length := by have := odF h; omega
   subst h
   rw [List.take_length, ← Ru.trees_eq] at hT
   have hlen : (Ru.trees x).length = x.1.length + 2 * x.2.length := by rw [Ru.trees_eq, List.length_append, List.length_map, Ru.flatMap_clT_len]
   generalize hts : Ru.trees x = ts at hT hlen hd
   generalize hN : x.1.length + 2 * x.2.length = N at hv3 hlen
   obtain ⟨vA, vc, rfl, hvs⟩ := hv3
   refine gP ?_
   refine RW.q rfl (q_len_sl rfl ⟨vA, vc, rfl, hvs⟩ uT142) ?_
   refine gP ?_
   refine AW.loop (fun s J q => ∃ i : Nat, s = [(44, .slice vA N vc), (45, iV (N : Int)), (46, iV (i : Int))] ∧ J = St ⟨w, hp w, []⟩ (hp w) [.row (.slice vA N vc) 145 1 N (L.map pB)] ∧ q = N - i ∧ i ≤ N ∧ ∀ t ∈ ts.take i, decide (40 < Ru.dep t) = false) (s0 := _) (J1 := _) (m0 := _) ⟨0, rfl, rfl, rfl, by omega, fun t ht => by simp at ht⟩ ⟨rfl, rfl, rfl, trivial⟩ (fun _ h => St.one 0 rfl h) ?_
   rintro _ _ _ _ ⟨i, rfl, rfl, rfl, hi, hnone⟩
   refine gP ?_
   refine AW.cond rfl (fun h => ?_) fun h => ?_
   ·
    have h : i < N := by have := odT h; omega
    have hit : i < ts.length := by omega
    obtain ⟨b, F1, hb, hb1⟩ := hT.2 i hit
    have hdt := hd ts[i] (List.getElem_mem hit)
    refine gP ?_
    refine RW.q (v := .pointer (some (Value.at (.slice vA N vc) (i * 1)))) rfl (q_indexAddr rfl rfl ⟨vA, vc, rfl, hvs⟩ uT142 sz145 (by omega) (by omega) rfl) (RW.q (v := pB b) rfl (q_load rfl uT145 rfl (Cell.row 0 rfl (by rw [Nat.mul_one, List.getElem?_map, hb]; rfl))) ?_)
    refine gP ?_
    refine RW.q rfl (q_call (args := #[pB b]) oK rfl rfl (fun w1 hw1 => depth_c _ w1 ts[i] b F1 hdt (Nat.le_refl _) (Ru.TrF.mono hw1.phi hb1))) ?_
    refine gP ?_
    refine AW.cond rfl (fun h2 => ?_) fun h2 => ?_
    ·
     have h2 : 40 < Ru.dep ts[i] := by have := odT h2; omega
     refine gP ?_
     refine RW.q (v := iV ts[i].At) rfl (q_load rfl uT3 rfl (Cell.phi (Ru.TrF.at_ hb1))) ?_
     refine gP ?_
     exact fin_res (vs := [iV ts[i].At]) rfl rfl ⟨.tmp rfl, trivial⟩ rfl (fun w' hw => ⟨by unfold Ru.tooDeep; rw [hts, Ru.find_at hit hnone (decide_eq_true h2)]; rfl, hw.below rfl⟩)
    ·
     have h2 : ¬ 40 < Ru.dep ts[i] := by have := odF h2; omega
     refine gP ?_
     exact Post.back (s' := _) (J' := _) (m' := _) (by omega) ⟨i + 1, rfl, rfl, rfl, by omega, fun t ht => by
      rw [Ru.take_snoc hit] at ht
      rcases List.mem_append.1 ht with ht | ht
      ·
       exact hnone t ht
      ·
       rw [List.mem_singleton.1 ht]; exact decide_eq_false h2⟩ ⟨rfl, rfl, rfl, trivial⟩ (fun _ h => h)
   ·
    have h : i = N := by have := odF h; omega
    subst h
    refine gP ?_
    exact fin_res (vs := [iV (-1)]) rfl rfl ⟨.tmp rfl, trivial⟩ rfl (fun w' hw => ⟨by
     unfold Ru.tooDeep
     rw [hts, List.find?_eq_none.2 (fun t ht => by rw [hnone t (by rw [List.take_of_length_le (by omega)]; exact ht)]; simp)]; rfl, hw.below rfl⟩)
end Go.Proofs.YtnfmjfheciihjaaGreatDoor
