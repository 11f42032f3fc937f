/- Lemmas. Conditions: those of each theorem. -/
import Derived.Test.YtjmeeofdffdpnaaGreatDoorMMks
namespace Go.K.Ev
open Go Go.K Go.RowKit
inductive S where
 | c (v : Value)
 | p (o k : Nat)
 | sl (o k q n : Nat)
 | fn (f : FuncId) (fs cs : List (Nat × Nat))
 | mp (o : Nat)
inductive E where
 | one (s : S)
 | ag (l : List S)
inductive V where
 | e (e : E)
 | tu (l : List E)
abbrev En := Nat → Option (Addr × Nat)
def En.le (ρ τ : En) : Prop := ∀ o x, ρ o = some x → τ o = some x
theorem En.le_refl (ρ : En) : En.le ρ ρ := fun _ _ h => h
theorem En.le.trans {ρ τ σ : En} (h : En.le ρ τ) (k : En.le τ σ) : En.le ρ σ := fun o x e => k o x (h o x e)
def dps (ρ : En) : List (Nat × Nat) → Option (List Value)
 | [] => some []
 | a :: l => (ρ a.1).bind fun x => (dps ρ l).map fun xs => .pointer (some (x.1.add a.2)) :: xs
def dn (ρ : En) : S → Option Value
 | .c v => some v
 | .p o k => (ρ o).map fun x => .pointer (some (x.1.add k))
 | .sl o k q n => (ρ o).bind fun x => if q + n ≤ x.2 then some (.slice (some (x.1.add k)) n (x.2 - q)) else none
 | .fn f fs cs => (dps ρ fs).bind fun xs => (dps ρ cs).map fun ys => .func (.func f) xs.toArray ys.toArray
 | .mp o => (ρ o).map fun x => .map (some x.1.block)
def dnL (ρ : En) : List S → Option (List Value)
 | [] => some []
 | s :: l => (dn ρ s).bind fun x => (dnL ρ l).map fun xs => x :: xs
def dnE (ρ : En) : E → Option Value
 | .one s => dn ρ s
 | .ag l => (dnL ρ l).map fun xs => .agg xs.toArray
def dnEs (ρ : En) : List E → Option (List Value)
 | [] => some []
 | s :: l => (dnE ρ s).bind fun x => (dnEs ρ l).map fun xs => x :: xs
def dnV (ρ : En) : V → Option Value
 | .e e => dnE ρ e
 | .tu l => (dnEs ρ l).map fun xs => .tuple xs.toArray
def dnVs (ρ : En) : List V → Option (List Value)
 | [] => some []
 | s :: l => (dnV ρ s).bind fun x => (dnVs ρ l).map fun xs => x :: xs
abbrev Fm := List (Nat × V)
def dnF (ρ : En) : Fm → Option (List (Nat × Value))
 | [] => some []
 | a :: l => (dnV ρ a.2).bind fun x => (dnF ρ l).map fun xs => (a.1, x) :: xs
section
variable {ρ τ : En}
theorem dps_mono (h : En.le ρ τ) : ∀ {l : List (Nat × Nat)} {xs}, dps ρ l = some xs → dps τ l = some xs
 | [], _, e => e
 | a :: l, xs, e => by
  simp only [dps, bI, mI] at e ⊢
  obtain ⟨x, h1, ys, h2, h3⟩ := e
  exact ⟨x, h _ _ h1, ys, dps_mono h h2, h3⟩
theorem dn_mono (h : En.le ρ τ) {s : S} {x : Value} (e : dn ρ s = some x) : dn τ s = some x := by
 cases s with
 | c v => exact e
 | p o k =>
  simp only [dn, mI] at e ⊢
  obtain ⟨x, h1, h2⟩ := e; exact ⟨x, h _ _ h1, h2⟩
 | sl o k q n =>
  simp only [dn, bI] at e ⊢
  obtain ⟨x, h1, h2⟩ := e; exact ⟨x, h _ _ h1, h2⟩
 | fn f fs cs =>
  simp only [dn, bI, mI] at e ⊢
  obtain ⟨x, h1, y, h2, h3⟩ := e
  exact ⟨x, dps_mono h h1, y, dps_mono h h2, h3⟩
 | mp o =>
  simp only [dn, mI] at e ⊢
  obtain ⟨x, h1, h2⟩ := e; exact ⟨x, h _ _ h1, h2⟩
theorem dnL_mono (h : En.le ρ τ) : ∀ {l : List S} {xs}, dnL ρ l = some xs → dnL τ l = some xs
 | [], _, e => e
 | a :: l, xs, e => by
  simp only [dnL, bI, mI] at e ⊢
  obtain ⟨x, h1, ys, h2, h3⟩ := e
  exact ⟨x, dn_mono h h1, ys, dnL_mono h h2, h3⟩
theorem dnE_mono (h : En.le ρ τ) {s : E} {x : Value} (e : dnE ρ s = some x) : dnE τ s = some x := by
 cases s with
 | one s => exact dn_mono h e
 | ag l =>
  simp only [dnE, mI] at e ⊢
  obtain ⟨x, h1, h2⟩ := e; exact ⟨x, dnL_mono h h1, h2⟩
theorem dnEs_mono (h : En.le ρ τ) : ∀ {l : List E} {xs}, dnEs ρ l = some xs → dnEs τ l = some xs
 | [], _, e => e
 | a :: l, xs, e => by
  simp only [dnEs, bI, mI] at e ⊢
  obtain ⟨x, h1, ys, h2, h3⟩ := e
  exact ⟨x, dnE_mono h h1, ys, dnEs_mono h h2, h3⟩
theorem dnV_mono (h : En.le ρ τ) {s : V} {x : Value} (e : dnV ρ s = some x) : dnV τ s = some x := by
 cases s with
 | e s => exact dnE_mono h e
 | tu l =>
  simp only [dnV, mI] at e ⊢
  obtain ⟨x, h1, h2⟩ := e; exact ⟨x, dnEs_mono h h1, h2⟩
theorem dnF_mono (h : En.le ρ τ) : ∀ {l : Fm} {xs}, dnF ρ l = some xs → dnF τ l = some xs
 | [], _, e => e
 | a :: l, xs, e => by
  simp only [dnF, bI, mI] at e ⊢
  obtain ⟨x, h1, ys, h2, h3⟩ := e
  exact ⟨x, dnV_mono h h1, ys, dnF_mono h h2, h3⟩
theorem dnL_len : ∀ {l : List S} {xs}, dnL ρ l = some xs → xs.length = l.length
 | [], _, e => by cases e; rfl
 | a :: l, xs, e => by
  simp only [dnL, bI, mI] at e
  obtain ⟨x, h1, ys, h2, rfl⟩ := e
  simp [dnL_len h2]
theorem dnL_get : ∀ {l : List S} {xs} {i : Nat} {s : S}, dnL ρ l = some xs → l[i]? = some s → ∃ x, dn ρ s = some x ∧ xs[i]? = some x
 | a :: l, xs, 0, s, e, hs => by
  simp only [dnL, bI, mI] at e
  obtain ⟨x, h1, ys, h2, rfl⟩ := e
  obtain rfl : a = s := by simpa using hs
  exact ⟨x, h1, rfl⟩
 | a :: l, xs, i + 1, s, e, hs => by
  simp only [dnL, bI, mI] at e
  obtain ⟨x, h1, ys, h2, rfl⟩ := e
  exact dnL_get (l := l) (i := i) h2 (by simpa using hs)
theorem dnL_app : ∀ {l r : List S} {xs ys}, dnL ρ l = some xs → dnL ρ r = some ys → dnL ρ (l ++ r) = some (xs ++ ys)
 | [], r, xs, ys, e, h => by cases e; simpa using h
 | a :: l, r, xs, ys, e, h => by
  simp only [dnL, bI, mI] at e
  obtain ⟨x, h1, zs, h2, rfl⟩ := e
  simp [dnL, h1, dnL_app h2 h]
theorem dnL_take : ∀ {l : List S} {xs} (n : Nat), dnL ρ l = some xs → dnL ρ (l.take n) = some (xs.take n)
 | l, xs, 0, e => by simp [dnL]
 | [], xs, n + 1, e => by cases e; rfl
 | a :: l, xs, n + 1, e => by
  simp only [dnL, bI, mI] at e
  obtain ⟨x, h1, zs, h2, rfl⟩ := e
  simp [dnL, h1, dnL_take n h2]
theorem dnL_drop : ∀ {l : List S} {xs} (n : Nat), dnL ρ l = some xs → dnL ρ (l.drop n) = some (xs.drop n)
 | l, xs, 0, e => by simpa using e
 | [], xs, n + 1, e => by cases e; rfl
 | a :: l, xs, n + 1, e => by
  simp only [dnL, bI, mI] at e
  obtain ⟨x, h1, zs, h2, rfl⟩ := e
  simpa using dnL_drop n h2
theorem dnL_cs : ∀ (l : List Value), dnL ρ (l.map .c) = some l
 | [] => rfl
 | a :: l => by simp [dnL, dn, dnL_cs l]
def lkF : Fm → Nat → Option V
 | [], _ => none
 | (d, v) :: l, t => bif Nat.beq t d then some v else lkF l t
theorem lkF_fr {f : Nat → Value} : ∀ {σ : Fm} {s : List (Nat × Value)} {t : Nat} {v : V}, dnF ρ σ = some s → lkF σ t = some v → ∃ x, dnV ρ v = some x ∧ fr f s t = x
 | (d, u) :: l, s, t, v, e, h => by
  simp only [dnF, bI, mI] at e
  obtain ⟨x, h1, ys, h2, rfl⟩ := e
  unfold lkF at h
  simp only [fr]
  cases hb : Nat.beq t d with
  | true => rw [hb] at h; simp only [cond_true, Option.some.injEq] at h; subst h; exact ⟨x, h1, rfl⟩
  | false => rw [hb] at h; simp only [cond_false] at h ⊢; exact lkF_fr h2 h
def prune : Fm → List Nat → Fm
 | [], _ => []
 | (d, v) :: l, seen => bif seen.any (Nat.beq d) then prune l seen else (d, v) :: prune l (d :: seen)
theorem prune_ok {f : Nat → Value} {N : List (Nat × Value)} : ∀ {σ : Fm} {s : List (Nat × Value)} (seen : List Nat), dnF ρ σ = some s → (∀ t, seen.any (Nat.beq t) = false → fr f N t = fr f s t) → ∃ s', dnF ρ (prune σ seen) = some s' ∧ AllIn (fr f N) s'
 | [], s, seen, e, h => ⟨[], rfl, trivial⟩
 | (d, v) :: l, s, seen, e, h => by
  simp only [dnF, bI, mI] at e
  obtain ⟨x, h1, ys, h2, rfl⟩ := e
  unfold prune
  cases hb : seen.any (Nat.beq d) with
  | true =>
   simp only [cond_true]
   exact prune_ok seen h2 fun t ht => by
    rw [h t ht]; simp only [fr]
    cases hc : Nat.beq t d with
    | false => rfl
    | true => rw [nB hc, hb] at ht; cases ht
  | false =>
   simp only [cond_false]
   obtain ⟨s', h3, h4⟩ := prune_ok (d :: seen) h2 fun t ht => by
    simp only [List.any_cons, Bool.or_eq_false_iff] at ht
    rw [h t ht.2]; simp only [fr, ht.1, cond_false]
   refine ⟨(d, x) :: s', by simp [dnF, h1, h3], ?_, h4⟩
   rw [h d hb]; simp [fr]
end
/-! ## memory -/
inductive O where
 | blk (T : TypeId) (cs : List S)
 | row (T sz n : Nat) (cs : List S)
 | kn (cs : List S)
 | ms (es : List (List UInt8 × S))
 | mi (es : List (Int × S))
inductive T where
 | nil
 | node (o : Option O) (l r : T)
def T.get : T → Nat → Option O
 | .nil, _ => none
 | .node o l r, n => bif Nat.beq n 0 then o else bif Nat.beq (n % 2) 1 then l.get (n / 2) else r.get (n / 2 - 1)
def T.upd (x : O) : T → Nat → Option T
 | .nil, _ => none
 | .node o l r, n => bif Nat.beq n 0 then (match o with | some _ => some (.node (some x) l r) | none => none)
  else bif Nat.beq (n % 2) 1 then (l.upd x (n / 2)).map fun l => .node o l r else (r.upd x (n / 2 - 1)).map fun r => .node o l r
def T.ins (x : O) : Nat → T → Nat → Option T
 | 0, _, _ => none
 | f + 1, .nil, n => bif Nat.beq n 0 then some (.node (some x) .nil .nil) else bif Nat.beq (n % 2) 1 then (T.ins x f .nil (n / 2)).map fun l => .node none l .nil else (T.ins x f .nil (n / 2 - 1)).map fun r => .node none .nil r
 | f + 1, .node o l r, n => bif Nat.beq n 0 then (match o with | some _ => none | none => some (.node (some x) l r))
  else bif Nat.beq (n % 2) 1 then (T.ins x f l (n / 2)).map fun l => .node o l r else (T.ins x f r (n / 2 - 1)).map fun r => .node o l r
def T.del : T → Nat → Option T
 | .nil, _ => none
 | .node o l r, n => bif Nat.beq n 0 then (match o with | some _ => some (.node none l r) | none => none)
  else bif Nat.beq (n % 2) 1 then (l.del (n / 2)).map fun l => .node o l r else (r.del (n / 2 - 1)).map fun r => .node o l r
def oL (k : Nat) : Option O → List (Nat × O)
 | some x => [(k, x)]
 | none => []
def T.toL : T → (Nat → Nat) → List (Nat × O)
 | .nil, _ => []
 | .node o l r, g => oL (g 0) o ++ (l.toL (fun k => g (2 * k + 1)) ++ r.toL (fun k => g (2 * k + 2)))
theorem odd_eq {n : Nat} (_ : Nat.beq n 0 = false) (h : Nat.beq (n % 2) 1 = true) : 2 * (n / 2) + 1 = n := by have := nB h; omega
theorem even_eq {n : Nat} (h0 : Nat.beq n 0 = false) (h : Nat.beq (n % 2) 1 = false) : 2 * (n / 2 - 1) + 2 = n := by
 have h1 : n ≠ 0 := fun e => by rw [e] at h0; cases h0
 have h2 : n % 2 ≠ 1 := fun e => by rw [e] at h; cases h
 omega
theorem T.get_L : ∀ {t : T} {n : Nat} {x : O} (g : Nat → Nat), t.get n = some x → ∃ L1 L2, t.toL g = L1 ++ (g n, x) :: L2
 | .node o l r, n, x, g, h => by
  unfold T.get at h
  cases h0 : Nat.beq n 0 with
  | true =>
   rw [h0] at h
   simp only [cond_true] at h
   subst h
   rw [nB h0]
   exact ⟨[], _, rfl⟩
  | false =>
   rw [h0] at h
   simp only [cond_false] at h
   cases h1 : Nat.beq (n % 2) 1 with
   | true =>
    rw [h1] at h
    obtain ⟨L1, L2, e⟩ := T.get_L (fun k => g (2 * k + 1)) h
    rw [show g (2 * (n / 2) + 1) = g n by rw [odd_eq h0 h1]] at e
    exact ⟨oL (g 0) o ++ L1, L2 ++ r.toL (fun k => g (2 * k + 2)), by rw [T.toL, e]; simp⟩
   | false =>
    rw [h1] at h
    obtain ⟨L1, L2, e⟩ := T.get_L (fun k => g (2 * k + 2)) h
    rw [show g (2 * (n / 2 - 1) + 2) = g n by rw [even_eq h0 h1]] at e
    exact ⟨oL (g 0) o ++ (l.toL (fun k => g (2 * k + 1)) ++ L1), L2, by rw [T.toL, e]; simp⟩
theorem T.upd_L {y : O} : ∀ {t t' : T} {n : Nat} (g : Nat → Nat), t.upd y n = some t' → ∃ x L1 L2, t.get n = some x ∧ t.toL g = L1 ++ (g n, x) :: L2 ∧ t'.toL g = L1 ++ (g n, y) :: L2
 | .node o l r, t', n, g, h => by
  unfold T.upd at h
  unfold T.get
  cases h0 : Nat.beq n 0 with
  | true =>
   rw [h0] at h
   simp only [cond_true] at h ⊢
   cases o with
   | none => cases h
   | some x =>
    obtain rfl := sJ h
    rw [nB h0]
    exact ⟨x, [], _, rfl, rfl, rfl⟩
  | false =>
   rw [h0] at h
   simp only [cond_false] at h ⊢
   cases h1 : Nat.beq (n % 2) 1 with
   | true =>
    rw [h1] at h
    obtain ⟨l', h2, rfl⟩ := mS (by simpa using h)
    obtain ⟨x, L1, L2, e0, e, e'⟩ := T.upd_L (fun k => g (2 * k + 1)) h2
    rw [show g (2 * (n / 2) + 1) = g n by rw [odd_eq h0 h1]] at e e'
    exact ⟨x, oL (g 0) o ++ L1, L2 ++ r.toL (fun k => g (2 * k + 2)), e0, by rw [T.toL, e]; simp, by rw [T.toL, e']; simp⟩
   | false =>
    rw [h1] at h
    obtain ⟨l', h2, rfl⟩ := mS (by simpa using h)
    obtain ⟨x, L1, L2, e0, e, e'⟩ := T.upd_L (fun k => g (2 * k + 2)) h2
    rw [show g (2 * (n / 2 - 1) + 2) = g n by rw [even_eq h0 h1]] at e e'
    exact ⟨x, oL (g 0) o ++ (l.toL (fun k => g (2 * k + 1)) ++ L1), L2, e0, by rw [T.toL, e]; simp, by rw [T.toL, e']; simp⟩
theorem T.ins_L {y : O} : ∀ {f : Nat} {t t' : T} {n : Nat} (g : Nat → Nat), T.ins y f t n = some t' → ∃ L1 L2, t.toL g = L1 ++ L2 ∧ t'.toL g = L1 ++ (g n, y) :: L2
 | f + 1, t, t', n, g, h => by
  have key : ∀ (o : Option O) (l r : T), t.toL g = oL (g 0) o ++ (l.toL (fun k => g (2 * k + 1)) ++ r.toL (fun k => g (2 * k + 2))) → (bif Nat.beq n 0 then (match o with | some _ => none | none => some (T.node (some y) l r))
    else bif Nat.beq (n % 2) 1 then (T.ins y f l (n / 2)).map fun l => .node o l r else (T.ins y f r (n / 2 - 1)).map fun r => .node o l r) = some t' → ∃ L1 L2, t.toL g = L1 ++ L2 ∧ t'.toL g = L1 ++ (g n, y) :: L2 := fun o l r ht h => by
   cases h0 : Nat.beq n 0 with
   | true =>
    rw [h0] at h
    simp only [cond_true] at h
    cases o with
    | some _ => cases h
    | none =>
     obtain rfl := sJ h
     rw [nB h0]
     exact ⟨[], _, by rw [ht]; rfl, rfl⟩
   | false =>
    rw [h0] at h
    simp only [cond_false] at h
    cases h1 : Nat.beq (n % 2) 1 with
    | true =>
     rw [h1] at h
     obtain ⟨l', h2, rfl⟩ := mS (by simpa using h)
     obtain ⟨L1, L2, e, e'⟩ := T.ins_L (fun k => g (2 * k + 1)) h2
     rw [show g (2 * (n / 2) + 1) = g n by rw [odd_eq h0 h1]] at e'
     exact ⟨oL (g 0) o ++ L1, L2 ++ r.toL (fun k => g (2 * k + 2)), by rw [ht, e]; simp, by rw [T.toL, e']; simp⟩
    | false =>
     rw [h1] at h
     obtain ⟨l', h2, rfl⟩ := mS (by simpa using h)
     obtain ⟨L1, L2, e, e'⟩ := T.ins_L (fun k => g (2 * k + 2)) h2
     rw [show g (2 * (n / 2 - 1) + 2) = g n by rw [even_eq h0 h1]] at e'
     exact ⟨oL (g 0) o ++ (l.toL (fun k => g (2 * k + 1)) ++ L1), L2, by rw [ht, e]; simp, by rw [T.toL, e']; simp⟩
  cases t with
  | nil => exact key none .nil .nil rfl h
  | node o l r => exact key o l r rfl h
theorem T.del_L : ∀ {t t' : T} {n : Nat} (g : Nat → Nat), t.del n = some t' → ∃ x L1 L2, t.get n = some x ∧ t.toL g = L1 ++ (g n, x) :: L2 ∧ t'.toL g = L1 ++ L2
 | .node o l r, t', n, g, h => by
  unfold T.del at h
  unfold T.get
  cases h0 : Nat.beq n 0 with
  | true =>
   rw [h0] at h
   simp only [cond_true] at h ⊢
   cases o with
   | none => cases h
   | some x =>
    obtain rfl := sJ h
    rw [nB h0]
    exact ⟨x, [], _, rfl, rfl, rfl⟩
  | false =>
   rw [h0] at h
   simp only [cond_false] at h ⊢
   cases h1 : Nat.beq (n % 2) 1 with
   | true =>
    rw [h1] at h
    obtain ⟨l', h2, rfl⟩ := mS (by simpa using h)
    obtain ⟨x, L1, L2, e0, e, e'⟩ := T.del_L (fun k => g (2 * k + 1)) h2
    rw [show g (2 * (n / 2) + 1) = g n by rw [odd_eq h0 h1]] at e
    exact ⟨x, oL (g 0) o ++ L1, L2 ++ r.toL (fun k => g (2 * k + 2)), e0, by rw [T.toL, e]; simp, by rw [T.toL, e']; simp⟩
   | false =>
    rw [h1] at h
    obtain ⟨l', h2, rfl⟩ := mS (by simpa using h)
    obtain ⟨x, L1, L2, e0, e, e'⟩ := T.del_L (fun k => g (2 * k + 2)) h2
    rw [show g (2 * (n / 2 - 1) + 2) = g n by rw [even_eq h0 h1]] at e
    exact ⟨x, oL (g 0) o ++ (l.toL (fun k => g (2 * k + 1)) ++ L1), L2, e0, by rw [T.toL, e]; simp, by rw [T.toL, e']; simp⟩
/-! ### the chunks of a memory -/
def mpS (ρ : En) : List (List UInt8 × S) → Option (List (List UInt8 × Value))
 | [] => some []
 | a :: l => (dn ρ a.2).bind fun x => (mpS ρ l).map fun xs => (a.1, x) :: xs
def mpI (ρ : En) : List (Int × S) → Option (List (Int × Value))
 | [] => some []
 | a :: l => (dn ρ a.2).bind fun x => (mpI ρ l).map fun xs => (a.1, x) :: xs
def asM {κ : Type} [DecidableEq κ] : List (κ × Value) → κ → Option Value
 | [], _ => none
 | a :: l, k => if k = a.1 then some a.2 else asM l k
theorem mpS_mono {ρ τ : En} (h : En.le ρ τ) : ∀ {l : List (List UInt8 × S)} {xs}, mpS ρ l = some xs → mpS τ l = some xs
 | [], _, e => e
 | a :: l, xs, e => by
  simp only [mpS, bI, mI] at e ⊢
  obtain ⟨x, h1, ys, h2, h3⟩ := e
  exact ⟨x, dn_mono h h1, ys, mpS_mono h h2, h3⟩
theorem mpI_mono {ρ τ : En} (h : En.le ρ τ) : ∀ {l : List (Int × S)} {xs}, mpI ρ l = some xs → mpI τ l = some xs
 | [], _, e => e
 | a :: l, xs, e => by
  simp only [mpI, bI, mI] at e ⊢
  obtain ⟨x, h1, ys, h2, h3⟩ := e
  exact ⟨x, dn_mono h h1, ys, mpI_mono h h2, h3⟩
structure Mc where
 s : Nat → (List UInt8 → Option Value) → Chunk
 i : Nat → (Int → Option Value) → Chunk
def base (ρ : En) (o : Nat) : Option (Nat × Nat) := match ρ o with
 | some (⟨b, 0, none⟩, c) => some (b, c)
 | _ => none
theorem base_iff {ρ : En} {o b c : Nat} : base ρ o = some (b, c) ↔ ρ o = some (⟨b, 0, none⟩, c) := by
 unfold base
 split
 ·
  rename_i b' c' h; rw [h]; simp
 ·
  rename_i h; simp; intro e; exact h _ _ e
theorem base_mono {ρ τ : En} (h : En.le ρ τ) {o : Nat} {x} (e : base ρ o = some x) : base τ o = some x := by
 obtain ⟨b, c⟩ := x
 exact base_iff.2 (h _ _ (base_iff.1 e))
section
variable (mc : Mc)
def ckO (ρ : En) (o : Nat) : O → Option (List Chunk)
 | .blk T cs => (base ρ o).bind fun a => (dnL ρ cs).map fun xs => [.blk a.1 T xs]
 | .row T sz n cs => (base ρ o).bind fun a => (dnL ρ cs).map fun xs => [.row (.slice (some ⟨a.1, 0, none⟩) n a.2) T sz n xs]
 | .kn _ => some []
 | .ms es => (base ρ o).bind fun a => (mpS ρ es).map fun xs => [mc.s a.1 (asM xs)]
 | .mi es => (base ρ o).bind fun a => (mpI ρ es).map fun xs => [mc.i a.1 (asM xs)]
def ckL (ρ : En) : List (Nat × O) → Option (List Chunk)
 | [] => some []
 | a :: l => (ckO mc ρ a.1 a.2).bind fun c => (ckL ρ l).map fun cs => c ++ cs
variable {mc}
theorem ckO_mono {ρ τ : En} (h : En.le ρ τ) {o : Nat} {x : O} {c : List Chunk} (e : ckO mc ρ o x = some c) : ckO mc τ o x = some c := by
 cases x with
 | kn cs => exact e
 | blk T cs =>
  simp only [ckO, bI, mI] at e ⊢
  obtain ⟨x, h1, ys, h2, h3⟩ := e
  exact ⟨x, base_mono h h1, ys, dnL_mono h h2, h3⟩
 | row T sz n cs =>
  simp only [ckO, bI, mI] at e ⊢
  obtain ⟨x, h1, ys, h2, h3⟩ := e
  exact ⟨x, base_mono h h1, ys, dnL_mono h h2, h3⟩
 | ms es =>
  simp only [ckO, bI, mI] at e ⊢
  obtain ⟨x, h1, ys, h2, h3⟩ := e
  exact ⟨x, base_mono h h1, ys, mpS_mono h h2, h3⟩
 | mi es =>
  simp only [ckO, bI, mI] at e ⊢
  obtain ⟨x, h1, ys, h2, h3⟩ := e
  exact ⟨x, base_mono h h1, ys, mpI_mono h h2, h3⟩
theorem ckL_mono {ρ τ : En} (h : En.le ρ τ) : ∀ {l : List (Nat × O)} {C}, ckL mc ρ l = some C → ckL mc τ l = some C
 | [], _, e => e
 | a :: l, C, e => by
  simp only [ckL, bI, mI] at e ⊢
  obtain ⟨x, h1, ys, h2, h3⟩ := e
  exact ⟨x, ckO_mono h h1, ys, ckL_mono h h2, h3⟩
theorem ckL_app {ρ : En} : ∀ {l r : List (Nat × O)} {C}, ckL mc ρ (l ++ r) = some C → ∃ C1 C2, C = C1 ++ C2 ∧ ckL mc ρ l = some C1 ∧ ckL mc ρ r = some C2
 | [], r, C, e => ⟨[], C, rfl, rfl, e⟩
 | a :: l, r, C, e => by
  simp only [List.cons_append, ckL, bI, mI] at e
  obtain ⟨x, h1, ys, h2, rfl⟩ := e
  obtain ⟨C1, C2, rfl, h3, h4⟩ := ckL_app h2
  exact ⟨x ++ C1, C2, by simp, by simp [ckL, h1, h3], h4⟩
theorem ckL_join {ρ : En} : ∀ {l r : List (Nat × O)} {C1 C2}, ckL mc ρ l = some C1 → ckL mc ρ r = some C2 → ckL mc ρ (l ++ r) = some (C1 ++ C2)
 | [], r, C1, C2, e, h => by cases e; simpa using h
 | a :: l, r, C1, C2, e, h => by
  simp only [ckL, bI, mI] at e
  obtain ⟨x, h1, ys, h2, rfl⟩ := e
  simp [ckL, h1, ckL_join h2 h]
theorem ckL_cut {ρ : En} {L1 L2 : List (Nat × O)} {o : Nat} {x : O} {C} (e : ckL mc ρ (L1 ++ (o, x) :: L2) = some C) : ∃ C1 c C2, C = C1 ++ (c ++ C2) ∧ ckL mc ρ L1 = some C1 ∧ ckO mc ρ o x = some c ∧ ckL mc ρ L2 = some C2 := by
 obtain ⟨C1, C3, rfl, h1, h2⟩ := ckL_app e
 simp only [ckL, bI, mI] at h2
 obtain ⟨c, h3, C2, h4, rfl⟩ := h2
 exact ⟨C1, c, C2, rfl, h1, h3, h4⟩
theorem ckL_put {ρ : En} {L1 L2 : List (Nat × O)} {o : Nat} {x : O} {C1 C2 c : List Chunk} (h1 : ckL mc ρ L1 = some C1) (h2 : ckO mc ρ o x = some c) (h3 : ckL mc ρ L2 = some C2) : ckL mc ρ (L1 ++ (o, x) :: L2) = some (C1 ++ (c ++ C2)) :=
 ckL_join h1 (by simp [ckL, h2, h3])
variable (mc)
abbrev T.l (H : T) : List (Nat × O) := H.toL id
structure CR (ρ : En) (Φ : Hp) (H : T) (C : List Chunk) : Prop where
 ck : ckL mc ρ H.l = some C
 kn : ∀ o cs, (o, O.kn cs) ∈ H.l → ∃ a cap xs, ρ o = some (a, cap) ∧ dnL ρ cs = some xs ∧ ∀ k x, xs[k]? = some x → ∀ w, Hp.le Φ (hp w) → w.cell? (a.add k) = some x
variable {mc}
theorem CR.mono {ρ τ : En} {Φ Ψ : Hp} {H : T} {C : List Chunk} (h : CR mc ρ Φ H C) (hr : En.le ρ τ) (hl : Hp.le Φ Ψ) : CR mc τ Ψ H C :=
 ⟨ckL_mono hr h.ck, fun o cs hm => let ⟨a, cap, xs, h1, h2, h3⟩ := h.kn o cs hm; ⟨a, cap, xs, hr _ _ h1, dnL_mono hr h2, fun k x hx w hw => h3 k x hx w (Hp.le_trans hl hw)⟩⟩
def cellsO : O → Option (List S)
 | .blk _ cs | .row _ _ _ cs | .kn cs => some cs
 | _ => none
def cellsAt (H : T) (o : Nat) : Option (List S) := (H.get o).bind cellsO
theorem add_base {b k : Nat} : (⟨b, 0, none⟩ : Addr).add k = ⟨b, k, none⟩ := by simp only [Addr.add]; split <;> simp_all
theorem get_mid {α : Type} {l r : List α} {c : α} : (l ++ ([c] ++ r))[l.length]? = some c := by simp
theorem cells_ok {ρ : En} {Φ : Hp} {B : Bs} {H : T} {C : List Chunk} {o : Nat} {cs : List S} (h : CR mc ρ Φ H C) (hc : cellsAt H o = some cs) :
  ∃ a cap xs, ρ o = some (a, cap) ∧ dnL ρ cs = some xs ∧ ∀ k x, xs[k]? = some x → Cell (St B Φ C) (a.add k) x := by
 obtain ⟨x, h1, h2⟩ := bS hc
 obtain ⟨L1, L2, e⟩ := T.get_L id h1
 have hk := h.ck
 rw [T.l, e] at hk
 obtain ⟨C1, c, C2, rfl, h4, h5, h6⟩ := ckL_cut hk
 simp only [id] at h5
 cases x with
 | blk T cs' =>
  obtain rfl := sJ h2
  simp only [ckO, bI, mI] at h5
  obtain ⟨⟨b, cap⟩, h7, xs, h8, rfl⟩ := h5
  refine ⟨_, cap, xs, base_iff.1 h7, h8, fun k x hx => ?_⟩
  rw [add_base]
  exact Cell.blk C1.length get_mid hx
 | row T sz n cs' =>
  obtain rfl := sJ h2
  simp only [ckO, bI, mI] at h5
  obtain ⟨⟨b, cap⟩, h7, xs, h8, rfl⟩ := h5
  exact ⟨_, cap, xs, base_iff.1 h7, h8, fun k x hx => Cell.row C1.length get_mid hx⟩
 | kn cs' =>
  obtain rfl := sJ h2
  obtain ⟨a, cap, xs, h7, h8, h9⟩ := h.kn o cs' (by rw [T.l, e]; simp)
  exact ⟨a, cap, xs, h7, h8, fun k x hx w hw => h9 k x hx w hw.phi⟩
 | ms es => cases h2
 | mi es => cases h2
end
end Go.K.Ev
namespace Go.K.Ev
open Go Go.K Go.RowKit
structure Mp (P : Program) where
 ks : TypeId
 ki : TypeId
 LS : KL P ks (List UInt8)
 LI : KL P ki Int
 hS : ∀ l, LS.enc l = .string (bs l)
 gS : ∀ l : List UInt8, l.length ≤ maxLen → LS.good l
 hI : ∀ n, LI.enc n = .int .i64 n
 gI : ∀ n, I64 n → LI.good n
 ex : FuncId → List V → Option V
 hex : ∀ k vs v, ex k vs = some v → ∀ (ρ : En) (xs : List Value), dnVs ρ vs = some xs → ∃ r fn e, dnV ρ v = some r ∧ P.funcs[k]? = some fn ∧ (fn.name == "runtime.NumGoroutine") = false ∧ fn.body.isNone = true ∧ Extern.findNext fn = none ∧ Extern.find fn = some e ∧ ∀ w, (e xs.toArray).run P w = .ok r w
abbrev Mp.mc {P : Program} (M : Mp P) : Mc := ⟨fun b m => .kmap M.LS id b m, fun b m => .kmap M.LI id b m⟩
def constV : Value → Option V
 | .agg cs => some (.e (.ag (cs.toList.map .c)))
 | .tuple _ => none
 | v => some (.e (.one (.c v)))
def evO (gl : Nat → Option Nat) (σ : Fm) : Operand → Option V
 | .tmp t => lkF σ t
 | .const v => constV v
 | .global g => (gl g).map fun o => .e (.one (.p o 0))
 | .func f => some (.e (.one (.fn f [] [])))
def GOK (gl : Nat → Option Nat) (ρ : En) : Prop := ∀ g o, gl g = some o → ∃ c, ρ o = some (⟨g, 0, none⟩, c)
theorem GOK.mono {gl : Nat → Option Nat} {ρ τ : En} (h : GOK gl ρ) (hl : En.le ρ τ) : GOK gl τ := fun g o e => let ⟨c, h1⟩ := h g o e; ⟨c, hl _ _ h1⟩
theorem constV_ok {ρ : En} {v : Value} {u : V} (h : constV v = some u) : dnV ρ u = some v := by
 unfold constV at h
 split at h
 ·
  obtain rfl := sJ h
  simp [dnV, dnE, dnL_cs]
 ·
  cases h
 ·
  obtain rfl := sJ h
  rfl
theorem evO_ok {gl : Nat → Option Nat} {ρ : En} {σ : Fm} {s : List (Nat × Value)} {f : Nat → Value} {x : Operand} {v : V} (hg : GOK gl ρ) (hF : dnF ρ σ = some s) (h : evO gl σ x = some v) : dnV ρ v = some (ev (fr f s) x) := by
 cases x with
 | tmp t =>
  obtain ⟨u, h1, h2⟩ := lkF_fr (f := f) hF h
  rw [h1]; exact congrArg some h2.symm
 | const c => exact constV_ok h
 | global g =>
  obtain ⟨o, h1, rfl⟩ := mS h
  obtain ⟨c, h2⟩ := hg g o h1
  simp only [dnV, dnE, dn, h2, Option.map_some, add_base]; rfl
 | func g =>
  obtain rfl := sJ h
  rfl
/-! ### forms of values -/
def V.int? : V → Option (IntKind × Int)
 | .e (.one (.c (.int k n))) => some (k, n)
 | _ => none
def V.i64? : V → Option Int
 | .e (.one (.c (.int .i64 n))) => some n
 | _ => none
def V.bool? : V → Option Bool
 | .e (.one (.c (.bool b))) => some b
 | _ => none
def V.str? : V → Option (List UInt8)
 | .e (.one (.c (.string b))) => some b.data.toList
 | _ => none
def V.ptr? : V → Option (Nat × Nat)
 | .e (.one (.p o k)) => some (o, k)
 | _ => none
def V.e? : V → Option E
 | .e y => some y
 | _ => none
def V.one? : V → Option S
 | .e (.one s) => some s
 | _ => none
def E.cells : E → List S
 | .one s => [s]
 | .ag l => l
def S.flat : S → Bool
 | .c v => v.oneCell'
 | _ => true
section
variable {ρ : En} {v : V} {x : Value}
theorem V.int_ok {k : IntKind} {n : Int} (h : v.int? = some (k, n)) (e : dnV ρ v = some x) : x = .int k n := by
 unfold V.int? at h; split at h
 ·
  simp only [Option.some.injEq, Prod.mk.injEq] at h; obtain ⟨rfl, rfl⟩ := h; exact (sJ e).symm
 ·
  cases h
theorem V.i64_ok {n : Int} (h : v.i64? = some n) (e : dnV ρ v = some x) : x = .int .i64 n := by
 unfold V.i64? at h; split at h
 ·
  obtain rfl := sJ h; exact (sJ e).symm
 ·
  cases h
theorem V.bool_ok {b : Bool} (h : v.bool? = some b) (e : dnV ρ v = some x) : x = .bool b := by
 unfold V.bool? at h; split at h
 ·
  obtain rfl := sJ h; exact (sJ e).symm
 ·
  cases h
theorem V.str_ok {l : List UInt8} (h : v.str? = some l) (e : dnV ρ v = some x) : x = .string (bs l) := by
 unfold V.str? at h; split at h
 ·
  obtain rfl := sJ h; exact (sJ e).symm
 ·
  cases h
theorem V.ptr_ok {o k : Nat} (h : v.ptr? = some (o, k)) (e : dnV ρ v = some x) : ∃ a c, ρ o = some (a, c) ∧ x = .pointer (some (a.add k)) := by
 unfold V.ptr? at h; split at h
 ·
  simp only [Option.some.injEq, Prod.mk.injEq] at h; obtain ⟨rfl, rfl⟩ := h
  simp only [dnV, dnE, dn, mI] at e
  obtain ⟨⟨a, c⟩, h1, rfl⟩ := e
  exact ⟨a, c, h1, rfl⟩
 ·
  cases h
theorem V.e_ok {e : E} (h : v.e? = some e) (d : dnV ρ v = some x) : dnE ρ e = some x := by
 unfold V.e? at h; split at h
 ·
  obtain rfl := sJ h; exact d
 ·
  cases h
theorem V.one_ok {s : S} (h : v.one? = some s) (d : dnV ρ v = some x) : dn ρ s = some x := by
 unfold V.one? at h; split at h
 ·
  obtain rfl := sJ h; exact d
 ·
  cases h
end
/-! ### the operations -/
def binI (op : BinOp) (k : IntKind) (a b : Int) : Option Value := match op with
 | .eql => some (.bool (decide (a = b)))
 | .neq => some (.bool (!decide (a = b)))
 | .lss => some (.bool (decide (a < b)))
 | .leq => some (.bool (decide (a ≤ b)))
 | .gtr => some (.bool (decide (b < a)))
 | .geq => some (.bool (decide (b ≤ a)))
 | .add => some (.int k (k.wrap (a + b)))
 | .sub => some (.int k (k.wrap (a - b)))
 | .mul => some (.int k (k.wrap (a * b)))
 | .quo => if b = 0 then none else some (.int k (k.wrap (a.tdiv b)))
 | .rem => if b = 0 then none else some (.int k (a.tmod b))
 | _ => none
def shE (op : BinOp) (k : IntKind) (a b : Int) : Option Value := if b < 0 then none else match op with
 | .shl => some (.int k (k.wrap (a * 2 ^ min b.toNat k.bits)))
 | .shr => some (.int k (a.fdiv (2 ^ min b.toNat k.bits)))
 | _ => none
def bitE (op : BinOp) (k : IntKind) (a b : Int) : Option Value := match k, a, b with
 | .u64, .ofNat a, .ofNat b => if a < 18446744073709551616 ∧ b < 18446744073709551616 then (match op with
  | .and => some (.int .u64 ((a &&& b : Nat) : Int))
  | .or => some (.int .u64 ((a ||| b : Nat) : Int))
  | .andNot => some (.int .u64 ((a &&& (18446744073709551615 - b) : Nat) : Int))
  | _ => none) else none
 | .i64, .ofNat a, .ofNat b => if a < 9223372036854775808 ∧ b < 9223372036854775808 then (match op with
  | .and => some (.int .i64 ((a &&& b : Nat) : Int))
  | _ => none) else none
 | _, _, _ => none
def binS (op : BinOp) (a b : List UInt8) : Option Value := match op with
 | .eql => some (.bool (decide (a = b)))
 | .neq => some (.bool (!decide (a = b)))
 | .lss => some (.bool (Op.bytesLess a b))
 | .add => if a.length + b.length ≤ 9223372036854775807 then some (.string (bs (a ++ b))) else none
 | _ => none
def binB (op : BinOp) (a b : Bool) : Option Value := match op with
 | .eql => some (.bool (a == b))
 | .neq => some (.bool (!(a == b)))
 | _ => none
section
variable {P : Program} {J : Cls} {f : Nat → Value} {s : List (Nat × Value)} {dst : Option Nat} {ty : TypeId} {pos : String} {af : Array Edge} {g : Option (Nat × Bool)} {x y : Operand} {t t' : TypeId}
theorem eqGuard_int' {op : BinOp} {k k' : IntKind} {a b : Int} : ∀ w, (eqGuard op t x y (.int k a) (.int k' b)).run P w = .ok () w := fun w => by
 cases op <;> simp [eqGuard]
theorem q_binI {op : BinOp} {k : IntKind} {a b : Int} {v : Value} (hx : ev (fr f s) x = .int k a) (hy : ev (fr f s) y = .int k b) (h : binI op k a b = some v) : Qt P J f s ⟨dst, .binOp op t x y t', ty, pos, af, g⟩ v := by
 have div : ∀ op, (op = .quo ∨ op = .rem) → b ≠ 0 → ∀ w, (execOp (ev (fr f s)) ⟨dst, .binOp op t x y t', ty, pos, af, g⟩).run P w = .ok (.value (.int k (match op with | .quo => k.wrap (a.tdiv b) | _ => a.tmod b))) w := fun op ho hb w => by
  rcases ho with rfl | rfl <;> simp only [execOp, hx, hy, Sem.run_bind, eqGuard_int, Result.andThen_ok, binOp, ne_eq, not_true_eq_false, if_false, Op.intDiv, hb, Sem.run_pure]
 cases op <;> simp only [binI, Option.some.injEq, reduceCtorEq] at h
 case add => subst h; exact q_arith hx hy rfl rfl
 case sub => subst h; exact q_arith hx hy rfl rfl
 case mul => subst h; exact q_arith hx hy rfl rfl
 case quo => split at h <;> cases h; rename_i hb; exact qt_val fun w _ => div .quo (.inl rfl) hb w
 case rem => split at h <;> cases h; rename_i hb; exact qt_val fun w _ => div .rem (.inr rfl) hb w
 case eql => subst h; exact q_eql hx hy
 case neq => subst h; exact q_neq hx hy
 case lss => subst h; exact q_lss hx hy
 case leq => subst h; exact q_leq hx hy
 case gtr => subst h; exact q_gtr hx hy
 case geq => subst h; exact q_geq hx hy
theorem q_shE {op : BinOp} {k k' : IntKind} {a b : Int} {v : Value} (hx : ev (fr f s) x = .int k a) (hy : ev (fr f s) y = .int k' b) (h : shE op k a b = some v) : Qt P J f s ⟨dst, .binOp op t x y t', ty, pos, af, g⟩ v := qt_val fun w _ => by
 unfold shE at h
 split at h
 ·
  cases h
 ·
  rename_i hb
  split at h
  ·
   obtain rfl := sJ h
   simp only [execOp, hx, hy, Sem.run_bind, eqGuard_int', Result.andThen_ok, binOp, Op.shift, hb, if_false, Sem.run_pure]
  ·
   obtain rfl := sJ h
   simp only [execOp, hx, hy, Sem.run_bind, eqGuard_int', Result.andThen_ok, binOp, Op.shift, hb, if_false, Sem.run_pure]
  ·
   cases h
theorem q_bitE {op : BinOp} {k : IntKind} {a b : Int} {v : Value} (hx : ev (fr f s) x = .int k a) (hy : ev (fr f s) y = .int k b) (h : bitE op k a b = some v) : Qt P J f s ⟨dst, .binOp op t x y t', ty, pos, af, g⟩ v := by
 unfold bitE at h
 split at h
 ·
  split at h
  ·
   rename_i hh
   split at h
   ·
    obtain rfl := sJ h; exact q_andU hx hy hh.1 hh.2
   ·
    obtain rfl := sJ h; exact q_orU hx hy hh.1 hh.2
   ·
    obtain rfl := sJ h; exact q_andNotU hx hy hh.1 hh.2
   ·
    cases h
  ·
   cases h
 ·
  split at h
  ·
   rename_i hh
   split at h
   ·
    obtain rfl := sJ h; exact q_andN hx hy hh.1 hh.2
   ·
    cases h
  ·
   cases h
 ·
  cases h
theorem q_binS {op : BinOp} {a b : List UInt8} {v : Value} (hx : ev (fr f s) x = .string (bs a)) (hy : ev (fr f s) y = .string (bs b)) (h : binS op a b = some v) : Qt P J f s ⟨dst, .binOp op t x y t', ty, pos, af, g⟩ v := by
 cases op <;> simp only [binS, Option.some.injEq, reduceCtorEq] at h
 case add => split at h <;> cases h; rename_i hn; exact q_catStr hx hy hn rfl
 case eql => subst h; exact q_eqlStr hx hy
 case neq => subst h; exact q_neqStr hx hy
 case lss => subst h; exact q_lssStr hx hy
theorem q_binB {op : BinOp} {a b : Bool} {v : Value} (hT : P.underlying t = some .bool) (hx : ev (fr f s) x = .bool a) (hy : ev (fr f s) y = .bool b) (h : binB op a b = some v) : Qt P J f s ⟨dst, .binOp op t x y t', ty, pos, af, g⟩ v := by
 cases op <;> simp only [binB, Option.some.injEq, reduceCtorEq] at h
 case eql => subst h; exact q_eqlB hx hy hT
 case neq => subst h; exact q_neqB hx hy hT
end
abbrev V.k (v : Value) : V := .e (.one (.c v))
def TypeDesc.isBool : TypeDesc → Bool
 | .bool => true
 | _ => false
def binE (P : Program) (op : BinOp) (t : TypeId) (x y : V) : Option V :=
 match x.int?, y.int? with
 | some (k, a), some (k', b) => match shE op k a b with
  | some v => some (.k v)
  | none => if k = k' then (match binI op k a b with | some v => some (.k v) | none => (bitE op k a b).map .k) else none
 | _, _ => match x.str?, y.str? with
  | some a, some b => (binS op a b).map .k
  | _, _ => match x.bool?, y.bool? with
   | some a, some b => if ((P.underlying t).map TypeDesc.isBool) = some true then (binB op a b).map .k else none
   | _, _ => none
def V.isNI : V → Bool
 | .e (.one (.c .nilIface)) => true
 | _ => false
def isIfc (P : Program) (t : TypeId) : Bool := match P.underlying t with
 | some (.interface _) => true
 | _ => false
def nilE (P : Program) (op : BinOp) (t : TypeId) (u : V) (y : Operand) : Option V := match y with
 | .const .nilIface => if u.isNI = true ∧ isIfc P t = true then match op with
  | .eql => some (.k (.bool true))
  | .neq => some (.k (.bool false))
  | _ => none else none
 | _ => none
def eqF1 (P : Program) (t : TypeId) : S → S → Option Bool
 | .c (.int k a), .c (.int k' b) => match P.underlying t with
  | some (.int _) => if k = k' then some (a == b) else none
  | _ => none
 | .c (.string a), .c (.string b) => match P.underlying t with
  | some .string => some (a.toList == b.toList)
  | _ => none
 | _, _ => none
def eqFl (P : Program) (l r : List S) : List Field → Option Bool
 | [] => some true
 | fd :: fs => if fd.name ≠ "_" then (l[fd.offset]?).bind fun a => (r[fd.offset]?).bind fun b => (eqF1 P fd.type a b).bind fun t => bif t then eqFl P l r fs else some false else none
def strE (P : Program) (op : BinOp) (t : TypeId) (u u' : V) : Option V := match u, u' with
 | .e (.ag l), .e (.ag r) => if P.stoodInHeld t = false ∧ Program.eqGuardType P P.depth t = false then (match P.underlying t with
  | some (.struct fs) => (eqFl P l r fs.toList).bind fun b => match op with
   | .eql => some (.k (.bool b))
   | .neq => some (.k (.bool (!b)))
   | _ => none
  | _ => none) else none
 | _, _ => none
def unE (op : UnOp) (x : V) : Option V := match op with
 | .not => x.bool?.map fun b => .k (.bool !b)
 | .neg => x.i64?.bind fun n => if -9223372036854775808 ≤ -n ∧ -n ≤ 9223372036854775807 then some (.k (.int .i64 (-n))) else none
 | _ => none
def faE (P : Program) (t : TypeId) (i : Nat) : Option Nat := match P.underlying t with
 | some (.struct fs) => (fs[i]?).bind fun fd => match (P.info? fd.type).map (·.size) with
  | some (_ + 1) => some fd.offset
  | _ => none
 | _ => none
def foE (P : Program) (t : TypeId) (i : Nat) : Option Nat := match P.underlying t with
 | some (.struct fs) => (fs[i]?).bind fun fd => match P.underlying fd.type with
  | some d => bif isAggD d then none else some fd.offset
  | _ => none
 | _ => none
def slE (P : Program) (t : TypeId) : Option Nat := match P.underlying t with
 | some (.slice e) => (P.info? e).map (·.size)
 | _ => none
def arE (P : Program) (t : TypeId) : Option (Nat × Nat) := match P.underlying t with
 | some (.array n e) => (P.info? e).map fun i => (n, i.size)
 | _ => none
def ldT (P : Program) (t : TypeId) : Option (Option Nat) := (P.underlying t).bind fun d => bif isAggD d then (P.info? t).map fun i => some i.size else some none
def ldE (P : Program) (t : TypeId) (cs : List S) (k : Nat) : Option V := (ldT P t).bind fun r => match r with
 | none => (cs[k]?).map fun s => .e (.one s)
 | some n => let l := (cs.drop k).take n; if l.length = n then some (.e (.ag l)) else none
def natE (v : V) : Option Nat := v.i64?.bind fun n => match n with
 | .ofNat m => some m
 | .negSucc _ => none
theorem natE_ok {ρ : En} {v : V} {x : Value} {n : Nat} (h : natE v = some n) (e : dnV ρ v = some x) : x = .int .i64 n := by
 obtain ⟨m, h1, h2⟩ := bS h
 cases m with
 | ofNat m => obtain rfl := sJ h2; exact V.i64_ok h1 e
 | negSucc m => cases h2
def ixE (P : Program) (t : TypeId) (x y : V) : Option V := (natE y).bind fun i => match x with
 | .e (.one (.sl o k _ n)) => (slE P t).bind fun sz => if i < n then some (.e (.one (.p o (k + i * sz)))) else none
 | .e (.one (.p o k)) => (arE P t).bind fun a => if i < a.1 then some (.e (.one (.p o (k + i * a.2)))) else none
 | _ => none
def isStr (P : Program) (t : TypeId) : Bool := match P.underlying t with
 | some .string => true
 | _ => false
def strIx (P : Program) (t : TypeId) (x y : V) : Option V := x.str?.bind fun l => (natE y).bind fun i => if isStr P t ∧ i < l.length then some (.k (.int .u8 (((l.getD i 0).toNat : Nat) : Int))) else none
def arIx (P : Program) (t : TypeId) (x y : V) : Option V := match x with
 | .e (.ag l) => (natE y).bind fun i => match P.underlying t with
  | some (.array n e) => (P.underlying e).bind fun d => (P.info? e).bind fun f => if i < n then
    (bif isAggD d then (if ((l.drop (i * f.size)).take f.size).length = f.size then some (.e (.ag ((l.drop (i * f.size)).take f.size))) else none)
     else if f.size = 1 then (l[i]?).map fun s => .e (.one s) else none) else none
  | _ => none
 | _ => none
def sliceE (P : Program) (t : TypeId) (x : V) (lo hi : Option V) : Option V := match x with
 | .e (.one (.sl o k q n)) => if lo.isNone ∧ hi.isNone then none else (slE P t).bind fun sz => (match lo with | none => some 0 | some y => natE y).bind fun l => (match hi with | none => some n | some y => natE y).bind fun h =>
   if l ≤ h ∧ h ≤ n ∧ (l < h ∨ l = 0) then some (.e (.one (.sl o (k + l * sz) (q + l) (h - l)))) else none
 | .e (.one (.c (.string b))) => if isStr P t = true ∧ ¬ (lo.isNone ∧ hi.isNone) then (match lo with | none => some 0 | some y => natE y).bind fun l => (match hi with | none => some b.data.toList.length | some y => natE y).bind fun h =>
   if l ≤ h ∧ h ≤ b.data.toList.length then some (.k (.string (bs ((b.data.toList.drop l).take (h - l))))) else none else none
 | _ => none
def intT (P : Program) (t : TypeId) : Option IntKind := match P.underlying t with
 | some (.int k) => some k
 | _ => none
def cvtE (P : Program) (t t' : TypeId) (x : V) : Option V := x.int?.bind fun a => (P.underlying t).bind fun _ => (intT P t').bind fun k => some (.k (.int k (k.wrap a.2)))
def evOs (gl : Nat → Option Nat) (σ : Fm) : List Operand → Option (List V)
 | [] => some []
 | x :: l => (evO gl σ x).bind fun v => (evOs gl σ l).map fun vs => v :: vs
def ptrs : List V → Option (List (Nat × Nat))
 | [] => some []
 | v :: l => v.ptr?.bind fun a => (ptrs l).map fun r => a :: r
def putCs (cs : List S) (o : Nat) (l : List S) : Option (List S) := if o + l.length ≤ cs.length then some (cs.take o ++ (l ++ cs.drop (o + l.length))) else none
def fillE (pl : Nat → Option (Nat × Nat)) : List S → List (Nat × E) → Option (List S)
 | cs, [] => some cs
 | cs, (i, e) :: r => (pl i).bind fun a => if e.cells.length = a.2 ∧ e.cells.all S.flat = true then (putCs cs a.1 e.cells).bind fun cs => fillE pl cs r else none
def plc (P : Program) (fs : List Field) : Option (List (Nat × Nat)) := match fs with
 | [] => some []
 | f :: r => (P.info? f.type).bind fun i => (plc P r).map fun l => (f.offset, i.size) :: l
def partsE (gl : Nat → Option Nat) (σ : Fm) : List (Nat × Operand) → Option (List (Nat × E))
 | [] => some []
 | a :: l => (evO gl σ a.2).bind fun v => v.e?.bind fun e => (partsE gl σ l).map fun r => (a.1, e) :: r
def zeroE (P : Program) (t : TypeId) : Option Value := (P.info? t).bind fun i => i.zero
def nthP (l : List (Nat × Nat)) (i : Nat) : Option (Nat × Nat) := l[i]?
def bdE (P : Program) (t : TypeId) (parts : List (Nat × E)) : Option V := (zeroE P t).bind fun z => match P.underlying t with
 | some (.struct fs) => (plc P fs.toList).bind fun ps => (fillE (nthP ps) (z.cells.toList.map .c) parts).map fun cs => .e (.ag cs)
 | some (.array _ e) => (P.info? e).bind fun i => (fillE (fun j => some (j * i.size, i.size)) (z.cells.toList.map .c) parts).map fun cs => .e (.ag cs)
 | _ => none
def lkS : List (List UInt8 × S) → List UInt8 → Option S
 | [], _ => none
 | a :: l, k => if k = a.1 then some a.2 else lkS l k
def lkI : List (Int × S) → Int → Option S
 | [], _ => none
 | a :: l, k => if k = a.1 then some a.2 else lkI l k
def mpT (P : Program) (t : TypeId) : Option (TypeId × Value) := match P.underlying t with
 | some (.map kt et) => (zeroE P et).map fun z => (kt, z)
 | _ => none
def lookE {P : Program} (M : Mp P) (t : TypeId) (H : T) (x y : V) (ok : Bool) : Option V := (mpT P t).bind fun a =>
 let out (r : Option S) : V := bif ok then .tu [.one (r.getD (.c a.2)), .one (.c (.bool r.isSome))] else .e (.one (r.getD (.c a.2)))
 match x with
 | .e (.one (.mp o)) => match H.get o with
  | some (.ms es) => y.str?.bind fun k => if a.1 = M.ks ∧ k.length ≤ maxLen then some (out (lkS es k)) else none
  | some (.mi es) => y.i64?.bind fun k => if a.1 = M.ki ∧ (-9223372036854775808 ≤ k ∧ k ≤ 9223372036854775807) then some (out (lkI es k)) else none
  | _ => none
 | .e (.one (.c (.map none))) => y.str?.bind fun k => if a.1 = M.ks ∧ k.length ≤ maxLen ∧ ok = true then some (out none) else none
 | _ => none
def bltE (P : Program) (b : Builtin) (ts : List TypeId) (vs : List V) : Option V := match b, ts, vs with
 | .len, [t], [v] => match v with
  | .e (.one (.sl _ _ _ n)) => (slE P t).map fun _ => .k (.int .i64 (n : Int))
  | .e (.one (.c (.slice none 0 0))) => (slE P t).map fun _ => .k (.int .i64 ((0 : Nat) : Int))
  | .e (.one (.c (.string s))) => if isStr P t then some (.k (.int .i64 (s.data.toList.length : Int))) else none
  | _ => none
 | .min, _, [a, b] => a.i64?.bind fun a => b.i64?.map fun b => .k (.int .i64 (min a b))
 | .max, _, [a, b] => a.i64?.bind fun a => b.i64?.map fun b => .k (.int .i64 (max a b))
 | _, _, _ => none
def optO (gl : Nat → Option Nat) (σ : Fm) : Option Operand → Option (Option V)
 | none => some none
 | some x => (evO gl σ x).map some
def opQ {P : Program} (M : Mp P) (gl : Nat → Option Nat) (σ : Fm) (H : T) : Op → Option V
 | .move x | .assign x => evO gl σ x
 | .pick c a b => (evO gl σ c).bind fun c => c.bool?.bind fun t => bif t then evO gl σ a else evO gl σ b
 | .binOp op t x y _ => (evO gl σ x).bind fun u => (evO gl σ y).bind fun u' => match binE P op t u u' with
  | some v => some v
  | none => match strE P op t u u' with
   | some v => some v
   | none => nilE P op t u y
 | .unOp op _ x => (evO gl σ x).bind fun x => unE op x
 | .load t a => (evO gl σ a).bind fun a => a.ptr?.bind fun p => (cellsAt H p.1).bind fun cs => ldE P t cs p.2
 | .nilCheck x => (evO gl σ x).bind fun x => x.ptr?.map fun _ => x
 | .fieldAddr t x i => (evO gl σ x).bind fun x => x.ptr?.bind fun p => (faE P t i).map fun o => .e (.one (.p p.1 (p.2 + o)))
 | .field t x i => (evO gl σ x).bind fun x => match x with
  | .e (.ag l) => (foE P t i).bind fun o => (l[o]?).map fun s => .e (.one s)
  | _ => none
 | .indexAddr t x y => (evO gl σ x).bind fun x => (evO gl σ y).bind fun y => ixE P t x y
 | .index t x y => (evO gl σ x).bind fun x => (evO gl σ y).bind fun y => match strIx P t x y with | some v => some v | none => arIx P t x y
 | .slice t x lo hi none => (evO gl σ x).bind fun x => (optO gl σ lo).bind fun lo => (optO gl σ hi).bind fun hi => sliceE P t x lo hi
 | .convert t t' x => (evO gl σ x).bind fun x => cvtE P t t' x
 | .extract x i => (evO gl σ x).bind fun x => match x with
  | .tu l => (l[i]?).map .e
  | _ => none
 | .makeFunc (.func k) first capt => (evOs gl σ first.toList).bind fun a => (ptrs a).bind fun a => (evOs gl σ capt.toList).bind fun b => (ptrs b).map fun b => .e (.one (.fn k a b))
 | .build t parts => (partsE gl σ parts.toList).bind fun ps => bdE P t ps
 | .lookup t x y ok => (evO gl σ x).bind fun x => (evO gl σ y).bind fun y => lookE M t H x y ok
 | .call ⟨.builtin b, xs, ts⟩ => (evOs gl σ xs.toList).bind fun vs => bltE P b ts.toList vs
 | .call ⟨.value (.func k), xs, _⟩ => (evOs gl σ xs.toList).bind fun vs => M.ex k vs
 | _ => none
end Go.K.Ev
namespace Go.K.Ev
open Go Go.K Go.RowKit
section
variable {P : Program} {M : Mp P} {gl : Nat → Option Nat} {ρ : En} {σ : Fm} {s : List (Nat × Value)} {f : Nat → Value} {H : T} {C : List Chunk} {Φ : Hp} {B : Bs} {J : Cls} {dst : Option Nat} {ty : TypeId} {pos : String} {af : Array Edge} {g : Option (Nat × Bool)} {x y z : Operand} {t t' : TypeId} {u u' v : V}
theorem isNI_ok {v : V} {r : Value} (h : v.isNI = true) (e : dnV ρ v = some r) : r = .nilIface := by
 unfold V.isNI at h
 split at h
 ·
  exact (sJ e).symm
 ·
  cases h
theorem run_nilI {ms : Array (String × TypeId)} (hT : P.underlying t = some (.interface ms)) (w : World) : (Op.equal t .nilIface .nilIface).run P w = .ok true w := by
 show (Op.equalIn (9999 + 1) t .nilIface .nilIface).run P w = _
 generalize 9999 = n
 simp [Op.equalIn, run_underlying hT]
theorem nilE_ok {op : BinOp} (hx : dnV ρ u = some (ev (fr f s) x)) (h : nilE P op t u y = some v) : ∃ r, dnV ρ v = some r ∧ Qt P J f s ⟨dst, .binOp op t x y t', ty, pos, af, g⟩ r := by
 unfold nilE at h
 split at h
 rotate_left
 ·
  cases h
 split at h
 rotate_left
 ·
  cases h
 rename_i hh
 have h1 := isNI_ok hh.1 hx
 have h2 : ev (fr f s) (.const .nilIface) = .nilIface := rfl
 have h3 := hh.2
 unfold isIfc at h3
 split at h3
 rotate_left
 ·
  cases h3
 rename_i ms hT
 have he := run_nilI hT
 split at h
 ·
  obtain rfl := sJ h
  exact ⟨.bool true, rfl, qt_val fun w _ => by simp [execOp, h1, h2, eqGuard, binOp, he]⟩
 ·
  obtain rfl := sJ h
  exact ⟨.bool false, rfl, qt_val fun w _ => by simp [execOp, h1, h2, eqGuard, binOp, he]⟩
 ·
  cases h
theorem binE_ok {op : BinOp} (hx : dnV ρ u = some (ev (fr f s) x)) (hy : dnV ρ u' = some (ev (fr f s) y)) (h : binE P op t u u' = some v) : ∃ r, dnV ρ v = some r ∧ Qt P J f s ⟨dst, .binOp op t x y t', ty, pos, af, g⟩ r := by
 unfold binE at h
 split at h
 ·
  rename_i k a k' b h1 h2
  split at h
  ·
   rename_i r h3
   obtain rfl := sJ h
   exact ⟨r, rfl, q_shE (V.int_ok h1 hx) (V.int_ok h2 hy) h3⟩
  ·
   split at h
   ·
    rename_i hk
    subst hk
    split at h
    ·
     rename_i r h3
     obtain rfl := sJ h
     exact ⟨r, rfl, q_binI (V.int_ok h1 hx) (V.int_ok h2 hy) h3⟩
    ·
     obtain ⟨r, h3, rfl⟩ := mS h
     exact ⟨r, rfl, q_bitE (V.int_ok h1 hx) (V.int_ok h2 hy) h3⟩
   ·
    cases h
 ·
  split at h
  ·
   rename_i a b h1 h2
   obtain ⟨r, h3, rfl⟩ := mS h
   exact ⟨r, rfl, q_binS (V.str_ok h1 hx) (V.str_ok h2 hy) h3⟩
  ·
   split at h
   ·
    rename_i a b h1 h2
    split at h
    ·
     rename_i hT
     obtain ⟨d, h4, h5⟩ := mS hT
     obtain ⟨r, h3, rfl⟩ := mS h
     cases d <;> cases h5
     exact ⟨r, rfl, q_binB h4 (V.bool_ok h1 hx) (V.bool_ok h2 hy) h3⟩
    ·
     cases h
   ·
    cases h
theorem eqF1_ok {t : TypeId} {a b : S} {c : Bool} {ρ : En} {x y : Value} (h : eqF1 P t a b = some c) (hx : dn ρ a = some x) (hy : dn ρ b = some y) : (∃ d, P.underlying t = some d ∧ isAggD d = false) ∧ ∀ (n : Nat) w, (Op.equalIn (n + 1) t x y).run P w = .ok c w := by
 unfold eqF1 at h
 split at h
 ·
  split at h
  ·
   rename_i hT
   split at h
   ·
    rename_i hk
    subst hk
    obtain rfl := sJ h
    obtain rfl := sJ hx
    obtain rfl := sJ hy
    exact ⟨⟨_, hT, rfl⟩, fun n w => run_equalIn_int w n t _ _ _ _ hT⟩
   ·
    cases h
  ·
   cases h
 ·
  split at h
  ·
   rename_i hT
   obtain rfl := sJ h
   obtain rfl := sJ hx
   obtain rfl := sJ hy
   exact ⟨⟨_, hT, rfl⟩, fun n w => run_equalIn_string w n t _ _ hT⟩
  ·
   cases h
 ·
  cases h
theorem eqFl_ok {ρ : En} {l r : List S} {xs ys : List Value} (hx : dnL ρ l = some xs) (hy : dnL ρ r = some ys) (n : Nat) (w : World) : ∀ {fs : List Field} {c : Bool}, eqFl P l r fs = some c → (Op.eqFields (n + 1) xs.toArray ys.toArray fs).run P w = .ok c w
 | [], c, h => by obtain rfl := sJ h; rfl
 | fd :: fs, c, h => by
  unfold eqFl at h
  split at h
  rotate_left
  ·
   cases h
  rename_i hn
  obtain ⟨a, h1, h⟩ := bS h
  obtain ⟨b, h2, h⟩ := bS h
  obtain ⟨t, h3, h⟩ := bS h
  obtain ⟨x, g1, g2⟩ := dnL_get hx h1
  obtain ⟨y, g3, g4⟩ := dnL_get hy h2
  obtain ⟨⟨d, g5, g6⟩, g7⟩ := eqF1_ok h3 g1 g3
  unfold Op.eqFields
  rw [if_pos hn]
  simp only [Sem.run_bind, run_part1 g5 g6 (show xs.toArray[fd.offset]? = some x by simpa using g2), run_part1 g5 g6 (show ys.toArray[fd.offset]? = some y by simpa using g4), Result.andThen_ok, g7, Sem.run_ite, Sem.run_pure]
  cases t with
  | true => simp only [cond_true] at h; simpa using eqFl_ok hx hy n w h
  | false => simp only [cond_false, Option.some.injEq] at h; subst h; simp
theorem strE_ok {op : BinOp} (hx : dnV ρ u = some (ev (fr f s) x)) (hy : dnV ρ u' = some (ev (fr f s) y)) (h : strE P op t u u' = some v) : ∃ r, dnV ρ v = some r ∧ Qt P J f s ⟨dst, .binOp op t x y t', ty, pos, af, g⟩ r := by
 unfold strE at h
 split at h
 rotate_left
 ·
  cases h
 split at h
 rotate_left
 ·
  cases h
 rename_i hg
 split at h
 rotate_left
 ·
  cases h
 rename_i fs hT
 obtain ⟨b, h1, h⟩ := bS h
 obtain ⟨xs, h2, h3⟩ := mS (show (dnL ρ _).map _ = some _ from hx)
 obtain ⟨ys, h4, h5⟩ := mS (show (dnL ρ _).map _ = some _ from hy)
 have hf : P.fieldsOf t = fs := by unfold Program.fieldsOf; rw [hT]
 have he : ∀ w, (Op.equal t (.agg xs.toArray) (.agg ys.toArray)).run P w = .ok b w := fun w => by
  show (Op.equalIn (9998 + 1 + 1) t _ _).run P w = _
  rw [run_equalIn_struct w (9998 + 1) t _ _ (by rw [hf]; exact hT) hg.1, hf]
  exact eqFl_ok h2 h4 9998 w h1
 cases op with
 | eql => obtain rfl := sJ h; exact ⟨_, rfl, q_eqlS h3.symm h5.symm he hg.2⟩
 | neq => obtain rfl := sJ h; exact ⟨_, rfl, q_neqS h3.symm h5.symm he hg.2⟩
 | _ => cases h
theorem unE_ok {op : UnOp} (hx : dnV ρ u = some (ev (fr f s) x)) (h : unE op u = some v) : ∃ r, dnV ρ v = some r ∧ Qt P J f s ⟨dst, .unOp op t x, ty, pos, af, g⟩ r := by
 unfold unE at h
 split at h
 ·
  obtain ⟨b, h1, rfl⟩ := mS h
  exact ⟨_, rfl, q_not (V.bool_ok h1 hx)⟩
 ·
  obtain ⟨n, h1, h2⟩ := bS h
  split at h2
  ·
   rename_i hn
   obtain rfl := sJ h2
   exact ⟨_, rfl, q_neg (V.i64_ok h1 hx) rfl hn⟩
  ·
   cases h2
 ·
  cases h
theorem faE_ok {i o : Nat} (h : faE P t i = some o) {p : Addr} (hx : ev (fr f s) x = .pointer (some p)) : Qt P J f s ⟨dst, .fieldAddr t x i, ty, pos, af, g⟩ (.pointer (some (p.add o))) := by
 unfold faE at h
 split at h
 ·
  rename_i fs h1
  obtain ⟨fd, h2, h3⟩ := bS h
  split at h3
  ·
   rename_i n h4
   obtain rfl := sJ h3
   exact q_fieldAddr hx h1 h2 h4 rfl
  ·
   cases h3
 ·
  cases h
theorem foE_ok {i o : Nat} (h : foE P t i = some o) {cs : List Value} {r : Value} (hx : ev (fr f s) x = .agg cs.toArray) (hr : cs[o]? = some r) : Qt P J f s ⟨dst, .field t x i, ty, pos, af, g⟩ r := by
 unfold foE at h
 split at h
 ·
  rename_i fs h1
  obtain ⟨fd, h2, h3⟩ := bS h
  split at h3
  ·
   rename_i d h4
   cases h5 : isAggD d with
   | true => rw [h5] at h3; cases h3
   | false =>
    rw [h5] at h3
    obtain rfl := sJ h3
    exact qt_val fun w _ => by
     have h6 : cs.toArray[fd.offset]? = some r := by simpa using hr
     simp [execOp, hx, Instr.field, run_underlying h1, h2, asAgg, run_part1 h4 h5 h6]
  ·
   cases h3
 ·
  cases h
theorem ldE_ok {cs : List S} {k : Nat} {a : Addr} {xs : List Value} (hx : ev (fr f s) x = .pointer (some (a.add k))) (hd : dnL ρ cs = some xs) (hc : ∀ k v, xs[k]? = some v → Cell J (a.add k) v) (h : ldE P t cs k = some v) : ∃ r, dnV ρ v = some r ∧ Qt P J f s ⟨dst, .load t x, ty, pos, af, g⟩ r := by
 obtain ⟨r, h1, h2⟩ := bS h
 obtain ⟨d, h3, h4⟩ := bS h1
 cases hd2 : isAggD d with
 | false =>
  rw [hd2] at h4
  obtain rfl := sJ h4
  obtain ⟨q, h5, rfl⟩ := mS h2
  obtain ⟨w, h6, h7⟩ := dnL_get hd h5
  exact ⟨w, h6, q_load hx h3 hd2 (hc _ _ h7)⟩
 | true =>
  rw [hd2] at h4
  obtain ⟨i, h5, rfl⟩ := mS h4
  simp only at h2
  split at h2
  ·
   rename_i hl
   obtain rfl := sJ h2
   have h6 := dnL_take i.size (dnL_drop k hd)
   refine ⟨.agg ((xs.drop k).take i.size).toArray, by simp [dnV, dnE, h6], ?_⟩
   refine q_loadAgg hx h3 hd2 (by rw [h5]; rfl) (by rw [dnL_len h6]; exact hl) fun j w hj => ?_
   rw [add_add]
   refine hc _ _ ?_
   rw [List.getElem?_take] at hj
   split at hj
   ·
    rwa [List.getElem?_drop] at hj
   ·
    cases hj
  ·
   cases h2
theorem slE_ok {n : Nat} (h : slE P t = some n) : ∃ e, P.underlying t = some (.slice e) ∧ (P.info? e).map (·.size) = some n := by
 unfold slE at h
 split at h
 ·
  rename_i e h1; exact ⟨e, h1, h⟩
 ·
  cases h
theorem arE_ok {n m : Nat} (h : arE P t = some (n, m)) : ∃ e, P.underlying t = some (.array n e) ∧ (P.info? e).map (·.size) = some m := by
 unfold arE at h
 split at h
 ·
  rename_i n' e h1
  obtain ⟨i, h2, h3⟩ := mS h
  simp only [Prod.mk.injEq] at h3
  obtain ⟨rfl, rfl⟩ := h3
  exact ⟨e, h1, by rw [h2]; rfl⟩
 ·
  cases h
theorem isStr_ok (h : isStr P t = true) : P.underlying t = some .string := by
 unfold isStr at h; split at h
 ·
  assumption
 ·
  cases h
theorem sl_ok {o k q n : Nat} {r : Value} (h : dn ρ (.sl o k q n) = some r) : ∃ a c, ρ o = some (a, c) ∧ q + n ≤ c ∧ r = .slice (some (a.add k)) n (c - q) := by
 simp only [dn, bI] at h
 obtain ⟨⟨a, c⟩, h1, h2⟩ := h
 split at h2
 ·
  rename_i hq; exact ⟨a, c, h1, hq, (sJ h2).symm⟩
 ·
  cases h2
theorem ixE_ok (hx : dnV ρ u = some (ev (fr f s) x)) (hy : dnV ρ u' = some (ev (fr f s) y)) (h : ixE P t u u' = some v) : ∃ r, dnV ρ v = some r ∧ Qt P J f s ⟨dst, .indexAddr t x y, ty, pos, af, g⟩ r := by
 obtain ⟨i, h1, h2⟩ := bS h
 have hi := natE_ok h1 hy
 split at h2
 ·
  rename_i o k q n
  obtain ⟨sz, h3, h4⟩ := bS h2
  split at h4
  ·
   rename_i hlt
   obtain rfl := sJ h4
   obtain ⟨a, c, h5, h6, h7⟩ := sl_ok hx
   obtain ⟨e, h8, h9⟩ := slE_ok h3
   refine ⟨.pointer (some (a.add (k + i * sz))), by simp [dnV, dnE, dn, h5], ?_⟩
   exact q_indexAddr h7 hi ⟨some (a.add k), c - q, rfl, fun _ => rfl, by omega⟩ h8 h9 (by omega) (by omega) (by rw [Int.toNat_natCast]; exact (add_add a k (i * sz)).symm)
  ·
   cases h4
 ·
  rename_i o k
  obtain ⟨⟨n, sz⟩, h3, h4⟩ := bS h2
  split at h4
  ·
   rename_i hlt
   obtain rfl := sJ h4
   simp only [dnV, dnE, dn, mI] at hx
   obtain ⟨⟨a, c⟩, h5, h7⟩ := hx
   obtain ⟨e, h8, h9⟩ := arE_ok h3
   refine ⟨.pointer (some (a.add (k + i * sz))), by simp [dnV, dnE, dn, h5], ?_⟩
   simp only at hlt
   exact q_indexAddrA h7.symm hi h8 h9 (by omega) (by omega) (by rw [Int.toNat_natCast]; exact (add_add a k (i * sz)).symm)
  ·
   cases h4
 ·
  cases h2
theorem strIx_ok (hx : dnV ρ u = some (ev (fr f s) x)) (hy : dnV ρ u' = some (ev (fr f s) y)) (h : strIx P t u u' = some v) : ∃ r, dnV ρ v = some r ∧ Qt P J f s ⟨dst, .index t x y, ty, pos, af, g⟩ r := by
 obtain ⟨l, h1, h2⟩ := bS h
 obtain ⟨i, h3, h4⟩ := bS h2
 split at h4
 ·
  rename_i hh
  obtain rfl := sJ h4
  exact ⟨_, rfl, by have := q_indexS (P := P) (J := J) (dst := dst) (ty := ty) (pos := pos) (af := af) (g := g) (V.str_ok h1 hx) (natE_ok h3 hy) (isStr_ok hh.1) (by omega) (by omega); rwa [Int.toNat_natCast] at this⟩
 ·
  cases h4
theorem arIx_ok (hx : dnV ρ u = some (ev (fr f s) x)) (hy : dnV ρ u' = some (ev (fr f s) y)) (h : arIx P t u u' = some v) : ∃ r, dnV ρ v = some r ∧ Qt P J f s ⟨dst, .index t x y, ty, pos, af, g⟩ r := by
 unfold arIx at h
 split at h
 rotate_left
 ·
  cases h
 rename_i l
 obtain ⟨i, h1, h⟩ := bS h
 have hy := natE_ok h1 hy
 obtain ⟨xs, h2, hx⟩ := mS hx
 split at h
 rotate_left
 ·
  cases h
 rename_i n e h3
 obtain ⟨d, h4, h⟩ := bS h
 obtain ⟨ti, h5, h⟩ := bS h
 split at h
 rotate_left
 ·
  cases h
 rename_i hlt
 cases hd : isAggD d with
 | true =>
  rw [hd] at h
  simp only [cond_true] at h
  split at h
  ·
   rename_i hl
   obtain rfl := sJ h
   have h6 := dnL_take ti.size (dnL_drop (i * ti.size) h2)
   refine ⟨.agg ((xs.drop (i * ti.size)).take ti.size).toArray, by simp [dnV, dnE, h6], ?_⟩
   have h7 := dnL_len h6
   rw [hl] at h7
   exact q_indexArr (i := (i : Int)) hx.symm hy h3 h4 hd (by rw [h5]; rfl) (by omega) (by omega) h7 (fun j v hj => by
    rw [List.getElem?_take] at hj
    split at hj
    ·
     rw [List.getElem?_drop] at hj; simpa using hj
    ·
     cases hj)
  ·
   cases h
 | false =>
  rw [hd] at h
  simp only [cond_false] at h
  split at h
  ·
   rename_i hs1
   obtain ⟨q, h6, rfl⟩ := mS h
   obtain ⟨r, h7, h8⟩ := dnL_get h2 h6
   exact ⟨r, h7, q_indexA1 (i := (i : Int)) hx.symm hy h3 h4 hd (by rw [h5, ← hs1]; rfl) (by omega) (by omega) (by simpa using h8)⟩
  ·
   cases h
theorem lo_ok {lo : Option Operand} {r : Option V} (hg : GOK gl ρ) (hF : dnF ρ σ = some s) (h : optO gl σ lo = some r) : (lo = none ∧ r = none) ∨ ∃ y v, lo = some y ∧ r = some v ∧ dnV ρ v = some (ev (fr f s) y) := by
 cases lo with
 | none => exact .inl ⟨rfl, (sJ h).symm⟩
 | some y =>
  obtain ⟨v, h1, rfl⟩ := mS h
  exact .inr ⟨y, v, rfl, rfl, evO_ok hg hF h1⟩
theorem sub_ok {a : Addr} {k n c l h sz : Nat} (h1 : l ≤ h) (h2 : h ≤ n) (h3 : l < h ∨ l = 0) (h4 : n ≤ c) : subSl (.slice (some (a.add k)) n c) l h sz = .slice (some (a.add (k + l * sz))) (h - l) (c - l) := by
 unfold subSl sliced
 by_cases hc : c = l
 ·
  have : l = 0 := by omega
  subst this
  simp [hc]
 ·
  simp [hc, add_add]
theorem sliceE_ok {lo hi : Option Operand} {r1 r2 : Option V} (hg : GOK gl ρ) (hF : dnF ρ σ = some s) (hx : dnV ρ u = some (ev (fr f s) x)) (h1 : optO gl σ lo = some r1) (h2 : optO gl σ hi = some r2) (h : sliceE P t u r1 r2 = some v) : ∃ r, dnV ρ v = some r ∧ Qt P J f s ⟨dst, .slice t x lo hi none, ty, pos, af, g⟩ r := by
 have h1 := lo_ok (f := f) hg hF h1
 have h2 := lo_ok (f := f) hg hF h2
 unfold sliceE at h
 split at h
 ·
  rename_i o k q n
  split at h
  ·
   cases h
  rename_i hnn
  obtain ⟨sz, h3, h⟩ := bS h
  obtain ⟨l, h4, h⟩ := bS h
  obtain ⟨m, h5, h⟩ := bS h
  split at h
  ·
   rename_i hh
   obtain rfl := sJ h
   obtain ⟨a, c, h6, h7, h8⟩ := sl_ok hx
   obtain ⟨e, h9, h10⟩ := slE_ok h3
   have hs : IsSl (.slice (some (a.add k)) n (c - q)) n := ⟨_, _, rfl, fun _ => rfl, by omega⟩
   refine ⟨.slice (some (a.add (k + l * sz))) (m - l) (c - (q + l)), ?_, ?_⟩
   ·
    simp only [dnV, dnE, dn, h6, Option.bind_some]
    rw [if_pos (by omega)]
   ·
    have key := sub_ok (a := a) (k := k) (sz := sz) hh.1 hh.2.1 hh.2.2 (show n ≤ c - q by omega)
    rw [show c - q - l = c - (q + l) by omega] at key
    rw [← key]
    rcases h1 with ⟨rfl, rfl⟩ | ⟨y, vy, rfl, rfl, hy⟩ <;> rcases h2 with ⟨rfl, rfl⟩ | ⟨z, vz, rfl, rfl, hz⟩
    ·
     exact absurd ⟨rfl, rfl⟩ hnn
    ·
     obtain rfl := sJ h4
     have := q_sliceH (P := P) (J := J) (dst := dst) (ty := ty) (pos := pos) (af := af) (g := g) h8 (natE_ok h5 hz) hs h9 h10 (by omega) (by omega)
     rwa [Int.toNat_natCast] at this
    ·
     obtain rfl := sJ h5
     have := q_sliceL (P := P) (J := J) (dst := dst) (ty := ty) (pos := pos) (af := af) (g := g) h8 (natE_ok h4 hy) hs h9 h10 (by omega) (by omega)
     rwa [Int.toNat_natCast] at this
    ·
     have := q_sliceLH (P := P) (J := J) (dst := dst) (ty := ty) (pos := pos) (af := af) (g := g) h8 (natE_ok h4 hy) (natE_ok h5 hz) hs h9 h10 (by omega) (by omega) (by omega)
     rwa [Int.toNat_natCast, Int.toNat_natCast] at this
  ·
   cases h
 ·
  rename_i b
  split at h
  ·
   rename_i hT
   obtain ⟨hT, hnn⟩ := hT
   have hT := isStr_ok hT
   obtain ⟨l, h4, h⟩ := bS h
   obtain ⟨m, h5, h⟩ := bS h
   split at h
   ·
    rename_i hh
    obtain rfl := sJ h
    have hx : ev (fr f s) x = .string (bs b.data.toList) := (sJ hx).symm
    refine ⟨_, rfl, ?_⟩
    rcases h1 with ⟨rfl, rfl⟩ | ⟨y, vy, rfl, rfl, hy⟩ <;> rcases h2 with ⟨rfl, rfl⟩ | ⟨z, vz, rfl, rfl, hz⟩
    ·
     exact absurd ⟨rfl, rfl⟩ hnn
    ·
     obtain rfl := sJ h4
     have := q_sliceSH (P := P) (J := J) (dst := dst) (ty := ty) (pos := pos) (af := af) (g := g) hx (natE_ok h5 hz) hT (by omega) (by omega)
     rw [Int.toNat_natCast] at this
     simpa using this
    ·
     obtain rfl := sJ h5
     have := q_sliceSLH (P := P) (J := J) (dst := dst) (ty := ty) (pos := pos) (af := af) (g := g) (z := .const (.int .i64 (b.data.toList.length : Int))) hx (natE_ok h4 hy) rfl hT (by omega) (by omega) (by omega)
     have h9 := q_sliceSL (P := P) (J := J) (dst := dst) (ty := ty) (pos := pos) (af := af) (g := g) hx (natE_ok h4 hy) hT (by omega) (by omega)
     rw [Int.toNat_natCast] at h9
     have e : (b.data.toList.drop l).take (b.data.toList.length - l) = b.data.toList.drop l := List.take_of_length_le (by simp)
     rw [e]; exact h9
    ·
     have := q_sliceSLH (P := P) (J := J) (dst := dst) (ty := ty) (pos := pos) (af := af) (g := g) hx (natE_ok h4 hy) (natE_ok h5 hz) hT (by omega) (by omega) (by omega)
     rwa [Int.toNat_natCast, Int.toNat_natCast] at this
   ·
    cases h
  ·
   cases h
 ·
  cases h
theorem cvtE_ok (hx : dnV ρ u = some (ev (fr f s) x)) (h : cvtE P t t' u = some v) : ∃ r, dnV ρ v = some r ∧ Qt P J f s ⟨dst, .convert t t' x, ty, pos, af, g⟩ r := by
 obtain ⟨⟨k0, a⟩, h1, h⟩ := bS h
 obtain ⟨d, h2, h⟩ := bS h
 obtain ⟨k, h3, h⟩ := bS h
 obtain rfl := sJ h
 have hx := V.int_ok h1 hx
 unfold intT at h3
 split at h3
 ·
  rename_i k' h4
  obtain rfl := sJ h3
  refine ⟨_, rfl, qt_val fun w _ => ?_⟩
  simp only [execOp, hx, convert, Sem.run_bind, run_underlying h2, run_underlying h4, Result.andThen_ok, Conv.intToInt, Sem.run_pure]
 ·
  cases h3
theorem evOs_ok (hg : GOK gl ρ) (hF : dnF ρ σ = some s) : ∀ {l : List Operand} {vs : List V}, evOs gl σ l = some vs → dnVs ρ vs = some (l.map (ev (fr f s)))
 | [], vs, h => by obtain rfl := sJ h; rfl
 | x :: l, vs, h => by
  obtain ⟨v, h1, h⟩ := bS h
  obtain ⟨r, h2, rfl⟩ := mS h
  simp [dnVs, evO_ok (f := f) hg hF h1, evOs_ok hg hF h2]
theorem ptrs_ok : ∀ {vs : List V} {l : List (Nat × Nat)} {xs}, ptrs vs = some l → dnVs ρ vs = some xs → dps ρ l = some xs
 | [], l, xs, h, e => by obtain rfl := sJ h; exact e
 | v :: vs, l, xs, h, e => by
  obtain ⟨⟨o, k⟩, h1, h⟩ := bS h
  obtain ⟨r, h2, rfl⟩ := mS h
  simp only [dnVs, bI, mI] at e
  obtain ⟨x, h3, ys, h4, rfl⟩ := e
  obtain ⟨a, c, h5, rfl⟩ := V.ptr_ok h1 h3
  simp [dps, h5, ptrs_ok h2 h4]
/-! ### parts written into cells -/
theorem set_seq {off : Nat} : ∀ (l : List Value) (k : Nat) (A : Array Value), off + k + l.length ≤ A.size →
  ((l.zipIdx k).foldl (fun cs p => cs.setIfInBounds (off + p.2) p.1) A).toList = A.toList.take (off + k) ++ (l ++ A.toList.drop (off + k + l.length))
 | [], k, A, _ => by simp
 | c :: l, k, A, h => by
  simp only [List.length_cons] at h
  rw [List.zipIdx_cons, List.foldl_cons, set_seq l (k + 1) _ (by simp; omega)]
  simp only [Array.toList_setIfInBounds, List.length_cons]
  rw [List.take_set, List.drop_set, show off + (k + 1) = off + k + 1 by omega, List.take_succ_eq_append_getElem (by simp; omega), List.set_append]
  have hl : (List.take (off + k) A.toList).length = off + k := by simp; omega
  rw [hl]
  simp only [Nat.lt_irrefl, if_false, Nat.sub_self, List.set_cons_zero, List.append_assoc, List.cons_append, List.nil_append]
  rw [if_pos (by omega), show off + k + 1 + l.length = off + k + (l.length + 1) by omega]
theorem S.flat_ok {s : S} {x : Value} (h : s.flat = true) (e : dn ρ s = some x) : x.oneCell' = true ∧ x.cells.toList = [x] := by
 cases s with
 | c v =>
  obtain rfl := sJ e
  refine ⟨h, ?_⟩
  cases v <;> first | rfl | cases h
 | p o k =>
  obtain ⟨a, _, rfl⟩ := mS e
  exact ⟨rfl, rfl⟩
 | sl o k q n =>
  obtain ⟨a, c, _, _, rfl⟩ := sl_ok e
  exact ⟨rfl, rfl⟩
 | fn f fs cs =>
  simp only [dn, bI, mI] at e
  obtain ⟨a, _, b, _, rfl⟩ := e
  exact ⟨rfl, rfl⟩
 | mp o =>
  obtain ⟨a, _, rfl⟩ := mS e
  exact ⟨rfl, rfl⟩
theorem flatL_ok : ∀ {l : List S} {xs : List Value}, l.all S.flat = true → dnL ρ l = some xs → xs.all Value.oneCell' = true
 | [], xs, _, e => by obtain rfl := sJ e; rfl
 | a :: l, xs, h, e => by
  simp only [dnL, bI, mI] at e
  obtain ⟨x, h1, ys, h2, rfl⟩ := e
  rw [List.all_cons, Bool.and_eq_true] at h ⊢
  exact ⟨(S.flat_ok h.1 h1).1, flatL_ok h.2 h2⟩
theorem ecells_ok {e : E} {x : Value} (hf : e.cells.all S.flat = true) (h : dnE ρ e = some x) : dnL ρ e.cells = some x.cells.toList ∧ x.cells.toList.all Value.oneCell' = true := by
 cases e with
 | ag l =>
  obtain ⟨xs, h2, rfl⟩ := mS h
  exact ⟨h2, flatL_ok hf h2⟩
 | one s =>
  have hs : s.flat = true := by simpa [E.cells] using hf
  have h1 := S.flat_ok hs h
  rw [h1.2]
  exact ⟨by simp only [E.cells, dnL]; rw [show dn ρ s = _ from h]; rfl, by simp [h1.1]⟩
theorem putCs_ok {cs l cs' : List S} {o : Nat} {xs ys : List Value} (h : putCs cs o l = some cs') (h1 : dnL ρ cs = some xs) (h2 : dnL ρ l = some ys) : o + ys.length ≤ xs.length ∧ dnL ρ cs' = some (xs.take o ++ (ys ++ xs.drop (o + ys.length))) := by
 unfold putCs at h
 split at h
 ·
  rename_i hl
  obtain rfl := sJ h
  have e1 := dnL_len h1
  have e2 := dnL_len h2
  exact ⟨by omega, by rw [e2]; exact dnL_app (dnL_take o h1) (dnL_app h2 (dnL_drop _ h1))⟩
 ·
  cases h
def dnP (ρ : En) : List (Nat × E) → Option (List (Nat × Value))
 | [] => some []
 | a :: l => (dnE ρ a.2).bind fun x => (dnP ρ l).map fun xs => (a.1, x) :: xs
theorem partsE_ok (hg : GOK gl ρ) (hF : dnF ρ σ = some s) : ∀ {l : List (Nat × Operand)} {es : List (Nat × E)}, partsE gl σ l = some es → dnP ρ es = some (l.map fun p => (p.1, ev (fr f s) p.2))
 | [], vs, h => by obtain rfl := sJ h; rfl
 | a :: l, vs, h => by
  obtain ⟨v, h1, h⟩ := bS h
  obtain ⟨e, h2, h⟩ := bS h
  obtain ⟨r, h3, rfl⟩ := mS h
  simp [dnP, V.e_ok h2 (evO_ok (f := f) hg hF h1), partsE_ok hg hF h3]
theorem fillE_ok {pl : Nat → Option (Nat × Nat)} : ∀ {parts : List (Nat × E)} {cs cs' : List S} {xs : List Value} {vals : List (Nat × Value)}, fillE pl cs parts = some cs' → dnL ρ cs = some xs → dnP ρ parts = some vals → ∃ ys, dnL ρ cs' = some ys ∧ Instr.fill pl xs.toArray vals = some ys.toArray
 | [], cs, cs', xs, vals, h, h1, h2 => by
  obtain rfl := sJ h
  obtain rfl := sJ h2
  exact ⟨xs, h1, rfl⟩
 | (i, e) :: r, cs, cs', xs, vals, h, h1, h2 => by
  obtain ⟨⟨off, sz⟩, h3, h⟩ := bS h
  simp only at h
  split at h
  ·
   rename_i hh
   obtain ⟨cs1, h4, h⟩ := bS h
   simp only [dnP, bI, mI] at h2
   obtain ⟨x, h5, ws, h6, rfl⟩ := h2
   obtain ⟨h7, h8⟩ := ecells_ok hh.2 h5
   obtain ⟨h9, h10⟩ := putCs_ok h4 h1 h7
   have hxl := dnL_len h7
   have hsz : x.cells.size = sz := by rw [← hh.1, ← hxl]; simp
   obtain ⟨ys, h11, h12⟩ := fillE_ok h h10 h6
   refine ⟨ys, h11, ?_⟩
   unfold Instr.fill
   rw [h3]
   simp only
   have hlen : x.cells.toList.length = x.cells.size := by simp
   rw [if_neg (by simp [hsz]; omega)]
   have key : (x.cells.zipIdx.foldl (fun cs p => cs.setIfInBounds (off + p.2) p.1) xs.toArray) = (xs.take off ++ (x.cells.toList ++ xs.drop (off + x.cells.toList.length))).toArray := by
    apply Array.ext'
    have e1 : x.cells.zipIdx = (x.cells.toList.zipIdx).toArray := by
     apply Array.ext'; simp
    rw [e1, List.foldl_toArray, set_seq _ 0 _ (by simp only [List.size_toArray]; omega)]
    simp
   rw [key]
   exact h12
  ·
   cases h
theorem zeroE_ok {z : Value} (h : zeroE P t = some z) : (P.info? t).map (·.zero) = some (some z) := by
 obtain ⟨i, h1, h2⟩ := bS h
 rw [h1, Option.map_some, h2]
theorem plc_ok : ∀ {fs : List Field} {ps : List (Nat × Nat)}, plc P fs = some ps → ∀ w, ((fs.mapM fun f => do pure (f.offset, ← sizeOf f.type) : Sem (List (Nat × Nat))).run P w) = .ok ps w
 | [], ps, h, w => by obtain rfl := sJ h; rfl
 | f :: r, ps, h, w => by
  obtain ⟨i, h1, h⟩ := bS h
  obtain ⟨l, h2, rfl⟩ := mS h
  rw [List.mapM_cons]
  simp only [Sem.run_bind, run_size (show (P.info? f.type).map (·.size) = some i.size by rw [h1]; rfl), Result.andThen_ok, Sem.run_pure, plc_ok h2 w]
theorem bdE_ok {parts : Array (Nat × Operand)} {es : List (Nat × E)} (hg : GOK gl ρ) (hF : dnF ρ σ = some s) (hp : partsE gl σ parts.toList = some es) (h : bdE P t es = some v) : ∃ r, dnV ρ v = some r ∧ Qt P J f s ⟨dst, .build t parts, ty, pos, af, g⟩ r := by
 have hP := partsE_ok (f := f) hg hF hp
 obtain ⟨z, h1, h⟩ := bS h
 have hz := zeroE_ok h1
 split at h
 ·
  rename_i fs h2
  obtain ⟨ps, h3, h⟩ := bS h
  obtain ⟨cs, h4, rfl⟩ := mS h
  obtain ⟨ys, h5, h6⟩ := fillE_ok h4 (dnL_cs _) hP
  have hpl : nthP ps = (ps.toArray[·]?) := by funext i; simp [nthP]
  rw [hpl] at h6
  refine ⟨.agg ys.toArray, by simp [dnV, dnE, h5], q_build hz h2 (ps := ps.toArray) (fun w => ?_) rfl h6⟩
  have e : fs = fs.toList.toArray := by simp
  rw [e, List.mapM_toArray, Sem.run_map, plc_ok h3 w]; rfl
 ·
  rename_i n e h2
  obtain ⟨i, h3, h⟩ := bS h
  obtain ⟨cs, h4, rfl⟩ := mS h
  obtain ⟨ys, h5, h6⟩ := fillE_ok h4 (dnL_cs _) hP
  exact ⟨.agg ys.toArray, by simp [dnV, dnE, h5], q_buildArr hz h2 (by rw [h3]; rfl) rfl h6⟩
 ·
  cases h
/-! ### maps -/
theorem lkS_ok : ∀ {es : List (List UInt8 × S)} {xs} {k : List UInt8}, mpS ρ es = some xs → (lkS es k = none ∧ asM xs k = none) ∨ ∃ a x, lkS es k = some a ∧ dn ρ a = some x ∧ asM xs k = some x
 | [], xs, k, e => by obtain rfl := sJ e; exact .inl ⟨rfl, rfl⟩
 | a :: l, xs, k, e => by
  simp only [mpS, bI, mI] at e
  obtain ⟨x, h1, ys, h2, rfl⟩ := e
  unfold lkS asM
  by_cases hk : k = a.1
  ·
   rw [if_pos hk, if_pos hk]; exact .inr ⟨_, x, rfl, h1, rfl⟩
  ·
   rw [if_neg hk, if_neg hk]; exact lkS_ok h2
theorem lkI_ok : ∀ {es : List (Int × S)} {xs} {k : Int}, mpI ρ es = some xs → (lkI es k = none ∧ asM xs k = none) ∨ ∃ a x, lkI es k = some a ∧ dn ρ a = some x ∧ asM xs k = some x
 | [], xs, k, e => by obtain rfl := sJ e; exact .inl ⟨rfl, rfl⟩
 | a :: l, xs, k, e => by
  simp only [mpI, bI, mI] at e
  obtain ⟨x, h1, ys, h2, rfl⟩ := e
  unfold lkI asM
  by_cases hk : k = a.1
  ·
   rw [if_pos hk, if_pos hk]; exact .inr ⟨_, x, rfl, h1, rfl⟩
  ·
   rw [if_neg hk, if_neg hk]; exact lkI_ok h2
theorem mpT_ok {kt : TypeId} {z : Value} (h : mpT P t = some (kt, z)) : ∃ et, P.underlying t = some (.map kt et) ∧ (P.info? et).map (·.zero) = some (some z) := by
 unfold mpT at h
 split at h
 ·
  rename_i kt' et h1
  obtain ⟨z', h2, h3⟩ := mS h
  simp only [Prod.mk.injEq] at h3
  obtain ⟨rfl, rfl⟩ := h3
  exact ⟨et, h1, zeroE_ok h2⟩
 ·
  cases h
theorem out_ok {r : Option S} {z : Value} {m : Option Value} {ok : Bool} (h : (r = none ∧ m = none) ∨ ∃ a x, r = some a ∧ dn ρ a = some x ∧ m = some x) :
  dnV ρ (bif ok then .tu [.one (r.getD (.c z)), .one (.c (.bool r.isSome))] else .e (.one (r.getD (.c z)))) = some (bif ok then .tuple #[m.getD z, .bool m.isSome] else m.getD z) := by
 rcases h with ⟨rfl, rfl⟩ | ⟨a, x, rfl, h1, rfl⟩
 ·
  cases ok <;> rfl
 ·
  cases ok
  ·
   exact h1
  ·
   simp only [cond_true, dnV, dnEs, dnE, Option.getD_some, Option.isSome_some]; rw [h1]; rfl
theorem ckM_ok {o : Nat} {xo : O} (hC : CR M.mc ρ Φ H C) (h : H.get o = some xo) : ∃ C1 c C2, C = C1 ++ (c ++ C2) ∧ ckO M.mc ρ o xo = some c := by
 obtain ⟨L1, L2, e⟩ := T.get_L id h
 have hk := hC.ck
 rw [T.l, e] at hk
 obtain ⟨C1, c, C2, rfl, h4, h5, h6⟩ := ckL_cut hk
 exact ⟨C1, c, C2, rfl, h5⟩
theorem lookE_ok {ok : Bool} (hC : CR M.mc ρ Φ H C) (hx : dnV ρ u = some (ev (fr f s) x)) (hy : dnV ρ u' = some (ev (fr f s) y)) (h : lookE M t H u u' ok = some v) : ∃ r, dnV ρ v = some r ∧ Qt P (St B Φ C) f s ⟨dst, .lookup t x y ok, ty, pos, af, g⟩ r := by
 obtain ⟨⟨kt, z⟩, h1, h⟩ := bS h
 obtain ⟨et, h2, h3⟩ := mpT_ok h1
 simp only at h
 split at h
 ·
  rename_i o
  simp only [dnV, dnE, dn, mI] at hx
  obtain ⟨⟨a, c⟩, h4, h5⟩ := hx
  split at h
  ·
   rename_i es h6
   obtain ⟨k, h7, h⟩ := bS h
   split at h
   ·
    rename_i hh
    obtain rfl := sJ h
    obtain ⟨rfl, hk⟩ := hh
    obtain ⟨C1, c1, C2, rfl, h8⟩ := ckM_ok hC h6
    simp only [ckO, bI, mI] at h8
    obtain ⟨⟨b, cap⟩, h9, xs, h10, rfl⟩ := h8
    have h11 := base_iff.1 h9
    rw [h4] at h11
    simp only [Option.some.injEq, Prod.mk.injEq] at h11
    obtain ⟨rfl, rfl⟩ := h11
    refine ⟨_, out_ok (lkS_ok (k := k) h10), ?_⟩
    have hy : ev (fr f s) y = M.LS.enc k := by rw [M.hS]; exact V.str_ok h7 hy
    cases ok
    ·
     exact q_kLook1 (L := M.LS) (ew := id) C1.length get_mid h5.symm hy (M.gS k hk) h2 h3
    ·
     exact q_kLook (L := M.LS) (ew := id) C1.length get_mid h5.symm hy (M.gS k hk) h2 h3
   ·
    cases h
  ·
   rename_i es h6
   obtain ⟨k, h7, h⟩ := bS h
   split at h
   ·
    rename_i hh
    obtain rfl := sJ h
    obtain ⟨rfl, hk⟩ := hh
    obtain ⟨C1, c1, C2, rfl, h8⟩ := ckM_ok hC h6
    simp only [ckO, bI, mI] at h8
    obtain ⟨⟨b, cap⟩, h9, xs, h10, rfl⟩ := h8
    have h11 := base_iff.1 h9
    rw [h4] at h11
    simp only [Option.some.injEq, Prod.mk.injEq] at h11
    obtain ⟨rfl, rfl⟩ := h11
    refine ⟨_, out_ok (lkI_ok (k := k) h10), ?_⟩
    have hy : ev (fr f s) y = M.LI.enc k := by rw [M.hI]; exact V.i64_ok h7 hy
    cases ok
    ·
     exact q_kLook1 (L := M.LI) (ew := id) C1.length get_mid h5.symm hy (M.gI k hk) h2 h3
    ·
     exact q_kLook (L := M.LI) (ew := id) C1.length get_mid h5.symm hy (M.gI k hk) h2 h3
   ·
    cases h
  ·
   cases h
 ·
  obtain ⟨k, h7, h⟩ := bS h
  split at h
  ·
   rename_i hh
   obtain rfl := sJ h
   obtain ⟨rfl, hk, rfl⟩ := hh
   have hy : ev (fr f s) y = M.LS.enc k := by rw [M.hS]; exact V.str_ok h7 hy
   have hx : ev (fr f s) x = .map none := (sJ hx).symm
   exact ⟨.tuple #[z, .bool false], rfl, q_kLookN (L := M.LS) (ew := id) (d := z) hx hy (M.gS k hk) h2 h3⟩
  ·
   cases h
 ·
  cases h
theorem dnVs_len : ∀ {l : List V} {xs}, dnVs ρ l = some xs → xs.length = l.length
 | [], _, e => by cases e; rfl
 | a :: l, xs, e => by
  simp only [dnVs, bI, mI] at e
  obtain ⟨x, h1, ys, h2, rfl⟩ := e
  simp [dnVs_len h2]
theorem bltE_ok {b : Builtin} {xs : Array Operand} {ts : Array TypeId} {vs : List V} (hg : GOK gl ρ) (hF : dnF ρ σ = some s) (hv : evOs gl σ xs.toList = some vs) (h : bltE P b ts.toList vs = some v) : ∃ r, dnV ρ v = some r ∧ Qt P J f s ⟨dst, .call ⟨.builtin b, xs, ts⟩, ty, pos, af, g⟩ r := by
 have hvs := evOs_ok (f := f) hg hF hv
 have one : ∀ {a : V}, vs = [a] → ∃ x, xs = #[x] ∧ dnV ρ a = some (ev (fr f s) x) := fun {a} e => by
  subst e
  match hx : xs.toList, hvs with
  | [x], hvs =>
   simp only [dnVs, bI, mI, List.map_cons, List.map_nil, List.cons.injEq] at hvs
   obtain ⟨y, h1, ys, h2, rfl, _⟩ := hvs
   exact ⟨x, by rw [← Array.toArray_toList (xs := xs), hx], h1⟩
  | [], hvs => exact absurd (dnVs_len hvs) (by simp)
  | x :: y :: l, hvs => exact absurd (dnVs_len hvs) (by simp)
 have two : ∀ {a b : V}, vs = [a, b] → ∃ x y, xs = #[x, y] ∧ dnV ρ a = some (ev (fr f s) x) ∧ dnV ρ b = some (ev (fr f s) y) := fun {a b} e => by
  subst e
  match hx : xs.toList, hvs with
  | [x, y], hvs =>
   simp only [dnVs, bI, mI, List.map_cons, List.map_nil, List.cons.injEq] at hvs
   obtain ⟨x1, h1, ys, ⟨x2, h2, zs, h3, rfl⟩, rfl, h4⟩ := hvs
   simp only [List.cons.injEq] at h4
   exact ⟨x, y, by rw [← Array.toArray_toList (xs := xs), hx], h1, by rw [← h4.1]; exact h2⟩
  | [], hvs => exact absurd (dnVs_len hvs) (by simp)
  | [x], hvs => exact absurd (dnVs_len hvs) (by simp)
  | x :: y :: z :: l, hvs => exact absurd (dnVs_len hvs) (by simp)
 unfold bltE at h
 split at h
 ·
  rename_i ts' vs' t' a e1
  obtain ⟨x, rfl, hx⟩ := one rfl
  have ht : ts = #[t'] := by rw [← Array.toArray_toList (xs := ts), e1]
  subst ht
  split at h
  ·
   rename_i o k q n
   obtain ⟨sz, h1, rfl⟩ := mS h
   obtain ⟨e, h2, _⟩ := slE_ok h1
   obtain ⟨a, c, h6, h7, h8⟩ := sl_ok hx
   exact ⟨_, rfl, q_len_sl h8 ⟨_, _, rfl, fun _ => rfl, by omega⟩ h2⟩
  ·
   obtain ⟨sz, h1, rfl⟩ := mS h
   obtain ⟨e, h2, _⟩ := slE_ok h1
   exact ⟨_, rfl, q_len_sl (sJ hx).symm isSl_nil h2⟩
  ·
   rename_i b
   split at h
   ·
    rename_i hT
    obtain rfl := sJ h
    exact ⟨_, rfl, q_lenS (l := b.data.toList) (sJ hx).symm (isStr_ok hT)⟩
   ·
    cases h
  ·
   cases h
 ·
  rename_i a b e1
  obtain ⟨x, y, rfl, hx, hy⟩ := two rfl
  obtain ⟨m, h1, h⟩ := bS h
  obtain ⟨n, h2, rfl⟩ := mS h
  exact ⟨_, rfl, q_min (V.i64_ok h1 hx) (V.i64_ok h2 hy)⟩
 ·
  rename_i a b e1
  obtain ⟨x, y, rfl, hx, hy⟩ := two rfl
  obtain ⟨m, h1, h⟩ := bS h
  obtain ⟨n, h2, rfl⟩ := mS h
  exact ⟨_, rfl, q_max (V.i64_ok h1 hx) (V.i64_ok h2 hy)⟩
 ·
  cases h
theorem opQ_ok (hg : GOK gl ρ) (hF : dnF ρ σ = some s) (hC : CR M.mc ρ Φ H C) {op : Op} (h : opQ M gl σ H op = some v) : ∃ r, dnV ρ v = some r ∧ Qt P (St B Φ C) f s ⟨dst, op, ty, pos, af, g⟩ r := by
 have eo : ∀ {x : Operand} {v : V}, evO gl σ x = some v → dnV ρ v = some (ev (fr f s) x) := fun h => evO_ok hg hF h
 unfold opQ at h
 split at h
 ·
  exact ⟨_, eo h, q_move rfl⟩
 ·
  exact ⟨_, eo h, q_assign rfl⟩
 ·
  obtain ⟨c, h1, h⟩ := bS h
  obtain ⟨b, h2, h⟩ := bS h
  have hc := V.bool_ok h2 (eo h1)
  cases b with
  | true => exact ⟨_, eo h, q_pick hc (fun _ => rfl) (fun e => nomatch e)⟩
  | false => exact ⟨_, eo h, q_pick hc (fun e => nomatch e) (fun _ => rfl)⟩
 ·
  obtain ⟨a, h1, h⟩ := bS h
  obtain ⟨b, h2, h⟩ := bS h
  split at h
  ·
   rename_i v' hb
   obtain rfl := sJ h
   exact binE_ok (eo h1) (eo h2) hb
  ·
   split at h
   ·
    rename_i hb
    obtain rfl := sJ h
    exact strE_ok (eo h1) (eo h2) hb
   ·
    exact nilE_ok (eo h1) h
 ·
  obtain ⟨a, h1, h⟩ := bS h
  exact unE_ok (eo h1) h
 ·
  obtain ⟨a, h1, h⟩ := bS h
  obtain ⟨⟨o, k⟩, h2, h⟩ := bS h
  obtain ⟨cs, h3, h⟩ := bS h
  obtain ⟨a, c, h4, h5⟩ := V.ptr_ok h2 (eo h1)
  obtain ⟨a', cap, xs, h6, h7, h8⟩ := cells_ok (B := B) hC h3
  rw [h4] at h6
  simp only [Option.some.injEq, Prod.mk.injEq] at h6
  obtain ⟨rfl, rfl⟩ := h6
  exact ldE_ok h5 h7 h8 h
 ·
  obtain ⟨a, h1, h⟩ := bS h
  obtain ⟨⟨o, k⟩, h2, rfl⟩ := mS h
  obtain ⟨a, c, h4, h5⟩ := V.ptr_ok h2 (eo h1)
  exact ⟨_, eo h1, by rw [h5]; exact q_nilCheck h5⟩
 ·
  obtain ⟨a, h1, h⟩ := bS h
  obtain ⟨⟨o, k⟩, h2, h⟩ := bS h
  obtain ⟨off, h3, rfl⟩ := mS h
  obtain ⟨a, c, h4, h5⟩ := V.ptr_ok h2 (eo h1)
  exact ⟨.pointer (some (a.add (k + off))), by simp [dnV, dnE, dn, h4], by rw [← add_add]; exact faE_ok h3 h5⟩
 ·
  obtain ⟨a, h1, h⟩ := bS h
  split at h
  ·
   rename_i l
   obtain ⟨o, h2, h⟩ := bS h
   obtain ⟨q, h3, rfl⟩ := mS h
   obtain ⟨xs, h4, h5⟩ := mS (eo h1)
   obtain ⟨r, h6, h7⟩ := dnL_get h4 h3
   exact ⟨r, h6, foE_ok h2 h5.symm h7⟩
  ·
   cases h
 ·
  obtain ⟨a, h1, h⟩ := bS h
  obtain ⟨b, h2, h⟩ := bS h
  exact ixE_ok (eo h1) (eo h2) h
 ·
  obtain ⟨a, h1, h⟩ := bS h
  obtain ⟨b, h2, h⟩ := bS h
  split at h
  ·
   rename_i v' h3
   obtain rfl := sJ h
   exact strIx_ok (eo h1) (eo h2) h3
  ·
   exact arIx_ok (eo h1) (eo h2) h
 ·
  obtain ⟨a, h1, h⟩ := bS h
  obtain ⟨lo, h2, h⟩ := bS h
  obtain ⟨hi, h3, h⟩ := bS h
  exact sliceE_ok hg hF (eo h1) h2 h3 h
 ·
  obtain ⟨a, h1, h⟩ := bS h
  exact cvtE_ok (eo h1) h
 ·
  obtain ⟨a, h1, h⟩ := bS h
  split at h
  ·
   rename_i l
   obtain ⟨e, h2, rfl⟩ := mS h
   obtain ⟨xs, h4, h5⟩ := mS (eo h1)
   have key : ∀ {l : List E} {xs : List Value} {i : Nat} {e : E}, dnEs ρ l = some xs → l[i]? = some e → ∃ r, dnE ρ e = some r ∧ xs[i]? = some r := fun {l} => by
    induction l with
    | nil => intro xs i e _ h; simp at h
    | cons a l ih =>
     intro xs i e h h'
     simp only [dnEs, bI, mI] at h
     obtain ⟨x, h1, ys, h2, rfl⟩ := h
     cases i with
     | zero =>
      obtain rfl : a = e := by simpa using h'
      exact ⟨x, h1, rfl⟩
     | succ i => exact ih (i := i) h2 (by simpa using h')
   obtain ⟨r, h6, h7⟩ := key h4 h2
   exact ⟨r, h6, q_extract h5.symm (by simpa using h7)⟩
  ·
   cases h
 ·
  obtain ⟨a, h1, h⟩ := bS h
  obtain ⟨pa, h2, h⟩ := bS h
  obtain ⟨b, h3, h⟩ := bS h
  obtain ⟨pb, h4, rfl⟩ := mS h
  exact ⟨_, by simp only [dnV, dnE, dn, ptrs_ok h2 (evOs_ok (f := f) hg hF h1), ptrs_ok h4 (evOs_ok (f := f) hg hF h3), Option.bind_some, Option.map_some], q_makeFunc rfl rfl⟩
 ·
  obtain ⟨a, h1, h⟩ := bS h
  exact bdE_ok hg hF h1 h
 ·
  obtain ⟨a, h1, h⟩ := bS h
  obtain ⟨b, h2, h⟩ := bS h
  exact lookE_ok hC (eo h1) (eo h2) h
 ·
  obtain ⟨a, h1, h⟩ := bS h
  exact bltE_ok hg hF h1 h
 ·
  obtain ⟨a, h1, h⟩ := bS h
  obtain ⟨r, fn, e, h2, h3, h4, h5, h6, h7, h8⟩ := M.hex _ _ _ h ρ _ (evOs_ok (f := f) hg hF h1)
  exact ⟨r, h2, q_ext h3 h4 h5 h6 h7 rfl rfl h8⟩
 ·
  cases h
end
end Go.K.Ev
