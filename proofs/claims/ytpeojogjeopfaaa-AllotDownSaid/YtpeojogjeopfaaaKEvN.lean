/- Lemmas. Conditions: those of each theorem. -/
import Derived.Test.YtpeojogjeopfaaaKEvR
import Derived.Test.YtpeojogjeopfaaaKDfq
namespace Go.K.Ev
open Go Go.K Go.RowKit
inductive X where
 | n
 | x (id : Nat)
 | r
def X.e : X → Exit
 | .n => .normal
 | .x i => .exit i
 | .r => .ret
def resE {P : Program} (M : Mp P) (σ : Fm) (H : T) : List ResultVar → Option (List E)
 | [] => some []
 | .tmp t :: rs => (lkF σ t).bind fun v => v.e?.bind fun e => (resE M σ H rs).map fun es => e :: es
 | .cell t T :: rs => (lkF σ t).bind fun v => v.ptr?.bind fun p => (cellsAt H p.1).bind fun cs => (ldE P T cs p.2).bind fun v => v.e?.bind fun e => (resE M σ H rs).map fun es => e :: es
def valE : List E → V
 | [e] => .e e
 | es => .tu es
def ownB (P : Program) (k : FuncId) : Bool := match (P.funcs[k]?).map (fun fn => fn.name == "runtime.NumGoroutine" || fn.body.isNone) with
 | some false => true
 | _ => false
def frE : List E → Nat → Fm
 | [], _ => []
 | e :: l, k => (k, .e e) :: frE l (k + 1)
mutual
def exE {P : Program} (M : Mp P) (gl : Nat → Option Nat) (orc : Cl) : Nat → Nat → Code → Fm → T → Nat → Option (X × Fm × T × Nat)
 | 0, _, _, _, _, _ => none
 | n + 1, N, c, σ, H, m => match c with
  | .skip => some (.n, σ, H, m)
  | .exit i => some (.x i, σ, H, m)
  | .ret => some (.r, σ, H, m)
  | .region _ ops draw => (bif draw then (match dregE M gl (callE M gl orc n) N ops.toList σ H m with | some r => some r | none => match xregE M gl (callE M gl orc n) N ops.toList σ H m with | some r => some r | none => fregE M gl (callE M gl orc n) N ops.toList σ H m) else regE M gl (callE M gl orc n) N ops ops.toList σ H m).map fun r => (.n, r)
  | .seq a b => match exE M gl orc n N a σ H m with
   | some (.n, σ, H, m) => exE M gl orc n N b σ H m
   | r => r
  | .cond x a b => (evO gl σ x).bind fun v => v.bool?.bind fun t => bif t then exE M gl orc n N a σ H m else exE M gl orc n N b σ H m
  | .block i a => match exE M gl orc n N a σ H m with
   | some (.x j, r) => bif Nat.beq j i then some (.n, r) else some (.x j, r)
   | r => r
  | .loop a => match exE M gl orc n N a (prune σ []) H m with
   | some (.n, σ, H, m) => exE M gl orc n N (.loop a) σ H m
   | r => r
  | _ => none
def callE {P : Program} (M : Mp P) (gl : Nat → Option Nat) (orc : Cl) : Nat → FuncId → List E → T → Nat → Option (V × T × Nat)
 | 0, _, _, _, _ => none
 | n + 1, k, args, H, m => match orc k args H m with
  | some r => some r
  | none => bif ownB P k then (P.funcs[k]?).bind fun fn => fn.body.bind fun c => bif Nat.ble args.length fn.ntmps then (match exE M gl orc n fn.ntmps c (frE args 0) H m with
   | some (.x _, _) => none
   | some (_, σ, H, m) => (resE M σ H fn.results.toList).map fun es => (valE es, H, m)
   | none => none) else none else none
end
section
variable {P : Program} {M : Mp P} {gl : Nat → Option Nat} {ρ : En} {σ : Fm} {s : List (Nat × Value)} {f : Nat → Value} {H : T} {C : List Chunk} {Φ : Hp} {B : Bs} {orc : Cl}
theorem resE_ok (hF : dnF ρ σ = some s) (hC : CR M.mc ρ Φ H C) : ∀ {rs : List ResultVar} {es : List E}, resE M σ H rs = some es → ∃ vs, dnEs ρ es = some vs ∧ ResAll P (St B Φ C) (fr f s) rs vs
 | [], es, h => by obtain rfl := sJ h; exact ⟨[], rfl, trivial⟩
 | .tmp t :: rs, es, h => by
  obtain ⟨v, h1, h⟩ := bS h
  obtain ⟨e, h2, h⟩ := bS h
  obtain ⟨r, h3, rfl⟩ := mS h
  obtain ⟨u, h4, h5⟩ := lkF_fr (f := f) hF h1
  obtain ⟨vs, h6, h7⟩ := resE_ok hF hC h3
  exact ⟨u :: vs, by simp [dnEs, V.e_ok h2 h4, h6], .tmp h5, h7⟩
 | .cell t T :: rs, es, h => by
  obtain ⟨v, h1, h⟩ := bS h
  obtain ⟨⟨o, k⟩, h2, h⟩ := bS h
  obtain ⟨cs, h3, h⟩ := bS h
  obtain ⟨w, h4, h⟩ := bS h
  obtain ⟨e, h5, h⟩ := bS h
  obtain ⟨r, h6, rfl⟩ := mS h
  obtain ⟨u, h7, h8⟩ := lkF_fr (f := f) hF h1
  obtain ⟨vs, h9, h10⟩ := resE_ok hF hC h6
  obtain ⟨a, c, h11, h12⟩ := V.ptr_ok h2 h7
  obtain ⟨a', cap, xs, h13, h14, h15⟩ := cells_ok (B := B) hC h3
  simp only at h13
  rw [h11] at h13
  simp only [Option.some.injEq, Prod.mk.injEq] at h13
  obtain ⟨rfl, rfl⟩ := h13
  obtain ⟨q, h16, h17⟩ := bS h4
  obtain ⟨d, h18, h19⟩ := bS h16
  have hp : fr f s t = .pointer (some (a.add k)) := h8.trans h12
  cases hd : isAggD d with
  | false =>
   rw [hd] at h19
   obtain rfl := sJ h19
   obtain ⟨q, h20, rfl⟩ := mS h17
   obtain rfl := sJ h5
   obtain ⟨x, h21, h22⟩ := dnL_get h14 h20
   exact ⟨x :: vs, by simp only [dnEs, dnE, h21, h9, Option.bind_some, Option.map_some], @ResV.one P _ _ t T _ x ⟨d, h18, hd⟩ hp (h15 _ _ h22), h10⟩
  | true =>
   rw [hd] at h19
   obtain ⟨i, h20, rfl⟩ := mS h19
   simp only at h17
   split at h17
   ·
    rename_i hl
    obtain rfl := sJ h17
    obtain rfl := sJ h5
    have h21 := dnL_take i.size (dnL_drop k h14)
    refine ⟨.agg ((xs.drop k).take i.size).toArray :: vs, by simp only [dnEs, dnE, h21, h9, Option.bind_some, Option.map_some], @ResV.agg P _ _ t T i.size _ _ ⟨d, h18, hd, by rw [h20]; rfl⟩ hp (by rw [dnL_len h21]; exact hl) (fun j v hj => ?_), h10⟩
    rw [add_add]
    refine h15 _ _ ?_
    rw [List.getElem?_take] at hj
    split at hj
    ·
     rwa [List.getElem?_drop] at hj
    ·
     cases hj
   ·
    cases h17
theorem valE_ok {es : List E} {vs : List Value} (h : dnEs ρ es = some vs) : dnV ρ (valE es) = some (tup vs) := by
 match es, h with
 | [], h => obtain rfl := sJ h; rfl
 | [e], h =>
  simp only [dnEs, bI, Option.map_some, Option.some.injEq] at h
  obtain ⟨x, h1, rfl⟩ := h
  exact h1
 | a :: b :: l, h =>
  simp only [valE, dnV, h, Option.map_some]
  simp only [dnEs, bI, mI] at h
  obtain ⟨x, h1, ys, ⟨y, h2, zs, h3, rfl⟩, rfl⟩ := h
  rfl
theorem frE_ok : ∀ {es : List E} {vs : List Value} (k : Nat), dnEs ρ es = some vs → dnF ρ (frE es k) = some ((vs.zipIdx k).map fun p => (p.2, p.1))
 | [], vs, k, h => by obtain rfl := sJ h; rfl
 | e :: l, vs, k, h => by
  simp only [dnEs, bI, mI] at h
  obtain ⟨x, h1, ys, h2, rfl⟩ := h
  simp [frE, dnF, dnV, h1, frE_ok (k + 1) h2]
theorem dnEs_len : ∀ {es : List E} {vs : List Value}, dnEs ρ es = some vs → vs.length = es.length
 | [], vs, h => by obtain rfl := sJ h; rfl
 | e :: l, vs, h => by
  simp only [dnEs, bI, mI] at h
  obtain ⟨x, h1, ys, h2, rfl⟩ := h
  simp [dnEs_len h2]
theorem ownB_ok {k : FuncId} (h : ownB P k = true) : Own P k := by
 unfold ownB at h
 split at h
 ·
  rename_i h1; exact own_of h1
 ·
  cases h
def SX (M : Mp P) (gl : Nat → Option Nat) (orc : Cl) (n : Nat) : Prop := ∀ (N : Nat) (c : Code) (σ : Fm) (H : T) (m : Nat) (x : X) (r : Fm × T × Nat), exE M gl orc n N c σ H m = some (x, r) → ∀ (B : Bs) (D : List Deferred) (Q : Exit → Act → World → Prop) (f : Nat → Value) (ρ : En) (Φ : Hp) (C : List Chunk) (s : List (Nat × Value)), GOK gl ρ → dnF ρ σ = some s → CR M.mc ρ Φ H C → Fr ρ m →
 Goes M gl B ρ Φ r (fun s' J => ∀ f', Post N D Q x.e f' s' J) → AW P N D c Q f s (St B Φ C)
theorem Goes.imp {r : Fm × T × Nat} {K K' : List (Nat × Value) → Cls → Prop} (h : Goes M gl B ρ Φ r K) (hi : ∀ s J, K s J → K' s J) : Goes M gl B ρ Φ r K' := fun a b c d h1 h2 h3 h4 h5 h6 => hi _ _ (h a b c d h1 h2 h3 h4 h5 h6)
theorem clOK (_ : P.follows .mixedOrders = true) (ho : ClOK M gl orc) {n : Nat} (h : ∀ m, m < n → SX M gl orc m) : ClOK M gl (callE M gl orc n) := by
 intro k args H m r hr ρ Φ C xs w hg hx hC hf hw
 cases n with
 | zero => unfold callE at hr; cases hr
 | succ n =>
  unfold callE at hr
  split at hr
  ·
   rename_i r' h1
   obtain rfl := sJ hr
   exact ho k args H m _ h1 ρ Φ C xs w hg hx hC hf hw
  ·
   cases hO : ownB P k with
   | false => rw [hO] at hr; cases hr
   | true =>
    rw [hO] at hr
    simp only [cond_true] at hr
    obtain ⟨fn, h1, hr⟩ := bS hr
    obtain ⟨c, h2, hr⟩ := bS hr
    cases hl : Nat.ble args.length fn.ntmps with
    | false => rw [hl] at hr; cases hr
    | true =>
     rw [hl] at hr
     simp only [cond_true] at hr
     refine ⟨ownB_ok hO, calls_of_AW h1 h2 (by rw [dnEs_len hx]; exact Nat.le_of_ble_eq_true hl) (St ⟨w, Φ, fps C⟩ Φ C) hw ?_⟩
     split at hr
     ·
      cases hr
     ·
      rename_i x σ1 H1 m1 hxx hex
      obtain ⟨es, h3, rfl⟩ := mS hr
      refine h n (Nat.lt_succ_self _) _ _ _ _ _ x _ hex _ [] _ _ ρ Φ C _ hg (frE_ok 0 hx) hC hf fun ρ' Φ' C' s' h4 h5 h6 h7 h8 h9 f' => ?_
      obtain ⟨vs, h10, h11⟩ := resE_ok (B := ⟨w, Φ, fps C⟩) (f := f') h7 h8 h3
      refine fin_res (rs := fn.results.toList) (vs := vs) (by simp) ?_ h11 rfl fun w' hw' => ⟨_, rfl, ρ', C', Φ', h4, h5, fun v e => sJ e ▸ valE_ok h10, h8, h9, hw'⟩
      cases x with
      | n => rfl
      | r => rfl
      | x i => first | exact (hxx i rfl).elim | exact (hxx i _ rfl).elim | exact (hxx _ _ _ rfl).elim
     ·
      cases hr
theorem sx (hm : P.follows .mixedOrders = true) (ho : ClOK M gl orc) : ∀ n, SX M gl orc n := by
 intro n
 induction n using Nat.strongRecOn with
 | _ n ih =>
 intro N c σ H m x r h B D Q f ρ Φ C s hg hF hC hf k
 cases n with
 | zero => unfold exE at h; cases h
 | succ n =>
  have hcl : ClOK M gl (callE M gl orc n) := clOK hm ho fun m hm => ih m (by omega)
  have hn := ih n (Nat.lt_succ_self _)
  unfold exE at h
  split at h
  ·
   simp only [Option.some.injEq, Prod.mk.injEq] at h
   obtain ⟨rfl, rfl⟩ := h
   exact AW.skip (k ρ Φ C s (En.le_refl _) (Hp.le_refl _) hg hF hC hf f)
  ·
   simp only [Option.some.injEq, Prod.mk.injEq] at h
   obtain ⟨rfl, rfl⟩ := h
   exact AW.exit (k ρ Φ C s (En.le_refl _) (Hp.le_refl _) hg hF hC hf f)
  ·
   simp only [Option.some.injEq, Prod.mk.injEq] at h
   obtain ⟨rfl, rfl⟩ := h
   exact AW.ret (k ρ Φ C s (En.le_refl _) (Hp.le_refl _) hg hF hC hf f)
  ·
   rename_i id ops draw
   obtain ⟨r', h1, h2⟩ := mS h
   simp only [Prod.mk.injEq] at h2
   obtain ⟨rfl, rfl⟩ := h2
   have e : ops = ops.toList.toArray := by simp
   cases draw with
   | true =>
    rw [e]
    rw [cond_true] at h1
    split at h1
    ·
     rename_i h2; exact dregE_ok hcl hm (h2.trans h1) hg hF hC hf (k.imp fun s J h => h f)
    ·
     split at h1
     ·
      rename_i h2; exact xregE_ok hcl hm (h2.trans h1) hg hF hC hf (k.imp fun s J h => h f)
     ·
      exact fregE_ok hcl hm h1 hg hF hC hf k
   | false =>
    rw [e]
    refine AW.region ?_
    rw [e] at h1
    exact regE_ok hcl h1 hg hF hC hf (fun _ _ _ _ hc => hc.elim) (k.imp fun s J h => h f)
  ·
   rename_i a b
   refine AW.seq ?_
   split at h
   ·
    rename_i σ1 H1 m1 h1
    exact hn _ _ _ _ _ _ _ h1 B D _ f ρ Φ C s hg hF hC hf fun ρ' Φ' C' s' h4 h5 h6 h7 h8 h9 f' => Post.then_n (hn _ _ _ _ _ _ _ h B D Q f' ρ' Φ' C' s' h6 h7 h8 h9 (k.step h4 h5))
   ·
    rename_i h0
    refine hn _ _ _ _ _ _ _ h B D _ f ρ Φ C s hg hF hC hf (k.imp fun s J hk f' => ?_)
    cases x with
    | n => exact absurd h (h0 _ _ _)
    | x i => exact Post.then_x (hk f')
    | r => exact Post.then_r (hk f')
  ·
   obtain ⟨v, h1, h⟩ := bS h
   obtain ⟨t, h2, h⟩ := bS h
   have hv := V.bool_ok h2 (evO_ok (f := f) hg hF h1)
   cases t with
   | true => exact AW.cond hv (fun _ => hn _ _ _ _ _ _ _ h B D Q f ρ Φ C s hg hF hC hf k) (fun e => nomatch e)
   | false => exact AW.cond hv (fun e => nomatch e) (fun _ => hn _ _ _ _ _ _ _ h B D Q f ρ Φ C s hg hF hC hf k)
  ·
   rename_i i a
   refine AW.block ?_
   split at h
   ·
    rename_i j r' h1
    refine hn _ _ _ _ _ _ _ h1 B D _ f ρ Φ C s hg hF hC hf ?_
    cases hb : Nat.beq j i with
    | true =>
     rw [hb] at h
     simp only [cond_true, Option.some.injEq, Prod.mk.injEq] at h
     obtain ⟨rfl, rfl⟩ := h
     obtain rfl := nB hb
     exact k.imp fun s J hk f' => Post.blk_hit (hk f')
    | false =>
     rw [hb] at h
     simp only [cond_false, Option.some.injEq, Prod.mk.injEq] at h
     obtain ⟨rfl, rfl⟩ := h
     exact k.imp fun s J hk f' => Post.blk_miss hb (hk f')
   ·
    rename_i h0
    refine hn _ _ _ _ _ _ _ h B D _ f ρ Φ C s hg hF hC hf (k.imp fun s J hk f' => ?_)
    cases x with
    | n => exact Post.blk_n (hk f')
    | x j => exact absurd h (h0 _ _)
    | r => exact Post.blk_r (hk f')
  ·
   rename_i a
   obtain ⟨s0, h1, h2⟩ := prune_ok (f := f) (N := s) [] hF fun _ _ => rfl
   refine AW.loop (fun s' J' q => q ≤ n ∧ ∃ ρ1 Φ1 C1 σ1 H1 m1, En.le ρ ρ1 ∧ Hp.le Φ Φ1 ∧ GOK gl ρ1 ∧ dnF ρ1 (prune σ1 []) = some s' ∧ CR M.mc ρ1 Φ1 H1 C1 ∧ Fr ρ1 m1 ∧ J' = St B Φ1 C1 ∧ (match exE M gl orc q N a (prune σ1 []) H1 m1 with
    | some (.n, σ, H, m) => exE M gl orc q N (.loop a) σ H m
    | r => r) = some (x, r)) (m0 := n) (s0 := s0) (J1 := St B Φ C) ⟨Nat.le_refl _, ρ, Φ, C, σ, H, m, En.le_refl _, Hp.le_refl _, hg, h1, hC, hf, rfl, h⟩ h2 (fun _ h => h) ?_
   rintro f' s' _ q ⟨hq, ρ1, Φ1, C1, σ1, H1, m1, h3, h4, h5, h6, h7, h8, rfl, h9⟩
   have hqn := ih q (by omega)
   split at h9
   ·
    rename_i σ2 H2 m2 h10
    cases q with
    | zero => unfold exE at h10; cases h10
    | succ q =>
     refine hqn _ _ _ _ _ _ _ h10 B D _ f' ρ1 Φ1 C1 s' h5 h6 h7 h8 fun ρ2 Φ2 C2 s2 g1 g2 g3 g4 g5 g6 f2 => ?_
     obtain ⟨s3, g7, g8⟩ := prune_ok (f := f2) (N := s2) [] g4 fun _ _ => rfl
     unfold exE at h9
     exact Post.back (s' := s3) (J' := St B Φ2 C2) (m' := q) (Nat.lt_succ_self _) ⟨by omega, ρ2, Φ2, C2, σ2, H2, m2, h3.trans g1, Hp.le_trans h4 g2, g3, g7, g5, g6, rfl, h9⟩ g8 (fun _ h => h)
   ·
    rename_i h0
    refine hqn _ _ _ _ _ _ _ h9 B D _ f' ρ1 Φ1 C1 s' h5 h6 h7 h8 ((k.step h3 h4).imp fun s J hk f2 => ?_)
    cases x with
    | n => exact absurd h9 (h0 _ _ _)
    | x i => exact Post.then_x (hk f2)
    | r => exact Post.then_r (hk f2)
  ·
   cases h
theorem callE_sound (hm : P.follows .mixedOrders = true) (ho : ClOK M gl orc) (n : Nat) : ClOK M gl (callE M gl orc n) := clOK hm ho fun m _ => sx hm ho m
end
end Go.K.Ev
namespace Go.K.Ev
open Go Go.K Go.RowKit
section
variable {P : Program} {M : Mp P} {gl : Nat → Option Nat} {ρ : En} {σ : Fm} {s : List (Nat × Value)} {f : Nat → Value} {H : T} {C : List Chunk} {Φ : Hp} {B : Bs} {orc : Cl} {N n m : Nat}
end
end Go.K.Ev
namespace Go.K.Ev
open Go Go.K Go.RowKit
theorem sat_mono {c : Chunk} {Φ Ψ : Hp} (hl : Hp.le Φ Ψ) (h : c.sat Φ) : c.sat Ψ := c.loc Φ Ψ (fun b hb => by
 cases hx : Φ b with
 | none => exact absurd hx (c.dom Φ h b hb)
 | some o => exact hl b o hx) h
theorem freeze_all {w : World} {Φ : Hp} : ∀ {C : List Chunk} {Φ' : Hp} {w' : World}, StP ⟨w, Φ, []⟩ Φ' C w' → ∃ Ψ, Hp.le Φ' Ψ ∧ (∀ c ∈ C, c.sat Ψ) ∧ StP ⟨w, Φ, []⟩ Ψ [] w'
 | [], Φ', w', h => ⟨Φ', Hp.le_refl _, (fun _ hc => by cases hc), h⟩
 | c :: C, Φ', w', h => by
  obtain ⟨Φ1, h1, h2, h3⟩ := StP.freeze h (fun b hb => ((h.away b (by simp [hb])).2).resolve_right (by simp))
  obtain ⟨Ψ, h4, h5, h6⟩ := freeze_all h3
  exact ⟨Ψ, Hp.le_trans h1 h4, fun c' hc => by
   rcases List.mem_cons.1 hc with rfl | hc
   ·
    exact sat_mono h4 h2
   ·
    exact h5 c' hc, h6⟩
def cellsW : O → Option (List S)
 | .blk _ cs => some cs
 | .row _ _ _ cs => some cs
 | _ => none
def Froz (ρ : En) (Ψ : Hp) (H : T) : Prop := ∀ o x cs, H.get o = some x → cellsW x = some cs → ∃ b cap vs, ρ o = some (⟨b, 0, none⟩, cap) ∧ dnL ρ cs = some vs ∧ ∀ k v, vs[k]? = some v → PCell Ψ ⟨b, k, none⟩ v
theorem row_pc {Φ : Hp} {b n cap : Nat} {T sz : Nat} {xs : List Value} (h : RowS Φ (.slice (some ⟨b, 0, none⟩) n cap) T sz n xs) {k : Nat} {x : Value} (hx : xs[k]? = some x) : PCell Φ ⟨b, k, none⟩ x := by
 obtain ⟨hl, hs⟩ := h
 rcases hs with ⟨h1, _⟩ | ⟨g, cap', cur, h1, h2, h3, h4, h5, h6⟩
 ·
  cases h1
 ·
  simp only [Value.slice.injEq, Option.some.injEq, Addr.mk.injEq, and_true, true_and] at h1
  obtain ⟨rfl, rfl⟩ := h1
  refine ⟨cur, T, (0, 0), h2, rfl, ?_⟩
  rw [← h6] at hx
  simp only [List.getElem?_take] at hx
  split at hx
  ·
   simpa using hx
  ·
   cases hx
theorem froz_ok {mc : Mc} {ρ : En} {Φ Ψ : Hp} {H : T} {C : List Chunk} (h : CR mc ρ Φ H C) (hs : ∀ c ∈ C, c.sat Ψ) : Froz ρ Ψ H := fun o x cs hx hc => by
 obtain ⟨L1, L2, e⟩ := T.get_L id hx
 have hk := h.ck
 rw [T.l, e] at hk
 obtain ⟨C1, c, C2, rfl, h3, h4, h5⟩ := ckL_cut hk
 cases x with
 | blk T cs' =>
  obtain rfl := sJ hc
  simp only [ckO, bI, mI] at h4
  obtain ⟨⟨b, cap⟩, h6, xs, h7, rfl⟩ := h4
  have h8 : Ψ b = some (.cells xs.toArray T (0, 0)) := hs (.blk b T xs) (by simp)
  exact ⟨b, cap, xs, base_iff.1 h6, h7, fun k v hv => ⟨_, T, (0, 0), h8, rfl, by simpa using hv⟩⟩
 | row T sz n cs' =>
  obtain rfl := sJ hc
  simp only [ckO, bI, mI] at h4
  obtain ⟨⟨b, cap⟩, h6, xs, h7, rfl⟩ := h4
  have h8 : RowS Ψ (.slice (some ⟨b, 0, none⟩) n cap) T sz n xs := hs (.row (.slice (some ⟨b, 0, none⟩) n cap) T sz n xs) (by simp)
  exact ⟨b, cap, xs, base_iff.1 h6, h7, fun k v hv => row_pc h8 hv⟩
 | _ => cases hc
def ckSl (H : T) (n bytes : Nat) (f : List S → Bool) : S → Bool
 | .c (.slice none 0 0) => Nat.beq n 0
 | .sl o k _ m => Nat.beq m n && (Nat.ble (n * bytes) maxSl && match (H.get o).bind cellsW with
  | some cs => f (cs.drop k)
  | none => false)
 | _ => false
theorem ckSl_ok {ρ : En} {Ψ : Hp} {H : T} {n bytes : Nat} {f : List S → Bool} {s : S} {v : Value} (hF : Froz ρ Ψ H) (h : ckSl H n bytes f s = true) (hd : dn ρ s = some v) :
  IsSl v n ∧ n * bytes ≤ maxSl ∧ (n = 0 ∨ ∃ cs vs, f cs = true ∧ dnL ρ cs = some vs ∧ ∀ j u, vs[j]? = some u → PCell Ψ (Value.at v j) u) := by
 unfold ckSl at h
 split at h
 ·
  obtain rfl := sJ hd
  obtain rfl := nB h
  exact ⟨⟨none, 0, rfl, fun h => absurd h (Nat.lt_irrefl 0), Nat.le_refl _⟩, by simp [maxSl], .inl rfl⟩
 ·
  rename_i o k q m
  simp only [Bool.and_eq_true] at h
  obtain ⟨hn, hb, h⟩ := h
  obtain rfl := nB hn
  split at h
  rotate_left
  ·
   cases h
  rename_i cs hcs
  obtain ⟨x, hx, hc⟩ := bS hcs
  obtain ⟨b, cap, vs, h1, h2, h3⟩ := hF o x cs hx hc
  simp only [dn, h1, Option.bind_some] at hd
  split at hd
  rotate_left
  ·
   cases hd
  obtain rfl := sJ hd
  refine ⟨⟨_, _, rfl, fun _ => rfl, by omega⟩, Nat.le_of_ble_eq_true hb, .inr ⟨_, _, h, dnL_drop k h2, fun j u hj => ?_⟩⟩
  rw [List.getElem?_drop] at hj
  have h7 := h3 _ _ hj
  have : Value.at (.slice (some ((⟨b, 0, none⟩ : Addr).add k)) m (cap - q)) j = ⟨b, k + j, none⟩ := by
   simp only [Value.at]
   rw [add_add, add_base]
  rw [this]; exact h7
 ·
  cases h
class Rfy (α : Type) [Rep α] where
 ck : T → α → List S → Bool
 ok : ∀ {ρ : En} {Ψ : Hp} {H : T} {x : α} {cs : List S} {vs : List Value}, Froz ρ Ψ H → ck H x cs = true → dnL ρ cs = some vs → Rep.rep Ψ x vs
section
variable {α : Type} [Rep α] [Rfy α]
def ckA (H : T) : List α → List S → Bool
 | [], _ => true
 | x :: xs, cs => Rfy.ck H x (cs.take (Rep.sz α)) && ckA H xs (cs.drop (Rep.sz α))
def ckS (H : T) (xs : List α) (s : S) : Bool := ckSl H xs.length (Rep.bytes α) (ckA H xs) s
variable {ρ : En} {Ψ : Hp} {H : T}
theorem ckA_ok (hF : Froz ρ Ψ H) : ∀ {xs : List α} {cs : List S} {vs : List Value}, ckA H xs cs = true → dnL ρ cs = some vs → ∀ i (h : i < xs.length), ∃ us, Rep.rep Ψ xs[i] us ∧ ∀ j u, us[j]? = some u → vs[i * Rep.sz α + j]? = some u
 | x :: xs, cs, vs, h, hd, 0, _ => by
  simp only [ckA, Bool.and_eq_true] at h
  refine ⟨_, Rfy.ok hF h.1 (dnL_take _ hd), fun j u hj => ?_⟩
  rw [List.getElem?_take] at hj
  split at hj
  ·
   simpa using hj
  ·
   cases hj
 | x :: xs, cs, vs, h, hd, i + 1, hi => by
  simp only [ckA, Bool.and_eq_true] at h
  obtain ⟨us, h1, h2⟩ := ckA_ok hF h.2 (dnL_drop _ hd) i (by simpa using hi)
  refine ⟨us, h1, fun j u hj => ?_⟩
  have := h2 j u hj
  rw [List.getElem?_drop] at this
  rw [← this, Nat.succ_mul]
  congr 1; omega
theorem ckS_ok (hF : Froz ρ Ψ H) {xs : List α} {s : S} {v : Value} (h : ckS H xs s = true) (hd : dn ρ s = some v) : RepSl Ψ xs v := by
 obtain ⟨h1, h2, h3⟩ := ckSl_ok hF h hd
 refine ⟨h1, h2, fun i hi => ?_⟩
 rcases h3 with h3 | ⟨cs, vs, h3, h4, h5⟩
 ·
  omega
 ·
  obtain ⟨us, h6, h7⟩ := ckA_ok hF h3 h4 i hi
  exact ⟨us, h6, fun j u hj => h5 _ _ (h7 j u hj)⟩
instance : Rfy (List α) where
 ck := fun H xs cs => match cs with
  | [s] => ckS H xs s
  | _ => false
 ok := fun hF h hd => by
  split at h
  ·
   simp only [dnL, bI, Option.map_some, Option.some.injEq] at hd
   obtain ⟨v, h1, rfl⟩ := hd
   exact ⟨v, rfl, ckS_ok hF h h1⟩
  ·
   cases h
end
def is64 (n : Int) : Bool := decide (-9223372036854775808 ≤ n ∧ n ≤ 9223372036854775807)
theorem is64_ok {n : Int} (h : is64 n = true) : I64 n := by
 have := odT h
 unfold I64; exact this
def ckI (n : Int) : S → Bool
 | .c (.int .i64 m) => decide (m = n) && is64 n
 | _ => false
theorem ckI_ok {ρ : En} {n : Int} {s : S} {v : Value} (h : ckI n s = true) (hd : dn ρ s = some v) : v = .int .i64 n ∧ I64 n := by
 unfold ckI at h
 split at h
 ·
  simp only [Bool.and_eq_true] at h
  obtain rfl := sJ hd
  rw [odT h.1]
  exact ⟨rfl, is64_ok h.2⟩
 ·
  cases h
instance : Rfy Int where
 ck := fun _ n cs => match cs with
  | [s] => ckI n s
  | _ => false
 ok := fun hF h hd => by
  split at h
  ·
   simp only [dnL, bI, Option.map_some, Option.some.injEq] at hd
   obtain ⟨v, h1, rfl⟩ := hd
   obtain ⟨rfl, h2⟩ := ckI_ok h h1
   exact ⟨rfl, h2⟩
  ·
   cases h
/-! ### functions without a body: the first place of a byte, the sum of two words -/
def noCl : Cl := fun _ _ _ _ => none
theorem noCl_ok {P : Program} {M : Mp P} {gl : Nat → Option Nat} : ClOK M gl noCl := fun _ _ _ _ _ h => by cases h
/-! ### known memory ahead of a call -/
theorem CR.nil {mc : Mc} {ρ : En} {Φ : Hp} : CR mc ρ Φ .nil [] := ⟨rfl, fun _ _ h => by cases h⟩
theorem ev_ret {P : Program} {M : Mp P} {gl : Nat → Option Nat} {cl : Cl} (hcl : ClOK M gl cl) {k : FuncId} {args : List E} {H : T} {n : Nat} {r : V × T × Nat} (h : cl k args H n = some r) {w : World} {Φ : Hp} {ρ : En} {xs : List Value} (hΦ : Hp.le Φ (hp w)) (hg : GOK gl ρ) (hx : dnEs ρ args = some xs) (hC : CR M.mc ρ Φ H []) (hf : Fr ρ n) {T : Value → Hp → Prop}
  (hT : ∀ ρ' Ψ v, Froz ρ' Ψ r.2.1 → dnV ρ' r.1 = some v → T v Ψ) (hTm : ∀ v Ψ Ψ', Hp.le Ψ Ψ' → T v Ψ → T v Ψ') : Own P k ∧ Calls P k xs.toArray w (RetS Φ w T) := by
 obtain ⟨h1, h2⟩ := hcl k args H n r h ρ Φ [] xs w hg hx hC hf (StP.init w Φ hΦ [])
 refine ⟨h1, h2.mono fun e w' hh => ?_⟩
 obtain ⟨u, rfl, ρ', C', Φ', _, _, h3, h4, _, h5⟩ := hh
 obtain ⟨Ψ, h6, h7, h8⟩ := freeze_all h5
 exact ⟨u, rfl, h8.below rfl, hTm _ _ _ h8.phi_ext (hT ρ' Ψ u (froz_ok h4 h7) (h3 _ rfl))⟩
end Go.K.Ev
