/- Lemmas. Conditions: those of each theorem. -/
import Derived.Test.YtnfmjfheciihjaaGreatDoorYRdI
import Derived.Test.YtnfmjfheciihjaaGreatDoorYDfq
set_option maxRecDepth 8000
set_option maxHeartbeats 16000000
namespace Go.Proofs.YtnfmjfheciihjaaGreatDoor
open Go Go.K Go.RowKit
open Ru (tr trs pB nC wfH wfK wfP prC fC cC fnP clP)
attribute [local irreducible] AW RW DW Post Qt
theorem PS.fn {toks : List Bt.Token} {z z1 : Ru.S} {x : Bt.Fn} (hz : PS toks z) (hr : Ru.funR z = .ok (x, z1)) : PS toks z1 ∧ z1.1.length < z.1.length := hz.le (Ru.funR_ok hz.good hr)
theorem PS.cl {toks : List Bt.Token} {z z1 : Ru.S} {x : Bt.Cl} (hz : PS toks z) (hr : Ru.clR z = .ok (x, z1)) : PS toks z1 ∧ z1.1.length < z.1.length := hz.le (Ru.clR_ok hz.good hr)
theorem sl_one {v : Value} {n : Nat} (h : IsSl v n) : v.oneCell' = true := by obtain ⟨A, c, rfl, _⟩ := h; rfl
structure Gh where
 fv : Value
 cv : Value
 l : List Nat
 F : List Nat
 m : List Nat
 G : List Nat
abbrev prgK (x : List Bt.Fn × List Bt.Cl) (y : Gh) : List Chunk := [.row y.fv 143 1 x.1.length (y.l.map pB), fnP.cks x.1 y.l y.F, .row y.cv 148 1 x.2.length (y.m.map pB), clP.cks x.2 y.m y.G]
section
variable {Φ : Hp} {p : Nat} {tv : Value} {toks : List Bt.Token}
theorem program_c (w : World) (hG : Knows Φ Glob) (hc : PCtx Φ toks tv) {z : Ru.S} (hz : PS toks z) (h0 : StP ⟨w, Φ, [p]⟩ Φ [pA p tv toks z] w) :
  Calls pg 63 #[pB p] w (PK w Φ p tv toks [pA p tv toks z] (Ru.prgR z) (fun _ (y : Gh) => .agg #[y.fv, y.cv]) fun x y => prgK x y) := by
 refine calls_of_AW (args := [pB p]) Tryz.func63 rfl (lBT rfl) (St ⟨w, Φ, [p]⟩ Φ [pA p tv toks z]) h0 ?_
 show AW _ _ [] _ _ _ [(0, pB p)] _
 have hln := hc.len
 have hle := Pa.suf_len hz.suf
 have hs0 : Ru.prgR z = Ru.bnd (Ru.bnd (Ru.defs z.1.length z) fun xs s => .ok (([] : List Bt.Fn) ++ xs, s)) (fun fs s1 => Ru.bnd (Ru.whens s1.1.length s1) fun cs s2 => if (Pa.pk s2.1).Kind = 4 then .ok ((fs, cs), s2) else Ru.fail s2) := by
  show Ru.bnd (Ru.defs z.1.length z) (fun fs s1 => Ru.bnd (Ru.whens s1.1.length s1) fun cs s2 => if (Pa.pk s2.1).Kind = 4 then .ok ((fs, cs), s2) else Ru.fail s2) = _
  cases Ru.defs z.1.length z with
  | error e => rfl
  | ok q => rfl
 refine gP ?_
 refine RW.alc rfl fun b2 => ?_
 refine gP ?_
 refine RW.alc rfl fun b3 => ?_
 refine gP ?_
 refine AW.wk (J' := St ⟨w, Φ, [p]⟩ Φ [pA p tv toks z, .blk b3 101 [nS, nS], .row nS 143 1 0 [], fnP.cks [] [] [], .blk b2 101 [nS, nS]]) (fun _ h => StP.sel (addNil (T := 143) (sz := 1) (Ru.OP.nil fnP h)) [4, 2, 0, 1, 3] (by decide) rfl) (AW.loop (fun s J m => ∃ (fs : List Bt.Fn) (l F : List Nat) (fv : Value) (zz : Ru.S) (g : Nat), s = [(0, pB p), (2, pB b2), (3, pB b3)] ∧ J = St ⟨w, Φ, [p]⟩ Φ [pA p tv toks zz, .blk b3 101 [fv, nS], .row fv 143 1 fs.length (l.map pB), fnP.cks fs l F, .blk b2 101 [nS, nS]] ∧ m = zz.1.length ∧ PS toks zz ∧ IsSl fv fs.length ∧ fs.length + zz.1.length ≤ toks.length ∧ zz.1.length ≤ g ∧ Ru.prgR z = Ru.bnd (Ru.bnd (Ru.defs g zz) fun xs s => .ok (fs ++ xs, s)) (fun fs s1 => Ru.bnd (Ru.whens s1.1.length s1) fun cs s2 => if (Pa.pk s2.1).Kind = 4 then .ok ((fs, cs), s2) else Ru.fail s2)) (s0 := _) (J1 := _) (m0 := _) ⟨[], [], [], nS, z, z.1.length, rfl, rfl, rfl, hz, isSl_nil, by simp only [List.length_nil]; omega, Nat.le_refl _, hs0⟩ ⟨rfl, rfl, rfl, trivial⟩ (fun _ h => h) ?_)
 rintro _ _ _ _ ⟨fs, l, F, fv, zz, g, rfl, rfl, rfl, hzz, hfv, hKn, hg, hs⟩
 have hpos := List.length_pos_iff.2 hzz.ne
 obtain ⟨g, rfl⟩ : ∃ g1, g = g1 + 1 := ⟨g - 1, by omega⟩
 rw [Ru.defs] at hs
 refine gP ?_
 refine RW.own (args := #[pB p, .string (bs Ru.sDef)]) (C2 := [.blk b3 101 [fv, .slice none 0 0], .row fv 143 1 fs.length (l.map pB), fnP.cks fs l F, .blk b2 101 [.slice none 0 0, .slice none 0 0]]) [0, 1, 2, 3, 4] (by decide) rfl rfl oK rfl rfl (fun w1 hw1 => accept_c w1 Φ hc hzz hw1) (fun er CE w2 he => nomatch he) ?_
 rintro ⟨_, _⟩ _ hres
 cases hres
 refine gP ?_
 refine AW.cond rfl (fun ht => ?_) fun ht => ?_
 ·
  have ht : Ru.isT Ru.sDef zz.1 = true := ht
  rw [if_pos ht]
  rw [if_pos ht] at hs
  obtain ⟨hz1, hl1⟩ := hzz.isT ht
  refine gP ?_
  refine AW.draw (J0 := St ⟨w, Φ, [p]⟩ Φ [.blk b3 101 [fv, nS]]) [.q, .q, .q, .e, .e, .e, .q, .e] od8 hmix (by kernel_rfl) ?_
  refine gP ?_
  refine DW.own (args := #[pB p]) (C2 := [.blk b3 101 [fv, nS], .row fv 143 1 fs.length (l.map pB), fnP.cks fs l F, .blk b2 101 [nS, nS]]) [0, 1, 2, 3, 4] (by decide) rfl rfl oK rfl rfl (fun w1 hw1 => function_c w1 hG hc hz1 hw1) (fun er CE w2 he hk hw => PK.pn (hs.trans (Ru.bnd_of_err (Ru.bnd_of_err (Ru.bnd_of_err he)))) hk hw) (fun _ _ _ h => St.one 2 rfl h) ?_
  rintro ⟨x, z3⟩ ⟨b, F1⟩ hr3
  obtain ⟨hz3, hl3⟩ := hz1.fn hr3
  rw [Ru.bnd_of_ok hr3] at hs
  refine gP ?_
  refine DW.eff _ _ (fun _ _ _ h => St.one 3 rfl h) rfl (e_buildSlice (vals := [(0, pB b)]) (cells := [pB b]) uT98 inf143 rfl rfl rfl (by kernel_rfl) rfl) fun b6 => ?_
  refine gP ?_
  refine DW.eff (fun xv : {vq : Value // IsSl vq (fs.length + 1)} => xv.1) (fun xv => St ⟨w, Φ, [p]⟩ Φ [.row (.slice (some ⟨b6, 0, none⟩) 1 1) 143 1 1 [pB b], pA p tv toks z3, fnP.ck x b F1, .blk b3 101 [fv, nS], .row xv.1 143 1 (fs.length + 1) (l.map pB ++ [pB b]), fnP.cks fs l F, .blk b2 101 [nS, nS]]) (fun _ _ _ h => St.one 3 rfl h) rfl (e_append 4 rfl rfl rfl uT98 inf143 rfl rfl rfl (Cells.row0 0 rfl) rfl (by omega) (by omega) (fun _ => rfl)) ?_
  rintro ⟨va, hva⟩
  refine gP ?_
  refine DW.effn (J' := St ⟨w, Φ, [p]⟩ Φ [.row (.slice (some ⟨b6, 0, none⟩) 1 1) 143 1 1 [pB b], pA p tv toks z3, fnP.ck x b F1, .blk b3 101 [va, nS], .row va 143 1 (fs.length + 1) (l.map pB ++ [pB b]), fnP.cks fs l F, .blk b2 101 [nS, nS]]) (fun h => absurd rfl h) (e_storeSl (v := va) 3 rfl rfl rfl hva sz98 rfl rfl rfl) ?_
  refine gP ?_
  have hs5 : Ru.prgR z = Ru.bnd (Ru.bnd (Ru.defs g z3) fun xs s => .ok ((fs ++ [x]) ++ xs, s)) (fun fs s1 => Ru.bnd (Ru.whens s1.1.length s1) fun cs s2 => if (Pa.pk s2.1).Kind = 4 then .ok ((fs, cs), s2) else Ru.fail s2) := by
   rw [hs]
   cases Ru.defs g z3 with
   | error e => rfl
   | ok q => obtain ⟨ks, s2⟩ := q; simp [Ru.bnd]
  exact Post.back (s' := _) (J' := _) (m' := _) (by simp only [] at *; omega) ⟨fs ++ [x], l ++ [b], F ++ F1, va, z3, g, rfl, rfl, rfl, hz3, by rw [List.length_append]; exact hva, by simp only [List.length_append, List.length_singleton] at *; omega, by simp only [] at *; omega, hs5⟩ ⟨rfl, rfl, rfl, trivial⟩ (fun w2 h => by
   rw [List.length_append, List.map_append]
   exact (Ru.OP.app ((Ru.OP.one (StP.sel (C' := [fnP.ck x b F1, pA p tv toks z3, .blk b3 101 [va, nS], .row va 143 1 (fs.length + 1) (l.map pB ++ [pB b]), fnP.cks fs l F, .blk b2 101 [nS, nS]]) h [2, 1, 3, 4, 5, 6] (by decide) rfl)).sel (C' := [fnP.cks fs l F, fnP.cks [x] [b] F1, pA p tv toks z3, .blk b3 101 [va, nS], .row va 143 1 (fs.length + 1) (l.map pB ++ [pB b]), .blk b2 101 [nS, nS]]) [4, 0, 1, 2, 3, 5] (by decide) rfl)).sel [1, 2, 3, 0, 4] (by decide) rfl)
 ·
  have ht : Ru.isT Ru.sDef zz.1 = false := ht
  rw [if_neg (by rw [ht]; simp)]
  rw [if_neg (by rw [ht]; simp)] at hs
  have hs1 : Ru.prgR z = Ru.bnd (Ru.bnd (Ru.whens zz.1.length zz) fun xs s => .ok (([] : List Bt.Cl) ++ xs, s)) (fun cs s2 => if (Pa.pk s2.1).Kind = 4 then .ok ((fs, cs), s2) else Ru.fail s2) := by
   rw [hs]
   simp only [Ru.bnd, List.append_nil]
   cases Ru.whens zz.1.length zz with
   | error e => rfl
   | ok q => rfl
  clear hs
  have hle1 := Pa.suf_len hzz.suf
  refine gP ?_
  refine AW.wk (J' := St ⟨w, Φ, [p]⟩ Φ [pA p tv toks zz, .blk b3 101 [fv, nS], .row fv 143 1 fs.length (l.map pB), fnP.cks fs l F, .row nS 148 1 0 [], clP.cks [] [] [], .blk b2 101 [nS, nS]]) (fun _ h => StP.sel (addNil (T := 148) (sz := 1) (Ru.OP.nil clP h)) [2, 3, 4, 5, 0, 1, 6] (by decide) rfl) (AW.loop (fun s J q => ∃ (cs : List Bt.Cl) (m H : List Nat) (cv : Value) (zc : Ru.S) (g : Nat), s = [(0, pB p), (2, pB b2), (3, pB b3)] ∧ J = St ⟨w, Φ, [p]⟩ Φ [pA p tv toks zc, .blk b3 101 [fv, cv], .row fv 143 1 fs.length (l.map pB), fnP.cks fs l F, .row cv 148 1 cs.length (m.map pB), clP.cks cs m H, .blk b2 101 [nS, nS]] ∧ q = zc.1.length ∧ PS toks zc ∧ IsSl cv cs.length ∧ cs.length + zc.1.length ≤ toks.length ∧ zc.1.length ≤ g ∧ Ru.prgR z = Ru.bnd (Ru.bnd (Ru.whens g zc) fun xs s => .ok (cs ++ xs, s)) (fun cs s2 => if (Pa.pk s2.1).Kind = 4 then .ok ((fs, cs), s2) else Ru.fail s2)) (s0 := _) (J1 := _) (m0 := _) ⟨[], [], [], nS, zz, zz.1.length, rfl, rfl, rfl, hzz, isSl_nil, by simp only [List.length_nil]; omega, Nat.le_refl _, hs1⟩ ⟨rfl, rfl, rfl, trivial⟩ (fun _ h => h) ?_)
  rintro _ _ _ _ ⟨cs, m, H, cv, zc, g2, rfl, rfl, rfl, hzc, hcv, hKc, hg2, hs⟩
  have hpc := List.length_pos_iff.2 hzc.ne
  obtain ⟨g2, rfl⟩ : ∃ g1, g2 = g1 + 1 := ⟨g2 - 1, by omega⟩
  rw [Ru.whens] at hs
  refine gP ?_
  refine RW.own (args := #[pB p, .string (bs Ru.sWhen)]) (C2 := [.blk b3 101 [fv, cv], .row fv 143 1 fs.length (l.map pB), fnP.cks fs l F, .row cv 148 1 cs.length (m.map pB), clP.cks cs m H, .blk b2 101 [.slice none 0 0, .slice none 0 0]]) [0, 1, 2, 3, 4, 5, 6] (by decide) rfl rfl oK rfl rfl (fun w1 hw1 => accept_c w1 Φ hc hzc hw1) (fun er CE w2 he => nomatch he) ?_
  rintro ⟨_, _⟩ _ hres
  cases hres
  refine gP ?_
  refine AW.cond rfl (fun ht => ?_) fun ht => ?_
  ·
   have ht : Ru.isT Ru.sWhen zc.1 = true := ht
   rw [if_pos ht]
   rw [if_pos ht] at hs
   obtain ⟨y0, hl0⟩ := hzc.isT ht
   have hk0 : Ru.clR (zc.1.tail, zc.2) = Ru.bnd (Ru.expr0 (zc.1.tail, zc.2)) fun c s1 => Ru.bnd (Ru.exp Ru.sThen s1) fun _ s2 => Ru.bnd (Ru.exp Ru.sSet s2) fun _ s3 => Ru.bnd (Ru.nameR s3) fun l s4 => Ru.bnd (Ru.exp Ru.sTo s4) fun _ s5 => Ru.bnd (Ru.expr0 s5) fun v s6 => .ok (⟨l, c, v⟩, s6) := rfl
   refine gP ?_
   refine RW.own (args := #[pB p]) (C2 := [.blk b3 101 [fv, cv], .row fv 143 1 fs.length (l.map pB), fnP.cks fs l F, .row cv 148 1 cs.length (m.map pB), clP.cks cs m H, .blk b2 101 [nS, nS]]) [0, 1, 2, 3, 4, 5, 6] (by decide) rfl rfl oK rfl rfl (fun w1 hw1 => expr0_c w1 hG hc y0 hw1) (fun er CE w2 he hk hw => PK.pn (hs.trans (Ru.bnd_of_err (Ru.bnd_of_err (Ru.bnd_of_err (hk0.trans (Ru.bnd_of_err he)))))) hk hw) ?_
   rintro ⟨xc, z1⟩ ⟨b1, F1⟩ hr1
   have hk1 := hk0.trans (Ru.bnd_of_ok hr1)
   obtain ⟨y1, hl1⟩ := y0.ex0 hr1
   refine gP ?_
   refine RW.q (v := .agg (cC default (pB b1) (.pointer none)).toArray) rfl (q_build (vals := [(1, pB b1)]) zero150 uT150 places150 rfl rfl) ?_
   refine RW.bxA (cs := cC default (pB b1) (.pointer none)) rfl rfl fun bq => ?_
   refine gP ?_
   refine RW.own (args := #[pB p, .string (bs Ru.sThen)]) (C2 := [.blk bq 150 (cC default (pB b1) (.pointer none)), tr xc b1 F1, .blk b3 101 [fv, cv], .row fv 143 1 fs.length (l.map pB), fnP.cks fs l F, .row cv 148 1 cs.length (m.map pB), clP.cks cs m H, .blk b2 101 [nS, nS]]) [1, 0, 2, 3, 4, 5, 6, 7, 8] (by decide) rfl rfl oK rfl rfl (fun w1 hw1 => expect_c w1 Φ hc y1 hw1) (fun er CE w2 he hk hw => PK.pn (hs.trans (Ru.bnd_of_err (Ru.bnd_of_err (Ru.bnd_of_err (hk1.trans (Ru.bnd_of_err he)))))) hk hw) ?_
   rintro ⟨_, z2⟩ _ hr2
   have hk2 := hk1.trans (Ru.bnd_of_ok hr2)
   obtain ⟨y2, hl2⟩ := y1.exp hr2
   refine gP ?_
   refine RW.own (args := #[pB p, .string (bs Ru.sSet)]) (C2 := [.blk bq 150 (cC default (pB b1) (.pointer none)), tr xc b1 F1, .blk b3 101 [fv, cv], .row fv 143 1 fs.length (l.map pB), fnP.cks fs l F, .row cv 148 1 cs.length (m.map pB), clP.cks cs m H, .blk b2 101 [nS, nS]]) [0, 1, 2, 3, 4, 5, 6, 7, 8] (by decide) rfl rfl oK rfl rfl (fun w1 hw1 => expect_c w1 Φ hc y2 hw1) (fun er CE w2 he hk hw => PK.pn (hs.trans (Ru.bnd_of_err (Ru.bnd_of_err (Ru.bnd_of_err (hk2.trans (Ru.bnd_of_err he)))))) hk hw) ?_
   rintro ⟨_, z3⟩ _ hr3
   have hk3 := hk2.trans (Ru.bnd_of_ok hr3)
   obtain ⟨y3, hl3⟩ := y2.exp hr3
   refine gP ?_
   refine RW.own (args := #[pB p]) (C2 := [.blk bq 150 (cC default (pB b1) (.pointer none)), tr xc b1 F1, .blk b3 101 [fv, cv], .row fv 143 1 fs.length (l.map pB), fnP.cks fs l F, .row cv 148 1 cs.length (m.map pB), clP.cks cs m H, .blk b2 101 [nS, nS]]) [0, 1, 2, 3, 4, 5, 6, 7, 8] (by decide) rfl rfl oK rfl rfl (fun w1 hw1 => name_c w1 Φ hc y3 hw1) (fun er CE w2 he hk hw => PK.pn (hs.trans (Ru.bnd_of_err (Ru.bnd_of_err (Ru.bnd_of_err (hk3.trans (Ru.bnd_of_err he)))))) hk hw) ?_
   rintro ⟨lk, z4⟩ _ hr4
   have hk4 := hk3.trans (Ru.bnd_of_ok hr4)
   obtain ⟨y4, hl4⟩ := y3.name hr4
   have hwl : wfK lk := by obtain ⟨_, _, rfl⟩ := Ru.nameR_ok y3.good hr4; exact wfK_of (wf_pk hc.wf y3.suf y3.ne)
   refine gP ?_
   refine RW.effn (J' := St ⟨w, Φ, [p]⟩ Φ [pA p tv toks z4, .blk bq 150 (cC lk (pB b1) (.pointer none)), tr xc b1 F1, .blk b3 101 [fv, cv], .row fv 143 1 fs.length (l.map pB), fnP.cks fs l F, .row cv 148 1 cs.length (m.map pB), clP.cks cs m H, .blk b2 101 [nS, nS]]) (e_store (v := .agg (tkC lk).toArray) 1 rfl rfl rfl sz134 rfl rfl rfl rfl rfl) ?_
   refine gP ?_
   refine RW.own (args := #[pB p, .string (bs Ru.sTo)]) (C2 := [.blk bq 150 (cC lk (pB b1) (.pointer none)), tr xc b1 F1, .blk b3 101 [fv, cv], .row fv 143 1 fs.length (l.map pB), fnP.cks fs l F, .row cv 148 1 cs.length (m.map pB), clP.cks cs m H, .blk b2 101 [nS, nS]]) [0, 1, 2, 3, 4, 5, 6, 7, 8] (by decide) rfl rfl oK rfl rfl (fun w1 hw1 => expect_c w1 Φ hc y4 hw1) (fun er CE w2 he hk hw => PK.pn (hs.trans (Ru.bnd_of_err (Ru.bnd_of_err (Ru.bnd_of_err (hk4.trans (Ru.bnd_of_err he)))))) hk hw) ?_
   rintro ⟨_, z5⟩ _ hr5
   have hk5 := hk4.trans (Ru.bnd_of_ok hr5)
   obtain ⟨y5, hl5⟩ := y4.exp hr5
   refine gP ?_
   refine RW.own (args := #[pB p]) (C2 := [.blk bq 150 (cC lk (pB b1) (.pointer none)), tr xc b1 F1, .blk b3 101 [fv, cv], .row fv 143 1 fs.length (l.map pB), fnP.cks fs l F, .row cv 148 1 cs.length (m.map pB), clP.cks cs m H, .blk b2 101 [nS, nS]]) [0, 1, 2, 3, 4, 5, 6, 7, 8] (by decide) rfl rfl oK rfl rfl (fun w1 hw1 => expr0_c w1 hG hc y5 hw1) (fun er CE w2 he hk hw => PK.pn (hs.trans (Ru.bnd_of_err (Ru.bnd_of_err (Ru.bnd_of_err (hk5.trans (Ru.bnd_of_err he)))))) hk hw) ?_
   rintro ⟨xv, z6⟩ ⟨b6v, F6⟩ hr6
   have hk6 := hk5.trans (Ru.bnd_of_ok hr6)
   obtain ⟨y6, hl6⟩ := y5.ex0 hr6
   rw [Ru.bnd_of_ok hk6] at hs
   refine gP ?_
   refine RW.effn (J' := St ⟨w, Φ, [p]⟩ Φ [pA p tv toks z6, tr xv b6v F6, .blk bq 150 (cC lk (pB b1) (pB b6v)), tr xc b1 F1, .blk b3 101 [fv, cv], .row fv 143 1 fs.length (l.map pB), fnP.cks fs l F, .row cv 148 1 cs.length (m.map pB), clP.cks cs m H, .blk b2 101 [nS, nS]]) (e_store (v := pB b6v) 2 rfl rfl rfl sz145 rfl rfl rfl rfl rfl) ?_
   refine gP ?_
   refine RW.eff _ _ rfl (e_buildSlice (vals := [(0, pB bq)]) (cells := [pB bq]) uT99 inf148 rfl rfl rfl (by kernel_rfl) rfl) fun b7 => ?_
   refine gP ?_
   refine RW.eff (fun xq : {vq : Value // IsSl vq (cs.length + 1)} => xq.1) (fun xq => St ⟨w, Φ, [p]⟩ Φ [.row (.slice (some ⟨b7, 0, none⟩) 1 1) 148 1 1 [pB bq], pA p tv toks z6, tr xv b6v F6, .blk bq 150 (cC lk (pB b1) (pB b6v)), tr xc b1 F1, .blk b3 101 [fv, cv], .row fv 143 1 fs.length (l.map pB), fnP.cks fs l F, .row xq.1 148 1 (cs.length + 1) (m.map pB ++ [pB bq]), clP.cks cs m H, .blk b2 101 [nS, nS]]) rfl (e_append 8 rfl rfl rfl uT99 inf148 rfl rfl rfl (Cells.row0 0 rfl) rfl (by omega) (by omega) (fun _ => rfl)) ?_
   rintro ⟨va, hva⟩
   refine gP ?_
   refine RW.effn (J' := St ⟨w, Φ, [p]⟩ Φ [.row (.slice (some ⟨b7, 0, none⟩) 1 1) 148 1 1 [pB bq], pA p tv toks z6, tr xv b6v F6, .blk bq 150 (cC lk (pB b1) (pB b6v)), tr xc b1 F1, .blk b3 101 [fv, va], .row fv 143 1 fs.length (l.map pB), fnP.cks fs l F, .row va 148 1 (cs.length + 1) (m.map pB ++ [pB bq]), clP.cks cs m H, .blk b2 101 [nS, nS]]) (e_storeSl (v := va) 5 rfl rfl rfl hva sz99 rfl rfl rfl) ?_
   refine gP ?_
   have hs5 : Ru.prgR z = Ru.bnd (Ru.bnd (Ru.whens g2 z6) fun xs s => .ok ((cs ++ [⟨lk, xc, xv⟩]) ++ xs, s)) (fun cs s2 => if (Pa.pk s2.1).Kind = 4 then .ok ((fs, cs), s2) else Ru.fail s2) := by
    rw [hs]
    cases Ru.whens g2 z6 with
    | error e => rfl
    | ok q => obtain ⟨ks, s2⟩ := q; simp [Ru.bnd]
   exact Post.back (s' := _) (J' := _) (m' := _) (by simp only [] at *; omega) ⟨cs ++ [⟨lk, xc, xv⟩], m ++ [bq], H ++ (bq :: (F1 ++ F6)), va, z6, g2, rfl, rfl, rfl, y6, by rw [List.length_append]; exact hva, by simp only [List.length_append, List.length_singleton] at *; omega, by simp only [] at *; omega, hs5⟩ ⟨rfl, rfl, rfl, trivial⟩ (fun w2 h => by
    rw [List.length_append, List.map_append]
    have k1 := Ru.OP.one (Ru.cl_join (x := ⟨lk, xc, xv⟩) hwl (StP.sel (C' := [.blk bq 150 (cC lk (pB b1) (pB b6v)), tr xc b1 F1, tr xv b6v F6, pA p tv toks z6, .blk b3 101 [fv, va], .row fv 143 1 fs.length (l.map pB), fnP.cks fs l F, .row va 148 1 (cs.length + 1) (m.map pB ++ [pB bq]), clP.cks cs m H, .blk b2 101 [nS, nS]]) h [3, 4, 2, 1, 5, 6, 7, 8, 9, 10] (by decide) rfl))
    exact (Ru.OP.app (k1.sel (C' := [clP.cks cs m H, clP.cks [⟨lk, xc, xv⟩] [bq] (bq :: (F1 ++ F6)), pA p tv toks z6, .blk b3 101 [fv, va], .row fv 143 1 fs.length (l.map pB), fnP.cks fs l F, .row va 148 1 (cs.length + 1) (m.map pB ++ [pB bq]), .blk b2 101 [nS, nS]]) [6, 0, 1, 2, 3, 4, 5, 7] (by decide) rfl)).sel [1, 2, 3, 4, 5, 0, 6] (by decide) rfl)
  ·
   have ht : Ru.isT Ru.sWhen zc.1 = false := ht
   rw [if_neg (by rw [ht]; simp)]
   rw [if_neg (by rw [ht]; simp)] at hs
   have hs2 : Ru.prgR z = if (Pa.pk zc.1).Kind = 4 then .ok ((fs, cs), zc) else Ru.fail zc := by
    rw [hs]
    simp only [Ru.bnd, List.append_nil]
   refine gP ?_
   refine RW.q rfl (q_call (args := #[pB p]) oK rfl rfl (fun w1 hw1 => peek_c w1 (blkAt 0 rfl hw1) (hc.mono hw1.phi) hzc)) ?_
   refine gP ?_
   refine AW.cond rfl (fun h4 => ?_) fun h4 => ?_
   ·
    have h4 : (Pa.pk zc.1).Kind ≠ 4 := by simpa using h4
    refine gP ?_
    refine RW.own (args := #[pB p]) (C2 := []) [0] (by decide) rfl rfl oK rfl rfl (fun w1 hw1 => fail_c w1 Φ hc hzc hw1) (fun er CE w2 he hk hw => PK.pn (hs2.trans ((if_neg h4).trans (fail_to he))) hk hw) ?_
    intro _ _ h; cases h
   ·
    have h4 : (Pa.pk zc.1).Kind = 4 := by simpa using h4
    refine gP ?_
    refine RW.effn (J' := St ⟨w, Φ, [p]⟩ Φ [pA p tv toks zc, .blk b3 101 [fv, cv], .row fv 143 1 fs.length (l.map pB), fnP.cks fs l F, .row cv 148 1 cs.length (m.map pB), clP.cks cs m H, .blk b2 101 [fv, cv]]) (e_store (v := .agg [fv, cv].toArray) 6 rfl rfl rfl sz101 rfl (by show ((fv.oneCell' && (cv.oneCell' && true)) = true); rw [sl_one hfv, sl_one hcv]; rfl) rfl rfl rfl) ?_
    refine gP ?_
    exact fin_res (vs := [.agg [fv, cv].toArray]) rfl rfl ⟨.agg rfl rfl (Cells.blk 6 rfl), trivial⟩ rfl (fun w2 hw => PK.ok ⟨fv, cv, l, F, m, H⟩ (hs2.trans (if_pos h4)) rfl (hw.sel [0, 2, 3, 4, 5] (by decide) rfl))
end
end Go.Proofs.YtnfmjfheciihjaaGreatDoor
namespace Go.Proofs.YtnfmjfheciihjaaGreatDoor
open Go Go.K Go.RowKit
open Ru (tr trs pB nC wfH wfK wfP prC fC cC fnP clP)
theorem run_equalNil {P : Program} {t : TypeId} {ms} (n : Nat) (hT : P.underlying t = some (.interface ms)) (w : World) : (Op.equalIn (n + 1) t .nilIface .nilIface).run P w = .ok true w := by
 simp [Op.equalIn, run_underlying hT]
theorem run_equalIface {P : Program} {t T : TypeId} {v : Value} {ms} (n : Nat) (hT : P.underlying t = some (.interface ms)) (w : World) : (Op.equalIn (n + 1) t (.iface T v) .nilIface).run P w = .ok false w := by
 simp [Op.equalIn, run_underlying hT]
theorem q_neqNil {J : Cls} {f : Nat → Value} {s : List (Nat × Value)} {dst : Option Nat} {ty : TypeId} {pos : String} {af : Array Edge} {g : Option (Nat × Bool)} {x : Operand} (hx : ev (fr f s) x = .nilIface) : Qt pg J f s ⟨dst, .binOp .neq 20 x (.const .nilIface) 20, ty, pos, af, g⟩ (.bool false) := qt_val fun w _ => by
 have h1 : pg.underlying 20 = some (.interface #[]) := uT20
 have hy : ev (fr f s) (.const .nilIface) = .nilIface := rfl
 have he : ∀ w, (Op.equal 20 .nilIface .nilIface).run pg w = .ok true w := fun w => run_equalNil 9999 h1 w
 simp [execOp, hx, hy, eqGuard, binOp, he]
theorem q_neqIface {J : Cls} {f : Nat → Value} {s : List (Nat × Value)} {dst : Option Nat} {ty : TypeId} {pos : String} {af : Array Edge} {g : Option (Nat × Bool)} {x : Operand} {T : TypeId} {v : Value} (hx : ev (fr f s) x = .iface T v) : Qt pg J f s ⟨dst, .binOp .neq 20 x (.const .nilIface) 20, ty, pos, af, g⟩ (.bool true) := qt_val fun w _ => by
 have h1 : pg.underlying 20 = some (.interface #[]) := uT20
 have hy : ev (fr f s) (.const .nilIface) = .nilIface := rfl
 have he : ∀ w, (Op.equal 20 (.iface T v) .nilIface).run pg w = .ok false w := fun w => run_equalIface 9999 h1 w
 simp [execOp, hx, hy, eqGuard, binOp, he]
theorem q_assertT {J : Cls} {f : Nat → Value} {s : List (Nat × Value)} {dst : Option Nat} {ty : TypeId} {pos : String} {af : Array Edge} {g : Option (Nat × Bool)} {x : Operand} {T xT : TypeId} {v : Value} [h : NI pg T] (hx : ev (fr f s) x = .iface T v) : Qt pg J f s ⟨dst, .typeAssert x xT T true, ty, pos, af, g⟩ (.tuple #[v, .bool true]) := qt_val fun w _ => by
 obtain ⟨d, h1, h2⟩ := h.h
 cases d <;> first | (cases h2; done) | simp [execOp, hx, Instr.typeAssert, run_underlying h1]
attribute [local irreducible] AW RW DW Post Qt
abbrev zP : List Value := [nS, nS]
abbrev dfC (c5 c4 c3 c2 p : Nat) (cs2 : List Value) (v3 v4 tv q : Value) (wr : Int) : List Chunk := [.blk c5 135 [pB p], .blk c4 3 [v4], .blk c3 43 [v3], .blk c2 101 cs2, .blk p 137 [tv, q, iV wr]]
section
variable {c5 c4 c3 c2 p : Nat} {cs2 : List Value} {v3 v4 tv q : Value} {wr : Int}
theorem rcv_ret_lo (w : World) (Φ : Hp) (hl : cs2.length = 2) (hwr : ¬ 0 ≤ wr) (h0 : StP ⟨w, Φ, own (dfC c5 c4 c3 c2 p cs2 v3 v4 tv q wr)⟩ Φ (dfC c5 c4 c3 c2 p cs2 v3 v4 tv q wr) w) :
  CallsD pg 62 #[pB c2, pB c3, pB c4, pB c5] .returning w fun e u' w' => (∃ v, e = .returned v) ∧ u' = .returning ∧ StP ⟨w, Φ, own (dfC c5 c4 c3 c2 p cs2 v3 v4 tv q wr)⟩ Φ (dfC c5 c4 c3 c2 p cs2 v3 v4 tv q wr) w' := by
 obtain ⟨ca, cb, rfl⟩ : ∃ a b, cs2 = [a, b] := by
  match cs2, hl with
  | [a, b], _ => exact ⟨a, b, rfl⟩
 refine callsD_of_wpS Tryz.func62 rfl fun c₀ cs hu => ?_
 have hrel : Rel Tryz.f62.ntmps [] (fr (fun _ => undef) [(0, pB c2), (1, pB c3), (2, pB c4), (3, pB c5)]) { tmps := #[pB c2, pB c3, pB c4, pB c5] ++ Array.replicate (Tryz.f62.ntmps - (#[pB c2, pB c3, pB c4, pB c5] : Array Value).size) undef, defers := [] } := rel_init (args := [pB c2, pB c3, pB c4, pB c5]) (lBT rfl)
 refine wpS_rec2 (rec_region (v := .nilIface) (cs' := c₀ :: cs) (by simp [recv, recoverD, hu]) hrel rfl rfl fun a' ha' => ?_)
 refine AW.go (J := St ⟨w, Φ, own (dfC c5 c4 c3 c2 p [ca, cb] v3 v4 tv q wr)⟩ Φ (dfC c5 c4 c3 c2 p [ca, cb] v3 v4 tv q wr)) ?_ ha' h0
 refine gP ?_
 refine RW.q rfl (q_neqNil rfl) ?_
 refine gP ?_
 refine AW.cond rfl (fun hw1 => ?_) fun hw1 => ?_
 ·
  exact absurd (by simpa using hw1) hwr
 ·
  have hw1 : ¬ 0 ≤ wr := by simpa using hw1
  refine gP ?_
  exact fin_S rfl rfl .returning (by rw [← hu]) (fun w' hw => ⟨⟨_, rfl⟩, rfl, hw⟩)
theorem rcv_ret_hi (w : World) (Φ : Hp) (hl : cs2.length = 2) (hwr : 0 ≤ wr) (h0 : StP ⟨w, Φ, own (dfC c5 c4 c3 c2 p cs2 v3 v4 tv q wr)⟩ Φ (dfC c5 c4 c3 c2 p cs2 v3 v4 tv q wr) w) :
  CallsD pg 62 #[pB c2, pB c3, pB c4, pB c5] .returning w fun e u' w' => (∃ v, e = .returned v) ∧ u' = .returning ∧ StP ⟨w, Φ, own (dfC c5 c4 c3 c2 p cs2 v3 v4 tv q wr)⟩ Φ (dfC c5 c4 c3 c2 p zP (iV 7) (iV wr) tv q wr) w' := by
 obtain ⟨ca, cb, rfl⟩ : ∃ a b, cs2 = [a, b] := by
  match cs2, hl with
  | [a, b], _ => exact ⟨a, b, rfl⟩
 refine callsD_of_wpS Tryz.func62 rfl fun c₀ cs hu => ?_
 have hrel : Rel Tryz.f62.ntmps [] (fr (fun _ => undef) [(0, pB c2), (1, pB c3), (2, pB c4), (3, pB c5)]) { tmps := #[pB c2, pB c3, pB c4, pB c5] ++ Array.replicate (Tryz.f62.ntmps - (#[pB c2, pB c3, pB c4, pB c5] : Array Value).size) undef, defers := [] } := rel_init (args := [pB c2, pB c3, pB c4, pB c5]) (lBT rfl)
 refine wpS_rec2 (rec_region (v := .nilIface) (cs' := c₀ :: cs) (by simp [recv, recoverD, hu]) hrel rfl rfl fun a' ha' => ?_)
 refine AW.go (J := St ⟨w, Φ, own (dfC c5 c4 c3 c2 p [ca, cb] v3 v4 tv q wr)⟩ Φ (dfC c5 c4 c3 c2 p [ca, cb] v3 v4 tv q wr)) ?_ ha' h0
 refine gP ?_
 refine RW.q rfl (q_neqNil rfl) ?_
 refine gP ?_
 refine AW.cond rfl (fun hw1 => ?_) fun hw1 => ?_
 ·
  have hw1 : 0 ≤ wr := by simpa using hw1
  refine gP ?_
  refine RW.q (v := .agg zP.toArray) rfl (q_build (vals := []) zero101 uT101 places101 rfl rfl) ?_
  refine gP ?_
  exact fin_S rfl rfl .returning (by rw [← hu]) (fun w' hw => ⟨⟨_, rfl⟩, rfl, hw⟩)
 ·
  exact absurd hwr (by simpa using hw1)
theorem rcv_pan_lo (w : World) (Φ : Hp) {at_ : Int} (hl : cs2.length = 2) (hwr : ¬ 0 ≤ wr) (h0 : StP ⟨w, Φ, own (dfC c5 c4 c3 c2 p cs2 v3 v4 tv q wr)⟩ Φ (dfC c5 c4 c3 c2 p cs2 v3 v4 tv q wr) w) :
  CallsD pg 62 #[pB c2, pB c3, pB c4, pB c5] (.panicking [⟨.iface 139 (.agg #[iV at_]), false, false⟩]) w fun e u' w' => (∃ v, e = .returned v) ∧ settle u' = .returning ∧ StP ⟨w, Φ, own (dfC c5 c4 c3 c2 p cs2 v3 v4 tv q wr)⟩ Φ (dfC c5 c4 c3 c2 p zP (iV 2) (iV at_) tv q wr) w' := by
 obtain ⟨ca, cb, rfl⟩ : ∃ a b, cs2 = [a, b] := by
  match cs2, hl with
  | [a, b], _ => exact ⟨a, b, rfl⟩
 refine callsD_of_wpS Tryz.func62 rfl fun c₀ cs hu => ?_
 have hrel : Rel Tryz.f62.ntmps [] (fr (fun _ => undef) [(0, pB c2), (1, pB c3), (2, pB c4), (3, pB c5)]) { tmps := #[pB c2, pB c3, pB c4, pB c5] ++ Array.replicate (Tryz.f62.ntmps - (#[pB c2, pB c3, pB c4, pB c5] : Array Value).size) undef, defers := [] } := rel_init (args := [pB c2, pB c3, pB c4, pB c5]) (lBT rfl)
 refine wpS_rec2 (rec_region (v := .iface 139 (.agg #[iV at_])) (cs' := { c₀ with mode := .panicking [⟨.iface 139 (.agg #[iV at_]), true, false⟩] } :: cs) (by simp [recv, recoverD, hu]) hrel rfl rfl fun a' ha' => ?_)
 refine AW.go (J := St ⟨w, Φ, own (dfC c5 c4 c3 c2 p [ca, cb] v3 v4 tv q wr)⟩ Φ (dfC c5 c4 c3 c2 p [ca, cb] v3 v4 tv q wr)) ?_ ha' h0
 refine gP ?_
 refine RW.q rfl (q_neqIface rfl) ?_
 refine gP ?_
 refine RW.q rfl (q_assertT rfl) ?_
 refine gP ?_
 refine RW.alc rfl fun bx => ?_
 refine gP ?_
 refine AW.draw (J0 := St ⟨w, Φ, own (dfC c5 c4 c3 c2 p [ca, cb] v3 v4 tv q wr)⟩ Φ [.blk bx 139 [iV at_]]) [.q, .q, .q, .e, .e, .e] od6 hmix (by kernel_rfl) (DW.q (v := .agg zP.toArray) (fun _ h => St.one 0 rfl h) rfl (q_build (vals := []) zero101 uT101 places101 rfl rfl) ?_)
 refine gP ?_
 refine DW.effn (J' := St ⟨w, Φ, own (dfC c5 c4 c3 c2 p [ca, cb] v3 v4 tv q wr)⟩ Φ [.blk bx 139 [iV at_], .blk c5 135 [pB p], .blk c4 3 [v4], .blk c3 43 [v3], .blk c2 101 zP, .blk p 137 [tv, q, iV wr]]) (fun _ _ h => St.one 0 rfl h) (e_store (v := .agg zP.toArray) 4 rfl rfl rfl sz101 rfl rfl rfl rfl rfl) (DW.effn (fun _ _ h => St.one 0 rfl h) (e_sto 3 rfl rfl rfl rfl rfl rfl) ?_)
 refine gP ?_
 refine AW.cond rfl (fun hw1 => ?_) fun hw1 => ?_
 ·
  exact absurd (by simpa using hw1) hwr
 ·
  have hw1 : ¬ 0 ≤ wr := by simpa using hw1
  refine gP ?_
  exact fin_S rfl rfl (.panicking [⟨.iface 139 (.agg #[iV at_]), true, false⟩]) rfl (fun w' hw => ⟨⟨_, rfl⟩, rfl, hw.sel [1, 2, 3, 4, 5] (by decide) rfl⟩)
theorem rcv_pan_hi (w : World) (Φ : Hp) {at_ : Int} (hl : cs2.length = 2) (hwr : 0 ≤ wr) (h0 : StP ⟨w, Φ, own (dfC c5 c4 c3 c2 p cs2 v3 v4 tv q wr)⟩ Φ (dfC c5 c4 c3 c2 p cs2 v3 v4 tv q wr) w) :
  CallsD pg 62 #[pB c2, pB c3, pB c4, pB c5] (.panicking [⟨.iface 139 (.agg #[iV at_]), false, false⟩]) w fun e u' w' => (∃ v, e = .returned v) ∧ settle u' = .returning ∧ StP ⟨w, Φ, own (dfC c5 c4 c3 c2 p cs2 v3 v4 tv q wr)⟩ Φ (dfC c5 c4 c3 c2 p zP (iV 7) (iV wr) tv q wr) w' := by
 obtain ⟨ca, cb, rfl⟩ : ∃ a b, cs2 = [a, b] := by
  match cs2, hl with
  | [a, b], _ => exact ⟨a, b, rfl⟩
 refine callsD_of_wpS Tryz.func62 rfl fun c₀ cs hu => ?_
 have hrel : Rel Tryz.f62.ntmps [] (fr (fun _ => undef) [(0, pB c2), (1, pB c3), (2, pB c4), (3, pB c5)]) { tmps := #[pB c2, pB c3, pB c4, pB c5] ++ Array.replicate (Tryz.f62.ntmps - (#[pB c2, pB c3, pB c4, pB c5] : Array Value).size) undef, defers := [] } := rel_init (args := [pB c2, pB c3, pB c4, pB c5]) (lBT rfl)
 refine wpS_rec2 (rec_region (v := .iface 139 (.agg #[iV at_])) (cs' := { c₀ with mode := .panicking [⟨.iface 139 (.agg #[iV at_]), true, false⟩] } :: cs) (by simp [recv, recoverD, hu]) hrel rfl rfl fun a' ha' => ?_)
 refine AW.go (J := St ⟨w, Φ, own (dfC c5 c4 c3 c2 p [ca, cb] v3 v4 tv q wr)⟩ Φ (dfC c5 c4 c3 c2 p [ca, cb] v3 v4 tv q wr)) ?_ ha' h0
 refine gP ?_
 refine RW.q rfl (q_neqIface rfl) ?_
 refine gP ?_
 refine RW.q rfl (q_assertT rfl) ?_
 refine gP ?_
 refine RW.alc rfl fun bx => ?_
 refine gP ?_
 refine AW.draw (J0 := St ⟨w, Φ, own (dfC c5 c4 c3 c2 p [ca, cb] v3 v4 tv q wr)⟩ Φ [.blk bx 139 [iV at_]]) [.q, .q, .q, .e, .e, .e] od6 hmix (by kernel_rfl) (DW.q (v := .agg zP.toArray) (fun _ h => St.one 0 rfl h) rfl (q_build (vals := []) zero101 uT101 places101 rfl rfl) ?_)
 refine gP ?_
 refine DW.effn (J' := St ⟨w, Φ, own (dfC c5 c4 c3 c2 p [ca, cb] v3 v4 tv q wr)⟩ Φ [.blk bx 139 [iV at_], .blk c5 135 [pB p], .blk c4 3 [v4], .blk c3 43 [v3], .blk c2 101 zP, .blk p 137 [tv, q, iV wr]]) (fun _ _ h => St.one 0 rfl h) (e_store (v := .agg zP.toArray) 4 rfl rfl rfl sz101 rfl rfl rfl rfl rfl) (DW.effn (fun _ _ h => St.one 0 rfl h) (e_sto 3 rfl rfl rfl rfl rfl rfl) ?_)
 refine gP ?_
 refine AW.cond rfl (fun hw1 => ?_) fun hw1 => ?_
 ·
  have hw1 : 0 ≤ wr := by simpa using hw1
  refine gP ?_
  refine RW.q (v := .agg zP.toArray) rfl (q_build (vals := []) zero101 uT101 places101 rfl rfl) ?_
  refine gP ?_
  exact fin_S rfl rfl (.panicking [⟨.iface 139 (.agg #[iV at_]), true, false⟩]) rfl (fun w' hw => ⟨⟨_, rfl⟩, rfl, hw.sel [1, 2, 3, 4, 5] (by decide) rfl⟩)
 ·
  exact absurd hwr (by simpa using hw1)
end
instance : ZL pg 135 [.pointer none] := ⟨.pointer none, by kernel_rfl, rfl⟩
theorem prgK0 {B : Bs} {Φ : Hp} {C : List Chunk} {w : World} (h : StP B Φ C w) : StP B Φ (prgK ([], []) ⟨.slice none 0 0, nS, [], [], [], []⟩) w :=
 addNil (Ru.OP.nil fnP (addNil (Ru.OP.nil clP (h.drop (List.nil_sublist _)))))
abbrev parV (x : (List Bt.Fn × List Bt.Cl) × Int × Int) (y : Gh) : Value := .tuple #[.agg #[y.fv, y.cv], iV x.2.1, iV x.2.2]
abbrev parR (w : World) (Φ : Hp) (toks : List Bt.Token) : Ending → World → Prop := OwnK w Φ [] (.ok (Ru.parse toks)) parV (fun x y => prgK x.1 y) pE (fun _ _ => False)
theorem parR0 {w w' : World} {Φ : Hp} {toks : List Bt.Token} {C : List Chunk} {k a : Int} (hp : Ru.parse toks = (([], []), k, a)) (h : StP ⟨w, Φ, []⟩ Φ C w') : parR w Φ toks (.returned (.tuple #[.agg zP.toArray, iV k, iV a])) w' :=
 .inl ⟨Ru.parse toks, ⟨.slice none 0 0, nS, [], [], [], []⟩, rfl, by rw [hp], by rw [hp]; exact prgK0 h⟩
theorem parse_c (w : World) (Φ : Hp) (hΦ : Hp.le Φ (hp w)) (hG : Knows Φ Glob) {tv : Value} {toks : List Bt.Token} (hc : PCtx Φ toks tv) (hg : Pa.good toks) : Calls pg 29 #[tv] w (parR w Φ toks) := by
 obtain ⟨tA, tc, rfl, _⟩ := hc.rep.sl
 refine calls_of_wp_defers Tryz.func29 rfl (AW.go (J := St ⟨w, Φ, []⟩ Φ []) (f := fun _ => undef) (s := [(0, .slice tA toks.length tc)]) ?_ (rel_init (args := [.slice tA toks.length tc]) (lBT rfl)) (StP.init w Φ hΦ []))
 have hp0 : pcs (.slice tA toks.length tc) toks (toks, -1) = [.slice tA toks.length tc, iV 0, iV (-1)] := by simp [pcs]
 refine gP ?_
 refine RW.alc rfl fun b2 => ?_
 refine RW.alc rfl fun b3 => ?_
 refine RW.alc rfl fun b4 => ?_
 refine gP ?_
 refine RW.q (v := .agg #[.slice tA toks.length tc, iV 0, iV (-1)]) rfl (q_build (vals := [(0, .slice tA toks.length tc), (2, iV (-1))]) zero137 uT137 places137 rfl rfl) ?_
 refine RW.bxA (cs := [.slice tA toks.length tc, iV 0, iV (-1)]) rfl rfl fun p => ?_
 refine RW.alc rfl fun c5 => ?_
 refine RW.effn (J' := St ⟨w, Φ, []⟩ Φ [.blk c5 135 [pB p], .blk p 137 [.slice tA toks.length tc, iV 0, iV (-1)], .blk b4 3 [iV 0], .blk b3 43 [iV 0], .blk b2 101 zP]) (e_store (v := pB p) 0 rfl rfl rfl (show (pg.info? 135).map (·.size) = some 1 by kernel_rfl) rfl rfl rfl rfl rfl) ?_
 refine gP ?_
 refine RW.dfr rfl ?_
 refine gP ?_
 refine RW.wk (J' := St ⟨w, Φ, []⟩ Φ [.blk c5 135 [pB p], pA p (.slice tA toks.length tc) toks (toks, -1), .blk b4 3 [iV 0], .blk b3 43 [iV 0], .blk b2 101 zP]) (fun _ h => by unfold pA; rw [hp0]; exact h) ?_
 have hz : PS toks (toks, -1) := ⟨List.suffix_refl _, hg⟩
 refine RW.ownQ (args := #[pB p]) (C2 := [.blk c5 135 [pB p], .blk b4 3 [iV 0], .blk b3 43 [iV 0], .blk b2 101 zP]) [1, 0, 2, 3, 4] (by decide) rfl rfl oK rfl rfl (fun w1 hw1 => program_c w1 hG hc hz hw1) (fun er CE a w' hr hk ha hw2 => ?_) ?_
 ·
  obtain ⟨q, rfl⟩ := hk
  have hw3 : StP ⟨w, Φ, []⟩ Φ (dfC c5 b4 b3 b2 p zP (iV 0) (iV 0) (.slice tA toks.length tc) (iV q) er.2) w' := hw2.sel [1, 2, 3, 4, 0] (by decide) rfl
  show Leaves _ _ a.tmps _ a.defers (.panicking _) w'
  rw [ha.defers]
  by_cases h0 : 0 ≤ er.2
  ·
   have hp2 : Ru.parse toks = (([], []), 7, er.2) := by unfold Ru.parse; rw [hr]; exact if_pos h0
   refine leaves_one oK (by simp) ((rcv_pan_hi w' Φ rfl h0 (StP.rebase hw3)).mono fun e u' w'' hh => ?_)
   obtain ⟨h1, h2, h3⟩ := hh
   have hj := StP.join hw3 h3
   exact ⟨h1, h2, _, results_run (J := St ⟨w, Φ, []⟩ Φ (dfC c5 b4 b3 b2 p zP (iV 7) (iV er.2) (.slice tA toks.length tc) (iV q) er.2)) (vs := [.agg zP.toArray, iV 7, iV er.2]) rfl ha.get hj ⟨.agg rfl rfl (Cells.blk 3 rfl), .one rfl (Cell.blk 2 rfl rfl), .one rfl (Cell.blk 1 rfl rfl), trivial⟩, parR0 hp2 hj⟩
  ·
   have hp2 : Ru.parse toks = (([], []), 2, er.1) := by unfold Ru.parse; rw [hr]; exact if_neg h0
   refine leaves_one oK (by simp) ((rcv_pan_lo w' Φ rfl h0 (StP.rebase hw3)).mono fun e u' w'' hh => ?_)
   obtain ⟨h1, h2, h3⟩ := hh
   have hj := StP.join hw3 h3
   exact ⟨h1, h2, _, results_run (J := St ⟨w, Φ, []⟩ Φ (dfC c5 b4 b3 b2 p zP (iV 2) (iV er.1) (.slice tA toks.length tc) (iV q) er.2)) (vs := [.agg zP.toArray, iV 2, iV er.1]) rfl ha.get hj ⟨.agg rfl rfl (Cells.blk 3 rfl), .one rfl (Cell.blk 2 rfl rfl), .one rfl (Cell.blk 1 rfl rfl), trivial⟩, parR0 hp2 hj⟩
 rintro ⟨x, z1⟩ ⟨fv, cv, l, F, m, G⟩ hres
 refine RW.use (φ := IsSl fv x.1.length ∧ IsSl cv x.2.length) (fun w1 hw1 => ⟨RowS.isSl (hw1.sAt 1 rfl), RowS.isSl (hw1.sAt 3 rfl)⟩) fun hsl => ?_
 obtain ⟨hfv, hcv⟩ := hsl
 refine gP ?_
 refine RW.effn (J' := St ⟨w, Φ, []⟩ Φ [pA p (.slice tA toks.length tc) toks z1, .row fv 143 1 x.1.length (l.map pB), fnP.cks x.1 l F, .row cv 148 1 x.2.length (m.map pB), clP.cks x.2 m G, .blk c5 135 [pB p], .blk b4 3 [iV 0], .blk b3 43 [iV 0], .blk b2 101 [fv, cv]]) (e_store (v := .agg [fv, cv].toArray) 8 rfl rfl rfl sz101 rfl (by show ((fv.oneCell' && (cv.oneCell' && true)) = true); rw [sl_one hfv, sl_one hcv]; rfl) rfl rfl rfl) (RW.effn (J' := St ⟨w, Φ, []⟩ Φ [pA p (.slice tA toks.length tc) toks z1, .row fv 143 1 x.1.length (l.map pB), fnP.cks x.1 l F, .row cv 148 1 x.2.length (m.map pB), clP.cks x.2 m G, .blk c5 135 [pB p], .blk b4 3 [iV 0], .blk b3 43 [iV 0], .blk b2 101 [fv, cv]]) (e_store (v := iV 0) 7 rfl rfl rfl sz43 rfl rfl rfl rfl rfl) (RW.effn (J' := St ⟨w, Φ, []⟩ Φ [pA p (.slice tA toks.length tc) toks z1, .row fv 143 1 x.1.length (l.map pB), fnP.cks x.1 l F, .row cv 148 1 x.2.length (m.map pB), clP.cks x.2 m G, .blk c5 135 [pB p], .blk b4 3 [iV 0], .blk b3 43 [iV 0], .blk b2 101 [fv, cv]]) (e_store (v := iV 0) 6 rfl rfl rfl sz3 rfl rfl rfl rfl rfl) ?_))
 refine gP ?_
 have hcl : ∀ w1, (St ⟨w, Φ, []⟩ Φ [pA p (.slice tA toks.length tc) toks z1, .row fv 143 1 x.1.length (l.map pB), fnP.cks x.1 l F, .row cv 148 1 x.2.length (m.map pB), clP.cks x.2 m G, .blk c5 135 [pB p], .blk b4 3 [iV 0], .blk b3 43 [iV 0], .blk b2 101 [fv, cv]]).p w1 →
   StP ⟨w, Φ, []⟩ Φ (dfC c5 b4 b3 b2 p [fv, cv] (iV 0) (iV 0) (.slice tA toks.length tc) (iV ((toks.length - z1.1.length : Nat) : Int)) z1.2 ++ prgK x ⟨fv, cv, l, F, m, G⟩) w1 := fun w1 h => StP.sel h [5, 6, 7, 8, 0, 1, 2, 3, 4] (by decide) rfl
 by_cases h0 : 0 ≤ z1.2
 ·
  have hp2 : Ru.parse toks = (([], []), 7, z1.2) := by unfold Ru.parse; rw [hres]; exact if_pos h0
  exact fin_D2 (J2 := St ⟨w, Φ, []⟩ Φ (dfC c5 b4 b3 b2 p zP (iV 7) (iV z1.2) (.slice tA toks.length tc) (iV ((toks.length - z1.1.length : Nat) : Int)) z1.2 ++ prgK x ⟨fv, cv, l, F, m, G⟩)) oK (fun w1 hw1 => (rcv_ret_hi w1 Φ rfl h0 (StP.hand (hcl w1 hw1))).mono fun e u w2 hh => ⟨hh.1, hh.2.1, StP.frameL (hcl w1 hw1) hh.2.2⟩) (vs := [.agg zP.toArray, iV 7, iV z1.2]) rfl ⟨.agg rfl rfl (Cells.blk 3 rfl), .one rfl (Cell.blk 2 rfl rfl), .one rfl (Cell.blk 1 rfl rfl), trivial⟩ rfl (fun w1 hw1 => parR0 hp2 hw1)
 ·
  have hp2 : Ru.parse toks = (x, 0, 0) := by unfold Ru.parse; rw [hres]; exact if_neg h0
  exact fin_D2 (J2 := St ⟨w, Φ, []⟩ Φ (dfC c5 b4 b3 b2 p [fv, cv] (iV 0) (iV 0) (.slice tA toks.length tc) (iV ((toks.length - z1.1.length : Nat) : Int)) z1.2 ++ prgK x ⟨fv, cv, l, F, m, G⟩)) oK (fun w1 hw1 => (rcv_ret_lo w1 Φ rfl h0 (StP.hand (hcl w1 hw1))).mono fun e u w2 hh => ⟨hh.1, hh.2.1, StP.frameL (hcl w1 hw1) hh.2.2⟩) (vs := [.agg [fv, cv].toArray, iV 0, iV 0]) rfl ⟨.agg rfl rfl (Cells.blk 3 rfl), .one rfl (Cell.blk 2 rfl rfl), .one rfl (Cell.blk 1 rfl rfl), trivial⟩ rfl (fun w1 hw1 => .inl ⟨Ru.parse toks, ⟨fv, cv, l, F, m, G⟩, rfl, by rw [hp2]; rfl, by rw [hp2]; exact StP.sel hw1 [5, 6, 7, 8] (by decide) rfl⟩)
end Go.Proofs.YtnfmjfheciihjaaGreatDoor
namespace Ru
open Go Go.K Bt
theorem TrF.mono {Φ Ψ : Hp} {x : Nd} {b : Nat} {F : List Nat} (hl : Hp.le Φ Ψ) (h : TrF Φ x b F) : TrF Ψ x b F := TrF.loc x b F (fun c hc => by
 cases e : Φ c with
 | none => exact absurd e (TrF.dom x b F h c hc)
 | some o => exact hl c o e) h
theorem TrL.get {H : Hp} : ∀ {xs : List Nd} {l F : List Nat}, TrL H xs l F → ∀ i (hi : i < xs.length), ∃ b F', l[i]? = some b ∧ TrF H xs[i] b F'
 | x :: xs, l, F, ⟨b, l2, F1, F2, h1, h2, h3, h4⟩, 0, _ => ⟨b, F1, by rw [h1]; rfl, h3⟩
 | x :: xs, l, F, ⟨b, l2, F1, F2, h1, h2, h3, h4⟩, i + 1, hi => by
  obtain ⟨b', F', h5, h6⟩ := TrL.get h4 i (by simpa using hi)
  exact ⟨b', F', by rw [h1]; simpa using h5, by simpa using h6⟩
theorem depL_le : ∀ {xs : List Nd} {i : Nat} (hi : i < xs.length), dep xs[i] ≤ dep.depL xs
 | x :: xs, 0, _ => by simp only [dep.depL, List.getElem_cons_zero]; omega
 | x :: xs, i + 1, hi => by
  have := depL_le (xs := xs) (i := i) (by simpa using hi)
  simp only [dep.depL, List.getElem_cons_succ]; omega
theorem depL_snoc : ∀ (xs : List Nd) (y : Nd), dep.depL (xs ++ [y]) = max (dep.depL xs) (dep y)
 | [], y => by simp only [List.nil_append, dep.depL]; omega
 | x :: xs, y => by simp only [List.cons_append, dep.depL]; rw [depL_snoc xs y]; omega
theorem depL_take (xs : List Nd) {i : Nat} (hi : i < xs.length) : dep.depL (xs.take (i + 1)) = max (dep.depL (xs.take i)) (dep xs[i]) := by
 rw [List.take_add_one, List.getElem?_eq_getElem hi]; exact depL_snoc _ _
theorem depL_pre : ∀ (xs : List Nd) (i : Nat), dep.depL (xs.take i) ≤ dep.depL xs
 | [], i => by rw [List.take_nil]; exact Nat.le_refl _
 | x :: xs, 0 => by rw [List.take_zero]; simp only [dep.depL]; omega
 | x :: xs, i + 1 => by
  have := depL_pre xs i
  rw [List.take_succ_cons]; simp only [dep.depL]; omega
theorem RowS.cellP {Φ : Hp} {v u : Value} {T sz n k : Nat} {xs : List Value} (h : RowS Φ v T sz n xs) (hk : xs[k]? = some u) : PCell Φ (Value.at v k) u := by
 have hlt := (List.getElem?_eq_some_iff.1 hk).1
 rcases h.2 with ⟨rfl, rfl⟩ | ⟨g, cap, cur, rfl, h2, _, _, _, h6⟩
 ·
  have := h.1; omega
 ·
  have hc : cur[k]? = some u := by
   rw [← h6, List.getElem?_take] at hk
   split at hk
   ·
    simpa using hk
   ·
    cases hk
  show PCell Φ ((⟨g, 0, none⟩ : Addr).add k) u
  have ha : (⟨g, 0, none⟩ : Addr).add k = ⟨g, k, none⟩ := by simp only [Addr.add]; split <;> simp_all
  rw [ha]
  exact ⟨_, _, _, h2, rfl, hc⟩
end Ru
namespace Go.Proofs.YtnfmjfheciihjaaGreatDoor
open Go Go.K Go.RowKit
open Ru (tr trs pB nC TrF)
attribute [local irreducible] AW RW DW Post Qt
theorem depth_c : ∀ (n : Nat) (w : World) (x : Bt.Nd) (b : Nat) (F : List Nat), Ru.dep x ≤ n → n ≤ 1000000 → TrF (hp w) x b F →
  Calls pg 64 #[pB b] w fun e w' => e = .returned (iV ((Ru.dep x : Nat) : Int)) ∧ Bel w.heap.size w w' := by
 intro n
 induction n with
 | zero =>
  intro w x b F hd
  obtain ⟨k, n, o, q, a, nm, ow, ks⟩ := x
  simp only [Ru.dep] at hd
  omega
 | succ n ih =>
 intro w x b F hd hn hT
 obtain ⟨k, n0, o, q, a, nm, ow, ks⟩ := x
 obtain ⟨kv, l, G, h1, h2, h3, h4, h5⟩ := hT
 simp only [Ru.dep] at hd
 have hsl := h2.isSl
 refine calls_of_AW (args := [pB b]) Tryz.func64 rfl (lBT rfl) (St ⟨w, hp w, []⟩ (hp w) []) (StP.init w (hp w) (Hp.le_refl _) []) ?_
 show AW _ _ [] _ _ _ [(0, pB b)] _
 have hlen : ks.length ≤ maxLen := by
  rcases h2.2 with ⟨_, h⟩ | ⟨g, cap, cur, _, _, h6, h7, _⟩
  ·
   omega
  ·
   omega
 simp only [maxLen] at hlen
 have hkvc : ∀ {C : List Chunk}, Cell (St ⟨w, hp w, []⟩ (hp w) C) ⟨b, 11, none⟩ kv := fun {C} => Cell.phi ⟨_, _, _, h1, rfl, by simp⟩
 obtain ⟨A, c, rfl, _⟩ := hsl
 refine gP ?_
 refine RW.q rfl (q_load rfl uT142 rfl hkvc) (RW.q rfl (q_len_sl rfl h2.isSl uT142) ?_)
 refine gP ?_
 refine AW.loop (fun s J m => ∃ i : Nat, s = [(3, iV ((Ru.dep.depL (ks.take i) : Nat) : Int)), (9, .slice A ks.length c), (10, iV (ks.length : Int)), (11, iV (i : Int))] ∧ J = St ⟨w, hp w, []⟩ (hp w) [] ∧ m = ks.length - i ∧ i ≤ ks.length) (s0 := _) (J1 := _) (m0 := _) ⟨0, rfl, rfl, rfl, by omega⟩ ⟨rfl, rfl, rfl, rfl, trivial⟩ (fun _ h => h) ?_
 rintro _ _ _ _ ⟨i, rfl, rfl, rfl, hi⟩
 have hmx : Ru.dep.depL (ks.take i) ≤ n := by
  have := Ru.depL_pre ks i
  omega
 refine gP ?_
 refine AW.cond rfl (fun h => ?_) fun h => ?_
 ·
  have h : i < ks.length := by have := odT h; omega
  obtain ⟨b1, F1, hb1, hT1⟩ := Ru.TrL.get h3 i h
  have hd1 : Ru.dep ks[i] ≤ n := by have := Ru.depL_le (xs := ks) h; omega
  refine gP ?_
  refine RW.q (v := .pointer (some (Value.at (.slice A ks.length c) (i * 1)))) rfl (q_indexAddr rfl rfl h2.isSl uT142 sz145 (by omega) (by omega) rfl) (RW.q (v := pB b1) rfl (q_load rfl uT145 rfl (Cell.phi (Ru.RowS.cellP h2 (by rw [Nat.mul_one, List.getElem?_map, hb1]; rfl)))) ?_)
  refine gP ?_
  refine RW.q rfl (q_call (args := #[pB b1]) oK rfl rfl (fun w1 hw1 => ih w1 ks[i] b1 F1 hd1 (by omega) (Ru.TrF.mono hw1.phi hT1))) (RW.q (v := iV ((Ru.dep.depL (ks.take (i + 1)) : Nat) : Int)) rfl (q_as (v := iV (max ((Ru.dep.depL (ks.take i) : Nat) : Int) ((Ru.dep ks[i] : Nat) : Int))) (q_max rfl rfl) (by rw [Ru.depL_take ks h]; exact congrArg _ (by omega))) ?_)
  refine gP ?_
  exact Post.back (s' := _) (J' := _) (m' := _) (by omega) ⟨i + 1, rfl, rfl, rfl, by omega⟩ ⟨rfl, rfl, rfl, rfl, trivial⟩ (fun _ h => h)
 ·
  have h : i = ks.length := by have := odF h; omega
  subst h
  rw [List.take_length] at hmx ⊢
  refine gP ?_
  exact fin_res (vs := [iV ((Ru.dep.depL ks + 1 : Nat) : Int)]) rfl rfl ⟨.tmp rfl, trivial⟩ rfl (fun w' hw => ⟨by simp only [Ru.dep]; rfl, hw.below rfl⟩)
end Go.Proofs.YtnfmjfheciihjaaGreatDoor
namespace Go.Proofs.YtnfmjfheciihjaaGreatDoor
open Go Go.K Go.RowKit
attribute [local irreducible] AW RW DW Post Qt
theorem least_c (w : World) (Φ : Hp) (hΦ : Hp.le Φ (hp w)) {a d : Int} :
  Calls pg 71 #[iV a, iV d] w fun e w' => e = .returned (iV (Ru.lst a d)) ∧ Bel w.heap.size w w' := by
 refine calls_of_AW (args := [iV a, iV d]) Tryz.func71 rfl (lBT rfl) (St ⟨w, Φ, []⟩ Φ []) (StP.init w Φ hΦ []) ?_
 show AW pg 11 [] _ _ _ [(0, iV a), (1, iV d)] _
 refine g12 ?_
 refine AW.cond rfl (fun hc1 => ?_) fun hc1 => ?_
 ·
  simp [-List.getD_eq_getElem?_getD] at hc1
  refine g8 ?_
  exact fin_val (v' := iV d) rfl rfl rfl (congrArg (Value.int .i64) (by unfold Ru.lst; rw [if_pos (by omega)]))
 ·
  simp [-List.getD_eq_getElem?_getD] at hc1
  refine g11 ?_
  exact fin_val (v' := iV (min a d)) rfl rfl rfl (congrArg (Value.int .i64) (by unfold Ru.lst; rw [if_neg (by omega)]))
end Go.Proofs.YtnfmjfheciihjaaGreatDoor
