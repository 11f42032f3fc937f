/- Lemmas. Conditions: those of each theorem. -/
import Derived.Test.YtjmeeofdffdpnaaGreatDoorMVxE
import Derived.Test.YtjmeeofdffdpnaaGreatDoorMVmT
set_option maxRecDepth 8000
set_option maxHeartbeats 16000000
namespace Go.K
open Go Go.RowKit
theorem own_in {P : Program} {B : Bs} {Φ : Hp} {C A C2 : List Chunk} {w : World} {k : FuncId} {args : Array Value} {ζ : Type} {V : ζ → Value} {K : ζ → List Chunk} (h0 : StP B Φ C w) (is : List Nat) (hn : is.Nodup) (hi : is.map (C[·]?) = (A ++ C2).map some) (h : StP ⟨w, Φ, fps A⟩ Φ A w → Calls P k args w (OwnU w Φ A V K)) :
   Calls P k args w fun e w' => ∃ z, e = .returned (V z) ∧ StP B Φ (K z ++ C2) w' := by
 have hw1 : StP B Φ (A ++ C2) w := StP.sel h0 is hn hi
 exact (h hw1.hand).mono fun e w' ⟨z, h1, h2⟩ => ⟨z, h1, StP.frameL hw1 h2⟩
end Go.K
namespace Vm
open Mn
theorem pop_some {m m1 : M} {v : Int} (h : m.pop = some (v, m1)) : ∃ S, m.st = S ++ [v] ∧ m1 = { m with st := S } := by
 unfold M.pop at h
 obtain ⟨x, hx, he⟩ := mS h
 obtain ⟨rfl, rfl⟩ := Prod.mk.inj he
 obtain ⟨S, hS⟩ := List.getLast?_eq_some_iff.1 hx
 exact ⟨S, hS, by rw [hS, List.dropLast_concat]⟩
theorem op2_T {k x y : Int} (_ : 5 ≤ k ∧ k ≤ 11) (h8 : k ≠ 8) : op2 (k - 1) x y = .ok (Go.Proofs.YtjmeeofdffdpnaaGreatDoor.op2T k x y) := by
 unfold op2 Go.Proofs.YtjmeeofdffdpnaaGreatDoor.op2T
 by_cases h5 : k = 5
 · rw [if_pos (by omega), if_pos h5]
 rw [if_neg (by omega), if_neg h5]
 by_cases h6 : k = 6
 · rw [if_pos (by omega), if_pos h6]
 rw [if_neg (by omega), if_neg h6]
 by_cases h7 : k = 7
 · rw [if_pos (by omega), if_pos h7]
 rw [if_neg (by omega), if_neg h7, if_neg (by omega)]
 by_cases h9 : k = 9
 · rw [if_pos (by omega), if_pos h9]
 rw [if_neg (by omega), if_neg h9]
 by_cases h10 : k = 10
 · rw [if_pos (by omega), if_pos h10]
 rw [if_neg (by omega), if_neg h10]
end Vm
namespace Go.Proofs.YtjmeeofdffdpnaaGreatDoor
open Go Go.K Go.RowKit
open Ru (pB BasV)
attribute [local irreducible] AW RW DW Post Qt
def frC : List (Nat × List Int) → List Value → List Value
 | q :: cl, v :: vs => .int .i64 (q.1 : Int) :: v :: frC cl vs
 | _, _ => []
def Frs (Φ : Hp) : List (Nat × List Int) → List Value → Prop
 | [], [] => True
 | q :: cl, v :: vs => RepSl Φ q.2 v ∧ Frs Φ cl vs
 | _, _ => False
theorem Frs.mono {Φ Ψ : Hp} (hl : Hp.le Φ Ψ) : ∀ {cl : List (Nat × List Int)} {vs : List Value}, Frs Φ cl vs → Frs Ψ cl vs
 | [], [], _ => trivial
 | _ :: _, _ :: _, h => ⟨h.1.mono hl, Frs.mono hl h.2⟩
 | [], _ :: _, h => h.elim
 | _ :: _, [], h => h.elim
theorem Frs.len {Φ : Hp} : ∀ {cl : List (Nat × List Int)} {vs : List Value}, Frs Φ cl vs → vs.length = cl.length
 | [], [], _ => rfl
 | _ :: _, _ :: _, h => by simp [Frs.len h.2]
 | [], _ :: _, h => h.elim
 | _ :: _, [], h => h.elim
theorem Frs.snoc {Φ : Hp} {q : Nat × List Int} {v : Value} : ∀ {cl : List (Nat × List Int)} {vs : List Value}, Frs Φ cl vs → RepSl Φ q.2 v → Frs Φ (cl ++ [q]) (vs ++ [v])
 | [], [], _, h => ⟨h, trivial⟩
 | _ :: _, _ :: _, h, h2 => ⟨h.1, Frs.snoc h.2 h2⟩
 | [], _ :: _, h, _ => h.elim
 | _ :: _, [], h, _ => h.elim
theorem Frs.last {Φ : Hp} {q : Nat × List Int} : ∀ {cl : List (Nat × List Int)} {vs : List Value}, Frs Φ (cl ++ [q]) vs → ∃ vs0 v, vs = vs0 ++ [v] ∧ Frs Φ cl vs0 ∧ RepSl Φ q.2 v
 | [], [v], h => ⟨[], v, rfl, trivial, h.1⟩
 | [], [], h => h.elim
 | [], _ :: _ :: _, h => h.2.elim
 | _ :: cl, v :: vs, h => by
   obtain ⟨vs0, v1, h1, h2, h3⟩ := Frs.last (cl := cl) h.2
   exact ⟨v :: vs0, v1, by rw [h1]; rfl, ⟨h.1, h2⟩, h3⟩
 | _ :: _, [], h => h.elim
theorem frC_snoc {q : Nat × List Int} {v : Value} : ∀ {cl : List (Nat × List Int)} {vs : List Value}, vs.length = cl.length → frC (cl ++ [q]) (vs ++ [v]) = frC cl vs ++ [.int .i64 (q.1 : Int), v]
 | [], [], _ => rfl
 | _ :: cl, _ :: vs, h => by simp only [List.cons_append, frC, frC_snoc (cl := cl) (vs := vs) (by simpa using h)]
 | [], _ :: _, h => by simp at h
 | _ :: _, [], h => by simp at h
theorem frC_len : ∀ {cl : List (Nat × List Int)} {vs : List Value}, vs.length = cl.length → (frC cl vs).length = cl.length * 2
 | [], [], _ => rfl
 | _ :: cl, _ :: vs, h => by simp only [frC, List.length_cons, frC_len (cl := cl) (vs := vs) (by simpa using h)]; omega
 | [], _ :: _, h => by simp at h
 | _ :: _, [], h => by simp at h
abbrev mK (x : Nat) (y : MnV) (m : Vm.M) (ks kc : Value) (vs : List Value) : List Chunk := [mB x y m.pc ks kc m.u m.fa m.en, sR ks m.st, kR kc m.cl.length (frC m.cl vs), tR y m.tg, eR y m.se]
structure OkM (N : Nat) (m : Vm.M) : Prop where
 st : ∀ v ∈ m.st, I64 v
 cl : ∀ q ∈ m.cl, q.2.length ≤ 100000000 ∧ ∀ v ∈ q.2, I64 v
 cn : m.cl.length ≤ 100
 u : 0 ≤ m.u ∧ m.u ≤ 10000
 tg : ∀ v ∈ m.tg, I64 v
 tn : m.tg.length = N
 sn : m.se.length = N
structure CxR (Φ : Hp) (X : Vm.Cx) (y : MnV) : Prop where
 f2 : RepSl Φ X.c.Funcs y.f2
 fc : y.fc.ok Φ X.f
 d : y.d = X.d
 p : PosS Φ y.b.lv X.ps
 l : IsSl y.b.lv X.ps.length
 F : ∀ n o q, I64 (Mn.factV X.f X.d n o q)
 pi : ∀ v ∈ X.ps, I64 v
theorem CxR.mono {Φ Ψ : Hp} {X : Vm.Cx} {y : MnV} (h : CxR Φ X y) (hl : Hp.le Φ Ψ) : CxR Ψ X y := ⟨h.f2.mono hl, h.fc.mono hl, h.d, h.p.mono hl, h.l, h.F, h.pi⟩
def tgt (k : Int) : FuncId := if k = 0 then 75 else if k = 1 then 76 else if k = 2 then 77 else if k = 3 then 78 else if k = 4 then 79
 else if k = 8 then 81 else if k ≤ 11 then 80 else if k = 12 then 82 else if k = 13 then 83 else if k = 14 then 84
 else if k = 15 then 85 else if k = 16 then 86 else if k = 17 then 87 else if k = 18 then 88 else 89
theorem ite_own {c : Prop} [Decidable c] {a b : FuncId} (h1 : Go.K.Own pg a) (h2 : Go.K.Own pg b) : Go.K.Own pg (if c then a else b) := by
 split
 · exact h1
 · exact h2
theorem own_tgt (k : Int) : Go.K.Own pg (tgt k) := by
 unfold tgt
 iterate 14 refine ite_own (oK) ?_
 exact oK
structure Zs where
 ks : Value
 kc : Value
 vs : List Value
 ex : Option (Value × List Int)
def exK : Option (Value × List Int) → List Chunk
 | none => []
 | some (v, l) => [.row v 3 1 l.length (l.map (Value.int .i64))]
def exT (Φ : Hp) (cl : List (Nat × List Int)) (z : Zs) : Prop := match z.ex with
 | none => Frs Φ cl z.vs
 | some (v, l) => ∃ cl0 b vs0, cl = cl0 ++ [(b, l)] ∧ z.vs = vs0 ++ [v] ∧ Frs Φ cl0 vs0
abbrev mstR (w : World) (Φ : Hp) (A : List Chunk) (x : Nat) (y : MnV) (m' : Vm.M) : Ending → World → Prop := OwnG w Φ A (fun _ : Zs => .tuple #[]) (fun z => exK z.ex ++ mK x y m' z.ks z.kc z.vs) fun z Ψ => exT Ψ m'.cl z
theorem minstr_c (w : World) {Φ : Hp} {X : Vm.Cx} {x : Nat} {y : MnV} {m m' : Vm.M} {o : Vm.Op} {ks kc : Value} {vs : List Value} {N : Nat} (hX : CxR Φ X y) (hN : X.ps.length = N) (_ : o.Kind = 0 → I64 o.A) (hoB : o.Kind = 2 → o.B ≤ 9223372036854775807) (hs : Vm.stepO X o m = some m') (hm : OkM N m) (hb : m.st.length ≤ 800000000) (hF : Frs Φ m.cl vs) (h0 : StP ⟨w, Φ, fps (mK x y m ks kc vs)⟩ Φ (mK x y m ks kc vs) w) :
   Calls pg (tgt o.Kind) #[pB x, .agg (opC o).toArray] w (mstR w Φ (mK x y m ks kc vs) x y m') := by
 obtain ⟨pc, S, cl, u, tg, se, fa, en⟩ := m
 have hvl := hF.len
 simp only at hb hvl
 have hfl := frC_len hvl
 have hu := hm.u
 have hcn := hm.cn
 simp only at hu hcn
 have hSI := hm.st
 have htn := hm.tn
 have hsn := hm.sn
 simp only at hSI htn hsn
 unfold Vm.stepO at hs
 by_cases k0 : o.Kind = 0
 · rw [if_pos k0] at hs
   obtain rfl := (sJ hs).symm
   rw [show tgt o.Kind = 75 by unfold tgt; rw [if_pos k0]]
   exact (own_in h0 [0, 1, 2, 3, 4] (by decide) (A := [mB x y pc ks kc u fa en, sR ks S]) (C2 := [kR kc cl.length (frC cl vs), tR y tg, eR y se]) rfl (fun h => ilit_c w (by omega) h)).mono fun e w' ⟨z, he, hw⟩ => ⟨⟨z, kc, vs, none⟩, Φ, he, Hp.le_refl _, hw, hF⟩
 rw [if_neg k0] at hs
 by_cases k1 : o.Kind = 1
 · rw [if_pos k1] at hs
   obtain ⟨q, hq, h2⟩ := bS hs
   split at h2
   rotate_left
   · cases h2
   rename_i hA
   obtain rfl := (sJ h2).symm
   obtain ⟨cl0, rfl⟩ := List.getLast?_eq_some_iff.1 hq
   obtain ⟨vs0, v, rfl, hF0, hv⟩ := hF.last
   obtain ⟨i, hi⟩ : ∃ i : Nat, o.A = i := ⟨o.A.toNat, by omega⟩
   rw [show tgt o.Kind = 76 by rw [k1]; rfl]
   have hl0 := hF0.len
   have hfr : frC (cl0 ++ [q]) (vs0 ++ [v]) = frC cl0 vs0 ++ [.int .i64 (q.1 : Int), v] := frC_snoc hl0
   simp only [mK, hfr, List.length_append, List.length_singleton] at h0 hcn ⊢
   refine (own_in h0 [0, 1, 2, 3, 4] (by decide) (A := [mB x y pc ks kc u fa en, sR ks S, kR kc (cl0.length + 1) (frC cl0 vs0 ++ [.int .i64 (q.1 : Int), v])]) (C2 := [tR y tg, eR y se]) rfl (fun h => iload_c w (frC_len hl0) hv hi (by omega) (by omega) (by omega) h)).mono fun e w' ⟨z, he, hw⟩ => ⟨⟨z, kc, vs0 ++ [v], none⟩, Φ, he, Hp.le_refl _, ?_, hF⟩
   simp only [exK, List.nil_append, mK, Vm.M.push, hfr, List.length_append, List.length_singleton, hi, Int.toNat_natCast]
   exact hw
 rw [if_neg k1] at hs
 by_cases k2 : o.Kind = 2
 · rw [if_pos k2] at hs
   split at hs
   rotate_left
   · cases hs
   rename_i hA
   obtain rfl := (sJ hs).symm
   rw [show tgt o.Kind = 77 by rw [k2]; rfl]
   exact (own_in h0 [0, 1, 2, 3, 4] (by decide) (A := [mB x y pc ks kc u fa en, sR ks S]) (C2 := [kR kc cl.length (frC cl vs), tR y tg, eR y se]) rfl (fun h => ifact_c w hX.fc ⟨hA.1, hA.2.1⟩ hA.2.2 (hoB k2) (by omega) h)).mono fun e w' ⟨z, he, hw⟩ => ⟨⟨z, kc, vs, none⟩, Φ, he, Hp.le_refl _, by rw [hX.d] at hw; exact hw, hF⟩
 rw [if_neg k2] at hs
 by_cases k3 : o.Kind = 3
 · rw [if_pos k3] at hs
   obtain ⟨⟨v, m1⟩, hp, h2⟩ := bS hs
   obtain ⟨S0, hS, rfl⟩ := Vm.pop_some hp
   simp only at hS
   subst hS
   obtain rfl := (sJ h2).symm
   rw [List.length_append] at hb
   rw [show tgt o.Kind = 78 by rw [k3]; rfl]
   exact (own_in h0 [0, 1, 2, 3, 4] (by decide) (A := [mB x y pc ks kc u fa en, sR ks (S0 ++ [v])]) (C2 := [kR kc cl.length (frC cl vs), tR y tg, eR y se]) rfl (fun h => ineg_c w (hSI v (by simp)) (by omega) h)).mono fun e w' ⟨z, he, hw⟩ => ⟨⟨z, kc, vs, none⟩, Φ, he, Hp.le_refl _, hw, hF⟩
 rw [if_neg k3] at hs
 by_cases k4 : o.Kind = 4
 · rw [if_pos k4] at hs
   obtain ⟨⟨v, m1⟩, hp, h2⟩ := bS hs
   obtain ⟨S0, hS, rfl⟩ := Vm.pop_some hp
   simp only at hS
   subst hS
   obtain rfl := (sJ h2).symm
   rw [List.length_append] at hb
   rw [show tgt o.Kind = 79 by rw [k4]; rfl]
   exact (own_in h0 [0, 1, 2, 3, 4] (by decide) (A := [mB x y pc ks kc u fa en, sR ks (S0 ++ [v])]) (C2 := [kR kc cl.length (frC cl vs), tR y tg, eR y se]) rfl (fun h => inot_c w (hSI v (by simp)) (by omega) h)).mono fun e w' ⟨z, he, hw⟩ => ⟨⟨z, kc, vs, none⟩, Φ, he, Hp.le_refl _, hw, hF⟩
 rw [if_neg k4] at hs
 by_cases k5 : 5 ≤ o.Kind ∧ o.Kind ≤ 11
 · rw [if_pos k5] at hs
   obtain ⟨⟨v2, m2⟩, hp, h2⟩ := bS hs
   obtain ⟨S1, hS, rfl⟩ := Vm.pop_some hp
   simp only at hS
   subst hS
   obtain ⟨⟨v1, m1⟩, hp1, h3⟩ := bS h2
   obtain ⟨S0, hS, rfl⟩ := Vm.pop_some hp1
   simp only at hS
   subst hS
   simp only at h3
   rw [List.length_append, List.length_append] at hb
   by_cases k8 : o.Kind = 8
   · rw [show tgt o.Kind = 81 by rw [k8]; rfl]
     refine (own_in h0 [0, 1, 2, 3, 4] (by decide) (A := [mB x y pc ks kc u fa en, sR ks ((S0 ++ [v1]) ++ [v2])]) (C2 := [kR kc cl.length (frC cl vs), tR y tg, eR y se]) rfl (fun h => idiv_c w (hSI v1 (by simp)) (hSI v2 (by simp)) (by omega) h)).mono fun e w' ⟨z, he, hw⟩ => ⟨⟨z, kc, vs, none⟩, Φ, he, Hp.le_refl _, ?_, ?_⟩
     · rw [k8] at h3
       unfold Mn.op2 at h3
       simp only [Int.reduceSub, Int.reduceEq, if_false, if_true] at h3
       unfold divK at hw
       split at h3
       · rename_i v hv
         split at hv
         · cases hv
         · rename_i hz
           cases hv
           rw [if_neg hz] at hw
           obtain rfl := (sJ h3).symm
           exact hw
       · rename_i v hv
         split at hv
         · rename_i hz
           cases hv
           rw [if_pos hz] at hw
           obtain rfl := (sJ h3).symm
           exact hw
         · cases hv
     · split at h3 <;> (obtain rfl := (sJ h3).symm; exact hF)
   · rw [Vm.op2_T k5 k8] at h3
     obtain rfl := (sJ h3).symm
     rw [show tgt o.Kind = 80 by unfold tgt; rw [if_neg k0, if_neg k1, if_neg k2, if_neg k3, if_neg k4, if_neg k8, if_pos k5.2]]
     exact (own_in h0 [0, 1, 2, 3, 4] (by decide) (A := [mB x y pc ks kc u fa en, sR ks ((S0 ++ [v1]) ++ [v2])]) (C2 := [kR kc cl.length (frC cl vs), tR y tg, eR y se]) rfl (fun h => ibin_c w (hSI v1 (by simp)) (hSI v2 (by simp)) (by omega) h)).mono fun e w' ⟨z, he, hw⟩ => ⟨⟨z, kc, vs, none⟩, Φ, he, Hp.le_refl _, hw, hF⟩
 rw [if_neg k5] at hs
 by_cases k12 : o.Kind = 12
 · rw [if_pos k12] at hs
   unfold Vm.M.jmp at hs
   split at hs
   rotate_left
   · cases hs
   rename_i hA
   obtain rfl := (sJ hs).symm
   rw [show tgt o.Kind = 82 by rw [k12]; rfl]
   exact (own_in h0 [0, 1, 2, 3, 4] (by decide) (A := [mB x y pc ks kc u fa en]) (C2 := [sR ks S, kR kc cl.length (frC cl vs), tR y tg, eR y se]) rfl (fun h => ijmp_c w (show o.A = (o.A.toNat : Int) by omega) h)).mono fun e w' ⟨_, he, hw⟩ => ⟨⟨ks, kc, vs, none⟩, Φ, he, Hp.le_refl _, hw, hF⟩
 rw [if_neg k12] at hs
 by_cases k13 : o.Kind = 13
 · rw [if_pos k13] at hs
   obtain ⟨⟨v, m1⟩, hp, h2⟩ := bS hs
   obtain ⟨S0, hS, rfl⟩ := Vm.pop_some hp
   simp only at hS
   subst hS
   rw [List.length_append] at hb
   rw [show tgt o.Kind = 83 by rw [k13]; rfl]
   have hm2 : m' = { (⟨pc, S0, cl, u, tg, se, fa, en⟩ : Vm.M) with pc := if v = 0 then o.A.toNat else pc } ∧ (v = 0 → o.A = (o.A.toNat : Int)) := by
     simp only at h2
     split at h2
     · rename_i hv
       unfold Vm.M.jmp at h2
       split at h2
       · exact ⟨by rw [← sJ h2, if_pos hv], fun _ => by omega⟩
       · cases h2
     · rename_i hv
       exact ⟨by rw [← sJ h2, if_neg hv], fun h => absurd h hv⟩
   obtain ⟨rfl, hA⟩ := hm2
   exact (own_in h0 [0, 1, 2, 3, 4] (by decide) (A := [mB x y pc ks kc u fa en, sR ks (S0 ++ [v])]) (C2 := [kR kc cl.length (frC cl vs), tR y tg, eR y se]) rfl (fun h => ijf_c w hA (by omega) h)).mono fun e w' ⟨z, he, hw⟩ => ⟨⟨z, kc, vs, none⟩, Φ, he, Hp.le_refl _, hw, hF⟩
 rw [if_neg k13] at hs
 by_cases k14 : o.Kind = 14
 · rw [if_pos k14] at hs
   obtain ⟨⟨v, m1⟩, hp, h2⟩ := bS hs
   obtain ⟨S0, hS, rfl⟩ := Vm.pop_some hp
   simp only at hS
   subst hS
   rw [List.length_append] at hb
   rw [show tgt o.Kind = 84 by rw [k14]; rfl]
   have hm2 : m' = { (⟨pc, S0, cl, u, tg, se, fa, en⟩ : Vm.M) with pc := if v = 1 then o.A.toNat else pc } ∧ (v = 1 → o.A = (o.A.toNat : Int)) := by
     simp only at h2
     split at h2
     · rename_i hv
       unfold Vm.M.jmp at h2
       split at h2
       · exact ⟨by rw [← sJ h2, if_pos hv], fun _ => by omega⟩
       · cases h2
     · rename_i hv
       exact ⟨by rw [← sJ h2, if_neg hv], fun h => absurd h hv⟩
   obtain ⟨rfl, hA⟩ := hm2
   exact (own_in h0 [0, 1, 2, 3, 4] (by decide) (A := [mB x y pc ks kc u fa en, sR ks (S0 ++ [v])]) (C2 := [kR kc cl.length (frC cl vs), tR y tg, eR y se]) rfl (fun h => ijt_c w hA (by omega) h)).mono fun e w' ⟨z, he, hw⟩ => ⟨⟨z, kc, vs, none⟩, Φ, he, Hp.le_refl _, hw, hF⟩
 rw [if_neg k14] at hs
 by_cases k15 : o.Kind = 15
 · rw [if_pos k15] at hs
   rw [show tgt o.Kind = 85 by rw [k15]; rfl]
   simp only at hs
   by_cases h10 : 10000 ≤ u
   · rw [if_pos h10] at hs
     obtain rfl := (sJ hs).symm
     exact (own_in h0 [0, 1, 2, 3, 4] (by decide) (A := [mB x y pc ks kc u fa en]) (C2 := [sR ks S, kR kc cl.length (frC cl vs), tR y tg, eR y se]) rfl (fun h => icallF_c w hu h10 h)).mono fun e w' ⟨_, he, hw⟩ => ⟨⟨ks, kc, vs, none⟩, Φ, he, Hp.le_refl _, hw, hF⟩
   rw [if_neg h10] at hs
   by_cases h100 : 100 ≤ cl.length
   · rw [if_pos h100] at hs
     obtain rfl := (sJ hs).symm
     exact (own_in h0 [0, 2, 1, 3, 4] (by decide) (A := [mB x y pc ks kc u fa en, kR kc cl.length (frC cl vs)]) (C2 := [sR ks S, tR y tg, eR y se]) rfl (fun h => icallE_c w hu h10 h100 h)).mono fun e w' ⟨_, he, hw⟩ => ⟨⟨ks, kc, vs, none⟩, Φ, he, Hp.le_refl _, StP.sel hw [0, 2, 1, 3, 4] (by decide) rfl, hF⟩
   rw [if_neg h100] at hs
   split at hs
   rotate_left
   · cases hs
   rename_i hc
   obtain ⟨q, hq, h2⟩ := bS hs
   unfold Vm.M.jmp at h2
   split at h2
   rotate_left
   · cases h2
   rename_i hq0
   obtain rfl := (sJ h2).symm
   obtain ⟨hc1, hc2, hc3⟩ := hc
   have hSe : S = S.take (S.length - o.B.toNat) ++ S.drop (S.length - o.B.toNat) := (List.take_append_drop _ _).symm
   generalize hS1 : S.take (S.length - o.B.toNat) = S1 at *
   generalize hS2 : S.drop (S.length - o.B.toNat) = S2 at *
   have hB : o.B = S2.length := by rw [← hS2, List.length_drop]; omega
   rw [hSe] at h0 hb
   refine (own_in h0 [0, 1, 2, 3, 4] (by decide) (A := [mB x y pc ks kc u fa en, sR ks (S1 ++ S2), kR kc cl.length (frC cl vs)]) (C2 := [tR y tg, eR y se]) rfl (fun h => icall_c w (q := q.toNat) hu h10 h100 hB (show o.A = (o.A.toNat : Int) by omega) (by rw [hq]; congr 1; omega) hX.f2 (by omega) h)).mono fun e w' ⟨z, he, hw⟩ => ⟨⟨z.1, z.2.1, vs ++ [z.2.2], some (z.2.2, S2)⟩, Φ, he, Hp.le_refl _, ?_, ⟨cl, pc, vs, rfl, rfl, hF⟩⟩
   have hfr : frC (cl ++ [(pc, S2)]) (vs ++ [z.2.2]) = frC cl vs ++ [.int .i64 (pc : Int), z.2.2] := frC_snoc hvl
   simp only [exK, mK, hfr, List.length_append, List.length_singleton]
   rw [hSe]
   exact hw
 rw [if_neg k15] at hs
 by_cases k16 : o.Kind = 16
 · rw [if_pos k16] at hs
   obtain ⟨q, hq, h2⟩ := bS hs
   obtain ⟨cl0, rfl⟩ := List.getLast?_eq_some_iff.1 hq
   obtain ⟨vs0, v, rfl, hF0, hv⟩ := hF.last
   obtain rfl := (sJ h2).symm
   rw [show tgt o.Kind = 86 by rw [k16]; rfl]
   have hl0 := hF0.len
   have hfr : frC (cl0 ++ [q]) (vs0 ++ [v]) = frC cl0 vs0 ++ [.int .i64 (q.1 : Int), v] := frC_snoc hl0
   simp only [mK, hfr, List.length_append, List.length_singleton, List.dropLast_concat] at h0 hcn ⊢
   exact (own_in h0 [0, 2, 1, 3, 4] (by decide) (A := [mB x y pc ks kc u fa en, kR kc (cl0.length + 1) (frC cl0 vs0 ++ [.int .i64 (q.1 : Int), v])]) (C2 := [sR ks S, tR y tg, eR y se]) rfl (fun h => iret_c w (frC_len hl0) (by omega) h)).mono fun e w' ⟨z, he, hw⟩ => ⟨⟨ks, z, vs0, none⟩, Φ, he, Hp.le_refl _, StP.sel hw [0, 2, 1, 3, 4] (by decide) rfl, hF0⟩
 rw [if_neg k16] at hs
 by_cases k17 : o.Kind = 17
 · rw [if_pos k17] at hs
   rw [show tgt o.Kind = 87 by rw [k17]; rfl]
   simp only at hs
   by_cases h10 : 10000 ≤ u
   · rw [if_pos h10] at hs
     obtain rfl := (sJ hs).symm
     exact (own_in h0 [0, 4, 1, 2, 3] (by decide) (A := [mB x y pc ks kc u fa en, eR y se]) (C2 := [sR ks S, kR kc cl.length (frC cl vs), tR y tg]) rfl (fun h => iclF_c w hu h10 h)).mono fun e w' ⟨_, he, hw⟩ => ⟨⟨ks, kc, vs, none⟩, Φ, he, Hp.le_refl _, StP.sel hw [0, 2, 3, 4, 1] (by decide) rfl, hF⟩
   rw [if_neg h10] at hs
   split at hs
   rotate_left
   · cases hs
   rename_i hA
   have hm2 : m' = ⟨if se.getD o.A.toNat false = true then o.B.toNat else pc, S, cl, u + 1, tg, se, fa, en⟩ ∧ (se.getD o.A.toNat false = true → o.B = (o.B.toNat : Int)) := by
     split at hs
     · rename_i hv
       unfold Vm.M.jmp at hs
       split at hs
       · exact ⟨by rw [← sJ hs, if_pos hv], fun _ => by omega⟩
       · cases hs
     · rename_i hv
       exact ⟨by rw [← sJ hs, if_neg hv], fun h => absurd h hv⟩
   obtain ⟨rfl, hB⟩ := hm2
   exact (own_in h0 [0, 4, 1, 2, 3] (by decide) (A := [mB x y pc ks kc u fa en, eR y se]) (C2 := [sR ks S, kR kc cl.length (frC cl vs), tR y tg]) rfl (fun h => icl_c w (i := o.A.toNat) hu h10 (by omega) (by omega) hB h)).mono fun e w' ⟨_, he, hw⟩ => ⟨⟨ks, kc, vs, none⟩, Φ, he, Hp.le_refl _, StP.sel hw [0, 2, 3, 4, 1] (by decide) rfl, hF⟩
 rw [if_neg k17] at hs
 by_cases k18 : o.Kind = 18
 · rw [if_pos k18] at hs
   rw [show tgt o.Kind = 88 by rw [k18]; rfl]
   split at hs
   rotate_left
   · cases hs
   rename_i hA
   simp only at hA
   obtain ⟨⟨v, m1⟩, hp, h2⟩ := bS hs
   obtain ⟨S0, hS, rfl⟩ := Vm.pop_some hp
   simp only at hS
   subst hS
   rw [List.length_append] at hb
   obtain rfl := (sJ h2).symm
   exact (own_in h0 [0, 1, 3, 4, 2] (by decide) (A := [mB x y pc ks kc u fa en, sR ks (S0 ++ [v]), tR y tg, eR y se]) (C2 := [kR kc cl.length (frC cl vs)]) rfl (fun h => iset_c w (show o.A = (o.A.toNat : Int) by omega) (by omega) (by omega) hX.p (by omega) hX.l (by omega) h)).mono fun e w' ⟨z, he, hw⟩ => ⟨⟨z, kc, vs, none⟩, Φ, he, Hp.le_refl _, StP.sel hw [0, 1, 4, 2, 3] (by decide) rfl, hF⟩
 rw [if_neg k18] at hs
 by_cases k19 : o.Kind = 19
 · rw [if_pos k19] at hs
   obtain rfl := (sJ hs).symm
   rw [show tgt o.Kind = 89 by unfold tgt; rw [if_neg k0, if_neg k1, if_neg k2, if_neg k3, if_neg k4, if_neg (by omega), if_neg (by omega), if_neg k12, if_neg k13, if_neg k14, if_neg k15, if_neg k16, if_neg k17, if_neg k18]]
   exact (own_in h0 [0, 1, 2, 3, 4] (by decide) (A := [mB x y pc ks kc u fa en]) (C2 := [sR ks S, kR kc cl.length (frC cl vs), tR y tg, eR y se]) rfl (fun h => iend_c w h)).mono fun e w' ⟨_, he, hw⟩ => ⟨⟨ks, kc, vs, none⟩, Φ, he, Hp.le_refl _, hw, hF⟩
 rw [if_neg k19] at hs
 cases hs
end Go.Proofs.YtjmeeofdffdpnaaGreatDoor
namespace Vm
open Bt Mn Ru
theorem Seg.le {ops : List Op} {p : Nat} {l : List Op} (h : Seg ops p l) (hl : 0 < l.length) : p + l.length ≤ ops.length := by
 have h1 := h (l.length - 1) (by omega)
 rw [List.getElem?_eq_getElem (by omega : l.length - 1 < l.length)] at h1
 have := (List.getElem?_eq_some_iff.1 h1).1
 omega
theorem soL_mem {r : Rule} {ps : Nat} : ∀ {xs : List Expr} {d : Nat}, soL r ps d xs = true → ∀ x ∈ xs, soE r ps d x = true
 | [], _, _, x, hx => by cases hx
 | y :: ys, d, h, x, hx => by
   unfold soL at h
   simp only [Bool.and_eq_true] at h
   rcases List.mem_cons.1 hx with rfl | hx
   · exact h.1
   · exact soL_mem h.2 x hx
theorem opOf_eq {k : Int} (h : 2 ≤ k ∧ k ≤ 10) : opOf k = k + 1 := by
 unfold opOf
 repeat' split
 all_goals omega
section
variable {X : Cx} {cl : List (Nat × List Int)} {tg : List Int} {se : List Bool}
abbrev Sim (X : Cx) (cl : List (Nat × List Int)) (tg : List Int) (se : List Bool) (p : Nat) (S : List Int) (u : Int) (C : List Op) (res : Mn.R Int) : Prop := Out X (V p S cl u tg se) (C.length : Int) res fun v u' => V (p + C.length) (S ++ [v]) cl u' tg se
theorem evs_sim {f : Expr → Int → Mn.R Int} : ∀ (xs : List Expr) (p : Nat) (S : List Int) (u : Int), (∀ x ∈ xs, ∀ p S u, Seg X.c.Ops p (cE p x) → Sim X cl tg se p S u (cE p x) (f x u)) → Seg X.c.Ops p (cG 0 p xs).flatten → Out X (V p S cl u tg se) ((cG 0 p xs).flatten.length : Int) (evs f xs u) (fun vs u' => V (p + (cG 0 p xs).flatten.length) (S ++ vs) cl u' tg se)
 | [], p, S, u, _, _ => by
   unfold evs cG
   exact Out.ok rfl (by rw [List.append_nil]; exact Goes.refl (Int.le_refl 0))
 | x :: xs, p, S, u, hf, hG => by
   unfold cG at hG ⊢
   rw [List.flatten_cons] at hG ⊢
   obtain ⟨g1, g2⟩ := hG.app
   unfold evs
   have h1 := hf x (List.mem_cons_self ..) p S u g1
   rw [Nat.add_zero] at g2 ⊢
   rw [List.length_append]
   refine Out.bnd h1 (L2 := ((cG 0 (p + (cE p x).length) xs).flatten.length : Int)) (fun v u1 _ => ⟨rfl, ?_⟩) (by omega) (by omega)
   refine Out.bnd (evs_sim xs (p + (cE p x).length) (S ++ [v]) u1 (fun y hy => hf y (List.mem_cons_of_mem _ hy)) g2) (L2 := 0) (fun vs u2 _ => ⟨rfl, ?_⟩) (by omega) (by omega)
   refine Out.ok rfl ?_
   rw [Nat.add_assoc, show S ++ [v] ++ vs = S ++ v :: vs by simp]
   exact Goes.refl (Int.le_refl 0)
theorem ch_len {kind : Int} {p : Nat} {A B O : List Op} : (chC kind p A B O).length = A.length + B.length + O.length + 2 := by simp [chC]; omega
theorem ch_sim {kind : Int} {p : Nat} {S : List Int} {u : Int} {A B O : List Op} {r0 : Mn.R Int} {r1 r2 : Int → Mn.R Int} {k : Int → Int → Mn.R Int} (hG : Seg X.c.Ops p (chC kind p A B O)) (hk : kind = 13 ∨ kind = 14)
   (hA : Seg X.c.Ops p A → Sim X cl tg se p S u A r0) (hB : ∀ u1, Seg X.c.Ops (p + A.length + 1) B → Sim X cl tg se (p + A.length + 1) S u1 B (r1 u1)) (hO : ∀ u1, Seg X.c.Ops (p + A.length + 1 + B.length + 1) O → Sim X cl tg se (p + A.length + 1 + B.length + 1) S u1 O (r2 u1))
   (hr : ∀ v u1, r0 = .ok (v, u1) → k v u1 = if v = kind - 13 then r2 u1 else r1 u1) : Sim X cl tg se p S u (chC kind p A B O) (bnd r0 k) := by
 have hl := ch_len (kind := kind) (p := p) (A := A) (B := B) (O := O)
 unfold Sim
 rw [hl]
 unfold chC at hG
 obtain ⟨gA, g2⟩ := hG.app
 obtain ⟨o1, g3⟩ := g2.hd
 obtain ⟨gB, g4⟩ := g3.app
 obtain ⟨o2, gO⟩ := g4.hd
 refine Out.bnd (hA gA) (L2 := (B.length + O.length + 2 : Int)) (fun v u1 hv => ⟨rfl, ?_⟩) (by omega) (by omega)
 rw [hr v u1 hv]
 have s1 : stepM X (V (p + A.length) (S ++ [v]) cl u1 tg se) = some (V (if v = kind - 13 then p + A.length + 1 + B.length + 1 else p + A.length + 1) S cl u1 tg se) := by
   rcases hk with rfl | rfl
   · exact st_false o1
   · exact st_true o1
 by_cases hv0 : v = kind - 13
 · rw [if_pos hv0] at s1 ⊢
   refine Out.pre (Goes.one s1 (Int.le_refl 1)) (Int.le_refl _) (Out.post (hO u1 gO) (L' := 0) (L2 := (O.length : Int)) (fun a u' _ => ?_) (by omega) (by omega)) (by simp only; omega)
   rw [show p + A.length + 1 + B.length + 1 + O.length = p + (A.length + B.length + O.length + 2) by omega]
   exact Goes.refl (Int.le_refl 0)
 · rw [if_neg hv0] at s1 ⊢
   refine Out.pre (Goes.one s1 (Int.le_refl 1)) (Int.le_refl _) (Out.post (hB u1 gB) (L' := 1) (L2 := (B.length + 1 : Int)) (fun a u' _ => ?_) (by omega) (by omega)) (by simp only; omega)
   rw [show p + (A.length + B.length + O.length + 2) = p + A.length + 1 + B.length + 1 + O.length by omega]
   exact Goes.one (st_jmp o2) (Int.le_refl 1)
structure Fx (X : Cx) (r : Rule) : Prop where
 at_ : ∀ n, n < r.Funcs.length → ∃ q : Nat, X.c.Funcs[n]? = some (q : Int) ∧ Seg X.c.Ops q (cF q (r.Funcs.getD n default))
 so : ∀ q ∈ r.Funcs, soE r q.Params.length 1 q.Body = true
 len : X.c.Ops.length ≤ 1990
theorem two_kids {ks : List Expr} (h : ks.length = 2) : ∃ a b, ks = [a, b] := by
 match ks, h with
 | [a, b], _ => exact ⟨a, b, rfl⟩
theorem ev_sim {e : Env} {r : Rule} (hX : Fx X r) (hJ : ∀ q ∈ r.Funcs, (jx e r.Funcs q.Params 40 q.Body).2 = true ∧ (jx e r.Funcs q.Params 40 q.Body).1 = q.Result) : ∀ (g : Nat) (cl : List (Nat × List Int)) (x : Expr) (ts ps : List Int) (j p : Nat) (S : List Int) (u : Int) (dd : Nat), (jx e r.Funcs ts j x).2 = true → soE r ts.length dd x = true → ps.length = ts.length → (∀ i, i < ts.length → ts.getD i 0 = 1 → B01 (ps.getD i 0)) → cl.length ≤ 100 → (j : Int) + 41 * (101 - cl.length) ≤ g → (ps = [] ∨ ∃ b, cl.getLast? = some (b, ps)) →
   Seg X.c.Ops p (cE p x) → Sim X cl tg se p S u (cE p x) (ev r.Funcs X.f X.d g cl.length x ps u) := by
 intro g
 induction g with
 | zero => intro cl x ts ps j p S u dd _ _ _ _ hc hg; omega
 | succ g ih =>
 intro cl x ts ps j p S u dd hj hs hl hB hc hg hp hG
 cases j with
 | zero => rw [jx_zero] at hj; cases hj
 | succ j =>
 have hn := jx_node hj
 have hk := jx_kid hj
 have hIF : ∀ i, i < x.Kids.length → (x.Kids.map fun y => (jx e r.Funcs ts j y).1).getD i 0 = wantV r.Funcs x (x.Kids.map fun y => (jx e r.Funcs ts j y).1) i := by
   obtain ⟨ks, h1, h2, h3⟩ := jx_ok hj
   obtain ⟨h4, _⟩ := jxs_mem h1
   have hc : ¬ (x.Kind ≠ 1 ∧ (x.Of ≠ 0 ∨ x.Of2 ≠ 0)) := fun hc => by rw [jx, if_pos hc] at hj; cases hj
   have hN := (jnd_len hc h3).trans (by rw [h4, List.length_map] : (ks.length : Int) = (x.Kids.length : Int))
   exact (jx_iff hN hk).1 hj
 have hT : ∀ i, i < x.Kids.length → (x.Kids.map fun y => (jx e r.Funcs ts j y).1).getD i 0 = (jx e r.Funcs ts j (kid x i)).1 := fun i hi => getD_gd hi
 obtain ⟨k, n, o, q, ks⟩ := x
 unfold soE at hs
 simp only [Bool.and_eq_true, decide_eq_true_eq] at hs
 obtain ⟨⟨⟨⟨h1, h2⟩, h3⟩, h4⟩, h5⟩ := hs
 have hI : ∀ {y : Expr} {p : Nat} {S : List Int} {u : Int}, y ∈ ks → Seg X.c.Ops p (cE p y) → Sim X cl tg se p S u (cE p y) (ev r.Funcs X.f X.d g cl.length y ps u) := fun hy hG => ih cl _ ts ps j _ _ _ (dd + 1) (hk _ hy) (soL_mem h5 _ hy) hl hB hc (by omega) hp hG
 generalize hC : cE p ⟨k, n, o, q, ks⟩ = C at hG ⊢
 unfold cE at hC
 unfold Sim
 rw [ev]
 simp only
 by_cases k0 : k = 0
 · rw [if_pos k0] at hC ⊢
   subst hC
   exact Out.ok rfl (Goes.one (st_push hG.hd.1) (Int.le_refl 1))
 rw [if_neg k0] at hC ⊢
 by_cases k15 : k = 15
 · rw [if_pos k15] at hC ⊢
   subst hC
   have hb := hn.k15 k15
   simp only at hb
   rcases hp with rfl | ⟨b, hb2⟩
   · simp only [List.length_nil] at hl; omega
   exact Out.ok rfl (Goes.one (st_load hG.hd.1 hb2 ⟨by omega, by simp only; omega⟩) (Int.le_refl 1))
 rw [if_neg k15] at hC ⊢
 by_cases k1 : k = 1
 · rw [if_pos k1] at hC ⊢
   subst hC
   rw [if_neg k15, if_pos k1] at h3
   have h3 := odT h3
   have s1 := st_fact (S := S) (cl := cl) (u := u) (tg := tg) (se := se) hG.hd.1 ⟨h3.1, h3.2.1, by omega⟩
   rw [show (1024 * o + q) / 1024 = o by omega, show (1024 * o + q) % 1024 = q by omega] at s1
   exact Out.ok rfl (Goes.one s1 (Int.le_refl 1))
 rw [if_neg k1] at hC ⊢
 by_cases k2 : k = 2
 · have ha := hn.a1 (.inl k2)
   simp only at ha
   obtain ⟨a, rfl⟩ := List.length_eq_one_iff.1 ha
   rw [if_neg (by omega), if_neg (by omega), if_neg (by omega), if_neg (by omega : ¬ k = 14), opOf_eq (by omega)] at hC
   rw [if_pos k2]
   simp only [cG, List.flatten_cons, List.flatten_nil, List.append_nil] at hC
   subst hC
   obtain ⟨g1, g2⟩ := hG.app
   rw [List.length_append, List.length_singleton]
   subst k2
   exact Out.bnd (hI (y := a) (by simp) g1) (L2 := 1) (fun v u1 _ => ⟨rfl, Out.ok rfl (Goes.one (st_neg g2.hd.1) (Int.le_refl 1))⟩) (by omega) (by omega)
 rw [if_neg k2]
 by_cases k3 : k = 3
 · have ha := hn.a1 (.inr k3)
   simp only at ha
   obtain ⟨a, rfl⟩ := List.length_eq_one_iff.1 ha
   rw [if_neg (by omega), if_neg (by omega), if_neg (by omega), if_neg (by omega : ¬ k = 14), opOf_eq (by omega)] at hC
   rw [if_pos k3]
   simp only [cG, List.flatten_cons, List.flatten_nil, List.append_nil] at hC
   subst hC
   obtain ⟨g1, g2⟩ := hG.app
   rw [List.length_append, List.length_singleton]
   subst k3
   exact Out.bnd (hI (y := a) (by simp) g1) (L2 := 1) (fun v u1 _ => ⟨rfl, Out.ok rfl (Goes.one (st_not g2.hd.1) (Int.le_refl 1))⟩) (by omega) (by omega)
 rw [if_neg k3]
 by_cases k11 : k = 11
 · have ha := hn.a2 k0 k1 k2 k3 (by simp only; omega) (by simp only; omega) k15
   simp only at ha
   obtain ⟨a, b, rfl⟩ := two_kids ha.1
   rw [if_pos k11] at hC ⊢
   subst hC
   simp only [cG, List.getD_cons_zero, List.getD_cons_succ] at hG ⊢
   exact ch_sim hG (.inl rfl) (fun g => hI (by simp) g) (fun u1 g => hI (by simp) g) (r2 := fun u1 => .ok (0, u1)) (fun u1 g => Out.ok rfl (Goes.one (st_push g.hd.1) (Int.le_refl 1))) (fun v u1 _ => rfl)
 rw [if_neg k11] at hC ⊢
 by_cases k12 : k = 12
 · have ha := hn.a2 k0 k1 k2 k3 (by simp only; omega) (by simp only; omega) k15
   simp only at ha
   have hw := hIF 0 (by simp only; omega)
   rw [hT 0 (by simp only; omega), wantV, if_pos (.inr (.inr k12))] at hw
   obtain ⟨a, b, rfl⟩ := two_kids ha.1
   rw [if_pos k12] at hC ⊢
   subst hC
   simp only [cG, List.getD_cons_zero, List.getD_cons_succ] at hG ⊢
   refine ch_sim hG (.inr rfl) (fun g => hI (by simp) g) (fun u1 g => hI (by simp) g) (r2 := fun u1 => .ok (1, u1)) (fun u1 g => Out.ok rfl (Goes.one (st_push g.hd.1) (Int.le_refl 1))) (fun v u1 hv => ?_)
   have ht := ev_typ hJ _ _ _ _ _ _ _ _ _ (hk _ (by simp [kid])) hB hw hv
   rcases ht with rfl | rfl <;> simp [kid]
 rw [if_neg k12] at hC ⊢
 by_cases k13 : k = 13
 · have ha := hn.a3 k13
   simp only at ha
   obtain ⟨a, b, c, rfl⟩ : ∃ a b c, ks = [a, b, c] := by
     match ks, ha with
     | [a, b, c], _ => exact ⟨a, b, c, rfl⟩
   rw [if_pos k13] at hC ⊢
   subst hC
   simp only [cG, List.getD_cons_zero, List.getD_cons_succ] at hG ⊢
   refine ch_sim hG (.inl rfl) (fun g => hI (by simp) g) (fun u1 g => hI (by simp) g) (fun u1 g => hI (by simp) g) (fun v u1 hv => ?_)
   by_cases hv0 : v = 0
   · subst hv0; simp [kid]
   · simp [kid, hv0]
 rw [if_neg k13] at hC ⊢
 by_cases k14 : k = 14
 · rw [if_pos k14] at hC ⊢
   obtain ⟨h14a, h14b, h14c⟩ := hn.k14 k14
   simp only at h14a h14b h14c
   subst hC
   obtain ⟨g1, g2⟩ := hG.app
   rw [List.length_append, List.length_singleton]
   refine Out.bnd (evs_sim ks p S u (fun y hy p S u g => hI hy g) g1) (L2 := 1) (fun vs u1 hv => ⟨rfl, ?_⟩) (by omega) (by omega)
   obtain ⟨r1, r2⟩ := evs_typ (P := fun y v => (jx e r.Funcs ts j y).1 = 1 → B01 v) (fun y hy u v u' h2 h3 => ev_typ hJ _ _ _ _ _ _ _ _ _ (hk _ hy) hB h3 h2) hv
   simp only at r1 r2
   have o1 := g2.hd.1
   by_cases h10 : 10000 ≤ u1
   · rw [if_pos h10]
     exact Out.err (by decide) (Int.le_refl _) (Goes.one (st_callF o1 h10) (Int.le_refl 1)) rfl rfl rfl
   rw [if_neg h10]
   by_cases h100 : 100 ≤ cl.length
   · rw [if_pos (by omega)]
     exact Out.err (by decide) (by simp only; omega) (Goes.one (st_callE o1 h10 h100) (Int.le_refl 1)) rfl rfl rfl
   rw [if_neg (by omega)]
   obtain ⟨m, rfl⟩ : ∃ m : Nat, n = m := ⟨n.toNat, by omega⟩
   rw [Int.toNat_natCast] at h14c ⊢
   obtain ⟨a, ha, hsg⟩ := hX.at_ m (by omega)
   rw [← r1] at o1
   have hm : r.Funcs.getD m default ∈ r.Funcs := by
     rw [gDD, List.getElem?_eq_getElem (by omega)]
     exact List.getElem_mem _
   obtain ⟨q1, q2⟩ := hJ _ hm
   have hsl := hsg.le (cF_pos _ _)
   have hwl := hX.len
   unfold cF at hsg hsl
   obtain ⟨s1, s2⟩ := hsg.app
   rw [List.length_append, List.length_singleton] at hsl
   have hb := ih (cl ++ [(p + (cG 0 p ks).flatten.length + 1, vs)]) (r.Funcs.getD m default).Body (r.Funcs.getD m default).Params vs 40 a S (u1 + 1) 1 q1 (hX.so _ hm) (by omega) (fun i hi h2 => r2 i (by omega) (by
     have hw := hIF i (by simp only; omega)
     rw [wantV, if_neg (by simp only; omega), if_pos k14] at hw
     simp only [Int.toNat_natCast] at hw
     rw [h2] at hw
     exact (hT i (by simp only; omega)).symm.trans hw)) (by simp; omega) (by simp only [List.length_append, List.length_singleton]; omega) (.inr ⟨p + (cG 0 p ks).flatten.length + 1, List.getLast?_concat⟩) s1
   rw [show (((cl ++ [(p + (cG 0 p ks).flatten.length + 1, vs)]).length : Nat) : Int) = (cl.length : Int) + 1 by simp only [List.length_append, List.length_singleton]; omega] at hb
   refine Out.pre (Goes.one (st_call o1 h10 h100 ha) (Int.le_refl 1)) (by simp only; omega) (Out.post hb (L' := 1) (L2 := ((cE a (r.Funcs.getD m default).Body).length + 1 : Int)) (fun v u' _ => Goes.one (st_ret s2.hd.1) (Int.le_refl 1)) (by omega) (by omega)) (by simp only; omega)
 rw [if_neg k14] at hC ⊢
 have ha := hn.a2 k0 k1 k2 k3 k13 k14 k15
 simp only at ha
 obtain ⟨a, b, rfl⟩ := two_kids ha.1
 rw [opOf_eq (by omega)] at hC
 simp only [cG, List.flatten_cons, List.flatten_nil, List.append_nil, Nat.add_zero, List.append_assoc] at hC
 subst hC
 obtain ⟨g1, g2⟩ := hG.app
 obtain ⟨g3, g4⟩ := g2.app
 rw [List.length_append, List.length_append, List.length_singleton]
 rw [show p + ((cE p a).length + ((cE (p + (cE p a).length) b).length + 1)) = p + (cE p a).length + (cE (p + (cE p a).length) b).length + 1 by omega]
 refine Out.bnd (hI (y := a) (by simp) g1) (L2 := ((cE (p + (cE p a).length) b).length + 1 : Int)) (fun x u1 _ => ⟨rfl, ?_⟩) (by omega) (by omega)
 refine Out.bnd (hI (y := b) (by simp) g3) (L2 := 1) (fun y u2 _ => ⟨rfl, ?_⟩) (by omega) (by omega)
 have s1 := st_two (S := S) (cl := cl) (u := u2) (tg := tg) (se := se) (x := x) (y := y) g4.hd.1 (by omega)
 rw [Int.add_sub_cancel] at s1
 simp only [List.append_assoc, List.singleton_append]
 cases ho : op2 k x y with
 | error z =>
   rw [ho] at s1
   simp only at s1 ⊢
   exact Out.err (by
     unfold op2 at ho
     repeat' split at ho
     all_goals first | (cases ho; decide) | cases ho) (Int.le_refl _) (Goes.one s1 (Int.le_refl 1)) rfl rfl rfl
 | ok v =>
   rw [ho] at s1
   simp only at s1 ⊢
   exact Out.ok rfl (Goes.one s1 (Int.le_refl 1))
end
end Vm
namespace Vm
open Bt Mn Ru
theorem cC_eq (p : Nat) (c : RClause) : cC p c = ⟨17, c.Link, ((p + 1 + (cE (p + 1) c.If).length + 1 + (cE (p + 1 + (cE (p + 1) c.If).length + 1) c.To).length + 1 : Nat) : Int)⟩ :: (cE (p + 1) c.If ++ (⟨13, ((p + 1 + (cE (p + 1) c.If).length + 1 + (cE (p + 1 + (cE (p + 1) c.If).length + 1) c.To).length + 1 : Nat) : Int), 0⟩ :: (cE (p + 1 + (cE (p + 1) c.If).length + 1) c.To ++ [⟨18, c.Link, 0⟩]))) := rfl
theorem cls_sim {X : Cx} {e : Env} {r : Rule} (hX : Fx X r) (hJ : ∀ q ∈ r.Funcs, (jx e r.Funcs q.Params 40 q.Body).2 = true ∧ (jx e r.Funcs q.Params 40 q.Body).1 = q.Result) : ∀ (cs : List RClause) (p : Nat) (s : List Bool) (t : List Int) (u : Int), (∀ c ∈ cs, 0 ≤ c.Link ∧ c.Link < s.length ∧ (jx e r.Funcs [] 40 c.If).2 = true ∧ (jx e r.Funcs [] 40 c.To).2 = true ∧ soE r 0 1 c.If = true ∧ soE r 0 1 c.To = true) →
   Seg X.c.Ops p (seqC cC p cs).2 → Out X (V p [] [] u t s) ((seqC cC p cs).2.length : Int) (cls r.Funcs X.f X.d X.ps cs s t u) (fun a u' => V (p + (seqC cC p cs).2.length) [] [] u' a.2 a.1)
 | [], p, s, t, u, _, _ => Out.ok rfl (Goes.refl (Int.le_refl 0))
 | c :: cs, p, s, t, u, hc, hG => by
   obtain ⟨l0, l1, jI, jT, sI, sT⟩ := hc c (List.mem_cons_self ..)
   have hcs := fun c' h => hc c' (List.mem_cons_of_mem _ h)
   simp only [seqC] at hG ⊢
   obtain ⟨gc, gr⟩ := hG.app
   generalize hA : cE (p + 1) c.If = A at *
   have hE := cC_eq p c
   rw [hA] at hE
   generalize hB : cE (p + 1 + A.length + 1) c.To = B at *
   have hlen : (cC p c).length = A.length + B.length + 3 := by rw [hE]; simp; omega
   rw [hE] at gc
   obtain ⟨o1, g2⟩ := gc.hd
   obtain ⟨gA, g3⟩ := g2.app
   obtain ⟨o2, g4⟩ := g3.hd
   obtain ⟨gB, g5⟩ := g4.app
   have o3 := g5.hd.1
   obtain ⟨m, hm⟩ : ∃ m : Nat, c.Link = m := ⟨c.Link.toNat, by omega⟩
   rw [hm] at o1 o3
   rw [List.length_append]
   unfold cls
   by_cases h10 : 10000 ≤ u
   · rw [if_pos h10]
     exact Out.err (by decide) (Int.le_refl _) (Goes.one (st_clF o1 h10) (by omega)) rfl rfl rfl
   rw [if_neg h10, hm, Int.toNat_natCast]
   have s1 := st_cl (S := []) (cl := []) (tg := t) (se := s) o1 h10 (by omega)
   have hnx : p + 1 + A.length + 1 + B.length + 1 = p + (cC p c).length := by omega
   rw [hnx] at s1 o2
   have hrest : ∀ (s' : List Bool) (t' : List Int) (u' : Int), s'.length = s.length → Out X (V (p + (cC p c).length) [] [] u' t' s') ((seqC cC (p + (cC p c).length) cs).2.length : Int) (cls r.Funcs X.f X.d X.ps cs s' t' u') (fun a u'' => V (p + ((cC p c).length + (seqC cC (p + (cC p c).length) cs).2.length)) [] [] u'' a.2 a.1) := fun s' t' u' hs => by
     have := cls_sim hX hJ cs (p + (cC p c).length) s' t' u' (by rw [hs]; exact hcs) gr
     rwa [Nat.add_assoc] at this
   by_cases hS : s.getD m false = true
   · rw [if_pos hS] at s1 ⊢
     exact Out.pre (Goes.one s1 (Int.le_refl 1)) (by simp only; omega) (hrest s t (u + 1) rfl) (by simp only; omega)
   rw [if_neg hS] at s1 ⊢
   refine Out.pre (L := (A.length + B.length + 2 + (seqC cC (p + (cC p c).length) cs).2.length : Int)) (Goes.one s1 (Int.le_refl 1)) (by simp only; omega) ?_ (by simp only; omega)
   have eI := ev_sim (X := X) (tg := t) (se := s) hX hJ big [] c.If [] [] 40 (p + 1) [] (u + 1) 1 jI sI rfl (fun i hi => by simp at hi) (by simp) (by simp) (.inl rfl) (by rw [hA]; exact gA)
   rw [hA] at eI
   refine Out.bnd eI (L2 := (B.length + 2 + (seqC cC (p + (cC p c).length) cs).2.length : Int)) (fun v u1 _ => ⟨rfl, ?_⟩) (by omega) (by omega)
   have s2 := st_false (S := []) (cl := []) (v := v) (u := u1) (tg := t) (se := s) o2
   by_cases hv : v = 0
   · rw [if_pos hv] at s2 ⊢
     exact Out.pre (Goes.one s2 (Int.le_refl 1)) (Int.le_refl _) (hrest s t u1 rfl) (by simp only; omega)
   rw [if_neg hv] at s2 ⊢
   refine Out.pre (L := (B.length + 1 + (seqC cC (p + (cC p c).length) cs).2.length : Int)) (Goes.one s2 (Int.le_refl 1)) (Int.le_refl _) ?_ (by simp only; omega)
   have eT := ev_sim (X := X) (tg := t) (se := s) hX hJ big [] c.To [] [] 40 (p + 1 + A.length + 1) [] u1 1 jT sT rfl (fun i hi => by simp at hi) (by simp) (by simp) (.inl rfl) (by rw [hB]; exact gB)
   rw [hB] at eT
   refine Out.bnd eT (L2 := (1 + (seqC cC (p + (cC p c).length) cs).2.length : Int)) (fun v u2 _ => ⟨rfl, ?_⟩) (by omega) (by omega)
   have s3 := st_set (X := X) (S := []) (cl := []) (v := v) (u := u2) (tg := t) (se := s) o3 (by omega)
   rw [hnx] at s3
   exact Out.pre (Goes.one s3 (Int.le_refl 1)) (Int.le_refl _) (hrest _ _ u2 (List.length_set ..)) (by simp only; omega)
def wO (o : Op) : Prop := (o.Kind = 0 → Go.K.I64 o.A) ∧ (o.Kind = 2 → o.B ≤ 9223372036854775807)
theorem wO_free {o : Op} (h : o.Kind ≠ 0 ∧ o.Kind ≠ 2) : wO o := ⟨fun h1 => absurd h1 h.1, fun h1 => absurd h1 h.2⟩
theorem cG_mem {g : Nat} {o : Op} : ∀ {xs : List Expr} {p : Nat}, o ∈ (cG g p xs).flatten → ∃ y ∈ xs, ∃ p', o ∈ cE p' y
 | [], p, h => by unfold cG at h; cases h
 | x :: xs, p, h => by
   unfold cG at h
   rw [List.flatten_cons, List.mem_append] at h
   rcases h with h | h
   · exact ⟨x, List.mem_cons_self .., _, h⟩
   · obtain ⟨y, hy, p', hp⟩ := cG_mem h
     exact ⟨y, List.mem_cons_of_mem _ hy, p', hp⟩
theorem cG_getD {g : Nat} {o : Op} {xs : List Expr} {p i : Nat} (h : o ∈ (cG g p xs).getD i []) : ∃ y ∈ xs, ∃ p', o ∈ cE p' y := by
 refine cG_mem (g := g) (p := p) (List.mem_flatten.2 ⟨(cG g p xs).getD i [], ?_, h⟩)
 rw [gDD] at h ⊢
 cases hc : (cG g p xs)[i]? with
 | none => rw [hc] at h; cases h
 | some c => exact List.mem_of_getElem? hc
theorem ch_mem {kind : Int} {p : Nat} {A B O : List Op} {o : Op} (h : o ∈ chC kind p A B O) (hk : kind = 13 ∨ kind = 14) : o ∈ A ∨ o ∈ B ∨ o ∈ O ∨ (o.Kind ≠ 0 ∧ o.Kind ≠ 2) := by
 unfold chC at h
 simp only [List.mem_append, List.mem_cons] at h
 rcases h with h | rfl | h | rfl | h
 · exact .inl h
 · exact .inr (.inr (.inr ⟨by simp only; omega, by simp only; omega⟩))
 · exact .inr (.inl h)
 · exact .inr (.inr (.inr ⟨by simp, by simp⟩))
 · exact .inr (.inr (.inl h))
theorem cE_w {e : Env} {r : Rule} {ts : List Int} : ∀ (j : Nat) (x : Expr) (dd : Nat), (jx e r.Funcs ts j x).2 = true → soE r ts.length dd x = true → ∀ p, ∀ o ∈ cE p x, wO o
 | 0, x, dd, hj, _, p, o, _ => by rw [jx_zero] at hj; cases hj
 | j + 1, ⟨k, n, o', q, ks⟩, dd, hj, hs, p, o, ho => by
   have hn := jx_node hj
   have hk := jx_kid hj
   unfold soE at hs
   simp only [Bool.and_eq_true, decide_eq_true_eq] at hs
   obtain ⟨⟨⟨⟨h1, h2⟩, h3⟩, h4⟩, h5⟩ := hs
   have ih : ∀ y ∈ ks, ∀ p', ∀ o ∈ cE p' y, wO o := fun y hy p' o ho => cE_w j y (dd + 1) (hk y hy) (soL_mem h5 y hy) p' o ho
   unfold cE at ho
   by_cases k0 : k = 0
   · rw [if_pos k0] at ho
     obtain rfl := List.mem_singleton.1 ho
     have hb := hn.k0 k0
     simp only at hb
     exact ⟨fun _ => by unfold Go.K.I64; simp only; omega, fun h => by simp only at h; omega⟩
   rw [if_neg k0] at ho
   by_cases k15 : k = 15
   · rw [if_pos k15] at ho
     obtain rfl := List.mem_singleton.1 ho
     exact wO_free ⟨by simp, by simp⟩
   rw [if_neg k15] at ho
   by_cases k1 : k = 1
   · rw [if_pos k1] at ho
     obtain rfl := List.mem_singleton.1 ho
     rw [if_neg k15, if_pos k1] at h3
     have h3 := odT h3
     exact ⟨fun h => by simp only at h; omega, fun _ => by simp only; omega⟩
   rw [if_neg k1] at ho
   have hch : ∀ {kind : Int} {O : List Op}, (kind = 13 ∨ kind = 14) → (∀ o ∈ O, wO o) → o ∈ chC kind p ((cG 1 p ks).getD 0 []) ((cG 1 p ks).getD 1 []) O → wO o := fun hk hO ho => by
     rcases ch_mem ho hk with h | h | h | h
     · obtain ⟨y, hy, p', hp⟩ := cG_getD h; exact ih y hy p' o hp
     · obtain ⟨y, hy, p', hp⟩ := cG_getD h; exact ih y hy p' o hp
     · exact hO o h
     · exact wO_free h
   by_cases k11 : k = 11
   · rw [if_pos k11] at ho
     exact hch (.inl rfl) (fun o h => by obtain rfl := List.mem_singleton.1 h; exact ⟨fun _ => by unfold Go.K.I64; simp only; omega, fun h => by simp only at h; omega⟩) ho
   rw [if_neg k11] at ho
   by_cases k12 : k = 12
   · rw [if_pos k12] at ho
     exact hch (.inr rfl) (fun o h => by obtain rfl := List.mem_singleton.1 h; exact ⟨fun _ => by unfold Go.K.I64; simp only; omega, fun h => by simp only at h; omega⟩) ho
   rw [if_neg k12] at ho
   by_cases k13 : k = 13
   · rw [if_pos k13] at ho
     exact hch (.inl rfl) (fun o h => by obtain ⟨y, hy, p', hp⟩ := cG_getD h; exact ih y hy p' o hp) ho
   rw [if_neg k13, List.mem_append] at ho
   rcases ho with ho | ho
   · obtain ⟨y, hy, p', hp⟩ := cG_mem ho; exact ih y hy p' o hp
   · obtain rfl := List.mem_singleton.1 ho
     split
     · exact wO_free ⟨by simp, by simp⟩
     · refine wO_free ⟨?_, ?_⟩
       · simp only; unfold opOf; repeat' split
         all_goals omega
       · simp only; unfold opOf; repeat' split
         all_goals omega
theorem seqC_mem {α : Type} {f : Nat → α → List Op} {o : Op} : ∀ {xs : List α} {p : Nat}, o ∈ (seqC f p xs).2 → ∃ x ∈ xs, ∃ p', o ∈ f p' x
 | [], p, h => by cases h
 | x :: xs, p, h => by
   simp only [seqC, List.mem_append] at h
   rcases h with h | h
   · exact ⟨x, List.mem_cons_self .., p, h⟩
   · obtain ⟨y, hy, p', hp⟩ := seqC_mem h
     exact ⟨y, List.mem_cons_of_mem _ hy, p', hp⟩
theorem compile_wJ {e : Env} {r : Rule} (hso : soP r = true) (hJ : ∀ q ∈ r.Funcs, (jx e r.Funcs q.Params 40 q.Body).2 = true) (hC : ∀ c ∈ r.Clauses, (jx e r.Funcs [] 40 c.If).2 = true ∧ (jx e r.Funcs [] 40 c.To).2 = true) : ∀ o ∈ (compile r).Ops, wO o := fun o ho => by
 obtain ⟨sF, sC⟩ := soP_iff hso
 rw [compile_ops hso, List.mem_append, List.mem_cons] at ho
 rcases ho with ho | rfl | ho
 · obtain ⟨c, hc, p, hp⟩ := seqC_mem ho
   rw [cC_eq] at hp
   simp only [List.mem_cons, List.mem_append, List.not_mem_nil, or_false] at hp
   obtain ⟨c1, c2⟩ := hC c hc
   obtain ⟨d1, d2⟩ := sC c hc
   rcases hp with rfl | hp | rfl | hp | rfl
   · exact wO_free ⟨by simp, by simp⟩
   · exact cE_w 40 c.If 1 c1 d1 _ o hp
   · exact wO_free ⟨by simp, by simp⟩
   · exact cE_w 40 c.To 1 c2 d2 _ o hp
   · exact wO_free ⟨by simp, by simp⟩
 · exact wO_free ⟨by simp, by simp⟩
 · obtain ⟨q, hq, p, hp⟩ := seqC_mem ho
   unfold cF at hp
   rcases List.mem_append.1 hp with hp | hp
   · exact cE_w 40 q.Body 1 (hJ q hq) (sF q hq) _ o hp
   · obtain rfl := List.mem_singleton.1 hp
     exact wO_free ⟨by simp, by simp⟩
def resM (m : M) : Order := if m.fa = 0 then ⟨cmds m.se m.tg, m.u, 0⟩ else ⟨[], m.u, m.fa⟩
theorem seqC_at {α : Type} [Inhabited α] {f : Nat → α → List Op} {ops : List Op} : ∀ (xs : List α) (p n : Nat), Seg ops p (seqC f p xs).2 → n < xs.length → ∃ q : Nat, (seqC f p xs).1[n]? = some (q : Int) ∧ Seg ops q (f q (xs.getD n default))
 | x :: xs, p, 0, h, _ => ⟨p, rfl, by simp only [seqC] at h; exact h.app.1⟩
 | x :: xs, p, n + 1, h, hn => by
   simp only [seqC] at h
   obtain ⟨q, h1, h2⟩ := seqC_at xs _ n h.app.2 (by simpa using hn)
   exact ⟨q, by simpa [seqC] using h1, by simpa using h2⟩
theorem run_sim {e : Env} {ps : List Int} {r : Rule} (f : Facts) (_ : rightR e r = true) (hso : soP r = true) (hl : (compile r).Ops.length ≤ 1990) (hp : ps.length = e.links.length) (hR : (∀ q ∈ r.Funcs, (jx e r.Funcs q.Params 40 q.Body).2 = true ∧ (jx e r.Funcs q.Params 40 q.Body).1 = q.Result) ∧ ∀ c ∈ r.Clauses, 0 ≤ c.Link ∧ c.Link < e.links.length ∧ (jx e r.Funcs [] 40 c.If).2 = true ∧ (jx e r.Funcs [] 40 c.To).2 = true) :
   ∃ m', Goes ⟨compile r, f, (dateOf f.Hour).1, ps⟩ (V 0 [] [] 0 (List.replicate ps.length 0) (List.replicate ps.length false)) m' (2000 + m'.u * 2000) ∧ m'.en = true ∧ resM m' = runR ps r f := by
 obtain ⟨sF, sC⟩ := soP_iff hso
 have hO := compile_ops hso
 have hFn : (compile r).Funcs = (seqC cF ((seqC cC 0 r.Clauses).2.length + 1) r.Funcs).1 := by unfold compile; rw [if_pos hso]
 have g1 : Seg (compile r).Ops 0 (seqC cC 0 r.Clauses).2 := by
   rw [hO]; exact Seg.mid (a := []) (l := (seqC cC 0 r.Clauses).2)
 have g2 : Seg (compile r).Ops ((seqC cC 0 r.Clauses).2.length + 1) (seqC cF ((seqC cC 0 r.Clauses).2.length + 1) r.Funcs).2 := by
   have := Seg.mid (a := (seqC cC 0 r.Clauses).2 ++ [⟨19, 0, 0⟩]) (l := (seqC cF ((seqC cC 0 r.Clauses).2.length + 1) r.Funcs).2) (b := [])
   rw [List.length_append, List.length_singleton, List.append_nil, List.append_assoc, List.singleton_append] at this
   rw [hO]; exact this
 have o1 : (compile r).Ops[(seqC cC 0 r.Clauses).2.length]? = some ⟨19, 0, 0⟩ := by
   rw [hO, List.getElem?_append_right (Nat.le_refl _), Nat.sub_self]; rfl
 have hX : Fx ⟨compile r, f, (dateOf f.Hour).1, ps⟩ r := ⟨fun n hn => by
   obtain ⟨q, h1, h2⟩ := seqC_at r.Funcs _ n g2 hn
   exact ⟨q, by rw [← h1, ← hFn], h2⟩, sF, hl⟩
 have hcl : (seqC cC 0 r.Clauses).2.length < (compile r).Ops.length := (List.getElem?_eq_some_iff.1 o1).1
 have h := cls_sim hX hR.1 r.Clauses 0 (List.replicate ps.length false) (List.replicate ps.length 0) 0 (fun c hc => by
   obtain ⟨a, b, c1, c2⟩ := hR.2 c hc
   obtain ⟨d1, d2⟩ := sC c hc
   exact ⟨a, by rw [List.length_replicate]; omega, c1, c2, d1, d2⟩) g1
 unfold runR
 simp only at h
 generalize cls r.Funcs f (dateOf f.Hour).1 ps r.Clauses (List.replicate ps.length false) (List.replicate ps.length 0) 0 = res at h
 cases res with
 | error z =>
   obtain ⟨k, u⟩ := z
   obtain ⟨h1, h2, m', h3, h4, h5, h6⟩ := h
   simp only at h2 h3
   exact ⟨m', h3.trans (.refl (Int.le_refl 0)) (by omega), h4, by unfold resM; rw [h5, h6, if_neg h1]⟩
 | ok z =>
   obtain ⟨⟨s, t⟩, u⟩ := z
   obtain ⟨h2, h3⟩ := h
   simp only at h2 h3
   rw [Nat.zero_add] at h3
   exact ⟨_, h3.trans (.one (st_end o1) (Int.le_refl 1)) (by simp only; omega), rfl, by unfold resM; rw [if_pos rfl]⟩
end Vm
