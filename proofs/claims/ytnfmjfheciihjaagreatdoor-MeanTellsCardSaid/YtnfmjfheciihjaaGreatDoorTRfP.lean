/- Lemmas. Conditions: those of each theorem. -/
import Derived.Test.YtnfmjfheciihjaaGreatDoorTMnR
import Derived.Test.YtnfmjfheciihjaaGreatDoorTDtA
import Derived.Test.YtnfmjfheciihjaaGreatDoorTPanK
set_option maxRecDepth 8000
set_option maxHeartbeats 16000000
namespace Go.Proofs.YtnfmjfheciihjaaGreatDoor
open Go Go.K Go.RowKit
open Ru (pB)
attribute [local irreducible] AW RW DW Post Qt
abbrev dfM (b7 x b6 : Nat) (y : RnV) (u c : Int) (oc : List Value) : List Chunk := [.blk b7 75 [pB x], rB x y u c, .blk b6 45 oc]
section
variable {b7 x b6 : Nat} {y : RnV} {u c : Int} {oc : List Value}
theorem mrcv_ret (w : World) (Φ : Hp) (h0 : StP ⟨w, Φ, own (dfM b7 x b6 y u c oc)⟩ Φ (dfM b7 x b6 y u c oc) w) :
  CallsD pg 21 #[pB b7, pB b6] .returning w fun e u' w' => (∃ v, e = .returned v) ∧ u' = .returning ∧ StP ⟨w, Φ, own (dfM b7 x b6 y u c oc)⟩ Φ (dfM b7 x b6 y u c oc) w' := by
 refine callsD_of_wpS Tryz.func21 rfl fun c₀ cs hu => ?_
 have hrel : Rel Tryz.f21.ntmps [] (fr (fun _ => undef) [(0, pB b7), (1, pB b6)]) { tmps := #[pB b7, pB b6] ++ Array.replicate (Tryz.f21.ntmps - (#[pB b7, pB b6] : Array Value).size) undef, defers := [] } := rel_init (args := [pB b7, pB b6]) (lBT rfl)
 refine wpS_seq (rec_region (v := .nilIface) (cs' := c₀ :: cs) (by simp [recv, recoverD, hu]) hrel rfl rfl fun a' ha' => wpS_of_wp ?_)
 refine AW.go (J := St ⟨w, Φ, own (dfM b7 x b6 y u c oc)⟩ Φ (dfM b7 x b6 y u c oc)) ?_ ha' h0
 repeat refine g1 ?_
 refine RW.q rfl (q_neqNil rfl) ?_
 repeat refine g1 ?_
 exact fin_S rfl rfl .returning (by rw [← hu]) (fun w' hw => ⟨⟨_, rfl⟩, rfl, hw⟩)
theorem mrcv_pan (w : World) (Φ : Hp) {k : Int} {v0 : Value} {n0 f0 : Int} (h0 : StP ⟨w, Φ, own (dfM b7 x b6 y u c [v0, iV n0, iV f0])⟩ Φ (dfM b7 x b6 y u c [v0, iV n0, iV f0]) w) :
  CallsD pg 21 #[pB b7, pB b6] (.panicking [⟨.iface 83 (.agg #[iV k]), false, false⟩]) w fun e u' w' => (∃ v, e = .returned v) ∧ settle u' = .returning ∧ StP ⟨w, Φ, own (dfM b7 x b6 y u c [v0, iV n0, iV f0])⟩ Φ (dfM b7 x b6 y u c [.slice none 0 0, iV u, iV k]) w' := by
 refine callsD_of_wpS Tryz.func21 rfl fun c₀ cs hu => ?_
 have hrel : Rel Tryz.f21.ntmps [] (fr (fun _ => undef) [(0, pB b7), (1, pB b6)]) { tmps := #[pB b7, pB b6] ++ Array.replicate (Tryz.f21.ntmps - (#[pB b7, pB b6] : Array Value).size) undef, defers := [] } := rel_init (args := [pB b7, pB b6]) (lBT rfl)
 refine wpS_seq (rec_region (v := .iface 83 (.agg #[iV k])) (cs' := { c₀ with mode := .panicking [⟨.iface 83 (.agg #[iV k]), true, false⟩] } :: cs) (by simp [recv, recoverD, hu]) hrel rfl rfl fun a' ha' => wpS_of_wp ?_)
 refine AW.go (J := St ⟨w, Φ, own (dfM b7 x b6 y u c [v0, iV n0, iV f0])⟩ Φ (dfM b7 x b6 y u c [v0, iV n0, iV f0])) ?_ ha' h0
 repeat refine g1 ?_
 refine RW.q rfl (q_neqIface rfl) ?_
 repeat refine g1 ?_
 refine RW.q rfl (q_assertT rfl) ?_
 repeat refine g1 ?_
 refine RW.alc rfl fun bx => ?_
 repeat refine g1 ?_
 refine AW.draw (J0 := St ⟨w, Φ, own (dfM b7 x b6 y u c [v0, iV n0, iV f0])⟩ Φ [.blk bx 83 [iV k], .blk b7 75 [pB x], rB x y u c, .blk b6 45 [v0, iV n0, iV f0]]) [.q, .q, .q, .q, .q, .q, .q, .e] [0, 1, 2, 3, 4, 5, 6, 7] hmix (by kernel_rfl) ?_
 repeat refine g1 ?_
 refine DW.q (v := .agg #[.slice none 0 0, iV u, iV k]) (fun _ h => h) rfl (q_build (vals := [(1, iV u), (2, iV k)]) zero45 uT45 places45 rfl rfl) (DW.effn (J' := St ⟨w, Φ, own (dfM b7 x b6 y u c [v0, iV n0, iV f0])⟩ Φ [.blk bx 83 [iV k], .blk b7 75 [pB x], rB x y u c, .blk b6 45 [.slice none 0 0, iV u, iV k]]) (fun h => absurd rfl h) (e_store (v := .agg [.slice none 0 0, iV u, iV k].toArray) 3 rfl rfl rfl sz45 rfl rfl rfl rfl rfl) ?_)
 repeat refine g1 ?_
 exact fin_S rfl rfl (.panicking [⟨.iface 83 (.agg #[iV k]), true, false⟩]) rfl (fun w' hw => ⟨⟨_, rfl⟩, rfl, hw.sel [1, 2, 3] (by decide) rfl⟩)
end
end Go.Proofs.YtnfmjfheciihjaaGreatDoor
namespace Go.K
open Go Go.RowKit
section
variable {P : Program} {Pn : List PanicEntry → World → Prop} {N : Nat} {D : List Deferred} {ops : Array Oper} {Q : Exit → Act → World → Prop} {f : Nat → Value} {s : List (Nat × Value)} {J J0 : Cls}
theorem DW.tke {d j gd : Nat} {want : Bool} {op : Op} {ty : TypeId} {pos : String} {af : Array Edge} {tg : List Tg} {rest : List Oper}
  (hy : (ops[j]?).bind (·.dst) = some gd) (hb : fr f s gd = .bool want) (h : DW P Pn N D ops J0 Q (.e :: tg) (⟨some d, op, ty, pos, af, none⟩ :: rest) f s J) :
  DW P Pn N D ops J0 Q (.e :: tg) (⟨some d, op, ty, pos, af, some (j, want)⟩ :: rest) f s J := fun a ha => by
 have hyy := yielded_of (ops := ops) ha hy hb
 have hwant : Region.wanted ⟨some d, op, ty, pos, af, some (j, want)⟩ (yielded ops a.tmps) = true := by simp [Region.wanted, hyy]
 have h1 : opX P Pn ops _ _ a J := h a ha
 unfold opX at h1
 rw [if_pos (show Region.wanted ⟨some d, op, ty, pos, af, none⟩ (yielded ops a.tmps) = true from rfl)] at h1
 show opX P Pn ops _ _ a J
 unfold opX
 rw [if_pos hwant]
 exact h1
theorem DW.pairQN {d1 : Nat} {op1 op2 : Op} {ty1 ty2 : TypeId} {pos1 pos2 : String} {af1 af2 : Array Edge} {tg : List Tg} {rest : List Oper} {v : Value} {J' : Cls} (hd1 : Nat.blt d1 N = true) (hJ : ∀ w, J.p w → J0.p w) (hJ' : ∀ w, J'.p w → J0.p w)
  (hq : Qt P J0 f s ⟨some d1, op1, ty1, pos1, af1, none⟩ v) (he : ∀ w, J.p w → effX P Pn (fun _ w' => J'.p w') ((execOp (ev (fr f ((d1, v) :: s))) ⟨none, op2, ty2, pos2, af2, none⟩).run P w)) (he' : ∀ w, J.p w → effX P Pn (fun _ w' => J'.p w') ((execOp (ev (fr f s)) ⟨none, op2, ty2, pos2, af2, none⟩).run P w))
  (k : DW P Pn N D ops J0 Q tg rest f ((d1, v) :: s) J') : DW P Pn N D ops J0 Q (.p :: .q :: tg) (⟨some d1, op1, ty1, pos1, af1, none⟩ :: ⟨none, op2, ty2, pos2, af2, none⟩ :: rest) f s J := fun a ha => by
 have h1 : ∀ b : Act, Region.wanted ⟨some d1, op1, ty1, pos1, af1, none⟩ (yielded ops b.tmps) = true := fun _ => rfl
 have h2 : ∀ b : Act, Region.wanted ⟨none, op2, ty2, pos2, af2, none⟩ (yielded ops b.tmps) = true := fun _ => rfl
 have ha1 := ha.put hd1 v
 refine ⟨?_, ?_⟩
 ·
  unfold opX
  rw [if_pos (h1 a)]
  intro w hw
  rw [ha.eval]
  refine effX_mono (fun u w' hx => ?_) (effX_of_quietX (hq w (hJ w hw)))
  obtain ⟨rfl, hb⟩ := hx
  refine ⟨J, J.ext w w' hw hb, hJ, ?_⟩
  rw [if_pos (h2 _)]
  intro w2 hw2
  rw [ha1.eval]
  exact effX_mono (fun _ w'' hp => ⟨J', hp, hJ', k _ ha1⟩) (he w2 hw2)
 ·
  unfold opX
  rw [if_pos (h2 a)]
  intro w hw
  rw [ha.eval]
  refine effX_mono (fun u w' hp => ⟨J', hp, hJ', ?_⟩) (he' w hw)
  rw [if_pos (h1 _)]
  intro w2 hw2
  have ha' : Rel N D (fr f s) (a.put none u) := ha
  rw [ha'.eval]
  refine effX_mono (fun u2 w'' hx => ?_) (effX_of_quietX (hq w2 (hJ' w2 hw2)))
  obtain ⟨rfl, hb⟩ := hx
  exact ⟨J', J'.ext w2 w'' hw2 hb, hJ', k _ (ha'.put hd1 _)⟩
end
end Go.K
namespace Go.Proofs.YtnfmjfheciihjaaGreatDoor
open Go Go.K Go.RowKit
open Ru (pB NmS BasV)
attribute [local irreducible] AW RW DW Post Qt
instance : Rep (Int × Int) where
 sz := 2
 bytes := 16
 rep := fun _ x cs => cs = [iV x.1, iV x.2] ∧ (I64 x.1 ∧ I64 x.2)
 len := fun h => by rw [h.1]; rfl
 mono := fun _ h => h
 one := fun h u hu => by
  rw [h.1] at hu
  simp only [List.mem_cons, List.not_mem_nil, or_false] at hu
  rcases hu with rfl | rfl <;> rfl
instance : RepE (Int × Int) where
 cells := fun x => [iV x.1, iV x.2]
 wf := fun x => I64 x.1 ∧ I64 x.2
 iff := Iff.rfl
theorem evenCmd : EvenE (Int × Int) := fun _ => rfl
abbrev orC (v : Value) (u k : Int) : List Value := [v, iV u, iV k]
abbrev fcC (y : FcV) (h : Int) : List Value := [y.vol, y.lev, y.own, y.pos, iV h, y.cre]
abbrev OrdR (w : World) (Φ : Hp) (o : Bt.Order) : Ending → World → Prop := RetS Φ w fun v Ψ => ∃ cv, v = .agg (orC cv o.Used o.Fault).toArray ∧ RepSl Ψ o.Cmds cv
def PosS (Φ : Hp) (v : Value) (ps : List Int) : Prop := ∀ i, i < ps.length → PCell Φ (Value.at v (i * 18 + 7)) (iV (ps.getD i 0))
theorem PosS.mono {Φ Ψ : Hp} {v : Value} {ps : List Int} (h : PosS Φ v ps) (hl : Hp.le Φ Ψ) : PosS Ψ v ps := fun i hi => (h i hi).mono hl
theorem atL_i {l : List Int} {i : Int} (h : ∀ x ∈ l, I64 x) : I64 (Mn.atL l i) := by
 unfold Mn.atL
 split
 ·
  exact I64.nat (n := 0) (by omega)
 ·
  by_cases hi : i.toNat < l.length
  ·
   rw [gDD, List.getElem?_eq_getElem hi]; exact h _ (List.getElem_mem hi)
  ·
   rw [gDD, List.getElem?_eq_none (by omega)]; exact I64.nat (n := 0) (by omega)
theorem monF_rng : ∀ (f : Nat) (y d m : Int), 0 ≤ d → 0 ≤ m → (Mn.monF f y d m).1 ≤ d + 0 ∧ 0 ≤ (Mn.monF f y d m).1 ∧ 0 ≤ (Mn.monF f y d m).2 ∧ (Mn.monF f y d m).2 ≤ m + f
 | 0, y, d, m, h1, h2 => by unfold Mn.monF; exact ⟨by omega, h1, h2, by omega⟩
 | f + 1, y, d, m, h1, h2 => by
  unfold Mn.monF
  split
  ·
   rename_i h
   by_cases h3 : 0 ≤ Mn.mlen y m
   ·
    have := monF_rng f y (d - Mn.mlen y m) (m + 1) (by omega) (by omega)
    omega
   ·
    have h4 : 0 ≤ Mn.mlen y m := by
     unfold Mn.mlen
     split
     ·
      omega
     ·
      have : ∀ k, 0 ≤ Mn.months.getD k 0 := fun k => by
       match k with
       | 0 | 1 | 2 | 3 | 4 | 5 | 6 | 7 | 8 | 9 | 10 | 11 => decide
       | k + 12 => rw [gDD, List.getElem?_eq_none (by simp [Mn.months])]; decide
      exact this _
    omega
  ·
   exact ⟨by omega, h1, h2, by omega⟩
theorem yearF_rng : ∀ (f : Nat) (d y : Int), 0 ≤ y → y ≤ Mn.yearF f d y ∧ Mn.yearF f d y ≤ y + f
 | 0, d, y, h => by unfold Mn.yearF; omega
 | f + 1, d, y, h => by
  unfold Mn.yearF
  split
  ·
   have := yearF_rng f d (y + 1) (by omega); omega
  ·
   omega
theorem date_i (h : Int) : I64 (Mn.dateOf h).1.2.1 ∧ I64 (Mn.dateOf h).1.2.2.1 ∧ I64 (Mn.dateOf h).1.2.2.2 := by
 unfold Mn.dateOf
 split
 ·
  exact ⟨I64.nat (n := 0) (by omega), I64.nat (n := 0) (by omega), I64.nat (n := 0) (by omega)⟩
 ·
  rename_i hh
  simp only [Mn.ymd]
  have h0 : 0 ≤ h / 24 ∧ h / 24 ≤ 700000 := by omega
  have hy := yearF_rng 2000 (h / 24) (2000 + h / 24 / 366) (by omega)
  have hyb := Mn.bef_ge (y := Mn.yearF 2000 (h / 24) (2000 + h / 24 / 366)) (by omega)
  have hd : 0 ≤ h / 24 - Mn.bef (Mn.yearF 2000 (h / 24) (2000 + h / 24 / 366)) := by
   have h1 := Mn.yearF_ok 2000 (h / 24) (2000 + h / 24 / 366) (by omega) (by omega) (by have := Mn.bef_ge (y := 2000 + h / 24 / 366) (by omega); omega) (by omega)
   omega
  have hm := monF_rng 12 (Mn.yearF 2000 (h / 24) (2000 + h / 24 / 366)) (h / 24 - Mn.bef (Mn.yearF 2000 (h / 24) (2000 + h / 24 / 366))) 1 hd (by omega)
  unfold I64
  refine ⟨?_, ?_, ?_⟩ <;> omega
theorem fact_i {Φ : Hp} {y : FcV} {f : Bt.Facts} (h : y.ok Φ f) (d : Mn.Dt) (h1 : I64 d.2.1) (h2 : I64 d.2.2.1) (h3 : I64 d.2.2.2) : ∀ n o q, I64 (Mn.factV f d n o q) := fun n o q => by
 have z : I64 0 := I64.nat (n := 0) (by omega)
 unfold Mn.factV
 split
 ·
  exact atL_i h.vol.i64
 ·
  split
  ·
   exact atL_i h.lev.i64
  ·
   split
   ·
    split
    ·
     exact z
    ·
     rename_i hh
     obtain ⟨sv, hs, _⟩ := h.own.sub (k := o.toNat) (by omega)
     exact atL_i hs.i64
   ·
    split
    ·
     exact atL_i h.pos.i64
    ·
     split
     ·
      exact h3
     ·
      split
      ·
       exact h2
      ·
       split
       ·
        exact h1
       ·
        split
        ·
         split
         ·
          unfold I64; omega
         ·
          rename_i hh
          have hi : o.toNat < f.Crest.length := by omega
          rw [gDD, List.getElem?_eq_getElem hi]; exact h.cre.i64 _ (List.getElem_mem hi)
        ·
         exact z
end Go.Proofs.YtnfmjfheciihjaaGreatDoor
namespace Ru
open Bt
structure BigE (e : Env) : Prop where
  p : e.places.length * 16 ≤ Go.K.maxSl
  l : e.links.length * 16 ≤ Go.K.maxSl
  t : e.towns.length * 16 ≤ Go.K.maxSl
def kidsN (e : Env) (fs : List RFunc) (np : Int) (x : Expr) : Int :=
  if x.Kind ≠ 1 ∧ (x.Of ≠ 0 ∨ x.Of2 ≠ 0) then -1
  else if x.Kind = 0 then (if 0 ≤ x.N ∧ x.N ≤ 1125899906842624 then 0 else -1)
  else if x.Kind = 1 then (if jfact e x then 0 else -1)
  else if x.Kind = 15 then (if 0 ≤ x.N ∧ x.N < np then 0 else -1)
  else if x.Kind = 14 then (if 0 ≤ x.N ∧ x.N < fs.length then ((fs.getD x.N.toNat default).Params.length : Nat) else -1)
  else if x.N ≠ 0 then -1
  else if x.Kind = 2 ∨ x.Kind = 3 then 1
  else if x.Kind = 13 then 3
  else if x.Kind = 4 ∨ x.Kind = 5 ∨ x.Kind = 6 ∨ x.Kind = 7 ∨ x.Kind = 8 ∨ x.Kind = 9 ∨ x.Kind = 10 ∨ x.Kind = 11 ∨ x.Kind = 12 then 2
  else -1
end Ru
namespace Go.Proofs.YtnfmjfheciihjaaGreatDoor
open Go Go.K Go.RowKit
open Ru (pB NmS BasV BigE)
attribute [local irreducible] AW RW DW Post Qt
abbrev CC (b2 b3 : Nat) (b : BasV) (X : Bt.Expr) (vA : Option Addr) (kn vc : Nat) : List Chunk := [.blk b3 69 (exC X (.slice vA kn vc)), .blk b2 31 b.cs]
theorem ffact_c (w : World) (Φ : Hp) (hΦ : Hp.le Φ (hp w)) {b : BasV} {e : Ru.Env} (hb : b.ok Φ e) (hB : BigE e) {X : Bt.Expr} {v : Value} {kn : Nat} (hv : IsSl v kn) :
    Calls pg 108 #[.agg b.cs.toArray, .agg (exC X v).toArray] w fun e' w' => e' = .returned (.bool (Ru.jfact e X)) ∧ Bel w.heap.size w w' := by
  obtain ⟨vA, vc, rfl, _⟩ := hv
  refine calls_of_AW (args := [.agg b.cs.toArray, .agg (exC X (.slice vA kn vc)).toArray]) Tryz.func108 rfl (lBT rfl) (St ⟨w, Φ, []⟩ Φ []) (StP.init w Φ hΦ []) ?_
  show AW _ _ [] _ _ _ [(0, .agg b.cs.toArray), (1, .agg (exC X (.slice vA kn vc)).toArray)] _
  repeat refine gs1 ?_
  refine RW.bxA (cs := b.cs) rfl rfl fun b2 => ?_
  refine RW.bxA (cs := exC X (.slice vA kn vc)) rfl rfl fun b3 => ?_
  repeat refine gs1 ?_
  refine AW.orCh (kd := .i64) (t := 7) (x := 6) (a := X.N) rfl rfl _ rfl rfl rfl rfl fun f' => ?_
  repeat refine gs1 ?_
  have e1 : (decide (X.N = 0) || [((1 : Int), 9)].any fun p => decide (X.N = p.1)) = decide (X.N = 0 ∨ X.N = 1) := by simp
  have hle1 : ∀ {Ψ : Hp}, Hp.le Φ Ψ → ∀ w1, (St ⟨w, Φ, []⟩ Ψ (CC b2 b3 b X vA kn vc)).p w1 → (St ⟨w, Φ, []⟩ Φ (CC b2 b3 b X vA kn vc)).p w1 := fun hl w1 h => StP.less h hl
  refine AW.cond rfl (fun c => ?_) fun c => ?_
  · have c : X.N = 0 ∨ X.N = 1 := odT (e1.symm.trans c)
    have hD : Ru.jfact e X = (Ru.den e.places X.Of && decide (X.Of2 = 0)) := by unfold Ru.jfact; rw [if_pos c]
    repeat refine gs1 ?_
    refine AW.drawZ (J0 := St ⟨w, Φ, []⟩ Φ (CC b2 b3 b X vA kn vc)) [.q, .q, .q, .q, .q, .q, .q, .e, .e, .q, .q] [0, 1, 2, 3, 4, 5, 6, 7, 8, 9, 10] hmix (by kernel_rfl) ?_
    refine DW.q (fun _ h => h) rfl (qa_fa0 rfl) ?_
    refine DW.q (fun _ h => h) rfl (qa_ld rfl (Cell.blk 0 rfl rfl)) ?_
    by_cases h0 : X.Of2 = 0
    · refine DW.q (v := .bool true) (fun _ h => h) rfl (q_as (q_eql rfl rfl) (congrArg Value.bool (decide_eq_true h0))) ?_
      refine DW.q (fun _ h => h) rfl (q_move rfl) ?_
      refine DW.g (b := true) (fun _ h => h) rfl rfl rfl (fun _ => qa_fa0 rfl) ?_
      refine DW.g (b := true) (fun _ h => h) rfl rfl rfl (fun _ => qa_ld rfl (Cell.blk 0 rfl rfl)) ?_
      refine DW.g (b := true) (v := .agg b.cs.toArray) (fun _ h => h) rfl rfl rfl (fun _ => qa_ldA (cs := b.cs) rfl (Cells.blk 1 rfl) rfl) ?_
      refine DW.tke rfl rfl ?_
      refine DW.eff _ _ (fun _ x w1 h => hle1 x.2.2 w1 h) rfl (e_callS (args := #[.agg b.cs.toArray]) oK rfl rfl (fun w1 hw1 => fPlaces_c w1 Φ hw1.phi hb.p hB.p)) ?_
      rintro ⟨⟨u, Ψ⟩, ⟨⟨nA, nc⟩, hu, hn⟩, hle⟩
      simp only at hu hn hle ⊢
      subst hu
      refine DW.tke rfl rfl ?_
      refine DW.eff (X := Unit) (fun _ => .bool (Ru.den e.places X.Of)) (fun _ => St ⟨w, Φ, []⟩ Ψ (CC b2 b3 b X vA kn vc)) (fun _ _ => hle1 hle) rfl (e_quiet (q_call (args := #[.int .i64 X.Of, .slice nA e.places.length nc]) oK rfl rfl (fun w1 hw1 => first_c w1 Ψ hw1.phi hn))) fun _ => ?_
      refine DW.q (v := .bool (Ru.den e.places X.Of)) (hle1 hle) rfl (q_pick rfl (fun _ => rfl) (fun h => nomatch h)) ?_
      refine DW.q (v := .bool (Ru.den e.places X.Of)) (hle1 hle) rfl (q_assign rfl) ?_
      repeat refine gs1 ?_
      exact fin_res (vs := [.bool (Ru.den e.places X.Of)]) rfl rfl ⟨.tmp rfl, trivial⟩ rfl (fun w' hw => ⟨by rw [hD, decide_eq_true h0, Bool.and_true]; rfl, (hle1 hle w' hw).below rfl⟩)
    · refine DW.q (v := .bool false) (fun _ h => h) rfl (q_as (q_eql rfl rfl) (congrArg Value.bool (decide_eq_false h0))) ?_
      refine DW.q (fun _ h => h) rfl (q_move rfl) ?_
      refine DW.g (b := false) (v := .bool false) (fun _ h => h) rfl rfl rfl (fun h => by simp at h) ?_
      refine DW.g (b := false) (v := .bool false) (fun _ h => h) rfl rfl rfl (fun h => by simp at h) ?_
      refine DW.g (b := false) (v := .bool false) (fun _ h => h) rfl rfl rfl (fun h => by simp at h) ?_
      refine DW.skp (b := false) (fun _ _ h => h) rfl rfl rfl (by decide) ?_
      refine DW.skp (b := false) (fun _ _ h => h) rfl rfl rfl (by decide) ?_
      refine DW.q (v := .bool false) (fun _ h => h) rfl (q_pick rfl (fun h => nomatch h) (fun _ => rfl)) ?_
      refine DW.q (v := .bool false) (fun _ h => h) rfl (q_assign rfl) ?_
      repeat refine gs1 ?_
      exact fin_res (vs := [.bool false]) rfl rfl ⟨.tmp rfl, trivial⟩ rfl (fun w' hw => ⟨by rw [hD, decide_eq_false h0, Bool.and_false]; rfl, hw.below rfl⟩)
  have c0 : ¬ (X.N = 0 ∨ X.N = 1) := odF (e1.symm.trans c)
  repeat refine gs1 ?_
  refine AW.cond rfl (fun c => ?_) fun c2 => ?_
  · have c : X.N = 2 := odT c
    have hD : Ru.jfact e X = (Ru.den e.places X.Of && Ru.den e.owners X.Of2) := by unfold Ru.jfact; rw [if_neg c0, if_pos c]
    repeat refine gs1 ?_
    refine AW.drawZ (J0 := St ⟨w, Φ, []⟩ Φ (CC b2 b3 b X vA kn vc)) [.q, .q, .q, .e, .e, .q, .q, .q, .q, .q, .q, .q, .q] [0, 1, 2, 3, 4, 5, 6, 7, 8, 9, 10, 11, 12] hmix (by kernel_rfl) ?_
    refine DW.q (fun _ h => h) rfl (qa_fa0 rfl) ?_
    refine DW.q (fun _ h => h) rfl (qa_ld rfl (Cell.blk 0 rfl rfl)) ?_
    refine DW.q (v := .agg b.cs.toArray) (fun _ h => h) rfl (qa_ldA (cs := b.cs) rfl (Cells.blk 1 rfl) rfl) ?_
    refine DW.eff _ _ (fun _ x w1 h => hle1 x.2.2 w1 h) rfl (e_callS (args := #[.agg b.cs.toArray]) oK rfl rfl (fun w1 hw1 => fPlaces_c w1 Φ hw1.phi hb.p hB.p)) ?_
    rintro ⟨⟨u, Ψ⟩, ⟨⟨nA, nc⟩, hu, hn⟩, hle⟩
    simp only at hu hn hle ⊢
    subst hu
    refine DW.eff (X := Unit) (fun _ => .bool (Ru.den e.places X.Of)) (fun _ => St ⟨w, Φ, []⟩ Ψ (CC b2 b3 b X vA kn vc)) (fun _ _ => hle1 hle) rfl (e_quiet (q_call (args := #[.int .i64 X.Of, .slice nA e.places.length nc]) oK rfl rfl (fun w1 hw1 => first_c w1 Ψ hw1.phi hn))) fun _ => ?_
    refine DW.q (v := .bool (Ru.den e.places X.Of)) (hle1 hle) rfl (q_move rfl) ?_
    refine DW.g (b := Ru.den e.places X.Of) (v := .pointer (some ⟨b3, 3, none⟩)) (hle1 hle) rfl rfl rfl (fun _ => qa_fa0 rfl) ?_
    refine DW.g (b := Ru.den e.places X.Of) (v := .int .i64 X.Of2) (hle1 hle) rfl rfl rfl (fun h => qa_ld (gv_pos h) (Cell.blk 0 rfl rfl)) ?_
    refine DW.g (b := Ru.den e.places X.Of) (v := .pointer (some ⟨b2, 1, none⟩)) (hle1 hle) rfl rfl rfl (fun _ => qa_fa0 rfl) ?_
    refine DW.g (b := Ru.den e.places X.Of) (v := b.ov) (hle1 hle) rfl rfl rfl (fun h => qa_ld (gv_pos h) (Cell.blk 1 rfl rfl)) ?_
    refine DW.g (b := Ru.den e.places X.Of) (v := .bool (Ru.den e.owners X.Of2)) (hle1 hle) rfl rfl rfl (fun h => q_call (args := #[.int .i64 X.Of2, b.ov]) oK rfl (args2 (gv_pos h) (gv_pos h)) (fun w1 hw1 => first_c w1 Φ hw1.phi hb.o)) ?_
    refine DW.q (v := .bool (Ru.den e.places X.Of && Ru.den e.owners X.Of2)) (hle1 hle) rfl (qpA rfl rfl rfl) ?_
    refine DW.q (v := .bool (Ru.den e.places X.Of && Ru.den e.owners X.Of2)) (hle1 hle) rfl (q_assign rfl) ?_
    repeat refine gs1 ?_
    exact fin_res (vs := [.bool (Ru.den e.places X.Of && Ru.den e.owners X.Of2)]) rfl rfl ⟨.tmp rfl, trivial⟩ rfl (fun w' hw => ⟨by rw [hD]; rfl, (hle1 hle w' hw).below rfl⟩)
  have c2 : X.N ≠ 2 := odF c2
  repeat refine gs1 ?_
  refine AW.cond rfl (fun c => ?_) fun c => ?_
  · have c : X.N = 3 := odT c
    have hD : Ru.jfact e X = (Ru.den e.links X.Of && decide (X.Of2 = 0)) := by unfold Ru.jfact; rw [if_neg c0, if_neg c2, if_pos c]
    repeat refine gs1 ?_
    refine AW.drawZ (J0 := St ⟨w, Φ, []⟩ Φ (CC b2 b3 b X vA kn vc)) [.q, .q, .q, .q, .q, .q, .q, .e, .e, .q, .q] [0, 1, 2, 3, 4, 5, 6, 7, 8, 9, 10] hmix (by kernel_rfl) ?_
    refine DW.q (fun _ h => h) rfl (qa_fa0 rfl) ?_
    refine DW.q (fun _ h => h) rfl (qa_ld rfl (Cell.blk 0 rfl rfl)) ?_
    by_cases h0 : X.Of2 = 0
    · refine DW.q (v := .bool true) (fun _ h => h) rfl (q_as (q_eql rfl rfl) (congrArg Value.bool (decide_eq_true h0))) ?_
      refine DW.q (fun _ h => h) rfl (q_move rfl) ?_
      refine DW.g (b := true) (fun _ h => h) rfl rfl rfl (fun _ => qa_fa0 rfl) ?_
      refine DW.g (b := true) (fun _ h => h) rfl rfl rfl (fun _ => qa_ld rfl (Cell.blk 0 rfl rfl)) ?_
      refine DW.g (b := true) (v := .agg b.cs.toArray) (fun _ h => h) rfl rfl rfl (fun _ => qa_ldA (cs := b.cs) rfl (Cells.blk 1 rfl) rfl) ?_
      refine DW.tke rfl rfl ?_
      refine DW.eff _ _ (fun _ x w1 h => hle1 x.2.2 w1 h) rfl (e_callS (args := #[.agg b.cs.toArray]) oK rfl rfl (fun w1 hw1 => fLinks_c w1 Φ hw1.phi hb.l hB.l)) ?_
      rintro ⟨⟨u, Ψ⟩, ⟨⟨nA, nc⟩, hu, hn⟩, hle⟩
      simp only at hu hn hle ⊢
      subst hu
      refine DW.tke rfl rfl ?_
      refine DW.eff (X := Unit) (fun _ => .bool (Ru.den e.links X.Of)) (fun _ => St ⟨w, Φ, []⟩ Ψ (CC b2 b3 b X vA kn vc)) (fun _ _ => hle1 hle) rfl (e_quiet (q_call (args := #[.int .i64 X.Of, .slice nA e.links.length nc]) oK rfl rfl (fun w1 hw1 => first_c w1 Ψ hw1.phi hn))) fun _ => ?_
      refine DW.q (v := .bool (Ru.den e.links X.Of)) (hle1 hle) rfl (q_pick rfl (fun _ => rfl) (fun h => nomatch h)) ?_
      refine DW.q (v := .bool (Ru.den e.links X.Of)) (hle1 hle) rfl (q_assign rfl) ?_
      repeat refine gs1 ?_
      exact fin_res (vs := [.bool (Ru.den e.links X.Of)]) rfl rfl ⟨.tmp rfl, trivial⟩ rfl (fun w' hw => ⟨by rw [hD, decide_eq_true h0, Bool.and_true]; rfl, (hle1 hle w' hw).below rfl⟩)
    · refine DW.q (v := .bool false) (fun _ h => h) rfl (q_as (q_eql rfl rfl) (congrArg Value.bool (decide_eq_false h0))) ?_
      refine DW.q (fun _ h => h) rfl (q_move rfl) ?_
      refine DW.g (b := false) (v := .bool false) (fun _ h => h) rfl rfl rfl (fun h => by simp at h) ?_
      refine DW.g (b := false) (v := .bool false) (fun _ h => h) rfl rfl rfl (fun h => by simp at h) ?_
      refine DW.g (b := false) (v := .bool false) (fun _ h => h) rfl rfl rfl (fun h => by simp at h) ?_
      refine DW.skp (b := false) (fun _ _ h => h) rfl rfl rfl (by decide) ?_
      refine DW.skp (b := false) (fun _ _ h => h) rfl rfl rfl (by decide) ?_
      refine DW.q (v := .bool false) (fun _ h => h) rfl (q_pick rfl (fun h => nomatch h) (fun _ => rfl)) ?_
      refine DW.q (v := .bool false) (fun _ h => h) rfl (q_assign rfl) ?_
      repeat refine gs1 ?_
      exact fin_res (vs := [.bool false]) rfl rfl ⟨.tmp rfl, trivial⟩ rfl (fun w' hw => ⟨by rw [hD, decide_eq_false h0, Bool.and_false]; rfl, hw.below rfl⟩)
  have c3 : X.N ≠ 3 := odF c
  repeat refine gs1 ?_
  refine AW.cond rfl (fun c => ?_) fun c => ?_
  · have c : X.N = 7 := odT c
    have hD : Ru.jfact e X = (Ru.den e.towns X.Of && decide (X.Of2 = 0)) := by unfold Ru.jfact; rw [if_neg c0, if_neg c2, if_neg c3, if_pos c]
    repeat refine gs1 ?_
    refine AW.drawZ (J0 := St ⟨w, Φ, []⟩ Φ (CC b2 b3 b X vA kn vc)) [.q, .q, .q, .q, .q, .q, .q, .e, .e, .q, .q] [0, 1, 2, 3, 4, 5, 6, 7, 8, 9, 10] hmix (by kernel_rfl) ?_
    refine DW.q (fun _ h => h) rfl (qa_fa0 rfl) ?_
    refine DW.q (fun _ h => h) rfl (qa_ld rfl (Cell.blk 0 rfl rfl)) ?_
    by_cases h0 : X.Of2 = 0
    · refine DW.q (v := .bool true) (fun _ h => h) rfl (q_as (q_eql rfl rfl) (congrArg Value.bool (decide_eq_true h0))) ?_
      refine DW.q (fun _ h => h) rfl (q_move rfl) ?_
      refine DW.g (b := true) (fun _ h => h) rfl rfl rfl (fun _ => qa_fa0 rfl) ?_
      refine DW.g (b := true) (fun _ h => h) rfl rfl rfl (fun _ => qa_ld rfl (Cell.blk 0 rfl rfl)) ?_
      refine DW.g (b := true) (v := .agg b.cs.toArray) (fun _ h => h) rfl rfl rfl (fun _ => qa_ldA (cs := b.cs) rfl (Cells.blk 1 rfl) rfl) ?_
      refine DW.tke rfl rfl ?_
      refine DW.eff _ _ (fun _ x w1 h => hle1 x.2.2 w1 h) rfl (e_callS (args := #[.agg b.cs.toArray]) oK rfl rfl (fun w1 hw1 => fTowns_c w1 Φ hw1.phi hb.t hB.t)) ?_
      rintro ⟨⟨u, Ψ⟩, ⟨⟨nA, nc⟩, hu, hn⟩, hle⟩
      simp only at hu hn hle ⊢
      subst hu
      refine DW.tke rfl rfl ?_
      refine DW.eff (X := Unit) (fun _ => .bool (Ru.den e.towns X.Of)) (fun _ => St ⟨w, Φ, []⟩ Ψ (CC b2 b3 b X vA kn vc)) (fun _ _ => hle1 hle) rfl (e_quiet (q_call (args := #[.int .i64 X.Of, .slice nA e.towns.length nc]) oK rfl rfl (fun w1 hw1 => first_c w1 Ψ hw1.phi hn))) fun _ => ?_
      refine DW.q (v := .bool (Ru.den e.towns X.Of)) (hle1 hle) rfl (q_pick rfl (fun _ => rfl) (fun h => nomatch h)) ?_
      refine DW.q (v := .bool (Ru.den e.towns X.Of)) (hle1 hle) rfl (q_assign rfl) ?_
      repeat refine gs1 ?_
      exact fin_res (vs := [.bool (Ru.den e.towns X.Of)]) rfl rfl ⟨.tmp rfl, trivial⟩ rfl (fun w' hw => ⟨by rw [hD, decide_eq_true h0, Bool.and_true]; rfl, (hle1 hle w' hw).below rfl⟩)
    · refine DW.q (v := .bool false) (fun _ h => h) rfl (q_as (q_eql rfl rfl) (congrArg Value.bool (decide_eq_false h0))) ?_
      refine DW.q (fun _ h => h) rfl (q_move rfl) ?_
      refine DW.g (b := false) (v := .bool false) (fun _ h => h) rfl rfl rfl (fun h => by simp at h) ?_
      refine DW.g (b := false) (v := .bool false) (fun _ h => h) rfl rfl rfl (fun h => by simp at h) ?_
      refine DW.g (b := false) (v := .bool false) (fun _ h => h) rfl rfl rfl (fun h => by simp at h) ?_
      refine DW.skp (b := false) (fun _ _ h => h) rfl rfl rfl (by decide) ?_
      refine DW.skp (b := false) (fun _ _ h => h) rfl rfl rfl (by decide) ?_
      refine DW.q (v := .bool false) (fun _ h => h) rfl (q_pick rfl (fun h => nomatch h) (fun _ => rfl)) ?_
      refine DW.q (v := .bool false) (fun _ h => h) rfl (q_assign rfl) ?_
      repeat refine gs1 ?_
      exact fin_res (vs := [.bool false]) rfl rfl ⟨.tmp rfl, trivial⟩ rfl (fun w' hw => ⟨by rw [hD, decide_eq_false h0, Bool.and_false]; rfl, hw.below rfl⟩)
  have c7 : X.N ≠ 7 := odF c
  repeat refine gs1 ?_
  refine AW.orCh (kd := .i64) (t := 58) (x := 6) (a := X.N) rfl rfl _ rfl rfl rfl rfl fun f' => ?_
  repeat refine gs1 ?_
  have e4 : (decide (X.N = 4) || [((5 : Int), 60), (6, 61)].any fun p => decide (X.N = p.1)) = decide (X.N = 4 ∨ X.N = 5 ∨ X.N = 6) := by simp
  refine AW.cond rfl (fun c => ?_) fun c => ?_
  · have c : X.N = 4 ∨ X.N = 5 ∨ X.N = 6 := odT (e4.symm.trans c)
    repeat refine gs1 ?_
    refine RW.q (v := .bool (decide (X.Of = 0) && decide (X.Of2 = 0))) rfl (qpA rfl rfl rfl) ?_
    repeat refine gs1 ?_
    exact fin_res (vs := [.bool (decide (X.Of = 0) && decide (X.Of2 = 0))]) rfl rfl ⟨.tmp rfl, trivial⟩ rfl (fun w' hw => ⟨by unfold Ru.jfact; rw [if_neg c0, if_neg c2, if_neg c3, if_neg c7, if_pos c]; rfl, hw.below rfl⟩)
  have c4 : ¬ (X.N = 4 ∨ X.N = 5 ∨ X.N = 6) := odF (e4.symm.trans c)
  repeat refine gs1 ?_
  exact fin_res (vs := [.bool false]) rfl rfl ⟨.tmp rfl, trivial⟩ rfl (fun w' hw => ⟨by unfold Ru.jfact; rw [if_neg c0, if_neg c2, if_neg c3, if_neg c7, if_neg c4]; rfl, hw.below rfl⟩)
theorem fkids_c (w : World) (Φ : Hp) (hΦ : Hp.le Φ (hp w)) {b : BasV} {e : Ru.Env} (hb : b.ok Φ e) (hB : BigE e) {r : Bt.Rule} {fv cv : Value} (hf : RepSl Φ r.Funcs fv) {cn : Nat} (hc : IsSl cv cn) {X : Bt.Expr} {v : Value} {kn : Nat} (hv : IsSl v kn) {np : Int} :
    Calls pg 83 #[.agg b.cs.toArray, .agg #[fv, cv], .agg (exC X v).toArray, .int .i64 np] w fun e' w' => e' = .returned (.int .i64 (Ru.kidsN e r.Funcs np X)) ∧ Bel w.heap.size w w' := by
  obtain ⟨vA, vc, rfl, _⟩ := hv
  have hfs := hf.sl
  obtain ⟨fA, fc, rfl, _⟩ := hf.sl
  obtain ⟨cA, cc, rfl, _⟩ := hc
  refine calls_of_AW (args := [.agg b.cs.toArray, .agg #[.slice fA r.Funcs.length fc, .slice cA cn cc], .agg (exC X (.slice vA kn vc)).toArray, .int .i64 np]) Tryz.func83 rfl (lBT rfl) (St ⟨w, Φ, []⟩ Φ []) (StP.init w Φ hΦ []) ?_
  show AW _ _ [] _ _ _ [(0, .agg b.cs.toArray), (1, .agg #[.slice fA r.Funcs.length fc, .slice cA cn cc]), (2, .agg (exC X (.slice vA kn vc)).toArray), (3, .int .i64 np)] _
  repeat refine gs1 ?_
  refine RW.bxA (cs := b.cs) rfl rfl fun b4 => ?_
  refine RW.bxA (cs := [.slice fA r.Funcs.length fc, .slice cA cn cc]) rfl rfl fun b5 => ?_
  refine RW.bxA (cs := exC X (.slice vA kn vc)) rfl rfl fun b6 => ?_
  repeat refine gs1 ?_
  refine RW.g2 (b1 := !decide (X.Kind = 1)) (b2 := !decide (X.Of = 0)) (v := .pointer (some ⟨b6, 3, none⟩)) rfl rfl rfl (fun hg1 hg2 => qa_fa0 rfl) ?_
  refine RW.g2 (b1 := !decide (X.Kind = 1)) (b2 := !decide (X.Of = 0)) (v := .int .i64 X.Of2) rfl rfl rfl (fun hg1 hg2 => qa_ld ((gv_pos hg1).trans (gv_pos hg2)) (Cell.blk 0 rfl rfl)) ?_
  refine RW.g2 (b1 := !decide (X.Kind = 1)) (b2 := !decide (X.Of = 0)) (v := .bool (!decide (X.Of2 = 0))) rfl rfl rfl (fun hg1 hg2 => q_neq ((gv_pos hg1).trans (gv_pos hg2)) rfl) ?_
  refine RW.g (b := !decide (X.Kind = 1)) (v := .bool (!decide (X.Of = 0) || !decide (X.Of2 = 0))) rfl rfl rfl (fun h => q_pick (gv_pos h) (fun hp => pkOrT hp) (fun hp => (gv_pos h).trans ((gv_pos hp).trans (pkOrF hp)))) ?_
  refine RW.q (v := .bool (!decide (X.Kind = 1) && (!decide (X.Of = 0) || !decide (X.Of2 = 0)))) rfl (qpA rfl rfl rfl) ?_
  repeat refine gs1 ?_
  have hK : ∀ n, (X.Kind ≠ 1 ∧ (X.Of ≠ 0 ∨ X.Of2 ≠ 0)) → Ru.kidsN e r.Funcs n X = -1 := fun n h => by unfold Ru.kidsN; rw [if_pos h]
  refine AW.cond rfl (fun c => ?_) fun c => ?_
  · have c : X.Kind ≠ 1 ∧ (X.Of ≠ 0 ∨ X.Of2 ≠ 0) := by simpa using c
    repeat refine gs1 ?_
    exact fin_res (vs := [.int .i64 (-1)]) rfl rfl ⟨.tmp rfl, trivial⟩ rfl (fun w' hw => ⟨by rw [hK _ c]; rfl, hw.below rfl⟩)
  have c : ¬ (X.Kind ≠ 1 ∧ (X.Of ≠ 0 ∨ X.Of2 ≠ 0)) := fun h => by simp [h.1] at c; omega
  unfold Ru.kidsN
  rw [if_neg c]
  clear hK
  repeat refine gs1 ?_
  refine AW.cond rfl (fun k => ?_) fun k0 => ?_
  · have k : X.Kind = 0 := odT k
    rw [if_pos k]
    repeat refine gs1 ?_
    refine RW.q (v := .bool (decide (0 ≤ X.N) && decide (X.N ≤ 1125899906842624))) rfl (qpA rfl rfl rfl) ?_
    repeat refine gs1 ?_
    refine AW.cond rfl (fun c => ?_) fun c => ?_
    · have c : 0 ≤ X.N ∧ X.N ≤ 1125899906842624 := by simpa using c
      rw [if_pos c]
      repeat refine gs1 ?_
      exact fin_res (vs := [.int .i64 0]) rfl rfl ⟨.tmp rfl, trivial⟩ rfl (fun w' hw => ⟨rfl, hw.below rfl⟩)
    have c : ¬ (0 ≤ X.N ∧ X.N ≤ 1125899906842624) := fun h => by simp [h.1, h.2] at c
    rw [if_neg c]
    repeat refine gs1 ?_
    exact fin_res (vs := [.int .i64 (-1)]) rfl rfl ⟨.tmp rfl, trivial⟩ rfl (fun w' hw => ⟨rfl, hw.below rfl⟩)
  have k0 : X.Kind ≠ 0 := odF k0
  rw [if_neg k0]
  repeat refine gs1 ?_
  refine AW.cond rfl (fun k => ?_) fun k1 => ?_
  · have k : X.Kind = 1 := odT k
    rw [if_pos k]
    repeat refine gs1 ?_
    refine RW.q (v := .bool (Ru.jfact e X)) rfl (q_call (args := #[.agg b.cs.toArray, .agg (exC X (.slice vA kn vc)).toArray]) oK rfl rfl (fun w1 hw1 => ffact_c w1 Φ hw1.phi hb hB ⟨vA, vc, rfl, ‹_›⟩)) ?_
    repeat refine gs1 ?_
    refine AW.cond rfl (fun c => ?_) fun c => ?_
    · rw [c, if_pos rfl]
      repeat refine gs1 ?_
      exact fin_res (vs := [.int .i64 0]) rfl rfl ⟨.tmp rfl, trivial⟩ rfl (fun w' hw => ⟨rfl, hw.below rfl⟩)
    rw [c, if_neg (by simp)]
    repeat refine gs1 ?_
    exact fin_res (vs := [.int .i64 (-1)]) rfl rfl ⟨.tmp rfl, trivial⟩ rfl (fun w' hw => ⟨rfl, hw.below rfl⟩)
  have k1 : X.Kind ≠ 1 := odF k1
  rw [if_neg k1]
  repeat refine gs1 ?_
  refine AW.cond rfl (fun k => ?_) fun k15 => ?_
  · have k : X.Kind = 15 := odT k
    rw [if_pos k]
    repeat refine gs1 ?_
    refine RW.q (v := .bool (decide (0 ≤ X.N) && decide (X.N < np))) rfl (qpA rfl rfl rfl) ?_
    repeat refine gs1 ?_
    refine AW.cond rfl (fun c => ?_) fun c => ?_
    · have c : 0 ≤ X.N ∧ X.N < np := by simpa using c
      rw [if_pos c]
      repeat refine gs1 ?_
      exact fin_res (vs := [.int .i64 0]) rfl rfl ⟨.tmp rfl, trivial⟩ rfl (fun w' hw => ⟨rfl, hw.below rfl⟩)
    have c : ¬ (0 ≤ X.N ∧ X.N < np) := fun h => by simp [h.1, h.2] at c
    rw [if_neg c]
    repeat refine gs1 ?_
    exact fin_res (vs := [.int .i64 (-1)]) rfl rfl ⟨.tmp rfl, trivial⟩ rfl (fun w' hw => ⟨rfl, hw.below rfl⟩)
  have k15 : X.Kind ≠ 15 := odF k15
  rw [if_neg k15]
  repeat refine gs1 ?_
  refine AW.cond rfl (fun k => ?_) fun k14 => ?_
  · have k : X.Kind = 14 := odT k
    rw [if_pos k]
    repeat refine gs1 ?_
    refine RW.g (b := decide (0 ≤ X.N)) (v := .int .i64 ((r.Funcs.length : Nat) : Int)) rfl rfl rfl (fun h => q_len_sl (gv_pos h) hfs Tryz.underlying32) ?_
    repeat refine gs1 ?_
    refine RW.q (v := .bool (decide (0 ≤ X.N) && decide (X.N < (r.Funcs.length : Int)))) rfl (qpA rfl rfl rfl) ?_
    repeat refine gs1 ?_
    refine AW.cond rfl (fun c => ?_) fun c => ?_
    · have c : 0 ≤ X.N ∧ X.N < (r.Funcs.length : Int) := by simpa using c
      rw [if_pos c]
      obtain ⟨m, hm⟩ : ∃ m : Nat, X.N = m := ⟨X.N.toNat, by omega⟩
      have hml : m < r.Funcs.length := by omega
      obtain ⟨qv, Ab, cb, hpb, hqv, _⟩ := funW hf hml
      have pp : PCell Φ (Value.at (.slice fA r.Funcs.length fc) (m * 8 + 1)) qv := by have := hpb 1 _ rfl; rwa [at_add] at this
      have hqs := hqv.sl
      clear hpb
      repeat refine gs1 ?_
      refine RW.q (v := .pointer (some (Value.at (.slice fA r.Funcs.length fc) (m * 8)))) rfl (qa_ixN (n := r.Funcs.length) (i := m) rfl (by show Value.int .i64 X.N = _; rw [hm]) hfs hml) ?_
      repeat refine gs1 ?_
      exact fin_res (vs := [.int .i64 (((r.Funcs.getD m default).Params.length : Nat) : Int)]) rfl rfl ⟨.tmp rfl, trivial⟩ rfl (fun w' hw => ⟨by rw [hm, Int.toNat_natCast]; rfl, hw.below rfl⟩)
    have c : ¬ (0 ≤ X.N ∧ X.N < (r.Funcs.length : Int)) := fun h => by simp [h.1, h.2] at c
    rw [if_neg c]
    repeat refine gs1 ?_
    exact fin_res (vs := [.int .i64 (-1)]) rfl rfl ⟨.tmp rfl, trivial⟩ rfl (fun w' hw => ⟨rfl, hw.below rfl⟩)
  have k14 : X.Kind ≠ 14 := odF k14
  rw [if_neg k14]
  repeat refine gs1 ?_
  refine AW.cond rfl (fun c => ?_) fun c => ?_
  · have c : X.N ≠ 0 := by simpa using c
    rw [if_pos c]
    repeat refine gs1 ?_
    exact fin_res (vs := [.int .i64 (-1)]) rfl rfl ⟨.tmp rfl, trivial⟩ rfl (fun w' hw => ⟨rfl, hw.below rfl⟩)
  have c : ¬ X.N ≠ 0 := by simpa using c
  rw [if_neg c]
  repeat refine gs1 ?_
  refine AW.orCh (kd := .i64) (t := 76) (x := 75) (a := X.Kind) rfl rfl _ rfl rfl rfl rfl fun f1 => ?_
  repeat refine gs1 ?_
  have e2 : (decide (X.Kind = 2) || [((3 : Int), 78)].any fun p => decide (X.Kind = p.1)) = decide (X.Kind = 2 ∨ X.Kind = 3) := by simp
  refine AW.cond rfl (fun k => ?_) fun k => ?_
  · rw [if_pos (odT (e2.symm.trans k))]
    repeat refine gs1 ?_
    exact fin_res (vs := [.int .i64 1]) rfl rfl ⟨.tmp rfl, trivial⟩ rfl (fun w' hw => ⟨rfl, hw.below rfl⟩)
  rw [if_neg (odF (e2.symm.trans k))]
  repeat refine gs1 ?_
  refine AW.cond rfl (fun k => ?_) fun k => ?_
  · rw [if_pos (odT k)]
    repeat refine gs1 ?_
    exact fin_res (vs := [.int .i64 3]) rfl rfl ⟨.tmp rfl, trivial⟩ rfl (fun w' hw => ⟨rfl, hw.below rfl⟩)
  rw [if_neg (odF k)]
  repeat refine gs1 ?_
  refine AW.orCh (kd := .i64) (t := 81) (x := 75) (a := X.Kind) rfl rfl _ rfl rfl rfl rfl fun f2 => ?_
  repeat refine gs1 ?_
  have e3 : (decide (X.Kind = 4) || [((5 : Int), 83), (6, 84), (7, 85), (8, 86), (9, 87), (10, 88), (11, 89), (12, 90)].any fun p => decide (X.Kind = p.1)) = decide (X.Kind = 4 ∨ X.Kind = 5 ∨ X.Kind = 6 ∨ X.Kind = 7 ∨ X.Kind = 8 ∨ X.Kind = 9 ∨ X.Kind = 10 ∨ X.Kind = 11 ∨ X.Kind = 12) := by simp
  refine AW.cond rfl (fun k => ?_) fun k => ?_
  · rw [if_pos (odT (e3.symm.trans k))]
    repeat refine gs1 ?_
    exact fin_res (vs := [.int .i64 2]) rfl rfl ⟨.tmp rfl, trivial⟩ rfl (fun w' hw => ⟨rfl, hw.below rfl⟩)
  rw [if_neg (odF (e3.symm.trans k))]
  repeat refine gs1 ?_
  exact fin_res (vs := [.int .i64 (-1)]) rfl rfl ⟨.tmp rfl, trivial⟩ rfl (fun w' hw => ⟨rfl, hw.below rfl⟩)
end Go.Proofs.YtnfmjfheciihjaaGreatDoor
namespace Ru
open Bt
def kindV (fs : List RFunc) (ts : List Int) (x : Expr) (ks : List Int) : Int :=
  if x.Kind = 15 then ts.getD x.N.toNat 0
  else if x.Kind = 14 then (fs.getD x.N.toNat default).Result
  else if x.Kind = 13 then ks.getD 1 0
  else if x.Kind = 3 ∨ x.Kind = 8 ∨ x.Kind = 9 ∨ x.Kind = 10 ∨ x.Kind = 11 ∨ x.Kind = 12 then 1
  else 0
def wantV (fs : List RFunc) (x : Expr) (ks : List Int) (i : Nat) : Int :=
  if x.Kind = 3 ∨ x.Kind = 11 ∨ x.Kind = 12 then 1
  else if x.Kind = 14 then (fs.getD x.N.toNat default).Params.getD i 0
  else if x.Kind = 10 then ks.getD 0 0
  else if x.Kind = 13 then (if i = 0 then 1 else ks.getD 1 0)
  else 0
variable {e : Env} {fs : List RFunc} {ts ks : List Int} {j : Nat} {x : Expr}
theorem len3L {l : List Int} (h : l.length = 3) : ∃ a b d, l = [a, b, d] := match l, h with
  | [a, b, d], _ => ⟨a, b, d, rfl⟩
theorem len2L {l : List Int} (h : l.length = 2) : ∃ a b, l = [a, b] := match l, h with
  | [a, b], _ => ⟨a, b, rfl⟩
theorem jop_v {k : Int} {l : List Int} (h : (jop k l).2 = true) : (jop k l).1 = if k = 13 then l.getD 1 0 else if k = 3 ∨ k = 8 ∨ k = 9 ∨ k = 10 ∨ k = 11 ∨ k = 12 then 1 else 0 := by
  unfold jop at h ⊢
  by_cases k2 : k = 2
  · subst k2; simp
  by_cases k3 : k = 3
  · subst k3; simp
  simp only [if_neg k2, if_neg k3] at h ⊢
  by_cases k4 : k = 4 ∨ k = 5 ∨ k = 6 ∨ k = 7
  · rw [if_pos k4, if_neg (by omega), if_neg (by omega)]
  simp only [if_neg k4] at h ⊢
  by_cases k8 : k = 8 ∨ k = 9
  · rw [if_pos k8, if_neg (by omega), if_pos (by omega)]
  simp only [if_neg k8] at h ⊢
  by_cases k10 : k = 10
  · subst k10; simp
  simp only [if_neg k10] at h ⊢
  by_cases k11 : k = 11 ∨ k = 12
  · rw [if_pos k11, if_neg (by omega), if_pos (by omega)]
  simp only [if_neg k11] at h ⊢
  by_cases k13 : k = 13
  · simp only [if_pos k13] at h ⊢
    split at h
    · cases h
    · rename_i hh; rw [if_neg hh]
  · simp only [if_neg k13] at h
    cases h
theorem jnd_v (h : (jnd e fs ts x ks).2 = true) : (jnd e fs ts x ks).1 = kindV fs ts x ks := by
  unfold jnd at h ⊢
  unfold kindV
  by_cases k0 : x.Kind = 0
  · simp [k0]
  by_cases k1 : x.Kind = 1
  · simp [k1]
  simp only [if_neg k0, if_neg k1] at h ⊢
  by_cases k15 : x.Kind = 15
  · simp only [if_pos k15] at h ⊢
    split at h
    · cases h
    · rename_i hh; rw [if_neg hh]
  simp only [if_neg k15] at h ⊢
  by_cases k14 : x.Kind = 14
  · simp only [if_pos k14] at h ⊢
    split at h
    · cases h
    · rename_i hh; rw [if_neg hh]
  simp only [if_neg k14] at h ⊢
  split at h
  · cases h
  · rename_i hh
    rw [if_neg hh]
    exact jop_v h
theorem jnd_len (c : ¬ (x.Kind ≠ 1 ∧ (x.Of ≠ 0 ∨ x.Of2 ≠ 0))) (h : (jnd e fs ts x ks).2 = true) : kidsN e fs ts.length x = (ks.length : Int) := by
  unfold kidsN
  rw [if_neg c]
  unfold jnd at h
  by_cases k0 : x.Kind = 0
  · simp only [if_pos k0, Bool.and_eq_true, decide_eq_true_eq] at h ⊢
    rw [if_pos ⟨h.1.2, h.2⟩, h.1.1]; rfl
  simp only [if_neg k0] at h ⊢
  by_cases k1 : x.Kind = 1
  · simp only [if_pos k1, Bool.and_eq_true, decide_eq_true_eq] at h ⊢
    rw [if_pos h.2, h.1]; rfl
  simp only [if_neg k1] at h ⊢
  by_cases k15 : x.Kind = 15
  · simp only [if_pos k15] at h ⊢
    split at h
    · cases h
    · rename_i hh
      rw [if_pos (by omega)]
      have : ks = [] := Classical.byContradiction fun hc => hh (.inl hc)
      rw [this]; rfl
  simp only [if_neg k15] at h ⊢
  by_cases k14 : x.Kind = 14
  · simp only [if_pos k14] at h ⊢
    split at h
    · cases h
    · rw [if_pos (by omega), odT h]
  simp only [if_neg k14] at h ⊢
  split at h
  · cases h
  · rename_i hh
    rw [if_neg hh]
    have := jop_len h
    by_cases k23 : x.Kind = 2 ∨ x.Kind = 3
    · rw [if_pos k23, this.1 k23]; rfl
    rw [if_neg k23]
    by_cases k13 : x.Kind = 13
    · rw [if_pos k13, this.2.1 k13]; rfl
    rw [if_neg k13]
    have h2 := this.2.2 (by omega) (by omega) k13
    rw [if_pos (by omega), h2.1]; rfl
theorem jnd_ref (c : ¬ (x.Kind ≠ 1 ∧ (x.Of ≠ 0 ∨ x.Of2 ≠ 0))) (h : kidsN e fs ts.length x = (ks.length : Int)) : (jnd e fs ts x ks).2 = true ↔ ∀ i, i < ks.length → ks.getD i 0 = wantV fs x ks i := by
  unfold kidsN at h
  rw [if_neg c] at h
  unfold jnd wantV
  by_cases k0 : x.Kind = 0
  · simp only [if_pos k0] at h ⊢
    split at h
    · obtain rfl : ks = [] := List.length_eq_zero_iff.1 (by omega)
      rename_i hh; simp [hh.1, hh.2]
    · omega
  simp only [if_neg k0] at h ⊢
  by_cases k1 : x.Kind = 1
  · simp only [if_pos k1] at h ⊢
    split at h
    · obtain rfl : ks = [] := List.length_eq_zero_iff.1 (by omega)
      rename_i hh; simp [hh]
    · omega
  simp only [if_neg k1] at h ⊢
  by_cases k15 : x.Kind = 15
  · simp only [if_pos k15] at h ⊢
    split at h
    · obtain rfl : ks = [] := List.length_eq_zero_iff.1 (by omega)
      rename_i hh
      rw [if_neg (by intro h9; rcases h9 with h9 | h9; exact h9 rfl; omega)]
      simp
    · omega
  simp only [if_neg k15] at h ⊢
  by_cases k14 : x.Kind = 14
  · have k3 : ¬ (x.Kind = 3 ∨ x.Kind = 11 ∨ x.Kind = 12) := by omega
    simp only [if_pos k14, if_neg k3] at h ⊢
    split at h
    · rename_i hh
      rw [if_neg (by omega)]
      simp only [decide_eq_true_eq]
      constructor
      · rintro rfl i _; rfl
      · intro h2; exact eqI_of (by omega) h2
    · omega
  simp only [if_neg k14] at h ⊢
  split at h
  · omega
  rename_i hN
  rw [if_neg hN]
  split at h
  · rename_i k23
    obtain ⟨a, rfl⟩ : ∃ a, ks = [a] := List.length_eq_one_iff.1 (by omega)
    unfold jop
    rcases k23 with k2 | k3
    · simp [k2]
    · simp [k3]
  split at h
  · rename_i _ k13
    obtain ⟨a, b, d, rfl⟩ : ∃ a b d, ks = [a, b, d] := len3L (by omega)
    unfold jop
    simp only [k13]
    constructor
    · intro h2 i hi
      simp at h2
      split at h2
      · cases h2
      rename_i hh
      have : i = 0 ∨ i = 1 ∨ i = 2 := by simp at hi; omega
      rcases this with rfl | rfl | rfl <;> simp <;> omega
    · intro h2
      have h3 := h2 0 (by simp)
      have h4 := h2 2 (by simp)
      simp at h3 h4
      simp [h3, h4]
  split at h
  · rename_i k2_12
    obtain ⟨a, b, rfl⟩ : ∃ a b, ks = [a, b] := len2L (by omega)
    unfold jop
    have h2 : ∀ P : Nat → Prop, (∀ i, i < [a, b].length → P i) ↔ P 0 ∧ P 1 := fun P => ⟨fun h => ⟨h 0 (by simp), h 1 (by simp)⟩, fun h i hi => by
      have : i = 0 ∨ i = 1 := by simp at hi; omega
      rcases this with rfl | rfl
      · exact h.1
      · exact h.2⟩
    rw [h2]
    rcases k2_12 with k | k | k | k | k | k | k | k | k <;> simp [k] <;> omega
  · omega
theorem jx_false1 (h : kidsN e fs ts.length x ≠ (x.Kids.length : Int)) : (jx e fs ts (j + 1) x).2 = false := by
  cases hx : (jx e fs ts (j + 1) x).2 with
  | false => rfl
  | true =>
    obtain ⟨ks, h1, h2, h3⟩ := jx_ok hx
    obtain ⟨h4, _⟩ := jxs_mem h1
    have c : ¬ (x.Kind ≠ 1 ∧ (x.Of ≠ 0 ∨ x.Of2 ≠ 0)) := fun hc => by
      rw [jx, if_pos hc] at hx; cases hx
    exact absurd ((jnd_len c h3).trans (by rw [h4, List.length_map])) h
theorem jx_false2 {y : Expr} (hy : y ∈ x.Kids) (h : (jx e fs ts j y).2 = false) : (jx e fs ts (j + 1) x).2 = false := by
  rw [jx]
  split
  · rfl
  · rw [jxs_none hy h]
theorem jxs_all {f : Expr → Int × Bool} : ∀ {xs : List Expr}, (∀ y ∈ xs, (f y).2 = true) → jxs f xs = some (xs.map fun y => (f y).1)
  | [], _ => rfl
  | y :: ys, h => by
    unfold jxs
    rw [if_pos (h y (List.mem_cons_self ..)), jxs_all fun z hz => h z (List.mem_cons_of_mem _ hz)]; rfl
theorem jx_iff (h : kidsN e fs ts.length x = (x.Kids.length : Int)) (hk : ∀ y ∈ x.Kids, (jx e fs ts j y).2 = true) : (jx e fs ts (j + 1) x).2 = true ↔ ∀ i, i < x.Kids.length → (x.Kids.map fun y => (jx e fs ts j y).1).getD i 0 = wantV fs x (x.Kids.map fun y => (jx e fs ts j y).1) i := by
  have c : ¬ (x.Kind ≠ 1 ∧ (x.Of ≠ 0 ∨ x.Of2 ≠ 0)) := fun hc => by
    unfold kidsN at h; rw [if_pos hc] at h; omega
  rw [jx, if_neg c, jxs_all hk]
  have := jnd_ref (e := e) (fs := fs) (ts := ts) (ks := x.Kids.map fun y => (jx e fs ts j y).1) c (by rw [List.length_map]; exact h)
  rw [List.length_map] at this
  exact this
theorem jx_v (h : (jx e fs ts (j + 1) x).2 = true) : (jx e fs ts (j + 1) x).1 = kindV fs ts x (x.Kids.map fun y => (jx e fs ts j y).1) := by
  obtain ⟨ks, h1, h2, h3⟩ := jx_ok h
  obtain ⟨h4, _⟩ := jxs_mem h1
  rw [h2, jnd_v h3, h4]
end Ru
