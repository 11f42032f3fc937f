/- Lemmas. Conditions: those of each theorem. -/
import Derived.Test.YtnfmjfheciihjaaGreatDoorYRsC
import Derived.Test.YtnfmjfheciihjaaGreatDoorYLibB
import Derived.Test.YtnfmjfheciihjaaGreatDoorYOwnG
set_option maxRecDepth 8000
set_option maxHeartbeats 16000000
namespace Go.K
open Go Go.RowKit
variable {B : Bs} {Φ Ψ : Hp} {C : List Chunk} {W W' w : World}
def MkR {ζ : Type} (w : World) (V : ζ → Value) (K : ζ → List Chunk) : Ending → World → Prop := fun e w' => ∃ z, e = .returned (V z) ∧ StP ⟨w, hp w, []⟩ (hp w) (K z) w'
theorem StP.tell {E : List Nat} {Φ0 : Hp} (h : StP ⟨w, Φ0, E⟩ Ψ C W) (hl : Hp.le Φ Ψ) : StP ⟨w, Φ, E⟩ Φ C W := { h.less hl with orig := fun _ _ e _ => e }
theorem StP.made {K : List Chunk} (h : StP B Φ C w) (k : StP ⟨w, hp w, []⟩ (hp w) K W) : StP B Φ (K ++ C) W := StP.frameL (A := []) h (StP.tell k h.phi)
theorem e_mk {P : Program} {Pn : List PanicEntry → World → Prop} {f : Nat → Value} {s : List (Nat × Value)} {dst : Option Nat} {ty : TypeId} {pos : String} {af : Array Edge} {g : Option (Nat × Bool)} {ζ : Type} {V : ζ → Value} {K : ζ → List Chunk}
  {x : Operand} {xs : Array Operand} {ts : Array TypeId} {k : FuncId} {first capt args : Array Value} (hk : Own P k) (hx : ev (fr f s) x = .func (.func k) first capt) (ha : first.toList ++ xs.toList.map (ev (fr f s)) ++ capt.toList = args.toList)
  (h : ∀ w, StP B Φ C w → Calls P k args w (MkR w V K)) :
  ∀ w, (St B Φ C).p w → effX P Pn (fun v w' => ∃ z : ζ, v = V z ∧ (St B Φ (K z ++ C)).p w') ((execOp (ev (fr f s)) ⟨dst, .call { callee := .value x, args := xs, argTypes := ts }, ty, pos, af, g⟩).run P w) :=
 e_call (V := V) (J' := fun z => St B Φ (K z ++ C)) hk hx ha fun w hw => (h w hw).mono fun _ _ ⟨z, h1, h2⟩ => ⟨z, h1, StP.made hw h2⟩
theorem RW.mk {P : Program} {N : Nat} {D : List Deferred} {ops : Array Oper} {Q : Exit → Act → World → Prop} {Pn : List PanicEntry → World → Prop} [hQ : PanQ D Q Pn] {f : Nat → Value} {s : List (Nat × Value)} {d : Nat} {ty : TypeId} {pos : String} {af : Array Edge} {rest : List Oper} {ζ : Type} {V : ζ → Value} {K : ζ → List Chunk}
  {x : Operand} {xs : Array Operand} {ts : Array TypeId} {k : FuncId} {first capt args : Array Value} (hd : Nat.blt d N = true) (hk : Own P k) (hx : ev (fr f s) x = .func (.func k) first capt) (ha : first.toList ++ xs.toList.map (ev (fr f s)) ++ capt.toList = args.toList)
  (h : ∀ w, StP B Φ C w → Calls P k args w (MkR w V K))
  (kk : ∀ z, RW P N D ops Q rest f ((d, V z) :: s) (St B Φ (K z ++ C))) : RW P N D ops Q (⟨some d, .call { callee := .value x, args := xs, argTypes := ts }, ty, pos, af, none⟩ :: rest) f s (St B Φ C) :=
 RW.eff _ _ hd (e_mk hk hx ha h) kk
theorem DW.mk {P : Program} {N : Nat} {D : List Deferred} {ops : Array Oper} {Q : Exit → Act → World → Prop} {Pn : List PanicEntry → World → Prop} {f : Nat → Value} {s : List (Nat × Value)} {d : Nat} {ty : TypeId} {pos : String} {af : Array Edge} {tg : List Tg} {rest : List Oper} {J0 : Cls} {ζ : Type} {V : ζ → Value} {K : ζ → List Chunk}
  {x : Operand} {xs : Array Operand} {ts : Array TypeId} {k : FuncId} {first capt args : Array Value} (hd : Nat.blt d N = true) (hk : Own P k) (hx : ev (fr f s) x = .func (.func k) first capt) (ha : first.toList ++ xs.toList.map (ev (fr f s)) ++ capt.toList = args.toList)
  (h : ∀ w, StP B Φ C w → Calls P k args w (MkR w V K)) (hJ : ∀ z w, StP B Φ (K z ++ C) w → J0.p w)
  (kk : ∀ z, DW P Pn N D ops J0 Q tg rest f ((d, V z) :: s) (St B Φ (K z ++ C))) : DW P Pn N D ops J0 Q (.e :: tg) (⟨some d, .call { callee := .value x, args := xs, argTypes := ts }, ty, pos, af, none⟩ :: rest) f s (St B Φ C) :=
 DW.eff _ _ (fun _ z w hw => hJ z w hw) hd (e_mk hk hx ha h) kk
end Go.K
namespace Ru
open Go Go.K Bt
theorem ix_snoc (l : List (List UInt8)) (a t : List UInt8) : ix (l ++ [a]) t = (ix l t).or (if a = t then some l.length else none) := by
 unfold ix
 rw [List.findIdx?_append]
 congr 1
 by_cases h : a = t <;> simp [h]
def ixM (l : List (List UInt8)) (t : List UInt8) : Option Int := Option.map (Nat.cast : Nat → Int) (ix l t)
theorem ixM_new {l : List (List UInt8)} {a : List UInt8} (h : ixM l a = none) : (fun j => if j = a then some (l.length : Int) else ixM l j) = ixM (l ++ [a]) := by
 funext j
 have h0 : ix l a = none := by unfold ixM at h; exact Option.map_eq_none_iff.1 h
 unfold ixM at *
 rw [ix_snoc]
 by_cases hj : j = a
 ·
  subst hj; simp [h0]
 ·
  rw [if_neg hj, if_neg (Ne.symm hj), Option.or_none]
theorem ixM_old {l : List (List UInt8)} {a : List UInt8} (h : (ixM l a).isSome = true) : ixM (l ++ [a]) = ixM l := by
 funext j
 have h0 : (ix l a).isSome = true := by unfold ixM at h; rwa [Option.isSome_map] at h
 unfold ixM
 rw [ix_snoc]
 by_cases hj : a = j
 ·
  subst hj
  obtain ⟨n, hn⟩ := Option.isSome_iff_exists.1 h0
  simp [hn]
 ·
  rw [if_neg hj, Option.or_none]
theorem _root_.Go.K.RowS.big {Φ : Hp} {v : Value} {T sz n : Nat} {xs : List Value} (h : RowS Φ v T sz n xs) : n ≤ 9223372036854775807 := by
 rcases h.2 with ⟨_, h⟩ | ⟨g, cap, cur, _, _, h6, h7, _⟩
 ·
  omega
 ·
  simp only [maxLen] at h7; omega
theorem _root_.Go.K.RowS.up {Φ Ψ : Hp} {v : Value} {T sz n : Nat} {xs : List Value} (h : RowS Φ v T sz n xs) (hl : Hp.le Φ Ψ) : RowS Ψ v T sz n xs := (Chunk.row v T sz n xs).loc _ _ (fun c hc => by
  cases hq : Φ c with
  | none => exact absurd hq ((Chunk.row v T sz n xs).dom _ h c hc)
  | some o => exact hl c o hq) h
theorem OP.Lup {α : Type} {o : OP α} {Φ Ψ : Hp} {xs : List α} {l F : List Nat} (h : o.L Φ xs l F) (hl : Hp.le Φ Ψ) : o.L Ψ xs l F := OP.Lloc o xs l F (fun c hc => by
  cases hq : Φ c with
  | none => exact absurd hq (OP.Ldom o xs l F h c hc)
  | some o => exact hl c o hq) h
structure NmS (Φ : Hp) (v : Value) (sz : Nat) (ns : List (List UInt8)) : Prop where
 sl : IsSl v ns.length
 at_ : ∀ i (h : i < ns.length), PCell Φ (Value.at v (i * sz)) (.string (bs ns[i]))
 len : ∀ n ∈ ns, n.length ≤ maxLen
 big : ns.length ≤ 9223372036854775807
theorem NmS.mono {Φ Ψ : Hp} {v : Value} {sz : Nat} {ns : List (List UInt8)} (h : NmS Φ v sz ns) (hl : Hp.le Φ Ψ) : NmS Ψ v sz ns := ⟨h.sl, fun i hi => (h.at_ i hi).mono hl, h.len, h.big⟩
structure BasV where
 nm : List UInt8
 ov : Value
 ce : Int
 pv : Value
 lv : Value
 tv : Value
 gv : Value
 rv : Value
 sv : Value
 mv : Value
 er : Int
abbrev BasV.cs (b : BasV) : List Value := [.string (bs b.nm), b.ov, iV b.ce, b.pv, b.lv, b.tv, b.gv, b.rv, b.sv, b.mv, iV b.er]
structure BasV.ok (Φ : Hp) (b : BasV) (e : Env) : Prop where
 o : NmS Φ b.ov 1 e.owners
 p : NmS Φ b.pv 12 e.places
 l : NmS Φ b.lv 18 e.links
 t : NmS Φ b.tv 7 e.towns
theorem BasV.ok.mono {Φ Ψ : Hp} {b : BasV} {e : Env} (h : b.ok Φ e) (hl : Hp.le Φ Ψ) : b.ok Ψ e := ⟨h.o.mono hl, h.p.mono hl, h.l.mono hl, h.t.mono hl⟩
end Ru
namespace Go.Proofs.YtnfmjfheciihjaaGreatDoor
open Go Go.K Go.RowKit
open Ru (tr trs pB nC TrF fC cC fnP clP Tl NmS BasV ixM)
attribute [local irreducible] AW RW DW Post Qt
noncomputable def kStr : KL pg 9 (List UInt8) := KL.of (Maps.string_keyed uT9) (fun l => .string (bs l)) (fun l => l.length ≤ maxLen) (fun h => bs_inj (by simpa using h)) fun a ha => ⟨_, WideMaps.keyOf_string_mk uT9 (by rw [bs_size]; exact ha)⟩
noncomputable abbrev tab (b : Nat) (ns : List (List UInt8)) : Chunk := .kmap kStr (Value.int .i64) b (ixM ns)
theorem clo1_c (w : World) {bb : Nat} {b : BasV} {ns : List (List UInt8)} (hb : hp w bb = some (.cells b.cs.toArray 31 (0, 0))) (hn : NmS (hp w) b.pv 12 ns) (i : Nat) (hi : i < ns.length) :
  Calls pg 66 #[iV (i : Int), pB bb] w fun e w' => e = .returned (.string (bs ns[i])) ∧ Bel w.heap.size w w' := by
 refine calls_of_AW (args := [iV (i : Int), pB bb]) Tryz.func66 rfl (lBT rfl) (St ⟨w, hp w, []⟩ (hp w) []) (StP.init w (hp w) (Hp.le_refl _) []) ?_
 show AW _ _ [] _ _ _ [(0, iV (i : Int)), (1, pB bb)] _
 have hsl := hn.sl
 have h1 : PCell (hp w) ⟨bb, 3, none⟩ b.pv := PCell.blk hb rfl
 have h2 := hn.at_ i hi
 refine gR ?_
 exact fin_res (vs := [.string (bs ns[i])]) rfl rfl ⟨.tmp rfl, trivial⟩ rfl (fun w' hw => ⟨rfl, hw.below rfl⟩)
theorem clo2_c (w : World) {bb : Nat} {b : BasV} {ns : List (List UInt8)} (hb : hp w bb = some (.cells b.cs.toArray 31 (0, 0))) (hn : NmS (hp w) b.ov 1 ns) (i : Nat) (hi : i < ns.length) :
  Calls pg 67 #[iV (i : Int), pB bb] w fun e w' => e = .returned (.string (bs ns[i])) ∧ Bel w.heap.size w w' := by
 refine calls_of_AW (args := [iV (i : Int), pB bb]) Tryz.func67 rfl (lBT rfl) (St ⟨w, hp w, []⟩ (hp w) []) (StP.init w (hp w) (Hp.le_refl _) []) ?_
 show AW _ _ [] _ _ _ [(0, iV (i : Int)), (1, pB bb)] _
 have hsl := hn.sl
 have h1 : PCell (hp w) ⟨bb, 1, none⟩ b.ov := PCell.blk hb rfl
 have h2 := hn.at_ i hi
 refine gR ?_
 exact fin_res (vs := [.string (bs ns[i])]) rfl rfl ⟨.tmp rfl, trivial⟩ rfl (fun w' hw => ⟨rfl, hw.below rfl⟩)
theorem clo3_c (w : World) {bb : Nat} {b : BasV} {ns : List (List UInt8)} (hb : hp w bb = some (.cells b.cs.toArray 31 (0, 0))) (hn : NmS (hp w) b.lv 18 ns) (i : Nat) (hi : i < ns.length) :
  Calls pg 68 #[iV (i : Int), pB bb] w fun e w' => e = .returned (.string (bs ns[i])) ∧ Bel w.heap.size w w' := by
 refine calls_of_AW (args := [iV (i : Int), pB bb]) Tryz.func68 rfl (lBT rfl) (St ⟨w, hp w, []⟩ (hp w) []) (StP.init w (hp w) (Hp.le_refl _) []) ?_
 show AW _ _ [] _ _ _ [(0, iV (i : Int)), (1, pB bb)] _
 have hsl := hn.sl
 have h1 : PCell (hp w) ⟨bb, 4, none⟩ b.lv := PCell.blk hb rfl
 have h2 := hn.at_ i hi
 refine gR ?_
 exact fin_res (vs := [.string (bs ns[i])]) rfl rfl ⟨.tmp rfl, trivial⟩ rfl (fun w' hw => ⟨rfl, hw.below rfl⟩)
theorem clo4_c (w : World) {bb : Nat} {b : BasV} {ns : List (List UInt8)} (hb : hp w bb = some (.cells b.cs.toArray 31 (0, 0))) (hn : NmS (hp w) b.tv 7 ns) (i : Nat) (hi : i < ns.length) :
  Calls pg 69 #[iV (i : Int), pB bb] w fun e w' => e = .returned (.string (bs ns[i])) ∧ Bel w.heap.size w w' := by
 refine calls_of_AW (args := [iV (i : Int), pB bb]) Tryz.func69 rfl (lBT rfl) (St ⟨w, hp w, []⟩ (hp w) []) (StP.init w (hp w) (Hp.le_refl _) []) ?_
 show AW _ _ [] _ _ _ [(0, iV (i : Int)), (1, pB bb)] _
 have hsl := hn.sl
 have h1 : PCell (hp w) ⟨bb, 5, none⟩ b.tv := PCell.blk hb rfl
 have h2 := hn.at_ i hi
 refine gR ?_
 exact fin_res (vs := [.string (bs ns[i])]) rfl rfl ⟨.tmp rfl, trivial⟩ rfl (fun w' hw => ⟨rfl, hw.below rfl⟩)
theorem clo5_c (w : World) {bb : Nat} {fs : List Bt.Fn} {fv cv : Value} {l F : List Nat} (hb : hp w bb = some (.cells #[fv, cv] 101 (0, 0))) (hf : RowS (hp w) fv 143 1 fs.length (l.map pB)) (hfl : fnP.L (hp w) fs l F) (i : Nat) (hi : i < (Ru.fnN fs).length) :
  Calls pg 70 #[iV (i : Int), pB bb] w fun e w' => e = .returned (.string (bs (Ru.fnN fs)[i])) ∧ Bel w.heap.size w w' := by
 refine calls_of_AW (args := [iV (i : Int), pB bb]) Tryz.func70 rfl (lBT rfl) (St ⟨w, hp w, []⟩ (hp w) []) (StP.init w (hp w) (Hp.le_refl _) []) ?_
 show AW _ _ [] _ _ _ [(0, iV (i : Int)), (1, pB bb)] _
 have hi0 : i < fs.length := by simpa [Ru.fnN] using hi
 have hsl := hf.isSl
 have k1 : PCell (hp w) ⟨bb, 0, none⟩ fv := PCell.blk (cs := [fv, cv]) hb rfl
 obtain ⟨b, F1, hb1, pv, bd, G1, hb2, _⟩ := Ru.OP.Lget hfl i hi0
 have k2 : PCell (hp w) (Value.at fv (i * 1)) (pB b) := Ru.RowS.cellP hf (by rw [Nat.mul_one, List.getElem?_map, hb1]; rfl)
 have k3 : PCell (hp w) ⟨b, 1, none⟩ (.string (bs fs[i].name.Text)) := PCell.blk (cs := fC fs[i].name pv fs[i].result (pB bd)) hb2 rfl
 refine gR ?_
 exact fin_res (vs := [.string (bs fs[i].name.Text)]) rfl rfl ⟨.tmp rfl, trivial⟩ rfl (fun w' hw => ⟨by simp only [Ru.fnN, List.getElem_map]; rfl, hw.below rfl⟩)
theorem indices_c (w : World) {ns : List (List UInt8)} {k bb : Nat} (hk : Go.K.Own pg k) (hlen : ∀ n ∈ ns, n.length ≤ maxLen) (hbig : ns.length ≤ 9223372036854775807) (hname : ∀ w1, Hp.le (hp w) (hp w1) → ∀ i (hi : i < ns.length), Calls pg k #[iV (i : Int), pB bb] w1 fun e w' => e = .returned (.string (bs ns[i])) ∧ Bel w1.heap.size w1 w') :
  Calls pg 65 #[iV (ns.length : Int), .func (.func k) #[] #[pB bb]] w (MkR w (fun b : Nat => .map (some b)) fun b => [tab b ns]) := by
 refine calls_of_AW (args := [iV (ns.length : Int), .func (.func k) #[] #[pB bb]]) Tryz.func65 rfl (lBT rfl) (St ⟨w, hp w, []⟩ (hp w) []) (StP.init w (hp w) (Hp.le_refl _) []) ?_
 show AW _ _ [] _ _ _ [(0, iV (ns.length : Int)), (1, .func (.func k) #[] #[pB bb])] _
 refine gR ?_
 refine RW.eff _ _ rfl (e_kmake kStr (Value.int .i64)) fun mb => ?_
 refine gR ?_
 refine AW.loop (fun s J q => ∃ i : Nat, s = [(1, .func (.func k) #[] #[pB bb]), (5, .map (some mb)), (10, iV (ns.length : Int)), (11, iV (i : Int))] ∧ J = St ⟨w, hp w, []⟩ (hp w) [tab mb (ns.take i)] ∧ q = ns.length - i ∧ i ≤ ns.length) (s0 := _) (J1 := _) (m0 := _) ⟨0, rfl, rfl, rfl, by omega⟩ ⟨rfl, rfl, rfl, rfl, trivial⟩ (fun _ h => h) ?_
 rintro _ _ _ _ ⟨i, rfl, rfl, rfl, hi⟩
 refine gR ?_
 refine AW.cond rfl (fun h => ?_) fun h => ?_
 ·
  have h : i < ns.length := by have := odT h; omega
  have hg : kStr.good ns[i] := hlen _ (List.getElem_mem h)
  refine gR ?_
  refine RW.q rfl (q_call (args := #[iV (i : Int), pB bb]) hk rfl rfl (fun w1 hw1 => hname w1 hw1.phi i h)) (RW.q rfl (q_kLook (d := (0 : Int)) (k := ns[i]) 0 rfl rfl rfl hg uT108 zero3) ?_)
  refine gR ?_
  refine AW.cond rfl (fun h2 => ?_) fun h2 => ?_
  ·
   have h2 : ixM (ns.take i) ns[i] = none := by
    cases hq : ixM (ns.take i) ns[i] with
    | none => rfl
    | some x => rw [hq] at h2; cases h2
   refine gR ?_
   refine RW.q rfl (q_call (args := #[iV (i : Int), pB bb]) hk rfl rfl (fun w1 hw1 => hname w1 hw1.phi i h)) ?_
   refine gR ?_
   refine RW.effn (e_kPut (k := ns[i]) (v := (i : Int)) 0 rfl rfl rfl rfl hg uT108 rfl) ?_
   refine gR ?_
   have hM := Ru.ixM_new h2
   rw [List.length_take, Nat.min_eq_left hi, ← Ru.take_snoc h] at hM
   exact Post.back (s' := _) (J' := _) (m' := _) (by omega) ⟨i + 1, rfl, rfl, rfl, by omega⟩ ⟨rfl, rfl, rfl, rfl, trivial⟩ (fun w2 h => by unfold tab; rw [← hM]; exact h)
  ·
   have h2 : (ixM (ns.take i) ns[i]).isSome = true := by simpa using h2
   refine gR ?_
   have hM := Ru.ixM_old h2
   rw [← Ru.take_snoc h] at hM
   exact Post.back (s' := _) (J' := _) (m' := _) (by omega) ⟨i + 1, rfl, rfl, rfl, by omega⟩ ⟨rfl, rfl, rfl, rfl, trivial⟩ (fun w2 h => by unfold tab; rw [hM]; exact h)
 ·
  have h : i = ns.length := by have := odF h; omega
  subst h
  refine gR ?_
  exact fin_res (vs := [.map (some mb)]) rfl rfl ⟨.tmp rfl, trivial⟩ rfl (fun w' hw => ⟨mb, rfl, by have := hw; rw [List.take_length] at this; exact this⟩)
structure RsB where
 r : Nat
 m1 : Nat
 m2 : Nat
 m3 : Nat
 m4 : Nat
 m5 : Nat
abbrev rC (fv cv : Value) (z : RsB) (a : Int) : List Value := [fv, cv, .map (some z.m1), .map (some z.m2), .map (some z.m3), .map (some z.m4), .map (some z.m5), iV a]
theorem newResolver_c (w : World) {b : BasV} {e : Ru.Env} {fs : List Bt.Fn} {fv cv : Value} {l F : List Nat} (hb : b.ok (hp w) e) (hf : RowS (hp w) fv 143 1 fs.length (l.map pB)) (hfl : fnP.L (hp w) fs l F) :
  Calls pg 31 #[.agg b.cs.toArray, .agg #[fv, cv]] w (MkR w (fun z : RsB => pB z.r) fun z => [.blk z.r 110 (rC fv cv z (-1)), tab z.m1 e.places, tab z.m2 e.owners, tab z.m3 e.links, tab z.m4 e.towns, tab z.m5 (Ru.fnN fs)]) := by
 refine calls_of_AW (args := [.agg b.cs.toArray, .agg #[fv, cv]]) Tryz.func31 rfl (lBT rfl) (St ⟨w, hp w, []⟩ (hp w) []) (StP.init w (hp w) (Hp.le_refl _) []) ?_
 show AW _ _ [] _ _ _ [(0, .agg b.cs.toArray), (1, .agg #[fv, cv])] _
 refine gR ?_
 refine RW.bxA (cs := b.cs) rfl rfl fun b2 => ?_
 refine gR ?_
 refine RW.bxA (cs := [fv, cv]) rfl rfl fun b3 => ?_
 refine gR ?_
 refine AW.frz fun Φ1 hl1 hb3 => (AW.frz fun Φ2 hl2 hb2 => ?_)
 have hl : Hp.le (hp w) Φ2 := hl1.trans hl2
 have hb3 : Φ2 b3 = some (.cells #[fv, cv] 101 (0, 0)) := hl2 _ _ hb3
 have hb2 : Φ2 b2 = some (.cells b.cs.toArray 31 (0, 0)) := hb2
 have hb := hb.mono hl
 have hf := hf.up hl
 have hfl := Ru.OP.Lup hfl hl
 have hfm : ∀ {Ψ : Hp}, Hp.le Φ2 Ψ → RowS Ψ fv 143 1 fs.length (l.map pB) ∧ fnP.L Ψ fs l F := fun hl => ⟨hf.up hl, Ru.OP.Lup hfl hl⟩
 have s1 := hb.p.sl
 have s2 := hb.o.sl
 have s3 := hb.l.sl
 have s4 := hb.t.sl
 have s5 := hf.isSl
 have hlen5 : (Ru.fnN fs).length = fs.length := by simp [Ru.fnN]
 have hlen6 : ∀ n ∈ Ru.fnN fs, n.length ≤ maxLen := fun n hn => by
  obtain ⟨f, hf1, rfl⟩ := List.mem_map.1 hn
  obtain ⟨i, hi, rfl⟩ := List.mem_iff_getElem.1 hf1
  obtain ⟨_, _, _, _, _, _, _, _, _, _, hk, _⟩ := Ru.OP.Lget hfl i hi
  have := hk.2.1
  simp only [maxLen]; omega
 have q3 : PCells Φ2 ⟨b3, 0, none⟩ [fv, cv] := PCells.blk hb3
 have q0 : PCell Φ2 ⟨b3, 0, none⟩ fv := PCell.blk (cs := [fv, cv]) hb3 rfl
 have q4 : PCell Φ2 ⟨b2, 3, none⟩ b.pv := PCell.blk hb2 rfl
 have q5 : PCell Φ2 ⟨b2, 1, none⟩ b.ov := PCell.blk hb2 rfl
 have q6 : PCell Φ2 ⟨b2, 4, none⟩ b.lv := PCell.blk hb2 rfl
 have q7 : PCell Φ2 ⟨b2, 5, none⟩ b.tv := PCell.blk hb2 rfl
 have c1 : ∀ w1, Hp.le Φ2 (hp w1) → Calls pg 65 #[iV (e.places.length : Int), .func (.func 66) #[] #[pB b2]] w1 (MkR w1 (fun b : Nat => .map (some b)) fun b => [tab b e.places]) := fun w1 hw1 => indices_c w1 oK hb.p.len hb.p.big fun w2 h2 i hi => clo1_c w2 (h2 _ _ (hw1 _ _ hb2)) ((hb.p.mono hw1).mono h2) i hi
 have c2 : ∀ w1, Hp.le Φ2 (hp w1) → Calls pg 65 #[iV (e.owners.length : Int), .func (.func 67) #[] #[pB b2]] w1 (MkR w1 (fun b : Nat => .map (some b)) fun b => [tab b e.owners]) := fun w1 hw1 => indices_c w1 oK hb.o.len hb.o.big fun w2 h2 i hi => clo2_c w2 (h2 _ _ (hw1 _ _ hb2)) ((hb.o.mono hw1).mono h2) i hi
 have c3 : ∀ w1, Hp.le Φ2 (hp w1) → Calls pg 65 #[iV (e.links.length : Int), .func (.func 68) #[] #[pB b2]] w1 (MkR w1 (fun b : Nat => .map (some b)) fun b => [tab b e.links]) := fun w1 hw1 => indices_c w1 oK hb.l.len hb.l.big fun w2 h2 i hi => clo3_c w2 (h2 _ _ (hw1 _ _ hb2)) ((hb.l.mono hw1).mono h2) i hi
 have c4 : ∀ w1, Hp.le Φ2 (hp w1) → Calls pg 65 #[iV (e.towns.length : Int), .func (.func 69) #[] #[pB b2]] w1 (MkR w1 (fun b : Nat => .map (some b)) fun b => [tab b e.towns]) := fun w1 hw1 => indices_c w1 oK hb.t.len hb.t.big fun w2 h2 i hi => clo4_c w2 (h2 _ _ (hw1 _ _ hb2)) ((hb.t.mono hw1).mono h2) i hi
 have c5 : ∀ w1, Hp.le Φ2 (hp w1) → Calls pg 65 #[iV (fs.length : Int), .func (.func 70) #[] #[pB b3]] w1 (MkR w1 (fun b : Nat => .map (some b)) fun b => [tab b (Ru.fnN fs)]) := fun w1 hw1 => by
  have := indices_c w1 oK hlen6 (by rw [hlen5]; exact hf.big) fun w2 h2 i hi => clo5_c w2 (h2 _ _ (hw1 _ _ hb3)) (hfm (hw1.trans h2)).1 (hfm (hw1.trans h2)).2 i hi
  rw [hlen5] at this
  exact this
 refine AW.draw (J0 := St ⟨w, hp w, []⟩ Φ2 []) [.q, .q, .q, .q, .q, .q, .q, .q, .q, .q, .q, .q, .q, .q, .q, .q, .q, .q, .q, .q, .q, .e, .e, .e, .e, .e, .q, .e, .q] [0, 1, 2, 3, 4, 6, 7, 8, 9, 11, 12, 13, 14, 16, 17, 18, 19, 21, 22, 23, 24, 5, 10, 15, 20, 25, 26, 27, 28] hmix (by kernel_rfl) ?_
 refine gR ?_
 refine DW.mk rfl oK rfl rfl (fun w1 hw1 => c1 w1 hw1.phi) (fun _ _ h => h.drop (List.nil_sublist _)) fun m1 => ?_
 refine gR ?_
 refine DW.mk rfl oK rfl rfl (fun w1 hw1 => c2 w1 hw1.phi) (fun _ _ h => h.drop (List.nil_sublist _)) fun m2 => ?_
 refine gR ?_
 refine DW.mk rfl oK rfl rfl (fun w1 hw1 => c3 w1 hw1.phi) (fun _ _ h => h.drop (List.nil_sublist _)) fun m3 => ?_
 refine gR ?_
 refine DW.mk rfl oK rfl rfl (fun w1 hw1 => c4 w1 hw1.phi) (fun _ _ h => h.drop (List.nil_sublist _)) fun m4 => ?_
 refine gR ?_
 refine DW.mk rfl oK rfl rfl (fun w1 hw1 => c5 w1 hw1.phi) (fun _ _ h => h.drop (List.nil_sublist _)) fun m5 => ?_
 refine gR ?_
 refine DW.q (v := .agg (rC fv cv ⟨0, m1, m2, m3, m4, m5⟩ (-1)).toArray) (fun _ h => h.drop (List.nil_sublist _)) rfl (q_build (vals := [(0, .agg #[fv, cv]), (1, .map (some m1)), (2, .map (some m2)), (3, .map (some m3)), (4, .map (some m4)), (5, .map (some m5)), (6, iV (-1))]) zero110 uT110 places110 rfl (by kernel_rfl)) (DW.eff _ _ (fun _ _ _ h => StP.drop h (List.nil_sublist _)) rfl (e_boxA (cs := rC fv cv ⟨0, m1, m2, m3, m4, m5⟩ (-1)) rfl) fun r => ?_)
 refine gR ?_
 exact fin_res (vs := [pB r]) rfl rfl ⟨.tmp rfl, trivial⟩ rfl (fun w' hw => ⟨⟨r, m1, m2, m3, m4, m5⟩, rfl, (StP.sel (C' := [.blk r 110 (rC fv cv ⟨r, m1, m2, m3, m4, m5⟩ (-1)), tab m1 e.places, tab m2 e.owners, tab m3 e.links, tab m4 e.towns, tab m5 (Ru.fnN fs)]) hw [0, 5, 4, 3, 2, 1] (by decide) rfl).less hl⟩)
def PMap (Φ : Hp) (l : List (List UInt8)) (mv : Value) : Prop := (mv = .map none ∧ l = []) ∨ ∃ b, mv = .map (some b) ∧ (tab b l).sat Φ
theorem tab_up {Φ Ψ : Hp} {b : Nat} {l : List (List UInt8)} (h : (tab b l).sat Φ) (hl : Hp.le Φ Ψ) : (tab b l).sat Ψ := (tab b l).loc _ _ (fun c hc => by
 cases hq : Φ c with
 | none => exact absurd hq ((tab b l).dom _ h c hc)
 | some o => exact hl c o hq) h
theorem PMap.up {Φ Ψ : Hp} {l : List (List UInt8)} {mv : Value} (h : PMap Φ l mv) (hl : Hp.le Φ Ψ) : PMap Ψ l mv := h.imp id fun ⟨b, h1, h2⟩ => ⟨b, h1, tab_up h2 hl⟩
theorem ixM_N (l : List (List UInt8)) (t : Bt.Token) : (ixM l t.Text).getD 0 = Ru.ixN l t := by
 unfold ixM Ru.ixN
 cases Ru.ix l t.Text with
 | none => rfl
 | some n => rfl
theorem ixM_B (l : List (List UInt8)) (t : Bt.Token) : (ixM l t.Text).isSome = (Ru.ix l t.Text).isSome := by unfold ixM; rw [Option.isSome_map]
theorem q_pm {B : Bs} {Φ : Hp} {C : List Chunk} {f : Nat → Value} {s : List (Nat × Value)} {dst : Option Nat} {ty : TypeId} {pos : String} {af : Array Edge} {g : Option (Nat × Bool)} {x y : Operand} {l : List (List UInt8)} {mv : Value} {t : Bt.Token} (hm : PMap Φ l mv) (hx : ev (fr f s) x = mv) (hy : ev (fr f s) y = .string (bs t.Text)) (ht : t.Text.length ≤ maxLen) :
  Qt pg (St B Φ C) f s ⟨dst, .lookup 108 x y true, ty, pos, af, g⟩ (.tuple #[iV (Ru.ixN l t), .bool (Ru.ix l t.Text).isSome]) := by
 rcases hm with ⟨rfl, rfl⟩ | ⟨b, rfl, h⟩
 ·
  exact q_as (q_kLookN (L := kStr) (ew := Value.int .i64) (d := (0 : Int)) (k := t.Text) hx hy ht uT108 zero3) rfl
 ·
  have := q_kLookP (L := kStr) (ew := Value.int .i64) (d := (0 : Int)) (k := t.Text) (B := B) (C := C) (f := f) (s := s) (dst := dst) (ty := ty) (pos := pos) (af := af) (g := g) (x := x) (y := y) h hx hy ht uT108 zero3
  exact q_as this (by rw [ixM_N, ixM_B])
theorem rfind_c (w : World) {Φ : Hp} {fv cv : Value} {z : RsB} {a : Int} {l : List (List UInt8)} {mv : Value} {t : Bt.Token} (hm : PMap Φ l mv) (ht : t.Text.length ≤ maxLen) (h0 : StP ⟨w, Φ, [z.r]⟩ Φ [.blk z.r 110 (rC fv cv z a)] w) :
  Calls pg 73 #[pB z.r, mv, .agg (tkC t).toArray] w (OwnU w Φ [.blk z.r 110 (rC fv cv z a)] (fun _ : Unit => iV (Ru.ixN l t)) (fun _ => [.blk z.r 110 (rC fv cv z (Ru.lstL a (Ru.ixB l t)))])) := by
 refine calls_of_AW (args := [pB z.r, mv, .agg (tkC t).toArray]) Tryz.func73 rfl (lBT rfl) (St ⟨w, Φ, [z.r]⟩ Φ [.blk z.r 110 (rC fv cv z a)]) h0 ?_
 show AW _ _ [] _ _ _ [(0, pB z.r), (1, mv), (2, .agg (tkC t).toArray)] _
 refine gR ?_
 refine RW.bxA (cs := tkC t) rfl rfl fun b5 => ?_
 refine gR ?_
 refine RW.q rfl (q_pm hm rfl rfl ht) ?_
 refine gR ?_
 refine AW.cond rfl (fun h => ?_) fun h => ?_
 ·
  have h : (Ru.ix l t.Text).isSome = false := by simpa using h
  have hb : Ru.lstL a (Ru.ixB l t) = Ru.lst a t.At := by unfold Ru.ixB; rw [if_neg (by rw [h]; simp)]; rfl
  refine gR ?_
  refine AW.drawW (J0 := St ⟨w, Φ, [z.r]⟩ Φ [.blk b5 134 (tkC t), .blk z.r 110 (rC fv cv z a)]) (tq7 [.e, .q, .q, .e]) od11 hmix (by kernel_rfl) ?_
  refine gR ?_
  refine DW.qe (v := iV (Ru.lst a t.At)) (fun _ _ h => h) rfl (q_call (args := #[iV a, iV t.At]) oK rfl rfl (fun w1 _ => least_c w1 (hp w1) (Hp.le_refl _))) ?_
  refine gR ?_
  exact fin_res (vs := [iV (Ru.ixN l t)]) rfl rfl ⟨.tmp rfl, trivial⟩ rfl (fun w' hw => ⟨(), rfl, by rw [hb]; exact St.one 1 rfl hw⟩)
 ·
  have h : (Ru.ix l t.Text).isSome = true := by simpa using h
  have hb : Ru.lstL a (Ru.ixB l t) = a := by unfold Ru.ixB; rw [if_pos h]; rfl
  refine gR ?_
  exact fin_res (vs := [iV (Ru.ixN l t)]) rfl rfl ⟨.tmp rfl, trivial⟩ rfl (fun w' hw => ⟨(), rfl, by rw [hb]; exact St.one 1 rfl hw⟩)
end Go.Proofs.YtnfmjfheciihjaaGreatDoor
namespace Go.Proofs.YtnfmjfheciihjaaGreatDoor
open Go Go.K Go.RowKit
def wfE (x : Bt.Expr) : Prop := I64 x.Kind ∧ I64 x.N ∧ I64 x.Of ∧ I64 x.Of2
abbrev exC (x : Bt.Expr) (v : Value) : List Value := [iV x.Kind, iV x.N, iV x.Of, iV x.Of2, v]
mutual
def rpE (Φ : Hp) : Bt.Expr → List Value → Prop
 | ⟨k, n, o, q, ks⟩, cs => ∃ v css, cs = exC ⟨k, n, o, q, ks⟩ v ∧ wfE ⟨k, n, o, q, ks⟩ ∧ IsSl v ks.length ∧ ks.length * 56 ≤ maxSl ∧ rpX Φ ks css ∧ ∀ i c, css[i]? = some c → ∀ j u, c[j]? = some u → PCell Φ (Value.at v (i * 5 + j)) u
def rpX (Φ : Hp) : List Bt.Expr → List (List Value) → Prop
 | [], css => css = []
 | x :: xs, css => ∃ c cs, css = c :: cs ∧ rpE Φ x c ∧ rpX Φ xs cs
end
mutual
theorem rpE_mono {Φ Ψ : Hp} (hl : Hp.le Φ Ψ) : ∀ (x : Bt.Expr) (cs : List Value), rpE Φ x cs → rpE Ψ x cs
 | ⟨k, n, o, q, ks⟩, cs, h => by
  unfold rpE at h ⊢
  obtain ⟨v, css, h1, h2, h3, h4, h5, h6⟩ := h
  exact ⟨v, css, h1, h2, h3, h4, rpX_mono hl ks css h5, fun i c hc j u hj => (h6 i c hc j u hj).mono hl⟩
theorem rpX_mono {Φ Ψ : Hp} (hl : Hp.le Φ Ψ) : ∀ (xs : List Bt.Expr) (css : List (List Value)), rpX Φ xs css → rpX Ψ xs css
 | [], css, h => by unfold rpX at h ⊢; exact h
 | x :: xs, css, h => by
  unfold rpX at h ⊢
  obtain ⟨c, cs, h1, h2, h3⟩ := h
  exact ⟨c, cs, h1, rpE_mono hl x c h2, rpX_mono hl xs cs h3⟩
end
theorem rpX_iff {Φ : Hp} : ∀ {xs : List Bt.Expr} {css : List (List Value)}, rpX Φ xs css ↔ css.length = xs.length ∧ ∀ i (h : i < xs.length), ∃ c, css[i]? = some c ∧ rpE Φ xs[i] c
 | [], css => by
  unfold rpX
  exact ⟨fun h => by subst h; exact ⟨rfl, fun i h => by cases h⟩, fun h => List.length_eq_zero_iff.1 h.1⟩
 | x :: xs, css => by
  unfold rpX
  constructor
  ·
   rintro ⟨c, cs, rfl, h1, h2⟩
   obtain ⟨h3, h4⟩ := rpX_iff.1 h2
   refine ⟨by simp [h3], fun i hi => ?_⟩
   cases i with
   | zero => exact ⟨c, rfl, h1⟩
   | succ i => simpa using h4 i (by simpa using hi)
  ·
   rintro ⟨h1, h2⟩
   match css, h1 with
   | c :: cs, h1 =>
    obtain ⟨c', hc, hx⟩ := h2 0 (by simp)
    obtain rfl : c = c' := by simpa using hc
    refine ⟨c, cs, rfl, hx, rpX_iff.2 ⟨by simpa using h1, fun i hi => ?_⟩⟩
    obtain ⟨c', h5, h6⟩ := h2 (i + 1) (by simpa using hi)
    exact ⟨c', by simpa using h5, h6⟩
theorem rpE_ex {Φ : Hp} {x : Bt.Expr} {cs : List Value} (h : rpE Φ x cs) : ∃ v, cs = exC x v ∧ wfE x ∧ IsSl v x.Kids.length ∧ x.Kids.length * 56 ≤ maxSl ∧ ∃ css, rpX Φ x.Kids css ∧ ∀ i c, css[i]? = some c → ∀ j u, c[j]? = some u → PCell Φ (Value.at v (i * 5 + j)) u := by
 obtain ⟨k, n, o, q, ks⟩ := x
 unfold rpE at h
 obtain ⟨v, css, h1, h2, h3, h4, h5, h6⟩ := h
 exact ⟨v, h1, h2, h3, h4, css, h5, h6⟩
theorem isSl_one {v : Value} {n : Nat} (h : IsSl v n) : v.oneCell' = true := by obtain ⟨A, c, rfl, _⟩ := h; rfl
instance : Rep Bt.Expr where
 sz := 5
 bytes := 56
 rep := rpE
 len := fun h => by obtain ⟨v, h1, _⟩ := rpE_ex h; rw [h1]; rfl
 mono := fun hl h => rpE_mono hl _ _ h
 one := fun h u hu => by
  obtain ⟨v, h1, _, h3, _⟩ := rpE_ex h
  rw [h1] at hu
  simp only [exC, List.mem_cons, List.not_mem_nil, or_false] at hu
  rcases hu with rfl | rfl | rfl | rfl | rfl
  ·
   rfl
  ·
   rfl
  ·
   rfl
  ·
   rfl
  ·
   exact isSl_one h3
theorem repE' {Φ : Hp} {x : Bt.Expr} {cs : List Value} : Rep.rep Φ x cs ↔ ∃ v, cs = exC x v ∧ wfE x ∧ RepSl Φ x.Kids v := by
 constructor
 ·
  intro h
  obtain ⟨v, h1, h2, h3, h4, css, h5, h6⟩ := rpE_ex h
  refine ⟨v, h1, h2, h3, h4, fun i hi => ?_⟩
  obtain ⟨c, h7, h8⟩ := (rpX_iff.1 h5).2 i hi
  exact ⟨c, h8, fun j u hj => h6 i c h7 j u hj⟩
 ·
  rintro ⟨v, h1, h2, h3⟩
  obtain ⟨k, n, o, q, ks⟩ := x
  show rpE Φ _ _
  unfold rpE
  refine ⟨v, (List.range ks.length).map fun i => if h : i < ks.length then Classical.choose (h3.at_ i h) else [], h1, h2, h3.sl, h3.max, rpX_iff.2 ⟨by simp, fun i hi => ⟨_, ?_, (Classical.choose_spec (h3.at_ i hi)).1⟩⟩, fun i c hc j u hj => ?_⟩
  ·
   simp [hi]
  ·
   by_cases hi : i < ks.length
   ·
    simp only [List.getElem?_map, List.getElem?_range hi, Option.map_some, dif_pos hi, Option.some.injEq] at hc
    subst hc
    exact (Classical.choose_spec (h3.at_ i hi)).2 j u hj
   ·
    rw [List.getElem?_eq_none (by simpa using hi)] at hc; cases hc
def ExV (Φ : Hp) (x : Bt.Expr) (r : Value) : Prop := ∃ v, r = .agg (exC x v).toArray ∧ wfE x ∧ RepSl Φ x.Kids v
theorem ExV.rep {Φ : Hp} {x : Bt.Expr} {v : Value} (h1 : wfE x) (h2 : RepSl Φ x.Kids v) : Rep.rep Φ x (exC x v) := repE'.2 ⟨v, rfl, h1, h2⟩
end Go.Proofs.YtnfmjfheciihjaaGreatDoor
