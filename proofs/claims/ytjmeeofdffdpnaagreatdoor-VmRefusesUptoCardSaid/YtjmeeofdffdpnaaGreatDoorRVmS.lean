/- Lemmas. Conditions: those of each theorem. -/
import Derived.Test.YtjmeeofdffdpnaaGreatDoorRJgQ
import Derived.Test.YtjmeeofdffdpnaaGreatDoorRPanK
import Derived.Test.YtjmeeofdffdpnaaGreatDoorREvN
set_option maxRecDepth 8000
set_option maxHeartbeats 16000000
namespace Go.K
open Go Go.RowKit
section
variable {P : Program} {f : Nat → Value} {s : List (Nat × Value)} {J : Cls} {ty : TypeId} {pos : String} {af : Array Edge} {x y : Operand} {dst : Option Nat} {g : Option (Nat × Bool)} {t t' : TypeId}
end
end Go.K
namespace Go.Proofs.YtjmeeofdffdpnaaGreatDoor
open Go Go.K Go.RowKit
open Ru (pB)
attribute [local irreducible] AW RW DW Post Qt
section
variable {e : Ru.Env} {fs : List Bt.RFunc} {f : Bt.Facts} {x : Nat} {y : RnV}
end
section
variable {e : Ru.Env} {fs : List Bt.RFunc} {f : Bt.Facts} {x : Nat} {y : RnV}
end
end Go.Proofs.YtjmeeofdffdpnaaGreatDoor
namespace Bt
structure Order where
  Cmds : List (Int × Int)
  Used : Int
  Fault : Int
end Bt
namespace Mn
open Bt Ru
abbrev big : Nat := 5000
def cls (fs : List RFunc) (f : Facts) (d : Dt) (ps : List Int) : List RClause → List Bool → List Int → Int → R (List Bool × List Int)
  | [], s, t, u => .ok ((s, t), u)
  | c :: cs, s, t, u =>
    if 10000 ≤ u then .error (14, u)
    else if s.getD c.Link.toNat false = true then cls fs f d ps cs s t (u + 1)
    else bnd (ev fs f d big 0 c.If [] (u + 1)) fun v u =>
      if v = 0 then cls fs f d ps cs s t u
      else bnd (ev fs f d big 0 c.To [] u) fun v u => cls fs f d ps cs (s.set c.Link.toNat true) (t.set c.Link.toNat (clampI v 0 (ps.getD c.Link.toNat 0))) u
def cmds (s : List Bool) (t : List Int) : List (Int × Int) := (List.range s.length).flatMap fun l => if s.getD l false = true then [((l : Int), t.getD l 0)] else []
def runR (ps : List Int) (r : Rule) (f : Facts) : Order := match cls r.Funcs f (dateOf f.Hour).1 ps r.Clauses (List.replicate ps.length false) (List.replicate ps.length 0) 0 with
  | .error e => ⟨[], e.2, e.1⟩
  | .ok ((s, t), u) => ⟨cmds s t, u, 0⟩
def run (e : Env) (ps : List Int) (r : Rule) (f : Facts) : Order := if rightR e r = true then runR ps r f else ⟨[], 0, 1⟩
end Mn
namespace Mn
end Mn
namespace Go.Proofs.YtjmeeofdffdpnaaGreatDoor
open Go Go.K Go.RowKit
attribute [local irreducible] AW RW DW Post Qt
open Ru (pB)
section
variable {b7 x b6 : Nat} {y : RnV} {u c : Int} {oc : List Value}
end
end Go.Proofs.YtjmeeofdffdpnaaGreatDoor
namespace Go.K
open Go Go.RowKit
section
variable {P : Program} {Pn : List PanicEntry → World → Prop} {N : Nat} {D : List Deferred} {ops : Array Oper} {Q : Exit → Act → World → Prop} {f : Nat → Value} {s : List (Nat × Value)} {J J0 : Cls}
end
end Go.K
namespace Go.Proofs.YtjmeeofdffdpnaaGreatDoor
open Go Go.K Go.RowKit
open Ru (pB NmS BasV)
attribute [local irreducible] AW RW DW Post Qt
instance : Rep (Int × Int) where
 sz := 2
 bytes := 16
 rep := fun _ x cs => cs = [iV x.1, iV x.2] ∧ (I64 x.1 ∧ I64 x.2)
 len := fun h => by rw [h.1]; rfl
 mono := fun _ h => h
 one := fun h u hu => by
  rw [h.1] at hu
  simp only [List.mem_cons, List.not_mem_nil, or_false] at hu
  rcases hu with rfl | rfl <;> rfl
instance : RepE (Int × Int) where
 cells := fun x => [iV x.1, iV x.2]
 wf := fun x => I64 x.1 ∧ I64 x.2
 iff := Iff.rfl
abbrev orC (v : Value) (u k : Int) : List Value := [v, iV u, iV k]
abbrev fcC (y : FcV) (h : Int) : List Value := [y.vol, y.lev, y.own, y.pos, iV h, y.cre]
def PosS (Φ : Hp) (v : Value) (ps : List Int) : Prop := ∀ i, i < ps.length → PCell Φ (Value.at v (i * 18 + 7)) (iV (ps.getD i 0))
end Go.Proofs.YtjmeeofdffdpnaaGreatDoor
namespace Go.Proofs.YtjmeeofdffdpnaaGreatDoor
open Go Go.K Go.RowKit
open Ru (pB BasV)
attribute [local irreducible] AW RW DW Post Qt
theorem vRunBad_c (w : World) {b : BasV} {e : Ru.Env} (hb : b.ok (hp w) e) {r : Bt.Rule} {fv cv : Value} (hf : RepSl (hp w) r.Funcs fv) (hc : RepSl (hp w) r.Clauses cv) (hlen : (Vm.cops r).length ≤ 900000000) {c : Vm.Code} {o1 f1 t1 : Value} (ho : RepSl (hp w) c.Ops o1) (hfu : RepSl (hp w) c.Funcs f1) (hst : RepSl (hp w) c.Starts t1) {yf : FcV} {hr : Int} (hbad : (Ru.rightR e r && (Vm.soP r && decide (c = Vm.compile r))) = false) :
    Calls pg 16 #[.agg b.cs.toArray, .agg #[fv, cv], .agg (cdC o1 f1 t1).toArray, .agg (fcC yf hr).toArray] w fun e' w' => e' = .returned (.agg (orC (.slice none 0 0) 0 1).toArray) ∧ Bel w.heap.size w w' := by
  obtain ⟨fA, fc, rfl, _⟩ := hf.sl
  obtain ⟨cA, cc, rfl, _⟩ := hc.sl
  obtain ⟨oA, oc, rfl, _⟩ := ho.sl
  obtain ⟨uA, uc, rfl, _⟩ := hfu.sl
  obtain ⟨tA, tc, rfl, _⟩ := hst.sl
  refine calls_of_AW (args := [.agg b.cs.toArray, .agg #[.slice fA r.Funcs.length fc, .slice cA r.Clauses.length cc], .agg (cdC (.slice oA c.Ops.length oc) (.slice uA c.Funcs.length uc) (.slice tA c.Starts.length tc)).toArray, .agg (fcC yf hr).toArray]) Tryz.func16 rfl (lBT rfl) (St ⟨w, hp w, []⟩ (hp w) []) (StP.init w (hp w) (Hp.le_refl _) []) ?_
  show AW _ _ [] _ _ _ [(0, .agg b.cs.toArray), (1, .agg #[.slice fA r.Funcs.length fc, .slice cA r.Clauses.length cc]), (2, .agg (cdC (.slice oA c.Ops.length oc) (.slice uA c.Funcs.length uc) (.slice tA c.Starts.length tc)).toArray), (3, .agg (fcC yf hr).toArray)] _
  generalize hoV : Value.slice oA c.Ops.length oc = o1 at *
  generalize huV : Value.slice uA c.Funcs.length uc = f1 at *
  generalize htV : Value.slice tA c.Starts.length tc = t1 at *
  repeat refine gs1 ?_
  refine RW.bxA (cs := b.cs) rfl rfl fun b4 => ?_
  repeat refine gs1 ?_
  refine RW.bxA (cs := (rS2 fA fc cA cc r)) rfl rfl fun b5 => ?_
  repeat refine gs1 ?_
  refine RW.bxA (cs := cdC o1 f1 t1) rfl rfl fun b6 => ?_
  repeat refine gs1 ?_
  refine RW.bxA (cs := fcC yf hr) rfl rfl fun b7 => ?_
  repeat refine gs1 ?_
  refine RW.alc rfl fun b8 => ?_
  repeat refine gs1 ?_
  refine RW.q rfl (q_call (args := #[.agg b.cs.toArray, .agg #[.slice fA r.Funcs.length fc, .slice cA r.Clauses.length cc]]) oK rfl rfl (fun w1 hw1 => ruleRight_c w1 (hb.mono hw1.phi) (hf.mono hw1.phi) (hc.mono hw1.phi))) ?_
  repeat refine gs1 ?_
  refine RW.g (b := !Ru.rightR e r) (v := .bool (Vm.soP r && decide (c = Vm.compile r))) rfl rfl rfl (fun h => q_call (args := #[.agg #[.slice fA r.Funcs.length fc, .slice cA r.Clauses.length cc], .agg (cdC o1 f1 t1).toArray]) oK rfl (args2 (gv_pos h) (gv_pos h)) (fun w1 hw1 => vRight_c w1 (hf.mono hw1.phi) (hc.mono hw1.phi) (by omega) (ho.mono hw1.phi) (hfu.mono hw1.phi) (hst.mono hw1.phi))) ?_
  repeat refine gs1 ?_
  refine RW.q (v := .bool (!Ru.rightR e r || !(Vm.soP r && decide (c = Vm.compile r)))) rfl (qpO rfl rfl rfl) ?_
  repeat refine gs1 ?_
  refine AW.cond rfl (fun h => ?_) fun h => ?_
  · skip
    repeat refine gs1 ?_
    refine RW.q (v := .agg (orC (.slice none 0 0) 0 1).toArray) rfl (q_build (vals := [(2, .int .i64 1)]) zero51 Tryz.underlying51 places51 rfl rfl) ?_
    repeat refine gs1 ?_
    exact fin_res (vs := [.agg (orC (.slice none 0 0) 0 1).toArray]) rfl rfl ⟨.agg rfl rfl (Cells.blk 0 rfl), trivial⟩ rfl (fun w1 hw1 => ⟨rfl, hw1.below rfl⟩)
  exfalso
  rw [Bool.or_eq_false_iff] at h
  rw [Bool.not_eq_false'] at h
  rw [h.1, Bool.true_and] at hbad
  rw [hbad] at h
  cases h.2
end Go.Proofs.YtjmeeofdffdpnaaGreatDoor
namespace Go.Proofs.YtjmeeofdffdpnaaGreatDoor
open Go Go.K Go.RowKit Go.K.Ev
open Ru (BasV NmS)
noncomputable def eStr : KL pg 9 (List UInt8) := KL.of (Maps.string_keyed Tryz.underlying9) (fun l => .string (bs l)) (fun l => l.length ≤ maxLen) (fun h => bs_inj (by simpa using h)) fun a ha => ⟨_, WideMaps.keyOf_string_mk Tryz.underlying9 (by rw [bs_size]; exact ha)⟩
noncomputable def mpP : Mp pg where
 ks := 9
 ki := 3
 LS := eStr
 LI := kInt
 hS := fun _ => rfl
 gS := fun _ h => h
 hI := fun _ => rfl
 gI := fun _ h => h
 ex := exV 238 230
 hex := exV_ok ⟨_, Tryz.func238, rfl, rfl, by kernel_rfl, by kernel_rfl⟩ ⟨_, Tryz.func230, rfl, rfl, by kernel_rfl, by kernel_rfl⟩
/-! ### the lexer -/
def tkS (l : List Bt.Token) : List S := l.flatMap fun t => [.c (.int .i64 t.Kind), .c (.string (bs t.Text)), .c (.int .i64 t.At)]
def scanO : Cl := fun k args H n => bif Nat.beq k 55 then match args with
 | [.one (.c (.string b))] => let r := Lx.scan b.data.toList
  bif Nat.ble b.data.toList.length maxLen && (Nat.blt 0 r.1.length && Nat.beq r.2.1.toNat 0) then (T.ins (.kn (tkS r.1)) 64 H n).map fun H => (.tu [.one (.sl n 0 0 r.1.length), .one (.c (.int .i64 r.2.1)), .one (.c (.int .i64 r.2.2))], H, n + 1) else none
 | _ => none else none
theorem tkS_dn {ρ : En} (l : List Bt.Token) : dnL ρ (tkS l) = some (l.flatMap fun t => [Value.int .i64 t.Kind, .string (bs t.Text), .int .i64 t.At]) := by
 have : tkS l = (l.flatMap fun t => [Value.int .i64 t.Kind, .string (bs t.Text), .int .i64 t.At]).map .c := by
  unfold tkS
  induction l with
  | nil => rfl
  | cons a l ih => simp only [List.flatMap_cons, List.map_append, ih]; rfl
 rw [this]; exact dnL_cs _
theorem flat3 (d : Bt.Token) : ∀ (l : List Bt.Token) (k : Nat) (x : Value), (l.flatMap fun t => [Value.int .i64 t.Kind, .string (bs t.Text), .int .i64 t.At])[k]? = some x → ∃ i j, k = i * 3 + j ∧ i < l.length ∧ [Value.int .i64 (l.getD i d).Kind, .string (bs (l.getD i d).Text), .int .i64 (l.getD i d).At][j]? = some x
 | [], k, x, h => by simp at h
 | a :: l, k, x, h => by
  rw [List.flatMap_cons] at h
  by_cases hk : k < 3
  ·
   rw [List.getElem?_append_left (by simpa using hk)] at h
   exact ⟨0, k, by omega, by simp, h⟩
  ·
   rw [List.getElem?_append_right (by simpa using Nat.le_of_not_lt hk)] at h
   obtain ⟨i, j, h1, h2, h3⟩ := flat3 d l (k - 3) x (by simpa using h)
   exact ⟨i + 1, j, by omega, by simpa using h2, by simpa using h3⟩
theorem scanO_ok {gl : Nat → Option Nat} : ClOK mpP gl scanO := by
 intro k args H n r hr ρ Φ C xs w hg hx hC hf hw
 unfold scanO at hr
 obtain ⟨hk, h1⟩ := bif_some hr
 clear hr
 have hk := nB hk
 subst hk
 split at h1
 rotate_left
 ·
  cases h1
 rename_i b
 obtain ⟨hb, h2⟩ := bif_some h1
 clear h1
 obtain ⟨H', hi, rfl⟩ := mS h2
 clear h2
 simp only [Bool.and_eq_true] at hb
 obtain ⟨hl, hpos, _⟩ := hb
 obtain rfl := sJ hx
 refine ⟨oK, ?_⟩
 have hbs : b = bs b.data.toList := rfl
 generalize b.data.toList = l at *
 subst hbs
 refine (Scan_c w Φ hw.phi (l := l) (Nat.le_of_ble_eq_true hl)).mono fun e w' hh => ?_
 obtain ⟨u, rfl, hbel, v, rfl, hrep⟩ := hh
 obtain ⟨A, cap, rfl, hA, hcap⟩ := hrep.sl
 have hpos' : 0 < (Lx.scan l).1.length := by simpa [Nat.blt_eq] using hpos
 obtain ⟨a, rfl⟩ := Option.isSome_iff_exists.1 (hA hpos')
 have hw' := hw.call hbel
 have hle := le_ext hbel hw.phi
 obtain ⟨L1, L2, e, e'⟩ := T.ins_L id hi
 have hC2 := hC.mono (En.le_put (a := (a, cap)) hf) hle
 have hk0 := hC2.ck
 rw [T.l, e] at hk0
 obtain ⟨C1, C2, rfl, h5, h6⟩ := ckL_app hk0
 refine ⟨_, rfl, ρ.put n (a, cap), C1 ++ C2, _, En.le_put hf, hle, fun v ev => ?_, ⟨by rw [T.l, e']; exact ckL_put (c := []) (o := id n) (x := .kn _) h5 rfl h6, fun o cs hm => ?_⟩, hf.put, hw'⟩
 ·
  obtain rfl := sJ ev
  have ha0 : a.add 0 = a := by simp [Addr.add]
  simp [dnV, dnEs, dnE, dn, put_self, hcap, ha0]
 ·
  rw [T.l, e'] at hm
  simp only [List.mem_append, List.mem_cons, Prod.mk.injEq, id] at hm
  rcases hm with h8 | ⟨rfl, h8⟩ | h8
  ·
   exact hC2.kn o cs (by rw [T.l, e]; exact List.mem_append_left _ h8)
  ·
   simp only [O.kn.injEq] at h8
   subst h8
   refine ⟨a, cap, _, put_self, tkS_dn _, fun k x hx w2 hw2 => ?_⟩
   obtain ⟨i, j, rfl, hi3, hj⟩ := flat3 default _ k x hx
   obtain ⟨cs, h9, h10⟩ := hrep.at_ i hi3
   obtain ⟨rfl, _⟩ := h9
   have h11 := h10 j x (by simpa [gDD, hi3] using hj)
   have h12 := (h11.mono hw2).cell
   have : Value.at (.slice (some a) (Lx.scan l).1.length cap) (i * Rep.sz Bt.Token + j) = a.add (i * 3 + j) := rfl
   rw [this] at h12
   exact h12
  ·
   exact hC2.kn o cs (by rw [T.l, e]; exact List.mem_append_right _ h8)
/-! ### programs in memory -/
mutual
def ckE (H : T) : Bt.Expr → List S → Bool
 | ⟨k, n, o, q, ks⟩, cs => match cs with
  | [a, b, c, d, s] => ckI k a && (ckI n b && (ckI o c && (ckI q d && ckSl H ks.length 56 (ckEl H ks) s)))
  | _ => false
def ckEl (H : T) : List Bt.Expr → List S → Bool
 | [], _ => true
 | x :: xs, cs => ckE H x (cs.take 5) && ckEl H xs (cs.drop 5)
end
section
variable {ρ : En} {Ψ : Hp} {H : T}
theorem five {a b c d s : S} {vs : List Value} (h : dnL ρ [a, b, c, d, s] = some vs) : ∃ a' b' c' d' s', dn ρ a = some a' ∧ dn ρ b = some b' ∧ dn ρ c = some c' ∧ dn ρ d = some d' ∧ dn ρ s = some s' ∧ vs = [a', b', c', d', s'] := by
 simp only [dnL, bI, mI, Option.some.injEq] at h
 obtain ⟨a', h1, _, ⟨b', h2, _, ⟨c', h3, _, ⟨d', h4, _, ⟨s', h5, _, rfl, rfl⟩, rfl⟩, rfl⟩, rfl⟩, rfl⟩ := h
 exact ⟨a', b', c', d', s', h1, h2, h3, h4, h5, rfl⟩
mutual
theorem ckE_ok (hF : Froz ρ Ψ H) : ∀ (x : Bt.Expr) (cs : List S) (vs : List Value), ckE H x cs = true → dnL ρ cs = some vs → rpE Ψ x vs
 | ⟨k, n, o, q, ks⟩, cs, vs, h, hd => by
  unfold ckE at h
  split at h
  rotate_left
  ·
   cases h
  rename_i a b c d s
  simp only [Bool.and_eq_true] at h
  obtain ⟨h1, h2, h3, h4, h5⟩ := h
  obtain ⟨a', b', c', d', s', g1, g2, g3, g4, g5, rfl⟩ := five hd
  obtain ⟨rfl, k1⟩ := ckI_ok h1 g1
  obtain ⟨rfl, k2⟩ := ckI_ok h2 g2
  obtain ⟨rfl, k3⟩ := ckI_ok h3 g3
  obtain ⟨rfl, k4⟩ := ckI_ok h4 g4
  obtain ⟨h6, h7, h8⟩ := ckSl_ok hF h5 g5
  unfold rpE
  rcases h8 with h8 | ⟨cs, us, h8, h9, h10⟩
  ·
   obtain rfl : ks = [] := List.length_eq_zero_iff.1 h8
   exact ⟨s', [], rfl, ⟨k1, k2, k3, k4⟩, h6, h7, by unfold rpX; rfl, fun i c hc => by simp at hc⟩
  ·
   obtain ⟨css, h11, h12⟩ := ckEl_ok hF ks cs us h8 h9
   exact ⟨s', css, rfl, ⟨k1, k2, k3, k4⟩, h6, h7, h11, fun i c hc j u hj => h10 _ _ (h12 i c hc j u hj)⟩
theorem ckEl_ok (hF : Froz ρ Ψ H) : ∀ (xs : List Bt.Expr) (cs : List S) (vs : List Value), ckEl H xs cs = true → dnL ρ cs = some vs → ∃ css, rpX Ψ xs css ∧ ∀ i c, css[i]? = some c → ∀ j u, c[j]? = some u → vs[i * 5 + j]? = some u
 | [], cs, vs, h, hd => ⟨[], by unfold rpX; rfl, fun i c hc => by simp at hc⟩
 | x :: xs, cs, vs, h, hd => by
  unfold ckEl at h
  simp only [Bool.and_eq_true] at h
  have h1 := ckE_ok hF x _ _ h.1 (dnL_take 5 hd)
  obtain ⟨css, h2, h3⟩ := ckEl_ok hF xs _ _ h.2 (dnL_drop 5 hd)
  refine ⟨vs.take 5 :: css, by unfold rpX; exact ⟨_, _, rfl, h1, h2⟩, fun i c hc j u hj => ?_⟩
  cases i with
  | zero =>
   obtain rfl : vs.take 5 = c := by simpa using hc
   rw [List.getElem?_take] at hj
   split at hj
   ·
    simpa using hj
   ·
    cases hj
  | succ i =>
   have := h3 i c (by simpa using hc) j u hj
   rw [List.getElem?_drop] at this
   rw [← this]
   congr 1; omega
end
theorem kids_ok (hF : Froz ρ Ψ H) {xs : List Bt.Expr} {s : S} {v : Value} (h : ckSl H xs.length 56 (ckEl H xs) s = true) (hd : dn ρ s = some v) : RepSl Ψ xs v := by
 obtain ⟨h6, h7, h8⟩ := ckSl_ok hF h hd
 refine ⟨h6, h7, fun i hi => ?_⟩
 rcases h8 with h8 | ⟨cs, us, h8, h9, h10⟩
 ·
  omega
 ·
  obtain ⟨css, h11, h12⟩ := ckEl_ok hF xs cs us h8 h9
  obtain ⟨c, h13, h14⟩ := (rpX_iff.1 h11).2 i hi
  exact ⟨c, h14, fun j u hj => h10 _ _ (h12 i c h13 j u hj)⟩
end
def ckB5 (H : T) (x : Bt.Expr) : List S → Bool
 | [a, b, c, d, s] => ckI x.Kind a && (ckI x.N b && (ckI x.Of c && (ckI x.Of2 d && ckSl H x.Kids.length 56 (ckEl H x.Kids) s)))
 | _ => false
theorem ckB5_ok {ρ : En} {Ψ : Hp} {H : T} (hF : Froz ρ Ψ H) {x : Bt.Expr} {cs : List S} {vs : List Value} (h : ckB5 H x cs = true) (hd : dnL ρ cs = some vs) : ∃ v, vs = exC x v ∧ wfE x ∧ RepSl Ψ x.Kids v := by
 unfold ckB5 at h
 split at h
 rotate_left
 ·
  cases h
 simp only [Bool.and_eq_true] at h
 obtain ⟨h1, h2, h3, h4, h5⟩ := h
 obtain ⟨a', b', c', d', s', g1, g2, g3, g4, g5, rfl⟩ := five hd
 obtain ⟨rfl, k1⟩ := ckI_ok h1 g1
 obtain ⟨rfl, k2⟩ := ckI_ok h2 g2
 obtain ⟨rfl, k3⟩ := ckI_ok h3 g3
 obtain ⟨rfl, k4⟩ := ckI_ok h4 g4
 exact ⟨s', rfl, ⟨k1, k2, k3, k4⟩, kids_ok hF h5 g5⟩
instance : Rfy Bt.RFunc where
 ck := fun H x cs => match cs with
  | a :: b :: c :: cs => ckB x.Name a && (ckS H x.Params b && (ckI x.Result c && ckB5 H x.Body cs))
  | _ => false
 ok := fun hF h hd => by
  split at h
  ·
   simp only [Bool.and_eq_true] at h
   simp only [dnL, bI, mI] at hd
   obtain ⟨a', h1, _, ⟨b', h2, _, ⟨c', h3, us, h4, rfl⟩, rfl⟩, rfl⟩ := hd
   obtain ⟨rfl, k1⟩ := ckB_ok h.1 h1
   have k2 := ckS_ok hF h.2.1 h2
   obtain ⟨rfl, k3⟩ := ckI_ok h.2.2.1 h3
   obtain ⟨v, rfl, k4, k5⟩ := ckB5_ok hF h.2.2.2 h4
   exact ⟨b', v, rfl, k1, k2, k3, k4, k5⟩
  ·
   cases h
instance : Rfy Bt.RClause where
 ck := fun H x cs => ckB5 H x.If (cs.take 5) && (match cs.drop 5 with
  | a :: cs => ckI x.Link a && ckB5 H x.To cs
  | _ => false)
 ok := fun {ρ Ψ H x cs vs} hF h hd => by
  obtain ⟨h1, h2⟩ := Bool.and_eq_true_iff.1 h
  obtain ⟨u, k1, k2, k3⟩ := ckB5_ok hF h1 (dnL_take 5 hd)
  have hd2 := dnL_drop 5 hd
  split at h2
  ·
   rename_i a cs' he
   rw [he] at hd2
   simp only [Bool.and_eq_true] at h2
   simp only [dnL, bI, mI] at hd2
   obtain ⟨a', h3, us, h4, h5⟩ := hd2
   obtain ⟨rfl, k4⟩ := ckI_ok h2.1 h3
   obtain ⟨v, rfl, k5, k6⟩ := ckB5_ok hF h2.2 h4
   refine ⟨u, v, ?_, k2, k3, k4, k5, k6⟩
   rw [← List.take_append_drop 5 vs, k1, ← h5]
  ·
   cases h2
def ckNm (H : T) (sz : Nat) (ns : List (List UInt8)) (s : S) : Bool := ckSl H ns.length 200 (fun cs => (List.range ns.length).all fun i => match cs[i * sz]? with
 | some (.c (.string b)) => decide (b.data.toList = ns.getD i []) && Nat.ble (ns.getD i []).length maxLen
 | _ => false) s
theorem ckNm_ok {ρ : En} {Ψ : Hp} {H : T} {sz : Nat} {ns : List (List UInt8)} {s : S} {v : Value} (hF : Froz ρ Ψ H) (h : ckNm H sz ns s = true) (hd : dn ρ s = some v) : NmS Ψ v sz ns := by
 obtain ⟨h1, h2, h3⟩ := ckSl_ok hF h hd
 have hb : ns.length ≤ 9223372036854775807 := by simp only [maxSl] at h2; omega
 rcases h3 with h3 | ⟨cs, vs, h4, h5, h6⟩
 ·
  exact ⟨h1, fun i hi => by omega, fun n hn => (by rw [List.length_eq_zero_iff.1 h3] at hn; cases hn), hb⟩
 have key : ∀ i (hi : i < ns.length), vs[i * sz]? = some (.string (bs ns[i])) ∧ ns[i].length ≤ maxLen := fun i hi => by
  have := List.all_eq_true.1 h4 i (List.mem_range.2 hi)
  split at this
  ·
   rename_i b hb
   simp only [Bool.and_eq_true, decide_eq_true_eq] at this
   obtain ⟨h7, h8⟩ := this
   have e : ns.getD i [] = ns[i] := by rw [gDD, List.getElem?_eq_getElem hi]; rfl
   rw [e] at h7 h8
   obtain ⟨x, hx, hx2⟩ := dnL_get h5 hb
   obtain rfl := sJ hx
   refine ⟨?_, Nat.le_of_ble_eq_true h8⟩
   rw [hx2, ← h7]
   rfl
  ·
   cases this
 exact ⟨h1, fun i hi => h6 _ _ (key i hi).1, fun n hn => by
  obtain ⟨i, hi, rfl⟩ := List.getElem_of_mem hn
  exact (key i hi).2, hb⟩
noncomputable def rightO (e : Ru.Env) (r : Bt.Rule) : Cl := fun k args H n => bif Nat.beq k 20 then match args with
 | [.ag [.c (.string _), s1, .c (.int .i64 _), s3, s4, s5, _, _, _, _, .c (.int .i64 _)], .ag [f, c]] =>
  bif ckNm H 1 e.owners s1 && (ckNm H 12 e.places s3 && (ckNm H 18 e.links s4 && (ckNm H 7 e.towns s5 && (ckS H r.Funcs f && ckS H r.Clauses c)))) then some (.e (.one (.c (.bool (Ru.rightR e r)))), H, n) else none
 | _ => none else none
theorem rightO_ok {gl : Nat → Option Nat} {e : Ru.Env} {r : Bt.Rule} : ClOK mpP gl (rightO e r) := by
 intro k args H n r' hr ρ Φ C xs w hg hx hC hf hw
 unfold rightO at hr
 obtain ⟨hk, h1⟩ := bif_some hr
 clear hr
 have hk := nB hk
 subst hk
 split at h1
 rotate_left
 ·
  cases h1
 rename_i a s1 ce s3 s4 s5 s6 s7 s8 s9 er f c
 obtain ⟨hb, h2⟩ := bif_some h1
 clear h1
 obtain rfl := sJ h2
 simp only [Bool.and_eq_true] at hb
 obtain ⟨b1, b2, b3, b4, b5, b6⟩ := hb
 simp only [dnEs, dnE, dnL, bI, mI, Option.some.injEq] at hx
 obtain ⟨_, ⟨_, ⟨a', ha, _, ⟨v1, g1, _, ⟨ce', hce, _, ⟨v3, g3, _, ⟨v4, g4, _, ⟨v5, g5, _, ⟨v6, g6, _, ⟨v7, g7, _, ⟨v8, g8, _, ⟨v9, g9, _, ⟨er', her, _, rfl, rfl⟩, rfl⟩, rfl⟩, rfl⟩, rfl⟩, rfl⟩, rfl⟩, rfl⟩, rfl⟩, rfl⟩, rfl⟩, rfl⟩, _, ⟨_, ⟨_, ⟨vf, gf, _, ⟨vc, gc, _, rfl, rfl⟩, rfl⟩, rfl⟩, _, rfl, rfl⟩, rfl⟩ := hx
 obtain rfl := sJ ha
 obtain rfl := sJ hce
 obtain rfl := sJ her
 have hF : Froz ρ (hp w) H := froz_ok hC fun c hc => hw.sat c hc
 refine ⟨oK, (ruleRight_c w (b := ⟨a.data.toList, v1, ce, v3, v4, v5, v6, v7, v8, v9, er⟩) (e := e) ⟨ckNm_ok hF b1 g1, ckNm_ok hF b2 g3, ckNm_ok hF b3 g4, ckNm_ok hF b4 g5⟩ (ckS_ok hF b5 gf) (ckS_ok hF b6 gc)).mono fun e' w' hh => ?_⟩
 obtain ⟨rfl, hbel⟩ := hh
 have hle := le_ext hbel hw.phi
 exact ⟨_, rfl, ρ, C, _, En.le_refl _, hle, fun v ev => by rw [← sJ ev]; rfl, hC.mono (En.le_refl _) hle, hf, hw.call hbel⟩
abbrev lvW : List Value := [Value.string (bs [111, 114]), .int .i64 12, .string (bs [111, 114]), .int .i64 12, .string (bs [97, 110, 100]), .int .i64 11, .string (bs [97, 110, 100]), .int .i64 11, .string (bs [43]), .int .i64 4, .string (bs [45]), .int .i64 5, .string (bs [42]), .int .i64 6, .string (bs [47]), .int .i64 7]
def gV (g : Nat) : Option Nat := bif Nat.beq g 0 then some 4 else bif Nat.beq g 1 then some 2 else bif Nat.beq g 5 then some 3 else none
abbrev moV : List Value := [Value.int .i64 31, .int .i64 29, .int .i64 31, .int .i64 30, .int .i64 31, .int .i64 30, .int .i64 31, .int .i64 31, .int .i64 30, .int .i64 31, .int .i64 30, .int .i64 31]
def knV : List (Nat × List S) := [(2, lvW.map .c), (3, mCells.map .c), (4, moV.map .c)]
def HV : T := (knT knV .nil).getD .nil
abbrev ρV : En := enL [(2, ⟨1, 0, none⟩, 0), (3, ⟨5, 0, none⟩, 0), (4, ⟨0, 0, none⟩, 0)]
def ruleV : Bt.Rule := ⟨[], [⟨⟨8, 0, 0, 0, [⟨0, 10, 0, 0, []⟩, ⟨1, 0, 1, 0, []⟩]⟩, 1, ⟨0, 1, 0, 0, []⟩⟩]⟩
def envV : Ru.Env := ⟨[[108, 97, 107, 101], [98, 114, 111, 111, 107]], [[112, 117, 98, 108, 105, 99]], [[103, 49], [103, 50]], [[111, 108, 100, 116, 111, 119, 110]]⟩
noncomputable def orV : Cl := fun k args H m => bif Nat.beq k 55 then scanO k args H m else bif Nat.beq k 56 then dfO mpP gV noCl 3000 k args H m else rightO envV ruleV k args H m
theorem orV_ok : ClOK mpP gV orV := fun k args H m r h => by
 unfold orV at h
 cases h1 : Nat.beq k 55 with
 | true => rw [h1] at h; exact scanO_ok k args H m r h
 | false =>
  rw [h1] at h
  simp only [cond_false] at h
  cases h2 : Nat.beq k 56 with
  | true => rw [h2] at h; simp only [cond_true] at h; exact dfO_ok hmix noCl_ok 3000 k args H m r h
  | false =>
   rw [h2] at h
   simp only [cond_false] at h
   exact rightO_ok k args H m r h
def isT : V → Bool
 | .e (.one (.c (.bool true))) => true
 | _ => false
theorem isT_ok {v : V} (h : isT v = true) : v = .e (.one (.c (.bool true))) := by
 unfold isT at h
 split at h
 ·
  rfl
 ·
  cases h
noncomputable def goV : Bool := match callE mpP gV orV 3000 9 [] HV 5 with
 | some x => isT x.1
 | none => false
theorem HV_kn {Φ : Hp} (hG : Knows Φ Glob) : CR mpP.mc ρV Φ HV [] := by
 have hs : knT knV .nil = some HV := by
  have : (knT knV .nil).isSome = true := by decide +kernel
  obtain ⟨x, hx⟩ := Option.isSome_iff_exists.1 this
  unfold HV
  rw [hx]; rfl
 refine knT_ok hs (fun p hp => ?_) CR.nil
 have ha : ∀ b k, (⟨b, 0, none⟩ : Addr).add k = ⟨b, k, none⟩ := fun b k => add_base
 simp only [knV, List.mem_cons, List.not_mem_nil, or_false] at hp
 rcases hp with rfl | rfl | rfl
 ·
  exact ⟨_, _, _, rfl, dnL_cs _, fun k x hx w hw => by rw [ha]; exact (hG w hw).2.1 k x hx⟩
 ·
  exact ⟨_, _, _, rfl, dnL_cs _, fun k x hx w hw => by rw [ha]; exact (hG w hw).1 k x hx⟩
 ·
  exact ⟨_, _, _, rfl, dnL_cs _, fun k x hx w hw => by rw [ha]; exact (hG w hw).2.2 k x hx⟩
theorem goV_ok : goV = true := by decide +kernel
theorem smallV_c (w : World) (Φ : Hp) (hΦ : Hp.le Φ (hp w)) (hG : Knows Φ Glob) : Calls pg 9 #[] w (fun e w' => e = .returned (.bool true) ∧ Bel w.heap.size w w') := by
 have h := goV_ok
 unfold goV at h
 split at h
 rotate_left
 ·
  cases h
 rename_i x hx
 refine (ev_ret (callE_sound hmix orV_ok 3000) hx (xs := []) hΦ (ρ := ρV) (fun g o e => ?_) rfl (HV_kn hG) (fun o ho => ?_) (T := fun v _ => v = .bool true) (fun ρ' Ψ v hF hv => ?_) (fun v Ψ Ψ' hl hT => hT)).2.mono fun e w' hh => ?_
 ·
  unfold gV at e
  cases g0 : Nat.beq g 0 with
  | true =>
   rw [g0] at e
   obtain rfl := nB g0
   obtain rfl := sJ e
   exact ⟨_, rfl⟩
  | false =>
   rw [g0] at e
   simp only [cond_false] at e
   cases g1 : Nat.beq g 1 with
   | true =>
    rw [g1] at e
    obtain rfl := nB g1
    obtain rfl := sJ e
    exact ⟨_, rfl⟩
   | false =>
    rw [g1] at e
    simp only [cond_false] at e
    obtain ⟨g2, e⟩ := bif_some e
    obtain rfl := nB g2
    obtain rfl := sJ e
    exact ⟨_, rfl⟩
 ·
  simp only [ρV, enL]
  rw [if_neg (by omega), if_neg (by omega), if_neg (by omega)]
 ·
  rw [isT_ok h] at hv
  exact (sJ hv).symm
 ·
  obtain ⟨v, rfl, hbel, rfl⟩ := hh
  exact ⟨rfl, hbel⟩
end Go.Proofs.YtjmeeofdffdpnaaGreatDoor
namespace Mn
open Bt
def light : Expr → Int → Int → Int
  | ⟨_, _, _, _, ks⟩, l, d => if l < 1 ∨ 60 < d then -1 else lightL ks (l - 1) d
where lightL : List Expr → Int → Int → Int
  | [], l, _ => l
  | k :: ks, l, d => if light k l (d + 1) < 0 then -1 else lightL ks (light k l (d + 1)) d
theorem light_eq (x : Expr) (l d : Int) : light x l d = if l < 1 ∨ 60 < d then -1 else light.lightL x.Kids (l - 1) d := by
  obtain ⟨k, n, a, b, ks⟩ := x
  rw [light]
mutual
theorem light_rng : ∀ (x : Expr) (l d : Int), -1 ≤ l → l ≤ 300 → -1 ≤ light x l d ∧ light x l d ≤ 300
  | ⟨k, n, a, b, ks⟩, l, d, h1, h2 => by
    rw [light]
    split
    · omega
    · exact lightL_rng ks (l - 1) d (by omega) (by omega)
theorem lightL_rng : ∀ (xs : List Expr) (l d : Int), -1 ≤ l → l ≤ 300 → -1 ≤ light.lightL xs l d ∧ light.lightL xs l d ≤ 300
  | [], l, d, h1, h2 => by rw [light.lightL]; omega
  | x :: xs, l, d, h1, h2 => by
    rw [light.lightL]
    split
    · omega
    · have h3 := light_rng x l (d + 1) h1 h2
      exact lightL_rng xs _ d h3.1 h3.2
end
def fewL (xs : List Expr) (l : Int) : Int := xs.foldl (fun l x => light x l 0) l
def few (r : Rule) : Bool := if 12 < r.Funcs.length ∨ 12 < r.Clauses.length then false else decide (0 ≤ fewL (r.Funcs.map (·.Body) ++ r.Clauses.flatMap fun c => [c.If, c.To]) 300)
theorem fewL_app (xs ys : List Expr) (l : Int) : fewL (xs ++ ys) l = fewL ys (fewL xs l) := by unfold fewL; rw [List.foldl_append]
theorem fewL_funs {r : Rule} {i : Nat} {l : Int} (h : i < r.Funcs.length) : fewL ((r.Funcs.drop i).map (·.Body)) l = fewL ((r.Funcs.drop (i + 1)).map (·.Body)) (light (r.Funcs.getD i default).Body l 0) := by
  rw [List.drop_eq_getElem_cons h, gDD, List.getElem?_eq_getElem h]; rfl
theorem fewL_cls {r : Rule} {i : Nat} {l : Int} (h : i < r.Clauses.length) : fewL ((r.Clauses.drop i).flatMap fun c => [c.If, c.To]) l = fewL ((r.Clauses.drop (i + 1)).flatMap fun c => [c.If, c.To]) (light (r.Clauses.getD i default).To (light (r.Clauses.getD i default).If l 0) 0) := by
  rw [List.drop_eq_getElem_cons h, gDD, List.getElem?_eq_getElem h]; rfl
end Mn
namespace Go.Proofs.YtjmeeofdffdpnaaGreatDoor
open Go Go.K Go.RowKit
open Ru (pB)
attribute [local irreducible] AW RW DW Post Qt
theorem kidQ {Φ : Hp} {xs : List Bt.Expr} {v : Value} (h : RepSl Φ xs v) {i : Nat} (hi : i < xs.length) : ∃ A c, PCells Φ (Value.at v (i * 5)) (exC (xs.getD i default) (.slice A (xs.getD i default).Kids.length c)) ∧ RepSl Φ (xs.getD i default).Kids (.slice A (xs.getD i default).Kids.length c) := by
  obtain ⟨cs, h1, h2⟩ := h.at_ i hi
  obtain ⟨kv, rfl, h3, h4⟩ := repE'.1 h1
  obtain ⟨A, c, rfl, _⟩ := h4.sl
  have he : xs[i] = xs.getD i default := by rw [gDD, List.getElem?_eq_getElem hi]; rfl
  rw [he] at h2 h4
  refine ⟨A, c, fun q u hq => ?_, h4⟩
  rw [at_add]
  exact h2 q u hq
theorem funQ {Φ : Hp} {xs : List Bt.RFunc} {v : Value} (h : RepSl Φ xs v) {i : Nat} (hi : i < xs.length) : ∃ A c, PCells Φ (Value.at v (i * 8 + 3)) (exC (xs.getD i default).Body (.slice A (xs.getD i default).Body.Kids.length c)) ∧ RepSl Φ (xs.getD i default).Body.Kids (.slice A (xs.getD i default).Body.Kids.length c) := by
  obtain ⟨cs, h1, h2⟩ := h.at_ i hi
  obtain ⟨pv, kv, rfl, _, _, _, h3, h4⟩ := h1
  obtain ⟨A, c, rfl, _⟩ := h4.sl
  have he : xs[i] = xs.getD i default := by rw [gDD, List.getElem?_eq_getElem hi]; rfl
  rw [he] at h2 h4
  refine ⟨A, c, fun q u hq => ?_, h4⟩
  rw [at_add, Nat.add_assoc]
  refine h2 (3 + q) u ?_
  rw [Nat.add_comm 3 q]
  exact hq
theorem light_c : ∀ (g : Nat) (w : World) {x : Bt.Expr} {v : Value} {l d : Int}, SizeOf.sizeOf x ≤ g → RepSl (hp w) x.Kids v → -1 ≤ l → l ≤ 300 → 0 ≤ d → d ≤ 1000 + 61 →
    Calls pg 25 #[.agg (exC x v).toArray, .int .i64 l, .int .i64 d] w fun e w' => e = .returned (.int .i64 (Mn.light x l d)) ∧ Bel w.heap.size w w'
  | 0, w, ⟨k, n, a, b, ks⟩, v, l, d, hs, hv, hl0, hl1, hd0, hd1 => by simp at hs
  | g + 1, w, x, v, l, d, hs, hv, hl0, hl1, hd0, hd1 => by
    obtain ⟨vA, vc, rfl, _⟩ := hv.sl
    have hvs := hv.sl
    have hxm := hv.max
    have hxb : x.Kids.length * 56 ≤ maxSl := hxm
    simp only [maxSl] at hxb
    refine calls_of_AW (args := [.agg (exC x (.slice vA x.Kids.length vc)).toArray, .int .i64 l, .int .i64 d]) Tryz.func25 rfl (lBT rfl) (St ⟨w, hp w, []⟩ (hp w) []) (StP.init w (hp w) (Hp.le_refl _) []) ?_
    show AW _ _ [] _ _ _ [(0, .agg (exC x (.slice vA x.Kids.length vc)).toArray), (1, .int .i64 l), (2, .int .i64 d)] _
    repeat refine gs1 ?_
    refine RW.bxA (cs := exC x (.slice vA x.Kids.length vc)) rfl rfl fun b3 => ?_
    repeat refine gs1 ?_
    refine RW.q (v := .bool (decide (l < 1) || decide (60 < d))) rfl (qpO rfl rfl rfl) ?_
    repeat refine gs1 ?_
    refine AW.cond rfl (fun h => ?_) fun h => ?_
    · have h : l < 1 ∨ 60 < d := by simpa using h
      repeat refine gs1 ?_
      exact fin_res (vs := [.int .i64 (-1)]) rfl rfl ⟨.tmp rfl, trivial⟩ rfl (fun w' hw => ⟨by rw [Mn.light_eq, if_pos h]; rfl, hw.below rfl⟩)
    have h : ¬ (l < 1 ∨ 60 < d) := by simpa using h
    repeat refine gs1 ?_
    refine AW.loop (fun s J q => ∃ (i : Nat) (l2 : Int), s = [(1, .int .i64 l2), (2, .int .i64 d), (3, pB b3), (7, .int .i64 (i : Int))] ∧ J = St ⟨w, hp w, []⟩ (hp w) [.blk b3 59 (exC x (.slice vA x.Kids.length vc))] ∧ q = x.Kids.length - i ∧ i ≤ x.Kids.length ∧ 0 ≤ l2 ∧ l2 ≤ 300 ∧ Mn.light.lightL (x.Kids.drop i) l2 d = Mn.light x l d) (s0 := [(1, .int .i64 (l - 1)), (2, .int .i64 d), (3, pB b3), (7, .int .i64 ((0 : Nat) : Int))]) (J1 := _) (m0 := _) ⟨0, l - 1, rfl, rfl, rfl, Nat.zero_le _, by omega, by omega, by rw [Mn.light_eq, if_neg h]; rfl⟩ ⟨rfl, rfl, rfl, rfl, trivial⟩ (fun _ h => h) ?_
    rintro _ _ _ _ ⟨i, l2, rfl, rfl, rfl, hi, h20, h21, hL⟩
    repeat refine gs1 ?_
    refine AW.cond rfl (fun h => ?_) fun h => ?_
    · have h : i < x.Kids.length := by have := odT h; omega
      obtain ⟨Aa, ca, hpa, hra⟩ := kidQ hv (i := i) h
      have hsz : SizeOf.sizeOf (x.Kids.getD i default) ≤ g := by
        have h1 : x.Kids.getD i default ∈ x.Kids := by rw [gDD, List.getElem?_eq_getElem h]; exact List.getElem_mem _
        have h2 := List.sizeOf_lt_of_mem h1
        have h3 : SizeOf.sizeOf x.Kids < SizeOf.sizeOf x := by obtain ⟨k, n, a, b, ks⟩ := x; simp; omega
        omega
      have hdr : x.Kids.drop i = x.Kids.getD i default :: x.Kids.drop (i + 1) := by rw [List.drop_eq_getElem_cons h, gDD, List.getElem?_eq_getElem h]; rfl
      rw [hdr, Mn.light.lightL] at hL
      have hr := Mn.light_rng (x.Kids.getD i default) l2 (d + 1) (by omega) h21
      repeat refine gs1 ?_
      refine RW.q rfl (q_call (args := #[.agg (exC (x.Kids.getD i default) (.slice Aa (x.Kids.getD i default).Kids.length ca)).toArray, .int .i64 l2, .int .i64 (d + 1)]) oK rfl rfl (fun w1 hw1 => light_c g w1 hsz (hra.mono hw1.phi) (by omega) h21 (by omega) (by omega))) ?_
      repeat refine gs1 ?_
      refine AW.cond rfl (fun hn => ?_) fun hn => ?_
      · have hn : Mn.light (x.Kids.getD i default) l2 (d + 1) < 0 := odT hn
        rw [if_pos hn] at hL
        repeat refine gs1 ?_
        exact fin_res (vs := [.int .i64 (-1)]) rfl rfl ⟨.tmp rfl, trivial⟩ rfl (fun w' hw => ⟨by rw [← hL]; rfl, hw.below rfl⟩)
      · have hn : ¬ Mn.light (x.Kids.getD i default) l2 (d + 1) < 0 := odF hn
        rw [if_neg hn] at hL
        repeat refine gs1 ?_
        exact Post.back (s' := _) (J' := _) (m' := _) (by omega) ⟨i + 1, _, rfl, rfl, rfl, by omega, by omega, hr.2, hL⟩ ⟨rfl, rfl, rfl, rfl, trivial⟩ (fun _ h => h)
    · have h : i = x.Kids.length := by have := odF h; omega
      subst h
      rw [List.drop_length, Mn.light.lightL] at hL
      repeat refine gs1 ?_
      exact fin_res (vs := [.int .i64 l2]) rfl rfl ⟨.tmp rfl, trivial⟩ rfl (fun w' hw => ⟨by rw [← hL]; rfl, hw.below rfl⟩)
theorem clP2 {Φ : Hp} {xs : List Bt.RClause} {v : Value} (h : RepSl Φ xs v) {i : Nat} (hi : i < xs.length) : ∃ A c A2 c2, PCells Φ (Value.at v (i * 11)) (exC (xs.getD i default).If (.slice A (xs.getD i default).If.Kids.length c)) ∧ PCells Φ (Value.at v (i * 11 + 6)) (exC (xs.getD i default).To (.slice A2 (xs.getD i default).To.Kids.length c2)) ∧ RepSl Φ (xs.getD i default).If.Kids (.slice A (xs.getD i default).If.Kids.length c) ∧ RepSl Φ (xs.getD i default).To.Kids (.slice A2 (xs.getD i default).To.Kids.length c2) := by
  obtain ⟨A, c, A2, c2, hpb, hki, hkt, _⟩ := clV h hi
  refine ⟨A, c, A2, c2, fun q u hq => hpb q u ((List.getElem?_append_left (List.getElem?_eq_some_iff.1 hq).1).trans hq), fun q u hq => ?_, hki, hkt⟩
  rw [at_add, Nat.add_assoc, ← at_add]
  refine hpb (6 + q) u ?_
  rw [Nat.add_comm 6 q]
  exact hq
theorem few_c (w : World) {r : Bt.Rule} {fv cv : Value} (hf : RepSl (hp w) r.Funcs fv) (hc : RepSl (hp w) r.Clauses cv) :
    Calls pg 10 #[.agg #[fv, cv]] w fun e w' => e = .returned (.bool (Mn.few r)) ∧ Bel w.heap.size w w' := by
  obtain ⟨fA, fc, rfl, _⟩ := hf.sl
  obtain ⟨cA, cc, rfl, _⟩ := hc.sl
  have hfs := hf.sl
  have hcs := hc.sl
  refine calls_of_AW (args := [.agg #[.slice fA r.Funcs.length fc, .slice cA r.Clauses.length cc]]) Tryz.func10 rfl (lBT rfl) (St ⟨w, hp w, []⟩ (hp w) []) (StP.init w (hp w) (Hp.le_refl _) []) ?_
  show AW _ _ [] _ _ _ [(0, .agg #[.slice fA r.Funcs.length fc, .slice cA r.Clauses.length cc])] _
  repeat refine gs1 ?_
  refine RW.bxA (cs := (rS2 fA fc cA cc r)) rfl rfl fun b1 => ?_
  repeat refine gs1 ?_
  refine RW.g (b := decide ((12 : Int) < (r.Funcs.length : Int))) (v := .int .i64 ((r.Clauses.length : Nat) : Int)) rfl rfl rfl (fun h => q_len_sl (gv_pos h) hcs Tryz.underlying33) ?_
  repeat refine gs1 ?_
  refine RW.q (v := .bool (decide ((12 : Int) < (r.Funcs.length : Int)) || decide ((12 : Int) < (r.Clauses.length : Int)))) rfl (qpO rfl rfl rfl) ?_
  repeat refine gs1 ?_
  refine AW.cond rfl (fun h => ?_) fun h => ?_
  · have h : 12 < r.Funcs.length ∨ 12 < r.Clauses.length := by simp only [Bool.or_eq_true, decide_eq_true_eq] at h; omega
    repeat refine gs1 ?_
    exact fin_res (vs := [.bool false]) rfl rfl ⟨.tmp rfl, trivial⟩ rfl (fun w' hw => ⟨by unfold Mn.few; rw [if_pos h]; rfl, hw.below rfl⟩)
  have h : ¬ (12 < r.Funcs.length ∨ 12 < r.Clauses.length) := by simp only [Bool.or_eq_false_iff, decide_eq_false_iff_not] at h; omega
  have hfew : Mn.few r = decide (0 ≤ Mn.fewL ((r.Clauses.drop 0).flatMap fun c => [c.If, c.To]) (Mn.fewL ((r.Funcs.drop 0).map (·.Body)) 300)) := by
    unfold Mn.few; rw [if_neg h, Mn.fewL_app]; rfl
  repeat refine gs1 ?_
  refine AW.loop (fun s J q => ∃ (i : Nat) (l : Int), s = [(1, pB b1), (3, .int .i64 l), (4, .int .i64 (i : Int))] ∧ J = St ⟨w, hp w, []⟩ (hp w) [.blk b1 35 (rS2 fA fc cA cc r)] ∧ q = r.Funcs.length - i ∧ i ≤ r.Funcs.length ∧ -1 ≤ l ∧ l ≤ 300 ∧ Mn.few r = decide (0 ≤ Mn.fewL ((r.Clauses.drop 0).flatMap fun c => [c.If, c.To]) (Mn.fewL ((r.Funcs.drop i).map (·.Body)) l))) (s0 := [(1, pB b1), (3, .int .i64 300), (4, .int .i64 ((0 : Nat) : Int))]) (J1 := _) (m0 := _) ⟨0, 300, rfl, rfl, rfl, Nat.zero_le _, by omega, by omega, hfew⟩ ⟨rfl, rfl, rfl, trivial⟩ (fun _ h => h) ?_
  rintro _ _ _ _ ⟨i, l, rfl, rfl, rfl, hi, hl0, hl1, hF⟩
  repeat refine gs1 ?_
  refine AW.cond rfl (fun h => ?_) fun h => ?_
  · have h : i < r.Funcs.length := by have := odT h; omega
    obtain ⟨Aa, ca, hpa, hra⟩ := funQ hf h
    rw [Mn.fewL_funs h] at hF
    have hr := Mn.light_rng (r.Funcs.getD i default).Body l 0 hl0 hl1
    repeat refine gs1 ?_
    refine RW.q rfl (q_call (args := #[.agg (exC (r.Funcs.getD i default).Body (.slice Aa (r.Funcs.getD i default).Body.Kids.length ca)).toArray, .int .i64 l, .int .i64 0]) oK rfl rfl (fun w1 hw1 => light_c _ w1 (Nat.le_refl _) (hra.mono hw1.phi) hl0 hl1 (by omega) (by omega))) ?_
    repeat refine gs1 ?_
    exact Post.back (s' := _) (J' := _) (m' := _) (by omega) ⟨i + 1, _, rfl, rfl, rfl, by omega, hr.1, hr.2, hF⟩ ⟨rfl, rfl, rfl, trivial⟩ (fun _ h => h)
  have h : i = r.Funcs.length := by have := odF h; omega
  subst h
  rw [List.drop_length] at hF
  repeat refine gs1 ?_
  refine AW.loop (fun s J q => ∃ (i : Nat) (l : Int), s = [(1, pB b1), (3, .int .i64 l), (5, .int .i64 (i : Int))] ∧ J = St ⟨w, hp w, []⟩ (hp w) [.blk b1 35 (rS2 fA fc cA cc r)] ∧ q = r.Clauses.length - i ∧ i ≤ r.Clauses.length ∧ -1 ≤ l ∧ l ≤ 300 ∧ Mn.few r = decide (0 ≤ Mn.fewL ((r.Clauses.drop i).flatMap fun c => [c.If, c.To]) l)) (s0 := [(1, pB b1), (3, .int .i64 l), (5, .int .i64 ((0 : Nat) : Int))]) (J1 := _) (m0 := _) ⟨0, l, rfl, rfl, rfl, Nat.zero_le _, hl0, hl1, hF⟩ ⟨rfl, rfl, rfl, trivial⟩ (fun _ h => h) ?_
  rintro _ _ _ _ ⟨i, l, rfl, rfl, rfl, hi, hl0, hl1, hF⟩
  repeat refine gs1 ?_
  refine AW.cond rfl (fun h => ?_) fun h => ?_
  · have h : i < r.Clauses.length := by have := odT h; omega
    obtain ⟨Aa, ca, Ab, cb, hpi, hpt, hki, hkt⟩ := clP2 hc h
    rw [Mn.fewL_cls h] at hF
    have hr := Mn.light_rng (r.Clauses.getD i default).If l 0 hl0 hl1
    have hr2 := Mn.light_rng (r.Clauses.getD i default).To _ 0 hr.1 hr.2
    repeat refine gs1 ?_
    refine RW.q rfl (q_call (args := #[.agg (exC (r.Clauses.getD i default).If (.slice Aa (r.Clauses.getD i default).If.Kids.length ca)).toArray, .int .i64 l, .int .i64 0]) oK rfl rfl (fun w1 hw1 => light_c _ w1 (Nat.le_refl _) (hki.mono hw1.phi) hl0 hl1 (by omega) (by omega))) ?_
    repeat refine gs1 ?_
    refine RW.q rfl (q_call (args := #[.agg (exC (r.Clauses.getD i default).To (.slice Ab (r.Clauses.getD i default).To.Kids.length cb)).toArray, .int .i64 (Mn.light (r.Clauses.getD i default).If l 0), .int .i64 0]) oK rfl rfl (fun w1 hw1 => light_c _ w1 (Nat.le_refl _) (hkt.mono hw1.phi) hr.1 hr.2 (by omega) (by omega))) ?_
    repeat refine gs1 ?_
    exact Post.back (s' := _) (J' := _) (m' := _) (by omega) ⟨i + 1, _, rfl, rfl, rfl, by omega, hr2.1, hr2.2, hF⟩ ⟨rfl, rfl, rfl, trivial⟩ (fun _ h => h)
  have h : i = r.Clauses.length := by have := odF h; omega
  subst h
  rw [List.drop_length] at hF
  repeat refine gs1 ?_
  exact fin_res (vs := [.bool (decide (0 ≤ l))]) rfl rfl ⟨.tmp rfl, trivial⟩ rfl (fun w' hw => ⟨by rw [hF]; rfl, hw.below rfl⟩)
end Go.Proofs.YtjmeeofdffdpnaaGreatDoor
namespace Vm
open Bt
mutual
def nd : Expr → Nat
  | ⟨_, _, _, _, ks⟩ => ndL ks + 1
def ndL : List Expr → Nat
  | [] => 0
  | x :: xs => nd x + ndL xs
end
theorem nd_eq (x : Expr) : nd x = ndL x.Kids + 1 := by
  obtain ⟨k, n, a, b, ks⟩ := x
  rw [nd]
theorem nd_pos (x : Expr) : 1 ≤ nd x := by rw [nd_eq]; omega
def ndR (r : Rule) : Nat := ndL (r.Funcs.map (·.Body) ++ r.Clauses.flatMap fun c => [c.If, c.To])
mutual
theorem cE_len : ∀ (e : Expr) (p : Nat), (cE p e).length + 2 ≤ 5 * nd e
  | ⟨k, n, o, q, ks⟩, p => by
    unfold cE
    rw [nd]
    have hp := nd_pos
    by_cases k0 : k = 0
    · rw [if_pos k0]; simp; omega
    rw [if_neg k0]
    by_cases k15 : k = 15
    · rw [if_pos k15]; simp; omega
    rw [if_neg k15]
    by_cases k1 : k = 1
    · rw [if_pos k1]; simp; omega
    rw [if_neg k1]
    have h3 : ∀ g, ((cG g p ks).getD 0 []).length + ((cG g p ks).getD 1 []).length + ((cG g p ks).getD 2 []).length ≤ 5 * ndL ks := fun g => cG_three ks g p
    have hf := cG_flen ks p
    have hc : ∀ kind A B O, (chC kind p A B O).length = A.length + B.length + O.length + 2 := fun kind A B O => by simp [chC]; omega
    by_cases k11 : k = 11
    · rw [if_pos k11, hc]; have := h3 1; simp only [List.length_singleton]; omega
    rw [if_neg k11]
    by_cases k12 : k = 12
    · rw [if_pos k12, hc]; have := h3 1; simp only [List.length_singleton]; omega
    rw [if_neg k12]
    by_cases k13 : k = 13
    · rw [if_pos k13, hc]; have := h3 1; omega
    rw [if_neg k13, List.length_append, List.length_singleton]
    omega
theorem cG_flen : ∀ (xs : List Expr) (p : Nat), (cG 0 p xs).flatten.length ≤ 5 * ndL xs
  | [], p => by unfold cG; simp
  | x :: xs, p => by
    unfold cG
    rw [List.flatten_cons, List.length_append, ndL]
    have h1 := cE_len x p
    have h2 := cG_flen xs (p + (cE p x).length + 0)
    omega
theorem cG_three : ∀ (xs : List Expr) (g p : Nat), ((cG g p xs).getD 0 []).length + ((cG g p xs).getD 1 []).length + ((cG g p xs).getD 2 []).length ≤ 5 * ndL xs
  | [], g, p => by unfold cG; simp
  | [a], g, p => by
    have h1 := cE_len a p
    simp only [cG, ndL, List.getD_cons_zero, List.getD_cons_succ, List.getD_nil, List.length_nil]
    omega
  | [a, b], g, p => by
    have h1 := cE_len a p
    have h2 := cE_len b (p + (cE p a).length + g)
    simp only [cG, ndL, List.getD_cons_zero, List.getD_cons_succ, List.getD_nil, List.length_nil]
    omega
  | a :: b :: c :: l, g, p => by
    have h1 := cE_len a p
    have h2 := cE_len b (p + (cE p a).length + g)
    have h3 := cE_len c (p + (cE p a).length + g + (cE (p + (cE p a).length + g) b).length + g)
    simp only [cG, ndL, List.getD_cons_zero, List.getD_cons_succ]
    omega
end
theorem ndL_app : ∀ (a b : List Expr), ndL (a ++ b) = ndL a + ndL b
  | [], b => by simp [ndL]
  | x :: a, b => by rw [List.cons_append, ndL, ndL, ndL_app a b]; omega
theorem seqC_len {α : Type} {f : Nat → α → List Op} {g : α → Nat} (h : ∀ p x, (f p x).length ≤ g x) : ∀ (xs : List α) (p : Nat), (seqC f p xs).2.length ≤ (xs.map g).sum
  | [], _ => by simp [seqC]
  | x :: xs, p => by
    have h1 := h p x
    have h2 := seqC_len h xs (p + (f p x).length)
    simp only [seqC, List.length_append, List.map_cons, List.sum_cons]
    omega
theorem cC_len (p : Nat) (c : RClause) : (cC p c).length ≤ 5 * (nd c.If + nd c.To) := by
  have h1 := cE_len c.If (p + 1)
  have h2 := cE_len c.To (p + 1 + (cE (p + 1) c.If).length + 1)
  simp only [cC, List.length_cons, List.length_append, List.length_nil]
  omega
theorem cF_len (p : Nat) (f : RFunc) : (cF p f).length ≤ 5 * nd f.Body := by
  have h1 := cE_len f.Body p
  simp only [cF, List.length_append, List.length_singleton]
  omega
theorem sumC : ∀ (cs : List RClause), (cs.map fun c => 5 * (nd c.If + nd c.To)).sum = 5 * ndL (cs.flatMap fun c => [c.If, c.To])
  | [] => by simp [ndL]
  | c :: cs => by
    rw [List.map_cons, List.sum_cons, List.flatMap_cons, ndL_app, sumC cs]
    simp only [ndL]
    omega
theorem sumF : ∀ (fs : List RFunc), (fs.map fun f => 5 * nd f.Body).sum = 5 * ndL (fs.map (·.Body))
  | [] => by simp [ndL]
  | f :: fs => by
    rw [List.map_cons, List.sum_cons, List.map_cons, ndL, sumF fs]
    omega
theorem cops_len (r : Rule) : (cops r).length ≤ 5 * ndR r + 1 := by
  have h1 := seqC_len (f := cC) cC_len r.Clauses 0
  have h2 := seqC_len (f := cF) cF_len r.Funcs ((seqC cC 0 r.Clauses).2.length + 1)
  rw [sumC] at h1
  rw [sumF] at h2
  unfold cops ndR
  rw [List.length_append, List.length_cons, ndL_app]
  omega
end Vm
