/- Lemmas. Conditions: those of each theorem. -/
import Derived.Test.YtjmeeofdffdpnaaGreatDoorRVmC
import Derived.Test.YtjmeeofdffdpnaaGreatDoorRMks
set_option maxRecDepth 8000
set_option maxHeartbeats 16000000
namespace Vm
open Bt
instance : Inhabited Op := ⟨⟨0, 0, 0⟩⟩
def part (r : Rule) (ops : List Op) (lo hi : Nat) : Prop := lo < hi ∧ hi ≤ ops.length ∧ ∀ i, lo ≤ i → i < hi → okO r hi i (ops.getD i default)
def begs {α : Type} (f : Nat → α → List Op) : Nat → List α → List Nat
  | _, [] => []
  | p, x :: xs => p :: begs f (p + (f p x).length) xs
theorem seqC_begs {α : Type} {f : Nat → α → List Op} : ∀ (xs : List α) (p : Nat), (seqC f p xs).1 = (begs f p xs).map fun (n : Nat) => (n : Int)
  | [], _ => rfl
  | x :: xs, p => by simp only [seqC, begs, List.map_cons, seqC_begs xs]
theorem begs_len {α : Type} {f : Nat → α → List Op} : ∀ (xs : List α) (p : Nat), (begs f p xs).length = xs.length
  | [], _ => rfl
  | x :: xs, p => by simp [begs, begs_len xs]
def parts (r : Rule) : List Nat := begs cC 0 r.Clauses ++ ((seqC cC 0 r.Clauses).2.length :: (begs cF ((seqC cC 0 r.Clauses).2.length + 1) r.Funcs ++ [(compile r).Ops.length]))
theorem soP_iff {r : Rule} (h : soP r = true) : (∀ f ∈ r.Funcs, soE r f.Params.length 1 f.Body = true) ∧ ∀ c ∈ r.Clauses, soE r 0 1 c.If = true ∧ soE r 0 1 c.To = true := by
  unfold soP at h
  rw [Bool.and_eq_true, List.all_eq_true, List.all_eq_true] at h
  exact ⟨h.1, fun c hc => by have := h.2 c hc; rwa [Bool.and_eq_true] at this⟩
theorem compile_ops {r : Rule} (h : soP r = true) : (compile r).Ops = (seqC cC 0 r.Clauses).2 ++ (⟨19, 0, 0⟩ :: (seqC cF ((seqC cC 0 r.Clauses).2.length + 1) r.Funcs).2) := by unfold compile; rw [if_pos h]
theorem compile_starts {r : Rule} (h : soP r = true) : (compile r).Starts = (begs cC 0 r.Clauses).map fun (n : Nat) => (n : Int) := by unfold compile; rw [if_pos h]; exact seqC_begs _ _
theorem compile_funcs {r : Rule} (h : soP r = true) : (compile r).Funcs = (begs cF ((seqC cC 0 r.Clauses).2.length + 1) r.Funcs).map fun (n : Nat) => (n : Int) := by unfold compile; rw [if_pos h]; exact seqC_begs _ _
end Vm
namespace Vm
open Bt
theorem two {α : Type} {l : List α} {d : α} (h : l.length = 2) : l = [l.getD 0 d, l.getD 1 d] := match l, h with
  | [_, _], _ => rfl
theorem three {α : Type} {l : List α} {d : α} (h : l.length = 3) : l = [l.getD 0 d, l.getD 1 d, l.getD 2 d] := match l, h with
  | [_, _, _], _ => rfl
theorem cE_2 (x : Expr) (p : Nat) (hl : x.Kids.length = 2) (hk : x.Kind = 11 ∨ x.Kind = 12) : cE p x = chC (if x.Kind = 11 then 13 else 14) p (cE p (x.Kids.getD 0 default)) (cE (p + (cE p (x.Kids.getD 0 default)).length + 1) (x.Kids.getD 1 default)) [⟨0, if x.Kind = 11 then 0 else 1, 0⟩] := by
  obtain ⟨k, n, a, b, ks⟩ := x
  simp only at hl hk ⊢
  rw [two (d := default) hl]
  rcases hk with rfl | rfl <;> (rw [cE]; simp [cG])
theorem cE_3 (x : Expr) (p : Nat) (hl : x.Kids.length = 3) (hk : x.Kind = 13) : cE p x = chC 13 p (cE p (x.Kids.getD 0 default)) (cE (p + (cE p (x.Kids.getD 0 default)).length + 1) (x.Kids.getD 1 default)) (cE (p + (cE p (x.Kids.getD 0 default)).length + 1 + (cE (p + (cE p (x.Kids.getD 0 default)).length + 1) (x.Kids.getD 1 default)).length + 1) (x.Kids.getD 2 default)) := by
  obtain ⟨k, n, a, b, ks⟩ := x
  simp only at hl hk ⊢
  rw [three (d := default) hl]
  subst hk
  rw [cE]; simp [cG]
theorem cE_df (x : Expr) (p : Nat) (h : x.Kind ≠ 0 ∧ x.Kind ≠ 15 ∧ x.Kind ≠ 1 ∧ x.Kind ≠ 11 ∧ x.Kind ≠ 12 ∧ x.Kind ≠ 13) : cE p x = (cG 0 p x.Kids).flatten ++ [if x.Kind = 14 then ⟨15, x.N, (x.Kids.length : Int)⟩ else ⟨opOf x.Kind, 0, 0⟩] := by
  obtain ⟨k, n, a, b, ks⟩ := x
  rw [cE, if_neg h.1, if_neg h.2.1, if_neg h.2.2.1, if_neg h.2.2.2.1, if_neg h.2.2.2.2.1, if_neg h.2.2.2.2.2]
theorem cE_leaf (x : Expr) (p : Nat) : (x.Kind = 0 → cE p x = [⟨0, x.N, 0⟩]) ∧ (x.Kind = 15 → cE p x = [⟨1, x.N, 0⟩]) ∧ (x.Kind = 1 → cE p x = [⟨2, x.N, 1024 * x.Of + x.Of2⟩]) := by
  obtain ⟨k, n, a, b, ks⟩ := x
  refine ⟨fun h => ?_, fun h => ?_, fun h => ?_⟩ <;> (simp only at h; subst h; rw [cE]; rfl)
end Vm
namespace Go.Proofs.YtjmeeofdffdpnaaGreatDoor
open Go Go.K Go.RowKit
open Ru (pB)
attribute [local irreducible] AW RW DW Post Qt
def ExN (r : Bt.Rule) (n : Nat) : Prop := ∀ (Φ : Hp) (bc : Nat) (X : Bt.Expr) (v : Value) (ps d : Nat), n + d = 41 → Vm.soE r ps d X = true → wfE X → RepSl Φ X.Kids v → ExAt Φ bc X v
theorem xexpr_of {r : Bt.Rule} {n : Nat} (ih : ∀ m, n = m + 1 → ExN r m) : ExN r n := by
  intro Φ bc X v ps d hnd hso hX hv w kv xs hb h0
  obtain ⟨vA, vc, rfl, _⟩ := hv.sl
  have hvs := hv.sl
  have hxb : X.Kids.length * 56 ≤ maxSl := hv.max
  simp only [maxSl] at hxb
  rw [Vm.soE_eq] at hso
  simp only [Bool.and_eq_true, decide_eq_true_eq] at hso
  obtain ⟨⟨⟨⟨hd40, hkr⟩, hok⟩, har⟩, hall⟩ := hso
  obtain ⟨m, rfl⟩ : ∃ m, n = m + 1 := ⟨n - 1, by omega⟩
  have ih := ih m rfl
  have hkid : ∀ {i : Nat} {A : Option Addr} {c : Nat}, i < X.Kids.length → RepSl Φ (X.Kids.getD i default).Kids (.slice A (X.Kids.getD i default).Kids.length c) → wfE (X.Kids.getD i default) → ExAt Φ bc (X.Kids.getD i default) (.slice A (X.Kids.getD i default).Kids.length c) := fun {i A c} hi hr hw => ih Φ bc _ _ ps (d + 1) (by omega) (List.all_eq_true.1 hall _ (by rw [gDD, List.getElem?_eq_getElem hi]; exact List.getElem_mem hi)) hw hr
  obtain ⟨hl0, hl15, hl1⟩ := Vm.cE_leaf X xs.length
  refine calls_of_AW (args := [pB bc, .agg (exC X (.slice vA X.Kids.length vc)).toArray]) Tryz.func28 rfl (lBT rfl) (St ⟨w, Φ, fps (coK bc kv xs)⟩ Φ (coK bc kv xs)) h0 ?_
  show AW _ _ [] _ _ _ [(0, pB bc), (1, .agg (exC X (.slice vA X.Kids.length vc)).toArray)] _
  repeat refine gs1 ?_
  refine RW.eff (fun b : Nat => pB b) (fun b => St ⟨w, Φ, fps (coK bc kv xs)⟩ Φ (.blk b 156 [pB bc] :: coK bc kv xs)) rfl (e_box (v := pB bc) rfl) fun b2 => ?_
  refine RW.bxA (cs := exC X (.slice vA X.Kids.length vc)) rfl rfl fun b3 => ?_
  repeat refine gs1 ?_
  refine AW.cond rfl (fun k => ?_) fun k0 => ?_
  · have k : X.Kind = 0 := odT k
    rw [hl0 k]
    rw [hl0 k] at hb
    simp only [List.length_singleton] at hb
    repeat refine gs1 ?_
    refine RW.ownU (args := #[pB bc, .int .i64 0, .int .i64 X.N, .int .i64 0]) (C2 := [.blk b3 59 (exC X (.slice vA X.Kids.length vc)), .blk b2 156 [pB bc]]) [2, 3, 0, 1] (by decide) rfl rfl oK rfl rfl (fun w1 hw1 => emit_c w1 0 X.N 0 (by omega) hw1) fun kv' => ?_
    repeat refine gs1 ?_
    exact fin_none (J' := St ⟨w, Φ, fps (coK bc kv xs)⟩ Φ (coK bc kv' (xs ++ ([⟨0, X.N, 0⟩] : List Vm.Op)))) rfl rfl (fun _ h => StP.sel h [0, 1] (by decide) rfl) (fun w1 hw1 => ⟨kv', rfl, hw1⟩)
  have k0 : X.Kind ≠ 0 := odF k0
  repeat refine gs1 ?_
  refine AW.cond rfl (fun k => ?_) fun k15 => ?_
  · have k : X.Kind = 15 := odT k
    rw [hl15 k]
    rw [hl15 k] at hb
    simp only [List.length_singleton] at hb
    repeat refine gs1 ?_
    refine RW.ownU (args := #[pB bc, .int .i64 1, .int .i64 X.N, .int .i64 0]) (C2 := [.blk b3 59 (exC X (.slice vA X.Kids.length vc)), .blk b2 156 [pB bc]]) [2, 3, 0, 1] (by decide) rfl rfl oK rfl rfl (fun w1 hw1 => emit_c w1 1 X.N 0 (by omega) hw1) fun kv' => ?_
    repeat refine gs1 ?_
    exact fin_none (J' := St ⟨w, Φ, fps (coK bc kv xs)⟩ Φ (coK bc kv' (xs ++ ([⟨1, X.N, 0⟩] : List Vm.Op)))) rfl rfl (fun _ h => StP.sel h [0, 1] (by decide) rfl) (fun w1 hw1 => ⟨kv', rfl, hw1⟩)
  have k15 : X.Kind ≠ 15 := odF k15
  repeat refine gs1 ?_
  refine AW.cond rfl (fun k => ?_) fun k1 => ?_
  · have k : X.Kind = 1 := odT k
    rw [hl1 k]
    rw [hl1 k] at hb
    simp only [List.length_singleton] at hb
    repeat refine gs1 ?_
    have hfx : 0 ≤ X.Of ∧ X.Of < 1024 ∧ 0 ≤ X.Of2 ∧ X.Of2 < 1024 := by have := hok; unfold Vm.okK at this; rw [if_neg k15, if_pos k] at this; have := odT this; omega
    refine RW.q (v := .int .i64 (1024 * X.Of)) rfl (q_mul rfl rfl rfl (by unfold I64; omega)) ?_
    repeat refine gs1 ?_
    refine RW.ownU (args := #[pB bc, .int .i64 2, .int .i64 X.N, .int .i64 (1024 * X.Of + X.Of2)]) (C2 := [.blk b3 59 (exC X (.slice vA X.Kids.length vc)), .blk b2 156 [pB bc]]) [2, 3, 0, 1] (by decide) rfl rfl oK rfl rfl (fun w1 hw1 => emit_c w1 2 X.N (1024 * X.Of + X.Of2) (by omega) hw1) fun kv' => ?_
    repeat refine gs1 ?_
    exact fin_none (J' := St ⟨w, Φ, fps (coK bc kv xs)⟩ Φ (coK bc kv' (xs ++ ([⟨2, X.N, (1024 * X.Of + X.Of2)⟩] : List Vm.Op)))) rfl rfl (fun _ h => StP.sel h [0, 1] (by decide) rfl) (fun w1 hw1 => ⟨kv', rfl, hw1⟩)
  have k1 : X.Kind ≠ 1 := odF k1
  repeat refine gs1 ?_
  refine AW.cond rfl (fun k => ?_) fun k11 => ?_
  · have k : X.Kind = 11 := odT k
    have hl : X.Kids.length = 2 := by rw [har]; unfold Vm.arK; rw [if_neg (by omega), if_neg (by omega), if_neg (by omega), if_neg (by omega)]
    obtain ⟨A0, c0, hp0, hr0, hw0⟩ := kidW hv (i := 0) (by omega)
    obtain ⟨A1, c1, hp1, hr1, hw1⟩ := kidW hv (i := 1) (by omega)
    have hi0 : 0 < X.Kids.length := by omega
    have hi1 : 1 < X.Kids.length := by omega
    obtain ⟨A, hA⟩ : ∃ A, A = Vm.cE xs.length (X.Kids.getD 0 default) := ⟨_, rfl⟩
    obtain ⟨B, hB⟩ : ∃ B, B = Vm.cE (xs.length + A.length + 1) (X.Kids.getD 1 default) := ⟨_, rfl⟩
    have he : Vm.cE xs.length X = Vm.chC 13 xs.length A B ([⟨0, 0, 0⟩]) := by subst hB; subst hA; exact (Vm.cE_2 X xs.length hl (.inl k)).trans (by rw [k]; rfl)
    rw [he] at hb ⊢
    have hBK : ∀ w1, (St ⟨w, Φ, fps (coK bc kv xs)⟩ Φ [.blk b3 59 (exC X (.slice vA X.Kids.length vc)), .blk b2 156 [pB bc], .blk bc 78 [kv], .row kv 56 3 xs.length (xs.flatMap opC)]).p w1 → (St ⟨w, Φ, fps (coK bc kv xs)⟩ Φ [.blk b3 59 (exC X (.slice vA X.Kids.length vc)), .blk b2 156 [pB bc]]).p w1 := fun _ h => StP.sel h [0, 1] (by decide) rfl
    repeat refine gs1 ?_
    refine AW.drawZ (J0 := St ⟨w, Φ, fps (coK bc kv xs)⟩ Φ [.blk b3 59 (exC X (.slice vA X.Kids.length vc)), .blk b2 156 [pB bc]]) [.q, .q, .q, .q, .q, .q, .q, .q, .q, .q, .e] [0, 1, 2, 3, 4, 5, 6, 7, 8, 9, 10] hmix (by kernel_rfl) ?_
    refine DW.q hBK rfl (qa_ld rfl (Cell.blk 1 rfl rfl)) ?_
    refine DW.q hBK rfl (qa_fa0 rfl) ?_
    refine DW.q hBK rfl (qa_ld rfl (Cell.blk 0 rfl rfl)) ?_
    refine DW.q (v := .pointer (some (Value.at (.slice vA X.Kids.length vc) (0 * 5)))) hBK rfl (qa_ixL (n := X.Kids.length) (i := 0) rfl rfl hvs hi0) ?_
    refine DW.q (v := .agg (exC (X.Kids.getD 0 default) (.slice A0 (X.Kids.getD 0 default).Kids.length c0)).toArray) hBK rfl (qa_ldA rfl (fun j u hj => Cell.phi (hp0 j u hj)) rfl) ?_
    refine DW.q hBK rfl (qa_fa0 rfl) ?_
    refine DW.q hBK rfl (qa_ld rfl (Cell.blk 0 rfl rfl)) ?_
    refine DW.q (v := .pointer (some (Value.at (.slice vA X.Kids.length vc) (1 * 5)))) hBK rfl (qa_ixL (n := X.Kids.length) (i := 1) rfl rfl hvs hi1) ?_
    refine DW.q (v := .agg (exC (X.Kids.getD 1 default) (.slice A1 (X.Kids.getD 1 default).Kids.length c1)).toArray) hBK rfl (qa_ldA rfl (fun j u hj => Cell.phi (hp1 j u hj)) rfl) ?_
    refine DW.q (v := .func (.func 68) #[] #[pB b2]) hBK rfl (q_makeFunc (fs := []) (cs := [pB b2]) rfl rfl) ?_
    refine DW.ownU (args := #[pB bc, .int .i64 13, .agg (exC (X.Kids.getD 0 default) (.slice A0 (X.Kids.getD 0 default).Kids.length c0)).toArray, .agg (exC (X.Kids.getD 1 default) (.slice A1 (X.Kids.getD 1 default).Kids.length c1)).toArray, .func (.func 68) #[] #[pB b2]]) (C2 := []) [2, 3, 1, 0] (by decide) rfl rfl oK rfl rfl (fun w1 hz => choice_c 13 (hkid hi0 hr0 hw0) (hkid hi1 hr1 hw1) oK xclo1_c w1 kv xs A B _ hA hB rfl hb hz) (fun _ _ h => StP.sel h [3, 2] (by decide) rfl) fun kv' => ?_
    repeat refine gs1 ?_
    exact fin_none (J' := St ⟨w, Φ, fps (coK bc kv xs)⟩ Φ (coK bc kv' (xs ++ Vm.chC 13 xs.length A B ([⟨0, 0, 0⟩])))) rfl rfl (fun _ h => StP.sel h [0, 1] (by decide) rfl) (fun w1 hw1 => ⟨kv', rfl, hw1⟩)
  have k11 : X.Kind ≠ 11 := odF k11
  repeat refine gs1 ?_
  refine AW.cond rfl (fun k => ?_) fun k12 => ?_
  · have k : X.Kind = 12 := odT k
    have hl : X.Kids.length = 2 := by rw [har]; unfold Vm.arK; rw [if_neg (by omega), if_neg (by omega), if_neg (by omega), if_neg (by omega)]
    obtain ⟨A0, c0, hp0, hr0, hw0⟩ := kidW hv (i := 0) (by omega)
    obtain ⟨A1, c1, hp1, hr1, hw1⟩ := kidW hv (i := 1) (by omega)
    have hi0 : 0 < X.Kids.length := by omega
    have hi1 : 1 < X.Kids.length := by omega
    obtain ⟨A, hA⟩ : ∃ A, A = Vm.cE xs.length (X.Kids.getD 0 default) := ⟨_, rfl⟩
    obtain ⟨B, hB⟩ : ∃ B, B = Vm.cE (xs.length + A.length + 1) (X.Kids.getD 1 default) := ⟨_, rfl⟩
    have he : Vm.cE xs.length X = Vm.chC 14 xs.length A B ([⟨0, 1, 0⟩]) := by subst hB; subst hA; exact (Vm.cE_2 X xs.length hl (.inr k)).trans (by rw [k]; rfl)
    rw [he] at hb ⊢
    have hBK : ∀ w1, (St ⟨w, Φ, fps (coK bc kv xs)⟩ Φ [.blk b3 59 (exC X (.slice vA X.Kids.length vc)), .blk b2 156 [pB bc], .blk bc 78 [kv], .row kv 56 3 xs.length (xs.flatMap opC)]).p w1 → (St ⟨w, Φ, fps (coK bc kv xs)⟩ Φ [.blk b3 59 (exC X (.slice vA X.Kids.length vc)), .blk b2 156 [pB bc]]).p w1 := fun _ h => StP.sel h [0, 1] (by decide) rfl
    repeat refine gs1 ?_
    refine AW.drawZ (J0 := St ⟨w, Φ, fps (coK bc kv xs)⟩ Φ [.blk b3 59 (exC X (.slice vA X.Kids.length vc)), .blk b2 156 [pB bc]]) [.q, .q, .q, .q, .q, .q, .q, .q, .q, .q, .e] [0, 1, 2, 3, 4, 5, 6, 7, 8, 9, 10] hmix (by kernel_rfl) ?_
    refine DW.q hBK rfl (qa_ld rfl (Cell.blk 1 rfl rfl)) ?_
    refine DW.q hBK rfl (qa_fa0 rfl) ?_
    refine DW.q hBK rfl (qa_ld rfl (Cell.blk 0 rfl rfl)) ?_
    refine DW.q (v := .pointer (some (Value.at (.slice vA X.Kids.length vc) (0 * 5)))) hBK rfl (qa_ixL (n := X.Kids.length) (i := 0) rfl rfl hvs hi0) ?_
    refine DW.q (v := .agg (exC (X.Kids.getD 0 default) (.slice A0 (X.Kids.getD 0 default).Kids.length c0)).toArray) hBK rfl (qa_ldA rfl (fun j u hj => Cell.phi (hp0 j u hj)) rfl) ?_
    refine DW.q hBK rfl (qa_fa0 rfl) ?_
    refine DW.q hBK rfl (qa_ld rfl (Cell.blk 0 rfl rfl)) ?_
    refine DW.q (v := .pointer (some (Value.at (.slice vA X.Kids.length vc) (1 * 5)))) hBK rfl (qa_ixL (n := X.Kids.length) (i := 1) rfl rfl hvs hi1) ?_
    refine DW.q (v := .agg (exC (X.Kids.getD 1 default) (.slice A1 (X.Kids.getD 1 default).Kids.length c1)).toArray) hBK rfl (qa_ldA rfl (fun j u hj => Cell.phi (hp1 j u hj)) rfl) ?_
    refine DW.q (v := .func (.func 69) #[] #[pB b2]) hBK rfl (q_makeFunc (fs := []) (cs := [pB b2]) rfl rfl) ?_
    refine DW.ownU (args := #[pB bc, .int .i64 14, .agg (exC (X.Kids.getD 0 default) (.slice A0 (X.Kids.getD 0 default).Kids.length c0)).toArray, .agg (exC (X.Kids.getD 1 default) (.slice A1 (X.Kids.getD 1 default).Kids.length c1)).toArray, .func (.func 69) #[] #[pB b2]]) (C2 := []) [2, 3, 1, 0] (by decide) rfl rfl oK rfl rfl (fun w1 hz => choice_c 14 (hkid hi0 hr0 hw0) (hkid hi1 hr1 hw1) oK xclo2_c w1 kv xs A B _ hA hB rfl hb hz) (fun _ _ h => StP.sel h [3, 2] (by decide) rfl) fun kv' => ?_
    repeat refine gs1 ?_
    exact fin_none (J' := St ⟨w, Φ, fps (coK bc kv xs)⟩ Φ (coK bc kv' (xs ++ Vm.chC 14 xs.length A B ([⟨0, 1, 0⟩])))) rfl rfl (fun _ h => StP.sel h [0, 1] (by decide) rfl) (fun w1 hw1 => ⟨kv', rfl, hw1⟩)
  have k12 : X.Kind ≠ 12 := odF k12
  repeat refine gs1 ?_
  refine AW.cond rfl (fun k => ?_) fun k13 => ?_
  · have k : X.Kind = 13 := odT k
    have hl : X.Kids.length = 3 := by rw [har]; unfold Vm.arK; rw [if_neg (by omega), if_neg (by omega), if_pos k]
    obtain ⟨A0, c0, hp0, hr0, hw0⟩ := kidW hv (i := 0) (by omega)
    obtain ⟨A1, c1, hp1, hr1, hw1⟩ := kidW hv (i := 1) (by omega)
    obtain ⟨A2, c2, hp2, hr2, hw2⟩ := kidW hv (i := 2) (by omega)
    have hi2 : 2 < X.Kids.length := by omega
    have hi0 : 0 < X.Kids.length := by omega
    have hi1 : 1 < X.Kids.length := by omega
    obtain ⟨A, hA⟩ : ∃ A, A = Vm.cE xs.length (X.Kids.getD 0 default) := ⟨_, rfl⟩
    obtain ⟨B, hB⟩ : ∃ B, B = Vm.cE (xs.length + A.length + 1) (X.Kids.getD 1 default) := ⟨_, rfl⟩
    have he : Vm.cE xs.length X = Vm.chC 13 xs.length A B (Vm.cE (xs.length + A.length + 1 + B.length + 1) (X.Kids.getD 2 default)) := by subst hB; subst hA; exact Vm.cE_3 X xs.length hl k
    rw [he] at hb ⊢
    have hBK : ∀ w1, (St ⟨w, Φ, fps (coK bc kv xs)⟩ Φ [.blk b3 59 (exC X (.slice vA X.Kids.length vc)), .blk b2 156 [pB bc], .blk bc 78 [kv], .row kv 56 3 xs.length (xs.flatMap opC)]).p w1 → (St ⟨w, Φ, fps (coK bc kv xs)⟩ Φ [.blk b3 59 (exC X (.slice vA X.Kids.length vc)), .blk b2 156 [pB bc]]).p w1 := fun _ h => StP.sel h [0, 1] (by decide) rfl
    repeat refine gs1 ?_
    refine AW.drawZ (J0 := St ⟨w, Φ, fps (coK bc kv xs)⟩ Φ [.blk b3 59 (exC X (.slice vA X.Kids.length vc)), .blk b2 156 [pB bc]]) [.q, .q, .q, .q, .q, .q, .q, .q, .q, .q, .e] [0, 1, 2, 3, 4, 5, 6, 7, 8, 9, 10] hmix (by kernel_rfl) ?_
    refine DW.q hBK rfl (qa_ld rfl (Cell.blk 1 rfl rfl)) ?_
    refine DW.q hBK rfl (qa_fa0 rfl) ?_
    refine DW.q hBK rfl (qa_ld rfl (Cell.blk 0 rfl rfl)) ?_
    refine DW.q (v := .pointer (some (Value.at (.slice vA X.Kids.length vc) (0 * 5)))) hBK rfl (qa_ixL (n := X.Kids.length) (i := 0) rfl rfl hvs hi0) ?_
    refine DW.q (v := .agg (exC (X.Kids.getD 0 default) (.slice A0 (X.Kids.getD 0 default).Kids.length c0)).toArray) hBK rfl (qa_ldA rfl (fun j u hj => Cell.phi (hp0 j u hj)) rfl) ?_
    refine DW.q hBK rfl (qa_fa0 rfl) ?_
    refine DW.q hBK rfl (qa_ld rfl (Cell.blk 0 rfl rfl)) ?_
    refine DW.q (v := .pointer (some (Value.at (.slice vA X.Kids.length vc) (1 * 5)))) hBK rfl (qa_ixL (n := X.Kids.length) (i := 1) rfl rfl hvs hi1) ?_
    refine DW.q (v := .agg (exC (X.Kids.getD 1 default) (.slice A1 (X.Kids.getD 1 default).Kids.length c1)).toArray) hBK rfl (qa_ldA rfl (fun j u hj => Cell.phi (hp1 j u hj)) rfl) ?_
    refine DW.q (v := .func (.func 70) #[] #[pB b2, pB b3]) hBK rfl (q_makeFunc (fs := []) (cs := [pB b2, pB b3]) rfl rfl) ?_
    refine DW.ownU (args := #[pB bc, .int .i64 13, .agg (exC (X.Kids.getD 0 default) (.slice A0 (X.Kids.getD 0 default).Kids.length c0)).toArray, .agg (exC (X.Kids.getD 1 default) (.slice A1 (X.Kids.getD 1 default).Kids.length c1)).toArray, .func (.func 70) #[] #[pB b2, pB b3]]) (C2 := []) [2, 3, 1, 0] (by decide) rfl rfl oK rfl rfl (fun w1 hz => choice_c 13 (hkid hi0 hr0 hw0) (hkid hi1 hr1 hw1) oK (xclo3_c rfl hi2 hvs hp2 (hkid hi2 hr2 hw2)) w1 kv xs A B _ hA hB rfl hb hz) (fun _ _ h => StP.sel h [3, 2] (by decide) rfl) fun kv' => ?_
    repeat refine gs1 ?_
    exact fin_none (J' := St ⟨w, Φ, fps (coK bc kv xs)⟩ Φ (coK bc kv' (xs ++ Vm.chC 13 xs.length A B (Vm.cE (xs.length + A.length + 1 + B.length + 1) (X.Kids.getD 2 default))))) rfl rfl (fun _ h => StP.sel h [0, 1] (by decide) rfl) (fun w1 hw1 => ⟨kv', rfl, hw1⟩)
  have k13 : X.Kind ≠ 13 := odF k13
  repeat refine gs1 ?_
  have hdf := Vm.cE_df X xs.length ⟨k0, k15, k1, k11, k12, k13⟩
  obtain ⟨K, hK⟩ : ∃ K, K = (Vm.cG 0 xs.length X.Kids).flatten := ⟨_, rfl⟩
  rw [hdf, ← hK] at hb ⊢
  rw [List.length_append, List.length_singleton] at hb
  have hpre : ∀ i, (Vm.cG 0 xs.length (X.Kids.take i)).flatten.length ≤ K.length := fun i => by rw [hK]; exact Vm.cG_pre X.Kids xs.length i
  refine AW.loop (fun s J q => ∃ (i : Nat) (kv' : Value), s = [(2, pB b2), (3, pB b3), (9, .slice vA X.Kids.length vc), (10, .int .i64 ((X.Kids.length : Nat) : Int)), (11, .int .i64 (i : Int))] ∧ J = St ⟨w, Φ, fps (coK bc kv xs)⟩ Φ [.blk b3 59 (exC X (.slice vA X.Kids.length vc)), .blk b2 156 [pB bc], .blk bc 78 [kv'], .row kv' 56 3 (xs ++ (Vm.cG 0 xs.length (X.Kids.take i)).flatten).length ((xs ++ (Vm.cG 0 xs.length (X.Kids.take i)).flatten).flatMap opC)] ∧ q = X.Kids.length - i ∧ i ≤ X.Kids.length) (s0 := _) (J1 := St ⟨w, Φ, fps (coK bc kv xs)⟩ Φ [.blk b3 59 (exC X (.slice vA X.Kids.length vc)), .blk b2 156 [pB bc], .blk bc 78 [kv], .row kv 56 3 (xs ++ []).length ((xs ++ []).flatMap opC)]) (m0 := _) ⟨0, kv, rfl, by rw [List.take_zero, Vm.cG]; rfl, rfl, Nat.zero_le _⟩ ⟨rfl, rfl, rfl, rfl, rfl, trivial⟩ (fun _ h => by rw [List.append_nil]; exact h) ?_
  rintro _ _ _ _ ⟨i, kv', rfl, rfl, rfl, hi⟩
  obtain ⟨Y, hY⟩ : ∃ Y, Y = xs ++ (Vm.cG 0 xs.length (X.Kids.take i)).flatten := ⟨_, rfl⟩
  have hYl : Y.length = xs.length + (Vm.cG 0 xs.length (X.Kids.take i)).flatten.length := by rw [hY, List.length_append]
  rw [← hY]
  repeat refine gs1 ?_
  refine AW.cond rfl (fun h => ?_) fun h => ?_
  · have h : i < X.Kids.length := by have := odT h; omega
    obtain ⟨Aa, ca, hpa, hra, hwa⟩ := kidW hv (i := i) h
    have hget : X.Kids.getD i default = X.Kids[i] := by rw [gDD, List.getElem?_eq_getElem h]; rfl
    have htk : X.Kids.take (i + 1) = X.Kids.take i ++ [X.Kids.getD i default] := by rw [Ru.take_snoc h, hget]
    have hY2 : Y ++ Vm.cE Y.length (X.Kids.getD i default) = xs ++ (Vm.cG 0 xs.length (X.Kids.take (i + 1))).flatten := by rw [htk, Vm.cG_app, Vm.cG_one, ← hYl, hY, List.append_assoc]
    have hle : Y.length + (Vm.cE Y.length (X.Kids.getD i default)).length ≤ 1000000000 := by
      have h5 := hpre (i + 1)
      have h6 := congrArg List.length hY2
      rw [List.length_append, List.length_append] at h6
      omega
    repeat refine gs1 ?_
    refine RW.alc rfl fun b9 => ?_
    repeat refine gs1 ?_
    refine RW.ownU (args := #[pB bc, .agg (exC (X.Kids.getD i default) (.slice Aa (X.Kids.getD i default).Kids.length ca)).toArray]) (C2 := [.blk b9 59 (exC (X.Kids.getD i default) (.slice Aa (X.Kids.getD i default).Kids.length ca)), .blk b3 59 (exC X (.slice vA X.Kids.length vc)), .blk b2 156 [pB bc]]) [3, 4, 0, 1, 2] (by decide) rfl rfl oK rfl rfl (fun w1 hw1 => hkid h hra hwa w1 kv' Y hle hw1) fun kv2 => ?_
    rw [hY2]
    repeat refine gs1 ?_
    exact Post.back (s' := _) (J' := _) (m' := _) (by omega) ⟨i + 1, kv2, rfl, rfl, rfl, by omega⟩ ⟨rfl, rfl, rfl, rfl, rfl, trivial⟩ (fun _ h => StP.sel h [3, 4, 0, 1] (by decide) rfl)
  have h : i = X.Kids.length := by have := odF h; omega
  subst h
  rw [List.take_length, ← hK] at hY hYl
  repeat refine gs1 ?_
  refine AW.cond rfl (fun k => ?_) fun k14 => ?_
  · have k : X.Kind = 14 := odT k
    rw [if_pos k]
    repeat refine gs1 ?_
    refine RW.ownU (args := #[pB bc, .int .i64 15, .int .i64 X.N, .int .i64 ((X.Kids.length : Nat) : Int)]) (C2 := [.blk b3 59 (exC X (.slice vA X.Kids.length vc)), .blk b2 156 [pB bc]]) [2, 3, 0, 1] (by decide) rfl rfl oK rfl rfl (fun w1 hw1 => emit_c w1 15 X.N ((X.Kids.length : Nat) : Int) (by omega) hw1) fun kv2 => ?_
    repeat refine gs1 ?_
    exact fin_none (J' := St ⟨w, Φ, fps (coK bc kv xs)⟩ Φ (coK bc kv2 (Y ++ [⟨15, X.N, ((X.Kids.length : Nat) : Int)⟩]))) rfl rfl (fun _ h => StP.sel h [0, 1] (by decide) rfl) (fun w1 hw1 => ⟨kv2, rfl, by show StP _ Φ (coK bc kv2 (xs ++ (K ++ [_]))) w1; rw [← List.append_assoc, ← hY]; exact hw1⟩)
  have k14 : X.Kind ≠ 14 := odF k14
  rw [if_neg k14]
  repeat refine gs1 ?_
  refine AW.drawZ (J0 := St ⟨w, Φ, fps (coK bc kv xs)⟩ Φ [.blk b3 59 (exC X (.slice vA X.Kids.length vc)), .blk b2 156 [pB bc]]) [.q, .q, .q, .q, .e] [0, 1, 2, 3, 4] hmix (by kernel_rfl) ?_
  have hBK : ∀ w1, (St ⟨w, Φ, fps (coK bc kv xs)⟩ Φ [.blk b3 59 (exC X (.slice vA X.Kids.length vc)), .blk b2 156 [pB bc], .blk bc 78 [kv'], .row kv' 56 3 Y.length (Y.flatMap opC)]).p w1 → (St ⟨w, Φ, fps (coK bc kv xs)⟩ Φ [.blk b3 59 (exC X (.slice vA X.Kids.length vc)), .blk b2 156 [pB bc]]).p w1 := fun _ h => StP.sel h [0, 1] (by decide) rfl
  refine DW.q hBK rfl (qa_ld rfl (Cell.blk 1 rfl rfl)) ?_
  refine DW.q hBK rfl (qa_fa0 rfl) ?_
  refine DW.q hBK rfl (qa_ld rfl (Cell.blk 0 rfl rfl)) ?_
  refine DW.q hBK rfl (q_call (args := #[.int .i64 X.Kind]) oK rfl rfl (fun w1 _ => operation_c w1 X.Kind)) ?_
  refine DW.ownU (args := #[pB bc, .int .i64 (Vm.opOf X.Kind), .int .i64 0, .int .i64 0]) (C2 := [.blk b3 59 (exC X (.slice vA X.Kids.length vc)), .blk b2 156 [pB bc]]) [2, 3, 0, 1] (by decide) rfl rfl oK rfl rfl (fun w1 hw1 => emit_c w1 (Vm.opOf X.Kind) 0 0 (by omega) hw1) (fun _ _ h => StP.sel h [2, 3] (by decide) rfl) fun kv2 => ?_
  repeat refine gs1 ?_
  exact fin_none (J' := St ⟨w, Φ, fps (coK bc kv xs)⟩ Φ (coK bc kv2 (Y ++ [⟨Vm.opOf X.Kind, 0, 0⟩]))) rfl rfl (fun _ h => StP.sel h [0, 1] (by decide) rfl) (fun w1 hw1 => ⟨kv2, rfl, by show StP _ Φ (coK bc kv2 (xs ++ (K ++ [_]))) w1; rw [← List.append_assoc, ← hY]; exact hw1⟩)
theorem xexpr_c {r : Bt.Rule} : ∀ n, ExN r n
  | 0 => xexpr_of fun m h => by omega
  | n + 1 => xexpr_of fun m h => by
    obtain rfl : n = m := by omega
    exact xexpr_c n
end Go.Proofs.YtjmeeofdffdpnaaGreatDoor
namespace Mn
open Bt
abbrev mx : Int := 9223372036854775807
abbrev mn : Int := -9223372036854775808
def lim (n : Int) : Int := if n < mn then mn else if mx < n then mx else n
def clampI (n lo hi : Int) : Int := if n < lo then lo else if hi < n then hi else n
def atL (l : List Int) (i : Int) : Int := if i < 0 ∨ (l.length : Int) ≤ i then 0 else l.getD i.toNat 0
def bef (y : Int) : Int := 365 * (y - 2000) + (y - 2000 + 3) / 4 - (y - 2000 + 99) / 100 + (y - 2000 + 399) / 400
def leap (y : Int) : Bool := decide (y % 4 = 0) && (decide (y % 100 ≠ 0) || decide (y % 400 = 0))
def months : List Int := [31, 29, 31, 30, 31, 30, 31, 31, 30, 31, 30, 31]
def mlen (y m : Int) : Int := if m = 2 ∧ leap y = false then 28 else months.getD (m - 1).toNat 0
def yearF : Nat → Int → Int → Int
  | 0, _, y => y
  | f + 1, d, y => if bef (y + 1) ≤ d then yearF f d (y + 1) else y
def monF : Nat → Int → Int → Int → Int × Int
  | 0, _, d, m => (d, m)
  | f + 1, y, d, m => if mlen y m ≤ d then monF f y (d - mlen y m) (m + 1) else (d, m)
def ymd (h : Int) : Int × Int × Int :=
  let y := yearF 2000 (h / 24) (2000 + h / 24 / 366)
  let r := monF 12 y (h / 24 - bef y) 1
  (y, r.2, r.1 + 1)
def dateOf (h : Int) : (Int × Int × Int × Int) × Bool :=
  if h < 0 ∨ 16777216 < h then ((0, 0, 0, 0), false) else (((ymd h).1, (ymd h).2.1, (ymd h).2.2, h % 24), true)
end Mn
namespace Go.Proofs.YtjmeeofdffdpnaaGreatDoor
open Go Go.K Go.RowKit
attribute [local irreducible] AW RW DW Post Qt
theorem isType_c (w : World) (Φ : Hp) (hΦ : Hp.le Φ (hp w)) {a : Int} :
  Calls pg 47 #[iV a] w fun e w' => e = .returned (.bool (decide (a = 0) || decide (a = 1))) ∧ Bel w.heap.size w w' := by
 refine calls_of_AW (args := [iV a]) Tryz.func47 rfl (lBT rfl) (St ⟨w, Φ, []⟩ Φ []) (StP.init w Φ hΦ []) ?_
 show AW pg 9 [] _ _ _ [(0, iV a)] _
 refine g12 ?_
 obtain ⟨qb1, hqb1⟩ : ∃ qz : Bool, ((decide (a = 0)) || (decide (a = 1))) = qz := ⟨_, rfl⟩
 refine RW.q (v := .bool qb1) rfl (q_as (v := .bool ((decide (a = 0)) || (decide (a = 1)))) (qpO rfl rfl rfl) (congrArg Value.bool hqb1)) ?_
 refine g1 ?_
 subst hqb1
 refine g3 ?_
 exact fin_val (v' := .bool ((decide (a = 0)) || (decide (a = 1)))) rfl rfl rfl (rfl)
open Ru (pB)
instance : Rep Vm.Op where
  sz := 3
  bytes := 24
  rep := fun _ x cs => cs = opC x ∧ True
  len := fun h => by rw [h.1]; rfl
  mono := fun _ h => h
  one := fun h u hu => by
    rw [h.1] at hu
    simp only [List.mem_cons, List.not_mem_nil, or_false] at hu
    rcases hu with rfl | rfl | rfl <;> rfl
instance : RepE Vm.Op where
  cells := fun x => opC x
  wf := fun _ => True
  iff := Iff.rfl
theorem evenOp : EvenE Vm.Op := fun _ => rfl
theorem eqFO (a b c d e f : Int) (n : Nat) (w : World) : (Op.eqFields (n + 1) #[.int .i64 a, .int .i64 b, .int .i64 c] #[.int .i64 d, .int .i64 e, .int .i64 f] (pg.fieldsOf 56).toList).run pg w = .ok (decide (a = d) && (decide (b = e) && decide (c = f))) w := by
  unfold Program.fieldsOf
  rw [Tryz.underlying56]
  have hp : ∀ {cs : Array Value} {o : Nat} {v : Value} (h : cs[o]? = some v) (w : World), (part 3 cs o).run pg w = .ok v w := fun h w => run_part1 Tryz.underlying3 rfl h w
  have hq : ∀ (x y : Int) (w : World), (Op.equalIn (n + 1) 3 (.int .i64 x) (.int .i64 y)).run pg w = .ok (x == y) w := fun x y w => run_equalIn_int w n 3 .i64 .i64 x y Tryz.underlying3
  simp only [Op.eqFields, ne_eq, String.reduceEq, not_false_eq_true, if_true, Sem.run_bind, hp (show #[Value.int .i64 a, Value.int .i64 b, Value.int .i64 c][0]? = some (.int .i64 a) from rfl), hp (show #[Value.int .i64 d, Value.int .i64 e, Value.int .i64 f][0]? = some (.int .i64 d) from rfl), hp (show #[Value.int .i64 a, Value.int .i64 b, Value.int .i64 c][1]? = some (.int .i64 b) from rfl), hp (show #[Value.int .i64 d, Value.int .i64 e, Value.int .i64 f][1]? = some (.int .i64 e) from rfl), hp (show #[Value.int .i64 a, Value.int .i64 b, Value.int .i64 c][2]? = some (.int .i64 c) from rfl), hp (show #[Value.int .i64 d, Value.int .i64 e, Value.int .i64 f][2]? = some (.int .i64 f) from rfl), hq, Result.andThen_ok, Sem.run_ite, Sem.run_pure]
  by_cases h1 : a = d <;> by_cases h2 : b = e <;> by_cases h3 : c = f <;> simp [h1, h2, h3]
theorem eqSO (x y : Vm.Op) : ∀ w, (Op.equal 56 (.agg (opC x).toArray) (.agg (opC y).toArray)).run pg w = .ok (decide (x = y)) w := fun w => by
  have hT : pg.underlying 56 = some (.struct (pg.fieldsOf 56)) := by unfold Program.fieldsOf; rw [Tryz.underlying56]
  show (Op.equalIn (9998 + 1 + 1) 56 _ _).run pg w = _
  rw [run_equalIn_struct w (9998 + 1) 56 _ _ hT (by kernel_rfl)]
  have e : decide (x = y) = (decide (x.Kind = y.Kind) && (decide (x.A = y.A) && decide (x.B = y.B))) := by
    obtain ⟨a, b, c⟩ := x
    obtain ⟨d, e, f⟩ := y
    rw [Bool.eq_iff_iff]
    simp only [decide_eq_true_eq, Bool.and_eq_true, Vm.Op.mk.injEq]
  rw [e]
  exact eqFO _ _ _ _ _ _ 9998 w
theorem eqGO : Program.eqGuardType pg pg.depth 56 = false := by kernel_rfl
abbrev cdC (v1 v2 v3 : Value) : List Value := [v1, v2, v3]
theorem getD_eq {α : Type} {xs ys : List α} {d : α} (hl : xs.length = ys.length) (h : ∀ j, j < xs.length → xs.getD j d = ys.getD j d) : xs = ys := List.ext_getElem hl fun i h1 h2 => by
  have := h i h1
  rwa [gDD, gDD, List.getElem?_eq_getElem h1, List.getElem?_eq_getElem h2] at this
theorem eqOps_c (w : World) {xs ys : List Vm.Op} {v1 v2 : Value} (h1 : RepSl (hp w) xs v1) (h2 : RepSl (hp w) ys v2) :
    Calls pg 38 #[v1, v2] w fun e w' => e = .returned (.bool (decide (xs = ys))) ∧ Bel w.heap.size w w' := by
  obtain ⟨A1, c1, rfl, _⟩ := h1.sl
  obtain ⟨A2, c2, rfl, _⟩ := h2.sl
  have s1 := h1.sl
  have s2 := h2.sl
  have m1 := h1.max
  simp only [Rep.bytes, maxSl] at m1
  refine calls_of_AW (args := [.slice A1 xs.length c1, .slice A2 ys.length c2]) Tryz.func38 rfl (lBT rfl) (St ⟨w, hp w, []⟩ (hp w) []) (StP.init w (hp w) (Hp.le_refl _) []) ?_
  show AW _ _ [] _ _ _ [(0, .slice A1 xs.length c1), (1, .slice A2 ys.length c2)] _
  repeat refine gs1 ?_
  refine AW.cond rfl (fun h => ?_) fun h => ?_
  · have h : xs ≠ ys := fun he => by simp [he] at h
    repeat refine gs1 ?_
    exact fin_res (vs := [.bool false]) rfl rfl ⟨.tmp rfl, trivial⟩ rfl (fun w' hw => ⟨by rw [decide_eq_false h]; rfl, hw.below rfl⟩)
  have hlen : xs.length = ys.length := by simp at h; omega
  repeat refine gs1 ?_
  refine AW.loop (fun s J q => ∃ i : Nat, s = [(0, .slice A1 xs.length c1), (1, .slice A2 ys.length c2), (12, .int .i64 ((xs.length : Nat) : Int)), (13, .int .i64 (i : Int))] ∧ J = St ⟨w, hp w, []⟩ (hp w) [] ∧ q = xs.length - i ∧ i ≤ xs.length ∧ ∀ j, j < i → xs.getD j default = ys.getD j default) (s0 := _) (J1 := _) (m0 := _) ⟨0, rfl, rfl, rfl, Nat.zero_le _, fun j hj => by omega⟩ ⟨rfl, rfl, rfl, rfl, trivial⟩ (fun _ h => h) ?_
  rintro _ _ _ _ ⟨i, rfl, rfl, rfl, hi, hall⟩
  repeat refine gs1 ?_
  refine AW.cond rfl (fun h => ?_) fun h => ?_
  · have h : i < xs.length := by have := odT h; omega
    have hb : i < ys.length := by omega
    repeat refine gs1 ?_
    refine AW.drawZ (J0 := St ⟨w, hp w, []⟩ (hp w) []) [.q, .q, .q, .q, .q, .q, .q, .q, .q] [0, 1, 2, 3, 4, 5, 6, 7, 8] hmix (by kernel_rfl) ?_
    repeat refine gs1 ?_
    refine DW.q (v := .agg (opC (xs.getD i default)).toArray) (fun _ h => h) rfl (qa_ldA (cs := opC (xs.getD i default)) rfl (Cells.repE h1 h rfl) rfl) ?_
    repeat refine gs1 ?_
    refine DW.q (v := .agg (opC (ys.getD i default)).toArray) (fun _ h => h) rfl (qa_ldA (cs := opC (ys.getD i default)) rfl (Cells.repE h2 hb rfl) rfl) ?_
    refine DW.q (v := .bool (!decide (xs.getD i default = ys.getD i default))) (fun _ h => h) rfl (q_neqS rfl rfl (eqSO _ _) eqGO) ?_
    repeat refine gs1 ?_
    refine AW.cond rfl (fun hc => ?_) fun hc => ?_
    · have hc : xs ≠ ys := fun he => by simp [he] at hc
      repeat refine gs1 ?_
      exact fin_res (vs := [.bool false]) rfl rfl ⟨.tmp rfl, trivial⟩ rfl (fun w' hw => ⟨by rw [decide_eq_false hc]; rfl, hw.below rfl⟩)
    · have hc : xs.getD i default = ys.getD i default := by simpa using hc
      repeat refine gs1 ?_
      exact Post.back (s' := _) (J' := _) (m' := _) (by omega) ⟨i + 1, rfl, rfl, rfl, by omega, fun j hj => by
        by_cases hji : j = i
        · subst hji; exact hc
        · exact hall j (by omega)⟩ ⟨rfl, rfl, rfl, rfl, trivial⟩ (fun _ h => h)
  · have h : i = xs.length := by have := odF h; omega
    subst h
    repeat refine gs1 ?_
    exact fin_res (vs := [.bool true]) rfl rfl ⟨.tmp rfl, trivial⟩ rfl (fun w' hw => ⟨by rw [decide_eq_true (getD_eq hlen hall)]; rfl, hw.below rfl⟩)
theorem code_eq {a b : Vm.Code} : decide (a = b) = (decide (a.Ops = b.Ops) && decide (a.Funcs = b.Funcs) && decide (a.Starts = b.Starts)) := by
  obtain ⟨x, y, z⟩ := a
  obtain ⟨x2, y2, z2⟩ := b
  rw [Bool.eq_iff_iff]
  simp only [decide_eq_true_eq, Bool.and_eq_true, Vm.Code.mk.injEq, and_assoc]
end Go.Proofs.YtjmeeofdffdpnaaGreatDoor
namespace Ru
def fidx (p : Int → Bool) (xs : List Int) : Int := match xs.findIdx? p with | some i => i | none => -1
theorem fidx_pos {p : Int → Bool} {xs : List Int} : decide (0 ≤ fidx p xs) = xs.any p := by
 unfold fidx
 cases h : xs.findIdx? p with
 | none =>
  have : ∀ x ∈ xs, p x = false := List.findIdx?_eq_none_iff.1 h
  simp only
  rw [show xs.any p = false from List.any_eq_false.2 fun x hx => by rw [this x hx]; simp]
  rfl
 | some i =>
  obtain ⟨h1, h2, _⟩ := List.findIdx?_eq_some_iff_getElem.1 h
  simp only
  rw [show xs.any p = true from List.any_eq_true.2 ⟨_, List.getElem_mem h1, h2⟩]
  exact decide_eq_true (by omega)
theorem fidx_at {p : Int → Bool} {xs : List Int} {i : Nat} (hi : i < xs.length) (hn : (xs.take i).any p = false) (hy : p (xs.getD i 0) = true) : fidx p xs = i := by
 unfold fidx
 have : xs.findIdx? p = some i := by
  rw [List.findIdx?_eq_some_iff_getElem]
  refine ⟨hi, by rwa [gDD, List.getElem?_eq_getElem hi] at hy, fun j hj => ?_⟩
  have := List.any_eq_false.1 hn xs[j] (by rw [List.mem_take_iff_getElem]; exact ⟨j, by omega, rfl⟩)
  simpa using this
 rw [this]
theorem fidx_no {p : Int → Bool} {xs : List Int} (hn : xs.any p = false) : fidx p xs = -1 := by
 unfold fidx
 have : xs.findIdx? p = none := List.findIdx?_eq_none_iff.2 fun x hx => by simpa using List.any_eq_false.1 hn x hx
 rw [this]
def seenM (l : List (List UInt8)) (k : List UInt8) : Option Bool := if l.contains k = true then some true else none
theorem seenM_get (l : List (List UInt8)) (k : List UInt8) : (seenM l k).getD false = l.contains k := by
 unfold seenM
 split <;> simp_all
theorem seenM_put (l : List (List UInt8)) (a : List UInt8) : (fun j => if j = a then some true else seenM l j) = seenM (l ++ [a]) := by
 funext j
 unfold seenM
 by_cases h : j = a
 ·
  subst h; simp
 ·
  simp [h]
theorem jhead_cut {seen : List (List UInt8)} {xs ys : List Bt.RFunc} : jhead seen (xs ++ ys) = (jhead seen xs && jhead (seen ++ xs.map (·.Name)) ys) := by
 induction xs generalizing seen with
 | nil => simp [jhead]
 | cons x xs ih => simp only [List.cons_append, jhead, ih, List.map_cons, List.append_assoc, List.nil_append, Bool.and_assoc]
end Ru
namespace Go.Proofs.YtjmeeofdffdpnaaGreatDoor
open Go Go.K Go.RowKit
open Ru (pB NmS BasV)
attribute [local irreducible] AW RW DW Post Qt
theorem rclo1_c (w : World) {bb : Nat} {b : BasV} {ns : List (List UInt8)} (hb : hp w bb = some (.cells b.cs.toArray 31 (0, 0))) (hn : NmS (hp w) b.pv 12 ns) (i : Nat) (hi : i < ns.length) :
  Calls pg 41 #[iV (i : Int), pB bb] w fun e w' => e = .returned (.string (bs ns[i])) ∧ Bel w.heap.size w w' := by
 refine calls_of_AW (args := [iV (i : Int), pB bb]) Tryz.func41 rfl (lBT rfl) (St ⟨w, hp w, []⟩ (hp w) []) (StP.init w (hp w) (Hp.le_refl _) []) ?_
 show AW _ _ [] _ _ _ [(0, iV (i : Int)), (1, pB bb)] _
 have hsl := hn.sl
 have h1 : PCell (hp w) ⟨bb, 3, none⟩ b.pv := PCell.blk hb rfl
 have h2 := hn.at_ i hi
 repeat refine gs1 ?_
 exact fin_res (vs := [.string (bs ns[i])]) rfl rfl ⟨.tmp rfl, trivial⟩ rfl (fun w' hw => ⟨rfl, hw.below rfl⟩)
theorem rclo2_c (w : World) {bb : Nat} {b : BasV} {ns : List (List UInt8)} (hb : hp w bb = some (.cells b.cs.toArray 31 (0, 0))) (hn : NmS (hp w) b.ov 1 ns) (i : Nat) (hi : i < ns.length) :
  Calls pg 42 #[iV (i : Int), pB bb] w fun e w' => e = .returned (.string (bs ns[i])) ∧ Bel w.heap.size w w' := by
 refine calls_of_AW (args := [iV (i : Int), pB bb]) Tryz.func42 rfl (lBT rfl) (St ⟨w, hp w, []⟩ (hp w) []) (StP.init w (hp w) (Hp.le_refl _) []) ?_
 show AW _ _ [] _ _ _ [(0, iV (i : Int)), (1, pB bb)] _
 have hsl := hn.sl
 have h1 : PCell (hp w) ⟨bb, 1, none⟩ b.ov := PCell.blk hb rfl
 have h2 := hn.at_ i hi
 repeat refine gs1 ?_
 exact fin_res (vs := [.string (bs ns[i])]) rfl rfl ⟨.tmp rfl, trivial⟩ rfl (fun w' hw => ⟨rfl, hw.below rfl⟩)
theorem rclo3_c (w : World) {bb : Nat} {b : BasV} {ns : List (List UInt8)} (hb : hp w bb = some (.cells b.cs.toArray 31 (0, 0))) (hn : NmS (hp w) b.lv 18 ns) (i : Nat) (hi : i < ns.length) :
  Calls pg 43 #[iV (i : Int), pB bb] w fun e w' => e = .returned (.string (bs ns[i])) ∧ Bel w.heap.size w w' := by
 refine calls_of_AW (args := [iV (i : Int), pB bb]) Tryz.func43 rfl (lBT rfl) (St ⟨w, hp w, []⟩ (hp w) []) (StP.init w (hp w) (Hp.le_refl _) []) ?_
 show AW _ _ [] _ _ _ [(0, iV (i : Int)), (1, pB bb)] _
 have hsl := hn.sl
 have h1 : PCell (hp w) ⟨bb, 4, none⟩ b.lv := PCell.blk hb rfl
 have h2 := hn.at_ i hi
 repeat refine gs1 ?_
 exact fin_res (vs := [.string (bs ns[i])]) rfl rfl ⟨.tmp rfl, trivial⟩ rfl (fun w' hw => ⟨rfl, hw.below rfl⟩)
theorem rclo4_c (w : World) {bb : Nat} {b : BasV} {ns : List (List UInt8)} (hb : hp w bb = some (.cells b.cs.toArray 31 (0, 0))) (hn : NmS (hp w) b.tv 7 ns) (i : Nat) (hi : i < ns.length) :
  Calls pg 44 #[iV (i : Int), pB bb] w fun e w' => e = .returned (.string (bs ns[i])) ∧ Bel w.heap.size w w' := by
 refine calls_of_AW (args := [iV (i : Int), pB bb]) Tryz.func44 rfl (lBT rfl) (St ⟨w, hp w, []⟩ (hp w) []) (StP.init w (hp w) (Hp.le_refl _) []) ?_
 show AW _ _ [] _ _ _ [(0, iV (i : Int)), (1, pB bb)] _
 have hsl := hn.sl
 have h1 : PCell (hp w) ⟨bb, 5, none⟩ b.tv := PCell.blk hb rfl
 have h2 := hn.at_ i hi
 repeat refine gs1 ?_
 exact fin_res (vs := [.string (bs ns[i])]) rfl rfl ⟨.tmp rfl, trivial⟩ rfl (fun w' hw => ⟨rfl, hw.below rfl⟩)
theorem idxF_c (w : World) {Φ : Hp} (hΦ : Hp.le Φ (hp w)) {xs : List Int} {v : Value} {k : Nat} {p : Int → Bool} (hk : Go.K.Own pg k) (hp : ∀ (w : World) (a : Int), Calls pg k #[iV a] w fun e w' => e = .returned (.bool (p a)) ∧ Bel w.heap.size w w') (hx : RepSl Φ xs v) :
  Calls pg 104 #[v, .func (.func k) #[] #[]] w fun e w' => e = .returned (iV (Ru.fidx p xs)) ∧ Bel w.heap.size w w' := by
 refine calls_of_AW (args := [v, .func (.func k) #[] #[]]) Tryz.func104 rfl (lBT rfl) (St ⟨w, Φ, []⟩ Φ []) (StP.init w Φ hΦ []) ?_
 show AW _ _ [] _ _ _ [(0, v), (1, .func (.func k) #[] #[])] _
 have hsl := hx.sl
 have hxb : xs.length * 8 ≤ maxSl := hx.max
 simp only [maxSl] at hxb
 repeat refine gs1 ?_
 refine AW.loop (fun s J q => ∃ i : Nat, s = [(0, v), (1, .func (.func k) #[] #[]), (7, iV (xs.length : Int)), (8, iV (i : Int))] ∧ J = St ⟨w, Φ, []⟩ Φ [] ∧ q = xs.length - i ∧ i ≤ xs.length ∧ (xs.take i).any p = false) (s0 := _) (J1 := _) (m0 := _) ⟨0, rfl, rfl, rfl, Nat.zero_le _, rfl⟩ ⟨rfl, rfl, rfl, rfl, trivial⟩ (fun _ h => h) ?_
 rintro _ _ _ _ ⟨i, rfl, rfl, rfl, hi, hany⟩
 repeat refine gs1 ?_
 refine AW.cond rfl (fun h => ?_) fun h => ?_
 ·
  have h : i < xs.length := by have := odT h; omega
  have pe := RepSl.gi' hx h
  repeat refine gs1 ?_
  refine RW.q rfl (q_call (args := #[iV (xs.getD i 0)]) hk rfl rfl (fun w1 hw1 => hp w1 _)) ?_
  repeat refine gs1 ?_
  refine AW.cond rfl (fun h2 => ?_) fun h2 => ?_
  ·
   repeat refine gs1 ?_
   exact fin_res (vs := [iV (i : Int)]) rfl rfl ⟨.tmp rfl, trivial⟩ rfl (fun w' hw => ⟨by rw [Ru.fidx_at h hany h2]; rfl, hw.below rfl⟩)
  ·
   repeat refine gs1 ?_
   exact Post.back (s' := _) (J' := _) (m' := _) (by omega) ⟨i + 1, rfl, rfl, rfl, by omega, by rw [Ru.take_snoc h, List.any_append, hany]; rw [gDD, List.getElem?_eq_getElem h] at h2; simpa using h2⟩ ⟨rfl, rfl, rfl, rfl, trivial⟩ (fun _ h => h)
 ·
  have h : i = xs.length := by have := odF h; omega
  subst h
  rw [List.take_length] at hany
  repeat refine gs1 ?_
  exact fin_res (vs := [iV (-1)]) rfl rfl ⟨.tmp rfl, trivial⟩ rfl (fun w' hw => ⟨by rw [Ru.fidx_no hany]; rfl, hw.below rfl⟩)
theorem notTy_c (w : World) (a : Int) : Calls pg 49 #[iV a] w fun e w' => e = .returned (.bool (!(decide (a = 0) || decide (a = 1)))) ∧ Bel w.heap.size w w' := by
 refine calls_of_AW (args := [iV a]) Tryz.func49 rfl (lBT rfl) (St ⟨w, hp w, []⟩ (hp w) []) (StP.init w (hp w) (Hp.le_refl _) []) ?_
 show AW _ _ [] _ _ _ [(0, iV a)] _
 repeat refine gs1 ?_
 refine RW.q rfl (q_call (args := #[iV a]) oK rfl rfl (fun w1 hw1 => isType_c w1 (hp w1) (Hp.le_refl _))) ?_
 repeat refine gs1 ?_
 exact fin_res (vs := [.bool (!(decide (a = 0) || decide (a = 1)))]) rfl rfl ⟨.tmp rfl, trivial⟩ rfl (fun w' hw => ⟨rfl, hw.below rfl⟩)
theorem contF_c (w : World) {Φ : Hp} (hΦ : Hp.le Φ (hp w)) {xs : List Int} {v : Value} (hx : RepSl Φ xs v) :
  Calls pg 48 #[v, .func (.func 49) #[] #[]] w fun e w' => e = .returned (.bool (xs.any fun a => !(decide (a = 0) || decide (a = 1)))) ∧ Bel w.heap.size w w' := by
 refine calls_of_AW (args := [v, .func (.func 49) #[] #[]]) Tryz.func48 rfl (lBT rfl) (St ⟨w, Φ, []⟩ Φ []) (StP.init w Φ hΦ []) ?_
 show AW _ _ [] _ _ _ [(0, v), (1, .func (.func 49) #[] #[])] _
 repeat refine gs1 ?_
 refine RW.q rfl (q_call (args := #[v, .func (.func 49) #[] #[]]) oK rfl rfl (fun w1 hw1 => idxF_c w1 hw1.phi oK notTy_c hx)) ?_
 repeat refine gs1 ?_
 exact fin_res (vs := [.bool (decide (0 ≤ Ru.fidx (fun a => !(decide (a = 0) || decide (a = 1))) xs))]) rfl rfl ⟨.tmp rfl, trivial⟩ rfl (fun w' hw => ⟨by rw [Ru.fidx_pos]; rfl, hw.below rfl⟩)
theorem jhas_c (w : World) {Φ : Hp} (hΦ : Hp.le Φ (hp w)) {e : Ru.Env} {fs : List Bt.RFunc} {fv : Value} {m1 m2 m3 m4 : Nat} (hJ : JC Φ e fs fv m1 m2 m3 m4) {X : Bt.Expr} {v : Value} (hX : wfE X) (hv : RepSl Φ X.Kids v) {ts : List Int} {pv : Value} (hpv : RepSl Φ ts pv) {k : Int} :
  Calls pg 50 #[.agg (jC fv m1 m2 m3 m4).toArray, .agg (exC X v).toArray, pv, iV k] w fun e' w' => e' = .returned (.bool (Ru.jhas e fs ts X k)) ∧ Bel w.heap.size w w' := by
 obtain ⟨vA, vc, rfl, _⟩ := hv.sl
 obtain ⟨fA, fc, rfl, _⟩ := hJ.f.sl
 refine calls_of_AW (args := [.agg (jC (.slice fA fs.length fc) m1 m2 m3 m4).toArray, .agg (exC X (.slice vA X.Kids.length vc)).toArray, pv, iV k]) Tryz.func50 rfl (lBT rfl) (St ⟨w, Φ, []⟩ Φ []) (StP.init w Φ hΦ []) ?_
 show AW _ _ [] _ _ _ [(0, .agg (jC (.slice fA fs.length fc) m1 m2 m3 m4).toArray), (1, .agg (exC X (.slice vA X.Kids.length vc)).toArray), (2, pv), (3, iV k)] _
 repeat refine gs1 ?_
 refine RW.bxA (cs := jC (.slice fA fs.length fc) m1 m2 m3 m4) rfl rfl fun b4 => ?_
 refine RW.bxA (cs := exC X (.slice vA X.Kids.length vc)) rfl rfl fun b5 => ?_
 repeat refine gs1 ?_
 refine RW.q rfl (q_call (args := #[.agg (jC (.slice fA fs.length fc) m1 m2 m3 m4).toArray, .agg (exC X (.slice vA X.Kids.length vc)).toArray, pv, iV 1]) oK rfl rfl (fun w1 hw1 => jexpr_c 40 w1 Φ X _ ts pv 1 hw1.phi hJ hX hv hpv (by omega) (by omega))) ?_
 repeat refine gs1 ?_
 refine RW.q (v := .bool (Ru.jhas e fs ts X k)) rfl (qpA rfl rfl rfl) ?_
 repeat refine gs1 ?_
 exact fin_res (vs := [.bool (Ru.jhas e fs ts X k)]) rfl rfl ⟨.tmp rfl, trivial⟩ rfl (fun w' hw => ⟨rfl, hw.below rfl⟩)
end Go.Proofs.YtjmeeofdffdpnaaGreatDoor
