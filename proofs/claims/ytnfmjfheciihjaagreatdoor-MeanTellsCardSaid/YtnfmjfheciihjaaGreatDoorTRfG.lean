/- Lemmas. Conditions: those of each theorem. -/
import Derived.Test.YtnfmjfheciihjaaGreatDoorTRfP
set_option maxRecDepth 8000
set_option maxHeartbeats 16000000
namespace Ru
open Bt
theorem map_gd {f : Expr → Int} {xs : List Expr} {i : Nat} (h : i < xs.length) : (xs.map f).getD i 0 = f (xs.getD i default) := by
  rw [gDD, List.getElem?_map, List.getElem?_eq_getElem h, gDD, List.getElem?_eq_getElem h]; rfl
theorem gd_mem {xs : List Expr} {i : Nat} (h : i < xs.length) : xs.getD i default ∈ xs := by
  rw [gDD, List.getElem?_eq_getElem h]; exact List.getElem_mem h
variable {e : Env} {fs : List RFunc} {np : Int} {x : Expr} {n : Nat}
theorem kn_c (h : kidsN e fs np x = (n : Int)) : ¬ (x.Kind ≠ 1 ∧ (x.Of ≠ 0 ∨ x.Of2 ≠ 0)) := fun hc => by
  unfold kidsN at h; rw [if_pos hc] at h; omega
theorem kn_14 (h : kidsN e fs np x = (n : Int)) (k : x.Kind = 14) : 0 ≤ x.N ∧ x.N < fs.length ∧ n = (fs.getD x.N.toNat default).Params.length := by
  have c := kn_c h
  unfold kidsN at h
  rw [if_neg c, if_neg (by omega), if_neg (by omega), if_neg (by omega), if_pos k] at h
  split at h
  · rename_i hh; exact ⟨hh.1, hh.2, by omega⟩
  · omega
theorem kn_13 (h : kidsN e fs np x = (n : Int)) (k : x.Kind = 13) : n = 3 := by
  have c := kn_c h
  unfold kidsN at h
  rw [if_neg c, if_neg (by omega), if_neg (by omega), if_neg (by omega), if_neg (by omega)] at h
  split at h
  · omega
  · first | omega | (rw [if_neg (by omega), if_pos k] at h; omega)
end Ru
namespace Go.Proofs.YtnfmjfheciihjaaGreatDoor
open Go Go.K Go.RowKit
open Ru (pB NmS BasV BigE)
attribute [local irreducible] AW RW DW Post Qt
theorem fKind_c : ∀ (j : Nat) (w : World) {Φ : Hp} (_ : Hp.le Φ (hp w)) {e : Ru.Env} {fs : List Bt.RFunc} {fv cv : Value} (_ : RepSl Φ fs fv) {cn : Nat} (_ : IsSl cv cn) {X : Bt.Expr} {v : Value} (_ : RepSl Φ X.Kids v) {ts : List Int} {tv : Value} (_ : RepSl Φ ts tv), (Ru.jx e fs ts j X).2 = true →
    Calls pg 54 #[.agg #[fv, cv], .agg (exC X v).toArray, tv] w fun e' w' => e' = .returned (.int .i64 (Ru.jx e fs ts j X).1) ∧ Bel w.heap.size w w'
  | 0, w, Φ, hΦ, e, fs, fv, cv, hf, cn, hc, X, v, hv, ts, tv, ht, h => by rw [Ru.jx_zero] at h; cases h
  | j + 1, w, Φ, hΦ, e, fs, fv, cv, hf, cn, hc, X, v, hv, ts, tv, ht, h => by
    have hn := Ru.jx_node h
    have hkid := Ru.jx_kid h
    have hV := Ru.jx_v h
    unfold Ru.kindV at hV
    rw [hV]
    have hfs := hf.sl
    have hts := ht.sl
    have hvs := hv.sl
    obtain ⟨fA, fc, rfl, _⟩ := hf.sl
    have hc0 := hc
    obtain ⟨cA, cc, rfl, _⟩ := hc
    obtain ⟨vA, vc, rfl, _⟩ := hv.sl
    obtain ⟨tA, tc, rfl, _⟩ := ht.sl
    refine calls_of_AW (args := [.agg #[.slice fA fs.length fc, .slice cA cn cc], .agg (exC X (.slice vA X.Kids.length vc)).toArray, .slice tA ts.length tc]) Tryz.func54 rfl (lBT rfl) (St ⟨w, Φ, []⟩ Φ []) (StP.init w Φ hΦ []) ?_
    show AW _ _ [] _ _ _ [(0, .agg #[.slice fA fs.length fc, .slice cA cn cc]), (1, .agg (exC X (.slice vA X.Kids.length vc)).toArray), (2, .slice tA ts.length tc)] _
    repeat refine gs1 ?_
    refine RW.bxA (cs := [.slice fA fs.length fc, .slice cA cn cc]) rfl rfl fun b3 => ?_
    refine RW.bxA (cs := exC X (.slice vA X.Kids.length vc)) rfl rfl fun b4 => ?_
    repeat refine gs1 ?_
    refine AW.cond rfl (fun k => ?_) fun k15 => ?_
    · have k : X.Kind = 15 := odT k
      rw [if_pos k]
      have h15 := hn.k15 k
      obtain ⟨m, hm⟩ : ∃ m : Nat, X.N = m := ⟨X.N.toNat, by omega⟩
      have hml : m < ts.length := by omega
      have pe := RepSl.gi' ht hml
      repeat refine gs1 ?_
      refine RW.q (v := .pointer (some (Value.at (.slice tA ts.length tc) (m * 1)))) rfl (qa_ixN (n := ts.length) (i := m) rfl (by show Value.int .i64 X.N = _; rw [hm]) hts hml) ?_
      repeat refine gs1 ?_
      exact fin_res (vs := [.int .i64 (ts.getD m 0)]) rfl rfl ⟨.tmp rfl, trivial⟩ rfl (fun w' hw => ⟨by rw [hm, Int.toNat_natCast]; rfl, hw.below rfl⟩)
    have k15 : X.Kind ≠ 15 := odF k15
    rw [if_neg k15]
    repeat refine gs1 ?_
    refine AW.cond rfl (fun k => ?_) fun k14 => ?_
    · have k : X.Kind = 14 := odT k
      rw [if_pos k]
      have h14 := hn.k14 k
      obtain ⟨m, hm⟩ : ∃ m : Nat, X.N = m := ⟨X.N.toNat, by omega⟩
      have hml : m < fs.length := by omega
      obtain ⟨qv, Ab, cb, hpb, _⟩ := funW hf hml
      have pr : PCell Φ (Value.at (.slice fA fs.length fc) (m * 8 + 2)) (.int .i64 (fs.getD m default).Result) := by have := hpb 2 _ rfl; rwa [at_add] at this
      clear hpb
      repeat refine gs1 ?_
      refine RW.q (v := .pointer (some (Value.at (.slice fA fs.length fc) (m * 8)))) rfl (qa_ixN (n := fs.length) (i := m) rfl (by show Value.int .i64 X.N = _; rw [hm]) hfs hml) ?_
      repeat refine gs1 ?_
      exact fin_res (vs := [.int .i64 (fs.getD m default).Result]) rfl rfl ⟨.tmp rfl, trivial⟩ rfl (fun w' hw => ⟨by rw [hm, Int.toNat_natCast]; rfl, hw.below rfl⟩)
    have k14 : X.Kind ≠ 14 := odF k14
    rw [if_neg k14]
    repeat refine gs1 ?_
    refine AW.cond rfl (fun k => ?_) fun k13 => ?_
    · have k : X.Kind = 13 := odT k
      have hl : 1 < X.Kids.length := by have := hn.a3 k; omega
      rw [if_pos k, Ru.map_gd hl]
      obtain ⟨Aa, ca, hpa, hra⟩ := kidV hv (i := 1) hl
      repeat refine gs1 ?_
      refine AW.drawZ (J0 := St ⟨w, Φ, []⟩ Φ [.blk b4 69 (exC X (.slice vA X.Kids.length vc)), .blk b3 35 [.slice fA fs.length fc, .slice cA cn cc]]) [.q, .q, .q, .q, .q, .q, .q, .q] [0, 1, 2, 3, 4, 5, 6, 7] hmix (by kernel_rfl) ?_
      repeat refine gs1 ?_
      refine DW.q (v := .int .i64 (Ru.jx e fs ts j (X.Kids.getD 1 default)).1) (fun _ h => h) rfl (q_call (args := #[.agg #[.slice fA fs.length fc, .slice cA cn cc], .agg (exC (X.Kids.getD 1 default) (.slice Aa (X.Kids.getD 1 default).Kids.length ca)).toArray, .slice tA ts.length tc]) oK rfl rfl (fun w1 hw1 => fKind_c j w1 hw1.phi hf hc0 hra ht (hkid _ (Ru.gd_mem hl)))) ?_
      repeat refine gs1 ?_
      exact fin_res (vs := [.int .i64 (Ru.jx e fs ts j (X.Kids.getD 1 default)).1]) rfl rfl ⟨.tmp rfl, trivial⟩ rfl (fun w' hw => ⟨rfl, hw.below rfl⟩)
    have k13 : X.Kind ≠ 13 := odF k13
    rw [if_neg k13]
    repeat refine gs1 ?_
    refine AW.orCh (kd := .i64) (t := 34) (x := 8) (a := X.Kind) rfl rfl _ rfl rfl rfl rfl fun f1 => ?_
    repeat refine gs1 ?_
    have e2 : (decide (X.Kind = 3) || [((8 : Int), 36), (9, 37), (10, 38), (11, 39), (12, 40)].any fun p => decide (X.Kind = p.1)) = decide (X.Kind = 3 ∨ X.Kind = 8 ∨ X.Kind = 9 ∨ X.Kind = 10 ∨ X.Kind = 11 ∨ X.Kind = 12) := by simp
    refine AW.cond rfl (fun k => ?_) fun k => ?_
    · rw [if_pos (odT (e2.symm.trans k))]
      repeat refine gs1 ?_
      exact fin_res (vs := [.int .i64 1]) rfl rfl ⟨.tmp rfl, trivial⟩ rfl (fun w' hw => ⟨rfl, hw.below rfl⟩)
    rw [if_neg (odF (e2.symm.trans k))]
    repeat refine gs1 ?_
    exact fin_res (vs := [.int .i64 0]) rfl rfl ⟨.tmp rfl, trivial⟩ rfl (fun w' hw => ⟨rfl, hw.below rfl⟩)
theorem fWant_c (j : Nat) (w : World) {Φ : Hp} (hΦ : Hp.le Φ (hp w)) {e : Ru.Env} {fs : List Bt.RFunc} {fv cv : Value} (hf : RepSl Φ fs fv) {cn : Nat} (hc : IsSl cv cn) {X : Bt.Expr} {v : Value} (hv : RepSl Φ X.Kids v) {ts : List Int} {tv : Value} (ht : RepSl Φ ts tv) (hN : Ru.kidsN e fs ts.length X = (X.Kids.length : Int)) (hkid : ∀ y ∈ X.Kids, (Ru.jx e fs ts j y).2 = true) {i : Nat} (hi : i < X.Kids.length) :
    Calls pg 84 #[.agg #[fv, cv], .agg (exC X v).toArray, .int .i64 (i : Int), tv] w fun e' w' => e' = .returned (.int .i64 (Ru.wantV fs X (X.Kids.map fun y => (Ru.jx e fs ts j y).1) i)) ∧ Bel w.heap.size w w' := by
  have hfs := hf.sl
  have hts := ht.sl
  have hvs := hv.sl
  obtain ⟨fA, fc, rfl, _⟩ := hf.sl
  have hc0 := hc
  obtain ⟨cA, cc, rfl, _⟩ := hc
  obtain ⟨vA, vc, rfl, _⟩ := hv.sl
  obtain ⟨tA, tc, rfl, _⟩ := ht.sl
  unfold Ru.wantV
  refine calls_of_AW (args := [.agg #[.slice fA fs.length fc, .slice cA cn cc], .agg (exC X (.slice vA X.Kids.length vc)).toArray, .int .i64 (i : Int), .slice tA ts.length tc]) Tryz.func84 rfl (lBT rfl) (St ⟨w, Φ, []⟩ Φ []) (StP.init w Φ hΦ []) ?_
  show AW _ _ [] _ _ _ [(0, .agg #[.slice fA fs.length fc, .slice cA cn cc]), (1, .agg (exC X (.slice vA X.Kids.length vc)).toArray), (2, .int .i64 (i : Int)), (3, .slice tA ts.length tc)] _
  repeat refine gs1 ?_
  refine RW.bxA (cs := [.slice fA fs.length fc, .slice cA cn cc]) rfl rfl fun b4 => ?_
  refine RW.bxA (cs := exC X (.slice vA X.Kids.length vc)) rfl rfl fun b5 => ?_
  repeat refine gs1 ?_
  refine AW.orCh (kd := .i64) (t := 11) (x := 10) (a := X.Kind) rfl rfl _ rfl rfl rfl rfl fun f1 => ?_
  repeat refine gs1 ?_
  have e2 : (decide (X.Kind = 3) || [((11 : Int), 13), (12, 14)].any fun p => decide (X.Kind = p.1)) = decide (X.Kind = 3 ∨ X.Kind = 11 ∨ X.Kind = 12) := by simp
  refine AW.cond rfl (fun k => ?_) fun k => ?_
  · rw [if_pos (odT (e2.symm.trans k))]
    repeat refine gs1 ?_
    exact fin_res (vs := [.int .i64 1]) rfl rfl ⟨.tmp rfl, trivial⟩ rfl (fun w' hw => ⟨rfl, hw.below rfl⟩)
  rw [if_neg (odF (e2.symm.trans k))]
  repeat refine gs1 ?_
  refine AW.cond rfl (fun k => ?_) fun k14 => ?_
  · have k : X.Kind = 14 := odT k
    rw [if_pos k]
    have h14 := Ru.kn_14 hN k
    obtain ⟨m, hm⟩ : ∃ m : Nat, X.N = m := ⟨X.N.toNat, by omega⟩
    have hml : m < fs.length := by omega
    obtain ⟨qv, Ab, cb, hpb, hqv, _⟩ := funW hf hml
    have pp : PCell Φ (Value.at (.slice fA fs.length fc) (m * 8 + 1)) qv := by have := hpb 1 _ rfl; rwa [at_add] at this
    have hqs := hqv.sl
    have hil : i < (fs.getD m default).Params.length := by have := h14.2.2; rw [hm, Int.toNat_natCast] at this; omega
    have pe := RepSl.gi' hqv hil
    clear hpb
    repeat refine gs1 ?_
    refine RW.q (v := .pointer (some (Value.at (.slice fA fs.length fc) (m * 8)))) rfl (qa_ixN (n := fs.length) (i := m) rfl (by show Value.int .i64 X.N = _; rw [hm]) hfs hml) ?_
    repeat refine gs1 ?_
    exact fin_res (vs := [.int .i64 ((fs.getD m default).Params.getD i 0)]) rfl rfl ⟨.tmp rfl, trivial⟩ rfl (fun w' hw => ⟨by rw [hm, Int.toNat_natCast]; rfl, hw.below rfl⟩)
  rw [if_neg (odF k14)]
  repeat refine gs1 ?_
  refine AW.cond rfl (fun k => ?_) fun k10 => ?_
  · have k : X.Kind = 10 := odT k
    have hl : 0 < X.Kids.length := by omega
    rw [if_pos k, Ru.map_gd hl]
    obtain ⟨Aa, ca, hpa, hra⟩ := kidV hv (i := 0) hl
    repeat refine gs1 ?_
    refine AW.drawZ (J0 := St ⟨w, Φ, []⟩ Φ [.blk b5 69 (exC X (.slice vA X.Kids.length vc)), .blk b4 35 [.slice fA fs.length fc, .slice cA cn cc]]) [.q, .q, .q, .q, .q, .q, .q, .q] [0, 1, 2, 3, 4, 5, 6, 7] hmix (by kernel_rfl) ?_
    repeat refine gs1 ?_
    refine DW.q (v := .int .i64 (Ru.jx e fs ts j (X.Kids.getD 0 default)).1) (fun _ h => h) rfl (q_call (args := #[.agg #[.slice fA fs.length fc, .slice cA cn cc], .agg (exC (X.Kids.getD 0 default) (.slice Aa (X.Kids.getD 0 default).Kids.length ca)).toArray, .slice tA ts.length tc]) oK rfl rfl (fun w1 hw1 => fKind_c j w1 hw1.phi hf hc0 hra ht (hkid _ (Ru.gd_mem hl)))) ?_
    repeat refine gs1 ?_
    exact fin_res (vs := [.int .i64 (Ru.jx e fs ts j (X.Kids.getD 0 default)).1]) rfl rfl ⟨.tmp rfl, trivial⟩ rfl (fun w' hw => ⟨rfl, hw.below rfl⟩)
  rw [if_neg (odF k10)]
  repeat refine gs1 ?_
  refine AW.cond rfl (fun k => ?_) fun k13 => ?_
  · have k : X.Kind = 13 := odT k
    have hl : 1 < X.Kids.length := by have := Ru.kn_13 hN k; omega
    rw [if_pos k, Ru.map_gd hl]
    repeat refine gs1 ?_
    refine AW.cond rfl (fun c => ?_) fun c => ?_
    · have c : i = 0 := by have := odT c; omega
      rw [if_pos c]
      repeat refine gs1 ?_
      exact fin_res (vs := [.int .i64 1]) rfl rfl ⟨.tmp rfl, trivial⟩ rfl (fun w' hw => ⟨rfl, hw.below rfl⟩)
    rw [if_neg (show ¬ i = 0 by have := odF c; omega)]
    obtain ⟨Aa, ca, hpa, hra⟩ := kidV hv (i := 1) hl
    repeat refine gs1 ?_
    refine AW.drawZ (J0 := St ⟨w, Φ, []⟩ Φ [.blk b5 69 (exC X (.slice vA X.Kids.length vc)), .blk b4 35 [.slice fA fs.length fc, .slice cA cn cc]]) [.q, .q, .q, .q, .q, .q, .q, .q] [0, 1, 2, 3, 4, 5, 6, 7] hmix (by kernel_rfl) ?_
    repeat refine gs1 ?_
    refine DW.q (v := .int .i64 (Ru.jx e fs ts j (X.Kids.getD 1 default)).1) (fun _ h => h) rfl (q_call (args := #[.agg #[.slice fA fs.length fc, .slice cA cn cc], .agg (exC (X.Kids.getD 1 default) (.slice Aa (X.Kids.getD 1 default).Kids.length ca)).toArray, .slice tA ts.length tc]) oK rfl rfl (fun w1 hw1 => fKind_c j w1 hw1.phi hf hc0 hra ht (hkid _ (Ru.gd_mem hl)))) ?_
    repeat refine gs1 ?_
    exact fin_res (vs := [.int .i64 (Ru.jx e fs ts j (X.Kids.getD 1 default)).1]) rfl rfl ⟨.tmp rfl, trivial⟩ rfl (fun w' hw => ⟨rfl, hw.below rfl⟩)
  rw [if_neg (odF k13)]
  repeat refine gs1 ?_
  exact fin_res (vs := [.int .i64 0]) rfl rfl ⟨.tmp rfl, trivial⟩ rfl (fun w' hw => ⟨rfl, hw.below rfl⟩)
abbrev C3 (b5 b6 b7 : Nat) (b : BasV) (fA : Option Addr) (fn fc : Nat) (cA : Option Addr) (cn cc : Nat) (X : Bt.Expr) (vA : Option Addr) (vc : Nat) : List Chunk := [.blk b7 69 (exC X (.slice vA X.Kids.length vc)), .blk b6 35 [.slice fA fn fc, .slice cA cn cc], .blk b5 31 b.cs]
theorem fright_c : ∀ (j : Nat) (w : World) {Φ : Hp} (_ : Hp.le Φ (hp w)) {b : BasV} {e : Ru.Env} (_ : b.ok Φ e) (_ : BigE e) {r : Bt.Rule} {fv cv : Value} (_ : RepSl Φ r.Funcs fv) {cn : Nat} (_ : IsSl cv cn) {X : Bt.Expr} {v : Value} (_ : RepSl Φ X.Kids v) {ts : List Int} {tv : Value} (_ : RepSl Φ ts tv), j ≤ 1000000 →
    Calls pg 53 #[.agg b.cs.toArray, .agg #[fv, cv], .agg (exC X v).toArray, tv, .int .i64 (j : Int)] w fun e' w' => e' = .returned (.bool (Ru.jx e r.Funcs ts j X).2) ∧ Bel w.heap.size w w'
  | j, w, Φ, hΦ, b, e, hb, hB, r, fv, cv, hf, cn, hc, X, v, hv, ts, tv, ht, hj => by
    have hfs := hf.sl
    have hts := ht.sl
    have hvs := hv.sl
    have hxb : X.Kids.length * 56 ≤ maxSl := hv.max
    simp only [maxSl] at hxb
    obtain ⟨fA, fc, rfl, _⟩ := hf.sl
    have hc0 := hc
    obtain ⟨cA, cc, rfl, _⟩ := hc
    obtain ⟨vA, vc, rfl, _⟩ := hv.sl
    obtain ⟨tA, tc, rfl, _⟩ := ht.sl
    refine calls_of_AW (args := [.agg b.cs.toArray, .agg #[.slice fA r.Funcs.length fc, .slice cA cn cc], .agg (exC X (.slice vA X.Kids.length vc)).toArray, .slice tA ts.length tc, .int .i64 (j : Int)]) Tryz.func53 rfl (lBT rfl) (St ⟨w, Φ, []⟩ Φ []) (StP.init w Φ hΦ []) ?_
    show AW _ _ [] _ _ _ [(0, .agg b.cs.toArray), (1, .agg #[.slice fA r.Funcs.length fc, .slice cA cn cc]), (2, .agg (exC X (.slice vA X.Kids.length vc)).toArray), (3, .slice tA ts.length tc), (4, .int .i64 (j : Int))] _
    repeat refine gs1 ?_
    refine RW.bxA (cs := b.cs) rfl rfl fun b5 => ?_
    refine RW.bxA (cs := [.slice fA r.Funcs.length fc, .slice cA cn cc]) rfl rfl fun b6 => ?_
    refine RW.bxA (cs := exC X (.slice vA X.Kids.length vc)) rfl rfl fun b7 => ?_
    repeat refine gs1 ?_
    refine AW.drawZ (J0 := St ⟨w, Φ, []⟩ Φ (C3 b5 b6 b7 b fA r.Funcs.length fc cA cn cc X vA vc)) [.q, .q, .q, .q, .q, .q, .q, .q, .q, .q, .q, .q, .q, .q] [0, 1, 2, 3, 4, 5, 6, 7, 8, 9, 10, 11, 12, 13] hmix (by kernel_rfl) ?_
    refine DW.q (fun _ h => h) rfl (q_move rfl) ?_
    cases j with
    | zero =>
      refine DW.q (v := .bool true) (fun _ h => h) rfl (q_as (q_eql rfl rfl) rfl) ?_
      refine DW.q (fun _ h => h) rfl (q_move rfl) ?_
      iterate 10 refine DW.g (b := true) (v := .bool false) (fun _ h => h) rfl rfl rfl (fun h => by simp at h) ?_
      refine DW.q (v := .bool true) (fun _ h => h) rfl (q_pick rfl (fun _ => rfl) (fun h => nomatch h)) ?_
      repeat refine gs1 ?_
      exact fin_res (vs := [.bool false]) rfl rfl ⟨.tmp rfl, trivial⟩ rfl (fun w' hw => ⟨rfl, hw.below rfl⟩)
    | succ j =>
      refine DW.q (v := .bool false) (fun _ h => h) rfl (q_as (q_eql rfl rfl) (congrArg Value.bool (decide_eq_false (by omega)))) ?_
      refine DW.q (fun _ h => h) rfl (q_move rfl) ?_
      refine DW.g (b := false) (v := .agg b.cs.toArray) (fun _ h => h) rfl rfl rfl (fun _ => qa_ldA (cs := b.cs) rfl (Cells.blk 2 rfl) rfl) ?_
      refine DW.g (b := false) (v := .agg #[.slice fA r.Funcs.length fc, .slice cA cn cc]) (fun _ h => h) rfl rfl rfl (fun _ => qa_ldA (cs := [.slice fA r.Funcs.length fc, .slice cA cn cc]) rfl (Cells.blk 1 rfl) rfl) ?_
      refine DW.g (b := false) (v := .agg (exC X (.slice vA X.Kids.length vc)).toArray) (fun _ h => h) rfl rfl rfl (fun _ => qa_ldA (cs := exC X (.slice vA X.Kids.length vc)) rfl (Cells.blk 0 rfl) rfl) ?_
      refine DW.g (b := false) (fun _ h => h) rfl rfl rfl (fun _ => q_move rfl) ?_
      refine DW.g (b := false) (v := .int .i64 ((ts.length : Nat) : Int)) (fun _ h => h) rfl rfl rfl (fun _ => q_len_sl rfl hts Tryz.underlying29) ?_
      refine DW.g (b := false) (v := .int .i64 (Ru.kidsN e r.Funcs ts.length X)) (fun _ h => h) rfl rfl rfl (fun _ => q_call (args := #[.agg b.cs.toArray, .agg #[.slice fA r.Funcs.length fc, .slice cA cn cc], .agg (exC X (.slice vA X.Kids.length vc)).toArray, .int .i64 ((ts.length : Nat) : Int)]) oK rfl rfl (fun w1 hw1 => fkids_c w1 Φ hw1.phi hb hB hf hc0 hvs)) ?_
      refine DW.g (b := false) (fun _ h => h) rfl rfl rfl (fun _ => qa_fa0 rfl) ?_
      refine DW.g (b := false) (fun _ h => h) rfl rfl rfl (fun _ => qa_ld rfl (Cell.blk 0 rfl rfl)) ?_
      refine DW.g (b := false) (v := .int .i64 ((X.Kids.length : Nat) : Int)) (fun _ h => h) rfl rfl rfl (fun _ => q_len_sl rfl hvs Tryz.underlying67) ?_
      refine DW.g (b := false) (v := .bool (!decide (Ru.kidsN e r.Funcs ts.length X = (X.Kids.length : Int)))) (fun _ h => h) rfl rfl rfl (fun _ => q_neq rfl rfl) ?_
      refine DW.q (v := .bool (!decide (Ru.kidsN e r.Funcs ts.length X = (X.Kids.length : Int)))) (fun _ h => h) rfl (q_pick rfl (fun h => nomatch h) (fun _ => rfl)) ?_
      repeat refine gs1 ?_
      refine AW.cond rfl (fun c => ?_) fun c => ?_
      · have c : Ru.kidsN e r.Funcs ts.length X ≠ (X.Kids.length : Int) := by simpa using c
        rw [Ru.jx_false1 c]
        repeat refine gs1 ?_
        exact fin_res (vs := [.bool false]) rfl rfl ⟨.tmp rfl, trivial⟩ rfl (fun w' hw => ⟨rfl, hw.below rfl⟩)
      have hN : Ru.kidsN e r.Funcs ts.length X = (X.Kids.length : Int) := by simpa using c
      repeat refine gs1 ?_
      refine AW.loop (fun s J q => ∃ i : Nat, s = [(3, .slice tA ts.length tc), (4, .int .i64 ((j + 1 : Nat) : Int)), (5, pB b5), (6, pB b6), (7, pB b7), (11, .int .i64 (i : Int))] ∧ J = St ⟨w, Φ, []⟩ Φ (C3 b5 b6 b7 b fA r.Funcs.length fc cA cn cc X vA vc) ∧ q = X.Kids.length - i ∧ i ≤ X.Kids.length ∧ ∀ k, k < i → (Ru.jx e r.Funcs ts j (X.Kids.getD k default)).2 = true) (s0 := _) (J1 := _) (m0 := _) ⟨0, rfl, rfl, rfl, Nat.zero_le _, fun k hk => by omega⟩ ⟨rfl, rfl, rfl, rfl, rfl, rfl, trivial⟩ (fun _ h => h) ?_
      rintro _ _ _ _ ⟨i, rfl, rfl, rfl, hi, hgd⟩
      repeat refine gs1 ?_
      refine AW.cond rfl (fun h => ?_) fun h => ?_
      · have h : i < X.Kids.length := by have := odT h; omega
        obtain ⟨Aa, ca, hpa, hra⟩ := kidV hv h
        repeat refine gs1 ?_
        refine AW.drawZ (J0 := St ⟨w, Φ, []⟩ Φ (C3 b5 b6 b7 b fA r.Funcs.length fc cA cn cc X vA vc)) [.q, .q, .q, .q, .q, .q, .q, .q, .q, .q, .q, .q] [0, 1, 2, 3, 4, 5, 6, 7, 8, 9, 10, 11] hmix (by kernel_rfl) ?_
        repeat refine gs1 ?_
        refine DW.q (v := .bool (Ru.jx e r.Funcs ts j (X.Kids.getD i default)).2) (fun _ h => h) rfl (q_call (args := #[.agg b.cs.toArray, .agg #[.slice fA r.Funcs.length fc, .slice cA cn cc], .agg (exC (X.Kids.getD i default) (.slice Aa (X.Kids.getD i default).Kids.length ca)).toArray, .slice tA ts.length tc, .int .i64 (((j + 1 : Nat) : Int) - 1)]) oK rfl rfl (fun w1 hw1 => by rw [show ((j + 1 : Nat) : Int) - 1 = (j : Int) by omega]; exact fright_c j w1 hw1.phi hb hB hf hc0 hra ht (by omega))) ?_
        repeat refine gs1 ?_
        refine AW.cond rfl (fun c => ?_) fun c => ?_
        · have c : (Ru.jx e r.Funcs ts j (X.Kids.getD i default)).2 = false := by simpa using c
          rw [Ru.jx_false2 (Ru.gd_mem h) c]
          repeat refine gs1 ?_
          exact fin_res (vs := [.bool false]) rfl rfl ⟨.tmp rfl, trivial⟩ rfl (fun w' hw => ⟨rfl, hw.below rfl⟩)
        have c : (Ru.jx e r.Funcs ts j (X.Kids.getD i default)).2 = true := by simpa using c
        have hnx : ∀ k, k < i + 1 → (Ru.jx e r.Funcs ts j (X.Kids.getD k default)).2 = true := fun k hk => by
          rcases Nat.lt_or_ge k i with h1 | h1
          · exact hgd k h1
          · rw [show k = i by omega]; exact c
        repeat refine gs1 ?_
        exact Post.back (s' := _) (J' := _) (m' := _) (by omega) ⟨i + 1, rfl, rfl, rfl, by omega, hnx⟩ ⟨rfl, rfl, rfl, rfl, rfl, rfl, trivial⟩ (fun _ h => h)
      have h : i = X.Kids.length := by have := odF h; omega
      subst h
      have hkid : ∀ y ∈ X.Kids, (Ru.jx e r.Funcs ts j y).2 = true := fun y hy => by
        obtain ⟨k, hk, rfl⟩ := List.mem_iff_getElem.1 hy
        have := hgd k hk
        rwa [gDD, List.getElem?_eq_getElem hk] at this
      have hIF := Ru.jx_iff hN hkid
      repeat refine gs1 ?_
      refine AW.loop (fun s J q => ∃ i : Nat, s = [(3, .slice tA ts.length tc), (6, pB b6), (7, pB b7), (12, .int .i64 (i : Int))] ∧ J = St ⟨w, Φ, []⟩ Φ (C3 b5 b6 b7 b fA r.Funcs.length fc cA cn cc X vA vc) ∧ q = X.Kids.length - i ∧ i ≤ X.Kids.length ∧ ∀ k, k < i → (X.Kids.map fun y => (Ru.jx e r.Funcs ts j y).1).getD k 0 = Ru.wantV r.Funcs X (X.Kids.map fun y => (Ru.jx e r.Funcs ts j y).1) k) (s0 := _) (J1 := _) (m0 := _) ⟨0, rfl, rfl, rfl, Nat.zero_le _, fun k hk => by omega⟩ ⟨rfl, rfl, rfl, rfl, trivial⟩ (fun _ h => h) ?_
      rintro _ _ _ _ ⟨i, rfl, rfl, rfl, hi, hwt⟩
      repeat refine gs1 ?_
      refine AW.cond rfl (fun h => ?_) fun h => ?_
      · have h : i < X.Kids.length := by have := odT h; omega
        obtain ⟨Aa, ca, hpa, hra⟩ := kidV hv h
        repeat refine gs1 ?_
        refine AW.drawZ (J0 := St ⟨w, Φ, []⟩ Φ (C3 b5 b6 b7 b fA r.Funcs.length fc cA cn cc X vA vc)) [.q, .q, .q, .q, .q, .q, .q, .q, .q, .q, .q, .q, .q, .q] [0, 1, 2, 3, 4, 5, 6, 7, 8, 9, 10, 11, 12, 13] hmix (by kernel_rfl) ?_
        repeat refine gs1 ?_
        refine DW.q (v := .int .i64 (Ru.jx e r.Funcs ts j (X.Kids.getD i default)).1) (fun _ h => h) rfl (q_call (args := #[.agg #[.slice fA r.Funcs.length fc, .slice cA cn cc], .agg (exC (X.Kids.getD i default) (.slice Aa (X.Kids.getD i default).Kids.length ca)).toArray, .slice tA ts.length tc]) oK rfl rfl (fun w1 hw1 => fKind_c j w1 hw1.phi hf hc0 hra ht (hkid _ (Ru.gd_mem h)))) ?_
        repeat refine gs1 ?_
        refine DW.q (v := .int .i64 (Ru.wantV r.Funcs X (X.Kids.map fun y => (Ru.jx e r.Funcs ts j y).1) i)) (fun _ h => h) rfl (q_call (args := #[.agg #[.slice fA r.Funcs.length fc, .slice cA cn cc], .agg (exC X (.slice vA X.Kids.length vc)).toArray, .int .i64 (i : Int), .slice tA ts.length tc]) oK rfl rfl (fun w1 hw1 => fWant_c j w1 hw1.phi hf hc0 hv ht hN hkid h)) ?_
        repeat refine gs1 ?_
        refine AW.cond rfl (fun c => ?_) fun c => ?_
        · have c : (Ru.jx e r.Funcs ts j (X.Kids.getD i default)).1 ≠ Ru.wantV r.Funcs X (X.Kids.map fun y => (Ru.jx e r.Funcs ts j y).1) i := by simpa using c
          have hz : (Ru.jx e r.Funcs ts (j + 1) X).2 = false := by
            cases hx : (Ru.jx e r.Funcs ts (j + 1) X).2 with
            | false => rfl
            | true => exact absurd ((Ru.map_gd h).symm.trans (hIF.1 hx i h)) c
          rw [hz]
          repeat refine gs1 ?_
          exact fin_res (vs := [.bool false]) rfl rfl ⟨.tmp rfl, trivial⟩ rfl (fun w' hw => ⟨rfl, hw.below rfl⟩)
        have c : (Ru.jx e r.Funcs ts j (X.Kids.getD i default)).1 = Ru.wantV r.Funcs X (X.Kids.map fun y => (Ru.jx e r.Funcs ts j y).1) i := by simpa using c
        have hnx : ∀ k, k < i + 1 → (X.Kids.map fun y => (Ru.jx e r.Funcs ts j y).1).getD k 0 = Ru.wantV r.Funcs X (X.Kids.map fun y => (Ru.jx e r.Funcs ts j y).1) k := fun k hk => by
          rcases Nat.lt_or_ge k i with h1 | h1
          · exact hwt k h1
          · rw [show k = i by omega]; exact (Ru.map_gd h).trans c
        repeat refine gs1 ?_
        exact Post.back (s' := _) (J' := _) (m' := _) (by omega) ⟨i + 1, rfl, rfl, rfl, by omega, hnx⟩ ⟨rfl, rfl, rfl, rfl, trivial⟩ (fun _ h => h)
      have h : i = X.Kids.length := by have := odF h; omega
      subst h
      rw [hIF.2 hwt]
      repeat refine gs1 ?_
      exact fin_res (vs := [.bool true]) rfl rfl ⟨.tmp rfl, trivial⟩ rfl (fun w' hw => ⟨rfl, hw.below rfl⟩)
end Go.Proofs.YtnfmjfheciihjaaGreatDoor
namespace Ru
open Bt
theorem den_head {fs : List RFunc} {i : Nat} (h : i < fs.length) : den (fs.map (·.Name)) (i : Int) = (isNm (fs.getD i default).Name && !((fs.take i).map (·.Name)).contains (fs.getD i default).Name) := by
  have hg : ∀ k, k < fs.length → (fs.map (·.Name)).getD k [] = (fs.getD k default).Name := fun k hk => by
    rw [gDD, List.getElem?_map, List.getElem?_eq_getElem hk, gDD, List.getElem?_eq_getElem hk]; rfl
  have hl : i < (fs.map (·.Name)).length := by rw [List.length_map]; exact h
  unfold den
  rw [show decide (0 ≤ (i : Int)) = true from decide_eq_true (by omega), show decide ((i : Int) < ((fs.map (·.Name)).length : Int)) = true from decide_eq_true (by omega), Int.toNat_natCast, hg i h]
  have hx := Go.Proofs.YtnfmjfheciihjaaGreatDoor.ix_iff hl
  rw [hg i h] at hx
  have : decide (ix (fs.map (·.Name)) (fs.getD i default).Name = some i) = !((fs.take i).map (·.Name)).contains (fs.getD i default).Name := by
    rw [Bool.eq_iff_iff, decide_eq_true_eq, hx, Bool.not_eq_true', ← Bool.not_eq_true, List.contains_iff_mem]
    constructor
    · intro h1 h2
      obtain ⟨y, hy, he⟩ := List.mem_map.1 h2
      obtain ⟨k, hk, rfl⟩ := List.mem_iff_getElem.1 hy
      have hk2 : k < i := by rw [List.length_take] at hk; omega
      refine h1 k hk2 ?_
      rw [hg k (by omega), ← he, List.getElem_take, gDD, List.getElem?_eq_getElem (by omega)]; rfl
    · intro h1 k hk he
      refine h1 (List.mem_map.2 ⟨(fs.take i)[k]'(by rw [List.length_take]; omega), List.getElem_mem _, ?_⟩)
      rw [List.getElem_take, ← he, hg k (by omega), gDD, List.getElem?_eq_getElem (by omega)]; rfl
  rw [this]; rfl
end Ru
namespace Go.Proofs.YtnfmjfheciihjaaGreatDoor
open Go Go.K Go.RowKit
open Ru (pB NmS BasV BigE)
attribute [local irreducible] AW RW DW Post Qt
theorem getD_int {l : List Int} {k : Nat} (h : k < l.length) : l[k] = l.getD k 0 := by rw [gDD, List.getElem?_eq_getElem h]; rfl
theorem fb1 : ∀ n c k r0 r1 x y : Bool, (((!(n && !c)) || k) || (!r0 && !r1)) = true → (n && !k && !c && (r0 || r1) && x && y) = false := by decide
theorem fb2 : ∀ n c k r0 r1 x : Bool, (((!(n && !c)) || k) || (!r0 && !r1)) = false → (n && !k && !c && (r0 || r1) && x) = x := by decide
abbrev nms (r : Bt.Rule) : List (List UInt8) := r.Funcs.map (·.Name)
theorem fKeyword_c (w : World) {l : List UInt8} : Calls pg 82 #[.string (bs l)] w fun e w' => e = .returned (.bool (Ru.kw l)) ∧ Bel w.heap.size w w' := by
  refine calls_of_AW (args := [.string (bs l)]) Tryz.func82 rfl (lBT rfl) (St ⟨w, hp w, []⟩ (hp w) []) (StP.init w (hp w) (Hp.le_refl _) []) ?_
  show AW _ _ [] _ _ _ [(0, .string (bs l))] _
  repeat refine g1 ?_
  refine RW.q (v := .bool (decide (l = Ru.sDef))) rfl (q_eqlStr rfl rfl) ?_
  repeat refine g1 ?_
  refine AW.orChS (t := 4) (x := 3) (a := l) rfl rfl _ rfl rfl rfl rfl fun f' => ?_
  repeat refine g1 ?_
  have hkw : (decide (l = Ru.sDef) || [(Ru.sInt, 6), (Ru.sBool, 7), (Ru.sWhen, 8), (Ru.sThen, 9), (Ru.sSet, 10), (Ru.sTo, 11), (Ru.sIf, 12), (Ru.sElse, 13), (Ru.sOr, 14), (Ru.sAnd, 15), (Ru.sNot, 16), (Ru.sTrue, 17), (Ru.sFalse, 18), (Ru.sVolume, 19), (Ru.sLevel, 20), (Ru.sOwned, 21), (Ru.sPos, 22), (Ru.sCrest, 23), (Ru.sHour, 24), (Ru.sDay, 25), (Ru.sMonth, 26)].any fun p => decide (l = p.1)) = Ru.kw l := by
    unfold Ru.kw
    rw [Bool.eq_iff_iff]
    simp only [List.any_cons, List.any_nil, Bool.or_false, Bool.or_eq_true, decide_eq_true_eq, List.contains_iff_mem, List.mem_cons, List.not_mem_nil, or_false]
  refine AW.cond rfl (fun h => ?_) fun h => ?_
  · have h : Ru.kw l = true := hkw.symm.trans h
    repeat refine g1 ?_
    exact fin_res (vs := [.bool true]) rfl rfl ⟨.tmp rfl, trivial⟩ rfl (fun w' hw => ⟨by rw [h]; rfl, hw.below rfl⟩)
  · have h : Ru.kw l = false := hkw.symm.trans h
    repeat refine g1 ?_
    exact fin_res (vs := [.bool false]) rfl rfl ⟨.tmp rfl, trivial⟩ rfl (fun w' hw => ⟨by rw [h]; rfl, hw.below rfl⟩)
theorem fheaded_c (w : World) (Φ : Hp) (hΦ : Hp.le Φ (hp w)) {r : Bt.Rule} {fv cv : Value} (hf : RepSl Φ r.Funcs fv) {cn : Nat} (hc : IsSl cv cn) :
    Calls pg 52 #[.agg #[fv, cv]] w fun e' w' => e' = .returned (.bool (Ru.jhead [] r.Funcs)) ∧ Bel w.heap.size w w' := by
  have hfs := hf.sl
  have hfb : r.Funcs.length * 104 ≤ maxSl := hf.max
  simp only [maxSl] at hfb
  obtain ⟨fA, fc, rfl, _⟩ := hf.sl
  obtain ⟨cA, cc, rfl, _⟩ := hc
  have hnl : ∀ q ∈ nms r, q.length ≤ maxLen := fun q hq => by
    obtain ⟨y, hy, rfl⟩ := List.mem_map.1 hq
    obtain ⟨k, hk, rfl⟩ := List.mem_iff_getElem.1 hy
    obtain ⟨_, _, _, _, _, _, _, h5, _⟩ := funW hf hk
    rwa [gDD, List.getElem?_eq_getElem hk] at h5
  refine calls_of_AW (args := [.agg #[.slice fA r.Funcs.length fc, .slice cA cn cc]]) Tryz.func52 rfl (lBT rfl) (St ⟨w, Φ, []⟩ Φ []) (StP.init w Φ hΦ []) ?_
  show AW _ _ [] _ _ _ [(0, .agg #[.slice fA r.Funcs.length fc, .slice cA cn cc])] _
  repeat refine gs1 ?_
  refine RW.bxA (cs := [.slice fA r.Funcs.length fc, .slice cA cn cc]) rfl rfl fun b1 => ?_
  repeat refine gs1 ?_
  refine AW.loop (fun s J q => ∃ (i : Nat) (v : Value), s = [(1, pB b1), (3, v), (4, .int .i64 (i : Int))] ∧ J = St ⟨w, Φ, []⟩ Φ [.row v 9 1 i (((nms r).take i).map fun q => .string (bs q)), .blk b1 35 [.slice fA r.Funcs.length fc, .slice cA cn cc]] ∧ q = r.Funcs.length - i ∧ i ≤ r.Funcs.length ∧ IsSl v i) (s0 := [(1, pB b1), (3, .slice none 0 0), (4, .int .i64 ((0 : Nat) : Int))]) (J1 := _) (m0 := _) ⟨0, .slice none 0 0, rfl, rfl, rfl, Nat.zero_le _, ⟨none, 0, rfl, fun h => absurd h (Nat.lt_irrefl _), Nat.le_refl _⟩⟩ ⟨rfl, rfl, rfl, trivial⟩ (fun _ h => StP.nilRow h _ _) ?_
  rintro _ _ _ _ ⟨i, v, rfl, rfl, rfl, hi, hv⟩
  repeat refine gs1 ?_
  refine AW.cond rfl (fun h => ?_) fun h => ?_
  · have h : i < r.Funcs.length := by have := odT h; omega
    obtain ⟨qv, Ab, cb, hpb, _⟩ := funW hf h
    have pn : PCell Φ (Value.at (.slice fA r.Funcs.length fc) (i * 8 + 0)) (.string (bs (r.Funcs.getD i default).Name)) := by have := hpb 0 _ rfl; rwa [at_add] at this
    clear hpb
    have hl : i < (nms r).length := by rw [List.length_map]; exact h
    have hgn : (nms r)[i] = (r.Funcs.getD i default).Name := by rw [List.getElem_map, gDD, List.getElem?_eq_getElem h]; rfl
    repeat refine gs1 ?_
    refine RW.eff _ _ rfl (e_buildSlice (vals := [(0, .string (bs (r.Funcs.getD i default).Name))]) (cells := [.string (bs (r.Funcs.getD i default).Name)]) Tryz.underlying22 inf9 rfl rfl rfl (by kernel_rfl) rfl) fun b8 => ?_
    refine RW.eff (fun xv : {vq : Value // IsSl vq (i + 1)} => xv.1) (fun xv => St ⟨w, Φ, []⟩ Φ [.row (.slice (some ⟨b8, 0, none⟩) 1 1) 9 1 1 [.string (bs (r.Funcs.getD i default).Name)], .row xv.1 9 1 (i + 1) ((((nms r).take i).map fun q => .string (bs q)) ++ [.string (bs (r.Funcs.getD i default).Name)]), .blk b1 35 [.slice fA r.Funcs.length fc, .slice cA cn cc]]) rfl (e_append 1 rfl rfl rfl Tryz.underlying22 inf9 rfl rfl rfl (Cells.row0 0 rfl) rfl (by omega) (by omega) (fun _ => rfl)) ?_
    rintro ⟨v2, hv2⟩
    repeat refine gs1 ?_
    exact Post.back (s' := _) (J' := _) (m' := _) (by omega) ⟨i + 1, v2, rfl, rfl, rfl, by omega, hv2⟩ ⟨rfl, rfl, rfl, trivial⟩ (fun _ h => by rw [take_snoc hl, List.map_append, hgn]; exact StP.sel h [1, 2] (by decide) rfl)
  have h : i = r.Funcs.length := by have := odF h; omega
  subst h
  rw [show (nms r).take r.Funcs.length = nms r from List.take_of_length_le (by rw [List.length_map]; omega)]
  obtain ⟨vA, vc, rfl, _⟩ := hv
  repeat refine gs1 ?_
  refine AW.frz fun Φ2 l2 r2 => ?_
  have hns : NmS Φ2 (.slice vA r.Funcs.length vc) 1 (nms r) := NmS.row (T := 9) (n := r.Funcs.length) r2 (by rw [List.length_map]) hnl (by rw [List.length_map]; omega)
  have hf2 := hf.mono l2
  refine AW.loop (fun s J q => ∃ i : Nat, s = [(1, pB b1), (3, .slice vA r.Funcs.length vc), (5, .int .i64 (i : Int))] ∧ J = St ⟨w, Φ, []⟩ Φ2 [.blk b1 35 [.slice fA r.Funcs.length fc, .slice cA cn cc]] ∧ q = r.Funcs.length - i ∧ i ≤ r.Funcs.length ∧ Ru.jhead [] (r.Funcs.take i) = true) (s0 := [(1, pB b1), (3, .slice vA r.Funcs.length vc), (5, .int .i64 ((0 : Nat) : Int))]) (J1 := _) (m0 := _) ⟨0, rfl, rfl, rfl, Nat.zero_le _, rfl⟩ ⟨rfl, rfl, rfl, trivial⟩ (fun _ h => h) ?_
  rintro _ _ _ _ ⟨i, rfl, rfl, rfl, hi, hhd⟩
  repeat refine gs1 ?_
  refine AW.cond rfl (fun h => ?_) fun h => ?_
  · have h : i < r.Funcs.length := by have := odT h; omega
    obtain ⟨qv, Ab, cb, hpb, hqv, hbk, hwb, hnm, hres⟩ := funW hf2 h
    have hqs := hqv.sl
    have hqm : (r.Funcs.getD i default).Params.length * 8 ≤ maxSl := hqv.max
    simp only [maxSl] at hqm
    obtain ⟨qA, qc, rfl, _⟩ := hqv.sl
    have hget : r.Funcs.getD i default = r.Funcs[i] := by rw [gDD, List.getElem?_eq_getElem h]; rfl
    have hjh : Ru.jhead [] r.Funcs = (Ru.isNm (r.Funcs.getD i default).Name && !Ru.kw (r.Funcs.getD i default).Name && !((r.Funcs.take i).map (·.Name)).contains (r.Funcs.getD i default).Name && (decide ((r.Funcs.getD i default).Result = 0) || decide ((r.Funcs.getD i default).Result = 1)) && (r.Funcs.getD i default).Params.all (fun t => decide (t = 0) || decide (t = 1)) && Ru.jhead (((r.Funcs.take i).map (·.Name)) ++ [(r.Funcs.getD i default).Name]) (r.Funcs.drop (i + 1))) := by
      have hsp : r.Funcs = r.Funcs.take i ++ ((r.Funcs.getD i default) :: r.Funcs.drop (i + 1)) := by rw [hget, ← List.drop_eq_getElem_cons h, List.take_append_drop]
      rw [show Ru.jhead [] r.Funcs = Ru.jhead [] (r.Funcs.take i ++ ((r.Funcs.getD i default) :: r.Funcs.drop (i + 1))) from by rw [← hsp], Ru.jhead_cut, hhd, Bool.true_and, List.nil_append, Ru.jhead]
    have htk : Ru.jhead [] (r.Funcs.take (i + 1)) = (Ru.isNm (r.Funcs.getD i default).Name && !Ru.kw (r.Funcs.getD i default).Name && !((r.Funcs.take i).map (·.Name)).contains (r.Funcs.getD i default).Name && (decide ((r.Funcs.getD i default).Result = 0) || decide ((r.Funcs.getD i default).Result = 1)) && (r.Funcs.getD i default).Params.all (fun t => decide (t = 0) || decide (t = 1))) := by
      rw [Ru.take_snoc h, Ru.jhead_cut, hhd, Bool.true_and, List.nil_append, ← hget, Ru.jhead, Ru.jhead, Bool.and_true]
    repeat refine gs1 ?_
    refine RW.alc rfl fun b6 => ?_
    repeat refine gs1 ?_
    refine RW.q (v := .bool (Ru.den (nms r) (i : Int))) rfl (q_call (args := #[.int .i64 (i : Int), .slice vA r.Funcs.length vc]) oK rfl rfl (fun w1 hw1 => first_c w1 Φ2 hw1.phi hns)) ?_
    repeat refine gs1 ?_
    refine RW.g (b := (!Ru.den (nms r) (i : Int))) (v := .bool (Ru.kw (r.Funcs.getD i default).Name)) rfl rfl rfl (fun h => q_call (args := #[.string (bs (r.Funcs.getD i default).Name)]) oK rfl (args1 (gv_pos h)) (fun w1 hw1 => fKeyword_c w1)) ?_
    refine RW.q (v := .bool ((!Ru.den (nms r) (i : Int)) || Ru.kw (r.Funcs.getD i default).Name)) rfl (qpO rfl rfl rfl) ?_
    repeat refine gs1 ?_
    refine RW.g2 (b1 := ((!Ru.den (nms r) (i : Int)) || Ru.kw (r.Funcs.getD i default).Name)) (b2 := (!decide ((r.Funcs.getD i default).Result = 0))) (v := .pointer (some ⟨b6, 2, none⟩)) rfl rfl rfl (fun hg1 hg2 => qa_fa0 rfl) ?_
    refine RW.g2 (b1 := ((!Ru.den (nms r) (i : Int)) || Ru.kw (r.Funcs.getD i default).Name)) (b2 := (!decide ((r.Funcs.getD i default).Result = 0))) (v := .int .i64 (r.Funcs.getD i default).Result) rfl rfl rfl (fun hg1 hg2 => qa_ld ((gv_pos hg1).trans (gv_pos hg2)) (Cell.blk 0 rfl rfl)) ?_
    refine RW.g2 (b1 := ((!Ru.den (nms r) (i : Int)) || Ru.kw (r.Funcs.getD i default).Name)) (b2 := (!decide ((r.Funcs.getD i default).Result = 0))) (v := .bool (!decide ((r.Funcs.getD i default).Result = 1))) rfl rfl rfl (fun hg1 hg2 => q_neq ((gv_pos hg1).trans (gv_pos hg2)) rfl) ?_
    refine RW.g (b := ((!Ru.den (nms r) (i : Int)) || Ru.kw (r.Funcs.getD i default).Name)) (v := .bool ((!decide ((r.Funcs.getD i default).Result = 0)) && (!decide ((r.Funcs.getD i default).Result = 1)))) rfl rfl rfl (fun h => q_pick (gv_pos h) (fun hp => (gv_pos h).trans ((gv_pos hp).trans (pkAndT hp))) (fun hp => pkAndF hp)) ?_
    refine RW.q (v := .bool (((!Ru.den (nms r) (i : Int)) || Ru.kw (r.Funcs.getD i default).Name) || ((!decide ((r.Funcs.getD i default).Result = 0)) && (!decide ((r.Funcs.getD i default).Result = 1))))) rfl (qpO rfl rfl rfl) ?_
    repeat refine gs1 ?_
    refine AW.cond rfl (fun c => ?_) fun c => ?_
    · rw [Ru.den_head h] at c
      have hz : Ru.jhead [] r.Funcs = false := hjh.trans (fb1 _ _ _ _ _ _ _ c)
      repeat refine gs1 ?_
      exact fin_res (vs := [.bool false]) rfl rfl ⟨.tmp rfl, trivial⟩ rfl (fun w' hw => ⟨by rw [hz]; rfl, (StP.less hw l2).below rfl⟩)
    rw [Ru.den_head h] at c
    have hpa := htk.trans (fb2 _ _ _ _ _ _ c)
    repeat refine gs1 ?_
    refine AW.loop (fun s J q => ∃ k : Nat, s = [(1, pB b1), (3, .slice vA r.Funcs.length vc), (5, .int .i64 (i : Int)), (6, pB b6), (7, .int .i64 (k : Int))] ∧ J = St ⟨w, Φ, []⟩ Φ2 [.blk b6 71 (rfC (r.Funcs.getD i default) (.slice qA (r.Funcs.getD i default).Params.length qc) (.slice Ab (r.Funcs.getD i default).Body.Kids.length cb)), .blk b1 35 [.slice fA r.Funcs.length fc, .slice cA cn cc]] ∧ q = (r.Funcs.getD i default).Params.length - k ∧ k ≤ (r.Funcs.getD i default).Params.length ∧ ((r.Funcs.getD i default).Params.take k).all (fun t => decide (t = 0) || decide (t = 1)) = true) (s0 := _) (J1 := _) (m0 := _) ⟨0, rfl, rfl, rfl, Nat.zero_le _, rfl⟩ ⟨rfl, rfl, rfl, rfl, rfl, trivial⟩ (fun _ h => h) ?_
    rintro _ _ _ _ ⟨k, rfl, rfl, rfl, hk, hpt⟩
    repeat refine gs1 ?_
    refine AW.cond rfl (fun h2 => ?_) fun h2 => ?_
    · have h2 : k < (r.Funcs.getD i default).Params.length := by have := odT h2; omega
      have pe := RepSl.gi' hqv h2
      have hpk : (r.Funcs.getD i default).Params[k] = (r.Funcs.getD i default).Params.getD k 0 := getD_int h2
      repeat refine gs1 ?_
      refine RW.g (b := !decide ((r.Funcs.getD i default).Params.getD k 0 = 0)) (v := .pointer (some (Value.at (.slice qA (r.Funcs.getD i default).Params.length qc) (k * 1)))) rfl rfl rfl (fun h => qa_ixN (n := (r.Funcs.getD i default).Params.length) (i := k) (gv_pos h) (gv_pos h) hqs h2) ?_
      refine RW.g (b := !decide ((r.Funcs.getD i default).Params.getD k 0 = 0)) (v := .int .i64 ((r.Funcs.getD i default).Params.getD k 0)) rfl rfl rfl (fun h => qa_ld (gv_pos h) (Cell.phi pe)) ?_
      repeat refine gs1 ?_
      refine RW.q (v := .bool (!decide ((r.Funcs.getD i default).Params.getD k 0 = 0) && !decide ((r.Funcs.getD i default).Params.getD k 0 = 1))) rfl (qpA rfl rfl rfl) ?_
      repeat refine gs1 ?_
      refine AW.cond rfl (fun c2 => ?_) fun c2 => ?_
      · have hz : Ru.jhead [] r.Funcs = false := by
          rw [hjh, show (r.Funcs.getD i default).Params.all (fun t => decide (t = 0) || decide (t = 1)) = false from List.all_eq_false.2 ⟨_, List.getElem_mem h2, by rw [hpk]; revert c2; generalize decide ((r.Funcs.getD i default).Params.getD k 0 = 0) = a1; generalize decide ((r.Funcs.getD i default).Params.getD k 0 = 1) = a2; revert a1 a2; decide⟩]
          simp
        repeat refine gs1 ?_
        exact fin_res (vs := [.bool false]) rfl rfl ⟨.tmp rfl, trivial⟩ rfl (fun w' hw => ⟨by rw [hz]; rfl, (StP.less hw l2).below rfl⟩)
      have hnx : ((r.Funcs.getD i default).Params.take (k + 1)).all (fun t => decide (t = 0) || decide (t = 1)) = true := by
        rw [take_snoc h2, List.all_append, hpt, Bool.true_and, List.all_cons, List.all_nil, Bool.and_true, hpk]
        revert c2; generalize decide ((r.Funcs.getD i default).Params.getD k 0 = 0) = a1; generalize decide ((r.Funcs.getD i default).Params.getD k 0 = 1) = a2; revert a1 a2; decide
      repeat refine gs1 ?_
      exact Post.back (s' := _) (J' := _) (m' := _) (by omega) ⟨k + 1, rfl, rfl, rfl, by omega, hnx⟩ ⟨rfl, rfl, rfl, rfl, rfl, trivial⟩ (fun _ h => h)
    have h2 : k = (r.Funcs.getD i default).Params.length := by have := odF h2; omega
    subst h2
    rw [List.take_length] at hpt
    repeat refine gs1 ?_
    exact Post.back (s' := _) (J' := _) (m' := _) (by omega) ⟨i + 1, rfl, rfl, rfl, by omega, hpa.trans hpt⟩ ⟨rfl, rfl, rfl, trivial⟩ (fun _ h => StP.sel h [1] (by decide) rfl)
  have h : i = r.Funcs.length := by have := odF h; omega
  subst h
  rw [List.take_length] at hhd
  repeat refine gs1 ?_
  exact fin_res (vs := [.bool true]) rfl rfl ⟨.tmp rfl, trivial⟩ rfl (fun w' hw => ⟨by rw [hhd]; rfl, (StP.less hw l2).below rfl⟩)
end Go.Proofs.YtnfmjfheciihjaaGreatDoor
