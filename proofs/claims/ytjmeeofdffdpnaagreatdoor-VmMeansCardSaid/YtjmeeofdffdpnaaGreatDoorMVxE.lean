/- Lemmas. Conditions: those of each theorem. -/
import Derived.Test.YtjmeeofdffdpnaaGreatDoorMMnI
set_option maxRecDepth 8000
set_option maxHeartbeats 16000000
namespace Go.Proofs.YtjmeeofdffdpnaaGreatDoor
open Go Go.K Go.RowKit
open Ru (pB BasV)
attribute [local irreducible] AW RW DW Post Qt
variable {x pc : Nat} {y : MnV} {ks kc : Value} {u fa : Int} {en : Bool} {S : List Int} {o : Vm.Op}
abbrev kR (kc : Value) (n : Nat) (cs : List Value) : Chunk := .row kc 209 2 n cs
abbrev tR (y : MnV) (t : List Int) : Chunk := .row y.tv 3 1 t.length (t.map (Value.int .i64))
abbrev eR (y : MnV) (s : List Bool) : Chunk := .row y.sv 4 1 s.length (s.map Value.bool)
theorem mrow_sl {B : Bs} {Φ : Hp} {C : List Chunk} {w : World} {v : Value} {T sz n : Nat} {xs : List Value} (h : StP B Φ C w) (k : Nat) (hk : C[k]? = some (.row v T sz n xs)) : IsSl v n := by
  have : RowS (hp w) v T sz n xs := h.sat _ (List.mem_of_getElem? hk)
  exact this.isSl
theorem mrow_len {B : Bs} {Φ : Hp} {C : List Chunk} {w : World} {v : Value} {T sz n : Nat} {xs : List Value} (h : StP B Φ C w) (k : Nat) (hk : C[k]? = some (.row v T sz n xs)) : xs.length = n * sz := by
  have : RowS (hp w) v T sz n xs := h.sat _ (List.mem_of_getElem? hk)
  exact this.1
theorem args_step {S2 : List Int} {t L : Nat} (hL : S2.length = L) (h : t < L) : splice ((List.replicate (t + 1) (0 : Int) ++ S2.drop (t + 1)).map (Value.int .i64)) (t * 1) (Value.int .i64 (S2.getD t 0)).cells.toList = (List.replicate t (0 : Int) ++ S2.drop t).map (Value.int .i64) := by
  rw [Nat.mul_one, splice_map (by simp; omega)]
  congr 1
  rw [List.replicate_succ', List.append_assoc, List.set_append_right _ _ (by simp), List.length_replicate, Nat.sub_self, List.drop_eq_getElem_cons (by omega : t < S2.length), gDD, List.getElem?_eq_getElem (by omega)]
  rfl
theorem mstepF_c (w : World) {Φ : Hp} (hu : 0 ≤ u ∧ u ≤ 10000) (h10 : 10000 ≤ u) (h0 : StP ⟨w, Φ, fps [mB x y pc ks kc u fa en]⟩ Φ [mB x y pc ks kc u fa en] w) : Calls pg 135 #[pB x] w (OwnU w Φ [mB x y pc ks kc u fa en] (fun _ : Unit => .bool false) fun _ => [mB x y pc ks kc u 14 true]) := by
  have := mstep_c w hu h0
  unfold mS at this
  rw [if_pos h10, decide_eq_true h10] at this
  exact this
theorem mstepT_c (w : World) {Φ : Hp} (hu : 0 ≤ u ∧ u ≤ 10000) (h10 : ¬ 10000 ≤ u) (h0 : StP ⟨w, Φ, fps [mB x y pc ks kc u fa en]⟩ Φ [mB x y pc ks kc u fa en] w) : Calls pg 135 #[pB x] w (OwnU w Φ [mB x y pc ks kc u fa en] (fun _ : Unit => .bool true) fun _ => [mB x y pc ks kc (u + 1) fa en]) := by
  have := mstep_c w hu h0
  unfold mS at this
  rw [if_neg h10, decide_eq_false h10] at this
  exact this
theorem pushed {n : Nat} {cs : List Value} (h : cs.length = n * 2) {a b : Value} : (cs ++ [a, b])[n * 2 + 0]? = some a ∧ (cs ++ [a, b])[n * 2 + 1]? = some b := by
  rw [List.getElem?_append_right (by omega), List.getElem?_append_right (by omega), h, Nat.add_sub_cancel_left, Nat.add_sub_cancel_left]
  exact ⟨rfl, rfl⟩

theorem iload_c (w : World) {Φ : Hp} {n q i : Nat} {cs : List Value} {av : Value} {l : List Int} (hl : cs.length = n * 2) (ha : RepSl Φ l av) (hi : o.A = i) (hlt : i < l.length) (hb : S.length ≤ 900000000) (hnb : n ≤ 1000) (h0 : StP ⟨w, Φ, fps [mB x y pc ks kc u fa en, sR ks S, kR kc (n + 1) (cs ++ [.int .i64 (q : Int), av])]⟩ Φ [mB x y pc ks kc u fa en, sR ks S, kR kc (n + 1) (cs ++ [.int .i64 (q : Int), av])] w) :
    Calls pg 76 #[pB x, .agg (opC o).toArray] w (OwnU w Φ [mB x y pc ks kc u fa en, sR ks S, kR kc (n + 1) (cs ++ [.int .i64 (q : Int), av])] (fun _ : Value => .tuple #[]) fun z => [mB x y pc z kc u fa en, sR z (S ++ [l.getD i 0]), kR kc (n + 1) (cs ++ [.int .i64 (q : Int), av])]) := by
  obtain ⟨k, m, a⟩ := o
  simp only at hi
  subst hi
  have hkc : IsSl kc (n + 1) := mrow_sl h0 2 rfl
  have hav := ha.sl
  have pe := RepSl.gi ha hlt
  refine calls_of_AW (args := [pB x, .agg (opC ⟨k, (i : Int), a⟩).toArray]) Tryz.func76 rfl (lBT rfl) (St ⟨w, Φ, fps [mB x y pc ks kc u fa en, sR ks S, kR kc (n + 1) (cs ++ [.int .i64 (q : Int), av])]⟩ Φ [mB x y pc ks kc u fa en, sR ks S, kR kc (n + 1) (cs ++ [.int .i64 (q : Int), av])]) h0 ?_
  show AW _ _ [] _ _ _ [(0, pB x), (1, .agg (opC ⟨k, (i : Int), a⟩).toArray)] _
  generalize hE : fps [mB x y pc ks kc u fa en, sR ks S, kR kc (n + 1) (cs ++ [.int .i64 (q : Int), av])] = E
  repeat refine gs1 ?_
  refine RW.bxA (cs := [.int .i64 k, .int .i64 (i : Int), .int .i64 a]) rfl rfl fun b3 => ?_
  repeat refine gs1 ?_
  refine AW.drawZ (J0 := St ⟨w, Φ, E⟩ Φ [.blk b3 56 ([.int .i64 k, .int .i64 (i : Int), .int .i64 a]), mB x y pc ks kc u fa en, sR ks S, kR kc (n + 1) (cs ++ [.int .i64 (q : Int), av])]) [.q, .q, .q, .q, .q, .q, .q, .q, .q, .q, .q, .q, .q, .q, .q, .q, .q, .q, .e] [0, 1, 2, 3, 4, 5, 6, 7, 8, 9, 10, 11, 12, 13, 14, 15, 16, 17, 18] hmix (by kernel_rfl) ?_
  repeat refine gs1 ?_
  refine DW.q (fun _ h => h) rfl (qa_ixN (n := n + 1) (i := n) rfl (by show Value.int .i64 (((n + 1 : Nat) : Int) - 1) = _; congr 1; omega) hkc (by omega)) ?_
  repeat refine gs1 ?_
  refine DW.q (v := av) (fun _ h => h) rfl (qa_ld rfl (Cell.row 3 rfl (pushed hl).2)) ?_
  repeat refine gs1 ?_
  refine DW.eff (fun _ : Value => .tuple #[]) (fun z => St ⟨w, Φ, E⟩ Φ ([mB x y pc z kc u fa en, sR z (S ++ [l.getD i 0])] ++ [.blk b3 56 ([.int .i64 k, .int .i64 (i : Int), .int .i64 a]), kR kc (n + 1) (cs ++ [.int .i64 (q : Int), av])])) (fun h => absurd rfl h) rfl (by exact e_ownU (K := fun z => [mB x y pc z kc u fa en, sR z (S ++ [l.getD i 0])]) (args := #[pB x, .int .i64 (l.getD i 0)]) (C2 := [.blk b3 56 ([.int .i64 k, .int .i64 (i : Int), .int .i64 a]), kR kc (n + 1) (cs ++ [.int .i64 (q : Int), av])]) [1, 2, 0, 3] (by decide) rfl oK rfl rfl (fun w1 hw1 => mpush_c (S := S) w1 (l.getD i 0) (by omega) hw1)) fun z => ?_
  repeat refine gs1 ?_
  exact fin_none (J' := St ⟨w, Φ, E⟩ Φ [mB x y pc z kc u fa en, sR z (S ++ [l.getD i 0]), .blk b3 56 ([.int .i64 k, .int .i64 (i : Int), .int .i64 a]), kR kc (n + 1) (cs ++ [.int .i64 (q : Int), av])]) rfl rfl (fun _ h => h) (fun w1 hw1 => ⟨z, rfl, by subst hE; exact StP.sel hw1 [0, 1, 3] (by decide) rfl⟩)
theorem iret_c (w : World) {Φ : Hp} {n q : Nat} {cs : List Value} {av : Value} (hl : cs.length = n * 2) (hnb : n ≤ 1000) (h0 : StP ⟨w, Φ, fps [mB x y pc ks kc u fa en, kR kc (n + 1) (cs ++ [.int .i64 (q : Int), av])]⟩ Φ [mB x y pc ks kc u fa en, kR kc (n + 1) (cs ++ [.int .i64 (q : Int), av])] w) :
    Calls pg 86 #[pB x, .agg (opC o).toArray] w (OwnU w Φ [mB x y pc ks kc u fa en, kR kc (n + 1) (cs ++ [.int .i64 (q : Int), av])] (fun _ : Value => .tuple #[]) fun z => [mB x y q ks z u fa en, kR z n cs]) := by
  have hkc : IsSl kc (n + 1) := mrow_sl h0 1 rfl
  refine calls_of_AW (args := [pB x, .agg (opC o).toArray]) Tryz.func86 rfl (lBT rfl) (St ⟨w, Φ, fps [mB x y pc ks kc u fa en, kR kc (n + 1) (cs ++ [.int .i64 (q : Int), av])]⟩ Φ [mB x y pc ks kc u fa en, kR kc (n + 1) (cs ++ [.int .i64 (q : Int), av])]) h0 ?_
  show AW _ _ [] _ _ _ [(0, pB x), (1, .agg (opC o).toArray)] _
  generalize hE : fps [mB x y pc ks kc u fa en, kR kc (n + 1) (cs ++ [.int .i64 (q : Int), av])] = E
  repeat refine gs1 ?_
  refine RW.bxA (cs := opC o) rfl rfl fun b3 => ?_
  repeat refine gs1 ?_
  rw [show (((n + 1 : Nat) : Int) - 1) = (n : Int) by omega]
  repeat refine gs1 ?_
  refine RW.q (v := .int .i64 (q : Int)) rfl (qa_ld rfl (Cell.row 2 rfl (pushed hl).1)) ?_
  repeat refine gs1 ?_
  refine RW.q (v := subSl kc 0 n 2) rfl (q_sliceH (m := (n : Int)) rfl rfl hkc Tryz.underlying89 (by kernel_rfl) (by omega) (by omega)) ?_
  repeat refine gs1 ?_
  refine RW.effn (J' := St ⟨w, Φ, E⟩ Φ [.blk b3 56 (opC o), mB x y q ks (subSl kc 0 n 2) u fa en, kR kc (n + 1) (cs ++ [.int .i64 (q : Int), av])]) (e_storeSl (v := subSl kc 0 n 2) (m := n) 1 rfl rfl rfl (by have := isSl_sub (l := 0) (s := 2) hkc (Nat.zero_le n) (by omega); rwa [Nat.sub_zero] at this) sz89 rfl rfl rfl) ?_
  repeat refine gs1 ?_
  exact fin_none (J' := St ⟨w, Φ, E⟩ Φ [.blk b3 56 (opC o), mB x y q ks (subSl kc 0 n 2) u fa en, kR kc (n + 1) (cs ++ [.int .i64 (q : Int), av])]) rfl rfl (fun _ h => h) (fun w1 hw1 => ⟨subSl kc 0 n 2, rfl, by
    subst hE
    have hw2 : StP _ Φ [kR kc (n + 1) (cs ++ [.int .i64 (q : Int), av]), mB x y q ks (subSl kc 0 n 2) u fa en] w1 := StP.sel hw1 [2, 1] (by decide) rfl
    have := StP.rowTake (k := n) hw2 (by omega)
    rw [List.take_left' hl] at this
    exact StP.sel this [1, 0] (by decide) rfl⟩)
theorem icallF_c (w : World) {Φ : Hp} (hu : 0 ≤ u ∧ u ≤ 10000) (h10 : 10000 ≤ u) (h0 : StP ⟨w, Φ, fps [mB x y pc ks kc u fa en]⟩ Φ [mB x y pc ks kc u fa en] w) :
    Calls pg 85 #[pB x, .agg (opC o).toArray] w (OwnU w Φ [mB x y pc ks kc u fa en] (fun _ : Unit => .tuple #[]) fun _ => [mB x y pc ks kc u 14 true]) := by
  refine calls_of_AW (args := [pB x, .agg (opC o).toArray]) Tryz.func85 rfl (lBT rfl) (St ⟨w, Φ, fps [mB x y pc ks kc u fa en]⟩ Φ [mB x y pc ks kc u fa en]) h0 ?_
  show AW _ _ [] _ _ _ [(0, pB x), (1, .agg (opC o).toArray)] _
  generalize hE : fps [mB x y pc ks kc u fa en] = E
  repeat refine gs1 ?_
  refine RW.bxA (cs := opC o) rfl rfl fun b3 => ?_
  repeat refine gs1 ?_
  refine RW.ownU (args := #[pB x]) (C2 := [.blk b3 56 (opC o)]) [1, 0] (by decide) rfl rfl oK rfl rfl (fun w1 hw1 => mstep_c w1 hu hw1) fun _ => ?_
  unfold mS
  rw [if_pos h10, decide_eq_true h10]
  repeat refine gs1 ?_
  exact fin_none (J' := St ⟨w, Φ, E⟩ Φ [mB x y pc ks kc u 14 true, .blk b3 56 (opC o)]) rfl rfl (fun _ h => h) (fun w1 hw1 => ⟨(), rfl, by subst hE; exact StP.sel hw1 [0] (by decide) rfl⟩)
theorem icallE_c (w : World) {Φ : Hp} {n : Nat} {cs : List Value} (hu : 0 ≤ u ∧ u ≤ 10000) (h10 : ¬ 10000 ≤ u) (hn : 100 ≤ n) (h0 : StP ⟨w, Φ, fps [mB x y pc ks kc u fa en, kR kc n cs]⟩ Φ [mB x y pc ks kc u fa en, kR kc n cs] w) :
    Calls pg 85 #[pB x, .agg (opC o).toArray] w (OwnU w Φ [mB x y pc ks kc u fa en, kR kc n cs] (fun _ : Unit => .tuple #[]) fun _ => [mB x y pc ks kc (u + 1) 8 true, kR kc n cs]) := by
  have hkc : IsSl kc n := mrow_sl h0 1 rfl
  refine calls_of_AW (args := [pB x, .agg (opC o).toArray]) Tryz.func85 rfl (lBT rfl) (St ⟨w, Φ, fps [mB x y pc ks kc u fa en, kR kc n cs]⟩ Φ [mB x y pc ks kc u fa en, kR kc n cs]) h0 ?_
  show AW _ _ [] _ _ _ [(0, pB x), (1, .agg (opC o).toArray)] _
  generalize hE : fps [mB x y pc ks kc u fa en, kR kc n cs] = E
  repeat refine gs1 ?_
  refine RW.bxA (cs := opC o) rfl rfl fun b3 => ?_
  repeat refine gs1 ?_
  refine RW.ownU (args := #[pB x]) (C2 := [.blk b3 56 (opC o), kR kc n cs]) [1, 0, 2] (by decide) rfl rfl oK rfl rfl (fun w1 hw1 => mstep_c w1 hu hw1) fun _ => ?_
  unfold mS
  rw [if_neg h10, decide_eq_false h10]
  repeat refine gs1 ?_
  refine AW.cond rfl (fun h => ?_) fun h => ?_
  · repeat refine gs1 ?_
    refine RW.ownU (args := #[pB x, .int .i64 8]) (C2 := [.blk b3 56 (opC o), kR kc n cs]) [0, 1, 2] (by decide) rfl rfl oK rfl rfl (fun w1 hw1 => mstop_c w1 8 hw1) fun _ => ?_
    repeat refine gs1 ?_
    exact fin_none (J' := St ⟨w, Φ, E⟩ Φ [mB x y pc ks kc (u + 1) 8 true, .blk b3 56 (opC o), kR kc n cs]) rfl rfl (fun _ h => h) (fun w1 hw1 => ⟨(), rfl, by subst hE; exact StP.sel hw1 [0, 2] (by decide) rfl⟩)
  · have := odF h; omega
theorem icall_c (w : World) {Φ : Hp} {n i q : Nat} {cs : List Value} {S2 fl : List Int} (hu : 0 ≤ u ∧ u ≤ 10000) (h10 : ¬ 10000 ≤ u) (hn : ¬ 100 ≤ n) (hB : o.B = S2.length) (hi : o.A = i) (hq : fl[i]? = some (q : Int)) (hf : RepSl Φ fl y.f2) (hb : (S ++ S2).length ≤ 900000000) (h0 : StP ⟨w, Φ, fps [mB x y pc ks kc u fa en, sR ks (S ++ S2), kR kc n cs]⟩ Φ [mB x y pc ks kc u fa en, sR ks (S ++ S2), kR kc n cs] w) :
    Calls pg 85 #[pB x, .agg (opC o).toArray] w (OwnU w Φ [mB x y pc ks kc u fa en, sR ks (S ++ S2), kR kc n cs] (fun _ : Value × Value × Value => .tuple #[]) fun z => [.row z.2.2 3 1 S2.length (S2.map (Value.int .i64)), mB x y q z.1 z.2.1 (u + 1) fa en, sR z.1 S, kR z.2.1 (n + 1) (cs ++ [.int .i64 (pc : Int), z.2.2])]) := by
  obtain ⟨k, m, a⟩ := o
  simp only at hi hB
  subst hi
  subst hB
  have hkc : IsSl kc n := mrow_sl h0 2 rfl
  have hkl : cs.length = n * 2 := mrow_len h0 2 rfl
  have hfs := hf.sl
  have hil : i < fl.length := (List.getElem?_eq_some_iff.1 hq).1
  have pf := RepSl.gi hf hil
  rw [gDD, hq, Option.getD_some] at pf
  rw [List.length_append] at hb
  refine calls_of_AW (args := [pB x, .agg (opC ⟨k, (i : Int), (S2.length : Int)⟩).toArray]) Tryz.func85 rfl (lBT rfl) (St ⟨w, Φ, fps [mB x y pc ks kc u fa en, sR ks (S ++ S2), kR kc n cs]⟩ Φ [mB x y pc ks kc u fa en, sR ks (S ++ S2), kR kc n cs]) h0 ?_
  show AW _ _ [] _ _ _ [(0, pB x), (1, .agg (opC ⟨k, (i : Int), (S2.length : Int)⟩).toArray)] _
  generalize hE : fps [mB x y pc ks kc u fa en, sR ks (S ++ S2), kR kc n cs] = E
  repeat refine gs1 ?_
  refine RW.bxA (cs := [.int .i64 k, .int .i64 (i : Int), .int .i64 (S2.length : Int)]) rfl rfl fun b3 => ?_
  repeat refine gs1 ?_
  refine RW.ownU (args := #[pB x]) (C2 := [.blk b3 56 ([.int .i64 k, .int .i64 (i : Int), .int .i64 (S2.length : Int)]), sR ks (S ++ S2), kR kc n cs]) [1, 0, 2, 3] (by decide) rfl rfl oK rfl rfl (fun w1 hw1 => mstep_c w1 hu hw1) fun _ => ?_
  unfold mS
  rw [if_neg h10, decide_eq_false h10]
  repeat refine gs1 ?_
  refine AW.cond rfl (fun h => ?_) fun h => ?_
  · have := odT h; omega
  repeat refine gs1 ?_
  generalize hL : S2.length = L at hb ⊢
  refine RW.eff _ _ rfl (e_makeSlice (l := L) (c := L) (n := L) (xs := List.replicate L (.int .i64 0)) rfl rfl Tryz.underlying29 inf3 (Nat.le_refl _) (by omega) (by omega) (Nat.mul_one _) made_one) fun bq => ?_
  repeat refine gs1 ?_
  refine AW.wk (J' := St ⟨w, Φ, E⟩ Φ [.row (nR bq L) 3 1 L ((List.replicate L (0 : Int) ++ S2.drop L).map (Value.int .i64)), mB x y pc ks kc (u + 1) fa en, sR ks (S ++ S2.take L), .blk b3 56 ([.int .i64 k, .int .i64 (i : Int), .int .i64 (L : Int)]), kR kc n cs]) (fun w1 h => ?_) ?_
  · rw [List.drop_of_length_le (by omega), List.append_nil, List.take_of_length_le (by omega), List.map_replicate]
    exact StP.sel h [0, 1, 3, 2, 4] (by decide) rfl
  refine AW.loop (fun s J m => ∃ (j : Nat) (z : Value), s = [(0, pB x), (3, pB b3), (4, nR bq L), (5, .int .i64 ((j : Int) - 1))] ∧ J = St ⟨w, Φ, E⟩ Φ [.row (nR bq L) 3 1 L ((List.replicate j (0 : Int) ++ S2.drop j).map (Value.int .i64)), mB x y pc z kc (u + 1) fa en, sR z (S ++ S2.take j), .blk b3 56 ([.int .i64 k, .int .i64 (i : Int), .int .i64 (L : Int)]), kR kc n cs] ∧ m = j + 0 * j ∧ j ≤ L) (s0 := _) (J1 := _) (m0 := _) ⟨L, ks, rfl, rfl, rfl, Nat.le_refl _⟩ ⟨rfl, rfl, rfl, rfl, trivial⟩ (fun _ h => h) ?_
  rintro _ _ _ _ ⟨j, z, rfl, rfl, rfl, hj⟩
  repeat refine gs1 ?_
  refine AW.cond rfl (fun h => ?_) fun h => ?_
  · have h : (0 : Int) ≤ (j : Int) - 1 := odT h
    obtain ⟨t, rfl⟩ : ∃ t, j = t + 1 := ⟨j - 1, by omega⟩
    have htk : S ++ S2.take (t + 1) = (S ++ S2.take t) ++ [S2.getD t 0] := by
      rw [List.append_assoc, List.take_add_one, List.getElem?_eq_getElem (by omega), gDD, List.getElem?_eq_getElem (by omega)]; rfl
    rw [htk, show (((t + 1 : Nat) : Int) - 1) = (t : Int) by omega]
    repeat refine gs1 ?_
    refine RW.ownU (args := #[pB x]) (C2 := [.row (nR bq L) 3 1 L ((List.replicate (t + 1) (0 : Int) ++ S2.drop (t + 1)).map (Value.int .i64)), .blk b3 56 ([.int .i64 k, .int .i64 (i : Int), .int .i64 (L : Int)]), kR kc n cs]) [1, 2, 0, 3, 4] (by decide) rfl rfl oK rfl rfl (fun w1 hw1 => mpop_c (S := S ++ S2.take t) (v := S2.getD t 0) w1 (by rw [List.length_append, List.length_take]; omega) hw1) fun z2 => ?_
    repeat refine gs1 ?_
    refine RW.effn (J' := St ⟨w, Φ, E⟩ Φ [mB x y pc z2 kc (u + 1) fa en, sR z2 (S ++ S2.take t), .row (nR bq L) 3 1 L ((List.replicate t (0 : Int) ++ S2.drop t).map (Value.int .i64)), .blk b3 56 ([.int .i64 k, .int .i64 (i : Int), .int .i64 (L : Int)]), kR kc n cs]) (e_storeRow (n := 0) 2 rfl rfl rfl sz3 rfl rfl (by simp only [List.length_map, List.length_append, List.length_replicate, List.length_drop]; omega) (args_step hL (by omega)) rfl) ?_
    repeat refine gs1 ?_
    exact Post.back (s' := _) (J' := _) (m' := _) (by omega) ⟨t, z2, rfl, rfl, rfl, by omega⟩ ⟨rfl, rfl, rfl, rfl, trivial⟩ (fun _ h => StP.sel h [2, 0, 1, 3, 4] (by decide) rfl)
  have h : ¬ (0 : Int) ≤ (j : Int) - 1 := odF h
  obtain rfl : j = 0 := by omega
  rw [List.take_zero, List.append_nil, List.replicate_zero, List.nil_append, List.drop_zero]
  repeat refine gs1 ?_
  refine AW.drawZ (J0 := St ⟨w, Φ, E⟩ Φ [mB x y pc z kc (u + 1) fa en]) [.q, .q, .q, .q, .q, .q, .q, .q, .q, .q, .q, .e, .e, .q, .q, .e] [0, 1, 2, 3, 4, 5, 6, 7, 8, 9, 10, 11, 12, 13, 14, 15] hmix (by kernel_rfl) ?_
  repeat refine gs1 ?_
  refine DW.q (v := .agg [.int .i64 (pc : Int), nR bq L].toArray) (fun _ h => StP.sel h [1] (by decide) rfl) rfl (q_build (vals := [(0, .int .i64 (pc : Int)), (1, nR bq L)]) zero209 Tryz.underlying209 places209 rfl rfl) ?_
  refine DW.eff _ _ (fun _ b w1 h => StP.sel h [2] (by decide) rfl) rfl (e_buildSlice (vals := [(0, .agg [.int .i64 (pc : Int), nR bq L].toArray)]) (cells := [.int .i64 (pc : Int), nR bq L]) Tryz.underlying89 inf209 rfl rfl rfl (by kernel_rfl) rfl) fun b11 => ?_
  refine DW.eff (fun xv : {vq : Value // IsSl vq (n + 1)} => xv.1) (fun xv => St ⟨w, Φ, E⟩ Φ [.row (.slice (some ⟨b11, 0, none⟩) 1 1) 209 2 1 [.int .i64 (pc : Int), nR bq L], .row (nR bq L) 3 1 L (S2.map (Value.int .i64)), mB x y pc z kc (u + 1) fa en, sR z S, .blk b3 56 ([.int .i64 k, .int .i64 (i : Int), .int .i64 (L : Int)]), kR xv.1 (n + 1) (cs ++ [.int .i64 (pc : Int), nR bq L])]) (fun _ _ w1 h => StP.sel h [2] (by decide) rfl) rfl (e_append 5 rfl rfl rfl Tryz.underlying89 inf209 rfl rfl rfl (Cells.row0 0 rfl) rfl (by omega) (by omega) (fun _ => rfl)) ?_
  rintro ⟨z4, hz4⟩
  simp only
  repeat refine gs1 ?_
  refine DW.effn (J' := St ⟨w, Φ, E⟩ Φ [.row (.slice (some ⟨b11, 0, none⟩) 1 1) 209 2 1 [.int .i64 (pc : Int), nR bq L], .row (nR bq L) 3 1 L (S2.map (Value.int .i64)), mB x y pc z z4 (u + 1) fa en, sR z S, .blk b3 56 ([.int .i64 k, .int .i64 (i : Int), .int .i64 (L : Int)]), kR z4 (n + 1) (cs ++ [.int .i64 (pc : Int), nR bq L])]) (fun h => absurd rfl h) (e_storeSl (v := z4) (m := n + 1) 2 rfl rfl rfl hz4 sz89 rfl rfl rfl) ?_
  repeat refine gs1 ?_
  refine AW.wk (J' := St ⟨w, Φ, E⟩ Φ [mB x y pc z z4 (u + 1) fa en, .blk b3 56 ([.int .i64 k, .int .i64 (i : Int), .int .i64 (L : Int)]), .row (nR bq L) 3 1 L (S2.map (Value.int .i64)), sR z S, kR z4 (n + 1) (cs ++ [.int .i64 (pc : Int), nR bq L])]) (fun _ h => StP.sel h [2, 4, 1, 3, 5] (by decide) rfl) ?_
  refine AW.drawZ (J0 := St ⟨w, Φ, E⟩ Φ [mB x y pc z z4 (u + 1) fa en, .blk b3 56 ([.int .i64 k, .int .i64 (i : Int), .int .i64 (L : Int)]), .row (nR bq L) 3 1 L (S2.map (Value.int .i64)), sR z S, kR z4 (n + 1) (cs ++ [.int .i64 (pc : Int), nR bq L])]) [.q, .q, .q, .q, .q, .q, .q, .q, .q, .q, .q, .q, .e] [0, 1, 2, 3, 4, 5, 6, 7, 8, 9, 10, 11, 12] hmix (by kernel_rfl) ?_
  repeat refine gs1 ?_
  exact fin_none (J' := St ⟨w, Φ, E⟩ Φ [mB x y q z z4 (u + 1) fa en, .blk b3 56 ([.int .i64 k, .int .i64 (i : Int), .int .i64 (L : Int)]), .row (nR bq L) 3 1 L (S2.map (Value.int .i64)), sR z S, kR z4 (n + 1) (cs ++ [.int .i64 (pc : Int), nR bq L])]) rfl rfl (fun _ h => h) (fun w1 hw1 => ⟨(z, z4, nR bq L), rfl, by subst hE; subst hL; exact StP.sel hw1 [2, 0, 3, 4] (by decide) rfl⟩)
theorem iclF_c (w : World) {Φ : Hp} {s : List Bool} (hu : 0 ≤ u ∧ u ≤ 10000) (h10 : 10000 ≤ u) (h0 : StP ⟨w, Φ, fps [mB x y pc ks kc u fa en, eR y s]⟩ Φ [mB x y pc ks kc u fa en, eR y s] w) :
    Calls pg 87 #[pB x, .agg (opC o).toArray] w (OwnU w Φ [mB x y pc ks kc u fa en, eR y s] (fun _ : Unit => .tuple #[]) fun _ => [mB x y pc ks kc u 14 true, eR y s]) := by
  refine calls_of_AW (args := [pB x, .agg (opC o).toArray]) Tryz.func87 rfl (lBT rfl) (St ⟨w, Φ, fps [mB x y pc ks kc u fa en, eR y s]⟩ Φ [mB x y pc ks kc u fa en, eR y s]) h0 ?_
  show AW _ _ [] _ _ _ [(0, pB x), (1, .agg (opC o).toArray)] _
  generalize hE : fps [mB x y pc ks kc u fa en, eR y s] = E
  repeat refine gs1 ?_
  refine RW.bxA (cs := opC o) rfl rfl fun b3 => ?_
  repeat refine gs1 ?_
  have hSom : ∀ (u1 f1 : Int) (e1 : Bool) (w1 : World), StP ⟨w, Φ, E⟩ Φ [mB x y pc ks kc u1 f1 e1, .blk b3 56 (opC o), eR y s] w1 → StP ⟨w, Φ, E⟩ Φ [.som x 91 [(29, y.sv)], .blk b3 56 (opC o), eR y s] w1 := fun u1 f1 e1 w1 h => StP.toSom h (by simp)
  refine AW.wk (J' := St ⟨w, Φ, E⟩ Φ [mB x y pc ks kc u fa en, .blk b3 56 (opC o), eR y s]) (fun _ h => StP.sel h [1, 0, 2] (by decide) rfl) ?_
  refine AW.drawZ (J0 := St ⟨w, Φ, E⟩ Φ [.som x 91 [(29, y.sv)], .blk b3 56 (opC o), eR y s]) [.q, .e, .q, .q, .q, .q, .q, .q, .q, .q, .q, .q] [0, 1, 2, 3, 4, 5, 6, 7, 8, 9, 10, 11] hmix (by kernel_rfl) ?_
  refine DW.q (hSom _ _ _) rfl (q_move rfl) ?_
  refine DW.ownU (args := #[pB x]) (C2 := [.blk b3 56 (opC o), eR y s]) [0, 1, 2] (by decide) rfl rfl oK rfl rfl (fun w1 hw1 => mstepF_c w1 hu h10 hw1) (fun _ w1 h => hSom _ _ _ _ h) fun _ => ?_
  refine DW.q (hSom _ _ _) rfl (q_move rfl) ?_
  refine DW.g (b := false) (v := .bool false) (hSom _ _ _) rfl rfl rfl (fun h => by simp at h) ?_
  refine DW.g (b := false) (v := .bool false) (hSom _ _ _) rfl rfl rfl (fun h => by simp at h) ?_
  refine DW.g (b := false) (v := .bool false) (hSom _ _ _) rfl rfl rfl (fun h => by simp at h) ?_
  refine DW.g (b := false) (v := .bool false) (hSom _ _ _) rfl rfl rfl (fun h => by simp at h) ?_
  refine DW.g (b := false) (v := .bool false) (hSom _ _ _) rfl rfl rfl (fun h => by simp at h) ?_
  refine DW.g (b := false) (v := .bool false) (hSom _ _ _) rfl rfl rfl (fun h => by simp at h) ?_
  refine DW.g (b := false) (v := .bool false) (hSom _ _ _) rfl rfl rfl (fun h => by simp at h) ?_
  refine DW.g (b := false) (v := .bool false) (hSom _ _ _) rfl rfl rfl (fun h => by simp at h) ?_
  refine DW.q (v := .bool false) (hSom _ _ _) rfl (q_pick rfl (fun h => nomatch h) (fun _ => rfl)) ?_
  repeat refine gs1 ?_
  exact fin_none (J' := St ⟨w, Φ, E⟩ Φ [mB x y pc ks kc u 14 true, .blk b3 56 (opC o), eR y s]) rfl rfl (fun _ h => h) (fun w1 hw1 => ⟨(), rfl, by subst hE; exact StP.sel hw1 [0, 2] (by decide) rfl⟩)
theorem icl_c (w : World) {Φ : Hp} {s : List Bool} {i q : Nat} (hu : 0 ≤ u ∧ u ≤ 10000) (h10 : ¬ 10000 ≤ u) (hi : o.A = i) (hil : i < s.length) (hq : s.getD i false = true → o.B = q) (h0 : StP ⟨w, Φ, fps [mB x y pc ks kc u fa en, eR y s]⟩ Φ [mB x y pc ks kc u fa en, eR y s] w) :
    Calls pg 87 #[pB x, .agg (opC o).toArray] w (OwnU w Φ [mB x y pc ks kc u fa en, eR y s] (fun _ : Unit => .tuple #[]) fun _ => [mB x y (if s.getD i false = true then q else pc) ks kc (u + 1) fa en, eR y s]) := by
  obtain ⟨k, m, a⟩ := o
  simp only at hi hq
  subst hi
  have hss : IsSl y.sv s.length := mrow_sl h0 1 rfl
  refine calls_of_AW (args := [pB x, .agg (opC ⟨k, (i : Int), a⟩).toArray]) Tryz.func87 rfl (lBT rfl) (St ⟨w, Φ, fps [mB x y pc ks kc u fa en, eR y s]⟩ Φ [mB x y pc ks kc u fa en, eR y s]) h0 ?_
  show AW _ _ [] _ _ _ [(0, pB x), (1, .agg (opC ⟨k, (i : Int), a⟩).toArray)] _
  generalize hE : fps [mB x y pc ks kc u fa en, eR y s] = E
  repeat refine gs1 ?_
  refine RW.bxA (cs := [.int .i64 k, .int .i64 (i : Int), .int .i64 a]) rfl rfl fun b3 => ?_
  repeat refine gs1 ?_
  have hSom : ∀ (u1 f1 : Int) (e1 : Bool) (w1 : World), StP ⟨w, Φ, E⟩ Φ [mB x y pc ks kc u1 f1 e1, .blk b3 56 ([.int .i64 k, .int .i64 (i : Int), .int .i64 a]), eR y s] w1 → StP ⟨w, Φ, E⟩ Φ [.som x 91 [(29, y.sv)], .blk b3 56 ([.int .i64 k, .int .i64 (i : Int), .int .i64 a]), eR y s] w1 := fun u1 f1 e1 w1 h => StP.toSom h (by simp)
  refine AW.wk (J' := St ⟨w, Φ, E⟩ Φ [mB x y pc ks kc u fa en, .blk b3 56 ([.int .i64 k, .int .i64 (i : Int), .int .i64 a]), eR y s]) (fun _ h => StP.sel h [1, 0, 2] (by decide) rfl) ?_
  refine AW.drawZ (J0 := St ⟨w, Φ, E⟩ Φ [.som x 91 [(29, y.sv)], .blk b3 56 ([.int .i64 k, .int .i64 (i : Int), .int .i64 a]), eR y s]) [.q, .e, .q, .q, .q, .q, .q, .q, .q, .q, .q, .q] [0, 1, 2, 3, 4, 5, 6, 7, 8, 9, 10, 11] hmix (by kernel_rfl) ?_
  refine DW.q (hSom _ _ _) rfl (q_move rfl) ?_
  refine DW.ownU (args := #[pB x]) (C2 := [.blk b3 56 ([.int .i64 k, .int .i64 (i : Int), .int .i64 a]), eR y s]) [0, 1, 2] (by decide) rfl rfl oK rfl rfl (fun w1 hw1 => mstepT_c w1 hu h10 hw1) (fun _ w1 h => hSom _ _ _ _ h) fun _ => ?_
  refine DW.q (hSom _ _ _) rfl (q_move rfl) ?_
  refine DW.g (b := true) (v := pB x) (hSom _ _ _) rfl rfl rfl (fun hh => q_move (gv_pos hh)) ?_
  refine DW.g (b := true) (v := pB x) (hSom _ _ _) rfl rfl rfl (fun hh => qa_nc (gv_pos hh)) ?_
  refine DW.g (b := true) (v := .pointer (some ⟨x, 29, none⟩)) (hSom _ _ _) rfl rfl rfl (fun hh => qa_fa0 (gv_pos hh)) ?_
  refine DW.g (b := true) (v := y.sv) (hSom _ _ _) rfl rfl rfl (fun hh => qa_ld (gv_pos hh) (Cell.som 0 rfl (by simp))) ?_
  refine DW.g (b := true) (v := .pointer (some ⟨b3, 1, none⟩)) (hSom _ _ _) rfl rfl rfl (fun hh => qa_fa0 (gv_pos hh)) ?_
  refine DW.g (b := true) (v := .int .i64 (i : Int)) (hSom _ _ _) rfl rfl rfl (fun hh => qa_ld (gv_pos hh) (Cell.blk 1 rfl rfl)) ?_
  refine DW.g (b := true) (v := .pointer (some (Value.at y.sv (i * 1)))) (hSom _ _ _) rfl rfl rfl (fun hh => qa_ixN (n := s.length) (i := i) (gv_pos hh) (gv_pos hh) hss hil) ?_
  refine DW.g (b := true) (v := .bool (s.getD i false)) (hSom _ _ _) rfl rfl rfl (fun hh => qa_ld (gv_pos hh) (Cell.row 2 rfl (by rw [Nat.mul_one, List.getElem?_map, gDD, List.getElem?_eq_getElem hil]; rfl))) ?_
  refine DW.q (v := .bool (s.getD i false)) (hSom _ _ _) rfl (q_pick rfl (fun _ => rfl) (fun h => nomatch h)) ?_
  repeat refine gs1 ?_
  refine AW.cond rfl (fun h => ?_) fun h => ?_
  · obtain rfl := hq h
    repeat refine gs1 ?_
    exact fin_none (J' := St ⟨w, Φ, E⟩ Φ [mB x y q ks kc (u + 1) fa en, .blk b3 56 ([.int .i64 k, .int .i64 (i : Int), .int .i64 (q : Int)]), eR y s]) rfl rfl (fun _ h => h) (fun w1 hw1 => ⟨(), rfl, by subst hE; rw [if_pos h]; exact StP.sel hw1 [0, 2] (by decide) rfl⟩)
  · repeat refine gs1 ?_
    exact fin_none (J' := St ⟨w, Φ, E⟩ Φ [mB x y pc ks kc (u + 1) fa en, .blk b3 56 ([.int .i64 k, .int .i64 (i : Int), .int .i64 a]), eR y s]) rfl rfl (fun _ h => h) (fun w1 hw1 => ⟨(), rfl, by subst hE; rw [if_neg (by rw [h]; simp)]; exact StP.sel hw1 [0, 2] (by decide) rfl⟩)
--REST

variable {x pc : Nat} {y : MnV} {ks kc : Value} {u fa : Int} {en : Bool} {S : List Int} {o : Vm.Op}
theorem set_ints {t : List Int} {i : Nat} {v : Int} (h : i < t.length) : splice (t.map (Value.int .i64)) (i * 1) (Value.int .i64 v).cells.toList = (t.set i v).map (Value.int .i64) := by
  rw [Nat.mul_one]; exact splice_map h
theorem set_bools {t : List Bool} {i : Nat} {v : Bool} (h : i < t.length) : splice (t.map Value.bool) (i * 1) (Value.bool v).cells.toList = (t.set i v).map Value.bool := by
  rw [Nat.mul_one]; exact splice_map h

theorem iset_c (w : World) {Φ : Hp} {v : Int} {t : List Int} {s : List Bool} {ps : List Int} {i : Nat} (hi : o.A = i) (hil : i < s.length) (hit : i < t.length) (hp : PosS Φ y.b.lv ps) (hpl : i < ps.length) (hls : IsSl y.b.lv ps.length) (hb : S.length ≤ 900000000) (h0 : StP ⟨w, Φ, fps [mB x y pc ks kc u fa en, sR ks (S ++ [v]), tR y t, eR y s]⟩ Φ [mB x y pc ks kc u fa en, sR ks (S ++ [v]), tR y t, eR y s] w) :
    Calls pg 88 #[pB x, .agg (opC o).toArray] w (OwnU w Φ [mB x y pc ks kc u fa en, sR ks (S ++ [v]), tR y t, eR y s] (fun _ : Value => .tuple #[]) fun z => [mB x y pc z kc u fa en, sR z S, tR y (t.set i (Mn.clampI v 0 (ps.getD i 0))), eR y (s.set i true)]) := by
  obtain ⟨k, m, a⟩ := o
  simp only at hi
  subst hi
  have hss : IsSl y.sv s.length := mrow_sl h0 3 rfl
  have hts : IsSl y.tv t.length := mrow_sl h0 2 rfl
  have pp := hp i hpl
  refine calls_of_AW (args := [pB x, .agg (opC ⟨k, (i : Int), a⟩).toArray]) Tryz.func88 rfl (lBT rfl) (St ⟨w, Φ, fps [mB x y pc ks kc u fa en, sR ks (S ++ [v]), tR y t, eR y s]⟩ Φ [mB x y pc ks kc u fa en, sR ks (S ++ [v]), tR y t, eR y s]) h0 ?_
  show AW _ _ [] _ _ _ [(0, pB x), (1, .agg (opC ⟨k, (i : Int), a⟩).toArray)] _
  generalize hE : fps [mB x y pc ks kc u fa en, sR ks (S ++ [v]), tR y t, eR y s] = E
  repeat refine gs1 ?_
  refine RW.bxA (cs := [.int .i64 k, .int .i64 (i : Int), .int .i64 a]) rfl rfl fun b3 => ?_
  repeat refine gs1 ?_
  have hA : ∀ w1, StP ⟨w, Φ, E⟩ Φ [.blk b3 56 ([.int .i64 k, .int .i64 (i : Int), .int .i64 a]), mB x y pc ks kc u fa en, sR ks (S ++ [v]), tR y t, eR y s] w1 → StP ⟨w, Φ, E⟩ Φ [.som x 91 [(4, y.b.lv), (28, y.tv)], .blk b3 56 ([.int .i64 k, .int .i64 (i : Int), .int .i64 a]), tR y t] w1 := fun w1 h => StP.toSom (StP.sel h [1, 0, 3] (by decide) rfl) (by simp)
  refine AW.drawZ (J0 := St ⟨w, Φ, E⟩ Φ [.som x 91 [(4, y.b.lv), (28, y.tv)], .blk b3 56 ([.int .i64 k, .int .i64 (i : Int), .int .i64 a]), tR y t]) [.q, .q, .q, .q, .q, .q, .q, .q, .q, .q, .q, .q, .q, .q, .q, .q, .q, .e, .q, .q, .e] [0, 1, 2, 3, 4, 5, 6, 8, 9, 10, 11, 12, 13, 14, 15, 16, 17, 7, 18, 19, 20] hmix (by kernel_rfl) ?_
  refine DW.q (v := pB x) (hA) rfl (q_move rfl) ?_
  refine DW.q (v := pB x) (hA) rfl (qa_nc rfl) ?_
  refine DW.q (v := .pointer (some ⟨x, 28, none⟩)) (hA) rfl (qa_fa0 rfl) ?_
  refine DW.q (v := y.tv) (hA) rfl (qa_ld rfl (Cell.som 0 rfl (by simp))) ?_
  refine DW.q (v := .pointer (some ⟨b3, 1, none⟩)) (hA) rfl (qa_fa0 rfl) ?_
  refine DW.q (v := .int .i64 (i : Int)) (hA) rfl (qa_ld rfl (Cell.blk 1 rfl rfl)) ?_
  refine DW.q (v := pB x) (hA) rfl (q_move rfl) ?_
  refine DW.q (v := pB x) (hA) rfl (q_move rfl) ?_
  refine DW.q (v := pB x) (hA) rfl (qa_nc rfl) ?_
  refine DW.q (v := .pointer (some ⟨x, 0, none⟩)) (hA) rfl (qa_fa0 rfl) ?_
  refine DW.q (v := .pointer (some ⟨x, 0 + 4, none⟩)) (hA) rfl (qa_fab (p := 0) rfl) ?_
  refine DW.q (v := y.b.lv) (hA) rfl (qa_ld rfl (Cell.som 0 rfl (by simp))) ?_
  refine DW.q (v := .pointer (some ⟨b3, 1, none⟩)) (hA) rfl (qa_fa0 rfl) ?_
  refine DW.q (v := .int .i64 (i : Int)) (hA) rfl (qa_ld rfl (Cell.blk 1 rfl rfl)) ?_
  refine DW.q (v := .pointer (some (Value.at y.b.lv (i * 18)))) (hA) rfl (qa_ixN (n := ps.length) (i := i) rfl rfl hls hpl) ?_
  refine DW.q (v := .pointer (some (Value.at y.b.lv (i * 18 + 7)))) (hA) rfl (qa_fat rfl) ?_
  refine DW.q (v := .int .i64 (ps.getD i 0)) (hA) rfl (qa_ld rfl (Cell.phi pp)) ?_
  refine DW.ownU (args := #[pB x]) (C2 := [.blk b3 56 ([.int .i64 k, .int .i64 (i : Int), .int .i64 a]), tR y t, eR y s]) [1, 2, 0, 3, 4] (by decide) rfl rfl oK rfl rfl (fun w1 hw1 => mpop_c (S := S) (v := v) w1 (by omega) hw1) (fun z w1 h => StP.toSom (StP.sel h [0, 2, 3] (by decide) rfl) (by simp)) fun z => ?_
  have hA2 : ∀ w1, StP ⟨w, Φ, E⟩ Φ [mB x y pc z kc u fa en, sR z S, .blk b3 56 ([.int .i64 k, .int .i64 (i : Int), .int .i64 a]), tR y t, eR y s] w1 → StP ⟨w, Φ, E⟩ Φ [.som x 91 [(4, y.b.lv), (28, y.tv)], .blk b3 56 ([.int .i64 k, .int .i64 (i : Int), .int .i64 a]), tR y t] w1 := fun w1 h => StP.toSom (StP.sel h [0, 2, 3] (by decide) rfl) (by simp)
  refine DW.q (hA2) rfl (q_call (args := #[.int .i64 v, .int .i64 0, .int .i64 (ps.getD i 0)]) oK rfl rfl (fun w1 hw1 => Clamp_c w1 (Go.K.hp w1) (Hp.le_refl _))) ?_
  refine DW.q (v := .pointer (some (Value.at y.tv (i * 1)))) (hA2) rfl (qa_ixN (n := t.length) (i := i) rfl rfl hts hit) ?_
  refine DW.effn (J' := St ⟨w, Φ, E⟩ Φ [mB x y pc z kc u fa en, sR z S, .blk b3 56 ([.int .i64 k, .int .i64 (i : Int), .int .i64 a]), .row y.tv 3 1 t.length ((t.set i (Mn.clampI v 0 (ps.getD i 0))).map (Value.int .i64)), eR y s]) (fun h => absurd rfl h) (e_storeRow (n := 0) 3 rfl rfl rfl sz3 rfl rfl (by rw [List.length_map]; omega) (set_ints hit) rfl) ?_
  repeat refine gs1 ?_
  refine AW.drawZ (J0 := St ⟨w, Φ, E⟩ Φ [mB x y pc z kc u fa en, sR z S, .blk b3 56 ([.int .i64 k, .int .i64 (i : Int), .int .i64 a]), .row y.tv 3 1 t.length ((t.set i (Mn.clampI v 0 (ps.getD i 0))).map (Value.int .i64)), eR y s]) [.q, .q, .q, .q, .q, .q, .q, .e] [0, 1, 2, 3, 4, 5, 6, 7] hmix (by kernel_rfl) ?_
  repeat refine gs1 ?_
  refine DW.effn (J' := St ⟨w, Φ, E⟩ Φ [mB x y pc z kc u fa en, sR z S, .blk b3 56 ([.int .i64 k, .int .i64 (i : Int), .int .i64 a]), .row y.tv 3 1 t.length ((t.set i (Mn.clampI v 0 (ps.getD i 0))).map (Value.int .i64)), .row y.sv 4 1 s.length ((s.set i true).map Value.bool)]) (fun h => absurd rfl h) (e_storeRow (n := 0) 4 rfl rfl rfl sz4 rfl rfl (by rw [List.length_map]; omega) (set_bools hil) rfl) ?_
  repeat refine gs1 ?_
  exact fin_none (J' := St ⟨w, Φ, E⟩ Φ [mB x y pc z kc u fa en, sR z S, .blk b3 56 ([.int .i64 k, .int .i64 (i : Int), .int .i64 a]), .row y.tv 3 1 t.length ((t.set i (Mn.clampI v 0 (ps.getD i 0))).map (Value.int .i64)), .row y.sv 4 1 s.length ((s.set i true).map Value.bool)]) rfl rfl (fun _ h => h) (fun w1 hw1 => ⟨z, rfl, by subst hE; have e1 : (t.set i (Mn.clampI v 0 (ps.getD i 0))).length = t.length := List.length_set ..; have e2 : (s.set i true).length = s.length := List.length_set ..; show StP _ Φ [mB x y pc z kc u fa en, sR z S, .row y.tv 3 1 (t.set i (Mn.clampI v 0 (ps.getD i 0))).length _, .row y.sv 4 1 (s.set i true).length _] w1; rw [e1, e2]; exact StP.sel hw1 [0, 1, 3, 4] (by decide) rfl⟩)
theorem ifact_c (w : World) {Φ : Hp} {f : Bt.Facts} (hf : y.fc.ok Φ f) (hn : 0 ≤ o.A ∧ o.A < 8) (hB : 0 ≤ o.B) (hB2 : o.B ≤ 9223372036854775807) (hb : S.length ≤ 900000000) (h0 : StP ⟨w, Φ, fps [mB x y pc ks kc u fa en, sR ks S]⟩ Φ [mB x y pc ks kc u fa en, sR ks S] w) :
    Calls pg 77 #[pB x, .agg (opC o).toArray] w (OwnU w Φ [mB x y pc ks kc u fa en, sR ks S] (fun _ : Value => .tuple #[]) fun z => [mB x y pc z kc u fa en, sR z (S ++ [Mn.factV f y.d o.A (o.B / 1024) (o.B % 1024)])]) := by
  obtain ⟨k, n, bb⟩ := o
  simp only at hn hB hB2
  have svol := hf.vol.sl
  have slev := hf.lev.sl
  have sown := hf.own.sl
  have spos := hf.pos.sl
  have scre := hf.cre.sl
  obtain ⟨oo, ho⟩ : ∃ oo, oo = bb / 1024 := ⟨_, rfl⟩
  obtain ⟨qq, hq⟩ : ∃ qq, qq = bb % 1024 := ⟨_, rfl⟩
  refine calls_of_AW (args := [pB x, .agg (opC ⟨k, n, bb⟩).toArray]) Tryz.func77 rfl (lBT rfl) (St ⟨w, Φ, fps [mB x y pc ks kc u fa en, sR ks S]⟩ Φ [mB x y pc ks kc u fa en, sR ks S]) h0 ?_
  show AW _ _ [] _ _ _ [(0, pB x), (1, .agg (opC ⟨k, n, bb⟩).toArray)] _
  generalize hE : fps [mB x y pc ks kc u fa en, sR ks S] = E
  repeat refine gs1 ?_
  refine RW.bxA (cs := [.int .i64 k, .int .i64 n, .int .i64 bb]) rfl rfl fun b3 => ?_
  repeat refine gs1 ?_
  refine AW.drawZ (J0 := St ⟨w, Φ, E⟩ Φ [.blk b3 56 ([.int .i64 k, .int .i64 n, .int .i64 bb]), mB x y pc ks kc u fa en, sR ks S]) [.q, .q, .q, .q, .q, .q, .q, .q] [0, 1, 2, 6, 3, 4, 5, 7] hmix (by kernel_rfl) ?_
  repeat refine gs1 ?_
  refine DW.q (v := .int .i64 oo) (fun _ h => h) rfl (q_quo rfl rfl (by decide) (by rw [Int.tdiv_eq_ediv_of_nonneg hB, ho]) (by unfold I64; omega)) ?_
  repeat refine gs1 ?_
  refine DW.q (v := .int .i64 qq) (fun _ h => h) rfl (q_rem rfl rfl (by decide) (by rw [Int.tmod_eq_emod_of_nonneg hB, hq])) ?_
  repeat refine gs1 ?_
  have hV : Mn.factV f y.d n (bb / 1024) (bb % 1024) = Mn.factV f y.d n oo qq := by rw [ho, hq]
  refine AW.cond rfl (fun h => ?_) fun n0 => ?_
  · have h : n = 0 := odT h
    repeat refine gs1 ?_
    refine RW.q rfl (q_call (args := #[y.fc.vol, .int .i64 oo, .int .i64 (0)]) oK rfl rfl (fun w1 hw1 => vat_c w1 (hf.vol.mono hw1.phi))) ?_
    repeat refine gs1 ?_
    refine RW.ownU (args := #[pB x, .int .i64 (atO f.Volume oo (0))]) (C2 := [.blk b3 56 ([.int .i64 k, .int .i64 n, .int .i64 bb])]) [1, 2, 0] (by decide) rfl rfl oK rfl rfl (fun w1 hw1 => mpush_c w1 (atO f.Volume oo (0)) (by omega) hw1) fun z => ?_
    repeat refine gs1 ?_
    exact fin_none (J' := St ⟨w, Φ, E⟩ Φ [mB x y pc z kc u fa en, sR z (S ++ [atO f.Volume oo (0)]), .blk b3 56 ([.int .i64 k, .int .i64 n, .int .i64 bb])]) rfl rfl (fun _ h => h) (fun w1 hw1 => ⟨z, rfl, by subst hE; show StP _ Φ [mB x y pc z kc u fa en, sR z (S ++ [Mn.factV f y.d n (bb / 1024) (bb % 1024)])] w1; rw [hV, show Mn.factV f y.d n oo qq = atO f.Volume oo (0) by unfold Mn.factV; rw [if_pos h]; rfl]; exact StP.sel hw1 [0, 1] (by decide) rfl⟩)
  have n0 : n ≠ 0 := odF n0
  repeat refine gs1 ?_
  refine AW.cond rfl (fun h => ?_) fun n1 => ?_
  · have h : n = 1 := odT h
    repeat refine gs1 ?_
    refine RW.q rfl (q_call (args := #[y.fc.lev, .int .i64 oo, .int .i64 (0)]) oK rfl rfl (fun w1 hw1 => vat_c w1 (hf.lev.mono hw1.phi))) ?_
    repeat refine gs1 ?_
    refine RW.ownU (args := #[pB x, .int .i64 (atO f.Level oo (0))]) (C2 := [.blk b3 56 ([.int .i64 k, .int .i64 n, .int .i64 bb])]) [1, 2, 0] (by decide) rfl rfl oK rfl rfl (fun w1 hw1 => mpush_c w1 (atO f.Level oo (0)) (by omega) hw1) fun z => ?_
    repeat refine gs1 ?_
    exact fin_none (J' := St ⟨w, Φ, E⟩ Φ [mB x y pc z kc u fa en, sR z (S ++ [atO f.Level oo (0)]), .blk b3 56 ([.int .i64 k, .int .i64 n, .int .i64 bb])]) rfl rfl (fun _ h => h) (fun w1 hw1 => ⟨z, rfl, by subst hE; show StP _ Φ [mB x y pc z kc u fa en, sR z (S ++ [Mn.factV f y.d n (bb / 1024) (bb % 1024)])] w1; rw [hV, show Mn.factV f y.d n oo qq = atO f.Level oo (0) by unfold Mn.factV; rw [if_neg n0, if_pos h]; rfl]; exact StP.sel hw1 [0, 1] (by decide) rfl⟩)
  have n1 : n ≠ 1 := odF n1
  repeat refine gs1 ?_
  refine AW.cond rfl (fun h => ?_) fun n2 => ?_
  · have h : n = 2 := odT h
    repeat refine gs1 ?_
    refine AW.mid (fun s J => ∃ (ov : Value) (l : List Int), s = [(0, pB x), (5, .int .i64 qq), (6, ov)] ∧ J = St ⟨w, Φ, E⟩ Φ [.blk b3 56 ([.int .i64 k, .int .i64 n, .int .i64 bb]), mB x y pc ks kc u fa en, sR ks S] ∧ RepSl Φ l ov ∧ Mn.factV f y.d n oo qq = atO l qq 0) ?_ ?_
    · refine AW.cond rfl (fun c => ?_) fun c => ?_
      · have c : oo < (f.Owned.length : Int) := odT c
        obtain ⟨m, rfl⟩ : ∃ m : Nat, oo = m := ⟨oo.toNat, by omega⟩
        have hm : m < f.Owned.length := by omega
        obtain ⟨sv, hsv, hpv⟩ := hf.own.sub hm
        repeat refine gs1 ?_
        exact Post.mid_n (s' := _) (J' := _) ⟨sv, _, rfl, rfl, hsv, by unfold Mn.factV; rw [if_neg n0, if_neg n1, if_pos h, if_neg (by omega), Int.toNat_natCast]; rfl⟩ ⟨rfl, rfl, rfl, trivial⟩ (fun _ h => h)
      · have c : ¬ oo < (f.Owned.length : Int) := odF c
        repeat refine gs1 ?_
        exact Post.mid_n (s' := _) (J' := _) ⟨_, [], rfl, rfl, repSl_nil, by unfold Mn.factV; rw [if_neg n0, if_neg n1, if_pos h, if_pos (by omega)]; unfold atO; split <;> rfl⟩ ⟨rfl, rfl, rfl, trivial⟩ (fun _ h => h)
    rintro f2 _ _ ⟨ov, l, rfl, rfl, hov, hve⟩
    repeat refine gs1 ?_
    refine RW.q rfl (q_call (args := #[ov, .int .i64 qq, .int .i64 0]) oK rfl rfl (fun w1 hw1 => vat_c w1 (hov.mono hw1.phi))) ?_
    repeat refine gs1 ?_
    refine RW.ownU (args := #[pB x, .int .i64 (atO l qq 0)]) (C2 := [.blk b3 56 ([.int .i64 k, .int .i64 n, .int .i64 bb])]) [1, 2, 0] (by decide) rfl rfl oK rfl rfl (fun w1 hw1 => mpush_c w1 (atO l qq 0) (by omega) hw1) fun z => ?_
    repeat refine gs1 ?_
    exact fin_none (J' := St ⟨w, Φ, E⟩ Φ [mB x y pc z kc u fa en, sR z (S ++ [atO l qq 0]), .blk b3 56 ([.int .i64 k, .int .i64 n, .int .i64 bb])]) rfl rfl (fun _ h => h) (fun w1 hw1 => ⟨z, rfl, by subst hE; show StP _ Φ [mB x y pc z kc u fa en, sR z (S ++ [Mn.factV f y.d n (bb / 1024) (bb % 1024)])] w1; rw [hV, show Mn.factV f y.d n oo qq = atO l qq 0 by exact hve]; exact StP.sel hw1 [0, 1] (by decide) rfl⟩)
  have n2 : n ≠ 2 := odF n2
  repeat refine gs1 ?_
  refine AW.cond rfl (fun h => ?_) fun n3 => ?_
  · have h : n = 3 := odT h
    repeat refine gs1 ?_
    refine RW.q rfl (q_call (args := #[y.fc.pos, .int .i64 oo, .int .i64 (0)]) oK rfl rfl (fun w1 hw1 => vat_c w1 (hf.pos.mono hw1.phi))) ?_
    repeat refine gs1 ?_
    refine RW.ownU (args := #[pB x, .int .i64 (atO f.Pos oo (0))]) (C2 := [.blk b3 56 ([.int .i64 k, .int .i64 n, .int .i64 bb])]) [1, 2, 0] (by decide) rfl rfl oK rfl rfl (fun w1 hw1 => mpush_c w1 (atO f.Pos oo (0)) (by omega) hw1) fun z => ?_
    repeat refine gs1 ?_
    exact fin_none (J' := St ⟨w, Φ, E⟩ Φ [mB x y pc z kc u fa en, sR z (S ++ [atO f.Pos oo (0)]), .blk b3 56 ([.int .i64 k, .int .i64 n, .int .i64 bb])]) rfl rfl (fun _ h => h) (fun w1 hw1 => ⟨z, rfl, by subst hE; show StP _ Φ [mB x y pc z kc u fa en, sR z (S ++ [Mn.factV f y.d n (bb / 1024) (bb % 1024)])] w1; rw [hV, show Mn.factV f y.d n oo qq = atO f.Pos oo (0) by unfold Mn.factV; rw [if_neg n0, if_neg n1, if_neg n2, if_pos h]; rfl]; exact StP.sel hw1 [0, 1] (by decide) rfl⟩)
  have n3 : n ≠ 3 := odF n3
  repeat refine gs1 ?_
  refine AW.cond rfl (fun h => ?_) fun n4 => ?_
  · have h : n = 4 := odT h
    repeat refine gs1 ?_
    refine RW.ownU (args := #[pB x, .int .i64 (y.d.2.2.2)]) (C2 := [.blk b3 56 ([.int .i64 k, .int .i64 n, .int .i64 bb])]) [1, 2, 0] (by decide) rfl rfl oK rfl rfl (fun w1 hw1 => mpush_c w1 (y.d.2.2.2) (by omega) hw1) fun z => ?_
    repeat refine gs1 ?_
    exact fin_none (J' := St ⟨w, Φ, E⟩ Φ [mB x y pc z kc u fa en, sR z (S ++ [y.d.2.2.2]), .blk b3 56 ([.int .i64 k, .int .i64 n, .int .i64 bb])]) rfl rfl (fun _ h => h) (fun w1 hw1 => ⟨z, rfl, by subst hE; show StP _ Φ [mB x y pc z kc u fa en, sR z (S ++ [Mn.factV f y.d n (bb / 1024) (bb % 1024)])] w1; rw [hV, show Mn.factV f y.d n oo qq = y.d.2.2.2 by unfold Mn.factV; rw [if_neg n0, if_neg n1, if_neg n2, if_neg n3, if_pos h]]; exact StP.sel hw1 [0, 1] (by decide) rfl⟩)
  have n4 : n ≠ 4 := odF n4
  repeat refine gs1 ?_
  refine AW.cond rfl (fun h => ?_) fun n5 => ?_
  · have h : n = 5 := odT h
    repeat refine gs1 ?_
    refine RW.ownU (args := #[pB x, .int .i64 (y.d.2.2.1)]) (C2 := [.blk b3 56 ([.int .i64 k, .int .i64 n, .int .i64 bb])]) [1, 2, 0] (by decide) rfl rfl oK rfl rfl (fun w1 hw1 => mpush_c w1 (y.d.2.2.1) (by omega) hw1) fun z => ?_
    repeat refine gs1 ?_
    exact fin_none (J' := St ⟨w, Φ, E⟩ Φ [mB x y pc z kc u fa en, sR z (S ++ [y.d.2.2.1]), .blk b3 56 ([.int .i64 k, .int .i64 n, .int .i64 bb])]) rfl rfl (fun _ h => h) (fun w1 hw1 => ⟨z, rfl, by subst hE; show StP _ Φ [mB x y pc z kc u fa en, sR z (S ++ [Mn.factV f y.d n (bb / 1024) (bb % 1024)])] w1; rw [hV, show Mn.factV f y.d n oo qq = y.d.2.2.1 by unfold Mn.factV; rw [if_neg n0, if_neg n1, if_neg n2, if_neg n3, if_neg n4, if_pos h]]; exact StP.sel hw1 [0, 1] (by decide) rfl⟩)
  have n5 : n ≠ 5 := odF n5
  repeat refine gs1 ?_
  refine AW.cond rfl (fun h => ?_) fun n6 => ?_
  · have h : n = 6 := odT h
    repeat refine gs1 ?_
    refine RW.ownU (args := #[pB x, .int .i64 (y.d.2.1)]) (C2 := [.blk b3 56 ([.int .i64 k, .int .i64 n, .int .i64 bb])]) [1, 2, 0] (by decide) rfl rfl oK rfl rfl (fun w1 hw1 => mpush_c w1 (y.d.2.1) (by omega) hw1) fun z => ?_
    repeat refine gs1 ?_
    exact fin_none (J' := St ⟨w, Φ, E⟩ Φ [mB x y pc z kc u fa en, sR z (S ++ [y.d.2.1]), .blk b3 56 ([.int .i64 k, .int .i64 n, .int .i64 bb])]) rfl rfl (fun _ h => h) (fun w1 hw1 => ⟨z, rfl, by subst hE; show StP _ Φ [mB x y pc z kc u fa en, sR z (S ++ [Mn.factV f y.d n (bb / 1024) (bb % 1024)])] w1; rw [hV, show Mn.factV f y.d n oo qq = y.d.2.1 by unfold Mn.factV; rw [if_neg n0, if_neg n1, if_neg n2, if_neg n3, if_neg n4, if_neg n5, if_pos h]]; exact StP.sel hw1 [0, 1] (by decide) rfl⟩)
  have n6 : n ≠ 6 := odF n6
  repeat refine gs1 ?_
  refine AW.cond rfl (fun h => ?_) fun n7 => ?_
  · have h : n = 7 := odT h
    repeat refine gs1 ?_
    refine RW.q rfl (q_call (args := #[y.fc.cre, .int .i64 oo, .int .i64 (-1)]) oK rfl rfl (fun w1 hw1 => vat_c w1 (hf.cre.mono hw1.phi))) ?_
    repeat refine gs1 ?_
    refine RW.ownU (args := #[pB x, .int .i64 (atO f.Crest oo (-1))]) (C2 := [.blk b3 56 ([.int .i64 k, .int .i64 n, .int .i64 bb])]) [1, 2, 0] (by decide) rfl rfl oK rfl rfl (fun w1 hw1 => mpush_c w1 (atO f.Crest oo (-1)) (by omega) hw1) fun z => ?_
    repeat refine gs1 ?_
    exact fin_none (J' := St ⟨w, Φ, E⟩ Φ [mB x y pc z kc u fa en, sR z (S ++ [atO f.Crest oo (-1)]), .blk b3 56 ([.int .i64 k, .int .i64 n, .int .i64 bb])]) rfl rfl (fun _ h => h) (fun w1 hw1 => ⟨z, rfl, by subst hE; show StP _ Φ [mB x y pc z kc u fa en, sR z (S ++ [Mn.factV f y.d n (bb / 1024) (bb % 1024)])] w1; rw [hV, show Mn.factV f y.d n oo qq = atO f.Crest oo (-1) by unfold Mn.factV; rw [if_neg n0, if_neg n1, if_neg n2, if_neg n3, if_neg n4, if_neg n5, if_neg n6, if_pos h]; rfl]; exact StP.sel hw1 [0, 1] (by decide) rfl⟩)
  have n7 : n ≠ 7 := odF n7
  repeat refine gs1 ?_
  omega
end Go.Proofs.YtjmeeofdffdpnaaGreatDoor
