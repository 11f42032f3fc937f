/- Lemmas. Conditions: those of each theorem. -/
import Derived.Test.YtjmeeofdffdpnaaGreatDoorRVmS
import Derived.Test.YtjmeeofdffdpnaaGreatDoorROpenS
set_option maxRecDepth 8000
set_option maxHeartbeats 16000000
namespace Go.K
open Go Go.RowKit
section
variable {P : Program} {J : Cls} {f : Nat → Value} {s : List (Nat × Value)} {dst : Option Nat} {ty : TypeId} {pos : String} {af : Array Edge} {g : Option (Nat × Bool)} {t t' : TypeId} {x y : Operand}
theorem q_addZ {a b r : Int} {k : IntKind} (hx : ev (fr f s) x = .int k a) (hy : ev (fr f s) y = .int k b) (hr : k.wrap (a + b) = r) : Qt P J f s ⟨dst, .binOp .add t x y t', ty, pos, af, g⟩ (.int k r) := by
  subst hr
  exact q_arith hx hy (by simp only [Op.intArith]) rfl
theorem q_andZ {a b : Int} (hx : ev (fr f s) x = .int .i64 a) (hy : ev (fr f s) y = .int .i64 b) : Qt P J f s ⟨dst, .binOp .and t x y t', ty, pos, af, g⟩ (.int .i64 (IntKind.wrap .i64 (((BitVec.ofInt 64 a &&& BitVec.ofInt 64 b).toNat : Nat) : Int))) := qt_val fun w _ => by
  have e2 : Op.intBits .and .i64 a b = pure (.int .i64 (IntKind.wrap .i64 (((BitVec.ofInt 64 a &&& BitVec.ofInt 64 b).toNat : Nat) : Int))) := rfl
  simp only [execOp, hx, hy, Sem.run_bind, eqGuard_int, Result.andThen_ok, binOp, ne_eq, not_true_eq_false, if_false, e2, Sem.run_pure]
end
end Go.K
namespace Go.Proofs.YtjmeeofdffdpnaaGreatDoor
open Go Go.K Go.RowKit
open Ru (pB BasV)
attribute [local irreducible] AW RW DW Post Qt
theorem kints_news {Φ : Hp} {xs : List Int} {v : Value} (h : RepSl Φ xs v) : ∀ j u, (xs.map (Value.int .i64))[j]? = some u → PCell Φ (Value.at v j) u := fun j u hj => by
  rw [List.getElem?_map] at hj
  obtain ⟨x, hx, rfl⟩ := mS hj
  obtain ⟨hl, hx⟩ := List.getElem?_eq_some_iff.1 hx
  have := (h.int hl).1
  rwa [hx] at this
theorem kints_one (l : List Int) : (l.map (Value.int .i64)).all Value.oneCell' = true := by
  rw [List.all_map, List.all_eq_true]
  exact fun _ _ => rfl
theorem kops_news {Φ : Hp} {l : List Vm.Op} {v : Value} (h : RepSl Φ l v) : ∀ j u, (l.flatMap opC)[j]? = some u → PCell Φ (Value.at v j) u := fun j u hj => by
  have hl := (List.getElem?_eq_some_iff.1 hj).1
  rw [opC_len] at hl
  obtain ⟨i, t, rfl, ht⟩ : ∃ i t, j = i * 3 + t ∧ t < 3 := ⟨j / 3, j % 3, by omega, by omega⟩
  have hi : i < l.length := by omega
  obtain ⟨cs, ⟨h1, _⟩, h2⟩ := h.at_ i hi
  have hc : t < (opC l[i]).length := ht
  have h3 := flat_get evenOp hi (j := t) (u := (opC l[i])[t]) (by
    rw [gDD, List.getElem?_eq_getElem hi]
    exact List.getElem?_eq_getElem hc)
  have h4 : (l.flatMap opC)[i * 3 + t]? = some (opC l[i])[t] := h3
  rw [h4] at hj
  obtain rfl := sJ hj
  refine h2 t _ ?_
  rw [h1]
  exact List.getElem?_eq_getElem hc
theorem splice_set {l : List Vm.Op} {i : Nat} (hi : i < l.length) (n : Int) : splice (l.flatMap opC) (i * 3 + 1) (Value.int .i64 n).cells.toList = (l.set i ⟨(l.getD i default).Kind, n, (l.getD i default).B⟩).flatMap opC ∧ splice (l.flatMap opC) (i * 3 + 2) (Value.int .i64 n).cells.toList = (l.set i ⟨(l.getD i default).Kind, (l.getD i default).A, n⟩).flatMap opC := by
  have e : l = l.take i ++ l[i] :: l.drop (i + 1) := by rw [← List.drop_eq_getElem_cons hi, List.take_append_drop]
  have hg : l.getD i default = l[i] := by rw [gDD, List.getElem?_eq_getElem hi]; rfl
  have ht : (l.take i).length = i := by rw [List.length_take]; omega
  rw [hg]
  constructor
  · have h1 := splice_A (l.take i) l[i] (l.drop (i + 1)) n
    rw [ht, ← e] at h1
    rw [List.set_eq_take_append_cons_drop, if_pos hi]
    exact h1
  · have h1 := splice_B (l.take i) l[i] (l.drop (i + 1)) n
    rw [ht, ← e] at h1
    rw [List.set_eq_take_append_cons_drop, if_pos hi]
    exact h1
theorem wrap_ne {a b : Int} (hb : I64 b) (h0 : b ≠ 0) : IntKind.wrap .i64 (a + b) ≠ a := fun h => by
  unfold I64 at hb
  rw [wrap_i64] at h
  split at h <;> omega
theorem set_ne {l : List Vm.Op} {i : Nat} (hi : i < l.length) {o : Vm.Op} (h : o ≠ l.getD i default) : l.set i o ≠ l := fun he => by
  have h1 : (l.set i o)[i]? = some o := by rw [List.getElem?_set_self hi]
  rw [he] at h1
  rw [gDD, h1] at h
  exact h rfl
theorem vmRefuses_c (w : World) (Φ : Hp) (hΦ : Hp.le Φ (hp w)) (hG : Knows Φ Glob) {b : BasV} {e : Ru.Env} (hb : b.ok Φ e) {r : Bt.Rule} {fv cv : Value} (hf : RepSl Φ r.Funcs fv) (hc : RepSl Φ r.Clauses cv) (hlen : (Vm.cops r).length ≤ 900000000) {yf : FcV} {hr at_ kd by_ : Int} (hat : I64 at_) (hby : I64 by_) :
    Calls pg 6 #[.agg b.cs.toArray, .agg #[fv, cv], .agg (fcC yf hr).toArray, .int .i64 at_, .int .i64 kd, .int .i64 by_] w fun e w' => e = .returned (.bool true) ∧ Bel w.heap.size w w' := by
  obtain ⟨fA, fc, rfl, _⟩ := hf.sl
  obtain ⟨cA, cc, rfl, _⟩ := hc.sl
  refine calls_of_AW (args := [.agg b.cs.toArray, .agg #[.slice fA r.Funcs.length fc, .slice cA r.Clauses.length cc], .agg (fcC yf hr).toArray, .int .i64 at_, .int .i64 kd, .int .i64 by_]) Tryz.func6 rfl (lBT rfl) (St ⟨w, Φ, []⟩ Φ []) (StP.init w Φ hΦ []) ?_
  show AW _ _ [] _ _ _ [(0, .agg b.cs.toArray), (1, .agg #[.slice fA r.Funcs.length fc, .slice cA r.Clauses.length cc]), (2, .agg (fcC yf hr).toArray), (3, .int .i64 at_), (4, .int .i64 kd), (5, .int .i64 by_)] _
  repeat refine gs1 ?_
  refine RW.bxA (cs := b.cs) rfl rfl fun b6 => ?_
  refine RW.bxA (cs := (rS2 fA fc cA cc r)) rfl rfl fun b7 => ?_
  refine RW.bxA (cs := fcC yf hr) rfl rfl fun b8 => ?_
  repeat refine gs1 ?_
  refine RW.q rfl (q_call (args := #[]) oK rfl rfl (fun w1 hw1 => smallV_c w1 Φ hw1.phi hG)) ?_
  repeat refine gs1 ?_
  refine RW.q rfl (q_call (args := #[.agg #[.slice fA r.Funcs.length fc, .slice cA r.Clauses.length cc]]) oK rfl rfl (fun w1 hw1 => few_c w1 (hf.mono hw1.phi) (hc.mono hw1.phi))) ?_
  repeat refine gs1 ?_
  refine RW.eff _ _ rfl (e_callS (args := #[.agg #[.slice fA r.Funcs.length fc, .slice cA r.Clauses.length cc]]) oK rfl rfl (fun w1 hw1 => comp_c w1 Φ (hf.mono hw1.phi) (hc.mono hw1.phi) hlen)) ?_
  rintro ⟨⟨v, Ψ⟩, ⟨⟨o2, f2, t2⟩, hv, ho⟩, hle⟩
  simp only at hv ho hle ⊢
  subst hv
  have ho2 : RepSl Ψ (Vm.compile r).Ops o2 := ho.o
  have hf2 : RepSl Ψ (Vm.compile r).Funcs f2 := ho.f
  have ht2 : RepSl Ψ (Vm.compile r).Starts t2 := ho.s
  have so2 := ho2.sl
  have sf2 := hf2.sl
  have st2 := ht2.sl
  obtain ⟨A2, c2, rfl, _⟩ := ho2.sl
  obtain ⟨B2, d2, rfl, _⟩ := hf2.sl
  obtain ⟨E2, e2, rfl, _⟩ := ht2.sl
  obtain ⟨C0, hC0⟩ : ∃ c, c = Vm.compile r := ⟨_, rfl⟩
  rw [← hC0] at ho2 hf2 ht2 so2 sf2 st2 ⊢
  refine RW.alc rfl fun b15 => ?_
  repeat refine gs1 ?_
  refine RW.g (b := !Mn.few r) (v := .bool (Vm.soP r)) rfl rfl rfl (fun h => q_as (q_call (args := #[.agg #[.slice fA r.Funcs.length fc, .slice cA r.Clauses.length cc], .agg (cdC (.slice A2 C0.Ops.length c2) (.slice B2 C0.Funcs.length d2) (.slice E2 C0.Starts.length e2)).toArray]) oK rfl (args2 (gv_pos h) (gv_pos h)) (fun w1 hw1 => vRight_c w1 (hf.mono (hle.trans hw1.phi)) (hc.mono (hle.trans hw1.phi)) hlen (ho2.mono hw1.phi) (hf2.mono hw1.phi) (ht2.mono hw1.phi))) (congrArg Value.bool (by rw [decide_eq_true hC0, Bool.and_true]))) ?_
  repeat refine gs1 ?_
  obtain ⟨c1, hc1⟩ : ∃ c, c = ((!Mn.few r) || !Vm.soP r) := ⟨_, rfl⟩
  obtain ⟨c3, hc3⟩ : ∃ c, c = (c1 || decide (by_ = 0)) := ⟨_, rfl⟩
  obtain ⟨c4, hc4⟩ : ∃ c, c = (c3 || decide (at_ < 0)) := ⟨_, rfl⟩
  obtain ⟨c5, hc5⟩ : ∃ c, c = (c4 || decide ((C0.Ops.length : Int) ≤ at_)) := ⟨_, rfl⟩
  refine RW.q (v := .bool c1) rfl (q_as (qpO rfl rfl rfl) (congrArg Value.bool hc1.symm)) ?_
  repeat refine gs1 ?_
  refine RW.q (v := .bool c3) rfl (q_as (qpO rfl rfl rfl) (congrArg Value.bool hc3.symm)) ?_
  repeat refine gs1 ?_
  refine RW.q (v := .bool c4) rfl (q_as (qpO rfl rfl rfl) (congrArg Value.bool hc4.symm)) ?_
  repeat refine gs1 ?_
  refine RW.g (b := c4) (v := .int .i64 ((C0.Ops.length : Nat) : Int)) rfl rfl rfl (fun h => q_len_sl (gv_pos h) so2 Tryz.underlying36) ?_
  repeat refine gs1 ?_
  refine RW.q (v := .bool c5) rfl (q_as (qpO rfl rfl rfl) (congrArg Value.bool hc5.symm)) ?_
  repeat refine gs1 ?_
  refine AW.cond rfl (fun h => ?_) fun h => ?_
  · repeat refine gs1 ?_
    exact fin_res (vs := [.bool true]) rfl rfl ⟨.tmp rfl, trivial⟩ rfl (fun w' hw => ⟨rfl, (StP.less hw (Hp.le_refl _)).below rfl⟩)
  have hall : Mn.few r = true ∧ Vm.soP r = true ∧ by_ ≠ 0 ∧ 0 ≤ at_ ∧ at_ < C0.Ops.length := by
    subst hc5 hc4 hc3 hc1
    simp only [Bool.or_eq_false_iff, decide_eq_false_iff_not, Bool.not_eq_false'] at h
    exact ⟨h.1.1.1.1, h.1.1.1.2, h.1.1.2, by omega, by omega⟩
  clear h hc1 hc3 hc4 hc5
  obtain ⟨_, hso, hb0, ha0, ha1⟩ := hall
  obtain ⟨i, rfl⟩ : ∃ i : Nat, at_ = i := ⟨at_.toNat, by omega⟩
  have hi : i < C0.Ops.length := by omega
  have hOb : C0.Ops.length ≤ 900000000 := by
    have : (Vm.compile r).Ops = Vm.cops r := by rw [Vm.compile_ops hso]; rfl
    rw [hC0, this]; exact hlen
  have hfm := hf.max
  have hcm := hc.max
  simp only [Rep.bytes, maxSl] at hfm hcm
  have hfl : C0.Funcs.length ≤ 10000000000000 := by
    have : C0.Funcs.length = r.Funcs.length := by rw [hC0, Vm.compile_funcs hso, List.length_map, Vm.begs_len]
    omega
  have hsl : C0.Starts.length ≤ 10000000000000 := by
    have : C0.Starts.length = r.Clauses.length := by rw [hC0, Vm.compile_starts hso, List.length_map, Vm.begs_len]
    omega
  repeat refine gs1 ?_
  refine RW.eff _ _ rfl (e_buildSlice0 Tryz.underlying36 inf56) fun b46 => ?_
  repeat refine gs1 ?_
  refine RW.eff (fun xv : {vq : Value // IsSl vq (0 + C0.Ops.length)} => xv.1) (fun xv => St ⟨w, Φ, []⟩ Ψ [.row xv.1 56 3 (0 + C0.Ops.length) ([] ++ C0.Ops.flatMap opC), .blk b15 38 (cdC (.slice A2 C0.Ops.length c2) (.slice B2 C0.Funcs.length d2) (.slice E2 C0.Starts.length e2)), .blk b8 41 (fcC yf hr), .blk b7 35 (rS2 fA fc cA cc r), .blk b6 31 b.cs]) rfl (e_appendPhi (v := .slice (some ⟨b46, 0, none⟩) 0 0) (yv := .slice A2 C0.Ops.length c2) (m := C0.Ops.length) (n := 0) 0 rfl rfl rfl so2 Tryz.underlying36 inf56 rfl rfl (opC_len _) (kops_news ho2) (opC_one _) (by omega) (by omega) (fun _ => rfl)) ?_
  rintro ⟨ov, hov⟩
  simp only
  rw [Nat.zero_add] at hov ⊢
  rw [List.nil_append]
  repeat refine gs1 ?_
  refine RW.effn (J' := St ⟨w, Φ, []⟩ Ψ [.row ov 56 3 C0.Ops.length (C0.Ops.flatMap opC), .blk b15 38 (cdC ov (.slice B2 C0.Funcs.length d2) (.slice E2 C0.Starts.length e2)), .blk b8 41 (fcC yf hr), .blk b7 35 (rS2 fA fc cA cc r), .blk b6 31 b.cs]) (e_storeSl (v := ov) 1 rfl rfl rfl hov sz36 rfl rfl rfl) ?_
  repeat refine gs1 ?_
  refine RW.eff _ _ rfl (e_buildSlice0 Tryz.underlying29 inf3) fun b51 => ?_
  repeat refine gs1 ?_
  refine RW.eff (fun xv : {vq : Value // IsSl vq (0 + C0.Starts.length)} => xv.1) (fun xv => St ⟨w, Φ, []⟩ Ψ [.row xv.1 3 1 (0 + C0.Starts.length) ([] ++ C0.Starts.map (Value.int .i64)), .row ov 56 3 C0.Ops.length (C0.Ops.flatMap opC), .blk b15 38 (cdC ov (.slice B2 C0.Funcs.length d2) (.slice E2 C0.Starts.length e2)), .blk b8 41 (fcC yf hr), .blk b7 35 (rS2 fA fc cA cc r), .blk b6 31 b.cs]) rfl (e_appendPhi (v := .slice (some ⟨b51, 0, none⟩) 0 0) (yv := (.slice E2 C0.Starts.length e2)) (m := C0.Starts.length) (n := 0) 0 rfl rfl rfl st2 Tryz.underlying29 inf3 rfl rfl (by rw [List.length_map, Nat.mul_one]) (kints_news ht2) (kints_one _) (by omega) (by omega) (fun _ => rfl)) ?_
  rintro ⟨sv, hsv⟩
  simp only
  rw [Nat.zero_add] at hsv ⊢
  rw [List.nil_append]
  repeat refine gs1 ?_
  refine RW.effn (J' := St ⟨w, Φ, []⟩ Ψ [.row sv 3 1 C0.Starts.length (C0.Starts.map (Value.int .i64)), .row ov 56 3 C0.Ops.length (C0.Ops.flatMap opC), .blk b15 38 (cdC ov (.slice B2 C0.Funcs.length d2) sv), .blk b8 41 (fcC yf hr), .blk b7 35 (rS2 fA fc cA cc r), .blk b6 31 b.cs]) (e_storeSl (v := sv) 2 rfl rfl rfl hsv sz29 rfl rfl rfl) ?_
  repeat refine gs1 ?_
  refine RW.eff _ _ rfl (e_buildSlice0 Tryz.underlying29 inf3) fun b56 => ?_
  repeat refine gs1 ?_
  refine RW.eff (fun xv : {vq : Value // IsSl vq (0 + C0.Funcs.length)} => xv.1) (fun xv => St ⟨w, Φ, []⟩ Ψ [.row xv.1 3 1 (0 + C0.Funcs.length) ([] ++ C0.Funcs.map (Value.int .i64)), .row sv 3 1 C0.Starts.length (C0.Starts.map (Value.int .i64)), .row ov 56 3 C0.Ops.length (C0.Ops.flatMap opC), .blk b15 38 (cdC ov (.slice B2 C0.Funcs.length d2) sv), .blk b8 41 (fcC yf hr), .blk b7 35 (rS2 fA fc cA cc r), .blk b6 31 b.cs]) rfl (e_appendPhi (v := .slice (some ⟨b56, 0, none⟩) 0 0) (yv := (.slice B2 C0.Funcs.length d2)) (m := C0.Funcs.length) (n := 0) 0 rfl rfl rfl sf2 Tryz.underlying29 inf3 rfl rfl (by rw [List.length_map, Nat.mul_one]) (kints_news hf2) (kints_one _) (by omega) (by omega) (fun _ => rfl)) ?_
  rintro ⟨uv, huv⟩
  simp only
  rw [Nat.zero_add] at huv ⊢
  rw [List.nil_append]
  repeat refine gs1 ?_
  refine RW.effn (J' := St ⟨w, Φ, []⟩ Ψ [.row uv 3 1 C0.Funcs.length (C0.Funcs.map (Value.int .i64)), .row sv 3 1 C0.Starts.length (C0.Starts.map (Value.int .i64)), .row ov 56 3 C0.Ops.length (C0.Ops.flatMap opC), .blk b15 38 (cdC ov uv sv), .blk b8 41 (fcC yf hr), .blk b7 35 (rS2 fA fc cA cc r), .blk b6 31 b.cs]) (e_storeSl (v := uv) 3 rfl rfl rfl huv sz29 rfl rfl rfl) ?_
  repeat refine gs1 ?_
  refine RW.q rfl (q_andZ rfl rfl) ?_
  repeat refine gs1 ?_
  generalize IntKind.wrap .i64 (((BitVec.ofInt 64 kd &&& BitVec.ofInt 64 3).toNat : Nat) : Int) = kz
  have hcell : ∀ {C : List Chunk} (j t : Nat) {u : Value}, C[j]? = some (.row ov 56 3 C0.Ops.length (C0.Ops.flatMap opC)) → (opC (C0.Ops.getD i default))[t]? = some u → Cell (St ⟨w, Φ, []⟩ Ψ C) (Value.at ov (i * 3 + t)) u := fun {C} j t {u} hj hu => Cell.row j hj (flat_get evenOp hi hu)
  refine AW.mid (fun s J => ∃ (ops : List Vm.Op) (sts : List Int) (ov2 sv2 : Value), s = [(6, pB b6), (7, pB b7), (8, pB b8), (13, .bool true), (15, pB b15)] ∧ J = St ⟨w, Φ, []⟩ Ψ [.row uv 3 1 C0.Funcs.length (C0.Funcs.map (Value.int .i64)), .row sv2 3 1 sts.length (sts.map (Value.int .i64)), .row ov2 56 3 ops.length (ops.flatMap opC), .blk b15 38 (cdC ov2 uv sv2), .blk b8 41 (fcC yf hr), .blk b7 35 (rS2 fA fc cA cc r), .blk b6 31 b.cs] ∧ (⟨ops, C0.Funcs, sts⟩ : Vm.Code) ≠ C0 ∧ ops.length ≤ 900000001 ∧ sts.length ≤ 10000000000001 ∧ (∀ x ∈ sts, I64 x)) ?_ ?_
  · refine AW.cond rfl (fun _ => ?_) fun _ => ?_
    · obtain ⟨na, hna⟩ : ∃ na, na = IntKind.wrap .i64 ((C0.Ops.getD i default).A + by_) := ⟨_, rfl⟩
      repeat refine gs1 ?_
      refine AW.drawZ (J0 := St ⟨w, Φ, []⟩ Ψ [.row uv 3 1 C0.Funcs.length (C0.Funcs.map (Value.int .i64)), .row sv 3 1 C0.Starts.length (C0.Starts.map (Value.int .i64)), .row ov 56 3 C0.Ops.length (C0.Ops.flatMap opC), .blk b15 38 (cdC ov uv sv), .blk b8 41 (fcC yf hr), .blk b7 35 (rS2 fA fc cA cc r), .blk b6 31 b.cs]) [.q, .q, .q, .q, .q, .q, .q, .q, .q, .q, .q, .q, .q, .e] [0, 1, 2, 3, 4, 5, 6, 7, 8, 9, 10, 11, 12, 13] hmix (by kernel_rfl) ?_
      repeat refine gs1 ?_
      refine DW.q (v := .int .i64 (C0.Ops.getD i default).A) (fun _ h => h) rfl (qa_ld rfl (hcell 2 1 rfl rfl)) ?_
      repeat refine gs1 ?_
      refine DW.q (v := .int .i64 na) (fun _ h => h) rfl (q_addZ rfl rfl hna.symm) ?_
      repeat refine gs1 ?_
      refine DW.effn (J' := St ⟨w, Φ, []⟩ Ψ [.row uv 3 1 C0.Funcs.length (C0.Funcs.map (Value.int .i64)), .row sv 3 1 C0.Starts.length (C0.Starts.map (Value.int .i64)), .row ov 56 3 C0.Ops.length ((C0.Ops.set i ⟨(C0.Ops.getD i default).Kind, na, (C0.Ops.getD i default).B⟩).flatMap opC), .blk b15 38 (cdC ov uv sv), .blk b8 41 (fcC yf hr), .blk b7 35 (rS2 fA fc cA cc r), .blk b6 31 b.cs]) (fun h => absurd rfl h) (e_storeRow (n := 0) 2 rfl rfl rfl sz3 rfl rfl (by rw [opC_len]; omega) (splice_set hi na).1 rfl) ?_
      repeat refine gs1 ?_
      exact Post.mid_n (s' := _) (J' := _) ⟨C0.Ops.set i ⟨(C0.Ops.getD i default).Kind, na, (C0.Ops.getD i default).B⟩, C0.Starts, ov, sv, rfl, by rw [List.length_set], fun he => set_ne hi (o := ⟨(C0.Ops.getD i default).Kind, na, (C0.Ops.getD i default).B⟩) (fun h2 => wrap_ne (a := (C0.Ops.getD i default).A) hby hb0 (hna.symm.trans (congrArg Vm.Op.A h2))) (congrArg Vm.Code.Ops he), by rw [List.length_set]; omega, by omega, ht2.i64⟩ ⟨rfl, rfl, rfl, rfl, rfl, trivial⟩ (fun _ h => h)
    · repeat refine gs1 ?_
      refine AW.cond rfl (fun _ => ?_) fun _ => ?_
      · obtain ⟨na, hna⟩ : ∃ na, na = IntKind.wrap .i64 ((C0.Ops.getD i default).B + by_) := ⟨_, rfl⟩
        repeat refine gs1 ?_
        refine AW.drawZ (J0 := St ⟨w, Φ, []⟩ Ψ [.row uv 3 1 C0.Funcs.length (C0.Funcs.map (Value.int .i64)), .row sv 3 1 C0.Starts.length (C0.Starts.map (Value.int .i64)), .row ov 56 3 C0.Ops.length (C0.Ops.flatMap opC), .blk b15 38 (cdC ov uv sv), .blk b8 41 (fcC yf hr), .blk b7 35 (rS2 fA fc cA cc r), .blk b6 31 b.cs]) [.q, .q, .q, .q, .q, .q, .q, .q, .q, .q, .q, .q, .q, .e] [0, 1, 2, 3, 4, 5, 6, 7, 8, 9, 10, 11, 12, 13] hmix (by kernel_rfl) ?_
        repeat refine gs1 ?_
        refine DW.q (v := .int .i64 (C0.Ops.getD i default).B) (fun _ h => h) rfl (qa_ld rfl (hcell 2 2 rfl rfl)) ?_
        repeat refine gs1 ?_
        refine DW.q (v := .int .i64 na) (fun _ h => h) rfl (q_addZ rfl rfl hna.symm) ?_
        repeat refine gs1 ?_
        refine DW.effn (J' := St ⟨w, Φ, []⟩ Ψ [.row uv 3 1 C0.Funcs.length (C0.Funcs.map (Value.int .i64)), .row sv 3 1 C0.Starts.length (C0.Starts.map (Value.int .i64)), .row ov 56 3 C0.Ops.length ((C0.Ops.set i ⟨(C0.Ops.getD i default).Kind, (C0.Ops.getD i default).A, na⟩).flatMap opC), .blk b15 38 (cdC ov uv sv), .blk b8 41 (fcC yf hr), .blk b7 35 (rS2 fA fc cA cc r), .blk b6 31 b.cs]) (fun h => absurd rfl h) (e_storeRow (n := 0) 2 rfl rfl rfl sz3 rfl rfl (by rw [opC_len]; omega) (splice_set hi na).2 rfl) ?_
        repeat refine gs1 ?_
        exact Post.mid_n (s' := _) (J' := _) ⟨C0.Ops.set i ⟨(C0.Ops.getD i default).Kind, (C0.Ops.getD i default).A, na⟩, C0.Starts, ov, sv, rfl, by rw [List.length_set], fun he => set_ne hi (o := ⟨(C0.Ops.getD i default).Kind, (C0.Ops.getD i default).A, na⟩) (fun h2 => wrap_ne (a := (C0.Ops.getD i default).B) hby hb0 (hna.symm.trans (congrArg Vm.Op.B h2))) (congrArg Vm.Code.Ops he), by rw [List.length_set]; omega, by omega, ht2.i64⟩ ⟨rfl, rfl, rfl, rfl, rfl, trivial⟩ (fun _ h => h)
      · repeat refine gs1 ?_
        refine AW.cond rfl (fun _ => ?_) fun _ => ?_
        · obtain ⟨oA, oc, rfl, _⟩ := hov
          repeat refine gs1 ?_
          refine RW.q (v := .agg (opC ⟨19, 0, 0⟩).toArray) rfl (q_build (vals := [(0, .int .i64 19)]) zero56 Tryz.underlying56 places56 rfl rfl) ?_
          refine RW.eff _ _ rfl (e_buildSlice (vals := [(0, .agg (opC ⟨19, 0, 0⟩).toArray)]) (cells := opC ⟨19, 0, 0⟩) Tryz.underlying36 inf56 rfl rfl rfl (by kernel_rfl) rfl) fun b60 => ?_
          refine RW.eff (fun xv : {vq : Value // IsSl vq (C0.Ops.length + 1)} => xv.1) (fun xv => St ⟨w, Φ, []⟩ Ψ [.row (.slice (some ⟨b60, 0, none⟩) 1 1) 56 3 1 (opC ⟨19, 0, 0⟩), .row uv 3 1 C0.Funcs.length (C0.Funcs.map (Value.int .i64)), .row sv 3 1 C0.Starts.length (C0.Starts.map (Value.int .i64)), .row xv.1 56 3 (C0.Ops.length + 1) (C0.Ops.flatMap opC ++ opC ⟨19, 0, 0⟩), .blk b15 38 (cdC (.slice oA C0.Ops.length oc) uv sv), .blk b8 41 (fcC yf hr), .blk b7 35 (rS2 fA fc cA cc r), .blk b6 31 b.cs]) rfl (e_append 3 rfl rfl rfl Tryz.underlying36 inf56 rfl rfl rfl (Cells.row0 0 rfl) rfl (by omega) (by omega) (fun _ => rfl)) ?_
          rintro ⟨ov3, hov3⟩
          simp only
          repeat refine gs1 ?_
          refine RW.effn (J' := St ⟨w, Φ, []⟩ Ψ [.row (.slice (some ⟨b60, 0, none⟩) 1 1) 56 3 1 (opC ⟨19, 0, 0⟩), .row uv 3 1 C0.Funcs.length (C0.Funcs.map (Value.int .i64)), .row sv 3 1 C0.Starts.length (C0.Starts.map (Value.int .i64)), .row ov3 56 3 (C0.Ops.length + 1) (C0.Ops.flatMap opC ++ opC ⟨19, 0, 0⟩), .blk b15 38 (cdC ov3 uv sv), .blk b8 41 (fcC yf hr), .blk b7 35 (rS2 fA fc cA cc r), .blk b6 31 b.cs]) (e_storeSl (v := ov3) 4 rfl rfl rfl hov3 sz36 rfl rfl rfl) ?_
          repeat refine gs1 ?_
          exact Post.mid_n (s' := _) (J' := _) ⟨C0.Ops ++ [⟨19, 0, 0⟩], C0.Starts, ov3, sv, rfl, rfl, fun he => by have := congrArg List.length (congrArg Vm.Code.Ops he); simp at this, by rw [List.length_append, List.length_singleton]; omega, by omega, ht2.i64⟩ ⟨rfl, rfl, rfl, rfl, rfl, trivial⟩ (fun _ h => by rw [opC_snoc, List.length_append]; exact StP.sel h [1, 2, 3, 4, 5, 6, 7] (by decide) rfl)
        · obtain ⟨sA, sc, rfl, _⟩ := hsv
          repeat refine gs1 ?_
          refine RW.eff _ _ rfl (e_buildSlice (vals := [(0, .int .i64 (i : Int))]) (cells := [.int .i64 (i : Int)]) Tryz.underlying29 inf3 rfl rfl rfl (by kernel_rfl) rfl) fun b60 => ?_
          refine RW.eff (fun xv : {vq : Value // IsSl vq (C0.Starts.length + 1)} => xv.1) (fun xv => St ⟨w, Φ, []⟩ Ψ [.row (.slice (some ⟨b60, 0, none⟩) 1 1) 3 1 1 [.int .i64 (i : Int)], .row uv 3 1 C0.Funcs.length (C0.Funcs.map (Value.int .i64)), .row xv.1 3 1 (C0.Starts.length + 1) (C0.Starts.map (Value.int .i64) ++ [.int .i64 (i : Int)]), .row ov 56 3 C0.Ops.length (C0.Ops.flatMap opC), .blk b15 38 (cdC ov uv (.slice sA C0.Starts.length sc)), .blk b8 41 (fcC yf hr), .blk b7 35 (rS2 fA fc cA cc r), .blk b6 31 b.cs]) rfl (e_append 2 rfl rfl rfl Tryz.underlying29 inf3 rfl rfl rfl (Cells.row0 0 rfl) rfl (by omega) (by omega) (fun _ => rfl)) ?_
          rintro ⟨sv3, hsv3⟩
          simp only
          repeat refine gs1 ?_
          refine RW.effn (J' := St ⟨w, Φ, []⟩ Ψ [.row (.slice (some ⟨b60, 0, none⟩) 1 1) 3 1 1 [.int .i64 (i : Int)], .row uv 3 1 C0.Funcs.length (C0.Funcs.map (Value.int .i64)), .row sv3 3 1 (C0.Starts.length + 1) (C0.Starts.map (Value.int .i64) ++ [.int .i64 (i : Int)]), .row ov 56 3 C0.Ops.length (C0.Ops.flatMap opC), .blk b15 38 (cdC ov uv sv3), .blk b8 41 (fcC yf hr), .blk b7 35 (rS2 fA fc cA cc r), .blk b6 31 b.cs]) (e_storeSl (v := sv3) 4 rfl rfl rfl hsv3 sz29 rfl rfl rfl) ?_
          repeat refine gs1 ?_
          exact Post.mid_n (s' := _) (J' := _) ⟨C0.Ops, C0.Starts ++ [(i : Int)], ov, sv3, rfl, rfl, fun he => by have := congrArg List.length (congrArg Vm.Code.Starts he); simp at this, by omega, by rw [List.length_append, List.length_singleton]; omega, fun x hx => by
            rcases List.mem_append.1 hx with hx | hx
            · exact ht2.i64 x hx
            · obtain rfl := List.mem_singleton.1 hx; unfold I64; omega⟩ ⟨rfl, rfl, rfl, rfl, rfl, trivial⟩ (fun _ h => by rw [List.map_append, List.length_append]; exact StP.sel h [1, 2, 3, 4, 5, 6, 7] (by decide) rfl)
  rintro f9 _ _ ⟨ops, sts, ov2, sv2, rfl, rfl, hne, hol, htl, hti⟩
  repeat refine gs1 ?_
  refine RW.frz fun Ω1 l1 r1 => ?_
  refine RW.frz fun Ω2 l2 r2 => ?_
  refine RW.frz fun Ω3 l3 r3 => ?_
  have hO : RepSl Ω3 ops ov2 := RowS.repE evenOp r3 rfl (by simp only [Rep.bytes, maxSl]; omega) fun _ _ => trivial
  have hS : RepSl Ω3 sts sv2 := (RowS.ints r2 (by simp only [maxSl]; omega) hti).mono l3
  have hU : RepSl Ω3 C0.Funcs uv := (RowS.ints r1 (by simp only [maxSl]; omega) hf2.i64).mono (l2.trans l3)
  have hl3 : Hp.le Φ Ω3 := hle.trans (l1.trans (l2.trans l3))
  have hbad : (Vm.soP r && decide ((⟨ops, C0.Funcs, sts⟩ : Vm.Code) = Vm.compile r)) = false := by
    rw [← hC0, decide_eq_false hne, Bool.and_false]
  obtain ⟨oA3, oc3, rfl, _⟩ := hO.sl
  obtain ⟨sA3, sc3, rfl, _⟩ := hS.sl
  obtain ⟨uA3, uc3, rfl, _⟩ := hU.sl
  refine RW.q rfl (q_call (args := #[.agg b.cs.toArray, .agg #[.slice fA r.Funcs.length fc, .slice cA r.Clauses.length cc], .agg (cdC (.slice oA3 ops.length oc3) (.slice uA3 C0.Funcs.length uc3) (.slice sA3 sts.length sc3)).toArray, .agg (fcC yf hr).toArray]) oK rfl rfl (fun w1 hw1 => vRunBad_c w1 (c := ⟨ops, C0.Funcs, sts⟩) (hb.mono (hl3.trans hw1.phi)) (hf.mono (hl3.trans hw1.phi)) (hc.mono (hl3.trans hw1.phi)) hlen (hO.mono hw1.phi) (hU.mono hw1.phi) (hS.mono hw1.phi) (by rw [hbad, Bool.and_false]))) ?_
  refine RW.alc rfl fun b16 => ?_
  repeat refine gs1 ?_
  refine RW.g (b := true) (v := .bool false) rfl rfl rfl (fun h => q_as (q_call (args := #[.agg #[.slice fA r.Funcs.length fc, .slice cA r.Clauses.length cc], .agg (cdC (.slice oA3 ops.length oc3) (.slice uA3 C0.Funcs.length uc3) (.slice sA3 sts.length sc3)).toArray]) oK rfl (args2 (gv_pos h) (gv_pos h)) (fun w1 hw1 => vRight_c w1 (c := ⟨ops, C0.Funcs, sts⟩) (hf.mono (hl3.trans hw1.phi)) (hc.mono (hl3.trans hw1.phi)) hlen (hO.mono hw1.phi) (hU.mono hw1.phi) (hS.mono hw1.phi))) (congrArg Value.bool hbad)) ?_
  repeat refine gs1 ?_
  refine RW.q (v := .bool true) rfl (q_pick rfl (fun _ => rfl) (fun h => nomatch h)) ?_
  repeat refine gs1 ?_
  refine RW.q (v := .bool true) rfl (q_pick rfl (fun _ => rfl) (fun h => nomatch h)) ?_
  repeat refine gs1 ?_
  refine RW.q (v := .bool true) rfl (q_pick rfl (fun _ => rfl) (fun h => nomatch h)) ?_
  repeat refine gs1 ?_
  refine RW.q (v := .bool true) rfl (q_pick rfl (fun _ => rfl) (fun h => nomatch h)) ?_
  repeat refine gs1 ?_
  exact fin_res (vs := [.bool true]) rfl rfl ⟨.tmp rfl, trivial⟩ rfl (fun w' hw => ⟨rfl, (StP.less hw (Hp.le_refl _)).below rfl⟩)
end Go.Proofs.YtjmeeofdffdpnaaGreatDoor
namespace Go.Proofs.YtjmeeofdffdpnaaGreatDoor
open Go Go.K Go.ChangeShapes Go.RowKit Go.WideElems
open Ru (NmS BasV)
section
variable {H : Type} {enc : TypeId × Value → H} {P : Program} {W : World} {n : Nat} {t e : TypeId} {cs : List Value} {x : DataW H × List MemPlace}
def Dat (enc : TypeId × Value → H) (P : Program) (W : World) (n : Nat) (t : TypeId) (cs : List Value) (x : DataW H × List MemPlace) : Prop :=
  DataW.trod enc P W 0 (fun _ => true) true n t cs = some x ∧ (x.1.weights P t).all (· ≤ reachBytes) = true
theorem Dat.slice (ht : P.underlying t = some (.slice e)) (h : Dat enc P W n t cs x) : ∃ (v : Value) (k : Nat), cs = [v] ∧ IsSl v k ∧ k * P.bytesOf e ≤ maxSl ∧ ∀ i, i < k → ∃ cs' m y, m < n ∧ Dat enc P W m e cs' y ∧ ∀ j u, cs'[j]? = some u → PCell (hp W) (Value.at v (i * P.cellsOf e + j)) u := by
  obtain ⟨h, hw⟩ := h
  rcases DataW.trod_slice ht h with ⟨rfl, _⟩ | ⟨a, len, cap, elems, rest, n', hn, rfl, hx, _, hl, _, hlen, he, _, _⟩
  · exact ⟨_, 0, rfl, isSl_nil, by simp, fun i hi => absurd hi (by simp)⟩
  · rw [hx] at hw
    simp only [DataW.weights, ht, List.all_cons, List.all_append, Bool.and_eq_true, decide_eq_true_eq, List.length_map] at hw
    obtain ⟨hw1, hw2, _⟩ := hw
    refine ⟨_, len, rfl, ⟨_, _, rfl, fun _ => rfl, by omega⟩, ?_, fun i hi => ?_⟩
    · have h1 : (elems.length + rest.length) * P.bytesOf e ≤ reachBytes := hw1
      have h2 : len * P.bytesOf e ≤ (elems.length + rest.length) * P.bytesOf e := Nat.mul_le_mul_right _ (by omega)
      have h3 : reachBytes ≤ maxSl := by decide
      omega
    · have hi' := he i hi
      have hil : i < elems.length := by rw [hlen]; exact hi
      rw [List.getElem?_eq_getElem hil] at hi'
      obtain ⟨cs', hc, hd⟩ := bS hi'
      refine ⟨cs', n', _, by omega, ⟨hd, weights_all hw2 _ (List.mem_map.2 ⟨_, List.getElem_mem hil, rfl⟩)⟩, fun j u hj => pcell_of ?_⟩
      obtain ⟨_, hcl, hat⟩ := World.cells?_some hc
      have hjl : j < P.cellsOf e := by rw [← hcl]; exact (List.getElem?_eq_some_iff.1 hj).1
      have := hat j hjl
      rw [hj, add_add] at this
      exact this
theorem Dat.rows {β : Type} {g : β → List Value → Prop} (ht : P.underlying t = some (.slice e)) (h : Dat enc P W n t cs x) (hg : ∀ m cs' y, m < n → Dat enc P W m e cs' y → ∃ b, g b cs') : ∃ (v : Value) (l : List β), cs = [v] ∧ IsSl v l.length ∧ l.length * P.bytesOf e ≤ maxSl ∧ ∀ i (h : i < l.length), ∃ cs', g l[i] cs' ∧ ∀ j u, cs'[j]? = some u → PCell (hp W) (Value.at v (i * P.cellsOf e + j)) u := by
  obtain ⟨v, k, hv, hk, hb, hi⟩ := h.slice ht
  have hex : ∀ i : Fin k, ∃ b : β, ∃ cs', g b cs' ∧ ∀ j u, cs'[j]? = some u → PCell (hp W) (Value.at v (i.1 * P.cellsOf e + j)) u := fun i => by
    obtain ⟨cs', m, y, hm, hy, hc⟩ := hi i.1 i.2
    obtain ⟨b, hb⟩ := hg m cs' y hm hy
    exact ⟨b, cs', hb, hc⟩
  refine ⟨v, List.ofFn fun i : Fin k => (hex i).choose, hv, by rw [List.length_ofFn]; exact hk, by rw [List.length_ofFn]; exact hb, fun i hi => ?_⟩
  rw [List.length_ofFn] at hi
  rw [List.getElem_ofFn]
  exact (hex ⟨i, hi⟩).choose_spec
theorem Dat.sl (α : Type) [Rep α] (ht : P.underlying t = some (.slice e)) (hC : P.cellsOf e = Rep.sz α) (hb : P.bytesOf e = Rep.bytes α) (h : Dat enc P W n t cs x) (hg : ∀ m cs' y, m < n → Dat enc P W m e cs' y → ∃ a : α, Rep.rep (hp W) a cs') : ∃ (v : Value) (l : List α), cs = [v] ∧ RepSl (hp W) l v := by
  obtain ⟨v, l, h1, h2, h3, h4⟩ := h.rows ht hg
  exact ⟨v, l, h1, h2, hb ▸ h3, fun i hi => hC ▸ h4 i hi⟩
theorem Dat.int (ht : P.underlying t = some (.int .i64)) (h : Dat enc P W n t cs x) : ∃ a : Int, cs = [.int .i64 a] ∧ I64 a := by
  obtain ⟨a, k, _, w⟩ := DataW.trod_int ht h.1
  exact ⟨a, k, i64_wf w⟩
theorem Dat.str (ht : P.underlying t = some .string) (h : Dat enc P W n t cs x) : ∃ a : List UInt8, cs = [.string (bs a)] ∧ a.length ≤ maxLen := by
  obtain ⟨a, k, _, w⟩ := DataW.trod_string ht h.1
  exact ⟨a.data.toList, k, by simpa using w⟩
theorem Dat.fields {fs : Array Field} (ht : P.underlying t = some (.struct fs)) (h : Dat enc P W n t cs x) : cs.length = P.cellsOf t ∧ ∃ m, m < n ∧ ∀ (k : Nat) (f : Field), fs[k]? = some f → ∃ y, Dat enc P W m f.type ((cs.drop f.offset).take (P.cellsOf f.type)) y := by
  obtain ⟨h, hw⟩ := h
  obtain ⟨xs, m, hn, hx, hl, hlen, hf⟩ := DataW.trod_struct ht h
  subst hx
  have hw : (DataW.weightsEach P (fs.toList.map (·.type)) (xs.map (·.1))).all (· ≤ reachBytes) = true := by
    have h2 := hw
    simp only [DataW.weights, ht] at h2
    exact h2
  refine ⟨hl, m, by omega, fun k f hk => ?_⟩
  have hk2 : k < xs.length := by rw [hlen]; exact (Array.getElem?_eq_some_iff.1 hk).1
  refine ⟨xs[k], (hf k f hk).trans (List.getElem?_eq_getElem hk2), weights_arg k hw ?_ ?_⟩
  · rw [List.getElem?_map, Array.getElem?_toList, hk]; rfl
  · rw [List.getElem?_map, List.getElem?_eq_getElem hk2]; rfl
end
section
variable {H : Type} {enc : TypeId × Value → H} {W : World} {n : Nat} {cs : List Value} {x : DataW H × List MemPlace}
theorem oc3 : pg.cellsOf 3 = 1 := by kernel_rfl
theorem oc9 : pg.cellsOf 9 = 1 := by kernel_rfl
theorem vlen2 {l : List Value} (h : l.length = 2) : ∃ a0 a1, l = [a0, a1] := match l, h with
  | [_, _], _ => ⟨_, _, rfl⟩
theorem vlen5 {l : List Value} (h : l.length = 5) : ∃ a0 a1 a2 a3 a4, l = [a0, a1, a2, a3, a4] := match l, h with
  | [_, _, _, _, _], _ => ⟨_, _, _, _, _, rfl⟩
theorem vlen6 {l : List Value} (h : l.length = 6) : ∃ a0 a1 a2 a3 a4 a5, l = [a0, a1, a2, a3, a4, a5] := match l, h with
  | [_, _, _, _, _, _], _ => ⟨_, _, _, _, _, _, rfl⟩
theorem vlen8 {l : List Value} (h : l.length = 8) : ∃ a0 a1 a2 a3 a4 a5 a6 a7, l = [a0, a1, a2, a3, a4, a5, a6, a7] := match l, h with
  | [_, _, _, _, _, _, _, _], _ => ⟨_, _, _, _, _, _, _, _, rfl⟩
theorem vlen11 {l : List Value} (h : l.length = 11) : ∃ a0 a1 a2 a3 a4 a5 a6 a7 a8 a9 a10, l = [a0, a1, a2, a3, a4, a5, a6, a7, a8, a9, a10] := match l, h with
  | [_, _, _, _, _, _, _, _, _, _, _], _ => ⟨_, _, _, _, _, _, _, _, _, _, _, rfl⟩
theorem open_ints (h : Dat enc pg W n 29 cs x) : ∃ (v : Value) (l : List Int), cs = [v] ∧ RepSl (hp W) l v :=
  h.sl Int Tryz.underlying29 oc3 (by kernel_rfl) fun _ _ _ _ hy => hy.int Tryz.underlying3
theorem nmS_of {Φ : Hp} {v : Value} {sz by_ : Nat} {l : List (List UInt8 × Int)} (h1 : IsSl v l.length) (h2 : l.length * by_ ≤ maxSl) (h0 : 0 < by_) (h3 : ∀ i (h : i < l.length), ∃ cs : List Value, (cs[0]? = some (.string (bs l[i].1)) ∧ l[i].1.length ≤ maxLen) ∧ ∀ j u, cs[j]? = some u → PCell Φ (Value.at v (i * sz + j)) u) : NmS Φ v sz (l.map (·.1)) := by
  refine ⟨by rw [List.length_map]; exact h1, fun i hi => ?_, fun q hq => ?_, ?_⟩
  · have hi' : i < l.length := by rwa [List.length_map] at hi
    obtain ⟨cs, h4, h5⟩ := h3 i hi'
    rw [List.getElem_map]
    exact h5 0 _ h4.1
  · obtain ⟨a, ha, rfl⟩ := List.mem_map.1 hq
    obtain ⟨i, hi, rfl⟩ := List.mem_iff_getElem.1 ha
    obtain ⟨cs, h4, _⟩ := h3 i hi
    exact h4.2
  · rw [List.length_map]
    have h6 : l.length * 1 ≤ l.length * by_ := Nat.mul_le_mul_left _ h0
    simp only [maxSl] at h2
    omega
theorem name_str (h : Dat enc pg W n 9 cs x) : ∃ b : List UInt8 × Int, cs[0]? = some (.string (bs b.1)) ∧ b.1.length ≤ maxLen := by
  obtain ⟨a, rfl, w⟩ := h.str Tryz.underlying9
  exact ⟨(a, 0), rfl, w⟩
end
theorem getD_sum : ∀ (l : List Nat) (i : Nat), l.getD i 0 ≤ l.sum
  | [], _ => by simp
  | a :: l, 0 => by simp
  | a :: l, i + 1 => by
    have := getD_sum l i
    simp only [List.getD_cons_succ, List.sum_cons]
    omega
theorem getD_sum2 : ∀ (l : List Nat) (i j : Nat), i < j → l.getD i 0 + l.getD j 0 ≤ l.sum
  | [], _, _, _ => by simp
  | a :: l, 0, j + 1, _ => by
    have := getD_sum l j
    simp only [List.getD_cons_succ, List.getD_cons_zero, List.sum_cons]
    omega
  | a :: l, i + 1, j + 1, h => by
    have := getD_sum2 l i j (by omega)
    simp only [List.getD_cons_succ, List.sum_cons]
    omega
theorem sum_le : ∀ (l ws : List Nat), l.length = ws.length → (∀ i, i < l.length → l.getD i 0 ≤ ws.getD i 0) → l.sum ≤ ws.sum
  | [], [], _, _ => Nat.le_refl _
  | a :: l, b :: ws, h, hi => by
    have h1 := hi 0 (by simp)
    have h2 := sum_le l ws (by simpa using h) fun i h => by simpa using hi (i + 1) (by simpa using h)
    simp only [List.getD_cons_zero] at h1
    simp only [List.sum_cons]
    omega
theorem bulk_sum {H : Type} : ∀ (l : List (DataW H)), Rows.uptoBulkAll l = (l.map Rows.uptoBulk).sum
  | [] => rfl
  | d :: l => by rw [Rows.uptoBulkAll, bulk_sum l]; rfl
section
variable {H : Type} {enc : TypeId × Value → H} {P : Program} {W : World} {n : Nat} {t e : TypeId} {cs : List Value} {x : DataW H × List MemPlace}
theorem Dat.sliceB (ht : P.underlying t = some (.slice e)) (h : Dat enc P W n t cs x) : ∃ (v : Value) (ws : List Nat), cs = [v] ∧ IsSl v ws.length ∧ ws.length * P.bytesOf e ≤ maxSl ∧ ws.sum ≤ Rows.uptoBulk x.1 ∧ ∀ i, i < ws.length → ∃ cs' m y, m < n ∧ Dat enc P W m e cs' y ∧ Rows.uptoBulk y.1 = ws.getD i 0 ∧ ∀ j u, cs'[j]? = some u → PCell (hp W) (Value.at v (i * P.cellsOf e + j)) u := by
  obtain ⟨h, hw⟩ := h
  rcases DataW.trod_slice ht h with ⟨rfl, _⟩ | ⟨a, len, cap, elems, rest, n', hn, rfl, hx, _, hl, _, hlen, he, _, _⟩
  · exact ⟨_, [], rfl, isSl_nil, by simp, by simp, fun i hi => absurd hi (by simp)⟩
  · have hw0 := hw
    rw [hx] at hw
    simp only [DataW.weights, ht, List.all_cons, List.all_append, Bool.and_eq_true, decide_eq_true_eq, List.length_map] at hw
    obtain ⟨hw1, hw2, _⟩ := hw
    refine ⟨_, elems.map fun d => Rows.uptoBulk d.1, rfl, by rw [List.length_map, hlen]; exact ⟨_, _, rfl, fun _ => rfl, by omega⟩, ?_, ?_, fun i hi => ?_⟩
    · have h1 : (elems.length + rest.length) * P.bytesOf e ≤ reachBytes := hw1
      have h2 : len * P.bytesOf e ≤ (elems.length + rest.length) * P.bytesOf e := Nat.mul_le_mul_right _ (by omega)
      have h3 : reachBytes ≤ maxSl := by decide
      rw [List.length_map]
      have h4 : elems.length = len := by omega
      rw [h4]
      omega
    · rw [hx, Rows.uptoBulk, bulk_sum, List.map_map]
      have : (elems.map fun d => Rows.uptoBulk d.1) = elems.map (Rows.uptoBulk ∘ fun d => d.1) := rfl
      rw [this]
      omega
    · rw [List.length_map] at hi
      have hi' := he i (by omega)
      have hil : i < elems.length := hi
      rw [List.getElem?_eq_getElem hil] at hi'
      obtain ⟨cs', hc, hd⟩ := bS hi'
      refine ⟨cs', n', _, by omega, ⟨hd, weights_all hw2 _ (List.mem_map.2 ⟨_, List.getElem_mem hil, rfl⟩)⟩, ?_, fun j u hj => pcell_of ?_⟩
      · rw [gDD, List.getElem?_map, List.getElem?_eq_getElem hil]; rfl
      obtain ⟨_, hcl, hat⟩ := World.cells?_some hc
      have hjl : j < P.cellsOf e := by rw [← hcl]; exact (List.getElem?_eq_some_iff.1 hj).1
      have := hat j hjl
      rw [hj, add_add] at this
      exact this
theorem Dat.rowsB {β : Type} {g : β → List Value → Prop} (μ : β → Nat) (ht : P.underlying t = some (.slice e)) (h : Dat enc P W n t cs x) (hg : ∀ m cs' y, m < n → Dat enc P W m e cs' y → ∃ b, g b cs' ∧ μ b ≤ Rows.uptoBulk y.1) : ∃ (v : Value) (l : List β), cs = [v] ∧ IsSl v l.length ∧ l.length * P.bytesOf e ≤ maxSl ∧ (l.map μ).sum ≤ Rows.uptoBulk x.1 ∧ ∀ i (h : i < l.length), ∃ cs', g l[i] cs' ∧ ∀ j u, cs'[j]? = some u → PCell (hp W) (Value.at v (i * P.cellsOf e + j)) u := by
  obtain ⟨v, ws, hv, hk, hb, hs, hi⟩ := h.sliceB ht
  have hex : ∀ i : Fin ws.length, ∃ b : β, μ b ≤ ws.getD i.1 0 ∧ ∃ cs', g b cs' ∧ ∀ j u, cs'[j]? = some u → PCell (hp W) (Value.at v (i.1 * P.cellsOf e + j)) u := fun i => by
    obtain ⟨cs', m, y, hm, hy, hw, hc⟩ := hi i.1 i.2
    obtain ⟨b, hb, hm⟩ := hg m cs' y hm hy
    exact ⟨b, by omega, cs', hb, hc⟩
  refine ⟨v, List.ofFn fun i : Fin ws.length => (hex i).choose, hv, by rw [List.length_ofFn]; exact hk, by rw [List.length_ofFn]; exact hb, ?_, fun i hi => ?_⟩
  · refine Nat.le_trans (sum_le _ ws (by rw [List.length_map, List.length_ofFn]) fun i hi => ?_) hs
    rw [List.length_map, List.length_ofFn] at hi
    rw [gDD, List.getElem?_map, List.getElem?_eq_getElem (by rw [List.length_ofFn]; exact hi)]
    simp only [List.getElem_ofFn, Option.map_some, Option.getD_some]
    exact (hex ⟨i, hi⟩).choose_spec.1
  · rw [List.length_ofFn] at hi
    rw [List.getElem_ofFn]
    exact (hex ⟨i, hi⟩).choose_spec.2
theorem Dat.slB (α : Type) [Rep α] (μ : α → Nat) (ht : P.underlying t = some (.slice e)) (hC : P.cellsOf e = Rep.sz α) (hb : P.bytesOf e = Rep.bytes α) (h : Dat enc P W n t cs x) (hg : ∀ m cs' y, m < n → Dat enc P W m e cs' y → ∃ a : α, Rep.rep (hp W) a cs' ∧ μ a ≤ Rows.uptoBulk y.1) : ∃ (v : Value) (l : List α), cs = [v] ∧ RepSl (hp W) l v ∧ (l.map μ).sum ≤ Rows.uptoBulk x.1 := by
  obtain ⟨v, l, h1, h2, h3, h5, h4⟩ := h.rowsB μ ht hg
  exact ⟨v, l, h1, ⟨h2, hb ▸ h3, fun i hi => hC ▸ h4 i hi⟩, h5⟩
theorem Dat.fieldsB {fs : Array Field} (ht : P.underlying t = some (.struct fs)) (h : Dat enc P W n t cs x) : cs.length = P.cellsOf t ∧ ∃ m, m < n ∧ ∃ ws : List Nat, ws.sum + 1 ≤ Rows.uptoBulk x.1 ∧ ∀ (k : Nat) (f : Field), fs[k]? = some f → ∃ y, Dat enc P W m f.type ((cs.drop f.offset).take (P.cellsOf f.type)) y ∧ Rows.uptoBulk y.1 = ws.getD k 0 := by
  obtain ⟨h, hw⟩ := h
  obtain ⟨xs, m, hn, hx, hl, hlen, hf⟩ := DataW.trod_struct ht h
  subst hx
  have hw : (DataW.weightsEach P (fs.toList.map (·.type)) (xs.map (·.1))).all (· ≤ reachBytes) = true := by
    have h2 := hw
    simp only [DataW.weights, ht] at h2
    exact h2
  refine ⟨hl, m, by omega, xs.map fun d => Rows.uptoBulk d.1, ?_, fun k f hk => ?_⟩
  · simp only [Rows.uptoBulk]
    rw [bulk_sum, List.map_map]
    exact Nat.le_refl _
  have hk2 : k < xs.length := by rw [hlen]; exact (Array.getElem?_eq_some_iff.1 hk).1
  refine ⟨xs[k], ⟨(hf k f hk).trans (List.getElem?_eq_getElem hk2), weights_arg k hw ?_ ?_⟩, ?_⟩
  · rw [List.getElem?_map, Array.getElem?_toList, hk]; rfl
  · rw [List.getElem?_map, List.getElem?_eq_getElem hk2]; rfl
  · rw [gDD, List.getElem?_map, List.getElem?_eq_getElem hk2]; rfl
end
section
variable {H : Type} {enc : TypeId × Value → H} {W : World} {n : Nat} {cs : List Value} {x : DataW H × List MemPlace}
theorem ndL_sum : ∀ (l : List Bt.Expr), Vm.ndL l = (l.map Vm.nd).sum
  | [] => by rw [Vm.ndL]; rfl
  | x :: l => by rw [Vm.ndL, ndL_sum l]; rfl
theorem ndC_sum : ∀ (l : List Bt.RClause), Vm.ndL (l.flatMap fun c => [c.If, c.To]) = (l.map fun c => Vm.nd c.If + Vm.nd c.To).sum
  | [] => by rw [List.flatMap_nil, Vm.ndL]; rfl
  | c :: l => by
    rw [List.flatMap_cons, Vm.ndL_app, ndC_sum l, List.map_cons, List.sum_cons]
    simp only [Vm.ndL, Nat.add_zero]
theorem ndR_sum (r : Bt.Rule) : Vm.ndR r = (r.Funcs.map fun f => Vm.nd f.Body).sum + (r.Clauses.map fun c => Vm.nd c.If + Vm.nd c.To).sum := by
  unfold Vm.ndR
  rw [Vm.ndL_app, ndC_sum, ndL_sum, List.map_map]
  rfl
theorem open_exprB : ∀ (n : Nat) {cs : List Value} {x : DataW H × List MemPlace}, Dat enc pg W n 59 cs x → ∃ a : Bt.Expr, Rep.rep (hp W) a cs ∧ Vm.nd a ≤ Rows.uptoBulk x.1 := fun n => by
  induction n using Nat.strongRecOn with
  | _ n ih =>
    intro cs x h
    obtain ⟨hl, m, hm, ws, hws, hf⟩ := h.fieldsB Tryz.underlying59
    obtain ⟨y0, h0, b0⟩ := hf 0 ⟨_, 3, 0, _, _, _, _⟩ rfl
    obtain ⟨y1, h1, b1⟩ := hf 1 ⟨_, 3, 1, _, _, _, _⟩ rfl
    obtain ⟨y2, h2, b2⟩ := hf 2 ⟨_, 3, 2, _, _, _, _⟩ rfl
    obtain ⟨y3, h3, b3⟩ := hf 3 ⟨_, 3, 3, _, _, _, _⟩ rfl
    obtain ⟨y4, h4, b4⟩ := hf 4 ⟨_, 57, 4, _, _, _, _⟩ rfl
    obtain ⟨a0, k0, w0⟩ := h0.int Tryz.underlying3
    obtain ⟨a1, k1, w1⟩ := h1.int Tryz.underlying3
    obtain ⟨a2, k2, w2⟩ := h2.int Tryz.underlying3
    obtain ⟨a3, k3, w3⟩ := h3.int Tryz.underlying3
    obtain ⟨v4, l4, k4, r4, m4⟩ := h4.slB Bt.Expr Vm.nd Tryz.underlying57 (by kernel_rfl) (by kernel_rfl) fun q _ _ hq hy => ih q (by omega) hy
    have e67 : pg.cellsOf 57 = 1 := by kernel_rfl
    have hl : cs.length = 5 := hl.trans (by kernel_rfl)
    obtain ⟨c0, c1, c2, c3, c4, rfl⟩ := vlen5 hl
    simp only [oc3, e67, List.drop_zero, List.drop_succ_cons, List.take_succ_cons, List.take_zero, List.cons.injEq, and_true] at k0 k1 k2 k3 k4
    subst k0; subst k1; subst k2; subst k3; subst k4
    have hn : Vm.ndL l4 = (l4.map Vm.nd).sum := ndL_sum l4
    have hg := getD_sum ws 4
    exact ⟨⟨a0, a1, a2, a3, l4⟩, repE'.2 ⟨_, rfl, ⟨w0, w1, w2, w3⟩, r4⟩, by rw [Vm.nd, hn]; omega⟩
theorem open_funB (h : Dat enc pg W n 61 cs x) : ∃ a : Bt.RFunc, Rep.rep (hp W) a cs ∧ Vm.nd a.Body ≤ Rows.uptoBulk x.1 := by
  obtain ⟨hl, m, hm, ws, hws, hf⟩ := h.fieldsB Tryz.underlying61
  obtain ⟨y0, h0, b0⟩ := hf 0 ⟨_, 9, 0, _, _, _, _⟩ rfl
  obtain ⟨y1, h1, b1⟩ := hf 1 ⟨_, 29, 1, _, _, _, _⟩ rfl
  obtain ⟨y2, h2, b2⟩ := hf 2 ⟨_, 3, 2, _, _, _, _⟩ rfl
  obtain ⟨y3, h3, b3⟩ := hf 3 ⟨_, 59, 3, _, _, _, _⟩ rfl
  obtain ⟨a0, k0, w0⟩ := h0.str Tryz.underlying9
  obtain ⟨v1, l1, k1, r1⟩ := open_ints h1
  obtain ⟨a2, k2, w2⟩ := h2.int Tryz.underlying3
  obtain ⟨a3, r3, m3⟩ := open_exprB m h3
  obtain ⟨v3, k3, w3, r3⟩ := repE'.1 r3
  have e29 : pg.cellsOf 29 = 1 := by kernel_rfl
  have e69 : pg.cellsOf 59 = 5 := by kernel_rfl
  have hl : cs.length = 8 := hl.trans (by kernel_rfl)
  obtain ⟨c0, c1, c2, c3, c4, c5, c6, c7, rfl⟩ := vlen8 hl
  simp only [oc3, oc9, e29, e69, exC, List.drop_zero, List.drop_succ_cons, List.take_succ_cons, List.take_zero, List.cons.injEq, and_true] at k0 k1 k2 k3
  obtain ⟨j0, j1, j2, j3, j4⟩ := k3
  subst k0; subst k1; subst k2; subst j0; subst j1; subst j2; subst j3; subst j4
  have hg := getD_sum ws 3
  exact ⟨⟨a0, l1, a2, a3⟩, ⟨_, _, rfl, w0, r1, w2, w3, r3⟩, by show Vm.nd a3 ≤ _; omega⟩
theorem open_clB (h : Dat enc pg W n 76 cs x) : ∃ a : Bt.RClause, Rep.rep (hp W) a cs ∧ Vm.nd a.If + Vm.nd a.To ≤ Rows.uptoBulk x.1 := by
  obtain ⟨hl, m, hm, ws, hws, hf⟩ := h.fieldsB Tryz.underlying76
  obtain ⟨y0, h0, b0⟩ := hf 0 ⟨_, 59, 0, _, _, _, _⟩ rfl
  obtain ⟨y1, h1, b1⟩ := hf 1 ⟨_, 3, 5, _, _, _, _⟩ rfl
  obtain ⟨y2, h2, b2⟩ := hf 2 ⟨_, 59, 6, _, _, _, _⟩ rfl
  obtain ⟨a0, r0, m0⟩ := open_exprB m h0
  obtain ⟨v0, k0, w0, z0⟩ := repE'.1 r0
  clear r0
  obtain ⟨a1, k1, w1⟩ := h1.int Tryz.underlying3
  obtain ⟨a2, r2, m2⟩ := open_exprB m h2
  obtain ⟨v2, k2, w2, z2⟩ := repE'.1 r2
  clear r2
  have e69 : pg.cellsOf 59 = 5 := by kernel_rfl
  have hl : cs.length = 11 := hl.trans (by kernel_rfl)
  obtain ⟨c0, c1, c2, c3, c4, c5, c6, c7, c8, c9, c10, rfl⟩ := vlen11 hl
  simp only [oc3, e69, exC, List.drop_zero, List.drop_succ_cons, List.take_succ_cons, List.take_zero, List.cons.injEq, and_true] at k0 k1 k2
  obtain ⟨j0, j1, j2, j3, j4⟩ := k0
  obtain ⟨i0, i1, i2, i3, i4⟩ := k2
  subst k1; subst j0; subst j1; subst j2; subst j3; subst j4; subst i0; subst i1; subst i2; subst i3; subst i4
  have hg := getD_sum2 ws 0 2 (by omega)
  exact ⟨⟨a0, a1, a2⟩, ⟨_, _, rfl, w0, z0, w1, w2, z2⟩, by show Vm.nd a0 + Vm.nd a2 ≤ _; omega⟩
theorem open_ruleB (h : Dat enc pg W n 35 cs x) : ∃ (r : Bt.Rule) (fv cv : Value), cs = [fv, cv] ∧ RepSl (hp W) r.Funcs fv ∧ RepSl (hp W) r.Clauses cv ∧ Vm.ndR r ≤ Rows.uptoBulk x.1 := by
  obtain ⟨hl, m, hm, ws, hws, hf⟩ := h.fieldsB Tryz.underlying35
  obtain ⟨y0, h0, b0⟩ := hf 0 ⟨_, 32, 0, _, _, _, _⟩ rfl
  obtain ⟨y1, h1, b1⟩ := hf 1 ⟨_, 33, 1, _, _, _, _⟩ rfl
  obtain ⟨v0, l0, k0, r0, m0⟩ := h0.slB Bt.RFunc (fun f => Vm.nd f.Body) Tryz.underlying32 (by kernel_rfl) (by kernel_rfl) fun _ _ _ _ hy => open_funB hy
  obtain ⟨v1, l1, k1, r1, m1⟩ := h1.slB Bt.RClause (fun c => Vm.nd c.If + Vm.nd c.To) Tryz.underlying33 (by kernel_rfl) (by kernel_rfl) fun _ _ _ _ hy => open_clB hy
  have e32 : pg.cellsOf 32 = 1 := by kernel_rfl
  have e33 : pg.cellsOf 33 = 1 := by kernel_rfl
  have hl : cs.length = 2 := hl.trans (by kernel_rfl)
  obtain ⟨c0, c1, rfl⟩ := vlen2 hl
  simp only [e32, e33, List.drop_zero, List.drop_succ_cons, List.take_succ_cons, List.take_zero, List.cons.injEq, and_true] at k0 k1
  subst k0; subst k1
  have hg := getD_sum2 ws 0 1 (by omega)
  have hn := ndR_sum ⟨l0, l1⟩
  exact ⟨⟨l0, l1⟩, _, _, rfl, r0, r1, by rw [hn]; show (l0.map fun f => Vm.nd f.Body).sum + (l1.map fun c => Vm.nd c.If + Vm.nd c.To).sum ≤ _; omega⟩
end
end Go.Proofs.YtjmeeofdffdpnaaGreatDoor
namespace Go.Proofs.YtjmeeofdffdpnaaGreatDoor
open Go Go.K Go.RowKit
open Ru (pB NmS BasV)
attribute [local irreducible] AW RW DW Post Qt
end Go.Proofs.YtjmeeofdffdpnaaGreatDoor
namespace Go.Proofs.YtjmeeofdffdpnaaGreatDoor
open Go Go.K Go.ChangeShapes Go.RowKit Go.WideElems
open Ru (NmS BasV)
section
variable {H : Type} {enc : TypeId × Value → H} {W : World} {n : Nat} {cs : List Value} {x : DataW H × List MemPlace}
theorem open_facts (h : Dat enc pg W n 41 cs x) : ∃ (f : Bt.Facts) (yf : FcV), cs = fcC yf f.Hour ∧ yf.ok (hp W) f ∧ I64 f.Hour := by
  obtain ⟨hl, m, hm, hf⟩ := h.fields Tryz.underlying41
  obtain ⟨y0, h0⟩ := hf 0 ⟨_, 29, 0, _, _, _, _⟩ rfl
  obtain ⟨y1, h1⟩ := hf 1 ⟨_, 29, 1, _, _, _, _⟩ rfl
  obtain ⟨y2, h2⟩ := hf 2 ⟨_, 39, 2, _, _, _, _⟩ rfl
  obtain ⟨y3, h3⟩ := hf 3 ⟨_, 29, 3, _, _, _, _⟩ rfl
  obtain ⟨y4, h4⟩ := hf 4 ⟨_, 3, 4, _, _, _, _⟩ rfl
  obtain ⟨y5, h5⟩ := hf 5 ⟨_, 29, 5, _, _, _, _⟩ rfl
  obtain ⟨v0, l0, k0, r0⟩ := open_ints h0
  obtain ⟨v1, l1, k1, r1⟩ := open_ints h1
  obtain ⟨v2, l2, k2, r2⟩ := h2.sl (List Int) Tryz.underlying39 (by kernel_rfl) (by kernel_rfl) fun _ _ _ _ hy => by
    obtain ⟨v, l, k, r⟩ := open_ints hy
    exact ⟨l, v, k, r⟩
  obtain ⟨v3, l3, k3, r3⟩ := open_ints h3
  obtain ⟨a4, k4, w4⟩ := h4.int Tryz.underlying3
  obtain ⟨v5, l5, k5, r5⟩ := open_ints h5
  have e29 : pg.cellsOf 29 = 1 := by kernel_rfl
  have e36 : pg.cellsOf 39 = 1 := by kernel_rfl
  have hl : cs.length = 6 := hl.trans (by kernel_rfl)
  obtain ⟨c0, c1, c2, c3, c4, c5, rfl⟩ := vlen6 hl
  simp only [oc3, e29, e36, List.drop_zero, List.drop_succ_cons, List.take_succ_cons, List.take_zero, List.cons.injEq, and_true] at k0 k1 k2 k3 k4 k5
  subst k0; subst k1; subst k2; subst k3; subst k4; subst k5
  exact ⟨⟨l0, l1, l2, l3, a4, l5⟩, ⟨c0, c1, c2, c3, c5⟩, rfl, ⟨r0, r1, r2, r3, r5⟩, w4⟩
theorem take_at {l : List Value} {o : Nat} {u : Value} (h : (l.drop o).take 1 = [u]) : l[o]? = some u := by
  have h1 : ((l.drop o).take 1)[0]? = some u := by rw [h]; rfl
  simpa [List.getElem?_take, List.getElem?_drop] using h1
theorem name_of {t : TypeId} {fs : Array Field} {f : Field} (ht : pg.underlying t = some (.struct fs)) (hf0 : fs[0]? = some f) (h9 : f.type = 9) (h0 : f.offset = 0) (h : Dat enc pg W n t cs x) : ∃ b : List UInt8 × Int, cs[0]? = some (.string (bs b.1)) ∧ b.1.length ≤ maxLen := by
  obtain ⟨_, m, _, hf⟩ := h.fields ht
  obtain ⟨y, hy⟩ := hf 0 f hf0
  rw [h9, h0, oc9] at hy
  obtain ⟨a, k, w⟩ := hy.str Tryz.underlying9
  exact ⟨(a, 0), take_at k, w⟩
theorem link_of (h : Dat enc pg W n 111 cs x) : ∃ b : List UInt8 × Int, (cs[0]? = some (.string (bs b.1)) ∧ b.1.length ≤ maxLen) ∧ cs[7]? = some (.int .i64 b.2) ∧ I64 b.2 := by
  obtain ⟨_, m, _, hf⟩ := h.fields Tryz.underlying111
  obtain ⟨y, hy⟩ := hf 0 ⟨_, 9, 0, _, _, _, _⟩ rfl
  obtain ⟨z, hz⟩ := hf 6 ⟨_, 3, 7, _, _, _, _⟩ rfl
  obtain ⟨a, k, w⟩ := hy.str Tryz.underlying9
  obtain ⟨p, k2, w2⟩ := hz.int Tryz.underlying3
  have k : (cs.drop 0).take 1 = [.string (bs a)] := by rw [← oc9]; exact k
  have k2 : (cs.drop 7).take 1 = [.int .i64 p] := by rw [← oc3]; exact k2
  exact ⟨(a, p), ⟨take_at (o := 0) k, w⟩, take_at (o := 7) k2, w2⟩
theorem open_basin2 (h : Dat enc pg W n 31 cs x) : ∃ (b : BasV) (e : Ru.Env) (ps : List Int), cs = b.cs ∧ b.ok (hp W) e ∧ PosS (hp W) b.lv ps ∧ ps.length = e.links.length ∧ ps.length * 200 ≤ maxSl ∧ (∀ x ∈ ps, I64 x) ∧ e.places.length * 16 ≤ maxSl ∧ e.links.length * 16 ≤ maxSl ∧ e.towns.length * 16 ≤ maxSl := by
  obtain ⟨hl, m, hm, hf⟩ := h.fields Tryz.underlying31
  obtain ⟨y0, h0⟩ := hf 0 ⟨_, 9, 0, _, _, _, _⟩ rfl
  obtain ⟨y1, h1⟩ := hf 1 ⟨_, 22, 1, _, _, _, _⟩ rfl
  obtain ⟨y2, h2⟩ := hf 2 ⟨_, 3, 2, _, _, _, _⟩ rfl
  obtain ⟨y3, h3⟩ := hf 3 ⟨_, 23, 3, _, _, _, _⟩ rfl
  obtain ⟨y4, h4⟩ := hf 4 ⟨_, 24, 4, _, _, _, _⟩ rfl
  obtain ⟨y5, h5⟩ := hf 5 ⟨_, 25, 5, _, _, _, _⟩ rfl
  obtain ⟨y10, h10⟩ := hf 10 ⟨_, 3, 10, _, _, _, _⟩ rfl
  obtain ⟨a0, k0, w0⟩ := h0.str Tryz.underlying9
  obtain ⟨v1, l1, k1, s1, b1, r1⟩ := h1.rows Tryz.underlying22 fun _ _ _ _ hy => name_str hy
  obtain ⟨a2, k2, w2⟩ := h2.int Tryz.underlying3
  obtain ⟨v3, l3, k3, s3, b3, r3⟩ := h3.rows Tryz.underlying23 fun _ _ _ _ hy => name_of Tryz.underlying106 rfl rfl rfl hy
  obtain ⟨v4, l4, k4, s4, b4, r4⟩ := h4.rows Tryz.underlying24 fun _ _ _ _ hy => link_of hy
  obtain ⟨v5, l5, k5, s5, b5, r5⟩ := h5.rows Tryz.underlying25 fun _ _ _ _ hy => name_of Tryz.underlying113 rfl rfl rfl hy
  obtain ⟨a10, k10, w10⟩ := h10.int Tryz.underlying3
  have e22 : pg.cellsOf 22 = 1 := by kernel_rfl
  have e23 : pg.cellsOf 23 = 1 := by kernel_rfl
  have e24 : pg.cellsOf 24 = 1 := by kernel_rfl
  have e25 : pg.cellsOf 25 = 1 := by kernel_rfl
  have c92 : pg.cellsOf 106 = 12 := by kernel_rfl
  have c58 : pg.cellsOf 111 = 18 := by kernel_rfl
  have c94 : pg.cellsOf 113 = 7 := by kernel_rfl
  have d58 : pg.bytesOf 111 = 200 := by kernel_rfl
  have p9 : 0 < pg.bytesOf 9 := by decide +kernel
  have p92 : 16 ≤ pg.bytesOf 106 := by decide +kernel
  have p94 : 16 ≤ pg.bytesOf 113 := by decide +kernel
  rw [oc9] at r1; rw [c92] at r3; rw [c58] at r4; rw [c94] at r5; rw [d58] at b4
  have hl : cs.length = 11 := hl.trans (by kernel_rfl)
  obtain ⟨c0, c1, c2, c3, c4, c5, c6, c7, c8, c9, c10, rfl⟩ := vlen11 hl
  simp only [oc3, oc9, e22, e23, e24, e25, List.drop_zero, List.drop_succ_cons, List.take_succ_cons, List.take_zero, List.cons.injEq, and_true] at k0 k1 k2 k3 k4 k5 k10
  subst k0; subst k1; subst k2; subst k3; subst k4; subst k5; subst k10
  refine ⟨⟨a0, c1, a2, c3, c4, c5, c6, c7, c8, c9, a10⟩, ⟨l3.map (·.1), l1.map (·.1), l4.map (·.1), l5.map (·.1)⟩, l4.map (·.2), rfl, ⟨nmS_of s1 b1 p9 r1, nmS_of s3 b3 (Nat.lt_of_lt_of_le (by decide) p92) r3, nmS_of s4 b4 (by omega) fun i hi => ?_, nmS_of s5 b5 (Nat.lt_of_lt_of_le (by decide) p94) r5⟩, fun i hi => ?_, ?_, ?_, fun q hq => ?_, ?_, ?_, ?_⟩
  · obtain ⟨cs', hg, hc⟩ := r4 i hi
    exact ⟨cs', hg.1, hc⟩
  · rw [List.length_map] at hi
    obtain ⟨cs', hg, hc⟩ := r4 i hi
    have := hc 7 _ hg.2.1
    rw [gDD, List.getElem?_map, List.getElem?_eq_getElem hi]
    exact this
  · rw [List.length_map]; show l4.length = (l4.map (·.1)).length; rw [List.length_map]
  · rw [List.length_map]; exact b4
  · obtain ⟨a, ha, rfl⟩ := List.mem_map.1 hq
    obtain ⟨i, hi, rfl⟩ := List.mem_iff_getElem.1 ha
    obtain ⟨cs', hg, hc⟩ := r4 i hi
    exact hg.2.2
  · rw [List.length_map]; exact Nat.le_trans (Nat.mul_le_mul_left _ p92) b3
  · rw [List.length_map]; exact Nat.le_trans (Nat.mul_le_mul_left _ (by decide)) b4
  · rw [List.length_map]; exact Nat.le_trans (Nat.mul_le_mul_left _ p94) b5
theorem open_basin (h : Dat enc pg W n 31 cs x) : ∃ (b : BasV) (e : Ru.Env) (ps : List Int), cs = b.cs ∧ b.ok (hp W) e ∧ PosS (hp W) b.lv ps ∧ ps.length = e.links.length ∧ ps.length * 200 ≤ maxSl ∧ ∀ x ∈ ps, I64 x :=
  let ⟨b, e, ps, h1, h2, h3, h4, h5, h6, _⟩ := open_basin2 h
  ⟨b, e, ps, h1, h2, h3, h4, h5, h6⟩
end
end Go.Proofs.YtjmeeofdffdpnaaGreatDoor
