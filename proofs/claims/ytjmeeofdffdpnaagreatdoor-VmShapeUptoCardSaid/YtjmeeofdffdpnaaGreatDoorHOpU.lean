/- Lemmas. Conditions: those of each theorem. -/
import Derived.Test.YtjmeeofdffdpnaaGreatDoorHVmH
import Derived.Test.YtjmeeofdffdpnaaGreatDoorHFwA
import Derived.Test.YtjmeeofdffdpnaaGreatDoorHOpenS
set_option maxRecDepth 8000
set_option maxHeartbeats 16000000
namespace Vm
theorem begs_hd {α : Type} {f : Nat → α → List Op} : ∀ (xs : List α) (p : Nat), 0 < xs.length → (begs f p xs).getD 0 0 = p
  | _ :: _, _, _ => rfl
theorem map_getD {l : List Nat} {i : Nat} : (l.map fun (n : Nat) => (n : Int)).getD i 0 = ((l.getD i 0 : Nat) : Int) := by
  rw [gDD, gDD, List.getElem?_map]
  cases l[i]? <;> rfl
end Vm
namespace Go.Proofs.YtjmeeofdffdpnaaGreatDoor
open Go Go.K Go.RowKit
open Ru (pB)
attribute [local irreducible] AW RW DW Post Qt
abbrev inC (l : List Nat) : List Value := (l.map fun (n : Nat) => (n : Int)).map (Value.int .i64)
theorem inC_one (l : List Nat) : (inC l).all Value.oneCell' = true := by
  unfold inC
  rw [List.all_map, List.all_eq_true]
  exact fun _ _ => rfl
theorem ints_news {Φ : Hp} {xs : List Int} {v : Value} (h : RepSl Φ xs v) : ∀ j u, (xs.map (Value.int .i64))[j]? = some u → PCell Φ (Value.at v j) u := fun j u hj => by
  rw [List.getElem?_map] at hj
  obtain ⟨x, hx, rfl⟩ := mS hj
  obtain ⟨hl, hx⟩ := List.getElem?_eq_some_iff.1 hx
  have := (h.int hl).1
  rwa [hx] at this
theorem op_cell {Φ : Hp} {l : List Vm.Op} {v : Value} (h : RepSl Φ l v) {i : Nat} (hi : i < l.length) {j : Nat} {u : Value} (hj : (opC (l.getD i default))[j]? = some u) : PCell Φ (Value.at v (i * 3 + j)) u := by
  obtain ⟨cs, ⟨h1, _⟩, h2⟩ := h.at_ i hi
  refine h2 j u ?_
  rw [h1]
  rwa [gDD, List.getElem?_eq_getElem hi] at hj
theorem op_cells {Φ : Hp} {l : List Vm.Op} {v : Value} (h : RepSl Φ l v) {i : Nat} (hi : i < l.length) : PCells Φ (Value.at v (i * 3)) (opC (l.getD i default)) := fun j u hj => by
  rw [at_add]
  exact op_cell h hi hj
theorem vmShape_c (w : World) (hG : Knows (hp w) Glob) {r : Bt.Rule} {fv cv : Value} (hf : RepSl (hp w) r.Funcs fv) (hc : RepSl (hp w) r.Clauses cv) (hb : (Vm.cops r).length ≤ 900000000) :
    Calls pg 4 #[.agg #[fv, cv]] w fun e w' => e = .returned (.bool true) ∧ Bel w.heap.size w w' := by
  obtain ⟨fA, fc, rfl, _⟩ := hf.sl
  obtain ⟨cA, cc, rfl, _⟩ := hc.sl
  have hfs := hf.sl
  have hcs := hc.sl
  have hfm := hf.max
  have hcm := hc.max
  simp only [Rep.bytes, maxSl] at hfm hcm
  refine calls_of_AW (args := [.agg #[.slice fA r.Funcs.length fc, .slice cA r.Clauses.length cc]]) Tryz.func4 rfl (lBT rfl) (St ⟨w, hp w, []⟩ (hp w) []) (StP.init w (hp w) (Hp.le_refl _) []) ?_
  show AW _ _ [] _ _ _ [(0, .agg #[.slice fA r.Funcs.length fc, .slice cA r.Clauses.length cc])] _
  repeat refine gs1 ?_
  refine RW.bxA (cs := (rS2 fA fc cA cc r)) rfl rfl fun b1 => ?_
  repeat refine gs1 ?_
  refine RW.q rfl (q_call (args := #[]) oK rfl rfl (fun w1 hw1 => smallV_c w1 (hp w) hw1.phi hG)) ?_
  repeat refine gs1 ?_
  refine RW.q rfl (q_call (args := #[.agg #[.slice fA r.Funcs.length fc, .slice cA r.Clauses.length cc]]) oK rfl rfl (fun w1 hw1 => few_c w1 (hf.mono hw1.phi) (hc.mono hw1.phi))) ?_
  repeat refine gs1 ?_
  refine RW.eff _ _ rfl (e_callS (args := #[.agg #[.slice fA r.Funcs.length fc, .slice cA r.Clauses.length cc]]) oK rfl rfl (fun w1 hw1 => comp_c w1 (hp w) (hf.mono hw1.phi) (hc.mono hw1.phi) hb)) ?_
  rintro ⟨⟨v, Ψ⟩, ⟨⟨o2, f2, t2⟩, hv, ho⟩, hle⟩
  simp only at hv ho hle ⊢
  subst hv
  have ho2 : RepSl Ψ (Vm.compile r).Ops o2 := ho.o
  have hf2 : RepSl Ψ (Vm.compile r).Funcs f2 := ho.f
  have ht2 : RepSl Ψ (Vm.compile r).Starts t2 := ho.s
  have so2 := ho2.sl
  have sf2 := hf2.sl
  have st2 := ht2.sl
  obtain ⟨nO, hnO⟩ : ∃ n, n = (Vm.compile r).Ops.length := ⟨_, rfl⟩
  obtain ⟨nF, hnF⟩ : ∃ n, n = (Vm.compile r).Funcs.length := ⟨_, rfl⟩
  obtain ⟨nS, hnS⟩ : ∃ n, n = (Vm.compile r).Starts.length := ⟨_, rfl⟩
  rw [← hnO] at so2
  rw [← hnF] at sf2
  rw [← hnS] at st2
  have so3 := so2
  have sf3 := sf2
  have st3 := st2
  obtain ⟨A2, c2, rfl, _⟩ := so2
  obtain ⟨B2, d2, rfl, _⟩ := sf2
  obtain ⟨E2, e2, rfl, _⟩ := st2
  refine RW.alc rfl fun b5 => ?_
  repeat refine gs1 ?_
  refine RW.g (b := !Mn.few r) (v := .bool (Vm.soP r)) rfl rfl rfl (fun h => q_as (q_call (args := #[.agg #[.slice fA r.Funcs.length fc, .slice cA r.Clauses.length cc], .agg (cdC (.slice A2 nO c2) (.slice B2 nF d2) (.slice E2 nS e2)).toArray]) oK rfl (args2 (gv_pos h) (gv_pos h)) (fun w1 hw1 => vRight_c w1 (hf.mono (hle.trans hw1.phi)) (hc.mono (hle.trans hw1.phi)) hb (ho2.mono hw1.phi) (hf2.mono hw1.phi) (ht2.mono hw1.phi))) (congrArg Value.bool (by rw [decide_eq_true rfl, Bool.and_true]))) ?_
  repeat refine gs1 ?_
  refine RW.q (v := .bool ((!Mn.few r) || !Vm.soP r)) rfl (qpO rfl rfl rfl) ?_
  repeat refine gs1 ?_
  refine AW.cond rfl (fun h => ?_) fun h => ?_
  · repeat refine gs1 ?_
    exact fin_res (vs := [.bool true]) rfl rfl ⟨.tmp rfl, trivial⟩ rfl (fun w' hw => ⟨rfl, (StP.less hw (Hp.le_refl _)).below rfl⟩)
  have h : Mn.few r = true ∧ Vm.soP r = true := by simpa using h
  obtain ⟨_, hso⟩ := h
  have hcS := Vm.compile_starts hso
  have hcF := Vm.compile_funcs hso
  have hcO := Vm.compile_ops hso
  have hpo := Vm.parts_ok hso
  have hpl := Vm.parts_len (r := r)
  have heo := Vm.end_op hso
  obtain ⟨CL, hCL⟩ : ∃ n, n = (Vm.seqC Vm.cC 0 r.Clauses).2.length := ⟨_, rfl⟩
  rw [← hCL] at hcF heo
  obtain ⟨SB, hSB⟩ : ∃ l, l = Vm.begs Vm.cC 0 r.Clauses := ⟨_, rfl⟩
  obtain ⟨FB, hFB⟩ : ∃ l, l = Vm.begs Vm.cF (CL + 1) r.Funcs := ⟨_, rfl⟩
  have hpe : Vm.parts r = SB ++ (CL :: (FB ++ [nO])) := by rw [hSB, hFB, hnO, hCL]; rfl
  rw [← hSB] at hcS
  rw [← hFB] at hcF
  have nSl : nS = SB.length := by rw [hnS, hcS, List.length_map]
  have nFl : nF = FB.length := by rw [hnF, hcF, List.length_map]
  have nSr : SB.length = r.Clauses.length := by rw [hSB, Vm.begs_len]
  have nFr : FB.length = r.Funcs.length := by rw [hFB, Vm.begs_len]
  rw [hcS] at ht2
  rw [hcF] at hf2
  have hO0 : r.Funcs.length = 0 → nO = CL + 1 := fun h0 => by
    rw [hnO, hcO, List.length_append, List.length_cons, ← hCL, List.length_eq_zero_iff.1 h0]; rfl
  have hOp : CL + 1 ≤ nO := by rw [hnO, hcO, List.length_append, List.length_cons, ← hCL]; omega
  have hOb : nO ≤ 900000000 := by
    have : (Vm.compile r).Ops = Vm.cops r := by rw [hcO]; rfl
    rw [hnO, this]; exact hb
  have hSb : nS ≤ 140737488355328 := by omega
  have hFb : nF ≤ 140737488355328 := by omega
  repeat refine gs1 ?_
  refine RW.wk (J' := St ⟨w, hp w, []⟩ Ψ (.row (.slice none 0 0) 3 1 0 [] :: [.blk b5 38 (cdC (.slice A2 nO c2) (.slice B2 nF d2) (.slice E2 nS e2)), .blk b1 35 (rS2 fA fc cA cc r)])) (fun _ h => StP.nilRow h 3 1) ?_
  refine RW.eff (fun xv : {vq : Value // IsSl vq (0 + nS)} => xv.1) (fun xv => St ⟨w, hp w, []⟩ Ψ [.row xv.1 3 1 (0 + nS) ([] ++ inC SB), .blk b5 38 (cdC (.slice A2 nO c2) (.slice B2 nF d2) (.slice E2 nS e2)), .blk b1 35 (rS2 fA fc cA cc r)]) rfl (e_appendPhi (v := .slice none 0 0) (yv := .slice E2 nS e2) (m := nS) (n := 0) 0 rfl rfl rfl st3 Tryz.underlying29 inf3 rfl rfl (by rw [List.length_map, List.length_map]; omega) (ints_news ht2) (inC_one _) (by omega) (by omega) (fun _ => rfl)) ?_
  rintro ⟨v1, hv1⟩
  simp only
  rw [Nat.zero_add] at hv1 ⊢
  rw [List.nil_append]
  repeat refine gs1 ?_
  refine AW.mid (fun s J => s = [(1, pB b1), (3, .bool true), (5, pB b5), (6, v1), (7, .int .i64 ((CL + 1 : Nat) : Int))] ∧ J = St ⟨w, hp w, []⟩ Ψ [.row v1 3 1 nS (inC SB), .blk b5 38 (cdC (.slice A2 nO c2) (.slice B2 nF d2) (.slice E2 nS e2)), .blk b1 35 (rS2 fA fc cA cc r)]) ?_ ?_
  · refine AW.cond rfl (fun c => ?_) fun c => ?_
    · have c : 0 < nF := by have := odT c; omega
      have pf : PCell Ψ (Value.at (.slice B2 nF d2) (0 * 1)) (.int .i64 ((CL + 1 : Nat) : Int)) := by
        have h1 : 0 < (FB.map fun (n : Nat) => (n : Int)).length := by rw [List.length_map]; omega
        have h2 := ints_news hf2 0 (.int .i64 ((CL + 1 : Nat) : Int)) (by
          rw [List.getElem?_map, List.getElem?_map]
          have h3 : FB.getD 0 0 = CL + 1 := by rw [hFB]; exact Vm.begs_hd _ _ (by omega)
          rw [gDD, List.getElem?_eq_getElem (by omega : 0 < FB.length)] at h3
          rw [List.getElem?_eq_getElem (by omega : 0 < FB.length)]
          simp only [Option.getD_some] at h3
          rw [h3]; rfl)
        rwa [Nat.zero_mul]
      repeat refine gs1 ?_
      exact Post.mid_n (s' := _) (J' := _) ⟨rfl, rfl⟩ ⟨rfl, rfl, rfl, rfl, rfl, trivial⟩ (fun _ h => h)
    · have c : nF = 0 := by have := odF c; omega
      have e7 := hO0 (by omega)
      repeat refine gs1 ?_
      exact Post.mid_n (s' := _) (J' := _) ⟨rfl, rfl⟩ ⟨rfl, rfl, rfl, rfl, (by show Value.int .i64 (nO : Int) = _; rw [e7]), trivial⟩ (fun _ h => h)
  rintro f1 _ _ ⟨rfl, rfl⟩
  repeat refine gs1 ?_
  rw [show (((CL + 1 : Nat) : Int) - 1) = (CL : Int) by omega]
  refine RW.eff _ _ rfl (e_buildSlice (vals := [(0, .int .i64 (CL : Int))]) (cells := [.int .i64 (CL : Int)]) Tryz.underlying29 inf3 rfl rfl rfl (by kernel_rfl) rfl) fun b8 => ?_
  refine RW.eff (fun xv : {vq : Value // IsSl vq (nS + 1)} => xv.1) (fun xv => St ⟨w, hp w, []⟩ Ψ [.row (.slice (some ⟨b8, 0, none⟩) 1 1) 3 1 1 [.int .i64 (CL : Int)], .row xv.1 3 1 (nS + 1) (inC SB ++ [.int .i64 (CL : Int)]), .blk b5 38 (cdC (.slice A2 nO c2) (.slice B2 nF d2) (.slice E2 nS e2)), .blk b1 35 (rS2 fA fc cA cc r)]) rfl (e_append 1 rfl rfl rfl Tryz.underlying29 inf3 rfl rfl rfl (Cells.row0 0 rfl) rfl (by omega) (by omega) (fun _ => rfl)) ?_
  rintro ⟨v2, hv2⟩
  simp only
  refine RW.wk (J' := St ⟨w, hp w, []⟩ Ψ [.row v2 3 1 (nS + 1) (inC SB ++ [.int .i64 (CL : Int)]), .blk b5 38 (cdC (.slice A2 nO c2) (.slice B2 nF d2) (.slice E2 nS e2)), .blk b1 35 (rS2 fA fc cA cc r)]) (fun _ h => StP.sel h [1, 2, 3] (by decide) rfl) ?_
  repeat refine gs1 ?_
  refine RW.eff (fun xv : {vq : Value // IsSl vq ((nS + 1) + nF)} => xv.1) (fun xv => St ⟨w, hp w, []⟩ Ψ [.row xv.1 3 1 ((nS + 1) + nF) ((inC SB ++ [.int .i64 (CL : Int)]) ++ inC FB), .blk b5 38 (cdC (.slice A2 nO c2) (.slice B2 nF d2) (.slice E2 nS e2)), .blk b1 35 (rS2 fA fc cA cc r)]) rfl (e_appendPhi (v := v2) (yv := .slice B2 nF d2) (m := nF) (n := (nS + 1)) 0 rfl rfl rfl sf3 Tryz.underlying29 inf3 rfl rfl (by rw [List.length_map, List.length_map]; omega) (ints_news hf2) (inC_one _) (by omega) (by omega) (fun _ => rfl)) ?_
  rintro ⟨v3, hv3⟩
  simp only
  repeat refine gs1 ?_
  refine RW.eff _ _ rfl (e_buildSlice (vals := [(0, .int .i64 (nO : Int))]) (cells := [.int .i64 (nO : Int)]) Tryz.underlying29 inf3 rfl rfl rfl (by kernel_rfl) rfl) fun b9 => ?_
  refine RW.eff (fun xv : {vq : Value // IsSl vq (nS + 1 + nF + 1)} => xv.1) (fun xv => St ⟨w, hp w, []⟩ Ψ [.row (.slice (some ⟨b9, 0, none⟩) 1 1) 3 1 1 [.int .i64 (nO : Int)], .row xv.1 3 1 (nS + 1 + nF + 1) (inC SB ++ [.int .i64 (CL : Int)] ++ inC FB ++ [.int .i64 (nO : Int)]), .blk b5 38 (cdC (.slice A2 nO c2) (.slice B2 nF d2) (.slice E2 nS e2)), .blk b1 35 (rS2 fA fc cA cc r)]) rfl (e_append 1 rfl rfl rfl Tryz.underlying29 inf3 rfl rfl rfl (Cells.row0 0 rfl) rfl (by omega) (by omega) (fun _ => rfl)) ?_
  rintro ⟨v4, hv4⟩
  simp only
  refine RW.wk (J' := St ⟨w, hp w, []⟩ Ψ [.row v4 3 1 (nS + 1 + nF + 1) (inC (Vm.parts r)), .blk b5 38 (cdC (.slice A2 nO c2) (.slice B2 nF d2) (.slice E2 nS e2)), .blk b1 35 (rS2 fA fc cA cc r)]) (fun _ h => by
    have e : inC (Vm.parts r) = inC SB ++ [.int .i64 (CL : Int)] ++ inC FB ++ [.int .i64 (nO : Int)] := by rw [hpe]; simp [inC]
    rw [e]
    exact StP.sel h [1, 2, 3] (by decide) rfl) ?_
  refine RW.frz fun Φ1 l1 r1 => ?_
  have hPn : nS + 1 + nF + 1 = (Vm.parts r).length := by omega
  have hPi : ∀ x ∈ (Vm.parts r).map (fun (n : Nat) => (n : Int)), I64 x := fun x hx => by
    obtain ⟨n, hn, rfl⟩ := List.mem_map.1 hx
    have hn2 : n ≤ nO := by
      rw [hpe] at hn
      simp only [List.mem_append, List.mem_cons, List.not_mem_nil, or_false] at hn
      have hl := congrArg List.length hcO
      rw [List.length_append, List.length_cons, ← hnO, ← hCL] at hl
      rcases hn with hn | rfl | hn | rfl
      · have := begs_le _ _ n (hSB ▸ hn)
        rw [← hCL] at this
        omega
      · omega
      · have := begs_le _ _ n (hFB ▸ hn)
        omega
      · omega
    unfold I64
    omega
  have hP : RepSl Φ1 ((Vm.parts r).map fun (n : Nat) => (n : Int)) v4 := RowS.ints (T := 3) (n := nS + 1 + nF + 1) r1 (by simp only [maxSl]; omega) hPi
  have hO := ho2.mono l1
  have hPs := hP.sl
  rw [List.length_map] at hPs
  obtain ⟨nP, hnP⟩ : ∃ n, n = (Vm.parts r).length := ⟨_, rfl⟩
  rw [← hnP] at hPs
  have hPs2 := hPs
  obtain ⟨pA, pc, rfl, _⟩ := hPs
  repeat refine gs1 ?_
  rw [show (!decide ((nS : Int) = (r.Clauses.length : Int))) = false by rw [Bool.not_eq_false', decide_eq_true_eq]; omega]
  repeat refine gs1 ?_
  refine RW.q (v := .bool false) rfl (q_as (qpO rfl rfl rfl) (congrArg Value.bool (show (false || !decide ((nF : Int) = (r.Funcs.length : Int))) = false by rw [Bool.false_or, Bool.not_eq_false', decide_eq_true_eq]; omega))) ?_
  repeat refine gs1 ?_
  refine RW.q (v := .bool false) rfl (q_as (qpO rfl rfl rfl) (congrArg Value.bool (show (false || decide (((CL + 1 : Nat) : Int) < 1)) = false by rw [Bool.false_or, decide_eq_false_iff_not]; omega))) ?_
  repeat refine gs1 ?_
  have pe := op_cell hO (i := CL) (by omega) (j := 0) (u := .int .i64 19) (by rw [heo]; rfl)
  refine RW.g (b := false) (v := .pointer (some (Value.at (.slice A2 nO c2) (CL * 3)))) rfl rfl rfl (fun h => qa_ixN (n := nO) (i := CL) rfl (by show Value.int .i64 (((CL + 1 : Nat) : Int) - 1) = _; congr 1; omega) so3 (by omega)) ?_
  repeat refine gs1 ?_
  refine RW.q (v := .bool false) rfl (q_as (qpO rfl rfl rfl) (congrArg Value.bool (show (false || !decide ((19 : Int) = 19)) = false by decide))) ?_
  repeat refine gs1 ?_
  have hpart : ∀ k, k + 1 < nP → Vm.part r (Vm.compile r).Ops ((Vm.parts r).getD k 0) ((Vm.parts r).getD (k + 1) 0) := fun k hk => Vm.chn_get hpo (by omega)
  have pp : ∀ k, k < nP → PCell Φ1 (Value.at (.slice pA nP pc) (k * 1)) (.int .i64 (((Vm.parts r).getD k 0 : Nat) : Int)) := fun k hk => by
    have := igi hP (i := k) (by rw [List.length_map]; omega)
    rwa [Vm.map_getD] at this
  refine AW.loop (fun s J q => ∃ k : Nat, s = [(1, pB b1), (3, .bool true), (5, pB b5), (6, .slice pA nP pc), (8, .int .i64 (k : Int))] ∧ J = St ⟨w, hp w, []⟩ Φ1 [.blk b5 38 (cdC (.slice A2 nO c2) (.slice B2 nF d2) (.slice E2 nS e2)), .blk b1 35 (rS2 fA fc cA cc r)] ∧ q = nP - k ∧ k + 1 ≤ nP) (s0 := _) (J1 := _) (m0 := _) ⟨0, rfl, rfl, rfl, by omega⟩ ⟨rfl, rfl, rfl, rfl, rfl, trivial⟩ (fun _ h => h) ?_
  rintro _ _ _ _ ⟨k, rfl, rfl, rfl, hk⟩
  have hnb : nP ≤ 140737488355328 := by omega
  repeat refine gs1 ?_
  refine AW.cond rfl (fun h => ?_) fun h => ?_
  rotate_left
  · repeat refine gs1 ?_
    exact fin_res (vs := [.bool true]) rfl rfl ⟨.tmp rfl, trivial⟩ rfl (fun w' hw => ⟨rfl, (StP.less hw (Hp.le_refl _)).below rfl⟩)
  have hk1 : k + 1 < nP := by have := odT h; omega
  obtain ⟨hlo, hhi, hops⟩ := hpart k hk1
  obtain ⟨lo, hlo2⟩ : ∃ n, n = (Vm.parts r).getD k 0 := ⟨_, rfl⟩
  obtain ⟨hi, hhi2⟩ : ∃ n, n = (Vm.parts r).getD (k + 1) 0 := ⟨_, rfl⟩
  have p1 := pp k (by omega)
  have p2 := pp (k + 1) hk1
  rw [← hlo2] at hlo hops p1
  rw [← hhi2] at hlo hhi hops p2
  rw [← hnO] at hhi
  have hk0 : k < nP := by omega
  repeat refine gs1 ?_
  refine AW.drawZ (J0 := St ⟨w, hp w, []⟩ Φ1 [.blk b5 38 (cdC (.slice A2 nO c2) (.slice B2 nF d2) (.slice E2 nS e2)), .blk b1 35 (rS2 fA fc cA cc r)]) [.q, .q, .q, .q, .q, .q, .q, .q, .q, .q] [0, 1, 2, 3, 4, 5, 6, 7, 8, 9] hmix (by kernel_rfl) ?_
  repeat refine gs1 ?_
  refine AW.cond rfl (fun h => ?_) fun _ => ?_
  · have := odT h
    omega
  repeat refine gs1 ?_
  refine AW.loop (fun s J q => ∃ i : Nat, s = [(1, pB b1), (3, .bool true), (5, pB b5), (6, .slice pA nP pc), (8, .int .i64 (k : Int)), (9, .int .i64 (i : Int))] ∧ J = St ⟨w, hp w, []⟩ Φ1 [.blk b5 38 (cdC (.slice A2 nO c2) (.slice B2 nF d2) (.slice E2 nS e2)), .blk b1 35 (rS2 fA fc cA cc r)] ∧ q = hi - i ∧ lo ≤ i ∧ i ≤ hi) (s0 := _) (J1 := _) (m0 := _) ⟨lo, rfl, rfl, rfl, Nat.le_refl _, by omega⟩ ⟨rfl, rfl, rfl, rfl, rfl, rfl, trivial⟩ (fun _ h => h) ?_
  rintro _ _ _ _ ⟨i, rfl, rfl, rfl, hi1, hi2⟩
  repeat refine gs1 ?_
  refine AW.cond rfl (fun h => ?_) fun h => ?_
  rotate_left
  · repeat refine gs1 ?_
    exact Post.back (s' := _) (J' := _) (m' := _) (by omega) ⟨k + 1, rfl, rfl, rfl, by omega⟩ ⟨rfl, rfl, rfl, rfl, rfl, trivial⟩ (fun _ h => h)
  have hi3 : i < hi := by have := odT h; omega
  have hiO : i < nO := by omega
  have po := op_cells hO (i := i) (by omega)
  have hok := hops i hi1 hi3
  obtain ⟨o, ho⟩ : ∃ o, o = (Vm.compile r).Ops.getD i default := ⟨_, rfl⟩
  rw [← ho] at po hok
  repeat refine gs1 ?_
  refine RW.alc rfl fun b10 => ?_
  repeat refine gs1 ?_
  refine RW.q (v := .bool (decide (o.Kind = 12) || decide (o.Kind = 13))) rfl (qpO rfl rfl rfl) ?_
  repeat refine gs1 ?_
  refine RW.q (v := .bool (decide (o.Kind = 12) || decide (o.Kind = 13) || decide (o.Kind = 14))) rfl (qpO rfl rfl rfl) ?_
  repeat refine gs1 ?_
  refine AW.mid (fun s J => ∃ t : Int, s = [(1, pB b1), (3, .bool true), (5, pB b5), (6, .slice pA nP pc), (8, .int .i64 (k : Int)), (9, .int .i64 (i : Int)), (10, pB b10), (11, .int .i64 t)] ∧ J = St ⟨w, hp w, []⟩ Φ1 [.blk b10 56 (opC o), .blk b5 38 (cdC (.slice A2 nO c2) (.slice B2 nF d2) (.slice E2 nS e2)), .blk b1 35 (rS2 fA fc cA cc r)] ∧ (i : Int) < t ∧ t ≤ hi) ?_ ?_
  · refine AW.cond rfl (fun c => ?_) fun c => ?_
    · have c : o.Kind = 12 ∨ o.Kind = 13 ∨ o.Kind = 14 := by simpa [or_assoc] using c
      repeat refine gs1 ?_
      exact Post.mid_n (s' := _) (J' := _) ⟨o.A, rfl, rfl, (hok.1 c).1, (hok.1 c).2⟩ ⟨rfl, rfl, rfl, rfl, rfl, rfl, rfl, rfl, trivial⟩ (fun _ h => h)
    · repeat refine gs1 ?_
      exact Post.mid_n (s' := _) (J' := _) ⟨((i + 1 : Nat) : Int), rfl, rfl, by omega, by omega⟩ ⟨rfl, rfl, rfl, rfl, rfl, rfl, rfl, rfl, trivial⟩ (fun _ h => h)
  rintro f2 _ _ ⟨t1, rfl, rfl, ht1, ht2⟩
  repeat refine gs1 ?_
  refine AW.mid (fun s J => ∃ t : Int, s = [(1, pB b1), (3, .bool true), (5, pB b5), (6, .slice pA nP pc), (8, .int .i64 (k : Int)), (9, .int .i64 (i : Int)), (10, pB b10), (11, .int .i64 t)] ∧ J = St ⟨w, hp w, []⟩ Φ1 [.blk b10 56 (opC o), .blk b5 38 (cdC (.slice A2 nO c2) (.slice B2 nF d2) (.slice E2 nS e2)), .blk b1 35 (rS2 fA fc cA cc r)] ∧ (i : Int) < t ∧ t ≤ hi) ?_ ?_
  · refine AW.cond rfl (fun c => ?_) fun c => ?_
    · have c : o.Kind = 17 := odT c
      repeat refine gs1 ?_
      exact Post.mid_n (s' := _) (J' := _) ⟨o.B, rfl, rfl, (hok.2.1 c).1, (hok.2.1 c).2⟩ ⟨rfl, rfl, rfl, rfl, rfl, rfl, rfl, rfl, trivial⟩ (fun _ h => h)
    · repeat refine gs1 ?_
      exact Post.mid_n (s' := _) (J' := _) ⟨t1, rfl, rfl, ht1, ht2⟩ ⟨rfl, rfl, rfl, rfl, rfl, rfl, rfl, rfl, trivial⟩ (fun _ h => h)
  rintro f3 _ _ ⟨t2, rfl, rfl, hu1, hu2⟩
  repeat refine gs1 ?_
  rw [show decide (t2 ≤ (i : Int)) = false from decide_eq_false (by omega)]
  repeat refine gs1 ?_
  refine RW.q (v := .bool false) rfl (q_as (q_pick (v := .bool (decide ((hi : Int) < t2))) rfl (fun h => nomatch h) (fun _ => rfl)) (congrArg Value.bool (decide_eq_false (by omega)))) ?_
  have hJ : ∀ w1, (St ⟨w, hp w, []⟩ Φ1 [.blk b10 56 (opC o), .blk b5 38 (cdC (.slice A2 nO c2) (.slice B2 nF d2) (.slice E2 nS e2)), .blk b1 35 (rS2 fA fc cA cc r)]).p w1 → (St ⟨w, hp w, []⟩ Φ1 [.blk b10 56 (opC o), .blk b5 38 (cdC (.slice A2 nO c2) (.slice B2 nF d2) (.slice E2 nS e2)), .blk b1 35 (rS2 fA fc cA cc r)]).p w1 := fun _ h => h
  repeat refine gs1 ?_
  refine AW.drawZ (J0 := St ⟨w, hp w, []⟩ Φ1 [.blk b10 56 (opC o), .blk b5 38 (cdC (.slice A2 nO c2) (.slice B2 nF d2) (.slice E2 nS e2)), .blk b1 35 (rS2 fA fc cA cc r)]) [.q, .q, .q, .q, .q, .q, .q, .q, .q, .q, .q, .q, .q, .q, .q, .q, .q, .q, .q, .q, .q, .q, .q, .q, .q, .q, .q, .q, .q] [0, 1, 2, 3, 4, 5, 6, 7, 8, 9, 10, 11, 12, 13, 14, 15, 16, 17, 18, 19, 20, 21, 22, 23, 24, 25, 26, 27, 28] hmix (by kernel_rfl) ?_
  refine DW.q hJ rfl (qa_fa0 rfl) ?_
  refine DW.q (v := .int .i64 o.Kind) hJ rfl (qa_ld rfl (Cell.blk 0 rfl rfl)) ?_
  by_cases h15 : o.Kind = 15
  · obtain ⟨g1, g2, g3⟩ := hok.2.2 h15
    obtain ⟨m, hm⟩ : ∃ m : Nat, o.A = m := ⟨o.A.toNat, by omega⟩
    have hml : m < r.Funcs.length := by omega
    obtain ⟨qv, Ab, cb, hpb, hqv, hbk, hwb, hnl, hres⟩ := funW (hf.mono (hle.trans l1)) hml
    obtain ⟨qA, qc, rfl, _⟩ := hqv.sl
    have hqs := hqv.sl
    have pq : PCell Φ1 (Value.at (.slice fA r.Funcs.length fc) (m * 8 + 1)) (.slice qA (r.Funcs.getD m default).Params.length qc) := by have := hpb 1 _ rfl; rwa [at_add] at this
    clear hpb
    have har : o.B = (((r.Funcs.getD m default).Params.length : Nat) : Int) := by
      rw [g3]
      unfold Vm.arE
      rw [hm, Int.toNat_natCast, gDD, List.getElem?_map, List.getElem?_eq_getElem hml, gDD, List.getElem?_eq_getElem hml]
      rfl
    refine DW.q (v := .bool true) hJ rfl (q_as (q_eql (a := o.Kind) (b := 15) rfl rfl) (congrArg Value.bool (decide_eq_true h15))) ?_
    repeat refine gs1 ?_
    refine DW.g (b := decide (o.A < 0)) (v := .int .i64 ((r.Funcs.length : Nat) : Int)) hJ rfl rfl rfl (fun h => q_len_sl (gv_pos h) hfs Tryz.underlying32) ?_
    repeat refine gs1 ?_
    refine DW.g (b := true) (v := .bool false) hJ rfl rfl rfl (fun _ => q_as (q_pick (v := .bool (decide (o.A < 0) || decide ((r.Funcs.length : Int) ≤ o.A))) rfl (fun hp => pkOrT hp) (fun hp => (gv_pos hp).trans (pkOrF hp))) (congrArg Value.bool (by rw [Bool.or_eq_false_iff, decide_eq_false_iff_not, decide_eq_false_iff_not]; omega))) ?_
    repeat refine gs1 ?_
    refine DW.g (b := false) (v := .pointer (some (Value.at (.slice fA r.Funcs.length fc) (m * 8)))) hJ rfl rfl rfl (fun _ => qa_ixN (n := r.Funcs.length) (i := m) rfl (by show Value.int .i64 o.A = _; rw [hm]) hfs hml) ?_
    repeat refine gs1 ?_
    refine DW.g (b := true) (v := .bool false) hJ rfl rfl rfl (fun _ => q_as (q_pick (v := .bool (!decide (o.B = (((r.Funcs.getD m default).Params.length : Nat) : Int)))) rfl (fun h => nomatch h) (fun _ => rfl)) (congrArg Value.bool (by rw [Bool.not_eq_false', decide_eq_true_eq]; exact har))) ?_
    refine DW.q (v := .bool false) hJ rfl (q_pick rfl (fun _ => rfl) (fun h => nomatch h)) ?_
    repeat refine gs1 ?_
    exact Post.back (s' := _) (J' := _) (m' := _) (by omega) ⟨i + 1, rfl, rfl, rfl, by omega, by omega⟩ ⟨rfl, rfl, rfl, rfl, rfl, rfl, trivial⟩ (fun _ h => StP.sel h [1, 2] (by decide) rfl)
  · refine DW.q (v := .bool false) hJ rfl (q_as (q_eql (a := o.Kind) (b := 15) rfl rfl) (congrArg Value.bool (decide_eq_false h15))) ?_
    refine DW.q (v := .bool false) hJ rfl (q_move rfl) ?_
    refine DW.g (b := false) (v := undef) hJ rfl rfl rfl (fun h => nomatch h) ?_
    refine DW.g (b := false) (v := undef) hJ rfl rfl rfl (fun h => nomatch h) ?_
    refine DW.g (b := false) (v := undef) hJ rfl rfl rfl (fun h => nomatch h) ?_
    refine DW.g (b := false) (v := undef) hJ rfl rfl rfl (fun h => nomatch h) ?_
    refine DW.g2 (b1 := false) (w1 := true) (b2 := false) (v := undef) hJ rfl rfl rfl (fun h _ => nomatch h) ?_
    refine DW.g2 (b1 := false) (w1 := true) (b2 := false) (v := undef) hJ rfl rfl rfl (fun h _ => nomatch h) ?_
    refine DW.g2 (b1 := false) (w1 := true) (b2 := false) (v := undef) hJ rfl rfl rfl (fun h _ => nomatch h) ?_
    refine DW.g2 (b1 := false) (w1 := true) (b2 := false) (v := undef) hJ rfl rfl rfl (fun h _ => nomatch h) ?_
    refine DW.g2 (b1 := false) (w1 := true) (b2 := false) (v := undef) hJ rfl rfl rfl (fun h _ => nomatch h) ?_
    refine DW.g2 (b1 := false) (w1 := true) (b2 := false) (v := undef) hJ rfl rfl rfl (fun h _ => nomatch h) ?_
    refine DW.g (b := false) (v := undef) hJ rfl rfl rfl (fun h => nomatch h) ?_
    refine DW.g (b := false) (v := undef) hJ rfl rfl rfl (fun h => nomatch h) ?_
    refine DW.g2 (b1 := false) (w1 := true) (b2 := false) (v := undef) hJ rfl rfl rfl (fun h _ => nomatch h) ?_
    refine DW.g2 (b1 := false) (w1 := true) (b2 := false) (v := undef) hJ rfl rfl rfl (fun h _ => nomatch h) ?_
    refine DW.g2 (b1 := false) (w1 := true) (b2 := false) (v := undef) hJ rfl rfl rfl (fun h _ => nomatch h) ?_
    refine DW.g2 (b1 := false) (w1 := true) (b2 := false) (v := undef) hJ rfl rfl rfl (fun h _ => nomatch h) ?_
    refine DW.g2 (b1 := false) (w1 := true) (b2 := false) (v := undef) hJ rfl rfl rfl (fun h _ => nomatch h) ?_
    refine DW.g2 (b1 := false) (w1 := true) (b2 := false) (v := undef) hJ rfl rfl rfl (fun h _ => nomatch h) ?_
    refine DW.g2 (b1 := false) (w1 := true) (b2 := false) (v := undef) hJ rfl rfl rfl (fun h _ => nomatch h) ?_
    refine DW.g2 (b1 := false) (w1 := true) (b2 := false) (v := undef) hJ rfl rfl rfl (fun h _ => nomatch h) ?_
    refine DW.g2 (b1 := false) (w1 := true) (b2 := false) (v := undef) hJ rfl rfl rfl (fun h _ => nomatch h) ?_
    refine DW.g2 (b1 := false) (w1 := true) (b2 := false) (v := undef) hJ rfl rfl rfl (fun h _ => nomatch h) ?_
    refine DW.g2 (b1 := false) (w1 := true) (b2 := false) (v := undef) hJ rfl rfl rfl (fun h _ => nomatch h) ?_
    refine DW.g (b := false) (v := undef) hJ rfl rfl rfl (fun h => nomatch h) ?_
    refine DW.q (v := .bool false) hJ rfl (q_pick rfl (fun h => nomatch h) (fun _ => rfl)) ?_
    repeat refine gs1 ?_
    exact Post.back (s' := _) (J' := _) (m' := _) (by omega) ⟨i + 1, rfl, rfl, rfl, by omega, by omega⟩ ⟨rfl, rfl, rfl, rfl, rfl, rfl, trivial⟩ (fun _ h => StP.sel h [1, 2] (by decide) rfl)
end Go.Proofs.YtjmeeofdffdpnaaGreatDoor
namespace Go.Proofs.YtjmeeofdffdpnaaGreatDoor
open Go Go.K Go.ChangeShapes Go.RowKit Go.WideElems
open Ru (NmS BasV)
section
variable {H : Type} {enc : TypeId × Value → H} {P : Program} {W : World} {n : Nat} {t e : TypeId} {cs : List Value} {x : DataW H × List MemPlace}
def Dat (enc : TypeId × Value → H) (P : Program) (W : World) (n : Nat) (t : TypeId) (cs : List Value) (x : DataW H × List MemPlace) : Prop :=
  DataW.trod enc P W 0 (fun _ => true) true n t cs = some x ∧ (x.1.weights P t).all (· ≤ reachBytes) = true
theorem Dat.slice (ht : P.underlying t = some (.slice e)) (h : Dat enc P W n t cs x) : ∃ (v : Value) (k : Nat), cs = [v] ∧ IsSl v k ∧ k * P.bytesOf e ≤ maxSl ∧ ∀ i, i < k → ∃ cs' m y, m < n ∧ Dat enc P W m e cs' y ∧ ∀ j u, cs'[j]? = some u → PCell (hp W) (Value.at v (i * P.cellsOf e + j)) u := by
  obtain ⟨h, hw⟩ := h
  rcases DataW.trod_slice ht h with ⟨rfl, _⟩ | ⟨a, len, cap, elems, rest, n', hn, rfl, hx, _, hl, _, hlen, he, _, _⟩
  · exact ⟨_, 0, rfl, isSl_nil, by simp, fun i hi => absurd hi (by simp)⟩
  · rw [hx] at hw
    simp only [DataW.weights, ht, List.all_cons, List.all_append, Bool.and_eq_true, decide_eq_true_eq, List.length_map] at hw
    obtain ⟨hw1, hw2, _⟩ := hw
    refine ⟨_, len, rfl, ⟨_, _, rfl, fun _ => rfl, by omega⟩, ?_, fun i hi => ?_⟩
    · have h1 : (elems.length + rest.length) * P.bytesOf e ≤ reachBytes := hw1
      have h2 : len * P.bytesOf e ≤ (elems.length + rest.length) * P.bytesOf e := Nat.mul_le_mul_right _ (by omega)
      have h3 : reachBytes ≤ maxSl := by decide
      omega
    · have hi' := he i hi
      have hil : i < elems.length := by rw [hlen]; exact hi
      rw [List.getElem?_eq_getElem hil] at hi'
      obtain ⟨cs', hc, hd⟩ := bS hi'
      refine ⟨cs', n', _, by omega, ⟨hd, weights_all hw2 _ (List.mem_map.2 ⟨_, List.getElem_mem hil, rfl⟩)⟩, fun j u hj => pcell_of ?_⟩
      obtain ⟨_, hcl, hat⟩ := World.cells?_some hc
      have hjl : j < P.cellsOf e := by rw [← hcl]; exact (List.getElem?_eq_some_iff.1 hj).1
      have := hat j hjl
      rw [hj, add_add] at this
      exact this
theorem Dat.rows {β : Type} {g : β → List Value → Prop} (ht : P.underlying t = some (.slice e)) (h : Dat enc P W n t cs x) (hg : ∀ m cs' y, m < n → Dat enc P W m e cs' y → ∃ b, g b cs') : ∃ (v : Value) (l : List β), cs = [v] ∧ IsSl v l.length ∧ l.length * P.bytesOf e ≤ maxSl ∧ ∀ i (h : i < l.length), ∃ cs', g l[i] cs' ∧ ∀ j u, cs'[j]? = some u → PCell (hp W) (Value.at v (i * P.cellsOf e + j)) u := by
  obtain ⟨v, k, hv, hk, hb, hi⟩ := h.slice ht
  have hex : ∀ i : Fin k, ∃ b : β, ∃ cs', g b cs' ∧ ∀ j u, cs'[j]? = some u → PCell (hp W) (Value.at v (i.1 * P.cellsOf e + j)) u := fun i => by
    obtain ⟨cs', m, y, hm, hy, hc⟩ := hi i.1 i.2
    obtain ⟨b, hb⟩ := hg m cs' y hm hy
    exact ⟨b, cs', hb, hc⟩
  refine ⟨v, List.ofFn fun i : Fin k => (hex i).choose, hv, by rw [List.length_ofFn]; exact hk, by rw [List.length_ofFn]; exact hb, fun i hi => ?_⟩
  rw [List.length_ofFn] at hi
  rw [List.getElem_ofFn]
  exact (hex ⟨i, hi⟩).choose_spec
theorem Dat.sl (α : Type) [Rep α] (ht : P.underlying t = some (.slice e)) (hC : P.cellsOf e = Rep.sz α) (hb : P.bytesOf e = Rep.bytes α) (h : Dat enc P W n t cs x) (hg : ∀ m cs' y, m < n → Dat enc P W m e cs' y → ∃ a : α, Rep.rep (hp W) a cs') : ∃ (v : Value) (l : List α), cs = [v] ∧ RepSl (hp W) l v := by
  obtain ⟨v, l, h1, h2, h3, h4⟩ := h.rows ht hg
  exact ⟨v, l, h1, h2, hb ▸ h3, fun i hi => hC ▸ h4 i hi⟩
theorem Dat.int (ht : P.underlying t = some (.int .i64)) (h : Dat enc P W n t cs x) : ∃ a : Int, cs = [.int .i64 a] ∧ I64 a := by
  obtain ⟨a, k, _, w⟩ := DataW.trod_int ht h.1
  exact ⟨a, k, i64_wf w⟩
theorem Dat.str (ht : P.underlying t = some .string) (h : Dat enc P W n t cs x) : ∃ a : List UInt8, cs = [.string (bs a)] ∧ a.length ≤ maxLen := by
  obtain ⟨a, k, _, w⟩ := DataW.trod_string ht h.1
  exact ⟨a.data.toList, k, by simpa using w⟩
end
section
variable {H : Type} {enc : TypeId × Value → H} {W : World} {n : Nat} {cs : List Value} {x : DataW H × List MemPlace}
theorem oc3 : pg.cellsOf 3 = 1 := by kernel_rfl
theorem oc9 : pg.cellsOf 9 = 1 := by kernel_rfl
theorem vlen2 {l : List Value} (h : l.length = 2) : ∃ a0 a1, l = [a0, a1] := match l, h with
  | [_, _], _ => ⟨_, _, rfl⟩
theorem vlen5 {l : List Value} (h : l.length = 5) : ∃ a0 a1 a2 a3 a4, l = [a0, a1, a2, a3, a4] := match l, h with
  | [_, _, _, _, _], _ => ⟨_, _, _, _, _, rfl⟩
theorem vlen8 {l : List Value} (h : l.length = 8) : ∃ a0 a1 a2 a3 a4 a5 a6 a7, l = [a0, a1, a2, a3, a4, a5, a6, a7] := match l, h with
  | [_, _, _, _, _, _, _, _], _ => ⟨_, _, _, _, _, _, _, _, rfl⟩
theorem vlen11 {l : List Value} (h : l.length = 11) : ∃ a0 a1 a2 a3 a4 a5 a6 a7 a8 a9 a10, l = [a0, a1, a2, a3, a4, a5, a6, a7, a8, a9, a10] := match l, h with
  | [_, _, _, _, _, _, _, _, _, _, _], _ => ⟨_, _, _, _, _, _, _, _, _, _, _, rfl⟩
theorem open_ints (h : Dat enc pg W n 29 cs x) : ∃ (v : Value) (l : List Int), cs = [v] ∧ RepSl (hp W) l v :=
  h.sl Int Tryz.underlying29 oc3 (by kernel_rfl) fun _ _ _ _ hy => hy.int Tryz.underlying3
end
end Go.Proofs.YtjmeeofdffdpnaaGreatDoor
namespace Vm
open Bt
mutual
def nd : Expr → Nat
  | ⟨_, _, _, _, ks⟩ => ndL ks + 1
def ndL : List Expr → Nat
  | [] => 0
  | x :: xs => nd x + ndL xs
end
theorem nd_eq (x : Expr) : nd x = ndL x.Kids + 1 := by
  obtain ⟨k, n, a, b, ks⟩ := x
  rw [nd]
theorem nd_pos (x : Expr) : 1 ≤ nd x := by rw [nd_eq]; omega
def ndR (r : Rule) : Nat := ndL (r.Funcs.map (·.Body) ++ r.Clauses.flatMap fun c => [c.If, c.To])
mutual
theorem cE_len : ∀ (e : Expr) (p : Nat), (cE p e).length + 2 ≤ 5 * nd e
  | ⟨k, n, o, q, ks⟩, p => by
    unfold cE
    rw [nd]
    have hp := nd_pos
    by_cases k0 : k = 0
    · rw [if_pos k0]; simp; omega
    rw [if_neg k0]
    by_cases k15 : k = 15
    · rw [if_pos k15]; simp; omega
    rw [if_neg k15]
    by_cases k1 : k = 1
    · rw [if_pos k1]; simp; omega
    rw [if_neg k1]
    have h3 : ∀ g, ((cG g p ks).getD 0 []).length + ((cG g p ks).getD 1 []).length + ((cG g p ks).getD 2 []).length ≤ 5 * ndL ks := fun g => cG_three ks g p
    have hf := cG_flen ks p
    have hc : ∀ kind A B O, (chC kind p A B O).length = A.length + B.length + O.length + 2 := fun kind A B O => by simp [chC]; omega
    by_cases k11 : k = 11
    · rw [if_pos k11, hc]; have := h3 1; simp only [List.length_singleton]; omega
    rw [if_neg k11]
    by_cases k12 : k = 12
    · rw [if_pos k12, hc]; have := h3 1; simp only [List.length_singleton]; omega
    rw [if_neg k12]
    by_cases k13 : k = 13
    · rw [if_pos k13, hc]; have := h3 1; omega
    rw [if_neg k13, List.length_append, List.length_singleton]
    omega
theorem cG_flen : ∀ (xs : List Expr) (p : Nat), (cG 0 p xs).flatten.length ≤ 5 * ndL xs
  | [], p => by unfold cG; simp
  | x :: xs, p => by
    unfold cG
    rw [List.flatten_cons, List.length_append, ndL]
    have h1 := cE_len x p
    have h2 := cG_flen xs (p + (cE p x).length + 0)
    omega
theorem cG_three : ∀ (xs : List Expr) (g p : Nat), ((cG g p xs).getD 0 []).length + ((cG g p xs).getD 1 []).length + ((cG g p xs).getD 2 []).length ≤ 5 * ndL xs
  | [], g, p => by unfold cG; simp
  | [a], g, p => by
    have h1 := cE_len a p
    simp only [cG, ndL, List.getD_cons_zero, List.getD_cons_succ, List.getD_nil, List.length_nil]
    omega
  | [a, b], g, p => by
    have h1 := cE_len a p
    have h2 := cE_len b (p + (cE p a).length + g)
    simp only [cG, ndL, List.getD_cons_zero, List.getD_cons_succ, List.getD_nil, List.length_nil]
    omega
  | a :: b :: c :: l, g, p => by
    have h1 := cE_len a p
    have h2 := cE_len b (p + (cE p a).length + g)
    have h3 := cE_len c (p + (cE p a).length + g + (cE (p + (cE p a).length + g) b).length + g)
    simp only [cG, ndL, List.getD_cons_zero, List.getD_cons_succ]
    omega
end
theorem ndL_app : ∀ (a b : List Expr), ndL (a ++ b) = ndL a + ndL b
  | [], b => by simp [ndL]
  | x :: a, b => by rw [List.cons_append, ndL, ndL, ndL_app a b]; omega
theorem seqC_len {α : Type} {f : Nat → α → List Op} {g : α → Nat} (h : ∀ p x, (f p x).length ≤ g x) : ∀ (xs : List α) (p : Nat), (seqC f p xs).2.length ≤ (xs.map g).sum
  | [], _ => by simp [seqC]
  | x :: xs, p => by
    have h1 := h p x
    have h2 := seqC_len h xs (p + (f p x).length)
    simp only [seqC, List.length_append, List.map_cons, List.sum_cons]
    omega
theorem cC_len (p : Nat) (c : RClause) : (cC p c).length ≤ 5 * (nd c.If + nd c.To) := by
  have h1 := cE_len c.If (p + 1)
  have h2 := cE_len c.To (p + 1 + (cE (p + 1) c.If).length + 1)
  simp only [cC, List.length_cons, List.length_append, List.length_nil]
  omega
theorem cF_len (p : Nat) (f : RFunc) : (cF p f).length ≤ 5 * nd f.Body := by
  have h1 := cE_len f.Body p
  simp only [cF, List.length_append, List.length_singleton]
  omega
theorem sumC : ∀ (cs : List RClause), (cs.map fun c => 5 * (nd c.If + nd c.To)).sum = 5 * ndL (cs.flatMap fun c => [c.If, c.To])
  | [] => by simp [ndL]
  | c :: cs => by
    rw [List.map_cons, List.sum_cons, List.flatMap_cons, ndL_app, sumC cs]
    simp only [ndL]
    omega
theorem sumF : ∀ (fs : List RFunc), (fs.map fun f => 5 * nd f.Body).sum = 5 * ndL (fs.map (·.Body))
  | [] => by simp [ndL]
  | f :: fs => by
    rw [List.map_cons, List.sum_cons, List.map_cons, ndL, sumF fs]
    omega
theorem cops_len (r : Rule) : (cops r).length ≤ 5 * ndR r + 1 := by
  have h1 := seqC_len (f := cC) cC_len r.Clauses 0
  have h2 := seqC_len (f := cF) cF_len r.Funcs ((seqC cC 0 r.Clauses).2.length + 1)
  rw [sumC] at h1
  rw [sumF] at h2
  unfold cops ndR
  rw [List.length_append, List.length_cons, ndL_app]
  omega
end Vm
namespace Go.Proofs.YtjmeeofdffdpnaaGreatDoor
open Go Go.K Go.ChangeShapes Go.RowKit Go.WideElems
open Ru (NmS BasV)
theorem getD_sum : ∀ (l : List Nat) (i : Nat), l.getD i 0 ≤ l.sum
  | [], _ => by simp
  | a :: l, 0 => by simp
  | a :: l, i + 1 => by
    have := getD_sum l i
    simp only [List.getD_cons_succ, List.sum_cons]
    omega
theorem getD_sum2 : ∀ (l : List Nat) (i j : Nat), i < j → l.getD i 0 + l.getD j 0 ≤ l.sum
  | [], _, _, _ => by simp
  | a :: l, 0, j + 1, _ => by
    have := getD_sum l j
    simp only [List.getD_cons_succ, List.getD_cons_zero, List.sum_cons]
    omega
  | a :: l, i + 1, j + 1, h => by
    have := getD_sum2 l i j (by omega)
    simp only [List.getD_cons_succ, List.sum_cons]
    omega
theorem sum_le : ∀ (l ws : List Nat), l.length = ws.length → (∀ i, i < l.length → l.getD i 0 ≤ ws.getD i 0) → l.sum ≤ ws.sum
  | [], [], _, _ => Nat.le_refl _
  | a :: l, b :: ws, h, hi => by
    have h1 := hi 0 (by simp)
    have h2 := sum_le l ws (by simpa using h) fun i h => by simpa using hi (i + 1) (by simpa using h)
    simp only [List.getD_cons_zero] at h1
    simp only [List.sum_cons]
    omega
theorem bulk_sum {H : Type} : ∀ (l : List (DataW H)), Rows.uptoBulkAll l = (l.map Rows.uptoBulk).sum
  | [] => rfl
  | d :: l => by rw [Rows.uptoBulkAll, bulk_sum l]; rfl
section
variable {H : Type} {enc : TypeId × Value → H} {P : Program} {W : World} {n : Nat} {t e : TypeId} {cs : List Value} {x : DataW H × List MemPlace}
theorem Dat.sliceB (ht : P.underlying t = some (.slice e)) (h : Dat enc P W n t cs x) : ∃ (v : Value) (ws : List Nat), cs = [v] ∧ IsSl v ws.length ∧ ws.length * P.bytesOf e ≤ maxSl ∧ ws.sum ≤ Rows.uptoBulk x.1 ∧ ∀ i, i < ws.length → ∃ cs' m y, m < n ∧ Dat enc P W m e cs' y ∧ Rows.uptoBulk y.1 = ws.getD i 0 ∧ ∀ j u, cs'[j]? = some u → PCell (hp W) (Value.at v (i * P.cellsOf e + j)) u := by
  obtain ⟨h, hw⟩ := h
  rcases DataW.trod_slice ht h with ⟨rfl, _⟩ | ⟨a, len, cap, elems, rest, n', hn, rfl, hx, _, hl, _, hlen, he, _, _⟩
  · exact ⟨_, [], rfl, isSl_nil, by simp, by simp, fun i hi => absurd hi (by simp)⟩
  · have hw0 := hw
    rw [hx] at hw
    simp only [DataW.weights, ht, List.all_cons, List.all_append, Bool.and_eq_true, decide_eq_true_eq, List.length_map] at hw
    obtain ⟨hw1, hw2, _⟩ := hw
    refine ⟨_, elems.map fun d => Rows.uptoBulk d.1, rfl, by rw [List.length_map, hlen]; exact ⟨_, _, rfl, fun _ => rfl, by omega⟩, ?_, ?_, fun i hi => ?_⟩
    · have h1 : (elems.length + rest.length) * P.bytesOf e ≤ reachBytes := hw1
      have h2 : len * P.bytesOf e ≤ (elems.length + rest.length) * P.bytesOf e := Nat.mul_le_mul_right _ (by omega)
      have h3 : reachBytes ≤ maxSl := by decide
      rw [List.length_map]
      have h4 : elems.length = len := by omega
      rw [h4]
      omega
    · rw [hx, Rows.uptoBulk, bulk_sum, List.map_map]
      have : (elems.map fun d => Rows.uptoBulk d.1) = elems.map (Rows.uptoBulk ∘ fun d => d.1) := rfl
      rw [this]
      omega
    · rw [List.length_map] at hi
      have hi' := he i (by omega)
      have hil : i < elems.length := hi
      rw [List.getElem?_eq_getElem hil] at hi'
      obtain ⟨cs', hc, hd⟩ := bS hi'
      refine ⟨cs', n', _, by omega, ⟨hd, weights_all hw2 _ (List.mem_map.2 ⟨_, List.getElem_mem hil, rfl⟩)⟩, ?_, fun j u hj => pcell_of ?_⟩
      · rw [gDD, List.getElem?_map, List.getElem?_eq_getElem hil]; rfl
      obtain ⟨_, hcl, hat⟩ := World.cells?_some hc
      have hjl : j < P.cellsOf e := by rw [← hcl]; exact (List.getElem?_eq_some_iff.1 hj).1
      have := hat j hjl
      rw [hj, add_add] at this
      exact this
theorem Dat.rowsB {β : Type} {g : β → List Value → Prop} (μ : β → Nat) (ht : P.underlying t = some (.slice e)) (h : Dat enc P W n t cs x) (hg : ∀ m cs' y, m < n → Dat enc P W m e cs' y → ∃ b, g b cs' ∧ μ b ≤ Rows.uptoBulk y.1) : ∃ (v : Value) (l : List β), cs = [v] ∧ IsSl v l.length ∧ l.length * P.bytesOf e ≤ maxSl ∧ (l.map μ).sum ≤ Rows.uptoBulk x.1 ∧ ∀ i (h : i < l.length), ∃ cs', g l[i] cs' ∧ ∀ j u, cs'[j]? = some u → PCell (hp W) (Value.at v (i * P.cellsOf e + j)) u := by
  obtain ⟨v, ws, hv, hk, hb, hs, hi⟩ := h.sliceB ht
  have hex : ∀ i : Fin ws.length, ∃ b : β, μ b ≤ ws.getD i.1 0 ∧ ∃ cs', g b cs' ∧ ∀ j u, cs'[j]? = some u → PCell (hp W) (Value.at v (i.1 * P.cellsOf e + j)) u := fun i => by
    obtain ⟨cs', m, y, hm, hy, hw, hc⟩ := hi i.1 i.2
    obtain ⟨b, hb, hm⟩ := hg m cs' y hm hy
    exact ⟨b, by omega, cs', hb, hc⟩
  refine ⟨v, List.ofFn fun i : Fin ws.length => (hex i).choose, hv, by rw [List.length_ofFn]; exact hk, by rw [List.length_ofFn]; exact hb, ?_, fun i hi => ?_⟩
  · refine Nat.le_trans (sum_le _ ws (by rw [List.length_map, List.length_ofFn]) fun i hi => ?_) hs
    rw [List.length_map, List.length_ofFn] at hi
    rw [gDD, List.getElem?_map, List.getElem?_eq_getElem (by rw [List.length_ofFn]; exact hi)]
    simp only [List.getElem_ofFn, Option.map_some, Option.getD_some]
    exact (hex ⟨i, hi⟩).choose_spec.1
  · rw [List.length_ofFn] at hi
    rw [List.getElem_ofFn]
    exact (hex ⟨i, hi⟩).choose_spec.2
theorem Dat.slB (α : Type) [Rep α] (μ : α → Nat) (ht : P.underlying t = some (.slice e)) (hC : P.cellsOf e = Rep.sz α) (hb : P.bytesOf e = Rep.bytes α) (h : Dat enc P W n t cs x) (hg : ∀ m cs' y, m < n → Dat enc P W m e cs' y → ∃ a : α, Rep.rep (hp W) a cs' ∧ μ a ≤ Rows.uptoBulk y.1) : ∃ (v : Value) (l : List α), cs = [v] ∧ RepSl (hp W) l v ∧ (l.map μ).sum ≤ Rows.uptoBulk x.1 := by
  obtain ⟨v, l, h1, h2, h3, h5, h4⟩ := h.rowsB μ ht hg
  exact ⟨v, l, h1, ⟨h2, hb ▸ h3, fun i hi => hC ▸ h4 i hi⟩, h5⟩
theorem Dat.fieldsB {fs : Array Field} (ht : P.underlying t = some (.struct fs)) (h : Dat enc P W n t cs x) : cs.length = P.cellsOf t ∧ ∃ m, m < n ∧ ∃ ws : List Nat, ws.sum + 1 ≤ Rows.uptoBulk x.1 ∧ ∀ (k : Nat) (f : Field), fs[k]? = some f → ∃ y, Dat enc P W m f.type ((cs.drop f.offset).take (P.cellsOf f.type)) y ∧ Rows.uptoBulk y.1 = ws.getD k 0 := by
  obtain ⟨h, hw⟩ := h
  obtain ⟨xs, m, hn, hx, hl, hlen, hf⟩ := DataW.trod_struct ht h
  subst hx
  have hw : (DataW.weightsEach P (fs.toList.map (·.type)) (xs.map (·.1))).all (· ≤ reachBytes) = true := by
    have h2 := hw
    simp only [DataW.weights, ht] at h2
    exact h2
  refine ⟨hl, m, by omega, xs.map fun d => Rows.uptoBulk d.1, ?_, fun k f hk => ?_⟩
  · simp only [Rows.uptoBulk]
    rw [bulk_sum, List.map_map]
    exact Nat.le_refl _
  have hk2 : k < xs.length := by rw [hlen]; exact (Array.getElem?_eq_some_iff.1 hk).1
  refine ⟨xs[k], ⟨(hf k f hk).trans (List.getElem?_eq_getElem hk2), weights_arg k hw ?_ ?_⟩, ?_⟩
  · rw [List.getElem?_map, Array.getElem?_toList, hk]; rfl
  · rw [List.getElem?_map, List.getElem?_eq_getElem hk2]; rfl
  · rw [gDD, List.getElem?_map, List.getElem?_eq_getElem hk2]; rfl
end
section
variable {H : Type} {enc : TypeId × Value → H} {W : World} {n : Nat} {cs : List Value} {x : DataW H × List MemPlace}
theorem ndL_sum : ∀ (l : List Bt.Expr), Vm.ndL l = (l.map Vm.nd).sum
  | [] => by rw [Vm.ndL]; rfl
  | x :: l => by rw [Vm.ndL, ndL_sum l]; rfl
theorem ndC_sum : ∀ (l : List Bt.RClause), Vm.ndL (l.flatMap fun c => [c.If, c.To]) = (l.map fun c => Vm.nd c.If + Vm.nd c.To).sum
  | [] => by rw [List.flatMap_nil, Vm.ndL]; rfl
  | c :: l => by
    rw [List.flatMap_cons, Vm.ndL_app, ndC_sum l, List.map_cons, List.sum_cons]
    simp only [Vm.ndL, Nat.add_zero]
theorem ndR_sum (r : Bt.Rule) : Vm.ndR r = (r.Funcs.map fun f => Vm.nd f.Body).sum + (r.Clauses.map fun c => Vm.nd c.If + Vm.nd c.To).sum := by
  unfold Vm.ndR
  rw [Vm.ndL_app, ndC_sum, ndL_sum, List.map_map]
  rfl
theorem open_exprB : ∀ (n : Nat) {cs : List Value} {x : DataW H × List MemPlace}, Dat enc pg W n 59 cs x → ∃ a : Bt.Expr, Rep.rep (hp W) a cs ∧ Vm.nd a ≤ Rows.uptoBulk x.1 := fun n => by
  induction n using Nat.strongRecOn with
  | _ n ih =>
    intro cs x h
    obtain ⟨hl, m, hm, ws, hws, hf⟩ := h.fieldsB Tryz.underlying59
    obtain ⟨y0, h0, b0⟩ := hf 0 ⟨_, 3, 0, _, _, _, _⟩ rfl
    obtain ⟨y1, h1, b1⟩ := hf 1 ⟨_, 3, 1, _, _, _, _⟩ rfl
    obtain ⟨y2, h2, b2⟩ := hf 2 ⟨_, 3, 2, _, _, _, _⟩ rfl
    obtain ⟨y3, h3, b3⟩ := hf 3 ⟨_, 3, 3, _, _, _, _⟩ rfl
    obtain ⟨y4, h4, b4⟩ := hf 4 ⟨_, 57, 4, _, _, _, _⟩ rfl
    obtain ⟨a0, k0, w0⟩ := h0.int Tryz.underlying3
    obtain ⟨a1, k1, w1⟩ := h1.int Tryz.underlying3
    obtain ⟨a2, k2, w2⟩ := h2.int Tryz.underlying3
    obtain ⟨a3, k3, w3⟩ := h3.int Tryz.underlying3
    obtain ⟨v4, l4, k4, r4, m4⟩ := h4.slB Bt.Expr Vm.nd Tryz.underlying57 (by kernel_rfl) (by kernel_rfl) fun q _ _ hq hy => ih q (by omega) hy
    have e67 : pg.cellsOf 57 = 1 := by kernel_rfl
    have hl : cs.length = 5 := hl.trans (by kernel_rfl)
    obtain ⟨c0, c1, c2, c3, c4, rfl⟩ := vlen5 hl
    simp only [oc3, e67, List.drop_zero, List.drop_succ_cons, List.take_succ_cons, List.take_zero, List.cons.injEq, and_true] at k0 k1 k2 k3 k4
    subst k0; subst k1; subst k2; subst k3; subst k4
    have hn : Vm.ndL l4 = (l4.map Vm.nd).sum := ndL_sum l4
    have hg := getD_sum ws 4
    exact ⟨⟨a0, a1, a2, a3, l4⟩, repE'.2 ⟨_, rfl, ⟨w0, w1, w2, w3⟩, r4⟩, by rw [Vm.nd, hn]; omega⟩
theorem open_funB (h : Dat enc pg W n 61 cs x) : ∃ a : Bt.RFunc, Rep.rep (hp W) a cs ∧ Vm.nd a.Body ≤ Rows.uptoBulk x.1 := by
  obtain ⟨hl, m, hm, ws, hws, hf⟩ := h.fieldsB Tryz.underlying61
  obtain ⟨y0, h0, b0⟩ := hf 0 ⟨_, 9, 0, _, _, _, _⟩ rfl
  obtain ⟨y1, h1, b1⟩ := hf 1 ⟨_, 29, 1, _, _, _, _⟩ rfl
  obtain ⟨y2, h2, b2⟩ := hf 2 ⟨_, 3, 2, _, _, _, _⟩ rfl
  obtain ⟨y3, h3, b3⟩ := hf 3 ⟨_, 59, 3, _, _, _, _⟩ rfl
  obtain ⟨a0, k0, w0⟩ := h0.str Tryz.underlying9
  obtain ⟨v1, l1, k1, r1⟩ := open_ints h1
  obtain ⟨a2, k2, w2⟩ := h2.int Tryz.underlying3
  obtain ⟨a3, r3, m3⟩ := open_exprB m h3
  obtain ⟨v3, k3, w3, r3⟩ := repE'.1 r3
  have e29 : pg.cellsOf 29 = 1 := by kernel_rfl
  have e69 : pg.cellsOf 59 = 5 := by kernel_rfl
  have hl : cs.length = 8 := hl.trans (by kernel_rfl)
  obtain ⟨c0, c1, c2, c3, c4, c5, c6, c7, rfl⟩ := vlen8 hl
  simp only [oc3, oc9, e29, e69, exC, List.drop_zero, List.drop_succ_cons, List.take_succ_cons, List.take_zero, List.cons.injEq, and_true] at k0 k1 k2 k3
  obtain ⟨j0, j1, j2, j3, j4⟩ := k3
  subst k0; subst k1; subst k2; subst j0; subst j1; subst j2; subst j3; subst j4
  have hg := getD_sum ws 3
  exact ⟨⟨a0, l1, a2, a3⟩, ⟨_, _, rfl, w0, r1, w2, w3, r3⟩, by show Vm.nd a3 ≤ _; omega⟩
theorem open_clB (h : Dat enc pg W n 76 cs x) : ∃ a : Bt.RClause, Rep.rep (hp W) a cs ∧ Vm.nd a.If + Vm.nd a.To ≤ Rows.uptoBulk x.1 := by
  obtain ⟨hl, m, hm, ws, hws, hf⟩ := h.fieldsB Tryz.underlying76
  obtain ⟨y0, h0, b0⟩ := hf 0 ⟨_, 59, 0, _, _, _, _⟩ rfl
  obtain ⟨y1, h1, b1⟩ := hf 1 ⟨_, 3, 5, _, _, _, _⟩ rfl
  obtain ⟨y2, h2, b2⟩ := hf 2 ⟨_, 59, 6, _, _, _, _⟩ rfl
  obtain ⟨a0, r0, m0⟩ := open_exprB m h0
  obtain ⟨v0, k0, w0, z0⟩ := repE'.1 r0
  clear r0
  obtain ⟨a1, k1, w1⟩ := h1.int Tryz.underlying3
  obtain ⟨a2, r2, m2⟩ := open_exprB m h2
  obtain ⟨v2, k2, w2, z2⟩ := repE'.1 r2
  clear r2
  have e69 : pg.cellsOf 59 = 5 := by kernel_rfl
  have hl : cs.length = 11 := hl.trans (by kernel_rfl)
  obtain ⟨c0, c1, c2, c3, c4, c5, c6, c7, c8, c9, c10, rfl⟩ := vlen11 hl
  simp only [oc3, e69, exC, List.drop_zero, List.drop_succ_cons, List.take_succ_cons, List.take_zero, List.cons.injEq, and_true] at k0 k1 k2
  obtain ⟨j0, j1, j2, j3, j4⟩ := k0
  obtain ⟨i0, i1, i2, i3, i4⟩ := k2
  subst k1; subst j0; subst j1; subst j2; subst j3; subst j4; subst i0; subst i1; subst i2; subst i3; subst i4
  have hg := getD_sum2 ws 0 2 (by omega)
  exact ⟨⟨a0, a1, a2⟩, ⟨_, _, rfl, w0, z0, w1, w2, z2⟩, by show Vm.nd a0 + Vm.nd a2 ≤ _; omega⟩
theorem open_ruleB (h : Dat enc pg W n 35 cs x) : ∃ (r : Bt.Rule) (fv cv : Value), cs = [fv, cv] ∧ RepSl (hp W) r.Funcs fv ∧ RepSl (hp W) r.Clauses cv ∧ Vm.ndR r ≤ Rows.uptoBulk x.1 := by
  obtain ⟨hl, m, hm, ws, hws, hf⟩ := h.fieldsB Tryz.underlying35
  obtain ⟨y0, h0, b0⟩ := hf 0 ⟨_, 32, 0, _, _, _, _⟩ rfl
  obtain ⟨y1, h1, b1⟩ := hf 1 ⟨_, 33, 1, _, _, _, _⟩ rfl
  obtain ⟨v0, l0, k0, r0, m0⟩ := h0.slB Bt.RFunc (fun f => Vm.nd f.Body) Tryz.underlying32 (by kernel_rfl) (by kernel_rfl) fun _ _ _ _ hy => open_funB hy
  obtain ⟨v1, l1, k1, r1, m1⟩ := h1.slB Bt.RClause (fun c => Vm.nd c.If + Vm.nd c.To) Tryz.underlying33 (by kernel_rfl) (by kernel_rfl) fun _ _ _ _ hy => open_clB hy
  have e32 : pg.cellsOf 32 = 1 := by kernel_rfl
  have e33 : pg.cellsOf 33 = 1 := by kernel_rfl
  have hl : cs.length = 2 := hl.trans (by kernel_rfl)
  obtain ⟨c0, c1, rfl⟩ := vlen2 hl
  simp only [e32, e33, List.drop_zero, List.drop_succ_cons, List.take_succ_cons, List.take_zero, List.cons.injEq, and_true] at k0 k1
  subst k0; subst k1
  have hg := getD_sum2 ws 0 1 (by omega)
  have hn := ndR_sum ⟨l0, l1⟩
  exact ⟨⟨l0, l1⟩, _, _, rfl, r0, r1, by rw [hn]; show (l0.map fun f => Vm.nd f.Body).sum + (l1.map fun c => Vm.nd c.If + Vm.nd c.To).sum ≤ _; omega⟩
end
end Go.Proofs.YtjmeeofdffdpnaaGreatDoor
