/- Lemmas. Conditions: those of each theorem. -/
import Derived.Test.YtblfeidlnhdekaaGreatSPlainE
set_option maxRecDepth 8000
set_option maxHeartbeats 16000000
namespace Go.Proofs.YtblfeidlnhdekaaGreat
open Go Go.K Go.RowKit
attribute [local irreducible] AW RW DW Post Qt
theorem IndexFunc_c (w : World) (Φ : Hp) (hΦ : Hp.le Φ (hp w)) {L : List (List Int)} {v1 : Value} (h1 : RepSl Φ L v1) {p : List Int → Bool} {kf : FuncId} {capt : Array Value} (hk : Go.K.Own pg kf) (hf : ∀ w1, Bel w.heap.size w w1 → ∀ i sv, i < L.length → RepSl (Go.K.hp w1) (L.getD i []) sv → Calls pg kf (#[sv] ++ capt) w1 fun e w2 => e = .returned (.bool (p (L.getD i []))) ∧ Bel w1.heap.size w1 w2) :
  Calls pg 76 #[v1, (.func (.func kf) #[] capt)] w fun e w' => e = .returned (iV (Fu.firstF p L)) ∧ Bel w.heap.size w w' := by
 refine in2 19 Tryz.func76 rfl rfl hΦ ?_
 have hm1 : L.length * 24 ≤ 140737488355328 := h1.max
 refine gs14 ?_
 refine AW.lp (fun s J m => ∃ (k : Nat), s = [(0, v1), (1, (.func (.func kf) #[] capt)), (7, iV (L.length : Int)), (8, iV (k : Int))] ∧ J = St ⟨w, Φ, []⟩ Φ [] ∧ m = L.length - k ∧ (k ≤ L.length) ∧ (∀ j, j < k → p (L.getD j []) = false)) ⟨0, rfl, rfl, rfl, (by omega), (by omega)⟩ ?_
 rintro _ _ _ _ ⟨k, rfl, rfl, rfl, hk2, heq⟩
 refine gs6 ?_
 refine AW.cond rfl (fun hc1 => ?_) fun hc1 => ?_
 ·
  simp [-List.getD_eq_getElem?_getD] at hc1
  refine gs16 ?_
  obtain ⟨sv1, hsv1, hpc1⟩ := h1.sub (k := k) (by omega)
  refine RW.q (v := sv1) rfl (q_load rfl uT29 rfl (Cell.phi hpc1)) (RW.q (v := .bool (p (L.getD k []))) rfl (q_call (args := [sv1].toArray ++ capt) hk rfl (args_capt rfl) (fun w1 hw1 => hf w1 (hw1.below rfl) k _ (by omega) (hsv1.mono hw1.phi))) ?_)
  refine gs2 ?_
  refine AW.cond rfl (fun hc2 => ?_) fun hc2 => ?_
  ·
   refine gs12 ?_
   exact fin_val (v' := iV (k : Int)) rfl rfl rfl (by rw [Fu.firstF_hit (by omega) heq hc2])
  ·
   refine gs7 ?_
   exact Post.bk ⟨k + 1, rfl, rfl, rfl, (by omega), (Fu.lt_succ heq hc2)⟩
 ·
  simp [-List.getD_eq_getElem?_getD] at hc1
  refine gs11 ?_
  exact fin_val (v' := iV (-1)) rfl rfl rfl (by rw [Fu.firstF_miss (fun j hj => heq j (by omega))])
theorem ContainsFunc_c (w : World) (Φ : Hp) (hΦ : Hp.le Φ (hp w)) {L : List (List Int)} {v1 : Value} (h1 : RepSl Φ L v1) {p : List Int → Bool} {kf : FuncId} {capt : Array Value} (hk : Go.K.Own pg kf) (hf : ∀ w1, Bel w.heap.size w w1 → ∀ i sv, i < L.length → RepSl (Go.K.hp w1) (L.getD i []) sv → Calls pg kf (#[sv] ++ capt) w1 fun e w2 => e = .returned (.bool (p (L.getD i []))) ∧ Bel w1.heap.size w1 w2) :
  Calls pg 48 #[v1, (.func (.func kf) #[] capt)] w fun e w' => e = .returned (.bool (L.any p)) ∧ Bel w.heap.size w w' := by
 refine in2 9 Tryz.func48 rfl rfl hΦ ?_
 refine gs9 ?_
 refine RW.c rfl (fun w1 hw1 => IndexFunc_c w1 (Go.K.hp w1) (Hp.le_refl _) (h1.mono hw1.phi) hk (fun w2 hb2 => hf w2 ((hw1.below rfl).trans (hb2.mono (hw1.below rfl).size)))) rfl rfl ?_
 refine gs5 ?_
 exact fin_val (v' := .bool (decide ((0 : Int) ≤ Fu.firstF p L))) rfl rfl rfl (by rw [Fu.firstF_any])
theorem Drift1_c (w : World) (Φ : Hp) (hΦ : Hp.le Φ (hp w)) {xs : List Int} {v1 : Value} (h1 : RepSl Φ xs v1) {i : Int} {b1 : Nat} (p1 : PCell Φ ⟨b1, 0, none⟩ (iV i)) :
  Calls pg 49 #[v1, .pointer (some ⟨b1, 0, none⟩)] w fun e w' => e = .returned (.bool (!decide (i ∈ xs))) ∧ Bel w.heap.size w w' := by
 refine in2 8 Tryz.func49 rfl rfl hΦ ?_
 refine gs8 ?_
 refine RW.q (v := iV i) rfl (q_load rfl uT3 rfl (Cell.phi p1)) (RW.c rfl (fun w1 hw1 => Contains_c w1 (Go.K.hp w1) (Hp.le_refl _) (h1.mono hw1.phi)) rfl rfl ?_)
 refine gs5 ?_
 exact fin_val (v' := .bool (!(decide (i ∈ xs)))) rfl rfl rfl (rfl)
theorem Drifting_c (w : World) (Φ : Hp) (hΦ : Hp.le Φ (hp w)) {b : Bt.Basin} {cs : List Value} (hB : RepV Φ b cs) {hist : List (List Int)} {hv : Value} (hh : RepSl Φ hist hv) :
  Calls pg 13 #[.agg cs.toArray, hv] w (RetS noHp w fun r Ψ => RepSl Ψ (Fu.drift b.Gauges.length hist) r) := by
 obtain ⟨v1, v3, v4, v5, v6, v7, v8, v9, hcs, hBw, r1, r3, r4, r5, r6, r7, r8, r9⟩ := (show Rep.rep Φ b cs from hB)
 subst hcs
 have hpm : b.Places.length * 152 ≤ 140737488355328 := r3.max
 have hgm : b.Gauges.length * 48 ≤ 140737488355328 := r6.max
 refine in2 32 Tryz.func13 rfl rfl hΦ ?_
 have hhm : hist.length * 24 ≤ 140737488355328 := hh.max
 have hle : ((hist.take hist.length).drop (hist.length - 3)) = hist.drop (hist.length - 3) := by rw [List.take_length]
 refine gs2 ?_
 refine RW.bxA rfl rfl fun b1 => ?_
 refine gs11 ?_
 refine AW.cond rfl (fun hc1 => ?_) fun hc1 => ?_
 ·
  simp [-List.getD_eq_getElem?_getD] at hc1
  refine gs7 ?_
  rw [show Fu.drift b.Gauges.length hist = [] from if_pos (by omega)]
  refine fin_out1 (v := nS) rfl rfl rfl (fun w' hw => ?_)
  exact ⟨_, rfl, hw.below rfl, repSl_nil⟩
 ·
  simp [-List.getD_eq_getElem?_getD] at hc1
  refine gs7 ?_
  refine RW.q (v := iV (((hist.length - 3) : Nat) : Int)) rfl (q_as (v := iV ((hist.length : Int) - 3)) (q_sub rfl rfl (by omega) (by unfold I64; omega)) (congrArg (Value.int .i64) (by omega))) (RW.q (v := (subSl hv (hist.length - 3) hist.length 1)) rfl (q_sliceL (v := hv) (l := (((hist.length - 3) : Nat) : Int)) rfl rfl hh.sl uT32 sz29 (by omega) (by omega)) ?_)
  refine gs18 ?_
  refine AW.loop (fun s J m => ∃ (k : Nat), ∃ (M : List Int), ∃ (nv : Value), s = [(2, pV b1 0), (5, (subSl hv (hist.length - 3) hist.length 1)), (18, iV (b.Gauges.length : Int)), (19, iV (k : Int)), (6, nv)] ∧ J = St ⟨w, Φ, []⟩ Φ [.row nv 3 1 M.length (M.map (Value.int .i64)), .blk b1 31 (cl31 b v1 v3 v4 v5 v6 v7 v8 v9)] ∧ m = b.Gauges.length - k ∧ (k ≤ b.Gauges.length) ∧ (M = Fu.drI k (hist.drop (hist.length - 3))) ∧ (IsSl nv M.length) ∧ (M.length ≤ k)) (s0 := _) (J1 := _) (m0 := _) ⟨0, [], _, rfl, rfl, rfl, (by omega), rfl, isSl_nil, (by simp)⟩ ⟨rfl, rfl, rfl, rfl, rfl, trivial⟩ (fun _ h => addNil h) ?_
  rintro _ _ _ _ ⟨k, M, nv, rfl, rfl, rfl, hk, hM, hnv, hMl⟩
  refine gs6 ?_
  refine AW.cond rfl (fun hc2 => ?_) fun hc2 => ?_
  ·
   simp [-List.getD_eq_getElem?_getD] at hc2
   refine gs7 ?_
   refine RW.alc rfl fun b2 => ?_
   refine gs6 ?_
   refine RW.q (v := .func (.func 49) #[] #[pV b2 0]) rfl (q_makeFunc rfl rfl) (RW.c rfl (fun w1 hw1 => ContainsFunc_c w1 (Go.K.hp w1) (Hp.le_refl _) (p := fun m => !decide ((k : Int) ∈ m)) (capt := #[pV b2 0]) ((hh.part (l := (hist.length - 3)) (m := hist.length) (by omega) (by omega)).mono hw1.phi) oK (fun w2 hb2 i sv hi hr => Drift1_c w2 (Go.K.hp w2) (Hp.le_refl _) hr ((blk_cell (hw1.sAt 0 rfl) rfl).mono (below_le hb2)))) rfl rfl ?_)
   refine gs3 ?_
   refine AW.cond rfl (fun hc3 => ?_) fun hc3 => ?_
   ·
    simp [-List.getD_eq_getElem?_getD] at hc3
    refine gs3 ?_
    refine RW.eff (fun b3 : Nat => (.slice (some ⟨b3, 0, none⟩) 1 1)) (fun b3 => St ⟨w, Φ, []⟩ Φ [.row (.slice (some ⟨b3, 0, none⟩) 1 1) 3 1 1 ([iV (k : Int)]), .blk b2 3 [iV (k : Int)], .row nv 3 1 M.length (M.map (Value.int .i64)), .blk b1 31 (cl31 b v1 v3 v4 v5 v6 v7 v8 v9)]) rfl (e_buildSlice (vals := [(0, iV (k : Int))]) (cells := [iV (k : Int)]) uT29 inf3 rfl rfl rfl (by kernel_rfl) rfl) ?_
    intro b3
    refine RW.eff (fun xv : {vq : Value // IsSl vq (M.length + 1)} => xv.1) (fun xv => St ⟨w, Φ, []⟩ Φ [.row (.slice (some ⟨b3, 0, none⟩) 1 1) 3 1 1 ([iV (k : Int)]), .blk b2 3 [iV (k : Int)], .row xv.1 3 1 ((M ++ [(k : Int)]).length) ((M ++ [(k : Int)]).map (Value.int .i64)), .blk b1 31 (cl31 b v1 v3 v4 v5 v6 v7 v8 v9)]) rfl (e_append 2 rfl rfl rfl uT29 inf3 rfl rfl rfl (Cells.row0 0 rfl) rfl (by first | omega | (simp; omega)) (by first | omega | (simp; omega)) (fun _ => by simp)) ?_
    rintro ⟨va1, hva1⟩
    refine RW.wk (J' := St ⟨w, Φ, []⟩ Φ [.blk b2 3 [iV (k : Int)], .row va1 3 1 ((M ++ [(k : Int)]).length) ((M ++ [(k : Int)]).map (Value.int .i64)), .blk b1 31 (cl31 b v1 v3 v4 v5 v6 v7 v8 v9)]) (fun _ h => StP.drop h (by exact .cons _ (.cons_cons _ (.cons_cons _ (.cons_cons _ (.slnil)))))) ?_
    refine gs8 ?_
    have hall : ((hist.drop (hist.length - 3)).all fun m => decide ((k : Int) ∈ m)) = true := by rw [← Fu.not_any, ← hle]; simpa using hc3
    exact Post.bk ⟨k + 1, M ++ [(k : Int)], va1, rfl, rfl, rfl, (by omega), (by rw [Fu.drI_succ, if_pos hall, hM]), (by simpa using hva1), (by simp; omega)⟩
   ·
    simp [-List.getD_eq_getElem?_getD] at hc3
    refine gs7 ?_
    have hall : ¬ ((hist.drop (hist.length - 3)).all fun m => decide ((k : Int) ∈ m)) = true := by rw [← Fu.not_any, ← hle]; simpa using hc3
    exact Post.bk ⟨k + 1, M, nv, rfl, rfl, rfl, (by omega), (by rw [Fu.drI_succ, if_neg hall, hM]), hnv, (by omega)⟩
  ·
   simp [-List.getD_eq_getElem?_getD] at hc2
   refine gs12 ?_
   have hMe : Fu.drift b.Gauges.length hist = M := by rw [Fu.drift_eq (by omega), hM, show k = b.Gauges.length by omega]
   rw [hMe]
   refine fin_out1 (v := nv) rfl rfl rfl (fun w' hw => ?_)
   refine ⟨_, rfl, hw.below rfl, RowS.ints (row_ext hw 0 rfl) (by simp only [maxSl]; omega) (fun x hx => ?_)⟩
   rw [hM] at hx
   have h9 := Fu.drI_rng hx
   unfold I64; omega
end Go.Proofs.YtblfeidlnhdekaaGreat
