/- Walks (part WalkM), printed by walk2.py. Conditions: those of each theorem. -/
import Derived.Test.YtblfeidlnhdekaaVWalkI
import Derived.Test.YtblfeidlnhdekaaVPlainE
namespace Go.Proofs.Ytblfeidlnhdekaa
open Go Go.K Go.RowKit

set_option maxRecDepth 8000 in
set_option maxHeartbeats 1000000 in
theorem IndexFunc_c (w : World) (Φ : Hp) (hΦ : Hp.le Φ (hp w)) {L : List (List Int)} {v1 : Value} (h1 : RepSl Φ L v1) {p : List Int → Bool} {kf : FuncId} {capt : Array Value} (hk : Own Try.prog kf) (hf : ∀ w1, Bel w.heap.size w w1 → ∀ i sv, i < L.length → RepSl (Go.K.hp w1) (L.getD i []) sv → Calls Try.prog kf (#[sv] ++ capt) w1 fun e w2 => e = .returned (.bool (p (L.getD i []))) ∧ Bel w1.heap.size w1 w2) :
  Calls Try.prog 76 #[v1, (.func (.func kf) #[] capt)] w fun e w' => e = .returned (.int .i64 (Fu.firstF p L)) ∧ Bel w.heap.size w w' := by
 refine calls_of_AW (args := [v1, (.func (.func kf) #[] capt)]) Try.func76 rfl (Nat.le_of_ble_eq_true rfl) (St ⟨w, Φ, []⟩ Φ []) (StP.init w Φ hΦ []) ?_
 show AW Try.prog 19 [] _ _ _ [(0, v1), (1, (.func (.func kf) #[] capt))] _
 have hm1 : L.length * 24 ≤ 140737488355328 := h1.max
 refine AW.seq (AW.region (RW.as rfl (RW.nil (Post.then_n (AW.seq (AW.seq (AW.region (RW.mv rfl (RW.q (v := .int .i64 ((L.length : Nat) : Int)) rfl (q_len_sl rfl h1.sl uT38) ?_)))))))))
 refine RW.mv rfl (RW.nil (Post.then_n (AW.block (AW.loop (fun s J m => ∃ (k : Nat), s = [(0, v1), (1, (.func (.func kf) #[] capt)), (7, .int .i64 ((L.length : Nat) : Int)), (8, .int .i64 (k : Int))] ∧ J = St ⟨w, Φ, []⟩ Φ [] ∧ m = L.length - k ∧ (k ≤ L.length) ∧ (∀ j, j < k → p (L.getD j []) = false)) (s0 := _) (J1 := _) (m0 := _) ⟨0, rfl, rfl, rfl, (by omega), (by omega)⟩ ⟨rfl, rfl, rfl, rfl, trivial⟩ (fun _ h => h) ?_))))
 rintro _ _ _ _ ⟨k, rfl, rfl, rfl, hk2, heq⟩
 refine AW.seq (AW.region (RW.q (v := .bool (decide ((k : Int) < ((L.length : Nat) : Int)))) rfl (q_lss rfl rfl) (RW.nil (Post.then_n (AW.seq (AW.cond (b := decide ((k : Int) < ((L.length : Nat) : Int))) rfl (fun hc1 => ?_) (fun hc1 => ?_)))))))
 ·
  simp [-List.getD_eq_getElem?_getD] at hc1
  refine AW.skip (Post.then_n (AW.seq (AW.block (AW.seq (AW.region (RW.mv rfl (RW.as rfl (RW.nil (Post.then_n ?_)))))))))
  refine AW.seq (AW.region (RW.mv rfl (RW.mv rfl (RW.mv rfl (RW.q (v := .pointer (some (Value.at v1 (k * 1)))) rfl (q_indexAddr rfl rfl h1.sl uT38 sz29 (by omega) (by omega) rfl) ?_)))))
  obtain ⟨sv1, hsv1, hpc1⟩ := h1.sub (k := k) (by omega)
  refine RW.q (v := sv1) rfl (q_load rfl uT29 rfl (Cell.phi hpc1)) (RW.q (v := .bool (p (L.getD k []))) rfl (q_call (args := [sv1].toArray ++ capt) hk rfl (args_capt rfl) (fun w1 hw1 => hf w1 (hw1.below rfl) k _ (by omega) (hsv1.mono hw1.phi))) (RW.nil (Post.then_n (AW.cond (b := p (L.getD k [])) rfl (fun hc2 => ?_) (fun hc2 => ?_)))))
  ·
   refine AW.seq (AW.region (RW.mv rfl (RW.as rfl (RW.nil (Post.then_n (AW.ret (Post.blk_r (Post.then_r (Post.then_r (Post.blk_r (Post.then_r ?_)))))))))))
   exact fin_val (v' := .int .i64 (k : Int)) rfl rfl rfl (by rw [Fu.firstF_hit (by omega) heq hc2])
  ·
   refine AW.skip (Post.blk_n (Post.then_n ?_))
   refine AW.region (RW.q (v := .int .i64 ((k + 1 : Nat) : Int)) rfl (q_add rfl rfl (by omega) (by unfold I64; omega)) (RW.mv rfl (RW.nil ?_)))
   exact Post.back (s' := _) (J' := _) (m' := _) (by omega) ⟨k + 1, rfl, rfl, rfl, (by omega), (Fu.lt_succ heq hc2)⟩ ⟨rfl, rfl, rfl, rfl, trivial⟩ (fun _ h => h)
 ·
  simp [-List.getD_eq_getElem?_getD] at hc1
  refine AW.exit (Post.then_x (Post.then_x (Post.blk_hit (Post.then_n ?_))))
  refine AW.seq (AW.region (RW.as rfl (RW.nil (Post.then_n (AW.ret ?_)))))
  exact fin_val (v' := .int .i64 (-1)) rfl rfl rfl (by rw [Fu.firstF_miss (fun j hj => heq j (by omega))])

set_option maxRecDepth 8000 in
set_option maxHeartbeats 1000000 in
theorem ContainsFunc_c (w : World) (Φ : Hp) (hΦ : Hp.le Φ (hp w)) {L : List (List Int)} {v1 : Value} (h1 : RepSl Φ L v1) {p : List Int → Bool} {kf : FuncId} {capt : Array Value} (hk : Own Try.prog kf) (hf : ∀ w1, Bel w.heap.size w w1 → ∀ i sv, i < L.length → RepSl (Go.K.hp w1) (L.getD i []) sv → Calls Try.prog kf (#[sv] ++ capt) w1 fun e w2 => e = .returned (.bool (p (L.getD i []))) ∧ Bel w1.heap.size w1 w2) :
  Calls Try.prog 47 #[v1, (.func (.func kf) #[] capt)] w fun e w' => e = .returned (.bool (L.any p)) ∧ Bel w.heap.size w w' := by
 refine calls_of_AW (args := [v1, (.func (.func kf) #[] capt)]) Try.func47 rfl (Nat.le_of_ble_eq_true rfl) (St ⟨w, Φ, []⟩ Φ []) (StP.init w Φ hΦ []) ?_
 show AW Try.prog 9 [] _ _ _ [(0, v1), (1, (.func (.func kf) #[] capt))] _
 refine AW.seq (AW.region (RW.as rfl (RW.nil (Post.then_n (AW.seq (AW.region (RW.mv rfl (RW.mv rfl (RW.q (v := .int .i64 (Fu.firstF p L)) rfl (q_call (args := #[v1, (.func (.func kf) #[] capt)]) own76 rfl rfl (fun w1 hw1 => IndexFunc_c w1 (Go.K.hp w1) (Hp.le_refl _) (h1.mono hw1.phi) hk (fun w2 hb2 => hf w2 ((hw1.below rfl).trans (hb2.mono (hw1.below rfl).size))))) ?_)))))))))
 refine RW.q (v := .bool (decide ((0 : Int) ≤ Fu.firstF p L))) rfl (q_geq rfl rfl) (RW.as rfl (RW.nil (Post.then_n (AW.ret ?_))))
 exact fin_val (v' := .bool (decide ((0 : Int) ≤ Fu.firstF p L))) rfl rfl rfl (by rw [Fu.firstF_any])

set_option maxRecDepth 8000 in
set_option maxHeartbeats 1000000 in
theorem Drift1_c (w : World) (Φ : Hp) (hΦ : Hp.le Φ (hp w)) {xs : List Int} {v1 : Value} (h1 : RepSl Φ xs v1) {i : Int} {b1 : Nat} (p1 : PCell Φ ⟨b1, 0, none⟩ (.int .i64 i)) :
  Calls Try.prog 48 #[v1, .pointer (some ⟨b1, 0, none⟩)] w fun e w' => e = .returned (.bool (!decide (i ∈ xs))) ∧ Bel w.heap.size w w' := by
 refine calls_of_AW (args := [v1, .pointer (some (⟨b1, 0, none⟩))]) Try.func48 rfl (Nat.le_of_ble_eq_true rfl) (St ⟨w, Φ, []⟩ Φ []) (StP.init w Φ hΦ []) ?_
 show AW Try.prog 8 [] _ _ _ [(0, v1), (1, .pointer (some (⟨b1, 0, none⟩)))] _
 refine AW.seq (AW.region (RW.as rfl (RW.nil (Post.then_n (AW.seq (AW.region (RW.mv rfl (RW.q (v := .int .i64 i) rfl (q_load rfl uT3 rfl (Cell.phi p1)) (RW.q (v := .bool (decide (i ∈ xs))) rfl (q_call (args := #[v1, .int .i64 i]) own49 rfl rfl (fun w1 hw1 => Contains_c w1 (Go.K.hp w1) (Hp.le_refl _) (h1.mono hw1.phi))) ?_)))))))))
 refine RW.q (v := .bool (!(decide (i ∈ xs)))) rfl (q_not rfl) (RW.as rfl (RW.nil (Post.then_n (AW.ret ?_))))
 exact fin_val (v' := .bool (!(decide (i ∈ xs)))) rfl rfl rfl (rfl)

set_option maxRecDepth 8000 in
set_option maxHeartbeats 1000000 in
theorem Drifting_c (w : World) (Φ : Hp) (hΦ : Hp.le Φ (hp w)) {b : Bt.Basin} {cs : List Value} (hB : RepV Φ b cs) {hist : List (List Int)} {hv : Value} (hh : RepSl Φ hist hv) :
  Calls Try.prog 16 #[.agg cs.toArray, hv] w (RetS noHp w fun r Ψ => RepSl Ψ (Fu.drift b.Gauges.length hist) r) := by
 obtain ⟨v1, v3, v4, v5, v6, v7, v8, v9, hcs, hBw, r1, r3, r4, r5, r6, r7, r8, r9⟩ := (show Rep.rep Φ b cs from hB)
 subst hcs
 have hpm : b.Places.length * 152 ≤ 140737488355328 := r3.max
 have hgm : b.Gauges.length * 48 ≤ 140737488355328 := r6.max
 refine calls_of_AW (args := [.agg (cl31 b v1 v3 v4 v5 v6 v7 v8 v9).toArray, hv]) Try.func16 rfl (Nat.le_of_ble_eq_true rfl) (St ⟨w, Φ, []⟩ Φ []) (StP.init w Φ hΦ []) ?_
 show AW Try.prog 32 [] _ _ _ [(0, .agg (cl31 b v1 v3 v4 v5 v6 v7 v8 v9).toArray), (1, hv)] _
 have hhm : hist.length * 24 ≤ 140737488355328 := hh.max
 have hle : ((hist.take hist.length).drop (hist.length - 3)) = hist.drop (hist.length - 3) := by rw [List.take_length]
 refine AW.seq (AW.region (RW.eff (fun b1 : Nat => .pointer (some (⟨b1, 0, none⟩))) (fun b1 => St ⟨w, Φ, []⟩ Φ [.blk b1 31 (cl31 b v1 v3 v4 v5 v6 v7 v8 v9)]) rfl (e_boxA (cs := cl31 b v1 v3 v4 v5 v6 v7 v8 v9) rfl) ?_))
 intro b1
 refine RW.as rfl (RW.nil (Post.then_n (AW.seq (AW.seq (AW.region (RW.mv rfl (RW.q (v := .int .i64 ((hist.length : Nat) : Int)) rfl (q_len_sl rfl hh.sl uT38) (RW.q (v := .bool (decide (((hist.length : Nat) : Int) < 3))) rfl (q_lss rfl rfl) (RW.nil ?_)))))))))
 refine Post.then_n (AW.cond (b := decide (((hist.length : Nat) : Int) < 3)) rfl (fun hc1 => ?_) (fun hc1 => ?_))
 ·
  simp [-List.getD_eq_getElem?_getD] at hc1
  refine AW.seq (AW.region (RW.as rfl (RW.nil (Post.then_n (AW.ret (Post.then_r ?_))))))
  rw [show Fu.drift b.Gauges.length hist = [] from if_pos (by omega)]
  refine fin_out1 (v := (.slice none 0 0)) rfl rfl rfl (fun w' hw => ?_)
  exact ⟨_, rfl, hw.below rfl, repSl_nil⟩
 ·
  simp [-List.getD_eq_getElem?_getD] at hc1
  refine AW.skip (Post.then_n (AW.seq (AW.region (RW.mv rfl (RW.mv rfl (RW.q (v := .int .i64 ((hist.length : Nat) : Int)) rfl (q_len_sl rfl hh.sl uT38) (RW.q (v := .int .i64 (((hist.length - 3) : Nat) : Int)) rfl (q_as (v := .int .i64 (((hist.length : Nat) : Int) - 3)) (q_sub rfl rfl (by omega) (by unfold I64; omega)) (congrArg (Value.int .i64) (by omega))) (RW.q (v := (subSl hv (hist.length - 3) hist.length 1)) rfl (q_sliceL (v := hv) (l := (((hist.length - 3) : Nat) : Int)) rfl rfl hh.sl uT38 sz29 (by omega) (by omega)) (RW.as rfl ?_)))))))))
  refine RW.nil (Post.then_n (AW.seq (AW.region (RW.as rfl (RW.nil (Post.then_n (AW.seq (AW.seq (AW.region ?_)))))))))
  refine RW.q (v := .pointer (some (⟨b1, 6, none⟩))) rfl (q_fieldAddr rfl uT31 rfl sz26 rfl) (RW.q (v := v6) rfl (q_load rfl uT26 rfl (Cell.blk 0 rfl rfl)) (RW.q (v := .int .i64 ((b.Gauges.length : Nat) : Int)) rfl (q_len_sl rfl r6.sl uT26) (RW.mv rfl (RW.nil (Post.then_n (AW.block (AW.loop (fun s J m => ∃ (k : Nat), ∃ (M : List Int), ∃ (nv : Value), s = [(2, .pointer (some (⟨b1, 0, none⟩))), (5, (subSl hv (hist.length - 3) hist.length 1)), (18, .int .i64 ((b.Gauges.length : Nat) : Int)), (19, .int .i64 (k : Int)), (6, nv)] ∧ J = St ⟨w, Φ, []⟩ Φ [.row nv 3 1 M.length (M.map (Value.int .i64)), .blk b1 31 (cl31 b v1 v3 v4 v5 v6 v7 v8 v9)] ∧ m = b.Gauges.length - k ∧ (k ≤ b.Gauges.length) ∧ (M = Fu.drI k (hist.drop (hist.length - 3))) ∧ (IsSl nv M.length) ∧ (M.length ≤ k)) (s0 := _) (J1 := _) (m0 := _) ⟨0, [], _, rfl, rfl, rfl, (by omega), rfl, isSl_nil, (by simp)⟩ ⟨rfl, rfl, rfl, rfl, rfl, trivial⟩ (fun _ h => addNil h) ?_)))))))
  rintro _ _ _ _ ⟨k, M, nv, rfl, rfl, rfl, hk, hM, hnv, hMl⟩
  refine AW.seq (AW.region (RW.q (v := .bool (decide ((k : Int) < ((b.Gauges.length : Nat) : Int)))) rfl (q_lss rfl rfl) (RW.nil (Post.then_n (AW.seq (AW.cond (b := decide ((k : Int) < ((b.Gauges.length : Nat) : Int))) rfl (fun hc2 => ?_) (fun hc2 => ?_)))))))
  ·
   simp [-List.getD_eq_getElem?_getD] at hc2
   refine AW.skip (Post.then_n (AW.seq (AW.block (AW.seq (AW.region (RW.mv rfl (RW.eff (fun b2 : Nat => .pointer (some (⟨b2, 0, none⟩))) (fun b2 => St ⟨w, Φ, []⟩ Φ [.blk b2 3 [.int .i64 0], .row nv 3 1 M.length (M.map (Value.int .i64)), .blk b1 31 (cl31 b v1 v3 v4 v5 v6 v7 v8 v9)]) rfl (e_alloc zero3) ?_)))))))
   intro b2
   refine RW.effn (J' := St ⟨w, Φ, []⟩ Φ [.blk b2 3 [.int .i64 (k : Int)], .row nv 3 1 M.length (M.map (Value.int .i64)), .blk b1 31 (cl31 b v1 v3 v4 v5 v6 v7 v8 v9)]) (e_store (v := .int .i64 (k : Int)) 0 rfl rfl rfl sz3 rfl rfl rfl rfl rfl) (RW.nil (Post.then_n (AW.seq (AW.region (RW.mv rfl (RW.q (v := .func (.func 48) #[] #[.pointer (some (⟨b2, 0, none⟩))]) rfl (q_makeFunc rfl rfl) (RW.q (v := .bool (((hist.take hist.length).drop (hist.length - 3)).any fun m => !decide ((k : Int) ∈ m))) rfl (q_call (args := #[(subSl hv (hist.length - 3) hist.length 1), .func (.func 48) #[] #[.pointer (some (⟨b2, 0, none⟩))]]) own47 rfl rfl (fun w1 hw1 => ContainsFunc_c w1 (Go.K.hp w1) (Hp.le_refl _) (p := fun m => !decide ((k : Int) ∈ m)) (capt := #[.pointer (some (⟨b2, 0, none⟩))]) ((hh.part (l := (hist.length - 3)) (m := hist.length) (by omega) (by omega)).mono hw1.phi) own48 (fun w2 hb2 i sv hi hr => Drift1_c w2 (Go.K.hp w2) (Hp.le_refl _) hr ((blk_cell (hw1.sat _ (List.mem_of_getElem? (i := 0) rfl)) rfl).mono (below_le hb2))))) (RW.q (v := .bool (!(((hist.take hist.length).drop (hist.length - 3)).any fun m => !decide ((k : Int) ∈ m)))) rfl (q_not rfl) (RW.nil ?_)))))))))
   refine Post.then_n (AW.cond (b := !(((hist.take hist.length).drop (hist.length - 3)).any fun m => !decide ((k : Int) ∈ m))) rfl (fun hc3 => ?_) (fun hc3 => ?_))
   ·
    simp [-List.getD_eq_getElem?_getD] at hc3
    refine AW.region (RW.mv rfl (RW.q (v := .int .i64 (k : Int)) rfl (q_load rfl uT3 rfl (Cell.blk 0 rfl rfl)) (RW.eff (fun b3 : Nat => (.slice (some ⟨b3, 0, none⟩) 1 1)) (fun b3 => St ⟨w, Φ, []⟩ Φ [.row (.slice (some ⟨b3, 0, none⟩) 1 1) 3 1 1 ([.int .i64 (k : Int)]), .blk b2 3 [.int .i64 (k : Int)], .row nv 3 1 M.length (M.map (Value.int .i64)), .blk b1 31 (cl31 b v1 v3 v4 v5 v6 v7 v8 v9)]) rfl (e_buildSlice (vals := [(0, .int .i64 (k : Int))]) (cells := [.int .i64 (k : Int)]) uT29 inf3 rfl rfl rfl (by kernel_rfl) rfl) ?_)))
    intro b3
    refine RW.eff (fun xv : {vq : Value // IsSl vq (M.length + 1)} => xv.1) (fun xv => St ⟨w, Φ, []⟩ Φ [.row (.slice (some ⟨b3, 0, none⟩) 1 1) 3 1 1 ([.int .i64 (k : Int)]), .blk b2 3 [.int .i64 (k : Int)], .row xv.1 3 1 ((M ++ [(k : Int)]).length) ((M ++ [(k : Int)]).map (Value.int .i64)), .blk b1 31 (cl31 b v1 v3 v4 v5 v6 v7 v8 v9)]) rfl (e_append 2 rfl rfl rfl uT29 inf3 rfl rfl rfl (Cells.row0 0 rfl) rfl (by first | omega | (simp; omega)) (by first | omega | (simp; omega)) (fun _ => by simp)) ?_
    rintro ⟨va1, hva1⟩
    refine RW.wk (J' := St ⟨w, Φ, []⟩ Φ [.blk b2 3 [.int .i64 (k : Int)], .row va1 3 1 ((M ++ [(k : Int)]).length) ((M ++ [(k : Int)]).map (Value.int .i64)), .blk b1 31 (cl31 b v1 v3 v4 v5 v6 v7 v8 v9)]) (fun _ h => StP.drop h (by exact .cons _ (.cons_cons _ (.cons_cons _ (.cons_cons _ (.slnil)))))) (RW.as rfl (RW.nil (Post.blk_n (Post.then_n ?_))))
    refine AW.region (RW.q (v := .int .i64 ((k + 1 : Nat) : Int)) rfl (q_add rfl rfl (by omega) (by unfold I64; omega)) (RW.mv rfl (RW.nil ?_)))
    have hall : ((hist.drop (hist.length - 3)).all fun m => decide (((k : Nat) : Int) ∈ m)) = true := by rw [← Fu.not_any, ← hle]; simpa using hc3
    exact Post.back (s' := _) (J' := _) (m' := _) (by omega) ⟨k + 1, M ++ [((k : Nat) : Int)], va1, rfl, rfl, rfl, (by omega), (by rw [Fu.drI_succ, if_pos hall, hM]), (by simpa using hva1), (by simp; omega)⟩ ⟨rfl, rfl, rfl, rfl, rfl, trivial⟩ (fun _ h => StP.drop h (by exact .cons _ (.cons_cons _ (.cons_cons _ (.slnil)))))
   ·
    simp [-List.getD_eq_getElem?_getD] at hc3
    refine AW.skip (Post.blk_n (Post.then_n ?_))
    refine AW.region (RW.q (v := .int .i64 ((k + 1 : Nat) : Int)) rfl (q_add rfl rfl (by omega) (by unfold I64; omega)) (RW.mv rfl (RW.nil ?_)))
    have hall : ¬ ((hist.drop (hist.length - 3)).all fun m => decide (((k : Nat) : Int) ∈ m)) = true := by rw [← Fu.not_any, ← hle]; simpa using hc3
    exact Post.back (s' := _) (J' := _) (m' := _) (by omega) ⟨k + 1, M, nv, rfl, rfl, rfl, (by omega), (by rw [Fu.drI_succ, if_neg hall, hM]), hnv, (by omega)⟩ ⟨rfl, rfl, rfl, rfl, rfl, trivial⟩ (fun _ h => StP.drop h (by exact .cons _ (.cons_cons _ (.cons_cons _ (.slnil)))))
  ·
   simp [-List.getD_eq_getElem?_getD] at hc2
   refine AW.exit (Post.then_x (Post.then_x (Post.blk_hit (Post.then_n ?_))))
   refine AW.seq (AW.region (RW.mv rfl (RW.as rfl (RW.nil (Post.then_n (AW.ret ?_))))))
   have hMe : Fu.drift b.Gauges.length hist = M := by rw [Fu.drift_eq (by omega), hM, show k = b.Gauges.length by omega]
   rw [hMe]
   refine fin_out1 (v := nv) rfl rfl rfl (fun w' hw => ?_)
   refine ⟨_, rfl, hw.below rfl, RowS.ints (row_ext hw 0 rfl) (by simp only [maxSl]; omega) (fun x hx => ?_)⟩
   rw [hM] at hx
   have h9 := Fu.drI_rng hx
   unfold I64; omega

end Go.Proofs.Ytblfeidlnhdekaa
