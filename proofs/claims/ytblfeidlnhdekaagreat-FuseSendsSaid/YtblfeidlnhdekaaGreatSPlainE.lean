/- Lemmas. Conditions: those of each theorem. -/
import Derived.Test.YtblfeidlnhdekaaGreatSPlainD
set_option maxRecDepth 8000
set_option maxHeartbeats 16000000
namespace Go.Proofs.YtblfeidlnhdekaaGreat
open Go Go.K Go.RowKit
attribute [local irreducible] AW RW DW Post Qt
theorem narV_at {B : Bs} {Φ : Hp} {C : List Chunk} (hBE : B.E = []) {v : Value} {n : Nat} {L : List Bt.Span} (hv : IsSl v n) (hL : L.length = n) (hn : n ≤ 1000000) {i : Nat} {lo hi : Int} (hi_ : i < n) (j : Nat) (hj : C[j]? = some (.row v 51 2 n (flat L))) {C' : List Chunk} (hC : C.set j (.row v 51 2 n (flat (Fu.narV L i lo hi))) = C') (w : World) (hW : (St B Φ C).p w) :
  Calls pg 36 #[v, iV (i : Int), .func (.func 37) #[] #[], .agg #[iV lo, iV hi]] w fun e w' => ∃ _ : Unit, e = .returned (.bool (Fu.meet (L.getD i default).Lo (L.getD i default).Hi lo hi).isSome) ∧ (St B Φ C').p w' :=
 (narV_c hBE hv hL hn hi_ w (StP.frontAt hW j hj)).mono fun _ _ ⟨_, he, hw⟩ => ⟨(), he, StP.backAt j hj hC hw⟩
theorem narL_at {B : Bs} {Φ : Hp} {C : List Chunk} (hBE : B.E = []) {v : Value} {n : Nat} {L : List Bt.Known} (hv : IsSl v n) (hL : L.length = n) (hn : n ≤ 1000000) {i : Nat} {lo hi : Int} (hi_ : i < n) (j : Nat) (hj : C[j]? = some (.row v 101 5 n (flat L))) {C' : List Chunk} (hC : C.set j (.row v 101 5 n (flat (Fu.narL L i lo hi))) = C') (w : World) (hW : (St B Φ C).p w) :
  Calls pg 38 #[v, iV (i : Int), .func (.func 39) #[] #[], .agg #[iV lo, iV hi]] w fun e w' => ∃ _ : Unit, e = .returned (.bool (Fu.meet (L.getD i default).Pos.Lo (L.getD i default).Pos.Hi lo hi).isSome) ∧ (St B Φ C').p w' :=
 (narL_c hBE hv hL hn hi_ w (StP.frontAt hW j hj)).mono fun _ _ ⟨_, he, hw⟩ => ⟨(), he, StP.backAt j hj hC hw⟩
theorem Fuse_c (w : World) (Φ : Hp) (hΦ : Hp.le Φ (hp w)) {b : Bt.Basin} {cs : List Value} (hB : RepV Φ b cs) {h : Bt.Hull} {hcs : List Value} (hH : RepV Φ h hcs) {l : List Bt.Reading} {lv : Value} (hl : RepSl Φ l lv) (hll : l.length ≤ 100000) (hfV : h.Vol.length ≤ 1000) (_ : h.Queue.length ≤ 1000) (hfK : h.Links.length ≤ 1000) :
  Calls pg 8 #[.agg cs.toArray, .agg hcs.toArray, lv] w (RetS noHp w fun r Ψ => ∃ va vb vc vd, r = .tuple #[.agg #[iV h.Hour, va, vb, vc], vd] ∧ RepSl Ψ (Fu.fuse b h l).V va ∧ RepSl Ψ h.Queue vb ∧ RepSl Ψ (Fu.fuse b h l).K vc ∧ RepSl Ψ (Fu.comp (Fu.fuse b h l).N) vd) := by
 obtain ⟨v1, v3, v4, v5, v6, v7, v8, v9, hcs, hBw, r1, r3, r4, r5, r6, r7, r8, r9⟩ := (show Rep.rep Φ b cs from hB)
 subst hcs
 have hpm : b.Places.length * 152 ≤ 140737488355328 := r3.max
 have hgm : b.Gauges.length * 48 ≤ 140737488355328 := r6.max
 obtain ⟨hv1, hv2, hv3, hhcs, hhw, hr1, hr2, hr3⟩ := (show Rep.rep Φ h hcs from hH)
 subst hhcs
 have hm1 : h.Vol.length * 16 ≤ 140737488355328 := hr1.max
 have hm2 : h.Queue.length * 32 ≤ 140737488355328 := hr2.max
 have hm3 : h.Links.length * 40 ≤ 140737488355328 := hr3.max
 refine in3 126 Tryz.func8 rfl rfl hΦ ?_
 have hlm : l.length * 32 ≤ 140737488355328 := hl.max
 refine gs2 ?_
 refine RW.bxA rfl rfl fun b1 => ?_
 refine RW.bxA rfl rfl fun b2 => ?_
 refine RW.alc rfl fun b3 => ?_
 refine gs7 ?_
 refine RW.ec rfl (fun w1 hw1 => cloneV_c rfl hr1 w1 hw1) rfl rfl ?_
 rintro ⟨cv1, hcv1⟩
 refine gs1 ?_
 refine RW.effn (J' := St ⟨w, Φ, []⟩ Φ [.row cv1 51 2 h.Vol.length (flat h.Vol), .blk b3 41 [iV 0, nS, nS, nS], .blk b2 41 [iV h.Hour, cv1, hv2, hv3], .blk b1 31 (cl31 b v1 v3 v4 v5 v6 v7 v8 v9)]) (e_storeSl (v := cv1) 2 rfl rfl rfl hcv1 sz37 rfl rfl rfl) ?_
 refine gs6 ?_
 refine RW.ec rfl (fun w1 hw1 => cloneQ_c rfl hr2 w1 hw1) rfl rfl ?_
 rintro ⟨cv2, hcv2⟩
 refine gs1 ?_
 refine RW.effn (J' := St ⟨w, Φ, []⟩ Φ [.row cv2 98 4 h.Queue.length (flat h.Queue), .row cv1 51 2 h.Vol.length (flat h.Vol), .blk b3 41 [iV 0, nS, nS, nS], .blk b2 41 [iV h.Hour, cv1, cv2, hv3], .blk b1 31 (cl31 b v1 v3 v4 v5 v6 v7 v8 v9)]) (e_storeSl (v := cv2) 3 rfl rfl rfl hcv2 sz38 rfl rfl rfl) ?_
 refine gs6 ?_
 refine RW.ec rfl (fun w1 hw1 => cloneL_c rfl hr3 w1 hw1) rfl rfl ?_
 rintro ⟨cv3, hcv3⟩
 refine gs1 ?_
 refine RW.effn (J' := St ⟨w, Φ, []⟩ Φ [.row cv3 101 5 h.Links.length (flat h.Links), .row cv2 98 4 h.Queue.length (flat h.Queue), .row cv1 51 2 h.Vol.length (flat h.Vol), .blk b3 41 [iV 0, nS, nS, nS], .blk b2 41 [iV h.Hour, cv1, cv2, cv3], .blk b1 31 (cl31 b v1 v3 v4 v5 v6 v7 v8 v9)]) (e_storeSl (v := cv3) 4 rfl rfl rfl hcv3 sz39 rfl rfl rfl) ?_
 refine gs16 ?_
 refine AW.loop (fun s J m => ∃ (k : Nat), ∃ (M : List Bt.Reading), ∃ (nv : Value), s = [(3, pV b1 0), (4, pV b2 0), (6, pV b3 0), (31, lv), (32, iV (l.length : Int)), (8, nv), (33, iV (k : Int))] ∧ J = St ⟨w, Φ, []⟩ Φ [.row nv 53 4 M.length (flat M), .row cv3 101 5 h.Links.length (flat h.Links), .row cv2 98 4 h.Queue.length (flat h.Queue), .row cv1 51 2 h.Vol.length (flat h.Vol), .blk b3 41 [iV 0, nS, nS, nS], .blk b2 41 [iV h.Hour, cv1, cv2, cv3], .blk b1 31 (cl31 b v1 v3 v4 v5 v6 v7 v8 v9)] ∧ m = l.length - k ∧ (k ≤ l.length) ∧ (M = Fu.atH h.Hour (l.take k)) ∧ (IsSl nv M.length) ∧ (M.length ≤ k)) (s0 := _) (J1 := _) (m0 := _) ⟨0, [], _, rfl, rfl, rfl, (by omega), rfl, isSl_nil, (by simp)⟩ ⟨rfl, rfl, rfl, rfl, rfl, rfl, rfl, trivial⟩ (fun _ h => addNil h) ?_
 rintro _ _ _ _ ⟨k, M, nv, rfl, rfl, rfl, hk, hM, hnv, hMl⟩
 refine gs6 ?_
 refine AW.cond rfl (fun hc1 => ?_) fun hc1 => ?_
 ·
  simp [-List.getD_eq_getElem?_getD] at hc1
  refine gs7 ?_
  refine RW.q (v := .agg (cl53 (l.getD k default)).toArray) rfl (q_loadAgg rfl uT53 rfl sz53 rfl (Cells.repE hl (by omega) rfl)) ?_
  refine RW.alc rfl fun b4 => ?_
  refine gs12 ?_
  refine AW.cond rfl (fun hc2 => ?_) fun hc2 => ?_
  ·
   simp [-List.getD_eq_getElem?_getD] at hc2
   refine gs3 ?_
   refine RW.eff (fun b5 : Nat => (.slice (some ⟨b5, 0, none⟩) 1 1)) (fun b5 => St ⟨w, Φ, []⟩ Φ [.row (.slice (some ⟨b5, 0, none⟩) 1 1) 53 4 1 ([iV ((l.getD k default).Gauge), iV ((l.getD k default).Hour), iV ((l.getD k default).Value.Lo), iV ((l.getD k default).Value.Hi)]), .blk b4 53 (cl53 (l.getD k default)), .row nv 53 4 M.length (flat M), .row cv3 101 5 h.Links.length (flat h.Links), .row cv2 98 4 h.Queue.length (flat h.Queue), .row cv1 51 2 h.Vol.length (flat h.Vol), .blk b3 41 [iV 0, nS, nS, nS], .blk b2 41 [iV h.Hour, cv1, cv2, cv3], .blk b1 31 (cl31 b v1 v3 v4 v5 v6 v7 v8 v9)]) rfl (e_buildSlice (vals := [(0, .agg (cl53 (l.getD k default)).toArray)]) (cells := [iV ((l.getD k default).Gauge), iV ((l.getD k default).Hour), iV ((l.getD k default).Value.Lo), iV ((l.getD k default).Value.Hi)]) uT58 inf53 rfl rfl rfl (by kernel_rfl) rfl) ?_
   intro b5
   refine RW.eff (fun xv : {vq : Value // IsSl vq (M.length + 1)} => xv.1) (fun xv => St ⟨w, Φ, []⟩ Φ [.row (.slice (some ⟨b5, 0, none⟩) 1 1) 53 4 1 ([iV ((l.getD k default).Gauge), iV ((l.getD k default).Hour), iV ((l.getD k default).Value.Lo), iV ((l.getD k default).Value.Hi)]), .blk b4 53 (cl53 (l.getD k default)), .row xv.1 53 4 ((M ++ [(⟨(l.getD k default).Gauge, (l.getD k default).Hour, ⟨(l.getD k default).Value.Lo, (l.getD k default).Value.Hi⟩⟩ : Bt.Reading)]).length) (flat (M ++ [(⟨(l.getD k default).Gauge, (l.getD k default).Hour, ⟨(l.getD k default).Value.Lo, (l.getD k default).Value.Hi⟩⟩ : Bt.Reading)])), .row cv3 101 5 h.Links.length (flat h.Links), .row cv2 98 4 h.Queue.length (flat h.Queue), .row cv1 51 2 h.Vol.length (flat h.Vol), .blk b3 41 [iV 0, nS, nS, nS], .blk b2 41 [iV h.Hour, cv1, cv2, cv3], .blk b1 31 (cl31 b v1 v3 v4 v5 v6 v7 v8 v9)]) rfl (e_append 2 rfl rfl rfl uT58 inf53 rfl rfl rfl (Cells.row0 0 rfl) rfl (by omega) (by omega) (fun _ => by simp [flat] <;> rfl)) ?_
   rintro ⟨va1, hva1⟩
   refine RW.wk (J' := St ⟨w, Φ, []⟩ Φ [.blk b4 53 (cl53 (l.getD k default)), .row va1 53 4 ((M ++ [(⟨(l.getD k default).Gauge, (l.getD k default).Hour, ⟨(l.getD k default).Value.Lo, (l.getD k default).Value.Hi⟩⟩ : Bt.Reading)]).length) (flat (M ++ [(⟨(l.getD k default).Gauge, (l.getD k default).Hour, ⟨(l.getD k default).Value.Lo, (l.getD k default).Value.Hi⟩⟩ : Bt.Reading)])), .row cv3 101 5 h.Links.length (flat h.Links), .row cv2 98 4 h.Queue.length (flat h.Queue), .row cv1 51 2 h.Vol.length (flat h.Vol), .blk b3 41 [iV 0, nS, nS, nS], .blk b2 41 [iV h.Hour, cv1, cv2, cv3], .blk b1 31 (cl31 b v1 v3 v4 v5 v6 v7 v8 v9)]) (fun _ h => StP.drop h (by exact .cons _ (.cons_cons _ (.cons_cons _ (.cons_cons _ (.cons_cons _ (.cons_cons _ (.cons_cons _ (.cons_cons _ (.cons_cons _ (.slnil))))))))))) ?_
   refine gs8 ?_
   have hkl : k < l.length := by omega
   exact Post.bk ⟨k + 1, M ++ [(l.getD k default)], va1, rfl, rfl, rfl, (by omega), (by rw [Fu.atH_snoc hkl, if_pos hc2, hM]), (by simpa using hva1), (by simp; omega)⟩
  ·
   simp [-List.getD_eq_getElem?_getD] at hc2
   refine gs7 ?_
   have hkl : k < l.length := by omega
   exact Post.bk ⟨k + 1, M, nv, rfl, rfl, rfl, (by omega), (by rw [Fu.atH_snoc hkl, if_neg hc2, hM]), hnv, (by omega)⟩
 ·
  simp [-List.getD_eq_getElem?_getD] at hc1
  refine gs8 ?_
  refine RW.ec rfl (fun w1 hw1 => sortStable_c rfl hnv rfl (by omega) w1 hw1) rfl rfl ?_
  rintro ⟨K1, hK1⟩
  refine gs9 ?_
  have hsl : K1.length = M.length := hK1.1.len (Nat.zero_le _)
  have hMM : M = Fu.atH h.Hour l := by rw [hM, List.take_of_length_le (by omega)]
  have hrw := hl.wfE
  have hVw0 := hr1.wfE
  have hKw0 := hr3.wfE
  have hsw : ∀ x ∈ K1, RepE.wf x := fun x hx => hrw x (by have h9 := (hK1.1.mid.symm.mem (x := x)) (by rw [← hsl, Sorts.seg_all]; exact hx); rw [Sorts.seg_all, hMM] at h9; exact (List.mem_filter.1 h9).1)
  refine gs7 ?_
  refine AW.loop (fun s J m => ∃ (k : Nat), ∃ (F : Fu.FS), ∃ (zv : Value), s = [(3, pV b1 0), (4, pV b2 0), (6, pV b3 0), (49, nv), (50, iV (M.length : Int)), (11, zv), (51, iV (k : Int))] ∧ J = St ⟨w, Φ, []⟩ Φ [.row zv 3 1 F.N.length (F.N.map (Value.int .i64)), .row nv 53 4 M.length (flat K1), .row cv3 101 5 h.Links.length (flat F.K), .row cv2 98 4 h.Queue.length (flat h.Queue), .row cv1 51 2 h.Vol.length (flat F.V), .blk b3 41 [iV 0, nS, nS, nS], .blk b2 41 [iV h.Hour, cv1, cv2, cv3], .blk b1 31 (cl31 b v1 v3 v4 v5 v6 v7 v8 v9)] ∧ m = M.length - k ∧ (k ≤ M.length) ∧ (F = (K1.take k).foldl (Fu.stepF b) ⟨h.Vol, h.Links, []⟩) ∧ (IsSl zv F.N.length) ∧ (F.N.length ≤ k) ∧ (F.V.length = h.Vol.length) ∧ (F.K.length = h.Links.length) ∧ (∀ x ∈ F.V, RepE.wf x) ∧ (∀ x ∈ F.K, RepE.wf x) ∧ (∀ x ∈ F.N, I64 x)) (s0 := _) (J1 := _) (m0 := _) ⟨0, ⟨h.Vol, h.Links, []⟩, _, rfl, rfl, rfl, (by omega), rfl, isSl_nil, (by simp), rfl, rfl, hVw0, hKw0, (fun x hx => by cases hx)⟩ ⟨rfl, rfl, rfl, rfl, rfl, rfl, rfl, trivial⟩ (fun _ h => addNil h) ?_
  rintro _ _ _ _ ⟨k, F, zv, rfl, rfl, rfl, hk2, hF, hzv, hNl, hVl, hKl, hVw, hKw, hNw⟩
  refine gs6 ?_
  refine AW.cond rfl (fun hc3 => ?_) fun hc3 => ?_
  ·
   simp [-List.getD_eq_getElem?_getD] at hc3
   refine gs5 ?_
   have hks : k < K1.length := by omega
   have hsk : RepE.wf (K1.getD k default) := hsw _ (Fu.getD_mem hks)
   refine gs2 ?_
   refine RW.q (v := .agg #[iV ((K1.getD k default).Gauge), iV ((K1.getD k default).Hour), iV ((K1.getD k default).Value.Lo), iV ((K1.getD k default).Value.Hi)]) rfl (q_loadAgg rfl uT53 rfl sz53 rfl (Cells.rowE even53 1 rfl (by omega) rfl)) ?_
   refine RW.alc rfl fun b6 => ?_
   refine gs7 ?_
   refine RW.c rfl (fun w1 hw1 => gaugeOf_c w1 (Go.K.hp w1) (Hp.le_refl _) (hB.mono hw1.phi) (r := (K1.getD k default))) rfl rfl (RW.q rfl (q_move rfl) ?_)
   refine gs2 ?_
   refine RW.alc rfl fun b7 => ?_
   refine gs19 ?_
   refine RW.pkO rfl rfl rfl rfl fun qb1 hqb1 => ?_
   refine gs1 ?_
   subst hqb1
   refine gs2 ?_
   refine AW.cond rfl (fun hc4 => ?_) fun hc4 => ?_
   ·
    simp [-List.getD_eq_getElem?_getD] at hc4
    refine gs6 ?_
    refine RW.q (v := .bool false) rfl (q_not (b := true) rfl) ?_
    refine gs2 ?_
    refine AW.condF rfl ?_
    refine gs7 ?_
    exact Post.bk ⟨k + 1, F, zv, rfl, rfl, rfl, (by omega), (by rw [Fu.foldl_takeR _ _ hks, ← hF]; exact (Fu.step0 (Fu.kind0 hc4)).symm), hzv, (by omega), hVl, hKl, hVw, hKw, hNw⟩
   ·
    simp [-List.getD_eq_getElem?_getD] at hc4
    refine gs12 ?_
    refine RW.pkA rfl rfl rfl rfl fun qb2 hqb2 => ?_
    refine gs1 ?_
    subst hqb2
    refine gs2 ?_
    refine AW.cond rfl (fun hc6 => ?_) fun hc6 => ?_
    ·
     simp [-List.getD_eq_getElem?_getD] at hc6
     refine gs4 ?_
     refine RW.c rfl (fun w1 hw1 => Volume_c w1 (Go.K.hp w1) (Hp.le_refl _) (hB.mono hw1.phi) (r := (K1.getD k default)) hsk.2.2) rfl rfl (RW.q rfl (q_move rfl) ?_)
     refine gs2 ?_
     refine RW.alc rfl fun b8 => ?_
     refine gs4 ?_
     cases hsp1 : (Fu.volR b (K1.getD k default)).isSome
     ·
      refine gs3 ?_
      refine RW.g (b := false) (v := undef) rfl rfl rfl (fun h => nomatch h) (RW.g (b := false) (v := undef) rfl rfl rfl (fun h => nomatch h) (RW.g (b := false) (v := undef) rfl rfl rfl (fun h => nomatch h) (RW.g (b := false) (v := undef) rfl rfl rfl (fun h => nomatch h) (RW.g (b := false) (v := undef) rfl rfl rfl (fun h => nomatch h) (RW.g (b := false) (v := undef) rfl rfl rfl (fun h => nomatch h) (RW.q (v := .bool false) rfl (q_pick (t := false) rfl (fun hp => nomatch hp) (fun _ => rfl)) ?_))))))
      refine gs7 ?_
      refine RW.q (v := .bool true) rfl (q_not (b := false) rfl) ?_
      refine gs2 ?_
      refine AW.condT rfl ?_
      refine gs4 ?_
      refine RW.eff (fun b9 : Nat => (.slice (some ⟨b9, 0, none⟩) 1 1)) (fun b9 => St ⟨w, Φ, []⟩ Φ [.row (.slice (some ⟨b9, 0, none⟩) 1 1) 3 1 1 ([iV ((K1.getD k default).Gauge)]), .blk b8 51 [iV (Fu.loOf (Fu.volR b (K1.getD k default))), iV (Fu.hiOf (Fu.volR b (K1.getD k default)))], .blk b7 49 [.string ((Fu.gaugeAt b.Gauges ((K1.getD k default).Gauge)).Name), iV ((Fu.gaugeAt b.Gauges ((K1.getD k default).Gauge)).Kind), iV ((Fu.gaugeAt b.Gauges ((K1.getD k default).Gauge)).Target), iV ((Fu.gaugeAt b.Gauges ((K1.getD k default).Gauge)).Err), iV ((Fu.gaugeAt b.Gauges ((K1.getD k default).Gauge)).Drift)], .blk b6 53 [iV ((K1.getD k default).Gauge), iV ((K1.getD k default).Hour), iV ((K1.getD k default).Value.Lo), iV ((K1.getD k default).Value.Hi)], .row zv 3 1 F.N.length (F.N.map (Value.int .i64)), .row nv 53 4 M.length (flat K1), .row cv3 101 5 h.Links.length (flat F.K), .row cv2 98 4 h.Queue.length (flat h.Queue), .row cv1 51 2 h.Vol.length (flat F.V), .blk b3 41 [iV 0, nS, nS, nS], .blk b2 41 [iV h.Hour, cv1, cv2, cv3], .blk b1 31 (cl31 b v1 v3 v4 v5 v6 v7 v8 v9)]) rfl (e_buildSlice (vals := [(0, iV ((K1.getD k default).Gauge))]) (cells := [iV ((K1.getD k default).Gauge)]) uT29 inf3 rfl rfl rfl (by kernel_rfl) rfl) ?_
      intro b9
      refine RW.eff (fun xv : {vq : Value // IsSl vq (F.N.length + 1)} => xv.1) (fun xv => St ⟨w, Φ, []⟩ Φ [.row (.slice (some ⟨b9, 0, none⟩) 1 1) 3 1 1 ([iV ((K1.getD k default).Gauge)]), .blk b8 51 [iV (Fu.loOf (Fu.volR b (K1.getD k default))), iV (Fu.hiOf (Fu.volR b (K1.getD k default)))], .blk b7 49 [.string ((Fu.gaugeAt b.Gauges ((K1.getD k default).Gauge)).Name), iV ((Fu.gaugeAt b.Gauges ((K1.getD k default).Gauge)).Kind), iV ((Fu.gaugeAt b.Gauges ((K1.getD k default).Gauge)).Target), iV ((Fu.gaugeAt b.Gauges ((K1.getD k default).Gauge)).Err), iV ((Fu.gaugeAt b.Gauges ((K1.getD k default).Gauge)).Drift)], .blk b6 53 [iV ((K1.getD k default).Gauge), iV ((K1.getD k default).Hour), iV ((K1.getD k default).Value.Lo), iV ((K1.getD k default).Value.Hi)], .row xv.1 3 1 ((F.N ++ [(K1.getD k default).Gauge]).length) ((F.N ++ [(K1.getD k default).Gauge]).map (Value.int .i64)), .row nv 53 4 M.length (flat K1), .row cv3 101 5 h.Links.length (flat F.K), .row cv2 98 4 h.Queue.length (flat h.Queue), .row cv1 51 2 h.Vol.length (flat F.V), .blk b3 41 [iV 0, nS, nS, nS], .blk b2 41 [iV h.Hour, cv1, cv2, cv3], .blk b1 31 (cl31 b v1 v3 v4 v5 v6 v7 v8 v9)]) rfl (e_append 4 rfl rfl rfl uT29 inf3 rfl rfl rfl (Cells.row0 0 rfl) rfl (by omega) (by omega) (fun _ => by simp)) ?_
      rintro ⟨va2, hva2⟩
      refine RW.wk (J' := St ⟨w, Φ, []⟩ Φ [.blk b8 51 [iV (Fu.loOf (Fu.volR b (K1.getD k default))), iV (Fu.hiOf (Fu.volR b (K1.getD k default)))], .blk b7 49 [.string ((Fu.gaugeAt b.Gauges ((K1.getD k default).Gauge)).Name), iV ((Fu.gaugeAt b.Gauges ((K1.getD k default).Gauge)).Kind), iV ((Fu.gaugeAt b.Gauges ((K1.getD k default).Gauge)).Target), iV ((Fu.gaugeAt b.Gauges ((K1.getD k default).Gauge)).Err), iV ((Fu.gaugeAt b.Gauges ((K1.getD k default).Gauge)).Drift)], .blk b6 53 [iV ((K1.getD k default).Gauge), iV ((K1.getD k default).Hour), iV ((K1.getD k default).Value.Lo), iV ((K1.getD k default).Value.Hi)], .row va2 3 1 ((F.N ++ [(K1.getD k default).Gauge]).length) ((F.N ++ [(K1.getD k default).Gauge]).map (Value.int .i64)), .row nv 53 4 M.length (flat K1), .row cv3 101 5 h.Links.length (flat F.K), .row cv2 98 4 h.Queue.length (flat h.Queue), .row cv1 51 2 h.Vol.length (flat F.V), .blk b3 41 [iV 0, nS, nS, nS], .blk b2 41 [iV h.Hour, cv1, cv2, cv3], .blk b1 31 (cl31 b v1 v3 v4 v5 v6 v7 v8 v9)]) (fun _ h => StP.drop h (by exact .cons _ (.cons_cons _ (.cons_cons _ (.cons_cons _ (.cons_cons _ (.cons_cons _ (.cons_cons _ (.cons_cons _ (.cons_cons _ (.cons_cons _ (.cons_cons _ (.cons_cons _ (.slnil)))))))))))))) ?_
      refine gs8 ?_
      have hc4n : ¬ (¬ Fu.inG b.Gauges (K1.getD k default).Gauge ∨ (Fu.gaugeAt b.Gauges (K1.getD k default).Gauge).Target < 0) := fun h9 => h9.elim (fun h8 => h8 hc4.1) (fun h8 => by have := hc4.2; omega)
      have hkd : Fu.kindOf b F.V.length F.K.length (K1.getD k default) = 1 := Fu.kind1 hc4n (by rw [hVl]; exact hc6)
      have hok : Fu.okV b F.V (K1.getD k default) = false := by unfold Fu.okV; rw [hsp1]; rfl
      exact Post.bk ⟨k + 1, ⟨F.V, F.K, F.N ++ [(K1.getD k default).Gauge]⟩, va2, rfl, rfl, rfl, (by omega), (by rw [Fu.foldl_takeR _ _ hks, ← hF]; exact (Fu.step1n hkd hok).symm), (by simpa using hva2), (by simp; omega), hVl, hKl, hVw, hKw, (mem_snoc hNw hsk.1)⟩
     ·
      refine gs6 ?_
      refine RW.gl (v := iV (((Fu.gaugeAt b.Gauges (K1.getD k default).Gauge).Target.toNat : Nat) : Int)) rfl rfl rfl (q_as (v := iV ((Fu.gaugeAt b.Gauges ((K1.getD k default).Gauge)).Target)) (q_load rfl uT3 rfl (Cell.blk 1 rfl rfl)) (congrArg (Value.int .i64) ((Int.toNat_of_nonneg hc4.2).symm))) ?_
      refine gs1 ?_
      refine RW.effg (fun u1 : Unit => .bool ((Fu.meet (F.V.getD ((Fu.gaugeAt b.Gauges (K1.getD k default).Gauge).Target.toNat) default).Lo (F.V.getD ((Fu.gaugeAt b.Gauges (K1.getD k default).Gauge).Target.toNat) default).Hi (Fu.loOf (Fu.volR b (K1.getD k default))) (Fu.hiOf (Fu.volR b (K1.getD k default)))).isSome)) (fun u1 => St ⟨w, Φ, []⟩ Φ [.blk b8 51 [iV (Fu.loOf (Fu.volR b (K1.getD k default))), iV (Fu.hiOf (Fu.volR b (K1.getD k default)))], .blk b7 49 [.string ((Fu.gaugeAt b.Gauges ((K1.getD k default).Gauge)).Name), iV ((Fu.gaugeAt b.Gauges ((K1.getD k default).Gauge)).Kind), iV ((Fu.gaugeAt b.Gauges ((K1.getD k default).Gauge)).Target), iV ((Fu.gaugeAt b.Gauges ((K1.getD k default).Gauge)).Err), iV ((Fu.gaugeAt b.Gauges ((K1.getD k default).Gauge)).Drift)], .blk b6 53 [iV ((K1.getD k default).Gauge), iV ((K1.getD k default).Hour), iV ((K1.getD k default).Value.Lo), iV ((K1.getD k default).Value.Hi)], .row zv 3 1 F.N.length (F.N.map (Value.int .i64)), .row nv 53 4 M.length (flat K1), .row cv3 101 5 h.Links.length (flat F.K), .row cv2 98 4 h.Queue.length (flat h.Queue), .row cv1 51 2 h.Vol.length (flat (Fu.narV F.V ((Fu.gaugeAt b.Gauges (K1.getD k default).Gauge).Target.toNat) (Fu.loOf (Fu.volR b (K1.getD k default))) (Fu.hiOf (Fu.volR b (K1.getD k default))))), .blk b3 41 [iV 0, nS, nS, nS], .blk b2 41 [iV h.Hour, cv1, cv2, cv3], .blk b1 31 (cl31 b v1 v3 v4 v5 v6 v7 v8 v9)]) rfl rfl rfl (e_call (args := #[cv1, iV (((Fu.gaugeAt b.Gauges (K1.getD k default).Gauge).Target.toNat : Nat) : Int), .func (.func 37) #[] #[], .agg #[iV (Fu.loOf (Fu.volR b (K1.getD k default))), iV (Fu.hiOf (Fu.volR b (K1.getD k default)))]]) oK rfl rfl (fun w1 hw1 => narV_at (i := (Fu.gaugeAt b.Gauges (K1.getD k default).Gauge).Target.toNat) rfl hcv1 (by omega) (by omega) (by omega) 7 rfl rfl w1 hw1)) ?_
      intro u1
      obtain ⟨qb3, hqb3⟩ : ∃ z : Bool, ((Fu.meet (F.V.getD ((Fu.gaugeAt b.Gauges (K1.getD k default).Gauge).Target.toNat) default).Lo (F.V.getD ((Fu.gaugeAt b.Gauges (K1.getD k default).Gauge).Target.toNat) default).Hi (Fu.loOf (Fu.volR b (K1.getD k default))) (Fu.hiOf (Fu.volR b (K1.getD k default)))).isSome) = z := ⟨_, rfl⟩
      refine RW.q (v := .bool qb3) rfl (q_as (v := .bool ((Fu.meet (F.V.getD ((Fu.gaugeAt b.Gauges (K1.getD k default).Gauge).Target.toNat) default).Lo (F.V.getD ((Fu.gaugeAt b.Gauges (K1.getD k default).Gauge).Target.toNat) default).Hi (Fu.loOf (Fu.volR b (K1.getD k default))) (Fu.hiOf (Fu.volR b (K1.getD k default)))).isSome)) (q_pick (t := true) rfl (fun _ => rfl) (fun hp => nomatch hp)) (congrArg Value.bool hqb3)) ?_
      refine gs1 ?_
      subst hqb3
      refine gs9 ?_
      refine AW.cond rfl (fun hc8 => ?_) fun hc8 => ?_
      ·
       simp [-List.getD_eq_getElem?_getD] at hc8
       refine gs4 ?_
       refine RW.eff (fun b10 : Nat => (.slice (some ⟨b10, 0, none⟩) 1 1)) (fun b10 => St ⟨w, Φ, []⟩ Φ [.row (.slice (some ⟨b10, 0, none⟩) 1 1) 3 1 1 ([iV ((K1.getD k default).Gauge)]), .blk b8 51 [iV (Fu.loOf (Fu.volR b (K1.getD k default))), iV (Fu.hiOf (Fu.volR b (K1.getD k default)))], .blk b7 49 [.string ((Fu.gaugeAt b.Gauges ((K1.getD k default).Gauge)).Name), iV ((Fu.gaugeAt b.Gauges ((K1.getD k default).Gauge)).Kind), iV ((Fu.gaugeAt b.Gauges ((K1.getD k default).Gauge)).Target), iV ((Fu.gaugeAt b.Gauges ((K1.getD k default).Gauge)).Err), iV ((Fu.gaugeAt b.Gauges ((K1.getD k default).Gauge)).Drift)], .blk b6 53 [iV ((K1.getD k default).Gauge), iV ((K1.getD k default).Hour), iV ((K1.getD k default).Value.Lo), iV ((K1.getD k default).Value.Hi)], .row zv 3 1 F.N.length (F.N.map (Value.int .i64)), .row nv 53 4 M.length (flat K1), .row cv3 101 5 h.Links.length (flat F.K), .row cv2 98 4 h.Queue.length (flat h.Queue), .row cv1 51 2 h.Vol.length (flat (Fu.narV F.V ((Fu.gaugeAt b.Gauges (K1.getD k default).Gauge).Target.toNat) (Fu.loOf (Fu.volR b (K1.getD k default))) (Fu.hiOf (Fu.volR b (K1.getD k default))))), .blk b3 41 [iV 0, nS, nS, nS], .blk b2 41 [iV h.Hour, cv1, cv2, cv3], .blk b1 31 (cl31 b v1 v3 v4 v5 v6 v7 v8 v9)]) rfl (e_buildSlice (vals := [(0, iV ((K1.getD k default).Gauge))]) (cells := [iV ((K1.getD k default).Gauge)]) uT29 inf3 rfl rfl rfl (by kernel_rfl) rfl) ?_
       intro b10
       refine RW.eff (fun xv : {vq : Value // IsSl vq (F.N.length + 1)} => xv.1) (fun xv => St ⟨w, Φ, []⟩ Φ [.row (.slice (some ⟨b10, 0, none⟩) 1 1) 3 1 1 ([iV ((K1.getD k default).Gauge)]), .blk b8 51 [iV (Fu.loOf (Fu.volR b (K1.getD k default))), iV (Fu.hiOf (Fu.volR b (K1.getD k default)))], .blk b7 49 [.string ((Fu.gaugeAt b.Gauges ((K1.getD k default).Gauge)).Name), iV ((Fu.gaugeAt b.Gauges ((K1.getD k default).Gauge)).Kind), iV ((Fu.gaugeAt b.Gauges ((K1.getD k default).Gauge)).Target), iV ((Fu.gaugeAt b.Gauges ((K1.getD k default).Gauge)).Err), iV ((Fu.gaugeAt b.Gauges ((K1.getD k default).Gauge)).Drift)], .blk b6 53 [iV ((K1.getD k default).Gauge), iV ((K1.getD k default).Hour), iV ((K1.getD k default).Value.Lo), iV ((K1.getD k default).Value.Hi)], .row xv.1 3 1 ((F.N ++ [(K1.getD k default).Gauge]).length) ((F.N ++ [(K1.getD k default).Gauge]).map (Value.int .i64)), .row nv 53 4 M.length (flat K1), .row cv3 101 5 h.Links.length (flat F.K), .row cv2 98 4 h.Queue.length (flat h.Queue), .row cv1 51 2 h.Vol.length (flat (Fu.narV F.V ((Fu.gaugeAt b.Gauges (K1.getD k default).Gauge).Target.toNat) (Fu.loOf (Fu.volR b (K1.getD k default))) (Fu.hiOf (Fu.volR b (K1.getD k default))))), .blk b3 41 [iV 0, nS, nS, nS], .blk b2 41 [iV h.Hour, cv1, cv2, cv3], .blk b1 31 (cl31 b v1 v3 v4 v5 v6 v7 v8 v9)]) rfl (e_append 4 rfl rfl rfl uT29 inf3 rfl rfl rfl (Cells.row0 0 rfl) rfl (by omega) (by omega) (fun _ => by simp)) ?_
       rintro ⟨va3, hva3⟩
       refine RW.wk (J' := St ⟨w, Φ, []⟩ Φ [.blk b8 51 [iV (Fu.loOf (Fu.volR b (K1.getD k default))), iV (Fu.hiOf (Fu.volR b (K1.getD k default)))], .blk b7 49 [.string ((Fu.gaugeAt b.Gauges ((K1.getD k default).Gauge)).Name), iV ((Fu.gaugeAt b.Gauges ((K1.getD k default).Gauge)).Kind), iV ((Fu.gaugeAt b.Gauges ((K1.getD k default).Gauge)).Target), iV ((Fu.gaugeAt b.Gauges ((K1.getD k default).Gauge)).Err), iV ((Fu.gaugeAt b.Gauges ((K1.getD k default).Gauge)).Drift)], .blk b6 53 [iV ((K1.getD k default).Gauge), iV ((K1.getD k default).Hour), iV ((K1.getD k default).Value.Lo), iV ((K1.getD k default).Value.Hi)], .row va3 3 1 ((F.N ++ [(K1.getD k default).Gauge]).length) ((F.N ++ [(K1.getD k default).Gauge]).map (Value.int .i64)), .row nv 53 4 M.length (flat K1), .row cv3 101 5 h.Links.length (flat F.K), .row cv2 98 4 h.Queue.length (flat h.Queue), .row cv1 51 2 h.Vol.length (flat (Fu.narV F.V ((Fu.gaugeAt b.Gauges (K1.getD k default).Gauge).Target.toNat) (Fu.loOf (Fu.volR b (K1.getD k default))) (Fu.hiOf (Fu.volR b (K1.getD k default))))), .blk b3 41 [iV 0, nS, nS, nS], .blk b2 41 [iV h.Hour, cv1, cv2, cv3], .blk b1 31 (cl31 b v1 v3 v4 v5 v6 v7 v8 v9)]) (fun _ h => StP.drop h (by exact .cons _ (.cons_cons _ (.cons_cons _ (.cons_cons _ (.cons_cons _ (.cons_cons _ (.cons_cons _ (.cons_cons _ (.cons_cons _ (.cons_cons _ (.cons_cons _ (.cons_cons _ (.slnil)))))))))))))) ?_
       refine gs8 ?_
       have hc4n : ¬ (¬ Fu.inG b.Gauges (K1.getD k default).Gauge ∨ (Fu.gaugeAt b.Gauges (K1.getD k default).Gauge).Target < 0) := fun h9 => h9.elim (fun h8 => h8 hc4.1) (fun h8 => by have := hc4.2; omega)
       have hkd : Fu.kindOf b F.V.length F.K.length (K1.getD k default) = 1 := Fu.kind1 hc4n (by rw [hVl]; exact hc6)
       have hm : (Fu.meet (F.V.getD (Fu.gaugeAt b.Gauges (K1.getD k default).Gauge).Target.toNat default).Lo (F.V.getD (Fu.gaugeAt b.Gauges (K1.getD k default).Gauge).Target.toNat default).Hi (Fu.loOf (Fu.volR b (K1.getD k default))) (Fu.hiOf (Fu.volR b (K1.getD k default)))).isSome = false := by simpa using hc8
       have hok : Fu.okV b F.V (K1.getD k default) = false := by unfold Fu.okV; rw [hsp1]; exact hm
       rw [Fu.narV_none hm]
       exact Post.bk ⟨k + 1, ⟨F.V, F.K, F.N ++ [(K1.getD k default).Gauge]⟩, va3, rfl, rfl, rfl, (by omega), (by rw [Fu.foldl_takeR _ _ hks, ← hF]; exact (Fu.step1n hkd hok).symm), (by simpa using hva3), (by simp; omega), hVl, hKl, hVw, hKw, (mem_snoc hNw hsk.1)⟩
      ·
       simp [-List.getD_eq_getElem?_getD] at hc8
       refine gs7 ?_
       have hc4n : ¬ (¬ Fu.inG b.Gauges (K1.getD k default).Gauge ∨ (Fu.gaugeAt b.Gauges (K1.getD k default).Gauge).Target < 0) := fun h9 => h9.elim (fun h8 => h8 hc4.1) (fun h8 => by have := hc4.2; omega)
       have hkd : Fu.kindOf b F.V.length F.K.length (K1.getD k default) = 1 := Fu.kind1 hc4n (by rw [hVl]; exact hc6)
       have hm : (Fu.meet (F.V.getD (Fu.gaugeAt b.Gauges (K1.getD k default).Gauge).Target.toNat default).Lo (F.V.getD (Fu.gaugeAt b.Gauges (K1.getD k default).Gauge).Target.toNat default).Hi (Fu.loOf (Fu.volR b (K1.getD k default))) (Fu.hiOf (Fu.volR b (K1.getD k default)))).isSome = true := by simpa using hc8
       have hok : Fu.okV b F.V (K1.getD k default) = true := by unfold Fu.okV; rw [hsp1]; exact hm
       have htin : (Fu.gaugeAt b.Gauges (K1.getD k default).Gauge).Target.toNat < F.V.length := by omega
       have hvr := Fu.volR_rng b (K1.getD k default)
       exact Post.bk ⟨k + 1, ⟨Fu.narV F.V (Fu.gaugeAt b.Gauges (K1.getD k default).Gauge).Target.toNat (Fu.loOf (Fu.volR b (K1.getD k default))) (Fu.hiOf (Fu.volR b (K1.getD k default))), F.K, F.N⟩, zv, rfl, rfl, rfl, (by omega), (by rw [Fu.foldl_takeR _ _ hks, ← hF]; exact (Fu.step1 hkd hok).symm), hzv, (show F.N.length ≤ k + 1 by omega), (by rw [← hVl]; exact Fu.narV_len _ _ _ _), hKl, (Fu.narV_wf htin hVw hvr.1 hvr.2), hKw, hNw⟩
    ·
     simp [-List.getD_eq_getElem?_getD] at hc6
     refine gs12 ?_
     refine RW.pkA rfl rfl rfl rfl fun qb4 hqb4 => ?_
     refine gs1 ?_
     subst hqb4
     refine gs2 ?_
     refine AW.cond rfl (fun hc9 => ?_) fun hc9 => ?_
     ·
      simp [-List.getD_eq_getElem?_getD] at hc9
      refine gs4 ?_
      refine RW.q (v := iV (((Fu.gaugeAt b.Gauges (K1.getD k default).Gauge).Target.toNat : Nat) : Int)) rfl (q_as (v := iV ((Fu.gaugeAt b.Gauges ((K1.getD k default).Gauge)).Target)) (q_load rfl uT3 rfl (Cell.blk 0 rfl rfl)) (congrArg (Value.int .i64) ((Int.toNat_of_nonneg hc4.2).symm))) ?_
      refine gs1 ?_
      refine RW.q (v := .agg #[iV ((K1.getD k default).Value.Lo), iV ((K1.getD k default).Value.Hi)]) rfl (q_loadAgg rfl uT51 rfl sz51 rfl (Cells.blkP (off := 2) 1 rfl (fun j u hu => (by rcases j with _ | (_ | _) <;> first | exact hu | cases hu)))) (RW.ec rfl (fun w1 hw1 => narL_at (i := (Fu.gaugeAt b.Gauges (K1.getD k default).Gauge).Target.toNat) rfl hcv3 (by omega) (by omega) (by omega) 4 rfl rfl w1 hw1) rfl rfl ?_)
      intro u2
      refine gs10 ?_
      refine AW.cond rfl (fun hc10 => ?_) fun hc10 => ?_
      ·
       simp [-List.getD_eq_getElem?_getD] at hc10
       refine gs4 ?_
       refine RW.eff (fun b11 : Nat => (.slice (some ⟨b11, 0, none⟩) 1 1)) (fun b11 => St ⟨w, Φ, []⟩ Φ [.row (.slice (some ⟨b11, 0, none⟩) 1 1) 3 1 1 ([iV ((K1.getD k default).Gauge)]), .blk b7 49 [.string ((Fu.gaugeAt b.Gauges ((K1.getD k default).Gauge)).Name), iV ((Fu.gaugeAt b.Gauges ((K1.getD k default).Gauge)).Kind), iV ((Fu.gaugeAt b.Gauges ((K1.getD k default).Gauge)).Target), iV ((Fu.gaugeAt b.Gauges ((K1.getD k default).Gauge)).Err), iV ((Fu.gaugeAt b.Gauges ((K1.getD k default).Gauge)).Drift)], .blk b6 53 [iV ((K1.getD k default).Gauge), iV ((K1.getD k default).Hour), iV ((K1.getD k default).Value.Lo), iV ((K1.getD k default).Value.Hi)], .row zv 3 1 F.N.length (F.N.map (Value.int .i64)), .row nv 53 4 M.length (flat K1), .row cv3 101 5 h.Links.length (flat (Fu.narL F.K ((Fu.gaugeAt b.Gauges (K1.getD k default).Gauge).Target.toNat) ((K1.getD k default).Value.Lo) ((K1.getD k default).Value.Hi))), .row cv2 98 4 h.Queue.length (flat h.Queue), .row cv1 51 2 h.Vol.length (flat F.V), .blk b3 41 [iV 0, nS, nS, nS], .blk b2 41 [iV h.Hour, cv1, cv2, cv3], .blk b1 31 (cl31 b v1 v3 v4 v5 v6 v7 v8 v9)]) rfl (e_buildSlice (vals := [(0, iV ((K1.getD k default).Gauge))]) (cells := [iV ((K1.getD k default).Gauge)]) uT29 inf3 rfl rfl rfl (by kernel_rfl) rfl) ?_
       intro b11
       refine RW.eff (fun xv : {vq : Value // IsSl vq (F.N.length + 1)} => xv.1) (fun xv => St ⟨w, Φ, []⟩ Φ [.row (.slice (some ⟨b11, 0, none⟩) 1 1) 3 1 1 ([iV ((K1.getD k default).Gauge)]), .blk b7 49 [.string ((Fu.gaugeAt b.Gauges ((K1.getD k default).Gauge)).Name), iV ((Fu.gaugeAt b.Gauges ((K1.getD k default).Gauge)).Kind), iV ((Fu.gaugeAt b.Gauges ((K1.getD k default).Gauge)).Target), iV ((Fu.gaugeAt b.Gauges ((K1.getD k default).Gauge)).Err), iV ((Fu.gaugeAt b.Gauges ((K1.getD k default).Gauge)).Drift)], .blk b6 53 [iV ((K1.getD k default).Gauge), iV ((K1.getD k default).Hour), iV ((K1.getD k default).Value.Lo), iV ((K1.getD k default).Value.Hi)], .row xv.1 3 1 ((F.N ++ [(K1.getD k default).Gauge]).length) ((F.N ++ [(K1.getD k default).Gauge]).map (Value.int .i64)), .row nv 53 4 M.length (flat K1), .row cv3 101 5 h.Links.length (flat (Fu.narL F.K ((Fu.gaugeAt b.Gauges (K1.getD k default).Gauge).Target.toNat) ((K1.getD k default).Value.Lo) ((K1.getD k default).Value.Hi))), .row cv2 98 4 h.Queue.length (flat h.Queue), .row cv1 51 2 h.Vol.length (flat F.V), .blk b3 41 [iV 0, nS, nS, nS], .blk b2 41 [iV h.Hour, cv1, cv2, cv3], .blk b1 31 (cl31 b v1 v3 v4 v5 v6 v7 v8 v9)]) rfl (e_append 3 rfl rfl rfl uT29 inf3 rfl rfl rfl (Cells.row0 0 rfl) rfl (by omega) (by omega) (fun _ => by simp)) ?_
       rintro ⟨va4, hva4⟩
       refine RW.wk (J' := St ⟨w, Φ, []⟩ Φ [.blk b7 49 [.string ((Fu.gaugeAt b.Gauges ((K1.getD k default).Gauge)).Name), iV ((Fu.gaugeAt b.Gauges ((K1.getD k default).Gauge)).Kind), iV ((Fu.gaugeAt b.Gauges ((K1.getD k default).Gauge)).Target), iV ((Fu.gaugeAt b.Gauges ((K1.getD k default).Gauge)).Err), iV ((Fu.gaugeAt b.Gauges ((K1.getD k default).Gauge)).Drift)], .blk b6 53 [iV ((K1.getD k default).Gauge), iV ((K1.getD k default).Hour), iV ((K1.getD k default).Value.Lo), iV ((K1.getD k default).Value.Hi)], .row va4 3 1 ((F.N ++ [(K1.getD k default).Gauge]).length) ((F.N ++ [(K1.getD k default).Gauge]).map (Value.int .i64)), .row nv 53 4 M.length (flat K1), .row cv3 101 5 h.Links.length (flat (Fu.narL F.K ((Fu.gaugeAt b.Gauges (K1.getD k default).Gauge).Target.toNat) ((K1.getD k default).Value.Lo) ((K1.getD k default).Value.Hi))), .row cv2 98 4 h.Queue.length (flat h.Queue), .row cv1 51 2 h.Vol.length (flat F.V), .blk b3 41 [iV 0, nS, nS, nS], .blk b2 41 [iV h.Hour, cv1, cv2, cv3], .blk b1 31 (cl31 b v1 v3 v4 v5 v6 v7 v8 v9)]) (fun _ h => StP.drop h (by exact .cons _ (.cons_cons _ (.cons_cons _ (.cons_cons _ (.cons_cons _ (.cons_cons _ (.cons_cons _ (.cons_cons _ (.cons_cons _ (.cons_cons _ (.cons_cons _ (.slnil))))))))))))) ?_
       refine gs8 ?_
       have hc4n : ¬ (¬ Fu.inG b.Gauges (K1.getD k default).Gauge ∨ (Fu.gaugeAt b.Gauges (K1.getD k default).Gauge).Target < 0) := fun h9 => h9.elim (fun h8 => h8 hc4.1) (fun h8 => by have := hc4.2; omega)
       have hkd : Fu.kindOf b F.V.length F.K.length (K1.getD k default) = 2 := Fu.kind2 hc4n (by rw [hVl]; intro h9; exact absurd h9.2 (by have := hc6 h9.1; omega)) (by rw [hKl]; exact hc9)
       have hm : (Fu.meet (F.K.getD (Fu.gaugeAt b.Gauges (K1.getD k default).Gauge).Target.toNat default).Pos.Lo (F.K.getD (Fu.gaugeAt b.Gauges (K1.getD k default).Gauge).Target.toNat default).Pos.Hi (K1.getD k default).Value.Lo (K1.getD k default).Value.Hi).isSome = false := by simpa using hc10
       have hok : Fu.okK b F.K (K1.getD k default) = false := hm
       rw [Fu.narL_none hm]
       exact Post.bk ⟨k + 1, ⟨F.V, F.K, F.N ++ [(K1.getD k default).Gauge]⟩, va4, rfl, rfl, rfl, (by omega), (by rw [Fu.foldl_takeR _ _ hks, ← hF]; exact (Fu.step2n hkd hok).symm), (by simpa using hva4), (by simp; omega), hVl, hKl, hVw, hKw, (mem_snoc hNw hsk.1)⟩
      ·
       simp [-List.getD_eq_getElem?_getD] at hc10
       refine gs7 ?_
       have hc4n : ¬ (¬ Fu.inG b.Gauges (K1.getD k default).Gauge ∨ (Fu.gaugeAt b.Gauges (K1.getD k default).Gauge).Target < 0) := fun h9 => h9.elim (fun h8 => h8 hc4.1) (fun h8 => by have := hc4.2; omega)
       have hkd : Fu.kindOf b F.V.length F.K.length (K1.getD k default) = 2 := Fu.kind2 hc4n (by rw [hVl]; intro h9; exact absurd h9.2 (by have := hc6 h9.1; omega)) (by rw [hKl]; exact hc9)
       have hm : (Fu.meet (F.K.getD (Fu.gaugeAt b.Gauges (K1.getD k default).Gauge).Target.toNat default).Pos.Lo (F.K.getD (Fu.gaugeAt b.Gauges (K1.getD k default).Gauge).Target.toNat default).Pos.Hi (K1.getD k default).Value.Lo (K1.getD k default).Value.Hi).isSome = true := by simpa using hc10
       have hok : Fu.okK b F.K (K1.getD k default) = true := hm
       have htin : (Fu.gaugeAt b.Gauges (K1.getD k default).Gauge).Target.toNat < F.K.length := by omega
       exact Post.bk ⟨k + 1, ⟨F.V, Fu.narL F.K (Fu.gaugeAt b.Gauges (K1.getD k default).Gauge).Target.toNat (K1.getD k default).Value.Lo (K1.getD k default).Value.Hi, F.N⟩, zv, rfl, rfl, rfl, (by omega), (by rw [Fu.foldl_takeR _ _ hks, ← hF]; exact (Fu.step2 hkd hok).symm), hzv, (show F.N.length ≤ k + 1 by omega), hVl, (by rw [← hKl]; exact Fu.narL_len _ _ _ _), hVw, (Fu.narL_wf htin (fun x => (show (I64 x.Pos.Lo ∧ I64 x.Pos.Hi ∧ I64 x.Target ∧ I64 x.Open.Lo ∧ I64 x.Open.Hi) ↔ _ from by unfold I64 Fu.Ok64; constructor <;> intro h9 <;> omega)) hKw hsk.2.2.1 hsk.2.2.2), hNw⟩
     ·
      simp [-List.getD_eq_getElem?_getD] at hc9
      refine gs6 ?_
      refine RW.q (v := .bool false) rfl (q_not (b := true) rfl) ?_
      refine gs2 ?_
      refine AW.condF rfl ?_
      refine gs7 ?_
      exact Post.bk ⟨k + 1, F, zv, rfl, rfl, rfl, (by omega), (by rw [Fu.foldl_takeR _ _ hks, ← hF]; exact (Fu.step0 (Fu.kind3 (by rw [hVl]; intro h9; have := hc6 h9.1; omega) (by rw [hKl]; intro h9; have := hc9 h9.1; omega))).symm), hzv, (by omega), hVl, hKl, hVw, hKw, hNw⟩
  ·
   simp [-List.getD_eq_getElem?_getD] at hc3
   refine gs6 ?_
   have hB_0 := hB
   have r3_0 := r3
   have r6_0 := r6
   have hH_0 := hH
   have hr1_0 := hr1
   have hr2_0 := hr2
   have hr3_0 := hr3
   have hl_0 := hl
   refine AW.draw (J0 := St ⟨w, Φ, []⟩ Φ [.row nv 53 4 M.length (flat K1), .row cv3 101 5 h.Links.length (flat F.K), .row cv2 98 4 h.Queue.length (flat h.Queue), .row cv1 51 2 h.Vol.length (flat F.V), .blk b2 41 [iV h.Hour, cv1, cv2, cv3], .blk b1 31 (cl31 b v1 v3 v4 v5 v6 v7 v8 v9)]) [.q, .q, .e, .e, .q] [0, 1, 2, 3, 4] hmix (by kernel_rfl) (DW.q (v := .agg #[iV h.Hour, cv1, cv2, cv3]) (fun _ h => (StP.drop h (by exact .cons _ (.cons_cons _ (.cons_cons _ (.cons_cons _ (.cons_cons _ (.cons _ (.cons_cons _ (.cons_cons _ (.slnil))))))))))) rfl (q_loadAgg rfl uT41 rfl sz41 rfl (Cells.blk 4 rfl)) (DW.q (v := zv) (fun _ h => (StP.drop h (by exact .cons _ (.cons_cons _ (.cons_cons _ (.cons_cons _ (.cons_cons _ (.cons _ (.cons_cons _ (.cons_cons _ (.slnil))))))))))) rfl (q_move rfl) (DW.eff (fun x : {r : Value // IsSl r (Fu.comp F.N).length} => x.1) (fun x => St ⟨w, Φ, []⟩ Φ [.row x.1 3 1 ((Fu.comp F.N).length) ((Fu.comp F.N).map (Value.int .i64)), .row nv 53 4 M.length (flat K1), .row cv3 101 5 h.Links.length (flat F.K), .row cv2 98 4 h.Queue.length (flat h.Queue), .row cv1 51 2 h.Vol.length (flat F.V), .blk b3 41 [iV 0, nS, nS, nS], .blk b2 41 [iV h.Hour, cv1, cv2, cv3], .blk b1 31 (cl31 b v1 v3 v4 v5 v6 v7 v8 v9)]) (fun _ _ => (fun _ h => (StP.drop h (by exact .cons _ (.cons_cons _ (.cons_cons _ (.cons_cons _ (.cons_cons _ (.cons _ (.cons_cons _ (.cons_cons _ (.slnil)))))))))))) rfl (e_call (args := #[zv]) oK rfl rfl (fun w1 hw1 => Compact_c rfl hzv rfl (by omega) w1 hw1)) ?_)))
   rintro ⟨rv1, hrv1⟩
   refine DW.effn (J' := St ⟨w, Φ, []⟩ Φ [.row rv1 3 1 ((Fu.comp F.N).length) ((Fu.comp F.N).map (Value.int .i64)), .row nv 53 4 M.length (flat K1), .row cv3 101 5 h.Links.length (flat F.K), .row cv2 98 4 h.Queue.length (flat h.Queue), .row cv1 51 2 h.Vol.length (flat F.V), .blk b3 41 [iV h.Hour, cv1, cv2, cv3], .blk b2 41 [iV h.Hour, cv1, cv2, cv3], .blk b1 31 (cl31 b v1 v3 v4 v5 v6 v7 v8 v9)]) (fun _ => (fun _ h => (StP.drop h (by exact .cons _ (.cons_cons _ (.cons_cons _ (.cons_cons _ (.cons_cons _ (.cons _ (.cons_cons _ (.cons_cons _ (.slnil)))))))))))) (e_store (v := .agg #[iV h.Hour, cv1, cv2, cv3]) 5 rfl rfl rfl sz41 rfl (by show List.all [_, cv1, cv2, cv3] _ = true; simp only [List.all_cons, List.all_nil, oneCell_sl hcv1, oneCell_sl hcv2, oneCell_sl hcv3]; rfl) rfl rfl rfl) (DW.q (v := rv1) (fun _ h => (StP.drop h (by exact .cons _ (.cons_cons _ (.cons_cons _ (.cons_cons _ (.cons_cons _ (.cons _ (.cons_cons _ (.cons_cons _ (.slnil))))))))))) rfl (q_assign rfl) ?_)
   refine gs3 ?_
   have hsd := Sorts.Upd.srt (L := M) hK1.1 hK1.2
   have hfin : F = Fu.fuse b h l := by rw [hF, List.take_of_length_le (by omega)]; exact Fu.fuse_sorted hsd.1 (by rw [← hMM]; exact hsd.2)
   refine fin_cell2 (cs := [iV h.Hour, cv1, cv2, cv3]) (v := rv1) rfl rfl rfl rfl uT41 rfl sz41 rfl (Cells.blk 5 rfl) (fun w' hw => ?_)
   refine ⟨_, rfl, hw.below rfl, cv1, cv2, cv3, _, rfl, ?_, ?_, ?_, ?_⟩
   ·
    rw [← hfin]; exact RowS.repE even51 (row_ext hw 4 rfl) hVl (by simp only [maxSl]; omega) hVw
   ·
    exact RowS.repE even98 (row_ext hw 3 rfl) rfl (by simp only [maxSl]; omega) hr2.wfE
   ·
    rw [← hfin]; exact RowS.repE even101 (row_ext hw 2 rfl) hKl (by simp only [maxSl]; omega) hKw
   ·
    rw [← hfin]; exact RowS.ints (row_ext hw 0 rfl) (by simp only [maxSl]; have := Fu.comp_le F.N; omega) (fun x hx => hNw x (Fu.comp_mem hx))
theorem Same_c (w : World) (Φ : Hp) (hΦ : Hp.le Φ (hp w)) {x : Bt.Hull} {xcs : List Value} (xH : RepV Φ x xcs) {y : Bt.Hull} {ycs : List Value} (yH : RepV Φ y ycs) :
  Calls pg 10 #[.agg xcs.toArray, .agg ycs.toArray] w fun e w' => e = .returned (.bool (decide (Fu.sameH x y))) ∧ Bel w.heap.size w w' := by
 obtain ⟨xv1, xv2, xv3, xhcs, xhw, xr1, xr2, xr3⟩ := (show Rep.rep Φ x xcs from xH)
 subst xhcs
 have xm1 : x.Vol.length * 16 ≤ 140737488355328 := xr1.max
 have xm2 : x.Queue.length * 32 ≤ 140737488355328 := xr2.max
 have xm3 : x.Links.length * 40 ≤ 140737488355328 := xr3.max
 obtain ⟨yv1, yv2, yv3, yhcs, yhw, yr1, yr2, yr3⟩ := (show Rep.rep Φ y ycs from yH)
 subst yhcs
 have ym1 : y.Vol.length * 16 ≤ 140737488355328 := yr1.max
 have ym2 : y.Queue.length * 32 ≤ 140737488355328 := yr2.max
 have ym3 : y.Links.length * 40 ≤ 140737488355328 := yr3.max
 refine in2 74 Tryz.func10 rfl rfl hΦ ?_
 refine gs2 ?_
 refine RW.bxA rfl rfl fun b1 => ?_
 refine RW.bxA rfl rfl fun b2 => ?_
 refine gs19 ?_
 refine RW.pkO rfl rfl rfl rfl fun qb1 hqb1 => ?_
 refine gs8 ?_
 refine RW.pkO rfl rfl rfl rfl fun qb2 hqb2 => ?_
 refine gs5 ?_
 refine RW.gc rfl rfl rfl (fun w1 hw1 => SameAll_c w1 (Go.K.hp w1) (Hp.le_refl _) (xr1.mono hw1.phi) (yr1.mono hw1.phi)) rfl (fun h => args2 (gv_pos h) (gv_pos h)) ?_
 refine gs1 ?_
 refine RW.q (v := .bool (qb2 || (!(decide (x.Vol = y.Vol))))) rfl (qpO rfl rfl rfl) ?_
 subst hqb2 hqb1
 refine gs2 ?_
 refine AW.cond rfl (fun hc1 => ?_) fun hc1 => ?_
 ·
  simp [-List.getD_eq_getElem?_getD] at hc1
  refine gs7 ?_
  exact fin_val (v' := .bool false) rfl rfl rfl (by rw [decide_eq_false (fun e => by obtain ⟨e1, e2, e3, e4⟩ := e; rcases hc1 with ((h1 | h1) | h1) | h1; exact h1 e1; exact h1 (by rw [e3]); exact h1 (by rw [e4]); exact h1 e2)])
 ·
  simp [-List.getD_eq_getElem?_getD] at hc1
  refine gs9 ?_
  refine AW.lp (fun s J m => ∃ (k : Nat), s = [(2, pV b1 0), (3, pV b2 0), (5, iV (k : Int))] ∧ J = St ⟨w, Φ, []⟩ Φ [.blk b2 41 [iV y.Hour, yv1, yv2, yv3], .blk b1 41 [iV x.Hour, xv1, xv2, xv3]] ∧ m = x.Queue.length - k ∧ (k ≤ x.Queue.length) ∧ (∀ j, j < k → x.Queue.getD j default = y.Queue.getD j default)) ⟨0, rfl, rfl, rfl, (by omega), (by omega)⟩ ?_
  rintro _ _ _ _ ⟨k, rfl, rfl, rfl, hk, heq⟩
  refine gs10 ?_
  refine AW.cond rfl (fun hc2 => ?_) fun hc2 => ?_
  ·
   simp [-List.getD_eq_getElem?_getD] at hc2
   refine gs5 ?_
   refine AW.draw (J0 := St ⟨w, Φ, []⟩ Φ [.blk b2 41 [iV y.Hour, yv1, yv2, yv3], .blk b1 41 [iV x.Hour, xv1, xv2, xv3]]) [.q, .q, .q, .q, .q, .q, .q, .q, .q, .q, .q] [0, 1, 2, 3, 4, 5, 6, 7, 8, 9, 10] hmix (by kernel_rfl) ?_
   refine gs4 ?_
   refine DW.q (v := .agg (cl98 (x.Queue.getD k default)).toArray) (fun _ h => h) rfl (q_loadAgg rfl uT98 rfl sz98 rfl (Cells.repE xr2 (by omega) rfl)) ?_
   refine gs4 ?_
   refine DW.q (v := .agg (cl98 (y.Queue.getD k default)).toArray) (fun _ h => h) rfl (q_loadAgg rfl uT98 rfl sz98 rfl (Cells.repE yr2 (by omega) rfl)) (DW.q (v := .bool (!(decide ((x.Queue.getD k default).At = (y.Queue.getD k default).At) && decide ((x.Queue.getD k default).To = (y.Queue.getD k default).To) && decide ((x.Queue.getD k default).Vol.Lo = (y.Queue.getD k default).Vol.Lo) && decide ((x.Queue.getD k default).Vol.Hi = (y.Queue.getD k default).Vol.Hi)))) (fun _ h => h) rfl (q_neqS rfl rfl (eqS98 _ _ _ _ _ _ _ _) eqG98) ?_)
   refine gs2 ?_
   refine AW.cond rfl (fun hc3 => ?_) fun hc3 => ?_
   ·
    simp [-List.getD_eq_getElem?_getD] at hc3
    refine gs1 ?_
    have hnq : x.Queue ≠ y.Queue := fun e => by rw [e] at hc3; simp [-List.getD_eq_getElem?_getD] at hc3
    refine gs10 ?_
    exact fin_val (v' := .bool false) rfl rfl rfl (by rw [decide_eq_false (fun e => hnq e.2.2.1)])
   ·
    simp [-List.getD_eq_getElem?_getD] at hc3
    refine gs8 ?_
    exact Post.bk ⟨k + 1, rfl, rfl, rfl, (by omega), (Fu.lt_succ heq (Fu.sum_ext (by simpa using hc3)))⟩
  ·
   simp [-List.getD_eq_getElem?_getD] at hc2
   refine gs12 ?_
   have hQ : x.Queue = y.Queue := Fu.getD_ext default (by omega) (fun j hj => heq j (by omega))
   refine AW.lp (fun s J m => ∃ (k : Nat), s = [(2, pV b1 0), (3, pV b2 0), (6, iV (k : Int))] ∧ J = St ⟨w, Φ, []⟩ Φ [.blk b2 41 [iV y.Hour, yv1, yv2, yv3], .blk b1 41 [iV x.Hour, xv1, xv2, xv3]] ∧ m = x.Links.length - k ∧ (k ≤ x.Links.length) ∧ (∀ j, j < k → x.Links.getD j default = y.Links.getD j default)) ⟨0, rfl, rfl, rfl, (by omega), (by omega)⟩ ?_
   rintro _ _ _ _ ⟨k, rfl, rfl, rfl, hk, heq⟩
   refine gs10 ?_
   refine AW.cond rfl (fun hc4 => ?_) fun hc4 => ?_
   ·
    simp [-List.getD_eq_getElem?_getD] at hc4
    refine gs5 ?_
    refine AW.draw (J0 := St ⟨w, Φ, []⟩ Φ [.blk b2 41 [iV y.Hour, yv1, yv2, yv3], .blk b1 41 [iV x.Hour, xv1, xv2, xv3]]) [.q, .q, .q, .q, .q, .q, .q, .q, .q, .q, .q] [0, 1, 2, 3, 4, 5, 6, 7, 8, 9, 10] hmix (by kernel_rfl) ?_
    refine gs4 ?_
    refine DW.q (v := .agg (cl101 (x.Links.getD k default)).toArray) (fun _ h => h) rfl (q_loadAgg rfl uT101 rfl sz101 rfl (Cells.repE xr3 (by omega) rfl)) ?_
    refine gs4 ?_
    refine DW.q (v := .agg (cl101 (y.Links.getD k default)).toArray) (fun _ h => h) rfl (q_loadAgg rfl uT101 rfl sz101 rfl (Cells.repE yr3 (by omega) rfl)) (DW.q (v := .bool (!(decide ((x.Links.getD k default).Pos.Lo = (y.Links.getD k default).Pos.Lo) && decide ((x.Links.getD k default).Pos.Hi = (y.Links.getD k default).Pos.Hi) && decide ((x.Links.getD k default).Target = (y.Links.getD k default).Target) && decide ((x.Links.getD k default).Open.Lo = (y.Links.getD k default).Open.Lo) && decide ((x.Links.getD k default).Open.Hi = (y.Links.getD k default).Open.Hi)))) (fun _ h => h) rfl (q_neqS rfl rfl (eqS101 _ _ _ _ _ _ _ _ _ _) eqG101) ?_)
    refine gs2 ?_
    refine AW.cond rfl (fun hc5 => ?_) fun hc5 => ?_
    ·
     simp [-List.getD_eq_getElem?_getD] at hc5
     refine gs1 ?_
     have hnl : x.Links ≠ y.Links := fun e => by rw [e] at hc5; simp [-List.getD_eq_getElem?_getD] at hc5
     refine gs10 ?_
     exact fin_val (v' := .bool false) rfl rfl rfl (by rw [decide_eq_false (fun e => hnl e.2.2.2)])
    ·
     simp [-List.getD_eq_getElem?_getD] at hc5
     refine gs8 ?_
     exact Post.bk ⟨k + 1, rfl, rfl, rfl, (by omega), (Fu.lt_succ heq (Fu.known_ext (by simpa using hc5)))⟩
   ·
    simp [-List.getD_eq_getElem?_getD] at hc4
    refine gs11 ?_
    exact fin_val (v' := .bool true) rfl rfl rfl (by rw [decide_eq_true]; obtain ⟨⟨⟨e1, e2⟩, e3⟩, e4⟩ := hc1; exact ⟨e1, e4, hQ, Fu.getD_ext default (by omega) (fun j hj => heq j (by omega))⟩)
end Go.Proofs.YtblfeidlnhdekaaGreat
namespace Fu
/-! ### one reading -/
def hullOf (h : Bt.Hull) (F : FS) : Bt.Hull := ⟨h.Hour, F.V, h.Queue, F.K⟩
theorem meet_some {a b c d : Int} (h : (meet a b c d).isSome = true) : meet a b c d = some ⟨loOf (meet a b c d), hiOf (meet a b c d)⟩ := by
  cases hm : meet a b c d with
  | none => rw [hm] at h; cases h
  | some z => rfl
theorem narV_some {L : List Bt.Span} {i : Nat} {lo hi : Int} (h : (meet (L.getD i default).Lo (L.getD i default).Hi lo hi).isSome = true) : narV L i lo hi = L.set i ⟨loOf (meet (L.getD i default).Lo (L.getD i default).Hi lo hi), hiOf (meet (L.getD i default).Lo (L.getD i default).Hi lo hi)⟩ := by
  have h1 := meet_some h
  unfold narV
  rw [h1]; rfl
theorem narL_some {L : List Bt.Known} {i : Nat} {lo hi : Int} (h : (meet (L.getD i default).Pos.Lo (L.getD i default).Pos.Hi lo hi).isSome = true) : narL L i lo hi = L.set i ⟨⟨loOf (meet (L.getD i default).Pos.Lo (L.getD i default).Pos.Hi lo hi), hiOf (meet (L.getD i default).Pos.Lo (L.getD i default).Pos.Hi lo hi)⟩, (L.getD i default).Target, ⟨(L.getD i default).Open.Lo, (L.getD i default).Open.Hi⟩⟩ := by
  have h1 := meet_some h
  unfold narL
  rw [h1]; rfl
/-! ### gauge by gauge -/
/-! ### drifting -/
def drift (n : Nat) (hist : List (List Int)) : List Int := if hist.length < 3 then [] else ((List.range n).map fun (i : Nat) => (i : Int)).filter fun i => (hist.drop (hist.length - 3)).all fun m => decide (i ∈ m)
def drI (n : Nat) (last : List (List Int)) : List Int := ((List.range n).map fun (i : Nat) => (i : Int)).filter fun i => last.all fun m => decide (i ∈ m)
theorem drI_succ (n : Nat) (last : List (List Int)) : drI (n + 1) last = if (last.all fun m => decide ((n : Int) ∈ m)) = true then drI n last ++ [(n : Int)] else drI n last := by
  unfold drI
  rw [List.range_succ, List.map_append, List.filter_append]
  split
  · rename_i h; simp [h]
  · rename_i h; simp [h]
theorem drI_rng {n : Nat} {last : List (List Int)} {x : Int} (h : x ∈ drI n last) : 0 ≤ x ∧ x < (n : Int) := by
  unfold drI at h
  obtain ⟨h1, _⟩ := List.mem_filter.1 h
  obtain ⟨i, hi, rfl⟩ := List.mem_map.1 h1
  have := List.mem_range.1 hi
  omega
theorem drift_eq {n : Nat} {hist : List (List Int)} (h : ¬ hist.length < 3) : drift n hist = drI n (hist.drop (hist.length - 3)) := by unfold drift drI; rw [if_neg h]
def firstF (p : List Int → Bool) (L : List (List Int)) : Int := if L.any p then ((L.findIdx p : Nat) : Int) else -1
theorem firstF_hit {p : List Int → Bool} {L : List (List Int)} {k : Nat} (hk : k < L.length) (h : ∀ j, j < k → p (L.getD j []) = false) (he : p (L.getD k []) = true) : firstF p L = (k : Int) := by
  have hf : L.findIdx p = k := by
    refine (List.findIdx_eq hk).2 ⟨?_, fun j hj => ?_⟩
    · rwa [gDD, List.getElem?_eq_getElem hk] at he
    · have := h j hj; rwa [gDD, List.getElem?_eq_getElem (Nat.lt_trans hj hk)] at this
  unfold firstF
  rw [if_pos, hf]
  rw [gDD, List.getElem?_eq_getElem hk] at he
  exact List.any_eq_true.2 ⟨_, List.getElem_mem hk, he⟩
theorem firstF_miss {p : List Int → Bool} {L : List (List Int)} (h : ∀ j, j < L.length → p (L.getD j []) = false) : firstF p L = -1 := by
  unfold firstF
  rw [if_neg]
  intro ha
  obtain ⟨x, hx, hp⟩ := List.any_eq_true.1 ha
  obtain ⟨i, hi, rfl⟩ := List.mem_iff_getElem.1 hx
  have := h i hi
  rw [gDD, List.getElem?_eq_getElem hi] at this
  rw [show (some L[i]).getD [] = L[i] from rfl, hp] at this
  cases this
theorem firstF_any (p : List Int → Bool) (L : List (List Int)) : decide (0 ≤ firstF p L) = L.any p := by
  unfold firstF
  cases h : L.any p with
  | true => rw [if_pos rfl]; exact decide_eq_true (by omega)
  | false => rw [if_neg (by decide)]; rfl
theorem not_any (i : Int) (L : List (List Int)) : (!(L.any fun m => !decide (i ∈ m))) = L.all fun m => decide (i ∈ m) := by
  induction L with
  | nil => rfl
  | cons x L ih => simp only [List.any_cons, List.all_cons, Bool.not_or, Bool.not_not, ih]
end Fu
