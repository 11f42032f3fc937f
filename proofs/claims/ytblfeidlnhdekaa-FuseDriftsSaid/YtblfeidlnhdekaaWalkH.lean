/- Walks (part WalkH), printed by walk2.py. Conditions: those of each theorem. -/
import Derived.Test.YtblfeidlnhdekaaWalkG
import Derived.Test.YtblfeidlnhdekaaPlainD
namespace Go.Proofs.Ytblfeidlnhdekaa
open Go Go.K Go.RowKit

theorem narV_at {B : Bs} {Φ : Hp} {C : List Chunk} (hBE : B.E = []) {v : Value} {n : Nat} {L : List Bt.Span} (hv : IsSl v n) (hL : L.length = n) (hn : n ≤ 1000000) {i : Nat} {lo hi : Int} (hi_ : i < n) (j : Nat) (hj : C[j]? = some (.row v 42 2 n (flat L))) {C' : List Chunk} (hC : C.set j (.row v 42 2 n (flat (Fu.narV L i lo hi))) = C') (w : World) (hW : (St B Φ C).p w) :
    Calls Try.prog 40 #[v, .int .i64 (i : Int), .func (.func 41) #[] #[], .agg #[.int .i64 lo, .int .i64 hi]] w fun e w' => ∃ _ : Unit, e = .returned (.bool (Fu.meet (L.getD i default).Lo (L.getD i default).Hi lo hi).isSome) ∧ (St B Φ C').p w' :=
  (narV_c hBE hv hL hn hi_ w (StP.frontAt hW j hj)).mono fun _ _ ⟨_, he, hw⟩ => ⟨(), he, StP.backAt j hj hC hw⟩
theorem narL_at {B : Bs} {Φ : Hp} {C : List Chunk} (hBE : B.E = []) {v : Value} {n : Nat} {L : List Bt.Known} (hv : IsSl v n) (hL : L.length = n) (hn : n ≤ 1000000) {i : Nat} {lo hi : Int} (hi_ : i < n) (j : Nat) (hj : C[j]? = some (.row v 79 5 n (flat L))) {C' : List Chunk} (hC : C.set j (.row v 79 5 n (flat (Fu.narL L i lo hi))) = C') (w : World) (hW : (St B Φ C).p w) :
    Calls Try.prog 42 #[v, .int .i64 (i : Int), .func (.func 43) #[] #[], .agg #[.int .i64 lo, .int .i64 hi]] w fun e w' => ∃ _ : Unit, e = .returned (.bool (Fu.meet (L.getD i default).Pos.Lo (L.getD i default).Pos.Hi lo hi).isSome) ∧ (St B Φ C').p w' :=
  (narL_c hBE hv hL hn hi_ w (StP.frontAt hW j hj)).mono fun _ _ ⟨_, he, hw⟩ => ⟨(), he, StP.backAt j hj hC hw⟩
set_option maxRecDepth 8000 in
set_option maxHeartbeats 4000000 in
theorem Fuse_c (w : World) (Φ : Hp) (hΦ : Hp.le Φ (hp w)) {b : Bt.Basin} {cs : List Value} (hB : RepV Φ b cs) {h : Bt.Hull} {hcs : List Value} (hH : RepV Φ h hcs) {l : List Bt.Reading} {lv : Value} (hl : RepSl Φ l lv) (hll : l.length ≤ 100000) (hfV : h.Vol.length ≤ 1000) (hfQ : h.Queue.length ≤ 1000) (hfK : h.Links.length ≤ 1000) :
    Calls Try.prog 12 #[.agg cs.toArray, .agg hcs.toArray, lv] w (RetS noHp w fun r Ψ => ∃ va vb vc vd, r = .tuple #[.agg #[.int .i64 h.Hour, va, vb, vc], vd] ∧ RepSl Ψ (Fu.fuse b h l).V va ∧ RepSl Ψ h.Queue vb ∧ RepSl Ψ (Fu.fuse b h l).K vc ∧ RepSl Ψ (Fu.comp (Fu.fuse b h l).N) vd) := by
  obtain ⟨v1, v3, v4, v5, v6, v7, v8, v9, hcs, hBw, r1, r3, r4, r5, r6, r7, r8, r9⟩ := (show Rep.rep Φ b cs from hB)
  subst hcs
  have hpm : b.Places.length * 152 ≤ 140737488355328 := r3.max
  have hgm : b.Gauges.length * 48 ≤ 140737488355328 := r6.max
  obtain ⟨hv1, hv2, hv3, hhcs, hhw, hr1, hr2, hr3⟩ := (show Rep.rep Φ h hcs from hH)
  subst hhcs
  have hm1 : h.Vol.length * 16 ≤ 140737488355328 := hr1.max
  have hm2 : h.Queue.length * 32 ≤ 140737488355328 := hr2.max
  have hm3 : h.Links.length * 40 ≤ 140737488355328 := hr3.max
  refine calls_of_AW (args := [.agg #[.string b.Name, v1, .int .i64 b.Cells, v3, v4, v5, v6, v7, v8, v9, .int .i64 b.Err], .agg #[.int .i64 h.Hour, hv1, hv2, hv3], lv]) Try.func12 rfl (Nat.le_of_ble_eq_true rfl) (St ⟨w, Φ, []⟩ Φ []) (StP.init w Φ hΦ []) ?_
  show AW Try.prog 126 [] _ _ _ [(0, .agg #[.string b.Name, v1, .int .i64 b.Cells, v3, v4, v5, v6, v7, v8, v9, .int .i64 b.Err]), (1, .agg #[.int .i64 h.Hour, hv1, hv2, hv3]), (2, lv)] _
  have hlm : l.length * 32 ≤ 140737488355328 := hl.max
  refine AW.seq ?_
  refine AW.region ?_
  refine RW.eff (fun b1 : Nat => .pointer (some (⟨b1, 0, none⟩))) (fun b1 => St ⟨w, Φ, []⟩ Φ [.blk b1 31 [.string b.Name, v1, .int .i64 b.Cells, v3, v4, v5, v6, v7, v8, v9, .int .i64 b.Err]]) rfl (e_boxA (cs := [.string b.Name, v1, .int .i64 b.Cells, v3, v4, v5, v6, v7, v8, v9, .int .i64 b.Err]) rfl) ?_
  intro b1
  refine RW.eff (fun b2 : Nat => .pointer (some (⟨b2, 0, none⟩))) (fun b2 => St ⟨w, Φ, []⟩ Φ [.blk b2 36 [.int .i64 h.Hour, hv1, hv2, hv3], .blk b1 31 [.string b.Name, v1, .int .i64 b.Cells, v3, v4, v5, v6, v7, v8, v9, .int .i64 b.Err]]) rfl (e_boxA (cs := [.int .i64 h.Hour, hv1, hv2, hv3]) rfl) ?_
  intro b2
  refine RW.eff (fun b3 : Nat => .pointer (some (⟨b3, 0, none⟩))) (fun b3 => St ⟨w, Φ, []⟩ Φ [.blk b3 36 [.int .i64 0, (.slice none 0 0), (.slice none 0 0), (.slice none 0 0)], .blk b2 36 [.int .i64 h.Hour, hv1, hv2, hv3], .blk b1 31 [.string b.Name, v1, .int .i64 b.Cells, v3, v4, v5, v6, v7, v8, v9, .int .i64 b.Err]]) rfl (e_alloc zero36) ?_
  intro b3
  refine RW.q (v := (.slice none 0 0)) rfl (q_assign rfl) ?_
  refine RW.nil ?_
  refine Post.then_n ?_
  refine AW.seq ?_
  refine AW.region ?_
  refine RW.q (v := .pointer (some (⟨b2, 1, none⟩))) rfl (q_fieldAddr rfl Try.underlying36 rfl sz32 rfl) ?_
  refine RW.q (v := hv1) rfl (q_load rfl Try.underlying32 rfl (Cell.blk 1 rfl rfl)) ?_
  refine RW.eff (fun x : {y : Value // IsSl y h.Vol.length} => x.1) (fun x => St ⟨w, Φ, []⟩ Φ [.row x.1 42 2 h.Vol.length (flat h.Vol), .blk b3 36 [.int .i64 0, (.slice none 0 0), (.slice none 0 0), (.slice none 0 0)], .blk b2 36 [.int .i64 h.Hour, hv1, hv2, hv3], .blk b1 31 [.string b.Name, v1, .int .i64 b.Cells, v3, v4, v5, v6, v7, v8, v9, .int .i64 b.Err]]) rfl (e_call (args := #[hv1]) own34 rfl rfl (fun w1 hw1 => cloneV_c rfl hr1 w1 hw1)) ?_
  rintro ⟨cv1, hcv1⟩
  refine RW.q (v := .pointer (some (⟨b2, 1, none⟩))) rfl (q_fieldAddr rfl Try.underlying36 rfl sz32 rfl) ?_
  refine RW.effn (J' := St ⟨w, Φ, []⟩ Φ [.row cv1 42 2 h.Vol.length (flat h.Vol), .blk b3 36 [.int .i64 0, (.slice none 0 0), (.slice none 0 0), (.slice none 0 0)], .blk b2 36 [.int .i64 h.Hour, cv1, hv2, hv3], .blk b1 31 [.string b.Name, v1, .int .i64 b.Cells, v3, v4, v5, v6, v7, v8, v9, .int .i64 b.Err]]) (e_storeSl (v := cv1) 2 rfl rfl rfl hcv1 sz32 rfl rfl rfl) ?_
  refine RW.nil ?_
  refine Post.then_n ?_
  refine AW.seq ?_
  refine AW.region ?_
  refine RW.q (v := .pointer (some (⟨b2, 2, none⟩))) rfl (q_fieldAddr rfl Try.underlying36 rfl sz33 rfl) ?_
  refine RW.q (v := hv2) rfl (q_load rfl Try.underlying33 rfl (Cell.blk 2 rfl rfl)) ?_
  refine RW.eff (fun x : {y : Value // IsSl y h.Queue.length} => x.1) (fun x => St ⟨w, Φ, []⟩ Φ [.row x.1 93 4 h.Queue.length (flat h.Queue), .row cv1 42 2 h.Vol.length (flat h.Vol), .blk b3 36 [.int .i64 0, (.slice none 0 0), (.slice none 0 0), (.slice none 0 0)], .blk b2 36 [.int .i64 h.Hour, cv1, hv2, hv3], .blk b1 31 [.string b.Name, v1, .int .i64 b.Cells, v3, v4, v5, v6, v7, v8, v9, .int .i64 b.Err]]) rfl (e_call (args := #[hv2]) own35 rfl rfl (fun w1 hw1 => cloneQ_c rfl hr2 w1 hw1)) ?_
  rintro ⟨cv2, hcv2⟩
  refine RW.q (v := .pointer (some (⟨b2, 2, none⟩))) rfl (q_fieldAddr rfl Try.underlying36 rfl sz33 rfl) ?_
  refine RW.effn (J' := St ⟨w, Φ, []⟩ Φ [.row cv2 93 4 h.Queue.length (flat h.Queue), .row cv1 42 2 h.Vol.length (flat h.Vol), .blk b3 36 [.int .i64 0, (.slice none 0 0), (.slice none 0 0), (.slice none 0 0)], .blk b2 36 [.int .i64 h.Hour, cv1, cv2, hv3], .blk b1 31 [.string b.Name, v1, .int .i64 b.Cells, v3, v4, v5, v6, v7, v8, v9, .int .i64 b.Err]]) (e_storeSl (v := cv2) 3 rfl rfl rfl hcv2 sz33 rfl rfl rfl) ?_
  refine RW.nil ?_
  refine Post.then_n ?_
  refine AW.seq ?_
  refine AW.region ?_
  refine RW.q (v := .pointer (some (⟨b2, 3, none⟩))) rfl (q_fieldAddr rfl Try.underlying36 rfl sz34 rfl) ?_
  refine RW.q (v := hv3) rfl (q_load rfl Try.underlying34 rfl (Cell.blk 3 rfl rfl)) ?_
  refine RW.eff (fun x : {y : Value // IsSl y h.Links.length} => x.1) (fun x => St ⟨w, Φ, []⟩ Φ [.row x.1 79 5 h.Links.length (flat h.Links), .row cv2 93 4 h.Queue.length (flat h.Queue), .row cv1 42 2 h.Vol.length (flat h.Vol), .blk b3 36 [.int .i64 0, (.slice none 0 0), (.slice none 0 0), (.slice none 0 0)], .blk b2 36 [.int .i64 h.Hour, cv1, cv2, hv3], .blk b1 31 [.string b.Name, v1, .int .i64 b.Cells, v3, v4, v5, v6, v7, v8, v9, .int .i64 b.Err]]) rfl (e_call (args := #[hv3]) own36 rfl rfl (fun w1 hw1 => cloneL_c rfl hr3 w1 hw1)) ?_
  rintro ⟨cv3, hcv3⟩
  refine RW.q (v := .pointer (some (⟨b2, 3, none⟩))) rfl (q_fieldAddr rfl Try.underlying36 rfl sz34 rfl) ?_
  refine RW.effn (J' := St ⟨w, Φ, []⟩ Φ [.row cv3 79 5 h.Links.length (flat h.Links), .row cv2 93 4 h.Queue.length (flat h.Queue), .row cv1 42 2 h.Vol.length (flat h.Vol), .blk b3 36 [.int .i64 0, (.slice none 0 0), (.slice none 0 0), (.slice none 0 0)], .blk b2 36 [.int .i64 h.Hour, cv1, cv2, cv3], .blk b1 31 [.string b.Name, v1, .int .i64 b.Cells, v3, v4, v5, v6, v7, v8, v9, .int .i64 b.Err]]) (e_storeSl (v := cv3) 4 rfl rfl rfl hcv3 sz34 rfl rfl rfl) ?_
  refine RW.nil ?_
  refine Post.then_n ?_
  refine AW.seq ?_
  refine AW.region ?_
  refine RW.q (v := (.slice none 0 0)) rfl (q_assign rfl) ?_
  refine RW.nil ?_
  refine Post.then_n ?_
  refine AW.seq ?_
  refine AW.seq ?_
  refine AW.region ?_
  refine RW.q (v := lv) rfl (q_move rfl) ?_
  refine RW.q (v := .int .i64 ((l.length : Nat) : Int)) rfl (q_len_sl rfl hl.sl Try.underlying37) ?_
  refine RW.q (v := .int .i64 0) rfl (q_move rfl) ?_
  refine RW.nil ?_
  refine Post.then_n ?_
  refine AW.block ?_
  refine AW.loop (fun s J m => ∃ (k : Nat), ∃ (M : List Bt.Reading), ∃ (nv : Value), s = [(3, .pointer (some (⟨b1, 0, none⟩))), (4, .pointer (some (⟨b2, 0, none⟩))), (6, .pointer (some (⟨b3, 0, none⟩))), (31, lv), (32, .int .i64 ((l.length : Nat) : Int)), (8, nv), (33, .int .i64 (k : Int))] ∧ J = St ⟨w, Φ, []⟩ Φ [.row nv 46 4 M.length (flat M), .row cv3 79 5 h.Links.length (flat h.Links), .row cv2 93 4 h.Queue.length (flat h.Queue), .row cv1 42 2 h.Vol.length (flat h.Vol), .blk b3 36 [.int .i64 0, (.slice none 0 0), (.slice none 0 0), (.slice none 0 0)], .blk b2 36 [.int .i64 h.Hour, cv1, cv2, cv3], .blk b1 31 [.string b.Name, v1, .int .i64 b.Cells, v3, v4, v5, v6, v7, v8, v9, .int .i64 b.Err]] ∧ m = l.length - k ∧ (k ≤ l.length) ∧ (M = Fu.atH h.Hour (l.take k)) ∧ (IsSl nv M.length) ∧ (M.length ≤ k)) (s0 := _) (J1 := _) (m0 := _) ⟨0, [], _, rfl, rfl, rfl, (by omega), rfl, isSl_nil, (by simp)⟩ ⟨rfl, rfl, rfl, rfl, rfl, rfl, rfl, trivial⟩ (fun _ h => addNil h) ?_
  rintro _ _ _ _ ⟨k, M, nv, rfl, rfl, rfl, hk, hM, hnv, hMl⟩
  refine AW.seq ?_
  refine AW.region ?_
  refine RW.q (v := .bool (decide ((k : Int) < ((l.length : Nat) : Int)))) rfl (q_lss rfl rfl) ?_
  refine RW.nil ?_
  refine Post.then_n ?_
  refine AW.seq ?_
  refine AW.cond (b := decide ((k : Int) < ((l.length : Nat) : Int))) rfl (fun hc1 => ?_) (fun hc1 => ?_)
  · simp [-List.getD_eq_getElem?_getD] at hc1
    refine AW.skip ?_
    refine Post.then_n ?_
    refine AW.seq ?_
    refine AW.block ?_
    refine AW.seq ?_
    refine AW.region ?_
    refine RW.q (v := .pointer (some (Value.at lv (k * 4)))) rfl (q_indexAddr rfl rfl hl.sl Try.underlying37 sz46 (by omega) (by omega) rfl) ?_
    refine RW.q (v := .agg #[.int .i64 ((l.getD k default).Gauge), .int .i64 ((l.getD k default).Hour), .int .i64 ((l.getD k default).Value.Lo), .int .i64 ((l.getD k default).Value.Hi)]) rfl (q_loadAgg rfl Try.underlying46 rfl sz46 rfl (Cells.repE hl (by omega) rfl)) ?_
    refine RW.eff (fun b4 : Nat => .pointer (some (⟨b4, 0, none⟩))) (fun b4 => St ⟨w, Φ, []⟩ Φ [.blk b4 46 [.int .i64 0, .int .i64 0, .int .i64 0, .int .i64 0], .row nv 46 4 M.length (flat M), .row cv3 79 5 h.Links.length (flat h.Links), .row cv2 93 4 h.Queue.length (flat h.Queue), .row cv1 42 2 h.Vol.length (flat h.Vol), .blk b3 36 [.int .i64 0, (.slice none 0 0), (.slice none 0 0), (.slice none 0 0)], .blk b2 36 [.int .i64 h.Hour, cv1, cv2, cv3], .blk b1 31 [.string b.Name, v1, .int .i64 b.Cells, v3, v4, v5, v6, v7, v8, v9, .int .i64 b.Err]]) rfl (e_alloc zero46) ?_
    intro b4
    refine RW.effn (J' := St ⟨w, Φ, []⟩ Φ [.blk b4 46 [.int .i64 ((l.getD k default).Gauge), .int .i64 ((l.getD k default).Hour), .int .i64 ((l.getD k default).Value.Lo), .int .i64 ((l.getD k default).Value.Hi)], .row nv 46 4 M.length (flat M), .row cv3 79 5 h.Links.length (flat h.Links), .row cv2 93 4 h.Queue.length (flat h.Queue), .row cv1 42 2 h.Vol.length (flat h.Vol), .blk b3 36 [.int .i64 0, (.slice none 0 0), (.slice none 0 0), (.slice none 0 0)], .blk b2 36 [.int .i64 h.Hour, cv1, cv2, cv3], .blk b1 31 [.string b.Name, v1, .int .i64 b.Cells, v3, v4, v5, v6, v7, v8, v9, .int .i64 b.Err]]) (e_store (v := .agg #[.int .i64 ((l.getD k default).Gauge), .int .i64 ((l.getD k default).Hour), .int .i64 ((l.getD k default).Value.Lo), .int .i64 ((l.getD k default).Value.Hi)]) 0 rfl rfl rfl sz46 rfl rfl rfl rfl rfl) ?_
    refine RW.nil ?_
    refine Post.then_n ?_
    refine AW.seq ?_
    refine AW.region ?_
    refine RW.q (v := .pointer (some (⟨b4, 1, none⟩))) rfl (q_fieldAddr rfl Try.underlying46 rfl sz3 rfl) ?_
    refine RW.q (v := .int .i64 ((l.getD k default).Hour)) rfl (q_load rfl Try.underlying3 rfl (Cell.blk 0 rfl rfl)) ?_
    refine RW.q (v := .pointer (some (⟨b2, 0, none⟩))) rfl (q_fieldAddr rfl Try.underlying36 rfl sz3 rfl) ?_
    refine RW.q (v := .int .i64 h.Hour) rfl (q_load rfl Try.underlying3 rfl (Cell.blk 6 rfl rfl)) ?_
    refine RW.q (v := .bool (decide ((l.getD k default).Hour = h.Hour))) rfl (q_eql rfl rfl) ?_
    refine RW.nil ?_
    refine Post.then_n ?_
    refine AW.cond (b := decide ((l.getD k default).Hour = h.Hour)) rfl (fun hc2 => ?_) (fun hc2 => ?_)
    · simp [-List.getD_eq_getElem?_getD] at hc2
      refine AW.region ?_
      refine RW.q (v := nv) rfl (q_move rfl) ?_
      refine RW.q (v := .agg #[.int .i64 ((l.getD k default).Gauge), .int .i64 ((l.getD k default).Hour), .int .i64 ((l.getD k default).Value.Lo), .int .i64 ((l.getD k default).Value.Hi)]) rfl (q_loadAgg rfl Try.underlying46 rfl sz46 rfl (Cells.blk 0 rfl)) ?_
      refine RW.eff (fun b5 : Nat => (.slice (some ⟨b5, 0, none⟩) 1 1)) (fun b5 => St ⟨w, Φ, []⟩ Φ [.row (.slice (some ⟨b5, 0, none⟩) 1 1) 46 4 1 ([.int .i64 ((l.getD k default).Gauge), .int .i64 ((l.getD k default).Hour), .int .i64 ((l.getD k default).Value.Lo), .int .i64 ((l.getD k default).Value.Hi)]), .blk b4 46 [.int .i64 ((l.getD k default).Gauge), .int .i64 ((l.getD k default).Hour), .int .i64 ((l.getD k default).Value.Lo), .int .i64 ((l.getD k default).Value.Hi)], .row nv 46 4 M.length (flat M), .row cv3 79 5 h.Links.length (flat h.Links), .row cv2 93 4 h.Queue.length (flat h.Queue), .row cv1 42 2 h.Vol.length (flat h.Vol), .blk b3 36 [.int .i64 0, (.slice none 0 0), (.slice none 0 0), (.slice none 0 0)], .blk b2 36 [.int .i64 h.Hour, cv1, cv2, cv3], .blk b1 31 [.string b.Name, v1, .int .i64 b.Cells, v3, v4, v5, v6, v7, v8, v9, .int .i64 b.Err]]) rfl (e_buildSlice (vals := [(0, .agg #[.int .i64 ((l.getD k default).Gauge), .int .i64 ((l.getD k default).Hour), .int .i64 ((l.getD k default).Value.Lo), .int .i64 ((l.getD k default).Value.Hi)])]) (cells := [.int .i64 ((l.getD k default).Gauge), .int .i64 ((l.getD k default).Hour), .int .i64 ((l.getD k default).Value.Lo), .int .i64 ((l.getD k default).Value.Hi)]) Try.underlying37 inf46 rfl rfl rfl (by kernel_rfl) rfl) ?_
      intro b5
      refine RW.eff (fun xv : {vq : Value // IsSl vq (M.length + 1)} => xv.1) (fun xv => St ⟨w, Φ, []⟩ Φ [.row (.slice (some ⟨b5, 0, none⟩) 1 1) 46 4 1 ([.int .i64 ((l.getD k default).Gauge), .int .i64 ((l.getD k default).Hour), .int .i64 ((l.getD k default).Value.Lo), .int .i64 ((l.getD k default).Value.Hi)]), .blk b4 46 [.int .i64 ((l.getD k default).Gauge), .int .i64 ((l.getD k default).Hour), .int .i64 ((l.getD k default).Value.Lo), .int .i64 ((l.getD k default).Value.Hi)], .row xv.1 46 4 ((M ++ [(⟨(l.getD k default).Gauge, (l.getD k default).Hour, ⟨(l.getD k default).Value.Lo, (l.getD k default).Value.Hi⟩⟩ : Bt.Reading)]).length) (flat (M ++ [(⟨(l.getD k default).Gauge, (l.getD k default).Hour, ⟨(l.getD k default).Value.Lo, (l.getD k default).Value.Hi⟩⟩ : Bt.Reading)])), .row cv3 79 5 h.Links.length (flat h.Links), .row cv2 93 4 h.Queue.length (flat h.Queue), .row cv1 42 2 h.Vol.length (flat h.Vol), .blk b3 36 [.int .i64 0, (.slice none 0 0), (.slice none 0 0), (.slice none 0 0)], .blk b2 36 [.int .i64 h.Hour, cv1, cv2, cv3], .blk b1 31 [.string b.Name, v1, .int .i64 b.Cells, v3, v4, v5, v6, v7, v8, v9, .int .i64 b.Err]]) rfl (e_append 2 rfl rfl rfl Try.underlying37 inf46 rfl rfl rfl (Cells.row0 0 rfl) rfl (by omega) (by omega) (fun _ => by simp [flat] <;> rfl)) ?_
      rintro ⟨va1, hva1⟩
      refine RW.wk (J' := St ⟨w, Φ, []⟩ Φ [.blk b4 46 [.int .i64 ((l.getD k default).Gauge), .int .i64 ((l.getD k default).Hour), .int .i64 ((l.getD k default).Value.Lo), .int .i64 ((l.getD k default).Value.Hi)], .row va1 46 4 ((M ++ [(⟨(l.getD k default).Gauge, (l.getD k default).Hour, ⟨(l.getD k default).Value.Lo, (l.getD k default).Value.Hi⟩⟩ : Bt.Reading)]).length) (flat (M ++ [(⟨(l.getD k default).Gauge, (l.getD k default).Hour, ⟨(l.getD k default).Value.Lo, (l.getD k default).Value.Hi⟩⟩ : Bt.Reading)])), .row cv3 79 5 h.Links.length (flat h.Links), .row cv2 93 4 h.Queue.length (flat h.Queue), .row cv1 42 2 h.Vol.length (flat h.Vol), .blk b3 36 [.int .i64 0, (.slice none 0 0), (.slice none 0 0), (.slice none 0 0)], .blk b2 36 [.int .i64 h.Hour, cv1, cv2, cv3], .blk b1 31 [.string b.Name, v1, .int .i64 b.Cells, v3, v4, v5, v6, v7, v8, v9, .int .i64 b.Err]]) (fun _ h => StP.drop h (by exact .cons _ (.cons_cons _ (.cons_cons _ (.cons_cons _ (.cons_cons _ (.cons_cons _ (.cons_cons _ (.cons_cons _ (.cons_cons _ (.slnil))))))))))) ?_
      refine RW.q (v := va1) rfl (q_assign rfl) ?_
      refine RW.nil ?_
      refine Post.blk_n (Post.then_n ?_)
      refine AW.region ?_
      refine RW.q (v := .int .i64 ((k + 1 : Nat) : Int)) rfl (q_add rfl rfl (by omega) (by unfold I64; omega)) ?_
      refine RW.q (v := .int .i64 ((k + 1 : Nat) : Int)) rfl (q_move rfl) ?_
      refine RW.nil ?_
      have hkl : k < l.length := by omega
      exact Post.back (s' := _) (J' := _) (m' := _) (by omega) ⟨k + 1, M ++ [(l.getD k default)], va1, rfl, rfl, rfl, (by omega), (by rw [Fu.atH_snoc hkl, if_pos hc2, hM]), (by simpa using hva1), (by simp; omega)⟩ ⟨rfl, rfl, rfl, rfl, rfl, rfl, rfl, trivial⟩ (fun _ h => StP.drop h (by exact .cons _ (.cons_cons _ (.cons_cons _ (.cons_cons _ (.cons_cons _ (.cons_cons _ (.cons_cons _ (.cons_cons _ (.slnil))))))))))
    · simp [-List.getD_eq_getElem?_getD] at hc2
      refine AW.skip ?_
      refine Post.blk_n (Post.then_n ?_)
      refine AW.region ?_
      refine RW.q (v := .int .i64 ((k + 1 : Nat) : Int)) rfl (q_add rfl rfl (by omega) (by unfold I64; omega)) ?_
      refine RW.q (v := .int .i64 ((k + 1 : Nat) : Int)) rfl (q_move rfl) ?_
      refine RW.nil ?_
      have hkl : k < l.length := by omega
      exact Post.back (s' := _) (J' := _) (m' := _) (by omega) ⟨k + 1, M, nv, rfl, rfl, rfl, (by omega), (by rw [Fu.atH_snoc hkl, if_neg hc2, hM]), hnv, (by omega)⟩ ⟨rfl, rfl, rfl, rfl, rfl, rfl, rfl, trivial⟩ (fun _ h => StP.drop h (by exact .cons _ (.cons_cons _ (.cons_cons _ (.cons_cons _ (.cons_cons _ (.cons_cons _ (.cons_cons _ (.cons_cons _ (.slnil))))))))))
  · simp [-List.getD_eq_getElem?_getD] at hc1
    refine AW.exit ?_
    refine Post.then_x (Post.then_x (Post.blk_hit (Post.then_n ?_)))
    refine AW.seq ?_
    refine AW.region ?_
    refine RW.q (v := nv) rfl (q_move rfl) ?_
    refine RW.eff (fun x : {L' : List Bt.Reading // Sorts.Upd (fun r : Bt.Reading => r.Gauge) 0 M.length M L' ∧ Sorts.SrtI (fun r : Bt.Reading => r.Gauge) L' 0 M.length} => (.tuple #[])) (fun x => St ⟨w, Φ, []⟩ Φ [.row nv 46 4 M.length (flat x.1), .row cv3 79 5 h.Links.length (flat h.Links), .row cv2 93 4 h.Queue.length (flat h.Queue), .row cv1 42 2 h.Vol.length (flat h.Vol), .blk b3 36 [.int .i64 0, (.slice none 0 0), (.slice none 0 0), (.slice none 0 0)], .blk b2 36 [.int .i64 h.Hour, cv1, cv2, cv3], .blk b1 31 [.string b.Name, v1, .int .i64 b.Cells, v3, v4, v5, v6, v7, v8, v9, .int .i64 b.Err]]) rfl (e_call (args := #[nv, .func (.func 38) #[] #[]]) own37 rfl rfl (fun w1 hw1 => sortStable_c rfl hnv rfl (by omega) w1 hw1)) ?_
    rintro ⟨K1, hK1⟩
    refine RW.nil ?_
    refine Post.then_n ?_
    refine AW.seq ?_
    refine AW.region ?_
    refine RW.q (v := (.slice none 0 0)) rfl (q_assign rfl) ?_
    refine RW.nil ?_
    refine Post.then_n ?_
    refine AW.seq ?_
    refine AW.seq ?_
    have hsl : K1.length = M.length := hK1.1.len (Nat.zero_le _)
    have hMM : M = Fu.atH h.Hour l := by rw [hM, List.take_of_length_le (by omega)]
    have hrw := hl.wfE
    have hVw0 := hr1.wfE
    have hKw0 := hr3.wfE
    have hsw : ∀ x ∈ K1, RepE.wf x := fun x hx => hrw x (by have h9 := (hK1.1.mid.symm.mem (x := x)) (by rw [← hsl, Sorts.seg_all]; exact hx); rw [Sorts.seg_all, hMM] at h9; exact (List.mem_filter.1 h9).1)
    refine AW.region ?_
    refine RW.q (v := nv) rfl (q_move rfl) ?_
    refine RW.q (v := .int .i64 ((M.length : Nat) : Int)) rfl (q_len_sl rfl hnv Try.underlying37) ?_
    refine RW.q (v := .int .i64 0) rfl (q_move rfl) ?_
    refine RW.nil ?_
    refine Post.then_n ?_
    refine AW.block ?_
    refine AW.loop (fun s J m => ∃ (k : Nat), ∃ (F : Fu.FS), ∃ (zv : Value), s = [(3, .pointer (some (⟨b1, 0, none⟩))), (4, .pointer (some (⟨b2, 0, none⟩))), (6, .pointer (some (⟨b3, 0, none⟩))), (49, nv), (50, .int .i64 ((M.length : Nat) : Int)), (11, zv), (51, .int .i64 (k : Int))] ∧ J = St ⟨w, Φ, []⟩ Φ [.row zv 3 1 F.N.length (F.N.map (Value.int .i64)), .row nv 46 4 M.length (flat K1), .row cv3 79 5 h.Links.length (flat F.K), .row cv2 93 4 h.Queue.length (flat h.Queue), .row cv1 42 2 h.Vol.length (flat F.V), .blk b3 36 [.int .i64 0, (.slice none 0 0), (.slice none 0 0), (.slice none 0 0)], .blk b2 36 [.int .i64 h.Hour, cv1, cv2, cv3], .blk b1 31 [.string b.Name, v1, .int .i64 b.Cells, v3, v4, v5, v6, v7, v8, v9, .int .i64 b.Err]] ∧ m = M.length - k ∧ (k ≤ M.length) ∧ (F = (K1.take k).foldl (Fu.stepF b) ⟨h.Vol, h.Links, []⟩) ∧ (IsSl zv F.N.length) ∧ (F.N.length ≤ k) ∧ (F.V.length = h.Vol.length) ∧ (F.K.length = h.Links.length) ∧ (∀ x ∈ F.V, RepE.wf x) ∧ (∀ x ∈ F.K, RepE.wf x) ∧ (∀ x ∈ F.N, I64 x)) (s0 := _) (J1 := _) (m0 := _) ⟨0, ⟨h.Vol, h.Links, []⟩, _, rfl, rfl, rfl, (by omega), rfl, isSl_nil, (by simp), rfl, rfl, hVw0, hKw0, (fun x hx => by cases hx)⟩ ⟨rfl, rfl, rfl, rfl, rfl, rfl, rfl, trivial⟩ (fun _ h => addNil h) ?_
    rintro _ _ _ _ ⟨k, F, zv, rfl, rfl, rfl, hk2, hF, hzv, hNl, hVl, hKl, hVw, hKw, hNw⟩
    refine AW.seq ?_
    refine AW.region ?_
    refine RW.q (v := .bool (decide ((k : Int) < ((M.length : Nat) : Int)))) rfl (q_lss rfl rfl) ?_
    refine RW.nil ?_
    refine Post.then_n ?_
    refine AW.seq ?_
    refine AW.cond (b := decide ((k : Int) < ((M.length : Nat) : Int))) rfl (fun hc3 => ?_) (fun hc3 => ?_)
    · simp [-List.getD_eq_getElem?_getD] at hc3
      refine AW.skip ?_
      refine Post.then_n ?_
      refine AW.seq ?_
      refine AW.block ?_
      refine AW.seq ?_
      have hks : k < K1.length := by omega
      have hsk : RepE.wf (K1.getD k default) := hsw _ (Fu.getD_mem hks)
      refine AW.region ?_
      refine RW.q (v := .pointer (some (Value.at nv (k * 4)))) rfl (q_indexAddr rfl rfl hnv Try.underlying37 sz46 (by omega) (by omega) rfl) ?_
      refine RW.q (v := .agg #[.int .i64 ((K1.getD k default).Gauge), .int .i64 ((K1.getD k default).Hour), .int .i64 ((K1.getD k default).Value.Lo), .int .i64 ((K1.getD k default).Value.Hi)]) rfl (q_loadAgg rfl Try.underlying46 rfl sz46 rfl (Cells.rowE even46 1 rfl (by omega) rfl)) ?_
      refine RW.eff (fun b6 : Nat => .pointer (some (⟨b6, 0, none⟩))) (fun b6 => St ⟨w, Φ, []⟩ Φ [.blk b6 46 [.int .i64 0, .int .i64 0, .int .i64 0, .int .i64 0], .row zv 3 1 F.N.length (F.N.map (Value.int .i64)), .row nv 46 4 M.length (flat K1), .row cv3 79 5 h.Links.length (flat F.K), .row cv2 93 4 h.Queue.length (flat h.Queue), .row cv1 42 2 h.Vol.length (flat F.V), .blk b3 36 [.int .i64 0, (.slice none 0 0), (.slice none 0 0), (.slice none 0 0)], .blk b2 36 [.int .i64 h.Hour, cv1, cv2, cv3], .blk b1 31 [.string b.Name, v1, .int .i64 b.Cells, v3, v4, v5, v6, v7, v8, v9, .int .i64 b.Err]]) rfl (e_alloc zero46) ?_
      intro b6
      refine RW.effn (J' := St ⟨w, Φ, []⟩ Φ [.blk b6 46 [.int .i64 ((K1.getD k default).Gauge), .int .i64 ((K1.getD k default).Hour), .int .i64 ((K1.getD k default).Value.Lo), .int .i64 ((K1.getD k default).Value.Hi)], .row zv 3 1 F.N.length (F.N.map (Value.int .i64)), .row nv 46 4 M.length (flat K1), .row cv3 79 5 h.Links.length (flat F.K), .row cv2 93 4 h.Queue.length (flat h.Queue), .row cv1 42 2 h.Vol.length (flat F.V), .blk b3 36 [.int .i64 0, (.slice none 0 0), (.slice none 0 0), (.slice none 0 0)], .blk b2 36 [.int .i64 h.Hour, cv1, cv2, cv3], .blk b1 31 [.string b.Name, v1, .int .i64 b.Cells, v3, v4, v5, v6, v7, v8, v9, .int .i64 b.Err]]) (e_store (v := .agg #[.int .i64 ((K1.getD k default).Gauge), .int .i64 ((K1.getD k default).Hour), .int .i64 ((K1.getD k default).Value.Lo), .int .i64 ((K1.getD k default).Value.Hi)]) 0 rfl rfl rfl sz46 rfl rfl rfl rfl rfl) ?_
      refine RW.nil ?_
      refine Post.then_n ?_
      refine AW.seq ?_
      refine AW.region ?_
      refine RW.q (v := .agg #[.string b.Name, v1, .int .i64 b.Cells, v3, v4, v5, v6, v7, v8, v9, .int .i64 b.Err]) rfl (q_loadAgg rfl Try.underlying31 rfl sz31 rfl (Cells.blk 8 rfl)) ?_
      refine RW.q (v := .agg #[.int .i64 ((K1.getD k default).Gauge), .int .i64 ((K1.getD k default).Hour), .int .i64 ((K1.getD k default).Value.Lo), .int .i64 ((K1.getD k default).Value.Hi)]) rfl (q_loadAgg rfl Try.underlying46 rfl sz46 rfl (Cells.blk 0 rfl)) ?_
      refine RW.q (v := .tuple #[.agg #[.string ((Fu.gaugeAt b.Gauges ((K1.getD k default).Gauge)).Name), .int .i64 ((Fu.gaugeAt b.Gauges ((K1.getD k default).Gauge)).Kind), .int .i64 ((Fu.gaugeAt b.Gauges ((K1.getD k default).Gauge)).Target), .int .i64 ((Fu.gaugeAt b.Gauges ((K1.getD k default).Gauge)).Err), .int .i64 ((Fu.gaugeAt b.Gauges ((K1.getD k default).Gauge)).Drift)], .bool (decide (Fu.inG b.Gauges ((K1.getD k default).Gauge)))]) rfl (q_call (args := #[.agg #[.string b.Name, v1, .int .i64 b.Cells, v3, v4, v5, v6, v7, v8, v9, .int .i64 b.Err], .agg #[.int .i64 ((K1.getD k default).Gauge), .int .i64 ((K1.getD k default).Hour), .int .i64 ((K1.getD k default).Value.Lo), .int .i64 ((K1.getD k default).Value.Hi)]]) own26 rfl rfl (fun w1 hw1 => gaugeOf_c w1 (Go.K.hp w1) (Hp.le_refl _) (hB.mono hw1.phi) (r := (K1.getD k default)))) ?_
      refine RW.q (v := .tuple #[.agg #[.string ((Fu.gaugeAt b.Gauges ((K1.getD k default).Gauge)).Name), .int .i64 ((Fu.gaugeAt b.Gauges ((K1.getD k default).Gauge)).Kind), .int .i64 ((Fu.gaugeAt b.Gauges ((K1.getD k default).Gauge)).Target), .int .i64 ((Fu.gaugeAt b.Gauges ((K1.getD k default).Gauge)).Err), .int .i64 ((Fu.gaugeAt b.Gauges ((K1.getD k default).Gauge)).Drift)], .bool (decide (Fu.inG b.Gauges ((K1.getD k default).Gauge)))]) rfl (q_move rfl) ?_
      refine RW.q (v := .agg #[.string ((Fu.gaugeAt b.Gauges ((K1.getD k default).Gauge)).Name), .int .i64 ((Fu.gaugeAt b.Gauges ((K1.getD k default).Gauge)).Kind), .int .i64 ((Fu.gaugeAt b.Gauges ((K1.getD k default).Gauge)).Target), .int .i64 ((Fu.gaugeAt b.Gauges ((K1.getD k default).Gauge)).Err), .int .i64 ((Fu.gaugeAt b.Gauges ((K1.getD k default).Gauge)).Drift)]) rfl (q_extract rfl rfl) ?_
      refine RW.q (v := .bool (decide (Fu.inG b.Gauges ((K1.getD k default).Gauge)))) rfl (q_extract rfl rfl) ?_
      refine RW.eff (fun b7 : Nat => .pointer (some (⟨b7, 0, none⟩))) (fun b7 => St ⟨w, Φ, []⟩ Φ [.blk b7 58 [.string (bs ([])), .int .i64 0, .int .i64 0, .int .i64 0, .int .i64 0], .blk b6 46 [.int .i64 ((K1.getD k default).Gauge), .int .i64 ((K1.getD k default).Hour), .int .i64 ((K1.getD k default).Value.Lo), .int .i64 ((K1.getD k default).Value.Hi)], .row zv 3 1 F.N.length (F.N.map (Value.int .i64)), .row nv 46 4 M.length (flat K1), .row cv3 79 5 h.Links.length (flat F.K), .row cv2 93 4 h.Queue.length (flat h.Queue), .row cv1 42 2 h.Vol.length (flat F.V), .blk b3 36 [.int .i64 0, (.slice none 0 0), (.slice none 0 0), (.slice none 0 0)], .blk b2 36 [.int .i64 h.Hour, cv1, cv2, cv3], .blk b1 31 [.string b.Name, v1, .int .i64 b.Cells, v3, v4, v5, v6, v7, v8, v9, .int .i64 b.Err]]) rfl (e_alloc zero58) ?_
      intro b7
      refine RW.effn (J' := St ⟨w, Φ, []⟩ Φ [.blk b7 58 [.string ((Fu.gaugeAt b.Gauges ((K1.getD k default).Gauge)).Name), .int .i64 ((Fu.gaugeAt b.Gauges ((K1.getD k default).Gauge)).Kind), .int .i64 ((Fu.gaugeAt b.Gauges ((K1.getD k default).Gauge)).Target), .int .i64 ((Fu.gaugeAt b.Gauges ((K1.getD k default).Gauge)).Err), .int .i64 ((Fu.gaugeAt b.Gauges ((K1.getD k default).Gauge)).Drift)], .blk b6 46 [.int .i64 ((K1.getD k default).Gauge), .int .i64 ((K1.getD k default).Hour), .int .i64 ((K1.getD k default).Value.Lo), .int .i64 ((K1.getD k default).Value.Hi)], .row zv 3 1 F.N.length (F.N.map (Value.int .i64)), .row nv 46 4 M.length (flat K1), .row cv3 79 5 h.Links.length (flat F.K), .row cv2 93 4 h.Queue.length (flat h.Queue), .row cv1 42 2 h.Vol.length (flat F.V), .blk b3 36 [.int .i64 0, (.slice none 0 0), (.slice none 0 0), (.slice none 0 0)], .blk b2 36 [.int .i64 h.Hour, cv1, cv2, cv3], .blk b1 31 [.string b.Name, v1, .int .i64 b.Cells, v3, v4, v5, v6, v7, v8, v9, .int .i64 b.Err]]) (e_store (v := .agg #[.string ((Fu.gaugeAt b.Gauges ((K1.getD k default).Gauge)).Name), .int .i64 ((Fu.gaugeAt b.Gauges ((K1.getD k default).Gauge)).Kind), .int .i64 ((Fu.gaugeAt b.Gauges ((K1.getD k default).Gauge)).Target), .int .i64 ((Fu.gaugeAt b.Gauges ((K1.getD k default).Gauge)).Err), .int .i64 ((Fu.gaugeAt b.Gauges ((K1.getD k default).Gauge)).Drift)]) 0 rfl rfl rfl sz58 rfl rfl rfl rfl rfl) ?_
      refine RW.q (v := .bool (decide (Fu.inG b.Gauges ((K1.getD k default).Gauge)))) rfl (q_assign rfl) ?_
      refine RW.nil ?_
      refine Post.then_n ?_
      refine AW.seq ?_
      refine AW.region ?_
      refine RW.q (v := .bool true) rfl (q_assign rfl) ?_
      refine RW.nil ?_
      refine Post.then_n ?_
      refine AW.seq ?_
      refine AW.block ?_
      refine AW.seq ?_
      refine AW.region ?_
      refine RW.q (v := .bool (decide (Fu.inG b.Gauges ((K1.getD k default).Gauge)))) rfl (q_move rfl) ?_
      refine RW.q (v := .bool (!(decide (Fu.inG b.Gauges ((K1.getD k default).Gauge))))) rfl (q_not rfl) ?_
      refine RW.q (v := .bool (!(decide (Fu.inG b.Gauges ((K1.getD k default).Gauge))))) rfl (q_move rfl) ?_
      refine RW.g (b := (!(decide (Fu.inG b.Gauges ((K1.getD k default).Gauge))))) (v := .pointer (some (⟨b7, 2, none⟩))) rfl rfl rfl (fun h => q_fieldAddr rfl Try.underlying58 rfl sz3 rfl) ?_
      refine RW.g (b := (!(decide (Fu.inG b.Gauges ((K1.getD k default).Gauge))))) (v := .int .i64 ((Fu.gaugeAt b.Gauges ((K1.getD k default).Gauge)).Target)) rfl rfl rfl (fun h => q_load (gv_pos h) Try.underlying3 rfl (Cell.blk 0 rfl rfl)) ?_
      refine RW.g (b := (!(decide (Fu.inG b.Gauges ((K1.getD k default).Gauge))))) (v := .bool (decide ((Fu.gaugeAt b.Gauges ((K1.getD k default).Gauge)).Target < 0))) rfl rfl rfl (fun h => q_lss (gv_pos h) rfl) ?_
      refine RW.q (v := .bool ((!(decide (Fu.inG b.Gauges ((K1.getD k default).Gauge)))) || (decide ((Fu.gaugeAt b.Gauges ((K1.getD k default).Gauge)).Target < 0)))) rfl (q_pick rfl (fun hp => pkOrT hp) (fun hp => (gv_pos hp).trans (pkOrF hp))) ?_
      refine RW.q (v := .bool ((!(decide (Fu.inG b.Gauges ((K1.getD k default).Gauge)))) || (decide ((Fu.gaugeAt b.Gauges ((K1.getD k default).Gauge)).Target < 0)))) rfl (q_assign rfl) ?_
      refine RW.nil ?_
      refine Post.then_n ?_
      refine AW.cond (b := (!(decide (Fu.inG b.Gauges ((K1.getD k default).Gauge)))) || (decide ((Fu.gaugeAt b.Gauges ((K1.getD k default).Gauge)).Target < 0))) rfl (fun hc4 => ?_) (fun hc4 => ?_)
      · simp [-List.getD_eq_getElem?_getD] at hc4
        refine AW.skip ?_
        refine Post.blk_n (Post.then_n ?_)
        refine AW.seq ?_
        refine AW.region ?_
        refine RW.q (v := .bool true) rfl (q_move rfl) ?_
        refine RW.q (v := .bool false) rfl (q_not (b := true) rfl) ?_
        refine RW.nil ?_
        refine Post.then_n ?_
        refine AW.cond (b := false) rfl (fun hc5 => ?_) (fun hc5 => ?_)
        · cases hc5
        · skip
          refine AW.skip ?_
          refine Post.blk_n (Post.then_n ?_)
          refine AW.region ?_
          refine RW.q (v := .int .i64 ((k + 1 : Nat) : Int)) rfl (q_add rfl rfl (by omega) (by unfold I64; omega)) ?_
          refine RW.q (v := .int .i64 ((k + 1 : Nat) : Int)) rfl (q_move rfl) ?_
          refine RW.nil ?_
          exact Post.back (s' := _) (J' := _) (m' := _) (by omega) ⟨k + 1, F, zv, rfl, rfl, rfl, (by omega), (by rw [Fu.foldl_takeR _ _ hks, ← hF]; exact (Fu.step0 (Fu.kind0 hc4)).symm), hzv, (by omega), hVl, hKl, hVw, hKw, hNw⟩ ⟨rfl, rfl, rfl, rfl, rfl, rfl, rfl, trivial⟩ (fun _ h => StP.drop h (by exact .cons _ (.cons _ (.cons_cons _ (.cons_cons _ (.cons_cons _ (.cons_cons _ (.cons_cons _ (.cons_cons _ (.cons_cons _ (.cons_cons _ (.slnil))))))))))))
      · simp [-List.getD_eq_getElem?_getD] at hc4
        refine AW.seq ?_
        refine AW.region ?_
        refine RW.q (v := .pointer (some (⟨b7, 1, none⟩))) rfl (q_fieldAddr rfl Try.underlying58 rfl sz3 rfl) ?_
        refine RW.q (v := .int .i64 ((Fu.gaugeAt b.Gauges ((K1.getD k default).Gauge)).Kind)) rfl (q_load rfl Try.underlying3 rfl (Cell.blk 0 rfl rfl)) ?_
        refine RW.q (v := .bool (decide ((Fu.gaugeAt b.Gauges ((K1.getD k default).Gauge)).Kind = 0))) rfl (q_eql rfl rfl) ?_
        refine RW.q (v := .bool (decide ((Fu.gaugeAt b.Gauges ((K1.getD k default).Gauge)).Kind = 0))) rfl (q_move rfl) ?_
        refine RW.g (b := (decide ((Fu.gaugeAt b.Gauges ((K1.getD k default).Gauge)).Kind = 0))) (v := .pointer (some (⟨b7, 2, none⟩))) rfl rfl rfl (fun h => q_fieldAddr rfl Try.underlying58 rfl sz3 rfl) ?_
        refine RW.g (b := (decide ((Fu.gaugeAt b.Gauges ((K1.getD k default).Gauge)).Kind = 0))) (v := .int .i64 ((Fu.gaugeAt b.Gauges ((K1.getD k default).Gauge)).Target)) rfl rfl rfl (fun h => q_load (gv_pos h) Try.underlying3 rfl (Cell.blk 0 rfl rfl)) ?_
        refine RW.g (b := (decide ((Fu.gaugeAt b.Gauges ((K1.getD k default).Gauge)).Kind = 0))) (v := .pointer (some (⟨b2, 1, none⟩))) rfl rfl rfl (fun h => q_fieldAddr rfl Try.underlying36 rfl sz32 rfl) ?_
        refine RW.g (b := (decide ((Fu.gaugeAt b.Gauges ((K1.getD k default).Gauge)).Kind = 0))) (v := cv1) rfl rfl rfl (fun h => q_load (gv_pos h) Try.underlying32 rfl (Cell.blk 8 rfl rfl)) ?_
        refine RW.g (b := (decide ((Fu.gaugeAt b.Gauges ((K1.getD k default).Gauge)).Kind = 0))) (v := .int .i64 ((h.Vol.length : Nat) : Int)) rfl rfl rfl (fun h => q_len_sl (gv_pos h) hcv1 Try.underlying32) ?_
        refine RW.g (b := (decide ((Fu.gaugeAt b.Gauges ((K1.getD k default).Gauge)).Kind = 0))) (v := .bool (decide ((Fu.gaugeAt b.Gauges ((K1.getD k default).Gauge)).Target < ((h.Vol.length : Nat) : Int)))) rfl rfl rfl (fun h => q_lss (gv_pos h) (gv_pos h)) ?_
        refine RW.q (v := .bool ((decide ((Fu.gaugeAt b.Gauges ((K1.getD k default).Gauge)).Kind = 0)) && (decide ((Fu.gaugeAt b.Gauges ((K1.getD k default).Gauge)).Target < ((h.Vol.length : Nat) : Int))))) rfl (q_pick rfl (fun hp => (gv_pos hp).trans (pkAndT hp)) (fun hp => pkAndF hp)) ?_
        refine RW.q (v := .bool ((decide ((Fu.gaugeAt b.Gauges ((K1.getD k default).Gauge)).Kind = 0)) && (decide ((Fu.gaugeAt b.Gauges ((K1.getD k default).Gauge)).Target < ((h.Vol.length : Nat) : Int))))) rfl (q_assign rfl) ?_
        refine RW.nil ?_
        refine Post.then_n ?_
        refine AW.cond (b := (decide ((Fu.gaugeAt b.Gauges ((K1.getD k default).Gauge)).Kind = 0)) && (decide ((Fu.gaugeAt b.Gauges ((K1.getD k default).Gauge)).Target < ((h.Vol.length : Nat) : Int)))) rfl (fun hc6 => ?_) (fun hc6 => ?_)
        · simp [-List.getD_eq_getElem?_getD] at hc6
          refine AW.seq ?_
          refine AW.region ?_
          refine RW.q (v := .agg #[.string b.Name, v1, .int .i64 b.Cells, v3, v4, v5, v6, v7, v8, v9, .int .i64 b.Err]) rfl (q_loadAgg rfl Try.underlying31 rfl sz31 rfl (Cells.blk 9 rfl)) ?_
          refine RW.q (v := .agg #[.int .i64 ((K1.getD k default).Gauge), .int .i64 ((K1.getD k default).Hour), .int .i64 ((K1.getD k default).Value.Lo), .int .i64 ((K1.getD k default).Value.Hi)]) rfl (q_loadAgg rfl Try.underlying46 rfl sz46 rfl (Cells.blk 1 rfl)) ?_
          refine RW.q (v := .tuple #[.agg #[.int .i64 (Fu.loOf (Fu.volR b (K1.getD k default))), .int .i64 (Fu.hiOf (Fu.volR b (K1.getD k default)))], .bool ((Fu.volR b (K1.getD k default)).isSome)]) rfl (q_call (args := #[.agg #[.string b.Name, v1, .int .i64 b.Cells, v3, v4, v5, v6, v7, v8, v9, .int .i64 b.Err], .agg #[.int .i64 ((K1.getD k default).Gauge), .int .i64 ((K1.getD k default).Hour), .int .i64 ((K1.getD k default).Value.Lo), .int .i64 ((K1.getD k default).Value.Hi)]]) own10 rfl rfl (fun w1 hw1 => Volume_c w1 (Go.K.hp w1) (Hp.le_refl _) (hB.mono hw1.phi) (r := (K1.getD k default)) hsk.2.2)) ?_
          refine RW.q (v := .tuple #[.agg #[.int .i64 (Fu.loOf (Fu.volR b (K1.getD k default))), .int .i64 (Fu.hiOf (Fu.volR b (K1.getD k default)))], .bool ((Fu.volR b (K1.getD k default)).isSome)]) rfl (q_move rfl) ?_
          refine RW.q (v := .agg #[.int .i64 (Fu.loOf (Fu.volR b (K1.getD k default))), .int .i64 (Fu.hiOf (Fu.volR b (K1.getD k default)))]) rfl (q_extract rfl rfl) ?_
          refine RW.q (v := .bool ((Fu.volR b (K1.getD k default)).isSome)) rfl (q_extract rfl rfl) ?_
          refine RW.eff (fun b8 : Nat => .pointer (some (⟨b8, 0, none⟩))) (fun b8 => St ⟨w, Φ, []⟩ Φ [.blk b8 42 [.int .i64 0, .int .i64 0], .blk b7 58 [.string ((Fu.gaugeAt b.Gauges ((K1.getD k default).Gauge)).Name), .int .i64 ((Fu.gaugeAt b.Gauges ((K1.getD k default).Gauge)).Kind), .int .i64 ((Fu.gaugeAt b.Gauges ((K1.getD k default).Gauge)).Target), .int .i64 ((Fu.gaugeAt b.Gauges ((K1.getD k default).Gauge)).Err), .int .i64 ((Fu.gaugeAt b.Gauges ((K1.getD k default).Gauge)).Drift)], .blk b6 46 [.int .i64 ((K1.getD k default).Gauge), .int .i64 ((K1.getD k default).Hour), .int .i64 ((K1.getD k default).Value.Lo), .int .i64 ((K1.getD k default).Value.Hi)], .row zv 3 1 F.N.length (F.N.map (Value.int .i64)), .row nv 46 4 M.length (flat K1), .row cv3 79 5 h.Links.length (flat F.K), .row cv2 93 4 h.Queue.length (flat h.Queue), .row cv1 42 2 h.Vol.length (flat F.V), .blk b3 36 [.int .i64 0, (.slice none 0 0), (.slice none 0 0), (.slice none 0 0)], .blk b2 36 [.int .i64 h.Hour, cv1, cv2, cv3], .blk b1 31 [.string b.Name, v1, .int .i64 b.Cells, v3, v4, v5, v6, v7, v8, v9, .int .i64 b.Err]]) rfl (e_alloc zero42) ?_
          intro b8
          refine RW.effn (J' := St ⟨w, Φ, []⟩ Φ [.blk b8 42 [.int .i64 (Fu.loOf (Fu.volR b (K1.getD k default))), .int .i64 (Fu.hiOf (Fu.volR b (K1.getD k default)))], .blk b7 58 [.string ((Fu.gaugeAt b.Gauges ((K1.getD k default).Gauge)).Name), .int .i64 ((Fu.gaugeAt b.Gauges ((K1.getD k default).Gauge)).Kind), .int .i64 ((Fu.gaugeAt b.Gauges ((K1.getD k default).Gauge)).Target), .int .i64 ((Fu.gaugeAt b.Gauges ((K1.getD k default).Gauge)).Err), .int .i64 ((Fu.gaugeAt b.Gauges ((K1.getD k default).Gauge)).Drift)], .blk b6 46 [.int .i64 ((K1.getD k default).Gauge), .int .i64 ((K1.getD k default).Hour), .int .i64 ((K1.getD k default).Value.Lo), .int .i64 ((K1.getD k default).Value.Hi)], .row zv 3 1 F.N.length (F.N.map (Value.int .i64)), .row nv 46 4 M.length (flat K1), .row cv3 79 5 h.Links.length (flat F.K), .row cv2 93 4 h.Queue.length (flat h.Queue), .row cv1 42 2 h.Vol.length (flat F.V), .blk b3 36 [.int .i64 0, (.slice none 0 0), (.slice none 0 0), (.slice none 0 0)], .blk b2 36 [.int .i64 h.Hour, cv1, cv2, cv3], .blk b1 31 [.string b.Name, v1, .int .i64 b.Cells, v3, v4, v5, v6, v7, v8, v9, .int .i64 b.Err]]) (e_store (v := .agg #[.int .i64 (Fu.loOf (Fu.volR b (K1.getD k default))), .int .i64 (Fu.hiOf (Fu.volR b (K1.getD k default)))]) 0 rfl rfl rfl sz42 rfl rfl rfl rfl rfl) ?_
          refine RW.q (v := .bool ((Fu.volR b (K1.getD k default)).isSome)) rfl (q_assign rfl) ?_
          refine RW.nil ?_
          refine Post.then_n ?_
          cases hsp1 : (Fu.volR b (K1.getD k default)).isSome
          · skip
            refine AW.region ?_
            refine RW.q (v := .bool false) rfl (q_move rfl) ?_
            refine RW.q (v := .bool false) rfl (q_move rfl) ?_
            refine RW.g (b := false) (v := undef) rfl rfl rfl (fun h => nomatch h) ?_
            refine RW.g (b := false) (v := undef) rfl rfl rfl (fun h => nomatch h) ?_
            refine RW.g (b := false) (v := undef) rfl rfl rfl (fun h => nomatch h) ?_
            refine RW.g (b := false) (v := undef) rfl rfl rfl (fun h => nomatch h) ?_
            refine RW.g (b := false) (v := undef) rfl rfl rfl (fun h => nomatch h) ?_
            refine RW.g (b := false) (v := undef) rfl rfl rfl (fun h => nomatch h) ?_
            refine RW.q (v := .bool false) rfl (q_pick (t := false) rfl (fun hp => nomatch hp) (fun _ => rfl)) ?_
            refine RW.q (v := .bool false) rfl (q_assign rfl) ?_
            refine RW.nil ?_
            refine Post.blk_n (Post.then_n ?_)
            refine AW.seq ?_
            refine AW.region ?_
            refine RW.q (v := .bool false) rfl (q_move rfl) ?_
            refine RW.q (v := .bool true) rfl (q_not (b := false) rfl) ?_
            refine RW.nil ?_
            refine Post.then_n ?_
            refine AW.cond (b := true) rfl (fun hc7 => ?_) (fun hc7 => ?_)
            · skip
              refine AW.region ?_
              refine RW.q (v := zv) rfl (q_move rfl) ?_
              refine RW.q (v := .pointer (some (⟨b6, 0, none⟩))) rfl (q_fieldAddr rfl Try.underlying46 rfl sz3 rfl) ?_
              refine RW.q (v := .int .i64 ((K1.getD k default).Gauge)) rfl (q_load rfl Try.underlying3 rfl (Cell.blk 2 rfl rfl)) ?_
              refine RW.eff (fun b9 : Nat => (.slice (some ⟨b9, 0, none⟩) 1 1)) (fun b9 => St ⟨w, Φ, []⟩ Φ [.row (.slice (some ⟨b9, 0, none⟩) 1 1) 3 1 1 ([.int .i64 ((K1.getD k default).Gauge)]), .blk b8 42 [.int .i64 (Fu.loOf (Fu.volR b (K1.getD k default))), .int .i64 (Fu.hiOf (Fu.volR b (K1.getD k default)))], .blk b7 58 [.string ((Fu.gaugeAt b.Gauges ((K1.getD k default).Gauge)).Name), .int .i64 ((Fu.gaugeAt b.Gauges ((K1.getD k default).Gauge)).Kind), .int .i64 ((Fu.gaugeAt b.Gauges ((K1.getD k default).Gauge)).Target), .int .i64 ((Fu.gaugeAt b.Gauges ((K1.getD k default).Gauge)).Err), .int .i64 ((Fu.gaugeAt b.Gauges ((K1.getD k default).Gauge)).Drift)], .blk b6 46 [.int .i64 ((K1.getD k default).Gauge), .int .i64 ((K1.getD k default).Hour), .int .i64 ((K1.getD k default).Value.Lo), .int .i64 ((K1.getD k default).Value.Hi)], .row zv 3 1 F.N.length (F.N.map (Value.int .i64)), .row nv 46 4 M.length (flat K1), .row cv3 79 5 h.Links.length (flat F.K), .row cv2 93 4 h.Queue.length (flat h.Queue), .row cv1 42 2 h.Vol.length (flat F.V), .blk b3 36 [.int .i64 0, (.slice none 0 0), (.slice none 0 0), (.slice none 0 0)], .blk b2 36 [.int .i64 h.Hour, cv1, cv2, cv3], .blk b1 31 [.string b.Name, v1, .int .i64 b.Cells, v3, v4, v5, v6, v7, v8, v9, .int .i64 b.Err]]) rfl (e_buildSlice (vals := [(0, .int .i64 ((K1.getD k default).Gauge))]) (cells := [.int .i64 ((K1.getD k default).Gauge)]) Try.underlying29 inf3 rfl rfl rfl (by kernel_rfl) rfl) ?_
              intro b9
              refine RW.eff (fun xv : {vq : Value // IsSl vq (F.N.length + 1)} => xv.1) (fun xv => St ⟨w, Φ, []⟩ Φ [.row (.slice (some ⟨b9, 0, none⟩) 1 1) 3 1 1 ([.int .i64 ((K1.getD k default).Gauge)]), .blk b8 42 [.int .i64 (Fu.loOf (Fu.volR b (K1.getD k default))), .int .i64 (Fu.hiOf (Fu.volR b (K1.getD k default)))], .blk b7 58 [.string ((Fu.gaugeAt b.Gauges ((K1.getD k default).Gauge)).Name), .int .i64 ((Fu.gaugeAt b.Gauges ((K1.getD k default).Gauge)).Kind), .int .i64 ((Fu.gaugeAt b.Gauges ((K1.getD k default).Gauge)).Target), .int .i64 ((Fu.gaugeAt b.Gauges ((K1.getD k default).Gauge)).Err), .int .i64 ((Fu.gaugeAt b.Gauges ((K1.getD k default).Gauge)).Drift)], .blk b6 46 [.int .i64 ((K1.getD k default).Gauge), .int .i64 ((K1.getD k default).Hour), .int .i64 ((K1.getD k default).Value.Lo), .int .i64 ((K1.getD k default).Value.Hi)], .row xv.1 3 1 ((F.N ++ [(K1.getD k default).Gauge]).length) ((F.N ++ [(K1.getD k default).Gauge]).map (Value.int .i64)), .row nv 46 4 M.length (flat K1), .row cv3 79 5 h.Links.length (flat F.K), .row cv2 93 4 h.Queue.length (flat h.Queue), .row cv1 42 2 h.Vol.length (flat F.V), .blk b3 36 [.int .i64 0, (.slice none 0 0), (.slice none 0 0), (.slice none 0 0)], .blk b2 36 [.int .i64 h.Hour, cv1, cv2, cv3], .blk b1 31 [.string b.Name, v1, .int .i64 b.Cells, v3, v4, v5, v6, v7, v8, v9, .int .i64 b.Err]]) rfl (e_append 4 rfl rfl rfl Try.underlying29 inf3 rfl rfl rfl (Cells.row0 0 rfl) rfl (by omega) (by omega) (fun _ => by simp)) ?_
              rintro ⟨va2, hva2⟩
              refine RW.wk (J' := St ⟨w, Φ, []⟩ Φ [.blk b8 42 [.int .i64 (Fu.loOf (Fu.volR b (K1.getD k default))), .int .i64 (Fu.hiOf (Fu.volR b (K1.getD k default)))], .blk b7 58 [.string ((Fu.gaugeAt b.Gauges ((K1.getD k default).Gauge)).Name), .int .i64 ((Fu.gaugeAt b.Gauges ((K1.getD k default).Gauge)).Kind), .int .i64 ((Fu.gaugeAt b.Gauges ((K1.getD k default).Gauge)).Target), .int .i64 ((Fu.gaugeAt b.Gauges ((K1.getD k default).Gauge)).Err), .int .i64 ((Fu.gaugeAt b.Gauges ((K1.getD k default).Gauge)).Drift)], .blk b6 46 [.int .i64 ((K1.getD k default).Gauge), .int .i64 ((K1.getD k default).Hour), .int .i64 ((K1.getD k default).Value.Lo), .int .i64 ((K1.getD k default).Value.Hi)], .row va2 3 1 ((F.N ++ [(K1.getD k default).Gauge]).length) ((F.N ++ [(K1.getD k default).Gauge]).map (Value.int .i64)), .row nv 46 4 M.length (flat K1), .row cv3 79 5 h.Links.length (flat F.K), .row cv2 93 4 h.Queue.length (flat h.Queue), .row cv1 42 2 h.Vol.length (flat F.V), .blk b3 36 [.int .i64 0, (.slice none 0 0), (.slice none 0 0), (.slice none 0 0)], .blk b2 36 [.int .i64 h.Hour, cv1, cv2, cv3], .blk b1 31 [.string b.Name, v1, .int .i64 b.Cells, v3, v4, v5, v6, v7, v8, v9, .int .i64 b.Err]]) (fun _ h => StP.drop h (by exact .cons _ (.cons_cons _ (.cons_cons _ (.cons_cons _ (.cons_cons _ (.cons_cons _ (.cons_cons _ (.cons_cons _ (.cons_cons _ (.cons_cons _ (.cons_cons _ (.cons_cons _ (.slnil)))))))))))))) ?_
              refine RW.q (v := va2) rfl (q_assign rfl) ?_
              refine RW.nil ?_
              refine Post.blk_n (Post.then_n ?_)
              refine AW.region ?_
              refine RW.q (v := .int .i64 ((k + 1 : Nat) : Int)) rfl (q_add rfl rfl (by omega) (by unfold I64; omega)) ?_
              refine RW.q (v := .int .i64 ((k + 1 : Nat) : Int)) rfl (q_move rfl) ?_
              refine RW.nil ?_
              have hc4n : ¬ (¬ Fu.inG b.Gauges (K1.getD k default).Gauge ∨ (Fu.gaugeAt b.Gauges (K1.getD k default).Gauge).Target < 0) := fun h9 => h9.elim (fun h8 => h8 hc4.1) (fun h8 => by have := hc4.2; omega)
              have hkd : Fu.kindOf b F.V.length F.K.length (K1.getD k default) = 1 := Fu.kind1 hc4n (by rw [hVl]; exact hc6)
              have hok : Fu.okV b F.V (K1.getD k default) = false := by unfold Fu.okV; rw [hsp1]; rfl
              exact Post.back (s' := _) (J' := _) (m' := _) (by omega) ⟨k + 1, ⟨F.V, F.K, F.N ++ [(K1.getD k default).Gauge]⟩, va2, rfl, rfl, rfl, (by omega), (by rw [Fu.foldl_takeR _ _ hks, ← hF]; exact (Fu.step1n hkd hok).symm), (by simpa using hva2), (by simp; omega), hVl, hKl, hVw, hKw, (mem_snoc hNw hsk.1)⟩ ⟨rfl, rfl, rfl, rfl, rfl, rfl, rfl, trivial⟩ (fun _ h => StP.drop h (by exact .cons _ (.cons _ (.cons _ (.cons_cons _ (.cons_cons _ (.cons_cons _ (.cons_cons _ (.cons_cons _ (.cons_cons _ (.cons_cons _ (.cons_cons _ (.slnil)))))))))))))
            · cases hc7
          · skip
            refine AW.region ?_
            refine RW.q (v := .bool true) rfl (q_move rfl) ?_
            refine RW.q (v := .bool true) rfl (q_move rfl) ?_
            refine RW.gl (v := .pointer (some (⟨b2, 1, none⟩))) rfl rfl rfl (q_fieldAddr rfl Try.underlying36 rfl sz32 rfl) ?_
            refine RW.gl (v := cv1) rfl rfl rfl (q_load rfl Try.underlying32 rfl (Cell.blk 9 rfl rfl)) ?_
            refine RW.gl (v := .pointer (some (⟨b7, 2, none⟩))) rfl rfl rfl (q_fieldAddr rfl Try.underlying58 rfl sz3 rfl) ?_
            refine RW.gl (v := .int .i64 (((Fu.gaugeAt b.Gauges (K1.getD k default).Gauge).Target.toNat : Nat) : Int)) rfl rfl rfl (q_as (v := .int .i64 ((Fu.gaugeAt b.Gauges ((K1.getD k default).Gauge)).Target)) (q_load rfl Try.underlying3 rfl (Cell.blk 1 rfl rfl)) (congrArg (Value.int .i64) ((Int.toNat_of_nonneg hc4.2).symm))) ?_
            refine RW.gl (v := .agg #[.int .i64 (Fu.loOf (Fu.volR b (K1.getD k default))), .int .i64 (Fu.hiOf (Fu.volR b (K1.getD k default)))]) rfl rfl rfl (q_loadAgg rfl Try.underlying42 rfl sz42 rfl (Cells.blk 0 rfl)) ?_
            refine RW.effg (fun u1 : Unit => .bool ((Fu.meet (F.V.getD ((Fu.gaugeAt b.Gauges (K1.getD k default).Gauge).Target.toNat) default).Lo (F.V.getD ((Fu.gaugeAt b.Gauges (K1.getD k default).Gauge).Target.toNat) default).Hi (Fu.loOf (Fu.volR b (K1.getD k default))) (Fu.hiOf (Fu.volR b (K1.getD k default)))).isSome)) (fun u1 => St ⟨w, Φ, []⟩ Φ [.blk b8 42 [.int .i64 (Fu.loOf (Fu.volR b (K1.getD k default))), .int .i64 (Fu.hiOf (Fu.volR b (K1.getD k default)))], .blk b7 58 [.string ((Fu.gaugeAt b.Gauges ((K1.getD k default).Gauge)).Name), .int .i64 ((Fu.gaugeAt b.Gauges ((K1.getD k default).Gauge)).Kind), .int .i64 ((Fu.gaugeAt b.Gauges ((K1.getD k default).Gauge)).Target), .int .i64 ((Fu.gaugeAt b.Gauges ((K1.getD k default).Gauge)).Err), .int .i64 ((Fu.gaugeAt b.Gauges ((K1.getD k default).Gauge)).Drift)], .blk b6 46 [.int .i64 ((K1.getD k default).Gauge), .int .i64 ((K1.getD k default).Hour), .int .i64 ((K1.getD k default).Value.Lo), .int .i64 ((K1.getD k default).Value.Hi)], .row zv 3 1 F.N.length (F.N.map (Value.int .i64)), .row nv 46 4 M.length (flat K1), .row cv3 79 5 h.Links.length (flat F.K), .row cv2 93 4 h.Queue.length (flat h.Queue), .row cv1 42 2 h.Vol.length (flat (Fu.narV F.V ((Fu.gaugeAt b.Gauges (K1.getD k default).Gauge).Target.toNat) (Fu.loOf (Fu.volR b (K1.getD k default))) (Fu.hiOf (Fu.volR b (K1.getD k default))))), .blk b3 36 [.int .i64 0, (.slice none 0 0), (.slice none 0 0), (.slice none 0 0)], .blk b2 36 [.int .i64 h.Hour, cv1, cv2, cv3], .blk b1 31 [.string b.Name, v1, .int .i64 b.Cells, v3, v4, v5, v6, v7, v8, v9, .int .i64 b.Err]]) rfl rfl rfl (e_call (args := #[cv1, .int .i64 (((Fu.gaugeAt b.Gauges (K1.getD k default).Gauge).Target.toNat : Nat) : Int), .func (.func 41) #[] #[], .agg #[.int .i64 (Fu.loOf (Fu.volR b (K1.getD k default))), .int .i64 (Fu.hiOf (Fu.volR b (K1.getD k default)))]]) own40 rfl rfl (fun w1 hw1 => narV_at (i := (Fu.gaugeAt b.Gauges (K1.getD k default).Gauge).Target.toNat) rfl hcv1 (by omega) (by omega) (by omega) 7 rfl rfl w1 hw1)) ?_
            intro u1
            refine RW.q (v := .bool ((Fu.meet (F.V.getD ((Fu.gaugeAt b.Gauges (K1.getD k default).Gauge).Target.toNat) default).Lo (F.V.getD ((Fu.gaugeAt b.Gauges (K1.getD k default).Gauge).Target.toNat) default).Hi (Fu.loOf (Fu.volR b (K1.getD k default))) (Fu.hiOf (Fu.volR b (K1.getD k default)))).isSome)) rfl (q_pick (t := true) rfl (fun _ => rfl) (fun hp => nomatch hp)) ?_
            refine RW.q (v := .bool ((Fu.meet (F.V.getD ((Fu.gaugeAt b.Gauges (K1.getD k default).Gauge).Target.toNat) default).Lo (F.V.getD ((Fu.gaugeAt b.Gauges (K1.getD k default).Gauge).Target.toNat) default).Hi (Fu.loOf (Fu.volR b (K1.getD k default))) (Fu.hiOf (Fu.volR b (K1.getD k default)))).isSome)) rfl (q_assign rfl) ?_
            refine RW.nil ?_
            refine Post.blk_n (Post.then_n ?_)
            refine AW.seq ?_
            refine AW.region ?_
            refine RW.q (v := .bool ((Fu.meet (F.V.getD ((Fu.gaugeAt b.Gauges (K1.getD k default).Gauge).Target.toNat) default).Lo (F.V.getD ((Fu.gaugeAt b.Gauges (K1.getD k default).Gauge).Target.toNat) default).Hi (Fu.loOf (Fu.volR b (K1.getD k default))) (Fu.hiOf (Fu.volR b (K1.getD k default)))).isSome)) rfl (q_move rfl) ?_
            refine RW.q (v := .bool (!((Fu.meet (F.V.getD ((Fu.gaugeAt b.Gauges (K1.getD k default).Gauge).Target.toNat) default).Lo (F.V.getD ((Fu.gaugeAt b.Gauges (K1.getD k default).Gauge).Target.toNat) default).Hi (Fu.loOf (Fu.volR b (K1.getD k default))) (Fu.hiOf (Fu.volR b (K1.getD k default)))).isSome))) rfl (q_not rfl) ?_
            refine RW.nil ?_
            refine Post.then_n ?_
            refine AW.cond (b := !((Fu.meet (F.V.getD ((Fu.gaugeAt b.Gauges (K1.getD k default).Gauge).Target.toNat) default).Lo (F.V.getD ((Fu.gaugeAt b.Gauges (K1.getD k default).Gauge).Target.toNat) default).Hi (Fu.loOf (Fu.volR b (K1.getD k default))) (Fu.hiOf (Fu.volR b (K1.getD k default)))).isSome)) rfl (fun hc8 => ?_) (fun hc8 => ?_)
            · simp [-List.getD_eq_getElem?_getD] at hc8
              refine AW.region ?_
              refine RW.q (v := zv) rfl (q_move rfl) ?_
              refine RW.q (v := .pointer (some (⟨b6, 0, none⟩))) rfl (q_fieldAddr rfl Try.underlying46 rfl sz3 rfl) ?_
              refine RW.q (v := .int .i64 ((K1.getD k default).Gauge)) rfl (q_load rfl Try.underlying3 rfl (Cell.blk 2 rfl rfl)) ?_
              refine RW.eff (fun b10 : Nat => (.slice (some ⟨b10, 0, none⟩) 1 1)) (fun b10 => St ⟨w, Φ, []⟩ Φ [.row (.slice (some ⟨b10, 0, none⟩) 1 1) 3 1 1 ([.int .i64 ((K1.getD k default).Gauge)]), .blk b8 42 [.int .i64 (Fu.loOf (Fu.volR b (K1.getD k default))), .int .i64 (Fu.hiOf (Fu.volR b (K1.getD k default)))], .blk b7 58 [.string ((Fu.gaugeAt b.Gauges ((K1.getD k default).Gauge)).Name), .int .i64 ((Fu.gaugeAt b.Gauges ((K1.getD k default).Gauge)).Kind), .int .i64 ((Fu.gaugeAt b.Gauges ((K1.getD k default).Gauge)).Target), .int .i64 ((Fu.gaugeAt b.Gauges ((K1.getD k default).Gauge)).Err), .int .i64 ((Fu.gaugeAt b.Gauges ((K1.getD k default).Gauge)).Drift)], .blk b6 46 [.int .i64 ((K1.getD k default).Gauge), .int .i64 ((K1.getD k default).Hour), .int .i64 ((K1.getD k default).Value.Lo), .int .i64 ((K1.getD k default).Value.Hi)], .row zv 3 1 F.N.length (F.N.map (Value.int .i64)), .row nv 46 4 M.length (flat K1), .row cv3 79 5 h.Links.length (flat F.K), .row cv2 93 4 h.Queue.length (flat h.Queue), .row cv1 42 2 h.Vol.length (flat (Fu.narV F.V ((Fu.gaugeAt b.Gauges (K1.getD k default).Gauge).Target.toNat) (Fu.loOf (Fu.volR b (K1.getD k default))) (Fu.hiOf (Fu.volR b (K1.getD k default))))), .blk b3 36 [.int .i64 0, (.slice none 0 0), (.slice none 0 0), (.slice none 0 0)], .blk b2 36 [.int .i64 h.Hour, cv1, cv2, cv3], .blk b1 31 [.string b.Name, v1, .int .i64 b.Cells, v3, v4, v5, v6, v7, v8, v9, .int .i64 b.Err]]) rfl (e_buildSlice (vals := [(0, .int .i64 ((K1.getD k default).Gauge))]) (cells := [.int .i64 ((K1.getD k default).Gauge)]) Try.underlying29 inf3 rfl rfl rfl (by kernel_rfl) rfl) ?_
              intro b10
              refine RW.eff (fun xv : {vq : Value // IsSl vq (F.N.length + 1)} => xv.1) (fun xv => St ⟨w, Φ, []⟩ Φ [.row (.slice (some ⟨b10, 0, none⟩) 1 1) 3 1 1 ([.int .i64 ((K1.getD k default).Gauge)]), .blk b8 42 [.int .i64 (Fu.loOf (Fu.volR b (K1.getD k default))), .int .i64 (Fu.hiOf (Fu.volR b (K1.getD k default)))], .blk b7 58 [.string ((Fu.gaugeAt b.Gauges ((K1.getD k default).Gauge)).Name), .int .i64 ((Fu.gaugeAt b.Gauges ((K1.getD k default).Gauge)).Kind), .int .i64 ((Fu.gaugeAt b.Gauges ((K1.getD k default).Gauge)).Target), .int .i64 ((Fu.gaugeAt b.Gauges ((K1.getD k default).Gauge)).Err), .int .i64 ((Fu.gaugeAt b.Gauges ((K1.getD k default).Gauge)).Drift)], .blk b6 46 [.int .i64 ((K1.getD k default).Gauge), .int .i64 ((K1.getD k default).Hour), .int .i64 ((K1.getD k default).Value.Lo), .int .i64 ((K1.getD k default).Value.Hi)], .row xv.1 3 1 ((F.N ++ [(K1.getD k default).Gauge]).length) ((F.N ++ [(K1.getD k default).Gauge]).map (Value.int .i64)), .row nv 46 4 M.length (flat K1), .row cv3 79 5 h.Links.length (flat F.K), .row cv2 93 4 h.Queue.length (flat h.Queue), .row cv1 42 2 h.Vol.length (flat (Fu.narV F.V ((Fu.gaugeAt b.Gauges (K1.getD k default).Gauge).Target.toNat) (Fu.loOf (Fu.volR b (K1.getD k default))) (Fu.hiOf (Fu.volR b (K1.getD k default))))), .blk b3 36 [.int .i64 0, (.slice none 0 0), (.slice none 0 0), (.slice none 0 0)], .blk b2 36 [.int .i64 h.Hour, cv1, cv2, cv3], .blk b1 31 [.string b.Name, v1, .int .i64 b.Cells, v3, v4, v5, v6, v7, v8, v9, .int .i64 b.Err]]) rfl (e_append 4 rfl rfl rfl Try.underlying29 inf3 rfl rfl rfl (Cells.row0 0 rfl) rfl (by omega) (by omega) (fun _ => by simp)) ?_
              rintro ⟨va3, hva3⟩
              refine RW.wk (J' := St ⟨w, Φ, []⟩ Φ [.blk b8 42 [.int .i64 (Fu.loOf (Fu.volR b (K1.getD k default))), .int .i64 (Fu.hiOf (Fu.volR b (K1.getD k default)))], .blk b7 58 [.string ((Fu.gaugeAt b.Gauges ((K1.getD k default).Gauge)).Name), .int .i64 ((Fu.gaugeAt b.Gauges ((K1.getD k default).Gauge)).Kind), .int .i64 ((Fu.gaugeAt b.Gauges ((K1.getD k default).Gauge)).Target), .int .i64 ((Fu.gaugeAt b.Gauges ((K1.getD k default).Gauge)).Err), .int .i64 ((Fu.gaugeAt b.Gauges ((K1.getD k default).Gauge)).Drift)], .blk b6 46 [.int .i64 ((K1.getD k default).Gauge), .int .i64 ((K1.getD k default).Hour), .int .i64 ((K1.getD k default).Value.Lo), .int .i64 ((K1.getD k default).Value.Hi)], .row va3 3 1 ((F.N ++ [(K1.getD k default).Gauge]).length) ((F.N ++ [(K1.getD k default).Gauge]).map (Value.int .i64)), .row nv 46 4 M.length (flat K1), .row cv3 79 5 h.Links.length (flat F.K), .row cv2 93 4 h.Queue.length (flat h.Queue), .row cv1 42 2 h.Vol.length (flat (Fu.narV F.V ((Fu.gaugeAt b.Gauges (K1.getD k default).Gauge).Target.toNat) (Fu.loOf (Fu.volR b (K1.getD k default))) (Fu.hiOf (Fu.volR b (K1.getD k default))))), .blk b3 36 [.int .i64 0, (.slice none 0 0), (.slice none 0 0), (.slice none 0 0)], .blk b2 36 [.int .i64 h.Hour, cv1, cv2, cv3], .blk b1 31 [.string b.Name, v1, .int .i64 b.Cells, v3, v4, v5, v6, v7, v8, v9, .int .i64 b.Err]]) (fun _ h => StP.drop h (by exact .cons _ (.cons_cons _ (.cons_cons _ (.cons_cons _ (.cons_cons _ (.cons_cons _ (.cons_cons _ (.cons_cons _ (.cons_cons _ (.cons_cons _ (.cons_cons _ (.cons_cons _ (.slnil)))))))))))))) ?_
              refine RW.q (v := va3) rfl (q_assign rfl) ?_
              refine RW.nil ?_
              refine Post.blk_n (Post.then_n ?_)
              refine AW.region ?_
              refine RW.q (v := .int .i64 ((k + 1 : Nat) : Int)) rfl (q_add rfl rfl (by omega) (by unfold I64; omega)) ?_
              refine RW.q (v := .int .i64 ((k + 1 : Nat) : Int)) rfl (q_move rfl) ?_
              refine RW.nil ?_
              have hc4n : ¬ (¬ Fu.inG b.Gauges (K1.getD k default).Gauge ∨ (Fu.gaugeAt b.Gauges (K1.getD k default).Gauge).Target < 0) := fun h9 => h9.elim (fun h8 => h8 hc4.1) (fun h8 => by have := hc4.2; omega)
              have hkd : Fu.kindOf b F.V.length F.K.length (K1.getD k default) = 1 := Fu.kind1 hc4n (by rw [hVl]; exact hc6)
              have hm : (Fu.meet (F.V.getD (Fu.gaugeAt b.Gauges (K1.getD k default).Gauge).Target.toNat default).Lo (F.V.getD (Fu.gaugeAt b.Gauges (K1.getD k default).Gauge).Target.toNat default).Hi (Fu.loOf (Fu.volR b (K1.getD k default))) (Fu.hiOf (Fu.volR b (K1.getD k default)))).isSome = false := by simpa using hc8
              have hok : Fu.okV b F.V (K1.getD k default) = false := by unfold Fu.okV; rw [hsp1]; exact hm
              rw [Fu.narV_none hm]
              exact Post.back (s' := _) (J' := _) (m' := _) (by omega) ⟨k + 1, ⟨F.V, F.K, F.N ++ [(K1.getD k default).Gauge]⟩, va3, rfl, rfl, rfl, (by omega), (by rw [Fu.foldl_takeR _ _ hks, ← hF]; exact (Fu.step1n hkd hok).symm), (by simpa using hva3), (by simp; omega), hVl, hKl, hVw, hKw, (mem_snoc hNw hsk.1)⟩ ⟨rfl, rfl, rfl, rfl, rfl, rfl, rfl, trivial⟩ (fun _ h => StP.drop h (by exact .cons _ (.cons _ (.cons _ (.cons_cons _ (.cons_cons _ (.cons_cons _ (.cons_cons _ (.cons_cons _ (.cons_cons _ (.cons_cons _ (.cons_cons _ (.slnil)))))))))))))
            · simp [-List.getD_eq_getElem?_getD] at hc8
              refine AW.skip ?_
              refine Post.blk_n (Post.then_n ?_)
              refine AW.region ?_
              refine RW.q (v := .int .i64 ((k + 1 : Nat) : Int)) rfl (q_add rfl rfl (by omega) (by unfold I64; omega)) ?_
              refine RW.q (v := .int .i64 ((k + 1 : Nat) : Int)) rfl (q_move rfl) ?_
              refine RW.nil ?_
              have hc4n : ¬ (¬ Fu.inG b.Gauges (K1.getD k default).Gauge ∨ (Fu.gaugeAt b.Gauges (K1.getD k default).Gauge).Target < 0) := fun h9 => h9.elim (fun h8 => h8 hc4.1) (fun h8 => by have := hc4.2; omega)
              have hkd : Fu.kindOf b F.V.length F.K.length (K1.getD k default) = 1 := Fu.kind1 hc4n (by rw [hVl]; exact hc6)
              have hm : (Fu.meet (F.V.getD (Fu.gaugeAt b.Gauges (K1.getD k default).Gauge).Target.toNat default).Lo (F.V.getD (Fu.gaugeAt b.Gauges (K1.getD k default).Gauge).Target.toNat default).Hi (Fu.loOf (Fu.volR b (K1.getD k default))) (Fu.hiOf (Fu.volR b (K1.getD k default)))).isSome = true := by simpa using hc8
              have hok : Fu.okV b F.V (K1.getD k default) = true := by unfold Fu.okV; rw [hsp1]; exact hm
              have htin : (Fu.gaugeAt b.Gauges (K1.getD k default).Gauge).Target.toNat < F.V.length := by omega
              have hvr := Fu.volR_rng b (K1.getD k default)
              exact Post.back (s' := _) (J' := _) (m' := _) (by omega) ⟨k + 1, ⟨Fu.narV F.V (Fu.gaugeAt b.Gauges (K1.getD k default).Gauge).Target.toNat (Fu.loOf (Fu.volR b (K1.getD k default))) (Fu.hiOf (Fu.volR b (K1.getD k default))), F.K, F.N⟩, zv, rfl, rfl, rfl, (by omega), (by rw [Fu.foldl_takeR _ _ hks, ← hF]; exact (Fu.step1 hkd hok).symm), hzv, (show F.N.length ≤ k + 1 by omega), (by rw [← hVl]; exact Fu.narV_len _ _ _ _), hKl, (Fu.narV_wf htin hVw hvr.1 hvr.2), hKw, hNw⟩ ⟨rfl, rfl, rfl, rfl, rfl, rfl, rfl, trivial⟩ (fun _ h => StP.drop h (by exact .cons _ (.cons _ (.cons _ (.cons_cons _ (.cons_cons _ (.cons_cons _ (.cons_cons _ (.cons_cons _ (.cons_cons _ (.cons_cons _ (.cons_cons _ (.slnil)))))))))))))
        · simp [-List.getD_eq_getElem?_getD] at hc6
          refine AW.seq ?_
          refine AW.region ?_
          refine RW.q (v := .pointer (some (⟨b7, 1, none⟩))) rfl (q_fieldAddr rfl Try.underlying58 rfl sz3 rfl) ?_
          refine RW.q (v := .int .i64 ((Fu.gaugeAt b.Gauges ((K1.getD k default).Gauge)).Kind)) rfl (q_load rfl Try.underlying3 rfl (Cell.blk 0 rfl rfl)) ?_
          refine RW.q (v := .bool (decide ((Fu.gaugeAt b.Gauges ((K1.getD k default).Gauge)).Kind = 2))) rfl (q_eql rfl rfl) ?_
          refine RW.q (v := .bool (decide ((Fu.gaugeAt b.Gauges ((K1.getD k default).Gauge)).Kind = 2))) rfl (q_move rfl) ?_
          refine RW.g (b := (decide ((Fu.gaugeAt b.Gauges ((K1.getD k default).Gauge)).Kind = 2))) (v := .pointer (some (⟨b7, 2, none⟩))) rfl rfl rfl (fun h => q_fieldAddr rfl Try.underlying58 rfl sz3 rfl) ?_
          refine RW.g (b := (decide ((Fu.gaugeAt b.Gauges ((K1.getD k default).Gauge)).Kind = 2))) (v := .int .i64 ((Fu.gaugeAt b.Gauges ((K1.getD k default).Gauge)).Target)) rfl rfl rfl (fun h => q_load (gv_pos h) Try.underlying3 rfl (Cell.blk 0 rfl rfl)) ?_
          refine RW.g (b := (decide ((Fu.gaugeAt b.Gauges ((K1.getD k default).Gauge)).Kind = 2))) (v := .pointer (some (⟨b2, 3, none⟩))) rfl rfl rfl (fun h => q_fieldAddr rfl Try.underlying36 rfl sz34 rfl) ?_
          refine RW.g (b := (decide ((Fu.gaugeAt b.Gauges ((K1.getD k default).Gauge)).Kind = 2))) (v := cv3) rfl rfl rfl (fun h => q_load (gv_pos h) Try.underlying34 rfl (Cell.blk 8 rfl rfl)) ?_
          refine RW.g (b := (decide ((Fu.gaugeAt b.Gauges ((K1.getD k default).Gauge)).Kind = 2))) (v := .int .i64 ((h.Links.length : Nat) : Int)) rfl rfl rfl (fun h => q_len_sl (gv_pos h) hcv3 Try.underlying34) ?_
          refine RW.g (b := (decide ((Fu.gaugeAt b.Gauges ((K1.getD k default).Gauge)).Kind = 2))) (v := .bool (decide ((Fu.gaugeAt b.Gauges ((K1.getD k default).Gauge)).Target < ((h.Links.length : Nat) : Int)))) rfl rfl rfl (fun h => q_lss (gv_pos h) (gv_pos h)) ?_
          refine RW.q (v := .bool ((decide ((Fu.gaugeAt b.Gauges ((K1.getD k default).Gauge)).Kind = 2)) && (decide ((Fu.gaugeAt b.Gauges ((K1.getD k default).Gauge)).Target < ((h.Links.length : Nat) : Int))))) rfl (q_pick rfl (fun hp => (gv_pos hp).trans (pkAndT hp)) (fun hp => pkAndF hp)) ?_
          refine RW.q (v := .bool ((decide ((Fu.gaugeAt b.Gauges ((K1.getD k default).Gauge)).Kind = 2)) && (decide ((Fu.gaugeAt b.Gauges ((K1.getD k default).Gauge)).Target < ((h.Links.length : Nat) : Int))))) rfl (q_assign rfl) ?_
          refine RW.nil ?_
          refine Post.then_n ?_
          refine AW.cond (b := (decide ((Fu.gaugeAt b.Gauges ((K1.getD k default).Gauge)).Kind = 2)) && (decide ((Fu.gaugeAt b.Gauges ((K1.getD k default).Gauge)).Target < ((h.Links.length : Nat) : Int)))) rfl (fun hc9 => ?_) (fun hc9 => ?_)
          · simp [-List.getD_eq_getElem?_getD] at hc9
            refine AW.region ?_
            refine RW.q (v := .pointer (some (⟨b2, 3, none⟩))) rfl (q_fieldAddr rfl Try.underlying36 rfl sz34 rfl) ?_
            refine RW.q (v := cv3) rfl (q_load rfl Try.underlying34 rfl (Cell.blk 8 rfl rfl)) ?_
            refine RW.q (v := .pointer (some (⟨b7, 2, none⟩))) rfl (q_fieldAddr rfl Try.underlying58 rfl sz3 rfl) ?_
            refine RW.q (v := .int .i64 (((Fu.gaugeAt b.Gauges (K1.getD k default).Gauge).Target.toNat : Nat) : Int)) rfl (q_as (v := .int .i64 ((Fu.gaugeAt b.Gauges ((K1.getD k default).Gauge)).Target)) (q_load rfl Try.underlying3 rfl (Cell.blk 0 rfl rfl)) (congrArg (Value.int .i64) ((Int.toNat_of_nonneg hc4.2).symm))) ?_
            refine RW.q (v := .pointer (some (⟨b6, 2, none⟩))) rfl (q_fieldAddr rfl Try.underlying46 rfl sz42 rfl) ?_
            refine RW.q (v := .agg #[.int .i64 ((K1.getD k default).Value.Lo), .int .i64 ((K1.getD k default).Value.Hi)]) rfl (q_loadAgg rfl Try.underlying42 rfl sz42 rfl (Cells.blkP (off := 2) 1 rfl (fun j u hu => (by rcases j with _ | (_ | _) <;> first | exact hu | cases hu)))) ?_
            refine RW.eff (fun u2 : Unit => .bool ((Fu.meet (F.K.getD ((Fu.gaugeAt b.Gauges (K1.getD k default).Gauge).Target.toNat) default).Pos.Lo (F.K.getD ((Fu.gaugeAt b.Gauges (K1.getD k default).Gauge).Target.toNat) default).Pos.Hi ((K1.getD k default).Value.Lo) ((K1.getD k default).Value.Hi)).isSome)) (fun u2 => St ⟨w, Φ, []⟩ Φ [.blk b7 58 [.string ((Fu.gaugeAt b.Gauges ((K1.getD k default).Gauge)).Name), .int .i64 ((Fu.gaugeAt b.Gauges ((K1.getD k default).Gauge)).Kind), .int .i64 ((Fu.gaugeAt b.Gauges ((K1.getD k default).Gauge)).Target), .int .i64 ((Fu.gaugeAt b.Gauges ((K1.getD k default).Gauge)).Err), .int .i64 ((Fu.gaugeAt b.Gauges ((K1.getD k default).Gauge)).Drift)], .blk b6 46 [.int .i64 ((K1.getD k default).Gauge), .int .i64 ((K1.getD k default).Hour), .int .i64 ((K1.getD k default).Value.Lo), .int .i64 ((K1.getD k default).Value.Hi)], .row zv 3 1 F.N.length (F.N.map (Value.int .i64)), .row nv 46 4 M.length (flat K1), .row cv3 79 5 h.Links.length (flat (Fu.narL F.K ((Fu.gaugeAt b.Gauges (K1.getD k default).Gauge).Target.toNat) ((K1.getD k default).Value.Lo) ((K1.getD k default).Value.Hi))), .row cv2 93 4 h.Queue.length (flat h.Queue), .row cv1 42 2 h.Vol.length (flat F.V), .blk b3 36 [.int .i64 0, (.slice none 0 0), (.slice none 0 0), (.slice none 0 0)], .blk b2 36 [.int .i64 h.Hour, cv1, cv2, cv3], .blk b1 31 [.string b.Name, v1, .int .i64 b.Cells, v3, v4, v5, v6, v7, v8, v9, .int .i64 b.Err]]) rfl (e_call (args := #[cv3, .int .i64 (((Fu.gaugeAt b.Gauges (K1.getD k default).Gauge).Target.toNat : Nat) : Int), .func (.func 43) #[] #[], .agg #[.int .i64 ((K1.getD k default).Value.Lo), .int .i64 ((K1.getD k default).Value.Hi)]]) own42 rfl rfl (fun w1 hw1 => narL_at (i := (Fu.gaugeAt b.Gauges (K1.getD k default).Gauge).Target.toNat) rfl hcv3 (by omega) (by omega) (by omega) 4 rfl rfl w1 hw1)) ?_
            intro u2
            refine RW.q (v := .bool ((Fu.meet (F.K.getD ((Fu.gaugeAt b.Gauges (K1.getD k default).Gauge).Target.toNat) default).Pos.Lo (F.K.getD ((Fu.gaugeAt b.Gauges (K1.getD k default).Gauge).Target.toNat) default).Pos.Hi ((K1.getD k default).Value.Lo) ((K1.getD k default).Value.Hi)).isSome)) rfl (q_assign rfl) ?_
            refine RW.nil ?_
            refine Post.blk_n (Post.then_n ?_)
            refine AW.seq ?_
            refine AW.region ?_
            refine RW.q (v := .bool ((Fu.meet (F.K.getD ((Fu.gaugeAt b.Gauges (K1.getD k default).Gauge).Target.toNat) default).Pos.Lo (F.K.getD ((Fu.gaugeAt b.Gauges (K1.getD k default).Gauge).Target.toNat) default).Pos.Hi ((K1.getD k default).Value.Lo) ((K1.getD k default).Value.Hi)).isSome)) rfl (q_move rfl) ?_
            refine RW.q (v := .bool (!((Fu.meet (F.K.getD ((Fu.gaugeAt b.Gauges (K1.getD k default).Gauge).Target.toNat) default).Pos.Lo (F.K.getD ((Fu.gaugeAt b.Gauges (K1.getD k default).Gauge).Target.toNat) default).Pos.Hi ((K1.getD k default).Value.Lo) ((K1.getD k default).Value.Hi)).isSome))) rfl (q_not rfl) ?_
            refine RW.nil ?_
            refine Post.then_n ?_
            refine AW.cond (b := !((Fu.meet (F.K.getD ((Fu.gaugeAt b.Gauges (K1.getD k default).Gauge).Target.toNat) default).Pos.Lo (F.K.getD ((Fu.gaugeAt b.Gauges (K1.getD k default).Gauge).Target.toNat) default).Pos.Hi ((K1.getD k default).Value.Lo) ((K1.getD k default).Value.Hi)).isSome)) rfl (fun hc10 => ?_) (fun hc10 => ?_)
            · simp [-List.getD_eq_getElem?_getD] at hc10
              refine AW.region ?_
              refine RW.q (v := zv) rfl (q_move rfl) ?_
              refine RW.q (v := .pointer (some (⟨b6, 0, none⟩))) rfl (q_fieldAddr rfl Try.underlying46 rfl sz3 rfl) ?_
              refine RW.q (v := .int .i64 ((K1.getD k default).Gauge)) rfl (q_load rfl Try.underlying3 rfl (Cell.blk 1 rfl rfl)) ?_
              refine RW.eff (fun b11 : Nat => (.slice (some ⟨b11, 0, none⟩) 1 1)) (fun b11 => St ⟨w, Φ, []⟩ Φ [.row (.slice (some ⟨b11, 0, none⟩) 1 1) 3 1 1 ([.int .i64 ((K1.getD k default).Gauge)]), .blk b7 58 [.string ((Fu.gaugeAt b.Gauges ((K1.getD k default).Gauge)).Name), .int .i64 ((Fu.gaugeAt b.Gauges ((K1.getD k default).Gauge)).Kind), .int .i64 ((Fu.gaugeAt b.Gauges ((K1.getD k default).Gauge)).Target), .int .i64 ((Fu.gaugeAt b.Gauges ((K1.getD k default).Gauge)).Err), .int .i64 ((Fu.gaugeAt b.Gauges ((K1.getD k default).Gauge)).Drift)], .blk b6 46 [.int .i64 ((K1.getD k default).Gauge), .int .i64 ((K1.getD k default).Hour), .int .i64 ((K1.getD k default).Value.Lo), .int .i64 ((K1.getD k default).Value.Hi)], .row zv 3 1 F.N.length (F.N.map (Value.int .i64)), .row nv 46 4 M.length (flat K1), .row cv3 79 5 h.Links.length (flat (Fu.narL F.K ((Fu.gaugeAt b.Gauges (K1.getD k default).Gauge).Target.toNat) ((K1.getD k default).Value.Lo) ((K1.getD k default).Value.Hi))), .row cv2 93 4 h.Queue.length (flat h.Queue), .row cv1 42 2 h.Vol.length (flat F.V), .blk b3 36 [.int .i64 0, (.slice none 0 0), (.slice none 0 0), (.slice none 0 0)], .blk b2 36 [.int .i64 h.Hour, cv1, cv2, cv3], .blk b1 31 [.string b.Name, v1, .int .i64 b.Cells, v3, v4, v5, v6, v7, v8, v9, .int .i64 b.Err]]) rfl (e_buildSlice (vals := [(0, .int .i64 ((K1.getD k default).Gauge))]) (cells := [.int .i64 ((K1.getD k default).Gauge)]) Try.underlying29 inf3 rfl rfl rfl (by kernel_rfl) rfl) ?_
              intro b11
              refine RW.eff (fun xv : {vq : Value // IsSl vq (F.N.length + 1)} => xv.1) (fun xv => St ⟨w, Φ, []⟩ Φ [.row (.slice (some ⟨b11, 0, none⟩) 1 1) 3 1 1 ([.int .i64 ((K1.getD k default).Gauge)]), .blk b7 58 [.string ((Fu.gaugeAt b.Gauges ((K1.getD k default).Gauge)).Name), .int .i64 ((Fu.gaugeAt b.Gauges ((K1.getD k default).Gauge)).Kind), .int .i64 ((Fu.gaugeAt b.Gauges ((K1.getD k default).Gauge)).Target), .int .i64 ((Fu.gaugeAt b.Gauges ((K1.getD k default).Gauge)).Err), .int .i64 ((Fu.gaugeAt b.Gauges ((K1.getD k default).Gauge)).Drift)], .blk b6 46 [.int .i64 ((K1.getD k default).Gauge), .int .i64 ((K1.getD k default).Hour), .int .i64 ((K1.getD k default).Value.Lo), .int .i64 ((K1.getD k default).Value.Hi)], .row xv.1 3 1 ((F.N ++ [(K1.getD k default).Gauge]).length) ((F.N ++ [(K1.getD k default).Gauge]).map (Value.int .i64)), .row nv 46 4 M.length (flat K1), .row cv3 79 5 h.Links.length (flat (Fu.narL F.K ((Fu.gaugeAt b.Gauges (K1.getD k default).Gauge).Target.toNat) ((K1.getD k default).Value.Lo) ((K1.getD k default).Value.Hi))), .row cv2 93 4 h.Queue.length (flat h.Queue), .row cv1 42 2 h.Vol.length (flat F.V), .blk b3 36 [.int .i64 0, (.slice none 0 0), (.slice none 0 0), (.slice none 0 0)], .blk b2 36 [.int .i64 h.Hour, cv1, cv2, cv3], .blk b1 31 [.string b.Name, v1, .int .i64 b.Cells, v3, v4, v5, v6, v7, v8, v9, .int .i64 b.Err]]) rfl (e_append 3 rfl rfl rfl Try.underlying29 inf3 rfl rfl rfl (Cells.row0 0 rfl) rfl (by omega) (by omega) (fun _ => by simp)) ?_
              rintro ⟨va4, hva4⟩
              refine RW.wk (J' := St ⟨w, Φ, []⟩ Φ [.blk b7 58 [.string ((Fu.gaugeAt b.Gauges ((K1.getD k default).Gauge)).Name), .int .i64 ((Fu.gaugeAt b.Gauges ((K1.getD k default).Gauge)).Kind), .int .i64 ((Fu.gaugeAt b.Gauges ((K1.getD k default).Gauge)).Target), .int .i64 ((Fu.gaugeAt b.Gauges ((K1.getD k default).Gauge)).Err), .int .i64 ((Fu.gaugeAt b.Gauges ((K1.getD k default).Gauge)).Drift)], .blk b6 46 [.int .i64 ((K1.getD k default).Gauge), .int .i64 ((K1.getD k default).Hour), .int .i64 ((K1.getD k default).Value.Lo), .int .i64 ((K1.getD k default).Value.Hi)], .row va4 3 1 ((F.N ++ [(K1.getD k default).Gauge]).length) ((F.N ++ [(K1.getD k default).Gauge]).map (Value.int .i64)), .row nv 46 4 M.length (flat K1), .row cv3 79 5 h.Links.length (flat (Fu.narL F.K ((Fu.gaugeAt b.Gauges (K1.getD k default).Gauge).Target.toNat) ((K1.getD k default).Value.Lo) ((K1.getD k default).Value.Hi))), .row cv2 93 4 h.Queue.length (flat h.Queue), .row cv1 42 2 h.Vol.length (flat F.V), .blk b3 36 [.int .i64 0, (.slice none 0 0), (.slice none 0 0), (.slice none 0 0)], .blk b2 36 [.int .i64 h.Hour, cv1, cv2, cv3], .blk b1 31 [.string b.Name, v1, .int .i64 b.Cells, v3, v4, v5, v6, v7, v8, v9, .int .i64 b.Err]]) (fun _ h => StP.drop h (by exact .cons _ (.cons_cons _ (.cons_cons _ (.cons_cons _ (.cons_cons _ (.cons_cons _ (.cons_cons _ (.cons_cons _ (.cons_cons _ (.cons_cons _ (.cons_cons _ (.slnil))))))))))))) ?_
              refine RW.q (v := va4) rfl (q_assign rfl) ?_
              refine RW.nil ?_
              refine Post.blk_n (Post.then_n ?_)
              refine AW.region ?_
              refine RW.q (v := .int .i64 ((k + 1 : Nat) : Int)) rfl (q_add rfl rfl (by omega) (by unfold I64; omega)) ?_
              refine RW.q (v := .int .i64 ((k + 1 : Nat) : Int)) rfl (q_move rfl) ?_
              refine RW.nil ?_
              have hc4n : ¬ (¬ Fu.inG b.Gauges (K1.getD k default).Gauge ∨ (Fu.gaugeAt b.Gauges (K1.getD k default).Gauge).Target < 0) := fun h9 => h9.elim (fun h8 => h8 hc4.1) (fun h8 => by have := hc4.2; omega)
              have hkd : Fu.kindOf b F.V.length F.K.length (K1.getD k default) = 2 := Fu.kind2 hc4n (by rw [hVl]; intro h9; exact absurd h9.2 (by have := hc6 h9.1; omega)) (by rw [hKl]; exact hc9)
              have hm : (Fu.meet (F.K.getD (Fu.gaugeAt b.Gauges (K1.getD k default).Gauge).Target.toNat default).Pos.Lo (F.K.getD (Fu.gaugeAt b.Gauges (K1.getD k default).Gauge).Target.toNat default).Pos.Hi (K1.getD k default).Value.Lo (K1.getD k default).Value.Hi).isSome = false := by simpa using hc10
              have hok : Fu.okK b F.K (K1.getD k default) = false := hm
              rw [Fu.narL_none hm]
              exact Post.back (s' := _) (J' := _) (m' := _) (by omega) ⟨k + 1, ⟨F.V, F.K, F.N ++ [(K1.getD k default).Gauge]⟩, va4, rfl, rfl, rfl, (by omega), (by rw [Fu.foldl_takeR _ _ hks, ← hF]; exact (Fu.step2n hkd hok).symm), (by simpa using hva4), (by simp; omega), hVl, hKl, hVw, hKw, (mem_snoc hNw hsk.1)⟩ ⟨rfl, rfl, rfl, rfl, rfl, rfl, rfl, trivial⟩ (fun _ h => StP.drop h (by exact .cons _ (.cons _ (.cons_cons _ (.cons_cons _ (.cons_cons _ (.cons_cons _ (.cons_cons _ (.cons_cons _ (.cons_cons _ (.cons_cons _ (.slnil))))))))))))
            · simp [-List.getD_eq_getElem?_getD] at hc10
              refine AW.skip ?_
              refine Post.blk_n (Post.then_n ?_)
              refine AW.region ?_
              refine RW.q (v := .int .i64 ((k + 1 : Nat) : Int)) rfl (q_add rfl rfl (by omega) (by unfold I64; omega)) ?_
              refine RW.q (v := .int .i64 ((k + 1 : Nat) : Int)) rfl (q_move rfl) ?_
              refine RW.nil ?_
              have hc4n : ¬ (¬ Fu.inG b.Gauges (K1.getD k default).Gauge ∨ (Fu.gaugeAt b.Gauges (K1.getD k default).Gauge).Target < 0) := fun h9 => h9.elim (fun h8 => h8 hc4.1) (fun h8 => by have := hc4.2; omega)
              have hkd : Fu.kindOf b F.V.length F.K.length (K1.getD k default) = 2 := Fu.kind2 hc4n (by rw [hVl]; intro h9; exact absurd h9.2 (by have := hc6 h9.1; omega)) (by rw [hKl]; exact hc9)
              have hm : (Fu.meet (F.K.getD (Fu.gaugeAt b.Gauges (K1.getD k default).Gauge).Target.toNat default).Pos.Lo (F.K.getD (Fu.gaugeAt b.Gauges (K1.getD k default).Gauge).Target.toNat default).Pos.Hi (K1.getD k default).Value.Lo (K1.getD k default).Value.Hi).isSome = true := by simpa using hc10
              have hok : Fu.okK b F.K (K1.getD k default) = true := hm
              have htin : (Fu.gaugeAt b.Gauges (K1.getD k default).Gauge).Target.toNat < F.K.length := by omega
              exact Post.back (s' := _) (J' := _) (m' := _) (by omega) ⟨k + 1, ⟨F.V, Fu.narL F.K (Fu.gaugeAt b.Gauges (K1.getD k default).Gauge).Target.toNat (K1.getD k default).Value.Lo (K1.getD k default).Value.Hi, F.N⟩, zv, rfl, rfl, rfl, (by omega), (by rw [Fu.foldl_takeR _ _ hks, ← hF]; exact (Fu.step2 hkd hok).symm), hzv, (show F.N.length ≤ k + 1 by omega), hVl, (by rw [← hKl]; exact Fu.narL_len _ _ _ _), hVw, (Fu.narL_wf htin (fun x => (show (I64 x.Pos.Lo ∧ I64 x.Pos.Hi ∧ I64 x.Target ∧ I64 x.Open.Lo ∧ I64 x.Open.Hi) ↔ _ from by unfold I64 Fu.Ok64; constructor <;> intro h9 <;> omega)) hKw hsk.2.2.1 hsk.2.2.2), hNw⟩ ⟨rfl, rfl, rfl, rfl, rfl, rfl, rfl, trivial⟩ (fun _ h => StP.drop h (by exact .cons _ (.cons _ (.cons_cons _ (.cons_cons _ (.cons_cons _ (.cons_cons _ (.cons_cons _ (.cons_cons _ (.cons_cons _ (.cons_cons _ (.slnil))))))))))))
          · simp [-List.getD_eq_getElem?_getD] at hc9
            refine AW.skip ?_
            refine Post.blk_n (Post.then_n ?_)
            refine AW.seq ?_
            refine AW.region ?_
            refine RW.q (v := .bool true) rfl (q_move rfl) ?_
            refine RW.q (v := .bool false) rfl (q_not (b := true) rfl) ?_
            refine RW.nil ?_
            refine Post.then_n ?_
            refine AW.cond (b := false) rfl (fun hc11 => ?_) (fun hc11 => ?_)
            · cases hc11
            · skip
              refine AW.skip ?_
              refine Post.blk_n (Post.then_n ?_)
              refine AW.region ?_
              refine RW.q (v := .int .i64 ((k + 1 : Nat) : Int)) rfl (q_add rfl rfl (by omega) (by unfold I64; omega)) ?_
              refine RW.q (v := .int .i64 ((k + 1 : Nat) : Int)) rfl (q_move rfl) ?_
              refine RW.nil ?_
              exact Post.back (s' := _) (J' := _) (m' := _) (by omega) ⟨k + 1, F, zv, rfl, rfl, rfl, (by omega), (by rw [Fu.foldl_takeR _ _ hks, ← hF]; exact (Fu.step0 (Fu.kind3 (by rw [hVl]; intro h9; have := hc6 h9.1; omega) (by rw [hKl]; intro h9; have := hc9 h9.1; omega))).symm), hzv, (by omega), hVl, hKl, hVw, hKw, hNw⟩ ⟨rfl, rfl, rfl, rfl, rfl, rfl, rfl, trivial⟩ (fun _ h => StP.drop h (by exact .cons _ (.cons _ (.cons_cons _ (.cons_cons _ (.cons_cons _ (.cons_cons _ (.cons_cons _ (.cons_cons _ (.cons_cons _ (.cons_cons _ (.slnil))))))))))))
    · simp [-List.getD_eq_getElem?_getD] at hc3
      refine AW.exit ?_
      refine Post.then_x (Post.then_x (Post.blk_hit (Post.then_n ?_)))
      refine AW.seq ?_
      have hB_0 := hB
      have r3_0 := r3
      have r6_0 := r6
      have hH_0 := hH
      have hr1_0 := hr1
      have hr2_0 := hr2
      have hr3_0 := hr3
      have hl_0 := hl
      refine AW.draw (J0 := St ⟨w, Φ, []⟩ Φ [.row nv 46 4 M.length (flat K1), .row cv3 79 5 h.Links.length (flat F.K), .row cv2 93 4 h.Queue.length (flat h.Queue), .row cv1 42 2 h.Vol.length (flat F.V), .blk b2 36 [.int .i64 h.Hour, cv1, cv2, cv3], .blk b1 31 [.string b.Name, v1, .int .i64 b.Cells, v3, v4, v5, v6, v7, v8, v9, .int .i64 b.Err]]) [.q, .q, .e, .e, .q] [0, 1, 2, 3, 4] hmix (by kernel_rfl) ?_
      refine DW.q (v := .agg #[.int .i64 h.Hour, cv1, cv2, cv3]) (fun _ h => (StP.drop h (by exact .cons _ (.cons_cons _ (.cons_cons _ (.cons_cons _ (.cons_cons _ (.cons _ (.cons_cons _ (.cons_cons _ (.slnil))))))))))) rfl (q_loadAgg rfl Try.underlying36 rfl sz36 rfl (Cells.blk 4 rfl)) ?_
      refine DW.q (v := zv) (fun _ h => (StP.drop h (by exact .cons _ (.cons_cons _ (.cons_cons _ (.cons_cons _ (.cons_cons _ (.cons _ (.cons_cons _ (.cons_cons _ (.slnil))))))))))) rfl (q_move rfl) ?_
      refine DW.eff (fun x : {r : Value // IsSl r (Fu.comp F.N).length} => x.1) (fun x => St ⟨w, Φ, []⟩ Φ [.row x.1 3 1 ((Fu.comp F.N).length) ((Fu.comp F.N).map (Value.int .i64)), .row nv 46 4 M.length (flat K1), .row cv3 79 5 h.Links.length (flat F.K), .row cv2 93 4 h.Queue.length (flat h.Queue), .row cv1 42 2 h.Vol.length (flat F.V), .blk b3 36 [.int .i64 0, (.slice none 0 0), (.slice none 0 0), (.slice none 0 0)], .blk b2 36 [.int .i64 h.Hour, cv1, cv2, cv3], .blk b1 31 [.string b.Name, v1, .int .i64 b.Cells, v3, v4, v5, v6, v7, v8, v9, .int .i64 b.Err]]) (fun _ _ => (fun _ h => (StP.drop h (by exact .cons _ (.cons_cons _ (.cons_cons _ (.cons_cons _ (.cons_cons _ (.cons _ (.cons_cons _ (.cons_cons _ (.slnil)))))))))))) rfl (e_call (args := #[zv]) own44 rfl rfl (fun w1 hw1 => Compact_c rfl hzv rfl (by omega) w1 hw1)) ?_
      rintro ⟨rv1, hrv1⟩
      refine DW.effn (J' := St ⟨w, Φ, []⟩ Φ [.row rv1 3 1 ((Fu.comp F.N).length) ((Fu.comp F.N).map (Value.int .i64)), .row nv 46 4 M.length (flat K1), .row cv3 79 5 h.Links.length (flat F.K), .row cv2 93 4 h.Queue.length (flat h.Queue), .row cv1 42 2 h.Vol.length (flat F.V), .blk b3 36 [.int .i64 h.Hour, cv1, cv2, cv3], .blk b2 36 [.int .i64 h.Hour, cv1, cv2, cv3], .blk b1 31 [.string b.Name, v1, .int .i64 b.Cells, v3, v4, v5, v6, v7, v8, v9, .int .i64 b.Err]]) (fun _ => (fun _ h => (StP.drop h (by exact .cons _ (.cons_cons _ (.cons_cons _ (.cons_cons _ (.cons_cons _ (.cons _ (.cons_cons _ (.cons_cons _ (.slnil)))))))))))) (e_store (v := .agg #[.int .i64 h.Hour, cv1, cv2, cv3]) 5 rfl rfl rfl sz36 rfl (by show List.all [_, cv1, cv2, cv3] _ = true; simp only [List.all_cons, List.all_nil, oneCell_sl hcv1, oneCell_sl hcv2, oneCell_sl hcv3]; rfl) rfl rfl rfl) ?_
      refine DW.q (v := rv1) (fun _ h => (StP.drop h (by exact .cons _ (.cons_cons _ (.cons_cons _ (.cons_cons _ (.cons_cons _ (.cons _ (.cons_cons _ (.cons_cons _ (.slnil))))))))))) rfl (q_assign rfl) ?_
      refine DW.nil ?_
      refine Post.then_n ?_
      refine AW.ret ?_
      have hsd := Sorts.Upd.srt (L := M) hK1.1 hK1.2
      have hfin : F = Fu.fuse b h l := by rw [hF, List.take_of_length_le (by omega)]; exact Fu.fuse_sorted hsd.1 (by rw [← hMM]; exact hsd.2)
      refine fin_cell2 (cs := [.int .i64 h.Hour, cv1, cv2, cv3]) (v := rv1) rfl rfl rfl rfl Try.underlying36 rfl sz36 rfl (Cells.blk 5 rfl) (fun w' hw => ?_)
      refine ⟨_, rfl, hw.below rfl, cv1, cv2, cv3, _, rfl, ?_, ?_, ?_, ?_⟩
      · rw [← hfin]; exact RowS.repE even42 (row_ext hw 4 rfl) hVl (by simp only [maxSl]; omega) hVw
      · exact RowS.repE even93 (row_ext hw 3 rfl) rfl (by simp only [maxSl]; omega) hr2.wfE
      · rw [← hfin]; exact RowS.repE even79 (row_ext hw 2 rfl) hKl (by simp only [maxSl]; omega) hKw
      · rw [← hfin]; exact RowS.ints (row_ext hw 0 rfl) (by simp only [maxSl]; have := Fu.comp_le F.N; omega) (fun x hx => hNw x (Fu.comp_mem hx))

end Go.Proofs.Ytblfeidlnhdekaa
