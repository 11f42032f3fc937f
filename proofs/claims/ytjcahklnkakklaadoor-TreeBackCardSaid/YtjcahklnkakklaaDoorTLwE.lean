/- Walks (part LwE), printed by walk2.py. Conditions: those of each theorem. -/
import Derived.Test.YtjcahklnkakklaaDoorTLwA
import Derived.Test.YtjcahklnkakklaaDoorTPlK
namespace Go.Proofs.YtjcahklnkakklaaDoor
open Go Go.K Go.RowKit

set_option maxRecDepth 8000 in
set_option maxHeartbeats 1000000 in
theorem TreeBack_c (w : World) (Φ : Hp) (hΦ : Hp.le Φ (hp w)) (hG : Knows Φ Glob) {nd : Bt.Node} {kv : Value} (hk : RepSl Φ nd.Kids kv) (hwx : wfN nd) :
    Calls Tryd.prog 3 #[.agg (ndC nd kv).toArray] w fun e w' => e = .returned (.bool true) ∧ Bel w.heap.size w w' := by
  refine calls_of_AW (args := [.agg #[.int .i64 nd.Kind, .string (bs nd.Text), .int .i64 nd.N, .int .i64 nd.Dim, .int .i64 nd.At, kv]]) Tryd.func3 rfl (Nat.le_of_ble_eq_true rfl) (St ⟨w, Φ, []⟩ Φ []) (StP.init w Φ hΦ []) ?_
  show AW Tryd.prog 57 [] _ _ _ [(0, .agg #[.int .i64 nd.Kind, .string (bs nd.Text), .int .i64 nd.N, .int .i64 nd.Dim, .int .i64 nd.At, kv])] _
  have hkm : nd.Kids.length * 72 ≤ 140737488355328 := hk.max
  refine AW.seq ?_
  refine AW.region ?_
  refine RW.eff (fun b1 : Nat => .pointer (some (⟨b1, 0, none⟩))) (fun b1 => St ⟨w, Φ, []⟩ Φ [.blk b1 26 [.int .i64 nd.Kind, .string (bs nd.Text), .int .i64 nd.N, .int .i64 nd.Dim, .int .i64 nd.At, kv]]) rfl (e_boxA (cs := [.int .i64 nd.Kind, .string (bs nd.Text), .int .i64 nd.N, .int .i64 nd.Dim, .int .i64 nd.At, kv]) rfl) ?_
  intro b1
  refine RW.q (v := .bool false) rfl (q_assign rfl) ?_
  refine RW.nil ?_
  refine Post.then_n ?_
  refine AW.seq ?_
  refine AW.region ?_
  refine RW.q (v := .bool true) rfl (q_call (args := #[]) own8 rfl rfl (fun w1 hw1 => small_c w1 (Go.K.hp w1) (Hp.le_refl _) (hG.mono hw1.phi))) ?_
  refine RW.q (v := .bool true) rfl (q_assign rfl) ?_
  refine RW.nil ?_
  refine Post.then_n ?_
  refine AW.seq ?_
  refine AW.seq ?_
  refine AW.region ?_
  refine RW.q (v := .agg #[.int .i64 nd.Kind, .string (bs nd.Text), .int .i64 nd.N, .int .i64 nd.Dim, .int .i64 nd.At, kv]) rfl (q_loadAgg rfl Tryd.underlying26 rfl sz26 rfl (Cells.blk 0 rfl)) ?_
  refine RW.q (v := .int .i64 ((Pa.szN nd 0 : Nat) : Int)) rfl (q_call (args := #[.agg #[.int .i64 nd.Kind, .string (bs nd.Text), .int .i64 nd.N, .int .i64 nd.Dim, .int .i64 nd.At, kv], .int .i64 0]) own9 rfl rfl (fun w1 hw1 => size_c nd w1 (Go.K.hp w1) (Hp.le_refl _) (hk.mono hw1.phi) hwx (g := 0) (by omega))) ?_
  refine RW.q (v := .bool (decide ((300 : Int) < ((Pa.szN nd 0 : Nat) : Int)))) rfl (q_gtr rfl rfl) ?_
  refine RW.nil ?_
  refine Post.then_n ?_
  refine AW.cond (b := decide ((300 : Int) < ((Pa.szN nd 0 : Nat) : Int))) rfl (fun hc1 => ?_) (fun hc1 => ?_)
  · simp [-List.getD_eq_getElem?_getD] at hc1
    refine AW.seq ?_
    refine AW.region ?_
    refine RW.q (v := .bool true) rfl (q_move rfl) ?_
    refine RW.q (v := .bool true) rfl (q_assign rfl) ?_
    refine RW.nil ?_
    refine Post.then_n ?_
    refine AW.ret ?_
    refine Post.then_r ?_
    exact fin_val (v' := .bool true) rfl rfl rfl (rfl)
  · simp [-List.getD_eq_getElem?_getD] at hc1
    refine AW.skip ?_
    refine Post.then_n ?_
    refine AW.seq ?_
    have hws := Pa.write_sz (x := nd) (by omega)
    refine AW.region ?_
    refine RW.q (v := .agg #[.int .i64 nd.Kind, .string (bs nd.Text), .int .i64 nd.N, .int .i64 nd.Dim, .int .i64 nd.At, kv]) rfl (q_loadAgg rfl Tryd.underlying26 rfl sz26 rfl (Cells.blk 0 rfl)) ?_
    refine RW.q (v := .string (bs (Pa.write nd))) rfl (q_call (args := #[.agg #[.int .i64 nd.Kind, .string (bs nd.Text), .int .i64 nd.N, .int .i64 nd.Dim, .int .i64 nd.At, kv]]) own10 rfl rfl (fun w1 hw1 => treeWrite_c w1 (Go.K.hp w1) (Hp.le_refl _) (hG.mono hw1.phi) (hk.mono hw1.phi) hwx (by omega))) ?_
    refine RW.q (v := .string (bs (Pa.write nd))) rfl (q_assign rfl) ?_
    refine RW.nil ?_
    refine Post.then_n ?_
    refine AW.seq ?_
    refine AW.seq ?_
    refine AW.region ?_
    refine RW.q (v := .agg #[.int .i64 nd.Kind, .string (bs nd.Text), .int .i64 nd.N, .int .i64 nd.Dim, .int .i64 nd.At, kv]) rfl (q_loadAgg rfl Tryd.underlying26 rfl sz26 rfl (Cells.blk 0 rfl)) ?_
    refine RW.q (v := .bool (Pa.right nd)) rfl (q_call (args := #[.agg #[.int .i64 nd.Kind, .string (bs nd.Text), .int .i64 nd.N, .int .i64 nd.Dim, .int .i64 nd.At, kv]]) own11 rfl rfl (fun w1 hw1 => Right_c w1 (Go.K.hp w1) (Hp.le_refl _) (hG.mono hw1.phi) (hk.mono hw1.phi) hwx)) ?_
    refine RW.q (v := .bool (!(Pa.right nd))) rfl (q_not rfl) ?_
    refine RW.nil ?_
    refine Post.then_n ?_
    refine AW.cond (b := !(Pa.right nd)) rfl (fun hc2 => ?_) (fun hc2 => ?_)
    · simp [-List.getD_eq_getElem?_getD] at hc2
      refine AW.seq ?_
      refine AW.region ?_
      refine RW.q (v := .bool true) rfl (q_move rfl) ?_
      refine RW.q (v := .bool true) rfl (q_move rfl) ?_
      refine RW.gl (v := .string (bs (Pa.write nd))) rfl rfl rfl (q_move rfl) ?_
      refine RW.gl (v := .bool (decide (Pa.write nd = ([] : List UInt8)))) rfl rfl rfl (q_eqlStr (l := Pa.write nd) (r := ([] : List UInt8)) rfl rfl) ?_
      obtain ⟨qb1, hqb1⟩ : ∃ qz : Bool, (decide (Pa.write nd = ([] : List UInt8))) = qz := ⟨_, rfl⟩
      refine RW.q (v := .bool qb1) rfl (q_as (v := .bool (decide (Pa.write nd = ([] : List UInt8)))) (q_pick (t := true) rfl (fun _ => rfl) (fun hp => nomatch hp)) (congrArg Value.bool hqb1)) ?_
      refine RW.q (v := .bool qb1) rfl (q_assign rfl) ?_
      subst hqb1
      refine RW.nil ?_
      refine Post.then_n ?_
      refine AW.ret ?_
      refine Post.then_r ?_
      exact fin_val (v' := .bool (decide (Pa.write nd = ([] : List UInt8)))) rfl rfl rfl (congrArg Value.bool (by unfold Pa.write; rw [if_neg (by simpa using hc2)]; rfl))
    · simp [-List.getD_eq_getElem?_getD] at hc2
      refine AW.skip ?_
      refine Post.then_n ?_
      refine AW.seq ?_
      rcases Pa.back (x := nd) (by simpa using hc2) with ⟨hgt, hpe⟩ | ⟨hle, m, hpe, hmx, hmw⟩
      · skip
        refine AW.region ?_
        refine RW.q (v := .string (bs (Pa.write nd))) rfl (q_move rfl) ?_
        refine RW.eff (fun x : {z : (Value) × Hp // (fun (y : Value) (Ψ : Hp) => (wfN (default : Bt.Node)) ∧ (RepSl Ψ (default : Bt.Node).Kids y)) z.1 z.2 ∧ Hp.le Φ z.2} => .tuple #[.agg (ndC (default : Bt.Node) x.1.1).toArray, .int .i64 8, .int .i64 0]) (fun x => St ⟨w, Φ, []⟩ x.1.2 [.blk b1 26 [.int .i64 nd.Kind, .string (bs nd.Text), .int .i64 nd.N, .int .i64 nd.Dim, .int .i64 nd.At, kv]]) rfl (e_callX (fun (y : Value) => .tuple #[.agg (ndC (default : Bt.Node) y).toArray, .int .i64 8, .int .i64 0]) (fun (y : Value) (Ψ : Hp) => (wfN (default : Bt.Node)) ∧ (RepSl Ψ (default : Bt.Node).Kids y)) (args := #[.string (bs (Pa.write nd))]) own12 rfl rfl (fun w1 hw1 => ((Parse_c w1 _ hw1.phi hG (l := Pa.write nd) (by simp only [maxLen]; omega)).mono fun _ _ h => (by rw [hpe] at h; exact h)).mono fun e w2 hr => by obtain ⟨v9, he9, hb9, u1, hr9, q1, q2⟩ := hr; exact ⟨v9, he9, hb9, u1, hr9, q1, q2⟩)) ?_
        rintro ⟨⟨kp1, Φ1⟩, ⟨hwp1, hkp1⟩, hlΦ1⟩
        replace hwp1 : wfN (default : Bt.Node) := hwp1
        replace hkp1 : RepSl Φ1 (default : Bt.Node).Kids kp1 := hkp1
        replace hlΦ1 : Hp.le Φ Φ1 := hlΦ1
        replace hk := hk.mono hlΦ1
        replace hG := hG.mono hlΦ1
        refine RW.q (v := .tuple #[.agg #[.int .i64 ((default : Bt.Node).Kind), .string (bs ((default : Bt.Node).Text)), .int .i64 ((default : Bt.Node).N), .int .i64 ((default : Bt.Node).Dim), .int .i64 ((default : Bt.Node).At), kp1], .int .i64 8, .int .i64 0]) rfl (q_move rfl) ?_
        refine RW.q (v := .agg #[.int .i64 ((default : Bt.Node).Kind), .string (bs ((default : Bt.Node).Text)), .int .i64 ((default : Bt.Node).N), .int .i64 ((default : Bt.Node).Dim), .int .i64 ((default : Bt.Node).At), kp1]) rfl (q_extract rfl rfl) ?_
        refine RW.q (v := .int .i64 8) rfl (q_extract rfl rfl) ?_
        refine RW.q (v := .int .i64 0) rfl (q_extract rfl rfl) ?_
        refine RW.eff (fun b2 : Nat => .pointer (some (⟨b2, 0, none⟩))) (fun b2 => St ⟨w, Φ, []⟩ Φ1 [.blk b2 26 [.int .i64 0, .string (bs ([])), .int .i64 0, .int .i64 0, .int .i64 0, (.slice none 0 0)], .blk b1 26 [.int .i64 nd.Kind, .string (bs nd.Text), .int .i64 nd.N, .int .i64 nd.Dim, .int .i64 nd.At, kv]]) rfl (e_alloc zero26) ?_
        intro b2
        refine RW.effn (J' := St ⟨w, Φ, []⟩ Φ1 [.blk b2 26 [.int .i64 ((default : Bt.Node).Kind), .string (bs ((default : Bt.Node).Text)), .int .i64 ((default : Bt.Node).N), .int .i64 ((default : Bt.Node).Dim), .int .i64 ((default : Bt.Node).At), kp1], .blk b1 26 [.int .i64 nd.Kind, .string (bs nd.Text), .int .i64 nd.N, .int .i64 nd.Dim, .int .i64 nd.At, kv]]) (e_store (v := .agg #[.int .i64 ((default : Bt.Node).Kind), .string (bs ((default : Bt.Node).Text)), .int .i64 ((default : Bt.Node).N), .int .i64 ((default : Bt.Node).Dim), .int .i64 ((default : Bt.Node).At), kp1]) 0 rfl rfl rfl sz26 rfl (List.all_eq_true.2 (fun u hu => Rep.one (NdV.rep hwp1 hkp1) u hu)) rfl rfl rfl) ?_
        refine RW.q (v := .int .i64 8) rfl (q_assign rfl) ?_
        refine RW.q (v := .int .i64 0) rfl (q_assign rfl) ?_
        refine RW.nil ?_
        refine Post.then_n ?_
        refine AW.seq ?_
        refine AW.seq ?_
        refine AW.region ?_
        refine RW.q (v := .string (bs (Pa.write nd))) rfl (q_move rfl) ?_
        refine RW.q (v := .int .i64 (((Pa.write nd).length : Nat) : Int)) rfl (q_lenS (l := Pa.write nd) rfl Tryd.underlying9) ?_
        refine RW.q (v := .bool true) rfl (q_as (v := .bool (decide ((65536 : Int) < (((Pa.write nd).length : Nat) : Int)))) (q_gtr rfl rfl) (congrArg Value.bool ((by first | exact decide_eq_true (by omega))))) ?_
        refine RW.nil ?_
        refine Post.then_n ?_
        refine AW.cond (b := true) rfl (fun hc3 => ?_) (fun hc3 => ?_)
        · skip
          refine AW.seq ?_
          refine AW.region ?_
          refine RW.q (v := .bool true) rfl (q_move rfl) ?_
          refine RW.q (v := .bool true) rfl (q_move rfl) ?_
          refine RW.gl (v := .int .i64 8) rfl rfl rfl (q_move rfl) ?_
          refine RW.gl (v := .bool true) rfl rfl rfl (q_eql (a := 8) (b := 8) rfl rfl) ?_
          refine RW.q (v := .bool true) rfl (q_pick (t := true) rfl (fun _ => rfl) (fun hp => nomatch hp)) ?_
          refine RW.q (v := .bool true) rfl (q_assign rfl) ?_
          refine RW.nil ?_
          refine Post.then_n ?_
          refine AW.ret ?_
          refine Post.then_r ?_
          exact fin_val (v' := .bool true) rfl rfl rfl (rfl)
        · cases hc3
      · skip
        refine AW.region ?_
        refine RW.q (v := .string (bs (Pa.write nd))) rfl (q_move rfl) ?_
        refine RW.eff (fun x : {z : (Value) × Hp // (fun (y : Value) (Ψ : Hp) => (wfN m) ∧ (RepSl Ψ m.Kids y)) z.1 z.2 ∧ Hp.le Φ z.2} => .tuple #[.agg (ndC m x.1.1).toArray, .int .i64 0, .int .i64 0]) (fun x => St ⟨w, Φ, []⟩ x.1.2 [.blk b1 26 [.int .i64 nd.Kind, .string (bs nd.Text), .int .i64 nd.N, .int .i64 nd.Dim, .int .i64 nd.At, kv]]) rfl (e_callX (fun (y : Value) => .tuple #[.agg (ndC m y).toArray, .int .i64 0, .int .i64 0]) (fun (y : Value) (Ψ : Hp) => (wfN m) ∧ (RepSl Ψ m.Kids y)) (args := #[.string (bs (Pa.write nd))]) own12 rfl rfl (fun w1 hw1 => ((Parse_c w1 _ hw1.phi hG (l := Pa.write nd) (by simp only [maxLen]; omega)).mono fun _ _ h => (by rw [hpe] at h; exact h)).mono fun e w2 hr => by obtain ⟨v9, he9, hb9, u1, hr9, q1, q2⟩ := hr; exact ⟨v9, he9, hb9, u1, hr9, q1, q2⟩)) ?_
        rintro ⟨⟨kp2, Φ2⟩, ⟨hwp2, hkp2⟩, hlΦ2⟩
        replace hwp2 : wfN m := hwp2
        replace hkp2 : RepSl Φ2 m.Kids kp2 := hkp2
        replace hlΦ2 : Hp.le Φ Φ2 := hlΦ2
        replace hk := hk.mono hlΦ2
        replace hG := hG.mono hlΦ2
        refine RW.q (v := .tuple #[.agg #[.int .i64 m.Kind, .string (bs m.Text), .int .i64 m.N, .int .i64 m.Dim, .int .i64 m.At, kp2], .int .i64 0, .int .i64 0]) rfl (q_move rfl) ?_
        refine RW.q (v := .agg #[.int .i64 m.Kind, .string (bs m.Text), .int .i64 m.N, .int .i64 m.Dim, .int .i64 m.At, kp2]) rfl (q_extract rfl rfl) ?_
        refine RW.q (v := .int .i64 0) rfl (q_extract rfl rfl) ?_
        refine RW.q (v := .int .i64 0) rfl (q_extract rfl rfl) ?_
        refine RW.eff (fun b3 : Nat => .pointer (some (⟨b3, 0, none⟩))) (fun b3 => St ⟨w, Φ, []⟩ Φ2 [.blk b3 26 [.int .i64 0, .string (bs ([])), .int .i64 0, .int .i64 0, .int .i64 0, (.slice none 0 0)], .blk b1 26 [.int .i64 nd.Kind, .string (bs nd.Text), .int .i64 nd.N, .int .i64 nd.Dim, .int .i64 nd.At, kv]]) rfl (e_alloc zero26) ?_
        intro b3
        refine RW.effn (J' := St ⟨w, Φ, []⟩ Φ2 [.blk b3 26 [.int .i64 m.Kind, .string (bs m.Text), .int .i64 m.N, .int .i64 m.Dim, .int .i64 m.At, kp2], .blk b1 26 [.int .i64 nd.Kind, .string (bs nd.Text), .int .i64 nd.N, .int .i64 nd.Dim, .int .i64 nd.At, kv]]) (e_store (v := .agg #[.int .i64 m.Kind, .string (bs m.Text), .int .i64 m.N, .int .i64 m.Dim, .int .i64 m.At, kp2]) 0 rfl rfl rfl sz26 rfl (List.all_eq_true.2 (fun u hu => Rep.one (NdV.rep hwp2 hkp2) u hu)) rfl rfl rfl) ?_
        refine RW.q (v := .int .i64 0) rfl (q_assign rfl) ?_
        refine RW.q (v := .int .i64 0) rfl (q_assign rfl) ?_
        refine RW.nil ?_
        refine Post.then_n ?_
        refine AW.seq ?_
        refine AW.seq ?_
        refine AW.region ?_
        refine RW.q (v := .string (bs (Pa.write nd))) rfl (q_move rfl) ?_
        refine RW.q (v := .int .i64 (((Pa.write nd).length : Nat) : Int)) rfl (q_lenS (l := Pa.write nd) rfl Tryd.underlying9) ?_
        refine RW.q (v := .bool false) rfl (q_as (v := .bool (decide ((65536 : Int) < (((Pa.write nd).length : Nat) : Int)))) (q_gtr rfl rfl) (congrArg Value.bool ((by exact decide_eq_false (by omega))))) ?_
        refine RW.nil ?_
        refine Post.then_n ?_
        refine AW.cond (b := false) rfl (fun hc4 => ?_) (fun hc4 => ?_)
        · cases hc4
        · skip
          refine AW.skip ?_
          refine Post.then_n ?_
          refine AW.seq ?_
          refine AW.region ?_
          refine RW.q (v := .bool true) rfl (q_move rfl) ?_
          refine RW.q (v := .bool true) rfl (q_move rfl) ?_
          refine RW.gl (v := .int .i64 0) rfl rfl rfl (q_move rfl) ?_
          refine RW.gl (v := .bool true) rfl rfl rfl (q_eql (a := 0) (b := 0) rfl rfl) ?_
          refine RW.q (v := .bool true) rfl (q_pick (t := true) rfl (fun _ => rfl) (fun hp => nomatch hp)) ?_
          refine RW.q (v := .bool true) rfl (q_move rfl) ?_
          refine RW.gl (v := .int .i64 0) rfl rfl rfl (q_move rfl) ?_
          refine RW.gl (v := .bool true) rfl rfl rfl (q_eql (a := 0) (b := 0) rfl rfl) ?_
          refine RW.q (v := .bool true) rfl (q_pick (t := true) rfl (fun _ => rfl) (fun hp => nomatch hp)) ?_
          refine RW.q (v := .bool true) rfl (q_move rfl) ?_
          refine RW.gl (v := .agg #[.int .i64 nd.Kind, .string (bs nd.Text), .int .i64 nd.N, .int .i64 nd.Dim, .int .i64 nd.At, kv]) rfl rfl rfl (q_loadAgg rfl Tryd.underlying26 rfl sz26 rfl (Cells.blk 1 rfl)) ?_
          refine RW.gl (v := .agg #[.int .i64 m.Kind, .string (bs m.Text), .int .i64 m.N, .int .i64 m.Dim, .int .i64 m.At, kp2]) rfl rfl rfl (q_loadAgg rfl Tryd.underlying26 rfl sz26 rfl (Cells.blk 0 rfl)) ?_
          refine RW.gl (v := .bool true) rfl rfl rfl (q_as (v := .bool (Pa.sameB nd m)) (q_call (args := #[.agg #[.int .i64 nd.Kind, .string (bs nd.Text), .int .i64 nd.N, .int .i64 nd.Dim, .int .i64 nd.At, kv], .agg #[.int .i64 m.Kind, .string (bs m.Text), .int .i64 m.N, .int .i64 m.Dim, .int .i64 m.At, kp2]]) own13 rfl rfl (fun w1 hw1 => same_c nd w1 (Go.K.hp w1) (Hp.le_refl _) (hk.mono hw1.phi) hwx (y := m) (hkp2.mono hw1.phi) hwp2)) (congrArg Value.bool (Pa.sameB_of _ _ hmx.symm))) ?_
          refine RW.q (v := .bool true) rfl (q_pick (t := true) rfl (fun _ => rfl) (fun hp => nomatch hp)) ?_
          refine RW.q (v := .bool true) rfl (q_move rfl) ?_
          refine RW.gl (v := .agg #[.int .i64 m.Kind, .string (bs m.Text), .int .i64 m.N, .int .i64 m.Dim, .int .i64 m.At, kp2]) rfl rfl rfl (q_loadAgg rfl Tryd.underlying26 rfl sz26 rfl (Cells.blk 0 rfl)) ?_
          refine RW.gl (v := .string (bs (Pa.write m))) rfl rfl rfl (q_call (args := #[.agg #[.int .i64 m.Kind, .string (bs m.Text), .int .i64 m.N, .int .i64 m.Dim, .int .i64 m.At, kp2]]) own10 rfl rfl (fun w1 hw1 => treeWrite_c w1 (Go.K.hp w1) (Hp.le_refl _) (hG.mono hw1.phi) (hkp2.mono hw1.phi) hwp2 (by rw [hmw]; omega))) ?_
          refine RW.gl (v := .string (bs (Pa.write nd))) rfl rfl rfl (q_move rfl) ?_
          refine RW.gl (v := .bool true) rfl rfl rfl (q_as (v := .bool (decide (Pa.write m = Pa.write nd))) (q_eqlStr (l := Pa.write m) (r := Pa.write nd) rfl rfl) (congrArg Value.bool (decide_eq_true hmw))) ?_
          refine RW.q (v := .bool true) rfl (q_pick (t := true) rfl (fun _ => rfl) (fun hp => nomatch hp)) ?_
          refine RW.q (v := .bool true) rfl (q_assign rfl) ?_
          refine RW.nil ?_
          refine Post.then_n ?_
          refine AW.ret ?_
          exact fin_val (v' := .bool true) rfl rfl rfl (rfl)

end Go.Proofs.YtjcahklnkakklaaDoor
