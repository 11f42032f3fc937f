/- Walks (part LwA), printed by walk2.py. Conditions: those of each theorem. -/
import Derived.Test.YtjcahklnkakklaaDoorRTrF
import Derived.Test.YtjcahklnkakklaaDoorRPlG
import Derived.Test.YtjcahklnkakklaaDoorRScB
namespace Go.Proofs.YtjcahklnkakklaaDoor
open Go Go.K Go.RowKit

set_option maxRecDepth 8000 in
set_option maxHeartbeats 1000000 in
theorem TreeReads_c (w : World) (Φ : Hp) (hΦ : Hp.le Φ (hp w)) (hG : Knows Φ Glob) {src : List UInt8} :
    Calls Tryd.prog 7 #[.string (bs src)] w fun e w' => e = .returned (.bool true) ∧ Bel w.heap.size w w' := by
  refine calls_of_AW (args := [.string (bs src)]) Tryd.func7 rfl (Nat.le_of_ble_eq_true rfl) (St ⟨w, Φ, []⟩ Φ []) (StP.init w Φ hΦ []) ?_
  show AW Tryd.prog 81 [] _ _ _ [(0, .string (bs src))] _
  refine AW.seq ?_
  refine AW.region ?_
  refine RW.q (v := .bool false) rfl (q_assign rfl) ?_
  refine RW.nil ?_
  refine Post.then_n ?_
  refine AW.seq ?_
  refine AW.region ?_
  refine RW.q (v := .bool true) rfl (q_call (args := #[]) own8 rfl rfl (fun w1 hw1 => small_c w1 (Go.K.hp w1) (Hp.le_refl _) (hG.mono hw1.phi))) ?_
  refine RW.q (v := .bool true) rfl (q_assign rfl) ?_
  refine RW.nil ?_
  refine Post.then_n ?_
  refine AW.seq ?_
  refine AW.seq ?_
  refine AW.region ?_
  refine RW.q (v := .string (bs src)) rfl (q_move rfl) ?_
  refine RW.q (v := .int .i64 ((src.length : Nat) : Int)) rfl (q_lenS (l := src) rfl Tryd.underlying9) ?_
  refine RW.q (v := .bool (decide ((2000 : Int) < ((src.length : Nat) : Int)))) rfl (q_gtr rfl rfl) ?_
  refine RW.nil ?_
  refine Post.then_n ?_
  refine AW.cond (b := decide ((2000 : Int) < ((src.length : Nat) : Int))) rfl (fun hc1 => ?_) (fun hc1 => ?_)
  · simp [-List.getD_eq_getElem?_getD] at hc1
    refine AW.seq ?_
    refine AW.region ?_
    refine RW.q (v := .bool true) rfl (q_move rfl) ?_
    refine RW.q (v := .bool true) rfl (q_assign rfl) ?_
    refine RW.nil ?_
    refine Post.then_n ?_
    refine AW.ret ?_
    refine Post.then_r ?_
    exact fin_val (v' := .bool true) rfl rfl rfl (rfl)
  · simp [-List.getD_eq_getElem?_getD] at hc1
    refine AW.skip ?_
    refine Post.then_n ?_
    refine AW.seq ?_
    refine AW.region ?_
    refine RW.q (v := .string (bs src)) rfl (q_move rfl) ?_
    refine RW.eff (fun x : {z : (Value) × Hp // (fun (y : Value) (Ψ : Hp) => (wfN (Pa.parse src).1) ∧ (RepSl Ψ (Pa.parse src).1.Kids y)) z.1 z.2 ∧ Hp.le Φ z.2} => .tuple #[.agg (ndC (Pa.parse src).1 x.1.1).toArray, .int .i64 ((Pa.parse src).2.1), .int .i64 ((Pa.parse src).2.2)]) (fun x => St ⟨w, Φ, []⟩ x.1.2 []) rfl (e_callX (fun (y : Value) => .tuple #[.agg (ndC (Pa.parse src).1 y).toArray, .int .i64 ((Pa.parse src).2.1), .int .i64 ((Pa.parse src).2.2)]) (fun (y : Value) (Ψ : Hp) => (wfN (Pa.parse src).1) ∧ (RepSl Ψ (Pa.parse src).1.Kids y)) (args := #[.string (bs src)]) own12 rfl rfl (fun w1 hw1 => (Parse_c w1 _ hw1.phi hG (l := src) (by omega)).mono fun e w2 hr => by obtain ⟨v9, he9, hb9, u1, hr9, q1, q2⟩ := hr; exact ⟨v9, he9, hb9, u1, hr9, q1, q2⟩)) ?_
    rintro ⟨⟨kp1, Φ1⟩, ⟨hwp1, hkp1⟩, hlΦ1⟩
    replace hwp1 : wfN (Pa.parse src).1 := hwp1
    replace hkp1 : RepSl Φ1 (Pa.parse src).1.Kids kp1 := hkp1
    replace hlΦ1 : Hp.le Φ Φ1 := hlΦ1
    replace hG := hG.mono hlΦ1
    refine RW.q (v := .tuple #[.agg #[.int .i64 ((Pa.parse src).1.Kind), .string (bs ((Pa.parse src).1.Text)), .int .i64 ((Pa.parse src).1.N), .int .i64 ((Pa.parse src).1.Dim), .int .i64 ((Pa.parse src).1.At), kp1], .int .i64 ((Pa.parse src).2.1), .int .i64 ((Pa.parse src).2.2)]) rfl (q_move rfl) ?_
    refine RW.q (v := .agg #[.int .i64 ((Pa.parse src).1.Kind), .string (bs ((Pa.parse src).1.Text)), .int .i64 ((Pa.parse src).1.N), .int .i64 ((Pa.parse src).1.Dim), .int .i64 ((Pa.parse src).1.At), kp1]) rfl (q_extract rfl rfl) ?_
    refine RW.q (v := .int .i64 ((Pa.parse src).2.1)) rfl (q_extract rfl rfl) ?_
    refine RW.q (v := .int .i64 ((Pa.parse src).2.2)) rfl (q_extract rfl rfl) ?_
    refine RW.eff (fun b1 : Nat => .pointer (some (⟨b1, 0, none⟩))) (fun b1 => St ⟨w, Φ, []⟩ Φ1 [.blk b1 26 [.int .i64 0, .string (bs ([])), .int .i64 0, .int .i64 0, .int .i64 0, (.slice none 0 0)]]) rfl (e_alloc zero26) ?_
    intro b1
    refine RW.effn (J' := St ⟨w, Φ, []⟩ Φ1 [.blk b1 26 [.int .i64 ((Pa.parse src).1.Kind), .string (bs ((Pa.parse src).1.Text)), .int .i64 ((Pa.parse src).1.N), .int .i64 ((Pa.parse src).1.Dim), .int .i64 ((Pa.parse src).1.At), kp1]]) (e_store (v := .agg #[.int .i64 ((Pa.parse src).1.Kind), .string (bs ((Pa.parse src).1.Text)), .int .i64 ((Pa.parse src).1.N), .int .i64 ((Pa.parse src).1.Dim), .int .i64 ((Pa.parse src).1.At), kp1]) 0 rfl rfl rfl sz26 rfl (List.all_eq_true.2 (fun u hu => Rep.one (NdV.rep hwp1 hkp1) u hu)) rfl rfl rfl) ?_
    refine RW.q (v := .int .i64 ((Pa.parse src).2.1)) rfl (q_assign rfl) ?_
    refine RW.q (v := .int .i64 ((Pa.parse src).2.2)) rfl (q_assign rfl) ?_
    refine RW.nil ?_
    refine Post.then_n ?_
    refine AW.seq ?_
    refine AW.region ?_
    refine RW.q (v := .string (bs src)) rfl (q_move rfl) ?_
    refine RW.eff (fun x : {z : (Value) × Hp // (fun (y : Value) (Ψ : Hp) => (RepSl Ψ ((Lx.scan src).1) y)) z.1 z.2 ∧ Hp.le Φ1 z.2} => .tuple #[x.1.1, .int .i64 ((Lx.scan src).2.1), .int .i64 ((Lx.scan src).2.2)]) (fun x => St ⟨w, Φ, []⟩ x.1.2 [.blk b1 26 [.int .i64 ((Pa.parse src).1.Kind), .string (bs ((Pa.parse src).1.Text)), .int .i64 ((Pa.parse src).1.N), .int .i64 ((Pa.parse src).1.Dim), .int .i64 ((Pa.parse src).1.At), kp1]]) rfl (e_callX (fun (y : Value) => .tuple #[y, .int .i64 ((Lx.scan src).2.1), .int .i64 ((Lx.scan src).2.2)]) (fun (y : Value) (Ψ : Hp) => (RepSl Ψ ((Lx.scan src).1) y)) (args := #[.string (bs src)]) own14 rfl rfl (fun w1 hw1 => (Scan_c w1 _ hw1.phi (l := src) (by omega)).mono fun e w2 hr => by obtain ⟨v9, he9, hb9, u1, hr9, q1⟩ := hr; exact ⟨v9, he9, hb9, u1, hr9, q1⟩)) ?_
    rintro ⟨⟨tv1, Φ2⟩, htv1, hlΦ2⟩
    replace htv1 : RepSl Φ2 ((Lx.scan src).1) tv1 := htv1
    replace hlΦ2 : Hp.le Φ1 Φ2 := hlΦ2
    replace hG := hG.mono hlΦ2
    replace hkp1 := hkp1.mono hlΦ2
    refine RW.q (v := .tuple #[tv1, .int .i64 ((Lx.scan src).2.1), .int .i64 ((Lx.scan src).2.2)]) rfl (q_move rfl) ?_
    refine RW.q (v := tv1) rfl (q_extract rfl rfl) ?_
    refine RW.q (v := .int .i64 ((Lx.scan src).2.1)) rfl (q_extract rfl rfl) ?_
    refine RW.q (v := .int .i64 ((Lx.scan src).2.2)) rfl (q_extract rfl rfl) ?_
    refine RW.q (v := tv1) rfl (q_assign rfl) ?_
    refine RW.q (v := .int .i64 ((Lx.scan src).2.1)) rfl (q_assign rfl) ?_
    refine RW.q (v := .int .i64 ((Lx.scan src).2.2)) rfl (q_assign rfl) ?_
    refine RW.nil ?_
    refine Post.then_n ?_
    refine AW.seq ?_
    refine AW.seq ?_
    refine AW.region ?_
    refine RW.q (v := .int .i64 ((Pa.parse src).2.1)) rfl (q_move rfl) ?_
    refine RW.q (v := .bool (!decide ((Pa.parse src).2.1 = 0))) rfl (q_neq rfl rfl) ?_
    refine RW.q (v := .bool (!decide ((Pa.parse src).2.1 = 0))) rfl (q_move rfl) ?_
    refine RW.g (b := (!decide ((Pa.parse src).2.1 = 0))) (v := .int .i64 ((Lx.scan src).2.1)) rfl rfl rfl (fun h => q_move rfl) ?_
    refine RW.g (b := (!decide ((Pa.parse src).2.1 = 0))) (v := .bool (!decide ((Lx.scan src).2.1 = 0))) rfl rfl rfl (fun h => q_neq (gv_pos h) rfl) ?_
    obtain ⟨qb1, hqb1⟩ : ∃ qz : Bool, ((!decide ((Pa.parse src).2.1 = 0)) || (!decide ((Lx.scan src).2.1 = 0))) = qz := ⟨_, rfl⟩
    refine RW.q (v := .bool qb1) rfl (q_as (v := .bool ((!decide ((Pa.parse src).2.1 = 0)) || (!decide ((Lx.scan src).2.1 = 0)))) (q_pick rfl (fun hp => pkOrT hp) (fun hp => (gv_pos hp).trans (pkOrF hp))) (congrArg Value.bool hqb1)) ?_
    subst hqb1
    refine RW.nil ?_
    refine Post.then_n ?_
    refine AW.cond (b := ((!decide ((Pa.parse src).2.1 = 0)) || (!decide ((Lx.scan src).2.1 = 0)))) rfl (fun hc2 => ?_) (fun hc2 => ?_)
    · simp [-List.getD_eq_getElem?_getD] at hc2
      refine AW.seq ?_
      refine AW.region ?_
      refine RW.q (v := .bool true) rfl (q_move rfl) ?_
      refine RW.q (v := .bool true) rfl (q_move rfl) ?_
      refine RW.gl (v := .int .i64 ((Pa.parse src).2.1)) rfl rfl rfl (q_move rfl) ?_
      refine RW.gl (v := .bool (!decide ((Pa.parse src).2.1 = 0))) rfl rfl rfl (q_neq rfl rfl) ?_
      refine RW.q (v := .bool (!decide ((Pa.parse src).2.1 = 0))) rfl (q_pick (t := true) rfl (fun _ => rfl) (fun hp => nomatch hp)) ?_
      refine RW.q (v := .bool (!decide ((Pa.parse src).2.1 = 0))) rfl (q_assign rfl) ?_
      refine RW.nil ?_
      refine Post.then_n ?_
      refine AW.ret ?_
      refine Post.then_r ?_
      exact fin_val (v' := .bool (!decide ((Pa.parse src).2.1 = 0))) rfl rfl rfl (congrArg Value.bool (by rcases hc2 with h1 | h1 <;> simp only [Bool.true_and, Bool.not_eq_true', decide_eq_false_iff_not]; exact h1; exact fun h => h1 (Pa.parse_ok h).1))
    · simp [-List.getD_eq_getElem?_getD] at hc2
      refine AW.skip ?_
      refine Post.then_n ?_
      refine AW.seq ?_
      obtain ⟨hr1, hr2, hr3, ⟨m, hm1, hm2⟩, o, ho1, ho2⟩ := Pa.reads (by omega) (show (Pa.parse src).2.1 = 0 by omega)
      have hs0 := (Pa.parse_ok (s := src) (by omega)).1
      obtain ⟨hsg, hsw, hsl, _⟩ := Pa.scan_good hs0
      have hwx := hwp1
      have htl : ∀ t ∈ (Lx.scan src).1, t.Text.length ≤ 65536 := fun t ht => (hsw t ht).2.2.1
      refine AW.region ?_
      refine RW.q (v := tv1) rfl (q_move rfl) ?_
      refine RW.q (v := .string (bs (Pa.lexW ((Lx.scan src).1)))) rfl (q_call (args := #[tv1]) own17 rfl rfl (fun w1 hw1 => lexWrite_c w1 (Go.K.hp w1) (Hp.le_refl _) (htv1.mono hw1.phi) htl hsl (by omega))) ?_
      refine RW.eff (fun x : {z : (Value) × Hp // (fun (y : Value) (Ψ : Hp) => (wfN m) ∧ (RepSl Ψ m.Kids y)) z.1 z.2 ∧ Hp.le Φ2 z.2} => .tuple #[.agg (ndC m x.1.1).toArray, .int .i64 0, .int .i64 0]) (fun x => St ⟨w, Φ, []⟩ x.1.2 [.blk b1 26 [.int .i64 ((Pa.parse src).1.Kind), .string (bs ((Pa.parse src).1.Text)), .int .i64 ((Pa.parse src).1.N), .int .i64 ((Pa.parse src).1.Dim), .int .i64 ((Pa.parse src).1.At), kp1]]) rfl (e_callX (fun (y : Value) => .tuple #[.agg (ndC m y).toArray, .int .i64 0, .int .i64 0]) (fun (y : Value) (Ψ : Hp) => (wfN m) ∧ (RepSl Ψ m.Kids y)) (args := #[.string (bs (Pa.lexW ((Lx.scan src).1)))]) own12 rfl rfl (fun w1 hw1 => ((Parse_c w1 _ hw1.phi hG (l := Pa.lexW ((Lx.scan src).1)) (by omega)).mono fun _ _ h => (by rw [hm1] at h; exact h)).mono fun e w2 hr => by obtain ⟨v9, he9, hb9, u1, hr9, q1, q2⟩ := hr; exact ⟨v9, he9, hb9, u1, hr9, q1, q2⟩)) ?_
      rintro ⟨⟨kp2, Φ3⟩, ⟨hwp2, hkp2⟩, hlΦ3⟩
      replace hwp2 : wfN m := hwp2
      replace hkp2 : RepSl Φ3 m.Kids kp2 := hkp2
      replace hlΦ3 : Hp.le Φ2 Φ3 := hlΦ3
      replace hG := hG.mono hlΦ3
      replace hkp1 := hkp1.mono hlΦ3
      replace htv1 := htv1.mono hlΦ3
      refine RW.q (v := .tuple #[.agg #[.int .i64 m.Kind, .string (bs m.Text), .int .i64 m.N, .int .i64 m.Dim, .int .i64 m.At, kp2], .int .i64 0, .int .i64 0]) rfl (q_move rfl) ?_
      refine RW.q (v := .agg #[.int .i64 m.Kind, .string (bs m.Text), .int .i64 m.N, .int .i64 m.Dim, .int .i64 m.At, kp2]) rfl (q_extract rfl rfl) ?_
      refine RW.q (v := .int .i64 0) rfl (q_extract rfl rfl) ?_
      refine RW.q (v := .int .i64 0) rfl (q_extract rfl rfl) ?_
      refine RW.eff (fun b2 : Nat => .pointer (some (⟨b2, 0, none⟩))) (fun b2 => St ⟨w, Φ, []⟩ Φ3 [.blk b2 26 [.int .i64 0, .string (bs ([])), .int .i64 0, .int .i64 0, .int .i64 0, (.slice none 0 0)], .blk b1 26 [.int .i64 ((Pa.parse src).1.Kind), .string (bs ((Pa.parse src).1.Text)), .int .i64 ((Pa.parse src).1.N), .int .i64 ((Pa.parse src).1.Dim), .int .i64 ((Pa.parse src).1.At), kp1]]) rfl (e_alloc zero26) ?_
      intro b2
      refine RW.effn (J' := St ⟨w, Φ, []⟩ Φ3 [.blk b2 26 [.int .i64 m.Kind, .string (bs m.Text), .int .i64 m.N, .int .i64 m.Dim, .int .i64 m.At, kp2], .blk b1 26 [.int .i64 ((Pa.parse src).1.Kind), .string (bs ((Pa.parse src).1.Text)), .int .i64 ((Pa.parse src).1.N), .int .i64 ((Pa.parse src).1.Dim), .int .i64 ((Pa.parse src).1.At), kp1]]) (e_store (v := .agg #[.int .i64 m.Kind, .string (bs m.Text), .int .i64 m.N, .int .i64 m.Dim, .int .i64 m.At, kp2]) 0 rfl rfl rfl sz26 rfl (List.all_eq_true.2 (fun u hu => Rep.one (NdV.rep hwp2 hkp2) u hu)) rfl rfl rfl) ?_
      refine RW.q (v := .int .i64 0) rfl (q_assign rfl) ?_
      refine RW.q (v := .int .i64 0) rfl (q_assign rfl) ?_
      refine RW.nil ?_
      refine Post.then_n ?_
      refine AW.seq ?_
      refine AW.region ?_
      refine RW.q (v := .agg #[.int .i64 ((Pa.parse src).1.Kind), .string (bs ((Pa.parse src).1.Text)), .int .i64 ((Pa.parse src).1.N), .int .i64 ((Pa.parse src).1.Dim), .int .i64 ((Pa.parse src).1.At), kp1]) rfl (q_loadAgg rfl Tryd.underlying26 rfl sz26 rfl (Cells.blk 1 rfl)) ?_
      refine RW.q (v := .string (bs (Pa.write ((Pa.parse src).1)))) rfl (q_call (args := #[.agg #[.int .i64 ((Pa.parse src).1.Kind), .string (bs ((Pa.parse src).1.Text)), .int .i64 ((Pa.parse src).1.N), .int .i64 ((Pa.parse src).1.Dim), .int .i64 ((Pa.parse src).1.At), kp1]]) own10 rfl rfl (fun w1 hw1 => treeWrite_c w1 (Go.K.hp w1) (Hp.le_refl _) (hG.mono hw1.phi) (hkp1.mono hw1.phi) hwp1 (by omega))) ?_
      refine RW.eff (fun x : {z : (Value) × Hp // (fun (y : Value) (Ψ : Hp) => (wfN o) ∧ (RepSl Ψ o.Kids y)) z.1 z.2 ∧ Hp.le Φ3 z.2} => .tuple #[.agg (ndC o x.1.1).toArray, .int .i64 0, .int .i64 0]) (fun x => St ⟨w, Φ, []⟩ x.1.2 [.blk b2 26 [.int .i64 m.Kind, .string (bs m.Text), .int .i64 m.N, .int .i64 m.Dim, .int .i64 m.At, kp2], .blk b1 26 [.int .i64 ((Pa.parse src).1.Kind), .string (bs ((Pa.parse src).1.Text)), .int .i64 ((Pa.parse src).1.N), .int .i64 ((Pa.parse src).1.Dim), .int .i64 ((Pa.parse src).1.At), kp1]]) rfl (e_callX (fun (y : Value) => .tuple #[.agg (ndC o y).toArray, .int .i64 0, .int .i64 0]) (fun (y : Value) (Ψ : Hp) => (wfN o) ∧ (RepSl Ψ o.Kids y)) (args := #[.string (bs (Pa.write ((Pa.parse src).1)))]) own12 rfl rfl (fun w1 hw1 => ((Parse_c w1 _ hw1.phi hG (l := Pa.write ((Pa.parse src).1)) (by omega)).mono fun _ _ h => (by rw [ho1] at h; exact h)).mono fun e w2 hr => by obtain ⟨v9, he9, hb9, u1, hr9, q1, q2⟩ := hr; exact ⟨v9, he9, hb9, u1, hr9, q1, q2⟩)) ?_
      rintro ⟨⟨kp3, Φ4⟩, ⟨hwp3, hkp3⟩, hlΦ4⟩
      replace hwp3 : wfN o := hwp3
      replace hkp3 : RepSl Φ4 o.Kids kp3 := hkp3
      replace hlΦ4 : Hp.le Φ3 Φ4 := hlΦ4
      replace hG := hG.mono hlΦ4
      replace hkp1 := hkp1.mono hlΦ4
      replace htv1 := htv1.mono hlΦ4
      replace hkp2 := hkp2.mono hlΦ4
      refine RW.q (v := .tuple #[.agg #[.int .i64 o.Kind, .string (bs o.Text), .int .i64 o.N, .int .i64 o.Dim, .int .i64 o.At, kp3], .int .i64 0, .int .i64 0]) rfl (q_move rfl) ?_
      refine RW.q (v := .agg #[.int .i64 o.Kind, .string (bs o.Text), .int .i64 o.N, .int .i64 o.Dim, .int .i64 o.At, kp3]) rfl (q_extract rfl rfl) ?_
      refine RW.q (v := .int .i64 0) rfl (q_extract rfl rfl) ?_
      refine RW.q (v := .int .i64 0) rfl (q_extract rfl rfl) ?_
      refine RW.eff (fun b3 : Nat => .pointer (some (⟨b3, 0, none⟩))) (fun b3 => St ⟨w, Φ, []⟩ Φ4 [.blk b3 26 [.int .i64 0, .string (bs ([])), .int .i64 0, .int .i64 0, .int .i64 0, (.slice none 0 0)], .blk b2 26 [.int .i64 m.Kind, .string (bs m.Text), .int .i64 m.N, .int .i64 m.Dim, .int .i64 m.At, kp2], .blk b1 26 [.int .i64 ((Pa.parse src).1.Kind), .string (bs ((Pa.parse src).1.Text)), .int .i64 ((Pa.parse src).1.N), .int .i64 ((Pa.parse src).1.Dim), .int .i64 ((Pa.parse src).1.At), kp1]]) rfl (e_alloc zero26) ?_
      intro b3
      refine RW.effn (J' := St ⟨w, Φ, []⟩ Φ4 [.blk b3 26 [.int .i64 o.Kind, .string (bs o.Text), .int .i64 o.N, .int .i64 o.Dim, .int .i64 o.At, kp3], .blk b2 26 [.int .i64 m.Kind, .string (bs m.Text), .int .i64 m.N, .int .i64 m.Dim, .int .i64 m.At, kp2], .blk b1 26 [.int .i64 ((Pa.parse src).1.Kind), .string (bs ((Pa.parse src).1.Text)), .int .i64 ((Pa.parse src).1.N), .int .i64 ((Pa.parse src).1.Dim), .int .i64 ((Pa.parse src).1.At), kp1]]) (e_store (v := .agg #[.int .i64 o.Kind, .string (bs o.Text), .int .i64 o.N, .int .i64 o.Dim, .int .i64 o.At, kp3]) 0 rfl rfl rfl sz26 rfl (List.all_eq_true.2 (fun u hu => Rep.one (NdV.rep hwp3 hkp3) u hu)) rfl rfl rfl) ?_
      refine RW.q (v := .int .i64 0) rfl (q_assign rfl) ?_
      refine RW.q (v := .int .i64 0) rfl (q_assign rfl) ?_
      refine RW.nil ?_
      refine Post.then_n ?_
      refine AW.seq ?_
      refine AW.region ?_
      refine RW.q (v := .bool true) rfl (q_move rfl) ?_
      refine RW.q (v := .bool true) rfl (q_move rfl) ?_
      refine RW.gl (v := .agg #[.int .i64 ((Pa.parse src).1.Kind), .string (bs ((Pa.parse src).1.Text)), .int .i64 ((Pa.parse src).1.N), .int .i64 ((Pa.parse src).1.Dim), .int .i64 ((Pa.parse src).1.At), kp1]) rfl rfl rfl (q_loadAgg rfl Tryd.underlying26 rfl sz26 rfl (Cells.blk 2 rfl)) ?_
      refine RW.gl (v := .bool true) rfl rfl rfl (q_as (v := .bool (Pa.right ((Pa.parse src).1))) (q_call (args := #[.agg #[.int .i64 ((Pa.parse src).1.Kind), .string (bs ((Pa.parse src).1.Text)), .int .i64 ((Pa.parse src).1.N), .int .i64 ((Pa.parse src).1.Dim), .int .i64 ((Pa.parse src).1.At), kp1]]) own11 rfl rfl (fun w1 hw1 => Right_c w1 (Go.K.hp w1) (Hp.le_refl _) (hG.mono hw1.phi) (hkp1.mono hw1.phi) hwp1)) (congrArg Value.bool (hr1))) ?_
      refine RW.q (v := .bool true) rfl (q_pick (t := true) rfl (fun _ => rfl) (fun hp => nomatch hp)) ?_
      refine RW.q (v := .bool true) rfl (q_move rfl) ?_
      refine RW.gl (v := .int .i64 0) rfl rfl rfl (q_move rfl) ?_
      refine RW.gl (v := .bool true) rfl rfl rfl (q_eql (a := 0) (b := 0) rfl rfl) ?_
      refine RW.q (v := .bool true) rfl (q_pick (t := true) rfl (fun _ => rfl) (fun hp => nomatch hp)) ?_
      refine RW.q (v := .bool true) rfl (q_move rfl) ?_
      refine RW.gl (v := .agg #[.int .i64 ((Pa.parse src).1.Kind), .string (bs ((Pa.parse src).1.Text)), .int .i64 ((Pa.parse src).1.N), .int .i64 ((Pa.parse src).1.Dim), .int .i64 ((Pa.parse src).1.At), kp1]) rfl rfl rfl (q_loadAgg rfl Tryd.underlying26 rfl sz26 rfl (Cells.blk 2 rfl)) ?_
      refine RW.gl (v := .agg #[.int .i64 m.Kind, .string (bs m.Text), .int .i64 m.N, .int .i64 m.Dim, .int .i64 m.At, kp2]) rfl rfl rfl (q_loadAgg rfl Tryd.underlying26 rfl sz26 rfl (Cells.blk 1 rfl)) ?_
      refine RW.gl (v := .bool true) rfl rfl rfl (q_as (v := .bool (Pa.sameB ((Pa.parse src).1) m)) (q_call (args := #[.agg #[.int .i64 ((Pa.parse src).1.Kind), .string (bs ((Pa.parse src).1.Text)), .int .i64 ((Pa.parse src).1.N), .int .i64 ((Pa.parse src).1.Dim), .int .i64 ((Pa.parse src).1.At), kp1], .agg #[.int .i64 m.Kind, .string (bs m.Text), .int .i64 m.N, .int .i64 m.Dim, .int .i64 m.At, kp2]]) own13 rfl rfl (fun w1 hw1 => same_c ((Pa.parse src).1) w1 (Go.K.hp w1) (Hp.le_refl _) (hkp1.mono hw1.phi) hwp1 (hkp2.mono hw1.phi) hwp2)) (congrArg Value.bool (Pa.sameB_of _ _ hm2.symm))) ?_
      refine RW.q (v := .bool true) rfl (q_pick (t := true) rfl (fun _ => rfl) (fun hp => nomatch hp)) ?_
      refine RW.q (v := .bool true) rfl (q_move rfl) ?_
      refine RW.gl (v := .int .i64 0) rfl rfl rfl (q_move rfl) ?_
      refine RW.gl (v := .bool true) rfl rfl rfl (q_eql (a := 0) (b := 0) rfl rfl) ?_
      refine RW.q (v := .bool true) rfl (q_pick (t := true) rfl (fun _ => rfl) (fun hp => nomatch hp)) ?_
      refine RW.q (v := .bool true) rfl (q_move rfl) ?_
      refine RW.gl (v := .agg #[.int .i64 ((Pa.parse src).1.Kind), .string (bs ((Pa.parse src).1.Text)), .int .i64 ((Pa.parse src).1.N), .int .i64 ((Pa.parse src).1.Dim), .int .i64 ((Pa.parse src).1.At), kp1]) rfl rfl rfl (q_loadAgg rfl Tryd.underlying26 rfl sz26 rfl (Cells.blk 2 rfl)) ?_
      refine RW.gl (v := .agg #[.int .i64 o.Kind, .string (bs o.Text), .int .i64 o.N, .int .i64 o.Dim, .int .i64 o.At, kp3]) rfl rfl rfl (q_loadAgg rfl Tryd.underlying26 rfl sz26 rfl (Cells.blk 0 rfl)) ?_
      refine RW.gl (v := .bool true) rfl rfl rfl (q_as (v := .bool (Pa.sameB ((Pa.parse src).1) o)) (q_call (args := #[.agg #[.int .i64 ((Pa.parse src).1.Kind), .string (bs ((Pa.parse src).1.Text)), .int .i64 ((Pa.parse src).1.N), .int .i64 ((Pa.parse src).1.Dim), .int .i64 ((Pa.parse src).1.At), kp1], .agg #[.int .i64 o.Kind, .string (bs o.Text), .int .i64 o.N, .int .i64 o.Dim, .int .i64 o.At, kp3]]) own13 rfl rfl (fun w1 hw1 => same_c ((Pa.parse src).1) w1 (Go.K.hp w1) (Hp.le_refl _) (hkp1.mono hw1.phi) hwp1 (hkp3.mono hw1.phi) hwp3)) (congrArg Value.bool (Pa.sameB_of _ _ ho2.symm))) ?_
      refine RW.q (v := .bool true) rfl (q_pick (t := true) rfl (fun _ => rfl) (fun hp => nomatch hp)) ?_
      refine RW.q (v := .bool true) rfl (q_assign rfl) ?_
      refine RW.nil ?_
      refine Post.then_n ?_
      refine AW.ret ?_
      exact fin_val (v' := .bool true) rfl rfl rfl (rfl)

end Go.Proofs.YtjcahklnkakklaaDoor
