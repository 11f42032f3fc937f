/- Walks (part LwD), printed by walk2.py. Conditions: those of each theorem. -/
import Derived.Test.YtjcahklnkakklaaDoorQLwA
import Derived.Test.YtjcahklnkakklaaDoorQPlI
namespace Go.Proofs.YtjcahklnkakklaaDoor
open Go Go.K Go.RowKit

set_option maxRecDepth 8000 in
set_option maxHeartbeats 1000000 in
theorem TreeAts_c (w : World) (Φ : Hp) (hΦ : Hp.le Φ (hp w)) (hG : Knows Φ Glob) {src : List UInt8} (hsl : src.length ≤ maxLen) :
    Calls Tryd.prog 6 #[.string (bs src)] w fun e w' => e = .returned (.bool true) ∧ Bel w.heap.size w w' := by
  refine calls_of_AW (args := [.string (bs src)]) Tryd.func6 rfl (Nat.le_of_ble_eq_true rfl) (St ⟨w, Φ, []⟩ Φ []) (StP.init w Φ hΦ []) ?_
  show AW Tryd.prog 39 [] _ _ _ [(0, .string (bs src))] _
  refine AW.seq ?_
  refine AW.region ?_
  refine RW.q (v := .bool false) rfl (q_assign rfl) ?_
  refine RW.nil ?_
  refine Post.then_n ?_
  refine AW.seq ?_
  refine AW.region ?_
  refine RW.q (v := .bool true) rfl (q_call (args := #[]) own8 rfl rfl (fun w1 hw1 => small_c w1 (Go.K.hp w1) (Hp.le_refl _) (hG.mono hw1.phi))) ?_
  refine RW.q (v := .bool true) rfl (q_assign rfl) ?_
  refine RW.nil ?_
  refine Post.then_n ?_
  refine AW.seq ?_
  refine AW.region ?_
  refine RW.q (v := .string (bs src)) rfl (q_move rfl) ?_
  refine RW.eff (fun x : {z : (Value) × Hp // (fun (y : Value) (Ψ : Hp) => (wfN (Pa.parse src).1) ∧ (RepSl Ψ (Pa.parse src).1.Kids y)) z.1 z.2 ∧ Hp.le Φ z.2} => .tuple #[.agg (ndC (Pa.parse src).1 x.1.1).toArray, .int .i64 ((Pa.parse src).2.1), .int .i64 ((Pa.parse src).2.2)]) (fun x => St ⟨w, Φ, []⟩ x.1.2 []) rfl (e_callX (fun (y : Value) => .tuple #[.agg (ndC (Pa.parse src).1 y).toArray, .int .i64 ((Pa.parse src).2.1), .int .i64 ((Pa.parse src).2.2)]) (fun (y : Value) (Ψ : Hp) => (wfN (Pa.parse src).1) ∧ (RepSl Ψ (Pa.parse src).1.Kids y)) (args := #[.string (bs src)]) own12 rfl rfl (fun w1 hw1 => (Parse_c w1 _ hw1.phi hG (l := src) hsl).mono fun e w2 hr => by obtain ⟨v9, he9, hb9, u1, hr9, q1, q2⟩ := hr; exact ⟨v9, he9, hb9, u1, hr9, q1, q2⟩)) ?_
  rintro ⟨⟨kp1, Φ1⟩, ⟨hwp1, hkp1⟩, hlΦ1⟩
  replace hwp1 : wfN (Pa.parse src).1 := hwp1
  replace hkp1 : RepSl Φ1 (Pa.parse src).1.Kids kp1 := hkp1
  replace hlΦ1 : Hp.le Φ Φ1 := hlΦ1
  replace hG := hG.mono hlΦ1
  refine RW.q (v := .tuple #[.agg #[.int .i64 ((Pa.parse src).1.Kind), .string (bs ((Pa.parse src).1.Text)), .int .i64 ((Pa.parse src).1.N), .int .i64 ((Pa.parse src).1.Dim), .int .i64 ((Pa.parse src).1.At), kp1], .int .i64 ((Pa.parse src).2.1), .int .i64 ((Pa.parse src).2.2)]) rfl (q_move rfl) ?_
  refine RW.q (v := .agg #[.int .i64 ((Pa.parse src).1.Kind), .string (bs ((Pa.parse src).1.Text)), .int .i64 ((Pa.parse src).1.N), .int .i64 ((Pa.parse src).1.Dim), .int .i64 ((Pa.parse src).1.At), kp1]) rfl (q_extract rfl rfl) ?_
  refine RW.q (v := .int .i64 ((Pa.parse src).2.1)) rfl (q_extract rfl rfl) ?_
  refine RW.q (v := .int .i64 ((Pa.parse src).2.2)) rfl (q_extract rfl rfl) ?_
  refine RW.eff (fun b1 : Nat => .pointer (some (⟨b1, 0, none⟩))) (fun b1 => St ⟨w, Φ, []⟩ Φ1 [.blk b1 26 [.int .i64 0, .string (bs ([])), .int .i64 0, .int .i64 0, .int .i64 0, (.slice none 0 0)]]) rfl (e_alloc zero26) ?_
  intro b1
  refine RW.effn (J' := St ⟨w, Φ, []⟩ Φ1 [.blk b1 26 [.int .i64 ((Pa.parse src).1.Kind), .string (bs ((Pa.parse src).1.Text)), .int .i64 ((Pa.parse src).1.N), .int .i64 ((Pa.parse src).1.Dim), .int .i64 ((Pa.parse src).1.At), kp1]]) (e_store (v := .agg #[.int .i64 ((Pa.parse src).1.Kind), .string (bs ((Pa.parse src).1.Text)), .int .i64 ((Pa.parse src).1.N), .int .i64 ((Pa.parse src).1.Dim), .int .i64 ((Pa.parse src).1.At), kp1]) 0 rfl rfl rfl sz26 rfl (List.all_eq_true.2 (fun u hu => Rep.one (NdV.rep hwp1 hkp1) u hu)) rfl rfl rfl) ?_
  refine RW.q (v := .int .i64 ((Pa.parse src).2.1)) rfl (q_assign rfl) ?_
  refine RW.q (v := .int .i64 ((Pa.parse src).2.2)) rfl (q_assign rfl) ?_
  refine RW.nil ?_
  refine Post.then_n ?_
  refine AW.seq ?_
  refine AW.seq ?_
  refine AW.region ?_
  refine RW.q (v := .string (bs src)) rfl (q_move rfl) ?_
  refine RW.q (v := .int .i64 ((src.length : Nat) : Int)) rfl (q_lenS (l := src) rfl Tryd.underlying9) ?_
  refine RW.q (v := .bool (decide ((2000 : Int) < ((src.length : Nat) : Int)))) rfl (q_gtr rfl rfl) ?_
  refine RW.q (v := .bool (decide ((2000 : Int) < ((src.length : Nat) : Int)))) rfl (q_move rfl) ?_
  refine RW.g (b := (decide ((2000 : Int) < ((src.length : Nat) : Int)))) (v := .int .i64 ((Pa.parse src).2.1)) rfl rfl rfl (fun h => q_move rfl) ?_
  refine RW.g (b := (decide ((2000 : Int) < ((src.length : Nat) : Int)))) (v := .bool (!decide ((Pa.parse src).2.1 = 0))) rfl rfl rfl (fun h => q_neq (gv_pos h) rfl) ?_
  obtain ⟨qb1, hqb1⟩ : ∃ qz : Bool, ((decide ((2000 : Int) < ((src.length : Nat) : Int))) || (!decide ((Pa.parse src).2.1 = 0))) = qz := ⟨_, rfl⟩
  refine RW.q (v := .bool qb1) rfl (q_as (v := .bool ((decide ((2000 : Int) < ((src.length : Nat) : Int))) || (!decide ((Pa.parse src).2.1 = 0)))) (q_pick rfl (fun hp => pkOrT hp) (fun hp => (gv_pos hp).trans (pkOrF hp))) (congrArg Value.bool hqb1)) ?_
  subst hqb1
  refine RW.nil ?_
  refine Post.then_n ?_
  refine AW.cond (b := ((decide ((2000 : Int) < ((src.length : Nat) : Int))) || (!decide ((Pa.parse src).2.1 = 0)))) rfl (fun hc1 => ?_) (fun hc1 => ?_)
  · simp [-List.getD_eq_getElem?_getD] at hc1
    refine AW.seq ?_
    refine AW.region ?_
    refine RW.q (v := .bool true) rfl (q_move rfl) ?_
    refine RW.q (v := .bool true) rfl (q_assign rfl) ?_
    refine RW.nil ?_
    refine Post.then_n ?_
    refine AW.ret ?_
    refine Post.then_r ?_
    exact fin_val (v' := .bool true) rfl rfl rfl (rfl)
  · simp [-List.getD_eq_getElem?_getD] at hc1
    refine AW.skip ?_
    refine Post.then_n ?_
    refine AW.seq ?_
    obtain ⟨hat1, hat2⟩ := Pa.ats (s := src) (by omega)
    refine AW.region ?_
    refine RW.q (v := .string (bs src)) rfl (q_move rfl) ?_
    refine RW.q (v := .agg #[.int .i64 ((Pa.parse src).1.Kind), .string (bs ((Pa.parse src).1.Text)), .int .i64 ((Pa.parse src).1.N), .int .i64 ((Pa.parse src).1.Dim), .int .i64 ((Pa.parse src).1.At), kp1]) rfl (q_loadAgg rfl Tryd.underlying26 rfl sz26 rfl (Cells.blk 0 rfl)) ?_
    refine RW.q (v := .tuple #[.int .i64 (Pa.plEnd 0 ((Pa.parse src).1).Kids), .bool true]) rfl (q_call (args := #[.string (bs src), .agg #[.int .i64 ((Pa.parse src).1.Kind), .string (bs ((Pa.parse src).1.Text)), .int .i64 ((Pa.parse src).1.N), .int .i64 ((Pa.parse src).1.Dim), .int .i64 ((Pa.parse src).1.At), kp1], .int .i64 0]) own16 rfl rfl (fun w1 hw1 => placed_c ((Pa.parse src).1) w1 (Go.K.hp w1) (Hp.le_refl _) (hkp1.mono hw1.phi) hwp1 (by omega) (by decide) (by omega) hat2)) ?_
    refine RW.q (v := .tuple #[.int .i64 (Pa.plEnd 0 ((Pa.parse src).1).Kids), .bool true]) rfl (q_move rfl) ?_
    refine RW.q (v := .int .i64 (Pa.plEnd 0 ((Pa.parse src).1).Kids)) rfl (q_extract rfl rfl) ?_
    refine RW.q (v := .bool true) rfl (q_extract rfl rfl) ?_
    refine RW.q (v := .int .i64 (Pa.plEnd 0 ((Pa.parse src).1).Kids)) rfl (q_assign rfl) ?_
    refine RW.q (v := .bool true) rfl (q_assign rfl) ?_
    refine RW.nil ?_
    refine Post.then_n ?_
    refine AW.seq ?_
    refine AW.region ?_
    refine RW.q (v := .bool true) rfl (q_move rfl) ?_
    refine RW.q (v := .bool true) rfl (q_move rfl) ?_
    refine RW.gl (v := .pointer (some (⟨b1, 4, none⟩))) rfl rfl rfl (q_fieldAddr rfl Tryd.underlying26 rfl sz3 rfl) ?_
    refine RW.gl (v := .int .i64 ((Pa.parse src).1.At)) rfl rfl rfl (q_load rfl Tryd.underlying3 rfl (Cell.blk 0 rfl rfl)) ?_
    refine RW.gl (v := .bool true) rfl rfl rfl (q_as (v := .bool (decide ((Pa.parse src).1.At = 0))) (q_eql rfl rfl) (congrArg Value.bool (decide_eq_true hat1))) ?_
    refine RW.q (v := .bool true) rfl (q_pick (t := true) rfl (fun _ => rfl) (fun hp => nomatch hp)) ?_
    refine RW.q (v := .bool true) rfl (q_move rfl) ?_
    refine RW.gl (v := .bool true) rfl rfl rfl (q_move rfl) ?_
    refine RW.q (v := .bool true) rfl (q_pick (t := true) rfl (fun _ => rfl) (fun hp => nomatch hp)) ?_
    refine RW.q (v := .bool true) rfl (q_assign rfl) ?_
    refine RW.nil ?_
    refine Post.then_n ?_
    refine AW.ret ?_
    exact fin_val (v' := .bool true) rfl rfl rfl (rfl)

end Go.Proofs.YtjcahklnkakklaaDoor
