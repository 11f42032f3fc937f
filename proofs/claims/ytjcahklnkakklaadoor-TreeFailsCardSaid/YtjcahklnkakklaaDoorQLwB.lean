/- Walks (part LwB), printed by walk2.py. Conditions: those of each theorem. -/
import Derived.Test.YtjcahklnkakklaaDoorQLwA
import Derived.Test.YtjcahklnkakklaaDoorQPlH
namespace Go.Proofs.YtjcahklnkakklaaDoor
open Go Go.K Go.RowKit

set_option maxRecDepth 8000 in
set_option maxHeartbeats 1000000 in
theorem TreeFails_c (w : World) (Φ : Hp) (hΦ : Hp.le Φ (hp w)) (hG : Knows Φ Glob) {src : List UInt8} (hsl : src.length ≤ maxLen) :
    Calls Tryd.prog 4 #[.string (bs src)] w fun e w' => e = .returned (.bool true) ∧ Bel w.heap.size w w' := by
  refine calls_of_AW (args := [.string (bs src)]) Tryd.func4 rfl (Nat.le_of_ble_eq_true rfl) (St ⟨w, Φ, []⟩ Φ []) (StP.init w Φ hΦ []) ?_
  show AW Tryd.prog 131 [] _ _ _ [(0, .string (bs src))] _
  refine AW.seq ?_
  refine AW.region ?_
  refine RW.q (v := .bool false) rfl (q_assign rfl) ?_
  refine RW.nil ?_
  refine Post.then_n ?_
  refine AW.seq ?_
  refine AW.region ?_
  refine RW.q (v := .bool true) rfl (q_call (args := #[]) own8 rfl rfl (fun w1 hw1 => small_c w1 (Go.K.hp w1) (Hp.le_refl _) (hG.mono hw1.phi))) ?_
  refine RW.q (v := .bool true) rfl (q_assign rfl) ?_
  refine RW.nil ?_
  refine Post.then_n ?_
  refine AW.seq ?_
  refine AW.region ?_
  refine RW.q (v := .string (bs src)) rfl (q_move rfl) ?_
  refine RW.eff (fun x : {z : (Value) × Hp // (fun (y : Value) (Ψ : Hp) => (wfN (Pa.parse src).1) ∧ (RepSl Ψ (Pa.parse src).1.Kids y)) z.1 z.2 ∧ Hp.le Φ z.2} => .tuple #[.agg (ndC (Pa.parse src).1 x.1.1).toArray, .int .i64 ((Pa.parse src).2.1), .int .i64 ((Pa.parse src).2.2)]) (fun x => St ⟨w, Φ, []⟩ x.1.2 []) rfl (e_callX (fun (y : Value) => .tuple #[.agg (ndC (Pa.parse src).1 y).toArray, .int .i64 ((Pa.parse src).2.1), .int .i64 ((Pa.parse src).2.2)]) (fun (y : Value) (Ψ : Hp) => (wfN (Pa.parse src).1) ∧ (RepSl Ψ (Pa.parse src).1.Kids y)) (args := #[.string (bs src)]) own12 rfl rfl (fun w1 hw1 => (Parse_c w1 _ hw1.phi hG (l := src) hsl).mono fun e w2 hr => by obtain ⟨v9, he9, hb9, u1, hr9, q1, q2⟩ := hr; exact ⟨v9, he9, hb9, u1, hr9, q1, q2⟩)) ?_
  rintro ⟨⟨kp1, Φ1⟩, ⟨hwp1, hkp1⟩, hlΦ1⟩
  replace hwp1 : wfN (Pa.parse src).1 := hwp1
  replace hkp1 : RepSl Φ1 (Pa.parse src).1.Kids kp1 := hkp1
  replace hlΦ1 : Hp.le Φ Φ1 := hlΦ1
  replace hG := hG.mono hlΦ1
  refine RW.q (v := .tuple #[.agg #[.int .i64 ((Pa.parse src).1.Kind), .string (bs ((Pa.parse src).1.Text)), .int .i64 ((Pa.parse src).1.N), .int .i64 ((Pa.parse src).1.Dim), .int .i64 ((Pa.parse src).1.At), kp1], .int .i64 ((Pa.parse src).2.1), .int .i64 ((Pa.parse src).2.2)]) rfl (q_move rfl) ?_
  refine RW.q (v := .agg #[.int .i64 ((Pa.parse src).1.Kind), .string (bs ((Pa.parse src).1.Text)), .int .i64 ((Pa.parse src).1.N), .int .i64 ((Pa.parse src).1.Dim), .int .i64 ((Pa.parse src).1.At), kp1]) rfl (q_extract rfl rfl) ?_
  refine RW.q (v := .int .i64 ((Pa.parse src).2.1)) rfl (q_extract rfl rfl) ?_
  refine RW.q (v := .int .i64 ((Pa.parse src).2.2)) rfl (q_extract rfl rfl) ?_
  refine RW.eff (fun b1 : Nat => .pointer (some (⟨b1, 0, none⟩))) (fun b1 => St ⟨w, Φ, []⟩ Φ1 [.blk b1 26 [.int .i64 0, .string (bs ([])), .int .i64 0, .int .i64 0, .int .i64 0, (.slice none 0 0)]]) rfl (e_alloc zero26) ?_
  intro b1
  refine RW.effn (J' := St ⟨w, Φ, []⟩ Φ1 [.blk b1 26 [.int .i64 ((Pa.parse src).1.Kind), .string (bs ((Pa.parse src).1.Text)), .int .i64 ((Pa.parse src).1.N), .int .i64 ((Pa.parse src).1.Dim), .int .i64 ((Pa.parse src).1.At), kp1]]) (e_store (v := .agg #[.int .i64 ((Pa.parse src).1.Kind), .string (bs ((Pa.parse src).1.Text)), .int .i64 ((Pa.parse src).1.N), .int .i64 ((Pa.parse src).1.Dim), .int .i64 ((Pa.parse src).1.At), kp1]) 0 rfl rfl rfl sz26 rfl (List.all_eq_true.2 (fun u hu => Rep.one (NdV.rep hwp1 hkp1) u hu)) rfl rfl rfl) ?_
  refine RW.q (v := .int .i64 ((Pa.parse src).2.1)) rfl (q_assign rfl) ?_
  refine RW.q (v := .int .i64 ((Pa.parse src).2.2)) rfl (q_assign rfl) ?_
  refine RW.nil ?_
  refine Post.then_n ?_
  refine AW.seq ?_
  refine AW.region ?_
  refine RW.q (v := .string (bs src)) rfl (q_move rfl) ?_
  refine RW.eff (fun x : {z : (Value) × Hp // (fun (y : Value) (Ψ : Hp) => (RepSl Ψ ((Lx.scan src).1) y)) z.1 z.2 ∧ Hp.le Φ1 z.2} => .tuple #[x.1.1, .int .i64 ((Lx.scan src).2.1), .int .i64 ((Lx.scan src).2.2)]) (fun x => St ⟨w, Φ, []⟩ x.1.2 [.blk b1 26 [.int .i64 ((Pa.parse src).1.Kind), .string (bs ((Pa.parse src).1.Text)), .int .i64 ((Pa.parse src).1.N), .int .i64 ((Pa.parse src).1.Dim), .int .i64 ((Pa.parse src).1.At), kp1]]) rfl (e_callX (fun (y : Value) => .tuple #[y, .int .i64 ((Lx.scan src).2.1), .int .i64 ((Lx.scan src).2.2)]) (fun (y : Value) (Ψ : Hp) => (RepSl Ψ ((Lx.scan src).1) y)) (args := #[.string (bs src)]) own14 rfl rfl (fun w1 hw1 => (Scan_c w1 _ hw1.phi (l := src) hsl).mono fun e w2 hr => by obtain ⟨v9, he9, hb9, u1, hr9, q1⟩ := hr; exact ⟨v9, he9, hb9, u1, hr9, q1⟩)) ?_
  rintro ⟨⟨tv1, Φ2⟩, htv1, hlΦ2⟩
  replace htv1 : RepSl Φ2 ((Lx.scan src).1) tv1 := htv1
  replace hlΦ2 : Hp.le Φ1 Φ2 := hlΦ2
  replace hG := hG.mono hlΦ2
  replace hkp1 := hkp1.mono hlΦ2
  refine RW.q (v := .tuple #[tv1, .int .i64 ((Lx.scan src).2.1), .int .i64 ((Lx.scan src).2.2)]) rfl (q_move rfl) ?_
  refine RW.q (v := tv1) rfl (q_extract rfl rfl) ?_
  refine RW.q (v := .int .i64 ((Lx.scan src).2.1)) rfl (q_extract rfl rfl) ?_
  refine RW.q (v := .int .i64 ((Lx.scan src).2.2)) rfl (q_extract rfl rfl) ?_
  refine RW.q (v := tv1) rfl (q_assign rfl) ?_
  refine RW.q (v := .int .i64 ((Lx.scan src).2.1)) rfl (q_assign rfl) ?_
  refine RW.q (v := .int .i64 ((Lx.scan src).2.2)) rfl (q_assign rfl) ?_
  refine RW.nil ?_
  refine Post.then_n ?_
  refine AW.seq ?_
  refine AW.seq ?_
  refine AW.region ?_
  refine RW.q (v := .string (bs src)) rfl (q_move rfl) ?_
  refine RW.q (v := .int .i64 ((src.length : Nat) : Int)) rfl (q_lenS (l := src) rfl Tryd.underlying9) ?_
  refine RW.q (v := .bool (decide ((2000 : Int) < ((src.length : Nat) : Int)))) rfl (q_gtr rfl rfl) ?_
  refine RW.q (v := .bool (decide ((2000 : Int) < ((src.length : Nat) : Int)))) rfl (q_move rfl) ?_
  refine RW.g (b := (decide ((2000 : Int) < ((src.length : Nat) : Int)))) (v := .int .i64 ((Pa.parse src).2.1)) rfl rfl rfl (fun h => q_move rfl) ?_
  refine RW.g (b := (decide ((2000 : Int) < ((src.length : Nat) : Int)))) (v := .bool (decide ((Pa.parse src).2.1 = 0))) rfl rfl rfl (fun h => q_eql (gv_pos h) rfl) ?_
  obtain ⟨qb1, hqb1⟩ : ∃ qz : Bool, ((decide ((2000 : Int) < ((src.length : Nat) : Int))) || (decide ((Pa.parse src).2.1 = 0))) = qz := ⟨_, rfl⟩
  refine RW.q (v := .bool qb1) rfl (q_as (v := .bool ((decide ((2000 : Int) < ((src.length : Nat) : Int))) || (decide ((Pa.parse src).2.1 = 0)))) (q_pick rfl (fun hp => pkOrT hp) (fun hp => (gv_pos hp).trans (pkOrF hp))) (congrArg Value.bool hqb1)) ?_
  subst hqb1
  refine RW.nil ?_
  refine Post.then_n ?_
  refine AW.cond (b := ((decide ((2000 : Int) < ((src.length : Nat) : Int))) || (decide ((Pa.parse src).2.1 = 0)))) rfl (fun hc1 => ?_) (fun hc1 => ?_)
  · simp [-List.getD_eq_getElem?_getD] at hc1
    refine AW.seq ?_
    refine AW.region ?_
    refine RW.q (v := .bool true) rfl (q_move rfl) ?_
    refine RW.q (v := .bool true) rfl (q_move rfl) ?_
    refine RW.gl (v := .string (bs src)) rfl rfl rfl (q_move rfl) ?_
    refine RW.gl (v := .int .i64 ((src.length : Nat) : Int)) rfl rfl rfl (q_lenS (l := src) rfl Tryd.underlying9) ?_
    refine RW.gl (v := .bool (decide ((2000 : Int) < ((src.length : Nat) : Int)))) rfl rfl rfl (q_gtr rfl rfl) ?_
    refine RW.gl (v := .bool (decide ((2000 : Int) < ((src.length : Nat) : Int)))) rfl rfl rfl (q_move rfl) ?_
    refine RW.g (b := (decide ((2000 : Int) < ((src.length : Nat) : Int)))) (v := .int .i64 ((Lx.scan src).2.1)) rfl rfl rfl (fun h => q_move rfl) ?_
    refine RW.g (b := (decide ((2000 : Int) < ((src.length : Nat) : Int)))) (v := .bool (decide ((Lx.scan src).2.1 = 0))) rfl rfl rfl (fun h => q_eql (gv_pos h) rfl) ?_
    refine RW.g (b := (decide ((2000 : Int) < ((src.length : Nat) : Int)))) (v := .bool (decide ((Lx.scan src).2.1 = 0))) rfl rfl rfl (fun h => q_move (gv_pos h)) ?_
    refine RW.g2 (b1 := (decide ((2000 : Int) < ((src.length : Nat) : Int)))) (b2 := (decide ((Lx.scan src).2.1 = 0))) (v := .int .i64 ((Pa.parse src).2.2)) rfl rfl rfl (fun hg1 hg2 => q_move rfl) ?_
    refine RW.g2 (b1 := (decide ((2000 : Int) < ((src.length : Nat) : Int)))) (b2 := (decide ((Lx.scan src).2.1 = 0))) (v := .bool (decide ((Pa.parse src).2.2 = 0))) rfl rfl rfl (fun hg1 hg2 => q_eql ((gv_pos hg1).trans (gv_pos hg2)) rfl) ?_
    obtain ⟨qb2, hqb2⟩ : ∃ qz : Bool, ((decide ((Lx.scan src).2.1 = 0)) && (decide ((Pa.parse src).2.2 = 0))) = qz := ⟨_, rfl⟩
    refine RW.g (b := (decide ((2000 : Int) < ((src.length : Nat) : Int)))) (v := .bool qb2) rfl rfl rfl (fun h => q_as (v := .bool ((decide ((Lx.scan src).2.1 = 0)) && (decide ((Pa.parse src).2.2 = 0)))) (q_pick (gv_pos h) (fun hp => (gv_pos h).trans ((gv_pos hp).trans (pkAndT hp))) (fun hp => pkAndF hp)) (congrArg Value.bool hqb2)) ?_
    obtain ⟨qb3, hqb3⟩ : ∃ qz : Bool, ((decide ((2000 : Int) < ((src.length : Nat) : Int))) || qb2) = qz := ⟨_, rfl⟩
    refine RW.gl (v := .bool qb3) rfl rfl rfl (q_as (v := .bool ((decide ((2000 : Int) < ((src.length : Nat) : Int))) || qb2)) (q_pick rfl (fun hp => pkOrT hp) (fun hp => (gv_pos hp).trans (pkOrF hp))) (congrArg Value.bool hqb3)) ?_
    refine RW.q (v := .bool qb3) rfl (q_pick (t := true) rfl (fun _ => rfl) (fun hp => nomatch hp)) ?_
    refine RW.q (v := .bool qb3) rfl (q_assign rfl) ?_
    subst hqb3 hqb2
    refine RW.nil ?_
    refine Post.then_n ?_
    refine AW.ret ?_
    refine Post.then_r ?_
    exact fin_val (v' := .bool ((decide ((2000 : Int) < ((src.length : Nat) : Int))) || ((decide ((Lx.scan src).2.1 = 0)) && (decide ((Pa.parse src).2.2 = 0))))) rfl rfl rfl (congrArg Value.bool (by rcases hc1 with h | h; simp [h]; obtain ⟨h1, r, h2, h3⟩ := Pa.parse_ok h; simp [h1, h3]))
  · simp [-List.getD_eq_getElem?_getD] at hc1
    refine AW.skip ?_
    refine Post.then_n ?_
    refine AW.seq ?_
    refine AW.seq ?_
    obtain ⟨hf1, hf2, hf3, hf4⟩ := Pa.fails (s := src) (by omega)
    refine AW.region ?_
    refine RW.q (v := .agg #[.int .i64 ((Pa.parse src).1.Kind), .string (bs ((Pa.parse src).1.Text)), .int .i64 ((Pa.parse src).1.N), .int .i64 ((Pa.parse src).1.Dim), .int .i64 ((Pa.parse src).1.At), kp1]) rfl (q_loadAgg rfl Tryd.underlying26 rfl sz26 rfl (Cells.blk 0 rfl)) ?_
    refine RW.q (v := .agg #[.int .i64 0, .string (bs ([])), .int .i64 0, .int .i64 0, .int .i64 0, (.slice none 0 0)]) rfl (q_build (vals := []) zero26 Tryd.underlying26 places26 rfl rfl) ?_
    refine RW.q (v := .bool true) rfl (q_as (v := .bool (Pa.sameB ((Pa.parse src).1) default)) (q_call (args := #[.agg #[.int .i64 ((Pa.parse src).1.Kind), .string (bs ((Pa.parse src).1.Text)), .int .i64 ((Pa.parse src).1.N), .int .i64 ((Pa.parse src).1.Dim), .int .i64 ((Pa.parse src).1.At), kp1], .agg #[.int .i64 0, .string (bs ([])), .int .i64 0, .int .i64 0, .int .i64 0, (.slice none 0 0)]]) own13 rfl rfl (fun w1 hw1 => same_c ((Pa.parse src).1) w1 (Go.K.hp w1) (Hp.le_refl _) (hkp1.mono hw1.phi) hwp1 (y := default) repSl_nil wfN_default)) (congrArg Value.bool (by rw [hf1]; exact Pa.sameB_of _ _ rfl))) ?_
    refine RW.q (v := .bool false) rfl (q_not (b := true) rfl) ?_
    refine RW.q (v := .bool false) rfl (q_move rfl) ?_
    refine RW.gl (v := .pointer (some (⟨b1, 4, none⟩))) rfl rfl rfl (q_fieldAddr rfl Tryd.underlying26 rfl sz3 rfl) ?_
    refine RW.gl (v := .int .i64 ((Pa.parse src).1.At)) rfl rfl rfl (q_load rfl Tryd.underlying3 rfl (Cell.blk 0 rfl rfl)) ?_
    refine RW.gl (v := .bool false) rfl rfl rfl (q_as (v := .bool (!decide ((Pa.parse src).1.At = 0))) (q_neq rfl rfl) (congrArg Value.bool (by rw [hf1]; rfl))) ?_
    refine RW.q (v := .bool false) rfl (q_pick rfl (fun hp => pkOrT (q := false) (r := false) hp) (fun hp => pkOrF (q := false) (r := false) hp)) ?_
    refine RW.q (v := .bool false) rfl (q_move rfl) ?_
    refine RW.gl (v := .int .i64 ((Pa.parse src).2.1)) rfl rfl rfl (q_move rfl) ?_
    refine RW.gl (v := .bool (!decide ((Pa.parse src).2.1 = 2))) rfl rfl rfl (q_neq rfl rfl) ?_
    refine RW.gl (v := .bool (!decide ((Pa.parse src).2.1 = 2))) rfl rfl rfl (q_move rfl) ?_
    refine RW.g (b := (!decide ((Pa.parse src).2.1 = 2))) (v := .int .i64 ((Pa.parse src).2.1)) rfl rfl rfl (fun h => q_move rfl) ?_
    refine RW.g (b := (!decide ((Pa.parse src).2.1 = 2))) (v := .bool (!decide ((Pa.parse src).2.1 = 7))) rfl rfl rfl (fun h => q_neq (gv_pos h) rfl) ?_
    obtain ⟨qb4, hqb4⟩ : ∃ qz : Bool, ((!decide ((Pa.parse src).2.1 = 2)) && (!decide ((Pa.parse src).2.1 = 7))) = qz := ⟨_, rfl⟩
    refine RW.gl (v := .bool qb4) rfl rfl rfl (q_as (v := .bool ((!decide ((Pa.parse src).2.1 = 2)) && (!decide ((Pa.parse src).2.1 = 7)))) (q_pick rfl (fun hp => (gv_pos hp).trans (pkAndT hp)) (fun hp => pkAndF hp)) (congrArg Value.bool hqb4)) ?_
    refine RW.gl (v := .bool qb4) rfl rfl rfl (q_move rfl) ?_
    refine RW.g (b := qb4) (v := .int .i64 ((Pa.parse src).2.1)) rfl rfl rfl (fun h => q_move rfl) ?_
    refine RW.g (b := qb4) (v := .bool (!decide ((Pa.parse src).2.1 = 8))) rfl rfl rfl (fun h => q_neq (gv_pos h) rfl) ?_
    obtain ⟨qb5, hqb5⟩ : ∃ qz : Bool, (qb4 && (!decide ((Pa.parse src).2.1 = 8))) = qz := ⟨_, rfl⟩
    refine RW.gl (v := .bool qb5) rfl rfl rfl (q_as (v := .bool (qb4 && (!decide ((Pa.parse src).2.1 = 8)))) (q_pick rfl (fun hp => (gv_pos hp).trans (pkAndT hp)) (fun hp => pkAndF hp)) (congrArg Value.bool hqb5)) ?_
    refine RW.q (v := .bool (false || qb5)) rfl (q_pick rfl (fun hp => pkOrT hp) (fun hp => pkOrF hp)) ?_
    subst hqb5 hqb4
    refine RW.nil ?_
    refine Post.then_n ?_
    refine AW.cond (b := false || (((!decide ((Pa.parse src).2.1 = 2)) && (!decide ((Pa.parse src).2.1 = 7))) && (!decide ((Pa.parse src).2.1 = 8)))) rfl (fun hc2 => ?_) (fun hc2 => ?_)
    · simp [-List.getD_eq_getElem?_getD] at hc2
      exfalso
      clear hf4 hf3
      rcases hf2 with h | h | h <;> omega
    · simp [-List.getD_eq_getElem?_getD] at hc2
      refine AW.skip ?_
      refine Post.then_n ?_
      refine AW.seq ?_
      refine AW.seq ?_
      refine AW.region ?_
      refine RW.q (v := .int .i64 ((Lx.scan src).2.1)) rfl (q_move rfl) ?_
      refine RW.q (v := .bool (!decide ((Lx.scan src).2.1 = 0))) rfl (q_neq rfl rfl) ?_
      refine RW.nil ?_
      refine Post.then_n ?_
      refine AW.cond (b := !decide ((Lx.scan src).2.1 = 0)) rfl (fun hc3 => ?_) (fun hc3 => ?_)
      · simp [-List.getD_eq_getElem?_getD] at hc3
        refine AW.seq ?_
        refine AW.region ?_
        refine RW.q (v := .bool true) rfl (q_move rfl) ?_
        refine RW.q (v := .bool true) rfl (q_move rfl) ?_
        refine RW.gl (v := .int .i64 ((Pa.parse src).2.1)) rfl rfl rfl (q_move rfl) ?_
        refine RW.gl (v := .int .i64 ((Lx.scan src).2.1)) rfl rfl rfl (q_move rfl) ?_
        refine RW.gl (v := .bool (decide ((Pa.parse src).2.1 = (Lx.scan src).2.1))) rfl rfl rfl (q_eql rfl rfl) ?_
        obtain ⟨qb6, hqb6⟩ : ∃ qz : Bool, (decide ((Pa.parse src).2.1 = (Lx.scan src).2.1)) = qz := ⟨_, rfl⟩
        refine RW.q (v := .bool qb6) rfl (q_as (v := .bool (decide ((Pa.parse src).2.1 = (Lx.scan src).2.1))) (q_pick (t := true) rfl (fun _ => rfl) (fun hp => nomatch hp)) (congrArg Value.bool hqb6)) ?_
        refine RW.q (v := .bool qb6) rfl (q_move rfl) ?_
        refine RW.g (b := qb6) (v := .int .i64 ((Pa.parse src).2.2)) rfl rfl rfl (fun h => q_move rfl) ?_
        refine RW.g (b := qb6) (v := .int .i64 ((Lx.scan src).2.2)) rfl rfl rfl (fun h => q_move rfl) ?_
        refine RW.g (b := qb6) (v := .bool (decide ((Pa.parse src).2.2 = (Lx.scan src).2.2))) rfl rfl rfl (fun h => q_eql (gv_pos h) (gv_pos h)) ?_
        obtain ⟨qb7, hqb7⟩ : ∃ qz : Bool, (qb6 && (decide ((Pa.parse src).2.2 = (Lx.scan src).2.2))) = qz := ⟨_, rfl⟩
        refine RW.q (v := .bool qb7) rfl (q_as (v := .bool (qb6 && (decide ((Pa.parse src).2.2 = (Lx.scan src).2.2)))) (q_pick rfl (fun hp => (gv_pos hp).trans (pkAndT hp)) (fun hp => pkAndF hp)) (congrArg Value.bool hqb7)) ?_
        refine RW.q (v := .bool qb7) rfl (q_assign rfl) ?_
        subst hqb7 hqb6
        refine RW.nil ?_
        refine Post.then_n ?_
        refine AW.ret ?_
        refine Post.then_r ?_
        exact fin_val (v' := .bool ((decide ((Pa.parse src).2.1 = (Lx.scan src).2.1)) && (decide ((Pa.parse src).2.2 = (Lx.scan src).2.2)))) rfl rfl rfl (congrArg Value.bool (by obtain ⟨h1, h2⟩ := hf3 (by omega); simp [h1, h2]))
      · simp [-List.getD_eq_getElem?_getD] at hc3
        refine AW.skip ?_
        refine Post.then_n ?_
        refine AW.seq ?_
        obtain ⟨hf5, hf6, hf7, hf8⟩ := hf4 (by omega)
        have hscl := (Pa.scan_good (s := src) (by omega)).2.2.1
        refine AW.region ?_
        refine RW.q (v := .bool false) rfl (q_assign rfl) ?_
        refine RW.nil ?_
        refine Post.then_n ?_
        refine AW.seq ?_
        refine AW.seq ?_
        refine AW.region ?_
        refine RW.q (v := .int .i64 0) rfl (q_assign rfl) ?_
        refine RW.nil ?_
        refine Post.then_n ?_
        refine AW.block ?_
        refine AW.loop (fun s J m => ∃ (i : Nat), ∃ (tk : Bool), s = [(0, .string (bs src)), (3, .bool true), (5, .int .i64 ((Pa.parse src).2.1)), (6, .int .i64 ((Pa.parse src).2.2)), (7, tv1), (11, .int .i64 (i : Int)), (10, .bool tk)] ∧ J = St ⟨w, Φ, []⟩ Φ2 [.blk b1 26 [.int .i64 ((Pa.parse src).1.Kind), .string (bs ((Pa.parse src).1.Text)), .int .i64 ((Pa.parse src).1.N), .int .i64 ((Pa.parse src).1.Dim), .int .i64 ((Pa.parse src).1.At), kp1]] ∧ m = (Lx.scan src).1.length - i ∧ (i ≤ (Lx.scan src).1.length) ∧ (∀ j, j < i → ((Lx.scan src).1.getD j default).At = (Pa.parse src).2.2 → tk = true)) (s0 := _) (J1 := _) (m0 := _) ⟨0, false, rfl, rfl, rfl, (Nat.zero_le _), (fun j hj => absurd hj (Nat.not_lt_zero j))⟩ ⟨rfl, rfl, rfl, rfl, rfl, rfl, rfl, trivial⟩ (fun _ h => h) ?_
        rintro _ _ _ _ ⟨i, tk, rfl, rfl, rfl, hil, htk⟩
        refine AW.seq ?_
        refine AW.seq ?_
        refine AW.region ?_
        refine RW.q (v := .int .i64 (i : Int)) rfl (q_move rfl) ?_
        refine RW.q (v := tv1) rfl (q_move rfl) ?_
        refine RW.q (v := .int .i64 ((((Lx.scan src).1).length : Nat) : Int)) rfl (q_len_sl rfl htv1.sl Tryd.underlying35) ?_
        refine RW.q (v := .bool (decide ((i : Int) < ((((Lx.scan src).1).length : Nat) : Int)))) rfl (q_lss rfl rfl) ?_
        refine RW.nil ?_
        refine Post.then_n ?_
        refine AW.cond (b := decide ((i : Int) < ((((Lx.scan src).1).length : Nat) : Int))) rfl (fun hc4 => ?_) (fun hc4 => ?_)
        · simp [-List.getD_eq_getElem?_getD] at hc4
          refine AW.skip ?_
          refine Post.then_n ?_
          refine AW.seq ?_
          refine AW.block ?_
          refine AW.region ?_
          refine RW.q (v := .bool tk) rfl (q_move rfl) ?_
          refine RW.q (v := .bool tk) rfl (q_move rfl) ?_
          refine RW.g (b := tk) (v := tv1) rfl rfl rfl (fun h => q_move rfl) ?_
          refine RW.g (b := tk) (v := .int .i64 (i : Int)) rfl rfl rfl (fun h => q_move rfl) ?_
          refine RW.g (b := tk) (v := .pointer (some (Value.at tv1 (i * 3)))) rfl rfl rfl (fun h => q_indexAddr (gv_pos h) (gv_pos h) htv1.sl Tryd.underlying35 sz39 (by (try simp [-List.getD_eq_getElem?_getD] at h); omega) (by (try simp [-List.getD_eq_getElem?_getD] at h); omega) rfl) ?_
          refine RW.g (b := tk) (v := .pointer (some (Value.at tv1 (i * 3 + 2)))) rfl rfl rfl (fun h => q_fieldAddr (gv_pos h) Tryd.underlying39 rfl sz3 at_add) ?_
          refine RW.g (b := tk) (v := .int .i64 ((((Lx.scan src).1).getD i default).At)) rfl rfl rfl (fun h => q_load (gv_pos h) Tryd.underlying3 rfl (Cell.repE (j := 2) htv1 (by (try simp [-List.getD_eq_getElem?_getD] at h); omega) rfl)) ?_
          refine RW.g (b := tk) (v := .int .i64 ((Pa.parse src).2.2)) rfl rfl rfl (fun h => q_move rfl) ?_
          refine RW.g (b := tk) (v := .bool (decide ((((Lx.scan src).1).getD i default).At = (Pa.parse src).2.2))) rfl rfl rfl (fun h => q_eql (gv_pos h) (gv_pos h)) ?_
          obtain ⟨qb8, hqb8⟩ : ∃ qz : Bool, (tk || (decide ((((Lx.scan src).1).getD i default).At = (Pa.parse src).2.2))) = qz := ⟨_, rfl⟩
          refine RW.q (v := .bool qb8) rfl (q_as (v := .bool (tk || (decide ((((Lx.scan src).1).getD i default).At = (Pa.parse src).2.2)))) (q_pick rfl (fun hp => pkOrT hp) (fun hp => (gv_pos hp).trans (pkOrF hp))) (congrArg Value.bool hqb8)) ?_
          refine RW.q (v := .bool qb8) rfl (q_assign rfl) ?_
          subst hqb8
          refine RW.nil ?_
          refine Post.blk_n (Post.then_n ?_)
          refine AW.region ?_
          refine RW.q (v := .int .i64 (i : Int)) rfl (q_move rfl) ?_
          refine RW.q (v := .int .i64 ((i + 1 : Nat) : Int)) rfl (q_add rfl rfl (by omega) (by unfold I64; omega)) ?_
          refine RW.q (v := .int .i64 ((i + 1 : Nat) : Int)) rfl (q_assign rfl) ?_
          refine RW.nil ?_
          exact Post.back (s' := _) (J' := _) (m' := _) (by omega) ⟨i + 1, (tk || decide (((Lx.scan src).1.getD i default).At = (Pa.parse src).2.2)), rfl, rfl, rfl, (by omega), (fun j hj h8 => (by by_cases h9 : j = i; (rw [h9] at h8; rw [decide_eq_true h8, Bool.or_true]); (rw [htk j (by omega) h8, Bool.true_or])))⟩ ⟨rfl, rfl, rfl, rfl, rfl, rfl, rfl, trivial⟩ (fun _ h => h)
        · simp [-List.getD_eq_getElem?_getD] at hc4
          refine AW.exit ?_
          refine Post.then_x (Post.then_x (Post.blk_hit (Post.then_n ?_)))
          refine AW.seq ?_
          refine AW.seq ?_
          have htt : tk = true := by
            obtain ⟨t, ht, hta⟩ := hf5
            obtain ⟨j, hj, rfl⟩ := List.mem_iff_getElem.1 ht
            exact htk j (by omega) (by rw [List.getD_eq_getElem?_getD, List.getElem?_eq_getElem hj]; exact hta)
          refine AW.region ?_
          refine RW.q (v := .bool true) rfl (q_as (v := .bool tk) (q_move rfl) (congrArg Value.bool (htt))) ?_
          refine RW.q (v := .bool false) rfl (q_not (b := true) rfl) ?_
          refine RW.q (v := .bool false) rfl (q_move rfl) ?_
          refine RW.gl (v := .int .i64 ((Pa.parse src).2.1)) rfl rfl rfl (q_move rfl) ?_
          refine RW.gl (v := .bool (!decide ((Pa.parse src).2.1 = 2))) rfl rfl rfl (q_neq rfl rfl) ?_
          obtain ⟨qb9, hqb9⟩ : ∃ qz : Bool, (false || (!decide ((Pa.parse src).2.1 = 2))) = qz := ⟨_, rfl⟩
          refine RW.q (v := .bool qb9) rfl (q_as (v := .bool (false || (!decide ((Pa.parse src).2.1 = 2)))) (q_pick rfl (fun hp => pkOrT hp) (fun hp => pkOrF hp)) (congrArg Value.bool hqb9)) ?_
          subst hqb9
          refine RW.nil ?_
          refine Post.then_n ?_
          refine AW.cond (b := (false || (!decide ((Pa.parse src).2.1 = 2)))) rfl (fun hc5 => ?_) (fun hc5 => ?_)
          · simp [-List.getD_eq_getElem?_getD] at hc5
            refine AW.seq ?_
            refine AW.region ?_
            refine RW.q (v := .bool true) rfl (q_move rfl) ?_
            refine RW.q (v := .bool true) rfl (q_move rfl) ?_
            refine RW.gl (v := .bool true) rfl rfl rfl (q_as (v := .bool tk) (q_move rfl) (congrArg Value.bool (htt))) ?_
            refine RW.q (v := .bool true) rfl (q_pick (t := true) rfl (fun _ => rfl) (fun hp => nomatch hp)) ?_
            refine RW.q (v := .bool true) rfl (q_assign rfl) ?_
            refine RW.nil ?_
            refine Post.then_n ?_
            refine AW.ret ?_
            refine Post.then_r ?_
            exact fin_val (v' := .bool true) rfl rfl rfl (rfl)
          · simp [-List.getD_eq_getElem?_getD] at hc5
            refine AW.skip ?_
            refine Post.then_n ?_
            refine AW.seq ?_
            have hf9 := hf8 (by omega)
            refine AW.region ?_
            refine RW.q (v := .string (bs src)) rfl (q_move rfl) ?_
            refine RW.q (v := .int .i64 ((Pa.parse src).2.2)) rfl (q_move rfl) ?_
            refine RW.q (v := .string (bs (src.take (((Pa.parse src).2.2).toNat)))) rfl (q_sliceSH (l := src) (j := (Pa.parse src).2.2) rfl rfl Tryd.underlying9 (by omega) (by omega)) ?_
            refine RW.eff (fun x : {z : (Value) × Hp // (fun (y : Value) (Ψ : Hp) => (wfN (Pa.parse (src.take (((Pa.parse src).2.2).toNat))).1) ∧ (RepSl Ψ (Pa.parse (src.take (((Pa.parse src).2.2).toNat))).1.Kids y)) z.1 z.2 ∧ Hp.le Φ2 z.2} => .tuple #[.agg (ndC (Pa.parse (src.take (((Pa.parse src).2.2).toNat))).1 x.1.1).toArray, .int .i64 ((Pa.parse (src.take (((Pa.parse src).2.2).toNat))).2.1), .int .i64 ((Pa.parse (src.take (((Pa.parse src).2.2).toNat))).2.2)]) (fun x => St ⟨w, Φ, []⟩ x.1.2 [.blk b1 26 [.int .i64 ((Pa.parse src).1.Kind), .string (bs ((Pa.parse src).1.Text)), .int .i64 ((Pa.parse src).1.N), .int .i64 ((Pa.parse src).1.Dim), .int .i64 ((Pa.parse src).1.At), kp1]]) rfl (e_callX (fun (y : Value) => .tuple #[.agg (ndC (Pa.parse (src.take (((Pa.parse src).2.2).toNat))).1 y).toArray, .int .i64 ((Pa.parse (src.take (((Pa.parse src).2.2).toNat))).2.1), .int .i64 ((Pa.parse (src.take (((Pa.parse src).2.2).toNat))).2.2)]) (fun (y : Value) (Ψ : Hp) => (wfN (Pa.parse (src.take (((Pa.parse src).2.2).toNat))).1) ∧ (RepSl Ψ (Pa.parse (src.take (((Pa.parse src).2.2).toNat))).1.Kids y)) (args := #[.string (bs (src.take (((Pa.parse src).2.2).toNat)))]) own12 rfl rfl (fun w1 hw1 => (Parse_c w1 _ hw1.phi hG (l := src.take (((Pa.parse src).2.2).toNat)) (by rw [List.length_take]; omega)).mono fun e w2 hr => by obtain ⟨v9, he9, hb9, u1, hr9, q1, q2⟩ := hr; exact ⟨v9, he9, hb9, u1, hr9, q1, q2⟩)) ?_
            rintro ⟨⟨kp2, Φ3⟩, ⟨hwp2, hkp2⟩, hlΦ3⟩
            replace hwp2 : wfN (Pa.parse (src.take (((Pa.parse src).2.2).toNat))).1 := hwp2
            replace hkp2 : RepSl Φ3 (Pa.parse (src.take (((Pa.parse src).2.2).toNat))).1.Kids kp2 := hkp2
            replace hlΦ3 : Hp.le Φ2 Φ3 := hlΦ3
            replace hG := hG.mono hlΦ3
            replace hkp1 := hkp1.mono hlΦ3
            replace htv1 := htv1.mono hlΦ3
            refine RW.q (v := .tuple #[.agg #[.int .i64 ((Pa.parse (src.take (((Pa.parse src).2.2).toNat))).1.Kind), .string (bs ((Pa.parse (src.take (((Pa.parse src).2.2).toNat))).1.Text)), .int .i64 ((Pa.parse (src.take (((Pa.parse src).2.2).toNat))).1.N), .int .i64 ((Pa.parse (src.take (((Pa.parse src).2.2).toNat))).1.Dim), .int .i64 ((Pa.parse (src.take (((Pa.parse src).2.2).toNat))).1.At), kp2], .int .i64 ((Pa.parse (src.take (((Pa.parse src).2.2).toNat))).2.1), .int .i64 ((Pa.parse (src.take (((Pa.parse src).2.2).toNat))).2.2)]) rfl (q_move rfl) ?_
            refine RW.q (v := .agg #[.int .i64 ((Pa.parse (src.take (((Pa.parse src).2.2).toNat))).1.Kind), .string (bs ((Pa.parse (src.take (((Pa.parse src).2.2).toNat))).1.Text)), .int .i64 ((Pa.parse (src.take (((Pa.parse src).2.2).toNat))).1.N), .int .i64 ((Pa.parse (src.take (((Pa.parse src).2.2).toNat))).1.Dim), .int .i64 ((Pa.parse (src.take (((Pa.parse src).2.2).toNat))).1.At), kp2]) rfl (q_extract rfl rfl) ?_
            refine RW.q (v := .int .i64 ((Pa.parse (src.take (((Pa.parse src).2.2).toNat))).2.1)) rfl (q_extract rfl rfl) ?_
            refine RW.q (v := .int .i64 ((Pa.parse (src.take (((Pa.parse src).2.2).toNat))).2.2)) rfl (q_extract rfl rfl) ?_
            refine RW.eff (fun b2 : Nat => .pointer (some (⟨b2, 0, none⟩))) (fun b2 => St ⟨w, Φ, []⟩ Φ3 [.blk b2 26 [.int .i64 0, .string (bs ([])), .int .i64 0, .int .i64 0, .int .i64 0, (.slice none 0 0)], .blk b1 26 [.int .i64 ((Pa.parse src).1.Kind), .string (bs ((Pa.parse src).1.Text)), .int .i64 ((Pa.parse src).1.N), .int .i64 ((Pa.parse src).1.Dim), .int .i64 ((Pa.parse src).1.At), kp1]]) rfl (e_alloc zero26) ?_
            intro b2
            refine RW.effn (J' := St ⟨w, Φ, []⟩ Φ3 [.blk b2 26 [.int .i64 ((Pa.parse (src.take (((Pa.parse src).2.2).toNat))).1.Kind), .string (bs ((Pa.parse (src.take (((Pa.parse src).2.2).toNat))).1.Text)), .int .i64 ((Pa.parse (src.take (((Pa.parse src).2.2).toNat))).1.N), .int .i64 ((Pa.parse (src.take (((Pa.parse src).2.2).toNat))).1.Dim), .int .i64 ((Pa.parse (src.take (((Pa.parse src).2.2).toNat))).1.At), kp2], .blk b1 26 [.int .i64 ((Pa.parse src).1.Kind), .string (bs ((Pa.parse src).1.Text)), .int .i64 ((Pa.parse src).1.N), .int .i64 ((Pa.parse src).1.Dim), .int .i64 ((Pa.parse src).1.At), kp1]]) (e_store (v := .agg #[.int .i64 ((Pa.parse (src.take (((Pa.parse src).2.2).toNat))).1.Kind), .string (bs ((Pa.parse (src.take (((Pa.parse src).2.2).toNat))).1.Text)), .int .i64 ((Pa.parse (src.take (((Pa.parse src).2.2).toNat))).1.N), .int .i64 ((Pa.parse (src.take (((Pa.parse src).2.2).toNat))).1.Dim), .int .i64 ((Pa.parse (src.take (((Pa.parse src).2.2).toNat))).1.At), kp2]) 0 rfl rfl rfl sz26 rfl (List.all_eq_true.2 (fun u hu => Rep.one (NdV.rep hwp2 hkp2) u hu)) rfl rfl rfl) ?_
            refine RW.q (v := .int .i64 ((Pa.parse (src.take (((Pa.parse src).2.2).toNat))).2.1)) rfl (q_assign rfl) ?_
            refine RW.q (v := .int .i64 ((Pa.parse (src.take (((Pa.parse src).2.2).toNat))).2.2)) rfl (q_assign rfl) ?_
            refine RW.nil ?_
            refine Post.then_n ?_
            refine AW.seq ?_
            refine AW.region ?_
            refine RW.q (v := .bool true) rfl (q_move rfl) ?_
            refine RW.q (v := .bool true) rfl (q_move rfl) ?_
            refine RW.gl (v := .int .i64 ((Pa.parse (src.take (((Pa.parse src).2.2).toNat))).2.1)) rfl rfl rfl (q_move rfl) ?_
            refine RW.gl (v := .bool (decide ((Pa.parse (src.take (((Pa.parse src).2.2).toNat))).2.1 = 0))) rfl rfl rfl (q_eql rfl rfl) ?_
            refine RW.gl (v := .bool (decide ((Pa.parse (src.take (((Pa.parse src).2.2).toNat))).2.1 = 0))) rfl rfl rfl (q_move rfl) ?_
            refine RW.g (b := (decide ((Pa.parse (src.take (((Pa.parse src).2.2).toNat))).2.1 = 0))) (v := .int .i64 ((Pa.parse (src.take (((Pa.parse src).2.2).toNat))).2.1)) rfl rfl rfl (fun h => q_move rfl) ?_
            refine RW.g (b := (decide ((Pa.parse (src.take (((Pa.parse src).2.2).toNat))).2.1 = 0))) (v := .bool (decide ((Pa.parse (src.take (((Pa.parse src).2.2).toNat))).2.1 = 2))) rfl rfl rfl (fun h => q_eql (gv_pos h) rfl) ?_
            refine RW.g (b := (decide ((Pa.parse (src.take (((Pa.parse src).2.2).toNat))).2.1 = 0))) (v := .bool (decide ((Pa.parse (src.take (((Pa.parse src).2.2).toNat))).2.1 = 2))) rfl rfl rfl (fun h => q_move (gv_pos h)) ?_
            refine RW.g2 (b1 := (decide ((Pa.parse (src.take (((Pa.parse src).2.2).toNat))).2.1 = 0))) (b2 := (decide ((Pa.parse (src.take (((Pa.parse src).2.2).toNat))).2.1 = 2))) (v := .int .i64 ((Pa.parse (src.take (((Pa.parse src).2.2).toNat))).2.2)) rfl rfl rfl (fun hg1 hg2 => q_move rfl) ?_
            refine RW.g2 (b1 := (decide ((Pa.parse (src.take (((Pa.parse src).2.2).toNat))).2.1 = 0))) (b2 := (decide ((Pa.parse (src.take (((Pa.parse src).2.2).toNat))).2.1 = 2))) (v := .int .i64 ((Pa.parse src).2.2)) rfl rfl rfl (fun hg1 hg2 => q_move rfl) ?_
            refine RW.g2 (b1 := (decide ((Pa.parse (src.take (((Pa.parse src).2.2).toNat))).2.1 = 0))) (b2 := (decide ((Pa.parse (src.take (((Pa.parse src).2.2).toNat))).2.1 = 2))) (v := .bool (decide ((Pa.parse (src.take (((Pa.parse src).2.2).toNat))).2.2 = (Pa.parse src).2.2))) rfl rfl rfl (fun hg1 hg2 => q_eql ((gv_pos hg1).trans (gv_pos hg2)) ((gv_pos hg1).trans (gv_pos hg2))) ?_
            obtain ⟨qb10, hqb10⟩ : ∃ qz : Bool, ((decide ((Pa.parse (src.take (((Pa.parse src).2.2).toNat))).2.1 = 2)) && (decide ((Pa.parse (src.take (((Pa.parse src).2.2).toNat))).2.2 = (Pa.parse src).2.2))) = qz := ⟨_, rfl⟩
            refine RW.g (b := (decide ((Pa.parse (src.take (((Pa.parse src).2.2).toNat))).2.1 = 0))) (v := .bool qb10) rfl rfl rfl (fun h => q_as (v := .bool ((decide ((Pa.parse (src.take (((Pa.parse src).2.2).toNat))).2.1 = 2)) && (decide ((Pa.parse (src.take (((Pa.parse src).2.2).toNat))).2.2 = (Pa.parse src).2.2)))) (q_pick (gv_pos h) (fun hp => (gv_pos h).trans ((gv_pos hp).trans (pkAndT hp))) (fun hp => pkAndF hp)) (congrArg Value.bool hqb10)) ?_
            obtain ⟨qb11, hqb11⟩ : ∃ qz : Bool, ((decide ((Pa.parse (src.take (((Pa.parse src).2.2).toNat))).2.1 = 0)) || qb10) = qz := ⟨_, rfl⟩
            refine RW.gl (v := .bool qb11) rfl rfl rfl (q_as (v := .bool ((decide ((Pa.parse (src.take (((Pa.parse src).2.2).toNat))).2.1 = 0)) || qb10)) (q_pick rfl (fun hp => pkOrT hp) (fun hp => (gv_pos hp).trans (pkOrF hp))) (congrArg Value.bool hqb11)) ?_
            refine RW.q (v := .bool qb11) rfl (q_pick (t := true) rfl (fun _ => rfl) (fun hp => nomatch hp)) ?_
            refine RW.q (v := .bool qb11) rfl (q_assign rfl) ?_
            subst hqb11 hqb10
            refine RW.nil ?_
            refine Post.then_n ?_
            refine AW.ret ?_
            exact fin_val (v' := .bool ((decide ((Pa.parse (src.take (((Pa.parse src).2.2).toNat))).2.1 = 0)) || ((decide ((Pa.parse (src.take (((Pa.parse src).2.2).toNat))).2.1 = 2)) && (decide ((Pa.parse (src.take (((Pa.parse src).2.2).toNat))).2.2 = (Pa.parse src).2.2))))) rfl rfl rfl (congrArg Value.bool (by rcases hf9 with h | h; simp [h]; simp [h]))

end Go.Proofs.YtjcahklnkakklaaDoor
