/- Walks (part LwC), printed by walk2.py. Conditions: those of each theorem. -/
import Derived.Test.YtjcahklnkakklaaDoorQLwA
import Derived.Test.YtjcahklnkakklaaDoorQPlJ
namespace Go.Proofs.YtjcahklnkakklaaDoor
open Go Go.K Go.RowKit

theorem leaf26_2 {Φ : Hp} {x : Bt.Node} {cs : List Value} (h : Rep.rep Φ x cs) : cs[2]? = some (.int .i64 x.N) := by
  obtain ⟨v, rfl, _⟩ := repN.1 h; rfl
theorem leaf26_3 {Φ : Hp} {x : Bt.Node} {cs : List Value} (h : Rep.rep Φ x cs) : cs[3]? = some (.int .i64 x.Dim) := by
  obtain ⟨v, rfl, _⟩ := repN.1 h; rfl
theorem part26_2 {B : Bs} {Φ : Hp} {C : List Chunk} {xs : List Bt.Node} {v : Value} {k : Nat} (h : RepSl Φ xs v) (hk : k < xs.length) : Cells (St B Φ C) (Value.at v (k * 6 + 2)) [.int .i64 (xs.getD k default).N, .int .i64 (xs.getD k default).Dim] := fun j u hu => by
  rw [at_add]
  match j, hu with
  | 0, hu => obtain rfl := Option.some.inj hu; exact Cell.repJ (j := 2) h hk (fun h => leaf26_2 h)
  | 1, hu => obtain rfl := Option.some.inj hu; exact Cell.repJ (j := 3) h hk (fun h => leaf26_3 h)

set_option maxRecDepth 8000 in
set_option maxHeartbeats 1000000 in
theorem TreeUnits_c (w : World) (Φ : Hp) (hΦ : Hp.le Φ (hp w)) (hG : Knows Φ Glob) {num nam : List UInt8} :
    Calls Tryd.prog 5 #[.string (bs num), .string (bs nam)] w fun e w' => e = .returned (.bool true) ∧ Bel w.heap.size w w' := by
  refine calls_of_AW (args := [.string (bs num), .string (bs nam)]) Tryd.func5 rfl (Nat.le_of_ble_eq_true rfl) (St ⟨w, Φ, []⟩ Φ []) (StP.init w Φ hΦ []) ?_
  show AW Tryd.prog 185 [] _ _ _ [(0, .string (bs num)), (1, .string (bs nam))] _
  refine AW.seq ?_
  refine AW.region ?_
  refine RW.q (v := .bool false) rfl (q_assign rfl) ?_
  refine RW.nil ?_
  refine Post.then_n ?_
  refine AW.seq ?_
  refine AW.region ?_
  refine RW.q (v := .bool true) rfl (q_call (args := #[]) own8 rfl rfl (fun w1 hw1 => small_c w1 (Go.K.hp w1) (Hp.le_refl _) (hG.mono hw1.phi))) ?_
  refine RW.q (v := .bool true) rfl (q_assign rfl) ?_
  refine RW.nil ?_
  refine Post.then_n ?_
  refine AW.seq ?_
  refine AW.seq ?_
  refine AW.region ?_
  refine RW.q (v := .string (bs num)) rfl (q_move rfl) ?_
  refine RW.q (v := .int .i64 ((num.length : Nat) : Int)) rfl (q_lenS (l := num) rfl Tryd.underlying9) ?_
  refine RW.q (v := .bool (decide ((24 : Int) < ((num.length : Nat) : Int)))) rfl (q_gtr rfl rfl) ?_
  refine RW.q (v := .bool (decide ((24 : Int) < ((num.length : Nat) : Int)))) rfl (q_move rfl) ?_
  refine RW.g (b := (decide ((24 : Int) < ((num.length : Nat) : Int)))) (v := .string (bs nam)) rfl rfl rfl (fun h => q_move rfl) ?_
  refine RW.g (b := (decide ((24 : Int) < ((num.length : Nat) : Int)))) (v := .int .i64 ((nam.length : Nat) : Int)) rfl rfl rfl (fun h => q_lenS (l := nam) (gv_pos h) Tryd.underlying9) ?_
  refine RW.g (b := (decide ((24 : Int) < ((num.length : Nat) : Int)))) (v := .bool (decide ((24 : Int) < ((nam.length : Nat) : Int)))) rfl rfl rfl (fun h => q_gtr (gv_pos h) rfl) ?_
  obtain ⟨qb1, hqb1⟩ : ∃ qz : Bool, ((decide ((24 : Int) < ((num.length : Nat) : Int))) || (decide ((24 : Int) < ((nam.length : Nat) : Int)))) = qz := ⟨_, rfl⟩
  refine RW.q (v := .bool qb1) rfl (q_as (v := .bool ((decide ((24 : Int) < ((num.length : Nat) : Int))) || (decide ((24 : Int) < ((nam.length : Nat) : Int))))) (q_pick rfl (fun hp => pkOrT hp) (fun hp => (gv_pos hp).trans (pkOrF hp))) (congrArg Value.bool hqb1)) ?_
  subst hqb1
  refine RW.nil ?_
  refine Post.then_n ?_
  refine AW.cond (b := ((decide ((24 : Int) < ((num.length : Nat) : Int))) || (decide ((24 : Int) < ((nam.length : Nat) : Int))))) rfl (fun hc1 => ?_) (fun hc1 => ?_)
  · simp [-List.getD_eq_getElem?_getD] at hc1
    refine AW.seq ?_
    refine AW.region ?_
    refine RW.q (v := .bool true) rfl (q_move rfl) ?_
    refine RW.q (v := .bool true) rfl (q_assign rfl) ?_
    refine RW.nil ?_
    refine Post.then_n ?_
    refine AW.ret ?_
    refine Post.then_r ?_
    exact fin_val (v' := .bool true) rfl rfl rfl (rfl)
  · simp [-List.getD_eq_getElem?_getD] at hc1
    refine AW.skip ?_
    refine Post.then_n ?_
    refine AW.seq ?_
    refine AW.region ?_
    refine RW.q (v := .string (bs num)) rfl (q_move rfl) ?_
    refine RW.q (v := .string (bs (([120, 32, 123, 32, 121, 32] : List UInt8) ++ num))) rfl (q_catStr (l := ([120, 32, 123, 32, 121, 32] : List UInt8)) (r := num) rfl rfl (by simp only [List.length_append, List.length_cons, List.length_nil]; omega) rfl) ?_
    refine RW.q (v := .string (bs ((([120, 32, 123, 32, 121, 32] : List UInt8) ++ num) ++ ([32] : List UInt8)))) rfl (q_catStr (l := ([120, 32, 123, 32, 121, 32] : List UInt8) ++ num) (r := ([32] : List UInt8)) rfl rfl (by simp only [List.length_append, List.length_cons, List.length_nil]; omega) rfl) ?_
    refine RW.q (v := .string (bs nam)) rfl (q_move rfl) ?_
    refine RW.q (v := .string (bs (((([120, 32, 123, 32, 121, 32] : List UInt8) ++ num) ++ ([32] : List UInt8)) ++ nam))) rfl (q_catStr (l := (([120, 32, 123, 32, 121, 32] : List UInt8) ++ num) ++ ([32] : List UInt8)) (r := nam) rfl rfl (by simp only [List.length_append, List.length_cons, List.length_nil]; omega) rfl) ?_
    refine RW.q (v := .string (bs (Pa.unS num nam))) rfl (q_as (v := .string (bs ((((([120, 32, 123, 32, 121, 32] : List UInt8) ++ num) ++ ([32] : List UInt8)) ++ nam) ++ ([59, 32, 125] : List UInt8)))) (q_catStr (l := ((([120, 32, 123, 32, 121, 32] : List UInt8) ++ num) ++ ([32] : List UInt8)) ++ nam) (r := ([59, 32, 125] : List UInt8)) rfl rfl (by simp only [List.length_append, List.length_cons, List.length_nil]; omega) rfl) (congrArg (fun z => Value.string (bs z)) (rfl))) ?_
    refine RW.q (v := .string (bs (Pa.unS num nam))) rfl (q_assign rfl) ?_
    refine RW.nil ?_
    refine Post.then_n ?_
    refine AW.seq ?_
    refine AW.region ?_
    refine RW.q (v := .string (bs (Pa.unS num nam))) rfl (q_move rfl) ?_
    refine RW.eff (fun x : {z : (Value) × Hp // (fun (y : Value) (Ψ : Hp) => (RepSl Ψ ((Lx.scan (Pa.unS num nam)).1) y)) z.1 z.2 ∧ Hp.le Φ z.2} => .tuple #[x.1.1, .int .i64 ((Lx.scan (Pa.unS num nam)).2.1), .int .i64 ((Lx.scan (Pa.unS num nam)).2.2)]) (fun x => St ⟨w, Φ, []⟩ x.1.2 []) rfl (e_callX (fun (y : Value) => .tuple #[y, .int .i64 ((Lx.scan (Pa.unS num nam)).2.1), .int .i64 ((Lx.scan (Pa.unS num nam)).2.2)]) (fun (y : Value) (Ψ : Hp) => (RepSl Ψ ((Lx.scan (Pa.unS num nam)).1) y)) (args := #[.string (bs (Pa.unS num nam))]) own14 rfl rfl (fun w1 hw1 => (Scan_c w1 _ hw1.phi (l := Pa.unS num nam) (by simp only [maxLen, Pa.unS, List.length_append, List.length_cons, List.length_nil]; omega)).mono fun e w2 hr => by obtain ⟨v9, he9, hb9, u1, hr9, q1⟩ := hr; exact ⟨v9, he9, hb9, u1, hr9, q1⟩)) ?_
    rintro ⟨⟨tv1, Φ1⟩, htv1, hlΦ1⟩
    replace htv1 : RepSl Φ1 ((Lx.scan (Pa.unS num nam)).1) tv1 := htv1
    replace hlΦ1 : Hp.le Φ Φ1 := hlΦ1
    replace hG := hG.mono hlΦ1
    refine RW.q (v := .tuple #[tv1, .int .i64 ((Lx.scan (Pa.unS num nam)).2.1), .int .i64 ((Lx.scan (Pa.unS num nam)).2.2)]) rfl (q_move rfl) ?_
    refine RW.q (v := tv1) rfl (q_extract rfl rfl) ?_
    refine RW.q (v := .int .i64 ((Lx.scan (Pa.unS num nam)).2.1)) rfl (q_extract rfl rfl) ?_
    refine RW.q (v := .int .i64 ((Lx.scan (Pa.unS num nam)).2.2)) rfl (q_extract rfl rfl) ?_
    refine RW.q (v := tv1) rfl (q_assign rfl) ?_
    refine RW.q (v := .int .i64 ((Lx.scan (Pa.unS num nam)).2.1)) rfl (q_assign rfl) ?_
    refine RW.q (v := .int .i64 ((Lx.scan (Pa.unS num nam)).2.2)) rfl (q_assign rfl) ?_
    refine RW.nil ?_
    refine Post.then_n ?_
    refine AW.seq ?_
    refine AW.seq ?_
    refine AW.region ?_
    refine RW.q (v := .int .i64 ((Lx.scan (Pa.unS num nam)).2.1)) rfl (q_move rfl) ?_
    refine RW.q (v := .bool (!decide ((Lx.scan (Pa.unS num nam)).2.1 = 0))) rfl (q_neq rfl rfl) ?_
    refine RW.q (v := .bool (!decide ((Lx.scan (Pa.unS num nam)).2.1 = 0))) rfl (q_move rfl) ?_
    refine RW.g (b := (!decide ((Lx.scan (Pa.unS num nam)).2.1 = 0))) (v := tv1) rfl rfl rfl (fun h => q_move rfl) ?_
    refine RW.g (b := (!decide ((Lx.scan (Pa.unS num nam)).2.1 = 0))) (v := .int .i64 ((((Lx.scan (Pa.unS num nam)).1).length : Nat) : Int)) rfl rfl rfl (fun h => q_len_sl (gv_pos h) htv1.sl Tryd.underlying35) ?_
    refine RW.g (b := (!decide ((Lx.scan (Pa.unS num nam)).2.1 = 0))) (v := .bool (!decide (((((Lx.scan (Pa.unS num nam)).1).length : Nat) : Int) = 8))) rfl rfl rfl (fun h => q_neq (gv_pos h) rfl) ?_
    obtain ⟨qb2, hqb2⟩ : ∃ qz : Bool, ((!decide ((Lx.scan (Pa.unS num nam)).2.1 = 0)) || (!decide (((((Lx.scan (Pa.unS num nam)).1).length : Nat) : Int) = 8))) = qz := ⟨_, rfl⟩
    refine RW.q (v := .bool qb2) rfl (q_as (v := .bool ((!decide ((Lx.scan (Pa.unS num nam)).2.1 = 0)) || (!decide (((((Lx.scan (Pa.unS num nam)).1).length : Nat) : Int) = 8)))) (q_pick rfl (fun hp => pkOrT hp) (fun hp => (gv_pos hp).trans (pkOrF hp))) (congrArg Value.bool hqb2)) ?_
    subst hqb2
    refine RW.nil ?_
    refine Post.then_n ?_
    refine AW.cond (b := ((!decide ((Lx.scan (Pa.unS num nam)).2.1 = 0)) || (!decide (((((Lx.scan (Pa.unS num nam)).1).length : Nat) : Int) = 8)))) rfl (fun hc2 => ?_) (fun hc2 => ?_)
    · simp [-List.getD_eq_getElem?_getD] at hc2
      refine AW.seq ?_
      refine AW.region ?_
      refine RW.q (v := .bool true) rfl (q_move rfl) ?_
      refine RW.q (v := .bool true) rfl (q_assign rfl) ?_
      refine RW.nil ?_
      refine Post.then_n ?_
      refine AW.ret ?_
      refine Post.then_r ?_
      exact fin_val (v' := .bool true) rfl rfl rfl (rfl)
    · simp [-List.getD_eq_getElem?_getD] at hc2
      refine AW.skip ?_
      refine Post.then_n ?_
      refine AW.seq ?_
      refine AW.seq ?_
      refine AW.region ?_
      refine RW.q (v := tv1) rfl (q_move rfl) ?_
      refine RW.q (v := .pointer (some (Value.at tv1 (3 * 3)))) rfl (q_indexAddr rfl rfl htv1.sl Tryd.underlying35 sz39 (by omega) (by omega) rfl) ?_
      refine RW.q (v := .pointer (some (Value.at tv1 (3 * 3 + 0)))) rfl (q_fieldAddr rfl Tryd.underlying39 rfl sz3 at_add) ?_
      refine RW.q (v := .int .i64 ((((Lx.scan (Pa.unS num nam)).1).getD 3 default).Kind)) rfl (q_load rfl Tryd.underlying3 rfl (Cell.repE (j := 0) htv1 (by omega) rfl)) ?_
      refine RW.q (v := .bool (!decide ((((Lx.scan (Pa.unS num nam)).1).getD 3 default).Kind = 1))) rfl (q_neq rfl rfl) ?_
      refine RW.q (v := .bool (!decide ((((Lx.scan (Pa.unS num nam)).1).getD 3 default).Kind = 1))) rfl (q_move rfl) ?_
      refine RW.g (b := (!decide ((((Lx.scan (Pa.unS num nam)).1).getD 3 default).Kind = 1))) (v := tv1) rfl rfl rfl (fun h => q_move rfl) ?_
      refine RW.g (b := (!decide ((((Lx.scan (Pa.unS num nam)).1).getD 3 default).Kind = 1))) (v := .pointer (some (Value.at tv1 (3 * 3)))) rfl rfl rfl (fun h => q_indexAddr (gv_pos h) rfl htv1.sl Tryd.underlying35 sz39 (by (try simp [-List.getD_eq_getElem?_getD] at h); omega) (by (try simp [-List.getD_eq_getElem?_getD] at h); omega) rfl) ?_
      refine RW.g (b := (!decide ((((Lx.scan (Pa.unS num nam)).1).getD 3 default).Kind = 1))) (v := .pointer (some (Value.at tv1 (3 * 3 + 1)))) rfl rfl rfl (fun h => q_fieldAddr (gv_pos h) Tryd.underlying39 rfl sz9 at_add) ?_
      refine RW.g (b := (!decide ((((Lx.scan (Pa.unS num nam)).1).getD 3 default).Kind = 1))) (v := .string (bs ((((Lx.scan (Pa.unS num nam)).1).getD 3 default).Text))) rfl rfl rfl (fun h => q_load (gv_pos h) Tryd.underlying9 rfl (Cell.repE (j := 1) htv1 (by (try simp [-List.getD_eq_getElem?_getD] at h); omega) rfl)) ?_
      refine RW.g (b := (!decide ((((Lx.scan (Pa.unS num nam)).1).getD 3 default).Kind = 1))) (v := .string (bs num)) rfl rfl rfl (fun h => q_move rfl) ?_
      refine RW.g (b := (!decide ((((Lx.scan (Pa.unS num nam)).1).getD 3 default).Kind = 1))) (v := .bool (!decide ((((Lx.scan (Pa.unS num nam)).1).getD 3 default).Text = num))) rfl rfl rfl (fun h => q_neqStr (l := (((Lx.scan (Pa.unS num nam)).1).getD 3 default).Text) (r := num) (gv_pos h) (gv_pos h)) ?_
      obtain ⟨qb3, hqb3⟩ : ∃ qz : Bool, ((!decide ((((Lx.scan (Pa.unS num nam)).1).getD 3 default).Kind = 1)) || (!decide ((((Lx.scan (Pa.unS num nam)).1).getD 3 default).Text = num))) = qz := ⟨_, rfl⟩
      refine RW.q (v := .bool qb3) rfl (q_as (v := .bool ((!decide ((((Lx.scan (Pa.unS num nam)).1).getD 3 default).Kind = 1)) || (!decide ((((Lx.scan (Pa.unS num nam)).1).getD 3 default).Text = num)))) (q_pick rfl (fun hp => pkOrT hp) (fun hp => (gv_pos hp).trans (pkOrF hp))) (congrArg Value.bool hqb3)) ?_
      refine RW.q (v := .bool qb3) rfl (q_move rfl) ?_
      refine RW.g (b := qb3) (v := tv1) rfl rfl rfl (fun h => q_move rfl) ?_
      refine RW.g (b := qb3) (v := .pointer (some (Value.at tv1 (4 * 3)))) rfl rfl rfl (fun h => q_indexAddr (gv_pos h) rfl htv1.sl Tryd.underlying35 sz39 (by subst hqb3; (try simp [-List.getD_eq_getElem?_getD] at h); omega) (by subst hqb3; (try simp [-List.getD_eq_getElem?_getD] at h); omega) rfl) ?_
      refine RW.g (b := qb3) (v := .pointer (some (Value.at tv1 (4 * 3 + 0)))) rfl rfl rfl (fun h => q_fieldAddr (gv_pos h) Tryd.underlying39 rfl sz3 at_add) ?_
      refine RW.g (b := qb3) (v := .int .i64 ((((Lx.scan (Pa.unS num nam)).1).getD 4 default).Kind)) rfl rfl rfl (fun h => q_load (gv_pos h) Tryd.underlying3 rfl (Cell.repE (j := 0) htv1 (by subst hqb3; (try simp [-List.getD_eq_getElem?_getD] at h); omega) rfl)) ?_
      refine RW.g (b := qb3) (v := .bool (!decide ((((Lx.scan (Pa.unS num nam)).1).getD 4 default).Kind = 0))) rfl rfl rfl (fun h => q_neq (gv_pos h) rfl) ?_
      obtain ⟨qb4, hqb4⟩ : ∃ qz : Bool, (qb3 || (!decide ((((Lx.scan (Pa.unS num nam)).1).getD 4 default).Kind = 0))) = qz := ⟨_, rfl⟩
      refine RW.q (v := .bool qb4) rfl (q_as (v := .bool (qb3 || (!decide ((((Lx.scan (Pa.unS num nam)).1).getD 4 default).Kind = 0)))) (q_pick rfl (fun hp => pkOrT hp) (fun hp => (gv_pos hp).trans (pkOrF hp))) (congrArg Value.bool hqb4)) ?_
      refine RW.q (v := .bool qb4) rfl (q_move rfl) ?_
      refine RW.g (b := qb4) (v := tv1) rfl rfl rfl (fun h => q_move rfl) ?_
      refine RW.g (b := qb4) (v := .pointer (some (Value.at tv1 (4 * 3)))) rfl rfl rfl (fun h => q_indexAddr (gv_pos h) rfl htv1.sl Tryd.underlying35 sz39 (by subst hqb4 hqb3; (try simp [-List.getD_eq_getElem?_getD] at h); omega) (by subst hqb4 hqb3; (try simp [-List.getD_eq_getElem?_getD] at h); omega) rfl) ?_
      refine RW.g (b := qb4) (v := .pointer (some (Value.at tv1 (4 * 3 + 1)))) rfl rfl rfl (fun h => q_fieldAddr (gv_pos h) Tryd.underlying39 rfl sz9 at_add) ?_
      refine RW.g (b := qb4) (v := .string (bs ((((Lx.scan (Pa.unS num nam)).1).getD 4 default).Text))) rfl rfl rfl (fun h => q_load (gv_pos h) Tryd.underlying9 rfl (Cell.repE (j := 1) htv1 (by subst hqb4 hqb3; (try simp [-List.getD_eq_getElem?_getD] at h); omega) rfl)) ?_
      refine RW.g (b := qb4) (v := .string (bs nam)) rfl rfl rfl (fun h => q_move rfl) ?_
      refine RW.g (b := qb4) (v := .bool (!decide ((((Lx.scan (Pa.unS num nam)).1).getD 4 default).Text = nam))) rfl rfl rfl (fun h => q_neqStr (l := (((Lx.scan (Pa.unS num nam)).1).getD 4 default).Text) (r := nam) (gv_pos h) (gv_pos h)) ?_
      obtain ⟨qb5, hqb5⟩ : ∃ qz : Bool, (qb4 || (!decide ((((Lx.scan (Pa.unS num nam)).1).getD 4 default).Text = nam))) = qz := ⟨_, rfl⟩
      refine RW.q (v := .bool qb5) rfl (q_as (v := .bool (qb4 || (!decide ((((Lx.scan (Pa.unS num nam)).1).getD 4 default).Text = nam)))) (q_pick rfl (fun hp => pkOrT hp) (fun hp => (gv_pos hp).trans (pkOrF hp))) (congrArg Value.bool hqb5)) ?_
      subst hqb5 hqb4 hqb3
      refine RW.nil ?_
      refine Post.then_n ?_
      refine AW.cond (b := ((((!decide ((((Lx.scan (Pa.unS num nam)).1).getD 3 default).Kind = 1)) || (!decide ((((Lx.scan (Pa.unS num nam)).1).getD 3 default).Text = num))) || (!decide ((((Lx.scan (Pa.unS num nam)).1).getD 4 default).Kind = 0))) || (!decide ((((Lx.scan (Pa.unS num nam)).1).getD 4 default).Text = nam)))) rfl (fun hc3 => ?_) (fun hc3 => ?_)
      · simp [-List.getD_eq_getElem?_getD] at hc3
        refine AW.seq ?_
        refine AW.region ?_
        refine RW.q (v := .bool true) rfl (q_move rfl) ?_
        refine RW.q (v := .bool true) rfl (q_assign rfl) ?_
        refine RW.nil ?_
        refine Post.then_n ?_
        refine AW.ret ?_
        refine Post.then_r ?_
        exact fin_val (v' := .bool true) rfl rfl rfl (rfl)
      · simp [-List.getD_eq_getElem?_getD] at hc3
        refine AW.skip ?_
        refine Post.then_n ?_
        refine AW.seq ?_
        rcases Pa.units (num := num) (nam := nam) hc2.1 hc3.1.1.1 hc3.1.1.2 hc3.1.2 hc3.2 with ⟨hu1, hu2, hpe⟩ | ⟨hu1, hpe⟩ | ⟨hu1, hu2, hpe⟩ | ⟨hu1, hu2, hpe⟩
        · skip
          refine AW.region ?_
          refine RW.q (v := .string (bs (Pa.unS num nam))) rfl (q_move rfl) ?_
          refine RW.eff (fun x : {z : (Value) × Hp // (fun (y : Value) (Ψ : Hp) => (wfN (default : Bt.Node)) ∧ (RepSl Ψ (default : Bt.Node).Kids y)) z.1 z.2 ∧ Hp.le Φ1 z.2} => .tuple #[.agg (ndC (default : Bt.Node) x.1.1).toArray, .int .i64 7, .int .i64 6]) (fun x => St ⟨w, Φ, []⟩ x.1.2 []) rfl (e_callX (fun (y : Value) => .tuple #[.agg (ndC (default : Bt.Node) y).toArray, .int .i64 7, .int .i64 6]) (fun (y : Value) (Ψ : Hp) => (wfN (default : Bt.Node)) ∧ (RepSl Ψ (default : Bt.Node).Kids y)) (args := #[.string (bs (Pa.unS num nam))]) own12 rfl rfl (fun w1 hw1 => ((Parse_c w1 _ hw1.phi hG (l := Pa.unS num nam) (by simp only [maxLen, Pa.unS, List.length_append, List.length_cons, List.length_nil]; omega)).mono fun _ _ h => (by rw [hpe] at h; exact h)).mono fun e w2 hr => by obtain ⟨v9, he9, hb9, u1, hr9, q1, q2⟩ := hr; exact ⟨v9, he9, hb9, u1, hr9, q1, q2⟩)) ?_
          rintro ⟨⟨kp1, Φ2⟩, ⟨hwp1, hkp1⟩, hlΦ2⟩
          replace hwp1 : wfN (default : Bt.Node) := hwp1
          replace hkp1 : RepSl Φ2 (default : Bt.Node).Kids kp1 := hkp1
          replace hlΦ2 : Hp.le Φ1 Φ2 := hlΦ2
          replace hG := hG.mono hlΦ2
          replace htv1 := htv1.mono hlΦ2
          refine RW.q (v := .tuple #[.agg #[.int .i64 ((default : Bt.Node).Kind), .string (bs ((default : Bt.Node).Text)), .int .i64 ((default : Bt.Node).N), .int .i64 ((default : Bt.Node).Dim), .int .i64 ((default : Bt.Node).At), kp1], .int .i64 7, .int .i64 6]) rfl (q_move rfl) ?_
          refine RW.q (v := .agg #[.int .i64 ((default : Bt.Node).Kind), .string (bs ((default : Bt.Node).Text)), .int .i64 ((default : Bt.Node).N), .int .i64 ((default : Bt.Node).Dim), .int .i64 ((default : Bt.Node).At), kp1]) rfl (q_extract rfl rfl) ?_
          refine RW.q (v := .int .i64 7) rfl (q_extract rfl rfl) ?_
          refine RW.q (v := .int .i64 6) rfl (q_extract rfl rfl) ?_
          refine RW.eff (fun b1 : Nat => .pointer (some (⟨b1, 0, none⟩))) (fun b1 => St ⟨w, Φ, []⟩ Φ2 [.blk b1 26 [.int .i64 0, .string (bs ([])), .int .i64 0, .int .i64 0, .int .i64 0, (.slice none 0 0)]]) rfl (e_alloc zero26) ?_
          intro b1
          refine RW.effn (J' := St ⟨w, Φ, []⟩ Φ2 [.blk b1 26 [.int .i64 ((default : Bt.Node).Kind), .string (bs ((default : Bt.Node).Text)), .int .i64 ((default : Bt.Node).N), .int .i64 ((default : Bt.Node).Dim), .int .i64 ((default : Bt.Node).At), kp1]]) (e_store (v := .agg #[.int .i64 ((default : Bt.Node).Kind), .string (bs ((default : Bt.Node).Text)), .int .i64 ((default : Bt.Node).N), .int .i64 ((default : Bt.Node).Dim), .int .i64 ((default : Bt.Node).At), kp1]) 0 rfl rfl rfl sz26 rfl (List.all_eq_true.2 (fun u hu => Rep.one (NdV.rep hwp1 hkp1) u hu)) rfl rfl rfl) ?_
          refine RW.q (v := .int .i64 7) rfl (q_assign rfl) ?_
          refine RW.q (v := .int .i64 6) rfl (q_assign rfl) ?_
          refine RW.nil ?_
          refine Post.then_n ?_
          refine AW.seq ?_
          refine AW.region ?_
          refine RW.q (v := .string (bs num)) rfl (q_move rfl) ?_
          refine RW.q (v := .string (bs nam)) rfl (q_move rfl) ?_
          refine RW.q (v := .tuple #[.agg #[.int .i64 (((Un.amt num nam).1 : Nat) : Int), .int .i64 (((Un.amt num nam).2.1 : Nat) : Int)], .int .i64 (((Un.amt num nam).2.2 : Nat) : Int)]) rfl (q_call (args := #[.string (bs num), .string (bs nam)]) own15 rfl rfl (fun w1 hw1 => Amount_c w1 (Go.K.hp w1) (Hp.le_refl _) (hG.mono hw1.phi) (by omega))) ?_
          refine RW.q (v := .tuple #[.agg #[.int .i64 (((Un.amt num nam).1 : Nat) : Int), .int .i64 (((Un.amt num nam).2.1 : Nat) : Int)], .int .i64 (((Un.amt num nam).2.2 : Nat) : Int)]) rfl (q_move rfl) ?_
          refine RW.q (v := .agg #[.int .i64 (((Un.amt num nam).1 : Nat) : Int), .int .i64 (((Un.amt num nam).2.1 : Nat) : Int)]) rfl (q_extract rfl rfl) ?_
          refine RW.q (v := .int .i64 (((Un.amt num nam).2.2 : Nat) : Int)) rfl (q_extract rfl rfl) ?_
          refine RW.eff (fun b2 : Nat => .pointer (some (⟨b2, 0, none⟩))) (fun b2 => St ⟨w, Φ, []⟩ Φ2 [.blk b2 23 [.int .i64 0, .int .i64 0], .blk b1 26 [.int .i64 ((default : Bt.Node).Kind), .string (bs ((default : Bt.Node).Text)), .int .i64 ((default : Bt.Node).N), .int .i64 ((default : Bt.Node).Dim), .int .i64 ((default : Bt.Node).At), kp1]]) rfl (e_alloc zero23) ?_
          intro b2
          refine RW.effn (J' := St ⟨w, Φ, []⟩ Φ2 [.blk b2 23 [.int .i64 (((Un.amt num nam).1 : Nat) : Int), .int .i64 (((Un.amt num nam).2.1 : Nat) : Int)], .blk b1 26 [.int .i64 ((default : Bt.Node).Kind), .string (bs ((default : Bt.Node).Text)), .int .i64 ((default : Bt.Node).N), .int .i64 ((default : Bt.Node).Dim), .int .i64 ((default : Bt.Node).At), kp1]]) (e_store (v := .agg #[.int .i64 (((Un.amt num nam).1 : Nat) : Int), .int .i64 (((Un.amt num nam).2.1 : Nat) : Int)]) 0 rfl rfl rfl sz23 rfl rfl rfl rfl rfl) ?_
          refine RW.q (v := .int .i64 (((Un.amt num nam).2.2 : Nat) : Int)) rfl (q_assign rfl) ?_
          refine RW.nil ?_
          refine Post.then_n ?_
          refine AW.seq ?_
          refine AW.region ?_
          refine RW.q (v := .int .i64 1) rfl (q_assign rfl) ?_
          refine RW.nil ?_
          refine Post.then_n ?_
          refine AW.seq ?_
          refine AW.seq ?_
          refine AW.region ?_
          refine RW.q (v := .int .i64 (((Un.amt num nam).2.2 : Nat) : Int)) rfl (q_move rfl) ?_
          refine RW.q (v := .bool false) rfl (q_as (v := .bool (decide ((((Un.amt num nam).2.2 : Nat) : Int) = 6))) (q_eql rfl rfl) (congrArg Value.bool ((by first | exact decide_eq_true (by omega) | exact decide_eq_false (by omega))))) ?_
          refine RW.nil ?_
          refine Post.then_n ?_
          refine AW.cond (b := false) rfl (fun hc4 => ?_) (fun hc4 => ?_)
          · cases hc4
          · skip
            refine AW.skip ?_
            refine Post.then_n ?_
            refine AW.seq ?_
            refine AW.seq ?_
            refine AW.region ?_
            refine RW.q (v := .int .i64 (((Un.amt num nam).2.2 : Nat) : Int)) rfl (q_move rfl) ?_
            refine RW.q (v := .bool true) rfl (q_as (v := .bool (!decide ((((Un.amt num nam).2.2 : Nat) : Int) = 0))) (q_neq rfl rfl) (congrArg Value.bool ((by first | simp; omega | (have h9 := hu1; simp; omega))))) ?_
            refine RW.nil ?_
            refine Post.then_n ?_
            refine AW.cond (b := true) rfl (fun hc5 => ?_) (fun hc5 => ?_)
            · skip
              refine AW.seq ?_
              refine AW.region ?_
              refine RW.q (v := .bool true) rfl (q_move rfl) ?_
              refine RW.q (v := .bool true) rfl (q_move rfl) ?_
              refine RW.gl (v := .int .i64 7) rfl rfl rfl (q_move rfl) ?_
              refine RW.gl (v := .bool true) rfl rfl rfl (q_eql (a := 7) (b := 7) rfl rfl) ?_
              refine RW.q (v := .bool true) rfl (q_pick (t := true) rfl (fun _ => rfl) (fun hp => nomatch hp)) ?_
              refine RW.q (v := .bool true) rfl (q_move rfl) ?_
              refine RW.gl (v := .int .i64 6) rfl rfl rfl (q_move rfl) ?_
              refine RW.gl (v := .bool true) rfl rfl rfl (q_eql (a := 6) (b := 6) rfl rfl) ?_
              refine RW.q (v := .bool true) rfl (q_pick (t := true) rfl (fun _ => rfl) (fun hp => nomatch hp)) ?_
              refine RW.q (v := .bool true) rfl (q_assign rfl) ?_
              refine RW.nil ?_
              refine Post.then_n ?_
              refine AW.ret ?_
              refine Post.then_r ?_
              exact fin_val (v' := .bool true) rfl rfl rfl (rfl)
            · cases hc5
        · skip
          refine AW.region ?_
          refine RW.q (v := .string (bs (Pa.unS num nam))) rfl (q_move rfl) ?_
          refine RW.eff (fun x : {z : (Value) × Hp // (fun (y : Value) (Ψ : Hp) => (wfN (Pa.uT [⟨5, [], (Un.amt num nam).1, (Un.amt num nam).2.1, 6, []⟩])) ∧ (RepSl Ψ (Pa.uT [⟨5, [], (Un.amt num nam).1, (Un.amt num nam).2.1, 6, []⟩]).Kids y)) z.1 z.2 ∧ Hp.le Φ1 z.2} => .tuple #[.agg (ndC (Pa.uT [⟨5, [], (Un.amt num nam).1, (Un.amt num nam).2.1, 6, []⟩]) x.1.1).toArray, .int .i64 0, .int .i64 0]) (fun x => St ⟨w, Φ, []⟩ x.1.2 []) rfl (e_callX (fun (y : Value) => .tuple #[.agg (ndC (Pa.uT [⟨5, [], (Un.amt num nam).1, (Un.amt num nam).2.1, 6, []⟩]) y).toArray, .int .i64 0, .int .i64 0]) (fun (y : Value) (Ψ : Hp) => (wfN (Pa.uT [⟨5, [], (Un.amt num nam).1, (Un.amt num nam).2.1, 6, []⟩])) ∧ (RepSl Ψ (Pa.uT [⟨5, [], (Un.amt num nam).1, (Un.amt num nam).2.1, 6, []⟩]).Kids y)) (args := #[.string (bs (Pa.unS num nam))]) own12 rfl rfl (fun w1 hw1 => ((Parse_c w1 _ hw1.phi hG (l := Pa.unS num nam) (by simp only [maxLen, Pa.unS, List.length_append, List.length_cons, List.length_nil]; omega)).mono fun _ _ h => (by rw [hpe] at h; exact h)).mono fun e w2 hr => by obtain ⟨v9, he9, hb9, u1, hr9, q1, q2⟩ := hr; exact ⟨v9, he9, hb9, u1, hr9, q1, q2⟩)) ?_
          rintro ⟨⟨kp2, Φ3⟩, ⟨hwp2, hkp2⟩, hlΦ3⟩
          replace hwp2 : wfN (Pa.uT [⟨5, [], (Un.amt num nam).1, (Un.amt num nam).2.1, 6, []⟩]) := hwp2
          replace hkp2 : RepSl Φ3 (Pa.uT [⟨5, [], (Un.amt num nam).1, (Un.amt num nam).2.1, 6, []⟩]).Kids kp2 := hkp2
          replace hlΦ3 : Hp.le Φ1 Φ3 := hlΦ3
          replace hG := hG.mono hlΦ3
          replace htv1 := htv1.mono hlΦ3
          refine RW.q (v := .tuple #[.agg #[.int .i64 ((Pa.uT [⟨5, [], (Un.amt num nam).1, (Un.amt num nam).2.1, 6, []⟩]).Kind), .string (bs ((Pa.uT [⟨5, [], (Un.amt num nam).1, (Un.amt num nam).2.1, 6, []⟩]).Text)), .int .i64 ((Pa.uT [⟨5, [], (Un.amt num nam).1, (Un.amt num nam).2.1, 6, []⟩]).N), .int .i64 ((Pa.uT [⟨5, [], (Un.amt num nam).1, (Un.amt num nam).2.1, 6, []⟩]).Dim), .int .i64 ((Pa.uT [⟨5, [], (Un.amt num nam).1, (Un.amt num nam).2.1, 6, []⟩]).At), kp2], .int .i64 0, .int .i64 0]) rfl (q_move rfl) ?_
          refine RW.q (v := .agg #[.int .i64 ((Pa.uT [⟨5, [], (Un.amt num nam).1, (Un.amt num nam).2.1, 6, []⟩]).Kind), .string (bs ((Pa.uT [⟨5, [], (Un.amt num nam).1, (Un.amt num nam).2.1, 6, []⟩]).Text)), .int .i64 ((Pa.uT [⟨5, [], (Un.amt num nam).1, (Un.amt num nam).2.1, 6, []⟩]).N), .int .i64 ((Pa.uT [⟨5, [], (Un.amt num nam).1, (Un.amt num nam).2.1, 6, []⟩]).Dim), .int .i64 ((Pa.uT [⟨5, [], (Un.amt num nam).1, (Un.amt num nam).2.1, 6, []⟩]).At), kp2]) rfl (q_extract rfl rfl) ?_
          refine RW.q (v := .int .i64 0) rfl (q_extract rfl rfl) ?_
          refine RW.q (v := .int .i64 0) rfl (q_extract rfl rfl) ?_
          refine RW.eff (fun b3 : Nat => .pointer (some (⟨b3, 0, none⟩))) (fun b3 => St ⟨w, Φ, []⟩ Φ3 [.blk b3 26 [.int .i64 0, .string (bs ([])), .int .i64 0, .int .i64 0, .int .i64 0, (.slice none 0 0)]]) rfl (e_alloc zero26) ?_
          intro b3
          refine RW.effn (J' := St ⟨w, Φ, []⟩ Φ3 [.blk b3 26 [.int .i64 ((Pa.uT [⟨5, [], (Un.amt num nam).1, (Un.amt num nam).2.1, 6, []⟩]).Kind), .string (bs ((Pa.uT [⟨5, [], (Un.amt num nam).1, (Un.amt num nam).2.1, 6, []⟩]).Text)), .int .i64 ((Pa.uT [⟨5, [], (Un.amt num nam).1, (Un.amt num nam).2.1, 6, []⟩]).N), .int .i64 ((Pa.uT [⟨5, [], (Un.amt num nam).1, (Un.amt num nam).2.1, 6, []⟩]).Dim), .int .i64 ((Pa.uT [⟨5, [], (Un.amt num nam).1, (Un.amt num nam).2.1, 6, []⟩]).At), kp2]]) (e_store (v := .agg #[.int .i64 ((Pa.uT [⟨5, [], (Un.amt num nam).1, (Un.amt num nam).2.1, 6, []⟩]).Kind), .string (bs ((Pa.uT [⟨5, [], (Un.amt num nam).1, (Un.amt num nam).2.1, 6, []⟩]).Text)), .int .i64 ((Pa.uT [⟨5, [], (Un.amt num nam).1, (Un.amt num nam).2.1, 6, []⟩]).N), .int .i64 ((Pa.uT [⟨5, [], (Un.amt num nam).1, (Un.amt num nam).2.1, 6, []⟩]).Dim), .int .i64 ((Pa.uT [⟨5, [], (Un.amt num nam).1, (Un.amt num nam).2.1, 6, []⟩]).At), kp2]) 0 rfl rfl rfl sz26 rfl (List.all_eq_true.2 (fun u hu => Rep.one (NdV.rep hwp2 hkp2) u hu)) rfl rfl rfl) ?_
          refine RW.q (v := .int .i64 0) rfl (q_assign rfl) ?_
          refine RW.q (v := .int .i64 0) rfl (q_assign rfl) ?_
          refine RW.nil ?_
          refine Post.then_n ?_
          refine AW.seq ?_
          refine AW.region ?_
          refine RW.q (v := .string (bs num)) rfl (q_move rfl) ?_
          refine RW.q (v := .string (bs nam)) rfl (q_move rfl) ?_
          refine RW.q (v := .tuple #[.agg #[.int .i64 (((Un.amt num nam).1 : Nat) : Int), .int .i64 (((Un.amt num nam).2.1 : Nat) : Int)], .int .i64 (((Un.amt num nam).2.2 : Nat) : Int)]) rfl (q_call (args := #[.string (bs num), .string (bs nam)]) own15 rfl rfl (fun w1 hw1 => Amount_c w1 (Go.K.hp w1) (Hp.le_refl _) (hG.mono hw1.phi) (by omega))) ?_
          refine RW.q (v := .tuple #[.agg #[.int .i64 (((Un.amt num nam).1 : Nat) : Int), .int .i64 (((Un.amt num nam).2.1 : Nat) : Int)], .int .i64 (((Un.amt num nam).2.2 : Nat) : Int)]) rfl (q_move rfl) ?_
          refine RW.q (v := .agg #[.int .i64 (((Un.amt num nam).1 : Nat) : Int), .int .i64 (((Un.amt num nam).2.1 : Nat) : Int)]) rfl (q_extract rfl rfl) ?_
          refine RW.q (v := .int .i64 (((Un.amt num nam).2.2 : Nat) : Int)) rfl (q_extract rfl rfl) ?_
          refine RW.eff (fun b4 : Nat => .pointer (some (⟨b4, 0, none⟩))) (fun b4 => St ⟨w, Φ, []⟩ Φ3 [.blk b4 23 [.int .i64 0, .int .i64 0], .blk b3 26 [.int .i64 ((Pa.uT [⟨5, [], (Un.amt num nam).1, (Un.amt num nam).2.1, 6, []⟩]).Kind), .string (bs ((Pa.uT [⟨5, [], (Un.amt num nam).1, (Un.amt num nam).2.1, 6, []⟩]).Text)), .int .i64 ((Pa.uT [⟨5, [], (Un.amt num nam).1, (Un.amt num nam).2.1, 6, []⟩]).N), .int .i64 ((Pa.uT [⟨5, [], (Un.amt num nam).1, (Un.amt num nam).2.1, 6, []⟩]).Dim), .int .i64 ((Pa.uT [⟨5, [], (Un.amt num nam).1, (Un.amt num nam).2.1, 6, []⟩]).At), kp2]]) rfl (e_alloc zero23) ?_
          intro b4
          refine RW.effn (J' := St ⟨w, Φ, []⟩ Φ3 [.blk b4 23 [.int .i64 (((Un.amt num nam).1 : Nat) : Int), .int .i64 (((Un.amt num nam).2.1 : Nat) : Int)], .blk b3 26 [.int .i64 ((Pa.uT [⟨5, [], (Un.amt num nam).1, (Un.amt num nam).2.1, 6, []⟩]).Kind), .string (bs ((Pa.uT [⟨5, [], (Un.amt num nam).1, (Un.amt num nam).2.1, 6, []⟩]).Text)), .int .i64 ((Pa.uT [⟨5, [], (Un.amt num nam).1, (Un.amt num nam).2.1, 6, []⟩]).N), .int .i64 ((Pa.uT [⟨5, [], (Un.amt num nam).1, (Un.amt num nam).2.1, 6, []⟩]).Dim), .int .i64 ((Pa.uT [⟨5, [], (Un.amt num nam).1, (Un.amt num nam).2.1, 6, []⟩]).At), kp2]]) (e_store (v := .agg #[.int .i64 (((Un.amt num nam).1 : Nat) : Int), .int .i64 (((Un.amt num nam).2.1 : Nat) : Int)]) 0 rfl rfl rfl sz23 rfl rfl rfl rfl rfl) ?_
          refine RW.q (v := .int .i64 (((Un.amt num nam).2.2 : Nat) : Int)) rfl (q_assign rfl) ?_
          refine RW.nil ?_
          refine Post.then_n ?_
          refine AW.seq ?_
          refine AW.region ?_
          refine RW.q (v := .int .i64 1) rfl (q_assign rfl) ?_
          refine RW.nil ?_
          refine Post.then_n ?_
          refine AW.seq ?_
          refine AW.seq ?_
          refine AW.region ?_
          refine RW.q (v := .int .i64 (((Un.amt num nam).2.2 : Nat) : Int)) rfl (q_move rfl) ?_
          refine RW.q (v := .bool false) rfl (q_as (v := .bool (decide ((((Un.amt num nam).2.2 : Nat) : Int) = 6))) (q_eql rfl rfl) (congrArg Value.bool ((by first | exact decide_eq_true (by omega) | exact decide_eq_false (by omega))))) ?_
          refine RW.nil ?_
          refine Post.then_n ?_
          refine AW.cond (b := false) rfl (fun hc6 => ?_) (fun hc6 => ?_)
          · cases hc6
          · skip
            refine AW.skip ?_
            refine Post.then_n ?_
            refine AW.seq ?_
            refine AW.seq ?_
            refine AW.region ?_
            refine RW.q (v := .int .i64 (((Un.amt num nam).2.2 : Nat) : Int)) rfl (q_move rfl) ?_
            refine RW.q (v := .bool false) rfl (q_as (v := .bool (!decide ((((Un.amt num nam).2.2 : Nat) : Int) = 0))) (q_neq rfl rfl) (congrArg Value.bool ((by first | simp; omega | (have h9 := hu1; simp; omega))))) ?_
            refine RW.nil ?_
            refine Post.then_n ?_
            refine AW.cond (b := false) rfl (fun hc7 => ?_) (fun hc7 => ?_)
            · cases hc7
            · skip
              refine AW.skip ?_
              refine Post.then_n ?_
              refine AW.seq ?_
              refine AW.seq ?_
              refine AW.region ?_
              refine RW.q (v := .int .i64 0) rfl (q_move rfl) ?_
              refine RW.q (v := .bool false) rfl (q_neq (a := 0) (b := 0) rfl rfl) ?_
              refine RW.q (v := .bool false) rfl (q_move rfl) ?_
              refine RW.gl (v := .pointer (some (⟨b3, 5, none⟩))) rfl rfl rfl (q_fieldAddr rfl Tryd.underlying26 rfl sz24 rfl) ?_
              refine RW.gl (v := kp2) rfl rfl rfl (q_load rfl Tryd.underlying24 rfl (Cell.blk 1 rfl rfl)) ?_
              refine RW.gl (v := .int .i64 ((((Pa.uT [⟨5, [], (Un.amt num nam).1, (Un.amt num nam).2.1, 6, []⟩]).Kids).length : Nat) : Int)) rfl rfl rfl (q_len_sl rfl hkp2.sl Tryd.underlying24) ?_
              refine RW.gl (v := .bool false) rfl rfl rfl (q_as (v := .bool (!decide (((((Pa.uT [⟨5, [], (Un.amt num nam).1, (Un.amt num nam).2.1, 6, []⟩]).Kids).length : Nat) : Int) = 1))) (q_neq rfl rfl) (congrArg Value.bool ((by first | rfl | (simp [Pa.uT]; done) | (simp [Pa.uT]; omega))))) ?_
              refine RW.q (v := .bool false) rfl (q_pick rfl (fun hp => pkOrT (q := false) (r := false) hp) (fun hp => pkOrF (q := false) (r := false) hp)) ?_
              refine RW.q (v := .bool false) rfl (q_move rfl) ?_
              refine RW.gl (v := .pointer (some (⟨b3, 5, none⟩))) rfl rfl rfl (q_fieldAddr rfl Tryd.underlying26 rfl sz24 rfl) ?_
              refine RW.gl (v := kp2) rfl rfl rfl (q_load rfl Tryd.underlying24 rfl (Cell.blk 1 rfl rfl)) ?_
              refine RW.gl (v := .pointer (some (Value.at kp2 (0 * 6)))) rfl rfl rfl (q_indexAddr rfl rfl hkp2.sl Tryd.underlying24 sz26 (by decide) (by first | omega | (show (_ : Int) < ((1 : Nat) : Int); omega) | (show (_ : Int) < ((2 : Nat) : Int); omega)) rfl) ?_
              refine RW.gl (v := .pointer (some (Value.at kp2 (0 * 6 + 5)))) rfl rfl rfl (q_fieldAddr rfl Tryd.underlying26 rfl sz24 at_add) ?_
              obtain ⟨sv1, hsv1, hpc1⟩ := leaf26_5 hkp2 (k := 0) (by first | exact Nat.zero_lt_succ _ | exact Nat.succ_lt_succ (Nat.zero_lt_succ _))
              refine RW.gl (v := sv1) rfl rfl rfl (q_load rfl Tryd.underlying24 rfl (Cell.phi hpc1)) ?_
              refine RW.gl (v := .int .i64 ((((((Pa.uT [⟨5, [], (Un.amt num nam).1, (Un.amt num nam).2.1, 6, []⟩]).Kids).getD 0 default).Kids).length : Nat) : Int)) rfl rfl rfl (q_len_sl rfl hsv1.sl Tryd.underlying24) ?_
              refine RW.gl (v := .bool false) rfl rfl rfl (q_as (v := .bool (!decide (((((((Pa.uT [⟨5, [], (Un.amt num nam).1, (Un.amt num nam).2.1, 6, []⟩]).Kids).getD 0 default).Kids).length : Nat) : Int) = 1))) (q_neq rfl rfl) (congrArg Value.bool ((by first | rfl | (simp [Pa.uT]; done) | (simp [Pa.uT]; omega))))) ?_
              refine RW.q (v := .bool false) rfl (q_pick rfl (fun hp => pkOrT (q := false) (r := false) hp) (fun hp => pkOrF (q := false) (r := false) hp)) ?_
              refine RW.nil ?_
              refine Post.then_n ?_
              refine AW.cond (b := false) rfl (fun hc8 => ?_) (fun hc8 => ?_)
              · cases hc8
              · skip
                refine AW.skip ?_
                refine Post.then_n ?_
                refine AW.seq ?_
                refine AW.region ?_
                refine RW.q (v := .pointer (some (⟨b3, 5, none⟩))) rfl (q_fieldAddr rfl Tryd.underlying26 rfl sz24 rfl) ?_
                refine RW.q (v := kp2) rfl (q_load rfl Tryd.underlying24 rfl (Cell.blk 1 rfl rfl)) ?_
                refine RW.q (v := .pointer (some (Value.at kp2 (0 * 6)))) rfl (q_indexAddr rfl rfl hkp2.sl Tryd.underlying24 sz26 (by decide) (by first | omega | (show (_ : Int) < ((1 : Nat) : Int); omega) | (show (_ : Int) < ((2 : Nat) : Int); omega)) rfl) ?_
                refine RW.q (v := .pointer (some (Value.at kp2 (0 * 6 + 5)))) rfl (q_fieldAddr rfl Tryd.underlying26 rfl sz24 at_add) ?_
                obtain ⟨sv2, hsv2, hpc2⟩ := leaf26_5 hkp2 (k := 0) (by first | exact Nat.zero_lt_succ _ | exact Nat.succ_lt_succ (Nat.zero_lt_succ _))
                refine RW.q (v := sv2) rfl (q_load rfl Tryd.underlying24 rfl (Cell.phi hpc2)) ?_
                refine RW.q (v := .pointer (some (Value.at sv2 (0 * 6)))) rfl (q_indexAddr rfl rfl hsv2.sl Tryd.underlying24 sz26 (by decide) (by first | omega | (show (_ : Int) < ((1 : Nat) : Int); omega) | (show (_ : Int) < ((2 : Nat) : Int); omega)) rfl) ?_
                obtain ⟨cv1, hcr1, hcc1⟩ := RepSl.whole (k := 0) hsv2 (by first | exact Nat.zero_lt_succ _ | exact Nat.succ_lt_succ (Nat.zero_lt_succ _))
                obtain ⟨sv3, hcE1, hcw1, hsv3⟩ := repN.1 hcr1
                subst hcE1
                refine RW.q (v := .agg #[.int .i64 ((((((Pa.uT [⟨5, [], (Un.amt num nam).1, (Un.amt num nam).2.1, 6, []⟩]).Kids).getD 0 default).Kids).getD 0 default).Kind), .string (bs ((((((Pa.uT [⟨5, [], (Un.amt num nam).1, (Un.amt num nam).2.1, 6, []⟩]).Kids).getD 0 default).Kids).getD 0 default).Text)), .int .i64 ((((((Pa.uT [⟨5, [], (Un.amt num nam).1, (Un.amt num nam).2.1, 6, []⟩]).Kids).getD 0 default).Kids).getD 0 default).N), .int .i64 ((((((Pa.uT [⟨5, [], (Un.amt num nam).1, (Un.amt num nam).2.1, 6, []⟩]).Kids).getD 0 default).Kids).getD 0 default).Dim), .int .i64 ((((((Pa.uT [⟨5, [], (Un.amt num nam).1, (Un.amt num nam).2.1, 6, []⟩]).Kids).getD 0 default).Kids).getD 0 default).At), sv3]) rfl (q_loadAgg rfl Tryd.underlying26 rfl sz26 rfl (Cells.phiK hcc1)) ?_
                refine RW.eff (fun b5 : Nat => .pointer (some (⟨b5, 0, none⟩))) (fun b5 => St ⟨w, Φ, []⟩ Φ3 [.blk b5 26 [.int .i64 0, .string (bs ([])), .int .i64 0, .int .i64 0, .int .i64 0, (.slice none 0 0)], .blk b4 23 [.int .i64 (((Un.amt num nam).1 : Nat) : Int), .int .i64 (((Un.amt num nam).2.1 : Nat) : Int)], .blk b3 26 [.int .i64 ((Pa.uT [⟨5, [], (Un.amt num nam).1, (Un.amt num nam).2.1, 6, []⟩]).Kind), .string (bs ((Pa.uT [⟨5, [], (Un.amt num nam).1, (Un.amt num nam).2.1, 6, []⟩]).Text)), .int .i64 ((Pa.uT [⟨5, [], (Un.amt num nam).1, (Un.amt num nam).2.1, 6, []⟩]).N), .int .i64 ((Pa.uT [⟨5, [], (Un.amt num nam).1, (Un.amt num nam).2.1, 6, []⟩]).Dim), .int .i64 ((Pa.uT [⟨5, [], (Un.amt num nam).1, (Un.amt num nam).2.1, 6, []⟩]).At), kp2]]) rfl (e_alloc zero26) ?_
                intro b5
                refine RW.effn (J' := St ⟨w, Φ, []⟩ Φ3 [.blk b5 26 [.int .i64 ((((((Pa.uT [⟨5, [], (Un.amt num nam).1, (Un.amt num nam).2.1, 6, []⟩]).Kids).getD 0 default).Kids).getD 0 default).Kind), .string (bs ((((((Pa.uT [⟨5, [], (Un.amt num nam).1, (Un.amt num nam).2.1, 6, []⟩]).Kids).getD 0 default).Kids).getD 0 default).Text)), .int .i64 ((((((Pa.uT [⟨5, [], (Un.amt num nam).1, (Un.amt num nam).2.1, 6, []⟩]).Kids).getD 0 default).Kids).getD 0 default).N), .int .i64 ((((((Pa.uT [⟨5, [], (Un.amt num nam).1, (Un.amt num nam).2.1, 6, []⟩]).Kids).getD 0 default).Kids).getD 0 default).Dim), .int .i64 ((((((Pa.uT [⟨5, [], (Un.amt num nam).1, (Un.amt num nam).2.1, 6, []⟩]).Kids).getD 0 default).Kids).getD 0 default).At), sv3], .blk b4 23 [.int .i64 (((Un.amt num nam).1 : Nat) : Int), .int .i64 (((Un.amt num nam).2.1 : Nat) : Int)], .blk b3 26 [.int .i64 ((Pa.uT [⟨5, [], (Un.amt num nam).1, (Un.amt num nam).2.1, 6, []⟩]).Kind), .string (bs ((Pa.uT [⟨5, [], (Un.amt num nam).1, (Un.amt num nam).2.1, 6, []⟩]).Text)), .int .i64 ((Pa.uT [⟨5, [], (Un.amt num nam).1, (Un.amt num nam).2.1, 6, []⟩]).N), .int .i64 ((Pa.uT [⟨5, [], (Un.amt num nam).1, (Un.amt num nam).2.1, 6, []⟩]).Dim), .int .i64 ((Pa.uT [⟨5, [], (Un.amt num nam).1, (Un.amt num nam).2.1, 6, []⟩]).At), kp2]]) (e_store (v := .agg #[.int .i64 ((((((Pa.uT [⟨5, [], (Un.amt num nam).1, (Un.amt num nam).2.1, 6, []⟩]).Kids).getD 0 default).Kids).getD 0 default).Kind), .string (bs ((((((Pa.uT [⟨5, [], (Un.amt num nam).1, (Un.amt num nam).2.1, 6, []⟩]).Kids).getD 0 default).Kids).getD 0 default).Text)), .int .i64 ((((((Pa.uT [⟨5, [], (Un.amt num nam).1, (Un.amt num nam).2.1, 6, []⟩]).Kids).getD 0 default).Kids).getD 0 default).N), .int .i64 ((((((Pa.uT [⟨5, [], (Un.amt num nam).1, (Un.amt num nam).2.1, 6, []⟩]).Kids).getD 0 default).Kids).getD 0 default).Dim), .int .i64 ((((((Pa.uT [⟨5, [], (Un.amt num nam).1, (Un.amt num nam).2.1, 6, []⟩]).Kids).getD 0 default).Kids).getD 0 default).At), sv3]) 0 rfl rfl rfl sz26 rfl (List.all_eq_true.2 (fun u hu => Rep.one (show Rep.rep _ _ _ from hcr1) u hu)) rfl rfl rfl) ?_
                refine RW.nil ?_
                refine Post.then_n ?_
                refine AW.seq ?_
                refine AW.seq ?_
                refine AW.draw (J0 := St ⟨w, Φ, []⟩ Φ3 [.blk b5 26 [.int .i64 ((((((Pa.uT [⟨5, [], (Un.amt num nam).1, (Un.amt num nam).2.1, 6, []⟩]).Kids).getD 0 default).Kids).getD 0 default).Kind), .string (bs ((((((Pa.uT [⟨5, [], (Un.amt num nam).1, (Un.amt num nam).2.1, 6, []⟩]).Kids).getD 0 default).Kids).getD 0 default).Text)), .int .i64 ((((((Pa.uT [⟨5, [], (Un.amt num nam).1, (Un.amt num nam).2.1, 6, []⟩]).Kids).getD 0 default).Kids).getD 0 default).N), .int .i64 ((((((Pa.uT [⟨5, [], (Un.amt num nam).1, (Un.amt num nam).2.1, 6, []⟩]).Kids).getD 0 default).Kids).getD 0 default).Dim), .int .i64 ((((((Pa.uT [⟨5, [], (Un.amt num nam).1, (Un.amt num nam).2.1, 6, []⟩]).Kids).getD 0 default).Kids).getD 0 default).At), sv3], .blk b4 23 [.int .i64 (((Un.amt num nam).1 : Nat) : Int), .int .i64 (((Un.amt num nam).2.1 : Nat) : Int)], .blk b3 26 [.int .i64 ((Pa.uT [⟨5, [], (Un.amt num nam).1, (Un.amt num nam).2.1, 6, []⟩]).Kind), .string (bs ((Pa.uT [⟨5, [], (Un.amt num nam).1, (Un.amt num nam).2.1, 6, []⟩]).Text)), .int .i64 ((Pa.uT [⟨5, [], (Un.amt num nam).1, (Un.amt num nam).2.1, 6, []⟩]).N), .int .i64 ((Pa.uT [⟨5, [], (Un.amt num nam).1, (Un.amt num nam).2.1, 6, []⟩]).Dim), .int .i64 ((Pa.uT [⟨5, [], (Un.amt num nam).1, (Un.amt num nam).2.1, 6, []⟩]).At), kp2]]) [.q, .q, .q, .q, .q, .q, .q, .q, .q, .q, .q, .q, .q, .q, .q, .q, .q, .q, .q, .q, .q, .q] [0, 1, 2, 3, 4, 5, 6, 7, 8, 9, 10, 11, 12, 13, 14, 15, 16, 17, 18, 19, 20, 21] hmix (by kernel_rfl) ?_
                refine DW.q (v := .pointer (some (⟨b5, 5, none⟩))) (fun _ h => h) rfl (q_fieldAddr rfl Tryd.underlying26 rfl sz24 rfl) ?_
                refine DW.q (v := sv3) (fun _ h => h) rfl (q_load rfl Tryd.underlying24 rfl (Cell.blk 0 rfl rfl)) ?_
                refine DW.q (v := .int .i64 ((((((((Pa.uT [⟨5, [], (Un.amt num nam).1, (Un.amt num nam).2.1, 6, []⟩]).Kids).getD 0 default).Kids).getD 0 default).Kids).length : Nat) : Int)) (fun _ h => h) rfl (q_len_sl rfl hsv3.sl Tryd.underlying24) ?_
                refine DW.q (v := .int .i64 1) (fun _ h => h) rfl (q_move rfl) ?_
                refine DW.q (v := .bool false) (fun _ h => h) rfl (q_as (v := .bool (!decide (((((((((Pa.uT [⟨5, [], (Un.amt num nam).1, (Un.amt num nam).2.1, 6, []⟩]).Kids).getD 0 default).Kids).getD 0 default).Kids).length : Nat) : Int) = 1))) (q_neq rfl rfl) (congrArg Value.bool ((by first | rfl | (simp [Pa.uT]; done) | (simp [Pa.uT]; omega))))) ?_
                refine DW.q (v := .bool false) (fun _ h => h) rfl (q_move rfl) ?_
                refine DW.gl (v := .pointer (some (⟨b5, 5, none⟩))) (fun _ h => h) rfl rfl rfl (q_fieldAddr rfl Tryd.underlying26 rfl sz24 rfl) ?_
                refine DW.gl (v := sv3) (fun _ h => h) rfl rfl rfl (q_load rfl Tryd.underlying24 rfl (Cell.blk 0 rfl rfl)) ?_
                refine DW.gl (v := .pointer (some (Value.at sv3 (0 * 6)))) (fun _ h => h) rfl rfl rfl (q_indexAddr rfl rfl hsv3.sl Tryd.underlying24 sz26 (by decide) (by first | omega | (show (_ : Int) < ((1 : Nat) : Int); omega) | (show (_ : Int) < ((2 : Nat) : Int); omega)) rfl) ?_
                refine DW.gl (v := .pointer (some (Value.at sv3 (0 * 6 + 2)))) (fun _ h => h) rfl rfl rfl (q_fieldAddr rfl Tryd.underlying26 rfl sz23 at_add) ?_
                refine DW.gl (v := .agg #[.int .i64 ((((((((Pa.uT [⟨5, [], (Un.amt num nam).1, (Un.amt num nam).2.1, 6, []⟩]).Kids).getD 0 default).Kids).getD 0 default).Kids).getD 0 default).N), .int .i64 ((((((((Pa.uT [⟨5, [], (Un.amt num nam).1, (Un.amt num nam).2.1, 6, []⟩]).Kids).getD 0 default).Kids).getD 0 default).Kids).getD 0 default).Dim)]) (fun _ h => h) rfl rfl rfl (q_loadAgg rfl Tryd.underlying23 rfl sz23 rfl (part26_2 (k := 0) hsv3 (by first | exact Nat.zero_lt_succ _ | exact Nat.succ_lt_succ (Nat.zero_lt_succ _)))) ?_
                refine DW.gl (v := .agg #[.int .i64 (((Un.amt num nam).1 : Nat) : Int), .int .i64 (((Un.amt num nam).2.1 : Nat) : Int)]) (fun _ h => h) rfl rfl rfl (q_loadAgg rfl Tryd.underlying23 rfl sz23 rfl (Cells.blk 1 rfl)) ?_
                refine DW.gl (v := .bool false) (fun _ h => h) rfl rfl rfl (q_as (v := .bool (!(decide ((((((((Pa.uT [⟨5, [], (Un.amt num nam).1, (Un.amt num nam).2.1, 6, []⟩]).Kids).getD 0 default).Kids).getD 0 default).Kids).getD 0 default).N = (((Un.amt num nam).1 : Nat) : Int)) && decide ((((((((Pa.uT [⟨5, [], (Un.amt num nam).1, (Un.amt num nam).2.1, 6, []⟩]).Kids).getD 0 default).Kids).getD 0 default).Kids).getD 0 default).Dim = (((Un.amt num nam).2.1 : Nat) : Int))))) (q_neqS rfl rfl (eqS23 _ _ _ _) eqG23) (congrArg Value.bool ((by first | rfl | (simp [Pa.uT]; done) | (simp [Pa.uT]; omega))))) ?_
                refine DW.q (v := .bool false) (fun _ h => h) rfl (q_pick rfl (fun hp => pkOrT (q := false) (r := false) hp) (fun hp => pkOrF (q := false) (r := false) hp)) ?_
                refine DW.q (v := .bool false) (fun _ h => h) rfl (q_move rfl) ?_
                refine DW.gl (v := .pointer (some (⟨b5, 5, none⟩))) (fun _ h => h) rfl rfl rfl (q_fieldAddr rfl Tryd.underlying26 rfl sz24 rfl) ?_
                refine DW.gl (v := sv3) (fun _ h => h) rfl rfl rfl (q_load rfl Tryd.underlying24 rfl (Cell.blk 0 rfl rfl)) ?_
                refine DW.gl (v := .pointer (some (Value.at sv3 (0 * 6)))) (fun _ h => h) rfl rfl rfl (q_indexAddr rfl rfl hsv3.sl Tryd.underlying24 sz26 (by decide) (by first | omega | (show (_ : Int) < ((1 : Nat) : Int); omega) | (show (_ : Int) < ((2 : Nat) : Int); omega)) rfl) ?_
                refine DW.gl (v := .pointer (some (Value.at sv3 (0 * 6 + 4)))) (fun _ h => h) rfl rfl rfl (q_fieldAddr rfl Tryd.underlying26 rfl sz3 at_add) ?_
                refine DW.gl (v := .int .i64 ((((((((Pa.uT [⟨5, [], (Un.amt num nam).1, (Un.amt num nam).2.1, 6, []⟩]).Kids).getD 0 default).Kids).getD 0 default).Kids).getD 0 default).At)) (fun _ h => h) rfl rfl rfl (q_load rfl Tryd.underlying3 rfl (Cell.repJ (j := 4) hsv3 (by first | exact Nat.zero_lt_succ _ | exact Nat.succ_lt_succ (Nat.zero_lt_succ _)) (fun h => leaf26_4 h))) ?_
                refine DW.gl (v := .bool false) (fun _ h => h) rfl rfl rfl (q_as (v := .bool (!decide ((((((((Pa.uT [⟨5, [], (Un.amt num nam).1, (Un.amt num nam).2.1, 6, []⟩]).Kids).getD 0 default).Kids).getD 0 default).Kids).getD 0 default).At = 6))) (q_neq rfl rfl) (congrArg Value.bool ((by first | rfl | (simp [Pa.uT]; done) | (simp [Pa.uT]; omega))))) ?_
                refine DW.q (v := .bool false) (fun _ h => h) rfl (q_pick rfl (fun hp => pkOrT (q := false) (r := false) hp) (fun hp => pkOrF (q := false) (r := false) hp)) ?_
                refine DW.nil ?_
                refine Post.then_n ?_
                refine AW.cond (b := false) rfl (fun hc9 => ?_) (fun hc9 => ?_)
                · cases hc9
                · skip
                  refine AW.skip ?_
                  refine Post.then_n ?_
                  refine AW.seq ?_
                  refine AW.region ?_
                  refine RW.q (v := .bool true) rfl (q_move rfl) ?_
                  refine RW.q (v := .bool true) rfl (q_move rfl) ?_
                  refine RW.gl (v := .int .i64 1) rfl rfl rfl (q_move rfl) ?_
                  refine RW.gl (v := .bool true) rfl rfl rfl (q_eql (a := 1) (b := 1) rfl rfl) ?_
                  refine RW.gl (v := .bool true) rfl rfl rfl (q_move rfl) ?_
                  refine RW.g (b := true) (v := undef) rfl rfl rfl (fun h => nomatch h) ?_
                  refine RW.g (b := true) (v := undef) rfl rfl rfl (fun h => nomatch h) ?_
                  refine RW.g (b := true) (v := undef) rfl rfl rfl (fun h => nomatch h) ?_
                  refine RW.g (b := true) (v := undef) rfl rfl rfl (fun h => nomatch h) ?_
                  refine RW.g (b := true) (v := undef) rfl rfl rfl (fun h => nomatch h) ?_
                  refine RW.g (b := true) (v := undef) rfl rfl rfl (fun h => nomatch h) ?_
                  refine RW.g (b := true) (v := undef) rfl rfl rfl (fun h => nomatch h) ?_
                  refine RW.gun rfl rfl rfl ?_
                  refine RW.gun rfl rfl rfl ?_
                  refine RW.gun rfl rfl rfl ?_
                  refine RW.gun rfl rfl rfl ?_
                  refine RW.gun rfl rfl rfl ?_
                  refine RW.gun rfl rfl rfl ?_
                  refine RW.gun rfl rfl rfl ?_
                  refine RW.g (b := true) (v := undef) rfl rfl rfl (fun h => nomatch h) ?_
                  refine RW.g (b := true) (v := undef) rfl rfl rfl (fun h => nomatch h) ?_
                  refine RW.gun rfl rfl rfl ?_
                  refine RW.gun rfl rfl rfl ?_
                  refine RW.gun rfl rfl rfl ?_
                  refine RW.gun rfl rfl rfl ?_
                  refine RW.gun rfl rfl rfl ?_
                  refine RW.gun rfl rfl rfl ?_
                  refine RW.gun rfl rfl rfl ?_
                  refine RW.gun rfl rfl rfl ?_
                  refine RW.gun rfl rfl rfl ?_
                  refine RW.g (b := true) (v := undef) rfl rfl rfl (fun h => nomatch h) ?_
                  refine RW.gl (v := .bool true) rfl rfl rfl (q_pick (t := true) rfl (fun _ => rfl) (fun hp => nomatch hp)) ?_
                  refine RW.q (v := .bool true) rfl (q_pick (t := true) rfl (fun _ => rfl) (fun hp => nomatch hp)) ?_
                  refine RW.q (v := .bool true) rfl (q_assign rfl) ?_
                  refine RW.nil ?_
                  refine Post.then_n ?_
                  refine AW.ret ?_
                  exact fin_val (v' := .bool true) rfl rfl rfl (rfl)
        · skip
          refine AW.region ?_
          refine RW.q (v := .string (bs (Pa.unS num nam))) rfl (q_move rfl) ?_
          refine RW.eff (fun x : {z : (Value) × Hp // (fun (y : Value) (Ψ : Hp) => (wfN (default : Bt.Node)) ∧ (RepSl Ψ (default : Bt.Node).Kids y)) z.1 z.2 ∧ Hp.le Φ1 z.2} => .tuple #[.agg (ndC (default : Bt.Node) x.1.1).toArray, .int .i64 7, .int .i64 6]) (fun x => St ⟨w, Φ, []⟩ x.1.2 []) rfl (e_callX (fun (y : Value) => .tuple #[.agg (ndC (default : Bt.Node) y).toArray, .int .i64 7, .int .i64 6]) (fun (y : Value) (Ψ : Hp) => (wfN (default : Bt.Node)) ∧ (RepSl Ψ (default : Bt.Node).Kids y)) (args := #[.string (bs (Pa.unS num nam))]) own12 rfl rfl (fun w1 hw1 => ((Parse_c w1 _ hw1.phi hG (l := Pa.unS num nam) (by simp only [maxLen, Pa.unS, List.length_append, List.length_cons, List.length_nil]; omega)).mono fun _ _ h => (by rw [hpe] at h; exact h)).mono fun e w2 hr => by obtain ⟨v9, he9, hb9, u1, hr9, q1, q2⟩ := hr; exact ⟨v9, he9, hb9, u1, hr9, q1, q2⟩)) ?_
          rintro ⟨⟨kp3, Φ4⟩, ⟨hwp3, hkp3⟩, hlΦ4⟩
          replace hwp3 : wfN (default : Bt.Node) := hwp3
          replace hkp3 : RepSl Φ4 (default : Bt.Node).Kids kp3 := hkp3
          replace hlΦ4 : Hp.le Φ1 Φ4 := hlΦ4
          replace hG := hG.mono hlΦ4
          replace htv1 := htv1.mono hlΦ4
          refine RW.q (v := .tuple #[.agg #[.int .i64 ((default : Bt.Node).Kind), .string (bs ((default : Bt.Node).Text)), .int .i64 ((default : Bt.Node).N), .int .i64 ((default : Bt.Node).Dim), .int .i64 ((default : Bt.Node).At), kp3], .int .i64 7, .int .i64 6]) rfl (q_move rfl) ?_
          refine RW.q (v := .agg #[.int .i64 ((default : Bt.Node).Kind), .string (bs ((default : Bt.Node).Text)), .int .i64 ((default : Bt.Node).N), .int .i64 ((default : Bt.Node).Dim), .int .i64 ((default : Bt.Node).At), kp3]) rfl (q_extract rfl rfl) ?_
          refine RW.q (v := .int .i64 7) rfl (q_extract rfl rfl) ?_
          refine RW.q (v := .int .i64 6) rfl (q_extract rfl rfl) ?_
          refine RW.eff (fun b6 : Nat => .pointer (some (⟨b6, 0, none⟩))) (fun b6 => St ⟨w, Φ, []⟩ Φ4 [.blk b6 26 [.int .i64 0, .string (bs ([])), .int .i64 0, .int .i64 0, .int .i64 0, (.slice none 0 0)]]) rfl (e_alloc zero26) ?_
          intro b6
          refine RW.effn (J' := St ⟨w, Φ, []⟩ Φ4 [.blk b6 26 [.int .i64 ((default : Bt.Node).Kind), .string (bs ((default : Bt.Node).Text)), .int .i64 ((default : Bt.Node).N), .int .i64 ((default : Bt.Node).Dim), .int .i64 ((default : Bt.Node).At), kp3]]) (e_store (v := .agg #[.int .i64 ((default : Bt.Node).Kind), .string (bs ((default : Bt.Node).Text)), .int .i64 ((default : Bt.Node).N), .int .i64 ((default : Bt.Node).Dim), .int .i64 ((default : Bt.Node).At), kp3]) 0 rfl rfl rfl sz26 rfl (List.all_eq_true.2 (fun u hu => Rep.one (NdV.rep hwp3 hkp3) u hu)) rfl rfl rfl) ?_
          refine RW.q (v := .int .i64 7) rfl (q_assign rfl) ?_
          refine RW.q (v := .int .i64 6) rfl (q_assign rfl) ?_
          refine RW.nil ?_
          refine Post.then_n ?_
          refine AW.seq ?_
          refine AW.region ?_
          refine RW.q (v := .string (bs num)) rfl (q_move rfl) ?_
          refine RW.q (v := .string (bs nam)) rfl (q_move rfl) ?_
          refine RW.q (v := .tuple #[.agg #[.int .i64 (((Un.amt num nam).1 : Nat) : Int), .int .i64 (((Un.amt num nam).2.1 : Nat) : Int)], .int .i64 (((Un.amt num nam).2.2 : Nat) : Int)]) rfl (q_call (args := #[.string (bs num), .string (bs nam)]) own15 rfl rfl (fun w1 hw1 => Amount_c w1 (Go.K.hp w1) (Hp.le_refl _) (hG.mono hw1.phi) (by omega))) ?_
          refine RW.q (v := .tuple #[.agg #[.int .i64 (((Un.amt num nam).1 : Nat) : Int), .int .i64 (((Un.amt num nam).2.1 : Nat) : Int)], .int .i64 (((Un.amt num nam).2.2 : Nat) : Int)]) rfl (q_move rfl) ?_
          refine RW.q (v := .agg #[.int .i64 (((Un.amt num nam).1 : Nat) : Int), .int .i64 (((Un.amt num nam).2.1 : Nat) : Int)]) rfl (q_extract rfl rfl) ?_
          refine RW.q (v := .int .i64 (((Un.amt num nam).2.2 : Nat) : Int)) rfl (q_extract rfl rfl) ?_
          refine RW.eff (fun b7 : Nat => .pointer (some (⟨b7, 0, none⟩))) (fun b7 => St ⟨w, Φ, []⟩ Φ4 [.blk b7 23 [.int .i64 0, .int .i64 0], .blk b6 26 [.int .i64 ((default : Bt.Node).Kind), .string (bs ((default : Bt.Node).Text)), .int .i64 ((default : Bt.Node).N), .int .i64 ((default : Bt.Node).Dim), .int .i64 ((default : Bt.Node).At), kp3]]) rfl (e_alloc zero23) ?_
          intro b7
          refine RW.effn (J' := St ⟨w, Φ, []⟩ Φ4 [.blk b7 23 [.int .i64 (((Un.amt num nam).1 : Nat) : Int), .int .i64 (((Un.amt num nam).2.1 : Nat) : Int)], .blk b6 26 [.int .i64 ((default : Bt.Node).Kind), .string (bs ((default : Bt.Node).Text)), .int .i64 ((default : Bt.Node).N), .int .i64 ((default : Bt.Node).Dim), .int .i64 ((default : Bt.Node).At), kp3]]) (e_store (v := .agg #[.int .i64 (((Un.amt num nam).1 : Nat) : Int), .int .i64 (((Un.amt num nam).2.1 : Nat) : Int)]) 0 rfl rfl rfl sz23 rfl rfl rfl rfl rfl) ?_
          refine RW.q (v := .int .i64 (((Un.amt num nam).2.2 : Nat) : Int)) rfl (q_assign rfl) ?_
          refine RW.nil ?_
          refine Post.then_n ?_
          refine AW.seq ?_
          refine AW.region ?_
          refine RW.q (v := .int .i64 1) rfl (q_assign rfl) ?_
          refine RW.nil ?_
          refine Post.then_n ?_
          refine AW.seq ?_
          refine AW.seq ?_
          refine AW.region ?_
          refine RW.q (v := .int .i64 (((Un.amt num nam).2.2 : Nat) : Int)) rfl (q_move rfl) ?_
          refine RW.q (v := .bool true) rfl (q_as (v := .bool (decide ((((Un.amt num nam).2.2 : Nat) : Int) = 6))) (q_eql rfl rfl) (congrArg Value.bool ((by first | exact decide_eq_true (by omega) | exact decide_eq_false (by omega))))) ?_
          refine RW.nil ?_
          refine Post.then_n ?_
          refine AW.cond (b := true) rfl (fun hc10 => ?_) (fun hc10 => ?_)
          · skip
            refine AW.seq ?_
            refine AW.region ?_
            refine RW.q (v := .string (bs num)) rfl (q_move rfl) ?_
            refine RW.q (v := .tuple #[.agg #[.int .i64 (((Un.amt num ([] : List UInt8)).1 : Nat) : Int), .int .i64 (((Un.amt num ([] : List UInt8)).2.1 : Nat) : Int)], .int .i64 (((Un.amt num ([] : List UInt8)).2.2 : Nat) : Int)]) rfl (q_call (args := #[.string (bs num), .string (bs ([] : List UInt8))]) own15 rfl rfl (fun w1 hw1 => Amount_c w1 (Go.K.hp w1) (Hp.le_refl _) (hG.mono hw1.phi) (by omega))) ?_
            refine RW.q (v := .tuple #[.agg #[.int .i64 (((Un.amt num ([] : List UInt8)).1 : Nat) : Int), .int .i64 (((Un.amt num ([] : List UInt8)).2.1 : Nat) : Int)], .int .i64 (((Un.amt num ([] : List UInt8)).2.2 : Nat) : Int)]) rfl (q_move rfl) ?_
            refine RW.q (v := .agg #[.int .i64 (((Un.amt num ([] : List UInt8)).1 : Nat) : Int), .int .i64 (((Un.amt num ([] : List UInt8)).2.1 : Nat) : Int)]) rfl (q_extract rfl rfl) ?_
            refine RW.q (v := .int .i64 (((Un.amt num ([] : List UInt8)).2.2 : Nat) : Int)) rfl (q_extract rfl rfl) ?_
            refine RW.effn (J' := St ⟨w, Φ, []⟩ Φ4 [.blk b7 23 [.int .i64 (((Un.amt num ([] : List UInt8)).1 : Nat) : Int), .int .i64 (((Un.amt num ([] : List UInt8)).2.1 : Nat) : Int)], .blk b6 26 [.int .i64 ((default : Bt.Node).Kind), .string (bs ((default : Bt.Node).Text)), .int .i64 ((default : Bt.Node).N), .int .i64 ((default : Bt.Node).Dim), .int .i64 ((default : Bt.Node).At), kp3]]) (e_store (v := .agg #[.int .i64 (((Un.amt num ([] : List UInt8)).1 : Nat) : Int), .int .i64 (((Un.amt num ([] : List UInt8)).2.1 : Nat) : Int)]) 0 rfl rfl rfl sz23 rfl rfl rfl rfl rfl) ?_
            refine RW.q (v := .int .i64 (((Un.amt num ([] : List UInt8)).2.2 : Nat) : Int)) rfl (q_assign rfl) ?_
            refine RW.nil ?_
            refine Post.then_n ?_
            refine AW.region ?_
            refine RW.q (v := .int .i64 2) rfl (q_assign rfl) ?_
            refine RW.nil ?_
            refine Post.then_n ?_
            refine AW.seq ?_
            refine AW.seq ?_
            refine AW.region ?_
            refine RW.q (v := .int .i64 (((Un.amt num ([] : List UInt8)).2.2 : Nat) : Int)) rfl (q_move rfl) ?_
            refine RW.q (v := .bool true) rfl (q_as (v := .bool (!decide ((((Un.amt num ([] : List UInt8)).2.2 : Nat) : Int) = 0))) (q_neq rfl rfl) (congrArg Value.bool ((by first | simp; omega | (have h9 := hu1; simp; omega))))) ?_
            refine RW.nil ?_
            refine Post.then_n ?_
            refine AW.cond (b := true) rfl (fun hc11 => ?_) (fun hc11 => ?_)
            · skip
              refine AW.seq ?_
              refine AW.region ?_
              refine RW.q (v := .bool true) rfl (q_move rfl) ?_
              refine RW.q (v := .bool true) rfl (q_move rfl) ?_
              refine RW.gl (v := .int .i64 7) rfl rfl rfl (q_move rfl) ?_
              refine RW.gl (v := .bool true) rfl rfl rfl (q_eql (a := 7) (b := 7) rfl rfl) ?_
              refine RW.q (v := .bool true) rfl (q_pick (t := true) rfl (fun _ => rfl) (fun hp => nomatch hp)) ?_
              refine RW.q (v := .bool true) rfl (q_move rfl) ?_
              refine RW.gl (v := .int .i64 6) rfl rfl rfl (q_move rfl) ?_
              refine RW.gl (v := .bool true) rfl rfl rfl (q_eql (a := 6) (b := 6) rfl rfl) ?_
              refine RW.q (v := .bool true) rfl (q_pick (t := true) rfl (fun _ => rfl) (fun hp => nomatch hp)) ?_
              refine RW.q (v := .bool true) rfl (q_assign rfl) ?_
              refine RW.nil ?_
              refine Post.then_n ?_
              refine AW.ret ?_
              refine Post.then_r ?_
              exact fin_val (v' := .bool true) rfl rfl rfl (rfl)
            · cases hc11
          · cases hc10
        · skip
          refine AW.region ?_
          refine RW.q (v := .string (bs (Pa.unS num nam))) rfl (q_move rfl) ?_
          refine RW.eff (fun x : {z : (Value) × Hp // (fun (y : Value) (Ψ : Hp) => (wfN (Pa.uT [⟨5, [], (Un.amt num []).1, (Un.amt num []).2.1, 6, []⟩, ⟨3, nam, 0, 0, 7 + num.length, []⟩])) ∧ (RepSl Ψ (Pa.uT [⟨5, [], (Un.amt num []).1, (Un.amt num []).2.1, 6, []⟩, ⟨3, nam, 0, 0, 7 + num.length, []⟩]).Kids y)) z.1 z.2 ∧ Hp.le Φ1 z.2} => .tuple #[.agg (ndC (Pa.uT [⟨5, [], (Un.amt num []).1, (Un.amt num []).2.1, 6, []⟩, ⟨3, nam, 0, 0, 7 + num.length, []⟩]) x.1.1).toArray, .int .i64 0, .int .i64 0]) (fun x => St ⟨w, Φ, []⟩ x.1.2 []) rfl (e_callX (fun (y : Value) => .tuple #[.agg (ndC (Pa.uT [⟨5, [], (Un.amt num []).1, (Un.amt num []).2.1, 6, []⟩, ⟨3, nam, 0, 0, 7 + num.length, []⟩]) y).toArray, .int .i64 0, .int .i64 0]) (fun (y : Value) (Ψ : Hp) => (wfN (Pa.uT [⟨5, [], (Un.amt num []).1, (Un.amt num []).2.1, 6, []⟩, ⟨3, nam, 0, 0, 7 + num.length, []⟩])) ∧ (RepSl Ψ (Pa.uT [⟨5, [], (Un.amt num []).1, (Un.amt num []).2.1, 6, []⟩, ⟨3, nam, 0, 0, 7 + num.length, []⟩]).Kids y)) (args := #[.string (bs (Pa.unS num nam))]) own12 rfl rfl (fun w1 hw1 => ((Parse_c w1 _ hw1.phi hG (l := Pa.unS num nam) (by simp only [maxLen, Pa.unS, List.length_append, List.length_cons, List.length_nil]; omega)).mono fun _ _ h => (by rw [hpe] at h; exact h)).mono fun e w2 hr => by obtain ⟨v9, he9, hb9, u1, hr9, q1, q2⟩ := hr; exact ⟨v9, he9, hb9, u1, hr9, q1, q2⟩)) ?_
          rintro ⟨⟨kp4, Φ5⟩, ⟨hwp4, hkp4⟩, hlΦ5⟩
          replace hwp4 : wfN (Pa.uT [⟨5, [], (Un.amt num []).1, (Un.amt num []).2.1, 6, []⟩, ⟨3, nam, 0, 0, 7 + num.length, []⟩]) := hwp4
          replace hkp4 : RepSl Φ5 (Pa.uT [⟨5, [], (Un.amt num []).1, (Un.amt num []).2.1, 6, []⟩, ⟨3, nam, 0, 0, 7 + num.length, []⟩]).Kids kp4 := hkp4
          replace hlΦ5 : Hp.le Φ1 Φ5 := hlΦ5
          replace hG := hG.mono hlΦ5
          replace htv1 := htv1.mono hlΦ5
          refine RW.q (v := .tuple #[.agg #[.int .i64 ((Pa.uT [⟨5, [], (Un.amt num []).1, (Un.amt num []).2.1, 6, []⟩, ⟨3, nam, 0, 0, 7 + num.length, []⟩]).Kind), .string (bs ((Pa.uT [⟨5, [], (Un.amt num []).1, (Un.amt num []).2.1, 6, []⟩, ⟨3, nam, 0, 0, 7 + num.length, []⟩]).Text)), .int .i64 ((Pa.uT [⟨5, [], (Un.amt num []).1, (Un.amt num []).2.1, 6, []⟩, ⟨3, nam, 0, 0, 7 + num.length, []⟩]).N), .int .i64 ((Pa.uT [⟨5, [], (Un.amt num []).1, (Un.amt num []).2.1, 6, []⟩, ⟨3, nam, 0, 0, 7 + num.length, []⟩]).Dim), .int .i64 ((Pa.uT [⟨5, [], (Un.amt num []).1, (Un.amt num []).2.1, 6, []⟩, ⟨3, nam, 0, 0, 7 + num.length, []⟩]).At), kp4], .int .i64 0, .int .i64 0]) rfl (q_move rfl) ?_
          refine RW.q (v := .agg #[.int .i64 ((Pa.uT [⟨5, [], (Un.amt num []).1, (Un.amt num []).2.1, 6, []⟩, ⟨3, nam, 0, 0, 7 + num.length, []⟩]).Kind), .string (bs ((Pa.uT [⟨5, [], (Un.amt num []).1, (Un.amt num []).2.1, 6, []⟩, ⟨3, nam, 0, 0, 7 + num.length, []⟩]).Text)), .int .i64 ((Pa.uT [⟨5, [], (Un.amt num []).1, (Un.amt num []).2.1, 6, []⟩, ⟨3, nam, 0, 0, 7 + num.length, []⟩]).N), .int .i64 ((Pa.uT [⟨5, [], (Un.amt num []).1, (Un.amt num []).2.1, 6, []⟩, ⟨3, nam, 0, 0, 7 + num.length, []⟩]).Dim), .int .i64 ((Pa.uT [⟨5, [], (Un.amt num []).1, (Un.amt num []).2.1, 6, []⟩, ⟨3, nam, 0, 0, 7 + num.length, []⟩]).At), kp4]) rfl (q_extract rfl rfl) ?_
          refine RW.q (v := .int .i64 0) rfl (q_extract rfl rfl) ?_
          refine RW.q (v := .int .i64 0) rfl (q_extract rfl rfl) ?_
          refine RW.eff (fun b8 : Nat => .pointer (some (⟨b8, 0, none⟩))) (fun b8 => St ⟨w, Φ, []⟩ Φ5 [.blk b8 26 [.int .i64 0, .string (bs ([])), .int .i64 0, .int .i64 0, .int .i64 0, (.slice none 0 0)]]) rfl (e_alloc zero26) ?_
          intro b8
          refine RW.effn (J' := St ⟨w, Φ, []⟩ Φ5 [.blk b8 26 [.int .i64 ((Pa.uT [⟨5, [], (Un.amt num []).1, (Un.amt num []).2.1, 6, []⟩, ⟨3, nam, 0, 0, 7 + num.length, []⟩]).Kind), .string (bs ((Pa.uT [⟨5, [], (Un.amt num []).1, (Un.amt num []).2.1, 6, []⟩, ⟨3, nam, 0, 0, 7 + num.length, []⟩]).Text)), .int .i64 ((Pa.uT [⟨5, [], (Un.amt num []).1, (Un.amt num []).2.1, 6, []⟩, ⟨3, nam, 0, 0, 7 + num.length, []⟩]).N), .int .i64 ((Pa.uT [⟨5, [], (Un.amt num []).1, (Un.amt num []).2.1, 6, []⟩, ⟨3, nam, 0, 0, 7 + num.length, []⟩]).Dim), .int .i64 ((Pa.uT [⟨5, [], (Un.amt num []).1, (Un.amt num []).2.1, 6, []⟩, ⟨3, nam, 0, 0, 7 + num.length, []⟩]).At), kp4]]) (e_store (v := .agg #[.int .i64 ((Pa.uT [⟨5, [], (Un.amt num []).1, (Un.amt num []).2.1, 6, []⟩, ⟨3, nam, 0, 0, 7 + num.length, []⟩]).Kind), .string (bs ((Pa.uT [⟨5, [], (Un.amt num []).1, (Un.amt num []).2.1, 6, []⟩, ⟨3, nam, 0, 0, 7 + num.length, []⟩]).Text)), .int .i64 ((Pa.uT [⟨5, [], (Un.amt num []).1, (Un.amt num []).2.1, 6, []⟩, ⟨3, nam, 0, 0, 7 + num.length, []⟩]).N), .int .i64 ((Pa.uT [⟨5, [], (Un.amt num []).1, (Un.amt num []).2.1, 6, []⟩, ⟨3, nam, 0, 0, 7 + num.length, []⟩]).Dim), .int .i64 ((Pa.uT [⟨5, [], (Un.amt num []).1, (Un.amt num []).2.1, 6, []⟩, ⟨3, nam, 0, 0, 7 + num.length, []⟩]).At), kp4]) 0 rfl rfl rfl sz26 rfl (List.all_eq_true.2 (fun u hu => Rep.one (NdV.rep hwp4 hkp4) u hu)) rfl rfl rfl) ?_
          refine RW.q (v := .int .i64 0) rfl (q_assign rfl) ?_
          refine RW.q (v := .int .i64 0) rfl (q_assign rfl) ?_
          refine RW.nil ?_
          refine Post.then_n ?_
          refine AW.seq ?_
          refine AW.region ?_
          refine RW.q (v := .string (bs num)) rfl (q_move rfl) ?_
          refine RW.q (v := .string (bs nam)) rfl (q_move rfl) ?_
          refine RW.q (v := .tuple #[.agg #[.int .i64 (((Un.amt num nam).1 : Nat) : Int), .int .i64 (((Un.amt num nam).2.1 : Nat) : Int)], .int .i64 (((Un.amt num nam).2.2 : Nat) : Int)]) rfl (q_call (args := #[.string (bs num), .string (bs nam)]) own15 rfl rfl (fun w1 hw1 => Amount_c w1 (Go.K.hp w1) (Hp.le_refl _) (hG.mono hw1.phi) (by omega))) ?_
          refine RW.q (v := .tuple #[.agg #[.int .i64 (((Un.amt num nam).1 : Nat) : Int), .int .i64 (((Un.amt num nam).2.1 : Nat) : Int)], .int .i64 (((Un.amt num nam).2.2 : Nat) : Int)]) rfl (q_move rfl) ?_
          refine RW.q (v := .agg #[.int .i64 (((Un.amt num nam).1 : Nat) : Int), .int .i64 (((Un.amt num nam).2.1 : Nat) : Int)]) rfl (q_extract rfl rfl) ?_
          refine RW.q (v := .int .i64 (((Un.amt num nam).2.2 : Nat) : Int)) rfl (q_extract rfl rfl) ?_
          refine RW.eff (fun b9 : Nat => .pointer (some (⟨b9, 0, none⟩))) (fun b9 => St ⟨w, Φ, []⟩ Φ5 [.blk b9 23 [.int .i64 0, .int .i64 0], .blk b8 26 [.int .i64 ((Pa.uT [⟨5, [], (Un.amt num []).1, (Un.amt num []).2.1, 6, []⟩, ⟨3, nam, 0, 0, 7 + num.length, []⟩]).Kind), .string (bs ((Pa.uT [⟨5, [], (Un.amt num []).1, (Un.amt num []).2.1, 6, []⟩, ⟨3, nam, 0, 0, 7 + num.length, []⟩]).Text)), .int .i64 ((Pa.uT [⟨5, [], (Un.amt num []).1, (Un.amt num []).2.1, 6, []⟩, ⟨3, nam, 0, 0, 7 + num.length, []⟩]).N), .int .i64 ((Pa.uT [⟨5, [], (Un.amt num []).1, (Un.amt num []).2.1, 6, []⟩, ⟨3, nam, 0, 0, 7 + num.length, []⟩]).Dim), .int .i64 ((Pa.uT [⟨5, [], (Un.amt num []).1, (Un.amt num []).2.1, 6, []⟩, ⟨3, nam, 0, 0, 7 + num.length, []⟩]).At), kp4]]) rfl (e_alloc zero23) ?_
          intro b9
          refine RW.effn (J' := St ⟨w, Φ, []⟩ Φ5 [.blk b9 23 [.int .i64 (((Un.amt num nam).1 : Nat) : Int), .int .i64 (((Un.amt num nam).2.1 : Nat) : Int)], .blk b8 26 [.int .i64 ((Pa.uT [⟨5, [], (Un.amt num []).1, (Un.amt num []).2.1, 6, []⟩, ⟨3, nam, 0, 0, 7 + num.length, []⟩]).Kind), .string (bs ((Pa.uT [⟨5, [], (Un.amt num []).1, (Un.amt num []).2.1, 6, []⟩, ⟨3, nam, 0, 0, 7 + num.length, []⟩]).Text)), .int .i64 ((Pa.uT [⟨5, [], (Un.amt num []).1, (Un.amt num []).2.1, 6, []⟩, ⟨3, nam, 0, 0, 7 + num.length, []⟩]).N), .int .i64 ((Pa.uT [⟨5, [], (Un.amt num []).1, (Un.amt num []).2.1, 6, []⟩, ⟨3, nam, 0, 0, 7 + num.length, []⟩]).Dim), .int .i64 ((Pa.uT [⟨5, [], (Un.amt num []).1, (Un.amt num []).2.1, 6, []⟩, ⟨3, nam, 0, 0, 7 + num.length, []⟩]).At), kp4]]) (e_store (v := .agg #[.int .i64 (((Un.amt num nam).1 : Nat) : Int), .int .i64 (((Un.amt num nam).2.1 : Nat) : Int)]) 0 rfl rfl rfl sz23 rfl rfl rfl rfl rfl) ?_
          refine RW.q (v := .int .i64 (((Un.amt num nam).2.2 : Nat) : Int)) rfl (q_assign rfl) ?_
          refine RW.nil ?_
          refine Post.then_n ?_
          refine AW.seq ?_
          refine AW.region ?_
          refine RW.q (v := .int .i64 1) rfl (q_assign rfl) ?_
          refine RW.nil ?_
          refine Post.then_n ?_
          refine AW.seq ?_
          refine AW.seq ?_
          refine AW.region ?_
          refine RW.q (v := .int .i64 (((Un.amt num nam).2.2 : Nat) : Int)) rfl (q_move rfl) ?_
          refine RW.q (v := .bool true) rfl (q_as (v := .bool (decide ((((Un.amt num nam).2.2 : Nat) : Int) = 6))) (q_eql rfl rfl) (congrArg Value.bool ((by first | exact decide_eq_true (by omega) | exact decide_eq_false (by omega))))) ?_
          refine RW.nil ?_
          refine Post.then_n ?_
          refine AW.cond (b := true) rfl (fun hc12 => ?_) (fun hc12 => ?_)
          · skip
            refine AW.seq ?_
            refine AW.region ?_
            refine RW.q (v := .string (bs num)) rfl (q_move rfl) ?_
            refine RW.q (v := .tuple #[.agg #[.int .i64 (((Un.amt num ([] : List UInt8)).1 : Nat) : Int), .int .i64 (((Un.amt num ([] : List UInt8)).2.1 : Nat) : Int)], .int .i64 (((Un.amt num ([] : List UInt8)).2.2 : Nat) : Int)]) rfl (q_call (args := #[.string (bs num), .string (bs ([] : List UInt8))]) own15 rfl rfl (fun w1 hw1 => Amount_c w1 (Go.K.hp w1) (Hp.le_refl _) (hG.mono hw1.phi) (by omega))) ?_
            refine RW.q (v := .tuple #[.agg #[.int .i64 (((Un.amt num ([] : List UInt8)).1 : Nat) : Int), .int .i64 (((Un.amt num ([] : List UInt8)).2.1 : Nat) : Int)], .int .i64 (((Un.amt num ([] : List UInt8)).2.2 : Nat) : Int)]) rfl (q_move rfl) ?_
            refine RW.q (v := .agg #[.int .i64 (((Un.amt num ([] : List UInt8)).1 : Nat) : Int), .int .i64 (((Un.amt num ([] : List UInt8)).2.1 : Nat) : Int)]) rfl (q_extract rfl rfl) ?_
            refine RW.q (v := .int .i64 (((Un.amt num ([] : List UInt8)).2.2 : Nat) : Int)) rfl (q_extract rfl rfl) ?_
            refine RW.effn (J' := St ⟨w, Φ, []⟩ Φ5 [.blk b9 23 [.int .i64 (((Un.amt num ([] : List UInt8)).1 : Nat) : Int), .int .i64 (((Un.amt num ([] : List UInt8)).2.1 : Nat) : Int)], .blk b8 26 [.int .i64 ((Pa.uT [⟨5, [], (Un.amt num []).1, (Un.amt num []).2.1, 6, []⟩, ⟨3, nam, 0, 0, 7 + num.length, []⟩]).Kind), .string (bs ((Pa.uT [⟨5, [], (Un.amt num []).1, (Un.amt num []).2.1, 6, []⟩, ⟨3, nam, 0, 0, 7 + num.length, []⟩]).Text)), .int .i64 ((Pa.uT [⟨5, [], (Un.amt num []).1, (Un.amt num []).2.1, 6, []⟩, ⟨3, nam, 0, 0, 7 + num.length, []⟩]).N), .int .i64 ((Pa.uT [⟨5, [], (Un.amt num []).1, (Un.amt num []).2.1, 6, []⟩, ⟨3, nam, 0, 0, 7 + num.length, []⟩]).Dim), .int .i64 ((Pa.uT [⟨5, [], (Un.amt num []).1, (Un.amt num []).2.1, 6, []⟩, ⟨3, nam, 0, 0, 7 + num.length, []⟩]).At), kp4]]) (e_store (v := .agg #[.int .i64 (((Un.amt num ([] : List UInt8)).1 : Nat) : Int), .int .i64 (((Un.amt num ([] : List UInt8)).2.1 : Nat) : Int)]) 0 rfl rfl rfl sz23 rfl rfl rfl rfl rfl) ?_
            refine RW.q (v := .int .i64 (((Un.amt num ([] : List UInt8)).2.2 : Nat) : Int)) rfl (q_assign rfl) ?_
            refine RW.nil ?_
            refine Post.then_n ?_
            refine AW.region ?_
            refine RW.q (v := .int .i64 2) rfl (q_assign rfl) ?_
            refine RW.nil ?_
            refine Post.then_n ?_
            refine AW.seq ?_
            refine AW.seq ?_
            refine AW.region ?_
            refine RW.q (v := .int .i64 (((Un.amt num ([] : List UInt8)).2.2 : Nat) : Int)) rfl (q_move rfl) ?_
            refine RW.q (v := .bool false) rfl (q_as (v := .bool (!decide ((((Un.amt num ([] : List UInt8)).2.2 : Nat) : Int) = 0))) (q_neq rfl rfl) (congrArg Value.bool ((by first | simp; omega | (have h9 := hu1; simp; omega))))) ?_
            refine RW.nil ?_
            refine Post.then_n ?_
            refine AW.cond (b := false) rfl (fun hc13 => ?_) (fun hc13 => ?_)
            · cases hc13
            · skip
              refine AW.skip ?_
              refine Post.then_n ?_
              refine AW.seq ?_
              refine AW.seq ?_
              refine AW.region ?_
              refine RW.q (v := .int .i64 0) rfl (q_move rfl) ?_
              refine RW.q (v := .bool false) rfl (q_neq (a := 0) (b := 0) rfl rfl) ?_
              refine RW.q (v := .bool false) rfl (q_move rfl) ?_
              refine RW.gl (v := .pointer (some (⟨b8, 5, none⟩))) rfl rfl rfl (q_fieldAddr rfl Tryd.underlying26 rfl sz24 rfl) ?_
              refine RW.gl (v := kp4) rfl rfl rfl (q_load rfl Tryd.underlying24 rfl (Cell.blk 1 rfl rfl)) ?_
              refine RW.gl (v := .int .i64 ((((Pa.uT [⟨5, [], (Un.amt num []).1, (Un.amt num []).2.1, 6, []⟩, ⟨3, nam, 0, 0, 7 + num.length, []⟩]).Kids).length : Nat) : Int)) rfl rfl rfl (q_len_sl rfl hkp4.sl Tryd.underlying24) ?_
              refine RW.gl (v := .bool false) rfl rfl rfl (q_as (v := .bool (!decide (((((Pa.uT [⟨5, [], (Un.amt num []).1, (Un.amt num []).2.1, 6, []⟩, ⟨3, nam, 0, 0, 7 + num.length, []⟩]).Kids).length : Nat) : Int) = 1))) (q_neq rfl rfl) (congrArg Value.bool ((by first | rfl | (simp [Pa.uT]; done) | (simp [Pa.uT]; omega))))) ?_
              refine RW.q (v := .bool false) rfl (q_pick rfl (fun hp => pkOrT (q := false) (r := false) hp) (fun hp => pkOrF (q := false) (r := false) hp)) ?_
              refine RW.q (v := .bool false) rfl (q_move rfl) ?_
              refine RW.gl (v := .pointer (some (⟨b8, 5, none⟩))) rfl rfl rfl (q_fieldAddr rfl Tryd.underlying26 rfl sz24 rfl) ?_
              refine RW.gl (v := kp4) rfl rfl rfl (q_load rfl Tryd.underlying24 rfl (Cell.blk 1 rfl rfl)) ?_
              refine RW.gl (v := .pointer (some (Value.at kp4 (0 * 6)))) rfl rfl rfl (q_indexAddr rfl rfl hkp4.sl Tryd.underlying24 sz26 (by decide) (by first | omega | (show (_ : Int) < ((1 : Nat) : Int); omega) | (show (_ : Int) < ((2 : Nat) : Int); omega)) rfl) ?_
              refine RW.gl (v := .pointer (some (Value.at kp4 (0 * 6 + 5)))) rfl rfl rfl (q_fieldAddr rfl Tryd.underlying26 rfl sz24 at_add) ?_
              obtain ⟨sv4, hsv4, hpc3⟩ := leaf26_5 hkp4 (k := 0) (by first | exact Nat.zero_lt_succ _ | exact Nat.succ_lt_succ (Nat.zero_lt_succ _))
              refine RW.gl (v := sv4) rfl rfl rfl (q_load rfl Tryd.underlying24 rfl (Cell.phi hpc3)) ?_
              refine RW.gl (v := .int .i64 ((((((Pa.uT [⟨5, [], (Un.amt num []).1, (Un.amt num []).2.1, 6, []⟩, ⟨3, nam, 0, 0, 7 + num.length, []⟩]).Kids).getD 0 default).Kids).length : Nat) : Int)) rfl rfl rfl (q_len_sl rfl hsv4.sl Tryd.underlying24) ?_
              refine RW.gl (v := .bool false) rfl rfl rfl (q_as (v := .bool (!decide (((((((Pa.uT [⟨5, [], (Un.amt num []).1, (Un.amt num []).2.1, 6, []⟩, ⟨3, nam, 0, 0, 7 + num.length, []⟩]).Kids).getD 0 default).Kids).length : Nat) : Int) = 1))) (q_neq rfl rfl) (congrArg Value.bool ((by first | rfl | (simp [Pa.uT]; done) | (simp [Pa.uT]; omega))))) ?_
              refine RW.q (v := .bool false) rfl (q_pick rfl (fun hp => pkOrT (q := false) (r := false) hp) (fun hp => pkOrF (q := false) (r := false) hp)) ?_
              refine RW.nil ?_
              refine Post.then_n ?_
              refine AW.cond (b := false) rfl (fun hc14 => ?_) (fun hc14 => ?_)
              · cases hc14
              · skip
                refine AW.skip ?_
                refine Post.then_n ?_
                refine AW.seq ?_
                refine AW.region ?_
                refine RW.q (v := .pointer (some (⟨b8, 5, none⟩))) rfl (q_fieldAddr rfl Tryd.underlying26 rfl sz24 rfl) ?_
                refine RW.q (v := kp4) rfl (q_load rfl Tryd.underlying24 rfl (Cell.blk 1 rfl rfl)) ?_
                refine RW.q (v := .pointer (some (Value.at kp4 (0 * 6)))) rfl (q_indexAddr rfl rfl hkp4.sl Tryd.underlying24 sz26 (by decide) (by first | omega | (show (_ : Int) < ((1 : Nat) : Int); omega) | (show (_ : Int) < ((2 : Nat) : Int); omega)) rfl) ?_
                refine RW.q (v := .pointer (some (Value.at kp4 (0 * 6 + 5)))) rfl (q_fieldAddr rfl Tryd.underlying26 rfl sz24 at_add) ?_
                obtain ⟨sv5, hsv5, hpc4⟩ := leaf26_5 hkp4 (k := 0) (by first | exact Nat.zero_lt_succ _ | exact Nat.succ_lt_succ (Nat.zero_lt_succ _))
                refine RW.q (v := sv5) rfl (q_load rfl Tryd.underlying24 rfl (Cell.phi hpc4)) ?_
                refine RW.q (v := .pointer (some (Value.at sv5 (0 * 6)))) rfl (q_indexAddr rfl rfl hsv5.sl Tryd.underlying24 sz26 (by decide) (by first | omega | (show (_ : Int) < ((1 : Nat) : Int); omega) | (show (_ : Int) < ((2 : Nat) : Int); omega)) rfl) ?_
                obtain ⟨cv2, hcr2, hcc2⟩ := RepSl.whole (k := 0) hsv5 (by first | exact Nat.zero_lt_succ _ | exact Nat.succ_lt_succ (Nat.zero_lt_succ _))
                obtain ⟨sv6, hcE2, hcw2, hsv6⟩ := repN.1 hcr2
                subst hcE2
                refine RW.q (v := .agg #[.int .i64 ((((((Pa.uT [⟨5, [], (Un.amt num []).1, (Un.amt num []).2.1, 6, []⟩, ⟨3, nam, 0, 0, 7 + num.length, []⟩]).Kids).getD 0 default).Kids).getD 0 default).Kind), .string (bs ((((((Pa.uT [⟨5, [], (Un.amt num []).1, (Un.amt num []).2.1, 6, []⟩, ⟨3, nam, 0, 0, 7 + num.length, []⟩]).Kids).getD 0 default).Kids).getD 0 default).Text)), .int .i64 ((((((Pa.uT [⟨5, [], (Un.amt num []).1, (Un.amt num []).2.1, 6, []⟩, ⟨3, nam, 0, 0, 7 + num.length, []⟩]).Kids).getD 0 default).Kids).getD 0 default).N), .int .i64 ((((((Pa.uT [⟨5, [], (Un.amt num []).1, (Un.amt num []).2.1, 6, []⟩, ⟨3, nam, 0, 0, 7 + num.length, []⟩]).Kids).getD 0 default).Kids).getD 0 default).Dim), .int .i64 ((((((Pa.uT [⟨5, [], (Un.amt num []).1, (Un.amt num []).2.1, 6, []⟩, ⟨3, nam, 0, 0, 7 + num.length, []⟩]).Kids).getD 0 default).Kids).getD 0 default).At), sv6]) rfl (q_loadAgg rfl Tryd.underlying26 rfl sz26 rfl (Cells.phiK hcc2)) ?_
                refine RW.eff (fun b10 : Nat => .pointer (some (⟨b10, 0, none⟩))) (fun b10 => St ⟨w, Φ, []⟩ Φ5 [.blk b10 26 [.int .i64 0, .string (bs ([])), .int .i64 0, .int .i64 0, .int .i64 0, (.slice none 0 0)], .blk b9 23 [.int .i64 (((Un.amt num ([] : List UInt8)).1 : Nat) : Int), .int .i64 (((Un.amt num ([] : List UInt8)).2.1 : Nat) : Int)], .blk b8 26 [.int .i64 ((Pa.uT [⟨5, [], (Un.amt num []).1, (Un.amt num []).2.1, 6, []⟩, ⟨3, nam, 0, 0, 7 + num.length, []⟩]).Kind), .string (bs ((Pa.uT [⟨5, [], (Un.amt num []).1, (Un.amt num []).2.1, 6, []⟩, ⟨3, nam, 0, 0, 7 + num.length, []⟩]).Text)), .int .i64 ((Pa.uT [⟨5, [], (Un.amt num []).1, (Un.amt num []).2.1, 6, []⟩, ⟨3, nam, 0, 0, 7 + num.length, []⟩]).N), .int .i64 ((Pa.uT [⟨5, [], (Un.amt num []).1, (Un.amt num []).2.1, 6, []⟩, ⟨3, nam, 0, 0, 7 + num.length, []⟩]).Dim), .int .i64 ((Pa.uT [⟨5, [], (Un.amt num []).1, (Un.amt num []).2.1, 6, []⟩, ⟨3, nam, 0, 0, 7 + num.length, []⟩]).At), kp4]]) rfl (e_alloc zero26) ?_
                intro b10
                refine RW.effn (J' := St ⟨w, Φ, []⟩ Φ5 [.blk b10 26 [.int .i64 ((((((Pa.uT [⟨5, [], (Un.amt num []).1, (Un.amt num []).2.1, 6, []⟩, ⟨3, nam, 0, 0, 7 + num.length, []⟩]).Kids).getD 0 default).Kids).getD 0 default).Kind), .string (bs ((((((Pa.uT [⟨5, [], (Un.amt num []).1, (Un.amt num []).2.1, 6, []⟩, ⟨3, nam, 0, 0, 7 + num.length, []⟩]).Kids).getD 0 default).Kids).getD 0 default).Text)), .int .i64 ((((((Pa.uT [⟨5, [], (Un.amt num []).1, (Un.amt num []).2.1, 6, []⟩, ⟨3, nam, 0, 0, 7 + num.length, []⟩]).Kids).getD 0 default).Kids).getD 0 default).N), .int .i64 ((((((Pa.uT [⟨5, [], (Un.amt num []).1, (Un.amt num []).2.1, 6, []⟩, ⟨3, nam, 0, 0, 7 + num.length, []⟩]).Kids).getD 0 default).Kids).getD 0 default).Dim), .int .i64 ((((((Pa.uT [⟨5, [], (Un.amt num []).1, (Un.amt num []).2.1, 6, []⟩, ⟨3, nam, 0, 0, 7 + num.length, []⟩]).Kids).getD 0 default).Kids).getD 0 default).At), sv6], .blk b9 23 [.int .i64 (((Un.amt num ([] : List UInt8)).1 : Nat) : Int), .int .i64 (((Un.amt num ([] : List UInt8)).2.1 : Nat) : Int)], .blk b8 26 [.int .i64 ((Pa.uT [⟨5, [], (Un.amt num []).1, (Un.amt num []).2.1, 6, []⟩, ⟨3, nam, 0, 0, 7 + num.length, []⟩]).Kind), .string (bs ((Pa.uT [⟨5, [], (Un.amt num []).1, (Un.amt num []).2.1, 6, []⟩, ⟨3, nam, 0, 0, 7 + num.length, []⟩]).Text)), .int .i64 ((Pa.uT [⟨5, [], (Un.amt num []).1, (Un.amt num []).2.1, 6, []⟩, ⟨3, nam, 0, 0, 7 + num.length, []⟩]).N), .int .i64 ((Pa.uT [⟨5, [], (Un.amt num []).1, (Un.amt num []).2.1, 6, []⟩, ⟨3, nam, 0, 0, 7 + num.length, []⟩]).Dim), .int .i64 ((Pa.uT [⟨5, [], (Un.amt num []).1, (Un.amt num []).2.1, 6, []⟩, ⟨3, nam, 0, 0, 7 + num.length, []⟩]).At), kp4]]) (e_store (v := .agg #[.int .i64 ((((((Pa.uT [⟨5, [], (Un.amt num []).1, (Un.amt num []).2.1, 6, []⟩, ⟨3, nam, 0, 0, 7 + num.length, []⟩]).Kids).getD 0 default).Kids).getD 0 default).Kind), .string (bs ((((((Pa.uT [⟨5, [], (Un.amt num []).1, (Un.amt num []).2.1, 6, []⟩, ⟨3, nam, 0, 0, 7 + num.length, []⟩]).Kids).getD 0 default).Kids).getD 0 default).Text)), .int .i64 ((((((Pa.uT [⟨5, [], (Un.amt num []).1, (Un.amt num []).2.1, 6, []⟩, ⟨3, nam, 0, 0, 7 + num.length, []⟩]).Kids).getD 0 default).Kids).getD 0 default).N), .int .i64 ((((((Pa.uT [⟨5, [], (Un.amt num []).1, (Un.amt num []).2.1, 6, []⟩, ⟨3, nam, 0, 0, 7 + num.length, []⟩]).Kids).getD 0 default).Kids).getD 0 default).Dim), .int .i64 ((((((Pa.uT [⟨5, [], (Un.amt num []).1, (Un.amt num []).2.1, 6, []⟩, ⟨3, nam, 0, 0, 7 + num.length, []⟩]).Kids).getD 0 default).Kids).getD 0 default).At), sv6]) 0 rfl rfl rfl sz26 rfl (List.all_eq_true.2 (fun u hu => Rep.one (show Rep.rep _ _ _ from hcr2) u hu)) rfl rfl rfl) ?_
                refine RW.nil ?_
                refine Post.then_n ?_
                refine AW.seq ?_
                refine AW.seq ?_
                refine AW.draw (J0 := St ⟨w, Φ, []⟩ Φ5 [.blk b10 26 [.int .i64 ((((((Pa.uT [⟨5, [], (Un.amt num []).1, (Un.amt num []).2.1, 6, []⟩, ⟨3, nam, 0, 0, 7 + num.length, []⟩]).Kids).getD 0 default).Kids).getD 0 default).Kind), .string (bs ((((((Pa.uT [⟨5, [], (Un.amt num []).1, (Un.amt num []).2.1, 6, []⟩, ⟨3, nam, 0, 0, 7 + num.length, []⟩]).Kids).getD 0 default).Kids).getD 0 default).Text)), .int .i64 ((((((Pa.uT [⟨5, [], (Un.amt num []).1, (Un.amt num []).2.1, 6, []⟩, ⟨3, nam, 0, 0, 7 + num.length, []⟩]).Kids).getD 0 default).Kids).getD 0 default).N), .int .i64 ((((((Pa.uT [⟨5, [], (Un.amt num []).1, (Un.amt num []).2.1, 6, []⟩, ⟨3, nam, 0, 0, 7 + num.length, []⟩]).Kids).getD 0 default).Kids).getD 0 default).Dim), .int .i64 ((((((Pa.uT [⟨5, [], (Un.amt num []).1, (Un.amt num []).2.1, 6, []⟩, ⟨3, nam, 0, 0, 7 + num.length, []⟩]).Kids).getD 0 default).Kids).getD 0 default).At), sv6], .blk b9 23 [.int .i64 (((Un.amt num ([] : List UInt8)).1 : Nat) : Int), .int .i64 (((Un.amt num ([] : List UInt8)).2.1 : Nat) : Int)], .blk b8 26 [.int .i64 ((Pa.uT [⟨5, [], (Un.amt num []).1, (Un.amt num []).2.1, 6, []⟩, ⟨3, nam, 0, 0, 7 + num.length, []⟩]).Kind), .string (bs ((Pa.uT [⟨5, [], (Un.amt num []).1, (Un.amt num []).2.1, 6, []⟩, ⟨3, nam, 0, 0, 7 + num.length, []⟩]).Text)), .int .i64 ((Pa.uT [⟨5, [], (Un.amt num []).1, (Un.amt num []).2.1, 6, []⟩, ⟨3, nam, 0, 0, 7 + num.length, []⟩]).N), .int .i64 ((Pa.uT [⟨5, [], (Un.amt num []).1, (Un.amt num []).2.1, 6, []⟩, ⟨3, nam, 0, 0, 7 + num.length, []⟩]).Dim), .int .i64 ((Pa.uT [⟨5, [], (Un.amt num []).1, (Un.amt num []).2.1, 6, []⟩, ⟨3, nam, 0, 0, 7 + num.length, []⟩]).At), kp4]]) [.q, .q, .q, .q, .q, .q, .q, .q, .q, .q, .q, .q, .q, .q, .q, .q, .q, .q, .q, .q, .q, .q] [0, 1, 2, 3, 4, 5, 6, 7, 8, 9, 10, 11, 12, 13, 14, 15, 16, 17, 18, 19, 20, 21] hmix (by kernel_rfl) ?_
                refine DW.q (v := .pointer (some (⟨b10, 5, none⟩))) (fun _ h => h) rfl (q_fieldAddr rfl Tryd.underlying26 rfl sz24 rfl) ?_
                refine DW.q (v := sv6) (fun _ h => h) rfl (q_load rfl Tryd.underlying24 rfl (Cell.blk 0 rfl rfl)) ?_
                refine DW.q (v := .int .i64 ((((((((Pa.uT [⟨5, [], (Un.amt num []).1, (Un.amt num []).2.1, 6, []⟩, ⟨3, nam, 0, 0, 7 + num.length, []⟩]).Kids).getD 0 default).Kids).getD 0 default).Kids).length : Nat) : Int)) (fun _ h => h) rfl (q_len_sl rfl hsv6.sl Tryd.underlying24) ?_
                refine DW.q (v := .int .i64 2) (fun _ h => h) rfl (q_move rfl) ?_
                refine DW.q (v := .bool false) (fun _ h => h) rfl (q_as (v := .bool (!decide (((((((((Pa.uT [⟨5, [], (Un.amt num []).1, (Un.amt num []).2.1, 6, []⟩, ⟨3, nam, 0, 0, 7 + num.length, []⟩]).Kids).getD 0 default).Kids).getD 0 default).Kids).length : Nat) : Int) = 2))) (q_neq rfl rfl) (congrArg Value.bool ((by first | rfl | (simp [Pa.uT]; done) | (simp [Pa.uT]; omega))))) ?_
                refine DW.q (v := .bool false) (fun _ h => h) rfl (q_move rfl) ?_
                refine DW.gl (v := .pointer (some (⟨b10, 5, none⟩))) (fun _ h => h) rfl rfl rfl (q_fieldAddr rfl Tryd.underlying26 rfl sz24 rfl) ?_
                refine DW.gl (v := sv6) (fun _ h => h) rfl rfl rfl (q_load rfl Tryd.underlying24 rfl (Cell.blk 0 rfl rfl)) ?_
                refine DW.gl (v := .pointer (some (Value.at sv6 (0 * 6)))) (fun _ h => h) rfl rfl rfl (q_indexAddr rfl rfl hsv6.sl Tryd.underlying24 sz26 (by decide) (by first | omega | (show (_ : Int) < ((1 : Nat) : Int); omega) | (show (_ : Int) < ((2 : Nat) : Int); omega)) rfl) ?_
                refine DW.gl (v := .pointer (some (Value.at sv6 (0 * 6 + 2)))) (fun _ h => h) rfl rfl rfl (q_fieldAddr rfl Tryd.underlying26 rfl sz23 at_add) ?_
                refine DW.gl (v := .agg #[.int .i64 ((((((((Pa.uT [⟨5, [], (Un.amt num []).1, (Un.amt num []).2.1, 6, []⟩, ⟨3, nam, 0, 0, 7 + num.length, []⟩]).Kids).getD 0 default).Kids).getD 0 default).Kids).getD 0 default).N), .int .i64 ((((((((Pa.uT [⟨5, [], (Un.amt num []).1, (Un.amt num []).2.1, 6, []⟩, ⟨3, nam, 0, 0, 7 + num.length, []⟩]).Kids).getD 0 default).Kids).getD 0 default).Kids).getD 0 default).Dim)]) (fun _ h => h) rfl rfl rfl (q_loadAgg rfl Tryd.underlying23 rfl sz23 rfl (part26_2 (k := 0) hsv6 (by first | exact Nat.zero_lt_succ _ | exact Nat.succ_lt_succ (Nat.zero_lt_succ _)))) ?_
                refine DW.gl (v := .agg #[.int .i64 (((Un.amt num ([] : List UInt8)).1 : Nat) : Int), .int .i64 (((Un.amt num ([] : List UInt8)).2.1 : Nat) : Int)]) (fun _ h => h) rfl rfl rfl (q_loadAgg rfl Tryd.underlying23 rfl sz23 rfl (Cells.blk 1 rfl)) ?_
                refine DW.gl (v := .bool false) (fun _ h => h) rfl rfl rfl (q_as (v := .bool (!(decide ((((((((Pa.uT [⟨5, [], (Un.amt num []).1, (Un.amt num []).2.1, 6, []⟩, ⟨3, nam, 0, 0, 7 + num.length, []⟩]).Kids).getD 0 default).Kids).getD 0 default).Kids).getD 0 default).N = (((Un.amt num ([] : List UInt8)).1 : Nat) : Int)) && decide ((((((((Pa.uT [⟨5, [], (Un.amt num []).1, (Un.amt num []).2.1, 6, []⟩, ⟨3, nam, 0, 0, 7 + num.length, []⟩]).Kids).getD 0 default).Kids).getD 0 default).Kids).getD 0 default).Dim = (((Un.amt num ([] : List UInt8)).2.1 : Nat) : Int))))) (q_neqS rfl rfl (eqS23 _ _ _ _) eqG23) (congrArg Value.bool ((by first | rfl | (simp [Pa.uT]; done) | (simp [Pa.uT]; omega))))) ?_
                refine DW.q (v := .bool false) (fun _ h => h) rfl (q_pick rfl (fun hp => pkOrT (q := false) (r := false) hp) (fun hp => pkOrF (q := false) (r := false) hp)) ?_
                refine DW.q (v := .bool false) (fun _ h => h) rfl (q_move rfl) ?_
                refine DW.gl (v := .pointer (some (⟨b10, 5, none⟩))) (fun _ h => h) rfl rfl rfl (q_fieldAddr rfl Tryd.underlying26 rfl sz24 rfl) ?_
                refine DW.gl (v := sv6) (fun _ h => h) rfl rfl rfl (q_load rfl Tryd.underlying24 rfl (Cell.blk 0 rfl rfl)) ?_
                refine DW.gl (v := .pointer (some (Value.at sv6 (0 * 6)))) (fun _ h => h) rfl rfl rfl (q_indexAddr rfl rfl hsv6.sl Tryd.underlying24 sz26 (by decide) (by first | omega | (show (_ : Int) < ((1 : Nat) : Int); omega) | (show (_ : Int) < ((2 : Nat) : Int); omega)) rfl) ?_
                refine DW.gl (v := .pointer (some (Value.at sv6 (0 * 6 + 4)))) (fun _ h => h) rfl rfl rfl (q_fieldAddr rfl Tryd.underlying26 rfl sz3 at_add) ?_
                refine DW.gl (v := .int .i64 ((((((((Pa.uT [⟨5, [], (Un.amt num []).1, (Un.amt num []).2.1, 6, []⟩, ⟨3, nam, 0, 0, 7 + num.length, []⟩]).Kids).getD 0 default).Kids).getD 0 default).Kids).getD 0 default).At)) (fun _ h => h) rfl rfl rfl (q_load rfl Tryd.underlying3 rfl (Cell.repJ (j := 4) hsv6 (by first | exact Nat.zero_lt_succ _ | exact Nat.succ_lt_succ (Nat.zero_lt_succ _)) (fun h => leaf26_4 h))) ?_
                refine DW.gl (v := .bool false) (fun _ h => h) rfl rfl rfl (q_as (v := .bool (!decide ((((((((Pa.uT [⟨5, [], (Un.amt num []).1, (Un.amt num []).2.1, 6, []⟩, ⟨3, nam, 0, 0, 7 + num.length, []⟩]).Kids).getD 0 default).Kids).getD 0 default).Kids).getD 0 default).At = 6))) (q_neq rfl rfl) (congrArg Value.bool ((by first | rfl | (simp [Pa.uT]; done) | (simp [Pa.uT]; omega))))) ?_
                refine DW.q (v := .bool false) (fun _ h => h) rfl (q_pick rfl (fun hp => pkOrT (q := false) (r := false) hp) (fun hp => pkOrF (q := false) (r := false) hp)) ?_
                refine DW.nil ?_
                refine Post.then_n ?_
                refine AW.cond (b := false) rfl (fun hc15 => ?_) (fun hc15 => ?_)
                · cases hc15
                · skip
                  refine AW.skip ?_
                  refine Post.then_n ?_
                  refine AW.seq ?_
                  refine AW.region ?_
                  refine RW.q (v := .bool true) rfl (q_move rfl) ?_
                  refine RW.q (v := .bool true) rfl (q_move rfl) ?_
                  refine RW.gl (v := .int .i64 2) rfl rfl rfl (q_move rfl) ?_
                  refine RW.gl (v := .bool false) rfl rfl rfl (q_eql (a := 2) (b := 1) rfl rfl) ?_
                  refine RW.gl (v := .bool false) rfl rfl rfl (q_move rfl) ?_
                  refine RW.gl (v := .pointer (some (⟨b10, 5, none⟩))) rfl rfl rfl (q_fieldAddr rfl Tryd.underlying26 rfl sz24 rfl) ?_
                  refine RW.gl (v := sv6) rfl rfl rfl (q_load rfl Tryd.underlying24 rfl (Cell.blk 0 rfl rfl)) ?_
                  refine RW.gl (v := .pointer (some (Value.at sv6 (1 * 6)))) rfl rfl rfl (q_indexAddr rfl rfl hsv6.sl Tryd.underlying24 sz26 (by decide) (by first | omega | (show (_ : Int) < ((1 : Nat) : Int); omega) | (show (_ : Int) < ((2 : Nat) : Int); omega)) rfl) ?_
                  refine RW.gl (v := .pointer (some (Value.at sv6 (1 * 6 + 0)))) rfl rfl rfl (q_fieldAddr rfl Tryd.underlying26 rfl sz3 at_add) ?_
                  refine RW.gl (v := .int .i64 ((((((((Pa.uT [⟨5, [], (Un.amt num []).1, (Un.amt num []).2.1, 6, []⟩, ⟨3, nam, 0, 0, 7 + num.length, []⟩]).Kids).getD 0 default).Kids).getD 0 default).Kids).getD 1 default).Kind)) rfl rfl rfl (q_load rfl Tryd.underlying3 rfl (Cell.repJ (j := 0) hsv6 (by first | exact Nat.zero_lt_succ _ | exact Nat.succ_lt_succ (Nat.zero_lt_succ _)) (fun h => leaf26_0 h))) ?_
                  refine RW.gl (v := .bool true) rfl rfl rfl (q_as (v := .bool (decide ((((((((Pa.uT [⟨5, [], (Un.amt num []).1, (Un.amt num []).2.1, 6, []⟩, ⟨3, nam, 0, 0, 7 + num.length, []⟩]).Kids).getD 0 default).Kids).getD 0 default).Kids).getD 1 default).Kind = 3))) (q_eql rfl rfl) (congrArg Value.bool ((by first | rfl | (simp [Pa.uT]; done) | (simp [Pa.uT]; omega))))) ?_
                  refine RW.gl (v := .bool true) rfl rfl rfl (q_move rfl) ?_
                  refine RW.gl (v := .pointer (some (⟨b10, 5, none⟩))) rfl rfl rfl (q_fieldAddr rfl Tryd.underlying26 rfl sz24 rfl) ?_
                  refine RW.gl (v := sv6) rfl rfl rfl (q_load rfl Tryd.underlying24 rfl (Cell.blk 0 rfl rfl)) ?_
                  refine RW.gl (v := .pointer (some (Value.at sv6 (1 * 6)))) rfl rfl rfl (q_indexAddr rfl rfl hsv6.sl Tryd.underlying24 sz26 (by decide) (by first | omega | (show (_ : Int) < ((1 : Nat) : Int); omega) | (show (_ : Int) < ((2 : Nat) : Int); omega)) rfl) ?_
                  refine RW.gl (v := .pointer (some (Value.at sv6 (1 * 6 + 1)))) rfl rfl rfl (q_fieldAddr rfl Tryd.underlying26 rfl sz9 at_add) ?_
                  refine RW.gl (v := .string (bs ((((((((Pa.uT [⟨5, [], (Un.amt num []).1, (Un.amt num []).2.1, 6, []⟩, ⟨3, nam, 0, 0, 7 + num.length, []⟩]).Kids).getD 0 default).Kids).getD 0 default).Kids).getD 1 default).Text))) rfl rfl rfl (q_load rfl Tryd.underlying9 rfl (Cell.repJ (j := 1) hsv6 (by first | exact Nat.zero_lt_succ _ | exact Nat.succ_lt_succ (Nat.zero_lt_succ _)) (fun h => leaf26_1 h))) ?_
                  refine RW.gl (v := .string (bs nam)) rfl rfl rfl (q_move rfl) ?_
                  refine RW.gl (v := .bool true) rfl rfl rfl (q_as (v := .bool (decide ((((((((Pa.uT [⟨5, [], (Un.amt num []).1, (Un.amt num []).2.1, 6, []⟩, ⟨3, nam, 0, 0, 7 + num.length, []⟩]).Kids).getD 0 default).Kids).getD 0 default).Kids).getD 1 default).Text = nam))) (q_eqlStr (l := (((((((Pa.uT [⟨5, [], (Un.amt num []).1, (Un.amt num []).2.1, 6, []⟩, ⟨3, nam, 0, 0, 7 + num.length, []⟩]).Kids).getD 0 default).Kids).getD 0 default).Kids).getD 1 default).Text) (r := nam) rfl rfl) (congrArg Value.bool ((by first | rfl | (simp [Pa.uT]; done) | (simp [Pa.uT]; omega))))) ?_
                  refine RW.gl (v := .bool true) rfl rfl rfl (q_pick (t := true) rfl (fun _ => rfl) (fun hp => nomatch hp)) ?_
                  refine RW.gl (v := .bool true) rfl rfl rfl (q_move rfl) ?_
                  refine RW.gl (v := .pointer (some (⟨b10, 5, none⟩))) rfl rfl rfl (q_fieldAddr rfl Tryd.underlying26 rfl sz24 rfl) ?_
                  refine RW.gl (v := sv6) rfl rfl rfl (q_load rfl Tryd.underlying24 rfl (Cell.blk 0 rfl rfl)) ?_
                  refine RW.gl (v := .pointer (some (Value.at sv6 (1 * 6)))) rfl rfl rfl (q_indexAddr rfl rfl hsv6.sl Tryd.underlying24 sz26 (by decide) (by first | omega | (show (_ : Int) < ((1 : Nat) : Int); omega) | (show (_ : Int) < ((2 : Nat) : Int); omega)) rfl) ?_
                  refine RW.gl (v := .pointer (some (Value.at sv6 (1 * 6 + 4)))) rfl rfl rfl (q_fieldAddr rfl Tryd.underlying26 rfl sz3 at_add) ?_
                  refine RW.gl (v := .int .i64 ((((((((Pa.uT [⟨5, [], (Un.amt num []).1, (Un.amt num []).2.1, 6, []⟩, ⟨3, nam, 0, 0, 7 + num.length, []⟩]).Kids).getD 0 default).Kids).getD 0 default).Kids).getD 1 default).At)) rfl rfl rfl (q_load rfl Tryd.underlying3 rfl (Cell.repJ (j := 4) hsv6 (by first | exact Nat.zero_lt_succ _ | exact Nat.succ_lt_succ (Nat.zero_lt_succ _)) (fun h => leaf26_4 h))) ?_
                  refine RW.gl (v := .string (bs num)) rfl rfl rfl (q_move rfl) ?_
                  refine RW.gl (v := .int .i64 ((num.length : Nat) : Int)) rfl rfl rfl (q_lenS (l := num) rfl Tryd.underlying9) ?_
                  refine RW.gl (v := .int .i64 ((7 + num.length : Nat) : Int)) rfl rfl rfl (q_add rfl rfl (by omega) (by unfold I64; omega)) ?_
                  refine RW.gl (v := .bool true) rfl rfl rfl (q_as (v := .bool (decide ((((((((Pa.uT [⟨5, [], (Un.amt num []).1, (Un.amt num []).2.1, 6, []⟩, ⟨3, nam, 0, 0, 7 + num.length, []⟩]).Kids).getD 0 default).Kids).getD 0 default).Kids).getD 1 default).At = ((7 + num.length : Nat) : Int)))) (q_eql rfl rfl) (congrArg Value.bool ((by first | rfl | (simp [Pa.uT]; done) | (simp [Pa.uT]; omega))))) ?_
                  refine RW.gl (v := .bool true) rfl rfl rfl (q_pick (t := true) rfl (fun _ => rfl) (fun hp => nomatch hp)) ?_
                  refine RW.gl (v := .bool true) rfl rfl rfl (q_pick rfl (fun hp => pkOrT (q := false) (r := true) hp) (fun hp => pkOrF (q := false) (r := true) hp)) ?_
                  refine RW.q (v := .bool true) rfl (q_pick (t := true) rfl (fun _ => rfl) (fun hp => nomatch hp)) ?_
                  refine RW.q (v := .bool true) rfl (q_assign rfl) ?_
                  refine RW.nil ?_
                  refine Post.then_n ?_
                  refine AW.ret ?_
                  exact fin_val (v' := .bool true) rfl rfl rfl (rfl)
          · cases hc12

end Go.Proofs.YtjcahklnkakklaaDoor
