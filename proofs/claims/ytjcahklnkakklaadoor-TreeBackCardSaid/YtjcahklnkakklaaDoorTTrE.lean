/- Walks (part TrE), printed by walk2.py. Conditions: those of each theorem. -/
import Derived.Test.YtjcahklnkakklaaDoorTTrD
namespace Go.Proofs.YtjcahklnkakklaaDoor
open Go Go.K Go.RowKit

theorem leaf26_0 {Φ : Hp} {x : Bt.Node} {cs : List Value} (h : Rep.rep Φ x cs) : cs[0]? = some (.int .i64 x.Kind) := by
  obtain ⟨v, rfl, _⟩ := repN.1 h; rfl

set_option maxRecDepth 8000 in
set_option maxHeartbeats 1000000 in
theorem treeWrite_c (w : World) (Φ : Hp) (hΦ : Hp.le Φ (hp w)) (hG : Knows Φ Glob) {x : Bt.Node} {kv : Value} (hk : RepSl Φ x.Kids kv) (hwx : wfN x) (hsz : (Pa.write x).length ≤ 1099511627776) :
    Calls Tryd.prog 10 #[.agg (ndC x kv).toArray] w fun e w' => e = .returned (.string (bs (Pa.write x))) ∧ Bel w.heap.size w w' := by
  refine calls_of_AW (args := [.agg #[.int .i64 x.Kind, .string (bs x.Text), .int .i64 x.N, .int .i64 x.Dim, .int .i64 x.At, kv]]) Tryd.func10 rfl (Nat.le_of_ble_eq_true rfl) (St ⟨w, Φ, []⟩ Φ []) (StP.init w Φ hΦ []) ?_
  show AW Tryd.prog 79 [] _ _ _ [(0, .agg #[.int .i64 x.Kind, .string (bs x.Text), .int .i64 x.N, .int .i64 x.Dim, .int .i64 x.At, kv])] _
  have hkm : x.Kids.length * 72 ≤ 140737488355328 := hk.max
  have htl : x.Text.length ≤ maxLen := hwx.2.1
  have hlow : ∀ b o, Φ b = some o → b < w.heap.size := fun b o h9 => lt_of_some (hΦ b o h9)
  refine AW.seq ?_
  refine AW.region ?_
  refine RW.eff (fun b1 : Nat => .pointer (some (⟨b1, 0, none⟩))) (fun b1 => St ⟨w, Φ, []⟩ Φ [.blk b1 26 [.int .i64 x.Kind, .string (bs x.Text), .int .i64 x.N, .int .i64 x.Dim, .int .i64 x.At, kv]]) rfl (e_boxA (cs := [.int .i64 x.Kind, .string (bs x.Text), .int .i64 x.N, .int .i64 x.Dim, .int .i64 x.At, kv]) rfl) ?_
  intro b1
  refine RW.q (v := .string (bs ([] : List UInt8))) rfl (q_assign rfl) ?_
  refine RW.nil ?_
  refine Post.then_n ?_
  refine AW.seq ?_
  refine AW.seq ?_
  refine AW.region ?_
  refine RW.q (v := .agg #[.int .i64 x.Kind, .string (bs x.Text), .int .i64 x.N, .int .i64 x.Dim, .int .i64 x.At, kv]) rfl (q_loadAgg rfl Tryd.underlying26 rfl sz26 rfl (Cells.blk 0 rfl)) ?_
  refine RW.q (v := .bool (Pa.right x)) rfl (q_call (args := #[.agg #[.int .i64 x.Kind, .string (bs x.Text), .int .i64 x.N, .int .i64 x.Dim, .int .i64 x.At, kv]]) own11 rfl rfl (fun w1 hw1 => Right_c w1 (Go.K.hp w1) (Hp.le_refl _) (hG.mono hw1.phi) (hk.mono hw1.phi) hwx)) ?_
  refine RW.q (v := .bool (!(Pa.right x))) rfl (q_not rfl) ?_
  refine RW.nil ?_
  refine Post.then_n ?_
  refine AW.cond (b := !(Pa.right x)) rfl (fun hc1 => ?_) (fun hc1 => ?_)
  · simp [-List.getD_eq_getElem?_getD] at hc1
    refine AW.seq ?_
    refine AW.region ?_
    refine RW.q (v := .string (bs ([] : List UInt8))) rfl (q_assign rfl) ?_
    refine RW.nil ?_
    refine Post.then_n ?_
    refine AW.ret ?_
    refine Post.then_r ?_
    exact fin_val (v' := .string (bs ([] : List UInt8))) rfl rfl rfl (congrArg (fun z => Value.string (bs z)) (by unfold Pa.write; rw [if_neg (by simpa using hc1)]))
  · simp [-List.getD_eq_getElem?_getD] at hc1
    refine AW.skip ?_
    refine Post.then_n ?_
    refine AW.seq ?_
    have hwr : Pa.write x = x.Kids.flatMap Pa.wrDecl := by unfold Pa.write; rw [if_pos hc1]
    rw [hwr] at hsz
    refine AW.region ?_
    refine RW.eff (fun b2 : Nat => .pointer (some (⟨b2, 0, none⟩))) (fun b2 => St ⟨w, Φ, []⟩ Φ [.blk b2 50 [(.pointer none), (.slice none 0 0)], .blk b1 26 [.int .i64 x.Kind, .string (bs x.Text), .int .i64 x.N, .int .i64 x.Dim, .int .i64 x.At, kv]]) rfl (e_alloc zero50) ?_
    intro b2
    refine RW.nil ?_
    refine Post.then_n ?_
    refine AW.seq ?_
    refine AW.seq ?_
    refine AW.region ?_
    refine RW.q (v := .pointer (some (⟨b1, 5, none⟩))) rfl (q_fieldAddr rfl Tryd.underlying26 rfl sz24 rfl) ?_
    refine RW.q (v := kv) rfl (q_load rfl Tryd.underlying24 rfl (Cell.blk 1 rfl rfl)) ?_
    refine RW.q (v := .int .i64 ((x.Kids.length : Nat) : Int)) rfl (q_len_sl rfl hk.sl Tryd.underlying24) ?_
    refine RW.q (v := .int .i64 0) rfl (q_move rfl) ?_
    refine RW.nil ?_
    refine Post.then_n ?_
    refine AW.block ?_
    refine AW.wk (J' := St ⟨w, Φ, []⟩ Φ [.row (.slice none 0 0) 5 1 (([] : List UInt8).length) (bCells ([] : List UInt8)), .blk b2 50 [(.pointer none), (.slice none 0 0)], .blk b1 26 [.int .i64 x.Kind, .string (bs x.Text), .int .i64 x.N, .int .i64 x.Dim, .int .i64 x.At, kv]]) (fun _ h => StP.nilRow h 5 1) ?_
    refine AW.loop (fun s J m => ∃ (i : Nat), ∃ (li : List UInt8), ∃ (vi : Value), ∃ (p : Value), s = [(1, .pointer (some (⟨b1, 0, none⟩))), (3, .pointer (some (⟨b2, 0, none⟩))), (15, kv), (16, .int .i64 ((x.Kids.length : Nat) : Int)), (17, .int .i64 (i : Int))] ∧ J = St ⟨w, Φ, []⟩ Φ [.row vi 5 1 li.length (bCells li), .blk b2 50 [p, vi], .blk b1 26 [.int .i64 x.Kind, .string (bs x.Text), .int .i64 x.N, .int .i64 x.Dim, .int .i64 x.At, kv]] ∧ m = x.Kids.length - i ∧ (i ≤ x.Kids.length) ∧ (li = (x.Kids.take i).flatMap Pa.wrDecl) ∧ (p = .pointer none ∨ p = .pointer (some ⟨b2, 0, none⟩))) (s0 := _) (J1 := _) (m0 := _) ⟨0, [], _, _, rfl, rfl, rfl, (Nat.zero_le _), (by rw [List.take_zero]; rfl), (.inl rfl)⟩ ⟨rfl, rfl, rfl, rfl, rfl, trivial⟩ (fun _ h => h) ?_
    rintro _ _ _ _ ⟨i, li, vi, p, rfl, rfl, rfl, hil, hli, hpp⟩
    refine AW.seq ?_
    refine AW.region ?_
    refine RW.q (v := .bool (decide ((i : Int) < ((x.Kids.length : Nat) : Int)))) rfl (q_lss rfl rfl) ?_
    refine RW.nil ?_
    refine Post.then_n ?_
    refine AW.seq ?_
    refine AW.cond (b := decide ((i : Int) < ((x.Kids.length : Nat) : Int))) rfl (fun hc2 => ?_) (fun hc2 => ?_)
    · simp [-List.getD_eq_getElem?_getD] at hc2
      refine AW.skip ?_
      refine Post.then_n ?_
      refine AW.seq ?_
      refine AW.block ?_
      refine AW.seq ?_
      have hD := Pa.wrD_step (l := x.Kids) (k := i) (by omega)
      rw [← hli] at hD
      have hDl := Pa.wrDecl_len (x.Kids.getD i default)
      refine AW.region ?_
      refine RW.q (v := .pointer (some (Value.at kv (i * 6)))) rfl (q_indexAddr rfl rfl hk.sl Tryd.underlying24 sz26 (by omega) (by omega) rfl) ?_
      obtain ⟨cv1, hcr1, hcc1⟩ := RepSl.whole (k := i) hk (by omega)
      obtain ⟨sv1, hcE1, hcw1, hsv1⟩ := repN.1 hcr1
      subst hcE1
      refine RW.q (v := .agg #[.int .i64 ((x.Kids.getD i default).Kind), .string (bs ((x.Kids.getD i default).Text)), .int .i64 ((x.Kids.getD i default).N), .int .i64 ((x.Kids.getD i default).Dim), .int .i64 ((x.Kids.getD i default).At), sv1]) rfl (q_loadAgg rfl Tryd.underlying26 rfl sz26 rfl (Cells.phiK hcc1)) ?_
      refine RW.eff (fun b3 : Nat => .pointer (some (⟨b3, 0, none⟩))) (fun b3 => St ⟨w, Φ, []⟩ Φ [.blk b3 26 [.int .i64 0, .string (bs ([])), .int .i64 0, .int .i64 0, .int .i64 0, (.slice none 0 0)], .row vi 5 1 li.length (bCells li), .blk b2 50 [p, vi], .blk b1 26 [.int .i64 x.Kind, .string (bs x.Text), .int .i64 x.N, .int .i64 x.Dim, .int .i64 x.At, kv]]) rfl (e_alloc zero26) ?_
      intro b3
      refine RW.effn (J' := St ⟨w, Φ, []⟩ Φ [.blk b3 26 [.int .i64 ((x.Kids.getD i default).Kind), .string (bs ((x.Kids.getD i default).Text)), .int .i64 ((x.Kids.getD i default).N), .int .i64 ((x.Kids.getD i default).Dim), .int .i64 ((x.Kids.getD i default).At), sv1], .row vi 5 1 li.length (bCells li), .blk b2 50 [p, vi], .blk b1 26 [.int .i64 x.Kind, .string (bs x.Text), .int .i64 x.N, .int .i64 x.Dim, .int .i64 x.At, kv]]) (e_store (v := .agg #[.int .i64 ((x.Kids.getD i default).Kind), .string (bs ((x.Kids.getD i default).Text)), .int .i64 ((x.Kids.getD i default).N), .int .i64 ((x.Kids.getD i default).Dim), .int .i64 ((x.Kids.getD i default).At), sv1]) 0 rfl rfl rfl sz26 rfl (List.all_eq_true.2 (fun u hu => Rep.one (show Rep.rep _ _ _ from hcr1) u hu)) rfl rfl rfl) ?_
      refine RW.nil ?_
      refine Post.then_n ?_
      refine AW.seq ?_
      have hdm : (x.Kids.getD i default).Kids.length * 72 ≤ 140737488355328 := hsv1.max
      refine AW.region ?_
      refine RW.q (v := .pointer (some (⟨b3, 1, none⟩))) rfl (q_fieldAddr rfl Tryd.underlying26 rfl sz9 rfl) ?_
      refine RW.q (v := .string (bs ((x.Kids.getD i default).Text))) rfl (q_load rfl Tryd.underlying9 rfl (Cell.blk 0 rfl rfl)) ?_
      refine RW.eff (fun vb1 : Value => .tuple #[.int .i64 ((((x.Kids.getD i default).Text).length : Nat) : Int), .nilIface]) (fun vb1 => St ⟨w, Φ, []⟩ Φ [.blk b3 26 [.int .i64 ((x.Kids.getD i default).Kind), .string (bs ((x.Kids.getD i default).Text)), .int .i64 ((x.Kids.getD i default).N), .int .i64 ((x.Kids.getD i default).Dim), .int .i64 ((x.Kids.getD i default).At), sv1], .row vb1 5 1 ((li ++ ((x.Kids.getD i default).Text)).length) (bCells (li ++ ((x.Kids.getD i default).Text))), .blk b2 50 [.pointer (some ⟨b2, 0, none⟩), vb1], .blk b1 26 [.int .i64 x.Kind, .string (bs x.Text), .int .i64 x.N, .int .i64 x.Dim, .int .i64 x.At, kv]]) rfl (e_call (args := #[.pointer (some (⟨b2, 0, none⟩)), .string (bs ((x.Kids.getD i default).Text))]) own18 rfl rfl (fun w1 hw1 => writeS_p (l := li) (r := (x.Kids.getD i default).Text) rfl [.blk b3 26 [.int .i64 ((x.Kids.getD i default).Kind), .string (bs ((x.Kids.getD i default).Text)), .int .i64 ((x.Kids.getD i default).N), .int .i64 ((x.Kids.getD i default).Dim), .int .i64 ((x.Kids.getD i default).At), sv1]] [.blk b1 26 [.int .i64 x.Kind, .string (bs x.Text), .int .i64 x.N, .int .i64 x.Dim, .int .i64 x.At, kv]] hpp (by simp) (by omega) w1 hw1)) ?_
      intro vb1
      refine RW.nil ?_
      refine Post.then_n ?_
      refine AW.seq ?_
      refine AW.region ?_
      refine RW.q (v := .int .i64 0) rfl (q_assign rfl) ?_
      refine RW.nil ?_
      refine Post.then_n ?_
      refine AW.seq ?_
      refine AW.block ?_
      refine AW.loop (fun s J m => ∃ (j : Nat), ∃ (lj : List UInt8), ∃ (vj : Value), s = [(1, .pointer (some (⟨b1, 0, none⟩))), (3, .pointer (some (⟨b2, 0, none⟩))), (15, kv), (16, .int .i64 ((x.Kids.length : Nat) : Int)), (17, .int .i64 (i : Int)), (5, .pointer (some (⟨b3, 0, none⟩))), (6, .int .i64 (j : Int))] ∧ J = St ⟨w, Φ, []⟩ Φ [.blk b3 26 [.int .i64 ((x.Kids.getD i default).Kind), .string (bs ((x.Kids.getD i default).Text)), .int .i64 ((x.Kids.getD i default).N), .int .i64 ((x.Kids.getD i default).Dim), .int .i64 ((x.Kids.getD i default).At), sv1], .row vj 5 1 lj.length (bCells lj), .blk b2 50 [.pointer (some ⟨b2, 0, none⟩), vj], .blk b1 26 [.int .i64 x.Kind, .string (bs x.Text), .int .i64 x.N, .int .i64 x.Dim, .int .i64 x.At, kv]] ∧ m = (x.Kids.getD i default).Kids.length - j ∧ (j ≤ (x.Kids.getD i default).Kids.length) ∧ (lj = li ++ (x.Kids.getD i default).Text ++ Pa.wrVs ((x.Kids.getD i default).Kids.take j)) ∧ (∀ q, q < j → ((x.Kids.getD i default).Kids.getD q default).Kind ≠ 2)) (s0 := _) (J1 := _) (m0 := _) ⟨0, (li ++ (x.Kids.getD i default).Text), _, rfl, rfl, rfl, (Nat.zero_le _), (by rw [List.take_zero]; exact (List.append_nil _).symm), (fun q hq => absurd hq (Nat.not_lt_zero q))⟩ ⟨rfl, rfl, rfl, rfl, rfl, rfl, rfl, trivial⟩ (fun _ h => h) ?_
      rintro _ _ _ _ ⟨j, lj, vj, rfl, rfl, rfl, hjl, hlj, hA⟩
      refine AW.seq ?_
      refine AW.seq ?_
      rcases Nat.lt_or_ge j (x.Kids.getD i default).Kids.length with hlt | hge
      · skip
        refine AW.region ?_
        refine RW.q (v := .int .i64 (j : Int)) rfl (q_move rfl) ?_
        refine RW.q (v := .pointer (some (⟨b3, 5, none⟩))) rfl (q_fieldAddr rfl Tryd.underlying26 rfl sz24 rfl) ?_
        refine RW.q (v := sv1) rfl (q_load rfl Tryd.underlying24 rfl (Cell.blk 0 rfl rfl)) ?_
        refine RW.q (v := .int .i64 ((((x.Kids.getD i default).Kids).length : Nat) : Int)) rfl (q_len_sl rfl hsv1.sl Tryd.underlying24) ?_
        refine RW.q (v := .bool true) rfl (q_as (v := .bool (decide ((j : Int) < ((((x.Kids.getD i default).Kids).length : Nat) : Int)))) (q_lss rfl rfl) (congrArg (Value.bool) (decide_eq_true (by omega)))) ?_
        refine RW.q (v := .bool true) rfl (q_move rfl) ?_
        refine RW.gl (v := .pointer (some (⟨b3, 5, none⟩))) rfl rfl rfl (q_fieldAddr rfl Tryd.underlying26 rfl sz24 rfl) ?_
        refine RW.gl (v := sv1) rfl rfl rfl (q_load rfl Tryd.underlying24 rfl (Cell.blk 0 rfl rfl)) ?_
        refine RW.gl (v := .int .i64 (j : Int)) rfl rfl rfl (q_move rfl) ?_
        refine RW.gl (v := .pointer (some (Value.at sv1 (j * 6)))) rfl rfl rfl (q_indexAddr rfl rfl hsv1.sl Tryd.underlying24 sz26 (by omega) (by omega) rfl) ?_
        refine RW.gl (v := .pointer (some (Value.at sv1 (j * 6 + 0)))) rfl rfl rfl (q_fieldAddr rfl Tryd.underlying26 rfl sz3 at_add) ?_
        refine RW.gl (v := .int .i64 ((((x.Kids.getD i default).Kids).getD j default).Kind)) rfl rfl rfl (q_load rfl Tryd.underlying3 rfl (Cell.repJ (j := 0) hsv1 (by omega) (fun h => leaf26_0 h))) ?_
        refine RW.gl (v := .bool (!decide ((((x.Kids.getD i default).Kids).getD j default).Kind = 2))) rfl rfl rfl (q_neq rfl rfl) ?_
        obtain ⟨qb1, hqb1⟩ : ∃ qz : Bool, (!decide ((((x.Kids.getD i default).Kids).getD j default).Kind = 2)) = qz := ⟨_, rfl⟩
        refine RW.q (v := .bool qb1) rfl (q_as (v := .bool (!decide ((((x.Kids.getD i default).Kids).getD j default).Kind = 2))) (q_pick (t := true) rfl (fun _ => rfl) (fun hp => nomatch hp)) (congrArg Value.bool hqb1)) ?_
        subst hqb1
        refine RW.nil ?_
        refine Post.then_n ?_
        refine AW.cond (b := (!decide ((((x.Kids.getD i default).Kids).getD j default).Kind = 2))) rfl (fun hc3 => ?_) (fun hc3 => ?_)
        · simp [-List.getD_eq_getElem?_getD] at hc3
          refine AW.skip ?_
          refine Post.then_n ?_
          refine AW.seq ?_
          refine AW.block ?_
          have hS := Pa.wrVs_step hA hlt (by assumption)
          have hlj2 := congrArg List.length hlj
          simp only [List.length_append] at hlj2
          refine AW.region ?_
          refine RW.q (v := .pointer (some (⟨b3, 5, none⟩))) rfl (q_fieldAddr rfl Tryd.underlying26 rfl sz24 rfl) ?_
          refine RW.q (v := sv1) rfl (q_load rfl Tryd.underlying24 rfl (Cell.blk 0 rfl rfl)) ?_
          refine RW.q (v := .int .i64 (j : Int)) rfl (q_move rfl) ?_
          refine RW.q (v := .pointer (some (Value.at sv1 (j * 6)))) rfl (q_indexAddr rfl rfl hsv1.sl Tryd.underlying24 sz26 (by omega) (by omega) rfl) ?_
          obtain ⟨cv2, hcr2, hcc2⟩ := RepSl.whole (k := j) hsv1 (by omega)
          obtain ⟨sv2, hcE2, hcw2, hsv2⟩ := repN.1 hcr2
          subst hcE2
          refine RW.q (v := .agg #[.int .i64 ((((x.Kids.getD i default).Kids).getD j default).Kind), .string (bs ((((x.Kids.getD i default).Kids).getD j default).Text)), .int .i64 ((((x.Kids.getD i default).Kids).getD j default).N), .int .i64 ((((x.Kids.getD i default).Kids).getD j default).Dim), .int .i64 ((((x.Kids.getD i default).Kids).getD j default).At), sv2]) rfl (q_loadAgg rfl Tryd.underlying26 rfl sz26 rfl (Cells.phiK hcc2)) ?_
          refine RW.q (v := .string (bs (Pa.wr (((x.Kids.getD i default).Kids).getD j default)))) rfl (q_call (args := #[.agg #[.int .i64 ((((x.Kids.getD i default).Kids).getD j default).Kind), .string (bs ((((x.Kids.getD i default).Kids).getD j default).Text)), .int .i64 ((((x.Kids.getD i default).Kids).getD j default).N), .int .i64 ((((x.Kids.getD i default).Kids).getD j default).Dim), .int .i64 ((((x.Kids.getD i default).Kids).getD j default).At), sv2]]) own19 rfl rfl (fun w1 hw1 => written_c (((x.Kids.getD i default).Kids).getD j default) w1 (Go.K.hp w1) (Hp.le_refl _) (hG.mono hw1.phi) (hsv2.mono hw1.phi) hcw2 (by omega))) ?_
          refine RW.q (v := .string (bs (([32] : List UInt8) ++ (Pa.wr (((x.Kids.getD i default).Kids).getD j default))))) rfl (q_catStr (l := ([32] : List UInt8)) (r := Pa.wr (((x.Kids.getD i default).Kids).getD j default)) rfl rfl (by simp only [List.length_append, List.length_cons, List.length_nil]; omega) rfl) ?_
          refine RW.eff (fun vb2 : Value => .tuple #[.int .i64 (((([32] : List UInt8) ++ (Pa.wr (((x.Kids.getD i default).Kids).getD j default))).length : Nat) : Int), .nilIface]) (fun vb2 => St ⟨w, Φ, []⟩ Φ [.blk b3 26 [.int .i64 ((x.Kids.getD i default).Kind), .string (bs ((x.Kids.getD i default).Text)), .int .i64 ((x.Kids.getD i default).N), .int .i64 ((x.Kids.getD i default).Dim), .int .i64 ((x.Kids.getD i default).At), sv1], .row vb2 5 1 ((lj ++ (([32] : List UInt8) ++ (Pa.wr (((x.Kids.getD i default).Kids).getD j default)))).length) (bCells (lj ++ (([32] : List UInt8) ++ (Pa.wr (((x.Kids.getD i default).Kids).getD j default))))), .blk b2 50 [.pointer (some ⟨b2, 0, none⟩), vb2], .blk b1 26 [.int .i64 x.Kind, .string (bs x.Text), .int .i64 x.N, .int .i64 x.Dim, .int .i64 x.At, kv]]) rfl (e_call (args := #[.pointer (some (⟨b2, 0, none⟩)), .string (bs (([32] : List UInt8) ++ (Pa.wr (((x.Kids.getD i default).Kids).getD j default))))]) own18 rfl rfl (fun w1 hw1 => writeS_p (l := lj) (r := ([32] : List UInt8) ++ (Pa.wr (((x.Kids.getD i default).Kids).getD j default))) rfl [.blk b3 26 [.int .i64 ((x.Kids.getD i default).Kind), .string (bs ((x.Kids.getD i default).Text)), .int .i64 ((x.Kids.getD i default).N), .int .i64 ((x.Kids.getD i default).Dim), .int .i64 ((x.Kids.getD i default).At), sv1]] [.blk b1 26 [.int .i64 x.Kind, .string (bs x.Text), .int .i64 x.N, .int .i64 x.Dim, .int .i64 x.At, kv]] (.inr rfl) (by simp) (by simp only [List.length_append, List.length_cons, List.length_nil]; omega) w1 hw1)) ?_
          intro vb2
          refine RW.nil ?_
          refine Post.blk_n (Post.then_n ?_)
          refine AW.region ?_
          refine RW.q (v := .int .i64 (j : Int)) rfl (q_move rfl) ?_
          refine RW.q (v := .int .i64 ((j + 1 : Nat) : Int)) rfl (q_add rfl rfl (by omega) (by unfold I64; omega)) ?_
          refine RW.q (v := .int .i64 ((j + 1 : Nat) : Int)) rfl (q_assign rfl) ?_
          refine RW.nil ?_
          exact Post.back (s' := _) (J' := _) (m' := _) (by omega) ⟨j + 1, (lj ++ ([32] ++ Pa.wr ((x.Kids.getD i default).Kids.getD j default))), _, rfl, rfl, rfl, (by omega), (by rw [hlj, Pa.wrVs_snoc hlt]; simp only [List.append_assoc]), (fun q hq => (by by_cases h9 : q = j; (subst h9; assumption); exact hA q (by omega)))⟩ ⟨rfl, rfl, rfl, rfl, rfl, rfl, rfl, trivial⟩ (fun _ h => StP.drop h (by exact .cons_cons _ (.cons_cons _ (.cons_cons _ (.cons_cons _ (.slnil))))))
        · simp [-List.getD_eq_getElem?_getD] at hc3
          refine AW.exit ?_
          refine Post.then_x (Post.then_x (Post.blk_hit (Post.then_n ?_)))
          refine AW.seq ?_
          have hpn : Pa.prpN (x.Kids.getD i default).Kids = j := Pa.prpN_at hA (by first | exact .inl (by omega) | (right; assumption)) hjl
          rw [hpn] at hDl
          have hlj2 := congrArg List.length hlj
          simp only [List.length_append] at hlj2
          refine AW.region ?_
          refine RW.eff (fun vb3 : Value => .tuple #[.int .i64 ((([32, 123, 10] : List UInt8).length : Nat) : Int), .nilIface]) (fun vb3 => St ⟨w, Φ, []⟩ Φ [.blk b3 26 [.int .i64 ((x.Kids.getD i default).Kind), .string (bs ((x.Kids.getD i default).Text)), .int .i64 ((x.Kids.getD i default).N), .int .i64 ((x.Kids.getD i default).Dim), .int .i64 ((x.Kids.getD i default).At), sv1], .row vb3 5 1 ((lj ++ ([32, 123, 10] : List UInt8)).length) (bCells (lj ++ ([32, 123, 10] : List UInt8))), .blk b2 50 [.pointer (some ⟨b2, 0, none⟩), vb3], .blk b1 26 [.int .i64 x.Kind, .string (bs x.Text), .int .i64 x.N, .int .i64 x.Dim, .int .i64 x.At, kv]]) rfl (e_call (args := #[.pointer (some (⟨b2, 0, none⟩)), .string (bs ([32, 123, 10] : List UInt8))]) own18 rfl rfl (fun w1 hw1 => writeS_p (l := lj) (r := ([32, 123, 10] : List UInt8)) rfl [.blk b3 26 [.int .i64 ((x.Kids.getD i default).Kind), .string (bs ((x.Kids.getD i default).Text)), .int .i64 ((x.Kids.getD i default).N), .int .i64 ((x.Kids.getD i default).Dim), .int .i64 ((x.Kids.getD i default).At), sv1]] [.blk b1 26 [.int .i64 x.Kind, .string (bs x.Text), .int .i64 x.N, .int .i64 x.Dim, .int .i64 x.At, kv]] (.inr rfl) (by simp) (by simp only [List.length_cons, List.length_nil]; omega) w1 hw1)) ?_
          intro vb3
          refine RW.nil ?_
          refine Post.then_n ?_
          refine AW.seq ?_
          refine AW.seq ?_
          refine AW.region ?_
          refine RW.q (v := .pointer (some (⟨b3, 5, none⟩))) rfl (q_fieldAddr rfl Tryd.underlying26 rfl sz24 rfl) ?_
          refine RW.q (v := sv1) rfl (q_load rfl Tryd.underlying24 rfl (Cell.blk 0 rfl rfl)) ?_
          refine RW.q (v := .int .i64 (j : Int)) rfl (q_move rfl) ?_
          refine RW.q (v := (subSl sv1 j (((x.Kids.getD i default).Kids).length) 6)) rfl (q_sliceL (v := sv1) (l := (j : Int)) rfl rfl hsv1.sl Tryd.underlying24 sz26 (by omega) (by omega)) ?_
          refine RW.q (v := .int .i64 (((((x.Kids.getD i default).Kids).length) - j : Nat) : Int)) rfl (q_len_sl rfl (isSl_sub hsv1.sl (by omega) (by omega)) Tryd.underlying24) ?_
          refine RW.q (v := .int .i64 0) rfl (q_move rfl) ?_
          refine RW.nil ?_
          refine Post.then_n ?_
          refine AW.block ?_
          have hPr : RepSl Φ ((x.Kids.getD i default).Kids.drop j) (subSl sv1 j (((x.Kids.getD i default).Kids).length) 6) := by have h9 := (hsv1.part (l := j) (m := ((x.Kids.getD i default).Kids).length) (by omega) (by omega)); rwa [List.take_length] at h9
          have hPl : ((x.Kids.getD i default).Kids.drop j).length = (x.Kids.getD i default).Kids.length - j := List.length_drop
          refine AW.loop (fun s J m => ∃ (k : Nat), ∃ (lk : List UInt8), ∃ (vk : Value), s = [(1, .pointer (some (⟨b1, 0, none⟩))), (3, .pointer (some (⟨b2, 0, none⟩))), (15, kv), (16, .int .i64 ((x.Kids.length : Nat) : Int)), (17, .int .i64 (i : Int)), (52, (subSl sv1 j (((x.Kids.getD i default).Kids).length) 6)), (53, .int .i64 (((((x.Kids.getD i default).Kids).length) - j : Nat) : Int)), (54, .int .i64 (k : Int))] ∧ J = St ⟨w, Φ, []⟩ Φ [.blk b3 26 [.int .i64 ((x.Kids.getD i default).Kind), .string (bs ((x.Kids.getD i default).Text)), .int .i64 ((x.Kids.getD i default).N), .int .i64 ((x.Kids.getD i default).Dim), .int .i64 ((x.Kids.getD i default).At), sv1], .row vk 5 1 lk.length (bCells lk), .blk b2 50 [.pointer (some ⟨b2, 0, none⟩), vk], .blk b1 26 [.int .i64 x.Kind, .string (bs x.Text), .int .i64 x.N, .int .i64 x.Dim, .int .i64 x.At, kv]] ∧ m = ((x.Kids.getD i default).Kids.drop j).length - k ∧ (k ≤ ((x.Kids.getD i default).Kids.drop j).length) ∧ (lk = li ++ (x.Kids.getD i default).Text ++ Pa.wrVs ((x.Kids.getD i default).Kids.take j) ++ [32, 123, 10] ++ (((x.Kids.getD i default).Kids.drop j).take k).flatMap Pa.wrProp)) (s0 := _) (J1 := _) (m0 := _) ⟨0, (lj ++ [32, 123, 10]), _, rfl, rfl, rfl, (Nat.zero_le _), (by rw [hlj, List.take_zero]; exact (List.append_nil _).symm)⟩ ⟨rfl, rfl, rfl, rfl, rfl, rfl, rfl, rfl, trivial⟩ (fun _ h => h) ?_
          rintro _ _ _ _ ⟨k, lk, vk, rfl, rfl, rfl, hkl, hlk⟩
          refine AW.seq ?_
          refine AW.region ?_
          refine RW.q (v := .bool (decide ((k : Int) < (((((x.Kids.getD i default).Kids).length) - j : Nat) : Int)))) rfl (q_lss rfl rfl) ?_
          refine RW.nil ?_
          refine Post.then_n ?_
          refine AW.seq ?_
          refine AW.cond (b := decide ((k : Int) < (((((x.Kids.getD i default).Kids).length) - j : Nat) : Int))) rfl (fun hc4 => ?_) (fun hc4 => ?_)
          · simp [-List.getD_eq_getElem?_getD] at hc4
            refine AW.skip ?_
            refine Post.then_n ?_
            refine AW.seq ?_
            refine AW.block ?_
            refine AW.seq ?_
            have hS := Pa.wrP_step (l := ((x.Kids.getD i default).Kids.drop j)) (k := k) (by omega)
            have hSl := Pa.wrProp_len (((x.Kids.getD i default).Kids.drop j).getD k default)
            have hlk2 := congrArg List.length hlk
            simp only [List.length_append, List.length_cons, List.length_nil] at hlk2
            refine AW.region ?_
            refine RW.q (v := .pointer (some (Value.at (subSl sv1 j (((x.Kids.getD i default).Kids).length) 6) (k * 6)))) rfl (q_indexAddr rfl rfl hPr.sl Tryd.underlying24 sz26 (by omega) (by omega) rfl) ?_
            obtain ⟨cv3, hcr3, hcc3⟩ := RepSl.whole (k := k) hPr (by omega)
            obtain ⟨sv3, hcE3, hcw3, hsv3⟩ := repN.1 hcr3
            subst hcE3
            refine RW.q (v := .agg #[.int .i64 ((((x.Kids.getD i default).Kids.drop j).getD k default).Kind), .string (bs ((((x.Kids.getD i default).Kids.drop j).getD k default).Text)), .int .i64 ((((x.Kids.getD i default).Kids.drop j).getD k default).N), .int .i64 ((((x.Kids.getD i default).Kids.drop j).getD k default).Dim), .int .i64 ((((x.Kids.getD i default).Kids.drop j).getD k default).At), sv3]) rfl (q_loadAgg rfl Tryd.underlying26 rfl sz26 rfl (Cells.phiK hcc3)) ?_
            refine RW.eff (fun b4 : Nat => .pointer (some (⟨b4, 0, none⟩))) (fun b4 => St ⟨w, Φ, []⟩ Φ [.blk b4 26 [.int .i64 0, .string (bs ([])), .int .i64 0, .int .i64 0, .int .i64 0, (.slice none 0 0)], .blk b3 26 [.int .i64 ((x.Kids.getD i default).Kind), .string (bs ((x.Kids.getD i default).Text)), .int .i64 ((x.Kids.getD i default).N), .int .i64 ((x.Kids.getD i default).Dim), .int .i64 ((x.Kids.getD i default).At), sv1], .row vk 5 1 lk.length (bCells lk), .blk b2 50 [.pointer (some ⟨b2, 0, none⟩), vk], .blk b1 26 [.int .i64 x.Kind, .string (bs x.Text), .int .i64 x.N, .int .i64 x.Dim, .int .i64 x.At, kv]]) rfl (e_alloc zero26) ?_
            intro b4
            refine RW.effn (J' := St ⟨w, Φ, []⟩ Φ [.blk b4 26 [.int .i64 ((((x.Kids.getD i default).Kids.drop j).getD k default).Kind), .string (bs ((((x.Kids.getD i default).Kids.drop j).getD k default).Text)), .int .i64 ((((x.Kids.getD i default).Kids.drop j).getD k default).N), .int .i64 ((((x.Kids.getD i default).Kids.drop j).getD k default).Dim), .int .i64 ((((x.Kids.getD i default).Kids.drop j).getD k default).At), sv3], .blk b3 26 [.int .i64 ((x.Kids.getD i default).Kind), .string (bs ((x.Kids.getD i default).Text)), .int .i64 ((x.Kids.getD i default).N), .int .i64 ((x.Kids.getD i default).Dim), .int .i64 ((x.Kids.getD i default).At), sv1], .row vk 5 1 lk.length (bCells lk), .blk b2 50 [.pointer (some ⟨b2, 0, none⟩), vk], .blk b1 26 [.int .i64 x.Kind, .string (bs x.Text), .int .i64 x.N, .int .i64 x.Dim, .int .i64 x.At, kv]]) (e_store (v := .agg #[.int .i64 ((((x.Kids.getD i default).Kids.drop j).getD k default).Kind), .string (bs ((((x.Kids.getD i default).Kids.drop j).getD k default).Text)), .int .i64 ((((x.Kids.getD i default).Kids.drop j).getD k default).N), .int .i64 ((((x.Kids.getD i default).Kids.drop j).getD k default).Dim), .int .i64 ((((x.Kids.getD i default).Kids.drop j).getD k default).At), sv3]) 0 rfl rfl rfl sz26 rfl (List.all_eq_true.2 (fun u hu => Rep.one (show Rep.rep _ _ _ from hcr3) u hu)) rfl rfl rfl) ?_
            refine RW.nil ?_
            refine Post.then_n ?_
            refine AW.seq ?_
            have hpm : (((x.Kids.getD i default).Kids.drop j).getD k default).Kids.length * 72 ≤ 140737488355328 := hsv3.max
            refine AW.region ?_
            refine RW.q (v := .pointer (some (⟨b4, 1, none⟩))) rfl (q_fieldAddr rfl Tryd.underlying26 rfl sz9 rfl) ?_
            refine RW.q (v := .string (bs ((((x.Kids.getD i default).Kids.drop j).getD k default).Text))) rfl (q_load rfl Tryd.underlying9 rfl (Cell.blk 0 rfl rfl)) ?_
            refine RW.q (v := .string (bs (([32, 32] : List UInt8) ++ ((((x.Kids.getD i default).Kids.drop j).getD k default).Text)))) rfl (q_catStr (l := ([32, 32] : List UInt8)) (r := (((x.Kids.getD i default).Kids.drop j).getD k default).Text) rfl rfl (by simp only [List.length_append, List.length_cons, List.length_nil]; omega) rfl) ?_
            refine RW.eff (fun vb4 : Value => .tuple #[.int .i64 (((([32, 32] : List UInt8) ++ ((((x.Kids.getD i default).Kids.drop j).getD k default).Text)).length : Nat) : Int), .nilIface]) (fun vb4 => St ⟨w, Φ, []⟩ Φ [.blk b4 26 [.int .i64 ((((x.Kids.getD i default).Kids.drop j).getD k default).Kind), .string (bs ((((x.Kids.getD i default).Kids.drop j).getD k default).Text)), .int .i64 ((((x.Kids.getD i default).Kids.drop j).getD k default).N), .int .i64 ((((x.Kids.getD i default).Kids.drop j).getD k default).Dim), .int .i64 ((((x.Kids.getD i default).Kids.drop j).getD k default).At), sv3], .blk b3 26 [.int .i64 ((x.Kids.getD i default).Kind), .string (bs ((x.Kids.getD i default).Text)), .int .i64 ((x.Kids.getD i default).N), .int .i64 ((x.Kids.getD i default).Dim), .int .i64 ((x.Kids.getD i default).At), sv1], .row vb4 5 1 ((lk ++ (([32, 32] : List UInt8) ++ ((((x.Kids.getD i default).Kids.drop j).getD k default).Text))).length) (bCells (lk ++ (([32, 32] : List UInt8) ++ ((((x.Kids.getD i default).Kids.drop j).getD k default).Text)))), .blk b2 50 [.pointer (some ⟨b2, 0, none⟩), vb4], .blk b1 26 [.int .i64 x.Kind, .string (bs x.Text), .int .i64 x.N, .int .i64 x.Dim, .int .i64 x.At, kv]]) rfl (e_call (args := #[.pointer (some (⟨b2, 0, none⟩)), .string (bs (([32, 32] : List UInt8) ++ ((((x.Kids.getD i default).Kids.drop j).getD k default).Text)))]) own18 rfl rfl (fun w1 hw1 => writeS_p (l := lk) (r := ([32, 32] : List UInt8) ++ ((((x.Kids.getD i default).Kids.drop j).getD k default).Text)) rfl [.blk b4 26 [.int .i64 ((((x.Kids.getD i default).Kids.drop j).getD k default).Kind), .string (bs ((((x.Kids.getD i default).Kids.drop j).getD k default).Text)), .int .i64 ((((x.Kids.getD i default).Kids.drop j).getD k default).N), .int .i64 ((((x.Kids.getD i default).Kids.drop j).getD k default).Dim), .int .i64 ((((x.Kids.getD i default).Kids.drop j).getD k default).At), sv3], .blk b3 26 [.int .i64 ((x.Kids.getD i default).Kind), .string (bs ((x.Kids.getD i default).Text)), .int .i64 ((x.Kids.getD i default).N), .int .i64 ((x.Kids.getD i default).Dim), .int .i64 ((x.Kids.getD i default).At), sv1]] [.blk b1 26 [.int .i64 x.Kind, .string (bs x.Text), .int .i64 x.N, .int .i64 x.Dim, .int .i64 x.At, kv]] (.inr rfl) (by simp) (by simp only [List.length_append, List.length_cons, List.length_nil]; omega) w1 hw1)) ?_
            intro vb4
            refine RW.nil ?_
            refine Post.then_n ?_
            refine AW.seq ?_
            refine AW.seq ?_
            refine AW.region ?_
            refine RW.q (v := .pointer (some (⟨b4, 5, none⟩))) rfl (q_fieldAddr rfl Tryd.underlying26 rfl sz24 rfl) ?_
            refine RW.q (v := sv3) rfl (q_load rfl Tryd.underlying24 rfl (Cell.blk 0 rfl rfl)) ?_
            refine RW.q (v := .int .i64 ((((((x.Kids.getD i default).Kids.drop j).getD k default).Kids).length : Nat) : Int)) rfl (q_len_sl rfl hsv3.sl Tryd.underlying24) ?_
            refine RW.q (v := .int .i64 0) rfl (q_move rfl) ?_
            refine RW.nil ?_
            refine Post.then_n ?_
            refine AW.block ?_
            refine AW.loop (fun s J m => ∃ (q : Nat), ∃ (lq : List UInt8), ∃ (vq : Value), s = [(1, .pointer (some (⟨b1, 0, none⟩))), (3, .pointer (some (⟨b2, 0, none⟩))), (15, kv), (16, .int .i64 ((x.Kids.length : Nat) : Int)), (17, .int .i64 (i : Int)), (52, (subSl sv1 j (((x.Kids.getD i default).Kids).length) 6)), (53, .int .i64 (((((x.Kids.getD i default).Kids).length) - j : Nat) : Int)), (54, .int .i64 (k : Int)), (63, sv3), (64, .int .i64 ((((((x.Kids.getD i default).Kids.drop j).getD k default).Kids).length : Nat) : Int)), (65, .int .i64 (q : Int))] ∧ J = St ⟨w, Φ, []⟩ Φ [.blk b4 26 [.int .i64 ((((x.Kids.getD i default).Kids.drop j).getD k default).Kind), .string (bs ((((x.Kids.getD i default).Kids.drop j).getD k default).Text)), .int .i64 ((((x.Kids.getD i default).Kids.drop j).getD k default).N), .int .i64 ((((x.Kids.getD i default).Kids.drop j).getD k default).Dim), .int .i64 ((((x.Kids.getD i default).Kids.drop j).getD k default).At), sv3], .blk b3 26 [.int .i64 ((x.Kids.getD i default).Kind), .string (bs ((x.Kids.getD i default).Text)), .int .i64 ((x.Kids.getD i default).N), .int .i64 ((x.Kids.getD i default).Dim), .int .i64 ((x.Kids.getD i default).At), sv1], .row vq 5 1 lq.length (bCells lq), .blk b2 50 [.pointer (some ⟨b2, 0, none⟩), vq], .blk b1 26 [.int .i64 x.Kind, .string (bs x.Text), .int .i64 x.N, .int .i64 x.Dim, .int .i64 x.At, kv]] ∧ m = (((x.Kids.getD i default).Kids.drop j).getD k default).Kids.length - q ∧ (q ≤ (((x.Kids.getD i default).Kids.drop j).getD k default).Kids.length) ∧ (lq = lk ++ ([32, 32] ++ (((x.Kids.getD i default).Kids.drop j).getD k default).Text) ++ Pa.wrVs ((((x.Kids.getD i default).Kids.drop j).getD k default).Kids.take q))) (s0 := _) (J1 := _) (m0 := _) ⟨0, (lk ++ ([32, 32] ++ (((x.Kids.getD i default).Kids.drop j).getD k default).Text)), _, rfl, rfl, rfl, (Nat.zero_le _), (by rw [List.take_zero]; exact (List.append_nil _).symm)⟩ ⟨rfl, rfl, rfl, rfl, rfl, rfl, rfl, rfl, rfl, rfl, rfl, trivial⟩ (fun _ h => h) ?_
            rintro _ _ _ _ ⟨q, lq, vq, rfl, rfl, rfl, hql, hlq⟩
            refine AW.seq ?_
            refine AW.region ?_
            refine RW.q (v := .bool (decide ((q : Int) < ((((((x.Kids.getD i default).Kids.drop j).getD k default).Kids).length : Nat) : Int)))) rfl (q_lss rfl rfl) ?_
            refine RW.nil ?_
            refine Post.then_n ?_
            refine AW.seq ?_
            refine AW.cond (b := decide ((q : Int) < ((((((x.Kids.getD i default).Kids.drop j).getD k default).Kids).length : Nat) : Int))) rfl (fun hc5 => ?_) (fun hc5 => ?_)
            · simp [-List.getD_eq_getElem?_getD] at hc5
              refine AW.skip ?_
              refine Post.then_n ?_
              refine AW.seq ?_
              refine AW.block ?_
              refine AW.seq ?_
              have hV := Pa.wrVs_stepV (l := (((x.Kids.getD i default).Kids.drop j).getD k default).Kids) (j := q) (by omega)
              have hlq2 := congrArg List.length hlq
              simp only [List.length_append, List.length_cons, List.length_nil] at hlq2
              refine AW.region ?_
              refine RW.q (v := .pointer (some (Value.at sv3 (q * 6)))) rfl (q_indexAddr rfl rfl hsv3.sl Tryd.underlying24 sz26 (by omega) (by omega) rfl) ?_
              obtain ⟨cv4, hcr4, hcc4⟩ := RepSl.whole (k := q) hsv3 (by omega)
              obtain ⟨sv4, hcE4, hcw4, hsv4⟩ := repN.1 hcr4
              subst hcE4
              refine RW.q (v := .agg #[.int .i64 ((((((x.Kids.getD i default).Kids.drop j).getD k default).Kids).getD q default).Kind), .string (bs ((((((x.Kids.getD i default).Kids.drop j).getD k default).Kids).getD q default).Text)), .int .i64 ((((((x.Kids.getD i default).Kids.drop j).getD k default).Kids).getD q default).N), .int .i64 ((((((x.Kids.getD i default).Kids.drop j).getD k default).Kids).getD q default).Dim), .int .i64 ((((((x.Kids.getD i default).Kids.drop j).getD k default).Kids).getD q default).At), sv4]) rfl (q_loadAgg rfl Tryd.underlying26 rfl sz26 rfl (Cells.phiK hcc4)) ?_
              refine RW.eff (fun b5 : Nat => .pointer (some (⟨b5, 0, none⟩))) (fun b5 => St ⟨w, Φ, []⟩ Φ [.blk b5 26 [.int .i64 0, .string (bs ([])), .int .i64 0, .int .i64 0, .int .i64 0, (.slice none 0 0)], .blk b4 26 [.int .i64 ((((x.Kids.getD i default).Kids.drop j).getD k default).Kind), .string (bs ((((x.Kids.getD i default).Kids.drop j).getD k default).Text)), .int .i64 ((((x.Kids.getD i default).Kids.drop j).getD k default).N), .int .i64 ((((x.Kids.getD i default).Kids.drop j).getD k default).Dim), .int .i64 ((((x.Kids.getD i default).Kids.drop j).getD k default).At), sv3], .blk b3 26 [.int .i64 ((x.Kids.getD i default).Kind), .string (bs ((x.Kids.getD i default).Text)), .int .i64 ((x.Kids.getD i default).N), .int .i64 ((x.Kids.getD i default).Dim), .int .i64 ((x.Kids.getD i default).At), sv1], .row vq 5 1 lq.length (bCells lq), .blk b2 50 [.pointer (some ⟨b2, 0, none⟩), vq], .blk b1 26 [.int .i64 x.Kind, .string (bs x.Text), .int .i64 x.N, .int .i64 x.Dim, .int .i64 x.At, kv]]) rfl (e_alloc zero26) ?_
              intro b5
              refine RW.effn (J' := St ⟨w, Φ, []⟩ Φ [.blk b5 26 [.int .i64 ((((((x.Kids.getD i default).Kids.drop j).getD k default).Kids).getD q default).Kind), .string (bs ((((((x.Kids.getD i default).Kids.drop j).getD k default).Kids).getD q default).Text)), .int .i64 ((((((x.Kids.getD i default).Kids.drop j).getD k default).Kids).getD q default).N), .int .i64 ((((((x.Kids.getD i default).Kids.drop j).getD k default).Kids).getD q default).Dim), .int .i64 ((((((x.Kids.getD i default).Kids.drop j).getD k default).Kids).getD q default).At), sv4], .blk b4 26 [.int .i64 ((((x.Kids.getD i default).Kids.drop j).getD k default).Kind), .string (bs ((((x.Kids.getD i default).Kids.drop j).getD k default).Text)), .int .i64 ((((x.Kids.getD i default).Kids.drop j).getD k default).N), .int .i64 ((((x.Kids.getD i default).Kids.drop j).getD k default).Dim), .int .i64 ((((x.Kids.getD i default).Kids.drop j).getD k default).At), sv3], .blk b3 26 [.int .i64 ((x.Kids.getD i default).Kind), .string (bs ((x.Kids.getD i default).Text)), .int .i64 ((x.Kids.getD i default).N), .int .i64 ((x.Kids.getD i default).Dim), .int .i64 ((x.Kids.getD i default).At), sv1], .row vq 5 1 lq.length (bCells lq), .blk b2 50 [.pointer (some ⟨b2, 0, none⟩), vq], .blk b1 26 [.int .i64 x.Kind, .string (bs x.Text), .int .i64 x.N, .int .i64 x.Dim, .int .i64 x.At, kv]]) (e_store (v := .agg #[.int .i64 ((((((x.Kids.getD i default).Kids.drop j).getD k default).Kids).getD q default).Kind), .string (bs ((((((x.Kids.getD i default).Kids.drop j).getD k default).Kids).getD q default).Text)), .int .i64 ((((((x.Kids.getD i default).Kids.drop j).getD k default).Kids).getD q default).N), .int .i64 ((((((x.Kids.getD i default).Kids.drop j).getD k default).Kids).getD q default).Dim), .int .i64 ((((((x.Kids.getD i default).Kids.drop j).getD k default).Kids).getD q default).At), sv4]) 0 rfl rfl rfl sz26 rfl (List.all_eq_true.2 (fun u hu => Rep.one (show Rep.rep _ _ _ from hcr4) u hu)) rfl rfl rfl) ?_
              refine RW.nil ?_
              refine Post.then_n ?_
              refine AW.region ?_
              refine RW.q (v := .agg #[.int .i64 ((((((x.Kids.getD i default).Kids.drop j).getD k default).Kids).getD q default).Kind), .string (bs ((((((x.Kids.getD i default).Kids.drop j).getD k default).Kids).getD q default).Text)), .int .i64 ((((((x.Kids.getD i default).Kids.drop j).getD k default).Kids).getD q default).N), .int .i64 ((((((x.Kids.getD i default).Kids.drop j).getD k default).Kids).getD q default).Dim), .int .i64 ((((((x.Kids.getD i default).Kids.drop j).getD k default).Kids).getD q default).At), sv4]) rfl (q_loadAgg rfl Tryd.underlying26 rfl sz26 rfl (Cells.blk 0 rfl)) ?_
              refine RW.q (v := .string (bs (Pa.wr (((((x.Kids.getD i default).Kids.drop j).getD k default).Kids).getD q default)))) rfl (q_call (args := #[.agg #[.int .i64 ((((((x.Kids.getD i default).Kids.drop j).getD k default).Kids).getD q default).Kind), .string (bs ((((((x.Kids.getD i default).Kids.drop j).getD k default).Kids).getD q default).Text)), .int .i64 ((((((x.Kids.getD i default).Kids.drop j).getD k default).Kids).getD q default).N), .int .i64 ((((((x.Kids.getD i default).Kids.drop j).getD k default).Kids).getD q default).Dim), .int .i64 ((((((x.Kids.getD i default).Kids.drop j).getD k default).Kids).getD q default).At), sv4]]) own19 rfl rfl (fun w1 hw1 => written_c (((((x.Kids.getD i default).Kids.drop j).getD k default).Kids).getD q default) w1 (Go.K.hp w1) (Hp.le_refl _) (hG.mono hw1.phi) (hsv4.mono hw1.phi) hcw4 (by omega))) ?_
              refine RW.q (v := .string (bs (([32] : List UInt8) ++ (Pa.wr (((((x.Kids.getD i default).Kids.drop j).getD k default).Kids).getD q default))))) rfl (q_catStr (l := ([32] : List UInt8)) (r := Pa.wr (((((x.Kids.getD i default).Kids.drop j).getD k default).Kids).getD q default)) rfl rfl (by simp only [List.length_append, List.length_cons, List.length_nil]; omega) rfl) ?_
              refine RW.eff (fun vb5 : Value => .tuple #[.int .i64 (((([32] : List UInt8) ++ (Pa.wr (((((x.Kids.getD i default).Kids.drop j).getD k default).Kids).getD q default))).length : Nat) : Int), .nilIface]) (fun vb5 => St ⟨w, Φ, []⟩ Φ [.blk b5 26 [.int .i64 ((((((x.Kids.getD i default).Kids.drop j).getD k default).Kids).getD q default).Kind), .string (bs ((((((x.Kids.getD i default).Kids.drop j).getD k default).Kids).getD q default).Text)), .int .i64 ((((((x.Kids.getD i default).Kids.drop j).getD k default).Kids).getD q default).N), .int .i64 ((((((x.Kids.getD i default).Kids.drop j).getD k default).Kids).getD q default).Dim), .int .i64 ((((((x.Kids.getD i default).Kids.drop j).getD k default).Kids).getD q default).At), sv4], .blk b4 26 [.int .i64 ((((x.Kids.getD i default).Kids.drop j).getD k default).Kind), .string (bs ((((x.Kids.getD i default).Kids.drop j).getD k default).Text)), .int .i64 ((((x.Kids.getD i default).Kids.drop j).getD k default).N), .int .i64 ((((x.Kids.getD i default).Kids.drop j).getD k default).Dim), .int .i64 ((((x.Kids.getD i default).Kids.drop j).getD k default).At), sv3], .blk b3 26 [.int .i64 ((x.Kids.getD i default).Kind), .string (bs ((x.Kids.getD i default).Text)), .int .i64 ((x.Kids.getD i default).N), .int .i64 ((x.Kids.getD i default).Dim), .int .i64 ((x.Kids.getD i default).At), sv1], .row vb5 5 1 ((lq ++ (([32] : List UInt8) ++ (Pa.wr (((((x.Kids.getD i default).Kids.drop j).getD k default).Kids).getD q default)))).length) (bCells (lq ++ (([32] : List UInt8) ++ (Pa.wr (((((x.Kids.getD i default).Kids.drop j).getD k default).Kids).getD q default))))), .blk b2 50 [.pointer (some ⟨b2, 0, none⟩), vb5], .blk b1 26 [.int .i64 x.Kind, .string (bs x.Text), .int .i64 x.N, .int .i64 x.Dim, .int .i64 x.At, kv]]) rfl (e_call (args := #[.pointer (some (⟨b2, 0, none⟩)), .string (bs (([32] : List UInt8) ++ (Pa.wr (((((x.Kids.getD i default).Kids.drop j).getD k default).Kids).getD q default))))]) own18 rfl rfl (fun w1 hw1 => writeS_p (l := lq) (r := ([32] : List UInt8) ++ (Pa.wr (((((x.Kids.getD i default).Kids.drop j).getD k default).Kids).getD q default))) rfl [.blk b5 26 [.int .i64 ((((((x.Kids.getD i default).Kids.drop j).getD k default).Kids).getD q default).Kind), .string (bs ((((((x.Kids.getD i default).Kids.drop j).getD k default).Kids).getD q default).Text)), .int .i64 ((((((x.Kids.getD i default).Kids.drop j).getD k default).Kids).getD q default).N), .int .i64 ((((((x.Kids.getD i default).Kids.drop j).getD k default).Kids).getD q default).Dim), .int .i64 ((((((x.Kids.getD i default).Kids.drop j).getD k default).Kids).getD q default).At), sv4], .blk b4 26 [.int .i64 ((((x.Kids.getD i default).Kids.drop j).getD k default).Kind), .string (bs ((((x.Kids.getD i default).Kids.drop j).getD k default).Text)), .int .i64 ((((x.Kids.getD i default).Kids.drop j).getD k default).N), .int .i64 ((((x.Kids.getD i default).Kids.drop j).getD k default).Dim), .int .i64 ((((x.Kids.getD i default).Kids.drop j).getD k default).At), sv3], .blk b3 26 [.int .i64 ((x.Kids.getD i default).Kind), .string (bs ((x.Kids.getD i default).Text)), .int .i64 ((x.Kids.getD i default).N), .int .i64 ((x.Kids.getD i default).Dim), .int .i64 ((x.Kids.getD i default).At), sv1]] [.blk b1 26 [.int .i64 x.Kind, .string (bs x.Text), .int .i64 x.N, .int .i64 x.Dim, .int .i64 x.At, kv]] (.inr rfl) (by simp) (by simp only [List.length_append, List.length_cons, List.length_nil]; omega) w1 hw1)) ?_
              intro vb5
              refine RW.nil ?_
              refine Post.blk_n (Post.then_n ?_)
              refine AW.region ?_
              refine RW.q (v := .int .i64 ((q + 1 : Nat) : Int)) rfl (q_add rfl rfl (by omega) (by unfold I64; omega)) ?_
              refine RW.q (v := .int .i64 ((q + 1 : Nat) : Int)) rfl (q_move rfl) ?_
              refine RW.nil ?_
              exact Post.back (s' := _) (J' := _) (m' := _) (by omega) ⟨q + 1, (lq ++ ([32] ++ Pa.wr ((((x.Kids.getD i default).Kids.drop j).getD k default).Kids.getD q default))), _, rfl, rfl, rfl, (by omega), (by rw [hlq, Pa.wrVs_snoc (by omega)]; simp only [List.append_assoc])⟩ ⟨rfl, rfl, rfl, rfl, rfl, rfl, rfl, rfl, rfl, rfl, rfl, trivial⟩ (fun _ h => StP.drop h (by exact .cons _ (.cons_cons _ (.cons_cons _ (.cons_cons _ (.cons_cons _ (.cons_cons _ (.slnil))))))))
            · simp [-List.getD_eq_getElem?_getD] at hc5
              refine AW.exit ?_
              refine Post.then_x (Post.then_x (Post.blk_hit (Post.then_n ?_)))
              have hlq2 := congrArg List.length hlq
              simp only [List.length_append, List.length_cons, List.length_nil] at hlq2
              have hV := Pa.wrVs_le (l := (((x.Kids.getD i default).Kids.drop j).getD k default).Kids) q
              refine AW.region ?_
              refine RW.eff (fun vb6 : Value => .tuple #[.int .i64 ((([59, 10] : List UInt8).length : Nat) : Int), .nilIface]) (fun vb6 => St ⟨w, Φ, []⟩ Φ [.blk b4 26 [.int .i64 ((((x.Kids.getD i default).Kids.drop j).getD k default).Kind), .string (bs ((((x.Kids.getD i default).Kids.drop j).getD k default).Text)), .int .i64 ((((x.Kids.getD i default).Kids.drop j).getD k default).N), .int .i64 ((((x.Kids.getD i default).Kids.drop j).getD k default).Dim), .int .i64 ((((x.Kids.getD i default).Kids.drop j).getD k default).At), sv3], .blk b3 26 [.int .i64 ((x.Kids.getD i default).Kind), .string (bs ((x.Kids.getD i default).Text)), .int .i64 ((x.Kids.getD i default).N), .int .i64 ((x.Kids.getD i default).Dim), .int .i64 ((x.Kids.getD i default).At), sv1], .row vb6 5 1 ((lq ++ ([59, 10] : List UInt8)).length) (bCells (lq ++ ([59, 10] : List UInt8))), .blk b2 50 [.pointer (some ⟨b2, 0, none⟩), vb6], .blk b1 26 [.int .i64 x.Kind, .string (bs x.Text), .int .i64 x.N, .int .i64 x.Dim, .int .i64 x.At, kv]]) rfl (e_call (args := #[.pointer (some (⟨b2, 0, none⟩)), .string (bs ([59, 10] : List UInt8))]) own18 rfl rfl (fun w1 hw1 => writeS_p (l := lq) (r := ([59, 10] : List UInt8)) rfl [.blk b4 26 [.int .i64 ((((x.Kids.getD i default).Kids.drop j).getD k default).Kind), .string (bs ((((x.Kids.getD i default).Kids.drop j).getD k default).Text)), .int .i64 ((((x.Kids.getD i default).Kids.drop j).getD k default).N), .int .i64 ((((x.Kids.getD i default).Kids.drop j).getD k default).Dim), .int .i64 ((((x.Kids.getD i default).Kids.drop j).getD k default).At), sv3], .blk b3 26 [.int .i64 ((x.Kids.getD i default).Kind), .string (bs ((x.Kids.getD i default).Text)), .int .i64 ((x.Kids.getD i default).N), .int .i64 ((x.Kids.getD i default).Dim), .int .i64 ((x.Kids.getD i default).At), sv1]] [.blk b1 26 [.int .i64 x.Kind, .string (bs x.Text), .int .i64 x.N, .int .i64 x.Dim, .int .i64 x.At, kv]] (.inr rfl) (by simp) (by simp only [List.length_cons, List.length_nil]; omega) w1 hw1)) ?_
              intro vb6
              refine RW.nil ?_
              refine Post.blk_n (Post.then_n ?_)
              refine AW.region ?_
              refine RW.q (v := .int .i64 ((k + 1 : Nat) : Int)) rfl (q_add rfl rfl (by omega) (by unfold I64; omega)) ?_
              refine RW.q (v := .int .i64 ((k + 1 : Nat) : Int)) rfl (q_move rfl) ?_
              refine RW.nil ?_
              exact Post.back (s' := _) (J' := _) (m' := _) (by omega) ⟨k + 1, (lq ++ [59, 10]), _, rfl, rfl, rfl, (by omega), (by rw [Pa.flat_snoc (show k < ((x.Kids.getD i default).Kids.drop j).length by omega), hlq, hlk, List.take_of_length_le (show (((x.Kids.getD i default).Kids.drop j).getD k default).Kids.length ≤ q by omega), Pa.wrProp]; simp only [List.append_assoc])⟩ ⟨rfl, rfl, rfl, rfl, rfl, rfl, rfl, rfl, trivial⟩ (fun _ h => StP.drop h (by exact .cons _ (.cons_cons _ (.cons_cons _ (.cons_cons _ (.cons_cons _ (.slnil)))))))
          · simp [-List.getD_eq_getElem?_getD] at hc4
            refine AW.exit ?_
            refine Post.then_x (Post.then_x (Post.blk_hit (Post.then_n ?_)))
            have hlk2 := congrArg List.length hlk
            simp only [List.length_append, List.length_cons, List.length_nil] at hlk2
            have hS := Pa.flat_take_le (T := Pa.wrProp) (l := ((x.Kids.getD i default).Kids.drop j)) k
            refine AW.region ?_
            refine RW.eff (fun vb7 : Value => .tuple #[.int .i64 ((([125, 10] : List UInt8).length : Nat) : Int), .nilIface]) (fun vb7 => St ⟨w, Φ, []⟩ Φ [.blk b3 26 [.int .i64 ((x.Kids.getD i default).Kind), .string (bs ((x.Kids.getD i default).Text)), .int .i64 ((x.Kids.getD i default).N), .int .i64 ((x.Kids.getD i default).Dim), .int .i64 ((x.Kids.getD i default).At), sv1], .row vb7 5 1 ((lk ++ ([125, 10] : List UInt8)).length) (bCells (lk ++ ([125, 10] : List UInt8))), .blk b2 50 [.pointer (some ⟨b2, 0, none⟩), vb7], .blk b1 26 [.int .i64 x.Kind, .string (bs x.Text), .int .i64 x.N, .int .i64 x.Dim, .int .i64 x.At, kv]]) rfl (e_call (args := #[.pointer (some (⟨b2, 0, none⟩)), .string (bs ([125, 10] : List UInt8))]) own18 rfl rfl (fun w1 hw1 => writeS_p (l := lk) (r := ([125, 10] : List UInt8)) rfl [.blk b3 26 [.int .i64 ((x.Kids.getD i default).Kind), .string (bs ((x.Kids.getD i default).Text)), .int .i64 ((x.Kids.getD i default).N), .int .i64 ((x.Kids.getD i default).Dim), .int .i64 ((x.Kids.getD i default).At), sv1]] [.blk b1 26 [.int .i64 x.Kind, .string (bs x.Text), .int .i64 x.N, .int .i64 x.Dim, .int .i64 x.At, kv]] (.inr rfl) (by simp) (by simp only [List.length_cons, List.length_nil]; omega) w1 hw1)) ?_
            intro vb7
            refine RW.nil ?_
            refine Post.blk_n (Post.then_n ?_)
            refine AW.region ?_
            refine RW.q (v := .int .i64 ((i + 1 : Nat) : Int)) rfl (q_add rfl rfl (by omega) (by unfold I64; omega)) ?_
            refine RW.q (v := .int .i64 ((i + 1 : Nat) : Int)) rfl (q_move rfl) ?_
            refine RW.nil ?_
            exact Post.back (s' := _) (J' := _) (m' := _) (by omega) ⟨i + 1, (lk ++ [125, 10]), _, _, rfl, rfl, rfl, (by omega), (by rw [Pa.flat_snoc (by omega), ← hli, hlk, List.take_of_length_le (show ((x.Kids.getD i default).Kids.drop j).length ≤ k by omega), Pa.wrDecl, hpn]; simp only [List.append_assoc]), (.inr rfl)⟩ ⟨rfl, rfl, rfl, rfl, rfl, trivial⟩ (fun _ h => StP.drop h (by exact .cons _ (.cons_cons _ (.cons_cons _ (.cons_cons _ (.slnil))))))
      · skip
        refine AW.region ?_
        refine RW.q (v := .int .i64 (j : Int)) rfl (q_move rfl) ?_
        refine RW.q (v := .pointer (some (⟨b3, 5, none⟩))) rfl (q_fieldAddr rfl Tryd.underlying26 rfl sz24 rfl) ?_
        refine RW.q (v := sv1) rfl (q_load rfl Tryd.underlying24 rfl (Cell.blk 0 rfl rfl)) ?_
        refine RW.q (v := .int .i64 ((((x.Kids.getD i default).Kids).length : Nat) : Int)) rfl (q_len_sl rfl hsv1.sl Tryd.underlying24) ?_
        refine RW.q (v := .bool false) rfl (q_as (v := .bool (decide ((j : Int) < ((((x.Kids.getD i default).Kids).length : Nat) : Int)))) (q_lss rfl rfl) (congrArg (Value.bool) (decide_eq_false (by omega)))) ?_
        refine RW.q (v := .bool false) rfl (q_move rfl) ?_
        refine RW.g (b := false) (v := undef) rfl rfl rfl (fun h => nomatch h) ?_
        refine RW.g (b := false) (v := undef) rfl rfl rfl (fun h => nomatch h) ?_
        refine RW.g (b := false) (v := undef) rfl rfl rfl (fun h => nomatch h) ?_
        refine RW.g (b := false) (v := undef) rfl rfl rfl (fun h => nomatch h) ?_
        refine RW.g (b := false) (v := undef) rfl rfl rfl (fun h => nomatch h) ?_
        refine RW.g (b := false) (v := undef) rfl rfl rfl (fun h => nomatch h) ?_
        refine RW.g (b := false) (v := undef) rfl rfl rfl (fun h => nomatch h) ?_
        refine RW.q (v := .bool false) rfl (q_pick (t := false) rfl (fun hp => nomatch hp) (fun _ => rfl)) ?_
        refine RW.nil ?_
        refine Post.then_n ?_
        refine AW.cond (b := false) rfl (fun hc6 => ?_) (fun hc6 => ?_)
        · cases hc6
        · skip
          refine AW.exit ?_
          refine Post.then_x (Post.then_x (Post.blk_hit (Post.then_n ?_)))
          refine AW.seq ?_
          have hpn : Pa.prpN (x.Kids.getD i default).Kids = j := Pa.prpN_at hA (by first | exact .inl (by omega) | (right; assumption)) hjl
          rw [hpn] at hDl
          have hlj2 := congrArg List.length hlj
          simp only [List.length_append] at hlj2
          refine AW.region ?_
          refine RW.eff (fun vb8 : Value => .tuple #[.int .i64 ((([32, 123, 10] : List UInt8).length : Nat) : Int), .nilIface]) (fun vb8 => St ⟨w, Φ, []⟩ Φ [.blk b3 26 [.int .i64 ((x.Kids.getD i default).Kind), .string (bs ((x.Kids.getD i default).Text)), .int .i64 ((x.Kids.getD i default).N), .int .i64 ((x.Kids.getD i default).Dim), .int .i64 ((x.Kids.getD i default).At), sv1], .row vb8 5 1 ((lj ++ ([32, 123, 10] : List UInt8)).length) (bCells (lj ++ ([32, 123, 10] : List UInt8))), .blk b2 50 [.pointer (some ⟨b2, 0, none⟩), vb8], .blk b1 26 [.int .i64 x.Kind, .string (bs x.Text), .int .i64 x.N, .int .i64 x.Dim, .int .i64 x.At, kv]]) rfl (e_call (args := #[.pointer (some (⟨b2, 0, none⟩)), .string (bs ([32, 123, 10] : List UInt8))]) own18 rfl rfl (fun w1 hw1 => writeS_p (l := lj) (r := ([32, 123, 10] : List UInt8)) rfl [.blk b3 26 [.int .i64 ((x.Kids.getD i default).Kind), .string (bs ((x.Kids.getD i default).Text)), .int .i64 ((x.Kids.getD i default).N), .int .i64 ((x.Kids.getD i default).Dim), .int .i64 ((x.Kids.getD i default).At), sv1]] [.blk b1 26 [.int .i64 x.Kind, .string (bs x.Text), .int .i64 x.N, .int .i64 x.Dim, .int .i64 x.At, kv]] (.inr rfl) (by simp) (by simp only [List.length_cons, List.length_nil]; omega) w1 hw1)) ?_
          intro vb8
          refine RW.nil ?_
          refine Post.then_n ?_
          refine AW.seq ?_
          refine AW.seq ?_
          refine AW.region ?_
          refine RW.q (v := .pointer (some (⟨b3, 5, none⟩))) rfl (q_fieldAddr rfl Tryd.underlying26 rfl sz24 rfl) ?_
          refine RW.q (v := sv1) rfl (q_load rfl Tryd.underlying24 rfl (Cell.blk 0 rfl rfl)) ?_
          refine RW.q (v := .int .i64 (j : Int)) rfl (q_move rfl) ?_
          refine RW.q (v := (subSl sv1 j (((x.Kids.getD i default).Kids).length) 6)) rfl (q_sliceL (v := sv1) (l := (j : Int)) rfl rfl hsv1.sl Tryd.underlying24 sz26 (by omega) (by omega)) ?_
          refine RW.q (v := .int .i64 (((((x.Kids.getD i default).Kids).length) - j : Nat) : Int)) rfl (q_len_sl rfl (isSl_sub hsv1.sl (by omega) (by omega)) Tryd.underlying24) ?_
          refine RW.q (v := .int .i64 0) rfl (q_move rfl) ?_
          refine RW.nil ?_
          refine Post.then_n ?_
          refine AW.block ?_
          have hPr : RepSl Φ ((x.Kids.getD i default).Kids.drop j) (subSl sv1 j (((x.Kids.getD i default).Kids).length) 6) := by have h9 := (hsv1.part (l := j) (m := ((x.Kids.getD i default).Kids).length) (by omega) (by omega)); rwa [List.take_length] at h9
          have hPl : ((x.Kids.getD i default).Kids.drop j).length = (x.Kids.getD i default).Kids.length - j := List.length_drop
          refine AW.loop (fun s J m => ∃ (k : Nat), ∃ (lk : List UInt8), ∃ (vk : Value), s = [(1, .pointer (some (⟨b1, 0, none⟩))), (3, .pointer (some (⟨b2, 0, none⟩))), (15, kv), (16, .int .i64 ((x.Kids.length : Nat) : Int)), (17, .int .i64 (i : Int)), (52, (subSl sv1 j (((x.Kids.getD i default).Kids).length) 6)), (53, .int .i64 (((((x.Kids.getD i default).Kids).length) - j : Nat) : Int)), (54, .int .i64 (k : Int))] ∧ J = St ⟨w, Φ, []⟩ Φ [.blk b3 26 [.int .i64 ((x.Kids.getD i default).Kind), .string (bs ((x.Kids.getD i default).Text)), .int .i64 ((x.Kids.getD i default).N), .int .i64 ((x.Kids.getD i default).Dim), .int .i64 ((x.Kids.getD i default).At), sv1], .row vk 5 1 lk.length (bCells lk), .blk b2 50 [.pointer (some ⟨b2, 0, none⟩), vk], .blk b1 26 [.int .i64 x.Kind, .string (bs x.Text), .int .i64 x.N, .int .i64 x.Dim, .int .i64 x.At, kv]] ∧ m = ((x.Kids.getD i default).Kids.drop j).length - k ∧ (k ≤ ((x.Kids.getD i default).Kids.drop j).length) ∧ (lk = li ++ (x.Kids.getD i default).Text ++ Pa.wrVs ((x.Kids.getD i default).Kids.take j) ++ [32, 123, 10] ++ (((x.Kids.getD i default).Kids.drop j).take k).flatMap Pa.wrProp)) (s0 := _) (J1 := _) (m0 := _) ⟨0, (lj ++ [32, 123, 10]), _, rfl, rfl, rfl, (Nat.zero_le _), (by rw [hlj, List.take_zero]; exact (List.append_nil _).symm)⟩ ⟨rfl, rfl, rfl, rfl, rfl, rfl, rfl, rfl, trivial⟩ (fun _ h => h) ?_
          rintro _ _ _ _ ⟨k, lk, vk, rfl, rfl, rfl, hkl, hlk⟩
          refine AW.seq ?_
          refine AW.region ?_
          refine RW.q (v := .bool (decide ((k : Int) < (((((x.Kids.getD i default).Kids).length) - j : Nat) : Int)))) rfl (q_lss rfl rfl) ?_
          refine RW.nil ?_
          refine Post.then_n ?_
          refine AW.seq ?_
          refine AW.cond (b := decide ((k : Int) < (((((x.Kids.getD i default).Kids).length) - j : Nat) : Int))) rfl (fun hc7 => ?_) (fun hc7 => ?_)
          · simp [-List.getD_eq_getElem?_getD] at hc7
            refine AW.skip ?_
            refine Post.then_n ?_
            refine AW.seq ?_
            refine AW.block ?_
            refine AW.seq ?_
            have hS := Pa.wrP_step (l := ((x.Kids.getD i default).Kids.drop j)) (k := k) (by omega)
            have hSl := Pa.wrProp_len (((x.Kids.getD i default).Kids.drop j).getD k default)
            have hlk2 := congrArg List.length hlk
            simp only [List.length_append, List.length_cons, List.length_nil] at hlk2
            refine AW.region ?_
            refine RW.q (v := .pointer (some (Value.at (subSl sv1 j (((x.Kids.getD i default).Kids).length) 6) (k * 6)))) rfl (q_indexAddr rfl rfl hPr.sl Tryd.underlying24 sz26 (by omega) (by omega) rfl) ?_
            obtain ⟨cv5, hcr5, hcc5⟩ := RepSl.whole (k := k) hPr (by omega)
            obtain ⟨sv5, hcE5, hcw5, hsv5⟩ := repN.1 hcr5
            subst hcE5
            refine RW.q (v := .agg #[.int .i64 ((((x.Kids.getD i default).Kids.drop j).getD k default).Kind), .string (bs ((((x.Kids.getD i default).Kids.drop j).getD k default).Text)), .int .i64 ((((x.Kids.getD i default).Kids.drop j).getD k default).N), .int .i64 ((((x.Kids.getD i default).Kids.drop j).getD k default).Dim), .int .i64 ((((x.Kids.getD i default).Kids.drop j).getD k default).At), sv5]) rfl (q_loadAgg rfl Tryd.underlying26 rfl sz26 rfl (Cells.phiK hcc5)) ?_
            refine RW.eff (fun b6 : Nat => .pointer (some (⟨b6, 0, none⟩))) (fun b6 => St ⟨w, Φ, []⟩ Φ [.blk b6 26 [.int .i64 0, .string (bs ([])), .int .i64 0, .int .i64 0, .int .i64 0, (.slice none 0 0)], .blk b3 26 [.int .i64 ((x.Kids.getD i default).Kind), .string (bs ((x.Kids.getD i default).Text)), .int .i64 ((x.Kids.getD i default).N), .int .i64 ((x.Kids.getD i default).Dim), .int .i64 ((x.Kids.getD i default).At), sv1], .row vk 5 1 lk.length (bCells lk), .blk b2 50 [.pointer (some ⟨b2, 0, none⟩), vk], .blk b1 26 [.int .i64 x.Kind, .string (bs x.Text), .int .i64 x.N, .int .i64 x.Dim, .int .i64 x.At, kv]]) rfl (e_alloc zero26) ?_
            intro b6
            refine RW.effn (J' := St ⟨w, Φ, []⟩ Φ [.blk b6 26 [.int .i64 ((((x.Kids.getD i default).Kids.drop j).getD k default).Kind), .string (bs ((((x.Kids.getD i default).Kids.drop j).getD k default).Text)), .int .i64 ((((x.Kids.getD i default).Kids.drop j).getD k default).N), .int .i64 ((((x.Kids.getD i default).Kids.drop j).getD k default).Dim), .int .i64 ((((x.Kids.getD i default).Kids.drop j).getD k default).At), sv5], .blk b3 26 [.int .i64 ((x.Kids.getD i default).Kind), .string (bs ((x.Kids.getD i default).Text)), .int .i64 ((x.Kids.getD i default).N), .int .i64 ((x.Kids.getD i default).Dim), .int .i64 ((x.Kids.getD i default).At), sv1], .row vk 5 1 lk.length (bCells lk), .blk b2 50 [.pointer (some ⟨b2, 0, none⟩), vk], .blk b1 26 [.int .i64 x.Kind, .string (bs x.Text), .int .i64 x.N, .int .i64 x.Dim, .int .i64 x.At, kv]]) (e_store (v := .agg #[.int .i64 ((((x.Kids.getD i default).Kids.drop j).getD k default).Kind), .string (bs ((((x.Kids.getD i default).Kids.drop j).getD k default).Text)), .int .i64 ((((x.Kids.getD i default).Kids.drop j).getD k default).N), .int .i64 ((((x.Kids.getD i default).Kids.drop j).getD k default).Dim), .int .i64 ((((x.Kids.getD i default).Kids.drop j).getD k default).At), sv5]) 0 rfl rfl rfl sz26 rfl (List.all_eq_true.2 (fun u hu => Rep.one (show Rep.rep _ _ _ from hcr5) u hu)) rfl rfl rfl) ?_
            refine RW.nil ?_
            refine Post.then_n ?_
            refine AW.seq ?_
            have hpm : (((x.Kids.getD i default).Kids.drop j).getD k default).Kids.length * 72 ≤ 140737488355328 := hsv5.max
            refine AW.region ?_
            refine RW.q (v := .pointer (some (⟨b6, 1, none⟩))) rfl (q_fieldAddr rfl Tryd.underlying26 rfl sz9 rfl) ?_
            refine RW.q (v := .string (bs ((((x.Kids.getD i default).Kids.drop j).getD k default).Text))) rfl (q_load rfl Tryd.underlying9 rfl (Cell.blk 0 rfl rfl)) ?_
            refine RW.q (v := .string (bs (([32, 32] : List UInt8) ++ ((((x.Kids.getD i default).Kids.drop j).getD k default).Text)))) rfl (q_catStr (l := ([32, 32] : List UInt8)) (r := (((x.Kids.getD i default).Kids.drop j).getD k default).Text) rfl rfl (by simp only [List.length_append, List.length_cons, List.length_nil]; omega) rfl) ?_
            refine RW.eff (fun vb9 : Value => .tuple #[.int .i64 (((([32, 32] : List UInt8) ++ ((((x.Kids.getD i default).Kids.drop j).getD k default).Text)).length : Nat) : Int), .nilIface]) (fun vb9 => St ⟨w, Φ, []⟩ Φ [.blk b6 26 [.int .i64 ((((x.Kids.getD i default).Kids.drop j).getD k default).Kind), .string (bs ((((x.Kids.getD i default).Kids.drop j).getD k default).Text)), .int .i64 ((((x.Kids.getD i default).Kids.drop j).getD k default).N), .int .i64 ((((x.Kids.getD i default).Kids.drop j).getD k default).Dim), .int .i64 ((((x.Kids.getD i default).Kids.drop j).getD k default).At), sv5], .blk b3 26 [.int .i64 ((x.Kids.getD i default).Kind), .string (bs ((x.Kids.getD i default).Text)), .int .i64 ((x.Kids.getD i default).N), .int .i64 ((x.Kids.getD i default).Dim), .int .i64 ((x.Kids.getD i default).At), sv1], .row vb9 5 1 ((lk ++ (([32, 32] : List UInt8) ++ ((((x.Kids.getD i default).Kids.drop j).getD k default).Text))).length) (bCells (lk ++ (([32, 32] : List UInt8) ++ ((((x.Kids.getD i default).Kids.drop j).getD k default).Text)))), .blk b2 50 [.pointer (some ⟨b2, 0, none⟩), vb9], .blk b1 26 [.int .i64 x.Kind, .string (bs x.Text), .int .i64 x.N, .int .i64 x.Dim, .int .i64 x.At, kv]]) rfl (e_call (args := #[.pointer (some (⟨b2, 0, none⟩)), .string (bs (([32, 32] : List UInt8) ++ ((((x.Kids.getD i default).Kids.drop j).getD k default).Text)))]) own18 rfl rfl (fun w1 hw1 => writeS_p (l := lk) (r := ([32, 32] : List UInt8) ++ ((((x.Kids.getD i default).Kids.drop j).getD k default).Text)) rfl [.blk b6 26 [.int .i64 ((((x.Kids.getD i default).Kids.drop j).getD k default).Kind), .string (bs ((((x.Kids.getD i default).Kids.drop j).getD k default).Text)), .int .i64 ((((x.Kids.getD i default).Kids.drop j).getD k default).N), .int .i64 ((((x.Kids.getD i default).Kids.drop j).getD k default).Dim), .int .i64 ((((x.Kids.getD i default).Kids.drop j).getD k default).At), sv5], .blk b3 26 [.int .i64 ((x.Kids.getD i default).Kind), .string (bs ((x.Kids.getD i default).Text)), .int .i64 ((x.Kids.getD i default).N), .int .i64 ((x.Kids.getD i default).Dim), .int .i64 ((x.Kids.getD i default).At), sv1]] [.blk b1 26 [.int .i64 x.Kind, .string (bs x.Text), .int .i64 x.N, .int .i64 x.Dim, .int .i64 x.At, kv]] (.inr rfl) (by simp) (by simp only [List.length_append, List.length_cons, List.length_nil]; omega) w1 hw1)) ?_
            intro vb9
            refine RW.nil ?_
            refine Post.then_n ?_
            refine AW.seq ?_
            refine AW.seq ?_
            refine AW.region ?_
            refine RW.q (v := .pointer (some (⟨b6, 5, none⟩))) rfl (q_fieldAddr rfl Tryd.underlying26 rfl sz24 rfl) ?_
            refine RW.q (v := sv5) rfl (q_load rfl Tryd.underlying24 rfl (Cell.blk 0 rfl rfl)) ?_
            refine RW.q (v := .int .i64 ((((((x.Kids.getD i default).Kids.drop j).getD k default).Kids).length : Nat) : Int)) rfl (q_len_sl rfl hsv5.sl Tryd.underlying24) ?_
            refine RW.q (v := .int .i64 0) rfl (q_move rfl) ?_
            refine RW.nil ?_
            refine Post.then_n ?_
            refine AW.block ?_
            refine AW.loop (fun s J m => ∃ (q : Nat), ∃ (lq : List UInt8), ∃ (vq : Value), s = [(1, .pointer (some (⟨b1, 0, none⟩))), (3, .pointer (some (⟨b2, 0, none⟩))), (15, kv), (16, .int .i64 ((x.Kids.length : Nat) : Int)), (17, .int .i64 (i : Int)), (52, (subSl sv1 j (((x.Kids.getD i default).Kids).length) 6)), (53, .int .i64 (((((x.Kids.getD i default).Kids).length) - j : Nat) : Int)), (54, .int .i64 (k : Int)), (63, sv5), (64, .int .i64 ((((((x.Kids.getD i default).Kids.drop j).getD k default).Kids).length : Nat) : Int)), (65, .int .i64 (q : Int))] ∧ J = St ⟨w, Φ, []⟩ Φ [.blk b6 26 [.int .i64 ((((x.Kids.getD i default).Kids.drop j).getD k default).Kind), .string (bs ((((x.Kids.getD i default).Kids.drop j).getD k default).Text)), .int .i64 ((((x.Kids.getD i default).Kids.drop j).getD k default).N), .int .i64 ((((x.Kids.getD i default).Kids.drop j).getD k default).Dim), .int .i64 ((((x.Kids.getD i default).Kids.drop j).getD k default).At), sv5], .blk b3 26 [.int .i64 ((x.Kids.getD i default).Kind), .string (bs ((x.Kids.getD i default).Text)), .int .i64 ((x.Kids.getD i default).N), .int .i64 ((x.Kids.getD i default).Dim), .int .i64 ((x.Kids.getD i default).At), sv1], .row vq 5 1 lq.length (bCells lq), .blk b2 50 [.pointer (some ⟨b2, 0, none⟩), vq], .blk b1 26 [.int .i64 x.Kind, .string (bs x.Text), .int .i64 x.N, .int .i64 x.Dim, .int .i64 x.At, kv]] ∧ m = (((x.Kids.getD i default).Kids.drop j).getD k default).Kids.length - q ∧ (q ≤ (((x.Kids.getD i default).Kids.drop j).getD k default).Kids.length) ∧ (lq = lk ++ ([32, 32] ++ (((x.Kids.getD i default).Kids.drop j).getD k default).Text) ++ Pa.wrVs ((((x.Kids.getD i default).Kids.drop j).getD k default).Kids.take q))) (s0 := _) (J1 := _) (m0 := _) ⟨0, (lk ++ ([32, 32] ++ (((x.Kids.getD i default).Kids.drop j).getD k default).Text)), _, rfl, rfl, rfl, (Nat.zero_le _), (by rw [List.take_zero]; exact (List.append_nil _).symm)⟩ ⟨rfl, rfl, rfl, rfl, rfl, rfl, rfl, rfl, rfl, rfl, rfl, trivial⟩ (fun _ h => h) ?_
            rintro _ _ _ _ ⟨q, lq, vq, rfl, rfl, rfl, hql, hlq⟩
            refine AW.seq ?_
            refine AW.region ?_
            refine RW.q (v := .bool (decide ((q : Int) < ((((((x.Kids.getD i default).Kids.drop j).getD k default).Kids).length : Nat) : Int)))) rfl (q_lss rfl rfl) ?_
            refine RW.nil ?_
            refine Post.then_n ?_
            refine AW.seq ?_
            refine AW.cond (b := decide ((q : Int) < ((((((x.Kids.getD i default).Kids.drop j).getD k default).Kids).length : Nat) : Int))) rfl (fun hc8 => ?_) (fun hc8 => ?_)
            · simp [-List.getD_eq_getElem?_getD] at hc8
              refine AW.skip ?_
              refine Post.then_n ?_
              refine AW.seq ?_
              refine AW.block ?_
              refine AW.seq ?_
              have hV := Pa.wrVs_stepV (l := (((x.Kids.getD i default).Kids.drop j).getD k default).Kids) (j := q) (by omega)
              have hlq2 := congrArg List.length hlq
              simp only [List.length_append, List.length_cons, List.length_nil] at hlq2
              refine AW.region ?_
              refine RW.q (v := .pointer (some (Value.at sv5 (q * 6)))) rfl (q_indexAddr rfl rfl hsv5.sl Tryd.underlying24 sz26 (by omega) (by omega) rfl) ?_
              obtain ⟨cv6, hcr6, hcc6⟩ := RepSl.whole (k := q) hsv5 (by omega)
              obtain ⟨sv6, hcE6, hcw6, hsv6⟩ := repN.1 hcr6
              subst hcE6
              refine RW.q (v := .agg #[.int .i64 ((((((x.Kids.getD i default).Kids.drop j).getD k default).Kids).getD q default).Kind), .string (bs ((((((x.Kids.getD i default).Kids.drop j).getD k default).Kids).getD q default).Text)), .int .i64 ((((((x.Kids.getD i default).Kids.drop j).getD k default).Kids).getD q default).N), .int .i64 ((((((x.Kids.getD i default).Kids.drop j).getD k default).Kids).getD q default).Dim), .int .i64 ((((((x.Kids.getD i default).Kids.drop j).getD k default).Kids).getD q default).At), sv6]) rfl (q_loadAgg rfl Tryd.underlying26 rfl sz26 rfl (Cells.phiK hcc6)) ?_
              refine RW.eff (fun b7 : Nat => .pointer (some (⟨b7, 0, none⟩))) (fun b7 => St ⟨w, Φ, []⟩ Φ [.blk b7 26 [.int .i64 0, .string (bs ([])), .int .i64 0, .int .i64 0, .int .i64 0, (.slice none 0 0)], .blk b6 26 [.int .i64 ((((x.Kids.getD i default).Kids.drop j).getD k default).Kind), .string (bs ((((x.Kids.getD i default).Kids.drop j).getD k default).Text)), .int .i64 ((((x.Kids.getD i default).Kids.drop j).getD k default).N), .int .i64 ((((x.Kids.getD i default).Kids.drop j).getD k default).Dim), .int .i64 ((((x.Kids.getD i default).Kids.drop j).getD k default).At), sv5], .blk b3 26 [.int .i64 ((x.Kids.getD i default).Kind), .string (bs ((x.Kids.getD i default).Text)), .int .i64 ((x.Kids.getD i default).N), .int .i64 ((x.Kids.getD i default).Dim), .int .i64 ((x.Kids.getD i default).At), sv1], .row vq 5 1 lq.length (bCells lq), .blk b2 50 [.pointer (some ⟨b2, 0, none⟩), vq], .blk b1 26 [.int .i64 x.Kind, .string (bs x.Text), .int .i64 x.N, .int .i64 x.Dim, .int .i64 x.At, kv]]) rfl (e_alloc zero26) ?_
              intro b7
              refine RW.effn (J' := St ⟨w, Φ, []⟩ Φ [.blk b7 26 [.int .i64 ((((((x.Kids.getD i default).Kids.drop j).getD k default).Kids).getD q default).Kind), .string (bs ((((((x.Kids.getD i default).Kids.drop j).getD k default).Kids).getD q default).Text)), .int .i64 ((((((x.Kids.getD i default).Kids.drop j).getD k default).Kids).getD q default).N), .int .i64 ((((((x.Kids.getD i default).Kids.drop j).getD k default).Kids).getD q default).Dim), .int .i64 ((((((x.Kids.getD i default).Kids.drop j).getD k default).Kids).getD q default).At), sv6], .blk b6 26 [.int .i64 ((((x.Kids.getD i default).Kids.drop j).getD k default).Kind), .string (bs ((((x.Kids.getD i default).Kids.drop j).getD k default).Text)), .int .i64 ((((x.Kids.getD i default).Kids.drop j).getD k default).N), .int .i64 ((((x.Kids.getD i default).Kids.drop j).getD k default).Dim), .int .i64 ((((x.Kids.getD i default).Kids.drop j).getD k default).At), sv5], .blk b3 26 [.int .i64 ((x.Kids.getD i default).Kind), .string (bs ((x.Kids.getD i default).Text)), .int .i64 ((x.Kids.getD i default).N), .int .i64 ((x.Kids.getD i default).Dim), .int .i64 ((x.Kids.getD i default).At), sv1], .row vq 5 1 lq.length (bCells lq), .blk b2 50 [.pointer (some ⟨b2, 0, none⟩), vq], .blk b1 26 [.int .i64 x.Kind, .string (bs x.Text), .int .i64 x.N, .int .i64 x.Dim, .int .i64 x.At, kv]]) (e_store (v := .agg #[.int .i64 ((((((x.Kids.getD i default).Kids.drop j).getD k default).Kids).getD q default).Kind), .string (bs ((((((x.Kids.getD i default).Kids.drop j).getD k default).Kids).getD q default).Text)), .int .i64 ((((((x.Kids.getD i default).Kids.drop j).getD k default).Kids).getD q default).N), .int .i64 ((((((x.Kids.getD i default).Kids.drop j).getD k default).Kids).getD q default).Dim), .int .i64 ((((((x.Kids.getD i default).Kids.drop j).getD k default).Kids).getD q default).At), sv6]) 0 rfl rfl rfl sz26 rfl (List.all_eq_true.2 (fun u hu => Rep.one (show Rep.rep _ _ _ from hcr6) u hu)) rfl rfl rfl) ?_
              refine RW.nil ?_
              refine Post.then_n ?_
              refine AW.region ?_
              refine RW.q (v := .agg #[.int .i64 ((((((x.Kids.getD i default).Kids.drop j).getD k default).Kids).getD q default).Kind), .string (bs ((((((x.Kids.getD i default).Kids.drop j).getD k default).Kids).getD q default).Text)), .int .i64 ((((((x.Kids.getD i default).Kids.drop j).getD k default).Kids).getD q default).N), .int .i64 ((((((x.Kids.getD i default).Kids.drop j).getD k default).Kids).getD q default).Dim), .int .i64 ((((((x.Kids.getD i default).Kids.drop j).getD k default).Kids).getD q default).At), sv6]) rfl (q_loadAgg rfl Tryd.underlying26 rfl sz26 rfl (Cells.blk 0 rfl)) ?_
              refine RW.q (v := .string (bs (Pa.wr (((((x.Kids.getD i default).Kids.drop j).getD k default).Kids).getD q default)))) rfl (q_call (args := #[.agg #[.int .i64 ((((((x.Kids.getD i default).Kids.drop j).getD k default).Kids).getD q default).Kind), .string (bs ((((((x.Kids.getD i default).Kids.drop j).getD k default).Kids).getD q default).Text)), .int .i64 ((((((x.Kids.getD i default).Kids.drop j).getD k default).Kids).getD q default).N), .int .i64 ((((((x.Kids.getD i default).Kids.drop j).getD k default).Kids).getD q default).Dim), .int .i64 ((((((x.Kids.getD i default).Kids.drop j).getD k default).Kids).getD q default).At), sv6]]) own19 rfl rfl (fun w1 hw1 => written_c (((((x.Kids.getD i default).Kids.drop j).getD k default).Kids).getD q default) w1 (Go.K.hp w1) (Hp.le_refl _) (hG.mono hw1.phi) (hsv6.mono hw1.phi) hcw6 (by omega))) ?_
              refine RW.q (v := .string (bs (([32] : List UInt8) ++ (Pa.wr (((((x.Kids.getD i default).Kids.drop j).getD k default).Kids).getD q default))))) rfl (q_catStr (l := ([32] : List UInt8)) (r := Pa.wr (((((x.Kids.getD i default).Kids.drop j).getD k default).Kids).getD q default)) rfl rfl (by simp only [List.length_append, List.length_cons, List.length_nil]; omega) rfl) ?_
              refine RW.eff (fun vb10 : Value => .tuple #[.int .i64 (((([32] : List UInt8) ++ (Pa.wr (((((x.Kids.getD i default).Kids.drop j).getD k default).Kids).getD q default))).length : Nat) : Int), .nilIface]) (fun vb10 => St ⟨w, Φ, []⟩ Φ [.blk b7 26 [.int .i64 ((((((x.Kids.getD i default).Kids.drop j).getD k default).Kids).getD q default).Kind), .string (bs ((((((x.Kids.getD i default).Kids.drop j).getD k default).Kids).getD q default).Text)), .int .i64 ((((((x.Kids.getD i default).Kids.drop j).getD k default).Kids).getD q default).N), .int .i64 ((((((x.Kids.getD i default).Kids.drop j).getD k default).Kids).getD q default).Dim), .int .i64 ((((((x.Kids.getD i default).Kids.drop j).getD k default).Kids).getD q default).At), sv6], .blk b6 26 [.int .i64 ((((x.Kids.getD i default).Kids.drop j).getD k default).Kind), .string (bs ((((x.Kids.getD i default).Kids.drop j).getD k default).Text)), .int .i64 ((((x.Kids.getD i default).Kids.drop j).getD k default).N), .int .i64 ((((x.Kids.getD i default).Kids.drop j).getD k default).Dim), .int .i64 ((((x.Kids.getD i default).Kids.drop j).getD k default).At), sv5], .blk b3 26 [.int .i64 ((x.Kids.getD i default).Kind), .string (bs ((x.Kids.getD i default).Text)), .int .i64 ((x.Kids.getD i default).N), .int .i64 ((x.Kids.getD i default).Dim), .int .i64 ((x.Kids.getD i default).At), sv1], .row vb10 5 1 ((lq ++ (([32] : List UInt8) ++ (Pa.wr (((((x.Kids.getD i default).Kids.drop j).getD k default).Kids).getD q default)))).length) (bCells (lq ++ (([32] : List UInt8) ++ (Pa.wr (((((x.Kids.getD i default).Kids.drop j).getD k default).Kids).getD q default))))), .blk b2 50 [.pointer (some ⟨b2, 0, none⟩), vb10], .blk b1 26 [.int .i64 x.Kind, .string (bs x.Text), .int .i64 x.N, .int .i64 x.Dim, .int .i64 x.At, kv]]) rfl (e_call (args := #[.pointer (some (⟨b2, 0, none⟩)), .string (bs (([32] : List UInt8) ++ (Pa.wr (((((x.Kids.getD i default).Kids.drop j).getD k default).Kids).getD q default))))]) own18 rfl rfl (fun w1 hw1 => writeS_p (l := lq) (r := ([32] : List UInt8) ++ (Pa.wr (((((x.Kids.getD i default).Kids.drop j).getD k default).Kids).getD q default))) rfl [.blk b7 26 [.int .i64 ((((((x.Kids.getD i default).Kids.drop j).getD k default).Kids).getD q default).Kind), .string (bs ((((((x.Kids.getD i default).Kids.drop j).getD k default).Kids).getD q default).Text)), .int .i64 ((((((x.Kids.getD i default).Kids.drop j).getD k default).Kids).getD q default).N), .int .i64 ((((((x.Kids.getD i default).Kids.drop j).getD k default).Kids).getD q default).Dim), .int .i64 ((((((x.Kids.getD i default).Kids.drop j).getD k default).Kids).getD q default).At), sv6], .blk b6 26 [.int .i64 ((((x.Kids.getD i default).Kids.drop j).getD k default).Kind), .string (bs ((((x.Kids.getD i default).Kids.drop j).getD k default).Text)), .int .i64 ((((x.Kids.getD i default).Kids.drop j).getD k default).N), .int .i64 ((((x.Kids.getD i default).Kids.drop j).getD k default).Dim), .int .i64 ((((x.Kids.getD i default).Kids.drop j).getD k default).At), sv5], .blk b3 26 [.int .i64 ((x.Kids.getD i default).Kind), .string (bs ((x.Kids.getD i default).Text)), .int .i64 ((x.Kids.getD i default).N), .int .i64 ((x.Kids.getD i default).Dim), .int .i64 ((x.Kids.getD i default).At), sv1]] [.blk b1 26 [.int .i64 x.Kind, .string (bs x.Text), .int .i64 x.N, .int .i64 x.Dim, .int .i64 x.At, kv]] (.inr rfl) (by simp) (by simp only [List.length_append, List.length_cons, List.length_nil]; omega) w1 hw1)) ?_
              intro vb10
              refine RW.nil ?_
              refine Post.blk_n (Post.then_n ?_)
              refine AW.region ?_
              refine RW.q (v := .int .i64 ((q + 1 : Nat) : Int)) rfl (q_add rfl rfl (by omega) (by unfold I64; omega)) ?_
              refine RW.q (v := .int .i64 ((q + 1 : Nat) : Int)) rfl (q_move rfl) ?_
              refine RW.nil ?_
              exact Post.back (s' := _) (J' := _) (m' := _) (by omega) ⟨q + 1, (lq ++ ([32] ++ Pa.wr ((((x.Kids.getD i default).Kids.drop j).getD k default).Kids.getD q default))), _, rfl, rfl, rfl, (by omega), (by rw [hlq, Pa.wrVs_snoc (by omega)]; simp only [List.append_assoc])⟩ ⟨rfl, rfl, rfl, rfl, rfl, rfl, rfl, rfl, rfl, rfl, rfl, trivial⟩ (fun _ h => StP.drop h (by exact .cons _ (.cons_cons _ (.cons_cons _ (.cons_cons _ (.cons_cons _ (.cons_cons _ (.slnil))))))))
            · simp [-List.getD_eq_getElem?_getD] at hc8
              refine AW.exit ?_
              refine Post.then_x (Post.then_x (Post.blk_hit (Post.then_n ?_)))
              have hlq2 := congrArg List.length hlq
              simp only [List.length_append, List.length_cons, List.length_nil] at hlq2
              have hV := Pa.wrVs_le (l := (((x.Kids.getD i default).Kids.drop j).getD k default).Kids) q
              refine AW.region ?_
              refine RW.eff (fun vb11 : Value => .tuple #[.int .i64 ((([59, 10] : List UInt8).length : Nat) : Int), .nilIface]) (fun vb11 => St ⟨w, Φ, []⟩ Φ [.blk b6 26 [.int .i64 ((((x.Kids.getD i default).Kids.drop j).getD k default).Kind), .string (bs ((((x.Kids.getD i default).Kids.drop j).getD k default).Text)), .int .i64 ((((x.Kids.getD i default).Kids.drop j).getD k default).N), .int .i64 ((((x.Kids.getD i default).Kids.drop j).getD k default).Dim), .int .i64 ((((x.Kids.getD i default).Kids.drop j).getD k default).At), sv5], .blk b3 26 [.int .i64 ((x.Kids.getD i default).Kind), .string (bs ((x.Kids.getD i default).Text)), .int .i64 ((x.Kids.getD i default).N), .int .i64 ((x.Kids.getD i default).Dim), .int .i64 ((x.Kids.getD i default).At), sv1], .row vb11 5 1 ((lq ++ ([59, 10] : List UInt8)).length) (bCells (lq ++ ([59, 10] : List UInt8))), .blk b2 50 [.pointer (some ⟨b2, 0, none⟩), vb11], .blk b1 26 [.int .i64 x.Kind, .string (bs x.Text), .int .i64 x.N, .int .i64 x.Dim, .int .i64 x.At, kv]]) rfl (e_call (args := #[.pointer (some (⟨b2, 0, none⟩)), .string (bs ([59, 10] : List UInt8))]) own18 rfl rfl (fun w1 hw1 => writeS_p (l := lq) (r := ([59, 10] : List UInt8)) rfl [.blk b6 26 [.int .i64 ((((x.Kids.getD i default).Kids.drop j).getD k default).Kind), .string (bs ((((x.Kids.getD i default).Kids.drop j).getD k default).Text)), .int .i64 ((((x.Kids.getD i default).Kids.drop j).getD k default).N), .int .i64 ((((x.Kids.getD i default).Kids.drop j).getD k default).Dim), .int .i64 ((((x.Kids.getD i default).Kids.drop j).getD k default).At), sv5], .blk b3 26 [.int .i64 ((x.Kids.getD i default).Kind), .string (bs ((x.Kids.getD i default).Text)), .int .i64 ((x.Kids.getD i default).N), .int .i64 ((x.Kids.getD i default).Dim), .int .i64 ((x.Kids.getD i default).At), sv1]] [.blk b1 26 [.int .i64 x.Kind, .string (bs x.Text), .int .i64 x.N, .int .i64 x.Dim, .int .i64 x.At, kv]] (.inr rfl) (by simp) (by simp only [List.length_cons, List.length_nil]; omega) w1 hw1)) ?_
              intro vb11
              refine RW.nil ?_
              refine Post.blk_n (Post.then_n ?_)
              refine AW.region ?_
              refine RW.q (v := .int .i64 ((k + 1 : Nat) : Int)) rfl (q_add rfl rfl (by omega) (by unfold I64; omega)) ?_
              refine RW.q (v := .int .i64 ((k + 1 : Nat) : Int)) rfl (q_move rfl) ?_
              refine RW.nil ?_
              exact Post.back (s' := _) (J' := _) (m' := _) (by omega) ⟨k + 1, (lq ++ [59, 10]), _, rfl, rfl, rfl, (by omega), (by rw [Pa.flat_snoc (show k < ((x.Kids.getD i default).Kids.drop j).length by omega), hlq, hlk, List.take_of_length_le (show (((x.Kids.getD i default).Kids.drop j).getD k default).Kids.length ≤ q by omega), Pa.wrProp]; simp only [List.append_assoc])⟩ ⟨rfl, rfl, rfl, rfl, rfl, rfl, rfl, rfl, trivial⟩ (fun _ h => StP.drop h (by exact .cons _ (.cons_cons _ (.cons_cons _ (.cons_cons _ (.cons_cons _ (.slnil)))))))
          · simp [-List.getD_eq_getElem?_getD] at hc7
            refine AW.exit ?_
            refine Post.then_x (Post.then_x (Post.blk_hit (Post.then_n ?_)))
            have hlk2 := congrArg List.length hlk
            simp only [List.length_append, List.length_cons, List.length_nil] at hlk2
            have hS := Pa.flat_take_le (T := Pa.wrProp) (l := ((x.Kids.getD i default).Kids.drop j)) k
            refine AW.region ?_
            refine RW.eff (fun vb12 : Value => .tuple #[.int .i64 ((([125, 10] : List UInt8).length : Nat) : Int), .nilIface]) (fun vb12 => St ⟨w, Φ, []⟩ Φ [.blk b3 26 [.int .i64 ((x.Kids.getD i default).Kind), .string (bs ((x.Kids.getD i default).Text)), .int .i64 ((x.Kids.getD i default).N), .int .i64 ((x.Kids.getD i default).Dim), .int .i64 ((x.Kids.getD i default).At), sv1], .row vb12 5 1 ((lk ++ ([125, 10] : List UInt8)).length) (bCells (lk ++ ([125, 10] : List UInt8))), .blk b2 50 [.pointer (some ⟨b2, 0, none⟩), vb12], .blk b1 26 [.int .i64 x.Kind, .string (bs x.Text), .int .i64 x.N, .int .i64 x.Dim, .int .i64 x.At, kv]]) rfl (e_call (args := #[.pointer (some (⟨b2, 0, none⟩)), .string (bs ([125, 10] : List UInt8))]) own18 rfl rfl (fun w1 hw1 => writeS_p (l := lk) (r := ([125, 10] : List UInt8)) rfl [.blk b3 26 [.int .i64 ((x.Kids.getD i default).Kind), .string (bs ((x.Kids.getD i default).Text)), .int .i64 ((x.Kids.getD i default).N), .int .i64 ((x.Kids.getD i default).Dim), .int .i64 ((x.Kids.getD i default).At), sv1]] [.blk b1 26 [.int .i64 x.Kind, .string (bs x.Text), .int .i64 x.N, .int .i64 x.Dim, .int .i64 x.At, kv]] (.inr rfl) (by simp) (by simp only [List.length_cons, List.length_nil]; omega) w1 hw1)) ?_
            intro vb12
            refine RW.nil ?_
            refine Post.blk_n (Post.then_n ?_)
            refine AW.region ?_
            refine RW.q (v := .int .i64 ((i + 1 : Nat) : Int)) rfl (q_add rfl rfl (by omega) (by unfold I64; omega)) ?_
            refine RW.q (v := .int .i64 ((i + 1 : Nat) : Int)) rfl (q_move rfl) ?_
            refine RW.nil ?_
            exact Post.back (s' := _) (J' := _) (m' := _) (by omega) ⟨i + 1, (lk ++ [125, 10]), _, _, rfl, rfl, rfl, (by omega), (by rw [Pa.flat_snoc (by omega), ← hli, hlk, List.take_of_length_le (show ((x.Kids.getD i default).Kids.drop j).length ≤ k by omega), Pa.wrDecl, hpn]; simp only [List.append_assoc]), (.inr rfl)⟩ ⟨rfl, rfl, rfl, rfl, rfl, trivial⟩ (fun _ h => StP.drop h (by exact .cons _ (.cons_cons _ (.cons_cons _ (.cons_cons _ (.slnil))))))
    · simp [-List.getD_eq_getElem?_getD] at hc2
      refine AW.exit ?_
      refine Post.then_x (Post.then_x (Post.blk_hit (Post.then_n ?_)))
      refine AW.seq ?_
      refine AW.region ?_
      refine RW.eff (fun u1 : Unit => .string (bs li)) (fun u1 => St ⟨w, Φ, []⟩ Φ []) rfl (e_call (args := #[.pointer (some (⟨b2, 0, none⟩))]) own20 rfl rfl (fun w1 hw1 => bldString_c (n := li.length) (l := li) rfl rfl hlow hpp w1 (StP.perm hw1 (permB (pre := []) (post := [.blk b1 26 [.int .i64 x.Kind, .string (bs x.Text), .int .i64 x.N, .int .i64 x.Dim, .int .i64 x.At, kv]])).symm))) ?_
      intro u1
      refine RW.q (v := .string (bs li)) rfl (q_assign rfl) ?_
      refine RW.nil ?_
      refine Post.then_n ?_
      refine AW.ret ?_
      exact fin_val (v' := .string (bs li)) rfl rfl rfl (congrArg (fun z => Value.string (bs z)) (by rw [hwr, hli, List.take_of_length_le (by omega)]))

end Go.Proofs.YtjcahklnkakklaaDoor
