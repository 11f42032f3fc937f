/- Walks (part TrD), printed by walk2.py. Conditions: those of each theorem. -/
import Derived.Test.YtjcahklnkakklaaDoorTTrC
import Derived.Test.YtjcahklnkakklaaDoorTBldA
namespace Go.Proofs.YtjcahklnkakklaaDoor
open Go Go.K Go.RowKit

set_option maxRecDepth 8000 in
set_option maxHeartbeats 1000000 in
theorem writeS_c {B : Bs} {Φ : Hp} {C : List Chunk} (hBE : B.E = []) {b n : Nat} {p v : Value} {l r : List UInt8} (hpp : p = .pointer none ∨ p = .pointer (some ⟨b, 0, none⟩)) (hn : n = l.length) (hlen : l.length + r.length ≤ 140737488355328) (w : World) (hW : (St B Φ (.blk b 50 [p, v] :: .row v 5 1 n (bCells l) :: C)).p w) :
    Calls Tryd.prog 18 #[.pointer (some ⟨b, 0, none⟩), .string (bs r)] w fun e w' => ∃ x : Value, e = .returned (.tuple #[.int .i64 ((r.length : Nat) : Int), .nilIface]) ∧ (St B Φ (.blk b 50 [.pointer (some ⟨b, 0, none⟩), x] :: .row x 5 1 ((l ++ r).length) (bCells (l ++ r)) :: C)).p w' := by
  have hv : IsSl v n := isSl_row 1 rfl hW
  refine calls_of_AW (args := [.pointer (some (⟨b, 0, none⟩)), .string (bs r)]) Tryd.func18 rfl (Nat.le_of_ble_eq_true rfl) (St B Φ ((.blk b 50 [p, v]) :: (.row v 5 1 n (bCells l)) :: C)) hW ?_
  show AW Tryd.prog 19 [] _ _ _ [(0, .pointer (some (⟨b, 0, none⟩))), (1, .string (bs r))] _
  refine AW.seq ?_
  refine AW.region ?_
  refine RW.q (v := .int .i64 0) rfl (q_assign rfl) ?_
  refine RW.q (v := .nilIface) rfl (q_assign rfl) ?_
  refine RW.nil ?_
  refine Post.then_n ?_
  refine AW.seq ?_
  refine AW.region ?_
  refine RW.q (v := .pointer (some (⟨b, 0, none⟩))) rfl (q_move rfl) ?_
  refine RW.eff (fun u1 : Unit => .tuple #[]) (fun u1 => St B Φ ((.blk b 50 [.pointer (some ⟨b, 0, none⟩), v]) :: (.row v 5 1 n (bCells l)) :: C)) rfl (e_call (args := #[.pointer (some (⟨b, 0, none⟩))]) own32 rfl rfl (fun w1 hw1 => copyCheck_c (by assumption) w1 hw1)) ?_
  intro u1
  refine RW.nil ?_
  refine Post.then_n ?_
  refine AW.seq ?_
  refine AW.region ?_
  refine RW.q (v := .pointer (some (⟨b, 0, none⟩))) rfl (q_move rfl) ?_
  refine RW.q (v := .pointer (some (⟨b, 0, none⟩))) rfl (q_move rfl) ?_
  refine RW.q (v := .pointer (some (⟨b, 0, none⟩))) rfl (q_nilCheck rfl) ?_
  refine RW.q (v := .pointer (some (⟨b, 1, none⟩))) rfl (q_fieldAddr rfl Tryd.underlying50 rfl sz48 rfl) ?_
  refine RW.q (v := v) rfl (q_load rfl Tryd.underlying48 rfl (Cell.blk 0 rfl rfl)) ?_
  refine RW.q (v := .string (bs r)) rfl (q_move rfl) ?_
  refine RW.eff (fun xv : {vq : Value // IsSl vq (n + r.length)} => xv.1) (fun xv => St B Φ ((.blk b 50 [.pointer (some ⟨b, 0, none⟩), v]) :: (.row xv.1 5 1 (n + r.length) (bCells (l ++ r))) :: C)) rfl (e_appendStr (r := r) 1 rfl rfl rfl Tryd.underlying48 Tryd.underlying9 inf5 (by omega) (fun _ => rfl)) ?_
  rintro ⟨va1, hva1⟩
  refine RW.q (v := .pointer (some (⟨b, 0, none⟩))) rfl (q_nilCheck rfl) ?_
  refine RW.q (v := .pointer (some (⟨b, 1, none⟩))) rfl (q_fieldAddr rfl Tryd.underlying50 rfl sz48 rfl) ?_
  refine RW.effn (J' := St B Φ ((.blk b 50 [.pointer (some ⟨b, 0, none⟩), va1]) :: (.row va1 5 1 (n + r.length) (bCells (l ++ r))) :: C)) (e_storeSl (v := va1) 0 rfl rfl rfl hva1 sz48 rfl rfl rfl) ?_
  refine RW.nil ?_
  refine Post.then_n ?_
  refine AW.seq ?_
  refine AW.region ?_
  refine RW.q (v := .string (bs r)) rfl (q_move rfl) ?_
  refine RW.q (v := .int .i64 ((r.length : Nat) : Int)) rfl (q_lenS (l := r) rfl Tryd.underlying9) ?_
  refine RW.q (v := .int .i64 ((r.length : Nat) : Int)) rfl (q_assign rfl) ?_
  refine RW.q (v := .nilIface) rfl (q_assign rfl) ?_
  refine RW.nil ?_
  refine Post.then_n ?_
  refine AW.ret ?_
  refine fin_out2 (v := .int .i64 ((r.length : Nat) : Int)) (u := .nilIface) rfl rfl rfl rfl (fun w' hw => ?_)
  refine ⟨va1, rfl, ?_⟩
  rw [List.length_append, ← hn]
  exact hw

theorem permB {r k : Chunk} {pre post : List Chunk} : (pre ++ (r :: k :: post)).Perm (k :: r :: (pre ++ post)) :=
  (List.perm_middle.trans ((List.perm_middle.cons r).trans (List.Perm.swap k r _)))
theorem writeS_p {B : Bs} {Φ : Hp} (hBE : B.E = []) (pre post : List Chunk) {b n : Nat} {p v : Value} {l r : List UInt8} (hpp : p = .pointer none ∨ p = .pointer (some ⟨b, 0, none⟩)) (hn : n = l.length) (hlen : l.length + r.length ≤ 140737488355328) (w : World)
    (hW : (St B Φ (pre ++ (.row v 5 1 n (bCells l) :: .blk b 50 [p, v] :: post))).p w) :
    Calls Tryd.prog 18 #[.pointer (some ⟨b, 0, none⟩), .string (bs r)] w fun e w' => ∃ x : Value, e = .returned (.tuple #[.int .i64 ((r.length : Nat) : Int), .nilIface]) ∧ (St B Φ (pre ++ (.row x 5 1 (l ++ r).length (bCells (l ++ r)) :: .blk b 50 [.pointer (some ⟨b, 0, none⟩), x] :: post))).p w' :=
  (writeS_c hBE hpp hn hlen w (StP.perm hW permB.symm)).mono fun e w' ⟨x, he, hp⟩ => ⟨x, he, StP.perm hp permB⟩

set_option maxRecDepth 8000 in
set_option maxHeartbeats 1000000 in
theorem written_s (w : World) (Φ : Hp) (hΦ : Hp.le Φ (hp w)) (hG : Knows Φ Glob) {x : Bt.Node} {kv : Value} (hk : RepSl Φ x.Kids kv) (hwx : wfN x) (hsz : (Pa.wr x).length ≤ 1099511627776) (ih : ∀ k, k < x.Kids.length → ∀ (w : World) (Φ : Hp), Hp.le Φ (hp w) → Knows Φ Glob → ∀ {kv : Value}, RepSl Φ (x.Kids.getD k default).Kids kv → wfN (x.Kids.getD k default) → (Pa.wr (x.Kids.getD k default)).length ≤ 1099511627776 → Calls Tryd.prog 19 #[.agg (ndC (x.Kids.getD k default) kv).toArray] w fun e w' => e = .returned (.string (bs (Pa.wr (x.Kids.getD k default)))) ∧ Bel w.heap.size w w') :
    Calls Tryd.prog 19 #[.agg (ndC x kv).toArray] w fun e w' => e = .returned (.string (bs (Pa.wr x))) ∧ Bel w.heap.size w w' := by
  refine calls_of_AW (args := [.agg #[.int .i64 x.Kind, .string (bs x.Text), .int .i64 x.N, .int .i64 x.Dim, .int .i64 x.At, kv]]) Tryd.func19 rfl (Nat.le_of_ble_eq_true rfl) (St ⟨w, Φ, []⟩ Φ []) (StP.init w Φ hΦ []) ?_
  show AW Tryd.prog 45 [] _ _ _ [(0, .agg #[.int .i64 x.Kind, .string (bs x.Text), .int .i64 x.N, .int .i64 x.Dim, .int .i64 x.At, kv])] _
  have hkm : x.Kids.length * 72 ≤ 140737488355328 := hk.max
  have htl : x.Text.length ≤ maxLen := hwx.2.1
  refine AW.seq ?_
  refine AW.region ?_
  refine RW.eff (fun b1 : Nat => .pointer (some (⟨b1, 0, none⟩))) (fun b1 => St ⟨w, Φ, []⟩ Φ [.blk b1 26 [.int .i64 x.Kind, .string (bs x.Text), .int .i64 x.N, .int .i64 x.Dim, .int .i64 x.At, kv]]) rfl (e_boxA (cs := [.int .i64 x.Kind, .string (bs x.Text), .int .i64 x.N, .int .i64 x.Dim, .int .i64 x.At, kv]) rfl) ?_
  intro b1
  refine RW.q (v := .string (bs ([] : List UInt8))) rfl (q_assign rfl) ?_
  refine RW.nil ?_
  refine Post.then_n ?_
  refine AW.seq ?_
  refine AW.seq ?_
  refine AW.region ?_
  refine RW.q (v := .pointer (some (⟨b1, 0, none⟩))) rfl (q_fieldAddr rfl Tryd.underlying26 rfl sz3 rfl) ?_
  refine RW.q (v := .int .i64 x.Kind) rfl (q_load rfl Tryd.underlying3 rfl (Cell.blk 0 rfl rfl)) ?_
  refine RW.nil ?_
  refine Post.then_n ?_
  refine AW.block ?_
  refine AW.seq ?_
  refine AW.region ?_
  refine RW.q (v := .bool (decide (x.Kind = 4))) rfl (q_eql rfl rfl) ?_
  refine RW.q (v := .bool (decide (x.Kind = 4))) rfl (q_assign rfl) ?_
  refine RW.nil ?_
  refine Post.then_n ?_
  refine AW.cond (b := decide (x.Kind = 4)) rfl (fun hc1 => ?_) (fun hc1 => ?_)
  · simp [-List.getD_eq_getElem?_getD] at hc1
    refine AW.seq ?_
    refine AW.region ?_
    refine RW.q (v := .pointer (some (⟨b1, 1, none⟩))) rfl (q_fieldAddr rfl Tryd.underlying26 rfl sz9 rfl) ?_
    refine RW.q (v := .string (bs x.Text)) rfl (q_load rfl Tryd.underlying9 rfl (Cell.blk 0 rfl rfl)) ?_
    refine RW.q (v := .string (bs (([34] : List UInt8) ++ x.Text))) rfl (q_catStr (l := ([34] : List UInt8)) (r := x.Text) rfl rfl (by simp only [List.length_append, List.length_cons, List.length_nil]; have := congrArg List.length (Pa.wr_4 hc1); simp only [List.length_append, List.length_cons, List.length_nil] at this; omega) rfl) ?_
    refine RW.q (v := .string (bs ((([34] : List UInt8) ++ x.Text) ++ ([34] : List UInt8)))) rfl (q_catStr (l := ([34] : List UInt8) ++ x.Text) (r := ([34] : List UInt8)) rfl rfl (by simp only [List.length_append, List.length_cons, List.length_nil]; have := congrArg List.length (Pa.wr_4 hc1); simp only [List.length_append, List.length_cons, List.length_nil] at this; omega) rfl) ?_
    refine RW.q (v := .string (bs ((([34] : List UInt8) ++ x.Text) ++ ([34] : List UInt8)))) rfl (q_assign rfl) ?_
    refine RW.nil ?_
    refine Post.then_n ?_
    refine AW.ret ?_
    refine Post.blk_r (Post.then_r ?_)
    exact fin_val (v' := .string (bs ((([34] : List UInt8) ++ x.Text) ++ ([34] : List UInt8)))) rfl rfl rfl (congrArg (fun z => Value.string (bs z)) (Pa.wr_4 hc1).symm)
  · simp [-List.getD_eq_getElem?_getD] at hc1
    refine AW.seq ?_
    refine AW.region ?_
    refine RW.q (v := .bool (decide (x.Kind = 5))) rfl (q_eql rfl rfl) ?_
    refine RW.q (v := .bool (decide (x.Kind = 5))) rfl (q_assign rfl) ?_
    refine RW.nil ?_
    refine Post.then_n ?_
    refine AW.cond (b := decide (x.Kind = 5)) rfl (fun hc2 => ?_) (fun hc2 => ?_)
    · simp [-List.getD_eq_getElem?_getD] at hc2
      refine AW.seq ?_
      refine AW.region ?_
      refine RW.q (v := .pointer (some (⟨b1, 2, none⟩))) rfl (q_fieldAddr rfl Tryd.underlying26 rfl sz23 rfl) ?_
      refine RW.q (v := .agg #[.int .i64 x.N, .int .i64 x.Dim]) rfl (q_loadAgg rfl Tryd.underlying23 rfl sz23 rfl (Cells.blkP (off := 2) 0 rfl (fun j u hu => (by rcases j with _ | (_ | _) <;> first | exact hu | cases hu)))) ?_
      refine RW.q (v := .string (bs (Un.wri x.N x.Dim))) rfl (q_call (args := #[.agg #[.int .i64 x.N, .int .i64 x.Dim]]) own33 rfl rfl (fun w1 hw1 => Write_c w1 (Go.K.hp w1) (Hp.le_refl _) (hG.mono hw1.phi))) ?_
      refine RW.q (v := .string (bs (Un.wri x.N x.Dim))) rfl (q_assign rfl) ?_
      refine RW.nil ?_
      refine Post.then_n ?_
      refine AW.ret ?_
      refine Post.blk_r (Post.then_r ?_)
      exact fin_val (v' := .string (bs (Un.wri x.N x.Dim))) rfl rfl rfl (congrArg (fun z => Value.string (bs z)) (Pa.wr_5 hc2).symm)
    · simp [-List.getD_eq_getElem?_getD] at hc2
      refine AW.seq ?_
      refine AW.region ?_
      refine RW.q (v := .bool (decide (x.Kind = 6))) rfl (q_eql rfl rfl) ?_
      refine RW.q (v := .bool (decide (x.Kind = 6))) rfl (q_assign rfl) ?_
      refine RW.nil ?_
      refine Post.then_n ?_
      refine AW.cond (b := decide (x.Kind = 6)) rfl (fun hc3 => ?_) (fun hc3 => ?_)
      · simp [-List.getD_eq_getElem?_getD] at hc3
        refine AW.seq ?_
        refine AW.region ?_
        refine RW.q (v := .pointer (some (⟨b1, 5, none⟩))) rfl (q_fieldAddr rfl Tryd.underlying26 rfl sz24 rfl) ?_
        refine RW.q (v := kv) rfl (q_load rfl Tryd.underlying24 rfl (Cell.blk 0 rfl rfl)) ?_
        refine RW.q (v := .int .i64 ((x.Kids.length : Nat) : Int)) rfl (q_len_sl rfl hk.sl Tryd.underlying24) ?_
        refine RW.eff (fun b2 : Nat => (.slice (some ⟨b2, 0, none⟩) x.Kids.length x.Kids.length)) (fun b2 => St ⟨w, Φ, []⟩ Φ [.row (.slice (some ⟨b2, 0, none⟩) x.Kids.length x.Kids.length) 9 1 x.Kids.length (sCells (List.replicate x.Kids.length ([] : List UInt8))), .blk b1 26 [.int .i64 x.Kind, .string (bs x.Text), .int .i64 x.N, .int .i64 x.Dim, .int .i64 x.At, kv]]) rfl (e_makeSlice rfl rfl Tryd.underlying76 inf9 (by omega) (by omega) (by omega) rfl (made_str (n := x.Kids.length) (by omega))) ?_
        intro b2
        refine RW.q (v := (.slice (some ⟨b2, 0, none⟩) x.Kids.length x.Kids.length)) rfl (q_assign rfl) ?_
        refine RW.nil ?_
        refine Post.then_n ?_
        refine AW.seq ?_
        refine AW.seq ?_
        refine AW.region ?_
        refine RW.q (v := .pointer (some (⟨b1, 5, none⟩))) rfl (q_fieldAddr rfl Tryd.underlying26 rfl sz24 rfl) ?_
        refine RW.q (v := kv) rfl (q_load rfl Tryd.underlying24 rfl (Cell.blk 1 rfl rfl)) ?_
        refine RW.q (v := .int .i64 ((x.Kids.length : Nat) : Int)) rfl (q_len_sl rfl hk.sl Tryd.underlying24) ?_
        refine RW.q (v := .int .i64 0) rfl (q_move rfl) ?_
        refine RW.nil ?_
        refine Post.then_n ?_
        refine AW.block ?_
        refine AW.loop (fun s J m => ∃ (i : Nat), ∃ (L : List (List UInt8)), s = [(1, .pointer (some (⟨b1, 0, none⟩))), (3, (.slice (some ⟨b2, 0, none⟩) x.Kids.length x.Kids.length)), (26, kv), (27, .int .i64 ((x.Kids.length : Nat) : Int)), (28, .int .i64 (i : Int))] ∧ J = St ⟨w, Φ, []⟩ Φ [.row (.slice (some ⟨b2, 0, none⟩) x.Kids.length x.Kids.length) 9 1 x.Kids.length (sCells L), .blk b1 26 [.int .i64 x.Kind, .string (bs x.Text), .int .i64 x.N, .int .i64 x.Dim, .int .i64 x.At, kv]] ∧ m = x.Kids.length - i ∧ (i ≤ x.Kids.length) ∧ (L.length = x.Kids.length) ∧ (∀ j, j < i → L.getD j [] = Pa.wr (x.Kids.getD j default))) (s0 := _) (J1 := _) (m0 := _) ⟨0, _, rfl, rfl, rfl, (Nat.zero_le _), List.length_replicate, (fun j hj => absurd hj (Nat.not_lt_zero j))⟩ ⟨rfl, rfl, rfl, rfl, rfl, trivial⟩ (fun _ h => h) ?_
        rintro _ _ _ _ ⟨i, L, rfl, rfl, rfl, hil, hLl, hLv⟩
        refine AW.seq ?_
        refine AW.region ?_
        refine RW.q (v := .bool (decide ((i : Int) < ((x.Kids.length : Nat) : Int)))) rfl (q_lss rfl rfl) ?_
        refine RW.nil ?_
        refine Post.then_n ?_
        refine AW.seq ?_
        refine AW.cond (b := decide ((i : Int) < ((x.Kids.length : Nat) : Int))) rfl (fun hc4 => ?_) (fun hc4 => ?_)
        · simp [-List.getD_eq_getElem?_getD] at hc4
          refine AW.skip ?_
          refine Post.then_n ?_
          refine AW.seq ?_
          refine AW.block ?_
          refine AW.seq ?_
          refine AW.region ?_
          refine RW.q (v := .int .i64 (i : Int)) rfl (q_move rfl) ?_
          refine RW.q (v := .pointer (some (Value.at kv (i * 6)))) rfl (q_indexAddr rfl rfl hk.sl Tryd.underlying24 sz26 (by omega) (by omega) rfl) ?_
          obtain ⟨cv1, hcr1, hcc1⟩ := RepSl.whole (k := i) hk (by omega)
          obtain ⟨sv1, hcE1, hcw1, hsv1⟩ := repN.1 hcr1
          subst hcE1
          refine RW.q (v := .agg #[.int .i64 ((x.Kids.getD i default).Kind), .string (bs ((x.Kids.getD i default).Text)), .int .i64 ((x.Kids.getD i default).N), .int .i64 ((x.Kids.getD i default).Dim), .int .i64 ((x.Kids.getD i default).At), sv1]) rfl (q_loadAgg rfl Tryd.underlying26 rfl sz26 rfl (Cells.phiK hcc1)) ?_
          refine RW.eff (fun b3 : Nat => .pointer (some (⟨b3, 0, none⟩))) (fun b3 => St ⟨w, Φ, []⟩ Φ [.blk b3 26 [.int .i64 0, .string (bs ([])), .int .i64 0, .int .i64 0, .int .i64 0, (.slice none 0 0)], .row (.slice (some ⟨b2, 0, none⟩) x.Kids.length x.Kids.length) 9 1 x.Kids.length (sCells L), .blk b1 26 [.int .i64 x.Kind, .string (bs x.Text), .int .i64 x.N, .int .i64 x.Dim, .int .i64 x.At, kv]]) rfl (e_alloc zero26) ?_
          intro b3
          refine RW.q (v := .int .i64 (i : Int)) rfl (q_assign rfl) ?_
          refine RW.effn (J' := St ⟨w, Φ, []⟩ Φ [.blk b3 26 [.int .i64 ((x.Kids.getD i default).Kind), .string (bs ((x.Kids.getD i default).Text)), .int .i64 ((x.Kids.getD i default).N), .int .i64 ((x.Kids.getD i default).Dim), .int .i64 ((x.Kids.getD i default).At), sv1], .row (.slice (some ⟨b2, 0, none⟩) x.Kids.length x.Kids.length) 9 1 x.Kids.length (sCells L), .blk b1 26 [.int .i64 x.Kind, .string (bs x.Text), .int .i64 x.N, .int .i64 x.Dim, .int .i64 x.At, kv]]) (e_store (v := .agg #[.int .i64 ((x.Kids.getD i default).Kind), .string (bs ((x.Kids.getD i default).Text)), .int .i64 ((x.Kids.getD i default).N), .int .i64 ((x.Kids.getD i default).Dim), .int .i64 ((x.Kids.getD i default).At), sv1]) 0 rfl rfl rfl sz26 rfl (List.all_eq_true.2 (fun u hu => Rep.one (show Rep.rep _ _ _ from hcr1) u hu)) rfl rfl rfl) ?_
          refine RW.nil ?_
          refine Post.then_n ?_
          refine AW.region ?_
          refine RW.q (v := (.slice (some ⟨b2, 0, none⟩) x.Kids.length x.Kids.length)) rfl (q_move rfl) ?_
          refine RW.q (v := .int .i64 (i : Int)) rfl (q_move rfl) ?_
          refine RW.q (v := .agg #[.int .i64 ((x.Kids.getD i default).Kind), .string (bs ((x.Kids.getD i default).Text)), .int .i64 ((x.Kids.getD i default).N), .int .i64 ((x.Kids.getD i default).Dim), .int .i64 ((x.Kids.getD i default).At), sv1]) rfl (q_loadAgg rfl Tryd.underlying26 rfl sz26 rfl (Cells.blk 0 rfl)) ?_
          refine RW.q (v := .string (bs (Pa.wr (x.Kids.getD i default)))) rfl (q_call (args := #[.agg #[.int .i64 ((x.Kids.getD i default).Kind), .string (bs ((x.Kids.getD i default).Text)), .int .i64 ((x.Kids.getD i default).N), .int .i64 ((x.Kids.getD i default).Dim), .int .i64 ((x.Kids.getD i default).At), sv1]]) own19 rfl rfl (fun w1 hw1 => ih i (by omega) w1 (Go.K.hp w1) (Hp.le_refl _) (hG.mono hw1.phi) (hsv1.mono hw1.phi) hcw1 (Nat.le_trans (Pa.wr_kid hc3 (by omega)) hsz))) ?_
          refine RW.q (v := .pointer (some (Value.at (.slice (some ⟨b2, 0, none⟩) x.Kids.length x.Kids.length) (i * 1)))) rfl (q_indexAddr rfl rfl isSl_mk Tryd.underlying76 sz9 (by omega) (by omega) rfl) ?_
          refine RW.effn (J' := St ⟨w, Φ, []⟩ Φ [.blk b3 26 [.int .i64 ((x.Kids.getD i default).Kind), .string (bs ((x.Kids.getD i default).Text)), .int .i64 ((x.Kids.getD i default).N), .int .i64 ((x.Kids.getD i default).Dim), .int .i64 ((x.Kids.getD i default).At), sv1], .row (.slice (some ⟨b2, 0, none⟩) x.Kids.length x.Kids.length) 9 1 x.Kids.length (sCells (L.set i (Pa.wr (x.Kids.getD i default)))), .blk b1 26 [.int .i64 x.Kind, .string (bs x.Text), .int .i64 x.N, .int .i64 x.Dim, .int .i64 x.At, kv]]) (e_storeRow (v := .string (bs (Pa.wr (x.Kids.getD i default)))) 1 rfl rfl rfl sz9 rfl rfl (by simp [-List.getD_eq_getElem?_getD]; omega) (splice_str (by omega)) rfl) ?_
          refine RW.nil ?_
          refine Post.blk_n (Post.then_n ?_)
          refine AW.region ?_
          refine RW.q (v := .int .i64 ((i + 1 : Nat) : Int)) rfl (q_add rfl rfl (by omega) (by unfold I64; omega)) ?_
          refine RW.q (v := .int .i64 ((i + 1 : Nat) : Int)) rfl (q_move rfl) ?_
          refine RW.nil ?_
          exact Post.back (s' := _) (J' := _) (m' := _) (by omega) ⟨i + 1, _, rfl, rfl, rfl, (by omega), (by rw [List.length_set]; exact hLl), (Pa.strs_set hLv (by omega))⟩ ⟨rfl, rfl, rfl, rfl, rfl, trivial⟩ (fun _ h => StP.drop h (by exact .cons _ (.cons_cons _ (.cons_cons _ (.slnil)))))
        · simp [-List.getD_eq_getElem?_getD] at hc4
          refine AW.exit ?_
          refine Post.then_x (Post.then_x (Post.blk_hit (Post.then_n ?_)))
          refine AW.seq ?_
          have hLe : L = x.Kids.map Pa.wr := Pa.strs_all hLl hLv (by omega)
          have hw6 := congrArg List.length (Pa.wr_6 hc3)
          rw [← hLe] at hw6
          simp only [List.length_append, List.length_cons, List.length_nil] at hw6
          refine AW.region ?_
          refine RW.q (v := (.slice (some ⟨b2, 0, none⟩) x.Kids.length x.Kids.length)) rfl (q_move rfl) ?_
          refine RW.q (v := .string (bs (Lib.join L ([44, 32] : List UInt8)))) rfl (q_call (args := #[(.slice (some ⟨b2, 0, none⟩) x.Kids.length x.Kids.length), .string (bs ([44, 32] : List UInt8))]) own31 rfl rfl (fun w1 hw1 => join_c w1 (xs := L) (show RowS (Go.K.hp w1) (.slice (some ⟨b2, 0, none⟩) x.Kids.length x.Kids.length) 9 1 (x.Kids.length) (sCells L) from hw1.sat _ (List.mem_of_getElem? (i := 0) rfl)) (by omega) (by omega))) ?_
          refine RW.q (v := .string (bs (([40] : List UInt8) ++ (Lib.join L ([44, 32] : List UInt8))))) rfl (q_catStr (l := ([40] : List UInt8)) (r := Lib.join L ([44, 32] : List UInt8)) rfl rfl (by simp only [List.length_append, List.length_cons, List.length_nil]; omega) rfl) ?_
          refine RW.q (v := .string (bs ((([40] : List UInt8) ++ (Lib.join L ([44, 32] : List UInt8))) ++ ([41] : List UInt8)))) rfl (q_catStr (l := ([40] : List UInt8) ++ (Lib.join L ([44, 32] : List UInt8))) (r := ([41] : List UInt8)) rfl rfl (by simp only [List.length_append, List.length_cons, List.length_nil]; omega) rfl) ?_
          refine RW.q (v := .string (bs ((([40] : List UInt8) ++ (Lib.join L ([44, 32] : List UInt8))) ++ ([41] : List UInt8)))) rfl (q_assign rfl) ?_
          refine RW.nil ?_
          refine Post.then_n ?_
          refine AW.ret ?_
          refine Post.blk_r (Post.then_r ?_)
          exact fin_val (v' := .string (bs ((([40] : List UInt8) ++ (Lib.join L ([44, 32] : List UInt8))) ++ ([41] : List UInt8)))) rfl rfl rfl (congrArg (fun z => Value.string (bs z)) (by rw [Pa.wr_6 hc3, ← hLe]))
      · simp [-List.getD_eq_getElem?_getD] at hc3
        refine AW.skip ?_
        refine Post.blk_n (Post.then_n ?_)
        refine AW.seq ?_
        refine AW.region ?_
        refine RW.q (v := .pointer (some (⟨b1, 1, none⟩))) rfl (q_fieldAddr rfl Tryd.underlying26 rfl sz9 rfl) ?_
        refine RW.q (v := .string (bs x.Text)) rfl (q_load rfl Tryd.underlying9 rfl (Cell.blk 0 rfl rfl)) ?_
        refine RW.q (v := .string (bs x.Text)) rfl (q_assign rfl) ?_
        refine RW.nil ?_
        refine Post.then_n ?_
        refine AW.ret ?_
        exact fin_val (v' := .string (bs x.Text)) rfl rfl rfl (congrArg (fun z => Value.string (bs z)) (Pa.wr_o hc1 hc2 hc3).symm)

theorem written_c : ∀ (x : Bt.Node) (w : World) (Φ : Hp), Hp.le Φ (hp w) → Knows Φ Glob → ∀ {kv : Value}, RepSl Φ x.Kids kv → wfN x → (Pa.wr x).length ≤ 1099511627776 → Calls Tryd.prog 19 #[.agg (ndC x kv).toArray] w fun e w' => e = .returned (.string (bs (Pa.wr x))) ∧ Bel w.heap.size w w'
  | ⟨k, t, n, d, a, ks⟩, w, Φ, hΦ, hG, kv, hk, hwx, hs => written_s w Φ hΦ hG hk hwx hs fun j hj w1 Φ1 hΦ1 hG1 kv1 hk1 hw1 hs1 => written_c (ks.getD j default) w1 Φ1 hΦ1 hG1 hk1 hw1 hs1
termination_by x => SizeOf.sizeOf x
decreasing_by
  have hlt : j < ks.length := hj
  rw [List.getD_eq_getElem?_getD, List.getElem?_eq_getElem hlt, Option.getD_some]
  have h9 := List.sizeOf_lt_of_mem (List.getElem_mem hlt)
  simp only [Bt.Node.mk.sizeOf_spec]; omega

end Go.Proofs.YtjcahklnkakklaaDoor
