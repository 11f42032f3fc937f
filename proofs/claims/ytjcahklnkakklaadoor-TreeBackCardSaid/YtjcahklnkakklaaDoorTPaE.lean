/- The parser of trees: Parse. Conditions: those of each theorem. -/
import Derived.Test.YtjcahklnkakklaaDoorTPaD
import Derived.Test.YtjcahklnkakklaaDoorTDfr
namespace Go.Proofs.YtjcahklnkakklaaDoor
open Go Go.K Go.RowKit
theorem run_equalNil {P : Program} {t : TypeId} {ms} (n : Nat) (hT : P.underlying t = some (.interface ms)) (w : World) : (Op.equalIn (n + 1) t .nilIface .nilIface).run P w = .ok true w := by
  simp [Op.equalIn, run_underlying hT]
theorem run_equalIface {P : Program} {t T : TypeId} {v : Value} {ms} (n : Nat) (hT : P.underlying t = some (.interface ms)) (w : World) : (Op.equalIn (n + 1) t (.iface T v) .nilIface).run P w = .ok false w := by
  simp [Op.equalIn, run_underlying hT]
theorem q_neqNil {J : Cls} {f : Nat → Value} {s : List (Nat × Value)} {dst : Option Nat} {ty : TypeId} {pos : String} {af : Array Edge} {g : Option (Nat × Bool)} {x : Operand} (hx : ev (fr f s) x = .nilIface) : Qt Tryd.prog J f s ⟨dst, .binOp .neq 20 x (.const .nilIface) 20, ty, pos, af, g⟩ (.bool false) := qt_val fun w _ => by
  have h1 : Tryd.prog.underlying 20 = some (.interface #[]) := Tryd.underlying20
  have hy : ev (fr f s) (.const .nilIface) = .nilIface := rfl
  have he : ∀ w, (Op.equal 20 .nilIface .nilIface).run Tryd.prog w = .ok true w := fun w => run_equalNil 9999 h1 w
  simp [execOp, hx, hy, eqGuard, binOp, he]
theorem q_neqIface {J : Cls} {f : Nat → Value} {s : List (Nat × Value)} {dst : Option Nat} {ty : TypeId} {pos : String} {af : Array Edge} {g : Option (Nat × Bool)} {x : Operand} {T : TypeId} {v : Value} (hx : ev (fr f s) x = .iface T v) : Qt Tryd.prog J f s ⟨dst, .binOp .neq 20 x (.const .nilIface) 20, ty, pos, af, g⟩ (.bool true) := qt_val fun w _ => by
  have h1 : Tryd.prog.underlying 20 = some (.interface #[]) := Tryd.underlying20
  have hy : ev (fr f s) (.const .nilIface) = .nilIface := rfl
  have he : ∀ w, (Op.equal 20 (.iface T v) .nilIface).run Tryd.prog w = .ok false w := fun w => run_equalIface 9999 h1 w
  simp [execOp, hx, hy, eqGuard, binOp, he]
set_option maxRecDepth 8000 in
theorem q_assertT {J : Cls} {f : Nat → Value} {s : List (Nat × Value)} {dst : Option Nat} {ty : TypeId} {pos : String} {af : Array Edge} {g : Option (Nat × Bool)} {x : Operand} {T xT : TypeId} {v : Value} [h : NI Tryd.prog T] (hx : ev (fr f s) x = .iface T v) : Qt Tryd.prog J f s ⟨dst, .typeAssert x xT T true, ty, pos, af, g⟩ (.tuple #[v, .bool true]) := qt_val fun w _ => by
  obtain ⟨d, h1, h2⟩ := h.h
  cases d <;> first | (cases h2; done) | simp [execOp, hx, Instr.typeAssert, run_underlying h1]
attribute [local irreducible] AW RW DW Post Qt
abbrev ptr (b : Nat) : Value := .pointer (some ⟨b, 0, none⟩)
abbrev zN : List Value := [.int .i64 0, .string (bs []), .int .i64 0, .int .i64 0, .int .i64 0, .slice none 0 0]
set_option maxRecDepth 8000 in
set_option maxHeartbeats 1000000 in
theorem rcv_quiet (w : World) {c2 c3 c4 : Nat} : CallsD Tryd.prog 22 #[ptr c2, ptr c3, ptr c4] .returning w fun e u' w' => (∃ v, e = .returned v) ∧ u' = .returning ∧ Bel w.heap.size w w' := by
  refine callsD_of_wpS Tryd.func22 rfl fun c₀ cs hu => ?_
  have hrel : Rel Tryd.f22.ntmps [] (fr (fun _ => undef) [(0, ptr c2), (1, ptr c3), (2, ptr c4)]) { tmps := #[ptr c2, ptr c3, ptr c4] ++ Array.replicate (Tryd.f22.ntmps - (#[ptr c2, ptr c3, ptr c4] : Array Value).size) undef, defers := [] } := rel_init (args := [ptr c2, ptr c3, ptr c4]) (Nat.le_of_ble_eq_true rfl)
  refine wpS_seq (rec_region (v := .nilIface) (cs' := c₀ :: cs) (by simp [recv, recoverD, hu]) hrel rfl rfl fun a' ha' => wpS_of_wp ?_)
  refine AW.go (J := St ⟨w, hp w, []⟩ (hp w) []) ?_ ha' (StP.init w (hp w) (Hp.le_refl _) [])
  repeat refine g1 ?_
  refine RW.q rfl (q_neqNil rfl) ?_
  repeat refine g1 ?_
  exact fin_S rfl rfl .returning (by rw [← hu]) (fun w' hw => ⟨⟨_, rfl⟩, rfl, hw.below rfl⟩)
set_option maxRecDepth 8000 in
set_option maxHeartbeats 1000000 in
theorem rcv_fault (w : World) (Φ : Hp) {c2 c3 c4 : Nat} {er at_ : Int} {cs2 : List Value} {v3 v4 : Value} (hl : cs2.length = 6) (h0 : StP ⟨w, Φ, [c4, c3, c2]⟩ Φ [.blk c4 3 [v4], .blk c3 31 [v3], .blk c2 26 cs2] w) :
    CallsD Tryd.prog 22 #[ptr c2, ptr c3, ptr c4] (.panicking [⟨.iface 57 (.agg #[.int .i64 er, .int .i64 at_]), false, false⟩]) w fun e u' w' => (∃ v, e = .returned v) ∧ settle u' = .returning ∧ StP ⟨w, Φ, [c4, c3, c2]⟩ Φ [.blk c4 3 [.int .i64 at_], .blk c3 31 [.int .i64 er], .blk c2 26 zN] w' := by
  refine callsD_of_wpS Tryd.func22 rfl fun c₀ cs hu => ?_
  have hrel : Rel Tryd.f22.ntmps [] (fr (fun _ => undef) [(0, ptr c2), (1, ptr c3), (2, ptr c4)]) { tmps := #[ptr c2, ptr c3, ptr c4] ++ Array.replicate (Tryd.f22.ntmps - (#[ptr c2, ptr c3, ptr c4] : Array Value).size) undef, defers := [] } := rel_init (args := [ptr c2, ptr c3, ptr c4]) (Nat.le_of_ble_eq_true rfl)
  refine wpS_seq (rec_region (v := .iface 57 (.agg #[.int .i64 er, .int .i64 at_])) (cs' := { c₀ with mode := .panicking [⟨.iface 57 (.agg #[.int .i64 er, .int .i64 at_]), true, false⟩] } :: cs) (by simp [recv, recoverD, hu]) hrel rfl rfl fun a' ha' => wpS_of_wp ?_)
  refine AW.go (J := St ⟨w, Φ, [c4, c3, c2]⟩ Φ [.blk c4 3 [v4], .blk c3 31 [v3], .blk c2 26 cs2]) ?_ ha' h0
  repeat refine g1 ?_
  refine RW.q rfl (q_neqIface rfl) ?_
  repeat refine g1 ?_
  refine RW.q rfl (q_assertT rfl) ?_
  repeat refine g1 ?_
  refine RW.alc rfl fun bx => ?_
  repeat refine g1 ?_
  refine AW.draw (J0 := St ⟨w, Φ, [c4, c3, c2]⟩ Φ [.blk bx 57 [.int .i64 er, .int .i64 at_]]) [.q, .q, .q, .q, .q, .e, .e, .e] [0, 1, 2, 3, 4, 5, 6, 7] hmix (by kernel_rfl) ?_
  refine DW.q (v := .agg zN.toArray) (fun _ h => St.one 0 rfl h) rfl (q_build (vals := []) zero26 Tryd.underlying26 places26 rfl rfl) ?_
  repeat refine g1 ?_
  refine DW.effn (J' := St ⟨w, Φ, [c4, c3, c2]⟩ Φ [.blk bx 57 [.int .i64 er, .int .i64 at_], .blk c4 3 [v4], .blk c3 31 [v3], .blk c2 26 zN]) (fun _ _ h => St.one 0 rfl h) (e_store (v := .agg zN.toArray) 3 rfl rfl rfl sz26 rfl rfl (by simp [hl]) (by show zN ++ List.drop 6 cs2 = zN; rw [List.drop_of_length_le (by omega), List.append_nil]) rfl) ?_
  refine DW.effn (fun _ _ h => St.one 0 rfl h) (e_sto 2 rfl rfl rfl rfl rfl rfl) ?_
  repeat refine g1 ?_
  exact fin_S rfl rfl (.panicking [⟨.iface 57 (.agg #[.int .i64 er, .int .i64 at_]), true, false⟩]) rfl (fun w' hw => ⟨⟨_, rfl⟩, rfl, hw.drop (.cons _ (List.Sublist.refl _))⟩)
set_option maxRecDepth 8000 in
set_option maxHeartbeats 2000000 in
theorem Parse_c (w : World) (Φ : Hp) (hΦ : Hp.le Φ (hp w)) (hG : Knows Φ Glob) {l : List UInt8} (hl : l.length ≤ maxLen) :
    Calls Tryd.prog 12 #[.string (bs l)] w (RetS Φ w fun r Ψ => ∃ kv, r = .tuple #[.agg (ndC (Pa.parse l).1 kv).toArray, .int .i64 (Pa.parse l).2.1, .int .i64 (Pa.parse l).2.2] ∧ wfN (Pa.parse l).1 ∧ RepSl Ψ (Pa.parse l).1.Kids kv) := by
  have hzero : wfN (default : Bt.Node) := by refine ⟨?_, ?_, ?_, ?_, ?_⟩ <;> first | (show I64 0; unfold I64; omega) | (show ([] : List UInt8).length ≤ _; simp)
  refine calls_of_wp_defers Tryd.func12 rfl (AW.go (J := St ⟨w, Φ, []⟩ Φ []) (f := fun _ => undef) (s := [(0, .string (bs l))]) ?_ (rel_init (args := [.string (bs l)]) (Nat.le_of_ble_eq_true rfl)) (StP.init w Φ hΦ []))
  repeat refine g1 ?_
  refine RW.alc rfl fun b2 => ?_
  refine RW.alc rfl fun b3 => ?_
  refine RW.alc rfl fun b4 => ?_
  repeat refine g1 ?_
  refine RW.eff _ _ rfl (e_callS (T := fun r Ψ => ∃ v, r = .tuple #[v, .int .i64 (Lx.scan l).2.1, .int .i64 (Lx.scan l).2.2] ∧ RepSl Ψ (Lx.scan l).1 v) (args := #[.string (bs l)]) own14 rfl rfl (fun w1 hw1 => Scan_c w1 Φ hw1.phi hl)) ?_
  rintro ⟨⟨r0, Ψ⟩, ⟨tv, hr0, htv⟩, hlΨ⟩
  replace hr0 : r0 = .tuple #[tv, .int .i64 (Lx.scan l).2.1, .int .i64 (Lx.scan l).2.2] := hr0
  replace htv : RepSl Ψ (Lx.scan l).1 tv := htv
  replace hlΨ : Hp.le Φ Ψ := hlΨ
  subst hr0
  repeat refine g1 ?_
  refine AW.cond rfl (fun he => ?_) fun he => ?_
  · have he : (Lx.scan l).2.1 ≠ 0 := by simpa using he
    have hp : Pa.parse l = (default, (Lx.scan l).2.1, (Lx.scan l).2.2) := by unfold Pa.parse; rw [if_neg he]
    repeat refine g1 ?_
    refine AW.draw (J0 := St ⟨w, Φ, []⟩ Ψ [.blk b4 3 [.int .i64 (Lx.scan l).2.2], .blk b3 31 [.int .i64 (Lx.scan l).2.1]]) [.q, .q, .q, .e, .e, .e] [0, 1, 2, 3, 4, 5] hmix (by kernel_rfl) ?_
    refine DW.q (v := .agg zN.toArray) (fun _ h => StP.drop h (.cons_cons _ (.cons_cons _ (List.nil_sublist _)))) rfl (q_build (vals := []) zero26 Tryd.underlying26 places26 rfl rfl) ?_
    refine DW.q (fun _ h => StP.drop h (.cons_cons _ (.cons_cons _ (List.nil_sublist _)))) rfl (qa_ld rfl (Cell.blk 1 rfl rfl)) ?_
    refine DW.q (fun _ h => StP.drop h (.cons_cons _ (.cons_cons _ (List.nil_sublist _)))) rfl (qa_ld rfl (Cell.blk 0 rfl rfl)) ?_
    refine DW.effn (fun _ _ h => StP.drop h (.cons_cons _ (.cons_cons _ (List.nil_sublist _)))) (e_stA (cs' := zN) 2 rfl rfl rfl rfl rfl rfl) ?_
    refine DW.effn (fun _ _ h => StP.drop h (.cons_cons _ (.cons_cons _ (List.nil_sublist _)))) (e_sto 1 rfl rfl rfl rfl rfl rfl) ?_
    repeat refine g1 ?_
    exact fin_D0 (vs := [.agg zN.toArray, .int .i64 (Lx.scan l).2.1, .int .i64 (Lx.scan l).2.2]) rfl ⟨.agg rfl rfl (Cells.blk 2 rfl), .one rfl (Cell.blk 1 rfl rfl), .one rfl (Cell.blk 0 rfl rfl), trivial⟩ rfl (fun w' hw => ⟨_, rfl, hw.below rfl, .slice none 0 0, by rw [hp]; rfl, by rw [hp]; exact hzero, by rw [hp]; exact repSl_nil⟩)
  have he : (Lx.scan l).2.1 = 0 := by simpa using he
  obtain ⟨hgood, hwf, hlen, _⟩ := Pa.scan_good he
  obtain ⟨tA, tc, rfl, _⟩ := htv.sl
  have hp : Pa.parse l = match Pa.fileN (Lx.scan l).1 with
      | .error e => (default, e.1, e.2)
      | .ok (x, _) => (x, 0, 0) := by unfold Pa.parse; rw [if_pos he]; rfl
  have hp0 : pcs (.slice tA (Lx.scan l).1.length tc) (Lx.scan l).1 (Lx.scan l).1 = [.slice tA (Lx.scan l).1.length tc, .int .i64 0] := by simp [pcs]
  repeat refine g1 ?_
  refine RW.dfr rfl ?_
  repeat refine g1 ?_
  refine RW.q (v := .agg #[.slice tA (Lx.scan l).1.length tc, .int .i64 0]) rfl (q_build (vals := [(0, .slice tA (Lx.scan l).1.length tc)]) zero61 Tryd.underlying61 places61 rfl rfl) ?_
  refine RW.bxA (cs := [.slice tA (Lx.scan l).1.length tc, .int .i64 0]) rfl rfl fun p => ?_
  repeat refine g1 ?_
  refine RW.parQ (args := #[.pointer (some ⟨p, 0, none⟩)]) 0 rfl rfl own23 rfl rfl (fun w1 hw1 => file_c w1 Ψ hG hlΨ ⟨htv, hwf, hlen⟩ (List.suffix_refl _) hgood (by rw [hp0]; exact hw1)) (fun er at_ Ψ2 a w' hr2 ha hw2 => ?_) (fun _ => rfl) ?_
  · show Leaves _ _ a.tmps _ a.defers (.panicking _) w'
    rw [ha.defers]
    refine leaves_one own22 (by simp) ((rcv_fault w' Ψ2 (cs2 := zN) rfl (StP.rebase hw2)).mono fun e u' w'' hh => ?_)
    obtain ⟨h1, h2, h3⟩ := hh
    have hj := StP.join hw2 h3
    have hp2 : Pa.parse l = (default, er, at_) := by rw [hp, hr2]
    exact ⟨h1, h2, _, results_run (J := St ⟨w, Φ, []⟩ Ψ2 [.blk b4 3 [.int .i64 at_], .blk b3 31 [.int .i64 er], .blk b2 26 zN]) (vs := [.agg zN.toArray, .int .i64 er, .int .i64 at_]) rfl ha.get hj ⟨.agg rfl rfl (Cells.blk 2 rfl), .one rfl (Cell.blk 1 rfl rfl), .one rfl (Cell.blk 0 rfl rfl), trivial⟩, _, rfl, hj.below rfl, .slice none 0 0, by rw [hp2]; rfl, by rw [hp2]; exact hzero, by rw [hp2]; exact repSl_nil⟩
  rintro x r _ Ψ1 hres ⟨kx, rfl, hwx, hkx⟩ hl1
  have hp2 : Pa.parse l = (x, 0, 0) := by rw [hp, hres]
  refine RW.effn (J' := St ⟨w, Φ, []⟩ Ψ1 [.blk p 61 (pcs (.slice tA (Lx.scan l).1.length tc) (Lx.scan l).1 r), .blk b4 3 [.int .i64 (Lx.scan l).2.2], .blk b3 31 [.int .i64 (Lx.scan l).2.1], .blk b2 26 (ndC x kx)]) (e_store (v := .agg (ndC x kx).toArray) 3 rfl rfl rfl sz26 rfl (ndC_one hkx.sl) rfl rfl rfl) ?_
  repeat refine g1 ?_
  exact fin_D1 own22 (fun w' _ => rcv_quiet w') (vs := [.agg (ndC x kx).toArray, .int .i64 0, .int .i64 0]) rfl ⟨.agg rfl rfl (Cells.blk 3 rfl), .one rfl (Cell.blk 2 rfl rfl), .one rfl (Cell.blk 1 rfl rfl), trivial⟩ rfl (fun w' hw => ⟨_, rfl, hw.below rfl, kx, by rw [hp2]; rfl, by rw [hp2]; exact hwx, by rw [hp2]; exact hkx.mono hw.phi_ext⟩)
end Go.Proofs.YtjcahklnkakklaaDoor
