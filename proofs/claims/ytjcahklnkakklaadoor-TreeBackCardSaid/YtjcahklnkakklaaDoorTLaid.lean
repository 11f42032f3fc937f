/- What the listed package-level variables give the walks: the table of units and the powers of ten. Conditions: those of each theorem. -/
import Derived.Test.YtjcahklnkakklaaDoorTUnA
import Derived.Test.YtjcahklnkakklaaDoorRows
import Derived.Test.YtjcahklnkakklaaDoorTTop
import Derived.ProofKit
import Derived.LaidMore
import Derived.LaidLaws
import Derived.LaidHandle
import Derived.OpenShut
namespace Go.Proofs.YtjcahklnkakklaaDoor
open Go Go.K Go.ChangeShapes Go.WideShapes Go.RowKit
def mD {H : Type} (m : Un.Mea) : DataW H := .agg [.lit (.string m.1), .lit (.int .i64 (m.2.1 : Int)), .lit (.int .i64 (m.2.2.1 : Int)), .lit (.int .i64 (m.2.2.2 : Int))]
theorem mD_inj {H : Type} {x0 x1 x2 x3 : DataW H} {m : Un.Mea} (h : DataW.agg [x0, x1, x2, x3] = mD m) : x0 = .lit (.string m.1) ∧ x1 = .lit (.int .i64 (m.2.1 : Int)) ∧ x2 = .lit (.int .i64 (m.2.2.1 : Int)) ∧ x3 = .lit (.int .i64 (m.2.2.2 : Int)) := by
  unfold mD at h
  simpa using h
theorem len4 {α : Type} {l : List α} (h : l.length = 4) : ∃ a b c d, l = [a, b, c, d] := by
  match l, h with
  | [a, b, c, d], _ => exact ⟨a, b, c, d, rfl⟩
theorem one_mea {H : Type} {enc : TypeId × Value → H} {W : World} {base : Nat} {sp : Nat → Bool} {held : Bool} {fuel : Nat} {cs : List Value} {m : Un.Mea} {p : List MemPlace} (h : DataW.trod enc Tryd.prog W base sp held fuel 70 cs = some (mD m, p)) :
    cs = [.string (bs m.1), .int .i64 (m.2.1 : Int), .int .i64 (m.2.2.1 : Int), .int .i64 (m.2.2.2 : Int)] := by
  obtain ⟨xs, n, _, hx, hl, hxl, hf⟩ := DataW.trod_struct Tryd.underlying70 h
  have h0 : DataW.trod enc Tryd.prog W base sp held n 9 ((cs.drop 0).take (Tryd.prog.cellsOf 9)) = xs[0]? := hf 0 _ rfl
  have h1 : DataW.trod enc Tryd.prog W base sp held n 3 ((cs.drop 1).take (Tryd.prog.cellsOf 3)) = xs[1]? := hf 1 _ rfl
  have h2 : DataW.trod enc Tryd.prog W base sp held n 3 ((cs.drop 2).take (Tryd.prog.cellsOf 3)) = xs[2]? := hf 2 _ rfl
  have h3 : DataW.trod enc Tryd.prog W base sp held n 3 ((cs.drop 3).take (Tryd.prog.cellsOf 3)) = xs[3]? := hf 3 _ rfl
  have e9 : Tryd.prog.cellsOf 9 = 1 := by kernel_rfl
  have e3 : Tryd.prog.cellsOf 3 = 1 := by kernel_rfl
  have hl4 : cs.length = 4 := hl.trans (by kernel_rfl)
  obtain ⟨c0, c1, c2, c3, rfl⟩ := len4 hl4
  obtain ⟨x0, x1, x2, x3, rfl⟩ := len4 (show xs.length = 4 from hxl)
  have hx' : mD m = DataW.agg [x0.1, x1.1, x2.1, x3.1] := congrArg Prod.fst hx
  obtain ⟨d0, d1, d2, d3⟩ := mD_inj hx'.symm
  simp only [e9, e3, List.drop_zero, List.drop_succ_cons, List.take_succ_cons, List.take_zero, List.getElem?_cons_zero, List.getElem?_cons_succ] at h0 h1 h2 h3
  obtain ⟨s0, k0, z0, _⟩ := DataW.trod_string Tryd.underlying9 h0
  obtain ⟨s1, k1, z1, _⟩ := DataW.trod_int Tryd.underlying3 h1
  obtain ⟨s2, k2, z2, _⟩ := DataW.trod_int Tryd.underlying3 h2
  obtain ⟨s3, k3, z3, _⟩ := DataW.trod_int Tryd.underlying3 h3
  rw [z0] at d0
  rw [z1] at d1
  rw [z2] at d2
  rw [z3] at d3
  obtain rfl : c0 = .string s0 := by simpa using k0
  obtain rfl : c1 = .int .i64 s1 := by simpa using k1
  obtain rfl : c2 = .int .i64 s2 := by simpa using k2
  obtain rfl : c3 = .int .i64 s3 := by simpa using k3
  have e0 : s0.data.toList = m.1 := by simpa using d0
  have e1 : s1 = (m.2.1 : Int) := by simpa using d1
  have e2 : s2 = (m.2.2.1 : Int) := by simpa using d2
  have e3 : s3 = (m.2.2.2 : Int) := by simpa using d3
  rw [← e0, ← e1, ← e2, ← e3]; rfl
theorem all_mea {H : Type} {enc : TypeId × Value → H} {W : World} {base : Nat} {sp : Nat → Bool} {held : Bool} {fuel : Nat} {cs : List Value} {p : List MemPlace} (h : DataW.trod enc Tryd.prog W base sp held fuel 85 cs = some (.agg (Un.ms.map mD), p)) : cs = mCells := by
  obtain ⟨xs, n, _, hx, hl, hxl, hf⟩ := DataW.trod_array Tryd.underlying85 h
  have e48 : Tryd.prog.cellsOf 70 = 4 := by kernel_rfl
  have hl4 : cs.length = 76 := hl.trans (by kernel_rfl)
  have hx' : DataW.agg (Un.ms.map mD) = DataW.agg (xs.map (·.1)) := congrArg Prod.fst hx
  have hx2 : Un.ms.map mD = xs.map (·.1) := by simpa using hx'
  have hm : mCells.length = 76 := rfl
  apply List.ext_getElem (by rw [hl4, hm])
  intro i h1 h2
  have hk : i / 4 < 19 := by omega
  have hj : i % 4 < 4 := Nat.mod_lt _ (by omega)
  have hfi := hf (i / 4) hk
  rw [e48] at hfi
  have hxk : xs[i / 4]? = some (xs[i / 4]'(by omega)) := List.getElem?_eq_getElem _
  rw [hxk] at hfi
  have hd : (xs[i / 4]'(by omega)).1 = mD (Un.ms.getD (i / 4) default) := by
    have := congrArg (fun l => l[i / 4]?) hx2
    simp only [List.getElem?_map, hxk, Option.map_some] at this
    rw [List.getElem?_eq_getElem (show i / 4 < Un.ms.length from hk), Option.map_some] at this
    rw [← Option.some.inj this, List.getD_eq_getElem?_getD, List.getElem?_eq_getElem (show i / 4 < Un.ms.length from hk)]; rfl
  have hpair : xs[i / 4]'(by omega) = (mD (Un.ms.getD (i / 4) default), (xs[i / 4]'(by omega)).2) := by rw [← hd]
  rw [hpair] at hfi
  have hone := one_mea hfi
  have hm4 := flat4 (fun m : Un.Mea => [Value.string (bs m.1), .int .i64 (m.2.1 : Int), .int .i64 (m.2.2.1 : Int), .int .i64 (m.2.2.2 : Int)]) (fun _ => rfl) Un.ms default (i / 4) (i % 4) hk hj
  have hi : i / 4 * 4 + i % 4 = i := by omega
  rw [hi, ← hone, List.getElem?_take, if_pos hj, List.getElem?_drop, hi] at hm4
  have e1 : mCells[i]? = cs[i]? := hm4
  rw [List.getElem?_eq_getElem h1, List.getElem?_eq_getElem h2] at e1
  exact (Option.some.inj e1).symm
theorem gMea : Tryd.prog.globalNamed "bourne/unit.measures" = some 0 := by kernel_rfl
theorem tMea : (Tryd.prog.globals[0]?).map (·.type) = some 85 := by kernel_rfl
/-- the row's condition gives what the walks ask -/
theorem glob_of_laid {l : List (String × DataW Unit)} (hp : (l.all fun x => x.2.handleName?.isNone) = true) {d0 d1 : String × DataW Unit} (hl : l = [d0, d1, ("internal/strconv.uint64pow10", Rows.laid_internal_strconv_uint64pow10), ("bourne/unit.measures", Rows.laid_bourne_unit_measures)]) {W : World} (h : laidMetH Tryd.prog l W) : Glob W := by
  have h' : laidMet Tryd.prog l W := by
    unfold laidMetH at h
    have e : (l.filter fun x => x.2.handleName?.isSome) = [] := by
      rw [List.filter_eq_nil_iff]
      intro x hx hs
      have := List.all_eq_true.1 hp x hx
      cases hn : x.2.handleName? with
      | none => rw [hn] at hs; cases hs
      | some n => rw [hn] at this; cases this
    rw [e] at h; exact h
  subst hl
  obtain ⟨ps, ⟨_, _, _, _, _, _, _, _, _, _, ⟨_, _, _, _, _, _, _, _, _, _, ⟨g2, t2, c2, f2, p2, q2, a2, b2, v2, r2, ⟨g3, t3, c3, f3, p3, q3, a3, b3, v3, r3, _⟩, _⟩, _⟩, _⟩, _⟩ := h'
  refine ⟨fun j v hv => ?_, ?_⟩
  · obtain rfl := Option.some.inj (gMea.symm.trans a3)
    obtain rfl := Option.some.inj (tMea.symm.trans b3)
    have hc := all_mea r3
    have := World.var?_cell gMea v3 j
    rw [this]
    rw [← hc] at hv
    simpa using hv
  · have g4 : Tryd.prog.globalNamed "internal/strconv.uint64pow10" = some 4 := by kernel_rfl
    obtain rfl := Option.some.inj (g4.symm.trans a2)
    have t4 : ∃ t, (Tryd.prog.globals[4]?).map (·.type) = some t := ⟨_, b2⟩
    unfold Lib.TabIs
    rw [v2]
    have hr := r2
    rw [show (Rows.laid_internal_strconv_uint64pow10 : DataW Unit) = Lib.tabData .u64 Lib.pow10Tab from rfl] at hr
    have ht : t2 = (((Tryd.prog.globals[4]?).map (·.type)).getD 0) := by rw [b2]; rfl
    have hu : Tryd.prog.underlying t2 = some (.array 20 86) := by rw [ht]; kernel_rfl
    have hct : Tryd.prog.cellsOf t2 = 20 := by rw [ht]; kernel_rfl
    rw [← Lib.cells_of_tab hu Tryd.underlying86 (by kernel_rfl) hct hr]
theorem knows_glob {W : World} (h : Glob W) : Knows (hp W) Glob := fun w hw => by
  refine ⟨fun j v hv => ?_, ?_⟩
  · have := h.1 j v hv
    exact ((pcell_of this).mono hw).cell
  · have h2 := h.2
    unfold Lib.TabIs World.var? at *
    revert h2
    simp only [show Tryd.prog.globalNamed "internal/strconv.uint64pow10" = some 4 by kernel_rfl, Option.bind_some]
    intro h2
    cases hb : W.heap[4]? with
    | none => rw [hb] at h2; simp at h2
    | some o =>
      have : w.heap[4]? = some o := hw 4 o hb
      rw [hb] at h2
      rw [this]; exact h2
end Go.Proofs.YtjcahklnkakklaaDoor
