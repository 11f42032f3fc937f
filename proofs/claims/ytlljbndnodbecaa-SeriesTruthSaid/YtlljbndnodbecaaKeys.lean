/- The keys of the program's maps. Conditions: those of each theorem. -/
import Derived.Test.YtlljbndnodbecaaLibA
import Derived.Test.YtlljbndnodbecaaCore12
import Derived.DeepKeys4
namespace Go.Proofs.Ytlljbndnodbecaa
open Go Go.K Go.RowKit Go.WideMaps Go.Maps
theorem laidOut_ : laidOutB Try.prog = true := by kernel_rfl
theorem tySize : ∃ m, Try.prog.types.size = m + 1 := ⟨Try.prog.types.size - 1, by kernel_rfl⟩
theorem litWf {a : Int} (h : I64 a) : (Lit.int .i64 a).wf = true := by
  unfold I64 at h
  simp [Lit.wf, IntKind.min, IntKind.max, IntKind.bits, IntKind.signed]
  omega
theorem cells92 : Try.prog.cellsOf 92 = 2 := by kernel_rfl
theorem cells77 : Try.prog.cellsOf 77 = 2 := by kernel_rfl
theorem cells3 : Try.prog.cellsOf 3 = 1 := by kernel_rfl
theorem keyT92 : Try.prog.keyType 92 = true := by kernel_rfl
theorem keyT77 : Try.prog.keyType 77 = true := by kernel_rfl
theorem num_key {a b : Int} (ha : I64 a) (hb : I64 b) : ∃ l, keyOf Try.prog 92 (.agg #[.int .i64 a, .int .i64 b]) = some l := by
  obtain ⟨m, hm⟩ := tySize
  have hf : (Value.agg #[.int .i64 a, .int .i64 b]).formed Try.prog 92 = true := by simp [Value.formed, Try.underlying92, cells92]
  have wa := litWf ha
  have wb := litWf hb
  unfold keyOf
  rw [Try.underlying92]
  simp only [keyT92, hf, Bool.and_self, if_true, hm]
  refine ⟨.string (keyBytes [.int .i64 a, .int .i64 b]), ?_⟩
  simp [Program.keyLits, Try.underlying92, Try.underlying3, Value.cells, cells92, cells3, wa, wb]
theorem plc_key {a b : Int} (ha : I64 a) (hb : I64 b) : ∃ l, keyOf Try.prog 77 (.agg #[.int .i64 a, .int .i64 b]) = some l := by
  obtain ⟨m, hm⟩ := tySize
  have hf : (Value.agg #[.int .i64 a, .int .i64 b]).formed Try.prog 77 = true := by simp [Value.formed, Try.underlying77, cells77]
  have wa := litWf ha
  have wb := litWf hb
  unfold keyOf
  rw [Try.underlying77]
  simp only [keyT77, hf, Bool.and_self, if_true, hm]
  refine ⟨.string (keyBytes [.int .i64 a, .int .i64 b]), ?_⟩
  simp [Program.keyLits, Try.underlying77, Try.underlying3, Value.cells, cells77, cells3, wa, wb]
abbrev pairV (k : Int × Int) : Value := .agg #[.int .i64 k.1, .int .i64 k.2]
def pairOk (k : Int × Int) : Prop := I64 k.1 ∧ I64 k.2
theorem pairV_inj {a b : Int × Int} (h : pairV a = pairV b) : a = b := by
  obtain ⟨a1, a2⟩ := a; obtain ⟨b1, b2⟩ := b
  simp only [pairV, Value.agg.injEq, Array.mk.injEq, List.cons.injEq, Value.int.injEq, true_and, and_true] at h
  rw [h.1, h.2]
noncomputable def kNum : KL Try.prog 92 (Int × Int) := KL.of (Keyed.of_law (deep_law_laid laidOut_ (m := 2) (by omega) (of_decide_eq_true (by kernel_rfl)) (by kernel_rfl) (by rw [Try.underlying92]))) pairV pairOk pairV_inj fun a ha => num_key ha.1 ha.2
noncomputable def kPlc : KL Try.prog 77 (Int × Int) := KL.of (Keyed.of_law (deep_law_laid laidOut_ (m := 2) (by omega) (of_decide_eq_true (by kernel_rfl)) (by kernel_rfl) (by rw [Try.underlying77]))) pairV pairOk pairV_inj fun a ha => plc_key ha.1 ha.2
noncomputable def kInt : KL Try.prog 3 Int := KL.of (int_keyed Try.underlying3) (Value.int .i64) I64 (fun h => by simpa using h) fun a ha => ⟨_, keyOf_int_mk Try.underlying3 (litWf ha)⟩
abbrev gramV (t : Bt.Gram) : Value := .agg #[.int .i64 t.Gauge, .int .i64 t.Seq, .int .i64 t.Clock, .int .i64 t.Value, .string t.Tag]
abbrev spanV (t : Bt.Span) : Value := .agg #[.int .i64 t.Lo, .int .i64 t.Hi]
end Go.Proofs.Ytlljbndnodbecaa
