/- The keys of the map of names. Conditions: those of each theorem. -/
import Derived.Test.YtblfeidlnhdekaaXLibA
import Derived.Test.YtblfeidlnhdekaaXCore13
import Derived.Test.YtblfeidlnhdekaaXPlainBb
import Derived.DeepKeys4
namespace Go.Proofs.Ytblfeidlnhdekaa
open Go Go.K Go.RowKit Go.WideMaps Go.Maps
theorem sz164 : (Try.prog.info? 164).map (·.size) = some 2 := by kernel_rfl
theorem zero164 : (Try.prog.info? 164).map (·.zero) = some (some (.agg #[.string ⟨#[]⟩, .string ⟨#[]⟩])) := by kernel_rfl
theorem places164 : ∀ w, ((#[{ name := "group", type := 9, offset := 0, embedded := false, tag := "", pkgPath := "bourne/basin", byteOffset := 0 }, { name := "name", type := 9, offset := 1, embedded := false, tag := "", pkgPath := "bourne/basin", byteOffset := 16 }] : Array Field).mapM fun f => do pure (f.offset, ← sizeOf f.type) : Sem (Array (Nat × Nat))).run Try.prog w = .ok #[(0, 1), (1, 1)] w := fun w => by kernel_rfl
theorem sz132 : (Try.prog.info? 132).map (·.size) = some 18 := by kernel_rfl
theorem zero132 : (Try.prog.info? 132).map (·.zero) = some (some (.agg #[.string ⟨#[]⟩, .int .i64 0, .int .i64 0, .int .i64 0, .slice none 0 0, .slice none 0 0, .slice none 0 0, .int .i64 0, .int .i64 0, .int .i64 0, .int .i64 0, .int .i64 0, .int .i64 0, .int .i64 0, .int .i64 0, .int .i64 0, .int .i64 0, .int .i64 0])) := by kernel_rfl
theorem sz134 : (Try.prog.info? 134).map (·.size) = some 7 := by kernel_rfl
theorem zero134 : (Try.prog.info? 134).map (·.zero) = some (some (.agg #[.string ⟨#[]⟩, .int .i64 0, .int .i64 0, .int .i64 0, .int .i64 0, .int .i64 0, .int .i64 0])) := by kernel_rfl
theorem sz138 : (Try.prog.info? 138).map (·.size) = some 7 := by kernel_rfl
theorem zero138 : (Try.prog.info? 138).map (·.zero) = some (some (.agg #[.string ⟨#[]⟩, .int .i64 0, .int .i64 0, .int .i64 0, .int .i64 0, .int .i64 0, .int .i64 0])) := by kernel_rfl
theorem sz136 : (Try.prog.info? 136).map (·.size) = some 2 := by kernel_rfl
theorem zero136 : (Try.prog.info? 136).map (·.zero) = some (some (.agg #[.string ⟨#[]⟩, .int .i64 0])) := by kernel_rfl
theorem sz142 : (Try.prog.info? 142).map (·.size) = some 2 := by kernel_rfl
theorem zero142 : (Try.prog.info? 142).map (·.zero) = some (some (.agg #[.int .i64 0, .int .i64 0])) := by kernel_rfl
theorem sz130 : (Try.prog.info? 130).map (·.size) = some 2 := by kernel_rfl
theorem sz61 : (Try.prog.info? 61).map (·.size) = some 1 := by kernel_rfl
theorem sz126 : (Try.prog.info? 126).map (·.size) = some 1 := by kernel_rfl
theorem zero126 : (Try.prog.info? 126).map (·.zero) = some (some (.map none)) := by kernel_rfl
theorem laidOut_ : laidOutB Try.prog = true := by kernel_rfl
theorem tySize : ∃ m, Try.prog.types.size = m + 1 := ⟨Try.prog.types.size - 1, by kernel_rfl⟩
theorem cells164 : Try.prog.cellsOf 164 = 2 := by kernel_rfl
theorem cells9 : Try.prog.cellsOf 9 = 1 := by kernel_rfl
theorem keyT164 : Try.prog.keyType 164 = true := by kernel_rfl
theorem mark_key {a b : ByteArray} (ha : a.size ≤ maxLen) (hb : b.size ≤ maxLen) : ∃ l, keyOf Try.prog 164 (.agg #[.string a, .string b]) = some l := by
  obtain ⟨m, hm⟩ := tySize
  have hf : (Value.agg #[.string a, .string b]).formed Try.prog 164 = true := by simp [Value.formed, Try.underlying164, cells164]
  unfold keyOf
  rw [Try.underlying164]
  simp only [keyT164, hf, Bool.and_self, if_true, hm]
  refine ⟨.string (keyBytes [.string a.data.toList, .string b.data.toList]), ?_⟩
  simp [Program.keyLits, Try.underlying164, Try.underlying9, Value.cells, cells164, cells9, ha, hb]
abbrev markV (k : Ba.Mk) : Value := .agg #[.string k.1, .string k.2]
theorem markV_inj {a b : Ba.Mk} (h : markV a = markV b) : a = b := by
  obtain ⟨a1, a2⟩ := a; obtain ⟨b1, b2⟩ := b
  simp only [markV, Value.agg.injEq, Array.mk.injEq, List.cons.injEq, Value.string.injEq, and_true] at h
  rw [h.1, h.2]
noncomputable def kMark : KL Try.prog 164 Ba.Mk := KL.of (Keyed.of_law (deep_law_laid laidOut_ (m := 2) (by omega) (of_decide_eq_true (by kernel_rfl)) (by kernel_rfl) (by rw [Try.underlying164]))) markV (fun k => k.1.size ≤ maxLen ∧ k.2.size ≤ maxLen) markV_inj fun a ha => mark_key ha.1 ha.2
end Go.Proofs.Ytblfeidlnhdekaa
