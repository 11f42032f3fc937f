/- How the data lie in memory, printed by typegen.py. Conditions: those of each theorem. -/
import Derived.Test.YthiflhoobldioaaDoorCore2
import Derived.Test.YthiflhoobldioaaDoorData
namespace Go.Proofs.YthiflhoobldioaaDoor
open Go Go.K Go.RowKit
instance : Rep Bt.Amount where
  sz := 2
  bytes := 16
  rep := fun _ x cs => cs = [.int .i64 x.N, .int .i64 x.Dim] ∧ (I64 x.N ∧ I64 x.Dim)
  len := fun h => by rw [h.1]; rfl
  mono := fun _ h => h
  one := fun h u hu => by
    rw [h.1] at hu
    simp only [List.mem_cons, List.not_mem_nil, or_false] at hu
    rcases hu with rfl | rfl <;> rfl
instance : RepE Bt.Amount where
  cells := fun x => [.int .i64 x.N, .int .i64 x.Dim]
  wf := fun x => I64 x.N ∧ I64 x.Dim
  iff := Iff.rfl
theorem even23 : EvenE Bt.Amount := fun _ => rfl
end Go.Proofs.YthiflhoobldioaaDoor
