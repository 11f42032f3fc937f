/- strconv.Itoa's contract, laid at this program. Conditions: those of each theorem. -/
import Derived.Test.YtjcahklnkakklaaDoorProg
import Derived.Test.YtjcahklnkakklaaDoorTCore5
import Derived.Shelf.Strconv.Itoa3
import Derived.Shelf.Lay
import Derived.Ground.NamesProg
namespace Go.Proofs
open Go.Shelf Go.RowKit Go.Lib
shelf_lay LaysM.n171 Nm 171 at Tryd as Tryd.itoa
theorem Tryd.itoa_c {n : Nat} (hn : n ≤ 1125899906842624) (w : World) (htab : Lib.TabIs Tryd.prog w "internal/strconv.uint64pow10" .u64 Lib.pow10Tab) :
    Calls Tryd.prog 48 #[.int .i64 (n : Int)] w fun e w' => e = .returned (.string (K.bs (Lib.decDigits n))) ∧ K.Bel w.heap.size w w' := by
  have h := Any.strconv_Itoa Tryd.itoa (n : Int) (by omega) (by omega) w htab
  refine Calls.mono h fun e w' ⟨he, k, os, hw⟩ => ⟨?_, ?_⟩
  · rw [he, Lib.itoa_nonneg]; rfl
  · subst hw
    exact ⟨⟨rfl, rfl, rfl, by show w.heap.size ≤ (w.heap ++ os).size; rw [Array.size_append]; omega, fun j hj => by show (w.heap ++ os)[j]? = w.heap[j]?; rw [Array.getElem?_append_left hj]⟩, by simp [K.Kd]⟩
end Go.Proofs
