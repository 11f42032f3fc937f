/- strings.Builder and strings.Join, laid at this program. Conditions: those of each theorem. -/
import Derived.Test.YtjcahklnkakklaaDoorTLibA
import Derived.Test.YtjcahklnkakklaaDoorTStrs
import Derived.Test.YtjcahklnkakklaaDoorTItoa
import Derived.Shelf.Strings.Builder1
import Derived.Shelf.Strings.OnBuilder
import Derived.Shelf.Lay
namespace Go.Proofs
open Go.Shelf Go.RowKit
shelf_lay Lays.n156 Nm 156 at Tryd as Tryd.layJn
theorem Tryd.layCc : Lays.n240 Tryd.prog Tryd.layJn_ren := { Tryd.layJn with }
theorem Tryd.layBs : Lays.n169 Tryd.prog Tryd.layJn_ren := { Tryd.layJn with }
theorem Tryd.bldJn : Builder.Extra Tryd.prog Tryd.layJn_ren where
  sizeBuilder := by kernel_rfl
  liesBuilder := by kernel_rfl
  t5 := Tryd.underlying5
  a5 := Tryd.isAgg5
  z5 := Tryd.sizeOf5
  v5 := Tryd.zeroValue5
  infoByte := by kernel_rfl
  cellsByte := by kernel_rfl
  sizeByte := by kernel_rfl
  neB5 := by decide
end Go.Proofs
namespace Go.Proofs.YtjcahklnkakklaaDoor
open Go Go.K Go.RowKit
theorem zero50 : (Tryd.prog.info? 50).map (·.zero) = some (some (.agg #[.pointer none, .slice none 0 0])) := by kernel_rfl
theorem copyCheck_c {B : Bs} {Φ : Hp} {C : List Chunk} {b : Nat} {p v : Value} (hp : p = .pointer none ∨ p = .pointer (some ⟨b, 0, none⟩)) (w : World) (hW : (St B Φ (.blk b 50 [p, v] :: C)).p w) :
    Calls Tryd.prog 32 #[.pointer (some ⟨b, 0, none⟩)] w fun e w' => ∃ _x : Unit, e = .returned (.tuple #[]) ∧ (St B Φ (.blk b 50 [.pointer (some ⟨b, 0, none⟩), v] :: C)).p w' := by
  have hb : w.heap[b]? = some (.cells #[p, v] 50 (0, 0)) := hW.sat _ (List.mem_cons_self ..)
  rcases hp with rfl | rfl
  · exact (Any.Builder_copyCheck_fresh Tryd.layCc Tryd.bldJn.toX72 b w (by rw [Lib.cell_of_heap hb]; rfl) (by simp [World.shape?, hb]; rfl) (by simp [World.frozen?, hb])).mono fun e w' ⟨he, hw⟩ => ⟨(), he, by subst hw; exact StP.set0 hW⟩
  · exact (Any.Builder_copyCheck_used Tryd.layCc Tryd.bldJn.toX72 b w (by rw [Lib.cell_of_heap hb]; rfl)).mono fun e w' ⟨he, hw⟩ => ⟨(), he, by subst hw; exact hW⟩
/-- String: the bytes; nothing is owned any more -/
theorem bldString_c {B : Bs} {Φ : Hp} {C : List Chunk} {b n : Nat} {p v : Value} {l : List UInt8} (hn : n = l.length) (hE : B.E = []) (hΦ : ∀ b o, Φ b = some o → b < B.w0.heap.size) (hp : p = .pointer none ∨ p = .pointer (some ⟨b, 0, none⟩)) (w : World)
    (hW : (St B Φ (.blk b 50 [p, v] :: .row v 5 1 n (bCells l) :: C)).p w) :
    Calls Tryd.prog 20 #[.pointer (some ⟨b, 0, none⟩)] w fun e w' => ∃ _x : Unit, e = .returned (.string (bs l)) ∧ (St B Φ []).p w' :=
  (Any.Builder_String_any Tryd.layBs Tryd.bldJn B.w0.heap.size b l w (StP.bld hW hn hE hp) hW.size).mono fun e w' ⟨he, hb⟩ => ⟨(), he, StP.low hW hΦ hb hE⟩
/-- Join of a row of strings -/
theorem join_c {v : Value} {n : Nat} {xs : List (List UInt8)} {sep : List UInt8} (w : World) (h : RowS (hp w) v 9 1 n (sCells xs)) (hn : n ≤ 140737488355328) (hl : (Lib.join xs sep).length ≤ 140737488355328) :
    Calls Tryd.prog 31 #[v, .string (bs sep)] w fun e w' => e = .returned (.string (bs (Lib.join xs sep))) ∧ Bel w.heap.size w w' := by
  have hlen : xs.length = n := by have := h.1; simpa using this
  subst hlen
  rcases h.2 with ⟨rfl, h0⟩ | ⟨g, cap, cur, rfl, hg, hc, _⟩
  · have hx := List.length_eq_zero_iff.1 h0
    subst hx
    exact (Any.strings_Join_none Tryd.layJn Tryd.bldJn none 0 (bs sep) w).mono fun e w' ⟨he, hw⟩ => ⟨he, by subst hw; exact Bel.refl _ _⟩
  · have hd : (xs.map bs).map (·.data.toList) = xs := by rw [List.map_map]; exact (List.map_congr_left fun x _ => rfl).trans (List.map_id xs)
    have hj := Any.strings_Join Tryd.layJn Tryd.bldJn g 0 cap (xs.map bs) (bs sep) w (fun j x hx => by
      rw [List.getElem?_map] at hx
      obtain ⟨y, hy, rfl⟩ := Option.map_eq_some_iff.1 hx
      have := cell_row (k := j) (x := .string (bs y)) h (by rw [List.getElem?_map, hy]; rfl)
      rw [at_mk] at this
      simpa using this) (lt_of_some hg) (by rw [List.length_map]; exact hn) (by rw [List.length_map]; exact hc) (by rw [hd]; exact hl)
    rw [hd, List.length_map] at hj
    exact hj.mono fun e w' ⟨he, hb⟩ => ⟨he, Bel.of_below hb⟩
end Go.Proofs.YtjcahklnkakklaaDoor
