/- Lemmas. Conditions: those of each theorem. -/
import Derived.Test.YtpapfpoefiikpaaGreatDoorVCore10
namespace Go.K
open Go Go.RowKit
variable {B : Bs} {Φ : Hp} {C : List Chunk}
section
variable {α : Type} [Inhabited α] [RepE α]
theorem zeros_flat (he : EvenE α) {z : Value} (hz : z.cells = (RepE.cells (default : α)).toArray) (m : Nat) : (Builtin.zeroCells z.cells m).toList = flat (List.replicate m (default : α)) := by
  have hzs : z.cells.size = Rep.sz α := by rw [hz, List.size_toArray, he]
  apply List.ext_getElem
  · rw [flat_len he, List.length_replicate]; simp [Builtin.zeroCells, hzs]
  · intro i h1 h2
    have h1' : i < m * Rep.sz α := by simpa [Builtin.zeroCells, hzs] using h1
    have hpos : 0 < Rep.sz α := by
      rcases Nat.eq_zero_or_pos (Rep.sz α) with h0 | h0
      · rw [h0] at h1'; omega
      · exact h0
    have hq : i / Rep.sz α < (List.replicate m (default : α)).length := by rw [List.length_replicate]; exact (Nat.div_lt_iff_lt_mul hpos).2 h1'
    have hi : i % Rep.sz α < z.cells.size := by rw [hzs]; exact Nat.mod_lt _ hpos
    have hg := flat_get (l := List.replicate m (default : α)) (k := i / Rep.sz α) (j := i % Rep.sz α) (u := z.cells[i % Rep.sz α]) he hq (by
      rw [gDD, List.getElem?_eq_getElem hq]
      simp only [Option.getD_some, List.getElem_replicate]
      have h5 : i % Rep.sz α < (RepE.cells (default : α)).length := by rw [he]; exact Nat.mod_lt _ hpos
      rw [List.getElem?_eq_getElem h5]
      congr 1
      simp [hz])
    rw [Nat.mul_comm, Nat.div_add_mod] at hg
    rw [List.getElem?_eq_getElem h2] at hg
    rw [sJ hg]
    simp only [Builtin.zeroCells, hzs, Array.toList_map, List.getElem_map]
    simp [hi]
theorem e_clearE {Pn : List PanicEntry → World → Prop} {P : Program} {f : Nat → Value} {s : List (Nat × Value)} {dst : Option Nat} {ty : TypeId} {pos : String} {af : Array Edge} {g : Option (Nat × Bool)} {t T : TypeId} {x : Operand} {u z : Value} {n k bytes : Nat} {xs : List α} (he : EvenE α) (i : Nat) (hi : C[i]? = some (.row u T (Rep.sz α) n (flat xs))) (hx : ev (fr f s) x = subSl u k n (Rep.sz α)) (hT : P.underlying t = some (.slice T))
    (hz : (P.info? T).map (fun i => (i.zero, i.size, i.bytes)) = some (some z, Rep.sz α, bytes)) (hzc : z.cells = (RepE.cells (default : α)).toArray) (hone : (RepE.cells (default : α)).all Value.oneCell' = true) (_ : 0 < Rep.sz α) (hk : k ≤ n) (hn : xs.length = n) {C' : List Chunk} (hC' : C.set i (.row u T (Rep.sz α) n (flat (xs.take k ++ List.replicate (n - k) default))) = C') :
    ∀ w, (St B Φ C).p w → effX P Pn (fun _ w' => (St B Φ C').p w') ((execOp (ev (fr f s)) ⟨dst, .call { callee := .builtin .clear, args := #[x], argTypes := #[t] }, ty, pos, af, g⟩).run P w) := fun w hw => by
  subst hC'
  obtain ⟨ti, hti, hzz, hs, hby⟩ := info_parts hz
  have hs : RowS (hp w) u T (Rep.sz α) n (flat xs) := hw.sat _ (List.mem_of_getElem? hi)
  obtain ⟨hl, hs⟩ := hs
  have hks : k * Rep.sz α ≤ n * Rep.sz α := Nat.mul_le_mul_right _ hk
  rcases Nat.lt_or_eq_of_le hk with hkn | hkn
  · rcases hs with ⟨rfl, h0⟩ | ⟨gb, cap, cur, rfl, h2, h3, h4, h5, h6⟩
    · omega
    have hx' : ev (fr f s) x = .slice (some ⟨gb, k * Rep.sz α, none⟩) (n - k) (cap - k) := by
      rw [hx]; simp only [subSl, sliced]; rw [if_neg (by omega)]; simp [Addr.add]; intro h; omega
    obtain ⟨d, hd⟩ : ∃ d, n - k = d + 1 := ⟨n - k - 1, by omega⟩
    have hfl : (flat (List.replicate (n - k) (default : α))).length = (n - k) * Rep.sz α := by rw [flat_len he, List.length_replicate]
    have hns : n * Rep.sz α ≤ cap * Rep.sz α := Nat.mul_le_mul_right _ h3
    have hsub : k * Rep.sz α + (n - k) * Rep.sz α = n * Rep.sz α := by rw [← Nat.add_mul]; congr 1; omega
    have hr := run_storeCells (P := P) (T := T) (b := gb) (flat (List.replicate (n - k) (default : α))) (k * Rep.sz α) 0 cur w h2 (fun v hv => by
      unfold flat at hv
      obtain ⟨y, hy, hv⟩ := List.mem_flatMap.1 hv
      rw [List.eq_of_mem_replicate hy] at hv
      exact List.all_eq_true.1 hone v hv) (by rw [hfl, h5]; omega)
    refine effX_val (v := .tuple #[]) (w' := Go.K.wset w gb (.cells (splice cur.toList (k * Rep.sz α) (flat (List.replicate (n - k) (default : α)))).toArray T (0, 0))) ?_ ?_
    · simp only [Nat.add_zero] at hr
      have hzc2 : (Builtin.zeroCells z.cells (d + 1)).toList = flat (List.replicate (n - k) (default : α)) := by rw [hd]; exact zeros_flat he hzc _
      rw [hd] at hx'
      simp [execOp, resolve, invoke, builtin, hx', Builtin.clear_, run_underlying hT, zeroValue, typeInfo, hti, hzz, hzc2, hr]
    · refine StP.wset (i := i) (b := gb) hw hi (by simp [Chunk.row, blks]) (by simp [Chunk.row, blks]) ?_
      have hcl : n * Rep.sz α ≤ cur.toList.length := by simp; omega
      have hspl : (splice cur.toList (k * Rep.sz α) (flat (List.replicate (n - k) (default : α)))).length = cur.size := by
        simp only [splice, List.length_append, List.length_take, List.length_drop, hfl, Array.length_toList]; rw [Array.length_toList] at hcl; omega
      refine ⟨by rw [flat_len he]; simp [hn]; congr 1; omega, .inr ⟨gb, cap, _, rfl, wset_get (lt_of_some h2), h3, h4, by rw [List.size_toArray, hspl]; exact h5, ?_⟩⟩
      rw [flat_append, ← flat_take he, ← h6]
      simp only [splice]
      rw [List.take_take, Nat.min_eq_left hks, List.take_append_of_le_length (by simp only [List.length_append, List.length_take, hfl]; omega), List.take_of_length_le (by simp only [List.length_append, List.length_take, hfl]; omega)]
  · subst hkn
    have hu : ∃ a c, subSl u k k (Rep.sz α) = .slice a 0 c := by
      rcases hs with ⟨rfl, h0⟩ | ⟨gb, cap, cur, rfl, _⟩
      · exact ⟨_, _, by simp only [subSl, sliced, Nat.sub_self]; rfl⟩
      · exact ⟨_, _, by simp only [subSl, sliced, Nat.sub_self]; rfl⟩
    obtain ⟨a, c, hu⟩ := hu
    rw [hu] at hx
    refine effX_val (v := .tuple #[]) (w' := w) ?_ ?_
    · cases a <;> simp [execOp, resolve, invoke, builtin, hx, Builtin.clear_, run_underlying hT]
    · rw [Nat.sub_self, List.replicate_zero, List.append_nil, List.take_of_length_le (by omega), set_self hi]; exact hw
theorem StP.rowTakeE {w : World} {v : Value} {T n k : Nat} {xs : List α} (he : EvenE α) (h : StP B Φ (.row v T (Rep.sz α) n (flat xs) :: C) w) (hk : k ≤ n) : StP B Φ (.row (subSl v 0 k (Rep.sz α)) T (Rep.sz α) k (flat (xs.take k)) :: C) w := by
  have := h.rowTake hk
  rwa [flat_take he] at this
end
end Go.K
namespace Go.K
open Go Go.RowKit
variable {B : Bs} {Φ : Hp} {C : List Chunk}
section
variable {P : Program} {B : Bs} {Φ : Hp} {C : List Chunk} {f : Nat → Value} {s : List (Nat × Value)} {kt : TypeId} {κ β : Type} {L : KL P kt κ} {ew : β → Value}
end
end Go.K
