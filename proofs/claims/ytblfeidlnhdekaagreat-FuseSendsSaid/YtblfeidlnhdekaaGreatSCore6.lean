/- Lemmas. Conditions: those of each theorem. -/
import Derived.Test.YtblfeidlnhdekaaGreatSCore5
namespace Go.K
open Go Go.RowKit
variable {P : Program} {Pn : List PanicEntry → World → Prop} {f : Nat → Value} {s : List (Nat × Value)} {af : Array Edge} {pos : String} {ty : TypeId} {g : Option (Nat × Bool)} {dst : Option Nat} {B : Bs} {Φ : Hp} {C : List Chunk}
theorem run_partA {e : TypeId} {d : TypeDesc} {n : Nat} (hT : P.underlying e = some d) (hd : isAggD d = true) (hsz : (P.info? e).map (·.size) = some n) {cs es : Array Value} {o : Nat} (he : cs.extract o (o + n) = es) (w : World) : (part e cs o).run P w = .ok (.agg es) w := by
  obtain ⟨ti, hi, hti⟩ := mS hsz
  simp [part, Sem.run_bind, run_isAgg hT, hd, sizeOf, typeInfo, hi, hti, he]
theorem AW.frz {N : Nat} {D : List Deferred} {Q : Exit → Act → World → Prop} {w0 : World} {Φ0 Φ : Hp} {c : Chunk} {code : Code} (h : ∀ Φ', Hp.le Φ Φ' → c.sat Φ' → AW P N D code Q f s (St ⟨w0, Φ0, []⟩ Φ' C)) : AW P N D code Q f s (St ⟨w0, Φ0, []⟩ Φ (c :: C)) := fun a w ha hw => by
  obtain ⟨Φ', h1, h2, h3⟩ := StP.freeze hw (fun b hb => ((hw.away b (by simp [hb])).2).resolve_right (by simp))
  exact h Φ' h1 h2 a w ha h3
theorem below_le {w w' : World} (h : Bel w.heap.size w w') : Hp.le (hp w) (hp w') := fun b _ e => (h.block b (lt_of_some e)).trans e
theorem blk_cell {w : World} {b : Nat} {T : TypeId} {cs : List Value} (h : (Chunk.blk b T cs).sat (hp w)) {j : Nat} {v : Value} (hv : cs[j]? = some v) : PCell (hp w) ⟨b, j, none⟩ v := ⟨_, _, _, h, rfl, by simpa using hv⟩
theorem args_capt {l m : List Value} {capt : Array Value} (h : l = m) : (#[] : Array Value).toList ++ l ++ capt.toList = (m.toArray ++ capt).toList := by subst h; simp
theorem e_quiet {J : Cls} {o : Oper} {v : Value} (hq : Qt P J f s o v) : ∀ w, J.p w → effX P Pn (fun u w' => ∃ _ : Unit, u = v ∧ J.p w') ((execOp (ev (fr f s)) o).run P w) :=
  fun w hw => effX_mono (fun _ _ ⟨e, hb⟩ => ⟨(), e, J.ext _ _ hw hb⟩) (effX_of_quietX (hq w hw))
theorem e_buildSlice0 {t e : TypeId} {z : Value} {sz bytes : Nat} (hT : P.underlying t = some (.slice e)) (hi : (P.info? e).map (fun i => (i.zero, i.size, i.bytes)) = some (some z, sz, bytes)) :
    ∀ w, (St B Φ C).p w → effX P Pn (fun v w' => ∃ b : Nat, v = .slice (some ⟨b, 0, none⟩) 0 0 ∧ (St B Φ (.row (.slice (some ⟨b, 0, none⟩) 0 0) e sz 0 [] :: C)).p w') ((execOp (ev (fr f s)) ⟨dst, .buildSlice t 0 #[], ty, pos, af, g⟩).run P w) := fun w hw => by
  obtain ⟨ti, hti, hz, hs, hby⟩ := info_parts hi
  refine effX_val (v := .slice (some ⟨w.heap.size, 0, none⟩) 0 0) (w' := w.alloc (.cells #[] e)) ?_ ⟨w.heap.size, rfl, hw.alloc e _ (.row (.slice (some ⟨w.heap.size, 0, none⟩) 0 0) e sz 0 []) (by simp [Chunk.row, blks]) ?_⟩
  · simp [execOp, Instr.buildSlice, run_underlying hT, sizeOf, typeInfo, hti, Instr.fill, newRow]
    rw [show Array.range 0 = #[] by simp [Array.range]]; simp
  · exact ⟨by simp, .inr ⟨w.heap.size, 0, _, rfl, hp_alloc_new w _, Nat.le_refl _, by simp [maxLen], by simp, by simp⟩⟩
section
variable {α : Type} [Inhabited α] [RepE α]
theorem Cells.rowP (he : EvenE α) {v : Value} {T n k off : Nat} {cs : List Value} {xs : List α} (i : Nat) (hi : C[i]? = some (.row v T (Rep.sz α) n (flat xs))) (hk : k < xs.length) (hj : ∀ j u, cs[j]? = some u → (RepE.cells (xs.getD k default))[off + j]? = some u) : Cells (St B Φ C) (Value.at v (k * Rep.sz α + off)) cs := fun j u hu => by
  rw [at_add2]; exact Cell.rowE he i hi hk (hj j u hu)
theorem splice_P (he : EvenE α) {l : List α} {k off : Nat} {x : α} {cs : List Value} (hk : k < l.length) (hcs : RepE.cells x = splice (RepE.cells (l.getD k default)) off cs) (ho : off + cs.length ≤ Rep.sz α) : splice (flat l) (k * Rep.sz α + off) cs = flat (l.set k x) := by
  rw [← splice_E he hk hcs]
  have hc := he (l.getD k default)
  have hlen : (flat l).length = l.length * Rep.sz α := flat_len he l
  have hkl : k * Rep.sz α + Rep.sz α ≤ l.length * Rep.sz α := by
    have := Nat.mul_le_mul_right (Rep.sz α) (show k + 1 ≤ l.length from hk); rwa [Nat.add_mul, Nat.one_mul] at this
  have hget : ∀ j, j < Rep.sz α → (flat l)[k * Rep.sz α + j]? = (RepE.cells (l.getD k default))[j]? := fun j hj => by
    have h1 : j < (RepE.cells (l.getD k default)).length := by rw [hc]; exact hj
    rw [flat_get he hk (List.getElem?_eq_getElem h1), List.getElem?_eq_getElem h1]
  apply List.ext_getElem?
  intro p
  have hsl : (splice (RepE.cells (l.getD k default)) off cs).length = Rep.sz α := by
    unfold splice; simp only [List.length_append, List.length_take, List.length_drop, hc]; omega
  have key : ∀ (ys zs : List Value) (o q : Nat), o + zs.length ≤ ys.length → (splice ys o zs)[q]? = if q < o then ys[q]? else if q < o + zs.length then zs[q - o]? else ys[q]? := fun ys zs o q h => by
    unfold splice
    by_cases h1 : q < o
    · rw [if_pos h1, List.append_assoc, List.getElem?_append_left (by rw [List.length_take]; omega), List.getElem?_take, if_pos h1]
    · rw [if_neg h1, List.append_assoc, List.getElem?_append_right (by rw [List.length_take]; omega), List.length_take, Nat.min_eq_left (by omega)]
      by_cases h2 : q < o + zs.length
      · rw [if_pos h2, List.getElem?_append_left (by omega)]
      · rw [if_neg h2, List.getElem?_append_right (by omega), List.getElem?_drop]
        congr 1; omega
  rw [key _ _ _ _ (by omega), key _ _ _ _ (by rw [hsl]; omega), hsl]
  by_cases h1 : p < k * Rep.sz α
  · rw [if_pos (show p < k * Rep.sz α + off by omega), if_pos h1]
  · rw [if_neg h1]
    by_cases h2 : p < k * Rep.sz α + Rep.sz α
    · rw [if_pos h2, key _ _ _ _ (by rw [hc]; omega)]
      by_cases h3 : p < k * Rep.sz α + off
      · rw [if_pos h3, if_pos (show p - k * Rep.sz α < off by omega), ← hget _ (by omega)]; congr 1; omega
      · rw [if_neg h3, if_neg (show ¬ p - k * Rep.sz α < off by omega)]
        by_cases h4 : p < k * Rep.sz α + off + cs.length
        · rw [if_pos h4, if_pos (show p - k * Rep.sz α < off + cs.length by omega)]; congr 1; omega
        · rw [if_neg h4, if_neg (show ¬ p - k * Rep.sz α < off + cs.length by omega), ← hget _ (by omega)]; congr 1; omega
    · rw [if_neg (show ¬ p < k * Rep.sz α + off by omega), if_neg (show ¬ p < k * Rep.sz α + off + cs.length by omega), if_neg h2]
end
theorem q_nilCheck {J : Cls} {x : Operand} {p : Addr} (hx : ev (fr f s) x = .pointer (some p)) : Qt P J f s ⟨dst, .nilCheck x, ty, pos, af, g⟩ (.pointer (some p)) := qt_val fun w _ => by
  simp [execOp, hx]
theorem row_take {v : Value} {T sz n k : Nat} {xs : List Value} (h : RowS Φ v T sz n xs) (hk : k ≤ n) : RowS Φ (subSl v 0 k sz) T sz k (xs.take (k * sz)) := by
  obtain ⟨hl, h⟩ := h
  have hks : k * sz ≤ n * sz := Nat.mul_le_mul_right _ hk
  rcases h with ⟨rfl, rfl⟩ | ⟨gb, cap, cur, rfl, h2, h3, h4, h5, h6⟩
  · obtain rfl : k = 0 := by omega
    exact ⟨by simp, .inl ⟨by simp [subSl, sliced], rfl⟩⟩
  · refine ⟨by rw [List.length_take]; omega, .inr ⟨gb, cap, cur, ?_, h2, by omega, h4, h5, ?_⟩⟩
    · simp only [subSl, sliced, Nat.sub_zero, Nat.zero_mul]
      split
      · rfl
      · simp [Addr.add]
    · rw [← h6, List.take_take, Nat.min_eq_left hks]
theorem set_self {α : Type} {C : List α} {i : Nat} {c : α} (h : C[i]? = some c) : C.set i c = C := by
  apply List.ext_getElem?
  intro j
  rw [List.getElem?_set]
  by_cases hij : i = j
  · subst hij
    have := (List.getElem?_eq_some_iff.1 h).1
    rw [if_pos rfl, if_pos this, h]
  · rw [if_neg hij]
theorem zeros_one (z : Value) (n : Nat) : (Builtin.zeroCells #[z] n).toList = List.replicate n z := by
  unfold Builtin.zeroCells
  apply List.ext_getElem?
  intro i
  by_cases h : i < n
  · simp [h, Nat.mod_one]
  · simp [h]
theorem e_clearI {t T : TypeId} {x : Operand} {u : Value} {n k bytes : Nat} {xs : List Int} (i : Nat) (hi : C[i]? = some (.row u T 1 n (xs.map (Value.int .i64)))) (hx : ev (fr f s) x = subSl u k n 1) (hT : P.underlying t = some (.slice T))
    (hz : (P.info? T).map (fun i => (i.zero, i.size, i.bytes)) = some (some (.int .i64 0), 1, bytes)) (hk : k ≤ n) (hn : xs.length = n) {C' : List Chunk} (hC' : C.set i (.row u T 1 n ((xs.take k ++ List.replicate (n - k) 0).map (Value.int .i64))) = C') :
    ∀ w, (St B Φ C).p w → effX P Pn (fun _ w' => (St B Φ C').p w') ((execOp (ev (fr f s)) ⟨dst, .call { callee := .builtin .clear, args := #[x], argTypes := #[t] }, ty, pos, af, g⟩).run P w) := fun w hw => by
  subst hC'
  obtain ⟨ti, hti, hzz, hs, hby⟩ := info_parts hz
  have hs : RowS (hp w) u T 1 n (xs.map (Value.int .i64)) := hw.sat _ (List.mem_of_getElem? hi)
  obtain ⟨hl, hs⟩ := hs
  rcases Nat.lt_or_eq_of_le hk with hkn | hkn
  · rcases hs with ⟨rfl, h0⟩ | ⟨gb, cap, cur, rfl, h2, h3, h4, h5, h6⟩
    · omega
    have hx' : ev (fr f s) x = .slice (some ⟨gb, k, none⟩) (n - k) (cap - k) := by
      rw [hx]; simp only [subSl, sliced]; rw [if_neg (by omega)]; simp [Addr.add]; omega
    obtain ⟨d, hd⟩ : ∃ d, n - k = d + 1 := ⟨n - k - 1, by omega⟩
    have hr := run_storeCells (P := P) (T := T) (b := gb) (List.replicate (n - k) (.int .i64 0)) k 0 cur w h2 (fun v hv => by rw [List.eq_of_mem_replicate hv]; rfl) (by simp; omega)
    refine effX_val (v := .tuple #[]) (w' := Go.K.wset w gb (.cells (splice cur.toList k (List.replicate (n - k) (.int .i64 0))).toArray T (0, 0))) ?_ ?_
    · simp only [Nat.add_zero] at hr
      have hzc : (Builtin.zeroCells (Value.int .i64 0).cells (d + 1)).toList = List.replicate (n - k) (.int .i64 0) := by rw [hd]; exact zeros_one _ _
      rw [hd] at hx'
      simp [execOp, resolve, invoke, builtin, hx', Builtin.clear_, run_underlying hT, zeroValue, typeInfo, hti, hzz, hzc, hr]
    · refine StP.wset (i := i) (b := gb) hw hi (by simp [Chunk.row, blks]) (by simp [Chunk.row, blks]) ?_
      have hcl : n ≤ cur.toList.length := by simp; omega
      refine ⟨by simp [hn]; omega, .inr ⟨gb, cap, _, rfl, wset_get (lt_of_some h2), h3, h4, by simp [splice]; omega, ?_⟩⟩
      rw [Nat.mul_one] at h6 ⊢
      rw [List.map_append, List.map_take, List.map_replicate, ← h6]
      simp only [splice, List.length_replicate]
      rw [List.take_take, Nat.min_eq_left hk, List.take_append_of_le_length (by simp; omega), List.take_of_length_le (by simp; omega)]
  · subst hkn
    have hu : ∃ a c, subSl u k k 1 = .slice a 0 c := by
      rcases hs with ⟨rfl, h0⟩ | ⟨gb, cap, cur, rfl, _⟩
      · exact ⟨_, _, by simp only [subSl, sliced, Nat.sub_self]; rfl⟩
      · exact ⟨_, _, by simp only [subSl, sliced, Nat.sub_self]; rfl⟩
    obtain ⟨a, c, hu⟩ := hu
    rw [hu] at hx
    refine effX_val (v := .tuple #[]) (w' := w) ?_ ?_
    · cases a <;> simp [execOp, resolve, invoke, builtin, hx, Builtin.clear_, run_underlying hT]
    · rw [Nat.sub_self, List.replicate_zero, List.append_nil, List.take_of_length_le (by omega), set_self hi]; exact hw
theorem StP.reval {c c' : Chunk} {w : World} (h : StP B Φ (c :: C) w) (hfp : c'.fp = c.fp) (hs : ∀ Ψ, c.sat Ψ → c'.sat Ψ) : StP B Φ (c' :: C) w :=
  { h with
    sat := fun d hd => by
      rcases List.mem_cons.1 hd with h1 | h1
      · subst h1; exact hs _ (h.sat c (by simp))
      · exact h.sat d (by simp [h1])
    sep := by
      obtain ⟨h1, h2⟩ := List.pairwise_cons.1 h.sep
      exact List.pairwise_cons.2 ⟨fun d hd b hb => h1 d hd b (by rw [← hfp]; exact hb), h2⟩
    away := fun b hb => h.away b (by simpa [hfp] using hb) }
theorem StP.rowTake {w : World} {v : Value} {T sz n k : Nat} {xs : List Value} (h : StP B Φ (.row v T sz n xs :: C) w) (hk : k ≤ n) : StP B Φ (.row (subSl v 0 k sz) T sz k (xs.take (k * sz)) :: C) w := by
  refine h.reval ?_ (fun Ψ hs => row_take hs hk)
  have hs : RowS (hp w) v T sz n xs := h.sat _ (List.mem_cons_self ..)
  rcases hs.2 with ⟨rfl, rfl⟩ | ⟨gb, cap, cur, rfl, _⟩
  · simp [Chunk.row, blks, subSl, sliced]
  · by_cases h0 : cap = 0 <;> simp [Chunk.row, blks, subSl, sliced, h0, Addr.add]
theorem perm_at {α : Type} : ∀ {C : List α} {i : Nat} {a : α}, C[i]? = some a → (a :: C.eraseIdx i).Perm C
  | [], _, _, h => by simp at h
  | x :: C, 0, a, h => by
    obtain rfl : x = a := by simpa using h
    exact List.Perm.refl _
  | x :: C, i + 1, a, h => (List.Perm.swap x a _).trans ((perm_at (C := C) (i := i) (by simpa using h)).cons x)
theorem StP.frontAt {a : Chunk} {w : World} (h : StP B Φ C w) (i : Nat) (hi : C[i]? = some a) : StP B Φ (a :: C.eraseIdx i) w := h.perm (perm_at hi)
theorem StP.backAt {a a' : Chunk} {C C' : List Chunk} {w : World} (i : Nat) (hi : C[i]? = some a) (hC : C.set i a' = C') (h : StP B Φ (a' :: C.eraseIdx i) w) : StP B Φ C' w := by
  subst hC
  have hl := (List.getElem?_eq_some_iff.1 hi).1
  have h1 := perm_at (C := C.set i a') (i := i) (a := a') (List.getElem?_set_self hl)
  rw [List.eraseIdx_set_eq] at h1
  exact h.perm h1.symm
theorem Cells.blkP {b off : Nat} {T : TypeId} {cs cs' : List Value} (i : Nat) (hi : C[i]? = some (.blk b T cs)) (hj : ∀ j u, cs'[j]? = some u → cs[off + j]? = some u) : Cells (St B Φ C) ⟨b, off, none⟩ cs' := fun j u hu => by
  have e : (⟨b, off, none⟩ : Addr).add j = ⟨b, off + j, none⟩ := by simp only [Addr.add]; split <;> simp_all
  rw [e]; exact Cell.blk i hi (hj j u hu)
theorem oneCell_sl {v : Value} {n : Nat} (h : IsSl v n) : v.oneCell' = true := by obtain ⟨_, _, rfl, _⟩ := h; rfl
end Go.K
