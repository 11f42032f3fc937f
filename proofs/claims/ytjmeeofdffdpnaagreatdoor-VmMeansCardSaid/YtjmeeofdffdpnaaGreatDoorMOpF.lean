/- Lemmas. Conditions: those of each theorem. -/
import Derived.Test.YtjmeeofdffdpnaaGreatDoorMOpenS
import Derived.Test.YtjmeeofdffdpnaaGreatDoorMVmT
namespace Go.Proofs.YtjmeeofdffdpnaaGreatDoor
open Go Go.K Go.ChangeShapes Go.RowKit Go.WideElems
open Ru (NmS BasV)
section
variable {H : Type} {enc : TypeId × Value → H} {P : Program} {W : World} {n : Nat} {t e : TypeId} {cs : List Value} {x : DataW H × List MemPlace}
def Dat (enc : TypeId × Value → H) (P : Program) (W : World) (n : Nat) (t : TypeId) (cs : List Value) (x : DataW H × List MemPlace) : Prop :=
  DataW.trod enc P W 0 (fun _ => true) true n t cs = some x ∧ (x.1.weights P t).all (· ≤ reachBytes) = true
theorem Dat.slice (ht : P.underlying t = some (.slice e)) (h : Dat enc P W n t cs x) : ∃ (v : Value) (k : Nat), cs = [v] ∧ IsSl v k ∧ k * P.bytesOf e ≤ maxSl ∧ ∀ i, i < k → ∃ cs' m y, m < n ∧ Dat enc P W m e cs' y ∧ ∀ j u, cs'[j]? = some u → PCell (hp W) (Value.at v (i * P.cellsOf e + j)) u := by
  obtain ⟨h, hw⟩ := h
  rcases DataW.trod_slice ht h with ⟨rfl, _⟩ | ⟨a, len, cap, elems, rest, n', hn, rfl, hx, _, hl, _, hlen, he, _, _⟩
  · exact ⟨_, 0, rfl, isSl_nil, by simp, fun i hi => absurd hi (by simp)⟩
  · rw [hx] at hw
    simp only [DataW.weights, ht, List.all_cons, List.all_append, Bool.and_eq_true, decide_eq_true_eq, List.length_map] at hw
    obtain ⟨hw1, hw2, _⟩ := hw
    refine ⟨_, len, rfl, ⟨_, _, rfl, fun _ => rfl, by omega⟩, ?_, fun i hi => ?_⟩
    · have h1 : (elems.length + rest.length) * P.bytesOf e ≤ reachBytes := hw1
      have h2 : len * P.bytesOf e ≤ (elems.length + rest.length) * P.bytesOf e := Nat.mul_le_mul_right _ (by omega)
      have h3 : reachBytes ≤ maxSl := by decide
      omega
    · have hi' := he i hi
      have hil : i < elems.length := by rw [hlen]; exact hi
      rw [List.getElem?_eq_getElem hil] at hi'
      obtain ⟨cs', hc, hd⟩ := bS hi'
      refine ⟨cs', n', _, by omega, ⟨hd, weights_all hw2 _ (List.mem_map.2 ⟨_, List.getElem_mem hil, rfl⟩)⟩, fun j u hj => pcell_of ?_⟩
      obtain ⟨_, hcl, hat⟩ := World.cells?_some hc
      have hjl : j < P.cellsOf e := by rw [← hcl]; exact (List.getElem?_eq_some_iff.1 hj).1
      have := hat j hjl
      rw [hj, add_add] at this
      exact this
theorem Dat.rows {β : Type} {g : β → List Value → Prop} (ht : P.underlying t = some (.slice e)) (h : Dat enc P W n t cs x) (hg : ∀ m cs' y, m < n → Dat enc P W m e cs' y → ∃ b, g b cs') : ∃ (v : Value) (l : List β), cs = [v] ∧ IsSl v l.length ∧ l.length * P.bytesOf e ≤ maxSl ∧ ∀ i (h : i < l.length), ∃ cs', g l[i] cs' ∧ ∀ j u, cs'[j]? = some u → PCell (hp W) (Value.at v (i * P.cellsOf e + j)) u := by
  obtain ⟨v, k, hv, hk, hb, hi⟩ := h.slice ht
  have hex : ∀ i : Fin k, ∃ b : β, ∃ cs', g b cs' ∧ ∀ j u, cs'[j]? = some u → PCell (hp W) (Value.at v (i.1 * P.cellsOf e + j)) u := fun i => by
    obtain ⟨cs', m, y, hm, hy, hc⟩ := hi i.1 i.2
    obtain ⟨b, hb⟩ := hg m cs' y hm hy
    exact ⟨b, cs', hb, hc⟩
  refine ⟨v, List.ofFn fun i : Fin k => (hex i).choose, hv, by rw [List.length_ofFn]; exact hk, by rw [List.length_ofFn]; exact hb, fun i hi => ?_⟩
  rw [List.length_ofFn] at hi
  rw [List.getElem_ofFn]
  exact (hex ⟨i, hi⟩).choose_spec
theorem Dat.sl (α : Type) [Rep α] (ht : P.underlying t = some (.slice e)) (hC : P.cellsOf e = Rep.sz α) (hb : P.bytesOf e = Rep.bytes α) (h : Dat enc P W n t cs x) (hg : ∀ m cs' y, m < n → Dat enc P W m e cs' y → ∃ a : α, Rep.rep (hp W) a cs') : ∃ (v : Value) (l : List α), cs = [v] ∧ RepSl (hp W) l v := by
  obtain ⟨v, l, h1, h2, h3, h4⟩ := h.rows ht hg
  exact ⟨v, l, h1, h2, hb ▸ h3, fun i hi => hC ▸ h4 i hi⟩
theorem Dat.int (ht : P.underlying t = some (.int .i64)) (h : Dat enc P W n t cs x) : ∃ a : Int, cs = [.int .i64 a] ∧ I64 a := by
  obtain ⟨a, k, _, w⟩ := DataW.trod_int ht h.1
  exact ⟨a, k, i64_wf w⟩
theorem Dat.str (ht : P.underlying t = some .string) (h : Dat enc P W n t cs x) : ∃ a : List UInt8, cs = [.string (bs a)] ∧ a.length ≤ maxLen := by
  obtain ⟨a, k, _, w⟩ := DataW.trod_string ht h.1
  exact ⟨a.data.toList, k, by simpa using w⟩
theorem Dat.fields {fs : Array Field} (ht : P.underlying t = some (.struct fs)) (h : Dat enc P W n t cs x) : cs.length = P.cellsOf t ∧ ∃ m, m < n ∧ ∀ (k : Nat) (f : Field), fs[k]? = some f → ∃ y, Dat enc P W m f.type ((cs.drop f.offset).take (P.cellsOf f.type)) y := by
  obtain ⟨h, hw⟩ := h
  obtain ⟨xs, m, hn, hx, hl, hlen, hf⟩ := DataW.trod_struct ht h
  subst hx
  have hw : (DataW.weightsEach P (fs.toList.map (·.type)) (xs.map (·.1))).all (· ≤ reachBytes) = true := by
    have h2 := hw
    simp only [DataW.weights, ht] at h2
    exact h2
  refine ⟨hl, m, by omega, fun k f hk => ?_⟩
  have hk2 : k < xs.length := by rw [hlen]; exact (Array.getElem?_eq_some_iff.1 hk).1
  refine ⟨xs[k], (hf k f hk).trans (List.getElem?_eq_getElem hk2), weights_arg k hw ?_ ?_⟩
  · rw [List.getElem?_map, Array.getElem?_toList, hk]; rfl
  · rw [List.getElem?_map, List.getElem?_eq_getElem hk2]; rfl
end
section
variable {H : Type} {enc : TypeId × Value → H} {W : World} {n : Nat} {cs : List Value} {x : DataW H × List MemPlace}
theorem oc3 : pg.cellsOf 3 = 1 := by kernel_rfl
theorem oc9 : pg.cellsOf 9 = 1 := by kernel_rfl
theorem vlen2 {l : List Value} (h : l.length = 2) : ∃ a0 a1, l = [a0, a1] := match l, h with
  | [_, _], _ => ⟨_, _, rfl⟩
theorem vlen5 {l : List Value} (h : l.length = 5) : ∃ a0 a1 a2 a3 a4, l = [a0, a1, a2, a3, a4] := match l, h with
  | [_, _, _, _, _], _ => ⟨_, _, _, _, _, rfl⟩
theorem vlen6 {l : List Value} (h : l.length = 6) : ∃ a0 a1 a2 a3 a4 a5, l = [a0, a1, a2, a3, a4, a5] := match l, h with
  | [_, _, _, _, _, _], _ => ⟨_, _, _, _, _, _, rfl⟩
theorem vlen8 {l : List Value} (h : l.length = 8) : ∃ a0 a1 a2 a3 a4 a5 a6 a7, l = [a0, a1, a2, a3, a4, a5, a6, a7] := match l, h with
  | [_, _, _, _, _, _, _, _], _ => ⟨_, _, _, _, _, _, _, _, rfl⟩
theorem vlen11 {l : List Value} (h : l.length = 11) : ∃ a0 a1 a2 a3 a4 a5 a6 a7 a8 a9 a10, l = [a0, a1, a2, a3, a4, a5, a6, a7, a8, a9, a10] := match l, h with
  | [_, _, _, _, _, _, _, _, _, _, _], _ => ⟨_, _, _, _, _, _, _, _, _, _, _, rfl⟩
theorem open_ints (h : Dat enc pg W n 29 cs x) : ∃ (v : Value) (l : List Int), cs = [v] ∧ RepSl (hp W) l v :=
  h.sl Int Tryz.underlying29 oc3 (by kernel_rfl) fun _ _ _ _ hy => hy.int Tryz.underlying3
theorem open_expr : ∀ (n : Nat) {cs : List Value} {x : DataW H × List MemPlace}, Dat enc pg W n 59 cs x → ∃ a : Bt.Expr, Rep.rep (hp W) a cs := fun n => by
  induction n using Nat.strongRecOn with
  | _ n ih =>
    intro cs x h
    obtain ⟨hl, m, hm, hf⟩ := h.fields Tryz.underlying59
    obtain ⟨y0, h0⟩ := hf 0 ⟨_, 3, 0, _, _, _, _⟩ rfl
    obtain ⟨y1, h1⟩ := hf 1 ⟨_, 3, 1, _, _, _, _⟩ rfl
    obtain ⟨y2, h2⟩ := hf 2 ⟨_, 3, 2, _, _, _, _⟩ rfl
    obtain ⟨y3, h3⟩ := hf 3 ⟨_, 3, 3, _, _, _, _⟩ rfl
    obtain ⟨y4, h4⟩ := hf 4 ⟨_, 57, 4, _, _, _, _⟩ rfl
    obtain ⟨a0, k0, w0⟩ := h0.int Tryz.underlying3
    obtain ⟨a1, k1, w1⟩ := h1.int Tryz.underlying3
    obtain ⟨a2, k2, w2⟩ := h2.int Tryz.underlying3
    obtain ⟨a3, k3, w3⟩ := h3.int Tryz.underlying3
    obtain ⟨v4, l4, k4, r4⟩ := h4.sl Bt.Expr Tryz.underlying57 (by kernel_rfl) (by kernel_rfl) fun q _ _ hq hy => ih q (by omega) hy
    have e67 : pg.cellsOf 57 = 1 := by kernel_rfl
    have hl : cs.length = 5 := hl.trans (by kernel_rfl)
    obtain ⟨c0, c1, c2, c3, c4, rfl⟩ := vlen5 hl
    simp only [oc3, e67, List.drop_zero, List.drop_succ_cons, List.take_succ_cons, List.take_zero, List.cons.injEq, and_true] at k0 k1 k2 k3 k4
    subst k0; subst k1; subst k2; subst k3; subst k4
    exact ⟨⟨a0, a1, a2, a3, l4⟩, repE'.2 ⟨_, rfl, ⟨w0, w1, w2, w3⟩, r4⟩⟩
theorem open_fun (h : Dat enc pg W n 61 cs x) : ∃ a : Bt.RFunc, Rep.rep (hp W) a cs := by
  obtain ⟨hl, m, hm, hf⟩ := h.fields Tryz.underlying61
  obtain ⟨y0, h0⟩ := hf 0 ⟨_, 9, 0, _, _, _, _⟩ rfl
  obtain ⟨y1, h1⟩ := hf 1 ⟨_, 29, 1, _, _, _, _⟩ rfl
  obtain ⟨y2, h2⟩ := hf 2 ⟨_, 3, 2, _, _, _, _⟩ rfl
  obtain ⟨y3, h3⟩ := hf 3 ⟨_, 59, 3, _, _, _, _⟩ rfl
  obtain ⟨a0, k0, w0⟩ := h0.str Tryz.underlying9
  obtain ⟨v1, l1, k1, r1⟩ := open_ints h1
  obtain ⟨a2, k2, w2⟩ := h2.int Tryz.underlying3
  obtain ⟨a3, r3⟩ := open_expr m h3
  obtain ⟨v3, k3, w3, r3⟩ := repE'.1 r3
  have e29 : pg.cellsOf 29 = 1 := by kernel_rfl
  have e69 : pg.cellsOf 59 = 5 := by kernel_rfl
  have hl : cs.length = 8 := hl.trans (by kernel_rfl)
  obtain ⟨c0, c1, c2, c3, c4, c5, c6, c7, rfl⟩ := vlen8 hl
  simp only [oc3, oc9, e29, e69, exC, List.drop_zero, List.drop_succ_cons, List.take_succ_cons, List.take_zero, List.cons.injEq, and_true] at k0 k1 k2 k3
  obtain ⟨j0, j1, j2, j3, j4⟩ := k3
  subst k0; subst k1; subst k2; subst j0; subst j1; subst j2; subst j3; subst j4
  exact ⟨⟨a0, l1, a2, a3⟩, _, _, rfl, w0, r1, w2, w3, r3⟩
theorem open_cl (h : Dat enc pg W n 76 cs x) : ∃ a : Bt.RClause, Rep.rep (hp W) a cs := by
  obtain ⟨hl, m, hm, hf⟩ := h.fields Tryz.underlying76
  obtain ⟨y0, h0⟩ := hf 0 ⟨_, 59, 0, _, _, _, _⟩ rfl
  obtain ⟨y1, h1⟩ := hf 1 ⟨_, 3, 5, _, _, _, _⟩ rfl
  obtain ⟨y2, h2⟩ := hf 2 ⟨_, 59, 6, _, _, _, _⟩ rfl
  obtain ⟨a0, r0⟩ := open_expr m h0
  obtain ⟨v0, k0, w0, z0⟩ := repE'.1 r0
  clear r0
  obtain ⟨a1, k1, w1⟩ := h1.int Tryz.underlying3
  obtain ⟨a2, r2⟩ := open_expr m h2
  obtain ⟨v2, k2, w2, z2⟩ := repE'.1 r2
  clear r2
  have e69 : pg.cellsOf 59 = 5 := by kernel_rfl
  have hl : cs.length = 11 := hl.trans (by kernel_rfl)
  obtain ⟨c0, c1, c2, c3, c4, c5, c6, c7, c8, c9, c10, rfl⟩ := vlen11 hl
  simp only [oc3, e69, exC, List.drop_zero, List.drop_succ_cons, List.take_succ_cons, List.take_zero, List.cons.injEq, and_true] at k0 k1 k2
  obtain ⟨j0, j1, j2, j3, j4⟩ := k0
  obtain ⟨i0, i1, i2, i3, i4⟩ := k2
  subst k1; subst j0; subst j1; subst j2; subst j3; subst j4; subst i0; subst i1; subst i2; subst i3; subst i4
  exact ⟨⟨a0, a1, a2⟩, _, _, rfl, w0, z0, w1, w2, z2⟩
theorem open_rule (h : Dat enc pg W n 35 cs x) : ∃ (r : Bt.Rule) (fv cv : Value), cs = [fv, cv] ∧ RepSl (hp W) r.Funcs fv ∧ RepSl (hp W) r.Clauses cv := by
  obtain ⟨hl, m, hm, hf⟩ := h.fields Tryz.underlying35
  obtain ⟨y0, h0⟩ := hf 0 ⟨_, 32, 0, _, _, _, _⟩ rfl
  obtain ⟨y1, h1⟩ := hf 1 ⟨_, 33, 1, _, _, _, _⟩ rfl
  obtain ⟨v0, l0, k0, r0⟩ := h0.sl Bt.RFunc Tryz.underlying32 (by kernel_rfl) (by kernel_rfl) fun _ _ _ _ hy => open_fun hy
  obtain ⟨v1, l1, k1, r1⟩ := h1.sl Bt.RClause Tryz.underlying33 (by kernel_rfl) (by kernel_rfl) fun _ _ _ _ hy => open_cl hy
  have e32 : pg.cellsOf 32 = 1 := by kernel_rfl
  have e33 : pg.cellsOf 33 = 1 := by kernel_rfl
  have hl : cs.length = 2 := hl.trans (by kernel_rfl)
  obtain ⟨c0, c1, rfl⟩ := vlen2 hl
  simp only [e32, e33, List.drop_zero, List.drop_succ_cons, List.take_succ_cons, List.take_zero, List.cons.injEq, and_true] at k0 k1
  subst k0; subst k1
  exact ⟨⟨l0, l1⟩, _, _, rfl, r0, r1⟩
theorem open_facts (h : Dat enc pg W n 41 cs x) : ∃ (f : Bt.Facts) (yf : FcV), cs = fcC yf f.Hour ∧ yf.ok (hp W) f ∧ I64 f.Hour := by
  obtain ⟨hl, m, hm, hf⟩ := h.fields Tryz.underlying41
  obtain ⟨y0, h0⟩ := hf 0 ⟨_, 29, 0, _, _, _, _⟩ rfl
  obtain ⟨y1, h1⟩ := hf 1 ⟨_, 29, 1, _, _, _, _⟩ rfl
  obtain ⟨y2, h2⟩ := hf 2 ⟨_, 39, 2, _, _, _, _⟩ rfl
  obtain ⟨y3, h3⟩ := hf 3 ⟨_, 29, 3, _, _, _, _⟩ rfl
  obtain ⟨y4, h4⟩ := hf 4 ⟨_, 3, 4, _, _, _, _⟩ rfl
  obtain ⟨y5, h5⟩ := hf 5 ⟨_, 29, 5, _, _, _, _⟩ rfl
  obtain ⟨v0, l0, k0, r0⟩ := open_ints h0
  obtain ⟨v1, l1, k1, r1⟩ := open_ints h1
  obtain ⟨v2, l2, k2, r2⟩ := h2.sl (List Int) Tryz.underlying39 (by kernel_rfl) (by kernel_rfl) fun _ _ _ _ hy => by
    obtain ⟨v, l, k, r⟩ := open_ints hy
    exact ⟨l, v, k, r⟩
  obtain ⟨v3, l3, k3, r3⟩ := open_ints h3
  obtain ⟨a4, k4, w4⟩ := h4.int Tryz.underlying3
  obtain ⟨v5, l5, k5, r5⟩ := open_ints h5
  have e29 : pg.cellsOf 29 = 1 := by kernel_rfl
  have e36 : pg.cellsOf 39 = 1 := by kernel_rfl
  have hl : cs.length = 6 := hl.trans (by kernel_rfl)
  obtain ⟨c0, c1, c2, c3, c4, c5, rfl⟩ := vlen6 hl
  simp only [oc3, e29, e36, List.drop_zero, List.drop_succ_cons, List.take_succ_cons, List.take_zero, List.cons.injEq, and_true] at k0 k1 k2 k3 k4 k5
  subst k0; subst k1; subst k2; subst k3; subst k4; subst k5
  exact ⟨⟨l0, l1, l2, l3, a4, l5⟩, ⟨c0, c1, c2, c3, c5⟩, rfl, ⟨r0, r1, r2, r3, r5⟩, w4⟩
theorem nmS_of {Φ : Hp} {v : Value} {sz by_ : Nat} {l : List (List UInt8 × Int)} (h1 : IsSl v l.length) (h2 : l.length * by_ ≤ maxSl) (h0 : 0 < by_) (h3 : ∀ i (h : i < l.length), ∃ cs : List Value, (cs[0]? = some (.string (bs l[i].1)) ∧ l[i].1.length ≤ maxLen) ∧ ∀ j u, cs[j]? = some u → PCell Φ (Value.at v (i * sz + j)) u) : NmS Φ v sz (l.map (·.1)) := by
  refine ⟨by rw [List.length_map]; exact h1, fun i hi => ?_, fun q hq => ?_, ?_⟩
  · have hi' : i < l.length := by rwa [List.length_map] at hi
    obtain ⟨cs, h4, h5⟩ := h3 i hi'
    rw [List.getElem_map]
    exact h5 0 _ h4.1
  · obtain ⟨a, ha, rfl⟩ := List.mem_map.1 hq
    obtain ⟨i, hi, rfl⟩ := List.mem_iff_getElem.1 ha
    obtain ⟨cs, h4, _⟩ := h3 i hi
    exact h4.2
  · rw [List.length_map]
    have h6 : l.length * 1 ≤ l.length * by_ := Nat.mul_le_mul_left _ h0
    simp only [maxSl] at h2
    omega
theorem name_str (h : Dat enc pg W n 9 cs x) : ∃ b : List UInt8 × Int, cs[0]? = some (.string (bs b.1)) ∧ b.1.length ≤ maxLen := by
  obtain ⟨a, rfl, w⟩ := h.str Tryz.underlying9
  exact ⟨(a, 0), rfl, w⟩
theorem take_at {l : List Value} {o : Nat} {u : Value} (h : (l.drop o).take 1 = [u]) : l[o]? = some u := by
  have h1 : ((l.drop o).take 1)[0]? = some u := by rw [h]; rfl
  simpa [List.getElem?_take, List.getElem?_drop] using h1
theorem name_of {t : TypeId} {fs : Array Field} {f : Field} (ht : pg.underlying t = some (.struct fs)) (hf0 : fs[0]? = some f) (h9 : f.type = 9) (h0 : f.offset = 0) (h : Dat enc pg W n t cs x) : ∃ b : List UInt8 × Int, cs[0]? = some (.string (bs b.1)) ∧ b.1.length ≤ maxLen := by
  obtain ⟨_, m, _, hf⟩ := h.fields ht
  obtain ⟨y, hy⟩ := hf 0 f hf0
  rw [h9, h0, oc9] at hy
  obtain ⟨a, k, w⟩ := hy.str Tryz.underlying9
  exact ⟨(a, 0), take_at k, w⟩
theorem link_of (h : Dat enc pg W n 111 cs x) : ∃ b : List UInt8 × Int, (cs[0]? = some (.string (bs b.1)) ∧ b.1.length ≤ maxLen) ∧ cs[7]? = some (.int .i64 b.2) ∧ I64 b.2 := by
  obtain ⟨_, m, _, hf⟩ := h.fields Tryz.underlying111
  obtain ⟨y, hy⟩ := hf 0 ⟨_, 9, 0, _, _, _, _⟩ rfl
  obtain ⟨z, hz⟩ := hf 6 ⟨_, 3, 7, _, _, _, _⟩ rfl
  obtain ⟨a, k, w⟩ := hy.str Tryz.underlying9
  obtain ⟨p, k2, w2⟩ := hz.int Tryz.underlying3
  have k : (cs.drop 0).take 1 = [.string (bs a)] := by rw [← oc9]; exact k
  have k2 : (cs.drop 7).take 1 = [.int .i64 p] := by rw [← oc3]; exact k2
  exact ⟨(a, p), ⟨take_at (o := 0) k, w⟩, take_at (o := 7) k2, w2⟩
theorem open_basin2 (h : Dat enc pg W n 31 cs x) : ∃ (b : BasV) (e : Ru.Env) (ps : List Int), cs = b.cs ∧ b.ok (hp W) e ∧ PosS (hp W) b.lv ps ∧ ps.length = e.links.length ∧ ps.length * 200 ≤ maxSl ∧ (∀ x ∈ ps, I64 x) ∧ e.places.length * 16 ≤ maxSl ∧ e.links.length * 16 ≤ maxSl ∧ e.towns.length * 16 ≤ maxSl := by
  obtain ⟨hl, m, hm, hf⟩ := h.fields Tryz.underlying31
  obtain ⟨y0, h0⟩ := hf 0 ⟨_, 9, 0, _, _, _, _⟩ rfl
  obtain ⟨y1, h1⟩ := hf 1 ⟨_, 22, 1, _, _, _, _⟩ rfl
  obtain ⟨y2, h2⟩ := hf 2 ⟨_, 3, 2, _, _, _, _⟩ rfl
  obtain ⟨y3, h3⟩ := hf 3 ⟨_, 23, 3, _, _, _, _⟩ rfl
  obtain ⟨y4, h4⟩ := hf 4 ⟨_, 24, 4, _, _, _, _⟩ rfl
  obtain ⟨y5, h5⟩ := hf 5 ⟨_, 25, 5, _, _, _, _⟩ rfl
  obtain ⟨y10, h10⟩ := hf 10 ⟨_, 3, 10, _, _, _, _⟩ rfl
  obtain ⟨a0, k0, w0⟩ := h0.str Tryz.underlying9
  obtain ⟨v1, l1, k1, s1, b1, r1⟩ := h1.rows Tryz.underlying22 fun _ _ _ _ hy => name_str hy
  obtain ⟨a2, k2, w2⟩ := h2.int Tryz.underlying3
  obtain ⟨v3, l3, k3, s3, b3, r3⟩ := h3.rows Tryz.underlying23 fun _ _ _ _ hy => name_of Tryz.underlying106 rfl rfl rfl hy
  obtain ⟨v4, l4, k4, s4, b4, r4⟩ := h4.rows Tryz.underlying24 fun _ _ _ _ hy => link_of hy
  obtain ⟨v5, l5, k5, s5, b5, r5⟩ := h5.rows Tryz.underlying25 fun _ _ _ _ hy => name_of Tryz.underlying113 rfl rfl rfl hy
  obtain ⟨a10, k10, w10⟩ := h10.int Tryz.underlying3
  have e22 : pg.cellsOf 22 = 1 := by kernel_rfl
  have e23 : pg.cellsOf 23 = 1 := by kernel_rfl
  have e24 : pg.cellsOf 24 = 1 := by kernel_rfl
  have e25 : pg.cellsOf 25 = 1 := by kernel_rfl
  have c92 : pg.cellsOf 106 = 12 := by kernel_rfl
  have c58 : pg.cellsOf 111 = 18 := by kernel_rfl
  have c94 : pg.cellsOf 113 = 7 := by kernel_rfl
  have d58 : pg.bytesOf 111 = 200 := by kernel_rfl
  have p9 : 0 < pg.bytesOf 9 := by decide +kernel
  have p92 : 16 ≤ pg.bytesOf 106 := by decide +kernel
  have p94 : 16 ≤ pg.bytesOf 113 := by decide +kernel
  rw [oc9] at r1; rw [c92] at r3; rw [c58] at r4; rw [c94] at r5; rw [d58] at b4
  have hl : cs.length = 11 := hl.trans (by kernel_rfl)
  obtain ⟨c0, c1, c2, c3, c4, c5, c6, c7, c8, c9, c10, rfl⟩ := vlen11 hl
  simp only [oc3, oc9, e22, e23, e24, e25, List.drop_zero, List.drop_succ_cons, List.take_succ_cons, List.take_zero, List.cons.injEq, and_true] at k0 k1 k2 k3 k4 k5 k10
  subst k0; subst k1; subst k2; subst k3; subst k4; subst k5; subst k10
  refine ⟨⟨a0, c1, a2, c3, c4, c5, c6, c7, c8, c9, a10⟩, ⟨l3.map (·.1), l1.map (·.1), l4.map (·.1), l5.map (·.1)⟩, l4.map (·.2), rfl, ⟨nmS_of s1 b1 p9 r1, nmS_of s3 b3 (Nat.lt_of_lt_of_le (by decide) p92) r3, nmS_of s4 b4 (by omega) fun i hi => ?_, nmS_of s5 b5 (Nat.lt_of_lt_of_le (by decide) p94) r5⟩, fun i hi => ?_, ?_, ?_, fun q hq => ?_, ?_, ?_, ?_⟩
  · obtain ⟨cs', hg, hc⟩ := r4 i hi
    exact ⟨cs', hg.1, hc⟩
  · rw [List.length_map] at hi
    obtain ⟨cs', hg, hc⟩ := r4 i hi
    have := hc 7 _ hg.2.1
    rw [gDD, List.getElem?_map, List.getElem?_eq_getElem hi]
    exact this
  · rw [List.length_map]; show l4.length = (l4.map (·.1)).length; rw [List.length_map]
  · rw [List.length_map]; exact b4
  · obtain ⟨a, ha, rfl⟩ := List.mem_map.1 hq
    obtain ⟨i, hi, rfl⟩ := List.mem_iff_getElem.1 ha
    obtain ⟨cs', hg, hc⟩ := r4 i hi
    exact hg.2.2
  · rw [List.length_map]; exact Nat.le_trans (Nat.mul_le_mul_left _ p92) b3
  · rw [List.length_map]; exact Nat.le_trans (Nat.mul_le_mul_left _ (by decide)) b4
  · rw [List.length_map]; exact Nat.le_trans (Nat.mul_le_mul_left _ p94) b5
theorem open_basin (h : Dat enc pg W n 31 cs x) : ∃ (b : BasV) (e : Ru.Env) (ps : List Int), cs = b.cs ∧ b.ok (hp W) e ∧ PosS (hp W) b.lv ps ∧ ps.length = e.links.length ∧ ps.length * 200 ≤ maxSl ∧ ∀ x ∈ ps, I64 x :=
  let ⟨b, e, ps, h1, h2, h3, h4, h5, h6, _⟩ := open_basin2 h
  ⟨b, e, ps, h1, h2, h3, h4, h5, h6⟩
end
end Go.Proofs.YtjmeeofdffdpnaaGreatDoor
