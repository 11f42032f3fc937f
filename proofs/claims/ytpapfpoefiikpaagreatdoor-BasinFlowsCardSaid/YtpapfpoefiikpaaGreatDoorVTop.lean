/- Lemmas. Conditions: those of each theorem. -/
import Derived.Test.YtpapfpoefiikpaaGreatDoorVCore2
import Derived.ProofKit
import Derived.SizedLaws
import Derived.Deep.Slices
namespace Go.K
open Go Go.ChangeShapes Go.WideShapes Go.RowKit Go.WideElems

def Opens (α : Type) [Rep α] (P : Program) (t : TypeId) : Prop :=
  ∀ {H : Type} (enc : TypeId × Value → H) (W : World) (n : Nat) (cs : List Value) (x : DataW H × List MemPlace),
    DataW.trod enc P W 0 (fun _ => true) true n t cs = some x → (x.1.weights P t).all (· ≤ reachBytes) = true → ∃ a : α, Rep.rep (hp W) a cs

theorem i64_wf {n : Int} (h : (Lit.int .i64 n).wf = true) : I64 n := by
  unfold I64
  simpa [Lit.wf, IntKind.min, IntKind.max, IntKind.signed, IntKind.bits] using h
theorem opens_int {P : Program} {t : TypeId} (ht : P.underlying t = some (.int .i64)) : Opens Int P t := fun enc W n cs x h _ => by
  obtain ⟨k, rfl, _, hw⟩ := DataW.trod_int ht h
  exact ⟨k, rfl, i64_wf hw⟩
theorem opens_string {P : Program} {t : TypeId} (ht : P.underlying t = some .string) : Opens ByteArray P t := fun enc W n cs x h _ => by
  obtain ⟨k, rfl, _, hw⟩ := DataW.trod_string ht h
  exact ⟨k, rfl, hw⟩
theorem weights_all {H : Type} {P : Program} {e : TypeId} {p : Nat → Bool} : ∀ {l : List (DataW H)}, (DataW.weightsAll P e l).all p = true → ∀ d ∈ l, (d.weights P e).all p = true
  | [], _, d, hd => by cases hd
  | a :: l, h, d, hd => by
    rw [DataW.weightsAll, List.all_append, Bool.and_eq_true] at h
    rcases List.mem_cons.1 hd with rfl | hd
    · exact h.1
    · exact weights_all h.2 d hd
theorem pcell_of {W : World} {p : Addr} {v : Value} (h : W.cell? p = some v) : PCell (hp W) p v := by
  unfold World.cell? at h
  split at h
  · rename_i c T fz hb
    split at h
    · cases h
    · rename_i hs
      exact ⟨c, T, fz, hb, by simpa using hs, h⟩
  · cases h
theorem opens_slice {α : Type} [Rep α] {P : Program} {t e : TypeId} (ht : P.underlying t = some (.slice e)) (hC : P.cellsOf e = Rep.sz α) (hb : P.bytesOf e = Rep.bytes α) (hel : Opens α P e) : Opens (List α) P t := fun enc W n cs x h hw => by
  rcases Deep.open_slice ht h with ⟨rfl, _⟩ | ⟨a, len, cap, m, n', D, Pl, rfl, _, hl, _, hm, hx, hi⟩
  · exact ⟨[], _, rfl, isSl_nil, by simp [maxSl], fun i hi => absurd hi (by simp)⟩
  · rw [hx] at hw
    simp only [DataW.weights, ht, List.all_cons, List.all_append, Bool.and_eq_true, decide_eq_true_eq, List.length_map, List.length_range] at hw
    obtain ⟨hw1, hw2, _⟩ := hw
    have hm' : m = cap := by simpa using hm
    subst hm'
    have hex : ∀ i : Fin len, ∃ a0 : α, ∃ cs', Rep.rep (hp W) a0 cs' ∧ ∀ j u, cs'[j]? = some u → PCell (hp W) (Value.at (.slice (some a) len m) (i.1 * Rep.sz α + j)) u := by
      intro i
      obtain ⟨cs', hc, hd⟩ := hi i.1 (by omega)
      obtain ⟨a0, ha0⟩ := hel enc W n' cs' _ hd (weights_all hw2 _ (List.mem_map.2 ⟨i.1, List.mem_range.2 i.2, rfl⟩))
      refine ⟨a0, cs', ha0, fun j u hj => pcell_of ?_⟩
      obtain ⟨_, hlen, hat⟩ := World.cells?_some hc
      have hjl : j < P.cellsOf e := by rw [← hlen]; exact (List.getElem?_eq_some_iff.1 hj).1
      have := hat j hjl
      rw [hj, add_add] at this
      show W.cell? (a.add (i.1 * Rep.sz α + j)) = some u
      rw [← hC]; exact this
    refine ⟨List.ofFn fun i : Fin len => (hex i).choose, _, rfl, ⟨by rw [List.length_ofFn]; exact ⟨_, _, rfl, fun _ => rfl, by omega⟩, ?_, fun i hi' => ?_⟩⟩
    · rw [List.length_ofFn, ← hb]
      have : (len + (m - len)) * P.bytesOf e ≤ reachBytes := hw1
      have h2 : len * P.bytesOf e ≤ (len + (m - len)) * P.bytesOf e := Nat.mul_le_mul_right _ (by omega)
      have h3 : reachBytes ≤ maxSl := by decide
      omega
    · rw [List.length_ofFn] at hi'
      rw [List.getElem_ofFn]
      exact (hex ⟨i, hi'⟩).choose_spec
theorem trodAll_stays {H : Type} {enc : TypeId × Value → H} {P : Program} {W W' : World} {sp : Nat → Bool} (hl : laidOutB P = true) : ∀ {ts : List TypeId} {vs : List Value} {ds : List (DataW H)} {ps : List MemPlace},
    (ts.all fun t => P.readableRec t && decide (t < P.types.size)) = true → DataW.TrodAll enc P W 0 (fun _ => true) true ts vs ds ps → (∀ p ∈ ps, W.sameAt W' p) → (∀ p ∈ ps, sp p.block = true) → DataW.TrodAll enc P W' 0 sp true ts vs ds ps
  | [], [], [], _, _, h, _, _ => h
  | t :: ts, v :: vs, d :: ds, ps, ht, ⟨p, q, h1, h2, e⟩, hs, hsp => by
    rw [List.all_cons, Bool.and_eq_true, Bool.and_eq_true, decide_eq_true_eq] at ht
    exact ⟨p, q, Trod_stays hl ht.1.1 ht.1.2 h1 (fun x hx => hs x (by rw [e]; exact List.mem_append_left _ hx)) (fun x hx => hsp x (by rw [e]; exact List.mem_append_left _ hx)),
      trodAll_stays hl ht.2 h2 (fun x hx => hs x (by rw [e]; exact List.mem_append_right _ hx)) (fun x hx => hsp x (by rw [e]; exact List.mem_append_right _ hx)), e⟩
theorem weights_arg {H : Type} {P : Program} {p : Nat → Bool} : ∀ {ts : List TypeId} {ds : List (DataW H)} (j : Nat) {t : TypeId} {d : DataW H}, (DataW.weightsEach P ts ds).all p = true → ts[j]? = some t → ds[j]? = some d → (d.weights P t).all p = true
  | [], _, _, _, _, _, h1, _ => by simp at h1
  | _ :: _, [], _, _, _, _, _, h2 => by simp at h2
  | t0 :: ts, d0 :: ds, j, t, d, h, h1, h2 => by
    rw [DataW.weightsEach, List.all_append, Bool.and_eq_true] at h
    cases j with
    | zero =>
      obtain rfl : t0 = t := by simpa using h1
      obtain rfl : d0 = d := by simpa using h2
      exact h.1
    | succ j => exact weights_arg j h.2 (by simpa using h1) (by simpa using h2)
theorem open_agg {α : Type} [Rep α] {H : Type} {enc : TypeId × Value → H} {P : Program} {W : World} {t : TypeId} {v : Value} {d : DataW H} {ps : List MemPlace} (ho : Opens α P t) (h : DataW.Trod enc P W 0 (fun _ => true) true t v d ps)
    (hw : (d.weights P t).all (· ≤ reachBytes) = true) : ∃ x : α, RepV (hp W) x v.cells.toList := by
  obtain ⟨n, hn⟩ := h
  exact ho enc W n _ _ hn hw
theorem agg_value {P : Program} {W : World} {r : Reach} {b : Nat} {t : TypeId} {fs : Array Field} {v : Value} (ht : P.underlying t = some (.struct fs)) (h : Value.okWide P W r b t v) : ∃ cs : List Value, v = .agg cs.toArray ∧ v.cells.toList = cs := by
  unfold Value.okWide at h
  rw [ht] at h
  cases v <;> first | exact ⟨_, rfl, rfl⟩ | simp_all
theorem law_post {H : Type} {enc : TypeId × Value → H} {P : Program} {f : Func} {s : ChangeSpec} {W W' : World} {args : Array Value} {ds gs : List (DataW H)} {before : List MemPlace} {tB : TypeId} (hl : laidOutB P = true)
    (hrow : (f.params.toList.all fun t => P.readableRec t && decide (t < P.types.size)) = true) (hvars : s.vars = []) (hres : f.resultTypes = #[tB]) (hB : P.underlying tB = some .bool)
    (hfn : s.fn H (ds ++ gs) = { results := [.lit (.bool true)], args := ds }) (hW : DataW.Whole enc P f.params.toList s.vars false W args.toList ds gs before) (hb : Below W.heap.size W W') :
    s.post enc P f false true false false W args (.bool true) W' := by
  have hW' := hW
  obtain ⟨p, q, hA, hV, rfl, _, _⟩ := hW
  have hV' := hV
  rw [hvars] at hV'
  obtain ⟨rfl, rfl⟩ := trodVars_none hV'
  have hlt : ∀ x ∈ p, x.block < W.heap.size := fun x hx => hW'.lt x (by simp [hx])
  refine ⟨ds, [], p ++ [], [], p, [], hW', ?_, ?_, ?_, World.keptBut_mono (fun x hx => ⟨hx, ?_⟩) (hb.frame (· ∈ p ++ [])), fun h => by cases h⟩
  · rw [hfn, hres]; exact trodAll_mk1 (shut_bool hB _)
  · rw [hfn]
    exact trodAll_stays hl hrow hA (fun x hx => hb.same (hlt x hx)) (fun x hx => by simpa using hlt x hx)
  · rw [hfn, hvars]; rfl
  · exact .inr (.inl (by simpa using hx))
end Go.K
