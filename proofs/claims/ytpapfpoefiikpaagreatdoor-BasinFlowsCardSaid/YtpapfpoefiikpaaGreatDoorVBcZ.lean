/- Lemmas. Conditions: those of each theorem. -/
import Derived.Test.YtpapfpoefiikpaaGreatDoorVBcX
set_option maxRecDepth 8000
set_option maxHeartbeats 16000000
namespace Go.Proofs.YtpapfpoefiikpaaGreatDoor
open Go Go.K Go.RowKit
section
variable {P : Program} {N : Nat} {D : List Deferred} {ops : Array Oper} {Q : Exit → Act → World → Prop} {Pn : List PanicEntry → World → Prop} {f : Nat → Value} {s : List (Nat × Value)} {B : Bs} {Φ : Hp} {C : List Chunk} {d : Nat} {ty : TypeId} {pos : String} {af : Array Edge} {rest : List Oper} {x : Operand} {xs : Array Operand} {ts : Array TypeId} {k : FuncId} {args : Array Value} {v : Value}
theorem RW.eb [hQ : PanQ D Q Pn] [hk : OwnI P k] (hd : Nat.blt d N = true) (h : ∀ w, (St B Φ C).p w → Calls P k args w fun e w' => ∃ t : Bool, e = .returned (.bool t) ∧ Bel w.heap.size w w') (hx : ev (fr f s) x = .func (.func k) #[] #[]) (ha : xs.toList.map (ev (fr f s)) = args.toList) (kk : ∀ t : Bool, RW P N D ops Q rest f ((d, .bool t) :: s) (St B Φ C)) : RW P N D ops Q (⟨some d, .call { callee := .value x, args := xs, argTypes := ts }, ty, pos, af, none⟩ :: rest) f s (St B Φ C) :=
  RW.ec (V := fun t => .bool t) (J' := fun _ => St B Φ C) hd (fun w hw => (h w hw).mono fun _ _ ⟨t, he, hb⟩ => ⟨t, he, StP.ext hw hb⟩) hx ha kk
theorem RW.ez [hQ : PanQ D Q Pn] [hk : OwnI P k] (hz : B.w0.drawn = 0) (hd : Nat.blt d N = true) (h : ∀ w, (St B Φ C).p w → Calls P k args w fun e w' => e = .returned v ∧ Bel w.heap.size (zw w) w') (hx : ev (fr f s) x = .func (.func k) #[] #[]) (ha : xs.toList.map (ev (fr f s)) = args.toList) (kk : RW P N D ops Q rest f ((d, v) :: s) (St B Φ C)) : RW P N D ops Q (⟨some d, .call { callee := .value x, args := xs, argTypes := ts }, ty, pos, af, none⟩ :: rest) f s (St B Φ C) :=
  RW.ec (X := Unit) (V := fun _ => v) (J' := fun _ => St B Φ C) hd (fun w hw => (h w hw).mono fun _ _ ⟨he, hb⟩ => ⟨(), he, StP.ext (w := zw w) (StP.zz hz hw) hb⟩) hx ha fun _ => kk
end
attribute [local irreducible] AW RW DW Post Qt
theorem few_c (w : World) (Φ : Hp) (hΦ : Hp.le Φ (hp w)) {b : Bt.Basin} {cs : List Value} (hB : RepV Φ b cs) :
    Calls pg 9 #[.agg cs.toArray] w fun e w' => ∃ t : Bool, e = .returned (.bool t) ∧ Bel w.heap.size w w' := by
  obtain ⟨v1, v3, v4, v5, v6, v7, v8, v9, rfl, hBw, r1, r3, r4, r5, r6, r7, r8, r9⟩ := (show Rep.rep Φ b cs from hB)
  have hpm : b.Places.length * 152 ≤ 140737488355328 := r3.max
  have hlm : b.Links.length * 200 ≤ 140737488355328 := r4.max
  refine in1 129 Tryz.func9 rfl rfl hΦ ?_
  repeat refine g1 ?_
  refine RW.bxA rfl rfl fun b1 => ?_
  repeat first | refine g1 ?_ | refine RW.pkO rfl rfl rfl rfl fun _ _ => ?_ | refine RW.g rfl rfl rfl (fun h => qa_len (gv_pos h) (RepSl.sl (by assumption))) ?_
  refine RW.g rfl rfl rfl (fun h => q_lenS (l := b.Name.data.toList) (gv_pos h) Tryz.underlying9) ?_
  repeat first | refine g1 ?_ | refine RW.pkO rfl rfl rfl rfl fun _ _ => ?_ | refine RW.g rfl rfl rfl (fun h => qa_len (gv_pos h) (RepSl.sl (by assumption))) ?_
  refine AW.cond rfl (fun _ => ?_) fun _ => ?_
  · repeat refine g1 ?_
    exact fin_res (vs := [.bool false]) rfl rfl ⟨.tmp rfl, trivial⟩ rfl (fun w' hw => ⟨false, rfl, hw.below rfl⟩)
  repeat refine g1 ?_
  refine AW.lp (fun s J m => ∃ i : Nat, s = [(3, .int .i64 (i : Int)), (1, .pointer (some ⟨b1, 0, none⟩))] ∧ J = St ⟨w, Φ, []⟩ Φ [.blk b1 31 [.string b.Name, v1, .int .i64 b.Cells, v3, v4, v5, v6, v7, v8, v9, .int .i64 b.Err]] ∧ m = b.Places.length - i ∧ i ≤ b.Places.length) ⟨0, rfl, rfl, rfl, Nat.zero_le _⟩ ?_
  rintro _ _ _ _ ⟨i, rfl, rfl, rfl, hi⟩
  repeat refine g1 ?_
  refine AW.cond rfl (fun h => ?_) fun h => ?_
  · have h : i < b.Places.length := by simpa using h
    repeat refine g1 ?_
    refine RW.el rfl rfl r3 h rfl rfl rfl rfl fun cs q hrep => ?_
    obtain ⟨w4, w5, w6, rfl, hw9, s4, s5, s6⟩ := hrep
    repeat first | refine g1 ?_ | refine RW.pkO rfl rfl rfl rfl fun _ _ => ?_ | refine RW.g rfl rfl rfl (fun h => qa_len (gv_pos h) (RepSl.sl (by assumption))) ?_
    refine RW.g rfl rfl rfl (fun h => q_lenS (l := (b.Places.getD i default).Name.data.toList) (gv_pos h) Tryz.underlying9) ?_
    repeat first | refine g1 ?_ | refine RW.pkO rfl rfl rfl rfl fun _ _ => ?_ | refine RW.g rfl rfl rfl (fun h => qa_len (gv_pos h) (RepSl.sl (by assumption))) ?_
    refine AW.cond rfl (fun _ => ?_) fun _ => ?_
    · repeat refine g1 ?_
      exact fin_res (vs := [.bool false]) rfl rfl ⟨.tmp rfl, trivial⟩ rfl (fun w' hw => ⟨false, rfl, hw.below rfl⟩)
    · repeat refine g1 ?_
      exact Post.bk ⟨i + 1, rfl, rfl, rfl, h⟩
  · repeat refine g1 ?_
    refine AW.lp (fun s J m => ∃ i : Nat, s = [(5, .int .i64 (i : Int)), (1, .pointer (some ⟨b1, 0, none⟩))] ∧ J = St ⟨w, Φ, []⟩ Φ [.blk b1 31 [.string b.Name, v1, .int .i64 b.Cells, v3, v4, v5, v6, v7, v8, v9, .int .i64 b.Err]] ∧ m = b.Links.length - i ∧ i ≤ b.Links.length) ⟨0, rfl, rfl, rfl, Nat.zero_le _⟩ ?_
    rintro _ _ _ _ ⟨i, rfl, rfl, rfl, hi⟩
    repeat refine g1 ?_
    refine AW.cond rfl (fun h => ?_) fun h => ?_
    · have h : i < b.Links.length := by simpa using h
      repeat refine g1 ?_
      refine RW.el rfl rfl r4 h rfl rfl rfl rfl fun cs q hrep => ?_
      obtain ⟨w4, w5, w6, rfl, hw9, s4, s5, s6⟩ := hrep
      repeat first | refine g1 ?_ | refine RW.pkO rfl rfl rfl rfl fun _ _ => ?_ | refine RW.g rfl rfl rfl (fun h => qa_len (gv_pos h) (RepSl.sl (by assumption))) ?_
      refine RW.g rfl rfl rfl (fun h => q_lenS (l := (b.Links.getD i default).Name.data.toList) (gv_pos h) Tryz.underlying9) ?_
      repeat first | refine g1 ?_ | refine RW.pkO rfl rfl rfl rfl fun _ _ => ?_ | refine RW.g rfl rfl rfl (fun h => qa_len (gv_pos h) (RepSl.sl (by assumption))) ?_
      refine AW.cond rfl (fun _ => ?_) fun _ => ?_
      · repeat refine g1 ?_
        exact fin_res (vs := [.bool false]) rfl rfl ⟨.tmp rfl, trivial⟩ rfl (fun w' hw => ⟨false, rfl, hw.below rfl⟩)
      · repeat refine g1 ?_
        exact Post.bk ⟨i + 1, rfl, rfl, rfl, h⟩
    · repeat refine g1 ?_
      exact fin_res (vs := [.bool true]) rfl rfl ⟨.tmp rfl, trivial⟩ rfl (fun w' hw => ⟨true, rfl, hw.below rfl⟩)
theorem sameArcs_c (w : World) (Φ : Hp) (hΦ : Hp.le Φ (hp w)) {L : List Gr.Arc} {v1 v2 : Value} (h1 : RepSl Φ L v1) (h2 : RepSl Φ L v2) :
    Calls pg 22 #[v1, v2] w fun e w' => e = .returned (.bool true) ∧ Bel w.heap.size w w' := by
  have hm : L.length * 16 ≤ 140737488355328 := h1.max
  obtain ⟨A1, c1, rfl, _⟩ := h1.sl
  obtain ⟨A2, c2, rfl, _⟩ := h2.sl
  refine in2 26 Tryz.func22 rfl rfl hΦ ?_
  repeat first | refine t2 ?_ | refine t3 ?_ | refine g1 ?_
  refine AW.lp (fun s J m => ∃ i : Nat, s = [(5, .int .i64 (i : Int)), (0, .slice A1 L.length c1), (1, .slice A2 L.length c2)] ∧ J = St ⟨w, Φ, []⟩ Φ [] ∧ m = L.length - i ∧ i ≤ L.length) ⟨0, rfl, rfl, rfl, Nat.zero_le _⟩ ?_
  rintro _ _ _ _ ⟨i, rfl, rfl, rfl, hi⟩
  repeat refine g1 ?_
  refine AW.cond rfl (fun h => ?_) fun h => ?_
  · have h : i < L.length := by simpa using h
    repeat refine g1 ?_
    refine AW.draw (J0 := St ⟨w, Φ, []⟩ Φ []) [.q, .q, .q, .q, .q, .q, .q, .q, .q] [0, 1, 2, 3, 4, 5, 6, 7, 8] hmix (by kernel_rfl) ?_
    iterate 2 refine g1 ?_
    refine DW.q (fun _ h => h) rfl (qa_ixN rfl rfl h1.sl h) ?_
    refine DW.q (fun _ h => h) rfl (qa_ldA rfl (Cells.repE h1 h rfl) rfl) ?_
    iterate 2 refine g1 ?_
    refine DW.q (fun _ h => h) rfl (qa_ixN rfl rfl h2.sl h) ?_
    refine DW.q (fun _ h => h) rfl (qa_ldA rfl (Cells.repE h2 h rfl) rfl) ?_
    refine DW.q (v := .bool false) (fun _ h => h) rfl (q_as (q_neqS rfl rfl (eqS54 _ _ _ _) eqG54) (by simp)) ?_
    repeat refine g1 ?_
    exact Post.bk ⟨i + 1, rfl, rfl, rfl, h⟩
  · repeat refine g1 ?_
    exact fin_res (vs := [.bool true]) rfl rfl ⟨.tmp rfl, trivial⟩ rfl (fun w' hw => ⟨rfl, hw.below rfl⟩)
end Go.Proofs.YtpapfpoefiikpaaGreatDoor
namespace Go.Proofs.YtpapfpoefiikpaaGreatDoor
open Go Go.K Go.Sort
abbrev offAt (b : Bt.Basin) (i : Int) : Int := (b.Places.getD i.toNat default).Office
structure RF (b : Bt.Basin) : Prop where
  off : ∀ i, i < b.Places.length → 0 ≤ (b.Places.getD i default).Office ∧ (b.Places.getD i default).Office ≤ 2
  dn : ∀ i, i < b.Places.length → (b.Places.getD i default).Down = -1 ∨ (0 ≤ (b.Places.getD i default).Down ∧ (b.Places.getD i default).Down < (b.Places.length : Int)) ∧ (b.Places.getD i default).Down ≠ (i : Int)
  op : ∀ i, i < b.Places.length → (b.Places.getD i default).Down ≠ -1 → offAt b (b.Places.getD i default).Down = (b.Places.getD i default).Office ∨ offAt b (b.Places.getD i default).Down = (b.Places.getD i default).Office + 1
  lf : ∀ i, i < b.Links.length → 0 ≤ (b.Links.getD i default).From ∧ (b.Links.getD i default).From < (b.Places.length : Int)
  lt : ∀ i, i < b.Links.length → (b.Links.getD i default).To = -1 ∨ (0 ≤ (b.Links.getD i default).To ∧ (b.Links.getD i default).To < (b.Places.length : Int)) ∧ (b.Links.getD i default).To ≠ (b.Links.getD i default).From
  ol : ∀ i, i < b.Links.length → (b.Links.getD i default).To ≠ -1 → offAt b (b.Links.getD i default).To = offAt b (b.Links.getD i default).From ∨ offAt b (b.Links.getD i default).To = offAt b (b.Links.getD i default).From + 1
  os : ∀ i, i < b.Links.length → (b.Links.getD i default).Kind = 4 → offAt b (b.Links.getD i default).To = offAt b (b.Links.getD i default).From
  h4 : ∀ i, i < b.Links.length → (b.Links.getD i default).Kind = 4 → (b.Links.getD i default).To ≠ -1
theorem rf_of {b : Bt.Basin} (h : rightB b = true) : RF b := by
  unfold rightB at h
  simp only [Bool.and_eq_true, decide_eq_true_eq] at h
  obtain ⟨⟨⟨⟨⟨⟨⟨⟨-, -⟩, hp⟩, hl⟩, ho⟩, -⟩, -⟩, -⟩, -⟩ := h
  have fp := fun i hi => place_f (hp.1 i hi).1
  have fl := fun i hi => link_f (hl i hi)
  have fo := fun i hi => ho.1 i hi
  have fk := fun i hi => ho.2 i hi
  refine ⟨fun i hi => (fp i hi).1, fun i hi => (fp i hi).2.1, fun i hi hd => ?_, fun i hi => (fl i hi).1, fun i hi => (fl i hi).2.1, fun i hi hd => ?_, fun i hi hk => ?_, fun i hi hk => (field_4 (fl i hi).2.2.2 hk).2.2.2.2⟩
  · have := fo i hi
    unfold offP at this
    simp only [Bool.not_eq_false', decide_eq_true_eq] at this
    exact this.2 hd
  · have := fk i hi
    unfold offL at this
    simp only [Bool.or_eq_false_iff, Bool.not_eq_false', decide_eq_true_eq] at this
    exact this.1.2 hd
  · have := fk i hi
    unfold offL at this
    simp only [Bool.or_eq_false_iff, Bool.and_eq_false_iff, Bool.not_eq_false', decide_eq_false_iff_not, decide_eq_true_eq] at this
    rcases this.2 with h1 | h1
    · exact absurd hk h1
    · exact h1
structure AOk (b : Bt.Basin) (a : Gr.Arc) : Prop where
  f : 0 ≤ a.From ∧ a.From < (b.Places.length : Int)
  t : 0 ≤ a.To ∧ a.To < (b.Places.length : Int)
  ne : a.From ≠ a.To
  st : offAt b a.To = offAt b a.From ∨ offAt b a.To = offAt b a.From + 1
theorem addA_all {b : Bt.Basin} {L : List Gr.Arc} {f t : Int} (h : ∀ a ∈ L, AOk b a) (hx : 0 ≤ f → 0 ≤ t → AOk b ⟨f, t⟩) : ∀ a ∈ Ad.addA L f t, AOk b a := fun a ha => by
  unfold Ad.addA at ha
  split at ha
  · rename_i hc
    rcases List.mem_append.1 ha with h1 | h1
    · exact h a h1
    · obtain rfl : a = ⟨f, t⟩ := by simpa using h1
      exact hx hc.1 hc.2
  · exact h a ha
theorem aP_all {b : Bt.Basin} (h : RF b) : ∀ k, k ≤ b.Places.length → ∀ a ∈ Ad.aP b.Places k, AOk b a
  | 0, _ => fun _ ha => absurd ha (by simp [Ad.aP])
  | k + 1, hk => addA_all (aP_all h k (by omega)) fun _ h2 => by
    have h3 := h.dn k (by omega)
    have h4 := h.op k (by omega) (by omega)
    exact ⟨⟨by omega, by show (k : Int) < _; omega⟩, ⟨h2, by show (b.Places.getD k default).Down < _; omega⟩, by show (k : Int) ≠ (b.Places.getD k default).Down; omega, h4⟩
theorem aL_all {b : Bt.Basin} (h : RF b) : ∀ k, k ≤ b.Links.length → ∀ a ∈ Ad.aL b k, AOk b a
  | 0, _ => aP_all h _ (Nat.le_refl _)
  | k + 1, hk => by
    have h1 := aL_all h k (by omega)
    have hf := h.lf k (by omega)
    have ht := h.lt k (by omega)
    have ho := h.ol k (by omega)
    have hs := h.os k (by omega)
    have hx : 0 ≤ (b.Links.getD k default).From → 0 ≤ (b.Links.getD k default).To → AOk b ⟨(b.Links.getD k default).From, (b.Links.getD k default).To⟩ := fun _ h2 =>
      ⟨hf, ⟨h2, by show (b.Links.getD k default).To < _; omega⟩, by show (b.Links.getD k default).From ≠ (b.Links.getD k default).To; omega, ho (by omega)⟩
    simp only [Ad.aL]
    unfold Ad.aLk
    split
    · rename_i h4
      refine addA_all (addA_all h1 hx) fun h2 _ => ?_
      have h5 := hx hf.1 h2
      exact ⟨h5.t, h5.f, fun e => h5.ne e.symm, .inl (hs h4).symm⟩
    · exact addA_all h1 hx
/-! ### ascending lists -/
theorem asc_ext {α : Type} {R : α → α → Prop} (hi : ∀ x, ¬ R x x) (ht : ∀ x y z, R x y → R y z → R x z) : ∀ {xs ys : List α}, xs.Pairwise R → ys.Pairwise R → (∀ z, z ∈ xs ↔ z ∈ ys) → xs = ys
  | [], [], _, _, _ => rfl
  | [], y :: ys, _, _, h => absurd ((h y).2 (by simp)) (by simp)
  | x :: xs, [], _, _, h => absurd ((h x).1 (by simp)) (by simp)
  | x :: xs, y :: ys, hx, hy, h => by
    rw [List.pairwise_cons] at hx hy
    have e : x = y := by
      rcases List.mem_cons.1 ((h x).1 (by simp)) with h1 | h1
      · exact h1
      · rcases List.mem_cons.1 ((h y).2 (by simp)) with h2 | h2
        · exact h2.symm
        · exact absurd (ht _ _ _ (hy.1 x h1) (hx.1 y h2)) (hi _)
    subst e
    rw [asc_ext hi ht hx.2 hy.2 fun z => ?_]
    constructor
    · intro hz
      rcases List.mem_cons.1 ((h z).1 (List.mem_cons_of_mem _ hz)) with h1 | h1
      · subst h1; exact absurd (hx.1 z hz) (hi z)
      · exact h1
    · intro hz
      rcases List.mem_cons.1 ((h z).2 (List.mem_cons_of_mem _ hz)) with h1 | h1
      · subst h1; exact absurd (hy.1 z hz) (hi z)
      · exact h1
theorem ltA_of {x y : Gr.Arc} (h : ltOf Se.cA y x = false) (hne : x ≠ y) : Se.ltA x y := by
  have h1 : ¬ Se.ltA y x := fun h2 => by
    have := (Se.cA_iff y x).2 h2
    unfold ltOf at h
    simp at h
    omega
  unfold Se.ltA at *
  by_cases e : x.From = y.From ∧ x.To = y.To
  · exact absurd (Se.arc_eqP e) hne
  · omega
theorem ltA_trans {x y z : Gr.Arc} (h1 : Se.ltA x y) (h2 : Se.ltA y z) : Se.ltA x z := by unfold Se.ltA at *; omega
theorem comp_srt : ∀ (d acc : List Gr.Arc), acc.Pairwise Se.ltA → d.Pairwise (fun x y => ltOf Se.cA y x = false) → (∀ x ∈ acc, ∀ y ∈ d, ltOf Se.cA y x = false) → (d.foldl Se.appU acc).Pairwise Se.ltA
  | [], acc, h, _, _ => h
  | y :: d, acc, h, hd, hm => by
    rw [List.pairwise_cons] at hd
    refine comp_srt d _ ?_ hd.2 ?_
    · unfold Se.appU
      split
      · exact h
      · rename_i hl
        rw [List.pairwise_append]
        refine ⟨h, by simp, fun a ha c hc => ?_⟩
        obtain rfl : c = y := by simpa using hc
        have hle : acc.getLast? = some a ∨ ∃ z, acc.getLast? = some z ∧ Se.ltA a z := by
          rcases List.eq_nil_or_concat acc with h0 | ⟨zs, z, rfl⟩
          · subst h0; cases ha
          · simp only [List.concat_eq_append] at ha h ⊢
            rw [List.pairwise_append] at h
            rcases List.mem_append.1 ha with h1 | h1
            · exact .inr ⟨z, by simp, h.2.2 a h1 z (by simp)⟩
            · obtain rfl : a = z := by simpa using h1
              exact .inl (by simp)
        rcases hle with h1 | ⟨z, h1, h2⟩
        · exact ltA_of (hm a ha c (by simp)) (fun e => hl (by rw [h1, e]))
        · exact ltA_trans h2 (ltA_of (hm z (List.mem_of_getLast? h1) c (by simp)) (fun e => hl (by rw [h1, e])))
    · intro x hx z hz
      unfold Se.appU at hx
      split at hx
      · exact hm x hx z (by simp [hz])
      · rcases List.mem_append.1 hx with h1 | h1
        · exact hm x h1 z (by simp [hz])
        · obtain rfl : x = y := by simpa using h1
          exact hd.1 z hz
/-! ### what is counted -/
def isDn (b : Bt.Basin) (a : Gr.Arc) : Bool := decide ((b.Places.getD a.From.toNat default).Down = a.To)
def hasDn (b : Bt.Basin) (i : Int) : Bool := decide (0 ≤ (b.Places.getD i.toNat default).Down)
structure AL (b : Bt.Basin) (L : List Gr.Arc) : Prop where
  ok : ∀ a ∈ L, AOk b a
  asc : L.Pairwise Se.ltA
  dn : (L.filter (isDn b)).length = (((List.range b.Places.length).map fun i => ((i : Nat) : Int)).filter (hasDn b)).length
theorem range_asc (n : Nat) : ((List.range n).map fun i => ((i : Nat) : Int)).Pairwise (· < ·) := by
  rw [List.pairwise_map]
  exact List.pairwise_lt_range.imp fun h => by omega
theorem al_of {b : Bt.Basin} (h : RF b) {d : List Gr.Arc} (hp : d.Perm (Ad.arcs b)) (hs : d.Pairwise (fun x y => ltOf Se.cA y x = false)) : AL b (Se.comp d) := by
  have hok : ∀ a ∈ Se.comp d, AOk b a := fun a ha => aL_all h _ (Nat.le_refl _) a (hp.mem_iff.1 (Se.comp_iff.1 ha))
  have hasc : (Se.comp d).Pairwise Se.ltA := comp_srt d [] List.Pairwise.nil hs (fun _ hx => absurd hx (by simp))
  refine ⟨hok, hasc, ?_⟩
  have e : ((Se.comp d).filter (isDn b)).map (·.From) = ((List.range b.Places.length).map fun i => ((i : Nat) : Int)).filter (hasDn b) := by
    refine asc_ext (R := (· < ·)) (fun x h => Int.lt_irrefl x h) (fun _ _ _ => Int.lt_trans) ?_ ((range_asc _).filter _) fun z => ?_
    · rw [List.pairwise_map]
      have h1 : ((Se.comp d).filter (isDn b)).Pairwise Se.ltA := hasc.filter _
      refine List.Pairwise.imp_of_mem (fun {x y} hx hy hxy => ?_) h1
      have h2 := odT (List.mem_filter.1 hx).2
      have h3 := odT (List.mem_filter.1 hy).2
      rcases hxy with h4 | ⟨h4, h5⟩
      · exact h4
      · rw [h4] at h2; omega
    · constructor
      · intro hz
        obtain ⟨a, ha, rfl⟩ := List.mem_map.1 hz
        have h1 := List.mem_filter.1 ha
        have h2 := hok a h1.1
        have h3 := odT h1.2
        refine List.mem_filter.2 ⟨List.mem_map.2 ⟨a.From.toNat, List.mem_range.2 ?_, ?_⟩, decide_eq_true ?_⟩
        · have := h2.f; omega
        · have := h2.f; omega
        · rw [h3]; exact h2.t.1
      · intro hz
        obtain ⟨h1, h2⟩ := List.mem_filter.1 hz
        obtain ⟨i, hi, rfl⟩ := List.mem_map.1 h1
        have hi := List.mem_range.1 hi
        have h2 := odT h2
        rw [Int.toNat_natCast] at h2
        have h3 := Ad.aL_sub (b := b) (Ad.aP_mem (ps := b.Places) (i := i) h2 b.Places.length hi) b.Links.length
        have h4 : (⟨(i : Int), (b.Places.getD i default).Down⟩ : Gr.Arc) ∈ Se.comp d := Se.comp_iff.2 (hp.mem_iff.2 h3)
        exact List.mem_map.2 ⟨_, List.mem_filter.2 ⟨h4, decide_eq_true (by simp)⟩, rfl⟩
  rw [← e, List.length_map]
/-! ### the offices -/
theorem ofc_mem {ps : List Bt.Place} {o : Int} {k : Nat} {x : Int} : x ∈ ofc ps o k ↔ (0 ≤ x ∧ x < (k : Int)) ∧ (ps.getD x.toNat default).Office = o := by
  unfold ofc
  constructor
  · intro h
    obtain ⟨i, hi, rfl⟩ := List.mem_map.1 h
    obtain ⟨h1, h2⟩ := List.mem_filter.1 hi
    have := List.mem_range.1 h1
    rw [Int.toNat_natCast]
    exact ⟨⟨by omega, by omega⟩, odT h2⟩
  · intro ⟨⟨h1, h2⟩, h3⟩
    refine List.mem_map.2 ⟨x.toNat, List.mem_filter.2 ⟨List.mem_range.2 (by omega), decide_eq_true h3⟩, by omega⟩
theorem ofc_asc (ps : List Bt.Place) (o : Int) (k : Nat) : (ofc ps o k).Pairwise (· < ·) := by
  unfold ofc
  rw [List.pairwise_map]
  exact (List.pairwise_lt_range.filter _).imp fun h => by omega
theorem ofc_all {b : Bt.Basin} : ∀ k, (∀ i, i < k → 0 ≤ (b.Places.getD i default).Office ∧ (b.Places.getD i default).Office ≤ 2) →
    (ofc b.Places 0 k).length + (ofc b.Places 1 k).length + (ofc b.Places 2 k).length = k ∧
    ((ofc b.Places 0 k).filter (hasDn b)).length + ((ofc b.Places 1 k).filter (hasDn b)).length + ((ofc b.Places 2 k).filter (hasDn b)).length = (((List.range k).map fun i => ((i : Nat) : Int)).filter (hasDn b)).length
  | 0, _ => ⟨rfl, rfl⟩
  | k + 1, h => by
    have ih := ofc_all k (fun i hi => h i (by omega))
    have h1 := h k (by omega)
    rw [ofc_succ, ofc_succ, ofc_succ, List.range_succ, List.map_append, List.filter_append, List.filter_append, List.filter_append, List.filter_append, List.length_append, List.length_append, List.length_append, List.length_append, List.length_append, List.length_append, List.length_append]
    generalize hx : List.map (fun i => ((i : Nat) : Int)) [k] = kk
    obtain rfl : kk = [((k : Nat) : Int)] := hx.symm
    rcases (show (b.Places.getD k default).Office = 0 ∨ (b.Places.getD k default).Office = 1 ∨ (b.Places.getD k default).Office = 2 by omega) with e | e | e <;> rw [e] <;> simp <;> omega
end Go.Proofs.YtpapfpoefiikpaaGreatDoor
namespace Go.Proofs.YtpapfpoefiikpaaGreatDoor
open Go Go.K Go.RowKit
attribute [local irreducible] AW RW DW Post Qt
theorem eqF75 (a0 a1 b0 b1 : Int) (n : Nat) (w : World) : (Op.eqFields (n + 1) #[.int .i64 a0, .int .i64 a1] #[.int .i64 b0, .int .i64 b1] (pg.fieldsOf 75).toList).run pg w = .ok (decide (a0 = b0) && decide (a1 = b1)) w := by
  unfold Program.fieldsOf
  rw [Tryz.underlying75]
  have hp3 : ∀ {cs : Array Value} {o : Nat} {v : Value} (h : cs[o]? = some v) (w : World), (part 3 cs o).run pg w = .ok v w := fun h w => run_part1 Tryz.underlying3 rfl h w
  have hq3 : ∀ (x y : Int) (w : World), (Op.equalIn (n + 1) 3 (.int .i64 x) (.int .i64 y)).run pg w = .ok (x == y) w := fun x y w => run_equalIn_int w (n + 0) 3 .i64 .i64 x y Tryz.underlying3
  simp only [Op.eqFields, ne_eq, String.reduceEq, not_false_eq_true, if_true, Sem.run_bind, hp3 (show #[Value.int .i64 a0, Value.int .i64 a1][0]? = some (.int .i64 a0) from rfl), hp3 (show #[Value.int .i64 b0, Value.int .i64 b1][0]? = some (.int .i64 b0) from rfl), hp3 (show #[Value.int .i64 a0, Value.int .i64 a1][1]? = some (.int .i64 a1) from rfl), hp3 (show #[Value.int .i64 b0, Value.int .i64 b1][1]? = some (.int .i64 b1) from rfl), hq3, Result.andThen_ok, Sem.run_ite, Sem.run_pure]
  by_cases h0 : a0 = b0 <;> by_cases h1 : a1 = b1 <;> simp [*]
theorem eqS75 (a0 a1 b0 b1 : Int) : ∀ w, (Op.equal 75 (.agg #[.int .i64 a0, .int .i64 a1]) (.agg #[.int .i64 b0, .int .i64 b1])).run pg w = .ok (decide (a0 = b0) && decide (a1 = b1)) w := fun w => by
  have hT : pg.underlying 75 = some (.struct (pg.fieldsOf 75)) := by unfold Program.fieldsOf; rw [Tryz.underlying75]
  show (Op.equalIn (9999 + 1) 75 _ _).run pg w = _
  rw [run_equalIn_struct w 9999 75 _ _ hT (by kernel_rfl)]
  exact eqF75 a0 a1 b0 b1 9998 w
theorem eqG75 : Program.eqGuardType pg pg.depth 75 = false := by kernel_rfl
theorem example_c (w : World) (Φ : Hp) (hΦ : Hp.le Φ (hp w)) : Calls pg 21 #[] w fun e w' => e = .returned (.string (bs src16)) ∧ Bel w.heap.size w w' := by
  refine in0 10 Tryz.func21 rfl rfl hΦ ?_
  repeat refine g1 ?_
  iterate 4
    refine RW.q rfl (q_catStr (l := _) (r := _) rfl rfl (by decide) rfl) ?_
    repeat refine g1 ?_
  exact fin_res (vs := [.string (bs src16)]) rfl rfl ⟨.tmp (by kernel_rfl), trivial⟩ rfl (fun w' hw => ⟨rfl, hw.below rfl⟩)
theorem comp_x (w : World) (Φ : Hp) (hΦ : Hp.le Φ (hp w)) (hG : Knows Φ Glob) {l : List UInt8} (hl : l.length ≤ maxLen) {R : Bt.Basin × Int × Int} (hR : Bc.compile isNm frsB putB rightB l = R) :
    Calls pg 14 #[.string (bs l)] w (RetS Φ (zw w) fun r Ψ => ∃ cs, r = .tuple #[.agg cs.toArray, .int .i64 R.2.1, .int .i64 R.2.2] ∧ Rep.rep Ψ R.1 cs) := hR ▸ Compile_c w Φ hΦ hG hl
theorem write0_c (w : World) (Φ : Hp) (hΦ : Hp.le Φ (hp w)) : Calls pg 10 #[.agg z31.toArray] w fun e w' => e = .returned (.string (bs [])) ∧ Bel w.heap.size w w' := by
  refine in1 162 Tryz.func10 rfl rfl hΦ ?_
  repeat refine g1 ?_
  refine RW.bxA (cs := z31) rfl rfl fun b1 => ?_
  repeat refine g1 ?_
  refine RW.c rfl (fun w1 hw1 => right0 ▸ bRight_c w1 Φ hw1.phi zero_rep) rfl rfl ?_
  repeat first | refine t2 ?_ | refine g1 ?_
  exact fin_res (vs := [.string (bs [])]) rfl rfl ⟨.tmp rfl, trivial⟩ rfl (fun w' hw => ⟨rfl, hw.below rfl⟩)
theorem arcs16 : Ad.arcs B16 = [⟨0, 1⟩, ⟨1, 2⟩, ⟨0, 1⟩] := by decide
theorem comp16 {d : List Gr.Arc} (hp : d.Perm (Ad.arcs B16)) (hs : d.Pairwise (fun x y => ltOf Se.cA y x = false)) : Se.comp d = [⟨0, 1⟩, ⟨1, 2⟩] := by
  refine asc_ext (R := Se.ltA) (fun x h => by unfold Se.ltA at h; omega) (fun _ _ _ => ltA_trans) (comp_srt d [] List.Pairwise.nil hs (fun _ hx => absurd hx (by simp))) (by unfold Se.ltA; simp) fun z => ?_
  rw [Se.comp_iff, hp.mem_iff, arcs16]
  simp only [List.mem_cons, List.not_mem_nil, or_false]
  constructor
  · rintro (h | h | h)
    · exact .inl h
    · exact .inr h
    · exact .inl h
  · rintro (h | h)
    · exact .inl h
    · exact .inr (.inl h)
theorem small16_c (w : World) (Φ : Hp) (hΦ : Hp.le Φ (hp w)) (hG : Knows Φ Glob) : Calls pg 8 #[] w fun e w' => e = .returned (.bool true) ∧ Bel w.heap.size (zw w) w' := by
  refine inJ0 144 Tryz.func8 rfl rfl (J := St ⟨zw w, Φ, []⟩ Φ []) (StP.zb (StP.init w Φ hΦ [])) ?_
  repeat refine g1 ?_
  refine RW.c rfl (fun w1 hw1 => example_c w1 Φ hw1.phi) rfl rfl ?_
  refine RW.cZ rfl rfl (fun w1 hw1 => comp_x w1 Φ hw1.phi hG (by decide) cmp1) rfl rfl ?_
  rintro _ Ψ ⟨cs, rfl, hB⟩ hl1
  have hB0 := hB
  have hone := List.all_eq_true.2 (Rep.one hB)
  obtain ⟨v1, v3, v4, v5, v6, v7, v8, v9, rfl, hBw, r1, r3, r4, -⟩ := hB
  repeat refine g1 ?_
  refine RW.alc rfl fun b1 => ?_
  refine RW.stA 0 rfl rfl rfl hone rfl rfl ?_
  repeat refine g1 ?_
  obtain ⟨R2, hR2⟩ : ∃ R, Bc.compile isNm frsB putB rightB [108, 97, 107, 101, 32, 120, 32, 123, 32, 125] = R := ⟨_, rfl⟩
  have c2 := cmp2
  rw [hR2] at c2
  obtain ⟨B2, e2, a2⟩ := R2
  simp only at c2
  subst c2
  refine RW.cZ rfl rfl (fun w1 hw1 => comp_x w1 Ψ hw1.phi (hG.mono hl1) (by decide) hR2) rfl rfl ?_
  rintro _ Ψ2 ⟨cs, rfl, hB⟩ hl2
  have hone2 := List.all_eq_true.2 (Rep.one hB)
  obtain ⟨_, _, _, _, _, _, _, _, rfl, -⟩ := hB
  repeat refine g1 ?_
  refine RW.alc rfl fun b2 => ?_
  refine RW.stA 0 rfl rfl rfl hone2 rfl rfl ?_
  repeat refine g1 ?_
  obtain ⟨R3, hR3⟩ : ∃ R, Bc.compile isNm frsB putB rightB [35, 32, 110, 111, 116, 104, 105, 110, 103] = R := ⟨_, rfl⟩
  have c3 := cmp3
  rw [hR3] at c3
  obtain ⟨B3, e3⟩ := R3
  simp only at c3
  subst c3
  refine RW.cZ rfl rfl (fun w1 hw1 => comp_x w1 Ψ2 hw1.phi (hG.mono (Hp.le_trans hl1 hl2)) (by decide) hR3) rfl rfl ?_
  rintro _ Ψ3 ⟨cs, rfl, hB⟩ hl3
  have hone3 := List.all_eq_true.2 (Rep.one hB)
  obtain ⟨_, _, _, _, _, _, _, _, rfl, -⟩ := hB
  repeat refine g1 ?_
  refine RW.alc rfl fun b3 => ?_
  refine RW.stA 0 rfl rfl rfl hone3 rfl rfl ?_
  refine RW.wk (J' := St ⟨zw w, Φ, []⟩ Ψ3 [.blk b1 31 [.string B16.Name, v1, .int .i64 B16.Cells, v3, v4, v5, v6, v7, v8, v9, .int .i64 B16.Err]]) (fun _ h => StP.drop h (.cons _ (.cons _ (List.Sublist.refl _)))) ?_
  have hl13 := Hp.le_trans hl2 hl3
  have hB0 := Rep.mono hl13 hB0
  have r3 := r3.mono hl13
  have r4 := r4.mono hl13
  have hp3 : B16.Places.length = 3 := rfl
  have hp1 : B16.Links.length = 1 := rfl
  repeat first | refine t2 ?_ | refine t3 ?_ | refine g1 ?_
  obtain ⟨_, hq0, m0⟩ := r3.whole (k := 0) (by decide)
  obtain ⟨x4, x5, x6, rfl, hx, xl, xs, xr⟩ := hq0
  obtain ⟨_, hq2, m2⟩ := r3.whole (k := 2) (by decide)
  obtain ⟨y4, y5, y6, rfl, -⟩ := hq2
  obtain ⟨_, hk0, n0⟩ := r4.whole (k := 0) (by decide)
  have hk := hk0
  obtain ⟨z4, z5, z6, rfl, hz, zl, zs, zr⟩ := hk
  have hs2 : (B16.Places.getD 0 default).Start.length = 2 := rfl
  have hr2 : (B16.Links.getD 0 default).Rate.length = 2 := rfl
  refine RW.q rfl (qa_ixN (i := 0) rfl rfl r3.sl (by decide)) ?_
  repeat refine g1 ?_
  refine RW.q rfl (qa_ld rfl (Cell.phi (m0 5 _ rfl))) ?_
  repeat first | refine t2 ?_ | refine t3 ?_ | refine g1 ?_
  refine RW.gl rfl rfl rfl (qa_ixN (i := 0) rfl rfl r4.sl (by decide)) ?_
  repeat refine g1 ?_
  refine RW.gl rfl rfl rfl (qa_ld rfl (Cell.phi (n0 4 _ rfl))) ?_
  repeat first | refine t2 ?_ | refine t3 ?_ | refine g1 ?_
  refine RW.cS rfl (fun w1 hw1 => Arcs_c w1 Ψ3 hw1.phi hB0 (by decide) (by decide)) rfl rfl ?_
  rintro _ Ψ4 ⟨d, hd1, hd2, hrd⟩ hl4
  rw [comp16 hd1 hd2] at hrd
  refine RW.q (v := .agg #[.int .i64 0, .int .i64 1]) rfl (q_build (vals := [(0, .int .i64 0), (1, .int .i64 1)]) zero54 Tryz.underlying54 places54 rfl rfl) ?_
  refine RW.q (v := .agg #[.int .i64 1, .int .i64 2]) rfl (q_build (vals := [(0, .int .i64 1), (1, .int .i64 2)]) zero54 Tryz.underlying54 places54 rfl rfl) ?_
  refine RW.eff _ _ rfl (e_buildSlice (vals := [(0, .agg #[.int .i64 0, .int .i64 1]), (1, .agg #[.int .i64 1, .int .i64 2])]) (cells := [.int .i64 0, .int .i64 1, .int .i64 1, .int .i64 2]) Tryz.underlying50 inf54 rfl rfl rfl (by kernel_rfl) rfl) fun d1 => ?_
  refine RW.frzB rfl fun Ψ5 hl5 hr5 => ?_
  have h5 : RepSl Ψ5 ([⟨0, 1⟩, ⟨1, 2⟩] : List Gr.Arc) _ := RowS.repE evenG54 hr5 rfl (by decide) (fun x hx => by
    simp only [List.mem_cons, List.not_mem_nil, or_false] at hx
    rcases hx with rfl | rfl <;> exact ⟨⟨by decide, by decide⟩, ⟨by decide, by decide⟩⟩)
  have hl35 := Hp.le_trans hl4 hl5
  have hB5 := Rep.mono hl35 hB0
  have r3 := r3.mono hl35
  have r4 := r4.mono hl35
  refine RW.c rfl (fun w1 hw1 => sameArcs_c w1 Ψ5 hw1.phi (hrd.mono hl5) h5) rfl rfl ?_
  repeat refine g1 ?_
  refine RW.cS rfl (fun w1 hw1 => Office_c w1 Ψ5 hw1.phi hB5) rfl rfl ?_
  rintro r Ψ6 ho hl6
  replace ho : RepSl Ψ6 ([1] : List Int) r := ho
  have hB6 := Rep.mono hl6 hB5
  have r3 := r3.mono hl6
  have r4 := r4.mono hl6
  repeat refine g1 ?_
  refine RW.el (i := 0) rfl rfl r4 (by decide) rfl rfl rfl rfl fun cs q hrep => ?_
  obtain ⟨z4, z5, z6, rfl, hz, zl, zs, zr⟩ := hrep
  have e1 : ([1] : List Int).length = 1 := rfl
  have e2 : ([1] : List Int).getD 0 0 = 1 := rfl
  have e3 : (B16.Places.getD 0 default).Start.getD 1 0 = 500000 := rfl
  have e4 : (B16.Places.getD 2 default).Down = -1 := rfl
  have e5 : (B16.Links.getD 0 default).Positions = 4 := rfl
  obtain ⟨_, hq0, m0⟩ := r3.whole (k := 0) (by decide)
  obtain ⟨x4, x5, x6, rfl, hx, xl, xs, xr⟩ := hq0
  obtain ⟨_, hq2, m2⟩ := r3.whole (k := 2) (by decide)
  obtain ⟨y4, y5, y6, rfl, -⟩ := hq2
  repeat first | refine t2 ?_ | refine t3 ?_ | refine g1 ?_
  refine RW.gl rfl rfl rfl (qa_ixN (i := 0) rfl rfl ho.sl (by decide)) ?_
  refine RW.gl rfl rfl rfl (qa_ld rfl (Cell.repInt ho (by decide))) ?_
  repeat first | refine t2 ?_ | refine t3 ?_ | refine g1 ?_
  refine RW.gl rfl rfl rfl (q_cl rfl rfl fun w1 hw1 => right16 ▸ bRight_c w1 Ψ6 hw1.phi hB6) ?_
  repeat first | refine t2 ?_ | refine t3 ?_ | refine g1 ?_
  refine RW.gl (v := .agg z31.toArray) rfl rfl rfl (q_build (vals := []) zero31 Tryz.underlying31 places31 rfl rfl) ?_
  refine RW.gl rfl rfl rfl (q_cl rfl rfl fun w1 hw1 => right0 ▸ bRight_c w1 Ψ6 hw1.phi zero_rep) ?_
  repeat first | refine t2 ?_ | refine t3 ?_ | refine g1 ?_
  refine RW.gl (v := .agg z31.toArray) rfl rfl rfl (q_build (vals := []) zero31 Tryz.underlying31 places31 rfl rfl) ?_
  refine RW.gl rfl rfl rfl (q_cl rfl rfl fun w1 hw1 => write0_c w1 Ψ6 hw1.phi) ?_
  repeat first | refine t2 ?_ | refine t3 ?_ | refine g1 ?_
  refine RW.gl rfl rfl rfl (qa_ixN (i := 0) rfl rfl r3.sl (by decide)) ?_
  repeat refine g1 ?_
  refine RW.gl rfl rfl rfl (qa_ld rfl (Cell.phi (m0 5 _ rfl))) ?_
  refine RW.gl rfl rfl rfl (qa_ixN (i := 1) rfl rfl xs.sl (by decide)) ?_
  refine RW.gl rfl rfl rfl (qa_ld rfl (Cell.repInt xs (by decide))) ?_
  repeat first | refine t2 ?_ | refine t3 ?_ | refine g1 ?_
  refine RW.gl rfl rfl rfl (qa_ixN (i := 2) rfl rfl r3.sl (by decide)) ?_
  repeat refine g1 ?_
  refine RW.gl rfl rfl rfl (qa_ld rfl (Cell.phi (m2 8 _ rfl))) ?_
  repeat first | refine t2 ?_ | refine t3 ?_ | refine g1 ?_
  refine RW.gl rfl rfl rfl (qa_ixN (i := 1) rfl rfl zl.sl (by decide)) ?_
  refine RW.gl rfl rfl rfl (qa_ldA rfl (Cells.repE zl (k := 1) (by decide) rfl) rfl) ?_
  refine RW.gl (v := .agg #[.int .i64 4000000, .int .i64 100000]) rfl rfl rfl (q_build (vals := [(0, .int .i64 4000000), (1, .int .i64 100000)]) zero75 Tryz.underlying75 places75 rfl rfl) ?_
  refine RW.gl (v := .bool true) rfl rfl rfl (q_as (q_eqlS rfl rfl (eqS75 _ _ _ _) eqG75) rfl) ?_
  repeat first | refine t2 ?_ | refine t3 ?_ | refine g1 ?_
  exact fin_res (vs := [.bool true]) rfl rfl ⟨.tmp rfl, trivial⟩ rfl (fun w' hw => ⟨rfl, hw.below rfl⟩)
end Go.Proofs.YtpapfpoefiikpaaGreatDoor
