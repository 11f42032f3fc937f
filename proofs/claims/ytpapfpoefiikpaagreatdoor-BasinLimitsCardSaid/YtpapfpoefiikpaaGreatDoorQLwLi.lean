/- Lemmas. Conditions: those of each theorem. -/
import Derived.Test.YtpapfpoefiikpaaGreatDoorQBcX
set_option maxRecDepth 8000
set_option maxHeartbeats 16000000
namespace Go.Proofs.YtpapfpoefiikpaaGreatDoor
open Go Go.K Go.RowKit
section
variable {P : Program} {N : Nat} {D : List Deferred} {ops : Array Oper} {Q : Exit → Act → World → Prop} {Pn : List PanicEntry → World → Prop} {f : Nat → Value} {s : List (Nat × Value)} {B : Bs} {Φ : Hp} {C : List Chunk} {d : Nat} {ty : TypeId} {pos : String} {af : Array Edge} {rest : List Oper} {x : Operand} {xs : Array Operand} {ts : Array TypeId} {k : FuncId} {args : Array Value} {v : Value}
theorem RW.eb [hQ : PanQ D Q Pn] [hk : OwnI P k] (hd : Nat.blt d N = true) (h : ∀ w, (St B Φ C).p w → Calls P k args w fun e w' => ∃ t : Bool, e = .returned (.bool t) ∧ Bel w.heap.size w w') (hx : ev (fr f s) x = .func (.func k) #[] #[]) (ha : xs.toList.map (ev (fr f s)) = args.toList) (kk : ∀ t : Bool, RW P N D ops Q rest f ((d, .bool t) :: s) (St B Φ C)) : RW P N D ops Q (⟨some d, .call { callee := .value x, args := xs, argTypes := ts }, ty, pos, af, none⟩ :: rest) f s (St B Φ C) :=
  RW.ec (V := fun t => .bool t) (J' := fun _ => St B Φ C) hd (fun w hw => (h w hw).mono fun _ _ ⟨t, he, hb⟩ => ⟨t, he, StP.ext hw hb⟩) hx ha kk
theorem RW.ez [hQ : PanQ D Q Pn] [hk : OwnI P k] (hz : B.w0.drawn = 0) (hd : Nat.blt d N = true) (h : ∀ w, (St B Φ C).p w → Calls P k args w fun e w' => e = .returned v ∧ Bel w.heap.size (zw w) w') (hx : ev (fr f s) x = .func (.func k) #[] #[]) (ha : xs.toList.map (ev (fr f s)) = args.toList) (kk : RW P N D ops Q rest f ((d, v) :: s) (St B Φ C)) : RW P N D ops Q (⟨some d, .call { callee := .value x, args := xs, argTypes := ts }, ty, pos, af, none⟩ :: rest) f s (St B Φ C) :=
  RW.ec (X := Unit) (V := fun _ => v) (J' := fun _ => St B Φ C) hd (fun w hw => (h w hw).mono fun _ _ ⟨he, hb⟩ => ⟨(), he, StP.ext (w := zw w) (StP.zz hz hw) hb⟩) hx ha fun _ => kk
end
attribute [local irreducible] AW RW DW Post Qt
theorem few_c (w : World) (Φ : Hp) (hΦ : Hp.le Φ (hp w)) {b : Bt.Basin} {cs : List Value} (hB : RepV Φ b cs) :
    Calls pg 9 #[.agg cs.toArray] w fun e w' => ∃ t : Bool, e = .returned (.bool t) ∧ Bel w.heap.size w w' := by
  obtain ⟨v1, v3, v4, v5, v6, v7, v8, v9, rfl, hBw, r1, r3, r4, r5, r6, r7, r8, r9⟩ := (show Rep.rep Φ b cs from hB)
  have hpm : b.Places.length * 152 ≤ 140737488355328 := r3.max
  have hlm : b.Links.length * 200 ≤ 140737488355328 := r4.max
  refine in1 129 Tryz.func9 rfl rfl hΦ ?_
  repeat refine g1 ?_
  refine RW.bxA rfl rfl fun b1 => ?_
  repeat first | refine g1 ?_ | refine RW.pkO rfl rfl rfl rfl fun _ _ => ?_ | refine RW.g rfl rfl rfl (fun h => qa_len (gv_pos h) (RepSl.sl (by assumption))) ?_
  refine RW.g rfl rfl rfl (fun h => q_lenS (l := b.Name.data.toList) (gv_pos h) Tryz.underlying9) ?_
  repeat first | refine g1 ?_ | refine RW.pkO rfl rfl rfl rfl fun _ _ => ?_ | refine RW.g rfl rfl rfl (fun h => qa_len (gv_pos h) (RepSl.sl (by assumption))) ?_
  refine AW.cond rfl (fun _ => ?_) fun _ => ?_
  · repeat refine g1 ?_
    exact fin_res (vs := [.bool false]) rfl rfl ⟨.tmp rfl, trivial⟩ rfl (fun w' hw => ⟨false, rfl, hw.below rfl⟩)
  repeat refine g1 ?_
  refine AW.lp (fun s J m => ∃ i : Nat, s = [(3, .int .i64 (i : Int)), (1, .pointer (some ⟨b1, 0, none⟩))] ∧ J = St ⟨w, Φ, []⟩ Φ [.blk b1 31 [.string b.Name, v1, .int .i64 b.Cells, v3, v4, v5, v6, v7, v8, v9, .int .i64 b.Err]] ∧ m = b.Places.length - i ∧ i ≤ b.Places.length) ⟨0, rfl, rfl, rfl, Nat.zero_le _⟩ ?_
  rintro _ _ _ _ ⟨i, rfl, rfl, rfl, hi⟩
  repeat refine g1 ?_
  refine AW.cond rfl (fun h => ?_) fun h => ?_
  · have h : i < b.Places.length := by simpa using h
    repeat refine g1 ?_
    refine RW.el rfl rfl r3 h rfl rfl rfl rfl fun cs q hrep => ?_
    obtain ⟨w4, w5, w6, rfl, hw9, s4, s5, s6⟩ := hrep
    repeat first | refine g1 ?_ | refine RW.pkO rfl rfl rfl rfl fun _ _ => ?_ | refine RW.g rfl rfl rfl (fun h => qa_len (gv_pos h) (RepSl.sl (by assumption))) ?_
    refine RW.g rfl rfl rfl (fun h => q_lenS (l := (b.Places.getD i default).Name.data.toList) (gv_pos h) Tryz.underlying9) ?_
    repeat first | refine g1 ?_ | refine RW.pkO rfl rfl rfl rfl fun _ _ => ?_ | refine RW.g rfl rfl rfl (fun h => qa_len (gv_pos h) (RepSl.sl (by assumption))) ?_
    refine AW.cond rfl (fun _ => ?_) fun _ => ?_
    · repeat refine g1 ?_
      exact fin_res (vs := [.bool false]) rfl rfl ⟨.tmp rfl, trivial⟩ rfl (fun w' hw => ⟨false, rfl, hw.below rfl⟩)
    · repeat refine g1 ?_
      exact Post.bk ⟨i + 1, rfl, rfl, rfl, h⟩
  · repeat refine g1 ?_
    refine AW.lp (fun s J m => ∃ i : Nat, s = [(5, .int .i64 (i : Int)), (1, .pointer (some ⟨b1, 0, none⟩))] ∧ J = St ⟨w, Φ, []⟩ Φ [.blk b1 31 [.string b.Name, v1, .int .i64 b.Cells, v3, v4, v5, v6, v7, v8, v9, .int .i64 b.Err]] ∧ m = b.Links.length - i ∧ i ≤ b.Links.length) ⟨0, rfl, rfl, rfl, Nat.zero_le _⟩ ?_
    rintro _ _ _ _ ⟨i, rfl, rfl, rfl, hi⟩
    repeat refine g1 ?_
    refine AW.cond rfl (fun h => ?_) fun h => ?_
    · have h : i < b.Links.length := by simpa using h
      repeat refine g1 ?_
      refine RW.el rfl rfl r4 h rfl rfl rfl rfl fun cs q hrep => ?_
      obtain ⟨w4, w5, w6, rfl, hw9, s4, s5, s6⟩ := hrep
      repeat first | refine g1 ?_ | refine RW.pkO rfl rfl rfl rfl fun _ _ => ?_ | refine RW.g rfl rfl rfl (fun h => qa_len (gv_pos h) (RepSl.sl (by assumption))) ?_
      refine RW.g rfl rfl rfl (fun h => q_lenS (l := (b.Links.getD i default).Name.data.toList) (gv_pos h) Tryz.underlying9) ?_
      repeat first | refine g1 ?_ | refine RW.pkO rfl rfl rfl rfl fun _ _ => ?_ | refine RW.g rfl rfl rfl (fun h => qa_len (gv_pos h) (RepSl.sl (by assumption))) ?_
      refine AW.cond rfl (fun _ => ?_) fun _ => ?_
      · repeat refine g1 ?_
        exact fin_res (vs := [.bool false]) rfl rfl ⟨.tmp rfl, trivial⟩ rfl (fun w' hw => ⟨false, rfl, hw.below rfl⟩)
      · repeat refine g1 ?_
        exact Post.bk ⟨i + 1, rfl, rfl, rfl, h⟩
    · repeat refine g1 ?_
      exact fin_res (vs := [.bool true]) rfl rfl ⟨.tmp rfl, trivial⟩ rfl (fun w' hw => ⟨true, rfl, hw.below rfl⟩)
theorem sameArcs_c (w : World) (Φ : Hp) (hΦ : Hp.le Φ (hp w)) {L : List Gr.Arc} {v1 v2 : Value} (h1 : RepSl Φ L v1) (h2 : RepSl Φ L v2) :
    Calls pg 22 #[v1, v2] w fun e w' => e = .returned (.bool true) ∧ Bel w.heap.size w w' := by
  have hm : L.length * 16 ≤ 140737488355328 := h1.max
  obtain ⟨A1, c1, rfl, _⟩ := h1.sl
  obtain ⟨A2, c2, rfl, _⟩ := h2.sl
  refine in2 26 Tryz.func22 rfl rfl hΦ ?_
  repeat first | refine t2 ?_ | refine t3 ?_ | refine g1 ?_
  refine AW.lp (fun s J m => ∃ i : Nat, s = [(5, .int .i64 (i : Int)), (0, .slice A1 L.length c1), (1, .slice A2 L.length c2)] ∧ J = St ⟨w, Φ, []⟩ Φ [] ∧ m = L.length - i ∧ i ≤ L.length) ⟨0, rfl, rfl, rfl, Nat.zero_le _⟩ ?_
  rintro _ _ _ _ ⟨i, rfl, rfl, rfl, hi⟩
  repeat refine g1 ?_
  refine AW.cond rfl (fun h => ?_) fun h => ?_
  · have h : i < L.length := by simpa using h
    repeat refine g1 ?_
    refine AW.draw (J0 := St ⟨w, Φ, []⟩ Φ []) [.q, .q, .q, .q, .q, .q, .q, .q, .q] [0, 1, 2, 3, 4, 5, 6, 7, 8] hmix (by kernel_rfl) ?_
    iterate 2 refine g1 ?_
    refine DW.q (fun _ h => h) rfl (qa_ixN rfl rfl h1.sl h) ?_
    refine DW.q (fun _ h => h) rfl (qa_ldA rfl (Cells.repE h1 h rfl) rfl) ?_
    iterate 2 refine g1 ?_
    refine DW.q (fun _ h => h) rfl (qa_ixN rfl rfl h2.sl h) ?_
    refine DW.q (fun _ h => h) rfl (qa_ldA rfl (Cells.repE h2 h rfl) rfl) ?_
    refine DW.q (v := .bool false) (fun _ h => h) rfl (q_as (q_neqS rfl rfl (eqS54 _ _ _ _) eqG54) (by simp)) ?_
    repeat refine g1 ?_
    exact Post.bk ⟨i + 1, rfl, rfl, rfl, h⟩
  · repeat refine g1 ?_
    exact fin_res (vs := [.bool true]) rfl rfl ⟨.tmp rfl, trivial⟩ rfl (fun w' hw => ⟨rfl, hw.below rfl⟩)
end Go.Proofs.YtpapfpoefiikpaaGreatDoor
namespace Go.Proofs.YtpapfpoefiikpaaGreatDoor
open Go Go.K Go.Sort
/-! ### ascending lists -/
theorem asc_ext {α : Type} {R : α → α → Prop} (hi : ∀ x, ¬ R x x) (ht : ∀ x y z, R x y → R y z → R x z) : ∀ {xs ys : List α}, xs.Pairwise R → ys.Pairwise R → (∀ z, z ∈ xs ↔ z ∈ ys) → xs = ys
  | [], [], _, _, _ => rfl
  | [], y :: ys, _, _, h => absurd ((h y).2 (by simp)) (by simp)
  | x :: xs, [], _, _, h => absurd ((h x).1 (by simp)) (by simp)
  | x :: xs, y :: ys, hx, hy, h => by
    rw [List.pairwise_cons] at hx hy
    have e : x = y := by
      rcases List.mem_cons.1 ((h x).1 (by simp)) with h1 | h1
      · exact h1
      · rcases List.mem_cons.1 ((h y).2 (by simp)) with h2 | h2
        · exact h2.symm
        · exact absurd (ht _ _ _ (hy.1 x h1) (hx.1 y h2)) (hi _)
    subst e
    rw [asc_ext hi ht hx.2 hy.2 fun z => ?_]
    constructor
    · intro hz
      rcases List.mem_cons.1 ((h z).1 (List.mem_cons_of_mem _ hz)) with h1 | h1
      · subst h1; exact absurd (hx.1 z hz) (hi z)
      · exact h1
    · intro hz
      rcases List.mem_cons.1 ((h z).2 (List.mem_cons_of_mem _ hz)) with h1 | h1
      · subst h1; exact absurd (hy.1 z hz) (hi z)
      · exact h1
theorem ltA_of {x y : Gr.Arc} (h : ltOf Se.cA y x = false) (hne : x ≠ y) : Se.ltA x y := by
  have h1 : ¬ Se.ltA y x := fun h2 => by
    have := (Se.cA_iff y x).2 h2
    unfold ltOf at h
    simp at h
    omega
  unfold Se.ltA at *
  by_cases e : x.From = y.From ∧ x.To = y.To
  · exact absurd (Se.arc_eqP e) hne
  · omega
theorem ltA_trans {x y z : Gr.Arc} (h1 : Se.ltA x y) (h2 : Se.ltA y z) : Se.ltA x z := by unfold Se.ltA at *; omega
theorem comp_srt : ∀ (d acc : List Gr.Arc), acc.Pairwise Se.ltA → d.Pairwise (fun x y => ltOf Se.cA y x = false) → (∀ x ∈ acc, ∀ y ∈ d, ltOf Se.cA y x = false) → (d.foldl Se.appU acc).Pairwise Se.ltA
  | [], acc, h, _, _ => h
  | y :: d, acc, h, hd, hm => by
    rw [List.pairwise_cons] at hd
    refine comp_srt d _ ?_ hd.2 ?_
    · unfold Se.appU
      split
      · exact h
      · rename_i hl
        rw [List.pairwise_append]
        refine ⟨h, by simp, fun a ha c hc => ?_⟩
        obtain rfl : c = y := by simpa using hc
        have hle : acc.getLast? = some a ∨ ∃ z, acc.getLast? = some z ∧ Se.ltA a z := by
          rcases List.eq_nil_or_concat acc with h0 | ⟨zs, z, rfl⟩
          · subst h0; cases ha
          · simp only [List.concat_eq_append] at ha h ⊢
            rw [List.pairwise_append] at h
            rcases List.mem_append.1 ha with h1 | h1
            · exact .inr ⟨z, by simp, h.2.2 a h1 z (by simp)⟩
            · obtain rfl : a = z := by simpa using h1
              exact .inl (by simp)
        rcases hle with h1 | ⟨z, h1, h2⟩
        · exact ltA_of (hm a ha c (by simp)) (fun e => hl (by rw [h1, e]))
        · exact ltA_trans h2 (ltA_of (hm z (List.mem_of_getLast? h1) c (by simp)) (fun e => hl (by rw [h1, e])))
    · intro x hx z hz
      unfold Se.appU at hx
      split at hx
      · exact hm x hx z (by simp [hz])
      · rcases List.mem_append.1 hx with h1 | h1
        · exact hm x h1 z (by simp [hz])
        · obtain rfl : x = y := by simpa using h1
          exact hd.1 z hz
/-! ### what is counted -/
/-! ### the offices -/
end Go.Proofs.YtpapfpoefiikpaaGreatDoor
namespace Go.Proofs.YtpapfpoefiikpaaGreatDoor
open Go Go.K Go.RowKit
attribute [local irreducible] AW RW DW Post Qt
theorem eqF75 (a0 a1 b0 b1 : Int) (n : Nat) (w : World) : (Op.eqFields (n + 1) #[.int .i64 a0, .int .i64 a1] #[.int .i64 b0, .int .i64 b1] (pg.fieldsOf 75).toList).run pg w = .ok (decide (a0 = b0) && decide (a1 = b1)) w := by
  unfold Program.fieldsOf
  rw [Tryz.underlying75]
  have hp3 : ∀ {cs : Array Value} {o : Nat} {v : Value} (h : cs[o]? = some v) (w : World), (part 3 cs o).run pg w = .ok v w := fun h w => run_part1 Tryz.underlying3 rfl h w
  have hq3 : ∀ (x y : Int) (w : World), (Op.equalIn (n + 1) 3 (.int .i64 x) (.int .i64 y)).run pg w = .ok (x == y) w := fun x y w => run_equalIn_int w (n + 0) 3 .i64 .i64 x y Tryz.underlying3
  simp only [Op.eqFields, ne_eq, String.reduceEq, not_false_eq_true, if_true, Sem.run_bind, hp3 (show #[Value.int .i64 a0, Value.int .i64 a1][0]? = some (.int .i64 a0) from rfl), hp3 (show #[Value.int .i64 b0, Value.int .i64 b1][0]? = some (.int .i64 b0) from rfl), hp3 (show #[Value.int .i64 a0, Value.int .i64 a1][1]? = some (.int .i64 a1) from rfl), hp3 (show #[Value.int .i64 b0, Value.int .i64 b1][1]? = some (.int .i64 b1) from rfl), hq3, Result.andThen_ok, Sem.run_ite, Sem.run_pure]
  by_cases h0 : a0 = b0 <;> by_cases h1 : a1 = b1 <;> simp [*]
theorem eqS75 (a0 a1 b0 b1 : Int) : ∀ w, (Op.equal 75 (.agg #[.int .i64 a0, .int .i64 a1]) (.agg #[.int .i64 b0, .int .i64 b1])).run pg w = .ok (decide (a0 = b0) && decide (a1 = b1)) w := fun w => by
  have hT : pg.underlying 75 = some (.struct (pg.fieldsOf 75)) := by unfold Program.fieldsOf; rw [Tryz.underlying75]
  show (Op.equalIn (9999 + 1) 75 _ _).run pg w = _
  rw [run_equalIn_struct w 9999 75 _ _ hT (by kernel_rfl)]
  exact eqF75 a0 a1 b0 b1 9998 w
theorem eqG75 : Program.eqGuardType pg pg.depth 75 = false := by kernel_rfl
theorem example_c (w : World) (Φ : Hp) (hΦ : Hp.le Φ (hp w)) : Calls pg 21 #[] w fun e w' => e = .returned (.string (bs src16)) ∧ Bel w.heap.size w w' := by
  refine in0 10 Tryz.func21 rfl rfl hΦ ?_
  repeat refine g1 ?_
  iterate 4
    refine RW.q rfl (q_catStr (l := _) (r := _) rfl rfl (by decide) rfl) ?_
    repeat refine g1 ?_
  exact fin_res (vs := [.string (bs src16)]) rfl rfl ⟨.tmp (by kernel_rfl), trivial⟩ rfl (fun w' hw => ⟨rfl, hw.below rfl⟩)
theorem comp_x (w : World) (Φ : Hp) (hΦ : Hp.le Φ (hp w)) (hG : Knows Φ Glob) {l : List UInt8} (hl : l.length ≤ maxLen) {R : Bt.Basin × Int × Int} (hR : Bc.compile isNm frsB putB rightB l = R) :
    Calls pg 14 #[.string (bs l)] w (RetS Φ (zw w) fun r Ψ => ∃ cs, r = .tuple #[.agg cs.toArray, .int .i64 R.2.1, .int .i64 R.2.2] ∧ Rep.rep Ψ R.1 cs) := hR ▸ Compile_c w Φ hΦ hG hl
theorem write0_c (w : World) (Φ : Hp) (hΦ : Hp.le Φ (hp w)) : Calls pg 10 #[.agg z31.toArray] w fun e w' => e = .returned (.string (bs [])) ∧ Bel w.heap.size w w' := by
  refine in1 162 Tryz.func10 rfl rfl hΦ ?_
  repeat refine g1 ?_
  refine RW.bxA (cs := z31) rfl rfl fun b1 => ?_
  repeat refine g1 ?_
  refine RW.c rfl (fun w1 hw1 => right0 ▸ bRight_c w1 Φ hw1.phi zero_rep) rfl rfl ?_
  repeat first | refine t2 ?_ | refine g1 ?_
  exact fin_res (vs := [.string (bs [])]) rfl rfl ⟨.tmp rfl, trivial⟩ rfl (fun w' hw => ⟨rfl, hw.below rfl⟩)
theorem arcs16 : Ad.arcs B16 = [⟨0, 1⟩, ⟨1, 2⟩, ⟨0, 1⟩] := by decide
theorem comp16 {d : List Gr.Arc} (hp : d.Perm (Ad.arcs B16)) (hs : d.Pairwise (fun x y => ltOf Se.cA y x = false)) : Se.comp d = [⟨0, 1⟩, ⟨1, 2⟩] := by
  refine asc_ext (R := Se.ltA) (fun x h => by unfold Se.ltA at h; omega) (fun _ _ _ => ltA_trans) (comp_srt d [] List.Pairwise.nil hs (fun _ hx => absurd hx (by simp))) (by unfold Se.ltA; simp) fun z => ?_
  rw [Se.comp_iff, hp.mem_iff, arcs16]
  simp only [List.mem_cons, List.not_mem_nil, or_false]
  constructor
  · rintro (h | h | h)
    · exact .inl h
    · exact .inr h
    · exact .inl h
  · rintro (h | h)
    · exact .inl h
    · exact .inr (.inl h)
theorem small16_c (w : World) (Φ : Hp) (hΦ : Hp.le Φ (hp w)) (hG : Knows Φ Glob) : Calls pg 8 #[] w fun e w' => e = .returned (.bool true) ∧ Bel w.heap.size (zw w) w' := by
  refine inJ0 144 Tryz.func8 rfl rfl (J := St ⟨zw w, Φ, []⟩ Φ []) (StP.zb (StP.init w Φ hΦ [])) ?_
  repeat refine g1 ?_
  refine RW.c rfl (fun w1 hw1 => example_c w1 Φ hw1.phi) rfl rfl ?_
  refine RW.cZ rfl rfl (fun w1 hw1 => comp_x w1 Φ hw1.phi hG (by decide) cmp1) rfl rfl ?_
  rintro _ Ψ ⟨cs, rfl, hB⟩ hl1
  have hB0 := hB
  have hone := List.all_eq_true.2 (Rep.one hB)
  obtain ⟨v1, v3, v4, v5, v6, v7, v8, v9, rfl, hBw, r1, r3, r4, -⟩ := hB
  repeat refine g1 ?_
  refine RW.alc rfl fun b1 => ?_
  refine RW.stA 0 rfl rfl rfl hone rfl rfl ?_
  repeat refine g1 ?_
  obtain ⟨R2, hR2⟩ : ∃ R, Bc.compile isNm frsB putB rightB [108, 97, 107, 101, 32, 120, 32, 123, 32, 125] = R := ⟨_, rfl⟩
  have c2 := cmp2
  rw [hR2] at c2
  obtain ⟨B2, e2, a2⟩ := R2
  simp only at c2
  subst c2
  refine RW.cZ rfl rfl (fun w1 hw1 => comp_x w1 Ψ hw1.phi (hG.mono hl1) (by decide) hR2) rfl rfl ?_
  rintro _ Ψ2 ⟨cs, rfl, hB⟩ hl2
  have hone2 := List.all_eq_true.2 (Rep.one hB)
  obtain ⟨_, _, _, _, _, _, _, _, rfl, -⟩ := hB
  repeat refine g1 ?_
  refine RW.alc rfl fun b2 => ?_
  refine RW.stA 0 rfl rfl rfl hone2 rfl rfl ?_
  repeat refine g1 ?_
  obtain ⟨R3, hR3⟩ : ∃ R, Bc.compile isNm frsB putB rightB [35, 32, 110, 111, 116, 104, 105, 110, 103] = R := ⟨_, rfl⟩
  have c3 := cmp3
  rw [hR3] at c3
  obtain ⟨B3, e3⟩ := R3
  simp only at c3
  subst c3
  refine RW.cZ rfl rfl (fun w1 hw1 => comp_x w1 Ψ2 hw1.phi (hG.mono (Hp.le_trans hl1 hl2)) (by decide) hR3) rfl rfl ?_
  rintro _ Ψ3 ⟨cs, rfl, hB⟩ hl3
  have hone3 := List.all_eq_true.2 (Rep.one hB)
  obtain ⟨_, _, _, _, _, _, _, _, rfl, -⟩ := hB
  repeat refine g1 ?_
  refine RW.alc rfl fun b3 => ?_
  refine RW.stA 0 rfl rfl rfl hone3 rfl rfl ?_
  refine RW.wk (J' := St ⟨zw w, Φ, []⟩ Ψ3 [.blk b1 31 [.string B16.Name, v1, .int .i64 B16.Cells, v3, v4, v5, v6, v7, v8, v9, .int .i64 B16.Err]]) (fun _ h => StP.drop h (.cons _ (.cons _ (List.Sublist.refl _)))) ?_
  have hl13 := Hp.le_trans hl2 hl3
  have hB0 := Rep.mono hl13 hB0
  have r3 := r3.mono hl13
  have r4 := r4.mono hl13
  have hp3 : B16.Places.length = 3 := rfl
  have hp1 : B16.Links.length = 1 := rfl
  repeat first | refine t2 ?_ | refine t3 ?_ | refine g1 ?_
  obtain ⟨_, hq0, m0⟩ := r3.whole (k := 0) (by decide)
  obtain ⟨x4, x5, x6, rfl, hx, xl, xs, xr⟩ := hq0
  obtain ⟨_, hq2, m2⟩ := r3.whole (k := 2) (by decide)
  obtain ⟨y4, y5, y6, rfl, -⟩ := hq2
  obtain ⟨_, hk0, n0⟩ := r4.whole (k := 0) (by decide)
  have hk := hk0
  obtain ⟨z4, z5, z6, rfl, hz, zl, zs, zr⟩ := hk
  have hs2 : (B16.Places.getD 0 default).Start.length = 2 := rfl
  have hr2 : (B16.Links.getD 0 default).Rate.length = 2 := rfl
  refine RW.q rfl (qa_ixN (i := 0) rfl rfl r3.sl (by decide)) ?_
  repeat refine g1 ?_
  refine RW.q rfl (qa_ld rfl (Cell.phi (m0 5 _ rfl))) ?_
  repeat first | refine t2 ?_ | refine t3 ?_ | refine g1 ?_
  refine RW.gl rfl rfl rfl (qa_ixN (i := 0) rfl rfl r4.sl (by decide)) ?_
  repeat refine g1 ?_
  refine RW.gl rfl rfl rfl (qa_ld rfl (Cell.phi (n0 4 _ rfl))) ?_
  repeat first | refine t2 ?_ | refine t3 ?_ | refine g1 ?_
  refine RW.cS rfl (fun w1 hw1 => Arcs_c w1 Ψ3 hw1.phi hB0 (by decide) (by decide)) rfl rfl ?_
  rintro _ Ψ4 ⟨d, hd1, hd2, hrd⟩ hl4
  rw [comp16 hd1 hd2] at hrd
  refine RW.q (v := .agg #[.int .i64 0, .int .i64 1]) rfl (q_build (vals := [(0, .int .i64 0), (1, .int .i64 1)]) zero54 Tryz.underlying54 places54 rfl rfl) ?_
  refine RW.q (v := .agg #[.int .i64 1, .int .i64 2]) rfl (q_build (vals := [(0, .int .i64 1), (1, .int .i64 2)]) zero54 Tryz.underlying54 places54 rfl rfl) ?_
  refine RW.eff _ _ rfl (e_buildSlice (vals := [(0, .agg #[.int .i64 0, .int .i64 1]), (1, .agg #[.int .i64 1, .int .i64 2])]) (cells := [.int .i64 0, .int .i64 1, .int .i64 1, .int .i64 2]) Tryz.underlying50 inf54 rfl rfl rfl (by kernel_rfl) rfl) fun d1 => ?_
  refine RW.frzB rfl fun Ψ5 hl5 hr5 => ?_
  have h5 : RepSl Ψ5 ([⟨0, 1⟩, ⟨1, 2⟩] : List Gr.Arc) _ := RowS.repE evenG54 hr5 rfl (by decide) (fun x hx => by
    simp only [List.mem_cons, List.not_mem_nil, or_false] at hx
    rcases hx with rfl | rfl <;> exact ⟨⟨by decide, by decide⟩, ⟨by decide, by decide⟩⟩)
  have hl35 := Hp.le_trans hl4 hl5
  have hB5 := Rep.mono hl35 hB0
  have r3 := r3.mono hl35
  have r4 := r4.mono hl35
  refine RW.c rfl (fun w1 hw1 => sameArcs_c w1 Ψ5 hw1.phi (hrd.mono hl5) h5) rfl rfl ?_
  repeat refine g1 ?_
  refine RW.cS rfl (fun w1 hw1 => Office_c w1 Ψ5 hw1.phi hB5) rfl rfl ?_
  rintro r Ψ6 ho hl6
  replace ho : RepSl Ψ6 ([1] : List Int) r := ho
  have hB6 := Rep.mono hl6 hB5
  have r3 := r3.mono hl6
  have r4 := r4.mono hl6
  repeat refine g1 ?_
  refine RW.el (i := 0) rfl rfl r4 (by decide) rfl rfl rfl rfl fun cs q hrep => ?_
  obtain ⟨z4, z5, z6, rfl, hz, zl, zs, zr⟩ := hrep
  have e1 : ([1] : List Int).length = 1 := rfl
  have e2 : ([1] : List Int).getD 0 0 = 1 := rfl
  have e3 : (B16.Places.getD 0 default).Start.getD 1 0 = 500000 := rfl
  have e4 : (B16.Places.getD 2 default).Down = -1 := rfl
  have e5 : (B16.Links.getD 0 default).Positions = 4 := rfl
  obtain ⟨_, hq0, m0⟩ := r3.whole (k := 0) (by decide)
  obtain ⟨x4, x5, x6, rfl, hx, xl, xs, xr⟩ := hq0
  obtain ⟨_, hq2, m2⟩ := r3.whole (k := 2) (by decide)
  obtain ⟨y4, y5, y6, rfl, -⟩ := hq2
  repeat first | refine t2 ?_ | refine t3 ?_ | refine g1 ?_
  refine RW.gl rfl rfl rfl (qa_ixN (i := 0) rfl rfl ho.sl (by decide)) ?_
  refine RW.gl rfl rfl rfl (qa_ld rfl (Cell.repInt ho (by decide))) ?_
  repeat first | refine t2 ?_ | refine t3 ?_ | refine g1 ?_
  refine RW.gl rfl rfl rfl (q_cl rfl rfl fun w1 hw1 => right16 ▸ bRight_c w1 Ψ6 hw1.phi hB6) ?_
  repeat first | refine t2 ?_ | refine t3 ?_ | refine g1 ?_
  refine RW.gl (v := .agg z31.toArray) rfl rfl rfl (q_build (vals := []) zero31 Tryz.underlying31 places31 rfl rfl) ?_
  refine RW.gl rfl rfl rfl (q_cl rfl rfl fun w1 hw1 => right0 ▸ bRight_c w1 Ψ6 hw1.phi zero_rep) ?_
  repeat first | refine t2 ?_ | refine t3 ?_ | refine g1 ?_
  refine RW.gl (v := .agg z31.toArray) rfl rfl rfl (q_build (vals := []) zero31 Tryz.underlying31 places31 rfl rfl) ?_
  refine RW.gl rfl rfl rfl (q_cl rfl rfl fun w1 hw1 => write0_c w1 Ψ6 hw1.phi) ?_
  repeat first | refine t2 ?_ | refine t3 ?_ | refine g1 ?_
  refine RW.gl rfl rfl rfl (qa_ixN (i := 0) rfl rfl r3.sl (by decide)) ?_
  repeat refine g1 ?_
  refine RW.gl rfl rfl rfl (qa_ld rfl (Cell.phi (m0 5 _ rfl))) ?_
  refine RW.gl rfl rfl rfl (qa_ixN (i := 1) rfl rfl xs.sl (by decide)) ?_
  refine RW.gl rfl rfl rfl (qa_ld rfl (Cell.repInt xs (by decide))) ?_
  repeat first | refine t2 ?_ | refine t3 ?_ | refine g1 ?_
  refine RW.gl rfl rfl rfl (qa_ixN (i := 2) rfl rfl r3.sl (by decide)) ?_
  repeat refine g1 ?_
  refine RW.gl rfl rfl rfl (qa_ld rfl (Cell.phi (m2 8 _ rfl))) ?_
  repeat first | refine t2 ?_ | refine t3 ?_ | refine g1 ?_
  refine RW.gl rfl rfl rfl (qa_ixN (i := 1) rfl rfl zl.sl (by decide)) ?_
  refine RW.gl rfl rfl rfl (qa_ldA rfl (Cells.repE zl (k := 1) (by decide) rfl) rfl) ?_
  refine RW.gl (v := .agg #[.int .i64 4000000, .int .i64 100000]) rfl rfl rfl (q_build (vals := [(0, .int .i64 4000000), (1, .int .i64 100000)]) zero75 Tryz.underlying75 places75 rfl rfl) ?_
  refine RW.gl (v := .bool true) rfl rfl rfl (q_as (q_eqlS rfl rfl (eqS75 _ _ _ _) eqG75) rfl) ?_
  repeat first | refine t2 ?_ | refine t3 ?_ | refine g1 ?_
  exact fin_res (vs := [.bool true]) rfl rfl ⟨.tmp rfl, trivial⟩ rfl (fun w' hw => ⟨rfl, hw.below rfl⟩)
end Go.Proofs.YtpapfpoefiikpaaGreatDoor
namespace Go.Proofs.YtpapfpoefiikpaaGreatDoor
open Go Go.K
/-! ### names -/
def nmK (p : Ba.Mk) : Ba.Mk := (grpB p.1, p.2)
theorem chk_false : ∀ (L : List Ba.Mk) (M : Ba.Mk → Option Bool), (L.foldl chkS (M, false)).2 = false
  | [], _ => rfl
  | p :: L, M => by
    rw [List.foldl_cons]
    have : chkS (M, false) p = (putB M p.1 p.2, false) := by unfold chkS; simp
    rw [this]; exact chk_false L _
theorem chk_iff : ∀ (L : List Ba.Mk) (M : Ba.Mk → Option Bool), (∀ k v, M k = some v → v = true) →
    ((L.foldl chkS (M, true)).2 = true ↔ (∀ p ∈ L, isNm p.2 = true ∧ M (nmK p) = none) ∧ L.Pairwise (fun p q => nmK p ≠ nmK q))
  | [], _, _ => by simp
  | p :: L, M, hM => by
    rw [List.foldl_cons]
    have hfr : frsB M p.1 p.2 = true ↔ isNm p.2 = true ∧ M (nmK p) = none := by
      unfold frsB nmK
      cases h1 : isNm p.2 <;> cases h2 : M (grpB p.1, p.2) with
      | none => simp
      | some v => simp [hM _ _ h2]
    by_cases h : frsB M p.1 p.2 = true
    · have e : chkS (M, true) p = (putB M p.1 p.2, true) := by unfold chkS; simp [h]
      have hp : putB M p.1 p.2 = fun j => if j = nmK p then some true else M j := by unfold putB nmK; rw [if_pos h]
      rw [e, hp, chk_iff L _ (fun k v hk => by
        split at hk
        · exact (sJ hk).symm
        · exact hM k v hk)]
      rw [List.pairwise_cons]
      have h1 := hfr.1 h
      constructor
      · rintro ⟨h2, h3⟩
        refine ⟨fun q hq => ?_, fun q hq => ?_, h3⟩
        · rcases List.mem_cons.1 hq with rfl | hq
          · exact h1
          · have := h2 q hq
            refine ⟨this.1, ?_⟩
            have h4 := this.2
            split at h4
            · cases h4
            · exact h4
        · have := (h2 q hq).2
          split at this
          · cases this
          · rename_i hne; exact fun e => hne e.symm
      · rintro ⟨h2, h3, h4⟩
        refine ⟨fun q hq => ⟨(h2 q (by simp [hq])).1, ?_⟩, h4⟩
        rw [if_neg (fun e => h3 q hq e.symm)]
        exact (h2 q (by simp [hq])).2
    · have e : (chkS (M, true) p).2 = false := by unfold chkS; simp [h]
      have e2 : chkS (M, true) p = ((chkS (M, true) p).1, false) := by rw [← e]
      rw [e2, chk_false]
      constructor
      · intro h; cases h
      · rintro ⟨h2, -⟩
        exact absurd (hfr.2 (h2 p (by simp))) h
theorem names_iff (b : Bt.Basin) : RNames b = true ↔ (∀ p ∈ nmL7 b, isNm p.2 = true) ∧ (nmL7 b).Pairwise (fun p q => nmK p ≠ nmK q) := by
  unfold RNames chk0
  rw [chk_iff _ _ (fun k v h => by cases h)]
  simp
theorem names_sub {b c : Bt.Basin} (h : RNames b = true) (hs : (nmL7 c).Sublist (nmL7 b)) : RNames c = true := by
  rw [names_iff] at *
  exact ⟨fun p hp => h.1 p (hs.subset hp), h.2.sublist hs⟩
/-! ### slopes -/
structure SlOk (l : Bt.Link) : Prop where
  a : 0 ≤ Ba.stAll [l.Rate, l.Band.Lo, l.Band.Hi] ∨ l.Kind ≠ 0
  b : 0 ≤ Ba.slope l.BackNum l.BackDen ∨ (l.Kind ≠ 0 ∧ l.Kind ≠ 4)
  c : 0 ≤ Ba.slope l.Num l.Den ∨ (l.Kind ≠ 1 ∧ l.Kind ≠ 5 ∧ l.Kind ≠ 3 ∧ l.Kind ≠ 4)
theorem slOk_of {l : Bt.Link} (h : fieldsB l = true) : SlOk l := by
  refine ⟨?_, ?_, ?_⟩
  · by_cases hk : l.Kind = 0
    · have := (field_0 h hk).1
      refine .inl (Ba.stAll_rng fun c hc => ?_).1
      simp only [List.mem_cons, List.not_mem_nil, or_false] at hc
      rcases hc with rfl | rfl | rfl
      · exact this.1
      · exact this.2.1
      · exact this.2.2
    · exact .inr hk
  · by_cases hk : l.Kind = 0
    · have := field_0 h hk
      exact .inl (Ba.slope_rng this.2.1.1 this.2.2.1.1).1
    · by_cases hk4 : l.Kind = 4
      · have := field_4 h hk4
        exact .inl (Ba.slope_rng this.2.2.1.1 this.2.2.2.1.1).1
      · exact .inr ⟨hk, hk4⟩
  · by_cases hk : l.Kind = 1 ∨ l.Kind = 5 ∨ l.Kind = 3
    · have := field_1 h hk
      exact .inl (Ba.slope_rng this.1.1 this.2.1).1
    · by_cases hk4 : l.Kind = 4
      · have := field_4 h hk4
        exact .inl (Ba.slope_rng this.1.1 this.2.1.1).1
      · exact .inr (by omega)
def leS (S T : List Int) : Prop := S.length = T.length ∧ ∀ j, S.getD j 0 ≤ T.getD j 0
theorem leS.refl (S : List Int) : leS S S := ⟨rfl, fun _ => Int.le_refl _⟩
theorem leS.trans {S T U : List Int} (h1 : leS S T) (h2 : leS T U) : leS S U := ⟨h1.1.trans h2.1, fun j => Int.le_trans (h1.2 j) (h2.2 j)⟩
theorem addF_le (S : List Int) (i v : Int) (hv : 0 ≤ v) : leS S (addF S i v) := by
  unfold addF
  refine ⟨by simp, fun j => ?_⟩
  rw [gDD (l := S.set _ _), List.getElem?_set]
  by_cases h : i.toNat = j
  · subst h
    rw [if_pos rfl]
    by_cases h2 : i.toNat < S.length
    · rw [if_pos h2]; simp only [Option.getD_some]; omega
    · rw [if_neg h2]; simp only [Option.getD_none]; rw [gDD, List.getElem?_eq_none (by omega)]; simp
  · rw [if_neg h, ← gDD]; exact Int.le_refl _
theorem addL_le (S : List Int) {l : Bt.Link} (h : SlOk l) : leS S (addL S l) := by
  unfold addL
  have ha := h.a; have hb := h.b; have hc := h.c
  split
  · split
    · exact addF_le _ _ _ (by omega)
    · exact (addF_le _ _ _ (by omega)).trans (addF_le _ _ _ (by omega))
  · split
    · exact addF_le _ _ _ (by omega)
    · split
      · exact (addF_le _ _ _ (by omega)).trans (addF_le _ _ _ (by omega))
      · exact leS.refl _
theorem fold_le : ∀ (ls : List Bt.Link) (S : List Int), (∀ l ∈ ls, SlOk l) → leS S (ls.foldl addL S)
  | [], S, _ => leS.refl S
  | l :: ls, S, h => (addL_le S (h l (by simp))).trans (fold_le ls _ fun x hx => h x (by simp [hx]))
theorem links_sl {b : Bt.Basin} (h : RLinks b) : ∀ l ∈ b.Links, SlOk l := fun l hl => by
  obtain ⟨i, hi, rfl⟩ := List.mem_iff_getElem.1 hl
  have := (link_f (h i hi)).2.2.2
  rw [gDD, List.getElem?_eq_getElem hi] at this
  exact slOk_of this
theorem slp0_at (b : Bt.Basin) {j : Nat} (hj : j < b.Places.length) : (slp0 b).getD j 0 = Ba.slope (b.Places.getD j default).Num (b.Places.getD j default).Den := by
  unfold slp0
  simp [hj]
/-! ### what is changed -/
def chg (p : Bt.Place) (i : Int) (k : Nat) : Bt.Place := match k with
  | 0 => { p with Cap := -1 }
  | 1 => { p with Delay := 241 }
  | 2 => { p with Down := i }
  | 3 => { p with Num := 3, Den := 2 }
  | 4 => { p with Start := p.Start ++ [0] }
  | 5 => { p with Office := p.Office + 2 }
  | 6 => { p with Name := bs [111, 117, 116] }
  | _ => { p with Level := [] }
def chgB (b : Bt.Basin) (i k : Nat) : Bt.Basin := { b with Places := b.Places.set i (chg (b.Places.getD i default) i k) }
theorem setP_at {ps : List Bt.Place} {i : Nat} (hi : i < ps.length) (q : Bt.Place) : (ps.set i q).getD i default = q := by
  rw [gDD, List.getElem?_set_self hi]; rfl
theorem setP_ne {ps : List Bt.Place} {i j : Nat} (h : i ≠ j) (q : Bt.Place) : (ps.set i q).getD j default = ps.getD j default := by
  rw [gDD, List.getElem?_set_ne h, ← gDD]
theorem right_f {c : Bt.Basin} (h : ¬ (RPlaces c ∧ RNames c = true ∧ (RLinks c → ROffices c ∧ RSlopes c))) : rightB c = false := by
  cases hr : rightB c with
  | false => rfl
  | true =>
    unfold rightB at hr
    simp only [Bool.and_eq_true, decide_eq_true_eq] at hr
    obtain ⟨⟨⟨⟨⟨⟨⟨⟨-, h1⟩, h2⟩, h3⟩, h4⟩, h5⟩, -⟩, -⟩, -⟩ := hr
    exact absurd ⟨h2, h1, fun _ => ⟨h4, h5⟩⟩ h
theorem pbad {c : Bt.Basin} {k : Nat} (hk : k < c.Places.length) (h : placeBad c k = true) : rightB c = false := right_f fun hh => by
  have := (hh.1.1 k hk).1
  rw [h] at this; cases this
theorem chg_wrong {b : Bt.Basin} (hr : rightB b = true) {i : Nat} (hi : i < b.Places.length) (k : Nat) : rightB (chgB b i k) = false := by
  unfold rightB at hr
  simp only [Bool.and_eq_true, decide_eq_true_eq] at hr
  obtain ⟨⟨⟨⟨⟨⟨⟨⟨-, hn⟩, hp⟩, hl⟩, ho⟩, -⟩, -⟩, -⟩, -⟩ := hr
  have hb := place_f (hp.1 i hi).1
  have hio : i < (chgB b i k).Places.length := by unfold chgB; simpa using hi
  have hat : (chgB b i k).Places.getD i default = chg (b.Places.getD i default) i k := setP_at hi _
  have hlen : (chgB b i k).Places.length = b.Places.length := by unfold chgB; simp
  have hpb : placeBad (chgB b i k) i = true → rightB (chgB b i k) = false := pbad hio
  match k, hat, hpb, hlen, hio with
  | 0, hat, hpb, _, _ => exact hpb (by unfold placeBad; rw [hat]; simp [chg])
  | 1, hat, hpb, _, _ => exact hpb (by unfold placeBad; rw [hat]; simp [chg])
  | 2, hat, hpb, hlen, _ => exact hpb (by unfold placeBad; rw [hat, hlen]; simp [chg])
  | 3, hat, _, hlen, hio =>
    refine right_f fun hh => ?_
    have hl' : RLinks (chgB b i 3) := fun j hj => by
      have := hl j hj
      unfold linkBad at *
      rw [hlen]
      exact this
    have h1 := (hh.2.2 hl').2 i hio
    have h2 := (fold_le (chgB b i 3).Links (slp0 (chgB b i 3)) (links_sl hl')).2 i
    rw [slp0_at _ hio, hat] at h2
    have h3 : Ba.slope (chg (b.Places.getD i default) i 3).Num (chg (b.Places.getD i default) i 3).Den = 1099511627777 := by simp [chg, Ba.slope]
    rw [h3] at h2
    change (sumsB (chgB b i 3)).getD i 0 ≤ _ at h1
    change _ ≤ (sumsB (chgB b i 3)).getD i 0 at h2
    omega
  | 4, hat, hpb, _, _ => exact hpb (by
      have := hb.2.2.2.2.2
      unfold placeBad; rw [hat]
      have e : (chgB b i 4).Owners.length = b.Owners.length := rfl
      rw [e, ← this]
      simp [chg]; omega)
  | 5, hat, hpb, hlen, hio =>
    by_cases h0 : (b.Places.getD i default).Office = 0
    · refine right_f fun hh => ?_
      have hl' : RLinks (chgB b i 5) := fun j hj => by
        have := hl j hj
        unfold linkBad at *
        rw [hlen]
        exact this
      have h1 := (hh.2.2 hl').1.1 i hio
      have h2 := ho.1 i hi
      unfold offP at h1 h2
      simp only [Bool.not_eq_false', decide_eq_true_eq] at h1 h2
      rw [hat] at h1
      have h3 : (chg (b.Places.getD i default) i 5).Down = (b.Places.getD i default).Down := rfl
      have h4 : (chg (b.Places.getD i default) i 5).Office = (b.Places.getD i default).Office + 2 := rfl
      rw [h3, h4] at h1
      have hd := hb.2.1
      have hne : (b.Places.getD i default).Down ≠ -1 := fun e => by have := h2.1 e; omega
      have h5 : (chgB b i 5).Places.getD (b.Places.getD i default).Down.toNat default = b.Places.getD (b.Places.getD i default).Down.toNat default := setP_ne (by omega) _
      rw [h5] at h1
      have := h1.2 hne
      have := h2.2 hne
      omega
    · exact hpb (by have := hb.1; unfold placeBad; rw [hat]; simp [chg, -List.getD_eq_getElem?_getD]; omega)
  | 6, hat, _, _, hio =>
    refine right_f fun hh => ?_
    have := ((names_iff _).1 hh.2.1).1 (nmF1 ((chgB b i 6).Places.getD i default)) (by
      unfold nmL7 nmL6 nmL5 nmL4 nmL3 nmL2
      simp only [List.mem_append]
      have : nmF1 ((chgB b i 6).Places.getD i default) ∈ (chgB b i 6).Places.map nmF1 := List.mem_map.2 ⟨_, by
        rw [gDD, List.getElem?_eq_getElem hio]; exact List.getElem_mem hio, rfl⟩
      simp only [this, or_true, true_or])
    rw [hat] at this
    have h2 : isNm (nmF1 (chg (b.Places.getD i default) i 6)).2 = false := by show isNm (bs [111, 117, 116]) = false; decide +kernel
    rw [h2] at this; cases this
  | k + 7, hat, hpb, _, _ => exact hpb (by unfold placeBad; rw [hat]; simp [chg, Fu.RightC])
/-! ### fewer links -/
def cutB (b : Bt.Basin) (n : Nat) : Bt.Basin := { b with Gauges := [], Links := b.Links.take n }
theorem takeL_at {ls : List Bt.Link} {n j : Nat} (h : j < n) : (ls.take n).getD j default = ls.getD j default := by
  rw [gDD, List.getElem?_take_of_lt h, ← gDD]
theorem cut_right {b : Bt.Basin} (hr : rightB b = true) {n : Nat} (hn : n ≤ b.Links.length) : rightB (cutB b n) = true := by
  unfold rightB at *
  simp only [Bool.and_eq_true, decide_eq_true_eq] at *
  obtain ⟨⟨⟨⟨⟨⟨⟨⟨hh, hm⟩, hp⟩, hl⟩, ho⟩, hs⟩, ht⟩, -⟩, hd⟩ := hr
  have hll : (cutB b n).Links.length = n := by unfold cutB; simp; omega
  have hat : ∀ j, j < n → (cutB b n).Links.getD j default = b.Links.getD j default := fun j hj => takeL_at hj
  refine ⟨⟨⟨⟨⟨⟨⟨⟨?_, ?_⟩, hp⟩, ?_⟩, ?_⟩, ?_⟩, ht⟩, ?_⟩, hd⟩
  · obtain ⟨h1, h2, h3⟩ := hh
    refine ⟨?_, h2, h3⟩
    unfold headBad at *
    rw [hll]
    simp only [Bool.or_eq_false_iff, decide_eq_false_iff_not] at *
    obtain ⟨⟨⟨⟨⟨⟨⟨⟨⟨⟨a1, a2⟩, a3⟩, a4⟩, a5⟩, a6⟩, a7⟩, a8⟩, a9⟩, a10⟩, a11⟩ := h1
    exact ⟨⟨⟨⟨⟨⟨⟨⟨⟨⟨a1, a2⟩, a3⟩, a4⟩, by omega⟩, a6⟩, by show ¬ (128 : Int) < ((([] : List Bt.Gauge).length : Nat) : Int); simp⟩, a8⟩, a9⟩, a10⟩, a11⟩
  · refine names_sub hm ?_
    unfold nmL7 nmL6 nmL5 nmL4 nmL3 nmL2 nmL1
    refine (List.Sublist.append (List.Sublist.append (List.Sublist.append (List.Sublist.append (List.Sublist.append (List.Sublist.refl _) ((List.take_sublist n b.Links).map _)) (List.Sublist.refl _)) (List.Sublist.refl _)) (List.nil_sublist _)) (List.Sublist.refl _))
  · intro k hk
    rw [hll] at hk
    have := hl k (by omega)
    unfold linkBad at *
    rw [hat k hk]
    exact this
  · refine ⟨ho.1, fun k hk => ?_⟩
    rw [hll] at hk
    have := ho.2 k (by omega)
    unfold offL at *
    rw [hat k hk]
    exact this
  · intro j hj
    have h1 := hs j hj
    have h2 : b.Links = b.Links.take n ++ b.Links.drop n := (List.take_append_drop n b.Links).symm
    unfold sumsB at *
    rw [h2, List.foldl_append] at h1
    have h3 := (fold_le (b.Links.drop n) (((b.Links.take n)).foldl addL (slp0 b)) (fun l hx => links_sl hl l (List.mem_of_mem_drop hx))).2 j
    exact Int.le_trans h3 h1
  · intro k hk
    exact absurd hk (by show ¬ k < ([] : List Bt.Gauge).length; simp)
end Go.Proofs.YtpapfpoefiikpaaGreatDoor
namespace Go.Proofs.YtpapfpoefiikpaaGreatDoor
open Go Go.K Go.RowKit
attribute [local irreducible] AW RW DW Post Qt
section
variable {α : Type} [Inhabited α] [Rep α] {Φ : Hp}
omit [Inhabited α] in
theorem _root_.Go.K.RepC.set {xs : List α} {cs c : List Value} {x : α} {i : Nat} (h : RepC Φ xs cs) (hx : Rep.rep Φ x c) (hi : i < xs.length) : RepC Φ (xs.set i x) (splice cs (i * Rep.sz α) c) := by
  have hl : c.length = Rep.sz α := Rep.len hx
  have hcs := h.1
  have hb : i * Rep.sz α + Rep.sz α ≤ cs.length := by
    rw [hcs, ← Nat.succ_mul]; exact Nat.mul_le_mul_right _ hi
  have hlt : (cs.take (i * Rep.sz α)).length = i * Rep.sz α := by rw [List.length_take]; omega
  refine ⟨by unfold splice; simp only [List.length_append, List.length_take, List.length_drop, List.length_set]; omega, fun k hk => ?_⟩
  rw [List.length_set] at hk
  by_cases e : i = k
  · subst e
    refine ⟨c, by simpa using hx, fun j u hj => ?_⟩
    have hjl := (List.getElem?_eq_some_iff.1 hj).1
    unfold splice
    rw [List.append_assoc, List.getElem?_append_right (by omega), hlt, Nat.add_sub_cancel_left, List.getElem?_append_left hjl]; exact hj
  · obtain ⟨d, h1, h2⟩ := h.2 k hk
    refine ⟨d, by rw [List.getElem_set_ne e]; exact h1, fun j u hj => ?_⟩
    have hjl := (List.getElem?_eq_some_iff.1 hj).1
    rw [show d.length = Rep.sz α from Rep.len h1] at hjl
    have h3 := h2 j u hj
    unfold splice
    rcases Nat.lt_or_gt_of_ne e with h4 | h4
    · have h5 : (i + 1) * Rep.sz α ≤ k * Rep.sz α := Nat.mul_le_mul_right _ h4
      rw [Nat.succ_mul] at h5
      rw [List.getElem?_append_right (by rw [List.length_append, hlt, hl]; omega), List.length_append, hlt, hl, List.getElem?_drop, show i * Rep.sz α + Rep.sz α + (k * Rep.sz α + j - (i * Rep.sz α + Rep.sz α)) = k * Rep.sz α + j by omega]
      exact h3
    · have h5 : (k + 1) * Rep.sz α ≤ i * Rep.sz α := Nat.mul_le_mul_right _ h4
      rw [Nat.succ_mul] at h5
      rw [List.append_assoc, List.getElem?_append_left (by omega), List.getElem?_take_of_lt (by omega)]
      exact h3
theorem _root_.Go.K.RepSl.flatC {xs : List α} {v : Value} (h : RepSl Φ xs v) : ∃ cs, RepC Φ xs cs ∧ (∀ j u, cs[j]? = some u → PCell Φ (Value.at v j) u) ∧ cs.all Value.oneCell' = true := by
  have key : ∀ k, k ≤ xs.length → ∃ cs, RepC Φ (xs.take k) cs ∧ (∀ j u, cs[j]? = some u → PCell Φ (Value.at v j) u) ∧ cs.all Value.oneCell' = true := by
    intro k
    induction k with
    | zero => intro _; exact ⟨[], RepC.nil, fun j u hj => (nomatch hj), rfl⟩
    | succ k ih =>
      intro hk
      obtain ⟨cs, h1, h2, h3⟩ := ih (by omega)
      obtain ⟨c, h4, h5⟩ := h.whole (k := k) (by omega)
      have hcl := h1.1
      rw [List.length_take, Nat.min_eq_left (by omega)] at hcl
      refine ⟨cs ++ c, ?_, fun j u hj => ?_, by rw [List.all_append, h3, List.all_eq_true.2 (Rep.one h4)]; rfl⟩
      · rw [List.take_succ_eq_append_getElem (by omega)]
        have e : xs.getD k default = xs[k] := by rw [gDD, List.getElem?_eq_getElem (by omega)]; rfl
        exact h1.snoc (by rw [← e]; exact h4)
      · by_cases hj2 : j < cs.length
        · rw [List.getElem?_append_left hj2] at hj; exact h2 j u hj
        · rw [List.getElem?_append_right (by omega)] at hj
          have := h5 _ u hj
          rwa [hcl, show k * Rep.sz α + (j - k * Rep.sz α) = j by omega] at this
  obtain ⟨cs, h1, h2, h3⟩ := key xs.length (Nat.le_refl _)
  rw [List.take_length] at h1
  exact ⟨cs, h1, h2, h3⟩
end
theorem BasinLimits_c (w : World) (Φ : Hp) (hΦ : Hp.le Φ (hp w)) (hG : Knows Φ Glob) {b : Bt.Basin} {cs : List Value} (hB : RepV Φ b cs) {i : Int} (hi : I64 i) :
    Calls pg 6 #[.agg cs.toArray, .int .i64 i] w fun e w' => e = .returned (.bool true) ∧ Below w.heap.size w w' := by
  have hB0 := hB
  have hone := List.all_eq_true.2 (Rep.one hB0)
  obtain ⟨v1, v3, v4, v5, v6, v7, v8, v9, rfl, hBw, r1, r3, r4, r5, r6, r7, r8, r9⟩ := (show Rep.rep Φ b cs from hB)
  have hpm : b.Places.length * 152 ≤ 140737488355328 := r3.max
  have hlm : b.Links.length * 200 ≤ 140737488355328 := r4.max
  refine inJ2 108 Tryz.func6 rfl rfl (J := St ⟨zw w, Φ, []⟩ Φ []) (StP.zb (StP.init w Φ hΦ [])) ?_
  have fin : ∀ {Ψ : Hp} {C : List Chunk} {t : Bool} (w' : World), t = true → StP ⟨zw w, Φ, []⟩ Ψ C w' → (Ending.returned (.bool t) = .returned (.bool true) ∧ Below w.heap.size w w') := fun w' ht hw => by
    subst ht
    have h := (hw.below rfl).toBelow
    exact ⟨rfl, ⟨h.1, h.2, h.3, h.4, h.5⟩⟩
  repeat refine g1 ?_
  refine RW.bxA rfl rfl fun b1 => ?_
  repeat refine g1 ?_
  refine RW.ez rfl rfl (fun w1 hw1 => small16_c w1 Φ hw1.phi hG) rfl rfl ?_
  repeat refine g1 ?_
  refine RW.eb rfl (fun w1 hw1 => few_c w1 Φ hw1.phi hB0) rfl rfl fun t => ?_
  cases t with
  | false =>
    repeat first | refine t2 ?_ | refine g1 ?_
    exact fin_res (vs := [.bool true]) rfl rfl ⟨.tmp rfl, trivial⟩ rfl (fun w' hw => fin w' rfl hw)
  | true =>
  repeat first | refine t2 ?_ | refine g1 ?_
  refine RW.gl rfl rfl rfl (q_cl rfl rfl fun w1 hw1 => bRight_c w1 Φ hw1.phi hB0) ?_
  cases hr : rightB b with
  | false =>
    repeat first | refine t2 ?_ | refine g1 ?_
    exact fin_res (vs := [.bool true]) rfl rfl ⟨.tmp rfl, trivial⟩ rfl (fun w' hw => fin w' rfl hw)
  | true =>
  repeat first | refine t2 ?_ | refine g1 ?_
  refine RW.g rfl rfl rfl (fun h => qa_len (gv_pos h) r3.sl) ?_
  repeat first | refine t2 ?_ | refine g1 ?_
  refine RW.pkO rfl rfl rfl rfl fun q1 hq1 => ?_
  repeat refine g1 ?_
  refine AW.cond rfl (fun h => ?_) fun h => ?_
  · repeat refine g1 ?_
    exact fin_res (vs := [.bool true]) rfl rfl ⟨.tmp rfl, trivial⟩ rfl (fun w' hw => fin w' rfl hw)
  rw [h] at hq1
  simp only [Bool.or_eq_false_iff, decide_eq_false_iff_not] at hq1
  obtain ⟨n, rfl⟩ : ∃ n : Nat, i = n := ⟨i.toNat, by omega⟩
  have hn : n < b.Places.length := by omega
  repeat refine g1 ?_
  refine RW.el rfl rfl r3 hn rfl rfl rfl rfl fun cs q hp => ?_
  have hp0 := hp
  have hpo := List.all_eq_true.2 (Rep.one hp0)
  obtain ⟨w4, w5, w6, rfl, ⟨c0, c1, c2, c3, c4, c5, c6, c7, c8⟩, s4, s5, s6⟩ := hp
  have hoff : 0 ≤ (b.Places.getD n default).Office ∧ (b.Places.getD n default).Office ≤ 2 ∧ (b.Places.getD n default).Start.length ≤ 16 := by
    have h := hr
    unfold rightB at h
    simp only [Bool.and_eq_true, decide_eq_true_eq] at h
    have h2 := place_f (h.1.1.1.1.1.1.2.1 n hn).1
    have h3 := h.1.1.1.1.1.1.1.1.1
    unfold headBad at h3
    simp only [Bool.or_eq_false_iff, Bool.not_eq_false', decide_eq_false_iff_not, decide_eq_true_eq] at h3
    have h4 := h3.1.1.1.1.1.1.1.1.1.2
    exact ⟨h2.1.1, h2.1.2, by have := h2.2.2.2.2.2; omega⟩
  repeat refine g1 ?_
  generalize hpd : b.Places.getD n default = p at *
  refine AW.lp (fun s J m => ∃ k : Nat, s = [(7, .int .i64 (k : Int)), (6, .pointer (some ⟨q, 0, none⟩)), (5, .bool true), (2, .pointer (some ⟨b1, 0, none⟩)), (1, .int .i64 (n : Int))] ∧ J = St ⟨zw w, Φ, []⟩ Φ [.blk q 58 [.string p.Name, .int .i64 p.Kind, .int .i64 p.Office, .int .i64 p.Cap, w4, w5, .int .i64 p.Num, .int .i64 p.Den, .int .i64 p.Down, .int .i64 p.Delay, .int .i64 p.Floor, w6], .blk b1 31 [.string b.Name, v1, .int .i64 b.Cells, v3, v4, v5, v6, v7, v8, v9, .int .i64 b.Err]] ∧ m = 8 - k ∧ k ≤ 8) ⟨0, rfl, rfl, rfl, Nat.zero_le _⟩ ?_
  rintro _ _ _ _ ⟨k, rfl, rfl, rfl, hk⟩
  repeat refine g1 ?_
  refine AW.cond rfl (fun h => ?_) fun h => ?_
  · have h : k < 8 := by have := odT h; omega
    repeat refine g1 ?_
    refine RW.alc rfl fun q2 => ?_
    refine RW.stA 0 rfl rfl rfl hpo rfl rfl ?_
    iterate 2 refine g1 ?_
    refine AW.seqJ (fun s J => ∃ (cs2 : List Value) (Ψ : Hp), Hp.le Φ Ψ ∧ Rep.rep Ψ (chg p n k) cs2 ∧ s = [(8, .pointer (some ⟨q2, 0, none⟩)), (7, .int .i64 (k : Int)), (6, .pointer (some ⟨q, 0, none⟩)), (5, .bool true), (2, .pointer (some ⟨b1, 0, none⟩)), (1, .int .i64 (n : Int))] ∧ J = St ⟨zw w, Φ, []⟩ Ψ [.blk q2 58 cs2, .blk q 58 [.string p.Name, .int .i64 p.Kind, .int .i64 p.Office, .int .i64 p.Cap, w4, w5, .int .i64 p.Num, .int .i64 p.Den, .int .i64 p.Down, .int .i64 p.Delay, .int .i64 p.Floor, w6], .blk b1 31 [.string b.Name, v1, .int .i64 b.Cells, v3, v4, v5, v6, v7, v8, v9, .int .i64 b.Err]]) ?_ ?_
    · rcases (show k = 0 ∨ k = 1 ∨ k = 2 ∨ k = 3 ∨ k = 4 ∨ k = 5 ∨ k = 6 ∨ k = 7 by omega) with rfl | rfl | rfl | rfl | rfl | rfl | rfl | rfl
      · repeat first | refine t2 ?_ | refine t3 ?_ | refine g1 ?_
        exact Post.mid_n ⟨_, Φ, Hp.le_refl _, ⟨w4, w5, w6, rfl, ⟨c0, c1, c2, (show I64 (-1) from ⟨by decide, by decide⟩), c4, c5, c6, c7, c8⟩, s4, s5, s6⟩, rfl, rfl⟩ (by repeat (first | exact trivial | refine ⟨rfl, ?_⟩)) (fun _ h => h)
      · repeat first | refine t2 ?_ | refine t3 ?_ | refine g1 ?_
        exact Post.mid_n ⟨_, Φ, Hp.le_refl _, ⟨w4, w5, w6, rfl, ⟨c0, c1, c2, c3, c4, c5, c6, (show I64 241 from ⟨by decide, by decide⟩), c8⟩, s4, s5, s6⟩, rfl, rfl⟩ (by repeat (first | exact trivial | refine ⟨rfl, ?_⟩)) (fun _ h => h)
      · repeat first | refine t2 ?_ | refine t3 ?_ | refine g1 ?_
        exact Post.mid_n ⟨_, Φ, Hp.le_refl _, ⟨w4, w5, w6, rfl, ⟨c0, c1, c2, c3, c4, c5, hi, c7, c8⟩, s4, s5, s6⟩, rfl, rfl⟩ (by repeat (first | exact trivial | refine ⟨rfl, ?_⟩)) (fun _ h => h)
      · repeat first | refine t2 ?_ | refine t3 ?_ | refine g1 ?_
        exact Post.mid_n ⟨_, Φ, Hp.le_refl _, ⟨w4, w5, w6, rfl, ⟨c0, c1, c2, c3, (show I64 3 from ⟨by decide, by decide⟩), (show I64 2 from ⟨by decide, by decide⟩), c6, c7, c8⟩, s4, s5, s6⟩, rfl, rfl⟩ (by repeat (first | exact trivial | refine ⟨rfl, ?_⟩)) (fun _ h => h)
      · repeat first | refine t2 ?_ | refine t3 ?_ | refine g1 ?_
        refine RW.eff _ _ rfl (e_buildSlice0 Tryz.underlying29 inf3) fun b3 => ?_
        repeat refine g1 ?_
        obtain ⟨css, hrc, hpc, hco⟩ := s5.flatC
        have hcl := hrc.1
        have hsm : p.Start.length * 8 ≤ 140737488355328 := s5.max
        refine RW.eff (fun v' : {v' : Value // IsSl v' (0 + p.Start.length)} => v'.1) _ rfl (e_appendPhi (v := .slice (some ⟨b3, 0, none⟩) 0 0) (yv := w5) (news := css) 0 rfl rfl rfl s5.sl Tryz.underlying29 inf3 rfl rfl hcl hpc hco (by omega) (by omega) (fun _ => rfl)) ?_
        rintro ⟨va, hva⟩
        refine RW.ap1 (m := 0 + p.Start.length) (cs := [.int .i64 0]) 0 rfl Tryz.underlying29 inf3 rfl rfl rfl rfl rfl rfl rfl (by kernel_rfl) rfl rfl (by omega) (by omega) fun vb w2 hvb => ?_
        refine RW.frzB rfl fun Ψ hle hr => ?_
        have hst : RepSl Ψ (p.Start ++ [0]) vb := RowS.repC hr ((hrc.mono hle).snoc ⟨rfl, ⟨by decide, by decide⟩⟩) (by simp) (by show (0 + p.Start.length + 1) * 8 ≤ maxSl; simp only [maxSl]; omega)
        obtain ⟨Ab, cb, rfl, _⟩ := hvb
        repeat refine g1 ?_
        exact Post.mid_n ⟨_, Ψ, hle, ⟨w4, _, w6, rfl, ⟨c0, c1, c2, c3, c4, c5, c6, c7, c8⟩, s4.mono hle, hst, s6.mono hle⟩, rfl, rfl⟩ (by repeat (first | exact trivial | refine ⟨rfl, ?_⟩)) (fun _ h => h)
      · repeat first | refine t2 ?_ | refine t3 ?_ | refine g1 ?_
        exact Post.mid_n ⟨_, Φ, Hp.le_refl _, ⟨w4, w5, w6, rfl, ⟨c0, c1, ⟨by show _ ≤ p.Office + 2; omega, by show p.Office + 2 ≤ _; omega⟩, c3, c4, c5, c6, c7, c8⟩, s4, s5, s6⟩, rfl, rfl⟩ (by repeat (first | exact trivial | refine ⟨rfl, ?_⟩)) (fun _ h => h)
      · repeat first | refine t2 ?_ | refine t3 ?_ | refine g1 ?_
        exact Post.mid_n ⟨_, Φ, Hp.le_refl _, ⟨w4, w5, w6, rfl, ⟨(show (bs [111, 117, 116]).size ≤ maxLen by decide), c1, c2, c3, c4, c5, c6, c7, c8⟩, s4, s5, s6⟩, rfl, rfl⟩ (by repeat (first | exact trivial | refine ⟨rfl, ?_⟩)) (fun _ h => h)
      · repeat first | refine t2 ?_ | refine t3 ?_ | refine g1 ?_
        exact Post.mid_n ⟨_, Φ, Hp.le_refl _, ⟨.slice none 0 0, w5, w6, rfl, ⟨c0, c1, c2, c3, c4, c5, c6, c7, c8⟩, repSl_nil, s5, s6⟩, rfl, rfl⟩ (by repeat (first | exact trivial | refine ⟨rfl, ?_⟩)) (fun _ h => h)
    · rintro _ _ _ ⟨cs2, Ψ, hle, hrp, rfl, rfl⟩
      have hco := List.all_eq_true.2 (Rep.one hrp)
      obtain ⟨css, hrc, hpc, hcso⟩ := r3.flatC
      have hcl := hrc.1
      have hl2 : cs2.length = 12 := Rep.len hrp
      repeat refine g1 ?_
      refine RW.alc rfl fun b9 => ?_
      refine RW.stA 0 rfl rfl rfl hone rfl rfl ?_
      repeat refine g1 ?_
      refine RW.eff _ _ rfl (e_buildSlice0 Tryz.underlying23 inf58) fun b3 => ?_
      repeat refine g1 ?_
      refine RW.eff (fun v' : {v' : Value // IsSl v' (0 + b.Places.length)} => v'.1) _ rfl (e_appendPhi (v := .slice (some ⟨b3, 0, none⟩) 0 0) (yv := v3) (news := css) 0 rfl rfl rfl r3.sl Tryz.underlying23 inf58 rfl rfl hcl (fun j u hj => (hpc j u hj).mono hle) hcso (by omega) (by omega) (fun _ => rfl)) ?_
      rintro ⟨va, hva⟩
      obtain ⟨Aa, ca, rfl, hA1, hA2⟩ := hva
      have hvs : IsSl (.slice Aa (0 + b.Places.length) ca) (0 + b.Places.length) := ⟨Aa, ca, rfl, hA1, hA2⟩
      show RW _ _ _ _ _ _ _ (_ :: _) (St _ _ (_ :: _))
      repeat refine g1 ?_
      refine RW.q (v := .agg cs2.toArray) rfl (qa_ldA rfl (Cells.blk 2 rfl) hl2) ?_
      refine RW.q rfl (qa_ixN rfl rfl hvs (by omega)) ?_
      refine RW.effn (e_storeRow (v := .agg cs2.toArray) (xs' := splice css (n * 12) cs2) (n := 11) 0 rfl rfl rfl sz58 (by show cs2.toArray.size = _; simp [hl2]) (by show cs2.toArray.toList.all _ = _; simpa using hco) (by rw [hcl]; show n * 12 + 12 ≤ b.Places.length * 12; omega) rfl rfl) ?_
      repeat refine g1 ?_
      refine RW.frzB rfl fun Ψ2 hle2 hr2 => ?_
      have hl02 := Hp.le_trans hle hle2
      have hrs : RepSl Ψ2 (b.Places.set n (chg p n k)) (.slice Aa (0 + b.Places.length) ca) := RowS.repC hr2 ((hrc.mono hl02).set (Rep.mono hle2 hrp) hn) (by simp) (by show (0 + b.Places.length) * 152 ≤ maxSl; simp only [maxSl]; omega)
      have hBc : Rep.rep Ψ2 (chgB b n k) [.string b.Name, v1, .int .i64 b.Cells, .slice Aa (0 + b.Places.length) ca, v4, v5, v6, v7, v8, v9, .int .i64 b.Err] := by
        unfold chgB
        rw [hpd]
        exact ⟨_, _, _, _, _, _, _, _, rfl, hBw, r1.mono hl02, hrs, r4.mono hl02, r5.mono hl02, r6.mono hl02, r7.mono hl02, r8.mono hl02, r9.mono hl02⟩
      repeat refine g1 ?_
      refine RW.c rfl (fun w1 hw1 => chg_wrong hr hn k ▸ bRight_c w1 Ψ2 hw1.phi hBc) rfl rfl ?_
      repeat first | refine t2 ?_ | refine g1 ?_
      exact Post.bk (hJ := fun _ h => StP.know hl02 (StP.drop h (.cons _ (.cons _ (List.Sublist.refl _))))) ⟨k + 1, rfl, rfl, rfl, h⟩
  · repeat refine g1 ?_
    refine RW.alc rfl fun b10 => ?_
    refine RW.stA 0 rfl rfl rfl hone rfl rfl ?_
    repeat refine g1 ?_
    refine AW.lp (fun s J m => ∃ (k : Nat) (u v : Value), s = [(11, .int .i64 (k : Int)), (10, .pointer (some ⟨b10, 0, none⟩)), (5, .bool true), (2, .pointer (some ⟨b1, 0, none⟩))] ∧ J = St ⟨zw w, Φ, []⟩ Φ [.blk b10 31 [.string b.Name, v1, .int .i64 b.Cells, v3, u, v5, .slice none 0 0, v7, v8, v9, .int .i64 b.Err], .blk b1 31 [.string b.Name, v1, .int .i64 b.Cells, v3, v4, v5, v6, v7, v8, v9, .int .i64 b.Err]] ∧ m = b.Links.length - k ∧ k ≤ b.Links.length) ⟨0, v4, v4, rfl, rfl, rfl, Nat.zero_le _⟩ ?_
    rintro _ _ _ _ ⟨k, u, v, rfl, rfl, rfl, hk⟩
    repeat refine g1 ?_
    refine AW.cond rfl (fun h => ?_) fun h => ?_
    · have h : k < b.Links.length := by simpa using h
      repeat refine g1 ?_
      have hsl := r4.part (l := 0) (m := k) (Nat.zero_le _) hk
      rw [List.drop_zero] at hsl
      change RepSl Φ _ (subSl v4 0 k 18) at hsl
      obtain ⟨vv, hvv⟩ : ∃ vv, subSl v4 0 k 18 = vv := ⟨_, rfl⟩
      rw [hvv] at hsl
      refine RW.q (v := vv) rfl (q_as (q_sliceH (v := v4) (m := (k : Int)) rfl rfl r4.sl Tryz.underlying24 sz72 (by omega) (by omega)) hvv) ?_
      obtain ⟨Ax, cx, rfl, _⟩ := hsl.sl
      repeat refine g1 ?_
      refine RW.c rfl (fun w1 hw1 => cut_right hr hk ▸ bRight_c w1 Φ hw1.phi (show Rep.rep Φ (cutB b k) _ from ⟨_, _, _, _, _, _, _, _, rfl, hBw, r1, r3, hsl, r5, repSl_nil, r7, r8, r9⟩)) rfl rfl ?_
      repeat first | refine t2 ?_ | refine g1 ?_
      exact Post.bk ⟨k + 1, _, v, rfl, rfl, rfl, h⟩
    · repeat refine g1 ?_
      exact fin_res (vs := [.bool true]) rfl rfl ⟨.tmp rfl, trivial⟩ rfl (fun w' hw => fin w' rfl hw)
end Go.Proofs.YtpapfpoefiikpaaGreatDoor
