/- Lemmas. Conditions: those of each theorem. -/
import Derived.Test.YtpapfpoefiikpaaGreatDoorVBcZ
set_option maxRecDepth 8000
set_option maxHeartbeats 16000000
namespace Go.Proofs.YtpapfpoefiikpaaGreatDoor
open Go Go.K Go.RowKit Go.Sort
section
variable {P : Program} {N : Nat} {D : List Deferred} {ops : Array Oper} {Q : Exit → Act → World → Prop} {f : Nat → Value} {s : List (Nat × Value)} {J : Cls} {rest : List Oper} {ty t t' : TypeId} {pos : String} {af : Array Edge} {d : Nat} {x y z : Operand} {dst : Option Nat} {g : Option (Nat × Bool)} {op : Op}
theorem q_lssT {k : IntKind} {a b : Int} (hx : ev (fr f s) x = .int k a) (hy : ev (fr f s) y = .int k b) (h : a < b) : Qt P J f s ⟨dst, .binOp .lss t x y t', ty, pos, af, g⟩ (.bool true) := q_as (q_lss hx hy) (congrArg _ (decide_eq_true (by omega)))
theorem q_lssF {k : IntKind} {a b : Int} (hx : ev (fr f s) x = .int k a) (hy : ev (fr f s) y = .int k b) (h : ¬ a < b) : Qt P J f s ⟨dst, .binOp .lss t x y t', ty, pos, af, g⟩ (.bool false) := q_as (q_lss hx hy) (congrArg _ (decide_eq_false (by omega)))
theorem q_gtrT {k : IntKind} {a b : Int} (hx : ev (fr f s) x = .int k a) (hy : ev (fr f s) y = .int k b) (h : b < a) : Qt P J f s ⟨dst, .binOp .gtr t x y t', ty, pos, af, g⟩ (.bool true) := q_as (q_gtr hx hy) (congrArg _ (decide_eq_true (by omega)))
theorem q_gtrF {k : IntKind} {a b : Int} (hx : ev (fr f s) x = .int k a) (hy : ev (fr f s) y = .int k b) (h : ¬ b < a) : Qt P J f s ⟨dst, .binOp .gtr t x y t', ty, pos, af, g⟩ (.bool false) := q_as (q_gtr hx hy) (congrArg _ (decide_eq_false (by omega)))
theorem q_geqT {k : IntKind} {a b : Int} (hx : ev (fr f s) x = .int k a) (hy : ev (fr f s) y = .int k b) (h : b ≤ a) : Qt P J f s ⟨dst, .binOp .geq t x y t', ty, pos, af, g⟩ (.bool true) := q_as (q_geq hx hy) (congrArg _ (decide_eq_true (by omega)))
theorem q_geqF {k : IntKind} {a b : Int} (hx : ev (fr f s) x = .int k a) (hy : ev (fr f s) y = .int k b) (h : ¬ b ≤ a) : Qt P J f s ⟨dst, .binOp .geq t x y t', ty, pos, af, g⟩ (.bool false) := q_as (q_geq hx hy) (congrArg _ (decide_eq_false (by omega)))
end
theorem DW.gun {P : Program} {Pn : List PanicEntry → World → Prop} {N : Nat} {D : List Deferred} {ops : Array Oper} {Q : Exit → Act → World → Prop} {f : Nat → Value} {s : List (Nat × Value)} {J J0 : Cls} {tg : List Tg} {d j gd : Nat} {want : Bool} {op : Op} {ty : TypeId} {pos : String} {af : Array Edge} {rest : List Oper}
    (hJ : ∀ w, J.p w → J0.p w) (hd : Nat.blt d N = true) (hy : (ops[j]?).bind (·.dst) = some gd) (hb : fr f s gd = undef) (k : DW P Pn N D ops J0 Q tg rest f ((d, undef) :: s) J) :
    DW P Pn N D ops J0 Q (.q :: tg) (⟨some d, op, ty, pos, af, some (j, want)⟩ :: rest) f s J := fun a ha => by
  have hyy := yielded_undef (ops := ops) ha hy hb
  exact ⟨hJ, undef, .inr ⟨by simp [Region.wanted, hyy], rfl⟩, k _ (ha.put hd _)⟩
theorem t9 {A B : Prop} (k : B) (h : Kt B → A := by
  intro k
  first
  | apply DW.q
    exact fun _ h => h
    exact rfl
    first
    | apply q_pkT
      exact rfl
      exact rfl
    | apply q_pkF
      exact rfl
      exact rfl
    | apply q_eqlT
      exact rfl
      exact rfl
      omega
    | apply q_eqlF
      exact rfl
      exact rfl
      omega
    | apply q_neqF
      exact rfl
      exact rfl
      omega
    | apply q_lssF
      exact rfl
      exact rfl
      omega
    | apply q_lssT
      exact rfl
      exact rfl
      omega
    | apply q_gtrF
      exact rfl
      exact rfl
      omega
    | apply q_gtrT
      exact rfl
      exact rfl
      omega
    | apply q_geqF
      exact rfl
      exact rfl
      omega
    | apply q_geqT
      exact rfl
      exact rfl
      omega
    | apply qa_mv
      exact rfl
    | apply qa_as
      exact rfl
    | apply qa_fa0
      exact rfl
    | apply qa_fat
      exact rfl
    | apply qa_ld
      exact rfl
      first | exact Cell.blk 0 rfl rfl | exact Cell.blk 1 rfl rfl | exact Cell.blk 2 rfl rfl
    | apply qa_len
      exact lk_ev rfl
      exact RepSl.sl (by assumption)
    | apply qa_sub
      exact rfl
      exact rfl
      unfold I64; omega
    exact k.r
  | apply DW.gs
    exact fun _ h => h
    exact rfl
    exact rfl
    exact rfl
    exact k.r
  | apply DW.gun
    exact fun _ h => h
    exact rfl
    exact rfl
    exact rfl
    exact k.r
  | apply DW.gl
    exact fun _ h => h
    exact rfl
    exact rfl
    exact rfl
    first
    | apply q_pkT
      exact rfl
      exact rfl
    | apply q_pkF
      exact rfl
      exact rfl
    | apply q_eqlT
      exact rfl
      exact rfl
      omega
    | apply q_eqlF
      exact rfl
      exact rfl
      omega
    | apply q_neqF
      exact rfl
      exact rfl
      omega
    | apply q_lssF
      exact rfl
      exact rfl
      omega
    | apply q_lssT
      exact rfl
      exact rfl
      omega
    | apply q_gtrF
      exact rfl
      exact rfl
      omega
    | apply q_gtrT
      exact rfl
      exact rfl
      omega
    | apply q_geqF
      exact rfl
      exact rfl
      omega
    | apply q_geqT
      exact rfl
      exact rfl
      omega
    | apply qa_mv
      exact rfl
    | apply qa_as
      exact rfl
    | apply qa_fa0
      exact rfl
    | apply qa_fat
      exact rfl
    | apply qa_ld
      exact rfl
      first | exact Cell.blk 0 rfl rfl | exact Cell.blk 1 rfl rfl | exact Cell.blk 2 rfl rfl
    | apply qa_len
      exact lk_ev rfl
      exact RepSl.sl (by assumption)
    | apply qa_sub
      exact rfl
      exact rfl
      unfold I64; omega
    exact k.r) : A := h ⟨k⟩
attribute [local irreducible] AW RW DW Post Qt
theorem pl_ld {B : Bs} {Φ Ψ : Hp} {C : List Chunk} {ps : List Bt.Place} {v : Value} (h : RepSl Φ ps v) (hl : Hp.le Φ Ψ) {k : Nat} (hk : k < ps.length) : Cell (St B Ψ C) (Value.at v (k * 12 + 2)) (.int .i64 (ps.getD k default).Office) ∧ Cell (St B Ψ C) (Value.at v (k * 12 + 8)) (.int .i64 (ps.getD k default).Down) := by
  obtain ⟨_, h1, h2⟩ := (h.mono hl).whole hk
  obtain ⟨_, _, _, rfl, -⟩ := h1
  exact ⟨Cell.phi (h2 2 _ rfl), Cell.phi (h2 8 _ rfl)⟩
theorem take_snocA {L : List Gr.Arc} {i : Nat} (h : i < L.length) : L.take (i + 1) = L.take i ++ [L.getD i default] := Se.take_snoc h
def offN (b : Bt.Basin) (g : List Int → Nat) : Nat → Nat
  | 0 => 0
  | o + 1 => offN b g o + g (ofc b.Places (o : Int) b.Places.length)
theorem offN_le (b : Bt.Basin) (g : List Int → Nat) (hg : ∀ l, g l ≤ l.length) : ∀ o, offN b g o ≤ o * b.Places.length
  | 0 => Nat.zero_le _
  | o + 1 => by
    have h1 := offN_le b g hg o
    have h2 := hg (ofc b.Places (o : Int) b.Places.length)
    have h3 := ofc_len b.Places (o : Int) b.Places.length
    rw [offN, Nat.add_mul]; omega
theorem BasinFlows_c (w : World) (Φ : Hp) (hΦ : Hp.le Φ (hp w)) (hG : Knows Φ Glob) {b : Bt.Basin} {cs : List Value} (hB : RepV Φ b cs) :
    Calls pg 5 #[.agg cs.toArray] w fun e w' => e = .returned (.bool true) ∧ Below w.heap.size w w' := by
  have hB0 := hB
  obtain ⟨v1, v3, v4, v5, v6, v7, v8, v9, rfl, hBw, r1, r3, r4, r5, r6, r7, r8, r9⟩ := (show Rep.rep Φ b cs from hB)
  refine inJ1 241 Tryz.func5 rfl rfl (J := St ⟨zw w, Φ, []⟩ Φ []) (StP.zb (StP.init w Φ hΦ [])) ?_
  have fin : ∀ {Ψ : Hp} {C : List Chunk} {t : Bool} (w' : World), t = true → StP ⟨zw w, Φ, []⟩ Ψ C w' → (Ending.returned (.bool t) = .returned (.bool true) ∧ Below w.heap.size w w') := fun w' ht hw => by
    subst ht
    have h := (hw.below rfl).toBelow
    exact ⟨rfl, ⟨h.1, h.2, h.3, h.4, h.5⟩⟩
  repeat refine g1 ?_
  refine RW.bxA rfl rfl fun b1 => ?_
  repeat refine g1 ?_
  refine RW.ez rfl rfl (fun w1 hw1 => small16_c w1 Φ hw1.phi hG) rfl rfl ?_
  repeat refine g1 ?_
  refine RW.eb rfl (fun w1 hw1 => few_c w1 Φ hw1.phi hB0) rfl rfl fun t => ?_
  cases t with
  | false =>
    repeat first | refine t2 ?_ | refine g1 ?_
    exact fin_res (vs := [.bool true]) rfl rfl ⟨.tmp rfl, trivial⟩ rfl (fun w' hw => fin w' rfl hw)
  | true =>
  repeat first | refine t2 ?_ | refine g1 ?_
  refine RW.gl rfl rfl rfl (q_cl rfl rfl fun w1 hw1 => bRight_c w1 Φ hw1.phi hB0) ?_
  cases hr : rightB b with
  | false =>
    repeat first | refine t2 ?_ | refine g1 ?_
    exact fin_res (vs := [.bool true]) rfl rfl ⟨.tmp rfl, trivial⟩ rfl (fun w' hw => fin w' rfl hw)
  | true =>
  have hpn : b.Places.length ≤ 64 ∧ b.Links.length ≤ 96 := by
    have h := hr
    unfold rightB at h
    simp only [Bool.and_eq_true, decide_eq_true_eq] at h
    have h3 := h.1.1.1.1.1.1.1.1.1
    unfold headBad at h3
    simp only [Bool.or_eq_false_iff, Bool.not_eq_false', decide_eq_false_iff_not, decide_eq_true_eq] at h3
    have h4 := h3.1.1.1.1.1.1.1.2
    have h5 := h3.1.1.1.1.1.1.2
    exact ⟨by omega, by omega⟩
  have hF := rf_of hr
  repeat first | refine t2 ?_ | refine g1 ?_
  refine RW.cS rfl (fun w1 hw1 => Arcs_c w1 Φ hw1.phi hB0 hpn.1 hpn.2) rfl rfl ?_
  rintro lv Ψ ⟨d0, hd1, hd2, hrd⟩ hle
  have hA := al_of hF hd1 hd2
  generalize Se.comp d0 = L at *
  have hnl : ∀ i, i ≤ L.length → ((L.take i).filter (isDn b)).length ≤ L.length := fun i hi => Nat.le_trans (List.length_filter_le ..) (by rw [List.length_take]; omega)
  have hlm : L.length * 16 ≤ 140737488355328 := hrd.max
  repeat refine g1 ?_
  refine RW.eff (fun b5 : Nat => (.slice (some ⟨b5, 0, none⟩) b.Places.length b.Places.length)) (fun b5 => St ⟨zw w, Φ, []⟩ Ψ [.row (.slice (some ⟨b5, 0, none⟩) b.Places.length b.Places.length) 4 1 b.Places.length ((List.replicate b.Places.length false).map Value.bool), .blk b1 31 [.string b.Name, v1, .int .i64 b.Cells, v3, v4, v5, v6, v7, v8, v9, .int .i64 b.Err]]) rfl (e_makeSlice rfl rfl Tryz.underlying52 inf4 (by omega) (by omega) (by omega) rfl (made_bool (n := b.Places.length) (by omega))) ?_
  intro b5
  repeat refine g1 ?_
  refine AW.lp (fun s J m => ∃ i dn : Nat, s = [(7, .int .i64 (i : Int)), (6, .int .i64 (dn : Int)), (5, .slice (some ⟨b5, 0, none⟩) b.Places.length b.Places.length), (4, lv), (3, .bool true), (1, .pointer (some ⟨b1, 0, none⟩))] ∧ J = St ⟨zw w, Φ, []⟩ Ψ [.row (.slice (some ⟨b5, 0, none⟩) b.Places.length b.Places.length) 4 1 b.Places.length ((List.replicate b.Places.length false).map Value.bool), .blk b1 31 [.string b.Name, v1, .int .i64 b.Cells, v3, v4, v5, v6, v7, v8, v9, .int .i64 b.Err]] ∧ m = L.length - i ∧ i ≤ L.length ∧ dn = ((L.take i).filter (isDn b)).length) ⟨0, 0, rfl, rfl, rfl, Nat.zero_le _, rfl⟩ ?_
  rintro _ _ _ _ ⟨i, dn, rfl, rfl, rfl, hi, hdn⟩
  repeat refine g1 ?_
  refine AW.cond rfl (fun h => ?_) fun h => ?_
  · have h : i < L.length := by simpa using h
    have hnl1 := hnl i hi
    have hxm : L.getD i default ∈ L := by rw [gDD, List.getElem?_eq_getElem h]; exact List.getElem_mem h
    have hok := hA.ok _ hxm
    have hts := congrArg (fun l => (l.filter (isDn b)).length) (take_snocA h)
    simp only [List.filter_append, List.length_append] at hts
    have hprev : 0 < i → Se.ltA (L.getD (i - 1) default) (L.getD i default) := fun h0 => by
      have e1 : L.getD i default = L[i] := by rw [gDD, List.getElem?_eq_getElem h]; rfl
      have e2 : L.getD (i - 1) default = L[i - 1] := by rw [gDD, List.getElem?_eq_getElem (show i - 1 < L.length by omega)]; rfl
      rw [e1, e2]
      exact List.pairwise_iff_getElem.1 hA.asc (i - 1) i (by omega) h (by omega)
    repeat refine g1 ?_
    refine RW.el rfl rfl hrd h rfl rfl rfl rfl fun cs q hrep => ?_
    obtain ⟨rfl, -⟩ := hrep
    repeat refine g1 ?_
    obtain ⟨⟨f0, f1⟩, ⟨u0, u1⟩, hne, hst⟩ := hok
    have hkk : 0 < i → ((i : Int) - 1).toNat < L.length := fun _ => by omega
    have hp2 : 0 < i → Se.ltA (L.getD ((i : Int) - 1).toNat default) (L.getD i default) := fun h0 => by
      rw [show ((i : Int) - 1).toNat = i - 1 by omega]; exact hprev h0
    refine AW.mid (fun s J => s = [(8, .pointer (some ⟨q, 0, none⟩)), (7, .int .i64 (i : Int)), (6, .int .i64 (dn : Int)), (5, .slice (some ⟨b5, 0, none⟩) b.Places.length b.Places.length), (4, lv), (3, .bool true), (1, .pointer (some ⟨b1, 0, none⟩)), (107, .bool false)] ∧ J = St ⟨zw w, Φ, []⟩ Ψ (.blk q 54 [.int .i64 (L.getD i default).From, .int .i64 (L.getD i default).To] :: [.row (.slice (some ⟨b5, 0, none⟩) b.Places.length b.Places.length) 4 1 b.Places.length ((List.replicate b.Places.length false).map Value.bool), .blk b1 31 [.string b.Name, v1, .int .i64 b.Cells, v3, v4, v5, v6, v7, v8, v9, .int .i64 b.Err]])) ?_ ?_
    · refine AW.draw (J0 := St ⟨zw w, Φ, []⟩ Ψ (.blk q 54 [.int .i64 (L.getD i default).From, .int .i64 (L.getD i default).To] :: [.row (.slice (some ⟨b5, 0, none⟩) b.Places.length b.Places.length) 4 1 b.Places.length ((List.replicate b.Places.length false).map Value.bool), .blk b1 31 [.string b.Name, v1, .int .i64 b.Cells, v3, v4, v5, v6, v7, v8, v9, .int .i64 b.Err]])) (List.replicate 68 .q) (List.range 68) hmix (by kernel_rfl) ?_
      rcases Nat.eq_zero_or_pos i with h0 | h0
      · repeat refine t9 ?_
        refine DW.nil ?_
        exact Post.mid_n ⟨rfl, rfl⟩ (by repeat (first | exact trivial | refine ⟨rfl, ?_⟩)) (fun _ h => h)
      · have hkk := hkk h0
        rcases hp2 h0 with hlt | ⟨heq, hlt⟩
        · repeat refine t9 ?_
          refine DW.gl (fun _ h => h) rfl rfl rfl (qa_ixZ (v := lv) rfl rfl hrd.sl (by omega) (by omega)) ?_
          repeat refine t9 ?_
          refine DW.gl (fun _ h => h) rfl rfl rfl (qa_ld rfl (Cell.repE hrd hkk (j := 0) rfl)) ?_
          repeat refine t9 ?_
          refine DW.gl (fun _ h => h) rfl rfl rfl (qa_ixZ (v := lv) rfl rfl hrd.sl (by omega) (by omega)) ?_
          repeat refine t9 ?_
          refine DW.gl (fun _ h => h) rfl rfl rfl (qa_ld rfl (Cell.repE hrd hkk (j := 0) rfl)) ?_
          repeat refine t9 ?_
          refine DW.nil ?_
          exact Post.mid_n ⟨rfl, rfl⟩ (by repeat (first | exact trivial | refine ⟨rfl, ?_⟩)) (fun _ h => h)
        · repeat refine t9 ?_
          refine DW.gl (fun _ h => h) rfl rfl rfl (qa_ixZ (v := lv) rfl rfl hrd.sl (by omega) (by omega)) ?_
          repeat refine t9 ?_
          refine DW.gl (fun _ h => h) rfl rfl rfl (qa_ld rfl (Cell.repE hrd hkk (j := 0) rfl)) ?_
          repeat refine t9 ?_
          refine DW.gl (fun _ h => h) rfl rfl rfl (qa_ixZ (v := lv) rfl rfl hrd.sl (by omega) (by omega)) ?_
          repeat refine t9 ?_
          refine DW.gl (fun _ h => h) rfl rfl rfl (qa_ld rfl (Cell.repE hrd hkk (j := 0) rfl)) ?_
          repeat refine t9 ?_
          refine DW.gl (fun _ h => h) rfl rfl rfl (qa_ixZ (v := lv) rfl rfl hrd.sl (by omega) (by omega)) ?_
          repeat refine t9 ?_
          refine DW.gl (fun _ h => h) rfl rfl rfl (qa_ld rfl (Cell.repE hrd hkk (j := 1) rfl)) ?_
          repeat refine t9 ?_
          refine DW.nil ?_
          exact Post.mid_n ⟨rfl, rfl⟩ (by repeat (first | exact trivial | refine ⟨rfl, ?_⟩)) (fun _ h => h)
    · rintro _ _ _ ⟨rfl, rfl⟩
      have hkt : (L.getD i default).To.toNat < b.Places.length := by omega
      have hkf : (L.getD i default).From.toNat < b.Places.length := by omega
      have ho1 := hF.off _ hkt
      have ho2 := hF.off _ hkf
      simp only [offAt] at hst
      repeat first | refine t2 ?_ | refine g1 ?_
      refine AW.draw (J0 := St ⟨zw w, Φ, []⟩ Ψ (.blk q 54 [.int .i64 (L.getD i default).From, .int .i64 (L.getD i default).To] :: [.row (.slice (some ⟨b5, 0, none⟩) b.Places.length b.Places.length) 4 1 b.Places.length ((List.replicate b.Places.length false).map Value.bool), .blk b1 31 [.string b.Name, v1, .int .i64 b.Cells, v3, v4, v5, v6, v7, v8, v9, .int .i64 b.Err]])) (List.replicate 16 .q) (List.range 16) hmix (by kernel_rfl) ?_
      repeat refine t9 ?_
      refine DW.q (fun _ h => h) rfl (qa_ixZ (v := v3) rfl rfl r3.sl u0 u1) ?_
      repeat refine t9 ?_
      refine DW.q (fun _ h => h) rfl (qa_ld rfl (pl_ld r3 hle hkt).1) ?_
      repeat refine t9 ?_
      refine DW.q (fun _ h => h) rfl (qa_ixZ (v := v3) rfl rfl r3.sl f0 f1) ?_
      repeat refine t9 ?_
      refine DW.q (fun _ h => h) rfl (qa_ld rfl (pl_ld r3 hle hkf).1) ?_
      repeat refine t9 ?_
      refine DW.nil ?_
      rcases hst with hst | hst
      all_goals
        repeat first | refine t2 ?_ | refine t3 ?_ | refine g1 ?_
        refine AW.draw (J0 := St ⟨zw w, Φ, []⟩ Ψ (.blk q 54 [.int .i64 (L.getD i default).From, .int .i64 (L.getD i default).To] :: [.row (.slice (some ⟨b5, 0, none⟩) b.Places.length b.Places.length) 4 1 b.Places.length ((List.replicate b.Places.length false).map Value.bool), .blk b1 31 [.string b.Name, v1, .int .i64 b.Cells, v3, v4, v5, v6, v7, v8, v9, .int .i64 b.Err]])) (List.replicate 10 .q) (List.range 10) hmix (by kernel_rfl) ?_
        repeat refine t9 ?_
        refine DW.q (fun _ h => h) rfl (qa_ixZ (v := v3) rfl rfl r3.sl f0 f1) ?_
        repeat refine t9 ?_
        refine DW.q (fun _ h => h) rfl (qa_ld rfl (pl_ld r3 hle hkf).2) ?_
        rcases Decidable.em ((b.Places.getD (L.getD i default).From.toNat default).Down = (L.getD i default).To) with hd | hd
        · repeat refine t9 ?_
          refine DW.nil ?_
          repeat first | refine t2 ?_ | refine g1 ?_
          have hd1 : isDn b (L.getD i default) = true := decide_eq_true hd
          exact Post.bk ⟨i + 1, dn + 1, rfl, rfl, rfl, h, by rw [hts, ← hdn, List.filter_cons, if_pos hd1]; rfl⟩
        · repeat refine t9 ?_
          refine DW.nil ?_
          repeat first | refine t2 ?_ | refine g1 ?_
          have hd1 : isDn b (L.getD i default) = false := decide_eq_false hd
          exact Post.bk ⟨i + 1, dn, rfl, rfl, rfl, h, by rw [hts, ← hdn, List.filter_cons, if_neg (by rw [hd1]; simp)]; rfl⟩
  · have h : i = L.length := by have := odF h; omega
    subst h
    rw [List.take_length, hA.dn] at hdn
    have hall := ofc_all (b := b) b.Places.length hF.off
    have hC : ∀ l : List Int, (l.filter (hasDn b)).length ≤ l.length := fun l => List.length_filter_le ..
    repeat refine g1 ?_
    refine AW.lp (fun s J m => ∃ (o many : Nat) (d : Int) (S : List Bool), s = [(11, .int .i64 (o : Int)), (10, .int .i64 (many : Int)), (6, .int .i64 d), (5, .slice (some ⟨b5, 0, none⟩) b.Places.length b.Places.length), (3, .bool true), (1, .pointer (some ⟨b1, 0, none⟩))] ∧ J = St ⟨zw w, Φ, []⟩ Ψ [.row (.slice (some ⟨b5, 0, none⟩) b.Places.length b.Places.length) 4 1 b.Places.length (S.map Value.bool), .blk b1 31 [.string b.Name, v1, .int .i64 b.Cells, v3, v4, v5, v6, v7, v8, v9, .int .i64 b.Err]] ∧ m = 3 - o ∧ o ≤ 3 ∧ many = offN b List.length o ∧ d = (dn : Int) - (offN b (fun l => (l.filter (hasDn b)).length) o : Nat) ∧ S.length = b.Places.length ∧ ∀ p, p < b.Places.length → S.getD p false = true → (b.Places.getD p default).Office < (o : Int)) ⟨0, 0, dn, List.replicate b.Places.length false, rfl, rfl, rfl, Nat.zero_le _, rfl, by simp [offN], by simp, fun p hp h => by simp [hp] at h⟩ ?_
    rintro _ _ _ _ ⟨o, many, d, S, rfl, rfl, rfl, ho, hmany, hd, hSl, hSo⟩
    have hml := offN_le b List.length (fun _ => Nat.le_refl _) o
    have hcl := offN_le b _ hC o
    have hml2 : o * b.Places.length ≤ 3 * 64 := Nat.mul_le_mul ho hpn.1
    have hdl : (((List.range b.Places.length).map fun i => ((i : Nat) : Int)).filter (hasDn b)).length ≤ b.Places.length := Nat.le_trans (hC _) (by simp)
    repeat refine g1 ?_
    refine AW.cond rfl (fun h => ?_) fun h => ?_
    · have ho3 : o < 3 := by have := odT h; omega
      repeat refine g1 ?_
      refine RW.cS rfl (fun w1 hw1 => Office_c w1 Ψ hw1.phi (Rep.mono hle hB0)) rfl rfl ?_
      rintro xv Ψ2 hx hl2
      have hle2 := Hp.le_trans hle hl2
      have hmo : offN b List.length (o + 1) = offN b List.length o + (ofc b.Places (o : Int) b.Places.length).length := rfl
      have hco : offN b (fun l => (l.filter (hasDn b)).length) (o + 1) = offN b (fun l => (l.filter (hasDn b)).length) o + ((ofc b.Places (o : Int) b.Places.length).filter (hasDn b)).length := rfl
      have hXl := ofc_len b.Places (o : Int) b.Places.length
      have hXm : ∀ x, x ∈ ofc b.Places (o : Int) b.Places.length → _ := fun x hx => ofc_mem.1 hx
      have hXa := ofc_asc b.Places (o : Int) b.Places.length
      generalize ofc b.Places (o : Int) b.Places.length = X at *
      repeat refine g1 ?_
      refine AW.lp (fun s J m => ∃ (i : Nat) (e : Int) (S : List Bool), s = [(13, .int .i64 (i : Int)), (12, xv), (11, .int .i64 (o : Int)), (10, .int .i64 ((many + X.length : Nat) : Int)), (6, .int .i64 e), (5, .slice (some ⟨b5, 0, none⟩) b.Places.length b.Places.length), (3, .bool true), (1, .pointer (some ⟨b1, 0, none⟩))] ∧ J = St ⟨zw w, Φ, []⟩ Ψ2 [.row (.slice (some ⟨b5, 0, none⟩) b.Places.length b.Places.length) 4 1 b.Places.length (S.map Value.bool), .blk b1 31 [.string b.Name, v1, .int .i64 b.Cells, v3, v4, v5, v6, v7, v8, v9, .int .i64 b.Err]] ∧ m = X.length - i ∧ i ≤ X.length ∧ e = d - (((X.take i).filter (hasDn b)).length : Nat) ∧ S.length = b.Places.length ∧ ∀ p, p < b.Places.length → S.getD p false = true → (b.Places.getD p default).Office < (o : Int) ∨ ((p : Nat) : Int) ∈ X.take i) ⟨0, d, S, rfl, rfl, rfl, Nat.zero_le _, by simp, hSl, fun p hp h => .inl (hSo p hp h)⟩ ?_
      clear hSo hSl S
      rintro _ _ _ _ ⟨i, e, S, rfl, rfl, rfl, hi, he, hSl, hSo⟩
      repeat refine g1 ?_
      refine AW.cond rfl (fun h => ?_) fun h => ?_
      · have h : i < X.length := by simpa using h
        have hym : X.getD i 0 ∈ X := by rw [gDD, List.getElem?_eq_getElem h]; exact List.getElem_mem h
        obtain ⟨⟨y0, y1⟩, yo⟩ := hXm _ hym
        have hyn : (X.getD i 0).toNat < b.Places.length := by omega
        have hi0 := hi
        have hasc : ∀ j, j < i → X.getD j 0 < X.getD i 0 := fun j hj => by
          have e1 : X.getD i 0 = X[i] := by rw [gDD, List.getElem?_eq_getElem h]; rfl
          have e2 : X.getD j 0 = X[j] := by rw [gDD, List.getElem?_eq_getElem (show j < X.length by omega)]; rfl
          rw [e1, e2]
          exact List.pairwise_iff_getElem.1 hXa j i (by omega) h hj
        have hsf : S.getD (X.getD i 0).toNat false = false := by
          cases hs : S.getD (X.getD i 0).toNat false with
          | false => rfl
          | true =>
            rcases hSo _ hyn hs with h1 | h1
            · omega
            · rw [Int.toNat_of_nonneg y0] at h1
              obtain ⟨j, hj, e⟩ := List.mem_iff_getElem.1 h1
              rw [List.length_take] at hj
              have := hasc j (by omega)
              rw [List.getElem_take] at e
              have e2 : X.getD j 0 = X[j] := by rw [gDD, List.getElem?_eq_getElem (show j < X.length by omega)]; rfl
              omega
        have hts : X.take (i + 1) = X.take i ++ [X.getD i 0] := Fu.take_snocI h
        have hkk : 0 < i → ((i : Int) - 1).toNat < X.length := fun _ => by omega
        have hpv : 0 < i → X.getD ((i : Int) - 1).toNat 0 < X.getD i 0 := fun _ => hasc _ (by omega)
        repeat refine g1 ?_
        refine AW.mid (fun s J => s = [(13, .int .i64 (i : Int)), (12, xv), (11, .int .i64 (o : Int)), (10, .int .i64 ((many + X.length : Nat) : Int)), (6, .int .i64 e), (5, .slice (some ⟨b5, 0, none⟩) b.Places.length b.Places.length), (3, .bool true), (1, .pointer (some ⟨b1, 0, none⟩)), (210, .bool false)] ∧ J = St ⟨zw w, Φ, []⟩ Ψ2 [.row (.slice (some ⟨b5, 0, none⟩) b.Places.length b.Places.length) 4 1 b.Places.length (S.map Value.bool), .blk b1 31 [.string b.Name, v1, .int .i64 b.Cells, v3, v4, v5, v6, v7, v8, v9, .int .i64 b.Err]]) ?_ ?_
        · refine AW.draw (J0 := St ⟨zw w, Φ, []⟩ Ψ2 [.row (.slice (some ⟨b5, 0, none⟩) b.Places.length b.Places.length) 4 1 b.Places.length (S.map Value.bool), .blk b1 31 [.string b.Name, v1, .int .i64 b.Cells, v3, v4, v5, v6, v7, v8, v9, .int .i64 b.Err]]) (List.replicate 53 .q) (List.range 53) hmix (by kernel_rfl) ?_
          repeat refine t9 ?_
          refine DW.q (fun _ h => h) rfl (qa_ixN (v := xv) rfl rfl hx.sl h) ?_
          refine DW.q (fun _ h => h) rfl (qa_ld rfl (Cell.repInt hx h)) ?_
          repeat refine t9 ?_
          refine DW.gl (fun _ h => h) rfl rfl rfl (qa_ixN (v := xv) rfl rfl hx.sl h) ?_
          refine DW.gl (fun _ h => h) rfl rfl rfl (qa_ld rfl (Cell.repInt hx h)) ?_
          repeat refine t9 ?_
          refine DW.gl (fun _ h => h) rfl rfl rfl (qa_ixN (v := xv) rfl rfl hx.sl h) ?_
          refine DW.gl (fun _ h => h) rfl rfl rfl (qa_ld rfl (Cell.repInt hx h)) ?_
          refine DW.gl (fun _ h => h) rfl rfl rfl (qa_ixZ rfl rfl isSl_mk y0 y1) ?_
          refine DW.gl (fun _ h => h) rfl rfl rfl (q_as (qa_ld rfl (Cell.rowBool 0 rfl (by omega))) (congrArg Value.bool hsf)) ?_
          repeat refine t9 ?_
          refine DW.gl (fun _ h => h) rfl rfl rfl (qa_ixN (v := xv) rfl rfl hx.sl h) ?_
          refine DW.gl (fun _ h => h) rfl rfl rfl (qa_ld rfl (Cell.repInt hx h)) ?_
          refine DW.gl (fun _ h => h) rfl rfl rfl (qa_ixZ (v := v3) rfl rfl r3.sl y0 y1) ?_
          repeat refine t9 ?_
          refine DW.gl (fun _ h => h) rfl rfl rfl (qa_ld rfl (pl_ld r3 hle2 hyn).1) ?_
          repeat refine t9 ?_
          rcases Nat.eq_zero_or_pos i with h0 | h0
          · repeat refine t9 ?_
            refine DW.nil ?_
            exact Post.mid_n ⟨rfl, rfl⟩ (by repeat (first | exact trivial | refine ⟨rfl, ?_⟩)) (fun _ h => h)
          · have hkk := hkk h0
            have hpv := hpv h0
            repeat refine t9 ?_
            refine DW.gl (fun _ h => h) rfl rfl rfl (qa_ixZ (v := xv) rfl rfl hx.sl (by omega) (by omega)) ?_
            refine DW.gl (fun _ h => h) rfl rfl rfl (qa_ld rfl (Cell.repInt hx hkk)) ?_
            repeat refine t9 ?_
            refine DW.gl (fun _ h => h) rfl rfl rfl (qa_ixN (v := xv) rfl rfl hx.sl h) ?_
            refine DW.gl (fun _ h => h) rfl rfl rfl (qa_ld rfl (Cell.repInt hx h)) ?_
            repeat refine t9 ?_
            refine DW.nil ?_
            exact Post.mid_n ⟨rfl, rfl⟩ (by repeat (first | exact trivial | refine ⟨rfl, ?_⟩)) (fun _ h => h)
        · rintro _ _ _ ⟨rfl, rfl⟩
          repeat first | refine t2 ?_ | refine g1 ?_
          refine RW.q rfl (qa_ixN (v := xv) rfl rfl hx.sl h) ?_
          refine RW.q rfl (qa_ld rfl (Cell.repInt hx h)) ?_
          refine RW.q rfl (qa_ixZ rfl rfl isSl_mk y0 y1) ?_
          refine RW.effn (J' := St ⟨zw w, Φ, []⟩ Ψ2 [.row (.slice (some ⟨b5, 0, none⟩) b.Places.length b.Places.length) 4 1 b.Places.length ((S.set (X.getD i 0).toNat true).map Value.bool), .blk b1 31 [.string b.Name, v1, .int .i64 b.Cells, v3, v4, v5, v6, v7, v8, v9, .int .i64 b.Err]]) (e_storeRow (v := .bool true) 0 rfl rfl rfl sz4 rfl rfl (by simp only [List.length_map]; omega) (splice_bool (by omega)) rfl) ?_
          have hS2 : ∀ p, p < b.Places.length → (S.set (X.getD i 0).toNat true).getD p false = true → (b.Places.getD p default).Office < (o : Int) ∨ ((p : Nat) : Int) ∈ X.take (i + 1) := fun p hp hs => by
            rw [hts]
            by_cases hpe : (X.getD i 0).toNat = p
            · right; rw [← hpe, Int.toNat_of_nonneg y0]; simp
            · rw [gDD, List.getElem?_set_ne hpe, ← gDD] at hs
              rcases hSo p hp hs with h1 | h1
              · exact .inl h1
              · exact .inr (List.mem_append_left _ h1)
          repeat refine g1 ?_
          refine AW.draw (J0 := St ⟨zw w, Φ, []⟩ Ψ2 [.row (.slice (some ⟨b5, 0, none⟩) b.Places.length b.Places.length) 4 1 b.Places.length ((S.set (X.getD i 0).toNat true).map Value.bool), .blk b1 31 [.string b.Name, v1, .int .i64 b.Cells, v3, v4, v5, v6, v7, v8, v9, .int .i64 b.Err]]) (List.replicate 10 .q) (List.range 10) hmix (by kernel_rfl) ?_
          repeat refine t9 ?_
          refine DW.q (fun _ h => h) rfl (qa_ixN (v := xv) rfl rfl hx.sl h) ?_
          refine DW.q (fun _ h => h) rfl (qa_ld rfl (Cell.repInt hx h)) ?_
          refine DW.q (fun _ h => h) rfl (qa_ixZ (v := v3) rfl rfl r3.sl y0 y1) ?_
          repeat refine t9 ?_
          refine DW.q (fun _ h => h) rfl (qa_ld rfl (pl_ld r3 hle2 hyn).2) ?_
          have htl : (((X.take i).filter (hasDn b)).length) ≤ i := Nat.le_trans (hC _) (by rw [List.length_take]; omega)
          rcases Decidable.em (0 ≤ (b.Places.getD (X.getD i 0).toNat default).Down) with hdw | hdw
          · have h1 : hasDn b (X.getD i 0) = true := decide_eq_true hdw
            repeat refine t9 ?_
            refine DW.nil ?_
            repeat first | refine t2 ?_ | refine g1 ?_
            exact Post.bk ⟨i + 1, e - 1, _, rfl, rfl, rfl, h, by rw [hts, List.filter_append, List.length_append, List.filter_cons, if_pos h1, he]; simp only [List.filter_nil, List.length_singleton]; omega, by rw [List.length_set]; exact hSl, hS2⟩
          · have h1 : hasDn b (X.getD i 0) = false := decide_eq_false hdw
            repeat refine t9 ?_
            refine DW.nil ?_
            repeat first | refine t2 ?_ | refine g1 ?_
            exact Post.bk ⟨i + 1, e, _, rfl, rfl, rfl, h, by rw [hts, List.filter_append, List.length_append, List.filter_cons, if_neg (by rw [h1]; simp), he]; simp only [List.filter_nil, List.length_nil, Nat.add_zero], by rw [List.length_set]; exact hSl, hS2⟩
      · have h : i = X.length := by have := odF h; omega
        subst h
        rw [List.take_length] at he hSo
        repeat refine g1 ?_
        exact Post.bk (hJ := fun _ h => StP.know hl2 h) ⟨o + 1, many + X.length, e, S, rfl, rfl, rfl, ho3, by rw [hmo, hmany], by rw [he, hd, hco]; omega, hSl, fun p hp hs => by
          rcases hSo p hp hs with h1 | h1
          · omega
          · have := (hXm _ h1).2; rw [Int.toNat_natCast] at this; omega⟩
    · have h : o = 3 := by have := odF h; omega
      subst h
      have e3 : offN b List.length 3 = b.Places.length := by have := hall.1; simpa [offN] using this
      have e4 : offN b (fun l => (l.filter (hasDn b)).length) 3 = (((List.range b.Places.length).map fun i => ((i : Nat) : Int)).filter (hasDn b)).length := by
        simp only [offN, Nat.zero_add]; exact hall.2
      have e5 : d = 0 := by omega
      have e6 : many = b.Places.length := by omega
      clear hml hcl hmany hd
      repeat first | refine t2 ?_ | refine t3 ?_ | refine g1 ?_
      exact fin_res (vs := [.bool true]) rfl rfl ⟨.tmp rfl, trivial⟩ rfl (fun w' hw => fin w' rfl hw)
end Go.Proofs.YtpapfpoefiikpaaGreatDoor
