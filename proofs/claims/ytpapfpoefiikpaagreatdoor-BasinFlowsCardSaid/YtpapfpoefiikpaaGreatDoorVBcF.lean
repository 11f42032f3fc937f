/- Lemmas. Conditions: those of each theorem. -/
import Derived.Test.YtpapfpoefiikpaaGreatDoorVPaE
set_option maxRecDepth 8000
set_option maxHeartbeats 16000000
namespace Go.Proofs.YtpapfpoefiikpaaGreatDoor
open Go Go.K Go.RowKit
theorem nd_at {Φ : Hp} {xs : List Bt.Node} {v : Value} (hk : RepSl Φ xs v) {i : Nat} (hi : i < xs.length) : ∃ kv, RepSl Φ (xs.getD i default).Kids kv ∧ wfN (xs.getD i default) ∧ ∀ j u, (ndC (xs.getD i default) kv)[j]? = some u → PCell Φ (Value.at v (i * 6 + j)) u := by
  obtain ⟨cs, h1, h2⟩ := hk.whole hi
  obtain ⟨kv, rfl, h3, h4⟩ := repN.1 h1
  exact ⟨kv, h4, h3, h2⟩
section
variable {N : Nat} {D : List Deferred} {ops : Array Oper} {Q : Exit → Act → World → Prop} {Pn : List PanicEntry → World → Prop} [hQ : PanQ D Q Pn] {f : Nat → Value} {s : List (Nat × Value)} {B : Bs} {Φ : Hp} {C : List Chunk} {rest : List Oper} {ty1 ty2 ty3 ty4 : TypeId} {p1 p2 p3 p4 : String} {e1 e2 e3 e4 : Array Edge} {a b c d : Nat} {x y : Operand} {v : Value}
theorem RW.nd {xs : List Bt.Node} {i : Nat} (hk : RepSl Φ xs v) (hi : i < xs.length) (hN : (Nat.blt a N && Nat.blt b N && Nat.blt c N) = true) (hca : Nat.beq b c = false) (hx : ev (fr f s) x = v) (hy : ev (fr f s) y = .int .i64 (i : Int))
    (k : ∀ kv q, RepSl Φ (xs.getD i default).Kids kv → wfN (xs.getD i default) → RW pg N D ops Q rest f ((c, .pointer (some ⟨q, 0, none⟩)) :: (b, .agg (ndC (xs.getD i default) kv).toArray) :: (a, .pointer (some (Value.at v (i * 6)))) :: s) (St B Φ (.blk q 40 (ndC (xs.getD i default) kv) :: C))) :
    RW pg N D ops Q (⟨some a, .indexAddr 38 x y, ty1, p1, e1, none⟩ :: ⟨some b, .load 40 (.tmp a), ty2, p2, e2, none⟩ :: ⟨some c, .alloc 40, ty3, p3, e3, none⟩ :: ⟨none, .store 40 (.tmp c) (.tmp b), ty4, p4, e4, none⟩ :: rest) f s (St B Φ C) := by
  simp only [Bool.and_eq_true] at hN
  obtain ⟨kv, h1, h2, h3⟩ := nd_at hk hi
  refine RW.q hN.1.1 (qa_ixN hx hy hk.sl hi) (RW.q (v := .agg (ndC (xs.getD i default) kv).toArray) hN.1.2 (qa_ldA (by simp [ev, fr]) (Cells.phiK (n := i * 6) h3) rfl) (RW.alc hN.2 fun q => ?_))
  refine RW.effn (J' := St B Φ (.blk q 40 (ndC (xs.getD i default) kv) :: C)) (e_store (v := .agg (ndC (xs.getD i default) kv).toArray) 0 rfl (by simp [ev, fr]; rfl) (by simp [ev, fr, hca]) sz40 rfl (ndC_one h1.sl) rfl rfl rfl) (k kv q h1 h2)
theorem RW.nd6 {u u2 : Nat} {ty5 : TypeId} {p5 : String} {e5 : Array Edge} {xs : List Bt.Node} {i : Nat} (hk : RepSl Φ xs v) (hi : i < xs.length) (hN : (Nat.blt u2 N && Nat.blt a N && Nat.blt b N && Nat.blt c N) = true) (hne : (!(Nat.beq b c) && !(Nat.beq b u2) && !(Nat.beq c u2) && !(Nat.beq u c) && !(Nat.beq u b) && !(Nat.beq u a)) = true) (hx : ev (fr f s) x = v) (hy : ev (fr f s) y = .int .i64 (i : Int)) (hu : fr f s u = .int .i64 (i : Int))
    (k : ∀ kv q, RepSl Φ (xs.getD i default).Kids kv → wfN (xs.getD i default) → RW pg N D ops Q rest f ((u2, .int .i64 (i : Int)) :: (c, .pointer (some ⟨q, 0, none⟩)) :: (b, .agg (ndC (xs.getD i default) kv).toArray) :: (a, .pointer (some (Value.at v (i * 6)))) :: s) (St B Φ (.blk q 40 (ndC (xs.getD i default) kv) :: C))) :
    RW pg N D ops Q (⟨some a, .indexAddr 38 x y, ty1, p1, e1, none⟩ :: ⟨some b, .load 40 (.tmp a), ty2, p2, e2, none⟩ :: ⟨some c, .alloc 40, ty3, p3, e3, none⟩ :: ⟨some u2, .assign (.tmp u), ty5, p5, e5, none⟩ :: ⟨none, .store 40 (.tmp c) (.tmp b), ty4, p4, e4, none⟩ :: rest) f s (St B Φ C) := by
  simp only [Bool.and_eq_true, Bool.not_eq_true'] at hN hne
  obtain ⟨kv, h1, h2, h3⟩ := nd_at hk hi
  refine RW.q hN.1.1.2 (qa_ixN hx hy hk.sl hi) (RW.q (v := .agg (ndC (xs.getD i default) kv).toArray) hN.1.2 (qa_ldA (by simp [ev, fr]) (Cells.phiK (n := i * 6) h3) rfl) (RW.alc hN.2 fun q => ?_))
  refine RW.q hN.1.1.1 (q_assign (v := .int .i64 (i : Int)) (by simp [ev, fr, hne, hu])) ?_
  exact RW.effn (J' := St B Φ (.blk q 40 (ndC (xs.getD i default) kv) :: C)) (e_store (v := .agg (ndC (xs.getD i default) kv).toArray) 0 rfl (by simp [ev, fr, hne]; rfl) (by simp [ev, fr, hne]) sz40 rfl (ndC_one h1.sl) rfl rfl rfl) (k kv q h1 h2)
theorem RW.ap1 {tS eT m sz bytes : Nat} {z : Value} {css cs : List Value} (i : Nat) (hi : C[i]? = some (.row v eT sz m css)) (hT : pg.underlying tS = some (.slice eT)) (hinf : (pg.info? eT).map (fun i => (i.zero, i.size, i.bytes)) = some (some z, sz, bytes)) (hN : (Nat.blt a N && Nat.blt b N) = true)
    (hx : ev (fr f s) x = v) (hxa : (match x with | .tmp t => !(Nat.beq t a) | _ => true) = true) {w : Value} (hy : ev (fr f s) y = w) (hz : z.cells.size = sz) (hs1 : Nat.ble 1 sz = true) (hs2 : Nat.ble sz 16777216 = true) (hf : Instr.fill (fun i => some (i * sz, sz)) ((Array.range (1 * sz)).map (z.cells[· % z.cells.size]!)) [(0, w)] = some cs.toArray) (hl : cs.length = sz) (ho : cs.all Value.oneCell' = true) (h1 : m + 1 ≤ 9223372036854775807) (h2 : (m + 1) * bytes ≤ 140737488355328)
    (k : ∀ va w2, IsSl va (m + 1) → RW pg N D ops Q rest f ((b, va) :: (a, w2) :: s) (St B Φ (C.set i (.row va eT sz (m + 1) (css ++ cs))))) :
    RW pg N D ops Q (⟨some a, .buildSlice tS 1 #[(0, y)], ty1, p1, e1, none⟩ :: ⟨some b, .call { callee := .builtin .append, args := #[x, .tmp a], argTypes := #[tS, tS] }, ty2, p2, e2, none⟩ :: rest) f s (St B Φ C) := by
  simp only [Bool.and_eq_true] at hN
  refine RW.eff _ _ hN.1 (e_buildSlice hT hinf (vals := [(0, w)]) (by simp [hy]) (by simpa using hs1) (by simpa using hs2) hf (by simp [hl])) fun q => ?_
  refine RW.eff (fun xv : {vq : Value // IsSl vq (m + 1)} => xv.1) (fun xv => St B Φ (.row (.slice (some ⟨q, 0, none⟩) 1 1) eT sz 1 cs :: C.set i (.row xv.1 eT sz (m + 1) (css ++ cs)))) hN.2 (e_append (i + 1) (by simpa using hi) ?_ (by simp [ev, fr]; rfl) hT hinf hz hs1 (by omega) (Cells.row0 0 rfl) ho h1 h2 (fun _ => by simp)) ?_
  · cases x with
    | tmp t => simp only [Bool.not_eq_true'] at hxa; simpa [ev, fr, hxa] using hx
    | _ => exact hx
  rintro ⟨va, hva⟩
  exact RW.wk (fun _ h => StP.drop h (List.sublist_cons_self _ _)) (k va _ hva)
end
section
variable {P : Program} {N : Nat} {D : List Deferred} {ops : Array Oper} {Q : Exit → Act → World → Prop} {f : Nat → Value} {s : List (Nat × Value)} {J : Cls} {rest : List Oper} {ty t t' : TypeId} {pos : String} {af : Array Edge} {d : Nat} {x y z : Operand} {dst : Option Nat} {g : Option (Nat × Bool)} {op : Op}
theorem q_pkT {v : Value} (hx : ev (fr f s) x = .bool true) (hy : K.lk s y = some v) : Qt P J f s ⟨dst, .pick x y z, ty, pos, af, g⟩ v := q_pick (t := true) hx (fun _ => lk_ev hy) (fun hp => nomatch hp)
theorem q_pkF {v : Value} (hx : ev (fr f s) x = .bool false) (hz : K.lk s z = some v) : Qt P J f s ⟨dst, .pick x y z, ty, pos, af, g⟩ v := q_pick (t := false) hx (fun hp => nomatch hp) (fun _ => lk_ev hz)
theorem RW.gs {j gd : Nat} {want : Bool} (hd : Nat.blt d N = true) (hy : (ops[j]?).bind (·.dst) = some gd) (hb : fr f s gd = .bool (!want)) (k : RW P N D ops Q rest f ((d, undef) :: s) J) : RW P N D ops Q (⟨some d, op, ty, pos, af, some (j, want)⟩ :: rest) f s J :=
  RW.g (v := undef) hd hy hb (fun h => by cases want <;> cases h) (by rw [gv_neg (by cases want <;> simp)]; exact k)
theorem q_eqlT {k : IntKind} {a b : Int} (hx : ev (fr f s) x = .int k a) (hy : ev (fr f s) y = .int k b) (h : a = b) : Qt P J f s ⟨dst, .binOp .eql t x y t', ty, pos, af, g⟩ (.bool true) := q_as (q_eql hx hy) (congrArg _ (decide_eq_true h))
theorem q_eqlF {k : IntKind} {a b : Int} (hx : ev (fr f s) x = .int k a) (hy : ev (fr f s) y = .int k b) (h : a ≠ b) : Qt P J f s ⟨dst, .binOp .eql t x y t', ty, pos, af, g⟩ (.bool false) := q_as (q_eql hx hy) (congrArg _ (decide_eq_false h))
theorem q_neqT {k : IntKind} {a b : Int} (hx : ev (fr f s) x = .int k a) (hy : ev (fr f s) y = .int k b) (h : a ≠ b) : Qt P J f s ⟨dst, .binOp .neq t x y t', ty, pos, af, g⟩ (.bool true) := q_as (q_neq hx hy) (congrArg _ (by rw [decide_eq_false h]; rfl))
theorem q_neqF {k : IntKind} {a b : Int} (hx : ev (fr f s) x = .int k a) (hy : ev (fr f s) y = .int k b) (h : a = b) : Qt P J f s ⟨dst, .binOp .neq t x y t', ty, pos, af, g⟩ (.bool false) := q_as (q_neq hx hy) (congrArg _ (by rw [decide_eq_true h]; rfl))
theorem q_strT {l r : List UInt8} (hx : ev (fr f s) x = .string (bs l)) (hy : ev (fr f s) y = .string (bs r)) (h : l = r) : Qt P J f s ⟨dst, .binOp .eql t x y t', ty, pos, af, g⟩ (.bool true) := q_as (q_eqlStr hx hy) (congrArg _ (decide_eq_true h))
theorem q_strF {l r : List UInt8} (hx : ev (fr f s) x = .string (bs l)) (hy : ev (fr f s) y = .string (bs r)) (h : l ≠ r) : Qt P J f s ⟨dst, .binOp .eql t x y t', ty, pos, af, g⟩ (.bool false) := q_as (q_eqlStr hx hy) (congrArg _ (decide_eq_false h))
end
theorem RW.gun {P : Program} {N : Nat} {D : List Deferred} {ops : Array Oper} {Q : Exit → Act → World → Prop} {f : Nat → Value} {s : List (Nat × Value)} {J : Cls} {d j gd : Nat} {want : Bool} {op : Op} {ty : TypeId} {pos : String} {af : Array Edge} {rest : List Oper}
    (hd : Nat.blt d N = true) (hy : (ops[j]?).bind (·.dst) = some gd) (hb : fr f s gd = undef) (k : RW P N D ops Q rest f ((d, undef) :: s) J) :
    RW P N D ops Q (⟨some d, op, ty, pos, af, some (j, want)⟩ :: rest) f s J := fun a w ha hw => by
  have hyy := yielded_undef (ops := ops) ha hy hb
  refine wpList_step fun K hK => ?_
  rw [if_neg (by simp [Region.wanted, hyy])]
  exact hK _ _ (k _ w (ha.put hd _) hw)
theorem t2 {A B : Prop} (k : B) (h : Kt B → A := by
  intro k
  first
  | apply RW.q
    exact rfl
    first
    | apply q_pkT
      exact rfl
      exact rfl
    | apply q_pkF
      exact rfl
      exact rfl
    | apply q_lenS
      exact rfl
      assumption
    exact k.r
  | apply RW.gs
    exact rfl
    exact rfl
    exact rfl
    exact k.r
  | apply RW.gl
    exact rfl
    exact rfl
    exact rfl
    first
    | apply q_pkT
      exact rfl
      exact rfl
    | apply q_pkF
      exact rfl
      exact rfl
    | apply q_eqlStr
      exact rfl
      exact rfl
    exact k.r
  | apply RW.gun
    exact rfl
    exact rfl
    exact rfl
    exact k.r
  | apply AW.condT
    exact rfl
    exact k.r
  | apply AW.condF
    exact rfl
    exact k.r) : A := h ⟨k⟩
theorem t3 {A B : Prop} (k : B) (h : Kt B → A := by
  intro k
  first
  | apply RW.q
    exact rfl
    first
    | apply q_eqlT
      exact rfl
      exact rfl
      omega
    | apply q_eqlF
      exact rfl
      exact rfl
      omega
    | apply q_neqT
      exact rfl
      exact rfl
      omega
    | apply q_neqF
      exact rfl
      exact rfl
      omega
    | apply q_strT
      exact rfl
      exact rfl
      assumption
    | apply q_strF
      exact rfl
      exact rfl
      assumption
    exact k.r
  | apply RW.gl
    exact rfl
    exact rfl
    exact rfl
    first
    | apply q_eqlT
      exact rfl
      exact rfl
      omega
    | apply q_eqlF
      exact rfl
      exact rfl
      omega
    | apply q_neqT
      exact rfl
      exact rfl
      omega
    | apply q_neqF
      exact rfl
      exact rfl
      omega
    | apply q_strT
      exact rfl
      exact rfl
      assumption
    | apply q_strF
      exact rfl
      exact rfl
      assumption
    exact k.r) : A := h ⟨k⟩
attribute [local irreducible] AW RW DW Post Qt
abbrev ndA (x : Bt.Node) (kv : Value) : Value := .agg (ndC x kv).toArray
theorem drop_at {α : Type} [Inhabited α] {xs : List α} {i : Nat} (h : i < xs.length) : xs.drop i = xs.getD i default :: xs.drop (i + 1) := by
  rw [List.drop_eq_getElem_cons h, gDD, List.getElem?_eq_getElem h]; rfl
theorem mem_at {α : Type} [Inhabited α] {xs : List α} {i : Nat} (h : i < xs.length) : xs.getD i default ∈ xs := by
  rw [gDD, List.getElem?_eq_getElem h]; exact List.getElem_mem h
theorem take_at {α : Type} [Inhabited α] {xs : List α} {i : Nat} (h : i < xs.length) : xs.take (i + 1) = xs.take i ++ [xs.getD i default] := by
  rw [List.take_add_one, gDD, List.getElem?_eq_getElem h]; rfl
theorem words_c (w : World) (Φ : Hp) (hΦ : Hp.le Φ (hp w)) {x : Bt.Node} {kv : Value} (hk : RepSl Φ x.Kids kv) : Calls pg 98 #[ndA x kv] w (RetS Φ w fun r Ψ => ∃ v1 v2, r = .tuple #[v1, v2] ∧ RepSl Ψ (Bc.wordsOf x) v1 ∧ RepSl Ψ (Bc.propsOf x) v2) := by
  have hkm : x.Kids.length * 72 ≤ 140737488355328 := hk.max
  obtain ⟨A, c, rfl, _⟩ := hk.sl
  refine in1 27 Tryz.func98 rfl rfl hΦ ?_
  repeat refine g1 ?_
  refine RW.bxA rfl rfl fun b1 => ?_
  repeat refine g1 ?_
  refine AW.wk (J' := St ⟨w, Φ, []⟩ Φ [.row (.slice none 0 0) 40 6 0 [], .row (.slice none 0 0) 40 6 0 [], .blk b1 40 (ndC x (.slice A x.Kids.length c))]) (fun _ h => addNil (addNil h)) ?_
  refine AW.lp (fun s J m => ∃ (i : Nat) (c1 c2 : List Value) (v1 v2 : Value), s = [(9, .int .i64 (i : Int)), (8, .int .i64 ((x.Kids.length : Nat) : Int)), (7, .slice A x.Kids.length c), (3, v2), (2, v1)] ∧ J = St ⟨w, Φ, []⟩ Φ [.row v1 40 6 ((x.Kids.take i).filter fun k => !decide (k.Kind = 2)).length c1, .row v2 40 6 ((x.Kids.take i).filter fun k => decide (k.Kind = 2)).length c2] ∧ m = x.Kids.length - i ∧ i ≤ x.Kids.length ∧ RepC Φ ((x.Kids.take i).filter fun k => !decide (k.Kind = 2)) c1 ∧ RepC Φ ((x.Kids.take i).filter fun k => decide (k.Kind = 2)) c2 ∧ IsSl v1 ((x.Kids.take i).filter fun k => !decide (k.Kind = 2)).length ∧ IsSl v2 ((x.Kids.take i).filter fun k => decide (k.Kind = 2)).length) ⟨0, [], [], _, _, rfl, rfl, rfl, Nat.zero_le _, RepC.nil, RepC.nil, isSl_nil, isSl_nil⟩ ?_
  rintro _ _ _ _ ⟨i, c1, c2, v1, v2, rfl, rfl, rfl, hi, hr1, hr2, hs1, hs2⟩
  have hl1 := List.length_filter_le (fun k : Bt.Node => !decide (k.Kind = 2)) (x.Kids.take i)
  have hl2 := List.length_filter_le (fun k : Bt.Node => decide (k.Kind = 2)) (x.Kids.take i)
  have hl3 : (x.Kids.take i).length ≤ i := List.length_take_le ..
  repeat refine g1 ?_
  refine AW.cond rfl (fun h => ?_) fun h => ?_
  · have h : i < x.Kids.length := by simpa using h
    repeat refine g1 ?_
    refine RW.nd hk h rfl rfl rfl rfl fun kv q hkv hwk => ?_
    repeat refine g1 ?_
    have ht := take_at h
    generalize hn : x.Kids.getD i default = n at *
    refine AW.cond rfl (fun h2 => ?_) fun h2 => ?_
    · have h2 : n.Kind = 2 := by simpa using h2
      have e1 : (x.Kids.take (i + 1)).filter (fun k => !decide (k.Kind = 2)) = (x.Kids.take i).filter (fun k => !decide (k.Kind = 2)) := by rw [ht, List.filter_append]; simp [h2]
      have e2 : (x.Kids.take (i + 1)).filter (fun k => decide (k.Kind = 2)) = (x.Kids.take i).filter (fun k => decide (k.Kind = 2)) ++ [n] := by rw [ht, List.filter_append]; simp [h2]
      repeat refine g1 ?_
      refine RW.ap1 (cs := ndC n kv) 2 rfl Tryz.underlying38 inf40 rfl rfl rfl rfl rfl rfl rfl (by kernel_rfl) rfl (ndC_one hkv.sl) (by omega) (by omega) fun va w2 hva => ?_
      repeat refine g1 ?_
      refine Post.bk ⟨i + 1, c1, _, v1, va, rfl, rfl, rfl, h, by rw [e1]; exact hr1, by rw [e2]; exact hr2.snoc (NdV.rep hwk hkv), by rw [e1]; exact hs1, by rw [e2, List.length_append]; exact hva⟩ (by omega) ?_ ?_
      · exact ⟨rfl, rfl, rfl, rfl, rfl, trivial⟩
      · rw [e1, e2, List.length_append]
        exact fun _ h => StP.drop h (.cons _ (List.Sublist.refl _))
    · have h2 : n.Kind ≠ 2 := by simpa using h2
      have e1 : (x.Kids.take (i + 1)).filter (fun k => !decide (k.Kind = 2)) = (x.Kids.take i).filter (fun k => !decide (k.Kind = 2)) ++ [n] := by rw [ht, List.filter_append]; simp [h2]
      have e2 : (x.Kids.take (i + 1)).filter (fun k => decide (k.Kind = 2)) = (x.Kids.take i).filter (fun k => decide (k.Kind = 2)) := by rw [ht, List.filter_append]; simp [h2]
      repeat refine g1 ?_
      refine RW.ap1 (cs := ndC n kv) 1 rfl Tryz.underlying38 inf40 rfl rfl rfl rfl rfl rfl rfl (by kernel_rfl) rfl (ndC_one hkv.sl) (by omega) (by omega) fun va w2 hva => ?_
      repeat refine g1 ?_
      refine Post.bk ⟨i + 1, _, c2, va, v2, rfl, rfl, rfl, h, by rw [e1]; exact hr1.snoc (NdV.rep hwk hkv), by rw [e2]; exact hr2, by rw [e1, List.length_append]; exact hva, by rw [e2]; exact hs2⟩ (by omega) ?_ ?_
      · exact ⟨rfl, rfl, rfl, rfl, rfl, trivial⟩
      · rw [e1, e2, List.length_append]
        exact fun _ h => StP.drop h (.cons _ (List.Sublist.refl _))
  · have h : i = x.Kids.length := by have := odF h; omega
    subst h
    rw [List.take_length] at *
    repeat refine g1 ?_
    refine fin_rep2 rfl rfl rfl rfl fun w' hw => ⟨_, _, rfl, ?_, ?_⟩
    · exact RowS.repC (T := 40) (row_ext hw 0 rfl) (hr1.mono hw.phi_ext) rfl (by show _ * 72 ≤ _; simp only [maxSl]; omega)
    · exact RowS.repC (T := 40) (row_ext hw 1 rfl) (hr2.mono hw.phi_ext) rfl (by show _ * 72 ≤ _; simp only [maxSl]; omega)
theorem bword_c (w : World) (Φ : Hp) (hΦ : Hp.le Φ (hp w)) {x : Bt.Node} {kv : Value} (hk : RepSl Φ x.Kids kv) (hw1 : 0 < (Bc.wordsOf x).length) : Calls pg 96 #[ndA x kv] w (RetS Φ w fun r Ψ => ∃ wv, r = ndA (Bc.word x) wv ∧ wfN (Bc.word x) ∧ RepSl Ψ (Bc.word x).Kids wv) := by
  refine in1 13 Tryz.func96 rfl rfl hΦ ?_
  repeat refine g1 ?_
  refine RW.bxA rfl rfl fun b1 => ?_
  refine RW.alc rfl fun b2 => ?_
  repeat refine g1 ?_
  refine RW.cS rfl (fun w1 hw1 => words_c w1 Φ hw1.phi hk) rfl rfl ?_
  rintro _ Ψ ⟨v1, v2, rfl, h1, h2⟩ hl
  repeat refine g1 ?_
  obtain ⟨wv, k1, k2, k3⟩ := nd_at h1 hw1
  refine RW.q rfl (qa_ixL (i := 0) rfl rfl h1.sl hw1) ?_
  refine RW.q (v := ndA (Bc.word x) wv) rfl (qa_ldA rfl (Cells.phiK (n := 0 * 6) k3) rfl) ?_
  refine RW.stA 0 rfl rfl rfl (ndC_one k1.sl) rfl rfl ?_
  repeat refine g1 ?_
  exact fin_res (vs := [ndA (Bc.word x) wv]) rfl rfl ⟨.agg rfl rfl (Cells.blk 0 rfl), trivial⟩ rfl (fun w' hw => ⟨_, rfl, hw.below rfl, wv, rfl, k2, k1.mono hw.phi_ext⟩)
theorem values_c (w : World) (Φ : Hp) (hΦ : Hp.le Φ (hp w)) {x : Bt.Node} {kv : Value} (hk : RepSl Φ x.Kids kv) {n : List UInt8} : Calls pg 104 #[ndA x kv, .string (bs n)] w fun e w' => ∃ v, e = .returned (.tuple #[v, .bool (Bc.vals x n).isSome]) ∧ RepSl Φ (Bc.valsD x n) v ∧ Bel w.heap.size w w' := by
  have hkm : x.Kids.length * 72 ≤ 140737488355328 := hk.max
  obtain ⟨A, c, rfl, _⟩ := hk.sl
  refine in2 27 Tryz.func104 rfl rfl hΦ ?_
  repeat refine g1 ?_
  refine RW.bxA rfl rfl fun b1 => ?_
  repeat refine g1 ?_
  refine AW.lp (fun s J m => ∃ (i : Nat), s = [(11, .int .i64 (i : Int)), (10, .int .i64 ((x.Kids.length : Nat) : Int)), (9, .slice A x.Kids.length c), (1, .string (bs n))] ∧ J = St ⟨w, Φ, []⟩ Φ [] ∧ m = x.Kids.length - i ∧ i ≤ x.Kids.length ∧ Bc.vals x n = Bc.valsL n (x.Kids.drop i)) ⟨0, rfl, rfl, rfl, Nat.zero_le _, rfl⟩ ?_
  rintro _ _ _ _ ⟨i, rfl, rfl, rfl, hi, hv⟩
  repeat refine g1 ?_
  refine AW.cond rfl (fun h => ?_) fun h => ?_
  · have h : i < x.Kids.length := by simpa using h
    repeat refine g1 ?_
    refine RW.nd hk h rfl rfl rfl rfl fun kv q hkv hwk => ?_
    rw [drop_at h] at hv
    generalize hn : x.Kids.getD i default = d at *
    repeat refine g1 ?_
    refine RW.g rfl rfl rfl (fun h => q_eqlStr (l := d.Text) (r := n) (gv_pos h) (gv_pos h)) ?_
    repeat refine g1 ?_
    refine RW.pkA rfl rfl rfl rfl fun q hq => ?_
    repeat refine g1 ?_
    refine AW.cond rfl (fun h2 => ?_) fun h2 => ?_
    · have h3 : d.Kind = 2 ∧ d.Text = n := by rw [h2] at hq; simpa using hq
      rw [Bc.valsL, if_pos h3] at hv
      repeat refine g1 ?_
      exact fin_out2 rfl rfl rfl rfl fun w' hw => ⟨kv, by rw [hv]; rfl, by rw [Bc.valsD, hv]; exact hkv, hw.below rfl⟩
    · have h3 : ¬ (d.Kind = 2 ∧ d.Text = n) := by rw [h2] at hq; simpa using hq
      rw [Bc.valsL, if_neg h3] at hv
      repeat refine g1 ?_
      exact Post.bk ⟨i + 1, rfl, rfl, rfl, h, hv⟩
  · have h : i = x.Kids.length := by have := odF h; omega
    rw [h, List.drop_length] at hv
    repeat refine g1 ?_
    exact fin_out2 rfl rfl rfl rfl fun w' hw => ⟨.slice none 0 0, by rw [hv]; rfl, by rw [Bc.valsD, hv]; exact repSl_nil, hw.below rfl⟩
abbrev valK (x : Bt.Node) (kv : Value) (n : List UInt8) : Value := .tuple #[kv, .bool (Bc.vals x n).isSome]
theorem RW.vals {N : Nat} {D : List Deferred} {ops : Array Oper} {Q : Exit → Act → World → Prop} {Pn : List PanicEntry → World → Prop} [hQ : PanQ D Q Pn] {f : Nat → Value} {s : List (Nat × Value)} {B : Bs} {Φ : Hp} {C : List Chunk} {rest : List Oper} {d : Nat} {y z : Operand} {ty : TypeId} {pos : String} {af : Array Edge} {ts : Array TypeId} {x : Bt.Node} {kv : Value} {n : List UInt8} (hk : RepSl Φ x.Kids kv) (hd : Nat.blt d N = true) (hy : ev (fr f s) y = ndA x kv) (hz : ev (fr f s) z = .string (bs n))
    (kk : ∀ v, RepSl Φ (Bc.valsD x n) v → RW pg N D ops Q rest f ((d, valK x v n) :: s) (St B Φ C)) : RW pg N D ops Q (⟨some d, .call { callee := .value (.func 104), args := #[y, z], argTypes := ts }, ty, pos, af, none⟩ :: rest) f s (St B Φ C) :=
  RW.cT (V := fun v => valK x v n) (T := fun v => RepSl Φ (Bc.valsD x n) v) (args := #[ndA x kv, .string (bs n)]) hd (fun w1 hw1 => (values_c w1 Φ hw1.phi hk).mono fun e w2 ⟨v, h1, h2, h3⟩ => ⟨v, h1, h2, h3⟩) rfl (by simp [hy, hz]) kk
theorem bnum_c (w : World) (Φ : Hp) (hΦ : Hp.le Φ (hp w)) {x : Bt.Node} {kv : Value} (hk : RepSl Φ x.Kids kv) {n : List UInt8} {i : Nat} (_ : i ≤ 16) : Calls pg 102 #[ndA x kv, .string (bs n), .int .i64 (i : Int)] w fun e w' => e = .returned (.int .i64 (Bc.num x n i)) ∧ Bel w.heap.size w w' := by
  refine in3 25 Tryz.func102 rfl rfl hΦ ?_
  repeat refine g1 ?_
  refine RW.bxA rfl rfl fun b1 => ?_
  repeat refine g1 ?_
  refine RW.vals hk rfl rfl rfl fun v hv => ?_
  repeat refine g1 ?_
  refine AW.cond rfl (fun h => ?_) fun h => ?_
  · repeat refine g1 ?_
    refine fin_val rfl rfl rfl (congrArg (Value.int .i64) ?_)
    have h : (Bc.valsD x n).length ≤ i := by simpa using h
    rw [Bc.num, gDD, List.getElem?_eq_none h]; rfl
  · have h : i < (Bc.valsD x n).length := by have := odF h; omega
    obtain ⟨wv, k1, k2, k3⟩ := nd_at hv h
    repeat refine g1 ?_
    refine RW.q rfl (qa_ixN (v := v) rfl rfl hv.sl h) ?_
    repeat refine g1 ?_
    refine RW.q rfl (qa_ld rfl (Cell.phi (k3 2 _ rfl))) ?_
    repeat refine g1 ?_
    exact fin_val rfl rfl rfl rfl
theorem btext_c (w : World) (Φ : Hp) (hΦ : Hp.le Φ (hp w)) {x : Bt.Node} {kv : Value} (hk : RepSl Φ x.Kids kv) {n : List UInt8} : Calls pg 107 #[ndA x kv, .string (bs n)] w fun e w' => e = .returned (.string (bs (Bc.text x n))) ∧ Bel w.heap.size w w' := by
  refine in2 20 Tryz.func107 rfl rfl hΦ ?_
  repeat refine g1 ?_
  refine RW.bxA rfl rfl fun b1 => ?_
  repeat refine g1 ?_
  refine RW.vals hk rfl rfl rfl fun v hv => ?_
  repeat refine g1 ?_
  refine AW.cond rfl (fun h => ?_) fun h => ?_
  · have h : Bc.valsD x n = [] := by simpa using h
    repeat refine g1 ?_
    exact fin_val rfl rfl rfl (by rw [Bc.text, h]; rfl)
  · have h : 0 < (Bc.valsD x n).length := by have := odF h; omega
    obtain ⟨wv, k1, k2, k3⟩ := nd_at hv h
    repeat refine g1 ?_
    refine RW.q rfl (qa_ixL (v := v) (i := 0) rfl rfl hv.sl h) ?_
    repeat refine g1 ?_
    refine RW.q rfl (qa_ld rfl (Cell.phi (k3 1 _ rfl))) ?_
    repeat refine g1 ?_
    exact fin_val rfl rfl rfl rfl
theorem bnums_c (w : World) (Φ : Hp) (hΦ : Hp.le Φ (hp w)) {x : Bt.Node} {kv : Value} (hk : RepSl Φ x.Kids kv) {n : List UInt8} : Calls pg 103 #[ndA x kv, .string (bs n)] w (RetS Φ w fun r Ψ => RepSl Ψ (Bc.nums x n) r) := by
  refine in2 30 Tryz.func103 rfl rfl hΦ ?_
  repeat refine g1 ?_
  refine RW.bxA rfl rfl fun b1 => ?_
  repeat refine g1 ?_
  refine RW.vals hk rfl rfl rfl fun v hv => ?_
  have hvm : (Bc.valsD x n).length * 72 ≤ 140737488355328 := hv.max
  generalize hxs : Bc.valsD x n = xs at *
  obtain ⟨A, c, rfl, _⟩ := hv.sl
  repeat refine g1 ?_
  refine AW.wk (J' := St ⟨w, Φ, []⟩ Φ [.row (.slice none 0 0) 3 1 0 []]) (fun _ h => (addNil h).drop (.cons_cons _ (List.nil_sublist _))) ?_
  refine AW.lp (fun s J m => ∃ (i : Nat) (v1 : Value), s = [(18, .int .i64 (i : Int)), (17, .int .i64 ((xs.length : Nat) : Int)), (16, .slice A xs.length c), (5, v1)] ∧ J = St ⟨w, Φ, []⟩ Φ [.row v1 3 1 i (((xs.take i).map (·.N)).map (Value.int .i64))] ∧ m = xs.length - i ∧ i ≤ xs.length ∧ (∀ y ∈ xs.take i, I64 y.N) ∧ IsSl v1 i) ⟨0, _, rfl, rfl, rfl, Nat.zero_le _, (fun y hy => by cases hy), isSl_nil⟩ ?_
  rintro _ _ _ _ ⟨i, v1, rfl, rfl, rfl, hi, hr1, hs1⟩
  repeat refine g1 ?_
  refine AW.cond rfl (fun h => ?_) fun h => ?_
  · have h : i < xs.length := by simpa using h
    repeat refine g1 ?_
    refine RW.nd hv h rfl rfl rfl rfl fun kv q hkv hwk => ?_
    have ht := take_at h
    generalize hn : xs.getD i default = n at *
    repeat refine g1 ?_
    refine RW.ap1 (cs := [.int .i64 n.N]) 1 rfl Tryz.underlying29 inf3 rfl rfl rfl rfl rfl rfl rfl (by kernel_rfl) rfl rfl (by omega) (by omega) fun va w2 hva => ?_
    repeat refine g1 ?_
    refine Post.bk ⟨i + 1, va, rfl, rfl, rfl, h, ?_, hva⟩ (by omega) ⟨rfl, rfl, rfl, rfl, trivial⟩ (fun _ h => ?_)
    · rw [ht]; intro y hy; rcases List.mem_append.1 hy with hy | hy
      · exact hr1 y hy
      · rw [List.mem_singleton.1 hy]; exact hwk.2.2.1
    · rw [ht, List.map_append, List.map_append]; exact StP.drop h (.cons _ (List.Sublist.refl _))
  · have h : i = xs.length := by have := odF h; omega
    subst h
    rw [List.take_length] at *
    repeat refine g1 ?_
    refine fin_rep rfl rfl rfl fun w' hw => ?_
    rw [Bc.nums, hxs]
    exact RowS.ints (T := 3) (n := xs.length) (row_ext hw 0 rfl) (by simp only [maxSl]; omega) (fun y hy => by obtain ⟨z, hz, rfl⟩ := List.mem_map.1 hy; exact hr1 z hz)
theorem bpoints_c (w : World) (Φ : Hp) (hΦ : Hp.le Φ (hp w)) {x : Bt.Node} {kv : Value} (hk : RepSl Φ x.Kids kv) {n : List UInt8} (hg : ∀ y ∈ Bc.valsD x n, y.Kids.length = 2) : Calls pg 135 #[ndA x kv, .string (bs n)] w (RetS Φ w fun r Ψ => RepSl Ψ (Bc.points x n) r) := by
  refine in2 40 Tryz.func135 rfl rfl hΦ ?_
  repeat refine g1 ?_
  refine RW.bxA rfl rfl fun b1 => ?_
  repeat refine g1 ?_
  refine RW.vals hk rfl rfl rfl fun v hv => ?_
  have hvm : (Bc.valsD x n).length * 72 ≤ 140737488355328 := hv.max
  rw [show Bc.points x n = (Bc.valsD x n).map fun k => ⟨(Bc.pair k).1, (Bc.pair k).2⟩ from rfl]
  generalize Bc.valsD x n = xs at *
  obtain ⟨A, c, rfl, _⟩ := hv.sl
  repeat refine g1 ?_
  refine AW.wk (J' := St ⟨w, Φ, []⟩ Φ [.row (.slice none 0 0) 75 2 0 []]) (fun _ h => (addNil h).drop (.cons_cons _ (List.nil_sublist _))) ?_
  refine AW.lp (fun s J m => ∃ (i : Nat) (v1 : Value), s = [(18, .int .i64 (i : Int)), (17, .int .i64 ((xs.length : Nat) : Int)), (16, .slice A xs.length c), (5, v1)] ∧ J = St ⟨w, Φ, []⟩ Φ [.row v1 75 2 i (flat ((xs.take i).map fun k => (⟨(Bc.pair k).1, (Bc.pair k).2⟩ : Bt.Point)))] ∧ m = xs.length - i ∧ i ≤ xs.length ∧ (∀ y ∈ xs.take i, I64 (Bc.pair y).1 ∧ I64 (Bc.pair y).2) ∧ IsSl v1 i) ⟨0, _, rfl, rfl, rfl, Nat.zero_le _, (fun y hy => by cases hy), isSl_nil⟩ ?_
  rintro _ _ _ _ ⟨i, v1, rfl, rfl, rfl, hi, hr1, hs1⟩
  repeat refine g1 ?_
  refine AW.cond rfl (fun h => ?_) fun h => ?_
  · have h : i < xs.length := by simpa using h
    repeat refine g1 ?_
    refine RW.nd hv h rfl rfl rfl rfl fun kv q hkv hwk => ?_
    have ht := take_at h
    have hl2 := hg _ (mem_at h)
    generalize hn : xs.getD i default = n at *
    obtain ⟨k0, l1, l2, l3⟩ := nd_at hkv (i := 0) (by omega)
    obtain ⟨k1, m1, m2, m3⟩ := nd_at hkv (i := 1) (by omega)
    repeat refine g1 ?_
    refine AW.draw (J0 := St ⟨w, Φ, []⟩ Φ [.blk q 40 (ndC n kv)]) [.q, .q, .q, .q, .q, .q, .q, .q, .q, .q, .q, .q, .q, .q, .e, .e, .q] [0, 1, 2, 3, 4, 5, 6, 7, 8, 9, 10, 11, 12, 13, 14, 15, 16] hmix (by kernel_rfl) ?_
    repeat refine g1 ?_
    refine DW.q (fun _ h => St.one 0 rfl h) rfl (qa_ixL (v := kv) (i := 0) rfl rfl hkv.sl (by omega)) ?_
    repeat refine g1 ?_
    refine DW.q (fun _ h => St.one 0 rfl h) rfl (qa_ld rfl (Cell.phi (l3 2 _ rfl))) ?_
    repeat refine g1 ?_
    refine DW.q (fun _ h => St.one 0 rfl h) rfl (qa_ixL (v := kv) (i := 1) rfl rfl hkv.sl (by omega)) ?_
    repeat refine g1 ?_
    refine DW.q (fun _ h => St.one 0 rfl h) rfl (qa_ld rfl (Cell.phi (m3 2 _ rfl))) ?_
    repeat refine g1 ?_
    refine DW.q (v := .agg #[.int .i64 (Bc.pair n).1, .int .i64 (Bc.pair n).2]) (fun _ h => St.one 0 rfl h) rfl (q_build (vals := [(0, .int .i64 (Bc.pair n).1), (1, .int .i64 (Bc.pair n).2)]) zero75 Tryz.underlying75 places75 rfl rfl) ?_
    refine DW.eff _ _ (fun _ _ _ h => St.one 1 rfl h) rfl (e_buildSlice (vals := [(0, .agg #[.int .i64 (Bc.pair n).1, .int .i64 (Bc.pair n).2])]) (cells := [.int .i64 (Bc.pair n).1, .int .i64 (Bc.pair n).2]) Tryz.underlying55 inf75 rfl rfl rfl (by kernel_rfl) rfl) fun b6 => ?_
    refine DW.eff (fun xv : {vq : Value // IsSl vq (i + 1)} => xv.1) (fun xv => St ⟨w, Φ, []⟩ Φ [.row (.slice (some ⟨b6, 0, none⟩) 1 1) 75 2 1 [.int .i64 (Bc.pair n).1, .int .i64 (Bc.pair n).2], .blk q 40 (ndC n kv), .row xv.1 75 2 (i + 1) (flat ((xs.take i).map fun k => (⟨(Bc.pair k).1, (Bc.pair k).2⟩ : Bt.Point)) ++ [.int .i64 (Bc.pair n).1, .int .i64 (Bc.pair n).2])]) (fun _ _ _ h => St.one 1 rfl h) rfl (e_append 2 rfl rfl rfl Tryz.underlying55 inf75 rfl rfl rfl (Cells.row0 0 rfl) rfl (by omega) (by omega) (fun _ => rfl)) ?_
    rintro ⟨va, hva⟩
    repeat refine g1 ?_
    refine Post.bk ⟨i + 1, va, rfl, rfl, rfl, h, ?_, hva⟩ (by omega) ⟨rfl, rfl, rfl, rfl, trivial⟩ (fun _ h => ?_)
    · rw [ht]; intro y hy; rcases List.mem_append.1 hy with hy | hy
      · exact hr1 y hy
      · rw [List.mem_singleton.1 hy]; exact ⟨l2.2.2.1, m2.2.2.1⟩
    · rw [ht, List.map_append, flat_append]; exact StP.drop h (.cons _ (.cons _ (List.Sublist.refl _)))
  · have h : i = xs.length := by have := odF h; omega
    subst h
    rw [List.take_length] at *
    repeat refine g1 ?_
    refine fin_rep rfl rfl rfl fun w' hw => ?_
    exact RowS.repE (T := 75) (n := xs.length) even75 (row_ext hw 0 rfl) (List.length_map ..) (by show _ * 16 ≤ _; simp only [maxSl]; omega) (fun y hy => by obtain ⟨z, hz, rfl⟩ := List.mem_map.1 hy; exact hr1 z hz)
/-! ### examined -/
theorem oneWord_c (w : World) (Φ : Hp) (hΦ : Hp.le Φ (hp w)) {x : Bt.Node} {kv : Value} (hk : RepSl Φ x.Kids kv) : Calls pg 92 #[ndA x kv] w fun e w' => e = .returned (.bool (Bc.oneWord x)) ∧ Bel w.heap.size w w' := by
  refine in1 25 Tryz.func92 rfl rfl hΦ ?_
  repeat refine g1 ?_
  refine RW.bxA rfl rfl fun b1 => ?_
  repeat refine g1 ?_
  refine RW.cS rfl (fun w1 hw1 => words_c w1 Φ hw1.phi hk) rfl rfl ?_
  rintro _ Ψ ⟨v1, v2, rfl, h1, h2⟩ hl
  repeat first | refine g1 ?_ | refine t1 ?_
  have hl1 : ∀ k : Int, (decide ((((Bc.wordsOf x).length : Nat) : Int) = 1) && decide (((Bc.wordsOf x).getD 0 default).Kind = k)) = (decide ((Bc.wordsOf x).length = 1) && decide ((Bc.word x).Kind = k)) := fun k => congrArg (· && _) (decide_eq_decide.2 (by omega))
  refine AW.cond rfl (fun h => ?_) fun h => ?_
  all_goals
    simp only [decide_eq_true_eq, decide_eq_false_iff_not] at h
    repeat refine g1 ?_
    refine RW.g rfl rfl rfl (fun h => qa_ixL (v := v1) (i := 0) (gv_pos h) rfl h1.sl (by have := odT h; omega)) ?_
    repeat refine g1 ?_
    refine RW.g (v := .int .i64 ((Bc.wordsOf x).getD 0 default).Kind) rfl rfl rfl (fun h => by
      obtain ⟨_, _, _, k3⟩ := nd_at h1 (i := 0) (by have := odT h; omega)
      exact qa_ld (gv_pos h) (Cell.phi (k3 0 _ rfl))) ?_
    repeat refine g1 ?_
    refine RW.pkA rfl rfl rfl rfl fun q hq => ?_
    repeat refine g1 ?_
    exact fin_val rfl rfl rfl (congrArg Value.bool (by rw [← hq, hl1, Bc.oneWord]; simp [h]))
abbrev prA (p : Bc.Prp) (v : Value) : Value := .agg #[.string p.name, v, .bool p.many, .bool p.missing]
theorem pvalue_c (w : World) (Φ : Hp) (hΦ : Hp.le Φ (hp w)) {p : Bc.Prp} {v : Value} (hp : RepSl Φ p.values v) {i : Nat} (h1 : p.many = true → 0 < p.values.length) (h2 : p.many = false → i < p.values.length) : Calls pg 101 #[prA p v, .int .i64 (i : Int)] w fun e w' => e = .returned (.string (bs (Bc.val p i))) ∧ Bel w.heap.size w w' := by
  refine in2 16 Tryz.func101 rfl rfl hΦ ?_
  repeat refine g1 ?_
  refine RW.bxA rfl rfl fun b1 => ?_
  repeat refine g1 ?_
  refine AW.cond rfl (fun h => ?_) fun h => ?_
  · obtain ⟨k1, k2⟩ := hp.strAt (h1 h)
    repeat refine g1 ?_
    refine RW.q rfl (qa_ixL (v := v) (i := 0) rfl rfl hp.sl (h1 h)) ?_
    refine RW.q rfl (qa_ld rfl (Cell.phi k2)) ?_
    repeat refine g1 ?_
    exact fin_val rfl rfl rfl (congrArg Value.string (by rw [Bc.val, if_pos h, bs_data]; rfl))
  · obtain ⟨k1, k2⟩ := hp.strAt (h2 h)
    repeat refine g1 ?_
    refine RW.q rfl (qa_ixN (v := v) rfl rfl hp.sl (h2 h)) ?_
    refine RW.q rfl (qa_ld rfl (Cell.phi k2)) ?_
    repeat refine g1 ?_
    exact fin_val rfl rfl rfl (congrArg Value.string (by rw [Bc.val, if_neg (by rw [h]; simp), bs_data]; rfl))
theorem fitsOne_c (w : World) (Φ : Hp) (hΦ : Hp.le Φ (hp w)) {x : Bt.Node} {kv : Value} (hk : RepSl Φ x.Kids kv) {l : List UInt8} (hl : 0 < l.length) (_ : l.length ≤ maxLen) : Calls pg 167 #[ndA x kv, .string (bs l)] w fun e w' => e = .returned (.bool (Bc.fitsOne x l)) ∧ Bel w.heap.size w w' := by
  refine in2 48 Tryz.func167 rfl rfl hΦ ?_
  repeat refine g1 ?_
  refine RW.bxA rfl rfl fun b1 => ?_
  repeat refine g1 ?_
  refine RW.q rfl (q_lenS (l := l) rfl Tryz.underlying9) ?_
  repeat refine g1 ?_
  refine AW.cond rfl (fun h => ?_) fun h => ?_
  · have h : l.length = 2 := by have := odT h; omega
    repeat refine g1 ?_
    refine RW.g rfl rfl rfl (fun h => qa_len (gv_pos h) hk.sl) ?_
    repeat refine g1 ?_
    refine RW.pkA rfl rfl rfl rfl fun q hq => ?_
    have hq2 : q = true → x.Kids.length = 2 := fun e => by rw [e] at hq; simp at hq; omega
    have rd : ∀ i : Nat, q = true → i < 2 → Cell (St ⟨w, Φ, []⟩ Φ [.blk b1 40 (ndC x kv)]) (Value.at kv (i * 6 + 0)) (.int .i64 (x.Kids.getD i default).Kind) := fun i e hi => by
      obtain ⟨_, _, _, k3⟩ := nd_at hk (i := i) (by rw [hq2 e]; exact hi)
      exact Cell.phi (k3 0 _ rfl)
    repeat refine g1 ?_
    refine RW.g rfl rfl rfl (fun h => qa_ixL (v := kv) (i := 0) (gv_pos h) rfl hk.sl (by have := hq2 h; omega)) ?_
    repeat refine g1 ?_
    refine RW.g rfl rfl rfl (fun h => qa_ld (gv_pos h) (rd 0 h (by omega))) ?_
    repeat refine g1 ?_
    refine RW.pkA rfl rfl rfl rfl fun q2 hr => ?_
    have hr2 : q2 = true → q = true := fun e => by rw [e] at hr; simp at hr; exact hr.1
    repeat refine g1 ?_
    refine RW.g rfl rfl rfl (fun h => qa_ixL (v := kv) (i := 1) (gv_pos h) rfl hk.sl (by have := hq2 (hr2 h); omega)) ?_
    repeat refine g1 ?_
    refine RW.g rfl rfl rfl (fun h => qa_ld (gv_pos h) (rd 1 (hr2 h) (by omega))) ?_
    repeat refine g1 ?_
    refine RW.pkA rfl rfl rfl rfl fun q3 hs => ?_
    repeat refine g1 ?_
    refine fin_val rfl rfl rfl (congrArg Value.bool ?_)
    rw [← hs, ← hr, ← hq, Bc.fitsOne, if_pos h, Bool.eq_iff_iff]
    simp only [Bool.and_eq_true, decide_eq_true_eq]
    constructor
    · rintro ⟨⟨⟨a, b⟩, c⟩, d⟩; exact ⟨a, by omega, c, d⟩
    · rintro ⟨a, b, c, d⟩; exact ⟨⟨⟨a, by omega⟩, c⟩, d⟩
  · have h : l.length ≠ 2 := by have := odF h; omega
    repeat refine g1 ?_
    refine RW.q rfl (q_indexS (l := l) (i := 0) rfl rfl Tryz.underlying9 (by omega) (by omega)) ?_
    refine RW.c rfl (fun w _ => dimOf_c w (c := l.getD 0 0)) rfl rfl ?_
    repeat refine g1 ?_
    refine AW.cond rfl (fun h2 => ?_) fun h2 => ?_
    all_goals
      repeat refine g1 ?_
      exact fin_val rfl rfl rfl (congrArg Value.bool (by rw [Bc.fitsOne, if_neg h]; first | rw [if_pos h2] | rw [if_neg (by rw [h2]; simp)]))
theorem fits_c (w : World) (Φ : Hp) (hΦ : Hp.le Φ (hp w)) {xs : List Bt.Node} {v : Value} (hv : RepSl Φ xs v) {p : Bc.Prp} {pv : Value} (hp : RepSl Φ p.values pv) (h1 : p.many = true → 0 < p.values.length) (h2 : ∀ y ∈ p.values, 0 < y.data.toList.length ∧ y.data.toList.length ≤ maxLen) : Calls pg 131 #[v, prA p pv] w fun e w' => e = .returned (.bool (Bc.fits xs p)) ∧ Bel w.heap.size w w' := by
  have hvm : xs.length * 72 ≤ 140737488355328 := hv.max
  have hvs : ∀ i, (p.many = true ∨ i < p.values.length) → 0 < (Bc.val p i).length ∧ (Bc.val p i).length ≤ maxLen := fun i h => by
    unfold Bc.val
    cases hm : p.many with
    | true => exact h2 _ (mem_at (xs := p.values) (h1 hm))
    | false => exact h2 _ (mem_at (xs := p.values) (by rcases h with h | h; (rw [hm] at h; cases h); exact h))
  obtain ⟨A, c, rfl, _⟩ := hv.sl
  have hfin : ∀ b : Bool, (if p.many = true then decide (xs.length = 0) else !decide (xs.length = p.values.length)) = b → b = true ∨ ∀ i, i < xs.length → p.many = true ∨ i < p.values.length := fun b h => by
    cases b with
    | true => exact .inl rfl
    | false =>
      refine .inr fun i hi => ?_
      cases hm : p.many with
      | true => exact .inl rfl
      | false => rw [hm] at h; simp at h; exact .inr (by omega)
  obtain ⟨nm, pvs, many, mis⟩ := p
  have go : ∀ b : Bool, (if many = true then decide (xs.length = 0) else !decide (xs.length = pvs.length)) = b → Calls pg 131 #[.slice A xs.length c, .agg #[.string nm, pv, .bool many, .bool mis]] w fun e w' => e = .returned (.bool (Bc.fits xs ⟨nm, pvs, many, mis⟩)) ∧ Bel w.heap.size w w' := by
    have hps : IsSl pv pvs.length := hp.sl
    intro b hb
    have hf := hfin b hb
    have hG : Bc.fits xs ⟨nm, pvs, many, mis⟩ = (!b && (List.range xs.length).all fun i => Bc.fitsOne (xs.getD i default) (Bc.val ⟨nm, pvs, many, mis⟩ i)) := by rw [← hb]; rfl
    generalize Bc.fits xs ⟨nm, pvs, many, mis⟩ = G at hG ⊢
    cases many <;> cases b
    all_goals
      simp only [Bool.false_eq_true, if_false, if_true, decide_eq_true_eq, decide_eq_false_iff_not, Bool.not_eq_true', Bool.not_eq_false'] at hb
      refine in2 41 Tryz.func131 rfl rfl hΦ ?_
      repeat refine g1 ?_
      refine RW.bxA rfl rfl fun b1 => ?_
      repeat first | refine t2 ?_ | refine t3 ?_ | refine g1 ?_
    all_goals first
      | exact fin_val rfl rfl rfl (congrArg Value.bool hG.symm)
      | skip
    all_goals
      have hf := hf.resolve_left (fun h => by cases h)
      refine AW.lp (fun s J m => ∃ (i : Nat) (mb : Bool), s = [(29, .int .i64 (i : Int)), (28, .int .i64 ((xs.length : Nat) : Int)), (27, .slice A xs.length c), (3, .pointer (some ⟨b1, 0, none⟩))] ∧ J = St ⟨w, Φ, []⟩ Φ [.blk b1 167 [.string nm, pv, .bool mb, .bool mis]] ∧ m = xs.length - i ∧ i ≤ xs.length ∧ ((List.range i).all fun i => Bc.fitsOne (xs.getD i default) (Bc.val ⟨nm, pvs, mb, mis⟩ i)) = true ∧ G = ((List.range xs.length).all fun i => Bc.fitsOne (xs.getD i default) (Bc.val ⟨nm, pvs, mb, mis⟩ i)) ∧ (mb = true → 0 < pvs.length) ∧ (∀ i, i < xs.length → mb = true ∨ i < pvs.length) ∧ ∀ i, (mb = true ∨ i < pvs.length) → 0 < (Bc.val ⟨nm, pvs, mb, mis⟩ i).length ∧ (Bc.val ⟨nm, pvs, mb, mis⟩ i).length ≤ maxLen) ⟨0, _, rfl, rfl, rfl, Nat.zero_le _, rfl, hG, h1, hf, hvs⟩ ?_
      clear hG hf hvs h1 hb hfin h2
      rintro _ _ _ _ ⟨i, mb, rfl, rfl, rfl, hi, hall, hG, h1, hf, hvs⟩
      repeat refine g1 ?_
      refine AW.cond rfl (fun h => ?_) fun h => ?_
      · have h : i < xs.length := by simpa using h
        repeat refine g1 ?_
        refine RW.nd6 hv h rfl rfl rfl rfl rfl fun kv q hkv hwk => ?_
        obtain ⟨hn1, hn2⟩ := hvs i (hf i h)
        repeat refine g1 ?_
        refine AW.draw (J0 := St ⟨w, Φ, []⟩ Φ [.blk q 40 (ndC (xs.getD i default) kv), .blk b1 167 [.string nm, pv, .bool mb, .bool mis]]) [.q, .q, .q, .q, .q, .q] [0, 1, 2, 3, 4, 5] hmix (by kernel_rfl) ?_
        repeat refine g1 ?_
        refine DW.c (fun _ h => h) rfl (fun w1 hw1 => pvalue_c w1 Φ hw1.phi (p := ⟨nm, pvs, mb, mis⟩) hp (i := i) h1 (fun e => (hf i h).resolve_left (by rw [show mb = false from e]; simp))) rfl rfl ?_
        refine DW.c (fun _ h => h) rfl (fun w1 hw1 => fitsOne_c w1 Φ hw1.phi hkv hn1 hn2) rfl rfl ?_
        repeat refine g1 ?_
        have hs : ((List.range (i + 1)).all fun i => Bc.fitsOne (xs.getD i default) (Bc.val ⟨nm, pvs, mb, mis⟩ i)) = Bc.fitsOne (xs.getD i default) (Bc.val ⟨nm, pvs, mb, mis⟩ i) := by rw [List.range_succ, List.all_append, hall, List.all_cons, List.all_nil, Bool.true_and, Bool.and_true]
        refine AW.cond rfl (fun h2 => ?_) fun h2 => ?_
        · have h2 : Bc.fitsOne (xs.getD i default) (Bc.val ⟨nm, pvs, mb, mis⟩ i) = false := by simpa using h2
          repeat refine g1 ?_
          refine fin_val rfl rfl rfl (congrArg Value.bool ?_)
          rw [hG, eq_comm, List.all_eq_false]
          exact ⟨i, List.mem_range.2 h, by rw [h2]; simp⟩
        · have h2 : Bc.fitsOne (xs.getD i default) (Bc.val ⟨nm, pvs, mb, mis⟩ i) = true := by simpa using h2
          repeat refine g1 ?_
          exact Post.bk ⟨i + 1, mb, rfl, rfl, rfl, h, hs.trans h2, hG, h1, hf, hvs⟩
      · have h : i = xs.length := by have := odF h; omega
        subst h
        repeat refine g1 ?_
        exact fin_val rfl rfl rfl (congrArg Value.bool (by rw [hG, hall]))
  exact go _ rfl
theorem _root_.Go.K.AW.mid {P : Program} {N : Nat} {D : List Deferred} {Q : Exit → Act → World → Prop} {f : Nat → Value} {s : List (Nat × Value)} {J : Cls} {x : Code} (I : List (Nat × Value) → Cls → Prop) (h : AW P N D x (Mid N D I Q) f s J) (k : ∀ f' s' J', I s' J' → Post N D Q .normal f' s' J') : AW P N D x Q f s J := by
  unfold AW at *
  exact fun a w ha hw => Code.wp_mono (fun e a' w' hQ => by
    cases e with
    | normal =>
      obtain ⟨f', s', J', hI, hr, hp⟩ := hQ
      have hk := k f' s' J' hI
      unfold Post at hk
      exact hk a' w' hr hp
    | _ => exact hQ) (h a w ha hw)
theorem one_rep {Φ : Hp} {b : Nat} {n : Bt.Node} {kv : Value} (h : (Chunk.row (sl1 b 1) 40 6 1 (ndC n kv)).sat Φ) (hk : RepSl Φ n.Kids kv) (hw : wfN n) : RepSl Φ [n] (sl1 b 1) := by
  have := (RepC.nil (α := Bt.Node) (Φ := Φ)).snoc (NdV.rep hw hk)
  exact RowS.repC (T := 40) h this rfl (by show 1 * 72 ≤ _; simp only [maxSl]; omega)
abbrev atT (o : Option Int) : Value := .tuple #[.int .i64 (o.getD 0), .bool o.isSome]
theorem wrongUnit_c (w : World) (Φ : Hp) (hΦ : Hp.le Φ (hp w)) {xs : List Bt.Node} {v : Value} (hv : RepSl Φ xs v) {p : Bc.Prp} {pv : Value} (hp : RepSl Φ p.values pv) (h1 : p.many = true → 0 < p.values.length) (h2 : ∀ i, i < xs.length → (p.many = false → i < p.values.length) ∧ (Bc.amts (xs.getD i default)).length ≤ (Bc.val p i).length) : Calls pg 132 #[v, prA p pv] w fun e w' => e = .returned (atT (Bc.wu p 0 xs)) ∧ Bel w.heap.size w w' := by
  have hvm : xs.length * 72 ≤ 140737488355328 := hv.max
  obtain ⟨A, c, rfl, _⟩ := hv.sl
  refine in2 57 Tryz.func132 rfl rfl hΦ ?_
  repeat refine g1 ?_
  refine RW.bxA rfl rfl fun b1 => ?_
  repeat refine g1 ?_
  refine AW.lp (fun s J m => ∃ i : Nat, s = [(16, .int .i64 (i : Int)), (15, .int .i64 ((xs.length : Nat) : Int)), (14, .slice A xs.length c), (3, .pointer (some ⟨b1, 0, none⟩))] ∧ J = St ⟨w, Φ, []⟩ Φ [.blk b1 167 [.string p.name, pv, .bool p.many, .bool p.missing]] ∧ m = xs.length - i ∧ i ≤ xs.length ∧ Bc.wu p 0 xs = Bc.wu p i (xs.drop i)) ⟨0, rfl, rfl, rfl, Nat.zero_le _, rfl⟩ ?_
  rintro _ _ _ _ ⟨i, rfl, rfl, rfl, hi, hu⟩
  repeat refine g1 ?_
  refine AW.cond rfl (fun h => ?_) fun h => ?_
  · have h : i < xs.length := by simpa using h
    obtain ⟨h3, h4⟩ := h2 i h
    rw [drop_at h] at hu
    repeat refine g1 ?_
    refine RW.nd6 hv h rfl rfl rfl rfl rfl fun kv q hkv hwk => ?_
    generalize hn : xs.getD i default = n at *
    repeat refine g1 ?_
    refine RW.c rfl (fun w1 hw1 => pvalue_c w1 Φ hw1.phi hp (i := i) h1 h3) rfl rfl ?_
    repeat refine g1 ?_
    generalize hl : Bc.val p i = l at *
    refine RW.eff _ _ rfl (e_buildSlice (vals := [(0, ndA n kv)]) (cells := ndC n kv) Tryz.underlying38 inf40 rfl rfl rfl (by kernel_rfl) rfl) fun b9 => RW.frz fun Ψ hlΨ hsat => ?_
    have hone := one_rep hsat (hkv.mono hlΨ) hwk
    repeat refine g1 ?_
    refine AW.mid (fun s J => ∃ v9, s = [(9, v9), (8, .string (bs l)), (16, .int .i64 (i : Int)), (15, .int .i64 ((xs.length : Nat) : Int)), (14, .slice A xs.length c), (3, .pointer (some ⟨b1, 0, none⟩))] ∧ J = St ⟨w, Φ, []⟩ Ψ [.blk b1 167 [.string p.name, pv, .bool p.many, .bool p.missing]] ∧ RepSl Ψ (Bc.amts n) v9) ?_ ?_
    · refine AW.cond rfl (fun h => ?_) fun h => ?_
      · have h : n.Kind = 6 := by simpa using h
        repeat refine g1 ?_
        exact Post.mid_n ⟨kv, rfl, rfl, by rw [Bc.amts, if_pos h]; exact hkv.mono hlΨ⟩ ⟨rfl, rfl, rfl, rfl, rfl, rfl, trivial⟩ (fun _ h => StP.drop h (.cons _ (List.Sublist.refl _)))
      · have h : n.Kind ≠ 6 := by simpa using h
        repeat refine g1 ?_
        exact Post.mid_n ⟨sl1 b9 1, rfl, rfl, by rw [Bc.amts, if_neg h]; exact hone⟩ ⟨rfl, rfl, rfl, rfl, rfl, rfl, trivial⟩ (fun _ h => StP.drop h (.cons _ (List.Sublist.refl _)))
    rintro f' _ _ ⟨v9, rfl, rfl, hv9⟩
    generalize hys : Bc.amts n = ys at *
    have hym : ys.length * 72 ≤ 140737488355328 := hv9.max
    obtain ⟨A9, c9, rfl, _⟩ := hv9.sl
    repeat refine g1 ?_
    refine AW.lp (fun s J m => ∃ j : Nat, s = [(33, .int .i64 (j : Int)), (32, .int .i64 ((ys.length : Nat) : Int)), (31, .slice A9 ys.length c9), (8, .string (bs l)), (16, .int .i64 (i : Int)), (15, .int .i64 ((xs.length : Nat) : Int)), (14, .slice A xs.length c), (3, .pointer (some ⟨b1, 0, none⟩))] ∧ J = St ⟨w, Φ, []⟩ Ψ [.blk b1 167 [.string p.name, pv, .bool p.many, .bool p.missing]] ∧ m = ys.length - j ∧ j ≤ ys.length ∧ Bc.wuIn l 0 ys = Bc.wuIn l j (ys.drop j)) ⟨0, rfl, rfl, rfl, Nat.zero_le _, rfl⟩ ?_
    rintro _ _ _ _ ⟨j, rfl, rfl, rfl, hj, hu2⟩
    repeat refine g1 ?_
    refine AW.cond rfl (fun h5 => ?_) fun h5 => ?_
    · have h5 : j < ys.length := by simpa using h5
      rw [drop_at h5] at hu2
      repeat refine g1 ?_
      refine RW.nd6 hv9 h5 rfl rfl rfl rfl rfl fun kv2 q2 hkv2 hwk2 => ?_
      generalize hn2 : ys.getD j default = a at *
      repeat refine g1 ?_
      refine RW.q rfl (q_indexS (l := l) (i := (j : Int)) rfl rfl Tryz.underlying9 (by omega) (by omega)) ?_
      refine RW.c rfl (fun w _ => dimOf_c w (c := l.getD j 0)) rfl rfl ?_
      repeat refine g1 ?_
      refine RW.pkA rfl rfl rfl rfl fun q hq => ?_
      repeat refine g1 ?_
      refine AW.cond rfl (fun h6 => ?_) fun h6 => ?_
      · have h7 : (Bc.dimOf (l.getD j 0)).2 = true ∧ a.Dim ≠ (Bc.dimOf (l.getD j 0)).1 := by rw [h6] at hq; simpa using hq
        rw [Bc.wuIn, if_pos h7] at hu2
        repeat refine g1 ?_
        exact fin_out2 rfl rfl rfl rfl (fun w' hw => ⟨by rw [hu, Bc.wu, hl, hys, hu2]; rfl, hw.below rfl⟩)
      · have h7 : ¬ ((Bc.dimOf (l.getD j 0)).2 = true ∧ a.Dim ≠ (Bc.dimOf (l.getD j 0)).1) := by rw [h6] at hq; simpa using hq
        rw [Bc.wuIn, if_neg h7] at hu2
        repeat refine g1 ?_
        exact Post.bk ⟨j + 1, rfl, rfl, rfl, h5, hu2⟩
    · have h5 : j = ys.length := by have := odF h5; omega
      rw [h5, List.drop_length, Bc.wuIn] at hu2
      repeat refine g1 ?_
      exact Post.bk ⟨i + 1, rfl, rfl, rfl, h, by rw [hu, Bc.wu, hl, hys, hu2]⟩ (by omega) ⟨rfl, rfl, rfl, rfl, trivial⟩ (fun _ h => StP.know hlΨ h)
  · have h : i = xs.length := by have := odF h; omega
    rw [h, List.drop_length, Bc.wu] at hu
    repeat refine g1 ?_
    exact fin_out2 rfl rfl rfl rfl (fun w' hw => ⟨by rw [hu]; rfl, hw.below rfl⟩)
end Go.Proofs.YtpapfpoefiikpaaGreatDoor
