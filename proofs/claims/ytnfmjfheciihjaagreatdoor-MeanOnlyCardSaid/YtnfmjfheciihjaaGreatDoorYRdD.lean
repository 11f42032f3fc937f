/- Lemmas. Conditions: those of each theorem. -/
import Derived.Test.YtnfmjfheciihjaaGreatDoorYTrC
import Derived.Test.YtnfmjfheciihjaaGreatDoorYSwS
import Derived.Test.YtnfmjfheciihjaaGreatDoorYUnC
set_option maxRecDepth 8000
set_option maxHeartbeats 16000000
namespace Go.Proofs.YtnfmjfheciihjaaGreatDoor
open Go Go.K Go.RowKit
attribute [local irreducible] AW RW DW Post Qt
structure PCtx (Φ : Hp) (toks : List Bt.Token) (tv : Value) : Prop where
 rep : RepSl Φ toks tv
 wf : ∀ t ∈ toks, Lx.wfT 65536 t
 len : toks.length ≤ 65537
theorem PCtx.mono {Φ Ψ : Hp} {toks : List Bt.Token} {tv : Value} (h : PCtx Φ toks tv) (hl : Hp.le Φ Ψ) : PCtx Ψ toks tv := ⟨h.rep.mono hl, h.wf, h.len⟩
abbrev pcs (tv : Value) (toks : List Bt.Token) (z : Ru.S) : List Value := [tv, iV ((toks.length - z.1.length : Nat) : Int), iV z.2]
structure PS (toks : List Bt.Token) (z : Ru.S) : Prop where
 suf : z.1 <:+ toks
 good : Pa.good z.1
theorem PS.ne {toks : List Bt.Token} {z : Ru.S} (h : PS toks z) : z.1 ≠ [] := Pa.good_ne h.good
theorem PS.ad {toks : List Bt.Token} {z : Ru.S} {r : List Bt.Token} (h : PS toks z) (ha : Pa.Ad z.1 r) : PS toks (r, z.2) := ⟨ha.1.trans h.suf, ha.2.1⟩
theorem pcs_next {tv : Value} {toks : List Bt.Token} {z : Ru.S} (hs : z.1 <:+ toks) (hl : z.1.tail.length + 1 = z.1.length) : pcs tv toks (z.1.tail, z.2) = [tv, iV ((toks.length - z.1.length + 1 : Nat) : Int), iV z.2] := by
 have := Pa.suf_len hs
 simp only [pcs]
 rw [show toks.length - z.1.tail.length = toks.length - z.1.length + 1 by omega]
abbrev tkC (x : Bt.Token) : List Value := [iV x.Kind, .string (bs x.Text), iV x.At]
theorem wf_pk {toks ts : List Bt.Token} (h : ∀ t ∈ toks, Lx.wfT 65536 t) (hs : ts <:+ toks) (hn : ts ≠ []) : Lx.wfT 65536 (Pa.pk ts) := by
 match ts, hn with
 | t :: r, _ => exact h t (hs.subset (List.mem_cons_self ..))
abbrev pA (p : Nat) (tv : Value) (toks : List Bt.Token) (z : Ru.S) : Chunk := .blk p 137 (pcs tv toks z)
abbrev pE (e : Int × Int) : List PanicEntry := [⟨.iface 139 (.agg #[iV e.1]), false, false⟩]
abbrev PK {α ζ : Type} (w : World) (Φ : Hp) (p : Nat) (tv : Value) (toks : List Bt.Token) (A : List Chunk) (res : Ru.R α) (V : α → ζ → Value) (K : α → ζ → List Chunk) : Ending → World → Prop :=
 OwnK w Φ A res (fun x y => V x.1 y) (fun x y => pA p tv toks x.2 :: K x.1 y) pE (fun e CE => ∃ q : Int, CE = [.blk p 137 [tv, iV q, iV e.2]])
theorem PK.ok {α ζ : Type} {w w' : World} {Φ : Hp} {p : Nat} {tv : Value} {toks : List Bt.Token} {A : List Chunk} {res : Ru.R α} {V : α → ζ → Value} {K : α → ζ → List Chunk} {x : α} {z : Ru.S} (y : ζ) {v : Value} (h : res = .ok (x, z)) (hv : v = V x y) (hw : StP ⟨w, Φ, fps A⟩ Φ (pA p tv toks z :: K x y) w') : PK w Φ p tv toks A res V K (.returned v) w' :=
 .inl ⟨(x, z), y, h, by rw [hv], hw⟩
theorem PK.pn {α ζ : Type} {w w' : World} {Φ : Hp} {p : Nat} {tv : Value} {toks : List Bt.Token} {A C2 CE : List Chunk} {res : Ru.R α} {V : α → ζ → Value} {K : α → ζ → List Chunk} {e : Int × Int} (h : res = .error e) (hk : ∃ q : Int, CE = [.blk p 137 [tv, iV q, iV e.2]]) (hw : StP ⟨w, Φ, fps A⟩ Φ (CE ++ C2) w') : PK w Φ p tv toks A res V K (.panicked (pE e)) w' := by
 refine .inr ⟨e, CE, h, rfl, hk, ?_⟩
 exact hw.drop (List.sublist_append_left _ _)
theorem peek_c (w : World) {p : Nat} {tv : Value} {toks : List Bt.Token} {z : Ru.S} (h1 : w.heap[p]? = some (.cells (pcs tv toks z).toArray 137 (0, 0))) (hc : PCtx (hp w) toks tv) (hz : PS toks z) :
  Calls pg 100 #[.pointer (some ⟨p, 0, none⟩)] w fun e w' => e = .returned (.agg (tkC (Pa.pk z.1)).toArray) ∧ Bel w.heap.size w w' := by
 refine calls_of_AW (args := [.pointer (some ⟨p, 0, none⟩)]) Tryz.func100 rfl (lBT rfl) (St ⟨w, hp w, []⟩ (hp w) []) (StP.init w (hp w) (Hp.le_refl _) []) ?_
 show AW _ _ [] _ _ _ [(0, .pointer (some ⟨p, 0, none⟩))] _
 have hc1 : ∀ {C : List Chunk} {o : Nat} {v : Value}, (pcs tv toks z)[o]? = some v → Cell (St ⟨w, hp w, []⟩ (hp w) C) ⟨p, o, none⟩ v := fun {C o v} h => Cell.phi ⟨_, _, _, h1, rfl, by simpa using h⟩
 obtain ⟨hlt, hget⟩ := Pa.suf_get hz.suf hz.ne
 have hln := hc.len
 refine gP ?_
 refine RW.alc rfl fun b2 => ?_
 refine gP ?_
 refine AW.draw (J0 := St ⟨w, hp w, []⟩ (hp w) [.blk b2 134 [iV 0, .string (bs []), iV 0]]) (tq10 [.e]) od11 hmix (by kernel_rfl) ?_
 refine gP ?_
 refine DW.q (fun _ h => h) rfl (qa_ld rfl (hc1 rfl)) ?_
 refine gP ?_
 refine DW.q (fun _ h => h) rfl (qa_ld rfl (hc1 rfl)) (DW.q (v := .pointer (some (Value.at tv ((toks.length - z.1.length) * 3)))) (fun _ h => h) rfl (q_indexAddr rfl rfl hc.rep.sl uT95 sz134 (by omega) (by omega) rfl) (DW.q (v := .agg (tkC (Pa.pk z.1)).toArray) (fun _ h => h) rfl (qa_ldA (cs := tkC (Pa.pk z.1)) rfl (Cells.repE (α := Bt.Token) hc.rep hlt (by rw [hget]; rfl)) rfl) ?_))
 refine gP ?_
 exact fin_res (vs := [.agg (tkC (Pa.pk z.1)).toArray]) rfl rfl ⟨.agg rfl rfl (Cells.blk 0 rfl), trivial⟩ rfl (fun w' hw => ⟨rfl, hw.below rfl⟩)
theorem blkAt {B : Bs} {Φ : Hp} {C : List Chunk} {w : World} {p T : Nat} {cs : List Value} (i : Nat) (hi : C[i]? = some (.blk p T cs)) (h : StP B Φ C w) : w.heap[p]? = some (.cells cs.toArray T (0, 0)) := h.sat _ (List.mem_of_getElem? hi)
theorem fail_to {α β : Type} {z : Ru.S} {e : Int × Int} (h : Ru.fail (α := α) z = .error e) : Ru.fail (α := β) z = .error e := by
 unfold Ru.fail at *; cases h; rfl
theorem keyword_c (w : World) {l : List UInt8} : Calls pg 41 #[.string (bs l)] w fun e w' => e = .returned (.bool (Ru.kw l)) ∧ Bel w.heap.size w w' := by
 refine calls_of_AW (args := [.string (bs l)]) Tryz.func41 rfl (lBT rfl) (St ⟨w, hp w, []⟩ (hp w) []) (StP.init w (hp w) (Hp.le_refl _) []) ?_
 show AW _ _ [] _ _ _ [(0, .string (bs l))] _
 refine gP ?_
 refine RW.q (v := .bool (decide (l = Ru.sDef))) rfl (q_eqlStr rfl rfl) ?_
 refine gP ?_
 refine AW.orChS (t := 4) (x := 3) (a := l) rfl rfl _ rfl rfl rfl rfl fun f' => ?_
 refine gP ?_
 have hkw : (decide (l = Ru.sDef) || [(Ru.sInt, 6), (Ru.sBool, 7), (Ru.sWhen, 8), (Ru.sThen, 9), (Ru.sSet, 10), (Ru.sTo, 11), (Ru.sIf, 12), (Ru.sElse, 13), (Ru.sOr, 14), (Ru.sAnd, 15), (Ru.sNot, 16), (Ru.sTrue, 17), (Ru.sFalse, 18), (Ru.sVolume, 19), (Ru.sLevel, 20), (Ru.sOwned, 21), (Ru.sPos, 22), (Ru.sCrest, 23), (Ru.sHour, 24), (Ru.sDay, 25), (Ru.sMonth, 26)].any fun p => decide (l = p.1)) = Ru.kw l := by
  unfold Ru.kw
  rw [Bool.eq_iff_iff]
  simp only [List.any_cons, List.any_nil, Bool.or_false, Bool.or_eq_true, decide_eq_true_eq, List.contains_iff_mem, List.mem_cons, List.not_mem_nil, or_false]
 refine AW.cond rfl (fun h => ?_) fun h => ?_
 ·
  have h : Ru.kw l = true := hkw.symm.trans h
  refine gP ?_
  exact fin_res (vs := [.bool true]) rfl rfl ⟨.tmp rfl, trivial⟩ rfl (fun w' hw => ⟨by rw [h]; rfl, hw.below rfl⟩)
 ·
  have h : Ru.kw l = false := hkw.symm.trans h
  refine gP ?_
  exact fin_res (vs := [.bool false]) rfl rfl ⟨.tmp rfl, trivial⟩ rfl (fun w' hw => ⟨by rw [h]; rfl, hw.below rfl⟩)
theorem at_c (w : World) {p : Nat} {tv : Value} {toks : List Bt.Token} {z : Ru.S} {c : List UInt8} (h1 : w.heap[p]? = some (.cells (pcs tv toks z).toArray 137 (0, 0))) (hc : PCtx (hp w) toks tv) (hz : PS toks z) :
  Calls pg 118 #[.pointer (some ⟨p, 0, none⟩), .string (bs c)] w fun e w' => e = .returned (.bool (Ru.isT c z.1)) ∧ Bel w.heap.size w w' := by
 refine calls_of_AW (args := [.pointer (some ⟨p, 0, none⟩), .string (bs c)]) Tryz.func118 rfl (lBT rfl) (St ⟨w, hp w, []⟩ (hp w) []) (StP.init w (hp w) (Hp.le_refl _) []) ?_
 show AW _ _ [] _ _ _ [(0, .pointer (some ⟨p, 0, none⟩)), (1, .string (bs c))] _
 have hq : ∀ {C : List Chunk} {w1 : World}, (St ⟨w, hp w, []⟩ (hp w) C).p w1 → w1.heap[p]? = some (.cells (pcs tv toks z).toArray 137 (0, 0)) := fun h => h.phi _ _ h1
 refine gP ?_
 refine RW.q rfl (q_call (args := #[.pointer (some ⟨p, 0, none⟩)]) oK rfl rfl (fun w1 hw1 => peek_c w1 (hq hw1) (hc.mono hw1.phi) hz)) ?_
 refine RW.alc rfl fun b5 => ?_
 refine gP ?_
 refine RW.q (v := .bool (decide ((Pa.pk z.1).Kind = 0) || decide ((Pa.pk z.1).Kind = 3))) rfl (qpO rfl rfl rfl) ?_
 refine gP ?_
 refine RW.g (b := decide ((Pa.pk z.1).Kind = 0) || decide ((Pa.pk z.1).Kind = 3)) (v := .bool (decide ((Pa.pk z.1).Text = c))) rfl rfl rfl (fun h => by exact q_eqlStr (gv_pos h) (gv_pos h)) (RW.q (v := .bool (Ru.isT c z.1)) rfl (qpA rfl rfl rfl) ?_)
 refine gP ?_
 exact fin_res (vs := [.bool (Ru.isT c z.1)]) rfl rfl ⟨.tmp rfl, trivial⟩ rfl (fun w' hw => ⟨rfl, hw.below rfl⟩)
section
variable (w : World) (Φ : Hp) {p : Nat} {tv : Value} {toks : List Bt.Token} {z : Ru.S}
theorem fail_c (hc : PCtx Φ toks tv) (hz : PS toks z) (h0 : StP ⟨w, Φ, [p]⟩ Φ [pA p tv toks z] w) :
  Calls pg 101 #[.pointer (some ⟨p, 0, none⟩)] w (PK w Φ p tv toks [pA p tv toks z] (Ru.fail (α := Unit) z) (fun _ (_ : Unit) => undef) fun _ _ => []) := by
 refine calls_of_AW (args := [.pointer (some ⟨p, 0, none⟩)]) Tryz.func101 rfl (lBT rfl) (St ⟨w, Φ, [p]⟩ Φ [pA p tv toks z]) h0 ?_
 show AW _ _ [] _ _ _ [(0, .pointer (some ⟨p, 0, none⟩))] _
 refine gP ?_
 refine RW.q rfl (q_call (args := #[.pointer (some ⟨p, 0, none⟩)]) oK rfl rfl (fun w1 hw1 => peek_c w1 (blkAt 0 rfl hw1) (hc.mono hw1.phi) hz)) ?_
 refine gP ?_
 refine RW.q (v := .agg #[iV (Pa.pk z.1).At]) rfl (q_build (vals := [(0, iV (Pa.pk z.1).At)]) zero139 uT139 places139 rfl rfl) ?_
 refine gP ?_
 exact RW.pan (v := .agg #[iV (Pa.pk z.1).At]) rfl (fun w' hw' => PK.pn (A := [pA p tv toks z]) (C2 := []) (CE := [pA p tv toks z]) (e := ((Pa.pk z.1).At, z.2)) rfl ⟨_, rfl⟩ (by exact hw'))
theorem accept_c {c : List UInt8} (hc : PCtx Φ toks tv) (hz : PS toks z) (h0 : StP ⟨w, Φ, [p]⟩ Φ [pA p tv toks z] w) :
  Calls pg 95 #[.pointer (some ⟨p, 0, none⟩), .string (bs c)] w (PK w Φ p tv toks [pA p tv toks z] (.ok (Ru.isT c z.1, if Ru.isT c z.1 = true then (z.1.tail, z.2) else z)) (fun b (_ : Unit) => .bool b) fun _ _ => []) := by
 refine calls_of_AW (args := [.pointer (some ⟨p, 0, none⟩), .string (bs c)]) Tryz.func95 rfl (lBT rfl) (St ⟨w, Φ, [p]⟩ Φ [pA p tv toks z]) h0 ?_
 show AW _ _ [] _ _ _ [(0, .pointer (some ⟨p, 0, none⟩)), (1, .string (bs c))] _
 refine gP ?_
 refine RW.q rfl (q_call (args := #[.pointer (some ⟨p, 0, none⟩), .string (bs c)]) oK rfl rfl (fun w1 hw1 => at_c w1 (blkAt 0 rfl hw1) (hc.mono hw1.phi) hz)) ?_
 refine gP ?_
 refine AW.cond rfl (fun h => ?_) fun h => ?_
 ·
  obtain ⟨_, hl⟩ := Pa.good_tail hz.good (by have := Ru.isT_kind h; omega)
  have hle := Pa.suf_len hz.suf
  have hln := hc.len
  refine gP ?_
  exact fin_res (vs := [.bool true]) rfl rfl ⟨.tmp rfl, trivial⟩ rfl (fun w' hw => PK.ok () (by rw [if_pos h]) (by rw [h]; rfl) (by unfold pA; rw [pcs_next hz.suf hl]; exact hw))
 ·
  refine gP ?_
  exact fin_res (vs := [.bool false]) rfl rfl ⟨.tmp rfl, trivial⟩ rfl (fun w' hw => PK.ok () (by rw [if_neg (by rw [h]; simp)]) (by rw [h]; rfl) hw)
theorem expect_c {c : List UInt8} (hc : PCtx Φ toks tv) (hz : PS toks z) (h0 : StP ⟨w, Φ, [p]⟩ Φ [pA p tv toks z] w) :
  Calls pg 98 #[.pointer (some ⟨p, 0, none⟩), .string (bs c)] w (PK w Φ p tv toks [pA p tv toks z] (Ru.exp c z) (fun _ (_ : Unit) => .tuple #[]) fun _ _ => []) := by
 refine calls_of_AW (args := [.pointer (some ⟨p, 0, none⟩), .string (bs c)]) Tryz.func98 rfl (lBT rfl) (St ⟨w, Φ, [p]⟩ Φ [pA p tv toks z]) h0 ?_
 show AW _ _ [] _ _ _ [(0, .pointer (some ⟨p, 0, none⟩)), (1, .string (bs c))] _
 refine gP ?_
 refine RW.own (args := #[.pointer (some ⟨p, 0, none⟩), .string (bs c)]) (C2 := []) [0] (by decide) rfl rfl oK rfl rfl (fun w1 hw1 => accept_c w1 Φ hc hz hw1) (fun er CE w' he => nomatch he) ?_
 rintro ⟨b, z1⟩ _ hres
 cases hres
 refine gP ?_
 refine AW.cond rfl (fun h => ?_) fun h => ?_
 ·
  have h : Ru.isT c z.1 = false := by simpa using h
  rw [if_neg (by rw [h]; simp)]
  refine gP ?_
  refine RW.own (args := #[.pointer (some ⟨p, 0, none⟩)]) (C2 := []) [0] (by decide) rfl rfl oK rfl rfl (fun w1 hw1 => fail_c w1 Φ hc hz hw1) (fun er CE w' he hk hw => PK.pn (by unfold Ru.exp; rw [if_neg (by rw [h]; simp)]; exact fail_to he) hk hw) ?_
  intro _ _ h; cases h
 ·
  have h : Ru.isT c z.1 = true := by simpa using h
  rw [if_pos h]
  refine gP ?_
  exact fin_res (vs := []) rfl rfl trivial rfl (fun w' hw => PK.ok () (by unfold Ru.exp; rw [if_pos h]) rfl hw)
theorem name_c (hc : PCtx Φ toks tv) (hz : PS toks z) (h0 : StP ⟨w, Φ, [p]⟩ Φ [pA p tv toks z] w) :
  Calls pg 99 #[.pointer (some ⟨p, 0, none⟩)] w (PK w Φ p tv toks [pA p tv toks z] (Ru.nameR z) (fun x (_ : Unit) => .agg (tkC x).toArray) fun _ _ => []) := by
 refine calls_of_AW (args := [.pointer (some ⟨p, 0, none⟩)]) Tryz.func99 rfl (lBT rfl) (St ⟨w, Φ, [p]⟩ Φ [pA p tv toks z]) h0 ?_
 show AW _ _ [] _ _ _ [(0, .pointer (some ⟨p, 0, none⟩))] _
 refine gP ?_
 refine RW.alc rfl fun b2 => ?_
 refine gP ?_
 refine RW.q rfl (q_call (args := #[.pointer (some ⟨p, 0, none⟩)]) oK rfl rfl (fun w1 hw1 => peek_c w1 (blkAt 1 rfl hw1) (hc.mono hw1.phi) hz)) ?_
 refine RW.alc rfl fun b3 => ?_
 refine gP ?_
 refine AW.cond rfl (fun h => ?_) fun h => ?_
 ·
  have h : (Pa.pk z.1).Kind ≠ 0 := by simpa using h
  have hf : Ru.nameR z = Ru.fail z := by unfold Ru.nameR; rw [if_neg h]
  refine gP ?_
  refine RW.own (args := #[.pointer (some ⟨p, 0, none⟩)]) (C2 := []) [2] (by decide) rfl rfl oK rfl rfl (fun w1 hw1 => fail_c w1 Φ hc hz hw1) (fun er CE w' he hk hw => PK.pn (by rw [hf]; exact fail_to he) hk hw) ?_
  intro _ _ h; cases h
 ·
  have h : (Pa.pk z.1).Kind = 0 := by simpa using h
  have hf : Ru.nameR z = .ok (Pa.pk z.1, z.1.tail, z.2) := by unfold Ru.nameR; rw [if_pos h]
  obtain ⟨_, hl⟩ := Pa.good_tail hz.good (by omega)
  have hle := Pa.suf_len hz.suf
  have hln := hc.len
  refine gP ?_
  exact fin_res (vs := [.agg (tkC (Pa.pk z.1)).toArray]) rfl rfl ⟨.agg rfl rfl (Cells.blk 1 rfl), trivial⟩ rfl (fun w' hw => PK.ok () hf rfl (by unfold pA; rw [pcs_next hz.suf hl]; exact hw.sel [2] (by decide) rfl))
theorem ident_c (hc : PCtx Φ toks tv) (hz : PS toks z) (h0 : StP ⟨w, Φ, [p]⟩ Φ [pA p tv toks z] w) :
  Calls pg 119 #[.pointer (some ⟨p, 0, none⟩)] w (PK w Φ p tv toks [pA p tv toks z] (Ru.identR z) (fun x (_ : Unit) => .agg (tkC x).toArray) fun _ _ => []) := by
 refine calls_of_AW (args := [.pointer (some ⟨p, 0, none⟩)]) Tryz.func119 rfl (lBT rfl) (St ⟨w, Φ, [p]⟩ Φ [pA p tv toks z]) h0 ?_
 show AW _ _ [] _ _ _ [(0, .pointer (some ⟨p, 0, none⟩))] _
 refine gP ?_
 refine RW.alc rfl fun b2 => ?_
 refine gP ?_
 refine RW.q rfl (q_call (args := #[.pointer (some ⟨p, 0, none⟩)]) oK rfl rfl (fun w1 hw1 => peek_c w1 (blkAt 1 rfl hw1) (hc.mono hw1.phi) hz)) ?_
 refine gP ?_
 refine RW.q rfl (q_call (args := #[.string (bs (Pa.pk z.1).Text)]) oK rfl rfl (fun w1 _ => keyword_c w1)) ?_
 refine gP ?_
 refine AW.cond rfl (fun h => ?_) fun h => ?_
 ·
  have hf : Ru.identR z = Ru.fail z := by unfold Ru.identR; rw [if_pos h]
  refine gP ?_
  refine RW.own (args := #[.pointer (some ⟨p, 0, none⟩)]) (C2 := []) [1] (by decide) rfl rfl oK rfl rfl (fun w1 hw1 => fail_c w1 Φ hc hz hw1) (fun er CE w' he hk hw => PK.pn (by rw [hf]; exact fail_to he) hk hw) ?_
  intro _ _ h; cases h
 ·
  have hf : Ru.identR z = Ru.nameR z := by unfold Ru.identR; rw [if_neg (by rw [h]; simp)]
  refine gP ?_
  refine RW.own (args := #[.pointer (some ⟨p, 0, none⟩)]) (C2 := [.blk b2 134 (tkC default)]) [1, 0] (by decide) rfl rfl oK rfl rfl (fun w1 hw1 => name_c w1 Φ hc hz hw1) (fun er CE w' he hk hw => PK.pn (by rw [hf]; exact he) hk hw) ?_
  rintro ⟨x, z1⟩ _ hres
  refine gP ?_
  refine RW.effn (e_store (v := .agg (tkC x).toArray) 1 rfl rfl rfl sz134 rfl rfl rfl rfl rfl) ?_
  refine gP ?_
  exact fin_res (vs := [.agg (tkC x).toArray]) rfl rfl ⟨.agg rfl rfl (Cells.blk 1 rfl), trivial⟩ rfl (fun w' hw => PK.ok () (hf.trans hres) rfl (hw.sel [0] (by decide) rfl))
theorem kind_c (hc : PCtx Φ toks tv) (hz : PS toks z) (h0 : StP ⟨w, Φ, [p]⟩ Φ [pA p tv toks z] w) :
  Calls pg 120 #[.pointer (some ⟨p, 0, none⟩)] w (PK w Φ p tv toks [pA p tv toks z] (Ru.kindR z) (fun k (_ : Unit) => iV k) fun _ _ => []) := by
 refine calls_of_AW (args := [.pointer (some ⟨p, 0, none⟩)]) Tryz.func120 rfl (lBT rfl) (St ⟨w, Φ, [p]⟩ Φ [pA p tv toks z]) h0 ?_
 show AW _ _ [] _ _ _ [(0, .pointer (some ⟨p, 0, none⟩))] _
 refine gP ?_
 refine RW.own (args := #[.pointer (some ⟨p, 0, none⟩), .string (bs Ru.sInt)]) (C2 := []) [0] (by decide) rfl rfl oK rfl rfl (fun w1 hw1 => accept_c w1 Φ hc hz hw1) (fun er CE w' he => nomatch he) ?_
 rintro ⟨b, z1⟩ _ hres
 cases hres
 refine gP ?_
 refine AW.cond rfl (fun h => ?_) fun h => ?_
 ·
  have hf : Ru.kindR z = .ok (0, z.1.tail, z.2) := by unfold Ru.kindR; rw [if_pos h]
  rw [if_pos h]
  refine gP ?_
  exact fin_res (vs := [iV 0]) rfl rfl ⟨.tmp rfl, trivial⟩ rfl (fun w' hw => PK.ok () hf rfl hw)
 ·
  have h : Ru.isT Ru.sInt z.1 = false := h
  have hf : Ru.kindR z = Ru.bnd (Ru.exp Ru.sBool z) fun _ s => .ok (1, s) := by unfold Ru.kindR; rw [if_neg (by rw [h]; simp)]
  rw [if_neg (by rw [h]; simp)]
  refine gP ?_
  refine RW.own (args := #[.pointer (some ⟨p, 0, none⟩), .string (bs Ru.sBool)]) (C2 := []) [0] (by decide) rfl rfl oK rfl rfl (fun w1 hw1 => expect_c w1 Φ hc hz hw1) (fun er CE w' he hk hw => PK.pn (by rw [hf]; exact Ru.bnd_of_err he) hk hw) ?_
  rintro ⟨_, z1⟩ _ hres
  refine gP ?_
  exact fin_res (vs := [iV 1]) rfl rfl ⟨.tmp rfl, trivial⟩ rfl (fun w' hw => PK.ok () (hf.trans (Ru.bnd_of_ok hres)) rfl hw)
end
open Ru (tr pB nC wfH wfK tr_fin0 tr_fin1 tr_fin2 tr_fin3 tr_fin2L)
theorem isUnit_c (w : World) {Φ : Hp} (hΦ : Hp.le Φ (hp w)) (hG : Knows Φ Glob) {l : List UInt8} :
  Calls pg 146 #[.string (bs l)] w fun e w' => e = .returned (.bool (Pa.isUnit l)) ∧ Bel w.heap.size w w' := by
 refine calls_of_AW (args := [.string (bs l)]) Tryz.func146 rfl (lBT rfl) (St ⟨w, Φ, []⟩ Φ []) (StP.init w Φ hΦ []) ?_
 show AW _ _ [] _ _ _ [(0, .string (bs l))] _
 refine gP ?_
 refine RW.q rfl (q_call (args := #[.string (bs [48]), .string (bs l)]) oK rfl rfl (fun w1 hw1 => Amount_c w1 (Go.K.hp w1) (Hp.le_refl _) (hG.mono hw1.phi) (by simp))) ?_
 refine gP ?_
 refine RW.alc rfl fun b3 => ?_
 refine gP ?_
 refine fin_res (vs := [.bool (Pa.isUnit l)]) rfl rfl ⟨.tmp ?_, trivial⟩ rfl (fun w' hw => ⟨rfl, hw.below rfl⟩)
 show Value.bool _ = Value.bool _
 unfold Pa.isUnit
 congr 2
 exact decide_eq_decide.2 (by omega)
theorem wfK0 : wfK (default : Bt.Token) := ⟨by unfold I64; decide, by decide, by unfold I64; decide⟩
theorem wfK_of {t : Bt.Token} (h : Lx.wfT 65536 t) : wfK t := by
 obtain ⟨h1, h2, h3, h4, h5⟩ := h
 refine ⟨?_, by omega, ?_⟩ <;> unfold I64 <;> omega
theorem wfH_nm {k n a : Int} {nm ow : Bt.Token} (hk : 0 ≤ k ∧ k ≤ 1125899906842624) (hn : 0 ≤ n ∧ n ≤ 1125899906842624) (ha : I64 a) (h1 : wfK nm) (h2 : wfK ow) : wfH k n 0 0 a nm ow := by
 refine ⟨?_, ?_, ?_, ?_, ha, h1, h2⟩ <;> unfold I64 <;> omega
theorem wfH_0 {k n a : Int} (hk : 0 ≤ k ∧ k ≤ 1125899906842624) (hn : 0 ≤ n ∧ n ≤ 1125899906842624) (ha : I64 a) : wfH k n 0 0 a default default := wfH_nm hk hn ha wfK0 wfK0
theorem wfT_at {t : Bt.Token} (h : Lx.wfT 65536 t) : I64 t.At := (wfK_of h).2.2
abbrev EK (w : World) (Φ : Hp) (p : Nat) (tv : Value) (toks : List Bt.Token) (z : Ru.S) (res : Ru.R Bt.Nd) : Ending → World → Prop := PK w Φ p tv toks [pA p tv toks z] res (fun _ (y : Nat × List Nat) => pB y.1) fun x y => [tr x y.1 y.2]
theorem EK.ok {w w' : World} {Φ : Hp} {p : Nat} {tv : Value} {toks : List Bt.Token} {z z' : Ru.S} {res : Ru.R Bt.Nd} {x : Bt.Nd} {b : Nat} (h : res = .ok (x, z')) (hw : ∃ F, StP ⟨w, Φ, [p]⟩ Φ [pA p tv toks z', tr x b F] w') : EK w Φ p tv toks z res (.returned (pB b)) w' := by
 obtain ⟨F, hF⟩ := hw
 exact PK.ok (b, F) h rfl hF
theorem number_c (w : World) (Φ : Hp) (hG : Knows Φ Glob) {p : Nat} {tv : Value} {toks : List Bt.Token} {z : Ru.S} (hc : PCtx Φ toks tv) (hz : PS toks z) (hk : (Pa.pk z.1).Kind = 1) (h0 : StP ⟨w, Φ, [p]⟩ Φ [pA p tv toks z] w) :
  Calls pg 144 #[.pointer (some ⟨p, 0, none⟩)] w (EK w Φ p tv toks z (Ru.numR z)) := by
 refine calls_of_AW (args := [.pointer (some ⟨p, 0, none⟩)]) Tryz.func144 rfl (lBT rfl) (St ⟨w, Φ, [p]⟩ Φ [pA p tv toks z]) h0 ?_
 show AW _ _ [] _ _ _ [(0, .pointer (some ⟨p, 0, none⟩))] _
 obtain ⟨hs1, hg1, hl1⟩ := Pa.ad_tail hz.good (by omega)
 obtain ⟨_, hl⟩ := Pa.good_tail hz.good (by omega)
 have hz1 : PS toks (z.1.tail, z.2) := hz.ad ⟨hs1, hg1, hl1⟩
 have hle := Pa.suf_len hz.suf
 have hln := hc.len
 have hwf := wf_pk hc.wf hz.suf hz.ne
 have hwu := wf_pk hc.wf hz1.suf hz1.ne
 have hat := wfT_at hwf
 obtain ⟨_, _, hw3, hw4, hw5⟩ := hwf
 obtain ⟨_, _, hu3, _, _⟩ := hwu
 obtain ⟨ha1, ha2⟩ := Un.amt_le (Pa.pk z.1).Text (Pa.unitOf z.1.tail)
 refine gP ?_
 refine RW.q rfl (q_call (args := #[.pointer (some ⟨p, 0, none⟩)]) oK rfl rfl (fun w1 hw1 => peek_c w1 (blkAt 0 rfl hw1) (hc.mono hw1.phi) hz)) ?_
 refine RW.alc rfl fun b3 => ?_
 refine gP ?_
 refine RW.q rfl (q_call (args := #[.pointer (some ⟨p, 0, none⟩)]) oK rfl rfl (fun w1 hw1 => peek_c w1 (z := (z.1.tail, z.2)) (by rw [pcs_next hz.suf hl]; exact blkAt 1 rfl hw1) (hc.mono hw1.phi) hz1)) ?_
 refine RW.alc rfl fun b5 => ?_
 refine gP ?_
 refine RW.g (b := decide ((Pa.pk z.1.tail).Kind = 0)) (v := .bool (Pa.isUnit (Pa.pk z.1.tail).Text)) rfl rfl rfl (fun h => by exact q_call (args := #[.string (bs (Pa.pk z.1.tail).Text)]) oK rfl (args1 (gv_pos h)) (fun w1 hw1 => isUnit_c w1 hw1.phi hG)) (RW.q (v := .bool (decide ((Pa.pk z.1.tail).Kind = 0) && Pa.isUnit (Pa.pk z.1.tail).Text)) rfl (qpA rfl rfl rfl) ?_)
 refine gP ?_
 refine AW.cond rfl (fun h => ?_) fun h => ?_
 ·
  have h : (Pa.pk z.1.tail).Kind = 0 ∧ Pa.isUnit (Pa.pk z.1.tail).Text = true := by simpa using h
  have hU : Pa.unitOf z.1.tail = (Pa.pk z.1.tail).Text := by unfold Pa.unitOf; rw [if_pos h]
  have hR : Pa.unitRest z.1.tail = z.1.tail.tail := by unfold Pa.unitRest; rw [if_pos h]
  obtain ⟨_, hl2⟩ := Pa.good_tail hg1 (by omega)
  have hpc : ∀ q : Int, pcs tv toks (Pa.unitRest z.1.tail, q) = [tv, iV ((toks.length - z.1.length + 1 + 1 : Nat) : Int), iV q] := fun q => by
   simp only [pcs]
   rw [hR, show toks.length - z.1.tail.tail.length = toks.length - z.1.length + 1 + 1 by omega]
  refine gP ?_
  refine RW.q rfl (q_call (args := #[.string (bs (Pa.pk z.1).Text), .string (bs (Pa.unitOf z.1.tail))]) oK rfl (by rw [hU]; rfl) (fun w1 hw1 => Amount_c w1 (Go.K.hp w1) (Hp.le_refl _) (hG.mono hw1.phi) (by omega))) ?_
  refine gP ?_
  refine RW.alc rfl fun b6 => ?_
  refine gP ?_
  refine RW.g (v := .pointer (some ⟨p, 0, none⟩)) rfl rfl rfl (fun h => by exact q_nilCheck (gv_pos h)) ?_
  refine gP ?_
  refine RW.q (v := .bool ((!decide ((((Un.amt (Pa.pk z.1).Text (Pa.unitOf z.1.tail)).2.2 : Nat) : Int) = 0)) && decide (z.2 < 0))) rfl (qpA rfl rfl rfl) ?_
  refine gP ?_
  refine AW.cond rfl (fun he => ?_) fun he => ?_
  ·
   have he : ((Un.amt (Pa.pk z.1).Text (Pa.unitOf z.1.tail)).2.2 ≠ 0 ∧ z.2 < 0) := by simpa using he
   have hf : Ru.numR z = .ok ((⟨0, ((Un.amt (Pa.pk z.1).Text (Pa.unitOf z.1.tail)).1 : Nat), 0, 0, (Pa.pk z.1).At, default, default, []⟩ : Bt.Nd), Pa.unitRest z.1.tail, (Pa.pk z.1).At) := by unfold Ru.numR; simp only []; rw [if_pos he]
   have hwn : wfH 0 ((Un.amt (Pa.pk z.1).Text (Pa.unitOf z.1.tail)).1 : Nat) 0 0 (Pa.pk z.1).At default default := wfH_0 (by omega) (by omega) hat
   refine gP ?_
   refine RW.q (v := .agg (nC 0 ((Un.amt (Pa.pk z.1).Text (Pa.unitOf z.1.tail)).1 : Nat) 0 0 (Pa.pk z.1).At default default nS).toArray) rfl (q_build (vals := [(0, iV 0), (1, iV ((Un.amt (Pa.pk z.1).Text (Pa.unitOf z.1.tail)).1 : Nat)), (4, iV (Pa.pk z.1).At)]) zero153 uT153 places153 rfl rfl) ?_
   refine RW.bxA (cs := nC 0 ((Un.amt (Pa.pk z.1).Text (Pa.unitOf z.1.tail)).1 : Nat) 0 0 (Pa.pk z.1).At default default nS) rfl rfl fun bn => ?_
   refine gP ?_
   refine fin_res (vs := [pB bn]) rfl rfl ⟨.tmp rfl, trivial⟩ rfl (fun w' hw => EK.ok hf ?_)
   unfold pA; rw [hpc]
   exact tr_fin0 [0, 4] (by decide) rfl hwn hw
  ·
   have he : ¬ ((Un.amt (Pa.pk z.1).Text (Pa.unitOf z.1.tail)).2.2 ≠ 0 ∧ z.2 < 0) := by simpa using he
   have hf : Ru.numR z = .ok ((⟨0, ((Un.amt (Pa.pk z.1).Text (Pa.unitOf z.1.tail)).1 : Nat), 0, 0, (Pa.pk z.1).At, default, default, []⟩ : Bt.Nd), Pa.unitRest z.1.tail, z.2) := by unfold Ru.numR; simp only []; rw [if_neg he]
   have hwn : wfH 0 ((Un.amt (Pa.pk z.1).Text (Pa.unitOf z.1.tail)).1 : Nat) 0 0 (Pa.pk z.1).At default default := wfH_0 (by omega) (by omega) hat
   refine gP ?_
   refine RW.q (v := .agg (nC 0 ((Un.amt (Pa.pk z.1).Text (Pa.unitOf z.1.tail)).1 : Nat) 0 0 (Pa.pk z.1).At default default nS).toArray) rfl (q_build (vals := [(0, iV 0), (1, iV ((Un.amt (Pa.pk z.1).Text (Pa.unitOf z.1.tail)).1 : Nat)), (4, iV (Pa.pk z.1).At)]) zero153 uT153 places153 rfl rfl) ?_
   refine RW.bxA (cs := nC 0 ((Un.amt (Pa.pk z.1).Text (Pa.unitOf z.1.tail)).1 : Nat) 0 0 (Pa.pk z.1).At default default nS) rfl rfl fun bn => ?_
   refine gP ?_
   refine fin_res (vs := [pB bn]) rfl rfl ⟨.tmp rfl, trivial⟩ rfl (fun w' hw => EK.ok hf ?_)
   unfold pA; rw [hpc]
   exact tr_fin0 [0, 4] (by decide) rfl hwn hw
 ·
  have h : ¬ ((Pa.pk z.1.tail).Kind = 0 ∧ Pa.isUnit (Pa.pk z.1.tail).Text = true) := by simpa using h
  have hU : Pa.unitOf z.1.tail = [] := by unfold Pa.unitOf; rw [if_neg h]
  have hR : Pa.unitRest z.1.tail = z.1.tail := by unfold Pa.unitRest; rw [if_neg h]
  have hpc : ∀ q : Int, pcs tv toks (Pa.unitRest z.1.tail, q) = [tv, iV ((toks.length - z.1.length + 1 : Nat) : Int), iV q] := fun q => by
   simp only [pcs]
   rw [hR, show toks.length - z.1.tail.length = toks.length - z.1.length + 1 by omega]
  refine gP ?_
  refine RW.q rfl (q_call (args := #[.string (bs (Pa.pk z.1).Text), .string (bs (Pa.unitOf z.1.tail))]) oK rfl (by rw [hU]; rfl) (fun w1 hw1 => Amount_c w1 (Go.K.hp w1) (Hp.le_refl _) (hG.mono hw1.phi) (by omega))) ?_
  refine gP ?_
  refine RW.alc rfl fun b6 => ?_
  refine gP ?_
  refine RW.g (v := .pointer (some ⟨p, 0, none⟩)) rfl rfl rfl (fun h => by exact q_nilCheck (gv_pos h)) ?_
  refine gP ?_
  refine RW.q (v := .bool ((!decide ((((Un.amt (Pa.pk z.1).Text (Pa.unitOf z.1.tail)).2.2 : Nat) : Int) = 0)) && decide (z.2 < 0))) rfl (qpA rfl rfl rfl) ?_
  refine gP ?_
  refine AW.cond rfl (fun he => ?_) fun he => ?_
  ·
   have he : ((Un.amt (Pa.pk z.1).Text (Pa.unitOf z.1.tail)).2.2 ≠ 0 ∧ z.2 < 0) := by simpa using he
   have hf : Ru.numR z = .ok ((⟨0, ((Un.amt (Pa.pk z.1).Text (Pa.unitOf z.1.tail)).1 : Nat), 0, 0, (Pa.pk z.1).At, default, default, []⟩ : Bt.Nd), Pa.unitRest z.1.tail, (Pa.pk z.1).At) := by unfold Ru.numR; simp only []; rw [if_pos he]
   have hwn : wfH 0 ((Un.amt (Pa.pk z.1).Text (Pa.unitOf z.1.tail)).1 : Nat) 0 0 (Pa.pk z.1).At default default := wfH_0 (by omega) (by omega) hat
   refine gP ?_
   refine RW.q (v := .agg (nC 0 ((Un.amt (Pa.pk z.1).Text (Pa.unitOf z.1.tail)).1 : Nat) 0 0 (Pa.pk z.1).At default default nS).toArray) rfl (q_build (vals := [(0, iV 0), (1, iV ((Un.amt (Pa.pk z.1).Text (Pa.unitOf z.1.tail)).1 : Nat)), (4, iV (Pa.pk z.1).At)]) zero153 uT153 places153 rfl rfl) ?_
   refine RW.bxA (cs := nC 0 ((Un.amt (Pa.pk z.1).Text (Pa.unitOf z.1.tail)).1 : Nat) 0 0 (Pa.pk z.1).At default default nS) rfl rfl fun bn => ?_
   refine gP ?_
   refine fin_res (vs := [pB bn]) rfl rfl ⟨.tmp rfl, trivial⟩ rfl (fun w' hw => EK.ok hf ?_)
   unfold pA; rw [hpc]
   exact tr_fin0 [0, 4] (by decide) rfl hwn hw
  ·
   have he : ¬ ((Un.amt (Pa.pk z.1).Text (Pa.unitOf z.1.tail)).2.2 ≠ 0 ∧ z.2 < 0) := by simpa using he
   have hf : Ru.numR z = .ok ((⟨0, ((Un.amt (Pa.pk z.1).Text (Pa.unitOf z.1.tail)).1 : Nat), 0, 0, (Pa.pk z.1).At, default, default, []⟩ : Bt.Nd), Pa.unitRest z.1.tail, z.2) := by unfold Ru.numR; simp only []; rw [if_neg he]
   have hwn : wfH 0 ((Un.amt (Pa.pk z.1).Text (Pa.unitOf z.1.tail)).1 : Nat) 0 0 (Pa.pk z.1).At default default := wfH_0 (by omega) (by omega) hat
   refine gP ?_
   refine RW.q (v := .agg (nC 0 ((Un.amt (Pa.pk z.1).Text (Pa.unitOf z.1.tail)).1 : Nat) 0 0 (Pa.pk z.1).At default default nS).toArray) rfl (q_build (vals := [(0, iV 0), (1, iV ((Un.amt (Pa.pk z.1).Text (Pa.unitOf z.1.tail)).1 : Nat)), (4, iV (Pa.pk z.1).At)]) zero153 uT153 places153 rfl rfl) ?_
   refine RW.bxA (cs := nC 0 ((Un.amt (Pa.pk z.1).Text (Pa.unitOf z.1.tail)).1 : Nat) 0 0 (Pa.pk z.1).At default default nS) rfl rfl fun bn => ?_
   refine gP ?_
   refine fin_res (vs := [pB bn]) rfl rfl ⟨.tmp rfl, trivial⟩ rfl (fun w' hw => EK.ok hf ?_)
   unfold pA; rw [hpc]
   exact tr_fin0 [0, 4] (by decide) rfl hwn hw
theorem truth_c (w : World) (Φ : Hp) (hΦ : Hp.le Φ (hp w)) {t : Bt.Token} (hat : I64 t.At) :
  Calls pg 149 #[.agg (tkC t).toArray] w (OwnK w Φ [] (.ok (Ru.truth t)) (fun _ (y : Nat × List Nat) => pB y.1) (fun x y => [tr x y.1 y.2]) pE (fun _ _ => False)) := by
 refine calls_of_AW (args := [.agg #[iV t.Kind, .string (bs t.Text), iV t.At]]) Tryz.func149 rfl (lBT rfl) (St ⟨w, Φ, []⟩ Φ []) (StP.init w Φ hΦ []) ?_
 show AW pg 26 [] _ _ _ [(0, .agg #[iV t.Kind, .string (bs t.Text), iV t.At])] _
 refine g2 ?_
 refine RW.bxA rfl rfl fun b1 => ?_
 refine g4 ?_
 refine AW.drawT (J0 := St ⟨w, Φ, []⟩ Φ [.blk b1 134 [iV t.Kind, .string (bs t.Text), iV t.At]]) (fun s J => ∃ (b2 : Nat), ∃ (b3 : Nat), s = [(0, .agg #[iV t.Kind, .string (bs t.Text), iV t.At]), (1, pV b1 0), (2, (.pointer none)), (5, pV b1 2), (6, iV t.At), (7, .agg #[iV 0, iV 0, iV 0, iV 0, iV t.At, iV 0, .string (bs ([])), iV 0, iV 0, .string (bs ([])), iV 0, nS]), (9, pV b1 2), (10, iV t.At), (11, .agg #[iV 0, iV 0, iV 0, iV 0, iV t.At, iV 0, .string (bs ([])), iV 0, iV 0, .string (bs ([])), iV 0, nS]), (8, pV b2 0), (3, pV b2 0), (12, pV b3 0), (4, pV b3 0)] ∧ J = St ⟨w, Φ, []⟩ Φ [.blk b3 153 [iV 0, iV 0, iV 0, iV 0, iV t.At, iV 0, .string (bs ([])), iV 0, iV 0, .string (bs ([])), iV 0, nS], .blk b2 153 [iV 0, iV 0, iV 0, iV 0, iV t.At, iV 0, .string (bs ([])), iV 0, iV 0, .string (bs ([])), iV 0, nS], .blk b1 134 [iV t.Kind, .string (bs t.Text), iV t.At]]) (.q 0 (.q 1 (.q 2 (.q 4 (.q 5 (.q 6 (.f 3 7 (.q 8 (.e 7 (.q 9 .nil))) (.e 3 (.q 8 (.q 9 .nil)))))))))) hmix (by kernel_rfl) ?_ ?_
 ·
  refine DT.q (v := pV b1 2) (fun _ h => h) rfl (q_fieldAddr rfl uT134 rfl sz3 rfl) (DT.q (v := iV t.At) (fun _ h => h) rfl (q_load rfl uT3 rfl (Cell.blk 0 rfl rfl)) (DT.q (v := .agg #[iV 0, iV 0, iV 0, iV 0, iV t.At, iV 0, .string (bs ([])), iV 0, iV 0, .string (bs ([])), iV 0, nS]) (fun _ h => h) rfl (q_build (vals := [(0, iV 0), (4, iV t.At)]) zero153 uT153 places153 rfl rfl) (DT.q (v := pV b1 2) (fun _ h => h) rfl (q_fieldAddr rfl uT134 rfl sz3 rfl) (DT.q (v := iV t.At) (fun _ h => h) rfl (q_load rfl uT3 rfl (Cell.blk 0 rfl rfl)) (DT.q (v := .agg #[iV 0, iV 0, iV 0, iV 0, iV t.At, iV 0, .string (bs ([])), iV 0, iV 0, .string (bs ([])), iV 0, nS]) (fun _ h => h) rfl (q_build (vals := [(0, iV 0), (4, iV t.At)]) zero153 uT153 places153 rfl rfl) (DT.fork (fun b2 : Nat => pV b2 0) (fun b2 : Nat => pV b2 0) (fun b2 => St ⟨w, Φ, []⟩ Φ [.blk b2 153 [iV 0, iV 0, iV 0, iV 0, iV t.At, iV 0, .string (bs ([])), iV 0, iV 0, .string (bs ([])), iV 0, nS], .blk b1 134 [iV t.Kind, .string (bs t.Text), iV t.At]]) (fun b2 => St ⟨w, Φ, []⟩ Φ [.blk b2 153 [iV 0, iV 0, iV 0, iV 0, iV t.At, iV 0, .string (bs ([])), iV 0, iV 0, .string (bs ([])), iV 0, nS], .blk b1 134 [iV t.Kind, .string (bs t.Text), iV t.At]]) rfl rfl trivial trivial (fun _ => (fun _ h => (StP.drop h (by exact .cons _ (.cons_cons _ (.slnil)))))) (fun _ => (fun _ h => (StP.drop h (by exact .cons _ (.cons_cons _ (.slnil)))))) (e_boxA (cs := [iV 0, iV 0, iV 0, iV 0, iV t.At, iV 0, .string (bs ([])), iV 0, iV 0, .string (bs ([])), iV 0, nS]) rfl) (e_boxA (cs := [iV 0, iV 0, iV 0, iV 0, iV t.At, iV 0, .string (bs ([])), iV 0, iV 0, .string (bs ([])), iV 0, nS]) rfl) ?_ ?_))))))
  ·
   intro b2
   refine DT.q (v := pV b2 0) (fun _ h => (StP.drop h (by exact .cons _ (.cons_cons _ (.slnil))))) rfl (q_assign rfl) (DT.eff (fun b3 : Nat => pV b3 0) (fun b3 => St ⟨w, Φ, []⟩ Φ [.blk b3 153 [iV 0, iV 0, iV 0, iV 0, iV t.At, iV 0, .string (bs ([])), iV 0, iV 0, .string (bs ([])), iV 0, nS], .blk b2 153 [iV 0, iV 0, iV 0, iV 0, iV t.At, iV 0, .string (bs ([])), iV 0, iV 0, .string (bs ([])), iV 0, nS], .blk b1 134 [iV t.Kind, .string (bs t.Text), iV t.At]]) (fun _ _ => (fun _ h => (StP.drop h (by exact .cons _ (.cons _ (.cons_cons _ (.slnil))))))) rfl (e_boxA (cs := [iV 0, iV 0, iV 0, iV 0, iV t.At, iV 0, .string (bs ([])), iV 0, iV 0, .string (bs ([])), iV 0, nS]) rfl) ?_)
   intro b3
   refine DT.q (v := pV b3 0) (fun _ h => (StP.drop h (by exact .cons _ (.cons _ (.cons_cons _ (.slnil)))))) rfl (q_assign rfl) (DT.nil (s' := _) (J' := _) ⟨b2, b3, rfl, rfl⟩ ⟨rfl, rfl, rfl, rfl, rfl, rfl, rfl, rfl, rfl, rfl, rfl, rfl, rfl, trivial⟩ (fun _ h => h))
  ·
   intro b2
   refine DT.eff (fun b3 : Nat => pV b3 0) (fun b3 => St ⟨w, Φ, []⟩ Φ [.blk b3 153 [iV 0, iV 0, iV 0, iV 0, iV t.At, iV 0, .string (bs ([])), iV 0, iV 0, .string (bs ([])), iV 0, nS], .blk b2 153 [iV 0, iV 0, iV 0, iV 0, iV t.At, iV 0, .string (bs ([])), iV 0, iV 0, .string (bs ([])), iV 0, nS], .blk b1 134 [iV t.Kind, .string (bs t.Text), iV t.At]]) (fun _ _ => (fun _ h => (StP.drop h (by exact .cons _ (.cons _ (.cons_cons _ (.slnil))))))) rfl (e_boxA (cs := [iV 0, iV 0, iV 0, iV 0, iV t.At, iV 0, .string (bs ([])), iV 0, iV 0, .string (bs ([])), iV 0, nS]) rfl) ?_
   intro b3
   refine DT.q (v := pV b3 0) (fun _ h => (StP.drop h (by exact .cons _ (.cons _ (.cons_cons _ (.slnil)))))) rfl (q_assign rfl) (DT.q (v := pV b2 0) (fun _ h => (StP.drop h (by exact .cons _ (.cons _ (.cons_cons _ (.slnil)))))) rfl (q_assign rfl) (DT.nil (s' := _) (J' := _) ⟨b3, b2, rfl, rfl⟩ ⟨rfl, rfl, rfl, rfl, rfl, rfl, rfl, rfl, rfl, rfl, rfl, rfl, rfl, trivial⟩ (fun _ h => StP.sel h [1, 0, 2] (by decide) rfl)))
 rintro _ _ _ ⟨b2, b3, rfl, rfl⟩
 refine g6 ?_
 refine RW.q (v := .bool (decide (t.Text = ([102, 97, 108, 115, 101] : List UInt8)))) rfl (q_eqlStr (l := t.Text) (r := ([102, 97, 108, 115, 101] : List UInt8)) rfl rfl) ?_
 refine g2 ?_
 refine AW.cond rfl (fun hc1 => ?_) fun hc1 => ?_
 ·
  simp [-List.getD_eq_getElem?_getD] at hc1
  refine g2 ?_
  refine RW.q (v := pV b3 0) rfl (q_nilCheck rfl) ?_
  refine g10 ?_
  refine RW.eff (fun b4 : Nat => (.slice (some ⟨b4, 0, none⟩) 2 2)) (fun b4 => St ⟨w, Φ, []⟩ Φ [.row (.slice (some ⟨b4, 0, none⟩) 2 2) 145 1 2 ([pV b2 0, pV b3 0]), .blk b3 153 [iV 0, iV 1, iV 0, iV 0, iV t.At, iV 0, .string (bs ([])), iV 0, iV 0, .string (bs ([])), iV 0, nS], .blk b2 153 [iV 0, iV 0, iV 0, iV 0, iV t.At, iV 0, .string (bs ([])), iV 0, iV 0, .string (bs ([])), iV 0, nS], .blk b1 134 [iV t.Kind, .string (bs t.Text), iV t.At]]) rfl (e_buildSlice (vals := [(0, pV b2 0), (1, pV b3 0)]) (cells := [pV b2 0, pV b3 0]) uT142 inf145 rfl rfl rfl (by kernel_rfl) rfl) ?_
  intro b4
  refine RW.q (v := .agg #[iV 10, iV 0, iV 0, iV 0, iV t.At, iV 0, .string (bs ([])), iV 0, iV 0, .string (bs ([])), iV 0, (.slice (some ⟨b4, 0, none⟩) 2 2)]) rfl (q_build (vals := [(0, iV 10), (4, iV t.At), (7, (.slice (some ⟨b4, 0, none⟩) 2 2))]) zero153 uT153 places153 rfl rfl) ?_
  refine RW.bxA rfl rfl fun b5 => ?_
  refine g4 ?_
  refine fin_res (vs := [pB b5]) rfl rfl ⟨.tmp rfl, trivial⟩ rfl (fun w1 hw1 => ?_)
  have hT : Ru.truth t = Ru.nd 10 t.At [Ru.nd 0 t.At [], ⟨0, 1, 0, 0, t.At, default, default, []⟩] := by unfold Ru.truth; rw [if_pos hc1]
  obtain ⟨F, hF⟩ := tr_fin2L (k := 10) (n := 0) (o := 0) (q := 0) (a := t.At) (k1 := 0) (n1 := 0) (o1 := 0) (q1 := 0) (a1 := t.At) (k2 := 0) (n2 := 1) (o2 := 0) (q2 := 0) (a2 := t.At) (nm := default) (ow := default) (nm1 := default) (ow1 := default) (nm2 := default) (ow2 := default) [0, 1, 3, 2] (by decide) rfl (wfH_0 (by omega) (by omega) hat) (wfH_0 (by omega) (by omega) hat) (wfH_0 (by omega) (by omega) hat) hw1
  exact .inl ⟨Ru.truth t, (b5, F), rfl, rfl, by rw [hT]; exact hF⟩
 ·
  simp [-List.getD_eq_getElem?_getD] at hc1
  refine g8 ?_
  refine RW.eff (fun b6 : Nat => (.slice (some ⟨b6, 0, none⟩) 2 2)) (fun b6 => St ⟨w, Φ, []⟩ Φ [.row (.slice (some ⟨b6, 0, none⟩) 2 2) 145 1 2 ([pV b2 0, pV b3 0]), .blk b3 153 [iV 0, iV 0, iV 0, iV 0, iV t.At, iV 0, .string (bs ([])), iV 0, iV 0, .string (bs ([])), iV 0, nS], .blk b2 153 [iV 0, iV 0, iV 0, iV 0, iV t.At, iV 0, .string (bs ([])), iV 0, iV 0, .string (bs ([])), iV 0, nS], .blk b1 134 [iV t.Kind, .string (bs t.Text), iV t.At]]) rfl (e_buildSlice (vals := [(0, pV b2 0), (1, pV b3 0)]) (cells := [pV b2 0, pV b3 0]) uT142 inf145 rfl rfl rfl (by kernel_rfl) rfl) ?_
  intro b6
  refine RW.q (v := .agg #[iV 10, iV 0, iV 0, iV 0, iV t.At, iV 0, .string (bs ([])), iV 0, iV 0, .string (bs ([])), iV 0, (.slice (some ⟨b6, 0, none⟩) 2 2)]) rfl (q_build (vals := [(0, iV 10), (4, iV t.At), (7, (.slice (some ⟨b6, 0, none⟩) 2 2))]) zero153 uT153 places153 rfl rfl) ?_
  refine RW.bxA rfl rfl fun b7 => ?_
  refine g4 ?_
  refine fin_res (vs := [pB b7]) rfl rfl ⟨.tmp rfl, trivial⟩ rfl (fun w1 hw1 => ?_)
  have hT : Ru.truth t = Ru.nd 10 t.At [Ru.nd 0 t.At [], ⟨0, 0, 0, 0, t.At, default, default, []⟩] := by unfold Ru.truth; rw [if_neg hc1]
  obtain ⟨F, hF⟩ := tr_fin2L (k := 10) (n := 0) (o := 0) (q := 0) (a := t.At) (k1 := 0) (n1 := 0) (o1 := 0) (q1 := 0) (a1 := t.At) (k2 := 0) (n2 := 0) (o2 := 0) (q2 := 0) (a2 := t.At) (nm := default) (ow := default) (nm1 := default) (ow1 := default) (nm2 := default) (ow2 := default) [0, 1, 3, 2] (by decide) rfl (wfH_0 (by omega) (by omega) hat) (wfH_0 (by omega) (by omega) hat) (wfH_0 (by omega) (by omega) hat) hw1
  exact .inl ⟨Ru.truth t, (b7, F), rfl, rfl, by rw [hT]; exact hF⟩
theorem factOf_c (w : World) (Φ : Hp) (hΦ : Hp.le Φ (hp w)) {l : List UInt8} :
  Calls pg 148 #[.string (bs l)] w fun e w' => e = .returned (.tuple #[iV ((Ru.factOf l).getD 0), .bool (Ru.factOf l).isSome]) ∧ Bel w.heap.size w w' := by
 refine calls_of_AW (args := [.string (bs l)]) Tryz.func148 rfl (lBT rfl) (St ⟨w, Φ, []⟩ Φ []) (StP.init w Φ hΦ []) ?_
 show AW pg 21 [] _ _ _ [(0, .string (bs l))] _
 refine g15 ?_
 refine RW.q (v := .bool (decide (l = ([118, 111, 108, 117, 109, 101] : List UInt8)))) rfl (q_eqlStr (l := l) (r := ([118, 111, 108, 117, 109, 101] : List UInt8)) rfl rfl) ?_
 refine g3 ?_
 refine AW.cond rfl (fun hc1 => ?_) fun hc1 => ?_
 ·
  simp [-List.getD_eq_getElem?_getD] at hc1
  refine g9 ?_
  have hf : Ru.factOf l = some 0 := by unfold Ru.factOf; rw [if_pos hc1]
  exact fin_res (vs := [iV 0, .bool true]) rfl rfl ⟨.tmp rfl, .tmp rfl, trivial⟩ rfl (fun w1 hw1 => ⟨by rw [hf]; rfl, hw1.below rfl⟩)
 ·
  simp [-List.getD_eq_getElem?_getD] at hc1
  refine g2 ?_
  refine RW.q (v := .bool (decide (l = ([108, 101, 118, 101, 108] : List UInt8)))) rfl (q_eqlStr (l := l) (r := ([108, 101, 118, 101, 108] : List UInt8)) rfl rfl) ?_
  refine g3 ?_
  refine AW.cond rfl (fun hc2 => ?_) fun hc2 => ?_
  ·
   simp [-List.getD_eq_getElem?_getD] at hc2
   refine g9 ?_
   have hf : Ru.factOf l = some 1 := by unfold Ru.factOf; rw [if_neg hc1, if_pos hc2]
   exact fin_res (vs := [iV 1, .bool true]) rfl rfl ⟨.tmp rfl, .tmp rfl, trivial⟩ rfl (fun w1 hw1 => ⟨by rw [hf]; rfl, hw1.below rfl⟩)
  ·
   simp [-List.getD_eq_getElem?_getD] at hc2
   refine g2 ?_
   refine RW.q (v := .bool (decide (l = ([111, 119, 110, 101, 100] : List UInt8)))) rfl (q_eqlStr (l := l) (r := ([111, 119, 110, 101, 100] : List UInt8)) rfl rfl) ?_
   refine g3 ?_
   refine AW.cond rfl (fun hc3 => ?_) fun hc3 => ?_
   ·
    simp [-List.getD_eq_getElem?_getD] at hc3
    refine g9 ?_
    have hf : Ru.factOf l = some 2 := by unfold Ru.factOf; rw [if_neg hc1, if_neg hc2, if_pos hc3]
    exact fin_res (vs := [iV 2, .bool true]) rfl rfl ⟨.tmp rfl, .tmp rfl, trivial⟩ rfl (fun w1 hw1 => ⟨by rw [hf]; rfl, hw1.below rfl⟩)
   ·
    simp [-List.getD_eq_getElem?_getD] at hc3
    refine g2 ?_
    refine RW.q (v := .bool (decide (l = ([112, 111, 115] : List UInt8)))) rfl (q_eqlStr (l := l) (r := ([112, 111, 115] : List UInt8)) rfl rfl) ?_
    refine g3 ?_
    refine AW.cond rfl (fun hc4 => ?_) fun hc4 => ?_
    ·
     simp [-List.getD_eq_getElem?_getD] at hc4
     refine g9 ?_
     have hf : Ru.factOf l = some 3 := by unfold Ru.factOf; rw [if_neg hc1, if_neg hc2, if_neg hc3, if_pos hc4]
     exact fin_res (vs := [iV 3, .bool true]) rfl rfl ⟨.tmp rfl, .tmp rfl, trivial⟩ rfl (fun w1 hw1 => ⟨by rw [hf]; rfl, hw1.below rfl⟩)
    ·
     simp [-List.getD_eq_getElem?_getD] at hc4
     refine g2 ?_
     refine RW.q (v := .bool (decide (l = ([104, 111, 117, 114] : List UInt8)))) rfl (q_eqlStr (l := l) (r := ([104, 111, 117, 114] : List UInt8)) rfl rfl) ?_
     refine g3 ?_
     refine AW.cond rfl (fun hc5 => ?_) fun hc5 => ?_
     ·
      simp [-List.getD_eq_getElem?_getD] at hc5
      refine g9 ?_
      have hf : Ru.factOf l = some 4 := by unfold Ru.factOf; rw [if_neg hc1, if_neg hc2, if_neg hc3, if_neg hc4, if_pos hc5]
      exact fin_res (vs := [iV 4, .bool true]) rfl rfl ⟨.tmp rfl, .tmp rfl, trivial⟩ rfl (fun w1 hw1 => ⟨by rw [hf]; rfl, hw1.below rfl⟩)
     ·
      simp [-List.getD_eq_getElem?_getD] at hc5
      refine g2 ?_
      refine RW.q (v := .bool (decide (l = ([100, 97, 121] : List UInt8)))) rfl (q_eqlStr (l := l) (r := ([100, 97, 121] : List UInt8)) rfl rfl) ?_
      refine g3 ?_
      refine AW.cond rfl (fun hc6 => ?_) fun hc6 => ?_
      ·
       simp [-List.getD_eq_getElem?_getD] at hc6
       refine g9 ?_
       have hf : Ru.factOf l = some 5 := by unfold Ru.factOf; rw [if_neg hc1, if_neg hc2, if_neg hc3, if_neg hc4, if_neg hc5, if_pos hc6]
       exact fin_res (vs := [iV 5, .bool true]) rfl rfl ⟨.tmp rfl, .tmp rfl, trivial⟩ rfl (fun w1 hw1 => ⟨by rw [hf]; rfl, hw1.below rfl⟩)
      ·
       simp [-List.getD_eq_getElem?_getD] at hc6
       refine g2 ?_
       refine RW.q (v := .bool (decide (l = ([109, 111, 110, 116, 104] : List UInt8)))) rfl (q_eqlStr (l := l) (r := ([109, 111, 110, 116, 104] : List UInt8)) rfl rfl) ?_
       refine g3 ?_
       refine AW.cond rfl (fun hc7 => ?_) fun hc7 => ?_
       ·
        simp [-List.getD_eq_getElem?_getD] at hc7
        refine g9 ?_
        have hf : Ru.factOf l = some 6 := by unfold Ru.factOf; rw [if_neg hc1, if_neg hc2, if_neg hc3, if_neg hc4, if_neg hc5, if_neg hc6, if_pos hc7]
        exact fin_res (vs := [iV 6, .bool true]) rfl rfl ⟨.tmp rfl, .tmp rfl, trivial⟩ rfl (fun w1 hw1 => ⟨by rw [hf]; rfl, hw1.below rfl⟩)
       ·
        simp [-List.getD_eq_getElem?_getD] at hc7
        refine g2 ?_
        refine RW.q (v := .bool (decide (l = ([99, 114, 101, 115, 116] : List UInt8)))) rfl (q_eqlStr (l := l) (r := ([99, 114, 101, 115, 116] : List UInt8)) rfl rfl) ?_
        refine g3 ?_
        refine AW.cond rfl (fun hc8 => ?_) fun hc8 => ?_
        ·
         simp [-List.getD_eq_getElem?_getD] at hc8
         refine g9 ?_
         have hf : Ru.factOf l = some 7 := by unfold Ru.factOf; rw [if_neg hc1, if_neg hc2, if_neg hc3, if_neg hc4, if_neg hc5, if_neg hc6, if_neg hc7, if_pos hc8]
         exact fin_res (vs := [iV 7, .bool true]) rfl rfl ⟨.tmp rfl, .tmp rfl, trivial⟩ rfl (fun w1 hw1 => ⟨by rw [hf]; rfl, hw1.below rfl⟩)
        ·
         simp [-List.getD_eq_getElem?_getD] at hc8
         refine g10 ?_
         have hf : Ru.factOf l = none := by unfold Ru.factOf; rw [if_neg hc1, if_neg hc2, if_neg hc3, if_neg hc4, if_neg hc5, if_neg hc6, if_neg hc7, if_neg hc8]
         exact fin_res (vs := [iV 0, .bool false]) rfl rfl ⟨.tmp rfl, .tmp rfl, trivial⟩ rfl (fun w1 hw1 => ⟨by rw [hf]; rfl, hw1.below rfl⟩)
end Go.Proofs.YtnfmjfheciihjaaGreatDoor
namespace Go.Proofs.YtnfmjfheciihjaaGreatDoor
open Go Go.K Go.RowKit
open Ru (tr pB nC wfH wfK tr_fin0 tr_fin1 tr_fin2 tr_fin3 tr_at tr_wf)
attribute [local irreducible] AW RW DW Post Qt
section
variable (w : World) (Φ : Hp) {p : Nat} {tv : Value} {toks : List Bt.Token} {z : Ru.S}
theorem fact_c (hc : PCtx Φ toks tv) (hz : PS toks z) {t : Bt.Token} (ht : Lx.wfT 65536 t) {k : Int} (hk0 : 0 ≤ k ∧ k ≤ 7) (h0 : StP ⟨w, Φ, [p]⟩ Φ [pA p tv toks z] w) :
  Calls pg 150 #[.pointer (some ⟨p, 0, none⟩), .agg (tkC t).toArray, iV k] w (EK w Φ p tv toks z (Ru.factR t k z)) := by
 refine calls_of_AW (args := [.pointer (some ⟨p, 0, none⟩), .agg (tkC t).toArray, iV k]) Tryz.func150 rfl (lBT rfl) (St ⟨w, Φ, [p]⟩ Φ [pA p tv toks z]) h0 ?_
 show AW _ _ [] _ _ _ [(0, .pointer (some ⟨p, 0, none⟩)), (1, .agg (tkC t).toArray), (2, iV k)] _
 have hat := wfT_at ht
 refine gP ?_
 refine RW.bxA (cs := tkC t) rfl rfl fun b4 => ?_
 refine gP ?_
 refine RW.q (v := .agg (nC 1 k 0 0 t.At default default nS).toArray) rfl (q_build (vals := [(0, iV 1), (1, iV k), (4, iV t.At)]) zero153 uT153 places153 rfl rfl) ?_
 refine RW.bxA (cs := nC 1 k 0 0 t.At default default nS) rfl rfl fun bn => ?_
 refine gP ?_
 refine AW.orCh (t := 14) (x := 13) (a := k) rfl rfl _ rfl rfl rfl rfl fun _ => ?_
 refine gP ?_
 refine AW.cond rfl (fun h => ?_) fun h => ?_
 ·
  have h : k = 4 ∨ k = 5 ∨ k = 6 := by simpa using h
  have hf : Ru.factR t k z = .ok (⟨1, k, 0, 0, t.At, default, default, []⟩, z) := by unfold Ru.factR; rw [if_pos h]
  refine gP ?_
  exact fin_res (vs := [pB bn]) rfl rfl ⟨.tmp rfl, trivial⟩ rfl (fun w' hw => EK.ok hf (tr_fin0 [0, 2] (by decide) rfl (wfH_0 (by omega) (by omega) hat) hw))
 have h : ¬ (k = 4 ∨ k = 5 ∨ k = 6) := by simpa using h
 have hf0 : Ru.factR t k z = Ru.bnd (Ru.exp Ru.sLp z) fun _ s => Ru.bnd (Ru.nameR s) fun nm s =>
   if k = 2 then Ru.bnd (Ru.exp Ru.sComma s) fun _ s => Ru.bnd (Ru.nameR s) fun ow s => Ru.bnd (Ru.exp Ru.sRp s) fun _ s => .ok (⟨1, k, 0, 0, t.At, nm, ow, []⟩, s)
   else Ru.bnd (Ru.exp Ru.sRp s) fun _ s => .ok (⟨1, k, 0, 0, t.At, nm, default, []⟩, s) := by unfold Ru.factR; rw [if_neg h]
 refine gP ?_
 refine RW.own (args := #[.pointer (some ⟨p, 0, none⟩), .string (bs Ru.sLp)]) (C2 := [.blk bn 153 (nC 1 k 0 0 t.At default default nS)]) [2, 0] (by decide) rfl rfl oK rfl rfl (fun w1 hw1 => expect_c w1 Φ hc hz hw1) (fun er CE w' he hk hw => PK.pn (hf0.trans (Ru.bnd_of_err he)) hk hw) ?_
 rintro ⟨_, z1⟩ _ hr1
 have hz1 : PS toks z1 := by obtain ⟨h1, rfl, _⟩ := Ru.exp_ok hz.good hr1; exact hz.ad h1
 have hf1 := hf0.trans (Ru.bnd_of_ok hr1)
 refine gP ?_
 refine RW.own (args := #[.pointer (some ⟨p, 0, none⟩)]) (C2 := [.blk bn 153 (nC 1 k 0 0 t.At default default nS)]) [0, 1] (by decide) rfl rfl oK rfl rfl (fun w1 hw1 => name_c w1 Φ hc hz1 hw1) (fun er CE w' he hk hw => PK.pn (hf1.trans (Ru.bnd_of_err he)) hk hw) ?_
 rintro ⟨nm, z2⟩ _ hr2
 have hz2 : PS toks z2 := by obtain ⟨h1, rfl, _⟩ := Ru.nameR_ok hz1.good hr2; exact hz1.ad h1
 have hwn : wfK nm := by obtain ⟨_, _, rfl⟩ := Ru.nameR_ok hz1.good hr2; exact wfK_of (wf_pk hc.wf hz1.suf hz1.ne)
 have hf2 := hf1.trans (Ru.bnd_of_ok hr2)
 refine gP ?_
 refine RW.effn (J' := St ⟨w, Φ, [p]⟩ Φ [pA p tv toks z2, .blk bn 153 (nC 1 k 0 0 t.At nm default nS)]) (e_store (v := .agg (tkC nm).toArray) 1 rfl rfl rfl sz134 rfl rfl rfl rfl rfl) ?_
 refine gP ?_
 refine AW.cond rfl (fun h2 => ?_) fun h2 => ?_
 ·
  have h2 : k = 2 := by simpa using h2
  have hf3 := hf2.trans (if_pos h2)
  refine gP ?_
  refine RW.own (args := #[.pointer (some ⟨p, 0, none⟩), .string (bs Ru.sComma)]) (C2 := [.blk bn 153 (nC 1 k 0 0 t.At nm default nS)]) [0, 1] (by decide) rfl rfl oK rfl rfl (fun w1 hw1 => expect_c w1 Φ hc hz2 hw1) (fun er CE w' he hk hw => PK.pn (hf3.trans (Ru.bnd_of_err he)) hk hw) ?_
  rintro ⟨_, z3⟩ _ hr3
  have hz3 : PS toks z3 := by obtain ⟨h1, rfl, _⟩ := Ru.exp_ok hz2.good hr3; exact hz2.ad h1
  have hf4 := hf3.trans (Ru.bnd_of_ok hr3)
  refine gP ?_
  refine RW.own (args := #[.pointer (some ⟨p, 0, none⟩)]) (C2 := [.blk bn 153 (nC 1 k 0 0 t.At nm default nS)]) [0, 1] (by decide) rfl rfl oK rfl rfl (fun w1 hw1 => name_c w1 Φ hc hz3 hw1) (fun er CE w' he hk hw => PK.pn (hf4.trans (Ru.bnd_of_err he)) hk hw) ?_
  rintro ⟨ow, z4⟩ _ hr4
  have hz4 : PS toks z4 := by obtain ⟨h1, rfl, _⟩ := Ru.nameR_ok hz3.good hr4; exact hz3.ad h1
  have hwo : wfK ow := by obtain ⟨_, _, rfl⟩ := Ru.nameR_ok hz3.good hr4; exact wfK_of (wf_pk hc.wf hz3.suf hz3.ne)
  have hf5 := hf4.trans (Ru.bnd_of_ok hr4)
  refine gP ?_
  refine RW.effn (J' := St ⟨w, Φ, [p]⟩ Φ [pA p tv toks z4, .blk bn 153 (nC 1 k 0 0 t.At nm ow nS)]) (e_store (v := .agg (tkC ow).toArray) 1 rfl rfl rfl sz134 rfl rfl rfl rfl rfl) ?_
  refine gP ?_
  refine RW.own (args := #[.pointer (some ⟨p, 0, none⟩), .string (bs Ru.sRp)]) (C2 := [.blk bn 153 (nC 1 k 0 0 t.At nm ow nS)]) [0, 1] (by decide) rfl rfl oK rfl rfl (fun w1 hw1 => expect_c w1 Φ hc hz4 hw1) (fun er CE w' he hk hw => PK.pn (hf5.trans (Ru.bnd_of_err he)) hk hw) ?_
  rintro ⟨_, z5⟩ _ hr5
  have hf6 := hf5.trans (Ru.bnd_of_ok hr5)
  refine gP ?_
  exact fin_res (vs := [pB bn]) rfl rfl ⟨.tmp rfl, trivial⟩ rfl (fun w' hw => EK.ok hf6 (tr_fin0 [1, 0] (by decide) rfl (wfH_nm (by omega) (by omega) hat hwn hwo) hw))
 ·
  have h2 : k ≠ 2 := by simpa using h2
  have hf3 := hf2.trans (if_neg h2)
  refine gP ?_
  refine RW.own (args := #[.pointer (some ⟨p, 0, none⟩), .string (bs Ru.sRp)]) (C2 := [.blk bn 153 (nC 1 k 0 0 t.At nm default nS)]) [0, 1] (by decide) rfl rfl oK rfl rfl (fun w1 hw1 => expect_c w1 Φ hc hz2 hw1) (fun er CE w' he hk hw => PK.pn (hf3.trans (Ru.bnd_of_err he)) hk hw) ?_
  rintro ⟨_, z5⟩ _ hr5
  have hf6 := hf3.trans (Ru.bnd_of_ok hr5)
  refine gP ?_
  exact fin_res (vs := [pB bn]) rfl rfl ⟨.tmp rfl, trivial⟩ rfl (fun w' hw => EK.ok hf6 (tr_fin0 [1, 0] (by decide) rfl (wfH_nm (by omega) (by omega) hat hwn wfK0) hw))
end
end Go.Proofs.YtnfmjfheciihjaaGreatDoor
