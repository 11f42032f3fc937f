/- The parser of trees: its small functions. Conditions: those of each theorem. -/
import Derived.Test.YtjcahklnkakklaaDoorTNodeD
import Derived.Test.YtjcahklnkakklaaDoorTScB
import Derived.Test.YtjcahklnkakklaaDoorTUnC
namespace Go.Proofs.YtjcahklnkakklaaDoor
open Go Go.K Go.RowKit
attribute [local irreducible] AW RW DW Post Qt
/-- the tokens of a parser -/
structure PCtx (Φ : Hp) (toks : List Bt.Token) (tv : Value) : Prop where
  rep : RepSl Φ toks tv
  wf : ∀ t ∈ toks, Lx.wfT 65536 t
  len : toks.length ≤ 65537
theorem PCtx.mono {Φ Ψ : Hp} {toks : List Bt.Token} {tv : Value} (h : PCtx Φ toks tv) (hl : Hp.le Φ Ψ) : PCtx Ψ toks tv := ⟨h.rep.mono hl, h.wf, h.len⟩
/-- a parser that has still to read ts -/
abbrev pcs (tv : Value) (toks ts : List Bt.Token) : List Value := [tv, .int .i64 ((toks.length - ts.length : Nat) : Int)]
theorem pcs_next {tv : Value} {toks ts : List Bt.Token} (hs : ts <:+ toks) (hl : ts.tail.length + 1 = ts.length) : pcs tv toks ts.tail = [tv, .int .i64 ((toks.length - ts.length + 1 : Nat) : Int)] := by
  have := Pa.suf_len hs
  rw [pcs, show toks.length - ts.tail.length = toks.length - ts.length + 1 by omega]
abbrev tkC (x : Bt.Token) : List Value := [.int .i64 x.Kind, .string (bs x.Text), .int .i64 x.At]
theorem wf_pk {toks ts : List Bt.Token} (h : ∀ t ∈ toks, Lx.wfT 65536 t) (hs : ts <:+ toks) (hn : ts ≠ []) : Lx.wfT 65536 (Pa.pk ts) := by
  match ts, hn with
  | t :: r, _ => exact h t (hs.subset (List.mem_cons_self ..))
set_option maxRecDepth 8000 in
set_option maxHeartbeats 1000000 in
theorem peek_c (w : World) {p : Nat} {tv : Value} {toks ts : List Bt.Token} (h1 : w.heap[p]? = some (.cells (pcs tv toks ts).toArray 61 (0, 0))) (hc : PCtx (hp w) toks tv) (hs : ts <:+ toks) (hn : ts ≠ []) :
    Calls Tryd.prog 37 #[.pointer (some ⟨p, 0, none⟩)] w fun e w' => e = .returned (.agg (tkC (Pa.pk ts)).toArray) ∧ Bel w.heap.size w w' := by
  refine calls_of_AW (args := [.pointer (some ⟨p, 0, none⟩)]) Tryd.func37 rfl (Nat.le_of_ble_eq_true rfl) (St ⟨w, hp w, []⟩ (hp w) []) (StP.init w (hp w) (Hp.le_refl _) []) ?_
  show AW _ _ [] _ _ _ [(0, .pointer (some ⟨p, 0, none⟩))] _
  have hc1 : ∀ {C : List Chunk} {o : Nat} {v : Value}, (pcs tv toks ts)[o]? = some v → Cell (St ⟨w, hp w, []⟩ (hp w) C) ⟨p, o, none⟩ v := fun {C o v} h => Cell.phi ⟨_, _, _, h1, rfl, by simpa using h⟩
  obtain ⟨hlt, hget⟩ := Pa.suf_get hs hn
  repeat refine g1 ?_
  refine RW.alc rfl fun b2 => ?_
  repeat refine g1 ?_
  refine AW.draw (J0 := St ⟨w, hp w, []⟩ (hp w) [.blk b2 39 [.int .i64 0, .string (bs []), .int .i64 0]]) [.q, .q, .q, .q, .q, .q, .q, .q, .q, .q, .e] [0, 1, 2, 3, 4, 5, 6, 7, 8, 9, 10] hmix (by kernel_rfl) ?_
  repeat refine g1 ?_
  refine DW.q (fun _ h => h) rfl (qa_ld rfl (hc1 rfl)) ?_
  repeat refine g1 ?_
  refine DW.q (fun _ h => h) rfl (qa_ld rfl (hc1 rfl)) ?_
  refine DW.q (v := .pointer (some (Value.at tv ((toks.length - ts.length) * 3)))) (fun _ h => h) rfl (q_indexAddr rfl rfl hc.rep.sl Tryd.underlying35 sz39 (by omega) (by omega) rfl) ?_
  refine DW.q (v := .agg (tkC (Pa.pk ts)).toArray) (fun _ h => h) rfl (qa_ldA (cs := tkC (Pa.pk ts)) rfl (Cells.repE (α := Bt.Token) hc.rep hlt (by rw [hget]; rfl)) rfl) ?_
  repeat refine g1 ?_
  exact fin_res (vs := [.agg (tkC (Pa.pk ts)).toArray]) rfl rfl ⟨.agg rfl rfl (Cells.blk 0 rfl), trivial⟩ rfl (fun w' hw => ⟨rfl, hw.below rfl⟩)
theorem blkAt {B : Bs} {Φ : Hp} {C : List Chunk} {w : World} {p T : Nat} {cs : List Value} (i : Nat) (hi : C[i]? = some (.blk p T cs)) (h : StP B Φ C w) : w.heap[p]? = some (.cells cs.toArray T (0, 0)) := h.sat _ (List.mem_of_getElem? hi)
theorem fail_to {α β : Type} {ts : List Bt.Token} {e : Int × Int} (h : Pa.fail (α := α) ts = .error e) : Pa.fail (α := β) ts = .error e := by
  unfold Pa.fail at *; cases h; rfl
section
variable (w : World) (Φ : Hp) {p : Nat} {tv : Value} {toks ts : List Bt.Token}
set_option maxRecDepth 8000 in
set_option maxHeartbeats 1000000 in
theorem fail_c (hc : PCtx Φ toks tv) (hs : ts <:+ toks) (hg : Pa.good ts) (h0 : StP ⟨w, Φ, [p]⟩ Φ [.blk p 61 (pcs tv toks ts)] w) :
    Calls Tryd.prog 68 #[.pointer (some ⟨p, 0, none⟩)] w (ParR 57 w Φ p 61 (pcs tv toks) (Pa.fail (α := Unit) ts) fun _ _ _ => True) := by
  refine calls_of_AW (args := [.pointer (some ⟨p, 0, none⟩)]) Tryd.func68 rfl (Nat.le_of_ble_eq_true rfl) (St ⟨w, Φ, [p]⟩ Φ [.blk p 61 (pcs tv toks ts)]) h0 ?_
  show AW _ _ [] _ _ _ [(0, .pointer (some ⟨p, 0, none⟩))] _
  repeat refine g1 ?_
  refine RW.q rfl (q_call (args := #[.pointer (some ⟨p, 0, none⟩)]) own37 rfl rfl (fun w1 hw1 => peek_c w1 (blkAt 0 rfl hw1) (hc.mono hw1.phi) hs (Pa.good_ne hg))) ?_
  repeat refine g1 ?_
  refine RW.q (v := .agg #[.int .i64 2, .int .i64 (Pa.pk ts).At]) rfl (q_build (vals := [(0, .int .i64 2), (1, .int .i64 (Pa.pk ts).At)]) zero57 Tryd.underlying57 places57 rfl rfl) ?_
  repeat refine g1 ?_
  exact RW.pan rfl (fun w' hw' => .inr ⟨2, _, rfl, rfl, _, hw'.drop (List.nil_sublist _)⟩)
set_option maxRecDepth 8000 in
set_option maxHeartbeats 1000000 in
theorem is_c {c : List UInt8} (h1 : w.heap[p]? = some (.cells (pcs tv toks ts).toArray 61 (0, 0))) (hc : PCtx (hp w) toks tv) (hs : ts <:+ toks) (hn : ts ≠ []) :
    Calls Tryd.prog 69 #[.pointer (some ⟨p, 0, none⟩), .string (bs c)] w fun e w' => e = .returned (.bool (Pa.isS c ts)) ∧ Bel w.heap.size w w' := by
  refine calls_of_AW (args := [.pointer (some ⟨p, 0, none⟩), .string (bs c)]) Tryd.func69 rfl (Nat.le_of_ble_eq_true rfl) (St ⟨w, hp w, []⟩ (hp w) []) (StP.init w (hp w) (Hp.le_refl _) []) ?_
  show AW _ _ [] _ _ _ [(0, .pointer (some ⟨p, 0, none⟩)), (1, .string (bs c))] _
  have hq : ∀ {C : List Chunk} {w1 : World}, (St ⟨w, hp w, []⟩ (hp w) C).p w1 → w1.heap[p]? = some (.cells (pcs tv toks ts).toArray 61 (0, 0)) := fun h => h.phi _ _ h1
  repeat refine g1 ?_
  refine RW.q rfl (q_call (args := #[.pointer (some ⟨p, 0, none⟩)]) own37 rfl rfl (fun w1 hw1 => peek_c w1 (hq hw1) (hc.mono hw1.phi) hs hn)) ?_
  refine RW.alc rfl fun b5 => ?_
  repeat refine g1 ?_
  refine RW.g (b := decide ((Pa.pk ts).Kind = 3)) (v := .bool (decide ((Pa.pk ts).Text = c))) rfl rfl rfl (fun h => by exact q_eqlStr (gv_pos h) (gv_pos h)) ?_
  refine RW.q (v := .bool (Pa.isS c ts)) rfl (q_pick rfl (fun hp => (gv_pos hp).trans (pkAndT hp)) (fun hp => pkAndF hp)) ?_
  repeat refine g1 ?_
  exact fin_res (vs := [.bool (Pa.isS c ts)]) rfl rfl ⟨.tmp rfl, trivial⟩ rfl (fun w' hw => ⟨rfl, hw.below rfl⟩)
set_option maxRecDepth 8000 in
set_option maxHeartbeats 1000000 in
theorem psk_c {c : List UInt8} (hc : PCtx Φ toks tv) (hs : ts <:+ toks) (hg : Pa.good ts) (h0 : StP ⟨w, Φ, [p]⟩ Φ [.blk p 61 (pcs tv toks ts)] w) :
    Calls Tryd.prog 54 #[.pointer (some ⟨p, 0, none⟩), .string (bs c)] w (ParR 57 w Φ p 61 (pcs tv toks) (.ok (Pa.isS c ts, if Pa.isS c ts = true then ts.tail else ts)) fun b r _ => r = .bool b) := by
  refine calls_of_AW (args := [.pointer (some ⟨p, 0, none⟩), .string (bs c)]) Tryd.func54 rfl (Nat.le_of_ble_eq_true rfl) (St ⟨w, Φ, [p]⟩ Φ [.blk p 61 (pcs tv toks ts)]) h0 ?_
  show AW _ _ [] _ _ _ [(0, .pointer (some ⟨p, 0, none⟩)), (1, .string (bs c))] _
  repeat refine g1 ?_
  refine RW.q rfl (q_call (args := #[.pointer (some ⟨p, 0, none⟩), .string (bs c)]) own69 rfl rfl (fun w1 hw1 => is_c w1 (blkAt 0 rfl hw1) (hc.mono hw1.phi) hs (Pa.good_ne hg))) ?_
  repeat refine g1 ?_
  refine AW.cond rfl (fun h => ?_) fun h => ?_
  · have h : Pa.isS c ts = false := by simpa using h
    repeat refine g1 ?_
    exact fin_res (vs := [.bool false]) rfl rfl ⟨.tmp rfl, trivial⟩ rfl (fun w' hw => .inl ⟨false, ts, .bool false, Φ, by rw [h, if_neg (by simp)], rfl, Hp.le_refl _, hw, rfl⟩)
  · have h : Pa.isS c ts = true := by simpa using h
    have hk : (Pa.pk ts).Kind = 3 := by unfold Pa.isS at h; simp only [Bool.and_eq_true, decide_eq_true_eq] at h; exact h.1
    obtain ⟨_, hl⟩ := Pa.good_tail hg (by omega)
    have hle := Pa.suf_len hs
    have hln := hc.len
    repeat refine g1 ?_
    exact fin_res (vs := [.bool true]) rfl rfl ⟨.tmp rfl, trivial⟩ rfl (fun w' hw => .inl ⟨true, ts.tail, .bool true, Φ, by rw [h, if_pos rfl], rfl, Hp.le_refl _, by rw [pcs_next hs hl]; exact hw, rfl⟩)
set_option maxRecDepth 8000 in
set_option maxHeartbeats 1000000 in
theorem name_c (hc : PCtx Φ toks tv) (hs : ts <:+ toks) (hg : Pa.good ts) (h0 : StP ⟨w, Φ, [p]⟩ Φ [.blk p 61 (pcs tv toks ts)] w) :
    Calls Tryd.prog 53 #[.pointer (some ⟨p, 0, none⟩)] w (ParR 57 w Φ p 61 (pcs tv toks) (Pa.nameP ts) fun x r _ => r = .agg (tkC x).toArray) := by
  refine calls_of_AW (args := [.pointer (some ⟨p, 0, none⟩)]) Tryd.func53 rfl (Nat.le_of_ble_eq_true rfl) (St ⟨w, Φ, [p]⟩ Φ [.blk p 61 (pcs tv toks ts)]) h0 ?_
  show AW _ _ [] _ _ _ [(0, .pointer (some ⟨p, 0, none⟩))] _
  repeat refine g1 ?_
  refine RW.alc rfl fun b2 => ?_
  repeat refine g1 ?_
  refine RW.q rfl (q_call (args := #[.pointer (some ⟨p, 0, none⟩)]) own37 rfl rfl (fun w1 hw1 => peek_c w1 (blkAt 1 rfl hw1) (hc.mono hw1.phi) hs (Pa.good_ne hg))) ?_
  refine RW.alc rfl fun b3 => ?_
  repeat refine g1 ?_
  refine AW.cond rfl (fun h => ?_) fun h => ?_
  · have h : (Pa.pk ts).Kind ≠ 0 := by simpa using h
    have hf : Pa.nameP ts = Pa.fail ts := by unfold Pa.nameP; rw [if_neg h]
    repeat refine g1 ?_
    refine RW.eff _ _ rfl (e_par (args := #[.pointer (some ⟨p, 0, none⟩)]) 2 rfl own68 rfl rfl (fun w1 hw1 => fail_c w1 Φ hc hs hg hw1) (fun er at_ Ψ w' he hw' => ?_) (fun _ => rfl)) ?_
    · rw [hf]; exact .inr ⟨er, at_, fail_to he, rfl, Ψ, hw'.drop (List.nil_sublist _)⟩
    · rintro ⟨_, h, _⟩; cases h
  · have h : (Pa.pk ts).Kind = 0 := by simpa using h
    have hf : Pa.nameP ts = .ok (Pa.pk ts, ts.tail) := by unfold Pa.nameP; rw [if_pos h]
    obtain ⟨_, hl⟩ := Pa.good_tail hg (by omega)
    have hle := Pa.suf_len hs
    have hln := hc.len
    repeat refine g1 ?_
    exact fin_res (vs := [.agg (tkC (Pa.pk ts)).toArray]) rfl rfl ⟨.agg rfl rfl (Cells.blk 1 rfl), trivial⟩ rfl (fun w' hw => .inl ⟨_, _, _, Φ, hf, rfl, Hp.le_refl _, by rw [pcs_next hs hl]; exact hw.drop (.cons _ (.cons _ (List.Sublist.refl _))), rfl⟩)
set_option maxRecDepth 8000 in
set_option maxHeartbeats 1000000 in
theorem word_c (hc : PCtx Φ toks tv) (hs : ts <:+ toks) (hg : Pa.good ts) (h0 : StP ⟨w, Φ, [p]⟩ Φ [.blk p 61 (pcs tv toks ts)] w) :
    Calls Tryd.prog 55 #[.pointer (some ⟨p, 0, none⟩)] w (ParR 57 w Φ p 61 (pcs tv toks) (Pa.wordP ts) fun x r Ψ => NdV Ψ x r) := by
  refine calls_of_AW (args := [.pointer (some ⟨p, 0, none⟩)]) Tryd.func55 rfl (Nat.le_of_ble_eq_true rfl) (St ⟨w, Φ, [p]⟩ Φ [.blk p 61 (pcs tv toks ts)]) h0 ?_
  show AW _ _ [] _ _ _ [(0, .pointer (some ⟨p, 0, none⟩))] _
  have hle := Pa.suf_len hs
  have hln := hc.len
  have hwf := wf_pk hc.wf hs (Pa.good_ne hg)
  have hwn : ∀ k : Int, I64 k → wfN (Pa.wrd k (Pa.pk ts)) := fun k hk => by
    obtain ⟨h1, h2, h3, h4, h5⟩ := hwf
    refine ⟨hk, ?_, ?_, ?_, ?_⟩ <;> (simp only [Pa.wrd, maxLen] <;> (try unfold I64) <;> omega)
  repeat refine g1 ?_
  refine RW.alc rfl fun b2 => ?_
  repeat refine g1 ?_
  refine RW.q rfl (q_call (args := #[.pointer (some ⟨p, 0, none⟩)]) own37 rfl rfl (fun w1 hw1 => peek_c w1 (blkAt 1 rfl hw1) (hc.mono hw1.phi) hs (Pa.good_ne hg))) ?_
  refine RW.alc rfl fun b3 => ?_
  repeat refine g1 ?_
  refine RW.q (v := .agg (ndC (Pa.wrd 3 (Pa.pk ts)) (.slice none 0 0)).toArray) rfl (q_build (vals := [(0, .int .i64 3), (1, .string (bs (Pa.pk ts).Text)), (3, .int .i64 (Pa.pk ts).At)]) zero26 Tryd.underlying26 places26 rfl rfl) ?_
  refine RW.alc rfl fun b4 => ?_
  repeat refine g1 ?_
  refine AW.cond rfl (fun h => ?_) fun h => ?_
  · have h : (Pa.pk ts).Kind = 0 := by simpa using h
    have hf : Pa.wordP ts = .ok (Pa.wrd 3 (Pa.pk ts), ts.tail) := by unfold Pa.wordP; rw [if_pos h]
    obtain ⟨_, hl⟩ := Pa.good_tail hg (by omega)
    repeat refine g1 ?_
    exact fin_res (vs := [.agg (ndC (Pa.wrd 3 (Pa.pk ts)) (.slice none 0 0)).toArray]) rfl rfl ⟨.agg rfl rfl (Cells.blk 2 rfl), trivial⟩ rfl (fun w' hw => .inl ⟨_, _, _, Φ, hf, rfl, Hp.le_refl _, by rw [pcs_next hs hl]; exact hw.drop (.cons _ (.cons _ (.cons _ (List.Sublist.refl _)))), _, rfl, hwn 3 (by unfold I64; omega), repSl_nil⟩)
  · have h : (Pa.pk ts).Kind ≠ 0 := by simpa using h
    repeat refine g1 ?_
    refine AW.cond rfl (fun h2 => ?_) fun h2 => ?_
    · have h2 : (Pa.pk ts).Kind = 2 := by simpa using h2
      have hf : Pa.wordP ts = .ok (Pa.wrd 4 (Pa.pk ts), ts.tail) := by unfold Pa.wordP; rw [if_neg h, if_pos h2]
      obtain ⟨_, hl⟩ := Pa.good_tail hg (by omega)
      repeat refine g1 ?_
      exact fin_res (vs := [.agg (ndC (Pa.wrd 4 (Pa.pk ts)) (.slice none 0 0)).toArray]) rfl rfl ⟨.agg rfl rfl (Cells.blk 2 rfl), trivial⟩ rfl (fun w' hw => .inl ⟨_, _, _, Φ, hf, rfl, Hp.le_refl _, by rw [pcs_next hs hl]; exact hw.drop (.cons _ (.cons _ (.cons _ (List.Sublist.refl _)))), _, rfl, hwn 4 (by unfold I64; omega), repSl_nil⟩)
    · have h2 : (Pa.pk ts).Kind ≠ 2 := by simpa using h2
      have hf : Pa.wordP ts = Pa.fail ts := by unfold Pa.wordP; rw [if_neg h, if_neg h2]
      repeat refine g1 ?_
      refine RW.eff _ _ rfl (e_par (args := #[.pointer (some ⟨p, 0, none⟩)]) 3 rfl own68 rfl rfl (fun w1 hw1 => fail_c w1 Φ hc hs hg hw1) (fun er at_ Ψ w' he hw' => ?_) (fun _ => rfl)) ?_
      · rw [hf]; exact .inr ⟨er, at_, fail_to he, rfl, Ψ, hw'.drop (List.nil_sublist _)⟩
      · rintro ⟨_, h, _⟩; cases h
end
end Go.Proofs.YtjcahklnkakklaaDoor
