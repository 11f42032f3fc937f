/- The parser of trees: amounts. Conditions: those of each theorem. -/
import Derived.Test.YtjcahklnkakklaaDoorTPaA
namespace Go.Proofs.YtjcahklnkakklaaDoor
open Go Go.K Go.RowKit
attribute [local irreducible] AW RW DW Post Qt
set_option maxRecDepth 8000 in
set_option maxHeartbeats 1000000 in
theorem isUnit_c (w : World) {Φ : Hp} (hΦ : Hp.le Φ (hp w)) (hG : Knows Φ Glob) {l : List UInt8} :
    Calls Tryd.prog 52 #[.string (bs l)] w fun e w' => e = .returned (.bool (Pa.isUnit l)) ∧ Bel w.heap.size w w' := by
  refine calls_of_AW (args := [.string (bs l)]) Tryd.func52 rfl (Nat.le_of_ble_eq_true rfl) (St ⟨w, Φ, []⟩ Φ []) (StP.init w Φ hΦ []) ?_
  show AW _ _ [] _ _ _ [(0, .string (bs l))] _
  repeat refine g1 ?_
  refine RW.q rfl (q_call (args := #[.string (bs [48]), .string (bs l)]) own15 rfl rfl (fun w1 hw1 => Amount_c w1 (Go.K.hp w1) (Hp.le_refl _) (hG.mono hw1.phi) (by simp))) ?_
  repeat refine g1 ?_
  refine RW.alc rfl fun b3 => ?_
  repeat refine g1 ?_
  refine fin_res (vs := [.bool (Pa.isUnit l)]) rfl rfl ⟨.tmp ?_, trivial⟩ rfl (fun w' hw => ⟨rfl, hw.below rfl⟩)
  show Value.bool _ = Value.bool _
  unfold Pa.isUnit
  congr 2
  exact decide_eq_decide.2 (by omega)
set_option maxRecDepth 8000 in
set_option maxHeartbeats 2000000 in
theorem amount_c (w : World) (Φ : Hp) (hG : Knows Φ Glob) {p : Nat} {tv : Value} {toks ts : List Bt.Token} (hc : PCtx Φ toks tv) (hs : ts <:+ toks) (hg : Pa.good ts) (hk : (Pa.pk ts).Kind = 1) (h0 : StP ⟨w, Φ, [p]⟩ Φ [.blk p 61 (pcs tv toks ts)] w) :
    Calls Tryd.prog 78 #[.pointer (some ⟨p, 0, none⟩)] w (ParR 57 w Φ p 61 (pcs tv toks) (Pa.amtP ts) fun x r Ψ => NdV Ψ x r) := by
  refine calls_of_AW (args := [.pointer (some ⟨p, 0, none⟩)]) Tryd.func78 rfl (Nat.le_of_ble_eq_true rfl) (St ⟨w, Φ, [p]⟩ Φ [.blk p 61 (pcs tv toks ts)]) h0 ?_
  show AW _ _ [] _ _ _ [(0, .pointer (some ⟨p, 0, none⟩))] _
  obtain ⟨hs1, hg1, hl1⟩ := Pa.ad_tail hg (by omega)
  obtain ⟨_, hl⟩ := Pa.good_tail hg (by omega)
  have hs2 : ts.tail <:+ toks := hs1.trans hs
  have hle := Pa.suf_len hs
  have hln := hc.len
  have hwf := wf_pk hc.wf hs (Pa.good_ne hg)
  have hwu := wf_pk hc.wf hs2 (Pa.good_ne hg1)
  obtain ⟨_, _, hw3, hw4, hw5⟩ := hwf
  obtain ⟨_, _, hu3, _, _⟩ := hwu
  repeat refine g1 ?_
  refine RW.alc rfl fun b2 => ?_
  repeat refine g1 ?_
  refine RW.q rfl (q_call (args := #[.pointer (some ⟨p, 0, none⟩)]) own37 rfl rfl (fun w1 hw1 => peek_c w1 (blkAt 1 rfl hw1) (hc.mono hw1.phi) hs (Pa.good_ne hg))) ?_
  refine RW.alc rfl fun b3 => ?_
  repeat refine g1 ?_
  refine RW.q rfl (q_call (args := #[.pointer (some ⟨p, 0, none⟩)]) own37 rfl rfl (fun w1 hw1 => peek_c w1 (ts := ts.tail) (by rw [pcs_next hs hl]; exact blkAt 2 rfl hw1) (hc.mono hw1.phi) hs2 (Pa.good_ne hg1))) ?_
  refine RW.alc rfl fun b5 => ?_
  repeat refine g1 ?_
  refine RW.g (b := decide ((Pa.pk ts.tail).Kind = 0)) (v := .bool (Pa.isUnit (Pa.pk ts.tail).Text)) rfl rfl rfl (fun h => by exact q_call (args := #[.string (bs (Pa.pk ts.tail).Text)]) own52 rfl (args1 (gv_pos h)) (fun w1 hw1 => isUnit_c w1 hw1.phi hG)) ?_
  refine RW.q (v := .bool (decide ((Pa.pk ts.tail).Kind = 0) && Pa.isUnit (Pa.pk ts.tail).Text)) rfl (q_pick rfl (fun hp => (gv_pos hp).trans (pkAndT hp)) (fun hp => pkAndF hp)) ?_
  repeat refine g1 ?_
  refine AW.cond rfl (fun h => ?_) fun h => ?_
  · have h : (Pa.pk ts.tail).Kind = 0 ∧ Pa.isUnit (Pa.pk ts.tail).Text = true := by simpa using h
    have hU : Pa.unitOf ts.tail = (Pa.pk ts.tail).Text := by unfold Pa.unitOf; rw [if_pos h]
    have hR : Pa.unitRest ts.tail = ts.tail.tail := by unfold Pa.unitRest; rw [if_pos h]
    obtain ⟨_, hl2⟩ := Pa.good_tail hg1 (by omega)
    have hpc : pcs tv toks (Pa.unitRest ts.tail) = [tv, .int .i64 ((toks.length - ts.length + 1 + 1 : Nat) : Int)] := by
      rw [hR, pcs, show toks.length - ts.tail.tail.length = toks.length - ts.length + 1 + 1 by omega]
    repeat refine g1 ?_
    refine RW.q rfl (q_call (args := #[.string (bs (Pa.pk ts).Text), .string (bs (Pa.unitOf ts.tail))]) own15 rfl (by rw [hU]; rfl) (fun w1 hw1 => Amount_c w1 (Go.K.hp w1) (Hp.le_refl _) (hG.mono hw1.phi) (by omega))) ?_
    repeat refine g1 ?_
    refine RW.alc rfl fun b6 => ?_
    repeat refine g1 ?_
    refine AW.cond rfl (fun he => ?_) fun he => ?_
    · have he : (Un.amt (Pa.pk ts).Text (Pa.unitOf ts.tail)).2.2 ≠ 0 := by simpa using he
      have hf : Pa.amtP ts = .error (7, (Pa.pk ts).At) := by unfold Pa.amtP; simp only []; rw [if_neg he]
      repeat refine g1 ?_
      refine RW.q (v := .agg #[.int .i64 7, .int .i64 (Pa.pk ts).At]) rfl (q_build (vals := [(0, .int .i64 7), (1, .int .i64 (Pa.pk ts).At)]) zero57 Tryd.underlying57 places57 rfl rfl) ?_
      repeat refine g1 ?_
      exact RW.pan rfl (fun w' hw' => .inr ⟨7, _, hf, rfl, _, hw'.drop (List.nil_sublist _)⟩)
    · have he : (Un.amt (Pa.pk ts).Text (Pa.unitOf ts.tail)).2.2 = 0 := by simpa using he
      have hf : Pa.amtP ts = .ok (⟨5, [], ((Un.amt (Pa.pk ts).Text (Pa.unitOf ts.tail)).1 : Nat), ((Un.amt (Pa.pk ts).Text (Pa.unitOf ts.tail)).2.1 : Nat), (Pa.pk ts).At, []⟩, Pa.unitRest ts.tail) := by unfold Pa.amtP; simp only []; rw [if_pos he]
      have hwn : wfN (⟨5, [], ((Un.amt (Pa.pk ts).Text (Pa.unitOf ts.tail)).1 : Nat), ((Un.amt (Pa.pk ts).Text (Pa.unitOf ts.tail)).2.1 : Nat), (Pa.pk ts).At, []⟩ : Bt.Node) := by
        obtain ⟨ha1, ha2⟩ := Un.amt_le (Pa.pk ts).Text (Pa.unitOf ts.tail)
        refine ⟨?_, ?_, ?_, ?_, ?_⟩ <;> simp only [maxLen, List.length_nil] <;> (try unfold I64) <;> omega
      repeat refine g1 ?_
      refine RW.q (v := .agg (ndC (⟨5, [], ((Un.amt (Pa.pk ts).Text (Pa.unitOf ts.tail)).1 : Nat), ((Un.amt (Pa.pk ts).Text (Pa.unitOf ts.tail)).2.1 : Nat), (Pa.pk ts).At, []⟩ : Bt.Node) (.slice none 0 0)).toArray) rfl (q_build (vals := [(0, .int .i64 5), (2, .agg #[.int .i64 ((Un.amt (Pa.pk ts).Text (Pa.unitOf ts.tail)).1 : Nat), .int .i64 ((Un.amt (Pa.pk ts).Text (Pa.unitOf ts.tail)).2.1 : Nat)]), (3, .int .i64 (Pa.pk ts).At)]) zero26 Tryd.underlying26 places26 rfl rfl) ?_
      repeat refine g1 ?_
      exact fin_res (vs := [.agg (ndC (⟨5, [], ((Un.amt (Pa.pk ts).Text (Pa.unitOf ts.tail)).1 : Nat), ((Un.amt (Pa.pk ts).Text (Pa.unitOf ts.tail)).2.1 : Nat), (Pa.pk ts).At, []⟩ : Bt.Node) (.slice none 0 0)).toArray]) rfl rfl ⟨.agg rfl rfl (Cells.blk 3 rfl), trivial⟩ rfl (fun w' hw => .inl ⟨_, _, _, Φ, hf, rfl, Hp.le_refl _, by rw [hpc]; exact hw.drop (.cons _ (.cons _ (.cons _ (.cons _ (List.Sublist.refl _))))), _, rfl, hwn, repSl_nil⟩)
  · have h : ¬ ((Pa.pk ts.tail).Kind = 0 ∧ Pa.isUnit (Pa.pk ts.tail).Text = true) := by simpa using h
    have hU : Pa.unitOf ts.tail = [] := by unfold Pa.unitOf; rw [if_neg h]
    have hR : Pa.unitRest ts.tail = ts.tail := by unfold Pa.unitRest; rw [if_neg h]
    have hpc : pcs tv toks (Pa.unitRest ts.tail) = [tv, .int .i64 ((toks.length - ts.length + 1 : Nat) : Int)] := by
      rw [hR, pcs_next hs hl]
    repeat refine g1 ?_
    refine RW.q rfl (q_call (args := #[.string (bs (Pa.pk ts).Text), .string (bs (Pa.unitOf ts.tail))]) own15 rfl (by rw [hU]; rfl) (fun w1 hw1 => Amount_c w1 (Go.K.hp w1) (Hp.le_refl _) (hG.mono hw1.phi) (by omega))) ?_
    repeat refine g1 ?_
    refine RW.alc rfl fun b6 => ?_
    repeat refine g1 ?_
    refine AW.cond rfl (fun he => ?_) fun he => ?_
    · have he : (Un.amt (Pa.pk ts).Text (Pa.unitOf ts.tail)).2.2 ≠ 0 := by simpa using he
      have hf : Pa.amtP ts = .error (7, (Pa.pk ts).At) := by unfold Pa.amtP; simp only []; rw [if_neg he]
      repeat refine g1 ?_
      refine RW.q (v := .agg #[.int .i64 7, .int .i64 (Pa.pk ts).At]) rfl (q_build (vals := [(0, .int .i64 7), (1, .int .i64 (Pa.pk ts).At)]) zero57 Tryd.underlying57 places57 rfl rfl) ?_
      repeat refine g1 ?_
      exact RW.pan rfl (fun w' hw' => .inr ⟨7, _, hf, rfl, _, hw'.drop (List.nil_sublist _)⟩)
    · have he : (Un.amt (Pa.pk ts).Text (Pa.unitOf ts.tail)).2.2 = 0 := by simpa using he
      have hf : Pa.amtP ts = .ok (⟨5, [], ((Un.amt (Pa.pk ts).Text (Pa.unitOf ts.tail)).1 : Nat), ((Un.amt (Pa.pk ts).Text (Pa.unitOf ts.tail)).2.1 : Nat), (Pa.pk ts).At, []⟩, Pa.unitRest ts.tail) := by unfold Pa.amtP; simp only []; rw [if_pos he]
      have hwn : wfN (⟨5, [], ((Un.amt (Pa.pk ts).Text (Pa.unitOf ts.tail)).1 : Nat), ((Un.amt (Pa.pk ts).Text (Pa.unitOf ts.tail)).2.1 : Nat), (Pa.pk ts).At, []⟩ : Bt.Node) := by
        obtain ⟨ha1, ha2⟩ := Un.amt_le (Pa.pk ts).Text (Pa.unitOf ts.tail)
        refine ⟨?_, ?_, ?_, ?_, ?_⟩ <;> simp only [maxLen, List.length_nil] <;> (try unfold I64) <;> omega
      repeat refine g1 ?_
      refine RW.q (v := .agg (ndC (⟨5, [], ((Un.amt (Pa.pk ts).Text (Pa.unitOf ts.tail)).1 : Nat), ((Un.amt (Pa.pk ts).Text (Pa.unitOf ts.tail)).2.1 : Nat), (Pa.pk ts).At, []⟩ : Bt.Node) (.slice none 0 0)).toArray) rfl (q_build (vals := [(0, .int .i64 5), (2, .agg #[.int .i64 ((Un.amt (Pa.pk ts).Text (Pa.unitOf ts.tail)).1 : Nat), .int .i64 ((Un.amt (Pa.pk ts).Text (Pa.unitOf ts.tail)).2.1 : Nat)]), (3, .int .i64 (Pa.pk ts).At)]) zero26 Tryd.underlying26 places26 rfl rfl) ?_
      repeat refine g1 ?_
      exact fin_res (vs := [.agg (ndC (⟨5, [], ((Un.amt (Pa.pk ts).Text (Pa.unitOf ts.tail)).1 : Nat), ((Un.amt (Pa.pk ts).Text (Pa.unitOf ts.tail)).2.1 : Nat), (Pa.pk ts).At, []⟩ : Bt.Node) (.slice none 0 0)).toArray]) rfl rfl ⟨.agg rfl rfl (Cells.blk 3 rfl), trivial⟩ rfl (fun w' hw => .inl ⟨_, _, _, Φ, hf, rfl, Hp.le_refl _, by rw [hpc]; exact hw.drop (.cons _ (.cons _ (.cons _ (.cons _ (List.Sublist.refl _))))), _, rfl, hwn, repSl_nil⟩)
end Go.Proofs.YtjcahklnkakklaaDoor
