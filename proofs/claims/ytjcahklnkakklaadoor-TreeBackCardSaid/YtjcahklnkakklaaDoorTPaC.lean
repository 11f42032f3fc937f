/- The parser of trees: values. Conditions: those of each theorem. -/
import Derived.Test.YtjcahklnkakklaaDoorTPaB
namespace Go.Proofs.YtjcahklnkakklaaDoor
open Go Go.K Go.RowKit
attribute [local irreducible] AW RW DW Post Qt

theorem ndC_one {x : Bt.Node} {v : Value} {n : Nat} (h : IsSl v n) : (ndC x v).all Value.oneCell' = true := by
  obtain ⟨A, c, rfl, _⟩ := h
  rfl
set_option maxRecDepth 8000 in
set_option maxHeartbeats 4000000 in
theorem pval_c {Φg : Hp} (hG : Knows Φg Glob) : ∀ (f g : Nat) (w : World) (Φ : Hp) (_ : Hp.le Φg Φ) {p : Nat} {tv : Value} {toks ts : List Bt.Token} (_ : PCtx Φ toks tv) (_ : ts <:+ toks) (_ : Pa.good ts) (_ : 2 * ts.length ≤ f) (_ : g ≤ 40) (_ : StP ⟨w, Φ, [p]⟩ Φ [.blk p 61 (pcs tv toks ts)] w),
    Calls Tryd.prog 70 #[.pointer (some ⟨p, 0, none⟩), .int .i64 (g : Int)] w (ParR 57 w Φ p 61 (pcs tv toks) (Pa.valP f g ts) fun x r Ψ => NdV Ψ x r) := by
  intro f
  induction f using Nat.strongRecOn with
  | _ f ih =>
  intro g w Φ hΦg p tv toks ts hc hs hg hf hg40 h0
  have hne := Pa.good_ne hg
  obtain ⟨f, rfl⟩ : ∃ f1, f = f1 + 1 := ⟨f - 1, by have := List.length_pos_iff.2 hne; omega⟩
  refine calls_of_AW (args := [.pointer (some ⟨p, 0, none⟩), .int .i64 (g : Int)]) Tryd.func70 rfl (Nat.le_of_ble_eq_true rfl) (St ⟨w, Φ, [p]⟩ Φ [.blk p 61 (pcs tv toks ts)]) h0 ?_
  show AW _ _ [] _ _ _ [(0, .pointer (some ⟨p, 0, none⟩)), (1, .int .i64 (g : Int))] _
  have hle := Pa.suf_len hs
  have hln := hc.len
  obtain ⟨_, _, hw3, hw4, hw5⟩ := wf_pk hc.wf hs hne
  repeat refine g1 ?_
  refine RW.alc rfl fun b4 => ?_
  repeat refine g1 ?_
  refine RW.q rfl (q_call (args := #[.pointer (some ⟨p, 0, none⟩)]) own37 rfl rfl (fun w1 hw1 => peek_c w1 (blkAt 1 rfl hw1) (hc.mono hw1.phi) hs hne)) ?_
  repeat refine g1 ?_
  refine AW.cond rfl (fun h => ?_) fun h => ?_
  · have h : (Pa.pk ts).Kind = 1 := by simpa using h
    have hv : Pa.valP (f + 1) g ts = Pa.amtP ts := by rw [Pa.valP, if_pos h]
    repeat refine g1 ?_
    refine RW.par (args := #[.pointer (some ⟨p, 0, none⟩)]) 1 rfl rfl own78 rfl rfl (fun w1 hw1 => amount_c w1 Φ (hG.mono hΦg) hc hs hg h hw1) (fun er at_ Ψ w' he hw' => by rw [hv]; exact .inr ⟨er, at_, he, rfl, Ψ, hw'.drop (List.nil_sublist _)⟩) (fun _ => rfl) ?_
    rintro x r _ Ψ1 hres ⟨kx, rfl, hwx, hkx⟩ hl1
    refine RW.effn (e_store (v := .agg (ndC x kx).toArray) 0 rfl rfl rfl sz26 rfl (ndC_one hkx.sl) rfl rfl rfl) ?_
    repeat refine g1 ?_
    exact fin_res (vs := [.agg (ndC x kx).toArray]) rfl rfl ⟨.agg rfl rfl (Cells.blk 0 rfl), trivial⟩ rfl (fun w' hw => .inl ⟨x, r, _, Ψ1, by rw [hv]; exact hres, rfl, hl1, hw.drop (.cons _ (List.Sublist.refl _)), kx, rfl, hwx, hkx⟩)
  have h1 : (Pa.pk ts).Kind ≠ 1 := by simpa using h
  repeat refine g1 ?_
  refine RW.q rfl (q_call (args := #[.pointer (some ⟨p, 0, none⟩), .string (bs [40])]) own69 rfl rfl (fun w1 hw1 => is_c w1 (blkAt 1 rfl hw1) (hc.mono hw1.phi) hs hne)) ?_
  repeat refine g1 ?_
  refine AW.cond rfl (fun h => ?_) fun h => ?_
  · have h : Pa.isS [40] ts = false := by simpa using h
    have hv : Pa.valP (f + 1) g ts = Pa.wordP ts := by rw [Pa.valP, if_neg h1, if_neg (by rw [h]; simp)]
    repeat refine g1 ?_
    refine RW.par (args := #[.pointer (some ⟨p, 0, none⟩)]) 1 rfl rfl own55 rfl rfl (fun w1 hw1 => word_c w1 Φ hc hs hg hw1) (fun er at_ Ψ w' he hw' => by rw [hv]; exact .inr ⟨er, at_, he, rfl, Ψ, hw'.drop (List.nil_sublist _)⟩) (fun _ => rfl) ?_
    rintro x r _ Ψ1 hres ⟨kx, rfl, hwx, hkx⟩ hl1
    refine RW.effn (e_store (v := .agg (ndC x kx).toArray) 0 rfl rfl rfl sz26 rfl (ndC_one hkx.sl) rfl rfl rfl) ?_
    repeat refine g1 ?_
    exact fin_res (vs := [.agg (ndC x kx).toArray]) rfl rfl ⟨.agg rfl rfl (Cells.blk 0 rfl), trivial⟩ rfl (fun w' hw => .inl ⟨x, r, _, Ψ1, by rw [hv]; exact hres, rfl, hl1, hw.drop (.cons _ (List.Sublist.refl _)), kx, rfl, hwx, hkx⟩)
  have h2 : Pa.isS [40] ts = true := by simpa using h
  obtain ⟨hs1, hg1, hl1⟩ := Pa.ad_sign hg h2
  obtain ⟨_, hl⟩ := Pa.good_tail hg (by have := Pa.isS_kind h2; omega)
  repeat refine g1 ?_
  refine RW.q rfl (q_call (args := #[.pointer (some ⟨p, 0, none⟩)]) own37 rfl rfl (fun w1 hw1 => peek_c w1 (blkAt 1 rfl hw1) (hc.mono hw1.phi) hs hne)) ?_
  repeat refine g1 ?_
  refine RW.q (v := .agg (ndC (Pa.grp (Pa.pk ts).At []) (.slice none 0 0)).toArray) rfl (q_build (vals := [(0, .int .i64 6), (3, .int .i64 (Pa.pk ts).At)]) zero26 Tryd.underlying26 places26 rfl rfl) ?_
  refine RW.alc rfl fun bn => ?_
  repeat refine g1 ?_
  refine AW.cond rfl (fun h => ?_) fun h => ?_
  · have h : 40 ≤ g := by have := of_decide_eq_true h; omega
    have hv : Pa.valP (f + 1) g ts = .error (8, (Pa.pk ts).At) := by rw [Pa.valP, if_neg h1, if_pos h2, if_pos h]
    repeat refine g1 ?_
    refine RW.q (v := .agg #[.int .i64 8, .int .i64 (Pa.pk ts).At]) rfl (q_build (vals := [(0, .int .i64 8), (1, .int .i64 (Pa.pk ts).At)]) zero57 Tryd.underlying57 places57 rfl rfl) ?_
    repeat refine g1 ?_
    exact RW.pan rfl (fun w' hw' => .inr ⟨8, _, hv, rfl, _, hw'.drop (List.nil_sublist _)⟩)
  have hg3 : g < 40 := by have := of_decide_eq_false h; omega
  have hv : Pa.valP (f + 1) g ts = match Pa.grpP f (g + 1) ts.tail with
      | .error e => .error e
      | .ok (xs, r) => .ok (Pa.grp (Pa.pk ts).At xs, r) := by rw [Pa.valP, if_neg h1, if_pos h2, if_neg (by omega)]; rfl
  repeat refine g1 ?_
  refine AW.wk (J' := St ⟨w, Φ, [p]⟩ Φ [.row (.slice none 0 0) 26 6 0 [], .blk bn 26 (ndC (Pa.grp (Pa.pk ts).At []) (.slice none 0 0)), .blk b4 26 [.int .i64 0, .string (bs []), .int .i64 0, .int .i64 0, .int .i64 0, .slice none 0 0], .blk p 61 (pcs tv toks ts.tail)]) (fun _ h => addNil (by rw [pcs_next hs hl]; exact h)) ?_
  refine AW.loop (fun s J' m => ∃ (K : List Bt.Node) (css : List Value) (kv : Value) (Ψ : Hp) (t1 : List Bt.Token) (fk : Nat), s = [(0, .pointer (some ⟨p, 0, none⟩)), (1, .int .i64 (g : Int)), (4, .pointer (some ⟨b4, 0, none⟩)), (5, .pointer (some ⟨bn, 0, none⟩))] ∧ J' = St ⟨w, Φ, [p]⟩ Ψ [.row kv 26 6 K.length css, .blk bn 26 (ndC (Pa.grp (Pa.pk ts).At []) kv), .blk b4 26 [.int .i64 0, .string (bs []), .int .i64 0, .int .i64 0, .int .i64 0, .slice none 0 0], .blk p 61 (pcs tv toks t1)] ∧ m = t1.length ∧ RepC Ψ K css ∧ Hp.le Φ Ψ ∧ t1 <:+ toks ∧ Pa.good t1 ∧ 2 * t1.length + 1 ≤ fk ∧ fk ≤ f ∧ IsSl kv K.length ∧ K.length + t1.length ≤ toks.length ∧
      Pa.valP (f + 1) g ts = match Pa.grpP fk (g + 1) t1 with
        | .error e => .error e
        | .ok (xs, r) => .ok (Pa.grp (Pa.pk ts).At (K ++ xs), r)) (s0 := _) (J1 := _) (m0 := _) ⟨[], [], .slice none 0 0, Φ, ts.tail, f, rfl, rfl, rfl, RepC.nil, Hp.le_refl _, hs1.trans hs, hg1, by omega, Nat.le_refl _, isSl_nil, by simp only [List.length_nil]; omega, hv⟩ ⟨rfl, rfl, rfl, rfl, trivial⟩ (fun _ h => h) ?_
  rintro _ _ _ _ ⟨K, css, kv, Ψ, t1, fk, rfl, rfl, rfl, hrc, hlΨ, hs3, hg4, hfk, hfk2, hkv, hKn, hve⟩
  obtain ⟨fk, rfl⟩ : ∃ f1, fk = f1 + 1 := ⟨fk - 1, by omega⟩
  repeat refine g1 ?_
  refine AW.draw (J0 := St ⟨w, Φ, [p]⟩ Ψ [.blk bn 26 (ndC (Pa.grp (Pa.pk ts).At []) kv)]) [.q, .q, .q, .q, .q, .e, .e, .e, .q, .e] [0, 1, 2, 3, 4, 5, 6, 7, 8, 9] hmix (by kernel_rfl) ?_
  repeat refine g1 ?_
  refine DW.par (res := Pa.valP fk (g + 1) t1) (C' := fun r => [.row kv 26 6 K.length css, .blk bn 26 (ndC (Pa.grp (Pa.pk ts).At []) kv), .blk b4 26 [.int .i64 0, .string (bs []), .int .i64 0, .int .i64 0, .int .i64 0, .slice none 0 0], .blk p 61 (pcs tv toks r)]) (args := #[.pointer (some ⟨p, 0, none⟩), .int .i64 ((g + 1 : Nat) : Int)]) 3 rfl rfl own70 rfl rfl (fun w1 hw1 => ih fk (by omega) (g + 1) w1 Ψ (hΦg.trans hlΨ) (hc.mono hlΨ) hs3 hg4 (by omega) (by omega) hw1) (fun er at_ Ψ1 w1 he hw1 => ?_) (fun _ => rfl) (fun _ _ _ hl h => St.oneK 1 hl rfl h) ?_
  · exact .inr ⟨er, at_, by rw [hve, Pa.grpP, he], rfl, Ψ1, hw1.drop (List.nil_sublist _)⟩
  rintro x r _ Ψ1 hres ⟨kx, rfl, hwx, hkx⟩ hl1
  refine DW.eff (fun b6 : Nat => .slice (some ⟨b6, 0, none⟩) 1 1) (fun b6 => St ⟨w, Φ, [p]⟩ Ψ1 [.row (.slice (some ⟨b6, 0, none⟩) 1 1) 26 6 1 (ndC x kx), .row kv 26 6 K.length css, .blk bn 26 (ndC (Pa.grp (Pa.pk ts).At []) kv), .blk b4 26 [.int .i64 0, .string (bs []), .int .i64 0, .int .i64 0, .int .i64 0, .slice none 0 0], .blk p 61 (pcs tv toks r)]) (fun _ _ _ h => St.oneK 2 hl1 rfl h) rfl (e_buildSlice (vals := [(0, .agg (ndC x kx).toArray)]) (cells := ndC x kx) Tryd.underlying24 inf26 rfl rfl rfl (by kernel_rfl) rfl) ?_
  intro b6
  refine DW.eff (fun xv : {vq : Value // IsSl vq (K.length + 1)} => xv.1) (fun xv => St ⟨w, Φ, [p]⟩ Ψ1 [.row (.slice (some ⟨b6, 0, none⟩) 1 1) 26 6 1 (ndC x kx), .row xv.1 26 6 (K.length + 1) (css ++ ndC x kx), .blk bn 26 (ndC (Pa.grp (Pa.pk ts).At []) kv), .blk b4 26 [.int .i64 0, .string (bs []), .int .i64 0, .int .i64 0, .int .i64 0, .slice none 0 0], .blk p 61 (pcs tv toks r)]) (fun _ _ _ h => St.oneK 2 hl1 rfl h) rfl (e_append 1 rfl rfl rfl Tryd.underlying24 inf26 rfl rfl rfl (Cells.row0 0 rfl) (ndC_one hkx.sl) (by omega) (by omega) (fun _ => rfl)) ?_
  rintro ⟨va, hva⟩
  repeat refine g1 ?_
  refine DW.effn (J' := St ⟨w, Φ, [p]⟩ Ψ1 [.row (.slice (some ⟨b6, 0, none⟩) 1 1) 26 6 1 (ndC x kx), .row va 26 6 (K.length + 1) (css ++ ndC x kx), .blk bn 26 (ndC (Pa.grp (Pa.pk ts).At []) va), .blk b4 26 [.int .i64 0, .string (bs []), .int .i64 0, .int .i64 0, .int .i64 0, .slice none 0 0], .blk p 61 (pcs tv toks r)]) (fun h => absurd rfl h) (e_storeSl (v := va) 2 rfl rfl rfl hva sz24 rfl rfl rfl) ?_
  obtain ⟨hs5, hg5, hl5⟩ := Pa.valP_ok hg4 hres
  have hs6 := hs5.trans hs3
  have hrc1 : RepC Ψ1 (K ++ [x]) (css ++ ndC x kx) := (hrc.mono hl1).snoc (NdV.rep hwx hkx)
  repeat refine g1 ?_
  refine RW.par (args := #[.pointer (some ⟨p, 0, none⟩), .string (bs [41])]) 4 rfl rfl own54 rfl rfl (fun w1 hw1 => psk_c w1 Ψ1 (hc.mono (hlΨ.trans hl1)) hs6 hg5 hw1) (fun er at_ Ψ2 w2 he hw2 => nomatch he) (fun _ => rfl) ?_
  rintro b r2 _ Ψ2 hres2 rfl hl2
  cases hres2
  repeat refine g1 ?_
  refine AW.cond rfl (fun hb => ?_) fun hb => ?_
  · rw [if_pos hb]
    repeat refine g1 ?_
    refine RW.effn (e_store (v := .agg (ndC (Pa.grp (Pa.pk ts).At []) va).toArray) 3 rfl rfl rfl sz26 rfl (ndC_one hva) rfl rfl rfl) ?_
    repeat refine g1 ?_
    refine fin_res (vs := [.agg (ndC (Pa.grp (Pa.pk ts).At []) va).toArray]) rfl rfl ⟨.agg rfl rfl (Cells.blk 3 rfl), trivial⟩ rfl (fun w3 hw3 => ?_)
    obtain ⟨Ψ3, hl3, hsat, hw4⟩ := StP.freezeP (hw3.drop (.cons _ (List.Sublist.refl _))) 2 rfl
    refine .inl ⟨Pa.grp (Pa.pk ts).At (K ++ [x]), r.tail, _, Ψ3, ?_, rfl, ((hlΨ.trans hl1).trans hl2).trans hl3, hw4.drop (.cons _ (.cons _ (List.Sublist.refl _))), va, rfl, ?_, ?_⟩
    · rw [hve, Pa.grpP, hres]; simp only []; rw [if_pos hb]
    · refine ⟨?_, ?_, ?_, ?_, ?_⟩ <;> simp only [Pa.grp, maxLen, List.length_nil] <;> (try unfold I64) <;> omega
    · exact RowS.repC (show RowS Ψ3 va 26 6 (K.length + 1) (css ++ ndC x kx) from hsat) (hrc1.mono (hl2.trans hl3)) (by simp [Pa.grp]) (by simp only [maxSl]; show (K.length + 1) * 72 ≤ _; omega)
  rw [if_neg (by rw [hb]; simp)]
  repeat refine g1 ?_
  refine RW.par (args := #[.pointer (some ⟨p, 0, none⟩), .string (bs [44])]) 4 rfl rfl own54 rfl rfl (fun w1 hw1 => psk_c w1 Ψ2 (hc.mono ((hlΨ.trans hl1).trans hl2)) hs6 hg5 hw1) (fun er at_ Ψ2 w2 he hw2 => nomatch he) (fun _ => rfl) ?_
  rintro b r2 _ Ψ4 hres2 rfl hl4
  cases hres2
  repeat refine g1 ?_
  refine AW.cond rfl (fun hb2 => ?_) fun hb2 => ?_
  · have hb2 : Pa.isS [44] r = false := by simpa using hb2
    rw [if_neg (by rw [hb2]; simp)]
    repeat refine g1 ?_
    refine RW.par (args := #[.pointer (some ⟨p, 0, none⟩)]) 4 rfl rfl own68 rfl rfl (fun w1 hw1 => fail_c w1 Ψ4 (hc.mono (((hlΨ.trans hl1).trans hl2).trans hl4)) hs6 hg5 hw1) (fun er at_ Ψ5 w2 he hw2 => ?_) (fun _ => rfl) ?_
    · refine .inr ⟨er, at_, ?_, rfl, Ψ5, hw2.drop (List.nil_sublist _)⟩
      rw [hve, Pa.grpP, hres]; simp only []; rw [if_neg (by rw [hb]; simp), if_neg (by rw [hb2]; simp)]; rw [fail_to he]
    · rintro _ _ _ _ h; cases h
  have hb2 : Pa.isS [44] r = true := by simpa using hb2
  rw [if_pos hb2]
  obtain ⟨hs7, hg7, hl7⟩ := Pa.ad_sign hg5 hb2
  repeat refine g1 ?_
  exact Post.back (s' := _) (J' := _) (m' := _) (by omega) ⟨K ++ [x], css ++ ndC x kx, va, Ψ4, r.tail, fk, rfl, rfl, rfl, hrc1.mono (hl2.trans hl4), ((hlΨ.trans hl1).trans hl2).trans hl4, hs7.trans hs6, hg7, by omega, by omega, by simpa using hva, by simp; omega, by rw [hve, Pa.grpP, hres]; simp only []; rw [if_neg (by rw [hb]; simp), if_pos hb2]; cases Pa.grpP fk (g + 1) r.tail <;> simp⟩ ⟨rfl, rfl, rfl, rfl, trivial⟩ (fun _ h => by simp only [List.length_append, List.length_singleton]; exact StP.drop h (.cons _ (List.Sublist.refl _)))
end Go.Proofs.YtjcahklnkakklaaDoor
