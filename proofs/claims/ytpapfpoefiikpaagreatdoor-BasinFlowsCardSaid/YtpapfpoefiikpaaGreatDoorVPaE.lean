/- Lemmas. Conditions: those of each theorem. -/
import Derived.Test.YtpapfpoefiikpaaGreatDoorVPaB
set_option maxRecDepth 8000
set_option maxHeartbeats 16000000
namespace Go.Proofs.YtpapfpoefiikpaaGreatDoor
open Go Go.K Go.RowKit
attribute [local irreducible] AW RW DW Post Qt

theorem ndC_one {x : Bt.Node} {v : Value} {n : Nat} (h : IsSl v n) : (ndC x v).all Value.oneCell' = true := by
  obtain ⟨A, c, rfl, _⟩ := h
  rfl
theorem pval_c {Φg : Hp} (hG : Knows Φg Glob) : ∀ (f g : Nat) (w : World) (Φ : Hp) (_ : Hp.le Φg Φ) {p : Nat} {tv : Value} {toks ts : List Bt.Token} (_ : PCtx Φ toks tv) (_ : ts <:+ toks) (_ : Pa.good ts) (_ : 2 * ts.length ≤ f) (_ : g ≤ 40) (_ : StP ⟨w, Φ, [p]⟩ Φ [.blk p 104 (pcs tv toks ts)] w),
    Calls pg 166 #[.pointer (some ⟨p, 0, none⟩), .int .i64 (g : Int)] w (ParR 100 w Φ p 104 (pcs tv toks) (Pa.valP f g ts) fun x r Ψ => NdV Ψ x r) := by
  intro f
  induction f using Nat.strongRecOn with
  | _ f ih =>
  intro g w Φ hΦg p tv toks ts hc hs hg hf hg40 h0
  have hne := Pa.good_ne hg
  obtain ⟨f, rfl⟩ : ∃ f1, f = f1 + 1 := ⟨f - 1, by have := List.length_pos_iff.2 hne; omega⟩
  refine calls_of_AW (args := [.pointer (some ⟨p, 0, none⟩), .int .i64 (g : Int)]) Tryz.func166 rfl (lBT rfl) (St ⟨w, Φ, [p]⟩ Φ [.blk p 104 (pcs tv toks ts)]) h0 ?_
  show AW _ _ [] _ _ _ [(0, .pointer (some ⟨p, 0, none⟩)), (1, .int .i64 (g : Int))] _
  have hle := Pa.suf_len hs
  have hln := hc.len
  obtain ⟨_, _, hw3, hw4, hw5⟩ := wf_pk hc.wf hs hne
  repeat refine g1 ?_
  refine RW.alc rfl fun b4 => ?_
  repeat refine g1 ?_
  refine RW.q rfl (q_call (args := #[.pointer (some ⟨p, 0, none⟩)]) oK rfl rfl (fun w1 hw1 => peek_c w1 (blkAt 1 rfl hw1) (hc.mono hw1.phi) hs hne)) ?_
  repeat refine g1 ?_
  refine AW.cond rfl (fun h => ?_) fun h => ?_
  · have h : (Pa.pk ts).Kind = 1 := by simpa using h
    have hv : Pa.valP (f + 1) g ts = Pa.amtP ts := by rw [Pa.valP, if_pos h]
    repeat refine g1 ?_
    refine RW.par (args := #[.pointer (some ⟨p, 0, none⟩)]) 1 rfl rfl oK rfl rfl (fun w1 hw1 => amount_c w1 Φ (hG.mono hΦg) hc hs hg h hw1) (fun er at_ Ψ w' he hw' => by rw [hv]; exact .inr ⟨er, at_, he, rfl, Ψ, hw'.drop (List.nil_sublist _)⟩) (fun _ => rfl) ?_
    rintro x r _ Ψ1 hres ⟨kx, rfl, hwx, hkx⟩ hl1
    refine RW.effn (e_store (v := .agg (ndC x kx).toArray) 0 rfl rfl rfl sz40 rfl (ndC_one hkx.sl) rfl rfl rfl) ?_
    repeat refine g1 ?_
    exact fin_res (vs := [.agg (ndC x kx).toArray]) rfl rfl ⟨.agg rfl rfl (Cells.blk 0 rfl), trivial⟩ rfl (fun w' hw => .inl ⟨x, r, _, Ψ1, by rw [hv]; exact hres, rfl, hl1, hw.drop (.cons _ (List.Sublist.refl _)), kx, rfl, hwx, hkx⟩)
  have h1 : (Pa.pk ts).Kind ≠ 1 := by simpa using h
  repeat refine g1 ?_
  refine RW.q rfl (q_call (args := #[.pointer (some ⟨p, 0, none⟩), .string (bs [40])]) oK rfl rfl (fun w1 hw1 => is_c w1 (blkAt 1 rfl hw1) (hc.mono hw1.phi) hs hne)) ?_
  repeat refine g1 ?_
  refine AW.cond rfl (fun h => ?_) fun h => ?_
  · have h : Pa.isS [40] ts = false := by simpa using h
    have hv : Pa.valP (f + 1) g ts = Pa.wordP ts := by rw [Pa.valP, if_neg h1, if_neg (by rw [h]; simp)]
    repeat refine g1 ?_
    refine RW.par (args := #[.pointer (some ⟨p, 0, none⟩)]) 1 rfl rfl oK rfl rfl (fun w1 hw1 => word_c w1 Φ hc hs hg hw1) (fun er at_ Ψ w' he hw' => by rw [hv]; exact .inr ⟨er, at_, he, rfl, Ψ, hw'.drop (List.nil_sublist _)⟩) (fun _ => rfl) ?_
    rintro x r _ Ψ1 hres ⟨kx, rfl, hwx, hkx⟩ hl1
    refine RW.effn (e_store (v := .agg (ndC x kx).toArray) 0 rfl rfl rfl sz40 rfl (ndC_one hkx.sl) rfl rfl rfl) ?_
    repeat refine g1 ?_
    exact fin_res (vs := [.agg (ndC x kx).toArray]) rfl rfl ⟨.agg rfl rfl (Cells.blk 0 rfl), trivial⟩ rfl (fun w' hw => .inl ⟨x, r, _, Ψ1, by rw [hv]; exact hres, rfl, hl1, hw.drop (.cons _ (List.Sublist.refl _)), kx, rfl, hwx, hkx⟩)
  have h2 : Pa.isS [40] ts = true := by simpa using h
  obtain ⟨hs1, hg1, hl1⟩ := Pa.ad_sign hg h2
  obtain ⟨_, hl⟩ := Pa.good_tail hg (by have := Pa.isS_kind h2; omega)
  repeat refine g1 ?_
  refine RW.q rfl (q_call (args := #[.pointer (some ⟨p, 0, none⟩)]) oK rfl rfl (fun w1 hw1 => peek_c w1 (blkAt 1 rfl hw1) (hc.mono hw1.phi) hs hne)) ?_
  repeat refine g1 ?_
  refine RW.q (v := .agg (ndC (Pa.grp (Pa.pk ts).At []) (.slice none 0 0)).toArray) rfl (q_build (vals := [(0, .int .i64 6), (3, .int .i64 (Pa.pk ts).At)]) zero40 Tryz.underlying40 places40 rfl rfl) ?_
  refine RW.alc rfl fun bn => ?_
  repeat refine g1 ?_
  refine AW.cond rfl (fun h => ?_) fun h => ?_
  · have h : 40 ≤ g := by have := odT h; omega
    have hv : Pa.valP (f + 1) g ts = .error (8, (Pa.pk ts).At) := by rw [Pa.valP, if_neg h1, if_pos h2, if_pos h]
    repeat refine g1 ?_
    refine RW.q (v := .agg #[.int .i64 8, .int .i64 (Pa.pk ts).At]) rfl (q_build (vals := [(0, .int .i64 8), (1, .int .i64 (Pa.pk ts).At)]) zero100 Tryz.underlying100 places100 rfl rfl) ?_
    repeat refine g1 ?_
    exact RW.pan rfl (fun w' hw' => .inr ⟨8, _, hv, rfl, _, hw'.drop (List.nil_sublist _)⟩)
  have hg3 : g < 40 := by have := odF h; omega
  have hv : Pa.valP (f + 1) g ts = match Pa.grpP f (g + 1) ts.tail with
      | .error e => .error e
      | .ok (xs, r) => .ok (Pa.grp (Pa.pk ts).At xs, r) := by rw [Pa.valP, if_neg h1, if_pos h2, if_neg (by omega)]; rfl
  repeat refine g1 ?_
  refine AW.wk (J' := St ⟨w, Φ, [p]⟩ Φ [.row (.slice none 0 0) 40 6 0 [], .blk bn 40 (ndC (Pa.grp (Pa.pk ts).At []) (.slice none 0 0)), .blk b4 40 [.int .i64 0, .string (bs []), .int .i64 0, .int .i64 0, .int .i64 0, .slice none 0 0], .blk p 104 (pcs tv toks ts.tail)]) (fun _ h => addNil (by rw [pcs_next hs hl]; exact h)) ?_
  refine AW.loop (fun s J' m => ∃ (K : List Bt.Node) (css : List Value) (kv : Value) (Ψ : Hp) (t1 : List Bt.Token) (fk : Nat), s = [(0, .pointer (some ⟨p, 0, none⟩)), (1, .int .i64 (g : Int)), (4, .pointer (some ⟨b4, 0, none⟩)), (5, .pointer (some ⟨bn, 0, none⟩))] ∧ J' = St ⟨w, Φ, [p]⟩ Ψ [.row kv 40 6 K.length css, .blk bn 40 (ndC (Pa.grp (Pa.pk ts).At []) kv), .blk b4 40 [.int .i64 0, .string (bs []), .int .i64 0, .int .i64 0, .int .i64 0, .slice none 0 0], .blk p 104 (pcs tv toks t1)] ∧ m = t1.length ∧ RepC Ψ K css ∧ Hp.le Φ Ψ ∧ t1 <:+ toks ∧ Pa.good t1 ∧ 2 * t1.length + 1 ≤ fk ∧ fk ≤ f ∧ IsSl kv K.length ∧ K.length + t1.length ≤ toks.length ∧
      Pa.valP (f + 1) g ts = match Pa.grpP fk (g + 1) t1 with
        | .error e => .error e
        | .ok (xs, r) => .ok (Pa.grp (Pa.pk ts).At (K ++ xs), r)) (s0 := _) (J1 := _) (m0 := _) ⟨[], [], .slice none 0 0, Φ, ts.tail, f, rfl, rfl, rfl, RepC.nil, Hp.le_refl _, hs1.trans hs, hg1, by omega, Nat.le_refl _, isSl_nil, by simp only [List.length_nil]; omega, hv⟩ ⟨rfl, rfl, rfl, rfl, trivial⟩ (fun _ h => h) ?_
  rintro _ _ _ _ ⟨K, css, kv, Ψ, t1, fk, rfl, rfl, rfl, hrc, hlΨ, hs3, hg4, hfk, hfk2, hkv, hKn, hve⟩
  obtain ⟨fk, rfl⟩ : ∃ f1, fk = f1 + 1 := ⟨fk - 1, by omega⟩
  repeat refine g1 ?_
  refine AW.draw (J0 := St ⟨w, Φ, [p]⟩ Ψ [.blk bn 40 (ndC (Pa.grp (Pa.pk ts).At []) kv)]) [.q, .q, .q, .q, .q, .e, .e, .e, .q, .e] [0, 1, 2, 3, 4, 5, 6, 7, 8, 9] hmix (by kernel_rfl) ?_
  repeat refine g1 ?_
  refine DW.par (res := Pa.valP fk (g + 1) t1) (C' := fun r => [.row kv 40 6 K.length css, .blk bn 40 (ndC (Pa.grp (Pa.pk ts).At []) kv), .blk b4 40 [.int .i64 0, .string (bs []), .int .i64 0, .int .i64 0, .int .i64 0, .slice none 0 0], .blk p 104 (pcs tv toks r)]) (args := #[.pointer (some ⟨p, 0, none⟩), .int .i64 ((g + 1 : Nat) : Int)]) 3 rfl rfl oK rfl rfl (fun w1 hw1 => ih fk (by omega) (g + 1) w1 Ψ (hΦg.trans hlΨ) (hc.mono hlΨ) hs3 hg4 (by omega) (by omega) hw1) (fun er at_ Ψ1 w1 he hw1 => ?_) (fun _ => rfl) (fun _ _ _ hl h => St.oneK 1 hl rfl h) ?_
  · exact .inr ⟨er, at_, by rw [hve, Pa.grpP, he], rfl, Ψ1, hw1.drop (List.nil_sublist _)⟩
  rintro x r _ Ψ1 hres ⟨kx, rfl, hwx, hkx⟩ hl1
  refine DW.eff (fun b6 : Nat => .slice (some ⟨b6, 0, none⟩) 1 1) (fun b6 => St ⟨w, Φ, [p]⟩ Ψ1 [.row (.slice (some ⟨b6, 0, none⟩) 1 1) 40 6 1 (ndC x kx), .row kv 40 6 K.length css, .blk bn 40 (ndC (Pa.grp (Pa.pk ts).At []) kv), .blk b4 40 [.int .i64 0, .string (bs []), .int .i64 0, .int .i64 0, .int .i64 0, .slice none 0 0], .blk p 104 (pcs tv toks r)]) (fun _ _ _ h => St.oneK 2 hl1 rfl h) rfl (e_buildSlice (vals := [(0, .agg (ndC x kx).toArray)]) (cells := ndC x kx) Tryz.underlying38 inf40 rfl rfl rfl (by kernel_rfl) rfl) ?_
  intro b6
  refine DW.eff (fun xv : {vq : Value // IsSl vq (K.length + 1)} => xv.1) (fun xv => St ⟨w, Φ, [p]⟩ Ψ1 [.row (.slice (some ⟨b6, 0, none⟩) 1 1) 40 6 1 (ndC x kx), .row xv.1 40 6 (K.length + 1) (css ++ ndC x kx), .blk bn 40 (ndC (Pa.grp (Pa.pk ts).At []) kv), .blk b4 40 [.int .i64 0, .string (bs []), .int .i64 0, .int .i64 0, .int .i64 0, .slice none 0 0], .blk p 104 (pcs tv toks r)]) (fun _ _ _ h => St.oneK 2 hl1 rfl h) rfl (e_append 1 rfl rfl rfl Tryz.underlying38 inf40 rfl rfl rfl (Cells.row0 0 rfl) (ndC_one hkx.sl) (by omega) (by omega) (fun _ => rfl)) ?_
  rintro ⟨va, hva⟩
  repeat refine g1 ?_
  refine DW.effn (J' := St ⟨w, Φ, [p]⟩ Ψ1 [.row (.slice (some ⟨b6, 0, none⟩) 1 1) 40 6 1 (ndC x kx), .row va 40 6 (K.length + 1) (css ++ ndC x kx), .blk bn 40 (ndC (Pa.grp (Pa.pk ts).At []) va), .blk b4 40 [.int .i64 0, .string (bs []), .int .i64 0, .int .i64 0, .int .i64 0, .slice none 0 0], .blk p 104 (pcs tv toks r)]) (fun h => absurd rfl h) (e_storeSl (v := va) 2 rfl rfl rfl hva sz38 rfl rfl rfl) ?_
  obtain ⟨hs5, hg5, hl5⟩ := Pa.valP_ok hg4 hres
  have hs6 := hs5.trans hs3
  have hrc1 : RepC Ψ1 (K ++ [x]) (css ++ ndC x kx) := (hrc.mono hl1).snoc (NdV.rep hwx hkx)
  repeat refine g1 ?_
  refine RW.par (args := #[.pointer (some ⟨p, 0, none⟩), .string (bs [41])]) 4 rfl rfl oK rfl rfl (fun w1 hw1 => psk_c w1 Ψ1 (hc.mono (hlΨ.trans hl1)) hs6 hg5 hw1) (fun er at_ Ψ2 w2 he hw2 => nomatch he) (fun _ => rfl) ?_
  rintro b r2 _ Ψ2 hres2 rfl hl2
  cases hres2
  repeat refine g1 ?_
  refine AW.cond rfl (fun hb => ?_) fun hb => ?_
  · rw [if_pos hb]
    repeat refine g1 ?_
    refine RW.effn (e_store (v := .agg (ndC (Pa.grp (Pa.pk ts).At []) va).toArray) 3 rfl rfl rfl sz40 rfl (ndC_one hva) rfl rfl rfl) ?_
    repeat refine g1 ?_
    refine fin_res (vs := [.agg (ndC (Pa.grp (Pa.pk ts).At []) va).toArray]) rfl rfl ⟨.agg rfl rfl (Cells.blk 3 rfl), trivial⟩ rfl (fun w3 hw3 => ?_)
    obtain ⟨Ψ3, hl3, hsat, hw4⟩ := StP.freezeP (hw3.drop (.cons _ (List.Sublist.refl _))) 2 rfl
    refine .inl ⟨Pa.grp (Pa.pk ts).At (K ++ [x]), r.tail, _, Ψ3, ?_, rfl, ((hlΨ.trans hl1).trans hl2).trans hl3, hw4.drop (.cons _ (.cons _ (List.Sublist.refl _))), va, rfl, ?_, ?_⟩
    · rw [hve, Pa.grpP, hres]; simp only []; rw [if_pos hb]
    · refine ⟨?_, ?_, ?_, ?_, ?_⟩ <;> simp only [Pa.grp, maxLen, List.length_nil] <;> (try unfold I64) <;> omega
    · exact RowS.repC (show RowS Ψ3 va 40 6 (K.length + 1) (css ++ ndC x kx) from hsat) (hrc1.mono (hl2.trans hl3)) (by simp [Pa.grp]) (by simp only [maxSl]; show (K.length + 1) * 72 ≤ _; omega)
  rw [if_neg (by rw [hb]; simp)]
  repeat refine g1 ?_
  refine RW.par (args := #[.pointer (some ⟨p, 0, none⟩), .string (bs [44])]) 4 rfl rfl oK rfl rfl (fun w1 hw1 => psk_c w1 Ψ2 (hc.mono ((hlΨ.trans hl1).trans hl2)) hs6 hg5 hw1) (fun er at_ Ψ2 w2 he hw2 => nomatch he) (fun _ => rfl) ?_
  rintro b r2 _ Ψ4 hres2 rfl hl4
  cases hres2
  repeat refine g1 ?_
  refine AW.cond rfl (fun hb2 => ?_) fun hb2 => ?_
  · have hb2 : Pa.isS [44] r = false := by simpa using hb2
    rw [if_neg (by rw [hb2]; simp)]
    repeat refine g1 ?_
    refine RW.par (args := #[.pointer (some ⟨p, 0, none⟩)]) 4 rfl rfl oK rfl rfl (fun w1 hw1 => fail_c w1 Ψ4 (hc.mono (((hlΨ.trans hl1).trans hl2).trans hl4)) hs6 hg5 hw1) (fun er at_ Ψ5 w2 he hw2 => ?_) (fun _ => rfl) ?_
    · refine .inr ⟨er, at_, ?_, rfl, Ψ5, hw2.drop (List.nil_sublist _)⟩
      rw [hve, Pa.grpP, hres]; simp only []; rw [if_neg (by rw [hb]; simp), if_neg (by rw [hb2]; simp)]; rw [fail_to he]
    · rintro _ _ _ _ h; cases h
  have hb2 : Pa.isS [44] r = true := by simpa using hb2
  rw [if_pos hb2]
  obtain ⟨hs7, hg7, hl7⟩ := Pa.ad_sign hg5 hb2
  repeat refine g1 ?_
  exact Post.back (s' := _) (J' := _) (m' := _) (by omega) ⟨K ++ [x], css ++ ndC x kx, va, Ψ4, r.tail, fk, rfl, rfl, rfl, hrc1.mono (hl2.trans hl4), ((hlΨ.trans hl1).trans hl2).trans hl4, hs7.trans hs6, hg7, by omega, by omega, by simpa using hva, by simp; omega, by rw [hve, Pa.grpP, hres]; simp only []; rw [if_neg (by rw [hb]; simp), if_pos hb2]; cases Pa.grpP fk (g + 1) r.tail <;> simp⟩ ⟨rfl, rfl, rfl, rfl, trivial⟩ (fun _ h => by simp only [List.length_append, List.length_singleton]; exact StP.drop h (.cons _ (List.Sublist.refl _)))

theorem prop_c (w : World) (Φ : Hp) {Φg : Hp} (hG : Knows Φg Glob) (hΦg : Hp.le Φg Φ) {p : Nat} {tv : Value} {toks ts : List Bt.Token} (hc : PCtx Φ toks tv) (hs : ts <:+ toks) (hg : Pa.good ts) (h0 : StP ⟨w, Φ, [p]⟩ Φ [.blk p 104 (pcs tv toks ts)] w) :
    Calls pg 127 #[.pointer (some ⟨p, 0, none⟩)] w (ParR 100 w Φ p 104 (pcs tv toks) (Pa.propP ts) fun x r Ψ => NdV Ψ x r) := by
  have hne := Pa.good_ne hg
  refine calls_of_AW (args := [.pointer (some ⟨p, 0, none⟩)]) Tryz.func127 rfl (lBT rfl) (St ⟨w, Φ, [p]⟩ Φ [.blk p 104 (pcs tv toks ts)]) h0 ?_
  show AW _ _ [] _ _ _ [(0, .pointer (some ⟨p, 0, none⟩))] _
  have hle := Pa.suf_len hs
  have hln := hc.len
  obtain ⟨_, _, hw3, hw4, hw5⟩ := wf_pk hc.wf hs hne
  repeat refine g1 ?_
  refine RW.alc rfl fun b2 => ?_
  repeat refine g1 ?_
  refine RW.par (args := #[.pointer (some ⟨p, 0, none⟩)]) 1 rfl rfl oK rfl rfl (fun w1 hw1 => name_c w1 Φ hc hs hg hw1) (fun er at_ Ψ w' he hw' => .inr ⟨er, at_, by unfold Pa.propP; rw [he], rfl, Ψ, hw'.drop (List.nil_sublist _)⟩) (fun _ => rfl) ?_
  rintro t r0 _ Ψ0 hres0 rfl hl0
  obtain ⟨⟨hs1, hg1, hl1⟩, rfl, hk0⟩ := Pa.nameP_ok hg hres0
  have hs2 := hs1.trans hs
  refine RW.alc rfl fun b3 => ?_
  repeat refine g1 ?_
  refine RW.q (v := .agg (ndC (⟨2, (Pa.pk ts).Text, 0, 0, (Pa.pk ts).At, []⟩ : Bt.Node) (.slice none 0 0)).toArray) rfl (q_build (vals := [(0, .int .i64 2), (1, .string (bs (Pa.pk ts).Text)), (3, .int .i64 (Pa.pk ts).At)]) zero40 Tryz.underlying40 places40 rfl rfl) ?_
  refine RW.alc rfl fun bn => ?_
  repeat refine g1 ?_
  refine AW.wk (J' := St ⟨w, Φ, [p]⟩ Ψ0 [.row (.slice none 0 0) 40 6 0 [], .blk bn 40 (ndC (⟨2, (Pa.pk ts).Text, 0, 0, (Pa.pk ts).At, []⟩ : Bt.Node) (.slice none 0 0)), .blk b3 65 (tkC (Pa.pk ts)), .blk b2 40 [.int .i64 0, .string (bs []), .int .i64 0, .int .i64 0, .int .i64 0, .slice none 0 0], .blk p 104 (pcs tv toks r0)]) (fun _ h => addNil h) ?_
  refine AW.loop (fun s J' m => ∃ (K : List Bt.Node) (css : List Value) (kv : Value) (Ψ : Hp) (t1 : List Bt.Token) (fk : Nat), s = [(0, .pointer (some ⟨p, 0, none⟩)), (2, .pointer (some ⟨b2, 0, none⟩)), (3, .pointer (some ⟨b3, 0, none⟩)), (4, .pointer (some ⟨bn, 0, none⟩))] ∧ J' = St ⟨w, Φ, [p]⟩ Ψ [.row kv 40 6 K.length css, .blk bn 40 (ndC (⟨2, (Pa.pk ts).Text, 0, 0, (Pa.pk ts).At, []⟩ : Bt.Node) kv), .blk b3 65 (tkC (Pa.pk ts)), .blk b2 40 [.int .i64 0, .string (bs []), .int .i64 0, .int .i64 0, .int .i64 0, .slice none 0 0], .blk p 104 (pcs tv toks t1)] ∧ m = t1.length ∧ RepC Ψ K css ∧ Hp.le Φ Ψ ∧ t1 <:+ toks ∧ Pa.good t1 ∧ t1.length ≤ fk ∧ IsSl kv K.length ∧ K.length + t1.length ≤ toks.length ∧ Pa.propP ts = match Pa.many [59] Pa.val0 fk t1 with | .error e => .error e | .ok (xs, r) => .ok ((⟨2, (Pa.pk ts).Text, 0, 0, (Pa.pk ts).At, (K ++ xs)⟩ : Bt.Node), r)) (s0 := _) (J1 := _) (m0 := _) ⟨[], [], .slice none 0 0, Ψ0, r0, r0.length, rfl, rfl, rfl, RepC.nil, hl0, hs2, hg1, Nat.le_refl _, isSl_nil, by simp only [List.length_nil]; omega, by unfold Pa.propP; rw [hres0]; rfl⟩ ⟨rfl, rfl, rfl, rfl, trivial⟩ (fun _ h => h) ?_
  rintro _ _ _ _ ⟨K, css, kv, Ψ, t1, fk, rfl, rfl, rfl, hrc, hlΨ, hs3, hg4, hfk, hkv, hKn, hve⟩
  obtain ⟨fk, rfl⟩ : ∃ f1, fk = f1 + 1 := ⟨fk - 1, by have := List.length_pos_iff.2 (Pa.good_ne hg4); omega⟩
  repeat refine g1 ?_
  refine RW.par (args := #[.pointer (some ⟨p, 0, none⟩), .string (bs [59])]) 4 rfl rfl oK rfl rfl (fun w1 hw1 => psk_c w1 Ψ (hc.mono hlΨ) hs3 hg4 hw1) (fun er at_ Ψ2 w2 he hw2 => nomatch he) (fun _ => rfl) ?_
  rintro b r2 _ Ψ2 hres2 rfl hl2
  cases hres2
  have hl3 := hlΨ.trans hl2
  repeat refine g1 ?_
  refine AW.cond rfl (fun hb => ?_) fun hb => ?_
  · have hb : Pa.isS [59] t1 = false := by simpa using hb
    rw [if_neg (by rw [hb]; simp)]
    repeat refine g1 ?_
    refine AW.draw (J0 := St ⟨w, Φ, [p]⟩ Ψ2 [.blk bn 40 (ndC (⟨2, (Pa.pk ts).Text, 0, 0, (Pa.pk ts).At, []⟩ : Bt.Node) kv)]) [.q, .q, .q, .e, .e, .e, .q, .e] [0, 1, 2, 3, 4, 5, 6, 7] hmix (by kernel_rfl) ?_
    repeat refine g1 ?_
    refine DW.par (res := Pa.val0 t1) (C' := fun r => [.row kv 40 6 K.length css, .blk bn 40 (ndC (⟨2, (Pa.pk ts).Text, 0, 0, (Pa.pk ts).At, []⟩ : Bt.Node) kv), .blk b3 65 (tkC (Pa.pk ts)), .blk b2 40 [.int .i64 0, .string (bs []), .int .i64 0, .int .i64 0, .int .i64 0, .slice none 0 0], .blk p 104 (pcs tv toks r)]) (args := #[.pointer (some ⟨p, 0, none⟩), .int .i64 ((0 : Nat) : Int)]) 4 rfl rfl oK rfl rfl (fun w1 hw1 => pval_c hG (2 * t1.length) 0 w1 Ψ2 (hΦg.trans hl3) (hc.mono hl3) hs3 hg4 (Nat.le_refl _) (Nat.zero_le _) hw1) (fun er at_ Ψ1 w1 he hw1 => ?_) (fun _ => rfl) (fun _ _ _ hl h => St.oneK 1 hl rfl h) ?_
    · exact .inr ⟨er, at_, by rw [hve, Pa.many, if_neg (by rw [hb]; simp), he], rfl, Ψ1, hw1.drop (List.nil_sublist _)⟩
    rintro x r _ Ψ1 hres ⟨kx, rfl, hwx, hkx⟩ hl1
    refine DW.eff (fun b6 : Nat => .slice (some ⟨b6, 0, none⟩) 1 1) (fun b6 => St ⟨w, Φ, [p]⟩ Ψ1 [.row (.slice (some ⟨b6, 0, none⟩) 1 1) 40 6 1 (ndC x kx), .row kv 40 6 K.length css, .blk bn 40 (ndC (⟨2, (Pa.pk ts).Text, 0, 0, (Pa.pk ts).At, []⟩ : Bt.Node) kv), .blk b3 65 (tkC (Pa.pk ts)), .blk b2 40 [.int .i64 0, .string (bs []), .int .i64 0, .int .i64 0, .int .i64 0, .slice none 0 0], .blk p 104 (pcs tv toks r)]) (fun _ _ _ h => St.oneK 2 hl1 rfl h) rfl (e_buildSlice (vals := [(0, .agg (ndC x kx).toArray)]) (cells := ndC x kx) Tryz.underlying38 inf40 rfl rfl rfl (by kernel_rfl) rfl) ?_
    intro b6
    refine DW.eff (fun xv : {vq : Value // IsSl vq (K.length + 1)} => xv.1) (fun xv => St ⟨w, Φ, [p]⟩ Ψ1 [.row (.slice (some ⟨b6, 0, none⟩) 1 1) 40 6 1 (ndC x kx), .row xv.1 40 6 (K.length + 1) (css ++ ndC x kx), .blk bn 40 (ndC (⟨2, (Pa.pk ts).Text, 0, 0, (Pa.pk ts).At, []⟩ : Bt.Node) kv), .blk b3 65 (tkC (Pa.pk ts)), .blk b2 40 [.int .i64 0, .string (bs []), .int .i64 0, .int .i64 0, .int .i64 0, .slice none 0 0], .blk p 104 (pcs tv toks r)]) (fun _ _ _ h => St.oneK 2 hl1 rfl h) rfl (e_append 1 rfl rfl rfl Tryz.underlying38 inf40 rfl rfl rfl (Cells.row0 0 rfl) (ndC_one hkx.sl) (by omega) (by omega) (fun _ => rfl)) ?_
    rintro ⟨va, hva⟩
    repeat refine g1 ?_
    refine DW.effn (J' := St ⟨w, Φ, [p]⟩ Ψ1 [.row (.slice (some ⟨b6, 0, none⟩) 1 1) 40 6 1 (ndC x kx), .row va 40 6 (K.length + 1) (css ++ ndC x kx), .blk bn 40 (ndC (⟨2, (Pa.pk ts).Text, 0, 0, (Pa.pk ts).At, []⟩ : Bt.Node) va), .blk b3 65 (tkC (Pa.pk ts)), .blk b2 40 [.int .i64 0, .string (bs []), .int .i64 0, .int .i64 0, .int .i64 0, .slice none 0 0], .blk p 104 (pcs tv toks r)]) (fun h => absurd rfl h) (e_storeSl (v := va) 2 rfl rfl rfl hva sz38 rfl rfl rfl) ?_
    obtain ⟨hs5, hg5, hl5⟩ := Pa.val0_ok hg4 hres
    repeat refine g1 ?_
    exact Post.back (s' := _) (J' := _) (m' := _) (by omega) ⟨K ++ [x], css ++ ndC x kx, va, Ψ1, r, fk, rfl, rfl, rfl, (hrc.mono (hl2.trans hl1)).snoc (NdV.rep hwx hkx), hl3.trans hl1, hs5.trans hs3, hg5, by omega, by simpa using hva, by simp; omega, by rw [hve, Pa.many, if_neg (by rw [hb]; simp), hres]; simp only []; cases Pa.many [59] Pa.val0 fk r <;> simp⟩ ⟨rfl, rfl, rfl, rfl, trivial⟩ (fun _ h => by simp only [List.length_append, List.length_singleton]; exact StP.drop h (.cons _ (List.Sublist.refl _)))
  have hb : Pa.isS [59] t1 = true := by simpa using hb
  rw [if_pos hb]
  obtain ⟨hs7, hg7, hl7⟩ := Pa.ad_sign hg4 hb
  have hs8 := hs7.trans hs3
  repeat refine g1 ?_
  refine RW.effn (e_store (v := .agg (ndC (⟨2, (Pa.pk ts).Text, 0, 0, (Pa.pk ts).At, []⟩ : Bt.Node) kv).toArray) 3 rfl rfl rfl sz40 rfl (ndC_one hkv) rfl rfl rfl) ?_
  repeat refine g1 ?_
  refine fin_res (vs := [.agg (ndC (⟨2, (Pa.pk ts).Text, 0, 0, (Pa.pk ts).At, []⟩ : Bt.Node) kv).toArray]) rfl rfl ⟨.agg rfl rfl (Cells.blk 3 rfl), trivial⟩ rfl (fun w3 hw3 => ?_)
  obtain ⟨Ψ3, hl4, hsat, hw4⟩ := StP.freezeP hw3 3 rfl
  refine .inl ⟨(⟨2, (Pa.pk ts).Text, 0, 0, (Pa.pk ts).At, K⟩ : Bt.Node), t1.tail, _, Ψ3, ?_, rfl, (hl3).trans hl4, hw4.drop (.cons _ (.cons _ (.cons _ (List.Sublist.refl _)))), kv, rfl, ?_, ?_⟩
  · rw [hve, Pa.many, if_pos hb]; simp
  · refine ⟨?_, ?_, ?_, ?_, ?_⟩ <;> simp only [maxLen] <;> (try unfold I64) <;> omega
  · exact RowS.repC (show RowS Ψ3 kv 40 6 K.length css from hsat) (hrc.mono (hl2.trans hl4)) rfl (by simp only [maxSl]; show K.length * 72 ≤ _; omega)
theorem decl_c (w : World) (Φ : Hp) {Φg : Hp} (hG : Knows Φg Glob) (hΦg : Hp.le Φg Φ) {p : Nat} {tv : Value} {toks ts : List Bt.Token} (hc : PCtx Φ toks tv) (hs : ts <:+ toks) (hg : Pa.good ts) (h0 : StP ⟨w, Φ, [p]⟩ Φ [.blk p 104 (pcs tv toks ts)] w) :
    Calls pg 90 #[.pointer (some ⟨p, 0, none⟩)] w (ParR 100 w Φ p 104 (pcs tv toks) (Pa.declP ts) fun x r Ψ => NdV Ψ x r) := by
  have hne := Pa.good_ne hg
  refine calls_of_AW (args := [.pointer (some ⟨p, 0, none⟩)]) Tryz.func90 rfl (lBT rfl) (St ⟨w, Φ, [p]⟩ Φ [.blk p 104 (pcs tv toks ts)]) h0 ?_
  show AW _ _ [] _ _ _ [(0, .pointer (some ⟨p, 0, none⟩))] _
  have hle := Pa.suf_len hs
  have hln := hc.len
  obtain ⟨_, _, hw3, hw4, hw5⟩ := wf_pk hc.wf hs hne
  repeat refine g1 ?_
  refine RW.alc rfl fun b2 => ?_
  repeat refine g1 ?_
  refine RW.par (args := #[.pointer (some ⟨p, 0, none⟩)]) 1 rfl rfl oK rfl rfl (fun w1 hw1 => name_c w1 Φ hc hs hg hw1) (fun er at_ Ψ w' he hw' => .inr ⟨er, at_, by unfold Pa.declP; rw [he], rfl, Ψ, hw'.drop (List.nil_sublist _)⟩) (fun _ => rfl) ?_
  rintro t r0 _ Ψ0 hres0 rfl hl0
  obtain ⟨⟨hs1, hg1, hl1⟩, rfl, hk0⟩ := Pa.nameP_ok hg hres0
  have hs2 := hs1.trans hs
  refine RW.alc rfl fun b3 => ?_
  repeat refine g1 ?_
  refine RW.q (v := .agg (ndC (⟨1, (Pa.pk ts).Text, 0, 0, (Pa.pk ts).At, []⟩ : Bt.Node) (.slice none 0 0)).toArray) rfl (q_build (vals := [(0, .int .i64 1), (1, .string (bs (Pa.pk ts).Text)), (3, .int .i64 (Pa.pk ts).At)]) zero40 Tryz.underlying40 places40 rfl rfl) ?_
  refine RW.alc rfl fun bn => ?_
  repeat refine g1 ?_
  refine AW.wk (J' := St ⟨w, Φ, [p]⟩ Ψ0 [.row (.slice none 0 0) 40 6 0 [], .blk bn 40 (ndC (⟨1, (Pa.pk ts).Text, 0, 0, (Pa.pk ts).At, []⟩ : Bt.Node) (.slice none 0 0)), .blk b3 65 (tkC (Pa.pk ts)), .blk b2 40 [.int .i64 0, .string (bs []), .int .i64 0, .int .i64 0, .int .i64 0, .slice none 0 0], .blk p 104 (pcs tv toks r0)]) (fun _ h => addNil h) ?_
  refine AW.loop (fun s J' m => ∃ (K : List Bt.Node) (css : List Value) (kv : Value) (Ψ : Hp) (t1 : List Bt.Token) (fk : Nat), s = [(0, .pointer (some ⟨p, 0, none⟩)), (2, .pointer (some ⟨b2, 0, none⟩)), (3, .pointer (some ⟨b3, 0, none⟩)), (4, .pointer (some ⟨bn, 0, none⟩))] ∧ J' = St ⟨w, Φ, [p]⟩ Ψ [.row kv 40 6 K.length css, .blk bn 40 (ndC (⟨1, (Pa.pk ts).Text, 0, 0, (Pa.pk ts).At, []⟩ : Bt.Node) kv), .blk b3 65 (tkC (Pa.pk ts)), .blk b2 40 [.int .i64 0, .string (bs []), .int .i64 0, .int .i64 0, .int .i64 0, .slice none 0 0], .blk p 104 (pcs tv toks t1)] ∧ m = t1.length ∧ RepC Ψ K css ∧ Hp.le Φ Ψ ∧ t1 <:+ toks ∧ Pa.good t1 ∧ t1.length ≤ fk ∧ IsSl kv K.length ∧ K.length + t1.length ≤ toks.length ∧ Pa.declP ts = match Pa.many [123] Pa.wordP fk t1 with | .error e => .error e | .ok (xs, r) => (match Pa.many [125] Pa.propP r.length r with | .error e => .error e | .ok (ys, r2) => .ok ((⟨1, (Pa.pk ts).Text, 0, 0, (Pa.pk ts).At, (K ++ xs ++ ys)⟩ : Bt.Node), r2))) (s0 := _) (J1 := _) (m0 := _) ⟨[], [], .slice none 0 0, Ψ0, r0, r0.length, rfl, rfl, rfl, RepC.nil, hl0, hs2, hg1, Nat.le_refl _, isSl_nil, by simp only [List.length_nil]; omega, by unfold Pa.declP; rw [hres0]; rfl⟩ ⟨rfl, rfl, rfl, rfl, trivial⟩ (fun _ h => h) ?_
  rintro _ _ _ _ ⟨K, css, kv, Ψ, t1, fk, rfl, rfl, rfl, hrc, hlΨ, hs3, hg4, hfk, hkv, hKn, hve⟩
  obtain ⟨fk, rfl⟩ : ∃ f1, fk = f1 + 1 := ⟨fk - 1, by have := List.length_pos_iff.2 (Pa.good_ne hg4); omega⟩
  repeat refine g1 ?_
  refine RW.par (args := #[.pointer (some ⟨p, 0, none⟩), .string (bs [123])]) 4 rfl rfl oK rfl rfl (fun w1 hw1 => psk_c w1 Ψ (hc.mono hlΨ) hs3 hg4 hw1) (fun er at_ Ψ2 w2 he hw2 => nomatch he) (fun _ => rfl) ?_
  rintro b r2 _ Ψ2 hres2 rfl hl2
  cases hres2
  have hl3 := hlΨ.trans hl2
  repeat refine g1 ?_
  refine AW.cond rfl (fun hb => ?_) fun hb => ?_
  · have hb : Pa.isS [123] t1 = false := by simpa using hb
    rw [if_neg (by rw [hb]; simp)]
    repeat refine g1 ?_
    refine AW.draw (J0 := St ⟨w, Φ, [p]⟩ Ψ2 [.blk bn 40 (ndC (⟨1, (Pa.pk ts).Text, 0, 0, (Pa.pk ts).At, []⟩ : Bt.Node) kv)]) [.q, .q, .q, .e, .e, .e, .q, .e] [0, 1, 2, 3, 4, 5, 6, 7] hmix (by kernel_rfl) ?_
    repeat refine g1 ?_
    refine DW.par (res := Pa.wordP t1) (C' := fun r => [.row kv 40 6 K.length css, .blk bn 40 (ndC (⟨1, (Pa.pk ts).Text, 0, 0, (Pa.pk ts).At, []⟩ : Bt.Node) kv), .blk b3 65 (tkC (Pa.pk ts)), .blk b2 40 [.int .i64 0, .string (bs []), .int .i64 0, .int .i64 0, .int .i64 0, .slice none 0 0], .blk p 104 (pcs tv toks r)]) (args := #[.pointer (some ⟨p, 0, none⟩)]) 4 rfl rfl oK rfl rfl (fun w1 hw1 => word_c w1 Ψ2 (hc.mono hl3) hs3 hg4 hw1) (fun er at_ Ψ1 w1 he hw1 => ?_) (fun _ => rfl) (fun _ _ _ hl h => St.oneK 1 hl rfl h) ?_
    · exact .inr ⟨er, at_, by rw [hve, Pa.many, if_neg (by rw [hb]; simp), he], rfl, Ψ1, hw1.drop (List.nil_sublist _)⟩
    rintro x r _ Ψ1 hres ⟨kx, rfl, hwx, hkx⟩ hl1
    refine DW.eff (fun b6 : Nat => .slice (some ⟨b6, 0, none⟩) 1 1) (fun b6 => St ⟨w, Φ, [p]⟩ Ψ1 [.row (.slice (some ⟨b6, 0, none⟩) 1 1) 40 6 1 (ndC x kx), .row kv 40 6 K.length css, .blk bn 40 (ndC (⟨1, (Pa.pk ts).Text, 0, 0, (Pa.pk ts).At, []⟩ : Bt.Node) kv), .blk b3 65 (tkC (Pa.pk ts)), .blk b2 40 [.int .i64 0, .string (bs []), .int .i64 0, .int .i64 0, .int .i64 0, .slice none 0 0], .blk p 104 (pcs tv toks r)]) (fun _ _ _ h => St.oneK 2 hl1 rfl h) rfl (e_buildSlice (vals := [(0, .agg (ndC x kx).toArray)]) (cells := ndC x kx) Tryz.underlying38 inf40 rfl rfl rfl (by kernel_rfl) rfl) ?_
    intro b6
    refine DW.eff (fun xv : {vq : Value // IsSl vq (K.length + 1)} => xv.1) (fun xv => St ⟨w, Φ, [p]⟩ Ψ1 [.row (.slice (some ⟨b6, 0, none⟩) 1 1) 40 6 1 (ndC x kx), .row xv.1 40 6 (K.length + 1) (css ++ ndC x kx), .blk bn 40 (ndC (⟨1, (Pa.pk ts).Text, 0, 0, (Pa.pk ts).At, []⟩ : Bt.Node) kv), .blk b3 65 (tkC (Pa.pk ts)), .blk b2 40 [.int .i64 0, .string (bs []), .int .i64 0, .int .i64 0, .int .i64 0, .slice none 0 0], .blk p 104 (pcs tv toks r)]) (fun _ _ _ h => St.oneK 2 hl1 rfl h) rfl (e_append 1 rfl rfl rfl Tryz.underlying38 inf40 rfl rfl rfl (Cells.row0 0 rfl) (ndC_one hkx.sl) (by omega) (by omega) (fun _ => rfl)) ?_
    rintro ⟨va, hva⟩
    repeat refine g1 ?_
    refine DW.effn (J' := St ⟨w, Φ, [p]⟩ Ψ1 [.row (.slice (some ⟨b6, 0, none⟩) 1 1) 40 6 1 (ndC x kx), .row va 40 6 (K.length + 1) (css ++ ndC x kx), .blk bn 40 (ndC (⟨1, (Pa.pk ts).Text, 0, 0, (Pa.pk ts).At, []⟩ : Bt.Node) va), .blk b3 65 (tkC (Pa.pk ts)), .blk b2 40 [.int .i64 0, .string (bs []), .int .i64 0, .int .i64 0, .int .i64 0, .slice none 0 0], .blk p 104 (pcs tv toks r)]) (fun h => absurd rfl h) (e_storeSl (v := va) 2 rfl rfl rfl hva sz38 rfl rfl rfl) ?_
    obtain ⟨hs5, hg5, hl5⟩ := Pa.wordP_ok hg4 hres
    repeat refine g1 ?_
    exact Post.back (s' := _) (J' := _) (m' := _) (by omega) ⟨K ++ [x], css ++ ndC x kx, va, Ψ1, r, fk, rfl, rfl, rfl, (hrc.mono (hl2.trans hl1)).snoc (NdV.rep hwx hkx), hl3.trans hl1, hs5.trans hs3, hg5, by omega, by simpa using hva, by simp; omega, by rw [hve, Pa.many, if_neg (by rw [hb]; simp), hres]; simp only []; cases Pa.many [123] Pa.wordP fk r <;> simp⟩ ⟨rfl, rfl, rfl, rfl, trivial⟩ (fun _ h => by simp only [List.length_append, List.length_singleton]; exact StP.drop h (.cons _ (List.Sublist.refl _)))
  have hb : Pa.isS [123] t1 = true := by simpa using hb
  rw [if_pos hb]
  obtain ⟨hs7, hg7, hl7⟩ := Pa.ad_sign hg4 hb
  have hs8 := hs7.trans hs3
  repeat refine g1 ?_
  refine AW.loop (fun s J' m => ∃ (K : List Bt.Node) (css : List Value) (kv : Value) (Ψ : Hp) (t1 : List Bt.Token) (fk : Nat), s = [(0, .pointer (some ⟨p, 0, none⟩)), (2, .pointer (some ⟨b2, 0, none⟩)), (3, .pointer (some ⟨b3, 0, none⟩)), (4, .pointer (some ⟨bn, 0, none⟩))] ∧ J' = St ⟨w, Φ, [p]⟩ Ψ [.row kv 40 6 K.length css, .blk bn 40 (ndC (⟨1, (Pa.pk ts).Text, 0, 0, (Pa.pk ts).At, []⟩ : Bt.Node) kv), .blk b3 65 (tkC (Pa.pk ts)), .blk b2 40 [.int .i64 0, .string (bs []), .int .i64 0, .int .i64 0, .int .i64 0, .slice none 0 0], .blk p 104 (pcs tv toks t1)] ∧ m = t1.length ∧ RepC Ψ K css ∧ Hp.le Φ Ψ ∧ t1 <:+ toks ∧ Pa.good t1 ∧ t1.length ≤ fk ∧ IsSl kv K.length ∧ K.length + t1.length ≤ toks.length ∧ Pa.declP ts = match Pa.many [125] Pa.propP fk t1 with | .error e => .error e | .ok (ys, r2) => .ok ((⟨1, (Pa.pk ts).Text, 0, 0, (Pa.pk ts).At, (K ++ ys)⟩ : Bt.Node), r2)) (s0 := _) (J1 := _) (m0 := _) ⟨K, css, kv, Ψ2, t1.tail, t1.tail.length, rfl, rfl, rfl, hrc.mono hl2, hl3, hs8, hg7, Nat.le_refl _, hkv, by omega, by rw [hve, Pa.many, if_pos hb]; simp⟩ ⟨rfl, rfl, rfl, rfl, trivial⟩ (fun _ h => h) ?_
  rintro _ _ _ _ ⟨K, css, kv, Ψ, t1, fk, rfl, rfl, rfl, hrc, hlΨ, hs3, hg4, hfk, hkv, hKn, hve⟩
  obtain ⟨fk, rfl⟩ : ∃ f1, fk = f1 + 1 := ⟨fk - 1, by have := List.length_pos_iff.2 (Pa.good_ne hg4); omega⟩
  repeat refine g1 ?_
  refine RW.par (args := #[.pointer (some ⟨p, 0, none⟩), .string (bs [125])]) 4 rfl rfl oK rfl rfl (fun w1 hw1 => psk_c w1 Ψ (hc.mono hlΨ) hs3 hg4 hw1) (fun er at_ Ψ2 w2 he hw2 => nomatch he) (fun _ => rfl) ?_
  rintro b r2 _ Ψ2 hres2 rfl hl2
  cases hres2
  have hl3 := hlΨ.trans hl2
  repeat refine g1 ?_
  refine AW.cond rfl (fun hb => ?_) fun hb => ?_
  · have hb : Pa.isS [125] t1 = false := by simpa using hb
    rw [if_neg (by rw [hb]; simp)]
    repeat refine g1 ?_
    refine AW.draw (J0 := St ⟨w, Φ, [p]⟩ Ψ2 [.blk bn 40 (ndC (⟨1, (Pa.pk ts).Text, 0, 0, (Pa.pk ts).At, []⟩ : Bt.Node) kv)]) [.q, .q, .q, .e, .e, .e, .q, .e] [0, 1, 2, 3, 4, 5, 6, 7] hmix (by kernel_rfl) ?_
    repeat refine g1 ?_
    refine DW.par (res := Pa.propP t1) (C' := fun r => [.row kv 40 6 K.length css, .blk bn 40 (ndC (⟨1, (Pa.pk ts).Text, 0, 0, (Pa.pk ts).At, []⟩ : Bt.Node) kv), .blk b3 65 (tkC (Pa.pk ts)), .blk b2 40 [.int .i64 0, .string (bs []), .int .i64 0, .int .i64 0, .int .i64 0, .slice none 0 0], .blk p 104 (pcs tv toks r)]) (args := #[.pointer (some ⟨p, 0, none⟩)]) 4 rfl rfl oK rfl rfl (fun w1 hw1 => prop_c w1 Ψ2 hG (hΦg.trans hl3) (hc.mono hl3) hs3 hg4 hw1) (fun er at_ Ψ1 w1 he hw1 => ?_) (fun _ => rfl) (fun _ _ _ hl h => St.oneK 1 hl rfl h) ?_
    · exact .inr ⟨er, at_, by rw [hve, Pa.many, if_neg (by rw [hb]; simp), he], rfl, Ψ1, hw1.drop (List.nil_sublist _)⟩
    rintro x r _ Ψ1 hres ⟨kx, rfl, hwx, hkx⟩ hl1
    refine DW.eff (fun b6 : Nat => .slice (some ⟨b6, 0, none⟩) 1 1) (fun b6 => St ⟨w, Φ, [p]⟩ Ψ1 [.row (.slice (some ⟨b6, 0, none⟩) 1 1) 40 6 1 (ndC x kx), .row kv 40 6 K.length css, .blk bn 40 (ndC (⟨1, (Pa.pk ts).Text, 0, 0, (Pa.pk ts).At, []⟩ : Bt.Node) kv), .blk b3 65 (tkC (Pa.pk ts)), .blk b2 40 [.int .i64 0, .string (bs []), .int .i64 0, .int .i64 0, .int .i64 0, .slice none 0 0], .blk p 104 (pcs tv toks r)]) (fun _ _ _ h => St.oneK 2 hl1 rfl h) rfl (e_buildSlice (vals := [(0, .agg (ndC x kx).toArray)]) (cells := ndC x kx) Tryz.underlying38 inf40 rfl rfl rfl (by kernel_rfl) rfl) ?_
    intro b6
    refine DW.eff (fun xv : {vq : Value // IsSl vq (K.length + 1)} => xv.1) (fun xv => St ⟨w, Φ, [p]⟩ Ψ1 [.row (.slice (some ⟨b6, 0, none⟩) 1 1) 40 6 1 (ndC x kx), .row xv.1 40 6 (K.length + 1) (css ++ ndC x kx), .blk bn 40 (ndC (⟨1, (Pa.pk ts).Text, 0, 0, (Pa.pk ts).At, []⟩ : Bt.Node) kv), .blk b3 65 (tkC (Pa.pk ts)), .blk b2 40 [.int .i64 0, .string (bs []), .int .i64 0, .int .i64 0, .int .i64 0, .slice none 0 0], .blk p 104 (pcs tv toks r)]) (fun _ _ _ h => St.oneK 2 hl1 rfl h) rfl (e_append 1 rfl rfl rfl Tryz.underlying38 inf40 rfl rfl rfl (Cells.row0 0 rfl) (ndC_one hkx.sl) (by omega) (by omega) (fun _ => rfl)) ?_
    rintro ⟨va, hva⟩
    repeat refine g1 ?_
    refine DW.effn (J' := St ⟨w, Φ, [p]⟩ Ψ1 [.row (.slice (some ⟨b6, 0, none⟩) 1 1) 40 6 1 (ndC x kx), .row va 40 6 (K.length + 1) (css ++ ndC x kx), .blk bn 40 (ndC (⟨1, (Pa.pk ts).Text, 0, 0, (Pa.pk ts).At, []⟩ : Bt.Node) va), .blk b3 65 (tkC (Pa.pk ts)), .blk b2 40 [.int .i64 0, .string (bs []), .int .i64 0, .int .i64 0, .int .i64 0, .slice none 0 0], .blk p 104 (pcs tv toks r)]) (fun h => absurd rfl h) (e_storeSl (v := va) 2 rfl rfl rfl hva sz38 rfl rfl rfl) ?_
    obtain ⟨hs5, hg5, hl5⟩ := Pa.propP_ok hg4 hres
    repeat refine g1 ?_
    exact Post.back (s' := _) (J' := _) (m' := _) (by omega) ⟨K ++ [x], css ++ ndC x kx, va, Ψ1, r, fk, rfl, rfl, rfl, (hrc.mono (hl2.trans hl1)).snoc (NdV.rep hwx hkx), hl3.trans hl1, hs5.trans hs3, hg5, by omega, by simpa using hva, by simp; omega, by rw [hve, Pa.many, if_neg (by rw [hb]; simp), hres]; simp only []; cases Pa.many [125] Pa.propP fk r <;> simp⟩ ⟨rfl, rfl, rfl, rfl, trivial⟩ (fun _ h => by simp only [List.length_append, List.length_singleton]; exact StP.drop h (.cons _ (List.Sublist.refl _)))
  have hb : Pa.isS [125] t1 = true := by simpa using hb
  rw [if_pos hb]
  obtain ⟨hs7, hg7, hl7⟩ := Pa.ad_sign hg4 hb
  have hs8 := hs7.trans hs3
  repeat refine g1 ?_
  refine RW.effn (e_store (v := .agg (ndC (⟨1, (Pa.pk ts).Text, 0, 0, (Pa.pk ts).At, []⟩ : Bt.Node) kv).toArray) 3 rfl rfl rfl sz40 rfl (ndC_one hkv) rfl rfl rfl) ?_
  repeat refine g1 ?_
  refine fin_res (vs := [.agg (ndC (⟨1, (Pa.pk ts).Text, 0, 0, (Pa.pk ts).At, []⟩ : Bt.Node) kv).toArray]) rfl rfl ⟨.agg rfl rfl (Cells.blk 3 rfl), trivial⟩ rfl (fun w3 hw3 => ?_)
  obtain ⟨Ψ3, hl4, hsat, hw4⟩ := StP.freezeP hw3 3 rfl
  refine .inl ⟨(⟨1, (Pa.pk ts).Text, 0, 0, (Pa.pk ts).At, K⟩ : Bt.Node), t1.tail, _, Ψ3, ?_, rfl, (hl3).trans hl4, hw4.drop (.cons _ (.cons _ (.cons _ (List.Sublist.refl _)))), kv, rfl, ?_, ?_⟩
  · rw [hve, Pa.many, if_pos hb]; simp
  · refine ⟨?_, ?_, ?_, ?_, ?_⟩ <;> simp only [maxLen] <;> (try unfold I64) <;> omega
  · exact RowS.repC (show RowS Ψ3 kv 40 6 K.length css from hsat) (hrc.mono (hl2.trans hl4)) rfl (by simp only [maxSl]; show K.length * 72 ≤ _; omega)
theorem file_c (w : World) (Φ : Hp) {Φg : Hp} (hG : Knows Φg Glob) (hΦg : Hp.le Φg Φ) {p : Nat} {tv : Value} {toks ts : List Bt.Token} (hc : PCtx Φ toks tv) (hs : ts <:+ toks) (hg : Pa.good ts) (h0 : StP ⟨w, Φ, [p]⟩ Φ [.blk p 104 (pcs tv toks ts)] w) :
    Calls pg 51 #[.pointer (some ⟨p, 0, none⟩)] w (ParR 100 w Φ p 104 (pcs tv toks) (Pa.fileN ts) fun x r Ψ => NdV Ψ x r) := by
  have hne := Pa.good_ne hg
  refine calls_of_AW (args := [.pointer (some ⟨p, 0, none⟩)]) Tryz.func51 rfl (lBT rfl) (St ⟨w, Φ, [p]⟩ Φ [.blk p 104 (pcs tv toks ts)]) h0 ?_
  show AW _ _ [] _ _ _ [(0, .pointer (some ⟨p, 0, none⟩))] _
  have hle := Pa.suf_len hs
  have hln := hc.len
  obtain ⟨_, _, hw3, hw4, hw5⟩ := wf_pk hc.wf hs hne
  repeat refine g1 ?_
  refine RW.alc rfl fun b2 => ?_
  repeat refine g1 ?_
  refine RW.q (v := .agg (ndC (⟨0, [], 0, 0, 0, []⟩ : Bt.Node) (.slice none 0 0)).toArray) rfl (q_build (vals := [(0, .int .i64 0)]) zero40 Tryz.underlying40 places40 rfl rfl) ?_
  refine RW.alc rfl fun bn => ?_
  repeat refine g1 ?_
  refine AW.wk (J' := St ⟨w, Φ, [p]⟩ Φ [.row (.slice none 0 0) 40 6 0 [], .blk bn 40 (ndC (⟨0, [], 0, 0, 0, []⟩ : Bt.Node) (.slice none 0 0)), .blk b2 40 [.int .i64 0, .string (bs []), .int .i64 0, .int .i64 0, .int .i64 0, .slice none 0 0], .blk p 104 (pcs tv toks ts)]) (fun _ h => addNil h) ?_
  refine AW.loop (fun s J' m => ∃ (K : List Bt.Node) (css : List Value) (kv : Value) (Ψ : Hp) (t1 : List Bt.Token) (fk : Nat), s = [(0, .pointer (some ⟨p, 0, none⟩)), (2, .pointer (some ⟨b2, 0, none⟩)), (3, .pointer (some ⟨bn, 0, none⟩))] ∧ J' = St ⟨w, Φ, [p]⟩ Ψ [.row kv 40 6 K.length css, .blk bn 40 (ndC (⟨0, [], 0, 0, 0, []⟩ : Bt.Node) kv), .blk b2 40 [.int .i64 0, .string (bs []), .int .i64 0, .int .i64 0, .int .i64 0, .slice none 0 0], .blk p 104 (pcs tv toks t1)] ∧ m = t1.length ∧ RepC Ψ K css ∧ Hp.le Φ Ψ ∧ t1 <:+ toks ∧ Pa.good t1 ∧ t1.length + 1 ≤ fk ∧ IsSl kv K.length ∧ K.length + t1.length ≤ toks.length ∧ Pa.fileN ts = match Pa.fileP fk t1 with | .error e => .error e | .ok (xs, r) => .ok ((⟨0, [], 0, 0, 0, (K ++ xs)⟩ : Bt.Node), r)) (s0 := _) (J1 := _) (m0 := _) ⟨[], [], .slice none 0 0, Φ, ts, ts.length + 1, rfl, rfl, rfl, RepC.nil, Hp.le_refl _, hs, hg, Nat.le_refl _, isSl_nil, by simp only [List.length_nil]; omega, rfl⟩ ⟨rfl, rfl, rfl, trivial⟩ (fun _ h => h) ?_
  rintro _ _ _ _ ⟨K, css, kv, Ψ, t1, fk, rfl, rfl, rfl, hrc, hlΨ, hs3, hg4, hfk, hkv, hKn, hve⟩
  obtain ⟨fk, rfl⟩ : ∃ f1, fk = f1 + 1 := ⟨fk - 1, by have := List.length_pos_iff.2 (Pa.good_ne hg4); omega⟩
  repeat refine g1 ?_
  refine RW.q rfl (q_call (args := #[.pointer (some ⟨p, 0, none⟩)]) oK rfl rfl (fun w1 hw1 => peek_c w1 (blkAt 3 rfl hw1) (hc.mono (hlΨ.trans hw1.phi)) hs3 (Pa.good_ne hg4))) ?_
  repeat refine g1 ?_
  refine AW.cond rfl (fun hb => ?_) fun hb => ?_
  · have hb : (Pa.pk t1).Kind ≠ 4 := by simpa using hb
    repeat refine g1 ?_
    refine AW.draw (J0 := St ⟨w, Φ, [p]⟩ Ψ [.blk bn 40 (ndC (⟨0, [], 0, 0, 0, []⟩ : Bt.Node) kv)]) [.q, .q, .q, .e, .e, .e, .q, .e] [0, 1, 2, 3, 4, 5, 6, 7] hmix (by kernel_rfl) ?_
    repeat refine g1 ?_
    refine DW.par (res := Pa.declP t1) (C' := fun r => [.row kv 40 6 K.length css, .blk bn 40 (ndC (⟨0, [], 0, 0, 0, []⟩ : Bt.Node) kv), .blk b2 40 [.int .i64 0, .string (bs []), .int .i64 0, .int .i64 0, .int .i64 0, .slice none 0 0], .blk p 104 (pcs tv toks r)]) (args := #[.pointer (some ⟨p, 0, none⟩)]) 3 rfl rfl oK rfl rfl (fun w1 hw1 => decl_c w1 Ψ hG (hΦg.trans hlΨ) (hc.mono hlΨ) hs3 hg4 hw1) (fun er at_ Ψ1 w1 he hw1 => ?_) (fun _ => rfl) (fun _ _ _ hl h => St.oneK 1 hl rfl h) ?_
    · exact .inr ⟨er, at_, by rw [hve, Pa.fileP, if_neg hb, he], rfl, Ψ1, hw1.drop (List.nil_sublist _)⟩
    rintro x r _ Ψ1 hres ⟨kx, rfl, hwx, hkx⟩ hl1
    refine DW.eff (fun b6 : Nat => .slice (some ⟨b6, 0, none⟩) 1 1) (fun b6 => St ⟨w, Φ, [p]⟩ Ψ1 [.row (.slice (some ⟨b6, 0, none⟩) 1 1) 40 6 1 (ndC x kx), .row kv 40 6 K.length css, .blk bn 40 (ndC (⟨0, [], 0, 0, 0, []⟩ : Bt.Node) kv), .blk b2 40 [.int .i64 0, .string (bs []), .int .i64 0, .int .i64 0, .int .i64 0, .slice none 0 0], .blk p 104 (pcs tv toks r)]) (fun _ _ _ h => St.oneK 2 hl1 rfl h) rfl (e_buildSlice (vals := [(0, .agg (ndC x kx).toArray)]) (cells := ndC x kx) Tryz.underlying38 inf40 rfl rfl rfl (by kernel_rfl) rfl) ?_
    intro b6
    refine DW.eff (fun xv : {vq : Value // IsSl vq (K.length + 1)} => xv.1) (fun xv => St ⟨w, Φ, [p]⟩ Ψ1 [.row (.slice (some ⟨b6, 0, none⟩) 1 1) 40 6 1 (ndC x kx), .row xv.1 40 6 (K.length + 1) (css ++ ndC x kx), .blk bn 40 (ndC (⟨0, [], 0, 0, 0, []⟩ : Bt.Node) kv), .blk b2 40 [.int .i64 0, .string (bs []), .int .i64 0, .int .i64 0, .int .i64 0, .slice none 0 0], .blk p 104 (pcs tv toks r)]) (fun _ _ _ h => St.oneK 2 hl1 rfl h) rfl (e_append 1 rfl rfl rfl Tryz.underlying38 inf40 rfl rfl rfl (Cells.row0 0 rfl) (ndC_one hkx.sl) (by omega) (by omega) (fun _ => rfl)) ?_
    rintro ⟨va, hva⟩
    repeat refine g1 ?_
    refine DW.effn (J' := St ⟨w, Φ, [p]⟩ Ψ1 [.row (.slice (some ⟨b6, 0, none⟩) 1 1) 40 6 1 (ndC x kx), .row va 40 6 (K.length + 1) (css ++ ndC x kx), .blk bn 40 (ndC (⟨0, [], 0, 0, 0, []⟩ : Bt.Node) va), .blk b2 40 [.int .i64 0, .string (bs []), .int .i64 0, .int .i64 0, .int .i64 0, .slice none 0 0], .blk p 104 (pcs tv toks r)]) (fun h => absurd rfl h) (e_storeSl (v := va) 2 rfl rfl rfl hva sz38 rfl rfl rfl) ?_
    obtain ⟨hs5, hg5, hl5⟩ := Pa.declP_ok hg4 hres
    repeat refine g1 ?_
    exact Post.back (s' := _) (J' := _) (m' := _) (by omega) ⟨K ++ [x], css ++ ndC x kx, va, Ψ1, r, fk, rfl, rfl, rfl, (hrc.mono hl1).snoc (NdV.rep hwx hkx), hlΨ.trans hl1, hs5.trans hs3, hg5, by omega, by simpa using hva, by simp; omega, by rw [hve, Pa.fileP, if_neg hb, hres]; simp only []; cases Pa.fileP fk r <;> simp⟩ ⟨rfl, rfl, rfl, trivial⟩ (fun _ h => by simp only [List.length_append, List.length_singleton]; exact StP.drop h (.cons _ (List.Sublist.refl _)))
  have hb : (Pa.pk t1).Kind = 4 := by simpa using hb
  have hl2 : Hp.le Ψ Ψ := Hp.le_refl _
  repeat refine g1 ?_
  refine RW.effn (e_store (v := .agg (ndC (⟨0, [], 0, 0, 0, []⟩ : Bt.Node) kv).toArray) 2 rfl rfl rfl sz40 rfl (ndC_one hkv) rfl rfl rfl) ?_
  repeat refine g1 ?_
  refine fin_res (vs := [.agg (ndC (⟨0, [], 0, 0, 0, []⟩ : Bt.Node) kv).toArray]) rfl rfl ⟨.agg rfl rfl (Cells.blk 2 rfl), trivial⟩ rfl (fun w3 hw3 => ?_)
  obtain ⟨Ψ3, hl4, hsat, hw4⟩ := StP.freezeP hw3 2 rfl
  refine .inl ⟨(⟨0, [], 0, 0, 0, K⟩ : Bt.Node), t1, _, Ψ3, ?_, rfl, (hlΨ).trans hl4, hw4.drop (.cons _ (.cons _ (List.Sublist.refl _))), kv, rfl, ?_, ?_⟩
  · rw [hve, Pa.fileP, if_pos hb]; simp
  · refine ⟨?_, ?_, ?_, ?_, ?_⟩ <;> simp only [maxLen, List.length_nil] <;> (try unfold I64) <;> omega
  · exact RowS.repC (show RowS Ψ3 kv 40 6 K.length css from hsat) (hrc.mono (hl2.trans hl4)) rfl (by simp only [maxSl]; show K.length * 72 ≤ _; omega)
end Go.Proofs.YtpapfpoefiikpaaGreatDoor
namespace Go.Proofs.YtpapfpoefiikpaaGreatDoor
open Go Go.K Go.RowKit
theorem run_equalNil {P : Program} {t : TypeId} {ms} (n : Nat) (hT : P.underlying t = some (.interface ms)) (w : World) : (Op.equalIn (n + 1) t .nilIface .nilIface).run P w = .ok true w := by
  simp [Op.equalIn, run_underlying hT]
theorem run_equalIface {P : Program} {t T : TypeId} {v : Value} {ms} (n : Nat) (hT : P.underlying t = some (.interface ms)) (w : World) : (Op.equalIn (n + 1) t (.iface T v) .nilIface).run P w = .ok false w := by
  simp [Op.equalIn, run_underlying hT]
theorem q_neqNil {J : Cls} {f : Nat → Value} {s : List (Nat × Value)} {dst : Option Nat} {ty : TypeId} {pos : String} {af : Array Edge} {g : Option (Nat × Bool)} {x : Operand} (hx : ev (fr f s) x = .nilIface) : Qt pg J f s ⟨dst, .binOp .neq 20 x (.const .nilIface) 20, ty, pos, af, g⟩ (.bool false) := qt_val fun w _ => by
  have h1 : pg.underlying 20 = some (.interface #[]) := Tryz.underlying20
  have hy : ev (fr f s) (.const .nilIface) = .nilIface := rfl
  have he : ∀ w, (Op.equal 20 .nilIface .nilIface).run pg w = .ok true w := fun w => run_equalNil 9999 h1 w
  simp [execOp, hx, hy, eqGuard, binOp, he]
theorem q_neqIface {J : Cls} {f : Nat → Value} {s : List (Nat × Value)} {dst : Option Nat} {ty : TypeId} {pos : String} {af : Array Edge} {g : Option (Nat × Bool)} {x : Operand} {T : TypeId} {v : Value} (hx : ev (fr f s) x = .iface T v) : Qt pg J f s ⟨dst, .binOp .neq 20 x (.const .nilIface) 20, ty, pos, af, g⟩ (.bool true) := qt_val fun w _ => by
  have h1 : pg.underlying 20 = some (.interface #[]) := Tryz.underlying20
  have hy : ev (fr f s) (.const .nilIface) = .nilIface := rfl
  have he : ∀ w, (Op.equal 20 (.iface T v) .nilIface).run pg w = .ok false w := fun w => run_equalIface 9999 h1 w
  simp [execOp, hx, hy, eqGuard, binOp, he]
theorem q_assertT {J : Cls} {f : Nat → Value} {s : List (Nat × Value)} {dst : Option Nat} {ty : TypeId} {pos : String} {af : Array Edge} {g : Option (Nat × Bool)} {x : Operand} {T xT : TypeId} {v : Value} [h : NI pg T] (hx : ev (fr f s) x = .iface T v) : Qt pg J f s ⟨dst, .typeAssert x xT T true, ty, pos, af, g⟩ (.tuple #[v, .bool true]) := qt_val fun w _ => by
  obtain ⟨d, h1, h2⟩ := h.h
  cases d <;> first | (cases h2; done) | simp [execOp, hx, Instr.typeAssert, run_underlying h1]
attribute [local irreducible] AW RW DW Post Qt
abbrev ptr (b : Nat) : Value := .pointer (some ⟨b, 0, none⟩)
abbrev zN : List Value := [.int .i64 0, .string (bs []), .int .i64 0, .int .i64 0, .int .i64 0, .slice none 0 0]
theorem rcv_quiet (w : World) {c2 c3 c4 : Nat} : CallsD pg 50 #[ptr c2, ptr c3, ptr c4] .returning w fun e u' w' => (∃ v, e = .returned v) ∧ u' = .returning ∧ Bel w.heap.size w w' := by
  refine callsD_of_wpS Tryz.func50 rfl fun c₀ cs hu => ?_
  have hrel : Rel Tryz.f50.ntmps [] (fr (fun _ => undef) [(0, ptr c2), (1, ptr c3), (2, ptr c4)]) { tmps := #[ptr c2, ptr c3, ptr c4] ++ Array.replicate (Tryz.f50.ntmps - (#[ptr c2, ptr c3, ptr c4] : Array Value).size) undef, defers := [] } := rel_init (args := [ptr c2, ptr c3, ptr c4]) (lBT rfl)
  refine wpS_seq (rec_region (v := .nilIface) (cs' := c₀ :: cs) (by simp [recv, recoverD, hu]) hrel rfl rfl fun a' ha' => wpS_of_wp ?_)
  refine AW.go (J := St ⟨w, hp w, []⟩ (hp w) []) ?_ ha' (StP.init w (hp w) (Hp.le_refl _) [])
  repeat refine g1 ?_
  refine RW.q rfl (q_neqNil rfl) ?_
  repeat refine g1 ?_
  exact fin_S rfl rfl .returning (by rw [← hu]) (fun w' hw => ⟨⟨_, rfl⟩, rfl, hw.below rfl⟩)
theorem rcv_fault (w : World) (Φ : Hp) {c2 c3 c4 : Nat} {er at_ : Int} {cs2 : List Value} {v3 v4 : Value} (hl : cs2.length = 6) (h0 : StP ⟨w, Φ, [c4, c3, c2]⟩ Φ [.blk c4 3 [v4], .blk c3 41 [v3], .blk c2 40 cs2] w) :
    CallsD pg 50 #[ptr c2, ptr c3, ptr c4] (.panicking [⟨.iface 100 (.agg #[.int .i64 er, .int .i64 at_]), false, false⟩]) w fun e u' w' => (∃ v, e = .returned v) ∧ settle u' = .returning ∧ StP ⟨w, Φ, [c4, c3, c2]⟩ Φ [.blk c4 3 [.int .i64 at_], .blk c3 41 [.int .i64 er], .blk c2 40 zN] w' := by
  refine callsD_of_wpS Tryz.func50 rfl fun c₀ cs hu => ?_
  have hrel : Rel Tryz.f50.ntmps [] (fr (fun _ => undef) [(0, ptr c2), (1, ptr c3), (2, ptr c4)]) { tmps := #[ptr c2, ptr c3, ptr c4] ++ Array.replicate (Tryz.f50.ntmps - (#[ptr c2, ptr c3, ptr c4] : Array Value).size) undef, defers := [] } := rel_init (args := [ptr c2, ptr c3, ptr c4]) (lBT rfl)
  refine wpS_seq (rec_region (v := .iface 100 (.agg #[.int .i64 er, .int .i64 at_])) (cs' := { c₀ with mode := .panicking [⟨.iface 100 (.agg #[.int .i64 er, .int .i64 at_]), true, false⟩] } :: cs) (by simp [recv, recoverD, hu]) hrel rfl rfl fun a' ha' => wpS_of_wp ?_)
  refine AW.go (J := St ⟨w, Φ, [c4, c3, c2]⟩ Φ [.blk c4 3 [v4], .blk c3 41 [v3], .blk c2 40 cs2]) ?_ ha' h0
  repeat refine g1 ?_
  refine RW.q rfl (q_neqIface rfl) ?_
  repeat refine g1 ?_
  refine RW.q rfl (q_assertT rfl) ?_
  repeat refine g1 ?_
  refine RW.alc rfl fun bx => ?_
  repeat refine g1 ?_
  refine AW.draw (J0 := St ⟨w, Φ, [c4, c3, c2]⟩ Φ [.blk bx 100 [.int .i64 er, .int .i64 at_]]) [.q, .q, .q, .q, .q, .e, .e, .e] [0, 1, 2, 3, 4, 5, 6, 7] hmix (by kernel_rfl) ?_
  refine DW.q (v := .agg zN.toArray) (fun _ h => St.one 0 rfl h) rfl (q_build (vals := []) zero40 Tryz.underlying40 places40 rfl rfl) ?_
  repeat refine g1 ?_
  refine DW.effn (J' := St ⟨w, Φ, [c4, c3, c2]⟩ Φ [.blk bx 100 [.int .i64 er, .int .i64 at_], .blk c4 3 [v4], .blk c3 41 [v3], .blk c2 40 zN]) (fun _ _ h => St.one 0 rfl h) (e_store (v := .agg zN.toArray) 3 rfl rfl rfl sz40 rfl rfl (by simp [hl]) (by show zN ++ List.drop 6 cs2 = zN; rw [List.drop_of_length_le (by omega), List.append_nil]) rfl) ?_
  refine DW.effn (fun _ _ h => St.one 0 rfl h) (e_sto 2 rfl rfl rfl rfl rfl rfl) ?_
  repeat refine g1 ?_
  exact fin_S rfl rfl (.panicking [⟨.iface 100 (.agg #[.int .i64 er, .int .i64 at_]), true, false⟩]) rfl (fun w' hw => ⟨⟨_, rfl⟩, rfl, hw.drop (.cons _ (List.Sublist.refl _))⟩)
theorem Parse_c (w : World) (Φ : Hp) (hΦ : Hp.le Φ (hp w)) (hG : Knows Φ Glob) {l : List UInt8} (hl : l.length ≤ maxLen) :
    Calls pg 13 #[.string (bs l)] w (RetS Φ (zw w) fun r Ψ => ∃ kv, r = .tuple #[.agg (ndC (Pa.parse l).1 kv).toArray, .int .i64 (Pa.parse l).2.1, .int .i64 (Pa.parse l).2.2] ∧ wfN (Pa.parse l).1 ∧ RepSl Ψ (Pa.parse l).1.Kids kv) := by
  have hzero : wfN (default : Bt.Node) := by refine ⟨?_, ?_, ?_, ?_, ?_⟩ <;> first | (show I64 0; unfold I64; omega) | (show ([] : List UInt8).length ≤ _; simp)
  refine calls_of_wp_defers Tryz.func13 rfl (AW.go (J := St ⟨zw w, Φ, []⟩ Φ []) (f := fun _ => undef) (s := [(0, .string (bs l))]) ?_ (rel_init (args := [.string (bs l)]) (lBT rfl)) (StP.zb (StP.init w Φ hΦ [])))
  repeat refine g1 ?_
  refine RW.alc rfl fun b2 => ?_
  refine RW.alc rfl fun b3 => ?_
  refine RW.alc rfl fun b4 => ?_
  repeat refine g1 ?_
  refine RW.eff _ _ rfl (e_callZ (hz := rfl) (T := fun r Ψ => ∃ v, r = .tuple #[v, .int .i64 (Lx.scan l).2.1, .int .i64 (Lx.scan l).2.2] ∧ RepSl Ψ (Lx.scan l).1 v) (args := #[.string (bs l)]) oK rfl rfl (fun w1 hw1 => Scan_c w1 Φ hw1.phi hl)) ?_
  rintro ⟨⟨r0, Ψ⟩, ⟨tv, hr0, htv⟩, hlΨ⟩
  replace hr0 : r0 = .tuple #[tv, .int .i64 (Lx.scan l).2.1, .int .i64 (Lx.scan l).2.2] := hr0
  replace htv : RepSl Ψ (Lx.scan l).1 tv := htv
  replace hlΨ : Hp.le Φ Ψ := hlΨ
  subst hr0
  repeat refine g1 ?_
  refine AW.cond rfl (fun he => ?_) fun he => ?_
  · have he : (Lx.scan l).2.1 ≠ 0 := by simpa using he
    have hp : Pa.parse l = (default, (Lx.scan l).2.1, (Lx.scan l).2.2) := by unfold Pa.parse; rw [if_neg he]
    repeat refine g1 ?_
    refine AW.draw (J0 := St ⟨zw w, Φ, []⟩ Ψ [.blk b4 3 [.int .i64 (Lx.scan l).2.2], .blk b3 41 [.int .i64 (Lx.scan l).2.1]]) [.q, .q, .q, .e, .e, .e] [0, 1, 2, 3, 4, 5] hmix (by kernel_rfl) ?_
    refine DW.q (v := .agg zN.toArray) (fun _ h => StP.drop h (.cons_cons _ (.cons_cons _ (List.nil_sublist _)))) rfl (q_build (vals := []) zero40 Tryz.underlying40 places40 rfl rfl) ?_
    refine DW.q (fun _ h => StP.drop h (.cons_cons _ (.cons_cons _ (List.nil_sublist _)))) rfl (qa_ld rfl (Cell.blk 1 rfl rfl)) ?_
    refine DW.q (fun _ h => StP.drop h (.cons_cons _ (.cons_cons _ (List.nil_sublist _)))) rfl (qa_ld rfl (Cell.blk 0 rfl rfl)) ?_
    refine DW.effn (fun _ _ h => StP.drop h (.cons_cons _ (.cons_cons _ (List.nil_sublist _)))) (e_stA (cs' := zN) 2 rfl rfl rfl rfl rfl rfl) ?_
    refine DW.effn (fun _ _ h => StP.drop h (.cons_cons _ (.cons_cons _ (List.nil_sublist _)))) (e_sto 1 rfl rfl rfl rfl rfl rfl) ?_
    repeat refine g1 ?_
    exact fin_D0 (vs := [.agg zN.toArray, .int .i64 (Lx.scan l).2.1, .int .i64 (Lx.scan l).2.2]) rfl ⟨.agg rfl rfl (Cells.blk 2 rfl), .one rfl (Cell.blk 1 rfl rfl), .one rfl (Cell.blk 0 rfl rfl), trivial⟩ rfl (fun w' hw => ⟨_, rfl, hw.below rfl, .slice none 0 0, by rw [hp]; rfl, by rw [hp]; exact hzero, by rw [hp]; exact repSl_nil⟩)
  have he : (Lx.scan l).2.1 = 0 := by simpa using he
  obtain ⟨hgood, hwf, hlen, _⟩ := Pa.scan_good he
  obtain ⟨tA, tc, rfl, _⟩ := htv.sl
  have hp : Pa.parse l = match Pa.fileN (Lx.scan l).1 with
      | .error e => (default, e.1, e.2)
      | .ok (x, _) => (x, 0, 0) := by unfold Pa.parse; rw [if_pos he]; rfl
  have hp0 : pcs (.slice tA (Lx.scan l).1.length tc) (Lx.scan l).1 (Lx.scan l).1 = [.slice tA (Lx.scan l).1.length tc, .int .i64 0] := by simp [pcs]
  repeat refine g1 ?_
  refine RW.dfr rfl ?_
  repeat refine g1 ?_
  refine RW.q (v := .agg #[.slice tA (Lx.scan l).1.length tc, .int .i64 0]) rfl (q_build (vals := [(0, .slice tA (Lx.scan l).1.length tc)]) zero104 Tryz.underlying104 places104 rfl rfl) ?_
  refine RW.bxA (cs := [.slice tA (Lx.scan l).1.length tc, .int .i64 0]) rfl rfl fun p => ?_
  repeat refine g1 ?_
  refine RW.parQ (args := #[.pointer (some ⟨p, 0, none⟩)]) 0 rfl rfl oK rfl rfl (fun w1 hw1 => file_c w1 Ψ hG hlΨ ⟨htv, hwf, hlen⟩ (List.suffix_refl _) hgood (by rw [hp0]; exact hw1)) (fun er at_ Ψ2 a w' hr2 ha hw2 => ?_) (fun _ => rfl) ?_
  · show Leaves _ _ a.tmps _ a.defers (.panicking _) w'
    rw [ha.defers]
    refine leaves_one oK (by simp) ((rcv_fault w' Ψ2 (cs2 := zN) rfl (StP.rebase hw2)).mono fun e u' w'' hh => ?_)
    obtain ⟨h1, h2, h3⟩ := hh
    have hj := StP.join hw2 h3
    have hp2 : Pa.parse l = (default, er, at_) := by rw [hp, hr2]
    exact ⟨h1, h2, _, results_run (J := St ⟨zw w, Φ, []⟩ Ψ2 [.blk b4 3 [.int .i64 at_], .blk b3 41 [.int .i64 er], .blk b2 40 zN]) (vs := [.agg zN.toArray, .int .i64 er, .int .i64 at_]) rfl ha.get hj ⟨.agg rfl rfl (Cells.blk 2 rfl), .one rfl (Cell.blk 1 rfl rfl), .one rfl (Cell.blk 0 rfl rfl), trivial⟩, _, rfl, hj.below rfl, .slice none 0 0, by rw [hp2]; rfl, by rw [hp2]; exact hzero, by rw [hp2]; exact repSl_nil⟩
  rintro x r _ Ψ1 hres ⟨kx, rfl, hwx, hkx⟩ hl1
  have hp2 : Pa.parse l = (x, 0, 0) := by rw [hp, hres]
  refine RW.effn (J' := St ⟨zw w, Φ, []⟩ Ψ1 [.blk p 104 (pcs (.slice tA (Lx.scan l).1.length tc) (Lx.scan l).1 r), .blk b4 3 [.int .i64 (Lx.scan l).2.2], .blk b3 41 [.int .i64 (Lx.scan l).2.1], .blk b2 40 (ndC x kx)]) (e_store (v := .agg (ndC x kx).toArray) 3 rfl rfl rfl sz40 rfl (ndC_one hkx.sl) rfl rfl rfl) ?_
  repeat refine g1 ?_
  exact fin_D1 oK (fun w' _ => rcv_quiet w') (vs := [.agg (ndC x kx).toArray, .int .i64 0, .int .i64 0]) rfl ⟨.agg rfl rfl (Cells.blk 3 rfl), .one rfl (Cell.blk 2 rfl rfl), .one rfl (Cell.blk 1 rfl rfl), trivial⟩ rfl (fun w' hw => ⟨_, rfl, hw.below rfl, kx, by rw [hp2]; rfl, by rw [hp2]; exact hwx, by rw [hp2]; exact hkx.mono hw.phi_ext⟩)
end Go.Proofs.YtpapfpoefiikpaaGreatDoor
