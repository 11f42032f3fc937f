/- The parser of trees: properties, declarations, files. Conditions: those of each theorem. -/
import Derived.Test.YtjcahklnkakklaaDoorTPaC
namespace Go.Proofs.YtjcahklnkakklaaDoor
open Go Go.K Go.RowKit
attribute [local irreducible] AW RW DW Post Qt

set_option maxRecDepth 8000 in
set_option maxHeartbeats 4000000 in
theorem prop_c (w : World) (Φ : Hp) {Φg : Hp} (hG : Knows Φg Glob) (hΦg : Hp.le Φg Φ) {p : Nat} {tv : Value} {toks ts : List Bt.Token} (hc : PCtx Φ toks tv) (hs : ts <:+ toks) (hg : Pa.good ts) (h0 : StP ⟨w, Φ, [p]⟩ Φ [.blk p 61 (pcs tv toks ts)] w) :
    Calls Tryd.prog 56 #[.pointer (some ⟨p, 0, none⟩)] w (ParR 57 w Φ p 61 (pcs tv toks) (Pa.propP ts) fun x r Ψ => NdV Ψ x r) := by
  have hne := Pa.good_ne hg
  refine calls_of_AW (args := [.pointer (some ⟨p, 0, none⟩)]) Tryd.func56 rfl (Nat.le_of_ble_eq_true rfl) (St ⟨w, Φ, [p]⟩ Φ [.blk p 61 (pcs tv toks ts)]) h0 ?_
  show AW _ _ [] _ _ _ [(0, .pointer (some ⟨p, 0, none⟩))] _
  have hle := Pa.suf_len hs
  have hln := hc.len
  obtain ⟨_, _, hw3, hw4, hw5⟩ := wf_pk hc.wf hs hne
  repeat refine g1 ?_
  refine RW.alc rfl fun b2 => ?_
  repeat refine g1 ?_
  refine RW.par (args := #[.pointer (some ⟨p, 0, none⟩)]) 1 rfl rfl own53 rfl rfl (fun w1 hw1 => name_c w1 Φ hc hs hg hw1) (fun er at_ Ψ w' he hw' => .inr ⟨er, at_, by unfold Pa.propP; rw [he], rfl, Ψ, hw'.drop (List.nil_sublist _)⟩) (fun _ => rfl) ?_
  rintro t r0 _ Ψ0 hres0 rfl hl0
  obtain ⟨⟨hs1, hg1, hl1⟩, rfl, hk0⟩ := Pa.nameP_ok hg hres0
  have hs2 := hs1.trans hs
  refine RW.alc rfl fun b3 => ?_
  repeat refine g1 ?_
  refine RW.q (v := .agg (ndC (⟨2, (Pa.pk ts).Text, 0, 0, (Pa.pk ts).At, []⟩ : Bt.Node) (.slice none 0 0)).toArray) rfl (q_build (vals := [(0, .int .i64 2), (1, .string (bs (Pa.pk ts).Text)), (3, .int .i64 (Pa.pk ts).At)]) zero26 Tryd.underlying26 places26 rfl rfl) ?_
  refine RW.alc rfl fun bn => ?_
  repeat refine g1 ?_
  refine AW.wk (J' := St ⟨w, Φ, [p]⟩ Ψ0 [.row (.slice none 0 0) 26 6 0 [], .blk bn 26 (ndC (⟨2, (Pa.pk ts).Text, 0, 0, (Pa.pk ts).At, []⟩ : Bt.Node) (.slice none 0 0)), .blk b3 39 (tkC (Pa.pk ts)), .blk b2 26 [.int .i64 0, .string (bs []), .int .i64 0, .int .i64 0, .int .i64 0, .slice none 0 0], .blk p 61 (pcs tv toks r0)]) (fun _ h => addNil h) ?_
  refine AW.loop (fun s J' m => ∃ (K : List Bt.Node) (css : List Value) (kv : Value) (Ψ : Hp) (t1 : List Bt.Token) (fk : Nat), s = [(0, .pointer (some ⟨p, 0, none⟩)), (2, .pointer (some ⟨b2, 0, none⟩)), (3, .pointer (some ⟨b3, 0, none⟩)), (4, .pointer (some ⟨bn, 0, none⟩))] ∧ J' = St ⟨w, Φ, [p]⟩ Ψ [.row kv 26 6 K.length css, .blk bn 26 (ndC (⟨2, (Pa.pk ts).Text, 0, 0, (Pa.pk ts).At, []⟩ : Bt.Node) kv), .blk b3 39 (tkC (Pa.pk ts)), .blk b2 26 [.int .i64 0, .string (bs []), .int .i64 0, .int .i64 0, .int .i64 0, .slice none 0 0], .blk p 61 (pcs tv toks t1)] ∧ m = t1.length ∧ RepC Ψ K css ∧ Hp.le Φ Ψ ∧ t1 <:+ toks ∧ Pa.good t1 ∧ t1.length ≤ fk ∧ IsSl kv K.length ∧ K.length + t1.length ≤ toks.length ∧ Pa.propP ts = match Pa.many [59] Pa.val0 fk t1 with | .error e => .error e | .ok (xs, r) => .ok ((⟨2, (Pa.pk ts).Text, 0, 0, (Pa.pk ts).At, (K ++ xs)⟩ : Bt.Node), r)) (s0 := _) (J1 := _) (m0 := _) ⟨[], [], .slice none 0 0, Ψ0, r0, r0.length, rfl, rfl, rfl, RepC.nil, hl0, hs2, hg1, Nat.le_refl _, isSl_nil, by simp only [List.length_nil]; omega, by unfold Pa.propP; rw [hres0]; rfl⟩ ⟨rfl, rfl, rfl, rfl, trivial⟩ (fun _ h => h) ?_
  rintro _ _ _ _ ⟨K, css, kv, Ψ, t1, fk, rfl, rfl, rfl, hrc, hlΨ, hs3, hg4, hfk, hkv, hKn, hve⟩
  obtain ⟨fk, rfl⟩ : ∃ f1, fk = f1 + 1 := ⟨fk - 1, by have := List.length_pos_iff.2 (Pa.good_ne hg4); omega⟩
  repeat refine g1 ?_
  refine RW.par (args := #[.pointer (some ⟨p, 0, none⟩), .string (bs [59])]) 4 rfl rfl own54 rfl rfl (fun w1 hw1 => psk_c w1 Ψ (hc.mono hlΨ) hs3 hg4 hw1) (fun er at_ Ψ2 w2 he hw2 => nomatch he) (fun _ => rfl) ?_
  rintro b r2 _ Ψ2 hres2 rfl hl2
  cases hres2
  have hl3 := hlΨ.trans hl2
  repeat refine g1 ?_
  refine AW.cond rfl (fun hb => ?_) fun hb => ?_
  · have hb : Pa.isS [59] t1 = false := by simpa using hb
    rw [if_neg (by rw [hb]; simp)]
    repeat refine g1 ?_
    refine AW.draw (J0 := St ⟨w, Φ, [p]⟩ Ψ2 [.blk bn 26 (ndC (⟨2, (Pa.pk ts).Text, 0, 0, (Pa.pk ts).At, []⟩ : Bt.Node) kv)]) [.q, .q, .q, .e, .e, .e, .q, .e] [0, 1, 2, 3, 4, 5, 6, 7] hmix (by kernel_rfl) ?_
    repeat refine g1 ?_
    refine DW.par (res := Pa.val0 t1) (C' := fun r => [.row kv 26 6 K.length css, .blk bn 26 (ndC (⟨2, (Pa.pk ts).Text, 0, 0, (Pa.pk ts).At, []⟩ : Bt.Node) kv), .blk b3 39 (tkC (Pa.pk ts)), .blk b2 26 [.int .i64 0, .string (bs []), .int .i64 0, .int .i64 0, .int .i64 0, .slice none 0 0], .blk p 61 (pcs tv toks r)]) (args := #[.pointer (some ⟨p, 0, none⟩), .int .i64 ((0 : Nat) : Int)]) 4 rfl rfl own70 rfl rfl (fun w1 hw1 => pval_c hG (2 * t1.length) 0 w1 Ψ2 (hΦg.trans hl3) (hc.mono hl3) hs3 hg4 (Nat.le_refl _) (Nat.zero_le _) hw1) (fun er at_ Ψ1 w1 he hw1 => ?_) (fun _ => rfl) (fun _ _ _ hl h => St.oneK 1 hl rfl h) ?_
    · exact .inr ⟨er, at_, by rw [hve, Pa.many, if_neg (by rw [hb]; simp), he], rfl, Ψ1, hw1.drop (List.nil_sublist _)⟩
    rintro x r _ Ψ1 hres ⟨kx, rfl, hwx, hkx⟩ hl1
    refine DW.eff (fun b6 : Nat => .slice (some ⟨b6, 0, none⟩) 1 1) (fun b6 => St ⟨w, Φ, [p]⟩ Ψ1 [.row (.slice (some ⟨b6, 0, none⟩) 1 1) 26 6 1 (ndC x kx), .row kv 26 6 K.length css, .blk bn 26 (ndC (⟨2, (Pa.pk ts).Text, 0, 0, (Pa.pk ts).At, []⟩ : Bt.Node) kv), .blk b3 39 (tkC (Pa.pk ts)), .blk b2 26 [.int .i64 0, .string (bs []), .int .i64 0, .int .i64 0, .int .i64 0, .slice none 0 0], .blk p 61 (pcs tv toks r)]) (fun _ _ _ h => St.oneK 2 hl1 rfl h) rfl (e_buildSlice (vals := [(0, .agg (ndC x kx).toArray)]) (cells := ndC x kx) Tryd.underlying24 inf26 rfl rfl rfl (by kernel_rfl) rfl) ?_
    intro b6
    refine DW.eff (fun xv : {vq : Value // IsSl vq (K.length + 1)} => xv.1) (fun xv => St ⟨w, Φ, [p]⟩ Ψ1 [.row (.slice (some ⟨b6, 0, none⟩) 1 1) 26 6 1 (ndC x kx), .row xv.1 26 6 (K.length + 1) (css ++ ndC x kx), .blk bn 26 (ndC (⟨2, (Pa.pk ts).Text, 0, 0, (Pa.pk ts).At, []⟩ : Bt.Node) kv), .blk b3 39 (tkC (Pa.pk ts)), .blk b2 26 [.int .i64 0, .string (bs []), .int .i64 0, .int .i64 0, .int .i64 0, .slice none 0 0], .blk p 61 (pcs tv toks r)]) (fun _ _ _ h => St.oneK 2 hl1 rfl h) rfl (e_append 1 rfl rfl rfl Tryd.underlying24 inf26 rfl rfl rfl (Cells.row0 0 rfl) (ndC_one hkx.sl) (by omega) (by omega) (fun _ => rfl)) ?_
    rintro ⟨va, hva⟩
    repeat refine g1 ?_
    refine DW.effn (J' := St ⟨w, Φ, [p]⟩ Ψ1 [.row (.slice (some ⟨b6, 0, none⟩) 1 1) 26 6 1 (ndC x kx), .row va 26 6 (K.length + 1) (css ++ ndC x kx), .blk bn 26 (ndC (⟨2, (Pa.pk ts).Text, 0, 0, (Pa.pk ts).At, []⟩ : Bt.Node) va), .blk b3 39 (tkC (Pa.pk ts)), .blk b2 26 [.int .i64 0, .string (bs []), .int .i64 0, .int .i64 0, .int .i64 0, .slice none 0 0], .blk p 61 (pcs tv toks r)]) (fun h => absurd rfl h) (e_storeSl (v := va) 2 rfl rfl rfl hva sz24 rfl rfl rfl) ?_
    obtain ⟨hs5, hg5, hl5⟩ := Pa.val0_ok hg4 hres
    repeat refine g1 ?_
    exact Post.back (s' := _) (J' := _) (m' := _) (by omega) ⟨K ++ [x], css ++ ndC x kx, va, Ψ1, r, fk, rfl, rfl, rfl, (hrc.mono (hl2.trans hl1)).snoc (NdV.rep hwx hkx), hl3.trans hl1, hs5.trans hs3, hg5, by omega, by simpa using hva, by simp; omega, by rw [hve, Pa.many, if_neg (by rw [hb]; simp), hres]; simp only []; cases Pa.many [59] Pa.val0 fk r <;> simp⟩ ⟨rfl, rfl, rfl, rfl, trivial⟩ (fun _ h => by simp only [List.length_append, List.length_singleton]; exact StP.drop h (.cons _ (List.Sublist.refl _)))
  have hb : Pa.isS [59] t1 = true := by simpa using hb
  rw [if_pos hb]
  obtain ⟨hs7, hg7, hl7⟩ := Pa.ad_sign hg4 hb
  have hs8 := hs7.trans hs3
  repeat refine g1 ?_
  refine RW.effn (e_store (v := .agg (ndC (⟨2, (Pa.pk ts).Text, 0, 0, (Pa.pk ts).At, []⟩ : Bt.Node) kv).toArray) 3 rfl rfl rfl sz26 rfl (ndC_one hkv) rfl rfl rfl) ?_
  repeat refine g1 ?_
  refine fin_res (vs := [.agg (ndC (⟨2, (Pa.pk ts).Text, 0, 0, (Pa.pk ts).At, []⟩ : Bt.Node) kv).toArray]) rfl rfl ⟨.agg rfl rfl (Cells.blk 3 rfl), trivial⟩ rfl (fun w3 hw3 => ?_)
  obtain ⟨Ψ3, hl4, hsat, hw4⟩ := StP.freezeP hw3 3 rfl
  refine .inl ⟨(⟨2, (Pa.pk ts).Text, 0, 0, (Pa.pk ts).At, K⟩ : Bt.Node), t1.tail, _, Ψ3, ?_, rfl, (hl3).trans hl4, hw4.drop (.cons _ (.cons _ (.cons _ (List.Sublist.refl _)))), kv, rfl, ?_, ?_⟩
  · rw [hve, Pa.many, if_pos hb]; simp
  · refine ⟨?_, ?_, ?_, ?_, ?_⟩ <;> simp only [maxLen, List.length_nil] <;> (try unfold I64) <;> omega
  · exact RowS.repC (show RowS Ψ3 kv 26 6 K.length css from hsat) (hrc.mono (hl2.trans hl4)) rfl (by simp only [maxSl]; show K.length * 72 ≤ _; omega)
set_option maxRecDepth 8000 in
set_option maxHeartbeats 4000000 in
theorem decl_c (w : World) (Φ : Hp) {Φg : Hp} (hG : Knows Φg Glob) (hΦg : Hp.le Φg Φ) {p : Nat} {tv : Value} {toks ts : List Bt.Token} (hc : PCtx Φ toks tv) (hs : ts <:+ toks) (hg : Pa.good ts) (h0 : StP ⟨w, Φ, [p]⟩ Φ [.blk p 61 (pcs tv toks ts)] w) :
    Calls Tryd.prog 38 #[.pointer (some ⟨p, 0, none⟩)] w (ParR 57 w Φ p 61 (pcs tv toks) (Pa.declP ts) fun x r Ψ => NdV Ψ x r) := by
  have hne := Pa.good_ne hg
  refine calls_of_AW (args := [.pointer (some ⟨p, 0, none⟩)]) Tryd.func38 rfl (Nat.le_of_ble_eq_true rfl) (St ⟨w, Φ, [p]⟩ Φ [.blk p 61 (pcs tv toks ts)]) h0 ?_
  show AW _ _ [] _ _ _ [(0, .pointer (some ⟨p, 0, none⟩))] _
  have hle := Pa.suf_len hs
  have hln := hc.len
  obtain ⟨_, _, hw3, hw4, hw5⟩ := wf_pk hc.wf hs hne
  repeat refine g1 ?_
  refine RW.alc rfl fun b2 => ?_
  repeat refine g1 ?_
  refine RW.par (args := #[.pointer (some ⟨p, 0, none⟩)]) 1 rfl rfl own53 rfl rfl (fun w1 hw1 => name_c w1 Φ hc hs hg hw1) (fun er at_ Ψ w' he hw' => .inr ⟨er, at_, by unfold Pa.declP; rw [he], rfl, Ψ, hw'.drop (List.nil_sublist _)⟩) (fun _ => rfl) ?_
  rintro t r0 _ Ψ0 hres0 rfl hl0
  obtain ⟨⟨hs1, hg1, hl1⟩, rfl, hk0⟩ := Pa.nameP_ok hg hres0
  have hs2 := hs1.trans hs
  refine RW.alc rfl fun b3 => ?_
  repeat refine g1 ?_
  refine RW.q (v := .agg (ndC (⟨1, (Pa.pk ts).Text, 0, 0, (Pa.pk ts).At, []⟩ : Bt.Node) (.slice none 0 0)).toArray) rfl (q_build (vals := [(0, .int .i64 1), (1, .string (bs (Pa.pk ts).Text)), (3, .int .i64 (Pa.pk ts).At)]) zero26 Tryd.underlying26 places26 rfl rfl) ?_
  refine RW.alc rfl fun bn => ?_
  repeat refine g1 ?_
  refine AW.wk (J' := St ⟨w, Φ, [p]⟩ Ψ0 [.row (.slice none 0 0) 26 6 0 [], .blk bn 26 (ndC (⟨1, (Pa.pk ts).Text, 0, 0, (Pa.pk ts).At, []⟩ : Bt.Node) (.slice none 0 0)), .blk b3 39 (tkC (Pa.pk ts)), .blk b2 26 [.int .i64 0, .string (bs []), .int .i64 0, .int .i64 0, .int .i64 0, .slice none 0 0], .blk p 61 (pcs tv toks r0)]) (fun _ h => addNil h) ?_
  refine AW.loop (fun s J' m => ∃ (K : List Bt.Node) (css : List Value) (kv : Value) (Ψ : Hp) (t1 : List Bt.Token) (fk : Nat), s = [(0, .pointer (some ⟨p, 0, none⟩)), (2, .pointer (some ⟨b2, 0, none⟩)), (3, .pointer (some ⟨b3, 0, none⟩)), (4, .pointer (some ⟨bn, 0, none⟩))] ∧ J' = St ⟨w, Φ, [p]⟩ Ψ [.row kv 26 6 K.length css, .blk bn 26 (ndC (⟨1, (Pa.pk ts).Text, 0, 0, (Pa.pk ts).At, []⟩ : Bt.Node) kv), .blk b3 39 (tkC (Pa.pk ts)), .blk b2 26 [.int .i64 0, .string (bs []), .int .i64 0, .int .i64 0, .int .i64 0, .slice none 0 0], .blk p 61 (pcs tv toks t1)] ∧ m = t1.length ∧ RepC Ψ K css ∧ Hp.le Φ Ψ ∧ t1 <:+ toks ∧ Pa.good t1 ∧ t1.length ≤ fk ∧ IsSl kv K.length ∧ K.length + t1.length ≤ toks.length ∧ Pa.declP ts = match Pa.many [123] Pa.wordP fk t1 with | .error e => .error e | .ok (xs, r) => (match Pa.many [125] Pa.propP r.length r with | .error e => .error e | .ok (ys, r2) => .ok ((⟨1, (Pa.pk ts).Text, 0, 0, (Pa.pk ts).At, (K ++ xs ++ ys)⟩ : Bt.Node), r2))) (s0 := _) (J1 := _) (m0 := _) ⟨[], [], .slice none 0 0, Ψ0, r0, r0.length, rfl, rfl, rfl, RepC.nil, hl0, hs2, hg1, Nat.le_refl _, isSl_nil, by simp only [List.length_nil]; omega, by unfold Pa.declP; rw [hres0]; rfl⟩ ⟨rfl, rfl, rfl, rfl, trivial⟩ (fun _ h => h) ?_
  rintro _ _ _ _ ⟨K, css, kv, Ψ, t1, fk, rfl, rfl, rfl, hrc, hlΨ, hs3, hg4, hfk, hkv, hKn, hve⟩
  obtain ⟨fk, rfl⟩ : ∃ f1, fk = f1 + 1 := ⟨fk - 1, by have := List.length_pos_iff.2 (Pa.good_ne hg4); omega⟩
  repeat refine g1 ?_
  refine RW.par (args := #[.pointer (some ⟨p, 0, none⟩), .string (bs [123])]) 4 rfl rfl own54 rfl rfl (fun w1 hw1 => psk_c w1 Ψ (hc.mono hlΨ) hs3 hg4 hw1) (fun er at_ Ψ2 w2 he hw2 => nomatch he) (fun _ => rfl) ?_
  rintro b r2 _ Ψ2 hres2 rfl hl2
  cases hres2
  have hl3 := hlΨ.trans hl2
  repeat refine g1 ?_
  refine AW.cond rfl (fun hb => ?_) fun hb => ?_
  · have hb : Pa.isS [123] t1 = false := by simpa using hb
    rw [if_neg (by rw [hb]; simp)]
    repeat refine g1 ?_
    refine AW.draw (J0 := St ⟨w, Φ, [p]⟩ Ψ2 [.blk bn 26 (ndC (⟨1, (Pa.pk ts).Text, 0, 0, (Pa.pk ts).At, []⟩ : Bt.Node) kv)]) [.q, .q, .q, .e, .e, .e, .q, .e] [0, 1, 2, 3, 4, 5, 6, 7] hmix (by kernel_rfl) ?_
    repeat refine g1 ?_
    refine DW.par (res := Pa.wordP t1) (C' := fun r => [.row kv 26 6 K.length css, .blk bn 26 (ndC (⟨1, (Pa.pk ts).Text, 0, 0, (Pa.pk ts).At, []⟩ : Bt.Node) kv), .blk b3 39 (tkC (Pa.pk ts)), .blk b2 26 [.int .i64 0, .string (bs []), .int .i64 0, .int .i64 0, .int .i64 0, .slice none 0 0], .blk p 61 (pcs tv toks r)]) (args := #[.pointer (some ⟨p, 0, none⟩)]) 4 rfl rfl own55 rfl rfl (fun w1 hw1 => word_c w1 Ψ2 (hc.mono hl3) hs3 hg4 hw1) (fun er at_ Ψ1 w1 he hw1 => ?_) (fun _ => rfl) (fun _ _ _ hl h => St.oneK 1 hl rfl h) ?_
    · exact .inr ⟨er, at_, by rw [hve, Pa.many, if_neg (by rw [hb]; simp), he], rfl, Ψ1, hw1.drop (List.nil_sublist _)⟩
    rintro x r _ Ψ1 hres ⟨kx, rfl, hwx, hkx⟩ hl1
    refine DW.eff (fun b6 : Nat => .slice (some ⟨b6, 0, none⟩) 1 1) (fun b6 => St ⟨w, Φ, [p]⟩ Ψ1 [.row (.slice (some ⟨b6, 0, none⟩) 1 1) 26 6 1 (ndC x kx), .row kv 26 6 K.length css, .blk bn 26 (ndC (⟨1, (Pa.pk ts).Text, 0, 0, (Pa.pk ts).At, []⟩ : Bt.Node) kv), .blk b3 39 (tkC (Pa.pk ts)), .blk b2 26 [.int .i64 0, .string (bs []), .int .i64 0, .int .i64 0, .int .i64 0, .slice none 0 0], .blk p 61 (pcs tv toks r)]) (fun _ _ _ h => St.oneK 2 hl1 rfl h) rfl (e_buildSlice (vals := [(0, .agg (ndC x kx).toArray)]) (cells := ndC x kx) Tryd.underlying24 inf26 rfl rfl rfl (by kernel_rfl) rfl) ?_
    intro b6
    refine DW.eff (fun xv : {vq : Value // IsSl vq (K.length + 1)} => xv.1) (fun xv => St ⟨w, Φ, [p]⟩ Ψ1 [.row (.slice (some ⟨b6, 0, none⟩) 1 1) 26 6 1 (ndC x kx), .row xv.1 26 6 (K.length + 1) (css ++ ndC x kx), .blk bn 26 (ndC (⟨1, (Pa.pk ts).Text, 0, 0, (Pa.pk ts).At, []⟩ : Bt.Node) kv), .blk b3 39 (tkC (Pa.pk ts)), .blk b2 26 [.int .i64 0, .string (bs []), .int .i64 0, .int .i64 0, .int .i64 0, .slice none 0 0], .blk p 61 (pcs tv toks r)]) (fun _ _ _ h => St.oneK 2 hl1 rfl h) rfl (e_append 1 rfl rfl rfl Tryd.underlying24 inf26 rfl rfl rfl (Cells.row0 0 rfl) (ndC_one hkx.sl) (by omega) (by omega) (fun _ => rfl)) ?_
    rintro ⟨va, hva⟩
    repeat refine g1 ?_
    refine DW.effn (J' := St ⟨w, Φ, [p]⟩ Ψ1 [.row (.slice (some ⟨b6, 0, none⟩) 1 1) 26 6 1 (ndC x kx), .row va 26 6 (K.length + 1) (css ++ ndC x kx), .blk bn 26 (ndC (⟨1, (Pa.pk ts).Text, 0, 0, (Pa.pk ts).At, []⟩ : Bt.Node) va), .blk b3 39 (tkC (Pa.pk ts)), .blk b2 26 [.int .i64 0, .string (bs []), .int .i64 0, .int .i64 0, .int .i64 0, .slice none 0 0], .blk p 61 (pcs tv toks r)]) (fun h => absurd rfl h) (e_storeSl (v := va) 2 rfl rfl rfl hva sz24 rfl rfl rfl) ?_
    obtain ⟨hs5, hg5, hl5⟩ := Pa.wordP_ok hg4 hres
    repeat refine g1 ?_
    exact Post.back (s' := _) (J' := _) (m' := _) (by omega) ⟨K ++ [x], css ++ ndC x kx, va, Ψ1, r, fk, rfl, rfl, rfl, (hrc.mono (hl2.trans hl1)).snoc (NdV.rep hwx hkx), hl3.trans hl1, hs5.trans hs3, hg5, by omega, by simpa using hva, by simp; omega, by rw [hve, Pa.many, if_neg (by rw [hb]; simp), hres]; simp only []; cases Pa.many [123] Pa.wordP fk r <;> simp⟩ ⟨rfl, rfl, rfl, rfl, trivial⟩ (fun _ h => by simp only [List.length_append, List.length_singleton]; exact StP.drop h (.cons _ (List.Sublist.refl _)))
  have hb : Pa.isS [123] t1 = true := by simpa using hb
  rw [if_pos hb]
  obtain ⟨hs7, hg7, hl7⟩ := Pa.ad_sign hg4 hb
  have hs8 := hs7.trans hs3
  repeat refine g1 ?_
  refine AW.loop (fun s J' m => ∃ (K : List Bt.Node) (css : List Value) (kv : Value) (Ψ : Hp) (t1 : List Bt.Token) (fk : Nat), s = [(0, .pointer (some ⟨p, 0, none⟩)), (2, .pointer (some ⟨b2, 0, none⟩)), (3, .pointer (some ⟨b3, 0, none⟩)), (4, .pointer (some ⟨bn, 0, none⟩))] ∧ J' = St ⟨w, Φ, [p]⟩ Ψ [.row kv 26 6 K.length css, .blk bn 26 (ndC (⟨1, (Pa.pk ts).Text, 0, 0, (Pa.pk ts).At, []⟩ : Bt.Node) kv), .blk b3 39 (tkC (Pa.pk ts)), .blk b2 26 [.int .i64 0, .string (bs []), .int .i64 0, .int .i64 0, .int .i64 0, .slice none 0 0], .blk p 61 (pcs tv toks t1)] ∧ m = t1.length ∧ RepC Ψ K css ∧ Hp.le Φ Ψ ∧ t1 <:+ toks ∧ Pa.good t1 ∧ t1.length ≤ fk ∧ IsSl kv K.length ∧ K.length + t1.length ≤ toks.length ∧ Pa.declP ts = match Pa.many [125] Pa.propP fk t1 with | .error e => .error e | .ok (ys, r2) => .ok ((⟨1, (Pa.pk ts).Text, 0, 0, (Pa.pk ts).At, (K ++ ys)⟩ : Bt.Node), r2)) (s0 := _) (J1 := _) (m0 := _) ⟨K, css, kv, Ψ2, t1.tail, t1.tail.length, rfl, rfl, rfl, hrc.mono hl2, hl3, hs8, hg7, Nat.le_refl _, hkv, by omega, by rw [hve, Pa.many, if_pos hb]; simp⟩ ⟨rfl, rfl, rfl, rfl, trivial⟩ (fun _ h => h) ?_
  rintro _ _ _ _ ⟨K, css, kv, Ψ, t1, fk, rfl, rfl, rfl, hrc, hlΨ, hs3, hg4, hfk, hkv, hKn, hve⟩
  obtain ⟨fk, rfl⟩ : ∃ f1, fk = f1 + 1 := ⟨fk - 1, by have := List.length_pos_iff.2 (Pa.good_ne hg4); omega⟩
  repeat refine g1 ?_
  refine RW.par (args := #[.pointer (some ⟨p, 0, none⟩), .string (bs [125])]) 4 rfl rfl own54 rfl rfl (fun w1 hw1 => psk_c w1 Ψ (hc.mono hlΨ) hs3 hg4 hw1) (fun er at_ Ψ2 w2 he hw2 => nomatch he) (fun _ => rfl) ?_
  rintro b r2 _ Ψ2 hres2 rfl hl2
  cases hres2
  have hl3 := hlΨ.trans hl2
  repeat refine g1 ?_
  refine AW.cond rfl (fun hb => ?_) fun hb => ?_
  · have hb : Pa.isS [125] t1 = false := by simpa using hb
    rw [if_neg (by rw [hb]; simp)]
    repeat refine g1 ?_
    refine AW.draw (J0 := St ⟨w, Φ, [p]⟩ Ψ2 [.blk bn 26 (ndC (⟨1, (Pa.pk ts).Text, 0, 0, (Pa.pk ts).At, []⟩ : Bt.Node) kv)]) [.q, .q, .q, .e, .e, .e, .q, .e] [0, 1, 2, 3, 4, 5, 6, 7] hmix (by kernel_rfl) ?_
    repeat refine g1 ?_
    refine DW.par (res := Pa.propP t1) (C' := fun r => [.row kv 26 6 K.length css, .blk bn 26 (ndC (⟨1, (Pa.pk ts).Text, 0, 0, (Pa.pk ts).At, []⟩ : Bt.Node) kv), .blk b3 39 (tkC (Pa.pk ts)), .blk b2 26 [.int .i64 0, .string (bs []), .int .i64 0, .int .i64 0, .int .i64 0, .slice none 0 0], .blk p 61 (pcs tv toks r)]) (args := #[.pointer (some ⟨p, 0, none⟩)]) 4 rfl rfl own56 rfl rfl (fun w1 hw1 => prop_c w1 Ψ2 hG (hΦg.trans hl3) (hc.mono hl3) hs3 hg4 hw1) (fun er at_ Ψ1 w1 he hw1 => ?_) (fun _ => rfl) (fun _ _ _ hl h => St.oneK 1 hl rfl h) ?_
    · exact .inr ⟨er, at_, by rw [hve, Pa.many, if_neg (by rw [hb]; simp), he], rfl, Ψ1, hw1.drop (List.nil_sublist _)⟩
    rintro x r _ Ψ1 hres ⟨kx, rfl, hwx, hkx⟩ hl1
    refine DW.eff (fun b6 : Nat => .slice (some ⟨b6, 0, none⟩) 1 1) (fun b6 => St ⟨w, Φ, [p]⟩ Ψ1 [.row (.slice (some ⟨b6, 0, none⟩) 1 1) 26 6 1 (ndC x kx), .row kv 26 6 K.length css, .blk bn 26 (ndC (⟨1, (Pa.pk ts).Text, 0, 0, (Pa.pk ts).At, []⟩ : Bt.Node) kv), .blk b3 39 (tkC (Pa.pk ts)), .blk b2 26 [.int .i64 0, .string (bs []), .int .i64 0, .int .i64 0, .int .i64 0, .slice none 0 0], .blk p 61 (pcs tv toks r)]) (fun _ _ _ h => St.oneK 2 hl1 rfl h) rfl (e_buildSlice (vals := [(0, .agg (ndC x kx).toArray)]) (cells := ndC x kx) Tryd.underlying24 inf26 rfl rfl rfl (by kernel_rfl) rfl) ?_
    intro b6
    refine DW.eff (fun xv : {vq : Value // IsSl vq (K.length + 1)} => xv.1) (fun xv => St ⟨w, Φ, [p]⟩ Ψ1 [.row (.slice (some ⟨b6, 0, none⟩) 1 1) 26 6 1 (ndC x kx), .row xv.1 26 6 (K.length + 1) (css ++ ndC x kx), .blk bn 26 (ndC (⟨1, (Pa.pk ts).Text, 0, 0, (Pa.pk ts).At, []⟩ : Bt.Node) kv), .blk b3 39 (tkC (Pa.pk ts)), .blk b2 26 [.int .i64 0, .string (bs []), .int .i64 0, .int .i64 0, .int .i64 0, .slice none 0 0], .blk p 61 (pcs tv toks r)]) (fun _ _ _ h => St.oneK 2 hl1 rfl h) rfl (e_append 1 rfl rfl rfl Tryd.underlying24 inf26 rfl rfl rfl (Cells.row0 0 rfl) (ndC_one hkx.sl) (by omega) (by omega) (fun _ => rfl)) ?_
    rintro ⟨va, hva⟩
    repeat refine g1 ?_
    refine DW.effn (J' := St ⟨w, Φ, [p]⟩ Ψ1 [.row (.slice (some ⟨b6, 0, none⟩) 1 1) 26 6 1 (ndC x kx), .row va 26 6 (K.length + 1) (css ++ ndC x kx), .blk bn 26 (ndC (⟨1, (Pa.pk ts).Text, 0, 0, (Pa.pk ts).At, []⟩ : Bt.Node) va), .blk b3 39 (tkC (Pa.pk ts)), .blk b2 26 [.int .i64 0, .string (bs []), .int .i64 0, .int .i64 0, .int .i64 0, .slice none 0 0], .blk p 61 (pcs tv toks r)]) (fun h => absurd rfl h) (e_storeSl (v := va) 2 rfl rfl rfl hva sz24 rfl rfl rfl) ?_
    obtain ⟨hs5, hg5, hl5⟩ := Pa.propP_ok hg4 hres
    repeat refine g1 ?_
    exact Post.back (s' := _) (J' := _) (m' := _) (by omega) ⟨K ++ [x], css ++ ndC x kx, va, Ψ1, r, fk, rfl, rfl, rfl, (hrc.mono (hl2.trans hl1)).snoc (NdV.rep hwx hkx), hl3.trans hl1, hs5.trans hs3, hg5, by omega, by simpa using hva, by simp; omega, by rw [hve, Pa.many, if_neg (by rw [hb]; simp), hres]; simp only []; cases Pa.many [125] Pa.propP fk r <;> simp⟩ ⟨rfl, rfl, rfl, rfl, trivial⟩ (fun _ h => by simp only [List.length_append, List.length_singleton]; exact StP.drop h (.cons _ (List.Sublist.refl _)))
  have hb : Pa.isS [125] t1 = true := by simpa using hb
  rw [if_pos hb]
  obtain ⟨hs7, hg7, hl7⟩ := Pa.ad_sign hg4 hb
  have hs8 := hs7.trans hs3
  repeat refine g1 ?_
  refine RW.effn (e_store (v := .agg (ndC (⟨1, (Pa.pk ts).Text, 0, 0, (Pa.pk ts).At, []⟩ : Bt.Node) kv).toArray) 3 rfl rfl rfl sz26 rfl (ndC_one hkv) rfl rfl rfl) ?_
  repeat refine g1 ?_
  refine fin_res (vs := [.agg (ndC (⟨1, (Pa.pk ts).Text, 0, 0, (Pa.pk ts).At, []⟩ : Bt.Node) kv).toArray]) rfl rfl ⟨.agg rfl rfl (Cells.blk 3 rfl), trivial⟩ rfl (fun w3 hw3 => ?_)
  obtain ⟨Ψ3, hl4, hsat, hw4⟩ := StP.freezeP hw3 3 rfl
  refine .inl ⟨(⟨1, (Pa.pk ts).Text, 0, 0, (Pa.pk ts).At, K⟩ : Bt.Node), t1.tail, _, Ψ3, ?_, rfl, (hl3).trans hl4, hw4.drop (.cons _ (.cons _ (.cons _ (List.Sublist.refl _)))), kv, rfl, ?_, ?_⟩
  · rw [hve, Pa.many, if_pos hb]; simp
  · refine ⟨?_, ?_, ?_, ?_, ?_⟩ <;> simp only [maxLen, List.length_nil] <;> (try unfold I64) <;> omega
  · exact RowS.repC (show RowS Ψ3 kv 26 6 K.length css from hsat) (hrc.mono (hl2.trans hl4)) rfl (by simp only [maxSl]; show K.length * 72 ≤ _; omega)
set_option maxRecDepth 8000 in
set_option maxHeartbeats 4000000 in
theorem file_c (w : World) (Φ : Hp) {Φg : Hp} (hG : Knows Φg Glob) (hΦg : Hp.le Φg Φ) {p : Nat} {tv : Value} {toks ts : List Bt.Token} (hc : PCtx Φ toks tv) (hs : ts <:+ toks) (hg : Pa.good ts) (h0 : StP ⟨w, Φ, [p]⟩ Φ [.blk p 61 (pcs tv toks ts)] w) :
    Calls Tryd.prog 23 #[.pointer (some ⟨p, 0, none⟩)] w (ParR 57 w Φ p 61 (pcs tv toks) (Pa.fileN ts) fun x r Ψ => NdV Ψ x r) := by
  have hne := Pa.good_ne hg
  refine calls_of_AW (args := [.pointer (some ⟨p, 0, none⟩)]) Tryd.func23 rfl (Nat.le_of_ble_eq_true rfl) (St ⟨w, Φ, [p]⟩ Φ [.blk p 61 (pcs tv toks ts)]) h0 ?_
  show AW _ _ [] _ _ _ [(0, .pointer (some ⟨p, 0, none⟩))] _
  have hle := Pa.suf_len hs
  have hln := hc.len
  obtain ⟨_, _, hw3, hw4, hw5⟩ := wf_pk hc.wf hs hne
  repeat refine g1 ?_
  refine RW.alc rfl fun b2 => ?_
  repeat refine g1 ?_
  refine RW.q (v := .agg (ndC (⟨0, [], 0, 0, 0, []⟩ : Bt.Node) (.slice none 0 0)).toArray) rfl (q_build (vals := [(0, .int .i64 0)]) zero26 Tryd.underlying26 places26 rfl rfl) ?_
  refine RW.alc rfl fun bn => ?_
  repeat refine g1 ?_
  refine AW.wk (J' := St ⟨w, Φ, [p]⟩ Φ [.row (.slice none 0 0) 26 6 0 [], .blk bn 26 (ndC (⟨0, [], 0, 0, 0, []⟩ : Bt.Node) (.slice none 0 0)), .blk b2 26 [.int .i64 0, .string (bs []), .int .i64 0, .int .i64 0, .int .i64 0, .slice none 0 0], .blk p 61 (pcs tv toks ts)]) (fun _ h => addNil h) ?_
  refine AW.loop (fun s J' m => ∃ (K : List Bt.Node) (css : List Value) (kv : Value) (Ψ : Hp) (t1 : List Bt.Token) (fk : Nat), s = [(0, .pointer (some ⟨p, 0, none⟩)), (2, .pointer (some ⟨b2, 0, none⟩)), (3, .pointer (some ⟨bn, 0, none⟩))] ∧ J' = St ⟨w, Φ, [p]⟩ Ψ [.row kv 26 6 K.length css, .blk bn 26 (ndC (⟨0, [], 0, 0, 0, []⟩ : Bt.Node) kv), .blk b2 26 [.int .i64 0, .string (bs []), .int .i64 0, .int .i64 0, .int .i64 0, .slice none 0 0], .blk p 61 (pcs tv toks t1)] ∧ m = t1.length ∧ RepC Ψ K css ∧ Hp.le Φ Ψ ∧ t1 <:+ toks ∧ Pa.good t1 ∧ t1.length + 1 ≤ fk ∧ IsSl kv K.length ∧ K.length + t1.length ≤ toks.length ∧ Pa.fileN ts = match Pa.fileP fk t1 with | .error e => .error e | .ok (xs, r) => .ok ((⟨0, [], 0, 0, 0, (K ++ xs)⟩ : Bt.Node), r)) (s0 := _) (J1 := _) (m0 := _) ⟨[], [], .slice none 0 0, Φ, ts, ts.length + 1, rfl, rfl, rfl, RepC.nil, Hp.le_refl _, hs, hg, Nat.le_refl _, isSl_nil, by simp only [List.length_nil]; omega, rfl⟩ ⟨rfl, rfl, rfl, trivial⟩ (fun _ h => h) ?_
  rintro _ _ _ _ ⟨K, css, kv, Ψ, t1, fk, rfl, rfl, rfl, hrc, hlΨ, hs3, hg4, hfk, hkv, hKn, hve⟩
  obtain ⟨fk, rfl⟩ : ∃ f1, fk = f1 + 1 := ⟨fk - 1, by have := List.length_pos_iff.2 (Pa.good_ne hg4); omega⟩
  repeat refine g1 ?_
  refine RW.q rfl (q_call (args := #[.pointer (some ⟨p, 0, none⟩)]) own37 rfl rfl (fun w1 hw1 => peek_c w1 (blkAt 3 rfl hw1) (hc.mono (hlΨ.trans hw1.phi)) hs3 (Pa.good_ne hg4))) ?_
  repeat refine g1 ?_
  refine AW.cond rfl (fun hb => ?_) fun hb => ?_
  · have hb : (Pa.pk t1).Kind ≠ 4 := by simpa using hb
    repeat refine g1 ?_
    refine AW.draw (J0 := St ⟨w, Φ, [p]⟩ Ψ [.blk bn 26 (ndC (⟨0, [], 0, 0, 0, []⟩ : Bt.Node) kv)]) [.q, .q, .q, .e, .e, .e, .q, .e] [0, 1, 2, 3, 4, 5, 6, 7] hmix (by kernel_rfl) ?_
    repeat refine g1 ?_
    refine DW.par (res := Pa.declP t1) (C' := fun r => [.row kv 26 6 K.length css, .blk bn 26 (ndC (⟨0, [], 0, 0, 0, []⟩ : Bt.Node) kv), .blk b2 26 [.int .i64 0, .string (bs []), .int .i64 0, .int .i64 0, .int .i64 0, .slice none 0 0], .blk p 61 (pcs tv toks r)]) (args := #[.pointer (some ⟨p, 0, none⟩)]) 3 rfl rfl own38 rfl rfl (fun w1 hw1 => decl_c w1 Ψ hG (hΦg.trans hlΨ) (hc.mono hlΨ) hs3 hg4 hw1) (fun er at_ Ψ1 w1 he hw1 => ?_) (fun _ => rfl) (fun _ _ _ hl h => St.oneK 1 hl rfl h) ?_
    · exact .inr ⟨er, at_, by rw [hve, Pa.fileP, if_neg hb, he], rfl, Ψ1, hw1.drop (List.nil_sublist _)⟩
    rintro x r _ Ψ1 hres ⟨kx, rfl, hwx, hkx⟩ hl1
    refine DW.eff (fun b6 : Nat => .slice (some ⟨b6, 0, none⟩) 1 1) (fun b6 => St ⟨w, Φ, [p]⟩ Ψ1 [.row (.slice (some ⟨b6, 0, none⟩) 1 1) 26 6 1 (ndC x kx), .row kv 26 6 K.length css, .blk bn 26 (ndC (⟨0, [], 0, 0, 0, []⟩ : Bt.Node) kv), .blk b2 26 [.int .i64 0, .string (bs []), .int .i64 0, .int .i64 0, .int .i64 0, .slice none 0 0], .blk p 61 (pcs tv toks r)]) (fun _ _ _ h => St.oneK 2 hl1 rfl h) rfl (e_buildSlice (vals := [(0, .agg (ndC x kx).toArray)]) (cells := ndC x kx) Tryd.underlying24 inf26 rfl rfl rfl (by kernel_rfl) rfl) ?_
    intro b6
    refine DW.eff (fun xv : {vq : Value // IsSl vq (K.length + 1)} => xv.1) (fun xv => St ⟨w, Φ, [p]⟩ Ψ1 [.row (.slice (some ⟨b6, 0, none⟩) 1 1) 26 6 1 (ndC x kx), .row xv.1 26 6 (K.length + 1) (css ++ ndC x kx), .blk bn 26 (ndC (⟨0, [], 0, 0, 0, []⟩ : Bt.Node) kv), .blk b2 26 [.int .i64 0, .string (bs []), .int .i64 0, .int .i64 0, .int .i64 0, .slice none 0 0], .blk p 61 (pcs tv toks r)]) (fun _ _ _ h => St.oneK 2 hl1 rfl h) rfl (e_append 1 rfl rfl rfl Tryd.underlying24 inf26 rfl rfl rfl (Cells.row0 0 rfl) (ndC_one hkx.sl) (by omega) (by omega) (fun _ => rfl)) ?_
    rintro ⟨va, hva⟩
    repeat refine g1 ?_
    refine DW.effn (J' := St ⟨w, Φ, [p]⟩ Ψ1 [.row (.slice (some ⟨b6, 0, none⟩) 1 1) 26 6 1 (ndC x kx), .row va 26 6 (K.length + 1) (css ++ ndC x kx), .blk bn 26 (ndC (⟨0, [], 0, 0, 0, []⟩ : Bt.Node) va), .blk b2 26 [.int .i64 0, .string (bs []), .int .i64 0, .int .i64 0, .int .i64 0, .slice none 0 0], .blk p 61 (pcs tv toks r)]) (fun h => absurd rfl h) (e_storeSl (v := va) 2 rfl rfl rfl hva sz24 rfl rfl rfl) ?_
    obtain ⟨hs5, hg5, hl5⟩ := Pa.declP_ok hg4 hres
    repeat refine g1 ?_
    exact Post.back (s' := _) (J' := _) (m' := _) (by omega) ⟨K ++ [x], css ++ ndC x kx, va, Ψ1, r, fk, rfl, rfl, rfl, (hrc.mono hl1).snoc (NdV.rep hwx hkx), hlΨ.trans hl1, hs5.trans hs3, hg5, by omega, by simpa using hva, by simp; omega, by rw [hve, Pa.fileP, if_neg hb, hres]; simp only []; cases Pa.fileP fk r <;> simp⟩ ⟨rfl, rfl, rfl, trivial⟩ (fun _ h => by simp only [List.length_append, List.length_singleton]; exact StP.drop h (.cons _ (List.Sublist.refl _)))
  have hb : (Pa.pk t1).Kind = 4 := by simpa using hb
  have hl2 : Hp.le Ψ Ψ := Hp.le_refl _
  repeat refine g1 ?_
  refine RW.effn (e_store (v := .agg (ndC (⟨0, [], 0, 0, 0, []⟩ : Bt.Node) kv).toArray) 2 rfl rfl rfl sz26 rfl (ndC_one hkv) rfl rfl rfl) ?_
  repeat refine g1 ?_
  refine fin_res (vs := [.agg (ndC (⟨0, [], 0, 0, 0, []⟩ : Bt.Node) kv).toArray]) rfl rfl ⟨.agg rfl rfl (Cells.blk 2 rfl), trivial⟩ rfl (fun w3 hw3 => ?_)
  obtain ⟨Ψ3, hl4, hsat, hw4⟩ := StP.freezeP hw3 2 rfl
  refine .inl ⟨(⟨0, [], 0, 0, 0, K⟩ : Bt.Node), t1, _, Ψ3, ?_, rfl, (hlΨ).trans hl4, hw4.drop (.cons _ (.cons _ (List.Sublist.refl _))), kv, rfl, ?_, ?_⟩
  · rw [hve, Pa.fileP, if_pos hb]; simp
  · refine ⟨?_, ?_, ?_, ?_, ?_⟩ <;> simp only [maxLen, List.length_nil] <;> (try unfold I64) <;> omega
  · exact RowS.repC (show RowS Ψ3 kv 26 6 K.length css from hsat) (hrc.mono (hl2.trans hl4)) rfl (by simp only [maxSl]; show K.length * 72 ≤ _; omega)
end Go.Proofs.YtjcahklnkakklaaDoor
