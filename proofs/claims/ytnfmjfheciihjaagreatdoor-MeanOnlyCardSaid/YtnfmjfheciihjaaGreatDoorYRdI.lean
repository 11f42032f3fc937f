/- Lemmas. Conditions: those of each theorem. -/
import Derived.Test.YtnfmjfheciihjaaGreatDoorYRdG
import Derived.Test.YtnfmjfheciihjaaGreatDoorYDrw
set_option maxRecDepth 8000
set_option maxHeartbeats 16000000
namespace Go.Proofs.YtnfmjfheciihjaaGreatDoor
open Go Go.K Go.RowKit
open Ru (tr trs pB nC wfH wfK tr_fin0 tr_fin1 tr_fin2 tr_fin3 tr_at tr_wf)
attribute [local irreducible] AW RW DW Post Qt
theorem factOf_le {l : List UInt8} {k : Int} (h : Ru.factOf l = some k) : 0 ≤ k ∧ k ≤ 7 := by
 unfold Ru.factOf at h
 repeat' split at h
 all_goals first | (cases h; omega) | cases h
section
variable {Φ : Hp} {p : Nat} {tv : Value} {toks : List Bt.Token}
theorem word_c (w : World) (hc : PCtx Φ toks tv) {z : Ru.S} (hz : PS toks z) {f : Nat} (hkz : (Pa.pk z.1).Kind = 0) (ih : ∀ g, g ≤ f → AllC Φ p tv toks g) (hf : 20 * z.1.length + 1 ≤ f + 1) (h0 : StP ⟨w, Φ, [p]⟩ Φ [pA p tv toks z] w) :
  Calls pg 145 #[pB p] w (EK w Φ p tv toks z (Ru.word (f + 1) z)) := by
 refine calls_of_AW (args := [pB p]) Tryz.func145 rfl (lBT rfl) (St ⟨w, Φ, [p]⟩ Φ [pA p tv toks z]) h0 ?_
 show AW _ _ [] _ _ _ [(0, pB p)] _
 have hwt := wf_pk hc.wf hz.suf hz.ne
 have hat := wfT_at hwt
 have had := Pa.ad_tail hz.good (by omega)
 have hz0 : PS toks (z.1.tail, z.2) := hz.ad had
 have hl := (Pa.good_tail hz.good (by omega)).2
 have hle := Pa.suf_len hz.suf
 have hln := hc.len
 refine gP ?_
 refine RW.q rfl (q_call (args := #[pB p]) oK rfl rfl (fun w1 hw1 => peek_c w1 (blkAt 0 rfl hw1) (hc.mono hw1.phi) hz)) ?_
 refine gP ?_
 refine RW.alc rfl fun b3 => ?_
 refine gP ?_
 refine RW.q rfl (q_call (args := #[.string (bs (Pa.pk z.1).Text)]) oK rfl rfl (fun w1 _ => factOf_c w1 (Go.K.hp w1) (Hp.le_refl _))) ?_
 refine gP ?_
 refine RW.q (v := .bool (decide ((Pa.pk z.1).Text = Ru.sTrue))) rfl (q_eqlStr rfl rfl) ?_
 refine gP ?_
 refine RW.g (b := decide ((Pa.pk z.1).Text = Ru.sTrue)) (v := .bool (decide ((Pa.pk z.1).Text = Ru.sFalse))) rfl rfl rfl (fun h => by exact q_eqlStr (gv_pos h) rfl) (RW.q (v := .bool (decide ((Pa.pk z.1).Text = Ru.sTrue) || decide ((Pa.pk z.1).Text = Ru.sFalse))) rfl (qpO rfl rfl rfl) ?_)
 refine gP ?_
 refine AW.cond rfl (fun h => ?_) fun h => ?_
 ·
  have h : (Pa.pk z.1).Text = Ru.sTrue ∨ (Pa.pk z.1).Text = Ru.sFalse := by simpa using h
  have hs : Ru.word (f + 1) z = .ok (Ru.truth (Pa.pk z.1), z.1.tail, z.2) := by rw [Ru.word, if_pos h]
  refine gP ?_
  refine RW.own (args := #[.agg (tkC (Pa.pk z.1)).toArray]) (A := []) (C2 := [.blk b3 134 (tkC (Pa.pk z.1)), .blk p 137 [tv, iV ((toks.length - z.1.length + 1 : Nat) : Int), iV z.2]]) [0, 1] (by decide) rfl rfl oK rfl rfl (fun w1 hw1 => truth_c w1 Φ hw1.phi hat) (fun er CE w2 he => nomatch he) ?_
  rintro _ ⟨b, F⟩ hr
  cases hr
  refine gP ?_
  refine fin_res (vs := [pB b]) rfl rfl ⟨.tmp rfl, trivial⟩ rfl (fun w2 hw => EK.ok hs ⟨F, ?_⟩)
  unfold pA; rw [pcs_next hz.suf hl]
  exact hw.sel [2, 0] (by decide) rfl
 ·
  have h : ¬ ((Pa.pk z.1).Text = Ru.sTrue ∨ (Pa.pk z.1).Text = Ru.sFalse) := by simpa using h
  refine gP ?_
  refine AW.cond rfl (fun h1 => ?_) fun h1 => ?_
  ·
   obtain ⟨k, hk⟩ := Option.isSome_iff_exists.1 h1
   have hs : Ru.word (f + 1) z = Ru.factR (Pa.pk z.1) k (z.1.tail, z.2) := by rw [Ru.word, if_neg h, hk]
   rw [hk]
   simp only [Option.getD_some]
   refine gP ?_
   refine RW.wk (J' := St ⟨w, Φ, [p]⟩ Φ [pA p tv toks (z.1.tail, z.2)]) (fun _ h => by unfold pA; rw [pcs_next hz.suf hl]; exact StP.sel h [1] (by decide) rfl) (RW.own (args := #[pB p, .agg (tkC (Pa.pk z.1)).toArray, iV k]) (C2 := []) [0] (by decide) rfl rfl oK rfl rfl (fun w1 hw1 => fact_c w1 Φ hc hz0 hwt (factOf_le hk) hw1) (fun er CE w2 he hk hw => PK.pn (hs.trans he) hk hw) ?_)
   rintro ⟨x, z1⟩ ⟨b, F⟩ hr
   refine gP ?_
   exact fin_res (vs := [pB b]) rfl rfl ⟨.tmp rfl, trivial⟩ rfl (fun w2 hw => EK.ok (hs.trans hr) ⟨F, hw⟩)
  ·
   have hk : Ru.factOf (Pa.pk z.1).Text = none := by simpa using h1
   have hs0 : Ru.word (f + 1) z = Ru.bnd (Ru.identR z) fun nm s1 => if Ru.isT Ru.sLp s1.1 = true then (if Ru.isT Ru.sRp s1.1.tail = true then .ok (⟨14, 0, 0, 0, (Pa.pk z.1).At, nm, default, []⟩, s1.1.tail.tail, s1.2) else Ru.bnd (Ru.args f (s1.1.tail, s1.2)) fun ks s2 => .ok (⟨14, 0, 0, 0, (Pa.pk z.1).At, nm, default, ks⟩, s2)) else .ok (⟨15, 0, 0, 0, (Pa.pk z.1).At, nm, default, []⟩, s1) := by rw [Ru.word, if_neg h, hk]
   refine gP ?_
   refine AW.draw (J0 := St ⟨w, Φ, [p]⟩ Φ [.blk b3 134 (tkC (Pa.pk z.1))]) [.q, .q, .q, .e, .q, .e, .q] od7 hmix (by kernel_rfl) ?_
   refine gP ?_
   refine DW.own (args := #[pB p]) (C2 := [.blk b3 134 (tkC (Pa.pk z.1))]) [1, 0] (by decide) rfl rfl oK rfl rfl (fun w1 hw1 => ident_c w1 Φ hc hz hw1) (fun er CE w2 he hk hw => PK.pn (hs0.trans (Ru.bnd_of_err he)) hk hw) (fun _ _ _ h => St.one 1 rfl h) ?_
   rintro ⟨nm, z1⟩ _ hr
   have hs1 := hs0.trans (Ru.bnd_of_ok hr)
   obtain ⟨hz1, hl1⟩ := hz.ident hr
   have hwn : wfK nm := by obtain ⟨_, _, rfl⟩ := Ru.identR_ok hz.good hr; exact wfK_of hwt
   refine gP ?_
   refine DW.q (v := .agg (nC 15 0 0 0 (Pa.pk z.1).At nm default nS).toArray) (fun _ h => St.one 1 rfl h) rfl (q_build (vals := [(0, iV 15), (4, iV (Pa.pk z.1).At), (5, .agg (tkC nm).toArray)]) zero153 uT153 places153 rfl rfl) ?_
   refine gP ?_
   refine DW.eff _ _ (fun _ _ _ h => St.one 2 rfl h) rfl (e_boxA (cs := nC 15 0 0 0 (Pa.pk z.1).At nm default nS) rfl) fun bn => ?_
   refine gP ?_
   refine RW.own (args := #[pB p, .string (bs Ru.sLp)]) (C2 := [.blk bn 153 (nC 15 0 0 0 (Pa.pk z.1).At nm default nS)]) [1, 0] (by decide) rfl rfl oK rfl rfl (fun w1 hw1 => accept_c w1 Φ hc hz1 hw1) (fun er CE w2 he => nomatch he) ?_
   rintro ⟨_, _⟩ _ hres
   cases hres
   refine gP ?_
   refine AW.cond rfl (fun h2 => ?_) fun h2 => ?_
   ·
    have h2 : Ru.isT Ru.sLp z1.1 = false := by simpa using h2
    have hs2 := hs1.trans (if_neg (by rw [h2]; simp))
    rw [if_neg (by rw [h2]; simp)]
    refine gP ?_
    exact fin_res (vs := [pB bn]) rfl rfl ⟨.tmp rfl, trivial⟩ rfl (fun w2 hw => EK.ok hs2 (tr_fin0 [1, 0] (by decide) rfl (wfH_nm (by omega) (by omega) hat hwn wfK0) hw))
   ·
    have h2 : Ru.isT Ru.sLp z1.1 = true := by simpa using h2
    have hs2 := hs1.trans (if_pos h2)
    rw [if_pos h2]
    obtain ⟨hz2, hl2⟩ := hz1.isT h2
    refine gP ?_
    refine RW.effn (J' := St ⟨w, Φ, [p]⟩ Φ [pA p tv toks (z1.1.tail, z1.2), .blk bn 153 (nC 14 0 0 0 (Pa.pk z.1).At nm default nS)]) (e_store (v := iV 14) 1 rfl rfl rfl sz3 rfl rfl rfl rfl rfl) ?_
    refine gP ?_
    refine RW.own (args := #[pB p, .string (bs Ru.sRp)]) (C2 := [.blk bn 153 (nC 14 0 0 0 (Pa.pk z.1).At nm default nS)]) [0, 1] (by decide) rfl rfl oK rfl rfl (fun w1 hw1 => accept_c w1 Φ hc hz2 hw1) (fun er CE w2 he => nomatch he) ?_
    rintro ⟨_, _⟩ _ hres
    cases hres
    refine gP ?_
    refine AW.cond rfl (fun h3 => ?_) fun h3 => ?_
    ·
     have h3 : Ru.isT Ru.sRp z1.1.tail = true := h3
     have hs3 := hs2.trans (if_pos h3)
     rw [if_pos h3]
     refine gP ?_
     exact fin_res (vs := [pB bn]) rfl rfl ⟨.tmp rfl, trivial⟩ rfl (fun w2 hw => EK.ok hs3 (tr_fin0 [1, 0] (by decide) rfl (wfH_nm (by omega) (by omega) hat hwn wfK0) hw))
    ·
     have h3 : Ru.isT Ru.sRp z1.1.tail = false := h3
     have hs3 := hs2.trans (if_neg (by rw [h3]; simp))
     rw [if_neg (by rw [h3]; simp)]
     refine gP ?_
     refine AW.wk (J' := St ⟨w, Φ, [p]⟩ Φ [pA p tv toks (z1.1.tail, z1.2), .blk bn 153 (nC 14 0 0 0 (Pa.pk z.1).At nm default nS), .row nS 145 1 0 [], trs [] [] []]) (fun _ h => StP.sel (addNil (T := 145) (sz := 1) (Ru.trs_nil h)) [2, 3, 0, 1] (by decide) rfl) ?_
     have hle1 := Pa.suf_len hz1.suf
     refine AW.loop (fun s J m => ∃ (K : List Bt.Nd) (l F : List Nat) (kv : Value) (zz : Ru.S) (g : Nat) (more : Bool), s = [(0, pB p), (6, pB bn), (7, .bool more)] ∧ J = St ⟨w, Φ, [p]⟩ Φ [pA p tv toks zz, .blk bn 153 (nC 14 0 0 0 (Pa.pk z.1).At nm default kv), .row kv 145 1 K.length (l.map pB), trs K l F] ∧ m = zz.1.length + more.toNat ∧ PS toks zz ∧ IsSl kv K.length ∧ K.length + zz.1.length ≤ toks.length ∧ 20 * zz.1.length + 15 ≤ g ∧ g ≤ f ∧ (more = true → Ru.word (f + 1) z = Ru.bnd (Ru.args g zz) fun ks s2 => .ok ((⟨14, 0, 0, 0, (Pa.pk z.1).At, nm, default, K ++ ks⟩ : Bt.Nd), s2)) ∧ (more = false → Ru.word (f + 1) z = Ru.bnd (Ru.exp Ru.sRp zz) fun _ s2 => .ok ((⟨14, 0, 0, 0, (Pa.pk z.1).At, nm, default, K⟩ : Bt.Nd), s2))) (s0 := _) (J1 := _) (m0 := _) ⟨[], [], [], .slice none 0 0, (z1.1.tail, z1.2), f, true, rfl, rfl, rfl, hz2, isSl_nil, by simp only [List.length_nil]; omega, by simp only []; omega, Nat.le_refl _, fun _ => hs3, fun h => nomatch h⟩ ⟨rfl, rfl, rfl, trivial⟩ (fun _ h => h) ?_
     rintro _ _ _ _ ⟨K, l, F, kv, zz, g, more, rfl, rfl, rfl, hzz, hkv, hKn, hg, hgf, hm1, hm2⟩
     refine gP ?_
     cases more
     ·
      have hs4 := hm2 rfl
      refine AW.condF rfl ?_
      refine gP ?_
      refine RW.own (args := #[pB p, .string (bs Ru.sRp)]) (C2 := [.blk bn 153 (nC 14 0 0 0 (Pa.pk z.1).At nm default kv), .row kv 145 1 K.length (l.map pB), trs K l F]) [0, 1, 2, 3] (by decide) rfl rfl oK rfl rfl (fun w1 hw1 => expect_c w1 Φ hc hzz hw1) (fun er CE w2 he hk hw => PK.pn (hs4.trans (Ru.bnd_of_err he)) hk hw) ?_
      rintro ⟨_, z5⟩ _ hr5
      have hs5 := hs4.trans (Ru.bnd_of_ok hr5)
      refine gP ?_
      exact fin_res (vs := [pB bn]) rfl rfl ⟨.tmp rfl, trivial⟩ rfl (fun w2 hw => EK.ok hs5 ⟨_, (Ru.tr_join (C := [pA p tv toks z5]) (wfH_nm (by omega) (by omega) hat hwn wfK0) (hw.sel [1, 2, 3, 0] (by decide) rfl)).sel [1, 0] (by decide) rfl⟩)
     ·
      have hs4 := hm1 rfl
      obtain ⟨g, rfl⟩ : ∃ g1, g = g1 + 1 := ⟨g - 1, by omega⟩
      rw [Ru.args] at hs4
      refine AW.condT rfl ?_
      refine gP ?_
      refine AW.drawW (J0 := St ⟨w, Φ, [p]⟩ Φ [.blk bn 153 (nC 14 0 0 0 (Pa.pk z.1).At nm default kv)]) [.q, .q, .q, .q, .q, .q, .e, .e, .e, .q, .q, .e] od12 hmix (by kernel_rfl) ?_
      refine gP ?_
      refine DW.own (args := #[pB p]) (C2 := [.blk bn 153 (nC 14 0 0 0 (Pa.pk z.1).At nm default kv), .row kv 145 1 K.length (l.map pB), trs K l F]) [0, 1, 2, 3] (by decide) rfl rfl oK rfl rfl (fun w1 hw1 => (ih g (by omega)).expr w1 _ hzz (by omega) hw1) (fun er CE w2 he hk hw => PK.pn (hs4.trans (Ru.bnd_of_err (Ru.bnd_of_err he))) hk hw) (fun _ _ _ h => St.one 2 rfl h) ?_
      rintro ⟨x, z3⟩ ⟨b, F1⟩ hr3
      obtain ⟨hz3, hl3⟩ := hzz.ex hr3
      rw [Ru.bnd_of_ok hr3] at hs4
      refine gP ?_
      refine DW.eff _ _ (fun _ _ _ h => St.one 3 rfl h) rfl (e_buildSlice (vals := [(0, pB b)]) (cells := [pB b]) uT142 inf145 rfl rfl rfl (by kernel_rfl) rfl) fun b6 => ?_
      refine gP ?_
      refine DW.eff (fun xv : {vq : Value // IsSl vq (K.length + 1)} => xv.1) (fun xv => St ⟨w, Φ, [p]⟩ Φ [.row (.slice (some ⟨b6, 0, none⟩) 1 1) 145 1 1 [pB b], pA p tv toks z3, tr x b F1, .blk bn 153 (nC 14 0 0 0 (Pa.pk z.1).At nm default kv), .row xv.1 145 1 (K.length + 1) (l.map pB ++ [pB b]), trs K l F]) (fun _ _ _ h => St.one 3 rfl h) rfl (e_append 4 rfl rfl rfl uT142 inf145 rfl rfl rfl (Cells.row0 0 rfl) rfl (by omega) (by omega) (fun _ => rfl)) ?_
      rintro ⟨va, hva⟩
      refine gP ?_
      refine DW.effn (J' := St ⟨w, Φ, [p]⟩ Φ [.row (.slice (some ⟨b6, 0, none⟩) 1 1) 145 1 1 [pB b], pA p tv toks z3, tr x b F1, .blk bn 153 (nC 14 0 0 0 (Pa.pk z.1).At nm default va), .row va 145 1 (K.length + 1) (l.map pB ++ [pB b]), trs K l F]) (fun h => absurd rfl h) (e_storeSl (v := va) 3 rfl rfl rfl hva sz142 rfl rfl rfl) ?_
      refine gP ?_
      refine RW.own (args := #[pB p, .string (bs Ru.sComma)]) (C2 := [.blk bn 153 (nC 14 0 0 0 (Pa.pk z.1).At nm default va), .row va 145 1 (K.length + 1) (l.map pB ++ [pB b]), trs K l F, tr x b F1]) [1, 3, 4, 5, 2] (by decide) rfl rfl oK rfl rfl (fun w1 hw1 => accept_c w1 Φ hc hz3 hw1) (fun er CE w2 he => nomatch he) ?_
      rintro ⟨_, _⟩ _ hres
      cases hres
      refine gP ?_
      have hcl : ∀ (zq : Ru.S) (w2 : World), StP ⟨w, Φ, [p]⟩ Φ [pA p tv toks zq, .blk bn 153 (nC 14 0 0 0 (Pa.pk z.1).At nm default va), .row va 145 1 (K.length + 1) (l.map pB ++ [pB b]), trs K l F, tr x b F1] w2 → StP ⟨w, Φ, [p]⟩ Φ [pA p tv toks zq, .blk bn 153 (nC 14 0 0 0 (Pa.pk z.1).At nm default va), .row va 145 1 (K ++ [x]).length ((l ++ [b]).map pB), trs (K ++ [x]) (l ++ [b]) (F ++ F1)] w2 := fun zq w2 h => by
       rw [List.length_append, List.map_append]
       exact (Ru.trs_app ((Ru.trs_one (h.sel (C' := [tr x b F1, pA p tv toks zq, .blk bn 153 (nC 14 0 0 0 (Pa.pk z.1).At nm default va), .row va 145 1 (K.length + 1) (l.map pB ++ [pB b]), trs K l F]) [4, 0, 1, 2, 3] (by decide) rfl)).sel (C' := [trs K l F, trs [x] [b] F1, pA p tv toks zq, .blk bn 153 (nC 14 0 0 0 (Pa.pk z.1).At nm default va), .row va 145 1 (K.length + 1) (l.map pB ++ [pB b])]) [4, 0, 1, 2, 3] (by decide) rfl)).sel [1, 2, 3, 0] (by decide) rfl
      have hva2 : IsSl va (K ++ [x]).length := by simpa using hva
      cases ht : Ru.isT Ru.sComma z3.1 with
      | true =>
       obtain ⟨hz4, hl4⟩ := hz3.isT ht
       rw [if_pos rfl]
       have hs5 : Ru.word (f + 1) z = Ru.bnd (Ru.args g (z3.1.tail, z3.2)) fun ks s2 => .ok ((⟨14, 0, 0, 0, (Pa.pk z.1).At, nm, default, (K ++ [x]) ++ ks⟩ : Bt.Nd), s2) := by
        rw [hs4, if_pos ht]
        cases Ru.args g (z3.1.tail, z3.2) with
        | error e => rfl
        | ok q => obtain ⟨ks, s2⟩ := q; simp [Ru.bnd]
       exact Post.back (s' := _) (J' := _) (m' := _) (by simp only [Bool.toNat_true]; omega) ⟨K ++ [x], l ++ [b], F ++ F1, va, (z3.1.tail, z3.2), g, true, rfl, rfl, rfl, hz4, hva2, by simp only [List.length_append, List.length_singleton]; omega, by simp only []; omega, by omega, fun _ => hs5, fun h => nomatch h⟩ ⟨rfl, rfl, rfl, trivial⟩ (fun w2 h => hcl _ w2 h)
      | false =>
       rw [if_neg (by simp)]
       have hs5 : Ru.word (f + 1) z = Ru.bnd (Ru.exp Ru.sRp z3) fun _ s2 => .ok ((⟨14, 0, 0, 0, (Pa.pk z.1).At, nm, default, K ++ [x]⟩ : Bt.Nd), s2) := by
        rw [hs4, if_neg (by rw [ht]; simp)]
        cases Ru.exp Ru.sRp z3 with
        | error e => rfl
        | ok q => rfl
       exact Post.back (s' := _) (J' := _) (m' := _) (by simp only [Bool.toNat_true, Bool.toNat_false]; omega) ⟨K ++ [x], l ++ [b], F ++ F1, va, z3, g, false, rfl, rfl, rfl, hz3, hva2, by simp only [List.length_append, List.length_singleton]; omega, by omega, by omega, fun h => absurd h (by decide), fun _ => hs5⟩ ⟨rfl, rfl, rfl, trivial⟩ (fun w2 h => hcl _ w2 h)
theorem all_c (hG : Knows Φ Glob) (hc : PCtx Φ toks tv) : ∀ f : Nat, AllC Φ p tv toks f := fun f => by
 induction f using Nat.strongRecOn with
 | _ f ih =>
 cases f with
 | zero => exact ⟨fun _ z _ h => by omega, fun _ z n hn _ h => by have := lvR_le hn; omega, fun _ z n hn _ h => by have := lvR_eq hn; have := lvR_le hn; omega, fun _ z _ h => by omega, fun _ z _ h => by omega, fun _ z _ h => by omega, fun _ z _ h => by omega, fun _ z _ _ h => by omega⟩
 | succ f =>
  have i0 := ih f (by omega)
  have i1 : ∀ g, g ≤ f → AllC Φ p tv toks g := fun g hg => ih g (by omega)
  exact ⟨fun w z hz hf h0 => expr_c w hc hz i0 hf h0, fun w z n hn hz hf h0 => level_c w hG hc hz hn i1 hf h0, fun w z n hn hz hf h0 => below_c w hc hz hn i0 hf h0, fun w z hz hf h0 => neg_c w hc hz i0 hf h0, fun w z hz hf h0 => cmp_c w hc hz i0 hf h0, fun w z hz hf h0 => factor_c w hc hz i0 hf h0, fun w z hz hf h0 => prim_c w hG hc hz i0 hf h0, fun w z hz hk hf h0 => word_c w hc hz hk i1 hf h0⟩
theorem expr0_c (w : World) (hG : Knows Φ Glob) (hc : PCtx Φ toks tv) {z : Ru.S} (hz : PS toks z) (h0 : StP ⟨w, Φ, [p]⟩ Φ [pA p tv toks z] w) : Calls pg 97 #[pB p] w (EK w Φ p tv toks z (Ru.expr0 z)) :=
 (all_c hG hc _).expr w z hz (by unfold Ru.fu; omega) h0
end
end Go.Proofs.YtnfmjfheciihjaaGreatDoor
namespace Ru
open Go Go.K Bt
structure OP (α : Type) where
 P : Hp → α → Nat → List Nat → Prop
 loc : ∀ {Φ Ψ : Hp} (x : α) (b : Nat) (F : List Nat), (∀ c ∈ F, Ψ c = Φ c) → P Φ x b F → P Ψ x b F
 dom : ∀ {Φ : Hp} (x : α) (b : Nat) (F : List Nat), P Φ x b F → ∀ c ∈ F, Φ c ≠ none
variable {α : Type} {o : OP α}
def OP.L (o : OP α) (H : Hp) : List α → List Nat → List Nat → Prop
 | [], l, F => l = [] ∧ F = []
 | x :: xs, l, F => ∃ b l2 F1 F2, l = b :: l2 ∧ F = F1 ++ F2 ∧ o.P H x b F1 ∧ o.L H xs l2 F2
theorem OP.Lloc (o : OP α) {Φ Ψ : Hp} : ∀ (xs : List α) (l F : List Nat), (∀ b ∈ F, Ψ b = Φ b) → o.L Φ xs l F → o.L Ψ xs l F
 | [], _, _, _, h => h
 | x :: xs, l, F, h, ⟨b, l2, F1, F2, h1, h2, h3, h4⟩ => by
  subst h2
  exact ⟨b, l2, F1, F2, h1, rfl, o.loc x b F1 (fun b hb => h b (List.mem_append_left _ hb)) h3, OP.Lloc o xs l2 F2 (fun b hb => h b (List.mem_append_right _ hb)) h4⟩
theorem OP.Ldom (o : OP α) {Φ : Hp} : ∀ (xs : List α) (l F : List Nat), o.L Φ xs l F → ∀ c ∈ F, Φ c ≠ none
 | [], l, F, h, c, hc => by rw [h.2] at hc; cases hc
 | x :: xs, l, F, ⟨b, l2, F1, F2, h1, h2, h3, h4⟩, c, hc => by
  subst h2
  rcases List.mem_append.1 hc with hc | hc
  ·
   exact o.dom x b F1 h3 c hc
  ·
   exact OP.Ldom o xs l2 F2 h4 c hc
theorem OP.Llen {H : Hp} : ∀ {xs : List α} {l F : List Nat}, o.L H xs l F → l.length = xs.length
 | [], _, _, h => by rw [h.1]; rfl
 | _ :: _, _, _, ⟨_, _, _, _, h1, _, _, h4⟩ => by rw [h1, List.length_cons, List.length_cons, OP.Llen h4]
theorem OP.Lapp {H : Hp} : ∀ {xs ys : List α} {l m F G : List Nat}, o.L H xs l F → o.L H ys m G → o.L H (xs ++ ys) (l ++ m) (F ++ G)
 | [], _, _, _, _, _, h, k => by rw [h.1, h.2]; exact k
 | _ :: _, _, _, _, _, _, ⟨b, l2, F1, F2, h1, h2, h3, h4⟩, k => ⟨b, _, F1, _, by rw [h1, List.cons_append], by rw [h2, List.append_assoc], h3, OP.Lapp h4 k⟩
theorem OP.Lsplit {H : Hp} : ∀ {xs ys : List α} {l F : List Nat}, o.L H (xs ++ ys) l F → ∃ l1 l2 F1 F2, l = l1 ++ l2 ∧ F = F1 ++ F2 ∧ o.L H xs l1 F1 ∧ o.L H ys l2 F2
 | [], _, l, F, h => ⟨[], l, [], F, rfl, rfl, ⟨rfl, rfl⟩, h⟩
 | x :: xs, ys, l, F, ⟨b, l2, F1, F2, h1, h2, h3, h4⟩ => by
  obtain ⟨m1, m2, G1, G2, e1, e2, k1, k2⟩ := OP.Lsplit h4
  exact ⟨b :: m1, m2, F1 ++ G1, G2, by rw [h1, e1, List.cons_append], by rw [h2, e2, List.append_assoc], ⟨b, m1, F1, G1, rfl, rfl, h3, k1⟩, k2⟩
def OP.ck (o : OP α) (x : α) (b : Nat) (F : List Nat) : Chunk := ⟨F, fun H => o.P H x b F ∧ F.Nodup, fun _ _ h hs => ⟨o.loc x b F h hs.1, hs.2⟩, fun _ hs => o.dom x b F hs.1⟩
def OP.cks (o : OP α) (xs : List α) (l F : List Nat) : Chunk := ⟨F, fun H => o.L H xs l F ∧ F.Nodup, fun _ _ h hs => ⟨o.Lloc xs l F h hs.1, hs.2⟩, fun _ hs => o.Ldom xs l F hs.1⟩
variable {B : Bs} {Φ Ψ : Hp} {C : List Chunk} {w : World}
theorem OP.nil (o : OP α) (h : StP B Φ C w) : StP B Φ (o.cks [] [] [] :: C) w :=
 StP.recut (C1 := []) (C2 := [o.cks [] [] []]) h (fun c hc => by obtain rfl := List.mem_singleton.1 hc; exact ⟨⟨rfl, rfl⟩, List.nodup_nil⟩) (List.pairwise_singleton ..) (fun c hc => by simp [OP.cks] at hc)
theorem OP.one {x : α} {b : Nat} {F : List Nat} (h : StP B Φ (o.ck x b F :: C) w) : StP B Φ (o.cks [x] [b] F :: C) w :=
 StP.recut (C1 := [o.ck x b F]) (C2 := [o.cks [x] [b] F]) h (fun c hc => by
  obtain rfl := List.mem_singleton.1 hc
  obtain ⟨h1, h2⟩ := h.sat _ (List.mem_cons_self ..)
  exact ⟨⟨b, [], F, [], rfl, (List.append_nil _).symm, h1, rfl, rfl⟩, h2⟩) (List.pairwise_singleton ..) (fun c hc => by simpa [OP.cks, OP.ck] using hc)
theorem OP.app {xs ys : List α} {l m F G : List Nat} (h : StP B Φ (o.cks xs l F :: o.cks ys m G :: C) w) : StP B Φ (o.cks (xs ++ ys) (l ++ m) (F ++ G) :: C) w :=
 StP.recut (C1 := [o.cks xs l F, o.cks ys m G]) (C2 := [o.cks (xs ++ ys) (l ++ m) (F ++ G)]) h (fun c hc => by
  obtain rfl := List.mem_singleton.1 hc
  obtain ⟨h1, h2⟩ := h.sat _ (List.mem_cons_self ..)
  obtain ⟨h3, h4⟩ := h.sat _ (List.mem_cons_of_mem _ (List.mem_cons_self ..))
  refine ⟨OP.Lapp h1 h3, List.nodup_append.2 ⟨h2, h4, fun c hc d hd e => ?_⟩⟩
  subst e
  exact (List.pairwise_cons.1 h.sep).1 _ (List.mem_cons_self ..) c hc hd) (List.pairwise_singleton ..) (fun c hc => by simpa [OP.cks, OP.ck] using hc)
theorem OP.split {xs ys : List α} {l F : List Nat} (h : StP B Φ (o.cks (xs ++ ys) l F :: C) w) : ∃ l1 l2 F1 F2, l = l1 ++ l2 ∧ F = F1 ++ F2 ∧ l1.length = xs.length ∧ l2.length = ys.length ∧ StP B Φ (o.cks xs l1 F1 :: o.cks ys l2 F2 :: C) w := by
 obtain ⟨h1, hn⟩ := h.sat _ (List.mem_cons_self ..)
 obtain ⟨l1, l2, F1, F2, rfl, rfl, h2, h3⟩ := OP.Lsplit h1
 obtain ⟨n1, n2, n3⟩ := List.nodup_append.1 hn
 refine ⟨l1, l2, F1, F2, rfl, rfl, OP.Llen h2, OP.Llen h3, StP.recut (C1 := [o.cks (xs ++ ys) _ _]) (C2 := [o.cks xs l1 F1, o.cks ys l2 F2]) h ?_ ?_ ?_⟩
 ·
  intro c hc
  simp only [List.mem_cons, List.not_mem_nil, or_false] at hc
  rcases hc with rfl | rfl
  ·
   exact ⟨h2, n1⟩
  ·
   exact ⟨h3, n2⟩
 ·
  refine List.pairwise_cons.2 ⟨fun d hd c hc => ?_, List.pairwise_singleton ..⟩
  obtain rfl := List.mem_singleton.1 hd
  exact fun hm => n3 c hc c hm rfl
 ·
  intro c hc
  simpa [OP.cks] using hc
theorem OP.to1 {x : α} {l F : List Nat} (h : StP B Φ (o.cks [x] l F :: C) w) : ∃ b, l = [b] ∧ StP B Φ (o.ck x b F :: C) w := by
 obtain ⟨⟨b, l2, F1, F2, rfl, rfl, h3, h4, h5⟩, hn⟩ := h.sat _ (List.mem_cons_self ..)
 subst h4; subst h5
 refine ⟨b, rfl, StP.recut (C1 := [o.cks [x] [b] (F1 ++ [])]) (C2 := [o.ck x b (F1 ++ [])]) h (fun c hc => ?_) (List.pairwise_singleton ..) (fun c hc => by simpa [OP.cks, OP.ck] using hc)⟩
 obtain rfl := List.mem_singleton.1 hc
 exact ⟨by rw [List.append_nil]; exact h3, hn⟩
abbrev prC (q : Prm) : List Value := [iV q.name.Kind, .string (bs q.name.Text), iV q.name.At, iV q.kind]
abbrev fC (nm : Token) (pv : Value) (r : Int) (bv : Value) : List Value := [iV nm.Kind, .string (bs nm.Text), iV nm.At, pv, iV r, bv]
abbrev cC (nm : Token) (cv vv : Value) : List Value := [iV nm.Kind, .string (bs nm.Text), iV nm.At, cv, vv]
def wfP (q : Prm) : Prop := wfK q.name ∧ (q.kind = 0 ∨ q.kind = 1)
def fnP : OP Bt.Fn where
 P := fun H x b F => ∃ pv bb G, H b = some (.cells (fC x.name pv x.result (pB bb)).toArray 147 (0, 0)) ∧ RowS H pv 156 4 x.params.length (x.params.flatMap prC) ∧ TrF H x.body bb G ∧ F = b :: (blks pv ++ G) ∧ wfK x.name ∧ (x.result = 0 ∨ x.result = 1) ∧ ∀ q ∈ x.params, wfP q
 loc := fun x b F h ⟨pv, bb, G, h1, h2, h3, h4, h5⟩ => by
  subst h4
  exact ⟨pv, bb, G, (h b (List.mem_cons_self ..)).trans h1, (Chunk.row pv 156 4 x.params.length (x.params.flatMap prC)).loc _ _ (fun c hc => h c (List.mem_cons_of_mem _ (List.mem_append_left _ hc))) h2, TrF.loc x.body bb G (fun c hc => h c (List.mem_cons_of_mem _ (List.mem_append_right _ hc))) h3, rfl, h5⟩
 dom := fun x b F ⟨pv, bb, G, h1, h2, h3, h4, h5⟩ c hc => by
  subst h4
  rcases List.mem_cons.1 hc with rfl | hc
  ·
   rw [h1]; simp
  ·
   rcases List.mem_append.1 hc with hc | hc
   ·
    exact (Chunk.row pv 156 4 x.params.length (x.params.flatMap prC)).dom _ h2 c hc
   ·
    exact TrF.dom x.body bb G h3 c hc
def clP : OP Bt.Cl where
 P := fun H x b F => ∃ bc bv G1 G2, H b = some (.cells (cC x.link (pB bc) (pB bv)).toArray 150 (0, 0)) ∧ TrF H x.cond bc G1 ∧ TrF H x.value bv G2 ∧ F = b :: (G1 ++ G2) ∧ wfK x.link
 loc := fun x b F h ⟨bc, bv, G1, G2, h1, h2, h3, h4, h5⟩ => by
  subst h4
  exact ⟨bc, bv, G1, G2, (h b (List.mem_cons_self ..)).trans h1, TrF.loc x.cond bc G1 (fun c hc => h c (List.mem_cons_of_mem _ (List.mem_append_left _ hc))) h2, TrF.loc x.value bv G2 (fun c hc => h c (List.mem_cons_of_mem _ (List.mem_append_right _ hc))) h3, rfl, h5⟩
 dom := fun x b F ⟨bc, bv, G1, G2, h1, h2, h3, h4, h5⟩ c hc => by
  subst h4
  rcases List.mem_cons.1 hc with rfl | hc
  ·
   rw [h1]; simp
  ·
   rcases List.mem_append.1 hc with hc | hc
   ·
    exact TrF.dom x.cond bc G1 h2 c hc
   ·
    exact TrF.dom x.value bv G2 h3 c hc
theorem fn_join {x : Bt.Fn} {b bb : Nat} {G : List Nat} {pv : Value} (h1 : wfK x.name) (h2 : x.result = 0 ∨ x.result = 1) (h3 : ∀ q ∈ x.params, wfP q) (h : StP B Φ (.blk b 147 (fC x.name pv x.result (pB bb)) :: .row pv 156 4 x.params.length (x.params.flatMap prC) :: tr x.body bb G :: C) w) :
  StP B Φ (fnP.ck x b (b :: (blks pv ++ G)) :: C) w := by
 have e1 := h.sat _ (List.mem_cons_self ..)
 have e2 := h.sat _ (List.mem_cons_of_mem _ (List.mem_cons_self ..))
 have e3 := h.sat _ (List.mem_cons_of_mem _ (List.mem_cons_of_mem _ (List.mem_cons_self ..)))
 obtain ⟨s1, s2⟩ := List.pairwise_cons.1 h.sep
 obtain ⟨s3, _⟩ := List.pairwise_cons.1 s2
 refine StP.recut (C1 := [.blk b 147 (fC x.name pv x.result (pB bb)), .row pv 156 4 x.params.length (x.params.flatMap prC), tr x.body bb G]) (C2 := [fnP.ck x b (b :: (blks pv ++ G))]) h ?_ (List.pairwise_singleton ..) ?_
 ·
  intro c hc
  obtain rfl := List.mem_singleton.1 hc
  refine ⟨⟨pv, bb, G, e1, e2, e3.1, rfl, h1, h2, h3⟩, List.nodup_cons.2 ⟨fun hm => ?_, List.nodup_append.2 ⟨blks_nodup pv, e3.2, fun c hc d hd e => ?_⟩⟩⟩
  ·
   rcases List.mem_append.1 hm with hm | hm
   ·
    exact s1 _ (List.mem_cons_self ..) b (List.mem_singleton.2 rfl) hm
   ·
    exact s1 _ (List.mem_cons_of_mem _ (List.mem_cons_self ..)) b (List.mem_singleton.2 rfl) hm
  ·
   subst e
   exact s3 _ (List.mem_cons_self ..) c hc hd
 ·
  intro c hc
  simpa [Chunk.blk, Chunk.row, tr, OP.ck] using hc
theorem fn_cut {x : Bt.Fn} {b : Nat} {F : List Nat} (h : StP B Φ (fnP.ck x b F :: C) w) :
  ∃ pv bb G, F = b :: (blks pv ++ G) ∧ wfK x.name ∧ (x.result = 0 ∨ x.result = 1) ∧ (∀ q ∈ x.params, wfP q) ∧ StP B Φ (.blk b 147 (fC x.name pv x.result (pB bb)) :: .row pv 156 4 x.params.length (x.params.flatMap prC) :: tr x.body bb G :: C) w := by
 obtain ⟨⟨pv, bb, G, h1, h2, h3, h4, h5, h6, h7⟩, hn⟩ := h.sat _ (List.mem_cons_self ..)
 subst h4
 obtain ⟨hn1, hn2⟩ := List.nodup_cons.1 hn
 obtain ⟨_, hn3, hn4⟩ := List.nodup_append.1 hn2
 refine ⟨pv, bb, G, rfl, h5, h6, h7, StP.recut (C1 := [fnP.ck x b _]) (C2 := [.blk b 147 (fC x.name pv x.result (pB bb)), .row pv 156 4 x.params.length (x.params.flatMap prC), tr x.body bb G]) h ?_ ?_ ?_⟩
 ·
  intro c hc
  simp only [List.mem_cons, List.not_mem_nil, or_false] at hc
  rcases hc with rfl | rfl | rfl
  ·
   exact h1
  ·
   exact h2
  ·
   exact ⟨h3, hn3⟩
 ·
  refine List.pairwise_cons.2 ⟨fun d hd c hc => ?_, List.pairwise_cons.2 ⟨fun d hd c hc => ?_, List.pairwise_singleton ..⟩⟩
  ·
   obtain rfl : c = b := by simpa [Chunk.blk] using hc
   simp only [List.mem_cons, List.not_mem_nil, or_false] at hd
   rcases hd with rfl | rfl
   ·
    exact fun hm => hn1 (List.mem_append_left _ hm)
   ·
    exact fun hm => hn1 (List.mem_append_right _ hm)
  ·
   simp only [List.mem_cons, List.not_mem_nil, or_false] at hd
   subst hd
   exact fun hm => hn4 c hc c hm rfl
 ·
  intro c hc
  simpa [Chunk.blk, Chunk.row, tr, OP.ck] using hc
theorem cl_join {x : Bt.Cl} {b bc bv : Nat} {G1 G2 : List Nat} (h1 : wfK x.link) (h : StP B Φ (.blk b 150 (cC x.link (pB bc) (pB bv)) :: tr x.cond bc G1 :: tr x.value bv G2 :: C) w) :
  StP B Φ (clP.ck x b (b :: (G1 ++ G2)) :: C) w := by
 have e1 := h.sat _ (List.mem_cons_self ..)
 have e2 := h.sat _ (List.mem_cons_of_mem _ (List.mem_cons_self ..))
 have e3 := h.sat _ (List.mem_cons_of_mem _ (List.mem_cons_of_mem _ (List.mem_cons_self ..)))
 obtain ⟨s1, s2⟩ := List.pairwise_cons.1 h.sep
 obtain ⟨s3, _⟩ := List.pairwise_cons.1 s2
 refine StP.recut (C1 := [.blk b 150 (cC x.link (pB bc) (pB bv)), tr x.cond bc G1, tr x.value bv G2]) (C2 := [clP.ck x b (b :: (G1 ++ G2))]) h ?_ (List.pairwise_singleton ..) ?_
 ·
  intro c hc
  obtain rfl := List.mem_singleton.1 hc
  refine ⟨⟨bc, bv, G1, G2, e1, e2.1, e3.1, rfl, h1⟩, List.nodup_cons.2 ⟨fun hm => ?_, List.nodup_append.2 ⟨e2.2, e3.2, fun c hc d hd e => ?_⟩⟩⟩
  ·
   rcases List.mem_append.1 hm with hm | hm
   ·
    exact s1 _ (List.mem_cons_self ..) b (List.mem_singleton.2 rfl) hm
   ·
    exact s1 _ (List.mem_cons_of_mem _ (List.mem_cons_self ..)) b (List.mem_singleton.2 rfl) hm
  ·
   subst e
   exact s3 _ (List.mem_cons_self ..) c hc hd
 ·
  intro c hc
  simpa [Chunk.blk, tr, OP.ck] using hc
end Ru
namespace Go.Proofs.YtnfmjfheciihjaaGreatDoor
open Go Go.K Go.RowKit
open Ru (tr trs pB nC wfH wfK wfP prC fC cC fnP clP)
attribute [local irreducible] AW RW DW Post Qt
theorem PS.kind {toks : List Bt.Token} {z z1 : Ru.S} {k : Int} (hz : PS toks z) (hr : Ru.kindR z = .ok (k, z1)) : PS toks z1 ∧ z1.1.length < z.1.length := hz.le (Ru.kindR_ok hz.good hr).1
theorem PS.ex0 {toks : List Bt.Token} {z z1 : Ru.S} {x : Bt.Nd} (hz : PS toks z) (hr : Ru.expr0 z = .ok (x, z1)) : PS toks z1 ∧ z1.1.length < z.1.length := hz.ex hr
section
variable {Φ : Hp} {p : Nat} {tv : Value} {toks : List Bt.Token}
theorem function_c (w : World) (hG : Knows Φ Glob) (hc : PCtx Φ toks tv) {z : Ru.S} (hz : PS toks z) (h0 : StP ⟨w, Φ, [p]⟩ Φ [pA p tv toks z] w) :
  Calls pg 96 #[pB p] w (PK w Φ p tv toks [pA p tv toks z] (Ru.funR z) (fun _ (y : Nat × List Nat) => pB y.1) fun x y => [fnP.ck x y.1 y.2]) := by
 refine calls_of_AW (args := [pB p]) Tryz.func96 rfl (lBT rfl) (St ⟨w, Φ, [p]⟩ Φ [pA p tv toks z]) h0 ?_
 show AW _ _ [] _ _ _ [(0, pB p)] _
 have hln := hc.len
 have hs0 : Ru.funR z = Ru.bnd (Ru.identR z) fun nm s1 => Ru.bnd (Ru.exp Ru.sLp s1) fun _ s2 => Ru.bnd (if Ru.isT Ru.sRp s2.1 = true then .ok ([], s2.1.tail, s2.2) else Ru.prms s2.1.length s2) fun ps s3 => Ru.bnd (Ru.exp Ru.sColon s3) fun _ s4 => Ru.bnd (Ru.kindR s4) fun k s5 => Ru.bnd (Ru.exp Ru.sIs s5) fun _ s6 => Ru.bnd (Ru.expr0 s6) fun b s7 => .ok (⟨nm, ps, k, b⟩, s7) := rfl
 refine gP ?_
 refine RW.own (args := #[pB p]) (C2 := []) [0] (by decide) rfl rfl oK rfl rfl (fun w1 hw1 => ident_c w1 Φ hc hz hw1) (fun er CE w2 he hk hw => PK.pn (hs0.trans (Ru.bnd_of_err he)) hk hw) ?_
 rintro ⟨nm, z1⟩ _ hr1
 have hs1 := hs0.trans (Ru.bnd_of_ok hr1)
 obtain ⟨hz1, hl1⟩ := hz.ident hr1
 have hwn : wfK nm := by obtain ⟨_, _, rfl⟩ := Ru.identR_ok hz.good hr1; exact wfK_of (wf_pk hc.wf hz.suf hz.ne)
 refine gP ?_
 refine RW.q (v := .agg (fC nm nS 0 (.pointer none)).toArray) rfl (q_build (vals := [(0, .agg (tkC nm).toArray)]) zero147 uT147 places147 rfl rfl) ?_
 refine RW.bxA (cs := fC nm nS 0 (.pointer none)) rfl rfl fun bn => ?_
 refine gP ?_
 refine RW.own (args := #[pB p, .string (bs Ru.sLp)]) (C2 := [.blk bn 147 (fC nm nS 0 (.pointer none))]) [1, 0] (by decide) rfl rfl oK rfl rfl (fun w1 hw1 => expect_c w1 Φ hc hz1 hw1) (fun er CE w2 he hk hw => PK.pn (hs1.trans (Ru.bnd_of_err he)) hk hw) ?_
 rintro ⟨_, z2⟩ _ hr2
 have hs2 := hs1.trans (Ru.bnd_of_ok hr2)
 obtain ⟨hz2, hl2⟩ := hz1.exp hr2
 refine gP ?_
 refine RW.own (args := #[pB p, .string (bs Ru.sRp)]) (C2 := [.blk bn 147 (fC nm nS 0 (.pointer none))]) [0, 1] (by decide) rfl rfl oK rfl rfl (fun w1 hw1 => accept_c w1 Φ hc hz2 hw1) (fun er CE w2 he => nomatch he) ?_
 rintro ⟨_, _⟩ _ hres
 cases hres
 refine gP ?_
 refine AW.cond rfl (fun ht => ?_) fun ht => ?_
 ·
  have ht : Ru.isT Ru.sRp z2.1 = false := by simpa using ht
  rw [if_neg (by rw [ht]; simp)]
  have hs3 : Ru.funR z = Ru.bnd (Ru.bnd (Ru.prms z2.1.length z2) fun ps s => .ok (([] : List Bt.Prm) ++ ps, s)) fun ps s3 => Ru.bnd (Ru.exp Ru.sColon s3) fun _ s4 => Ru.bnd (Ru.kindR s4) fun k s5 => Ru.bnd (Ru.exp Ru.sIs s5) fun _ s6 => Ru.bnd (Ru.expr0 s6) fun b s7 => .ok (⟨nm, ps, k, b⟩, s7) := by
   refine hs2.trans ?_
   rw [if_neg (by rw [ht]; simp)]
   cases Ru.prms z2.1.length z2 with
   | error e => rfl
   | ok q => rfl
  refine gP ?_
  refine AW.wk (J' := St ⟨w, Φ, [p]⟩ Φ [pA p tv toks z2, .blk bn 147 (fC nm nS 0 (.pointer none)), .row nS 156 4 0 []]) (fun _ h => StP.sel (addNil (T := 156) (sz := 4) h) [1, 2, 0] (by decide) rfl) ?_
  have hle2 := Pa.suf_len hz2.suf
  refine AW.loop (fun s J m => ∃ (K : List Bt.Prm) (pv : Value) (zz : Ru.S) (g : Nat) (more : Bool), s = [(0, pB p), (3, pB bn), (4, .bool more)] ∧ J = St ⟨w, Φ, [p]⟩ Φ [pA p tv toks zz, .blk bn 147 (fC nm pv 0 (.pointer none)), .row pv 156 4 K.length (K.flatMap prC)] ∧ m = zz.1.length + more.toNat ∧ PS toks zz ∧ IsSl pv K.length ∧ K.length + zz.1.length ≤ toks.length ∧ (∀ q ∈ K, wfP q) ∧ zz.1.length ≤ g ∧ (more = true → Ru.funR z = Ru.bnd (Ru.bnd (Ru.prms g zz) fun ps s => .ok (K ++ ps, s)) fun ps s3 => Ru.bnd (Ru.exp Ru.sColon s3) fun _ s4 => Ru.bnd (Ru.kindR s4) fun k s5 => Ru.bnd (Ru.exp Ru.sIs s5) fun _ s6 => Ru.bnd (Ru.expr0 s6) fun b s7 => .ok (⟨nm, ps, k, b⟩, s7)) ∧ (more = false → Ru.funR z = Ru.bnd (Ru.bnd (Ru.exp Ru.sRp zz) fun _ s => .ok (K, s)) fun ps s3 => Ru.bnd (Ru.exp Ru.sColon s3) fun _ s4 => Ru.bnd (Ru.kindR s4) fun k s5 => Ru.bnd (Ru.exp Ru.sIs s5) fun _ s6 => Ru.bnd (Ru.expr0 s6) fun b s7 => .ok (⟨nm, ps, k, b⟩, s7))) (s0 := _) (J1 := _) (m0 := _) ⟨[], .slice none 0 0, z2, z2.1.length, true, rfl, rfl, rfl, hz2, isSl_nil, by simp only [List.length_nil]; omega, (fun q hq => absurd hq (List.not_mem_nil)), Nat.le_refl _, fun _ => hs3, fun h => absurd h (by decide)⟩ ⟨rfl, rfl, rfl, trivial⟩ (fun _ h => h) ?_
  rintro _ _ _ _ ⟨K, pv, zz, g, more, rfl, rfl, rfl, hzz, hpv, hKn, hwK, hg, hm1, hm2⟩
  refine gP ?_
  cases more
  ·
   have hs4 := hm2 rfl
   refine AW.condF rfl ?_
   refine gP ?_
   refine RW.own (args := #[pB p, .string (bs Ru.sRp)]) (C2 := [.blk bn 147 (fC nm pv 0 (.pointer none)), .row pv 156 4 K.length (K.flatMap prC)]) [0, 1, 2] (by decide) rfl rfl oK rfl rfl (fun w1 hw1 => expect_c w1 Φ hc hzz hw1) (fun er CE w2 he hk hw => PK.pn (hs4.trans (Ru.bnd_of_err (Ru.bnd_of_err he))) hk hw) ?_
   rintro ⟨_, z8⟩ _ hr8
   have hs : Ru.funR z = (fun ps s3 => Ru.bnd (Ru.exp Ru.sColon s3) fun _ s4 => Ru.bnd (Ru.kindR s4) fun k s5 => Ru.bnd (Ru.exp Ru.sIs s5) fun _ s6 => Ru.bnd (Ru.expr0 s6) fun b s7 => .ok (⟨nm, ps, k, b⟩, s7)) K z8 := hs4.trans (Ru.bnd_of_ok (Ru.bnd_of_ok hr8))
   obtain ⟨hz8, hl8⟩ := hzz.exp hr8
   clear hm1 hm2 hKn hg
   have hzz := hz8
   refine gP ?_
   refine RW.own (args := #[pB p, .string (bs Ru.sColon)]) (C2 := [.blk bn 147 (fC nm pv 0 (.pointer none)), .row pv 156 4 K.length (K.flatMap prC)]) [0, 1, 2] (by decide) rfl rfl oK rfl rfl (fun w1 hw1 => expect_c w1 Φ hc hzz hw1) (fun er CE w2 he hk hw => PK.pn (hs.trans (Ru.bnd_of_err he)) hk hw) ?_
   rintro ⟨_, z4⟩ _ hr4
   have hs4 := hs.trans (Ru.bnd_of_ok hr4)
   obtain ⟨hz4, hl4⟩ := hzz.exp hr4
   refine gP ?_
   refine RW.own (args := #[pB p]) (C2 := [.blk bn 147 (fC nm pv 0 (.pointer none)), .row pv 156 4 K.length (K.flatMap prC)]) [0, 1, 2] (by decide) rfl rfl oK rfl rfl (fun w1 hw1 => kind_c w1 Φ hc hz4 hw1) (fun er CE w2 he hk hw => PK.pn (hs4.trans (Ru.bnd_of_err he)) hk hw) ?_
   rintro ⟨k, z5⟩ _ hr5
   have hs5 := hs4.trans (Ru.bnd_of_ok hr5)
   obtain ⟨hz5, hl5⟩ := hz4.kind hr5
   have hkk : k = 0 ∨ k = 1 := (Ru.kindR_ok hz4.good hr5).2.2
   refine gP ?_
   refine RW.effn (J' := St ⟨w, Φ, [p]⟩ Φ [pA p tv toks z5, .blk bn 147 (fC nm pv k (.pointer none)), .row pv 156 4 K.length (K.flatMap prC)]) (e_store (v := iV k) 1 rfl rfl rfl sz3 rfl rfl rfl rfl rfl) ?_
   refine gP ?_
   refine RW.own (args := #[pB p, .string (bs Ru.sIs)]) (C2 := [.blk bn 147 (fC nm pv k (.pointer none)), .row pv 156 4 K.length (K.flatMap prC)]) [0, 1, 2] (by decide) rfl rfl oK rfl rfl (fun w1 hw1 => expect_c w1 Φ hc hz5 hw1) (fun er CE w2 he hk hw => PK.pn (hs5.trans (Ru.bnd_of_err he)) hk hw) ?_
   rintro ⟨_, z6⟩ _ hr6
   have hs6 := hs5.trans (Ru.bnd_of_ok hr6)
   obtain ⟨hz6, hl6⟩ := hz5.exp hr6
   refine gP ?_
   refine RW.own (args := #[pB p]) (C2 := [.blk bn 147 (fC nm pv k (.pointer none)), .row pv 156 4 K.length (K.flatMap prC)]) [0, 1, 2] (by decide) rfl rfl oK rfl rfl (fun w1 hw1 => expr0_c w1 hG hc hz6 hw1) (fun er CE w2 he hk hw => PK.pn (hs6.trans (Ru.bnd_of_err he)) hk hw) ?_
   rintro ⟨x7, z7⟩ ⟨b7, F7⟩ hr7
   have hs7 := hs6.trans (Ru.bnd_of_ok hr7)
   refine gP ?_
   refine RW.effn (J' := St ⟨w, Φ, [p]⟩ Φ [pA p tv toks z7, tr x7 b7 F7, .blk bn 147 (fC nm pv k (pB b7)), .row pv 156 4 K.length (K.flatMap prC)]) (e_store (v := pB b7) 2 rfl rfl rfl sz145 rfl rfl rfl rfl rfl) ?_
   refine gP ?_
   exact fin_res (vs := [pB bn]) rfl rfl ⟨.tmp rfl, trivial⟩ rfl (fun w2 hw => PK.ok (bn, bn :: (blks pv ++ F7)) hs7 rfl ((Ru.fn_join (x := ⟨nm, K, k, x7⟩) (C := [pA p tv toks z7]) hwn hkk hwK (hw.sel [2, 3, 1, 0] (by decide) rfl)).sel [1, 0] (by decide) rfl))
  ·
   have hs4 := hm1 rfl
   have hpos := List.length_pos_iff.2 hzz.ne
   obtain ⟨g, rfl⟩ : ∃ g1, g = g1 + 1 := ⟨g - 1, by omega⟩
   rw [Ru.prms] at hs4
   refine AW.condT rfl ?_
   refine gP ?_
   refine RW.own (args := #[pB p]) (C2 := [.blk bn 147 (fC nm pv 0 (.pointer none)), .row pv 156 4 K.length (K.flatMap prC)]) [0, 1, 2] (by decide) rfl rfl oK rfl rfl (fun w1 hw1 => ident_c w1 Φ hc hzz hw1) (fun er CE w2 he hk hw => PK.pn (hs4.trans (Ru.bnd_of_err (Ru.bnd_of_err (Ru.bnd_of_err he)))) hk hw) ?_
   rintro ⟨nm1, y1⟩ _ hq1
   rw [Ru.bnd_of_ok hq1] at hs4
   obtain ⟨hy1, hm1⟩ := hzz.ident hq1
   have hwn1 : wfK nm1 := by obtain ⟨_, _, rfl⟩ := Ru.identR_ok hzz.good hq1; exact wfK_of (wf_pk hc.wf hzz.suf hzz.ne)
   refine gP ?_
   refine RW.q (v := .agg (prC ⟨nm1, 0⟩).toArray) rfl (q_build (vals := [(0, .agg (tkC nm1).toArray)]) zero156 uT156 places156 rfl rfl) ?_
   refine RW.alc rfl fun b5 => ?_
   refine gP ?_
   refine RW.own (args := #[pB p, .string (bs Ru.sColon)]) (C2 := [.blk b5 156 (prC ⟨nm1, 0⟩), .blk bn 147 (fC nm pv 0 (.pointer none)), .row pv 156 4 K.length (K.flatMap prC)]) [1, 0, 2, 3] (by decide) rfl rfl oK rfl rfl (fun w1 hw1 => expect_c w1 Φ hc hy1 hw1) (fun er CE w2 he hk hw => PK.pn (hs4.trans (Ru.bnd_of_err (Ru.bnd_of_err (Ru.bnd_of_err he)))) hk hw) ?_
   rintro ⟨_, y2⟩ _ hq2
   rw [Ru.bnd_of_ok hq2] at hs4
   obtain ⟨hy2, hm2⟩ := hy1.exp hq2
   refine gP ?_
   refine RW.own (args := #[pB p]) (C2 := [.blk b5 156 (prC ⟨nm1, 0⟩), .blk bn 147 (fC nm pv 0 (.pointer none)), .row pv 156 4 K.length (K.flatMap prC)]) [0, 1, 2, 3] (by decide) rfl rfl oK rfl rfl (fun w1 hw1 => kind_c w1 Φ hc hy2 hw1) (fun er CE w2 he hk hw => PK.pn (hs4.trans (Ru.bnd_of_err (Ru.bnd_of_err (Ru.bnd_of_err he)))) hk hw) ?_
   rintro ⟨k1, y3⟩ _ hq3
   rw [Ru.bnd_of_ok hq3] at hs4
   obtain ⟨hy3, hm3⟩ := hy2.kind hq3
   have hk1 : k1 = 0 ∨ k1 = 1 := (Ru.kindR_ok hy2.good hq3).2.2
   refine gP ?_
   refine RW.effn (J' := St ⟨w, Φ, [p]⟩ Φ [pA p tv toks y3, .blk b5 156 (prC ⟨nm1, k1⟩), .blk bn 147 (fC nm pv 0 (.pointer none)), .row pv 156 4 K.length (K.flatMap prC)]) (e_store (v := iV k1) 1 rfl rfl rfl sz3 rfl rfl rfl rfl rfl) ?_
   refine gP ?_
   refine AW.drawW (J0 := St ⟨w, Φ, [p]⟩ Φ [.blk b5 156 (prC ⟨nm1, k1⟩), .blk bn 147 (fC nm pv 0 (.pointer none))]) [.q, .q, .q, .q, .q, .q, .e, .e, .q, .q, .e] od11 hmix (by kernel_rfl) (DW.q (fun _ h => StP.sel h [1, 2] (by decide) rfl) rfl (q_move rfl) (DW.q (fun _ h => StP.sel h [1, 2] (by decide) rfl) rfl (q_move rfl) (DW.q (fun _ h => StP.sel h [1, 2] (by decide) rfl) rfl (q_nilCheck rfl) (DW.q (fun _ h => StP.sel h [1, 2] (by decide) rfl) rfl (q_fieldAddr rfl uT147 rfl sz144 rfl) (DW.q (v := pv) (fun _ h => StP.sel h [1, 2] (by decide) rfl) rfl (q_load rfl uT144 rfl (Cell.blk 1 rfl rfl)) (DW.q (v := .agg (prC ⟨nm1, k1⟩).toArray) (fun _ h => StP.sel h [1, 2] (by decide) rfl) rfl (qa_ldA (cs := prC ⟨nm1, k1⟩) rfl (Cells.blk 0 rfl) rfl) (DW.eff _ _ (fun _ _ _ h => StP.sel h [2, 3] (by decide) rfl) rfl (e_buildSlice (vals := [(0, .agg (prC ⟨nm1, k1⟩).toArray)]) (cells := prC ⟨nm1, k1⟩) uT144 inf156 rfl rfl rfl (by kernel_rfl) rfl) fun b6 => (DW.eff (fun xv : {vq : Value // IsSl vq (K.length + 1)} => xv.1) (fun xv => St ⟨w, Φ, [p]⟩ Φ [.row (.slice (some ⟨b6, 0, none⟩) 1 1) 156 4 1 (prC ⟨nm1, k1⟩), pA p tv toks y3, .blk b5 156 (prC ⟨nm1, k1⟩), .blk bn 147 (fC nm pv 0 (.pointer none)), .row xv.1 156 4 (K.length + 1) (K.flatMap prC ++ prC ⟨nm1, k1⟩)]) (fun _ _ _ h => StP.sel h [2, 3] (by decide) rfl) rfl (e_append 4 rfl rfl rfl uT144 inf156 rfl rfl rfl (Cells.row0 0 rfl) rfl (by omega) (by omega) (fun _ => rfl)) ?_))))))))
   rintro ⟨va, hva⟩
   refine DW.q (fun _ h => StP.sel h [2, 3] (by decide) rfl) rfl (q_nilCheck rfl) (DW.q (fun _ h => StP.sel h [2, 3] (by decide) rfl) rfl (q_fieldAddr rfl uT147 rfl sz144 rfl) (DW.effn (J' := St ⟨w, Φ, [p]⟩ Φ [.row (.slice (some ⟨b6, 0, none⟩) 1 1) 156 4 1 (prC ⟨nm1, k1⟩), pA p tv toks y3, .blk b5 156 (prC ⟨nm1, k1⟩), .blk bn 147 (fC nm va 0 (.pointer none)), .row va 156 4 (K.length + 1) (K.flatMap prC ++ prC ⟨nm1, k1⟩)]) (fun h => absurd rfl h) (e_storeSl (v := va) 3 rfl rfl rfl hva sz144 rfl rfl rfl) ?_))
   refine gP ?_
   refine RW.own (args := #[pB p, .string (bs Ru.sComma)]) (C2 := [.blk bn 147 (fC nm va 0 (.pointer none)), .row va 156 4 (K.length + 1) (K.flatMap prC ++ prC ⟨nm1, k1⟩)]) [1, 3, 4] (by decide) rfl rfl oK rfl rfl (fun w1 hw1 => accept_c w1 Φ hc hy3 hw1) (fun er CE w2 he => nomatch he) ?_
   rintro ⟨_, _⟩ _ hres
   cases hres
   refine gP ?_
   have hcl : ∀ (zq : Ru.S) (w2 : World), StP ⟨w, Φ, [p]⟩ Φ [pA p tv toks zq, .blk bn 147 (fC nm va 0 (.pointer none)), .row va 156 4 (K.length + 1) (K.flatMap prC ++ prC ⟨nm1, k1⟩)] w2 → StP ⟨w, Φ, [p]⟩ Φ [pA p tv toks zq, .blk bn 147 (fC nm va 0 (.pointer none)), .row va 156 4 (K ++ [(⟨nm1, k1⟩ : Bt.Prm)]).length ((K ++ [(⟨nm1, k1⟩ : Bt.Prm)]).flatMap prC)] w2 := fun zq w2 h => by
    rw [List.length_append, List.flatMap_append]
    exact h
   have hva2 : IsSl va (K ++ [(⟨nm1, k1⟩ : Bt.Prm)]).length := by rw [List.length_append]; exact hva
   have hwK2 : ∀ q ∈ K ++ [(⟨nm1, k1⟩ : Bt.Prm)], wfP q := fun q hq => by
    rcases List.mem_append.1 hq with h1 | h1
    ·
     exact hwK q h1
    ·
     obtain rfl := List.mem_singleton.1 h1
     exact ⟨hwn1, hk1⟩
   cases ht2 : Ru.isT Ru.sComma y3.1 with
   | true =>
    obtain ⟨hy4, hm4⟩ := hy3.isT ht2
    rw [if_pos rfl]
    have hs5 : Ru.funR z = Ru.bnd (Ru.bnd (Ru.prms g (y3.1.tail, y3.2)) fun ps s => .ok ((K ++ [(⟨nm1, k1⟩ : Bt.Prm)]) ++ ps, s)) fun ps s3 => Ru.bnd (Ru.exp Ru.sColon s3) fun _ s4 => Ru.bnd (Ru.kindR s4) fun k s5 => Ru.bnd (Ru.exp Ru.sIs s5) fun _ s6 => Ru.bnd (Ru.expr0 s6) fun b s7 => .ok (⟨nm, ps, k, b⟩, s7) := by
     rw [hs4, if_pos ht2]
     cases Ru.prms g (y3.1.tail, y3.2) with
     | error e => rfl
     | ok q => obtain ⟨ks, s2⟩ := q; simp [Ru.bnd]
    exact Post.back (s' := _) (J' := _) (m' := _) (by simp only [Bool.toNat_true]; omega) ⟨K ++ [(⟨nm1, k1⟩ : Bt.Prm)], va, (y3.1.tail, y3.2), g, true, rfl, rfl, rfl, hy4, hva2, by simp only [List.length_append, List.length_singleton]; omega, hwK2, by simp only []; omega, fun _ => hs5, fun h => absurd h (by decide)⟩ ⟨rfl, rfl, rfl, trivial⟩ (fun w2 h => hcl _ w2 h)
   | false =>
    rw [if_neg (by simp)]
    have hs5 : Ru.funR z = Ru.bnd (Ru.bnd (Ru.exp Ru.sRp y3) fun _ s => .ok (K ++ [(⟨nm1, k1⟩ : Bt.Prm)], s)) fun ps s3 => Ru.bnd (Ru.exp Ru.sColon s3) fun _ s4 => Ru.bnd (Ru.kindR s4) fun k s5 => Ru.bnd (Ru.exp Ru.sIs s5) fun _ s6 => Ru.bnd (Ru.expr0 s6) fun b s7 => .ok (⟨nm, ps, k, b⟩, s7) := by
     rw [hs4, if_neg (by rw [ht2]; simp)]
     cases Ru.exp Ru.sRp y3 with
     | error e => rfl
     | ok q => rfl
    exact Post.back (s' := _) (J' := _) (m' := _) (by simp only [Bool.toNat_true, Bool.toNat_false]; omega) ⟨K ++ [(⟨nm1, k1⟩ : Bt.Prm)], va, y3, g, false, rfl, rfl, rfl, hy3, hva2, by simp only [List.length_append, List.length_singleton]; omega, hwK2, by omega, fun h => absurd h (by decide), fun _ => hs5⟩ ⟨rfl, rfl, rfl, trivial⟩ (fun w2 h => hcl _ w2 h)
 ·
  have ht : Ru.isT Ru.sRp z2.1 = true := by simpa using ht
  rw [if_pos ht]
  have hs : Ru.funR z = (fun ps s3 => Ru.bnd (Ru.exp Ru.sColon s3) fun _ s4 => Ru.bnd (Ru.kindR s4) fun k s5 => Ru.bnd (Ru.exp Ru.sIs s5) fun _ s6 => Ru.bnd (Ru.expr0 s6) fun b s7 => .ok (⟨nm, ps, k, b⟩, s7)) [] (z2.1.tail, z2.2) := by
   refine hs2.trans ?_
   rw [if_pos ht]
   rfl
  obtain ⟨hzz, hl3⟩ := hz2.isT ht
  have hwK : ∀ q ∈ ([] : List Bt.Prm), wfP q := fun q hq => absurd hq (List.not_mem_nil)
  refine gP ?_
  refine RW.wk (J' := St ⟨w, Φ, [p]⟩ Φ [pA p tv toks (z2.1.tail, z2.2), .blk bn 147 (fC nm nS 0 (.pointer none)), .row nS 156 4 0 []]) (fun _ h => StP.sel (addNil (T := 156) (sz := 4) h) [1, 2, 0] (by decide) rfl) (RW.own (args := #[pB p, .string (bs Ru.sColon)]) (C2 := [.blk bn 147 (fC nm nS 0 (.pointer none)), .row nS 156 4 0 []]) [0, 1, 2] (by decide) rfl rfl oK rfl rfl (fun w1 hw1 => expect_c w1 Φ hc hzz hw1) (fun er CE w2 he hk hw => PK.pn (hs.trans (Ru.bnd_of_err he)) hk hw) ?_)
  rintro ⟨_, z4⟩ _ hr4
  have hs4 := hs.trans (Ru.bnd_of_ok hr4)
  obtain ⟨hz4, hl4⟩ := hzz.exp hr4
  refine gP ?_
  refine RW.own (args := #[pB p]) (C2 := [.blk bn 147 (fC nm nS 0 (.pointer none)), .row nS 156 4 0 []]) [0, 1, 2] (by decide) rfl rfl oK rfl rfl (fun w1 hw1 => kind_c w1 Φ hc hz4 hw1) (fun er CE w2 he hk hw => PK.pn (hs4.trans (Ru.bnd_of_err he)) hk hw) ?_
  rintro ⟨k, z5⟩ _ hr5
  have hs5 := hs4.trans (Ru.bnd_of_ok hr5)
  obtain ⟨hz5, hl5⟩ := hz4.kind hr5
  have hkk : k = 0 ∨ k = 1 := (Ru.kindR_ok hz4.good hr5).2.2
  refine gP ?_
  refine RW.effn (J' := St ⟨w, Φ, [p]⟩ Φ [pA p tv toks z5, .blk bn 147 (fC nm nS k (.pointer none)), .row nS 156 4 0 []]) (e_store (v := iV k) 1 rfl rfl rfl sz3 rfl rfl rfl rfl rfl) ?_
  refine gP ?_
  refine RW.own (args := #[pB p, .string (bs Ru.sIs)]) (C2 := [.blk bn 147 (fC nm nS k (.pointer none)), .row nS 156 4 0 []]) [0, 1, 2] (by decide) rfl rfl oK rfl rfl (fun w1 hw1 => expect_c w1 Φ hc hz5 hw1) (fun er CE w2 he hk hw => PK.pn (hs5.trans (Ru.bnd_of_err he)) hk hw) ?_
  rintro ⟨_, z6⟩ _ hr6
  have hs6 := hs5.trans (Ru.bnd_of_ok hr6)
  obtain ⟨hz6, hl6⟩ := hz5.exp hr6
  refine gP ?_
  refine RW.own (args := #[pB p]) (C2 := [.blk bn 147 (fC nm nS k (.pointer none)), .row nS 156 4 0 []]) [0, 1, 2] (by decide) rfl rfl oK rfl rfl (fun w1 hw1 => expr0_c w1 hG hc hz6 hw1) (fun er CE w2 he hk hw => PK.pn (hs6.trans (Ru.bnd_of_err he)) hk hw) ?_
  rintro ⟨x7, z7⟩ ⟨b7, F7⟩ hr7
  have hs7 := hs6.trans (Ru.bnd_of_ok hr7)
  refine gP ?_
  refine RW.effn (J' := St ⟨w, Φ, [p]⟩ Φ [pA p tv toks z7, tr x7 b7 F7, .blk bn 147 (fC nm nS k (pB b7)), .row nS 156 4 0 []]) (e_store (v := pB b7) 2 rfl rfl rfl sz145 rfl rfl rfl rfl rfl) ?_
  refine gP ?_
  exact fin_res (vs := [pB bn]) rfl rfl ⟨.tmp rfl, trivial⟩ rfl (fun w2 hw => PK.ok (bn, bn :: (blks nS ++ F7)) hs7 rfl ((Ru.fn_join (x := ⟨nm, [], k, x7⟩) (C := [pA p tv toks z7]) hwn hkk hwK (hw.sel [2, 3, 1, 0] (by decide) rfl)).sel [1, 0] (by decide) rfl))
end
end Go.Proofs.YtnfmjfheciihjaaGreatDoor
