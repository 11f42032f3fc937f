/- Walks (part LawA), printed by walk2.py. Conditions: those of each theorem. -/
import Derived.Test.YtlljbndnodbecaaWalkG
namespace Go.Proofs.Ytlljbndnodbecaa
open Go Go.K Go.RowKit

set_option maxRecDepth 8000 in
set_option maxHeartbeats 1000000 in
theorem SeriesMerges_c (w : World) (Φ : Hp) (hΦ : Hp.le Φ (hp w)) {xs ys zs : List Bt.Gram} {v1 v2 v3 : Value} (h1 : RepSl Φ xs v1) (h2 : RepSl Φ ys v2) (h3 : RepSl Φ zs v3) {q : Int} (hq : I64 q) :
    Calls Try.prog 3 #[v1, v2, v3, .int .i64 q] w fun e w' => e = .returned (.bool true) ∧ Bel w.heap.size w w' := by
  refine calls_of_AW (args := [v1, v2, v3, .int .i64 q]) Try.func3 rfl (Nat.le_of_ble_eq_true rfl) (St ⟨w, Φ, []⟩ Φ []) (StP.init w Φ hΦ []) ?_
  show AW Try.prog 180 [] _ _ _ [(0, v1), (1, v2), (2, v3), (3, .int .i64 q)] _
  have hq0 := hq
  refine AW.seq ?_
  refine AW.region ?_
  refine RW.q (v := .bool false) rfl (q_assign rfl) ?_
  refine RW.nil ?_
  refine Post.then_n ?_
  refine AW.seq ?_
  refine AW.region ?_
  refine RW.q (v := .bool true) rfl (q_call (args := #[]) own7 rfl rfl (fun w1 hw1 => small_c w1 (Go.K.hp w1) (Hp.le_refl _))) ?_
  refine RW.q (v := .bool true) rfl (q_assign rfl) ?_
  refine RW.nil ?_
  refine Post.then_n ?_
  refine AW.seq ?_
  refine AW.seq ?_
  refine AW.region ?_
  refine RW.q (v := v1) rfl (q_move rfl) ?_
  refine RW.q (v := .bool (decide (Se.Few xs))) rfl (q_call (args := #[v1]) own8 rfl rfl (fun w1 hw1 => few_c w1 (Go.K.hp w1) (Hp.le_refl _) (h1.mono hw1.phi))) ?_
  refine RW.q (v := .bool (!(decide (Se.Few xs)))) rfl (q_not rfl) ?_
  refine RW.q (v := .bool (!(decide (Se.Few xs)))) rfl (q_move rfl) ?_
  refine RW.g (b := (!(decide (Se.Few xs)))) (v := v2) rfl rfl rfl (fun h => q_move rfl) ?_
  refine RW.g (b := (!(decide (Se.Few xs)))) (v := .bool (decide (Se.Few ys))) rfl rfl rfl (fun h => q_call (args := #[v2]) own8 rfl (args1 (gv_pos h)) (fun w1 hw1 => few_c w1 (Go.K.hp w1) (Hp.le_refl _) (h2.mono hw1.phi))) ?_
  refine RW.g (b := (!(decide (Se.Few xs)))) (v := .bool (!(decide (Se.Few ys)))) rfl rfl rfl (fun h => q_not (gv_pos h)) ?_
  refine RW.q (v := .bool ((!(decide (Se.Few xs))) || (!(decide (Se.Few ys))))) rfl (q_pick rfl (fun hp => pkOrT hp) (fun hp => (gv_pos hp).trans (pkOrF hp))) ?_
  refine RW.q (v := .bool ((!(decide (Se.Few xs))) || (!(decide (Se.Few ys))))) rfl (q_move rfl) ?_
  refine RW.g (b := ((!(decide (Se.Few xs))) || (!(decide (Se.Few ys))))) (v := v3) rfl rfl rfl (fun h => q_move rfl) ?_
  refine RW.g (b := ((!(decide (Se.Few xs))) || (!(decide (Se.Few ys))))) (v := .bool (decide (Se.Few zs))) rfl rfl rfl (fun h => q_call (args := #[v3]) own8 rfl (args1 (gv_pos h)) (fun w1 hw1 => few_c w1 (Go.K.hp w1) (Hp.le_refl _) (h3.mono hw1.phi))) ?_
  refine RW.g (b := ((!(decide (Se.Few xs))) || (!(decide (Se.Few ys))))) (v := .bool (!(decide (Se.Few zs)))) rfl rfl rfl (fun h => q_not (gv_pos h)) ?_
  refine RW.q (v := .bool (((!(decide (Se.Few xs))) || (!(decide (Se.Few ys)))) || (!(decide (Se.Few zs))))) rfl (q_pick rfl (fun hp => pkOrT hp) (fun hp => (gv_pos hp).trans (pkOrF hp))) ?_
  refine RW.nil ?_
  refine Post.then_n ?_
  refine AW.cond (b := ((!(decide (Se.Few xs))) || (!(decide (Se.Few ys)))) || (!(decide (Se.Few zs)))) rfl (fun hc1 => ?_) (fun hc1 => ?_)
  · simp [-List.getD_eq_getElem?_getD] at hc1
    refine AW.seq ?_
    refine AW.region ?_
    refine RW.q (v := .bool true) rfl (q_move rfl) ?_
    refine RW.q (v := .bool true) rfl (q_assign rfl) ?_
    refine RW.nil ?_
    refine Post.then_n ?_
    refine AW.ret ?_
    refine Post.then_r ?_
    exact fin_val (v' := .bool true) rfl rfl rfl (rfl)
  · simp [-List.getD_eq_getElem?_getD] at hc1
    refine AW.skip ?_
    refine Post.then_n ?_
    refine AW.seq ?_
    have hfx := hc1.1.1.2
    have hfy := hc1.1.2.2
    have hfz := hc1.2.2
    refine AW.region ?_
    refine RW.q (v := v1) rfl (q_move rfl) ?_
    refine RW.q (v := v2) rfl (q_move rfl) ?_
    refine RW.eff (fun x : {y : Value × Hp // (fun r Ψ => ∃ M, RepSl Ψ M r ∧ Se.Mrg xs ys M) y.1 y.2 ∧ Hp.le Φ y.2} => x.1.1) (fun x => St ⟨w, Φ, []⟩ x.1.2 []) rfl (e_callS (T := fun r Ψ => ∃ M, RepSl Ψ M r ∧ Se.Mrg xs ys M) (args := #[v1, v2]) own9 rfl rfl (fun w1 hw1 => (Merge_c w1 (Go.K.hp w1) (Hp.le_refl _) (xs := xs) (ys := ys) (h1.mono hw1.phi) (h2.mono hw1.phi) (by omega)).mono fun _ _ => retS_up (fun _ _ _ hl ⟨M, h1, h2⟩ => ⟨M, h1.mono hl, h2⟩))) ?_
    rintro ⟨⟨lv1, Φ1⟩, hlv1, hlΦ1⟩
    replace hlv1 : ∃ M, RepSl Φ1 M lv1 ∧ Se.Mrg xs ys M := hlv1
    replace hlΦ1 : Hp.le Φ Φ1 := hlΦ1
    replace h1 := h1.mono hlΦ1
    replace h2 := h2.mono hlΦ1
    replace h3 := h3.mono hlΦ1
    obtain ⟨M1, hlv1, hM1⟩ := hlv1
    refine RW.q (v := lv1) rfl (q_assign rfl) ?_
    refine RW.nil ?_
    refine Post.then_n ?_
    refine AW.seq ?_
    have hL1 := hM1.len
    refine AW.region ?_
    refine RW.q (v := lv1) rfl (q_move rfl) ?_
    refine RW.q (v := v2) rfl (q_move rfl) ?_
    refine RW.q (v := v1) rfl (q_move rfl) ?_
    refine RW.eff (fun x : {y : Value × Hp // (fun r Ψ => ∃ M, RepSl Ψ M r ∧ Se.Mrg ys xs M) y.1 y.2 ∧ Hp.le Φ1 y.2} => x.1.1) (fun x => St ⟨w, Φ, []⟩ x.1.2 []) rfl (e_callS (T := fun r Ψ => ∃ M, RepSl Ψ M r ∧ Se.Mrg ys xs M) (args := #[v2, v1]) own9 rfl rfl (fun w1 hw1 => (Merge_c w1 (Go.K.hp w1) (Hp.le_refl _) (xs := ys) (ys := xs) (h2.mono hw1.phi) (h1.mono hw1.phi) (by omega)).mono fun _ _ => retS_up (fun _ _ _ hl ⟨M, h1, h2⟩ => ⟨M, h1.mono hl, h2⟩))) ?_
    rintro ⟨⟨lv2, Φ2⟩, hlv2, hlΦ2⟩
    replace hlv2 : ∃ M, RepSl Φ2 M lv2 ∧ Se.Mrg ys xs M := hlv2
    replace hlΦ2 : Hp.le Φ1 Φ2 := hlΦ2
    replace h1 := h1.mono hlΦ2
    replace h2 := h2.mono hlΦ2
    replace h3 := h3.mono hlΦ2
    replace hlv1 := hlv1.mono hlΦ2
    obtain ⟨M2, hlv2, hM2⟩ := hlv2
    refine RW.q (v := .bool true) rfl (q_as (v := .bool (decide (M1 = M2))) (q_call (args := #[lv1, lv2]) own10 rfl rfl (fun w1 hw1 => SameG_c w1 (Go.K.hp w1) (Hp.le_refl _) (hlv1.mono hw1.phi) (hlv2.mono hw1.phi))) (congrArg Value.bool (decide_eq_true (hM1.unique hM2 (fun g => Or.comm))))) ?_
    refine RW.q (v := .bool true) rfl (q_move rfl) ?_
    refine RW.gl (v := lv1) rfl rfl rfl (q_move rfl) ?_
    refine RW.gl (v := v3) rfl rfl rfl (q_move rfl) ?_
    refine RW.effg (fun x : {y : Value × Hp // (fun r Ψ => ∃ M, RepSl Ψ M r ∧ Se.Mrg M1 zs M) y.1 y.2 ∧ Hp.le Φ2 y.2} => x.1.1) (fun x => St ⟨w, Φ, []⟩ x.1.2 []) rfl rfl rfl (e_callS (T := fun r Ψ => ∃ M, RepSl Ψ M r ∧ Se.Mrg M1 zs M) (args := #[lv1, v3]) own9 rfl rfl (fun w1 hw1 => (Merge_c w1 (Go.K.hp w1) (Hp.le_refl _) (xs := M1) (ys := zs) (hlv1.mono hw1.phi) (h3.mono hw1.phi) (by omega)).mono fun _ _ => retS_up (fun _ _ _ hl ⟨M, h1, h2⟩ => ⟨M, h1.mono hl, h2⟩))) ?_
    rintro ⟨⟨lv3, Φ3⟩, hlv3, hlΦ3⟩
    replace hlv3 : ∃ M, RepSl Φ3 M lv3 ∧ Se.Mrg M1 zs M := hlv3
    replace hlΦ3 : Hp.le Φ2 Φ3 := hlΦ3
    replace h1 := h1.mono hlΦ3
    replace h2 := h2.mono hlΦ3
    replace h3 := h3.mono hlΦ3
    replace hlv1 := hlv1.mono hlΦ3
    replace hlv2 := hlv2.mono hlΦ3
    obtain ⟨M3, hlv3, hM3⟩ := hlv3
    refine RW.gl (v := v1) rfl rfl rfl (q_move rfl) ?_
    refine RW.gl (v := v2) rfl rfl rfl (q_move rfl) ?_
    refine RW.gl (v := v3) rfl rfl rfl (q_move rfl) ?_
    refine RW.effg (fun x : {y : Value × Hp // (fun r Ψ => ∃ M, RepSl Ψ M r ∧ Se.Mrg ys zs M) y.1 y.2 ∧ Hp.le Φ3 y.2} => x.1.1) (fun x => St ⟨w, Φ, []⟩ x.1.2 []) rfl rfl rfl (e_callS (T := fun r Ψ => ∃ M, RepSl Ψ M r ∧ Se.Mrg ys zs M) (args := #[v2, v3]) own9 rfl rfl (fun w1 hw1 => (Merge_c w1 (Go.K.hp w1) (Hp.le_refl _) (xs := ys) (ys := zs) (h2.mono hw1.phi) (h3.mono hw1.phi) (by omega)).mono fun _ _ => retS_up (fun _ _ _ hl ⟨M, h1, h2⟩ => ⟨M, h1.mono hl, h2⟩))) ?_
    rintro ⟨⟨lv4, Φ4⟩, hlv4, hlΦ4⟩
    replace hlv4 : ∃ M, RepSl Φ4 M lv4 ∧ Se.Mrg ys zs M := hlv4
    replace hlΦ4 : Hp.le Φ3 Φ4 := hlΦ4
    replace h1 := h1.mono hlΦ4
    replace h2 := h2.mono hlΦ4
    replace h3 := h3.mono hlΦ4
    replace hlv1 := hlv1.mono hlΦ4
    replace hlv2 := hlv2.mono hlΦ4
    replace hlv3 := hlv3.mono hlΦ4
    obtain ⟨M4, hlv4, hM4⟩ := hlv4
    refine RW.effg (fun x : {y : Value × Hp // (fun r Ψ => ∃ M, RepSl Ψ M r ∧ Se.Mrg xs M4 M) y.1 y.2 ∧ Hp.le Φ4 y.2} => x.1.1) (fun x => St ⟨w, Φ, []⟩ x.1.2 []) rfl rfl rfl (e_callS (T := fun r Ψ => ∃ M, RepSl Ψ M r ∧ Se.Mrg xs M4 M) (args := #[v1, lv4]) own9 rfl rfl (fun w1 hw1 => (Merge_c w1 (Go.K.hp w1) (Hp.le_refl _) (xs := xs) (ys := M4) (h1.mono hw1.phi) (hlv4.mono hw1.phi) (by have h9 := hM4.len; omega)).mono fun _ _ => retS_up (fun _ _ _ hl ⟨M, h1, h2⟩ => ⟨M, h1.mono hl, h2⟩))) ?_
    rintro ⟨⟨lv5, Φ5⟩, hlv5, hlΦ5⟩
    replace hlv5 : ∃ M, RepSl Φ5 M lv5 ∧ Se.Mrg xs M4 M := hlv5
    replace hlΦ5 : Hp.le Φ4 Φ5 := hlΦ5
    replace h1 := h1.mono hlΦ5
    replace h2 := h2.mono hlΦ5
    replace h3 := h3.mono hlΦ5
    replace hlv1 := hlv1.mono hlΦ5
    replace hlv2 := hlv2.mono hlΦ5
    replace hlv3 := hlv3.mono hlΦ5
    replace hlv4 := hlv4.mono hlΦ5
    obtain ⟨M5, hlv5, hM5⟩ := hlv5
    refine RW.gl (v := .bool true) rfl rfl rfl (q_as (v := .bool (decide (M3 = M5))) (q_call (args := #[lv3, lv5]) own10 rfl rfl (fun w1 hw1 => SameG_c w1 (Go.K.hp w1) (Hp.le_refl _) (hlv3.mono hw1.phi) (hlv5.mono hw1.phi))) (congrArg Value.bool (decide_eq_true (hM3.unique hM5 (fun g => by rw [hM1.mem, hM4.mem, or_assoc]))))) ?_
    refine RW.q (v := .bool true) rfl (q_pick (t := true) rfl (fun _ => rfl) (fun hp => nomatch hp)) ?_
    refine RW.q (v := .bool true) rfl (q_assign rfl) ?_
    refine RW.nil ?_
    refine Post.then_n ?_
    refine AW.seq ?_
    have hL3 := hM3.len
    have hL4 := hM4.len
    refine AW.region ?_
    refine RW.q (v := lv1) rfl (q_move rfl) ?_
    refine RW.q (v := lv1) rfl (q_move rfl) ?_
    refine RW.eff (fun x : {y : Value × Hp // (fun r Ψ => ∃ M, RepSl Ψ M r ∧ Se.Mrg M1 M1 M) y.1 y.2 ∧ Hp.le Φ5 y.2} => x.1.1) (fun x => St ⟨w, Φ, []⟩ x.1.2 []) rfl (e_callS (T := fun r Ψ => ∃ M, RepSl Ψ M r ∧ Se.Mrg M1 M1 M) (args := #[lv1, lv1]) own9 rfl rfl (fun w1 hw1 => (Merge_c w1 (Go.K.hp w1) (Hp.le_refl _) (xs := M1) (ys := M1) (hlv1.mono hw1.phi) (hlv1.mono hw1.phi) (by omega)).mono fun _ _ => retS_up (fun _ _ _ hl ⟨M, h1, h2⟩ => ⟨M, h1.mono hl, h2⟩))) ?_
    rintro ⟨⟨lv6, Φ6⟩, hlv6, hlΦ6⟩
    replace hlv6 : ∃ M, RepSl Φ6 M lv6 ∧ Se.Mrg M1 M1 M := hlv6
    replace hlΦ6 : Hp.le Φ5 Φ6 := hlΦ6
    replace h1 := h1.mono hlΦ6
    replace h2 := h2.mono hlΦ6
    replace h3 := h3.mono hlΦ6
    replace hlv1 := hlv1.mono hlΦ6
    replace hlv2 := hlv2.mono hlΦ6
    replace hlv3 := hlv3.mono hlΦ6
    replace hlv4 := hlv4.mono hlΦ6
    replace hlv5 := hlv5.mono hlΦ6
    obtain ⟨M6, hlv6, hM6⟩ := hlv6
    refine RW.q (v := lv1) rfl (q_move rfl) ?_
    refine RW.q (v := .bool true) rfl (q_as (v := .bool (decide (M6 = M1))) (q_call (args := #[lv6, lv1]) own10 rfl rfl (fun w1 hw1 => SameG_c w1 (Go.K.hp w1) (Hp.le_refl _) (hlv6.mono hw1.phi) (hlv1.mono hw1.phi))) (congrArg Value.bool (decide_eq_true (hM6.unique hM1 (fun g => by rw [hM1.mem, or_self]))))) ?_
    refine RW.q (v := .bool true) rfl (q_move rfl) ?_
    refine RW.gl (v := lv1) rfl rfl rfl (q_move rfl) ?_
    refine RW.effg (fun x : {y : Value × Hp // (fun r Ψ => ∃ M, RepSl Ψ M r ∧ Se.Mrg M1 [] M) y.1 y.2 ∧ Hp.le Φ6 y.2} => x.1.1) (fun x => St ⟨w, Φ, []⟩ x.1.2 []) rfl rfl rfl (e_callS (T := fun r Ψ => ∃ M, RepSl Ψ M r ∧ Se.Mrg M1 [] M) (args := #[lv1, (.slice none 0 0)]) own9 rfl rfl (fun w1 hw1 => (Merge_c w1 (Go.K.hp w1) (Hp.le_refl _) (xs := M1) (ys := []) (hlv1.mono hw1.phi) repSl_nil (by simp; omega)).mono fun _ _ => retS_up (fun _ _ _ hl ⟨M, h1, h2⟩ => ⟨M, h1.mono hl, h2⟩))) ?_
    rintro ⟨⟨lv7, Φ7⟩, hlv7, hlΦ7⟩
    replace hlv7 : ∃ M, RepSl Φ7 M lv7 ∧ Se.Mrg M1 [] M := hlv7
    replace hlΦ7 : Hp.le Φ6 Φ7 := hlΦ7
    replace h1 := h1.mono hlΦ7
    replace h2 := h2.mono hlΦ7
    replace h3 := h3.mono hlΦ7
    replace hlv1 := hlv1.mono hlΦ7
    replace hlv2 := hlv2.mono hlΦ7
    replace hlv3 := hlv3.mono hlΦ7
    replace hlv4 := hlv4.mono hlΦ7
    replace hlv5 := hlv5.mono hlΦ7
    replace hlv6 := hlv6.mono hlΦ7
    obtain ⟨M7, hlv7, hM7⟩ := hlv7
    refine RW.gl (v := lv1) rfl rfl rfl (q_move rfl) ?_
    refine RW.gl (v := .bool true) rfl rfl rfl (q_as (v := .bool (decide (M7 = M1))) (q_call (args := #[lv7, lv1]) own10 rfl rfl (fun w1 hw1 => SameG_c w1 (Go.K.hp w1) (Hp.le_refl _) (hlv7.mono hw1.phi) (hlv1.mono hw1.phi))) (congrArg Value.bool (decide_eq_true (hM7.unique hM1 (fun g => by rw [hM1.mem]; simp))))) ?_
    refine RW.q (v := .bool true) rfl (q_pick (t := true) rfl (fun _ => rfl) (fun hp => nomatch hp)) ?_
    refine RW.q (v := .bool true) rfl (q_move rfl) ?_
    refine RW.gl (v := lv1) rfl rfl rfl (q_move rfl) ?_
    refine RW.gl (v := v1) rfl rfl rfl (q_move rfl) ?_
    refine RW.effg (fun x : {y : Value × Hp // (fun r Ψ => ∃ M, RepSl Ψ M r ∧ Se.Mrg M1 xs M) y.1 y.2 ∧ Hp.le Φ7 y.2} => x.1.1) (fun x => St ⟨w, Φ, []⟩ x.1.2 []) rfl rfl rfl (e_callS (T := fun r Ψ => ∃ M, RepSl Ψ M r ∧ Se.Mrg M1 xs M) (args := #[lv1, v1]) own9 rfl rfl (fun w1 hw1 => (Merge_c w1 (Go.K.hp w1) (Hp.le_refl _) (xs := M1) (ys := xs) (hlv1.mono hw1.phi) (h1.mono hw1.phi) (by omega)).mono fun _ _ => retS_up (fun _ _ _ hl ⟨M, h1, h2⟩ => ⟨M, h1.mono hl, h2⟩))) ?_
    rintro ⟨⟨lv8, Φ8⟩, hlv8, hlΦ8⟩
    replace hlv8 : ∃ M, RepSl Φ8 M lv8 ∧ Se.Mrg M1 xs M := hlv8
    replace hlΦ8 : Hp.le Φ7 Φ8 := hlΦ8
    replace h1 := h1.mono hlΦ8
    replace h2 := h2.mono hlΦ8
    replace h3 := h3.mono hlΦ8
    replace hlv1 := hlv1.mono hlΦ8
    replace hlv2 := hlv2.mono hlΦ8
    replace hlv3 := hlv3.mono hlΦ8
    replace hlv4 := hlv4.mono hlΦ8
    replace hlv5 := hlv5.mono hlΦ8
    replace hlv6 := hlv6.mono hlΦ8
    replace hlv7 := hlv7.mono hlΦ8
    obtain ⟨M8, hlv8, hM8⟩ := hlv8
    refine RW.gl (v := lv1) rfl rfl rfl (q_move rfl) ?_
    refine RW.gl (v := .bool true) rfl rfl rfl (q_as (v := .bool (decide (M8 = M1))) (q_call (args := #[lv8, lv1]) own10 rfl rfl (fun w1 hw1 => SameG_c w1 (Go.K.hp w1) (Hp.le_refl _) (hlv8.mono hw1.phi) (hlv1.mono hw1.phi))) (congrArg Value.bool (decide_eq_true (hM8.unique hM1 (fun g => by rw [hM1.mem]; constructor <;> rintro (h | h) <;> simp_all))))) ?_
    refine RW.q (v := .bool true) rfl (q_pick (t := true) rfl (fun _ => rfl) (fun hp => nomatch hp)) ?_
    refine RW.q (v := .bool true) rfl (q_assign rfl) ?_
    refine RW.nil ?_
    refine Post.then_n ?_
    refine AW.seq ?_
    refine AW.seq ?_
    refine AW.region ?_
    refine RW.q (v := .int .i64 0) rfl (q_assign rfl) ?_
    refine RW.nil ?_
    refine Post.then_n ?_
    refine AW.block ?_
    refine AW.loop (fun s J m => ∃ (k : Nat), s = [(0, v1), (1, v2), (2, v3), (3, .int .i64 q), (9, .bool true), (10, lv1), (11, .bool true), (12, .bool true), (13, .int .i64 (k : Int))] ∧ J = St ⟨w, Φ, []⟩ Φ8 [] ∧ m = xs.length - k ∧ (k ≤ xs.length)) (s0 := _) (J1 := _) (m0 := _) ⟨0, rfl, rfl, rfl, (by omega)⟩ ⟨rfl, rfl, rfl, rfl, rfl, rfl, rfl, rfl, rfl, trivial⟩ (fun _ h => h) ?_
    rintro _ _ _ _ ⟨k, rfl, rfl, rfl, hk⟩
    refine AW.seq ?_
    refine AW.seq ?_
    refine AW.region ?_
    refine RW.q (v := .int .i64 (k : Int)) rfl (q_move rfl) ?_
    refine RW.q (v := v1) rfl (q_move rfl) ?_
    refine RW.q (v := .int .i64 ((xs.length : Nat) : Int)) rfl (q_len_sl rfl h1.sl Try.underlying22) ?_
    refine RW.q (v := .bool (decide ((k : Int) < ((xs.length : Nat) : Int)))) rfl (q_lss rfl rfl) ?_
    refine RW.nil ?_
    refine Post.then_n ?_
    refine AW.cond (b := decide ((k : Int) < ((xs.length : Nat) : Int))) rfl (fun hc2 => ?_) (fun hc2 => ?_)
    · simp [-List.getD_eq_getElem?_getD] at hc2
      refine AW.skip ?_
      refine Post.then_n ?_
      refine AW.seq ?_
      refine AW.block ?_
      refine AW.seq ?_
      refine AW.region ?_
      refine RW.q (v := lv1) rfl (q_move rfl) ?_
      refine RW.q (v := v1) rfl (q_move rfl) ?_
      refine RW.q (v := .int .i64 (k : Int)) rfl (q_move rfl) ?_
      refine RW.q (v := .pointer (some (Value.at v1 (k * 5)))) rfl (q_indexAddr rfl rfl h1.sl Try.underlying22 sz29 (by omega) (by omega) rfl) ?_
      refine RW.q (v := .agg #[.int .i64 ((xs.getD k default).Gauge), .int .i64 ((xs.getD k default).Seq), .int .i64 ((xs.getD k default).Clock), .int .i64 ((xs.getD k default).Value), .string ((xs.getD k default).Tag)]) rfl (q_loadAgg rfl Try.underlying29 rfl sz29 rfl (Cells.repE h1 (by omega) rfl)) ?_
      refine RW.q (v := .bool true) rfl (q_as (v := .bool (decide ((xs.getD k default) ∈ M1))) (q_call (args := #[lv1, .agg #[.int .i64 ((xs.getD k default).Gauge), .int .i64 ((xs.getD k default).Seq), .int .i64 ((xs.getD k default).Clock), .int .i64 ((xs.getD k default).Value), .string ((xs.getD k default).Tag)]]) own11 rfl rfl (fun w1 hw1 => has_c w1 (Go.K.hp w1) (Hp.le_refl _) (hlv1.mono hw1.phi) (t := (xs.getD k default)))) (congrArg Value.bool (decide_eq_true ((hM1.mem _).2 (Or.inl (Se.getD_mem (by omega))))))) ?_
      refine RW.q (v := .bool false) rfl (q_not (b := true) rfl) ?_
      refine RW.nil ?_
      refine Post.then_n ?_
      refine AW.cond (b := false) rfl (fun hc3 => ?_) (fun hc3 => ?_)
      · cases hc3
      · skip
        refine AW.skip ?_
        refine Post.blk_n (Post.then_n ?_)
        refine AW.region ?_
        refine RW.q (v := .int .i64 (k : Int)) rfl (q_move rfl) ?_
        refine RW.q (v := .int .i64 ((k + 1 : Nat) : Int)) rfl (q_add rfl rfl (by omega) (by unfold I64; omega)) ?_
        refine RW.q (v := .int .i64 ((k + 1 : Nat) : Int)) rfl (q_assign rfl) ?_
        refine RW.nil ?_
        exact Post.back (s' := _) (J' := _) (m' := _) (by omega) ⟨k + 1, rfl, rfl, rfl, (by omega)⟩ ⟨rfl, rfl, rfl, rfl, rfl, rfl, rfl, rfl, rfl, trivial⟩ (fun _ h => h)
    · simp [-List.getD_eq_getElem?_getD] at hc2
      refine AW.exit ?_
      refine Post.then_x (Post.then_x (Post.blk_hit (Post.then_n ?_)))
      refine AW.seq ?_
      refine AW.seq ?_
      refine AW.region ?_
      refine RW.q (v := .int .i64 0) rfl (q_assign rfl) ?_
      refine RW.nil ?_
      refine Post.then_n ?_
      refine AW.block ?_
      refine AW.loop (fun s J m => ∃ (k : Nat), s = [(0, v1), (1, v2), (2, v3), (3, .int .i64 q), (9, .bool true), (10, lv1), (11, .bool true), (12, .bool true), (14, .int .i64 (k : Int))] ∧ J = St ⟨w, Φ, []⟩ Φ8 [] ∧ m = M1.length - k ∧ (k ≤ M1.length)) (s0 := _) (J1 := _) (m0 := _) ⟨0, rfl, rfl, rfl, (by omega)⟩ ⟨rfl, rfl, rfl, rfl, rfl, rfl, rfl, rfl, rfl, trivial⟩ (fun _ h => h) ?_
      rintro _ _ _ _ ⟨k, rfl, rfl, rfl, hk⟩
      refine AW.seq ?_
      refine AW.seq ?_
      refine AW.region ?_
      refine RW.q (v := .int .i64 (k : Int)) rfl (q_move rfl) ?_
      refine RW.q (v := lv1) rfl (q_move rfl) ?_
      refine RW.q (v := .int .i64 ((M1.length : Nat) : Int)) rfl (q_len_sl rfl hlv1.sl Try.underlying22) ?_
      refine RW.q (v := .bool (decide ((k : Int) < ((M1.length : Nat) : Int)))) rfl (q_lss rfl rfl) ?_
      refine RW.nil ?_
      refine Post.then_n ?_
      refine AW.cond (b := decide ((k : Int) < ((M1.length : Nat) : Int))) rfl (fun hc4 => ?_) (fun hc4 => ?_)
      · simp [-List.getD_eq_getElem?_getD] at hc4
        refine AW.skip ?_
        refine Post.then_n ?_
        refine AW.seq ?_
        refine AW.block ?_
        refine AW.seq ?_
        refine AW.draw (J0 := St ⟨w, Φ, []⟩ Φ8 []) [.q, .q, .q, .q, .q, .q, .q, .q, .q, .q, .q, .q, .q, .q, .q, .q, .q, .q, .q, .q, .q, .q, .q, .q, .q, .q, .q, .q, .q, .q, .q, .q, .q, .q, .q, .q, .q, .q, .q, .q, .q, .q, .q, .q, .q, .q, .q, .q, .q, .q, .q, .q, .q, .q, .q, .q, .q, .q, .q, .q, .q, .q, .q, .q, .q, .q, .q, .q, .q, .q, .q, .q, .q, .q, .q, .q] [0, 1, 2, 3, 4, 5, 6, 7, 8, 9, 10, 11, 12, 13, 14, 15, 16, 17, 18, 19, 20, 21, 22, 23, 24, 25, 26, 27, 28, 29, 30, 31, 32, 33, 34, 35, 36, 37, 38, 39, 40, 41, 42, 43, 44, 45, 46, 47, 48, 49, 50, 51, 52, 53, 54, 55, 56, 57, 58, 59, 60, 61, 62, 63, 64, 65, 66, 67, 68, 69, 70, 71, 72, 73, 74, 75] hmix (by kernel_rfl) ?_
        refine DW.q (v := v1) (fun _ h => h) rfl (q_move rfl) ?_
        refine DW.q (v := lv1) (fun _ h => h) rfl (q_move rfl) ?_
        refine DW.q (v := .int .i64 (k : Int)) (fun _ h => h) rfl (q_move rfl) ?_
        refine DW.q (v := .pointer (some (Value.at lv1 (k * 5)))) (fun _ h => h) rfl (q_indexAddr rfl rfl hlv1.sl Try.underlying22 sz29 (by omega) (by omega) rfl) ?_
        refine DW.q (v := .agg #[.int .i64 ((M1.getD k default).Gauge), .int .i64 ((M1.getD k default).Seq), .int .i64 ((M1.getD k default).Clock), .int .i64 ((M1.getD k default).Value), .string ((M1.getD k default).Tag)]) (fun _ h => h) rfl (q_loadAgg rfl Try.underlying29 rfl sz29 rfl (Cells.repE hlv1 (by omega) rfl)) ?_
        refine DW.q (v := .bool (decide ((M1.getD k default) ∈ xs))) (fun _ h => h) rfl (q_call (args := #[v1, .agg #[.int .i64 ((M1.getD k default).Gauge), .int .i64 ((M1.getD k default).Seq), .int .i64 ((M1.getD k default).Clock), .int .i64 ((M1.getD k default).Value), .string ((M1.getD k default).Tag)]]) own11 rfl rfl (fun w1 hw1 => has_c w1 (Go.K.hp w1) (Hp.le_refl _) (h1.mono hw1.phi) (t := (M1.getD k default)))) ?_
        refine DW.q (v := .bool (!(decide ((M1.getD k default) ∈ xs)))) (fun _ h => h) rfl (q_not rfl) ?_
        refine DW.q (v := .bool (!(decide ((M1.getD k default) ∈ xs)))) (fun _ h => h) rfl (q_move rfl) ?_
        refine DW.g (b := (!(decide ((M1.getD k default) ∈ xs)))) (v := v2) (fun _ h => h) rfl rfl rfl (fun h => q_move rfl) ?_
        refine DW.g (b := (!(decide ((M1.getD k default) ∈ xs)))) (v := lv1) (fun _ h => h) rfl rfl rfl (fun h => q_move rfl) ?_
        refine DW.g (b := (!(decide ((M1.getD k default) ∈ xs)))) (v := .int .i64 (k : Int)) (fun _ h => h) rfl rfl rfl (fun h => q_move rfl) ?_
        refine DW.g (b := (!(decide ((M1.getD k default) ∈ xs)))) (v := .pointer (some (Value.at lv1 (k * 5)))) (fun _ h => h) rfl rfl rfl (fun h => q_indexAddr (gv_pos h) (gv_pos h) hlv1.sl Try.underlying22 sz29 (by (try simp [-List.getD_eq_getElem?_getD] at h); omega) (by (try simp [-List.getD_eq_getElem?_getD] at h); omega) rfl) ?_
        refine DW.g (b := (!(decide ((M1.getD k default) ∈ xs)))) (v := .agg #[.int .i64 ((M1.getD k default).Gauge), .int .i64 ((M1.getD k default).Seq), .int .i64 ((M1.getD k default).Clock), .int .i64 ((M1.getD k default).Value), .string ((M1.getD k default).Tag)]) (fun _ h => h) rfl rfl rfl (fun h => q_loadAgg (gv_pos h) Try.underlying29 rfl sz29 rfl (Cells.repE hlv1 (by (try simp [-List.getD_eq_getElem?_getD] at h); omega) rfl)) ?_
        refine DW.g (b := (!(decide ((M1.getD k default) ∈ xs)))) (v := .bool (decide ((M1.getD k default) ∈ ys))) (fun _ h => h) rfl rfl rfl (fun h => q_call (args := #[v2, .agg #[.int .i64 ((M1.getD k default).Gauge), .int .i64 ((M1.getD k default).Seq), .int .i64 ((M1.getD k default).Clock), .int .i64 ((M1.getD k default).Value), .string ((M1.getD k default).Tag)]]) own11 rfl (args2 (gv_pos h) (gv_pos h)) (fun w1 hw1 => has_c w1 (Go.K.hp w1) (Hp.le_refl _) (h2.mono hw1.phi) (t := (M1.getD k default)))) ?_
        refine DW.g (b := (!(decide ((M1.getD k default) ∈ xs)))) (v := .bool (!(decide ((M1.getD k default) ∈ ys)))) (fun _ h => h) rfl rfl rfl (fun h => q_not (gv_pos h)) ?_
        refine DW.q (v := .bool ((!(decide ((M1.getD k default) ∈ xs))) && (!(decide ((M1.getD k default) ∈ ys))))) (fun _ h => h) rfl (q_pick rfl (fun hp => (gv_pos hp).trans (pkAndT hp)) (fun hp => pkAndF hp)) ?_
        refine DW.q (v := .bool ((!(decide ((M1.getD k default) ∈ xs))) && (!(decide ((M1.getD k default) ∈ ys))))) (fun _ h => h) rfl (q_move rfl) ?_
        refine DW.g (b := ((!(decide ((M1.getD k default) ∈ xs))) && (!(decide ((M1.getD k default) ∈ ys))))) (v := lv1) (fun _ h => h) rfl rfl rfl (fun h => q_move rfl) ?_
        refine DW.g (b := ((!(decide ((M1.getD k default) ∈ xs))) && (!(decide ((M1.getD k default) ∈ ys))))) (v := .int .i64 (k : Int)) (fun _ h => h) rfl rfl rfl (fun h => q_move rfl) ?_
        refine DW.g (b := ((!(decide ((M1.getD k default) ∈ xs))) && (!(decide ((M1.getD k default) ∈ ys))))) (v := (subSl lv1 0 k 5)) (fun _ h => h) rfl rfl rfl (fun h => q_sliceH (v := lv1) (m := (k : Int)) (gv_pos h) (gv_pos h) hlv1.sl Try.underlying22 sz29 (by (try simp [-List.getD_eq_getElem?_getD] at h); omega) (by (try simp [-List.getD_eq_getElem?_getD] at h); omega)) ?_
        refine DW.g (b := ((!(decide ((M1.getD k default) ∈ xs))) && (!(decide ((M1.getD k default) ∈ ys))))) (v := lv1) (fun _ h => h) rfl rfl rfl (fun h => q_move rfl) ?_
        refine DW.g (b := ((!(decide ((M1.getD k default) ∈ xs))) && (!(decide ((M1.getD k default) ∈ ys))))) (v := .int .i64 (k : Int)) (fun _ h => h) rfl rfl rfl (fun h => q_move rfl) ?_
        refine DW.g (b := ((!(decide ((M1.getD k default) ∈ xs))) && (!(decide ((M1.getD k default) ∈ ys))))) (v := .pointer (some (Value.at lv1 (k * 5)))) (fun _ h => h) rfl rfl rfl (fun h => q_indexAddr (gv_pos h) (gv_pos h) hlv1.sl Try.underlying22 sz29 (by (try simp [-List.getD_eq_getElem?_getD] at h); omega) (by (try simp [-List.getD_eq_getElem?_getD] at h); omega) rfl) ?_
        refine DW.g (b := ((!(decide ((M1.getD k default) ∈ xs))) && (!(decide ((M1.getD k default) ∈ ys))))) (v := .agg #[.int .i64 ((M1.getD k default).Gauge), .int .i64 ((M1.getD k default).Seq), .int .i64 ((M1.getD k default).Clock), .int .i64 ((M1.getD k default).Value), .string ((M1.getD k default).Tag)]) (fun _ h => h) rfl rfl rfl (fun h => q_loadAgg (gv_pos h) Try.underlying29 rfl sz29 rfl (Cells.repE hlv1 (by (try simp [-List.getD_eq_getElem?_getD] at h); omega) rfl)) ?_
        refine DW.g (b := ((!(decide ((M1.getD k default) ∈ xs))) && (!(decide ((M1.getD k default) ∈ ys))))) (v := .bool (decide ((M1.getD k default) ∈ ((M1.take k).drop 0)))) (fun _ h => h) rfl rfl rfl (fun h => q_call (args := #[(subSl lv1 0 k 5), .agg #[.int .i64 ((M1.getD k default).Gauge), .int .i64 ((M1.getD k default).Seq), .int .i64 ((M1.getD k default).Clock), .int .i64 ((M1.getD k default).Value), .string ((M1.getD k default).Tag)]]) own11 rfl (args2 (gv_pos h) (gv_pos h)) (fun w1 hw1 => has_c w1 (Go.K.hp w1) (Hp.le_refl _) ((hlv1.part (l := 0) (m := k) (by (try simp [-List.getD_eq_getElem?_getD] at h); omega) (by (try simp [-List.getD_eq_getElem?_getD] at h); omega)).mono hw1.phi) (t := (M1.getD k default)))) ?_
        refine DW.q (v := .bool (((!(decide ((M1.getD k default) ∈ xs))) && (!(decide ((M1.getD k default) ∈ ys)))) || (decide ((M1.getD k default) ∈ ((M1.take k).drop 0))))) (fun _ h => h) rfl (q_pick rfl (fun hp => pkOrT hp) (fun hp => (gv_pos hp).trans (pkOrF hp))) ?_
        refine DW.q (v := .bool (((!(decide ((M1.getD k default) ∈ xs))) && (!(decide ((M1.getD k default) ∈ ys)))) || (decide ((M1.getD k default) ∈ ((M1.take k).drop 0))))) (fun _ h => h) rfl (q_move rfl) ?_
        refine DW.g (b := (((!(decide ((M1.getD k default) ∈ xs))) && (!(decide ((M1.getD k default) ∈ ys)))) || (decide ((M1.getD k default) ∈ ((M1.take k).drop 0))))) (v := .int .i64 (k : Int)) (fun _ h => h) rfl rfl rfl (fun h => q_move rfl) ?_
        refine DW.g (b := (((!(decide ((M1.getD k default) ∈ xs))) && (!(decide ((M1.getD k default) ∈ ys)))) || (decide ((M1.getD k default) ∈ ((M1.take k).drop 0))))) (v := .bool (decide ((0 : Int) < (k : Int)))) (fun _ h => h) rfl rfl rfl (fun h => q_gtr (gv_pos h) rfl) ?_
        refine DW.g (b := (((!(decide ((M1.getD k default) ∈ xs))) && (!(decide ((M1.getD k default) ∈ ys)))) || (decide ((M1.getD k default) ∈ ((M1.take k).drop 0))))) (v := .bool (decide ((0 : Int) < (k : Int)))) (fun _ h => h) rfl rfl rfl (fun h => q_move (gv_pos h)) ?_
        refine DW.g2 (b1 := (((!(decide ((M1.getD k default) ∈ xs))) && (!(decide ((M1.getD k default) ∈ ys)))) || (decide ((M1.getD k default) ∈ ((M1.take k).drop 0))))) (b2 := (decide ((0 : Int) < (k : Int)))) (v := lv1) (fun _ h => h) rfl rfl rfl (fun hg1 hg2 => q_move rfl) ?_
        refine DW.g2 (b1 := (((!(decide ((M1.getD k default) ∈ xs))) && (!(decide ((M1.getD k default) ∈ ys)))) || (decide ((M1.getD k default) ∈ ((M1.take k).drop 0))))) (b2 := (decide ((0 : Int) < (k : Int)))) (v := .int .i64 (k : Int)) (fun _ h => h) rfl rfl rfl (fun hg1 hg2 => q_move rfl) ?_
        refine DW.g2 (b1 := (((!(decide ((M1.getD k default) ∈ xs))) && (!(decide ((M1.getD k default) ∈ ys)))) || (decide ((M1.getD k default) ∈ ((M1.take k).drop 0))))) (b2 := (decide ((0 : Int) < (k : Int)))) (v := .int .i64 ((k : Int) - 1)) (fun _ h => h) rfl rfl rfl (fun hg1 hg2 => q_sub ((gv_pos hg1).trans (gv_pos hg2)) rfl (by (try simp [-List.getD_eq_getElem?_getD] at hg1); (try simp [-List.getD_eq_getElem?_getD] at hg2); omega) (by (try simp [-List.getD_eq_getElem?_getD] at hg1); (try simp [-List.getD_eq_getElem?_getD] at hg2); unfold I64; omega)) ?_
        refine DW.g2 (b1 := (((!(decide ((M1.getD k default) ∈ xs))) && (!(decide ((M1.getD k default) ∈ ys)))) || (decide ((M1.getD k default) ∈ ((M1.take k).drop 0))))) (b2 := (decide ((0 : Int) < (k : Int)))) (v := .pointer (some (Value.at lv1 ((((k : Int) - 1).toNat) * 5)))) (fun _ h => h) rfl rfl rfl (fun hg1 hg2 => q_indexAddr ((gv_pos hg1).trans (gv_pos hg2)) ((gv_pos hg1).trans (gv_pos hg2)) hlv1.sl Try.underlying22 sz29 (by (try simp [-List.getD_eq_getElem?_getD] at hg1); (try simp [-List.getD_eq_getElem?_getD] at hg2); omega) (by (try simp [-List.getD_eq_getElem?_getD] at hg1); (try simp [-List.getD_eq_getElem?_getD] at hg2); omega) rfl) ?_
        refine DW.g2 (b1 := (((!(decide ((M1.getD k default) ∈ xs))) && (!(decide ((M1.getD k default) ∈ ys)))) || (decide ((M1.getD k default) ∈ ((M1.take k).drop 0))))) (b2 := (decide ((0 : Int) < (k : Int)))) (v := .pointer (some (Value.at lv1 ((((k : Int) - 1).toNat) * 5 + 0)))) (fun _ h => h) rfl rfl rfl (fun hg1 hg2 => q_fieldAddr ((gv_pos hg1).trans (gv_pos hg2)) Try.underlying29 rfl sz3 at_add) ?_
        refine DW.g2 (b1 := (((!(decide ((M1.getD k default) ∈ xs))) && (!(decide ((M1.getD k default) ∈ ys)))) || (decide ((M1.getD k default) ∈ ((M1.take k).drop 0))))) (b2 := (decide ((0 : Int) < (k : Int)))) (v := .int .i64 ((M1.getD (((k : Int) - 1).toNat) default).Gauge)) (fun _ h => h) rfl rfl rfl (fun hg1 hg2 => q_load ((gv_pos hg1).trans (gv_pos hg2)) Try.underlying3 rfl (Cell.repE (j := 0) hlv1 (by (try simp [-List.getD_eq_getElem?_getD] at hg1); (try simp [-List.getD_eq_getElem?_getD] at hg2); omega) rfl)) ?_
        refine DW.g2 (b1 := (((!(decide ((M1.getD k default) ∈ xs))) && (!(decide ((M1.getD k default) ∈ ys)))) || (decide ((M1.getD k default) ∈ ((M1.take k).drop 0))))) (b2 := (decide ((0 : Int) < (k : Int)))) (v := lv1) (fun _ h => h) rfl rfl rfl (fun hg1 hg2 => q_move rfl) ?_
        refine DW.g2 (b1 := (((!(decide ((M1.getD k default) ∈ xs))) && (!(decide ((M1.getD k default) ∈ ys)))) || (decide ((M1.getD k default) ∈ ((M1.take k).drop 0))))) (b2 := (decide ((0 : Int) < (k : Int)))) (v := .int .i64 (k : Int)) (fun _ h => h) rfl rfl rfl (fun hg1 hg2 => q_move rfl) ?_
        refine DW.g2 (b1 := (((!(decide ((M1.getD k default) ∈ xs))) && (!(decide ((M1.getD k default) ∈ ys)))) || (decide ((M1.getD k default) ∈ ((M1.take k).drop 0))))) (b2 := (decide ((0 : Int) < (k : Int)))) (v := .pointer (some (Value.at lv1 (k * 5)))) (fun _ h => h) rfl rfl rfl (fun hg1 hg2 => q_indexAddr ((gv_pos hg1).trans (gv_pos hg2)) ((gv_pos hg1).trans (gv_pos hg2)) hlv1.sl Try.underlying22 sz29 (by (try simp [-List.getD_eq_getElem?_getD] at hg1); (try simp [-List.getD_eq_getElem?_getD] at hg2); omega) (by (try simp [-List.getD_eq_getElem?_getD] at hg1); (try simp [-List.getD_eq_getElem?_getD] at hg2); omega) rfl) ?_
        refine DW.g2 (b1 := (((!(decide ((M1.getD k default) ∈ xs))) && (!(decide ((M1.getD k default) ∈ ys)))) || (decide ((M1.getD k default) ∈ ((M1.take k).drop 0))))) (b2 := (decide ((0 : Int) < (k : Int)))) (v := .pointer (some (Value.at lv1 (k * 5 + 0)))) (fun _ h => h) rfl rfl rfl (fun hg1 hg2 => q_fieldAddr ((gv_pos hg1).trans (gv_pos hg2)) Try.underlying29 rfl sz3 at_add) ?_
        refine DW.g2 (b1 := (((!(decide ((M1.getD k default) ∈ xs))) && (!(decide ((M1.getD k default) ∈ ys)))) || (decide ((M1.getD k default) ∈ ((M1.take k).drop 0))))) (b2 := (decide ((0 : Int) < (k : Int)))) (v := .int .i64 ((M1.getD k default).Gauge)) (fun _ h => h) rfl rfl rfl (fun hg1 hg2 => q_load ((gv_pos hg1).trans (gv_pos hg2)) Try.underlying3 rfl (Cell.repE (j := 0) hlv1 (by (try simp [-List.getD_eq_getElem?_getD] at hg1); (try simp [-List.getD_eq_getElem?_getD] at hg2); omega) rfl)) ?_
        refine DW.g2 (b1 := (((!(decide ((M1.getD k default) ∈ xs))) && (!(decide ((M1.getD k default) ∈ ys)))) || (decide ((M1.getD k default) ∈ ((M1.take k).drop 0))))) (b2 := (decide ((0 : Int) < (k : Int)))) (v := .bool (decide ((M1.getD k default).Gauge < (M1.getD (((k : Int) - 1).toNat) default).Gauge))) (fun _ h => h) rfl rfl rfl (fun hg1 hg2 => q_gtr ((gv_pos hg1).trans (gv_pos hg2)) ((gv_pos hg1).trans (gv_pos hg2))) ?_
        refine DW.g (b := (((!(decide ((M1.getD k default) ∈ xs))) && (!(decide ((M1.getD k default) ∈ ys)))) || (decide ((M1.getD k default) ∈ ((M1.take k).drop 0))))) (v := .bool ((decide ((0 : Int) < (k : Int))) && (decide ((M1.getD k default).Gauge < (M1.getD (((k : Int) - 1).toNat) default).Gauge)))) (fun _ h => h) rfl rfl rfl (fun h => q_pick (gv_pos h) (fun hp => (gv_pos h).trans ((gv_pos hp).trans (pkAndT hp))) (fun hp => pkAndF hp)) ?_
        refine DW.q (v := .bool ((((!(decide ((M1.getD k default) ∈ xs))) && (!(decide ((M1.getD k default) ∈ ys)))) || (decide ((M1.getD k default) ∈ ((M1.take k).drop 0)))) || ((decide ((0 : Int) < (k : Int))) && (decide ((M1.getD k default).Gauge < (M1.getD (((k : Int) - 1).toNat) default).Gauge))))) (fun _ h => h) rfl (q_pick rfl (fun hp => pkOrT hp) (fun hp => (gv_pos hp).trans (pkOrF hp))) ?_
        refine DW.q (v := .bool ((((!(decide ((M1.getD k default) ∈ xs))) && (!(decide ((M1.getD k default) ∈ ys)))) || (decide ((M1.getD k default) ∈ ((M1.take k).drop 0)))) || ((decide ((0 : Int) < (k : Int))) && (decide ((M1.getD k default).Gauge < (M1.getD (((k : Int) - 1).toNat) default).Gauge))))) (fun _ h => h) rfl (q_move rfl) ?_
        refine DW.g (b := ((((!(decide ((M1.getD k default) ∈ xs))) && (!(decide ((M1.getD k default) ∈ ys)))) || (decide ((M1.getD k default) ∈ ((M1.take k).drop 0)))) || ((decide ((0 : Int) < (k : Int))) && (decide ((M1.getD k default).Gauge < (M1.getD (((k : Int) - 1).toNat) default).Gauge))))) (v := .int .i64 (k : Int)) (fun _ h => h) rfl rfl rfl (fun h => q_move rfl) ?_
        refine DW.g (b := ((((!(decide ((M1.getD k default) ∈ xs))) && (!(decide ((M1.getD k default) ∈ ys)))) || (decide ((M1.getD k default) ∈ ((M1.take k).drop 0)))) || ((decide ((0 : Int) < (k : Int))) && (decide ((M1.getD k default).Gauge < (M1.getD (((k : Int) - 1).toNat) default).Gauge))))) (v := .bool (decide ((0 : Int) < (k : Int)))) (fun _ h => h) rfl rfl rfl (fun h => q_gtr (gv_pos h) rfl) ?_
        refine DW.g (b := ((((!(decide ((M1.getD k default) ∈ xs))) && (!(decide ((M1.getD k default) ∈ ys)))) || (decide ((M1.getD k default) ∈ ((M1.take k).drop 0)))) || ((decide ((0 : Int) < (k : Int))) && (decide ((M1.getD k default).Gauge < (M1.getD (((k : Int) - 1).toNat) default).Gauge))))) (v := .bool (decide ((0 : Int) < (k : Int)))) (fun _ h => h) rfl rfl rfl (fun h => q_move (gv_pos h)) ?_
        refine DW.g2 (b1 := ((((!(decide ((M1.getD k default) ∈ xs))) && (!(decide ((M1.getD k default) ∈ ys)))) || (decide ((M1.getD k default) ∈ ((M1.take k).drop 0)))) || ((decide ((0 : Int) < (k : Int))) && (decide ((M1.getD k default).Gauge < (M1.getD (((k : Int) - 1).toNat) default).Gauge))))) (b2 := (decide ((0 : Int) < (k : Int)))) (v := lv1) (fun _ h => h) rfl rfl rfl (fun hg1 hg2 => q_move rfl) ?_
        refine DW.g2 (b1 := ((((!(decide ((M1.getD k default) ∈ xs))) && (!(decide ((M1.getD k default) ∈ ys)))) || (decide ((M1.getD k default) ∈ ((M1.take k).drop 0)))) || ((decide ((0 : Int) < (k : Int))) && (decide ((M1.getD k default).Gauge < (M1.getD (((k : Int) - 1).toNat) default).Gauge))))) (b2 := (decide ((0 : Int) < (k : Int)))) (v := .int .i64 (k : Int)) (fun _ h => h) rfl rfl rfl (fun hg1 hg2 => q_move rfl) ?_
        refine DW.g2 (b1 := ((((!(decide ((M1.getD k default) ∈ xs))) && (!(decide ((M1.getD k default) ∈ ys)))) || (decide ((M1.getD k default) ∈ ((M1.take k).drop 0)))) || ((decide ((0 : Int) < (k : Int))) && (decide ((M1.getD k default).Gauge < (M1.getD (((k : Int) - 1).toNat) default).Gauge))))) (b2 := (decide ((0 : Int) < (k : Int)))) (v := .int .i64 ((k : Int) - 1)) (fun _ h => h) rfl rfl rfl (fun hg1 hg2 => q_sub ((gv_pos hg1).trans (gv_pos hg2)) rfl (by (try simp [-List.getD_eq_getElem?_getD] at hg1); (try simp [-List.getD_eq_getElem?_getD] at hg2); omega) (by (try simp [-List.getD_eq_getElem?_getD] at hg1); (try simp [-List.getD_eq_getElem?_getD] at hg2); unfold I64; omega)) ?_
        refine DW.g2 (b1 := ((((!(decide ((M1.getD k default) ∈ xs))) && (!(decide ((M1.getD k default) ∈ ys)))) || (decide ((M1.getD k default) ∈ ((M1.take k).drop 0)))) || ((decide ((0 : Int) < (k : Int))) && (decide ((M1.getD k default).Gauge < (M1.getD (((k : Int) - 1).toNat) default).Gauge))))) (b2 := (decide ((0 : Int) < (k : Int)))) (v := .pointer (some (Value.at lv1 ((((k : Int) - 1).toNat) * 5)))) (fun _ h => h) rfl rfl rfl (fun hg1 hg2 => q_indexAddr ((gv_pos hg1).trans (gv_pos hg2)) ((gv_pos hg1).trans (gv_pos hg2)) hlv1.sl Try.underlying22 sz29 (by (try simp [-List.getD_eq_getElem?_getD] at hg1); (try simp [-List.getD_eq_getElem?_getD] at hg2); omega) (by (try simp [-List.getD_eq_getElem?_getD] at hg1); (try simp [-List.getD_eq_getElem?_getD] at hg2); omega) rfl) ?_
        refine DW.g2 (b1 := ((((!(decide ((M1.getD k default) ∈ xs))) && (!(decide ((M1.getD k default) ∈ ys)))) || (decide ((M1.getD k default) ∈ ((M1.take k).drop 0)))) || ((decide ((0 : Int) < (k : Int))) && (decide ((M1.getD k default).Gauge < (M1.getD (((k : Int) - 1).toNat) default).Gauge))))) (b2 := (decide ((0 : Int) < (k : Int)))) (v := .pointer (some (Value.at lv1 ((((k : Int) - 1).toNat) * 5 + 0)))) (fun _ h => h) rfl rfl rfl (fun hg1 hg2 => q_fieldAddr ((gv_pos hg1).trans (gv_pos hg2)) Try.underlying29 rfl sz3 at_add) ?_
        refine DW.g2 (b1 := ((((!(decide ((M1.getD k default) ∈ xs))) && (!(decide ((M1.getD k default) ∈ ys)))) || (decide ((M1.getD k default) ∈ ((M1.take k).drop 0)))) || ((decide ((0 : Int) < (k : Int))) && (decide ((M1.getD k default).Gauge < (M1.getD (((k : Int) - 1).toNat) default).Gauge))))) (b2 := (decide ((0 : Int) < (k : Int)))) (v := .int .i64 ((M1.getD (((k : Int) - 1).toNat) default).Gauge)) (fun _ h => h) rfl rfl rfl (fun hg1 hg2 => q_load ((gv_pos hg1).trans (gv_pos hg2)) Try.underlying3 rfl (Cell.repE (j := 0) hlv1 (by (try simp [-List.getD_eq_getElem?_getD] at hg1); (try simp [-List.getD_eq_getElem?_getD] at hg2); omega) rfl)) ?_
        refine DW.g2 (b1 := ((((!(decide ((M1.getD k default) ∈ xs))) && (!(decide ((M1.getD k default) ∈ ys)))) || (decide ((M1.getD k default) ∈ ((M1.take k).drop 0)))) || ((decide ((0 : Int) < (k : Int))) && (decide ((M1.getD k default).Gauge < (M1.getD (((k : Int) - 1).toNat) default).Gauge))))) (b2 := (decide ((0 : Int) < (k : Int)))) (v := lv1) (fun _ h => h) rfl rfl rfl (fun hg1 hg2 => q_move rfl) ?_
        refine DW.g2 (b1 := ((((!(decide ((M1.getD k default) ∈ xs))) && (!(decide ((M1.getD k default) ∈ ys)))) || (decide ((M1.getD k default) ∈ ((M1.take k).drop 0)))) || ((decide ((0 : Int) < (k : Int))) && (decide ((M1.getD k default).Gauge < (M1.getD (((k : Int) - 1).toNat) default).Gauge))))) (b2 := (decide ((0 : Int) < (k : Int)))) (v := .int .i64 (k : Int)) (fun _ h => h) rfl rfl rfl (fun hg1 hg2 => q_move rfl) ?_
        refine DW.g2 (b1 := ((((!(decide ((M1.getD k default) ∈ xs))) && (!(decide ((M1.getD k default) ∈ ys)))) || (decide ((M1.getD k default) ∈ ((M1.take k).drop 0)))) || ((decide ((0 : Int) < (k : Int))) && (decide ((M1.getD k default).Gauge < (M1.getD (((k : Int) - 1).toNat) default).Gauge))))) (b2 := (decide ((0 : Int) < (k : Int)))) (v := .pointer (some (Value.at lv1 (k * 5)))) (fun _ h => h) rfl rfl rfl (fun hg1 hg2 => q_indexAddr ((gv_pos hg1).trans (gv_pos hg2)) ((gv_pos hg1).trans (gv_pos hg2)) hlv1.sl Try.underlying22 sz29 (by (try simp [-List.getD_eq_getElem?_getD] at hg1); (try simp [-List.getD_eq_getElem?_getD] at hg2); omega) (by (try simp [-List.getD_eq_getElem?_getD] at hg1); (try simp [-List.getD_eq_getElem?_getD] at hg2); omega) rfl) ?_
        refine DW.g2 (b1 := ((((!(decide ((M1.getD k default) ∈ xs))) && (!(decide ((M1.getD k default) ∈ ys)))) || (decide ((M1.getD k default) ∈ ((M1.take k).drop 0)))) || ((decide ((0 : Int) < (k : Int))) && (decide ((M1.getD k default).Gauge < (M1.getD (((k : Int) - 1).toNat) default).Gauge))))) (b2 := (decide ((0 : Int) < (k : Int)))) (v := .pointer (some (Value.at lv1 (k * 5 + 0)))) (fun _ h => h) rfl rfl rfl (fun hg1 hg2 => q_fieldAddr ((gv_pos hg1).trans (gv_pos hg2)) Try.underlying29 rfl sz3 at_add) ?_
        refine DW.g2 (b1 := ((((!(decide ((M1.getD k default) ∈ xs))) && (!(decide ((M1.getD k default) ∈ ys)))) || (decide ((M1.getD k default) ∈ ((M1.take k).drop 0)))) || ((decide ((0 : Int) < (k : Int))) && (decide ((M1.getD k default).Gauge < (M1.getD (((k : Int) - 1).toNat) default).Gauge))))) (b2 := (decide ((0 : Int) < (k : Int)))) (v := .int .i64 ((M1.getD k default).Gauge)) (fun _ h => h) rfl rfl rfl (fun hg1 hg2 => q_load ((gv_pos hg1).trans (gv_pos hg2)) Try.underlying3 rfl (Cell.repE (j := 0) hlv1 (by (try simp [-List.getD_eq_getElem?_getD] at hg1); (try simp [-List.getD_eq_getElem?_getD] at hg2); omega) rfl)) ?_
        refine DW.g2 (b1 := ((((!(decide ((M1.getD k default) ∈ xs))) && (!(decide ((M1.getD k default) ∈ ys)))) || (decide ((M1.getD k default) ∈ ((M1.take k).drop 0)))) || ((decide ((0 : Int) < (k : Int))) && (decide ((M1.getD k default).Gauge < (M1.getD (((k : Int) - 1).toNat) default).Gauge))))) (b2 := (decide ((0 : Int) < (k : Int)))) (v := .bool (decide ((M1.getD (((k : Int) - 1).toNat) default).Gauge = (M1.getD k default).Gauge))) (fun _ h => h) rfl rfl rfl (fun hg1 hg2 => q_eql ((gv_pos hg1).trans (gv_pos hg2)) ((gv_pos hg1).trans (gv_pos hg2))) ?_
        refine DW.g (b := ((((!(decide ((M1.getD k default) ∈ xs))) && (!(decide ((M1.getD k default) ∈ ys)))) || (decide ((M1.getD k default) ∈ ((M1.take k).drop 0)))) || ((decide ((0 : Int) < (k : Int))) && (decide ((M1.getD k default).Gauge < (M1.getD (((k : Int) - 1).toNat) default).Gauge))))) (v := .bool ((decide ((0 : Int) < (k : Int))) && (decide ((M1.getD (((k : Int) - 1).toNat) default).Gauge = (M1.getD k default).Gauge)))) (fun _ h => h) rfl rfl rfl (fun h => q_pick (gv_pos h) (fun hp => (gv_pos h).trans ((gv_pos hp).trans (pkAndT hp))) (fun hp => pkAndF hp)) ?_
        refine DW.g (b := ((((!(decide ((M1.getD k default) ∈ xs))) && (!(decide ((M1.getD k default) ∈ ys)))) || (decide ((M1.getD k default) ∈ ((M1.take k).drop 0)))) || ((decide ((0 : Int) < (k : Int))) && (decide ((M1.getD k default).Gauge < (M1.getD (((k : Int) - 1).toNat) default).Gauge))))) (v := .bool ((decide ((0 : Int) < (k : Int))) && (decide ((M1.getD (((k : Int) - 1).toNat) default).Gauge = (M1.getD k default).Gauge)))) (fun _ h => h) rfl rfl rfl (fun h => q_move (gv_pos h)) ?_
        refine DW.g2 (b1 := ((((!(decide ((M1.getD k default) ∈ xs))) && (!(decide ((M1.getD k default) ∈ ys)))) || (decide ((M1.getD k default) ∈ ((M1.take k).drop 0)))) || ((decide ((0 : Int) < (k : Int))) && (decide ((M1.getD k default).Gauge < (M1.getD (((k : Int) - 1).toNat) default).Gauge))))) (b2 := ((decide ((0 : Int) < (k : Int))) && (decide ((M1.getD (((k : Int) - 1).toNat) default).Gauge = (M1.getD k default).Gauge)))) (v := lv1) (fun _ h => h) rfl rfl rfl (fun hg1 hg2 => q_move rfl) ?_
        refine DW.g2 (b1 := ((((!(decide ((M1.getD k default) ∈ xs))) && (!(decide ((M1.getD k default) ∈ ys)))) || (decide ((M1.getD k default) ∈ ((M1.take k).drop 0)))) || ((decide ((0 : Int) < (k : Int))) && (decide ((M1.getD k default).Gauge < (M1.getD (((k : Int) - 1).toNat) default).Gauge))))) (b2 := ((decide ((0 : Int) < (k : Int))) && (decide ((M1.getD (((k : Int) - 1).toNat) default).Gauge = (M1.getD k default).Gauge)))) (v := .int .i64 (k : Int)) (fun _ h => h) rfl rfl rfl (fun hg1 hg2 => q_move rfl) ?_
        refine DW.g2 (b1 := ((((!(decide ((M1.getD k default) ∈ xs))) && (!(decide ((M1.getD k default) ∈ ys)))) || (decide ((M1.getD k default) ∈ ((M1.take k).drop 0)))) || ((decide ((0 : Int) < (k : Int))) && (decide ((M1.getD k default).Gauge < (M1.getD (((k : Int) - 1).toNat) default).Gauge))))) (b2 := ((decide ((0 : Int) < (k : Int))) && (decide ((M1.getD (((k : Int) - 1).toNat) default).Gauge = (M1.getD k default).Gauge)))) (v := .int .i64 ((k : Int) - 1)) (fun _ h => h) rfl rfl rfl (fun hg1 hg2 => q_sub ((gv_pos hg1).trans (gv_pos hg2)) rfl (by (try simp [-List.getD_eq_getElem?_getD] at hg1); (try simp [-List.getD_eq_getElem?_getD] at hg2); omega) (by (try simp [-List.getD_eq_getElem?_getD] at hg1); (try simp [-List.getD_eq_getElem?_getD] at hg2); unfold I64; omega)) ?_
        refine DW.g2 (b1 := ((((!(decide ((M1.getD k default) ∈ xs))) && (!(decide ((M1.getD k default) ∈ ys)))) || (decide ((M1.getD k default) ∈ ((M1.take k).drop 0)))) || ((decide ((0 : Int) < (k : Int))) && (decide ((M1.getD k default).Gauge < (M1.getD (((k : Int) - 1).toNat) default).Gauge))))) (b2 := ((decide ((0 : Int) < (k : Int))) && (decide ((M1.getD (((k : Int) - 1).toNat) default).Gauge = (M1.getD k default).Gauge)))) (v := .pointer (some (Value.at lv1 ((((k : Int) - 1).toNat) * 5)))) (fun _ h => h) rfl rfl rfl (fun hg1 hg2 => q_indexAddr ((gv_pos hg1).trans (gv_pos hg2)) ((gv_pos hg1).trans (gv_pos hg2)) hlv1.sl Try.underlying22 sz29 (by (try simp [-List.getD_eq_getElem?_getD] at hg1); (try simp [-List.getD_eq_getElem?_getD] at hg2); omega) (by (try simp [-List.getD_eq_getElem?_getD] at hg1); (try simp [-List.getD_eq_getElem?_getD] at hg2); omega) rfl) ?_
        refine DW.g2 (b1 := ((((!(decide ((M1.getD k default) ∈ xs))) && (!(decide ((M1.getD k default) ∈ ys)))) || (decide ((M1.getD k default) ∈ ((M1.take k).drop 0)))) || ((decide ((0 : Int) < (k : Int))) && (decide ((M1.getD k default).Gauge < (M1.getD (((k : Int) - 1).toNat) default).Gauge))))) (b2 := ((decide ((0 : Int) < (k : Int))) && (decide ((M1.getD (((k : Int) - 1).toNat) default).Gauge = (M1.getD k default).Gauge)))) (v := .pointer (some (Value.at lv1 ((((k : Int) - 1).toNat) * 5 + 1)))) (fun _ h => h) rfl rfl rfl (fun hg1 hg2 => q_fieldAddr ((gv_pos hg1).trans (gv_pos hg2)) Try.underlying29 rfl sz3 at_add) ?_
        refine DW.g2 (b1 := ((((!(decide ((M1.getD k default) ∈ xs))) && (!(decide ((M1.getD k default) ∈ ys)))) || (decide ((M1.getD k default) ∈ ((M1.take k).drop 0)))) || ((decide ((0 : Int) < (k : Int))) && (decide ((M1.getD k default).Gauge < (M1.getD (((k : Int) - 1).toNat) default).Gauge))))) (b2 := ((decide ((0 : Int) < (k : Int))) && (decide ((M1.getD (((k : Int) - 1).toNat) default).Gauge = (M1.getD k default).Gauge)))) (v := .int .i64 ((M1.getD (((k : Int) - 1).toNat) default).Seq)) (fun _ h => h) rfl rfl rfl (fun hg1 hg2 => q_load ((gv_pos hg1).trans (gv_pos hg2)) Try.underlying3 rfl (Cell.repE (j := 1) hlv1 (by (try simp [-List.getD_eq_getElem?_getD] at hg1); (try simp [-List.getD_eq_getElem?_getD] at hg2); omega) rfl)) ?_
        refine DW.g2 (b1 := ((((!(decide ((M1.getD k default) ∈ xs))) && (!(decide ((M1.getD k default) ∈ ys)))) || (decide ((M1.getD k default) ∈ ((M1.take k).drop 0)))) || ((decide ((0 : Int) < (k : Int))) && (decide ((M1.getD k default).Gauge < (M1.getD (((k : Int) - 1).toNat) default).Gauge))))) (b2 := ((decide ((0 : Int) < (k : Int))) && (decide ((M1.getD (((k : Int) - 1).toNat) default).Gauge = (M1.getD k default).Gauge)))) (v := lv1) (fun _ h => h) rfl rfl rfl (fun hg1 hg2 => q_move rfl) ?_
        refine DW.g2 (b1 := ((((!(decide ((M1.getD k default) ∈ xs))) && (!(decide ((M1.getD k default) ∈ ys)))) || (decide ((M1.getD k default) ∈ ((M1.take k).drop 0)))) || ((decide ((0 : Int) < (k : Int))) && (decide ((M1.getD k default).Gauge < (M1.getD (((k : Int) - 1).toNat) default).Gauge))))) (b2 := ((decide ((0 : Int) < (k : Int))) && (decide ((M1.getD (((k : Int) - 1).toNat) default).Gauge = (M1.getD k default).Gauge)))) (v := .int .i64 (k : Int)) (fun _ h => h) rfl rfl rfl (fun hg1 hg2 => q_move rfl) ?_
        refine DW.g2 (b1 := ((((!(decide ((M1.getD k default) ∈ xs))) && (!(decide ((M1.getD k default) ∈ ys)))) || (decide ((M1.getD k default) ∈ ((M1.take k).drop 0)))) || ((decide ((0 : Int) < (k : Int))) && (decide ((M1.getD k default).Gauge < (M1.getD (((k : Int) - 1).toNat) default).Gauge))))) (b2 := ((decide ((0 : Int) < (k : Int))) && (decide ((M1.getD (((k : Int) - 1).toNat) default).Gauge = (M1.getD k default).Gauge)))) (v := .pointer (some (Value.at lv1 (k * 5)))) (fun _ h => h) rfl rfl rfl (fun hg1 hg2 => q_indexAddr ((gv_pos hg1).trans (gv_pos hg2)) ((gv_pos hg1).trans (gv_pos hg2)) hlv1.sl Try.underlying22 sz29 (by (try simp [-List.getD_eq_getElem?_getD] at hg1); (try simp [-List.getD_eq_getElem?_getD] at hg2); omega) (by (try simp [-List.getD_eq_getElem?_getD] at hg1); (try simp [-List.getD_eq_getElem?_getD] at hg2); omega) rfl) ?_
        refine DW.g2 (b1 := ((((!(decide ((M1.getD k default) ∈ xs))) && (!(decide ((M1.getD k default) ∈ ys)))) || (decide ((M1.getD k default) ∈ ((M1.take k).drop 0)))) || ((decide ((0 : Int) < (k : Int))) && (decide ((M1.getD k default).Gauge < (M1.getD (((k : Int) - 1).toNat) default).Gauge))))) (b2 := ((decide ((0 : Int) < (k : Int))) && (decide ((M1.getD (((k : Int) - 1).toNat) default).Gauge = (M1.getD k default).Gauge)))) (v := .pointer (some (Value.at lv1 (k * 5 + 1)))) (fun _ h => h) rfl rfl rfl (fun hg1 hg2 => q_fieldAddr ((gv_pos hg1).trans (gv_pos hg2)) Try.underlying29 rfl sz3 at_add) ?_
        refine DW.g2 (b1 := ((((!(decide ((M1.getD k default) ∈ xs))) && (!(decide ((M1.getD k default) ∈ ys)))) || (decide ((M1.getD k default) ∈ ((M1.take k).drop 0)))) || ((decide ((0 : Int) < (k : Int))) && (decide ((M1.getD k default).Gauge < (M1.getD (((k : Int) - 1).toNat) default).Gauge))))) (b2 := ((decide ((0 : Int) < (k : Int))) && (decide ((M1.getD (((k : Int) - 1).toNat) default).Gauge = (M1.getD k default).Gauge)))) (v := .int .i64 ((M1.getD k default).Seq)) (fun _ h => h) rfl rfl rfl (fun hg1 hg2 => q_load ((gv_pos hg1).trans (gv_pos hg2)) Try.underlying3 rfl (Cell.repE (j := 1) hlv1 (by (try simp [-List.getD_eq_getElem?_getD] at hg1); (try simp [-List.getD_eq_getElem?_getD] at hg2); omega) rfl)) ?_
        refine DW.g2 (b1 := ((((!(decide ((M1.getD k default) ∈ xs))) && (!(decide ((M1.getD k default) ∈ ys)))) || (decide ((M1.getD k default) ∈ ((M1.take k).drop 0)))) || ((decide ((0 : Int) < (k : Int))) && (decide ((M1.getD k default).Gauge < (M1.getD (((k : Int) - 1).toNat) default).Gauge))))) (b2 := ((decide ((0 : Int) < (k : Int))) && (decide ((M1.getD (((k : Int) - 1).toNat) default).Gauge = (M1.getD k default).Gauge)))) (v := .bool (decide ((M1.getD k default).Seq < (M1.getD (((k : Int) - 1).toNat) default).Seq))) (fun _ h => h) rfl rfl rfl (fun hg1 hg2 => q_gtr ((gv_pos hg1).trans (gv_pos hg2)) ((gv_pos hg1).trans (gv_pos hg2))) ?_
        refine DW.g (b := ((((!(decide ((M1.getD k default) ∈ xs))) && (!(decide ((M1.getD k default) ∈ ys)))) || (decide ((M1.getD k default) ∈ ((M1.take k).drop 0)))) || ((decide ((0 : Int) < (k : Int))) && (decide ((M1.getD k default).Gauge < (M1.getD (((k : Int) - 1).toNat) default).Gauge))))) (v := .bool (((decide ((0 : Int) < (k : Int))) && (decide ((M1.getD (((k : Int) - 1).toNat) default).Gauge = (M1.getD k default).Gauge))) && (decide ((M1.getD k default).Seq < (M1.getD (((k : Int) - 1).toNat) default).Seq)))) (fun _ h => h) rfl rfl rfl (fun h => q_pick (gv_pos h) (fun hp => (gv_pos h).trans ((gv_pos hp).trans (pkAndT hp))) (fun hp => pkAndF hp)) ?_
        refine DW.q (v := .bool (((((!(decide ((M1.getD k default) ∈ xs))) && (!(decide ((M1.getD k default) ∈ ys)))) || (decide ((M1.getD k default) ∈ ((M1.take k).drop 0)))) || ((decide ((0 : Int) < (k : Int))) && (decide ((M1.getD k default).Gauge < (M1.getD (((k : Int) - 1).toNat) default).Gauge)))) || (((decide ((0 : Int) < (k : Int))) && (decide ((M1.getD (((k : Int) - 1).toNat) default).Gauge = (M1.getD k default).Gauge))) && (decide ((M1.getD k default).Seq < (M1.getD (((k : Int) - 1).toNat) default).Seq))))) (fun _ h => h) rfl (q_pick rfl (fun hp => pkOrT hp) (fun hp => (gv_pos hp).trans (pkOrF hp))) ?_
        refine DW.nil ?_
        refine Post.then_n ?_
        refine AW.cond (b := ((((!(decide ((M1.getD k default) ∈ xs))) && (!(decide ((M1.getD k default) ∈ ys)))) || (decide ((M1.getD k default) ∈ ((M1.take k).drop 0)))) || ((decide ((0 : Int) < (k : Int))) && (decide ((M1.getD k default).Gauge < (M1.getD (((k : Int) - 1).toNat) default).Gauge)))) || (((decide ((0 : Int) < (k : Int))) && (decide ((M1.getD (((k : Int) - 1).toNat) default).Gauge = (M1.getD k default).Gauge))) && (decide ((M1.getD k default).Seq < (M1.getD (((k : Int) - 1).toNat) default).Seq)))) rfl (fun hc5 => ?_) (fun hc5 => ?_)
        · simp [-List.getD_eq_getElem?_getD] at hc5
          exfalso
          have hlt9 : 0 < k → Se.cG (M1.getD (k - 1) default) (M1.getD k default) < 0 := fun h0 => hM1.at (by omega) (by omega)
          rcases hc5 with ((h9 | h9) | h9) | h9
          · rcases (hM1.mem _).1 (Se.getD_mem (L := M1) (i := k) (by omega)) with g9 | g9
            · exact h9.1 g9
            · exact h9.2 g9
          · exact hM1.new (by omega) h9
          · have g9 := (Se.ltG_iff _ _).1 (hlt9 h9.1)
            rcases g9 with g9 | g9
            · omega
            · omega
          · have g9 := (Se.ltG_iff _ _).1 (hlt9 h9.1.1)
            rcases g9 with g9 | ⟨_, g9 | g9⟩
            · omega
            · omega
            · omega
        · simp [-List.getD_eq_getElem?_getD] at hc5
          refine AW.skip ?_
          refine Post.blk_n (Post.then_n ?_)
          refine AW.region ?_
          refine RW.q (v := .int .i64 (k : Int)) rfl (q_move rfl) ?_
          refine RW.q (v := .int .i64 ((k + 1 : Nat) : Int)) rfl (q_add rfl rfl (by omega) (by unfold I64; omega)) ?_
          refine RW.q (v := .int .i64 ((k + 1 : Nat) : Int)) rfl (q_assign rfl) ?_
          refine RW.nil ?_
          exact Post.back (s' := _) (J' := _) (m' := _) (by omega) ⟨k + 1, rfl, rfl, rfl, (by omega)⟩ ⟨rfl, rfl, rfl, rfl, rfl, rfl, rfl, rfl, rfl, trivial⟩ (fun _ h => h)
      · simp [-List.getD_eq_getElem?_getD] at hc4
        refine AW.exit ?_
        refine Post.then_x (Post.then_x (Post.blk_hit (Post.then_n ?_)))
        refine AW.seq ?_
        refine AW.region ?_
        refine RW.q (v := .bool true) rfl (q_move rfl) ?_
        refine RW.q (v := .bool true) rfl (q_move rfl) ?_
        refine RW.gl (v := .bool true) rfl rfl rfl (q_move rfl) ?_
        refine RW.q (v := .bool true) rfl (q_pick (t := true) rfl (fun _ => rfl) (fun hp => nomatch hp)) ?_
        refine RW.q (v := .bool true) rfl (q_move rfl) ?_
        refine RW.gl (v := .bool true) rfl rfl rfl (q_move rfl) ?_
        refine RW.q (v := .bool true) rfl (q_pick (t := true) rfl (fun _ => rfl) (fun hp => nomatch hp)) ?_
        refine RW.q (v := .bool true) rfl (q_move rfl) ?_
        refine RW.gl (v := v1) rfl rfl rfl (q_move rfl) ?_
        refine RW.gl (v := .int .i64 q) rfl rfl rfl (q_move rfl) ?_
        refine RW.gl (v := .bool (decide (Se.VoidP xs q))) rfl rfl rfl (q_call (args := #[v1, .int .i64 q]) own12 rfl rfl (fun w1 hw1 => Void_c w1 (Go.K.hp w1) (Hp.le_refl _) (h1.mono hw1.phi) (by assumption))) ?_
        refine RW.gl (v := .bool (!(decide (Se.VoidP xs q)))) rfl rfl rfl (q_not rfl) ?_
        refine RW.gl (v := .bool (!(decide (Se.VoidP xs q)))) rfl rfl rfl (q_move rfl) ?_
        refine RW.g (b := (!(decide (Se.VoidP xs q)))) (v := lv1) rfl rfl rfl (fun h => q_move rfl) ?_
        refine RW.g (b := (!(decide (Se.VoidP xs q)))) (v := .int .i64 q) rfl rfl rfl (fun h => q_move rfl) ?_
        refine RW.g (b := (!(decide (Se.VoidP xs q)))) (v := .bool (decide (Se.VoidP M1 q))) rfl rfl rfl (fun h => q_call (args := #[lv1, .int .i64 q]) own12 rfl (args2 (gv_pos h) (gv_pos h)) (fun w1 hw1 => Void_c w1 (Go.K.hp w1) (Hp.le_refl _) (hlv1.mono hw1.phi) (by assumption))) ?_
        refine RW.gl (v := .bool ((!(decide (Se.VoidP xs q))) || (decide (Se.VoidP M1 q)))) rfl rfl rfl (q_pick rfl (fun hp => pkOrT hp) (fun hp => (gv_pos hp).trans (pkOrF hp))) ?_
        refine RW.q (v := .bool ((!(decide (Se.VoidP xs q))) || (decide (Se.VoidP M1 q)))) rfl (q_pick (t := true) rfl (fun _ => rfl) (fun hp => nomatch hp)) ?_
        refine RW.q (v := .bool ((!(decide (Se.VoidP xs q))) || (decide (Se.VoidP M1 q)))) rfl (q_assign rfl) ?_
        refine RW.nil ?_
        refine Post.then_n ?_
        refine AW.ret ?_
        exact fin_val (v' := .bool ((!(decide (Se.VoidP xs q))) || (decide (Se.VoidP M1 q)))) rfl rfl rfl (by congr 1; simp only [Bool.or_eq_true, Bool.not_eq_true', decide_eq_false_iff_not, decide_eq_true_eq]; by_cases h9 : Se.VoidP xs q; exact Or.inr (Se.voidP_mono (fun x hx _ => (hM1.mem x).2 (Or.inl hx)) h9); exact Or.inl h9)

end Go.Proofs.Ytlljbndnodbecaa
