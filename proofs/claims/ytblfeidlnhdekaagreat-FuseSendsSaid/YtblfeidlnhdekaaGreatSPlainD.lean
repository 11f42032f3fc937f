/- Lemmas. Conditions: those of each theorem. -/
import Derived.Test.YtblfeidlnhdekaaGreatSWalkE
set_option maxRecDepth 8000
set_option maxHeartbeats 16000000
namespace Go.Proofs.YtblfeidlnhdekaaGreat
open Go Go.K Go.RowKit
attribute [local irreducible] AW RW DW Post Qt
theorem symOk {B : Bs} {Φ : Hp} {C : List Chunk} (hBE : B.E = []) {v : Value} {n : Nat} (hv : IsSl v n) (hn : n ≤ 4611686018427387903) : ∀ D, SymOk B Φ C v n D
 | 0 => fun _ _ _ _ _ _ _ _ hD _ _ _ _ => absurd hD (Nat.not_lt_zero _)
 | D + 1 => fun _ _ _ _ hL ham hmb hb hD hs1 hs2 w hW => symStep_c hBE hv hL hn (symOk hBE hv hn D) (by omega) ham hmb hb hs1 hs2 w hW
theorem symMerge_c {B : Bs} {Φ : Hp} {C : List Chunk} (hBE : B.E = []) {v : Value} {n : Nat} {L : List Bt.Reading} (hv : IsSl v n) (hL : L.length = n) (hn : n ≤ 4611686018427387903) {a mm b : Nat} (ham : a < mm) (hmb : mm < b) (hb : b ≤ n) (hs1 : Sorts.SrtI (fun r : Bt.Reading => r.Gauge) L a mm) (hs2 : Sorts.SrtI (fun r : Bt.Reading => r.Gauge) L mm b) (w : World) (hW : (St B Φ (.row v 53 4 n (flat L) :: C)).p w) :
  Calls pg 106 #[v, iV (a : Int), iV (mm : Int), iV (b : Int), .func (.func 34) #[] #[]] w fun e w' => ∃ x : {L' : List Bt.Reading // Sorts.Upd (fun r : Bt.Reading => r.Gauge) a b L L' ∧ Sorts.SrtI (fun r : Bt.Reading => r.Gauge) L' a b}, e = .returned (.tuple #[]) ∧ (St B Φ (.row v 53 4 n (flat x.1) :: C)).p w' :=
 symOk hBE hv hn (b - a + 1) L a mm b hL ham hmb hb (by omega) hs1 hs2 w hW
theorem stable_c {B : Bs} {Φ : Hp} {C : List Chunk} (hBE : B.E = []) {v : Value} {n : Nat} {L : List Bt.Reading} (hv : IsSl v n) (hL : L.length = n) (hn : n ≤ 1000000) (w : World) (hW : (St B Φ (.row v 53 4 n (flat L) :: C)).p w) :
  Calls pg 72 #[v, iV (n : Int), .func (.func 34) #[] #[]] w fun e w' => ∃ x : {L' : List Bt.Reading // Sorts.Upd (fun r : Bt.Reading => r.Gauge) 0 n L L' ∧ Sorts.SrtI (fun r : Bt.Reading => r.Gauge) L' 0 n}, e = .returned (.tuple #[]) ∧ (St B Φ (.row v 53 4 n (flat x.1) :: C)).p w' := by
 refine inJ3 63 Tryz.func72 rfl rfl (J := St B Φ ((.row v 53 4 n (flat L)) :: C)) hW ?_
 have hn9 := hn
 replace hn : n ≤ 4611686018427387903 := by omega
 refine gs14 ?_
 refine AW.lp (fun s J m => ∃ (a : Nat), ∃ (M : List Bt.Reading), s = [(0, v), (1, iV (n : Int)), (2, .func (.func 34) #[] #[]), (6, iV 20), (7, iV (a : Int)), (8, iV (((a + 20) : Nat) : Int))] ∧ J = St B Φ ((.row v 53 4 n (flat M)) :: C) ∧ m = n - a ∧ (a ≤ n) ∧ (∃ k, a = 20 * k) ∧ (Sorts.Upd (fun r : Bt.Reading => r.Gauge) 0 n L M) ∧ (Sorts.SB (fun r : Bt.Reading => r.Gauge) M 20 0 a)) ⟨0, _, rfl, rfl, rfl, (by omega), ⟨0, rfl⟩, (Sorts.Upd.refl _ _ _), Sorts.SB.nil⟩ ?_
 rintro _ _ _ _ ⟨a, M, rfl, rfl, rfl, han, hak, hU, hSB⟩
 refine gs8 ?_
 refine AW.cond rfl (fun hc1 => ?_) fun hc1 => ?_
 ·
  simp [-List.getD_eq_getElem?_getD] at hc1
  refine gs4 ?_
  have hMl := hU.len (Nat.zero_le _)
  refine gs5 ?_
  refine RW.ec rfl (fun w1 hw1 => insertion_c hBE hv (by omega) hn (by omega) (by omega) w1 hw1) rfl rfl ?_
  rintro ⟨K1, hK1⟩
  refine gs11 ?_
  refine RW.q (v := iV (((a + 20 + 20) : Nat) : Int)) rfl (q_as (v := iV (((a + 20) + 20 : Nat) : Int)) (q_add rfl rfl (by omega) (by unfold I64; omega)) (congrArg (Value.int .i64) (by omega))) ?_
  refine gs3 ?_
  have hMl := hU.len (Nat.zero_le _)
  exact Post.bk ⟨a + 20, _, rfl, rfl, rfl, (by omega), (Sorts.mul_next hak), (hU.trans (hK1.1.wide (by omega) (Nat.zero_le _) (by omega) (by omega))), (hSB.step hak (by omega) hK1.1 (Nat.le_refl _) hK1.2)⟩
 ·
  simp [-List.getD_eq_getElem?_getD] at hc1
  refine gs6 ?_
  have hMl := hU.len (Nat.zero_le _)
  refine gs5 ?_
  refine RW.ec rfl (fun w1 hw1 => insertion_c hBE hv (by omega) hn (by omega) (by omega) w1 hw1) rfl rfl ?_
  rintro ⟨K2, hK2⟩
  refine gs3 ?_
  have hMl := hU.len (Nat.zero_le _)
  have hUa : Sorts.Upd (fun r : Bt.Reading => r.Gauge) 0 n L K2 := hU.trans (hK2.1.wide (by omega) (Nat.zero_le _) (by omega) (by omega))
  have hSBa : Sorts.SB (fun r : Bt.Reading => r.Gauge) K2 20 0 n := hSB.step hak (by omega) hK2.1 (by omega) hK2.2
  refine AW.lp (fun s J m => ∃ (bz : Nat), ∃ (N : List Bt.Reading), s = [(0, v), (1, iV (n : Int)), (2, .func (.func 34) #[] #[]), (6, iV (bz : Int))] ∧ J = St B Φ ((.row v 53 4 n (flat N)) :: C) ∧ m = n - bz ∧ (0 < bz) ∧ (bz ≤ 2 * n + 20) ∧ (Sorts.Upd (fun r : Bt.Reading => r.Gauge) 0 n L N) ∧ (Sorts.SB (fun r : Bt.Reading => r.Gauge) N bz 0 n)) ⟨20, _, rfl, rfl, rfl, (by omega), (by omega), hUa, hSBa⟩ ?_
  rintro _ _ _ _ ⟨bz, N, rfl, rfl, rfl, hbz, hbn, hUN, hSN⟩
  refine gs8 ?_
  refine AW.cond rfl (fun hc2 => ?_) fun hc2 => ?_
  ·
   simp [-List.getD_eq_getElem?_getD] at hc2
   refine gs6 ?_
   refine RW.q (v := iV (((0 + 2 * bz) : Nat) : Int)) rfl (q_as (v := iV (2 * (bz : Int))) (q_mul rfl rfl rfl (by unfold I64; omega)) (congrArg (Value.int .i64) (by omega))) ?_
   refine gs6 ?_
   refine AW.lp (fun s J m => ∃ (c : Nat), ∃ (K : List Bt.Reading), s = [(0, v), (1, iV (n : Int)), (2, .func (.func 34) #[] #[]), (6, iV (bz : Int)), (7, iV (c : Int)), (8, iV (((c + 2 * bz) : Nat) : Int))] ∧ J = St B Φ ((.row v 53 4 n (flat K)) :: C) ∧ m = n - c ∧ (c ≤ n) ∧ (∃ k, c = 2 * bz * k) ∧ (Sorts.Upd (fun r : Bt.Reading => r.Gauge) 0 n L K) ∧ (Sorts.SB (fun r : Bt.Reading => r.Gauge) K (2 * bz) 0 c) ∧ (Sorts.SB (fun r : Bt.Reading => r.Gauge) K bz c n)) ⟨0, _, rfl, rfl, rfl, (by omega), ⟨0, rfl⟩, hUN, Sorts.SB.nil, hSN⟩ ?_
   rintro _ _ _ _ ⟨c, K, rfl, rfl, rfl, hcn, hck, hUK, hSK, hSR⟩
   refine gs8 ?_
   refine AW.cond rfl (fun hc3 => ?_) fun hc3 => ?_
   ·
    simp [-List.getD_eq_getElem?_getD] at hc3
    refine gs4 ?_
    have hKl := hUK.len (Nat.zero_le _)
    obtain ⟨ht1, ht2⟩ := hSR.two hck
    have hs1 := ht1 (by omega)
    have hs2 := ht2 (by omega)
    rw [Nat.min_eq_left (by omega)] at hs1
    rw [Nat.min_eq_left (by omega), show c + bz + bz = c + 2 * bz by omega] at hs2
    refine gs8 ?_
    refine RW.ec rfl (fun w1 hw1 => symMerge_c hBE hv (by omega) hn (by omega) (by omega) (by omega) hs1 hs2 w1 hw1) rfl rfl ?_
    rintro ⟨K3, hK3⟩
    refine gs11 ?_
    refine RW.q (v := iV (2 * (bz : Int))) rfl (q_mul rfl rfl rfl (by unfold I64; omega)) (RW.q (v := iV (((c + 2 * bz + 2 * bz) : Nat) : Int)) rfl (q_as (v := iV ((((c + 2 * bz) : Nat) : Int) + (2 * (bz : Int)))) (q_add rfl rfl (by omega) (by unfold I64; omega)) (congrArg (Value.int .i64) (by omega))) ?_)
    refine gs3 ?_
    exact Post.bk ⟨c + 2 * bz, _, rfl, rfl, rfl, (by omega), (Sorts.mul_next hck), (hUK.trans (hK3.1.wide (by omega) (Nat.zero_le _) (by omega) (by omega))), (hSK.step hck (by omega) hK3.1 (Nat.le_refl _) hK3.2), (hSR.right hK3.1 (by omega))⟩
   ·
    simp [-List.getD_eq_getElem?_getD] at hc3
    refine gs21 ?_
    refine AW.cond rfl (fun hc4 => ?_) fun hc4 => ?_
    ·
     simp [-List.getD_eq_getElem?_getD] at hc4
     have hKl := hUK.len (Nat.zero_le _)
     obtain ⟨ht1, ht2⟩ := hSR.two hck
     have hs1 := ht1 (by omega)
     have hs2 := ht2 (by omega)
     rw [Nat.min_eq_left (by omega)] at hs1
     rw [Nat.min_eq_right (by omega)] at hs2
     refine gs6 ?_
     refine RW.ec rfl (fun w1 hw1 => symMerge_c hBE hv (by omega) hn (by omega) (by omega) (by omega) hs1 hs2 w1 hw1) rfl rfl ?_
     rintro ⟨K4, hK4⟩
     refine gs4 ?_
     refine RW.q (v := iV (((2 * bz) : Nat) : Int)) rfl (q_as (v := iV ((bz : Int) * 2)) (q_mul rfl rfl rfl (by unfold I64; omega)) (congrArg (Value.int .i64) (by omega))) ?_
     refine gs3 ?_
     exact Post.bk ⟨2 * bz, _, rfl, rfl, rfl, (by omega), (by omega), (hUK.trans (hK4.1.wide (by omega) (Nat.zero_le _) (by omega) (by omega))), (hSK.step hck (by omega) hK4.1 (by omega) hK4.2)⟩
    ·
     simp [-List.getD_eq_getElem?_getD] at hc4
     refine gs4 ?_
     refine RW.q (v := iV (((2 * bz) : Nat) : Int)) rfl (q_as (v := iV ((bz : Int) * 2)) (q_mul rfl rfl rfl (by unfold I64; omega)) (congrArg (Value.int .i64) (by omega))) ?_
     refine gs3 ?_
     have hsc : Sorts.SrtI (fun r : Bt.Reading => r.Gauge) K c n := by
      by_cases h9 : c < n
      ·
       have h8 := (hSR.two hck).1 h9
       rwa [Nat.min_eq_right (by omega)] at h8
      ·
       exact Sorts.SrtI.small (by omega)
     exact Post.bk ⟨2 * bz, _, rfl, rfl, rfl, (by omega), (by omega), hUK, (hSK.step hck (by omega) (Sorts.Upd.refl _ _ _) (by omega) hsc)⟩
  ·
   simp [-List.getD_eq_getElem?_getD] at hc2
   refine gs4 ?_
   refine fin_none (J' := St B Φ (.row v 53 4 n (flat N) :: C)) rfl rfl (fun _ h => h) (fun w' hw' => ⟨⟨N, ⟨hUN, hSN.all (by omega)⟩⟩, rfl, hw'⟩)
theorem sortStable_c {B : Bs} {Φ : Hp} {C : List Chunk} (hBE : B.E = []) {v : Value} {n : Nat} {L : List Bt.Reading} (hv : IsSl v n) (hL : L.length = n) (hn : n ≤ 1000000) (w : World) (hW : (St B Φ (.row v 53 4 n (flat L) :: C)).p w) :
  Calls pg 33 #[v, .func (.func 34) #[] #[]] w fun e w' => ∃ x : {L' : List Bt.Reading // Sorts.Upd (fun r : Bt.Reading => r.Gauge) 0 n L L' ∧ Sorts.SrtI (fun r : Bt.Reading => r.Gauge) L' 0 n}, e = .returned (.tuple #[]) ∧ (St B Φ (.row v 53 4 n (flat x.1) :: C)).p w' := by
 refine inJ2 9 Tryz.func33 rfl rfl (J := St B Φ ((.row v 53 4 n (flat L)) :: C)) hW ?_
 refine gs5 ?_
 refine RW.ec rfl (fun w1 hw1 => stable_c hBE hv (by omega) hn  w1 hw1) rfl rfl ?_
 rintro ⟨K1, hK1⟩
 refine gs1 ?_
 refine fin_none (J' := St B Φ (.row v 53 4 n (flat K1) :: C)) rfl rfl (fun _ h => h) (fun w' hw' => ⟨⟨K1, hK1⟩, rfl, hw'⟩)
theorem cloneV_c {B : Bs} {Φ : Hp} {C : List Chunk} (_ : B.E = []) {xs : List Bt.Span} {v1 : Value} (h1 : RepSl Φ xs v1) (w : World) (hW : (St B Φ C).p w) :
  Calls pg 30 #[v1] w fun e w' => ∃ x : {y : Value // IsSl y xs.length}, e = .returned (x.1) ∧ (St B Φ (.row x.1 51 2 xs.length (flat xs) :: C)).p w' := by
 refine inJ1 8 Tryz.func30 rfl rfl (J := St B Φ C) hW ?_
 have hm1 : xs.length * 16 ≤ 140737488355328 := h1.max
 refine gs9 ?_
 refine RW.q (v := .bool (nilSl v1)) rfl (q_eqNil rfl h1.sl uT37) ?_
 refine gs2 ?_
 refine AW.cond rfl (fun hc1 => ?_) fun hc1 => ?_
 ·
  refine gs7 ?_
  have hx0 : xs = [] := by
   rcases Nat.eq_zero_or_pos xs.length with h9 | h9
   ·
    exact List.length_eq_zero_iff.1 h9
   ·
    rw [nilSl_pos h1.sl h9] at hc1; cases hc1
  subst hx0
  exact fin_out1 rfl rfl rfl (fun w' hw => ⟨⟨.slice none 0 0, isSl_nil⟩, rfl, addNil hw⟩)
 ·
  refine gs4 ?_
  refine RW.eff (fun b1 : Nat => (.slice (some ⟨b1, 0, none⟩) 0 0)) (fun b1 => St B Φ ((.row (.slice (some ⟨b1, 0, none⟩) 0 0) 51 2 0 (flat ([] : List Bt.Span))) :: C)) rfl (e_buildSlice0 uT37 inf51) ?_
  intro b1
  refine gs1 ?_
  refine RW.eff (fun xv : {vq : Value // IsSl vq (0 + xs.length)} => xv.1) (fun xv => St B Φ ((.row xv.1 51 2 ((([] : List Bt.Span) ++ xs).length) (flat (([] : List Bt.Span) ++ xs))) :: C)) rfl (e_appendPhi (yv := v1) 0 rfl rfl rfl h1.sl uT37 inf51 rfl rfl (flat_len even51 _) (repE_cells even51 h1) (flat_one h1) (by omega) (by omega) (fun _ => by simp [flat])) ?_
  rintro ⟨va1, hva1⟩
  refine gs4 ?_
  refine fin_out1 rfl rfl rfl (fun w' hw => ⟨⟨va1, by simpa using hva1⟩, rfl, by simpa using hw⟩)
theorem cloneQ_c {B : Bs} {Φ : Hp} {C : List Chunk} (_ : B.E = []) {xs : List Bt.Sum} {v1 : Value} (h1 : RepSl Φ xs v1) (w : World) (hW : (St B Φ C).p w) :
  Calls pg 31 #[v1] w fun e w' => ∃ x : {y : Value // IsSl y xs.length}, e = .returned (x.1) ∧ (St B Φ (.row x.1 98 4 xs.length (flat xs) :: C)).p w' := by
 refine inJ1 8 Tryz.func31 rfl rfl (J := St B Φ C) hW ?_
 have hm1 : xs.length * 32 ≤ 140737488355328 := h1.max
 refine gs9 ?_
 refine RW.q (v := .bool (nilSl v1)) rfl (q_eqNil rfl h1.sl uT38) ?_
 refine gs2 ?_
 refine AW.cond rfl (fun hc1 => ?_) fun hc1 => ?_
 ·
  refine gs7 ?_
  have hx0 : xs = [] := by
   rcases Nat.eq_zero_or_pos xs.length with h9 | h9
   ·
    exact List.length_eq_zero_iff.1 h9
   ·
    rw [nilSl_pos h1.sl h9] at hc1; cases hc1
  subst hx0
  exact fin_out1 rfl rfl rfl (fun w' hw => ⟨⟨.slice none 0 0, isSl_nil⟩, rfl, addNil hw⟩)
 ·
  refine gs4 ?_
  refine RW.eff (fun b1 : Nat => (.slice (some ⟨b1, 0, none⟩) 0 0)) (fun b1 => St B Φ ((.row (.slice (some ⟨b1, 0, none⟩) 0 0) 98 4 0 (flat ([] : List Bt.Sum))) :: C)) rfl (e_buildSlice0 uT38 inf98) ?_
  intro b1
  refine gs1 ?_
  refine RW.eff (fun xv : {vq : Value // IsSl vq (0 + xs.length)} => xv.1) (fun xv => St B Φ ((.row xv.1 98 4 ((([] : List Bt.Sum) ++ xs).length) (flat (([] : List Bt.Sum) ++ xs))) :: C)) rfl (e_appendPhi (yv := v1) 0 rfl rfl rfl h1.sl uT38 inf98 rfl rfl (flat_len even98 _) (repE_cells even98 h1) (flat_one h1) (by omega) (by omega) (fun _ => by simp [flat])) ?_
  rintro ⟨va1, hva1⟩
  refine gs4 ?_
  refine fin_out1 rfl rfl rfl (fun w' hw => ⟨⟨va1, by simpa using hva1⟩, rfl, by simpa using hw⟩)
theorem cloneL_c {B : Bs} {Φ : Hp} {C : List Chunk} (_ : B.E = []) {xs : List Bt.Known} {v1 : Value} (h1 : RepSl Φ xs v1) (w : World) (hW : (St B Φ C).p w) :
  Calls pg 32 #[v1] w fun e w' => ∃ x : {y : Value // IsSl y xs.length}, e = .returned (x.1) ∧ (St B Φ (.row x.1 101 5 xs.length (flat xs) :: C)).p w' := by
 refine inJ1 8 Tryz.func32 rfl rfl (J := St B Φ C) hW ?_
 have hm1 : xs.length * 40 ≤ 140737488355328 := h1.max
 refine gs9 ?_
 refine RW.q (v := .bool (nilSl v1)) rfl (q_eqNil rfl h1.sl uT39) ?_
 refine gs2 ?_
 refine AW.cond rfl (fun hc1 => ?_) fun hc1 => ?_
 ·
  refine gs7 ?_
  have hx0 : xs = [] := by
   rcases Nat.eq_zero_or_pos xs.length with h9 | h9
   ·
    exact List.length_eq_zero_iff.1 h9
   ·
    rw [nilSl_pos h1.sl h9] at hc1; cases hc1
  subst hx0
  exact fin_out1 rfl rfl rfl (fun w' hw => ⟨⟨.slice none 0 0, isSl_nil⟩, rfl, addNil hw⟩)
 ·
  refine gs4 ?_
  refine RW.eff (fun b1 : Nat => (.slice (some ⟨b1, 0, none⟩) 0 0)) (fun b1 => St B Φ ((.row (.slice (some ⟨b1, 0, none⟩) 0 0) 101 5 0 (flat ([] : List Bt.Known))) :: C)) rfl (e_buildSlice0 uT39 inf101) ?_
  intro b1
  refine gs1 ?_
  refine RW.eff (fun xv : {vq : Value // IsSl vq (0 + xs.length)} => xv.1) (fun xv => St B Φ ((.row xv.1 101 5 ((([] : List Bt.Known) ++ xs).length) (flat (([] : List Bt.Known) ++ xs))) :: C)) rfl (e_appendPhi (yv := v1) 0 rfl rfl rfl h1.sl uT39 inf101 rfl rfl (flat_len even101 _) (repE_cells even101 h1) (flat_one h1) (by omega) (by omega) (fun _ => by simp [flat])) ?_
  rintro ⟨va1, hva1⟩
  refine gs4 ?_
  refine fin_out1 rfl rfl rfl (fun w' hw => ⟨⟨va1, by simpa using hva1⟩, rfl, by simpa using hw⟩)
theorem part2_c (w : World) (Φ : Hp) (hΦ : Hp.le Φ (hp w)) {pa : Addr} :
  Calls pg 37 #[.pointer (some pa)] w fun e w' => e = .returned (.pointer (some pa)) ∧ Bel w.heap.size w w' := by
 refine in1 4 Tryz.func37 rfl rfl hΦ ?_
 refine gs12 ?_
 exact fin_val (v' := .pointer (some pa)) rfl rfl rfl (rfl)
theorem part3_c (w : World) (Φ : Hp) (hΦ : Hp.le Φ (hp w)) {pa : Addr} :
  Calls pg 39 #[.pointer (some pa)] w fun e w' => e = .returned (.pointer (some (pa.add 0))) ∧ Bel w.heap.size w w' := by
 refine in1 6 Tryz.func39 rfl rfl hΦ ?_
 refine gs8 ?_
 refine RW.q (v := .pointer (some pa)) rfl (q_nilCheck rfl) (RW.q (v := .pointer (some (pa.add 0))) rfl (q_fieldAddr rfl uT101 rfl sz51 rfl) ?_)
 refine gs4 ?_
 exact fin_val (v' := .pointer (some (pa.add 0))) rfl rfl rfl (rfl)
theorem narV_c {B : Bs} {Φ : Hp} {C : List Chunk} (_ : B.E = []) {v : Value} {n : Nat} {L : List Bt.Span} (hv : IsSl v n) (hL : L.length = n) (_ : n ≤ 1000000) {i : Nat} {lo hi : Int} (hi_ : i < n) (w : World) (hW : (St B Φ (.row v 51 2 n (flat L) :: C)).p w) :
  Calls pg 36 #[v, iV (i : Int), .func (.func 37) #[] #[], .agg #[iV lo, iV hi]] w fun e w' => ∃ _ : Unit, e = .returned (.bool (Fu.meet (L.getD i default).Lo (L.getD i default).Hi lo hi).isSome) ∧ (St B Φ (.row v 51 2 n (flat (Fu.narV L i lo hi)) :: C)).p w' := by
 refine inJ4 30 Tryz.func36 rfl rfl (J := St B Φ ((.row v 51 2 n (flat L)) :: C)) hW ?_
 refine gs2 ?_
 refine RW.bxA rfl rfl fun b1 => ?_
 refine gs9 ?_
 refine RW.c rfl (fun w1 hw1 => part2_c w1 (Go.K.hp w1) (Hp.le_refl _)) rfl rfl ?_
 refine gs4 ?_
 refine AW.draw (J0 := St B Φ ((.blk b1 51 [iV lo, iV hi]) :: (.row v 51 2 n (flat L)) :: C)) [.q, .q, .q, .q, .q, .q, .q, .q, .e, .e, .q] [0, 1, 2, 3, 4, 5, 6, 7, 8, 9, 10] hmix (by kernel_rfl) ?_
 refine gs1 ?_
 refine DW.q (v := .pointer (some (Value.at v (i * 2)))) (fun _ h => h) rfl (q_nilCheck rfl) (DW.q (v := .agg #[iV ((L.getD i default).Lo), iV ((L.getD i default).Hi)]) (fun _ h => h) rfl (q_loadAgg rfl uT51 rfl sz51 rfl (Cells.rowE even51 1 rfl (by omega) rfl)) ?_)
 refine gs1 ?_
 refine DW.c (fun _ h => h) rfl (fun w1 hw1 => Meet_c w1 (Go.K.hp w1) (Hp.le_refl _)) rfl rfl (DW.q (fun _ h => h) rfl (q_move rfl) ?_)
 refine gs2 ?_
 refine DW.eff (fun b2 : Nat => pV b2 0) (fun b2 => St B Φ ((.blk b2 51 [iV 0, iV 0]) :: (.blk b1 51 [iV lo, iV hi]) :: (.row v 51 2 n (flat L)) :: C)) (fun _ _ => (fun _ h => (StP.drop h (by exact .cons _ (.cons_cons _ (.cons_cons _ ((List.Sublist.refl _)))))))) rfl (e_alloc zero51) ?_
 intro b2
 refine DW.effn (J' := St B Φ ((.blk b2 51 [iV (Fu.loOf (Fu.meet ((L.getD i default).Lo) ((L.getD i default).Hi) lo hi)), iV (Fu.hiOf (Fu.meet ((L.getD i default).Lo) ((L.getD i default).Hi) lo hi))]) :: (.blk b1 51 [iV lo, iV hi]) :: (.row v 51 2 n (flat L)) :: C)) (fun _ => (fun _ h => (StP.drop h (by exact .cons _ (.cons_cons _ (.cons_cons _ ((List.Sublist.refl _)))))))) (e_store (v := .agg #[iV (Fu.loOf (Fu.meet ((L.getD i default).Lo) ((L.getD i default).Hi) lo hi)), iV (Fu.hiOf (Fu.meet ((L.getD i default).Lo) ((L.getD i default).Hi) lo hi))]) 0 rfl rfl rfl sz51 rfl rfl rfl rfl rfl) (DW.q (v := .bool ((Fu.meet ((L.getD i default).Lo) ((L.getD i default).Hi) lo hi).isSome)) (fun _ h => (StP.drop h (by exact .cons _ (.cons_cons _ (.cons_cons _ ((List.Sublist.refl _))))))) rfl (q_assign rfl) ?_)
 refine gs8 ?_
 refine AW.cond rfl (fun hc1 => ?_) fun hc1 => ?_
 ·
  refine gs3 ?_
  refine RW.q (v := .pointer (some (Value.at v (i * 2)))) rfl (q_nilCheck rfl) (RW.effn (J' := St B Φ ((.blk b2 51 [iV (Fu.loOf (Fu.meet ((L.getD i default).Lo) ((L.getD i default).Hi) lo hi)), iV (Fu.hiOf (Fu.meet ((L.getD i default).Lo) ((L.getD i default).Hi) lo hi))]) :: (.blk b1 51 [iV lo, iV hi]) :: (.row v 51 2 n (flat (L.set i (⟨Fu.loOf (Fu.meet ((L.getD i default).Lo) ((L.getD i default).Hi) lo hi), Fu.hiOf (Fu.meet ((L.getD i default).Lo) ((L.getD i default).Hi) lo hi)⟩ : Bt.Span)))) :: C)) (e_storeRow (v := .agg #[iV (Fu.loOf (Fu.meet ((L.getD i default).Lo) ((L.getD i default).Hi) lo hi)), iV (Fu.hiOf (Fu.meet ((L.getD i default).Lo) ((L.getD i default).Hi) lo hi))]) 2 rfl rfl rfl sz51 rfl rfl (by rw [flat_len even51]; simp [Rep.sz]; omega) (splice_E even51 (k := i) (x := (⟨Fu.loOf (Fu.meet ((L.getD i default).Lo) ((L.getD i default).Hi) lo hi), Fu.hiOf (Fu.meet ((L.getD i default).Lo) ((L.getD i default).Hi) lo hi)⟩ : Bt.Span)) (by first | omega | (simp; omega)) rfl) rfl) ?_)
  refine gs9 ?_
  refine fin_out1 rfl rfl rfl (fun w' hw => ⟨(), rfl, ?_⟩)
  unfold Fu.narV
  obtain ⟨z, hz⟩ := Option.isSome_iff_exists.1 hc1
  rw [hz] at hw ⊢
  exact StP.drop hw (by exact .cons _ (.cons _ (.cons_cons _ ((List.Sublist.refl _)))))
 ·
  refine gs9 ?_
  refine fin_out1 rfl rfl rfl (fun w' hw => ⟨(), rfl, ?_⟩)
  unfold Fu.narV
  rw [show Fu.meet (L.getD i default).Lo (L.getD i default).Hi lo hi = none by simpa using hc1]
  exact StP.drop hw (by exact .cons _ (.cons _ (.cons_cons _ ((List.Sublist.refl _)))))
theorem narL_c {B : Bs} {Φ : Hp} {C : List Chunk} (_ : B.E = []) {v : Value} {n : Nat} {L : List Bt.Known} (hv : IsSl v n) (hL : L.length = n) (_ : n ≤ 1000000) {i : Nat} {lo hi : Int} (hi_ : i < n) (w : World) (hW : (St B Φ (.row v 101 5 n (flat L) :: C)).p w) :
  Calls pg 38 #[v, iV (i : Int), .func (.func 39) #[] #[], .agg #[iV lo, iV hi]] w fun e w' => ∃ _ : Unit, e = .returned (.bool (Fu.meet (L.getD i default).Pos.Lo (L.getD i default).Pos.Hi lo hi).isSome) ∧ (St B Φ (.row v 101 5 n (flat (Fu.narL L i lo hi)) :: C)).p w' := by
 refine inJ4 30 Tryz.func38 rfl rfl (J := St B Φ ((.row v 101 5 n (flat L)) :: C)) hW ?_
 refine gs2 ?_
 refine RW.bxA rfl rfl fun b1 => ?_
 refine gs9 ?_
 refine RW.c rfl (fun w1 hw1 => (part3_c w1 (Go.K.hp w1) (Hp.le_refl _)).mono fun e w2 ⟨he, hb⟩ => ⟨by rw [he, at_add], hb⟩) rfl rfl ?_
 refine gs4 ?_
 refine AW.draw (J0 := St B Φ ((.blk b1 51 [iV lo, iV hi]) :: (.row v 101 5 n (flat L)) :: C)) [.q, .q, .q, .q, .q, .q, .q, .q, .e, .e, .q] [0, 1, 2, 3, 4, 5, 6, 7, 8, 9, 10] hmix (by kernel_rfl) ?_
 refine gs1 ?_
 refine DW.q (v := .pointer (some (Value.at v (i * 5 + 0)))) (fun _ h => h) rfl (q_nilCheck rfl) (DW.q (v := .agg #[iV ((L.getD i default).Pos.Lo), iV ((L.getD i default).Pos.Hi)]) (fun _ h => h) rfl (q_loadAgg rfl uT51 rfl sz51 rfl (Cells.rowP even101 (off := 0) 1 rfl (by omega) (fun j u hu => (by rcases j with _ | (_ | _) <;> first | exact hu | cases hu)))) ?_)
 refine gs1 ?_
 refine DW.c (fun _ h => h) rfl (fun w1 hw1 => Meet_c w1 (Go.K.hp w1) (Hp.le_refl _)) rfl rfl (DW.q (fun _ h => h) rfl (q_move rfl) ?_)
 refine gs2 ?_
 refine DW.eff (fun b2 : Nat => pV b2 0) (fun b2 => St B Φ ((.blk b2 51 [iV 0, iV 0]) :: (.blk b1 51 [iV lo, iV hi]) :: (.row v 101 5 n (flat L)) :: C)) (fun _ _ => (fun _ h => (StP.drop h (by exact .cons _ (.cons_cons _ (.cons_cons _ ((List.Sublist.refl _)))))))) rfl (e_alloc zero51) ?_
 intro b2
 refine DW.effn (J' := St B Φ ((.blk b2 51 [iV (Fu.loOf (Fu.meet ((L.getD i default).Pos.Lo) ((L.getD i default).Pos.Hi) lo hi)), iV (Fu.hiOf (Fu.meet ((L.getD i default).Pos.Lo) ((L.getD i default).Pos.Hi) lo hi))]) :: (.blk b1 51 [iV lo, iV hi]) :: (.row v 101 5 n (flat L)) :: C)) (fun _ => (fun _ h => (StP.drop h (by exact .cons _ (.cons_cons _ (.cons_cons _ ((List.Sublist.refl _)))))))) (e_store (v := .agg #[iV (Fu.loOf (Fu.meet ((L.getD i default).Pos.Lo) ((L.getD i default).Pos.Hi) lo hi)), iV (Fu.hiOf (Fu.meet ((L.getD i default).Pos.Lo) ((L.getD i default).Pos.Hi) lo hi))]) 0 rfl rfl rfl sz51 rfl rfl rfl rfl rfl) (DW.q (v := .bool ((Fu.meet ((L.getD i default).Pos.Lo) ((L.getD i default).Pos.Hi) lo hi).isSome)) (fun _ h => (StP.drop h (by exact .cons _ (.cons_cons _ (.cons_cons _ ((List.Sublist.refl _))))))) rfl (q_assign rfl) ?_)
 refine gs8 ?_
 refine AW.cond rfl (fun hc1 => ?_) fun hc1 => ?_
 ·
  refine gs3 ?_
  refine RW.q (v := .pointer (some (Value.at v (i * 5 + 0)))) rfl (q_nilCheck rfl) (RW.effn (J' := St B Φ ((.blk b2 51 [iV (Fu.loOf (Fu.meet ((L.getD i default).Pos.Lo) ((L.getD i default).Pos.Hi) lo hi)), iV (Fu.hiOf (Fu.meet ((L.getD i default).Pos.Lo) ((L.getD i default).Pos.Hi) lo hi))]) :: (.blk b1 51 [iV lo, iV hi]) :: (.row v 101 5 n (flat (L.set i (⟨⟨Fu.loOf (Fu.meet ((L.getD i default).Pos.Lo) ((L.getD i default).Pos.Hi) lo hi), Fu.hiOf (Fu.meet ((L.getD i default).Pos.Lo) ((L.getD i default).Pos.Hi) lo hi)⟩, (L.getD i default).Target, ⟨(L.getD i default).Open.Lo, (L.getD i default).Open.Hi⟩⟩ : Bt.Known)))) :: C)) (e_storeRow (v := .agg #[iV (Fu.loOf (Fu.meet ((L.getD i default).Pos.Lo) ((L.getD i default).Pos.Hi) lo hi)), iV (Fu.hiOf (Fu.meet ((L.getD i default).Pos.Lo) ((L.getD i default).Pos.Hi) lo hi))]) 2 rfl rfl rfl sz51 rfl rfl (by rw [flat_len even101]; simp [Rep.sz]; omega) (splice_P even101 (k := i) (off := 0) (x := (⟨⟨Fu.loOf (Fu.meet ((L.getD i default).Pos.Lo) ((L.getD i default).Pos.Hi) lo hi), Fu.hiOf (Fu.meet ((L.getD i default).Pos.Lo) ((L.getD i default).Pos.Hi) lo hi)⟩, (L.getD i default).Target, ⟨(L.getD i default).Open.Lo, (L.getD i default).Open.Hi⟩⟩ : Bt.Known)) (by first | omega | (simp; omega)) rfl (lBT rfl)) rfl) ?_)
  refine gs9 ?_
  refine fin_out1 rfl rfl rfl (fun w' hw => ⟨(), rfl, ?_⟩)
  unfold Fu.narL
  obtain ⟨z, hz⟩ := Option.isSome_iff_exists.1 hc1
  rw [hz] at hw ⊢
  exact StP.drop hw (by exact .cons _ (.cons _ (.cons_cons _ ((List.Sublist.refl _)))))
 ·
  refine gs9 ?_
  refine fin_out1 rfl rfl rfl (fun w' hw => ⟨(), rfl, ?_⟩)
  unfold Fu.narL
  rw [show Fu.meet (L.getD i default).Pos.Lo (L.getD i default).Pos.Hi lo hi = none by simpa using hc1]
  exact StP.drop hw (by exact .cons _ (.cons _ (.cons_cons _ ((List.Sublist.refl _)))))
theorem Compact_c {B : Bs} {Φ : Hp} {C : List Chunk} (_ : B.E = []) {v : Value} {n : Nat} {L : List Int} (hv : IsSl v n) (hL : L.length = n) (hn : n ≤ 1000000) (w : World) (hW : (St B Φ (.row v 3 1 n (L.map (Value.int .i64)) :: C)).p w) :
  Calls pg 40 #[v] w fun e w' => ∃ x : {r : Value // IsSl r (Fu.comp L).length}, e = .returned (x.1) ∧ (St B Φ (.row x.1 3 1 (Fu.comp L).length ((Fu.comp L).map (Value.int .i64)) :: C)).p w' := by
 refine inJ1 61 Tryz.func40 rfl rfl (J := St B Φ ((.row v 3 1 n (L.map (Value.int .i64))) :: C)) hW ?_
 refine gs13 ?_
 refine AW.cond rfl (fun hc1 => ?_) fun hc1 => ?_
 ·
  simp [-List.getD_eq_getElem?_getD] at hc1
  refine gs8 ?_
  have hcp : Fu.comp L = L := by have h9 := Fu.comp_id (L := L) (k := L.length) (Nat.le_refl _) (fun j h1 h2 => by omega); rwa [List.take_length] at h9
  refine fin_out1 rfl rfl rfl (fun w' hw => ⟨⟨v, by rw [hcp, hL]; exact hv⟩, rfl, ?_⟩)
  show (St B Φ (.row v 3 1 (Fu.comp L).length ((Fu.comp L).map (Value.int .i64)) :: C)).p w'
  rw [hcp, hL]
  exact hw
 ·
  simp [-List.getD_eq_getElem?_getD] at hc1
  refine gs9 ?_
  refine AW.lp (fun s J m => ∃ (k : Nat), s = [(0, v), (3, iV (k : Int))] ∧ J = St B Φ ((.row v 3 1 n (L.map (Value.int .i64))) :: C) ∧ m = n - k ∧ (1 ≤ k) ∧ (k ≤ n) ∧ (∀ j, 1 ≤ j → j < k → L.getD j 0 ≠ L.getD (j - 1) 0)) ⟨1, rfl, rfl, rfl, (by omega), (by omega), (fun j h1 h2 => by omega)⟩ ?_
  rintro _ _ _ _ ⟨k, rfl, rfl, rfl, hk1, hkn, hne⟩
  refine gs9 ?_
  refine AW.cond rfl (fun hc2 => ?_) fun hc2 => ?_
  ·
   simp [-List.getD_eq_getElem?_getD] at hc2
   refine gs5 ?_
   refine AW.draw (J0 := St B Φ ((.row v 3 1 n (L.map (Value.int .i64))) :: C)) [.q, .q, .q, .q, .q, .q, .q, .q, .q, .q] [0, 1, 2, 3, 4, 5, 6, 7, 8, 9] hmix (by kernel_rfl) ?_
   refine gs3 ?_
   refine DW.q (v := iV ((L).getD k 0)) (fun _ h => h) rfl (q_load rfl uT3 rfl (Cell.rowInt 0 rfl (by omega))) ?_
   refine gs2 ?_
   refine DW.q (v := iV (((k - 1) : Nat) : Int)) (fun _ h => h) rfl (q_as (v := iV ((k : Int) - 1)) (q_sub rfl rfl (by omega) (by unfold I64; omega)) (congrArg (Value.int .i64) (by omega))) ?_
   refine gs1 ?_
   refine DW.q (v := iV ((L).getD (k - 1) 0)) (fun _ h => h) rfl (q_load rfl uT3 rfl (Cell.rowInt 0 rfl (by omega))) ?_
   refine gs3 ?_
   refine AW.cond rfl (fun hc3 => ?_) fun hc3 => ?_
   ·
    simp [-List.getD_eq_getElem?_getD] at hc3
    refine gs4 ?_
    refine RW.q (v := (subSl v k n 1)) rfl (q_sliceL (v := v) (l := (k : Int)) rfl rfl hv uT29 sz3 (by omega) (by omega)) ?_
    refine gs10 ?_
    refine AW.lp (fun s J m => ∃ (c : Nat), ∃ (d : Nat), ∃ (K : List Int), s = [(0, v), (4, (subSl v k n 1)), (3, iV (c : Int)), (5, iV (d : Int))] ∧ J = St B Φ ((.row v 3 1 n (K.map (Value.int .i64))) :: C) ∧ m = n - d ∧ (1 ≤ d) ∧ (k + d ≤ n) ∧ (k ≤ c) ∧ (Fu.CmI L K c (k + d))) ⟨k, 1, _, rfl, rfl, rfl, (by omega), (by omega), (by omega), (Fu.CmI.start (by omega) (by omega) hc3 hne)⟩ ?_
    rintro _ _ _ _ ⟨c, d, K, rfl, rfl, rfl, hd1, hdn, hck, hI⟩
    refine gs5 ?_
    refine RW.q (v := iV (((n - k) : Nat) : Int)) rfl (q_len_sl rfl (isSl_sub hv (by omega) (by omega)) uT29) ?_
    refine gs3 ?_
    refine AW.cond rfl (fun hc4 => ?_) fun hc4 => ?_
    ·
     simp [-List.getD_eq_getElem?_getD] at hc4
     refine gs5 ?_
     have hKl := hI.len
     have hkp := hI.kp
     have hg1 : K.getD (k + d) 0 = L.getD (k + d) 0 := hI.post (k + d) (by omega) (by omega)
     have hg2 : K.getD (k + (d - 1)) 0 = L.getD (k + d - 1) 0 := by rw [show k + (d - 1) = k + d - 1 by omega]; exact hI.post (k + d - 1) (by omega) (by omega)
     refine AW.draw (J0 := St B Φ ((.row v 3 1 n (K.map (Value.int .i64))) :: C)) [.q, .q, .q, .q, .q, .q, .q, .q, .q, .q] [0, 1, 2, 3, 4, 5, 6, 7, 8, 9] hmix (by kernel_rfl) ?_
     refine gs2 ?_
     refine DW.q (v := .pointer (some (Value.at v ((k + d) * 1)))) (fun _ h => h) rfl (q_indexAddr (v := (subSl v k n 1)) rfl rfl (isSl_sub hv (by omega) (by omega)) uT29 sz3 (by omega) (by omega) (by rw [at_sub (l := k) (m := n) hv (by omega) (by omega)]; exact congrArg (Value.at _) (by omega))) (DW.q (v := iV ((K).getD (k + d) 0)) (fun _ h => h) rfl (q_load rfl uT3 rfl (Cell.rowInt 0 rfl (by omega))) ?_)
     refine gs2 ?_
     refine DW.q (v := iV (((d - 1) : Nat) : Int)) (fun _ h => h) rfl (q_as (v := iV ((d : Int) - 1)) (q_sub rfl rfl (by omega) (by unfold I64; omega)) (congrArg (Value.int .i64) (by omega))) (DW.q (v := .pointer (some (Value.at v ((k + (d - 1)) * 1)))) (fun _ h => h) rfl (q_indexAddr (v := (subSl v k n 1)) rfl rfl (isSl_sub hv (by omega) (by omega)) uT29 sz3 (by omega) (by omega) (by rw [at_sub (l := k) (m := n) hv (by omega) (by omega)]; exact congrArg (Value.at _) (by omega))) (DW.q (v := iV ((K).getD (k + (d - 1)) 0)) (fun _ h => h) rfl (q_load rfl uT3 rfl (Cell.rowInt 0 rfl (by omega))) ?_))
     refine gs3 ?_
     refine AW.cond rfl (fun hc5 => ?_) fun hc5 => ?_
     ·
      simp [-List.getD_eq_getElem?_getD] at hc5
      refine gs1 ?_
      have hne2 : L.getD (k + d) 0 ≠ L.getD (k + d - 1) 0 := by rw [← hg1, ← hg2]; exact hc5
      refine gs5 ?_
      refine RW.q (v := .pointer (some (Value.at v ((k + d) * 1)))) rfl (q_indexAddr (v := (subSl v k n 1)) rfl rfl (isSl_sub hv (by omega) (by omega)) uT29 sz3 (by omega) (by omega) (by rw [at_sub (l := k) (m := n) hv (by omega) (by omega)]; exact congrArg (Value.at _) (by omega))) (RW.q (v := iV ((K).getD (k + d) 0)) rfl (q_load rfl uT3 rfl (Cell.rowInt 0 rfl (by omega))) ?_)
      refine gs1 ?_
      refine RW.effn (J' := St B Φ ((.row v 3 1 n ((K.set c ((K).getD (k + d) 0)).map (Value.int .i64))) :: C)) (e_storeRow (v := iV ((K).getD (k + d) 0)) 0 rfl rfl rfl sz3 rfl rfl (by simp [-List.getD_eq_getElem?_getD]; omega) (splice_int (by omega)) rfl) ?_
      refine gs9 ?_
      have hkd : True := trivial
      refine gs5 ?_
      exact Post.back (s' := _) (J' := _) (m' := _) (by omega) ⟨c + 1, d + 1, _, rfl, rfl, rfl, (by omega), (by omega), (by omega), (by have h9 := hI.put (by omega) hne2; rw [hg1]; exact h9)⟩ ⟨rfl, rfl, rfl, rfl, trivial⟩ (fun _ h => h)
     ·
      simp [-List.getD_eq_getElem?_getD] at hc5
      refine gs3 ?_
      have hkd : True := trivial
      refine gs5 ?_
      have heq2 : L.getD (k + d) 0 = L.getD (k + d - 1) 0 := by rw [← hg1, ← hg2]; exact hc5
      exact Post.bk ⟨c, d + 1, _, rfl, rfl, rfl, (by omega), (by omega), (by omega), (hI.keep (by omega) heq2)⟩
    ·
     simp [-List.getD_eq_getElem?_getD] at hc4
     refine gs6 ?_
     have hKl := hI.len
     have hkp := hI.kp
     refine gs3 ?_
     refine RW.q (v := (subSl v c n 1)) rfl (q_sliceL (v := v) (l := (c : Int)) rfl rfl hv uT29 sz3 (by omega) (by omega)) (RW.effn (J' := St B Φ ((.row v 3 1 n ((K.take c ++ List.replicate (n - c) 0).map (Value.int .i64))) :: C)) (e_clearI (u := v) (n := n) (k := c) (xs := K) 0 rfl rfl uT29 inf3 (by omega) (by omega) rfl) ?_)
     refine gs6 ?_
     refine RW.q (v := (subSl v 0 c 1)) rfl (q_sliceH (v := v) (m := (c : Int)) rfl rfl hv uT29 sz3 (by omega) (by omega)) ?_
     refine gs9 ?_
     have hcl : (Fu.comp L).length = c := by have h9 := hI.kl; rw [List.take_of_length_le (by omega)] at h9; exact h9.symm
     have hcp : K.take c = Fu.comp L := by have h9 := hI.pre; rw [List.take_of_length_le (l := L) (by omega)] at h9; exact h9
     refine fin_out1 rfl rfl rfl (fun w' hw => ⟨⟨subSl v 0 c 1, by rw [hcl]; exact isSl_sub hv (Nat.zero_le _) (by omega)⟩, rfl, ?_⟩)
     show (St B Φ (.row (subSl v 0 c 1) 3 1 (Fu.comp L).length ((Fu.comp L).map (Value.int .i64)) :: C)).p w'
     rw [hcl, ← hcp]
     have h9 := StP.rowTake (k := c) hw (by omega)
     rw [Nat.mul_one, ← List.map_take, List.take_append_of_le_length (by rw [List.length_take]; omega), List.take_take, Nat.min_self] at h9
     exact h9
   ·
    simp [-List.getD_eq_getElem?_getD] at hc3
    refine gs8 ?_
    exact Post.bk ⟨k + 1, rfl, rfl, rfl, (by omega), (by omega), (fun j h1 h2 => by rcases Nat.lt_or_eq_of_le (Nat.lt_succ_iff.1 h2) with h3 | h3; exact hne j h1 h3; subst h3; exact hc3)⟩
  ·
   simp [-List.getD_eq_getElem?_getD] at hc2
   refine gs12 ?_
   have hcp : Fu.comp L = L := by have h9 := Fu.comp_id (L := L) (k := L.length) (Nat.le_refl _) (fun j h1 h2 => hne j h1 (by omega)); rwa [List.take_length] at h9
   refine fin_out1 rfl rfl rfl (fun w' hw => ⟨⟨v, by rw [hcp, hL]; exact hv⟩, rfl, ?_⟩)
   show (St B Φ (.row v 3 1 (Fu.comp L).length ((Fu.comp L).map (Value.int .i64)) :: C)).p w'
   rw [hcp, hL]
   exact hw
end Go.Proofs.YtblfeidlnhdekaaGreat
namespace Fu
open Go.K
theorem filter_split {α : Type} {key : α → Int} {p q : α → Bool} (h : ∀ x y, q x = true → p y = true → key y < key x) : ∀ {K : List α}, K.Pairwise (fun x y => key x ≤ key y) → K.filter (fun x => p x || q x) = K.filter p ++ K.filter q
  | [], _ => rfl
  | x :: K, hs => by
    obtain ⟨h1, h2⟩ := List.pairwise_cons.1 hs
    have ih := filter_split h h2
    cases hp : p x with
    | true =>
      have hq : q x = false := by
        cases hq : q x with
        | false => rfl
        | true => have := h x x hq hp; omega
      simp [hp, hq, ih]
    | false =>
      cases hq : q x with
      | true =>
        have hn : K.filter p = [] := List.filter_eq_nil_iff.2 fun y hy hpy => by
          have := h x y hq hpy; have := h1 y hy; omega
        simp [hp, hq, ih, hn]
      | false => simp [hp, hq, ih]
theorem order_succ (n : Nat) (l : List Bt.Reading) : order (n + 1) l = order n l ++ l.filter fun r => decide (r.Gauge = (n : Int)) := by
  unfold order; rw [List.range_succ, List.flatMap_append]; simp
theorem order_sorted {K : List Bt.Reading} (hs : Sorts.Srt (fun r : Bt.Reading => r.Gauge) K) : ∀ n : Nat, order n K = K.filter fun r => decide (0 ≤ r.Gauge ∧ r.Gauge < (n : Int))
  | 0 => by
    have : K.filter (fun r => decide (0 ≤ r.Gauge ∧ r.Gauge < ((0 : Nat) : Int))) = [] := List.filter_eq_nil_iff.2 fun y _ hy => by
      have := odT hy; omega
    rw [this]; rfl
  | n + 1 => by
    rw [order_succ, order_sorted hs n, ← filter_split (key := fun r : Bt.Reading => r.Gauge) (fun x y hx hy => by have := odT hx; have := odT hy; omega) hs]
    refine congrArg (fun f => K.filter f) (funext fun r => ?_)
    rw [← Bool.decide_or]
    exact decide_eq_decide.2 (by omega)
theorem order_flt {l K : List Bt.Reading} (hf : Sorts.Flt (fun r : Bt.Reading => r.Gauge) l K) (n : Nat) : order n l = order n K := by
  unfold order
  have h2 : ∀ g : Int, l.filter (fun r => decide (r.Gauge = g)) = K.filter (fun r => decide (r.Gauge = g)) := fun g => hf.2 g
  refine congrArg (fun f => (List.range n).flatMap f) (funext fun g => h2 _)
theorem foldl_skip {b : Bt.Basin} : ∀ (K : List Bt.Reading) (s : FS), K.foldl (stepF b) s = (K.filter fun r => decide (0 ≤ r.Gauge ∧ r.Gauge < (b.Gauges.length : Int))).foldl (stepF b) s
  | [], _ => rfl
  | r :: K, s => by
    by_cases h : 0 ≤ r.Gauge ∧ r.Gauge < (b.Gauges.length : Int)
    · rw [List.filter_cons_of_pos (by simpa using h)]; exact foldl_skip K _
    · rw [List.filter_cons_of_neg (by simpa using h), List.foldl_cons, step0 (kind0 (.inl h))]; exact foldl_skip K s
theorem fuse_sorted {b : Bt.Basin} {h : Bt.Hull} {l K : List Bt.Reading} (hs : Sorts.Srt (fun r : Bt.Reading => r.Gauge) K) (hf : Sorts.Flt (fun r : Bt.Reading => r.Gauge) (atH h.Hour l) K) : K.foldl (stepF b) ⟨h.Vol, h.Links, []⟩ = fuse b h l := by
  unfold fuse
  rw [order_flt hf, order_sorted hs]
  exact foldl_skip K _
end Fu
