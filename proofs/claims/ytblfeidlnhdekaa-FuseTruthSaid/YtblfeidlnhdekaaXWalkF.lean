/- Walks (part WalkF), printed by walk2.py. Conditions: those of each theorem. -/
import Derived.Test.YtblfeidlnhdekaaXWalkE
namespace Go.Proofs.Ytblfeidlnhdekaa
open Go Go.K Go.RowKit
set_option maxRecDepth 8000
set_option maxHeartbeats 1000000
attribute [local irreducible] AW RW DW Post Qt
theorem symOk {B : Bs} {Φ : Hp} {C : List Chunk} (hBE : B.E = []) {v : Value} {n : Nat} (hv : IsSl v n) (hn : n ≤ 4611686018427387903) : ∀ D, SymOk B Φ C v n D
 | 0 => fun _ _ _ _ _ _ _ _ hD _ _ _ _ => absurd hD (Nat.not_lt_zero _)
 | D + 1 => fun _ _ _ _ hL ham hmb hb hD hs1 hs2 w hW => symStep_c hBE hv hL hn (symOk hBE hv hn D) (by omega) ham hmb hb hs1 hs2 w hW
theorem symMerge_c {B : Bs} {Φ : Hp} {C : List Chunk} (hBE : B.E = []) {v : Value} {n : Nat} {L : List Bt.Reading} (hv : IsSl v n) (hL : L.length = n) (hn : n ≤ 4611686018427387903) {a mm b : Nat} (ham : a < mm) (hmb : mm < b) (hb : b ≤ n) (hs1 : Sorts.SrtI (fun r : Bt.Reading => r.Gauge) L a mm) (hs2 : Sorts.SrtI (fun r : Bt.Reading => r.Gauge) L mm b) (w : World) (hW : (St B Φ (.row v 46 4 n (flat L) :: C)).p w) :
  Calls Try.prog 100 #[v, iV (a : Int), iV (mm : Int), iV (b : Int), .func (.func 38) #[] #[]] w fun e w' => ∃ x : {L' : List Bt.Reading // Sorts.Upd (fun r : Bt.Reading => r.Gauge) a b L L' ∧ Sorts.SrtI (fun r : Bt.Reading => r.Gauge) L' a b}, e = .returned (.tuple #[]) ∧ (St B Φ (.row v 46 4 n (flat x.1) :: C)).p w' :=
 symOk hBE hv hn (b - a + 1) L a mm b hL ham hmb hb (by omega) hs1 hs2 w hW
theorem stable_c {B : Bs} {Φ : Hp} {C : List Chunk} (hBE : B.E = []) {v : Value} {n : Nat} {L : List Bt.Reading} (hv : IsSl v n) (hL : L.length = n) (hn : n ≤ 1000000) (w : World) (hW : (St B Φ (.row v 46 4 n (flat L) :: C)).p w) :
  Calls Try.prog 73 #[v, iV (n : Int), .func (.func 38) #[] #[]] w fun e w' => ∃ x : {L' : List Bt.Reading // Sorts.Upd (fun r : Bt.Reading => r.Gauge) 0 n L L' ∧ Sorts.SrtI (fun r : Bt.Reading => r.Gauge) L' 0 n}, e = .returned (.tuple #[]) ∧ (St B Φ (.row v 46 4 n (flat x.1) :: C)).p w' := by
 refine calls_of_AW (args := [v, iV (n : Int), .func (.func 38) #[] #[]]) Try.func73 rfl (Nat.le_of_ble_eq_true rfl) (St B Φ ((.row v 46 4 n (flat L)) :: C)) hW ?_
 show AW Try.prog 63 [] _ _ _ [(0, v), (1, iV (n : Int)), (2, .func (.func 38) #[] #[])] _
 have hn9 := hn
 replace hn : n ≤ 4611686018427387903 := by omega
 refine g14 ?_
 refine AW.loop (fun s J m => ∃ (a : Nat), ∃ (M : List Bt.Reading), s = [(0, v), (1, iV (n : Int)), (2, .func (.func 38) #[] #[]), (6, iV 20), (7, iV (a : Int)), (8, iV (((a + 20) : Nat) : Int))] ∧ J = St B Φ ((.row v 46 4 n (flat M)) :: C) ∧ m = n - a ∧ (a ≤ n) ∧ (∃ k, a = 20 * k) ∧ (Sorts.Upd (fun r : Bt.Reading => r.Gauge) 0 n L M) ∧ (Sorts.SB (fun r : Bt.Reading => r.Gauge) M 20 0 a)) (s0 := _) (J1 := _) (m0 := _) ⟨0, _, rfl, rfl, rfl, (by omega), ⟨0, rfl⟩, (Sorts.Upd.refl _ _ _), Sorts.SB.nil⟩ ⟨rfl, rfl, rfl, rfl, rfl, rfl, trivial⟩ (fun _ h => h) ?_
 rintro _ _ _ _ ⟨a, M, rfl, rfl, rfl, han, hak, hU, hSB⟩
 refine g8 ?_
 refine AW.cond rfl (fun hc1 => ?_) fun hc1 => ?_
 ·
  simp [-List.getD_eq_getElem?_getD] at hc1
  refine g4 ?_
  have hMl := hU.len (Nat.zero_le _)
  refine g5 ?_
  refine RW.eff (fun x : {L' : List Bt.Reading // Sorts.Upd (fun r : Bt.Reading => r.Gauge) a (a + 20) M L' ∧ Sorts.SrtI (fun r : Bt.Reading => r.Gauge) L' a (a + 20)} => (.tuple #[])) (fun x => St B Φ (.row v 46 4 n (flat x.1) :: C)) rfl (e_call (args := #[v, iV (a : Int), iV (((a + 20) : Nat) : Int), .func (.func 38) #[] #[]]) own99 rfl rfl (fun w1 hw1 => insertion_c hBE hv (by omega) hn (by omega) (by omega) w1 hw1)) ?_
  rintro ⟨K1, hK1⟩
  refine g11 ?_
  refine RW.q (v := iV (((a + 20 + 20) : Nat) : Int)) rfl (q_as (v := iV (((a + 20) + 20 : Nat) : Int)) (q_add rfl rfl (by omega) (by unfold I64; omega)) (congrArg (Value.int .i64) (by omega))) ?_
  refine g3 ?_
  have hMl := hU.len (Nat.zero_le _)
  exact Post.back (s' := _) (J' := _) (m' := _) (by omega) ⟨a + 20, _, rfl, rfl, rfl, (by omega), (Sorts.mul_next hak), (hU.trans (hK1.1.wide (by omega) (Nat.zero_le _) (by omega) (by omega))), (hSB.step hak (by omega) hK1.1 (Nat.le_refl _) hK1.2)⟩ ⟨rfl, rfl, rfl, rfl, rfl, rfl, trivial⟩ (fun _ h => h)
 ·
  simp [-List.getD_eq_getElem?_getD] at hc1
  refine g6 ?_
  have hMl := hU.len (Nat.zero_le _)
  refine g5 ?_
  refine RW.eff (fun x : {L' : List Bt.Reading // Sorts.Upd (fun r : Bt.Reading => r.Gauge) a n M L' ∧ Sorts.SrtI (fun r : Bt.Reading => r.Gauge) L' a n} => (.tuple #[])) (fun x => St B Φ (.row v 46 4 n (flat x.1) :: C)) rfl (e_call (args := #[v, iV (a : Int), iV (n : Int), .func (.func 38) #[] #[]]) own99 rfl rfl (fun w1 hw1 => insertion_c hBE hv (by omega) hn (by omega) (by omega) w1 hw1)) ?_
  rintro ⟨K2, hK2⟩
  refine g3 ?_
  have hMl := hU.len (Nat.zero_le _)
  have hUa : Sorts.Upd (fun r : Bt.Reading => r.Gauge) 0 n L K2 := hU.trans (hK2.1.wide (by omega) (Nat.zero_le _) (by omega) (by omega))
  have hSBa : Sorts.SB (fun r : Bt.Reading => r.Gauge) K2 20 0 n := hSB.step hak (by omega) hK2.1 (by omega) hK2.2
  refine AW.loop (fun s J m => ∃ (bz : Nat), ∃ (N : List Bt.Reading), s = [(0, v), (1, iV (n : Int)), (2, .func (.func 38) #[] #[]), (6, iV (bz : Int))] ∧ J = St B Φ ((.row v 46 4 n (flat N)) :: C) ∧ m = n - bz ∧ (0 < bz) ∧ (bz ≤ 2 * n + 20) ∧ (Sorts.Upd (fun r : Bt.Reading => r.Gauge) 0 n L N) ∧ (Sorts.SB (fun r : Bt.Reading => r.Gauge) N bz 0 n)) (s0 := _) (J1 := _) (m0 := _) ⟨20, _, rfl, rfl, rfl, (by omega), (by omega), hUa, hSBa⟩ ⟨rfl, rfl, rfl, rfl, trivial⟩ (fun _ h => h) ?_
  rintro _ _ _ _ ⟨bz, N, rfl, rfl, rfl, hbz, hbn, hUN, hSN⟩
  refine g8 ?_
  refine AW.cond rfl (fun hc2 => ?_) fun hc2 => ?_
  ·
   simp [-List.getD_eq_getElem?_getD] at hc2
   refine g6 ?_
   refine RW.q (v := iV (((0 + 2 * bz) : Nat) : Int)) rfl (q_as (v := iV (2 * (bz : Int))) (q_mul rfl rfl rfl (by unfold I64; omega)) (congrArg (Value.int .i64) (by omega))) ?_
   refine g6 ?_
   refine AW.loop (fun s J m => ∃ (c : Nat), ∃ (K : List Bt.Reading), s = [(0, v), (1, iV (n : Int)), (2, .func (.func 38) #[] #[]), (6, iV (bz : Int)), (7, iV (c : Int)), (8, iV (((c + 2 * bz) : Nat) : Int))] ∧ J = St B Φ ((.row v 46 4 n (flat K)) :: C) ∧ m = n - c ∧ (c ≤ n) ∧ (∃ k, c = 2 * bz * k) ∧ (Sorts.Upd (fun r : Bt.Reading => r.Gauge) 0 n L K) ∧ (Sorts.SB (fun r : Bt.Reading => r.Gauge) K (2 * bz) 0 c) ∧ (Sorts.SB (fun r : Bt.Reading => r.Gauge) K bz c n)) (s0 := _) (J1 := _) (m0 := _) ⟨0, _, rfl, rfl, rfl, (by omega), ⟨0, rfl⟩, hUN, Sorts.SB.nil, hSN⟩ ⟨rfl, rfl, rfl, rfl, rfl, rfl, trivial⟩ (fun _ h => h) ?_
   rintro _ _ _ _ ⟨c, K, rfl, rfl, rfl, hcn, hck, hUK, hSK, hSR⟩
   refine g8 ?_
   refine AW.cond rfl (fun hc3 => ?_) fun hc3 => ?_
   ·
    simp [-List.getD_eq_getElem?_getD] at hc3
    refine g4 ?_
    have hKl := hUK.len (Nat.zero_le _)
    obtain ⟨ht1, ht2⟩ := hSR.two hck
    have hs1 := ht1 (by omega)
    have hs2 := ht2 (by omega)
    rw [Nat.min_eq_left (by omega)] at hs1
    rw [Nat.min_eq_left (by omega), show c + bz + bz = c + 2 * bz by omega] at hs2
    refine g8 ?_
    refine RW.eff (fun x : {L' : List Bt.Reading // Sorts.Upd (fun r : Bt.Reading => r.Gauge) c (c + 2 * bz) K L' ∧ Sorts.SrtI (fun r : Bt.Reading => r.Gauge) L' c (c + 2 * bz)} => (.tuple #[])) (fun x => St B Φ (.row v 46 4 n (flat x.1) :: C)) rfl (e_call (args := #[v, iV (c : Int), iV ((c + bz : Nat) : Int), iV (((c + 2 * bz) : Nat) : Int), .func (.func 38) #[] #[]]) own100 rfl rfl (fun w1 hw1 => symMerge_c hBE hv (by omega) hn (by omega) (by omega) (by omega) hs1 hs2 w1 hw1)) ?_
    rintro ⟨K3, hK3⟩
    refine g11 ?_
    refine RW.q (v := iV (2 * (bz : Int))) rfl (q_mul rfl rfl rfl (by unfold I64; omega)) (RW.q (v := iV (((c + 2 * bz + 2 * bz) : Nat) : Int)) rfl (q_as (v := iV ((((c + 2 * bz) : Nat) : Int) + (2 * (bz : Int)))) (q_add rfl rfl (by omega) (by unfold I64; omega)) (congrArg (Value.int .i64) (by omega))) ?_)
    refine g3 ?_
    exact Post.back (s' := _) (J' := _) (m' := _) (by omega) ⟨c + 2 * bz, _, rfl, rfl, rfl, (by omega), (Sorts.mul_next hck), (hUK.trans (hK3.1.wide (by omega) (Nat.zero_le _) (by omega) (by omega))), (hSK.step hck (by omega) hK3.1 (Nat.le_refl _) hK3.2), (hSR.right hK3.1 (by omega))⟩ ⟨rfl, rfl, rfl, rfl, rfl, rfl, trivial⟩ (fun _ h => h)
   ·
    simp [-List.getD_eq_getElem?_getD] at hc3
    refine g21 ?_
    refine AW.cond rfl (fun hc4 => ?_) fun hc4 => ?_
    ·
     simp [-List.getD_eq_getElem?_getD] at hc4
     have hKl := hUK.len (Nat.zero_le _)
     obtain ⟨ht1, ht2⟩ := hSR.two hck
     have hs1 := ht1 (by omega)
     have hs2 := ht2 (by omega)
     rw [Nat.min_eq_left (by omega)] at hs1
     rw [Nat.min_eq_right (by omega)] at hs2
     refine g6 ?_
     refine RW.eff (fun x : {L' : List Bt.Reading // Sorts.Upd (fun r : Bt.Reading => r.Gauge) c n K L' ∧ Sorts.SrtI (fun r : Bt.Reading => r.Gauge) L' c n} => (.tuple #[])) (fun x => St B Φ (.row v 46 4 n (flat x.1) :: C)) rfl (e_call (args := #[v, iV (c : Int), iV ((c + bz : Nat) : Int), iV (n : Int), .func (.func 38) #[] #[]]) own100 rfl rfl (fun w1 hw1 => symMerge_c hBE hv (by omega) hn (by omega) (by omega) (by omega) hs1 hs2 w1 hw1)) ?_
     rintro ⟨K4, hK4⟩
     refine g4 ?_
     refine RW.q (v := iV (((2 * bz) : Nat) : Int)) rfl (q_as (v := iV ((bz : Int) * 2)) (q_mul rfl rfl rfl (by unfold I64; omega)) (congrArg (Value.int .i64) (by omega))) ?_
     refine g3 ?_
     exact Post.back (s' := _) (J' := _) (m' := _) (by omega) ⟨2 * bz, _, rfl, rfl, rfl, (by omega), (by omega), (hUK.trans (hK4.1.wide (by omega) (Nat.zero_le _) (by omega) (by omega))), (hSK.step hck (by omega) hK4.1 (by omega) hK4.2)⟩ ⟨rfl, rfl, rfl, rfl, trivial⟩ (fun _ h => h)
    ·
     simp [-List.getD_eq_getElem?_getD] at hc4
     refine g4 ?_
     refine RW.q (v := iV (((2 * bz) : Nat) : Int)) rfl (q_as (v := iV ((bz : Int) * 2)) (q_mul rfl rfl rfl (by unfold I64; omega)) (congrArg (Value.int .i64) (by omega))) ?_
     refine g3 ?_
     have hsc : Sorts.SrtI (fun r : Bt.Reading => r.Gauge) K c n := by
      by_cases h9 : c < n
      ·
       have h8 := (hSR.two hck).1 h9
       rwa [Nat.min_eq_right (by omega)] at h8
      ·
       exact Sorts.SrtI.small (by omega)
     exact Post.back (s' := _) (J' := _) (m' := _) (by omega) ⟨2 * bz, _, rfl, rfl, rfl, (by omega), (by omega), hUK, (hSK.step hck (by omega) (Sorts.Upd.refl _ _ _) (by omega) hsc)⟩ ⟨rfl, rfl, rfl, rfl, trivial⟩ (fun _ h => h)
  ·
   simp [-List.getD_eq_getElem?_getD] at hc2
   refine g4 ?_
   refine fin_none (J' := St B Φ (.row v 46 4 n (flat N) :: C)) rfl rfl (fun _ h => h) (fun w' hw' => ⟨⟨N, ⟨hUN, hSN.all (by omega)⟩⟩, rfl, hw'⟩)
theorem sortStable_c {B : Bs} {Φ : Hp} {C : List Chunk} (hBE : B.E = []) {v : Value} {n : Nat} {L : List Bt.Reading} (hv : IsSl v n) (hL : L.length = n) (hn : n ≤ 1000000) (w : World) (hW : (St B Φ (.row v 46 4 n (flat L) :: C)).p w) :
  Calls Try.prog 37 #[v, .func (.func 38) #[] #[]] w fun e w' => ∃ x : {L' : List Bt.Reading // Sorts.Upd (fun r : Bt.Reading => r.Gauge) 0 n L L' ∧ Sorts.SrtI (fun r : Bt.Reading => r.Gauge) L' 0 n}, e = .returned (.tuple #[]) ∧ (St B Φ (.row v 46 4 n (flat x.1) :: C)).p w' := by
 refine calls_of_AW (args := [v, .func (.func 38) #[] #[]]) Try.func37 rfl (Nat.le_of_ble_eq_true rfl) (St B Φ ((.row v 46 4 n (flat L)) :: C)) hW ?_
 show AW Try.prog 9 [] _ _ _ [(0, v), (1, .func (.func 38) #[] #[])] _
 refine g5 ?_
 refine RW.eff (fun x : {L' : List Bt.Reading // Sorts.Upd (fun r : Bt.Reading => r.Gauge) 0 n L L' ∧ Sorts.SrtI (fun r : Bt.Reading => r.Gauge) L' 0 n} => (.tuple #[])) (fun x => St B Φ (.row v 46 4 n (flat x.1) :: C)) rfl (e_call (args := #[v, iV (n : Int), .func (.func 38) #[] #[]]) own73 rfl rfl (fun w1 hw1 => stable_c hBE hv (by omega) hn  w1 hw1)) ?_
 rintro ⟨K1, hK1⟩
 refine g1 ?_
 refine fin_none (J' := St B Φ (.row v 46 4 n (flat K1) :: C)) rfl rfl (fun _ h => h) (fun w' hw' => ⟨⟨K1, hK1⟩, rfl, hw'⟩)
end Go.Proofs.Ytblfeidlnhdekaa
