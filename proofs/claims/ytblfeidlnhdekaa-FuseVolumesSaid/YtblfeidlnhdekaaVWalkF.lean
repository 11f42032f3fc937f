/- Walks (part WalkF), printed by walk2.py. Conditions: those of each theorem. -/
import Derived.Test.YtblfeidlnhdekaaVWalkE
namespace Go.Proofs.Ytblfeidlnhdekaa
open Go Go.K Go.RowKit

theorem symOk {B : Bs} {Φ : Hp} {C : List Chunk} (hBE : B.E = []) {v : Value} {n : Nat} (hv : IsSl v n) (hn : n ≤ 4611686018427387903) : ∀ D, SymOk B Φ C v n D
 | 0 => fun _ _ _ _ _ _ _ _ hD _ _ _ _ => absurd hD (Nat.not_lt_zero _)
 | D + 1 => fun _ _ _ _ hL ham hmb hb hD hs1 hs2 w hW => symStep_c hBE hv hL hn (symOk hBE hv hn D) (by omega) ham hmb hb hs1 hs2 w hW
theorem symMerge_c {B : Bs} {Φ : Hp} {C : List Chunk} (hBE : B.E = []) {v : Value} {n : Nat} {L : List Bt.Reading} (hv : IsSl v n) (hL : L.length = n) (hn : n ≤ 4611686018427387903) {a mm b : Nat} (ham : a < mm) (hmb : mm < b) (hb : b ≤ n) (hs1 : Sorts.SrtI (fun r : Bt.Reading => r.Gauge) L a mm) (hs2 : Sorts.SrtI (fun r : Bt.Reading => r.Gauge) L mm b) (w : World) (hW : (St B Φ (.row v 46 4 n (flat L) :: C)).p w) :
  Calls Try.prog 100 #[v, .int .i64 (a : Int), .int .i64 (mm : Int), .int .i64 (b : Int), .func (.func 38) #[] #[]] w fun e w' => ∃ x : {L' : List Bt.Reading // Sorts.Upd (fun r : Bt.Reading => r.Gauge) a b L L' ∧ Sorts.SrtI (fun r : Bt.Reading => r.Gauge) L' a b}, e = .returned (.tuple #[]) ∧ (St B Φ (.row v 46 4 n (flat x.1) :: C)).p w' :=
 symOk hBE hv hn (b - a + 1) L a mm b hL ham hmb hb (by omega) hs1 hs2 w hW
set_option maxRecDepth 8000 in
set_option maxHeartbeats 1000000 in
theorem stable_c {B : Bs} {Φ : Hp} {C : List Chunk} (hBE : B.E = []) {v : Value} {n : Nat} {L : List Bt.Reading} (hv : IsSl v n) (hL : L.length = n) (hn : n ≤ 1000000) (w : World) (hW : (St B Φ (.row v 46 4 n (flat L) :: C)).p w) :
  Calls Try.prog 73 #[v, .int .i64 (n : Int), .func (.func 38) #[] #[]] w fun e w' => ∃ x : {L' : List Bt.Reading // Sorts.Upd (fun r : Bt.Reading => r.Gauge) 0 n L L' ∧ Sorts.SrtI (fun r : Bt.Reading => r.Gauge) L' 0 n}, e = .returned (.tuple #[]) ∧ (St B Φ (.row v 46 4 n (flat x.1) :: C)).p w' := by
 refine calls_of_AW (args := [v, .int .i64 (n : Int), .func (.func 38) #[] #[]]) Try.func73 rfl (Nat.le_of_ble_eq_true rfl) (St B Φ ((.row v 46 4 n (flat L)) :: C)) hW ?_
 show AW Try.prog 63 [] _ _ _ [(0, v), (1, .int .i64 (n : Int)), (2, .func (.func 38) #[] #[])] _
 have hn9 := hn
 replace hn : n ≤ 4611686018427387903 := by omega
 refine AW.seq (AW.region (RW.as rfl (RW.nil (Post.then_n (AW.seq (AW.region (RW.mv rfl (RW.as rfl (RW.as rfl ?_)))))))))
 refine RW.nil (Post.then_n (AW.seq (AW.block (AW.loop (fun s J m => ∃ (a : Nat), ∃ (M : List Bt.Reading), s = [(0, v), (1, .int .i64 (n : Int)), (2, .func (.func 38) #[] #[]), (6, .int .i64 20), (7, .int .i64 (a : Int)), (8, .int .i64 (((a + 20) : Nat) : Int))] ∧ J = St B Φ ((.row v 46 4 n (flat M)) :: C) ∧ m = n - a ∧ (a ≤ n) ∧ (∃ k, a = 20 * k) ∧ (Sorts.Upd (fun r : Bt.Reading => r.Gauge) 0 n L M) ∧ (Sorts.SB (fun r : Bt.Reading => r.Gauge) M 20 0 a)) (s0 := _) (J1 := _) (m0 := _) ⟨0, _, rfl, rfl, rfl, (by omega), ⟨0, rfl⟩, (Sorts.Upd.refl _ _ _), Sorts.SB.nil⟩ ⟨rfl, rfl, rfl, rfl, rfl, rfl, trivial⟩ (fun _ h => h) ?_))))
 rintro _ _ _ _ ⟨a, M, rfl, rfl, rfl, han, hak, hU, hSB⟩
 refine AW.seq (AW.seq (AW.region (RW.mv rfl (RW.mv rfl (RW.q (v := .bool (decide ((((a + 20) : Nat) : Int) ≤ (n : Int)))) rfl (q_leq rfl rfl) (RW.nil (Post.then_n (AW.cond (b := decide ((((a + 20) : Nat) : Int) ≤ (n : Int))) rfl (fun hc1 => ?_) (fun hc1 => ?_)))))))))
 ·
  simp [-List.getD_eq_getElem?_getD] at hc1
  refine AW.skip (Post.then_n (AW.block (AW.seq ?_)))
  have hMl := hU.len (Nat.zero_le _)
  refine AW.region (RW.mv rfl (RW.mv rfl (RW.mv rfl (RW.mv rfl (RW.eff (fun x : {L' : List Bt.Reading // Sorts.Upd (fun r : Bt.Reading => r.Gauge) a (a + 20) M L' ∧ Sorts.SrtI (fun r : Bt.Reading => r.Gauge) L' a (a + 20)} => (.tuple #[])) (fun x => St B Φ (.row v 46 4 n (flat x.1) :: C)) rfl (e_call (args := #[v, .int .i64 (a : Int), .int .i64 (((a + 20) : Nat) : Int), .func (.func 38) #[] #[]]) own99 rfl rfl (fun w1 hw1 => insertion_c hBE hv (by omega) hn (by omega) (by omega) w1 hw1)) ?_)))))
  rintro ⟨K1, hK1⟩
  refine RW.nil (Post.then_n (AW.seq (AW.region (RW.mv rfl (RW.as rfl (RW.nil (Post.then_n (AW.region (RW.mv rfl ?_)))))))))
  refine RW.mv rfl (RW.q (v := .int .i64 (((a + 20 + 20) : Nat) : Int)) rfl (q_as (v := .int .i64 (((a + 20) + 20 : Nat) : Int)) (q_add rfl rfl (by omega) (by unfold I64; omega)) (congrArg (Value.int .i64) (by omega))) (RW.as rfl (RW.nil (Post.blk_n ?_))))
  have hMl := hU.len (Nat.zero_le _)
  exact Post.back (s' := _) (J' := _) (m' := _) (by omega) ⟨a + 20, _, rfl, rfl, rfl, (by omega), (Sorts.mul_next hak), (hU.trans (hK1.1.wide (by omega) (Nat.zero_le _) (by omega) (by omega))), (hSB.step hak (by omega) hK1.1 (Nat.le_refl _) hK1.2)⟩ ⟨rfl, rfl, rfl, rfl, rfl, rfl, trivial⟩ (fun _ h => h)
 ·
  simp [-List.getD_eq_getElem?_getD] at hc1
  refine AW.exit (Post.then_x (Post.then_x (Post.blk_hit (Post.then_n ?_))))
  refine AW.seq ?_
  have hMl := hU.len (Nat.zero_le _)
  refine AW.region (RW.mv rfl (RW.mv rfl (RW.mv rfl (RW.mv rfl (RW.eff (fun x : {L' : List Bt.Reading // Sorts.Upd (fun r : Bt.Reading => r.Gauge) a n M L' ∧ Sorts.SrtI (fun r : Bt.Reading => r.Gauge) L' a n} => (.tuple #[])) (fun x => St B Φ (.row v 46 4 n (flat x.1) :: C)) rfl (e_call (args := #[v, .int .i64 (a : Int), .int .i64 (n : Int), .func (.func 38) #[] #[]]) own99 rfl rfl (fun w1 hw1 => insertion_c hBE hv (by omega) hn (by omega) (by omega) w1 hw1)) ?_)))))
  rintro ⟨K2, hK2⟩
  refine RW.nil (Post.then_n (AW.block ?_))
  have hMl := hU.len (Nat.zero_le _)
  have hUa : Sorts.Upd (fun r : Bt.Reading => r.Gauge) 0 n L K2 := hU.trans (hK2.1.wide (by omega) (Nat.zero_le _) (by omega) (by omega))
  have hSBa : Sorts.SB (fun r : Bt.Reading => r.Gauge) K2 20 0 n := hSB.step hak (by omega) hK2.1 (by omega) hK2.2
  refine AW.loop (fun s J m => ∃ (bz : Nat), ∃ (N : List Bt.Reading), s = [(0, v), (1, .int .i64 (n : Int)), (2, .func (.func 38) #[] #[]), (6, .int .i64 (bz : Int))] ∧ J = St B Φ ((.row v 46 4 n (flat N)) :: C) ∧ m = n - bz ∧ (0 < bz) ∧ (bz ≤ 2 * n + 20) ∧ (Sorts.Upd (fun r : Bt.Reading => r.Gauge) 0 n L N) ∧ (Sorts.SB (fun r : Bt.Reading => r.Gauge) N bz 0 n)) (s0 := _) (J1 := _) (m0 := _) ⟨20, _, rfl, rfl, rfl, (by omega), (by omega), hUa, hSBa⟩ ⟨rfl, rfl, rfl, rfl, trivial⟩ (fun _ h => h) ?_
  rintro _ _ _ _ ⟨bz, N, rfl, rfl, rfl, hbz, hbn, hUN, hSN⟩
  refine AW.seq (AW.seq (AW.region (RW.mv rfl (RW.mv rfl (RW.q (v := .bool (decide ((bz : Int) < (n : Int)))) rfl (q_lss rfl rfl) (RW.nil (Post.then_n (AW.cond (b := decide ((bz : Int) < (n : Int))) rfl (fun hc2 => ?_) (fun hc2 => ?_)))))))))
  ·
   simp [-List.getD_eq_getElem?_getD] at hc2
   refine AW.skip (Post.then_n (AW.block (AW.seq (AW.region (RW.mv rfl (RW.q (v := .int .i64 (((0 + 2 * bz) : Nat) : Int)) rfl (q_as (v := .int .i64 (2 * (bz : Int))) (q_mul rfl rfl rfl (by unfold I64; omega)) (congrArg (Value.int .i64) (by omega))) (RW.as rfl (RW.as rfl (RW.nil ?_)))))))))
   refine Post.then_n (AW.seq (AW.block (AW.loop (fun s J m => ∃ (c : Nat), ∃ (K : List Bt.Reading), s = [(0, v), (1, .int .i64 (n : Int)), (2, .func (.func 38) #[] #[]), (6, .int .i64 (bz : Int)), (7, .int .i64 (c : Int)), (8, .int .i64 (((c + 2 * bz) : Nat) : Int))] ∧ J = St B Φ ((.row v 46 4 n (flat K)) :: C) ∧ m = n - c ∧ (c ≤ n) ∧ (∃ k, c = 2 * bz * k) ∧ (Sorts.Upd (fun r : Bt.Reading => r.Gauge) 0 n L K) ∧ (Sorts.SB (fun r : Bt.Reading => r.Gauge) K (2 * bz) 0 c) ∧ (Sorts.SB (fun r : Bt.Reading => r.Gauge) K bz c n)) (s0 := _) (J1 := _) (m0 := _) ⟨0, _, rfl, rfl, rfl, (by omega), ⟨0, rfl⟩, hUN, Sorts.SB.nil, hSN⟩ ⟨rfl, rfl, rfl, rfl, rfl, rfl, trivial⟩ (fun _ h => h) ?_)))
   rintro _ _ _ _ ⟨c, K, rfl, rfl, rfl, hcn, hck, hUK, hSK, hSR⟩
   refine AW.seq (AW.seq (AW.region (RW.mv rfl (RW.mv rfl (RW.q (v := .bool (decide ((((c + 2 * bz) : Nat) : Int) ≤ (n : Int)))) rfl (q_leq rfl rfl) (RW.nil (Post.then_n (AW.cond (b := decide ((((c + 2 * bz) : Nat) : Int) ≤ (n : Int))) rfl (fun hc3 => ?_) (fun hc3 => ?_)))))))))
   ·
    simp [-List.getD_eq_getElem?_getD] at hc3
    refine AW.skip (Post.then_n (AW.block (AW.seq ?_)))
    have hKl := hUK.len (Nat.zero_le _)
    obtain ⟨ht1, ht2⟩ := hSR.two hck
    have hs1 := ht1 (by omega)
    have hs2 := ht2 (by omega)
    rw [Nat.min_eq_left (by omega)] at hs1
    rw [Nat.min_eq_left (by omega), show c + bz + bz = c + 2 * bz by omega] at hs2
    refine AW.region (RW.mv rfl (RW.mv rfl (RW.mv rfl (RW.mv rfl (RW.q (v := .int .i64 ((c + bz : Nat) : Int)) rfl (q_add rfl rfl (by omega) (by unfold I64; omega)) (RW.mv rfl (RW.mv rfl (RW.eff (fun x : {L' : List Bt.Reading // Sorts.Upd (fun r : Bt.Reading => r.Gauge) c (c + 2 * bz) K L' ∧ Sorts.SrtI (fun r : Bt.Reading => r.Gauge) L' c (c + 2 * bz)} => (.tuple #[])) (fun x => St B Φ (.row v 46 4 n (flat x.1) :: C)) rfl (e_call (args := #[v, .int .i64 (c : Int), .int .i64 ((c + bz : Nat) : Int), .int .i64 (((c + 2 * bz) : Nat) : Int), .func (.func 38) #[] #[]]) own100 rfl rfl (fun w1 hw1 => symMerge_c hBE hv (by omega) hn (by omega) (by omega) (by omega) hs1 hs2 w1 hw1)) ?_))))))))
    rintro ⟨K3, hK3⟩
    refine RW.nil (Post.then_n (AW.seq (AW.region (RW.mv rfl (RW.as rfl (RW.nil (Post.then_n (AW.region (RW.mv rfl ?_)))))))))
    refine RW.mv rfl (RW.q (v := .int .i64 (2 * (bz : Int))) rfl (q_mul rfl rfl rfl (by unfold I64; omega)) (RW.q (v := .int .i64 (((c + 2 * bz + 2 * bz) : Nat) : Int)) rfl (q_as (v := .int .i64 ((((c + 2 * bz) : Nat) : Int) + (2 * (bz : Int)))) (q_add rfl rfl (by omega) (by unfold I64; omega)) (congrArg (Value.int .i64) (by omega))) (RW.as rfl (RW.nil (Post.blk_n ?_)))))
    exact Post.back (s' := _) (J' := _) (m' := _) (by omega) ⟨c + 2 * bz, _, rfl, rfl, rfl, (by omega), (Sorts.mul_next hck), (hUK.trans (hK3.1.wide (by omega) (Nat.zero_le _) (by omega) (by omega))), (hSK.step hck (by omega) hK3.1 (Nat.le_refl _) hK3.2), (hSR.right hK3.1 (by omega))⟩ ⟨rfl, rfl, rfl, rfl, rfl, rfl, trivial⟩ (fun _ h => h)
   ·
    simp [-List.getD_eq_getElem?_getD] at hc3
    refine AW.exit (Post.then_x (Post.then_x (Post.blk_hit (Post.then_n ?_))))
    refine AW.seq (AW.seq (AW.region (RW.mv rfl (RW.mv rfl (RW.q (v := .int .i64 ((c + bz : Nat) : Int)) rfl (q_add rfl rfl (by omega) (by unfold I64; omega)) (RW.as rfl (RW.nil (Post.then_n (AW.seq ?_)))))))))
    refine AW.region (RW.mv rfl (RW.mv rfl (RW.q (v := .bool (decide (((c + bz : Nat) : Int) < (n : Int)))) rfl (q_lss rfl rfl) (RW.nil (Post.then_n (AW.cond (b := decide (((c + bz : Nat) : Int) < (n : Int))) rfl (fun hc4 => ?_) (fun hc4 => ?_)))))))
    ·
     simp [-List.getD_eq_getElem?_getD] at hc4
     have hKl := hUK.len (Nat.zero_le _)
     obtain ⟨ht1, ht2⟩ := hSR.two hck
     have hs1 := ht1 (by omega)
     have hs2 := ht2 (by omega)
     rw [Nat.min_eq_left (by omega)] at hs1
     rw [Nat.min_eq_right (by omega)] at hs2
     refine AW.region (RW.mv rfl (RW.mv rfl (RW.mv rfl (RW.mv rfl (RW.mv rfl (RW.eff (fun x : {L' : List Bt.Reading // Sorts.Upd (fun r : Bt.Reading => r.Gauge) c n K L' ∧ Sorts.SrtI (fun r : Bt.Reading => r.Gauge) L' c n} => (.tuple #[])) (fun x => St B Φ (.row v 46 4 n (flat x.1) :: C)) rfl (e_call (args := #[v, .int .i64 (c : Int), .int .i64 ((c + bz : Nat) : Int), .int .i64 (n : Int), .func (.func 38) #[] #[]]) own100 rfl rfl (fun w1 hw1 => symMerge_c hBE hv (by omega) hn (by omega) (by omega) (by omega) hs1 hs2 w1 hw1)) ?_))))))
     rintro ⟨K4, hK4⟩
     refine RW.nil (Post.then_n (AW.region (RW.mv rfl (RW.q (v := .int .i64 (((2 * bz) : Nat) : Int)) rfl (q_as (v := .int .i64 ((bz : Int) * 2)) (q_mul rfl rfl rfl (by unfold I64; omega)) (congrArg (Value.int .i64) (by omega))) (RW.as rfl (RW.nil (Post.blk_n ?_)))))))
     exact Post.back (s' := _) (J' := _) (m' := _) (by omega) ⟨2 * bz, _, rfl, rfl, rfl, (by omega), (by omega), (hUK.trans (hK4.1.wide (by omega) (Nat.zero_le _) (by omega) (by omega))), (hSK.step hck (by omega) hK4.1 (by omega) hK4.2)⟩ ⟨rfl, rfl, rfl, rfl, trivial⟩ (fun _ h => h)
    ·
     simp [-List.getD_eq_getElem?_getD] at hc4
     refine AW.skip (Post.then_n (AW.region (RW.mv rfl (RW.q (v := .int .i64 (((2 * bz) : Nat) : Int)) rfl (q_as (v := .int .i64 ((bz : Int) * 2)) (q_mul rfl rfl rfl (by unfold I64; omega)) (congrArg (Value.int .i64) (by omega))) (RW.as rfl (RW.nil (Post.blk_n ?_)))))))
     have hsc : Sorts.SrtI (fun r : Bt.Reading => r.Gauge) K c n := by
      by_cases h9 : c < n
      ·
       have h8 := (hSR.two hck).1 h9
       rwa [Nat.min_eq_right (by omega)] at h8
      ·
       exact Sorts.SrtI.small (by omega)
     exact Post.back (s' := _) (J' := _) (m' := _) (by omega) ⟨2 * bz, _, rfl, rfl, rfl, (by omega), (by omega), hUK, (hSK.step hck (by omega) (Sorts.Upd.refl _ _ _) (by omega) hsc)⟩ ⟨rfl, rfl, rfl, rfl, trivial⟩ (fun _ h => h)
  ·
   simp [-List.getD_eq_getElem?_getD] at hc2
   refine AW.exit (Post.then_x (Post.then_x (Post.blk_hit ?_)))
   refine fin_none (J' := St B Φ (.row v 46 4 n (flat N) :: C)) rfl rfl (fun _ h => h) (fun w' hw' => ⟨⟨N, ⟨hUN, hSN.all (by omega)⟩⟩, rfl, hw'⟩)

set_option maxRecDepth 8000 in
set_option maxHeartbeats 1000000 in
theorem sortStable_c {B : Bs} {Φ : Hp} {C : List Chunk} (hBE : B.E = []) {v : Value} {n : Nat} {L : List Bt.Reading} (hv : IsSl v n) (hL : L.length = n) (hn : n ≤ 1000000) (w : World) (hW : (St B Φ (.row v 46 4 n (flat L) :: C)).p w) :
  Calls Try.prog 37 #[v, .func (.func 38) #[] #[]] w fun e w' => ∃ x : {L' : List Bt.Reading // Sorts.Upd (fun r : Bt.Reading => r.Gauge) 0 n L L' ∧ Sorts.SrtI (fun r : Bt.Reading => r.Gauge) L' 0 n}, e = .returned (.tuple #[]) ∧ (St B Φ (.row v 46 4 n (flat x.1) :: C)).p w' := by
 refine calls_of_AW (args := [v, .func (.func 38) #[] #[]]) Try.func37 rfl (Nat.le_of_ble_eq_true rfl) (St B Φ ((.row v 46 4 n (flat L)) :: C)) hW ?_
 show AW Try.prog 9 [] _ _ _ [(0, v), (1, .func (.func 38) #[] #[])] _
 refine AW.region (RW.mv rfl (RW.mv rfl (RW.q (v := .int .i64 (n : Int)) rfl (q_len_sl rfl hv uT37) (RW.mv rfl (RW.eff (fun x : {L' : List Bt.Reading // Sorts.Upd (fun r : Bt.Reading => r.Gauge) 0 n L L' ∧ Sorts.SrtI (fun r : Bt.Reading => r.Gauge) L' 0 n} => (.tuple #[])) (fun x => St B Φ (.row v 46 4 n (flat x.1) :: C)) rfl (e_call (args := #[v, .int .i64 (n : Int), .func (.func 38) #[] #[]]) own73 rfl rfl (fun w1 hw1 => stable_c hBE hv (by omega) hn  w1 hw1)) ?_)))))
 rintro ⟨K1, hK1⟩
 refine RW.nil (fin_none (J' := St B Φ (.row v 46 4 n (flat K1) :: C)) rfl rfl (fun _ h => h) (fun w' hw' => ⟨⟨K1, hK1⟩, rfl, hw'⟩))

end Go.Proofs.Ytblfeidlnhdekaa
