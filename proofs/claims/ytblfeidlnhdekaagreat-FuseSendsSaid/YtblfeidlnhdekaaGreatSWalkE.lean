/- Lemmas. Conditions: those of each theorem. -/
import Derived.Test.YtblfeidlnhdekaaGreatSWalkD
set_option maxRecDepth 8000
set_option maxHeartbeats 16000000
namespace Go.Proofs.YtblfeidlnhdekaaGreat
open Go Go.K Go.RowKit
attribute [local irreducible] AW RW DW Post Qt
def SymOk (B : Bs) (Φ : Hp) (C : List Chunk) (v : Value) (n D : Nat) : Prop := ∀ (L : List Bt.Reading) (a mm b : Nat), L.length = n → a < mm → mm < b → b ≤ n → b - a < D → Sorts.SrtI (fun r : Bt.Reading => r.Gauge) L a mm → Sorts.SrtI (fun r : Bt.Reading => r.Gauge) L mm b → ∀ w, (St B Φ (.row v 53 4 n (flat L) :: C)).p w →
  Calls pg 106 #[v, iV (a : Int), iV (mm : Int), iV (b : Int), .func (.func 34) #[] #[]] w fun e w' => ∃ x : {L' : List Bt.Reading // Sorts.Upd (fun r : Bt.Reading => r.Gauge) a b L L' ∧ Sorts.SrtI (fun r : Bt.Reading => r.Gauge) L' a b}, e = .returned (.tuple #[]) ∧ (St B Φ (.row v 53 4 n (flat x.1) :: C)).p w'
theorem rotate_c {B : Bs} {Φ : Hp} {C : List Chunk} (hBE : B.E = []) {v : Value} {n : Nat} {L : List Bt.Reading} (hv : IsSl v n) (hL : L.length = n) (hn : n ≤ 4611686018427387903) {G0 : Nat → Bt.Reading} {a mm b : Nat} (hG0 : Sorts.Is L n G0) (ham : a < mm) (hmb : mm < b) (hb : b ≤ n) (w : World) (hW : (St B Φ (.row v 53 4 n (flat L) :: C)).p w) :
  Calls pg 117 #[v, iV (a : Int), iV (mm : Int), iV (b : Int), .func (.func 34) #[] #[]] w fun e w' => ∃ x : {L' : List Bt.Reading // Sorts.Is L' n (Sorts.rotG G0 a mm b)}, e = .returned (.tuple #[]) ∧ (St B Φ (.row v 53 4 n (flat x.1) :: C)).p w' := by
 refine inJ5 58 Tryz.func117 rfl rfl (J := St B Φ ((.row v 53 4 n (flat L)) :: C)) hW ?_
 refine gs4 ?_
 refine RW.q (v := iV ((mm - a : Nat) : Int)) rfl (q_as (v := iV ((mm : Int) - (a : Int))) (q_sub rfl rfl (by omega) (by unfold I64; omega)) (congrArg (Value.int .i64) (by omega))) ?_
 refine gs7 ?_
 refine RW.q (v := iV ((b - mm : Nat) : Int)) rfl (q_as (v := iV ((b : Int) - (mm : Int))) (q_sub rfl rfl (by omega) (by unfold I64; omega)) (congrArg (Value.int .i64) (by omega))) ?_
 refine gs5 ?_
 refine AW.lp (fun s J m => ∃ (i : Nat), ∃ (j : Nat), ∃ (K : List Bt.Reading), ∃ (G : Nat → Bt.Reading), s = [(0, v), (1, iV (a : Int)), (2, iV (mm : Int)), (3, iV (b : Int)), (4, .func (.func 34) #[] #[]), (10, iV (i : Int)), (11, iV (j : Int))] ∧ J = St B Φ ((.row v 53 4 n (flat K)) :: C) ∧ m = i + j ∧ (0 < i) ∧ (i ≤ mm) ∧ (0 < j) ∧ (mm + j ≤ n) ∧ (Sorts.Is K n G) ∧ (Sorts.rotG G (mm - i) mm (mm + j) = Sorts.rotG G0 a mm b)) ⟨mm - a, b - mm, _, _, rfl, rfl, rfl, (by omega), (by omega), (by omega), (by omega), hG0, (by rw [show mm - (mm - a) = a by omega, show mm + (b - mm) = b by omega])⟩ ?_
 rintro _ _ _ _ ⟨i, j, K, G, rfl, rfl, rfl, hi0, him, hj0, hjn, hKG, hT⟩
 refine gs8 ?_
 refine AW.cond rfl (fun hc1 => ?_) fun hc1 => ?_
 ·
  simp [-List.getD_eq_getElem?_getD] at hc1
  refine gs10 ?_
  refine AW.cond rfl (fun hc2 => ?_) fun hc2 => ?_
  ·
   simp [-List.getD_eq_getElem?_getD] at hc2
   refine gs5 ?_
   refine RW.q (v := iV ((mm - i : Nat) : Int)) rfl (q_as (v := iV ((mm : Int) - (i : Int))) (q_sub rfl rfl (by omega) (by unfold I64; omega)) (congrArg (Value.int .i64) (by omega))) ?_
   refine gs3 ?_
   refine RW.ec rfl (fun w1 hw1 => swapRange_c hBE hv hKG.1 hn hKG (by omega) (by omega) w1 hw1) rfl rfl ?_
   rintro ⟨K1, hK1⟩
   refine gs5 ?_
   refine RW.q (v := iV ((i - j : Nat) : Int)) rfl (q_as (v := iV ((i : Int) - (j : Int))) (q_sub rfl rfl (by omega) (by unfold I64; omega)) (congrArg (Value.int .i64) (by omega))) ?_
   refine gs3 ?_
   exact Post.bk ⟨i - j, j, _, _, rfl, rfl, rfl, (by omega), (by omega), (by omega), (by omega), hK1, (by rw [Sorts.rot_left him (by omega)]; exact hT)⟩
  ·
   simp [-List.getD_eq_getElem?_getD] at hc2
   refine gs5 ?_
   refine RW.q (v := iV ((mm - i : Nat) : Int)) rfl (q_as (v := iV ((mm : Int) - (i : Int))) (q_sub rfl rfl (by omega) (by unfold I64; omega)) (congrArg (Value.int .i64) (by omega))) ?_
   refine gs4 ?_
   refine RW.q (v := iV ((mm + j - i : Nat) : Int)) rfl (q_as (v := iV (((mm + j : Nat) : Int) - (i : Int))) (q_sub rfl rfl (by omega) (by unfold I64; omega)) (congrArg (Value.int .i64) (by omega))) ?_
   refine gs2 ?_
   refine RW.ec rfl (fun w1 hw1 => swapRange_c hBE hv hKG.1 hn hKG (by omega) (by omega) w1 hw1) rfl rfl ?_
   rintro ⟨K2, hK2⟩
   refine gs5 ?_
   refine RW.q (v := iV ((j - i : Nat) : Int)) rfl (q_as (v := iV ((j : Int) - (i : Int))) (q_sub rfl rfl (by omega) (by unfold I64; omega)) (congrArg (Value.int .i64) (by omega))) ?_
   refine gs3 ?_
   exact Post.bk ⟨i, j - i, _, _, rfl, rfl, rfl, (by omega), (by omega), (by omega), (by omega), hK2, (by rw [Sorts.rot_right him (by omega)]; exact hT)⟩
 ·
  simp [-List.getD_eq_getElem?_getD] at hc1
  refine gs9 ?_
  refine RW.q (v := iV ((mm - i : Nat) : Int)) rfl (q_as (v := iV ((mm : Int) - (i : Int))) (q_sub rfl rfl (by omega) (by unfold I64; omega)) (congrArg (Value.int .i64) (by omega))) ?_
  refine gs3 ?_
  refine RW.ec rfl (fun w1 hw1 => swapRange_c hBE hv hKG.1 hn hKG (by omega) (by omega) w1 hw1) rfl rfl ?_
  rintro ⟨K3, hK3⟩
  refine gs1 ?_
  have hij : i = j := by omega
  subst hij
  rw [Sorts.rot_same him, hT] at hK3
  refine fin_none (J' := St B Φ (.row v 53 4 n (flat K3) :: C)) rfl rfl (fun _ h => h) (fun w' hw' => ⟨⟨K3, hK3⟩, rfl, hw'⟩)
theorem symStep_c {B : Bs} {Φ : Hp} {C : List Chunk} (hBE : B.E = []) {v : Value} {n : Nat} {L : List Bt.Reading} (hv : IsSl v n) (hL : L.length = n) (hn : n ≤ 4611686018427387903) {a mm b D : Nat} (ih : SymOk B Φ C v n D) (hD : b - a ≤ D) (ham : a < mm) (hmb : mm < b) (hb : b ≤ n) (hs1 : Sorts.SrtI (fun r : Bt.Reading => r.Gauge) L a mm) (hs2 : Sorts.SrtI (fun r : Bt.Reading => r.Gauge) L mm b) (w : World) (hW : (St B Φ (.row v 53 4 n (flat L) :: C)).p w) :
  Calls pg 106 #[v, iV (a : Int), iV (mm : Int), iV (b : Int), .func (.func 34) #[] #[]] w fun e w' => ∃ x : {L' : List Bt.Reading // Sorts.Upd (fun r : Bt.Reading => r.Gauge) a b L L' ∧ Sorts.SrtI (fun r : Bt.Reading => r.Gauge) L' a b}, e = .returned (.tuple #[]) ∧ (St B Φ (.row v 53 4 n (flat x.1) :: C)).p w' := by
 refine inJ5 220 Tryz.func106 rfl rfl (J := St B Φ ((.row v 53 4 n (flat L)) :: C)) hW ?_
 refine gs9 ?_
 refine AW.cond rfl (fun hc1 => ?_) fun hc1 => ?_
 ·
  simp [-List.getD_eq_getElem?_getD] at hc1
  refine gs14 ?_
  refine AW.lp (fun s J m => ∃ (i : Nat), ∃ (j : Nat), s = [(0, v), (1, iV (a : Int)), (2, iV (mm : Int)), (3, iV (b : Int)), (4, .func (.func 34) #[] #[]), (10, iV (i : Int)), (11, iV (j : Int))] ∧ J = St B Φ ((.row v 53 4 n (flat L)) :: C) ∧ m = j - i ∧ (mm ≤ i) ∧ (i ≤ j) ∧ (j ≤ b) ∧ (∀ p, mm ≤ p → p < i → (L.getD p default).Gauge < (L.getD a default).Gauge) ∧ (∀ p, j ≤ p → p < b → (L.getD a default).Gauge ≤ (L.getD p default).Gauge)) ⟨mm, b, rfl, rfl, rfl, (by omega), (by omega), (by omega), (fun p h1 h2 => by omega), (fun p h1 h2 => by omega)⟩ ?_
  rintro _ _ _ _ ⟨i, j, rfl, rfl, rfl, hmi, hij, hjb, hlo, hhi⟩
  refine gs8 ?_
  refine AW.cond rfl (fun hc2 => ?_) fun hc2 => ?_
  ·
   simp [-List.getD_eq_getElem?_getD] at hc2
   refine gs4 ?_
   obtain ⟨q, hq⟩ : ∃ q, (i + j) / 2 = q := ⟨_, rfl⟩
   refine gs4 ?_
   refine RW.q (v := .int .u64 ((i + j : Nat) : Int)) rfl (q_toU (r := (i + j)) rfl uT3 uT139 rfl (by omega)) (RW.q (v := .int .u64 (((i + j) / 2 ^ 1 : Nat) : Int)) rfl (q_shrU' (a := (i + j)) (c := 1) rfl rfl (by omega)) (RW.q (v := iV (q : Int)) rfl (q_as (v := iV (((i + j) / 2 ^ 1 : Nat) : Int)) (q_ofU (a := ((i + j) / 2 ^ 1)) rfl uT139 uT3 (by omega)) (congrArg (Value.int .i64) (by rw [Nat.pow_one, hq]))) ?_))
   refine gs4 ?_
   refine AW.draw (J0 := St B Φ ((.row v 53 4 n (flat L)) :: C)) [.q, .q, .q, .q, .q, .q, .q, .q, .q, .q, .q] [0, 1, 2, 3, 4, 5, 6, 7, 8, 9, 10] hmix (by kernel_rfl) ?_
   refine gs4 ?_
   refine DW.q (v := .agg #[iV ((L.getD q default).Gauge), iV ((L.getD q default).Hour), iV ((L.getD q default).Value.Lo), iV ((L.getD q default).Value.Hi)]) (fun _ h => h) rfl (q_loadAgg rfl uT53 rfl sz53 rfl (Cells.rowE even53 0 rfl (by omega) rfl)) ?_
   refine gs3 ?_
   refine DW.q (v := .agg #[iV ((L.getD a default).Gauge), iV ((L.getD a default).Hour), iV ((L.getD a default).Value.Lo), iV ((L.getD a default).Value.Hi)]) (fun _ h => h) rfl (q_loadAgg rfl uT53 rfl sz53 rfl (Cells.rowE even53 0 rfl (by omega) rfl)) (DW.c (fun _ h => h) rfl (fun w1 hw1 => cmpG_c w1 (Go.K.hp w1) (Hp.le_refl _) (x := (L.getD q default)) (y := (L.getD a default))) rfl rfl (DW.q (v := .bool (decide ((L.getD q default).Gauge < (L.getD a default).Gauge))) (fun _ h => h) rfl (q_as (v := .bool (decide (Fu.cmpI ((L.getD q default).Gauge) ((L.getD a default).Gauge) < 0))) (q_lss rfl rfl) (congrArg (Value.bool) (decide_eq_decide.2 Fu.cmp_lt))) ?_))
   refine gs2 ?_
   refine AW.cond rfl (fun hc3 => ?_) fun hc3 => ?_
   ·
    simp [-List.getD_eq_getElem?_getD] at hc3
    refine gs6 ?_
    have hcq : (L.getD q default).Gauge < (L.getD a default).Gauge := by simpa using hc3
    exact Post.bk ⟨q + 1, j, rfl, rfl, rfl, (by omega), (by omega), (by omega), (fun p hp1 hp2 => Int.lt_of_le_of_lt (hs2.le (p := p) (q := q) hp1 (by omega) (by omega)) hcq), hhi⟩
   ·
    simp [-List.getD_eq_getElem?_getD] at hc3
    refine gs5 ?_
    have hcq : (L.getD a default).Gauge ≤ (L.getD q default).Gauge := by simpa using hc3
    exact Post.bk ⟨i, q, rfl, rfl, rfl, (by omega), (by omega), (by omega), hlo, (fun p hp1 hp2 => Int.le_trans hcq (hs2.le (p := q) (q := p) (by omega) hp1 hp2))⟩
  ·
   simp [-List.getD_eq_getElem?_getD] at hc2
   refine gs13 ?_
   refine AW.lp (fun s J m => ∃ (k : Nat), ∃ (K : List Bt.Reading), s = [(0, v), (1, iV (a : Int)), (2, iV (mm : Int)), (3, iV (b : Int)), (10, iV (i : Int)), (13, iV (k : Int))] ∧ J = St B Φ ((.row v 53 4 n (flat K)) :: C) ∧ m = i - k ∧ (a ≤ k) ∧ (k < i) ∧ (Sorts.Upd (fun r : Bt.Reading => r.Gauge) a b L K) ∧ (Sorts.UpI L K a k b)) ⟨a, _, rfl, rfl, rfl, (by omega), (by omega), (Sorts.Upd.refl _ _ _), (Sorts.UpI.start _ _ _)⟩ ?_
   rintro _ _ _ _ ⟨k, K, rfl, rfl, rfl, hak, hki, hU, hI⟩
   refine gs5 ?_
   refine RW.q (v := iV (((i - 1) : Nat) : Int)) rfl (q_as (v := iV ((i : Int) - 1)) (q_sub rfl rfl (by omega) (by unfold I64; omega)) (congrArg (Value.int .i64) (by omega))) ?_
   refine gs3 ?_
   refine AW.cond rfl (fun hc4 => ?_) fun hc4 => ?_
   ·
    simp [-List.getD_eq_getElem?_getD] at hc4
    refine gs4 ?_
    have hKl := hI.len
    refine AW.draw (J0 := St B Φ C) [.q, .q, .q, .q, .q, .q, .q, .q, .q, .q, .q, .q, .p, .e, .q, .e, .q, .e] [0, 1, 2, 3, 4, 5, 6, 7, 8, 10, 11, 12, 9, 13, 14, 15, 16, 17] hmix (by kernel_rfl) (DW.q (v := v) (fun _ h => (StP.drop h (by exact .cons _ ((List.Sublist.refl _))))) rfl (q_move rfl) (DW.q (v := iV (k : Int)) (fun _ h => (StP.drop h (by exact .cons _ ((List.Sublist.refl _))))) rfl (q_move rfl) (DW.q (v := v) (fun _ h => (StP.drop h (by exact .cons _ ((List.Sublist.refl _))))) rfl (q_move rfl) (DW.q (v := iV (k : Int)) (fun _ h => (StP.drop h (by exact .cons _ ((List.Sublist.refl _))))) rfl (q_move rfl) (DW.q (v := iV ((k + 1 : Nat) : Int)) (fun _ h => (StP.drop h (by exact .cons _ ((List.Sublist.refl _))))) rfl (q_add rfl rfl (by omega) (by unfold I64; omega)) (DW.q (v := v) (fun _ h => (StP.drop h (by exact .cons _ ((List.Sublist.refl _))))) rfl (q_move rfl) (DW.q (v := iV (k : Int)) (fun _ h => (StP.drop h (by exact .cons _ ((List.Sublist.refl _))))) rfl (q_move rfl) (DW.q (v := iV ((k + 1 : Nat) : Int)) (fun _ h => (StP.drop h (by exact .cons _ ((List.Sublist.refl _))))) rfl (q_add rfl rfl (by omega) (by unfold I64; omega)) (DW.q (v := .pointer (some (Value.at v ((k + 1) * 4)))) (fun _ h => (StP.drop h (by exact .cons _ ((List.Sublist.refl _))))) rfl (q_indexAddr rfl rfl hv uT58 sz53 (by omega) (by omega) rfl) ?_)))))))))
    refine DW.q (v := v) (fun _ h => (StP.drop h (by exact .cons _ ((List.Sublist.refl _))))) rfl (q_move rfl) (DW.q (v := iV (k : Int)) (fun _ h => (StP.drop h (by exact .cons _ ((List.Sublist.refl _))))) rfl (q_move rfl) (DW.q (v := .pointer (some (Value.at v (k * 4)))) (fun _ h => (StP.drop h (by exact .cons _ ((List.Sublist.refl _))))) rfl (q_indexAddr rfl rfl hv uT58 sz53 (by omega) (by omega) rfl) (DW.pair (X := Unit) (Y := Unit) (fun u1 => .agg #[iV ((K.getD (k + 1) default).Gauge), iV ((K.getD (k + 1) default).Hour), iV ((K.getD (k + 1) default).Value.Lo), iV ((K.getD (k + 1) default).Value.Hi)]) (fun u2 => .agg #[iV ((K.getD k default).Gauge), iV ((K.getD k default).Hour), iV ((K.getD k default).Value.Lo), iV ((K.getD k default).Value.Hi)]) (fun u1 => St B Φ ((.row v 53 4 n (flat K)) :: C)) (fun u2 => St B Φ ((.row v 53 4 n (flat K)) :: C)) (fun u1 u2 => St B Φ ((.row v 53 4 n (flat K)) :: C)) rfl rfl rfl trivial trivial (fun _ => trivial) (fun _ => trivial) (fun u1 _ h => (StP.drop h (by exact .cons _ ((List.Sublist.refl _))))) (fun u2 _ h => (StP.drop h (by exact .cons _ ((List.Sublist.refl _))))) (fun u1 u2 _ h => (StP.drop h (by exact .cons _ ((List.Sublist.refl _))))) (e_quiet (q_loadAgg rfl uT53 rfl sz53 rfl (Cells.rowE even53 0 rfl (by omega) rfl))) (fun u1 => e_quiet (q_loadAgg rfl uT53 rfl sz53 rfl (Cells.rowE even53 0 rfl (by omega) rfl))) (e_quiet (q_loadAgg rfl uT53 rfl sz53 rfl (Cells.rowE even53 0 rfl (by omega) rfl))) (fun u2 => e_quiet (q_loadAgg rfl uT53 rfl sz53 rfl (Cells.rowE even53 0 rfl (by omega) rfl))) ?_)))
    intro u1 u2
    refine DW.q (v := .pointer (some (Value.at v (k * 4)))) (fun _ h => (StP.drop h (by exact .cons _ ((List.Sublist.refl _))))) rfl (q_indexAddr rfl rfl hv uT58 sz53 (by omega) (by omega) rfl) (DW.effn (J' := St B Φ ((.row v 53 4 n (flat (K.set k (K.getD (k + 1) default)))) :: C)) (fun _ => (fun _ h => (StP.drop h (by exact .cons _ ((List.Sublist.refl _)))))) (e_storeRow (v := .agg #[iV ((K.getD (k + 1) default).Gauge), iV ((K.getD (k + 1) default).Hour), iV ((K.getD (k + 1) default).Value.Lo), iV ((K.getD (k + 1) default).Value.Hi)]) 0 rfl rfl rfl sz53 rfl rfl (by rw [flat_len even53]; simp [Rep.sz]; omega) (splice_E even53 (k := k) (x := (K.getD (k + 1) default)) (by first | omega | (simp; omega)) rfl) rfl) (DW.q (v := .pointer (some (Value.at v ((k + 1) * 4)))) (fun _ h => (StP.drop h (by exact .cons _ ((List.Sublist.refl _))))) rfl (q_indexAddr rfl rfl hv uT58 sz53 (by omega) (by omega) rfl) (DW.effn (J' := St B Φ ((.row v 53 4 n (flat ((K.set k (K.getD (k + 1) default)).set (k + 1) (K.getD k default)))) :: C)) (fun h => absurd rfl h) (e_storeRow (v := .agg #[iV ((K.getD k default).Gauge), iV ((K.getD k default).Hour), iV ((K.getD k default).Value.Lo), iV ((K.getD k default).Value.Hi)]) 0 rfl rfl rfl sz53 rfl rfl (by rw [flat_len even53]; simp [Rep.sz]; omega) (splice_E even53 (k := k + 1) (x := (K.getD k default)) (by first | omega | (simp; omega)) rfl) rfl) ?_)))
    refine gs8 ?_
    have hgt : (K.getD (k + 1) default).Gauge < (L.getD a default).Gauge := by rw [hI.hi (k + 1) (by omega) (by omega)]; exact hlo (k + 1) (by omega) (by omega)
    have hst := Sorts.up_step (key := (fun r : Bt.Reading => r.Gauge)) (L := K) (a := a) (k := k) (b := b) hak (by omega) (by omega) hI.at_ hgt
    have hIs := hI.step hak (show k + 1 < b by omega) (by omega)
    exact Post.bk ⟨k + 1, _, rfl, rfl, rfl, (by omega), (by omega), (hU.trans hst.1), hIs⟩
   ·
    simp [-List.getD_eq_getElem?_getD] at hc4
    refine gs7 ?_
    have hma : mm = a + 1 := by omega
    refine fin_none (J' := St B Φ (.row v 53 4 n (flat K) :: C)) rfl rfl (fun _ h => h) (fun w' hw' => ⟨⟨K, ⟨hU, hI.done hak (by omega) (by rw [← hma]; exact hs2) (fun p h1 h2 => hlo p (by omega) (by omega)) (fun p h1 h2 => hhi p (by omega) h2)⟩⟩, rfl, hw'⟩)
 ·
  simp [-List.getD_eq_getElem?_getD] at hc1
  refine gs11 ?_
  refine AW.cond rfl (fun hc5 => ?_) fun hc5 => ?_
  ·
   simp [-List.getD_eq_getElem?_getD] at hc5
   refine gs14 ?_
   refine AW.lp (fun s J m => ∃ (i : Nat), ∃ (j : Nat), s = [(0, v), (1, iV (a : Int)), (2, iV (mm : Int)), (3, iV (b : Int)), (4, .func (.func 34) #[] #[]), (14, iV (i : Int)), (15, iV (j : Int))] ∧ J = St B Φ ((.row v 53 4 n (flat L)) :: C) ∧ m = j - i ∧ (a ≤ i) ∧ (i ≤ j) ∧ (j ≤ mm) ∧ (∀ p, a ≤ p → p < i → (L.getD p default).Gauge ≤ (L.getD mm default).Gauge) ∧ (∀ p, j ≤ p → p < mm → (L.getD mm default).Gauge < (L.getD p default).Gauge)) ⟨a, mm, rfl, rfl, rfl, (by omega), (by omega), (by omega), (fun p h1 h2 => by omega), (fun p h1 h2 => by omega)⟩ ?_
   rintro _ _ _ _ ⟨i, j, rfl, rfl, rfl, hai, hij, hjm, hlo, hhi⟩
   refine gs8 ?_
   refine AW.cond rfl (fun hc6 => ?_) fun hc6 => ?_
   ·
    simp [-List.getD_eq_getElem?_getD] at hc6
    refine gs4 ?_
    obtain ⟨q, hq⟩ : ∃ q, (i + j) / 2 = q := ⟨_, rfl⟩
    refine gs4 ?_
    refine RW.q (v := .int .u64 ((i + j : Nat) : Int)) rfl (q_toU (r := (i + j)) rfl uT3 uT139 rfl (by omega)) (RW.q (v := .int .u64 (((i + j) / 2 ^ 1 : Nat) : Int)) rfl (q_shrU' (a := (i + j)) (c := 1) rfl rfl (by omega)) (RW.q (v := iV (q : Int)) rfl (q_as (v := iV (((i + j) / 2 ^ 1 : Nat) : Int)) (q_ofU (a := ((i + j) / 2 ^ 1)) rfl uT139 uT3 (by omega)) (congrArg (Value.int .i64) (by rw [Nat.pow_one, hq]))) ?_))
    refine gs4 ?_
    refine AW.draw (J0 := St B Φ ((.row v 53 4 n (flat L)) :: C)) [.q, .q, .q, .q, .q, .q, .q, .q, .q, .q, .q, .q] [0, 1, 2, 3, 4, 5, 6, 7, 8, 9, 10, 11] hmix (by kernel_rfl) ?_
    refine gs4 ?_
    refine DW.q (v := .agg #[iV ((L.getD mm default).Gauge), iV ((L.getD mm default).Hour), iV ((L.getD mm default).Value.Lo), iV ((L.getD mm default).Value.Hi)]) (fun _ h => h) rfl (q_loadAgg rfl uT53 rfl sz53 rfl (Cells.rowE even53 0 rfl (by omega) rfl)) ?_
    refine gs3 ?_
    refine DW.q (v := .agg #[iV ((L.getD q default).Gauge), iV ((L.getD q default).Hour), iV ((L.getD q default).Value.Lo), iV ((L.getD q default).Value.Hi)]) (fun _ h => h) rfl (q_loadAgg rfl uT53 rfl sz53 rfl (Cells.rowE even53 0 rfl (by omega) rfl)) (DW.c (fun _ h => h) rfl (fun w1 hw1 => cmpG_c w1 (Go.K.hp w1) (Hp.le_refl _) (x := (L.getD mm default)) (y := (L.getD q default))) rfl rfl (DW.q (v := .bool (decide ((L.getD mm default).Gauge < (L.getD q default).Gauge))) (fun _ h => h) rfl (q_as (v := .bool (decide (Fu.cmpI ((L.getD mm default).Gauge) ((L.getD q default).Gauge) < 0))) (q_lss rfl rfl) (congrArg (Value.bool) (decide_eq_decide.2 Fu.cmp_lt))) ?_))
    refine gs3 ?_
    refine AW.cond rfl (fun hc7 => ?_) fun hc7 => ?_
    ·
     simp [-List.getD_eq_getElem?_getD] at hc7
     refine gs6 ?_
     have hcq : (L.getD q default).Gauge ≤ (L.getD mm default).Gauge := by simpa using hc7
     exact Post.bk ⟨q + 1, j, rfl, rfl, rfl, (by omega), (by omega), (by omega), (fun p hp1 hp2 => Int.le_trans (hs1.le (p := p) (q := q) hp1 (by omega) (by omega)) hcq), hhi⟩
    ·
     simp [-List.getD_eq_getElem?_getD] at hc7
     refine gs5 ?_
     have hcq : (L.getD mm default).Gauge < (L.getD q default).Gauge := by simpa using hc7
     exact Post.bk ⟨i, q, rfl, rfl, rfl, (by omega), (by omega), (by omega), hlo, (fun p hp1 hp2 => Int.lt_of_lt_of_le hcq (hs1.le (p := q) (q := p) (by omega) hp1 hp2))⟩
   ·
    simp [-List.getD_eq_getElem?_getD] at hc6
    refine gs13 ?_
    refine AW.lp (fun s J m => ∃ (k : Nat), ∃ (K : List Bt.Reading), s = [(0, v), (1, iV (a : Int)), (2, iV (mm : Int)), (3, iV (b : Int)), (14, iV (i : Int)), (17, iV (k : Int))] ∧ J = St B Φ ((.row v 53 4 n (flat K)) :: C) ∧ m = k + 0 * k ∧ (i ≤ k) ∧ (k ≤ mm) ∧ (Sorts.Upd (fun r : Bt.Reading => r.Gauge) a b L K) ∧ (Sorts.DnI L K mm k)) ⟨mm, _, rfl, rfl, rfl, (by omega), (by omega), (Sorts.Upd.refl _ _ _), (Sorts.DnI.start _ _)⟩ ?_
    rintro _ _ _ _ ⟨k, K, rfl, rfl, rfl, hik, hkm, hU, hI⟩
    refine gs8 ?_
    refine AW.cond rfl (fun hc8 => ?_) fun hc8 => ?_
    ·
     simp [-List.getD_eq_getElem?_getD] at hc8
     refine gs4 ?_
     obtain ⟨p, rfl⟩ : ∃ p, k = p + 1 := ⟨k - 1, by omega⟩
     have hKl := hI.len
     have hgt : (K.getD (p + 1) default).Gauge < (K.getD p default).Gauge := by rw [hI.at_, hI.lo p (by omega)]; exact hhi p (by omega) (by omega)
     have hux := Sorts.upd_xch (key := (fun r : Bt.Reading => r.Gauge)) (L := K) (a := a) (b := b) (j := p + 1) (by omega) (by omega) (by omega) hgt
     rw [Nat.add_sub_cancel] at hux
     have hIs := hI.step (by omega) (by omega)
     refine AW.draw (J0 := St B Φ C) [.q, .q, .q, .q, .q, .q, .q, .q, .q, .q, .q, .q, .p, .e, .q, .e, .q, .e] [0, 1, 2, 3, 4, 5, 6, 7, 8, 10, 11, 12, 9, 13, 14, 15, 16, 17] hmix (by kernel_rfl) (DW.q (v := v) (fun _ h => (StP.drop h (by exact .cons _ ((List.Sublist.refl _))))) rfl (q_move rfl) (DW.q (v := iV ((p + 1 : Nat) : Int)) (fun _ h => (StP.drop h (by exact .cons _ ((List.Sublist.refl _))))) rfl (q_move rfl) (DW.q (v := v) (fun _ h => (StP.drop h (by exact .cons _ ((List.Sublist.refl _))))) rfl (q_move rfl) (DW.q (v := iV ((p + 1 : Nat) : Int)) (fun _ h => (StP.drop h (by exact .cons _ ((List.Sublist.refl _))))) rfl (q_move rfl) (DW.q (v := iV (p : Int)) (fun _ h => (StP.drop h (by exact .cons _ ((List.Sublist.refl _))))) rfl (q_as (v := iV (((p + 1 : Nat) : Int) - 1)) (q_sub rfl rfl (by omega) (by unfold I64; omega)) (congrArg (Value.int .i64) (by omega))) (DW.q (v := v) (fun _ h => (StP.drop h (by exact .cons _ ((List.Sublist.refl _))))) rfl (q_move rfl) (DW.q (v := iV ((p + 1 : Nat) : Int)) (fun _ h => (StP.drop h (by exact .cons _ ((List.Sublist.refl _))))) rfl (q_move rfl) (DW.q (v := iV (p : Int)) (fun _ h => (StP.drop h (by exact .cons _ ((List.Sublist.refl _))))) rfl (q_as (v := iV (((p + 1 : Nat) : Int) - 1)) (q_sub rfl rfl (by omega) (by unfold I64; omega)) (congrArg (Value.int .i64) (by omega))) (DW.q (v := .pointer (some (Value.at v (p * 4)))) (fun _ h => (StP.drop h (by exact .cons _ ((List.Sublist.refl _))))) rfl (q_indexAddr rfl rfl hv uT58 sz53 (by omega) (by omega) rfl) ?_)))))))))
     refine DW.q (v := v) (fun _ h => (StP.drop h (by exact .cons _ ((List.Sublist.refl _))))) rfl (q_move rfl) (DW.q (v := iV ((p + 1 : Nat) : Int)) (fun _ h => (StP.drop h (by exact .cons _ ((List.Sublist.refl _))))) rfl (q_move rfl) (DW.q (v := .pointer (some (Value.at v ((p + 1) * 4)))) (fun _ h => (StP.drop h (by exact .cons _ ((List.Sublist.refl _))))) rfl (q_indexAddr rfl rfl hv uT58 sz53 (by omega) (by omega) rfl) (DW.pair (X := Unit) (Y := Unit) (fun u5 => .agg #[iV ((K.getD p default).Gauge), iV ((K.getD p default).Hour), iV ((K.getD p default).Value.Lo), iV ((K.getD p default).Value.Hi)]) (fun u6 => .agg #[iV ((K.getD (p + 1) default).Gauge), iV ((K.getD (p + 1) default).Hour), iV ((K.getD (p + 1) default).Value.Lo), iV ((K.getD (p + 1) default).Value.Hi)]) (fun u5 => St B Φ ((.row v 53 4 n (flat K)) :: C)) (fun u6 => St B Φ ((.row v 53 4 n (flat K)) :: C)) (fun u5 u6 => St B Φ ((.row v 53 4 n (flat K)) :: C)) rfl rfl rfl trivial trivial (fun _ => trivial) (fun _ => trivial) (fun u5 _ h => (StP.drop h (by exact .cons _ ((List.Sublist.refl _))))) (fun u6 _ h => (StP.drop h (by exact .cons _ ((List.Sublist.refl _))))) (fun u5 u6 _ h => (StP.drop h (by exact .cons _ ((List.Sublist.refl _))))) (e_quiet (q_loadAgg rfl uT53 rfl sz53 rfl (Cells.rowE even53 0 rfl (by omega) rfl))) (fun u5 => e_quiet (q_loadAgg rfl uT53 rfl sz53 rfl (Cells.rowE even53 0 rfl (by omega) rfl))) (e_quiet (q_loadAgg rfl uT53 rfl sz53 rfl (Cells.rowE even53 0 rfl (by omega) rfl))) (fun u6 => e_quiet (q_loadAgg rfl uT53 rfl sz53 rfl (Cells.rowE even53 0 rfl (by omega) rfl))) ?_)))
     intro u5 u6
     refine DW.q (v := .pointer (some (Value.at v ((p + 1) * 4)))) (fun _ h => (StP.drop h (by exact .cons _ ((List.Sublist.refl _))))) rfl (q_indexAddr rfl rfl hv uT58 sz53 (by omega) (by omega) rfl) (DW.effn (J' := St B Φ ((.row v 53 4 n (flat (K.set (p + 1) (K.getD p default)))) :: C)) (fun _ => (fun _ h => (StP.drop h (by exact .cons _ ((List.Sublist.refl _)))))) (e_storeRow (v := .agg #[iV ((K.getD p default).Gauge), iV ((K.getD p default).Hour), iV ((K.getD p default).Value.Lo), iV ((K.getD p default).Value.Hi)]) 0 rfl rfl rfl sz53 rfl rfl (by rw [flat_len even53]; simp [Rep.sz]; omega) (splice_E even53 (k := p + 1) (x := (K.getD p default)) (by first | omega | (simp; omega)) rfl) rfl) (DW.q (v := .pointer (some (Value.at v (p * 4)))) (fun _ h => (StP.drop h (by exact .cons _ ((List.Sublist.refl _))))) rfl (q_indexAddr rfl rfl hv uT58 sz53 (by omega) (by omega) rfl) (DW.effn (J' := St B Φ ((.row v 53 4 n (flat ((K.set (p + 1) (K.getD p default)).set p (K.getD (p + 1) default)))) :: C)) (fun h => absurd rfl h) (e_storeRow (v := .agg #[iV ((K.getD (p + 1) default).Gauge), iV ((K.getD (p + 1) default).Hour), iV ((K.getD (p + 1) default).Value.Lo), iV ((K.getD (p + 1) default).Value.Hi)]) 0 rfl rfl rfl sz53 rfl rfl (by rw [flat_len even53]; simp [Rep.sz]; omega) (splice_E even53 (k := p) (x := (K.getD (p + 1) default)) (by first | omega | (simp; omega)) rfl) rfl) ?_)))
     refine gs5 ?_
     refine RW.q (v := iV (p : Int)) rfl (q_as (v := iV (((p + 1 : Nat) : Int) - 1)) (q_sub rfl rfl (by omega) (by unfold I64; omega)) (congrArg (Value.int .i64) (by omega))) ?_
     refine gs2 ?_
     exact Post.back (s' := _) (J' := _) (m' := _) (by omega) ⟨p, _, rfl, rfl, rfl, (by omega), (by omega), (by rw [Fu.xch_rev]; exact hU.trans hux), (by rw [Fu.xch_rev]; exact hIs)⟩ ⟨rfl, rfl, rfl, rfl, rfl, rfl, trivial⟩ (fun _ h => h)
    ·
     simp [-List.getD_eq_getElem?_getD] at hc8
     refine gs7 ?_
     have hbm : b = mm + 1 := by omega
     refine fin_none (J' := St B Φ (.row v 53 4 n (flat K) :: C)) rfl rfl (fun _ h => h) (fun w' hw' => ⟨⟨K, ⟨hU, by rw [hbm]; exact hI.done (by omega) hkm hs1 (fun p h1 h2 => hlo p h1 (by omega)) (fun p h1 h2 => hhi p (by omega) h2)⟩⟩, rfl, hw'⟩)
  ·
   simp [-List.getD_eq_getElem?_getD] at hc5
   refine gs3 ?_
   obtain ⟨mid, hmid⟩ : ∃ mid, (a + b) / 2 = mid := ⟨_, rfl⟩
   refine gs4 ?_
   refine RW.q (v := .int .u64 ((a + b : Nat) : Int)) rfl (q_toU (r := (a + b)) rfl uT3 uT139 rfl (by omega)) (RW.q (v := .int .u64 (((a + b) / 2 ^ 1 : Nat) : Int)) rfl (q_shrU' (a := (a + b)) (c := 1) rfl rfl (by omega)) (RW.q (v := iV (mid : Int)) rfl (q_as (v := iV (((a + b) / 2 ^ 1 : Nat) : Int)) (q_ofU (a := ((a + b) / 2 ^ 1)) rfl uT139 uT3 (by omega)) (congrArg (Value.int .i64) (by rw [Nat.pow_one, hmid]))) ?_))
   refine gs25 ?_
   refine AW.cond rfl (fun hc9 => ?_) fun hc9 => ?_
   ·
    simp [-List.getD_eq_getElem?_getD] at hc9
    refine gs4 ?_
    refine RW.q (v := iV (((mid + mm - b) : Nat) : Int)) rfl (q_as (v := iV (((mid + mm : Nat) : Int) - (b : Int))) (q_sub rfl rfl (by omega) (by unfold I64; omega)) (congrArg (Value.int .i64) (by omega))) ?_
    refine gs11 ?_
    refine RW.q (v := iV (((mid + mm - 1) : Nat) : Int)) rfl (q_as (v := iV (((mid + mm : Nat) : Int) - 1)) (q_sub rfl rfl (by omega) (by unfold I64; omega)) (congrArg (Value.int .i64) (by omega))) ?_
    refine gs5 ?_
    refine AW.lp (fun s J m => ∃ (i : Nat), ∃ (j : Nat), s = [(0, v), (1, iV (a : Int)), (2, iV (mm : Int)), (3, iV (b : Int)), (4, .func (.func 34) #[] #[]), (18, iV (mid : Int)), (19, iV ((mid + mm : Nat) : Int)), (22, iV (((mid + mm - 1) : Nat) : Int)), (20, iV (i : Int)), (21, iV (j : Int))] ∧ J = St B Φ ((.row v 53 4 n (flat L)) :: C) ∧ m = j - i ∧ ((mid + mm - b) ≤ i) ∧ (i ≤ j) ∧ (j ≤ mid) ∧ (i = (mid + mm - b) ∨ (L.getD (i - 1) default).Gauge ≤ (L.getD (mid + mm - i) default).Gauge) ∧ (j = mid ∨ (L.getD (mid + mm - 1 - j) default).Gauge < (L.getD j default).Gauge)) ⟨mid + mm - b, mid, rfl, rfl, rfl, (by omega), (by omega), (by omega), (.inl rfl), (.inl rfl)⟩ ?_
    rintro _ _ _ _ ⟨i, j, rfl, rfl, rfl, hli, hij, hjr, hA, hB⟩
    refine gs8 ?_
    refine AW.cond rfl (fun hc10 => ?_) fun hc10 => ?_
    ·
     simp [-List.getD_eq_getElem?_getD] at hc10
     refine gs4 ?_
     obtain ⟨q, hq⟩ : ∃ q, (i + j) / 2 = q := ⟨_, rfl⟩
     refine gs4 ?_
     refine RW.q (v := .int .u64 ((i + j : Nat) : Int)) rfl (q_toU (r := (i + j)) rfl uT3 uT139 rfl (by omega)) (RW.q (v := .int .u64 (((i + j) / 2 ^ 1 : Nat) : Int)) rfl (q_shrU' (a := (i + j)) (c := 1) rfl rfl (by omega)) (RW.q (v := iV (q : Int)) rfl (q_as (v := iV (((i + j) / 2 ^ 1 : Nat) : Int)) (q_ofU (a := ((i + j) / 2 ^ 1)) rfl uT139 uT3 (by omega)) (congrArg (Value.int .i64) (by rw [Nat.pow_one, hq]))) ?_))
     refine gs4 ?_
     refine AW.draw (J0 := St B Φ ((.row v 53 4 n (flat L)) :: C)) [.q, .q, .q, .q, .q, .q, .q, .q, .q, .q, .q, .q, .q, .q] [0, 1, 2, 3, 4, 5, 6, 7, 8, 9, 10, 11, 12, 13] hmix (by kernel_rfl) ?_
     refine gs4 ?_
     refine DW.q (v := iV (((mid + mm - 1 - q) : Nat) : Int)) (fun _ h => h) rfl (q_as (v := iV ((((mid + mm - 1) : Nat) : Int) - (q : Int))) (q_sub rfl rfl (by omega) (by unfold I64; omega)) (congrArg (Value.int .i64) (by omega))) ?_
     refine gs1 ?_
     refine DW.q (v := .agg #[iV ((L.getD (mid + mm - 1 - q) default).Gauge), iV ((L.getD (mid + mm - 1 - q) default).Hour), iV ((L.getD (mid + mm - 1 - q) default).Value.Lo), iV ((L.getD (mid + mm - 1 - q) default).Value.Hi)]) (fun _ h => h) rfl (q_loadAgg rfl uT53 rfl sz53 rfl (Cells.rowE even53 0 rfl (by omega) rfl)) ?_
     refine gs3 ?_
     refine DW.q (v := .agg #[iV ((L.getD q default).Gauge), iV ((L.getD q default).Hour), iV ((L.getD q default).Value.Lo), iV ((L.getD q default).Value.Hi)]) (fun _ h => h) rfl (q_loadAgg rfl uT53 rfl sz53 rfl (Cells.rowE even53 0 rfl (by omega) rfl)) (DW.c (fun _ h => h) rfl (fun w1 hw1 => cmpG_c w1 (Go.K.hp w1) (Hp.le_refl _) (x := (L.getD (mid + mm - 1 - q) default)) (y := (L.getD q default))) rfl rfl (DW.q (v := .bool (decide ((L.getD (mid + mm - 1 - q) default).Gauge < (L.getD q default).Gauge))) (fun _ h => h) rfl (q_as (v := .bool (decide (Fu.cmpI ((L.getD (mid + mm - 1 - q) default).Gauge) ((L.getD q default).Gauge) < 0))) (q_lss rfl rfl) (congrArg (Value.bool) (decide_eq_decide.2 Fu.cmp_lt))) ?_))
     refine gs3 ?_
     refine AW.cond rfl (fun hc11 => ?_) fun hc11 => ?_
     ·
      simp [-List.getD_eq_getElem?_getD] at hc11
      refine gs6 ?_
      have hcq : (L.getD q default).Gauge ≤ (L.getD (mid + mm - 1 - q) default).Gauge := by simpa using hc11
      exact Post.bk ⟨q + 1, j, rfl, rfl, rfl, (by omega), (by omega), (by omega), (.inr (by rw [Nat.add_sub_cancel, show mid + mm - (q + 1) = mid + mm - 1 - q by omega]; exact hcq)), hB⟩
     ·
      simp [-List.getD_eq_getElem?_getD] at hc11
      refine gs5 ?_
      have hcq : (L.getD (mid + mm - 1 - q) default).Gauge < (L.getD q default).Gauge := by simpa using hc11
      exact Post.bk ⟨i, q, rfl, rfl, rfl, (by omega), (by omega), (by omega), hA, (.inr hcq)⟩
    ·
     simp [-List.getD_eq_getElem?_getD] at hc10
     refine gs6 ?_
     have hji : j = i := by omega
     rw [hji] at hB hjr
     obtain ⟨e, he⟩ : ∃ e, mid + mm - i = e := ⟨_, rfl⟩
     have hsum : i + e = mid + mm := by omega
     have has : a ≤ i := by omega
     have him : i ≤ mm := by omega
     have hme : mm ≤ e := by omega
     have heb : e ≤ b := by omega
     have hbL : b ≤ L.length := by omega
     rw [he] at hA
     rw [show mid + mm - 1 - i = e - 1 by omega] at hB
     have hA' : i = a ∨ e = b ∨ (L.getD (i - 1) default).Gauge ≤ (L.getD e default).Gauge := by
      rcases hA with h9 | h9
      ·
       first | exact .inl h9 | exact .inr (.inl (by omega))
      ·
       exact .inr (.inr h9)
     have hB' : i = mm ∨ e = mm ∨ (L.getD (e - 1) default).Gauge < (L.getD i default).Gauge := by
      rcases hB with h9 | h9
      ·
       first | exact .inl h9 | exact .inr (.inl (by omega))
      ·
       exact .inr (.inr h9)
     refine gs3 ?_
     refine RW.q (v := iV (e : Int)) rfl (q_as (v := iV (((mid + mm : Nat) : Int) - (i : Int))) (q_sub rfl rfl (by omega) (by unfold I64; omega)) (congrArg (Value.int .i64) (by omega))) ?_
     refine gs13 ?_
     refine RW.pkA rfl rfl rfl rfl fun qb1 hqb1 => ?_
     subst hqb1
     refine gs2 ?_
     refine AW.cond rfl (fun hc12 => ?_) fun hc12 => ?_
     ·
      simp [-List.getD_eq_getElem?_getD] at hc12
      refine gs6 ?_
      refine RW.ec rfl (fun w1 hw1 => rotate_c hBE hv (by omega) hn ⟨hL, fun _ _ => rfl⟩ (by omega) (by omega) (by omega) w1 hw1) rfl rfl ?_
      rintro ⟨K1, hK1⟩
      refine gs4 ?_
      have hR : Sorts.Is K1 n (Sorts.rotG (fun x => L.getD x default) i mm e) := hK1
      have hRL : Sorts.Is K1 L.length (Sorts.rotG (fun x => L.getD x default) i mm e) := by rw [hL]; exact hR
      have hu1 := Sorts.sym_upd hs1 hs2 has him hme heb hbL hB' hRL
      have hx := Sorts.sym_cross hs1 hs2 has him hme heb hbL hsum hA' hB' hRL
      obtain ⟨hp1, hp2, hp3, hp4⟩ := Sorts.sym_parts hs1 hs2 has him hme heb hbL hsum hRL
      have hKl : K1.length = n := hR.1
      refine gs8 ?_
      refine RW.pkA rfl rfl rfl rfl fun qb2 hqb2 => ?_
      subst hqb2
      refine gs2 ?_
      refine AW.cond rfl (fun hc13 => ?_) fun hc13 => ?_
      ·
       simp [-List.getD_eq_getElem?_getD] at hc13
       refine gs6 ?_
       refine RW.ec rfl (fun w1 hw1 => ih K1 a i mid hKl (by omega) (by omega) (by omega) (by omega) hp1 hp2 w1 hw1) rfl rfl ?_
       rintro ⟨K2, hK2⟩
       refine gs3 ?_
       obtain ⟨hu2, hS2⟩ := hK2
       have hq3 : Sorts.SrtI (fun r : Bt.Reading => r.Gauge) K2 mid e := hp3.ext (fun p h1 h2 => hu2.get_right h1)
       have hq4 : Sorts.SrtI (fun r : Bt.Reading => r.Gauge) K2 e b := hp4.ext (fun p h1 h2 => hu2.get_right (by omega))
       have hK2l : K2.length = n := (hu2.len (by omega)).trans hKl
       refine gs8 ?_
       refine RW.pkA rfl rfl rfl rfl fun qb3 hqb3 => ?_
       subst hqb3
       refine gs2 ?_
       refine AW.cond rfl (fun hc14 => ?_) fun hc14 => ?_
       ·
        simp [-List.getD_eq_getElem?_getD] at hc14
        refine gs6 ?_
        refine RW.ec rfl (fun w1 hw1 => ih K2 mid e b hK2l (by omega) (by omega) (by omega) (by omega) hq3 hq4 w1 hw1) rfl rfl ?_
        rintro ⟨K3, hK3⟩
        refine gs1 ?_
        obtain ⟨hu3, hS3⟩ := hK3
        have hut : Sorts.Upd (fun r : Bt.Reading => r.Gauge) a b L K3 := hu1.trans ((hu2.wide (by omega) (by omega) (by omega) (by omega)).trans (hu3.wide (by omega) (by omega) (by omega) (by omega)))
        refine fin_none (J' := St B Φ (.row v 53 4 n (flat K3) :: C)) rfl rfl (fun _ h => h) (fun w' hw' => ⟨⟨K3, ⟨hut, Sorts.sym_join (L1 := K1) (by omega) (by omega) (by omega) hx hu2 hu3 hS2 hS3⟩⟩, rfl, hw'⟩)
       ·
        simp [-List.getD_eq_getElem?_getD] at hc14
        refine gs1 ?_
        have hu3 : Sorts.Upd (fun r : Bt.Reading => r.Gauge) mid b K2 K2 := Sorts.Upd.refl _ _ _
        have hS3 : Sorts.SrtI (fun r : Bt.Reading => r.Gauge) K2 mid b := by
         by_cases h9 : e = mid
         ·
          rw [← h9]; exact hq4
         ·
          exact hq3.sub (Nat.le_refl _) (by omega)
        have hut : Sorts.Upd (fun r : Bt.Reading => r.Gauge) a b L K2 := hu1.trans ((hu2.wide (by omega) (by omega) (by omega) (by omega)).trans (hu3.wide (by omega) (by omega) (by omega) (by omega)))
        refine fin_none (J' := St B Φ (.row v 53 4 n (flat K2) :: C)) rfl rfl (fun _ h => h) (fun w' hw' => ⟨⟨K2, ⟨hut, Sorts.sym_join (L1 := K1) (by omega) (by omega) (by omega) hx hu2 hu3 hS2 hS3⟩⟩, rfl, hw'⟩)
      ·
       simp [-List.getD_eq_getElem?_getD] at hc13
       refine gs3 ?_
       have hu2 : Sorts.Upd (fun r : Bt.Reading => r.Gauge) a mid K1 K1 := Sorts.Upd.refl _ _ _
       have hS2 : Sorts.SrtI (fun r : Bt.Reading => r.Gauge) K1 a mid := by
        by_cases h9 : i = a
        ·
         rw [← h9]; exact hp2
        ·
         exact hp1.sub (Nat.le_refl _) (by omega)
       have hq3 : Sorts.SrtI (fun r : Bt.Reading => r.Gauge) K1 mid e := hp3.ext (fun p h1 h2 => hu2.get_right h1)
       have hq4 : Sorts.SrtI (fun r : Bt.Reading => r.Gauge) K1 e b := hp4.ext (fun p h1 h2 => hu2.get_right (by omega))
       have hK2l : K1.length = n := (hu2.len (by omega)).trans hKl
       refine gs8 ?_
       refine RW.pkA rfl rfl rfl rfl fun qb4 hqb4 => ?_
       subst hqb4
       refine gs2 ?_
       refine AW.cond rfl (fun hc15 => ?_) fun hc15 => ?_
       ·
        simp [-List.getD_eq_getElem?_getD] at hc15
        refine gs6 ?_
        refine RW.ec rfl (fun w1 hw1 => ih K1 mid e b hK2l (by omega) (by omega) (by omega) (by omega) hq3 hq4 w1 hw1) rfl rfl ?_
        rintro ⟨K4, hK4⟩
        refine gs1 ?_
        obtain ⟨hu3, hS3⟩ := hK4
        have hut : Sorts.Upd (fun r : Bt.Reading => r.Gauge) a b L K4 := hu1.trans ((hu2.wide (by omega) (by omega) (by omega) (by omega)).trans (hu3.wide (by omega) (by omega) (by omega) (by omega)))
        refine fin_none (J' := St B Φ (.row v 53 4 n (flat K4) :: C)) rfl rfl (fun _ h => h) (fun w' hw' => ⟨⟨K4, ⟨hut, Sorts.sym_join (L1 := K1) (by omega) (by omega) (by omega) hx hu2 hu3 hS2 hS3⟩⟩, rfl, hw'⟩)
       ·
        simp [-List.getD_eq_getElem?_getD] at hc15
        refine gs1 ?_
        have hu3 : Sorts.Upd (fun r : Bt.Reading => r.Gauge) mid b K1 K1 := Sorts.Upd.refl _ _ _
        have hS3 : Sorts.SrtI (fun r : Bt.Reading => r.Gauge) K1 mid b := by
         by_cases h9 : e = mid
         ·
          rw [← h9]; exact hq4
         ·
          exact hq3.sub (Nat.le_refl _) (by omega)
        have hut : Sorts.Upd (fun r : Bt.Reading => r.Gauge) a b L K1 := hu1.trans ((hu2.wide (by omega) (by omega) (by omega) (by omega)).trans (hu3.wide (by omega) (by omega) (by omega) (by omega)))
        refine fin_none (J' := St B Φ (.row v 53 4 n (flat K1) :: C)) rfl rfl (fun _ h => h) (fun w' hw' => ⟨⟨K1, ⟨hut, Sorts.sym_join (L1 := K1) (by omega) (by omega) (by omega) hx hu2 hu3 hS2 hS3⟩⟩, rfl, hw'⟩)
     ·
      simp [-List.getD_eq_getElem?_getD] at hc12
      refine gs4 ?_
      have hR : Sorts.Is L n (Sorts.rotG (fun x => L.getD x default) i mm e) := by
       have h9 := Sorts.rot_id (L := L) (s := i) (m := mm) (e := e) (by omega) him hme
       rw [hL] at h9; exact h9
      have hRL : Sorts.Is L L.length (Sorts.rotG (fun x => L.getD x default) i mm e) := by rw [hL]; exact hR
      have hu1 := Sorts.sym_upd hs1 hs2 has him hme heb hbL hB' hRL
      have hx := Sorts.sym_cross hs1 hs2 has him hme heb hbL hsum hA' hB' hRL
      obtain ⟨hp1, hp2, hp3, hp4⟩ := Sorts.sym_parts hs1 hs2 has him hme heb hbL hsum hRL
      have hKl : L.length = n := hR.1
      refine gs8 ?_
      refine RW.pkA rfl rfl rfl rfl fun qb5 hqb5 => ?_
      subst hqb5
      refine gs2 ?_
      refine AW.cond rfl (fun hc16 => ?_) fun hc16 => ?_
      ·
       simp [-List.getD_eq_getElem?_getD] at hc16
       refine gs6 ?_
       refine RW.ec rfl (fun w1 hw1 => ih L a i mid hKl (by omega) (by omega) (by omega) (by omega) hp1 hp2 w1 hw1) rfl rfl ?_
       rintro ⟨K5, hK5⟩
       refine gs3 ?_
       obtain ⟨hu2, hS2⟩ := hK5
       have hq3 : Sorts.SrtI (fun r : Bt.Reading => r.Gauge) K5 mid e := hp3.ext (fun p h1 h2 => hu2.get_right h1)
       have hq4 : Sorts.SrtI (fun r : Bt.Reading => r.Gauge) K5 e b := hp4.ext (fun p h1 h2 => hu2.get_right (by omega))
       have hK2l : K5.length = n := (hu2.len (by omega)).trans hKl
       refine gs8 ?_
       refine RW.pkA rfl rfl rfl rfl fun qb6 hqb6 => ?_
       subst hqb6
       refine gs2 ?_
       refine AW.cond rfl (fun hc17 => ?_) fun hc17 => ?_
       ·
        simp [-List.getD_eq_getElem?_getD] at hc17
        refine gs6 ?_
        refine RW.ec rfl (fun w1 hw1 => ih K5 mid e b hK2l (by omega) (by omega) (by omega) (by omega) hq3 hq4 w1 hw1) rfl rfl ?_
        rintro ⟨K6, hK6⟩
        refine gs1 ?_
        obtain ⟨hu3, hS3⟩ := hK6
        have hut : Sorts.Upd (fun r : Bt.Reading => r.Gauge) a b L K6 := hu1.trans ((hu2.wide (by omega) (by omega) (by omega) (by omega)).trans (hu3.wide (by omega) (by omega) (by omega) (by omega)))
        refine fin_none (J' := St B Φ (.row v 53 4 n (flat K6) :: C)) rfl rfl (fun _ h => h) (fun w' hw' => ⟨⟨K6, ⟨hut, Sorts.sym_join (L1 := L) (by omega) (by omega) (by omega) hx hu2 hu3 hS2 hS3⟩⟩, rfl, hw'⟩)
       ·
        simp [-List.getD_eq_getElem?_getD] at hc17
        refine gs1 ?_
        have hu3 : Sorts.Upd (fun r : Bt.Reading => r.Gauge) mid b K5 K5 := Sorts.Upd.refl _ _ _
        have hS3 : Sorts.SrtI (fun r : Bt.Reading => r.Gauge) K5 mid b := by
         by_cases h9 : e = mid
         ·
          rw [← h9]; exact hq4
         ·
          exact hq3.sub (Nat.le_refl _) (by omega)
        have hut : Sorts.Upd (fun r : Bt.Reading => r.Gauge) a b L K5 := hu1.trans ((hu2.wide (by omega) (by omega) (by omega) (by omega)).trans (hu3.wide (by omega) (by omega) (by omega) (by omega)))
        refine fin_none (J' := St B Φ (.row v 53 4 n (flat K5) :: C)) rfl rfl (fun _ h => h) (fun w' hw' => ⟨⟨K5, ⟨hut, Sorts.sym_join (L1 := L) (by omega) (by omega) (by omega) hx hu2 hu3 hS2 hS3⟩⟩, rfl, hw'⟩)
      ·
       simp [-List.getD_eq_getElem?_getD] at hc16
       refine gs3 ?_
       have hu2 : Sorts.Upd (fun r : Bt.Reading => r.Gauge) a mid L L := Sorts.Upd.refl _ _ _
       have hS2 : Sorts.SrtI (fun r : Bt.Reading => r.Gauge) L a mid := by
        by_cases h9 : i = a
        ·
         rw [← h9]; exact hp2
        ·
         exact hp1.sub (Nat.le_refl _) (by omega)
       have hq3 : Sorts.SrtI (fun r : Bt.Reading => r.Gauge) L mid e := hp3.ext (fun p h1 h2 => hu2.get_right h1)
       have hq4 : Sorts.SrtI (fun r : Bt.Reading => r.Gauge) L e b := hp4.ext (fun p h1 h2 => hu2.get_right (by omega))
       have hK2l : L.length = n := (hu2.len (by omega)).trans hKl
       refine gs8 ?_
       refine RW.pkA rfl rfl rfl rfl fun qb7 hqb7 => ?_
       subst hqb7
       refine gs2 ?_
       refine AW.cond rfl (fun hc18 => ?_) fun hc18 => ?_
       ·
        simp [-List.getD_eq_getElem?_getD] at hc18
        refine gs6 ?_
        refine RW.ec rfl (fun w1 hw1 => ih L mid e b hK2l (by omega) (by omega) (by omega) (by omega) hq3 hq4 w1 hw1) rfl rfl ?_
        rintro ⟨K7, hK7⟩
        refine gs1 ?_
        obtain ⟨hu3, hS3⟩ := hK7
        have hut : Sorts.Upd (fun r : Bt.Reading => r.Gauge) a b L K7 := hu1.trans ((hu2.wide (by omega) (by omega) (by omega) (by omega)).trans (hu3.wide (by omega) (by omega) (by omega) (by omega)))
        refine fin_none (J' := St B Φ (.row v 53 4 n (flat K7) :: C)) rfl rfl (fun _ h => h) (fun w' hw' => ⟨⟨K7, ⟨hut, Sorts.sym_join (L1 := L) (by omega) (by omega) (by omega) hx hu2 hu3 hS2 hS3⟩⟩, rfl, hw'⟩)
       ·
        simp [-List.getD_eq_getElem?_getD] at hc18
        refine gs1 ?_
        have hu3 : Sorts.Upd (fun r : Bt.Reading => r.Gauge) mid b L L := Sorts.Upd.refl _ _ _
        have hS3 : Sorts.SrtI (fun r : Bt.Reading => r.Gauge) L mid b := by
         by_cases h9 : e = mid
         ·
          rw [← h9]; exact hq4
         ·
          exact hq3.sub (Nat.le_refl _) (by omega)
        have hut : Sorts.Upd (fun r : Bt.Reading => r.Gauge) a b L L := hu1.trans ((hu2.wide (by omega) (by omega) (by omega) (by omega)).trans (hu3.wide (by omega) (by omega) (by omega) (by omega)))
        refine fin_none (J' := St B Φ (.row v 53 4 n (flat L) :: C)) rfl rfl (fun _ h => h) (fun w' hw' => ⟨⟨L, ⟨hut, Sorts.sym_join (L1 := L) (by omega) (by omega) (by omega) hx hu2 hu3 hS2 hS3⟩⟩, rfl, hw'⟩)
   ·
    simp [-List.getD_eq_getElem?_getD] at hc9
    refine gs14 ?_
    refine RW.q (v := iV (((mid + mm - 1) : Nat) : Int)) rfl (q_as (v := iV (((mid + mm : Nat) : Int) - 1)) (q_sub rfl rfl (by omega) (by unfold I64; omega)) (congrArg (Value.int .i64) (by omega))) ?_
    refine gs5 ?_
    refine AW.lp (fun s J m => ∃ (i : Nat), ∃ (j : Nat), s = [(0, v), (1, iV (a : Int)), (2, iV (mm : Int)), (3, iV (b : Int)), (4, .func (.func 34) #[] #[]), (18, iV (mid : Int)), (19, iV ((mid + mm : Nat) : Int)), (22, iV (((mid + mm - 1) : Nat) : Int)), (20, iV (i : Int)), (21, iV (j : Int))] ∧ J = St B Φ ((.row v 53 4 n (flat L)) :: C) ∧ m = j - i ∧ (a ≤ i) ∧ (i ≤ j) ∧ (j ≤ mm) ∧ (i = a ∨ (L.getD (i - 1) default).Gauge ≤ (L.getD (mid + mm - i) default).Gauge) ∧ (j = mm ∨ (L.getD (mid + mm - 1 - j) default).Gauge < (L.getD j default).Gauge)) ⟨a, mm, rfl, rfl, rfl, (by omega), (by omega), (by omega), (.inl rfl), (.inl rfl)⟩ ?_
    rintro _ _ _ _ ⟨i, j, rfl, rfl, rfl, hli, hij, hjr, hA, hB⟩
    refine gs8 ?_
    refine AW.cond rfl (fun hc19 => ?_) fun hc19 => ?_
    ·
     simp [-List.getD_eq_getElem?_getD] at hc19
     refine gs4 ?_
     obtain ⟨q, hq⟩ : ∃ q, (i + j) / 2 = q := ⟨_, rfl⟩
     refine gs4 ?_
     refine RW.q (v := .int .u64 ((i + j : Nat) : Int)) rfl (q_toU (r := (i + j)) rfl uT3 uT139 rfl (by omega)) (RW.q (v := .int .u64 (((i + j) / 2 ^ 1 : Nat) : Int)) rfl (q_shrU' (a := (i + j)) (c := 1) rfl rfl (by omega)) (RW.q (v := iV (q : Int)) rfl (q_as (v := iV (((i + j) / 2 ^ 1 : Nat) : Int)) (q_ofU (a := ((i + j) / 2 ^ 1)) rfl uT139 uT3 (by omega)) (congrArg (Value.int .i64) (by rw [Nat.pow_one, hq]))) ?_))
     refine gs4 ?_
     refine AW.draw (J0 := St B Φ ((.row v 53 4 n (flat L)) :: C)) [.q, .q, .q, .q, .q, .q, .q, .q, .q, .q, .q, .q, .q, .q] [0, 1, 2, 3, 4, 5, 6, 7, 8, 9, 10, 11, 12, 13] hmix (by kernel_rfl) ?_
     refine gs4 ?_
     refine DW.q (v := iV (((mid + mm - 1 - q) : Nat) : Int)) (fun _ h => h) rfl (q_as (v := iV ((((mid + mm - 1) : Nat) : Int) - (q : Int))) (q_sub rfl rfl (by omega) (by unfold I64; omega)) (congrArg (Value.int .i64) (by omega))) ?_
     refine gs1 ?_
     refine DW.q (v := .agg #[iV ((L.getD (mid + mm - 1 - q) default).Gauge), iV ((L.getD (mid + mm - 1 - q) default).Hour), iV ((L.getD (mid + mm - 1 - q) default).Value.Lo), iV ((L.getD (mid + mm - 1 - q) default).Value.Hi)]) (fun _ h => h) rfl (q_loadAgg rfl uT53 rfl sz53 rfl (Cells.rowE even53 0 rfl (by omega) rfl)) ?_
     refine gs3 ?_
     refine DW.q (v := .agg #[iV ((L.getD q default).Gauge), iV ((L.getD q default).Hour), iV ((L.getD q default).Value.Lo), iV ((L.getD q default).Value.Hi)]) (fun _ h => h) rfl (q_loadAgg rfl uT53 rfl sz53 rfl (Cells.rowE even53 0 rfl (by omega) rfl)) (DW.c (fun _ h => h) rfl (fun w1 hw1 => cmpG_c w1 (Go.K.hp w1) (Hp.le_refl _) (x := (L.getD (mid + mm - 1 - q) default)) (y := (L.getD q default))) rfl rfl (DW.q (v := .bool (decide ((L.getD (mid + mm - 1 - q) default).Gauge < (L.getD q default).Gauge))) (fun _ h => h) rfl (q_as (v := .bool (decide (Fu.cmpI ((L.getD (mid + mm - 1 - q) default).Gauge) ((L.getD q default).Gauge) < 0))) (q_lss rfl rfl) (congrArg (Value.bool) (decide_eq_decide.2 Fu.cmp_lt))) ?_))
     refine gs3 ?_
     refine AW.cond rfl (fun hc20 => ?_) fun hc20 => ?_
     ·
      simp [-List.getD_eq_getElem?_getD] at hc20
      refine gs6 ?_
      have hcq : (L.getD q default).Gauge ≤ (L.getD (mid + mm - 1 - q) default).Gauge := by simpa using hc20
      exact Post.bk ⟨q + 1, j, rfl, rfl, rfl, (by omega), (by omega), (by omega), (.inr (by rw [Nat.add_sub_cancel, show mid + mm - (q + 1) = mid + mm - 1 - q by omega]; exact hcq)), hB⟩
     ·
      simp [-List.getD_eq_getElem?_getD] at hc20
      refine gs5 ?_
      have hcq : (L.getD (mid + mm - 1 - q) default).Gauge < (L.getD q default).Gauge := by simpa using hc20
      exact Post.bk ⟨i, q, rfl, rfl, rfl, (by omega), (by omega), (by omega), hA, (.inr hcq)⟩
    ·
     simp [-List.getD_eq_getElem?_getD] at hc19
     refine gs6 ?_
     have hji : j = i := by omega
     rw [hji] at hB hjr
     obtain ⟨e, he⟩ : ∃ e, mid + mm - i = e := ⟨_, rfl⟩
     have hsum : i + e = mid + mm := by omega
     have has : a ≤ i := by omega
     have him : i ≤ mm := by omega
     have hme : mm ≤ e := by omega
     have heb : e ≤ b := by omega
     have hbL : b ≤ L.length := by omega
     rw [he] at hA
     rw [show mid + mm - 1 - i = e - 1 by omega] at hB
     have hA' : i = a ∨ e = b ∨ (L.getD (i - 1) default).Gauge ≤ (L.getD e default).Gauge := by
      rcases hA with h9 | h9
      ·
       first | exact .inl h9 | exact .inr (.inl (by omega))
      ·
       exact .inr (.inr h9)
     have hB' : i = mm ∨ e = mm ∨ (L.getD (e - 1) default).Gauge < (L.getD i default).Gauge := by
      rcases hB with h9 | h9
      ·
       first | exact .inl h9 | exact .inr (.inl (by omega))
      ·
       exact .inr (.inr h9)
     refine gs3 ?_
     refine RW.q (v := iV (e : Int)) rfl (q_as (v := iV (((mid + mm : Nat) : Int) - (i : Int))) (q_sub rfl rfl (by omega) (by unfold I64; omega)) (congrArg (Value.int .i64) (by omega))) ?_
     refine gs13 ?_
     refine RW.pkA rfl rfl rfl rfl fun qb8 hqb8 => ?_
     subst hqb8
     refine gs2 ?_
     refine AW.cond rfl (fun hc21 => ?_) fun hc21 => ?_
     ·
      simp [-List.getD_eq_getElem?_getD] at hc21
      refine gs6 ?_
      refine RW.ec rfl (fun w1 hw1 => rotate_c hBE hv (by omega) hn ⟨hL, fun _ _ => rfl⟩ (by omega) (by omega) (by omega) w1 hw1) rfl rfl ?_
      rintro ⟨K8, hK8⟩
      refine gs4 ?_
      have hR : Sorts.Is K8 n (Sorts.rotG (fun x => L.getD x default) i mm e) := hK8
      have hRL : Sorts.Is K8 L.length (Sorts.rotG (fun x => L.getD x default) i mm e) := by rw [hL]; exact hR
      have hu1 := Sorts.sym_upd hs1 hs2 has him hme heb hbL hB' hRL
      have hx := Sorts.sym_cross hs1 hs2 has him hme heb hbL hsum hA' hB' hRL
      obtain ⟨hp1, hp2, hp3, hp4⟩ := Sorts.sym_parts hs1 hs2 has him hme heb hbL hsum hRL
      have hKl : K8.length = n := hR.1
      refine gs8 ?_
      refine RW.pkA rfl rfl rfl rfl fun qb9 hqb9 => ?_
      subst hqb9
      refine gs2 ?_
      refine AW.cond rfl (fun hc22 => ?_) fun hc22 => ?_
      ·
       simp [-List.getD_eq_getElem?_getD] at hc22
       refine gs6 ?_
       refine RW.ec rfl (fun w1 hw1 => ih K8 a i mid hKl (by omega) (by omega) (by omega) (by omega) hp1 hp2 w1 hw1) rfl rfl ?_
       rintro ⟨K9, hK9⟩
       refine gs3 ?_
       obtain ⟨hu2, hS2⟩ := hK9
       have hq3 : Sorts.SrtI (fun r : Bt.Reading => r.Gauge) K9 mid e := hp3.ext (fun p h1 h2 => hu2.get_right h1)
       have hq4 : Sorts.SrtI (fun r : Bt.Reading => r.Gauge) K9 e b := hp4.ext (fun p h1 h2 => hu2.get_right (by omega))
       have hK2l : K9.length = n := (hu2.len (by omega)).trans hKl
       refine gs8 ?_
       refine RW.pkA rfl rfl rfl rfl fun qb10 hqb10 => ?_
       subst hqb10
       refine gs2 ?_
       refine AW.cond rfl (fun hc23 => ?_) fun hc23 => ?_
       ·
        simp [-List.getD_eq_getElem?_getD] at hc23
        refine gs6 ?_
        refine RW.ec rfl (fun w1 hw1 => ih K9 mid e b hK2l (by omega) (by omega) (by omega) (by omega) hq3 hq4 w1 hw1) rfl rfl ?_
        rintro ⟨K10, hK10⟩
        refine gs1 ?_
        obtain ⟨hu3, hS3⟩ := hK10
        have hut : Sorts.Upd (fun r : Bt.Reading => r.Gauge) a b L K10 := hu1.trans ((hu2.wide (by omega) (by omega) (by omega) (by omega)).trans (hu3.wide (by omega) (by omega) (by omega) (by omega)))
        refine fin_none (J' := St B Φ (.row v 53 4 n (flat K10) :: C)) rfl rfl (fun _ h => h) (fun w' hw' => ⟨⟨K10, ⟨hut, Sorts.sym_join (L1 := K8) (by omega) (by omega) (by omega) hx hu2 hu3 hS2 hS3⟩⟩, rfl, hw'⟩)
       ·
        simp [-List.getD_eq_getElem?_getD] at hc23
        refine gs1 ?_
        have hu3 : Sorts.Upd (fun r : Bt.Reading => r.Gauge) mid b K9 K9 := Sorts.Upd.refl _ _ _
        have hS3 : Sorts.SrtI (fun r : Bt.Reading => r.Gauge) K9 mid b := by
         by_cases h9 : e = mid
         ·
          rw [← h9]; exact hq4
         ·
          exact hq3.sub (Nat.le_refl _) (by omega)
        have hut : Sorts.Upd (fun r : Bt.Reading => r.Gauge) a b L K9 := hu1.trans ((hu2.wide (by omega) (by omega) (by omega) (by omega)).trans (hu3.wide (by omega) (by omega) (by omega) (by omega)))
        refine fin_none (J' := St B Φ (.row v 53 4 n (flat K9) :: C)) rfl rfl (fun _ h => h) (fun w' hw' => ⟨⟨K9, ⟨hut, Sorts.sym_join (L1 := K8) (by omega) (by omega) (by omega) hx hu2 hu3 hS2 hS3⟩⟩, rfl, hw'⟩)
      ·
       simp [-List.getD_eq_getElem?_getD] at hc22
       refine gs3 ?_
       have hu2 : Sorts.Upd (fun r : Bt.Reading => r.Gauge) a mid K8 K8 := Sorts.Upd.refl _ _ _
       have hS2 : Sorts.SrtI (fun r : Bt.Reading => r.Gauge) K8 a mid := by
        by_cases h9 : i = a
        ·
         rw [← h9]; exact hp2
        ·
         exact hp1.sub (Nat.le_refl _) (by omega)
       have hq3 : Sorts.SrtI (fun r : Bt.Reading => r.Gauge) K8 mid e := hp3.ext (fun p h1 h2 => hu2.get_right h1)
       have hq4 : Sorts.SrtI (fun r : Bt.Reading => r.Gauge) K8 e b := hp4.ext (fun p h1 h2 => hu2.get_right (by omega))
       have hK2l : K8.length = n := (hu2.len (by omega)).trans hKl
       refine gs8 ?_
       refine RW.pkA rfl rfl rfl rfl fun qb11 hqb11 => ?_
       subst hqb11
       refine gs2 ?_
       refine AW.cond rfl (fun hc24 => ?_) fun hc24 => ?_
       ·
        simp [-List.getD_eq_getElem?_getD] at hc24
        refine gs6 ?_
        refine RW.ec rfl (fun w1 hw1 => ih K8 mid e b hK2l (by omega) (by omega) (by omega) (by omega) hq3 hq4 w1 hw1) rfl rfl ?_
        rintro ⟨K11, hK11⟩
        refine gs1 ?_
        obtain ⟨hu3, hS3⟩ := hK11
        have hut : Sorts.Upd (fun r : Bt.Reading => r.Gauge) a b L K11 := hu1.trans ((hu2.wide (by omega) (by omega) (by omega) (by omega)).trans (hu3.wide (by omega) (by omega) (by omega) (by omega)))
        refine fin_none (J' := St B Φ (.row v 53 4 n (flat K11) :: C)) rfl rfl (fun _ h => h) (fun w' hw' => ⟨⟨K11, ⟨hut, Sorts.sym_join (L1 := K8) (by omega) (by omega) (by omega) hx hu2 hu3 hS2 hS3⟩⟩, rfl, hw'⟩)
       ·
        simp [-List.getD_eq_getElem?_getD] at hc24
        refine gs1 ?_
        have hu3 : Sorts.Upd (fun r : Bt.Reading => r.Gauge) mid b K8 K8 := Sorts.Upd.refl _ _ _
        have hS3 : Sorts.SrtI (fun r : Bt.Reading => r.Gauge) K8 mid b := by
         by_cases h9 : e = mid
         ·
          rw [← h9]; exact hq4
         ·
          exact hq3.sub (Nat.le_refl _) (by omega)
        have hut : Sorts.Upd (fun r : Bt.Reading => r.Gauge) a b L K8 := hu1.trans ((hu2.wide (by omega) (by omega) (by omega) (by omega)).trans (hu3.wide (by omega) (by omega) (by omega) (by omega)))
        refine fin_none (J' := St B Φ (.row v 53 4 n (flat K8) :: C)) rfl rfl (fun _ h => h) (fun w' hw' => ⟨⟨K8, ⟨hut, Sorts.sym_join (L1 := K8) (by omega) (by omega) (by omega) hx hu2 hu3 hS2 hS3⟩⟩, rfl, hw'⟩)
     ·
      simp [-List.getD_eq_getElem?_getD] at hc21
      refine gs4 ?_
      have hR : Sorts.Is L n (Sorts.rotG (fun x => L.getD x default) i mm e) := by
       have h9 := Sorts.rot_id (L := L) (s := i) (m := mm) (e := e) (by omega) him hme
       rw [hL] at h9; exact h9
      have hRL : Sorts.Is L L.length (Sorts.rotG (fun x => L.getD x default) i mm e) := by rw [hL]; exact hR
      have hu1 := Sorts.sym_upd hs1 hs2 has him hme heb hbL hB' hRL
      have hx := Sorts.sym_cross hs1 hs2 has him hme heb hbL hsum hA' hB' hRL
      obtain ⟨hp1, hp2, hp3, hp4⟩ := Sorts.sym_parts hs1 hs2 has him hme heb hbL hsum hRL
      have hKl : L.length = n := hR.1
      refine gs8 ?_
      refine RW.pkA rfl rfl rfl rfl fun qb12 hqb12 => ?_
      subst hqb12
      refine gs2 ?_
      refine AW.cond rfl (fun hc25 => ?_) fun hc25 => ?_
      ·
       simp [-List.getD_eq_getElem?_getD] at hc25
       refine gs6 ?_
       refine RW.ec rfl (fun w1 hw1 => ih L a i mid hKl (by omega) (by omega) (by omega) (by omega) hp1 hp2 w1 hw1) rfl rfl ?_
       rintro ⟨K12, hK12⟩
       refine gs3 ?_
       obtain ⟨hu2, hS2⟩ := hK12
       have hq3 : Sorts.SrtI (fun r : Bt.Reading => r.Gauge) K12 mid e := hp3.ext (fun p h1 h2 => hu2.get_right h1)
       have hq4 : Sorts.SrtI (fun r : Bt.Reading => r.Gauge) K12 e b := hp4.ext (fun p h1 h2 => hu2.get_right (by omega))
       have hK2l : K12.length = n := (hu2.len (by omega)).trans hKl
       refine gs8 ?_
       refine RW.pkA rfl rfl rfl rfl fun qb13 hqb13 => ?_
       subst hqb13
       refine gs2 ?_
       refine AW.cond rfl (fun hc26 => ?_) fun hc26 => ?_
       ·
        simp [-List.getD_eq_getElem?_getD] at hc26
        refine gs6 ?_
        refine RW.ec rfl (fun w1 hw1 => ih K12 mid e b hK2l (by omega) (by omega) (by omega) (by omega) hq3 hq4 w1 hw1) rfl rfl ?_
        rintro ⟨K13, hK13⟩
        refine gs1 ?_
        obtain ⟨hu3, hS3⟩ := hK13
        have hut : Sorts.Upd (fun r : Bt.Reading => r.Gauge) a b L K13 := hu1.trans ((hu2.wide (by omega) (by omega) (by omega) (by omega)).trans (hu3.wide (by omega) (by omega) (by omega) (by omega)))
        refine fin_none (J' := St B Φ (.row v 53 4 n (flat K13) :: C)) rfl rfl (fun _ h => h) (fun w' hw' => ⟨⟨K13, ⟨hut, Sorts.sym_join (L1 := L) (by omega) (by omega) (by omega) hx hu2 hu3 hS2 hS3⟩⟩, rfl, hw'⟩)
       ·
        simp [-List.getD_eq_getElem?_getD] at hc26
        refine gs1 ?_
        have hu3 : Sorts.Upd (fun r : Bt.Reading => r.Gauge) mid b K12 K12 := Sorts.Upd.refl _ _ _
        have hS3 : Sorts.SrtI (fun r : Bt.Reading => r.Gauge) K12 mid b := by
         by_cases h9 : e = mid
         ·
          rw [← h9]; exact hq4
         ·
          exact hq3.sub (Nat.le_refl _) (by omega)
        have hut : Sorts.Upd (fun r : Bt.Reading => r.Gauge) a b L K12 := hu1.trans ((hu2.wide (by omega) (by omega) (by omega) (by omega)).trans (hu3.wide (by omega) (by omega) (by omega) (by omega)))
        refine fin_none (J' := St B Φ (.row v 53 4 n (flat K12) :: C)) rfl rfl (fun _ h => h) (fun w' hw' => ⟨⟨K12, ⟨hut, Sorts.sym_join (L1 := L) (by omega) (by omega) (by omega) hx hu2 hu3 hS2 hS3⟩⟩, rfl, hw'⟩)
      ·
       simp [-List.getD_eq_getElem?_getD] at hc25
       refine gs3 ?_
       have hu2 : Sorts.Upd (fun r : Bt.Reading => r.Gauge) a mid L L := Sorts.Upd.refl _ _ _
       have hS2 : Sorts.SrtI (fun r : Bt.Reading => r.Gauge) L a mid := by
        by_cases h9 : i = a
        ·
         rw [← h9]; exact hp2
        ·
         exact hp1.sub (Nat.le_refl _) (by omega)
       have hq3 : Sorts.SrtI (fun r : Bt.Reading => r.Gauge) L mid e := hp3.ext (fun p h1 h2 => hu2.get_right h1)
       have hq4 : Sorts.SrtI (fun r : Bt.Reading => r.Gauge) L e b := hp4.ext (fun p h1 h2 => hu2.get_right (by omega))
       have hK2l : L.length = n := (hu2.len (by omega)).trans hKl
       refine gs8 ?_
       refine RW.pkA rfl rfl rfl rfl fun qb14 hqb14 => ?_
       subst hqb14
       refine gs2 ?_
       refine AW.cond rfl (fun hc27 => ?_) fun hc27 => ?_
       ·
        simp [-List.getD_eq_getElem?_getD] at hc27
        refine gs6 ?_
        refine RW.ec rfl (fun w1 hw1 => ih L mid e b hK2l (by omega) (by omega) (by omega) (by omega) hq3 hq4 w1 hw1) rfl rfl ?_
        rintro ⟨K14, hK14⟩
        refine gs1 ?_
        obtain ⟨hu3, hS3⟩ := hK14
        have hut : Sorts.Upd (fun r : Bt.Reading => r.Gauge) a b L K14 := hu1.trans ((hu2.wide (by omega) (by omega) (by omega) (by omega)).trans (hu3.wide (by omega) (by omega) (by omega) (by omega)))
        refine fin_none (J' := St B Φ (.row v 53 4 n (flat K14) :: C)) rfl rfl (fun _ h => h) (fun w' hw' => ⟨⟨K14, ⟨hut, Sorts.sym_join (L1 := L) (by omega) (by omega) (by omega) hx hu2 hu3 hS2 hS3⟩⟩, rfl, hw'⟩)
       ·
        simp [-List.getD_eq_getElem?_getD] at hc27
        refine gs1 ?_
        have hu3 : Sorts.Upd (fun r : Bt.Reading => r.Gauge) mid b L L := Sorts.Upd.refl _ _ _
        have hS3 : Sorts.SrtI (fun r : Bt.Reading => r.Gauge) L mid b := by
         by_cases h9 : e = mid
         ·
          rw [← h9]; exact hq4
         ·
          exact hq3.sub (Nat.le_refl _) (by omega)
        have hut : Sorts.Upd (fun r : Bt.Reading => r.Gauge) a b L L := hu1.trans ((hu2.wide (by omega) (by omega) (by omega) (by omega)).trans (hu3.wide (by omega) (by omega) (by omega) (by omega)))
        refine fin_none (J' := St B Φ (.row v 53 4 n (flat L) :: C)) rfl rfl (fun _ h => h) (fun w' hw' => ⟨⟨L, ⟨hut, Sorts.sym_join (L1 := L) (by omega) (by omega) (by omega) hx hu2 hu3 hS2 hS3⟩⟩, rfl, hw'⟩)
end Go.Proofs.YtblfeidlnhdekaaGreat
