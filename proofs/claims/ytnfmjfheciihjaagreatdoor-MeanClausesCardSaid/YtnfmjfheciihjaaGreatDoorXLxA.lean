/- Lemmas. Conditions: those of each theorem. -/
import Derived.Test.YtnfmjfheciihjaaGreatDoorXMnP
import Derived.Test.YtnfmjfheciihjaaGreatDoorXParK
import Derived.Test.YtnfmjfheciihjaaGreatDoorXSw
set_option maxRecDepth 8000
set_option maxHeartbeats 16000000
namespace Go.Proofs.YtnfmjfheciihjaaGreatDoor
open Go Go.K Go.RowKit
attribute [local irreducible] AW RW DW Post Qt
theorem Clamp_c (w : World) (Φ : Hp) (hΦ : Hp.le Φ (hp w)) {a b d : Int} :
  Calls pg 15 #[iV a, iV b, iV d] w fun e w' => e = .returned (iV (Mn.clampI a b d)) ∧ Bel w.heap.size w w' := by
 refine calls_of_AW (args := [iV a, iV b, iV d]) Tryz.func15 rfl (lBT rfl) (St ⟨w, Φ, []⟩ Φ []) (StP.init w Φ hΦ []) ?_
 show AW pg 16 [] _ _ _ [(0, iV a), (1, iV b), (2, iV d)] _
 refine g13 ?_
 refine AW.cond rfl (fun hc1 => ?_) fun hc1 => ?_
 ·
  simp [-List.getD_eq_getElem?_getD] at hc1
  refine g8 ?_
  exact fin_val (v' := iV b) rfl rfl rfl (congrArg (Value.int .i64) (by unfold Mn.clampI; rw [if_pos (by omega)]))
 ·
  simp [-List.getD_eq_getElem?_getD] at hc1
  refine g10 ?_
  refine AW.cond rfl (fun hc2 => ?_) fun hc2 => ?_
  ·
   simp [-List.getD_eq_getElem?_getD] at hc2
   refine g8 ?_
   exact fin_val (v' := iV d) rfl rfl rfl (congrArg (Value.int .i64) (by unfold Mn.clampI; rw [if_neg (by omega), if_pos (by omega)]))
  ·
   simp [-List.getD_eq_getElem?_getD] at hc2
   refine g9 ?_
   exact fin_val (v' := iV a) rfl rfl rfl (congrArg (Value.int .i64) (by unfold Mn.clampI; rw [if_neg (by omega), if_neg (by omega)]))
theorem Add_c (w : World) (Φ : Hp) (hΦ : Hp.le Φ (hp w)) {a b : Int} (ha : I64 a) (hb : I64 b) :
  Calls pg 79 #[iV a, iV b] w fun e w' => e = .returned (iV (Mn.lim (a + b))) ∧ Bel w.heap.size w w' := by
 refine calls_of_AW (args := [iV a, iV b]) Tryz.func79 rfl (lBT rfl) (St ⟨w, Φ, []⟩ Φ []) (StP.init w Φ hΦ []) ?_
 show AW pg 24 [] _ _ _ [(0, iV a), (1, iV b)] _
 have ha0 := ha
 have hb0 := hb
 unfold I64 at ha0 hb0
 refine g13 ?_
 refine RW.g (b := (decide ((0 : Int) < b))) (v := iV (9223372036854775807 - b)) rfl rfl rfl (fun h => q_sub rfl (gv_pos h) (by (try simp [-List.getD_eq_getElem?_getD] at h); omega) (by (try simp [-List.getD_eq_getElem?_getD] at h); unfold I64; omega)) ?_
 refine g1 ?_
 obtain ⟨qb1, hqb1⟩ : ∃ qz : Bool, ((decide ((0 : Int) < b)) && (decide (9223372036854775807 - b < a))) = qz := ⟨_, rfl⟩
 refine RW.q (v := .bool qb1) rfl (q_as (v := .bool ((decide ((0 : Int) < b)) && (decide (9223372036854775807 - b < a)))) (qpA rfl rfl rfl) (congrArg Value.bool hqb1)) ?_
 subst hqb1
 refine g2 ?_
 refine AW.cond rfl (fun hc1 => ?_) fun hc1 => ?_
 ·
  simp [-List.getD_eq_getElem?_getD] at hc1
  refine g7 ?_
  exact fin_val (v' := iV 9223372036854775807) rfl rfl rfl (congrArg (Value.int .i64) (by unfold Mn.lim Mn.mn Mn.mx; unfold I64 at ha hb; first | omega | (split <;> first | omega | (split <;> omega))))
 ·
  simp [-List.getD_eq_getElem?_getD] at hc1
  refine g10 ?_
  refine RW.g (b := (decide (b < 0))) (v := iV ((-9223372036854775808) - b)) rfl rfl rfl (fun h => q_sub rfl (gv_pos h) (by (try simp [-List.getD_eq_getElem?_getD] at h); omega) (by (try simp [-List.getD_eq_getElem?_getD] at h); unfold I64; omega)) ?_
  refine g1 ?_
  obtain ⟨qb2, hqb2⟩ : ∃ qz : Bool, ((decide (b < 0)) && (decide (a < (-9223372036854775808) - b))) = qz := ⟨_, rfl⟩
  refine RW.q (v := .bool qb2) rfl (q_as (v := .bool ((decide (b < 0)) && (decide (a < (-9223372036854775808) - b)))) (qpA rfl rfl rfl) (congrArg Value.bool hqb2)) ?_
  subst hqb2
  refine g2 ?_
  refine AW.cond rfl (fun hc2 => ?_) fun hc2 => ?_
  ·
   simp [-List.getD_eq_getElem?_getD] at hc2
   refine g7 ?_
   exact fin_val (v' := iV (-9223372036854775808)) rfl rfl rfl (congrArg (Value.int .i64) (by unfold Mn.lim Mn.mn Mn.mx; unfold I64 at ha hb; first | omega | (split <;> first | omega | (split <;> omega))))
  ·
   simp [-List.getD_eq_getElem?_getD] at hc2
   refine g11 ?_
   exact fin_val (v' := iV (a + b)) rfl rfl rfl (congrArg (Value.int .i64) (by unfold Mn.lim Mn.mn Mn.mx; unfold I64 at ha hb; first | omega | (split <;> first | omega | (split <;> omega))))
theorem Sub_c (w : World) (Φ : Hp) (hΦ : Hp.le Φ (hp w)) {a b : Int} (ha : I64 a) (hb : I64 b) :
  Calls pg 49 #[iV a, iV b] w fun e w' => e = .returned (iV (Mn.lim (a - b))) ∧ Bel w.heap.size w w' := by
 refine calls_of_AW (args := [iV a, iV b]) Tryz.func49 rfl (lBT rfl) (St ⟨w, Φ, []⟩ Φ []) (StP.init w Φ hΦ []) ?_
 show AW pg 24 [] _ _ _ [(0, iV a), (1, iV b)] _
 have ha0 := ha
 have hb0 := hb
 unfold I64 at ha0 hb0
 refine g13 ?_
 refine RW.g (b := (decide (b < 0))) (v := iV (9223372036854775807 + b)) rfl rfl rfl (fun h => q_add rfl (gv_pos h) (by (try simp [-List.getD_eq_getElem?_getD] at h); omega) (by (try simp [-List.getD_eq_getElem?_getD] at h); unfold I64; omega)) ?_
 refine g1 ?_
 obtain ⟨qb1, hqb1⟩ : ∃ qz : Bool, ((decide (b < 0)) && (decide (9223372036854775807 + b < a))) = qz := ⟨_, rfl⟩
 refine RW.q (v := .bool qb1) rfl (q_as (v := .bool ((decide (b < 0)) && (decide (9223372036854775807 + b < a)))) (qpA rfl rfl rfl) (congrArg Value.bool hqb1)) ?_
 subst hqb1
 refine g2 ?_
 refine AW.cond rfl (fun hc1 => ?_) fun hc1 => ?_
 ·
  simp [-List.getD_eq_getElem?_getD] at hc1
  refine g7 ?_
  exact fin_val (v' := iV 9223372036854775807) rfl rfl rfl (congrArg (Value.int .i64) (by unfold Mn.lim Mn.mn Mn.mx; unfold I64 at ha hb; first | omega | (split <;> first | omega | (split <;> omega))))
 ·
  simp [-List.getD_eq_getElem?_getD] at hc1
  refine g10 ?_
  refine RW.g (b := (decide ((0 : Int) < b))) (v := iV ((-9223372036854775808) + b)) rfl rfl rfl (fun h => q_add rfl (gv_pos h) (by (try simp [-List.getD_eq_getElem?_getD] at h); omega) (by (try simp [-List.getD_eq_getElem?_getD] at h); unfold I64; omega)) ?_
  refine g1 ?_
  obtain ⟨qb2, hqb2⟩ : ∃ qz : Bool, ((decide ((0 : Int) < b)) && (decide (a < (-9223372036854775808) + b))) = qz := ⟨_, rfl⟩
  refine RW.q (v := .bool qb2) rfl (q_as (v := .bool ((decide ((0 : Int) < b)) && (decide (a < (-9223372036854775808) + b)))) (qpA rfl rfl rfl) (congrArg Value.bool hqb2)) ?_
  subst hqb2
  refine g2 ?_
  refine AW.cond rfl (fun hc2 => ?_) fun hc2 => ?_
  ·
   simp [-List.getD_eq_getElem?_getD] at hc2
   refine g7 ?_
   exact fin_val (v' := iV (-9223372036854775808)) rfl rfl rfl (congrArg (Value.int .i64) (by unfold Mn.lim Mn.mn Mn.mx; unfold I64 at ha hb; first | omega | (split <;> first | omega | (split <;> omega))))
  ·
   simp [-List.getD_eq_getElem?_getD] at hc2
   refine g11 ?_
   exact fin_val (v' := iV (a - b)) rfl rfl rfl (congrArg (Value.int .i64) (by unfold Mn.lim Mn.mn Mn.mx; unfold I64 at ha hb; first | omega | (split <;> first | omega | (split <;> omega))))
theorem truth1_c (w : World) (Φ : Hp) (hΦ : Hp.le Φ (hp w)) {t : Bool} :
  Calls pg 81 #[.bool t] w fun e w' => e = .returned (iV (if t then 1 else 0)) ∧ Bel w.heap.size w w' := by
 refine calls_of_AW (args := [.bool t]) Tryz.func81 rfl (lBT rfl) (St ⟨w, Φ, []⟩ Φ []) (StP.init w Φ hΦ []) ?_
 show AW pg 4 [] _ _ _ [(0, .bool t)] _
 refine g11 ?_
 refine AW.cond rfl (fun hc1 => ?_) fun hc1 => ?_
 ·
  refine g7 ?_
  exact fin_val (v' := iV 1) rfl rfl rfl (congrArg (Value.int .i64) (by simp_all))
 ·
  refine g8 ?_
  exact fin_val (v' := iV 0) rfl rfl rfl (congrArg (Value.int .i64) (by simp_all))
theorem isType_c (w : World) (Φ : Hp) (hΦ : Hp.le Φ (hp w)) {a : Int} :
  Calls pg 42 #[iV a] w fun e w' => e = .returned (.bool (decide (a = 0) || decide (a = 1))) ∧ Bel w.heap.size w w' := by
 refine calls_of_AW (args := [iV a]) Tryz.func42 rfl (lBT rfl) (St ⟨w, Φ, []⟩ Φ []) (StP.init w Φ hΦ []) ?_
 show AW pg 9 [] _ _ _ [(0, iV a)] _
 refine g12 ?_
 obtain ⟨qb1, hqb1⟩ : ∃ qz : Bool, ((decide (a = 0)) || (decide (a = 1))) = qz := ⟨_, rfl⟩
 refine RW.q (v := .bool qb1) rfl (q_as (v := .bool ((decide (a = 0)) || (decide (a = 1)))) (qpO rfl rfl rfl) (congrArg Value.bool hqb1)) ?_
 refine g1 ?_
 subst hqb1
 refine g3 ?_
 exact fin_val (v' := .bool ((decide (a = 0)) || (decide (a = 1)))) rfl rfl rfl (rfl)
theorem leap_c (w : World) (Φ : Hp) (hΦ : Hp.le Φ (hp w)) {a : Nat} :
  Calls pg 77 #[iV (a : Int)] w fun e w' => e = .returned (.bool (Mn.leap (a : Int))) ∧ Bel w.heap.size w w' := by
 refine calls_of_AW (args := [iV (a : Int)]) Tryz.func77 rfl (lBT rfl) (St ⟨w, Φ, []⟩ Φ []) (StP.init w Φ hΦ []) ?_
 show AW pg 16 [] _ _ _ [(0, iV (a : Int))] _
 refine g8 ?_
 refine RW.q (v := iV ((a % 4 : Nat) : Int)) rfl (q_remN (a := a) (b := 4) rfl rfl (by omega)) ?_
 refine g3 ?_
 refine RW.g (b := (decide (((a % 4 : Nat) : Int) = 0))) (v := iV ((a % 100 : Nat) : Int)) rfl rfl rfl (fun h => q_remN (a := a) (b := 100) (gv_pos h) rfl (by (try simp [-List.getD_eq_getElem?_getD] at h); omega)) ?_
 refine g2 ?_
 refine RW.g2 (b1 := (decide (((a % 4 : Nat) : Int) = 0))) (b2 := (!decide (((a % 100 : Nat) : Int) = 0))) (v := iV (a : Int)) rfl rfl rfl (fun hg1 hg2 => q_move rfl) (RW.g2 (b1 := (decide (((a % 4 : Nat) : Int) = 0))) (b2 := (!decide (((a % 100 : Nat) : Int) = 0))) (v := iV ((a % 400 : Nat) : Int)) rfl rfl rfl (fun hg1 hg2 => q_remN (a := a) (b := 400) ((gv_pos hg1).trans (gv_pos hg2)) rfl (by (try simp [-List.getD_eq_getElem?_getD] at hg1); (try simp [-List.getD_eq_getElem?_getD] at hg2); omega)) ?_)
 refine RW.g2 (b1 := (decide (((a % 4 : Nat) : Int) = 0))) (b2 := (!decide (((a % 100 : Nat) : Int) = 0))) (v := .bool (decide (((a % 400 : Nat) : Int) = 0))) rfl rfl rfl (fun hg1 hg2 => q_eql ((gv_pos hg1).trans (gv_pos hg2)) rfl) ?_
 obtain ⟨qb1, hqb1⟩ : ∃ qz : Bool, ((!decide (((a % 100 : Nat) : Int) = 0)) || (decide (((a % 400 : Nat) : Int) = 0))) = qz := ⟨_, rfl⟩
 refine RW.g (b := (decide (((a % 4 : Nat) : Int) = 0))) (v := .bool qb1) rfl rfl rfl (fun h => q_as (v := .bool ((!decide (((a % 100 : Nat) : Int) = 0)) || (decide (((a % 400 : Nat) : Int) = 0)))) (q_pick (gv_pos h) (fun hp => pkOrT hp) (fun hp => (gv_pos h).trans ((gv_pos hp).trans (pkOrF hp)))) (congrArg Value.bool hqb1)) ?_
 obtain ⟨qb2, hqb2⟩ : ∃ qz : Bool, ((decide (((a % 4 : Nat) : Int) = 0)) && qb1) = qz := ⟨_, rfl⟩
 refine RW.q (v := .bool qb2) rfl (q_as (v := .bool ((decide (((a % 4 : Nat) : Int) = 0)) && qb1)) (qpA rfl rfl rfl) (congrArg Value.bool hqb2)) ?_
 refine g1 ?_
 subst hqb2 hqb1
 refine g3 ?_
 exact fin_val (v' := .bool ((decide (((a % 4 : Nat) : Int) = 0)) && ((!decide (((a % 100 : Nat) : Int) = 0)) || (decide (((a % 400 : Nat) : Int) = 0))))) rfl rfl rfl (congrArg Value.bool (by unfold Mn.leap; rw [Bool.eq_iff_iff]; simp only [Bool.and_eq_true, Bool.or_eq_true, decide_eq_true_eq, Bool.not_eq_true', decide_eq_false_iff_not]; omega))
end Go.Proofs.YtnfmjfheciihjaaGreatDoor
namespace Ru
open Go Go.K Bt
abbrev pB (b : Nat) : Value := .pointer (some ⟨b, 0, none⟩)
abbrev nC (k n o q a : Int) (nm ow : Token) (kv : Value) : List Value := [iV k, iV n, iV o, iV q, iV a, iV nm.Kind, .string (bs nm.Text), iV nm.At, iV ow.Kind, .string (bs ow.Text), iV ow.At, kv]
def wfK (t : Token) : Prop := I64 t.Kind ∧ t.Text.length ≤ 65536 ∧ I64 t.At
def wfH (k n o q a : Int) (nm ow : Token) : Prop := I64 k ∧ I64 n ∧ I64 o ∧ I64 q ∧ I64 a ∧ wfK nm ∧ wfK ow
def TrF (H : Hp) : Nd → Nat → List Nat → Prop
 | ⟨k, n, o, q, a, nm, ow, ks⟩, b, F => ∃ kv l G, H b = some (.cells (nC k n o q a nm ow kv).toArray 153 (0, 0)) ∧ RowS H kv 145 1 ks.length (l.map pB) ∧ TrL H ks l G ∧ F = b :: (blks kv ++ G) ∧ wfH k n o q a nm ow
where TrL (H : Hp) : List Nd → List Nat → List Nat → Prop
 | [], l, F => l = [] ∧ F = []
 | x :: xs, l, F => ∃ b l2 F1 F2, l = b :: l2 ∧ F = F1 ++ F2 ∧ TrF H x b F1 ∧ TrL H xs l2 F2
abbrev TrL := TrF.TrL
mutual
theorem TrF.loc {Φ Ψ : Hp} : ∀ (x : Nd) (b : Nat) (F : List Nat), (∀ b ∈ F, Ψ b = Φ b) → TrF Φ x b F → TrF Ψ x b F
 | ⟨k, n, o, q, a, nm, ow, ks⟩, b, F, h, ⟨kv, l, G, h1, h2, h3, h4, h5⟩ => by
  subst h4
  refine ⟨kv, l, G, (h b (List.mem_cons_self ..)).trans h1, ?_, TrL.loc ks l G (fun b hb => h b (List.mem_cons_of_mem _ (List.mem_append_right _ hb))) h3, rfl, h5⟩
  exact (Chunk.row kv 145 1 ks.length (l.map pB)).loc Φ Ψ (fun b hb => h b (List.mem_cons_of_mem _ (List.mem_append_left _ hb))) h2
theorem TrL.loc {Φ Ψ : Hp} : ∀ (xs : List Nd) (l F : List Nat), (∀ b ∈ F, Ψ b = Φ b) → TrL Φ xs l F → TrL Ψ xs l F
 | [], _, _, _, h => h
 | x :: xs, l, F, h, ⟨b, l2, F1, F2, h1, h2, h3, h4⟩ => by
  subst h2
  exact ⟨b, l2, F1, F2, h1, rfl, TrF.loc x b F1 (fun b hb => h b (List.mem_append_left _ hb)) h3, TrL.loc xs l2 F2 (fun b hb => h b (List.mem_append_right _ hb)) h4⟩
end
mutual
theorem TrF.dom {Φ : Hp} : ∀ (x : Nd) (b : Nat) (F : List Nat), TrF Φ x b F → ∀ c ∈ F, Φ c ≠ none
 | ⟨k, n, o, q, a, nm, ow, ks⟩, b, F, ⟨kv, l, G, h1, h2, h3, h4, h5⟩, c, hc => by
  subst h4
  rcases List.mem_cons.1 hc with rfl | hc
  ·
   rw [h1]; simp
  ·
   rcases List.mem_append.1 hc with hc | hc
   ·
    exact (Chunk.row kv 145 1 ks.length (l.map pB)).dom Φ h2 c hc
   ·
    exact TrL.dom ks l G h3 c hc
theorem TrL.dom {Φ : Hp} : ∀ (xs : List Nd) (l F : List Nat), TrL Φ xs l F → ∀ c ∈ F, Φ c ≠ none
 | [], l, F, h, c, hc => by rw [h.2] at hc; cases hc
 | x :: xs, l, F, ⟨b, l2, F1, F2, h1, h2, h3, h4⟩, c, hc => by
  subst h2
  rcases List.mem_append.1 hc with hc | hc
  ·
   exact TrF.dom x b F1 h3 c hc
  ·
   exact TrL.dom xs l2 F2 h4 c hc
end
theorem TrL.len {H : Hp} : ∀ {xs : List Nd} {l F : List Nat}, TrL H xs l F → l.length = xs.length
 | [], _, _, h => by rw [h.1]; rfl
 | _ :: _, _, _, ⟨_, _, _, _, h1, _, _, h4⟩ => by rw [h1, List.length_cons, List.length_cons, TrL.len h4]
theorem TrL.app {H : Hp} : ∀ {xs ys : List Nd} {l m F G : List Nat}, TrL H xs l F → TrL H ys m G → TrL H (xs ++ ys) (l ++ m) (F ++ G)
 | [], _, _, _, _, _, h, k => by rw [h.1, h.2]; exact k
 | _ :: _, _, _, _, _, _, ⟨b, l2, F1, F2, h1, h2, h3, h4⟩, k => ⟨b, _, F1, _, by rw [h1, List.cons_append], by rw [h2, List.append_assoc], h3, TrL.app h4 k⟩
theorem TrL.split {H : Hp} : ∀ {xs ys : List Nd} {l F : List Nat}, TrL H (xs ++ ys) l F → ∃ l1 l2 F1 F2, l = l1 ++ l2 ∧ F = F1 ++ F2 ∧ TrL H xs l1 F1 ∧ TrL H ys l2 F2
 | [], _, l, F, h => ⟨[], l, [], F, rfl, rfl, ⟨rfl, rfl⟩, h⟩
 | x :: xs, ys, l, F, ⟨b, l2, F1, F2, h1, h2, h3, h4⟩ => by
  obtain ⟨m1, m2, G1, G2, e1, e2, k1, k2⟩ := TrL.split h4
  exact ⟨b :: m1, m2, F1 ++ G1, G2, by rw [h1, e1, List.cons_append], by rw [h2, e2, List.append_assoc], ⟨b, m1, F1, G1, rfl, rfl, h3, k1⟩, k2⟩
def tr (x : Nd) (b : Nat) (F : List Nat) : Chunk := ⟨F, fun H => TrF H x b F ∧ F.Nodup, fun _ _ h hs => ⟨TrF.loc x b F h hs.1, hs.2⟩, fun _ hs => TrF.dom x b F hs.1⟩
def trs (xs : List Nd) (l F : List Nat) : Chunk := ⟨F, fun H => TrL H xs l F ∧ F.Nodup, fun _ _ h hs => ⟨TrL.loc xs l F h hs.1, hs.2⟩, fun _ hs => TrL.dom xs l F hs.1⟩
variable {B : Bs} {Φ Ψ : Hp} {C : List Chunk} {w : World}
theorem blks_nodup (v : Value) : (blks v).Nodup := by
 unfold blks; split <;> simp
theorem tr_cut {k n o q a : Int} {nm ow : Token} {ks : List Nd} {b : Nat} {F : List Nat} (h : StP B Φ (tr ⟨k, n, o, q, a, nm, ow, ks⟩ b F :: C) w) :
  ∃ kv l G, F = b :: (blks kv ++ G) ∧ wfH k n o q a nm ow ∧ l.length = ks.length ∧ StP B Φ (.blk b 153 (nC k n o q a nm ow kv) :: .row kv 145 1 ks.length (l.map pB) :: trs ks l G :: C) w := by
 obtain ⟨⟨kv, l, G, h1, h2, h3, h4, h5⟩, hn⟩ := h.sat _ (List.mem_cons_self ..)
 subst h4
 obtain ⟨hn1, hn2⟩ := List.nodup_cons.1 hn
 obtain ⟨_, hn3, hn4⟩ := List.nodup_append.1 hn2
 refine ⟨kv, l, G, rfl, h5, TrL.len h3, StP.recut (C1 := [tr _ b _]) (C2 := [.blk b 153 (nC k n o q a nm ow kv), .row kv 145 1 ks.length (l.map pB), trs ks l G]) h ?_ ?_ ?_⟩
 ·
  intro c hc
  simp only [List.mem_cons, List.not_mem_nil, or_false] at hc
  rcases hc with rfl | rfl | rfl
  ·
   exact h1
  ·
   exact h2
  ·
   exact ⟨h3, hn3⟩
 ·
  refine List.pairwise_cons.2 ⟨fun d hd c hc => ?_, List.pairwise_cons.2 ⟨fun d hd c hc => ?_, List.pairwise_singleton ..⟩⟩
  ·
   obtain rfl : c = b := by simpa [Chunk.blk] using hc
   simp only [List.mem_cons, List.not_mem_nil, or_false] at hd
   rcases hd with rfl | rfl
   ·
    exact fun hm => hn1 (List.mem_append_left _ hm)
   ·
    exact fun hm => hn1 (List.mem_append_right _ hm)
  ·
   simp only [List.mem_cons, List.not_mem_nil, or_false] at hd
   subst hd
   exact fun hm => hn4 c hc c hm rfl
 ·
  intro c hc
  simpa [Chunk.blk, Chunk.row, trs, tr] using hc
theorem tr_join {k n o q a : Int} {nm ow : Token} {ks : List Nd} {b : Nat} {G l : List Nat} {kv : Value} (hwf : wfH k n o q a nm ow) (h : StP B Φ (.blk b 153 (nC k n o q a nm ow kv) :: .row kv 145 1 ks.length (l.map pB) :: trs ks l G :: C) w) :
  StP B Φ (tr ⟨k, n, o, q, a, nm, ow, ks⟩ b (b :: (blks kv ++ G)) :: C) w := by
 have h1 := h.sat _ (List.mem_cons_self ..)
 have h2 := h.sat _ (List.mem_cons_of_mem _ (List.mem_cons_self ..))
 have h3 := h.sat _ (List.mem_cons_of_mem _ (List.mem_cons_of_mem _ (List.mem_cons_self ..)))
 obtain ⟨s1, s2⟩ := List.pairwise_cons.1 h.sep
 obtain ⟨s3, _⟩ := List.pairwise_cons.1 s2
 refine StP.recut (C1 := [.blk b 153 (nC k n o q a nm ow kv), .row kv 145 1 ks.length (l.map pB), trs ks l G]) (C2 := [tr ⟨k, n, o, q, a, nm, ow, ks⟩ b (b :: (blks kv ++ G))]) h ?_ (List.pairwise_singleton ..) ?_
 ·
  intro c hc
  obtain rfl := List.mem_singleton.1 hc
  refine ⟨⟨kv, l, G, h1, h2, h3.1, rfl, hwf⟩, List.nodup_cons.2 ⟨fun hm => ?_, List.nodup_append.2 ⟨blks_nodup kv, h3.2, fun c hc d hd e => ?_⟩⟩⟩
  ·
   rcases List.mem_append.1 hm with hm | hm
   ·
    exact s1 _ (List.mem_cons_self ..) b (List.mem_singleton.2 rfl) hm
   ·
    exact s1 _ (List.mem_cons_of_mem _ (List.mem_cons_self ..)) b (List.mem_singleton.2 rfl) hm
  ·
   subst e
   exact s3 _ (List.mem_cons_self ..) c hc hd
 ·
  intro c hc
  simpa [Chunk.blk, Chunk.row, trs, tr] using hc
theorem trs_nil (h : StP B Φ C w) : StP B Φ (trs [] [] [] :: C) w :=
 StP.recut (C1 := []) (C2 := [trs [] [] []]) h (fun c hc => by obtain rfl := List.mem_singleton.1 hc; exact ⟨⟨rfl, rfl⟩, List.nodup_nil⟩) (List.pairwise_singleton ..) (fun c hc => by simp [trs] at hc)
theorem trs_one {x : Nd} {b : Nat} {F : List Nat} (h : StP B Φ (tr x b F :: C) w) : StP B Φ (trs [x] [b] F :: C) w :=
 StP.recut (C1 := [tr x b F]) (C2 := [trs [x] [b] F]) h (fun c hc => by
  obtain rfl := List.mem_singleton.1 hc
  obtain ⟨h1, h2⟩ := h.sat _ (List.mem_cons_self ..)
  exact ⟨⟨b, [], F, [], rfl, (List.append_nil _).symm, h1, rfl, rfl⟩, h2⟩) (List.pairwise_singleton ..) (fun c hc => by simpa [trs, tr] using hc)
theorem trs_app {xs ys : List Nd} {l m F G : List Nat} (h : StP B Φ (trs xs l F :: trs ys m G :: C) w) : StP B Φ (trs (xs ++ ys) (l ++ m) (F ++ G) :: C) w :=
 StP.recut (C1 := [trs xs l F, trs ys m G]) (C2 := [trs (xs ++ ys) (l ++ m) (F ++ G)]) h (fun c hc => by
  obtain rfl := List.mem_singleton.1 hc
  obtain ⟨h1, h2⟩ := h.sat _ (List.mem_cons_self ..)
  obtain ⟨h3, h4⟩ := h.sat _ (List.mem_cons_of_mem _ (List.mem_cons_self ..))
  refine ⟨TrL.app h1 h3, List.nodup_append.2 ⟨h2, h4, fun c hc d hd e => ?_⟩⟩
  subst e
  exact (List.pairwise_cons.1 h.sep).1 _ (List.mem_cons_self ..) c hc hd) (List.pairwise_singleton ..) (fun c hc => by simpa [trs, tr] using hc)
theorem trs_split {xs ys : List Nd} {l F : List Nat} (h : StP B Φ (trs (xs ++ ys) l F :: C) w) : ∃ l1 l2 F1 F2, l = l1 ++ l2 ∧ F = F1 ++ F2 ∧ l1.length = xs.length ∧ l2.length = ys.length ∧ StP B Φ (trs xs l1 F1 :: trs ys l2 F2 :: C) w := by
 obtain ⟨h1, hn⟩ := h.sat _ (List.mem_cons_self ..)
 obtain ⟨l1, l2, F1, F2, rfl, rfl, h2, h3⟩ := TrL.split h1
 obtain ⟨n1, n2, n3⟩ := List.nodup_append.1 hn
 refine ⟨l1, l2, F1, F2, rfl, rfl, TrL.len h2, TrL.len h3, StP.recut (C1 := [trs (xs ++ ys) _ _]) (C2 := [trs xs l1 F1, trs ys l2 F2]) h ?_ ?_ ?_⟩
 ·
  intro c hc
  simp only [List.mem_cons, List.not_mem_nil, or_false] at hc
  rcases hc with rfl | rfl
  ·
   exact ⟨h2, n1⟩
  ·
   exact ⟨h3, n2⟩
 ·
  refine List.pairwise_cons.2 ⟨fun d hd c hc => ?_, List.pairwise_singleton ..⟩
  obtain rfl := List.mem_singleton.1 hd
  exact fun hm => n3 c hc c hm rfl
 ·
  intro c hc
  simpa [trs] using hc
theorem trs_to1 {x : Nd} {l F : List Nat} (h : StP B Φ (trs [x] l F :: C) w) : ∃ b, l = [b] ∧ StP B Φ (tr x b F :: C) w := by
 obtain ⟨⟨b, l2, F1, F2, rfl, rfl, h3, h4, h5⟩, hn⟩ := h.sat _ (List.mem_cons_self ..)
 subst h4; subst h5
 refine ⟨b, rfl, StP.recut (C1 := [trs [x] [b] (F1 ++ [])]) (C2 := [tr x b (F1 ++ [])]) h (fun c hc => ?_) (List.pairwise_singleton ..) (fun c hc => by simpa [trs, tr] using hc)⟩
 obtain rfl := List.mem_singleton.1 hc
 exact ⟨by rw [List.append_nil]; exact h3, hn⟩
theorem tr_join0 {k n o q a : Int} {nm ow : Token} {b : Nat} (hwf : wfH k n o q a nm ow) (h : StP B Φ (.blk b 153 (nC k n o q a nm ow nS) :: C) w) :
  StP B Φ (tr ⟨k, n, o, q, a, nm, ow, []⟩ b [b] :: C) w :=
 tr_join (kv := .slice none 0 0) (ks := []) (l := []) (G := []) hwf ((addNil (T := 145) (sz := 1) (trs_nil h)).perm (List.perm_middle (l₁ := [_, _])).symm)
theorem tr_join1 {k n o q a : Int} {nm ow : Token} {x : Nd} {b b1 : Nat} {F1 : List Nat} {kv : Value} (hwf : wfH k n o q a nm ow) (h : StP B Φ (.blk b 153 (nC k n o q a nm ow kv) :: .row kv 145 1 1 [pB b1] :: tr x b1 F1 :: C) w) :
  ∃ F, StP B Φ (tr ⟨k, n, o, q, a, nm, ow, [x]⟩ b F :: C) w :=
 ⟨_, tr_join (ks := [x]) (l := [b1]) hwf ((trs_one (h.perm (List.perm_middle (l₁ := [_, _])).symm)).perm (List.perm_middle (l₁ := [_, _])))⟩
theorem tr_join2 {k n o q a : Int} {nm ow : Token} {x y : Nd} {b b1 b2 : Nat} {F1 F2 : List Nat} {kv : Value} (hwf : wfH k n o q a nm ow) (h : StP B Φ (.blk b 153 (nC k n o q a nm ow kv) :: .row kv 145 1 2 [pB b1, pB b2] :: tr x b1 F1 :: tr y b2 F2 :: C) w) :
  ∃ F, StP B Φ (tr ⟨k, n, o, q, a, nm, ow, [x, y]⟩ b F :: C) w := by
 have h1 := trs_one (h.perm (List.perm_middle (l₁ := [_, _])).symm)
 have h2 := trs_one (h1.perm (List.perm_middle (l₁ := [_, _, _])).symm)
 have h3 := trs_app (h2.perm (List.Perm.swap _ _ _))
 exact ⟨_, tr_join (ks := [x, y]) (l := [b1, b2]) hwf (h3.perm (List.perm_middle (l₁ := [_, _])))⟩
theorem tr_join3 {k n o q a : Int} {nm ow : Token} {x y z : Nd} {b b1 b2 b3 : Nat} {F1 F2 F3 : List Nat} {kv : Value} (hwf : wfH k n o q a nm ow) (h : StP B Φ (.blk b 153 (nC k n o q a nm ow kv) :: .row kv 145 1 3 [pB b1, pB b2, pB b3] :: tr x b1 F1 :: tr y b2 F2 :: tr z b3 F3 :: C) w) :
  ∃ F, StP B Φ (tr ⟨k, n, o, q, a, nm, ow, [x, y, z]⟩ b F :: C) w := by
 have h1 := trs_one (h.perm (List.perm_middle (l₁ := [_, _])).symm)
 have h2 := trs_one (h1.perm (List.perm_middle (l₁ := [_, _, _])).symm)
 have h3 := trs_app (h2.perm (List.Perm.swap _ _ _))
 have h4 := trs_one (h3.perm (List.perm_middle (l₁ := [_, _, _])).symm)
 have h5 := trs_app (h4.perm (List.Perm.swap _ _ _))
 exact ⟨_, tr_join (ks := [x, y, z]) (l := [b1, b2, b3]) hwf (h5.perm (List.perm_middle (l₁ := [_, _])))⟩
theorem tr_join2x {k n o q a : Int} {nm ow : Token} {x y : Nd} {b b1 b2 : Nat} {F1 F2 : List Nat} {kv : Value} (hwf : wfH k n o q a nm ow) (h : StP B Φ (.blk b 153 (nC k n o q a nm ow kv) :: .row kv 145 1 2 [pB b1, pB b2] :: tr x b1 F1 :: tr y b2 F2 :: C) w) :
  StP B Φ (tr ⟨k, n, o, q, a, nm, ow, [x, y]⟩ b (b :: (blks kv ++ (F1 ++ F2))) :: C) w := by
 have h1 := trs_one (h.perm (List.perm_middle (l₁ := [_, _])).symm)
 have h2 := trs_one (h1.perm (List.perm_middle (l₁ := [_, _, _])).symm)
 have h3 := trs_app (h2.perm (List.Perm.swap _ _ _))
 exact tr_join (ks := [x, y]) (l := [b1, b2]) hwf (h3.perm (List.perm_middle (l₁ := [_, _])))
theorem tr_fin0 {k n o q a : Int} {nm ow : Token} {b : Nat} {cp : Chunk} (is : List Nat) (hn : is.Nodup) (hi : is.map (C[·]?) = [some (.blk b 153 (nC k n o q a nm ow nS)), some cp]) (hwf : wfH k n o q a nm ow) (h : StP B Φ C w) :
  ∃ F, StP B Φ [cp, tr ⟨k, n, o, q, a, nm, ow, []⟩ b F] w :=
 ⟨_, (tr_join0 hwf (h.sel (C' := [.blk b 153 (nC k n o q a nm ow nS), cp]) is hn hi)).sel [1, 0] (by decide) rfl⟩
theorem tr_fin1 {k n o q a : Int} {nm ow : Token} {x : Nd} {b b1 : Nat} {F1 : List Nat} {kv : Value} {cp : Chunk} (is : List Nat) (hn : is.Nodup) (hi : is.map (C[·]?) = [some (.blk b 153 (nC k n o q a nm ow kv)), some (.row kv 145 1 1 [pB b1]), some (tr x b1 F1), some cp]) (hwf : wfH k n o q a nm ow) (h : StP B Φ C w) :
  ∃ F, StP B Φ [cp, tr ⟨k, n, o, q, a, nm, ow, [x]⟩ b F] w := by
 obtain ⟨F, hF⟩ := tr_join1 hwf (h.sel (C' := [.blk b 153 (nC k n o q a nm ow kv), .row kv 145 1 1 [pB b1], tr x b1 F1, cp]) is hn hi)
 exact ⟨F, hF.sel [1, 0] (by decide) rfl⟩
theorem tr_fin2 {k n o q a : Int} {nm ow : Token} {x y : Nd} {b b1 b2 : Nat} {F1 F2 : List Nat} {kv : Value} {cp : Chunk} (is : List Nat) (hn : is.Nodup) (hi : is.map (C[·]?) = [some (.blk b 153 (nC k n o q a nm ow kv)), some (.row kv 145 1 2 [pB b1, pB b2]), some (tr x b1 F1), some (tr y b2 F2), some cp]) (hwf : wfH k n o q a nm ow) (h : StP B Φ C w) :
  ∃ F, StP B Φ [cp, tr ⟨k, n, o, q, a, nm, ow, [x, y]⟩ b F] w := by
 obtain ⟨F, hF⟩ := tr_join2 hwf (h.sel (C' := [.blk b 153 (nC k n o q a nm ow kv), .row kv 145 1 2 [pB b1, pB b2], tr x b1 F1, tr y b2 F2, cp]) is hn hi)
 exact ⟨F, hF.sel [1, 0] (by decide) rfl⟩
theorem tr_fin3 {k n o q a : Int} {nm ow : Token} {x y z : Nd} {b b1 b2 b3 : Nat} {F1 F2 F3 : List Nat} {kv : Value} {cp : Chunk} (is : List Nat) (hn : is.Nodup) (hi : is.map (C[·]?) = [some (.blk b 153 (nC k n o q a nm ow kv)), some (.row kv 145 1 3 [pB b1, pB b2, pB b3]), some (tr x b1 F1), some (tr y b2 F2), some (tr z b3 F3), some cp]) (hwf : wfH k n o q a nm ow) (h : StP B Φ C w) :
  ∃ F, StP B Φ [cp, tr ⟨k, n, o, q, a, nm, ow, [x, y, z]⟩ b F] w := by
 obtain ⟨F, hF⟩ := tr_join3 hwf (h.sel (C' := [.blk b 153 (nC k n o q a nm ow kv), .row kv 145 1 3 [pB b1, pB b2, pB b3], tr x b1 F1, tr y b2 F2, tr z b3 F3, cp]) is hn hi)
 exact ⟨F, hF.sel [1, 0] (by decide) rfl⟩
theorem tr_fin2L {k n o q a k1 n1 o1 q1 a1 k2 n2 o2 q2 a2 : Int} {nm ow nm1 ow1 nm2 ow2 : Token} {b b1 b2 : Nat} {kv : Value} (is : List Nat) (hn : is.Nodup)
  (hi : is.map (C[·]?) = [some (.blk b 153 (nC k n o q a nm ow kv)), some (.row kv 145 1 2 [pB b1, pB b2]), some (.blk b1 153 (nC k1 n1 o1 q1 a1 nm1 ow1 nS)), some (.blk b2 153 (nC k2 n2 o2 q2 a2 nm2 ow2 nS))]) (hwf : wfH k n o q a nm ow) (hw1 : wfH k1 n1 o1 q1 a1 nm1 ow1) (hw2 : wfH k2 n2 o2 q2 a2 nm2 ow2) (h : StP B Φ C w) :
  ∃ F, StP B Φ [tr ⟨k, n, o, q, a, nm, ow, [⟨k1, n1, o1, q1, a1, nm1, ow1, []⟩, ⟨k2, n2, o2, q2, a2, nm2, ow2, []⟩]⟩ b F] w := by
 have h0 := h.sel (C' := [.blk b 153 (nC k n o q a nm ow kv), .row kv 145 1 2 [pB b1, pB b2], .blk b1 153 (nC k1 n1 o1 q1 a1 nm1 ow1 nS), .blk b2 153 (nC k2 n2 o2 q2 a2 nm2 ow2 nS)]) is hn hi
 have h1 := tr_join0 hw1 (h0.sel (C' := [.blk b1 153 (nC k1 n1 o1 q1 a1 nm1 ow1 nS), .blk b 153 (nC k n o q a nm ow kv), .row kv 145 1 2 [pB b1, pB b2], .blk b2 153 (nC k2 n2 o2 q2 a2 nm2 ow2 nS)]) [2, 0, 1, 3] (by decide) rfl)
 have h2 := tr_join0 hw2 (h1.sel (C' := [.blk b2 153 (nC k2 n2 o2 q2 a2 nm2 ow2 nS), tr ⟨k1, n1, o1, q1, a1, nm1, ow1, []⟩ b1 [b1], .blk b 153 (nC k n o q a nm ow kv), .row kv 145 1 2 [pB b1, pB b2]]) [3, 0, 1, 2] (by decide) rfl)
 exact tr_join2 hwf (h2.sel (C' := [.blk b 153 (nC k n o q a nm ow kv), .row kv 145 1 2 [pB b1, pB b2], tr ⟨k1, n1, o1, q1, a1, nm1, ow1, []⟩ b1 [b1], tr ⟨k2, n2, o2, q2, a2, nm2, ow2, []⟩ b2 [b2]]) [2, 3, 1, 0] (by decide) rfl)
theorem tr_at {x : Nd} {b : Nat} {F : List Nat} (i : Nat) (hi : C[i]? = some (tr x b F)) : Cell (St B Φ C) ⟨b, 4, none⟩ (iV x.At) := fun w hw => by
 obtain ⟨k, n, o, q, a, nm, ow, ks⟩ := x
 obtain ⟨⟨kv, l, G, h1, _⟩, _⟩ := hw.sat _ (List.mem_of_getElem? hi)
 exact (cell_of_hp h1).trans rfl
theorem tr_wf {x : Nd} {b : Nat} {F : List Nat} {w : World} (i : Nat) (hi : C[i]? = some (tr x b F)) (hw : StP B Φ C w) : wfH x.Kind x.n x.of_ x.of2 x.At x.name x.owner := by
 obtain ⟨k, n, o, q, a, nm, ow, ks⟩ := x
 obtain ⟨⟨kv, l, G, _, _, _, _, h5⟩, _⟩ := hw.sat _ (List.mem_of_getElem? hi)
 exact h5
theorem RW.cut {P : Program} {N : Nat} {D : List Deferred} {ops : Array Oper} {Q : Exit → Act → World → Prop} {l0 : List Oper} {f : Nat → Value} {s : List (Nat × Value)} {x : Nd} {b : Nat} {F : List Nat}
  (h : ∀ kv l G, F = b :: (blks kv ++ G) → wfH x.Kind x.n x.of_ x.of2 x.At x.name x.owner → l.length = x.kids.length → RW P N D ops Q l0 f s (St B Φ (.blk b 153 (nC x.Kind x.n x.of_ x.of2 x.At x.name x.owner kv) :: .row kv 145 1 x.kids.length (l.map pB) :: trs x.kids l G :: C))) : RW P N D ops Q l0 f s (St B Φ (tr x b F :: C)) := fun a w ha hw => by
 obtain ⟨k, n, o, q, a0, nm, ow, ks⟩ := x
 obtain ⟨kv, l, G, h1, h2, h3, h4⟩ := tr_cut hw
 exact h kv l G h1 h2 h3 a w ha h4
theorem AW.cut {P : Program} {N : Nat} {D : List Deferred} {Q : Exit → Act → World → Prop} {c0 : Code} {f : Nat → Value} {s : List (Nat × Value)} {x : Nd} {b : Nat} {F : List Nat}
  (h : ∀ kv l G, F = b :: (blks kv ++ G) → wfH x.Kind x.n x.of_ x.of2 x.At x.name x.owner → l.length = x.kids.length → AW P N D c0 Q f s (St B Φ (.blk b 153 (nC x.Kind x.n x.of_ x.of2 x.At x.name x.owner kv) :: .row kv 145 1 x.kids.length (l.map pB) :: trs x.kids l G :: C))) : AW P N D c0 Q f s (St B Φ (tr x b F :: C)) := fun a w ha hw => by
 obtain ⟨k, n, o, q, a0, nm, ow, ks⟩ := x
 obtain ⟨kv, l, G, h1, h2, h3, h4⟩ := tr_cut hw
 exact h kv l G h1 h2 h3 a w ha h4
end Ru
namespace Go.Proofs.YtnfmjfheciihjaaGreatDoor
open Go Go.K Go.RowKit
attribute [local irreducible] AW RW DW Post Qt
theorem letter_c (w : World) (Φ : Hp) (hΦ : Hp.le Φ (hp w)) {c : UInt8} :
  Calls pg 113 #[.int .u8 (c.toNat : Int)] w fun e w' => e = .returned (.bool (Lx.isL c)) ∧ Bel w.heap.size w w' := by
 refine calls_of_AW (args := [.int .u8 (c.toNat : Int)]) Tryz.func113 rfl (lBT rfl) (St ⟨w, Φ, []⟩ Φ []) (StP.init w Φ hΦ []) ?_
 show AW pg 17 [] _ _ _ [(0, .int .u8 (c.toNat : Int))] _
 refine g8 ?_
 refine RW.q (v := .bool (decide (((97 : Nat) : Int) ≤ (c.toNat : Int)))) rfl (q_geq (a := (c.toNat : Int)) (b := ((97 : Nat) : Int)) rfl rfl) ?_
 refine g2 ?_
 refine RW.g (b := (decide (((97 : Nat) : Int) ≤ (c.toNat : Int)))) (v := .bool (decide ((c.toNat : Int) ≤ ((122 : Nat) : Int)))) rfl rfl rfl (fun h => q_leq (a := (c.toNat : Int)) (b := ((122 : Nat) : Int)) (gv_pos h) rfl) (RW.q (v := .bool ((decide (((97 : Nat) : Int) ≤ (c.toNat : Int))) && (decide ((c.toNat : Int) ≤ ((122 : Nat) : Int))))) rfl (qpA rfl rfl rfl) ?_)
 refine g2 ?_
 refine RW.g (b := ((decide (((97 : Nat) : Int) ≤ (c.toNat : Int))) && (decide ((c.toNat : Int) ≤ ((122 : Nat) : Int))))) (v := .bool (decide (((65 : Nat) : Int) ≤ (c.toNat : Int)))) rfl rfl rfl (fun h => q_geq (a := (c.toNat : Int)) (b := ((65 : Nat) : Int)) (gv_pos h) rfl) ?_
 refine g1 ?_
 refine RW.g2 (b1 := ((decide (((97 : Nat) : Int) ≤ (c.toNat : Int))) && (decide ((c.toNat : Int) ≤ ((122 : Nat) : Int))))) (b2 := (decide (((65 : Nat) : Int) ≤ (c.toNat : Int)))) (v := .int .u8 (c.toNat : Int)) rfl rfl rfl (fun hg1 hg2 => q_move rfl) (RW.g2 (b1 := ((decide (((97 : Nat) : Int) ≤ (c.toNat : Int))) && (decide ((c.toNat : Int) ≤ ((122 : Nat) : Int))))) (b2 := (decide (((65 : Nat) : Int) ≤ (c.toNat : Int)))) (v := .bool (decide ((c.toNat : Int) ≤ ((90 : Nat) : Int)))) rfl rfl rfl (fun hg1 hg2 => q_leq (a := (c.toNat : Int)) (b := ((90 : Nat) : Int)) ((gv_pos hg1).trans (gv_pos hg2)) rfl) (RW.g (b := ((decide (((97 : Nat) : Int) ≤ (c.toNat : Int))) && (decide ((c.toNat : Int) ≤ ((122 : Nat) : Int))))) (v := .bool ((decide (((65 : Nat) : Int) ≤ (c.toNat : Int))) && (decide ((c.toNat : Int) ≤ ((90 : Nat) : Int))))) rfl rfl rfl (fun h => q_pick (gv_pos h) (fun hp => (gv_pos h).trans ((gv_pos hp).trans (pkAndT hp))) (fun hp => pkAndF hp)) (RW.q (v := .bool (((decide (((97 : Nat) : Int) ≤ (c.toNat : Int))) && (decide ((c.toNat : Int) ≤ ((122 : Nat) : Int)))) || ((decide (((65 : Nat) : Int) ≤ (c.toNat : Int))) && (decide ((c.toNat : Int) ≤ ((90 : Nat) : Int)))))) rfl (qpO rfl rfl rfl) ?_)))
 refine g4 ?_
 exact fin_val (v' := .bool (((decide (((97 : Nat) : Int) ≤ (c.toNat : Int))) && (decide ((c.toNat : Int) ≤ ((122 : Nat) : Int)))) || ((decide (((65 : Nat) : Int) ≤ (c.toNat : Int))) && (decide ((c.toNat : Int) ≤ ((90 : Nat) : Int)))))) rfl rfl rfl (congrArg Value.bool (by unfold Lx.isL; rw [Bool.eq_iff_iff]; simp only [Bool.and_eq_true, Bool.or_eq_true, decide_eq_true_eq]; omega))
theorem digit_c (w : World) (Φ : Hp) (hΦ : Hp.le Φ (hp w)) {c : UInt8} :
  Calls pg 115 #[.int .u8 (c.toNat : Int)] w fun e w' => e = .returned (.bool (Lx.isD c)) ∧ Bel w.heap.size w w' := by
 refine calls_of_AW (args := [.int .u8 (c.toNat : Int)]) Tryz.func115 rfl (lBT rfl) (St ⟨w, Φ, []⟩ Φ []) (StP.init w Φ hΦ []) ?_
 show AW pg 9 [] _ _ _ [(0, .int .u8 (c.toNat : Int))] _
 refine g8 ?_
 refine RW.q (v := .bool (decide (((48 : Nat) : Int) ≤ (c.toNat : Int)))) rfl (q_geq (a := (c.toNat : Int)) (b := ((48 : Nat) : Int)) rfl rfl) ?_
 refine g2 ?_
 refine RW.g (b := (decide (((48 : Nat) : Int) ≤ (c.toNat : Int)))) (v := .bool (decide ((c.toNat : Int) ≤ ((57 : Nat) : Int)))) rfl rfl rfl (fun h => q_leq (a := (c.toNat : Int)) (b := ((57 : Nat) : Int)) (gv_pos h) rfl) (RW.q (v := .bool ((decide (((48 : Nat) : Int) ≤ (c.toNat : Int))) && (decide ((c.toNat : Int) ≤ ((57 : Nat) : Int))))) rfl (qpA rfl rfl rfl) ?_)
 refine g4 ?_
 exact fin_val (v' := .bool ((decide (((48 : Nat) : Int) ≤ (c.toNat : Int))) && (decide ((c.toNat : Int) ≤ ((57 : Nat) : Int))))) rfl rfl rfl (congrArg Value.bool (by unfold Lx.isD; rw [Bool.eq_iff_iff]; simp only [Bool.and_eq_true, decide_eq_true_eq]; omega))
theorem inName_c (w : World) (Φ : Hp) (hΦ : Hp.le Φ (hp w)) {c : UInt8} :
  Calls pg 114 #[.int .u8 (c.toNat : Int)] w fun e w' => e = .returned (.bool (Lx.inN c)) ∧ Bel w.heap.size w w' := by
 refine calls_of_AW (args := [.int .u8 (c.toNat : Int)]) Tryz.func114 rfl (lBT rfl) (St ⟨w, Φ, []⟩ Φ []) (StP.init w Φ hΦ []) ?_
 show AW pg 13 [] _ _ _ [(0, .int .u8 (c.toNat : Int))] _
 refine g8 ?_
 refine RW.q (v := .bool (Lx.isL c)) rfl (q_call (args := #[.int .u8 (c.toNat : Int)]) oK rfl rfl (fun w1 hw1 => letter_c w1 (Go.K.hp w1) (Hp.le_refl _))) ?_
 refine g2 ?_
 refine RW.g (b := (Lx.isL c)) (v := .bool (Lx.isD c)) rfl rfl rfl (fun h => q_call (args := #[.int .u8 (c.toNat : Int)]) oK rfl (args1 (gv_pos h)) (fun w1 hw1 => digit_c w1 (Go.K.hp w1) (Hp.le_refl _))) (RW.q (v := .bool ((Lx.isL c) || (Lx.isD c))) rfl (qpO rfl rfl rfl) ?_)
 refine g2 ?_
 refine RW.g (b := ((Lx.isL c) || (Lx.isD c))) (v := .bool (decide ((c.toNat : Int) = ((95 : Nat) : Int)))) rfl rfl rfl (fun h => q_eql (a := (c.toNat : Int)) (b := ((95 : Nat) : Int)) (gv_pos h) rfl) (RW.q (v := .bool (((Lx.isL c) || (Lx.isD c)) || (decide ((c.toNat : Int) = ((95 : Nat) : Int))))) rfl (qpO rfl rfl rfl) ?_)
 refine g4 ?_
 exact fin_val (v' := .bool (((Lx.isL c) || (Lx.isD c)) || (decide ((c.toNat : Int) = ((95 : Nat) : Int))))) rfl rfl rfl (congrArg Value.bool (by unfold Lx.inN; congr 1; exact decide_eq_decide.2 (by omega)))
theorem inString_c (w : World) (Φ : Hp) (hΦ : Hp.le Φ (hp w)) {c : UInt8} :
  Calls pg 116 #[.int .u8 (c.toNat : Int)] w fun e w' => e = .returned (.bool (Lx.inS c)) ∧ Bel w.heap.size w w' := by
 refine calls_of_AW (args := [.int .u8 (c.toNat : Int)]) Tryz.func116 rfl (lBT rfl) (St ⟨w, Φ, []⟩ Φ []) (StP.init w Φ hΦ []) ?_
 show AW pg 17 [] _ _ _ [(0, .int .u8 (c.toNat : Int))] _
 refine g8 ?_
 refine RW.q (v := .bool (decide (((32 : Nat) : Int) ≤ (c.toNat : Int)))) rfl (q_geq (a := (c.toNat : Int)) (b := ((32 : Nat) : Int)) rfl rfl) ?_
 refine g2 ?_
 refine RW.g (b := (decide (((32 : Nat) : Int) ≤ (c.toNat : Int)))) (v := .bool (decide ((c.toNat : Int) ≤ ((126 : Nat) : Int)))) rfl rfl rfl (fun h => q_leq (a := (c.toNat : Int)) (b := ((126 : Nat) : Int)) (gv_pos h) rfl) (RW.q (v := .bool ((decide (((32 : Nat) : Int) ≤ (c.toNat : Int))) && (decide ((c.toNat : Int) ≤ ((126 : Nat) : Int))))) rfl (qpA rfl rfl rfl) ?_)
 refine g2 ?_
 refine RW.g (b := ((decide (((32 : Nat) : Int) ≤ (c.toNat : Int))) && (decide ((c.toNat : Int) ≤ ((126 : Nat) : Int))))) (v := .bool (!decide ((c.toNat : Int) = ((34 : Nat) : Int)))) rfl rfl rfl (fun h => q_neq (a := (c.toNat : Int)) (b := ((34 : Nat) : Int)) (gv_pos h) rfl) (RW.q (v := .bool (((decide (((32 : Nat) : Int) ≤ (c.toNat : Int))) && (decide ((c.toNat : Int) ≤ ((126 : Nat) : Int)))) && (!decide ((c.toNat : Int) = ((34 : Nat) : Int))))) rfl (qpA rfl rfl rfl) ?_)
 refine g2 ?_
 refine RW.g (b := (((decide (((32 : Nat) : Int) ≤ (c.toNat : Int))) && (decide ((c.toNat : Int) ≤ ((126 : Nat) : Int)))) && (!decide ((c.toNat : Int) = ((34 : Nat) : Int))))) (v := .bool (!decide ((c.toNat : Int) = ((92 : Nat) : Int)))) rfl rfl rfl (fun h => q_neq (a := (c.toNat : Int)) (b := ((92 : Nat) : Int)) (gv_pos h) rfl) (RW.q (v := .bool ((((decide (((32 : Nat) : Int) ≤ (c.toNat : Int))) && (decide ((c.toNat : Int) ≤ ((126 : Nat) : Int)))) && (!decide ((c.toNat : Int) = ((34 : Nat) : Int)))) && (!decide ((c.toNat : Int) = ((92 : Nat) : Int))))) rfl (qpA rfl rfl rfl) ?_)
 refine g4 ?_
 exact fin_val (v' := .bool ((((decide (((32 : Nat) : Int) ≤ (c.toNat : Int))) && (decide ((c.toNat : Int) ≤ ((126 : Nat) : Int)))) && (!decide ((c.toNat : Int) = ((34 : Nat) : Int)))) && (!decide ((c.toNat : Int) = ((92 : Nat) : Int))))) rfl rfl rfl (congrArg Value.bool (by unfold Lx.inS; rw [Bool.eq_iff_iff]; simp only [Bool.and_eq_true, Bool.not_eq_true', decide_eq_true_eq, decide_eq_false_iff_not]; omega))
theorem skip1_c (w : World) (Φ : Hp) (hΦ : Hp.le Φ (hp w)) {c : UInt8} :
  Calls pg 112 #[.int .u8 (c.toNat : Int)] w fun e w' => e = .returned (.bool (Lx.nNl c)) ∧ Bel w.heap.size w w' := by
 refine calls_of_AW (args := [.int .u8 (c.toNat : Int)]) Tryz.func112 rfl (lBT rfl) (St ⟨w, Φ, []⟩ Φ []) (StP.init w Φ hΦ []) ?_
 show AW pg 5 [] _ _ _ [(0, .int .u8 (c.toNat : Int))] _
 refine g8 ?_
 refine RW.q (v := .bool (!decide ((c.toNat : Int) = ((10 : Nat) : Int)))) rfl (q_neq (a := (c.toNat : Int)) (b := ((10 : Nat) : Int)) rfl rfl) ?_
 refine g4 ?_
 exact fin_val (v' := .bool (!decide ((c.toNat : Int) = ((10 : Nat) : Int)))) rfl rfl rfl (congrArg Value.bool (by unfold Lx.nNl; rw [Bool.eq_iff_iff]; simp only [Bool.not_eq_true', decide_eq_true_eq, decide_eq_false_iff_not]; omega))
theorem run_c (w : World) (Φ : Hp) (hΦ : Hp.le Φ (hp w)) {l : List UInt8} {a : Nat} (hl : l.length ≤ 1099511627776) (ha : a ≤ l.length) {k : Nat} (hk : Go.K.Own pg k) {p : UInt8 → Bool} (hp : ∀ (w : World) (c : UInt8), Calls pg k #[.int .u8 (c.toNat : Int)] w fun e w' => e = .returned (.bool (p c)) ∧ Bel w.heap.size w w') :
  Calls pg 111 #[.string (bs l), iV (a : Int), .func (.func k) #[] #[]] w fun e w' => e = .returned (iV ((a + Lx.run p (l.drop a) : Nat) : Int)) ∧ Bel w.heap.size w w' := by
 refine calls_of_AW (args := [.string (bs l), iV (a : Int), .func (.func k) #[] #[]]) Tryz.func111 rfl (lBT rfl) (St ⟨w, Φ, []⟩ Φ []) (StP.init w Φ hΦ []) ?_
 show AW pg 21 [] _ _ _ [(0, .string (bs l)), (1, iV (a : Int)), (2, .func (.func k) #[] #[])] _
 refine g7 ?_
 refine AW.loop (fun s J m => ∃ (i : Nat), s = [(0, .string (bs l)), (2, .func (.func k) #[] #[]), (1, iV (i : Int))] ∧ J = St ⟨w, Φ, []⟩ Φ [] ∧ m = l.length - i ∧ (a ≤ i) ∧ (i ≤ l.length) ∧ (i + Lx.run p (l.drop i) = a + Lx.run p (l.drop a))) (s0 := _) (J1 := _) (m0 := _) ⟨a, rfl, rfl, rfl, (Nat.le_refl _), ha, rfl⟩ ⟨rfl, rfl, rfl, trivial⟩ (fun _ h => h) ?_
 rintro _ _ _ _ ⟨i, rfl, rfl, rfl, hai, hil, hE⟩
 refine g5 ?_
 refine RW.q (v := iV (l.length : Int)) rfl (q_lenS (l := l) rfl uT9) ?_
 refine g5 ?_
 refine RW.g (b := (decide ((i : Int) < (l.length : Int)))) (v := .int .u8 (((l.getD i 0).toNat : Nat) : Int)) rfl rfl rfl (fun h => q_indexS (l := l) (i := (i : Int)) (gv_pos h) (gv_pos h) uT9 (by (try simp [-List.getD_eq_getElem?_getD] at h); omega) (by (try simp [-List.getD_eq_getElem?_getD] at h); omega)) ?_
 refine RW.g (b := (decide ((i : Int) < (l.length : Int)))) (v := .bool (p (l.getD i 0))) rfl rfl rfl (fun h => q_call (args := #[.int .u8 (((l.getD i 0).toNat : Nat) : Int)]) (first := #[]) (capt := #[]) hk (gv_pos h) (args1 (gv_pos h)) (fun w1 _ => hp w1 (l.getD i 0))) ?_
 obtain ⟨qb1, hqb1⟩ : ∃ qz : Bool, ((decide ((i : Int) < (l.length : Int))) && (p (l.getD i 0))) = qz := ⟨_, rfl⟩
 refine RW.q (v := .bool qb1) rfl (q_as (v := .bool ((decide ((i : Int) < (l.length : Int))) && (p (l.getD i 0)))) (qpA rfl rfl rfl) (congrArg Value.bool hqb1)) ?_
 subst hqb1
 refine g2 ?_
 refine AW.cond rfl (fun hc1 => ?_) fun hc1 => ?_
 ·
  simp [-List.getD_eq_getElem?_getD] at hc1
  have hpi : p (l.getD i 0) = true := by
   first | exact hc1.2 | (simp only [Bool.and_eq_true] at hc1; exact hc1.2)
  have hil2 : i < l.length := by first | omega | (have := hc1.1; simp at this; omega)
  refine g9 ?_
  exact Post.back (s' := _) (J' := _) (m' := _) (by omega) ⟨i + 1, rfl, rfl, rfl, (by omega), (by omega), (by rw [← hE, Lx.run_yes (show i < l.length by omega) hpi]; omega)⟩ ⟨rfl, rfl, rfl, trivial⟩ (fun _ h => h)
 ·
  simp [-List.getD_eq_getElem?_getD] at hc1
  refine g12 ?_
  have hrz : Lx.run p (l.drop i) = 0 := by
   by_cases h9 : i < l.length
   ·
    have hpi : p (l.getD i 0) = false := by
     cases h8 : p (l.getD i 0) with
     | false => rfl
     | true => exact absurd h8 (by simpa [h9] using hc1)
    exact Lx.run_no h9 hpi
   ·
    exact Lx.run_end (by omega)
  exact fin_val (v' := iV (i : Int)) rfl rfl rfl (by rw [← hE, hrz]; simp)
theorem skip_c (w : World) (Φ : Hp) (hΦ : Hp.le Φ (hp w)) {l : List UInt8} {a : Nat} (hl : l.length ≤ 1099511627776) (ha : a ≤ l.length) :
  Calls pg 93 #[.string (bs l), iV (a : Int)] w fun e w' => e = .returned (iV ((a + Lx.skp false (l.drop a) : Nat) : Int)) ∧ Bel w.heap.size w w' := by
 refine calls_of_AW (args := [.string (bs l), iV (a : Int)]) Tryz.func93 rfl (lBT rfl) (St ⟨w, Φ, []⟩ Φ []) (StP.init w Φ hΦ []) ?_
 show AW pg 26 [] _ _ _ [(0, .string (bs l)), (1, iV (a : Int))] _
 refine g7 ?_
 refine AW.loop (fun s J m => ∃ (i : Nat), s = [(0, .string (bs l)), (1, iV (i : Int))] ∧ J = St ⟨w, Φ, []⟩ Φ [] ∧ m = l.length - i ∧ (a ≤ i) ∧ (i ≤ l.length) ∧ (i + Lx.skp false (l.drop i) = a + Lx.skp false (l.drop a))) (s0 := _) (J1 := _) (m0 := _) ⟨a, rfl, rfl, rfl, (Nat.le_refl _), ha, rfl⟩ ⟨rfl, rfl, trivial⟩ (fun _ h => h) ?_
 rintro _ _ _ _ ⟨i, rfl, rfl, rfl, hai, hil, hE⟩
 refine g5 ?_
 refine RW.q (v := iV (l.length : Int)) rfl (q_lenS (l := l) rfl uT9) ?_
 refine g3 ?_
 refine AW.cond rfl (fun hc1 => ?_) fun hc1 => ?_
 ·
  simp [-List.getD_eq_getElem?_getD] at hc1
  have hil2 : i < l.length := by omega
  refine g7 ?_
  refine RW.q (v := .int .u8 (((l.getD i 0).toNat : Nat) : Int)) rfl (q_indexS (l := l) (i := (i : Int)) rfl rfl uT9 (by omega) (by omega)) ?_
  refine g6 ?_
  refine RW.q (v := .bool (decide ((((l.getD i 0).toNat : Nat) : Int) = ((9 : Nat) : Int)))) rfl (q_eql (a := (((l.getD i 0).toNat : Nat) : Int)) (b := ((9 : Nat) : Int)) rfl rfl) ?_
  refine g3 ?_
  refine AW.orCh (t := 13) (x := 11) (a := (((l.getD i 0).toNat : Nat) : Int)) rfl rfl _ rfl rfl rfl rfl fun _ => ?_
  refine g1 ?_
  refine AW.cond rfl (fun hc2 => ?_) fun hc2 => ?_
  ·
   simp [-List.getD_eq_getElem?_getD] at hc2
   refine g7 ?_
   have hws : Lx.ws (l.getD i 0) = true := by unfold Lx.ws; exact decide_eq_true (by omega)
   exact Post.back (s' := _) (J' := _) (m' := _) (by omega) ⟨i + 1, rfl, rfl, rfl, (by omega), (by omega), (by rw [← hE, Lx.skp_ws hil2 hws]; omega)⟩ ⟨rfl, rfl, trivial⟩ (fun _ h => h)
  ·
   simp [-List.getD_eq_getElem?_getD] at hc2
   refine g2 ?_
   refine RW.q (v := .bool (decide ((((l.getD i 0).toNat : Nat) : Int) = ((35 : Nat) : Int)))) rfl (q_eql (a := (((l.getD i 0).toNat : Nat) : Int)) (b := ((35 : Nat) : Int)) rfl rfl) ?_
   refine g3 ?_
   refine AW.cond rfl (fun hc3 => ?_) fun hc3 => ?_
   ·
    simp [-List.getD_eq_getElem?_getD] at hc3
    refine g3 ?_
    refine RW.q (v := iV ((i + Lx.run Lx.nNl (l.drop i) : Nat) : Int)) rfl (q_call (args := #[.string (bs l), iV (i : Int), .func (.func 112) #[] #[]]) oK rfl rfl (fun w1 hw1 => run_c w1 (Go.K.hp w1) (Hp.le_refl _) (by omega) (by omega) oK (fun w2 c => skip1_c w2 (Go.K.hp w2) (Hp.le_refl _)))) ?_
    refine g4 ?_
    have hr1 := Lx.run_yes (p := Lx.nNl) hil2 (by unfold Lx.nNl; exact decide_eq_true (by omega))
    have hr2 := Lx.run_drop_le Lx.nNl l i (by omega)
    exact Post.back (s' := _) (J' := _) (m' := _) (by omega) ⟨i + Lx.run Lx.nNl (l.drop i), rfl, rfl, rfl, (by omega), (by omega), (by rw [← hE, Lx.skp_com hil2 (by omega)]; omega)⟩ ⟨rfl, rfl, trivial⟩ (fun _ h => h)
   ·
    simp [-List.getD_eq_getElem?_getD] at hc3
    refine g12 ?_
    exact fin_val (v' := iV (i : Int)) rfl rfl rfl (by rw [← hE, Lx.skp_no hil2 (by unfold Lx.ws; exact decide_eq_false (by omega)) (by omega)]; simp)
 ·
  simp [-List.getD_eq_getElem?_getD] at hc1
  refine g12 ?_
  exact fin_val (v' := iV (i : Int)) rfl rfl rfl (by rw [← hE, Lx.skp_end (by omega)]; simp)
end Go.Proofs.YtnfmjfheciihjaaGreatDoor
