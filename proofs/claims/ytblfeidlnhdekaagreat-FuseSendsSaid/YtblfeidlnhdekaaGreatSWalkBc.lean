/- Lemmas. Conditions: those of each theorem. -/
import Derived.Test.YtblfeidlnhdekaaGreatSWalkBb
set_option maxRecDepth 8000
set_option maxHeartbeats 16000000
namespace Fu
def kindOf (b : Bt.Basin) (nV nK : Nat) (r : Bt.Reading) : Nat :=
  if ¬ inG b.Gauges r.Gauge ∨ (gaugeAt b.Gauges r.Gauge).Target < 0 then 0
  else if (gaugeAt b.Gauges r.Gauge).Kind = 0 ∧ (gaugeAt b.Gauges r.Gauge).Target < (nV : Int) then 1
  else if (gaugeAt b.Gauges r.Gauge).Kind = 2 ∧ (gaugeAt b.Gauges r.Gauge).Target < (nK : Int) then 2 else 0
def tgt (b : Bt.Basin) (r : Bt.Reading) : Nat := (gaugeAt b.Gauges r.Gauge).Target.toNat
structure FS where
  V : List Bt.Span
  K : List Bt.Known
  N : List Int
def okV (b : Bt.Basin) (V : List Bt.Span) (r : Bt.Reading) : Bool := (volR b r).isSome && (meet (V.getD (tgt b r) default).Lo (V.getD (tgt b r) default).Hi (loOf (volR b r)) (hiOf (volR b r))).isSome
def okK (b : Bt.Basin) (K : List Bt.Known) (r : Bt.Reading) : Bool := (meet (K.getD (tgt b r) default).Pos.Lo (K.getD (tgt b r) default).Pos.Hi r.Value.Lo r.Value.Hi).isSome
def stepF (b : Bt.Basin) (s : FS) (r : Bt.Reading) : FS :=
  if kindOf b s.V.length s.K.length r = 1 then
    (if okV b s.V r then ⟨narV s.V (tgt b r) (loOf (volR b r)) (hiOf (volR b r)), s.K, s.N⟩ else ⟨s.V, s.K, s.N ++ [r.Gauge]⟩)
  else if kindOf b s.V.length s.K.length r = 2 then
    (if okK b s.K r then ⟨s.V, narL s.K (tgt b r) r.Value.Lo r.Value.Hi, s.N⟩ else ⟨s.V, s.K, s.N ++ [r.Gauge]⟩)
  else s
theorem kind0 {b : Bt.Basin} {nV nK : Nat} {r : Bt.Reading} (h : ¬ inG b.Gauges r.Gauge ∨ (gaugeAt b.Gauges r.Gauge).Target < 0) : kindOf b nV nK r = 0 := by unfold kindOf; rw [if_pos h]
theorem kind1 {b : Bt.Basin} {nV nK : Nat} {r : Bt.Reading} (h : ¬ (¬ inG b.Gauges r.Gauge ∨ (gaugeAt b.Gauges r.Gauge).Target < 0)) (h1 : (gaugeAt b.Gauges r.Gauge).Kind = 0 ∧ (gaugeAt b.Gauges r.Gauge).Target < (nV : Int)) : kindOf b nV nK r = 1 := by unfold kindOf; rw [if_neg h, if_pos h1]
theorem kind2 {b : Bt.Basin} {nV nK : Nat} {r : Bt.Reading} (h : ¬ (¬ inG b.Gauges r.Gauge ∨ (gaugeAt b.Gauges r.Gauge).Target < 0)) (h1 : ¬ ((gaugeAt b.Gauges r.Gauge).Kind = 0 ∧ (gaugeAt b.Gauges r.Gauge).Target < (nV : Int))) (h2 : (gaugeAt b.Gauges r.Gauge).Kind = 2 ∧ (gaugeAt b.Gauges r.Gauge).Target < (nK : Int)) : kindOf b nV nK r = 2 := by unfold kindOf; rw [if_neg h, if_neg h1, if_pos h2]
theorem kind3 {b : Bt.Basin} {nV nK : Nat} {r : Bt.Reading} (h1 : ¬ ((gaugeAt b.Gauges r.Gauge).Kind = 0 ∧ (gaugeAt b.Gauges r.Gauge).Target < (nV : Int))) (h2 : ¬ ((gaugeAt b.Gauges r.Gauge).Kind = 2 ∧ (gaugeAt b.Gauges r.Gauge).Target < (nK : Int))) : kindOf b nV nK r = 0 := by
  unfold kindOf
  by_cases h : ¬ inG b.Gauges r.Gauge ∨ (gaugeAt b.Gauges r.Gauge).Target < 0
  · rw [if_pos h]
  · rw [if_neg h, if_neg h1, if_neg h2]
theorem step0 {b : Bt.Basin} {s : FS} {r : Bt.Reading} (h : kindOf b s.V.length s.K.length r = 0) : stepF b s r = s := by unfold stepF; rw [h, if_neg (by decide), if_neg (by decide)]
theorem step1 {b : Bt.Basin} {s : FS} {r : Bt.Reading} (h : kindOf b s.V.length s.K.length r = 1) (ho : okV b s.V r = true) : stepF b s r = ⟨narV s.V (tgt b r) (loOf (volR b r)) (hiOf (volR b r)), s.K, s.N⟩ := by unfold stepF; rw [if_pos h, if_pos ho]
theorem step1n {b : Bt.Basin} {s : FS} {r : Bt.Reading} (h : kindOf b s.V.length s.K.length r = 1) (ho : okV b s.V r = false) : stepF b s r = ⟨s.V, s.K, s.N ++ [r.Gauge]⟩ := by unfold stepF; rw [if_pos h, if_neg (by rw [ho]; decide)]
theorem step2 {b : Bt.Basin} {s : FS} {r : Bt.Reading} (h : kindOf b s.V.length s.K.length r = 2) (ho : okK b s.K r = true) : stepF b s r = ⟨s.V, narL s.K (tgt b r) r.Value.Lo r.Value.Hi, s.N⟩ := by unfold stepF; rw [if_neg (by rw [h]; decide), if_pos h, if_pos ho]
theorem step2n {b : Bt.Basin} {s : FS} {r : Bt.Reading} (h : kindOf b s.V.length s.K.length r = 2) (ho : okK b s.K r = false) : stepF b s r = ⟨s.V, s.K, s.N ++ [r.Gauge]⟩ := by unfold stepF; rw [if_neg (by rw [h]; decide), if_pos h, if_neg (by rw [ho]; decide)]
theorem narV_none {L : List Bt.Span} {i : Nat} {lo hi : Int} (h : (meet (L.getD i default).Lo (L.getD i default).Hi lo hi).isSome = false) : narV L i lo hi = L := by
  unfold narV
  cases hm : meet (L.getD i default).Lo (L.getD i default).Hi lo hi with
  | none => rfl
  | some z => rw [hm] at h; cases h
theorem narL_none {L : List Bt.Known} {i : Nat} {lo hi : Int} (h : (meet (L.getD i default).Pos.Lo (L.getD i default).Pos.Hi lo hi).isSome = false) : narL L i lo hi = L := by
  unfold narL
  cases hm : meet (L.getD i default).Pos.Lo (L.getD i default).Pos.Hi lo hi with
  | none => rfl
  | some z => rw [hm] at h; cases h
theorem narV_len (L : List Bt.Span) (i : Nat) (lo hi : Int) : (narV L i lo hi).length = L.length := by unfold narV; split <;> simp
theorem narL_len (L : List Bt.Known) (i : Nat) (lo hi : Int) : (narL L i lo hi).length = L.length := by unfold narL; split <;> simp
def Ok64 (n : Int) : Prop := -9223372036854775808 ≤ n ∧ n ≤ 9223372036854775807
theorem meet_rng {a b c d : Int} {z : Bt.Span} (h : meet a b c d = some z) : (z.Lo = a ∨ z.Lo = c) ∧ (z.Hi = b ∨ z.Hi = d) := by
  unfold meet at h
  split at h
  · obtain rfl := sJ h
    simp only; omega
  · cases h
theorem getD_mem {α : Type} [Inhabited α] {L : List α} {i : Nat} (h : i < L.length) : L.getD i default ∈ L := by
  rw [gDD, List.getElem?_eq_getElem h]; exact List.getElem_mem h
theorem narV_wf {L : List Bt.Span} {i : Nat} {lo hi : Int} (hi_ : i < L.length) (hw : ∀ x ∈ L, Ok64 x.Lo ∧ Ok64 x.Hi) (hl : Ok64 lo) (hh : Ok64 hi) : ∀ x ∈ narV L i lo hi, Ok64 x.Lo ∧ Ok64 x.Hi := fun x hx => by
  unfold narV at hx
  split at hx
  · rename_i z hz
    rcases List.mem_or_eq_of_mem_set hx with h1 | h1
    · exact hw x h1
    · subst h1
      obtain ⟨h2, h3⟩ := meet_rng hz
      have h4 := hw _ (getD_mem hi_)
      rcases h2 with h2 | h2 <;> rcases h3 with h3 | h3 <;> rw [h2, h3]
      · exact h4
      · exact ⟨h4.1, hh⟩
      · exact ⟨hl, h4.2⟩
      · exact ⟨hl, hh⟩
  · exact hw x hx
theorem narL_wf {L : List Bt.Known} {P : Bt.Known → Prop} {i : Nat} {lo hi : Int} (hi_ : i < L.length) (hP : ∀ x, P x ↔ (Ok64 x.Pos.Lo ∧ Ok64 x.Pos.Hi) ∧ Ok64 x.Target ∧ (Ok64 x.Open.Lo ∧ Ok64 x.Open.Hi)) (hw : ∀ x ∈ L, P x) (hl : Ok64 lo) (hh : Ok64 hi) : ∀ x ∈ narL L i lo hi, P x := fun x hx => by
  unfold narL at hx
  split at hx
  · rename_i z hz
    rcases List.mem_or_eq_of_mem_set hx with h1 | h1
    · exact hw x h1
    · subst h1
      obtain ⟨h2, h3⟩ := meet_rng hz
      have h4 := (hP _).1 (hw _ (getD_mem hi_))
      refine (hP _).2 ⟨?_, h4.2⟩
      simp only
      rcases h2 with h2 | h2 <;> rcases h3 with h3 | h3 <;> rw [h2, h3]
      · exact h4.1
      · exact ⟨h4.1.1, hh⟩
      · exact ⟨hl, h4.1.2⟩
      · exact ⟨hl, hh⟩
  · exact hw x hx
def atH (hr : Int) (l : List Bt.Reading) : List Bt.Reading := l.filter fun r => decide (r.Hour = hr)
theorem atH_snoc {hr : Int} {l : List Bt.Reading} {k : Nat} (h : k < l.length) : atH hr (l.take (k + 1)) = if (l.getD k default).Hour = hr then atH hr (l.take k) ++ [l.getD k default] else atH hr (l.take k) := by
  unfold atH
  rw [List.take_succ_eq_append_getElem h, List.filter_append, gDD, List.getElem?_eq_getElem h]
  simp only [Option.getD_some]
  by_cases h1 : l[k].Hour = hr
  · rw [if_pos h1]; simp [h1]
  · rw [if_neg h1]; simp [h1]
theorem foldl_takeR {β : Type} (f : β → Bt.Reading → β) (z : β) {l : List Bt.Reading} {k : Nat} (h : k < l.length) : (l.take (k + 1)).foldl f z = f ((l.take k).foldl f z) (l.getD k default) := by
  rw [List.take_succ_eq_append_getElem h, List.foldl_append, gDD, List.getElem?_eq_getElem h]; rfl
theorem volR_rng (b : Bt.Basin) (r : Bt.Reading) : Ok64 (loOf (volR b r)) ∧ Ok64 (hiOf (volR b r)) := by
  cases hv : volR b r with
  | none => exact ⟨⟨by simp [loOf], by simp [loOf]⟩, ⟨by simp [hiOf], by simp [hiOf]⟩⟩
  | some z =>
    unfold volR at hv
    split at hv
    · unfold volL at hv
      split at hv
      · cases hv
      · rename_i l hl
        unfold meet at hv
        split at hv
        · rename_i hm
          obtain rfl := sJ hv
          simp only [loOf, hiOf, Ok64]
          omega
        · cases hv
    · cases hv
def order (n : Nat) (l : List Bt.Reading) : List Bt.Reading := (List.range n).flatMap fun (g : Nat) => l.filter fun r => decide (r.Gauge = (g : Int))
def fuse (b : Bt.Basin) (h : Bt.Hull) (l : List Bt.Reading) : FS := (order b.Gauges.length (atH h.Hour l)).foldl (stepF b) ⟨h.Vol, h.Links, []⟩
theorem comp_sub : ∀ (L acc : List Int), (L.foldl appU acc).length ≤ acc.length + L.length ∧ ∀ x ∈ L.foldl appU acc, x ∈ acc ∨ x ∈ L
  | [], acc => ⟨Nat.le_refl _, fun _ hx => .inl hx⟩
  | y :: L, acc => by
    obtain ⟨h1, h2⟩ := comp_sub L (appU acc y)
    have h3 : (appU acc y).length ≤ acc.length + 1 := by unfold appU; split <;> simp
    refine ⟨?_, fun x hx => ?_⟩
    · simp only [List.foldl_cons, List.length_cons]; omega
    · rcases h2 x hx with h | h
      · unfold appU at h
        split at h
        · exact .inl h
        · rcases List.mem_append.1 h with h | h
          · exact .inl h
          · exact .inr (by simp at h; simp [h])
      · exact .inr (List.mem_cons_of_mem _ h)
theorem comp_le (L : List Int) : (comp L).length ≤ L.length := by have := (comp_sub L []).1; simpa [comp] using this
theorem comp_mem {L : List Int} {x : Int} (h : x ∈ comp L) : x ∈ L := by
  rcases (comp_sub L []).2 x h with h | h
  · cases h
  · exact h
def sameH (x y : Bt.Hull) : Prop := x.Hour = y.Hour ∧ x.Vol = y.Vol ∧ x.Queue = y.Queue ∧ x.Links = y.Links
instance (x y : Bt.Hull) : Decidable (sameH x y) := inferInstanceAs (Decidable (_ ∧ _ ∧ _ ∧ _))
theorem sum_ext {x y : Bt.Sum} (h : ((x.At = y.At ∧ x.To = y.To) ∧ x.Vol.Lo = y.Vol.Lo) ∧ x.Vol.Hi = y.Vol.Hi) : x = y := by
  obtain ⟨a, b, ⟨c, d⟩⟩ := x; obtain ⟨a', b', ⟨c', d'⟩⟩ := y
  simp only at h; obtain ⟨⟨⟨rfl, rfl⟩, rfl⟩, rfl⟩ := h; rfl
theorem known_ext {x y : Bt.Known} (h : (((x.Pos.Lo = y.Pos.Lo ∧ x.Pos.Hi = y.Pos.Hi) ∧ x.Target = y.Target) ∧ x.Open.Lo = y.Open.Lo) ∧ x.Open.Hi = y.Open.Hi) : x = y := by
  obtain ⟨⟨a, b⟩, c, ⟨d, e⟩⟩ := x; obtain ⟨⟨a', b'⟩, c', ⟨d', e'⟩⟩ := y
  simp only at h; obtain ⟨⟨⟨⟨rfl, rfl⟩, rfl⟩, rfl⟩, rfl⟩ := h; rfl
theorem getD_memI {L : List Int} {i : Nat} (h : i < L.length) : L.getD i 0 ∈ L := by
  rw [gDD, List.getElem?_eq_getElem h]; exact List.getElem_mem h
end Fu
namespace Go.Proofs.YtblfeidlnhdekaaGreat
open Go Go.K Go.RowKit
attribute [local irreducible] AW RW DW Post Qt
def headBad (b : Bt.Basin) : Bool := (((((((((((decide ((500 : Int) < (b.Name.data.toList.length : Int))) || (!(decide (1 ≤ (b.Owners.length : Int) ∧ (b.Owners.length : Int) ≤ 16)))) || (!(decide (0 ≤ b.Cells ∧ b.Cells ≤ 64)))) || (!(decide (1 ≤ (b.Places.length : Int) ∧ (b.Places.length : Int) ≤ 64)))) || (decide ((96 : Int) < (b.Links.length : Int)))) || (decide ((40 : Int) < (b.Towns.length : Int)))) || (decide ((128 : Int) < (b.Gauges.length : Int)))) || (decide ((128 : Int) < (b.Roads.length : Int)))) || (decide ((40 : Int) < (b.Shelters.length : Int)))) || (!decide ((b.Room.length : Int) = 3))) || (!(decide (0 ≤ b.Err ∧ b.Err ≤ 1099511627776))))
def nameBad (b : Bt.Basin) (k : Nat) : Bool := ((((decide ((((b.Name.data.toList.getD k 0).toNat : Nat) : Int) < ((32 : Nat) : Int))) || (decide (((126 : Nat) : Int) < (((b.Name.data.toList.getD k 0).toNat : Nat) : Int)))) || (decide ((((b.Name.data.toList.getD k 0).toNat : Nat) : Int) = ((34 : Nat) : Int)))) || (decide ((((b.Name.data.toList.getD k 0).toNat : Nat) : Int) = ((92 : Nat) : Int))))
def roomBad (b : Bt.Basin) (i : Nat) : Bool := !(decide (0 ≤ b.Room.getD i 0 ∧ b.Room.getD i 0 ≤ 1125899906842624))
def RHead (b : Bt.Basin) : Prop := headBad b = false ∧ (∀ k, k < b.Name.data.toList.length → nameBad b k = false) ∧ ∀ k, k < b.Room.length → roomBad b k = false
instance (b : Bt.Basin) : Decidable (RHead b) := inferInstanceAs (Decidable (headBad b = false ∧ (∀ k, k < b.Name.data.toList.length → nameBad b k = false) ∧ ∀ k, k < b.Room.length → roomBad b k = false))
theorem rHead_c (w : World) (Φ : Hp) (hΦ : Hp.le Φ (hp w)) {b : Bt.Basin} {cs : List Value} (hB : RepV Φ b cs)  :
  Calls pg 51 #[.agg cs.toArray] w fun e w' => e = .returned (.bool (decide (RHead b))) ∧ Bel w.heap.size w w' := by
 obtain ⟨v1, v3, v4, v5, v6, v7, v8, v9, hcs, hBw, r1, r3, r4, r5, r6, r7, r8, r9⟩ := (show Rep.rep Φ b cs from hB)
 subst hcs
 have hpm : b.Places.length * 152 ≤ 140737488355328 := r3.max
 refine in1 109 Tryz.func51 rfl rfl hΦ ?_
 have hnl : b.Name.data.toList.length ≤ 9223372036854775807 := hBw.1
 have hom : b.Owners.length * 16 ≤ 140737488355328 := r1.max
 have hlm : b.Links.length * 200 ≤ 140737488355328 := r4.max
 have htm : b.Towns.length * 64 ≤ 140737488355328 := r5.max
 have hgm_ : b.Gauges.length * 48 ≤ 140737488355328 := r6.max
 have hrm : b.Roads.length * 64 ≤ 140737488355328 := r7.max
 have hsm : b.Shelters.length * 24 ≤ 140737488355328 := r8.max
 have hom2 : b.Room.length * 8 ≤ 140737488355328 := r9.max
 refine gs2 ?_
 refine RW.bxA rfl rfl fun b1 => ?_
 refine gs8 ?_
 refine RW.q (v := iV (b.Name.data.toList.length : Int)) rfl (q_lenS (l := b.Name.data.toList) rfl uT9) ?_
 refine gs5 ?_
 refine RW.gc rfl rfl rfl (fun w1 hw1 => bIn_c w1 (Go.K.hp w1) (Hp.le_refl _)) rfl (fun h => args3 (gv_pos h) rfl rfl) ?_
 refine gs1 ?_
 refine RW.pkO rfl rfl rfl rfl fun qb1 hqb1 => ?_
 refine gs3 ?_
 refine RW.gc rfl rfl rfl (fun w1 hw1 => bIn_c w1 (Go.K.hp w1) (Hp.le_refl _)) rfl (fun h => args3 (gv_pos h) rfl rfl) ?_
 refine gs1 ?_
 refine RW.pkO rfl rfl rfl rfl fun qb2 hqb2 => ?_
 refine gs4 ?_
 refine RW.gc rfl rfl rfl (fun w1 hw1 => bIn_c w1 (Go.K.hp w1) (Hp.le_refl _)) rfl (fun h => args3 (gv_pos h) rfl rfl) ?_
 refine gs1 ?_
 refine RW.pkO rfl rfl rfl rfl fun qb3 hqb3 => ?_
 refine gs5 ?_
 refine RW.pkO rfl rfl rfl rfl fun qb4 hqb4 => ?_
 refine gs5 ?_
 refine RW.pkO rfl rfl rfl rfl fun qb5 hqb5 => ?_
 refine gs5 ?_
 refine RW.pkO rfl rfl rfl rfl fun qb6 hqb6 => ?_
 refine gs5 ?_
 refine RW.pkO rfl rfl rfl rfl fun qb7 hqb7 => ?_
 refine gs5 ?_
 refine RW.pkO rfl rfl rfl rfl fun qb8 hqb8 => ?_
 refine gs5 ?_
 refine RW.pkO rfl rfl rfl rfl fun qb9 hqb9 => ?_
 refine gs3 ?_
 refine RW.gc rfl rfl rfl (fun w1 hw1 => bIn_c w1 (Go.K.hp w1) (Hp.le_refl _)) rfl (fun h => args3 (gv_pos h) rfl rfl) ?_
 refine gs1 ?_
 refine RW.pkO rfl rfl rfl rfl fun qb10 hqb10 => ?_
 subst hqb10 hqb9 hqb8 hqb7 hqb6 hqb5 hqb4 hqb3 hqb2 hqb1
 refine gs2 ?_
 refine AW.cond rfl (fun hc1 => ?_) fun hc1 => ?_
 ·
  refine gs7 ?_
  exact fin_val (v' := .bool false) rfl rfl rfl (congrArg Value.bool (decide_eq_false (fun h9 => Bool.noConfusion ((h9.1).symm.trans hc1))).symm)
 ·
  refine gs7 ?_
  refine RW.q (v := iV (b.Name.data.toList.length : Int)) rfl (q_lenS (l := b.Name.data.toList) rfl uT9) ?_
  refine gs4 ?_
  refine AW.lp (fun s J m => ∃ (k : Nat), s = [(1, pV b1 0), (75, iV (b.Name.data.toList.length : Int)), (76, iV (k : Int))] ∧ J = St ⟨w, Φ, []⟩ Φ [.blk b1 31 (cl31 b v1 v3 v4 v5 v6 v7 v8 v9)] ∧ m = b.Name.data.toList.length - k ∧ (k ≤ b.Name.data.toList.length) ∧ (∀ j, j < k → nameBad b j = false)) ⟨0, rfl, rfl, rfl, (by omega), (fun j hj => absurd hj (by omega))⟩ ?_
  rintro _ _ _ _ ⟨k, rfl, rfl, rfl, hk, hall⟩
  refine gs6 ?_
  refine AW.cond rfl (fun hc2 => ?_) fun hc2 => ?_
  ·
   simp [-List.getD_eq_getElem?_getD, -Array.length_toList] at hc2
   refine gs15 ?_
   refine RW.q (v := .int .u8 (((b.Name.data.toList.getD k 0).toNat : Nat) : Int)) rfl (q_indexS (l := b.Name.data.toList) (i := (k : Int)) rfl rfl uT9 (by omega) (by omega)) ?_
   refine gs6 ?_
   refine RW.q (v := .bool (decide ((((b.Name.data.toList.getD k 0).toNat : Nat) : Int) < ((32 : Nat) : Int)))) rfl (q_lss (a := (((b.Name.data.toList.getD k 0).toNat : Nat) : Int)) (b := ((32 : Nat) : Int)) rfl rfl) ?_
   refine gs2 ?_
   refine RW.g (b := (decide ((((b.Name.data.toList.getD k 0).toNat : Nat) : Int) < ((32 : Nat) : Int)))) (v := .bool (decide (((126 : Nat) : Int) < (((b.Name.data.toList.getD k 0).toNat : Nat) : Int)))) rfl rfl rfl (fun h => q_gtr (a := (((b.Name.data.toList.getD k 0).toNat : Nat) : Int)) (b := ((126 : Nat) : Int)) (gv_pos h) rfl) ?_
   refine RW.pkO rfl rfl rfl rfl fun qb11 hqb11 => ?_
   refine gs2 ?_
   refine RW.g (b := qb11) (v := .bool (decide ((((b.Name.data.toList.getD k 0).toNat : Nat) : Int) = ((34 : Nat) : Int)))) rfl rfl rfl (fun h => q_eql (a := (((b.Name.data.toList.getD k 0).toNat : Nat) : Int)) (b := ((34 : Nat) : Int)) (gv_pos h) rfl) ?_
   refine RW.pkO rfl rfl rfl rfl fun qb12 hqb12 => ?_
   refine gs2 ?_
   refine RW.g (b := qb12) (v := .bool (decide ((((b.Name.data.toList.getD k 0).toNat : Nat) : Int) = ((92 : Nat) : Int)))) rfl rfl rfl (fun h => q_eql (a := (((b.Name.data.toList.getD k 0).toNat : Nat) : Int)) (b := ((92 : Nat) : Int)) (gv_pos h) rfl) ?_
   refine RW.pkO rfl rfl rfl rfl fun qb13 hqb13 => ?_
   subst hqb13 hqb12 hqb11
   refine gs2 ?_
   refine AW.cond rfl (fun hc3 => ?_) fun hc3 => ?_
   ·
    refine gs11 ?_
    exact fin_val (v' := .bool false) rfl rfl rfl (congrArg Value.bool (decide_eq_false (fun h9 => Bool.noConfusion ((h9.2.1 k (by omega)).symm.trans hc3))).symm)
   ·
    refine gs7 ?_
    exact Post.bk ⟨k + 1, rfl, rfl, rfl, (by omega), (Fu.lt_succ hall hc3)⟩
  ·
   simp [-List.getD_eq_getElem?_getD, -Array.length_toList] at hc2
   refine gs15 ?_
   refine AW.lp (fun s J m => ∃ (i : Nat), s = [(99, v9), (100, iV (b.Room.length : Int)), (101, iV (i : Int))] ∧ J = St ⟨w, Φ, []⟩ Φ [.blk b1 31 (cl31 b v1 v3 v4 v5 v6 v7 v8 v9)] ∧ m = b.Room.length - i ∧ (i ≤ b.Room.length) ∧ (∀ j, j < i → roomBad b j = false)) ⟨0, rfl, rfl, rfl, (by omega), (fun j hj => absurd hj (by omega))⟩ ?_
   rintro _ _ _ _ ⟨i, rfl, rfl, rfl, hi, hal2⟩
   refine gs6 ?_
   refine AW.cond rfl (fun hc4 => ?_) fun hc4 => ?_
   ·
    simp [-List.getD_eq_getElem?_getD, -Array.length_toList] at hc4
    refine gs7 ?_
    refine RW.q (v := iV (b.Room.getD i 0)) rfl (q_load rfl uT3 rfl (Cell.repInt r9 (by omega))) ?_
    refine gs6 ?_
    refine RW.c rfl (fun w1 hw1 => bVol_c w1 (Go.K.hp w1) (Hp.le_refl _)) rfl rfl ?_
    refine gs3 ?_
    refine AW.cond rfl (fun hc5 => ?_) fun hc5 => ?_
    ·
     refine gs11 ?_
     exact fin_val (v' := .bool false) rfl rfl rfl (congrArg Value.bool (decide_eq_false (fun h9 => Bool.noConfusion ((h9.2.2 i (by omega)).symm.trans hc5))).symm)
    ·
     refine gs7 ?_
     exact Post.bk ⟨i + 1, rfl, rfl, rfl, (by omega), (Fu.lt_succ hal2 hc5)⟩
   ·
    simp [-List.getD_eq_getElem?_getD, -Array.length_toList] at hc4
    refine gs11 ?_
    exact fin_val (v' := .bool true) rfl rfl rfl (congrArg Value.bool (decide_eq_true (show RHead b from ⟨hc1, fun j hj => hall j (by omega), fun j hj => hal2 j (by omega)⟩)).symm)
def chkS (s : (Ba.Mk → Option Bool) × Bool) (p : Ba.Mk) : (Ba.Mk → Option Bool) × Bool := (putB s.1 p.1 p.2, frsB s.1 p.1 p.2 && s.2)
def chk0 : (Ba.Mk → Option Bool) × Bool := (fun _ => none, true)
def nmF0 (x : ByteArray) : Ba.Mk := ((bs [111, 119, 110, 101, 114]), x)
def nmF1 (x : Bt.Place) : Ba.Mk := ((bs [112, 108, 97, 99, 101]), x.Name)
def nmF2 (x : Bt.Link) : Ba.Mk := ((bs [108, 105, 110, 107]), x.Name)
def nmF3 (x : Bt.Town) : Ba.Mk := ((bs [116, 111, 119, 110]), x.Name)
def nmF4 (x : Bt.Shelter) : Ba.Mk := ((bs [115, 104, 101, 108, 116, 101, 114]), x.Name)
def nmF5 (x : Bt.Gauge) : Ba.Mk := ((bs [103, 97, 117, 103, 101]), x.Name)
def nmF6 (x : Bt.Road) : Ba.Mk := ((bs [114, 111, 97, 100]), x.Name)
def nmL0 (_ : Bt.Basin) : List Ba.Mk := []
def nmL1 (b : Bt.Basin) : List Ba.Mk := nmL0 b ++ b.Owners.map nmF0
def nmL2 (b : Bt.Basin) : List Ba.Mk := nmL1 b ++ b.Places.map nmF1
def nmL3 (b : Bt.Basin) : List Ba.Mk := nmL2 b ++ b.Links.map nmF2
def nmL4 (b : Bt.Basin) : List Ba.Mk := nmL3 b ++ b.Towns.map nmF3
def nmL5 (b : Bt.Basin) : List Ba.Mk := nmL4 b ++ b.Shelters.map nmF4
def nmL6 (b : Bt.Basin) : List Ba.Mk := nmL5 b ++ b.Gauges.map nmF5
def nmL7 (b : Bt.Basin) : List Ba.Mk := nmL6 b ++ b.Roads.map nmF6
def RNames (b : Bt.Basin) : Bool := ((nmL7 b).foldl chkS chk0).2
theorem rNames_c (w : World) (Φ : Hp) (hΦ : Hp.le Φ (hp w)) {b : Bt.Basin} {cs : List Value} (hB : RepV Φ b cs)  :
  Calls pg 52 #[.agg cs.toArray] w fun e w' => e = .returned (.bool (RNames b)) ∧ Bel w.heap.size w w' := by
 obtain ⟨v1, v3, v4, v5, v6, v7, v8, v9, hcs, hBw, r1, r3, r4, r5, r6, r7, r8, r9⟩ := (show Rep.rep Φ b cs from hB)
 subst hcs
 have hpm : b.Places.length * 152 ≤ 140737488355328 := r3.max
 refine in1 106 Tryz.func52 rfl rfl hΦ ?_
 have hnl : b.Name.data.toList.length ≤ 9223372036854775807 := hBw.1
 have hom : b.Owners.length * 16 ≤ 140737488355328 := r1.max
 have hlm : b.Links.length * 200 ≤ 140737488355328 := r4.max
 have htm : b.Towns.length * 64 ≤ 140737488355328 := r5.max
 have hgm_ : b.Gauges.length * 48 ≤ 140737488355328 := r6.max
 have hrm : b.Roads.length * 64 ≤ 140737488355328 := r7.max
 have hsm : b.Shelters.length * 24 ≤ 140737488355328 := r8.max
 have hom2 : b.Room.length * 8 ≤ 140737488355328 := r9.max
 refine gs2 ?_
 refine RW.bxA rfl rfl fun b1 => ?_
 refine gs5 ?_
 refine RW.eff (fun b2 : Nat => .map (some b2)) (fun b2 => St ⟨w, Φ, []⟩ Φ [.kmap kMark Value.bool b2 (fun _ => none), .blk b1 31 (cl31 b v1 v3 v4 v5 v6 v7 v8 v9)]) rfl (e_kmake kMark Value.bool) ?_
 intro b2
 refine RW.eff (fun b3 : Nat => pV b3 0) (fun b3 => St ⟨w, Φ, []⟩ Φ [.blk b3 154 [.map none], .kmap kMark Value.bool b2 (fun _ => none), .blk b1 31 (cl31 b v1 v3 v4 v5 v6 v7 v8 v9)]) rfl (e_alloc zero154) ?_
 intro b3
 refine RW.effn (J' := St ⟨w, Φ, []⟩ Φ [.blk b3 154 [.map (some b2)], .kmap kMark Value.bool b2 (fun _ => none), .blk b1 31 (cl31 b v1 v3 v4 v5 v6 v7 v8 v9)]) (e_store (v := .map (some b2)) 0 rfl rfl rfl sz154 rfl rfl rfl rfl rfl) ?_
 refine gs4 ?_
 refine RW.alc rfl fun b4 => ?_
 refine gs5 ?_
 refine RW.q (v := .func (.func 80) #[] #[pV b3 0, pV b4 0]) rfl (q_makeFunc rfl rfl) ?_
 refine gs13 ?_
 refine AW.lp (fun s J m => ∃ (k : Nat), ∃ (M : Ba.Mk → Option Bool), ∃ (t : Bool), s = [(1, pV b1 0), (4, pV b4 0), (5, .func (.func 80) #[] #[pV b3 0, pV b4 0]), (23, v1), (24, iV (b.Owners.length : Int)), (25, iV (k : Int))] ∧ J = St ⟨w, Φ, []⟩ Φ [.blk b4 4 [.bool t], .blk b3 154 [.map (some b2)], .kmap kMark Value.bool b2 (M), .blk b1 31 (cl31 b v1 v3 v4 v5 v6 v7 v8 v9)] ∧ m = b.Owners.length - k ∧ (k ≤ b.Owners.length) ∧ ((M, t) = (nmL0 b ++ (b.Owners.map nmF0).take k).foldl chkS chk0)) ⟨0, fun _ => none, true, rfl, rfl, rfl, (by omega), rfl⟩ ?_
 rintro _ _ _ _ ⟨k, M, t, rfl, rfl, rfl, hk, hS⟩
 refine gs6 ?_
 refine AW.cond rfl (fun hc1 => ?_) fun hc1 => ?_
 ·
  simp [-List.getD_eq_getElem?_getD, -Array.length_toList] at hc1
  refine gs7 ?_
  have hstr1 := RepSl.strAt (k := k) r1 (by omega)
  refine RW.q (v := .string (b.Owners.getD k default)) rfl (q_load rfl uT9 rfl (Cell.phi hstr1.2)) ?_
  refine gs3 ?_
  have hnm : (b.Owners.getD k default).size ≤ maxLen := hstr1.1
  refine gs3 ?_
  refine RW.eff (fun u1 : Unit => .tuple #[]) (fun u1 => St ⟨w, Φ, []⟩ Φ [.blk b4 4 [.bool (frsB M (bs ([111, 119, 110, 101, 114] : List UInt8)) (b.Owners.getD k default) && t)], .blk b3 154 [.map (some b2)], .kmap kMark Value.bool b2 (putB M (bs ([111, 119, 110, 101, 114] : List UInt8)) (b.Owners.getD k default)), .blk b1 31 (cl31 b v1 v3 v4 v5 v6 v7 v8 v9)]) rfl (e_call (args := #[.string (bs ([111, 119, 110, 101, 114] : List UInt8)), .string (b.Owners.getD k default), pV b3 0, pV b4 0]) oK rfl rfl (fun w1 hw1 => check_c (C := [.blk b1 31 (cl31 b v1 v3 v4 v5 v6 v7 v8 v9)]) rfl (by show (5 : Nat) ≤ maxLen; decide) hnm w1 hw1)) ?_
  intro u1
  refine gs7 ?_
  exact Post.bk ⟨k + 1, putB M (bs ([111, 119, 110, 101, 114] : List UInt8)) (b.Owners.getD k default), frsB M (bs ([111, 119, 110, 101, 114] : List UInt8)) (b.Owners.getD k default) && t, rfl, rfl, rfl, (by omega), (Ba.fold_snoc chkS chk0 (nmL0 b) nmF0 (show k < b.Owners.length by omega) hS)⟩
 ·
  simp [-List.getD_eq_getElem?_getD, -Array.length_toList] at hc1
  refine gs15 ?_
  have hE : (M, t) = (nmL1 b).foldl chkS chk0 := Ba.fold_end chkS chk0 (nmL0 b) nmF0 (by omega) hS
  refine AW.lp (fun s J m => ∃ (k : Nat), ∃ (M : Ba.Mk → Option Bool), ∃ (t : Bool), s = [(1, pV b1 0), (4, pV b4 0), (5, .func (.func 80) #[] #[pV b3 0, pV b4 0]), (34, v3), (35, iV (b.Places.length : Int)), (36, iV (k : Int))] ∧ J = St ⟨w, Φ, []⟩ Φ [.blk b4 4 [.bool t], .blk b3 154 [.map (some b2)], .kmap kMark Value.bool b2 (M), .blk b1 31 (cl31 b v1 v3 v4 v5 v6 v7 v8 v9)] ∧ m = b.Places.length - k ∧ (k ≤ b.Places.length) ∧ ((M, t) = (nmL1 b ++ (b.Places.map nmF1).take k).foldl chkS chk0)) ⟨0, M, t, rfl, rfl, rfl, (by omega), (by rw [List.take_zero, List.append_nil]; exact hE)⟩ ?_
  rintro _ _ _ _ ⟨k, M, t, rfl, rfl, rfl, hk, hS⟩
  refine gs6 ?_
  refine AW.cond rfl (fun hc2 => ?_) fun hc2 => ?_
  ·
   simp [-List.getD_eq_getElem?_getD, -Array.length_toList] at hc2
   refine gs7 ?_
   obtain ⟨cv1, hcr1, hcc1⟩ := RepSl.whole (k := k) r3 (by omega)
   obtain ⟨sv1, sv2, sv3, hcE1, hcw1, hsv1, hsv2, hsv3⟩ := (show Rep.rep _ _ _ from hcr1)
   subst hcE1
   refine RW.q (v := .agg (cl71 (b.Places.getD k default) sv1 sv2 sv3).toArray) rfl (q_loadAgg rfl uT71 rfl sz71 rfl (Cells.phiK hcc1)) ?_
   refine RW.alc rfl fun b5 => ?_
   refine RW.effn (J' := St ⟨w, Φ, []⟩ Φ [.blk b5 71 (cl71 (b.Places.getD k default) sv1 sv2 sv3), .blk b4 4 [.bool t], .blk b3 154 [.map (some b2)], .kmap kMark Value.bool b2 (M), .blk b1 31 (cl31 b v1 v3 v4 v5 v6 v7 v8 v9)]) (e_store (v := .agg (cl71 (b.Places.getD k default) sv1 sv2 sv3).toArray) 0 rfl rfl rfl sz71 rfl (List.all_eq_true.2 (fun u hu => Rep.one (show Rep.rep _ _ _ from hcr1) u hu)) rfl rfl rfl) ?_
   refine gs2 ?_
   have hnm : (b.Places.getD k default).Name.size ≤ maxLen := hcw1.1
   refine gs4 ?_
   refine RW.eff (fun u2 : Unit => .tuple #[]) (fun u2 => St ⟨w, Φ, []⟩ Φ [.blk b5 71 (cl71 (b.Places.getD k default) sv1 sv2 sv3), .blk b4 4 [.bool (frsB M (bs ([112, 108, 97, 99, 101] : List UInt8)) ((b.Places.getD k default).Name) && t)], .blk b3 154 [.map (some b2)], .kmap kMark Value.bool b2 (putB M (bs ([112, 108, 97, 99, 101] : List UInt8)) ((b.Places.getD k default).Name)), .blk b1 31 (cl31 b v1 v3 v4 v5 v6 v7 v8 v9)]) rfl (e_call (args := #[.string (bs ([112, 108, 97, 99, 101] : List UInt8)), .string ((b.Places.getD k default).Name), pV b3 0, pV b4 0]) oK rfl rfl (fun w1 hw1 => (check_c (C := [.blk b5 71 (cl71 (b.Places.getD k default) sv1 sv2 sv3), .blk b1 31 (cl31 b v1 v3 v4 v5 v6 v7 v8 v9)]) rfl (by show (5 : Nat) ≤ maxLen; decide) hnm w1 (hw1.perm (List.perm_middle (a := (.blk b5 71 (cl71 (b.Places.getD k default) sv1 sv2 sv3) : Chunk)) (l₁ := ([.blk b4 4 [.bool t], .blk b3 154 [.map (some b2)], .kmap kMark Value.bool b2 (M)] : List Chunk)) (l₂ := ([.blk b1 31 (cl31 b v1 v3 v4 v5 v6 v7 v8 v9)] : List Chunk))))).mono fun e w2 ⟨x, he, hp⟩ => ⟨x, he, hp.perm (List.perm_middle (a := (.blk b5 71 (cl71 (b.Places.getD k default) sv1 sv2 sv3) : Chunk)) (l₁ := ([.blk b4 4 [.bool (frsB M (bs ([112, 108, 97, 99, 101] : List UInt8)) ((b.Places.getD k default).Name) && t)], .blk b3 154 [.map (some b2)], .kmap kMark Value.bool b2 (putB M (bs ([112, 108, 97, 99, 101] : List UInt8)) ((b.Places.getD k default).Name))] : List Chunk)) (l₂ := ([.blk b1 31 (cl31 b v1 v3 v4 v5 v6 v7 v8 v9)] : List Chunk))).symm⟩)) ?_
   intro u2
   refine gs7 ?_
   exact Post.bk ⟨k + 1, putB M (bs ([112, 108, 97, 99, 101] : List UInt8)) ((b.Places.getD k default).Name), frsB M (bs ([112, 108, 97, 99, 101] : List UInt8)) ((b.Places.getD k default).Name) && t, rfl, rfl, rfl, (by omega), (Ba.fold_snoc chkS chk0 (nmL1 b) nmF1 (show k < b.Places.length by omega) hS)⟩
  ·
   simp [-List.getD_eq_getElem?_getD, -Array.length_toList] at hc2
   refine gs15 ?_
   have hE : (M, t) = (nmL2 b).foldl chkS chk0 := Ba.fold_end chkS chk0 (nmL1 b) nmF1 (by omega) hS
   refine AW.lp (fun s J m => ∃ (k : Nat), ∃ (M : Ba.Mk → Option Bool), ∃ (t : Bool), s = [(1, pV b1 0), (4, pV b4 0), (5, .func (.func 80) #[] #[pV b3 0, pV b4 0]), (46, v4), (47, iV (b.Links.length : Int)), (48, iV (k : Int))] ∧ J = St ⟨w, Φ, []⟩ Φ [.blk b4 4 [.bool t], .blk b3 154 [.map (some b2)], .kmap kMark Value.bool b2 (M), .blk b1 31 (cl31 b v1 v3 v4 v5 v6 v7 v8 v9)] ∧ m = b.Links.length - k ∧ (k ≤ b.Links.length) ∧ ((M, t) = (nmL2 b ++ (b.Links.map nmF2).take k).foldl chkS chk0)) ⟨0, M, t, rfl, rfl, rfl, (by omega), (by rw [List.take_zero, List.append_nil]; exact hE)⟩ ?_
   rintro _ _ _ _ ⟨k, M, t, rfl, rfl, rfl, hk, hS⟩
   refine gs6 ?_
   refine AW.cond rfl (fun hc3 => ?_) fun hc3 => ?_
   ·
    simp [-List.getD_eq_getElem?_getD, -Array.length_toList] at hc3
    refine gs7 ?_
    obtain ⟨cv2, hcr2, hcc2⟩ := RepSl.whole (k := k) r4 (by omega)
    obtain ⟨sv4, sv5, sv6, hcE2, hcw2, hsv4, hsv5, hsv6⟩ := (show Rep.rep _ _ _ from hcr2)
    subst hcE2
    refine RW.q (v := .agg (cl124 (b.Links.getD k default) sv4 sv5 sv6).toArray) rfl (q_loadAgg rfl uT124 rfl sz124 rfl (Cells.phiK hcc2)) ?_
    refine RW.alc rfl fun b6 => ?_
    refine RW.effn (J' := St ⟨w, Φ, []⟩ Φ [.blk b6 124 (cl124 (b.Links.getD k default) sv4 sv5 sv6), .blk b4 4 [.bool t], .blk b3 154 [.map (some b2)], .kmap kMark Value.bool b2 (M), .blk b1 31 (cl31 b v1 v3 v4 v5 v6 v7 v8 v9)]) (e_store (v := .agg (cl124 (b.Links.getD k default) sv4 sv5 sv6).toArray) 0 rfl rfl rfl sz124 rfl (List.all_eq_true.2 (fun u hu => Rep.one (show Rep.rep _ _ _ from hcr2) u hu)) rfl rfl rfl) ?_
    refine gs2 ?_
    have hnm : (b.Links.getD k default).Name.size ≤ maxLen := hcw2.1
    refine gs4 ?_
    refine RW.eff (fun u3 : Unit => .tuple #[]) (fun u3 => St ⟨w, Φ, []⟩ Φ [.blk b6 124 (cl124 (b.Links.getD k default) sv4 sv5 sv6), .blk b4 4 [.bool (frsB M (bs ([108, 105, 110, 107] : List UInt8)) ((b.Links.getD k default).Name) && t)], .blk b3 154 [.map (some b2)], .kmap kMark Value.bool b2 (putB M (bs ([108, 105, 110, 107] : List UInt8)) ((b.Links.getD k default).Name)), .blk b1 31 (cl31 b v1 v3 v4 v5 v6 v7 v8 v9)]) rfl (e_call (args := #[.string (bs ([108, 105, 110, 107] : List UInt8)), .string ((b.Links.getD k default).Name), pV b3 0, pV b4 0]) oK rfl rfl (fun w1 hw1 => (check_c (C := [.blk b6 124 (cl124 (b.Links.getD k default) sv4 sv5 sv6), .blk b1 31 (cl31 b v1 v3 v4 v5 v6 v7 v8 v9)]) rfl (by show (4 : Nat) ≤ maxLen; decide) hnm w1 (hw1.perm (List.perm_middle (a := (.blk b6 124 (cl124 (b.Links.getD k default) sv4 sv5 sv6) : Chunk)) (l₁ := ([.blk b4 4 [.bool t], .blk b3 154 [.map (some b2)], .kmap kMark Value.bool b2 (M)] : List Chunk)) (l₂ := ([.blk b1 31 (cl31 b v1 v3 v4 v5 v6 v7 v8 v9)] : List Chunk))))).mono fun e w2 ⟨x, he, hp⟩ => ⟨x, he, hp.perm (List.perm_middle (a := (.blk b6 124 (cl124 (b.Links.getD k default) sv4 sv5 sv6) : Chunk)) (l₁ := ([.blk b4 4 [.bool (frsB M (bs ([108, 105, 110, 107] : List UInt8)) ((b.Links.getD k default).Name) && t)], .blk b3 154 [.map (some b2)], .kmap kMark Value.bool b2 (putB M (bs ([108, 105, 110, 107] : List UInt8)) ((b.Links.getD k default).Name))] : List Chunk)) (l₂ := ([.blk b1 31 (cl31 b v1 v3 v4 v5 v6 v7 v8 v9)] : List Chunk))).symm⟩)) ?_
    intro u3
    refine gs7 ?_
    exact Post.bk ⟨k + 1, putB M (bs ([108, 105, 110, 107] : List UInt8)) ((b.Links.getD k default).Name), frsB M (bs ([108, 105, 110, 107] : List UInt8)) ((b.Links.getD k default).Name) && t, rfl, rfl, rfl, (by omega), (Ba.fold_snoc chkS chk0 (nmL2 b) nmF2 (show k < b.Links.length by omega) hS)⟩
   ·
    simp [-List.getD_eq_getElem?_getD, -Array.length_toList] at hc3
    refine gs15 ?_
    have hE : (M, t) = (nmL3 b).foldl chkS chk0 := Ba.fold_end chkS chk0 (nmL2 b) nmF2 (by omega) hS
    refine AW.lp (fun s J m => ∃ (k : Nat), ∃ (M : Ba.Mk → Option Bool), ∃ (t : Bool), s = [(1, pV b1 0), (4, pV b4 0), (5, .func (.func 80) #[] #[pV b3 0, pV b4 0]), (58, v5), (59, iV (b.Towns.length : Int)), (60, iV (k : Int))] ∧ J = St ⟨w, Φ, []⟩ Φ [.blk b4 4 [.bool t], .blk b3 154 [.map (some b2)], .kmap kMark Value.bool b2 (M), .blk b1 31 (cl31 b v1 v3 v4 v5 v6 v7 v8 v9)] ∧ m = b.Towns.length - k ∧ (k ≤ b.Towns.length) ∧ ((M, t) = (nmL3 b ++ (b.Towns.map nmF3).take k).foldl chkS chk0)) ⟨0, M, t, rfl, rfl, rfl, (by omega), (by rw [List.take_zero, List.append_nil]; exact hE)⟩ ?_
    rintro _ _ _ _ ⟨k, M, t, rfl, rfl, rfl, hk, hS⟩
    refine gs6 ?_
    refine AW.cond rfl (fun hc4 => ?_) fun hc4 => ?_
    ·
     simp [-List.getD_eq_getElem?_getD, -Array.length_toList] at hc4
     refine gs7 ?_
     refine RW.q (v := .agg (cl158 (b.Towns.getD k default)).toArray) rfl (q_loadAgg rfl uT158 rfl sz158 rfl (Cells.repE r5 (by omega) rfl)) ?_
     refine RW.alc rfl fun b7 => ?_
     refine gs3 ?_
     have hnm : (b.Towns.getD k default).Name.size ≤ maxLen := (r5.wfE _ (Fu.getD_mem (by omega))).1
     refine gs4 ?_
     refine RW.eff (fun u4 : Unit => .tuple #[]) (fun u4 => St ⟨w, Φ, []⟩ Φ [.blk b7 158 (cl158 (b.Towns.getD k default)), .blk b4 4 [.bool (frsB M (bs ([116, 111, 119, 110] : List UInt8)) ((b.Towns.getD k default).Name) && t)], .blk b3 154 [.map (some b2)], .kmap kMark Value.bool b2 (putB M (bs ([116, 111, 119, 110] : List UInt8)) ((b.Towns.getD k default).Name)), .blk b1 31 (cl31 b v1 v3 v4 v5 v6 v7 v8 v9)]) rfl (e_call (args := #[.string (bs ([116, 111, 119, 110] : List UInt8)), .string ((b.Towns.getD k default).Name), pV b3 0, pV b4 0]) oK rfl rfl (fun w1 hw1 => (check_c (C := [.blk b7 158 (cl158 (b.Towns.getD k default)), .blk b1 31 (cl31 b v1 v3 v4 v5 v6 v7 v8 v9)]) rfl (by show (4 : Nat) ≤ maxLen; decide) hnm w1 (hw1.perm (List.perm_middle (a := (.blk b7 158 (cl158 (b.Towns.getD k default)) : Chunk)) (l₁ := ([.blk b4 4 [.bool t], .blk b3 154 [.map (some b2)], .kmap kMark Value.bool b2 (M)] : List Chunk)) (l₂ := ([.blk b1 31 (cl31 b v1 v3 v4 v5 v6 v7 v8 v9)] : List Chunk))))).mono fun e w2 ⟨x, he, hp⟩ => ⟨x, he, hp.perm (List.perm_middle (a := (.blk b7 158 (cl158 (b.Towns.getD k default)) : Chunk)) (l₁ := ([.blk b4 4 [.bool (frsB M (bs ([116, 111, 119, 110] : List UInt8)) ((b.Towns.getD k default).Name) && t)], .blk b3 154 [.map (some b2)], .kmap kMark Value.bool b2 (putB M (bs ([116, 111, 119, 110] : List UInt8)) ((b.Towns.getD k default).Name))] : List Chunk)) (l₂ := ([.blk b1 31 (cl31 b v1 v3 v4 v5 v6 v7 v8 v9)] : List Chunk))).symm⟩)) ?_
     intro u4
     refine gs7 ?_
     exact Post.bk ⟨k + 1, putB M (bs ([116, 111, 119, 110] : List UInt8)) ((b.Towns.getD k default).Name), frsB M (bs ([116, 111, 119, 110] : List UInt8)) ((b.Towns.getD k default).Name) && t, rfl, rfl, rfl, (by omega), (Ba.fold_snoc chkS chk0 (nmL3 b) nmF3 (show k < b.Towns.length by omega) hS)⟩
    ·
     simp [-List.getD_eq_getElem?_getD, -Array.length_toList] at hc4
     refine gs15 ?_
     have hE : (M, t) = (nmL4 b).foldl chkS chk0 := Ba.fold_end chkS chk0 (nmL3 b) nmF3 (by omega) hS
     refine AW.lp (fun s J m => ∃ (k : Nat), ∃ (M : Ba.Mk → Option Bool), ∃ (t : Bool), s = [(1, pV b1 0), (4, pV b4 0), (5, .func (.func 80) #[] #[pV b3 0, pV b4 0]), (70, v8), (71, iV (b.Shelters.length : Int)), (72, iV (k : Int))] ∧ J = St ⟨w, Φ, []⟩ Φ [.blk b4 4 [.bool t], .blk b3 154 [.map (some b2)], .kmap kMark Value.bool b2 (M), .blk b1 31 (cl31 b v1 v3 v4 v5 v6 v7 v8 v9)] ∧ m = b.Shelters.length - k ∧ (k ≤ b.Shelters.length) ∧ ((M, t) = (nmL4 b ++ (b.Shelters.map nmF4).take k).foldl chkS chk0)) ⟨0, M, t, rfl, rfl, rfl, (by omega), (by rw [List.take_zero, List.append_nil]; exact hE)⟩ ?_
     rintro _ _ _ _ ⟨k, M, t, rfl, rfl, rfl, hk, hS⟩
     refine gs6 ?_
     refine AW.cond rfl (fun hc5 => ?_) fun hc5 => ?_
     ·
      simp [-List.getD_eq_getElem?_getD, -Array.length_toList] at hc5
      refine gs7 ?_
      refine RW.q (v := .agg #[.string ((b.Shelters.getD k default).Name), iV ((b.Shelters.getD k default).Room)]) rfl (q_loadAgg rfl uT160 rfl sz160 rfl (Cells.repE r8 (by omega) rfl)) ?_
      refine RW.alc rfl fun b8 => ?_
      refine gs3 ?_
      have hnm : (b.Shelters.getD k default).Name.size ≤ maxLen := (r8.wfE _ (Fu.getD_mem (by omega))).1
      refine gs4 ?_
      refine RW.eff (fun u5 : Unit => .tuple #[]) (fun u5 => St ⟨w, Φ, []⟩ Φ [.blk b8 160 [.string ((b.Shelters.getD k default).Name), iV ((b.Shelters.getD k default).Room)], .blk b4 4 [.bool (frsB M (bs ([115, 104, 101, 108, 116, 101, 114] : List UInt8)) ((b.Shelters.getD k default).Name) && t)], .blk b3 154 [.map (some b2)], .kmap kMark Value.bool b2 (putB M (bs ([115, 104, 101, 108, 116, 101, 114] : List UInt8)) ((b.Shelters.getD k default).Name)), .blk b1 31 (cl31 b v1 v3 v4 v5 v6 v7 v8 v9)]) rfl (e_call (args := #[.string (bs ([115, 104, 101, 108, 116, 101, 114] : List UInt8)), .string ((b.Shelters.getD k default).Name), pV b3 0, pV b4 0]) oK rfl rfl (fun w1 hw1 => (check_c (C := [.blk b8 160 [.string ((b.Shelters.getD k default).Name), iV ((b.Shelters.getD k default).Room)], .blk b1 31 (cl31 b v1 v3 v4 v5 v6 v7 v8 v9)]) rfl (by show (7 : Nat) ≤ maxLen; decide) hnm w1 (hw1.perm (List.perm_middle (a := (.blk b8 160 [.string ((b.Shelters.getD k default).Name), iV ((b.Shelters.getD k default).Room)] : Chunk)) (l₁ := ([.blk b4 4 [.bool t], .blk b3 154 [.map (some b2)], .kmap kMark Value.bool b2 (M)] : List Chunk)) (l₂ := ([.blk b1 31 (cl31 b v1 v3 v4 v5 v6 v7 v8 v9)] : List Chunk))))).mono fun e w2 ⟨x, he, hp⟩ => ⟨x, he, hp.perm (List.perm_middle (a := (.blk b8 160 [.string ((b.Shelters.getD k default).Name), iV ((b.Shelters.getD k default).Room)] : Chunk)) (l₁ := ([.blk b4 4 [.bool (frsB M (bs ([115, 104, 101, 108, 116, 101, 114] : List UInt8)) ((b.Shelters.getD k default).Name) && t)], .blk b3 154 [.map (some b2)], .kmap kMark Value.bool b2 (putB M (bs ([115, 104, 101, 108, 116, 101, 114] : List UInt8)) ((b.Shelters.getD k default).Name))] : List Chunk)) (l₂ := ([.blk b1 31 (cl31 b v1 v3 v4 v5 v6 v7 v8 v9)] : List Chunk))).symm⟩)) ?_
      intro u5
      refine gs7 ?_
      exact Post.bk ⟨k + 1, putB M (bs ([115, 104, 101, 108, 116, 101, 114] : List UInt8)) ((b.Shelters.getD k default).Name), frsB M (bs ([115, 104, 101, 108, 116, 101, 114] : List UInt8)) ((b.Shelters.getD k default).Name) && t, rfl, rfl, rfl, (by omega), (Ba.fold_snoc chkS chk0 (nmL4 b) nmF4 (show k < b.Shelters.length by omega) hS)⟩
     ·
      simp [-List.getD_eq_getElem?_getD, -Array.length_toList] at hc5
      refine gs15 ?_
      have hE : (M, t) = (nmL5 b).foldl chkS chk0 := Ba.fold_end chkS chk0 (nmL4 b) nmF4 (by omega) hS
      refine AW.lp (fun s J m => ∃ (k : Nat), ∃ (M : Ba.Mk → Option Bool), ∃ (t : Bool), s = [(1, pV b1 0), (4, pV b4 0), (5, .func (.func 80) #[] #[pV b3 0, pV b4 0]), (82, v6), (83, iV (b.Gauges.length : Int)), (84, iV (k : Int))] ∧ J = St ⟨w, Φ, []⟩ Φ [.blk b4 4 [.bool t], .blk b3 154 [.map (some b2)], .kmap kMark Value.bool b2 (M), .blk b1 31 (cl31 b v1 v3 v4 v5 v6 v7 v8 v9)] ∧ m = b.Gauges.length - k ∧ (k ≤ b.Gauges.length) ∧ ((M, t) = (nmL5 b ++ (b.Gauges.map nmF5).take k).foldl chkS chk0)) ⟨0, M, t, rfl, rfl, rfl, (by omega), (by rw [List.take_zero, List.append_nil]; exact hE)⟩ ?_
      rintro _ _ _ _ ⟨k, M, t, rfl, rfl, rfl, hk, hS⟩
      refine gs6 ?_
      refine AW.cond rfl (fun hc6 => ?_) fun hc6 => ?_
      ·
       simp [-List.getD_eq_getElem?_getD, -Array.length_toList] at hc6
       refine gs7 ?_
       refine RW.q (v := .agg (cl49 (b.Gauges.getD k default)).toArray) rfl (q_loadAgg rfl uT49 rfl sz49 rfl (Cells.repE r6 (by omega) rfl)) ?_
       refine RW.alc rfl fun b9 => ?_
       refine gs3 ?_
       have hnm : (b.Gauges.getD k default).Name.size ≤ maxLen := (r6.wfE _ (Fu.getD_mem (by omega))).1
       refine gs4 ?_
       refine RW.eff (fun u6 : Unit => .tuple #[]) (fun u6 => St ⟨w, Φ, []⟩ Φ [.blk b9 49 (cl49 (b.Gauges.getD k default)), .blk b4 4 [.bool (frsB M (bs ([103, 97, 117, 103, 101] : List UInt8)) ((b.Gauges.getD k default).Name) && t)], .blk b3 154 [.map (some b2)], .kmap kMark Value.bool b2 (putB M (bs ([103, 97, 117, 103, 101] : List UInt8)) ((b.Gauges.getD k default).Name)), .blk b1 31 (cl31 b v1 v3 v4 v5 v6 v7 v8 v9)]) rfl (e_call (args := #[.string (bs ([103, 97, 117, 103, 101] : List UInt8)), .string ((b.Gauges.getD k default).Name), pV b3 0, pV b4 0]) oK rfl rfl (fun w1 hw1 => (check_c (C := [.blk b9 49 (cl49 (b.Gauges.getD k default)), .blk b1 31 (cl31 b v1 v3 v4 v5 v6 v7 v8 v9)]) rfl (by show (5 : Nat) ≤ maxLen; decide) hnm w1 (hw1.perm (List.perm_middle (a := (.blk b9 49 (cl49 (b.Gauges.getD k default)) : Chunk)) (l₁ := ([.blk b4 4 [.bool t], .blk b3 154 [.map (some b2)], .kmap kMark Value.bool b2 (M)] : List Chunk)) (l₂ := ([.blk b1 31 (cl31 b v1 v3 v4 v5 v6 v7 v8 v9)] : List Chunk))))).mono fun e w2 ⟨x, he, hp⟩ => ⟨x, he, hp.perm (List.perm_middle (a := (.blk b9 49 (cl49 (b.Gauges.getD k default)) : Chunk)) (l₁ := ([.blk b4 4 [.bool (frsB M (bs ([103, 97, 117, 103, 101] : List UInt8)) ((b.Gauges.getD k default).Name) && t)], .blk b3 154 [.map (some b2)], .kmap kMark Value.bool b2 (putB M (bs ([103, 97, 117, 103, 101] : List UInt8)) ((b.Gauges.getD k default).Name))] : List Chunk)) (l₂ := ([.blk b1 31 (cl31 b v1 v3 v4 v5 v6 v7 v8 v9)] : List Chunk))).symm⟩)) ?_
       intro u6
       refine gs7 ?_
       exact Post.bk ⟨k + 1, putB M (bs ([103, 97, 117, 103, 101] : List UInt8)) ((b.Gauges.getD k default).Name), frsB M (bs ([103, 97, 117, 103, 101] : List UInt8)) ((b.Gauges.getD k default).Name) && t, rfl, rfl, rfl, (by omega), (Ba.fold_snoc chkS chk0 (nmL5 b) nmF5 (show k < b.Gauges.length by omega) hS)⟩
      ·
       simp [-List.getD_eq_getElem?_getD, -Array.length_toList] at hc6
       refine gs15 ?_
       have hE : (M, t) = (nmL6 b).foldl chkS chk0 := Ba.fold_end chkS chk0 (nmL5 b) nmF5 (by omega) hS
       refine AW.lp (fun s J m => ∃ (k : Nat), ∃ (M : Ba.Mk → Option Bool), ∃ (t : Bool), s = [(1, pV b1 0), (4, pV b4 0), (5, .func (.func 80) #[] #[pV b3 0, pV b4 0]), (94, v7), (95, iV (b.Roads.length : Int)), (96, iV (k : Int))] ∧ J = St ⟨w, Φ, []⟩ Φ [.blk b4 4 [.bool t], .blk b3 154 [.map (some b2)], .kmap kMark Value.bool b2 (M), .blk b1 31 (cl31 b v1 v3 v4 v5 v6 v7 v8 v9)] ∧ m = b.Roads.length - k ∧ (k ≤ b.Roads.length) ∧ ((M, t) = (nmL6 b ++ (b.Roads.map nmF6).take k).foldl chkS chk0)) ⟨0, M, t, rfl, rfl, rfl, (by omega), (by rw [List.take_zero, List.append_nil]; exact hE)⟩ ?_
       rintro _ _ _ _ ⟨k, M, t, rfl, rfl, rfl, hk, hS⟩
       refine gs6 ?_
       refine AW.cond rfl (fun hc7 => ?_) fun hc7 => ?_
       ·
        simp [-List.getD_eq_getElem?_getD, -Array.length_toList] at hc7
        refine gs7 ?_
        refine RW.q (v := .agg (cl162 (b.Roads.getD k default)).toArray) rfl (q_loadAgg rfl uT162 rfl sz162 rfl (Cells.repE r7 (by omega) rfl)) ?_
        refine RW.alc rfl fun b10 => ?_
        refine gs3 ?_
        have hnm : (b.Roads.getD k default).Name.size ≤ maxLen := (r7.wfE _ (Fu.getD_mem (by omega))).1
        refine gs4 ?_
        refine RW.eff (fun u7 : Unit => .tuple #[]) (fun u7 => St ⟨w, Φ, []⟩ Φ [.blk b10 162 (cl162 (b.Roads.getD k default)), .blk b4 4 [.bool (frsB M (bs ([114, 111, 97, 100] : List UInt8)) ((b.Roads.getD k default).Name) && t)], .blk b3 154 [.map (some b2)], .kmap kMark Value.bool b2 (putB M (bs ([114, 111, 97, 100] : List UInt8)) ((b.Roads.getD k default).Name)), .blk b1 31 (cl31 b v1 v3 v4 v5 v6 v7 v8 v9)]) rfl (e_call (args := #[.string (bs ([114, 111, 97, 100] : List UInt8)), .string ((b.Roads.getD k default).Name), pV b3 0, pV b4 0]) oK rfl rfl (fun w1 hw1 => (check_c (C := [.blk b10 162 (cl162 (b.Roads.getD k default)), .blk b1 31 (cl31 b v1 v3 v4 v5 v6 v7 v8 v9)]) rfl (by show (4 : Nat) ≤ maxLen; decide) hnm w1 (hw1.perm (List.perm_middle (a := (.blk b10 162 (cl162 (b.Roads.getD k default)) : Chunk)) (l₁ := ([.blk b4 4 [.bool t], .blk b3 154 [.map (some b2)], .kmap kMark Value.bool b2 (M)] : List Chunk)) (l₂ := ([.blk b1 31 (cl31 b v1 v3 v4 v5 v6 v7 v8 v9)] : List Chunk))))).mono fun e w2 ⟨x, he, hp⟩ => ⟨x, he, hp.perm (List.perm_middle (a := (.blk b10 162 (cl162 (b.Roads.getD k default)) : Chunk)) (l₁ := ([.blk b4 4 [.bool (frsB M (bs ([114, 111, 97, 100] : List UInt8)) ((b.Roads.getD k default).Name) && t)], .blk b3 154 [.map (some b2)], .kmap kMark Value.bool b2 (putB M (bs ([114, 111, 97, 100] : List UInt8)) ((b.Roads.getD k default).Name))] : List Chunk)) (l₂ := ([.blk b1 31 (cl31 b v1 v3 v4 v5 v6 v7 v8 v9)] : List Chunk))).symm⟩)) ?_
        intro u7
        refine gs7 ?_
        exact Post.bk ⟨k + 1, putB M (bs ([114, 111, 97, 100] : List UInt8)) ((b.Roads.getD k default).Name), frsB M (bs ([114, 111, 97, 100] : List UInt8)) ((b.Roads.getD k default).Name) && t, rfl, rfl, rfl, (by omega), (Ba.fold_snoc chkS chk0 (nmL6 b) nmF6 (show k < b.Roads.length by omega) hS)⟩
       ·
        simp [-List.getD_eq_getElem?_getD, -Array.length_toList] at hc7
        refine gs12 ?_
        exact fin_val (v' := .bool t) rfl rfl rfl (congrArg Value.bool (by have hE : (M, t) = (nmL7 b).foldl chkS chk0 := Ba.fold_end chkS chk0 (nmL6 b) nmF6 (by omega) hS; unfold RNames; rw [← hE]))
end Go.Proofs.YtblfeidlnhdekaaGreat
