/- Lemmas. Conditions: those of each theorem. -/
import Derived.Test.YtnfmjfheciihjaaGreatDoorTJgP
import Derived.Test.YtnfmjfheciihjaaGreatDoorTLibB
import Derived.Test.YtnfmjfheciihjaaGreatDoorTOwnG
set_option maxRecDepth 8000
set_option maxHeartbeats 16000000
namespace Lx
theorem rt_ok {l : List UInt8} {a : Nat} (_ : 0 < l.length) (hk : (tk l).2.2.2.2 = true) : rt l a = (⟨((tk l).1 : Nat), txt l, a⟩, (tk l).2.2.2.1) := by
  unfold rt txt
  unfold tk at hk ⊢
  split at hk <;> rename_i h1
  · simp only [if_pos h1, if_pos (odT hk), List.drop_zero]; rfl
  · split at hk <;> rename_i h2
    · simp only [if_neg h1, if_pos h2, if_pos (odT hk), List.drop_zero]; rfl
    · split at hk <;> rename_i h3
      · have hk := odT hk
        have hq : quo l = run inS (l.drop 1) + 2 := by unfold quo; rw [if_pos hk]
        simp only [if_neg h1, if_neg h2, if_pos h3]
        rw [hq, if_neg (by omega)]; rfl
      · simp only [if_neg h1, if_neg h2, if_neg h3, List.drop_zero]; rfl
theorem rt_no {l : List UInt8} {a : Nat} (hk : (tk l).2.2.2.2 = false) : (rt l a).2 = 0 := by
  unfold rt
  unfold tk at hk
  split at hk <;> rename_i h1
  · simp only [if_pos h1, if_neg (odF hk)]
  · split at hk <;> rename_i h2
    · simp only [if_neg h1, if_pos h2, if_neg (odF hk)]
    · split at hk <;> rename_i h3
      · have hk := odF hk
        have hq : quo l = 0 := by unfold quo; rw [if_neg hk]
        simp only [if_neg h1, if_neg h2, if_pos h3, hq, if_true]
      · have := odF hk
        simp only [if_neg h1, if_neg h2, if_neg h3]
        omega
theorem stm_endP {s : List UInt8} : ∀ {k : Nat}, 0 < k → stm k s s.length = [(⟨4, [], s.length⟩, true)]
  | k + 1, _ => by unfold stm; rw [if_neg (by omega)]
def tokB (l : List UInt8) : Bool := decide ((scan l).2.1 = 0) && decide ((scan l).1.length = 2) && decide (((scan l).1.getD 0 default).Kind = 0) && decide (((scan l).1.getD 0 default).Text = l)
theorem run_all {p : UInt8 → Bool} : ∀ {l : List UInt8}, run p l = l.length → ∀ i, i < l.length → p (l.getD i 0) = true
  | [], _, i, hi => absurd hi (by simp)
  | c :: r, h, i, hi => by
    unfold run at h
    split at h
    · rename_i hc
      cases i with
      | zero => exact hc
      | succ i =>
        simp only [List.length_cons] at h hi
        rw [List.getD_cons_succ]
        exact run_all (by omega) i (by omega)
    · simp at h
theorem run_of_all {p : UInt8 → Bool} : ∀ {l : List UInt8}, (∀ i, i < l.length → p (l.getD i 0) = true) → run p l = l.length
  | [], _ => rfl
  | c :: r, h => by
    unfold run
    rw [if_pos (by simpa using h 0 (by simp)), run_of_all (l := r) fun i hi => by have := h (i + 1) (by simp; omega); rwa [List.getD_cons_succ] at this]
    simp
theorem nm_iff {l : List UInt8} : Ru.isNm l = true ↔ 0 < l.length ∧ l.length ≤ 24 ∧ isL (l.getD 0 0) = true ∧ run inN l = l.length := by
  have hA : ∀ c, Ru.nmA c = isL c := fun c => by
    unfold Ru.nmA isL
    rw [Bool.eq_iff_iff]; simp only [Bool.or_eq_true, Bool.and_eq_true, decide_eq_true_eq]
  have hN : ∀ c, (Ru.nmA c || (decide (c.toNat = 95) || (decide (48 ≤ c.toNat) && decide (c.toNat ≤ 57)))) = inN c := fun c => by
    rw [hA]; unfold inN isD
    rw [Bool.eq_iff_iff]; simp only [Bool.or_eq_true, Bool.and_eq_true, decide_eq_true_eq]
    constructor
    · rintro (h | h | h)
      · exact .inl (.inl h)
      · exact .inr h
      · exact .inl (.inr h)
    · rintro ((h | h) | h)
      · exact .inl h
      · exact .inr (.inr h)
      · exact .inr (.inl h)
  unfold Ru.isNm
  simp only [Bool.and_eq_true, decide_eq_true_eq, List.all_eq_true, List.mem_range]
  constructor
  · rintro ⟨⟨h1, h2⟩, h3⟩
    have h0 : 0 < l.length := List.length_pos_iff.2 h1
    have h4 := h3 0 h0
    unfold Ru.nmAt at h4
    have h5 : isL (l.getD 0 0) = true := by simpa [hA] using h4
    refine ⟨h0, h2, h5, run_of_all fun i hi => ?_⟩
    have h6 := h3 i hi
    unfold Ru.nmAt at h6
    by_cases hi0 : i = 0
    · subst hi0; unfold inN; rw [h5]; rfl
    · rw [decide_eq_true (show i ≠ 0 from hi0), Bool.true_and, hN] at h6; exact h6
  · rintro ⟨h0, h2, h5, h6⟩
    refine ⟨⟨List.length_pos_iff.1 h0, h2⟩, fun i hi => ?_⟩
    unfold Ru.nmAt
    by_cases hi0 : i = 0
    · subst hi0; rw [hA, h5]; rfl
    · rw [decide_eq_true (show i ≠ 0 from hi0), Bool.true_and, hN]; exact run_all h6 i hi
theorem scan_two {l : List UInt8} {ts : List Bt.Token} (h : scan l = (ts, 0, 0)) : ts = (seqT l).map (·.1) ∧ ∀ y ∈ seqT l, y.2 = true := by
  unfold scan at h
  split at h
  · cases h
  · split at h
    · cases h
    · rename_i hf
      injection h with h1 h2
      refine ⟨h1.symm, fun y hy => ?_⟩
      have := List.find?_eq_none.1 hf y hy
      simpa using this
theorem tokB_eq (l : List UInt8) : tokB l = Ru.isNm l := by
  rw [Bool.eq_iff_iff, nm_iff]
  unfold tokB
  simp only [Bool.and_eq_true, decide_eq_true_eq]
  constructor
  · rintro ⟨⟨⟨h1, h2⟩, h3⟩, h4⟩
    have hc : l.length ≤ 65536 := by
      rcases Nat.lt_or_ge 65536 l.length with h | h
      · unfold scan at h1; rw [if_pos h] at h1; cases h1
      · exact h
    have hs : ∃ ts, scan l = (ts, 0, 0) := by
      unfold scan at h1 ⊢
      rw [if_neg (by omega)] at h1 ⊢
      split at h1
      · cases h1
      · exact ⟨_, rfl⟩
    obtain ⟨ts, hs⟩ := hs
    obtain ⟨rfl, hall⟩ := scan_two hs
    rw [hs] at h2 h3 h4
    simp only [List.length_map] at h2
    unfold seqT at h2 h3 h4 hall
    rw [stm] at h2 h3 h4 hall
    by_cases ha : skp false l < l.length
    · rw [if_pos ha] at h2 h3 h4 hall
      have hk := hall _ (List.mem_cons_self ..)
      simp only [List.map_cons, List.getD_cons_zero] at h3 h4
      have hd : 0 < (l.drop (skp false l)).length := by rw [List.length_drop]; omega
      have h5 : skp false l = 0 := by
        have := congrArg List.length h4
        have h6 := txt_le (l.drop (skp false l))
        rw [List.length_drop] at h6
        omega
      rw [h5, List.drop_zero] at h3 h4 hk
      rw [h5, List.drop_zero] at hd
      have hK : isL (l.getD 0 0) = true := by
        cases hb : isL (l.getD 0 0) with
        | true => rfl
        | false =>
          unfold tk at h3
          rw [hb] at h3
          simp only [Bool.false_eq_true, if_false] at h3
          split at h3
          · exact absurd h3 (by simp)
          · split at h3
            · exact absurd h3 (by simp)
            · exact absurd h3 (by simp)
      have hT : tk l = (0, 0, run inN l, run inN l, decide (run inN l ≤ 24)) := by unfold tk; rw [if_pos hK]
      unfold txt at h4
      rw [hT] at h4 hk
      simp only [List.drop_zero, decide_eq_true_eq] at h4 hk
      have h7 := congrArg List.length h4
      rw [List.length_take] at h7
      have h8 := run_le inN l
      exact ⟨hd, by omega, hK, by omega⟩
    · rw [if_neg ha] at h2
      simp at h2
  · rintro ⟨h0, h24, hK, hR⟩
    have hT : tk l = (0, 0, l.length, l.length, true) := by unfold tk; rw [if_pos hK, hR, decide_eq_true h24]
    have h5 : skp false l = 0 := by
      have := skp_no (l := l) (k := 0) h0 (by unfold ws; unfold isL at hK; have := odT hK; exact decide_eq_false (by omega)) (by unfold isL at hK; have := odT hK; omega)
      rwa [List.drop_zero] at this
    have hq : seqT l = [(⟨0, l, 0⟩, true), (⟨4, [], l.length⟩, true)] := by
      unfold seqT
      rw [h5, stm, if_pos h0, List.drop_zero]
      unfold txt
      rw [hT]
      simp only [if_true, List.drop_zero, List.take_length, Nat.zero_add]
      rw [show skp false (l.drop l.length) = 0 from skp_end (Nat.le_refl _)]
      rw [Nat.add_zero, stm_endP h0]; rfl
    have hs : scan l = ([⟨0, l, 0⟩, ⟨4, [], l.length⟩], 0, 0) := by
      unfold scan; rw [if_neg (by omega), hq]; rfl
    rw [hs]
    exact ⟨⟨⟨rfl, rfl⟩, rfl⟩, rfl⟩
end Lx
namespace Go.Proofs.YtnfmjfheciihjaaGreatDoor
open Go Go.K Go.RowKit
attribute [local irreducible] AW RW DW Post Qt
theorem fScan_c (w : World) (Φ : Hp) (hΦ : Hp.le Φ (hp w)) {l : List UInt8} (hl : l.length ≤ maxLen) :
    Calls pg 109 #[.string (bs l)] w (RetS Φ w fun r Ψ => ∃ y : Option Addr × Nat, r = .tuple #[.slice y.1 (Lx.scan l).1.length y.2, .int .i64 (Lx.scan l).2.1, .int .i64 (Lx.scan l).2.2] ∧ RepSl Ψ (Lx.scan l).1 (.slice y.1 (Lx.scan l).1.length y.2)) := by
  refine calls_of_AW (args := [.string (bs l)]) Tryz.func109 rfl (lBT rfl) (St ⟨w, Φ, []⟩ Φ []) (StP.init w Φ hΦ []) ?_
  show AW _ _ [] _ _ _ [(0, .string (bs l))] _
  repeat refine gs1 ?_
  refine RW.q rfl (q_lenS (l := l) rfl Tryz.underlying9) ?_
  repeat refine gs1 ?_
  refine AW.cond rfl (fun h => ?_) fun h => ?_
  · have h : 65536 < l.length := by have := odT h; omega
    have hsc : Lx.scan l = ([], 8, 0) := by unfold Lx.scan; rw [if_pos h]
    repeat refine gs1 ?_
    exact fin_res (vs := [.slice none 0 0, .int .i64 8, .int .i64 0]) rfl rfl ⟨.tmp rfl, .tmp rfl, .tmp rfl, trivial⟩ rfl (fun w' hw => ⟨_, rfl, hw.below rfl, (none, 0), by rw [hsc]; rfl, by rw [hsc]; exact repSl_nil⟩)
  have h : l.length ≤ 65536 := by have := odF h; omega
  have hl2 : l.length ≤ 1099511627776 := by omega
  repeat refine gs1 ?_
  refine RW.q (v := .int .i64 ((Lx.skp false l : Nat) : Int)) rfl (q_as (q_call (args := #[.string (bs l), .int .i64 ((0 : Nat) : Int)]) oK rfl rfl (fun w1 hw1 => fskip_c w1 (hp w1) (Hp.le_refl _) hl2 (Nat.zero_le _))) (by rw [List.drop_zero, Nat.zero_add])) ?_
  repeat refine gs1 ?_
  have hsl := Lx.skp_le false l
  refine AW.loop (fun s J q => ∃ (i k : Nat) (v : Value) (pre : List Bt.Token), s = [(0, .string (bs l)), (5, v), (6, .int .i64 (i : Int))] ∧ J = St ⟨w, Φ, []⟩ Φ [.row v 134 3 pre.length (flat pre)] ∧ q = l.length - i ∧ i ≤ l.length ∧ IsSl v pre.length ∧ pre.length ≤ i ∧ l.length - i < k ∧ Lx.seqT l = pre.map (fun t => (t, true)) ++ Lx.stm k l i ∧ ∀ t ∈ pre, RepE.wf t) (s0 := [(0, .string (bs l)), (5, .slice none 0 0), (6, .int .i64 ((Lx.skp false l : Nat) : Int))]) (J1 := _) (m0 := _) ⟨Lx.skp false l, l.length + 1, .slice none 0 0, [], rfl, rfl, rfl, hsl, ⟨none, 0, rfl, fun h => absurd h (Nat.lt_irrefl _), Nat.le_refl _⟩, Nat.zero_le _, by omega, rfl, fun t ht => by cases ht⟩ ⟨rfl, rfl, rfl, trivial⟩ (fun _ h => StP.nilRow h _ _) ?_
  rintro _ _ _ _ ⟨i, k, v, pre, rfl, rfl, rfl, hi, hv, hpi, hk, hS, hwf⟩
  repeat refine gs1 ?_
  refine RW.q rfl (q_lenS (l := l) rfl Tryz.underlying9) ?_
  repeat refine gs1 ?_
  refine AW.cond rfl (fun hc => ?_) fun hc => ?_
  · have hc : i < l.length := by have := odT hc; omega
    have hdl : 0 < (l.drop i).length := by rw [List.length_drop]; omega
    obtain ⟨k, rfl⟩ : ∃ k', k = k' + 1 := ⟨k - 1, by omega⟩
    rw [Lx.stm, if_pos hc] at hS
    repeat refine gs1 ?_
    have hrn := Lx.rt_no (l := l.drop i) (a := i)
    have hro := Lx.rt_ok (l := l.drop i) (a := i) hdl
    obtain ⟨⟨⟨tk, tt, ta⟩, tn⟩, hr⟩ : ∃ r, Lx.rt (l.drop i) i = r := ⟨_, rfl⟩
    rw [hr] at hrn hro
    simp only at hrn
    refine RW.q (v := .tuple #[.agg #[.int .i64 tk, .string (bs tt), .int .i64 ta], .int .i64 (tn : Int)]) rfl (q_as (q_call (args := #[.string (bs l), .int .i64 (i : Int)]) oK rfl rfl (fun w1 hw1 => ftoken_c w1 (hp w1) (Hp.le_refl _) hl2 hc)) (by rw [hr])) ?_
    repeat refine gs1 ?_
    refine RW.alc rfl fun b7 => ?_
    refine RW.effn (J' := St ⟨w, Φ, []⟩ Φ [.blk b7 134 [.int .i64 tk, .string (bs tt), .int .i64 ta], .row v 134 3 pre.length (flat pre)]) (e_stA (cs' := [.int .i64 tk, .string (bs tt), .int .i64 ta]) 0 rfl rfl rfl rfl rfl rfl) ?_
    repeat refine gs1 ?_
    refine AW.cond rfl (fun hz => ?_) fun hz => ?_
    · have hz : tn = 0 := by have := odT hz; omega
      have hbad : (Lx.tk (l.drop i)).2.2.2.2 = false := by
        cases hb : (Lx.tk (l.drop i)).2.2.2.2 with
        | false => rfl
        | true =>
          have h1 := congrArg Prod.snd (hro hb)
          have h2 := (Lx.tk_ok hdl hb).1
          simp only at h1; omega
      have hsc : Lx.scan l = ([], 2, (i : Int)) := Lx.scan_bad h (y := (⟨((Lx.tk (l.drop i)).1 : Nat), Lx.txt (l.drop i), (i : Nat)⟩, (Lx.tk (l.drop i)).2.2.2.2)) (by rw [hS]; exact List.mem_append_right _ (List.mem_cons_self ..)) hbad
      repeat refine gs1 ?_
      exact fin_res (vs := [.slice none 0 0, .int .i64 2, .int .i64 (i : Int)]) rfl rfl ⟨.tmp rfl, .tmp rfl, .tmp rfl, trivial⟩ rfl (fun w' hw => ⟨_, rfl, hw.below rfl, (none, 0), by rw [hsc]; rfl, by rw [hsc]; exact repSl_nil⟩)
    have hz : tn ≠ 0 := by have := odF hz; omega
    have hgood : (Lx.tk (l.drop i)).2.2.2.2 = true := by
      cases hb : (Lx.tk (l.drop i)).2.2.2.2 with
      | true => rfl
      | false => exact absurd (hrn hb) hz
    have hro := hro hgood
    have htn := congrArg Prod.snd hro
    have htk := congrArg Prod.fst hro
    simp only at htn htk
    rw [hgood, if_pos rfl, ← htn] at hS
    have hle := (Lx.tk_ok hdl hgood).2
    rw [← htn, List.length_drop] at hle
    have htl := Lx.txt_le (l.drop i)
    rw [List.length_drop] at htl
    have hwft : RepE.wf (⟨tk, tt, ta⟩ : Bt.Token) := by
      rw [htk]
      refine ⟨?_, ?_, ?_⟩
      · have := Lx.tk_kind (l.drop i); unfold I64; simp only []; omega
      · simp only []; omega
      · unfold I64; simp only []; omega
    rw [← htk] at hS
    have hsk := Lx.skp_le false (l.drop (i + tn))
    rw [List.length_drop] at hsk
    repeat refine gs1 ?_
    refine RW.eff _ _ rfl (e_buildSlice (vals := [(0, .agg #[.int .i64 tk, .string (bs tt), .int .i64 ta])]) (cells := [.int .i64 tk, .string (bs tt), .int .i64 ta]) Tryz.underlying95 inf134 rfl rfl rfl (by kernel_rfl) rfl) fun b8 => ?_
    refine RW.eff (fun xv : {vq : Value // IsSl vq (pre.length + 1)} => xv.1) (fun xv => St ⟨w, Φ, []⟩ Φ [.row (.slice (some ⟨b8, 0, none⟩) 1 1) 134 3 1 [.int .i64 tk, .string (bs tt), .int .i64 ta], .blk b7 134 [.int .i64 tk, .string (bs tt), .int .i64 ta], .row xv.1 134 3 (pre.length + 1) (flat pre ++ [.int .i64 tk, .string (bs tt), .int .i64 ta])]) rfl (e_append 2 rfl rfl rfl Tryz.underlying95 inf134 rfl rfl rfl (Cells.row0 0 rfl) rfl (by omega) (by omega) (fun _ => rfl)) ?_
    rintro ⟨v2, hv2⟩
    repeat refine gs1 ?_
    refine RW.q (v := .int .i64 ((i + tn + Lx.skp false (l.drop (i + tn)) : Nat) : Int)) rfl (q_call (args := #[.string (bs l), .int .i64 ((i + tn : Nat) : Int)]) oK rfl rfl (fun w1 hw1 => fskip_c w1 (hp w1) (Hp.le_refl _) hl2 (by omega))) ?_
    repeat refine gs1 ?_
    exact Post.back (s' := _) (J' := _) (m' := _) (by omega) ⟨i + tn + Lx.skp false (l.drop (i + tn)), k, v2, pre ++ [⟨tk, tt, ta⟩], rfl, rfl, rfl, by omega, by rw [List.length_append]; exact hv2, by rw [List.length_append]; simp; omega, by omega, by rw [hS, List.map_append]; simp, fun t ht => by
      rcases List.mem_append.1 ht with h1 | h1
      · exact hwf t h1
      · rw [List.mem_singleton.1 h1]; exact hwft⟩ ⟨rfl, rfl, rfl, trivial⟩ (fun _ h => by rw [List.length_append, flat_append]; exact StP.sel h [2] (by decide) rfl)
  have hc : i = l.length := by have := odF hc; omega
  subst hc
  rw [Lx.stm_endP (by omega)] at hS
  have hsc : Lx.scan l = (pre ++ [⟨4, [], l.length⟩], 0, 0) := by
    rw [Lx.scan_ok h (fun y hy => by
      rw [hS] at hy
      rcases List.mem_append.1 hy with h1 | h1
      · obtain ⟨z, _, rfl⟩ := List.mem_map.1 h1; rfl
      · rw [List.mem_singleton.1 h1]), hS, List.map_append, List.map_map]
    have : pre.map ((fun x : Bt.Token × Bool => x.1) ∘ fun t => (t, true)) = pre := List.map_id pre
    rw [this]; rfl
  have hwf2 : ∀ t ∈ pre ++ [(⟨4, [], l.length⟩ : Bt.Token)], RepE.wf t := fun t ht => by
    rcases List.mem_append.1 ht with h1 | h1
    · exact hwf t h1
    · rw [List.mem_singleton.1 h1]
      refine ⟨?_, ?_, ?_⟩
      · unfold I64; simp only []; omega
      · simp
      · unfold I64; simp only []; omega
  repeat refine gs1 ?_
  refine RW.q (v := .int .i64 ((l.length : Nat) : Int)) rfl (q_lenS (l := l) rfl Tryz.underlying9) ?_
  refine RW.q (v := .agg #[.int .i64 4, .string (bs []), .int .i64 ((l.length : Nat) : Int)]) rfl (q_build (vals := [(0, .int .i64 4), (2, .int .i64 ((l.length : Nat) : Int))]) zero134 Tryz.underlying134 places134 rfl (by kernel_rfl)) ?_
  refine RW.eff _ _ rfl (e_buildSlice (vals := [(0, .agg #[.int .i64 4, .string (bs []), .int .i64 ((l.length : Nat) : Int)])]) (cells := [.int .i64 4, .string (bs []), .int .i64 ((l.length : Nat) : Int)]) Tryz.underlying95 inf134 rfl rfl rfl (by kernel_rfl) rfl) fun b8 => ?_
  refine RW.eff (fun xv : {vq : Value // IsSl vq (pre.length + 1)} => xv.1) (fun xv => St ⟨w, Φ, []⟩ Φ [.row (.slice (some ⟨b8, 0, none⟩) 1 1) 134 3 1 [.int .i64 4, .string (bs []), .int .i64 ((l.length : Nat) : Int)], .row xv.1 134 3 (pre.length + 1) (flat pre ++ [.int .i64 4, .string (bs []), .int .i64 ((l.length : Nat) : Int)])]) rfl (e_append 1 rfl rfl rfl Tryz.underlying95 inf134 rfl rfl rfl (Cells.row0 0 rfl) rfl (by omega) (by omega) (fun _ => rfl)) ?_
  rintro ⟨v2, hv2⟩
  obtain ⟨vA, vc, rfl, _⟩ := hv2
  repeat refine gs1 ?_
  exact fin_res (vs := [.slice vA (pre.length + 1) vc, .int .i64 0, .int .i64 0]) rfl rfl ⟨.tmp rfl, .tmp rfl, .tmp rfl, trivial⟩ rfl (fun w' hw => ⟨_, rfl, hw.below rfl, (vA, vc), by rw [hsc, List.length_append]; rfl, by
    rw [hsc]
    have hr : RowS (ext Φ w.heap.size w') (.slice vA (pre.length + 1) vc) 134 3 (pre.length + 1) (flat (pre ++ [(⟨4, [], l.length⟩ : Bt.Token)])) := by rw [flat_append]; exact row_ext hw 1 rfl
    rw [List.length_append]
    exact RowS.repE evenTok hr (by rw [List.length_append]; rfl) (by simp only [maxSl]; show (pre.length + 1) * 32 ≤ _; omega) hwf2⟩)
theorem fToken_c (w : World) (Φ : Hp) (hΦ : Hp.le Φ (hp w)) {l : List UInt8} (hl : l.length ≤ maxLen) :
    Calls pg 85 #[.string (bs l)] w fun e w' => e = .returned (.bool (Ru.isNm l)) ∧ Bel w.heap.size w w' := by
  refine calls_of_AW (args := [.string (bs l)]) Tryz.func85 rfl (lBT rfl) (St ⟨w, Φ, []⟩ Φ []) (StP.init w Φ hΦ []) ?_
  show AW _ _ [] _ _ _ [(0, .string (bs l))] _
  rw [← Lx.tokB_eq]
  repeat refine gs1 ?_
  refine RW.eff _ _ rfl (e_callS (args := #[.string (bs l)]) oK rfl rfl (fun w1 hw1 => fScan_c w1 Φ hw1.phi hl)) ?_
  rintro ⟨⟨v, Ψ⟩, ⟨⟨sA, sc⟩, hv, hs⟩, hle⟩
  simp only at hv hs hle ⊢
  subst hv
  have hsl := hs.sl
  obtain ⟨⟨ts, c, o⟩, hR⟩ : ∃ r, Lx.scan l = r := ⟨_, rfl⟩
  unfold Lx.tokB
  rw [hR] at hs hsl ⊢
  simp only at hs hsl ⊢
  repeat refine gs1 ?_
  obtain ⟨c2, hc2⟩ : ∃ b, b = (decide (c = 0) && decide ((ts.length : Int) = 2)) := ⟨_, rfl⟩
  obtain ⟨c3, hc3⟩ : ∃ b, b = (c2 && decide ((ts.getD 0 default).Kind = 0)) := ⟨_, rfl⟩
  have hln : c2 = true → 0 < ts.length := fun h => by
    rw [hc2] at h
    have := odT (Bool.and_eq_true_iff.1 h).2
    omega
  have hln3 : c3 = true → 0 < ts.length := fun h => hln (by rw [hc3] at h; exact (Bool.and_eq_true_iff.1 h).1)
  refine RW.g (b := decide (c = 0)) (v := .int .i64 (ts.length : Int)) rfl rfl rfl (fun h => q_len_sl (gv_pos h) hsl Tryz.underlying95) ?_
  refine RW.g (b := decide (c = 0)) (v := .bool (decide ((ts.length : Int) = 2))) rfl rfl rfl (fun h => q_eql (gv_pos h) rfl) ?_
  refine RW.q (v := .bool c2) rfl (q_as (qpA rfl rfl rfl) (congrArg Value.bool hc2.symm)) ?_
  refine RW.q rfl (q_move rfl) ?_
  refine RW.g (b := c2) rfl rfl rfl (fun _ => q_move rfl) ?_
  refine RW.g (b := c2) (v := .pointer (some (Value.at (.slice sA ts.length sc) (0 * 3)))) rfl rfl rfl (fun h => qa_ixL (n := ts.length) (i := 0) (gv_pos h) rfl hsl (hln h)) ?_
  refine RW.g (b := c2) (v := .pointer (some (Value.at (.slice sA ts.length sc) (0 * 3 + 0)))) rfl rfl rfl (fun h => qa_fat (gv_pos h)) ?_
  refine RW.g (b := c2) (v := .int .i64 (ts.getD 0 default).Kind) rfl rfl rfl (fun h => qa_ld (gv_pos h) (Cell.repE hs (hln h) rfl)) ?_
  refine RW.g (b := c2) (v := .bool (decide ((ts.getD 0 default).Kind = 0))) rfl rfl rfl (fun h => q_eql (gv_pos h) rfl) ?_
  refine RW.q (v := .bool c3) rfl (q_as (qpA rfl rfl rfl) (congrArg Value.bool hc3.symm)) ?_
  refine RW.q rfl (q_move rfl) ?_
  refine RW.g (b := c3) rfl rfl rfl (fun _ => q_move rfl) ?_
  refine RW.g (b := c3) (v := .pointer (some (Value.at (.slice sA ts.length sc) (0 * 3)))) rfl rfl rfl (fun h => qa_ixL (n := ts.length) (i := 0) (gv_pos h) rfl hsl (hln3 h)) ?_
  refine RW.g (b := c3) (v := .pointer (some (Value.at (.slice sA ts.length sc) (0 * 3 + 1)))) rfl rfl rfl (fun h => qa_fat (gv_pos h)) ?_
  refine RW.g (b := c3) (v := .string (bs (ts.getD 0 default).Text)) rfl rfl rfl (fun h => qa_ld (gv_pos h) (Cell.repE hs (hln3 h) rfl)) ?_
  refine RW.g (b := c3) rfl rfl rfl (fun _ => q_move rfl) ?_
  refine RW.g (b := c3) (v := .bool (decide ((ts.getD 0 default).Text = l))) rfl rfl rfl (fun h => q_eqlStr (gv_pos h) (gv_pos h)) ?_
  refine RW.q (v := .bool (c3 && decide ((ts.getD 0 default).Text = l))) rfl (qpA rfl rfl rfl) ?_
  repeat refine gs1 ?_
  exact fin_res (vs := [.bool (c3 && decide ((ts.getD 0 default).Text = l))]) rfl rfl ⟨.tmp rfl, trivial⟩ rfl (fun w' hw => ⟨by
    subst hc3 hc2
    have h2 : decide ((ts.length : Int) = 2) = decide (ts.length = 2) := decide_eq_decide.2 (by omega)
    rw [h2]; rfl, (StP.less hw (Hp.le_refl _)).below rfl⟩)
end Go.Proofs.YtnfmjfheciihjaaGreatDoor
namespace Ru
open Go Go.K Bt
abbrev pB (b : Nat) : Value := .pointer (some ⟨b, 0, none⟩)
abbrev nC (k n o q a : Int) (nm ow : Token) (kv : Value) : List Value := [iV k, iV n, iV o, iV q, iV a, iV nm.Kind, .string (bs nm.Text), iV nm.At, iV ow.Kind, .string (bs ow.Text), iV ow.At, kv]
def wfK (t : Token) : Prop := I64 t.Kind ∧ t.Text.length ≤ 65536 ∧ I64 t.At
def wfH (k n o q a : Int) (nm ow : Token) : Prop := I64 k ∧ I64 n ∧ I64 o ∧ I64 q ∧ I64 a ∧ wfK nm ∧ wfK ow
def TrF (H : Hp) : Nd → Nat → List Nat → Prop
 | ⟨k, n, o, q, a, nm, ow, ks⟩, b, F => ∃ kv l G, H b = some (.cells (nC k n o q a nm ow kv).toArray 153 (0, 0)) ∧ RowS H kv 145 1 ks.length (l.map pB) ∧ TrL H ks l G ∧ F = b :: (blks kv ++ G) ∧ wfH k n o q a nm ow
where TrL (H : Hp) : List Nd → List Nat → List Nat → Prop
 | [], l, F => l = [] ∧ F = []
 | x :: xs, l, F => ∃ b l2 F1 F2, l = b :: l2 ∧ F = F1 ++ F2 ∧ TrF H x b F1 ∧ TrL H xs l2 F2
abbrev TrL := TrF.TrL
mutual
theorem TrF.loc {Φ Ψ : Hp} : ∀ (x : Nd) (b : Nat) (F : List Nat), (∀ b ∈ F, Ψ b = Φ b) → TrF Φ x b F → TrF Ψ x b F
 | ⟨k, n, o, q, a, nm, ow, ks⟩, b, F, h, ⟨kv, l, G, h1, h2, h3, h4, h5⟩ => by
  subst h4
  refine ⟨kv, l, G, (h b (List.mem_cons_self ..)).trans h1, ?_, TrL.loc ks l G (fun b hb => h b (List.mem_cons_of_mem _ (List.mem_append_right _ hb))) h3, rfl, h5⟩
  exact (Chunk.row kv 145 1 ks.length (l.map pB)).loc Φ Ψ (fun b hb => h b (List.mem_cons_of_mem _ (List.mem_append_left _ hb))) h2
theorem TrL.loc {Φ Ψ : Hp} : ∀ (xs : List Nd) (l F : List Nat), (∀ b ∈ F, Ψ b = Φ b) → TrL Φ xs l F → TrL Ψ xs l F
 | [], _, _, _, h => h
 | x :: xs, l, F, h, ⟨b, l2, F1, F2, h1, h2, h3, h4⟩ => by
  subst h2
  exact ⟨b, l2, F1, F2, h1, rfl, TrF.loc x b F1 (fun b hb => h b (List.mem_append_left _ hb)) h3, TrL.loc xs l2 F2 (fun b hb => h b (List.mem_append_right _ hb)) h4⟩
end
mutual
theorem TrF.dom {Φ : Hp} : ∀ (x : Nd) (b : Nat) (F : List Nat), TrF Φ x b F → ∀ c ∈ F, Φ c ≠ none
 | ⟨k, n, o, q, a, nm, ow, ks⟩, b, F, ⟨kv, l, G, h1, h2, h3, h4, h5⟩, c, hc => by
  subst h4
  rcases List.mem_cons.1 hc with rfl | hc
  ·
   rw [h1]; simp
  ·
   rcases List.mem_append.1 hc with hc | hc
   ·
    exact (Chunk.row kv 145 1 ks.length (l.map pB)).dom Φ h2 c hc
   ·
    exact TrL.dom ks l G h3 c hc
theorem TrL.dom {Φ : Hp} : ∀ (xs : List Nd) (l F : List Nat), TrL Φ xs l F → ∀ c ∈ F, Φ c ≠ none
 | [], l, F, h, c, hc => by rw [h.2] at hc; cases hc
 | x :: xs, l, F, ⟨b, l2, F1, F2, h1, h2, h3, h4⟩, c, hc => by
  subst h2
  rcases List.mem_append.1 hc with hc | hc
  ·
   exact TrF.dom x b F1 h3 c hc
  ·
   exact TrL.dom xs l2 F2 h4 c hc
end
theorem TrL.app {H : Hp} : ∀ {xs ys : List Nd} {l m F G : List Nat}, TrL H xs l F → TrL H ys m G → TrL H (xs ++ ys) (l ++ m) (F ++ G)
 | [], _, _, _, _, _, h, k => by rw [h.1, h.2]; exact k
 | _ :: _, _, _, _, _, _, ⟨b, l2, F1, F2, h1, h2, h3, h4⟩, k => ⟨b, _, F1, _, by rw [h1, List.cons_append], by rw [h2, List.append_assoc], h3, TrL.app h4 k⟩
def tr (x : Nd) (b : Nat) (F : List Nat) : Chunk := ⟨F, fun H => TrF H x b F ∧ F.Nodup, fun _ _ h hs => ⟨TrF.loc x b F h hs.1, hs.2⟩, fun _ hs => TrF.dom x b F hs.1⟩
def trs (xs : List Nd) (l F : List Nat) : Chunk := ⟨F, fun H => TrL H xs l F ∧ F.Nodup, fun _ _ h hs => ⟨TrL.loc xs l F h hs.1, hs.2⟩, fun _ hs => TrL.dom xs l F hs.1⟩
variable {B : Bs} {Φ Ψ : Hp} {C : List Chunk} {w : World}
theorem blks_nodup (v : Value) : (blks v).Nodup := by
 unfold blks; split <;> simp
theorem tr_join {k n o q a : Int} {nm ow : Token} {ks : List Nd} {b : Nat} {G l : List Nat} {kv : Value} (hwf : wfH k n o q a nm ow) (h : StP B Φ (.blk b 153 (nC k n o q a nm ow kv) :: .row kv 145 1 ks.length (l.map pB) :: trs ks l G :: C) w) :
  StP B Φ (tr ⟨k, n, o, q, a, nm, ow, ks⟩ b (b :: (blks kv ++ G)) :: C) w := by
 have h1 := h.sat _ (List.mem_cons_self ..)
 have h2 := h.sat _ (List.mem_cons_of_mem _ (List.mem_cons_self ..))
 have h3 := h.sat _ (List.mem_cons_of_mem _ (List.mem_cons_of_mem _ (List.mem_cons_self ..)))
 obtain ⟨s1, s2⟩ := List.pairwise_cons.1 h.sep
 obtain ⟨s3, _⟩ := List.pairwise_cons.1 s2
 refine StP.recut (C1 := [.blk b 153 (nC k n o q a nm ow kv), .row kv 145 1 ks.length (l.map pB), trs ks l G]) (C2 := [tr ⟨k, n, o, q, a, nm, ow, ks⟩ b (b :: (blks kv ++ G))]) h ?_ (List.pairwise_singleton ..) ?_
 ·
  intro c hc
  obtain rfl := List.mem_singleton.1 hc
  refine ⟨⟨kv, l, G, h1, h2, h3.1, rfl, hwf⟩, List.nodup_cons.2 ⟨fun hm => ?_, List.nodup_append.2 ⟨blks_nodup kv, h3.2, fun c hc d hd e => ?_⟩⟩⟩
  ·
   rcases List.mem_append.1 hm with hm | hm
   ·
    exact s1 _ (List.mem_cons_self ..) b (List.mem_singleton.2 rfl) hm
   ·
    exact s1 _ (List.mem_cons_of_mem _ (List.mem_cons_self ..)) b (List.mem_singleton.2 rfl) hm
  ·
   subst e
   exact s3 _ (List.mem_cons_self ..) c hc hd
 ·
  intro c hc
  simpa [Chunk.blk, Chunk.row, trs, tr] using hc
theorem trs_nil (h : StP B Φ C w) : StP B Φ (trs [] [] [] :: C) w :=
 StP.recut (C1 := []) (C2 := [trs [] [] []]) h (fun c hc => by obtain rfl := List.mem_singleton.1 hc; exact ⟨⟨rfl, rfl⟩, List.nodup_nil⟩) (List.pairwise_singleton ..) (fun c hc => by simp [trs] at hc)
theorem trs_one {x : Nd} {b : Nat} {F : List Nat} (h : StP B Φ (tr x b F :: C) w) : StP B Φ (trs [x] [b] F :: C) w :=
 StP.recut (C1 := [tr x b F]) (C2 := [trs [x] [b] F]) h (fun c hc => by
  obtain rfl := List.mem_singleton.1 hc
  obtain ⟨h1, h2⟩ := h.sat _ (List.mem_cons_self ..)
  exact ⟨⟨b, [], F, [], rfl, (List.append_nil _).symm, h1, rfl, rfl⟩, h2⟩) (List.pairwise_singleton ..) (fun c hc => by simpa [trs, tr] using hc)
theorem trs_app {xs ys : List Nd} {l m F G : List Nat} (h : StP B Φ (trs xs l F :: trs ys m G :: C) w) : StP B Φ (trs (xs ++ ys) (l ++ m) (F ++ G) :: C) w :=
 StP.recut (C1 := [trs xs l F, trs ys m G]) (C2 := [trs (xs ++ ys) (l ++ m) (F ++ G)]) h (fun c hc => by
  obtain rfl := List.mem_singleton.1 hc
  obtain ⟨h1, h2⟩ := h.sat _ (List.mem_cons_self ..)
  obtain ⟨h3, h4⟩ := h.sat _ (List.mem_cons_of_mem _ (List.mem_cons_self ..))
  refine ⟨TrL.app h1 h3, List.nodup_append.2 ⟨h2, h4, fun c hc d hd e => ?_⟩⟩
  subst e
  exact (List.pairwise_cons.1 h.sep).1 _ (List.mem_cons_self ..) c hc hd) (List.pairwise_singleton ..) (fun c hc => by simpa [trs, tr] using hc)
theorem tr_join0 {k n o q a : Int} {nm ow : Token} {b : Nat} (hwf : wfH k n o q a nm ow) (h : StP B Φ (.blk b 153 (nC k n o q a nm ow nS) :: C) w) :
  StP B Φ (tr ⟨k, n, o, q, a, nm, ow, []⟩ b [b] :: C) w :=
 tr_join (kv := .slice none 0 0) (ks := []) (l := []) (G := []) hwf ((addNil (T := 145) (sz := 1) (trs_nil h)).perm (List.perm_middle (l₁ := [_, _])).symm)
theorem tr_join1 {k n o q a : Int} {nm ow : Token} {x : Nd} {b b1 : Nat} {F1 : List Nat} {kv : Value} (hwf : wfH k n o q a nm ow) (h : StP B Φ (.blk b 153 (nC k n o q a nm ow kv) :: .row kv 145 1 1 [pB b1] :: tr x b1 F1 :: C) w) :
  ∃ F, StP B Φ (tr ⟨k, n, o, q, a, nm, ow, [x]⟩ b F :: C) w :=
 ⟨_, tr_join (ks := [x]) (l := [b1]) hwf ((trs_one (h.perm (List.perm_middle (l₁ := [_, _])).symm)).perm (List.perm_middle (l₁ := [_, _])))⟩
theorem tr_join2 {k n o q a : Int} {nm ow : Token} {x y : Nd} {b b1 b2 : Nat} {F1 F2 : List Nat} {kv : Value} (hwf : wfH k n o q a nm ow) (h : StP B Φ (.blk b 153 (nC k n o q a nm ow kv) :: .row kv 145 1 2 [pB b1, pB b2] :: tr x b1 F1 :: tr y b2 F2 :: C) w) :
  ∃ F, StP B Φ (tr ⟨k, n, o, q, a, nm, ow, [x, y]⟩ b F :: C) w := by
 have h1 := trs_one (h.perm (List.perm_middle (l₁ := [_, _])).symm)
 have h2 := trs_one (h1.perm (List.perm_middle (l₁ := [_, _, _])).symm)
 have h3 := trs_app (h2.perm (List.Perm.swap _ _ _))
 exact ⟨_, tr_join (ks := [x, y]) (l := [b1, b2]) hwf (h3.perm (List.perm_middle (l₁ := [_, _])))⟩
theorem tr_join3 {k n o q a : Int} {nm ow : Token} {x y z : Nd} {b b1 b2 b3 : Nat} {F1 F2 F3 : List Nat} {kv : Value} (hwf : wfH k n o q a nm ow) (h : StP B Φ (.blk b 153 (nC k n o q a nm ow kv) :: .row kv 145 1 3 [pB b1, pB b2, pB b3] :: tr x b1 F1 :: tr y b2 F2 :: tr z b3 F3 :: C) w) :
  ∃ F, StP B Φ (tr ⟨k, n, o, q, a, nm, ow, [x, y, z]⟩ b F :: C) w := by
 have h1 := trs_one (h.perm (List.perm_middle (l₁ := [_, _])).symm)
 have h2 := trs_one (h1.perm (List.perm_middle (l₁ := [_, _, _])).symm)
 have h3 := trs_app (h2.perm (List.Perm.swap _ _ _))
 have h4 := trs_one (h3.perm (List.perm_middle (l₁ := [_, _, _])).symm)
 have h5 := trs_app (h4.perm (List.Perm.swap _ _ _))
 exact ⟨_, tr_join (ks := [x, y, z]) (l := [b1, b2, b3]) hwf (h5.perm (List.perm_middle (l₁ := [_, _])))⟩
theorem tr_fin0 {k n o q a : Int} {nm ow : Token} {b : Nat} {cp : Chunk} (is : List Nat) (hn : is.Nodup) (hi : is.map (C[·]?) = [some (.blk b 153 (nC k n o q a nm ow nS)), some cp]) (hwf : wfH k n o q a nm ow) (h : StP B Φ C w) :
  ∃ F, StP B Φ [cp, tr ⟨k, n, o, q, a, nm, ow, []⟩ b F] w :=
 ⟨_, (tr_join0 hwf (h.sel (C' := [.blk b 153 (nC k n o q a nm ow nS), cp]) is hn hi)).sel [1, 0] (by decide) rfl⟩
theorem tr_fin1 {k n o q a : Int} {nm ow : Token} {x : Nd} {b b1 : Nat} {F1 : List Nat} {kv : Value} {cp : Chunk} (is : List Nat) (hn : is.Nodup) (hi : is.map (C[·]?) = [some (.blk b 153 (nC k n o q a nm ow kv)), some (.row kv 145 1 1 [pB b1]), some (tr x b1 F1), some cp]) (hwf : wfH k n o q a nm ow) (h : StP B Φ C w) :
  ∃ F, StP B Φ [cp, tr ⟨k, n, o, q, a, nm, ow, [x]⟩ b F] w := by
 obtain ⟨F, hF⟩ := tr_join1 hwf (h.sel (C' := [.blk b 153 (nC k n o q a nm ow kv), .row kv 145 1 1 [pB b1], tr x b1 F1, cp]) is hn hi)
 exact ⟨F, hF.sel [1, 0] (by decide) rfl⟩
theorem tr_fin2 {k n o q a : Int} {nm ow : Token} {x y : Nd} {b b1 b2 : Nat} {F1 F2 : List Nat} {kv : Value} {cp : Chunk} (is : List Nat) (hn : is.Nodup) (hi : is.map (C[·]?) = [some (.blk b 153 (nC k n o q a nm ow kv)), some (.row kv 145 1 2 [pB b1, pB b2]), some (tr x b1 F1), some (tr y b2 F2), some cp]) (hwf : wfH k n o q a nm ow) (h : StP B Φ C w) :
  ∃ F, StP B Φ [cp, tr ⟨k, n, o, q, a, nm, ow, [x, y]⟩ b F] w := by
 obtain ⟨F, hF⟩ := tr_join2 hwf (h.sel (C' := [.blk b 153 (nC k n o q a nm ow kv), .row kv 145 1 2 [pB b1, pB b2], tr x b1 F1, tr y b2 F2, cp]) is hn hi)
 exact ⟨F, hF.sel [1, 0] (by decide) rfl⟩
theorem tr_fin3 {k n o q a : Int} {nm ow : Token} {x y z : Nd} {b b1 b2 b3 : Nat} {F1 F2 F3 : List Nat} {kv : Value} {cp : Chunk} (is : List Nat) (hn : is.Nodup) (hi : is.map (C[·]?) = [some (.blk b 153 (nC k n o q a nm ow kv)), some (.row kv 145 1 3 [pB b1, pB b2, pB b3]), some (tr x b1 F1), some (tr y b2 F2), some (tr z b3 F3), some cp]) (hwf : wfH k n o q a nm ow) (h : StP B Φ C w) :
  ∃ F, StP B Φ [cp, tr ⟨k, n, o, q, a, nm, ow, [x, y, z]⟩ b F] w := by
 obtain ⟨F, hF⟩ := tr_join3 hwf (h.sel (C' := [.blk b 153 (nC k n o q a nm ow kv), .row kv 145 1 3 [pB b1, pB b2, pB b3], tr x b1 F1, tr y b2 F2, tr z b3 F3, cp]) is hn hi)
 exact ⟨F, hF.sel [1, 0] (by decide) rfl⟩
theorem tr_fin2L {k n o q a k1 n1 o1 q1 a1 k2 n2 o2 q2 a2 : Int} {nm ow nm1 ow1 nm2 ow2 : Token} {b b1 b2 : Nat} {kv : Value} (is : List Nat) (hn : is.Nodup)
  (hi : is.map (C[·]?) = [some (.blk b 153 (nC k n o q a nm ow kv)), some (.row kv 145 1 2 [pB b1, pB b2]), some (.blk b1 153 (nC k1 n1 o1 q1 a1 nm1 ow1 nS)), some (.blk b2 153 (nC k2 n2 o2 q2 a2 nm2 ow2 nS))]) (hwf : wfH k n o q a nm ow) (hw1 : wfH k1 n1 o1 q1 a1 nm1 ow1) (hw2 : wfH k2 n2 o2 q2 a2 nm2 ow2) (h : StP B Φ C w) :
  ∃ F, StP B Φ [tr ⟨k, n, o, q, a, nm, ow, [⟨k1, n1, o1, q1, a1, nm1, ow1, []⟩, ⟨k2, n2, o2, q2, a2, nm2, ow2, []⟩]⟩ b F] w := by
 have h0 := h.sel (C' := [.blk b 153 (nC k n o q a nm ow kv), .row kv 145 1 2 [pB b1, pB b2], .blk b1 153 (nC k1 n1 o1 q1 a1 nm1 ow1 nS), .blk b2 153 (nC k2 n2 o2 q2 a2 nm2 ow2 nS)]) is hn hi
 have h1 := tr_join0 hw1 (h0.sel (C' := [.blk b1 153 (nC k1 n1 o1 q1 a1 nm1 ow1 nS), .blk b 153 (nC k n o q a nm ow kv), .row kv 145 1 2 [pB b1, pB b2], .blk b2 153 (nC k2 n2 o2 q2 a2 nm2 ow2 nS)]) [2, 0, 1, 3] (by decide) rfl)
 have h2 := tr_join0 hw2 (h1.sel (C' := [.blk b2 153 (nC k2 n2 o2 q2 a2 nm2 ow2 nS), tr ⟨k1, n1, o1, q1, a1, nm1, ow1, []⟩ b1 [b1], .blk b 153 (nC k n o q a nm ow kv), .row kv 145 1 2 [pB b1, pB b2]]) [3, 0, 1, 2] (by decide) rfl)
 exact tr_join2 hwf (h2.sel (C' := [.blk b 153 (nC k n o q a nm ow kv), .row kv 145 1 2 [pB b1, pB b2], tr ⟨k1, n1, o1, q1, a1, nm1, ow1, []⟩ b1 [b1], tr ⟨k2, n2, o2, q2, a2, nm2, ow2, []⟩ b2 [b2]]) [2, 3, 1, 0] (by decide) rfl)
theorem tr_at {x : Nd} {b : Nat} {F : List Nat} (i : Nat) (hi : C[i]? = some (tr x b F)) : Cell (St B Φ C) ⟨b, 4, none⟩ (iV x.At) := fun w hw => by
 obtain ⟨k, n, o, q, a, nm, ow, ks⟩ := x
 obtain ⟨⟨kv, l, G, h1, _⟩, _⟩ := hw.sat _ (List.mem_of_getElem? hi)
 exact (cell_of_hp h1).trans rfl
theorem tr_wf {x : Nd} {b : Nat} {F : List Nat} {w : World} (i : Nat) (hi : C[i]? = some (tr x b F)) (hw : StP B Φ C w) : wfH x.Kind x.n x.of_ x.of2 x.At x.name x.owner := by
 obtain ⟨k, n, o, q, a, nm, ow, ks⟩ := x
 obtain ⟨⟨kv, l, G, _, _, _, _, h5⟩, _⟩ := hw.sat _ (List.mem_of_getElem? hi)
 exact h5
end Ru
