/- What light tells; the readings of the looks. Conditions: those of each theorem. -/
import Derived.Test.YtblfeidlnhdekaaXWalkS
import Derived.Test.YtblfeidlnhdekaaXPlainFr
namespace Go.Proofs.Ytblfeidlnhdekaa
open Go Go.K Go.RowKit
def volZ (z : Bt.State) (p : Nat) : Int := Ft.tot (z.Own.getD p [])
def posZ (z : Bt.State) (k : Nat) : Int := (z.Gates.getD k default).Pos
def lkOk (b : Bt.Basin) (x : Bt.Look) : Prop := (0 ≤ x.Gauge ∧ x.Gauge < (b.Gauges.length : Int)) ∧ (0 ≤ x.Less ∧ x.Less ≤ 1099511627776) ∧ (0 ≤ x.More ∧ x.More ≤ 1099511627776)
instance (b : Bt.Basin) (x : Bt.Look) : Decidable (lkOk b x) := inferInstanceAs (Decidable (_ ∧ _ ∧ _))
def rdOf (b : Bt.Basin) (z : Bt.State) (x : Bt.Look) : List Bt.Reading := if lkOk b x ∧ trK b x.Gauge = true then [truR b z x.Gauge x.Less x.More] else []
def rdTo (b : Bt.Basin) (z : Bt.State) (l : List Bt.Look) : Nat → List Bt.Reading
  | 0 => []
  | k + 1 => rdTo b z l k ++ rdOf b z (l.getD k default)
theorem rd_no {b : Bt.Basin} {z : Bt.State} {x : Bt.Look} (h : ¬ lkOk b x) : rdOf b z x = [] := if_neg fun h9 => h h9.1
theorem rd_no2 {b : Bt.Basin} {z : Bt.State} {x : Bt.Look} (h : trK b x.Gauge = false) : rdOf b z x = [] := if_neg fun h9 => Bool.noConfusion (h.symm.trans h9.2)
theorem rd_yes {b : Bt.Basin} {z : Bt.State} {x : Bt.Look} (h : lkOk b x) (h2 : trK b x.Gauge = true) : rdOf b z x = [truR b z x.Gauge x.Less x.More] := if_pos ⟨h, h2⟩
theorem pos_le {l : Bt.Link} (hk : 0 ≤ l.Kind ∧ l.Kind ≤ 5) (hf : fieldsB l = true) (hu : unusedB l = true) : l.Positions ≤ 64 := by
  by_cases h0 : l.Kind = 0
  · exact (field_0 hf h0).2.2.2.2
  · by_cases h2 : l.Kind = 2
    · unfold fieldsB at hf
      rw [if_neg (by omega), if_neg (by omega), if_pos h2] at hf
      simp [-List.getD_eq_getElem?_getD, -Array.length_toList] at hf
      omega
    · unfold unusedB at hu
      simp only [Bool.and_eq_true] at hu
      have h := hu.2.1
      simp [h0, h2] at h
      omega
structure LightF (b : Bt.Basin) (z : Bt.State) (y : Bt.Hull) : Prop where
  few : Fu.Few b y
  ol : z.Own.length = b.Places.length
  gl : z.Gates.length = b.Links.length
  vl : y.Vol.length = b.Places.length
  kl : y.Links.length = b.Links.length
  lev : ∀ p, p < b.Places.length → Fu.RightC (b.Places.getD p default).Level
  g0 : ∀ q, q < b.Gauges.length → (b.Gauges.getD q default).Kind = 0 → 0 ≤ (b.Gauges.getD q default).Target ∧ (b.Gauges.getD q default).Target < (b.Places.length : Int)
  g2 : ∀ q, q < b.Gauges.length → (b.Gauges.getD q default).Kind = 2 → 0 ≤ (b.Gauges.getD q default).Target ∧ (b.Gauges.getD q default).Target < (b.Links.length : Int)
  pos : ∀ k, k < b.Links.length → 0 ≤ posZ z k ∧ posZ z k ≤ 64
  vrng : ∀ p, p < b.Places.length → 0 ≤ volZ z p ∧ volZ z p ≤ 1125899906842624
  has0 : hasB0 b y z = false
  hasl : HasLoops b y z
  hasq : Ft.HasQ y.Queue z.Queue
theorem light_f {b : Bt.Basin} {z : Bt.State} {y : Bt.Hull} (h : lightB b z y = true) : LightF b z y := by
  unfold lightB at h
  simp only [Bool.and_eq_true, decide_eq_true_eq] at h
  obtain ⟨⟨⟨⟨⟨⟨h1, _⟩, _⟩, h2⟩, h3⟩, _⟩, h4⟩ := h
  obtain ⟨_, hpl, hli, _, _, _, hga, _⟩ := right_f h2
  unfold stepB at h3
  simp only [Bool.and_eq_true, Bool.not_eq_true', decide_eq_true_eq] at h3
  unfold hasB at h4
  simp only [Bool.and_eq_true, Bool.not_eq_true', decide_eq_true_eq] at h4
  have h5 := h4.1
  unfold hasB0 at h5
  simp only [Bool.or_eq_false_iff, Bool.not_eq_false', decide_eq_true_eq] at h5
  obtain ⟨⟨⟨⟨_, e1⟩, e2⟩, e3⟩, e4⟩ := h5
  refine ⟨h1, by omega, by omega, by omega, by omega, fun p hp => (place_f (hpl.1 p hp).1).2.2.2.2.1, fun q hq => gauge_v hga hq, fun q hq h9 => ?_, fun k hk => ?_, fun p hp => Ft.pool_tot (pool_f (h3.2.2.1.1 p (by omega)).1), h4.1, h4.2.1, h4.2.2⟩
  · have h := (hga q hq).2
    unfold tgBad at h
    rw [if_neg (by omega), if_neg (by omega)] at h
    simp [-List.getD_eq_getElem?_getD] at h
    exact h
  · have h := (h3.2.1.2 k hk).1
    unfold gatBad at h
    simp only [Bool.or_eq_false_iff, decide_eq_false_iff_not] at h
    have hl := hli k hk
    have hf := link_f hl
    unfold linkBad at hl
    simp only [Bool.or_eq_false_iff, Bool.not_eq_false'] at hl
    have := pos_le hf.2.2.1 hf.2.2.2 hl.2
    unfold posZ
    omega
theorem LightF.inV {b : Bt.Basin} {z : Bt.State} {y : Bt.Hull} (h : LightF b z y) : Fu.InV (volZ z) y.Vol := fun p hp => by
  have h1 := h.hasl.1 p hp
  unfold hasV at h1
  simp only [Bool.not_eq_false', Bool.and_eq_true, decide_eq_true_eq] at h1
  exact h1
theorem LightF.inK {b : Bt.Basin} {z : Bt.State} {y : Bt.Hull} (h : LightF b z y) : Fu.InK (posZ z) y.Links := fun p hp => by
  have h1 := h.hasl.2 p hp
  unfold hasL at h1
  simp only [Bool.or_eq_false_iff, Bool.not_eq_false', Bool.and_eq_true, decide_eq_true_eq] at h1
  exact h1.1
theorem LightF.truth {b : Bt.Basin} {z : Bt.State} {y : Bt.Hull} (h : LightF b z y) {x : Bt.Look} (hx : lkOk b x) (ht : trK b x.Gauge = true) : Fu.TrueR b y.Vol.length y.Links.length (volZ z) (posZ z) (truR b z x.Gauge x.Less x.More) := by
  obtain ⟨⟨a1, a2⟩, ⟨a3, a4⟩, ⟨a5, a6⟩⟩ := hx
  have hgin : Fu.inG b.Gauges x.Gauge := ⟨a1, a2⟩
  have hga : Fu.gaugeAt b.Gauges x.Gauge = b.Gauges.getD x.Gauge.toNat default := by unfold Fu.gaugeAt; rw [if_pos hgin]
  have hq : x.Gauge.toNat < b.Gauges.length := by omega
  have he : truR b z x.Gauge x.Less x.More = ⟨x.Gauge, z.Hour, ⟨trN b z x.Gauge - x.Less, trN b z x.Gauge + x.More⟩⟩ := if_pos ht
  rw [he]
  have hv := h.vl
  have hk := h.kl
  have g0 := h.g0 _ hq
  have g2 := h.g2 _ hq
  constructor
  · intro hk1
    have h0 : (b.Gauges.getD x.Gauge.toNat default).Kind = 0 := by
      unfold Fu.kindOf at hk1
      dsimp only at hk1
      rw [hga] at hk1
      split at hk1
      · cases hk1
      · split at hk1
        · rename_i h9; exact h9.1
        · split at hk1 <;> cases hk1
    have t := g0 h0
    have hR := h.lev (b.Gauges.getD x.Gauge.toNat default).Target.toNat (by omega)
    have hvo : Fu.VolOk b (⟨x.Gauge, z.Hour, ⟨trN b z x.Gauge - x.Less, trN b z x.Gauge + x.More⟩⟩ : Bt.Reading) := ⟨hgin, by rw [show Fu.gaugeAt b.Gauges _ = _ from hga]; exact h0, by rw [show Fu.gaugeAt b.Gauges _ = _ from hga]; exact t.1, by rw [show Fu.gaugeAt b.Gauges _ = _ from hga]; exact t.2⟩
    rw [Fu.volR_yes hvo]
    unfold Fu.tgt Fu.levelOf
    dsimp only
    rw [hga]
    have hn : trN b z x.Gauge = Fu.atC (b.Places.getD (b.Gauges.getD x.Gauge.toNat default).Target.toNat default).Level (volZ z (b.Gauges.getD x.Gauge.toNat default).Target.toNat) := if_pos h0
    have hat := Fu.at_rng hR (volZ z (b.Gauges.getD x.Gauge.toNat default).Target.toNat)
    have hvr := h.vrng (b.Gauges.getD x.Gauge.toNat default).Target.toNat (by omega)
    refine ⟨by omega, (Fu.vol_mem hR (by omega) (by omega) hvr.1 hvr.2).2 (by omega)⟩
  · intro hk2
    have h2 : (b.Gauges.getD x.Gauge.toNat default).Kind = 2 := by
      unfold Fu.kindOf at hk2
      dsimp only at hk2
      rw [hga] at hk2
      split at hk2
      · cases hk2
      · split at hk2
        · cases hk2
        · split at hk2
          · rename_i h9; exact h9.1
          · cases hk2
    have t := g2 h2
    have hn : trN b z x.Gauge = posZ z (b.Gauges.getD x.Gauge.toNat default).Target.toNat := if_neg (by omega)
    unfold Fu.tgt
    dsimp only
    rw [hga]
    refine ⟨by omega, by omega, by omega⟩
theorem rdTo_true {b : Bt.Basin} {z : Bt.State} {y : Bt.Hull} (h : LightF b z y) (l : List Bt.Look) : ∀ k, ∀ r ∈ rdTo b z l k, Fu.TrueR b y.Vol.length y.Links.length (volZ z) (posZ z) r
  | 0, r, hr => by cases hr
  | k + 1, r, hr => by
    rcases List.mem_append.1 hr with h1 | h1
    · exact rdTo_true h l k r h1
    · unfold rdOf at h1
      split at h1
      · rename_i h2
        rw [List.mem_singleton.1 h1]
        exact h.truth h2.1 h2.2
      · cases h1
theorem rdTo_wf {b : Bt.Basin} {z : Bt.State} {y : Bt.Hull} (h : LightF b z y) (hz : I64 z.Hour) {l : List Bt.Look} : ∀ {k : Nat} {r : Bt.Reading}, r ∈ rdTo b z l k → RepE.wf r
  | 0, r, hr => by cases hr
  | k + 1, r, hr => by
    rcases List.mem_append.1 hr with h1 | h1
    · exact rdTo_wf h hz h1
    · unfold rdOf at h1
      split at h1
      · rename_i h2
        rw [List.mem_singleton.1 h1]
        obtain ⟨⟨⟨a1, a2⟩, ⟨a3, a4⟩, ⟨a5, a6⟩⟩, ht⟩ := h2
        rw [show truR b z (l.getD k default).Gauge (l.getD k default).Less (l.getD k default).More = ⟨(l.getD k default).Gauge, z.Hour, ⟨trN b z (l.getD k default).Gauge - (l.getD k default).Less, trN b z (l.getD k default).Gauge + (l.getD k default).More⟩⟩ from if_pos ht]
        have hn : 0 ≤ trN b z (l.getD k default).Gauge ∧ trN b z (l.getD k default).Gauge ≤ 1125899906842624 := by
          unfold trN
          split
          · exact at_rng_any _ _
          · rename_i h0
            have h2 := of_decide_eq_true ht
            have g2 := h.g2 (l.getD k default).Gauge.toNat (by omega) (by omega)
            have hp := h.pos (b.Gauges.getD (l.getD k default).Gauge.toNat default).Target.toNat (by omega)
            unfold posZ at hp
            omega
        have hf := h.few.2.2.1
        refine ⟨?_, hz, ?_, ?_⟩ <;> (unfold I64; dsimp only; omega)
      · cases h1
theorem has_keep {b : Bt.Basin} {z : Bt.State} {y : Bt.Hull} (h : LightF b z y) {F : Fu.FS} (h1 : F.V.length = y.Vol.length) (h2 : F.K.length = y.Links.length) (h3 : Fu.InV (volZ z) F.V) (h4 : Fu.InK (posZ z) F.K) (h5 : ∀ p, p < y.Links.length → (F.K.getD p default).Open = (y.Links.getD p default).Open) : hasB b (Fu.hullOf y F) z = true := by
  unfold hasB
  rw [show hasB0 b (Fu.hullOf y F) z = false from by have := h.has0; unfold hasB0 at this ⊢; unfold Fu.hullOf; dsimp only; rw [h1, h2]; exact this]
  rw [decide_eq_true (show HasLoops b (Fu.hullOf y F) z from ⟨fun k hk => ?_, fun k hk => ?_⟩), decide_eq_true (show Ft.HasQ (Fu.hullOf y F).Queue z.Queue from h.hasq)]
  · rfl
  · have := h3 k hk
    unfold hasV Fu.hullOf
    unfold volZ at this
    simp only [Bool.not_eq_false', Bool.and_eq_true, decide_eq_true_eq]
    exact this
  · have h6 := h4 k hk
    have h7 := h.hasl.2 k (by rw [← h2]; exact hk)
    have h8 := h5 k (by rw [← h2]; exact hk)
    unfold hasL at h7 ⊢
    unfold Fu.hullOf
    unfold posZ at h6
    dsimp only
    rw [h8]
    simp only [Bool.or_eq_false_iff, Bool.not_eq_false', Bool.and_eq_true, decide_eq_true_eq] at h7 ⊢
    exact ⟨h6, h7.2⟩
end Go.Proofs.Ytblfeidlnhdekaa
