/- Lemmas. Conditions: those of each theorem. -/
import Derived.Test.YtblfeidlnhdekaaGreatSWalkS
import Derived.Test.YtblfeidlnhdekaaGreatSCore11
set_option maxRecDepth 8000
set_option maxHeartbeats 16000000
namespace Fu
def InV (vol : Nat → Int) (V : List Bt.Span) : Prop := ∀ p, p < V.length → (V.getD p default).Lo ≤ vol p ∧ vol p ≤ (V.getD p default).Hi
def InK (pos : Nat → Int) (K : List Bt.Known) : Prop := ∀ p, p < K.length → (K.getD p default).Pos.Lo ≤ pos p ∧ pos p ≤ (K.getD p default).Pos.Hi
structure TrueR (b : Bt.Basin) (nV nK : Nat) (vol pos : Nat → Int) (r : Bt.Reading) : Prop where
  v : kindOf b nV nK r = 1 → tgt b r < nV ∧ (volR b r).isSome = true ∧ loOf (volR b r) ≤ vol (tgt b r) ∧ vol (tgt b r) ≤ hiOf (volR b r)
  k : kindOf b nV nK r = 2 → tgt b r < nK ∧ r.Value.Lo ≤ pos (tgt b r) ∧ pos (tgt b r) ≤ r.Value.Hi
theorem meet_in {a b c d x : Int} (h1 : a ≤ x ∧ x ≤ b) (h2 : c ≤ x ∧ x ≤ d) : (meet a b c d).isSome = true ∧ loOf (meet a b c d) = max a c ∧ hiOf (meet a b c d) = min b d := by
  unfold meet
  rw [if_pos (by omega)]
  exact ⟨rfl, rfl, rfl⟩
theorem getD_set {α : Type} [Inhabited α] (L : List α) (i p : Nat) (x : α) (hi : i < L.length) : (L.set i x).getD p default = if i = p then x else L.getD p default := by
  rw [gDD, gDD, List.getElem?_set]
  split
  · rename_i h; subst h; first | rfl | (rw [if_pos hi]; rfl)
  · rfl
structure Nar (b : Bt.Basin) (nV nK : Nat) (vol pos : Nat → Int) (S : Bt.Reading → Prop) (F G : FS) : Prop where
  vl : G.V.length = F.V.length
  kl : G.K.length = F.K.length
  iv : InV vol G.V
  ik : InK pos G.K
  n : G.N = F.N
  mv : ∀ p x, p < nV → (((G.V.getD p default).Lo ≤ x ∧ x ≤ (G.V.getD p default).Hi) ↔ ((F.V.getD p default).Lo ≤ x ∧ x ≤ (F.V.getD p default).Hi) ∧ ∀ r, S r → kindOf b nV nK r = 1 → tgt b r = p → loOf (volR b r) ≤ x ∧ x ≤ hiOf (volR b r))
  mq : ∀ p x, p < nK → (((G.K.getD p default).Pos.Lo ≤ x ∧ x ≤ (G.K.getD p default).Pos.Hi) ↔ ((F.K.getD p default).Pos.Lo ≤ x ∧ x ≤ (F.K.getD p default).Pos.Hi) ∧ ∀ r, S r → kindOf b nV nK r = 2 → tgt b r = p → r.Value.Lo ≤ x ∧ x ≤ r.Value.Hi)
  ot : ∀ p, p < nK → (G.K.getD p default).Target = (F.K.getD p default).Target ∧ (G.K.getD p default).Open = (F.K.getD p default).Open
theorem step_nar {b : Bt.Basin} {vol pos : Nat → Int} {F : FS} {r : Bt.Reading} (hV : InV vol F.V) (hK : InK pos F.K) (hr : TrueR b F.V.length F.K.length vol pos r) : Nar b F.V.length F.K.length vol pos (fun q => q = r) F (stepF b F r) := by
  by_cases h1 : kindOf b F.V.length F.K.length r = 1
  · obtain ⟨ht, hs, hlo, hhi⟩ := hr.v h1
    have hm := meet_in (hV _ ht) ⟨hlo, hhi⟩
    have ho : okV b F.V r = true := by unfold okV; rw [hs, hm.1]; rfl
    rw [step1 h1 ho, narV_some hm.1, hm.2.1, hm.2.2]
    refine ⟨by simp, rfl, fun p hp => ?_, hK, rfl, fun p x hp => ?_, fun p x hp => ⟨fun h => ⟨h, fun q hq h2 _ => ?_⟩, fun h => h.1⟩, fun p hp => ⟨rfl, rfl⟩⟩
    · dsimp only at hp ⊢
      rw [List.length_set] at hp
      rw [getD_set _ _ _ _ ht]
      split
      · rename_i e; subst e; have := hV _ ht; dsimp only; omega
      · exact hV p hp
    · dsimp only
      rw [getD_set _ _ _ _ ht]
      split
      · rename_i e; subst e; dsimp only
        constructor
        · intro h; exact ⟨by omega, fun q hq _ _ => by subst hq; omega⟩
        · intro h; have := h.2 r rfl h1 rfl; omega
      · rename_i e
        exact ⟨fun h => ⟨h, fun q hq _ h3 => by subst hq; exact absurd h3 e⟩, fun h => h.1⟩
    · subst hq; rw [h1] at h2; cases h2
  · by_cases h2 : kindOf b F.V.length F.K.length r = 2
    · obtain ⟨ht, hlo, hhi⟩ := hr.k h2
      have hm := meet_in (hK _ ht) ⟨hlo, hhi⟩
      have ho : okK b F.K r = true := hm.1
      rw [step2 h2 ho, narL_some hm.1, hm.2.1, hm.2.2]
      refine ⟨rfl, by simp, hV, fun p hp => ?_, rfl, fun p x hp => ⟨fun h => ⟨h, fun q hq h3 _ => ?_⟩, fun h => h.1⟩, fun p x hp => ?_, fun p hp => ?_⟩
      · dsimp only at hp ⊢
        rw [List.length_set] at hp
        rw [getD_set _ _ _ _ ht]
        split
        · rename_i e; subst e; have := hK _ ht; dsimp only; omega
        · exact hK p hp
      · subst hq; exact absurd h3 h1
      · dsimp only
        rw [getD_set _ _ _ _ ht]
        split
        · rename_i e; subst e; dsimp only
          constructor
          · intro h; exact ⟨by omega, fun q hq _ _ => by subst hq; omega⟩
          · intro h; have := h.2 r rfl h2 rfl; omega
        · rename_i e
          exact ⟨fun h => ⟨h, fun q hq _ h3 => by subst hq; exact absurd h3 e⟩, fun h => h.1⟩
      · dsimp only
        rw [getD_set _ _ _ _ ht]
        split
        · rename_i e; subst e; exact ⟨rfl, rfl⟩
        · exact ⟨rfl, rfl⟩
    · have e : stepF b F r = F := by unfold stepF; rw [if_neg h1, if_neg h2]
      rw [e]
      exact ⟨rfl, rfl, hV, hK, rfl, fun p x _ => ⟨fun h => ⟨h, fun q hq h3 _ => by subst hq; exact absurd h3 h1⟩, fun h => h.1⟩, fun p x _ => ⟨fun h => ⟨h, fun q hq h3 _ => by subst hq; exact absurd h3 h2⟩, fun h => h.1⟩, fun p _ => ⟨rfl, rfl⟩⟩
theorem fold_nar {b : Bt.Basin} {vol pos : Nat → Int} : ∀ (L : List Bt.Reading) {F : FS}, InV vol F.V → InK pos F.K → (∀ r ∈ L, TrueR b F.V.length F.K.length vol pos r) → Nar b F.V.length F.K.length vol pos (fun q => q ∈ L) F (L.foldl (stepF b) F)
  | [], F, hV, hK, _ => ⟨rfl, rfl, hV, hK, rfl, fun p x _ => ⟨fun h => ⟨h, fun q hq => by cases hq⟩, fun h => h.1⟩, fun p x _ => ⟨fun h => ⟨h, fun q hq => by cases hq⟩, fun h => h.1⟩, fun p _ => ⟨rfl, rfl⟩⟩
  | r :: L, F, hV, hK, hL => by
    have h1 := step_nar hV hK (hL r (by simp))
    have h2 := fold_nar (F := stepF b F r) L h1.iv h1.ik (by rw [h1.vl, h1.kl]; exact fun q hq => hL q (by simp [hq]))
    rw [h1.vl, h1.kl] at h2
    rw [List.foldl_cons]
    refine ⟨h2.vl.trans h1.vl, h2.kl.trans h1.kl, h2.iv, h2.ik, h2.n.trans h1.n, fun p x hp => ?_, fun p x hp => ?_, fun p hp => ⟨(h2.ot p hp).1.trans (h1.ot p hp).1, (h2.ot p hp).2.trans (h1.ot p hp).2⟩⟩
    · rw [h2.mv p x hp, h1.mv p x hp]
      constructor
      · rintro ⟨⟨a, c⟩, d⟩
        refine ⟨a, fun q hq => ?_⟩
        rcases List.mem_cons.1 hq with e | e
        · exact c q e
        · exact d q e
      · rintro ⟨a, c⟩
        exact ⟨⟨a, fun q hq => c q (by subst hq; simp)⟩, fun q hq => c q (by simp [hq])⟩
    · rw [h2.mq p x hp, h1.mq p x hp]
      constructor
      · rintro ⟨⟨a, c⟩, d⟩
        refine ⟨a, fun q hq => ?_⟩
        rcases List.mem_cons.1 hq with e | e
        · exact c q e
        · exact d q e
      · rintro ⟨a, c⟩
        exact ⟨⟨a, fun q hq => c q (by subst hq; simp)⟩, fun q hq => c q (by simp [hq])⟩
theorem ends_eq {a b c d v : Int} (h1 : a ≤ v ∧ v ≤ b) (h2 : c ≤ v ∧ v ≤ d) (h : ∀ x, (a ≤ x ∧ x ≤ b) ↔ (c ≤ x ∧ x ≤ d)) : a = c ∧ b = d := by
  have p1 := h a; have p2 := h b; have p3 := h c; have p4 := h d
  omega
theorem sp_ext {x y : Bt.Span} (h1 : x.Lo = y.Lo) (h2 : x.Hi = y.Hi) : x = y := by
  obtain ⟨a, b⟩ := x; obtain ⟨c, d⟩ := y
  simp only at h1 h2; rw [h1, h2]
theorem list_ext {α : Type} [Inhabited α] {L M : List α} (hl : L.length = M.length) (h : ∀ p, p < L.length → L.getD p default = M.getD p default) : L = M := by
  refine List.ext_getElem hl fun p h1 h2 => ?_
  have := h p h1
  rwa [gDD, gDD, List.getElem?_eq_getElem h1, List.getElem?_eq_getElem h2] at this
theorem Nar.same {b : Bt.Basin} {vol pos : Nat → Int} {S T : Bt.Reading → Prop} {F G H : FS} (h1 : Nar b F.V.length F.K.length vol pos S F G) (h2 : Nar b F.V.length F.K.length vol pos T F H) (hST : ∀ r, S r ↔ T r) : G.V = H.V ∧ G.K = H.K := by
  obtain rfl : S = T := funext fun r => propext (hST r)
  constructor
  · refine list_ext (h1.vl.trans h2.vl.symm) fun p hp => ?_
    have hp2 : p < F.V.length := by rw [← h1.vl]; exact hp
    have e := ends_eq (h1.iv p hp) (h2.iv p (by rw [h2.vl]; exact hp2)) fun x => (h1.mv p x hp2).trans (h2.mv p x hp2).symm
    exact sp_ext e.1 e.2
  · refine list_ext (h1.kl.trans h2.kl.symm) fun p hp => ?_
    have hp2 : p < F.K.length := by rw [← h1.kl]; exact hp
    have e := ends_eq (h1.ik p hp) (h2.ik p (by rw [h2.kl]; exact hp2)) fun x => (h1.mq p x hp2).trans (h2.mq p x hp2).symm
    have o1 := h1.ot p hp2
    have o2 := h2.ot p hp2
    refine known_ext ⟨⟨⟨e, o1.1.trans o2.1.symm⟩, ?_⟩, ?_⟩
    · rw [o1.2, o2.2]
    · rw [o1.2, o2.2]
theorem Nar.again {b : Bt.Basin} {vol pos : Nat → Int} {S : Bt.Reading → Prop} {F G H : FS} (h1 : Nar b F.V.length F.K.length vol pos S F G) (h2 : Nar b F.V.length F.K.length vol pos S G H) : H.V = G.V ∧ H.K = G.K := by
  constructor
  · refine list_ext h2.vl fun p hp => ?_
    have hp1 : p < G.V.length := by rw [← h2.vl]; exact hp
    have hp2 : p < F.V.length := by rw [← h1.vl]; exact hp1
    have e := ends_eq (h2.iv p hp) (h1.iv p hp1) fun x => (h2.mv p x hp2).trans ⟨fun h => h.1, fun h => ⟨h, ((h1.mv p x hp2).1 h).2⟩⟩
    exact sp_ext e.1 e.2
  · refine list_ext h2.kl fun p hp => ?_
    have hp1 : p < G.K.length := by rw [← h2.kl]; exact hp
    have hp2 : p < F.K.length := by rw [← h1.kl]; exact hp1
    have e := ends_eq (h2.ik p hp) (h1.ik p hp1) fun x => (h2.mq p x hp2).trans ⟨fun h => h.1, fun h => ⟨h, ((h1.mq p x hp2).1 h).2⟩⟩
    have o2 := h2.ot p hp2
    exact known_ext ⟨⟨⟨e, o2.1⟩, by rw [o2.2]⟩, by rw [o2.2]⟩
theorem Nar.thin {b : Bt.Basin} {vol pos : Nat → Int} {S : Bt.Reading → Prop} {F G : FS} (h : Nar b F.V.length F.K.length vol pos S F G) : (∀ p, p < F.V.length → (F.V.getD p default).Lo ≤ (G.V.getD p default).Lo ∧ (G.V.getD p default).Hi ≤ (F.V.getD p default).Hi) ∧ ∀ p, p < F.K.length → (F.K.getD p default).Pos.Lo ≤ (G.K.getD p default).Pos.Lo ∧ (G.K.getD p default).Pos.Hi ≤ (F.K.getD p default).Pos.Hi := by
  constructor
  · intro p hp
    have h0 := h.iv p (by rw [h.vl]; exact hp)
    have a := (h.mv p (G.V.getD p default).Lo hp).1 (by omega)
    have c := (h.mv p (G.V.getD p default).Hi hp).1 (by omega)
    omega
  · intro p hp
    have h0 := h.ik p (by rw [h.kl]; exact hp)
    have a := (h.mq p (G.K.getD p default).Pos.Lo hp).1 (by omega)
    have c := (h.mq p (G.K.getD p default).Pos.Hi hp).1 (by omega)
    omega
theorem fuse_nar {b : Bt.Basin} {h : Bt.Hull} {vol pos : Nat → Int} {l : List Bt.Reading} (hV : InV vol h.Vol) (hK : InK pos h.Links) (hl : ∀ r ∈ l, TrueR b h.Vol.length h.Links.length vol pos r) : Nar b h.Vol.length h.Links.length vol pos (fun q => q ∈ order b.Gauges.length (atH h.Hour l)) ⟨h.Vol, h.Links, []⟩ (fuse b h l) :=
  fold_nar (F := ⟨h.Vol, h.Links, []⟩) (order b.Gauges.length (atH h.Hour l)) hV hK fun r hr => by
    unfold order at hr
    obtain ⟨g, _, hg⟩ := List.mem_flatMap.1 hr
    exact hl r (List.mem_filter.1 (List.mem_filter.1 hg).1).1
theorem order_rev (n : Nat) (hr : Int) (l : List Bt.Reading) (q : Bt.Reading) : q ∈ order n (atH hr l) ↔ q ∈ order n (atH hr l.reverse) := by
  unfold order atH
  simp [List.mem_flatMap, List.mem_filter]
theorem fuse_true {b : Bt.Basin} {h : Bt.Hull} {vol pos : Nat → Int} {l : List Bt.Reading} (hV : InV vol h.Vol) (hK : InK pos h.Links) (hl : ∀ r ∈ l, TrueR b h.Vol.length h.Links.length vol pos r) :
    let F := fuse b h l
    F.V.length = h.Vol.length ∧ F.K.length = h.Links.length ∧ InV vol F.V ∧ InK pos F.K ∧ comp F.N = [] ∧ comp (fuse b (hullOf h F) l).N = [] ∧ comp (fuse b h l.reverse).N = [] ∧ sameH (hullOf (hullOf h F) (fuse b (hullOf h F) l)) (hullOf h F) ∧ sameH (hullOf h (fuse b h l.reverse)) (hullOf h F) ∧ (∀ p, p < h.Vol.length → (h.Vol.getD p default).Lo ≤ (F.V.getD p default).Lo ∧ (F.V.getD p default).Hi ≤ (h.Vol.getD p default).Hi) ∧ ∀ p, p < h.Links.length → ((h.Links.getD p default).Pos.Lo ≤ (F.K.getD p default).Pos.Lo ∧ (F.K.getD p default).Pos.Hi ≤ (h.Links.getD p default).Pos.Hi) ∧ (F.K.getD p default).Target = (h.Links.getD p default).Target ∧ (F.K.getD p default).Open = (h.Links.getD p default).Open := by
  intro F
  have h1 : Nar b h.Vol.length h.Links.length vol pos _ ⟨h.Vol, h.Links, []⟩ F := fuse_nar hV hK hl
  have h2 := fuse_nar (b := b) (h := hullOf h F) (l := l) h1.iv h1.ik (by rw [show (hullOf h F).Vol.length = h.Vol.length from h1.vl, show (hullOf h F).Links.length = h.Links.length from h1.kl]; exact hl)
  have h3 := fuse_nar (b := b) (h := h) (l := l.reverse) hV hK (fun r hr => hl r (List.mem_reverse.1 hr))
  rw [show (hullOf h F).Vol.length = h.Vol.length from h1.vl, show (hullOf h F).Links.length = h.Links.length from h1.kl] at h2
  have s3 := h3.same (F := ⟨h.Vol, h.Links, []⟩) h1 (fun q => (order_rev _ _ l q).symm)
  have s2 : (fuse b (hullOf h F) l).V = F.V ∧ (fuse b (hullOf h F) l).K = F.K := Nar.again (F := ⟨h.Vol, h.Links, []⟩) (G := ⟨F.V, F.K, []⟩) ⟨h1.vl, h1.kl, h1.iv, h1.ik, rfl, h1.mv, h1.mq, h1.ot⟩ h2
  have t := Nar.thin (F := ⟨h.Vol, h.Links, []⟩) h1
  exact ⟨h1.vl, h1.kl, h1.iv, h1.ik, by rw [h1.n]; rfl, by rw [h2.n]; rfl, by rw [h3.n]; rfl, ⟨rfl, s2.1, rfl, s2.2⟩, ⟨rfl, s3.1, rfl, s3.2⟩, t.1, fun p hp => ⟨t.2 p hp, h1.ot p hp⟩⟩
end Fu
namespace Go.Proofs.YtblfeidlnhdekaaGreat
open Go Go.K Go.RowKit
def volZ (z : Bt.State) (p : Nat) : Int := Ft.tot (z.Own.getD p [])
def posZ (z : Bt.State) (k : Nat) : Int := (z.Gates.getD k default).Pos
def lkOk (b : Bt.Basin) (x : Bt.Look) : Prop := (0 ≤ x.Gauge ∧ x.Gauge < (b.Gauges.length : Int)) ∧ (0 ≤ x.Less ∧ x.Less ≤ 1099511627776) ∧ (0 ≤ x.More ∧ x.More ≤ 1099511627776)
instance (b : Bt.Basin) (x : Bt.Look) : Decidable (lkOk b x) := inferInstanceAs (Decidable (_ ∧ _ ∧ _))
theorem pos_le {l : Bt.Link} (_ : 0 ≤ l.Kind ∧ l.Kind ≤ 5) (hf : fieldsB l = true) (hu : unusedB l = true) : l.Positions ≤ 64 := by
  by_cases h0 : l.Kind = 0
  · exact (field_0 hf h0).2.2.2.2
  · by_cases h2 : l.Kind = 2
    · unfold fieldsB at hf
      rw [if_neg (by omega), if_neg (by omega), if_pos h2] at hf
      simp [-List.getD_eq_getElem?_getD, -Array.length_toList] at hf
      omega
    · unfold unusedB at hu
      simp only [Bool.and_eq_true] at hu
      have h := hu.2.1
      simp [h0, h2] at h
      omega
structure LightF (b : Bt.Basin) (z : Bt.State) (y : Bt.Hull) : Prop where
  few : Fu.Few b y
  ol : z.Own.length = b.Places.length
  gl : z.Gates.length = b.Links.length
  vl : y.Vol.length = b.Places.length
  kl : y.Links.length = b.Links.length
  lev : ∀ p, p < b.Places.length → Fu.RightC (b.Places.getD p default).Level
  g0 : ∀ q, q < b.Gauges.length → (b.Gauges.getD q default).Kind = 0 → 0 ≤ (b.Gauges.getD q default).Target ∧ (b.Gauges.getD q default).Target < (b.Places.length : Int)
  g2 : ∀ q, q < b.Gauges.length → (b.Gauges.getD q default).Kind = 2 → 0 ≤ (b.Gauges.getD q default).Target ∧ (b.Gauges.getD q default).Target < (b.Links.length : Int)
  pos : ∀ k, k < b.Links.length → 0 ≤ posZ z k ∧ posZ z k ≤ 64
  vrng : ∀ p, p < b.Places.length → 0 ≤ volZ z p ∧ volZ z p ≤ 1125899906842624
  has0 : hasB0 b y z = false
  hasl : HasLoops b y z
  hasq : Ft.HasQ y.Queue z.Queue
theorem light_f {b : Bt.Basin} {z : Bt.State} {y : Bt.Hull} (h : lightB b z y = true) : LightF b z y := by
  unfold lightB at h
  simp only [Bool.and_eq_true, decide_eq_true_eq] at h
  obtain ⟨⟨⟨⟨⟨⟨h1, _⟩, _⟩, h2⟩, h3⟩, _⟩, h4⟩ := h
  obtain ⟨_, hpl, hli, _, _, _, hga, _⟩ := right_f h2
  unfold stepB at h3
  simp only [Bool.and_eq_true, Bool.not_eq_true', decide_eq_true_eq] at h3
  unfold hasB at h4
  simp only [Bool.and_eq_true, Bool.not_eq_true', decide_eq_true_eq] at h4
  have h5 := h4.1
  unfold hasB0 at h5
  simp only [Bool.or_eq_false_iff, Bool.not_eq_false', decide_eq_true_eq] at h5
  obtain ⟨⟨⟨⟨_, e1⟩, e2⟩, e3⟩, e4⟩ := h5
  refine ⟨h1, by omega, by omega, by omega, by omega, fun p hp => (place_f (hpl.1 p hp).1).2.2.2.2.1, fun q hq => gauge_v hga hq, fun q hq h9 => ?_, fun k hk => ?_, fun p hp => Ft.pool_tot (pool_f (h3.2.2.1.1 p (by omega)).1), h4.1, h4.2.1, h4.2.2⟩
  · have h := (hga q hq).2
    unfold tgBad at h
    rw [if_neg (by omega), if_neg (by omega)] at h
    simp [-List.getD_eq_getElem?_getD] at h
    exact h
  · have h := (h3.2.1.2 k hk).1
    unfold gatBad at h
    simp only [Bool.or_eq_false_iff, decide_eq_false_iff_not] at h
    have hl := hli k hk
    have hf := link_f hl
    unfold linkBad at hl
    simp only [Bool.or_eq_false_iff, Bool.not_eq_false'] at hl
    have := pos_le hf.2.2.1 hf.2.2.2 hl.2
    unfold posZ
    omega
theorem LightF.inV {b : Bt.Basin} {z : Bt.State} {y : Bt.Hull} (h : LightF b z y) : Fu.InV (volZ z) y.Vol := fun p hp => by
  have h1 := h.hasl.1 p hp
  unfold hasV at h1
  simp only [Bool.not_eq_false', Bool.and_eq_true, decide_eq_true_eq] at h1
  exact h1
theorem LightF.inK {b : Bt.Basin} {z : Bt.State} {y : Bt.Hull} (h : LightF b z y) : Fu.InK (posZ z) y.Links := fun p hp => by
  have h1 := h.hasl.2 p hp
  unfold hasL at h1
  simp only [Bool.or_eq_false_iff, Bool.not_eq_false', Bool.and_eq_true, decide_eq_true_eq] at h1
  exact h1.1
theorem has_keep {b : Bt.Basin} {z : Bt.State} {y : Bt.Hull} (h : LightF b z y) {F : Fu.FS} (h1 : F.V.length = y.Vol.length) (h2 : F.K.length = y.Links.length) (h3 : Fu.InV (volZ z) F.V) (h4 : Fu.InK (posZ z) F.K) (h5 : ∀ p, p < y.Links.length → (F.K.getD p default).Open = (y.Links.getD p default).Open) : hasB b (Fu.hullOf y F) z = true := by
  unfold hasB
  rw [show hasB0 b (Fu.hullOf y F) z = false from by have := h.has0; unfold hasB0 at this ⊢; unfold Fu.hullOf; dsimp only; rw [h1, h2]; exact this]
  rw [decide_eq_true (show HasLoops b (Fu.hullOf y F) z from ⟨fun k hk => ?_, fun k hk => ?_⟩), decide_eq_true (show Ft.HasQ (Fu.hullOf y F).Queue z.Queue from h.hasq)]
  · rfl
  · have := h3 k hk
    unfold hasV Fu.hullOf
    unfold volZ at this
    simp only [Bool.not_eq_false', Bool.and_eq_true, decide_eq_true_eq]
    exact this
  · have h6 := h4 k hk
    have h7 := h.hasl.2 k (by rw [← h2]; exact hk)
    have h8 := h5 k (by rw [← h2]; exact hk)
    unfold hasL at h7 ⊢
    unfold Fu.hullOf
    unfold posZ at h6
    dsimp only
    rw [h8]
    simp only [Bool.or_eq_false_iff, Bool.not_eq_false', Bool.and_eq_true, decide_eq_true_eq] at h7 ⊢
    exact ⟨h6, h7.2⟩
end Go.Proofs.YtblfeidlnhdekaaGreat
namespace Se
/-! ### strictly sorted lists -/
theorem sorted_ext {α : Type} {R : α → α → Prop} (hasym : ∀ x y, R x y → ¬ R y x) : ∀ {l r : List α}, l.Pairwise R → r.Pairwise R → (∀ x, x ∈ l ↔ x ∈ r) → l = r
  | [], [], _, _, _ => rfl
  | [], y :: r, _, _, h => by have := (h y).2 (by simp); cases this
  | x :: l, [], _, _, h => by have := (h x).1 (by simp); cases this
  | x :: l, y :: r, hl, hr, h => by
    obtain ⟨l1, l2⟩ := List.pairwise_cons.1 hl
    obtain ⟨r1, r2⟩ := List.pairwise_cons.1 hr
    have hxy : x = y := by
      rcases List.mem_cons.1 ((h x).1 (by simp)) with e | hx
      · exact e
      · rcases List.mem_cons.1 ((h y).2 (by simp)) with e | hy
        · exact e.symm
        · exact absurd (l1 y hy) (hasym y x (r1 x hx))
    subst hxy
    have hirr : ∀ z, ¬ R z z := fun z hz => hasym z z hz hz
    refine congrArg (x :: ·) (sorted_ext hasym l2 r2 fun z => ?_)
    constructor
    · intro hz
      rcases List.mem_cons.1 ((h z).1 (by simp [hz])) with e | h'
      · subst e; exact absurd (l1 z hz) (hirr z)
      · exact h'
    · intro hz
      rcases List.mem_cons.1 ((h z).2 (by simp [hz])) with e | h'
      · subst e; exact absurd (r1 z hz) (hirr z)
      · exact h'
theorem lt_succ {P : Nat → Prop} {k : Nat} (h : ∀ j, j < k → P j) (hk : P k) : ∀ j, j < k + 1 → P j := fun j hj => by
  rcases Nat.lt_or_eq_of_le (Nat.lt_succ_iff.1 hj) with h1 | h1
  · exact h j h1
  · subst h1; exact hk
theorem getD_mem {α : Type} [Inhabited α] {L : List α} {i : Nat} (h : i < L.length) : L.getD i default ∈ L := by
  rw [gDD, List.getElem?_eq_getElem h]; exact List.getElem_mem h
theorem getD_ext {α : Type} (d : α) {l r : List α} (hl : l.length = r.length) (h : ∀ j, j < l.length → l.getD j d = r.getD j d) : l = r := by
  apply List.ext_getElem hl
  intro i h1 h2
  have := h i h1
  simpa [gDD, h1, h2] using this
theorem take_snoc {α : Type} [Inhabited α] {L : List α} {k : Nat} (h : k < L.length) : L.take (k + 1) = L.take k ++ [L.getD k default] := by
  rw [List.take_succ_eq_append_getElem h, gDD, List.getElem?_eq_getElem h]; rfl
/-! ### telegrams -/
def cI (x y : Int) : Int := if x < y then -1 else if y < x then 1 else 0
def or2 (x y : Int) : Int := if x = 0 then y else x
theorem cI_cases (x y : Int) : (cI x y = -1 ∧ x < y) ∨ (cI x y = 1 ∧ y < x) ∨ (cI x y = 0 ∧ x = y) := by
  unfold cI; split
  · exact .inl ⟨rfl, by assumption⟩
  · split
    · exact .inr (.inl ⟨rfl, by assumption⟩)
    · exact .inr (.inr ⟨rfl, by omega⟩)
theorem gram_ext {x y : Bt.Gram} (h1 : x.Gauge = y.Gauge) (h2 : x.Seq = y.Seq) (h3 : x.Clock = y.Clock) (h4 : x.Value = y.Value) (h5 : x.Tag.data.toList = y.Tag.data.toList) : x = y := by
  obtain ⟨a, b, c, d, ⟨⟨e⟩⟩⟩ := x; obtain ⟨a', b', c', d', ⟨⟨e'⟩⟩⟩ := y
  simp only at h1 h2 h3 h4 h5
  subst h1; subst h2; subst h3; subst h4; subst h5; rfl
/-! ### void gauges -/
def VoidP (l : List Bt.Gram) (g : Int) : Prop := ∃ x ∈ l, ∃ y ∈ l, x.Gauge = g ∧ y.Gauge = g ∧ x.Seq = y.Seq ∧ x ≠ y
def frst (l : List Bt.Gram) (k : Int × Int) : Option Bt.Gram := l.find? fun t => decide (t.Gauge = k.1 ∧ t.Seq = k.2)
def voidM (l : List Bt.Gram) (g : Int) : Option Bool := if ∃ t ∈ l, t.Gauge = g ∧ frst l (g, t.Seq) ≠ some t then some true else none
theorem frst_snoc (l : List Bt.Gram) (t : Bt.Gram) (k : Int × Int) : frst (l ++ [t]) k = if frst l k = none then (if k = (t.Gauge, t.Seq) then some t else none) else frst l k := by
  unfold frst
  rw [List.find?_append]
  cases h : l.find? (fun t => decide (t.Gauge = k.1 ∧ t.Seq = k.2)) with
  | some x => simp
  | none =>
    simp only [Option.none_or, if_true]
    by_cases hk : k = (t.Gauge, t.Seq)
    · subst hk; simp
    · rw [if_neg hk, List.find?_cons_of_neg]
      · rfl
      · simp only [decide_eq_true_eq]
        rintro ⟨e1, e2⟩
        exact hk (Prod.ext e1.symm e2.symm)
theorem frst_mem {l : List Bt.Gram} {k : Int × Int} {t : Bt.Gram} (h : frst l k = some t) : t ∈ l ∧ t.Gauge = k.1 ∧ t.Seq = k.2 := by
  unfold frst at h
  have h1 := List.mem_of_find?_eq_some h
  have h2 := List.find?_some h
  exact ⟨h1, by simpa using h2⟩
theorem frst_some {l : List Bt.Gram} {t : Bt.Gram} (h : t ∈ l) : ∃ x, frst l (t.Gauge, t.Seq) = some x := by
  cases hf : frst l (t.Gauge, t.Seq) with
  | some x => exact ⟨x, rfl⟩
  | none =>
    unfold frst at hf
    have := List.find?_eq_none.1 hf t h
    simp at this
theorem voidM_iff (l : List Bt.Gram) (g : Int) : voidM l g = some true ↔ VoidP l g := by
  unfold voidM VoidP
  constructor
  · intro h
    split at h
    · rename_i hh
      obtain ⟨t, ht, hg, hne⟩ := hh
      obtain ⟨x, hx⟩ := frst_some ht
      rw [hg] at hx
      obtain ⟨h1, h2, h3⟩ := frst_mem hx
      refine ⟨x, h1, t, ht, h2, hg, h3, ?_⟩
      rintro rfl; exact hne hx
    · cases h
  · rintro ⟨x, hx, y, hy, h1, h2, h3, hne⟩
    rw [if_pos]
    obtain ⟨f, hf⟩ := frst_some hx
    rw [h1] at hf
    by_cases hfx : f = x
    · subst hfx
      refine ⟨y, hy, h2, ?_⟩
      rw [← h3, hf]
      intro e; exact hne (sJ e)
    · refine ⟨x, hx, h1, ?_⟩
      rw [hf]; intro e; exact hfx (sJ e)
theorem voidM_snoc (l : List Bt.Gram) (t : Bt.Gram) (g : Int) : voidM (l ++ [t]) g = if g = t.Gauge ∧ (∃ f, frst l (t.Gauge, t.Seq) = some f ∧ f ≠ t) then some true else voidM l g := by
  have key : voidM (l ++ [t]) g = some true ↔ (g = t.Gauge ∧ (∃ f, frst l (t.Gauge, t.Seq) = some f ∧ f ≠ t)) ∨ voidM l g = some true := by
    rw [voidM_iff, voidM_iff]
    constructor
    · rintro ⟨x, hx, y, hy, h1, h2, h3, hne⟩
      have hcase : ∀ x y : Bt.Gram, x ∈ l ++ [t] → y ∈ l ++ [t] → x.Gauge = g → y.Gauge = g → x.Seq = y.Seq → x ≠ y → y ∈ l ∨ x ∈ l := fun x y hx hy _ _ _ hne => by
        rcases List.mem_append.1 hx with h | h
        · exact .inr h
        · rcases List.mem_append.1 hy with k | k
          · exact .inl k
          · exact absurd ((List.mem_singleton.1 h).trans (List.mem_singleton.1 k).symm) hne
      have main : ∀ p q : Bt.Gram, p ∈ l → q ∈ l ++ [t] → p.Gauge = g → q.Gauge = g → p.Seq = q.Seq → p ≠ q → (g = t.Gauge ∧ (∃ f, frst l (t.Gauge, t.Seq) = some f ∧ f ≠ t)) ∨ VoidP l g := fun p q hp hq k1 k2 k3 hpq => by
        rcases List.mem_append.1 hq with hq2 | hq2
        · exact .inr ⟨p, hp, q, hq2, k1, k2, k3, hpq⟩
        · have hqt := List.mem_singleton.1 hq2
          obtain ⟨f, hf⟩ := frst_some hp
          obtain ⟨f1, f2, f3⟩ := frst_mem hf
          by_cases hft : f = q
          · right
            exact ⟨p, hp, f, f1, k1, by rw [f2]; exact k1, f3.symm, by rw [hft]; exact hpq⟩
          · left
            rw [k1, k3, ← k2, hqt] at hf
            exact ⟨by rw [← k2, hqt], f, hf, by rw [← hqt]; exact hft⟩
      rcases List.mem_append.1 hx with hx' | hx'
      · exact main x y hx' hy h1 h2 h3 hne
      · rcases List.mem_append.1 hy with hy' | hy'
        · exact main y x hy' hx h2 h1 h3.symm (fun e => hne e.symm)
        · exact absurd ((List.mem_singleton.1 hx').trans (List.mem_singleton.1 hy').symm) hne
    · rintro (⟨hg, f, hf, hne⟩ | ⟨x, hx, y, hy, h⟩)
      · obtain ⟨f1, f2, f3⟩ := frst_mem hf
        exact ⟨f, List.mem_append_left _ f1, t, by simp, by rw [f2, hg], hg.symm, f3, hne⟩
      · exact ⟨x, List.mem_append_left _ hx, y, List.mem_append_left _ hy, h⟩
  have hval : ∀ l, voidM l g = some true ∨ voidM l g = none := fun l => by unfold voidM; split <;> simp
  split
  · rename_i h; exact key.2 (.inl h)
  · rename_i h
    rcases hval (l ++ [t]) with h1 | h1
    · rw [h1]; rcases key.1 h1 with h2 | h2
      · exact absurd h2 h
      · exact h2.symm
    · rw [h1]; rcases hval l with h2 | h2
      · rw [key.2 (.inr h2)] at h1; cases h1
      · exact h2.symm
theorem voidP_mono {l r : List Bt.Gram} {g : Int} (h : ∀ x, x ∈ l → x.Gauge = g → x ∈ r) (hv : VoidP l g) : VoidP r g := by
  obtain ⟨x, hx, y, hy, h1, h2, h3⟩ := hv
  exact ⟨x, h x hx h1, y, h y hy h2, h1, h2, h3⟩
end Se
namespace Se
def addS (x y : Int) : Int := if 9223372036854775807 < x + y then 9223372036854775807 else if x + y < -9223372036854775808 then -9223372036854775808 else x + y
def subS (x y : Int) : Int := if 9223372036854775807 < x - y then 9223372036854775807 else if x - y < -9223372036854775808 then -9223372036854775808 else x - y
def Right (n : Nat) (t : Bt.Gram) : Prop := (0 ≤ t.Gauge ∧ t.Gauge ≤ 127) ∧ (0 ≤ t.Seq ∧ t.Seq ≤ 1099511627776) ∧ (0 ≤ t.Clock ∧ t.Clock ≤ 1006633019) ∧ (-1099511627776 ≤ t.Value ∧ t.Value ≤ 1099511627776) ∧ t.Tag.data.toList.length = 8 ∧ t.Gauge < (n : Int)
instance (n : Nat) (t : Bt.Gram) : Decidable (Right n t) := inferInstanceAs (Decidable (_ ∧ _ ∧ _ ∧ _ ∧ _ ∧ _))
def gOf (b : Bt.Basin) (t : Bt.Gram) : Bt.Gauge := b.Gauges.getD t.Gauge.toNat default
def hourT (g : Bt.Gauge) (t : Bt.Gram) : Int := (t.Clock - g.Drift) / 60
def Sure (g : Bt.Gauge) (t : Bt.Gram) : Prop := 0 ≤ g.Drift ∧ g.Drift < 60 ∧ (t.Clock - g.Drift) / 60 = (t.Clock + g.Drift) / 60
instance (g : Bt.Gauge) (t : Bt.Gram) : Decidable (Sure g t) := inferInstanceAs (Decidable (_ ∧ _ ∧ _))
open Classical in
noncomputable instance (l : List Bt.Gram) (g : Int) : Decidable (VoidP l g) := Classical.propDecidable _
def Use (b : Bt.Basin) (l : List Bt.Gram) (u v : Int) (t : Bt.Gram) : Prop := Right b.Gauges.length t ∧ ¬ VoidP l t.Gauge ∧ Sure (gOf b t) t ∧ u ≤ hourT (gOf b t) t ∧ hourT (gOf b t) t < v
def plc (b : Bt.Basin) (t : Bt.Gram) : Int × Int := (hourT (gOf b t) t, t.Gauge)
def loT (b : Bt.Basin) (t : Bt.Gram) : Int := subS t.Value (gOf b t).Err
def hiT (b : Bt.Basin) (t : Bt.Gram) : Int := addS t.Value (gOf b t).Err
def joinV (o : Option Bt.Span) (lo hi : Int) : Bt.Span := match o with | none => ⟨lo, hi⟩ | some s => ⟨max s.Lo lo, min s.Hi hi⟩
open Classical in
noncomputable def valM (b : Bt.Basin) (l : List Bt.Gram) (u v : Int) : List Bt.Gram → (Int × Int) → Option Bt.Span
  | L => fun k => L.foldl (fun o t => if Use b l u v t ∧ plc b t = k then some (joinV o (loT b t) (hiT b t)) else o) none
open Classical in
theorem valM_snoc (b : Bt.Basin) (l : List Bt.Gram) (u v : Int) (L : List Bt.Gram) (t : Bt.Gram) (k : Int × Int) : valM b l u v (L ++ [t]) k = if Use b l u v t ∧ plc b t = k then some (joinV (valM b l u v L k) (loT b t) (hiT b t)) else valM b l u v L k := by
  unfold valM; rw [List.foldl_append]; rfl
theorem valM_use {b : Bt.Basin} {l : List Bt.Gram} {u v : Int} {L : List Bt.Gram} {t : Bt.Gram} (h : Use b l u v t) : valM b l u v (L ++ [t]) = fun k => if k = plc b t then some (joinV (valM b l u v L (plc b t)) (loT b t) (hiT b t)) else valM b l u v L k := by
  funext k
  rw [valM_snoc]
  by_cases hk : k = plc b t
  · subst hk; rw [if_pos ⟨h, rfl⟩, if_pos rfl]
  · rw [if_neg (fun e => hk e.2.symm), if_neg hk]
theorem valM_skip {b : Bt.Basin} {l : List Bt.Gram} {u v : Int} {L : List Bt.Gram} {t : Bt.Gram} (h : ¬ Use b l u v t) : valM b l u v (L ++ [t]) = valM b l u v L := by
  funext k; rw [valM_snoc, if_neg (fun e => h e.1)]
structure IsV (b : Bt.Basin) (S : Bt.Gram → Prop) (s : Bt.Span) : Prop where
  lo : ∃ t, S t ∧ loT b t = s.Lo
  loB : ∀ t, S t → loT b t ≤ s.Lo
  hi : ∃ t, S t ∧ hiT b t = s.Hi
  hiB : ∀ t, S t → s.Hi ≤ hiT b t
theorem IsV.unique {b : Bt.Basin} {S : Bt.Gram → Prop} {s s' : Bt.Span} (h : IsV b S s) (k : IsV b S s') : s = s' := by
  obtain ⟨a, b_⟩ := s; obtain ⟨a', b'⟩ := s'
  obtain ⟨t1, h1, e1⟩ := h.lo; obtain ⟨t2, h2, e2⟩ := h.hi; obtain ⟨t3, h3, e3⟩ := k.lo; obtain ⟨t4, h4, e4⟩ := k.hi
  have a1 := k.loB t1 h1; have a2 := h.loB t3 h3; have a3 := k.hiB t2 h2; have a4 := h.hiB t4 h4
  simp only at *
  have u1 : a = a' := by omega
  have u2 : b_ = b' := by omega
  rw [u1, u2]
theorem IsV.congr {b : Bt.Basin} {S S' : Bt.Gram → Prop} {s : Bt.Span} (hS : ∀ t, S t ↔ S' t) (h : IsV b S s) : IsV b S' s := by
  have : S = S' := funext fun t => propext (hS t)
  subst this; exact h
def At (b : Bt.Basin) (l : List Bt.Gram) (u v : Int) (L : List Bt.Gram) (k : Int × Int) (t : Bt.Gram) : Prop := t ∈ L ∧ Use b l u v t ∧ plc b t = k
theorem valM_spec (b : Bt.Basin) (l : List Bt.Gram) (u v : Int) (k : Int × Int) : ∀ n, ∀ L : List Bt.Gram, L.length = n → (valM b l u v L k = none ∧ ∀ t, ¬ At b l u v L k t) ∨ ∃ s, valM b l u v L k = some s ∧ IsV b (At b l u v L k) s
  | 0, L, hL => by
    obtain rfl := List.length_eq_zero_iff.1 hL
    exact .inl ⟨rfl, fun t h => by cases h.1⟩
  | n + 1, L, hL => by
    obtain ⟨L, t, rfl⟩ : ∃ L' t, L = L' ++ [t] := by
      have hne : L ≠ [] := fun e => by subst e; cases hL
      exact ⟨L.dropLast, L.getLast hne, (List.dropLast_concat_getLast hne).symm⟩
    have hl : L.length = n := by simpa using hL
    have ih := valM_spec b l u v k n L hl
    by_cases hu : Use b l u v t ∧ plc b t = k
    · right
      rw [valM_snoc, if_pos hu]
      have hAt : ∀ x, At b l u v (L ++ [t]) k x ↔ At b l u v L k x ∨ x = t := fun x => by
        unfold At
        rw [List.mem_append, List.mem_singleton]
        constructor
        · rintro ⟨h1 | h1, h2⟩
          · exact .inl ⟨h1, h2⟩
          · exact .inr h1
        · rintro (⟨h1, h2⟩ | rfl)
          · exact ⟨.inl h1, h2⟩
          · exact ⟨.inr rfl, hu⟩
      refine ⟨_, rfl, IsV.congr (fun x => (hAt x).symm) ?_⟩
      rcases ih with ⟨h1, h2⟩ | ⟨s, h1, h2⟩
      · rw [h1]
        exact ⟨⟨t, .inr rfl, rfl⟩, fun x hx => by rcases hx with hx | rfl; exact absurd hx (h2 x); exact Int.le_refl _, ⟨t, .inr rfl, rfl⟩, fun x hx => by rcases hx with hx | rfl; exact absurd hx (h2 x); exact Int.le_refl _⟩
      · rw [h1]
        obtain ⟨t1, k1, e1⟩ := h2.lo; obtain ⟨t2, k2, e2⟩ := h2.hi
        refine ⟨?_, fun x hx => ?_, ?_, fun x hx => ?_⟩
        · show ∃ x, _ ∧ loT b x = max s.Lo (loT b t)
          by_cases hm : s.Lo ≤ loT b t
          · exact ⟨t, .inr rfl, by omega⟩
          · exact ⟨t1, .inl k1, by omega⟩
        · show loT b x ≤ max s.Lo (loT b t)
          rcases hx with hx | rfl
          · have := h2.loB x hx; omega
          · omega
        · show ∃ x, _ ∧ hiT b x = min s.Hi (hiT b t)
          by_cases hm : hiT b t ≤ s.Hi
          · exact ⟨t, .inr rfl, by omega⟩
          · exact ⟨t2, .inl k2, by omega⟩
        · show min s.Hi (hiT b t) ≤ hiT b x
          rcases hx with hx | rfl
          · have := h2.hiB x hx; omega
          · omega
    · rw [valM_snoc, if_neg hu]
      have hAt : ∀ x, At b l u v (L ++ [t]) k x ↔ At b l u v L k x := fun x => by
        unfold At
        rw [List.mem_append, List.mem_singleton]
        constructor
        · rintro ⟨h1 | rfl, h2⟩
          · exact ⟨h1, h2⟩
          · exact absurd h2 hu
        · rintro ⟨h1, h2⟩; exact ⟨.inl h1, h2⟩
      rcases ih with ⟨h1, h2⟩ | ⟨s, h1, h2⟩
      · exact .inl ⟨h1, fun x hx => h2 x ((hAt x).1 hx)⟩
      · exact .inr ⟨s, h1, h2.congr fun x => (hAt x).symm⟩
theorem valM_iff {b : Bt.Basin} {l : List Bt.Gram} {u v : Int} {L : List Bt.Gram} {k : Int × Int} {s : Bt.Span} : valM b l u v L k = some s ↔ IsV b (At b l u v L k) s := by
  rcases valM_spec b l u v k _ L rfl with ⟨h1, h2⟩ | ⟨s', h1, h2⟩
  · rw [h1]
    constructor
    · intro h; cases h
    · intro h; obtain ⟨t, ht, _⟩ := h.lo; exact absurd ht (h2 t)
  · rw [h1]
    constructor
    · intro h; rw [← sJ h]; exact h2
    · intro h; rw [h2.unique h]
def IsR (b : Bt.Basin) (l : List Bt.Gram) (u v : Int) (r : Bt.Reading) : Prop := IsV b (At b l u v l (r.Hour, r.Gauge)) r.Value ∧ r.Value.Lo ≤ r.Value.Hi
def ltR (x y : Bt.Reading) : Prop := x.Hour < y.Hour ∨ x.Hour = y.Hour ∧ x.Gauge < y.Gauge
structure Rds (b : Bt.Basin) (l : List Bt.Gram) (u v : Int) (R : List Bt.Reading) : Prop where
  srt : R.Pairwise ltR
  mem : ∀ r, r ∈ R ↔ IsR b l u v r
theorem ltR_asymm (x y : Bt.Reading) (h : ltR x y) : ¬ ltR y x := fun k => by unfold ltR at h k; omega
theorem Rds.unique {b : Bt.Basin} {l l' : List Bt.Gram} {u v u' v' : Int} {R R' : List Bt.Reading} (h : Rds b l u v R) (k : Rds b l' u' v' R') (hm : ∀ r, IsR b l u v r ↔ IsR b l' u' v' r) : R = R' :=
  sorted_ext ltR_asymm h.srt k.srt fun r => by rw [h.mem, k.mem, hm]
end Se
namespace Se
open Go
def orL : List Int → Int
  | [] => 0
  | x :: xs => if x = 0 then orL xs else x
theorem orL_miss : ∀ {xs : List Int}, (∀ j, j < xs.length → xs.getD j 0 = 0) → orL xs = 0
  | [], _ => rfl
  | x :: xs, h => by
    have h0 := h 0 (by simp)
    rw [orL, if_pos (by simpa using h0)]
    exact orL_miss fun j hj => by have := h (j + 1) (by simpa using hj); simpa using this
theorem orL_hit : ∀ {xs : List Int} {k : Nat}, k < xs.length → (∀ j, j < k → xs.getD j 0 = 0) → xs.getD k 0 ≠ 0 → orL xs = xs.getD k 0
  | [], k, h, _, _ => by simp at h
  | x :: xs, 0, _, _, h => by rw [orL, if_neg (by simpa using h)]; rfl
  | x :: xs, k + 1, hk, hz, h => by
    have h0 := hz 0 (by omega)
    rw [orL, if_pos (by simpa using h0)]
    have := orL_hit (xs := xs) (k := k) (by simpa using hk) (fun j hj => by have := hz (j + 1) (by omega); simpa using this) (by simpa using h)
    simpa using this
def cR (x y : Bt.Reading) : Int := or2 (cI x.Hour y.Hour) (cI x.Gauge y.Gauge)
theorem cR_or (x y : Bt.Reading) : orL [cI x.Hour y.Hour, cI x.Gauge y.Gauge] = cR x y := by
  unfold cR or2
  simp only [orL]
  split
  · split
    · rename_i h; exact h.symm
    · rfl
  · rfl
theorem cI_rng (x y : Int) : -1 ≤ cI x y ∧ cI x y ≤ 1 := by rcases cI_cases x y with h | h | h <;> omega
theorem wf2 (a b c d : Int) : ∀ z ∈ [cI a b, cI c d], Go.K.I64 z := fun z hz => by
  simp only [List.mem_cons, List.not_mem_nil, or_false] at hz
  have h1 := cI_rng a b; have h2 := cI_rng c d
  unfold Go.K.I64
  rcases hz with rfl | rfl <;> omega
end Se
namespace Se
section
variable {α : Type} [Inhabited α] [DecidableEq α]
def appU (acc : List α) (x : α) : List α := if acc.getLast? = some x then acc else acc ++ [x]
def comp (L : List α) : List α := L.foldl appU []
omit [Inhabited α] in
theorem comp_snoc (L : List α) (x : α) : comp (L ++ [x]) = appU (comp L) x := by simp [comp]
theorem comp_last : ∀ {L : List α} {k : Nat}, 0 < k → k ≤ L.length → (comp (L.take k)).getLast? = some (L.getD (k - 1) default) := fun {L k} h0 hk => by
  obtain ⟨j, rfl⟩ : ∃ j, k = j + 1 := ⟨k - 1, by omega⟩
  rw [take_snoc (by omega), comp_snoc, Nat.add_sub_cancel]
  unfold appU
  split
  · assumption
  · simp
theorem comp_id {L : List α} : ∀ {k : Nat}, k ≤ L.length → (∀ j, 1 ≤ j → j < k → L.getD j default ≠ L.getD (j - 1) default) → comp (L.take k) = L.take k
  | 0, _, _ => by simp [comp]
  | k + 1, hk, h => by
    have ih := comp_id (k := k) (by omega) (fun j h1 h2 => h j h1 (by omega))
    rw [take_snoc (by omega), comp_snoc, ih]
    unfold appU
    rw [if_neg]
    rcases Nat.eq_zero_or_pos k with h0 | h0
    · subst h0; simp
    · have := comp_last (L := L) h0 (by omega)
      rw [ih] at this
      rw [this]
      intro he
      exact h k h0 (by omega) (sJ he).symm
theorem comp_eq {L : List α} {k : Nat} (h0 : 0 < k) (hk : k < L.length) (h : L.getD k default = L.getD (k - 1) default) : comp (L.take (k + 1)) = comp (L.take k) := by
  rw [take_snoc hk, comp_snoc, appU, comp_last h0 (by omega), h, if_pos rfl]
theorem comp_ne {L : List α} {k : Nat} (h0 : 0 < k) (hk : k < L.length) (h : L.getD k default ≠ L.getD (k - 1) default) : comp (L.take (k + 1)) = comp (L.take k) ++ [L.getD k default] := by
  rw [take_snoc hk, comp_snoc, appU, comp_last h0 (by omega), if_neg (fun e => h (sJ e).symm)]
structure CmI (L K : List α) (k p : Nat) : Prop where
  len : K.length = L.length
  pre : K.take k = comp (L.take p)
  kl : k = (comp (L.take p)).length
  post : ∀ j, p ≤ j + 1 → j < L.length → K.getD j default = L.getD j default
  kp : k + 1 ≤ p
theorem CmI.start {L : List α} {k : Nat} (h0 : 0 < k) (hk : k < L.length) (h : L.getD k default = L.getD (k - 1) default) (hid : ∀ j, 1 ≤ j → j < k → L.getD j default ≠ L.getD (j - 1) default) : CmI L L k (k + 1) := by
  have h1 := comp_id (Nat.le_of_lt hk) hid
  have h2 := comp_eq h0 hk h
  exact ⟨rfl, by rw [h2, h1], by rw [h2, h1, List.length_take]; omega, fun _ _ _ => rfl, Nat.le_refl _⟩
theorem CmI.keep {L K : List α} {k p : Nat} (h : CmI L K k p) (hp : p < L.length) (he : L.getD p default = L.getD (p - 1) default) : CmI L K k (p + 1) := by
  have h1 := h.kp
  have h2 := comp_eq (L := L) (show 0 < p by omega) hp he
  exact ⟨h.len, by rw [h2]; exact h.pre, by rw [h2]; exact h.kl, fun j hj hl => h.post j (by omega) hl, by omega⟩
theorem CmI.put {L K : List α} {k p : Nat} (h : CmI L K k p) (hp : p < L.length) (he : L.getD p default ≠ L.getD (p - 1) default) : CmI L (K.set k (L.getD p default)) (k + 1) (p + 1) := by
  have h1 := h.kp
  have hl := h.len
  have h2 := comp_ne (L := L) (show 0 < p by omega) hp he
  refine ⟨by simp [hl], ?_, by rw [h2, List.length_append, ← h.kl]; rfl, fun j hj hlj => ?_, by omega⟩
  · rw [h2, ← h.pre, take_snoc (by simp; omega)]
    have e1 : (K.set k (L.getD p default)).take k = K.take k := by rw [List.take_set]; exact List.set_eq_of_length_le (by rw [List.length_take]; omega)
    have e2 : (K.set k (L.getD p default)).getD k default = L.getD p default := by rw [gDD, List.getElem?_set_self (by omega)]; rfl
    rw [e1, e2]
  · rw [gDD, List.getElem?_set_ne (by omega), ← gDD]
    exact h.post j (by omega) hlj
omit [Inhabited α] in
theorem comp_sub : ∀ (L acc : List α), (L.foldl appU acc).length ≤ acc.length + L.length ∧ ∀ x ∈ L.foldl appU acc, x ∈ acc ∨ x ∈ L
  | [], acc => ⟨Nat.le_refl _, fun _ hx => .inl hx⟩
  | y :: L, acc => by
    obtain ⟨h1, h2⟩ := comp_sub L (appU acc y)
    have h3 : (appU acc y).length ≤ acc.length + 1 := by unfold appU; split <;> simp
    refine ⟨?_, fun x hx => ?_⟩
    · simp only [List.foldl_cons, List.length_cons]; omega
    · rcases h2 x hx with h | h
      · unfold appU at h
        split at h
        · exact .inl h
        · rcases List.mem_append.1 h with h | h
          · exact .inl h
          · exact .inr (by simp at h; simp [h])
      · exact .inr (List.mem_cons_of_mem _ h)
omit [Inhabited α] in
theorem comp_le (L : List α) : (comp L).length ≤ L.length := by have := (comp_sub L []).1; simpa [comp] using this
omit [Inhabited α] in
theorem comp_mem {L : List α} {x : α} (h : x ∈ comp L) : x ∈ L := by
  rcases (comp_sub L []).2 x h with h | h
  · cases h
  · exact h
omit [Inhabited α] in
omit [Inhabited α] in
end
section
variable {α : Type}
theorem flat_take (xss : List (List α)) (k : Nat) (hk : k < xss.length) : (xss.take (k + 1)).flatten = (xss.take k).flatten ++ xss.getD k [] := by
  rw [List.take_succ_eq_append_getElem hk, List.flatten_append, gDD, List.getElem?_eq_getElem hk]; simp
end
theorem frst_nil : frst [] = fun _ => none := by funext k; rfl
theorem voidM_nil : voidM [] = fun _ => none := by funext k; unfold voidM; rw [if_neg]; rintro ⟨t, ht, _⟩; cases ht
theorem frst_put {l : List Bt.Gram} {t : Bt.Gram} (h : frst l (t.Gauge, t.Seq) = none) : (fun j => if j = (t.Gauge, t.Seq) then some t else frst l j) = frst (l ++ [t]) := by
  funext j
  rw [frst_snoc]
  by_cases hj : j = (t.Gauge, t.Seq)
  · subst hj; rw [if_pos rfl, if_pos h, if_pos rfl]
  · rw [if_neg hj]
    by_cases hn : frst l j = none
    · rw [if_pos hn, if_neg hj, hn]
    · rw [if_neg hn]
theorem frst_keep {l : List Bt.Gram} {t f : Bt.Gram} (h : frst l (t.Gauge, t.Seq) = some f) : frst (l ++ [t]) = frst l := by
  funext j
  rw [frst_snoc]
  by_cases hj : j = (t.Gauge, t.Seq)
  · subst hj; rw [if_neg (by rw [h]; simp)]
  · by_cases hn : frst l j = none
    · rw [if_pos hn, if_neg hj, hn]
    · rw [if_neg hn]
theorem voidM_keep {l : List Bt.Gram} {t : Bt.Gram} (h : ¬ ∃ f, frst l (t.Gauge, t.Seq) = some f ∧ f ≠ t) : voidM (l ++ [t]) = voidM l := by
  funext j
  rw [voidM_snoc, if_neg (fun e => h e.2)]
theorem voidM_put {l : List Bt.Gram} {t f : Bt.Gram} (hf : frst l (t.Gauge, t.Seq) = some f) (hne : f ≠ t) : (fun j => if j = t.Gauge then some true else voidM l j) = voidM (l ++ [t]) := by
  funext j
  rw [voidM_snoc]
  by_cases hj : j = t.Gauge
  · rw [if_pos hj, if_pos ⟨hj, f, hf, hne⟩]
  · rw [if_neg hj, if_neg (fun e => hj e.1)]
open Classical in
theorem voidM_dec (l : List Bt.Gram) (g : Int) [Decidable (VoidP l g)] : (voidM l g).getD false = decide (VoidP l g) := by
  have h := voidM_iff l g
  by_cases hv : VoidP l g
  · rw [h.2 hv]; simp [hv]
  · have h1 : voidM l g ≠ some true := fun e => hv (h.1 e)
    have h2 : voidM l g = none := by unfold voidM at h1 ⊢; split <;> simp_all
    rw [h2]; simp [hv]
end Se
namespace Se
open Go.Sort Go.Proofs
/-! ### the library's order -/
theorem ltOf_iff {α : Type} (cf : α → α → Int) (x y : α) : ltOf cf x y = true ↔ cf x y < 0 := by simp [ltOf]
theorem ltOf_not {α : Type} (cf : α → α → Int) (x y : α) : ltOf cf x y = false ↔ ¬ cf x y < 0 := by simp [ltOf]
theorem swo_of {α : Type} {cf : α → α → Int} (hi : ∀ x, ¬ cf x x < 0) (ht : ∀ x y z, cf x y < 0 → cf y z < 0 → cf x z < 0) (hn : ∀ x y z, ¬ cf x y < 0 → ¬ cf y z < 0 → ¬ cf x z < 0) : SWO (ltOf cf) where
  irrefl := fun x => (ltOf_not cf x x).2 (hi x)
  trans := fun x y z h k => (ltOf_iff cf x z).2 (ht x y z ((ltOf_iff cf x y).1 h) ((ltOf_iff cf y z).1 k))
  ntrans := fun x y z h k => (ltOf_not cf x z).2 (hn x y z ((ltOf_not cf x y).1 h) ((ltOf_not cf y z).1 k))
theorem cR_iff (x y : Bt.Reading) : cR x y < 0 ↔ ltR x y := by
  unfold cR or2 ltR
  rcases cI_cases x.Hour y.Hour with ⟨e, h⟩ | ⟨e, h⟩ | ⟨e, h⟩ <;> rw [e]
  · simp [h]
  · simp; omega
  · rcases cI_cases x.Gauge y.Gauge with ⟨e2, h2⟩ | ⟨e2, h2⟩ | ⟨e2, h2⟩ <;> rw [e2] <;> simp <;> omega
theorem swoR : SWO (ltOf cR) := swo_of (fun x => by rw [cR_iff]; unfold ltR; omega) (fun x y z => by simp only [cR_iff]; unfold ltR; omega) (fun x y z => by simp only [cR_iff]; unfold ltR; omega)
theorem sortedR {d : List Bt.Reading} (h : d.Pairwise (fun x y => ltOf cR y x = false)) (hd : d.Pairwise fun x y => ¬ (x.Hour = y.Hour ∧ x.Gauge = y.Gauge)) : d.Pairwise ltR := by
  refine (h.and hd).imp fun {x y} hh => ?_
  have h1 := hh.1
  rw [ltOf_not, cR_iff] at h1
  have h2 := hh.2
  unfold ltR at h1 ⊢
  omega
end Se
namespace Se
def eqC (x y : Bt.Gram) : Bool := decide (x.Gauge = y.Gauge) && decide (x.Seq = y.Seq) && decide (x.Clock = y.Clock) && decide (x.Value = y.Value) && decide (x.Tag.data.toList = y.Tag.data.toList)
def voidC (l : List Bt.Gram) (g : Int) : Bool := l.any fun x => l.any fun y => decide (x.Gauge = g) && decide (y.Gauge = g) && decide (x.Seq = y.Seq) && !eqC x y
def useC (b : Bt.Basin) (l : List Bt.Gram) (u v : Int) (t : Bt.Gram) : Bool := decide (Right b.Gauges.length t) && !voidC l t.Gauge && decide (Sure (gOf b t) t) && decide (u ≤ hourT (gOf b t) t) && decide (hourT (gOf b t) t < v)
def valC (b : Bt.Basin) (l : List Bt.Gram) (u v : Int) (L : List Bt.Gram) (k : Int × Int) : Option Bt.Span := L.foldl (fun o t => if useC b l u v t && decide (plc b t = k) then some (joinV o (loT b t) (hiT b t)) else o) none
end Se
namespace Se
theorem nodup_le2 {α : Type} [DecidableEq α] : ∀ {l r : List α}, l.Nodup → (∀ x ∈ l, x ∈ r) → l.length ≤ r.length
  | [], _, _, _ => Nat.zero_le _
  | x :: l, r, hn, h => by
    obtain ⟨h1, h2⟩ := List.nodup_cons.1 hn
    have hx := h x (by simp)
    have := nodup_le2 (l := l) (r := r.erase x) h2 fun y hy => (List.mem_erase_of_ne (fun e => h1 (by rw [← e]; exact hy))).2 (h y (by simp [hy]))
    have h3 := List.length_erase_of_mem hx
    have h4 := List.length_pos_of_mem hx
    simp only [List.length_cons]
    omega
end Se
namespace Se
theorem isR_congr {b : Bt.Basin} {l l' : List Bt.Gram} {u v u' v' : Int} {r : Bt.Reading} (h : ∀ t, At b l u v l (r.Hour, r.Gauge) t ↔ At b l' u' v' l' (r.Hour, r.Gauge) t) : IsR b l u v r ↔ IsR b l' u' v' r :=
  ⟨fun ⟨h1, h2⟩ => ⟨h1.congr h, h2⟩, fun ⟨h1, h2⟩ => ⟨h1.congr (fun t => (h t).symm), h2⟩⟩
theorem isR_at {b : Bt.Basin} {l : List Bt.Gram} {u v : Int} {r : Bt.Reading} (h : IsR b l u v r) : ∃ t, At b l u v l (r.Hour, r.Gauge) t := let ⟨t, ht, _⟩ := h.1.lo; ⟨t, ht⟩
theorem at_gauge {b : Bt.Basin} {l L : List Bt.Gram} {u v : Int} {k : Int × Int} {t : Bt.Gram} (h : At b l u v L k t) : t.Gauge = k.2 := by rw [← h.2.2]; rfl
theorem voidP_congr {l r : List Bt.Gram} {g : Int} (h : ∀ x : Bt.Gram, x.Gauge = g → (x ∈ l ↔ x ∈ r)) : VoidP l g ↔ VoidP r g :=
  ⟨voidP_mono fun x hx hg => (h x hg).1 hx, voidP_mono fun x hx hg => (h x hg).2 hx⟩
theorem void_other {l : List Bt.Gram} {e g : Bt.Gram} (he : e ∈ l) (h1 : g.Gauge = e.Gauge) (h2 : g.Seq = e.Seq) (h3 : g ≠ e) : VoidP (l ++ [g]) e.Gauge :=
  ⟨e, by simp [he], g, by simp, rfl, h1, h2.symm, fun h => h3 h.symm⟩
theorem isR_void {b : Bt.Basin} {l : List Bt.Gram} {u v : Int} {e g : Bt.Gram} (he : e ∈ l) (h1 : g.Gauge = e.Gauge) (h2 : g.Seq = e.Seq) (h3 : g ≠ e) (r : Bt.Reading) : IsR b (l ++ [g]) u v r ↔ IsR b l u v r ∧ r.Gauge ≠ e.Gauge := by
  by_cases hr : r.Gauge = e.Gauge
  · refine ⟨fun h => ?_, fun h => absurd hr h.2⟩
    obtain ⟨t, ht⟩ := isR_at h
    have hg := at_gauge ht
    exact absurd (by rw [hg]; show VoidP (l ++ [g]) r.Gauge; rw [hr]; exact void_other he h1 h2 h3) ht.2.1.2.1
  · have hc : IsR b (l ++ [g]) u v r ↔ IsR b l u v r := isR_congr fun t => by
      have hv : ∀ q : Int, q ≠ e.Gauge → (VoidP (l ++ [g]) q ↔ VoidP l q) := fun q hq => voidP_congr fun x hx => by
        rw [List.mem_append]
        refine ⟨fun h => h.elim id fun h4 => ?_, Or.inl⟩
        obtain rfl := List.mem_singleton.1 h4
        exact absurd (hx.symm.trans h1) hq
      constructor
      · intro h
        have hg : t.Gauge = r.Gauge := at_gauge h
        obtain ⟨a1, ⟨a2, a3, a4⟩, a5⟩ := h
        refine ⟨?_, ⟨a2, by rw [hg] at a3 ⊢; rw [hv _ hr] at a3; exact a3, a4⟩, a5⟩
        rcases List.mem_append.1 a1 with a6 | a6
        · exact a6
        · obtain rfl := List.mem_singleton.1 a6
          exact absurd (hg.symm.trans h1) hr
      · intro h
        have hg : t.Gauge = r.Gauge := at_gauge h
        obtain ⟨a1, ⟨a2, a3, a4⟩, a5⟩ := h
        exact ⟨List.mem_append_left _ a1, ⟨a2, by rw [hg] at a3 ⊢; rw [hv _ hr]; exact a3, a4⟩, a5⟩
    rw [hc]
    exact ⟨fun h => ⟨h, hr⟩, fun h => h.1⟩
theorem isR_part {b : Bt.Basin} {l l' : List Bt.Gram} {u v : Int} {r : Bt.Reading} (h : ∀ t : Bt.Gram, t.Gauge = r.Gauge → (t ∈ l ↔ t ∈ l')) : IsR b l u v r ↔ IsR b l' u v r := isR_congr fun t => by
  constructor
  · intro ha
    have hg : t.Gauge = r.Gauge := at_gauge ha
    obtain ⟨a1, ⟨a2, a3, a4⟩, a5⟩ := ha
    exact ⟨(h t hg).1 a1, ⟨a2, by rw [hg] at a3 ⊢; rwa [← voidP_congr (l := l) (r := l') fun x hx => h x hx], a4⟩, a5⟩
  · intro ha
    have hg : t.Gauge = r.Gauge := at_gauge ha
    obtain ⟨a1, ⟨a2, a3, a4⟩, a5⟩ := ha
    exact ⟨(h t hg).2 a1, ⟨a2, by rw [hg] at a3 ⊢; rwa [voidP_congr (l := l) (r := l') fun x hx => h x hx], a4⟩, a5⟩
theorem Rds.len {b : Bt.Basin} {l : List Bt.Gram} {u v : Int} {R : List Bt.Reading} (h : Rds b l u v R) : R.length ≤ l.length := by
  have hn : (R.map fun r => (r.Hour, r.Gauge)).Nodup := by
    refine List.pairwise_map.2 (h.srt.imp fun {x y} hxy e => ?_)
    simp only [Prod.mk.injEq] at e
    unfold ltR at hxy
    omega
  have := nodup_le2 (r := l.map (plc b)) hn fun p hp => by
    obtain ⟨r, hr, rfl⟩ := List.mem_map.1 hp
    obtain ⟨t, ht⟩ := isR_at ((h.mem r).1 hr)
    exact List.mem_map.2 ⟨t, ht.1, ht.2.2⟩
  simpa using this
end Se
namespace Go.Proofs.YtblfeidlnhdekaaGreat.Sr
open Go Go.K Go.RowKit Go.WideMaps Go.Maps
theorem laidOut_ : laidOutB pg = true := by kernel_rfl
theorem tySize : ∃ m, pg.types.size = m + 1 := ⟨pg.types.size - 1, by kernel_rfl⟩
theorem litWf {a : Int} (h : I64 a) : (Lit.int .i64 a).wf = true := by
 unfold I64 at h
 simp [Lit.wf, IntKind.min, IntKind.max, IntKind.bits, IntKind.signed]
 omega
theorem cells133 : pg.cellsOf 133 = 2 := by kernel_rfl
theorem cells90 : pg.cellsOf 90 = 2 := by kernel_rfl
theorem cells3 : pg.cellsOf 3 = 1 := by kernel_rfl
theorem keyT133 : pg.keyType 133 = true := by kernel_rfl
theorem keyT90 : pg.keyType 90 = true := by kernel_rfl
theorem num_key {a b : Int} (ha : I64 a) (hb : I64 b) : ∃ l, keyOf pg 133 (.agg #[iV a, iV b]) = some l := by
 obtain ⟨m, hm⟩ := tySize
 have hf : (Value.agg #[iV a, iV b]).formed pg 133 = true := by simp [Value.formed, cells133]
 have wa := litWf ha
 have wb := litWf hb
 unfold keyOf
 rw [uT133]
 simp only [keyT133, hf, Bool.and_self, if_true, hm]
 refine ⟨.string (keyBytes [.int .i64 a, .int .i64 b]), ?_⟩
 simp [Program.keyLits, Value.cells, cells133, cells3, wa, wb]
theorem plc_key {a b : Int} (ha : I64 a) (hb : I64 b) : ∃ l, keyOf pg 90 (.agg #[iV a, iV b]) = some l := by
 obtain ⟨m, hm⟩ := tySize
 have hf : (Value.agg #[iV a, iV b]).formed pg 90 = true := by simp [Value.formed, cells90]
 have wa := litWf ha
 have wb := litWf hb
 unfold keyOf
 rw [uT90]
 simp only [keyT90, hf, Bool.and_self, if_true, hm]
 refine ⟨.string (keyBytes [.int .i64 a, .int .i64 b]), ?_⟩
 simp [Program.keyLits, Value.cells, cells90, cells3, wa, wb]
abbrev pairW (k : Int × Int) : Value := .agg #[iV k.1, iV k.2]
def pairOk (k : Int × Int) : Prop := I64 k.1 ∧ I64 k.2
theorem pairW_inj {a b : Int × Int} (h : pairW a = pairW b) : a = b := by
 obtain ⟨a1, a2⟩ := a; obtain ⟨b1, b2⟩ := b
 simp only [pairW, Value.agg.injEq, Array.mk.injEq, List.cons.injEq, Value.int.injEq, true_and, and_true] at h
 rw [h.1, h.2]
noncomputable def kNum : KL pg 133 (Int × Int) := KL.of (Keyed.of_law (deep_law_laid laidOut_ (m := 2) (by omega) (odT (by kernel_rfl)) (by kernel_rfl) (by rw [uT133]))) pairW pairOk pairW_inj fun a ha => num_key ha.1 ha.2
noncomputable def kPlc : KL pg 90 (Int × Int) := KL.of (Keyed.of_law (deep_law_laid laidOut_ (m := 2) (by omega) (odT (by kernel_rfl)) (by kernel_rfl) (by rw [uT90]))) pairW pairOk pairW_inj fun a ha => plc_key ha.1 ha.2
noncomputable def kInt : KL pg 3 Int := KL.of (int_keyed uT3) (Value.int .i64) I64 (fun h => by simpa using h) fun a ha => ⟨_, keyOf_int_mk uT3 (litWf ha)⟩
abbrev gramV (t : Bt.Gram) : Value := .agg #[iV t.Gauge, iV t.Seq, iV t.Clock, iV t.Value, .string t.Tag]
abbrev spanV (t : Bt.Span) : Value := .agg #[iV t.Lo, iV t.Hi]
end Go.Proofs.YtblfeidlnhdekaaGreat.Sr
