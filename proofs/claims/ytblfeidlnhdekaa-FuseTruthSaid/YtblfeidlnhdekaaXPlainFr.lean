/- Plain facts: readings that contain the truth. Conditions: those of each theorem. -/
import Derived.Test.YtblfeidlnhdekaaXPlainFt
import Derived.Test.YtblfeidlnhdekaaXPlainE
import Derived.Test.YtblfeidlnhdekaaXPlainH
namespace Fu
def InV (vol : Nat → Int) (V : List Bt.Span) : Prop := ∀ p, p < V.length → (V.getD p default).Lo ≤ vol p ∧ vol p ≤ (V.getD p default).Hi
def InK (pos : Nat → Int) (K : List Bt.Known) : Prop := ∀ p, p < K.length → (K.getD p default).Pos.Lo ≤ pos p ∧ pos p ≤ (K.getD p default).Pos.Hi
structure TrueR (b : Bt.Basin) (nV nK : Nat) (vol pos : Nat → Int) (r : Bt.Reading) : Prop where
  v : kindOf b nV nK r = 1 → tgt b r < nV ∧ (volR b r).isSome = true ∧ loOf (volR b r) ≤ vol (tgt b r) ∧ vol (tgt b r) ≤ hiOf (volR b r)
  k : kindOf b nV nK r = 2 → tgt b r < nK ∧ r.Value.Lo ≤ pos (tgt b r) ∧ pos (tgt b r) ≤ r.Value.Hi
theorem meet_in {a b c d x : Int} (h1 : a ≤ x ∧ x ≤ b) (h2 : c ≤ x ∧ x ≤ d) : (meet a b c d).isSome = true ∧ loOf (meet a b c d) = max a c ∧ hiOf (meet a b c d) = min b d := by
  unfold meet
  rw [if_pos (by omega)]
  exact ⟨rfl, rfl, rfl⟩
theorem getD_set {α : Type} [Inhabited α] (L : List α) (i p : Nat) (x : α) (hi : i < L.length) : (L.set i x).getD p default = if i = p then x else L.getD p default := by
  rw [List.getD_eq_getElem?_getD, List.getD_eq_getElem?_getD, List.getElem?_set]
  split
  · rename_i h; subst h; first | rfl | (rw [if_pos hi]; rfl)
  · rfl
/-- what a list of readings leaves of the volumes and positions -/
structure Nar (b : Bt.Basin) (nV nK : Nat) (vol pos : Nat → Int) (S : Bt.Reading → Prop) (F G : FS) : Prop where
  vl : G.V.length = F.V.length
  kl : G.K.length = F.K.length
  iv : InV vol G.V
  ik : InK pos G.K
  n : G.N = F.N
  mv : ∀ p x, p < nV → (((G.V.getD p default).Lo ≤ x ∧ x ≤ (G.V.getD p default).Hi) ↔ ((F.V.getD p default).Lo ≤ x ∧ x ≤ (F.V.getD p default).Hi) ∧ ∀ r, S r → kindOf b nV nK r = 1 → tgt b r = p → loOf (volR b r) ≤ x ∧ x ≤ hiOf (volR b r))
  mq : ∀ p x, p < nK → (((G.K.getD p default).Pos.Lo ≤ x ∧ x ≤ (G.K.getD p default).Pos.Hi) ↔ ((F.K.getD p default).Pos.Lo ≤ x ∧ x ≤ (F.K.getD p default).Pos.Hi) ∧ ∀ r, S r → kindOf b nV nK r = 2 → tgt b r = p → r.Value.Lo ≤ x ∧ x ≤ r.Value.Hi)
  ot : ∀ p, p < nK → (G.K.getD p default).Target = (F.K.getD p default).Target ∧ (G.K.getD p default).Open = (F.K.getD p default).Open
theorem step_nar {b : Bt.Basin} {vol pos : Nat → Int} {F : FS} {r : Bt.Reading} (hV : InV vol F.V) (hK : InK pos F.K) (hr : TrueR b F.V.length F.K.length vol pos r) : Nar b F.V.length F.K.length vol pos (fun q => q = r) F (stepF b F r) := by
  by_cases h1 : kindOf b F.V.length F.K.length r = 1
  · obtain ⟨ht, hs, hlo, hhi⟩ := hr.v h1
    have hm := meet_in (hV _ ht) ⟨hlo, hhi⟩
    have ho : okV b F.V r = true := by unfold okV; rw [hs, hm.1]; rfl
    rw [step1 h1 ho, narV_some hm.1, hm.2.1, hm.2.2]
    refine ⟨by simp, rfl, fun p hp => ?_, hK, rfl, fun p x hp => ?_, fun p x hp => ⟨fun h => ⟨h, fun q hq h2 _ => ?_⟩, fun h => h.1⟩, fun p hp => ⟨rfl, rfl⟩⟩
    · dsimp only at hp ⊢
      rw [List.length_set] at hp
      rw [getD_set _ _ _ _ ht]
      split
      · rename_i e; subst e; have := hV _ ht; dsimp only; omega
      · exact hV p hp
    · dsimp only
      rw [getD_set _ _ _ _ ht]
      split
      · rename_i e; subst e; dsimp only
        constructor
        · intro h; exact ⟨by omega, fun q hq _ _ => by subst hq; omega⟩
        · intro h; have := h.2 r rfl h1 rfl; omega
      · rename_i e
        exact ⟨fun h => ⟨h, fun q hq _ h3 => by subst hq; exact absurd h3 e⟩, fun h => h.1⟩
    · subst hq; rw [h1] at h2; cases h2
  · by_cases h2 : kindOf b F.V.length F.K.length r = 2
    · obtain ⟨ht, hlo, hhi⟩ := hr.k h2
      have hm := meet_in (hK _ ht) ⟨hlo, hhi⟩
      have ho : okK b F.K r = true := hm.1
      rw [step2 h2 ho, narL_some hm.1, hm.2.1, hm.2.2]
      refine ⟨rfl, by simp, hV, fun p hp => ?_, rfl, fun p x hp => ⟨fun h => ⟨h, fun q hq h3 _ => ?_⟩, fun h => h.1⟩, fun p x hp => ?_, fun p hp => ?_⟩
      · dsimp only at hp ⊢
        rw [List.length_set] at hp
        rw [getD_set _ _ _ _ ht]
        split
        · rename_i e; subst e; have := hK _ ht; dsimp only; omega
        · exact hK p hp
      · subst hq; exact absurd h3 h1
      · dsimp only
        rw [getD_set _ _ _ _ ht]
        split
        · rename_i e; subst e; dsimp only
          constructor
          · intro h; exact ⟨by omega, fun q hq _ _ => by subst hq; omega⟩
          · intro h; have := h.2 r rfl h2 rfl; omega
        · rename_i e
          exact ⟨fun h => ⟨h, fun q hq _ h3 => by subst hq; exact absurd h3 e⟩, fun h => h.1⟩
      · dsimp only
        rw [getD_set _ _ _ _ ht]
        split
        · rename_i e; subst e; exact ⟨rfl, rfl⟩
        · exact ⟨rfl, rfl⟩
    · have e : stepF b F r = F := by unfold stepF; rw [if_neg h1, if_neg h2]
      rw [e]
      exact ⟨rfl, rfl, hV, hK, rfl, fun p x _ => ⟨fun h => ⟨h, fun q hq h3 _ => by subst hq; exact absurd h3 h1⟩, fun h => h.1⟩, fun p x _ => ⟨fun h => ⟨h, fun q hq h3 _ => by subst hq; exact absurd h3 h2⟩, fun h => h.1⟩, fun p _ => ⟨rfl, rfl⟩⟩
theorem fold_nar {b : Bt.Basin} {vol pos : Nat → Int} : ∀ (L : List Bt.Reading) {F : FS}, InV vol F.V → InK pos F.K → (∀ r ∈ L, TrueR b F.V.length F.K.length vol pos r) → Nar b F.V.length F.K.length vol pos (fun q => q ∈ L) F (L.foldl (stepF b) F)
  | [], F, hV, hK, _ => ⟨rfl, rfl, hV, hK, rfl, fun p x _ => ⟨fun h => ⟨h, fun q hq => by cases hq⟩, fun h => h.1⟩, fun p x _ => ⟨fun h => ⟨h, fun q hq => by cases hq⟩, fun h => h.1⟩, fun p _ => ⟨rfl, rfl⟩⟩
  | r :: L, F, hV, hK, hL => by
    have h1 := step_nar hV hK (hL r (by simp))
    have h2 := fold_nar (F := stepF b F r) L h1.iv h1.ik (by rw [h1.vl, h1.kl]; exact fun q hq => hL q (by simp [hq]))
    rw [h1.vl, h1.kl] at h2
    rw [List.foldl_cons]
    refine ⟨h2.vl.trans h1.vl, h2.kl.trans h1.kl, h2.iv, h2.ik, h2.n.trans h1.n, fun p x hp => ?_, fun p x hp => ?_, fun p hp => ⟨(h2.ot p hp).1.trans (h1.ot p hp).1, (h2.ot p hp).2.trans (h1.ot p hp).2⟩⟩
    · rw [h2.mv p x hp, h1.mv p x hp]
      constructor
      · rintro ⟨⟨a, c⟩, d⟩
        refine ⟨a, fun q hq => ?_⟩
        rcases List.mem_cons.1 hq with e | e
        · exact c q e
        · exact d q e
      · rintro ⟨a, c⟩
        exact ⟨⟨a, fun q hq => c q (by subst hq; simp)⟩, fun q hq => c q (by simp [hq])⟩
    · rw [h2.mq p x hp, h1.mq p x hp]
      constructor
      · rintro ⟨⟨a, c⟩, d⟩
        refine ⟨a, fun q hq => ?_⟩
        rcases List.mem_cons.1 hq with e | e
        · exact c q e
        · exact d q e
      · rintro ⟨a, c⟩
        exact ⟨⟨a, fun q hq => c q (by subst hq; simp)⟩, fun q hq => c q (by simp [hq])⟩
theorem ends_eq {a b c d v : Int} (h1 : a ≤ v ∧ v ≤ b) (h2 : c ≤ v ∧ v ≤ d) (h : ∀ x, (a ≤ x ∧ x ≤ b) ↔ (c ≤ x ∧ x ≤ d)) : a = c ∧ b = d := by
  have p1 := h a; have p2 := h b; have p3 := h c; have p4 := h d
  omega
theorem sp_ext {x y : Bt.Span} (h1 : x.Lo = y.Lo) (h2 : x.Hi = y.Hi) : x = y := by
  obtain ⟨a, b⟩ := x; obtain ⟨c, d⟩ := y
  simp only at h1 h2; rw [h1, h2]
theorem list_ext {α : Type} [Inhabited α] {L M : List α} (hl : L.length = M.length) (h : ∀ p, p < L.length → L.getD p default = M.getD p default) : L = M := by
  refine List.ext_getElem hl fun p h1 h2 => ?_
  have := h p h1
  rwa [List.getD_eq_getElem?_getD, List.getD_eq_getElem?_getD, List.getElem?_eq_getElem h1, List.getElem?_eq_getElem h2] at this
/-- what is left is told by the set of the readings -/
theorem Nar.same {b : Bt.Basin} {vol pos : Nat → Int} {S T : Bt.Reading → Prop} {F G H : FS} (h1 : Nar b F.V.length F.K.length vol pos S F G) (h2 : Nar b F.V.length F.K.length vol pos T F H) (hST : ∀ r, S r ↔ T r) : G.V = H.V ∧ G.K = H.K := by
  obtain rfl : S = T := funext fun r => propext (hST r)
  constructor
  · refine list_ext (h1.vl.trans h2.vl.symm) fun p hp => ?_
    have hp2 : p < F.V.length := by rw [← h1.vl]; exact hp
    have e := ends_eq (h1.iv p hp) (h2.iv p (by rw [h2.vl]; exact hp2)) fun x => (h1.mv p x hp2).trans (h2.mv p x hp2).symm
    exact sp_ext e.1 e.2
  · refine list_ext (h1.kl.trans h2.kl.symm) fun p hp => ?_
    have hp2 : p < F.K.length := by rw [← h1.kl]; exact hp
    have e := ends_eq (h1.ik p hp) (h2.ik p (by rw [h2.kl]; exact hp2)) fun x => (h1.mq p x hp2).trans (h2.mq p x hp2).symm
    have o1 := h1.ot p hp2
    have o2 := h2.ot p hp2
    refine known_ext ⟨⟨⟨e, o1.1.trans o2.1.symm⟩, ?_⟩, ?_⟩
    · rw [o1.2, o2.2]
    · rw [o1.2, o2.2]
/-- a second time -/
theorem Nar.again {b : Bt.Basin} {vol pos : Nat → Int} {S : Bt.Reading → Prop} {F G H : FS} (h1 : Nar b F.V.length F.K.length vol pos S F G) (h2 : Nar b F.V.length F.K.length vol pos S G H) : H.V = G.V ∧ H.K = G.K := by
  constructor
  · refine list_ext h2.vl fun p hp => ?_
    have hp1 : p < G.V.length := by rw [← h2.vl]; exact hp
    have hp2 : p < F.V.length := by rw [← h1.vl]; exact hp1
    have e := ends_eq (h2.iv p hp) (h1.iv p hp1) fun x => (h2.mv p x hp2).trans ⟨fun h => h.1, fun h => ⟨h, ((h1.mv p x hp2).1 h).2⟩⟩
    exact sp_ext e.1 e.2
  · refine list_ext h2.kl fun p hp => ?_
    have hp1 : p < G.K.length := by rw [← h2.kl]; exact hp
    have hp2 : p < F.K.length := by rw [← h1.kl]; exact hp1
    have e := ends_eq (h2.ik p hp) (h1.ik p hp1) fun x => (h2.mq p x hp2).trans ⟨fun h => h.1, fun h => ⟨h, ((h1.mq p x hp2).1 h).2⟩⟩
    have o2 := h2.ot p hp2
    exact known_ext ⟨⟨⟨e, o2.1⟩, by rw [o2.2]⟩, by rw [o2.2]⟩
/-- nothing is wider -/
theorem Nar.thin {b : Bt.Basin} {vol pos : Nat → Int} {S : Bt.Reading → Prop} {F G : FS} (h : Nar b F.V.length F.K.length vol pos S F G) : (∀ p, p < F.V.length → (F.V.getD p default).Lo ≤ (G.V.getD p default).Lo ∧ (G.V.getD p default).Hi ≤ (F.V.getD p default).Hi) ∧ ∀ p, p < F.K.length → (F.K.getD p default).Pos.Lo ≤ (G.K.getD p default).Pos.Lo ∧ (G.K.getD p default).Pos.Hi ≤ (F.K.getD p default).Pos.Hi := by
  constructor
  · intro p hp
    have h0 := h.iv p (by rw [h.vl]; exact hp)
    have a := (h.mv p (G.V.getD p default).Lo hp).1 (by omega)
    have c := (h.mv p (G.V.getD p default).Hi hp).1 (by omega)
    omega
  · intro p hp
    have h0 := h.ik p (by rw [h.kl]; exact hp)
    have a := (h.mq p (G.K.getD p default).Pos.Lo hp).1 (by omega)
    have c := (h.mq p (G.K.getD p default).Pos.Hi hp).1 (by omega)
    omega
theorem fuse_nar {b : Bt.Basin} {h : Bt.Hull} {vol pos : Nat → Int} {l : List Bt.Reading} (hV : InV vol h.Vol) (hK : InK pos h.Links) (hl : ∀ r ∈ l, TrueR b h.Vol.length h.Links.length vol pos r) : Nar b h.Vol.length h.Links.length vol pos (fun q => q ∈ order b.Gauges.length (atH h.Hour l)) ⟨h.Vol, h.Links, []⟩ (fuse b h l) :=
  fold_nar (F := ⟨h.Vol, h.Links, []⟩) (order b.Gauges.length (atH h.Hour l)) hV hK fun r hr => by
    unfold order at hr
    obtain ⟨g, _, hg⟩ := List.mem_flatMap.1 hr
    exact hl r (List.mem_filter.1 (List.mem_filter.1 hg).1).1
theorem order_rev (n : Nat) (hr : Int) (l : List Bt.Reading) (q : Bt.Reading) : q ∈ order n (atH hr l) ↔ q ∈ order n (atH hr l.reverse) := by
  unfold order atH
  simp [List.mem_flatMap, List.mem_filter]
/-- the whole law about the readings -/
theorem fuse_true {b : Bt.Basin} {h : Bt.Hull} {vol pos : Nat → Int} {l : List Bt.Reading} (hV : InV vol h.Vol) (hK : InK pos h.Links) (hl : ∀ r ∈ l, TrueR b h.Vol.length h.Links.length vol pos r) :
    let F := fuse b h l
    F.V.length = h.Vol.length ∧ F.K.length = h.Links.length ∧ InV vol F.V ∧ InK pos F.K ∧ comp F.N = [] ∧ comp (fuse b (hullOf h F) l).N = [] ∧ comp (fuse b h l.reverse).N = [] ∧ sameH (hullOf (hullOf h F) (fuse b (hullOf h F) l)) (hullOf h F) ∧ sameH (hullOf h (fuse b h l.reverse)) (hullOf h F) ∧ (∀ p, p < h.Vol.length → (h.Vol.getD p default).Lo ≤ (F.V.getD p default).Lo ∧ (F.V.getD p default).Hi ≤ (h.Vol.getD p default).Hi) ∧ ∀ p, p < h.Links.length → ((h.Links.getD p default).Pos.Lo ≤ (F.K.getD p default).Pos.Lo ∧ (F.K.getD p default).Pos.Hi ≤ (h.Links.getD p default).Pos.Hi) ∧ (F.K.getD p default).Target = (h.Links.getD p default).Target ∧ (F.K.getD p default).Open = (h.Links.getD p default).Open := by
  intro F
  have h1 : Nar b h.Vol.length h.Links.length vol pos _ ⟨h.Vol, h.Links, []⟩ F := fuse_nar hV hK hl
  have h2 := fuse_nar (b := b) (h := hullOf h F) (l := l) h1.iv h1.ik (by rw [show (hullOf h F).Vol.length = h.Vol.length from h1.vl, show (hullOf h F).Links.length = h.Links.length from h1.kl]; exact hl)
  have h3 := fuse_nar (b := b) (h := h) (l := l.reverse) hV hK (fun r hr => hl r (List.mem_reverse.1 hr))
  rw [show (hullOf h F).Vol.length = h.Vol.length from h1.vl, show (hullOf h F).Links.length = h.Links.length from h1.kl] at h2
  have s3 := h3.same (F := ⟨h.Vol, h.Links, []⟩) h1 (fun q => (order_rev _ _ l q).symm)
  have s2 : (fuse b (hullOf h F) l).V = F.V ∧ (fuse b (hullOf h F) l).K = F.K := Nar.again (F := ⟨h.Vol, h.Links, []⟩) (G := ⟨F.V, F.K, []⟩) ⟨h1.vl, h1.kl, h1.iv, h1.ik, rfl, h1.mv, h1.mq, h1.ot⟩ h2
  have t := Nar.thin (F := ⟨h.Vol, h.Links, []⟩) h1
  exact ⟨h1.vl, h1.kl, h1.iv, h1.ik, by rw [h1.n]; rfl, by rw [h2.n]; rfl, by rw [h3.n]; rfl, ⟨rfl, s2.1, rfl, s2.2⟩, ⟨rfl, s3.1, rfl, s3.2⟩, t.1, fun p hp => ⟨t.2 p hp, h1.ot p hp⟩⟩
end Fu
