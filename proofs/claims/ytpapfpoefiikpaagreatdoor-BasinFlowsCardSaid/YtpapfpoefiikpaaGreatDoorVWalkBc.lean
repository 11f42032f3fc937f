/- Lemmas. Conditions: those of each theorem. -/
import Derived.Test.YtpapfpoefiikpaaGreatDoorVBcR
set_option maxRecDepth 8000
set_option maxHeartbeats 16000000
namespace Bc
open Bt Go.K
/-! ### the names' numbers -/
def NB (m : S → Option Int) (K : Int) : Prop := ∀ k, 0 ≤ (m k).getD 0 ∧ (m k).getD 0 ≤ K
theorem NB.put {m : S → Option Int} {K i : Int} {n : S} (h : NB m K) (h0 : 0 ≤ i) (h1 : i ≤ K) : NB (put m n i) K := fun k => by
  unfold Bc.put
  split
  · exact h k
  · show 0 ≤ (if k = n then some i else m k).getD 0 ∧ (if k = n then some i else m k).getD 0 ≤ K
    split
    · exact ⟨h0, h1⟩
    · exact h k
theorem NB.mono {m : S → Option Int} {K K' : Int} (h : NB m K) (hk : K ≤ K') : NB m K' := fun k => ⟨(h k).1, Int.le_trans (h k).2 hk⟩
structure NmB (n : Nm) (K : Int) : Prop where
  pl : NB n.pl K
  lk : NB n.lk K
  tn : NB n.tn K
  en : NB n.en K
theorem col_b {K : Int} : ∀ (ds : List Node) {n : Nm} {c : S → Option Int} {i : Nat}, NmB n K → (∀ j, 0 ≤ (c j).getD 0 ∧ (c j).getD 0 ≤ i) → (i : Int) + ds.length ≤ K → NmB (col n c ds).1 K ∧ NB (col n c ds).2 K
  | [], n, c, i, hn, hc, hk => ⟨hn, fun k => ⟨(hc k).1, by have := (hc k).2; simp at hk; show (c k).getD 0 ≤ K; omega⟩⟩
  | d :: r, n, c, i, hn, hc, hk => by
    rw [col]
    refine col_b r (i := i + 1) ?_ (upC_le hc) (by simp only [List.length_cons] at hk; omega)
    have h1 := hc (sortOf d.Text)
    have h2 : (c (sortOf d.Text)).getD 0 ≤ K := by simp only [List.length_cons] at hk; omega
    unfold col1
    simp only
    repeat' split
    · exact ⟨hn.pl.put h1.1 h2, hn.lk, hn.tn, hn.en⟩
    · exact ⟨hn.pl, hn.lk.put h1.1 h2, hn.tn, hn.en⟩
    · exact ⟨hn.pl, hn.lk, hn.tn.put h1.1 h2, hn.en.put h1.1 h2⟩
    · exact hn
theorem colS_b {K t : Int} (ht : 0 ≤ t) : ∀ (ds : List Node) {m : S → Option Int} {k : Int}, NB m K → 0 ≤ k → t + k + ds.length ≤ K → NB (colS t m k ds) K
  | [], m, k, hm, _, _ => hm
  | d :: r, m, k, hm, h0, hk => by
    rw [colS]
    simp only [List.length_cons] at hk
    split
    · exact colS_b ht r (hm.put (by omega) (by omega)) (by omega) (by omega)
    · exact colS_b ht r hm h0 (by omega)
theorem collect_ok (f : Node) (h : f.Kids.length ≤ 2305843009213693952) : NOk (collect f) := by
  have h0 : NmB ⟨fun _ => none, fun _ => none, fun _ => none, fun _ => none⟩ (f.Kids.length : Int) := ⟨fun _ => ⟨Int.le_refl _, Int.natCast_nonneg _⟩, fun _ => ⟨Int.le_refl _, Int.natCast_nonneg _⟩, fun _ => ⟨Int.le_refl _, Int.natCast_nonneg _⟩, fun _ => ⟨Int.le_refl _, Int.natCast_nonneg _⟩⟩
  obtain ⟨h1, h2⟩ := col_b f.Kids (i := 0) h0 (c := fun _ => none) (fun _ => ⟨Int.le_refl _, Int.le_refl _⟩) (by simp)
  have h3 := h2 [116, 111, 119, 110]
  have h4 := colS_b h3.1 f.Kids (k := 0) (K := (2 * f.Kids.length : Int)) (h1.en.mono (by omega)) (Int.le_refl _) (by have := h3.2; omega)
  have key : ∀ {m : S → Option Int} {K : Int}, NB m K → K ≤ 9223372036854775807 → ∀ k, I64 ((m k).getD 0) := fun hm hK k => by
    have := hm k
    unfold I64
    omega
  exact ⟨key h1.pl (by omega), key h1.lk (by omega), key h1.tn (by omega), key h4 (by omega)⟩
/-! ### the examination -/
theorem exP_ok {d : Node} {ps : List Prp} : ∀ (l : List Node) {sn sn' : S → Option Bool}, exP d ps sn l = .ok sn' → ∀ p ∈ l, ∃ W, wanted d p.Text ps = some W ∧ fits p.Kids W = true
  | [], _, _, _, p, hp => by cases hp
  | q :: r, sn, sn', h, p, hp => by
    rw [exP] at h
    split at h
    · cases h
    · rename_i w hw
      split at h
      · cases h
      · rename_i hf
        split at h
        · cases h
        · rcases List.mem_cons.1 hp with rfl | hp
          · refine ⟨w, hw, ?_⟩
            cases hh : fits p.Kids w with
            | true => rfl
            | false => exact absurd (Or.inr hh) hf
          · exact exP_ok r h p hp
theorem exP_err {d : Node} {ps : List Prp} : ∀ (l : List Node) {sn : S → Option Bool} {e : Er}, exP d ps sn l = .error e → e.1 ≠ 0
  | [], _, _, h => by cases h
  | q :: r, sn, e, h => by
    rw [exP] at h
    split at h
    · cases h; show (2 : Int) ≠ 0; decide
    · split at h
      · cases h; show (2 : Int) ≠ 0; decide
      · split at h
        · cases h; show (6 : Int) ≠ 0; decide
        · exact exP_err r h
theorem exProps_ok {d : Node} {ps : List Prp} (h : (exProps d ps).1 = 0) : ∀ p ∈ propsOf d, ∃ W, wanted d p.Text ps = some W ∧ fits p.Kids W = true := by
  unfold exProps at h
  split at h
  · rename_i e he
    exact absurd h (exP_err _ he)
  · rename_i sn hsn
    exact exP_ok _ hsn
def cnt (s : S) (ds : List Node) : Nat := (ds.filter fun d => decide (sortOf d.Text = s)).length
theorem cnt_cons (s : S) (d : Node) (ds : List Node) : cnt s (d :: ds) = (if sortOf d.Text = s then 1 else 0) + cnt s ds := by
  unfold cnt
  rw [List.filter_cons]
  split <;> rename_i h
  · rw [if_pos (odT h), List.length_cons]; omega
  · rw [if_neg (by simpa using h)]; omega
theorem oneWord_pos {d : Node} (h : oneWord d = true) : 0 < (wordsOf d).length := by
  unfold oneWord at h
  rw [Bool.and_eq_true] at h
  have := odT h.1
  omega
theorem exL_ok : ∀ (ds : List Node) {c : S → Option Int}, (exL c ds).1 = 0 → (∀ d ∈ ds, DOk d) ∧ ∀ s, cnt s ds = 0 ∨ (c s).getD 0 + cnt s ds ≤ limitOf s
  | [], c, _ => ⟨fun d hd => (by cases hd), fun s => .inl rfl⟩
  | d :: r, c, h => by
    rw [exL] at h
    split at h
    · cases h
    · rename_i ps hps
      split at h
      · cases h
      · rename_i how
        split at h
        · split at h <;> cases h
        · rename_i hlim
          split at h
          · rename_i hne
            exact absurd h hne
          · rename_i hx
            obtain ⟨h1, h2⟩ := exL_ok r h
            have hx0 : (exProps d ps).1 = 0 := Decidable.of_not_not hx
            refine ⟨fun d' hd' => ?_, fun s => ?_⟩
            · rcases List.mem_cons.1 hd' with rfl | hd'
              · exact ⟨oneWord_pos (by simpa using how), ps, hps, exProps_ok hx0⟩
              · exact h1 d' hd'
            · rw [cnt_cons]
              have h3 := h2 s
              unfold upC at h3
              by_cases hs : sortOf d.Text = s
              · subst hs
                rw [if_pos rfl] at h3 ⊢
                simp only [Option.getD_some] at h3
                right
                have h4 : ¬ limitOf (sortOf d.Text) < (c (sortOf d.Text)).getD 0 + 1 := hlim
                rcases h3 with h3 | h3 <;> omega
              · rw [if_neg (Ne.symm hs)] at h3
                rw [if_neg hs]
                rcases h3 with h3 | h3
                · left; omega
                · right; omega
/-! ### pairs -/
theorem wanted_mem {d : Node} {n : S} : ∀ {ps : List Prp} {W : Prp}, wanted d n ps = some W → n ≠ [101, 114, 114] → W ∈ ps ∧ W.name.data.toList = n
  | [], _, h, _ => by cases h
  | p :: r, W, h, hn => by
    rw [wanted] at h
    split at h
    · rename_i h1
      rw [if_neg (fun h => hn h.2.1)] at h
      obtain rfl := sJ h
      exact ⟨List.mem_cons_self .., h1⟩
    · obtain ⟨h2, h3⟩ := wanted_mem h hn
      exact ⟨List.mem_cons_of_mem _ h2, h3⟩
def pairN : List S := [[108, 101, 118, 101, 108], [114, 97, 105, 110], [114, 97, 116, 101], [108, 111, 119], [104, 105, 103, 104]]
theorem table_pairs : ∀ x ∈ table, ∀ p ∈ x.2, p.name.data.toList ∈ pairN → p.many = true ∧ (p.values.getD 0 ⟨#[]⟩).data.toList.length = 2 := by decide
theorem pairN_err : ∀ n ∈ pairN, n ≠ [101, 114, 114] := by decide
theorem vals_prop {d : Node} {n : S} {ks : List Node} (h : vals d n = some ks) : ∃ p ∈ propsOf d, p.Text = n ∧ ks = p.Kids := by
  unfold vals at h
  unfold propsOf
  generalize d.Kids = l at *
  induction l with
  | nil => cases h
  | cons k r ih =>
    rw [valsL] at h
    split at h
    · rename_i h1
      exact ⟨k, List.mem_filter.2 ⟨List.mem_cons_self .., by simpa using h1.1⟩, h1.2, (sJ h).symm⟩
    · obtain ⟨p, h2, h3⟩ := ih h
      obtain ⟨h4, h5⟩ := List.mem_filter.1 h2
      exact ⟨p, List.mem_filter.2 ⟨List.mem_cons_of_mem _ h4, h5⟩, h3⟩
theorem pairs_ok {d : Node} (h : DOk d) {n : S} (hn : n ∈ pairN) : ∀ y ∈ valsD d n, y.Kids.length = 2 := fun y hy => by
  obtain ⟨_, ps, hps, hpp⟩ := h
  unfold valsD at hy
  cases hv : vals d n with
  | none => rw [hv] at hy; cases hy
  | some ks =>
    rw [hv] at hy
    obtain ⟨p, hp, ht, rfl⟩ := vals_prop hv
    obtain ⟨W, hW, hf⟩ := hpp p hp
    rw [ht] at hW
    obtain ⟨h1, h2⟩ := wanted_mem hW (pairN_err n hn)
    obtain ⟨x, hx, _, rfl⟩ := props_mem hps
    obtain ⟨h3, h4⟩ := table_pairs x hx W h1 (by rw [h2]; exact hn)
    obtain ⟨i, hi, rfl⟩ := List.getElem_of_mem (show y ∈ p.Kids from hy)
    unfold fits at hf
    rw [Bool.and_eq_true] at hf
    have h5 := List.all_eq_true.1 hf.2 i (List.mem_range.2 hi)
    have hg : p.Kids.getD i default = p.Kids[i] := by simp [hi]
    rw [hg] at h5
    have h6 : (val W i).length = 2 := by unfold val; rw [if_pos h3]; exact h4
    unfold fitsOne at h5
    rw [if_pos h6] at h5
    exact (odT h5).2.1
theorem DOk.bd {d : Node} (h : DOk d) : BdOk d := by
  refine ⟨h.1, fun _ k hk => pairs_ok h ?_, fun _ k hk => pairs_ok h ?_⟩
  · rcases hk with rfl | rfl <;> decide
  · rcases hk with rfl | rfl | rfl <;> decide
/-! ### counts -/
theorem build_cnt (n : Nm) : ∀ (ds : List Node) (b : Basin), (ds.foldl (build1 n) b).Places.length = b.Places.length + cnt [112, 108, 97, 99, 101] ds ∧ (ds.foldl (build1 n) b).Links.length = b.Links.length + cnt [108, 105, 110, 107] ds ∧ (ds.foldl (build1 n) b).Towns.length = b.Towns.length + cnt [116, 111, 119, 110] ds ∧ (ds.foldl (build1 n) b).Gauges.length = b.Gauges.length + cnt [103, 97, 117, 103, 101] ds ∧ (ds.foldl (build1 n) b).Roads.length = b.Roads.length + cnt [114, 111, 97, 100] ds ∧ (ds.foldl (build1 n) b).Shelters.length = b.Shelters.length + cnt [115, 104, 101, 108, 116, 101, 114] ds
  | [], b => ⟨rfl, rfl, rfl, rfl, rfl, rfl⟩
  | d :: r, b => by
    rw [List.foldl_cons]
    obtain ⟨h1, h2, h3, h4, h5, h6⟩ := build_cnt n r (build1 n b d)
    rw [h1, h2, h3, h4, h5, h6]
    simp only [cnt_cons]
    unfold build1
    simp only
    generalize sortOf d.Text = so
    by_cases e0 : so = [98, 97, 115, 105, 110]
    · subst e0; simp
    by_cases e1 : so = [112, 108, 97, 99, 101]
    · subst e1; simp; omega
    by_cases e2 : so = [108, 105, 110, 107]
    · subst e2; simp; omega
    by_cases e3 : so = [116, 111, 119, 110]
    · subst e3; simp; omega
    by_cases e4 : so = [103, 97, 117, 103, 101]
    · subst e4; simp; omega
    by_cases e5 : so = [114, 111, 97, 100]
    · subst e5; simp; omega
    by_cases e6 : so = [115, 104, 101, 108, 116, 101, 114]
    · subst e6; simp; omega
    simp [e0, e1, e2, e3, e4, e5, e6]
theorem build_own (n : Nm) {K : Nat} : ∀ (ds : List Node) (b : Basin), (∀ d ∈ ds, (valsD d [111, 119, 110, 101, 114, 115]).length ≤ K) → (ds.foldl (build1 n) b).Owners.length ≤ b.Owners.length + K * cnt [98, 97, 115, 105, 110] ds
  | [], b, _ => Nat.le_refl _
  | d :: r, b, hK => by
    rw [List.foldl_cons, cnt_cons]
    have h1 := build_own n r (build1 n b d) fun d hd => hK d (List.mem_cons_of_mem _ hd)
    have h2 := hK d (List.mem_cons_self ..)
    by_cases e0 : sortOf d.Text = [98, 97, 115, 105, 110]
    · rw [if_pos e0, Nat.mul_add, Nat.mul_one]
      have h3 : (build1 n b d).Owners.length = b.Owners.length + (valsD d [111, 119, 110, 101, 114, 115]).length := by
        unfold build1
        simp only
        rw [if_pos e0]
        simp
      omega
    · rw [if_neg e0, Nat.zero_add]
      have h3 : (build1 n b d).Owners = b.Owners := by
        unfold build1
        simp only
        rw [if_neg e0]
        repeat' split
        all_goals rfl
      rw [h3] at h1
      exact h1
theorem examine_sm {f : Node} {n : Nm} (h : (examine f).1 = 0) (hK : ∀ d ∈ f.Kids, (valsD d [111, 119, 110, 101, 114, 115]).length ≤ 1954687338268) : Sm (build f n) := by
  obtain ⟨_, h2⟩ := exL_ok f.Kids h
  obtain ⟨k1, k2, k3, k4, k5, k6⟩ := build_cnt n f.Kids zeroB
  have k0 := build_own n f.Kids zeroB hK
  have c0 := h2 [98, 97, 115, 105, 110]
  have c1 := h2 [112, 108, 97, 99, 101]
  have c2 := h2 [108, 105, 110, 107]
  have c3 := h2 [116, 111, 119, 110]
  have c4 := h2 [103, 97, 117, 103, 101]
  have c5 := h2 [114, 111, 97, 100]
  have c6 := h2 [115, 104, 101, 108, 116, 101, 114]
  simp only [Option.getD_none, show limitOf [98, 97, 115, 105, 110] = 1 from rfl, show limitOf [112, 108, 97, 99, 101] = 64 from rfl, show limitOf [108, 105, 110, 107] = 96 from rfl, show limitOf [116, 111, 119, 110] = 40 from rfl, show limitOf [103, 97, 117, 103, 101] = 128 from rfl, show limitOf [114, 111, 97, 100] = 128 from rfl, show limitOf [115, 104, 101, 108, 116, 101, 114] = 40 from rfl] at c0 c1 c2 c3 c4 c5 c6
  have z : zeroB.Owners.length = 0 ∧ zeroB.Places.length = 0 ∧ zeroB.Links.length = 0 ∧ zeroB.Towns.length = 0 ∧ zeroB.Gauges.length = 0 ∧ zeroB.Roads.length = 0 ∧ zeroB.Shelters.length = 0 := ⟨rfl, rfl, rfl, rfl, rfl, rfl, rfl⟩
  obtain ⟨z0, z1, z2, z3, z4, z5, z6⟩ := z
  rw [z0] at k0; rw [z1] at k1; rw [z2] at k2; rw [z3] at k3; rw [z4] at k4; rw [z5] at k5; rw [z6] at k6
  have k0' : (build f n).Owners.length ≤ 1954687338268 * 1 := by
    refine Nat.le_trans k0 ?_
    rw [Nat.zero_add]
    exact Nat.mul_le_mul_left _ (by omega)
  exact ⟨by omega, by show (f.Kids.foldl (build1 n) zeroB).Places.length ≤ 64; omega, by show (f.Kids.foldl (build1 n) zeroB).Links.length ≤ 96; omega, by show (f.Kids.foldl (build1 n) zeroB).Towns.length ≤ 40; omega, by show (f.Kids.foldl (build1 n) zeroB).Gauges.length ≤ 128; omega, by show (f.Kids.foldl (build1 n) zeroB).Roads.length ≤ 128; omega, by show (f.Kids.foldl (build1 n) zeroB).Shelters.length ≤ 40; omega⟩
end Bc
namespace Ba
theorem set_fill {L : List Int} {k n : Nat} (hL : L.length = n) (hk : k < n) {x : Int} (hx : L.getD k 0 = x) : (L.take k ++ List.replicate (n - k) (0 : Int)).set k x = L.take (k + 1) ++ List.replicate (n - (k + 1)) (0 : Int) := by
  subst hL
  have hlen : (L.take k).length = k := by simp; omega
  rw [List.set_append_right _ _ (by omega), hlen, Nat.sub_self, show L.length - k = (L.length - (k + 1)) + 1 by omega, List.replicate_succ, List.set_cons_zero, List.take_add_one, List.getElem?_eq_getElem hk]
  have : L[k] = x := by rw [← hx, gDD, List.getElem?_eq_getElem hk]; rfl
  simp [this]
theorem getD_setI (S : List Int) (i : Nat) (x : Int) (j : Nat) : (S.set i x).getD j 0 = S.getD j 0 ∨ (S.set i x).getD j 0 = x := by
  rw [gDD, gDD, List.getElem?_set]
  by_cases h : i = j
  · subst h
    rw [if_pos rfl]
    by_cases h2 : i < S.length
    · rw [if_pos h2]; exact .inr rfl
    · rw [if_neg h2]; left; rw [List.getElem?_eq_none (by omega)]
  · rw [if_neg h]; exact .inl rfl
def Bnd (S : List Int) (B : Int) : Prop := ∀ j, 0 ≤ S.getD j 0 ∧ S.getD j 0 ≤ B
theorem Bnd.mono {S : List Int} {B B' : Int} (h : Bnd S B) (hb : B ≤ B') : Bnd S B' := fun j => ⟨(h j).1, by have := (h j).2; omega⟩
theorem Bnd.set {S : List Int} {B B' : Int} (h : Bnd S B) (hb : B ≤ B') {i : Nat} {x : Int} (h0 : 0 ≤ x) (h1 : x ≤ B') : Bnd (S.set i x) B' := fun j => by
  rcases getD_setI S i x j with e | e
  · rw [e]; have := h j; omega
  · rw [e]; exact ⟨h0, h1⟩
theorem foldl_snoc {α σ : Type} [Inhabited α] (f : σ → α → σ) (s : σ) {L : List α} {k : Nat} (hk : k < L.length) {S : σ} (h : S = (L.take k).foldl f s) : f S (L.getD k default) = (L.take (k + 1)).foldl f s := by
  rw [List.take_add_one, List.getElem?_eq_getElem hk, List.foldl_append, ← h]
  simp [hk]
theorem bnd_map {α : Type} {L : List α} {f : α → Int} {B : Int} (h0 : 0 ≤ B) (h : ∀ x ∈ L, 0 ≤ f x ∧ f x ≤ B) : Bnd (L.map f) B := fun j => by
  rw [gDD, List.getElem?_map]
  cases e : L[j]? with
  | none => exact ⟨Int.le_refl _, h0⟩
  | some x => exact h x (List.mem_of_getElem? e)
end Ba
namespace Fu
theorem getD_mem {α : Type} [Inhabited α] {L : List α} {i : Nat} (h : i < L.length) : L.getD i default ∈ L := by
  rw [gDD, List.getElem?_eq_getElem h]; exact List.getElem_mem h
theorem getD_memI {L : List Int} {i : Nat} (h : i < L.length) : L.getD i 0 ∈ L := by
  rw [gDD, List.getElem?_eq_getElem h]; exact List.getElem_mem h
end Fu
namespace Go.Proofs.YtpapfpoefiikpaaGreatDoor
open Go Go.K Go.RowKit
attribute [local irreducible] AW RW DW Post Qt
def headBad (b : Bt.Basin) : Bool := (((((((((((decide ((500 : Int) < (b.Name.data.toList.length : Int))) || (!(decide (1 ≤ (b.Owners.length : Int) ∧ (b.Owners.length : Int) ≤ 16)))) || (!(decide (0 ≤ b.Cells ∧ b.Cells ≤ 64)))) || (!(decide (1 ≤ (b.Places.length : Int) ∧ (b.Places.length : Int) ≤ 64)))) || (decide ((96 : Int) < (b.Links.length : Int)))) || (decide ((40 : Int) < (b.Towns.length : Int)))) || (decide ((128 : Int) < (b.Gauges.length : Int)))) || (decide ((128 : Int) < (b.Roads.length : Int)))) || (decide ((40 : Int) < (b.Shelters.length : Int)))) || (!decide ((b.Room.length : Int) = 3))) || (!(decide (0 ≤ b.Err ∧ b.Err ≤ 1099511627776))))
def nameBad (b : Bt.Basin) (k : Nat) : Bool := ((((decide ((((b.Name.data.toList.getD k 0).toNat : Nat) : Int) < ((32 : Nat) : Int))) || (decide (((126 : Nat) : Int) < (((b.Name.data.toList.getD k 0).toNat : Nat) : Int)))) || (decide ((((b.Name.data.toList.getD k 0).toNat : Nat) : Int) = ((34 : Nat) : Int)))) || (decide ((((b.Name.data.toList.getD k 0).toNat : Nat) : Int) = ((92 : Nat) : Int))))
def roomBad (b : Bt.Basin) (i : Nat) : Bool := !(decide (0 ≤ b.Room.getD i 0 ∧ b.Room.getD i 0 ≤ 1125899906842624))
def RHead (b : Bt.Basin) : Prop := headBad b = false ∧ (∀ k, k < b.Name.data.toList.length → nameBad b k = false) ∧ ∀ k, k < b.Room.length → roomBad b k = false
instance (b : Bt.Basin) : Decidable (RHead b) := inferInstanceAs (Decidable (headBad b = false ∧ (∀ k, k < b.Name.data.toList.length → nameBad b k = false) ∧ ∀ k, k < b.Room.length → roomBad b k = false))
theorem rHead_c (w : World) (Φ : Hp) (hΦ : Hp.le Φ (hp w)) {b : Bt.Basin} {cs : List Value} (hB : RepV Φ b cs)  :
  Calls pg 37 #[.agg cs.toArray] w fun e w' => e = .returned (.bool (decide (RHead b))) ∧ Bel w.heap.size w w' := by
 obtain ⟨v1, v3, v4, v5, v6, v7, v8, v9, hcs, hBw, r1, r3, r4, r5, r6, r7, r8, r9⟩ := (show Rep.rep Φ b cs from hB)
 subst hcs
 have hpm : b.Places.length * 152 ≤ 140737488355328 := r3.max
 refine in1 109 Tryz.func37 rfl rfl hΦ ?_
 have hnl : b.Name.data.toList.length ≤ 9223372036854775807 := hBw.1
 have hom : b.Owners.length * 16 ≤ 140737488355328 := r1.max
 have hlm : b.Links.length * 200 ≤ 140737488355328 := r4.max
 have htm : b.Towns.length * 64 ≤ 140737488355328 := r5.max
 have hgm_ : b.Gauges.length * 48 ≤ 140737488355328 := r6.max
 have hrm : b.Roads.length * 64 ≤ 140737488355328 := r7.max
 have hsm : b.Shelters.length * 24 ≤ 140737488355328 := r8.max
 have hom2 : b.Room.length * 8 ≤ 140737488355328 := r9.max
 refine gs2 ?_
 refine RW.bxA rfl rfl fun b1 => ?_
 refine gs8 ?_
 refine RW.q (v := iV (b.Name.data.toList.length : Int)) rfl (q_lenS (l := b.Name.data.toList) rfl uT9) ?_
 refine gs5 ?_
 refine RW.gc rfl rfl rfl (fun w1 hw1 => bIn_c w1 (Go.K.hp w1) (Hp.le_refl _)) rfl (fun h => args3 (gv_pos h) rfl rfl) ?_
 refine gs1 ?_
 refine RW.pkO rfl rfl rfl rfl fun qb1 hqb1 => ?_
 refine gs3 ?_
 refine RW.gc rfl rfl rfl (fun w1 hw1 => bIn_c w1 (Go.K.hp w1) (Hp.le_refl _)) rfl (fun h => args3 (gv_pos h) rfl rfl) ?_
 refine gs1 ?_
 refine RW.pkO rfl rfl rfl rfl fun qb2 hqb2 => ?_
 refine gs4 ?_
 refine RW.gc rfl rfl rfl (fun w1 hw1 => bIn_c w1 (Go.K.hp w1) (Hp.le_refl _)) rfl (fun h => args3 (gv_pos h) rfl rfl) ?_
 refine gs1 ?_
 refine RW.pkO rfl rfl rfl rfl fun qb3 hqb3 => ?_
 refine gs5 ?_
 refine RW.pkO rfl rfl rfl rfl fun qb4 hqb4 => ?_
 refine gs5 ?_
 refine RW.pkO rfl rfl rfl rfl fun qb5 hqb5 => ?_
 refine gs5 ?_
 refine RW.pkO rfl rfl rfl rfl fun qb6 hqb6 => ?_
 refine gs5 ?_
 refine RW.pkO rfl rfl rfl rfl fun qb7 hqb7 => ?_
 refine gs5 ?_
 refine RW.pkO rfl rfl rfl rfl fun qb8 hqb8 => ?_
 refine gs5 ?_
 refine RW.pkO rfl rfl rfl rfl fun qb9 hqb9 => ?_
 refine gs3 ?_
 refine RW.gc rfl rfl rfl (fun w1 hw1 => bIn_c w1 (Go.K.hp w1) (Hp.le_refl _)) rfl (fun h => args3 (gv_pos h) rfl rfl) ?_
 refine gs1 ?_
 refine RW.pkO rfl rfl rfl rfl fun qb10 hqb10 => ?_
 subst hqb10 hqb9 hqb8 hqb7 hqb6 hqb5 hqb4 hqb3 hqb2 hqb1
 refine gs2 ?_
 refine AW.cond rfl (fun hc1 => ?_) fun hc1 => ?_
 ·
  refine gs7 ?_
  exact fin_val (v' := .bool false) rfl rfl rfl (congrArg Value.bool (decide_eq_false (fun h9 => Bool.noConfusion ((h9.1).symm.trans hc1))).symm)
 ·
  refine gs7 ?_
  refine RW.q (v := iV (b.Name.data.toList.length : Int)) rfl (q_lenS (l := b.Name.data.toList) rfl uT9) ?_
  refine gs4 ?_
  refine AW.lp (fun s J m => ∃ (k : Nat), s = [(1, pV b1 0), (75, iV (b.Name.data.toList.length : Int)), (76, iV (k : Int))] ∧ J = St ⟨w, Φ, []⟩ Φ [.blk b1 31 (cl31 b v1 v3 v4 v5 v6 v7 v8 v9)] ∧ m = b.Name.data.toList.length - k ∧ (k ≤ b.Name.data.toList.length) ∧ (∀ j, j < k → nameBad b j = false)) ⟨0, rfl, rfl, rfl, (by omega), (fun j hj => absurd hj (by omega))⟩ ?_
  rintro _ _ _ _ ⟨k, rfl, rfl, rfl, hk, hall⟩
  refine gs6 ?_
  refine AW.cond rfl (fun hc2 => ?_) fun hc2 => ?_
  ·
   simp [-List.getD_eq_getElem?_getD, -Array.length_toList] at hc2
   refine gs15 ?_
   refine RW.q (v := .int .u8 (((b.Name.data.toList.getD k 0).toNat : Nat) : Int)) rfl (q_indexS (l := b.Name.data.toList) (i := (k : Int)) rfl rfl uT9 (by omega) (by omega)) ?_
   refine gs6 ?_
   refine RW.q (v := .bool (decide ((((b.Name.data.toList.getD k 0).toNat : Nat) : Int) < ((32 : Nat) : Int)))) rfl (q_lss (a := (((b.Name.data.toList.getD k 0).toNat : Nat) : Int)) (b := ((32 : Nat) : Int)) rfl rfl) ?_
   refine gs2 ?_
   refine RW.g (b := (decide ((((b.Name.data.toList.getD k 0).toNat : Nat) : Int) < ((32 : Nat) : Int)))) (v := .bool (decide (((126 : Nat) : Int) < (((b.Name.data.toList.getD k 0).toNat : Nat) : Int)))) rfl rfl rfl (fun h => q_gtr (a := (((b.Name.data.toList.getD k 0).toNat : Nat) : Int)) (b := ((126 : Nat) : Int)) (gv_pos h) rfl) ?_
   refine RW.pkO rfl rfl rfl rfl fun qb11 hqb11 => ?_
   refine gs2 ?_
   refine RW.g (b := qb11) (v := .bool (decide ((((b.Name.data.toList.getD k 0).toNat : Nat) : Int) = ((34 : Nat) : Int)))) rfl rfl rfl (fun h => q_eql (a := (((b.Name.data.toList.getD k 0).toNat : Nat) : Int)) (b := ((34 : Nat) : Int)) (gv_pos h) rfl) ?_
   refine RW.pkO rfl rfl rfl rfl fun qb12 hqb12 => ?_
   refine gs2 ?_
   refine RW.g (b := qb12) (v := .bool (decide ((((b.Name.data.toList.getD k 0).toNat : Nat) : Int) = ((92 : Nat) : Int)))) rfl rfl rfl (fun h => q_eql (a := (((b.Name.data.toList.getD k 0).toNat : Nat) : Int)) (b := ((92 : Nat) : Int)) (gv_pos h) rfl) ?_
   refine RW.pkO rfl rfl rfl rfl fun qb13 hqb13 => ?_
   subst hqb13 hqb12 hqb11
   refine gs2 ?_
   refine AW.cond rfl (fun hc3 => ?_) fun hc3 => ?_
   ·
    refine gs11 ?_
    exact fin_val (v' := .bool false) rfl rfl rfl (congrArg Value.bool (decide_eq_false (fun h9 => Bool.noConfusion ((h9.2.1 k (by omega)).symm.trans hc3))).symm)
   ·
    refine gs7 ?_
    exact Post.bk ⟨k + 1, rfl, rfl, rfl, (by omega), (Fu.lt_succ hall hc3)⟩
  ·
   simp [-List.getD_eq_getElem?_getD, -Array.length_toList] at hc2
   refine gs15 ?_
   refine AW.lp (fun s J m => ∃ (i : Nat), s = [(99, v9), (100, iV (b.Room.length : Int)), (101, iV (i : Int))] ∧ J = St ⟨w, Φ, []⟩ Φ [.blk b1 31 (cl31 b v1 v3 v4 v5 v6 v7 v8 v9)] ∧ m = b.Room.length - i ∧ (i ≤ b.Room.length) ∧ (∀ j, j < i → roomBad b j = false)) ⟨0, rfl, rfl, rfl, (by omega), (fun j hj => absurd hj (by omega))⟩ ?_
   rintro _ _ _ _ ⟨i, rfl, rfl, rfl, hi, hal2⟩
   refine gs6 ?_
   refine AW.cond rfl (fun hc4 => ?_) fun hc4 => ?_
   ·
    simp [-List.getD_eq_getElem?_getD, -Array.length_toList] at hc4
    refine gs7 ?_
    refine RW.q (v := iV (b.Room.getD i 0)) rfl (q_load rfl uT3 rfl (Cell.repInt r9 (by omega))) ?_
    refine gs6 ?_
    refine RW.c rfl (fun w1 hw1 => bVol_c w1 (Go.K.hp w1) (Hp.le_refl _)) rfl rfl ?_
    refine gs3 ?_
    refine AW.cond rfl (fun hc5 => ?_) fun hc5 => ?_
    ·
     refine gs11 ?_
     exact fin_val (v' := .bool false) rfl rfl rfl (congrArg Value.bool (decide_eq_false (fun h9 => Bool.noConfusion ((h9.2.2 i (by omega)).symm.trans hc5))).symm)
    ·
     refine gs7 ?_
     exact Post.bk ⟨i + 1, rfl, rfl, rfl, (by omega), (Fu.lt_succ hal2 hc5)⟩
   ·
    simp [-List.getD_eq_getElem?_getD, -Array.length_toList] at hc4
    refine gs11 ?_
    exact fin_val (v' := .bool true) rfl rfl rfl (congrArg Value.bool (decide_eq_true (show RHead b from ⟨hc1, fun j hj => hall j (by omega), fun j hj => hal2 j (by omega)⟩)).symm)
def chkS (s : (Ba.Mk → Option Bool) × Bool) (p : Ba.Mk) : (Ba.Mk → Option Bool) × Bool := (putB s.1 p.1 p.2, frsB s.1 p.1 p.2 && s.2)
def chk0 : (Ba.Mk → Option Bool) × Bool := (fun _ => none, true)
def nmF0 (x : ByteArray) : Ba.Mk := ((bs [111, 119, 110, 101, 114]), x)
def nmF1 (x : Bt.Place) : Ba.Mk := ((bs [112, 108, 97, 99, 101]), x.Name)
def nmF2 (x : Bt.Link) : Ba.Mk := ((bs [108, 105, 110, 107]), x.Name)
def nmF3 (x : Bt.Town) : Ba.Mk := ((bs [116, 111, 119, 110]), x.Name)
def nmF4 (x : Bt.Shelter) : Ba.Mk := ((bs [115, 104, 101, 108, 116, 101, 114]), x.Name)
def nmF5 (x : Bt.Gauge) : Ba.Mk := ((bs [103, 97, 117, 103, 101]), x.Name)
def nmF6 (x : Bt.Road) : Ba.Mk := ((bs [114, 111, 97, 100]), x.Name)
def nmL0 (_ : Bt.Basin) : List Ba.Mk := []
def nmL1 (b : Bt.Basin) : List Ba.Mk := nmL0 b ++ b.Owners.map nmF0
def nmL2 (b : Bt.Basin) : List Ba.Mk := nmL1 b ++ b.Places.map nmF1
def nmL3 (b : Bt.Basin) : List Ba.Mk := nmL2 b ++ b.Links.map nmF2
def nmL4 (b : Bt.Basin) : List Ba.Mk := nmL3 b ++ b.Towns.map nmF3
def nmL5 (b : Bt.Basin) : List Ba.Mk := nmL4 b ++ b.Shelters.map nmF4
def nmL6 (b : Bt.Basin) : List Ba.Mk := nmL5 b ++ b.Gauges.map nmF5
def nmL7 (b : Bt.Basin) : List Ba.Mk := nmL6 b ++ b.Roads.map nmF6
def RNames (b : Bt.Basin) : Bool := ((nmL7 b).foldl chkS chk0).2
theorem rNames_c (w : World) (Φ : Hp) (hΦ : Hp.le Φ (hp w)) {b : Bt.Basin} {cs : List Value} (hB : RepV Φ b cs)  :
  Calls pg 38 #[.agg cs.toArray] w fun e w' => e = .returned (.bool (RNames b)) ∧ Bel w.heap.size w w' := by
 obtain ⟨v1, v3, v4, v5, v6, v7, v8, v9, hcs, hBw, r1, r3, r4, r5, r6, r7, r8, r9⟩ := (show Rep.rep Φ b cs from hB)
 subst hcs
 have hpm : b.Places.length * 152 ≤ 140737488355328 := r3.max
 refine in1 106 Tryz.func38 rfl rfl hΦ ?_
 have hnl : b.Name.data.toList.length ≤ 9223372036854775807 := hBw.1
 have hom : b.Owners.length * 16 ≤ 140737488355328 := r1.max
 have hlm : b.Links.length * 200 ≤ 140737488355328 := r4.max
 have htm : b.Towns.length * 64 ≤ 140737488355328 := r5.max
 have hgm_ : b.Gauges.length * 48 ≤ 140737488355328 := r6.max
 have hrm : b.Roads.length * 64 ≤ 140737488355328 := r7.max
 have hsm : b.Shelters.length * 24 ≤ 140737488355328 := r8.max
 have hom2 : b.Room.length * 8 ≤ 140737488355328 := r9.max
 refine gs2 ?_
 refine RW.bxA rfl rfl fun b1 => ?_
 refine gs5 ?_
 refine RW.eff (fun b2 : Nat => .map (some b2)) (fun b2 => St ⟨w, Φ, []⟩ Φ [.kmap kMark Value.bool b2 (fun _ => none), .blk b1 31 (cl31 b v1 v3 v4 v5 v6 v7 v8 v9)]) rfl (e_kmake kMark Value.bool) ?_
 intro b2
 refine RW.eff (fun b3 : Nat => pV b3 0) (fun b3 => St ⟨w, Φ, []⟩ Φ [.blk b3 145 [.map none], .kmap kMark Value.bool b2 (fun _ => none), .blk b1 31 (cl31 b v1 v3 v4 v5 v6 v7 v8 v9)]) rfl (e_alloc zero145) ?_
 intro b3
 refine RW.effn (J' := St ⟨w, Φ, []⟩ Φ [.blk b3 145 [.map (some b2)], .kmap kMark Value.bool b2 (fun _ => none), .blk b1 31 (cl31 b v1 v3 v4 v5 v6 v7 v8 v9)]) (e_store (v := .map (some b2)) 0 rfl rfl rfl sz145 rfl rfl rfl rfl rfl) ?_
 refine gs4 ?_
 refine RW.alc rfl fun b4 => ?_
 refine gs5 ?_
 refine RW.q (v := .func (.func 77) #[] #[pV b3 0, pV b4 0]) rfl (q_makeFunc rfl rfl) ?_
 refine gs13 ?_
 refine AW.lp (fun s J m => ∃ (k : Nat), ∃ (M : Ba.Mk → Option Bool), ∃ (t : Bool), s = [(1, pV b1 0), (4, pV b4 0), (5, .func (.func 77) #[] #[pV b3 0, pV b4 0]), (23, v1), (24, iV (b.Owners.length : Int)), (25, iV (k : Int))] ∧ J = St ⟨w, Φ, []⟩ Φ [.blk b4 4 [.bool t], .blk b3 145 [.map (some b2)], .kmap kMark Value.bool b2 (M), .blk b1 31 (cl31 b v1 v3 v4 v5 v6 v7 v8 v9)] ∧ m = b.Owners.length - k ∧ (k ≤ b.Owners.length) ∧ ((M, t) = (nmL0 b ++ (b.Owners.map nmF0).take k).foldl chkS chk0)) ⟨0, fun _ => none, true, rfl, rfl, rfl, (by omega), rfl⟩ ?_
 rintro _ _ _ _ ⟨k, M, t, rfl, rfl, rfl, hk, hS⟩
 refine gs6 ?_
 refine AW.cond rfl (fun hc1 => ?_) fun hc1 => ?_
 ·
  simp [-List.getD_eq_getElem?_getD, -Array.length_toList] at hc1
  refine gs7 ?_
  have hstr1 := RepSl.strAt (k := k) r1 (by omega)
  refine RW.q (v := .string (b.Owners.getD k default)) rfl (q_load rfl uT9 rfl (Cell.phi hstr1.2)) ?_
  refine gs3 ?_
  have hnm : (b.Owners.getD k default).size ≤ maxLen := hstr1.1
  refine gs3 ?_
  refine RW.eff (fun u1 : Unit => .tuple #[]) (fun u1 => St ⟨w, Φ, []⟩ Φ [.blk b4 4 [.bool (frsB M (bs ([111, 119, 110, 101, 114] : List UInt8)) (b.Owners.getD k default) && t)], .blk b3 145 [.map (some b2)], .kmap kMark Value.bool b2 (putB M (bs ([111, 119, 110, 101, 114] : List UInt8)) (b.Owners.getD k default)), .blk b1 31 (cl31 b v1 v3 v4 v5 v6 v7 v8 v9)]) rfl (e_call (args := #[.string (bs ([111, 119, 110, 101, 114] : List UInt8)), .string (b.Owners.getD k default), pV b3 0, pV b4 0]) oK rfl rfl (fun w1 hw1 => check_c (C := [.blk b1 31 (cl31 b v1 v3 v4 v5 v6 v7 v8 v9)]) rfl (by show (5 : Nat) ≤ maxLen; decide) hnm w1 hw1)) ?_
  intro u1
  refine gs7 ?_
  exact Post.bk ⟨k + 1, putB M (bs ([111, 119, 110, 101, 114] : List UInt8)) (b.Owners.getD k default), frsB M (bs ([111, 119, 110, 101, 114] : List UInt8)) (b.Owners.getD k default) && t, rfl, rfl, rfl, (by omega), (Ba.fold_snoc chkS chk0 (nmL0 b) nmF0 (show k < b.Owners.length by omega) hS)⟩
 ·
  simp [-List.getD_eq_getElem?_getD, -Array.length_toList] at hc1
  refine gs15 ?_
  have hE : (M, t) = (nmL1 b).foldl chkS chk0 := Ba.fold_end chkS chk0 (nmL0 b) nmF0 (by omega) hS
  refine AW.lp (fun s J m => ∃ (k : Nat), ∃ (M : Ba.Mk → Option Bool), ∃ (t : Bool), s = [(1, pV b1 0), (4, pV b4 0), (5, .func (.func 77) #[] #[pV b3 0, pV b4 0]), (34, v3), (35, iV (b.Places.length : Int)), (36, iV (k : Int))] ∧ J = St ⟨w, Φ, []⟩ Φ [.blk b4 4 [.bool t], .blk b3 145 [.map (some b2)], .kmap kMark Value.bool b2 (M), .blk b1 31 (cl31 b v1 v3 v4 v5 v6 v7 v8 v9)] ∧ m = b.Places.length - k ∧ (k ≤ b.Places.length) ∧ ((M, t) = (nmL1 b ++ (b.Places.map nmF1).take k).foldl chkS chk0)) ⟨0, M, t, rfl, rfl, rfl, (by omega), (by rw [List.take_zero, List.append_nil]; exact hE)⟩ ?_
  rintro _ _ _ _ ⟨k, M, t, rfl, rfl, rfl, hk, hS⟩
  refine gs6 ?_
  refine AW.cond rfl (fun hc2 => ?_) fun hc2 => ?_
  ·
   simp [-List.getD_eq_getElem?_getD, -Array.length_toList] at hc2
   refine gs7 ?_
   obtain ⟨cv1, hcr1, hcc1⟩ := RepSl.whole (k := k) r3 (by omega)
   obtain ⟨sv1, sv2, sv3, hcE1, hcw1, hsv1, hsv2, hsv3⟩ := (show Rep.rep _ _ _ from hcr1)
   subst hcE1
   refine RW.q (v := .agg (cl58 (b.Places.getD k default) sv1 sv2 sv3).toArray) rfl (q_loadAgg rfl uT58 rfl sz58 rfl (Cells.phiK hcc1)) ?_
   refine RW.alc rfl fun b5 => ?_
   refine RW.effn (J' := St ⟨w, Φ, []⟩ Φ [.blk b5 58 (cl58 (b.Places.getD k default) sv1 sv2 sv3), .blk b4 4 [.bool t], .blk b3 145 [.map (some b2)], .kmap kMark Value.bool b2 (M), .blk b1 31 (cl31 b v1 v3 v4 v5 v6 v7 v8 v9)]) (e_store (v := .agg (cl58 (b.Places.getD k default) sv1 sv2 sv3).toArray) 0 rfl rfl rfl sz58 rfl (List.all_eq_true.2 (fun u hu => Rep.one (show Rep.rep _ _ _ from hcr1) u hu)) rfl rfl rfl) ?_
   refine gs2 ?_
   have hnm : (b.Places.getD k default).Name.size ≤ maxLen := hcw1.1
   refine gs4 ?_
   refine RW.eff (fun u2 : Unit => .tuple #[]) (fun u2 => St ⟨w, Φ, []⟩ Φ [.blk b5 58 (cl58 (b.Places.getD k default) sv1 sv2 sv3), .blk b4 4 [.bool (frsB M (bs ([112, 108, 97, 99, 101] : List UInt8)) ((b.Places.getD k default).Name) && t)], .blk b3 145 [.map (some b2)], .kmap kMark Value.bool b2 (putB M (bs ([112, 108, 97, 99, 101] : List UInt8)) ((b.Places.getD k default).Name)), .blk b1 31 (cl31 b v1 v3 v4 v5 v6 v7 v8 v9)]) rfl (e_call (args := #[.string (bs ([112, 108, 97, 99, 101] : List UInt8)), .string ((b.Places.getD k default).Name), pV b3 0, pV b4 0]) oK rfl rfl (fun w1 hw1 => (check_c (C := [.blk b5 58 (cl58 (b.Places.getD k default) sv1 sv2 sv3), .blk b1 31 (cl31 b v1 v3 v4 v5 v6 v7 v8 v9)]) rfl (by show (5 : Nat) ≤ maxLen; decide) hnm w1 (hw1.perm (List.perm_middle (a := (.blk b5 58 (cl58 (b.Places.getD k default) sv1 sv2 sv3) : Chunk)) (l₁ := ([.blk b4 4 [.bool t], .blk b3 145 [.map (some b2)], .kmap kMark Value.bool b2 (M)] : List Chunk)) (l₂ := ([.blk b1 31 (cl31 b v1 v3 v4 v5 v6 v7 v8 v9)] : List Chunk))))).mono fun e w2 ⟨x, he, hp⟩ => ⟨x, he, hp.perm (List.perm_middle (a := (.blk b5 58 (cl58 (b.Places.getD k default) sv1 sv2 sv3) : Chunk)) (l₁ := ([.blk b4 4 [.bool (frsB M (bs ([112, 108, 97, 99, 101] : List UInt8)) ((b.Places.getD k default).Name) && t)], .blk b3 145 [.map (some b2)], .kmap kMark Value.bool b2 (putB M (bs ([112, 108, 97, 99, 101] : List UInt8)) ((b.Places.getD k default).Name))] : List Chunk)) (l₂ := ([.blk b1 31 (cl31 b v1 v3 v4 v5 v6 v7 v8 v9)] : List Chunk))).symm⟩)) ?_
   intro u2
   refine gs7 ?_
   exact Post.bk ⟨k + 1, putB M (bs ([112, 108, 97, 99, 101] : List UInt8)) ((b.Places.getD k default).Name), frsB M (bs ([112, 108, 97, 99, 101] : List UInt8)) ((b.Places.getD k default).Name) && t, rfl, rfl, rfl, (by omega), (Ba.fold_snoc chkS chk0 (nmL1 b) nmF1 (show k < b.Places.length by omega) hS)⟩
  ·
   simp [-List.getD_eq_getElem?_getD, -Array.length_toList] at hc2
   refine gs15 ?_
   have hE : (M, t) = (nmL2 b).foldl chkS chk0 := Ba.fold_end chkS chk0 (nmL1 b) nmF1 (by omega) hS
   refine AW.lp (fun s J m => ∃ (k : Nat), ∃ (M : Ba.Mk → Option Bool), ∃ (t : Bool), s = [(1, pV b1 0), (4, pV b4 0), (5, .func (.func 77) #[] #[pV b3 0, pV b4 0]), (46, v4), (47, iV (b.Links.length : Int)), (48, iV (k : Int))] ∧ J = St ⟨w, Φ, []⟩ Φ [.blk b4 4 [.bool t], .blk b3 145 [.map (some b2)], .kmap kMark Value.bool b2 (M), .blk b1 31 (cl31 b v1 v3 v4 v5 v6 v7 v8 v9)] ∧ m = b.Links.length - k ∧ (k ≤ b.Links.length) ∧ ((M, t) = (nmL2 b ++ (b.Links.map nmF2).take k).foldl chkS chk0)) ⟨0, M, t, rfl, rfl, rfl, (by omega), (by rw [List.take_zero, List.append_nil]; exact hE)⟩ ?_
   rintro _ _ _ _ ⟨k, M, t, rfl, rfl, rfl, hk, hS⟩
   refine gs6 ?_
   refine AW.cond rfl (fun hc3 => ?_) fun hc3 => ?_
   ·
    simp [-List.getD_eq_getElem?_getD, -Array.length_toList] at hc3
    refine gs7 ?_
    obtain ⟨cv2, hcr2, hcc2⟩ := RepSl.whole (k := k) r4 (by omega)
    obtain ⟨sv4, sv5, sv6, hcE2, hcw2, hsv4, hsv5, hsv6⟩ := (show Rep.rep _ _ _ from hcr2)
    subst hcE2
    refine RW.q (v := .agg (cl72 (b.Links.getD k default) sv4 sv5 sv6).toArray) rfl (q_loadAgg rfl uT72 rfl sz72 rfl (Cells.phiK hcc2)) ?_
    refine RW.alc rfl fun b6 => ?_
    refine RW.effn (J' := St ⟨w, Φ, []⟩ Φ [.blk b6 72 (cl72 (b.Links.getD k default) sv4 sv5 sv6), .blk b4 4 [.bool t], .blk b3 145 [.map (some b2)], .kmap kMark Value.bool b2 (M), .blk b1 31 (cl31 b v1 v3 v4 v5 v6 v7 v8 v9)]) (e_store (v := .agg (cl72 (b.Links.getD k default) sv4 sv5 sv6).toArray) 0 rfl rfl rfl sz72 rfl (List.all_eq_true.2 (fun u hu => Rep.one (show Rep.rep _ _ _ from hcr2) u hu)) rfl rfl rfl) ?_
    refine gs2 ?_
    have hnm : (b.Links.getD k default).Name.size ≤ maxLen := hcw2.1
    refine gs4 ?_
    refine RW.eff (fun u3 : Unit => .tuple #[]) (fun u3 => St ⟨w, Φ, []⟩ Φ [.blk b6 72 (cl72 (b.Links.getD k default) sv4 sv5 sv6), .blk b4 4 [.bool (frsB M (bs ([108, 105, 110, 107] : List UInt8)) ((b.Links.getD k default).Name) && t)], .blk b3 145 [.map (some b2)], .kmap kMark Value.bool b2 (putB M (bs ([108, 105, 110, 107] : List UInt8)) ((b.Links.getD k default).Name)), .blk b1 31 (cl31 b v1 v3 v4 v5 v6 v7 v8 v9)]) rfl (e_call (args := #[.string (bs ([108, 105, 110, 107] : List UInt8)), .string ((b.Links.getD k default).Name), pV b3 0, pV b4 0]) oK rfl rfl (fun w1 hw1 => (check_c (C := [.blk b6 72 (cl72 (b.Links.getD k default) sv4 sv5 sv6), .blk b1 31 (cl31 b v1 v3 v4 v5 v6 v7 v8 v9)]) rfl (by show (4 : Nat) ≤ maxLen; decide) hnm w1 (hw1.perm (List.perm_middle (a := (.blk b6 72 (cl72 (b.Links.getD k default) sv4 sv5 sv6) : Chunk)) (l₁ := ([.blk b4 4 [.bool t], .blk b3 145 [.map (some b2)], .kmap kMark Value.bool b2 (M)] : List Chunk)) (l₂ := ([.blk b1 31 (cl31 b v1 v3 v4 v5 v6 v7 v8 v9)] : List Chunk))))).mono fun e w2 ⟨x, he, hp⟩ => ⟨x, he, hp.perm (List.perm_middle (a := (.blk b6 72 (cl72 (b.Links.getD k default) sv4 sv5 sv6) : Chunk)) (l₁ := ([.blk b4 4 [.bool (frsB M (bs ([108, 105, 110, 107] : List UInt8)) ((b.Links.getD k default).Name) && t)], .blk b3 145 [.map (some b2)], .kmap kMark Value.bool b2 (putB M (bs ([108, 105, 110, 107] : List UInt8)) ((b.Links.getD k default).Name))] : List Chunk)) (l₂ := ([.blk b1 31 (cl31 b v1 v3 v4 v5 v6 v7 v8 v9)] : List Chunk))).symm⟩)) ?_
    intro u3
    refine gs7 ?_
    exact Post.bk ⟨k + 1, putB M (bs ([108, 105, 110, 107] : List UInt8)) ((b.Links.getD k default).Name), frsB M (bs ([108, 105, 110, 107] : List UInt8)) ((b.Links.getD k default).Name) && t, rfl, rfl, rfl, (by omega), (Ba.fold_snoc chkS chk0 (nmL2 b) nmF2 (show k < b.Links.length by omega) hS)⟩
   ·
    simp [-List.getD_eq_getElem?_getD, -Array.length_toList] at hc3
    refine gs15 ?_
    have hE : (M, t) = (nmL3 b).foldl chkS chk0 := Ba.fold_end chkS chk0 (nmL2 b) nmF2 (by omega) hS
    refine AW.lp (fun s J m => ∃ (k : Nat), ∃ (M : Ba.Mk → Option Bool), ∃ (t : Bool), s = [(1, pV b1 0), (4, pV b4 0), (5, .func (.func 77) #[] #[pV b3 0, pV b4 0]), (58, v5), (59, iV (b.Towns.length : Int)), (60, iV (k : Int))] ∧ J = St ⟨w, Φ, []⟩ Φ [.blk b4 4 [.bool t], .blk b3 145 [.map (some b2)], .kmap kMark Value.bool b2 (M), .blk b1 31 (cl31 b v1 v3 v4 v5 v6 v7 v8 v9)] ∧ m = b.Towns.length - k ∧ (k ≤ b.Towns.length) ∧ ((M, t) = (nmL3 b ++ (b.Towns.map nmF3).take k).foldl chkS chk0)) ⟨0, M, t, rfl, rfl, rfl, (by omega), (by rw [List.take_zero, List.append_nil]; exact hE)⟩ ?_
    rintro _ _ _ _ ⟨k, M, t, rfl, rfl, rfl, hk, hS⟩
    refine gs6 ?_
    refine AW.cond rfl (fun hc4 => ?_) fun hc4 => ?_
    ·
     simp [-List.getD_eq_getElem?_getD, -Array.length_toList] at hc4
     refine gs7 ?_
     refine RW.q (v := .agg (cl84 (b.Towns.getD k default)).toArray) rfl (q_loadAgg rfl uT84 rfl sz84 rfl (Cells.repE r5 (by omega) rfl)) ?_
     refine RW.alc rfl fun b7 => ?_
     refine gs3 ?_
     have hnm : (b.Towns.getD k default).Name.size ≤ maxLen := (r5.wfE _ (Fu.getD_mem (by omega))).1
     refine gs4 ?_
     refine RW.eff (fun u4 : Unit => .tuple #[]) (fun u4 => St ⟨w, Φ, []⟩ Φ [.blk b7 84 (cl84 (b.Towns.getD k default)), .blk b4 4 [.bool (frsB M (bs ([116, 111, 119, 110] : List UInt8)) ((b.Towns.getD k default).Name) && t)], .blk b3 145 [.map (some b2)], .kmap kMark Value.bool b2 (putB M (bs ([116, 111, 119, 110] : List UInt8)) ((b.Towns.getD k default).Name)), .blk b1 31 (cl31 b v1 v3 v4 v5 v6 v7 v8 v9)]) rfl (e_call (args := #[.string (bs ([116, 111, 119, 110] : List UInt8)), .string ((b.Towns.getD k default).Name), pV b3 0, pV b4 0]) oK rfl rfl (fun w1 hw1 => (check_c (C := [.blk b7 84 (cl84 (b.Towns.getD k default)), .blk b1 31 (cl31 b v1 v3 v4 v5 v6 v7 v8 v9)]) rfl (by show (4 : Nat) ≤ maxLen; decide) hnm w1 (hw1.perm (List.perm_middle (a := (.blk b7 84 (cl84 (b.Towns.getD k default)) : Chunk)) (l₁ := ([.blk b4 4 [.bool t], .blk b3 145 [.map (some b2)], .kmap kMark Value.bool b2 (M)] : List Chunk)) (l₂ := ([.blk b1 31 (cl31 b v1 v3 v4 v5 v6 v7 v8 v9)] : List Chunk))))).mono fun e w2 ⟨x, he, hp⟩ => ⟨x, he, hp.perm (List.perm_middle (a := (.blk b7 84 (cl84 (b.Towns.getD k default)) : Chunk)) (l₁ := ([.blk b4 4 [.bool (frsB M (bs ([116, 111, 119, 110] : List UInt8)) ((b.Towns.getD k default).Name) && t)], .blk b3 145 [.map (some b2)], .kmap kMark Value.bool b2 (putB M (bs ([116, 111, 119, 110] : List UInt8)) ((b.Towns.getD k default).Name))] : List Chunk)) (l₂ := ([.blk b1 31 (cl31 b v1 v3 v4 v5 v6 v7 v8 v9)] : List Chunk))).symm⟩)) ?_
     intro u4
     refine gs7 ?_
     exact Post.bk ⟨k + 1, putB M (bs ([116, 111, 119, 110] : List UInt8)) ((b.Towns.getD k default).Name), frsB M (bs ([116, 111, 119, 110] : List UInt8)) ((b.Towns.getD k default).Name) && t, rfl, rfl, rfl, (by omega), (Ba.fold_snoc chkS chk0 (nmL3 b) nmF3 (show k < b.Towns.length by omega) hS)⟩
    ·
     simp [-List.getD_eq_getElem?_getD, -Array.length_toList] at hc4
     refine gs15 ?_
     have hE : (M, t) = (nmL4 b).foldl chkS chk0 := Ba.fold_end chkS chk0 (nmL3 b) nmF3 (by omega) hS
     refine AW.lp (fun s J m => ∃ (k : Nat), ∃ (M : Ba.Mk → Option Bool), ∃ (t : Bool), s = [(1, pV b1 0), (4, pV b4 0), (5, .func (.func 77) #[] #[pV b3 0, pV b4 0]), (70, v8), (71, iV (b.Shelters.length : Int)), (72, iV (k : Int))] ∧ J = St ⟨w, Φ, []⟩ Φ [.blk b4 4 [.bool t], .blk b3 145 [.map (some b2)], .kmap kMark Value.bool b2 (M), .blk b1 31 (cl31 b v1 v3 v4 v5 v6 v7 v8 v9)] ∧ m = b.Shelters.length - k ∧ (k ≤ b.Shelters.length) ∧ ((M, t) = (nmL4 b ++ (b.Shelters.map nmF4).take k).foldl chkS chk0)) ⟨0, M, t, rfl, rfl, rfl, (by omega), (by rw [List.take_zero, List.append_nil]; exact hE)⟩ ?_
     rintro _ _ _ _ ⟨k, M, t, rfl, rfl, rfl, hk, hS⟩
     refine gs6 ?_
     refine AW.cond rfl (fun hc5 => ?_) fun hc5 => ?_
     ·
      simp [-List.getD_eq_getElem?_getD, -Array.length_toList] at hc5
      refine gs7 ?_
      refine RW.q (v := .agg #[.string ((b.Shelters.getD k default).Name), iV ((b.Shelters.getD k default).Room)]) rfl (q_loadAgg rfl uT95 rfl sz95 rfl (Cells.repE r8 (by omega) rfl)) ?_
      refine RW.alc rfl fun b8 => ?_
      refine gs3 ?_
      have hnm : (b.Shelters.getD k default).Name.size ≤ maxLen := (r8.wfE _ (Fu.getD_mem (by omega))).1
      refine gs4 ?_
      refine RW.eff (fun u5 : Unit => .tuple #[]) (fun u5 => St ⟨w, Φ, []⟩ Φ [.blk b8 95 [.string ((b.Shelters.getD k default).Name), iV ((b.Shelters.getD k default).Room)], .blk b4 4 [.bool (frsB M (bs ([115, 104, 101, 108, 116, 101, 114] : List UInt8)) ((b.Shelters.getD k default).Name) && t)], .blk b3 145 [.map (some b2)], .kmap kMark Value.bool b2 (putB M (bs ([115, 104, 101, 108, 116, 101, 114] : List UInt8)) ((b.Shelters.getD k default).Name)), .blk b1 31 (cl31 b v1 v3 v4 v5 v6 v7 v8 v9)]) rfl (e_call (args := #[.string (bs ([115, 104, 101, 108, 116, 101, 114] : List UInt8)), .string ((b.Shelters.getD k default).Name), pV b3 0, pV b4 0]) oK rfl rfl (fun w1 hw1 => (check_c (C := [.blk b8 95 [.string ((b.Shelters.getD k default).Name), iV ((b.Shelters.getD k default).Room)], .blk b1 31 (cl31 b v1 v3 v4 v5 v6 v7 v8 v9)]) rfl (by show (7 : Nat) ≤ maxLen; decide) hnm w1 (hw1.perm (List.perm_middle (a := (.blk b8 95 [.string ((b.Shelters.getD k default).Name), iV ((b.Shelters.getD k default).Room)] : Chunk)) (l₁ := ([.blk b4 4 [.bool t], .blk b3 145 [.map (some b2)], .kmap kMark Value.bool b2 (M)] : List Chunk)) (l₂ := ([.blk b1 31 (cl31 b v1 v3 v4 v5 v6 v7 v8 v9)] : List Chunk))))).mono fun e w2 ⟨x, he, hp⟩ => ⟨x, he, hp.perm (List.perm_middle (a := (.blk b8 95 [.string ((b.Shelters.getD k default).Name), iV ((b.Shelters.getD k default).Room)] : Chunk)) (l₁ := ([.blk b4 4 [.bool (frsB M (bs ([115, 104, 101, 108, 116, 101, 114] : List UInt8)) ((b.Shelters.getD k default).Name) && t)], .blk b3 145 [.map (some b2)], .kmap kMark Value.bool b2 (putB M (bs ([115, 104, 101, 108, 116, 101, 114] : List UInt8)) ((b.Shelters.getD k default).Name))] : List Chunk)) (l₂ := ([.blk b1 31 (cl31 b v1 v3 v4 v5 v6 v7 v8 v9)] : List Chunk))).symm⟩)) ?_
      intro u5
      refine gs7 ?_
      exact Post.bk ⟨k + 1, putB M (bs ([115, 104, 101, 108, 116, 101, 114] : List UInt8)) ((b.Shelters.getD k default).Name), frsB M (bs ([115, 104, 101, 108, 116, 101, 114] : List UInt8)) ((b.Shelters.getD k default).Name) && t, rfl, rfl, rfl, (by omega), (Ba.fold_snoc chkS chk0 (nmL4 b) nmF4 (show k < b.Shelters.length by omega) hS)⟩
     ·
      simp [-List.getD_eq_getElem?_getD, -Array.length_toList] at hc5
      refine gs15 ?_
      have hE : (M, t) = (nmL5 b).foldl chkS chk0 := Ba.fold_end chkS chk0 (nmL4 b) nmF4 (by omega) hS
      refine AW.lp (fun s J m => ∃ (k : Nat), ∃ (M : Ba.Mk → Option Bool), ∃ (t : Bool), s = [(1, pV b1 0), (4, pV b4 0), (5, .func (.func 77) #[] #[pV b3 0, pV b4 0]), (82, v6), (83, iV (b.Gauges.length : Int)), (84, iV (k : Int))] ∧ J = St ⟨w, Φ, []⟩ Φ [.blk b4 4 [.bool t], .blk b3 145 [.map (some b2)], .kmap kMark Value.bool b2 (M), .blk b1 31 (cl31 b v1 v3 v4 v5 v6 v7 v8 v9)] ∧ m = b.Gauges.length - k ∧ (k ≤ b.Gauges.length) ∧ ((M, t) = (nmL5 b ++ (b.Gauges.map nmF5).take k).foldl chkS chk0)) ⟨0, M, t, rfl, rfl, rfl, (by omega), (by rw [List.take_zero, List.append_nil]; exact hE)⟩ ?_
      rintro _ _ _ _ ⟨k, M, t, rfl, rfl, rfl, hk, hS⟩
      refine gs6 ?_
      refine AW.cond rfl (fun hc6 => ?_) fun hc6 => ?_
      ·
       simp [-List.getD_eq_getElem?_getD, -Array.length_toList] at hc6
       refine gs7 ?_
       refine RW.q (v := .agg (cl89 (b.Gauges.getD k default)).toArray) rfl (q_loadAgg rfl uT89 rfl sz89 rfl (Cells.repE r6 (by omega) rfl)) ?_
       refine RW.alc rfl fun b9 => ?_
       refine gs3 ?_
       have hnm : (b.Gauges.getD k default).Name.size ≤ maxLen := (r6.wfE _ (Fu.getD_mem (by omega))).1
       refine gs4 ?_
       refine RW.eff (fun u6 : Unit => .tuple #[]) (fun u6 => St ⟨w, Φ, []⟩ Φ [.blk b9 89 (cl89 (b.Gauges.getD k default)), .blk b4 4 [.bool (frsB M (bs ([103, 97, 117, 103, 101] : List UInt8)) ((b.Gauges.getD k default).Name) && t)], .blk b3 145 [.map (some b2)], .kmap kMark Value.bool b2 (putB M (bs ([103, 97, 117, 103, 101] : List UInt8)) ((b.Gauges.getD k default).Name)), .blk b1 31 (cl31 b v1 v3 v4 v5 v6 v7 v8 v9)]) rfl (e_call (args := #[.string (bs ([103, 97, 117, 103, 101] : List UInt8)), .string ((b.Gauges.getD k default).Name), pV b3 0, pV b4 0]) oK rfl rfl (fun w1 hw1 => (check_c (C := [.blk b9 89 (cl89 (b.Gauges.getD k default)), .blk b1 31 (cl31 b v1 v3 v4 v5 v6 v7 v8 v9)]) rfl (by show (5 : Nat) ≤ maxLen; decide) hnm w1 (hw1.perm (List.perm_middle (a := (.blk b9 89 (cl89 (b.Gauges.getD k default)) : Chunk)) (l₁ := ([.blk b4 4 [.bool t], .blk b3 145 [.map (some b2)], .kmap kMark Value.bool b2 (M)] : List Chunk)) (l₂ := ([.blk b1 31 (cl31 b v1 v3 v4 v5 v6 v7 v8 v9)] : List Chunk))))).mono fun e w2 ⟨x, he, hp⟩ => ⟨x, he, hp.perm (List.perm_middle (a := (.blk b9 89 (cl89 (b.Gauges.getD k default)) : Chunk)) (l₁ := ([.blk b4 4 [.bool (frsB M (bs ([103, 97, 117, 103, 101] : List UInt8)) ((b.Gauges.getD k default).Name) && t)], .blk b3 145 [.map (some b2)], .kmap kMark Value.bool b2 (putB M (bs ([103, 97, 117, 103, 101] : List UInt8)) ((b.Gauges.getD k default).Name))] : List Chunk)) (l₂ := ([.blk b1 31 (cl31 b v1 v3 v4 v5 v6 v7 v8 v9)] : List Chunk))).symm⟩)) ?_
       intro u6
       refine gs7 ?_
       exact Post.bk ⟨k + 1, putB M (bs ([103, 97, 117, 103, 101] : List UInt8)) ((b.Gauges.getD k default).Name), frsB M (bs ([103, 97, 117, 103, 101] : List UInt8)) ((b.Gauges.getD k default).Name) && t, rfl, rfl, rfl, (by omega), (Ba.fold_snoc chkS chk0 (nmL5 b) nmF5 (show k < b.Gauges.length by omega) hS)⟩
      ·
       simp [-List.getD_eq_getElem?_getD, -Array.length_toList] at hc6
       refine gs15 ?_
       have hE : (M, t) = (nmL6 b).foldl chkS chk0 := Ba.fold_end chkS chk0 (nmL5 b) nmF5 (by omega) hS
       refine AW.lp (fun s J m => ∃ (k : Nat), ∃ (M : Ba.Mk → Option Bool), ∃ (t : Bool), s = [(1, pV b1 0), (4, pV b4 0), (5, .func (.func 77) #[] #[pV b3 0, pV b4 0]), (94, v7), (95, iV (b.Roads.length : Int)), (96, iV (k : Int))] ∧ J = St ⟨w, Φ, []⟩ Φ [.blk b4 4 [.bool t], .blk b3 145 [.map (some b2)], .kmap kMark Value.bool b2 (M), .blk b1 31 (cl31 b v1 v3 v4 v5 v6 v7 v8 v9)] ∧ m = b.Roads.length - k ∧ (k ≤ b.Roads.length) ∧ ((M, t) = (nmL6 b ++ (b.Roads.map nmF6).take k).foldl chkS chk0)) ⟨0, M, t, rfl, rfl, rfl, (by omega), (by rw [List.take_zero, List.append_nil]; exact hE)⟩ ?_
       rintro _ _ _ _ ⟨k, M, t, rfl, rfl, rfl, hk, hS⟩
       refine gs6 ?_
       refine AW.cond rfl (fun hc7 => ?_) fun hc7 => ?_
       ·
        simp [-List.getD_eq_getElem?_getD, -Array.length_toList] at hc7
        refine gs7 ?_
        refine RW.q (v := .agg (cl92 (b.Roads.getD k default)).toArray) rfl (q_loadAgg rfl uT92 rfl sz92 rfl (Cells.repE r7 (by omega) rfl)) ?_
        refine RW.alc rfl fun b10 => ?_
        refine gs3 ?_
        have hnm : (b.Roads.getD k default).Name.size ≤ maxLen := (r7.wfE _ (Fu.getD_mem (by omega))).1
        refine gs4 ?_
        refine RW.eff (fun u7 : Unit => .tuple #[]) (fun u7 => St ⟨w, Φ, []⟩ Φ [.blk b10 92 (cl92 (b.Roads.getD k default)), .blk b4 4 [.bool (frsB M (bs ([114, 111, 97, 100] : List UInt8)) ((b.Roads.getD k default).Name) && t)], .blk b3 145 [.map (some b2)], .kmap kMark Value.bool b2 (putB M (bs ([114, 111, 97, 100] : List UInt8)) ((b.Roads.getD k default).Name)), .blk b1 31 (cl31 b v1 v3 v4 v5 v6 v7 v8 v9)]) rfl (e_call (args := #[.string (bs ([114, 111, 97, 100] : List UInt8)), .string ((b.Roads.getD k default).Name), pV b3 0, pV b4 0]) oK rfl rfl (fun w1 hw1 => (check_c (C := [.blk b10 92 (cl92 (b.Roads.getD k default)), .blk b1 31 (cl31 b v1 v3 v4 v5 v6 v7 v8 v9)]) rfl (by show (4 : Nat) ≤ maxLen; decide) hnm w1 (hw1.perm (List.perm_middle (a := (.blk b10 92 (cl92 (b.Roads.getD k default)) : Chunk)) (l₁ := ([.blk b4 4 [.bool t], .blk b3 145 [.map (some b2)], .kmap kMark Value.bool b2 (M)] : List Chunk)) (l₂ := ([.blk b1 31 (cl31 b v1 v3 v4 v5 v6 v7 v8 v9)] : List Chunk))))).mono fun e w2 ⟨x, he, hp⟩ => ⟨x, he, hp.perm (List.perm_middle (a := (.blk b10 92 (cl92 (b.Roads.getD k default)) : Chunk)) (l₁ := ([.blk b4 4 [.bool (frsB M (bs ([114, 111, 97, 100] : List UInt8)) ((b.Roads.getD k default).Name) && t)], .blk b3 145 [.map (some b2)], .kmap kMark Value.bool b2 (putB M (bs ([114, 111, 97, 100] : List UInt8)) ((b.Roads.getD k default).Name))] : List Chunk)) (l₂ := ([.blk b1 31 (cl31 b v1 v3 v4 v5 v6 v7 v8 v9)] : List Chunk))).symm⟩)) ?_
        intro u7
        refine gs7 ?_
        exact Post.bk ⟨k + 1, putB M (bs ([114, 111, 97, 100] : List UInt8)) ((b.Roads.getD k default).Name), frsB M (bs ([114, 111, 97, 100] : List UInt8)) ((b.Roads.getD k default).Name) && t, rfl, rfl, rfl, (by omega), (Ba.fold_snoc chkS chk0 (nmL6 b) nmF6 (show k < b.Roads.length by omega) hS)⟩
       ·
        simp [-List.getD_eq_getElem?_getD, -Array.length_toList] at hc7
        refine gs12 ?_
        exact fin_val (v' := .bool t) rfl rfl rfl (congrArg Value.bool (by have hE : (M, t) = (nmL7 b).foldl chkS chk0 := Ba.fold_end chkS chk0 (nmL6 b) nmF6 (by omega) hS; unfold RNames; rw [← hE]))
end Go.Proofs.YtpapfpoefiikpaaGreatDoor
