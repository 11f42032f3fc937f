/- Lemmas. Conditions: those of each theorem. -/
import Derived.Test.YtnfmjfheciihjaaGreatDoorTRsD
import Derived.Test.YtnfmjfheciihjaaGreatDoorTDrz
set_option maxRecDepth 8000
set_option maxHeartbeats 16000000
namespace Go.Proofs.YtnfmjfheciihjaaGreatDoor
open Go Go.K Go.RowKit
open Ru (pB NmS BasV)
attribute [local irreducible] AW RW DW Post Qt
abbrev upA (l : List UInt8) (i : Nat) : Bool := (decide (((65 : Nat) : Int) ≤ ((l.getD i 0).toNat : Int))) && (decide (((l.getD i 0).toNat : Int) ≤ ((90 : Nat) : Int)))
abbrev loA (l : List UInt8) (i : Nat) : Bool := (decide (((97 : Nat) : Int) ≤ ((l.getD i 0).toNat : Int))) && (decide (((l.getD i 0).toNat : Int) ≤ ((122 : Nat) : Int)))
theorem NmS.row {Φ : Hp} {v : Value} {T n : Nat} {ns : List (List UInt8)} (h : RowS Φ v T 1 n (ns.map fun q => .string (bs q))) (hn : n = ns.length) (hl : ∀ q ∈ ns, q.length ≤ maxLen) (hb : ns.length ≤ 9223372036854775807) : NmS Φ v 1 ns := by
  subst hn
  exact ⟨h.isSl, fun i hi => by rw [Nat.mul_one]; exact Ru.RowS.cellP h (by rw [List.getElem?_map, List.getElem?_eq_getElem hi]; rfl), hl, hb⟩
theorem take_snoc {α : Type} {l : List α} {i : Nat} (h : i < l.length) : l.take (i + 1) = l.take i ++ [l[i]] := by
  rw [List.take_add_one, List.getElem?_eq_getElem h]; rfl
theorem fPlaces_c (w : World) (Φ : Hp) (hΦ : Hp.le Φ (hp w)) {b : BasV} {ns : List (List UInt8)} (hn : NmS Φ b.pv 12 ns) (hm : ns.length * 16 ≤ maxSl) :
    Calls pg 125 #[.agg b.cs.toArray] w (RetS Φ w fun r Ψ => ∃ y : Option Addr × Nat, r = .slice y.1 ns.length y.2 ∧ NmS Ψ (.slice y.1 ns.length y.2) 1 ns) := by
  simp only [maxSl] at hm
  have hsl := hn.sl
  refine calls_of_AW (args := [.agg b.cs.toArray]) Tryz.func125 rfl (lBT rfl) (St ⟨w, Φ, []⟩ Φ []) (StP.init w Φ hΦ []) ?_
  show AW _ _ [] _ _ _ [(0, .agg b.cs.toArray)] _
  repeat refine gs1 ?_
  refine RW.bxA (cs := b.cs) rfl rfl fun b1 => ?_
  repeat refine gs1 ?_
  refine AW.loop (fun s J q => ∃ (i : Nat) (v : Value), s = [(1, pB b1), (3, v), (4, .int .i64 (i : Int))] ∧ J = St ⟨w, Φ, []⟩ Φ [.row v 9 1 i ((ns.take i).map fun q => .string (bs q)), .blk b1 31 b.cs] ∧ q = ns.length - i ∧ i ≤ ns.length ∧ IsSl v i) (s0 := [(1, pB b1), (3, .slice none 0 0), (4, .int .i64 ((0 : Nat) : Int))]) (J1 := _) (m0 := _) ⟨0, .slice none 0 0, rfl, rfl, rfl, Nat.zero_le _, ⟨none, 0, rfl, fun h => absurd h (Nat.lt_irrefl _), Nat.le_refl _⟩⟩ ⟨rfl, rfl, rfl, trivial⟩ (fun _ h => StP.nilRow h _ _) ?_
  rintro _ _ _ _ ⟨i, v, rfl, rfl, rfl, hi, hv⟩
  repeat refine gs1 ?_
  refine AW.cond rfl (fun h => ?_) fun h => ?_
  · have h : i < ns.length := by have := odT h; omega
    have hp1 : PCell Φ (Value.at b.pv (i * 12 + 0)) (.string (bs ns[i])) := hn.at_ i h
    repeat refine gs1 ?_
    refine RW.eff _ _ rfl (e_buildSlice (vals := [(0, .string (bs ns[i]))]) (cells := [.string (bs ns[i])]) Tryz.underlying22 inf9 rfl rfl rfl (by kernel_rfl) rfl) fun b8 => ?_
    refine RW.eff (fun xv : {vq : Value // IsSl vq (i + 1)} => xv.1) (fun xv => St ⟨w, Φ, []⟩ Φ [.row (.slice (some ⟨b8, 0, none⟩) 1 1) 9 1 1 [.string (bs ns[i])], .row xv.1 9 1 (i + 1) (((ns.take i).map fun q => .string (bs q)) ++ [.string (bs ns[i])]), .blk b1 31 b.cs]) rfl (e_append 1 rfl rfl rfl Tryz.underlying22 inf9 rfl rfl rfl (Cells.row0 0 rfl) rfl (by omega) (by omega) (fun _ => rfl)) ?_
    rintro ⟨v2, hv2⟩
    repeat refine gs1 ?_
    exact Post.back (s' := _) (J' := _) (m' := _) (by omega) ⟨i + 1, v2, rfl, rfl, rfl, by omega, hv2⟩ ⟨rfl, rfl, rfl, trivial⟩ (fun _ h => by rw [take_snoc ‹i < ns.length›, List.map_append]; exact StP.sel h [1, 2] (by decide) rfl)
  have h : i = ns.length := by have := odF h; omega
  subst h
  obtain ⟨vA, vc, rfl, _⟩ := hv
  repeat refine gs1 ?_
  exact fin_res (vs := [.slice vA ns.length vc]) rfl rfl ⟨.tmp rfl, trivial⟩ rfl (fun w' hw => ⟨_, rfl, hw.below rfl, (vA, vc), rfl, NmS.row (T := 9) (n := ns.length) (by have h9 : RowS (ext Φ w.heap.size w') (.slice vA ns.length vc) 9 1 ns.length ((ns.take ns.length).map fun q => .string (bs q)) := row_ext hw 0 rfl; rwa [List.take_length] at h9) rfl hn.len hn.big⟩)
theorem fLinks_c (w : World) (Φ : Hp) (hΦ : Hp.le Φ (hp w)) {b : BasV} {ns : List (List UInt8)} (hn : NmS Φ b.lv 18 ns) (hm : ns.length * 16 ≤ maxSl) :
    Calls pg 56 #[.agg b.cs.toArray] w (RetS Φ w fun r Ψ => ∃ y : Option Addr × Nat, r = .slice y.1 ns.length y.2 ∧ NmS Ψ (.slice y.1 ns.length y.2) 1 ns) := by
  simp only [maxSl] at hm
  have hsl := hn.sl
  refine calls_of_AW (args := [.agg b.cs.toArray]) Tryz.func56 rfl (lBT rfl) (St ⟨w, Φ, []⟩ Φ []) (StP.init w Φ hΦ []) ?_
  show AW _ _ [] _ _ _ [(0, .agg b.cs.toArray)] _
  repeat refine gs1 ?_
  refine RW.bxA (cs := b.cs) rfl rfl fun b1 => ?_
  repeat refine gs1 ?_
  refine AW.loop (fun s J q => ∃ (i : Nat) (v : Value), s = [(1, pB b1), (3, v), (4, .int .i64 (i : Int))] ∧ J = St ⟨w, Φ, []⟩ Φ [.row v 9 1 i ((ns.take i).map fun q => .string (bs q)), .blk b1 31 b.cs] ∧ q = ns.length - i ∧ i ≤ ns.length ∧ IsSl v i) (s0 := [(1, pB b1), (3, .slice none 0 0), (4, .int .i64 ((0 : Nat) : Int))]) (J1 := _) (m0 := _) ⟨0, .slice none 0 0, rfl, rfl, rfl, Nat.zero_le _, ⟨none, 0, rfl, fun h => absurd h (Nat.lt_irrefl _), Nat.le_refl _⟩⟩ ⟨rfl, rfl, rfl, trivial⟩ (fun _ h => StP.nilRow h _ _) ?_
  rintro _ _ _ _ ⟨i, v, rfl, rfl, rfl, hi, hv⟩
  repeat refine gs1 ?_
  refine AW.cond rfl (fun h => ?_) fun h => ?_
  · have h : i < ns.length := by have := odT h; omega
    have hp1 : PCell Φ (Value.at b.lv (i * 18 + 0)) (.string (bs ns[i])) := hn.at_ i h
    repeat refine gs1 ?_
    refine RW.eff _ _ rfl (e_buildSlice (vals := [(0, .string (bs ns[i]))]) (cells := [.string (bs ns[i])]) Tryz.underlying22 inf9 rfl rfl rfl (by kernel_rfl) rfl) fun b8 => ?_
    refine RW.eff (fun xv : {vq : Value // IsSl vq (i + 1)} => xv.1) (fun xv => St ⟨w, Φ, []⟩ Φ [.row (.slice (some ⟨b8, 0, none⟩) 1 1) 9 1 1 [.string (bs ns[i])], .row xv.1 9 1 (i + 1) (((ns.take i).map fun q => .string (bs q)) ++ [.string (bs ns[i])]), .blk b1 31 b.cs]) rfl (e_append 1 rfl rfl rfl Tryz.underlying22 inf9 rfl rfl rfl (Cells.row0 0 rfl) rfl (by omega) (by omega) (fun _ => rfl)) ?_
    rintro ⟨v2, hv2⟩
    repeat refine gs1 ?_
    exact Post.back (s' := _) (J' := _) (m' := _) (by omega) ⟨i + 1, v2, rfl, rfl, rfl, by omega, hv2⟩ ⟨rfl, rfl, rfl, trivial⟩ (fun _ h => by rw [take_snoc ‹i < ns.length›, List.map_append]; exact StP.sel h [1, 2] (by decide) rfl)
  have h : i = ns.length := by have := odF h; omega
  subst h
  obtain ⟨vA, vc, rfl, _⟩ := hv
  repeat refine gs1 ?_
  exact fin_res (vs := [.slice vA ns.length vc]) rfl rfl ⟨.tmp rfl, trivial⟩ rfl (fun w' hw => ⟨_, rfl, hw.below rfl, (vA, vc), rfl, NmS.row (T := 9) (n := ns.length) (by have h9 : RowS (ext Φ w.heap.size w') (.slice vA ns.length vc) 9 1 ns.length ((ns.take ns.length).map fun q => .string (bs q)) := row_ext hw 0 rfl; rwa [List.take_length] at h9) rfl hn.len hn.big⟩)
theorem fTowns_c (w : World) (Φ : Hp) (hΦ : Hp.le Φ (hp w)) {b : BasV} {ns : List (List UInt8)} (hn : NmS Φ b.tv 7 ns) (hm : ns.length * 16 ≤ maxSl) :
    Calls pg 126 #[.agg b.cs.toArray] w (RetS Φ w fun r Ψ => ∃ y : Option Addr × Nat, r = .slice y.1 ns.length y.2 ∧ NmS Ψ (.slice y.1 ns.length y.2) 1 ns) := by
  simp only [maxSl] at hm
  have hsl := hn.sl
  refine calls_of_AW (args := [.agg b.cs.toArray]) Tryz.func126 rfl (lBT rfl) (St ⟨w, Φ, []⟩ Φ []) (StP.init w Φ hΦ []) ?_
  show AW _ _ [] _ _ _ [(0, .agg b.cs.toArray)] _
  repeat refine gs1 ?_
  refine RW.bxA (cs := b.cs) rfl rfl fun b1 => ?_
  repeat refine gs1 ?_
  refine AW.loop (fun s J q => ∃ (i : Nat) (v : Value), s = [(1, pB b1), (3, v), (4, .int .i64 (i : Int))] ∧ J = St ⟨w, Φ, []⟩ Φ [.row v 9 1 i ((ns.take i).map fun q => .string (bs q)), .blk b1 31 b.cs] ∧ q = ns.length - i ∧ i ≤ ns.length ∧ IsSl v i) (s0 := [(1, pB b1), (3, .slice none 0 0), (4, .int .i64 ((0 : Nat) : Int))]) (J1 := _) (m0 := _) ⟨0, .slice none 0 0, rfl, rfl, rfl, Nat.zero_le _, ⟨none, 0, rfl, fun h => absurd h (Nat.lt_irrefl _), Nat.le_refl _⟩⟩ ⟨rfl, rfl, rfl, trivial⟩ (fun _ h => StP.nilRow h _ _) ?_
  rintro _ _ _ _ ⟨i, v, rfl, rfl, rfl, hi, hv⟩
  repeat refine gs1 ?_
  refine AW.cond rfl (fun h => ?_) fun h => ?_
  · have h : i < ns.length := by have := odT h; omega
    have hp1 : PCell Φ (Value.at b.tv (i * 7 + 0)) (.string (bs ns[i])) := hn.at_ i h
    repeat refine gs1 ?_
    refine RW.eff _ _ rfl (e_buildSlice (vals := [(0, .string (bs ns[i]))]) (cells := [.string (bs ns[i])]) Tryz.underlying22 inf9 rfl rfl rfl (by kernel_rfl) rfl) fun b8 => ?_
    refine RW.eff (fun xv : {vq : Value // IsSl vq (i + 1)} => xv.1) (fun xv => St ⟨w, Φ, []⟩ Φ [.row (.slice (some ⟨b8, 0, none⟩) 1 1) 9 1 1 [.string (bs ns[i])], .row xv.1 9 1 (i + 1) (((ns.take i).map fun q => .string (bs q)) ++ [.string (bs ns[i])]), .blk b1 31 b.cs]) rfl (e_append 1 rfl rfl rfl Tryz.underlying22 inf9 rfl rfl rfl (Cells.row0 0 rfl) rfl (by omega) (by omega) (fun _ => rfl)) ?_
    rintro ⟨v2, hv2⟩
    repeat refine gs1 ?_
    exact Post.back (s' := _) (J' := _) (m' := _) (by omega) ⟨i + 1, v2, rfl, rfl, rfl, by omega, hv2⟩ ⟨rfl, rfl, rfl, trivial⟩ (fun _ h => by rw [take_snoc ‹i < ns.length›, List.map_append]; exact StP.sel h [1, 2] (by decide) rfl)
  have h : i = ns.length := by have := odF h; omega
  subst h
  obtain ⟨vA, vc, rfl, _⟩ := hv
  repeat refine gs1 ?_
  exact fin_res (vs := [.slice vA ns.length vc]) rfl rfl ⟨.tmp rfl, trivial⟩ rfl (fun w' hw => ⟨_, rfl, hw.below rfl, (vA, vc), rfl, NmS.row (T := 9) (n := ns.length) (by have h9 : RowS (ext Φ w.heap.size w') (.slice vA ns.length vc) 9 1 ns.length ((ns.take ns.length).map fun q => .string (bs q)) := row_ext hw 0 rfl; rwa [List.take_length] at h9) rfl hn.len hn.big⟩)
theorem ix_iff {l : List (List UInt8)} {i : Nat} (h : i < l.length) : Ru.ix l (l.getD i []) = some i ↔ ∀ k, k < i → l.getD k [] ≠ l.getD i [] := by
  unfold Ru.ix
  rw [List.findIdx?_eq_some_iff_getElem]
  have hg : ∀ k (hk : k < l.length), l.getD k [] = l[k] := fun k hk => by rw [gDD, List.getElem?_eq_getElem hk]; rfl
  constructor
  · rintro ⟨_, _, h2⟩ k hk he
    exact h2 k hk (decide_eq_true (by rw [← hg k (by omega)]; exact he))
  · intro h1
    refine ⟨h, by rw [← hg i h]; simp, fun k hk => ?_⟩
    rw [← hg k (by omega)]
    simpa using h1 k hk
theorem first_c (w : World) (Φ : Hp) (hΦ : Hp.le Φ (hp w)) {v : Value} {ns : List (List UInt8)} (hn : NmS Φ v 1 ns) {n : Int} :
    Calls pg 55 #[.int .i64 n, v] w fun e w' => e = .returned (.bool (Ru.den ns n)) ∧ Bel w.heap.size w w' := by
  have hsl := hn.sl
  have hbig := hn.big
  obtain ⟨vA, vc, rfl, _⟩ := hn.sl
  refine calls_of_AW (args := [.int .i64 n, .slice vA ns.length vc]) Tryz.func55 rfl (lBT rfl) (St ⟨w, Φ, []⟩ Φ []) (StP.init w Φ hΦ []) ?_
  show AW _ _ [] _ _ _ [(0, .int .i64 n), (1, .slice vA ns.length vc)] _
  repeat refine gs1 ?_
  refine RW.g (b := decide (n < 0)) (v := .int .i64 ((ns.length : Nat) : Int)) rfl rfl rfl (fun h => q_len_sl (gv_pos h) hsl Tryz.underlying22) ?_
  repeat refine gs1 ?_
  refine RW.q (v := .bool (decide (n < 0) || decide ((ns.length : Int) ≤ n))) rfl (qpO rfl rfl rfl) ?_
  repeat refine gs1 ?_
  refine AW.cond rfl (fun h => ?_) fun h => ?_
  · have h : n < 0 ∨ (ns.length : Int) ≤ n := by simpa using h
    have hd : Ru.den ns n = false := by
      unfold Ru.den
      rcases h with h | h
      · rw [show decide (0 ≤ n) = false from decide_eq_false (by omega)]; rfl
      · rw [show decide (n < (ns.length : Int)) = false from decide_eq_false (by omega)]; simp
    repeat refine gs1 ?_
    exact fin_res (vs := [.bool false]) rfl rfl ⟨.tmp rfl, trivial⟩ rfl (fun w' hw => ⟨by rw [hd]; rfl, hw.below rfl⟩)
  have h : ¬ (n < 0 ∨ (ns.length : Int) ≤ n) := by simpa using h
  obtain ⟨m, rfl⟩ : ∃ m : Nat, n = m := ⟨n.toNat, by omega⟩
  have hm : m < ns.length := by omega
  have hD : Ru.den ns (m : Int) = (Ru.isNm (ns.getD m []) && decide (Ru.ix ns (ns.getD m []) = some m)) := by
    unfold Ru.den
    rw [show decide (0 ≤ (m : Int)) = true from decide_eq_true (by omega), show decide ((m : Int) < (ns.length : Int)) = true from decide_eq_true (by omega), Int.toNat_natCast]; rfl
  have hcell : ∀ {B : Bs} {C : List Chunk} (i : Nat), i < ns.length → Cell (St B Φ C) (Value.at (.slice vA ns.length vc) (i * 1)) (.string (bs (ns.getD i []))) := fun i hi => by
    rw [gDD, List.getElem?_eq_getElem hi]; exact Cell.phi (hn.at_ i hi)
  repeat refine gs1 ?_
  refine AW.loop (fun s J q => ∃ i : Nat, s = [(0, .int .i64 (m : Int)), (1, .slice vA ns.length vc), (5, .int .i64 (i : Int))] ∧ J = St ⟨w, Φ, []⟩ Φ [] ∧ q = m - i ∧ i ≤ m ∧ ∀ k, k < i → ns.getD k [] ≠ ns.getD m []) (s0 := [(0, .int .i64 (m : Int)), (1, .slice vA ns.length vc), (5, .int .i64 ((0 : Nat) : Int))]) (J1 := _) (m0 := _) ⟨0, rfl, rfl, rfl, Nat.zero_le _, fun k hk => by omega⟩ ⟨rfl, rfl, rfl, trivial⟩ (fun _ h => h) ?_
  rintro _ _ _ _ ⟨i, rfl, rfl, rfl, hi, hne⟩
  repeat refine gs1 ?_
  refine AW.cond rfl (fun h => ?_) fun h => ?_
  · have h : i < m := by have := odT h; omega
    repeat refine gs1 ?_
    refine AW.drawZ (J0 := St ⟨w, Φ, []⟩ Φ []) [.q, .q, .q, .q, .q, .q, .q, .q, .q] [0, 1, 2, 3, 4, 5, 6, 7, 8] hmix (by kernel_rfl) ?_
    refine DW.q (fun _ h => h) rfl (q_move rfl) ?_
    refine DW.q (fun _ h => h) rfl (q_move rfl) ?_
    refine DW.q (v := .pointer (some (Value.at (.slice vA ns.length vc) (i * 1)))) (fun _ h => h) rfl (qa_ixN (n := ns.length) (i := i) rfl rfl hsl (by omega)) ?_
    refine DW.q (v := .string (bs (ns.getD i []))) (fun _ h => h) rfl (qa_ld rfl (hcell i (by omega))) ?_
    refine DW.q (fun _ h => h) rfl (q_move rfl) ?_
    refine DW.q (fun _ h => h) rfl (q_move rfl) ?_
    refine DW.q (v := .pointer (some (Value.at (.slice vA ns.length vc) (m * 1)))) (fun _ h => h) rfl (qa_ixN (n := ns.length) (i := m) rfl rfl hsl hm) ?_
    refine DW.q (v := .string (bs (ns.getD m []))) (fun _ h => h) rfl (qa_ld rfl (hcell m hm)) ?_
    refine DW.q (v := .bool (decide (ns.getD i [] = ns.getD m []))) (fun _ h => h) rfl (q_eqlStr rfl rfl) ?_
    repeat refine gs1 ?_
    refine AW.cond rfl (fun he => ?_) fun he => ?_
    · have he := odT he
      have hd : Ru.den ns (m : Int) = false := by
        rw [hD, show decide (Ru.ix ns (ns.getD m []) = some m) = false from decide_eq_false (fun hx => (ix_iff hm).1 hx i h he)]; simp
      repeat refine gs1 ?_
      exact fin_res (vs := [.bool false]) rfl rfl ⟨.tmp rfl, trivial⟩ rfl (fun w' hw => ⟨by rw [hd]; rfl, hw.below rfl⟩)
    have he := odF he
    repeat refine gs1 ?_
    have hnx : ∀ k, k < i + 1 → ns.getD k [] ≠ ns.getD m [] := fun k hk => by
      rcases Nat.lt_or_ge k i with h1 | h1
      · exact hne k h1
      · rw [show k = i by omega]; exact he
    exact Post.back (s' := _) (J' := _) (m' := _) (by omega) ⟨i + 1, rfl, rfl, rfl, by omega, hnx⟩ ⟨rfl, rfl, rfl, trivial⟩ (fun _ h => h)
  have h : i = m := by have := odF h; omega
  subst h
  have hd : Ru.den ns (i : Int) = Ru.isNm (ns.getD i []) := by
    rw [hD, show decide (Ru.ix ns (ns.getD i []) = some i) = true from decide_eq_true ((ix_iff hm).2 hne)]; simp
  have hlen : (ns.getD i []).length ≤ maxLen := by
    rw [gDD, List.getElem?_eq_getElem hm]; exact hn.len _ (List.getElem_mem hm)
  have pe : PCell Φ (Value.at (.slice vA ns.length vc) (i * 1)) (.string (bs (ns.getD i []))) := by
    rw [gDD, List.getElem?_eq_getElem hm]; exact hn.at_ i hm
  repeat refine gs1 ?_
  refine RW.q (v := .bool (Ru.isNm (ns.getD i []))) rfl (q_call (args := #[.string (bs (ns.getD i []))]) oK rfl rfl (fun w1 hw1 => fToken_c w1 (hp w1) (Hp.le_refl _) hlen)) ?_
  repeat refine gs1 ?_
  exact fin_res (vs := [.bool (Ru.isNm (ns.getD i []))]) rfl rfl ⟨.tmp rfl, trivial⟩ rfl (fun w' hw => ⟨by rw [hd]; rfl, hw.below rfl⟩)
end Go.Proofs.YtnfmjfheciihjaaGreatDoor
namespace Go.Proofs.YtnfmjfheciihjaaGreatDoor
open Go Go.K Go.RowKit
attribute [local irreducible] AW RW DW Post Qt
theorem isName_c (w : World) (Φ : Hp) (hΦ : Hp.le Φ (hp w)) {l : List UInt8} (hl : l.length ≤ maxLen) :
  Calls pg 40 #[.string (bs l)] w fun e w' => e = .returned (.bool (Ru.isNm l)) ∧ Bel w.heap.size w w' := by
 refine calls_of_AW (args := [.string (bs l)]) Tryz.func40 rfl (lBT rfl) (St ⟨w, Φ, []⟩ Φ []) (StP.init w Φ hΦ []) ?_
 show AW pg 54 [] _ _ _ [(0, .string (bs l))] _
 simp only [maxLen] at hl
 refine g9 ?_
 refine RW.q (v := .bool (decide (l = ([] : List UInt8)))) rfl (q_eqlStr (l := l) (r := ([] : List UInt8)) rfl rfl) ?_
 refine g2 ?_
 refine RW.g (b := (decide (l = ([] : List UInt8)))) (v := iV (l.length : Int)) rfl rfl rfl (fun h => q_lenS (l := l) (gv_pos h) uT9) ?_
 refine g1 ?_
 refine RW.q (v := .bool ((decide (l = ([] : List UInt8))) || (decide ((24 : Int) < (l.length : Int))))) rfl (qpO rfl rfl rfl) ?_
 refine g2 ?_
 refine AW.cond rfl (fun hc1 => ?_) fun hc1 => ?_
 ·
  refine g7 ?_
  exact fin_val (v' := .bool false) rfl rfl rfl (congrArg Value.bool (Ru.isNm_0 hc1).symm)
 ·
  refine g6 ?_
  refine RW.q (v := iV (l.length : Int)) rfl (q_lenS (l := l) rfl uT9) ?_
  refine g4 ?_
  refine AW.loop (fun s J m => ∃ (i : Nat), s = [(0, .string (bs l)), (14, iV (l.length : Int)), (15, iV (i : Int))] ∧ J = St ⟨w, Φ, []⟩ Φ [] ∧ m = l.length - i ∧ (i ≤ l.length) ∧ ((List.range i).all (fun j => Ru.nmAt j (l.getD j 0)) = true)) (s0 := _) (J1 := _) (m0 := _) ⟨0, rfl, rfl, rfl, (Nat.zero_le _), rfl⟩ ⟨rfl, rfl, rfl, trivial⟩ (fun _ h => h) ?_
  rintro _ _ _ _ ⟨i, rfl, rfl, rfl, hil, hE⟩
  refine g6 ?_
  refine AW.cond rfl (fun hc2 => ?_) fun hc2 => ?_
  ·
   simp [-List.getD_eq_getElem?_getD] at hc2
   refine g14 ?_
   refine RW.q (v := .int .u8 (((l.getD i 0).toNat : Nat) : Int)) rfl (q_indexS (l := l) (i := (i : Int)) rfl rfl uT9 (by omega) (by omega)) ?_
   refine g6 ?_
   refine RW.q (v := .bool (decide (((97 : Nat) : Int) ≤ (((l.getD i 0).toNat : Nat) : Int)))) rfl (q_leq (a := ((97 : Nat) : Int)) (b := (((l.getD i 0).toNat : Nat) : Int)) rfl rfl) ?_
   refine g2 ?_
   refine RW.g (b := (decide (((97 : Nat) : Int) ≤ (((l.getD i 0).toNat : Nat) : Int)))) (v := .bool (decide ((((l.getD i 0).toNat : Nat) : Int) ≤ ((122 : Nat) : Int)))) rfl rfl rfl (fun h => q_leq (a := (((l.getD i 0).toNat : Nat) : Int)) (b := ((122 : Nat) : Int)) (gv_pos h) rfl) (RW.q (v := .bool (loA l i)) rfl (qpA rfl rfl rfl) ?_)
   refine g2 ?_
   refine RW.g (b := (loA l i)) (v := .bool (decide (((65 : Nat) : Int) ≤ (((l.getD i 0).toNat : Nat) : Int)))) rfl rfl rfl (fun h => q_leq (a := ((65 : Nat) : Int)) (b := (((l.getD i 0).toNat : Nat) : Int)) rfl (gv_pos h)) ?_
   refine g1 ?_
   refine RW.g2 (b1 := (loA l i)) (b2 := (decide (((65 : Nat) : Int) ≤ (((l.getD i 0).toNat : Nat) : Int)))) (v := .int .u8 (((l.getD i 0).toNat : Nat) : Int)) rfl rfl rfl (fun hg1 hg2 => q_move rfl) (RW.g2 (b1 := (loA l i)) (b2 := (decide (((65 : Nat) : Int) ≤ (((l.getD i 0).toNat : Nat) : Int)))) (v := .bool (decide ((((l.getD i 0).toNat : Nat) : Int) ≤ ((90 : Nat) : Int)))) rfl rfl rfl (fun hg1 hg2 => q_leq (a := (((l.getD i 0).toNat : Nat) : Int)) (b := ((90 : Nat) : Int)) ((gv_pos hg1).trans (gv_pos hg2)) rfl) (RW.g (b := (loA l i)) (v := .bool (upA l i)) rfl rfl rfl (fun h => q_pick (gv_pos h) (fun hp => (gv_pos h).trans ((gv_pos hp).trans (pkAndT hp))) (fun hp => pkAndF hp)) (RW.q (v := .bool ((loA l i) || (upA l i))) rfl (qpO rfl rfl rfl) ?_)))
   refine g11 ?_
   refine RW.g2 (b1 := (!((loA l i) || (upA l i)))) (b2 := (decide ((i : Int) = 0))) (v := .int .u8 (((l.getD i 0).toNat : Nat) : Int)) rfl rfl rfl (fun hg1 hg2 => q_move rfl) (RW.g2 (b1 := (!((loA l i) || (upA l i)))) (b2 := (decide ((i : Int) = 0))) (v := .bool (!decide ((((l.getD i 0).toNat : Nat) : Int) = ((95 : Nat) : Int)))) rfl rfl rfl (fun hg1 hg2 => q_neq (a := (((l.getD i 0).toNat : Nat) : Int)) (b := ((95 : Nat) : Int)) ((gv_pos hg1).trans (gv_pos hg2)) rfl) (RW.g2 (b1 := (!((loA l i) || (upA l i)))) (b2 := (decide ((i : Int) = 0))) (v := .bool (!decide ((((l.getD i 0).toNat : Nat) : Int) = ((95 : Nat) : Int)))) rfl rfl rfl (fun hg1 hg2 => q_move ((gv_pos hg1).trans (gv_pos hg2))) (RW.g3 (b1 := (!((loA l i) || (upA l i)))) (b2 := (decide ((i : Int) = 0))) (b3 := (!decide ((((l.getD i 0).toNat : Nat) : Int) = ((95 : Nat) : Int)))) (v := .int .u8 (((l.getD i 0).toNat : Nat) : Int)) rfl rfl rfl (fun hg1 hg2 hg3 => q_move rfl) (RW.g3 (b1 := (!((loA l i) || (upA l i)))) (b2 := (decide ((i : Int) = 0))) (b3 := (!decide ((((l.getD i 0).toNat : Nat) : Int) = ((95 : Nat) : Int)))) (v := .bool (decide ((((l.getD i 0).toNat : Nat) : Int) < ((48 : Nat) : Int)))) rfl rfl rfl (fun hg1 hg2 hg3 => q_lss (a := (((l.getD i 0).toNat : Nat) : Int)) (b := ((48 : Nat) : Int)) ((gv_pos hg1).trans ((gv_pos hg2).trans (gv_pos hg3))) rfl) (RW.g3 (b1 := (!((loA l i) || (upA l i)))) (b2 := (decide ((i : Int) = 0))) (b3 := (!decide ((((l.getD i 0).toNat : Nat) : Int) = ((95 : Nat) : Int)))) (v := .bool (decide ((((l.getD i 0).toNat : Nat) : Int) < ((48 : Nat) : Int)))) rfl rfl rfl (fun hg1 hg2 hg3 => q_move ((gv_pos hg1).trans ((gv_pos hg2).trans (gv_pos hg3)))) (RW.g4 (b1 := (!((loA l i) || (upA l i)))) (b2 := (decide ((i : Int) = 0))) (b3 := (!decide ((((l.getD i 0).toNat : Nat) : Int) = ((95 : Nat) : Int)))) (b4 := (decide ((((l.getD i 0).toNat : Nat) : Int) < ((48 : Nat) : Int)))) (v := .int .u8 (((l.getD i 0).toNat : Nat) : Int)) rfl rfl rfl (fun hg1 hg2 hg3 hg4 => q_move rfl) (RW.g4 (b1 := (!((loA l i) || (upA l i)))) (b2 := (decide ((i : Int) = 0))) (b3 := (!decide ((((l.getD i 0).toNat : Nat) : Int) = ((95 : Nat) : Int)))) (b4 := (decide ((((l.getD i 0).toNat : Nat) : Int) < ((48 : Nat) : Int)))) (v := .bool (decide (((57 : Nat) : Int) < (((l.getD i 0).toNat : Nat) : Int)))) rfl rfl rfl (fun hg1 hg2 hg3 hg4 => q_gtr (a := (((l.getD i 0).toNat : Nat) : Int)) (b := ((57 : Nat) : Int)) ((gv_pos hg1).trans ((gv_pos hg2).trans ((gv_pos hg3).trans (gv_pos hg4)))) rfl) (RW.g3 (b1 := (!((loA l i) || (upA l i)))) (b2 := (decide ((i : Int) = 0))) (b3 := (!decide ((((l.getD i 0).toNat : Nat) : Int) = ((95 : Nat) : Int)))) (v := .bool ((decide ((((l.getD i 0).toNat : Nat) : Int) < ((48 : Nat) : Int))) || (decide (((57 : Nat) : Int) < (((l.getD i 0).toNat : Nat) : Int))))) rfl rfl rfl (fun hg1 hg2 hg3 => q_pick ((gv_pos hg1).trans ((gv_pos hg2).trans (gv_pos hg3))) (fun hp => pkOrT hp) (fun hp => (gv_pos hg1).trans ((gv_pos hg2).trans ((gv_pos hg3).trans ((gv_pos hp).trans (pkOrF hp)))))) (RW.g2 (b1 := (!((loA l i) || (upA l i)))) (b2 := (decide ((i : Int) = 0))) (v := .bool ((!decide ((((l.getD i 0).toNat : Nat) : Int) = ((95 : Nat) : Int))) && ((decide ((((l.getD i 0).toNat : Nat) : Int) < ((48 : Nat) : Int))) || (decide (((57 : Nat) : Int) < (((l.getD i 0).toNat : Nat) : Int)))))) rfl rfl rfl (fun hg1 hg2 => q_pick ((gv_pos hg1).trans (gv_pos hg2)) (fun hp => (gv_pos hg1).trans ((gv_pos hg2).trans ((gv_pos hp).trans (pkAndT hp)))) (fun hp => pkAndF hp)) ?_)))))))))
   refine RW.g (b := (!((loA l i) || (upA l i)))) (v := .bool ((decide ((i : Int) = 0)) || ((!decide ((((l.getD i 0).toNat : Nat) : Int) = ((95 : Nat) : Int))) && ((decide ((((l.getD i 0).toNat : Nat) : Int) < ((48 : Nat) : Int))) || (decide (((57 : Nat) : Int) < (((l.getD i 0).toNat : Nat) : Int))))))) rfl rfl rfl (fun h => q_pick (gv_pos h) (fun hp => pkOrT hp) (fun hp => (gv_pos h).trans ((gv_pos hp).trans (pkOrF hp)))) (RW.q (v := .bool ((!((loA l i) || (upA l i))) && ((decide ((i : Int) = 0)) || ((!decide ((((l.getD i 0).toNat : Nat) : Int) = ((95 : Nat) : Int))) && ((decide ((((l.getD i 0).toNat : Nat) : Int) < ((48 : Nat) : Int))) || (decide (((57 : Nat) : Int) < (((l.getD i 0).toNat : Nat) : Int)))))))) rfl (qpA rfl rfl rfl) ?_)
   refine g2 ?_
   refine AW.cond rfl (fun hc3 => ?_) fun hc3 => ?_
   ·
    refine g11 ?_
    exact fin_val (v' := .bool false) rfl rfl rfl (congrArg Value.bool (Ru.isNm_1 (by omega) (by have h := (Ru.nmT_eq i (l.getD i 0)).symm.trans hc3; simpa using h)).symm)
   ·
    refine g7 ?_
    have hyes : Ru.nmAt i (l.getD i 0) = true := by have h := (Ru.nmT_eq i (l.getD i 0)).symm.trans hc3; simpa using h
    exact Post.back (s' := _) (J' := _) (m' := _) (by omega) ⟨i + 1, rfl, rfl, rfl, (by omega), (by rw [List.range_succ, List.all_append, hE, List.all_cons, List.all_nil, hyes]; rfl)⟩ ⟨rfl, rfl, rfl, trivial⟩ (fun _ h => h)
  ·
   simp [-List.getD_eq_getElem?_getD] at hc2
   refine g11 ?_
   exact fin_val (v' := .bool true) rfl rfl rfl (congrArg Value.bool (Ru.isNm_2 hc1 (by rw [show l.length = i by omega]; exact hE)).symm)
theorem eqI_c (w : World) (Φ : Hp) (hΦ : Hp.le Φ (hp w)) {xs ys : List Int} {v1 v2 : Value} (h1 : RepSl Φ xs v1) (h2 : RepSl Φ ys v2) :
  Calls pg 104 #[v1, v2] w fun e w' => e = .returned (.bool (decide (xs = ys))) ∧ Bel w.heap.size w w' := by
 refine calls_of_AW (args := [v1, v2]) Tryz.func104 rfl (lBT rfl) (St ⟨w, Φ, []⟩ Φ []) (StP.init w Φ hΦ []) ?_
 show AW pg 26 [] _ _ _ [(0, v1), (1, v2)] _
 have hm1 := h1.max
 have hb1 : xs.length * 8 ≤ maxSl := hm1
 simp only [maxSl] at hb1
 refine g15 ?_
 refine AW.cond rfl (fun hc1 => ?_) fun hc1 => ?_
 ·
  simp [-List.getD_eq_getElem?_getD] at hc1
  refine g7 ?_
  exact fin_val (v' := .bool false) rfl rfl rfl (congrArg Value.bool (decide_eq_false (fun h => by rw [h] at hc1; exact hc1 rfl)).symm)
 ·
  simp [-List.getD_eq_getElem?_getD] at hc1
  refine g11 ?_
  refine AW.loop (fun s J m => ∃ (i : Nat), s = [(0, v1), (1, v2), (12, iV (xs.length : Int)), (13, iV (i : Int))] ∧ J = St ⟨w, Φ, []⟩ Φ [] ∧ m = xs.length - i ∧ (i ≤ xs.length) ∧ (∀ j, j < i → xs.getD j 0 = ys.getD j 0)) (s0 := _) (J1 := _) (m0 := _) ⟨0, rfl, rfl, rfl, (Nat.zero_le _), (fun j hj => absurd hj (Nat.not_lt_zero _))⟩ ⟨rfl, rfl, rfl, rfl, trivial⟩ (fun _ h => h) ?_
  rintro _ _ _ _ ⟨i, rfl, rfl, rfl, hil, hE⟩
  refine g6 ?_
  refine AW.cond rfl (fun hc2 => ?_) fun hc2 => ?_
  ·
   simp [-List.getD_eq_getElem?_getD] at hc2
   refine g11 ?_
   refine AW.draw (J0 := St ⟨w, Φ, []⟩ Φ []) [.q, .q, .q, .q, .q, .q, .q, .q, .q] [0, 1, 2, 3, 4, 5, 6, 7, 8] hmix (by kernel_rfl) ?_
   refine g2 ?_
   refine DW.q (v := .pointer (some (Value.at v1 (i * 1)))) (fun _ h => h) rfl (q_indexAddr rfl rfl h1.sl uT29 sz3 (by omega) (by omega) rfl) (DW.q (v := iV (xs.getD i 0)) (fun _ h => h) rfl (q_load rfl uT3 rfl (Cell.repInt h1 (by omega))) ?_)
   refine g2 ?_
   refine DW.q (v := .pointer (some (Value.at v2 (i * 1)))) (fun _ h => h) rfl (q_indexAddr rfl rfl h2.sl uT29 sz3 (by omega) (by omega) rfl) (DW.q (v := iV (ys.getD i 0)) (fun _ h => h) rfl (q_load rfl uT3 rfl (Cell.repInt h2 (by omega))) ?_)
   refine g3 ?_
   refine AW.cond rfl (fun hc3 => ?_) fun hc3 => ?_
   ·
    simp [-List.getD_eq_getElem?_getD] at hc3
    refine g11 ?_
    exact fin_val (v' := .bool false) rfl rfl rfl (congrArg Value.bool (decide_eq_false (fun h => by rw [h] at hc3; exact hc3 rfl)).symm)
   ·
    simp [-List.getD_eq_getElem?_getD] at hc3
    refine g7 ?_
    exact Post.back (s' := _) (J' := _) (m' := _) (by omega) ⟨i + 1, rfl, rfl, rfl, (by omega), (fun j hj => (Nat.lt_or_ge j i).elim (hE j) (fun h => by obtain rfl : j = i := (by omega); exact hc3))⟩ ⟨rfl, rfl, rfl, rfl, trivial⟩ (fun _ h => h)
  ·
   simp [-List.getD_eq_getElem?_getD] at hc2
   refine g11 ?_
   exact fin_val (v' := .bool true) rfl rfl rfl (congrArg Value.bool (decide_eq_true (Ru.eqI_of (by omega) (fun j hj => hE j (by omega)))).symm)
open Ru (tr trs pB nC TrF fC cC fnP clP Tl NmS BasV ixM)
structure RsB where
 r : Nat
 m1 : Nat
 m2 : Nat
 m3 : Nat
 m4 : Nat
 m5 : Nat
end Go.Proofs.YtnfmjfheciihjaaGreatDoor
namespace Go.Proofs.YtnfmjfheciihjaaGreatDoor
open Go Go.K Go.RowKit
def wfE (x : Bt.Expr) : Prop := I64 x.Kind ∧ I64 x.N ∧ I64 x.Of ∧ I64 x.Of2
abbrev exC (x : Bt.Expr) (v : Value) : List Value := [iV x.Kind, iV x.N, iV x.Of, iV x.Of2, v]
mutual
def rpE (Φ : Hp) : Bt.Expr → List Value → Prop
 | ⟨k, n, o, q, ks⟩, cs => ∃ v css, cs = exC ⟨k, n, o, q, ks⟩ v ∧ wfE ⟨k, n, o, q, ks⟩ ∧ IsSl v ks.length ∧ ks.length * 56 ≤ maxSl ∧ rpX Φ ks css ∧ ∀ i c, css[i]? = some c → ∀ j u, c[j]? = some u → PCell Φ (Value.at v (i * 5 + j)) u
def rpX (Φ : Hp) : List Bt.Expr → List (List Value) → Prop
 | [], css => css = []
 | x :: xs, css => ∃ c cs, css = c :: cs ∧ rpE Φ x c ∧ rpX Φ xs cs
end
mutual
theorem rpE_mono {Φ Ψ : Hp} (hl : Hp.le Φ Ψ) : ∀ (x : Bt.Expr) (cs : List Value), rpE Φ x cs → rpE Ψ x cs
 | ⟨k, n, o, q, ks⟩, cs, h => by
  unfold rpE at h ⊢
  obtain ⟨v, css, h1, h2, h3, h4, h5, h6⟩ := h
  exact ⟨v, css, h1, h2, h3, h4, rpX_mono hl ks css h5, fun i c hc j u hj => (h6 i c hc j u hj).mono hl⟩
theorem rpX_mono {Φ Ψ : Hp} (hl : Hp.le Φ Ψ) : ∀ (xs : List Bt.Expr) (css : List (List Value)), rpX Φ xs css → rpX Ψ xs css
 | [], css, h => by unfold rpX at h ⊢; exact h
 | x :: xs, css, h => by
  unfold rpX at h ⊢
  obtain ⟨c, cs, h1, h2, h3⟩ := h
  exact ⟨c, cs, h1, rpE_mono hl x c h2, rpX_mono hl xs cs h3⟩
end
theorem rpX_iff {Φ : Hp} : ∀ {xs : List Bt.Expr} {css : List (List Value)}, rpX Φ xs css ↔ css.length = xs.length ∧ ∀ i (h : i < xs.length), ∃ c, css[i]? = some c ∧ rpE Φ xs[i] c
 | [], css => by
  unfold rpX
  exact ⟨fun h => by subst h; exact ⟨rfl, fun i h => by cases h⟩, fun h => List.length_eq_zero_iff.1 h.1⟩
 | x :: xs, css => by
  unfold rpX
  constructor
  ·
   rintro ⟨c, cs, rfl, h1, h2⟩
   obtain ⟨h3, h4⟩ := rpX_iff.1 h2
   refine ⟨by simp [h3], fun i hi => ?_⟩
   cases i with
   | zero => exact ⟨c, rfl, h1⟩
   | succ i => simpa using h4 i (by simpa using hi)
  ·
   rintro ⟨h1, h2⟩
   match css, h1 with
   | c :: cs, h1 =>
    obtain ⟨c', hc, hx⟩ := h2 0 (by simp)
    obtain rfl : c = c' := by simpa using hc
    refine ⟨c, cs, rfl, hx, rpX_iff.2 ⟨by simpa using h1, fun i hi => ?_⟩⟩
    obtain ⟨c', h5, h6⟩ := h2 (i + 1) (by simpa using hi)
    exact ⟨c', by simpa using h5, h6⟩
theorem rpE_ex {Φ : Hp} {x : Bt.Expr} {cs : List Value} (h : rpE Φ x cs) : ∃ v, cs = exC x v ∧ wfE x ∧ IsSl v x.Kids.length ∧ x.Kids.length * 56 ≤ maxSl ∧ ∃ css, rpX Φ x.Kids css ∧ ∀ i c, css[i]? = some c → ∀ j u, c[j]? = some u → PCell Φ (Value.at v (i * 5 + j)) u := by
 obtain ⟨k, n, o, q, ks⟩ := x
 unfold rpE at h
 obtain ⟨v, css, h1, h2, h3, h4, h5, h6⟩ := h
 exact ⟨v, h1, h2, h3, h4, css, h5, h6⟩
theorem isSl_one {v : Value} {n : Nat} (h : IsSl v n) : v.oneCell' = true := by obtain ⟨A, c, rfl, _⟩ := h; rfl
instance : Rep Bt.Expr where
 sz := 5
 bytes := 56
 rep := rpE
 len := fun h => by obtain ⟨v, h1, _⟩ := rpE_ex h; rw [h1]; rfl
 mono := fun hl h => rpE_mono hl _ _ h
 one := fun h u hu => by
  obtain ⟨v, h1, _, h3, _⟩ := rpE_ex h
  rw [h1] at hu
  simp only [exC, List.mem_cons, List.not_mem_nil, or_false] at hu
  rcases hu with rfl | rfl | rfl | rfl | rfl
  ·
   rfl
  ·
   rfl
  ·
   rfl
  ·
   rfl
  ·
   exact isSl_one h3
theorem repE' {Φ : Hp} {x : Bt.Expr} {cs : List Value} : Rep.rep Φ x cs ↔ ∃ v, cs = exC x v ∧ wfE x ∧ RepSl Φ x.Kids v := by
 constructor
 ·
  intro h
  obtain ⟨v, h1, h2, h3, h4, css, h5, h6⟩ := rpE_ex h
  refine ⟨v, h1, h2, h3, h4, fun i hi => ?_⟩
  obtain ⟨c, h7, h8⟩ := (rpX_iff.1 h5).2 i hi
  exact ⟨c, h8, fun j u hj => h6 i c h7 j u hj⟩
 ·
  rintro ⟨v, h1, h2, h3⟩
  obtain ⟨k, n, o, q, ks⟩ := x
  show rpE Φ _ _
  unfold rpE
  refine ⟨v, (List.range ks.length).map fun i => if h : i < ks.length then Classical.choose (h3.at_ i h) else [], h1, h2, h3.sl, h3.max, rpX_iff.2 ⟨by simp, fun i hi => ⟨_, ?_, (Classical.choose_spec (h3.at_ i hi)).1⟩⟩, fun i c hc j u hj => ?_⟩
  ·
   simp [hi]
  ·
   by_cases hi : i < ks.length
   ·
    simp only [List.getElem?_map, List.getElem?_range hi, Option.map_some, dif_pos hi, Option.some.injEq] at hc
    subst hc
    exact (Classical.choose_spec (h3.at_ i hi)).2 j u hj
   ·
    rw [List.getElem?_eq_none (by simpa using hi)] at hc; cases hc
abbrev rfC (x : Bt.RFunc) (pv v : Value) : List Value := .string (bs x.Name) :: pv :: iV x.Result :: exC x.Body v
abbrev rcC (x : Bt.RClause) (u v : Value) : List Value := exC x.If u ++ iV x.Link :: exC x.To v
theorem exC_one {x : Bt.Expr} {v : Value} (h : v.oneCell' = true) : ∀ u ∈ exC x v, u.oneCell' = true := by
 intro u hu
 simp only [exC, List.mem_cons, List.not_mem_nil, or_false] at hu
 rcases hu with rfl | rfl | rfl | rfl | rfl
 all_goals first | rfl | exact h
instance : Rep Bt.RFunc where
 sz := 8
 bytes := 104
 rep := fun Φ x cs => ∃ pv v, cs = rfC x pv v ∧ x.Name.length ≤ maxLen ∧ RepSl Φ x.Params pv ∧ I64 x.Result ∧ wfE x.Body ∧ RepSl Φ x.Body.Kids v
 len := fun ⟨pv, v, h, _⟩ => by rw [h]; rfl
 mono := fun hl ⟨pv, v, h1, h2, h3, h4, h5, h6⟩ => ⟨pv, v, h1, h2, h3.mono hl, h4, h5, h6.mono hl⟩
 one := fun ⟨pv, v, h1, h2, h3, h4, h5, h6⟩ u hu => by
  rw [h1] at hu
  simp only [rfC, List.mem_cons] at hu
  rcases hu with rfl | rfl | rfl | hu
  ·
   rfl
  ·
   exact isSl_one h3.sl
  ·
   rfl
  ·
   exact exC_one (x := ‹Bt.RFunc›.Body) (isSl_one h6.sl) u (by simpa using hu)
instance : Rep Bt.RClause where
 sz := 11
 bytes := 120
 rep := fun Φ x cs => ∃ u v, cs = rcC x u v ∧ wfE x.If ∧ RepSl Φ x.If.Kids u ∧ I64 x.Link ∧ wfE x.To ∧ RepSl Φ x.To.Kids v
 len := fun ⟨pv, v, h, _⟩ => by rw [h]; rfl
 mono := fun hl ⟨u, v, h1, h2, h3, h4, h5, h6⟩ => ⟨u, v, h1, h2, h3.mono hl, h4, h5, h6.mono hl⟩
 one := fun ⟨a, v, h1, h2, h3, h4, h5, h6⟩ u hu => by
  rw [h1] at hu
  rcases List.mem_append.1 hu with hu | hu
  ·
   exact exC_one (isSl_one h3.sl) u hu
  ·
   rcases List.mem_cons.1 hu with rfl | hu
   ·
    rfl
   ·
    exact exC_one (isSl_one h6.sl) u hu
end Go.Proofs.YtnfmjfheciihjaaGreatDoor
namespace Ru
open Go
def left (es : Array MapEntry) (seen : Array Nat) : Nat := (es.toList.filter fun e => !seen.contains e.born).length
theorem contains_push (seen : Array Nat) (a c : Nat) : (seen.push a).contains c = (seen.contains c || c == a) := by
 rw [Bool.eq_iff_iff]; simp
theorem left_lt {es : Array MapEntry} {seen : Array Nat} {e : MapEntry} (he : e ∈ es.toList) (hn : seen.contains e.born = false) : left es (seen.push e.born) < left es seen := by
 unfold left
 have key : ∀ l : List MapEntry, (l.filter fun e' => !(seen.push e.born).contains e'.born).length ≤ (l.filter fun e' => !seen.contains e'.born).length ∧ (e ∈ l → (l.filter fun e' => !(seen.push e.born).contains e'.born).length < (l.filter fun e' => !seen.contains e'.born).length) := by
  intro l
  induction l with
  | nil => exact ⟨Nat.le_refl _, fun h => by cases h⟩
  | cons a l ih =>
   obtain ⟨i1, i2⟩ := ih
   have hp := contains_push seen e.born a.born
   cases hs : seen.contains a.born with
   | true =>
    rw [hs, Bool.true_or] at hp
    have e1 : ((a :: l).filter fun e' => !(seen.push e.born).contains e'.born) = l.filter fun e' => !(seen.push e.born).contains e'.born := List.filter_cons_of_neg (by rw [hp]; simp)
    have e2 : ((a :: l).filter fun e' => !seen.contains e'.born) = l.filter fun e' => !seen.contains e'.born := List.filter_cons_of_neg (by rw [hs]; simp)
    rw [e1, e2]
    refine ⟨i1, fun h => ?_⟩
    rcases List.mem_cons.1 h with h | h
    ·
     subst h; rw [hn] at hs; cases hs
    ·
     exact i2 h
   | false =>
    have e2 : ((a :: l).filter fun e' => !seen.contains e'.born) = a :: l.filter fun e' => !seen.contains e'.born := List.filter_cons_of_pos (by rw [hs]; simp)
    rw [e2]
    by_cases hab : a.born = e.born
    ·
     have e1 : ((a :: l).filter fun e' => !(seen.push e.born).contains e'.born) = l.filter fun e' => !(seen.push e.born).contains e'.born := List.filter_cons_of_neg (by rw [hp, hab]; simp)
     rw [e1]
     simp only [List.length_cons]
     exact ⟨by omega, fun _ => by omega⟩
    ·
     have e1 : ((a :: l).filter fun e' => !(seen.push e.born).contains e'.born) = a :: l.filter fun e' => !(seen.push e.born).contains e'.born := List.filter_cons_of_pos (by rw [hp, hs]; simp [hab])
     rw [e1]
     simp only [List.length_cons]
     refine ⟨by omega, fun h => ?_⟩
     rcases List.mem_cons.1 h with h | h
     ·
      subst h; exact absurd rfl hab
     ·
      have := i2 h; omega
 exact (key es.toList).2 he
theorem born_inj {α β : Type} {f : α → β} : ∀ {l : List α}, (l.map f).Nodup → ∀ {x y : α}, x ∈ l → y ∈ l → f x = f y → x = y
 | [], _, _, _, h, _, _ => by cases h
 | a :: l, hn, x, y, hx, hy, h => by
  obtain ⟨h1, h2⟩ := List.nodup_cons.1 hn
  by_cases ex : x = a
  ·
   by_cases ey : y = a
   ·
    rw [ex, ey]
   ·
    have h3 : y ∈ l := (List.mem_cons.1 hy).resolve_left ey
    have h4 : f y ∈ l.map f := List.mem_map_of_mem h3
    rw [← h, ex] at h4; exact absurd h4 h1
  ·
   have h3 : x ∈ l := (List.mem_cons.1 hx).resolve_left ex
   by_cases ey : y = a
   ·
    have h4 : f x ∈ l.map f := List.mem_map_of_mem h3
    rw [h, ey] at h4; exact absurd h4 h1
   ·
    exact born_inj h2 h3 ((List.mem_cons.1 hy).resolve_left ey) h
def denM (ns : List (List UInt8)) (i : Int) : Option Bool := if den ns i = true then some true else none
theorem denM_get (ns : List (List UInt8)) (i : Int) : (denM ns i).getD false = den ns i := by
 unfold denM
 cases h : den ns i
 ·
  rfl
 ·
  rfl
theorem ix_get {ns : List (List UInt8)} {k : List UInt8} {j : Nat} (h : ix ns k = some j) : j < ns.length ∧ ns.getD j [] = k := by
 unfold ix at h
 rw [List.findIdx?_eq_some_iff_getElem] at h
 obtain ⟨h1, h2, _⟩ := h
 refine ⟨h1, ?_⟩
 rw [gDD, List.getElem?_eq_getElem h1]
 exact odT h2
theorem den_ix {ns : List (List UInt8)} {k : List UInt8} {j : Nat} (h : ix ns k = some j) : den ns (j : Int) = isNm k := by
 obtain ⟨h1, h2⟩ := ix_get h
 unfold den
 rw [Int.toNat_natCast, h2, h]
 simp [h1]
theorem den_some {ns : List (List UInt8)} {i : Int} (h : den ns i = true) : ∃ j : Nat, i = j ∧ j < ns.length ∧ isNm (ns.getD j []) = true ∧ ix ns (ns.getD j []) = some j := by
 unfold den at h
 simp only [Bool.and_eq_true, decide_eq_true_eq] at h
 exact ⟨i.toNat, by omega, by omega, h.1.2, h.2⟩
end Ru
namespace Go.Proofs.YtnfmjfheciihjaaGreatDoor
open Go Go.K Go.RowKit
open Ru (pB NmS BasV ixM denM)
attribute [local irreducible] AW RW DW Post Qt
noncomputable def kInt : KL pg 3 Int := KL.of (Maps.int_keyed uT3) (Value.int .i64) I64 (fun h => by simpa using h) fun a ha => ⟨_, Maps.keyOf_int_mk uT3 (by unfold I64 at ha; simp [Lit.wf, IntKind.min, IntKind.max, IntKind.bits, IntKind.signed]; omega)⟩
noncomputable abbrev dtab (b : Nat) (ns : List (List UInt8)) : Chunk := .kmap kInt Value.bool b (denM ns)
theorem denotable_c (w : World) {ns : List (List UInt8)} {k bb : Nat} (hk : Go.K.Own pg k) (hlen : ∀ n ∈ ns, n.length ≤ maxLen) (hbig : ns.length ≤ 9223372036854775807) (hname : ∀ w1, Hp.le (hp w) (hp w1) → ∀ i (hi : i < ns.length), Calls pg k #[iV (i : Int), pB bb] w1 fun e w' => e = .returned (.string (bs ns[i])) ∧ Bel w1.heap.size w1 w') :
  Calls pg 35 #[iV (ns.length : Int), .func (.func k) #[] #[pB bb]] w (MkR w (fun b : Nat => .map (some b)) fun b => [dtab b ns]) := by
 refine calls_of_AW (args := [iV (ns.length : Int), .func (.func k) #[] #[pB bb]]) Tryz.func35 rfl (lBT rfl) (St ⟨w, hp w, []⟩ (hp w) []) (StP.init w (hp w) (Hp.le_refl _) []) ?_
 show AW _ _ [] _ _ _ [(0, iV (ns.length : Int)), (1, .func (.func k) #[] #[pB bb])] _
 repeat refine gs1 ?_
 refine RW.eff _ _ rfl (e_kmake kInt Value.bool) fun b5 => ?_
 repeat refine gs1 ?_
 refine RW.mk (args := #[iV (ns.length : Int), .func (.func k) #[] #[pB bb]]) rfl oK rfl rfl (fun w1 hw1 => indices_c w1 hk hlen hbig (fun w2 hl i hi => hname w2 (hw1.phi.trans hl) i hi)) fun mb => (RW.eff (fun x : {q : Nat × Array MapEntry × Nat // KM kStr (Value.int .i64) q.2.1 q.2.2 (ixM ns)} => .pointer (some ⟨x.1.1, 0, none⟩)) (fun x => St ⟨w, hp w, []⟩ (hp w) [.obj x.1.1 (.mapIter (some mb) x.1.2.2 #[] x.1.2.2), .obj mb (.map x.1.2.1 x.1.2.2), .kmap kInt Value.bool b5 (fun _ => none)]) rfl (e_krange (L := kStr) (ew := Value.int .i64) (M := ixM ns) 0 rfl rfl uT108) ?_)
 rintro ⟨⟨it, es, ck⟩, hkm⟩
 replace hkm : KM kStr (Value.int .i64) es ck (ixM ns) := hkm
 repeat refine gs1 ?_
 refine AW.loop (fun s J m => ∃ (seen : Array Nat) (M : Int → Option Bool), s = [(5, .map (some b5)), (12, .pointer (some ⟨it, 0, none⟩))] ∧ J = St ⟨w, hp w, []⟩ (hp w) [.obj it (.mapIter (some mb) ck seen ck), .obj mb (.map es ck), .kmap kInt Value.bool b5 M] ∧ m = Ru.left es seen ∧ (∀ i t, M i = some t → t = true ∧ Ru.den ns i = true) ∧ (∀ e ∈ es.toList, seen.contains e.born = true → ∀ k v, e.key = kStr.enc k → ixM ns k = some v → Ru.isNm k = true → M v = some true)) (s0 := _) (J1 := _) (m0 := _) ⟨#[], fun _ => none, rfl, rfl, rfl, (fun i t h => nomatch h), (fun e _ h => by simp at h)⟩ ⟨rfl, rfl, trivial⟩ (fun _ h => h) ?_
 rintro _ _ _ _ ⟨seen, M, rfl, rfl, rfl, hM1, hM2⟩
 refine AW.seq (AW.nextR (L := kStr) (ew := Value.int .i64) (M := ixM ns) 0 1 rfl rfl rfl hkm rfl rfl (C' := fun bn => [.obj it (.mapIter (some mb) ck (seen.push bn) ck), .obj mb (.map es ck), .kmap kInt Value.bool b5 M]) (fun _ => rfl) ?_ ?_)
 ·
  intro hall
  refine Post.then_n (AW.seq (AW.condF rfl ?_))
  repeat refine gs1 ?_
  exact fin_res (vs := [.map (some b5)]) rfl rfl ⟨.tmp rfl, trivial⟩ rfl (fun w' hw => ⟨b5, rfl, by
   have hMe : M = denM ns := by
    funext i
    unfold denM
    by_cases hd : Ru.den ns i = true
    ·
     rw [if_pos hd]
     obtain ⟨j, rfl, hj, hnm, hix⟩ := Ru.den_some hd
     have hx : ixM ns (ns.getD j []) = some (j : Int) := by unfold ixM; rw [hix]; rfl
     obtain ⟨e, he, hek⟩ := hkm.has _ _ hx
     exact hM2 e he (hall e he) _ _ hek hx hnm
    ·
     rw [if_neg hd]
     cases hq : M i with
     | none => rfl
     | some t => exact absurd (hM1 i t hq).2 hd
   show StP _ _ [.kmap kInt Value.bool b5 (denM ns)] _
   rw [← hMe]
   exact StP.sel hw [2] (by decide) rfl⟩)
 ·
  intro e kk v he hns hgk hek hMk hev
  have hgl : kk.length ≤ maxLen := hgk
  obtain ⟨j, hj, hjv⟩ : ∃ j : Nat, Ru.ix ns kk = some j ∧ v = (j : Int) := by
   unfold ixM at hMk
   obtain ⟨j, h1, h2⟩ := mS hMk
   exact ⟨j, h1, h2.symm⟩
  subst hjv
  have hjl := (Ru.ix_get hj).1
  have hgv : kInt.good (j : Int) := by show I64 _; unfold I64; omega
  refine Post.then_n (AW.seq (AW.condT rfl (AW.skip (Post.then_n (AW.block (AW.seq (AW.region (RW.q (v := .tuple #[.string (bs kk), iV (j : Int)]) rfl (q_kentry2 (L := kStr) (ew := Value.int .i64) (M := ixM ns) (k := kk) (v := (j : Int)) 0 1 rfl rfl rfl hkm he hek hev) ?_))))))))
  repeat refine gs1 ?_
  refine RW.q rfl (q_call (args := #[.string (bs kk)]) oK rfl rfl (fun w1 hw1 => isName_c w1 (hp w1) (Hp.le_refl _) hgl)) ?_
  repeat refine gs1 ?_
  have hcomp : ∀ (M2 : Int → Option Bool), (∀ i t, M i = some t → M2 i = some t) → (Ru.isNm kk = true → M2 (j : Int) = some true) → ∀ e' ∈ es.toList, (seen.push e.born).contains e'.born = true → ∀ k v, e'.key = kStr.enc k → ixM ns k = some v → Ru.isNm k = true → M2 v = some true := fun M2 hsub hnew e' he' hs k v hk2 hx hn => by
   rw [Ru.contains_push, Bool.or_eq_true] at hs
   rcases hs with hs | hs
   ·
    exact hsub _ _ (hM2 e' he' hs k v hk2 hx hn)
   ·
    have hb : e'.born = e.born := by simpa using hs
    have hee : e' = e := by
     exact Ru.born_inj hkm.born he' he hb
    subst hee
    have hkk : k = kk := kStr.inj (hk2.symm.trans hek)
    subst hkk
    have hv : v = (j : Int) := by rw [hMk] at hx; exact (sJ hx).symm
    rw [hv]; exact hnew hn
  refine AW.cond rfl (fun hc => ?_) fun hc => ?_
  ·
   have hden : Ru.den ns (j : Int) = true := (Ru.den_ix hj).trans hc
   repeat refine gs1 ?_
   refine RW.effn (e_kPut (L := kInt) (ew := Value.bool) (k := (j : Int)) (v := true) 2 rfl rfl rfl rfl hgv uT114 rfl) ?_
   repeat refine gs1 ?_
   refine Post.back (s' := _) (J' := _) (m' := _) (Ru.left_lt he hns) ⟨seen.push e.born, fun i => if i = (j : Int) then some true else M i, rfl, rfl, rfl, fun i t ht => ?_, hcomp _ (fun i t ht => ?_) fun _ => if_pos rfl⟩ ⟨rfl, rfl, trivial⟩ (fun _ h => h)
   ·
    simp only at ht
    by_cases hi : i = (j : Int)
    ·
     rw [if_pos hi] at ht; subst hi; cases ht; exact ⟨rfl, hden⟩
    ·
     rw [if_neg hi] at ht; exact hM1 i t ht
   ·
    by_cases hi : i = (j : Int)
    ·
     simp only [if_pos hi]; rw [(hM1 i t ht).1]
    ·
     simp only [if_neg hi]; exact ht
  ·
   repeat refine gs1 ?_
   exact Post.back (s' := _) (J' := _) (m' := _) (Ru.left_lt he hns) ⟨seen.push e.born, M, rfl, rfl, rfl, hM1, hcomp M (fun _ _ h => h) fun hn => absurd hn (by rw [hc]; simp)⟩ ⟨rfl, rfl, trivial⟩ (fun _ h => h)
end Go.Proofs.YtnfmjfheciihjaaGreatDoor
