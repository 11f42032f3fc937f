/- Walks (part WalkD), printed by walk2.py. Conditions: those of each theorem. -/
import Derived.Test.YthiflhoobldioaaDoorWalkC
namespace Go.Proofs.YthiflhoobldioaaDoor
open Go Go.K Go.RowKit

theorem row_eq {v : Value} {T sz n n2 : Nat} {xs ys : List Value} (hn : n = n2) (hx : xs = ys) : Chunk.row v T sz n xs = Chunk.row v T sz n2 ys := by subst hn hx; rfl
set_option maxRecDepth 8000 in
set_option maxHeartbeats 1000000 in
theorem Split_c (w : World) (Φ : Hp) (hΦ : Hp.le Φ (hp w)) {l : List UInt8} (hl : l.length ≤ 1099511627776) :
    Calls Tryd.prog 14 #[.string (bs l)] w (RetS noHp w fun r Ψ => ∃ v a, r = .tuple #[v, .int .i64 a, .bool (Un.okF l)] ∧ (Un.okF l = true → RepSl Ψ (Un.dl (Un.bef l ++ Un.aft l)) v ∧ a = ((Un.aft l).length : Int))) := by
  refine calls_of_AW (args := [.string (bs l)]) Tryd.func14 rfl (Nat.le_of_ble_eq_true rfl) (St ⟨w, Φ, []⟩ Φ []) (StP.init w Φ hΦ []) ?_
  show AW Tryd.prog 61 [] _ _ _ [(0, .string (bs l))] _
  have hbl0 := Un.bef_len l
  have hal0 := Un.aft_len l
  refine AW.seq ?_
  refine AW.region ?_
  refine RW.q (v := (.slice none 0 0)) rfl (q_assign rfl) ?_
  refine RW.q (v := .int .i64 0) rfl (q_assign rfl) ?_
  refine RW.q (v := .bool false) rfl (q_assign rfl) ?_
  refine RW.nil ?_
  refine Post.then_n ?_
  refine AW.seq ?_
  refine AW.region ?_
  refine RW.q (v := (.slice none 0 0)) rfl (q_assign rfl) ?_
  refine RW.nil ?_
  refine Post.then_n ?_
  refine AW.seq ?_
  refine AW.region ?_
  refine RW.q (v := .int .i64 0) rfl (q_assign rfl) ?_
  refine RW.nil ?_
  refine Post.then_n ?_
  refine AW.seq ?_
  refine AW.region ?_
  refine RW.q (v := .int .i64 0) rfl (q_assign rfl) ?_
  refine RW.nil ?_
  refine Post.then_n ?_
  refine AW.seq ?_
  refine AW.region ?_
  refine RW.q (v := .bool false) rfl (q_assign rfl) ?_
  refine RW.nil ?_
  refine Post.then_n ?_
  refine AW.seq ?_
  refine AW.seq ?_
  refine AW.region ?_
  refine RW.q (v := .int .i64 0) rfl (q_assign rfl) ?_
  refine RW.nil ?_
  refine Post.then_n ?_
  refine AW.block ?_
  refine AW.loop (fun s J m => ∃ (i : Nat), ∃ (L : List Int), ∃ (lv : Value), ∃ (nb : Nat), ∃ (na : Nat), ∃ (pb : Bool), s = [(0, .string (bs l)), (2, (.slice none 0 0)), (3, .int .i64 0), (4, .bool false), (5, lv), (6, .int .i64 (nb : Int)), (7, .int .i64 (na : Int)), (8, .bool pb), (9, .int .i64 (i : Int))] ∧ J = St ⟨w, Φ, []⟩ Φ [.row lv 3 1 L.length (L.map (Value.int .i64))] ∧ m = l.length - i ∧ (i ≤ l.length) ∧ (L = Un.dl (Un.bef (l.take i) ++ Un.aft (l.take i))) ∧ (IsSl lv L.length) ∧ (∀ b ∈ Un.bef (l.take i) ++ Un.aft (l.take i), Un.isD b = true) ∧ (nb = (Un.bef (l.take i)).length) ∧ (na = (Un.aft (l.take i)).length) ∧ (pb = Un.pt (l.take i))) (s0 := _) (J1 := _) (m0 := _) ⟨0, [], _, 0, 0, false, rfl, rfl, rfl, (by omega), rfl, isSl_nil, (fun b hb => absurd hb (by simp [Un.bef, Un.aft])), rfl, rfl, rfl⟩ ⟨rfl, rfl, rfl, rfl, rfl, rfl, rfl, rfl, rfl, trivial⟩ (fun _ h => addNil h) ?_
  rintro _ _ _ _ ⟨i, L, lv, nb, na, pb, rfl, rfl, rfl, hi, hL, hlv, hall, hnb, hna, hpb⟩
  have hLl : L.length = nb + na := by rw [hL, Un.dl_len, List.length_append, hnb, hna]
  have hbl := Un.bef_len (l.take i)
  have hal := Un.aft_len (l.take i)
  have hsum : nb + na ≤ i := by
    have h9 : (l.take i).length ≤ i := by rw [List.length_take]; omega
    cases hp : Un.pt (l.take i) with
    | true => have := Un.bef_len' hp; omega
    | false => rw [hna, hnb, (Un.bef_np hp).2]; simp only [List.length_nil]; omega
  refine AW.seq ?_
  refine AW.seq ?_
  refine AW.region ?_
  refine RW.q (v := .int .i64 (i : Int)) rfl (q_move rfl) ?_
  refine RW.q (v := .string (bs l)) rfl (q_move rfl) ?_
  refine RW.q (v := .int .i64 ((l.length : Nat) : Int)) rfl (q_lenS (l := l) rfl Tryd.underlying9) ?_
  refine RW.q (v := .bool (decide ((i : Int) < ((l.length : Nat) : Int)))) rfl (q_lss rfl rfl) ?_
  refine RW.nil ?_
  refine Post.then_n ?_
  refine AW.cond (b := decide ((i : Int) < ((l.length : Nat) : Int))) rfl (fun hc1 => ?_) (fun hc1 => ?_)
  · simp [-List.getD_eq_getElem?_getD] at hc1
    refine AW.skip ?_
    refine Post.then_n ?_
    refine AW.seq ?_
    refine AW.block ?_
    refine AW.seq ?_
    refine AW.region ?_
    refine RW.q (v := .string (bs l)) rfl (q_move rfl) ?_
    refine RW.q (v := .int .i64 (i : Int)) rfl (q_move rfl) ?_
    refine RW.q (v := .int .u8 (((l.getD i 0).toNat : Nat) : Int)) rfl (q_indexS (l := l) (i := (i : Int)) rfl rfl Tryd.underlying9 (by omega) (by omega)) ?_
    refine RW.q (v := .int .u8 (((l.getD i 0).toNat : Nat) : Int)) rfl (q_assign rfl) ?_
    refine RW.nil ?_
    refine Post.then_n ?_
    refine AW.seq ?_
    refine AW.seq ?_
    refine AW.region ?_
    refine RW.q (v := .int .u8 (((l.getD i 0).toNat : Nat) : Int)) rfl (q_move rfl) ?_
    refine RW.q (v := .bool (decide ((((l.getD i 0).toNat : Nat) : Int) = ((46 : Nat) : Int)))) rfl (q_eql (a := (((l.getD i 0).toNat : Nat) : Int)) (b := ((46 : Nat) : Int)) rfl rfl) ?_
    refine RW.q (v := .bool (decide ((((l.getD i 0).toNat : Nat) : Int) = ((46 : Nat) : Int)))) rfl (q_move rfl) ?_
    refine RW.g (b := (decide ((((l.getD i 0).toNat : Nat) : Int) = ((46 : Nat) : Int)))) (v := .bool pb) rfl rfl rfl (fun h => q_move rfl) ?_
    refine RW.g (b := (decide ((((l.getD i 0).toNat : Nat) : Int) = ((46 : Nat) : Int)))) (v := .bool !pb) rfl rfl rfl (fun h => q_not (gv_pos h)) ?_
    refine RW.q (v := .bool ((decide ((((l.getD i 0).toNat : Nat) : Int) = ((46 : Nat) : Int))) && !pb)) rfl (q_pick rfl (fun hp => (gv_pos hp).trans (pkAndT hp)) (fun hp => pkAndF hp)) ?_
    refine RW.nil ?_
    refine Post.then_n ?_
    refine AW.cond (b := (decide ((((l.getD i 0).toNat : Nat) : Int) = ((46 : Nat) : Int))) && !pb) rfl (fun hc2 => ?_) (fun hc2 => ?_)
    · simp [-List.getD_eq_getElem?_getD] at hc2
      refine AW.seq ?_
      refine AW.region ?_
      refine RW.q (v := .bool true) rfl (q_assign rfl) ?_
      refine RW.nil ?_
      refine Post.then_n ?_
      refine AW.exit ?_
      refine Post.then_x (Post.blk_hit (Post.then_n ?_))
      refine AW.region ?_
      refine RW.q (v := .int .i64 (i : Int)) rfl (q_move rfl) ?_
      refine RW.q (v := .int .i64 ((i + 1 : Nat) : Int)) rfl (q_add rfl rfl (by omega) (by unfold I64; omega)) ?_
      refine RW.q (v := .int .i64 ((i + 1 : Nat) : Int)) rfl (q_assign rfl) ?_
      refine RW.nil ?_
      have hb : l.getD i 0 = 46 := UInt8.toNat_inj.1 (by have h9 := hc2.1; show (l.getD i 0).toNat = 46; omega)
      obtain ⟨h1, h2, h3⟩ := Un.split_dot (show i < l.length by omega) (hpb.symm.trans hc2.2) hb
      exact Post.back (s' := _) (J' := _) (m' := _) (by omega) ⟨i + 1, L, lv, nb, na, true, rfl, rfl, rfl, (by omega), (by rw [hL, h1, h2]), hlv, (by rw [h1, h2]; exact hall), (by rw [h1]; exact hnb), (by rw [h2]; exact hna), h3.symm⟩ ⟨rfl, rfl, rfl, rfl, rfl, rfl, rfl, rfl, rfl, trivial⟩ (fun _ h => h)
    · simp [-List.getD_eq_getElem?_getD] at hc2
      refine AW.skip ?_
      refine Post.then_n ?_
      refine AW.seq ?_
      refine AW.seq ?_
      refine AW.region ?_
      refine RW.q (v := .int .u8 (((l.getD i 0).toNat : Nat) : Int)) rfl (q_move rfl) ?_
      refine RW.q (v := .bool (decide ((((l.getD i 0).toNat : Nat) : Int) < ((48 : Nat) : Int)))) rfl (q_lss (a := (((l.getD i 0).toNat : Nat) : Int)) (b := ((48 : Nat) : Int)) rfl rfl) ?_
      refine RW.q (v := .bool (decide ((((l.getD i 0).toNat : Nat) : Int) < ((48 : Nat) : Int)))) rfl (q_move rfl) ?_
      refine RW.g (b := (decide ((((l.getD i 0).toNat : Nat) : Int) < ((48 : Nat) : Int)))) (v := .int .u8 (((l.getD i 0).toNat : Nat) : Int)) rfl rfl rfl (fun h => q_move rfl) ?_
      refine RW.g (b := (decide ((((l.getD i 0).toNat : Nat) : Int) < ((48 : Nat) : Int)))) (v := .bool (decide (((57 : Nat) : Int) < (((l.getD i 0).toNat : Nat) : Int)))) rfl rfl rfl (fun h => q_gtr (a := (((l.getD i 0).toNat : Nat) : Int)) (b := ((57 : Nat) : Int)) (gv_pos h) rfl) ?_
      refine RW.q (v := .bool ((decide ((((l.getD i 0).toNat : Nat) : Int) < ((48 : Nat) : Int))) || (decide (((57 : Nat) : Int) < (((l.getD i 0).toNat : Nat) : Int))))) rfl (q_pick rfl (fun hp => pkOrT hp) (fun hp => (gv_pos hp).trans (pkOrF hp))) ?_
      refine RW.nil ?_
      refine Post.then_n ?_
      refine AW.cond (b := (decide ((((l.getD i 0).toNat : Nat) : Int) < ((48 : Nat) : Int))) || (decide (((57 : Nat) : Int) < (((l.getD i 0).toNat : Nat) : Int)))) rfl (fun hc3 => ?_) (fun hc3 => ?_)
      · simp [-List.getD_eq_getElem?_getD] at hc3
        refine AW.seq ?_
        have hnd : Un.isD (l.getD i 0) = false := by
          cases hd : Un.isD (l.getD i 0) with
          | false => rfl
          | true => rw [Un.isD_iff] at hd; omega
        refine AW.region ?_
        refine RW.q (v := (.slice none 0 0)) rfl (q_assign rfl) ?_
        refine RW.q (v := .int .i64 0) rfl (q_assign rfl) ?_
        refine RW.q (v := .bool false) rfl (q_assign rfl) ?_
        refine RW.nil ?_
        refine Post.then_n ?_
        refine AW.ret ?_
        refine Post.then_r (Post.blk_r (Post.then_r (Post.then_r (Post.blk_r (Post.then_r ?_)))))
        have hbd : l.getD i 0 ≠ 46 ∨ Un.pt (l.take i) = true := by
          by_cases h9 : l.getD i 0 = 46
          · exact .inr (hpb.symm.trans (hc2 (by rw [h9]; rfl)))
          · exact .inl h9
        have hbad := Un.split_bad (show i < l.length by omega) hnd hbd
        refine fin_out3 (v1 := (.slice none 0 0)) (v2 := .int .i64 0) (v3 := .bool false) rfl rfl rfl rfl rfl (fun w' hw => ?_)
        exact ⟨_, rfl, hw.below rfl, _, _, by rw [hbad], fun h => by rw [hbad] at h; cases h⟩
      · simp [-List.getD_eq_getElem?_getD] at hc3
        refine AW.skip ?_
        refine Post.then_n ?_
        refine AW.seq ?_
        have hdg : Un.isD (l.getD i 0) = true := by rw [Un.isD_iff]; omega
        refine AW.region ?_
        refine RW.q (v := lv) rfl (q_move rfl) ?_
        refine RW.q (v := .int .u8 (((l.getD i 0).toNat : Nat) : Int)) rfl (q_move rfl) ?_
        refine RW.q (v := .int .u8 ((((l.getD i 0).toNat) - 48 : Nat) : Int)) rfl (q_subB (a := ((l.getD i 0).toNat)) (b := 48) rfl rfl (by omega) rfl (by have := UInt8.toNat_lt (l.getD i 0); omega)) ?_
        refine RW.q (v := .int .i64 ((((l.getD i 0).toNat) - 48 : Nat) : Int)) rfl (q_toK (k := .i64) rfl Tryd.underlying5 Tryd.underlying3 (wrap64_of (by have := UInt8.toNat_lt (l.getD i 0); unfold I64; omega))) ?_
        refine RW.eff (fun b1 : Nat => (.slice (some ⟨b1, 0, none⟩) 1 1)) (fun b1 => St ⟨w, Φ, []⟩ Φ [.row (.slice (some ⟨b1, 0, none⟩) 1 1) 3 1 1 ([.int .i64 ((((l.getD i 0).toNat) - 48 : Nat) : Int)]), .row lv 3 1 L.length (L.map (Value.int .i64))]) rfl (e_buildSlice (vals := [(0, .int .i64 ((((l.getD i 0).toNat) - 48 : Nat) : Int))]) (cells := [.int .i64 ((((l.getD i 0).toNat) - 48 : Nat) : Int)]) Tryd.underlying33 inf3 rfl rfl rfl (by kernel_rfl) rfl) ?_
        intro b1
        refine RW.eff (fun xv : {vq : Value // IsSl vq (L.length + 1)} => xv.1) (fun xv => St ⟨w, Φ, []⟩ Φ [.row (.slice (some ⟨b1, 0, none⟩) 1 1) 3 1 1 ([.int .i64 ((((l.getD i 0).toNat) - 48 : Nat) : Int)]), .row xv.1 3 1 ((L ++ [((((l.getD i 0).toNat) - 48 : Nat) : Int)]).length) ((L ++ [((((l.getD i 0).toNat) - 48 : Nat) : Int)]).map (Value.int .i64))]) rfl (e_append 1 rfl rfl rfl Tryd.underlying33 inf3 rfl rfl rfl (Cells.row0 0 rfl) rfl (by omega) (by omega) (fun _ => by simp)) ?_
        rintro ⟨va1, hva1⟩
        refine RW.wk (J' := St ⟨w, Φ, []⟩ Φ [.row va1 3 1 ((L ++ [((((l.getD i 0).toNat) - 48 : Nat) : Int)]).length) ((L ++ [((((l.getD i 0).toNat) - 48 : Nat) : Int)]).map (Value.int .i64))]) (fun _ h => StP.drop h (by exact .cons _ (.cons_cons _ (.slnil)))) ?_
        refine RW.q (v := va1) rfl (q_assign rfl) ?_
        refine RW.nil ?_
        refine Post.then_n ?_
        refine AW.seq ?_
        refine AW.region ?_
        refine RW.q (v := .bool pb) rfl (q_move rfl) ?_
        refine RW.nil ?_
        refine Post.then_n ?_
        refine AW.cond (b := pb) rfl (fun hc4 => ?_) (fun hc4 => ?_)
        · skip
          refine AW.region ?_
          refine RW.q (v := .int .i64 (na : Int)) rfl (q_move rfl) ?_
          refine RW.q (v := .int .i64 ((na + 1 : Nat) : Int)) rfl (q_add rfl rfl (by omega) (by unfold I64; omega)) ?_
          refine RW.q (v := .int .i64 ((na + 1 : Nat) : Int)) rfl (q_assign rfl) ?_
          refine RW.nil ?_
          refine Post.blk_n (Post.then_n ?_)
          refine AW.region ?_
          refine RW.q (v := .int .i64 (i : Int)) rfl (q_move rfl) ?_
          refine RW.q (v := .int .i64 ((i + 1 : Nat) : Int)) rfl (q_add rfl rfl (by omega) (by unfold I64; omega)) ?_
          refine RW.q (v := .int .i64 ((i + 1 : Nat) : Int)) rfl (q_assign rfl) ?_
          refine RW.nil ?_
          obtain ⟨h1, h2, h3⟩ := Un.split_pt (show i < l.length by omega) (hpb.symm.trans hc4)
          have hall2 : ∀ b ∈ Un.bef (l.take (i + 1)) ++ Un.aft (l.take (i + 1)), Un.isD b = true := fun b hb => by
            rw [h1, h2, ← List.append_assoc] at hb
            rcases List.mem_append.1 hb with hb | hb
            · exact hall b hb
            · rw [List.mem_singleton.1 hb]; exact hdg
          exact Post.back (s' := _) (J' := _) (m' := _) (by omega) ⟨i + 1, L ++ [(((l.getD i 0).toNat - 48 : Nat) : Int)], va1, nb, na + 1, pb, rfl, rfl, rfl, (by omega), (by rw [hL, h1, h2, ← List.append_assoc, Un.dl_append (_ ++ _)]; rfl), (by simpa using hva1), hall2, (by rw [h1]; exact hnb), (by rw [h2, hna]; simp), (hc4.trans h3.symm)⟩ ⟨rfl, rfl, rfl, rfl, rfl, rfl, rfl, rfl, rfl, trivial⟩ (fun _ h => by simpa using h)
        · skip
          refine AW.region ?_
          refine RW.q (v := .int .i64 (nb : Int)) rfl (q_move rfl) ?_
          refine RW.q (v := .int .i64 ((nb + 1 : Nat) : Int)) rfl (q_add rfl rfl (by omega) (by unfold I64; omega)) ?_
          refine RW.q (v := .int .i64 ((nb + 1 : Nat) : Int)) rfl (q_assign rfl) ?_
          refine RW.nil ?_
          refine Post.blk_n (Post.then_n ?_)
          refine AW.region ?_
          refine RW.q (v := .int .i64 (i : Int)) rfl (q_move rfl) ?_
          refine RW.q (v := .int .i64 ((i + 1 : Nat) : Int)) rfl (q_add rfl rfl (by omega) (by unfold I64; omega)) ?_
          refine RW.q (v := .int .i64 ((i + 1 : Nat) : Int)) rfl (q_assign rfl) ?_
          refine RW.nil ?_
          have hp4 := hpb.symm.trans hc4
          have hb : l.getD i 0 ≠ 46 := fun e => by rw [e] at hdg; exact absurd hdg (by decide)
          obtain ⟨h1, h2, h3⟩ := Un.split_np (show i < l.length by omega) hp4 hb
          have hn : Un.aft (l.take i) = [] := (Un.bef_np hp4).2
          have hall2 : ∀ b ∈ Un.bef (l.take (i + 1)) ++ Un.aft (l.take (i + 1)), Un.isD b = true := fun b hb => by
            rw [h1, h2, hn, List.append_nil] at hb
            rcases List.mem_append.1 hb with hb | hb
            · exact hall b (List.mem_append_left _ hb)
            · rw [List.mem_singleton.1 hb]; exact hdg
          exact Post.back (s' := _) (J' := _) (m' := _) (by omega) ⟨i + 1, L ++ [(((l.getD i 0).toNat - 48 : Nat) : Int)], va1, nb + 1, na, pb, rfl, rfl, rfl, (by omega), (by rw [hL, h1, h2, hn, List.append_nil, List.append_nil, Un.dl_append]; rfl), (by simpa using hva1), hall2, (by rw [h1, hnb]; simp), (by rw [h2]; exact hna), (hc4.trans h3.symm)⟩ ⟨rfl, rfl, rfl, rfl, rfl, rfl, rfl, rfl, rfl, trivial⟩ (fun _ h => by simpa using h)
  · simp [-List.getD_eq_getElem?_getD] at hc1
    refine AW.exit ?_
    refine Post.then_x (Post.then_x (Post.blk_hit (Post.then_n ?_)))
    refine AW.seq ?_
    refine AW.region ?_
    refine RW.q (v := lv) rfl (q_move rfl) ?_
    refine RW.q (v := .int .i64 (na : Int)) rfl (q_move rfl) ?_
    refine RW.q (v := .int .i64 (nb : Int)) rfl (q_move rfl) ?_
    refine RW.q (v := .bool (decide ((1 : Int) ≤ (nb : Int)))) rfl (q_geq rfl rfl) ?_
    refine RW.q (v := .bool (decide ((1 : Int) ≤ (nb : Int)))) rfl (q_move rfl) ?_
    refine RW.g (b := (decide ((1 : Int) ≤ (nb : Int)))) (v := .int .i64 (nb : Int)) rfl rfl rfl (fun h => q_move rfl) ?_
    refine RW.g (b := (decide ((1 : Int) ≤ (nb : Int)))) (v := .bool (decide ((nb : Int) ≤ 20))) rfl rfl rfl (fun h => q_leq (gv_pos h) rfl) ?_
    refine RW.q (v := .bool ((decide ((1 : Int) ≤ (nb : Int))) && (decide ((nb : Int) ≤ 20)))) rfl (q_pick rfl (fun hp => (gv_pos hp).trans (pkAndT hp)) (fun hp => pkAndF hp)) ?_
    refine RW.q (v := .bool ((decide ((1 : Int) ≤ (nb : Int))) && (decide ((nb : Int) ≤ 20)))) rfl (q_move rfl) ?_
    refine RW.g (b := ((decide ((1 : Int) ≤ (nb : Int))) && (decide ((nb : Int) ≤ 20)))) (v := .int .i64 (na : Int)) rfl rfl rfl (fun h => q_move rfl) ?_
    refine RW.g (b := ((decide ((1 : Int) ≤ (nb : Int))) && (decide ((nb : Int) ≤ 20)))) (v := .bool (decide ((na : Int) ≤ 9))) rfl rfl rfl (fun h => q_leq (gv_pos h) rfl) ?_
    refine RW.q (v := .bool (((decide ((1 : Int) ≤ (nb : Int))) && (decide ((nb : Int) ≤ 20))) && (decide ((na : Int) ≤ 9)))) rfl (q_pick rfl (fun hp => (gv_pos hp).trans (pkAndT hp)) (fun hp => pkAndF hp)) ?_
    refine RW.q (v := .bool (((decide ((1 : Int) ≤ (nb : Int))) && (decide ((nb : Int) ≤ 20))) && (decide ((na : Int) ≤ 9)))) rfl (q_move rfl) ?_
    refine RW.g (b := (((decide ((1 : Int) ≤ (nb : Int))) && (decide ((nb : Int) ≤ 20))) && (decide ((na : Int) ≤ 9)))) (v := .bool pb) rfl rfl rfl (fun h => q_move rfl) ?_
    refine RW.g (b := (((decide ((1 : Int) ≤ (nb : Int))) && (decide ((nb : Int) ≤ 20))) && (decide ((na : Int) ≤ 9)))) (v := .int .i64 (na : Int)) rfl rfl rfl (fun h => q_move rfl) ?_
    refine RW.g (b := (((decide ((1 : Int) ≤ (nb : Int))) && (decide ((nb : Int) ≤ 20))) && (decide ((na : Int) ≤ 9)))) (v := .bool (decide ((0 : Int) < (na : Int)))) rfl rfl rfl (fun h => q_gtr (gv_pos h) rfl) ?_
    refine RW.g (b := (((decide ((1 : Int) ≤ (nb : Int))) && (decide ((nb : Int) ≤ 20))) && (decide ((na : Int) ≤ 9)))) (v := .bool (pb == (decide ((0 : Int) < (na : Int))))) rfl rfl rfl (fun h => q_eqlB (gv_pos h) (gv_pos h) Tryd.underlying4) ?_
    refine RW.q (v := .bool ((((decide ((1 : Int) ≤ (nb : Int))) && (decide ((nb : Int) ≤ 20))) && (decide ((na : Int) ≤ 9))) && (pb == (decide ((0 : Int) < (na : Int)))))) rfl (q_pick rfl (fun hp => (gv_pos hp).trans (pkAndT hp)) (fun hp => pkAndF hp)) ?_
    refine RW.q (v := lv) rfl (q_assign rfl) ?_
    refine RW.q (v := .int .i64 (na : Int)) rfl (q_assign rfl) ?_
    refine RW.q (v := .bool ((((decide ((1 : Int) ≤ (nb : Int))) && (decide ((nb : Int) ≤ 20))) && (decide ((na : Int) ≤ 9))) && (pb == (decide ((0 : Int) < (na : Int)))))) rfl (q_assign rfl) ?_
    refine RW.nil ?_
    refine Post.then_n ?_
    refine AW.ret ?_
    have hil : l.take i = l := List.take_of_length_le (by omega)
    rw [hil] at hL hall hnb hna hpb
    have hse := Un.split_end hall
    refine fin_out3 (v1 := lv) (v2 := .int .i64 (na : Int)) (v3 := .bool ((((decide ((1 : Int) ≤ (nb : Int))) && (decide ((nb : Int) ≤ 20))) && (decide ((na : Int) ≤ 9))) && (pb == (decide ((0 : Int) < (na : Int)))))) rfl rfl rfl rfl rfl (fun w' hw => ?_)
    refine ⟨_, rfl, hw.below rfl, lv, (na : Int), ?_, fun hok => ⟨?_, by rw [hna]⟩⟩
    · rw [hse, ← hnb, ← hna, ← hpb]
      have e1 : ((1 : Int) ≤ nb) ↔ 1 ≤ nb := by omega
      have e2 : ((nb : Int) ≤ 20) ↔ nb ≤ 20 := by omega
      have e3 : ((na : Int) ≤ 9) ↔ na ≤ 9 := by omega
      have e4 : ((0 : Int) < na) ↔ 0 < na := by omega
      simp only [e1, e2, e3, e4]
    · rw [← hL]
      exact RowS.ints (row_ext hw 0 rfl) (by simp only [maxSl]; omega) (fun x hx => by
        rw [hL] at hx
        have := Un.dgs_dl hall x hx
        unfold I64; omega)

set_option maxRecDepth 8000 in
set_option maxHeartbeats 1000000 in
theorem Times_c {B : Bs} {Φ : Hp} {C : List Chunk} (hBE : B.E = []) {xs : List Int} {v1 : Value} (h1 : RepSl Φ xs v1) {k : Int} (hd : Un.Dgs xs) (hxl : xs.length ≤ 1000) (hk0 : 0 ≤ k) (hk1 : k ≤ 1000) (w : World) (hW : (St B Φ C).p w) :
    Calls Tryd.prog 24 #[v1, .int .i64 k] w fun e w' => ∃ x : {v : Value // IsSl v (xs.length + 2)}, e = .returned (x.1) ∧ (St B Φ (.row x.1 3 1 (xs.length + 2) ((Un.tim xs k).map (Value.int .i64)) :: C)).p w' := by
  refine calls_of_AW (args := [v1, .int .i64 k]) Tryd.func24 rfl (Nat.le_of_ble_eq_true rfl) (St B Φ C) hW ?_
  show AW Tryd.prog 35 [] _ _ _ [(0, v1), (1, .int .i64 k)] _
  refine AW.seq ?_
  refine AW.region ?_
  refine RW.q (v := (.slice none 0 0)) rfl (q_assign rfl) ?_
  refine RW.nil ?_
  refine Post.then_n ?_
  refine AW.seq ?_
  refine AW.region ?_
  refine RW.eff (fun b1 : Nat => (.slice (some ⟨b1, 0, none⟩) 2 2)) (fun b1 => St B Φ ((.row (.slice (some ⟨b1, 0, none⟩) 2 2) 3 1 2 ([.int .i64 0, .int .i64 0])) :: C)) rfl (e_buildSlice (vals := [(0, .int .i64 0), (1, .int .i64 0)]) (cells := [.int .i64 0, .int .i64 0]) Tryd.underlying33 inf3 rfl rfl rfl (by kernel_rfl) rfl) ?_
  intro b1
  refine RW.q (v := v1) rfl (q_move rfl) ?_
  refine RW.eff (fun xv : {vq : Value // IsSl vq (2 + xs.length)} => xv.1) (fun xv => St B Φ ((.row xv.1 3 1 ((([0, 0]) ++ xs).length) ((([0, 0]) ++ xs).map (Value.int .i64))) :: C)) rfl (e_appendPhi (yv := v1) 0 rfl rfl rfl h1.sl Tryd.underlying33 inf3 rfl rfl (by simp <;> omega) (ints_cells h1) (ints_one _) (by omega) (by omega) (fun _ => by exact congrArg (· :: C) (row_eq (by simp; omega) rfl))) ?_
  rintro ⟨va1, hva1⟩
  refine RW.q (v := va1) rfl (q_assign rfl) ?_
  refine RW.nil ?_
  refine Post.then_n ?_
  refine AW.seq ?_
  refine AW.region ?_
  refine RW.q (v := .int .i64 0) rfl (q_assign rfl) ?_
  refine RW.nil ?_
  refine Post.then_n ?_
  refine AW.seq ?_
  refine AW.seq ?_
  refine AW.region ?_
  refine RW.q (v := va1) rfl (q_move rfl) ?_
  refine RW.q (v := .int .i64 ((2 + xs.length : Nat) : Int)) rfl (q_len_sl rfl hva1 Tryd.underlying33) ?_
  refine RW.q (v := .int .i64 (((2 + xs.length : Nat) : Int) - 1)) rfl (q_sub rfl rfl (by omega) (by unfold I64; omega)) ?_
  refine RW.q (v := .int .i64 (((2 + xs.length : Nat) : Int) - 1)) rfl (q_assign rfl) ?_
  refine RW.nil ?_
  refine Post.then_n ?_
  refine AW.block ?_
  refine AW.loop (fun s J m => ∃ (j : Nat), ∃ (ca : Int), s = [(1, .int .i64 k), (5, va1), (6, .int .i64 ca), (7, .int .i64 ((j : Int) - 1))] ∧ J = St B Φ ((.row va1 3 1 (xs.length + 2) (((0 :: 0 :: xs : List Int).take j ++ (Un.tm ((0 :: 0 :: xs : List Int).drop j) k).1).map (Value.int .i64))) :: C) ∧ m = j + 0 * j ∧ (j ≤ xs.length + 2) ∧ (ca = (Un.tm ((0 :: 0 :: xs : List Int).drop j) k).2)) (s0 := _) (J1 := _) (m0 := _) ⟨2 + xs.length, 0, rfl, rfl, rfl, (by omega), (by rw [List.drop_of_length_le (by simp; omega)]; rfl)⟩ ⟨rfl, rfl, rfl, rfl, trivial⟩ (fun _ h => by rw [List.take_of_length_le (by simp; omega), List.drop_of_length_le (by simp; omega), show (Un.tm [] k).1 = [] from rfl, List.append_nil]; exact h) ?_
  rintro _ _ _ _ ⟨j, ca, rfl, rfl, rfl, hj, hca⟩
  refine AW.seq ?_
  refine AW.seq ?_
  refine AW.region ?_
  refine RW.q (v := .int .i64 ((j : Int) - 1)) rfl (q_move rfl) ?_
  refine RW.q (v := .bool (decide ((0 : Int) ≤ (j : Int) - 1))) rfl (q_geq rfl rfl) ?_
  refine RW.nil ?_
  refine Post.then_n ?_
  refine AW.cond (b := decide ((0 : Int) ≤ (j : Int) - 1)) rfl (fun hc1 => ?_) (fun hc1 => ?_)
  · simp [-List.getD_eq_getElem?_getD] at hc1
    refine AW.skip ?_
    refine Post.then_n ?_
    refine AW.seq ?_
    refine AW.block ?_
    refine AW.seq ?_
    obtain ⟨p, rfl⟩ : ∃ p, j = p + 1 := ⟨j - 1, by omega⟩
    rw [show ((p + 1 : Nat) : Int) - 1 = (p : Int) by omega]
    have hpl : p < (0 :: 0 :: xs : List Int).length := by simp only [List.length_cons]; omega
    obtain ⟨hc0, hc9⟩ := Un.tm_car (Un.dgs_drop (Un.dgs_two hd) (p + 1)) hk0
    rw [← hca] at hc0 hc9
    obtain ⟨hx0, hx9⟩ := Un.dgs_get (Un.dgs_two hd) p
    have hxk : (0 :: 0 :: xs : List Int).getD p 0 * k ≤ 9 * k := Int.mul_le_mul_of_nonneg_right hx9 hk0
    have hxk0 : 0 ≤ (0 :: 0 :: xs : List Int).getD p 0 * k := Int.mul_nonneg hx0 hk0
    have hrl : ((0 :: 0 :: xs : List Int).take (p + 1) ++ (Un.tm ((0 :: 0 :: xs : List Int).drop (p + 1)) k).1).length = xs.length + 2 := by rw [List.length_append, Un.tm_len, List.length_take, List.length_drop]; simp only [List.length_cons]; omega
    refine AW.region ?_
    refine RW.q (v := va1) rfl (q_move rfl) ?_
    refine RW.q (v := .int .i64 (p : Int)) rfl (q_move rfl) ?_
    refine RW.q (v := .pointer (some (Value.at va1 (p * 1)))) rfl (q_indexAddr rfl rfl hva1 Tryd.underlying33 sz3 (by omega) (by omega) rfl) ?_
    refine RW.q (v := .int .i64 ((0 :: 0 :: xs : List Int).getD p 0)) rfl (q_as (v := .int .i64 (((0 :: 0 :: xs : List Int).take (p + 1) ++ (Un.tm ((0 :: 0 :: xs : List Int).drop (p + 1)) k).1).getD p 0)) (q_load rfl Tryd.underlying3 rfl (Cell.rowInt 0 rfl (by rw [hrl]; omega))) (congrArg (Value.int .i64) (Un.tim_get hpl))) ?_
    refine RW.q (v := .int .i64 k) rfl (q_move rfl) ?_
    refine RW.q (v := .int .i64 (((0 :: 0 :: xs : List Int).getD p 0) * k)) rfl (q_mul rfl rfl rfl (by unfold I64; omega)) ?_
    refine RW.q (v := .int .i64 ca) rfl (q_move rfl) ?_
    refine RW.q (v := .int .i64 ((((0 :: 0 :: xs : List Int).getD p 0) * k) + ca)) rfl (q_add rfl rfl (by omega) (by unfold I64; omega)) ?_
    refine RW.q (v := .int .i64 ((((0 :: 0 :: xs : List Int).getD p 0) * k) + ca)) rfl (q_assign rfl) ?_
    refine RW.nil ?_
    refine Post.then_n ?_
    refine AW.seq ?_
    refine AW.region ?_
    refine RW.q (v := va1) rfl (q_move rfl) ?_
    refine RW.q (v := .int .i64 (p : Int)) rfl (q_move rfl) ?_
    refine RW.q (v := .int .i64 ((((0 :: 0 :: xs : List Int).getD p 0) * k) + ca)) rfl (q_move rfl) ?_
    refine RW.q (v := .int .i64 (((0 :: 0 :: xs : List Int).getD p 0 * k + ca) % 10)) rfl (q_rem rfl rfl (by omega) (Int.tmod_eq_emod_of_nonneg (by omega))) ?_
    refine RW.q (v := .pointer (some (Value.at va1 (p * 1)))) rfl (q_indexAddr rfl rfl hva1 Tryd.underlying33 sz3 (by omega) (by omega) rfl) ?_
    refine RW.effn (J' := St B Φ ((.row va1 3 1 (xs.length + 2) ((((0 :: 0 :: xs : List Int).take (p + 1) ++ (Un.tm ((0 :: 0 :: xs : List Int).drop (p + 1)) k).1).set p (((0 :: 0 :: xs : List Int).getD p 0 * k + ca) % 10)).map (Value.int .i64))) :: C)) (e_storeRow (v := .int .i64 (((0 :: 0 :: xs : List Int).getD p 0 * k + ca) % 10)) 0 rfl rfl rfl sz3 rfl rfl (by rw [List.length_map, hrl]; omega) (splice_int (by rw [hrl]; omega)) rfl) ?_
    refine RW.nil ?_
    refine Post.then_n ?_
    refine AW.region ?_
    refine RW.q (v := .int .i64 ((((0 :: 0 :: xs : List Int).getD p 0) * k) + ca)) rfl (q_move rfl) ?_
    refine RW.q (v := .int .i64 (((0 :: 0 :: xs : List Int).getD p 0 * k + ca) / 10)) rfl (q_quo rfl rfl (by omega) (Int.tdiv_eq_ediv_of_nonneg (by omega)) (by unfold I64; omega)) ?_
    refine RW.q (v := .int .i64 (((0 :: 0 :: xs : List Int).getD p 0 * k + ca) / 10)) rfl (q_assign rfl) ?_
    refine RW.nil ?_
    refine Post.blk_n (Post.then_n ?_)
    refine AW.region ?_
    refine RW.q (v := .int .i64 (p : Int)) rfl (q_move rfl) ?_
    refine RW.q (v := .int .i64 ((p : Int) - 1)) rfl (q_sub rfl rfl (by omega) (by unfold I64; omega)) ?_
    refine RW.q (v := .int .i64 ((p : Int) - 1)) rfl (q_assign rfl) ?_
    refine RW.nil ?_
    exact Post.back (s' := _) (J' := _) (m' := _) (by omega) ⟨p, _, rfl, rfl, rfl, (by omega), (by rw [hca]; exact Un.tim_car hpl)⟩ ⟨rfl, rfl, rfl, rfl, trivial⟩ (fun _ h => by rw [← Un.tim_row hpl, ← hca]; exact h)
  · simp [-List.getD_eq_getElem?_getD] at hc1
    refine AW.exit ?_
    refine Post.then_x (Post.then_x (Post.blk_hit (Post.then_n ?_)))
    refine AW.seq ?_
    refine AW.region ?_
    refine RW.q (v := va1) rfl (q_move rfl) ?_
    refine RW.q (v := va1) rfl (q_assign rfl) ?_
    refine RW.nil ?_
    refine Post.then_n ?_
    refine AW.ret ?_
    obtain rfl : j = 0 := by omega
    exact fin_out1 rfl rfl rfl (fun w' hw => ⟨⟨_, by simpa [Nat.add_comm] using hva1⟩, rfl, by simpa [Un.tim] using hw⟩)

end Go.Proofs.YthiflhoobldioaaDoor
