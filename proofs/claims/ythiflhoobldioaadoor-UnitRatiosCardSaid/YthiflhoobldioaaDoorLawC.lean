/- Walks (part LawC), printed by walk2.py. Conditions: those of each theorem. -/
import Derived.Test.YthiflhoobldioaaDoorLawA
import Derived.Test.YthiflhoobldioaaDoorPlainC
namespace Go.Proofs.YthiflhoobldioaaDoor
open Go Go.K Go.RowKit

theorem AW.frz {P : Program} {N : Nat} {D : List Deferred} {Q : Exit → Act → World → Prop} {f : Nat → Value} {s : List (Nat × Value)} {w0 : World} {Φ0 Φ : Hp} {c : Chunk} {C : List Chunk} {code : Code} (h : ∀ Φ', Hp.le Φ Φ' → c.sat Φ' → AW P N D code Q f s (St ⟨w0, Φ0, []⟩ Φ' C)) : AW P N D code Q f s (St ⟨w0, Φ0, []⟩ Φ (c :: C)) := fun a w ha hw => by
  obtain ⟨Φ', h1, h2, h3⟩ := StP.freeze hw (fun b hb => ((hw.away b (by simp [hb])).2).resolve_right (by simp))
  exact h Φ' h1 h2 a w ha h3
set_option maxRecDepth 8000 in
set_option maxHeartbeats 1000000 in
theorem prod_c (w : World) (Φ : Hp) (hΦ : Hp.le Φ (hp w)) {n k z : Nat} (hn : n ≤ 1125899906842624) (hk : k ≤ 1000) (hz : z ≤ 9) :
    Calls Tryd.prog 17 #[.int .i64 (n : Int), .int .i64 (k : Int), .int .i64 (z : Int)] w (RetS noHp w fun r Ψ => RepSl Ψ (Un.prL n k z) r) := by
  refine calls_of_AW (args := [.int .i64 (n : Int), .int .i64 (k : Int), .int .i64 (z : Int)]) Tryd.func17 rfl (Nat.le_of_ble_eq_true rfl) (St ⟨w, Φ, []⟩ Φ []) (StP.init w Φ hΦ []) ?_
  show AW Tryd.prog 41 [] _ _ _ [(0, .int .i64 (n : Int)), (1, .int .i64 (k : Int)), (2, .int .i64 (z : Int))] _
  have hdl : (Lib.decDigits n).length ≤ 16 := Un.dec_len_le (by omega) (by omega)
  refine AW.seq ?_
  refine AW.region ?_
  refine RW.q (v := (.slice none 0 0)) rfl (q_assign rfl) ?_
  refine RW.nil ?_
  refine Post.then_n ?_
  refine AW.seq ?_
  refine AW.region ?_
  refine RW.eff (fun b1 : Nat => (.slice (some ⟨b1, 0, none⟩) 2 2)) (fun b1 => St ⟨w, Φ, []⟩ Φ [.row (.slice (some ⟨b1, 0, none⟩) 2 2) 3 1 2 ([.int .i64 0, .int .i64 0])]) rfl (e_buildSlice (vals := [(0, .int .i64 0), (1, .int .i64 0)]) (cells := [.int .i64 0, .int .i64 0]) Tryd.underlying33 inf3 rfl rfl rfl (by kernel_rfl) rfl) ?_
  intro b1
  refine RW.q (v := (.slice (some ⟨b1, 0, none⟩) 2 2)) rfl (q_assign rfl) ?_
  refine RW.nil ?_
  refine Post.then_n ?_
  refine AW.seq ?_
  refine AW.region ?_
  refine RW.q (v := .int .i64 (n : Int)) rfl (q_move rfl) ?_
  refine RW.q (v := .string (bs (Lib.decDigits n))) rfl (q_call (args := #[.int .i64 (n : Int)]) own15 rfl rfl (fun w1 hw1 => Digits_c w1 (Go.K.hp w1) (Hp.le_refl _) (by omega))) ?_
  refine RW.q (v := .string (bs (Lib.decDigits n))) rfl (q_assign rfl) ?_
  refine RW.nil ?_
  refine Post.then_n ?_
  refine AW.seq ?_
  refine AW.seq ?_
  refine AW.region ?_
  refine RW.q (v := .int .i64 0) rfl (q_assign rfl) ?_
  refine RW.nil ?_
  refine Post.then_n ?_
  refine AW.block ?_
  refine AW.loop (fun s J m => ∃ (i : Nat), ∃ (L : List Int), ∃ (lv : Value), s = [(1, .int .i64 (k : Int)), (2, .int .i64 (z : Int)), (6, (.slice none 0 0)), (8, .string (bs (Lib.decDigits n))), (7, lv), (9, .int .i64 (i : Int))] ∧ J = St ⟨w, Φ, []⟩ Φ [.row lv 3 1 L.length (L.map (Value.int .i64))] ∧ m = (Lib.decDigits n).length - i ∧ (i ≤ (Lib.decDigits n).length) ∧ (L = 0 :: 0 :: Un.dl ((Lib.decDigits n).take i)) ∧ (IsSl lv L.length)) (s0 := _) (J1 := _) (m0 := _) ⟨0, [0, 0], _, rfl, rfl, rfl, (by omega), rfl, isSl_mk⟩ ⟨rfl, rfl, rfl, rfl, rfl, rfl, trivial⟩ (fun _ h => h) ?_
  rintro _ _ _ _ ⟨i, L, lv, rfl, rfl, rfl, hi, hL, hlv⟩
  refine AW.seq ?_
  refine AW.seq ?_
  refine AW.region ?_
  refine RW.q (v := .int .i64 (i : Int)) rfl (q_move rfl) ?_
  refine RW.q (v := .string (bs (Lib.decDigits n))) rfl (q_move rfl) ?_
  refine RW.q (v := .int .i64 (((Lib.decDigits n).length : Nat) : Int)) rfl (q_lenS (l := Lib.decDigits n) rfl Tryd.underlying9) ?_
  refine RW.q (v := .bool (decide ((i : Int) < (((Lib.decDigits n).length : Nat) : Int)))) rfl (q_lss rfl rfl) ?_
  refine RW.nil ?_
  refine Post.then_n ?_
  refine AW.cond (b := decide ((i : Int) < (((Lib.decDigits n).length : Nat) : Int))) rfl (fun hc1 => ?_) (fun hc1 => ?_)
  · simp [-List.getD_eq_getElem?_getD] at hc1
    refine AW.skip ?_
    refine Post.then_n ?_
    refine AW.seq ?_
    refine AW.block ?_
    have hdg := Un.get_all (Un.dec_all n) (show i < (Lib.decDigits n).length by omega)
    rw [Un.isD_iff] at hdg
    have hLl : L.length = i + 2 := by rw [hL]; simp [Un.dl_len]; omega
    refine AW.region ?_
    refine RW.q (v := lv) rfl (q_move rfl) ?_
    refine RW.q (v := .string (bs (Lib.decDigits n))) rfl (q_move rfl) ?_
    refine RW.q (v := .int .i64 (i : Int)) rfl (q_move rfl) ?_
    refine RW.q (v := .int .u8 ((((Lib.decDigits n).getD i 0).toNat : Nat) : Int)) rfl (q_indexS (l := Lib.decDigits n) (i := (i : Int)) rfl rfl Tryd.underlying9 (by omega) (by omega)) ?_
    refine RW.q (v := .int .u8 (((((Lib.decDigits n).getD i 0).toNat) - 48 : Nat) : Int)) rfl (q_subB (a := (((Lib.decDigits n).getD i 0).toNat)) (b := 48) rfl rfl (by omega) rfl (by have := UInt8.toNat_lt ((Lib.decDigits n).getD i 0); omega)) ?_
    refine RW.q (v := .int .i64 (((((Lib.decDigits n).getD i 0).toNat) - 48 : Nat) : Int)) rfl (q_toK (k := .i64) rfl Tryd.underlying5 Tryd.underlying3 (wrap64_of (by have := UInt8.toNat_lt ((Lib.decDigits n).getD i 0); unfold I64; omega))) ?_
    refine RW.eff (fun b2 : Nat => (.slice (some ⟨b2, 0, none⟩) 1 1)) (fun b2 => St ⟨w, Φ, []⟩ Φ [.row (.slice (some ⟨b2, 0, none⟩) 1 1) 3 1 1 ([.int .i64 (((((Lib.decDigits n).getD i 0).toNat) - 48 : Nat) : Int)]), .row lv 3 1 L.length (L.map (Value.int .i64))]) rfl (e_buildSlice (vals := [(0, .int .i64 (((((Lib.decDigits n).getD i 0).toNat) - 48 : Nat) : Int))]) (cells := [.int .i64 (((((Lib.decDigits n).getD i 0).toNat) - 48 : Nat) : Int)]) Tryd.underlying33 inf3 rfl rfl rfl (by kernel_rfl) rfl) ?_
    intro b2
    refine RW.eff (fun xv : {vq : Value // IsSl vq (L.length + 1)} => xv.1) (fun xv => St ⟨w, Φ, []⟩ Φ [.row (.slice (some ⟨b2, 0, none⟩) 1 1) 3 1 1 ([.int .i64 (((((Lib.decDigits n).getD i 0).toNat) - 48 : Nat) : Int)]), .row xv.1 3 1 ((L ++ [(((((Lib.decDigits n).getD i 0).toNat) - 48 : Nat) : Int)]).length) ((L ++ [(((((Lib.decDigits n).getD i 0).toNat) - 48 : Nat) : Int)]).map (Value.int .i64))]) rfl (e_append 1 rfl rfl rfl Tryd.underlying33 inf3 rfl rfl rfl (Cells.row0 0 rfl) rfl (by omega) (by omega) (fun _ => by simp)) ?_
    rintro ⟨va1, hva1⟩
    refine RW.wk (J' := St ⟨w, Φ, []⟩ Φ [.row va1 3 1 ((L ++ [(((((Lib.decDigits n).getD i 0).toNat) - 48 : Nat) : Int)]).length) ((L ++ [(((((Lib.decDigits n).getD i 0).toNat) - 48 : Nat) : Int)]).map (Value.int .i64))]) (fun _ h => StP.drop h (by exact .cons _ (.cons_cons _ (.slnil)))) ?_
    refine RW.q (v := va1) rfl (q_assign rfl) ?_
    refine RW.nil ?_
    refine Post.blk_n (Post.then_n ?_)
    refine AW.region ?_
    refine RW.q (v := .int .i64 (i : Int)) rfl (q_move rfl) ?_
    refine RW.q (v := .int .i64 ((i + 1 : Nat) : Int)) rfl (q_add rfl rfl (by omega) (by unfold I64; omega)) ?_
    refine RW.q (v := .int .i64 ((i + 1 : Nat) : Int)) rfl (q_assign rfl) ?_
    refine RW.nil ?_
    exact Post.back (s' := _) (J' := _) (m' := _) (by omega) ⟨i + 1, L ++ [((((Lib.decDigits n).getD i 0).toNat - 48 : Nat) : Int)], va1, rfl, rfl, rfl, (by omega), (by rw [hL, Un.take_snoc (show i < (Lib.decDigits n).length by omega), Un.dl_append]; rfl), (by simpa using hva1)⟩ ⟨rfl, rfl, rfl, rfl, rfl, rfl, trivial⟩ (fun _ h => by simpa using h)
  · simp [-List.getD_eq_getElem?_getD] at hc1
    refine AW.exit ?_
    refine Post.then_x (Post.then_x (Post.blk_hit (Post.then_n ?_)))
    refine AW.seq ?_
    have hLe : L = 0 :: 0 :: Un.dl (Lib.decDigits n) := by rw [hL, List.take_of_length_le (by omega)]
    have hLl : L.length = (Lib.decDigits n).length + 2 := by rw [hLe]; simp [Un.dl_len]
    have hLd : Un.Dgs L := by rw [hLe]; exact Un.dgs_two (Un.dgs_dec n)
    refine AW.frz (fun Φ1 hlΦ1 hshLk => ?_)
    have hLk : RepSl Φ1 L lv := RowS.ints hshLk (by simp only [maxSl]; omega) (fun x hx => by have h9 := hLd x hx; unfold I64; omega)
    refine AW.region ?_
    refine RW.q (v := lv) rfl (q_move rfl) ?_
    refine RW.q (v := .int .i64 (k : Int)) rfl (q_move rfl) ?_
    refine RW.eff (fun x : {v : Value // IsSl v (L.length + 2)} => x.1) (fun x => St ⟨w, Φ, []⟩ Φ1 [.row x.1 3 1 (L.length + 2) ((Un.tim L (k : Int)).map (Value.int .i64))]) rfl (e_call (args := #[lv, .int .i64 (k : Int)]) own24 rfl rfl (fun w1 hw1 => Times_c rfl hLk hLd (by omega) (by omega) (by omega) w1 hw1)) ?_
    rintro ⟨tv1, htv1⟩
    refine RW.frz (fun Φ2 hlΦ2 hshT1 => ?_)
    replace hLk := hLk.mono hlΦ2
    replace hT1 : RepSl Φ2 (Un.tim L (k : Int)) tv1 := RowS.ints (T := 3) (n := L.length + 2) (hshT1) (by simp only [maxSl]; omega) (fun x hx => by have h9 := Un.tim_dgs x hx; unfold I64; omega)
    refine RW.eff (fun x : {v : Value // IsSl v ((Un.tim L (k : Int)).length + 2)} => x.1) (fun x => St ⟨w, Φ, []⟩ Φ2 [.row x.1 3 1 ((Un.tim L (k : Int)).length + 2) ((Un.tim (Un.tim L (k : Int)) 1).map (Value.int .i64))]) rfl (e_call (args := #[tv1, .int .i64 1]) own24 rfl rfl (fun w1 hw1 => Times_c rfl hT1 Un.tim_dgs (by rw [Un.tim_len]; omega) (by omega) (by omega) w1 hw1)) ?_
    rintro ⟨tv2, htv2⟩
    refine RW.q (v := tv2) rfl (q_assign rfl) ?_
    refine RW.nil ?_
    refine Post.then_n ?_
    refine AW.seq ?_
    refine AW.seq ?_
    refine AW.region ?_
    refine RW.q (v := .int .i64 0) rfl (q_assign rfl) ?_
    refine RW.nil ?_
    refine Post.then_n ?_
    refine AW.block ?_
    refine AW.loop (fun s J m => ∃ (j : Nat), ∃ (L2 : List Int), ∃ (lv2 : Value), s = [(2, .int .i64 (z : Int)), (6, (.slice none 0 0)), (7, lv2), (10, .int .i64 (j : Int))] ∧ J = St ⟨w, Φ, []⟩ Φ2 [.row lv2 3 1 L2.length (L2.map (Value.int .i64))] ∧ m = z - j ∧ (j ≤ z) ∧ (L2 = Un.tim (Un.tim L k) 1 ++ List.replicate j 0) ∧ (IsSl lv2 L2.length)) (s0 := _) (J1 := _) (m0 := _) ⟨0, _, tv2, rfl, rfl, rfl, (by omega), (List.append_nil _).symm, (by rw [Un.tim_len]; exact htv2)⟩ ⟨rfl, rfl, rfl, rfl, trivial⟩ (fun _ h => by rw [Un.tim_len]; exact h) ?_
    rintro _ _ _ _ ⟨j, L2, lv2, rfl, rfl, rfl, hj, hL2, hlv2⟩
    have hLl2 : L2.length ≤ 60 := by rw [hL2, List.length_append, Un.tim_len, Un.tim_len, List.length_replicate]; omega
    refine AW.seq ?_
    refine AW.seq ?_
    refine AW.region ?_
    refine RW.q (v := .int .i64 (j : Int)) rfl (q_move rfl) ?_
    refine RW.q (v := .int .i64 (z : Int)) rfl (q_move rfl) ?_
    refine RW.q (v := .bool (decide ((j : Int) < (z : Int)))) rfl (q_lss rfl rfl) ?_
    refine RW.nil ?_
    refine Post.then_n ?_
    refine AW.cond (b := decide ((j : Int) < (z : Int))) rfl (fun hc2 => ?_) (fun hc2 => ?_)
    · simp [-List.getD_eq_getElem?_getD] at hc2
      refine AW.skip ?_
      refine Post.then_n ?_
      refine AW.seq ?_
      refine AW.block ?_
      refine AW.region ?_
      refine RW.q (v := lv2) rfl (q_move rfl) ?_
      refine RW.eff (fun b3 : Nat => (.slice (some ⟨b3, 0, none⟩) 1 1)) (fun b3 => St ⟨w, Φ, []⟩ Φ2 [.row (.slice (some ⟨b3, 0, none⟩) 1 1) 3 1 1 ([.int .i64 0]), .row lv2 3 1 L2.length (L2.map (Value.int .i64))]) rfl (e_buildSlice (vals := [(0, .int .i64 0)]) (cells := [.int .i64 0]) Tryd.underlying33 inf3 rfl rfl rfl (by kernel_rfl) rfl) ?_
      intro b3
      refine RW.eff (fun xv : {vq : Value // IsSl vq (L2.length + 1)} => xv.1) (fun xv => St ⟨w, Φ, []⟩ Φ2 [.row (.slice (some ⟨b3, 0, none⟩) 1 1) 3 1 1 ([.int .i64 0]), .row xv.1 3 1 ((L2 ++ [0]).length) ((L2 ++ [0]).map (Value.int .i64))]) rfl (e_append 1 rfl rfl rfl Tryd.underlying33 inf3 rfl rfl rfl (Cells.row0 0 rfl) rfl (by omega) (by omega) (fun _ => by simp)) ?_
      rintro ⟨va2, hva2⟩
      refine RW.wk (J' := St ⟨w, Φ, []⟩ Φ2 [.row va2 3 1 ((L2 ++ [0]).length) ((L2 ++ [0]).map (Value.int .i64))]) (fun _ h => StP.drop h (by exact .cons _ (.cons_cons _ (.slnil)))) ?_
      refine RW.q (v := va2) rfl (q_assign rfl) ?_
      refine RW.nil ?_
      refine Post.blk_n (Post.then_n ?_)
      refine AW.region ?_
      refine RW.q (v := .int .i64 (j : Int)) rfl (q_move rfl) ?_
      refine RW.q (v := .int .i64 ((j + 1 : Nat) : Int)) rfl (q_add rfl rfl (by omega) (by unfold I64; omega)) ?_
      refine RW.q (v := .int .i64 ((j + 1 : Nat) : Int)) rfl (q_assign rfl) ?_
      refine RW.nil ?_
      exact Post.back (s' := _) (J' := _) (m' := _) (by omega) ⟨j + 1, L2 ++ [0], va2, rfl, rfl, rfl, (by omega), (by rw [hL2, List.replicate_succ', List.append_assoc]), (by simpa using hva2)⟩ ⟨rfl, rfl, rfl, rfl, trivial⟩ (fun _ h => by simpa using h)
    · simp [-List.getD_eq_getElem?_getD] at hc2
      refine AW.exit ?_
      refine Post.then_x (Post.then_x (Post.blk_hit (Post.then_n ?_)))
      refine AW.seq ?_
      refine AW.region ?_
      refine RW.q (v := lv2) rfl (q_move rfl) ?_
      refine RW.q (v := lv2) rfl (q_assign rfl) ?_
      refine RW.nil ?_
      refine Post.then_n ?_
      refine AW.ret ?_
      have hLp : L2 = Un.prL n k z := by rw [hL2, show j = z by omega, hLe]; rfl
      obtain ⟨hd1, hd2, _⟩ := Un.prL_facts (n := n) (z := z) hk
      rw [← hLp] at hd1
      rw [← hLp]
      exact fin_rep rfl rfl rfl (fun w' hw => RowS.ints (row_ext hw 0 rfl) (by simp only [maxSl]; omega) (fun x hx => by have h9 := hd1 x hx; unfold I64; omega))

set_option maxRecDepth 8000 in
set_option maxHeartbeats 1000000 in
theorem same_c (w : World) (Φ : Hp) (hΦ : Hp.le Φ (hp w)) {xs ys : List Int} {v1 v2 : Value} (h1 : RepSl Φ xs v1) (h2 : RepSl Φ ys v2) (hd1 : Un.Dgs xs) (hd2 : Un.Dgs ys) (hl1 : xs.length ≤ 1000) (hl2 : ys.length ≤ 1000) :
    Calls Tryd.prog 18 #[v1, v2] w fun e w' => e = .returned (.bool (decide (Un.nv xs = Un.nv ys))) ∧ Below w.heap.size w w' := by
  refine calls_of_AW (args := [v1, v2]) Tryd.func18 rfl (Nat.le_of_ble_eq_true rfl) (St ⟨w, Φ, []⟩ Φ []) (StP.init w Φ hΦ []) ?_
  show AW Tryd.prog 37 [] _ _ _ [(0, v1), (1, v2)] _
  refine AW.seq ?_
  refine AW.region ?_
  refine RW.q (v := .bool false) rfl (q_assign rfl) ?_
  refine RW.nil ?_
  refine Post.then_n ?_
  refine AW.seq ?_
  refine AW.block ?_
  refine AW.loop (fun s J m => ∃ (Φg : Hp), ∃ (aL : List Int), ∃ (bL : List Int), ∃ (va : Value), ∃ (vb : Value), s = [(4, .bool false), (0, va), (1, vb)] ∧ J = St ⟨w, Φ, []⟩ Φg [] ∧ m = bL.length - aL.length ∧ (RepSl Φg aL va) ∧ (RepSl Φg bL vb) ∧ (Un.Dgs aL) ∧ (Un.Dgs bL) ∧ (aL.length ≤ 1000) ∧ (bL.length ≤ 1000) ∧ (Un.nv aL = Un.nv xs) ∧ (Un.nv bL = Un.nv ys)) (s0 := _) (J1 := _) (m0 := _) ⟨Φ, xs, ys, _, _, rfl, rfl, rfl, h1, h2, hd1, hd2, hl1, hl2, rfl, rfl⟩ ⟨rfl, rfl, rfl, trivial⟩ (fun _ h => h) ?_
  rintro _ _ _ _ ⟨Φg, aL, bL, va, vb, rfl, rfl, rfl, ha, hb, hda, hdb, hla, hlb, hna, hnb⟩
  refine AW.seq ?_
  refine AW.seq ?_
  refine AW.region ?_
  refine RW.q (v := va) rfl (q_move rfl) ?_
  refine RW.q (v := .int .i64 ((aL.length : Nat) : Int)) rfl (q_len_sl rfl ha.sl Tryd.underlying33) ?_
  refine RW.q (v := vb) rfl (q_move rfl) ?_
  refine RW.q (v := .int .i64 ((bL.length : Nat) : Int)) rfl (q_len_sl rfl hb.sl Tryd.underlying33) ?_
  refine RW.q (v := .bool (decide (((aL.length : Nat) : Int) < ((bL.length : Nat) : Int)))) rfl (q_lss rfl rfl) ?_
  refine RW.nil ?_
  refine Post.then_n ?_
  refine AW.cond (b := decide (((aL.length : Nat) : Int) < ((bL.length : Nat) : Int))) rfl (fun hc1 => ?_) (fun hc1 => ?_)
  · simp [-List.getD_eq_getElem?_getD] at hc1
    refine AW.skip ?_
    refine Post.then_n ?_
    refine AW.block ?_
    refine AW.region ?_
    refine RW.eff (fun b1 : Nat => (.slice (some ⟨b1, 0, none⟩) 1 1)) (fun b1 => St ⟨w, Φ, []⟩ Φg [.row (.slice (some ⟨b1, 0, none⟩) 1 1) 3 1 1 ([.int .i64 0])]) rfl (e_buildSlice (vals := [(0, .int .i64 0)]) (cells := [.int .i64 0]) Tryd.underlying33 inf3 rfl rfl rfl (by kernel_rfl) rfl) ?_
    intro b1
    refine RW.q (v := va) rfl (q_move rfl) ?_
    refine RW.eff (fun xv : {vq : Value // IsSl vq (1 + aL.length)} => xv.1) (fun xv => St ⟨w, Φ, []⟩ Φg [.row xv.1 3 1 ((([0]) ++ aL).length) ((([0]) ++ aL).map (Value.int .i64))]) rfl (e_appendPhi (yv := va) 0 rfl rfl rfl ha.sl Tryd.underlying33 inf3 rfl rfl (by simp <;> omega) (ints_cells ha) (ints_one _) (by omega) (by omega) (fun _ => by exact congrArg (· :: []) (row_eq (by simp; omega) rfl))) ?_
    rintro ⟨va1, hva1⟩
    refine RW.frz (fun Φ1 hlΦ1 hshfa => ?_)
    replace ha := ha.mono hlΦ1
    replace hb := hb.mono hlΦ1
    replace hfa : RepSl Φ1 (0 :: aL) va1 := RowS.ints (xs := ([0] ++ aL : List Int)) (T := 3) (n := ([0] ++ aL : List Int).length) (hshfa) (by simp only [maxSl, List.length_append, List.length_cons, List.length_nil]; omega) (fun x hx => by have h9 := Un.dgs_zero hda x hx; unfold I64; omega)
    refine RW.q (v := va1) rfl (q_assign rfl) ?_
    refine RW.nil ?_
    refine Post.blk_n ?_
    exact Post.back (s' := _) (J' := _) (m' := _) (by simp only [List.length_cons]; omega) ⟨Φ1, 0 :: aL, bL, va1, vb, rfl, rfl, rfl, hfa, hb, (Un.dgs_zero hda), hdb, (by simp only [List.length_cons]; omega), hlb, (by rw [Un.nv_zero]; exact hna), hnb⟩ ⟨rfl, rfl, rfl, trivial⟩ (fun _ h => h)
  · simp [-List.getD_eq_getElem?_getD] at hc1
    refine AW.exit ?_
    refine Post.then_x (Post.then_x (Post.blk_hit (Post.then_n ?_)))
    refine AW.seq ?_
    refine AW.block ?_
    refine AW.loop (fun s J m => ∃ (Φg : Hp), ∃ (aL : List Int), ∃ (bL : List Int), ∃ (va : Value), ∃ (vb : Value), s = [(4, .bool false), (0, va), (1, vb)] ∧ J = St ⟨w, Φ, []⟩ Φg [] ∧ m = aL.length - bL.length ∧ (RepSl Φg aL va) ∧ (RepSl Φg bL vb) ∧ (Un.Dgs aL) ∧ (Un.Dgs bL) ∧ (aL.length ≤ 1000) ∧ (bL.length ≤ 1000) ∧ (Un.nv aL = Un.nv xs) ∧ (Un.nv bL = Un.nv ys) ∧ (bL.length ≤ aL.length)) (s0 := _) (J1 := _) (m0 := _) ⟨_, _, _, _, _, rfl, rfl, rfl, ha, hb, hda, hdb, hla, hlb, hna, hnb, (by omega)⟩ ⟨rfl, rfl, rfl, trivial⟩ (fun _ h => h) ?_
    rintro _ _ _ _ ⟨Φg, aL, bL, va, vb, rfl, rfl, rfl, ha, hb, hda, hdb, hla, hlb, hna, hnb, hge⟩
    refine AW.seq ?_
    refine AW.seq ?_
    refine AW.region ?_
    refine RW.q (v := vb) rfl (q_move rfl) ?_
    refine RW.q (v := .int .i64 ((bL.length : Nat) : Int)) rfl (q_len_sl rfl hb.sl Tryd.underlying33) ?_
    refine RW.q (v := va) rfl (q_move rfl) ?_
    refine RW.q (v := .int .i64 ((aL.length : Nat) : Int)) rfl (q_len_sl rfl ha.sl Tryd.underlying33) ?_
    refine RW.q (v := .bool (decide (((bL.length : Nat) : Int) < ((aL.length : Nat) : Int)))) rfl (q_lss rfl rfl) ?_
    refine RW.nil ?_
    refine Post.then_n ?_
    refine AW.cond (b := decide (((bL.length : Nat) : Int) < ((aL.length : Nat) : Int))) rfl (fun hc2 => ?_) (fun hc2 => ?_)
    · simp [-List.getD_eq_getElem?_getD] at hc2
      refine AW.skip ?_
      refine Post.then_n ?_
      refine AW.block ?_
      refine AW.region ?_
      refine RW.eff (fun b2 : Nat => (.slice (some ⟨b2, 0, none⟩) 1 1)) (fun b2 => St ⟨w, Φ, []⟩ Φg [.row (.slice (some ⟨b2, 0, none⟩) 1 1) 3 1 1 ([.int .i64 0])]) rfl (e_buildSlice (vals := [(0, .int .i64 0)]) (cells := [.int .i64 0]) Tryd.underlying33 inf3 rfl rfl rfl (by kernel_rfl) rfl) ?_
      intro b2
      refine RW.q (v := vb) rfl (q_move rfl) ?_
      refine RW.eff (fun xv : {vq : Value // IsSl vq (1 + bL.length)} => xv.1) (fun xv => St ⟨w, Φ, []⟩ Φg [.row xv.1 3 1 ((([0]) ++ bL).length) ((([0]) ++ bL).map (Value.int .i64))]) rfl (e_appendPhi (yv := vb) 0 rfl rfl rfl hb.sl Tryd.underlying33 inf3 rfl rfl (by simp <;> omega) (ints_cells hb) (ints_one _) (by omega) (by omega) (fun _ => by exact congrArg (· :: []) (row_eq (by simp; omega) rfl))) ?_
      rintro ⟨va2, hva2⟩
      refine RW.frz (fun Φ2 hlΦ2 hshfb => ?_)
      replace ha := ha.mono hlΦ2
      replace hb := hb.mono hlΦ2
      replace hfb : RepSl Φ2 (0 :: bL) va2 := RowS.ints (xs := ([0] ++ bL : List Int)) (T := 3) (n := ([0] ++ bL : List Int).length) (hshfb) (by simp only [maxSl, List.length_append, List.length_cons, List.length_nil]; omega) (fun x hx => by have h9 := Un.dgs_zero hdb x hx; unfold I64; omega)
      refine RW.q (v := va2) rfl (q_assign rfl) ?_
      refine RW.nil ?_
      refine Post.blk_n ?_
      exact Post.back (s' := _) (J' := _) (m' := _) (by simp only [List.length_cons]; omega) ⟨Φ2, aL, 0 :: bL, va, va2, rfl, rfl, rfl, ha, hfb, hda, (Un.dgs_zero hdb), hla, (by simp only [List.length_cons]; omega), hna, (by rw [Un.nv_zero]; exact hnb), (by simp only [List.length_cons]; omega)⟩ ⟨rfl, rfl, rfl, trivial⟩ (fun _ h => h)
    · simp [-List.getD_eq_getElem?_getD] at hc2
      refine AW.exit ?_
      refine Post.then_x (Post.then_x (Post.blk_hit (Post.then_n ?_)))
      refine AW.seq ?_
      refine AW.seq ?_
      refine AW.region ?_
      refine RW.q (v := .int .i64 0) rfl (q_assign rfl) ?_
      refine RW.nil ?_
      refine Post.then_n ?_
      refine AW.block ?_
      have hlen : aL.length = bL.length := by omega
      refine AW.loop (fun s J m => ∃ (i : Nat), s = [(0, va), (1, vb), (4, .bool false), (5, .int .i64 (i : Int))] ∧ J = St ⟨w, Φ, []⟩ Φg [] ∧ m = aL.length - i ∧ (i ≤ aL.length) ∧ (∀ q, q < i → aL.getD q 0 = bL.getD q 0)) (s0 := _) (J1 := _) (m0 := _) ⟨0, rfl, rfl, rfl, (by omega), (fun q hq => absurd hq (Nat.not_lt_zero _))⟩ ⟨rfl, rfl, rfl, rfl, trivial⟩ (fun _ h => h) ?_
      rintro _ _ _ _ ⟨i, rfl, rfl, rfl, hi, heq⟩
      refine AW.seq ?_
      refine AW.seq ?_
      refine AW.region ?_
      refine RW.q (v := .int .i64 (i : Int)) rfl (q_move rfl) ?_
      refine RW.q (v := va) rfl (q_move rfl) ?_
      refine RW.q (v := .int .i64 ((aL.length : Nat) : Int)) rfl (q_len_sl rfl ha.sl Tryd.underlying33) ?_
      refine RW.q (v := .bool (decide ((i : Int) < ((aL.length : Nat) : Int)))) rfl (q_lss rfl rfl) ?_
      refine RW.nil ?_
      refine Post.then_n ?_
      refine AW.cond (b := decide ((i : Int) < ((aL.length : Nat) : Int))) rfl (fun hc3 => ?_) (fun hc3 => ?_)
      · simp [-List.getD_eq_getElem?_getD] at hc3
        refine AW.skip ?_
        refine Post.then_n ?_
        refine AW.seq ?_
        refine AW.block ?_
        refine AW.seq ?_
        refine AW.draw (J0 := St ⟨w, Φ, []⟩ Φg []) [.q, .q, .q, .q, .q, .q, .q, .q, .q] [0, 1, 2, 3, 4, 5, 6, 7, 8] hmix (by kernel_rfl) ?_
        refine DW.q (v := va) (fun _ h => h) rfl (q_move rfl) ?_
        refine DW.q (v := .int .i64 (i : Int)) (fun _ h => h) rfl (q_move rfl) ?_
        refine DW.q (v := .pointer (some (Value.at va (i * 1)))) (fun _ h => h) rfl (q_indexAddr rfl rfl ha.sl Tryd.underlying33 sz3 (by omega) (by omega) rfl) ?_
        refine DW.q (v := .int .i64 (aL.getD i 0)) (fun _ h => h) rfl (q_load rfl Tryd.underlying3 rfl (Cell.repInt ha (by omega))) ?_
        refine DW.q (v := vb) (fun _ h => h) rfl (q_move rfl) ?_
        refine DW.q (v := .int .i64 (i : Int)) (fun _ h => h) rfl (q_move rfl) ?_
        refine DW.q (v := .pointer (some (Value.at vb (i * 1)))) (fun _ h => h) rfl (q_indexAddr rfl rfl hb.sl Tryd.underlying33 sz3 (by omega) (by omega) rfl) ?_
        refine DW.q (v := .int .i64 (bL.getD i 0)) (fun _ h => h) rfl (q_load rfl Tryd.underlying3 rfl (Cell.repInt hb (by omega))) ?_
        refine DW.q (v := .bool (!decide (aL.getD i 0 = bL.getD i 0))) (fun _ h => h) rfl (q_neq rfl rfl) ?_
        refine DW.nil ?_
        refine Post.then_n ?_
        refine AW.cond (b := !decide (aL.getD i 0 = bL.getD i 0)) rfl (fun hc4 => ?_) (fun hc4 => ?_)
        · simp [-List.getD_eq_getElem?_getD] at hc4
          refine AW.seq ?_
          refine AW.region ?_
          refine RW.q (v := .bool false) rfl (q_assign rfl) ?_
          refine RW.nil ?_
          refine Post.then_n ?_
          refine AW.ret ?_
          refine Post.blk_r (Post.then_r (Post.then_r (Post.blk_r (Post.then_r ?_))))
          exact fin_val (v' := .bool false) rfl rfl rfl (by rw [decide_eq_false (fun h9 => hc4 (by rw [Un.nv_inj hda hdb hlen (by rw [hna, hnb]; exact h9)]))])
        · simp [-List.getD_eq_getElem?_getD] at hc4
          refine AW.skip ?_
          refine Post.blk_n (Post.then_n ?_)
          refine AW.region ?_
          refine RW.q (v := .int .i64 (i : Int)) rfl (q_move rfl) ?_
          refine RW.q (v := .int .i64 ((i + 1 : Nat) : Int)) rfl (q_add rfl rfl (by omega) (by unfold I64; omega)) ?_
          refine RW.q (v := .int .i64 ((i + 1 : Nat) : Int)) rfl (q_assign rfl) ?_
          refine RW.nil ?_
          exact Post.back (s' := _) (J' := _) (m' := _) (by omega) ⟨i + 1, rfl, rfl, rfl, (by omega), (Un.lt_succ' heq hc4)⟩ ⟨rfl, rfl, rfl, rfl, trivial⟩ (fun _ h => h)
      · simp [-List.getD_eq_getElem?_getD] at hc3
        refine AW.exit ?_
        refine Post.then_x (Post.then_x (Post.blk_hit (Post.then_n ?_)))
        refine AW.seq ?_
        refine AW.region ?_
        refine RW.q (v := .bool true) rfl (q_assign rfl) ?_
        refine RW.nil ?_
        refine Post.then_n ?_
        refine AW.ret ?_
        exact fin_val (v' := .bool true) rfl rfl rfl (by rw [decide_eq_true (by rw [← hna, ← hnb, Un.getD_extI hlen (fun q hq => heq q (by omega))])])

end Go.Proofs.YthiflhoobldioaaDoor
