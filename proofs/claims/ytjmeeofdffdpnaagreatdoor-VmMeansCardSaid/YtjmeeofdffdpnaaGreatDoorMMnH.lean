/- Lemmas. Conditions: those of each theorem. -/
import Derived.Test.YtjmeeofdffdpnaaGreatDoorMJgE
import Derived.Test.YtjmeeofdffdpnaaGreatDoorMPanK
set_option maxRecDepth 8000
set_option maxHeartbeats 16000000
namespace Go.Proofs.YtjmeeofdffdpnaaGreatDoor
open Go Go.K Go.RowKit
open Ru (pB NmS BasV)
attribute [local irreducible] AW RW DW Post Qt
abbrev rS2 (fA : Option Addr) (fc : Nat) (cA : Option Addr) (cc : Nat) (r : Bt.Rule) : List Value := [.slice fA r.Funcs.length fc, .slice cA r.Clauses.length cc]
theorem clV {Φ : Hp} {xs : List Bt.RClause} {v : Value} (h : RepSl Φ xs v) {i : Nat} (hi : i < xs.length) : ∃ A c A2 c2, PCells Φ (Value.at v (i * 11)) (rcC (xs.getD i default) (.slice A (xs.getD i default).If.Kids.length c) (.slice A2 (xs.getD i default).To.Kids.length c2)) ∧ RepSl Φ (xs.getD i default).If.Kids (.slice A (xs.getD i default).If.Kids.length c) ∧ RepSl Φ (xs.getD i default).To.Kids (.slice A2 (xs.getD i default).To.Kids.length c2) ∧ wfE (xs.getD i default).If ∧ wfE (xs.getD i default).To ∧ I64 (xs.getD i default).Link := by
 obtain ⟨cs, h1, h2⟩ := h.at_ i hi
 obtain ⟨u, v', rfl, h5, h6, h7, h3, h4⟩ := h1
 obtain ⟨A, c, rfl, _⟩ := h6.sl
 obtain ⟨A2, c2, rfl, _⟩ := h4.sl
 have he : xs[i] = xs.getD i default := by rw [gDD, List.getElem?_eq_getElem hi]; rfl
 rw [he] at h2 h3 h4 h5 h6 h7
 refine ⟨A, c, A2, c2, fun q u hq => ?_, h6, h4, h5, h3, h7⟩
 rw [at_add]
 exact h2 q u hq
theorem jb1 : ∀ a1 a2 a3 a4 x y : Bool, (((!a1 || a2) || a3) || !a4) = true → (a1 && !a2 && !a3 && a4 && x && y) = false := by decide
theorem jb2 : ∀ a1 a2 a3 a4 : Bool, (((!a1 || a2) || a3) || !a4) = false → (a1 && !a2 && !a3 && a4 && true) = true := by decide
theorem a4 {α : Type} {a b c d a' b' c' d' : α} (h1 : a = a') (h2 : b = b') (h3 : c = c') (h4 : d = d') : [a, b, c, d] = [a', b', c', d'] := by rw [h1, h2, h3, h4]
theorem AllK24 (Ks : Nat → List Chunk) : AllK 24 Ks = Ks 0 ++ (Ks 1 ++ (Ks 2 ++ (Ks 3 ++ (Ks 4 ++ (Ks 5 ++ (Ks 6 ++ (Ks 7 ++ (Ks 8 ++ (Ks 9 ++ (Ks 10 ++ (Ks 11 ++ (Ks 12 ++ (Ks 13 ++ (Ks 14 ++ (Ks 15 ++ (Ks 16 ++ (Ks 17 ++ (Ks 18 ++ (Ks 19 ++ (Ks 20 ++ (Ks 21 ++ (Ks 22 ++ (Ks 23 ++ []))))))))))))))))))))))) := rfl
instance zlJg : ZL pg 115 [.slice none 0 0, .map none, .map none, .map none, .map none] := ⟨.agg #[.slice none 0 0, .map none, .map none, .map none, .map none], by kernel_rfl, rfl⟩
theorem ruleRight_c (w : World) {b : BasV} {e : Ru.Env} (hb : b.ok (hp w) e) {r : Bt.Rule} {fv cv : Value} (hf : RepSl (hp w) r.Funcs fv) (hc : RepSl (hp w) r.Clauses cv) :
  Calls pg 20 #[.agg b.cs.toArray, .agg #[fv, cv]] w fun e' w' => e' = .returned (.bool (Ru.rightR e r)) ∧ Bel w.heap.size w w' := by
 obtain ⟨fA, fc, rfl, _⟩ := hf.sl
 obtain ⟨cA, cc, rfl, _⟩ := hc.sl
 refine calls_of_AW (args := [.agg b.cs.toArray, .agg #[.slice fA r.Funcs.length fc, .slice cA r.Clauses.length cc]]) Tryz.func20 rfl (lBT rfl) (St ⟨w, hp w, []⟩ (hp w) []) (StP.init w (hp w) (Hp.le_refl _) []) ?_
 show AW _ _ [] _ _ _ [(0, .agg b.cs.toArray), (1, .agg #[.slice fA r.Funcs.length fc, .slice cA r.Clauses.length cc])] _
 repeat refine gs1 ?_
 refine RW.bxA (cs := b.cs) rfl rfl fun b2 => ?_
 refine RW.bxA (cs := (rS2 fA fc cA cc r)) rfl rfl fun b3 => ?_
 refine RW.frzB rfl fun Φ1 hl1 hb3 => (RW.frzB rfl fun Φ2 hl2 hb2 => ?_)
 repeat refine gs1 ?_
 have hl : Hp.le (hp w) Φ2 := hl1.trans hl2
 have hb3 : Φ2 b3 = some (.cells (rS2 fA fc cA cc r).toArray 35 (0, 0)) := hl2 _ _ hb3
 have hb2 : Φ2 b2 = some (.cells b.cs.toArray 31 (0, 0)) := hb2
 have hb := hb.mono hl
 have hf := hf.mono hl
 have hc := hc.mono hl
 have hfs := hf.sl
 have hcs := hc.sl
 have s1 := hb.p.sl
 have s2 := hb.o.sl
 have s3 := hb.l.sl
 have s4 := hb.t.sl
 have q0 : PCell Φ2 ⟨b3, 0, none⟩ (.slice fA r.Funcs.length fc) := PCell.blk hb3 rfl
 have q1 : PCell Φ2 ⟨b3, 1, none⟩ (.slice cA r.Clauses.length cc) := PCell.blk hb3 rfl
 have q4 : PCell Φ2 ⟨b2, 3, none⟩ b.pv := PCell.blk hb2 rfl
 have q5 : PCell Φ2 ⟨b2, 1, none⟩ b.ov := PCell.blk hb2 rfl
 have q6 : PCell Φ2 ⟨b2, 4, none⟩ b.lv := PCell.blk hb2 rfl
 have q7 : PCell Φ2 ⟨b2, 5, none⟩ b.tv := PCell.blk hb2 rfl
 have c1 : ∀ w1, Hp.le Φ2 (hp w1) → Calls pg 40 #[iV (e.places.length : Int), .func (.func 41) #[] #[pB b2]] w1 (MkR w1 (fun b : Nat => .map (some b)) fun b => [dtab b e.places]) := fun w1 hw1 => denotable_c w1 oK hb.p.len hb.p.big fun w2 h2 i hi => rclo1_c w2 (h2 _ _ (hw1 _ _ hb2)) ((hb.p.mono hw1).mono h2) i hi
 have c2 : ∀ w1, Hp.le Φ2 (hp w1) → Calls pg 40 #[iV (e.owners.length : Int), .func (.func 42) #[] #[pB b2]] w1 (MkR w1 (fun b : Nat => .map (some b)) fun b => [dtab b e.owners]) := fun w1 hw1 => denotable_c w1 oK hb.o.len hb.o.big fun w2 h2 i hi => rclo2_c w2 (h2 _ _ (hw1 _ _ hb2)) ((hb.o.mono hw1).mono h2) i hi
 have c3 : ∀ w1, Hp.le Φ2 (hp w1) → Calls pg 40 #[iV (e.links.length : Int), .func (.func 43) #[] #[pB b2]] w1 (MkR w1 (fun b : Nat => .map (some b)) fun b => [dtab b e.links]) := fun w1 hw1 => denotable_c w1 oK hb.l.len hb.l.big fun w2 h2 i hi => rclo3_c w2 (h2 _ _ (hw1 _ _ hb2)) ((hb.l.mono hw1).mono h2) i hi
 have c4 : ∀ w1, Hp.le Φ2 (hp w1) → Calls pg 40 #[iV (e.towns.length : Int), .func (.func 44) #[] #[pB b2]] w1 (MkR w1 (fun b : Nat => .map (some b)) fun b => [dtab b e.towns]) := fun w1 hw1 => denotable_c w1 oK hb.t.len hb.t.big fun w2 h2 i hi => rclo4_c w2 (h2 _ _ (hw1 _ _ hb2)) ((hb.t.mono hw1).mono h2) i hi
 refine AW.drawM (base := [(2, pB b2), (3, pB b3)]) [FQ 13 (.pointer (some ⟨b3, 0, none⟩)),
  FQ 14 (.slice fA r.Funcs.length fc),
  FQ 15 (.pointer (some ⟨b2, 3, none⟩)),
  FQ 16 (b.pv),
  FQ 17 (iV (e.places.length : Int)),
  FQ 18 (.func (.func 41) #[] #[pB b2]),
  FE (X := Nat) 19 (fun b => .map (some b)) (fun b => [dtab b e.places]),
  FQ 20 (.pointer (some ⟨b2, 1, none⟩)),
  FQ 21 (b.ov),
  FQ 22 (iV (e.owners.length : Int)),
  FQ 23 (.func (.func 42) #[] #[pB b2]),
  FE (X := Nat) 24 (fun b => .map (some b)) (fun b => [dtab b e.owners]),
  FQ 25 (.pointer (some ⟨b2, 4, none⟩)),
  FQ 26 (b.lv),
  FQ 27 (iV (e.links.length : Int)),
  FQ 28 (.func (.func 43) #[] #[pB b2]),
  FE (X := Nat) 29 (fun b => .map (some b)) (fun b => [dtab b e.links]),
  FQ 30 (.pointer (some ⟨b2, 5, none⟩)),
  FQ 31 (b.tv),
  FQ 32 (iV (e.towns.length : Int)),
  FQ 33 (.func (.func 44) #[] #[pB b2]),
  FE (X := Nat) 34 (fun b => .map (some b)) (fun b => [dtab b e.towns]),
  ([35, 19, 24, 29, 34], fun vs K => ∃ u1 u2 u3 u4, vs = [.agg [(.slice fA r.Funcs.length fc), u1, u2, u3, u4].toArray, u1, u2, u3, u4] ∧ K = []),
  FE (X := Nat) 5 (fun b => pB b) (fun b => [.blk b 115 [.slice none 0 0, .map none, .map none, .map none, .map none]])] (fun s J => ∃ b5 m1 m2 m3 m4 : Nat, s = [(2, pB b2), (3, pB b3), (5, pB b5)] ∧ J = St ⟨w, hp w, []⟩ Φ2 [.blk b5 115 (jC (.slice fA r.Funcs.length fc) m1 m2 m3 m4), dtab m1 e.places, dtab m2 e.owners, dtab m3 e.links, dtab m4 e.towns]) hmix (by kernel_rfl) ⟨rfl, rfl, trivial⟩ ⟨stepQ rfl fun S Ks hs hd => qa_fa0 hs.2.1,
  stepQ rfl fun S Ks hs hd => qa_ld (dq (d := 13) (K := Ks 0) (dep_l hd 0 rfl)) (Cell.phi q0),
  stepQ rfl fun S Ks hs hd => qa_fa0 hs.1,
  stepQ rfl fun S Ks hs hd => qa_ld (dq (d := 15) (K := Ks 2) (dep_l hd 2 rfl)) (Cell.phi q4),
  stepQ rfl fun S Ks hs hd => qa_len (dq (d := 16) (K := Ks 3) (dep_l hd 3 rfl)) s1,
  stepQ rfl fun S Ks hs hd => q_makeFunc rfl (congrArg (fun x => [x]) hs.1),
  stepE (d := 19) (Vz := fun b : Nat => .map (some b)) (Kz := fun b => [dtab b e.places]) rfl fun S Ks w1 hs hw hd => e_mkF oK (args2 (dq (d := 17) (K := Ks 4) (dep_l hd 4 rfl)) (dq (d := 18) (K := Ks 5) (dep_l hd 5 rfl))) (c1 w1 hw.phi),
  stepQ rfl fun S Ks hs hd => qa_fa0 hs.1,
  stepQ rfl fun S Ks hs hd => qa_ld (dq (d := 20) (K := Ks 7) (dep_l hd 7 rfl)) (Cell.phi q5),
  stepQ rfl fun S Ks hs hd => qa_len (dq (d := 21) (K := Ks 8) (dep_l hd 8 rfl)) s2,
  stepQ rfl fun S Ks hs hd => q_makeFunc rfl (congrArg (fun x => [x]) hs.1),
  stepE (d := 24) (Vz := fun b : Nat => .map (some b)) (Kz := fun b => [dtab b e.owners]) rfl fun S Ks w1 hs hw hd => e_mkF oK (args2 (dq (d := 22) (K := Ks 9) (dep_l hd 9 rfl)) (dq (d := 23) (K := Ks 10) (dep_l hd 10 rfl))) (c2 w1 hw.phi),
  stepQ rfl fun S Ks hs hd => qa_fa0 hs.1,
  stepQ rfl fun S Ks hs hd => qa_ld (dq (d := 25) (K := Ks 12) (dep_l hd 12 rfl)) (Cell.phi q6),
  stepQ rfl fun S Ks hs hd => qa_len (dq (d := 26) (K := Ks 13) (dep_l hd 13 rfl)) s3,
  stepQ rfl fun S Ks hs hd => q_makeFunc rfl (congrArg (fun x => [x]) hs.1),
  stepE (d := 29) (Vz := fun b : Nat => .map (some b)) (Kz := fun b => [dtab b e.links]) rfl fun S Ks w1 hs hw hd => e_mkF oK (args2 (dq (d := 27) (K := Ks 14) (dep_l hd 14 rfl)) (dq (d := 28) (K := Ks 15) (dep_l hd 15 rfl))) (c3 w1 hw.phi),
  stepQ rfl fun S Ks hs hd => qa_fa0 hs.1,
  stepQ rfl fun S Ks hs hd => qa_ld (dq (d := 30) (K := Ks 17) (dep_l hd 17 rfl)) (Cell.phi q7),
  stepQ rfl fun S Ks hs hd => qa_len (dq (d := 31) (K := Ks 18) (dep_l hd 18 rfl)) s4,
  stepQ rfl fun S Ks hs hd => q_makeFunc rfl (congrArg (fun x => [x]) hs.1),
  stepE (d := 34) (Vz := fun b : Nat => .map (some b)) (Kz := fun b => [dtab b e.towns]) rfl fun S Ks w1 hs hw hd => e_mkF oK (args2 (dq (d := 32) (K := Ks 19) (dep_l hd 19 rfl)) (dq (d := 33) (K := Ks 20) (dep_l hd 20 rfl))) (c4 w1 hw.phi),
  stepQS fun S Ks hs hd => by
   obtain ⟨m1, h1, _⟩ := (dep_l hd 6 rfl : ∃ x : Nat, [19].map S = [.map (some x)] ∧ Ks 6 = [dtab x e.places])
   obtain ⟨m2, h2, _⟩ := (dep_l hd 11 rfl : ∃ x : Nat, [24].map S = [.map (some x)] ∧ Ks 11 = [dtab x e.owners])
   obtain ⟨m3, h3, _⟩ := (dep_l hd 16 rfl : ∃ x : Nat, [29].map S = [.map (some x)] ∧ Ks 16 = [dtab x e.links])
   obtain ⟨m4, h4, _⟩ := (dep_l hd 21 rfl : ∃ x : Nat, [34].map S = [.map (some x)] ∧ Ks 21 = [dtab x e.towns])
   have e0 := (dq (d := 14) (K := Ks 1) (dep_l hd 1 rfl))
   have e1 : S 19 = .map (some m1) := by simpa using h1
   have e2 : S 24 = .map (some m2) := by simpa using h2
   have e3 : S 29 = .map (some m3) := by simpa using h3
   have e4 : S 34 = .map (some m4) := by simpa using h4
   refine ⟨.agg (jC (.slice fA r.Funcs.length fc) m1 m2 m3 m4).toArray, q_build (vals := [(0, (.slice fA r.Funcs.length fc)), (1, .map (some m1)), (2, .map (some m2)), (3, .map (some m3)), (4, .map (some m4))]) zero115 uT115 places115 (by show [(0, S 14), (1, S 19), (2, S 24), (3, S 29), (4, S 34)] = _; rw [e0, e1, e2, e3, e4]) rfl, .map (some m1), .map (some m2), .map (some m3), .map (some m4), ?_, rfl⟩
   show [_, S 19, S 24, S 29, S 34] = _
   rw [e1, e2, e3, e4]; rfl,
  stepE rfl fun S Ks w1 hs hw hd => e_allocF (StP.now w1), trivial⟩ (fun o S Ks ho hs hd => ?_) ?_
 ·
  obtain rfl : _ = o := sJ ho
  obtain ⟨x6, v6, k6⟩ := (hd 6 : ∃ x : Nat, [19].map S = [.map (some x)] ∧ Ks 6 = [dtab x e.places])
  obtain ⟨x11, v11, k11⟩ := (hd 11 : ∃ x : Nat, [24].map S = [.map (some x)] ∧ Ks 11 = [dtab x e.owners])
  obtain ⟨x16, v16, k16⟩ := (hd 16 : ∃ x : Nat, [29].map S = [.map (some x)] ∧ Ks 16 = [dtab x e.links])
  obtain ⟨x21, v21, k21⟩ := (hd 21 : ∃ x : Nat, [34].map S = [.map (some x)] ∧ Ks 21 = [dtab x e.towns])
  obtain ⟨b5, v23, k23⟩ := (hd 23 : ∃ x : Nat, [5].map S = [pB x] ∧ Ks 23 = [.blk x 115 [.slice none 0 0, .map none, .map none, .map none, .map none]])
  obtain ⟨u1, u2, u3, u4, v22, k22⟩ := (hd 22 : ∃ u1 u2 u3 u4, [35, 19, 24, 29, 34].map S = [.agg [(.slice fA r.Funcs.length fc), u1, u2, u3, u4].toArray, u1, u2, u3, u4] ∧ Ks 22 = [])
  simp only [List.map_cons, List.map_nil, List.cons.injEq, and_true] at v6 v11 v16 v21 v22 v23
  obtain ⟨v35, rfl, rfl, rfl, rfl⟩ := v22
  have k0 : Ks 0 = [] := And.right (hd 0 : _ ∧ Ks 0 = [])
  have k1 : Ks 1 = [] := And.right (hd 1 : _ ∧ Ks 1 = [])
  have k2 : Ks 2 = [] := And.right (hd 2 : _ ∧ Ks 2 = [])
  have k3 : Ks 3 = [] := And.right (hd 3 : _ ∧ Ks 3 = [])
  have k4 : Ks 4 = [] := And.right (hd 4 : _ ∧ Ks 4 = [])
  have k5 : Ks 5 = [] := And.right (hd 5 : _ ∧ Ks 5 = [])
  have k7 : Ks 7 = [] := And.right (hd 7 : _ ∧ Ks 7 = [])
  have k8 : Ks 8 = [] := And.right (hd 8 : _ ∧ Ks 8 = [])
  have k9 : Ks 9 = [] := And.right (hd 9 : _ ∧ Ks 9 = [])
  have k10 : Ks 10 = [] := And.right (hd 10 : _ ∧ Ks 10 = [])
  have k12 : Ks 12 = [] := And.right (hd 12 : _ ∧ Ks 12 = [])
  have k13 : Ks 13 = [] := And.right (hd 13 : _ ∧ Ks 13 = [])
  have k14 : Ks 14 = [] := And.right (hd 14 : _ ∧ Ks 14 = [])
  have k15 : Ks 15 = [] := And.right (hd 15 : _ ∧ Ks 15 = [])
  have k17 : Ks 17 = [] := And.right (hd 17 : _ ∧ Ks 17 = [])
  have k18 : Ks 18 = [] := And.right (hd 18 : _ ∧ Ks 18 = [])
  have k19 : Ks 19 = [] := And.right (hd 19 : _ ∧ Ks 19 = [])
  have k20 : Ks 20 = [] := And.right (hd 20 : _ ∧ Ks 20 = [])
  refine ⟨_, _, ⟨b5, x6, x11, x16, x21, rfl, rfl⟩, ⟨hs.1, hs.2.1, v23, trivial⟩, fun w1 hw1 => ?_⟩
  have hw2 : StP ⟨w, hp w, []⟩ Φ2 (AllK 24 Ks ++ []) w1 := hw1
  rw [AllK24, k0, k1, k2, k3, k4, k5, k6, k7, k8, k9, k10, k11, k12, k13, k14, k15, k16, k17, k18, k19, k20, k21, k22, k23] at hw2
  simp only [List.nil_append, List.append_nil, List.cons_append] at hw2
  refine effX_mono (fun v w' h => ?_) (e_stA (Pn := NoPn) (f := S) (s := []) (x := .tmp 5) (y := .tmp 35) (B := ⟨w, hp w, []⟩) (Φ := Φ2) (C := [dtab x6 e.places, dtab x11 e.owners, dtab x16 e.links, dtab x21 e.towns, .blk b5 115 [.slice none 0 0, .map none, .map none, .map none, .map none]]) (cs' := jC (.slice fA r.Funcs.length fc) x6 x11 x16 x21) 4 rfl v23 (by show S 35 = _; rw [v35, v6, v11, v16, v21]) rfl rfl rfl w1 hw2)
  exact StP.sel h [4, 0, 1, 2, 3] (by decide) rfl
 rintro f5 _ _ ⟨b5, m1, m2, m3, m4, rfl, rfl⟩
 repeat refine gs1 ?_
 refine RW.wk (J' := St ⟨w, hp w, []⟩ Φ2 [dtab m1 e.places, dtab m2 e.owners, dtab m3 e.links, dtab m4 e.towns, .blk b5 115 (jC (.slice fA r.Funcs.length fc) m1 m2 m3 m4)]) (fun _ h => StP.sel h [1, 2, 3, 4, 0] (by decide) rfl) (RW.frzB rfl fun Φ3 hl3 ht1 => (RW.frzB rfl fun Φ4 hl4 ht2 => (RW.frzB rfl fun Φ5 hl5 ht3 => (RW.frzB rfl fun Φ6 hl6 ht4 => ?_))))
 have hl26 : Hp.le Φ2 Φ6 := ((hl3.trans hl4).trans hl5).trans hl6
 have hJ : JC Φ6 e r.Funcs (.slice fA r.Funcs.length fc) m1 m2 m3 m4 := ⟨hf.mono hl26, dtab_up ht1 ((hl4.trans hl5).trans hl6), dtab_up ht2 (hl5.trans hl6), dtab_up ht3 hl6, ht4⟩
 have hf6 := hJ.f
 have hfb : r.Funcs.length * 104 ≤ maxSl := hf.max
 have hcb : r.Clauses.length * 120 ≤ maxSl := hc.max
 simp only [maxSl] at hfb hcb
 have hc6 := hc.mono hl26
 have q06 := q0.mono hl26
 have q16 := q1.mono hl26
 refine RW.eff _ _ rfl (e_kmake kStr Value.bool) fun b6 => ?_
 have e0 : Ru.seenM [] = fun _ => none := rfl
 refine RW.wk (J' := St ⟨w, hp w, []⟩ Φ6 [.kmap kStr Value.bool b6 (Ru.seenM []), .blk b5 115 (jC (.slice fA r.Funcs.length fc) m1 m2 m3 m4)]) (fun _ h => by rw [e0]; exact h) ?_
 repeat refine gs1 ?_
 refine AW.loop (fun s J q => ∃ i : Nat, s = [(2, pB b2), (3, pB b3), (5, pB b5), (6, .map (some b6)), (38, .slice fA r.Funcs.length fc), (39, iV (r.Funcs.length : Int)), (40, iV (i : Int))] ∧ J = St ⟨w, hp w, []⟩ Φ6 [.kmap kStr Value.bool b6 (Ru.seenM ((r.Funcs.take i).map (·.Name))), .blk b5 115 (jC (.slice fA r.Funcs.length fc) m1 m2 m3 m4)] ∧ q = r.Funcs.length - i ∧ i ≤ r.Funcs.length ∧ Ru.jhead [] (r.Funcs.take i) = true) (s0 := [(2, pB b2), (3, pB b3), (5, pB b5), (6, .map (some b6)), (38, .slice fA r.Funcs.length fc), (39, iV (r.Funcs.length : Int)), (40, iV ((0 : Nat) : Int))]) (J1 := _) (m0 := _) ⟨0, rfl, rfl, rfl, Nat.zero_le _, rfl⟩ ⟨rfl, rfl, rfl, rfl, rfl, rfl, rfl, trivial⟩ (fun _ h => h) ?_
 rintro _ _ _ _ ⟨i, rfl, rfl, rfl, hi, hhd⟩
 repeat refine gs1 ?_
 refine AW.cond rfl (fun h => ?_) fun h => ?_
 ·
  have h : i < r.Funcs.length := by have := odT h; omega
  obtain ⟨qv, Ab, cb, hpb, hqv, hbk, hwb, hnl, hres⟩ := funW hf6 h
  obtain ⟨qA, qc, rfl, _⟩ := hqv.sl
  have hget : r.Funcs.getD i default = r.Funcs[i] := by rw [gDD, List.getElem?_eq_getElem h]; rfl
  have hsp : r.Funcs = r.Funcs.take i ++ ((r.Funcs.getD i default) :: r.Funcs.drop (i + 1)) := by rw [hget, ← List.drop_eq_getElem_cons h, List.take_append_drop]
  have hjh : Ru.jhead [] r.Funcs = (Ru.isNm (r.Funcs.getD i default).Name && !Ru.kw (r.Funcs.getD i default).Name && !((r.Funcs.take i).map (·.Name)).contains (r.Funcs.getD i default).Name && (decide ((r.Funcs.getD i default).Result = 0) || decide ((r.Funcs.getD i default).Result = 1)) && (r.Funcs.getD i default).Params.all (fun t => decide (t = 0) || decide (t = 1)) && Ru.jhead (((r.Funcs.take i).map (·.Name)) ++ [(r.Funcs.getD i default).Name]) (r.Funcs.drop (i + 1))) := by
   rw [show Ru.jhead [] r.Funcs = Ru.jhead [] (r.Funcs.take i ++ ((r.Funcs.getD i default) :: r.Funcs.drop (i + 1))) from by rw [← hsp], Ru.jhead_cut, hhd, Bool.true_and, List.nil_append, Ru.jhead]
  have htk : Ru.jhead [] (r.Funcs.take (i + 1)) = (Ru.isNm (r.Funcs.getD i default).Name && !Ru.kw (r.Funcs.getD i default).Name && !((r.Funcs.take i).map (·.Name)).contains (r.Funcs.getD i default).Name && (decide ((r.Funcs.getD i default).Result = 0) || decide ((r.Funcs.getD i default).Result = 1)) && (r.Funcs.getD i default).Params.all (fun t => decide (t = 0) || decide (t = 1))) := by
   rw [Ru.take_snoc h, Ru.jhead_cut, hhd, Bool.true_and, List.nil_append, ← hget, Ru.jhead, Ru.jhead, Bool.and_true]
  repeat refine gs1 ?_
  refine RW.alc rfl fun b8 => ?_
  repeat refine gs1 ?_
  refine RW.q rfl (q_call (args := #[.string (bs (r.Funcs.getD i default).Name)]) oK rfl rfl (fun w1 hw1 => isName_c w1 (hp w1) (Hp.le_refl _) hnl)) ?_
  repeat refine gs1 ?_
  refine RW.g (b := (!Ru.isNm (r.Funcs.getD i default).Name)) (v := .bool (Ru.kw (r.Funcs.getD i default).Name)) rfl rfl rfl (fun h => q_call (args := #[.string (bs (r.Funcs.getD i default).Name)]) oK rfl (args1 (gv_pos h)) (fun w1 hw1 => keyword_c w1)) (RW.q (v := .bool ((!Ru.isNm (r.Funcs.getD i default).Name) || Ru.kw (r.Funcs.getD i default).Name)) rfl (qpO rfl rfl rfl) ?_)
  repeat refine gs1 ?_
  refine RW.g (b := ((!Ru.isNm (r.Funcs.getD i default).Name) || Ru.kw (r.Funcs.getD i default).Name)) (v := .bool (((r.Funcs.take i).map (·.Name)).contains (r.Funcs.getD i default).Name)) rfl rfl rfl (fun h => by rw [← Ru.seenM_get]; exact q_kLook1 (L := kStr) (ew := Value.bool) (d := false) (k := (r.Funcs.getD i default).Name) 1 rfl (gv_pos h) (gv_pos h) hnl uT116 zero4) (RW.q (v := .bool (((!Ru.isNm (r.Funcs.getD i default).Name) || Ru.kw (r.Funcs.getD i default).Name) || ((r.Funcs.take i).map (·.Name)).contains (r.Funcs.getD i default).Name)) rfl (qpO rfl rfl rfl) ?_)
  repeat refine gs1 ?_
  refine RW.g (b := (((!Ru.isNm (r.Funcs.getD i default).Name) || Ru.kw (r.Funcs.getD i default).Name) || ((r.Funcs.take i).map (·.Name)).contains (r.Funcs.getD i default).Name)) (v := .bool (decide ((r.Funcs.getD i default).Result = 0) || decide ((r.Funcs.getD i default).Result = 1))) rfl rfl rfl (fun h => q_call (args := #[iV (r.Funcs.getD i default).Result]) oK rfl (args1 (gv_pos h)) (fun w1 hw1 => isType_c w1 (hp w1) (Hp.le_refl _))) ?_
  repeat refine gs1 ?_
  refine RW.q (v := .bool ((((!Ru.isNm (r.Funcs.getD i default).Name) || Ru.kw (r.Funcs.getD i default).Name) || ((r.Funcs.take i).map (·.Name)).contains (r.Funcs.getD i default).Name) || !(decide ((r.Funcs.getD i default).Result = 0) || decide ((r.Funcs.getD i default).Result = 1)))) rfl (qpO rfl rfl rfl) ?_
  repeat refine gs1 ?_
  refine AW.cond rfl (fun c => ?_) fun c => ?_
  ·
   have hz : Ru.rightR e r = false := by unfold Ru.rightR; rw [hjh, jb1 _ _ _ _ _ _ c]; rfl
   repeat refine gs1 ?_
   exact fin_res (vs := [.bool false]) rfl rfl ⟨.tmp rfl, trivial⟩ rfl (fun w' hw => ⟨by rw [hz]; rfl, hw.below rfl⟩)
  repeat refine gs1 ?_
  refine RW.effn (e_kPut (L := kStr) (ew := Value.bool) (k := (r.Funcs.getD i default).Name) (v := true) 1 rfl rfl rfl rfl hnl uT116 rfl) ?_
  repeat refine gs1 ?_
  refine RW.q rfl (q_call (args := #[.slice qA (r.Funcs.getD i default).Params.length qc, .func (.func 49) #[] #[]]) oK rfl rfl (fun w1 hw1 => contF_c w1 hw1.phi hqv)) ?_
  repeat refine gs1 ?_
  have hany : ((r.Funcs.getD i default).Params.any fun a => !(decide (a = 0) || decide (a = 1))) = !((r.Funcs.getD i default).Params.all fun t => decide (t = 0) || decide (t = 1)) := by rw [List.not_all_eq_any_not]
  rw [hany]
  refine AW.cond rfl (fun c2 => ?_) fun c2 => ?_
  ·
   have c2 : ((r.Funcs.getD i default).Params.all fun t => decide (t = 0) || decide (t = 1)) = false := by simpa using c2
   have hz : Ru.rightR e r = false := by unfold Ru.rightR; rw [hjh, c2]; simp
   repeat refine gs1 ?_
   exact fin_res (vs := [.bool false]) rfl rfl ⟨.tmp rfl, trivial⟩ rfl (fun w' hw => ⟨by rw [hz]; rfl, hw.below rfl⟩)
  have c2 : ((r.Funcs.getD i default).Params.all fun t => decide (t = 0) || decide (t = 1)) = true := by simpa using c2
  have hz : Ru.jhead [] (r.Funcs.take (i + 1)) = true := by rw [htk, c2]; exact jb2 _ _ _ _ c
  repeat refine gs1 ?_
  exact Post.back (s' := _) (J' := _) (m' := _) (by omega) ⟨i + 1, rfl, rfl, rfl, by omega, hz⟩ ⟨rfl, rfl, rfl, rfl, rfl, rfl, rfl, trivial⟩ (fun _ h => by rw [Ru.take_snoc (by omega), List.map_append, ← hget, List.map_cons, List.map_nil, ← Ru.seenM_put]; exact StP.sel h [1, 2] (by decide) rfl)
 have h : i = r.Funcs.length := by have := odF h; omega
 subst h
 rw [List.take_length] at hhd ⊢
 repeat refine gs1 ?_
 refine AW.loop (fun s J q => ∃ i : Nat, s = [(3, pB b3), (5, pB b5), (73, .slice fA r.Funcs.length fc), (74, iV (r.Funcs.length : Int)), (75, iV (i : Int))] ∧ J = St ⟨w, hp w, []⟩ Φ6 [.blk b5 115 (jC (.slice fA r.Funcs.length fc) m1 m2 m3 m4)] ∧ q = r.Funcs.length - i ∧ i ≤ r.Funcs.length ∧ (r.Funcs.take i).all (fun f => Ru.jhas e r.Funcs f.Params f.Body f.Result) = true) (s0 := [(3, pB b3), (5, pB b5), (73, .slice fA r.Funcs.length fc), (74, iV (r.Funcs.length : Int)), (75, iV ((0 : Nat) : Int))]) (J1 := _) (m0 := _) ⟨0, rfl, rfl, rfl, Nat.zero_le _, rfl⟩ ⟨rfl, rfl, rfl, rfl, rfl, trivial⟩ (fun _ h => StP.sel h [1] (by decide) rfl) ?_
 rintro _ _ _ _ ⟨i, rfl, rfl, rfl, hi, hbd⟩
 repeat refine gs1 ?_
 refine AW.cond rfl (fun h => ?_) fun h => ?_
 ·
  have h : i < r.Funcs.length := by have := odT h; omega
  obtain ⟨qv, Ab, cb, hpb, hqv, hbk, hwb, hnl, hres⟩ := funW hf6 h
  obtain ⟨qA, qc, rfl, _⟩ := hqv.sl
  have hget : r.Funcs.getD i default = r.Funcs[i] := by rw [gDD, List.getElem?_eq_getElem h]; rfl
  repeat refine gs1 ?_
  refine RW.alc rfl fun b10 => ?_
  repeat refine gs1 ?_
  refine RW.q (v := .agg (exC (r.Funcs.getD i default).Body (.slice Ab (r.Funcs.getD i default).Body.Kids.length cb)).toArray) rfl (qa_ldA (cs := (exC (r.Funcs.getD i default).Body (.slice Ab (r.Funcs.getD i default).Body.Kids.length cb))) rfl (Cells.blkP 0 rfl (fun j u hj => by rw [Nat.add_comm]; exact hj)) rfl) ?_
  repeat refine gs1 ?_
  refine RW.q rfl (q_call (args := #[.agg (jC (.slice fA r.Funcs.length fc) m1 m2 m3 m4).toArray, .agg (exC (r.Funcs.getD i default).Body (.slice Ab (r.Funcs.getD i default).Body.Kids.length cb)).toArray, .slice qA (r.Funcs.getD i default).Params.length qc, iV (r.Funcs.getD i default).Result]) oK rfl rfl (fun w1 hw1 => jhas_c w1 hw1.phi hJ hwb hbk hqv)) ?_
  repeat refine gs1 ?_
  refine AW.cond rfl (fun c => ?_) fun c => ?_
  ·
   have c : Ru.jhas e r.Funcs (r.Funcs.getD i default).Params (r.Funcs.getD i default).Body (r.Funcs.getD i default).Result = false := by simpa using c
   have hz : Ru.rightR e r = false := by unfold Ru.rightR; rw [show r.Funcs.all (fun f => Ru.jhas e r.Funcs f.Params f.Body f.Result) = false from List.all_eq_false.2 ⟨(r.Funcs.getD i default), by rw [hget]; exact List.getElem_mem h, by rw [c]; simp⟩]; simp
   repeat refine gs1 ?_
   exact fin_res (vs := [.bool false]) rfl rfl ⟨.tmp rfl, trivial⟩ rfl (fun w' hw => ⟨by rw [hz]; rfl, hw.below rfl⟩)
  have c : Ru.jhas e r.Funcs (r.Funcs.getD i default).Params (r.Funcs.getD i default).Body (r.Funcs.getD i default).Result = true := by simpa using c
  repeat refine gs1 ?_
  exact Post.back (s' := _) (J' := _) (m' := _) (by omega) ⟨i + 1, rfl, rfl, rfl, by omega, by rw [Ru.take_snoc h, List.all_append, hbd, ← hget, List.all_cons, List.all_nil, c]; rfl⟩ ⟨rfl, rfl, rfl, rfl, rfl, trivial⟩ (fun _ h => StP.sel h [1] (by decide) rfl)
 have h : i = r.Funcs.length := by have := odF h; omega
 subst h
 rw [List.take_length] at hbd
 repeat refine gs1 ?_
 refine AW.loop (fun s J q => ∃ i : Nat, s = [(5, pB b5), (90, .slice cA r.Clauses.length cc), (91, iV (r.Clauses.length : Int)), (92, iV (i : Int))] ∧ J = St ⟨w, hp w, []⟩ Φ6 [.blk b5 115 (jC (.slice fA r.Funcs.length fc) m1 m2 m3 m4)] ∧ q = r.Clauses.length - i ∧ i ≤ r.Clauses.length ∧ (r.Clauses.take i).all (Ru.jcl e r.Funcs) = true) (s0 := [(5, pB b5), (90, .slice cA r.Clauses.length cc), (91, iV (r.Clauses.length : Int)), (92, iV ((0 : Nat) : Int))]) (J1 := _) (m0 := _) ⟨0, rfl, rfl, rfl, Nat.zero_le _, rfl⟩ ⟨rfl, rfl, rfl, rfl, trivial⟩ (fun _ h => h) ?_
 rintro _ _ _ _ ⟨i, rfl, rfl, rfl, hi, hcd⟩
 repeat refine gs1 ?_
 refine AW.cond rfl (fun h => ?_) fun h => ?_
 ·
  have h : i < r.Clauses.length := by have := odT h; omega
  obtain ⟨Aa, ca, Ab, cb, hpb, hki, hkt, hwi, hwt, hlk⟩ := clV hc6 h
  have hget : r.Clauses.getD i default = r.Clauses[i] := by rw [gDD, List.getElem?_eq_getElem h]; rfl
  repeat refine gs1 ?_
  refine RW.alc rfl fun b12 => ?_
  repeat refine gs1 ?_
  refine RW.q rfl (q_den hJ.l rfl rfl hlk) ?_
  repeat refine gs1 ?_
  refine RW.g (b := (!Ru.den e.links (r.Clauses.getD i default).Link)) (v := .agg (exC (r.Clauses.getD i default).If (.slice Aa (r.Clauses.getD i default).If.Kids.length ca)).toArray) rfl rfl rfl (fun h => qa_ldA (cs := (exC (r.Clauses.getD i default).If (.slice Aa (r.Clauses.getD i default).If.Kids.length ca))) (gv_pos h) (Cells.blkP 0 rfl (fun j u hj => by rw [Nat.zero_add]; exact (List.getElem?_append_left (List.getElem?_eq_some_iff.1 hj).1).trans hj)) rfl) ?_
  refine RW.g (b := (!Ru.den e.links (r.Clauses.getD i default).Link)) (v := .bool (Ru.jhas e r.Funcs [] (r.Clauses.getD i default).If 1)) rfl rfl rfl (fun h => q_call (args := #[.agg (jC (.slice fA r.Funcs.length fc) m1 m2 m3 m4).toArray, .agg (exC (r.Clauses.getD i default).If (.slice Aa (r.Clauses.getD i default).If.Kids.length ca)).toArray, .slice none 0 0, iV 1]) oK rfl (a4 (gv_pos h) (gv_pos h) rfl rfl) (fun w1 hw1 => jhas_c w1 hw1.phi hJ hwi hki repSl_nil)) ?_
  repeat refine gs1 ?_
  refine RW.q (v := .bool ((!Ru.den e.links (r.Clauses.getD i default).Link) || !Ru.jhas e r.Funcs [] (r.Clauses.getD i default).If 1)) rfl (qpO rfl rfl rfl) ?_
  repeat refine gs1 ?_
  refine RW.g (b := ((!Ru.den e.links (r.Clauses.getD i default).Link) || !Ru.jhas e r.Funcs [] (r.Clauses.getD i default).If 1)) (v := .agg (exC (r.Clauses.getD i default).To (.slice Ab (r.Clauses.getD i default).To.Kids.length cb)).toArray) rfl rfl rfl (fun h => qa_ldA (cs := (exC (r.Clauses.getD i default).To (.slice Ab (r.Clauses.getD i default).To.Kids.length cb))) (gv_pos h) (Cells.blkP 0 rfl (fun j u hj => by rw [Nat.add_comm]; exact hj)) rfl) (RW.g (b := ((!Ru.den e.links (r.Clauses.getD i default).Link) || !Ru.jhas e r.Funcs [] (r.Clauses.getD i default).If 1)) (v := .bool (Ru.jhas e r.Funcs [] (r.Clauses.getD i default).To 0)) rfl rfl rfl (fun h => q_call (args := #[.agg (jC (.slice fA r.Funcs.length fc) m1 m2 m3 m4).toArray, .agg (exC (r.Clauses.getD i default).To (.slice Ab (r.Clauses.getD i default).To.Kids.length cb)).toArray, .slice none 0 0, iV 0]) oK rfl (a4 (gv_pos h) (gv_pos h) rfl rfl) (fun w1 hw1 => jhas_c w1 hw1.phi hJ hwt hkt repSl_nil)) ?_)
  repeat refine gs1 ?_
  refine RW.q (v := .bool (((!Ru.den e.links (r.Clauses.getD i default).Link) || !Ru.jhas e r.Funcs [] (r.Clauses.getD i default).If 1) || !Ru.jhas e r.Funcs [] (r.Clauses.getD i default).To 0)) rfl (qpO rfl rfl rfl) ?_
  repeat refine gs1 ?_
  refine AW.cond rfl (fun c => ?_) fun c => ?_
  ·
   have c : Ru.jcl e r.Funcs (r.Clauses.getD i default) = false := by unfold Ru.jcl; revert c; generalize Ru.den e.links (r.Clauses.getD i default).Link = a1; generalize Ru.jhas e r.Funcs [] (r.Clauses.getD i default).If 1 = a2; generalize Ru.jhas e r.Funcs [] (r.Clauses.getD i default).To 0 = a3; cases a1 <;> cases a2 <;> cases a3 <;> simp
   have hz : Ru.rightR e r = false := by unfold Ru.rightR; rw [show r.Clauses.all (Ru.jcl e r.Funcs) = false from List.all_eq_false.2 ⟨(r.Clauses.getD i default), by rw [hget]; exact List.getElem_mem h, by rw [c]; simp⟩]; simp
   repeat refine gs1 ?_
   exact fin_res (vs := [.bool false]) rfl rfl ⟨.tmp rfl, trivial⟩ rfl (fun w' hw => ⟨by rw [hz]; rfl, hw.below rfl⟩)
  have c : Ru.jcl e r.Funcs (r.Clauses.getD i default) = true := by unfold Ru.jcl; revert c; generalize Ru.den e.links (r.Clauses.getD i default).Link = a1; generalize Ru.jhas e r.Funcs [] (r.Clauses.getD i default).If 1 = a2; generalize Ru.jhas e r.Funcs [] (r.Clauses.getD i default).To 0 = a3; cases a1 <;> cases a2 <;> cases a3 <;> simp
  repeat refine gs1 ?_
  exact Post.back (s' := _) (J' := _) (m' := _) (by omega) ⟨i + 1, rfl, rfl, rfl, by omega, by rw [Ru.take_snoc h, List.all_append, hcd, ← hget, List.all_cons, List.all_nil, c]; rfl⟩ ⟨rfl, rfl, rfl, rfl, trivial⟩ (fun _ h => StP.sel h [1] (by decide) rfl)
 have h : i = r.Clauses.length := by have := odF h; omega
 subst h
 rw [List.take_length] at hcd
 repeat refine gs1 ?_
 exact fin_res (vs := [.bool true]) rfl rfl ⟨.tmp rfl, trivial⟩ rfl (fun w' hw => ⟨by unfold Ru.rightR; rw [hhd, hbd, hcd]; rfl, hw.below rfl⟩)
end Go.Proofs.YtjmeeofdffdpnaaGreatDoor
namespace Mn
def mlL (b : Bool) (k : Nat) : Int := if k = 1 ∧ b = false then 28 else months.getD k 0
def rmL (b : Bool) (k : Nat) : Int := ([366, 335, 306, 275, 245, 214, 184, 153, 122, 92, 61, 31, 0].getD k 0 : Int) - (if b = false ∧ k ≤ 1 then 1 else 0)
theorem rm_step : ∀ (b : Bool) (k : Fin 12), rmL b k = mlL b k + rmL b (k + 1) ∧ 28 ≤ mlL b k ∧ mlL b k ≤ 31 := by decide
theorem mlen_nat (y : Int) (k : Nat) : mlen y ((k : Int) + 1) = mlL (leap y) k := by
 unfold mlen mlL
 have e : ((k : Int) + 1 - 1).toNat = k := by omega
 rw [e]
 by_cases h : k = 1
 ·
  subst h; have : ((1 : Nat) : Int) + 1 = 2 := rfl
  simp
 ·
  rw [if_neg (fun hh => h (by have := hh.1; omega)), if_neg (fun hh => h hh.1)]
theorem yearF_stop {f : Nat} {d y : Int} (h : ¬ bef (y + 1) ≤ d) : yearF f d y = y := by
 cases f with
 | zero => rfl
 | succ f => rw [yearF, if_neg h]
theorem monF_stop {f : Nat} {y d m : Int} (h : ¬ mlen y m ≤ d) : monF f y d m = (d, m) := by
 cases f with
 | zero => rfl
 | succ f => rw [monF, if_neg h]
end Mn
namespace Go.Proofs.YtjmeeofdffdpnaaGreatDoor
open Go Go.K Go.RowKit
attribute [local irreducible] AW RW DW Post Qt
theorem before_c (w : World) {q : Nat} (hq : q ≤ 100000) : Calls pg 73 #[iV ((2000 + q : Nat) : Int)] w fun e w' => e = .returned (iV (Mn.bef ((2000 + q : Nat) : Int))) ∧ Bel w.heap.size w w' := by
 refine calls_of_AW (args := [iV ((2000 + q : Nat) : Int)]) Tryz.func73 rfl (lBT rfl) (St ⟨w, hp w, []⟩ (hp w) []) (StP.init w (hp w) (Hp.le_refl _) []) ?_
 show AW _ _ [] _ _ _ [(0, iV ((2000 + q : Nat) : Int))] _
 repeat refine gs1 ?_
 refine RW.q (v := iV ((365 * q : Nat) : Int)) rfl (q_mul rfl rfl (by omega) (by unfold I64; omega)) ?_
 repeat refine gs1 ?_
 refine RW.q (v := iV (((q + 3) / 4 : Nat) : Int)) rfl (q_quo rfl rfl (by decide) (by rw [Int.tdiv_eq_ediv_of_nonneg (by omega)]; omega) (by unfold I64; omega)) ?_
 repeat refine gs1 ?_
 refine RW.q (v := iV (((q + 99) / 100 : Nat) : Int)) rfl (q_quo rfl rfl (by decide) (by rw [Int.tdiv_eq_ediv_of_nonneg (by omega)]; omega) (by unfold I64; omega)) ?_
 repeat refine gs1 ?_
 refine RW.q (v := iV (((q + 399) / 400 : Nat) : Int)) rfl (q_quo rfl rfl (by decide) (by rw [Int.tdiv_eq_ediv_of_nonneg (by omega)]; omega) (by unfold I64; omega)) (RW.q (v := iV (Mn.bef ((2000 + q : Nat) : Int))) rfl (q_add rfl rfl (by unfold Mn.bef; omega) (by unfold Mn.bef I64; omega)) ?_)
 repeat refine gs1 ?_
 exact fin_res (vs := [iV (Mn.bef ((2000 + q : Nat) : Int))]) rfl rfl ⟨.tmp rfl, trivial⟩ rfl (fun w' hw => ⟨rfl, hw.below rfl⟩)
theorem mon_cell {B : Bs} {Φ : Hp} {C : List Chunk} (h : Knows Φ Glob) {k : Nat} (hk : k < 12) : Cell (St B Φ C) ⟨0, k, none⟩ (iV (Mn.months.getD k 0)) := fun w hw => by
 refine (h w hw.phi).2.2 _ _ ?_
 match k, hk with
 | 0, _ | 1, _ | 2, _ | 3, _ | 4, _ | 5, _ | 6, _ | 7, _ | 8, _ | 9, _ | 10, _ | 11, _ => rfl
theorem length_c (w : World) {Φ : Hp} (hΦ : Hp.le Φ (hp w)) (hG : Knows Φ Glob) {y k : Nat} (hk : k < 12) : Calls pg 74 #[iV (y : Int), iV ((k + 1 : Nat) : Int)] w fun e w' => e = .returned (iV (Mn.mlL (Mn.leap (y : Int)) k)) ∧ Bel w.heap.size w w' := by
 refine calls_of_AW (args := [iV (y : Int), iV ((k + 1 : Nat) : Int)]) Tryz.func74 rfl (lBT rfl) (St ⟨w, Φ, []⟩ Φ []) (StP.init w Φ hΦ []) ?_
 show AW _ _ [] _ _ _ [(0, iV (y : Int)), (1, iV ((k + 1 : Nat) : Int))] _
 repeat refine gs1 ?_
 refine RW.g (b := decide (((k + 1 : Nat) : Int) = 2)) (v := .bool (Mn.leap (y : Int))) rfl rfl rfl (fun h => q_call (args := #[iV (y : Int)]) oK rfl (args1 (gv_pos h)) (fun w1 hw1 => leap_c w1 (hp w1) (Hp.le_refl _))) ?_
 repeat refine gs1 ?_
 refine RW.q (v := .bool (decide (((k + 1 : Nat) : Int) = 2) && !Mn.leap (y : Int))) rfl (qpA rfl rfl rfl) ?_
 repeat refine gs1 ?_
 refine AW.cond rfl (fun h => ?_) fun h => ?_
 ·
  have h : k = 1 ∧ Mn.leap (y : Int) = false := by simp only [Bool.and_eq_true, decide_eq_true_eq, Bool.not_eq_true'] at h; exact ⟨by omega, h.2⟩
  repeat refine gs1 ?_
  exact fin_res (vs := [iV 28]) rfl rfl ⟨.tmp rfl, trivial⟩ rfl (fun w' hw => ⟨by unfold Mn.mlL; rw [if_pos h]; rfl, hw.below rfl⟩)
 ·
  have h : ¬ (k = 1 ∧ Mn.leap (y : Int) = false) := fun hh => by rw [hh.1, hh.2] at h; simp at h
  repeat refine gs1 ?_
  refine RW.q (v := .pointer (some ⟨0, k, none⟩)) rfl (q_indexAddrA (p := ⟨0, 0, none⟩) (i := ((k + 1 : Nat) : Int) - 1) (sz := 1) rfl rfl uT207 (by kernel_rfl) (by omega) (by omega) (by rw [show ((k + 1 : Nat) : Int) - 1 = k by omega, Int.toNat_natCast]; simp only [Addr.add]; split <;> simp_all)) (RW.q rfl (qa_ld rfl (mon_cell hG hk)) ?_)
  repeat refine gs1 ?_
  exact fin_res (vs := [iV (Mn.months.getD k 0)]) rfl rfl ⟨.tmp rfl, trivial⟩ rfl (fun w' hw => ⟨by unfold Mn.mlL; rw [if_neg h]; rfl, hw.below rfl⟩)
instance agDt : AG pg 88 4 := ⟨_, uT88, rfl, by kernel_rfl⟩
abbrev dtC (d : Int × Int × Int × Int) : List Value := [iV d.1, iV d.2.1, iV d.2.2.1, iV d.2.2.2]
theorem dateOf_c (w : World) {Φ : Hp} (hΦ : Hp.le Φ (hp w)) (hG : Knows Φ Glob) {h : Int} (hh : I64 h) : Calls pg 34 #[iV h] w fun e w' => e = .returned (.tuple #[.agg (dtC (Mn.dateOf h).1).toArray, .bool (Mn.dateOf h).2]) ∧ Bel w.heap.size w w' := by
 refine calls_of_AW (args := [iV h]) Tryz.func34 rfl (lBT rfl) (St ⟨w, Φ, []⟩ Φ []) (StP.init w Φ hΦ []) ?_
 show AW _ _ [] _ _ _ [(0, iV h)] _
 unfold I64 at hh
 repeat refine gs1 ?_
 refine RW.alc rfl fun b2 => ?_
 repeat refine gs1 ?_
 refine RW.q (v := .bool (decide (h < 0) || decide (16777216 < h))) rfl (qpO rfl rfl rfl) ?_
 repeat refine gs1 ?_
 refine AW.cond rfl (fun h1 => ?_) fun h1 => ?_
 ·
  have h1 : h < 0 ∨ 16777216 < h := by simpa using h1
  repeat refine gs1 ?_
  refine RW.q (v := .agg (dtC (0, 0, 0, 0)).toArray) rfl (q_build (vals := []) zero88 uT88 places88 rfl rfl) ?_
  repeat refine gs1 ?_
  exact fin_res (vs := [.agg (dtC (0, 0, 0, 0)).toArray, .bool false]) rfl rfl ⟨.agg rfl rfl (Cells.blk 0 rfl), .tmp rfl, trivial⟩ rfl (fun w' hw => ⟨by unfold Mn.dateOf; rw [if_pos h1]; rfl, hw.below rfl⟩)
 have h1 : ¬ (h < 0 ∨ 16777216 < h) := by simpa using h1
 have hdt : Mn.dateOf h = (((Mn.ymd h).1, (Mn.ymd h).2.1, (Mn.ymd h).2.2, h % 24), true) := by unfold Mn.dateOf; rw [if_neg h1]
 obtain ⟨n, rfl⟩ : ∃ n : Nat, h = n := ⟨h.toNat, by omega⟩
 obtain ⟨d, hd⟩ : ∃ d : Nat, d = n / 24 := ⟨_, rfl⟩
 have hd2 : ((n : Int) / 24) = (d : Int) := by omega
 have hdm : d ≤ 699050 := by omega
 repeat refine gs1 ?_
 refine RW.q (v := iV (d : Int)) rfl (q_quo rfl rfl (by decide) (by rw [Int.tdiv_eq_ediv_of_nonneg (by omega)]; exact hd2) (by unfold I64; omega)) ?_
 repeat refine gs1 ?_
 refine RW.q (v := iV ((d / 366 : Nat) : Int)) rfl (q_quo rfl rfl (by decide) (by rw [Int.tdiv_eq_ediv_of_nonneg (by omega)]; omega) (by unfold I64; omega)) (RW.q (v := iV ((2000 + d / 366 : Nat) : Int)) rfl (q_add rfl rfl (by omega) (by unfold I64; omega)) ?_)
 repeat refine gs1 ?_
 have hb0 : Mn.bef ((2000 + d / 366 : Nat) : Int) ≤ d := by have := (Mn.bef_ge (y := ((2000 + d / 366 : Nat) : Int)) (by omega)).2; omega
 refine AW.loop (fun s J g => ∃ q : Nat, s = [(0, iV (n : Int)), (2, Ru.pB b2), (4, iV (d : Int)), (5, iV ((2000 + q : Nat) : Int))] ∧ J = St ⟨w, Φ, []⟩ Φ [.blk b2 88 (dtC (0, 0, 0, 0))] ∧ g = 2000 - q ∧ d / 366 ≤ q ∧ q ≤ 1950 ∧ Mn.bef ((2000 + q : Nat) : Int) ≤ d ∧ Mn.yearF (2000 + d / 366 - q) d ((2000 + q : Nat) : Int) = Mn.yearF 2000 d ((2000 + d / 366 : Nat) : Int)) (s0 := _) (J1 := _) (m0 := _) ⟨d / 366, rfl, rfl, rfl, Nat.le_refl _, by omega, hb0, by rw [Nat.add_sub_cancel]⟩ ⟨rfl, rfl, rfl, rfl, trivial⟩ (fun _ h => h) ?_
 rintro _ _ _ _ ⟨q, rfl, rfl, rfl, hkq, hk, hbk, hyk⟩
 repeat refine gs1 ?_
 refine RW.q rfl (q_call (args := #[iV ((2000 + (q + 1) : Nat) : Int)]) oK rfl rfl (fun w1 hw1 => before_c w1 (by omega))) ?_
 repeat refine gs1 ?_
 refine AW.cond rfl (fun h2 => ?_) fun h2 => ?_
 ·
  have h2 : Mn.bef ((2000 + (q + 1) : Nat) : Int) ≤ d := odT h2
  have h3 := (Mn.bef_ge (y := ((2000 + (q + 1) : Nat) : Int)) (by omega)).1
  repeat refine gs1 ?_
  refine Post.back (s' := _) (J' := _) (m' := _) (by omega) ⟨q + 1, rfl, rfl, rfl, by omega, by omega, h2, ?_⟩ ⟨rfl, rfl, rfl, rfl, trivial⟩ (fun _ h => h)
  have h4 : 2000 + d / 366 - q = (2000 + d / 366 - (q + 1)) + 1 := by omega
  have h5 : ((2000 + q : Nat) : Int) + 1 = ((2000 + (q + 1) : Nat) : Int) := by omega
  rw [h4, Mn.yearF, h5, if_pos h2] at hyk
  exact hyk
 have h2 : ¬ Mn.bef ((2000 + (q + 1) : Nat) : Int) ≤ d := odF h2
 have h5 : ((2000 + q : Nat) : Int) + 1 = ((2000 + (q + 1) : Nat) : Int) := by omega
 rw [Mn.yearF_stop (by rw [h5]; exact h2)] at hyk
 have hnx := Mn.bef_next ((2000 + q : Nat) : Int) (by omega)
 rw [h5] at hnx
 obtain ⟨bl, hbl⟩ : ∃ bl, bl = Mn.leap ((2000 + q : Nat) : Int) := ⟨_, rfl⟩
 rw [← hbl] at hnx
 obtain ⟨dd, hdd⟩ : ∃ dd : Nat, (dd : Int) = (d : Int) - Mn.bef ((2000 + q : Nat) : Int) := ⟨((d : Int) - Mn.bef ((2000 + q : Nat) : Int)).toNat, by omega⟩
 have hr0 : Mn.rmL bl 0 ≤ 366 := by cases bl <;> decide
 have hd0 : (dd : Int) < Mn.rmL bl 0 := by
  cases bl
  ·
   rw [if_neg (by simp)] at hnx; show _ < (366 : Int) - 1; omega
  ·
   rw [if_pos rfl] at hnx; show _ < (366 : Int) - 0; omega
 repeat refine gs1 ?_
 refine RW.q rfl (q_call (args := #[iV ((2000 + q : Nat) : Int)]) oK rfl rfl (fun w1 hw1 => before_c w1 (by omega))) (RW.q (v := iV (dd : Int)) rfl (q_sub rfl rfl hdd.symm (by unfold I64; omega)) ?_)
 repeat refine gs1 ?_
 refine AW.loop (fun s J g => ∃ (k : Nat) (e : Nat), s = [(0, iV (n : Int)), (2, Ru.pB b2), (4, iV (e : Int)), (5, iV ((2000 + q : Nat) : Int)), (6, iV ((k + 1 : Nat) : Int))] ∧ J = St ⟨w, Φ, []⟩ Φ [.blk b2 88 (dtC (0, 0, 0, 0))] ∧ g = 12 - k ∧ k < 12 ∧ e ≤ 1000 ∧ (e : Int) < Mn.rmL bl k ∧ Mn.monF (12 - k) ((2000 + q : Nat) : Int) e ((k : Int) + 1) = Mn.monF 12 ((2000 + q : Nat) : Int) dd 1) (s0 := [(0, iV (n : Int)), (2, Ru.pB b2), (4, iV (dd : Int)), (5, iV ((2000 + q : Nat) : Int)), (6, iV ((0 + 1 : Nat) : Int))]) (J1 := _) (m0 := _) ⟨0, dd, rfl, rfl, rfl, by omega, by omega, hd0, rfl⟩ ⟨rfl, rfl, rfl, rfl, rfl, trivial⟩ (fun _ h => h) ?_
 rintro _ _ _ _ ⟨k, e, rfl, rfl, rfl, hk, he0, he, hme⟩
 obtain ⟨hr1, hr2, hr3⟩ := Mn.rm_step bl ⟨k, hk⟩
 simp only at hr1 hr2 hr3
 have hml := Mn.mlen_nat ((2000 + q : Nat) : Int) k
 rw [← hbl] at hml
 repeat refine gs1 ?_
 refine RW.q rfl (q_call (args := #[iV ((2000 + q : Nat) : Int), iV ((k + 1 : Nat) : Int)]) oK rfl rfl (fun w1 hw1 => length_c w1 (Φ := Φ) hw1.phi hG hk)) ?_
 repeat refine gs1 ?_
 rw [← hbl]
 refine AW.cond rfl (fun h3 => ?_) fun h3 => ?_
 ·
  have h3 : Mn.mlL bl k ≤ e := odT h3
  have hk11 : k < 11 := by
   rcases Nat.lt_or_ge k 11 with h | h
   ·
    exact h
   ·
    obtain rfl : k = 11 := by omega
    have : Mn.rmL bl (11 + 1) = 0 := by cases bl <;> rfl
    omega
  obtain ⟨e2, he2⟩ : ∃ e2 : Nat, (e2 : Int) = e - Mn.mlL bl k := ⟨((e : Int) - Mn.mlL bl k).toNat, by omega⟩
  repeat refine gs1 ?_
  refine RW.q rfl (q_call (args := #[iV ((2000 + q : Nat) : Int), iV ((k + 1 : Nat) : Int)]) oK rfl rfl (fun w1 hw1 => length_c w1 (Φ := Φ) hw1.phi hG hk)) ?_
  rw [← hbl]
  refine RW.q (v := iV (e2 : Int)) rfl (q_sub rfl rfl he2.symm (by unfold I64; omega)) ?_
  repeat refine gs1 ?_
  refine Post.back (s' := _) (J' := _) (m' := _) (by omega) ⟨k + 1, e2, rfl, rfl, rfl, by omega, by omega, by omega, ?_⟩ ⟨rfl, rfl, rfl, rfl, rfl, trivial⟩ (fun _ h => h)
  have h4 : 12 - k = (12 - (k + 1)) + 1 := by omega
  rw [h4, Mn.monF, hml, if_pos h3, ← he2] at hme
  exact hme
 have h3 : ¬ Mn.mlL bl k ≤ e := odF h3
 rw [Mn.monF_stop (by rw [hml]; exact h3)] at hme
 have hy : Mn.ymd (n : Int) = (((2000 + q : Nat) : Int), (k : Int) + 1, (e : Int) + 1) := by
  unfold Mn.ymd
  have e1 : (2000 : Int) + (n : Int) / 24 / 366 = ((2000 + d / 366 : Nat) : Int) := by omega
  simp only [hd2]
  rw [show (2000 : Int) + (d : Int) / 366 = ((2000 + d / 366 : Nat) : Int) by omega, ← hyk, ← hdd, ← hme]
 repeat refine gs1 ?_
 refine RW.q (v := iV ((n : Int) % 24)) rfl (q_rem rfl rfl (by decide) (by rw [Int.tmod_eq_emod_of_nonneg (by omega)])) (RW.q (v := .agg (dtC (((2000 + q : Nat) : Int), ((k + 1 : Nat) : Int), ((e + 1 : Nat) : Int), (n : Int) % 24)).toArray) rfl (q_build (vals := [(0, iV ((2000 + q : Nat) : Int)), (1, iV ((k + 1 : Nat) : Int)), (2, iV ((e + 1 : Nat) : Int)), (3, iV ((n : Int) % 24))]) zero88 uT88 places88 rfl rfl) ?_)
 repeat refine gs1 ?_
 exact fin_res (vs := [.agg (dtC (((2000 + q : Nat) : Int), ((k + 1 : Nat) : Int), ((e + 1 : Nat) : Int), (n : Int) % 24)).toArray, .bool true]) rfl rfl ⟨.agg rfl rfl (Cells.blk 0 rfl), .tmp rfl, trivial⟩ rfl (fun w' hw => ⟨by rw [hdt, hy]; rfl, hw.below rfl⟩)
open Ru (pB)
abbrev dfM (b7 x b6 : Nat) (y : RnV) (u c : Int) (oc : List Value) : List Chunk := [.blk b7 121 [pB x], rB x y u c, .blk b6 51 oc]
section
variable {b7 x b6 : Nat} {y : RnV} {u c : Int} {oc : List Value}
theorem mrcv_ret (w : World) (Φ : Hp) (h0 : StP ⟨w, Φ, own (dfM b7 x b6 y u c oc)⟩ Φ (dfM b7 x b6 y u c oc) w) :
  CallsD pg 51 #[pB b7, pB b6] .returning w fun e u' w' => (∃ v, e = .returned v) ∧ u' = .returning ∧ StP ⟨w, Φ, own (dfM b7 x b6 y u c oc)⟩ Φ (dfM b7 x b6 y u c oc) w' := by
 refine callsD_of_wpS Tryz.func51 rfl fun c₀ cs hu => ?_
 have hrel : Rel Tryz.f51.ntmps [] (fr (fun _ => undef) [(0, pB b7), (1, pB b6)]) { tmps := #[pB b7, pB b6] ++ Array.replicate (Tryz.f51.ntmps - (#[pB b7, pB b6] : Array Value).size) undef, defers := [] } := rel_init (args := [pB b7, pB b6]) (lBT rfl)
 refine wpS_seq (rec_region (v := .nilIface) (cs' := c₀ :: cs) (by simp [recv, recoverD, hu]) hrel rfl rfl fun a' ha' => wpS_of_wp ?_)
 refine AW.go (J := St ⟨w, Φ, own (dfM b7 x b6 y u c oc)⟩ Φ (dfM b7 x b6 y u c oc)) ?_ ha' h0
 repeat refine g1 ?_
 refine RW.q rfl (q_neqNil rfl) ?_
 repeat refine g1 ?_
 exact fin_S rfl rfl .returning (by rw [← hu]) (fun w' hw => ⟨⟨_, rfl⟩, rfl, hw⟩)
theorem mrcv_pan (w : World) (Φ : Hp) {k : Int} {v0 : Value} {n0 f0 : Int} (h0 : StP ⟨w, Φ, own (dfM b7 x b6 y u c [v0, iV n0, iV f0])⟩ Φ (dfM b7 x b6 y u c [v0, iV n0, iV f0]) w) :
  CallsD pg 51 #[pB b7, pB b6] (.panicking [⟨.iface 125 (.agg #[iV k]), false, false⟩]) w fun e u' w' => (∃ v, e = .returned v) ∧ settle u' = .returning ∧ StP ⟨w, Φ, own (dfM b7 x b6 y u c [v0, iV n0, iV f0])⟩ Φ (dfM b7 x b6 y u c [.slice none 0 0, iV u, iV k]) w' := by
 refine callsD_of_wpS Tryz.func51 rfl fun c₀ cs hu => ?_
 have hrel : Rel Tryz.f51.ntmps [] (fr (fun _ => undef) [(0, pB b7), (1, pB b6)]) { tmps := #[pB b7, pB b6] ++ Array.replicate (Tryz.f51.ntmps - (#[pB b7, pB b6] : Array Value).size) undef, defers := [] } := rel_init (args := [pB b7, pB b6]) (lBT rfl)
 refine wpS_seq (rec_region (v := .iface 125 (.agg #[iV k])) (cs' := { c₀ with mode := .panicking [⟨.iface 125 (.agg #[iV k]), true, false⟩] } :: cs) (by simp [recv, recoverD, hu]) hrel rfl rfl fun a' ha' => wpS_of_wp ?_)
 refine AW.go (J := St ⟨w, Φ, own (dfM b7 x b6 y u c [v0, iV n0, iV f0])⟩ Φ (dfM b7 x b6 y u c [v0, iV n0, iV f0])) ?_ ha' h0
 repeat refine g1 ?_
 refine RW.q rfl (q_neqIface rfl) ?_
 repeat refine g1 ?_
 refine RW.q rfl (q_assertT rfl) ?_
 repeat refine g1 ?_
 refine RW.alc rfl fun bx => ?_
 repeat refine g1 ?_
 refine AW.draw (J0 := St ⟨w, Φ, own (dfM b7 x b6 y u c [v0, iV n0, iV f0])⟩ Φ [.blk bx 125 [iV k], .blk b7 121 [pB x], rB x y u c, .blk b6 51 [v0, iV n0, iV f0]]) [.q, .q, .q, .q, .q, .q, .q, .e] [0, 1, 2, 3, 4, 5, 6, 7] hmix (by kernel_rfl) ?_
 repeat refine g1 ?_
 refine DW.q (v := .agg #[.slice none 0 0, iV u, iV k]) (fun _ h => h) rfl (q_build (vals := [(1, iV u), (2, iV k)]) zero51 uT51 places51 rfl rfl) (DW.effn (J' := St ⟨w, Φ, own (dfM b7 x b6 y u c [v0, iV n0, iV f0])⟩ Φ [.blk bx 125 [iV k], .blk b7 121 [pB x], rB x y u c, .blk b6 51 [.slice none 0 0, iV u, iV k]]) (fun h => absurd rfl h) (e_store (v := .agg [.slice none 0 0, iV u, iV k].toArray) 3 rfl rfl rfl sz51 rfl rfl rfl rfl rfl) ?_)
 repeat refine g1 ?_
 exact fin_S rfl rfl (.panicking [⟨.iface 125 (.agg #[iV k]), true, false⟩]) rfl (fun w' hw => ⟨⟨_, rfl⟩, rfl, hw.sel [1, 2, 3] (by decide) rfl⟩)
end
end Go.Proofs.YtjmeeofdffdpnaaGreatDoor
namespace Go.K
open Go Go.RowKit
section
variable {P : Program} {Pn : List PanicEntry → World → Prop} {N : Nat} {D : List Deferred} {ops : Array Oper} {Q : Exit → Act → World → Prop} {f : Nat → Value} {s : List (Nat × Value)} {J J0 : Cls}
theorem DW.tke {d j gd : Nat} {want : Bool} {op : Op} {ty : TypeId} {pos : String} {af : Array Edge} {tg : List Tg} {rest : List Oper}
  (hy : (ops[j]?).bind (·.dst) = some gd) (hb : fr f s gd = .bool want) (h : DW P Pn N D ops J0 Q (.e :: tg) (⟨some d, op, ty, pos, af, none⟩ :: rest) f s J) :
  DW P Pn N D ops J0 Q (.e :: tg) (⟨some d, op, ty, pos, af, some (j, want)⟩ :: rest) f s J := fun a ha => by
 have hyy := yielded_of (ops := ops) ha hy hb
 have hwant : Region.wanted ⟨some d, op, ty, pos, af, some (j, want)⟩ (yielded ops a.tmps) = true := by simp [Region.wanted, hyy]
 have h1 : opX P Pn ops _ _ a J := h a ha
 unfold opX at h1
 rw [if_pos (show Region.wanted ⟨some d, op, ty, pos, af, none⟩ (yielded ops a.tmps) = true from rfl)] at h1
 show opX P Pn ops _ _ a J
 unfold opX
 rw [if_pos hwant]
 exact h1
theorem DW.pairQN {d1 : Nat} {op1 op2 : Op} {ty1 ty2 : TypeId} {pos1 pos2 : String} {af1 af2 : Array Edge} {tg : List Tg} {rest : List Oper} {v : Value} {J' : Cls} (hd1 : Nat.blt d1 N = true) (hJ : ∀ w, J.p w → J0.p w) (hJ' : ∀ w, J'.p w → J0.p w)
  (hq : Qt P J0 f s ⟨some d1, op1, ty1, pos1, af1, none⟩ v) (he : ∀ w, J.p w → effX P Pn (fun _ w' => J'.p w') ((execOp (ev (fr f ((d1, v) :: s))) ⟨none, op2, ty2, pos2, af2, none⟩).run P w)) (he' : ∀ w, J.p w → effX P Pn (fun _ w' => J'.p w') ((execOp (ev (fr f s)) ⟨none, op2, ty2, pos2, af2, none⟩).run P w))
  (k : DW P Pn N D ops J0 Q tg rest f ((d1, v) :: s) J') : DW P Pn N D ops J0 Q (.p :: .q :: tg) (⟨some d1, op1, ty1, pos1, af1, none⟩ :: ⟨none, op2, ty2, pos2, af2, none⟩ :: rest) f s J := fun a ha => by
 have h1 : ∀ b : Act, Region.wanted ⟨some d1, op1, ty1, pos1, af1, none⟩ (yielded ops b.tmps) = true := fun _ => rfl
 have h2 : ∀ b : Act, Region.wanted ⟨none, op2, ty2, pos2, af2, none⟩ (yielded ops b.tmps) = true := fun _ => rfl
 have ha1 := ha.put hd1 v
 refine ⟨?_, ?_⟩
 ·
  unfold opX
  rw [if_pos (h1 a)]
  intro w hw
  rw [ha.eval]
  refine effX_mono (fun u w' hx => ?_) (effX_of_quietX (hq w (hJ w hw)))
  obtain ⟨rfl, hb⟩ := hx
  refine ⟨J, J.ext w w' hw hb, hJ, ?_⟩
  rw [if_pos (h2 _)]
  intro w2 hw2
  rw [ha1.eval]
  exact effX_mono (fun _ w'' hp => ⟨J', hp, hJ', k _ ha1⟩) (he w2 hw2)
 ·
  unfold opX
  rw [if_pos (h2 a)]
  intro w hw
  rw [ha.eval]
  refine effX_mono (fun u w' hp => ⟨J', hp, hJ', ?_⟩) (he' w hw)
  rw [if_pos (h1 _)]
  intro w2 hw2
  have ha' : Rel N D (fr f s) (a.put none u) := ha
  rw [ha'.eval]
  refine effX_mono (fun u2 w'' hx => ?_) (effX_of_quietX (hq w2 (hJ' w2 hw2)))
  obtain ⟨rfl, hb⟩ := hx
  exact ⟨J', J'.ext w2 w'' hw2 hb, hJ', k _ (ha'.put hd1 _)⟩
end
end Go.K
namespace Go.Proofs.YtjmeeofdffdpnaaGreatDoor
open Go Go.K Go.RowKit
open Ru (pB NmS BasV)
attribute [local irreducible] AW RW DW Post Qt
instance : Rep (Int × Int) where
 sz := 2
 bytes := 16
 rep := fun _ x cs => cs = [iV x.1, iV x.2] ∧ (I64 x.1 ∧ I64 x.2)
 len := fun h => by rw [h.1]; rfl
 mono := fun _ h => h
 one := fun h u hu => by
  rw [h.1] at hu
  simp only [List.mem_cons, List.not_mem_nil, or_false] at hu
  rcases hu with rfl | rfl <;> rfl
instance : RepE (Int × Int) where
 cells := fun x => [iV x.1, iV x.2]
 wf := fun x => I64 x.1 ∧ I64 x.2
 iff := Iff.rfl
theorem evenCmd : EvenE (Int × Int) := fun _ => rfl
abbrev orC (v : Value) (u k : Int) : List Value := [v, iV u, iV k]
abbrev fcC (y : FcV) (h : Int) : List Value := [y.vol, y.lev, y.own, y.pos, iV h, y.cre]
abbrev OrdR (w : World) (Φ : Hp) (o : Bt.Order) : Ending → World → Prop := RetS Φ w fun v Ψ => ∃ cv, v = .agg (orC cv o.Used o.Fault).toArray ∧ RepSl Ψ o.Cmds cv
def PosS (Φ : Hp) (v : Value) (ps : List Int) : Prop := ∀ i, i < ps.length → PCell Φ (Value.at v (i * 18 + 7)) (iV (ps.getD i 0))
theorem PosS.mono {Φ Ψ : Hp} {v : Value} {ps : List Int} (h : PosS Φ v ps) (hl : Hp.le Φ Ψ) : PosS Ψ v ps := fun i hi => (h i hi).mono hl
theorem atL_i {l : List Int} {i : Int} (h : ∀ x ∈ l, I64 x) : I64 (Mn.atL l i) := by
 unfold Mn.atL
 split
 ·
  exact I64.nat (n := 0) (by omega)
 ·
  by_cases hi : i.toNat < l.length
  ·
   rw [gDD, List.getElem?_eq_getElem hi]; exact h _ (List.getElem_mem hi)
  ·
   rw [gDD, List.getElem?_eq_none (by omega)]; exact I64.nat (n := 0) (by omega)
theorem monF_rng : ∀ (f : Nat) (y d m : Int), 0 ≤ d → 0 ≤ m → (Mn.monF f y d m).1 ≤ d + 0 ∧ 0 ≤ (Mn.monF f y d m).1 ∧ 0 ≤ (Mn.monF f y d m).2 ∧ (Mn.monF f y d m).2 ≤ m + f
 | 0, y, d, m, h1, h2 => by unfold Mn.monF; exact ⟨by omega, h1, h2, by omega⟩
 | f + 1, y, d, m, h1, h2 => by
  unfold Mn.monF
  split
  ·
   rename_i h
   by_cases h3 : 0 ≤ Mn.mlen y m
   ·
    have := monF_rng f y (d - Mn.mlen y m) (m + 1) (by omega) (by omega)
    omega
   ·
    have h4 : 0 ≤ Mn.mlen y m := by
     unfold Mn.mlen
     split
     ·
      omega
     ·
      have : ∀ k, 0 ≤ Mn.months.getD k 0 := fun k => by
       match k with
       | 0 | 1 | 2 | 3 | 4 | 5 | 6 | 7 | 8 | 9 | 10 | 11 => decide
       | k + 12 => rw [gDD, List.getElem?_eq_none (by simp [Mn.months])]; decide
      exact this _
    omega
  ·
   exact ⟨by omega, h1, h2, by omega⟩
theorem yearF_rng : ∀ (f : Nat) (d y : Int), 0 ≤ y → y ≤ Mn.yearF f d y ∧ Mn.yearF f d y ≤ y + f
 | 0, d, y, h => by unfold Mn.yearF; omega
 | f + 1, d, y, h => by
  unfold Mn.yearF
  split
  ·
   have := yearF_rng f d (y + 1) (by omega); omega
  ·
   omega
theorem date_i (h : Int) : I64 (Mn.dateOf h).1.2.1 ∧ I64 (Mn.dateOf h).1.2.2.1 ∧ I64 (Mn.dateOf h).1.2.2.2 := by
 unfold Mn.dateOf
 split
 ·
  exact ⟨I64.nat (n := 0) (by omega), I64.nat (n := 0) (by omega), I64.nat (n := 0) (by omega)⟩
 ·
  rename_i hh
  simp only [Mn.ymd]
  have h0 : 0 ≤ h / 24 ∧ h / 24 ≤ 700000 := by omega
  have hy := yearF_rng 2000 (h / 24) (2000 + h / 24 / 366) (by omega)
  have hyb := Mn.bef_ge (y := Mn.yearF 2000 (h / 24) (2000 + h / 24 / 366)) (by omega)
  have hd : 0 ≤ h / 24 - Mn.bef (Mn.yearF 2000 (h / 24) (2000 + h / 24 / 366)) := by
   have h1 := Mn.yearF_ok 2000 (h / 24) (2000 + h / 24 / 366) (by omega) (by omega) (by have := Mn.bef_ge (y := 2000 + h / 24 / 366) (by omega); omega) (by omega)
   omega
  have hm := monF_rng 12 (Mn.yearF 2000 (h / 24) (2000 + h / 24 / 366)) (h / 24 - Mn.bef (Mn.yearF 2000 (h / 24) (2000 + h / 24 / 366))) 1 hd (by omega)
  unfold I64
  refine ⟨?_, ?_, ?_⟩ <;> omega
theorem fact_i {Φ : Hp} {y : FcV} {f : Bt.Facts} (h : y.ok Φ f) (d : Mn.Dt) (h1 : I64 d.2.1) (h2 : I64 d.2.2.1) (h3 : I64 d.2.2.2) : ∀ n o q, I64 (Mn.factV f d n o q) := fun n o q => by
 have z : I64 0 := I64.nat (n := 0) (by omega)
 unfold Mn.factV
 split
 ·
  exact atL_i h.vol.i64
 ·
  split
  ·
   exact atL_i h.lev.i64
  ·
   split
   ·
    split
    ·
     exact z
    ·
     rename_i hh
     obtain ⟨sv, hs, _⟩ := h.own.sub (k := o.toNat) (by omega)
     exact atL_i hs.i64
   ·
    split
    ·
     exact atL_i h.pos.i64
    ·
     split
     ·
      exact h3
     ·
      split
      ·
       exact h2
      ·
       split
       ·
        exact h1
       ·
        split
        ·
         split
         ·
          unfold I64; omega
         ·
          rename_i hh
          have hi : o.toNat < f.Crest.length := by omega
          rw [gDD, List.getElem?_eq_getElem hi]; exact h.cre.i64 _ (List.getElem_mem hi)
        ·
         exact z
end Go.Proofs.YtjmeeofdffdpnaaGreatDoor
