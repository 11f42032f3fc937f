/- Lemmas. Conditions: those of each theorem. -/
import Derived.Test.YtpapfpoefiikpaaGreatDoorVBcQ
set_option maxRecDepth 8000
set_option maxHeartbeats 16000000
namespace Go.K
open Go Go.RowKit
section
variable {α : Type} [Rep α]
theorem Reps.mono {Φ Ψ : Hp} (hl : Hp.le Φ Ψ) : ∀ {xs : List α} {cs : List (List Value)}, Reps Φ xs cs → Reps Ψ xs cs
  | [], [], _ => trivial
  | _ :: _, _ :: _, h => ⟨Rep.mono hl h.1, h.2.mono hl⟩
  | [], _ :: _, h => h.elim
  | _ :: _, [], h => h.elim
theorem Reps.snoc {Φ : Hp} {x : α} {c : List Value} (hx : Rep.rep Φ x c) : ∀ {xs : List α} {cs : List (List Value)}, Reps Φ xs cs → Reps Φ (xs ++ [x]) (cs ++ [c])
  | [], [], _ => ⟨hx, trivial⟩
  | _ :: _, _ :: _, h => ⟨h.1, h.2.snoc hx⟩
  | [], _ :: _, h => h.elim
  | _ :: _, [], h => h.elim
theorem Reps.len {Φ : Hp} : ∀ {xs : List α} {cs : List (List Value)}, Reps Φ xs cs → cs.length = xs.length
  | [], [], _ => rfl
  | _ :: _, _ :: _, h => congrArg (· + 1) h.2.len
  | [], _ :: _, h => h.elim
  | _ :: _, [], h => h.elim
end
end Go.K
namespace Bc
open Bt
structure Sm (b : Basin) : Prop where
  O : b.Owners.length * 16 ≤ 140737488355328
  P : b.Places.length ≤ 64
  L : b.Links.length ≤ 96
  T : b.Towns.length ≤ 40
  G : b.Gauges.length ≤ 128
  R : b.Roads.length ≤ 128
  S : b.Shelters.length ≤ 40
structure Le (b r : Basin) : Prop where
  O : b.Owners.length ≤ r.Owners.length
  P : b.Places.length ≤ r.Places.length
  L : b.Links.length ≤ r.Links.length
  T : b.Towns.length ≤ r.Towns.length
  G : b.Gauges.length ≤ r.Gauges.length
  R : b.Roads.length ≤ r.Roads.length
  S : b.Shelters.length ≤ r.Shelters.length
theorem Le.refl (b : Basin) : Le b b := ⟨Nat.le_refl _, Nat.le_refl _, Nat.le_refl _, Nat.le_refl _, Nat.le_refl _, Nat.le_refl _, Nat.le_refl _⟩
theorem Le.trans {a b c : Basin} (h : Le a b) (k : Le b c) : Le a c := ⟨Nat.le_trans h.O k.O, Nat.le_trans h.P k.P, Nat.le_trans h.L k.L, Nat.le_trans h.T k.T, Nat.le_trans h.G k.G, Nat.le_trans h.R k.R, Nat.le_trans h.S k.S⟩
theorem build1_le (n : Nm) (b : Basin) (d : Node) : Le b (build1 n b d) := by
  unfold build1
  simp only
  repeat' split
  all_goals constructor <;> simp
theorem foldl_le (n : Nm) : ∀ (ds : List Node) (b : Basin), Le b (ds.foldl (build1 n) b)
  | [], b => Le.refl b
  | d :: ds, b => (build1_le n b d).trans (foldl_le n ds _)
structure BdOk (d : Node) : Prop where
  word : 0 < (wordsOf d).length
  place : sortOf d.Text = [112, 108, 97, 99, 101] → ∀ k, k = [108, 101, 118, 101, 108] ∨ k = [114, 97, 105, 110] → ∀ y ∈ valsD d k, y.Kids.length = 2
  link : sortOf d.Text = [108, 105, 110, 107] → ∀ k, k = [114, 97, 116, 101] ∨ k = [108, 111, 119] ∨ k = [104, 105, 103, 104] → ∀ y ∈ valsD d k, y.Kids.length = 2
end Bc
namespace Go.Proofs.YtpapfpoefiikpaaGreatDoor
open Go Go.K Go.RowKit
attribute [local irreducible] AW RW DW Post Qt DT
structure BV where
  (O P L T G R S Rm : Value)
  (cO cP cL cT cG cR cS : List (List Value))
abbrev bC (b : Bt.Basin) (V : BV) : List Value := [.string b.Name, V.O, .int .i64 b.Cells, V.P, V.L, V.T, V.G, V.R, V.S, V.Rm, .int .i64 b.Err]
structure BOk (Φ : Hp) (b : Bt.Basin) (V : BV) : Prop where
  name : b.Name.size ≤ maxLen
  cells : I64 b.Cells
  err : I64 b.Err
  O : IsSl V.O V.cO.length ∧ Reps Φ b.Owners V.cO
  P : IsSl V.P V.cP.length ∧ Reps Φ b.Places V.cP
  L : IsSl V.L V.cL.length ∧ Reps Φ b.Links V.cL
  T : IsSl V.T V.cT.length ∧ Reps Φ b.Towns V.cT
  G : IsSl V.G V.cG.length ∧ Reps Φ b.Gauges V.cG
  R : IsSl V.R V.cR.length ∧ Reps Φ b.Roads V.cR
  S : IsSl V.S V.cS.length ∧ Reps Φ b.Shelters V.cS
  Rm : RepSl Φ b.Room V.Rm
abbrev z31 : List Value := [.string (bs []), .slice none 0 0, .int .i64 0, .slice none 0 0, .slice none 0 0, .slice none 0 0, .slice none 0 0, .slice none 0 0, .slice none 0 0, .slice none 0 0, .int .i64 0]
abbrev V0 : BV := ⟨.slice none 0 0, .slice none 0 0, .slice none 0 0, .slice none 0 0, .slice none 0 0, .slice none 0 0, .slice none 0 0, .slice none 0 0, [], [], [], [], [], [], []⟩
abbrev tnV (x : Bt.Node) (n : Bc.Nm) : List Value := [.string (bs (Bc.word x).Text), .int .i64 ((n.pl (Bc.text x [112, 108, 97, 99, 101])).getD 0), .int .i64 (Bc.num x [102, 108, 111, 111, 100] 0), .int .i64 (Bc.num x [108, 101, 97, 100] 0), .int .i64 (Bc.num x [112, 101, 111, 112, 108, 101] 0), .int .i64 (Bc.num x [119, 97, 116, 99, 104] 0), .int .i64 (Bc.num x [113, 117, 111, 114, 117, 109] 0)]
theorem bC_one {Φ : Hp} {b : Bt.Basin} {V : BV} (h : BOk Φ b V) : (bC b V).all Value.oneCell' = true := by
  obtain ⟨_, _, _, hO, hP, hL, hT, hG, hR, hS, hm⟩ := h
  obtain ⟨_, _, e1, _⟩ := hO.1
  obtain ⟨_, _, e2, _⟩ := hP.1
  obtain ⟨_, _, e3, _⟩ := hL.1
  obtain ⟨_, _, e4, _⟩ := hT.1
  obtain ⟨_, _, e5, _⟩ := hG.1
  obtain ⟨_, _, e6, _⟩ := hR.1
  obtain ⟨_, _, e7, _⟩ := hS.1
  obtain ⟨_, _, e8, _⟩ := hm.sl
  unfold bC
  rw [e1, e2, e3, e4, e5, e6, e7, e8]
  rfl
theorem build_c (w : World) (Φ : Hp) (hΦ : Hp.le Φ (hp w)) {x : Bt.Node} {kv : Value} (hk : RepSl Φ x.Kids kv) {n : Bc.Nm} {nv : Value} (hn : NmR Φ n nv) (hok : Bc.NOk n) (hE : ∀ d ∈ x.Kids, Bc.BdOk d) (hL : Bc.Sm (Bc.build x n)) :
    Calls pg 55 #[ndA x kv, nv] w (RetS Φ w fun r Ψ => ∃ cs, r = .agg cs.toArray ∧ Rep.rep Ψ (Bc.build x n) cs) := by
  obtain ⟨R, hR⟩ : ∃ R, Bc.build x n = R := ⟨_, rfl⟩
  rw [hR] at hL ⊢
  have hR0 : x.Kids.foldl (Bc.build1 n) Bc.zeroB = R := hR
  clear hR
  have hn2 := hn
  obtain ⟨b1, b2, b3, b4, rfl, g1', g2', g3', g4'⟩ := hn2
  refine in2 137 Tryz.func55 rfl rfl hΦ ?_
  repeat refine g1 ?_
  refine RW.bxA rfl rfl fun bx => ?_
  refine RW.bxA rfl rfl fun bn => ?_
  refine RW.alc rfl fun b4x => ?_
  repeat refine g1 ?_
  refine RW.alc rfl fun b5 => ?_
  repeat refine g1 ?_
  have hkm : x.Kids.length * 72 ≤ 140737488355328 := hk.max
  generalize x.Kids = ds at *
  obtain ⟨A, c, rfl, _⟩ := hk.sl
  repeat refine g1 ?_
  refine AW.wk (J' := St ⟨w, Φ, []⟩ Φ [.blk b5 31 (bC Bc.zeroB V0), .row (.slice none 0 0) 9 1 0 [], .row (.slice none 0 0) 58 12 0 [], .row (.slice none 0 0) 72 18 0 [], .row (.slice none 0 0) 84 7 0 [], .row (.slice none 0 0) 89 5 0 [], .row (.slice none 0 0) 92 7 0 [], .row (.slice none 0 0) 95 2 0 [], .blk bn 110 (nmV b1 b2 b3 b4), .blk b4x 31 z31]) (fun _ h => StP.sel (addNil (T := 95) (sz := 2) (addNil (T := 92) (sz := 7) (addNil (T := 89) (sz := 5) (addNil (T := 84) (sz := 7) (addNil (T := 72) (sz := 18) (addNil (T := 58) (sz := 12) (addNil (T := 9) (sz := 1) h))))))) [7, 6, 5, 4, 3, 2, 1, 0, 9, 8] (by decide) rfl) ?_
  refine AW.lp (fun s J m => ∃ (i : Nat) (b : Bt.Basin) (V : BV) (Ψ : Hp), s = [(15, .int .i64 (i : Int)), (14, .int .i64 ((ds.length : Nat) : Int)), (13, .slice A ds.length c), (5, .pointer (some ⟨b5, 0, none⟩)), (4, .pointer (some ⟨b4x, 0, none⟩)), (3, .pointer (some ⟨bn, 0, none⟩))] ∧ J = St ⟨w, Φ, []⟩ Ψ [.blk b5 31 (bC b V), .row V.O 9 1 V.cO.length V.cO.flatten, .row V.P 58 12 V.cP.length V.cP.flatten, .row V.L 72 18 V.cL.length V.cL.flatten, .row V.T 84 7 V.cT.length V.cT.flatten, .row V.G 89 5 V.cG.length V.cG.flatten, .row V.R 92 7 V.cR.length V.cR.flatten, .row V.S 95 2 V.cS.length V.cS.flatten, .blk bn 110 (nmV b1 b2 b3 b4), .blk b4x 31 z31] ∧ m = ds.length - i ∧ i ≤ ds.length ∧ Hp.le Φ Ψ ∧ BOk Ψ b V ∧ (ds.drop i).foldl (Bc.build1 n) b = R) ⟨0, Bc.zeroB, V0, Φ, rfl, rfl, rfl, Nat.zero_le _, Hp.le_refl _, ⟨Nat.zero_le _, ⟨by decide, by decide⟩, ⟨by decide, by decide⟩, ⟨isSl_nil, trivial⟩, ⟨isSl_nil, trivial⟩, ⟨isSl_nil, trivial⟩, ⟨isSl_nil, trivial⟩, ⟨isSl_nil, trivial⟩, ⟨isSl_nil, trivial⟩, ⟨isSl_nil, trivial⟩, repSl_nil⟩, hR0⟩ ?_
  rintro _ _ _ _ ⟨i, b, V, Ψ, rfl, rfl, rfl, hi, hlΨ, hb, hu⟩
  replace hk := hk.mono hlΨ
  replace hn := hn.mono hlΨ
  replace g1' := kmap_mono g1' hlΨ
  repeat refine g1 ?_
  refine AW.cond rfl (fun h => ?_) fun h => ?_
  · have h : i < ds.length := by simpa using h
    rw [drop_at h, List.foldl_cons] at hu
    repeat refine g1 ?_
    refine RW.nd hk h rfl rfl rfl rfl fun kd q hkd hwd => ?_
    obtain ⟨hwl, hpl, hlk⟩ := hE _ (mem_at h)
    generalize ds.getD i default = d at *
    have htl : d.Text.length ≤ maxLen := hwd.2.1
    have hle := Bc.foldl_le n (ds.drop (i + 1)) (Bc.build1 n b d)
    rw [hu] at hle
    have hb1 : Bc.build1 n b d = if Bc.sortOf d.Text = [98, 97, 115, 105, 110] then { b with Name := bs (Bc.word d).Text, Err := Bc.num d [101, 114, 114] 0, Cells := Bc.num d [99, 101, 108, 108, 115] 0, Room := Bc.nums d [114, 111, 111, 109], Owners := b.Owners ++ (Bc.valsD d [111, 119, 110, 101, 114, 115]).map fun o => bs o.Text } else if Bc.sortOf d.Text = [112, 108, 97, 99, 101] then { b with Places := b.Places ++ [Bc.mkPlace d n] } else if Bc.sortOf d.Text = [108, 105, 110, 107] then { b with Links := b.Links ++ [Bc.mkLink d n] } else if Bc.sortOf d.Text = [116, 111, 119, 110] then { b with Towns := b.Towns ++ [Bc.mkTown d n] } else if Bc.sortOf d.Text = [103, 97, 117, 103, 101] then { b with Gauges := b.Gauges ++ [Bc.mkGauge d n] } else if Bc.sortOf d.Text = [114, 111, 97, 100] then { b with Roads := b.Roads ++ [Bc.mkRoad d n] } else if Bc.sortOf d.Text = [115, 104, 101, 108, 116, 101, 114] then { b with Shelters := b.Shelters ++ [⟨bs (Bc.word d).Text, Bc.num d [114, 111, 111, 109] 0⟩] } else b := rfl
    generalize Bc.build1 n b d = b' at *
    repeat refine g1 ?_
    refine RW.c rfl (fun w _ => sortOf_c w) rfl rfl ?_
    generalize Bc.sortOf d.Text = so at *
    repeat refine g1 ?_
    rcases Decidable.em (so = [98, 97, 115, 105, 110]) with e0 | e0
    · rw [if_pos e0] at hb1
      repeat first | refine t2 ?_ | refine t3 ?_ | refine g1 ?_
      refine RW.cS rfl (fun w1 hw1 => bword_c w1 Ψ hw1.phi hkd hwl) rfl rfl ?_
      rintro _ Ψ2 ⟨wv, rfl, -, -⟩ hl2
      have hkd2 := hkd.mono hl2
      refine RW.q rfl (qa_fld (cs := ndC (Bc.word d) wv) rfl rfl) ?_
      repeat first | refine RW.q rfl (q_num0 hkd2 rfl rfl) ?_ | refine g1 ?_
      refine RW.cS rfl (fun w1 hw1 => bnums_c w1 Ψ2 hw1.phi hkd2) rfl rfl ?_
      rintro _ Ψ3 hrm hl3
      obtain ⟨rA, rc, rfl, _⟩ := hrm.sl
      repeat refine g1 ?_
      replace hl2 := hl2.trans hl3
      have hkd3 := hkd.mono hl2
      refine RW.vals hkd3 rfl rfl rfl fun ov hov => ?_
      have hom : (Bc.valsD d [111, 119, 110, 101, 114, 115]).length * 72 ≤ 140737488355328 := hov.max
      subst hb1
      have hml : b.Owners.length + (Bc.valsD d [111, 119, 110, 101, 114, 115]).length ≤ R.Owners.length := by have := hle.O; simpa using this
      have hml2 := hL.O
      generalize Bc.valsD d [111, 119, 110, 101, 114, 115] = os at *
      obtain ⟨oA, oc, rfl, _⟩ := hov.sl
      repeat refine g1 ?_
      refine AW.lp (fun s J m => ∃ (j : Nat) (vo : Value) (co : List (List Value)), s = [(44, .int .i64 (j : Int)), (43, .int .i64 ((os.length : Nat) : Int)), (42, .slice oA os.length oc), (15, .int .i64 (i : Int)), (14, .int .i64 ((ds.length : Nat) : Int)), (13, .slice A ds.length c), (5, .pointer (some ⟨b5, 0, none⟩)), (4, .pointer (some ⟨b4x, 0, none⟩)), (3, .pointer (some ⟨bn, 0, none⟩))] ∧ J = St ⟨w, Φ, []⟩ Ψ3 [.blk b5 31 [.string (bs (Bc.word d).Text), vo, .int .i64 (Bc.num d [99, 101, 108, 108, 115] 0), V.P, V.L, V.T, V.G, V.R, V.S, .slice rA (Bc.nums d [114, 111, 111, 109]).length rc, .int .i64 (Bc.num d [101, 114, 114] 0)], .row vo 9 1 co.length co.flatten, .row V.P 58 12 V.cP.length V.cP.flatten, .row V.L 72 18 V.cL.length V.cL.flatten, .row V.T 84 7 V.cT.length V.cT.flatten, .row V.G 89 5 V.cG.length V.cG.flatten, .row V.R 92 7 V.cR.length V.cR.flatten, .row V.S 95 2 V.cS.length V.cS.flatten, .blk bn 110 (nmV b1 b2 b3 b4), .blk b4x 31 z31] ∧ m = os.length - j ∧ j ≤ os.length ∧ IsSl vo co.length ∧ Reps Ψ3 (b.Owners ++ (os.take j).map fun o => bs o.Text) co) ⟨0, V.O, V.cO, rfl, rfl, rfl, Nat.zero_le _, hb.O.1, by simpa using hb.O.2.mono hl2⟩ ?_
      rintro _ _ _ _ ⟨j, vo, co, rfl, rfl, rfl, hj, ho1, ho2⟩
      repeat refine g1 ?_
      refine AW.cond rfl (fun h2 => ?_) fun h2 => ?_
      · have h2 : j < os.length := by simpa using h2
        have ht := take_at h2
        have hco := ho2.len
        simp only [List.length_append, List.length_map, List.length_take] at hco
        repeat refine g1 ?_
        refine RW.nd hov h2 rfl rfl rfl rfl fun ko q2 hko hwo => ?_
        generalize os.getD j default = o at *
        repeat refine g1 ?_
        refine RW.ap1 (cs := [.string (bs o.Text)]) 2 rfl Tryz.underlying22 inf9 rfl rfl rfl rfl rfl rfl rfl (by kernel_rfl) rfl rfl (by omega) (by omega) fun va w2 hva => ?_
        simp only [List.set_cons_succ, List.set_cons_zero]
        have hva2 := hva
        obtain ⟨A9, c9, rfl, _⟩ := hva2
        repeat refine g1 ?_
        refine Post.bk (hJ := fun _ h => ?_) ⟨j + 1, .slice A9 (co.length + 1) c9, co ++ [[.string (bs o.Text)]], rfl, rfl, rfl, h2, by rw [List.length_append]; exact hva, ?_⟩
        · rw [ht, List.map_append, ← List.append_assoc]; exact Reps.snoc (show Rep.rep Ψ3 (bs o.Text) [Value.string (bs o.Text)] from ⟨rfl, hwo.2.1⟩) ho2
        · have hlen : (co ++ [[Value.string (bs o.Text)]]).length = co.length + 1 := List.length_append
          have hfl : (co ++ [[Value.string (bs o.Text)]]).flatten = co.flatten ++ [Value.string (bs o.Text)] := by simp
          show StP _ _ _ _
          simp only [hlen, hfl]
          exact StP.drop h (.cons _ (List.Sublist.refl _))
      · have h2 : j = os.length := by have := odF h2; omega
        subst h2
        rw [List.take_length] at ho2
        repeat refine g1 ?_
        refine Post.bk ⟨i + 1, _, { V with O := vo, cO := co, Rm := .slice rA (Bc.nums d [114, 111, 111, 109]).length rc }, Ψ3, rfl, rfl, rfl, h, hlΨ.trans hl2, ?_, hu⟩
        exact ⟨word_len hkd, num_i64 hkd _ _, num_i64 hkd _ _, ⟨ho1, ho2⟩, ⟨hb.P.1, hb.P.2.mono hl2⟩, ⟨hb.L.1, hb.L.2.mono hl2⟩, ⟨hb.T.1, hb.T.2.mono hl2⟩, ⟨hb.G.1, hb.G.2.mono hl2⟩, ⟨hb.R.1, hb.R.2.mono hl2⟩, ⟨hb.S.1, hb.S.2.mono hl2⟩, hrm⟩
    rcases Decidable.em (so = [112, 108, 97, 99, 101]) with e1 | e1
    · rw [if_neg e0, if_pos e1] at hb1
      repeat first | refine t2 ?_ | refine t3 ?_ | refine g1 ?_
      subst hb1
      have hcl := hb.P.2.len
      have hml : b.Places.length + 1 ≤ R.Places.length := by have := hle.P; simpa using this
      have hml2 := hL.P
      refine AW.draw (J0 := St ⟨w, Φ, []⟩ Ψ [.blk q 40 (ndC d kd), .blk b5 31 (bC b V), .blk bn 110 (nmV b1 b2 b3 b4)]) [.q, .q, .q, .q, .e, .e, .e, .q, .e] [0, 1, 2, 3, 4, 5, 6, 7, 8] hmix (by kernel_rfl) ?_
      repeat refine t4 ?_
      refine DW.cS (fun w Ψ9 hl h => StP.know hl (StP.drop h (.cons_cons _ (.cons_cons _ (.cons _ (.cons _ (.cons _ (.cons _ (.cons _ (.cons _ (.cons _ (.cons_cons _ (List.nil_sublist _))))))))))))) rfl (fun w1 hw1 => buildPlace_c w1 Ψ hw1.phi hkd hn hok hwl (hpl e1)) rfl rfl ?_
      rintro _ Ψ2 ⟨cs, rfl, hrep⟩ hl2
      have hrep0 := hrep
      have hone := List.all_eq_true.2 (Rep.one hrep)
      obtain ⟨v4, v5, v6, rfl, hw9⟩ := hrep
      refine DW.eff _ _ (fun _ _ _ h => StP.know hl2 (StP.drop h (.cons _ (.cons_cons _ (.cons_cons _ (.cons _ (.cons _ (.cons _ (.cons _ (.cons _ (.cons _ (.cons _ (.cons_cons _ (List.nil_sublist _)))))))))))))) rfl (e_buildSlice (vals := [(0, .agg ([Value.string (Bc.mkPlace d n).Name, Value.int .i64 (Bc.mkPlace d n).Kind, Value.int .i64 (Bc.mkPlace d n).Office, Value.int .i64 (Bc.mkPlace d n).Cap, v4, v5, Value.int .i64 (Bc.mkPlace d n).Num, Value.int .i64 (Bc.mkPlace d n).Den, Value.int .i64 (Bc.mkPlace d n).Down, Value.int .i64 (Bc.mkPlace d n).Delay, Value.int .i64 (Bc.mkPlace d n).Floor, v6] : List Value).toArray)]) (cells := [Value.string (Bc.mkPlace d n).Name, Value.int .i64 (Bc.mkPlace d n).Kind, Value.int .i64 (Bc.mkPlace d n).Office, Value.int .i64 (Bc.mkPlace d n).Cap, v4, v5, Value.int .i64 (Bc.mkPlace d n).Num, Value.int .i64 (Bc.mkPlace d n).Den, Value.int .i64 (Bc.mkPlace d n).Down, Value.int .i64 (Bc.mkPlace d n).Delay, Value.int .i64 (Bc.mkPlace d n).Floor, v6]) Tryz.underlying23 inf58 rfl rfl rfl (by kernel_rfl) rfl) fun b6 => ?_
      refine DW.eff (fun xv : {vq : Value // IsSl vq (V.cP.length + 1)} => xv.1) (fun xv => St ⟨w, Φ, []⟩ Ψ2 [.row (.slice (some ⟨b6, 0, none⟩) 1 1) 58 12 1 ([Value.string (Bc.mkPlace d n).Name, Value.int .i64 (Bc.mkPlace d n).Kind, Value.int .i64 (Bc.mkPlace d n).Office, Value.int .i64 (Bc.mkPlace d n).Cap, v4, v5, Value.int .i64 (Bc.mkPlace d n).Num, Value.int .i64 (Bc.mkPlace d n).Den, Value.int .i64 (Bc.mkPlace d n).Down, Value.int .i64 (Bc.mkPlace d n).Delay, Value.int .i64 (Bc.mkPlace d n).Floor, v6]), .blk q 40 (ndC d kd), .blk b5 31 (bC b V), .row V.O 9 1 V.cO.length V.cO.flatten, .row xv.1 58 12 (V.cP.length + 1) (V.cP.flatten ++ [Value.string (Bc.mkPlace d n).Name, Value.int .i64 (Bc.mkPlace d n).Kind, Value.int .i64 (Bc.mkPlace d n).Office, Value.int .i64 (Bc.mkPlace d n).Cap, v4, v5, Value.int .i64 (Bc.mkPlace d n).Num, Value.int .i64 (Bc.mkPlace d n).Den, Value.int .i64 (Bc.mkPlace d n).Down, Value.int .i64 (Bc.mkPlace d n).Delay, Value.int .i64 (Bc.mkPlace d n).Floor, v6]), .row V.L 72 18 V.cL.length V.cL.flatten, .row V.T 84 7 V.cT.length V.cT.flatten, .row V.G 89 5 V.cG.length V.cG.flatten, .row V.R 92 7 V.cR.length V.cR.flatten, .row V.S 95 2 V.cS.length V.cS.flatten, .blk bn 110 (nmV b1 b2 b3 b4), .blk b4x 31 z31]) (fun _ _ _ h => StP.know hl2 (StP.drop h (.cons _ (.cons_cons _ (.cons_cons _ (.cons _ (.cons _ (.cons _ (.cons _ (.cons _ (.cons _ (.cons _ (.cons_cons _ (List.nil_sublist _)))))))))))))) rfl (e_append 4 rfl rfl rfl Tryz.underlying23 inf58 rfl rfl rfl (Cells.row0 0 rfl) hone (by omega) (by omega) (fun _ => rfl)) ?_
      rintro ⟨va, hva⟩
      have hva2 := hva
      obtain ⟨A9, c9, rfl, _⟩ := hva2
      repeat refine t4 ?_
      refine DW.sto 2 rfl rfl rfl rfl rfl rfl ?_
      repeat refine g1 ?_
      refine Post.bk (hJ := fun _ h => ?_) ⟨i + 1, _, { V with P := .slice A9 (V.cP.length + 1) c9, cP := V.cP ++ [[Value.string (Bc.mkPlace d n).Name, Value.int .i64 (Bc.mkPlace d n).Kind, Value.int .i64 (Bc.mkPlace d n).Office, Value.int .i64 (Bc.mkPlace d n).Cap, v4, v5, Value.int .i64 (Bc.mkPlace d n).Num, Value.int .i64 (Bc.mkPlace d n).Den, Value.int .i64 (Bc.mkPlace d n).Down, Value.int .i64 (Bc.mkPlace d n).Delay, Value.int .i64 (Bc.mkPlace d n).Floor, v6]] }, Ψ2, rfl, rfl, rfl, h, hlΨ.trans hl2, ?_, hu⟩
      · exact ⟨hb.name, hb.cells, hb.err, ⟨hb.O.1, hb.O.2.mono hl2⟩, ⟨by show IsSl _ (List.length _); rw [List.length_append]; exact hva, Reps.snoc hrep0 (hb.P.2.mono hl2)⟩, ⟨hb.L.1, hb.L.2.mono hl2⟩, ⟨hb.T.1, hb.T.2.mono hl2⟩, ⟨hb.G.1, hb.G.2.mono hl2⟩, ⟨hb.R.1, hb.R.2.mono hl2⟩, ⟨hb.S.1, hb.S.2.mono hl2⟩, hb.Rm.mono hl2⟩
      · have hlen : (V.cP ++ [[Value.string (Bc.mkPlace d n).Name, Value.int .i64 (Bc.mkPlace d n).Kind, Value.int .i64 (Bc.mkPlace d n).Office, Value.int .i64 (Bc.mkPlace d n).Cap, v4, v5, Value.int .i64 (Bc.mkPlace d n).Num, Value.int .i64 (Bc.mkPlace d n).Den, Value.int .i64 (Bc.mkPlace d n).Down, Value.int .i64 (Bc.mkPlace d n).Delay, Value.int .i64 (Bc.mkPlace d n).Floor, v6]]).length = V.cP.length + 1 := List.length_append
        have hfl : (V.cP ++ [[Value.string (Bc.mkPlace d n).Name, Value.int .i64 (Bc.mkPlace d n).Kind, Value.int .i64 (Bc.mkPlace d n).Office, Value.int .i64 (Bc.mkPlace d n).Cap, v4, v5, Value.int .i64 (Bc.mkPlace d n).Num, Value.int .i64 (Bc.mkPlace d n).Den, Value.int .i64 (Bc.mkPlace d n).Down, Value.int .i64 (Bc.mkPlace d n).Delay, Value.int .i64 (Bc.mkPlace d n).Floor, v6]]).flatten = V.cP.flatten ++ [Value.string (Bc.mkPlace d n).Name, Value.int .i64 (Bc.mkPlace d n).Kind, Value.int .i64 (Bc.mkPlace d n).Office, Value.int .i64 (Bc.mkPlace d n).Cap, v4, v5, Value.int .i64 (Bc.mkPlace d n).Num, Value.int .i64 (Bc.mkPlace d n).Den, Value.int .i64 (Bc.mkPlace d n).Down, Value.int .i64 (Bc.mkPlace d n).Delay, Value.int .i64 (Bc.mkPlace d n).Floor, v6] := by simp
        show StP _ _ _ _
        simp only [hlen, hfl]
        exact StP.drop h (.cons _ (.cons _ (List.Sublist.refl _)))
    rcases Decidable.em (so = [108, 105, 110, 107]) with e2 | e2
    · rw [if_neg e0, if_neg e1, if_pos e2] at hb1
      repeat first | refine t2 ?_ | refine t3 ?_ | refine g1 ?_
      subst hb1
      have hcl := hb.L.2.len
      have hml : b.Links.length + 1 ≤ R.Links.length := by have := hle.L; simpa using this
      have hml2 := hL.L
      refine AW.draw (J0 := St ⟨w, Φ, []⟩ Ψ [.blk q 40 (ndC d kd), .blk b5 31 (bC b V), .blk bn 110 (nmV b1 b2 b3 b4)]) [.q, .q, .q, .q, .e, .e, .e, .q, .e] [0, 1, 2, 3, 4, 5, 6, 7, 8] hmix (by kernel_rfl) ?_
      repeat refine t4 ?_
      refine DW.cS (fun w Ψ9 hl h => StP.know hl (StP.drop h (.cons_cons _ (.cons_cons _ (.cons _ (.cons _ (.cons _ (.cons _ (.cons _ (.cons _ (.cons _ (.cons_cons _ (List.nil_sublist _))))))))))))) rfl (fun w1 hw1 => buildLink_c w1 Ψ hw1.phi hkd hn hok hwl (hlk e2)) rfl rfl ?_
      rintro _ Ψ2 ⟨cs, rfl, hrep⟩ hl2
      have hrep0 := hrep
      have hone := List.all_eq_true.2 (Rep.one hrep)
      obtain ⟨v4, v5, v6, rfl, hw9⟩ := hrep
      refine DW.eff _ _ (fun _ _ _ h => StP.know hl2 (StP.drop h (.cons _ (.cons_cons _ (.cons_cons _ (.cons _ (.cons _ (.cons _ (.cons _ (.cons _ (.cons _ (.cons _ (.cons_cons _ (List.nil_sublist _)))))))))))))) rfl (e_buildSlice (vals := [(0, .agg ([Value.string (Bc.mkLink d n).Name, Value.int .i64 (Bc.mkLink d n).Kind, Value.int .i64 (Bc.mkLink d n).From, Value.int .i64 (Bc.mkLink d n).To, v4, v5, v6, Value.int .i64 (Bc.mkLink d n).Positions, Value.int .i64 (Bc.mkLink d n).Speed, Value.int .i64 (Bc.mkLink d n).Leak, Value.int .i64 (Bc.mkLink d n).Crest, Value.int .i64 (Bc.mkLink d n).Num, Value.int .i64 (Bc.mkLink d n).Den, Value.int .i64 (Bc.mkLink d n).Prime, Value.int .i64 (Bc.mkLink d n).Break, Value.int .i64 (Bc.mkLink d n).BackNum, Value.int .i64 (Bc.mkLink d n).BackDen, Value.int .i64 (Bc.mkLink d n).Delay] : List Value).toArray)]) (cells := [Value.string (Bc.mkLink d n).Name, Value.int .i64 (Bc.mkLink d n).Kind, Value.int .i64 (Bc.mkLink d n).From, Value.int .i64 (Bc.mkLink d n).To, v4, v5, v6, Value.int .i64 (Bc.mkLink d n).Positions, Value.int .i64 (Bc.mkLink d n).Speed, Value.int .i64 (Bc.mkLink d n).Leak, Value.int .i64 (Bc.mkLink d n).Crest, Value.int .i64 (Bc.mkLink d n).Num, Value.int .i64 (Bc.mkLink d n).Den, Value.int .i64 (Bc.mkLink d n).Prime, Value.int .i64 (Bc.mkLink d n).Break, Value.int .i64 (Bc.mkLink d n).BackNum, Value.int .i64 (Bc.mkLink d n).BackDen, Value.int .i64 (Bc.mkLink d n).Delay]) Tryz.underlying24 inf72 rfl rfl rfl (by kernel_rfl) rfl) fun b6 => ?_
      refine DW.eff (fun xv : {vq : Value // IsSl vq (V.cL.length + 1)} => xv.1) (fun xv => St ⟨w, Φ, []⟩ Ψ2 [.row (.slice (some ⟨b6, 0, none⟩) 1 1) 72 18 1 ([Value.string (Bc.mkLink d n).Name, Value.int .i64 (Bc.mkLink d n).Kind, Value.int .i64 (Bc.mkLink d n).From, Value.int .i64 (Bc.mkLink d n).To, v4, v5, v6, Value.int .i64 (Bc.mkLink d n).Positions, Value.int .i64 (Bc.mkLink d n).Speed, Value.int .i64 (Bc.mkLink d n).Leak, Value.int .i64 (Bc.mkLink d n).Crest, Value.int .i64 (Bc.mkLink d n).Num, Value.int .i64 (Bc.mkLink d n).Den, Value.int .i64 (Bc.mkLink d n).Prime, Value.int .i64 (Bc.mkLink d n).Break, Value.int .i64 (Bc.mkLink d n).BackNum, Value.int .i64 (Bc.mkLink d n).BackDen, Value.int .i64 (Bc.mkLink d n).Delay]), .blk q 40 (ndC d kd), .blk b5 31 (bC b V), .row V.O 9 1 V.cO.length V.cO.flatten, .row V.P 58 12 V.cP.length V.cP.flatten, .row xv.1 72 18 (V.cL.length + 1) (V.cL.flatten ++ [Value.string (Bc.mkLink d n).Name, Value.int .i64 (Bc.mkLink d n).Kind, Value.int .i64 (Bc.mkLink d n).From, Value.int .i64 (Bc.mkLink d n).To, v4, v5, v6, Value.int .i64 (Bc.mkLink d n).Positions, Value.int .i64 (Bc.mkLink d n).Speed, Value.int .i64 (Bc.mkLink d n).Leak, Value.int .i64 (Bc.mkLink d n).Crest, Value.int .i64 (Bc.mkLink d n).Num, Value.int .i64 (Bc.mkLink d n).Den, Value.int .i64 (Bc.mkLink d n).Prime, Value.int .i64 (Bc.mkLink d n).Break, Value.int .i64 (Bc.mkLink d n).BackNum, Value.int .i64 (Bc.mkLink d n).BackDen, Value.int .i64 (Bc.mkLink d n).Delay]), .row V.T 84 7 V.cT.length V.cT.flatten, .row V.G 89 5 V.cG.length V.cG.flatten, .row V.R 92 7 V.cR.length V.cR.flatten, .row V.S 95 2 V.cS.length V.cS.flatten, .blk bn 110 (nmV b1 b2 b3 b4), .blk b4x 31 z31]) (fun _ _ _ h => StP.know hl2 (StP.drop h (.cons _ (.cons_cons _ (.cons_cons _ (.cons _ (.cons _ (.cons _ (.cons _ (.cons _ (.cons _ (.cons _ (.cons_cons _ (List.nil_sublist _)))))))))))))) rfl (e_append 5 rfl rfl rfl Tryz.underlying24 inf72 rfl rfl rfl (Cells.row0 0 rfl) hone (by omega) (by omega) (fun _ => rfl)) ?_
      rintro ⟨va, hva⟩
      have hva2 := hva
      obtain ⟨A9, c9, rfl, _⟩ := hva2
      repeat refine t4 ?_
      refine DW.sto 2 rfl rfl rfl rfl rfl rfl ?_
      repeat refine g1 ?_
      refine Post.bk (hJ := fun _ h => ?_) ⟨i + 1, _, { V with L := .slice A9 (V.cL.length + 1) c9, cL := V.cL ++ [[Value.string (Bc.mkLink d n).Name, Value.int .i64 (Bc.mkLink d n).Kind, Value.int .i64 (Bc.mkLink d n).From, Value.int .i64 (Bc.mkLink d n).To, v4, v5, v6, Value.int .i64 (Bc.mkLink d n).Positions, Value.int .i64 (Bc.mkLink d n).Speed, Value.int .i64 (Bc.mkLink d n).Leak, Value.int .i64 (Bc.mkLink d n).Crest, Value.int .i64 (Bc.mkLink d n).Num, Value.int .i64 (Bc.mkLink d n).Den, Value.int .i64 (Bc.mkLink d n).Prime, Value.int .i64 (Bc.mkLink d n).Break, Value.int .i64 (Bc.mkLink d n).BackNum, Value.int .i64 (Bc.mkLink d n).BackDen, Value.int .i64 (Bc.mkLink d n).Delay]] }, Ψ2, rfl, rfl, rfl, h, hlΨ.trans hl2, ?_, hu⟩
      · exact ⟨hb.name, hb.cells, hb.err, ⟨hb.O.1, hb.O.2.mono hl2⟩, ⟨hb.P.1, hb.P.2.mono hl2⟩, ⟨by show IsSl _ (List.length _); rw [List.length_append]; exact hva, Reps.snoc hrep0 (hb.L.2.mono hl2)⟩, ⟨hb.T.1, hb.T.2.mono hl2⟩, ⟨hb.G.1, hb.G.2.mono hl2⟩, ⟨hb.R.1, hb.R.2.mono hl2⟩, ⟨hb.S.1, hb.S.2.mono hl2⟩, hb.Rm.mono hl2⟩
      · have hlen : (V.cL ++ [[Value.string (Bc.mkLink d n).Name, Value.int .i64 (Bc.mkLink d n).Kind, Value.int .i64 (Bc.mkLink d n).From, Value.int .i64 (Bc.mkLink d n).To, v4, v5, v6, Value.int .i64 (Bc.mkLink d n).Positions, Value.int .i64 (Bc.mkLink d n).Speed, Value.int .i64 (Bc.mkLink d n).Leak, Value.int .i64 (Bc.mkLink d n).Crest, Value.int .i64 (Bc.mkLink d n).Num, Value.int .i64 (Bc.mkLink d n).Den, Value.int .i64 (Bc.mkLink d n).Prime, Value.int .i64 (Bc.mkLink d n).Break, Value.int .i64 (Bc.mkLink d n).BackNum, Value.int .i64 (Bc.mkLink d n).BackDen, Value.int .i64 (Bc.mkLink d n).Delay]]).length = V.cL.length + 1 := List.length_append
        have hfl : (V.cL ++ [[Value.string (Bc.mkLink d n).Name, Value.int .i64 (Bc.mkLink d n).Kind, Value.int .i64 (Bc.mkLink d n).From, Value.int .i64 (Bc.mkLink d n).To, v4, v5, v6, Value.int .i64 (Bc.mkLink d n).Positions, Value.int .i64 (Bc.mkLink d n).Speed, Value.int .i64 (Bc.mkLink d n).Leak, Value.int .i64 (Bc.mkLink d n).Crest, Value.int .i64 (Bc.mkLink d n).Num, Value.int .i64 (Bc.mkLink d n).Den, Value.int .i64 (Bc.mkLink d n).Prime, Value.int .i64 (Bc.mkLink d n).Break, Value.int .i64 (Bc.mkLink d n).BackNum, Value.int .i64 (Bc.mkLink d n).BackDen, Value.int .i64 (Bc.mkLink d n).Delay]]).flatten = V.cL.flatten ++ [Value.string (Bc.mkLink d n).Name, Value.int .i64 (Bc.mkLink d n).Kind, Value.int .i64 (Bc.mkLink d n).From, Value.int .i64 (Bc.mkLink d n).To, v4, v5, v6, Value.int .i64 (Bc.mkLink d n).Positions, Value.int .i64 (Bc.mkLink d n).Speed, Value.int .i64 (Bc.mkLink d n).Leak, Value.int .i64 (Bc.mkLink d n).Crest, Value.int .i64 (Bc.mkLink d n).Num, Value.int .i64 (Bc.mkLink d n).Den, Value.int .i64 (Bc.mkLink d n).Prime, Value.int .i64 (Bc.mkLink d n).Break, Value.int .i64 (Bc.mkLink d n).BackNum, Value.int .i64 (Bc.mkLink d n).BackDen, Value.int .i64 (Bc.mkLink d n).Delay] := by simp
        show StP _ _ _ _
        simp only [hlen, hfl]
        exact StP.drop h (.cons _ (.cons _ (List.Sublist.refl _)))
    rcases Decidable.em (so = [116, 111, 119, 110]) with e3 | e3
    · rw [if_neg e0, if_neg e1, if_neg e2, if_pos e3] at hb1
      repeat first | refine t2 ?_ | refine t3 ?_ | refine g1 ?_
      subst hb1
      have hcl := hb.T.2.len
      have hml : b.Towns.length + 1 ≤ R.Towns.length := by have := hle.T; simpa using this
      have hml2 := hL.T
      refine AW.draw (J0 := St ⟨w, Φ, []⟩ Ψ [.blk q 40 (ndC d kd), .blk b5 31 (bC b V), .blk bn 110 (nmV b1 b2 b3 b4)]) [.q, .q, .q, .q, .q, .q, .q, .q, .q, .q, .q, .e, .q, .q, .q, .q, .q, .q, .q, .q, .q, .e, .e, .q, .e] [0, 1, 2, 5, 6, 7, 10, 12, 14, 16, 18, 3, 4, 8, 9, 11, 13, 15, 17, 19, 20, 21, 22, 23, 24] hmix (by kernel_rfl) ?_
      repeat refine t4 ?_
      refine DW.cS (fun w Ψ9 hl h => StP.know hl (StP.drop h (.cons_cons _ (.cons_cons _ (.cons _ (.cons _ (.cons _ (.cons _ (.cons _ (.cons _ (.cons _ (.cons_cons _ (List.nil_sublist _))))))))))))) rfl (fun w1 hw1 => bword_c w1 Ψ hw1.phi hkd hwl) rfl rfl ?_
      rintro _ Ψ2 ⟨wv, rfl, -, -⟩ hl2
      refine DW.q (fun _ h => StP.know hl2 (StP.drop h (.cons_cons _ (.cons_cons _ (.cons _ (.cons _ (.cons _ (.cons _ (.cons _ (.cons _ (.cons _ (.cons_cons _ (List.nil_sublist _))))))))))))) rfl (qa_fld (cs := ndC (Bc.word d) wv) rfl rfl) ?_
      repeat first | refine t4 ?_ | refine t8 ?_
      refine DW.q (v := .agg (tnV d n).toArray) (fun _ h => StP.know hl2 (StP.drop h (.cons_cons _ (.cons_cons _ (.cons _ (.cons _ (.cons _ (.cons _ (.cons _ (.cons _ (.cons _ (.cons_cons _ (List.nil_sublist _))))))))))))) rfl (q_build (vals := [(0, .string (bs (Bc.word d).Text)), (1, .int .i64 ((n.pl (Bc.text d [112, 108, 97, 99, 101])).getD 0)), (2, .int .i64 (Bc.num d [102, 108, 111, 111, 100] 0)), (3, .int .i64 (Bc.num d [108, 101, 97, 100] 0)), (4, .int .i64 (Bc.num d [112, 101, 111, 112, 108, 101] 0)), (5, .int .i64 (Bc.num d [119, 97, 116, 99, 104] 0)), (6, .int .i64 (Bc.num d [113, 117, 111, 114, 117, 109] 0))]) zero84 Tryz.underlying84 places84 rfl (by kernel_rfl)) ?_
      refine DW.eff _ _ (fun _ _ _ h => StP.know hl2 (StP.drop h (.cons _ (.cons_cons _ (.cons_cons _ (.cons _ (.cons _ (.cons _ (.cons _ (.cons _ (.cons _ (.cons _ (.cons_cons _ (List.nil_sublist _)))))))))))))) rfl (e_buildSlice (vals := [(0, .agg (tnV d n : List Value).toArray)]) (cells := tnV d n) Tryz.underlying25 inf84 rfl rfl rfl (by kernel_rfl) rfl) fun b6 => ?_
      refine DW.eff (fun xv : {vq : Value // IsSl vq (V.cT.length + 1)} => xv.1) (fun xv => St ⟨w, Φ, []⟩ Ψ2 [.row (.slice (some ⟨b6, 0, none⟩) 1 1) 84 7 1 (tnV d n), .blk q 40 (ndC d kd), .blk b5 31 (bC b V), .row V.O 9 1 V.cO.length V.cO.flatten, .row V.P 58 12 V.cP.length V.cP.flatten, .row V.L 72 18 V.cL.length V.cL.flatten, .row xv.1 84 7 (V.cT.length + 1) (V.cT.flatten ++ tnV d n), .row V.G 89 5 V.cG.length V.cG.flatten, .row V.R 92 7 V.cR.length V.cR.flatten, .row V.S 95 2 V.cS.length V.cS.flatten, .blk bn 110 (nmV b1 b2 b3 b4), .blk b4x 31 z31]) (fun _ _ _ h => StP.know hl2 (StP.drop h (.cons _ (.cons_cons _ (.cons_cons _ (.cons _ (.cons _ (.cons _ (.cons _ (.cons _ (.cons _ (.cons _ (.cons_cons _ (List.nil_sublist _)))))))))))))) rfl (e_append 6 rfl rfl rfl Tryz.underlying25 inf84 rfl rfl rfl (Cells.row0 0 rfl) rfl (by omega) (by omega) (fun _ => rfl)) ?_
      rintro ⟨va, hva⟩
      have hva2 := hva
      obtain ⟨A9, c9, rfl, _⟩ := hva2
      repeat refine t4 ?_
      refine DW.sto 2 rfl rfl rfl rfl rfl rfl ?_
      repeat refine g1 ?_
      refine Post.bk (hJ := fun _ h => ?_) ⟨i + 1, _, { V with T := .slice A9 (V.cT.length + 1) c9, cT := V.cT ++ [tnV d n] }, Ψ2, rfl, rfl, rfl, h, hlΨ.trans hl2, ?_, hu⟩
      · exact ⟨hb.name, hb.cells, hb.err, ⟨hb.O.1, hb.O.2.mono hl2⟩, ⟨hb.P.1, hb.P.2.mono hl2⟩, ⟨hb.L.1, hb.L.2.mono hl2⟩, ⟨by show IsSl _ (List.length _); rw [List.length_append]; exact hva, Reps.snoc (show Rep.rep Ψ2 (Bc.mkTown d n) (tnV d n) from ⟨rfl, word_len hkd, hok.pl _, num_i64 hkd _ _, num_i64 hkd _ _, num_i64 hkd _ _, num_i64 hkd _ _, num_i64 hkd _ _⟩) (hb.T.2.mono hl2)⟩, ⟨hb.G.1, hb.G.2.mono hl2⟩, ⟨hb.R.1, hb.R.2.mono hl2⟩, ⟨hb.S.1, hb.S.2.mono hl2⟩, hb.Rm.mono hl2⟩
      · have hlen : (V.cT ++ [tnV d n]).length = V.cT.length + 1 := List.length_append
        have hfl : (V.cT ++ [tnV d n]).flatten = V.cT.flatten ++ tnV d n := by simp
        show StP _ _ _ _
        simp only [hlen, hfl]
        exact StP.drop h (.cons _ (.cons _ (List.Sublist.refl _)))
    rcases Decidable.em (so = [103, 97, 117, 103, 101]) with e4 | e4
    · rw [if_neg e0, if_neg e1, if_neg e2, if_neg e3, if_pos e4] at hb1
      repeat first | refine t2 ?_ | refine t3 ?_ | refine g1 ?_
      subst hb1
      have hcl := hb.G.2.len
      have hml : b.Gauges.length + 1 ≤ R.Gauges.length := by have := hle.G; simpa using this
      have hml2 := hL.G
      refine AW.draw (J0 := St ⟨w, Φ, []⟩ Ψ [.blk q 40 (ndC d kd), .blk b5 31 (bC b V), .blk bn 110 (nmV b1 b2 b3 b4)]) [.q, .q, .q, .q, .e, .e, .e, .q, .e] [0, 1, 2, 3, 4, 5, 6, 7, 8] hmix (by kernel_rfl) ?_
      repeat refine t4 ?_
      refine DW.cS (fun w Ψ9 hl h => StP.know hl (StP.drop h (.cons_cons _ (.cons_cons _ (.cons _ (.cons _ (.cons _ (.cons _ (.cons _ (.cons _ (.cons _ (.cons_cons _ (List.nil_sublist _))))))))))))) rfl (fun w1 hw1 => buildGauge_c w1 Ψ hw1.phi hkd hn hok hwl) rfl rfl ?_
      rintro _ Ψ2 ⟨cs, rfl, hrep⟩ hl2
      have hrep0 := hrep
      have hone := List.all_eq_true.2 (Rep.one hrep)
      obtain ⟨rfl, hw9⟩ := hrep
      refine DW.eff _ _ (fun _ _ _ h => StP.know hl2 (StP.drop h (.cons _ (.cons_cons _ (.cons_cons _ (.cons _ (.cons _ (.cons _ (.cons _ (.cons _ (.cons _ (.cons _ (.cons_cons _ (List.nil_sublist _)))))))))))))) rfl (e_buildSlice (vals := [(0, .agg ([Value.string (Bc.mkGauge d n).Name, Value.int .i64 (Bc.mkGauge d n).Kind, Value.int .i64 (Bc.mkGauge d n).Target, Value.int .i64 (Bc.mkGauge d n).Err, Value.int .i64 (Bc.mkGauge d n).Drift] : List Value).toArray)]) (cells := [Value.string (Bc.mkGauge d n).Name, Value.int .i64 (Bc.mkGauge d n).Kind, Value.int .i64 (Bc.mkGauge d n).Target, Value.int .i64 (Bc.mkGauge d n).Err, Value.int .i64 (Bc.mkGauge d n).Drift]) Tryz.underlying26 inf89 rfl rfl rfl (by kernel_rfl) rfl) fun b6 => ?_
      refine DW.eff (fun xv : {vq : Value // IsSl vq (V.cG.length + 1)} => xv.1) (fun xv => St ⟨w, Φ, []⟩ Ψ2 [.row (.slice (some ⟨b6, 0, none⟩) 1 1) 89 5 1 ([Value.string (Bc.mkGauge d n).Name, Value.int .i64 (Bc.mkGauge d n).Kind, Value.int .i64 (Bc.mkGauge d n).Target, Value.int .i64 (Bc.mkGauge d n).Err, Value.int .i64 (Bc.mkGauge d n).Drift]), .blk q 40 (ndC d kd), .blk b5 31 (bC b V), .row V.O 9 1 V.cO.length V.cO.flatten, .row V.P 58 12 V.cP.length V.cP.flatten, .row V.L 72 18 V.cL.length V.cL.flatten, .row V.T 84 7 V.cT.length V.cT.flatten, .row xv.1 89 5 (V.cG.length + 1) (V.cG.flatten ++ [Value.string (Bc.mkGauge d n).Name, Value.int .i64 (Bc.mkGauge d n).Kind, Value.int .i64 (Bc.mkGauge d n).Target, Value.int .i64 (Bc.mkGauge d n).Err, Value.int .i64 (Bc.mkGauge d n).Drift]), .row V.R 92 7 V.cR.length V.cR.flatten, .row V.S 95 2 V.cS.length V.cS.flatten, .blk bn 110 (nmV b1 b2 b3 b4), .blk b4x 31 z31]) (fun _ _ _ h => StP.know hl2 (StP.drop h (.cons _ (.cons_cons _ (.cons_cons _ (.cons _ (.cons _ (.cons _ (.cons _ (.cons _ (.cons _ (.cons _ (.cons_cons _ (List.nil_sublist _)))))))))))))) rfl (e_append 7 rfl rfl rfl Tryz.underlying26 inf89 rfl rfl rfl (Cells.row0 0 rfl) hone (by omega) (by omega) (fun _ => rfl)) ?_
      rintro ⟨va, hva⟩
      have hva2 := hva
      obtain ⟨A9, c9, rfl, _⟩ := hva2
      repeat refine t4 ?_
      refine DW.sto 2 rfl rfl rfl rfl rfl rfl ?_
      repeat refine g1 ?_
      refine Post.bk (hJ := fun _ h => ?_) ⟨i + 1, _, { V with G := .slice A9 (V.cG.length + 1) c9, cG := V.cG ++ [[Value.string (Bc.mkGauge d n).Name, Value.int .i64 (Bc.mkGauge d n).Kind, Value.int .i64 (Bc.mkGauge d n).Target, Value.int .i64 (Bc.mkGauge d n).Err, Value.int .i64 (Bc.mkGauge d n).Drift]] }, Ψ2, rfl, rfl, rfl, h, hlΨ.trans hl2, ?_, hu⟩
      · exact ⟨hb.name, hb.cells, hb.err, ⟨hb.O.1, hb.O.2.mono hl2⟩, ⟨hb.P.1, hb.P.2.mono hl2⟩, ⟨hb.L.1, hb.L.2.mono hl2⟩, ⟨hb.T.1, hb.T.2.mono hl2⟩, ⟨by show IsSl _ (List.length _); rw [List.length_append]; exact hva, Reps.snoc hrep0 (hb.G.2.mono hl2)⟩, ⟨hb.R.1, hb.R.2.mono hl2⟩, ⟨hb.S.1, hb.S.2.mono hl2⟩, hb.Rm.mono hl2⟩
      · have hlen : (V.cG ++ [[Value.string (Bc.mkGauge d n).Name, Value.int .i64 (Bc.mkGauge d n).Kind, Value.int .i64 (Bc.mkGauge d n).Target, Value.int .i64 (Bc.mkGauge d n).Err, Value.int .i64 (Bc.mkGauge d n).Drift]]).length = V.cG.length + 1 := List.length_append
        have hfl : (V.cG ++ [[Value.string (Bc.mkGauge d n).Name, Value.int .i64 (Bc.mkGauge d n).Kind, Value.int .i64 (Bc.mkGauge d n).Target, Value.int .i64 (Bc.mkGauge d n).Err, Value.int .i64 (Bc.mkGauge d n).Drift]]).flatten = V.cG.flatten ++ [Value.string (Bc.mkGauge d n).Name, Value.int .i64 (Bc.mkGauge d n).Kind, Value.int .i64 (Bc.mkGauge d n).Target, Value.int .i64 (Bc.mkGauge d n).Err, Value.int .i64 (Bc.mkGauge d n).Drift] := by simp
        show StP _ _ _ _
        simp only [hlen, hfl]
        exact StP.drop h (.cons _ (.cons _ (List.Sublist.refl _)))
    rcases Decidable.em (so = [114, 111, 97, 100]) with e5 | e5
    · rw [if_neg e0, if_neg e1, if_neg e2, if_neg e3, if_neg e4, if_pos e5] at hb1
      repeat first | refine t2 ?_ | refine t3 ?_ | refine g1 ?_
      subst hb1
      have hcl := hb.R.2.len
      have hml : b.Roads.length + 1 ≤ R.Roads.length := by have := hle.R; simpa using this
      have hml2 := hL.R
      refine AW.draw (J0 := St ⟨w, Φ, []⟩ Ψ [.blk q 40 (ndC d kd), .blk b5 31 (bC b V), .blk bn 110 (nmV b1 b2 b3 b4)]) [.q, .q, .q, .q, .e, .e, .e, .q, .e] [0, 1, 2, 3, 4, 5, 6, 7, 8] hmix (by kernel_rfl) ?_
      repeat refine t4 ?_
      refine DW.cS (fun w Ψ9 hl h => StP.know hl (StP.drop h (.cons_cons _ (.cons_cons _ (.cons _ (.cons _ (.cons _ (.cons _ (.cons _ (.cons _ (.cons _ (.cons_cons _ (List.nil_sublist _))))))))))))) rfl (fun w1 hw1 => buildRoad_c w1 Ψ hw1.phi hkd hn hok hwl) rfl rfl ?_
      rintro _ Ψ2 ⟨cs, rfl, hrep⟩ hl2
      have hrep0 := hrep
      have hone := List.all_eq_true.2 (Rep.one hrep)
      obtain ⟨rfl, hw9⟩ := hrep
      refine DW.eff _ _ (fun _ _ _ h => StP.know hl2 (StP.drop h (.cons _ (.cons_cons _ (.cons_cons _ (.cons _ (.cons _ (.cons _ (.cons _ (.cons _ (.cons _ (.cons _ (.cons_cons _ (List.nil_sublist _)))))))))))))) rfl (e_buildSlice (vals := [(0, .agg ([Value.string (Bc.mkRoad d n).Name, Value.int .i64 (Bc.mkRoad d n).From, Value.int .i64 (Bc.mkRoad d n).To, Value.int .i64 (Bc.mkRoad d n).Hours, Value.int .i64 (Bc.mkRoad d n).Flow, Value.int .i64 (Bc.mkRoad d n).By, Value.int .i64 (Bc.mkRoad d n).Limit] : List Value).toArray)]) (cells := [Value.string (Bc.mkRoad d n).Name, Value.int .i64 (Bc.mkRoad d n).From, Value.int .i64 (Bc.mkRoad d n).To, Value.int .i64 (Bc.mkRoad d n).Hours, Value.int .i64 (Bc.mkRoad d n).Flow, Value.int .i64 (Bc.mkRoad d n).By, Value.int .i64 (Bc.mkRoad d n).Limit]) Tryz.underlying27 inf92 rfl rfl rfl (by kernel_rfl) rfl) fun b6 => ?_
      refine DW.eff (fun xv : {vq : Value // IsSl vq (V.cR.length + 1)} => xv.1) (fun xv => St ⟨w, Φ, []⟩ Ψ2 [.row (.slice (some ⟨b6, 0, none⟩) 1 1) 92 7 1 ([Value.string (Bc.mkRoad d n).Name, Value.int .i64 (Bc.mkRoad d n).From, Value.int .i64 (Bc.mkRoad d n).To, Value.int .i64 (Bc.mkRoad d n).Hours, Value.int .i64 (Bc.mkRoad d n).Flow, Value.int .i64 (Bc.mkRoad d n).By, Value.int .i64 (Bc.mkRoad d n).Limit]), .blk q 40 (ndC d kd), .blk b5 31 (bC b V), .row V.O 9 1 V.cO.length V.cO.flatten, .row V.P 58 12 V.cP.length V.cP.flatten, .row V.L 72 18 V.cL.length V.cL.flatten, .row V.T 84 7 V.cT.length V.cT.flatten, .row V.G 89 5 V.cG.length V.cG.flatten, .row xv.1 92 7 (V.cR.length + 1) (V.cR.flatten ++ [Value.string (Bc.mkRoad d n).Name, Value.int .i64 (Bc.mkRoad d n).From, Value.int .i64 (Bc.mkRoad d n).To, Value.int .i64 (Bc.mkRoad d n).Hours, Value.int .i64 (Bc.mkRoad d n).Flow, Value.int .i64 (Bc.mkRoad d n).By, Value.int .i64 (Bc.mkRoad d n).Limit]), .row V.S 95 2 V.cS.length V.cS.flatten, .blk bn 110 (nmV b1 b2 b3 b4), .blk b4x 31 z31]) (fun _ _ _ h => StP.know hl2 (StP.drop h (.cons _ (.cons_cons _ (.cons_cons _ (.cons _ (.cons _ (.cons _ (.cons _ (.cons _ (.cons _ (.cons _ (.cons_cons _ (List.nil_sublist _)))))))))))))) rfl (e_append 8 rfl rfl rfl Tryz.underlying27 inf92 rfl rfl rfl (Cells.row0 0 rfl) hone (by omega) (by omega) (fun _ => rfl)) ?_
      rintro ⟨va, hva⟩
      have hva2 := hva
      obtain ⟨A9, c9, rfl, _⟩ := hva2
      repeat refine t4 ?_
      refine DW.sto 2 rfl rfl rfl rfl rfl rfl ?_
      repeat refine g1 ?_
      refine Post.bk (hJ := fun _ h => ?_) ⟨i + 1, _, { V with R := .slice A9 (V.cR.length + 1) c9, cR := V.cR ++ [[Value.string (Bc.mkRoad d n).Name, Value.int .i64 (Bc.mkRoad d n).From, Value.int .i64 (Bc.mkRoad d n).To, Value.int .i64 (Bc.mkRoad d n).Hours, Value.int .i64 (Bc.mkRoad d n).Flow, Value.int .i64 (Bc.mkRoad d n).By, Value.int .i64 (Bc.mkRoad d n).Limit]] }, Ψ2, rfl, rfl, rfl, h, hlΨ.trans hl2, ?_, hu⟩
      · exact ⟨hb.name, hb.cells, hb.err, ⟨hb.O.1, hb.O.2.mono hl2⟩, ⟨hb.P.1, hb.P.2.mono hl2⟩, ⟨hb.L.1, hb.L.2.mono hl2⟩, ⟨hb.T.1, hb.T.2.mono hl2⟩, ⟨hb.G.1, hb.G.2.mono hl2⟩, ⟨by show IsSl _ (List.length _); rw [List.length_append]; exact hva, Reps.snoc hrep0 (hb.R.2.mono hl2)⟩, ⟨hb.S.1, hb.S.2.mono hl2⟩, hb.Rm.mono hl2⟩
      · have hlen : (V.cR ++ [[Value.string (Bc.mkRoad d n).Name, Value.int .i64 (Bc.mkRoad d n).From, Value.int .i64 (Bc.mkRoad d n).To, Value.int .i64 (Bc.mkRoad d n).Hours, Value.int .i64 (Bc.mkRoad d n).Flow, Value.int .i64 (Bc.mkRoad d n).By, Value.int .i64 (Bc.mkRoad d n).Limit]]).length = V.cR.length + 1 := List.length_append
        have hfl : (V.cR ++ [[Value.string (Bc.mkRoad d n).Name, Value.int .i64 (Bc.mkRoad d n).From, Value.int .i64 (Bc.mkRoad d n).To, Value.int .i64 (Bc.mkRoad d n).Hours, Value.int .i64 (Bc.mkRoad d n).Flow, Value.int .i64 (Bc.mkRoad d n).By, Value.int .i64 (Bc.mkRoad d n).Limit]]).flatten = V.cR.flatten ++ [Value.string (Bc.mkRoad d n).Name, Value.int .i64 (Bc.mkRoad d n).From, Value.int .i64 (Bc.mkRoad d n).To, Value.int .i64 (Bc.mkRoad d n).Hours, Value.int .i64 (Bc.mkRoad d n).Flow, Value.int .i64 (Bc.mkRoad d n).By, Value.int .i64 (Bc.mkRoad d n).Limit] := by simp
        show StP _ _ _ _
        simp only [hlen, hfl]
        exact StP.drop h (.cons _ (.cons _ (List.Sublist.refl _)))
    rcases Decidable.em (so = [115, 104, 101, 108, 116, 101, 114]) with e6 | e6
    · rw [if_neg e0, if_neg e1, if_neg e2, if_neg e3, if_neg e4, if_neg e5, if_pos e6] at hb1
      repeat first | refine t2 ?_ | refine t3 ?_ | refine g1 ?_
      subst hb1
      have hcl := hb.S.2.len
      have hml : b.Shelters.length + 1 ≤ R.Shelters.length := by have := hle.S; simpa using this
      have hml2 := hL.S
      refine AW.draw (J0 := St ⟨w, Φ, []⟩ Ψ [.blk q 40 (ndC d kd), .blk b5 31 (bC b V), .blk bn 110 (nmV b1 b2 b3 b4)]) [.q, .q, .q, .q, .e, .q, .q, .q, .e, .e, .q, .e] [0, 1, 2, 5, 3, 4, 6, 7, 8, 9, 10, 11] hmix (by kernel_rfl) ?_
      repeat refine t4 ?_
      refine DW.cS (fun w Ψ9 hl h => StP.know hl (StP.drop h (.cons_cons _ (.cons_cons _ (.cons _ (.cons _ (.cons _ (.cons _ (.cons _ (.cons _ (.cons _ (.cons_cons _ (List.nil_sublist _))))))))))))) rfl (fun w1 hw1 => bword_c w1 Ψ hw1.phi hkd hwl) rfl rfl ?_
      rintro _ Ψ2 ⟨wv, rfl, -, -⟩ hl2
      refine DW.q (fun _ h => StP.know hl2 (StP.drop h (.cons_cons _ (.cons_cons _ (.cons _ (.cons _ (.cons _ (.cons _ (.cons _ (.cons _ (.cons _ (.cons_cons _ (List.nil_sublist _))))))))))))) rfl (qa_fld (cs := ndC (Bc.word d) wv) rfl rfl) ?_
      repeat first | refine t4 ?_ | refine t8 ?_
      refine DW.q (v := .agg #[.string (bs (Bc.word d).Text), .int .i64 (Bc.num d [114, 111, 111, 109] 0)]) (fun _ h => StP.know hl2 (StP.drop h (.cons_cons _ (.cons_cons _ (.cons _ (.cons _ (.cons _ (.cons _ (.cons _ (.cons _ (.cons _ (.cons_cons _ (List.nil_sublist _))))))))))))) rfl (q_build (vals := [(0, .string (bs (Bc.word d).Text)), (1, .int .i64 (Bc.num d [114, 111, 111, 109] 0))]) zero95 Tryz.underlying95 places95 rfl (by kernel_rfl)) ?_
      refine DW.eff _ _ (fun _ _ _ h => StP.know hl2 (StP.drop h (.cons _ (.cons_cons _ (.cons_cons _ (.cons _ (.cons _ (.cons _ (.cons _ (.cons _ (.cons _ (.cons _ (.cons_cons _ (List.nil_sublist _)))))))))))))) rfl (e_buildSlice (vals := [(0, .agg ([Value.string (bs (Bc.word d).Text), Value.int .i64 (Bc.num d [114, 111, 111, 109] 0)] : List Value).toArray)]) (cells := [Value.string (bs (Bc.word d).Text), Value.int .i64 (Bc.num d [114, 111, 111, 109] 0)]) Tryz.underlying28 inf95 rfl rfl rfl (by kernel_rfl) rfl) fun b6 => ?_
      refine DW.eff (fun xv : {vq : Value // IsSl vq (V.cS.length + 1)} => xv.1) (fun xv => St ⟨w, Φ, []⟩ Ψ2 [.row (.slice (some ⟨b6, 0, none⟩) 1 1) 95 2 1 ([Value.string (bs (Bc.word d).Text), Value.int .i64 (Bc.num d [114, 111, 111, 109] 0)]), .blk q 40 (ndC d kd), .blk b5 31 (bC b V), .row V.O 9 1 V.cO.length V.cO.flatten, .row V.P 58 12 V.cP.length V.cP.flatten, .row V.L 72 18 V.cL.length V.cL.flatten, .row V.T 84 7 V.cT.length V.cT.flatten, .row V.G 89 5 V.cG.length V.cG.flatten, .row V.R 92 7 V.cR.length V.cR.flatten, .row xv.1 95 2 (V.cS.length + 1) (V.cS.flatten ++ [Value.string (bs (Bc.word d).Text), Value.int .i64 (Bc.num d [114, 111, 111, 109] 0)]), .blk bn 110 (nmV b1 b2 b3 b4), .blk b4x 31 z31]) (fun _ _ _ h => StP.know hl2 (StP.drop h (.cons _ (.cons_cons _ (.cons_cons _ (.cons _ (.cons _ (.cons _ (.cons _ (.cons _ (.cons _ (.cons _ (.cons_cons _ (List.nil_sublist _)))))))))))))) rfl (e_append 9 rfl rfl rfl Tryz.underlying28 inf95 rfl rfl rfl (Cells.row0 0 rfl) rfl (by omega) (by omega) (fun _ => rfl)) ?_
      rintro ⟨va, hva⟩
      have hva2 := hva
      obtain ⟨A9, c9, rfl, _⟩ := hva2
      repeat refine t4 ?_
      refine DW.sto 2 rfl rfl rfl rfl rfl rfl ?_
      repeat refine g1 ?_
      refine Post.bk (hJ := fun _ h => ?_) ⟨i + 1, _, { V with S := .slice A9 (V.cS.length + 1) c9, cS := V.cS ++ [[Value.string (bs (Bc.word d).Text), Value.int .i64 (Bc.num d [114, 111, 111, 109] 0)]] }, Ψ2, rfl, rfl, rfl, h, hlΨ.trans hl2, ?_, hu⟩
      · exact ⟨hb.name, hb.cells, hb.err, ⟨hb.O.1, hb.O.2.mono hl2⟩, ⟨hb.P.1, hb.P.2.mono hl2⟩, ⟨hb.L.1, hb.L.2.mono hl2⟩, ⟨hb.T.1, hb.T.2.mono hl2⟩, ⟨hb.G.1, hb.G.2.mono hl2⟩, ⟨hb.R.1, hb.R.2.mono hl2⟩, ⟨by show IsSl _ (List.length _); rw [List.length_append]; exact hva, Reps.snoc (show Rep.rep Ψ2 (⟨bs (Bc.word d).Text, Bc.num d [114, 111, 111, 109] 0⟩ : Bt.Shelter) [Value.string (bs (Bc.word d).Text), Value.int .i64 (Bc.num d [114, 111, 111, 109] 0)] from ⟨rfl, word_len hkd, num_i64 hkd _ _⟩) (hb.S.2.mono hl2)⟩, hb.Rm.mono hl2⟩
      · have hlen : (V.cS ++ [[Value.string (bs (Bc.word d).Text), Value.int .i64 (Bc.num d [114, 111, 111, 109] 0)]]).length = V.cS.length + 1 := List.length_append
        have hfl : (V.cS ++ [[Value.string (bs (Bc.word d).Text), Value.int .i64 (Bc.num d [114, 111, 111, 109] 0)]]).flatten = V.cS.flatten ++ [Value.string (bs (Bc.word d).Text), Value.int .i64 (Bc.num d [114, 111, 111, 109] 0)] := by simp
        show StP _ _ _ _
        simp only [hlen, hfl]
        exact StP.drop h (.cons _ (.cons _ (List.Sublist.refl _)))
    rw [if_neg e0, if_neg e1, if_neg e2, if_neg e3, if_neg e4, if_neg e5, if_neg e6] at hb1
    subst hb1
    repeat first | refine t2 ?_ | refine t3 ?_ | refine g1 ?_
    exact Post.bk ⟨i + 1, _, V, Ψ, rfl, rfl, rfl, h, hlΨ, hb, hu⟩
  · have h : i = ds.length := by have := odF h; omega
    rw [h, List.drop_length] at hu
    replace hu : b = R := hu
    subst hu
    repeat refine g1 ?_
    refine RW.stA 9 rfl rfl rfl (bC_one hb) rfl rfl ?_
    repeat refine g1 ?_
    refine fin_res (vs := [.agg (bC b V).toArray]) rfl rfl ⟨.agg rfl rfl (Cells.blk 9 rfl), trivial⟩ rfl (fun w' hw => ⟨_, rfl, hw.below rfl, _, rfl, ?_⟩)
    have hx := hw.phi_ext
    exact ⟨V.O, V.P, V.L, V.T, V.G, V.R, V.S, V.Rm, rfl, ⟨hb.name, hb.cells, hb.err⟩, RowS.reps (row_ext hw 1 rfl) rfl (hb.O.2.mono hx) hb.O.2.len.symm (by have h1 := hb.O.2.len; have h2 := hL.O; show _ * 16 ≤ _; simp only [maxSl]; omega), RowS.reps (row_ext hw 2 rfl) rfl (hb.P.2.mono hx) hb.P.2.len.symm (by have h1 := hb.P.2.len; have h2 := hL.P; show _ * 152 ≤ _; simp only [maxSl]; omega), RowS.reps (row_ext hw 3 rfl) rfl (hb.L.2.mono hx) hb.L.2.len.symm (by have h1 := hb.L.2.len; have h2 := hL.L; show _ * 200 ≤ _; simp only [maxSl]; omega), RowS.reps (row_ext hw 4 rfl) rfl (hb.T.2.mono hx) hb.T.2.len.symm (by have h1 := hb.T.2.len; have h2 := hL.T; show _ * 64 ≤ _; simp only [maxSl]; omega), RowS.reps (row_ext hw 5 rfl) rfl (hb.G.2.mono hx) hb.G.2.len.symm (by have h1 := hb.G.2.len; have h2 := hL.G; show _ * 48 ≤ _; simp only [maxSl]; omega), RowS.reps (row_ext hw 6 rfl) rfl (hb.R.2.mono hx) hb.R.2.len.symm (by have h1 := hb.R.2.len; have h2 := hL.R; show _ * 64 ≤ _; simp only [maxSl]; omega), RowS.reps (row_ext hw 7 rfl) rfl (hb.S.2.mono hx) hb.S.2.len.symm (by have h1 := hb.S.2.len; have h2 := hL.S; show _ * 24 ≤ _; simp only [maxSl]; omega), hb.Rm.mono hx⟩
end Go.Proofs.YtpapfpoefiikpaaGreatDoor
