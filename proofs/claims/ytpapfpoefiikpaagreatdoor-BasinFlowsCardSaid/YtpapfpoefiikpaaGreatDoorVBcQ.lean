/- Lemmas. Conditions: those of each theorem. -/
import Derived.Test.YtpapfpoefiikpaaGreatDoorVBcO
set_option maxRecDepth 8000
set_option maxHeartbeats 16000000
namespace Go.Proofs.YtpapfpoefiikpaaGreatDoor
open Go Go.K Go.RowKit
attribute [local irreducible] AW RW DW Post Qt DT
abbrev lkV (x : Bt.Node) (n : Bc.Nm) (lv mv sv : Value) (p : Int) : List Value := [.string (bs (Bc.word x).Text), .int .i64 (Bc.linkKind x.Text), .int .i64 ((n.pl (Bc.text x [102, 114, 111, 109])).getD 0), .int .i64 (n.place (Bc.text x [116, 111])), lv, mv, sv, .int .i64 (Bc.num x [112, 111, 115, 105, 116, 105, 111, 110, 115] 0), .int .i64 (Bc.num x [115, 112, 101, 101, 100] 0), .int .i64 (Bc.num x [108, 101, 97, 107] 0), .int .i64 (Bc.num x [99, 114, 101, 115, 116] 0), .int .i64 p, .int .i64 (Bc.num x [112, 97, 114, 116] 1), .int .i64 (Bc.num x [112, 114, 105, 109, 101] 0), .int .i64 (Bc.num x [98, 114, 101, 97, 107] 0), .int .i64 (Bc.num x [98, 97, 99, 107] 0), .int .i64 (Bc.num x [98, 97, 99, 107] 1), .int .i64 (Bc.num x [100, 101, 108, 97, 121] 0)]
theorem lkV_one {x : Bt.Node} {n : Bc.Nm} {lv sv rv : Value} {p : Int} {a b c : Nat} (h1 : IsSl lv a) (h2 : IsSl sv b) (h3 : IsSl rv c) : (lkV x n lv sv rv p).all Value.oneCell' = true := by
  obtain ⟨_, _, rfl, _⟩ := h1
  obtain ⟨_, _, rfl, _⟩ := h2
  obtain ⟨_, _, rfl, _⟩ := h3
  rfl
abbrev z72 : List Value := [.string (bs []), .int .i64 0, .int .i64 0, .int .i64 0, .slice none 0 0, .slice none 0 0, .slice none 0 0, .int .i64 0, .int .i64 0, .int .i64 0, .int .i64 0, .int .i64 0, .int .i64 0, .int .i64 0, .int .i64 0, .int .i64 0, .int .i64 0, .int .i64 0]
theorem linkKind_i64 (k : List UInt8) : I64 (Bc.linkKind k) := by
  unfold Bc.linkKind
  repeat' split
  all_goals exact ⟨by decide, by decide⟩
theorem buildLink_c (w : World) (Φ : Hp) (hΦ : Hp.le Φ (hp w)) {x : Bt.Node} {kv : Value} (hk : RepSl Φ x.Kids kv) {n : Bc.Nm} {nv : Value} (hn : NmR Φ n nv) (hok : Bc.NOk n) (hwl : 0 < (Bc.wordsOf x).length) (h2 : ∀ k, k = [114, 97, 116, 101] ∨ k = [108, 111, 119] ∨ k = [104, 105, 103, 104] → ∀ y ∈ Bc.valsD x k, y.Kids.length = 2) :
    Calls pg 106 #[ndA x kv, nv] w (RetS Φ w fun r Ψ => ∃ cs, r = .agg cs.toArray ∧ Rep.rep Ψ (Bc.mkLink x n) cs) := by
  have hn2 := hn
  obtain ⟨b1, b2, b3, b4, rfl, g1', g2', g3', g4'⟩ := hn2
  refine in2 58 Tryz.func106 rfl rfl hΦ ?_
  repeat refine g1 ?_
  refine RW.bxA rfl rfl fun bx => ?_
  refine RW.bxA rfl rfl fun bn => ?_
  refine RW.alc rfl fun br => ?_
  repeat refine g1 ?_
  refine AW.drawT (J0 := St ⟨w, Φ, []⟩ Φ [.blk br 72 z72, .blk bn 110 (nmV b1 b2 b3 b4), .blk bx 40 (ndC x kv)]) (fun s J => ∃ b lv mv sv Ψ, s = [(5, .pointer (some ⟨b, 0, none⟩)), (4, .pointer (some ⟨br, 0, none⟩)), (2, .pointer (some ⟨bx, 0, none⟩))] ∧ J = St ⟨w, Φ, []⟩ Ψ [.blk b 72 (lkV x n lv mv sv (Bc.num x [112, 97, 114, 116] 0)), .blk br 72 z72, .blk bx 40 (ndC x kv)] ∧ Hp.le Φ Ψ ∧ RepSl Ψ (Bc.points x [114, 97, 116, 101]) lv ∧ RepSl Ψ (Bc.points x [108, 111, 119]) mv ∧ RepSl Ψ (Bc.points x [104, 105, 103, 104]) sv) (.q 0 (.q 3 (.q 4 (.q 6 (.q 7 (.q 8 (.q 11 (.q 12 (.q 15 (.q 17 (.q 19 (.q 22 (.q 24 (.q 26 (.q 28 (.q 30 (.q 32 (.q 34 (.q 36 (.q 38 (.q 40 (.q 42 (.f 1 45 (.q 2 (.q 5 (.q 9 (.q 10 (.q 13 (.q 14 (.f 16 45 (.f 18 45 (.f 20 45 (.q 21 (.q 23 (.q 25 (.q 27 (.q 29 (.q 31 (.q 33 (.q 35 (.q 37 (.q 39 (.q 41 (.q 43 (.q 44 (.e 45 (.e 46 .nil))))))))))))))) (.e 20 (.q 21 (.q 23 (.q 25 (.q 27 (.q 29 (.q 31 (.q 33 (.q 35 (.q 37 (.q 39 (.q 41 (.q 43 (.q 44 (.e 46 .nil)))))))))))))))) (.e 18 (.e 20 (.q 21 (.q 23 (.q 25 (.q 27 (.q 29 (.q 31 (.q 33 (.q 35 (.q 37 (.q 39 (.q 41 (.q 43 (.q 44 (.e 46 .nil))))))))))))))))) (.e 16 (.e 18 (.e 20 (.q 21 (.q 23 (.q 25 (.q 27 (.q 29 (.q 31 (.q 33 (.q 35 (.q 37 (.q 39 (.q 41 (.q 43 (.q 44 (.e 46 .nil)))))))))))))))))))))))) (.e 1 (.q 2 (.q 5 (.q 9 (.q 10 (.q 13 (.q 14 (.e 16 (.e 18 (.e 20 (.q 21 (.q 23 (.q 25 (.q 27 (.q 29 (.q 31 (.q 33 (.q 35 (.q 37 (.q 39 (.q 41 (.q 43 (.q 44 (.e 46 .nil))))))))))))))))))))))))))))))))))))))))))))))) hmix (by kernel_rfl) ?_ ?_
  · repeat refine t6 ?_
    refine DT.fk (fun w Ψ hl h => StP.know hl h) (fun b w h => StP.drop h (List.sublist_cons_self _ _)) rfl (fun w1 hw1 => bword_c w1 Φ hw1.phi hk hwl) rfl rfl ?_ fun b5 => ?_
    · skip
      rintro _ Ψ1 ⟨wv, rfl, -, -⟩ hl1
      repeat refine t6 ?_
      refine DT.fk (fun w Ψ hl h => StP.know (hl1.trans hl) h) (fun b w h => StP.know hl1 (StP.drop h (List.sublist_cons_self _ _))) rfl (fun w1 hw1 => bpoints_c w1 Ψ1 hw1.phi (hk.mono hl1) (h2 _ (.inl rfl))) rfl rfl ?_ fun b5 => ?_
      · skip
        rintro lv Ψ2 hlv hl2
        replace hl2 := hl1.trans hl2
        repeat refine t6 ?_
        refine DT.fk (fun w Ψ hl h => StP.know (hl2.trans hl) h) (fun b w h => StP.know hl2 (StP.drop h (List.sublist_cons_self _ _))) rfl (fun w1 hw1 => bpoints_c w1 Ψ2 hw1.phi (hk.mono hl2) (h2 _ (.inr (.inl rfl)))) rfl rfl ?_ fun b5 => ?_
        · skip
          rintro mv Ψ3 hmv hl3
          have hl23 := hl3
          replace hl3 := hl2.trans hl3
          repeat refine t6 ?_
          refine DT.fk (fun w Ψ hl h => StP.know (hl3.trans hl) h) (fun b w h => StP.know hl3 (StP.drop h (List.sublist_cons_self _ _))) rfl (fun w1 hw1 => bpoints_c w1 Ψ3 hw1.phi (hk.mono hl3) (h2 _ (.inr (.inr rfl)))) rfl rfl ?_ fun b5 => ?_
          · skip
            rintro sv Ψ4 hsv hl4
            have hl34 := hl4
            replace hl4 := hl3.trans hl4
            repeat refine t6 ?_
            obtain ⟨lA, lc, rfl, -⟩ := hlv.sl
            obtain ⟨mA, mc, rfl, -⟩ := hmv.sl
            obtain ⟨sA, sc, rfl, -⟩ := hsv.sl
            refine DT.qj (v := .agg #[.slice mA (Bc.points x [108, 111, 119]).length mc, .slice sA (Bc.points x [104, 105, 103, 104]).length sc]) rfl (q_build (vals := [(0, .slice mA (Bc.points x [108, 111, 119]).length mc), (1, .slice sA (Bc.points x [104, 105, 103, 104]).length sc)]) zero70 Tryz.underlying70 places70 rfl (by kernel_rfl)) ?_
            repeat refine t6 ?_
            refine DT.qj (v := .agg (lkV x n (.slice lA (Bc.points x [114, 97, 116, 101]).length lc) (.slice mA (Bc.points x [108, 111, 119]).length mc) (.slice sA (Bc.points x [104, 105, 103, 104]).length sc) (Bc.num x [112, 97, 114, 116] 0)).toArray) rfl (q_build (vals := [(0, .string (bs (Bc.word x).Text)), (1, .int .i64 (Bc.linkKind x.Text)), (2, .int .i64 ((n.pl (Bc.text x [102, 114, 111, 109])).getD 0)), (3, .int .i64 (n.place (Bc.text x [116, 111]))), (4, .slice lA (Bc.points x [114, 97, 116, 101]).length lc), (5, .agg #[.slice mA (Bc.points x [108, 111, 119]).length mc, .slice sA (Bc.points x [104, 105, 103, 104]).length sc]), (6, .int .i64 (Bc.num x [112, 111, 115, 105, 116, 105, 111, 110, 115] 0)), (7, .int .i64 (Bc.num x [115, 112, 101, 101, 100] 0)), (8, .int .i64 (Bc.num x [108, 101, 97, 107] 0)), (9, .int .i64 (Bc.num x [99, 114, 101, 115, 116] 0)), (10, .int .i64 (Bc.num x [112, 97, 114, 116] 0)), (11, .int .i64 (Bc.num x [112, 97, 114, 116] 1)), (12, .int .i64 (Bc.num x [112, 114, 105, 109, 101] 0)), (13, .int .i64 (Bc.num x [98, 114, 101, 97, 107] 0)), (14, .int .i64 (Bc.num x [98, 97, 99, 107] 0)), (15, .int .i64 (Bc.num x [98, 97, 99, 107] 1)), (16, .int .i64 (Bc.num x [100, 101, 108, 97, 121] 0))]) zero72 Tryz.underlying72 places72 rfl (by kernel_rfl)) ?_
            refine DT.al (fun b w h => StP.know hl4 (StP.drop h (List.sublist_cons_self _ _))) rfl fun b5 => ?_
            refine DT.stA 0 rfl rfl rfl rfl rfl rfl ?_
            exact DT.nil ⟨b5, _, _, _, Ψ4, rfl, rfl, hl4, hlv.mono (hl23.trans hl34), hmv.mono hl34, hsv⟩ ⟨rfl, rfl, rfl, trivial⟩ (fun _ h => StP.drop h (.cons_cons _ (.cons_cons _ (.cons _ (List.Sublist.refl _)))))
          · skip
            refine DT.cS (fun w Ψ hl h => StP.know (hl3.trans hl) (StP.drop h (List.sublist_cons_self _ _))) rfl (fun w1 hw1 => bpoints_c w1 Ψ3 hw1.phi (hk.mono hl3) (h2 _ (.inr (.inr rfl)))) rfl rfl ?_
            rintro sv Ψ4 hsv hl4
            have hl34 := hl4
            replace hl4 := hl3.trans hl4
            repeat refine t6 ?_
            obtain ⟨lA, lc, rfl, -⟩ := hlv.sl
            obtain ⟨mA, mc, rfl, -⟩ := hmv.sl
            obtain ⟨sA, sc, rfl, -⟩ := hsv.sl
            refine DT.qj (v := .agg #[.slice mA (Bc.points x [108, 111, 119]).length mc, .slice sA (Bc.points x [104, 105, 103, 104]).length sc]) rfl (q_build (vals := [(0, .slice mA (Bc.points x [108, 111, 119]).length mc), (1, .slice sA (Bc.points x [104, 105, 103, 104]).length sc)]) zero70 Tryz.underlying70 places70 rfl (by kernel_rfl)) ?_
            repeat refine t6 ?_
            refine DT.qj (v := .agg (lkV x n (.slice lA (Bc.points x [114, 97, 116, 101]).length lc) (.slice mA (Bc.points x [108, 111, 119]).length mc) (.slice sA (Bc.points x [104, 105, 103, 104]).length sc) (Bc.num x [112, 97, 114, 116] 0)).toArray) rfl (q_build (vals := [(0, .string (bs (Bc.word x).Text)), (1, .int .i64 (Bc.linkKind x.Text)), (2, .int .i64 ((n.pl (Bc.text x [102, 114, 111, 109])).getD 0)), (3, .int .i64 (n.place (Bc.text x [116, 111]))), (4, .slice lA (Bc.points x [114, 97, 116, 101]).length lc), (5, .agg #[.slice mA (Bc.points x [108, 111, 119]).length mc, .slice sA (Bc.points x [104, 105, 103, 104]).length sc]), (6, .int .i64 (Bc.num x [112, 111, 115, 105, 116, 105, 111, 110, 115] 0)), (7, .int .i64 (Bc.num x [115, 112, 101, 101, 100] 0)), (8, .int .i64 (Bc.num x [108, 101, 97, 107] 0)), (9, .int .i64 (Bc.num x [99, 114, 101, 115, 116] 0)), (10, .int .i64 (Bc.num x [112, 97, 114, 116] 0)), (11, .int .i64 (Bc.num x [112, 97, 114, 116] 1)), (12, .int .i64 (Bc.num x [112, 114, 105, 109, 101] 0)), (13, .int .i64 (Bc.num x [98, 114, 101, 97, 107] 0)), (14, .int .i64 (Bc.num x [98, 97, 99, 107] 0)), (15, .int .i64 (Bc.num x [98, 97, 99, 107] 1)), (16, .int .i64 (Bc.num x [100, 101, 108, 97, 121] 0))]) zero72 Tryz.underlying72 places72 rfl (by kernel_rfl)) ?_
            refine DT.stA 0 rfl rfl rfl rfl rfl rfl ?_
            exact DT.nil ⟨b5, _, _, _, Ψ4, rfl, rfl, hl4, hlv.mono (hl23.trans hl34), hmv.mono hl34, hsv⟩ ⟨rfl, rfl, rfl, trivial⟩ (fun _ h => StP.drop h (.cons_cons _ (.cons_cons _ (.cons _ (List.Sublist.refl _)))))
        · skip
          refine DT.cS (fun w Ψ hl h => StP.know (hl2.trans hl) (StP.drop h (List.sublist_cons_self _ _))) rfl (fun w1 hw1 => bpoints_c w1 Ψ2 hw1.phi (hk.mono hl2) (h2 _ (.inr (.inl rfl)))) rfl rfl ?_
          rintro mv Ψ3 hmv hl3
          have hl23 := hl3
          replace hl3 := hl2.trans hl3
          repeat refine t6 ?_
          refine DT.cS (fun w Ψ hl h => StP.know (hl3.trans hl) (StP.drop h (List.sublist_cons_self _ _))) rfl (fun w1 hw1 => bpoints_c w1 Ψ3 hw1.phi (hk.mono hl3) (h2 _ (.inr (.inr rfl)))) rfl rfl ?_
          rintro sv Ψ4 hsv hl4
          have hl34 := hl4
          replace hl4 := hl3.trans hl4
          repeat refine t6 ?_
          obtain ⟨lA, lc, rfl, -⟩ := hlv.sl
          obtain ⟨mA, mc, rfl, -⟩ := hmv.sl
          obtain ⟨sA, sc, rfl, -⟩ := hsv.sl
          refine DT.qj (v := .agg #[.slice mA (Bc.points x [108, 111, 119]).length mc, .slice sA (Bc.points x [104, 105, 103, 104]).length sc]) rfl (q_build (vals := [(0, .slice mA (Bc.points x [108, 111, 119]).length mc), (1, .slice sA (Bc.points x [104, 105, 103, 104]).length sc)]) zero70 Tryz.underlying70 places70 rfl (by kernel_rfl)) ?_
          repeat refine t6 ?_
          refine DT.qj (v := .agg (lkV x n (.slice lA (Bc.points x [114, 97, 116, 101]).length lc) (.slice mA (Bc.points x [108, 111, 119]).length mc) (.slice sA (Bc.points x [104, 105, 103, 104]).length sc) (Bc.num x [112, 97, 114, 116] 0)).toArray) rfl (q_build (vals := [(0, .string (bs (Bc.word x).Text)), (1, .int .i64 (Bc.linkKind x.Text)), (2, .int .i64 ((n.pl (Bc.text x [102, 114, 111, 109])).getD 0)), (3, .int .i64 (n.place (Bc.text x [116, 111]))), (4, .slice lA (Bc.points x [114, 97, 116, 101]).length lc), (5, .agg #[.slice mA (Bc.points x [108, 111, 119]).length mc, .slice sA (Bc.points x [104, 105, 103, 104]).length sc]), (6, .int .i64 (Bc.num x [112, 111, 115, 105, 116, 105, 111, 110, 115] 0)), (7, .int .i64 (Bc.num x [115, 112, 101, 101, 100] 0)), (8, .int .i64 (Bc.num x [108, 101, 97, 107] 0)), (9, .int .i64 (Bc.num x [99, 114, 101, 115, 116] 0)), (10, .int .i64 (Bc.num x [112, 97, 114, 116] 0)), (11, .int .i64 (Bc.num x [112, 97, 114, 116] 1)), (12, .int .i64 (Bc.num x [112, 114, 105, 109, 101] 0)), (13, .int .i64 (Bc.num x [98, 114, 101, 97, 107] 0)), (14, .int .i64 (Bc.num x [98, 97, 99, 107] 0)), (15, .int .i64 (Bc.num x [98, 97, 99, 107] 1)), (16, .int .i64 (Bc.num x [100, 101, 108, 97, 121] 0))]) zero72 Tryz.underlying72 places72 rfl (by kernel_rfl)) ?_
          refine DT.stA 0 rfl rfl rfl rfl rfl rfl ?_
          exact DT.nil ⟨b5, _, _, _, Ψ4, rfl, rfl, hl4, hlv.mono (hl23.trans hl34), hmv.mono hl34, hsv⟩ ⟨rfl, rfl, rfl, trivial⟩ (fun _ h => StP.drop h (.cons_cons _ (.cons_cons _ (.cons _ (List.Sublist.refl _)))))
      · skip
        refine DT.cS (fun w Ψ hl h => StP.know (hl1.trans hl) (StP.drop h (List.sublist_cons_self _ _))) rfl (fun w1 hw1 => bpoints_c w1 Ψ1 hw1.phi (hk.mono hl1) (h2 _ (.inl rfl))) rfl rfl ?_
        rintro lv Ψ2 hlv hl2
        replace hl2 := hl1.trans hl2
        repeat refine t6 ?_
        refine DT.cS (fun w Ψ hl h => StP.know (hl2.trans hl) (StP.drop h (List.sublist_cons_self _ _))) rfl (fun w1 hw1 => bpoints_c w1 Ψ2 hw1.phi (hk.mono hl2) (h2 _ (.inr (.inl rfl)))) rfl rfl ?_
        rintro mv Ψ3 hmv hl3
        have hl23 := hl3
        replace hl3 := hl2.trans hl3
        repeat refine t6 ?_
        refine DT.cS (fun w Ψ hl h => StP.know (hl3.trans hl) (StP.drop h (List.sublist_cons_self _ _))) rfl (fun w1 hw1 => bpoints_c w1 Ψ3 hw1.phi (hk.mono hl3) (h2 _ (.inr (.inr rfl)))) rfl rfl ?_
        rintro sv Ψ4 hsv hl4
        have hl34 := hl4
        replace hl4 := hl3.trans hl4
        repeat refine t6 ?_
        obtain ⟨lA, lc, rfl, -⟩ := hlv.sl
        obtain ⟨mA, mc, rfl, -⟩ := hmv.sl
        obtain ⟨sA, sc, rfl, -⟩ := hsv.sl
        refine DT.qj (v := .agg #[.slice mA (Bc.points x [108, 111, 119]).length mc, .slice sA (Bc.points x [104, 105, 103, 104]).length sc]) rfl (q_build (vals := [(0, .slice mA (Bc.points x [108, 111, 119]).length mc), (1, .slice sA (Bc.points x [104, 105, 103, 104]).length sc)]) zero70 Tryz.underlying70 places70 rfl (by kernel_rfl)) ?_
        repeat refine t6 ?_
        refine DT.qj (v := .agg (lkV x n (.slice lA (Bc.points x [114, 97, 116, 101]).length lc) (.slice mA (Bc.points x [108, 111, 119]).length mc) (.slice sA (Bc.points x [104, 105, 103, 104]).length sc) (Bc.num x [112, 97, 114, 116] 0)).toArray) rfl (q_build (vals := [(0, .string (bs (Bc.word x).Text)), (1, .int .i64 (Bc.linkKind x.Text)), (2, .int .i64 ((n.pl (Bc.text x [102, 114, 111, 109])).getD 0)), (3, .int .i64 (n.place (Bc.text x [116, 111]))), (4, .slice lA (Bc.points x [114, 97, 116, 101]).length lc), (5, .agg #[.slice mA (Bc.points x [108, 111, 119]).length mc, .slice sA (Bc.points x [104, 105, 103, 104]).length sc]), (6, .int .i64 (Bc.num x [112, 111, 115, 105, 116, 105, 111, 110, 115] 0)), (7, .int .i64 (Bc.num x [115, 112, 101, 101, 100] 0)), (8, .int .i64 (Bc.num x [108, 101, 97, 107] 0)), (9, .int .i64 (Bc.num x [99, 114, 101, 115, 116] 0)), (10, .int .i64 (Bc.num x [112, 97, 114, 116] 0)), (11, .int .i64 (Bc.num x [112, 97, 114, 116] 1)), (12, .int .i64 (Bc.num x [112, 114, 105, 109, 101] 0)), (13, .int .i64 (Bc.num x [98, 114, 101, 97, 107] 0)), (14, .int .i64 (Bc.num x [98, 97, 99, 107] 0)), (15, .int .i64 (Bc.num x [98, 97, 99, 107] 1)), (16, .int .i64 (Bc.num x [100, 101, 108, 97, 121] 0))]) zero72 Tryz.underlying72 places72 rfl (by kernel_rfl)) ?_
        refine DT.stA 0 rfl rfl rfl rfl rfl rfl ?_
        exact DT.nil ⟨b5, _, _, _, Ψ4, rfl, rfl, hl4, hlv.mono (hl23.trans hl34), hmv.mono hl34, hsv⟩ ⟨rfl, rfl, rfl, trivial⟩ (fun _ h => StP.drop h (.cons_cons _ (.cons_cons _ (.cons _ (List.Sublist.refl _)))))
    · skip
      refine DT.cS (fun w Ψ hl h => StP.know hl (StP.drop h (List.sublist_cons_self _ _))) rfl (fun w1 hw1 => bword_c w1 Φ hw1.phi hk hwl) rfl rfl ?_
      rintro _ Ψ1 ⟨wv, rfl, -, -⟩ hl1
      repeat refine t6 ?_
      refine DT.cS (fun w Ψ hl h => StP.know (hl1.trans hl) (StP.drop h (List.sublist_cons_self _ _))) rfl (fun w1 hw1 => bpoints_c w1 Ψ1 hw1.phi (hk.mono hl1) (h2 _ (.inl rfl))) rfl rfl ?_
      rintro lv Ψ2 hlv hl2
      replace hl2 := hl1.trans hl2
      repeat refine t6 ?_
      refine DT.cS (fun w Ψ hl h => StP.know (hl2.trans hl) (StP.drop h (List.sublist_cons_self _ _))) rfl (fun w1 hw1 => bpoints_c w1 Ψ2 hw1.phi (hk.mono hl2) (h2 _ (.inr (.inl rfl)))) rfl rfl ?_
      rintro mv Ψ3 hmv hl3
      have hl23 := hl3
      replace hl3 := hl2.trans hl3
      repeat refine t6 ?_
      refine DT.cS (fun w Ψ hl h => StP.know (hl3.trans hl) (StP.drop h (List.sublist_cons_self _ _))) rfl (fun w1 hw1 => bpoints_c w1 Ψ3 hw1.phi (hk.mono hl3) (h2 _ (.inr (.inr rfl)))) rfl rfl ?_
      rintro sv Ψ4 hsv hl4
      have hl34 := hl4
      replace hl4 := hl3.trans hl4
      repeat refine t6 ?_
      obtain ⟨lA, lc, rfl, -⟩ := hlv.sl
      obtain ⟨mA, mc, rfl, -⟩ := hmv.sl
      obtain ⟨sA, sc, rfl, -⟩ := hsv.sl
      refine DT.qj (v := .agg #[.slice mA (Bc.points x [108, 111, 119]).length mc, .slice sA (Bc.points x [104, 105, 103, 104]).length sc]) rfl (q_build (vals := [(0, .slice mA (Bc.points x [108, 111, 119]).length mc), (1, .slice sA (Bc.points x [104, 105, 103, 104]).length sc)]) zero70 Tryz.underlying70 places70 rfl (by kernel_rfl)) ?_
      repeat refine t6 ?_
      refine DT.qj (v := .agg (lkV x n (.slice lA (Bc.points x [114, 97, 116, 101]).length lc) (.slice mA (Bc.points x [108, 111, 119]).length mc) (.slice sA (Bc.points x [104, 105, 103, 104]).length sc) (Bc.num x [112, 97, 114, 116] 0)).toArray) rfl (q_build (vals := [(0, .string (bs (Bc.word x).Text)), (1, .int .i64 (Bc.linkKind x.Text)), (2, .int .i64 ((n.pl (Bc.text x [102, 114, 111, 109])).getD 0)), (3, .int .i64 (n.place (Bc.text x [116, 111]))), (4, .slice lA (Bc.points x [114, 97, 116, 101]).length lc), (5, .agg #[.slice mA (Bc.points x [108, 111, 119]).length mc, .slice sA (Bc.points x [104, 105, 103, 104]).length sc]), (6, .int .i64 (Bc.num x [112, 111, 115, 105, 116, 105, 111, 110, 115] 0)), (7, .int .i64 (Bc.num x [115, 112, 101, 101, 100] 0)), (8, .int .i64 (Bc.num x [108, 101, 97, 107] 0)), (9, .int .i64 (Bc.num x [99, 114, 101, 115, 116] 0)), (10, .int .i64 (Bc.num x [112, 97, 114, 116] 0)), (11, .int .i64 (Bc.num x [112, 97, 114, 116] 1)), (12, .int .i64 (Bc.num x [112, 114, 105, 109, 101] 0)), (13, .int .i64 (Bc.num x [98, 114, 101, 97, 107] 0)), (14, .int .i64 (Bc.num x [98, 97, 99, 107] 0)), (15, .int .i64 (Bc.num x [98, 97, 99, 107] 1)), (16, .int .i64 (Bc.num x [100, 101, 108, 97, 121] 0))]) zero72 Tryz.underlying72 places72 rfl (by kernel_rfl)) ?_
      refine DT.stA 0 rfl rfl rfl rfl rfl rfl ?_
      exact DT.nil ⟨b5, _, _, _, Ψ4, rfl, rfl, hl4, hlv.mono (hl23.trans hl34), hmv.mono hl34, hsv⟩ ⟨rfl, rfl, rfl, trivial⟩ (fun _ h => StP.drop h (.cons_cons _ (.cons_cons _ (.cons _ (List.Sublist.refl _)))))
  · rintro f' _ _ ⟨b5, lv, mv, sv, Ψ, rfl, rfl, hl, hlv, hmv, hsv⟩
    have hkΨ := hk.mono hl
    have hfin : ∀ (p : Int), (p = if Bc.linkKind x.Text = 2 then Bc.num x [112, 111, 119, 101, 114] 0 else Bc.num x [112, 97, 114, 116] 0) → ∀ w' : World, StP ⟨w, Φ, []⟩ Ψ [.blk b5 72 (lkV x n lv mv sv p), .blk br 72 (lkV x n lv mv sv p), .blk bx 40 (ndC x kv)] w' → RetS Φ w (fun r Ψ => ∃ cs, r = .agg cs.toArray ∧ Rep.rep Ψ (Bc.mkLink x n) cs) (.returned (.agg (lkV x n lv mv sv p).toArray)) w' := fun p hp w' hw => by
      refine ⟨_, rfl, hw.below rfl, _, rfl, lv, mv, sv, ?_, ⟨word_len hk, linkKind_i64 _, hok.pl _, hok.place _, num_i64 hk _ _, num_i64 hk _ _, num_i64 hk _ _, num_i64 hk _ _, ?_, num_i64 hk _ _, num_i64 hk _ _, num_i64 hk _ _, num_i64 hk _ _, num_i64 hk _ _, num_i64 hk _ _⟩, hlv.mono hw.phi_ext, hmv.mono hw.phi_ext, hsv.mono hw.phi_ext⟩
      · rw [hp]; rfl
      · show I64 (if Bc.linkKind x.Text = 2 then Bc.num x [112, 111, 119, 101, 114] 0 else Bc.num x [112, 97, 114, 116] 0)
        split <;> exact num_i64 hk _ _
    rcases Decidable.em (Bc.linkKind x.Text = 2) with h3 | h3
    · repeat first | refine t3 ?_ | refine t2 ?_ | refine g1 ?_
      refine RW.q rfl (q_num0 hkΨ rfl rfl) ?_
      repeat refine g1 ?_
      refine RW.stA 1 rfl rfl rfl (lkV_one hlv.sl hmv.sl hsv.sl) rfl rfl ?_
      repeat refine g1 ?_
      exact fin_res (vs := [.agg (lkV x n lv mv sv (Bc.num x [112, 111, 119, 101, 114] 0)).toArray]) rfl rfl ⟨.agg rfl rfl (Cells.blk 1 rfl), trivial⟩ rfl (fun w' hw => hfin _ (by rw [if_pos h3]) w' hw)
    · repeat first | refine t3 ?_ | refine t2 ?_ | refine g1 ?_
      refine RW.stA 1 rfl rfl rfl (lkV_one hlv.sl hmv.sl hsv.sl) rfl rfl ?_
      repeat refine g1 ?_
      exact fin_res (vs := [.agg (lkV x n lv mv sv (Bc.num x [112, 97, 114, 116] 0)).toArray]) rfl rfl ⟨.agg rfl rfl (Cells.blk 1 rfl), trivial⟩ rfl (fun w' hw => hfin _ (by rw [if_neg h3]) w' hw)
abbrev gaV (x : Bt.Node) (k t : Int) : List Value := [.string (bs (Bc.word x).Text), .int .i64 k, .int .i64 t, .int .i64 (Bc.num x [101, 114, 114] 0), .int .i64 (Bc.num x [100, 114, 105, 102, 116] 0)]
abbrev z89 : List Value := [.string (bs []), .int .i64 0, .int .i64 0, .int .i64 0, .int .i64 0]
theorem buildGauge_c (w : World) (Φ : Hp) (hΦ : Hp.le Φ (hp w)) {x : Bt.Node} {kv : Value} (hk : RepSl Φ x.Kids kv) {n : Bc.Nm} {nv : Value} (hn : NmR Φ n nv) (hok : Bc.NOk n) (hwl : 0 < (Bc.wordsOf x).length) :
    Calls pg 108 #[ndA x kv, nv] w (RetS Φ w fun r Ψ => ∃ cs, r = .agg cs.toArray ∧ Rep.rep Ψ (Bc.mkGauge x n) cs) := by
  have hn2 := hn
  obtain ⟨b1, b2, b3, b4, rfl, g1', g2', g3', g4'⟩ := hn2
  refine in2 49 Tryz.func108 rfl rfl hΦ ?_
  repeat refine g1 ?_
  refine RW.bxA rfl rfl fun bx => ?_
  refine RW.bxA rfl rfl fun bn => ?_
  refine RW.alc rfl fun br => ?_
  repeat refine g1 ?_
  refine AW.drawT (J0 := St ⟨w, Φ, []⟩ Φ [.blk br 89 z89, .blk bn 110 (nmV b1 b2 b3 b4), .blk bx 40 (ndC x kv)]) (fun s J => ∃ b Ψ, s = [(5, .pointer (some ⟨b, 0, none⟩)), (4, .pointer (some ⟨br, 0, none⟩)), (3, .pointer (some ⟨bn, 0, none⟩)), (2, .pointer (some ⟨bx, 0, none⟩))] ∧ J = St ⟨w, Φ, []⟩ Ψ [.blk b 89 (gaV x 0 0), .blk br 89 z89, .blk bn 110 (nmV b1 b2 b3 b4), .blk bx 40 (ndC x kv)] ∧ Hp.le Φ Ψ) (.q 0 (.q 3 (.q 5 (.f 1 8 (.q 2 (.q 4 (.q 6 (.q 7 (.e 8 (.e 9 .nil)))))) (.e 1 (.q 2 (.q 4 (.q 6 (.q 7 (.e 9 .nil)))))))))) hmix (by kernel_rfl) ?_ ?_
  · repeat refine t6 ?_
    refine DT.fk (fun w Ψ hl h => StP.know hl h) (fun b w h => StP.drop h (List.sublist_cons_self _ _)) rfl (fun w1 hw1 => bword_c w1 Φ hw1.phi hk hwl) rfl rfl ?_ fun b5 => ?_
    · skip
      rintro _ Ψ1 ⟨wv, rfl, -, -⟩ hl1
      repeat refine t6 ?_
      refine DT.qj (v := .agg (gaV x 0 0).toArray) rfl (q_build (vals := [(0, .string (bs (Bc.word x).Text)), (3, .int .i64 (Bc.num x [101, 114, 114] 0)), (4, .int .i64 (Bc.num x [100, 114, 105, 102, 116] 0))]) zero89 Tryz.underlying89 places89 rfl (by kernel_rfl)) ?_
      refine DT.al (fun b w h => StP.know hl1 (StP.drop h (List.sublist_cons_self _ _))) rfl fun b5 => ?_
      refine DT.stA 0 rfl rfl rfl rfl rfl rfl ?_
      exact DT.nil ⟨b5, Ψ1, rfl, rfl, hl1⟩ ⟨rfl, rfl, rfl, rfl, trivial⟩ (fun _ h => h)
    · skip
      refine DT.cS (fun w Ψ hl h => StP.know hl (StP.drop h (List.sublist_cons_self _ _))) rfl (fun w1 hw1 => bword_c w1 Φ hw1.phi hk hwl) rfl rfl ?_
      rintro _ Ψ1 ⟨wv, rfl, -, -⟩ hl1
      repeat refine t6 ?_
      refine DT.qj (v := .agg (gaV x 0 0).toArray) rfl (q_build (vals := [(0, .string (bs (Bc.word x).Text)), (3, .int .i64 (Bc.num x [101, 114, 114] 0)), (4, .int .i64 (Bc.num x [100, 114, 105, 102, 116] 0))]) zero89 Tryz.underlying89 places89 rfl (by kernel_rfl)) ?_
      refine DT.stA 0 rfl rfl rfl rfl rfl rfl ?_
      exact DT.nil ⟨b5, Ψ1, rfl, rfl, hl1⟩ ⟨rfl, rfl, rfl, rfl, trivial⟩ (fun _ h => h)
  · rintro f' _ _ ⟨b5, Ψ, rfl, rfl, hl⟩
    have hkΨ := hk.mono hl
    have hnΨ := hn.mono hl
    have k1 := kmap_mono g1' hl
    have k2 := kmap_mono g2' hl
    have hfin : ∀ (k t : Int), I64 k → I64 t → Bc.mkGauge x n = ⟨bs (Bc.word x).Text, k, t, Bc.num x [101, 114, 114] 0, Bc.num x [100, 114, 105, 102, 116] 0⟩ → ∀ w' : World, StP ⟨w, Φ, []⟩ Ψ [.blk b5 89 (gaV x k t), .blk br 89 (gaV x k t), .blk bn 110 (nmV b1 b2 b3 b4), .blk bx 40 (ndC x kv)] w' → RetS Φ w (fun r Ψ => ∃ cs, r = .agg cs.toArray ∧ Rep.rep Ψ (Bc.mkGauge x n) cs) (.returned (.agg (gaV x k t).toArray)) w' := fun k t hk1 ht h w' hw => by
      refine ⟨_, rfl, hw.below rfl, _, rfl, ?_⟩
      rw [h]
      exact ⟨rfl, word_len hk, hk1, ht, num_i64 hk _ _, num_i64 hk _ _⟩
    have hmk : Bc.mkGauge x n = if (Bc.vals x [118, 111, 108, 117, 109, 101]).isSome = true then ⟨bs (Bc.word x).Text, 0, (n.pl (Bc.text x [118, 111, 108, 117, 109, 101])).getD 0, Bc.num x [101, 114, 114] 0, Bc.num x [100, 114, 105, 102, 116] 0⟩ else if (Bc.vals x [102, 97, 108, 108]).isSome = true then ⟨bs (Bc.word x).Text, 1, Bc.num x [102, 97, 108, 108] 0, Bc.num x [101, 114, 114] 0, Bc.num x [100, 114, 105, 102, 116] 0⟩ else ⟨bs (Bc.word x).Text, 2, (n.lk (Bc.text x [112, 111, 115, 105, 116, 105, 111, 110])).getD 0, Bc.num x [101, 114, 114] 0, Bc.num x [100, 114, 105, 102, 116] 0⟩ := rfl
    repeat refine g1 ?_
    refine RW.vals hkΨ rfl rfl rfl fun v hv => ?_
    repeat refine g1 ?_
    refine AW.cond rfl (fun h3 => ?_) fun h3 => ?_
    · rw [if_pos h3] at hmk
      refine AW.draw (J0 := St ⟨w, Φ, []⟩ Ψ [.blk bn 110 (nmV b1 b2 b3 b4), .blk bx 40 (ndC x kv)]) [.q, .q, .q, .q, .q, .q, .e, .q, .e] [0, 1, 2, 3, 4, 5, 6, 7, 8] hmix (by kernel_rfl) ?_
      repeat first | refine t4 ?_ | refine t8 ?_
      refine DW.stoM 0 rfl rfl rfl rfl rfl rfl (fun _ h => StP.drop h (.cons _ (.cons _ (List.Sublist.refl _)))) ?_
      repeat refine t4 ?_
      refine DW.sto 0 rfl rfl rfl rfl rfl rfl ?_
      repeat refine g1 ?_
      exact fin_res (vs := [.agg (gaV x 0 ((n.pl (Bc.text x [118, 111, 108, 117, 109, 101])).getD 0)).toArray]) rfl rfl ⟨.agg rfl rfl (Cells.blk 1 rfl), trivial⟩ rfl (hfin _ _ ⟨by decide, by decide⟩ (hok.pl _) hmk)
    · rw [if_neg (by rw [h3]; simp)] at hmk
      repeat refine g1 ?_
      refine RW.vals hkΨ rfl rfl rfl fun v hv => ?_
      repeat refine g1 ?_
      refine AW.cond rfl (fun h4 => ?_) fun h4 => ?_
      · rw [if_pos h4] at hmk
        repeat refine g1 ?_
        refine RW.q rfl (q_num0 hkΨ rfl rfl) ?_
        repeat refine g1 ?_
        exact fin_res (vs := [.agg (gaV x 1 (Bc.num x [102, 97, 108, 108] 0)).toArray]) rfl rfl ⟨.agg rfl rfl (Cells.blk 1 rfl), trivial⟩ rfl (hfin _ _ ⟨by decide, by decide⟩ (num_i64 hk _ _) hmk)
      · rw [if_neg (by rw [h4]; simp)] at hmk
        refine AW.draw (J0 := St ⟨w, Φ, []⟩ Ψ [.blk bn 110 (nmV b1 b2 b3 b4), .blk bx 40 (ndC x kv)]) [.q, .q, .q, .q, .q, .q, .e, .q, .e] [0, 1, 2, 3, 4, 5, 6, 7, 8] hmix (by kernel_rfl) ?_
        repeat first | refine t4 ?_ | refine t8 ?_
        refine DW.stoM 0 rfl rfl rfl rfl rfl rfl (fun _ h => StP.drop h (.cons _ (.cons _ (List.Sublist.refl _)))) ?_
        repeat refine t4 ?_
        refine DW.sto 0 rfl rfl rfl rfl rfl rfl ?_
        repeat refine g1 ?_
        exact fin_res (vs := [.agg (gaV x 2 ((n.lk (Bc.text x [112, 111, 115, 105, 116, 105, 111, 110])).getD 0)).toArray]) rfl rfl ⟨.agg rfl rfl (Cells.blk 1 rfl), trivial⟩ rfl (hfin _ _ ⟨by decide, by decide⟩ (hok.lk _) hmk)
abbrev roV (x : Bt.Node) (n : Bc.Nm) (b l : Int) : List Value := [.string (bs (Bc.word x).Text), .int .i64 ((n.tn (Bc.text x [102, 114, 111, 109])).getD 0), .int .i64 ((n.en (Bc.text x [116, 111])).getD 0), .int .i64 (Bc.num x [116, 105, 109, 101] 0), .int .i64 (Bc.num x [102, 108, 111, 119] 0), .int .i64 b, .int .i64 l]
abbrev z92 : List Value := [.string (bs []), .int .i64 0, .int .i64 0, .int .i64 0, .int .i64 0, .int .i64 0, .int .i64 0]
theorem buildRoad_c (w : World) (Φ : Hp) (hΦ : Hp.le Φ (hp w)) {x : Bt.Node} {kv : Value} (hk : RepSl Φ x.Kids kv) {n : Bc.Nm} {nv : Value} (hn : NmR Φ n nv) (hok : Bc.NOk n) (hwl : 0 < (Bc.wordsOf x).length) :
    Calls pg 109 #[ndA x kv, nv] w (RetS Φ w fun r Ψ => ∃ cs, r = .agg cs.toArray ∧ Rep.rep Ψ (Bc.mkRoad x n) cs) := by
  have hn2 := hn
  obtain ⟨b1, b2, b3, b4, rfl, g1', g2', g3', g4'⟩ := hn2
  refine in2 42 Tryz.func109 rfl rfl hΦ ?_
  repeat refine g1 ?_
  refine RW.bxA rfl rfl fun bx => ?_
  refine RW.bxA rfl rfl fun bn => ?_
  refine RW.alc rfl fun br => ?_
  repeat refine g1 ?_
  refine AW.drawT (J0 := St ⟨w, Φ, []⟩ Φ [.blk br 92 z92, .blk bn 110 (nmV b1 b2 b3 b4), .blk bx 40 (ndC x kv)]) (fun s J => ∃ b Ψ, s = [(5, .pointer (some ⟨b, 0, none⟩)), (4, .pointer (some ⟨br, 0, none⟩)), (3, .pointer (some ⟨bn, 0, none⟩)), (2, .pointer (some ⟨bx, 0, none⟩))] ∧ J = St ⟨w, Φ, []⟩ Ψ [.blk b 92 (roV x n (-1) 0), .blk br 92 z92, .blk bn 110 (nmV b1 b2 b3 b4), .blk bx 40 (ndC x kv)] ∧ Hp.le Φ Ψ) (.q 0 (.q 3 (.q 4 (.q 5 (.q 8 (.q 9 (.q 10 (.q 13 (.q 15 (.f 1 18 (.q 2 (.q 6 (.q 7 (.q 11 (.q 12 (.q 14 (.q 16 (.q 17 (.e 18 (.e 19 .nil)))))))))) (.e 1 (.q 2 (.q 6 (.q 7 (.q 11 (.q 12 (.q 14 (.q 16 (.q 17 (.e 19 .nil)))))))))))))))))))) hmix (by kernel_rfl) ?_ ?_
  · repeat refine t6 ?_
    refine DT.fk (fun w Ψ hl h => StP.know hl h) (fun b w h => StP.drop h (List.sublist_cons_self _ _)) rfl (fun w1 hw1 => bword_c w1 Φ hw1.phi hk hwl) rfl rfl ?_ fun b5 => ?_
    · skip
      rintro _ Ψ1 ⟨wv, rfl, -, -⟩ hl1
      repeat refine t6 ?_
      refine DT.qj (v := .agg (roV x n (-1) 0).toArray) rfl (q_build (vals := [(0, .string (bs (Bc.word x).Text)), (1, .int .i64 ((n.tn (Bc.text x [102, 114, 111, 109])).getD 0)), (2, .int .i64 ((n.en (Bc.text x [116, 111])).getD 0)), (3, .int .i64 (Bc.num x [116, 105, 109, 101] 0)), (4, .int .i64 (Bc.num x [102, 108, 111, 119] 0)), (5, .int .i64 (-1))]) zero92 Tryz.underlying92 places92 rfl (by kernel_rfl)) ?_
      refine DT.al (fun b w h => StP.know hl1 (StP.drop h (List.sublist_cons_self _ _))) rfl fun b5 => ?_
      refine DT.stA 0 rfl rfl rfl rfl rfl rfl ?_
      exact DT.nil ⟨b5, Ψ1, rfl, rfl, hl1⟩ ⟨rfl, rfl, rfl, rfl, trivial⟩ (fun _ h => h)
    · skip
      refine DT.cS (fun w Ψ hl h => StP.know hl (StP.drop h (List.sublist_cons_self _ _))) rfl (fun w1 hw1 => bword_c w1 Φ hw1.phi hk hwl) rfl rfl ?_
      rintro _ Ψ1 ⟨wv, rfl, -, -⟩ hl1
      repeat refine t6 ?_
      refine DT.qj (v := .agg (roV x n (-1) 0).toArray) rfl (q_build (vals := [(0, .string (bs (Bc.word x).Text)), (1, .int .i64 ((n.tn (Bc.text x [102, 114, 111, 109])).getD 0)), (2, .int .i64 ((n.en (Bc.text x [116, 111])).getD 0)), (3, .int .i64 (Bc.num x [116, 105, 109, 101] 0)), (4, .int .i64 (Bc.num x [102, 108, 111, 119] 0)), (5, .int .i64 (-1))]) zero92 Tryz.underlying92 places92 rfl (by kernel_rfl)) ?_
      refine DT.stA 0 rfl rfl rfl rfl rfl rfl ?_
      exact DT.nil ⟨b5, Ψ1, rfl, rfl, hl1⟩ ⟨rfl, rfl, rfl, rfl, trivial⟩ (fun _ h => h)
  · rintro f' _ _ ⟨b5, Ψ, rfl, rfl, hl⟩
    have hkΨ := hk.mono hl
    have hnΨ := hn.mono hl
    have k1 := kmap_mono g1' hl
    have hfin : ∀ (k t : Int), I64 k → I64 t → Bc.mkRoad x n = ⟨bs (Bc.word x).Text, (n.tn (Bc.text x [102, 114, 111, 109])).getD 0, (n.en (Bc.text x [116, 111])).getD 0, Bc.num x [116, 105, 109, 101] 0, Bc.num x [102, 108, 111, 119] 0, k, t⟩ → ∀ w' : World, StP ⟨w, Φ, []⟩ Ψ [.blk b5 92 (roV x n k t), .blk br 92 (roV x n k t), .blk bn 110 (nmV b1 b2 b3 b4), .blk bx 40 (ndC x kv)] w' → RetS Φ w (fun r Ψ => ∃ cs, r = .agg cs.toArray ∧ Rep.rep Ψ (Bc.mkRoad x n) cs) (.returned (.agg (roV x n k t).toArray)) w' := fun k t hk1 ht h w' hw => by
      refine ⟨_, rfl, hw.below rfl, _, rfl, ?_⟩
      rw [h]
      exact ⟨rfl, word_len hk, hok.tn _, hok.en _, num_i64 hk _ _, num_i64 hk _ _, hk1, ht⟩
    have hmk : Bc.mkRoad x n = if (Bc.vals x [98, 121]).isSome = true then ⟨bs (Bc.word x).Text, (n.tn (Bc.text x [102, 114, 111, 109])).getD 0, (n.en (Bc.text x [116, 111])).getD 0, Bc.num x [116, 105, 109, 101] 0, Bc.num x [102, 108, 111, 119] 0, (n.pl (Bc.text x [98, 121])).getD 0, Bc.num x [108, 105, 109, 105, 116] 0⟩ else ⟨bs (Bc.word x).Text, (n.tn (Bc.text x [102, 114, 111, 109])).getD 0, (n.en (Bc.text x [116, 111])).getD 0, Bc.num x [116, 105, 109, 101] 0, Bc.num x [102, 108, 111, 119] 0, -1, 0⟩ := rfl
    repeat refine g1 ?_
    refine RW.vals hkΨ rfl rfl rfl fun v hv => ?_
    repeat refine g1 ?_
    refine AW.cond rfl (fun h3 => ?_) fun h3 => ?_
    · rw [if_pos h3] at hmk
      refine AW.draw (J0 := St ⟨w, Φ, []⟩ Ψ [.blk bn 110 (nmV b1 b2 b3 b4), .blk bx 40 (ndC x kv)]) [.q, .q, .q, .q, .q, .q, .q, .q, .e, .q, .e] [0, 1, 2, 3, 4, 5, 6, 7, 8, 9, 10] hmix (by kernel_rfl) ?_
      repeat first | refine t4 ?_ | refine t8 ?_
      refine DW.stoM 0 rfl rfl rfl rfl rfl rfl (fun _ h => StP.drop h (.cons _ (.cons _ (List.Sublist.refl _)))) ?_
      repeat refine t4 ?_
      refine DW.sto 0 rfl rfl rfl rfl rfl rfl ?_
      repeat refine g1 ?_
      exact fin_res (vs := [.agg (roV x n ((n.pl (Bc.text x [98, 121])).getD 0) (Bc.num x [108, 105, 109, 105, 116] 0)).toArray]) rfl rfl ⟨.agg rfl rfl (Cells.blk 1 rfl), trivial⟩ rfl (hfin _ _ (hok.pl _) (num_i64 hk _ _) hmk)
    · rw [if_neg (by rw [h3]; simp)] at hmk
      repeat refine g1 ?_
      exact fin_res (vs := [.agg (roV x n (-1) 0).toArray]) rfl rfl ⟨.agg rfl rfl (Cells.blk 1 rfl), trivial⟩ rfl (hfin _ _ ⟨by decide, by decide⟩ ⟨by decide, by decide⟩ hmk)
end Go.Proofs.YtpapfpoefiikpaaGreatDoor
