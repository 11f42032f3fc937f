/- Lemmas. Conditions: those of each theorem. -/
import Derived.Test.YtpapfpoefiikpaaGreatDoorVBcF
set_option maxRecDepth 8000
set_option maxHeartbeats 16000000
namespace Go.Proofs.YtpapfpoefiikpaaGreatDoor
open Go Go.K Go.RowKit
theorem pr_at {Φ : Hp} {xs : List Bc.Prp} {v : Value} (hk : RepSl Φ xs v) {i : Nat} (hi : i < xs.length) : ∃ kv, RepSl Φ (xs.getD i default).values kv ∧ (xs.getD i default).name.size ≤ maxLen ∧ ∀ j u, ([.string (xs.getD i default).name, kv, .bool (xs.getD i default).many, .bool (xs.getD i default).missing] : List Value)[j]? = some u → PCell Φ (Value.at v (i * 4 + j)) u := by
  obtain ⟨cs, h1, h2⟩ := hk.whole hi
  obtain ⟨kv, rfl, h3, h4⟩ := h1
  exact ⟨kv, h4, h3, h2⟩
abbrev prC (p : Bc.Prp) (v : Value) : List Value := [.string p.name, v, .bool p.many, .bool p.missing]
abbrev K9 := pv
theorem prC_one {p : Bc.Prp} {v : Value} {n : Nat} (h : IsSl v n) : (prC p v).all Value.oneCell' = true := by
  obtain ⟨A, c, rfl, _⟩ := h
  rfl
section
variable {N : Nat} {D : List Deferred} {ops : Array Oper} {Q : Exit → Act → World → Prop} {Pn : List PanicEntry → World → Prop} [hQ : PanQ D Q Pn] {f : Nat → Value} {s : List (Nat × Value)} {B : Bs} {Φ : Hp} {C : List Chunk} {rest : List Oper} {ty1 ty2 ty3 ty4 : TypeId} {p1 p2 p3 p4 : String} {e1 e2 e3 e4 : Array Edge} {a b c d : Nat} {x y : Operand} {v : Value}
theorem RW.pr {xs : List Bc.Prp} {i : Nat} (hk : RepSl Φ xs v) (hi : i < xs.length) (hN : (Nat.blt a N && Nat.blt b N && Nat.blt c N) = true) (hca : Nat.beq b c = false) (hx : ev (fr f s) x = v) (hy : ev (fr f s) y = .int .i64 (i : Int))
    (k : ∀ kv q, RepSl Φ (xs.getD i default).values kv → (xs.getD i default).name.data.toList.length ≤ maxLen → RW pg N D ops Q rest f ((c, .pointer (some ⟨q, 0, none⟩)) :: (b, prA (xs.getD i default) kv) :: (a, .pointer (some (Value.at v (i * 4)))) :: s) (St B Φ (.blk q 167 (prC (xs.getD i default) kv) :: C))) :
    RW pg N D ops Q (⟨some a, .indexAddr 157 x y, ty1, p1, e1, none⟩ :: ⟨some b, .load 167 (.tmp a), ty2, p2, e2, none⟩ :: ⟨some c, .alloc 167, ty3, p3, e3, none⟩ :: ⟨none, .store 167 (.tmp c) (.tmp b), ty4, p4, e4, none⟩ :: rest) f s (St B Φ C) := by
  simp only [Bool.and_eq_true] at hN
  obtain ⟨kv, h1, h2, h3⟩ := pr_at hk hi
  refine RW.q hN.1.1 (qa_ixN hx hy hk.sl hi) (RW.q (v := prA (xs.getD i default) kv) hN.1.2 (qa_ldA (cs := prC (xs.getD i default) kv) (by simp [ev, fr]) (Cells.phiK (n := i * 4) h3) rfl) (RW.alc hN.2 fun q => ?_))
  refine RW.effn (J' := St B Φ (.blk q 167 (prC (xs.getD i default) kv) :: C)) (e_store (v := prA (xs.getD i default) kv) 0 rfl (by simp [ev, fr]; rfl) (by simp [ev, fr, hca]) sz167 rfl (prC_one h1.sl) rfl rfl rfl) (k kv q h1 h2)
end
attribute [local irreducible] AW RW DW Post Qt
theorem wanted_c (w : World) (Φ : Hp) (hΦ : Hp.le Φ (hp w)) {x : Bt.Node} {kv : Value} (hk : RepSl Φ x.Kids kv) {ps : List Bc.Prp} {lv : Value} (hps : RepSl Φ ps lv) {n : List UInt8} : Calls pg 99 #[ndA x kv, lv, .string (bs n)] w (RetS Φ w fun r Ψ => ∃ v, r = .tuple #[prA ((Bc.wanted x n ps).getD default) v, .bool (Bc.wanted x n ps).isSome] ∧ RepSl Ψ ((Bc.wanted x n ps).getD default).values v) := by
  have hvm : ps.length * 48 ≤ 140737488355328 := hps.max
  obtain ⟨A, c, rfl, _⟩ := hps.sl
  refine in3 40 Tryz.func99 rfl rfl hΦ ?_
  repeat refine g1 ?_
  refine RW.bxA rfl rfl fun b3 => ?_
  refine RW.alc rfl fun b6 => ?_
  repeat refine g1 ?_
  refine AW.lp (fun s J m => ∃ i : Nat, s = [(14, .int .i64 (i : Int)), (13, .int .i64 ((ps.length : Nat) : Int)), (12, .slice A ps.length c), (6, .pointer (some ⟨b6, 0, none⟩)), (3, .pointer (some ⟨b3, 0, none⟩)), (2, .string (bs n))] ∧ J = St ⟨w, Φ, []⟩ Φ [.blk b6 167 (prC default (.slice none 0 0)), .blk b3 40 (ndC x kv)] ∧ m = ps.length - i ∧ i ≤ ps.length ∧ Bc.wanted x n ps = Bc.wanted x n (ps.drop i)) ⟨0, rfl, rfl, rfl, Nat.zero_le _, rfl⟩ ?_
  rintro _ _ _ _ ⟨i, rfl, rfl, rfl, hi, hu⟩
  repeat refine g1 ?_
  refine AW.cond rfl (fun h => ?_) fun h => ?_
  · have h : i < ps.length := by simpa using h
    rw [drop_at h] at hu
    repeat refine g1 ?_
    refine RW.pr hps h rfl rfl rfl rfl fun pv q hpv _ => ?_
    generalize hn : ps.getD i default = p at *
    repeat refine g1 ?_
    refine RW.q rfl (q_neqStr (l := p.name.data.toList) (r := n) rfl rfl) ?_
    repeat refine g1 ?_
    refine AW.cond rfl (fun h1 => ?_) fun h1 => ?_
    · have h1 : p.name.data.toList ≠ n := by simpa using h1
      rw [Bc.wanted, if_neg h1] at hu
      repeat refine g1 ?_
      exact Post.bk ⟨i + 1, rfl, rfl, rfl, h, hu⟩
    have h1 : p.name.data.toList = n := by simpa using h1
    rw [Bc.wanted, if_pos h1] at hu
    repeat first | refine g1 ?_ | refine t1 ?_
    refine RW.g rfl rfl rfl (fun h => q_eqlStr (l := n) (r := [101, 114, 114]) (gv_pos h) rfl) ?_
    refine RW.pkA rfl rfl rfl rfl fun q1 hq => ?_
    repeat refine g1 ?_
    have hnot : ¬ (x.Text = [103, 97, 117, 103, 101] ∧ n = [101, 114, 114] ∧ (Bc.vals x [112, 111, 115, 105, 116, 105, 111, 110]).isSome = true) → Bc.wanted x n ps = some p := fun h => by rw [hu, if_neg h]
    refine AW.mid (fun s J => s = [(9, .pointer (some ⟨q, 0, none⟩)), (6, .pointer (some ⟨b6, 0, none⟩))] ∧ J = St ⟨w, Φ, []⟩ Φ [.blk q 167 (prC p pv), .blk b6 167 (prC default (.slice none 0 0))] ∧ Bc.wanted x n ps = some p) ?_ ?_
    · refine AW.cond rfl (fun h2 => ?_) fun h2 => ?_
      · have h3 : x.Text = [103, 97, 117, 103, 101] ∧ n = [101, 114, 114] := by rw [h2] at hq; simpa using hq
        repeat refine g1 ?_
        refine RW.vals hk rfl rfl rfl fun v hv => ?_
        repeat refine g1 ?_
        refine AW.cond rfl (fun h4 => ?_) fun h4 => ?_
        · rw [if_pos ⟨h3.1, h3.2, h4⟩] at hu
          repeat refine g1 ?_
          refine RW.eff _ _ rfl (e_buildSlice (vals := [(0, .string (bs [67]))]) (cells := [.string (bs [67])]) Tryz.underlying22 inf9 rfl rfl rfl (by kernel_rfl) rfl) fun b9 => RW.frz fun Ψ hlΨ hsat => ?_
          refine RW.c rfl (fun w _ => one_c w) rfl rfl ?_
          refine RW.stA 1 rfl rfl rfl rfl rfl rfl ?_
          repeat first | refine g1 ?_ | refine Post.mid_r ?_
          refine fin_res (vs := [K9 (bs [101, 114, 114]) b9 1 false false, .bool true]) rfl rfl ⟨.agg rfl rfl (Cells.blk 1 rfl), .tmp rfl, trivial⟩ rfl (fun w' hw => ⟨_, rfl, hw.below rfl, sl1 b9 1, by rw [hu]; rfl, by rw [hu]; exact (sRow_rep (ss := [bs [67]]) hsat rfl (by decide) (by decide)).mono hw.phi_ext⟩)
        · repeat refine g1 ?_
          exact Post.mid_n ⟨rfl, rfl, hnot (fun h => by rw [h.2.2] at h4; cases h4)⟩ ⟨rfl, rfl, trivial⟩ (fun _ h => StP.drop h (.cons_cons _ (.cons_cons _ (List.nil_sublist _))))
      · repeat refine g1 ?_
        exact Post.mid_n ⟨rfl, rfl, hnot (fun h => by rw [h2] at hq; simp [h.1, h.2.1] at hq)⟩ ⟨rfl, rfl, trivial⟩ (fun _ h => StP.drop h (.cons_cons _ (.cons_cons _ (List.nil_sublist _))))
    rintro f' _ _ ⟨rfl, rfl, hu⟩
    repeat refine g1 ?_
    refine RW.stA 1 rfl rfl rfl (prC_one hpv.sl) rfl rfl ?_
    repeat refine g1 ?_
    exact fin_res (vs := [prA p pv, .bool true]) rfl rfl ⟨.agg rfl rfl (Cells.blk 1 rfl), .tmp rfl, trivial⟩ rfl (fun w' hw => ⟨_, rfl, hw.below rfl, pv, by rw [hu]; rfl, by rw [hu]; exact hpv.mono hw.phi_ext⟩)
  · have h : i = ps.length := by have := odF h; omega
    rw [h, List.drop_length, Bc.wanted] at hu
    repeat refine g1 ?_
    refine RW.q (v := prA default (.slice none 0 0)) rfl (q_build (vals := []) zero167 Tryz.underlying167 places167 rfl rfl) ?_
    refine RW.stA 0 rfl rfl rfl rfl rfl rfl ?_
    repeat refine g1 ?_
    exact fin_res (vs := [prA default (.slice none 0 0), .bool false]) rfl rfl ⟨.agg rfl rfl (Cells.blk 0 rfl), .tmp rfl, trivial⟩ rfl (fun w' hw => ⟨_, rfl, hw.below rfl, .slice none 0 0, by rw [hu]; rfl, by rw [hu]; exact repSl_nil⟩)
/-! ### examineProps -/
section
variable {N : Nat} {D : List Deferred} {ops : Array Oper} {Q : Exit → Act → World → Prop} {Pn : List PanicEntry → World → Prop} [hQ : PanQ D Q Pn] {f : Nat → Value} {s : List (Nat × Value)} {B : Bs} {Φ : Hp} {C : List Chunk} {rest : List Oper} {ty T : TypeId} {pos : String} {af : Array Edge} {d : Nat} {x y z : Operand} {β : Type}
theorem RW.mk (ev : β → Value) (hd : Nat.blt d N = true) (kk : ∀ b, RW pg N D ops Q rest f ((d, .map (some b)) :: s) (St B Φ (.kmap kStr ev b (fun _ => none) :: C))) : RW pg N D ops Q (⟨some d, .makeMap T none, ty, pos, af, none⟩ :: rest) f s (St B Φ C) :=
  RW.eff (X := Nat) (fun b => .map (some b)) (fun b => St B Φ (.kmap kStr ev b (fun _ => none) :: C)) hd (e_kmake kStr ev) kk
theorem AW.erD {id u v r1 r2 a b : Nat} {k : Int} {n : Bt.Node} {kv : Value} {t1 t2 t3 t4 : TypeId} {p1 p2 p3 p4 : String} {e1 e2 e3 e4 : Array Edge} (i : Nat) (hi : C[i]? = some (.blk b 40 (ndC n kv))) (ha : fr f s a = .pointer (some ⟨b, 0, none⟩)) (hN : (Nat.blt u N && Nat.blt v N && Nat.blt r1 N && Nat.blt r2 N) = true) (hne : Nat.beq v r1 = false)
    (hB : lexTB .any #[⟨some u, .fieldAddr 40 (.tmp a) 3, t1, p1, e1, none⟩, ⟨some v, .load 3 (.tmp u), t2, p2, e2, none⟩, ⟨some r1, .assign (.const (.int .i64 k)), t3, p3, e3, none⟩, ⟨some r2, .assign (.tmp v), t4, p4, e4, none⟩] [.q, .q, .q, .q] [0, 1, 2, 3] = true)
    (kk : Post N D Q .normal f ((r2, .int .i64 n.At) :: (r1, .int .i64 k) :: (v, .int .i64 n.At) :: (u, .pointer (some ⟨b, 4, none⟩)) :: s) (St B Φ C)) : AW pg N D (.region id #[⟨some u, .fieldAddr 40 (.tmp a) 3, t1, p1, e1, none⟩, ⟨some v, .load 3 (.tmp u), t2, p2, e2, none⟩, ⟨some r1, .assign (.const (.int .i64 k)), t3, p3, e3, none⟩, ⟨some r2, .assign (.tmp v), t4, p4, e4, none⟩] true) Q f s (St B Φ C) := by
  simp only [Bool.and_eq_true] at hN
  refine AW.draw (J0 := St B Φ C) [.q, .q, .q, .q] [0, 1, 2, 3] hmix hB ?_
  refine DW.q (fun _ h => h) hN.1.1.1 (qa_fa0 (b := b) ha) ?_
  refine DW.q (v := .int .i64 n.At) (fun _ h => h) hN.1.1.2 (qa_ld (by simp [ev, fr]; rfl) (Cell.blk i hi rfl)) ?_
  refine DW.q (v := .int .i64 k) (fun _ h => h) hN.1.2 (q_assign rfl) ?_
  refine DW.q (v := .int .i64 n.At) (fun _ h => h) hN.2 (q_assign (by simp [ev, fr, hne])) ?_
  exact DW.nil kk
noncomputable abbrev bmap (b : Nat) (M : List UInt8 → Option Bool) : Chunk := .kmap kStr Value.bool b M
noncomputable abbrev imap (b : Nat) (M : List UInt8 → Option Int) : Chunk := .kmap kStr (Value.int .i64) b M
theorem q_bLook {dst : Option Nat} {g : Option (Nat × Bool)} {b : Nat} {M : List UInt8 → Option Bool} {k : List UInt8} (i : Nat) (hi : C[i]? = some (bmap b M)) (hx : ev (fr f s) x = .map (some b)) (hy : ev (fr f s) y = .string (bs k)) (hk : k.length ≤ maxLen) : Qt pg (St B Φ C) f s ⟨dst, .lookup 200 x y false, ty, pos, af, g⟩ (.bool ((M k).getD false)) :=
  q_kLook1 (L := kStr) (d := false) i hi hx hy hk Tryz.underlying200 zero4
theorem q_iLook {dst : Option Nat} {g : Option (Nat × Bool)} {b : Nat} {M : List UInt8 → Option Int} {k : List UInt8} (i : Nat) (hi : C[i]? = some (imap b M)) (hx : ev (fr f s) x = .map (some b)) (hy : ev (fr f s) y = .string (bs k)) (hk : k.length ≤ maxLen) : Qt pg (St B Φ C) f s ⟨dst, .lookup 108 x y false, ty, pos, af, g⟩ (.int .i64 ((M k).getD 0)) :=
  q_kLook1 (L := kStr) (d := (0 : Int)) i hi hx hy hk Tryz.underlying108 zero3
end
end Go.Proofs.YtpapfpoefiikpaaGreatDoor
namespace Bc
open Bt
def PG (p : Prp) : Prop := (p.many = true → 0 < p.values.length) ∧ ∀ y ∈ p.values, 0 < y.data.toList.length ∧ y.data.toList.length ≤ 2
theorem wanted_pg {x : Node} {n : S} : ∀ {ps : List Prp} {p : Prp}, (∀ q ∈ ps, PG q) → wanted x n ps = some p → PG p
  | [], _, _, h => by cases h
  | q :: ps, p, hq, h => by
    unfold wanted at h
    split at h
    · split at h
      · obtain rfl := sJ h
        exact ⟨fun h => (by cases h), by decide⟩
      · obtain rfl := sJ h
        exact hq _ (List.mem_cons_self ..)
    · exact wanted_pg (fun r hr => hq r (List.mem_cons_of_mem _ hr)) h
theorem fits_amts {xs : List Node} {p : Prp} (hp : PG p) (h : fits xs p = true) (i : Nat) (hi : i < xs.length) : (p.many = false → i < p.values.length) ∧ (amts (xs.getD i default)).length ≤ (val p i).length := by
  unfold fits at h
  rw [Bool.and_eq_true, Bool.not_eq_true'] at h
  have h1 := List.all_eq_true.1 h.2 i (List.mem_range.2 hi)
  have hl : p.many = false → i < p.values.length := fun hm => by
    have := h.1
    rw [hm] at this; simp at this; omega
  refine ⟨hl, ?_⟩
  have hv : 0 < (val p i).length := by
    unfold val
    cases hm : p.many with
    | true => exact (hp.2 _ (Go.Proofs.YtpapfpoefiikpaaGreatDoor.mem_at (xs := p.values) (hp.1 hm))).1
    | false => exact (hp.2 _ (Go.Proofs.YtpapfpoefiikpaaGreatDoor.mem_at (xs := p.values) (hl hm))).1
  unfold fitsOne at h1
  unfold amts
  split at h1
  · have h2 := odT h1
    rw [if_pos h2.1, h2.2.1]; omega
  · have hk : (xs.getD i default).Kind ≠ 6 := by
      split at h1 <;> (have := odT h1; omega)
    rw [if_neg hk]; exact hv
def nm3 : List S := [[118, 111, 108, 117, 109, 101], [102, 97, 108, 108], [112, 111, 115, 105, 116, 105, 111, 110]]
def cn (M : S → Option Bool) (j : Nat) : Nat := ((nm3.take j).filter (hasS M)).length
theorem cn_le (M : S → Option Bool) (j : Nat) : cn M j ≤ 3 := Nat.le_trans (List.length_filter_le ..) (Nat.le_trans (List.length_take_le' ..) (by decide))
theorem cn_step (M : S → Option Bool) {j : Nat} (h : j < 3) : cn M (j + 1) = cn M j + if hasS M (nm3.getD j []) = true then 1 else 0 := by
  unfold cn
  rw [Go.Proofs.YtpapfpoefiikpaaGreatDoor.take_at (xs := nm3) h, List.filter_append, List.length_append]
  congr 1
  show (List.filter (hasS M) [nm3.getD j []]).length = _
  generalize nm3.getD j [] = l
  cases hs : hasS M l <;> simp [hs]
theorem cn_3 (M : S → Option Bool) : cnt3 M = cn M 3 := by
  unfold cnt3 cn nm3
  simp only [List.take, List.filter]
  cases hasS M [118, 111, 108, 117, 109, 101] <;> cases hasS M [102, 97, 108, 108] <;> cases hasS M [112, 111, 115, 105, 116, 105, 111, 110] <;> rfl
end Bc
namespace Go.Proofs.YtpapfpoefiikpaaGreatDoor
open Go Go.K Go.RowKit
attribute [local irreducible] AW RW DW Post Qt
theorem exProps_c (w : World) (Φ : Hp) (hΦ : Hp.le Φ (hp w)) {x : Bt.Node} {kv : Value} (hk : RepSl Φ x.Kids kv) {ps : List Bc.Prp} {lv : Value} (hps : RepSl Φ ps lv) (hpg : ∀ p ∈ ps, Bc.PG p) : Calls pg 95 #[ndA x kv, lv] w fun e w' => e = .returned (.tuple #[.int .i64 (Bc.exProps x ps).1, .int .i64 (Bc.exProps x ps).2]) ∧ Bel w.heap.size w w' := by
  have hvm : ps.length * 48 ≤ 140737488355328 := hps.max
  refine in2 120 Tryz.func95 rfl rfl hΦ ?_
  repeat refine g1 ?_
  refine RW.bxA rfl rfl fun b2 => ?_
  repeat refine g1 ?_
  refine RW.mk Value.bool rfl fun bm => ?_
  repeat refine g1 ?_
  refine RW.cS rfl (fun w1 hw1 => words_c w1 Φ hw1.phi hk) rfl rfl ?_
  rintro _ Ψ ⟨v1, v2, rfl, _, h2⟩ hlΨ
  replace hk := hk.mono hlΨ
  replace hps := hps.mono hlΨ
  have hex : Bc.exProps x ps = match Bc.exP x ps (fun _ => none) (Bc.propsOf x) with
    | .error e => e
    | .ok sn => Bc.exEnd x ps sn := rfl
  have hkn : ∀ y ∈ Bc.propsOf x, y ∈ x.Kids := fun y hy => (List.mem_filter.1 hy).1
  generalize Bc.propsOf x = ds at *
  generalize Bc.exProps x ps = R at *
  have hdm : ds.length * 72 ≤ 140737488355328 := h2.max
  obtain ⟨A, c, rfl, _⟩ := h2.sl
  repeat refine g1 ?_
  refine AW.lp (fun s J m => ∃ (i : Nat) (M : List UInt8 → Option Bool), s = [(28, .int .i64 (i : Int)), (27, .int .i64 ((ds.length : Nat) : Int)), (26, .slice A ds.length c), (6, .map (some bm)), (1, lv), (2, .pointer (some ⟨b2, 0, none⟩))] ∧ J = St ⟨w, Φ, []⟩ Ψ [bmap bm M, .blk b2 40 (ndC x kv)] ∧ m = ds.length - i ∧ i ≤ ds.length ∧ R = match Bc.exP x ps M (ds.drop i) with
      | .error e => e
      | .ok sn => Bc.exEnd x ps sn) ⟨0, _, rfl, rfl, rfl, Nat.zero_le _, hex⟩ ?_
  rintro _ _ _ _ ⟨i, M, rfl, rfl, rfl, hi, hu⟩
  repeat refine g1 ?_
  refine AW.cond rfl (fun h => ?_) fun h => ?_
  · have h : i < ds.length := by simpa using h
    rw [drop_at h] at hu
    repeat refine g1 ?_
    refine RW.nd h2 h rfl rfl rfl rfl fun kd q hkd hwd => ?_
    generalize ds.getD i default = d at *
    have htl : d.Text.length ≤ maxLen := hwd.2.1
    rw [Bc.exP] at hu
    repeat refine g1 ?_
    refine RW.cS rfl (fun w1 hw1 => wanted_c w1 Ψ hw1.phi hk hps (n := d.Text)) rfl rfl ?_
    rintro _ Ψ2 ⟨pv, rfl, hpv⟩ hlΨ2
    repeat refine g1 ?_
    refine RW.alc rfl fun b11 => ?_
    refine RW.stA 0 rfl rfl rfl (prC_one hpv.sl) rfl rfl ?_
    cases hwt : Bc.wanted x d.Text ps with
    | none =>
      rw [hwt] at hu
      repeat first | refine t2 ?_ | refine g1 ?_
      refine AW.erD (n := d) 1 rfl rfl rfl rfl (by kernel_rfl) ?_
      repeat refine g1 ?_
      exact fin_out2 rfl rfl rfl rfl (fun w' hw => ⟨by rw [hu]; rfl, hw.below rfl⟩)
    | some p =>
      rw [hwt] at hu hpv; replace hu := hu; simp only [] at hu
      replace hpv : RepSl Ψ2 p.values pv := hpv
      have hpp := Bc.wanted_pg hpg hwt
      cases hsn : (M d.Text).getD false with
      | true =>
        rw [if_pos (.inl hsn)] at hu
        repeat first | refine t2 ?_ | refine g1 ?_
        refine RW.gl rfl rfl rfl (q_as (q_bLook (b := bm) (M := M) (k := d.Text) 2 rfl rfl rfl htl) (congrArg Value.bool hsn)) ?_
        repeat first | refine t2 ?_ | refine g1 ?_
        refine AW.erD (n := d) 1 rfl rfl rfl rfl (by kernel_rfl) ?_
        repeat refine g1 ?_
        exact fin_out2 rfl rfl rfl rfl (fun w' hw => ⟨by rw [hu]; rfl, hw.below rfl⟩)
      | false =>
        repeat first | refine t2 ?_ | refine g1 ?_
        refine RW.gl rfl rfl rfl (q_as (q_bLook (b := bm) (M := M) (k := d.Text) 2 rfl rfl rfl htl) (congrArg Value.bool hsn)) ?_
        repeat first | refine t2 ?_ | refine g1 ?_
        cases hft : Bc.fits d.Kids p with
        | false =>
          rw [if_pos (.inr hft)] at hu
          refine RW.gl rfl rfl rfl (q_as (q_cl rfl rfl (fun w1 hw1 => fits_c w1 Ψ2 hw1.phi (hkd.mono hlΨ2) hpv hpp.1 (fun y hy => ⟨(hpp.2 y hy).1, Nat.le_trans (hpp.2 y hy).2 (by decide)⟩))) (congrArg Value.bool hft)) ?_
          repeat first | refine t2 ?_ | refine g1 ?_
          refine AW.erD (n := d) 1 rfl rfl rfl rfl (by kernel_rfl) ?_
          repeat refine g1 ?_
          exact fin_out2 rfl rfl rfl rfl (fun w' hw => ⟨by rw [hu]; rfl, hw.below rfl⟩)
        | true =>
          rw [if_neg (by rw [hsn, hft]; simp)] at hu
          have hfa := Bc.fits_amts hpp hft
          refine RW.gl rfl rfl rfl (q_as (q_cl rfl rfl (fun w1 hw1 => fits_c w1 Ψ2 hw1.phi (hkd.mono hlΨ2) hpv hpp.1 (fun y hy => ⟨(hpp.2 y hy).1, Nat.le_trans (hpp.2 y hy).2 (by decide)⟩))) (congrArg Value.bool hft)) ?_
          repeat first | refine t2 ?_ | refine g1 ?_
          refine RW.effn (e_kPut (L := kStr) (ew := Value.bool) (v := true) 2 rfl rfl rfl rfl htl Tryz.underlying200 rfl) ?_
          repeat refine g1 ?_
          refine RW.c rfl (fun w1 hw1 => wrongUnit_c w1 Ψ2 hw1.phi (hkd.mono hlΨ2) hpv hpp.1 hfa) rfl rfl ?_
          cases hwu : Bc.wu p 0 d.Kids with
          | some a =>
            rw [hwu] at hu
            repeat first | refine t2 ?_ | refine g1 ?_
            exact fin_out2 rfl rfl rfl rfl (fun w' hw => ⟨by rw [hu]; rfl, hw.below rfl⟩)
          | none =>
            rw [hwu] at hu
            repeat first | refine t2 ?_ | refine g1 ?_
            exact Post.bk ⟨i + 1, _, rfl, rfl, rfl, h, hu⟩ (by omega) ⟨rfl, rfl, rfl, rfl, rfl, rfl, trivial⟩ (fun _ h => StP.know hlΨ2 (StP.drop h (.cons _ (.cons _ (List.Sublist.refl _)))))
  · have h : i = ds.length := by have := odF h; omega
    rw [h, List.drop_length, Bc.exP] at hu
    replace hu : R = Bc.exEnd x ps M := hu
    clear h2 hex hkn hdm hi
    obtain ⟨A3, c3, rfl, _⟩ := hps.sl
    repeat refine g1 ?_
    refine AW.lp (fun s J m => ∃ i : Nat, s = [(72, .int .i64 (i : Int)), (71, .int .i64 ((ps.length : Nat) : Int)), (70, .slice A3 ps.length c3), (6, .map (some bm)), (2, .pointer (some ⟨b2, 0, none⟩))] ∧ J = St ⟨w, Φ, []⟩ Ψ [bmap bm M, .blk b2 40 (ndC x kv)] ∧ m = ps.length - i ∧ i ≤ ps.length ∧ ((ps.take i).all fun w => w.missing || Bc.hasS M w.name.data.toList) = true) ⟨0, rfl, rfl, rfl, Nat.zero_le _, rfl⟩ ?_
    rintro _ _ _ _ ⟨j, rfl, rfl, rfl, hj, hall⟩
    repeat refine g1 ?_
    refine AW.cond rfl (fun h3 => ?_) fun h3 => ?_
    · have h3 : j < ps.length := by simpa using h3
      repeat refine g1 ?_
      refine RW.pr hps h3 rfl rfl rfl rfl fun pv q hpv hnl => ?_
      have ht := take_at h3
      have hmem := mem_at h3
      generalize ps.getD j default = p at *
      obtain ⟨nm, vs, mn, mis⟩ := p
      cases mis with
      | true =>
        repeat first | refine t2 ?_ | refine g1 ?_
        exact Post.bk ⟨j + 1, rfl, rfl, rfl, h3, by rw [ht, List.all_append, hall]; rfl⟩
      | false =>
        cases hs : Bc.hasS M nm.data.toList with
        | true =>
          repeat first | refine t2 ?_ | refine g1 ?_
          refine RW.gl rfl rfl rfl (q_as (q_bLook (b := bm) (M := M) (k := nm.data.toList) 1 rfl rfl rfl hnl) (congrArg Value.bool hs)) ?_
          repeat first | refine t2 ?_ | refine g1 ?_
          exact Post.bk ⟨j + 1, rfl, rfl, rfl, h3, by rw [ht, List.all_append, hall]; simp [hs]⟩
        | false =>
          repeat first | refine t2 ?_ | refine g1 ?_
          refine RW.gl rfl rfl rfl (q_as (q_bLook (b := bm) (M := M) (k := nm.data.toList) 1 rfl rfl rfl hnl) (congrArg Value.bool hs)) ?_
          repeat first | refine t2 ?_ | refine g1 ?_
          refine AW.erD (n := x) 2 rfl rfl rfl rfl (by kernel_rfl) ?_
          repeat refine g1 ?_
          exact fin_out2 rfl rfl rfl rfl (fun w' hw => ⟨by rw [hu, Bc.exEnd, if_pos (List.all_eq_false.2 ⟨_, hmem, by simp [hs]⟩)]; rfl, hw.below rfl⟩)
    · have h3 : j = ps.length := by have := odF h3; omega
      rw [h3, List.take_length] at hall
      rw [Bc.exEnd, if_neg (by rw [hall]; simp)] at hu
      have hga : x.Text = [103, 97, 117, 103, 101] ∨ x.Text ≠ [103, 97, 117, 103, 101] := Decidable.em _
      repeat refine g1 ?_
      refine RW.q rfl (q_eqlStr (l := x.Text) rfl rfl) ?_
      repeat refine g1 ?_
      refine AW.mid (fun s J => s = [(6, .map (some bm)), (2, .pointer (some ⟨b2, 0, none⟩))] ∧ J = St ⟨w, Φ, []⟩ Ψ [bmap bm M, .blk b2 40 (ndC x kv)] ∧ R = if x.Text = [114, 111, 97, 100] ∧ Bc.hasS M [98, 121] ≠ Bc.hasS M [108, 105, 109, 105, 116] then (2, x.At) else (0, 0)) ?_ ?_
      · refine AW.cond rfl (fun h4 => ?_) fun h4 => ?_
        · have h4 := odT h4
          repeat refine g1 ?_
          refine RW.eff _ _ rfl (e_buildSlice (vals := [(0, .string (bs [118, 111, 108, 117, 109, 101])), (1, .string (bs [102, 97, 108, 108])), (2, .string (bs [112, 111, 115, 105, 116, 105, 111, 110]))]) (cells := Bc.nm3.map fun l => .string (bs l)) Tryz.underlying22 inf9 rfl rfl rfl (by kernel_rfl) rfl) fun b9 => RW.frz fun Ψ3 hl3 hsat => ?_
          have hn3 : RepSl Ψ3 (Bc.nm3.map bs) (sl1 b9 3) := sRow_rep hsat rfl (by decide) (by decide)
          repeat refine g1 ?_
          refine AW.lp (fun s J m => ∃ j : Nat, s = [(94, .int .i64 (j : Int)), (93, .int .i64 ((3 : Nat) : Int)), (92, sl1 b9 3), (17, .int .i64 ((Bc.cn M j : Nat) : Int)), (6, .map (some bm)), (2, .pointer (some ⟨b2, 0, none⟩))] ∧ J = St ⟨w, Φ, []⟩ Ψ3 [bmap bm M, .blk b2 40 (ndC x kv)] ∧ m = 3 - j ∧ j ≤ 3) ⟨0, rfl, rfl, rfl, by omega⟩ ?_
          rintro _ _ _ _ ⟨j, rfl, rfl, rfl, hj⟩
          have hcn := Bc.cn_le M j
          repeat refine g1 ?_
          refine AW.cond rfl (fun h5 => ?_) fun h5 => ?_
          · have h5 : j < 3 := by have := odT h5; omega
            obtain ⟨k1, k2⟩ := hn3.strAt (k := j) h5
            have hst := Bc.cn_step M h5
            have hk3 : (Bc.nm3.map bs).getD j default = bs (Bc.nm3.getD j []) := by
              rcases (by omega : j = 0 ∨ j = 1 ∨ j = 2) with rfl | rfl | rfl <;> rfl
            have hkl : (Bc.nm3.getD j []).length ≤ maxLen := by
              rcases (by omega : j = 0 ∨ j = 1 ∨ j = 2) with rfl | rfl | rfl <;> decide
            rw [hk3] at k2
            repeat refine g1 ?_
            refine RW.q rfl (qa_ixN (v := sl1 b9 3) rfl rfl isSl_mk h5) ?_
            refine RW.q rfl (qa_ld rfl (Cell.phi k2)) ?_
            repeat refine g1 ?_
            refine RW.q rfl (q_bLook (b := bm) (M := M) (k := Bc.nm3.getD j []) 0 rfl rfl rfl hkl) ?_
            repeat refine g1 ?_
            refine AW.cond rfl (fun h6 => ?_) fun h6 => ?_
            · rw [if_pos (show Bc.hasS M (Bc.nm3.getD j []) = true from h6)] at hst
              repeat refine g1 ?_
              exact Post.bk ⟨j + 1, by rw [hst], rfl, rfl, h5⟩
            · rw [if_neg (by rw [show Bc.hasS M (Bc.nm3.getD j []) = false from h6]; simp)] at hst
              repeat refine g1 ?_
              exact Post.bk ⟨j + 1, by rw [hst], rfl, rfl, h5⟩
          · have h5 : j = 3 := by have := odF h5; omega
            subst h5
            rw [← Bc.cn_3] at *
            repeat refine g1 ?_
            refine AW.cond rfl (fun h6 => ?_) fun h6 => ?_
            · have h6 : Bc.cnt3 M ≠ 1 := by intro e; rw [e] at h6; cases h6
              repeat refine g1 ?_
              refine AW.erD (n := x) 1 rfl rfl rfl rfl (by kernel_rfl) ?_
              repeat first | refine g1 ?_ | refine Post.mid_r ?_
              exact fin_out2 rfl rfl rfl rfl (fun w' hw => ⟨by rw [hu, if_pos ⟨h4, h6⟩]; rfl, hw.below rfl⟩)
            · have h6 : Bc.cnt3 M = 1 := by have h7 : decide (((Bc.cnt3 M : Nat) : Int) = 1) = true := by simpa using h6
                                            have := odT h7; omega
              rw [if_neg (fun h => h.2 h6)] at hu
              repeat refine g1 ?_
              exact Post.mid_n ⟨rfl, rfl, hu⟩ ⟨rfl, rfl, trivial⟩ (fun _ h => StP.know hl3 h)
        · have h4 := odF h4
          rw [if_neg (fun h => h4 h.1)] at hu
          repeat refine g1 ?_
          exact Post.mid_n ⟨rfl, rfl, hu⟩ ⟨rfl, rfl, trivial⟩ (fun _ h => h)
      rintro f' _ _ ⟨rfl, rfl, hu⟩
      rcases Decidable.em (x.Text = [114, 111, 97, 100]) with hr | hr
      · repeat first | refine t2 ?_ | refine t3 ?_ | refine g1 ?_
        refine RW.gl rfl rfl rfl (q_bLook (b := bm) (M := M) (k := [98, 121]) 0 rfl rfl rfl (by decide)) ?_
        repeat first | refine t2 ?_ | refine g1 ?_
        refine RW.gl rfl rfl rfl (q_bLook (b := bm) (M := M) (k := [108, 105, 109, 105, 116]) 0 rfl rfl rfl (by decide)) ?_
        refine RW.gl rfl rfl rfl (q_neqB rfl rfl Tryz.underlying4) ?_
        repeat first | refine t2 ?_ | refine g1 ?_
        refine AW.cond rfl (fun h6 => ?_) fun h6 => ?_
        · have h6 : Bc.hasS M [98, 121] ≠ Bc.hasS M [108, 105, 109, 105, 116] := by simpa [Bc.hasS] using h6
          repeat refine g1 ?_
          refine AW.erD (n := x) 1 rfl rfl rfl rfl (by kernel_rfl) ?_
          repeat refine g1 ?_
          exact fin_out2 rfl rfl rfl rfl (fun w' hw => ⟨by rw [hu, if_pos ⟨hr, h6⟩]; rfl, hw.below rfl⟩)
        · have h6 : ¬ (Bc.hasS M [98, 121] ≠ Bc.hasS M [108, 105, 109, 105, 116]) := by simpa [Bc.hasS] using h6
          repeat refine g1 ?_
          exact fin_out2 rfl rfl rfl rfl (fun w' hw => ⟨by rw [hu, if_neg (fun h => h6 h.2)]; rfl, hw.below rfl⟩)
      · rw [if_neg (fun h => hr h.1)] at hu
        repeat first | refine t2 ?_ | refine t3 ?_ | refine g1 ?_
        exact fin_out2 rfl rfl rfl rfl (fun w' hw => ⟨by rw [hu]; rfl, hw.below rfl⟩)
end Go.Proofs.YtpapfpoefiikpaaGreatDoor
namespace Bc
open Bt
instance (p : Prp) : Decidable (PG p) := inferInstanceAs (Decidable ((p.many = true → 0 < p.values.length) ∧ ∀ y ∈ p.values, 0 < y.data.toList.length ∧ y.data.toList.length ≤ 2))
theorem table_pg : ∀ x ∈ table, ∀ p ∈ x.2, PG p := by decide
theorem props_mem {k : S} {ps : List Prp} (h : props k = some ps) : ∃ x ∈ table, x.1 = k ∧ x.2 = ps := by
  unfold props at h
  obtain ⟨x, hx, rfl⟩ := mS h
  exact ⟨x, List.mem_of_find?_eq_some hx, by simpa using List.find?_some hx, rfl⟩
theorem props_pg {k : S} {ps : List Prp} (h : props k = some ps) : ∀ p ∈ ps, PG p := by
  obtain ⟨x, hx, _, rfl⟩ := props_mem h
  exact table_pg x hx
theorem upC_le {c : S → Option Int} {s : S} {n : Nat} (h : ∀ j, 0 ≤ (c j).getD 0 ∧ (c j).getD 0 ≤ n) : ∀ j, 0 ≤ (upC c s j).getD 0 ∧ (upC c s j).getD 0 ≤ (n + 1 : Nat) := fun j => by
  unfold upC
  have h1 := h j
  have h2 := h s
  split
  · simp only [Option.getD_some]; omega
  · omega
end Bc
namespace Go.Proofs.YtpapfpoefiikpaaGreatDoor
open Go Go.K Go.RowKit
attribute [local irreducible] AW RW DW Post Qt
theorem sortOf_len {k : List UInt8} (h : k.length ≤ maxLen) : (Bc.sortOf k).length ≤ maxLen := by
  unfold Bc.sortOf
  split
  · decide
  · split
    · decide
    · exact h
instance : OwnI pg 91 := ⟨own_of (by kernel_rfl)⟩
theorem tab_look {Φ : Hp} {b : Nat} {M : List UInt8 → Option Value} (h : TabM Φ b M) {k : List UInt8} {ps : List Bc.Prp} (hp : Bc.props k = some ps) : ∃ v, M k = some v ∧ RepSl Φ ps v := by
  have := h.2 k; rw [hp] at this; exact this
theorem tab_none {Φ : Hp} {b : Nat} {M : List UInt8 → Option Value} (h : TabM Φ b M) {k : List UInt8} (hp : Bc.props k = none) : M k = none := by
  have := h.2 k; rw [hp] at this; exact this
section
variable {f : Nat → Value} {s : List (Nat × Value)} {B : Bs} {Φ : Hp} {C : List Chunk} {ty : TypeId} {pos : String} {af : Array Edge} {x y : Operand} {dst : Option Nat} {g : Option (Nat × Bool)}
theorem q_tLook {b : Nat} {M : List UInt8 → Option Value} {k : List UInt8} (hm : TabM Φ b M) (hx : ev (fr f s) x = .map (some b)) (hy : ev (fr f s) y = .string (bs k)) (hk : k.length ≤ maxLen) : Qt pg (St B Φ C) f s ⟨dst, .lookup 155 x y true, ty, pos, af, g⟩ (.tuple #[(M k).getD (.slice none 0 0), .bool (M k).isSome]) :=
  q_kLookP (L := kStr) (ew := id) (d := (.slice none 0 0)) hm.1 hx hy hk Tryz.underlying155 zero157
theorem q_tLook1 {b : Nat} {M : List UInt8 → Option Value} {k : List UInt8} (hm : TabM Φ b M) (hx : ev (fr f s) x = .map (some b)) (hy : ev (fr f s) y = .string (bs k)) (hk : k.length ≤ maxLen) : Qt pg (St B Φ C) f s ⟨dst, .lookup 155 x y false, ty, pos, af, g⟩ ((M k).getD (.slice none 0 0)) :=
  q_kLookP1 (L := kStr) (ew := id) (d := (.slice none 0 0)) hm.1 hx hy hk Tryz.underlying155 zero157
end
abbrev erT (e : Bc.Er) : Value := .tuple #[.int .i64 e.1, .int .i64 e.2]
theorem examine_c (w : World) (Φ : Hp) (hΦ : Hp.le Φ (hp w)) {x : Bt.Node} {kv : Value} (hk : RepSl Φ x.Kids kv) : Calls pg 52 #[ndA x kv] w fun e w' => e = .returned (erT (Bc.examine x)) ∧ Bel w.heap.size w w' := by
  refine in1 68 Tryz.func52 rfl rfl hΦ ?_
  repeat refine g1 ?_
  refine RW.bxA rfl rfl fun b1 => ?_
  repeat refine g1 ?_
  refine RW.cS rfl (fun w1 hw1 => properties_c w1 Φ hw1.phi) rfl rfl ?_
  rintro _ Ψ ⟨bt, Mt, rfl, htab⟩ hlΨ
  replace hk := hk.mono hlΨ
  have hkm : x.Kids.length * 72 ≤ 140737488355328 := hk.max
  have hex : Bc.examine x = Bc.exL (fun _ => none) x.Kids := rfl
  generalize x.Kids = ds at *
  generalize Bc.examine x = R at *
  obtain ⟨A, c, rfl, _⟩ := hk.sl
  repeat refine g1 ?_
  refine RW.mk (Value.int .i64) rfl fun bm => ?_
  repeat refine g1 ?_
  refine AW.lp (fun s J m => ∃ (i : Nat) (M : List UInt8 → Option Int), s = [(18, .int .i64 (i : Int)), (17, .int .i64 ((ds.length : Nat) : Int)), (16, .slice A ds.length c), (5, .map (some bm)), (4, .map (some bt))] ∧ J = St ⟨w, Φ, []⟩ Ψ [imap bm M] ∧ m = ds.length - i ∧ i ≤ ds.length ∧ R = Bc.exL M (ds.drop i) ∧ ∀ j, 0 ≤ (M j).getD 0 ∧ (M j).getD 0 ≤ i) ⟨0, _, rfl, rfl, rfl, Nat.zero_le _, hex, fun _ => ⟨Int.le_refl _, Int.le_refl _⟩⟩ ?_
  rintro _ _ _ _ ⟨i, M, rfl, rfl, rfl, hi, hu, hM⟩
  repeat refine g1 ?_
  refine AW.cond rfl (fun h => ?_) fun h => ?_
  · have h : i < ds.length := by simpa using h
    rw [drop_at h] at hu
    repeat refine g1 ?_
    refine RW.nd hk h rfl rfl rfl rfl fun kd q hkd hwd => ?_
    generalize ds.getD i default = d at *
    have htl : d.Text.length ≤ maxLen := hwd.2.1
    have hsl := sortOf_len htl
    rw [Bc.exL] at hu
    repeat refine g1 ?_
    refine RW.q rfl (q_tLook (k := d.Text) htab rfl rfl htl) ?_
    cases hpr : Bc.props d.Text with
    | none =>
      rw [hpr] at hu
      rw [tab_none htab hpr]
      repeat first | refine t2 ?_ | refine g1 ?_
      refine AW.erD (n := d) 0 rfl rfl rfl rfl (by kernel_rfl) ?_
      repeat refine g1 ?_
      exact fin_out2 rfl rfl rfl rfl (fun w' hw => ⟨by rw [hu]; rfl, hw.below rfl⟩)
    | some ps =>
      obtain ⟨pv, hpv, hps⟩ := tab_look htab hpr
      rw [hpr] at hu
      replace hu : R = if Bc.oneWord d = false then (2, d.At) else if Bc.limitOf (Bc.sortOf d.Text) < (M (Bc.sortOf d.Text)).getD 0 + 1 then (if Bc.sortOf d.Text = [98, 97, 115, 105, 110] then (2, d.At) else (8, d.At)) else if (Bc.exProps d ps).1 ≠ 0 then Bc.exProps d ps else Bc.exL (Bc.upC M (Bc.sortOf d.Text)) (ds.drop (i + 1)) := hu
      rw [hpv]
      repeat first | refine t2 ?_ | refine g1 ?_
      cases how : Bc.oneWord d with
      | false =>
        rw [if_pos how] at hu
        refine RW.gl rfl rfl rfl (q_as (q_cl rfl rfl (fun w1 hw1 => oneWord_c w1 Ψ hw1.phi hkd)) (congrArg Value.bool how)) ?_
        repeat first | refine t2 ?_ | refine g1 ?_
        refine AW.erD (n := d) 0 rfl rfl rfl rfl (by kernel_rfl) ?_
        repeat refine g1 ?_
        exact fin_out2 rfl rfl rfl rfl (fun w' hw => ⟨by rw [hu]; rfl, hw.below rfl⟩)
      | true =>
        rw [if_neg (by rw [how]; simp)] at hu
        refine RW.gl rfl rfl rfl (q_as (q_cl rfl rfl (fun w1 hw1 => oneWord_c w1 Ψ hw1.phi hkd)) (congrArg Value.bool how)) ?_
        repeat first | refine t2 ?_ | refine g1 ?_
        refine RW.c rfl (fun w _ => sortOf_c w) rfl rfl ?_
        generalize Bc.sortOf d.Text = so at *
        have hso := hM so
        repeat first | refine t2 ?_ | refine g1 ?_
        refine RW.q rfl (q_iLook (b := bm) (M := M) (k := so) 1 rfl rfl rfl hsl) ?_
        repeat first | refine t2 ?_ | refine g1 ?_
        refine RW.effn (e_kPut (L := kStr) (ew := Value.int .i64) (v := (M so).getD 0 + 1) 1 rfl rfl rfl rfl hsl Tryz.underlying108 rfl) ?_
        repeat refine g1 ?_
        refine AW.draw (J0 := St ⟨w, Φ, []⟩ Ψ [.blk q 40 (ndC d kd), imap bm (Bc.upC M so)]) [.q, .q, .q, .q, .q, .q] [0, 1, 2, 3, 4, 5] hmix (by kernel_rfl) ?_
        repeat refine g1 ?_
        refine DW.q (v := .int .i64 ((M so).getD 0 + 1)) (fun _ h => h) rfl (q_as (q_iLook (b := bm) (M := Bc.upC M so) (k := so) 1 rfl rfl rfl hsl) (congrArg (Value.int .i64) (by rw [Bc.upC, if_pos rfl]; rfl))) ?_
        repeat refine g1 ?_
        refine DW.c (fun _ h => h) rfl (fun w1 hw1 => limitOf_c w1) rfl rfl ?_
        repeat refine g1 ?_
        refine AW.cond rfl (fun h2 => ?_) fun h2 => ?_
        · have h2 := odT h2
          rw [if_pos h2] at hu
          repeat refine g1 ?_
          rcases Decidable.em (so = [98, 97, 115, 105, 110]) with h3 | h3
          · rw [if_pos h3] at hu
            repeat first | refine t2 ?_ | refine t3 ?_ | refine g1 ?_
            refine AW.erD (n := d) 0 rfl rfl rfl rfl (by kernel_rfl) ?_
            repeat refine g1 ?_
            exact fin_out2 rfl rfl rfl rfl (fun w' hw => ⟨by rw [hu]; rfl, hw.below rfl⟩)
          · rw [if_neg h3] at hu
            repeat first | refine t2 ?_ | refine t3 ?_ | refine g1 ?_
            refine AW.erD (n := d) 0 rfl rfl rfl rfl (by kernel_rfl) ?_
            repeat refine g1 ?_
            exact fin_out2 rfl rfl rfl rfl (fun w' hw => ⟨by rw [hu]; rfl, hw.below rfl⟩)
        · have h2 := odF h2
          rw [if_neg h2] at hu
          repeat refine g1 ?_
          refine RW.c rfl (fun w1 hw1 => exProps_c w1 Ψ hw1.phi hkd hps (Bc.props_pg hpr)) rfl rfl ?_
          repeat refine g1 ?_
          refine AW.cond rfl (fun h3 => ?_) fun h3 => ?_
          · have h3 : (Bc.exProps d ps).1 ≠ 0 := by simpa using h3
            rw [if_pos h3] at hu
            repeat refine g1 ?_
            exact fin_out2 rfl rfl rfl rfl (fun w' hw => ⟨by rw [hu]; rfl, hw.below rfl⟩)
          · have h3 : ¬ (Bc.exProps d ps).1 ≠ 0 := by simpa using h3
            rw [if_neg h3] at hu
            repeat refine g1 ?_
            exact Post.bk ⟨i + 1, _, rfl, rfl, rfl, h, hu, Bc.upC_le hM⟩
  · have h : i = ds.length := by have := odF h; omega
    rw [h, List.drop_length, Bc.exL] at hu
    repeat refine g1 ?_
    exact fin_out2 rfl rfl rfl rfl (fun w' hw => ⟨by rw [hu]; rfl, hw.below rfl⟩)
end Go.Proofs.YtpapfpoefiikpaaGreatDoor
namespace Go.K
open Go Go.RowKit
theorem DW.cS {P : Program} {Pn : List PanicEntry → World → Prop} {N : Nat} {D : List Deferred} {ops : Array Oper} {Q : Exit → Act → World → Prop} {f : Nat → Value} {s : List (Nat × Value)} {B : Bs} {Φ : Hp} {C : List Chunk} {J0 : Cls} {tg : List Tg} {ty : TypeId} {pos : String} {af : Array Edge} {x : Operand} {xs : Array Operand} {ts : Array TypeId} {k : FuncId} {args : Array Value} {T : Value → Hp → Prop} {d : Nat} {rest : List Oper} [hk : OwnI P k] (hJ : ∀ w Ψ, Hp.le Φ Ψ → StP B Ψ C w → J0.p w) (hd : Nat.blt d N = true) (h : ∀ w, (St B Φ C).p w → Calls P k args w (RetS Φ w T)) (hx : ev (fr f s) x = .func (.func k) #[] #[]) (ha : xs.toList.map (ev (fr f s)) = args.toList)
    (kk : ∀ v Ψ, T v Ψ → Hp.le Φ Ψ → DW P Pn N D ops J0 Q tg rest f ((d, v) :: s) (St B Ψ C)) : DW P Pn N D ops J0 Q (.e :: tg) (⟨some d, .call { callee := .value x, args := xs, argTypes := ts }, ty, pos, af, none⟩ :: rest) f s (St B Φ C) :=
  DW.eff _ _ (fun _ y w h => hJ w _ y.2.2 h) hd (e_callS hk.h hx (by simpa using ha) h) fun y => kk y.1.1 y.1.2 y.2.1 y.2.2
end Go.K
namespace Go.Proofs.YtpapfpoefiikpaaGreatDoor
open Go Go.K Go.RowKit
attribute [local irreducible] AW RW DW Post Qt
theorem q_iLook2 {f : Nat → Value} {s : List (Nat × Value)} {B : Bs} {Φ : Hp} {C : List Chunk} {ty : TypeId} {pos : String} {af : Array Edge} {x y : Operand} {dst : Option Nat} {g : Option (Nat × Bool)} {b : Nat} {M : List UInt8 → Option Int} {k : List UInt8} (i : Nat) (hi : C[i]? = some (imap b M)) (hx : ev (fr f s) x = .map (some b)) (hy : ev (fr f s) y = .string (bs k)) (hk : k.length ≤ maxLen) : Qt pg (St B Φ C) f s ⟨dst, .lookup 108 x y true, ty, pos, af, g⟩ (.tuple #[.int .i64 ((M k).getD 0), .bool (M k).isSome]) :=
  q_kLook (L := kStr) (d := (0 : Int)) i hi hx hy hk Tryz.underlying108 zero3
theorem put_c {Φ : Hp} {b : Nat} {M : List UInt8 → Option Int} {n : List UInt8} {k : Int} (hn : n.length ≤ maxLen) (w : World) (hW : StP ⟨w, Φ, fps [imap b M]⟩ Φ [imap b M] w) :
    Calls pg 97 #[.map (some b), .string (bs n), .int .i64 k] w (OwnU w Φ [imap b M] (fun _ : Unit => .tuple #[]) fun _ => [imap b (Bc.put M n k)]) := by
  refine inJ3 19 (J := St ⟨w, Φ, fps [imap b M]⟩ Φ [imap b M]) Tryz.func97 rfl rfl hW ?_
  repeat refine g1 ?_
  refine RW.q rfl (q_iLook2 (b := b) (M := M) (k := n) 0 rfl rfl rfl hn) ?_
  cases hm : (M n).isSome with
  | true =>
    repeat first | refine t2 ?_ | refine g1 ?_
    exact fin_none rfl rfl (fun _ h => h) (fun w' hw => ⟨(), rfl, by rw [Bc.put, if_pos hm]; exact hw⟩)
  | false =>
    repeat first | refine t2 ?_ | refine g1 ?_
    refine RW.effn (e_kPut (L := kStr) (ew := Value.int .i64) (v := k) 0 rfl rfl rfl rfl hn Tryz.underlying108 rfl) ?_
    repeat refine g1 ?_
    exact fin_none rfl rfl (fun _ h => h) (fun w' hw => ⟨(), rfl, by rw [Bc.put, if_neg (by rw [hm]; simp)]; exact hw⟩)
theorem RW.put {N : Nat} {D : List Deferred} {ops : Array Oper} {Q : Exit → Act → World → Prop} {Pn : List PanicEntry → World → Prop} [hQ : PanQ D Q Pn] {f : Nat → Value} {s : List (Nat × Value)} {B : Bs} {Φ : Hp} {C C' : List Chunk} {rest : List Oper} {ty : TypeId} {pos : String} {af : Array Edge} {ts : Array TypeId} {d : Nat} {x y z : Operand} {b : Nat} {M : List UInt8 → Option Int} {n : List UInt8} {k : Int} (i : Nat) (hi : C[i]? = some (imap b M)) (hd : Nat.blt d N = true) (hx : ev (fr f s) x = .map (some b)) (hy : ev (fr f s) y = .string (bs n)) (hz : ev (fr f s) z = .int .i64 k) (hn : n.length ≤ maxLen) [hC : SetL C i (imap b (Bc.put M n k)) C']
    (kk : RW pg N D ops Q rest f ((d, .tuple #[]) :: s) (St B Φ C')) : RW pg N D ops Q (⟨some d, .call { callee := .value (.func 97), args := #[x, y, z], argTypes := ts }, ty, pos, af, none⟩ :: rest) f s (St B Φ C) :=
  RW.ec (X := Unit) (V := fun _ => .tuple #[]) (J' := fun _ => St B Φ C') (args := #[.map (some b), .string (bs n), .int .i64 k]) hd (fun w hw => by
    have h1 : StP B Φ ([imap b M] ++ C.eraseIdx i) w := StP.frontAt hw i hi
    refine (put_c hn w h1.hand).mono fun e w' ⟨_, he, h2⟩ => ⟨(), he, ?_⟩
    exact StP.backAt i hi hC.h (StP.frameL h1 h2)) rfl (by simp [hx, hy, hz]) fun _ => kk
theorem put_at {B : Bs} {Φ : Hp} {C C' : List Chunk} {b : Nat} {M : List UInt8 → Option Int} {n : List UInt8} {k : Int} (i : Nat) (hi : C[i]? = some (imap b M)) (hn : n.length ≤ maxLen) (hC : C.set i (imap b (Bc.put M n k)) = C') (w : World) (hw : StP B Φ C w) : Calls pg 97 #[.map (some b), .string (bs n), .int .i64 k] w fun e w' => ∃ _ : Unit, e = .returned (.tuple #[]) ∧ StP B Φ C' w' := by
  have h1 : StP B Φ ([imap b M] ++ C.eraseIdx i) w := StP.frontAt hw i hi
  refine (put_c hn w h1.hand).mono fun e w' ⟨_, he, h2⟩ => ⟨(), he, ?_⟩
  exact StP.backAt i hi hC (StP.frameL h1 h2)
theorem DW.put {N : Nat} {D : List Deferred} {ops : Array Oper} {Q : Exit → Act → World → Prop} {Pn : List PanicEntry → World → Prop} {f : Nat → Value} {s : List (Nat × Value)} {B : Bs} {Φ : Hp} {C C' : List Chunk} {J0 : Cls} {ty : TypeId} {pos : String} {af : Array Edge} {ts : Array TypeId} {d : Nat} {x y z : Operand} {b : Nat} {M : List UInt8 → Option Int} {n : List UInt8} {k : Int} (i : Nat) (hi : C[i]? = some (imap b M)) (hd : Nat.blt d N = true) (hx : ev (fr f s) x = .map (some b)) (hy : ev (fr f s) y = .string (bs n)) (hz : ev (fr f s) z = .int .i64 k) (hn : n.length ≤ maxLen) [hC : SetL C i (imap b (Bc.put M n k)) C']
    (kk : DW pg Pn N D ops J0 Q [] [] f ((d, .tuple #[]) :: s) (St B Φ C')) : DW pg Pn N D ops J0 Q [.e] [⟨some d, .call { callee := .value (.func 97), args := #[x, y, z], argTypes := ts }, ty, pos, af, none⟩] f s (St B Φ C) :=
  DW.eff (X := Unit) (fun _ => .tuple #[]) (fun _ => St B Φ C') (fun h => absurd rfl h) hd (e_call (args := #[.map (some b), .string (bs n), .int .i64 k]) oK rfl (by simp [hx, hy, hz]) fun w hw => put_at i hi hn hC.h w hw) fun _ => kk
theorem sz108 : (pg.info? 108).map (·.size) = some 1 := by kernel_rfl
instance : FA pg 110 0 0 := fA Tryz.underlying110 rfl sz108
instance : FA pg 110 1 1 := fA Tryz.underlying110 rfl sz108
instance : FA pg 110 2 2 := fA Tryz.underlying110 rfl sz108
instance : FA pg 110 3 3 := fA Tryz.underlying110 rfl sz108
instance : NA pg 108 := ⟨_, Tryz.underlying108, rfl⟩
instance : ZL pg 110 [.map none, .map none, .map none, .map none] := ⟨_, zero110, rfl⟩
def NmR (Ψ : Hp) (n : Bc.Nm) (r : Value) : Prop := ∃ b1 b2 b3 b4 : Nat, r = .agg #[.map (some b1), .map (some b2), .map (some b3), .map (some b4)] ∧ (imap b1 n.pl).sat Ψ ∧ (imap b2 n.lk).sat Ψ ∧ (imap b3 n.tn).sat Ψ ∧ (imap b4 n.en).sat Ψ
noncomputable abbrev nmC (n : Bc.Nm) (b1 b2 b3 b4 : Nat) : List Chunk := [imap b1 n.pl, imap b2 n.lk, imap b3 n.tn, imap b4 n.en]
abbrev nmV (b1 b2 b3 b4 : Nat) : List Value := [.map (some b1), .map (some b2), .map (some b3), .map (some b4)]
theorem collect_c (w : World) (Φ : Hp) (hΦ : Hp.le Φ (hp w)) {x : Bt.Node} {kv : Value} (hk : RepSl Φ x.Kids kv) (hw1 : ∀ d ∈ x.Kids, 0 < (Bc.wordsOf d).length) : Calls pg 53 #[ndA x kv] w (RetS Φ w fun r Ψ => NmR Ψ (Bc.collect x) r) := by
  have hkm : x.Kids.length * 72 ≤ 140737488355328 := hk.max
  have hx0 : ∀ {V : Value}, V = kv → ndA x kv = ndA x V := fun h => by rw [h]
  refine in1 95 Tryz.func53 rfl rfl hΦ ?_
  repeat refine g1 ?_
  refine RW.bxA rfl rfl fun b1 => ?_
  refine RW.alc rfl fun b2 => ?_
  repeat refine g1 ?_
  refine RW.mk (Value.int .i64) rfl fun m1 => ?_
  refine RW.mk (Value.int .i64) rfl fun m2 => ?_
  refine RW.mk (Value.int .i64) rfl fun m3 => ?_
  refine RW.mk (Value.int .i64) rfl fun m4 => ?_
  refine RW.q (v := .agg (nmV m1 m2 m3 m4).toArray) rfl (q_build (vals := [(0, .map (some m1)), (1, .map (some m2)), (2, .map (some m3)), (3, .map (some m4))]) zero110 Tryz.underlying110 places110 rfl rfl) ?_
  refine RW.alc rfl fun b3 => ?_
  repeat refine g1 ?_
  refine RW.mk (Value.int .i64) rfl fun mc => ?_
  repeat refine g1 ?_
  have hkk : ∀ Ψ : Hp, Hp.le Φ Ψ → RepSl Ψ x.Kids kv := fun Ψ h => hk.mono h
  have hco : Bc.collect x = { (Bc.col ⟨fun _ => none, fun _ => none, fun _ => none, fun _ => none⟩ (fun _ => none) x.Kids).1 with en := Bc.colS (((Bc.col ⟨fun _ => none, fun _ => none, fun _ => none, fun _ => none⟩ (fun _ => none) x.Kids).2 [116, 111, 119, 110]).getD 0) (Bc.col ⟨fun _ => none, fun _ => none, fun _ => none, fun _ => none⟩ (fun _ => none) x.Kids).1.en 0 x.Kids } := rfl
  generalize Bc.collect x = R at *
  generalize hcl : Bc.col ⟨fun _ => none, fun _ => none, fun _ => none, fun _ => none⟩ (fun _ => none) x.Kids = L at *
  obtain ⟨A, c, rfl, _⟩ := hk.sl
  repeat refine g1 ?_
  refine AW.lp (fun s J m => ∃ (i : Nat) (n : Bc.Nm) (M : List UInt8 → Option Int), s = [(21, .int .i64 (i : Int)), (20, .int .i64 ((x.Kids.length : Nat) : Int)), (19, .slice A x.Kids.length c), (4, .map (some mc)), (3, .pointer (some ⟨b3, 0, none⟩)), (2, .pointer (some ⟨b2, 0, none⟩)), (1, .pointer (some ⟨b1, 0, none⟩))] ∧ J = St ⟨w, Φ, []⟩ Φ (imap mc M :: .blk b3 110 (nmV m1 m2 m3 m4) :: .blk b2 110 [.map none, .map none, .map none, .map none] :: .blk b1 40 (ndC x (.slice A x.Kids.length c)) :: nmC n m1 m2 m3 m4) ∧ m = x.Kids.length - i ∧ i ≤ x.Kids.length ∧ L = Bc.col n M (x.Kids.drop i) ∧ ∀ j, 0 ≤ (M j).getD 0 ∧ (M j).getD 0 ≤ i) ⟨0, ⟨fun _ => none, fun _ => none, fun _ => none, fun _ => none⟩, _, rfl, rfl, rfl, Nat.zero_le _, hcl.symm, fun _ => ⟨Int.le_refl _, Int.le_refl _⟩⟩ ?_ ⟨rfl, rfl, rfl, rfl, rfl, rfl, rfl, trivial⟩ (fun _ h => StP.sel h [0, 1, 6, 7, 5, 4, 3, 2] (by decide) rfl)
  · rintro _ _ _ _ ⟨i, n, M, rfl, rfl, rfl, hi, hu, hM⟩
    repeat refine g1 ?_
    refine AW.cond rfl (fun h => ?_) fun h => ?_
    · have h : i < x.Kids.length := by simpa using h
      rw [drop_at h] at hu
      repeat refine g1 ?_
      refine RW.nd hk h rfl rfl rfl rfl fun kd q hkd hwd => ?_
      have hwl := hw1 _ (mem_at h)
      generalize x.Kids.getD i default = d at *
      have htl : d.Text.length ≤ maxLen := hwd.2.1
      have hsl := sortOf_len htl
      rw [Bc.col] at hu
      repeat refine g1 ?_
      refine AW.draw (J0 := St ⟨w, Φ, []⟩ Φ [.blk q 40 (ndC d kd)]) [.q, .q, .q, .q, .e, .q, .q, .q] [0, 1, 2, 3, 4, 5, 6, 7] hmix (by kernel_rfl) ?_
      repeat refine g1 ?_
      refine DW.c (fun _ h => St.one 0 rfl h) rfl (fun w _ => sortOf_c w) rfl rfl ?_
      repeat refine g1 ?_
      refine DW.cS (fun w Ψ hl h => StP.know hl (St.one 0 rfl h)) rfl (fun w1 hw1 => bword_c w1 Φ hw1.phi hkd hwl) rfl rfl ?_
      rintro _ Ψ ⟨wv, rfl, hww, hwk⟩ hlΨ
      repeat refine g1 ?_
      refine RW.wk (J' := St ⟨w, Φ, []⟩ Φ (imap mc M :: .blk b3 110 (nmV m1 m2 m3 m4) :: .blk b2 110 [.map none, .map none, .map none, .map none] :: .blk b1 40 (ndC x (.slice A x.Kids.length c)) :: nmC n m1 m2 m3 m4)) (fun _ h => StP.know hlΨ (h.drop (.cons _ (List.Sublist.refl _)))) ?_
      repeat refine g1 ?_
      have hnl : (Bc.word d).Text.length ≤ maxLen := hww.2.1
      have hcol : Bc.col1 n M d = if Bc.sortOf d.Text = [112, 108, 97, 99, 101] then { n with pl := Bc.put n.pl (Bc.word d).Text ((M (Bc.sortOf d.Text)).getD 0) } else if Bc.sortOf d.Text = [108, 105, 110, 107] then { n with lk := Bc.put n.lk (Bc.word d).Text ((M (Bc.sortOf d.Text)).getD 0) } else if Bc.sortOf d.Text = [116, 111, 119, 110] then { n with tn := Bc.put n.tn (Bc.word d).Text ((M (Bc.sortOf d.Text)).getD 0), en := Bc.put n.en (Bc.word d).Text ((M (Bc.sortOf d.Text)).getD 0) } else n := rfl
      generalize Bc.sortOf d.Text = so at *
      generalize (Bc.word d).Text = nm at *
      generalize Bc.col1 n M d = n2 at *
      have hso := hM so
      have h4 : so = [112, 108, 97, 99, 101] ∨ (so ≠ [112, 108, 97, 99, 101] ∧ so = [108, 105, 110, 107]) ∨ (so ≠ [112, 108, 97, 99, 101] ∧ so ≠ [108, 105, 110, 107] ∧ so = [116, 111, 119, 110]) ∨ (so ≠ [112, 108, 97, 99, 101] ∧ so ≠ [108, 105, 110, 107] ∧ so ≠ [116, 111, 119, 110]) := by
        rcases Decidable.em (so = [112, 108, 97, 99, 101]) with h | h
        · exact .inl h
        · rcases Decidable.em (so = [108, 105, 110, 107]) with h' | h'
          · exact .inr (.inl ⟨h, h'⟩)
          · rcases Decidable.em (so = [116, 111, 119, 110]) with h2 | h2
            · exact .inr (.inr (.inl ⟨h, h', h2⟩))
            · exact .inr (.inr (.inr ⟨h, h', h2⟩))
      rcases h4 with h1 | ⟨h1, h2⟩ | ⟨h1, h2, h3⟩ | ⟨h1, h2, h3⟩
      all_goals first | rw [if_pos h1] at hcol | rw [if_neg h1, if_pos h2] at hcol | rw [if_neg h1, if_neg h2, if_pos h3] at hcol | rw [if_neg h1, if_neg h2, if_neg h3] at hcol
      all_goals
        subst hcol
        repeat first | refine t2 ?_ | refine t3 ?_ | refine RW.q rfl (q_iLook (b := mc) (M := M) (k := so) 0 rfl rfl rfl hsl) ?_ | refine RW.put 4 rfl rfl rfl rfl rfl hnl ?_ | refine RW.put 5 rfl rfl rfl rfl rfl hnl ?_ | refine RW.put 6 rfl rfl rfl rfl rfl hnl ?_ | refine RW.put 7 rfl rfl rfl rfl rfl hnl ?_ | refine RW.effn (e_kPut (L := kStr) (ew := Value.int .i64) (v := (M so).getD 0 + 1) 0 rfl rfl rfl rfl hsl Tryz.underlying108 rfl) ?_ | refine g1 ?_
        exact Post.bk ⟨i + 1, _, _, rfl, rfl, rfl, h, hu, Bc.upC_le hM⟩
    · have h : i = x.Kids.length := by have := odF h; omega
      rw [h, List.drop_length, Bc.col] at hu
      subst hu
      have hto := hM [116, 111, 119, 110]
      replace hco : R = { n with en := Bc.colS ((M [116, 111, 119, 110]).getD 0) n.en 0 x.Kids } := hco
      generalize hE : Bc.colS ((M [116, 111, 119, 110]).getD 0) n.en 0 x.Kids = E at *
      repeat refine g1 ?_
      refine AW.lp (fun s J m => ∃ (i : Nat) (k : Int) (E1 : List UInt8 → Option Int), s = [(74, .int .i64 (i : Int)), (73, .int .i64 ((x.Kids.length : Nat) : Int)), (72, .slice A x.Kids.length c), (9, .int .i64 k), (4, .map (some mc)), (3, .pointer (some ⟨b3, 0, none⟩)), (2, .pointer (some ⟨b2, 0, none⟩))] ∧ J = St ⟨w, Φ, []⟩ Φ (imap mc M :: .blk b3 110 (nmV m1 m2 m3 m4) :: .blk b2 110 [.map none, .map none, .map none, .map none] :: nmC { n with en := E1 } m1 m2 m3 m4) ∧ m = x.Kids.length - i ∧ i ≤ x.Kids.length ∧ Bc.colS ((M [116, 111, 119, 110]).getD 0) E1 k (x.Kids.drop i) = E ∧ 0 ≤ k ∧ k ≤ i) ⟨0, 0, n.en, rfl, rfl, rfl, Nat.zero_le _, hE, Int.le_refl _, Int.le_refl _⟩ ?_
      rintro _ _ _ _ ⟨i, k, E1, rfl, rfl, rfl, hi, hu, hk0, hki⟩
      repeat refine g1 ?_
      refine AW.cond rfl (fun h => ?_) fun h => ?_
      · have h : i < x.Kids.length := by simpa using h
        rw [drop_at h, Bc.colS] at hu
        repeat refine g1 ?_
        refine RW.nd hk h rfl rfl rfl rfl fun kd q hkd hwd => ?_
        have hwl := hw1 _ (mem_at h)
        generalize x.Kids.getD i default = d at *
        rcases Decidable.em (d.Text = [115, 104, 101, 108, 116, 101, 114]) with h1 | h1
        · rw [if_pos h1] at hu
          repeat first | refine t2 ?_ | refine t3 ?_ | refine g1 ?_
          refine AW.drawZ (J0 := St ⟨w, Φ, []⟩ Φ (.blk q 40 (ndC d kd) :: imap mc M :: .blk b3 110 (nmV m1 m2 m3 m4) :: .blk b2 110 [.map none, .map none, .map none, .map none] :: nmC { n with en := E1 } m1 m2 m3 m4)) [.q, .q, .q, .q, .q, .q, .q, .e, .q, .e] [0, 1, 2, 5, 6, 7, 8, 3, 4, 9] hmix (by kernel_rfl) ?_
          repeat refine g1 ?_
          refine DW.q (fun _ h => h) rfl (q_iLook (b := mc) (M := M) (k := [116, 111, 119, 110]) 1 rfl rfl rfl (by decide)) ?_
          repeat refine g1 ?_
          refine DW.cS (fun w Ψ hl h => StP.know hl h) rfl (fun w1 hw1 => bword_c w1 Φ hw1.phi hkd hwl) rfl rfl ?_
          rintro _ Ψ ⟨wv, rfl, hww, hwk⟩ hlΨ
          have hnl : (Bc.word d).Text.length ≤ maxLen := hww.2.1
          refine DW.q (fun _ h => StP.know hlΨ h) rfl (qa_fld (cs := ndC (Bc.word d) wv) rfl rfl) ?_
          refine DW.put 7 rfl rfl rfl rfl rfl hnl ?_
          refine DW.nil ?_
          repeat refine g1 ?_
          exact Post.bk ⟨i + 1, k + 1, _, rfl, rfl, rfl, h, hu, by omega, by omega⟩ (by omega) ⟨rfl, rfl, rfl, rfl, rfl, rfl, rfl, trivial⟩ (fun _ h => StP.know hlΨ (h.drop (.cons _ (List.Sublist.refl _))))
        · rw [if_neg h1] at hu
          repeat first | refine t2 ?_ | refine t3 ?_ | refine g1 ?_
          exact Post.bk ⟨i + 1, k, _, rfl, rfl, rfl, h, hu, by omega, by omega⟩
      · have h : i = x.Kids.length := by have := odF h; omega
        rw [h, List.drop_length, Bc.colS] at hu
        subst hu
        repeat refine g1 ?_
        refine fin_res (vs := [.agg (nmV m1 m2 m3 m4).toArray]) rfl rfl ⟨.agg rfl rfl (Cells.blk 2 rfl), trivial⟩ rfl (fun w' hw => ⟨_, rfl, hw.below rfl, m1, m2, m3, m4, rfl, ?_⟩)
        rw [hco]
        exact ⟨ext_mem hw (by simp), ext_mem hw (by simp), ext_mem hw (by simp), ext_mem hw (by simp)⟩
end Go.Proofs.YtpapfpoefiikpaaGreatDoor
