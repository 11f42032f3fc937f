/- Lemmas. Conditions: those of each theorem. -/
import Derived.Test.YtpapfpoefiikpaaGreatDoorVBcM
set_option maxRecDepth 8000
set_option maxHeartbeats 16000000
namespace Bc
open Bt
theorem valsL_mem {n : S} : ∀ {l : List Node} {ks : List Node}, valsL n l = some ks → ∃ k ∈ l, ks = k.Kids
  | [], _, h => by cases h
  | k :: r, ks, h => by
    rw [valsL] at h
    split at h
    · exact ⟨k, List.mem_cons_self .., (sJ h).symm⟩
    · obtain ⟨k', h1, h2⟩ := valsL_mem h
      exact ⟨k', List.mem_cons_of_mem _ h1, h2⟩
structure NOk (n : Nm) : Prop where
  pl : ∀ k, Go.K.I64 ((n.pl k).getD 0)
  lk : ∀ k, Go.K.I64 ((n.lk k).getD 0)
  tn : ∀ k, Go.K.I64 ((n.tn k).getD 0)
  en : ∀ k, Go.K.I64 ((n.en k).getD 0)
theorem NOk.place {n : Nm} (h : NOk n) (s : S) : Go.K.I64 (n.place s) := by
  unfold Nm.place
  split
  · exact ⟨by decide, by decide⟩
  · exact h.pl s
end Bc
namespace Go.K
open Go Go.RowKit
theorem DT.cS {P : Program} {Pn : List PanicEntry → World → Prop} {N : Nat} {D : List Deferred} {ops : Array Oper} {f : Nat → Value} {s : List (Nat × Value)} {B : Bs} {Φ : Hp} {C : List Chunk} {J0 : Cls} {I : List (Nat × Value) → Cls → Prop} {t : TrO} {ty : TypeId} {pos : String} {af : Array Edge} {x : Operand} {xs : Array Operand} {ts : Array TypeId} {k : FuncId} {args : Array Value} {T : Value → Hp → Prop} {d : Nat} [hk : OwnI P k] (hJ : ∀ w Ψ, Hp.le Φ Ψ → StP B Ψ C w → J0.p w) (hd : Nat.blt d N = true) (h : ∀ w, (St B Φ C).p w → Calls P k args w (RetS Φ w T)) (hx : ev (fr f s) x = .func (.func k) #[] #[]) (ha : xs.toList.map (ev (fr f s)) = args.toList)
    (kk : ∀ v Ψ, T v Ψ → Hp.le Φ Ψ → DT P Pn N D ops J0 I t f ((d, v) :: s) (St B Ψ C)) : DT P Pn N D ops J0 I (.e ⟨some d, .call { callee := .value x, args := xs, argTypes := ts }, ty, pos, af, none⟩ t) f s (St B Φ C) :=
  DT.eff _ _ (fun _ y w h => hJ w _ y.2.2 h) hd (e_callS hk.h hx (by simpa using ha) h) fun y => kk y.1.1 y.1.2 y.2.1 y.2.2
theorem DT.al {P : Program} {Pn : List PanicEntry → World → Prop} {N : Nat} {D : List Deferred} {ops : Array Oper} {f : Nat → Value} {s : List (Nat × Value)} {B : Bs} {Φ : Hp} {C : List Chunk} {J0 : Cls} {I : List (Nat × Value) → Cls → Prop} {t : TrO} {ty T : TypeId} {pos : String} {af : Array Edge} {d : Nat} {cs : List Value} [hz : ZL P T cs] (hJ : ∀ b w, (St B Φ (.blk b T cs :: C)).p w → J0.p w) (hd : Nat.blt d N = true)
    (kk : ∀ b : Nat, DT P Pn N D ops J0 I t f ((d, .pointer (some ⟨b, 0, none⟩)) :: s) (St B Φ (.blk b T cs :: C))) : DT P Pn N D ops J0 I (.e ⟨some d, .alloc T, ty, pos, af, none⟩ t) f s (St B Φ C) := by
  obtain ⟨z, h1, rfl⟩ := hz.h
  exact DT.eff _ _ (fun _ b => hJ b) hd (e_alloc h1) kk
theorem DT.fk {P : Program} {Pn : List PanicEntry → World → Prop} {N : Nat} {D : List Deferred} {ops : Array Oper} {f : Nat → Value} {s : List (Nat × Value)} {B : Bs} {Φ : Hp} {C : List Chunk} {J0 : Cls} {I : List (Nat × Value) → Cls → Prop} {t1 t2 : TrO} {ty ty2 T2 : TypeId} {pos pos2 : String} {af af2 : Array Edge} {x : Operand} {xs : Array Operand} {ts : Array TypeId} {k : FuncId} {args : Array Value} {T : Value → Hp → Prop} {d d2 : Nat} {cs : List Value} [hk : OwnI P k] [hz : ZL P T2 cs] (hJ : ∀ w Ψ, Hp.le Φ Ψ → StP B Ψ C w → J0.p w) (hJ2 : ∀ b w, (St B Φ (.blk b T2 cs :: C)).p w → J0.p w) (hd : (Nat.blt d N && Nat.blt d2 N) = true) (h : ∀ w, (St B Φ C).p w → Calls P k args w (RetS Φ w T)) (hx : ev (fr f s) x = .func (.func k) #[] #[]) (ha : xs.toList.map (ev (fr f s)) = args.toList)
    (k1 : ∀ v Ψ, T v Ψ → Hp.le Φ Ψ → DT P Pn N D ops J0 I t1 f ((d, v) :: s) (St B Ψ C)) (k2 : ∀ b : Nat, DT P Pn N D ops J0 I t2 f ((d2, .pointer (some ⟨b, 0, none⟩)) :: s) (St B Φ (.blk b T2 cs :: C))) :
    DT P Pn N D ops J0 I (.f ⟨some d, .call { callee := .value x, args := xs, argTypes := ts }, ty, pos, af, none⟩ ⟨some d2, .alloc T2, ty2, pos2, af2, none⟩ t1 t2) f s (St B Φ C) := by
  simp only [Bool.and_eq_true] at hd
  obtain ⟨z, h1, rfl⟩ := hz.h
  exact DT.fork _ _ _ _ hd.1 hd.2 trivial trivial (fun y w h => hJ w _ y.2.2 h) hJ2 (e_callS hk.h hx (by simpa using ha) h) (e_alloc h1) (fun y => k1 y.1.1 y.1.2 y.2.1 y.2.2) k2
theorem DT.stA {P : Program} {Pn : List PanicEntry → World → Prop} {N : Nat} {D : List Deferred} {ops : Array Oper} {f : Nat → Value} {s : List (Nat × Value)} {B : Bs} {Φ : Hp} {C C' : List Chunk} {J0 : Cls} {I : List (Nat × Value) → Cls → Prop} {t ty T : TypeId} {pos : String} {af : Array Edge} {x y : Operand} {b n : Nat} {cs cs' : List Value} (i : Nat) [hs : SZ P t n] (hi : C[i]? = some (.blk b T cs)) (hx : ev (fr f s) x = .pointer (some ⟨b, 0, none⟩)) (hy : ev (fr f s) y = .agg cs'.toArray) (ho : cs'.all Value.oneCell' = true) (hl : Nat.beq cs.length n = true) (hl' : Nat.beq cs'.length n = true) [hC : SetL C i (.blk b T cs') C']
    (kk : DT P Pn N D ops J0 I .nil f s (St B Φ C')) : DT P Pn N D ops J0 I (.e ⟨none, .store t x y, ty, pos, af, none⟩ .nil) f s (St B Φ C) :=
  DT.effn (fun h => absurd rfl h) (e_stA i hi hx hy ho hl hl') kk
end Go.K
namespace Go.Proofs.YtpapfpoefiikpaaGreatDoor
open Go Go.K Go.RowKit
theorem wf_mem {Φ : Hp} {xs : List Bt.Node} {v : Value} (hk : RepSl Φ xs v) : ∀ k ∈ xs, wfN k ∧ ∃ kv, RepSl Φ k.Kids kv := fun k hm => by
  obtain ⟨i, hi, rfl⟩ := List.getElem_of_mem hm
  obtain ⟨kv, h1, h2, _⟩ := nd_at hk hi
  have hg : xs.getD i default = xs[i] := by simp [hi]
  rw [hg] at h1 h2
  exact ⟨h2, kv, h1⟩
theorem wf_get {Φ : Hp} {xs : List Bt.Node} {v : Value} (hk : RepSl Φ xs v) (i : Nat) : wfN (xs.getD i default) := by
  rcases Nat.lt_or_ge i xs.length with h | h
  · obtain ⟨_, _, h2, _⟩ := nd_at hk h
    exact h2
  · rw [gDD, List.getElem?_eq_none h]
    exact ⟨⟨by decide, by decide⟩, by decide, ⟨by decide, by decide⟩, ⟨by decide, by decide⟩, ⟨by decide, by decide⟩⟩
theorem valsD_rep {Φ : Hp} {x : Bt.Node} {kv : Value} (hk : RepSl Φ x.Kids kv) (n : List UInt8) : ∃ v, RepSl Φ (Bc.valsD x n) v := by
  unfold Bc.valsD
  cases h : Bc.vals x n with
  | none => exact ⟨_, repSl_nil⟩
  | some ks =>
    obtain ⟨k, h1, rfl⟩ := Bc.valsL_mem h
    exact (wf_mem hk k h1).2
theorem num_i64 {Φ : Hp} {x : Bt.Node} {kv : Value} (hk : RepSl Φ x.Kids kv) (n : List UInt8) (i : Nat) : I64 (Bc.num x n i) := by
  obtain ⟨v, hv⟩ := valsD_rep hk n
  exact (wf_get hv i).2.2.1
theorem text_len {Φ : Hp} {x : Bt.Node} {kv : Value} (hk : RepSl Φ x.Kids kv) (n : List UInt8) : (Bc.text x n).length ≤ maxLen := by
  obtain ⟨v, hv⟩ := valsD_rep hk n
  exact (wf_get hv 0).2.1
theorem word_len {Φ : Hp} {x : Bt.Node} {kv : Value} (hk : RepSl Φ x.Kids kv) : (Bc.word x).Text.length ≤ maxLen := by
  unfold Bc.word
  rw [gDD]
  cases h : (Bc.wordsOf x)[0]? with
  | none => exact Nat.zero_le _
  | some k => exact (wf_mem hk k (List.mem_filter.1 (List.mem_of_getElem? h)).1).1.2.1
section
variable {f : Nat → Value} {s : List (Nat × Value)} {B : Bs} {Φ : Hp} {C : List Chunk} {ty : TypeId} {pos : String} {af : Array Edge} {x y z : Operand} {ts : Array TypeId} {dst : Option Nat} {g : Option (Nat × Bool)} {d : Bt.Node} {kv : Value} {n : List UInt8}
theorem q_num (hk : RepSl Φ d.Kids kv) {i : Nat} (hx : ev (fr f s) x = ndA d kv) (hy : ev (fr f s) y = .string (bs n)) (hz : ev (fr f s) z = .int .i64 (i : Int)) (hi : i ≤ 16) : Qt pg (St B Φ C) f s ⟨dst, .call { callee := .value (.func 102), args := #[x, y, z], argTypes := ts }, ty, pos, af, g⟩ (.int .i64 (Bc.num d n i)) :=
  q_cl (k := 102) (args := #[ndA d kv, .string (bs n), .int .i64 (i : Int)]) rfl (by simp [hx, hy, hz]) fun w1 hw1 => bnum_c w1 Φ hw1.phi hk hi
theorem q_num0 (hk : RepSl Φ d.Kids kv) (hx : ev (fr f s) x = ndA d kv) (hy : ev (fr f s) y = .string (bs n)) : Qt pg (St B Φ C) f s ⟨dst, .call { callee := .value (.func 102), args := #[x, y, .const (.int .i64 0)], argTypes := ts }, ty, pos, af, g⟩ (.int .i64 (Bc.num d n 0)) := q_num hk (i := 0) hx hy rfl (by omega)
theorem q_num1 (hk : RepSl Φ d.Kids kv) (hx : ev (fr f s) x = ndA d kv) (hy : ev (fr f s) y = .string (bs n)) : Qt pg (St B Φ C) f s ⟨dst, .call { callee := .value (.func 102), args := #[x, y, .const (.int .i64 1)], argTypes := ts }, ty, pos, af, g⟩ (.int .i64 (Bc.num d n 1)) := q_num hk (i := 1) hx hy rfl (by omega)
theorem q_text (hk : RepSl Φ d.Kids kv) (hx : ev (fr f s) x = ndA d kv) (hy : ev (fr f s) y = .string (bs n)) : Qt pg (St B Φ C) f s ⟨dst, .call { callee := .value (.func 107), args := #[x, y], argTypes := ts }, ty, pos, af, g⟩ (.string (bs (Bc.text d n))) :=
  q_cl (k := 107) (args := #[ndA d kv, .string (bs n)]) rfl (by simp [hx, hy]) fun w1 hw1 => btext_c w1 Φ hw1.phi hk
theorem q_nL {b : Nat} {M : List UInt8 → Option Int} {k : List UInt8} (hx : ev (fr f s) x = .map (some b)) (hy : ev (fr f s) y = .string (bs k)) (hk : k.length ≤ maxLen) (hm : (imap b M).sat Φ) : Qt pg (St B Φ C) f s ⟨dst, .lookup 108 x y false, ty, pos, af, g⟩ (.int .i64 ((M k).getD 0)) := q_nLook hm hx hy hk
theorem q_pKind (hx : ev (fr f s) x = .string (bs n)) : Qt pg (St B Φ C) f s ⟨dst, .call { callee := .value (.func 134), args := #[x], argTypes := ts }, ty, pos, af, g⟩ (.int .i64 (Bc.placeKind n)) :=
  q_cl (k := 134) (args := #[.string (bs n)]) rfl (by simp [hx]) fun w1 _ => placeKind_c w1
theorem q_lKind (hx : ev (fr f s) x = .string (bs n)) : Qt pg (St B Φ C) f s ⟨dst, .call { callee := .value (.func 137), args := #[x], argTypes := ts }, ty, pos, af, g⟩ (.int .i64 (Bc.linkKind n)) :=
  q_cl (k := 137) (args := #[.string (bs n)]) rfl (by simp [hx]) fun w1 _ => linkKind_c w1
end
theorem DT.qj {P : Program} {Pn : List PanicEntry → World → Prop} {N : Nat} {D : List Deferred} {ops : Array Oper} {f : Nat → Value} {s : List (Nat × Value)} {B : Bs} {Φ Ψ : Hp} {C C' : List Chunk} {I : List (Nat × Value) → Cls → Prop} {t : TrO} {d : Nat} {op : Op} {ty : TypeId} {pos : String} {af : Array Edge} {v : Value} (hd : Nat.blt d N = true) (hq : Qt P (St B Φ C) f s ⟨some d, op, ty, pos, af, none⟩ v) (k : DT P Pn N D ops (St B Φ C) I t f ((d, v) :: s) (St B Ψ C')) (hJ : ∀ w, (St B Ψ C').p w → (St B Φ C).p w := by first | exact fun _ h => h | exact fun _ h => StP.know (by assumption) h | exact fun _ h => StP.drop h (List.sublist_cons_self _ _) | exact fun _ h => StP.know (by assumption) (StP.drop h (List.sublist_cons_self _ _))) : DT P Pn N D ops (St B Φ C) I (.q ⟨some d, op, ty, pos, af, none⟩ t) f s (St B Ψ C') := DT.q hJ hd hq k
theorem t6 {A B : Prop} (k : B) (h : Kt B → A := by
  intro k
  apply DT.q
  first | exact fun _ h => h | exact fun _ h => StP.know (by assumption) h | exact fun _ h => StP.drop h (List.sublist_cons_self _ _) | exact fun _ h => StP.know (by assumption) (StP.drop h (List.sublist_cons_self _ _))
  exact rfl
  first
  | apply qa_mv
    exact rfl
  | apply qa_fa0
    exact rfl
  | apply qa_ld
    exact rfl
    first | exact Cell.blk 0 rfl rfl | exact Cell.blk 1 rfl rfl | exact Cell.blk 2 rfl rfl | exact Cell.blk 3 rfl rfl
  | apply qa_ldA
    exact rfl
    first | exact Cells.blk 0 rfl | exact Cells.blk 1 rfl | exact Cells.blk 2 rfl | exact Cells.blk 3 rfl
    exact rfl
  | apply qa_fld
    exact rfl
    exact rfl
  | apply q_num0
    assumption
    exact rfl
    exact rfl
  | apply q_num1
    assumption
    exact rfl
    exact rfl
  | apply q_text
    assumption
    exact rfl
    exact rfl
  | apply q_pKind
    exact rfl
  | apply q_lKind
    exact rfl
  | apply q_place
    assumption
    exact rfl
    exact rfl
    exact text_len (by assumption) _
  | apply q_nL
    exact rfl
    exact rfl
    exact text_len (by assumption) _
    assumption
  exact k.r) : A := h ⟨k⟩
theorem DW.stoM {N : Nat} {D : List Deferred} {ops : Array Oper} {Q : Exit → Act → World → Prop} {Pn : List PanicEntry → World → Prop} {f : Nat → Value} {s : List (Nat × Value)} {B : Bs} {Φ : Hp} {C C' : List Chunk} {J0 : Cls} {tg : List Tg} {rest : List Oper} {t ty T : TypeId} {pos : String} {af : Array Edge} {x y : Operand} {b o : Nat} {v : Value} {cs cs' : List Value} (i : Nat) [hs : SZ pg t 1] (hi : C[i]? = some (.blk b T cs)) (hx : ev (fr f s) x = .pointer (some ⟨b, o, none⟩)) (hy : K.lk s y = some v) (hc : v.cells.toList = [v]) (ho : v.oneCell' = true) (hn : Nat.ble (o + 1) cs.length = true) [h1 : SetL cs o v cs'] [h2 : SetL C i (.blk b T cs') C'] (hJ : ∀ w, (St B Φ C').p w → J0.p w)
    (k : DW pg Pn N D ops J0 Q tg rest f s (St B Φ C')) : DW pg Pn N D ops J0 Q (.e :: tg) (⟨none, .store t x y, ty, pos, af, none⟩ :: rest) f s (St B Φ C) :=
  DW.effn (fun _ => hJ) (e_sto i hi hx hy hc ho hn) k
theorem t8 {A B : Prop} (k : B) (h : Kt B → A := by
  intro k
  apply DW.q
  intro _ h
  first | refine StP.drop h ?_ | (refine StP.know ?_ (StP.drop h ?_); assumption)
  repeat first | exact List.Sublist.refl _ | apply List.Sublist.cons_cons | apply List.Sublist.cons
  exact rfl
  first
  | apply q_num0
    assumption
    exact rfl
    exact rfl
  | apply q_text
    assumption
    exact rfl
    exact rfl
  | apply q_nL
    exact rfl
    exact rfl
    exact text_len (by assumption) _
    assumption
  exact k.r) : A := h ⟨k⟩
attribute [local irreducible] AW RW DW Post Qt DT
abbrev plV (x : Bt.Node) (n : Bc.Nm) (lv sv rv : Value) : List Value := [.string (bs (Bc.word x).Text), .int .i64 (Bc.placeKind x.Text), .int .i64 (Bc.num x [111, 102, 102, 105, 99, 101] 0), .int .i64 (Bc.num x [99, 97, 112] 0), lv, sv, .int .i64 (Bc.num x [114, 111, 117, 116, 101] 0), .int .i64 (Bc.num x [114, 111, 117, 116, 101] 1), .int .i64 (n.place (Bc.text x [100, 111, 119, 110])), .int .i64 (Bc.num x [100, 101, 108, 97, 121] 0), .int .i64 (Bc.num x [102, 108, 111, 111, 114] 0), rv]
theorem plV_one {x : Bt.Node} {n : Bc.Nm} {lv sv rv : Value} {a b c : Nat} (h1 : IsSl lv a) (h2 : IsSl sv b) (h3 : IsSl rv c) : (plV x n lv sv rv).all Value.oneCell' = true := by
  obtain ⟨_, _, rfl, _⟩ := h1
  obtain ⟨_, _, rfl, _⟩ := h2
  obtain ⟨_, _, rfl, _⟩ := h3
  rfl
abbrev z58 : List Value := [.string (bs []), .int .i64 0, .int .i64 0, .int .i64 0, .slice none 0 0, .slice none 0 0, .int .i64 0, .int .i64 0, .int .i64 0, .int .i64 0, .int .i64 0, .slice none 0 0]
abbrev cellsOf (xs : List Bt.Node) : List Bt.Cell := xs.map fun k => ⟨(Bc.pair k).1, (Bc.pair k).2⟩
theorem placeKind_i64 (k : List UInt8) : I64 (Bc.placeKind k) := by
  unfold Bc.placeKind
  repeat' split
  all_goals exact ⟨by decide, by decide⟩
theorem buildPlace_c (w : World) (Φ : Hp) (hΦ : Hp.le Φ (hp w)) {x : Bt.Node} {kv : Value} (hk : RepSl Φ x.Kids kv) {n : Bc.Nm} {nv : Value} (hn : NmR Φ n nv) (hok : Bc.NOk n) (hwl : 0 < (Bc.wordsOf x).length) (h2 : ∀ k, k = [108, 101, 118, 101, 108] ∨ k = [114, 97, 105, 110] → ∀ y ∈ Bc.valsD x k, y.Kids.length = 2) :
    Calls pg 105 #[ndA x kv, nv] w (RetS Φ w fun r Ψ => ∃ cs, r = .agg cs.toArray ∧ Rep.rep Ψ (Bc.mkPlace x n) cs) := by
  have hn2 := hn
  obtain ⟨b1, b2, b3, b4, rfl, -⟩ := hn2
  refine in2 68 Tryz.func105 rfl rfl hΦ ?_
  repeat refine g1 ?_
  refine RW.bxA rfl rfl fun bx => ?_
  refine RW.bxA rfl rfl fun bn => ?_
  refine RW.alc rfl fun br => ?_
  repeat refine g1 ?_
  refine AW.drawT (J0 := St ⟨w, Φ, []⟩ Φ [.blk br 58 z58, .blk bn 110 (nmV b1 b2 b3 b4), .blk bx 40 (ndC x kv)]) (fun s J => ∃ b lv sv Ψ, s = [(5, .pointer (some ⟨b, 0, none⟩)), (4, .pointer (some ⟨br, 0, none⟩)), (2, .pointer (some ⟨bx, 0, none⟩))] ∧ J = St ⟨w, Φ, []⟩ Ψ [.blk b 58 (plV x n lv sv (.slice none 0 0)), .blk br 58 z58, .blk bx 40 (ndC x kv)] ∧ Hp.le Φ Ψ ∧ RepSl Ψ (Bc.points x [108, 101, 118, 101, 108]) lv ∧ RepSl Ψ (Bc.nums x [115, 116, 97, 114, 116]) sv) (.q 0 (.q 3 (.q 4 (.q 6 (.q 8 (.q 10 (.q 12 (.q 14 (.q 16 (.q 18 (.q 19 (.q 22 (.q 24 (.f 1 27 (.q 2 (.q 5 (.q 7 (.q 9 (.f 11 27 (.f 13 27 (.q 15 (.q 17 (.q 20 (.q 21 (.q 23 (.q 25 (.q 26 (.e 27 (.e 28 .nil))))))))) (.e 13 (.q 15 (.q 17 (.q 20 (.q 21 (.q 23 (.q 25 (.q 26 (.e 28 .nil)))))))))) (.e 11 (.e 13 (.q 15 (.q 17 (.q 20 (.q 21 (.q 23 (.q 25 (.q 26 (.e 28 .nil))))))))))))))) (.e 1 (.q 2 (.q 5 (.q 7 (.q 9 (.e 11 (.e 13 (.q 15 (.q 17 (.q 20 (.q 21 (.q 23 (.q 25 (.q 26 (.e 28 .nil))))))))))))))))))))))))))))) hmix (by kernel_rfl) ?_ ?_
  · repeat refine t6 ?_
    refine DT.fk (fun w Ψ hl h => StP.know hl h) (fun b w h => StP.drop h (List.sublist_cons_self _ _)) rfl (fun w1 hw1 => bword_c w1 Φ hw1.phi hk hwl) rfl rfl ?_ fun b5 => ?_
    · skip
      rintro _ Ψ1 ⟨wv, rfl, -, -⟩ hl1
      repeat refine t6 ?_
      refine DT.fk (fun w Ψ hl h => StP.know (hl1.trans hl) h) (fun b w h => StP.know hl1 (StP.drop h (List.sublist_cons_self _ _))) rfl (fun w1 hw1 => bpoints_c w1 Ψ1 hw1.phi (hk.mono hl1) (h2 _ (.inl rfl))) rfl rfl ?_ fun b5 => ?_
      · skip
        rintro lv Ψ2 hlv hl2
        replace hl2 := hl1.trans hl2
        repeat refine t6 ?_
        refine DT.fk (fun w Ψ hl h => StP.know (hl2.trans hl) h) (fun b w h => StP.know hl2 (StP.drop h (List.sublist_cons_self _ _))) rfl (fun w1 hw1 => bnums_c w1 Ψ2 hw1.phi (hk.mono hl2)) rfl rfl ?_ fun b5 => ?_
        · skip
          rintro sv Ψ3 hsv hl3
          have hl23 := hl3
          replace hl3 := hl2.trans hl3
          repeat refine t6 ?_
          obtain ⟨lA, lc, rfl, -⟩ := hlv.sl
          obtain ⟨sA, sc, rfl, -⟩ := hsv.sl
          refine DT.qj (v := .agg (plV x n (.slice lA (Bc.points x [108, 101, 118, 101, 108]).length lc) (.slice sA (Bc.nums x [115, 116, 97, 114, 116]).length sc) (.slice none 0 0)).toArray) rfl (q_build (vals := [(0, .string (bs (Bc.word x).Text)), (1, .int .i64 (Bc.placeKind x.Text)), (2, .int .i64 (Bc.num x [111, 102, 102, 105, 99, 101] 0)), (3, .int .i64 (Bc.num x [99, 97, 112] 0)), (4, .slice lA (Bc.points x [108, 101, 118, 101, 108]).length lc), (5, .slice sA (Bc.nums x [115, 116, 97, 114, 116]).length sc), (6, .int .i64 (Bc.num x [114, 111, 117, 116, 101] 0)), (7, .int .i64 (Bc.num x [114, 111, 117, 116, 101] 1)), (8, .int .i64 (n.place (Bc.text x [100, 111, 119, 110]))), (9, .int .i64 (Bc.num x [100, 101, 108, 97, 121] 0)), (10, .int .i64 (Bc.num x [102, 108, 111, 111, 114] 0))]) zero58 Tryz.underlying58 places58 rfl (by kernel_rfl)) ?_
          refine DT.al (fun b w h => StP.know hl3 (StP.drop h (List.sublist_cons_self _ _))) rfl fun b5 => ?_
          refine DT.stA 0 rfl rfl rfl rfl rfl rfl ?_
          exact DT.nil ⟨b5, _, _, Ψ3, rfl, rfl, hl3, hlv.mono hl23, hsv⟩ ⟨rfl, rfl, rfl, trivial⟩ (fun _ h => StP.drop h (.cons_cons _ (.cons_cons _ (.cons _ (List.Sublist.refl _)))))
        · skip
          refine DT.cS (fun w Ψ hl h => StP.know (hl2.trans hl) (StP.drop h (List.sublist_cons_self _ _))) rfl (fun w1 hw1 => bnums_c w1 Ψ2 hw1.phi (hk.mono hl2)) rfl rfl ?_
          rintro sv Ψ3 hsv hl3
          have hl23 := hl3
          replace hl3 := hl2.trans hl3
          repeat refine t6 ?_
          obtain ⟨lA, lc, rfl, -⟩ := hlv.sl
          obtain ⟨sA, sc, rfl, -⟩ := hsv.sl
          refine DT.qj (v := .agg (plV x n (.slice lA (Bc.points x [108, 101, 118, 101, 108]).length lc) (.slice sA (Bc.nums x [115, 116, 97, 114, 116]).length sc) (.slice none 0 0)).toArray) rfl (q_build (vals := [(0, .string (bs (Bc.word x).Text)), (1, .int .i64 (Bc.placeKind x.Text)), (2, .int .i64 (Bc.num x [111, 102, 102, 105, 99, 101] 0)), (3, .int .i64 (Bc.num x [99, 97, 112] 0)), (4, .slice lA (Bc.points x [108, 101, 118, 101, 108]).length lc), (5, .slice sA (Bc.nums x [115, 116, 97, 114, 116]).length sc), (6, .int .i64 (Bc.num x [114, 111, 117, 116, 101] 0)), (7, .int .i64 (Bc.num x [114, 111, 117, 116, 101] 1)), (8, .int .i64 (n.place (Bc.text x [100, 111, 119, 110]))), (9, .int .i64 (Bc.num x [100, 101, 108, 97, 121] 0)), (10, .int .i64 (Bc.num x [102, 108, 111, 111, 114] 0))]) zero58 Tryz.underlying58 places58 rfl (by kernel_rfl)) ?_
          refine DT.stA 0 rfl rfl rfl rfl rfl rfl ?_
          exact DT.nil ⟨b5, _, _, Ψ3, rfl, rfl, hl3, hlv.mono hl23, hsv⟩ ⟨rfl, rfl, rfl, trivial⟩ (fun _ h => StP.drop h (.cons_cons _ (.cons_cons _ (.cons _ (List.Sublist.refl _)))))
      · skip
        refine DT.cS (fun w Ψ hl h => StP.know (hl1.trans hl) (StP.drop h (List.sublist_cons_self _ _))) rfl (fun w1 hw1 => bpoints_c w1 Ψ1 hw1.phi (hk.mono hl1) (h2 _ (.inl rfl))) rfl rfl ?_
        rintro lv Ψ2 hlv hl2
        replace hl2 := hl1.trans hl2
        repeat refine t6 ?_
        refine DT.cS (fun w Ψ hl h => StP.know (hl2.trans hl) (StP.drop h (List.sublist_cons_self _ _))) rfl (fun w1 hw1 => bnums_c w1 Ψ2 hw1.phi (hk.mono hl2)) rfl rfl ?_
        rintro sv Ψ3 hsv hl3
        have hl23 := hl3
        replace hl3 := hl2.trans hl3
        repeat refine t6 ?_
        obtain ⟨lA, lc, rfl, -⟩ := hlv.sl
        obtain ⟨sA, sc, rfl, -⟩ := hsv.sl
        refine DT.qj (v := .agg (plV x n (.slice lA (Bc.points x [108, 101, 118, 101, 108]).length lc) (.slice sA (Bc.nums x [115, 116, 97, 114, 116]).length sc) (.slice none 0 0)).toArray) rfl (q_build (vals := [(0, .string (bs (Bc.word x).Text)), (1, .int .i64 (Bc.placeKind x.Text)), (2, .int .i64 (Bc.num x [111, 102, 102, 105, 99, 101] 0)), (3, .int .i64 (Bc.num x [99, 97, 112] 0)), (4, .slice lA (Bc.points x [108, 101, 118, 101, 108]).length lc), (5, .slice sA (Bc.nums x [115, 116, 97, 114, 116]).length sc), (6, .int .i64 (Bc.num x [114, 111, 117, 116, 101] 0)), (7, .int .i64 (Bc.num x [114, 111, 117, 116, 101] 1)), (8, .int .i64 (n.place (Bc.text x [100, 111, 119, 110]))), (9, .int .i64 (Bc.num x [100, 101, 108, 97, 121] 0)), (10, .int .i64 (Bc.num x [102, 108, 111, 111, 114] 0))]) zero58 Tryz.underlying58 places58 rfl (by kernel_rfl)) ?_
        refine DT.stA 0 rfl rfl rfl rfl rfl rfl ?_
        exact DT.nil ⟨b5, _, _, Ψ3, rfl, rfl, hl3, hlv.mono hl23, hsv⟩ ⟨rfl, rfl, rfl, trivial⟩ (fun _ h => StP.drop h (.cons_cons _ (.cons_cons _ (.cons _ (List.Sublist.refl _)))))
    · skip
      refine DT.cS (fun w Ψ hl h => StP.know hl (StP.drop h (List.sublist_cons_self _ _))) rfl (fun w1 hw1 => bword_c w1 Φ hw1.phi hk hwl) rfl rfl ?_
      rintro _ Ψ1 ⟨wv, rfl, -, -⟩ hl1
      repeat refine t6 ?_
      refine DT.cS (fun w Ψ hl h => StP.know (hl1.trans hl) (StP.drop h (List.sublist_cons_self _ _))) rfl (fun w1 hw1 => bpoints_c w1 Ψ1 hw1.phi (hk.mono hl1) (h2 _ (.inl rfl))) rfl rfl ?_
      rintro lv Ψ2 hlv hl2
      replace hl2 := hl1.trans hl2
      repeat refine t6 ?_
      refine DT.cS (fun w Ψ hl h => StP.know (hl2.trans hl) (StP.drop h (List.sublist_cons_self _ _))) rfl (fun w1 hw1 => bnums_c w1 Ψ2 hw1.phi (hk.mono hl2)) rfl rfl ?_
      rintro sv Ψ3 hsv hl3
      have hl23 := hl3
      replace hl3 := hl2.trans hl3
      repeat refine t6 ?_
      obtain ⟨lA, lc, rfl, -⟩ := hlv.sl
      obtain ⟨sA, sc, rfl, -⟩ := hsv.sl
      refine DT.qj (v := .agg (plV x n (.slice lA (Bc.points x [108, 101, 118, 101, 108]).length lc) (.slice sA (Bc.nums x [115, 116, 97, 114, 116]).length sc) (.slice none 0 0)).toArray) rfl (q_build (vals := [(0, .string (bs (Bc.word x).Text)), (1, .int .i64 (Bc.placeKind x.Text)), (2, .int .i64 (Bc.num x [111, 102, 102, 105, 99, 101] 0)), (3, .int .i64 (Bc.num x [99, 97, 112] 0)), (4, .slice lA (Bc.points x [108, 101, 118, 101, 108]).length lc), (5, .slice sA (Bc.nums x [115, 116, 97, 114, 116]).length sc), (6, .int .i64 (Bc.num x [114, 111, 117, 116, 101] 0)), (7, .int .i64 (Bc.num x [114, 111, 117, 116, 101] 1)), (8, .int .i64 (n.place (Bc.text x [100, 111, 119, 110]))), (9, .int .i64 (Bc.num x [100, 101, 108, 97, 121] 0)), (10, .int .i64 (Bc.num x [102, 108, 111, 111, 114] 0))]) zero58 Tryz.underlying58 places58 rfl (by kernel_rfl)) ?_
      refine DT.stA 0 rfl rfl rfl rfl rfl rfl ?_
      exact DT.nil ⟨b5, _, _, Ψ3, rfl, rfl, hl3, hlv.mono hl23, hsv⟩ ⟨rfl, rfl, rfl, trivial⟩ (fun _ h => StP.drop h (.cons_cons _ (.cons_cons _ (.cons _ (List.Sublist.refl _)))))
  · rintro f' _ _ ⟨b5, lv, sv, Ψ, rfl, rfl, hl, hlv, hsv⟩
    have hkΨ := hk.mono hl
    repeat refine g1 ?_
    refine RW.vals hkΨ rfl rfl rfl fun v hv => ?_
    have hvm : (Bc.valsD x [114, 97, 105, 110]).length * 72 ≤ 140737488355328 := hv.max
    have h3 := h2 [114, 97, 105, 110] (.inr rfl)
    have hmk : ∀ cs, Rep.rep Ψ (Bc.mkPlace x n) cs = Rep.rep Ψ (⟨bs (Bc.word x).Text, Bc.placeKind x.Text, Bc.num x [111, 102, 102, 105, 99, 101] 0, Bc.num x [99, 97, 112] 0, Bc.points x [108, 101, 118, 101, 108], Bc.nums x [115, 116, 97, 114, 116], Bc.num x [114, 111, 117, 116, 101] 0, Bc.num x [114, 111, 117, 116, 101] 1, n.place (Bc.text x [100, 111, 119, 110]), Bc.num x [100, 101, 108, 97, 121] 0, Bc.num x [102, 108, 111, 111, 114] 0, cellsOf (Bc.valsD x [114, 97, 105, 110])⟩ : Bt.Place) cs := fun _ => rfl
    obtain ⟨M, hM⟩ : ∃ M, Bc.mkPlace x n = M := ⟨_, rfl⟩
    have hMe : M = (⟨bs (Bc.word x).Text, Bc.placeKind x.Text, Bc.num x [111, 102, 102, 105, 99, 101] 0, Bc.num x [99, 97, 112] 0, Bc.points x [108, 101, 118, 101, 108], Bc.nums x [115, 116, 97, 114, 116], Bc.num x [114, 111, 117, 116, 101] 0, Bc.num x [114, 111, 117, 116, 101] 1, n.place (Bc.text x [100, 111, 119, 110]), Bc.num x [100, 101, 108, 97, 121] 0, Bc.num x [102, 108, 111, 111, 114] 0, cellsOf (Bc.valsD x [114, 97, 105, 110])⟩ : Bt.Place) := hM.symm
    rw [hM]
    clear hmk hM
    generalize Bc.valsD x [114, 97, 105, 110] = xs at *
    obtain ⟨A, c, rfl, _⟩ := hv.sl
    repeat refine g1 ?_
    refine AW.wk (J' := St ⟨w, Φ, []⟩ Ψ [.row (.slice none 0 0) 138 2 0 [], .blk b5 58 (plV x n lv sv (.slice none 0 0)), .blk br 58 z58]) (fun _ h => (addNil h).drop (.cons_cons _ (.cons_cons _ (.cons_cons _ (List.nil_sublist _))))) ?_
    refine AW.lp (fun s J m => ∃ (i : Nat) (v1 : Value), s = [(44, .int .i64 (i : Int)), (43, .int .i64 ((xs.length : Nat) : Int)), (42, .slice A xs.length c), (5, .pointer (some ⟨b5, 0, none⟩)), (4, .pointer (some ⟨br, 0, none⟩))] ∧ J = St ⟨w, Φ, []⟩ Ψ [.row v1 138 2 i (flat (cellsOf (xs.take i))), .blk b5 58 (plV x n lv sv v1), .blk br 58 z58] ∧ m = xs.length - i ∧ i ≤ xs.length ∧ (∀ y ∈ xs.take i, I64 (Bc.pair y).1 ∧ I64 (Bc.pair y).2) ∧ IsSl v1 i) ⟨0, _, rfl, rfl, rfl, Nat.zero_le _, (fun y hy => by cases hy), isSl_nil⟩ ?_
    rintro _ _ _ _ ⟨i, v1, rfl, rfl, rfl, hi, hr1, hs1⟩
    repeat refine g1 ?_
    refine AW.cond rfl (fun h => ?_) fun h => ?_
    · have h : i < xs.length := by simpa using h
      repeat refine g1 ?_
      refine RW.nd hv h rfl rfl rfl rfl fun kv q hkv hwk => ?_
      have ht := take_at h
      have hl2 := h3 _ (mem_at h)
      generalize hn : xs.getD i default = n2 at *
      obtain ⟨k0, l1, l2, l3⟩ := nd_at hkv (i := 0) (by omega)
      obtain ⟨k1, m1, m2, m3⟩ := nd_at hkv (i := 1) (by omega)
      repeat refine g1 ?_
      refine AW.draw (J0 := St ⟨w, Φ, []⟩ Ψ [.blk q 40 (ndC n2 kv), .blk b5 58 (plV x n lv sv v1)]) [.q, .q, .q, .q, .q, .q, .q, .q, .q, .q, .q, .q, .q, .q, .q, .e, .e, .q, .e] [0, 1, 2, 3, 4, 5, 6, 7, 8, 9, 10, 11, 12, 13, 14, 15, 16, 17, 18] hmix (by kernel_rfl) ?_
      repeat refine t4 ?_
      refine DW.q (fun _ h => StP.drop h (.cons_cons _ (.cons _ (.cons_cons _ (List.nil_sublist _))))) rfl (qa_ixL (v := kv) (i := 0) rfl rfl hkv.sl (by omega)) ?_
      repeat refine t4 ?_
      refine DW.q (fun _ h => StP.drop h (.cons_cons _ (.cons _ (.cons_cons _ (List.nil_sublist _))))) rfl (qa_ld rfl (Cell.phi (l3 2 _ rfl))) ?_
      repeat refine t4 ?_
      refine DW.q (fun _ h => StP.drop h (.cons_cons _ (.cons _ (.cons_cons _ (List.nil_sublist _))))) rfl (qa_ixL (v := kv) (i := 1) rfl rfl hkv.sl (by omega)) ?_
      repeat refine t4 ?_
      refine DW.q (fun _ h => StP.drop h (.cons_cons _ (.cons _ (.cons_cons _ (List.nil_sublist _))))) rfl (qa_ld rfl (Cell.phi (m3 2 _ rfl))) ?_
      repeat refine t4 ?_
      refine DW.q (v := .agg #[.int .i64 (Bc.pair n2).1, .int .i64 (Bc.pair n2).2]) (fun _ h => StP.drop h (.cons_cons _ (.cons _ (.cons_cons _ (List.nil_sublist _))))) rfl (q_build (vals := [(0, .int .i64 (Bc.pair n2).1), (1, .int .i64 (Bc.pair n2).2)]) zero138 Tryz.underlying138 places138 rfl rfl) ?_
      refine DW.eff _ _ (fun _ _ _ h => StP.drop h (.cons _ (.cons_cons _ (.cons _ (.cons_cons _ (List.nil_sublist _)))))) rfl (e_buildSlice (vals := [(0, .agg #[.int .i64 (Bc.pair n2).1, .int .i64 (Bc.pair n2).2])]) (cells := [.int .i64 (Bc.pair n2).1, .int .i64 (Bc.pair n2).2]) Tryz.underlying56 inf138 rfl rfl rfl (by kernel_rfl) rfl) fun b6 => ?_
      refine DW.eff (fun xv : {vq : Value // IsSl vq (i + 1)} => xv.1) (fun xv => St ⟨w, Φ, []⟩ Ψ [.row (.slice (some ⟨b6, 0, none⟩) 1 1) 138 2 1 [.int .i64 (Bc.pair n2).1, .int .i64 (Bc.pair n2).2], .blk q 40 (ndC n2 kv), .row xv.1 138 2 (i + 1) (flat (cellsOf (xs.take i)) ++ [.int .i64 (Bc.pair n2).1, .int .i64 (Bc.pair n2).2]), .blk b5 58 (plV x n lv sv v1), .blk br 58 z58]) (fun _ _ _ h => StP.drop h (.cons _ (.cons_cons _ (.cons _ (.cons_cons _ (List.nil_sublist _)))))) rfl (e_append 2 rfl rfl rfl Tryz.underlying56 inf138 rfl rfl rfl (Cells.row0 0 rfl) rfl (by omega) (by omega) (fun _ => rfl)) ?_
      rintro ⟨va, hva⟩
      have hva2 := hva
      obtain ⟨A9, c9, rfl, _⟩ := hva2
      repeat refine t4 ?_
      refine DW.sto 3 rfl rfl rfl rfl rfl rfl ?_
      repeat refine g1 ?_
      refine Post.bk ⟨i + 1, .slice A9 (i + 1) c9, rfl, rfl, rfl, h, ?_, hva⟩ (by omega) ⟨rfl, rfl, rfl, rfl, rfl, trivial⟩ (fun _ h => ?_)
      · rw [ht]; intro y hy; rcases List.mem_append.1 hy with hy | hy
        · exact hr1 y hy
        · rw [List.mem_singleton.1 hy]; exact ⟨l2.2.2.1, m2.2.2.1⟩
      · rw [ht, cellsOf, List.map_append, flat_append]; exact StP.drop h (.cons _ (.cons _ (List.Sublist.refl _)))
    · have h : i = xs.length := by have := odF h; omega
      subst h
      rw [List.take_length] at *
      repeat refine g1 ?_
      refine RW.stA 2 rfl rfl rfl (plV_one hlv.sl hsv.sl hs1) rfl rfl ?_
      repeat refine g1 ?_
      refine fin_res (vs := [.agg (plV x n lv sv v1).toArray]) rfl rfl ⟨.agg rfl rfl (Cells.blk 2 rfl), trivial⟩ rfl (fun w' hw => ⟨_, rfl, hw.below rfl, _, rfl, ?_⟩)
      rw [hMe]
      refine ⟨lv, sv, v1, rfl, ⟨word_len hk, placeKind_i64 _, num_i64 hk _ _, num_i64 hk _ _, num_i64 hk _ _, num_i64 hk _ _, hok.place _, num_i64 hk _ _, num_i64 hk _ _⟩, hlv.mono hw.phi_ext, hsv.mono hw.phi_ext, ?_⟩
      exact RowS.repE (T := 138) (n := xs.length) even138 (row_ext hw 0 rfl) (List.length_map ..) (by show _ * 16 ≤ _; simp only [maxSl]; omega) (fun y hy => by obtain ⟨z, hz, rfl⟩ := List.mem_map.1 hy; exact hr1 z hz)
end Go.Proofs.YtpapfpoefiikpaaGreatDoor
