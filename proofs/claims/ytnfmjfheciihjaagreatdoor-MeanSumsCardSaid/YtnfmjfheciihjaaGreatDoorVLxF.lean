/- Lemmas. Conditions: those of each theorem. -/
import Derived.Test.YtnfmjfheciihjaaGreatDoorVSmP
set_option maxRecDepth 8000
set_option maxHeartbeats 16000000
namespace Go.Proofs.YtnfmjfheciihjaaGreatDoor
open Go Go.K Go.RowKit
open Ru (pB NmS BasV)
attribute [local irreducible] AW RW DW Post Qt
variable {P : Program} {J : Cls} {f : Nat → Value} {s : List (Nat × Value)} {dst : Option Nat} {ty : TypeId} {pos : String} {af : Array Edge} {g : Option (Nat × Bool)} {c a b : Operand} {v : Value} in
theorem qkT (hc : ev (fr f s) c = .bool true) (ha : ev (fr f s) a = v) : Qt P J f s ⟨dst, .pick c a b, ty, pos, af, g⟩ v := q_pick hc (fun _ => ha) (fun h => nomatch h)
theorem eqF49 (a b c d : Int) (n : Nat) (w : World) : (Op.eqFields (n + 1) #[iV a, iV b] #[iV c, iV d] (pg.fieldsOf 49).toList).run pg w = .ok (decide (a = c) && decide (b = d)) w := by
 unfold Program.fieldsOf
 rw [uT49]
 have hp : ∀ {cs : Array Value} {o : Nat} {v : Value} (h : cs[o]? = some v) (w : World), (part 3 cs o).run pg w = .ok v w := fun h w => run_part1 uT3 rfl h w
 have hq : ∀ (x y : Int) (w : World), (Op.equalIn (n + 1) 3 (iV x) (iV y)).run pg w = .ok (x == y) w := fun x y w => run_equalIn_int w n 3 .i64 .i64 x y uT3
 simp only [Op.eqFields, ne_eq, String.reduceEq, not_false_eq_true, if_true, Sem.run_bind, hp (show #[Value.int .i64 a, Value.int .i64 b][0]? = some (iV a) from rfl), hp (show #[Value.int .i64 c, Value.int .i64 d][0]? = some (iV c) from rfl), hp (show #[Value.int .i64 a, Value.int .i64 b][1]? = some (iV b) from rfl), hp (show #[Value.int .i64 c, Value.int .i64 d][1]? = some (iV d) from rfl), hq, Result.andThen_ok, Sem.run_ite, Sem.run_pure]
 by_cases h1 : a = c <;> by_cases h2 : b = d <;> simp [h1, h2]
theorem eqS49 (a b c d : Int) : ∀ w, (Op.equal 49 (.agg #[iV a, iV b]) (.agg #[iV c, iV d])).run pg w = .ok (decide (a = c) && decide (b = d)) w := fun w => by
 have hT : pg.underlying 49 = some (.struct (pg.fieldsOf 49)) := by unfold Program.fieldsOf; rw [uT49]
 show (Op.equalIn (9998 + 1 + 1) 49 _ _).run pg w = _
 rw [run_equalIn_struct w (9998 + 1) 49 _ _ hT (by kernel_rfl)]
 exact eqF49 a b c d 9998 w
theorem eqG49 : Program.eqGuardType pg pg.depth 49 = false := by kernel_rfl
theorem RowS.pc {Φ : Hp} {v : Value} {T sz n : Nat} {xs : List Value} (h : RowS Φ v T sz n xs) {k : Nat} {x : Value} (hx : xs[k]? = some x) : PCell Φ (Value.at v k) x := by
 obtain ⟨hl, hs⟩ := h
 have hk : k < xs.length := (List.getElem?_eq_some_iff.1 hx).1
 rcases hs with ⟨rfl, rfl⟩ | ⟨g, cap, cur, rfl, h2, h3, h4, h5, h6⟩
 ·
  omega
 ·
  have ha : Value.at (.slice (some ⟨g, 0, none⟩) n cap) k = ⟨g, k, none⟩ := by
   simp only [Value.at, Addr.add]; split <;> simp_all
  rw [ha]
  refine ⟨cur, T, (0, 0), h2, rfl, ?_⟩
  rw [← h6] at hx
  simp only [List.getElem?_take] at hx
  split at hx
  ·
   simpa using hx
  ·
   cases hx
abbrev sV (l : List UInt8) : Value := .string (bs l)
abbrev plC (nm : List UInt8) : List Value := [sV nm, iV 0, iV 0, iV 0, .slice none 0 0, .slice none 0 0, iV 0, iV 0, iV 0, iV 0, iV 0, .slice none 0 0]
abbrev lkC (nm : List UInt8) (p : Int) : List Value := [sV nm, iV 0, iV 0, iV 0, .slice none 0 0, .slice none 0 0, .slice none 0 0, iV p, iV 0, iV 0, iV 0, iV 0, iV 0, iV 0, iV 0, iV 0, iV 0, iV 0]
abbrev tnC (nm : List UInt8) : List Value := [sV nm, iV 0, iV 0, iV 0, iV 0, iV 0, iV 0]
theorem nms1 {Φ : Hp} {v : Value} {T sz : Nat} {xs : List Value} {a : List UInt8} (h : RowS Φ v T sz 1 xs) (h1 : xs[0]? = some (sV a)) (ha : a.length ≤ maxLen) : NmS Φ v sz [a] := ⟨h.isSl, fun i hi => by
 obtain rfl : i = 0 := by simpa using hi
 rw [Nat.zero_mul]; exact RowS.pc h h1, fun n hn => by
 obtain rfl : n = a := by simpa using hn
 exact ha, by simp⟩
theorem nms2 {Φ : Hp} {v : Value} {T sz : Nat} {xs : List Value} {a b : List UInt8} (h : RowS Φ v T sz 2 xs) (h1 : xs[0]? = some (sV a)) (h2 : xs[sz]? = some (sV b)) (ha : a.length ≤ maxLen) (hb : b.length ≤ maxLen) : NmS Φ v sz [a, b] := ⟨h.isSl, fun i hi => by
 match i, hi with
 | 0, _ => rw [Nat.zero_mul]; exact RowS.pc h h1
 | 1, _ => rw [Nat.one_mul]; exact RowS.pc h h2, fun n hn => by
 rcases (by simpa using hn : n = a ∨ n = b) with rfl | rfl
 ·
  exact ha
 ·
  exact hb, by simp⟩
abbrev plK (z : Nat × Nat × Nat × Nat) : List Chunk := [.row (nR z.2.2.1 2) 58 18 2 (lkC [103, 49] 4 ++ lkC [103, 50] 2), .row (nR z.2.2.2 1) 94 7 1 (tnC [111, 108, 100, 116, 111, 119, 110]), .row (nR z.2.1 2) 92 12 2 (plC [108, 97, 107, 101] ++ plC [98, 114, 111, 111, 107]), .row (nR z.1 1) 9 1 1 [sV [112, 117, 98, 108, 105, 99]]]
abbrev plB (z : Nat × Nat × Nat × Nat) : BasV := ⟨[], nR z.1 1, 0, nR z.2.1 2, nR z.2.2.1 2, nR z.2.2.2 1, .slice none 0 0, .slice none 0 0, .slice none 0 0, .slice none 0 0, 0⟩
theorem plainM_c (w : World) : Calls pg 14 #[] w (MkR w (fun z => .agg (plB z).cs.toArray) plK) := by
 refine calls_of_AW (args := []) Tryz.func14 rfl (lBT rfl) (St ⟨w, hp w, []⟩ (hp w) []) (StP.init w (hp w) (Hp.le_refl _) []) ?_
 show AW _ _ [] _ _ _ [] _
 repeat refine gs1 ?_
 refine RW.alc rfl fun b0 => ?_
 repeat refine gs1 ?_
 refine RW.eff _ _ rfl (e_buildSlice (vals := [(0, sV [112, 117, 98, 108, 105, 99])]) (cells := [sV [112, 117, 98, 108, 105, 99]]) uT22 inf9 rfl rfl rfl (by kernel_rfl) rfl) fun b1 => (RW.q (v := .agg (plC [108, 97, 107, 101]).toArray) rfl (q_build (vals := [(0, sV [108, 97, 107, 101])]) zero92 uT92 places92 rfl rfl) (RW.q (v := .agg (plC [98, 114, 111, 111, 107]).toArray) rfl (q_build (vals := [(0, sV [98, 114, 111, 111, 107])]) zero92 uT92 places92 rfl rfl) (RW.eff _ _ rfl (e_buildSlice (vals := [(0, .agg (plC [108, 97, 107, 101]).toArray), (1, .agg (plC [98, 114, 111, 111, 107]).toArray)]) (cells := plC [108, 97, 107, 101] ++ plC [98, 114, 111, 111, 107]) uT23 inf92 rfl rfl rfl (by kernel_rfl) rfl) fun b4 => (RW.q (v := .agg (lkC [103, 49] 4).toArray) rfl (q_build (vals := [(0, sV [103, 49]), (6, iV 4)]) zero58 uT58 places58 rfl rfl) (RW.q (v := .agg (lkC [103, 50] 2).toArray) rfl (q_build (vals := [(0, sV [103, 50]), (6, iV 2)]) zero58 uT58 places58 rfl rfl) (RW.eff _ _ rfl (e_buildSlice (vals := [(0, .agg (lkC [103, 49] 4).toArray), (1, .agg (lkC [103, 50] 2).toArray)]) (cells := lkC [103, 49] 4 ++ lkC [103, 50] 2) uT24 inf58 rfl rfl rfl (by kernel_rfl) rfl) fun b7 => (RW.q (v := .agg (tnC [111, 108, 100, 116, 111, 119, 110]).toArray) rfl (q_build (vals := [(0, sV [111, 108, 100, 116, 111, 119, 110])]) zero94 uT94 places94 rfl rfl) (RW.eff _ _ rfl (e_buildSlice (vals := [(0, .agg (tnC [111, 108, 100, 116, 111, 119, 110]).toArray)]) (cells := tnC [111, 108, 100, 116, 111, 119, 110]) uT25 inf94 rfl rfl rfl (by kernel_rfl) rfl) fun b9 => (RW.q (v := .agg (plB (b1, b4, b7, b9)).cs.toArray) rfl (q_build (vals := [(1, nR b1 1), (3, nR b4 2), (4, nR b7 2), (5, nR b9 1)]) zero31 uT31 places31 rfl rfl) ?_)))))))))
 refine RW.wk (J' := St ⟨w, hp w, []⟩ (hp w) (.blk b0 31 [.string (bs []), .slice none 0 0, iV 0, .slice none 0 0, .slice none 0 0, .slice none 0 0, .slice none 0 0, .slice none 0 0, .slice none 0 0, .slice none 0 0, iV 0] :: plK (b1, b4, b7, b9))) (fun _ h => StP.sel h [4, 1, 0, 2, 3] (by decide) rfl) (RW.effn (J' := St ⟨w, hp w, []⟩ (hp w) (.blk b0 31 (plB (b1, b4, b7, b9)).cs :: plK (b1, b4, b7, b9))) (e_store (v := .agg (plB (b1, b4, b7, b9)).cs.toArray) 0 rfl rfl rfl sz31 rfl rfl rfl rfl rfl) ?_)
 repeat refine gs1 ?_
 exact fin_res (vs := [.agg (plB (b1, b4, b7, b9)).cs.toArray]) rfl rfl ⟨.agg rfl rfl (Cells.blk 0 rfl), trivial⟩ rfl (fun w' hw => ⟨(b1, b4, b7, b9), rfl, StP.sel hw [1, 2, 3, 4] (by decide) rfl⟩)
theorem plain_c (w : World) (Φ : Hp) (_ : Hp.le Φ (hp w)) : Calls pg 14 #[] w (RetS Φ w fun v Ψ => ∃ b : BasV, v = .agg b.cs.toArray ∧ b.ok Ψ Ru.env0 ∧ PosS Ψ b.lv [4, 2] ∧ b.cs.all Value.oneCell' = true) := (plainM_c w).mono fun e w' hh => by
 obtain ⟨z, rfl, hw⟩ := hh
 have r3 := row_ext (Φr := Φ) hw 0 rfl
 refine ⟨_, rfl, hw.below rfl, plB z, rfl, ⟨nms1 (row_ext hw 3 rfl) rfl (by decide), nms2 (row_ext hw 2 rfl) rfl rfl (by decide) (by decide), nms2 r3 rfl rfl (by decide) (by decide), nms1 (row_ext hw 1 rfl) rfl (by decide)⟩, fun i hi => ?_, rfl⟩
 match i, hi with
 | 0, _ => exact RowS.pc r3 (k := 7) rfl
 | 1, _ => exact RowS.pc r3 (k := 25) rfl
def _root_.Mn.sameO (a b : Bt.Order) : Bool := decide (a.Used = b.Used) && decide (a.Fault = b.Fault) && decide (a.Cmds = b.Cmds)
theorem oSame_c (w : World) {a b : Bt.Order} {v1 v2 : Value} (h1 : RepSl (hp w) a.Cmds v1) (h2 : RepSl (hp w) b.Cmds v2) :
  Calls pg 10 #[.agg (orC v1 a.Used a.Fault).toArray, .agg (orC v2 b.Used b.Fault).toArray] w fun e w' => e = .returned (.bool (Mn.sameO a b)) ∧ Bel w.heap.size w w' := by
 obtain ⟨A1, c1, rfl, _⟩ := h1.sl
 obtain ⟨A2, c2, rfl, _⟩ := h2.sl
 have s1 := h1.sl
 have s2 := h2.sl
 have m1 := h1.max
 simp only [Rep.bytes, maxSl] at m1
 refine calls_of_AW (args := [.agg (orC (.slice A1 a.Cmds.length c1) a.Used a.Fault).toArray, .agg (orC (.slice A2 b.Cmds.length c2) b.Used b.Fault).toArray]) Tryz.func10 rfl (lBT rfl) (St ⟨w, hp w, []⟩ (hp w) []) (StP.init w (hp w) (Hp.le_refl _) []) ?_
 show AW _ _ [] _ _ _ [(0, .agg (orC (.slice A1 a.Cmds.length c1) a.Used a.Fault).toArray), (1, .agg (orC (.slice A2 b.Cmds.length c2) b.Used b.Fault).toArray)] _
 repeat refine gs1 ?_
 refine RW.bxA (cs := orC (.slice A1 a.Cmds.length c1) a.Used a.Fault) rfl rfl fun b2 => ?_
 refine RW.bxA (cs := orC (.slice A2 b.Cmds.length c2) b.Used b.Fault) rfl rfl fun b3 => ?_
 repeat refine gs1 ?_
 refine RW.q (v := .bool ((!decide (a.Used = b.Used)) || !decide (a.Fault = b.Fault))) rfl (qpO rfl rfl rfl) ?_
 repeat refine gs1 ?_
 refine RW.g (b := ((!decide (a.Used = b.Used)) || !decide (a.Fault = b.Fault))) (v := iV (a.Cmds.length : Int)) rfl rfl rfl (fun h => q_len_sl (gv_pos h) s1 uT42) ?_
 repeat refine gs1 ?_
 refine RW.g (b := ((!decide (a.Used = b.Used)) || !decide (a.Fault = b.Fault))) (v := iV (b.Cmds.length : Int)) rfl rfl rfl (fun h => q_len_sl (gv_pos h) s2 uT42) ?_
 repeat refine gs1 ?_
 refine RW.q (v := .bool (((!decide (a.Used = b.Used)) || !decide (a.Fault = b.Fault)) || !decide ((a.Cmds.length : Int) = (b.Cmds.length : Int)))) rfl (qpO rfl rfl rfl) ?_
 repeat refine gs1 ?_
 refine AW.cond rfl (fun h => ?_) fun h => ?_
 ·
  repeat refine gs1 ?_
  exact fin_res (vs := [.bool false]) rfl rfl ⟨.tmp rfl, trivial⟩ rfl (fun w' hw => ⟨by
   have hz : Mn.sameO a b = false := by
    unfold Mn.sameO
    by_cases h1 : a.Used = b.Used
    ·
     by_cases h2 : a.Fault = b.Fault
     ·
      have : a.Cmds ≠ b.Cmds := fun he => by simp [h1, h2, he] at h
      simp [this]
     ·
      simp [h2]
    ·
     simp [h1]
   rw [hz]; rfl, hw.below rfl⟩)
 have h : (a.Used = b.Used ∧ a.Fault = b.Fault) ∧ a.Cmds.length = b.Cmds.length := by
  simp at h; exact ⟨⟨h.1.1, h.1.2⟩, by omega⟩
 obtain ⟨⟨hu, hfl⟩, hlen⟩ := h
 repeat refine gs1 ?_
 refine AW.loop (fun s J q => ∃ i : Nat, s = [(2, pB b2), (3, pB b3), (5, iV (i : Int))] ∧ J = St ⟨w, hp w, []⟩ (hp w) [.blk b3 45 (orC (.slice A2 b.Cmds.length c2) b.Used b.Fault), .blk b2 45 (orC (.slice A1 a.Cmds.length c1) a.Used a.Fault)] ∧ q = a.Cmds.length - i ∧ i ≤ a.Cmds.length ∧ ∀ j, j < i → a.Cmds.getD j (0, 0) = b.Cmds.getD j (0, 0)) (s0 := [(2, pB b2), (3, pB b3), (5, iV ((0 : Nat) : Int))]) (J1 := _) (m0 := _) ⟨0, rfl, rfl, rfl, Nat.zero_le _, fun j hj => by omega⟩ ⟨rfl, rfl, rfl, trivial⟩ (fun _ h => h) ?_
 rintro _ _ _ _ ⟨i, rfl, rfl, rfl, hi, hall⟩
 repeat refine gs1 ?_
 refine AW.cond rfl (fun h => ?_) fun h => ?_
 ·
  have h : i < a.Cmds.length := by have := odT h; omega
  have hb : i < b.Cmds.length := by omega
  repeat refine gs1 ?_
  refine AW.drawZ (J0 := St ⟨w, hp w, []⟩ (hp w) [.blk b3 45 (orC (.slice A2 b.Cmds.length c2) b.Used b.Fault), .blk b2 45 (orC (.slice A1 a.Cmds.length c1) a.Used a.Fault)]) [.q, .q, .q, .q, .q, .q, .q, .q, .q, .q, .q] [0, 1, 2, 3, 4, 5, 6, 7, 8, 9, 10] hmix (by kernel_rfl) ?_
  repeat refine gs1 ?_
  refine DW.q (v := .agg #[iV (a.Cmds.getD i (0, 0)).1, iV (a.Cmds.getD i (0, 0)).2]) (fun _ h => h) rfl (qa_ldA (cs := [iV (a.Cmds.getD i (0, 0)).1, iV (a.Cmds.getD i (0, 0)).2]) rfl (Cells.repE h1 h rfl) rfl) ?_
  repeat refine gs1 ?_
  refine DW.q (v := .agg #[iV (b.Cmds.getD i (0, 0)).1, iV (b.Cmds.getD i (0, 0)).2]) (fun _ h => h) rfl (qa_ldA (cs := [iV (b.Cmds.getD i (0, 0)).1, iV (b.Cmds.getD i (0, 0)).2]) rfl (Cells.repE h2 hb rfl) rfl) (DW.q (v := .bool (!(decide ((a.Cmds.getD i (0, 0)).1 = (b.Cmds.getD i (0, 0)).1) && decide ((a.Cmds.getD i (0, 0)).2 = (b.Cmds.getD i (0, 0)).2)))) (fun _ h => h) rfl (q_neqS rfl rfl (eqS49 _ _ _ _) eqG49) ?_)
  repeat refine gs1 ?_
  refine AW.cond rfl (fun hc => ?_) fun hc => ?_
  ·
   repeat refine gs1 ?_
   exact fin_res (vs := [.bool false]) rfl rfl ⟨.tmp rfl, trivial⟩ rfl (fun w' hw => ⟨by
    have hz : Mn.sameO a b = false := by
     unfold Mn.sameO
     have : a.Cmds ≠ b.Cmds := fun he => by simp [he] at hc
     simp [this]
    rw [hz]; rfl, hw.below rfl⟩)
  ·
   have hc : a.Cmds.getD i (0, 0) = b.Cmds.getD i (0, 0) := by
    simp only [Bool.not_eq_false', Bool.and_eq_true, decide_eq_true_eq] at hc
    exact Prod.ext hc.1 hc.2
   repeat refine gs1 ?_
   exact Post.back (s' := _) (J' := _) (m' := _) (by omega) ⟨i + 1, rfl, rfl, rfl, by omega, fun j hj => by
    by_cases hji : j = i
    ·
     subst hji; exact hc
    ·
     exact hall j (by omega)⟩ ⟨rfl, rfl, rfl, trivial⟩ (fun _ h => h)
 ·
  have h : i = a.Cmds.length := by have := odF h; omega
  subst h
  repeat refine gs1 ?_
  exact fin_res (vs := [.bool true]) rfl rfl ⟨.tmp rfl, trivial⟩ rfl (fun w' hw => ⟨by
   have hz : Mn.sameO a b = true := by
    unfold Mn.sameO
    have : a.Cmds = b.Cmds := List.ext_getElem hlen fun i h1 h2 => by
     have := hall i h1
     rwa [gDD, gDD, List.getElem?_eq_getElem h1, List.getElem?_eq_getElem h2] at this
    simp [this, hu, hfl]
   rw [hz]; rfl, hw.below rfl⟩)
theorem ints1 {Φ : Hp} {b : Nat} {n : Int} (h : RowS Φ (nR b 1) 3 1 1 [iV n]) (hn : I64 n) : RepSl Φ [n] (nR b 1) := RowS.ints (xs := [n]) h (by decide) (List.forall_mem_singleton.2 hn)
theorem i64_lit {n : Nat} (h : n ≤ 1099511627776) : I64 (n : Int) := I64.nat h
abbrev fc1 (v : Value) : FcV := ⟨v, .slice none 0 0, .slice none 0 0, .slice none 0 0, .slice none 0 0⟩
theorem fc1_ok {Φ : Hp} {v : Value} {l : List Int} (h : RepSl Φ l v) : (fc1 v).ok Φ ⟨l, [], [], [], 0, []⟩ := ⟨h, repSl_nil, repSl_nil, repSl_nil, repSl_nil⟩
theorem pos0 : (∀ x ∈ ([4, 2] : List Int), I64 x) := fun x hx => by
 simp only [List.mem_cons, List.not_mem_nil, or_false] at hx
 rcases hx with rfl | rfl <;> (unfold I64; omega)
theorem parse_x {w : World} {Φ : Hp} {b : BasV} {e : Ru.Env} {l : List UInt8} {r : Bt.Rule} (hp : Ru.ruleParse e l = (r, 0, 0)) (h : Calls pg 16 #[.agg b.cs.toArray, .string (bs l)] w (ParR2 w Φ (Ru.ruleParse e l))) :
  Calls pg 16 #[.agg b.cs.toArray, .string (bs l)] w (RetS Φ w fun v Ψ => ∃ y : Option Addr × Nat × Option Addr × Nat, v = .tuple #[.agg #[.slice y.1 r.Funcs.length y.2.1, .slice y.2.2.1 r.Clauses.length y.2.2.2], iV 0, iV 0] ∧ RepSl Ψ r.Funcs (.slice y.1 r.Funcs.length y.2.1) ∧ RepSl Ψ r.Clauses (.slice y.2.2.1 r.Clauses.length y.2.2.2)) := by
 rw [hp] at h
 refine h.mono fun e w' hh => ?_
 obtain ⟨v, h1, h2, ⟨v1, v2⟩, rfl, h3, h4⟩ := hh
 obtain ⟨fA, fc, h5, _⟩ := h3.sl
 obtain ⟨cA, cc, h6, _⟩ := h4.sl
 simp only at h3 h4 h5 h6
 subst h5; subst h6
 exact ⟨_, h1, h2, (fA, fc, cA, cc), rfl, h3, h4⟩
theorem run_x {w : World} {Φ : Hp} {args : Array Value} {o : Bt.Order} (h : Calls pg 11 args w (OrdR w Φ o)) :
  Calls pg 11 args w (RetS Φ w fun v Ψ => ∃ y : Option Addr × Nat, v = .agg #[.slice y.1 o.Cmds.length y.2, iV o.Used, iV o.Fault] ∧ RepSl Ψ o.Cmds (.slice y.1 o.Cmds.length y.2)) := by
 refine h.mono fun e w' hh => ?_
 obtain ⟨v, h1, h2, cv, rfl, h3⟩ := hh
 obtain ⟨cA, cc, rfl, _⟩ := h3.sl
 exact ⟨_, h1, h2, (cA, cc), rfl, h3⟩
theorem cmd2_wf {a b : Int} (ha : I64 a) (hb : I64 b) : ∀ x ∈ [(a, b), ((1 : Int), (0 : Int))], RepE.wf x := fun x hx => by
 simp only [List.mem_cons, List.not_mem_nil, or_false] at hx
 rcases hx with rfl | rfl
 ·
  exact ⟨ha, hb⟩
 ·
  exact ⟨by unfold I64; omega, by unfold I64; omega⟩
theorem e0l : ([4, 2] : List Int).length = Ru.env0.links.length := rfl
theorem e0m : ([4, 2] : List Int).length * 200 ≤ maxSl := by decide
theorem small_c (w : World) (Φ : Hp) (hΦ : Hp.le Φ (hp w)) (hG : Knows Φ Glob) : Calls pg 8 #[] w (fun e w' => e = .returned (.bool true) ∧ Bel w.heap.size w w') := by
 refine calls_of_AW (args := []) Tryz.func8 rfl (lBT rfl) (St ⟨w, Φ, []⟩ Φ []) (StP.init w Φ hΦ []) ?_
 show AW _ _ [] _ _ _ [] _
 repeat refine gs1 ?_
 refine RW.eff _ _ rfl (e_callS (args := #[]) oK rfl rfl (fun w1 hw1 => plain_c w1 Φ hw1.phi)) ?_
 rintro ⟨⟨v, Φ1⟩, ⟨b, hv, hb, hp1, hone⟩, hl1⟩
 simp only at hv hb hp1 hl1 ⊢
 subst hv
 have hG1 := hG.mono hl1
 have hb1 := hb
 refine RW.alc rfl fun b1 => ?_
 refine RW.effn (e_stA (cs' := b.cs) 0 rfl rfl rfl hone rfl rfl) ?_
 repeat refine gs1 ?_
 refine RW.eff _ _ rfl (e_callS (args := #[.agg b.cs.toArray, .string (bs Ru.srcA)]) oK rfl rfl (fun w1 hw1 => parse_x Ru.parse_A (rParse_c w1 Φ1 hw1.phi hG1 hb1 (l := Ru.srcA) (by decide)))) ?_
 rintro ⟨⟨v, Φ2⟩, ⟨⟨fAA, fcA, cAA, ccA⟩, hv, hfA, hcA⟩, hl2⟩
 simp only at hv hfA hcA hl2 ⊢
 subst hv
 have hG2 := hG1.mono hl2
 have hb2 := hb1.mono hl2
 have hp2 := hp1.mono hl2
 repeat refine gs1 ?_
 refine RW.alc rfl fun b2 => ?_
 repeat refine gs1 ?_
 refine RW.eff _ _ rfl (e_buildSlice (vals := [(0, iV 11)]) (cells := [iV 11]) uT29 inf3 rfl rfl rfl (by kernel_rfl) rfl) fun d1 => (RW.frzB rfl fun Φ3 hl3 hr3 => ?_)
 have hr3 := ints1 hr3 (by unfold I64; omega)
 have hfA := hfA.mono hl3
 have hcA := hcA.mono hl3
 have hG3 := hG2.mono hl3
 have hb3 := hb2.mono hl3
 have hp3 := hp2.mono hl3
 refine RW.q (v := .agg (fcC (fc1 (nR d1 1)) 0).toArray) rfl (q_build (vals := [(0, nR d1 1)]) zero38 uT38 places38 rfl rfl) (RW.eff _ _ rfl (e_callS (args := #[.agg b.cs.toArray, .agg #[.slice fAA _ fcA, .slice cAA _ ccA], .agg (fcC (fc1 (nR d1 1)) 0).toArray]) oK rfl rfl (fun w1 hw1 => run_x (Mn.run_A1 ▸ mRun_c w1 Φ3 hw1.phi hG3 hb3 hp3 e0l e0m pos0 hfA hcA (f := Mn.fctA 11) (fc1_ok hr3) (i64_lit (n := 0) (by omega))))) ?_)
 rintro ⟨⟨v, Φ4⟩, ⟨⟨oA, kA⟩, hv, hoA⟩, hl4⟩
 simp only at hv hoA hl4 ⊢
 subst hv
 have hfA := hfA.mono hl4
 have hcA := hcA.mono hl4
 have hG4 := hG3.mono hl4
 have hb4 := hb3.mono hl4
 have hp4 := hp3.mono hl4
 repeat refine gs1 ?_
 refine RW.alc rfl fun b5 => ?_
 repeat refine gs1 ?_
 refine RW.eff _ _ rfl (e_buildSlice (vals := [(0, iV 10)]) (cells := [iV 10]) uT29 inf3 rfl rfl rfl (by kernel_rfl) rfl) fun d2 => (RW.frzB rfl fun Φ5 hl5 hr5 => ?_)
 have hr5 := ints1 hr5 (by unfold I64; omega)
 have hfA := hfA.mono hl5
 have hcA := hcA.mono hl5
 have hoA := hoA.mono hl5
 have hG5 := hG4.mono hl5
 have hb5 := hb4.mono hl5
 have hp5 := hp4.mono hl5
 refine RW.q (v := .agg (fcC (fc1 (nR d2 1)) 0).toArray) rfl (q_build (vals := [(0, nR d2 1)]) zero38 uT38 places38 rfl rfl) (RW.eff _ _ rfl (e_callS (args := #[.agg b.cs.toArray, .agg #[.slice fAA _ fcA, .slice cAA _ ccA], .agg (fcC (fc1 (nR d2 1)) 0).toArray]) oK rfl rfl (fun w1 hw1 => run_x (Mn.run_A2 ▸ mRun_c w1 Φ5 hw1.phi hG5 hb5 hp5 e0l e0m pos0 hfA hcA (f := Mn.fctA 10) (fc1_ok hr5) (i64_lit (n := 0) (by omega))))) ?_)
 rintro ⟨⟨v, Φ6⟩, ⟨⟨oB, kB⟩, hv, hoB⟩, hl6⟩
 simp only at hv hoB hl6 ⊢
 subst hv
 have hfA := hfA.mono hl6
 have hcA := hcA.mono hl6
 have hoA := hoA.mono hl6
 have hG6 := hG5.mono hl6
 have hb6 := hb5.mono hl6
 have hp6 := hp5.mono hl6
 repeat refine gs1 ?_
 refine RW.alc rfl fun b6 => ?_
 repeat refine gs1 ?_
 refine RW.eff _ _ rfl (e_callS (args := #[.agg b.cs.toArray, .string (bs Ru.srcB)]) oK rfl rfl (fun w1 hw1 => parse_x Ru.parse_B (rParse_c w1 Φ6 hw1.phi hG6 hb6 (l := Ru.srcB) (by decide)))) ?_
 rintro ⟨⟨v, Φ7⟩, ⟨⟨fAB, fcB, cAB, ccB⟩, hv, hfB, hcB⟩, hl7⟩
 simp only at hv hfB hcB hl7 ⊢
 subst hv
 have hG7 := hG6.mono hl7
 have hb7 := hb6.mono hl7
 have hp7 := hp6.mono hl7
 repeat refine gs1 ?_
 refine RW.alc rfl fun b7 => ?_
 repeat refine gs1 ?_
 have hoA := hoA.mono hl7
 have hoB := hoB.mono hl7
 refine RW.q (v := .agg (fcC (fc1 nS) 0).toArray) rfl (q_build (vals := []) zero38 uT38 places38 rfl rfl) (RW.eff _ _ rfl (e_callS (args := #[.agg b.cs.toArray, .agg #[.slice fAB _ fcB, .slice cAB _ ccB], .agg (fcC (fc1 nS) 0).toArray]) oK rfl rfl (fun w1 hw1 => run_x (Mn.run_B ▸ mRun_c w1 Φ7 hw1.phi hG7 hb7 hp7 e0l e0m pos0 hfB hcB (f := Mn.fct0) (fc1_ok (l := []) repSl_nil) (i64_lit (n := 0) (by omega))))) ?_)
 rintro ⟨⟨v, Φ8⟩, ⟨⟨oC, kC⟩, hv, hoC⟩, hl8⟩
 simp only at hv hoC hl8 ⊢
 subst hv
 have hoA := hoA.mono hl8
 have hoB := hoB.mono hl8
 have hG8 := hG7.mono hl8
 have hb8 := hb7.mono hl8
 have hp8 := hp7.mono hl8
 repeat refine gs1 ?_
 refine RW.alc rfl fun b10 => ?_
 repeat refine gs1 ?_
 refine RW.q (v := .agg #[iV 0, iV 4]) rfl (q_build (vals := [(0, iV 0), (1, iV 4)]) zero49 uT49 places49 rfl rfl) (RW.q (v := .agg #[iV 1, iV 0]) rfl (q_build (vals := [(0, iV 1)]) zero49 uT49 places49 rfl rfl) (RW.eff _ _ rfl (e_buildSlice (vals := [(0, .agg #[iV 0, iV 4]), (1, .agg #[iV 1, iV 0])]) (cells := [iV 0, iV 4, iV 1, iV 0]) uT42 inf49 rfl rfl rfl (by kernel_rfl) rfl) fun d3 => (RW.frzB rfl fun Φ9 hl9 hr9 => ?_)))
 have hr9 : RepSl Φ9 [((0 : Int), (4 : Int)), (1, 0)] (nR d3 2) := RowS.repE evenCmd hr9 rfl (by decide) (cmd2_wf (by unfold I64; omega) (by unfold I64; omega))
 have hoA := hoA.mono hl9
 have hoB := hoB.mono hl9
 refine RW.q (v := .agg (orC (nR d3 2) 3 0).toArray) rfl (q_build (vals := [(0, nR d3 2), (1, iV 3)]) zero45 uT45 places45 rfl rfl) (RW.q (v := .bool true) rfl (q_call (args := #[.agg (orC (.slice oA _ kA) 3 0).toArray, .agg (orC (nR d3 2) 3 0).toArray]) oK rfl rfl (fun w1 hw1 => oSame_c w1 (a := ⟨[(0, 4), (1, 0)], 3, 0⟩) (b := ⟨[(0, 4), (1, 0)], 3, 0⟩) (hoA.mono hw1.phi) (hr9.mono hw1.phi))) ?_)
 repeat refine gs1 ?_
 refine RW.q (v := .agg #[iV 0, iV 1]) rfl (q_build (vals := [(0, iV 0), (1, iV 1)]) zero49 uT49 places49 rfl rfl) (RW.q (v := .agg #[iV 1, iV 0]) rfl (q_build (vals := [(0, iV 1)]) zero49 uT49 places49 rfl rfl) (RW.eff _ _ rfl (e_buildSlice (vals := [(0, .agg #[iV 0, iV 1]), (1, .agg #[iV 1, iV 0])]) (cells := [iV 0, iV 1, iV 1, iV 0]) uT42 inf49 rfl rfl rfl (by kernel_rfl) rfl) fun d4 => (RW.frzB rfl fun Φ10 hl10 hr10 => ?_)))
 have hr10 : RepSl Φ10 [((0 : Int), (1 : Int)), (1, 0)] (nR d4 2) := RowS.repE evenCmd hr10 rfl (by decide) (cmd2_wf (by unfold I64; omega) (by unfold I64; omega))
 have hoA := hoA.mono hl10
 have hoB := hoB.mono hl10
 refine RW.q (v := .agg (orC (nR d4 2) 3 0).toArray) rfl (q_build (vals := [(0, nR d4 2), (1, iV 3)]) zero45 uT45 places45 rfl rfl) (RW.q (v := .bool true) rfl (q_call (args := #[.agg (orC (.slice oB _ kB) 3 0).toArray, .agg (orC (nR d4 2) 3 0).toArray]) oK rfl rfl (fun w1 hw1 => oSame_c w1 (a := ⟨[(0, 1), (1, 0)], 3, 0⟩) (b := ⟨[(0, 1), (1, 0)], 3, 0⟩) (hoB.mono hw1.phi) (hr10.mono hw1.phi))) ?_)
 repeat refine gs1 ?_
 refine RW.q rfl (qkT rfl rfl) (RW.q rfl (q_move rfl) (RW.g rfl rfl rfl (fun _ => q_move rfl) (RW.q rfl (qkT rfl rfl) (RW.q rfl (q_move rfl) (RW.g rfl rfl rfl (fun _ => q_move rfl) (RW.q rfl (qkT rfl rfl) (RW.q rfl (q_move rfl) (RW.g rfl rfl rfl (fun _ => qa_fa0 rfl) (RW.g rfl rfl rfl (fun _ => qa_ld rfl (Cell.blk 0 rfl rfl)) ?_)))))))))
 refine RW.g (v := .bool true) rfl rfl rfl (fun _ => q_as (q_eql rfl rfl) rfl) (RW.q rfl (qkT rfl rfl) (RW.q rfl (q_move rfl) (RW.g rfl rfl rfl (fun _ => qa_fa0 rfl) (RW.g rfl rfl rfl (fun _ => qa_ld rfl (Cell.blk 0 rfl rfl)) (RW.g (v := .bool true) rfl rfl rfl (fun _ => q_as (q_eql rfl rfl) rfl) (RW.q rfl (qkT rfl rfl) ?_))))))
 repeat refine gs1 ?_
 exact fin_res (vs := [.bool true]) rfl rfl ⟨.tmp rfl, trivial⟩ rfl (fun w' hw => ⟨rfl, hw.below rfl⟩)
end Go.Proofs.YtnfmjfheciihjaaGreatDoor
namespace Go.Proofs.YtnfmjfheciihjaaGreatDoor
open Go Go.K Go.RowKit
attribute [local irreducible] AW RW DW Post Qt
theorem bc_one {k : Nat} (h : k < 256) : [Value.int .u8 (k : Int)] = bCells [UInt8.ofNat k] := by
 simp [bCells, Nat.mod_eq_of_lt h]
theorem ldigits_c (w : World) {N : Nat} (hN : N ≤ 1099511627776) : Calls pg 13 #[iV (N : Int)] w fun e w' => e = .returned (.string (bs (Go.Lib.decDigits N))) ∧ Bel w.heap.size w w' := by
 refine calls_of_AW (args := [iV (N : Int)]) Tryz.func13 rfl (lBT rfl) (St ⟨w, hp w, []⟩ (hp w) []) (StP.init w (hp w) (Hp.le_refl _) []) ?_
 show AW _ _ [] _ _ _ [(0, iV (N : Int))] _
 repeat refine gs1 ?_
 refine RW.q (v := iV ((N % 10 : Nat) : Int)) rfl (q_remN (b := 10) rfl rfl (by omega)) (RW.q (v := iV ((48 + N % 10 : Nat) : Int)) rfl (q_add rfl rfl (by omega) (by unfold I64; omega)) (RW.q (v := .int .u8 ((48 + N % 10 : Nat) : Int)) rfl (q_toByte rfl uT3 uT5 (by omega)) (RW.eff _ _ rfl (e_buildSlice (vals := [(0, .int .u8 ((48 + N % 10 : Nat) : Int))]) (cells := [.int .u8 ((48 + N % 10 : Nat) : Int)]) uT89 inf5 rfl rfl rfl (by kernel_rfl) rfl) fun b8 => (RW.wk (J' := St ⟨w, hp w, []⟩ (hp w) [.row (.slice (some ⟨b8, 0, none⟩) 1 1) 5 1 1 (bCells [UInt8.ofNat (48 + N % 10)])]) (fun _ h => by rw [← bc_one (by omega)]; exact h) (RW.q rfl (q_bytesStr 0 rfl rfl uT89 uT5 uT9) ?_)))))
 repeat refine gs1 ?_
 refine AW.loop (fun s J q => ∃ (n : Nat) (l : List UInt8), s = [(0, iV (n : Int)), (3, .string (bs l))] ∧ J = St ⟨w, hp w, []⟩ (hp w) [] ∧ q = n + 0 * n ∧ n ≤ N ∧ Un.DInv N n l ∧ l.length + n ≤ 2 * 1099511627776) (s0 := [(0, iV (N : Int)), (3, .string (bs [UInt8.ofNat (48 + N % 10)]))]) (J1 := _) (m0 := _) ⟨N, _, rfl, rfl, rfl, Nat.le_refl _, Un.dinv_start N, by simp; omega⟩ ⟨rfl, rfl, trivial⟩ (fun _ h => h.drop (List.nil_sublist _)) ?_
 rintro _ _ _ _ ⟨n, l, rfl, rfl, rfl, hn, hd, hlen⟩
 repeat refine gs1 ?_
 refine AW.cond rfl (fun h => ?_) fun h => ?_
 ·
  have h : 10 ≤ n := by have := odT h; omega
  repeat refine gs1 ?_
  refine RW.q (v := iV ((n / 10 : Nat) : Int)) rfl (q_quoN (b := 10) rfl rfl (by omega) (by omega)) ?_
  repeat refine gs1 ?_
  refine RW.q (v := iV ((n / 10 % 10 : Nat) : Int)) rfl (q_remN (b := 10) rfl rfl (by omega)) (RW.q (v := iV ((48 + n / 10 % 10 : Nat) : Int)) rfl (q_add rfl rfl (by omega) (by unfold I64; omega)) (RW.q (v := .int .u8 ((48 + n / 10 % 10 : Nat) : Int)) rfl (q_toByte rfl uT3 uT5 (by omega)) (RW.eff _ _ rfl (e_buildSlice (vals := [(0, .int .u8 ((48 + n / 10 % 10 : Nat) : Int))]) (cells := [.int .u8 ((48 + n / 10 % 10 : Nat) : Int)]) uT89 inf5 rfl rfl rfl (by kernel_rfl) rfl) fun b18 => (RW.wk (J' := St ⟨w, hp w, []⟩ (hp w) [.row (.slice (some ⟨b18, 0, none⟩) 1 1) 5 1 1 (bCells [UInt8.ofNat (48 + n / 10 % 10)])]) (fun _ h => by rw [← bc_one (by omega)]; exact h) (RW.q rfl (q_bytesStr 0 rfl rfl uT89 uT5 uT9) ?_)))))
  repeat refine gs1 ?_
  refine RW.q (v := .string (bs ([UInt8.ofNat (48 + n / 10 % 10)] ++ l))) rfl (q_catStr rfl rfl (by simp; omega) rfl) ?_
  repeat refine gs1 ?_
  exact Post.back (s' := _) (J' := _) (m' := _) (by omega) ⟨n / 10, [UInt8.ofNat (48 + n / 10 % 10)] ++ l, rfl, rfl, rfl, by omega, Un.dinv_step hd (by omega), by simp; omega⟩ ⟨rfl, rfl, trivial⟩ (fun _ h => h.drop (List.nil_sublist _))
 ·
  have h : n < 10 := by have := odF h; omega
  have hl : Go.Lib.decDigits N = l := by have := hd; unfold Un.DInv at this; rw [if_pos h] at this; simpa using this
  repeat refine gs1 ?_
  exact fin_res (vs := [.string (bs l)]) rfl rfl ⟨.tmp rfl, trivial⟩ rfl (fun w' hw => ⟨by rw [hl]; rfl, hw.below rfl⟩)
end Go.Proofs.YtnfmjfheciihjaaGreatDoor
namespace Lx
theorem run_app {p : UInt8 → Bool} {l r : List UInt8} (h : ∀ c ∈ l, p c = true) : run p (l ++ r) = l.length + run p r := by
  induction l with
  | nil => simp
  | cons c l ih =>
    rw [List.cons_append, run, if_pos (h c (List.mem_cons_self ..)), ih (fun x hx => h x (List.mem_cons_of_mem _ hx)), List.length_cons]
    omega
theorem run_stop {p : UInt8 → Bool} {l r : List UInt8} (h : run p l < l.length) : run p (l ++ r) = run p l := by
  induction l with
  | nil => simp at h
  | cons c l ih =>
    rw [List.cons_append]
    unfold run at h ⊢
    split
    · rename_i hc; rw [if_pos hc] at h; rw [ih (by simp only [List.length_cons] at h; omega)]
    · rfl
theorem run_whole {p : UInt8 → Bool} {l : List UInt8} (h : run p l = l.length) : ∀ c ∈ l, p c = true := by
  induction l with
  | nil => intro c hc; cases hc
  | cons a l ih =>
    unfold run at h
    split at h
    · rename_i hc
      intro x hx
      rcases List.mem_cons.1 hx with rfl | hx
      · exact hc
      · exact ih (by simp only [List.length_cons] at h; omega) x hx
    · simp at h
theorem run_head {p : UInt8 → Bool} {r : List UInt8} (h : r = [] ∨ p (r.getD 0 0) = false) : run p r = 0 := by
  cases r with
  | nil => rfl
  | cons c r =>
    rcases h with h | h
    · cases h
    · unfold run; rw [if_neg (by simpa using h)]
def stp (r : List UInt8) : Prop := r = [] ∨ (inN (r.getD 0 0) = false ∧ (r.getD 0 0).toNat ≠ 46 ∧ (r.getD 0 0).toNat ≠ 61)
theorem stp_cons {c : UInt8} {r : List UInt8} (h : inN c = false ∧ c.toNat ≠ 46 ∧ c.toNat ≠ 61) : stp (c :: r) := .inr h
theorem getD_app {l r : List UInt8} {k : Nat} (h : k < l.length) : (l ++ r).getD k 0 = l.getD k 0 := by
  rw [gDD, gDD, List.getElem?_append_left h]
theorem getD_app2 {l r : List UInt8} : (l ++ r).getD l.length 0 = r.getD 0 0 := by
  rw [gDD, gDD, List.getElem?_append_right (Nat.le_refl _), Nat.sub_self]
theorem isD_inN {c : UInt8} (h : isD c = true) : inN c = true := by unfold inN; rw [h]; simp
theorem num_app {l r : List UInt8} (h : numN l = l.length) (hs : stp r) : numN (l ++ r) = l.length := by
  have hd : r = [] ∨ isD (r.getD 0 0) = false := hs.imp id fun h => by
    cases hc : isD (r.getD 0 0) with
    | false => rfl
    | true => rw [isD_inN hc] at h; cases h.1
  unfold numN at h
  by_cases hw : run isD l = l.length
  · have h1 : run isD (l ++ r) = l.length := by rw [run_app (run_whole hw), run_head hd]; rfl
    unfold numN
    rw [h1, if_neg]
    rintro ⟨h2, h3, _⟩
    rw [getD_app2] at h3
    rcases hs with hs | hs
    · subst hs; simp at h2; omega
    · exact hs.2.1 h3
  · have hle := run_le isD l
    have h1 : run isD (l ++ r) = run isD l := run_stop (by omega)
    split at h
    · rename_i hc
      have h2 : run isD (l.drop (run isD l + 1)) = (l.drop (run isD l + 1)).length := by rw [List.length_drop]; omega
      unfold numN
      rw [h1, if_pos ⟨by rw [List.length_append]; omega, by rw [getD_app (by omega)]; exact hc.2.1, by rw [getD_app (by omega)]; exact hc.2.2⟩]
      rw [List.drop_append_of_le_length (by omega), run_app (run_whole h2), run_head hd, List.length_drop]
      omega
    · exact absurd h hw
theorem sign_app {l r : List UInt8} (h0 : l ≠ []) (h : signN l = l.length) (hs : stp r) : signN (l ++ r) = l.length := by
  match l, h0 with
  | [c], _ =>
    unfold signN at h ⊢
    simp only [List.cons_append, List.nil_append, List.getD_cons_zero, List.getD_cons_succ, List.length_cons, List.length_nil] at h ⊢
    split at h
    · rename_i hc
      rw [if_pos hc]
      rw [if_neg (by omega)] at h
      rw [if_neg]
      · exact h
      · rintro ⟨h1, h2⟩
        rcases hs with hs | hs
        · subst hs; simp at h1
        · exact hs.2.2 h2
    · rename_i hc
      rw [if_neg hc]; exact h
  | c :: d :: l, _ =>
    unfold signN at h ⊢
    simp only [List.cons_append, List.getD_cons_zero, List.getD_cons_succ, List.length_cons] at h ⊢
    split at h
    · rename_i hc
      rw [if_pos hc]
      split at h
      · rename_i h1
        rw [if_pos ⟨by omega, h1.2⟩]; exact h
      · split at h <;> omega
    · split at h <;> omega
theorem tk_app {l r : List UInt8} (h0 : l ≠ []) (hok : (tk l).2.2.2.2 = true) (hl : (tk l).2.2.2.1 = l.length) (hs : stp r) : tk (l ++ r) = tk l := by
  have hp : 0 < l.length := List.length_pos_iff.2 h0
  have hN : r = [] ∨ inN (r.getD 0 0) = false := hs.imp id (·.1)
  unfold tk at hok hl ⊢
  rw [getD_app hp]
  split at hok
  · rename_i h1
    rw [if_pos h1] at hl
    simp only [] at hl
    rw [if_pos h1, if_pos h1, run_app (run_whole hl), run_head hN, hl]; rfl
  · rename_i h1
    rw [if_neg h1] at hl ⊢
    rw [if_neg h1]
    split at hok
    · rename_i h2
      rw [if_pos h2] at hl
      simp only [] at hl
      rw [if_pos h2, if_pos h2, num_app hl hs, hl]
    · rename_i h2
      rw [if_neg h2] at hl ⊢
      rw [if_neg h2]
      split at hok
      · rename_i h3
        rw [if_pos h3] at hl
        simp only [decide_eq_true_eq] at hok hl
        rw [if_pos h3, if_pos h3]
        have h4 : run inS ((l ++ r).drop 1) = run inS (l.drop 1) := by
          rw [List.drop_append_of_le_length (show 1 ≤ l.length from hp)]; exact run_stop (by rw [List.length_drop]; omega)
        rw [h4, getD_app hok.1, decide_eq_true (by rw [List.length_append]; omega), decide_eq_true hok]
      · rename_i h3
        rw [if_neg h3] at hl
        simp only [decide_eq_true_eq] at hok hl
        rw [if_neg h3, if_neg h3, sign_app h0 hl hs, hl]
end Lx
namespace Lx
theorem tk_in {l : List UInt8} (_ : (tk l).2.2.2.2 = true) : (tk l).2.1 + (tk l).2.2.1 ≤ (tk l).2.2.2.1 := by
  unfold tk
  split
  · simp
  · split
    · simp
    · split
      · simp only []; omega
      · simp
theorem sign_no {l : List UInt8} (h : ws (l.getD 0 0) = true ∨ (l.getD 0 0).toNat = 35) : signN l = 0 := by
  have h' : (l.getD 0 0).toNat = 9 ∨ (l.getD 0 0).toNat = 10 ∨ (l.getD 0 0).toNat = 13 ∨ (l.getD 0 0).toNat = 32 ∨ (l.getD 0 0).toNat = 35 := by
    rcases h with h | h
    · simp only [ws, decide_eq_true_eq] at h; omega
    · omega
  unfold signN
  simp only []
  rw [if_neg (by omega), if_neg (by omega)]
theorem tk_head {l : List UInt8} (hok : (tk l).2.2.2.2 = true) : ws (l.getD 0 0) = false ∧ (l.getD 0 0).toNat ≠ 35 := by
  by_cases h : ws (l.getD 0 0) = true ∨ (l.getD 0 0).toNat = 35
  · exfalso
    have h' : (l.getD 0 0).toNat = 9 ∨ (l.getD 0 0).toNat = 10 ∨ (l.getD 0 0).toNat = 13 ∨ (l.getD 0 0).toNat = 32 ∨ (l.getD 0 0).toNat = 35 := by
      rcases h with h | h
      · simp only [ws, decide_eq_true_eq] at h; omega
      · omega
    have h1 : isL (l.getD 0 0) = false := by simp only [isL, decide_eq_false_iff_not]; omega
    have h2 : isD (l.getD 0 0) = false := by simp only [isD, decide_eq_false_iff_not]; omega
    unfold tk at hok
    rw [if_neg (by rw [h1]; simp), if_neg (by rw [h2]; simp), if_neg (by omega), sign_no h] at hok
    simp at hok
  · refine ⟨?_, fun h9 => h (.inr h9)⟩
    cases hw : ws (l.getD 0 0) with
    | false => rfl
    | true => exact absurd (.inl hw) h
end Lx
namespace Pa
open Bt
abbrev Tk := Int × List UInt8
def er (t : Token) : Tk := (t.Kind, t.Text)
inductive LexS : List UInt8 → List Tk → Prop
  | nil : LexS [] [(4, [])]
  | ws {c : UInt8} {l : List UInt8} {E : List Tk} : Lx.ws c = true → LexS l E → LexS (c :: l) E
  | tok {l : List UInt8} {E : List Tk} : 0 < l.length → (Lx.tk l).2.2.2.2 = true → LexS (l.drop (Lx.tk l).2.2.2.1) E → LexS l ((((Lx.tk l).1 : Nat), Lx.txt l) :: E)
theorem lexS_stm {l : List UInt8} {E : List Tk} (h : LexS l E) : ∀ (s : List UInt8) (a n : Nat), s.drop a = l → a ≤ s.length → s.length - a < n → (Lx.stm n s (a + Lx.skp false l)).map (fun x => er x.1) = E ∧ ∀ x ∈ Lx.stm n s (a + Lx.skp false l), x.2 = true := by
  induction h with
  | nil =>
    intro s a n hd ha hn
    have hl : s.length ≤ a := by have := congrArg List.length hd; rw [List.length_drop, List.length_nil] at this; omega
    obtain ⟨m, rfl⟩ : ∃ m, n = m + 1 := ⟨n - 1, by omega⟩
    rw [Lx.stm_end (show s.length ≤ a + Lx.skp false [] by omega)]
    exact ⟨rfl, fun x hx => by rw [List.mem_singleton.1 hx]⟩
  | @ws c l E hc _ ih =>
    intro s a n hd ha hn
    have hlt : a < s.length := by
      have := congrArg List.length hd; rw [List.length_drop, List.length_cons] at this; omega
    have hd' : s.drop (a + 1) = l := by rw [← List.drop_drop, hd]; rfl
    have hs : Lx.skp false (c :: l) = Lx.skp false l + 1 := by rw [Lx.skp, if_pos hc]
    rw [hs, show a + (Lx.skp false l + 1) = a + 1 + Lx.skp false l by omega]
    exact ih s (a + 1) n hd' (by omega) (by omega)
  | @tok l E h0 hok _ ih =>
    intro s a n hd ha hn
    obtain ⟨h1, h2⟩ := Lx.tk_head hok
    have hs : Lx.skp false l = 0 := by have := Lx.skp_no h0 h1 h2; rwa [List.drop_zero] at this
    have hlen := congrArg List.length hd
    rw [List.length_drop] at hlen
    obtain ⟨h3, h4⟩ := Lx.tk_ok h0 hok
    obtain ⟨m, rfl⟩ : ∃ m, n = m + 1 := ⟨n - 1, by omega⟩
    rw [hs, show a + 0 = a from rfl, Lx.stm_tok (by omega) (by rw [hd]; exact hok)]
    have hd2 : s.drop (a + (Lx.tk l).2.2.2.1) = l.drop (Lx.tk l).2.2.2.1 := by rw [← List.drop_drop, hd]
    rw [hd, hd2]
    obtain ⟨h5, h6⟩ := ih s (a + (Lx.tk l).2.2.2.1) m hd2 (by omega) (by omega)
    refine ⟨by rw [List.map_cons, h5]; rfl, fun x hx => ?_⟩
    rcases List.mem_cons.1 hx with rfl | hx
    · rfl
    · exact h6 x hx
theorem lexS_scan {s : List UInt8} {E : List Tk} (h : LexS s E) (hl : s.length ≤ 65536) : ∃ L, Lx.scan s = (L, 0, 0) ∧ L.map er = E := by
  obtain ⟨h1, h2⟩ := lexS_stm h s 0 (s.length + 1) rfl (Nat.zero_le _) (by omega)
  rw [Nat.zero_add] at h1 h2
  refine ⟨_, Lx.scan_ok hl h2, ?_⟩
  rw [List.map_map]; exact h1
structure Whole (u : List UInt8) (k : Int) (t : List UInt8) : Prop where
  ne : u ≠ []
  ok : (Lx.tk u).2.2.2.2 = true
  all : (Lx.tk u).2.2.2.1 = u.length
  kind : ((Lx.tk u).1 : Int) = k
  text : Lx.txt u = t
theorem LexS.one {u R : List UInt8} {k : Int} {t : List UInt8} {E : List Tk} (h : Whole u k t) (hs : Lx.stp R) (hR : LexS R E) : LexS (u ++ R) ((k, t) :: E) := by
  obtain ⟨h1, h2, h3, h4, h5⟩ := h
  have ha := Lx.tk_app h1 h2 h3 hs
  have hi := Lx.tk_in h2
  have hp : 0 < u.length := List.length_pos_iff.2 h1
  have := LexS.tok (l := u ++ R) (E := E) (by rw [List.length_append]; omega) (by rw [ha]; exact h2) (by rw [ha, h3, List.drop_left]; exact hR)
  have ht : Lx.txt (u ++ R) = t := by
    rw [← h5]
    unfold Lx.txt
    rw [ha, List.drop_append_of_le_length (by omega), List.take_append_of_le_length (by rw [List.length_drop]; omega)]
  rw [ht, ha, h4] at this
  exact this
theorem run_all {p : UInt8 → Bool} {l : List UInt8} (h : ∀ j, j < l.length → p (l.getD j 0) = true) : Lx.run p l = l.length := by
  have := Lx.run_app (p := p) (l := l) (r := []) (fun c hc => by
    obtain ⟨j, hj, rfl⟩ := List.mem_iff_getElem.1 hc
    have := h j hj
    rwa [gDD, List.getElem?_eq_getElem hj] at this)
  rw [List.append_nil] at this
  simpa [Lx.run] using this
theorem whole_num {t : List UInt8} (h : ∀ b ∈ t, Un.isD b = true) (h1 : 1 ≤ t.length) (h2 : t.length ≤ 24) : Whole t 1 t := by
  have hg : ∀ j, j < t.length → Lx.isD (t.getD j 0) = true := fun j hj => by
    have := Un.get_all h hj
    rw [Un.isD_iff] at this
    simp only [Lx.isD, decide_eq_true_eq]; exact this
  have hr : Lx.run Lx.isD t = t.length := run_all hg
  have hn : Lx.numN t = t.length := by
    unfold Lx.numN
    rw [hr, if_neg]; rintro ⟨h3, _⟩; omega
  have h0 := hg 0 (by omega)
  have hL : Lx.isL (t.getD 0 0) = false := by
    simp only [Lx.isD, decide_eq_true_eq] at h0
    simp only [Lx.isL, decide_eq_false_iff_not]; omega
  have ht : Lx.tk t = (1, 0, t.length, t.length, true) := by unfold Lx.tk; rw [hL, if_neg (by simp), if_pos h0, hn, decide_eq_true h2]
  refine ⟨fun h => by rw [h] at h1; simp at h1, by rw [ht], by rw [ht], by rw [ht]; rfl, ?_⟩
  unfold Lx.txt; rw [ht]; simp
theorem stp32 (R : List UInt8) : Lx.stp (32 :: R) := Lx.stp_cons (by decide)
theorem stp10 (R : List UInt8) : Lx.stp (10 :: R) := Lx.stp_cons (by decide)
theorem tk_sgn {c : UInt8} (R : List UInt8) (h : c = 123 ∨ c = 125 ∨ c = 40 ∨ c = 41 ∨ c = 44 ∨ c = 59) : Lx.tk (c :: R) = (3, 0, 1, 1, true) := by
  have hs : Lx.signN (c :: R) = 1 := by
    unfold Lx.signN
    rcases h with rfl | rfl | rfl | rfl | rfl | rfl <;> rfl
  unfold Lx.tk
  rw [hs]
  rcases h with rfl | rfl | rfl | rfl | rfl | rfl <;> rfl
theorem LexS.sgn {c : UInt8} {R : List UInt8} {E : List Tk} (h : c = 123 ∨ c = 125 ∨ c = 40 ∨ c = 41 ∨ c = 44 ∨ c = 59) (hR : LexS R E) : LexS (c :: R) ((3, [c]) :: E) := by
  have ht := tk_sgn R h
  have := LexS.tok (l := c :: R) (E := E) (by simp) (by rw [ht]) (by rw [ht]; exact hR)
  unfold Lx.txt at this
  rw [ht] at this
  exact this
def stpB : List UInt8 → Bool
  | [] => false
  | c :: _ => !(Lx.inN c) && decide (c.toNat ≠ 46) && decide (c.toNat ≠ 61)
def lexLit : Nat → List UInt8 → Option (List Tk)
  | _, [] => some []
  | 0, _ :: _ => none
  | f + 1, c :: l => if Lx.ws c = true then lexLit f l else if c = 123 ∨ c = 125 ∨ c = 40 ∨ c = 41 ∨ c = 44 ∨ c = 59 then (lexLit f l).map ((3, [c]) :: ·) else
    let u := (c :: l).take (Lx.tk (c :: l)).2.2.2.1
    if u ≠ [] ∧ (Lx.tk u).2.2.2.2 = true ∧ (Lx.tk u).2.2.2.1 = u.length ∧ stpB ((c :: l).drop (Lx.tk (c :: l)).2.2.2.1) = true then (lexLit f ((c :: l).drop (Lx.tk (c :: l)).2.2.2.1)).map ((((Lx.tk u).1 : Nat), Lx.txt u) :: ·) else none
theorem stp_of {r R : List UInt8} (h : stpB r = true) : Lx.stp (r ++ R) := by
  cases r with
  | nil => cases h
  | cons c r =>
    unfold stpB at h
    simp only [Bool.and_eq_true, Bool.not_eq_true', decide_eq_true_eq] at h
    exact Lx.stp_cons ⟨h.1.1, h.1.2, h.2⟩
theorem lexLit_ok : ∀ (f : Nat) (l : List UInt8) (E1 : List Tk), lexLit f l = some E1 → ∀ {R : List UInt8} {E : List Tk}, LexS R E → LexS (l ++ R) (E1 ++ E)
  | f, [], E1, h, R, E, hR => by
    have : E1 = [] := by cases f <;> (unfold lexLit at h; cases h; rfl)
    subst this; exact hR
  | 0, c :: l, E1, h, R, E, hR => by unfold lexLit at h; cases h
  | f + 1, c :: l, E1, h, R, E, hR => by
    unfold lexLit at h
    split at h
    · rename_i hw
      exact LexS.ws hw (lexLit_ok f l E1 h hR)
    · split at h
      · rename_i hsg
        obtain ⟨E2, h5, rfl⟩ := Option.map_eq_some_iff.1 h
        exact LexS.sgn hsg (lexLit_ok f l E2 h5 hR)
      simp only [] at h
      split at h
      · rename_i hc
        obtain ⟨h1, h2, h3, h4⟩ := hc
        obtain ⟨E2, h5, rfl⟩ := Option.map_eq_some_iff.1 h
        have hrec := lexLit_ok f _ E2 h5 hR
        have := LexS.one (u := (c :: l).take (Lx.tk (c :: l)).2.2.2.1) ⟨h1, h2, h3, rfl, rfl⟩ (stp_of (R := R) h4) hrec
        rw [← List.append_assoc, List.take_append_drop] at this
        exact this
      · cases h
def toksF : List Tk → List Int → List Token
  | [], _ => []
  | e :: E, qs => ⟨e.1, e.2, qs.headD 0⟩ :: toksF E qs.tail
theorem toksF_eq : ∀ (L : List Token), L = toksF (L.map er) (L.map (·.At))
  | [] => rfl
  | t :: L => by
    simp only [List.map_cons, toksF, List.headD_cons, List.tail_cons]
    rw [← toksF_eq L]; rfl
end Pa
