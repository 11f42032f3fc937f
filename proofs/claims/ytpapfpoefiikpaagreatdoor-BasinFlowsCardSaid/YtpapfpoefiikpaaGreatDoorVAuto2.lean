/- Lemmas. Conditions: those of each theorem. -/
import Derived.Test.YtpapfpoefiikpaaGreatDoorVAuto
namespace Go.K
open Go
instance SetL.app0 {α : Type} {x : α} {l r : List α} {i : Nat} [h : SetL l i x r] : SetL ([] ++ l) i x r := ⟨by rw [List.nil_append, h.h]⟩
instance SetL.app1 {α : Type} {a x : α} {l m : List α} : SetL ((a :: l) ++ m) 0 x (x :: (l ++ m)) := ⟨rfl⟩
instance SetL.app2 {α : Type} {a x : α} {l m r : List α} {i : Nat} [h : SetL (l ++ m) i x r] : SetL ((a :: l) ++ m) (i + 1) x (a :: r) := ⟨by rw [List.cons_append, List.set_cons_succ, h.h]⟩
class IX (P : Program) (t : TypeId) (n : outParam Nat) : Prop where
  h : ∃ e, P.underlying t = some (.slice e) ∧ (P.info? e).map (·.size) = some n
def PCells (Φ : Hp) (p : Addr) (cs : List Value) : Prop := ∀ j v, cs[j]? = some v → PCell Φ (p.add j) v
theorem Cells.phi {B : Bs} {Φ : Hp} {C : List Chunk} {p cs} (h : PCells Φ p cs) : Cells (St B Φ C) p cs := fun j v hj => Cell.phi (h j v hj)
section
variable {P : Program} {f : Nat → Value} {s : List (Nat × Value)} {J : Cls} {ty : TypeId} {pos : String} {af : Array Edge} {x y : Operand} {dst : Option Nat} {g : Option (Nat × Bool)} {t : TypeId}
theorem qa_ixN {v : Value} {n sz i : Nat} [h : IX P t sz] (hx : ev (fr f s) x = v) (hy : ev (fr f s) y = .int .i64 (i : Int)) (hs : IsSl v n) (hlt : i < n) : Qt P J f s ⟨dst, .indexAddr t x y, ty, pos, af, g⟩ (.pointer (some (Value.at v (i * sz)))) := by
  obtain ⟨e, h1, h2⟩ := h.h
  exact q_indexAddr hx hy hs h1 h2 (by omega) (by omega) rfl
theorem qa_ixL {v : Value} {n sz i : Nat} [h : IX P t sz] (hx : ev (fr f s) x = v) (hy : ev (fr f s) y = .int .i64 (OfNat.ofNat i)) (hs : IsSl v n) (hlt : i < n) : Qt P J f s ⟨dst, .indexAddr t x y, ty, pos, af, g⟩ (.pointer (some (Value.at v (i * sz)))) := qa_ixN hx (show _ = Value.int .i64 (i : Int) from hy) hs hlt
def Chunk.pre (b : Nat) (T : TypeId) (ps : List Value) : Chunk where
  fp := [b]
  sat := fun Φ => ∃ cs : Array Value, Φ b = some (.cells cs T (0, 0)) ∧ ∀ (j : Nat) (v : Value), ps[j]? = some v → cs[j]? = some v
  loc := fun Φ Ψ h ⟨cs, h1, h2⟩ => ⟨cs, (h b (by simp)).trans h1, h2⟩
  dom := fun Φ ⟨cs, h1, _⟩ b' hb => by obtain rfl : b' = b := by simpa using hb
                                       rw [h1]; simp
section
variable {B : Bs} {Φ : Hp} {C : List Chunk}
theorem Cell.pre {b T o : Nat} {v : Value} {ps : List Value} (i : Nat) (hi : C[i]? = some (.pre b T ps)) (hv : ps[o]? = some v) : Cell (St B Φ C) ⟨b, o, none⟩ v := fun w hw => by
  obtain ⟨cs, h1, h2⟩ := hw.sat _ (List.mem_of_getElem? hi)
  rw [cell_of_hp h1]; exact h2 o v hv
theorem Cells.blk3 {b T o : Nat} {u v y : Value} {cs : List Value} (i : Nat) (hi : C[i]? = some (.blk b T cs)) (h0 : cs[o]? = some u) (h1 : cs[o + 1]? = some v) (h2 : cs[o + 2]? = some y) : Cells (St B Φ C) ⟨b, o, none⟩ [u, v, y] := fun j x hj => by
  have ha : (⟨b, o, none⟩ : Addr).add j = ⟨b, o + j, none⟩ := by simp only [Addr.add]; split <;> simp_all
  rw [ha]
  match j, hj with
  | 0, hj => obtain rfl : u = x := by simpa using hj
             exact Cell.blk i hi h0
  | 1, hj => obtain rfl : v = x := by simpa using hj
             exact Cell.blk i hi h1
  | 2, hj => obtain rfl : y = x := by simpa using hj
             exact Cell.blk i hi h2
end
end
theorem gs1 {A B : Prop} (k : B) (h : Kt B → A := by
  intro k
  first
  | apply RW.q
    exact rfl
    first
    | apply qa_mv
      exact rfl
    | apply qa_as
      exact rfl
    | apply qa_fa0
      exact rfl
    | apply qa_ld
      exact rfl
      first | exact Cell.blk 0 rfl rfl | exact Cell.blk 1 rfl rfl | exact Cell.blk 2 rfl rfl | exact Cell.blk 3 rfl rfl | exact Cell.blk 4 rfl rfl | exact Cell.blk 5 rfl rfl | exact Cell.blk 6 rfl rfl | exact Cell.blk 7 rfl rfl | exact Cell.blk 8 rfl rfl | exact Cell.blk 9 rfl rfl | exact Cell.blk 10 rfl rfl | exact Cell.blk 11 rfl rfl | exact Cell.phi (by assumption) | exact Cell.pre 0 rfl rfl | exact Cell.pre 1 rfl rfl | exact Cell.pre 2 rfl rfl
    | apply q_lss
      exact rfl
      exact rfl
    | apply q_eql
      exact rfl
      exact rfl
    | apply q_neq
      exact rfl
      exact rfl
    | apply q_leq
      exact rfl
      exact rfl
    | apply q_gtr
      exact rfl
      exact rfl
    | apply q_geq
      exact rfl
      exact rfl
    | apply qa_len
      exact lk_ev rfl
      first | assumption | exact RowS.isSl (by assumption) | exact isSl_mk | exact RepSl.sl (by assumption) | exact isSl_nil
    | apply qa_addNL
      exact rfl
      exact rfl
      omega
    | apply qa_addNN
      exact rfl
      exact rfl
      omega
    | apply qa_add
      exact rfl
      exact rfl
      unfold I64; omega
    | apply qa_sub
      exact rfl
      exact rfl
      unfold I64; omega
    | apply q_eqlStr
      exact rfl
      exact rfl
    | apply q_neqStr
      exact rfl
      exact rfl
    | apply qa_ixN
      exact rfl
      exact rfl
      first | assumption | exact RowS.isSl (by assumption) | exact isSl_mk | exact RepSl.sl (by assumption) | exact isSl_nil
      first | omega | exact Nat.le_of_ble_eq_true rfl
    | apply qa_ixL
      exact rfl
      exact rfl
      first | assumption | exact RowS.isSl (by assumption) | exact isSl_mk | exact RepSl.sl (by assumption) | exact isSl_nil
      first | omega | exact Nat.le_of_ble_eq_true rfl
    | apply qa_fat
      exact rfl
    | apply qa_fab
      exact rfl
    | apply qa_ldA
      exact rfl
      first | exact Cells.blk 0 rfl | exact Cells.blk 1 rfl | exact Cells.blk 2 rfl | exact Cells.blk 3 rfl | exact Cells.blk 4 rfl | exact Cells.blk 5 rfl | exact Cells.blk 6 rfl | exact Cells.blk 7 rfl | exact Cells.blk 8 rfl | exact Cells.blk 9 rfl | exact Cells.blk 10 rfl | exact Cells.blk 11 rfl | exact Cells.phi (by assumption) | exact Cells.blk3 0 rfl rfl rfl rfl | exact Cells.blk3 1 rfl rfl rfl rfl | exact Cells.blk3 2 rfl rfl rfl rfl | exact Cells.blk3 3 rfl rfl rfl rfl | exact Cells.blk3 4 rfl rfl rfl rfl | exact Cells.blk3 5 rfl rfl rfl rfl
      exact rfl
    | apply q_not
      exact rfl
    | apply qa_ex
      exact rfl
      exact rfl
    | apply q_min
      exact rfl
      exact rfl
    | apply q_max
      exact rfl
      exact rfl
    | apply q_makeFunc
      exact rfl
      exact rfl
    | apply qa_nc
      exact rfl
    | apply qa_fld
      exact rfl
      exact rfl
    | apply qa_mi
      exact rfl
    exact k.r
  | apply RW.nil
    exact k.r
  | apply Post.then_n
    exact k.r
  | apply AW.seq
    exact k.r
  | apply AW.region
    exact k.r
  | apply RW.gl
    exact rfl
    exact rfl
    exact rfl
    first
    | apply qa_mv
      exact rfl
    | apply qa_as
      exact rfl
    | apply qa_fa0
      exact rfl
    | apply qa_ld
      exact rfl
      first | exact Cell.blk 0 rfl rfl | exact Cell.blk 1 rfl rfl | exact Cell.blk 2 rfl rfl | exact Cell.blk 3 rfl rfl | exact Cell.blk 4 rfl rfl | exact Cell.blk 5 rfl rfl | exact Cell.blk 6 rfl rfl | exact Cell.blk 7 rfl rfl | exact Cell.blk 8 rfl rfl | exact Cell.blk 9 rfl rfl | exact Cell.blk 10 rfl rfl | exact Cell.blk 11 rfl rfl | exact Cell.phi (by assumption) | exact Cell.pre 0 rfl rfl | exact Cell.pre 1 rfl rfl | exact Cell.pre 2 rfl rfl
    | apply q_lss
      exact rfl
      exact rfl
    | apply q_eql
      exact rfl
      exact rfl
    | apply q_neq
      exact rfl
      exact rfl
    | apply q_leq
      exact rfl
      exact rfl
    | apply q_gtr
      exact rfl
      exact rfl
    | apply q_geq
      exact rfl
      exact rfl
    | apply qa_len
      exact lk_ev rfl
      first | assumption | exact RowS.isSl (by assumption) | exact isSl_mk | exact RepSl.sl (by assumption) | exact isSl_nil
    | apply qa_addNL
      exact rfl
      exact rfl
      omega
    | apply qa_addNN
      exact rfl
      exact rfl
      omega
    | apply qa_add
      exact rfl
      exact rfl
      unfold I64; omega
    | apply qa_sub
      exact rfl
      exact rfl
      unfold I64; omega
    | apply q_eqlStr
      exact rfl
      exact rfl
    | apply q_neqStr
      exact rfl
      exact rfl
    | apply qa_ixN
      exact rfl
      exact rfl
      first | assumption | exact RowS.isSl (by assumption) | exact isSl_mk | exact RepSl.sl (by assumption) | exact isSl_nil
      first | omega | exact Nat.le_of_ble_eq_true rfl
    | apply qa_ixL
      exact rfl
      exact rfl
      first | assumption | exact RowS.isSl (by assumption) | exact isSl_mk | exact RepSl.sl (by assumption) | exact isSl_nil
      first | omega | exact Nat.le_of_ble_eq_true rfl
    | apply qa_fat
      exact rfl
    | apply qa_fab
      exact rfl
    | apply qa_ldA
      exact rfl
      first | exact Cells.blk 0 rfl | exact Cells.blk 1 rfl | exact Cells.blk 2 rfl | exact Cells.blk 3 rfl | exact Cells.blk 4 rfl | exact Cells.blk 5 rfl | exact Cells.blk 6 rfl | exact Cells.blk 7 rfl | exact Cells.blk 8 rfl | exact Cells.blk 9 rfl | exact Cells.blk 10 rfl | exact Cells.blk 11 rfl | exact Cells.phi (by assumption) | exact Cells.blk3 0 rfl rfl rfl rfl | exact Cells.blk3 1 rfl rfl rfl rfl | exact Cells.blk3 2 rfl rfl rfl rfl | exact Cells.blk3 3 rfl rfl rfl rfl | exact Cells.blk3 4 rfl rfl rfl rfl | exact Cells.blk3 5 rfl rfl rfl rfl
      exact rfl
    | apply q_not
      exact rfl
    | apply qa_ex
      exact rfl
      exact rfl
    | apply q_min
      exact rfl
      exact rfl
    | apply q_max
      exact rfl
      exact rfl
    | apply q_makeFunc
      exact rfl
      exact rfl
    | apply qa_nc
      exact rfl
    | apply qa_fld
      exact rfl
      exact rfl
    | apply qa_mi
      exact rfl
    exact k.r
  | apply RW.g
    exact rfl
    exact rfl
    exact rfl
    intro hh
    first
    | apply q_move
      exact gv_pos hh
    | apply qa_mv
      exact rfl
    | apply qa_as
      exact rfl
    | apply qa_fa0
      first | exact gv_pos hh | exact rfl
    | apply qa_ld
      first | exact gv_pos hh | exact rfl
      first | exact Cell.blk 0 rfl rfl | exact Cell.blk 1 rfl rfl | exact Cell.blk 2 rfl rfl | exact Cell.blk 3 rfl rfl | exact Cell.blk 4 rfl rfl | exact Cell.blk 5 rfl rfl | exact Cell.blk 6 rfl rfl | exact Cell.blk 7 rfl rfl | exact Cell.blk 8 rfl rfl | exact Cell.blk 9 rfl rfl | exact Cell.blk 10 rfl rfl | exact Cell.blk 11 rfl rfl | exact Cell.phi (by assumption) | exact Cell.pre 0 rfl rfl | exact Cell.pre 1 rfl rfl | exact Cell.pre 2 rfl rfl
    | apply q_lss
      first | exact gv_pos hh | exact rfl
      first | exact gv_pos hh | exact rfl
    | apply q_eql
      first | exact gv_pos hh | exact rfl
      first | exact gv_pos hh | exact rfl
    | apply q_neq
      first | exact gv_pos hh | exact rfl
      first | exact gv_pos hh | exact rfl
    | apply q_leq
      first | exact gv_pos hh | exact rfl
      first | exact gv_pos hh | exact rfl
    | apply q_gtr
      first | exact gv_pos hh | exact rfl
      first | exact gv_pos hh | exact rfl
    | apply q_geq
      first | exact gv_pos hh | exact rfl
      first | exact gv_pos hh | exact rfl
    | apply qa_len
      first | exact gv_pos hh | exact rfl
      first | assumption | exact RowS.isSl (by assumption) | exact isSl_mk | exact RepSl.sl (by assumption) | exact isSl_nil
    | apply q_not
      first | exact gv_pos hh | exact rfl
    | apply qa_fat
      first | exact gv_pos hh | exact rfl
    | apply qa_fab
      first | exact gv_pos hh | exact rfl
    | apply qa_ldA
      first | exact gv_pos hh | exact rfl
      first | exact Cells.blk 0 rfl | exact Cells.blk 1 rfl | exact Cells.blk 2 rfl | exact Cells.blk 3 rfl | exact Cells.blk 4 rfl | exact Cells.blk 5 rfl | exact Cells.blk 6 rfl | exact Cells.blk 7 rfl | exact Cells.blk 8 rfl | exact Cells.blk 9 rfl | exact Cells.blk 10 rfl | exact Cells.blk 11 rfl | exact Cells.phi (by assumption) | exact Cells.blk3 0 rfl rfl rfl rfl | exact Cells.blk3 1 rfl rfl rfl rfl | exact Cells.blk3 2 rfl rfl rfl rfl | exact Cells.blk3 3 rfl rfl rfl rfl | exact Cells.blk3 4 rfl rfl rfl rfl | exact Cells.blk3 5 rfl rfl rfl rfl
      exact rfl
    exact k.r
  | apply DW.q
    first | exact fun _ h => h | assumption | exact fun _ h => StP.drop h (by repeat first | exact List.Sublist.refl _ | apply List.Sublist.cons_cons | apply List.Sublist.cons) | exact fun _ h => StP.know (by assumption) (StP.drop h (by repeat first | exact List.Sublist.refl _ | apply List.Sublist.cons_cons | apply List.Sublist.cons)) | exact fun _ h => St.one 0 rfl h | exact fun _ h => St.one 1 rfl h | exact fun _ h => St.one 2 rfl h | exact fun _ h => St.one 3 rfl h | exact fun _ h => St.one 4 rfl h | exact fun _ h => St.oneK 0 (by assumption) rfl h | exact fun _ h => St.oneK 1 (by assumption) rfl h | exact fun _ h => St.oneK 2 (by assumption) rfl h | exact fun _ h => St.oneK 3 (by assumption) rfl h | exact fun _ h => St.oneK 4 (by assumption) rfl h
    exact rfl
    first
    | apply qa_mv
      exact rfl
    | apply qa_as
      exact rfl
    | apply qa_fa0
      exact rfl
    | apply qa_ld
      exact rfl
      first | exact Cell.blk 0 rfl rfl | exact Cell.blk 1 rfl rfl | exact Cell.blk 2 rfl rfl | exact Cell.blk 3 rfl rfl | exact Cell.blk 4 rfl rfl | exact Cell.blk 5 rfl rfl | exact Cell.blk 6 rfl rfl | exact Cell.blk 7 rfl rfl | exact Cell.blk 8 rfl rfl | exact Cell.blk 9 rfl rfl | exact Cell.blk 10 rfl rfl | exact Cell.blk 11 rfl rfl | exact Cell.phi (by assumption) | exact Cell.pre 0 rfl rfl | exact Cell.pre 1 rfl rfl | exact Cell.pre 2 rfl rfl
    | apply q_lss
      exact rfl
      exact rfl
    | apply q_eql
      exact rfl
      exact rfl
    | apply q_neq
      exact rfl
      exact rfl
    | apply q_leq
      exact rfl
      exact rfl
    | apply q_gtr
      exact rfl
      exact rfl
    | apply q_geq
      exact rfl
      exact rfl
    | apply qa_len
      exact lk_ev rfl
      first | assumption | exact RowS.isSl (by assumption) | exact isSl_mk | exact RepSl.sl (by assumption) | exact isSl_nil
    | apply qa_addNL
      exact rfl
      exact rfl
      omega
    | apply qa_addNN
      exact rfl
      exact rfl
      omega
    | apply qa_add
      exact rfl
      exact rfl
      unfold I64; omega
    | apply qa_sub
      exact rfl
      exact rfl
      unfold I64; omega
    | apply q_eqlStr
      exact rfl
      exact rfl
    | apply q_neqStr
      exact rfl
      exact rfl
    | apply qa_ixN
      exact rfl
      exact rfl
      first | assumption | exact RowS.isSl (by assumption) | exact isSl_mk | exact RepSl.sl (by assumption) | exact isSl_nil
      first | omega | exact Nat.le_of_ble_eq_true rfl
    | apply qa_ixL
      exact rfl
      exact rfl
      first | assumption | exact RowS.isSl (by assumption) | exact isSl_mk | exact RepSl.sl (by assumption) | exact isSl_nil
      first | omega | exact Nat.le_of_ble_eq_true rfl
    | apply qa_fat
      exact rfl
    | apply qa_fab
      exact rfl
    | apply qa_ldA
      exact rfl
      first | exact Cells.blk 0 rfl | exact Cells.blk 1 rfl | exact Cells.blk 2 rfl | exact Cells.blk 3 rfl | exact Cells.blk 4 rfl | exact Cells.blk 5 rfl | exact Cells.blk 6 rfl | exact Cells.blk 7 rfl | exact Cells.blk 8 rfl | exact Cells.blk 9 rfl | exact Cells.blk 10 rfl | exact Cells.blk 11 rfl | exact Cells.phi (by assumption) | exact Cells.blk3 0 rfl rfl rfl rfl | exact Cells.blk3 1 rfl rfl rfl rfl | exact Cells.blk3 2 rfl rfl rfl rfl | exact Cells.blk3 3 rfl rfl rfl rfl | exact Cells.blk3 4 rfl rfl rfl rfl | exact Cells.blk3 5 rfl rfl rfl rfl
      exact rfl
    | apply q_not
      exact rfl
    | apply qa_ex
      exact rfl
      exact rfl
    | apply q_min
      exact rfl
      exact rfl
    | apply q_max
      exact rfl
      exact rfl
    | apply q_makeFunc
      exact rfl
      exact rfl
    | apply qa_nc
      exact rfl
    | apply qa_fld
      exact rfl
      exact rfl
    | apply qa_mi
      exact rfl
    exact k.r
  | apply DW.g
    first | exact fun _ h => h | assumption | exact fun _ h => StP.drop h (by repeat first | exact List.Sublist.refl _ | apply List.Sublist.cons_cons | apply List.Sublist.cons) | exact fun _ h => StP.know (by assumption) (StP.drop h (by repeat first | exact List.Sublist.refl _ | apply List.Sublist.cons_cons | apply List.Sublist.cons)) | exact fun _ h => St.one 0 rfl h | exact fun _ h => St.one 1 rfl h | exact fun _ h => St.one 2 rfl h | exact fun _ h => St.one 3 rfl h | exact fun _ h => St.one 4 rfl h | exact fun _ h => St.oneK 0 (by assumption) rfl h | exact fun _ h => St.oneK 1 (by assumption) rfl h | exact fun _ h => St.oneK 2 (by assumption) rfl h | exact fun _ h => St.oneK 3 (by assumption) rfl h | exact fun _ h => St.oneK 4 (by assumption) rfl h
    exact rfl
    exact rfl
    exact rfl
    intro hh
    first
    | apply q_move
      exact gv_pos hh
    | apply qa_mv
      exact rfl
    | apply qa_as
      exact rfl
    | apply qa_fa0
      first | exact gv_pos hh | exact rfl
    | apply qa_ld
      first | exact gv_pos hh | exact rfl
      first | exact Cell.blk 0 rfl rfl | exact Cell.blk 1 rfl rfl | exact Cell.blk 2 rfl rfl | exact Cell.blk 3 rfl rfl | exact Cell.blk 4 rfl rfl | exact Cell.blk 5 rfl rfl | exact Cell.blk 6 rfl rfl | exact Cell.blk 7 rfl rfl | exact Cell.blk 8 rfl rfl | exact Cell.blk 9 rfl rfl | exact Cell.blk 10 rfl rfl | exact Cell.blk 11 rfl rfl | exact Cell.phi (by assumption) | exact Cell.pre 0 rfl rfl | exact Cell.pre 1 rfl rfl | exact Cell.pre 2 rfl rfl
    | apply q_lss
      first | exact gv_pos hh | exact rfl
      first | exact gv_pos hh | exact rfl
    | apply q_eql
      first | exact gv_pos hh | exact rfl
      first | exact gv_pos hh | exact rfl
    | apply q_neq
      first | exact gv_pos hh | exact rfl
      first | exact gv_pos hh | exact rfl
    | apply q_leq
      first | exact gv_pos hh | exact rfl
      first | exact gv_pos hh | exact rfl
    | apply q_gtr
      first | exact gv_pos hh | exact rfl
      first | exact gv_pos hh | exact rfl
    | apply q_geq
      first | exact gv_pos hh | exact rfl
      first | exact gv_pos hh | exact rfl
    | apply qa_len
      first | exact gv_pos hh | exact rfl
      first | assumption | exact RowS.isSl (by assumption) | exact isSl_mk | exact RepSl.sl (by assumption) | exact isSl_nil
    | apply q_not
      first | exact gv_pos hh | exact rfl
    | apply qa_fat
      first | exact gv_pos hh | exact rfl
    | apply qa_fab
      first | exact gv_pos hh | exact rfl
    | apply qa_ldA
      first | exact gv_pos hh | exact rfl
      first | exact Cells.blk 0 rfl | exact Cells.blk 1 rfl | exact Cells.blk 2 rfl | exact Cells.blk 3 rfl | exact Cells.blk 4 rfl | exact Cells.blk 5 rfl | exact Cells.blk 6 rfl | exact Cells.blk 7 rfl | exact Cells.blk 8 rfl | exact Cells.blk 9 rfl | exact Cells.blk 10 rfl | exact Cells.blk 11 rfl | exact Cells.phi (by assumption) | exact Cells.blk3 0 rfl rfl rfl rfl | exact Cells.blk3 1 rfl rfl rfl rfl | exact Cells.blk3 2 rfl rfl rfl rfl | exact Cells.blk3 3 rfl rfl rfl rfl | exact Cells.blk3 4 rfl rfl rfl rfl | exact Cells.blk3 5 rfl rfl rfl rfl
      exact rfl
    exact k.r
  | exact RW.sto 0 rfl rfl rfl rfl rfl rfl k.r
  | exact RW.sto 1 rfl rfl rfl rfl rfl rfl k.r
  | exact RW.sto 2 rfl rfl rfl rfl rfl rfl k.r
  | exact RW.sto 3 rfl rfl rfl rfl rfl rfl k.r
  | exact RW.sto 4 rfl rfl rfl rfl rfl rfl k.r
  | exact RW.sto 5 rfl rfl rfl rfl rfl rfl k.r
  | exact RW.sto 6 rfl rfl rfl rfl rfl rfl k.r
  | exact RW.sto 7 rfl rfl rfl rfl rfl rfl k.r
  | exact RW.sto 8 rfl rfl rfl rfl rfl rfl k.r
  | exact RW.sto 9 rfl rfl rfl rfl rfl rfl k.r
  | exact RW.sto 10 rfl rfl rfl rfl rfl rfl k.r
  | exact RW.sto 11 rfl rfl rfl rfl rfl rfl k.r
  | exact RW.stA 0 rfl rfl rfl rfl rfl rfl k.r
  | exact RW.stA 1 rfl rfl rfl rfl rfl rfl k.r
  | exact RW.stA 2 rfl rfl rfl rfl rfl rfl k.r
  | exact RW.stA 3 rfl rfl rfl rfl rfl rfl k.r
  | exact RW.stA 4 rfl rfl rfl rfl rfl rfl k.r
  | exact RW.stA 5 rfl rfl rfl rfl rfl rfl k.r
  | exact RW.stA 6 rfl rfl rfl rfl rfl rfl k.r
  | exact RW.stA 7 rfl rfl rfl rfl rfl rfl k.r
  | exact RW.stA 8 rfl rfl rfl rfl rfl rfl k.r
  | exact RW.stA 9 rfl rfl rfl rfl rfl rfl k.r
  | exact RW.stA 10 rfl rfl rfl rfl rfl rfl k.r
  | exact RW.stA 11 rfl rfl rfl rfl rfl rfl k.r
  | exact DW.sto 0 rfl rfl rfl rfl rfl rfl k.r
  | exact DW.sto 1 rfl rfl rfl rfl rfl rfl k.r
  | exact DW.sto 2 rfl rfl rfl rfl rfl rfl k.r
  | exact DW.sto 3 rfl rfl rfl rfl rfl rfl k.r
  | exact DW.sto 4 rfl rfl rfl rfl rfl rfl k.r
  | exact DW.sto 5 rfl rfl rfl rfl rfl rfl k.r
  | exact DW.sto 6 rfl rfl rfl rfl rfl rfl k.r
  | exact DW.sto 7 rfl rfl rfl rfl rfl rfl k.r
  | exact DW.sto 8 rfl rfl rfl rfl rfl rfl k.r
  | exact DW.sto 9 rfl rfl rfl rfl rfl rfl k.r
  | exact DW.sto 10 rfl rfl rfl rfl rfl rfl k.r
  | exact DW.sto 11 rfl rfl rfl rfl rfl rfl k.r
  | exact DW.stA 0 rfl rfl rfl rfl rfl rfl k.r
  | exact DW.stA 1 rfl rfl rfl rfl rfl rfl k.r
  | exact DW.stA 2 rfl rfl rfl rfl rfl rfl k.r
  | exact DW.stA 3 rfl rfl rfl rfl rfl rfl k.r
  | exact DW.stA 4 rfl rfl rfl rfl rfl rfl k.r
  | exact DW.stA 5 rfl rfl rfl rfl rfl rfl k.r
  | exact DW.stA 6 rfl rfl rfl rfl rfl rfl k.r
  | exact DW.stA 7 rfl rfl rfl rfl rfl rfl k.r
  | exact DW.stA 8 rfl rfl rfl rfl rfl rfl k.r
  | exact DW.stA 9 rfl rfl rfl rfl rfl rfl k.r
  | exact DW.stA 10 rfl rfl rfl rfl rfl rfl k.r
  | exact DW.stA 11 rfl rfl rfl rfl rfl rfl k.r
  | exact AW.skip k.r
  | exact AW.condF rfl k.r
  | exact AW.condT rfl k.r
  | exact AW.block k.r
  | exact AW.exit k.r
  | exact AW.ret k.r
  | exact Post.then_r k.r
  | exact Post.then_x k.r
  | exact Post.blk_n k.r
  | exact Post.blk_r k.r
  | exact Post.blk_hit k.r
  | exact Post.blk_miss rfl k.r
  | exact DW.nil k.r
  ) : A := h ⟨k⟩
theorem gs2 {A B : Prop} (k : B) (h : Kt B → A := by
  intro k; refine gs1 ?_; refine gs1 ?_; exact k.r) : A := h ⟨k⟩
theorem gs3 {A B : Prop} (k : B) (h : Kt B → A := by
  intro k; refine gs2 ?_; refine gs1 ?_; exact k.r) : A := h ⟨k⟩
theorem gs4 {A B : Prop} (k : B) (h : Kt B → A := by
  intro k; refine gs2 ?_; refine gs2 ?_; exact k.r) : A := h ⟨k⟩
theorem gs5 {A B : Prop} (k : B) (h : Kt B → A := by
  intro k; refine gs3 ?_; refine gs2 ?_; exact k.r) : A := h ⟨k⟩
theorem gs6 {A B : Prop} (k : B) (h : Kt B → A := by
  intro k; refine gs3 ?_; refine gs3 ?_; exact k.r) : A := h ⟨k⟩
theorem gs7 {A B : Prop} (k : B) (h : Kt B → A := by
  intro k; refine gs4 ?_; refine gs3 ?_; exact k.r) : A := h ⟨k⟩
theorem gs8 {A B : Prop} (k : B) (h : Kt B → A := by
  intro k; refine gs4 ?_; refine gs4 ?_; exact k.r) : A := h ⟨k⟩
theorem gs9 {A B : Prop} (k : B) (h : Kt B → A := by
  intro k; refine gs5 ?_; refine gs4 ?_; exact k.r) : A := h ⟨k⟩
theorem gs10 {A B : Prop} (k : B) (h : Kt B → A := by
  intro k; refine gs5 ?_; refine gs5 ?_; exact k.r) : A := h ⟨k⟩
theorem gs11 {A B : Prop} (k : B) (h : Kt B → A := by
  intro k; refine gs6 ?_; refine gs5 ?_; exact k.r) : A := h ⟨k⟩
theorem gs12 {A B : Prop} (k : B) (h : Kt B → A := by
  intro k; refine gs6 ?_; refine gs6 ?_; exact k.r) : A := h ⟨k⟩
theorem gs13 {A B : Prop} (k : B) (h : Kt B → A := by
  intro k; refine gs7 ?_; refine gs6 ?_; exact k.r) : A := h ⟨k⟩
theorem gs14 {A B : Prop} (k : B) (h : Kt B → A := by
  intro k; refine gs7 ?_; refine gs7 ?_; exact k.r) : A := h ⟨k⟩
theorem gs15 {A B : Prop} (k : B) (h : Kt B → A := by
  intro k; refine gs8 ?_; refine gs7 ?_; exact k.r) : A := h ⟨k⟩
theorem gs16 {A B : Prop} (k : B) (h : Kt B → A := by
  intro k; refine gs8 ?_; refine gs8 ?_; exact k.r) : A := h ⟨k⟩
theorem gs17 {A B : Prop} (k : B) (h : Kt B → A := by
  intro k; refine gs9 ?_; refine gs8 ?_; exact k.r) : A := h ⟨k⟩
theorem gs18 {A B : Prop} (k : B) (h : Kt B → A := by
  intro k; refine gs9 ?_; refine gs9 ?_; exact k.r) : A := h ⟨k⟩
theorem gs19 {A B : Prop} (k : B) (h : Kt B → A := by
  intro k; refine gs10 ?_; refine gs9 ?_; exact k.r) : A := h ⟨k⟩
theorem gs21 {A B : Prop} (k : B) (h : Kt B → A := by
  intro k; refine gs11 ?_; refine gs10 ?_; exact k.r) : A := h ⟨k⟩
theorem gs22 {A B : Prop} (k : B) (h : Kt B → A := by
  intro k; refine gs11 ?_; refine gs11 ?_; exact k.r) : A := h ⟨k⟩
end Go.K
