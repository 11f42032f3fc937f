/- More of the walks' own logic: appending what lies in known memory. Conditions: those of each theorem. -/
import Derived.Test.YtjkoojeampaeeaaCore
import Derived.Deep.Upon
namespace Go.K
open Go Go.RowKit
/-- the part of a slice from l to m, its elements of s cells -/
def subSl (v : Value) (l m s : Nat) : Value := match v with | .slice a _ c => sliced a l m c s | v => v
/-- is a slice nil -/
def nilSl : Value → Bool
  | .slice a _ _ => a.isNone
  | _ => false
theorem isSl_sub {v : Value} {n l m s : Nat} (h : IsSl v n) (hl : l ≤ m) (hm : m ≤ n) : IsSl (subSl v l m s) (m - l) := by
  obtain ⟨A, c, rfl, hA, hc⟩ := h
  refine ⟨_, _, rfl, fun h0 => ?_, by omega⟩
  have := hA (by omega)
  split
  · exact this
  · simpa using this
theorem at_sub {v : Value} {n l m s k : Nat} (h : IsSl v n) (hl : l < m) (hm : m ≤ n) : Value.at (subSl v l m s) k = Value.at v (l * s + k) := by
  obtain ⟨A, c, rfl, hA, hc⟩ := h
  obtain ⟨a, rfl⟩ := Option.isSome_iff_exists.1 (hA (by omega))
  show Value.at (sliced (some a) l m c s) k = _
  unfold sliced
  rw [if_neg (by omega)]
  exact add_add _ _ _
theorem nilSl_pos {v : Value} {n : Nat} (h : IsSl v n) (hn : 0 < n) : nilSl v = false := by
  obtain ⟨A, c, rfl, hA, _⟩ := h
  obtain ⟨a, rfl⟩ := Option.isSome_iff_exists.1 (hA hn)
  rfl
section
variable {P : Program} {J : Cls} {f : Nat → Value} {s : List (Nat × Value)} {dst : Option Nat} {ty : TypeId} {pos : String} {af : Array Edge} {g : Option (Nat × Bool)} {t t' e : TypeId} {x y z : Operand} {v : Value} {n sz : Nat}
theorem elem_of (hT : P.underlying t = some (.slice e)) : P.elem t = e := by simp [Program.elem, hT]
theorem run_size {sz : Nat} (hsz : (P.info? e).map (·.size) = some sz) (w : World) : (sizeOf e).run P w = .ok sz w := by
  obtain ⟨ti, hi, hti⟩ := Option.map_eq_some_iff.1 hsz
  simp [sizeOf, typeInfo, hi, hti]
theorem q_sliceH {m : Int} (hx : ev (fr f s) x = v) (hy : ev (fr f s) y = .int .i64 m) (hs : IsSl v n) (hT : P.underlying t = some (.slice e)) (hsz : (P.info? e).map (·.size) = some sz) (h0 : 0 ≤ m) (hm : m ≤ n) :
    Qt P J f s ⟨dst, .slice t x none (some y) none, ty, pos, af, g⟩ (subSl v 0 m.toNat sz) := qt_val fun w _ => by
  obtain ⟨A, c, rfl, hA, hc⟩ := hs
  have he := elem_of hT
  have hT' : P.underlying t = some (.slice (P.elem t)) := by rw [he]; exact hT
  simp only [execOp, hx, hy, Option.map_some, Option.map_none, run_sliceAt_slice (w := w) t _ _ _ _ hT', run_slice_h (w := w) t A n c hT' .i64 m h0 (by omega), he, run_size hsz, Result.andThen_ok, Sem.run_bind, Sem.run_pure, subSl]
theorem q_sliceL {l : Int} (hx : ev (fr f s) x = v) (hy : ev (fr f s) y = .int .i64 l) (hs : IsSl v n) (hT : P.underlying t = some (.slice e)) (hsz : (P.info? e).map (·.size) = some sz) (h0 : 0 ≤ l) (hl : l ≤ n) :
    Qt P J f s ⟨dst, .slice t x (some y) none none, ty, pos, af, g⟩ (subSl v l.toNat n sz) := qt_val fun w _ => by
  obtain ⟨A, c, rfl, hA, hc⟩ := hs
  have he := elem_of hT
  have hT' : P.underlying t = some (.slice (P.elem t)) := by rw [he]; exact hT
  simp only [execOp, hx, hy, Option.map_some, Option.map_none, run_sliceAt_slice (w := w) t _ _ _ _ hT', run_slice_l (w := w) t A n c hT' .i64 l h0 hl, he, run_size hsz, Result.andThen_ok, Sem.run_bind, Sem.run_pure, subSl]
theorem q_sliceLH {l m : Int} (hx : ev (fr f s) x = v) (hy : ev (fr f s) y = .int .i64 l) (hz : ev (fr f s) z = .int .i64 m) (hs : IsSl v n) (hT : P.underlying t = some (.slice e)) (hsz : (P.info? e).map (·.size) = some sz) (h0 : 0 ≤ l) (hl : l ≤ m) (hm : m ≤ n) :
    Qt P J f s ⟨dst, .slice t x (some y) (some z) none, ty, pos, af, g⟩ (subSl v l.toNat m.toNat sz) := qt_val fun w _ => by
  obtain ⟨A, c, rfl, hA, hc⟩ := hs
  have he := elem_of hT
  have hT' : P.underlying t = some (.slice (P.elem t)) := by rw [he]; exact hT
  simp only [execOp, hx, hy, hz, Option.map_some, Option.map_none, run_sliceAt_slice (w := w) t _ _ _ _ hT', run_slice_lh (w := w) t A n c hT' .i64 .i64 l m h0 hl (by omega), he, run_size hsz, Result.andThen_ok, Sem.run_bind, Sem.run_pure, subSl]
theorem run_eqNil {A : Option Addr} {m c : Nat} (hT : P.underlying t = some (.slice e)) (w : World) : (Op.equal t (.slice A m c) (.slice none 0 0)).run P w = .ok A.isNone w := by
  have h : ∀ d : Nat, (Op.equalIn (d + 1) t (.slice A m c) (.slice none 0 0)).run P w = .ok A.isNone w := fun d => by cases A <;> simp [Op.equalIn, run_underlying hT]
  simp [Op.equal, Op.maxDepth, h 9999]
theorem eqGuard_sl {op : BinOp} {A : Option Addr} {m c : Nat} : ∀ w, (eqGuard op t x (.const (.slice none 0 0)) (.slice A m c) (.slice none 0 0)).run P w = .ok () w := fun w => by
  cases op <;> simp [eqGuard]
theorem q_eqNil (hx : ev (fr f s) x = v) (hs : IsSl v n) (hT : P.underlying t = some (.slice e)) : Qt P J f s ⟨dst, .binOp .eql t x (.const (.slice none 0 0)) t', ty, pos, af, g⟩ (.bool (nilSl v)) := qt_val fun w _ => by
  obtain ⟨A, c, rfl, hA, hc⟩ := hs
  simp only [execOp, hx, Sem.run_bind]
  simp only [ev, eqGuard_sl, Result.andThen_ok, binOp, Sem.run_bind, run_eqNil hT, nilSl, Sem.run_pure]
theorem q_neNil (hx : ev (fr f s) x = v) (hs : IsSl v n) (hT : P.underlying t = some (.slice e)) : Qt P J f s ⟨dst, .binOp .neq t x (.const (.slice none 0 0)) t', ty, pos, af, g⟩ (.bool (!nilSl v)) := qt_val fun w _ => by
  obtain ⟨A, c, rfl, hA, hc⟩ := hs
  simp only [execOp, hx, Sem.run_bind]
  simp only [ev, eqGuard_sl, Result.andThen_ok, binOp, Sem.run_bind, run_eqNil hT, nilSl, Sem.run_pure]
end
theorem ints_cells {Φ : Hp} {xs : List Int} {v : Value} (h : RepSl Φ xs v) : ∀ j u, (xs.map (Value.int .i64))[j]? = some u → PCell Φ (Value.at v j) u := fun j u hj => by
  rw [List.getElem?_map] at hj
  obtain ⟨x, hx, rfl⟩ := Option.map_eq_some_iff.1 hj
  obtain ⟨hlt, rfl⟩ := List.getElem?_eq_some_iff.1 hx
  exact (h.int hlt).1
theorem ints_one (xs : List Int) : (xs.map (Value.int .i64)).all Value.oneCell' = true := by simp [Value.oneCell']
theorem RepSl.part {α : Type} [Rep α] {Φ : Hp} {xs : List α} {v : Value} (h : RepSl Φ xs v) {l m : Nat} (hl : l ≤ m) (hm : m ≤ xs.length) : RepSl Φ ((xs.take m).drop l) (subSl v l m (Rep.sz α)) := by
  have hlen : ((xs.take m).drop l).length = m - l := by simp [Nat.min_eq_left hm]
  refine ⟨by rw [hlen]; exact isSl_sub h.sl hl hm, ?_, fun i hi => ?_⟩
  · have := h.max
    have h2 : ((xs.take m).drop l).length * Rep.bytes α ≤ xs.length * Rep.bytes α := Nat.mul_le_mul_right _ (by omega)
    omega
  · rw [hlen] at hi
    obtain ⟨cs, h1, h2⟩ := h.at_ (l + i) (by omega)
    refine ⟨cs, by simpa using h1, fun j u hj => ?_⟩
    rw [at_sub h.sl (by omega) hm]
    have := h2 j u hj
    rwa [Nat.add_mul, Nat.add_assoc] at this
theorem q_as {P : Program} {J : Cls} {f : Nat → Value} {s : List (Nat × Value)} {o : Oper} {v v' : Value} (h : Qt P J f s o v) (e : v = v') : Qt P J f s o v' := e ▸ h
section
variable {P : Program} {B : Bs} {Φ : Hp} {C : List Chunk} {f : Nat → Value} {s : List (Nat × Value)} {dst : Option Nat} {ty : TypeId} {pos : String} {af : Array Edge} {g : Option (Nat × Bool)}
theorem e_appendPhi {t e : TypeId} {x y : Operand} {v yv : Value} {m n sz bytes : Nat} {z : Value} {xs news : List Value} (i : Nat) (hi : C[i]? = some (.row v e sz n xs)) (hx : ev (fr f s) x = v)
    (hy : ev (fr f s) y = yv) (hs : IsSl yv m) (hT : P.underlying t = some (.slice e)) (hinfo : (P.info? e).map (fun i => (i.zero, i.size, i.bytes)) = some (some z, sz, bytes)) (hzs : z.cells.size = sz) (hsz : Nat.ble 1 sz = true)
    (hnl : news.length = m * sz) (hnews : ∀ j u, news[j]? = some u → PCell Φ (Value.at yv j) u) (h1 : news.all Value.oneCell' = true) (hlen : n + m ≤ 9223372036854775807) (hbytes : (n + m) * bytes ≤ 140737488355328)
    {C' : {v' : Value // IsSl v' (n + m)} → List Chunk} (hC' : ∀ v' : {v' : Value // IsSl v' (n + m)}, C.set i (.row v'.1 e sz (n + m) (xs ++ news)) = C' v') :
    ∀ w, (St B Φ C).p w → effX P (fun u w' => ∃ v' : {v' : Value // IsSl v' (n + m)}, u = v'.1 ∧ (St B Φ (C' v')).p w')
      ((execOp (ev (fr f s)) ⟨dst, .call { callee := .builtin .append, args := #[x, y], argTypes := #[t, t] }, ty, pos, af, g⟩).run P w) := by
  obtain ⟨A, c, rfl, hA, _⟩ := hs
  cases A with
  | some a => exact e_append i hi hx hy hT hinfo hzs hsz hnl (fun j u hj => Cell.phi (hnews j u hj)) h1 hlen hbytes hC'
  | none =>
    obtain rfl : m = 0 := by
      cases m with
      | zero => rfl
      | succ m => exact absurd (hA (by omega)) (by simp)
    obtain rfl : news = [] := by simpa using hnl
    intro w hw
    obtain ⟨ti, hti, hz, hs, hby⟩ := info_parts hinfo
    have hr : RowS (hp w) v e sz n xs := hw.sat _ (List.mem_of_getElem? hi)
    have hsame : C.set i (.row v e sz (n + 0) (xs ++ [])) = C := by
      rw [List.append_nil, Nat.add_zero]
      exact List.ext_getElem? fun k => by
        rw [List.getElem?_set]
        split
        · rename_i hk; subst hk
          split
          · exact hi.symm
          · rename_i hlt; rw [List.getElem?_eq_none (by omega)] at hi; cases hi
        · rfl
    have hv : ∃ b cap, v = .slice b n cap ∧ n ≤ cap := by
      rcases hr.2 with ⟨rfl, rfl⟩ | ⟨g, cap, cur, rfl, _, hc, _⟩
      · exact ⟨none, 0, rfl, Nat.le_refl _⟩
      · exact ⟨_, _, rfl, hc⟩
    have hsl : IsSl v (n + 0) := hr.isSl
    obtain ⟨b, cap, rfl, hc⟩ := hv
    have hrun := run_append_nothing (P := P) w t t ty e ti hT hti b n cap hc (.slice none 0 c) (Src.ofNil w hT c)
    refine effX_val (v := .slice b n cap) (w' := w) ?_ ⟨⟨.slice b n cap, hsl⟩, rfl, by rw [← hC', hsame]; exact hw⟩
    simp only [execOp, resolve, invoke, builtin, Sem.run_bind, Sem.run_pure, Result.andThen_ok, List.map_toArray, List.map_cons, List.map_nil, hx, hy, hrun]
end
section
variable {α : Type} [Inhabited α] [RepE α]
/-- the cells of a list in known memory -/
theorem repE_cells {Φ : Hp} {xs : List α} {v : Value} (he : EvenE α) (h : RepSl Φ xs v) : ∀ j u, (flat xs)[j]? = some u → PCell Φ (Value.at v j) u := fun p u hp => by
  have hlen := flat_len he xs
  have hlt : p < xs.length * Rep.sz α := by rw [← hlen]; exact (List.getElem?_eq_some_iff.1 hp).1
  have hpos : 0 < Rep.sz α := by
    rcases Nat.eq_zero_or_pos (Rep.sz α) with h0 | h0
    · rw [h0] at hlt; omega
    · exact h0
  have hk : p / Rep.sz α < xs.length := (Nat.div_lt_iff_lt_mul hpos).2 hlt
  have hj : p % Rep.sz α < Rep.sz α := Nat.mod_lt _ hpos
  have hc : (RepE.cells (xs.getD (p / Rep.sz α) default))[p % Rep.sz α]? = some ((RepE.cells (xs.getD (p / Rep.sz α) default))[p % Rep.sz α]'(by rw [he]; exact hj)) := List.getElem?_eq_getElem _
  have hg := flat_get he hk hc
  have e : p / Rep.sz α * Rep.sz α + p % Rep.sz α = p := by rw [Nat.mul_comm]; exact Nat.div_add_mod _ _
  rw [e, hp] at hg
  obtain ⟨cs, h1, h2⟩ := h.at_ _ hk
  obtain ⟨rfl, _⟩ := RepE.iff.1 h1
  have := h2 (p % Rep.sz α) u (by rw [hg]; simp [List.getD_eq_getElem?_getD, hk])
  rwa [e] at this
theorem flat_one {Φ : Hp} {xs : List α} {v : Value} (h : RepSl Φ xs v) : (flat xs).all Value.oneCell' = true := by
  rw [List.all_eq_true]
  intro u hu
  obtain ⟨x, hx, hux⟩ := List.mem_flatMap.1 hu
  exact Rep.one (Φ := Φ) (x := x) (RepE.iff.2 ⟨rfl, h.wfE x hx⟩) u hux
end
end Go.K
