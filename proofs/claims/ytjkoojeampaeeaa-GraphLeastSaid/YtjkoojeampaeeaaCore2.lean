/- More of the walks' own logic: appending what lies in known memory. Conditions: those of each theorem. -/
import Derived.Test.YtjkoojeampaeeaaCore
import Derived.Deep.Upon
namespace Go.K
open Go Go.RowKit
theorem q_as {P : Program} {J : Cls} {f : Nat → Value} {s : List (Nat × Value)} {o : Oper} {v v' : Value} (h : Qt P J f s o v) (e : v = v') : Qt P J f s o v' := e ▸ h
section
variable {P : Program} {B : Bs} {Φ : Hp} {C : List Chunk} {f : Nat → Value} {s : List (Nat × Value)} {dst : Option Nat} {ty : TypeId} {pos : String} {af : Array Edge} {g : Option (Nat × Bool)}
theorem e_appendPhi {t e : TypeId} {x y : Operand} {v yv : Value} {m n sz bytes : Nat} {z : Value} {xs news : List Value} (i : Nat) (hi : C[i]? = some (.row v e sz n xs)) (hx : ev (fr f s) x = v)
    (hy : ev (fr f s) y = yv) (hs : IsSl yv m) (hT : P.underlying t = some (.slice e)) (hinfo : (P.info? e).map (fun i => (i.zero, i.size, i.bytes)) = some (some z, sz, bytes)) (hzs : z.cells.size = sz) (hsz : Nat.ble 1 sz = true)
    (hnl : news.length = m * sz) (hnews : ∀ j u, news[j]? = some u → PCell Φ (Value.at yv j) u) (h1 : news.all Value.oneCell' = true) (hlen : n + m ≤ 9223372036854775807) (hbytes : (n + m) * bytes ≤ 140737488355328)
    {C' : {v' : Value // IsSl v' (n + m)} → List Chunk} (hC' : ∀ v' : {v' : Value // IsSl v' (n + m)}, C.set i (.row v'.1 e sz (n + m) (xs ++ news)) = C' v') :
    ∀ w, (St B Φ C).p w → effX P (fun u w' => ∃ v' : {v' : Value // IsSl v' (n + m)}, u = v'.1 ∧ (St B Φ (C' v')).p w')
      ((execOp (ev (fr f s)) ⟨dst, .call { callee := .builtin .append, args := #[x, y], argTypes := #[t, t] }, ty, pos, af, g⟩).run P w) := by
  obtain ⟨A, c, rfl, hA⟩ := hs
  cases A with
  | some a => exact e_append i hi hx hy hT hinfo hzs hsz hnl (fun j u hj => Cell.phi (hnews j u hj)) h1 hlen hbytes hC'
  | none =>
    obtain rfl : m = 0 := by
      cases m with
      | zero => rfl
      | succ m => exact absurd (hA (by omega)) (by simp)
    obtain rfl : news = [] := by simpa using hnl
    intro w hw
    obtain ⟨ti, hti, hz, hs, hby⟩ := info_parts hinfo
    have hr : RowS (hp w) v e sz n xs := hw.sat _ (List.mem_of_getElem? hi)
    have hsame : C.set i (.row v e sz (n + 0) (xs ++ [])) = C := by
      rw [List.append_nil, Nat.add_zero]
      exact List.ext_getElem? fun k => by
        rw [List.getElem?_set]
        split
        · rename_i hk; subst hk
          split
          · exact hi.symm
          · rename_i hlt; rw [List.getElem?_eq_none (by omega)] at hi; cases hi
        · rfl
    have hv : ∃ b cap, v = .slice b n cap ∧ n ≤ cap := by
      rcases hr.2 with ⟨rfl, rfl⟩ | ⟨g, cap, cur, rfl, _, hc, _⟩
      · exact ⟨none, 0, rfl, Nat.le_refl _⟩
      · exact ⟨_, _, rfl, hc⟩
    have hsl : IsSl v (n + 0) := hr.isSl
    obtain ⟨b, cap, rfl, hc⟩ := hv
    have hrun := run_append_nothing (P := P) w t t ty e ti hT hti b n cap hc (.slice none 0 c) (Src.ofNil w hT c)
    refine effX_val (v := .slice b n cap) (w' := w) ?_ ⟨⟨.slice b n cap, hsl⟩, rfl, by rw [← hC', hsame]; exact hw⟩
    simp only [execOp, resolve, invoke, builtin, Sem.run_bind, Sem.run_pure, Result.andThen_ok, List.map_toArray, List.map_cons, List.map_nil, hx, hy, hrun]
end
section
variable {α : Type} [Inhabited α] [RepE α]
/-- the cells of a list in known memory -/
theorem repE_cells {Φ : Hp} {xs : List α} {v : Value} (he : EvenE α) (h : RepSl Φ xs v) : ∀ j u, (flat xs)[j]? = some u → PCell Φ (Value.at v j) u := fun p u hp => by
  have hlen := flat_len he xs
  have hlt : p < xs.length * Rep.sz α := by rw [← hlen]; exact (List.getElem?_eq_some_iff.1 hp).1
  have hpos : 0 < Rep.sz α := by
    rcases Nat.eq_zero_or_pos (Rep.sz α) with h0 | h0
    · rw [h0] at hlt; omega
    · exact h0
  have hk : p / Rep.sz α < xs.length := (Nat.div_lt_iff_lt_mul hpos).2 hlt
  have hj : p % Rep.sz α < Rep.sz α := Nat.mod_lt _ hpos
  have hc : (RepE.cells (xs.getD (p / Rep.sz α) default))[p % Rep.sz α]? = some ((RepE.cells (xs.getD (p / Rep.sz α) default))[p % Rep.sz α]'(by rw [he]; exact hj)) := List.getElem?_eq_getElem _
  have hg := flat_get he hk hc
  have e : p / Rep.sz α * Rep.sz α + p % Rep.sz α = p := by rw [Nat.mul_comm]; exact Nat.div_add_mod _ _
  rw [e, hp] at hg
  obtain ⟨cs, h1, h2⟩ := h.at_ _ hk
  obtain ⟨rfl, _⟩ := RepE.iff.1 h1
  have := h2 (p % Rep.sz α) u (by rw [hg]; simp [List.getD_eq_getElem?_getD, hk])
  rwa [e] at this
theorem flat_one {Φ : Hp} {xs : List α} {v : Value} (h : RepSl Φ xs v) : (flat xs).all Value.oneCell' = true := by
  rw [List.all_eq_true]
  intro u hu
  obtain ⟨x, hx, hux⟩ := List.mem_flatMap.1 hu
  exact Rep.one (Φ := Φ) (x := x) (RepE.iff.2 ⟨rfl, h.wfE x hx⟩) u hux
end
end Go.K
