/- The keys of the maps of what is under way; the entries of a map that are left. Conditions: those of each theorem. -/
import Derived.Test.YtblfeidlnhdekaaXKeyBa
import Derived.Test.YtblfeidlnhdekaaXPlainFt
namespace Go.Proofs.Ytblfeidlnhdekaa
open Go Go.K Go.RowKit Go.WideMaps Go.Maps
theorem litWf {a : Int} (h : I64 a) : (Lit.int .i64 a).wf = true := by
  unfold I64 at h
  simp [Lit.wf, IntKind.min, IntKind.max, IntKind.bits, IntKind.signed]
  omega
theorem cells154 : Try.prog.cellsOf 154 = 2 := by kernel_rfl
theorem cells3 : Try.prog.cellsOf 3 = 1 := by kernel_rfl
theorem keyT154 : Try.prog.keyType 154 = true := by kernel_rfl
theorem key_key {a b : Int} (ha : I64 a) (hb : I64 b) : ∃ l, keyOf Try.prog 154 (.agg #[.int .i64 a, .int .i64 b]) = some l := by
  obtain ⟨m, hm⟩ := tySize
  have hf : (Value.agg #[.int .i64 a, .int .i64 b]).formed Try.prog 154 = true := by simp [Value.formed, Try.underlying154, cells154]
  have wa := litWf ha
  have wb := litWf hb
  unfold keyOf
  rw [Try.underlying154]
  simp only [keyT154, hf, Bool.and_self, if_true, hm]
  refine ⟨.string (keyBytes [.int .i64 a, .int .i64 b]), ?_⟩
  simp [Program.keyLits, Try.underlying154, Try.underlying3, Value.cells, cells154, cells3, wa, wb]
abbrev pairV (k : Int × Int) : Value := .agg #[.int .i64 k.1, .int .i64 k.2]
theorem pairV_inj {a b : Int × Int} (h : pairV a = pairV b) : a = b := by
  obtain ⟨a1, a2⟩ := a; obtain ⟨b1, b2⟩ := b
  simp only [pairV, Value.agg.injEq, Array.mk.injEq, List.cons.injEq, Value.int.injEq, true_and, and_true] at h
  rw [h.1, h.2]
noncomputable def kKey : KL Try.prog 154 (Int × Int) := KL.of (Keyed.of_law (deep_law_laid laidOut_ (m := 2) (by omega) (of_decide_eq_true (by kernel_rfl)) (by kernel_rfl) (by rw [Try.underlying154]))) pairV (fun k => I64 k.1 ∧ I64 k.2) pairV_inj fun a ha => key_key ha.1 ha.2
end Go.Proofs.Ytblfeidlnhdekaa
namespace Ft
open Go Go.K
def left (es : Array MapEntry) (seen : Array Nat) : Nat := (es.toList.filter fun e => !seen.contains e.born).length
theorem contains_push (seen : Array Nat) (a c : Nat) : (seen.push a).contains c = (seen.contains c || c == a) := by
  rw [Bool.eq_iff_iff]; simp
theorem left_lt {es : Array MapEntry} {seen : Array Nat} {e : MapEntry} (he : e ∈ es.toList) (hn : seen.contains e.born = false) : left es (seen.push e.born) < left es seen := by
  unfold left
  have key : ∀ l : List MapEntry, (l.filter fun e' => !(seen.push e.born).contains e'.born).length ≤ (l.filter fun e' => !seen.contains e'.born).length ∧ (e ∈ l → (l.filter fun e' => !(seen.push e.born).contains e'.born).length < (l.filter fun e' => !seen.contains e'.born).length) := by
    intro l
    induction l with
    | nil => exact ⟨Nat.le_refl _, fun h => by cases h⟩
    | cons a l ih =>
      obtain ⟨i1, i2⟩ := ih
      have hp := contains_push seen e.born a.born
      cases hs : seen.contains a.born with
      | true =>
        rw [hs, Bool.true_or] at hp
        have e1 : ((a :: l).filter fun e' => !(seen.push e.born).contains e'.born) = l.filter fun e' => !(seen.push e.born).contains e'.born := List.filter_cons_of_neg (by rw [hp]; simp)
        have e2 : ((a :: l).filter fun e' => !seen.contains e'.born) = l.filter fun e' => !seen.contains e'.born := List.filter_cons_of_neg (by rw [hs]; simp)
        rw [e1, e2]
        refine ⟨i1, fun h => ?_⟩
        rcases List.mem_cons.1 h with h | h
        · subst h; rw [hn] at hs; cases hs
        · exact i2 h
      | false =>
        have e2 : ((a :: l).filter fun e' => !seen.contains e'.born) = a :: l.filter fun e' => !seen.contains e'.born := List.filter_cons_of_pos (by rw [hs]; simp)
        rw [e2]
        by_cases hab : a.born = e.born
        · have e1 : ((a :: l).filter fun e' => !(seen.push e.born).contains e'.born) = l.filter fun e' => !(seen.push e.born).contains e'.born := List.filter_cons_of_neg (by rw [hp, hab]; simp)
          rw [e1]
          simp only [List.length_cons]
          exact ⟨by omega, fun _ => by omega⟩
        · have e1 : ((a :: l).filter fun e' => !(seen.push e.born).contains e'.born) = a :: l.filter fun e' => !(seen.push e.born).contains e'.born := List.filter_cons_of_pos (by rw [hp, hs]; simp [hab])
          rw [e1]
          simp only [List.length_cons]
          refine ⟨by omega, fun h => ?_⟩
          rcases List.mem_cons.1 h with h | h
          · subst h; exact absurd rfl hab
          · have := i2 h; omega
  exact (key es.toList).2 he
/-- what the loop over the map knows -/
def SeenOk (es : Array MapEntry) (M : Int × Int → Option Int) (L : Int × Int → Option Bool) (seen : Array Nat) : Prop := ∀ e ∈ es.toList, seen.contains e.born = true → ∀ k x, e.key = Go.Proofs.Ytblfeidlnhdekaa.pairV k → M k = some x → (L k).getD false = true ∨ x = 0
theorem SeenOk.start {es : Array MapEntry} {M : Int × Int → Option Int} {L : Int × Int → Option Bool} : SeenOk es M L #[] := fun e _ h => by simp at h
theorem SeenOk.next {es : Array MapEntry} {M : Int × Int → Option Int} {L : Int × Int → Option Bool} {seen : Array Nat} {clock : Nat} (h : SeenOk es M L seen) (km : KM Go.Proofs.Ytblfeidlnhdekaa.kKey (Value.int .i64) es clock M) {e : MapEntry} {k : Int × Int} {x : Int} (he : e ∈ es.toList) (hk : e.key = Go.Proofs.Ytblfeidlnhdekaa.pairV k) (hM : M k = some x) (hx : (L k).getD false = true ∨ x = 0) : SeenOk es M L (seen.push e.born) := fun e' he' hs k' x' hk' hM' => by
  rw [contains_push] at hs
  by_cases hb : e'.born = e.born
  · have hee : e' = e := by
      have hn := km.born
      rw [List.nodup_iff_pairwise_ne, List.pairwise_map] at hn
      rcases List.mem_iff_getElem.1 he' with ⟨i, hi, rfl⟩
      rcases List.mem_iff_getElem.1 he with ⟨j, hj, rfl⟩
      rcases Nat.lt_trichotomy i j with h1 | h1 | h1
      · exact absurd hb (List.pairwise_iff_getElem.1 hn i j hi hj h1)
      · subst h1; rfl
      · exact absurd hb.symm (List.pairwise_iff_getElem.1 hn j i hj hi h1)
    subst hee
    have : k' = k := Go.Proofs.Ytblfeidlnhdekaa.pairV_inj (hk'.symm.trans hk)
    subst this
    rw [hM] at hM'
    obtain rfl := Option.some.inj hM'
    exact hx
  · have : (e'.born == e.born) = false := by simp [hb]
    rw [this, Bool.or_false] at hs
    exact h e' he' hs k' x' hk' hM'
theorem SeenOk.all {es : Array MapEntry} {M : Int × Int → Option Int} {L : Int × Int → Option Bool} {seen : Array Nat} {clock : Nat} (h : SeenOk es M L seen) (km : KM Go.Proofs.Ytblfeidlnhdekaa.kKey (Value.int .i64) es clock M) (hall : ∀ e ∈ es.toList, seen.contains e.born = true) : ∀ k n, M k = some n → (L k).getD false = true ∨ n = 0 := fun k n hk => by
  obtain ⟨e, he, hke⟩ := km.has k n hk
  exact h e he (hall e he) k n hke hk
end Ft
