/- Plain facts: pools of water, what is under way, sums. Conditions: those of each theorem. -/
import Derived.Test.YtblfeidlnhdekaaXPlainBb
import Derived.Test.YtblfeidlnhdekaaXPlainE
namespace Ft
def totTo (xs : List Int) : Nat → Int
  | 0 => 0
  | n + 1 => Fu.addS (totTo xs n) (xs.getD n 0)
def tot (xs : List Int) : Int := totTo xs xs.length
theorem totTo_rng (xs : List Int) : ∀ n, -9223372036854775808 ≤ totTo xs n ∧ totTo xs n ≤ 9223372036854775807
  | 0 => by unfold totTo; omega
  | n + 1 => by unfold totTo; exact Fu.addS_rng _ _
def PoolOk (xs : List Int) : Prop := ∀ k, k < xs.length → 0 ≤ xs.getD k 0 ∧ xs.getD k 0 ≤ 1125899906842624 - Ba.sumTo xs k
instance (xs : List Int) : Decidable (PoolOk xs) := inferInstanceAs (Decidable (∀ k, k < xs.length → _))
theorem pool_sum {xs : List Int} (h : ∀ k, k < xs.length → 0 ≤ xs.getD k 0 ∧ xs.getD k 0 ≤ 1125899906842624 - Ba.sumTo xs k) : ∀ k, k ≤ xs.length → (0 ≤ Ba.sumTo xs k ∧ Ba.sumTo xs k ≤ 1125899906842624) ∧ totTo xs k = Ba.sumTo xs k
  | 0, _ => by unfold Ba.sumTo totTo; omega
  | k + 1, hk => by
    have ih := pool_sum h k (by omega)
    have hx := h k (by omega)
    unfold Ba.sumTo totTo
    rw [ih.2]
    refine ⟨by omega, ?_⟩
    unfold Fu.addS
    rw [if_neg (by omega), if_neg (by omega)]
theorem pool_tot {xs : List Int} (h : PoolOk xs) : 0 ≤ tot xs ∧ tot xs ≤ 1125899906842624 := by
  have := pool_sum h xs.length (Nat.le_refl _)
  unfold tot
  omega
def litTo (xss : List (List Int)) : Nat → Int
  | 0 => 0
  | n + 1 => litTo xss n + tot (xss.getD n [])
def quTo (q : List Bt.Load) : Nat → Int
  | 0 => 0
  | n + 1 => quTo q n + tot (q.getD n default).Part
def SumOk (xs : List Int) (m : Int) : Prop := ∀ k, k < xs.length → 0 ≤ xs.getD k 0 ∧ xs.getD k 0 ≤ m - Ba.sumTo xs k
instance (xs : List Int) (m : Int) : Decidable (SumOk xs m) := inferInstanceAs (Decidable (∀ k, k < xs.length → _))
/-- the first number that is not zero -/
def orL : List Int → Int
  | [] => 0
  | x :: l => if x = 0 then orL l else x
theorem orL_miss : ∀ {xs : List Int}, (∀ j, j < xs.length → xs.getD j 0 = 0) → orL xs = 0
  | [], _ => rfl
  | x :: l, h => by
    have h0 : x = 0 := by have := h 0 (by simp); simpa using this
    unfold orL
    rw [if_pos h0]
    exact orL_miss fun j hj => by have := h (j + 1) (by simpa using hj); simpa using this
theorem orL_hit : ∀ {xs : List Int} {k : Nat}, k < xs.length → (∀ j, j < k → xs.getD j 0 = 0) → xs.getD k 0 ≠ 0 → orL xs = xs.getD k 0
  | [], _, h, _, _ => by simp at h
  | x :: l, 0, _, _, h => by unfold orL; rw [if_neg (by simpa using h)]; simp
  | x :: l, k + 1, hk, hz, h => by
    have h0 : x = 0 := by have := hz 0 (by omega); simpa using this
    unfold orL
    rw [if_pos h0, orL_hit (k := k) (by simpa using hk) (fun j hj => by have := hz (j + 1) (by omega); simpa using this) (by simpa using h)]
    simp
/-- the water under way by its place in the order -/
def sumM (q : List Bt.Load) : Nat → (Int × Int → Option Int)
  | 0 => fun _ => none
  | n + 1 => fun j => if j = ((q.getD n default).At, (q.getD n default).To) then some (Fu.addS (((sumM q n) ((q.getD n default).At, (q.getD n default).To)).getD 0) (tot (q.getD n default).Part)) else sumM q n j
def lisM (q : List Bt.Sum) : Nat → (Int × Int → Option Bool)
  | 0 => fun _ => none
  | n + 1 => fun j => if j = ((q.getD n default).At, (q.getD n default).To) then some true else lisM q n j
def HasQ (hq : List Bt.Sum) (sq : List Bt.Load) : Prop := (∀ i, i < hq.length → (hq.getD i default).Vol.Lo ≤ ((sumM sq sq.length) ((hq.getD i default).At, (hq.getD i default).To)).getD 0 ∧ ((sumM sq sq.length) ((hq.getD i default).At, (hq.getD i default).To)).getD 0 ≤ (hq.getD i default).Vol.Hi) ∧ ∀ k n, sumM sq sq.length k = some n → (lisM hq hq.length k).getD false = true ∨ n = 0
open Classical in
noncomputable instance (hq : List Bt.Sum) (sq : List Bt.Load) : Decidable (HasQ hq sq) := Classical.propDecidable _
theorem sumM_rng (q : List Bt.Load) : ∀ n k x, sumM q n k = some x → -9223372036854775808 ≤ x ∧ x ≤ 9223372036854775807
  | 0, _, _, h => by cases h
  | n + 1, k, x, h => by
    have h2 : (if k = ((q.getD n default).At, (q.getD n default).To) then some (Fu.addS (((sumM q n) ((q.getD n default).At, (q.getD n default).To)).getD 0) (tot (q.getD n default).Part)) else sumM q n k) = some x := h
    clear h
    split at h2
    · have h := h2
      have := Fu.addS_rng (((sumM q n) ((q.getD n default).At, (q.getD n default).To)).getD 0) (tot (q.getD n default).Part)
      simp only [Option.some.injEq] at h
      omega
    · exact sumM_rng q n k x h2
end Ft
