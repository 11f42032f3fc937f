/- Plain facts on a product's quotient, bit by bit: no program in sight. Conditions: none. -/
namespace Al
def bit : Nat → Nat
  | 0 => 0
  | i + 1 => 2 ^ i
theorem bit_half (i : Nat) : bit (i + 1) / 2 = bit i := by
  cases i with
  | zero => rfl
  | succ i => show 2 ^ (i + 1) / 2 = 2 ^ i; rw [Nat.pow_succ]; omega
theorem bit_pos {i : Nat} : 0 < bit i ↔ 0 < i := by
  cases i with
  | zero => simp [bit]
  | succ i => simp only [bit]; have := Nat.pow_pos (n := i) (a := 2) (by omega); omega
theorem bit_le : ∀ {i : Nat}, i ≤ 51 → bit i ≤ 1125899906842624
  | 0, _ => by simp [bit]
  | i + 1, h => by
    have : 2 ^ i ≤ 2 ^ 50 := Nat.pow_le_pow_right (by omega) (by omega)
    simp only [bit]; omega
theorem half_split (K i : Nat) : K / 2 ^ i = 2 * (K / 2 ^ (i + 1)) + K / 2 ^ i % 2 := by
  rw [Nat.pow_succ, ← Nat.div_div_eq_div_mul]; omega
theorem and_bit {K i : Nat} : K &&& bit (i + 1) = 0 ↔ K / 2 ^ i % 2 = 0 := by
  simp only [bit]
  have hb : K.testBit i = decide (K / 2 ^ i % 2 = 1) := Nat.testBit_eq_decide_div_mod_eq
  constructor
  · intro h
    have h2 : (K &&& 2 ^ i).testBit i = false := by rw [h]; exact Nat.zero_testBit i
    rw [Nat.testBit_and, Nat.testBit_two_pow_self, Bool.and_true, hb] at h2
    have := of_decide_eq_false h2
    omega
  · intro h
    refine Nat.eq_of_testBit_eq fun j => ?_
    rw [Nat.testBit_and, Nat.zero_testBit, Nat.testBit_two_pow]
    by_cases e : i = j
    · subst e; rw [hb, decide_eq_false (by omega)]; rfl
    · simp [e]
theorem div_mod' (a d : Int) : a / d * d + a % d = a := by
  have := Int.mul_ediv_add_emod a d
  rw [Int.mul_comm] at this; exact this
/-- one bit more -/
theorem sc_step {q r x d A : Int} {K i : Nat} (h : q * d + r = x * ((K / 2 ^ (i + 1) : Nat) : Int)) (hA : A = 2 * r + x * ((K / 2 ^ i % 2 : Nat) : Int)) : (2 * q + A / d) * d + A % d = x * ((K / 2 ^ i : Nat) : Int) := by
  have h1 := div_mod' A d
  have h2 : ((K / 2 ^ i : Nat) : Int) = 2 * ((K / 2 ^ (i + 1) : Nat) : Int) + ((K / 2 ^ i % 2 : Nat) : Int) := by
    have := half_split K i
    omega
  rw [h2, Int.add_mul, Int.mul_add, Int.mul_assoc 2 q d]
  have h3 : x * (2 * ((K / 2 ^ (i + 1) : Nat) : Int)) = 2 * (x * ((K / 2 ^ (i + 1) : Nat) : Int)) := by rw [Int.mul_left_comm]
  rw [h3, ← h]
  omega
theorem sc_le {q r x d : Int} {K i : Nat} {M : Int} (hd : 1 ≤ d) (hx : 0 ≤ x) (hr : 0 ≤ r) (h : q * d + r = x * ((K / 2 ^ i : Nat) : Int)) (hM : x * (K : Int) / d ≤ M) : q ≤ M := by
  have h1 : ((K / 2 ^ i : Nat) : Int) ≤ (K : Int) := by exact_mod_cast Nat.div_le_self _ _
  have h2 : x * ((K / 2 ^ i : Nat) : Int) ≤ x * (K : Int) := Int.mul_le_mul_of_nonneg_left h1 hx
  have h3 : q ≤ x * (K : Int) / d := Int.le_ediv_of_mul_le (by omega) (by omega)
  omega
theorem sc_end {q r x d : Int} {K : Nat} (hd : 1 ≤ d) (hr : 0 ≤ r ∧ r < d) (h : q * d + r = x * ((K / 2 ^ 0 : Nat) : Int)) : q = x * (K : Int) / d ∧ r = x * (K : Int) % d := by
  rw [Nat.pow_zero, Nat.div_one] at h
  have h2 := Int.ediv_emod_unique (a := x * (K : Int)) (b := d) (q := q) (r := r) (by omega)
  have h3 := h2.2 ⟨by rw [← h, Int.mul_comm]; omega, hr.1, hr.2⟩
  exact ⟨h3.1.symm, h3.2.symm⟩
theorem sc_start {K : Nat} {x d : Int} (hK : K ≤ 1125899906842624) : 0 * d + 0 = x * ((K / 2 ^ 51 : Nat) : Int) := by
  have : K / 2 ^ 51 = 0 := Nat.div_eq_of_lt (by omega)
  rw [this]; simp
end Al
