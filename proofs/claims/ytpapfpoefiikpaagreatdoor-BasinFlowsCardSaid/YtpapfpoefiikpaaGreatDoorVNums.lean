/- Lemmas. Conditions: those of each theorem. -/

namespace Go.K.Nums
theorem mul_half (q y1 y0 B : Nat) : q * (y1 * B + y0) = q * y1 * B + q * y0 := by rw [Nat.mul_add, Nat.mul_assoc]
theorem kn_first {y y1 y0 u d B : Nat} (hy : y = y1 * B + y0) (h1 : 0 < y1) (hd : d < B) : (u * B + d) / y ≤ u / y1 := by
  have hy0 : 0 < y := by
    subst hy
    rcases Nat.eq_zero_or_pos B with h | h
    · omega
    · have := Nat.mul_pos h1 h; omega
  have hQ : (u * B + d) / y * y ≤ u * B + d := Nat.div_mul_le_self _ _
  generalize (u * B + d) / y = Q at hQ ⊢
  rw [Nat.le_div_iff_mul_le h1]
  rw [hy, mul_half] at hQ
  have h2 : Q * y1 * B < (u + 1) * B := by rw [Nat.add_mul, Nat.one_mul]; omega
  have := Nat.lt_of_mul_lt_mul_right h2
  omega
theorem kn_down {y y1 y0 u d q r B : Nat} (hy : y = y1 * B + y0) (h : q * y1 + r = u) (hu : u < y) (hd : d < B) (_ : (u * B + d) / y ≤ q) (hc : B ≤ q ∨ B * r + d < q * y0) : 1 ≤ q ∧ (u * B + d) / y ≤ q - 1 := by
  have hlt : (u * B + d) / y < q := by
    rw [Nat.div_lt_iff_lt_mul (by omega)]
    rcases hc with hc | hc
    · have h1 : (u + 1) * B ≤ y * B := Nat.mul_le_mul_right _ hu
      have h2 : B * y ≤ q * y := Nat.mul_le_mul_right _ hc
      rw [Nat.add_mul, Nat.one_mul] at h1
      rw [Nat.mul_comm B y] at h2
      omega
    · have e1 : (q * y1 + r) * B = q * y1 * B + B * r := by rw [Nat.add_mul, Nat.mul_comm r B]
      have e2 := mul_half q y1 y0 B
      rw [hy, e2, ← h, e1]
      omega
  exact ⟨Nat.lt_of_le_of_lt (Nat.zero_le _) hlt, Nat.le_sub_one_of_lt hlt⟩
theorem kn_end {y y1 y0 u d q r B : Nat} (hy : y = y1 * B + y0) (h : q * y1 + r = u) (hu : u < y) (hQ : (u * B + d) / y ≤ q) (hc : q * y0 ≤ B * r + d) : q = (u * B + d) / y := by
  have h1 : q ≤ (u * B + d) / y := by
    have e1 : (q * y1 + r) * B = q * y1 * B + B * r := by rw [Nat.add_mul, Nat.mul_comm r B]
    rw [Nat.le_div_iff_mul_le (by omega), hy, mul_half, ← h, e1]
    omega
  omega
theorem kn_break {y0 q r d : Nat} (h0 : y0 < 4294967296) (hq : q ≤ 4294967296) (hr : 4294967296 ≤ r) : q * y0 ≤ 4294967296 * r + d := by
  have h1 : q * y0 ≤ 4294967296 * 4294967295 := Nat.mul_le_mul hq (by omega)
  omega
theorem kn_top {y y1 y0 u B : Nat} (hy : y = y1 * B + y0) (h0 : y0 < B) (hB : B ≤ 2 * y1) (hu : u < y) (h1 : 0 < y1) : u / y1 ≤ B + 1 := by
  rw [Nat.div_le_iff_le_mul_add_pred h1]
  have : (B + 1) * y1 = y1 * B + y1 := by rw [Nat.add_mul, Nat.one_mul, Nat.mul_comm]
  have h2 : y1 * (B + 1) = y1 * B + y1 := by rw [Nat.mul_add, Nat.mul_one]
  omega
theorem kn_rest {u d y B M : Nat} (hy : 0 < y) (hyM : y ≤ M) : ((((u * B) % M + d) % M : Nat) : Int) = (((u * B + d) % M : Nat) : Int) ∧ ((((u * B + d) % M : Nat) : Int) - ((((u * B + d) / y * y) % M : Nat) : Int)) % (M : Int) = (((u * B + d) % y : Nat) : Int) := by
  refine ⟨by rw [Nat.mod_add_mod], ?_⟩
  have h1 : u * B + d = (u * B + d) / y * y + (u * B + d) % y := (Nat.div_add_mod' _ _).symm
  have h2 : (u * B + d) % y < y := Nat.mod_lt _ hy
  generalize hr : (u * B + d) % y = r at *
  generalize hq : (u * B + d) / y * y = p at *
  rw [h1]
  rw [Int.natCast_emod, Int.natCast_emod]
  rw [← Int.sub_emod]
  rw [show (((p + r : Nat) : Int) - (p : Int)) = (r : Int) by omega]
  exact Int.emod_eq_of_lt (by omega) (by omega)
theorem div_join {n d2 y q1 r1 B : Nat} (h : n = q1 * y + r1) : n * B + d2 = (q1 * B + (r1 * B + d2) / y) * y + (r1 * B + d2) % y := by
  have h1 : r1 * B + d2 = (r1 * B + d2) / y * y + (r1 * B + d2) % y := (Nat.div_add_mod' _ _).symm
  subst h
  rw [Nat.add_mul, Nat.add_mul, Nat.mul_assoc q1 B y, Nat.mul_comm B y, ← Nat.mul_assoc q1 y B]
  omega
theorem div_of {n q y r : Nat} (h : n = q * y + r) (hr : r < y) : n / y = q ∧ n % y = r := by
  subst h
  have hy : 0 < y := by omega
  constructor
  · rw [Nat.mul_comm, Nat.mul_add_div hy, Nat.div_eq_of_lt hr]; rfl
  · rw [Nat.mul_comm, Nat.mul_add_mod, Nat.mod_eq_of_lt hr]
theorem scaled {n y p q r : Nat} (hp : 0 < p) (h : n * p = q * (y * p) + r) (hr : r < y * p) : n / y = q ∧ n % y = r / p := by
  obtain ⟨h1, h2⟩ := div_of h hr
  refine ⟨by rw [← h1, Nat.mul_div_mul_right _ _ hp], ?_⟩
  rw [← h2, Nat.mul_mod_mul_right, Nat.mul_div_cancel _ hp]
theorem shifted {hi lo s : Nat} (hs : s ≤ 64) : (hi * 18446744073709551616 + lo) * 2 ^ s = (hi * 2 ^ s + lo / 2 ^ (64 - s)) * 18446744073709551616 + lo * 2 ^ s % 18446744073709551616 := by
  have hM : (18446744073709551616 : Nat) = 2 ^ (64 - s) * 2 ^ s := by rw [← Nat.pow_add, show 64 - s + s = 64 by omega]
  have hps : 0 < 2 ^ s := Nat.two_pow_pos s
  have e1 : lo * 2 ^ s / 18446744073709551616 = lo / 2 ^ (64 - s) := by rw [hM, Nat.mul_div_mul_right _ _ hps]
  have e2 := Nat.div_add_mod (lo * 2 ^ s) 18446744073709551616
  rw [e1] at e2
  rw [Nat.add_mul, Nat.add_mul, Nat.mul_right_comm]
  omega
theorem le_of_lz {y L : Nat} (h1 : 2 ^ (L - 1) ≤ y) (h2 : y < 2 ^ L) (hL : 1 ≤ L) (h64 : L ≤ 64) : 9223372036854775808 ≤ y * 2 ^ (64 - L) ∧ y * 2 ^ (64 - L) < 18446744073709551616 := by
  have hp : 0 < 2 ^ (64 - L) := Nat.two_pow_pos _
  have e1 : 2 ^ (L - 1) * 2 ^ (64 - L) = 9223372036854775808 := by rw [← Nat.pow_add, show L - 1 + (64 - L) = 63 by omega]
  have e2 : 2 ^ L * 2 ^ (64 - L) = 18446744073709551616 := by rw [← Nat.pow_add, show L + (64 - L) = 64 by omega]
  exact ⟨by rw [← e1]; exact Nat.mul_le_mul_right _ h1, by rw [← e2]; exact Nat.mul_lt_mul_of_pos_right h2 hp⟩
theorem div128 {hi lo y s u v y' Q1 r1 Q0 : Nat} (hs : s ≤ 64) (hy' : y' = y * 2 ^ s) (hu : u = hi * 2 ^ s + lo / 2 ^ (64 - s)) (hv : v = lo * 2 ^ s % 18446744073709551616) (hy : 0 < y)
    (h1 : Q1 = (u * 4294967296 + v / 4294967296) / y') (hr1 : r1 = (u * 4294967296 + v / 4294967296) % y') (h0 : Q0 = (r1 * 4294967296 + v % 4294967296) / y') :
    (hi * 18446744073709551616 + lo) / y = Q1 * 4294967296 + Q0 ∧ (hi * 18446744073709551616 + lo) % y = (r1 * 4294967296 + v % 4294967296) % y' / 2 ^ s := by
  have hps : 0 < 2 ^ s := Nat.two_pow_pos s
  have hy0 : 0 < y' := by rw [hy']; exact Nat.mul_pos hy hps
  have e1 : u * 4294967296 + v / 4294967296 = Q1 * y' + r1 := by rw [h1, hr1]; exact (Nat.div_add_mod' _ _).symm
  have e2 := div_join (d2 := v % 4294967296) (B := 4294967296) e1
  rw [← h0] at e2
  have e3 : (u * 4294967296 + v / 4294967296) * 4294967296 + v % 4294967296 = (hi * 18446744073709551616 + lo) * 2 ^ s := by
    rw [shifted hs, ← hu, ← hv]
    have e4 := Nat.div_add_mod' v 4294967296
    have e5 : (u * 4294967296 + v / 4294967296) * 4294967296 = u * 18446744073709551616 + v / 4294967296 * 4294967296 := by rw [Nat.add_mul, Nat.mul_assoc]
    rw [e5, Nat.add_assoc, e4]
  rw [e3, hy'] at e2
  have h3 := scaled hps e2 (by rw [← hy']; exact Nat.mod_lt _ hy0)
  rw [hy']
  exact h3
end Go.K.Nums
