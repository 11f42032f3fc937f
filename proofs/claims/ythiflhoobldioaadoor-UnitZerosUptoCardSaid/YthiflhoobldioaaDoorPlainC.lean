/- Plain facts for the laws on sums and ratios of amounts. Conditions: those of each theorem. -/
import Derived.Test.YthiflhoobldioaaDoorPlainB
namespace Un
open Go
theorem amt_le (l n : List UInt8) : (amt l n).1 ≤ M ∧ (amt l n).2.1 ≤ 6 := by
  unfold amt
  split
  · split
    · exact ⟨Nat.zero_le _, Nat.zero_le _⟩
    · rename_i m hm
      split
      · rename_i h; exact ⟨h.2, (ms_facts m (look_mem hm).1).1⟩
      · exact ⟨Nat.zero_le _, Nat.zero_le _⟩
  · exact ⟨Nat.zero_le _, Nat.zero_le _⟩
/-- an amount of a whole number that exists -/
theorem amt_ok {u : Nat} (hu : u < 10 ^ 20) {n : List UInt8} (h : (amt (Lib.decDigits u) n).2.2 = 0) : ∃ m, look n = some m ∧ u * m.2.2.1 % m.2.2.2 = 0 ∧ u * m.2.2.1 / m.2.2.2 ≤ M ∧ amt (Lib.decDigits u) n = (u * m.2.2.1 / m.2.2.2, m.2.1, 0) := by
  rw [amt_dec hu] at h ⊢
  cases hl : look n with
  | none => rw [hl] at h; simp at h
  | some m =>
    rw [hl] at h
    simp only at h ⊢
    by_cases hc : u * m.2.2.1 % m.2.2.2 = 0 ∧ u * m.2.2.1 / m.2.2.2 ≤ M
    · exact ⟨m, rfl, hc.1, hc.2, by rw [if_pos hc]⟩
    · rw [if_neg hc] at h; simp at h
theorem adds {p q : Nat} (hp : p ≤ 1099511627776) (hq : q ≤ 1099511627776) {n : List UInt8} (h1 : (amt (Lib.decDigits p) n).2.2 = 0) (h2 : (amt (Lib.decDigits q) n).2.2 = 0) :
    (amt (Lib.decDigits p) n).2.1 = (amt (Lib.decDigits q) n).2.1 ∧
    (M < (amt (Lib.decDigits p) n).1 + (amt (Lib.decDigits q) n).1 → (amt (Lib.decDigits (p + q)) n).2.2 = 7) ∧
    ((amt (Lib.decDigits p) n).1 + (amt (Lib.decDigits q) n).1 ≤ M → (amt (Lib.decDigits (p + q)) n).2.2 = 0 ∧ (amt (Lib.decDigits (p + q)) n).1 = (amt (Lib.decDigits p) n).1 + (amt (Lib.decDigits q) n).1 ∧ (amt (Lib.decDigits (p + q)) n).2.1 = (amt (Lib.decDigits p) n).2.1) := by
  obtain ⟨m, hm, a1, a2, a3⟩ := amt_ok (by omega) h1
  obtain ⟨m', hm', b1, b2, b3⟩ := amt_ok (by omega) h2
  rw [hm] at hm'
  obtain rfl := Option.some.inj hm'
  have hd := (ms_facts m (look_mem hm).1).2.2.2.1
  rw [a3, b3, amt_dec (by omega), hm]
  simp only
  have e1 : (p + q) * m.2.2.1 / m.2.2.2 = p * m.2.2.1 / m.2.2.2 + q * m.2.2.1 / m.2.2.2 := by
    have e0 : p * m.2.2.1 = m.2.2.2 * (p * m.2.2.1 / m.2.2.2) := by
      have := Nat.div_add_mod (p * m.2.2.1) m.2.2.2
      rw [a1] at this; omega
    rw [Nat.add_mul]
    conv => lhs; rw [e0]
    rw [Nat.mul_add_div (by omega)]
  have e2 : (p + q) * m.2.2.1 % m.2.2.2 = 0 := by rw [Nat.add_mul, Nat.add_mod, a1, b1]; simp
  rw [e1, e2]
  refine ⟨trivial, fun hM => ?_, fun hM => ?_⟩
  · rw [if_neg (by omega)]
  · rw [if_pos ⟨rfl, hM⟩]; exact ⟨rfl, rfl, rfl⟩
/-- the digits of a product -/
def prL (n k z : Nat) : List Int := tim (tim (0 :: 0 :: dl (Lib.decDigits n)) k) 1 ++ List.replicate z 0
theorem dgs_dec (n : Nat) : Dgs (dl (Lib.decDigits n)) := dgs_dl (dec_all n)
theorem nv_two (l : List Int) : nv (0 :: 0 :: l) = nv l := by rw [nv_cons, nv_cons]; simp
theorem prL_facts {n k z : Nat} (hk : k ≤ 1000) : Dgs (prL n k z) ∧ (prL n k z).length = (Lib.decDigits n).length + 6 + z ∧ nv (prL n k z) = ((n * k * 10 ^ z : Nat) : Int) := by
  have hd := dgs_two (dgs_dec n)
  have hv : nv (0 :: 0 :: dl (Lib.decDigits n)) = (n : Int) := by rw [nv_two, nv_dl, val_dec]
  have hlt := nv_lt (dgs_dec n)
  rw [nv_dl, val_dec] at hlt
  have h1 : nv (tim (0 :: 0 :: dl (Lib.decDigits n)) k) = (n : Int) * k := by
    rw [tim_val hd (by omega) ?_, hv]
    rw [hv]
    have e : (0 :: 0 :: dl (Lib.decDigits n)).length + 2 = (dl (Lib.decDigits n)).length + 4 := by simp
    rw [e, Int.pow_add]
    have h2 : (n : Int) * k ≤ (n : Int) * 1000 := Int.mul_le_mul_of_nonneg_left (by omega) (by omega)
    generalize (10 : Int) ^ (dl (Lib.decDigits n)).length = P at *
    omega
  have hl1 : (tim (0 :: 0 :: dl (Lib.decDigits n)) k).length = (Lib.decDigits n).length + 4 := by rw [tim_len]; simp [dl_len]
  have h3 : nv (tim (tim (0 :: 0 :: dl (Lib.decDigits n)) k) 1) = (n : Int) * k := by
    rw [tim_val tim_dgs (by omega) ?_, h1, Int.mul_one]
    rw [Int.mul_one]
    have := nv_lt (tim_dgs (l := 0 :: 0 :: dl (Lib.decDigits n)) (k := (k : Int)))
    have h4 : (10 : Int) ^ (tim (0 :: 0 :: dl (Lib.decDigits n)) k).length ≤ 10 ^ ((tim (0 :: 0 :: dl (Lib.decDigits n)) k).length + 2) := by
      rw [Int.pow_add]
      have hp : (0 : Int) < 10 ^ (tim (0 :: 0 :: dl (Lib.decDigits n)) k).length := Int.pow_pos (by omega)
      omega
    omega
  refine ⟨dgs_app tim_dgs (dgs_zeros z), ?_, ?_⟩
  · unfold prL; rw [List.length_append, tim_len, hl1, List.length_replicate]
  · unfold prL
    rw [nv_append, nv_zeros, h3, List.length_replicate]
    push_cast; simp
theorem nv_inj : ∀ {l r : List Int}, Dgs l → Dgs r → l.length = r.length → nv l = nv r → l = r
  | [], [], _, _, _, _ => rfl
  | [], _ :: _, _, _, h, _ => by simp at h
  | _ :: _, [], _, _, h, _ => by simp at h
  | x :: l, y :: r, hl, hr, h, e => by
    have hl' : Dgs l := fun z hz => hl z (by simp [hz])
    have hr' : Dgs r := fun z hz => hr z (by simp [hz])
    have hlen : l.length = r.length := by simpa using h
    rw [nv_cons, nv_cons, hlen] at e
    have a1 := nv_nonneg hl'
    have a2 := nv_lt hl'
    have b1 := nv_nonneg hr'
    have b2 := nv_lt hr'
    rw [hlen] at a2
    have hp : (0 : Int) < 10 ^ r.length := Int.pow_pos (by omega)
    generalize (10 : Int) ^ r.length = P at *
    have hxy : x = y := by
      rcases Int.lt_trichotomy x y with h1 | h1 | h1
      · have : (x + 1) * P ≤ y * P := Int.mul_le_mul_of_nonneg_right (by omega) (by omega)
        rw [Int.add_mul, Int.one_mul] at this; omega
      · exact h1
      · have : (y + 1) * P ≤ x * P := Int.mul_le_mul_of_nonneg_right (by omega) (by omega)
        rw [Int.add_mul, Int.one_mul] at this; omega
    subst hxy
    rw [nv_inj hl' hr' hlen (by omega)]
theorem nv_zero (l : List Int) : nv (0 :: l) = nv l := by rw [nv_cons]; simp
theorem dgs_zero {l : List Int} (h : Dgs l) : Dgs (0 :: l) := fun x hx => by
  rcases List.mem_cons.1 hx with rfl | hx
  · omega
  · exact h x hx
theorem getD_extI {l r : List Int} (hl : l.length = r.length) (h : ∀ i, i < r.length → l.getD i 0 = r.getD i 0) : l = r := by
  apply List.ext_getElem hl
  intro i h1 h2
  have := h i h2
  simpa [List.getD_eq_getElem?_getD, h1, h2] using this
theorem ratio {u : Nat} (hu : u ≤ 1099511627776) {n1 n2 : List UInt8} (h1 : (amt (Lib.decDigits u) n1).2.2 = 0) (h2 : (amt (Lib.decDigits u) n2).2.2 = 0) :
    ∃ m1 m2, fac n1 = some m1 ∧ fac n2 = some m2 ∧ m1.2.2.1 * m2.2.2.2.2 ≤ 1000 ∧ m2.2.2.1 * m1.2.2.2.2 ≤ 1000 ∧ m1.2.2.2.1 ≤ 9 ∧ m2.2.2.2.1 ≤ 9 ∧
      nv (prL (amt (Lib.decDigits u) n2).1 (m1.2.2.1 * m2.2.2.2.2) m1.2.2.2.1) = nv (prL (amt (Lib.decDigits u) n1).1 (m2.2.2.1 * m1.2.2.2.2) m2.2.2.2.1) := by
  obtain ⟨k1, g1, a1, a2, a3⟩ := amt_ok (by omega) h1
  obtain ⟨k2, g2, b1, b2, b3⟩ := amt_ok (by omega) h2
  rw [look_fac] at g1 g2
  obtain ⟨m1, f1, rfl⟩ := Option.map_eq_some_iff.1 g1
  obtain ⟨m2, f2, rfl⟩ := Option.map_eq_some_iff.1 g2
  obtain ⟨_, _, c1, z1, _, e1⟩ := facs_facts m1 (fac_mem f1).1
  obtain ⟨_, _, c2, z2, _, e2⟩ := facs_facts m2 (fac_mem f2).1
  have hk1 : m1.2.2.1 * m2.2.2.2.2 ≤ 36 * 24 := Nat.mul_le_mul c1 e2
  have hk2 : m2.2.2.1 * m1.2.2.2.2 ≤ 36 * 24 := Nat.mul_le_mul c2 e1
  refine ⟨m1, m2, f1, f2, by omega, by omega, z1, z2, ?_⟩
  rw [(prL_facts (by omega)).2.2, (prL_facts (by omega)).2.2, a3, b3]
  simp only [fm] at a1 b1 ⊢
  have ha := Nat.div_mul_cancel (Nat.dvd_of_mod_eq_zero a1)
  have hb := Nat.div_mul_cancel (Nat.dvd_of_mod_eq_zero b1)
  generalize u * (m1.2.2.1 * 10 ^ m1.2.2.2.1) / m1.2.2.2.2 = A at *
  generalize u * (m2.2.2.1 * 10 ^ m2.2.2.2.1) / m2.2.2.2.2 = B at *
  have l1 : B * (m1.2.2.1 * m2.2.2.2.2) * 10 ^ m1.2.2.2.1 = (B * m2.2.2.2.2) * (m1.2.2.1 * 10 ^ m1.2.2.2.1) := by
    rw [Nat.mul_comm m1.2.2.1, ← Nat.mul_assoc, Nat.mul_assoc]
  have l2 : A * (m2.2.2.1 * m1.2.2.2.2) * 10 ^ m2.2.2.2.1 = (A * m1.2.2.2.2) * (m2.2.2.1 * 10 ^ m2.2.2.2.1) := by
    rw [Nat.mul_comm m2.2.2.1, ← Nat.mul_assoc, Nat.mul_assoc]
  rw [l1, l2, ha, hb, Nat.mul_right_comm]
end Un
