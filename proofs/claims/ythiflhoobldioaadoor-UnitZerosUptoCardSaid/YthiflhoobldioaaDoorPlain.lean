/- Plain facts for the layer of units: numbers as digits, amounts. Conditions: those of each theorem. -/
import Derived.Lib.IndexMore
import Derived.Lib.ItoaNum
namespace Un
open Go
def M : Nat := 1125899906842624
def isD (b : UInt8) : Bool := decide (48 ≤ b.toNat) && decide (b.toNat ≤ 57)
def dg (b : UInt8) : Nat := b.toNat - 48
theorem dg_le {b : UInt8} (h : isD b = true) : dg b ≤ 9 := by
  simp only [isD, Bool.and_eq_true, decide_eq_true_eq] at h
  unfold dg; omega
def stepV (n : Nat) (b : UInt8) : Nat := 10 * n + dg b
def val (l : List UInt8) : Nat := l.foldl stepV 0
def stepC (n : Nat) (b : UInt8) : Nat := min (10 * n + dg b) (M + 1)
/-- the value, or M + 1 if it is greater than M -/
def valC (l : List UInt8) : Nat := l.foldl stepC 0
theorem foldC (l : List UInt8) : ∀ n, l.foldl stepC (min n (M + 1)) = min (l.foldl stepV n) (M + 1) := by
  induction l with
  | nil => intro n; rfl
  | cons b l ih =>
    intro n
    rw [List.foldl_cons, List.foldl_cons, ← ih]
    congr 1
    unfold stepC stepV M; omega
theorem valC_eq (l : List UInt8) : valC l = min (val l) (M + 1) := by
  have := foldC l 0
  rwa [show min 0 (M + 1) = 0 by unfold M; omega] at this
theorem valC_snoc (l : List UInt8) (b : UInt8) : valC (l ++ [b]) = min (10 * valC l + dg b) (M + 1) := by
  unfold valC; rw [List.foldl_append]; rfl
theorem foldV (l : List UInt8) : ∀ n, l.foldl stepV n = n * 10 ^ l.length + val l := by
  induction l with
  | nil => intro n; simp [val]
  | cons b l ih =>
    intro n
    have h := ih (stepV 0 b)
    unfold val
    rw [List.foldl_cons, List.foldl_cons, ih, h]
    simp only [stepV, List.length_cons, Nat.pow_succ, Nat.mul_zero, Nat.zero_add, Nat.add_mul]
    rw [Nat.mul_comm 10 n, Nat.mul_assoc, Nat.mul_comm 10 (10 ^ l.length)]
    omega
theorem val_append (l r : List UInt8) : val (l ++ r) = val l * 10 ^ r.length + val r := by
  unfold val; rw [List.foldl_append]; exact foldV r _
theorem val_snoc (l : List UInt8) (b : UInt8) : val (l ++ [b]) = 10 * val l + dg b := by
  unfold val; rw [List.foldl_append]; rfl
theorem val_lt {l : List UInt8} (h : ∀ b ∈ l, isD b = true) : val l < 10 ^ l.length := by
  induction l with
  | nil => simp [val]
  | cons b l ih =>
    have h1 := ih (fun x hx => h x (by simp [hx]))
    have h2 := dg_le (h b (by simp))
    have e : val (b :: l) = dg b * 10 ^ l.length + val l := by
      have := foldV l (stepV 0 b)
      unfold val; rw [List.foldl_cons, this]; simp [stepV, val]
    have h3 : dg b * 10 ^ l.length ≤ 9 * 10 ^ l.length := Nat.mul_le_mul_right _ h2
    rw [e, List.length_cons, Nat.pow_succ]
    omega
/-! ### the parts of a number -/
def bef : List UInt8 → List UInt8
  | [] => []
  | b :: l => if b = 46 then [] else b :: bef l
def aft : List UInt8 → List UInt8
  | [] => []
  | b :: l => if b = 46 then l else aft l
def pt : List UInt8 → Bool
  | [] => false
  | b :: l => if b = 46 then true else pt l
theorem index_dot : ∀ l : List UInt8, Lib.index l [46] = if pt l then ((bef l).length : Int) else -1
  | [] => rfl
  | b :: l => by
    unfold Lib.index pt bef
    by_cases hb : b = 46
    · subst hb; simp [List.isPrefixOf]
    · have hb' : ((46 : UInt8) == b) = false := by simpa using Ne.symm hb
      rw [index_dot l]
      cases hp : pt l
      · simp [List.isPrefixOf, hb', hb]
      · simp only [List.isPrefixOf, hb', hb, if_true, if_false, Bool.false_and, Bool.false_eq_true, List.length_cons]
        rw [if_neg (by simp)]
        omega
theorem bef_pt : ∀ {l : List UInt8}, pt l = true → l = bef l ++ 46 :: aft l
  | [], h => by cases h
  | b :: l, h => by
    unfold pt at h
    unfold bef aft
    by_cases hb : b = 46
    · subst hb; simp
    · rw [if_neg hb] at h ⊢
      rw [if_neg hb]
      rw [List.cons_append, ← bef_pt h]
theorem bef_np : ∀ {l : List UInt8}, pt l = false → bef l = l ∧ aft l = []
  | [], _ => ⟨rfl, rfl⟩
  | b :: l, h => by
    unfold pt at h
    unfold bef aft
    by_cases hb : b = 46
    · subst hb; simp at h
    · rw [if_neg hb] at h ⊢
      rw [if_neg hb, (bef_np h).1, (bef_np h).2]; exact ⟨rfl, rfl⟩
theorem cut_dot (l : List UInt8) : Lib.cut l [46] = (bef l, aft l, pt l) := by
  unfold Lib.cut
  rw [index_dot]
  cases hp : pt l
  · rw [if_neg Bool.false_ne_true, if_neg (by omega), (bef_np hp).1, (bef_np hp).2]
  · have h := bef_pt hp
    rw [if_pos rfl, if_pos (by omega)]
    simp only [Int.toNat_natCast, List.length_cons, List.length_nil]
    have e1 : ∀ (x y : List UInt8), l = x ++ 46 :: y → l.take x.length = x ∧ l.drop (x.length + (0 + 1)) = y := fun x y e => by
      subst e; simp
    obtain ⟨h1, h2⟩ := e1 _ _ h
    exact Prod.ext h1 (Prod.ext h2 rfl)
theorem np_app {p r : List UInt8} (h : pt p = false) : bef (p ++ r) = p ++ bef r ∧ aft (p ++ r) = aft r ∧ pt (p ++ r) = pt r := by
  induction p with
  | nil => exact ⟨rfl, rfl, rfl⟩
  | cons b p ih =>
    unfold pt at h
    by_cases hb : b = 46
    · subst hb; simp at h
    · rw [if_neg hb] at h
      obtain ⟨h1, h2, h3⟩ := ih h
      simp only [List.cons_append, bef, aft, pt, if_neg hb, h1, h2, h3, and_self]
theorem pt_app {p r : List UInt8} (h : pt p = true) : bef (p ++ r) = bef p ∧ aft (p ++ r) = aft p ++ r ∧ pt (p ++ r) = true := by
  induction p with
  | nil => cases h
  | cons b p ih =>
    unfold pt at h
    by_cases hb : b = 46
    · subst hb; simp [bef, aft, pt]
    · rw [if_neg hb] at h
      obtain ⟨h1, h2, h3⟩ := ih h
      simp only [List.cons_append, bef, aft, pt, if_neg hb, h1, h2, h3, and_self]
def digs (l : List UInt8) (k : Int) : Bool := l.all isD && decide (1 ≤ l.length) && decide ((l.length : Int) ≤ k)
def okF (l : List UInt8) : Bool := digs (bef l) 20 && (!pt l || digs (aft l) 9)
/-! ### units -/
def ms : List (List UInt8 × Nat × Nat × Nat) := [([], 0, 1, 1), ([108], 1, 1, 1), ([109, 51], 1, 1000, 1), ([77, 76], 1, 1000000, 1), ([71, 76], 1, 1000000000, 1), ([108, 112, 104], 2, 1, 1), ([108, 112, 115], 2, 3600, 1), ([109, 51, 112, 115], 2, 3600000, 1), ([77, 76, 112, 100], 2, 1000000, 24), ([109, 109], 3, 1, 1), ([99, 109], 3, 10, 1), ([109], 3, 1000, 1), ([104], 4, 1, 1), ([100], 4, 24, 1), ([109, 50], 5, 1, 1), ([104, 97], 5, 10000, 1), ([107, 109, 50], 5, 1000000, 1), ([112, 101, 114, 109, 105, 108, 108, 101], 6, 1, 1), ([112, 101, 114, 99, 101, 110, 116], 6, 10, 1)]
def look (n : List UInt8) : Option (List UInt8 × Nat × Nat × Nat) := ms.find? fun m => decide (m.1 = n)
/-- the amount of a number and a unit: number, dimension, error -/
def amt (l n : List UInt8) : Nat × Nat × Nat :=
  if okF l then match look n with
    | none => (0, 0, 6)
    | some m => if val (bef l ++ aft l) * m.2.2.1 % (10 ^ (aft l).length * m.2.2.2) = 0 ∧ val (bef l ++ aft l) * m.2.2.1 / (10 ^ (aft l).length * m.2.2.2) ≤ M then (val (bef l ++ aft l) * m.2.2.1 / (10 ^ (aft l).length * m.2.2.2), m.2.1, 0) else (0, 0, 7)
  else (0, 0, 2)
theorem ms_facts : ∀ m ∈ ms, m.2.1 ≤ 6 ∧ 1 ≤ m.2.2.1 ∧ m.2.2.1 ≤ 1000000000 ∧ 1 ≤ m.2.2.2 ∧ m.2.2.2 ≤ 24 ∧ m.2.2.2 ≤ m.2.2.1 := by decide
theorem look_mem {n : List UInt8} {m} (h : look n = some m) : m ∈ ms ∧ m.1 = n := by
  unfold look at h
  exact ⟨List.mem_of_find?_eq_some h, by simpa using List.find?_some h⟩
/-- a whole part that is too great makes the amount too great -/
theorem too_great {W F num D f : Nat} (hw : M < W) (hn : D ≤ num) (hD : 1 ≤ D) : ¬ (W * 10 ^ f + F) * num / (10 ^ f * D) ≤ M := by
  intro h
  have hp : 0 < 10 ^ f := Nat.pow_pos (by omega)
  have hd : 0 < 10 ^ f * D := Nat.mul_pos hp hD
  have h1 : W * (10 ^ f * D) ≤ (W * 10 ^ f + F) * num := by
    calc W * (10 ^ f * D) = W * 10 ^ f * D := by rw [Nat.mul_assoc]
      _ ≤ W * 10 ^ f * num := Nat.mul_le_mul_left _ hn
      _ ≤ (W * 10 ^ f + F) * num := Nat.mul_le_mul_right _ (by omega)
  have h2 := (Nat.le_div_iff_mul_le hd).2 h1
  omega
/-! ### lists of digits -/
def nvs (n x : Int) : Int := 10 * n + x
def nv (l : List Int) : Int := l.foldl nvs 0
theorem foldN (l : List Int) : ∀ n, l.foldl nvs n = n * 10 ^ l.length + nv l := by
  induction l with
  | nil => intro n; simp [nv]
  | cons b l ih =>
    intro n
    have h := ih (nvs 0 b)
    unfold nv
    rw [List.foldl_cons, List.foldl_cons, ih, h]
    simp only [nvs, List.length_cons, Int.pow_succ, Int.mul_zero, Int.zero_add, Int.add_mul]
    rw [Int.mul_comm 10 n, Int.mul_assoc, Int.mul_comm 10 (10 ^ l.length)]
    omega
theorem nv_append (l r : List Int) : nv (l ++ r) = nv l * 10 ^ r.length + nv r := by
  unfold nv; rw [List.foldl_append]; exact foldN r _
theorem nv_snoc (l : List Int) (x : Int) : nv (l ++ [x]) = 10 * nv l + x := by
  unfold nv; rw [List.foldl_append]; rfl
theorem nv_cons (x : Int) (l : List Int) : nv (x :: l) = x * 10 ^ l.length + nv l := by
  have := foldN l (nvs 0 x)
  unfold nv; rw [List.foldl_cons, this]; simp [nvs, nv]
def Dgs (l : List Int) : Prop := ∀ x ∈ l, 0 ≤ x ∧ x ≤ 9
theorem nv_dg (l : List UInt8) : nv (l.map fun b => (dg b : Int)) = (val l : Int) := by
  have key : ∀ (l : List UInt8) (n : Nat), (l.map fun b => (dg b : Int)).foldl nvs n = ((l.foldl stepV n : Nat) : Int) := by
    intro l
    induction l with
    | nil => intro n; rfl
    | cons b l ih =>
      intro n
      rw [List.map_cons, List.foldl_cons, List.foldl_cons, ← ih]
      congr 1
  exact key l 0
theorem dgs_map {l : List UInt8} (h : ∀ b ∈ l, isD b = true) : Dgs (l.map fun b => (dg b : Int)) := fun x hx => by
  obtain ⟨b, hb, rfl⟩ := List.mem_map.1 hx
  have := dg_le (h b hb)
  omega
theorem dgs_app {l r : List Int} (hl : Dgs l) (hr : Dgs r) : Dgs (l ++ r) := fun x hx => (List.mem_append.1 hx).elim (hl x) (hr x)
theorem nv_nonneg {l : List Int} (h : Dgs l) : 0 ≤ nv l := by
  induction l with
  | nil => simp [nv]
  | cons x l ih =>
    have h1 := ih (fun y hy => h y (by simp [hy]))
    have h2 := (h x (by simp)).1
    rw [nv_cons]
    have : 0 ≤ x * (10 : Int) ^ l.length := Int.mul_nonneg h2 (Int.le_of_lt (Int.pow_pos (by omega)))
    omega
theorem nv_lt {l : List Int} (h : Dgs l) : nv l < 10 ^ l.length := by
  induction l with
  | nil => simp [nv]
  | cons x l ih =>
    have h1 := ih (fun y hy => h y (by simp [hy]))
    have h2 := (h x (by simp)).2
    rw [nv_cons, List.length_cons, Int.pow_succ]
    have : x * (10 : Int) ^ l.length ≤ 9 * 10 ^ l.length := Int.mul_le_mul_of_nonneg_right h2 (Int.le_of_lt (Int.pow_pos (by omega)))
    omega
/-- a list of digits times a small number: the digits, and what is carried -/
def tm (l : List Int) (k : Int) : List Int × Int := l.foldr (fun x a => ((x * k + a.2) % 10 :: a.1, (x * k + a.2) / 10)) ([], 0)
theorem tm_cons (x : Int) (l : List Int) (k : Int) : tm (x :: l) k = ((x * k + (tm l k).2) % 10 :: (tm l k).1, (x * k + (tm l k).2) / 10) := rfl
theorem tm_len (l : List Int) (k : Int) : (tm l k).1.length = l.length := by
  induction l with
  | nil => rfl
  | cons x l ih => rw [tm_cons, List.length_cons, List.length_cons, ih]
theorem tm_car {l : List Int} {k : Int} (h : Dgs l) (hk : 0 ≤ k) : 0 ≤ (tm l k).2 ∧ (tm l k).2 ≤ k := by
  induction l with
  | nil => exact ⟨Int.le_refl _, hk⟩
  | cons x l ih =>
    obtain ⟨h1, h2⟩ := ih (fun y hy => h y (by simp [hy]))
    obtain ⟨h3, h4⟩ := h x (by simp)
    rw [tm_cons]
    have h5 : x * k ≤ 9 * k := Int.mul_le_mul_of_nonneg_right h4 hk
    have h6 : 0 ≤ x * k := Int.mul_nonneg h3 hk
    show 0 ≤ (x * k + (tm l k).2) / 10 ∧ (x * k + (tm l k).2) / 10 ≤ k
    omega
theorem tm_dgs {l : List Int} {k : Int} : Dgs (tm l k).1 := by
  induction l with
  | nil => intro x hx; cases hx
  | cons y l ih =>
    intro x hx
    rw [tm_cons] at hx
    rcases List.mem_cons.1 hx with rfl | hx
    · omega
    · exact ih x hx
theorem tm_val (l : List Int) (k : Int) : nv (tm l k).1 + 10 ^ l.length * (tm l k).2 = nv l * k := by
  induction l with
  | nil => simp [tm, nv]
  | cons x l ih =>
    rw [tm_cons]
    show nv ((x * k + (tm l k).2) % 10 :: (tm l k).1) + 10 ^ (x :: l).length * ((x * k + (tm l k).2) / 10) = _
    rw [nv_cons, nv_cons, tm_len, List.length_cons, Int.pow_succ]
    have e := Int.emod_add_mul_ediv (x * k + (tm l k).2) 10
    generalize (x * k + (tm l k).2) % 10 = r at *
    generalize (x * k + (tm l k).2) / 10 = q at *
    generalize (10 : Int) ^ l.length = P at *
    rw [Int.add_mul, ← ih]
    have e2 : r * P + P * 10 * q = (r + 10 * q) * P := by rw [Int.add_mul]; congr 1; rw [Int.mul_comm P 10, Int.mul_assoc, Int.mul_comm P q, ← Int.mul_assoc]
    have e3 : (r + 10 * q) * P = x * P * k + P * (tm l k).2 := by rw [e, Int.add_mul, Int.mul_right_comm, Int.mul_comm (tm l k).2 P]
    omega
/-- times a number, on lists that begin with two zeros: nothing is carried out -/
def tim (l : List Int) (k : Int) : List Int := (tm (0 :: 0 :: l) k).1
theorem tim_dgs {l : List Int} {k : Int} : Dgs (tim l k) := tm_dgs
theorem tim_len (l : List Int) (k : Int) : (tim l k).length = l.length + 2 := by unfold tim; rw [tm_len]; rfl
theorem tim_val {l : List Int} {k : Int} (h : Dgs l) (hk : 0 ≤ k) (hn : nv l * k < 10 ^ (l.length + 2)) : nv (tim l k) = nv l * k := by
  have hd : Dgs (0 :: 0 :: l) := fun x hx => by
    rcases List.mem_cons.1 hx with rfl | hx
    · omega
    rcases List.mem_cons.1 hx with rfl | hx
    · omega
    exact h x hx
  have h1 := tm_val (0 :: 0 :: l) k
  have h2 := (tm_car hd hk).1
  have h3 : nv (0 :: 0 :: l) = nv l := by rw [nv_cons, nv_cons]; simp
  rw [h3] at h1
  have h4 := nv_nonneg (tm_dgs (l := 0 :: 0 :: l) (k := k))
  have hP : (0 : Int) < 10 ^ (l.length + 2) := Int.pow_pos (by omega)
  have h5 : (tm (0 :: 0 :: l) k).2 = 0 := by
    rcases Int.lt_or_le 0 (tm (0 :: 0 :: l) k).2 with h6 | h6
    · have h7 : (10 : Int) ^ (0 :: 0 :: l).length * 1 ≤ 10 ^ (0 :: 0 :: l).length * (tm (0 :: 0 :: l) k).2 := Int.mul_le_mul_of_nonneg_left (by omega) (Int.le_of_lt hP)
      simp only [List.length_cons] at h7 h1
      simp only [Nat.add_assoc, Nat.reduceAdd] at h7 h1
      omega
    · omega
  rw [h5] at h1
  simp at h1
  exact h1
/-- the quotient's digits, and the rest -/
def ovs (k : Int) (a : List Int × Int) (x : Int) : List Int × Int := (a.1 ++ [(10 * a.2 + x) / k], (10 * a.2 + x) % k)
def ov (l : List Int) (k : Int) : List Int × Int := l.foldl (ovs k) ([], 0)
theorem ov_snoc (l : List Int) (x k : Int) : ov (l ++ [x]) k = ovs k (ov l k) x := by unfold ov; rw [List.foldl_append]; rfl
theorem ov_facts {k : Int} (hk : 0 < k) {l : List Int} (h : Dgs l) : (ov l k).1.length = l.length ∧ Dgs (ov l k).1 ∧ 0 ≤ (ov l k).2 ∧ (ov l k).2 < k ∧ nv (ov l k).1 * k + (ov l k).2 = nv l := by
  have key : ∀ (r l : List Int), (l = r.reverse) → Dgs l → (ov l k).1.length = l.length ∧ Dgs (ov l k).1 ∧ 0 ≤ (ov l k).2 ∧ (ov l k).2 < k ∧ nv (ov l k).1 * k + (ov l k).2 = nv l := by
    intro r
    induction r with
    | nil =>
      intro l hl _; subst hl
      exact ⟨rfl, (fun x hx => absurd hx (by simp [ov]) : Dgs (ov [] k).1), Int.le_refl _, hk, by simp [ov, nv]⟩
    | cons x r ih =>
      intro l hl hd; subst hl
      rw [List.reverse_cons] at hd ⊢
      obtain ⟨h1, h2, h3, h4, h5⟩ := ih r.reverse rfl (fun y hy => hd y (by simp only [List.mem_append]; exact .inl hy))
      have hx := hd x (by simp)
      rw [ov_snoc]
      generalize ov r.reverse k = a at *
      obtain ⟨o, rs⟩ := a
      simp only [ovs] at *
      have hm := Int.emod_nonneg (10 * rs + x) (show k ≠ 0 by omega)
      have hm2 := Int.emod_lt_of_pos (10 * rs + x) hk
      have hdiv := Int.emod_add_mul_ediv (10 * rs + x) k
      refine ⟨by simp [h1], fun y hy => ?_, hm, hm2, ?_⟩
      · rcases List.mem_append.1 hy with hy | hy
        · exact h2 y hy
        · obtain rfl : y = (10 * rs + x) / k := by simpa using hy
          refine ⟨Int.ediv_nonneg (by omega) (by omega), ?_⟩
          have : (10 * rs + x) / k < 10 := Int.ediv_lt_of_lt_mul hk (by omega)
          omega
      · rw [nv_snoc, nv_snoc, ← h5]
        rw [Int.add_mul, Int.mul_comm ((10 * rs + x) / k) k, Int.mul_assoc]
        generalize nv o * k = p at *
        omega
  exact key l.reverse l (by simp) h
end Un
namespace Un
open Go
/-! ### the reference's way -/
def facs : List (List UInt8 × Nat × Nat × Nat × Nat) := [([], 0, 1, 0, 1), ([108], 1, 1, 0, 1), ([109, 51], 1, 1, 3, 1), ([77, 76], 1, 1, 6, 1), ([71, 76], 1, 1, 9, 1), ([108, 112, 104], 2, 1, 0, 1), ([108, 112, 115], 2, 36, 2, 1), ([109, 51, 112, 115], 2, 36, 5, 1), ([77, 76, 112, 100], 2, 1, 6, 24), ([109, 109], 3, 1, 0, 1), ([99, 109], 3, 1, 1, 1), ([109], 3, 1, 3, 1), ([104], 4, 1, 0, 1), ([100], 4, 24, 0, 1), ([109, 50], 5, 1, 0, 1), ([104, 97], 5, 1, 4, 1), ([107, 109, 50], 5, 1, 6, 1), ([112, 101, 114, 109, 105, 108, 108, 101], 6, 1, 0, 1), ([112, 101, 114, 99, 101, 110, 116], 6, 1, 1, 1)]
def fac (n : List UInt8) : Option (List UInt8 × Nat × Nat × Nat × Nat) := facs.find? fun m => decide (m.1 = n)
def fm (m : List UInt8 × Nat × Nat × Nat × Nat) : List UInt8 × Nat × Nat × Nat := (m.1, m.2.1, m.2.2.1 * 10 ^ m.2.2.2.1, m.2.2.2.2)
theorem ms_facs : ms = facs.map fm := by decide
theorem look_fac (n : List UInt8) : look n = (fac n).map fm := by
  unfold look fac
  rw [ms_facs, List.find?_map]
  rfl
theorem facs_facts : ∀ m ∈ facs, m.2.1 ≤ 6 ∧ 1 ≤ m.2.2.1 ∧ m.2.2.1 ≤ 36 ∧ m.2.2.2.1 ≤ 9 ∧ 1 ≤ m.2.2.2.2 ∧ m.2.2.2.2 ≤ 24 := by decide
theorem fac_mem {n : List UInt8} {m} (h : fac n = some m) : m ∈ facs ∧ m.1 = n := by
  unfold fac at h
  exact ⟨List.mem_of_find?_eq_some h, by simpa using List.find?_some h⟩
theorem nv_zeros (k : Nat) : nv (List.replicate k 0) = 0 := by
  induction k with
  | zero => rfl
  | succ k ih => rw [List.replicate_succ, nv_cons, ih]; simp
theorem dgs_zeros (k : Nat) : Dgs (List.replicate k 0) := fun x hx => by
  obtain ⟨_, rfl⟩ := List.mem_replicate.1 hx; omega
def dl (l : List UInt8) : List Int := l.map fun b => (dg b : Int)
theorem dl_len (l : List UInt8) : (dl l).length = l.length := by simp [dl]
/-- the digits before the division -/
def lOne (l : List UInt8) (c z : Nat) : List Int := tim (dl (bef l ++ aft l)) c ++ List.replicate z 0
theorem okF_all {l : List UInt8} (h : okF l = true) : ∀ b ∈ bef l ++ aft l, isD b = true := by
  unfold okF digs at h
  simp only [Bool.and_eq_true, List.all_eq_true, decide_eq_true_eq, Bool.or_eq_true, Bool.not_eq_true'] at h
  intro b hb
  rcases List.mem_append.1 hb with hb | hb
  · exact h.1.1.1 b hb
  · rcases h.2 with h2 | h2
    · rw [(bef_np h2).2] at hb; cases hb
    · exact h2.1.1 b hb
theorem okF_len {l : List UInt8} (h : okF l = true) : 1 ≤ (bef l).length ∧ (bef l).length ≤ 20 ∧ (aft l).length ≤ 9 ∧ (pt l = true → 1 ≤ (aft l).length) := by
  unfold okF digs at h
  simp only [Bool.and_eq_true, List.all_eq_true, decide_eq_true_eq, Bool.or_eq_true, Bool.not_eq_true'] at h
  refine ⟨h.1.1.2, by omega, ?_, ?_⟩
  · rcases h.2 with h2 | h2
    · rw [(bef_np h2).2]; simp
    · omega
  · intro hp
    rcases h.2 with h2 | h2
    · rw [hp] at h2; cases h2
    · exact h2.1.2
theorem dgs_dl {l : List UInt8} (h : ∀ b ∈ l, isD b = true) : Dgs (dl l) := dgs_map h
theorem nv_dl (l : List UInt8) : nv (dl l) = (val l : Int) := nv_dg l
theorem lOne_facts {l : List UInt8} (h : okF l = true) {c z : Nat} (hc : c ≤ 36) : Dgs (lOne l c z) ∧ (lOne l c z).length = (bef l).length + (aft l).length + 2 + z ∧ nv (lOne l c z) = ((val (bef l ++ aft l) * (c * 10 ^ z) : Nat) : Int) := by
  have hd := dgs_dl (okF_all h)
  refine ⟨dgs_app tim_dgs (dgs_zeros z), ?_, ?_⟩
  · unfold lOne; rw [List.length_append, tim_len, dl_len, List.length_append, List.length_replicate]
  · unfold lOne
    have h1 := nv_lt hd
    have h0 := nv_nonneg hd
    rw [nv_append, nv_zeros, List.length_replicate, tim_val hd (by omega) ?_, nv_dl]
    · push_cast; rw [Int.mul_assoc]; simp
    · have h2 : nv (dl (bef l ++ aft l)) * (c : Int) ≤ nv (dl (bef l ++ aft l)) * 36 := Int.mul_le_mul_of_nonneg_left (by omega) h0
      rw [Int.pow_add]
      generalize (10 : Int) ^ (dl (bef l ++ aft l)).length = p at *
      omega
theorem ref_quot {l : List UInt8} (h : okF l = true) {c z e : Nat} (hc : c ≤ 36) (he : 1 ≤ e) : nv (ov (lOne l c z) e).1 = ((val (bef l ++ aft l) * (c * 10 ^ z) / e : Nat) : Int) ∧ (ov (lOne l c z) e).2 = ((val (bef l ++ aft l) * (c * 10 ^ z) % e : Nat) : Int) ∧ (ov (lOne l c z) e).1.length = (bef l).length + (aft l).length + 2 + z ∧ Dgs (ov (lOne l c z) e).1 := by
  obtain ⟨h1, h2, h3⟩ := lOne_facts h (c := c) (z := z) hc
  obtain ⟨g1, g2, g3, g4, g5⟩ := ov_facts (k := (e : Int)) (by omega) h1
  rw [h3] at g5
  generalize val (bef l ++ aft l) * (c * 10 ^ z) = V at *
  have e1 : (V : Int) / e = nv (ov (lOne l c z) e).1 := by
    rw [← g5, Int.add_comm, Int.add_mul_ediv_right _ _ (by omega), Int.ediv_eq_zero_of_lt g3 g4]; omega
  have e2 : (V : Int) % e = (ov (lOne l c z) e).2 := by
    rw [← g5, Int.add_comm, Int.add_mul_emod_self_right, Int.emod_eq_of_lt g3 g4]
  exact ⟨by rw [← e1]; simp, by rw [← e2]; simp, by rw [g1, h2], g2⟩
theorem nv_take_le {l : List Int} (h : Dgs l) (k : Nat) : nv (l.take k) ≤ nv l := by
  have h1 : nv l = nv (l.take k) * 10 ^ (l.drop k).length + nv (l.drop k) := by rw [← nv_append, List.take_append_drop]
  have h2 := nv_nonneg (l := l.take k) (fun x hx => h x (List.mem_of_mem_take hx))
  have h3 := nv_nonneg (l := l.drop k) (fun x hx => h x (List.mem_of_mem_drop hx))
  have h4 : (1 : Int) ≤ 10 ^ (l.drop k).length := Int.pow_pos (by omega)
  have h5 : nv (l.take k) * 1 ≤ nv (l.take k) * 10 ^ (l.drop k).length := Int.mul_le_mul_of_nonneg_left h4 h2
  omega
theorem nv_zero_iff {l : List Int} (h : Dgs l) : nv l = 0 ↔ ∀ x ∈ l, x = 0 := by
  induction l with
  | nil => simp [nv]
  | cons x l ih =>
    have hd : Dgs l := fun y hy => h y (by simp [hy])
    have h0 := nv_nonneg hd
    have hx := (h x (by simp)).1
    have hp : (1 : Int) ≤ 10 ^ l.length := Int.pow_pos (by omega)
    rw [nv_cons]
    constructor
    · intro e
      have h1 : x * 1 ≤ x * 10 ^ l.length := Int.mul_le_mul_of_nonneg_left hp hx
      have hx0 : x = 0 := by omega
      have hl0 : nv l = 0 := by subst hx0; omega
      intro y hy
      rcases List.mem_cons.1 hy with rfl | hy
      · exact hx0
      · exact (ih hd).1 hl0 y hy
    · intro e
      rw [e x (by simp), (ih hd).2 (fun y hy => e y (by simp [hy]))]; simp
/-- the last a digits of a quotient -/
theorem tail_facts {Q : List Int} (h : Dgs Q) {a : Nat} {N : Nat} (ha : a ≤ Q.length) (hN : nv Q = (N : Int)) : nv (Q.take (Q.length - a)) = ((N / 10 ^ a : Nat) : Int) ∧ ((∀ i, i < a → Q.getD (Q.length - 1 - i) 0 = 0) ↔ N % 10 ^ a = 0) := by
  have h1 : nv Q = nv (Q.take (Q.length - a)) * 10 ^ a + nv (Q.drop (Q.length - a)) := by
    rw [← nv_append_drop Q a ha]
  have hd1 : Dgs (Q.take (Q.length - a)) := fun x hx => h x (List.mem_of_mem_take hx)
  have hd2 : Dgs (Q.drop (Q.length - a)) := fun x hx => h x (List.mem_of_mem_drop hx)
  have h2 := nv_nonneg hd1
  have h3 := nv_nonneg hd2
  have h4 := nv_lt hd2
  rw [List.length_drop, show Q.length - (Q.length - a) = a by omega] at h4
  obtain ⟨t, ht⟩ := Int.eq_ofNat_of_zero_le h2
  obtain ⟨d, hd⟩ := Int.eq_ofNat_of_zero_le h3
  rw [ht, hd, hN] at h1
  rw [hd] at h4
  have h1' : N = t * 10 ^ a + d := by exact_mod_cast h1
  have h4' : d < 10 ^ a := by exact_mod_cast h4
  have e1 : N / 10 ^ a = t := by rw [h1', Nat.mul_comm, Nat.mul_add_div (by omega), Nat.div_eq_of_lt h4']; rfl
  have e2 : N % 10 ^ a = d := by rw [h1', Nat.mul_comm, Nat.mul_add_mod, Nat.mod_eq_of_lt h4']
  refine ⟨by rw [ht, e1], ?_⟩
  rw [e2]
  have hz := nv_zero_iff hd2
  constructor
  · intro hall
    have : nv (Q.drop (Q.length - a)) = 0 := hz.2 (fun x hx => by
      obtain ⟨j, hj, rfl⟩ := List.mem_iff_getElem.1 hx
      rw [List.length_drop] at hj
      have := hall (a - 1 - j) (by omega)
      rw [List.getElem_drop]
      rw [show Q.length - 1 - (a - 1 - j) = Q.length - a + j by omega] at this
      simpa [List.getD_eq_getElem?_getD, show Q.length - a + j < Q.length by omega] using this)
    rw [hd] at this; exact_mod_cast this
  · intro hd0 i hi
    have hall := hz.1 (by rw [hd, hd0]; rfl)
    have hlt : Q.length - 1 - i < Q.length := by omega
    rw [List.getD_eq_getElem?_getD, List.getElem?_eq_getElem hlt, Option.getD_some]
    have : Q[Q.length - 1 - i] = (Q.drop (Q.length - a))[a - 1 - i]'(by rw [List.length_drop]; omega) := by
      rw [List.getElem_drop]; congr 1; omega
    rw [this]
    exact hall _ (List.getElem_mem _)
where
  nv_append_drop (Q : List Int) (a : Nat) (ha : a ≤ Q.length) : nv (Q.take (Q.length - a)) * 10 ^ a + nv (Q.drop (Q.length - a)) = nv Q := by
    have := nv_append (Q.take (Q.length - a)) (Q.drop (Q.length - a))
    rw [List.take_append_drop, List.length_drop, show Q.length - (Q.length - a) = a by omega] at this
    exact this.symm
/-! ### the ends of the reference's Amount -/
theorem amt_form {l n : List UInt8} (h : okF l = false) : amt l n = (0, 0, 2) := by unfold amt; rw [if_neg (by simp [h])]
theorem amt_unit {l n : List UInt8} (h : okF l = true) (hf : fac n = none) : amt l n = (0, 0, 6) := by
  unfold amt; rw [if_pos h, look_fac, hf]; rfl
theorem amt_fac {l n : List UInt8} (h : okF l = true) {m} (hf : fac n = some m) : amt l n =
    if val (bef l ++ aft l) * (m.2.2.1 * 10 ^ m.2.2.2.1) % m.2.2.2.2 = 0 ∧ val (bef l ++ aft l) * (m.2.2.1 * 10 ^ m.2.2.2.1) / m.2.2.2.2 % 10 ^ (aft l).length = 0 ∧ val (bef l ++ aft l) * (m.2.2.1 * 10 ^ m.2.2.2.1) / m.2.2.2.2 / 10 ^ (aft l).length ≤ M then
      (val (bef l ++ aft l) * (m.2.2.1 * 10 ^ m.2.2.2.1) / m.2.2.2.2 / 10 ^ (aft l).length, m.2.1, 0) else (0, 0, 7) := by
  have he := (facs_facts m (fac_mem hf).1).2.2.2.2.1
  unfold amt; rw [if_pos h, look_fac, hf]
  simp only [Option.map_some, fm]
  generalize val (bef l ++ aft l) * (m.2.2.1 * 10 ^ m.2.2.2.1) = V
  generalize (aft l).length = a
  have hp : 0 < 10 ^ a := Nat.pow_pos (by omega)
  rw [Nat.mul_comm (10 ^ a), ← Nat.div_div_eq_div_mul]
  have e : V % (m.2.2.2.2 * 10 ^ a) = 0 ↔ V % m.2.2.2.2 = 0 ∧ V / m.2.2.2.2 % 10 ^ a = 0 := by
    rw [Nat.mod_mul]
    constructor
    · intro h0
      have h1 : V % m.2.2.2.2 = 0 := by omega
      refine ⟨h1, ?_⟩
      rw [h1, Nat.zero_add] at h0
      rcases Nat.mul_eq_zero.1 h0 with h2 | h2
      · omega
      · exact h2
    · rintro ⟨h1, h2⟩; rw [h1, h2]; simp
  simp only [e, and_assoc]
end Un
namespace Un
open Go
/-! ### what is written -/
theorem dec_all (u : Nat) : ∀ b ∈ Lib.decDigits u, isD b = true := by
  induction u using Nat.strongRecOn with
  | _ u ih =>
    have key : ∀ k : Nat, k < 10 → isD (UInt8.ofNat (48 + k)) = true := by decide
    unfold Lib.decDigits
    split
    · rename_i h
      intro b hb
      rw [List.mem_singleton.1 hb]; exact key u h
    · intro b hb
      rcases List.mem_append.1 hb with hb | hb
      · exact ih (u / 10) (by omega) b hb
      · rw [List.mem_singleton.1 hb]
        exact key (u % 10) (Nat.mod_lt _ (by omega))
theorem dg_ofNat {k : Nat} (h : k < 10) : dg (UInt8.ofNat (48 + k)) = k := by
  have : ∀ k : Fin 10, dg (UInt8.ofNat (48 + k.1)) = k.1 := by decide
  exact this ⟨k, h⟩
theorem val_dec (u : Nat) : val (Lib.decDigits u) = u := by
  induction u using Nat.strongRecOn with
  | _ u ih =>
    unfold Lib.decDigits
    split
    · rename_i h
      show stepV 0 _ = u
      unfold stepV; rw [dg_ofNat h]; omega
    · rw [val_snoc, ih (u / 10) (by omega), dg_ofNat (Nat.mod_lt _ (by omega))]
      omega
theorem np_of_all {l : List UInt8} (h : ∀ b ∈ l, isD b = true) : pt l = false := by
  induction l with
  | nil => rfl
  | cons b l ih =>
    have hb : b ≠ 46 := fun e => by
      have := h b (by simp)
      subst e; exact absurd this (by decide)
    unfold pt; rw [if_neg hb]; exact ih (fun x hx => h x (by simp [hx]))
theorem dec_parts (u : Nat) : bef (Lib.decDigits u) = Lib.decDigits u ∧ aft (Lib.decDigits u) = [] ∧ pt (Lib.decDigits u) = false :=
  have h := np_of_all (dec_all u)
  ⟨(bef_np h).1, (bef_np h).2, h⟩
theorem dec_len_le {u k : Nat} (hk : 1 ≤ k) (h : u < 10 ^ k) : (Lib.decDigits u).length ≤ k := by
  induction k generalizing u with
  | zero => omega
  | succ k ih =>
    unfold Lib.decDigits
    split
    · simp
    · rename_i h10
      rw [List.length_append, List.length_singleton]
      rcases Nat.eq_zero_or_pos k with h0 | h0
      · subst h0; omega
      · have := ih (u := u / 10) h0 (by rw [Nat.pow_succ] at h; omega)
        omega
theorem dec_len_pos (u : Nat) : 1 ≤ (Lib.decDigits u).length := by
  unfold Lib.decDigits
  split <;> simp
theorem dec_head (u : Nat) : (Lib.decDigits u).getD 0 0 ≠ 48 ∨ (Lib.decDigits u).length = 1 := by
  induction u using Nat.strongRecOn with
  | _ u ih =>
    unfold Lib.decDigits
    split
    · right; rfl
    · rename_i h
      left
      rw [List.getD_eq_getElem?_getD, List.getElem?_append_left (dec_len_pos _), ← List.getD_eq_getElem?_getD]
      rcases ih (u / 10) (by omega) with h1 | h1
      · exact h1
      · have h2 : u / 10 < 10 := by
          unfold Lib.decDigits at h1
          split at h1
          · assumption
          · have := dec_len_pos (u / 10 / 10)
            rw [List.length_append, List.length_singleton] at h1; omega
        unfold Lib.decDigits
        rw [dif_pos h2]
        have : ∀ k : Fin 10, 1 ≤ k.1 → UInt8.ofNat (48 + k.1) ≠ 48 := by decide
        exact this ⟨u / 10, h2⟩ (by show 1 ≤ u / 10; omega)
theorem okF_dec {u : Nat} (h : u < 10 ^ 20) : okF (Lib.decDigits u) = true := by
  obtain ⟨h1, h2, h3⟩ := dec_parts u
  have hl := dec_len_le (by omega) h
  have hp := dec_len_pos u
  unfold okF digs
  rw [h1, h3]
  simp only [Bool.and_eq_true, List.all_eq_true, decide_eq_true_eq, Bool.not_false, Bool.true_or, and_true]
  exact ⟨⟨dec_all u, hp⟩, by omega⟩
/-- a whole number in a unit -/
theorem amt_dec {u : Nat} (h : u < 10 ^ 20) (n : List UInt8) : amt (Lib.decDigits u) n = match look n with
    | none => (0, 0, 6)
    | some m => if u * m.2.2.1 % m.2.2.2 = 0 ∧ u * m.2.2.1 / m.2.2.2 ≤ M then (u * m.2.2.1 / m.2.2.2, m.2.1, 0) else (0, 0, 7) := by
  obtain ⟨h1, h2, _⟩ := dec_parts u
  unfold amt
  rw [if_pos (okF_dec h), h1, h2, List.append_nil, val_dec]
  simp only [List.length_nil, Nat.pow_zero, Nat.one_mul]
/-- the base units -/
def bases : List (List UInt8) := [[], [108], [108, 112, 104], [109, 109], [104], [109, 50], [112, 101, 114, 109, 105, 108, 108, 101]]
theorem look_base : ∀ d, d < 7 → look (bases.getD d []) = some (bases.getD d [], d, 1, 1) := by decide
theorem amt_back {u d : Nat} (h : u ≤ M) (hd : d < 7) : amt (Lib.decDigits u) (bases.getD d []) = (u, d, 0) := by
  rw [amt_dec (by unfold M at h; omega), look_base d hd]
  simp [h, Nat.mod_one]
/-! ### more zeros -/
theorem val_lead (k : Nat) (l : List UInt8) : val (List.replicate k 48 ++ l) = val l := by
  rw [val_append]
  have : val (List.replicate k 48) = 0 := by
    induction k with
    | zero => rfl
    | succ k ih =>
      rw [List.replicate_succ', val_snoc, ih]; rfl
  rw [this]; simp
theorem val_trail (k : Nat) (l : List UInt8) : val (l ++ List.replicate k 48) = val l * 10 ^ k := by
  induction k with
  | zero => simp
  | succ k ih =>
    rw [List.replicate_succ', ← List.append_assoc, val_snoc, ih, Nat.pow_succ, show dg 48 = 0 from rfl, ← Nat.mul_assoc, Nat.add_zero, Nat.mul_comm 10, Nat.mul_assoc, Nat.mul_comm 10]
theorem parts_lead (k : Nat) (l : List UInt8) : bef (List.replicate k 48 ++ l) = List.replicate k 48 ++ bef l ∧ aft (List.replicate k 48 ++ l) = aft l ∧ pt (List.replicate k 48 ++ l) = pt l :=
  np_app (np_of_all (fun b hb => by obtain ⟨_, rfl⟩ := List.mem_replicate.1 hb; decide))
theorem amt_zeros {l n : List UInt8} {k j : Nat} (h : okF l = true) (hj : 0 < j → pt l = true) (h2 : okF (List.replicate k 48 ++ l ++ List.replicate j 48) = true) : amt (List.replicate k 48 ++ l ++ List.replicate j 48) n = amt l n := by
  obtain ⟨p1, p2, p3⟩ := parts_lead k l
  have hparts : bef (List.replicate k 48 ++ l ++ List.replicate j 48) ++ aft (List.replicate k 48 ++ l ++ List.replicate j 48) = List.replicate k 48 ++ (bef l ++ aft l) ++ List.replicate j 48 ∧ (aft (List.replicate k 48 ++ l ++ List.replicate j 48)).length = (aft l).length + j := by
    rcases Nat.eq_zero_or_pos j with h0 | h0
    · subst h0; simp [p1, p2]
    · have hp := hj h0
      obtain ⟨q1, q2, _⟩ := pt_app (p := List.replicate k 48 ++ l) (r := List.replicate j 48) (p3.trans hp)
      rw [q1, q2, p1, p2]
      simp
  unfold amt
  rw [if_pos h, if_pos h2, hparts.1, hparts.2, val_trail, val_lead]
  cases look n with
  | none => rfl
  | some m =>
    simp only
    have hp : 0 < 10 ^ j := Nat.pow_pos (by omega)
    have e1 : val (bef l ++ aft l) * 10 ^ j * m.2.2.1 = val (bef l ++ aft l) * m.2.2.1 * 10 ^ j := Nat.mul_right_comm _ _ _
    have e2 : 10 ^ ((aft l).length + j) * m.2.2.2 = 10 ^ (aft l).length * m.2.2.2 * 10 ^ j := by rw [Nat.pow_add, Nat.mul_right_comm]
    rw [e1, e2, Nat.mul_div_mul_right _ _ hp, Nat.mul_mod_mul_right]
    have e3 : ∀ r, r * 10 ^ j = 0 ↔ r = 0 := fun r => by
      constructor
      · intro h0; rcases Nat.mul_eq_zero.1 h0 with h1 | h1 <;> omega
      · intro h0; rw [h0]; simp
    simp only [e3]
end Un
namespace Un
open Go
abbrev Mea := List UInt8 × Nat × Nat × Nat
theorem find_hit {α : Type} {p : α → Bool} {d : α} : ∀ {l : List α} {k : Nat}, k < l.length → (∀ j, j < k → p (l.getD j d) = false) → p (l.getD k d) = true → l.find? p = some (l.getD k d)
  | [], k, hk, _, _ => absurd hk (Nat.not_lt_zero _)
  | x :: l, 0, _, _, h => by
    have h' : p x = true := h
    simp [List.find?, h']
  | x :: l, k + 1, hk, hj, h => by
    have h0 : p x = false := hj 0 (by omega)
    rw [List.find?, h0]
    have hk' : k < l.length := by simpa using hk
    exact find_hit hk' (fun j hjk => hj (j + 1) (by omega)) h
theorem find_miss {α : Type} {p : α → Bool} {d : α} {l : List α} (h : ∀ j, j < l.length → p (l.getD j d) = false) : l.find? p = none := by
  rw [List.find?_eq_none]
  intro x hx
  obtain ⟨i, hi, rfl⟩ := List.mem_iff_getElem.1 hx
  have := h i hi
  simpa [List.getD_eq_getElem?_getD, hi] using this
theorem ms_len : ms.length = 19 := rfl
theorem look_hit {n : List UInt8} {k : Nat} (hk : k < 19) (hj : ∀ j, j < k → (ms.getD j default).1 ≠ n) (h : (ms.getD k default).1 = n) : look n = some (ms.getD k default) :=
  find_hit (d := default) (by rw [ms_len]; exact hk) (fun j hjk => decide_eq_false (hj j hjk)) (decide_eq_true h)
theorem look_miss {n : List UInt8} (hj : ∀ j, j < 19 → (ms.getD j default).1 ≠ n) : look n = none :=
  find_miss (d := default) (fun j hjk => decide_eq_false (hj j (by rw [ms_len] at hjk; exact hjk)))
def fdM (n : List UInt8) : Mea := (look n).getD ([], 0, 0, 0)
theorem base_hit : ∀ k, k < 19 → (ms.getD k default).2.2.1 = 1 → (ms.getD k default).2.2.2 = 1 → (ms.getD k default).1 = bases.getD (ms.getD k default).2.1 [] := by decide
theorem base_some : ∀ d, d < 7 → ∃ k, k < 19 ∧ (ms.getD k default).2.1 = d ∧ (ms.getD k default).2.2.1 = 1 ∧ (ms.getD k default).2.2.2 = 1 := by decide
theorem lt_succ' {p : Nat → Prop} {k : Nat} (h : ∀ j, j < k → p j) (hk : p k) : ∀ j, j < k + 1 → p j := fun j hj => by
  rcases Nat.lt_or_eq_of_le (Nat.le_of_lt_succ hj) with h1 | h1
  · exact h j h1
  · subst h1; exact hk
theorem isD_iff {b : UInt8} : isD b = true ↔ 48 ≤ b.toNat ∧ b.toNat ≤ 57 := by simp [isD]
theorem all_get {l : List UInt8} (h : ∀ j, j < l.length → isD (l.getD j 0) = true) : ∀ b ∈ l, isD b = true := fun b hb => by
  obtain ⟨i, hi, rfl⟩ := List.mem_iff_getElem.1 hb
  have := h i hi
  simpa [List.getD_eq_getElem?_getD, hi] using this
theorem get_all {l : List UInt8} (h : ∀ b ∈ l, isD b = true) {j : Nat} (hj : j < l.length) : isD (l.getD j 0) = true := by
  rw [List.getD_eq_getElem?_getD, List.getElem?_eq_getElem hj]; exact h _ (List.getElem_mem hj)
theorem digs_bad {l : List UInt8} {k : Int} {i : Nat} (hi : i < l.length) (h : isD (l.getD i 0) = false) : digs l k = false := by
  cases hd : digs l k with
  | false => rfl
  | true =>
    unfold digs at hd
    simp only [Bool.and_eq_true, List.all_eq_true] at hd
    rw [get_all hd.1.1 hi] at h; cases h
theorem digs_good {l : List UInt8} {k : Int} (h : ∀ j, j < l.length → isD (l.getD j 0) = true) : digs l k = (decide (1 ≤ l.length) && decide ((l.length : Int) ≤ k)) := by
  unfold digs
  have : l.all isD = true := List.all_eq_true.2 (all_get h)
  rw [this, Bool.true_and]
theorem digs_all {l : List UInt8} {k : Int} (h : digs l k = true) : (∀ b ∈ l, isD b = true) ∧ 1 ≤ l.length ∧ (l.length : Int) ≤ k := by
  unfold digs at h
  simp only [Bool.and_eq_true, List.all_eq_true, decide_eq_true_eq] at h
  exact ⟨h.1.1, h.1.2, h.2⟩
theorem take_snoc {l : List UInt8} {k : Nat} (hk : k < l.length) : l.take (k + 1) = l.take k ++ [l.getD k 0] := by
  rw [List.take_succ_eq_append_getElem hk]; simp [List.getD_eq_getElem?_getD, hk]
theorem valC_le (l : List UInt8) : valC l ≤ M + 1 := by rw [valC_eq]; omega
end Un
namespace Un
open Go
theorem indexByte_dot : ∀ l : List UInt8, Lib.indexByte l 46 = if pt l then ((bef l).length : Int) else -1
  | [] => rfl
  | b :: l => by
    unfold Lib.indexByte pt bef
    by_cases hb : b = 46
    · subst hb; simp
    · rw [indexByte_dot l]
      cases hp : pt l
      · simp [hb]
      · have : ¬ (((bef l).length : Int) == -1) = true := by simp
        simp [hb]

theorem bef_len (l : List UInt8) : (bef l).length ≤ l.length := by
  cases hp : pt l
  · rw [(bef_np hp).1]; exact Nat.le_refl _
  · have := congrArg List.length (bef_pt hp)
    rw [List.length_append] at this; omega
theorem bef_len' {l : List UInt8} (hp : pt l = true) : (bef l).length + 1 + (aft l).length = l.length := by
  have := congrArg List.length (bef_pt hp)
  rw [List.length_append, List.length_cons] at this; omega
theorem cut_take {l : List UInt8} (hp : pt l = true) : l.take (bef l).length = bef l ∧ l.drop ((bef l).length + 1) = aft l := by
  have e1 : ∀ (x y : List UInt8), l = x ++ 46 :: y → l.take x.length = x ∧ l.drop (x.length + 1) = y := fun x y e => by
    subst e; simp
  exact e1 _ _ (bef_pt hp)
theorem aft_len (l : List UInt8) : (aft l).length ≤ l.length := by
  cases hp : pt l
  · rw [(bef_np hp).2]; exact Nat.zero_le _
  · have := bef_len' hp; omega
end Un
namespace Un
open Go
/-- what 'product' answers: the number, and whether there is one -/
def prod (W : Nat) (l : List UInt8) (m : Mea) : Nat × Bool :=
  if W ≤ M ∧ (W * 10 ^ l.length + val l) * m.2.2.1 % (10 ^ l.length * m.2.2.2) = 0 ∧ (W * 10 ^ l.length + val l) * m.2.2.1 / (10 ^ l.length * m.2.2.2) ≤ M then ((W * 10 ^ l.length + val l) * m.2.2.1 / (10 ^ l.length * m.2.2.2), true) else (0, false)
theorem prod_no {W : Nat} {l : List UInt8} {m : Mea} (h : M < W ∨ (W * 10 ^ l.length + val l) * m.2.2.1 % (10 ^ l.length * m.2.2.2) ≠ 0 ∨ M < (W * 10 ^ l.length + val l) * m.2.2.1 / (10 ^ l.length * m.2.2.2)) : prod W l m = (0, false) := by
  unfold prod
  rw [if_neg]
  rintro ⟨h1, h2, h3⟩
  rcases h with h | h | h
  · omega
  · exact h h2
  · omega
theorem prod_yes {W : Nat} {l : List UInt8} {m : Mea} (h1 : W ≤ M) (h2 : (W * 10 ^ l.length + val l) * m.2.2.1 % (10 ^ l.length * m.2.2.2) = 0) (h3 : (W * 10 ^ l.length + val l) * m.2.2.1 / (10 ^ l.length * m.2.2.2) ≤ M) : prod W l m = ((W * 10 ^ l.length + val l) * m.2.2.1 / (10 ^ l.length * m.2.2.2), true) := by
  unfold prod; rw [if_pos ⟨h1, h2, h3⟩]
end Un
