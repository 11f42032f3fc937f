/- Plain facts for the layer of units: numbers as digits, amounts. Conditions: those of each theorem. -/
import Derived.Lib.IndexMore
import Derived.Lib.ItoaNum
namespace Un
open Go
def M : Nat := 1125899906842624
def isD (b : UInt8) : Bool := decide (48 ≤ b.toNat) && decide (b.toNat ≤ 57)
def dg (b : UInt8) : Nat := b.toNat - 48
theorem dg_le {b : UInt8} (h : isD b = true) : dg b ≤ 9 := by
  simp only [isD, Bool.and_eq_true, decide_eq_true_eq] at h
  unfold dg; omega
def stepV (n : Nat) (b : UInt8) : Nat := 10 * n + dg b
def val (l : List UInt8) : Nat := l.foldl stepV 0
def stepC (n : Nat) (b : UInt8) : Nat := min (10 * n + dg b) (M + 1)
/-- the value, or M + 1 if it is greater than M -/
def valC (l : List UInt8) : Nat := l.foldl stepC 0
theorem foldC (l : List UInt8) : ∀ n, l.foldl stepC (min n (M + 1)) = min (l.foldl stepV n) (M + 1) := by
  induction l with
  | nil => intro n; rfl
  | cons b l ih =>
    intro n
    rw [List.foldl_cons, List.foldl_cons, ← ih]
    congr 1
    unfold stepC stepV M; omega
theorem valC_eq (l : List UInt8) : valC l = min (val l) (M + 1) := by
  have := foldC l 0
  rwa [show min 0 (M + 1) = 0 by unfold M; omega] at this
theorem valC_snoc (l : List UInt8) (b : UInt8) : valC (l ++ [b]) = min (10 * valC l + dg b) (M + 1) := by
  unfold valC; rw [List.foldl_append]; rfl
theorem foldV (l : List UInt8) : ∀ n, l.foldl stepV n = n * 10 ^ l.length + val l := by
  induction l with
  | nil => intro n; simp [val]
  | cons b l ih =>
    intro n
    have h := ih (stepV 0 b)
    unfold val
    rw [List.foldl_cons, List.foldl_cons, ih, h]
    simp only [stepV, List.length_cons, Nat.pow_succ, Nat.mul_zero, Nat.zero_add, Nat.add_mul]
    rw [Nat.mul_comm 10 n, Nat.mul_assoc, Nat.mul_comm 10 (10 ^ l.length)]
    omega
theorem val_append (l r : List UInt8) : val (l ++ r) = val l * 10 ^ r.length + val r := by
  unfold val; rw [List.foldl_append]; exact foldV r _
theorem val_snoc (l : List UInt8) (b : UInt8) : val (l ++ [b]) = 10 * val l + dg b := by
  unfold val; rw [List.foldl_append]; rfl
theorem val_lt {l : List UInt8} (h : ∀ b ∈ l, isD b = true) : val l < 10 ^ l.length := by
  induction l with
  | nil => simp [val]
  | cons b l ih =>
    have h1 := ih (fun x hx => h x (by simp [hx]))
    have h2 := dg_le (h b (by simp))
    have e : val (b :: l) = dg b * 10 ^ l.length + val l := by
      have := foldV l (stepV 0 b)
      unfold val; rw [List.foldl_cons, this]; simp [stepV, val]
    have h3 : dg b * 10 ^ l.length ≤ 9 * 10 ^ l.length := Nat.mul_le_mul_right _ h2
    rw [e, List.length_cons, Nat.pow_succ]
    omega
/-! ### the parts of a number -/
def bef : List UInt8 → List UInt8
  | [] => []
  | b :: l => if b = 46 then [] else b :: bef l
def aft : List UInt8 → List UInt8
  | [] => []
  | b :: l => if b = 46 then l else aft l
def pt : List UInt8 → Bool
  | [] => false
  | b :: l => if b = 46 then true else pt l
theorem bef_pt : ∀ {l : List UInt8}, pt l = true → l = bef l ++ 46 :: aft l
  | [], h => by cases h
  | b :: l, h => by
    unfold pt at h
    unfold bef aft
    by_cases hb : b = 46
    · subst hb; simp
    · rw [if_neg hb] at h ⊢
      rw [if_neg hb]
      rw [List.cons_append, ← bef_pt h]
theorem bef_np : ∀ {l : List UInt8}, pt l = false → bef l = l ∧ aft l = []
  | [], _ => ⟨rfl, rfl⟩
  | b :: l, h => by
    unfold pt at h
    unfold bef aft
    by_cases hb : b = 46
    · subst hb; simp at h
    · rw [if_neg hb] at h ⊢
      rw [if_neg hb, (bef_np h).1, (bef_np h).2]; exact ⟨rfl, rfl⟩
def digs (l : List UInt8) (k : Int) : Bool := l.all isD && decide (1 ≤ l.length) && decide ((l.length : Int) ≤ k)
def okF (l : List UInt8) : Bool := digs (bef l) 20 && (!pt l || digs (aft l) 9)
/-! ### units -/
def ms : List (List UInt8 × Nat × Nat × Nat) := [([], 0, 1, 1), ([108], 1, 1, 1), ([109, 51], 1, 1000, 1), ([77, 76], 1, 1000000, 1), ([71, 76], 1, 1000000000, 1), ([108, 112, 104], 2, 1, 1), ([108, 112, 115], 2, 3600, 1), ([109, 51, 112, 115], 2, 3600000, 1), ([77, 76, 112, 100], 2, 1000000, 24), ([109, 109], 3, 1, 1), ([99, 109], 3, 10, 1), ([109], 3, 1000, 1), ([104], 4, 1, 1), ([100], 4, 24, 1), ([109, 50], 5, 1, 1), ([104, 97], 5, 10000, 1), ([107, 109, 50], 5, 1000000, 1), ([112, 101, 114, 109, 105, 108, 108, 101], 6, 1, 1), ([112, 101, 114, 99, 101, 110, 116], 6, 10, 1)]
def look (n : List UInt8) : Option (List UInt8 × Nat × Nat × Nat) := ms.find? fun m => decide (m.1 = n)
/-- the amount of a number and a unit: number, dimension, error -/
def amt (l n : List UInt8) : Nat × Nat × Nat :=
  if okF l then match look n with
    | none => (0, 0, 6)
    | some m => if val (bef l ++ aft l) * m.2.2.1 % (10 ^ (aft l).length * m.2.2.2) = 0 ∧ val (bef l ++ aft l) * m.2.2.1 / (10 ^ (aft l).length * m.2.2.2) ≤ M then (val (bef l ++ aft l) * m.2.2.1 / (10 ^ (aft l).length * m.2.2.2), m.2.1, 0) else (0, 0, 7)
  else (0, 0, 2)
theorem ms_facts : ∀ m ∈ ms, m.2.1 ≤ 6 ∧ 1 ≤ m.2.2.1 ∧ m.2.2.1 ≤ 1000000000 ∧ 1 ≤ m.2.2.2 ∧ m.2.2.2 ≤ 24 ∧ m.2.2.2 ≤ m.2.2.1 := by decide
theorem look_mem {n : List UInt8} {m} (h : look n = some m) : m ∈ ms ∧ m.1 = n := by
  unfold look at h
  exact ⟨List.mem_of_find?_eq_some h, by simpa using List.find?_some h⟩
/-- a whole part that is too great makes the amount too great -/
theorem too_great {W F num D f : Nat} (hw : M < W) (hn : D ≤ num) (hD : 1 ≤ D) : ¬ (W * 10 ^ f + F) * num / (10 ^ f * D) ≤ M := by
  intro h
  have hp : 0 < 10 ^ f := Nat.pow_pos (by omega)
  have hd : 0 < 10 ^ f * D := Nat.mul_pos hp hD
  have h1 : W * (10 ^ f * D) ≤ (W * 10 ^ f + F) * num := by
    calc W * (10 ^ f * D) = W * 10 ^ f * D := by rw [Nat.mul_assoc]
      _ ≤ W * 10 ^ f * num := Nat.mul_le_mul_left _ hn
      _ ≤ (W * 10 ^ f + F) * num := Nat.mul_le_mul_right _ (by omega)
  have h2 := (Nat.le_div_iff_mul_le hd).2 h1
  omega
/-! ### lists of digits -/
end Un
namespace Un
open Go
/-! ### the reference's way -/
theorem okF_all {l : List UInt8} (h : okF l = true) : ∀ b ∈ bef l ++ aft l, isD b = true := by
  unfold okF digs at h
  simp only [Bool.and_eq_true, List.all_eq_true, decide_eq_true_eq, Bool.or_eq_true, Bool.not_eq_true'] at h
  intro b hb
  rcases List.mem_append.1 hb with hb | hb
  · exact h.1.1.1 b hb
  · rcases h.2 with h2 | h2
    · rw [(bef_np h2).2] at hb; cases hb
    · exact h2.1.1 b hb
theorem okF_len {l : List UInt8} (h : okF l = true) : 1 ≤ (bef l).length ∧ (bef l).length ≤ 20 ∧ (aft l).length ≤ 9 ∧ (pt l = true → 1 ≤ (aft l).length) := by
  unfold okF digs at h
  simp only [Bool.and_eq_true, List.all_eq_true, decide_eq_true_eq, Bool.or_eq_true, Bool.not_eq_true'] at h
  refine ⟨h.1.1.2, by omega, ?_, ?_⟩
  · rcases h.2 with h2 | h2
    · rw [(bef_np h2).2]; simp
    · omega
  · intro hp
    rcases h.2 with h2 | h2
    · rw [hp] at h2; cases h2
    · exact h2.1.2
/-! ### the ends of the reference's Amount -/
theorem amt_form {l n : List UInt8} (h : okF l = false) : amt l n = (0, 0, 2) := by unfold amt; rw [if_neg (by simp [h])]
end Un
namespace Un
open Go
/-! ### what is written -/
theorem dec_all (u : Nat) : ∀ b ∈ Lib.decDigits u, isD b = true := by
  induction u using Nat.strongRecOn with
  | _ u ih =>
    have key : ∀ k : Nat, k < 10 → isD (UInt8.ofNat (48 + k)) = true := by decide
    unfold Lib.decDigits
    split
    · rename_i h
      intro b hb
      rw [List.mem_singleton.1 hb]; exact key u h
    · intro b hb
      rcases List.mem_append.1 hb with hb | hb
      · exact ih (u / 10) (by omega) b hb
      · rw [List.mem_singleton.1 hb]
        exact key (u % 10) (Nat.mod_lt _ (by omega))
theorem dg_ofNat {k : Nat} (h : k < 10) : dg (UInt8.ofNat (48 + k)) = k := by
  have : ∀ k : Fin 10, dg (UInt8.ofNat (48 + k.1)) = k.1 := by decide
  exact this ⟨k, h⟩
theorem val_dec (u : Nat) : val (Lib.decDigits u) = u := by
  induction u using Nat.strongRecOn with
  | _ u ih =>
    unfold Lib.decDigits
    split
    · rename_i h
      show stepV 0 _ = u
      unfold stepV; rw [dg_ofNat h]; omega
    · rw [val_snoc, ih (u / 10) (by omega), dg_ofNat (Nat.mod_lt _ (by omega))]
      omega
theorem np_of_all {l : List UInt8} (h : ∀ b ∈ l, isD b = true) : pt l = false := by
  induction l with
  | nil => rfl
  | cons b l ih =>
    have hb : b ≠ 46 := fun e => by
      have := h b (by simp)
      subst e; exact absurd this (by decide)
    unfold pt; rw [if_neg hb]; exact ih (fun x hx => h x (by simp [hx]))
theorem dec_parts (u : Nat) : bef (Lib.decDigits u) = Lib.decDigits u ∧ aft (Lib.decDigits u) = [] ∧ pt (Lib.decDigits u) = false :=
  have h := np_of_all (dec_all u)
  ⟨(bef_np h).1, (bef_np h).2, h⟩
theorem dec_len_le {u k : Nat} (hk : 1 ≤ k) (h : u < 10 ^ k) : (Lib.decDigits u).length ≤ k := by
  induction k generalizing u with
  | zero => omega
  | succ k ih =>
    unfold Lib.decDigits
    split
    · simp
    · rename_i h10
      rw [List.length_append, List.length_singleton]
      rcases Nat.eq_zero_or_pos k with h0 | h0
      · subst h0; omega
      · have := ih (u := u / 10) h0 (by rw [Nat.pow_succ] at h; omega)
        omega
theorem dec_len_pos (u : Nat) : 1 ≤ (Lib.decDigits u).length := by
  unfold Lib.decDigits
  split <;> simp
theorem okF_dec {u : Nat} (h : u < 10 ^ 20) : okF (Lib.decDigits u) = true := by
  obtain ⟨h1, h2, h3⟩ := dec_parts u
  have hl := dec_len_le (by omega) h
  have hp := dec_len_pos u
  unfold okF digs
  rw [h1, h3]
  simp only [Bool.and_eq_true, List.all_eq_true, decide_eq_true_eq, Bool.not_false, Bool.true_or, and_true]
  exact ⟨⟨dec_all u, hp⟩, by omega⟩
/-- a whole number in a unit -/
theorem amt_dec {u : Nat} (h : u < 10 ^ 20) (n : List UInt8) : amt (Lib.decDigits u) n = match look n with
    | none => (0, 0, 6)
    | some m => if u * m.2.2.1 % m.2.2.2 = 0 ∧ u * m.2.2.1 / m.2.2.2 ≤ M then (u * m.2.2.1 / m.2.2.2, m.2.1, 0) else (0, 0, 7) := by
  obtain ⟨h1, h2, _⟩ := dec_parts u
  unfold amt
  rw [if_pos (okF_dec h), h1, h2, List.append_nil, val_dec]
  simp only [List.length_nil, Nat.pow_zero, Nat.one_mul]
/-- the base units -/
def bases : List (List UInt8) := [[], [108], [108, 112, 104], [109, 109], [104], [109, 50], [112, 101, 114, 109, 105, 108, 108, 101]]
theorem look_base : ∀ d, d < 7 → look (bases.getD d []) = some (bases.getD d [], d, 1, 1) := by decide
theorem amt_back {u d : Nat} (h : u ≤ M) (hd : d < 7) : amt (Lib.decDigits u) (bases.getD d []) = (u, d, 0) := by
  rw [amt_dec (by unfold M at h; omega), look_base d hd]
  simp [h, Nat.mod_one]
/-! ### more zeros -/
end Un
namespace Un
open Go
abbrev Mea := List UInt8 × Nat × Nat × Nat
theorem find_hit {α : Type} {p : α → Bool} {d : α} : ∀ {l : List α} {k : Nat}, k < l.length → (∀ j, j < k → p (l.getD j d) = false) → p (l.getD k d) = true → l.find? p = some (l.getD k d)
  | [], k, hk, _, _ => absurd hk (Nat.not_lt_zero _)
  | x :: l, 0, _, _, h => by
    have h' : p x = true := h
    simp [List.find?, h']
  | x :: l, k + 1, hk, hj, h => by
    have h0 : p x = false := hj 0 (by omega)
    rw [List.find?, h0]
    have hk' : k < l.length := by simpa using hk
    exact find_hit hk' (fun j hjk => hj (j + 1) (by omega)) h
theorem find_miss {α : Type} {p : α → Bool} {d : α} {l : List α} (h : ∀ j, j < l.length → p (l.getD j d) = false) : l.find? p = none := by
  rw [List.find?_eq_none]
  intro x hx
  obtain ⟨i, hi, rfl⟩ := List.mem_iff_getElem.1 hx
  have := h i hi
  simpa [List.getD_eq_getElem?_getD, hi] using this
theorem ms_len : ms.length = 19 := rfl
theorem look_hit {n : List UInt8} {k : Nat} (hk : k < 19) (hj : ∀ j, j < k → (ms.getD j default).1 ≠ n) (h : (ms.getD k default).1 = n) : look n = some (ms.getD k default) :=
  find_hit (d := default) (by rw [ms_len]; exact hk) (fun j hjk => decide_eq_false (hj j hjk)) (decide_eq_true h)
theorem look_miss {n : List UInt8} (hj : ∀ j, j < 19 → (ms.getD j default).1 ≠ n) : look n = none :=
  find_miss (d := default) (fun j hjk => decide_eq_false (hj j (by rw [ms_len] at hjk; exact hjk)))
def fdM (n : List UInt8) : Mea := (look n).getD ([], 0, 0, 0)
theorem base_hit : ∀ k, k < 19 → (ms.getD k default).2.2.1 = 1 → (ms.getD k default).2.2.2 = 1 → (ms.getD k default).1 = bases.getD (ms.getD k default).2.1 [] := by decide
theorem base_some : ∀ d, d < 7 → ∃ k, k < 19 ∧ (ms.getD k default).2.1 = d ∧ (ms.getD k default).2.2.1 = 1 ∧ (ms.getD k default).2.2.2 = 1 := by decide
theorem lt_succ' {p : Nat → Prop} {k : Nat} (h : ∀ j, j < k → p j) (hk : p k) : ∀ j, j < k + 1 → p j := fun j hj => by
  rcases Nat.lt_or_eq_of_le (Nat.le_of_lt_succ hj) with h1 | h1
  · exact h j h1
  · subst h1; exact hk
theorem isD_iff {b : UInt8} : isD b = true ↔ 48 ≤ b.toNat ∧ b.toNat ≤ 57 := by simp [isD]
theorem all_get {l : List UInt8} (h : ∀ j, j < l.length → isD (l.getD j 0) = true) : ∀ b ∈ l, isD b = true := fun b hb => by
  obtain ⟨i, hi, rfl⟩ := List.mem_iff_getElem.1 hb
  have := h i hi
  simpa [List.getD_eq_getElem?_getD, hi] using this
theorem get_all {l : List UInt8} (h : ∀ b ∈ l, isD b = true) {j : Nat} (hj : j < l.length) : isD (l.getD j 0) = true := by
  rw [List.getD_eq_getElem?_getD, List.getElem?_eq_getElem hj]; exact h _ (List.getElem_mem hj)
theorem digs_bad {l : List UInt8} {k : Int} {i : Nat} (hi : i < l.length) (h : isD (l.getD i 0) = false) : digs l k = false := by
  cases hd : digs l k with
  | false => rfl
  | true =>
    unfold digs at hd
    simp only [Bool.and_eq_true, List.all_eq_true] at hd
    rw [get_all hd.1.1 hi] at h; cases h
theorem digs_good {l : List UInt8} {k : Int} (h : ∀ j, j < l.length → isD (l.getD j 0) = true) : digs l k = (decide (1 ≤ l.length) && decide ((l.length : Int) ≤ k)) := by
  unfold digs
  have : l.all isD = true := List.all_eq_true.2 (all_get h)
  rw [this, Bool.true_and]
theorem take_snoc {l : List UInt8} {k : Nat} (hk : k < l.length) : l.take (k + 1) = l.take k ++ [l.getD k 0] := by
  rw [List.take_succ_eq_append_getElem hk]; simp [List.getD_eq_getElem?_getD, hk]
theorem valC_le (l : List UInt8) : valC l ≤ M + 1 := by rw [valC_eq]; omega
end Un
namespace Un
open Go
theorem indexByte_dot : ∀ l : List UInt8, Lib.indexByte l 46 = if pt l then ((bef l).length : Int) else -1
  | [] => rfl
  | b :: l => by
    unfold Lib.indexByte pt bef
    by_cases hb : b = 46
    · subst hb; simp
    · rw [indexByte_dot l]
      cases hp : pt l
      · simp [hb]
      · have : ¬ (((bef l).length : Int) == -1) = true := by simp
        simp [hb]

theorem bef_len (l : List UInt8) : (bef l).length ≤ l.length := by
  cases hp : pt l
  · rw [(bef_np hp).1]; exact Nat.le_refl _
  · have := congrArg List.length (bef_pt hp)
    rw [List.length_append] at this; omega
theorem bef_len' {l : List UInt8} (hp : pt l = true) : (bef l).length + 1 + (aft l).length = l.length := by
  have := congrArg List.length (bef_pt hp)
  rw [List.length_append, List.length_cons] at this; omega
theorem cut_take {l : List UInt8} (hp : pt l = true) : l.take (bef l).length = bef l ∧ l.drop ((bef l).length + 1) = aft l := by
  have e1 : ∀ (x y : List UInt8), l = x ++ 46 :: y → l.take x.length = x ∧ l.drop (x.length + 1) = y := fun x y e => by
    subst e; simp
  exact e1 _ _ (bef_pt hp)
theorem aft_len (l : List UInt8) : (aft l).length ≤ l.length := by
  cases hp : pt l
  · rw [(bef_np hp).2]; exact Nat.zero_le _
  · have := bef_len' hp; omega
end Un
namespace Un
open Go
/-- what 'product' answers: the number, and whether there is one -/
def prod (W : Nat) (l : List UInt8) (m : Mea) : Nat × Bool :=
  if W ≤ M ∧ (W * 10 ^ l.length + val l) * m.2.2.1 % (10 ^ l.length * m.2.2.2) = 0 ∧ (W * 10 ^ l.length + val l) * m.2.2.1 / (10 ^ l.length * m.2.2.2) ≤ M then ((W * 10 ^ l.length + val l) * m.2.2.1 / (10 ^ l.length * m.2.2.2), true) else (0, false)
theorem prod_no {W : Nat} {l : List UInt8} {m : Mea} (h : M < W ∨ (W * 10 ^ l.length + val l) * m.2.2.1 % (10 ^ l.length * m.2.2.2) ≠ 0 ∨ M < (W * 10 ^ l.length + val l) * m.2.2.1 / (10 ^ l.length * m.2.2.2)) : prod W l m = (0, false) := by
  unfold prod
  rw [if_neg]
  rintro ⟨h1, h2, h3⟩
  rcases h with h | h | h
  · omega
  · exact h h2
  · omega
theorem prod_yes {W : Nat} {l : List UInt8} {m : Mea} (h1 : W ≤ M) (h2 : (W * 10 ^ l.length + val l) * m.2.2.1 % (10 ^ l.length * m.2.2.2) = 0) (h3 : (W * 10 ^ l.length + val l) * m.2.2.1 / (10 ^ l.length * m.2.2.2) ≤ M) : prod W l m = ((W * 10 ^ l.length + val l) * m.2.2.1 / (10 ^ l.length * m.2.2.2), true) := by
  unfold prod; rw [if_pos ⟨h1, h2, h3⟩]
end Un
namespace Un
open Go
theorem okF_bef {l : List UInt8} (h : okF l = true) : ∀ b ∈ bef l, isD b = true := fun b hb => okF_all h b (List.mem_append_left _ hb)
theorem okF_aft {l : List UInt8} (h : okF l = true) : ∀ b ∈ aft l, isD b = true := fun b hb => okF_all h b (List.mem_append_right _ hb)
theorem amt_none {l n : List UInt8} (h : okF l = true) (hf : look n = none) : amt l n = (0, 0, 6) := by
  unfold amt; rw [if_pos h, hf]
theorem amt_prod {l n : List UInt8} (h : okF l = true) {m : Mea} (hf : look n = some m) : amt l n = if (prod (valC (bef l)) (aft l) m).2 = true then ((prod (valC (bef l)) (aft l) m).1, m.2.1, 0) else (0, 0, 7) := by
  obtain ⟨_, hn1, _, hd1, _, hdn⟩ := ms_facts m (look_mem hf).1
  unfold amt
  rw [if_pos h, hf]
  simp only [val_append]
  by_cases hw : val (bef l) ≤ M
  · have e : valC (bef l) = val (bef l) := by rw [valC_eq]; omega
    rw [e]
    by_cases h1 : (val (bef l) * 10 ^ (aft l).length + val (aft l)) * m.2.2.1 % (10 ^ (aft l).length * m.2.2.2) = 0
    · by_cases h2 : (val (bef l) * 10 ^ (aft l).length + val (aft l)) * m.2.2.1 / (10 ^ (aft l).length * m.2.2.2) ≤ M
      · rw [if_pos ⟨h1, h2⟩, prod_yes hw h1 h2]; rfl
      · rw [if_neg (fun hh => h2 hh.2), prod_no (.inr (.inr (by omega)))]; rfl
    · rw [if_neg (fun hh => h1 hh.1), prod_no (.inr (.inl h1))]; rfl
  · have e : valC (bef l) = M + 1 := by rw [valC_eq]; omega
    rw [e, prod_no (.inl (by omega))]
    rw [if_neg (fun hh => too_great (F := val (aft l)) (f := (aft l).length) (by omega : M < val (bef l)) hdn hd1 hh.2)]; rfl
/-- what is written -/
def wri (N D : Int) : List UInt8 := if 0 ≤ D ∧ D ≤ 6 ∧ 0 ≤ N ∧ N ≤ M then (if D = 0 then Lib.decDigits N.toNat else Lib.decDigits N.toNat ++ [32] ++ bases.getD D.toNat []) else []
theorem bases_len : ∀ d, (bases.getD d []).length ≤ 8 := fun d => by
  by_cases h : d < 7
  · have : ∀ d, d < 7 → (bases.getD d []).length ≤ 8 := by decide
    exact this d h
  · have : bases.getD d [] = [] := by rw [List.getD_eq_getElem?_getD, List.getElem?_eq_none (by show 7 ≤ d; omega)]; rfl
    rw [this]; simp
end Un
namespace Un
open Go
/-! ### for the reference's walks -/
end Un
