/- More plain facts for the layer of units. Conditions: those of each theorem. -/
import Derived.Test.YthiflhoobldioaaDoorPlain
namespace Un
open Go
theorem okF_bef {l : List UInt8} (h : okF l = true) : ∀ b ∈ bef l, isD b = true := fun b hb => okF_all h b (List.mem_append_left _ hb)
theorem okF_aft {l : List UInt8} (h : okF l = true) : ∀ b ∈ aft l, isD b = true := fun b hb => okF_all h b (List.mem_append_right _ hb)
theorem amt_none {l n : List UInt8} (h : okF l = true) (hf : look n = none) : amt l n = (0, 0, 6) := by
  unfold amt; rw [if_pos h, hf]
theorem amt_prod {l n : List UInt8} (h : okF l = true) {m : Mea} (hf : look n = some m) : amt l n = if (prod (valC (bef l)) (aft l) m).2 = true then ((prod (valC (bef l)) (aft l) m).1, m.2.1, 0) else (0, 0, 7) := by
  obtain ⟨_, hn1, _, hd1, _, hdn⟩ := ms_facts m (look_mem hf).1
  unfold amt
  rw [if_pos h, hf]
  simp only [val_append]
  by_cases hw : val (bef l) ≤ M
  · have e : valC (bef l) = val (bef l) := by rw [valC_eq]; omega
    rw [e]
    by_cases h1 : (val (bef l) * 10 ^ (aft l).length + val (aft l)) * m.2.2.1 % (10 ^ (aft l).length * m.2.2.2) = 0
    · by_cases h2 : (val (bef l) * 10 ^ (aft l).length + val (aft l)) * m.2.2.1 / (10 ^ (aft l).length * m.2.2.2) ≤ M
      · rw [if_pos ⟨h1, h2⟩, prod_yes hw h1 h2]; rfl
      · rw [if_neg (fun hh => h2 hh.2), prod_no (.inr (.inr (by omega)))]; rfl
    · rw [if_neg (fun hh => h1 hh.1), prod_no (.inr (.inl h1))]; rfl
  · have e : valC (bef l) = M + 1 := by rw [valC_eq]; omega
    rw [e, prod_no (.inl (by omega))]
    rw [if_neg (fun hh => too_great (F := val (aft l)) (f := (aft l).length) (by omega : M < val (bef l)) hdn hd1 hh.2)]; rfl
/-- what is written -/
def wri (N D : Int) : List UInt8 := if 0 ≤ D ∧ D ≤ 6 ∧ 0 ≤ N ∧ N ≤ M then (if D = 0 then Lib.decDigits N.toNat else Lib.decDigits N.toNat ++ [32] ++ bases.getD D.toNat []) else []
theorem bases_len : ∀ d, (bases.getD d []).length ≤ 8 := fun d => by
  by_cases h : d < 7
  · have : ∀ d, d < 7 → (bases.getD d []).length ≤ 8 := by decide
    exact this d h
  · have : bases.getD d [] = [] := by rw [List.getD_eq_getElem?_getD, List.getElem?_eq_none (by show 7 ≤ d; omega)]; rfl
    rw [this]; simp
end Un
namespace Un
open Go
/-! ### for the reference's walks -/
def fdF (n : List UInt8) : List UInt8 × Nat × Nat × Nat × Nat := (fac n).getD ([], 0, 0, 0, 0)
theorem fac_none {n : List UInt8} (h : ∀ m ∈ facs, m.1 ≠ n) : fac n = none := by
  unfold fac
  rw [List.find?_eq_none]
  intro x hx
  simpa using h x hx
theorem dl_append (l r : List UInt8) : dl (l ++ r) = dl l ++ dl r := by simp [dl]
/-- a step of Split -/
theorem split_pt {l : List UInt8} {i : Nat} (hi : i < l.length) (hp : pt (l.take i) = true) : bef (l.take (i + 1)) = bef (l.take i) ∧ aft (l.take (i + 1)) = aft (l.take i) ++ [l.getD i 0] ∧ pt (l.take (i + 1)) = true := by
  rw [take_snoc hi]; exact pt_app hp
theorem split_np {l : List UInt8} {i : Nat} (hi : i < l.length) (hp : pt (l.take i) = false) (hb : l.getD i 0 ≠ 46) : bef (l.take (i + 1)) = bef (l.take i) ++ [l.getD i 0] ∧ aft (l.take (i + 1)) = aft (l.take i) ∧ pt (l.take (i + 1)) = false := by
  rw [take_snoc hi]
  obtain ⟨h1, h2, h3⟩ := np_app (p := l.take i) (r := [l.getD i 0]) hp
  rw [h1, h2, h3, (bef_np hp).1, (bef_np hp).2]
  generalize l.getD i 0 = x at *
  simp [bef, aft, pt, hb]
theorem split_dot {l : List UInt8} {i : Nat} (hi : i < l.length) (hp : pt (l.take i) = false) (hb : l.getD i 0 = 46) : bef (l.take (i + 1)) = bef (l.take i) ∧ aft (l.take (i + 1)) = aft (l.take i) ∧ pt (l.take (i + 1)) = true := by
  rw [take_snoc hi, hb]
  obtain ⟨h1, h2, h3⟩ := np_app (p := l.take i) (r := [46]) hp
  rw [h1, h2, h3, (bef_np hp).1, (bef_np hp).2]
  simp [bef, aft, pt]
/-- a byte that is no digit, nor the first point -/
theorem split_bad {l : List UInt8} {i : Nat} (hi : i < l.length) (hd : isD (l.getD i 0) = false) (hb : l.getD i 0 ≠ 46 ∨ pt (l.take i) = true) : okF l = false := by
  cases hok : okF l with
  | false => rfl
  | true =>
    have hall := okF_all hok
    have hm : l.getD i 0 ∈ bef l ++ aft l := by
      have e : l = l.take i ++ (l.getD i 0 :: l.drop (i + 1)) := by
        rw [List.getD_eq_getElem?_getD, List.getElem?_eq_getElem hi, Option.getD_some, ← List.drop_eq_getElem_cons hi, List.take_append_drop]
      cases hp : pt (l.take i) with
      | true =>
        obtain ⟨_, h2, _⟩ := pt_app (p := l.take i) (r := l.getD i 0 :: l.drop (i + 1)) hp
        rw [← e] at h2
        rw [h2]; simp
      | false =>
        have hne : l.getD i 0 ≠ 46 := hb.resolve_right (by rw [hp]; simp)
        obtain ⟨h1, _, _⟩ := np_app (p := l.take i) (r := l.getD i 0 :: l.drop (i + 1)) hp
        rw [← e] at h1
        have h5 : bef (l.getD i 0 :: l.drop (i + 1)) = l.getD i 0 :: bef (l.drop (i + 1)) := by
          conv => lhs; unfold bef
          rw [if_neg hne]
        rw [h1, h5]; simp
    rw [hall _ hm] at hd; cases hd
theorem split_end {l : List UInt8} (hall : ∀ b ∈ bef l ++ aft l, isD b = true) : okF l = (decide (1 ≤ (bef l).length) && decide ((bef l).length ≤ 20) && decide ((aft l).length ≤ 9) && (pt l == decide (0 < (aft l).length))) := by
  unfold okF digs
  have h1 : (bef l).all isD = true := List.all_eq_true.2 fun b hb => hall b (List.mem_append_left _ hb)
  have h2 : (aft l).all isD = true := List.all_eq_true.2 fun b hb => hall b (List.mem_append_right _ hb)
  rw [h1, h2]
  cases hp : pt l with
  | false =>
    rw [(bef_np hp).2]
    simp only [Bool.true_and, Bool.not_false, Bool.true_or, Bool.and_true, List.length_nil]
    rw [Bool.eq_iff_iff]; simp; omega
  | true =>
    rw [Bool.eq_iff_iff]; simp; omega
theorem tim_row {xs : List Int} {k : Int} {p : Nat} (hp : p < (0 :: 0 :: xs).length) : ((0 :: 0 :: xs).take (p + 1) ++ (tm ((0 :: 0 :: xs).drop (p + 1)) k).1).set p (((0 :: 0 :: xs : List Int).getD p 0 * k + (tm ((0 :: 0 :: xs).drop (p + 1)) k).2) % 10) = (0 :: 0 :: xs).take p ++ (tm ((0 :: 0 :: xs).drop p) k).1 := by
  generalize (0 :: 0 :: xs : List Int) = L at *
  have e : L.drop p = L.getD p 0 :: L.drop (p + 1) := by rw [List.drop_eq_getElem_cons hp]; simp [List.getD_eq_getElem?_getD, hp]
  rw [e, tm_cons, List.take_succ_eq_append_getElem hp, List.append_assoc, List.set_append_right _ _ (by simp; omega)]
  congr 1
  simp [Nat.min_eq_left (Nat.le_of_lt hp)]
theorem tim_car {xs : List Int} {k : Int} {p : Nat} (hp : p < (0 :: 0 :: xs).length) : ((0 :: 0 :: xs : List Int).getD p 0 * k + (tm ((0 :: 0 :: xs).drop (p + 1)) k).2) / 10 = (tm ((0 :: 0 :: xs).drop p) k).2 := by
  generalize (0 :: 0 :: xs : List Int) = L at *
  have e : L.drop p = L.getD p 0 :: L.drop (p + 1) := by rw [List.drop_eq_getElem_cons hp]; simp [List.getD_eq_getElem?_getD, hp]
  rw [e, tm_cons]
theorem tim_get {xs : List Int} {k : Int} {p : Nat} (hp : p < (0 :: 0 :: xs).length) : ((0 :: 0 :: xs).take (p + 1) ++ (tm ((0 :: 0 :: xs).drop (p + 1)) k).1).getD p 0 = (0 :: 0 :: xs : List Int).getD p 0 := by
  rw [List.getD_eq_getElem?_getD, List.getElem?_append_left (by rw [List.length_take]; omega), List.getElem?_take, if_pos (by omega), ← List.getD_eq_getElem?_getD]
theorem dgs_two {xs : List Int} (h : Dgs xs) : Dgs (0 :: 0 :: xs) := fun x hx => by
  rcases List.mem_cons.1 hx with rfl | hx
  · omega
  rcases List.mem_cons.1 hx with rfl | hx
  · omega
  exact h x hx
theorem dgs_get {xs : List Int} (h : Dgs xs) (k : Nat) : 0 ≤ xs.getD k 0 ∧ xs.getD k 0 ≤ 9 := by
  by_cases hk : k < xs.length
  · rw [List.getD_eq_getElem?_getD, List.getElem?_eq_getElem hk]; exact h _ (List.getElem_mem hk)
  · rw [List.getD_eq_getElem?_getD, List.getElem?_eq_none (by omega)]; simp
theorem dgs_drop {xs : List Int} (h : Dgs xs) (k : Nat) : Dgs (xs.drop k) := fun x hx => h x (List.mem_of_mem_drop hx)
theorem dgs_take {xs : List Int} (h : Dgs xs) (k : Nat) : Dgs (xs.take k) := fun x hx => h x (List.mem_of_mem_take hx)
theorem takeI_snoc {l : List Int} {k : Nat} (hk : k < l.length) : l.take (k + 1) = l.take k ++ [l.getD k 0] := by
  rw [List.take_succ_eq_append_getElem hk]; simp [List.getD_eq_getElem?_getD, hk]
theorem ov_step {l : List Int} {i : Nat} {k : Int} (hi : i < l.length) : (ov (l.take (i + 1)) k).1 = (ov (l.take i) k).1 ++ [(10 * (ov (l.take i) k).2 + l.getD i 0) / k] ∧ (ov (l.take (i + 1)) k).2 = (10 * (ov (l.take i) k).2 + l.getD i 0) % k := by
  rw [takeI_snoc hi, ov_snoc]; exact ⟨rfl, rfl⟩
/-- the digits from below -/
def DInv (N n : Nat) (q : List UInt8) : Prop := Lib.decDigits N = (if n < 10 then [] else Lib.decDigits (n / 10)) ++ q
theorem dinv_start (N : Nat) : DInv N N [UInt8.ofNat (48 + N % 10)] := by
  unfold DInv
  conv => lhs; unfold Lib.decDigits
  by_cases h : N < 10
  · rw [dif_pos h, if_pos h, Nat.mod_eq_of_lt h]; rfl
  · rw [dif_neg h, if_neg h]
theorem dinv_step {N n : Nat} {q : List UInt8} (h : DInv N n q) (hn : ¬ n < 10) : DInv N (n / 10) ([UInt8.ofNat (48 + n / 10 % 10)] ++ q) := by
  unfold DInv at *
  rw [h, if_neg hn, ← List.append_assoc]
  congr 1
  exact dinv_start (n / 10)
theorem nv_takeS {l : List Int} {i : Nat} (hi : i < l.length) : nv (l.take (i + 1)) = 10 * nv (l.take i) + l.getD i 0 := by rw [takeI_snoc hi, nv_snoc]
theorem amt_fac_if {l n : List UInt8} (h : okF l = true) {m} (hf : fac n = some m) {Q : List Int} {R : Int} (hQ : Q = (ov (lOne l m.2.2.1 m.2.2.2.1) m.2.2.2.2).1) (hR : R = (ov (lOne l m.2.2.1 m.2.2.2.1) m.2.2.2.2).2) :
    Q.length = (bef l).length + (aft l).length + 2 + m.2.2.2.1 ∧ Dgs Q ∧
    (nv (Q.take (Q.length - (aft l).length)) ≤ M → R = 0 → (∀ i, i < (aft l).length → Q.getD (Q.length - 1 - i) 0 = 0) → ((amt l n).1 : Int) = nv (Q.take (Q.length - (aft l).length)) ∧ (amt l n).2.1 = m.2.1 ∧ (amt l n).2.2 = 0) ∧
    ((M : Int) < nv (Q.take (Q.length - (aft l).length)) ∨ R ≠ 0 ∨ (∃ i, i < (aft l).length ∧ Q.getD (Q.length - 1 - i) 0 ≠ 0) → amt l n = (0, 0, 7)) := by
  obtain ⟨_, _, h2, _, h4, _⟩ := facs_facts m (fac_mem hf).1
  obtain ⟨q1, q2, q3, q4⟩ := ref_quot h (c := m.2.2.1) (z := m.2.2.2.1) (e := m.2.2.2.2) h2 h4
  rw [← hQ] at q1 q3 q4
  rw [← hR] at q2
  obtain ⟨t1, t2⟩ := tail_facts q4 (a := (aft l).length) (by omega) q1
  refine ⟨q3, q4, fun hb hr hz => ?_, fun hh => ?_⟩
  · rw [t1] at hb ⊢
    rw [q2] at hr
    rw [amt_fac h hf, if_pos ⟨by exact_mod_cast hr, t2.1 hz, by exact_mod_cast hb⟩]
    exact ⟨rfl, rfl, rfl⟩
  · rw [amt_fac h hf, if_neg]
    rintro ⟨c1, c2, c3⟩
    rcases hh with hh | hh | ⟨i, hi, hh⟩
    · rw [t1] at hh
      have : (M : Int) < (M : Int) := Int.lt_of_lt_of_le hh (by exact_mod_cast c3)
      omega
    · exact hh (by rw [q2, c1]; rfl)
    · exact hh (t2.2 c2 i hi)
end Un
