/- Lemmas. Conditions: those of each theorem. -/
import Derived.Lib.IndexMore
import Derived.Test.YtnfmjfheciihjaaGreatDoorYLibA
import Derived.Lib.LaidTab
import Derived.Test.YtnfmjfheciihjaaGreatDoorYTop
import Derived.LaidMore
import Derived.LaidLaws
import Derived.LaidHandle
import Derived.OpenShut
set_option maxRecDepth 8000
set_option maxHeartbeats 16000000
namespace Un
open Go
def M : Nat := 1125899906842624
def isD (b : UInt8) : Bool := decide (48 ≤ b.toNat) && decide (b.toNat ≤ 57)
def dg (b : UInt8) : Nat := b.toNat - 48
theorem dg_le {b : UInt8} (h : isD b = true) : dg b ≤ 9 := by
  simp only [isD, Bool.and_eq_true, decide_eq_true_eq] at h
  unfold dg; omega
def stepV (n : Nat) (b : UInt8) : Nat := 10 * n + dg b
def val (l : List UInt8) : Nat := l.foldl stepV 0
def stepC (n : Nat) (b : UInt8) : Nat := min (10 * n + dg b) (M + 1)
def valC (l : List UInt8) : Nat := l.foldl stepC 0
theorem foldC (l : List UInt8) : ∀ n, l.foldl stepC (min n (M + 1)) = min (l.foldl stepV n) (M + 1) := by
  induction l with
  | nil => intro n; rfl
  | cons b l ih =>
    intro n
    rw [List.foldl_cons, List.foldl_cons, ← ih]
    congr 1
    unfold stepC stepV M; omega
theorem valC_eq (l : List UInt8) : valC l = min (val l) (M + 1) := by
  have := foldC l 0
  rwa [show min 0 (M + 1) = 0 by unfold M; omega] at this
theorem valC_snoc (l : List UInt8) (b : UInt8) : valC (l ++ [b]) = min (10 * valC l + dg b) (M + 1) := by
  unfold valC; rw [List.foldl_append]; rfl
theorem foldV (l : List UInt8) : ∀ n, l.foldl stepV n = n * 10 ^ l.length + val l := by
  induction l with
  | nil => intro n; simp [val]
  | cons b l ih =>
    intro n
    have h := ih (stepV 0 b)
    unfold val
    rw [List.foldl_cons, List.foldl_cons, ih, h]
    simp only [stepV, List.length_cons, Nat.pow_succ, Nat.mul_zero, Nat.zero_add, Nat.add_mul]
    rw [Nat.mul_comm 10 n, Nat.mul_assoc, Nat.mul_comm 10 (10 ^ l.length)]
    omega
theorem val_append (l r : List UInt8) : val (l ++ r) = val l * 10 ^ r.length + val r := by
  unfold val; rw [List.foldl_append]; exact foldV r _
theorem val_lt {l : List UInt8} (h : ∀ b ∈ l, isD b = true) : val l < 10 ^ l.length := by
  induction l with
  | nil => simp [val]
  | cons b l ih =>
    have h1 := ih (fun x hx => h x (by simp [hx]))
    have h2 := dg_le (h b (by simp))
    have e : val (b :: l) = dg b * 10 ^ l.length + val l := by
      have := foldV l (stepV 0 b)
      unfold val; rw [List.foldl_cons, this]; simp [stepV, val]
    have h3 : dg b * 10 ^ l.length ≤ 9 * 10 ^ l.length := Nat.mul_le_mul_right _ h2
    rw [e, List.length_cons, Nat.pow_succ]
    omega
/-! ### the parts of a number -/
def bef : List UInt8 → List UInt8
  | [] => []
  | b :: l => if b = 46 then [] else b :: bef l
def aft : List UInt8 → List UInt8
  | [] => []
  | b :: l => if b = 46 then l else aft l
def pt : List UInt8 → Bool
  | [] => false
  | b :: l => if b = 46 then true else pt l
theorem bef_pt : ∀ {l : List UInt8}, pt l = true → l = bef l ++ 46 :: aft l
  | [], h => by cases h
  | b :: l, h => by
    unfold pt at h
    unfold bef aft
    by_cases hb : b = 46
    · subst hb; simp
    · rw [if_neg hb] at h ⊢
      rw [if_neg hb]
      rw [List.cons_append, ← bef_pt h]
theorem bef_np : ∀ {l : List UInt8}, pt l = false → bef l = l ∧ aft l = []
  | [], _ => ⟨rfl, rfl⟩
  | b :: l, h => by
    unfold pt at h
    unfold bef aft
    by_cases hb : b = 46
    · subst hb; simp at h
    · rw [if_neg hb] at h ⊢
      rw [if_neg hb, (bef_np h).1, (bef_np h).2]; exact ⟨rfl, rfl⟩
def digs (l : List UInt8) (k : Int) : Bool := l.all isD && decide (1 ≤ l.length) && decide ((l.length : Int) ≤ k)
def okF (l : List UInt8) : Bool := digs (bef l) 20 && (!pt l || digs (aft l) 9)
/-! ### units -/
def ms : List (List UInt8 × Nat × Nat × Nat) := [([], 0, 1, 1), ([108], 1, 1, 1), ([109, 51], 1, 1000, 1), ([77, 76], 1, 1000000, 1), ([71, 76], 1, 1000000000, 1), ([108, 112, 104], 2, 1, 1), ([108, 112, 115], 2, 3600, 1), ([109, 51, 112, 115], 2, 3600000, 1), ([77, 76, 112, 100], 2, 1000000, 24), ([109, 109], 3, 1, 1), ([99, 109], 3, 10, 1), ([109], 3, 1000, 1), ([104], 4, 1, 1), ([100], 4, 24, 1), ([109, 50], 5, 1, 1), ([104, 97], 5, 10000, 1), ([107, 109, 50], 5, 1000000, 1), ([112, 101, 114, 109, 105, 108, 108, 101], 6, 1, 1), ([112, 101, 114, 99, 101, 110, 116], 6, 10, 1)]
def look (n : List UInt8) : Option (List UInt8 × Nat × Nat × Nat) := ms.find? fun m => decide (m.1 = n)
def amt (l n : List UInt8) : Nat × Nat × Nat :=
  if okF l then match look n with
    | none => (0, 0, 6)
    | some m => if val (bef l ++ aft l) * m.2.2.1 % (10 ^ (aft l).length * m.2.2.2) = 0 ∧ val (bef l ++ aft l) * m.2.2.1 / (10 ^ (aft l).length * m.2.2.2) ≤ M then (val (bef l ++ aft l) * m.2.2.1 / (10 ^ (aft l).length * m.2.2.2), m.2.1, 0) else (0, 0, 7)
  else (0, 0, 2)
theorem ms_facts : ∀ m ∈ ms, m.2.1 ≤ 6 ∧ 1 ≤ m.2.2.1 ∧ m.2.2.1 ≤ 1000000000 ∧ 1 ≤ m.2.2.2 ∧ m.2.2.2 ≤ 24 ∧ m.2.2.2 ≤ m.2.2.1 := by decide
theorem look_mem {n : List UInt8} {m} (h : look n = some m) : m ∈ ms ∧ m.1 = n := by
  unfold look at h
  exact ⟨List.mem_of_find?_eq_some h, by simpa using List.find?_some h⟩
theorem too_great {W F num D f : Nat} (hw : M < W) (hn : D ≤ num) (hD : 1 ≤ D) : ¬ (W * 10 ^ f + F) * num / (10 ^ f * D) ≤ M := by
  intro h
  have hp : 0 < 10 ^ f := Nat.pow_pos (by omega)
  have hd : 0 < 10 ^ f * D := Nat.mul_pos hp hD
  have h1 : W * (10 ^ f * D) ≤ (W * 10 ^ f + F) * num := by
    calc W * (10 ^ f * D) = W * 10 ^ f * D := by rw [Nat.mul_assoc]
      _ ≤ W * 10 ^ f * num := Nat.mul_le_mul_left _ hn
      _ ≤ (W * 10 ^ f + F) * num := Nat.mul_le_mul_right _ (by omega)
  have h2 := (Nat.le_div_iff_mul_le hd).2 h1
  omega
/-! ### lists of digits -/
def ovs (k : Int) (a : List Int × Int) (x : Int) : List Int × Int := (a.1 ++ [(10 * a.2 + x) / k], (10 * a.2 + x) % k)
def ov (l : List Int) (k : Int) : List Int × Int := l.foldl (ovs k) ([], 0)
end Un
namespace Un
open Go
/-! ### the reference's way -/
theorem okF_all {l : List UInt8} (h : okF l = true) : ∀ b ∈ bef l ++ aft l, isD b = true := by
  unfold okF digs at h
  simp only [Bool.and_eq_true, List.all_eq_true, decide_eq_true_eq, Bool.or_eq_true, Bool.not_eq_true'] at h
  intro b hb
  rcases List.mem_append.1 hb with hb | hb
  · exact h.1.1.1 b hb
  · rcases h.2 with h2 | h2
    · rw [(bef_np h2).2] at hb; cases hb
    · exact h2.1.1 b hb
theorem okF_len {l : List UInt8} (h : okF l = true) : 1 ≤ (bef l).length ∧ (bef l).length ≤ 20 ∧ (aft l).length ≤ 9 ∧ (pt l = true → 1 ≤ (aft l).length) := by
  unfold okF digs at h
  simp only [Bool.and_eq_true, List.all_eq_true, decide_eq_true_eq, Bool.or_eq_true, Bool.not_eq_true'] at h
  refine ⟨h.1.1.2, by omega, ?_, ?_⟩
  · rcases h.2 with h2 | h2
    · rw [(bef_np h2).2]; simp
    · omega
  · intro hp
    rcases h.2 with h2 | h2
    · rw [hp] at h2; cases h2
    · exact h2.1.2
/-! ### the ends of the reference's Amount -/
theorem amt_form {l n : List UInt8} (h : okF l = false) : amt l n = (0, 0, 2) := by unfold amt; rw [if_neg (by simp [h])]
end Un
namespace Un
open Go
/-! ### what is written -/
/-! ### more zeros -/
end Un
namespace Un
open Go
abbrev Mea := List UInt8 × Nat × Nat × Nat
theorem find_hit {α : Type} {p : α → Bool} {d : α} : ∀ {l : List α} {k : Nat}, k < l.length → (∀ j, j < k → p (l.getD j d) = false) → p (l.getD k d) = true → l.find? p = some (l.getD k d)
  | [], k, hk, _, _ => absurd hk (Nat.not_lt_zero _)
  | x :: l, 0, _, _, h => by
    have h' : p x = true := h
    simp [List.find?, h']
  | x :: l, k + 1, hk, hj, h => by
    have h0 : p x = false := hj 0 (by omega)
    rw [List.find?, h0]
    have hk' : k < l.length := by simpa using hk
    exact find_hit hk' (fun j hjk => hj (j + 1) (by omega)) h
theorem find_miss {α : Type} {p : α → Bool} {d : α} {l : List α} (h : ∀ j, j < l.length → p (l.getD j d) = false) : l.find? p = none := by
  rw [List.find?_eq_none]
  intro x hx
  obtain ⟨i, hi, rfl⟩ := List.mem_iff_getElem.1 hx
  have := h i hi
  simpa [gDD, hi] using this
theorem ms_len : ms.length = 19 := rfl
theorem look_hit {n : List UInt8} {k : Nat} (hk : k < 19) (hj : ∀ j, j < k → (ms.getD j default).1 ≠ n) (h : (ms.getD k default).1 = n) : look n = some (ms.getD k default) :=
  find_hit (d := default) (by rw [ms_len]; exact hk) (fun j hjk => decide_eq_false (hj j hjk)) (decide_eq_true h)
theorem look_miss {n : List UInt8} (hj : ∀ j, j < 19 → (ms.getD j default).1 ≠ n) : look n = none :=
  find_miss (d := default) (fun j hjk => decide_eq_false (hj j (by rw [ms_len] at hjk; exact hjk)))
def fdM (n : List UInt8) : Mea := (look n).getD ([], 0, 0, 0)
theorem lt_succ' {p : Nat → Prop} {k : Nat} (h : ∀ j, j < k → p j) (hk : p k) : ∀ j, j < k + 1 → p j := fun j hj => by
  rcases Nat.lt_or_eq_of_le (Nat.le_of_lt_succ hj) with h1 | h1
  · exact h j h1
  · subst h1; exact hk
theorem isD_iff {b : UInt8} : isD b = true ↔ 48 ≤ b.toNat ∧ b.toNat ≤ 57 := by simp [isD]
theorem all_get {l : List UInt8} (h : ∀ j, j < l.length → isD (l.getD j 0) = true) : ∀ b ∈ l, isD b = true := fun b hb => by
  obtain ⟨i, hi, rfl⟩ := List.mem_iff_getElem.1 hb
  have := h i hi
  simpa [gDD, hi] using this
theorem get_all {l : List UInt8} (h : ∀ b ∈ l, isD b = true) {j : Nat} (hj : j < l.length) : isD (l.getD j 0) = true := by
  rw [gDD, List.getElem?_eq_getElem hj]; exact h _ (List.getElem_mem hj)
theorem digs_bad {l : List UInt8} {k : Int} {i : Nat} (hi : i < l.length) (h : isD (l.getD i 0) = false) : digs l k = false := by
  cases hd : digs l k with
  | false => rfl
  | true =>
    unfold digs at hd
    simp only [Bool.and_eq_true, List.all_eq_true] at hd
    rw [get_all hd.1.1 hi] at h; cases h
theorem digs_good {l : List UInt8} {k : Int} (h : ∀ j, j < l.length → isD (l.getD j 0) = true) : digs l k = (decide (1 ≤ l.length) && decide ((l.length : Int) ≤ k)) := by
  unfold digs
  have : l.all isD = true := List.all_eq_true.2 (all_get h)
  rw [this, Bool.true_and]
theorem take_snoc {l : List UInt8} {k : Nat} (hk : k < l.length) : l.take (k + 1) = l.take k ++ [l.getD k 0] := by
  rw [List.take_succ_eq_append_getElem hk]; simp [hk]
theorem valC_le (l : List UInt8) : valC l ≤ M + 1 := by rw [valC_eq]; omega
end Un
namespace Un
open Go
theorem indexByte_dot : ∀ l : List UInt8, Lib.indexByte l 46 = if pt l then ((bef l).length : Int) else -1
  | [] => rfl
  | b :: l => by
    unfold Lib.indexByte pt bef
    by_cases hb : b = 46
    · subst hb; simp
    · rw [indexByte_dot l]
      cases hp : pt l
      · simp [hb]
      · have : ¬ (((bef l).length : Int) == -1) = true := by simp
        simp [hb]

theorem bef_len (l : List UInt8) : (bef l).length ≤ l.length := by
  cases hp : pt l
  · rw [(bef_np hp).1]; exact Nat.le_refl _
  · have := congrArg List.length (bef_pt hp)
    rw [List.length_append] at this; omega
theorem bef_len' {l : List UInt8} (hp : pt l = true) : (bef l).length + 1 + (aft l).length = l.length := by
  have := congrArg List.length (bef_pt hp)
  rw [List.length_append, List.length_cons] at this; omega
theorem cut_take {l : List UInt8} (hp : pt l = true) : l.take (bef l).length = bef l ∧ l.drop ((bef l).length + 1) = aft l := by
  have e1 : ∀ (x y : List UInt8), l = x ++ 46 :: y → l.take x.length = x ∧ l.drop (x.length + 1) = y := fun x y e => by
    subst e; simp
  exact e1 _ _ (bef_pt hp)
theorem aft_len (l : List UInt8) : (aft l).length ≤ l.length := by
  cases hp : pt l
  · rw [(bef_np hp).2]; exact Nat.zero_le _
  · have := bef_len' hp; omega
end Un
namespace Un
open Go
def prod (W : Nat) (l : List UInt8) (m : Mea) : Nat × Bool :=
  if W ≤ M ∧ (W * 10 ^ l.length + val l) * m.2.2.1 % (10 ^ l.length * m.2.2.2) = 0 ∧ (W * 10 ^ l.length + val l) * m.2.2.1 / (10 ^ l.length * m.2.2.2) ≤ M then ((W * 10 ^ l.length + val l) * m.2.2.1 / (10 ^ l.length * m.2.2.2), true) else (0, false)
theorem prod_no {W : Nat} {l : List UInt8} {m : Mea} (h : M < W ∨ (W * 10 ^ l.length + val l) * m.2.2.1 % (10 ^ l.length * m.2.2.2) ≠ 0 ∨ M < (W * 10 ^ l.length + val l) * m.2.2.1 / (10 ^ l.length * m.2.2.2)) : prod W l m = (0, false) := by
  unfold prod
  rw [if_neg]
  rintro ⟨h1, h2, h3⟩
  rcases h with h | h | h
  · omega
  · exact h h2
  · omega
theorem prod_yes {W : Nat} {l : List UInt8} {m : Mea} (h1 : W ≤ M) (h2 : (W * 10 ^ l.length + val l) * m.2.2.1 % (10 ^ l.length * m.2.2.2) = 0) (h3 : (W * 10 ^ l.length + val l) * m.2.2.1 / (10 ^ l.length * m.2.2.2) ≤ M) : prod W l m = ((W * 10 ^ l.length + val l) * m.2.2.1 / (10 ^ l.length * m.2.2.2), true) := by
  unfold prod; rw [if_pos ⟨h1, h2, h3⟩]
end Un
namespace Go.Proofs.YtnfmjfheciihjaaGreatDoor
open Go Go.K Go.RowKit
attribute [local irreducible] AW RW DW Post Qt
def mCells : List Value := Un.ms.flatMap fun m => [.string (bs m.1), iV (m.2.1 : Int), iV (m.2.2.1 : Int), iV (m.2.2.2 : Int)]
theorem flat4 {α β : Type} (f : α → List β) (h : ∀ x, (f x).length = 4) : ∀ (l : List α) (d : α) (k j : Nat), k < l.length → j < 4 → (l.flatMap f)[k * 4 + j]? = (f (l.getD k d))[j]?
 | [], _, _, _, hk, _ => absurd hk (Nat.not_lt_zero _)
 | x :: l, d, 0, j, _, hj => by rw [List.flatMap_cons, Nat.zero_mul, Nat.zero_add, List.getElem?_append_left (by rw [h]; exact hj)]; rfl
 | x :: l, d, k + 1, j, hk, hj => by
  rw [List.flatMap_cons, List.getElem?_append_right (by rw [h]; omega), h, show (k + 1) * 4 + j - 4 = k * 4 + j by omega, flat4 f h l d k j (by simpa using hk) hj]; rfl
def Glob (w : World) : Prop := (∀ j v, mCells[j]? = some v → w.cell? ⟨2, j, none⟩ = some v) ∧ (∀ (j : Nat) (v : Value), [Value.string (bs [111, 114]), iV 12, .string (bs [111, 114]), iV 12, .string (bs [97, 110, 100]), iV 11, .string (bs [97, 110, 100]), iV 11, .string (bs [43]), iV 4, .string (bs [45]), iV 5, .string (bs [42]), iV 6, .string (bs [47]), iV 7][j]? = some v → w.cell? ⟨1, j, none⟩ = some v) ∧ (∀ (j : Nat) (v : Value), [Value.int .i64 31, iV 29, iV 31, iV 30, iV 31, iV 30, iV 31, iV 31, iV 30, iV 31, iV 30, iV 31][j]? = some v → w.cell? ⟨0, j, none⟩ = some v)
theorem glob_cells {B : Bs} {Φ : Hp} {C : List Chunk} (h : Knows Φ Glob) : Cells (St B Φ C) ⟨2, 0, none⟩ mCells := fun j v hv w hw => by
 have e : (⟨2, 0, none⟩ : Addr).add j = ⟨2, j, none⟩ := by simp only [Addr.add]; split <;> simp_all
 rw [e]; exact (h w hw.phi).1 j v hv
theorem mea_at {k : Nat} (hk : k < 19) {m : Un.Mea} (hm : Un.ms.getD k default = m) : ∀ j v, [Value.string (bs m.1), iV (m.2.1 : Int), iV (m.2.2.1 : Int), iV (m.2.2.2 : Int)][j]? = some v → mCells.toArray[(k : Int).toNat * 4 + j]? = some v := fun j v hv => by
 have hj : j < 4 := (List.getElem?_eq_some_iff.1 hv).1
 subst hm
 have h := flat4 (fun m : Un.Mea => [Value.string (bs m.1), iV (m.2.1 : Int), iV (m.2.2.1 : Int), iV (m.2.2.2 : Int)]) (fun _ => rfl) Un.ms default k j (by rw [Un.ms_len]; exact hk) hj
 rw [Int.toNat_natCast, List.getElem?_toArray]
 exact h.trans hv
theorem sz216 : (Tryz.prog.info? 216).map (·.size) = some 76 := by kernel_rfl
theorem add64_run (x y : Nat) (w : World) : (add64Entry [Value.int .u64 (x : Int), .int .u64 (y : Int), .int .u64 ((0 : Nat) : Int)].toArray).run Tryz.prog w = .ok (.tuple #[.int .u64 (((x + y) % 18446744073709551616 : Nat) : Int), .int .u64 (((x + y) / 18446744073709551616 : Nat) : Int)]) w := by
 have h := run_add64 (P := Tryz.prog) (x : Int) (y : Int) 0 (by omega) (by omega) (by omega) (by omega) w
 rw [show [Value.int .u64 (x : Int), .int .u64 (y : Int), .int .u64 ((0 : Nat) : Int)].toArray = #[.int .u64 (x : Int), .int .u64 (y : Int), .int .u64 0] from rfl, h]
 congr 4 <;> simp <;> omega
theorem digits_c (w : World) (Φ : Hp) (hΦ : Hp.le Φ (hp w)) {l : List UInt8} (hl : l.length ≤ 1099511627776) {n : Int} :
  Calls Tryz.prog 152 #[.string (bs l), iV n] w fun e w' => e = .returned (.bool (Un.digs l n)) ∧ Bel w.heap.size w w' := by
 refine calls_of_AW (args := [.string (bs l), iV n]) Tryz.func152 rfl (lBT rfl) (St ⟨w, Φ, []⟩ Φ []) (StP.init w Φ hΦ []) ?_
 show AW Tryz.prog 31 [] _ _ _ [(0, .string (bs l)), (1, iV n)] _
 refine g9 ?_
 refine RW.q (v := iV (l.length : Int)) rfl (q_lenS (l := l) rfl uT9) ?_
 refine g4 ?_
 refine AW.loop (fun s J m => ∃ (k : Nat), s = [(0, .string (bs l)), (1, iV n), (7, iV (l.length : Int)), (8, iV (k : Int))] ∧ J = St ⟨w, Φ, []⟩ Φ [] ∧ m = l.length - k ∧ (k ≤ l.length) ∧ (∀ j, j < k → Un.isD (l.getD j 0) = true)) (s0 := _) (J1 := _) (m0 := _) ⟨0, rfl, rfl, rfl, (by omega), (by omega)⟩ ⟨rfl, rfl, rfl, rfl, trivial⟩ (fun _ h => h) ?_
 rintro _ _ _ _ ⟨k, rfl, rfl, rfl, hk, hall⟩
 refine g6 ?_
 refine AW.cond rfl (fun hc1 => ?_) fun hc1 => ?_
 ·
  simp [-List.getD_eq_getElem?_getD] at hc1
  refine g14 ?_
  refine RW.q (v := .int .u8 (((l.getD k 0).toNat : Nat) : Int)) rfl (q_indexS (l := l) (i := (k : Int)) rfl rfl uT9 (by omega) (by omega)) (RW.q (v := .bool (decide ((((l.getD k 0).toNat : Nat) : Int) < ((48 : Nat) : Int)))) rfl (q_lss (a := (((l.getD k 0).toNat : Nat) : Int)) (b := ((48 : Nat) : Int)) rfl rfl) ?_)
  refine g3 ?_
  refine RW.g (b := (decide ((((l.getD k 0).toNat : Nat) : Int) < ((48 : Nat) : Int)))) (v := .int .u8 (((l.getD k 0).toNat : Nat) : Int)) rfl rfl rfl (fun h => q_indexS (l := l) (i := (k : Int)) (gv_pos h) (gv_pos h) uT9 (by (try simp [-List.getD_eq_getElem?_getD] at h); omega) (by (try simp [-List.getD_eq_getElem?_getD] at h); omega)) ?_
  refine RW.g (b := (decide ((((l.getD k 0).toNat : Nat) : Int) < ((48 : Nat) : Int)))) (v := .bool (decide (((57 : Nat) : Int) < (((l.getD k 0).toNat : Nat) : Int)))) rfl rfl rfl (fun h => q_gtr (a := (((l.getD k 0).toNat : Nat) : Int)) (b := ((57 : Nat) : Int)) (gv_pos h) rfl) ?_
  obtain ⟨qb1, hqb1⟩ : ∃ qz : Bool, ((decide ((((l.getD k 0).toNat : Nat) : Int) < ((48 : Nat) : Int))) || (decide (((57 : Nat) : Int) < (((l.getD k 0).toNat : Nat) : Int)))) = qz := ⟨_, rfl⟩
  refine RW.q (v := .bool qb1) rfl (q_as (v := .bool ((decide ((((l.getD k 0).toNat : Nat) : Int) < ((48 : Nat) : Int))) || (decide (((57 : Nat) : Int) < (((l.getD k 0).toNat : Nat) : Int))))) (qpO rfl rfl rfl) (congrArg Value.bool hqb1)) ?_
  subst hqb1
  refine g2 ?_
  refine AW.cond rfl (fun hc2 => ?_) fun hc2 => ?_
  ·
   simp [-List.getD_eq_getElem?_getD] at hc2
   refine g1 ?_
   have hbad : Un.isD (l.getD k 0) = false := by
    cases hd : Un.isD (l.getD k 0) with
    | false => rfl
    | true => rw [Un.isD_iff] at hd; omega
   refine g10 ?_
   exact fin_val (v' := .bool false) rfl rfl rfl (by rw [Un.digs_bad (by omega) hbad])
  ·
   simp [-List.getD_eq_getElem?_getD] at hc2
   refine g7 ?_
   exact Post.back (s' := _) (J' := _) (m' := _) (by omega) ⟨k + 1, rfl, rfl, rfl, (by omega), (Un.lt_succ' hall (by rw [Un.isD_iff]; omega))⟩ ⟨rfl, rfl, rfl, rfl, trivial⟩ (fun _ h => h)
 ·
  simp [-List.getD_eq_getElem?_getD] at hc1
  refine g8 ?_
  refine RW.q (v := iV (l.length : Int)) rfl (q_lenS (l := l) rfl uT9) ?_
  refine g3 ?_
  refine RW.g (b := (decide ((1 : Int) ≤ (l.length : Int)))) (v := iV (l.length : Int)) rfl rfl rfl (fun h => q_lenS (l := l) (gv_pos h) uT9) ?_
  refine g2 ?_
  obtain ⟨qb2, hqb2⟩ : ∃ qz : Bool, ((decide ((1 : Int) ≤ (l.length : Int))) && (decide ((l.length : Int) ≤ n))) = qz := ⟨_, rfl⟩
  refine RW.q (v := .bool qb2) rfl (q_as (v := .bool ((decide ((1 : Int) ≤ (l.length : Int))) && (decide ((l.length : Int) ≤ n)))) (qpA rfl rfl rfl) (congrArg Value.bool hqb2)) ?_
  refine g1 ?_
  subst hqb2
  refine g3 ?_
  exact fin_val (v' := .bool ((decide ((1 : Int) ≤ (l.length : Int))) && (decide ((l.length : Int) ≤ n)))) rfl rfl rfl (by rw [Un.digs_good (fun j hj => hall j (by omega))]; congr 2; simp only [decide_eq_decide]; omega)
theorem value_c (w : World) (Φ : Hp) (hΦ : Hp.le Φ (hp w)) {l : List UInt8} (hl : l.length ≤ 1099511627776) (hd : ∀ b ∈ l, Un.isD b = true) :
  Calls Tryz.prog 155 #[.string (bs l)] w fun e w' => e = .returned (iV (Un.valC l : Int)) ∧ Bel w.heap.size w w' := by
 refine calls_of_AW (args := [.string (bs l)]) Tryz.func155 rfl (lBT rfl) (St ⟨w, Φ, []⟩ Φ []) (StP.init w Φ hΦ []) ?_
 show AW Tryz.prog 21 [] _ _ _ [(0, .string (bs l))] _
 refine g14 ?_
 refine RW.q (v := iV (l.length : Int)) rfl (q_lenS (l := l) rfl uT9) ?_
 refine g4 ?_
 refine AW.loop (fun s J m => ∃ (k : Nat), s = [(0, .string (bs l)), (6, iV (l.length : Int)), (7, iV (k : Int)), (3, iV ((Un.valC (l.take k) : Nat) : Int))] ∧ J = St ⟨w, Φ, []⟩ Φ [] ∧ m = l.length - k ∧ (k ≤ l.length)) (s0 := _) (J1 := _) (m0 := _) ⟨0, rfl, rfl, rfl, (by omega)⟩ ⟨rfl, rfl, rfl, rfl, trivial⟩ (fun _ h => h) ?_
 rintro _ _ _ _ ⟨k, rfl, rfl, rfl, hk⟩
 refine g6 ?_
 refine AW.cond rfl (fun hc1 => ?_) fun hc1 => ?_
 ·
  simp [-List.getD_eq_getElem?_getD] at hc1
  refine g5 ?_
  have hdk := Un.get_all hd (show k < l.length by omega)
  rw [Un.isD_iff] at hdk
  have hvl := Un.valC_le (l.take k)
  unfold Un.M at hvl
  refine g7 ?_
  refine RW.q (v := iV (10 * ((Un.valC (l.take k) : Nat) : Int))) rfl (q_mul rfl rfl rfl (by unfold I64; omega)) ?_
  refine g2 ?_
  refine RW.q (v := .int .u8 (((l.getD k 0).toNat : Nat) : Int)) rfl (q_indexS (l := l) (i := (k : Int)) rfl rfl uT9 (by omega) (by omega)) (RW.q (v := .int .u8 ((((l.getD k 0).toNat) - 48 : Nat) : Int)) rfl (q_subB (a := ((l.getD k 0).toNat)) (b := 48) rfl rfl (by omega) rfl (by have := UInt8.toNat_lt (l.getD k 0); omega)) (RW.q (v := iV ((((l.getD k 0).toNat) - 48 : Nat) : Int)) rfl (q_toK (k := .i64) rfl uT5 uT3 (wrap64_of (by have := UInt8.toNat_lt (l.getD k 0); unfold I64; omega))) ?_))
  refine g1 ?_
  refine RW.q (v := iV ((Un.valC (l.take (k + 1)) : Nat) : Int)) rfl (q_as (v := iV (min ((10 * ((Un.valC (l.take k) : Nat) : Int)) + ((((l.getD k 0).toNat) - 48 : Nat) : Int)) 1125899906842625)) (q_min rfl rfl) (congrArg (Value.int .i64) (by rw [Un.take_snoc (show k < l.length by omega), Un.valC_snoc]; unfold Un.dg Un.M; omega))) ?_
  refine g8 ?_
  exact Post.back (s' := _) (J' := _) (m' := _) (by omega) ⟨k + 1, rfl, rfl, rfl, (by omega)⟩ ⟨rfl, rfl, rfl, rfl, trivial⟩ (fun _ h => h)
 ·
  simp [-List.getD_eq_getElem?_getD] at hc1
  refine g12 ?_
  exact fin_val (v' := iV ((Un.valC (l.take k) : Nat) : Int)) rfl rfl rfl (by rw [List.take_of_length_le (by omega)])
theorem find_c (w : World) (Φ : Hp) (hΦ : Hp.le Φ (hp w)) (hG : Knows Φ Glob) {l : List UInt8} :
  Calls Tryz.prog 153 #[.string (bs l)] w fun e w' => e = .returned (.tuple #[.agg #[.string (bs ((Un.fdM l).1)), iV (((Un.fdM l).2.1 : Nat) : Int), iV (((Un.fdM l).2.2.1 : Nat) : Int), iV (((Un.fdM l).2.2.2 : Nat) : Int)], .bool (Un.look l).isSome]) ∧ Bel w.heap.size w w' := by
 refine calls_of_AW (args := [.string (bs l)]) Tryz.func153 rfl (lBT rfl) (St ⟨w, Φ, []⟩ Φ []) (StP.init w Φ hΦ []) ?_
 show AW Tryz.prog 17 [] _ _ _ [(0, .string (bs l))] _
 refine g2 ?_
 refine RW.alc rfl fun b1 => ?_
 refine g6 ?_
 refine RW.q (v := .agg mCells.toArray) rfl (q_loadAgg rfl uT216 rfl sz216 rfl (glob_cells hG)) ?_
 refine g4 ?_
 refine AW.loop (fun s J m => ∃ (k : Nat), s = [(0, .string (bs l)), (2, pV b1 0), (3, .bool false), (6, .agg mCells.toArray), (7, iV (k : Int))] ∧ J = St ⟨w, Φ, []⟩ Φ [.blk b1 212 [.string (bs ([])), iV 0, iV 0, iV 0]] ∧ m = 19 - k ∧ (k ≤ 19) ∧ (∀ j, j < k → (Un.ms.getD j default).1 ≠ l)) (s0 := _) (J1 := _) (m0 := _) ⟨0, rfl, rfl, rfl, (by omega), (by omega)⟩ ⟨rfl, rfl, rfl, rfl, rfl, trivial⟩ (fun _ h => h) ?_
 rintro _ _ _ _ ⟨k, rfl, rfl, rfl, hk, hne⟩
 refine g6 ?_
 refine AW.cond rfl (fun hc1 => ?_) fun hc1 => ?_
 ·
  simp [-List.getD_eq_getElem?_getD] at hc1
  refine g6 ?_
  refine RW.q (v := .agg #[.string (bs ((Un.ms.getD k default).1)), iV (((Un.ms.getD k default).2.1 : Nat) : Int), iV (((Un.ms.getD k default).2.2.1 : Nat) : Int), iV (((Un.ms.getD k default).2.2.2 : Nat) : Int)]) rfl (q_indexArr (es := [.string (bs ((Un.ms.getD k default).1)), iV (((Un.ms.getD k default).2.1 : Nat) : Int), iV (((Un.ms.getD k default).2.2.1 : Nat) : Int), iV (((Un.ms.getD k default).2.2.2 : Nat) : Int)]) (k := .i64) rfl rfl uT216 uT212 rfl sz212 (by omega) (by omega) rfl (mea_at (k := k) (by omega) rfl)) ?_
  refine RW.alc rfl fun b2 => ?_
  refine RW.effn (J' := St ⟨w, Φ, []⟩ Φ [.blk b2 212 [.string (bs ((Un.ms.getD k default).1)), iV (((Un.ms.getD k default).2.1 : Nat) : Int), iV (((Un.ms.getD k default).2.2.1 : Nat) : Int), iV (((Un.ms.getD k default).2.2.2 : Nat) : Int)], .blk b1 212 [.string (bs ([])), iV 0, iV 0, iV 0]]) (e_store (v := .agg #[.string (bs ((Un.ms.getD k default).1)), iV (((Un.ms.getD k default).2.1 : Nat) : Int), iV (((Un.ms.getD k default).2.2.1 : Nat) : Int), iV (((Un.ms.getD k default).2.2.2 : Nat) : Int)]) 0 rfl rfl rfl sz212 rfl rfl rfl rfl rfl) ?_
  refine g7 ?_
  refine RW.q (v := .bool (decide ((Un.ms.getD k default).1 = l))) rfl (q_eqlStr (l := (Un.ms.getD k default).1) (r := l) rfl rfl) ?_
  refine g2 ?_
  refine AW.cond rfl (fun hc2 => ?_) fun hc2 => ?_
  ·
   simp [-List.getD_eq_getElem?_getD] at hc2
   refine g3 ?_
   refine RW.effn (J' := St ⟨w, Φ, []⟩ Φ [.blk b2 212 [.string (bs ((Un.ms.getD k default).1)), iV (((Un.ms.getD k default).2.1 : Nat) : Int), iV (((Un.ms.getD k default).2.2.1 : Nat) : Int), iV (((Un.ms.getD k default).2.2.2 : Nat) : Int)], .blk b1 212 [.string (bs ((Un.ms.getD k default).1)), iV (((Un.ms.getD k default).2.1 : Nat) : Int), iV (((Un.ms.getD k default).2.2.1 : Nat) : Int), iV (((Un.ms.getD k default).2.2.2 : Nat) : Int)]]) (e_store (v := .agg #[.string (bs ((Un.ms.getD k default).1)), iV (((Un.ms.getD k default).2.1 : Nat) : Int), iV (((Un.ms.getD k default).2.2.1 : Nat) : Int), iV (((Un.ms.getD k default).2.2.2 : Nat) : Int)]) 1 rfl rfl rfl sz212 rfl rfl rfl rfl rfl) ?_
   refine g9 ?_
   refine fin_cell2 (cs := [.string (bs ((Un.ms.getD k default).1)), iV (((Un.ms.getD k default).2.1 : Nat) : Int), iV (((Un.ms.getD k default).2.2.1 : Nat) : Int), iV (((Un.ms.getD k default).2.2.2 : Nat) : Int)]) (v := .bool true) rfl rfl rfl rfl uT212 rfl sz212 rfl (Cells.blk 1 rfl) (fun w' hw => ?_)
   refine ⟨?_, hw.below rfl⟩
   have hlk := Un.look_hit (by omega) hne hc2
   rw [show Un.fdM l = (Un.ms.getD k default) from by unfold Un.fdM; rw [hlk]; rfl, hlk]
   rfl
  ·
   simp [-List.getD_eq_getElem?_getD] at hc2
   refine g7 ?_
   exact Post.back (s' := _) (J' := _) (m' := _) (by omega) ⟨k + 1, rfl, rfl, rfl, (by omega), (Un.lt_succ' hne hc2)⟩ ⟨rfl, rfl, rfl, rfl, rfl, trivial⟩ (fun _ h => StP.drop h (by exact .cons _ (.cons_cons _ (.slnil))))
 ·
  simp [-List.getD_eq_getElem?_getD] at hc1
  refine g7 ?_
  refine RW.q (v := .agg #[.string (bs ([])), iV 0, iV 0, iV 0]) rfl (q_build (vals := []) zero212 uT212 places212 rfl rfl) (RW.effn (J' := St ⟨w, Φ, []⟩ Φ [.blk b1 212 [.string (bs ([])), iV 0, iV 0, iV 0]]) (e_store (v := .agg #[.string (bs ([])), iV 0, iV 0, iV 0]) 0 rfl rfl rfl sz212 rfl rfl rfl rfl rfl) ?_)
  refine g4 ?_
  refine fin_cell2 (cs := [.string (bs ([])), iV 0, iV 0, iV 0]) (v := .bool false) rfl rfl rfl rfl uT212 rfl sz212 rfl (Cells.blk 0 rfl) (fun w' hw => ?_)
  refine ⟨?_, hw.below rfl⟩
  have hlk := Un.look_miss (n := l) (fun j hj => hne j (by omega))
  rw [show Un.fdM l = ([], 0, 0, 0) from by unfold Un.fdM; rw [hlk]; rfl, hlk]
  rfl
theorem IndexByte_c (w : World) (Φ : Hp) (hΦ : Hp.le Φ (hp w)) {l : List UInt8} {c : UInt8} :
  Calls Tryz.prog 161 #[.string (bs l), .int .u8 (c.toNat : Int)] w fun e w' => e = .returned (iV (Lib.indexByte l c)) ∧ Bel w.heap.size w w' := by
 refine calls_of_AW (args := [.string (bs l), .int .u8 (c.toNat : Int)]) Tryz.func161 rfl (lBT rfl) (St ⟨w, Φ, []⟩ Φ []) (StP.init w Φ hΦ []) ?_
 show AW Tryz.prog 8 [] _ _ _ [(0, .string (bs l)), (1, .int .u8 (c.toNat : Int))] _
 refine g9 ?_
 refine RW.q (v := iV (Lib.indexByte l c)) rfl (q_indexByte (l := l) (c := c) Tryz.func166 rfl rfl (by kernel_rfl) (by kernel_rfl) rfl rfl) ?_
 refine g4 ?_
 exact fin_val (v' := iV (Lib.indexByte l c)) rfl rfl rfl (rfl)
theorem Index_c (w : World) (Φ : Hp) (hΦ : Hp.le Φ (hp w)) {l : List UInt8} :
  Calls Tryz.prog 159 #[.string (bs l), .string (bs ([46] : List UInt8))] w fun e w' => e = .returned (iV (if Un.pt l then ((Un.bef l).length : Int) else -1)) ∧ Bel w.heap.size w w' := by
 refine calls_of_AW (args := [.string (bs l), .string (bs ([46] : List UInt8))]) Tryz.func159 rfl (lBT rfl) (St ⟨w, Φ, []⟩ Φ []) (StP.init w Φ hΦ []) ?_
 show AW Tryz.prog 143 [] _ _ _ [(0, .string (bs l)), (1, .string (bs ([46] : List UInt8)))] _
 refine g8 ?_
 refine RW.q (v := iV 1) rfl (q_lenS (l := ([46] : List UInt8)) rfl uT9) ?_
 refine g8 ?_
 refine RW.q (v := .bool false) rfl (q_eql (a := 1) (b := 0) rfl rfl) ?_
 refine g3 ?_
 refine RW.gl (v := .bool (decide (([46] : List UInt8) = l))) rfl rfl rfl (q_eqlStr (l := ([46] : List UInt8)) (r := l) rfl rfl) ?_
 obtain ⟨qb1, hqb1⟩ : ∃ qz : Bool, (false || (decide (([46] : List UInt8) = l))) = qz := ⟨_, rfl⟩
 refine RW.q (v := .bool qb1) rfl (q_as (v := .bool (false || (decide (([46] : List UInt8) = l)))) (q_pick rfl (fun hp => pkOrT hp) (fun hp => pkOrF hp)) (congrArg Value.bool hqb1)) ?_
 refine g1 ?_
 subst hqb1
 refine g2 ?_
 refine AW.cond rfl (fun hc1 => ?_) fun hc1 => ?_
 ·
  simp [-List.getD_eq_getElem?_getD] at hc1
  refine g8 ?_
  exact fin_val (v' := iV 0) rfl rfl rfl (by have h9 : l = [46] := (by simpa using hc1.symm); subst h9; rfl)
 ·
  simp [-List.getD_eq_getElem?_getD] at hc1
  refine g3 ?_
  refine RW.q (v := .bool true) rfl (q_eql (a := 1) (b := 1) rfl rfl) ?_
  refine g3 ?_
  refine AW.condT rfl ?_
  refine g4 ?_
  refine RW.q (v := .int .u8 (((46 : UInt8).toNat : Nat) : Int)) rfl (q_indexS (l := ([46] : List UInt8)) (i := 0) rfl rfl uT9 (by omega) (by simp)) (RW.q (v := iV (Lib.indexByte l (46 : UInt8))) rfl (q_call (args := #[.string (bs l), .int .u8 (((46 : UInt8).toNat : Nat) : Int)]) oK rfl rfl (fun w1 hw1 => IndexByte_c w1 (Go.K.hp w1) (Hp.le_refl _))) ?_)
  refine g6 ?_
  exact fin_val (v' := iV (Lib.indexByte l (46 : UInt8))) rfl rfl rfl (by rw [Un.indexByte_dot])
theorem Cut_c (w : World) (Φ : Hp) (hΦ : Hp.le Φ (hp w)) {l : List UInt8} (hl : l.length ≤ 1099511627776) :
  Calls Tryz.prog 156 #[.string (bs l), .string (bs ([46] : List UInt8))] w fun e w' => e = .returned (.tuple #[.string (bs (Un.bef l)), .string (bs (Un.aft l)), .bool (Un.pt l)]) ∧ Bel w.heap.size w w' := by
 refine calls_of_AW (args := [.string (bs l), .string (bs ([46] : List UInt8))]) Tryz.func156 rfl (lBT rfl) (St ⟨w, Φ, []⟩ Φ []) (StP.init w Φ hΦ []) ?_
 show AW Tryz.prog 23 [] _ _ _ [(0, .string (bs l)), (1, .string (bs ([46] : List UInt8)))] _
 have hbl := Un.bef_len l
 refine g12 ?_
 refine RW.q (v := iV (if Un.pt l then ((Un.bef l).length : Int) else -1)) rfl (q_call (args := #[.string (bs l), .string (bs ([46] : List UInt8))]) oK rfl rfl (fun w1 hw1 => Index_c w1 (Go.K.hp w1) (Hp.le_refl _))) ?_
 refine g9 ?_
 refine AW.cond rfl (fun hc1 => ?_) fun hc1 => ?_
 ·
  simp [-List.getD_eq_getElem?_getD] at hc1
  have hp : Un.pt l = true := by
   cases hp : Un.pt l with
   | true => rfl
   | false => rw [hp] at hc1; simp at hc1
  rw [hp, if_pos rfl]
  refine g1 ?_
  have hbp := Un.bef_len' hp
  refine AW.draw (J0 := St ⟨w, Φ, []⟩ Φ []) (tq12 []) od12 hmix (by kernel_rfl) ?_
  refine g2 ?_
  refine DW.q (v := .string (bs (l.take ((Un.bef l).length)))) (fun _ h => h) rfl (q_sliceSH (l := l) (j := (((Un.bef l).length : Nat) : Int)) rfl rfl uT9 (by omega) (by omega)) ?_
  refine g3 ?_
  refine DW.q (v := iV 1) (fun _ h => h) rfl (q_lenS (l := ([46] : List UInt8)) rfl uT9) ?_
  refine g1 ?_
  refine DW.q (v := .string (bs (l.drop ((Un.bef l).length + 1)))) (fun _ h => h) rfl (q_sliceSL (l := l) (i := (((Un.bef l).length + 1 : Nat) : Int)) rfl rfl uT9 (by omega) (by omega)) ?_
  refine g7 ?_
  refine fin_out3 (v1 := .string (bs (l.take ((Un.bef l).length)))) (v2 := .string (bs (l.drop ((Un.bef l).length + 1)))) (v3 := .bool true) rfl rfl rfl rfl rfl (fun w' hw => ?_)
  refine ⟨?_, hw.below rfl⟩
  obtain ⟨h1, h2⟩ := Un.cut_take hp
  rw [h1, h2]
 ·
  simp [-List.getD_eq_getElem?_getD] at hc1
  have hp : Un.pt l = false := by
   cases hp : Un.pt l with
   | false => rfl
   | true => rw [hp] at hc1; simp at hc1; omega
  refine g11 ?_
  refine fin_out3 (v1 := .string (bs l)) (v2 := .string (bs ([] : List UInt8))) (v3 := .bool false) rfl rfl rfl rfl rfl (fun w' hw => ?_)
  refine ⟨?_, hw.below rfl⟩
  rw [hp, (Un.bef_np hp).1, (Un.bef_np hp).2]
theorem sCut_c (w : World) (Φ : Hp) (hΦ : Hp.le Φ (hp w)) {l : List UInt8} (hl : l.length ≤ 1099511627776) :
  Calls Tryz.prog 151 #[.string (bs l), .string (bs ([46] : List UInt8))] w fun e w' => e = .returned (.tuple #[.string (bs (Un.bef l)), .string (bs (Un.aft l)), .bool (Un.pt l)]) ∧ Bel w.heap.size w w' := by
 refine calls_of_AW (args := [.string (bs l), .string (bs ([46] : List UInt8))]) Tryz.func151 rfl (lBT rfl) (St ⟨w, Φ, []⟩ Φ []) (StP.init w Φ hΦ []) ?_
 show AW Tryz.prog 13 [] _ _ _ [(0, .string (bs l)), (1, .string (bs ([46] : List UInt8)))] _
 have hbl := Un.bef_len l
 refine g11 ?_
 refine RW.q (v := .tuple #[.string (bs (Un.bef l)), .string (bs (Un.aft l)), .bool (Un.pt l)]) rfl (q_call (args := #[.string (bs l), .string (bs ([46] : List UInt8))]) oK rfl rfl (fun w1 hw1 => Cut_c w1 (Go.K.hp w1) (Hp.le_refl _) (by omega))) ?_
 refine g9 ?_
 refine fin_out3 (v1 := .string (bs (Un.bef l))) (v2 := .string (bs (Un.aft l))) (v3 := .bool (Un.pt l)) rfl rfl rfl rfl rfl (fun w' hw => ?_)
 refine ⟨?_, hw.below rfl⟩
 rfl
end Go.Proofs.YtnfmjfheciihjaaGreatDoor
namespace Go.Proofs.YtnfmjfheciihjaaGreatDoor
open Go Go.K Go.ChangeShapes Go.WideShapes Go.RowKit
theorem flat_of {g : Nat → List Value} {k : Nat} (hk : ∀ i, (g i).length = k) : ∀ (n : Nat) (cs : List Value), cs.length = n * k → (∀ i, i < n → (cs.drop (i * k)).take k = g i) → cs = (List.range n).flatMap g
  | 0, cs, hl, _ => by
    have : cs.length = 0 := by omega
    rw [List.length_eq_zero_iff.1 this]; rfl
  | n + 1, cs, hl, h => by
    have h1 := flat_of hk n (cs.take (n * k)) (by rw [List.length_take, hl]; exact Nat.min_eq_left (Nat.mul_le_mul_right _ (by omega))) (fun i hi => by
      rw [List.drop_take, List.take_take]
      have : k ≤ n * k - i * k := by
        rw [← Nat.sub_mul]
        exact Nat.le_mul_of_pos_left _ (by omega)
      rw [Nat.min_eq_left this]
      exact h i (by omega))
    have h2 := h n (by omega)
    rw [List.take_of_length_le (by rw [List.length_drop, hl, Nat.add_mul]; omega)] at h2
    rw [List.range_succ, List.flatMap_append, ← h1, List.flatMap_cons, List.flatMap_nil, List.append_nil, ← h2, List.take_append_drop]
section
variable {H : Type} {enc : TypeId × Value → H} {W : World} {base : Nat} {sp : Nat → Bool} {held : Bool}
theorem arr_cells {T E n k fuel : Nat} {cs : List Value} {p : List MemPlace} {ds : List (DataW H)} {g : Nat → List Value} (hT : Tryz.prog.underlying T = some (.array n E)) (hE : Tryz.prog.cellsOf E = k) (hTc : Tryz.prog.cellsOf T = n * k) (hk : ∀ i, (g i).length = k)
    (hg : ∀ i d, ds[i]? = some d → ∀ (f : Nat) (c : List Value) (q : List MemPlace), DataW.trod enc Tryz.prog W base sp held f E c = some (d, q) → c = g i) (h : DataW.trod enc Tryz.prog W base sp held fuel T cs = some (.agg ds, p)) : cs = (List.range n).flatMap g := by
  obtain ⟨xs, f, _, hx, hl, hxl, hf⟩ := DataW.trod_array hT h
  have hl2 : cs.length = n * k := hl.trans hTc
  have hx' : DataW.agg ds = DataW.agg (xs.map (·.1)) := congrArg Prod.fst hx
  have hx2 : ds = xs.map (·.1) := by simpa using hx'
  refine flat_of hk n cs hl2 fun i hi => ?_
  have hfi := hf i hi
  rw [hE] at hfi
  have hxi : xs[i]? = some (xs[i]'(by omega)) := List.getElem?_eq_getElem _
  rw [hxi] at hfi
  refine hg i _ ?_ f _ _ hfi
  rw [hx2, List.getElem?_map, hxi]; rfl
def mD (m : Un.Mea) : DataW H := .agg [.lit (.string m.1), .lit (.int .i64 (m.2.1 : Int)), .lit (.int .i64 (m.2.2.1 : Int)), .lit (.int .i64 (m.2.2.2 : Int))]
abbrev mC (m : Un.Mea) : List Value := [.string (bs m.1), .int .i64 (m.2.1 : Int), .int .i64 (m.2.2.1 : Int), .int .i64 (m.2.2.2 : Int)]
theorem len4 {α : Type} {l : List α} (h : l.length = 4) : ∃ a b c d, l = [a, b, c, d] := by
  match l, h with
  | [a, b, c, d], _ => exact ⟨a, b, c, d, rfl⟩
theorem len2 {α : Type} {l : List α} (h : l.length = 2) : ∃ a b, l = [a, b] := by
  match l, h with
  | [a, b], _ => exact ⟨a, b, rfl⟩
theorem one_mea {fuel : Nat} {cs : List Value} {m : Un.Mea} {p : List MemPlace} (h : DataW.trod enc Tryz.prog W base sp held fuel 212 cs = some (mD m, p)) : cs = mC m := by
  obtain ⟨xs, n, _, hx, hl, hxl, hf⟩ := DataW.trod_struct Tryz.underlying212 h
  have h0 : DataW.trod enc Tryz.prog W base sp held n 9 ((cs.drop 0).take (Tryz.prog.cellsOf 9)) = xs[0]? := hf 0 _ rfl
  have h1 : DataW.trod enc Tryz.prog W base sp held n 3 ((cs.drop 1).take (Tryz.prog.cellsOf 3)) = xs[1]? := hf 1 _ rfl
  have h2 : DataW.trod enc Tryz.prog W base sp held n 3 ((cs.drop 2).take (Tryz.prog.cellsOf 3)) = xs[2]? := hf 2 _ rfl
  have h3 : DataW.trod enc Tryz.prog W base sp held n 3 ((cs.drop 3).take (Tryz.prog.cellsOf 3)) = xs[3]? := hf 3 _ rfl
  have e9 : Tryz.prog.cellsOf 9 = 1 := by kernel_rfl
  have e3 : Tryz.prog.cellsOf 3 = 1 := by kernel_rfl
  have hl4 : cs.length = 4 := hl.trans (by kernel_rfl)
  obtain ⟨c0, c1, c2, c3, rfl⟩ := len4 hl4
  obtain ⟨x0, x1, x2, x3, rfl⟩ := len4 (show xs.length = 4 from hxl)
  have hx' : mD m = DataW.agg [x0.1, x1.1, x2.1, x3.1] := congrArg Prod.fst hx
  unfold mD at hx'
  simp only [DataW.agg.injEq, List.cons.injEq, and_true] at hx'
  obtain ⟨d0, d1, d2, d3⟩ := hx'
  simp only [e9, e3, List.drop_zero, List.drop_succ_cons, List.take_succ_cons, List.take_zero, List.getElem?_cons_zero, List.getElem?_cons_succ] at h0 h1 h2 h3
  obtain ⟨s0, k0, z0, _⟩ := DataW.trod_string Tryz.underlying9 h0
  obtain ⟨s1, k1, z1, _⟩ := DataW.trod_int Tryz.underlying3 h1
  obtain ⟨s2, k2, z2, _⟩ := DataW.trod_int Tryz.underlying3 h2
  obtain ⟨s3, k3, z3, _⟩ := DataW.trod_int Tryz.underlying3 h3
  rw [z0] at d0
  rw [z1] at d1
  rw [z2] at d2
  rw [z3] at d3
  obtain rfl : c0 = .string s0 := by simpa using k0
  obtain rfl : c1 = .int .i64 s1 := by simpa using k1
  obtain rfl : c2 = .int .i64 s2 := by simpa using k2
  obtain rfl : c3 = .int .i64 s3 := by simpa using k3
  have e0 : m.1 = s0.data.toList := by simpa using d0
  have e1 : (m.2.1 : Int) = s1 := by simpa using d1
  have e2 : (m.2.2.1 : Int) = s2 := by simpa using d2
  have e3 : (m.2.2.2 : Int) = s3 := by simpa using d3
  unfold mC
  rw [e0, e1, e2, e3]; rfl
abbrev Lev := List UInt8 × Int
def vD (m : Lev) : DataW H := .agg [.lit (.string m.1), .lit (.int .i64 m.2)]
abbrev vC (m : Lev) : List Value := [.string (bs m.1), .int .i64 m.2]
theorem one_lev {fuel : Nat} {cs : List Value} {m : Lev} {p : List MemPlace} (h : DataW.trod enc Tryz.prog W base sp held fuel 197 cs = some (vD m, p)) : cs = vC m := by
  obtain ⟨xs, n, _, hx, hl, hxl, hf⟩ := DataW.trod_struct Tryz.underlying197 h
  have h0 : DataW.trod enc Tryz.prog W base sp held n 9 ((cs.drop 0).take (Tryz.prog.cellsOf 9)) = xs[0]? := hf 0 _ rfl
  have h1 : DataW.trod enc Tryz.prog W base sp held n 3 ((cs.drop 1).take (Tryz.prog.cellsOf 3)) = xs[1]? := hf 1 _ rfl
  have e9 : Tryz.prog.cellsOf 9 = 1 := by kernel_rfl
  have e3 : Tryz.prog.cellsOf 3 = 1 := by kernel_rfl
  have hl4 : cs.length = 2 := hl.trans (by kernel_rfl)
  obtain ⟨c0, c1, rfl⟩ := len2 hl4
  obtain ⟨x0, x1, rfl⟩ := len2 (show xs.length = 2 from hxl)
  have hx' : vD m = DataW.agg [x0.1, x1.1] := congrArg Prod.fst hx
  unfold vD at hx'
  simp only [DataW.agg.injEq, List.cons.injEq, and_true] at hx'
  obtain ⟨d0, d1⟩ := hx'
  simp only [e9, e3, List.drop_zero, List.drop_succ_cons, List.take_succ_cons, List.take_zero, List.getElem?_cons_zero, List.getElem?_cons_succ] at h0 h1
  obtain ⟨s0, k0, z0, _⟩ := DataW.trod_string Tryz.underlying9 h0
  obtain ⟨s1, k1, z1, _⟩ := DataW.trod_int Tryz.underlying3 h1
  rw [z0] at d0
  rw [z1] at d1
  obtain rfl : c0 = .string s0 := by simpa using k0
  obtain rfl : c1 = .int .i64 s1 := by simpa using k1
  have e0 : m.1 = s0.data.toList := by simpa using d0
  have e1 : m.2 = s1 := by simpa using d1
  unfold vC
  rw [e0, e1]; rfl
theorem map_at {α β : Type} {f : α → β} {l : List α} {x : α} {i : Nat} {d : β} (h : (l.map f)[i]? = some d) : d = f (l.getD i x) := by
  rw [List.getElem?_map] at h
  obtain ⟨a, h1, h2⟩ := Option.map_eq_some_iff.1 h
  rw [← h2, gDD, h1]; rfl
def levs : List (List Lev) := [[([111, 114], 12), ([111, 114], 12)], [([97, 110, 100], 11), ([97, 110, 100], 11)], [([43], 4), ([45], 5)], [([42], 6), ([47], 7)]]
theorem two_lev {fuel : Nat} {cs : List Value} {ls : List Lev} {p : List MemPlace} (h : DataW.trod enc Tryz.prog W base sp held fuel 198 cs = some (.agg (ls.map vD), p)) : cs = (List.range 2).flatMap fun i => vC (ls.getD i ([], 0)) :=
  arr_cells (k := 2) Tryz.underlying198 (by kernel_rfl) (by kernel_rfl) (fun _ => rfl) (fun i d hd f c q hc => by rw [map_at (x := (([] : List UInt8), (0 : Int))) hd] at hc; exact one_lev hc) h
theorem all_lev {fuel : Nat} {cs : List Value} {p : List MemPlace} (h : DataW.trod enc Tryz.prog W base sp held fuel 199 cs = some (.agg (levs.map fun ls => .agg (ls.map vD)), p)) : cs = (List.range 4).flatMap fun j => (List.range 2).flatMap fun i => vC ((levs.getD j []).getD i ([], 0)) :=
  arr_cells (k := 4) Tryz.underlying199 (by kernel_rfl) (by kernel_rfl) (fun _ => rfl) (fun i d hd f c q hc => by rw [map_at (x := ([] : List Lev)) hd] at hc; exact two_lev hc) h
theorem all_mea {fuel : Nat} {cs : List Value} {p : List MemPlace} (h : DataW.trod enc Tryz.prog W base sp held fuel 216 cs = some (.agg (Un.ms.map mD), p)) : cs = (List.range 19).flatMap fun i => mC (Un.ms.getD i default) :=
  arr_cells (k := 4) Tryz.underlying216 (by kernel_rfl) (by kernel_rfl) (fun _ => rfl) (fun i d hd f c q hc => by rw [map_at (x := (default : Un.Mea)) hd] at hc; exact one_mea hc) h
def mons : List Int := [31, 29, 31, 30, 31, 30, 31, 31, 30, 31, 30, 31]
theorem one_int {fuel : Nat} {cs : List Value} {m : Int} {p : List MemPlace} (h : DataW.trod enc Tryz.prog W base sp held fuel 3 cs = some (.lit (.int .i64 m), p)) : cs = [.int .i64 m] := by
  obtain ⟨s1, k1, z1, _⟩ := DataW.trod_int Tryz.underlying3 h
  have e : m = s1 := by have := congrArg Prod.fst z1; simpa using this
  rw [e]; simpa using k1
theorem all_mon {fuel : Nat} {cs : List Value} {p : List MemPlace} (h : DataW.trod enc Tryz.prog W base sp held fuel 164 cs = some (.agg (mons.map fun m => .lit (.int .i64 m)), p)) : cs = (List.range 12).flatMap fun i => [Value.int .i64 (mons.getD i 0)] :=
  arr_cells (k := 1) Tryz.underlying164 (by kernel_rfl) (by kernel_rfl) (fun _ => rfl) (fun i d hd f c q hc => by rw [map_at (x := (0 : Int)) hd] at hc; exact one_int hc) h
end
theorem gMon : Tryz.prog.globalNamed "bourne/date.months" = some 0 := by kernel_rfl
theorem gLev : Tryz.prog.globalNamed "bourne/rule.levels" = some 1 := by kernel_rfl
theorem gMea : Tryz.prog.globalNamed "bourne/unit.measures" = some 2 := by kernel_rfl
theorem tMon : (Tryz.prog.globals[0]?).map (·.type) = some 164 := by kernel_rfl
theorem tLev : (Tryz.prog.globals[1]?).map (·.type) = some 199 := by kernel_rfl
theorem tMea : (Tryz.prog.globals[2]?).map (·.type) = some 216 := by kernel_rfl
theorem glob_of_laid {l : List (String × DataW Unit)} (hp : (l.all fun x => x.2.handleName?.isNone) = true) (hl : l = [("bourne/date.months", Rows.laid_bourne_date_months), ("bourne/unit.measures", Rows.laid_bourne_unit_measures), ("bourne/rule.levels", Rows.laid_bourne_rule_levels)]) {W : World} (h : laidMetH Tryz.prog l W) : Glob W := by
  have h' : laidMet Tryz.prog l W := by
    unfold laidMetH at h
    have e : (l.filter fun x => x.2.handleName?.isSome) = [] := by
      rw [List.filter_eq_nil_iff]
      intro x hx hs
      have := List.all_eq_true.1 hp x hx
      cases hn : x.2.handleName? with
      | none => rw [hn] at hs; cases hs
      | some n => rw [hn] at this; cases this
    rw [e] at h; exact h
  subst hl
  obtain ⟨ps, ⟨g1, t1, c1, f1, p1, q1, a1, b1, v1, r1, ⟨g2, t2, c2, f2, p2, q2, a2, b2, v2, r2, ⟨g3, t3, c3, f3, p3, q3, a3, b3, v3, r3, _⟩, _⟩, _⟩, _⟩ := h'
  refine ⟨fun j v hv => ?_, fun j v hv => ?_, fun j v hv => ?_⟩
  · obtain rfl := Option.some.inj (gMea.symm.trans a2)
    obtain rfl := Option.some.inj (tMea.symm.trans b2)
    have hc := all_mea r2
    have := World.var?_cell gMea v2 j
    rw [this, ← Array.getElem?_toList, hc]
    exact hv
  · obtain rfl := Option.some.inj (gLev.symm.trans a3)
    obtain rfl := Option.some.inj (tLev.symm.trans b3)
    have hc := all_lev r3
    have := World.var?_cell gLev v3 j
    rw [this, ← Array.getElem?_toList, hc]
    exact hv
  · obtain rfl := Option.some.inj (gMon.symm.trans a1)
    obtain rfl := Option.some.inj (tMon.symm.trans b1)
    have hc := all_mon r1
    have := World.var?_cell gMon v1 j
    rw [this, ← Array.getElem?_toList, hc]
    exact hv
theorem knows_glob {W : World} (h : Glob W) : Knows (hp W) Glob := fun w hw => by
  refine ⟨fun j v hv => ?_, fun j v hv => ?_, fun j v hv => ?_⟩
  · exact ((pcell_of (h.1 j v hv)).mono hw).cell
  · exact ((pcell_of (h.2.1 j v hv)).mono hw).cell
  · exact ((pcell_of (h.2.2 j v hv)).mono hw).cell
end Go.Proofs.YtnfmjfheciihjaaGreatDoor
