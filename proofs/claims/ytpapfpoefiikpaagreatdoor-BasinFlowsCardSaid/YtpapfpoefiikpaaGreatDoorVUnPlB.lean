/- Lemmas. Conditions: those of each theorem. -/
import Derived.Lib.IndexMore
import Derived.Test.YtpapfpoefiikpaaGreatDoorVLibA
import Derived.Lib.LaidTab
import Derived.LaidMore
import Derived.LaidLaws
import Derived.LaidHandle
import Derived.OpenShut
set_option maxRecDepth 8000
set_option maxHeartbeats 16000000
namespace Un
open Go
def M : Nat := 1125899906842624
def isD (b : UInt8) : Bool := decide (48 ≤ b.toNat) && decide (b.toNat ≤ 57)
def dg (b : UInt8) : Nat := b.toNat - 48
theorem dg_le {b : UInt8} (h : isD b = true) : dg b ≤ 9 := by
  simp only [isD, Bool.and_eq_true, decide_eq_true_eq] at h
  unfold dg; omega
def stepV (n : Nat) (b : UInt8) : Nat := 10 * n + dg b
def val (l : List UInt8) : Nat := l.foldl stepV 0
def stepC (n : Nat) (b : UInt8) : Nat := min (10 * n + dg b) (M + 1)
def valC (l : List UInt8) : Nat := l.foldl stepC 0
theorem foldC (l : List UInt8) : ∀ n, l.foldl stepC (min n (M + 1)) = min (l.foldl stepV n) (M + 1) := by
  induction l with
  | nil => intro n; rfl
  | cons b l ih =>
    intro n
    rw [List.foldl_cons, List.foldl_cons, ← ih]
    congr 1
    unfold stepC stepV M; omega
theorem valC_eq (l : List UInt8) : valC l = min (val l) (M + 1) := by
  have := foldC l 0
  rwa [show min 0 (M + 1) = 0 by unfold M; omega] at this
theorem valC_snoc (l : List UInt8) (b : UInt8) : valC (l ++ [b]) = min (10 * valC l + dg b) (M + 1) := by
  unfold valC; rw [List.foldl_append]; rfl
theorem foldV (l : List UInt8) : ∀ n, l.foldl stepV n = n * 10 ^ l.length + val l := by
  induction l with
  | nil => intro n; simp [val]
  | cons b l ih =>
    intro n
    have h := ih (stepV 0 b)
    unfold val
    rw [List.foldl_cons, List.foldl_cons, ih, h]
    simp only [stepV, List.length_cons, Nat.pow_succ, Nat.mul_zero, Nat.zero_add, Nat.add_mul]
    rw [Nat.mul_comm 10 n, Nat.mul_assoc, Nat.mul_comm 10 (10 ^ l.length)]
    omega
theorem val_append (l r : List UInt8) : val (l ++ r) = val l * 10 ^ r.length + val r := by
  unfold val; rw [List.foldl_append]; exact foldV r _
theorem val_lt {l : List UInt8} (h : ∀ b ∈ l, isD b = true) : val l < 10 ^ l.length := by
  induction l with
  | nil => simp [val]
  | cons b l ih =>
    have h1 := ih (fun x hx => h x (by simp [hx]))
    have h2 := dg_le (h b (by simp))
    have e : val (b :: l) = dg b * 10 ^ l.length + val l := by
      have := foldV l (stepV 0 b)
      unfold val; rw [List.foldl_cons, this]; simp [stepV, val]
    have h3 : dg b * 10 ^ l.length ≤ 9 * 10 ^ l.length := Nat.mul_le_mul_right _ h2
    rw [e, List.length_cons, Nat.pow_succ]
    omega
/-! ### the parts of a number -/
def bef : List UInt8 → List UInt8
  | [] => []
  | b :: l => if b = 46 then [] else b :: bef l
def aft : List UInt8 → List UInt8
  | [] => []
  | b :: l => if b = 46 then l else aft l
def pt : List UInt8 → Bool
  | [] => false
  | b :: l => if b = 46 then true else pt l
theorem bef_pt : ∀ {l : List UInt8}, pt l = true → l = bef l ++ 46 :: aft l
  | [], h => by cases h
  | b :: l, h => by
    unfold pt at h
    unfold bef aft
    by_cases hb : b = 46
    · subst hb; simp
    · rw [if_neg hb] at h ⊢
      rw [if_neg hb]
      rw [List.cons_append, ← bef_pt h]
theorem bef_np : ∀ {l : List UInt8}, pt l = false → bef l = l ∧ aft l = []
  | [], _ => ⟨rfl, rfl⟩
  | b :: l, h => by
    unfold pt at h
    unfold bef aft
    by_cases hb : b = 46
    · subst hb; simp at h
    · rw [if_neg hb] at h ⊢
      rw [if_neg hb, (bef_np h).1, (bef_np h).2]; exact ⟨rfl, rfl⟩
def digs (l : List UInt8) (k : Int) : Bool := l.all isD && decide (1 ≤ l.length) && decide ((l.length : Int) ≤ k)
def okF (l : List UInt8) : Bool := digs (bef l) 20 && (!pt l || digs (aft l) 9)
/-! ### units -/
def ms : List (List UInt8 × Nat × Nat × Nat) := [([], 0, 1, 1), ([108], 1, 1, 1), ([109, 51], 1, 1000, 1), ([77, 76], 1, 1000000, 1), ([71, 76], 1, 1000000000, 1), ([108, 112, 104], 2, 1, 1), ([108, 112, 115], 2, 3600, 1), ([109, 51, 112, 115], 2, 3600000, 1), ([77, 76, 112, 100], 2, 1000000, 24), ([109, 109], 3, 1, 1), ([99, 109], 3, 10, 1), ([109], 3, 1000, 1), ([104], 4, 1, 1), ([100], 4, 24, 1), ([109, 50], 5, 1, 1), ([104, 97], 5, 10000, 1), ([107, 109, 50], 5, 1000000, 1), ([112, 101, 114, 109, 105, 108, 108, 101], 6, 1, 1), ([112, 101, 114, 99, 101, 110, 116], 6, 10, 1)]
def look (n : List UInt8) : Option (List UInt8 × Nat × Nat × Nat) := ms.find? fun m => decide (m.1 = n)
def amt (l n : List UInt8) : Nat × Nat × Nat :=
  if okF l then match look n with
    | none => (0, 0, 6)
    | some m => if val (bef l ++ aft l) * m.2.2.1 % (10 ^ (aft l).length * m.2.2.2) = 0 ∧ val (bef l ++ aft l) * m.2.2.1 / (10 ^ (aft l).length * m.2.2.2) ≤ M then (val (bef l ++ aft l) * m.2.2.1 / (10 ^ (aft l).length * m.2.2.2), m.2.1, 0) else (0, 0, 7)
  else (0, 0, 2)
theorem ms_facts : ∀ m ∈ ms, m.2.1 ≤ 6 ∧ 1 ≤ m.2.2.1 ∧ m.2.2.1 ≤ 1000000000 ∧ 1 ≤ m.2.2.2 ∧ m.2.2.2 ≤ 24 ∧ m.2.2.2 ≤ m.2.2.1 := by decide
theorem look_mem {n : List UInt8} {m} (h : look n = some m) : m ∈ ms ∧ m.1 = n := by
  unfold look at h
  exact ⟨List.mem_of_find?_eq_some h, by simpa using List.find?_some h⟩
theorem too_great {W F num D f : Nat} (hw : M < W) (hn : D ≤ num) (hD : 1 ≤ D) : ¬ (W * 10 ^ f + F) * num / (10 ^ f * D) ≤ M := by
  intro h
  have hp : 0 < 10 ^ f := Nat.pow_pos (by omega)
  have hd : 0 < 10 ^ f * D := Nat.mul_pos hp hD
  have h1 : W * (10 ^ f * D) ≤ (W * 10 ^ f + F) * num := by
    calc W * (10 ^ f * D) = W * 10 ^ f * D := by rw [Nat.mul_assoc]
      _ ≤ W * 10 ^ f * num := Nat.mul_le_mul_left _ hn
      _ ≤ (W * 10 ^ f + F) * num := Nat.mul_le_mul_right _ (by omega)
  have h2 := (Nat.le_div_iff_mul_le hd).2 h1
  omega
/-! ### lists of digits -/
def nvs (n x : Int) : Int := 10 * n + x
def nv (l : List Int) : Int := l.foldl nvs 0
def ovs (k : Int) (a : List Int × Int) (x : Int) : List Int × Int := (a.1 ++ [(10 * a.2 + x) / k], (10 * a.2 + x) % k)
def ov (l : List Int) (k : Int) : List Int × Int := l.foldl (ovs k) ([], 0)
end Un
namespace Un
open Go
/-! ### the reference's way -/
theorem okF_all {l : List UInt8} (h : okF l = true) : ∀ b ∈ bef l ++ aft l, isD b = true := by
  unfold okF digs at h
  simp only [Bool.and_eq_true, List.all_eq_true, decide_eq_true_eq, Bool.or_eq_true, Bool.not_eq_true'] at h
  intro b hb
  rcases List.mem_append.1 hb with hb | hb
  · exact h.1.1.1 b hb
  · rcases h.2 with h2 | h2
    · rw [(bef_np h2).2] at hb; cases hb
    · exact h2.1.1 b hb
theorem okF_len {l : List UInt8} (h : okF l = true) : 1 ≤ (bef l).length ∧ (bef l).length ≤ 20 ∧ (aft l).length ≤ 9 ∧ (pt l = true → 1 ≤ (aft l).length) := by
  unfold okF digs at h
  simp only [Bool.and_eq_true, List.all_eq_true, decide_eq_true_eq, Bool.or_eq_true, Bool.not_eq_true'] at h
  refine ⟨h.1.1.2, by omega, ?_, ?_⟩
  · rcases h.2 with h2 | h2
    · rw [(bef_np h2).2]; simp
    · omega
  · intro hp
    rcases h.2 with h2 | h2
    · rw [hp] at h2; cases h2
    · exact h2.1.2
/-! ### the ends of the reference's Amount -/
theorem amt_form {l n : List UInt8} (h : okF l = false) : amt l n = (0, 0, 2) := by unfold amt; rw [if_neg (by simp [h])]
end Un
namespace Un
open Go
/-! ### what is written -/
/-! ### more zeros -/
end Un
namespace Un
open Go
abbrev Mea := List UInt8 × Nat × Nat × Nat
theorem find_hit {α : Type} {p : α → Bool} {d : α} : ∀ {l : List α} {k : Nat}, k < l.length → (∀ j, j < k → p (l.getD j d) = false) → p (l.getD k d) = true → l.find? p = some (l.getD k d)
  | [], k, hk, _, _ => absurd hk (Nat.not_lt_zero _)
  | x :: l, 0, _, _, h => by
    have h' : p x = true := h
    simp [List.find?, h']
  | x :: l, k + 1, hk, hj, h => by
    have h0 : p x = false := hj 0 (by omega)
    rw [List.find?, h0]
    have hk' : k < l.length := by simpa using hk
    exact find_hit hk' (fun j hjk => hj (j + 1) (by omega)) h
theorem find_miss {α : Type} {p : α → Bool} {d : α} {l : List α} (h : ∀ j, j < l.length → p (l.getD j d) = false) : l.find? p = none := by
  rw [List.find?_eq_none]
  intro x hx
  obtain ⟨i, hi, rfl⟩ := List.mem_iff_getElem.1 hx
  have := h i hi
  simpa [gDD, hi] using this
theorem ms_len : ms.length = 19 := rfl
theorem look_hit {n : List UInt8} {k : Nat} (hk : k < 19) (hj : ∀ j, j < k → (ms.getD j default).1 ≠ n) (h : (ms.getD k default).1 = n) : look n = some (ms.getD k default) :=
  find_hit (d := default) (by rw [ms_len]; exact hk) (fun j hjk => decide_eq_false (hj j hjk)) (decide_eq_true h)
theorem look_miss {n : List UInt8} (hj : ∀ j, j < 19 → (ms.getD j default).1 ≠ n) : look n = none :=
  find_miss (d := default) (fun j hjk => decide_eq_false (hj j (by rw [ms_len] at hjk; exact hjk)))
def fdM (n : List UInt8) : Mea := (look n).getD ([], 0, 0, 0)
theorem lt_succ' {p : Nat → Prop} {k : Nat} (h : ∀ j, j < k → p j) (hk : p k) : ∀ j, j < k + 1 → p j := fun j hj => by
  rcases Nat.lt_or_eq_of_le (Nat.le_of_lt_succ hj) with h1 | h1
  · exact h j h1
  · subst h1; exact hk
theorem isD_iff {b : UInt8} : isD b = true ↔ 48 ≤ b.toNat ∧ b.toNat ≤ 57 := by simp [isD]
theorem all_get {l : List UInt8} (h : ∀ j, j < l.length → isD (l.getD j 0) = true) : ∀ b ∈ l, isD b = true := fun b hb => by
  obtain ⟨i, hi, rfl⟩ := List.mem_iff_getElem.1 hb
  have := h i hi
  simpa [gDD, hi] using this
theorem get_all {l : List UInt8} (h : ∀ b ∈ l, isD b = true) {j : Nat} (hj : j < l.length) : isD (l.getD j 0) = true := by
  rw [gDD, List.getElem?_eq_getElem hj]; exact h _ (List.getElem_mem hj)
theorem digs_bad {l : List UInt8} {k : Int} {i : Nat} (hi : i < l.length) (h : isD (l.getD i 0) = false) : digs l k = false := by
  cases hd : digs l k with
  | false => rfl
  | true =>
    unfold digs at hd
    simp only [Bool.and_eq_true, List.all_eq_true] at hd
    rw [get_all hd.1.1 hi] at h; cases h
theorem digs_good {l : List UInt8} {k : Int} (h : ∀ j, j < l.length → isD (l.getD j 0) = true) : digs l k = (decide (1 ≤ l.length) && decide ((l.length : Int) ≤ k)) := by
  unfold digs
  have : l.all isD = true := List.all_eq_true.2 (all_get h)
  rw [this, Bool.true_and]
theorem take_snoc {l : List UInt8} {k : Nat} (hk : k < l.length) : l.take (k + 1) = l.take k ++ [l.getD k 0] := by
  rw [List.take_succ_eq_append_getElem hk]; simp [hk]
theorem valC_le (l : List UInt8) : valC l ≤ M + 1 := by rw [valC_eq]; omega
end Un
namespace Un
open Go
theorem indexByte_dot : ∀ l : List UInt8, Lib.indexByte l 46 = if pt l then ((bef l).length : Int) else -1
  | [] => rfl
  | b :: l => by
    unfold Lib.indexByte pt bef
    by_cases hb : b = 46
    · subst hb; simp
    · rw [indexByte_dot l]
      cases hp : pt l
      · simp [hb]
      · have : ¬ (((bef l).length : Int) == -1) = true := by simp
        simp [hb]

theorem bef_len (l : List UInt8) : (bef l).length ≤ l.length := by
  cases hp : pt l
  · rw [(bef_np hp).1]; exact Nat.le_refl _
  · have := congrArg List.length (bef_pt hp)
    rw [List.length_append] at this; omega
theorem bef_len' {l : List UInt8} (hp : pt l = true) : (bef l).length + 1 + (aft l).length = l.length := by
  have := congrArg List.length (bef_pt hp)
  rw [List.length_append, List.length_cons] at this; omega
theorem cut_take {l : List UInt8} (hp : pt l = true) : l.take (bef l).length = bef l ∧ l.drop ((bef l).length + 1) = aft l := by
  have e1 : ∀ (x y : List UInt8), l = x ++ 46 :: y → l.take x.length = x ∧ l.drop (x.length + 1) = y := fun x y e => by
    subst e; simp
  exact e1 _ _ (bef_pt hp)
theorem aft_len (l : List UInt8) : (aft l).length ≤ l.length := by
  cases hp : pt l
  · rw [(bef_np hp).2]; exact Nat.zero_le _
  · have := bef_len' hp; omega
end Un
namespace Un
open Go
def prod (W : Nat) (l : List UInt8) (m : Mea) : Nat × Bool :=
  if W ≤ M ∧ (W * 10 ^ l.length + val l) * m.2.2.1 % (10 ^ l.length * m.2.2.2) = 0 ∧ (W * 10 ^ l.length + val l) * m.2.2.1 / (10 ^ l.length * m.2.2.2) ≤ M then ((W * 10 ^ l.length + val l) * m.2.2.1 / (10 ^ l.length * m.2.2.2), true) else (0, false)
theorem prod_no {W : Nat} {l : List UInt8} {m : Mea} (h : M < W ∨ (W * 10 ^ l.length + val l) * m.2.2.1 % (10 ^ l.length * m.2.2.2) ≠ 0 ∨ M < (W * 10 ^ l.length + val l) * m.2.2.1 / (10 ^ l.length * m.2.2.2)) : prod W l m = (0, false) := by
  unfold prod
  rw [if_neg]
  rintro ⟨h1, h2, h3⟩
  rcases h with h | h | h
  · omega
  · exact h h2
  · omega
theorem prod_yes {W : Nat} {l : List UInt8} {m : Mea} (h1 : W ≤ M) (h2 : (W * 10 ^ l.length + val l) * m.2.2.1 % (10 ^ l.length * m.2.2.2) = 0) (h3 : (W * 10 ^ l.length + val l) * m.2.2.1 / (10 ^ l.length * m.2.2.2) ≤ M) : prod W l m = ((W * 10 ^ l.length + val l) * m.2.2.1 / (10 ^ l.length * m.2.2.2), true) := by
  unfold prod; rw [if_pos ⟨h1, h2, h3⟩]
end Un
namespace Go.Proofs.YtpapfpoefiikpaaGreatDoor
open Go Go.K Go.RowKit
attribute [local irreducible] AW RW DW Post Qt
def mCells : List Value := Un.ms.flatMap fun m => [.string (bs m.1), iV (m.2.1 : Int), iV (m.2.2.1 : Int), iV (m.2.2.2 : Int)]
theorem flat4 {α β : Type} (f : α → List β) (h : ∀ x, (f x).length = 4) : ∀ (l : List α) (d : α) (k j : Nat), k < l.length → j < 4 → (l.flatMap f)[k * 4 + j]? = (f (l.getD k d))[j]?
 | [], _, _, _, hk, _ => absurd hk (Nat.not_lt_zero _)
 | x :: l, d, 0, j, _, hj => by rw [List.flatMap_cons, Nat.zero_mul, Nat.zero_add, List.getElem?_append_left (by rw [h]; exact hj)]; rfl
 | x :: l, d, k + 1, j, hk, hj => by
  rw [List.flatMap_cons, List.getElem?_append_right (by rw [h]; omega), h, show (k + 1) * 4 + j - 4 = k * 4 + j by omega, flat4 f h l d k j (by simpa using hk) hj]; rfl
def Glob (w : World) : Prop := (∀ j v, mCells[j]? = some v → w.cell? ⟨2, j, none⟩ = some v) ∧ True
theorem glob_cells {B : Bs} {Φ : Hp} {C : List Chunk} (h : Knows Φ Glob) : Cells (St B Φ C) ⟨2, 0, none⟩ mCells := fun j v hv w hw => by
 have e : (⟨2, 0, none⟩ : Addr).add j = ⟨2, j, none⟩ := by simp only [Addr.add]; split <;> simp_all
 rw [e]; exact (h w hw.phi).1 j v hv
theorem mea_at {k : Nat} (hk : k < 19) {m : Un.Mea} (hm : Un.ms.getD k default = m) : ∀ j v, [Value.string (bs m.1), iV (m.2.1 : Int), iV (m.2.2.1 : Int), iV (m.2.2.2 : Int)][j]? = some v → mCells.toArray[(k : Int).toNat * 4 + j]? = some v := fun j v hv => by
 have hj : j < 4 := (List.getElem?_eq_some_iff.1 hv).1
 subst hm
 have h := flat4 (fun m : Un.Mea => [Value.string (bs m.1), iV (m.2.1 : Int), iV (m.2.2.1 : Int), iV (m.2.2.2 : Int)]) (fun _ => rfl) Un.ms default k j (by rw [Un.ms_len]; exact hk) hj
 rw [Int.toNat_natCast, List.getElem?_toArray]
 exact h.trans hv
theorem sz226 : (pg.info? 226).map (·.size) = some 76 := by kernel_rfl
theorem add64_run (x y : Nat) (w : World) : (add64Entry [Value.int .u64 (x : Int), .int .u64 (y : Int), .int .u64 ((0 : Nat) : Int)].toArray).run pg w = .ok (.tuple #[.int .u64 (((x + y) % 18446744073709551616 : Nat) : Int), .int .u64 (((x + y) / 18446744073709551616 : Nat) : Int)]) w := by
 have h := run_add64 (P := pg) (x : Int) (y : Int) 0 (by omega) (by omega) (by omega) (by omega) w
 rw [show [Value.int .u64 (x : Int), .int .u64 (y : Int), .int .u64 ((0 : Nat) : Int)].toArray = #[.int .u64 (x : Int), .int .u64 (y : Int), .int .u64 0] from rfl, h]
 congr 4 <;> simp <;> omega
theorem digits_c (w : World) (Φ : Hp) (hΦ : Hp.le Φ (hp w)) {l : List UInt8} (hl : l.length ≤ 1099511627776) {n : Int} :
  Calls pg 187 #[.string (bs l), iV n] w fun e w' => e = .returned (.bool (Un.digs l n)) ∧ Bel w.heap.size w w' := by
 refine calls_of_AW (args := [.string (bs l), iV n]) Tryz.func187 rfl (lBT rfl) (St ⟨w, Φ, []⟩ Φ []) (StP.init w Φ hΦ []) ?_
 show AW pg 31 [] _ _ _ [(0, .string (bs l)), (1, iV n)] _
 refine g9 ?_
 refine RW.q (v := iV (l.length : Int)) rfl (q_lenS (l := l) rfl uT9) ?_
 refine g4 ?_
 refine AW.loop (fun s J m => ∃ (k : Nat), s = [(0, .string (bs l)), (1, iV n), (7, iV (l.length : Int)), (8, iV (k : Int))] ∧ J = St ⟨w, Φ, []⟩ Φ [] ∧ m = l.length - k ∧ (k ≤ l.length) ∧ (∀ j, j < k → Un.isD (l.getD j 0) = true)) (s0 := _) (J1 := _) (m0 := _) ⟨0, rfl, rfl, rfl, (by omega), (by omega)⟩ ⟨rfl, rfl, rfl, rfl, trivial⟩ (fun _ h => h) ?_
 rintro _ _ _ _ ⟨k, rfl, rfl, rfl, hk, hall⟩
 refine g6 ?_
 refine AW.cond rfl (fun hc1 => ?_) fun hc1 => ?_
 ·
  simp [-List.getD_eq_getElem?_getD] at hc1
  refine g14 ?_
  refine RW.q (v := .int .u8 (((l.getD k 0).toNat : Nat) : Int)) rfl (q_indexS (l := l) (i := (k : Int)) rfl rfl uT9 (by omega) (by omega)) (RW.q (v := .bool (decide ((((l.getD k 0).toNat : Nat) : Int) < ((48 : Nat) : Int)))) rfl (q_lss (a := (((l.getD k 0).toNat : Nat) : Int)) (b := ((48 : Nat) : Int)) rfl rfl) ?_)
  refine g3 ?_
  refine RW.g (b := (decide ((((l.getD k 0).toNat : Nat) : Int) < ((48 : Nat) : Int)))) (v := .int .u8 (((l.getD k 0).toNat : Nat) : Int)) rfl rfl rfl (fun h => q_indexS (l := l) (i := (k : Int)) (gv_pos h) (gv_pos h) uT9 (by (try simp [-List.getD_eq_getElem?_getD] at h); omega) (by (try simp [-List.getD_eq_getElem?_getD] at h); omega)) ?_
  refine RW.g (b := (decide ((((l.getD k 0).toNat : Nat) : Int) < ((48 : Nat) : Int)))) (v := .bool (decide (((57 : Nat) : Int) < (((l.getD k 0).toNat : Nat) : Int)))) rfl rfl rfl (fun h => q_gtr (a := (((l.getD k 0).toNat : Nat) : Int)) (b := ((57 : Nat) : Int)) (gv_pos h) rfl) ?_
  obtain ⟨qb1, hqb1⟩ : ∃ qz : Bool, ((decide ((((l.getD k 0).toNat : Nat) : Int) < ((48 : Nat) : Int))) || (decide (((57 : Nat) : Int) < (((l.getD k 0).toNat : Nat) : Int)))) = qz := ⟨_, rfl⟩
  refine RW.q (v := .bool qb1) rfl (q_as (v := .bool ((decide ((((l.getD k 0).toNat : Nat) : Int) < ((48 : Nat) : Int))) || (decide (((57 : Nat) : Int) < (((l.getD k 0).toNat : Nat) : Int))))) (qpO rfl rfl rfl) (congrArg Value.bool hqb1)) ?_
  subst hqb1
  refine g2 ?_
  refine AW.cond rfl (fun hc2 => ?_) fun hc2 => ?_
  ·
   simp [-List.getD_eq_getElem?_getD] at hc2
   refine g1 ?_
   have hbad : Un.isD (l.getD k 0) = false := by
    cases hd : Un.isD (l.getD k 0) with
    | false => rfl
    | true => rw [Un.isD_iff] at hd; omega
   refine g10 ?_
   exact fin_val (v' := .bool false) rfl rfl rfl (by rw [Un.digs_bad (by omega) hbad])
  ·
   simp [-List.getD_eq_getElem?_getD] at hc2
   refine g7 ?_
   exact Post.back (s' := _) (J' := _) (m' := _) (by omega) ⟨k + 1, rfl, rfl, rfl, (by omega), (Un.lt_succ' hall (by rw [Un.isD_iff]; omega))⟩ ⟨rfl, rfl, rfl, rfl, trivial⟩ (fun _ h => h)
 ·
  simp [-List.getD_eq_getElem?_getD] at hc1
  refine g8 ?_
  refine RW.q (v := iV (l.length : Int)) rfl (q_lenS (l := l) rfl uT9) ?_
  refine g3 ?_
  refine RW.g (b := (decide ((1 : Int) ≤ (l.length : Int)))) (v := iV (l.length : Int)) rfl rfl rfl (fun h => q_lenS (l := l) (gv_pos h) uT9) ?_
  refine g2 ?_
  obtain ⟨qb2, hqb2⟩ : ∃ qz : Bool, ((decide ((1 : Int) ≤ (l.length : Int))) && (decide ((l.length : Int) ≤ n))) = qz := ⟨_, rfl⟩
  refine RW.q (v := .bool qb2) rfl (q_as (v := .bool ((decide ((1 : Int) ≤ (l.length : Int))) && (decide ((l.length : Int) ≤ n)))) (qpA rfl rfl rfl) (congrArg Value.bool hqb2)) ?_
  refine g1 ?_
  subst hqb2
  refine g3 ?_
  exact fin_val (v' := .bool ((decide ((1 : Int) ≤ (l.length : Int))) && (decide ((l.length : Int) ≤ n)))) rfl rfl rfl (by rw [Un.digs_good (fun j hj => hall j (by omega))]; congr 2; simp only [decide_eq_decide]; omega)
theorem value_c (w : World) (Φ : Hp) (hΦ : Hp.le Φ (hp w)) {l : List UInt8} (hl : l.length ≤ 1099511627776) (hd : ∀ b ∈ l, Un.isD b = true) :
  Calls pg 190 #[.string (bs l)] w fun e w' => e = .returned (iV (Un.valC l : Int)) ∧ Bel w.heap.size w w' := by
 refine calls_of_AW (args := [.string (bs l)]) Tryz.func190 rfl (lBT rfl) (St ⟨w, Φ, []⟩ Φ []) (StP.init w Φ hΦ []) ?_
 show AW pg 21 [] _ _ _ [(0, .string (bs l))] _
 refine g14 ?_
 refine RW.q (v := iV (l.length : Int)) rfl (q_lenS (l := l) rfl uT9) ?_
 refine g4 ?_
 refine AW.loop (fun s J m => ∃ (k : Nat), s = [(0, .string (bs l)), (6, iV (l.length : Int)), (7, iV (k : Int)), (3, iV ((Un.valC (l.take k) : Nat) : Int))] ∧ J = St ⟨w, Φ, []⟩ Φ [] ∧ m = l.length - k ∧ (k ≤ l.length)) (s0 := _) (J1 := _) (m0 := _) ⟨0, rfl, rfl, rfl, (by omega)⟩ ⟨rfl, rfl, rfl, rfl, trivial⟩ (fun _ h => h) ?_
 rintro _ _ _ _ ⟨k, rfl, rfl, rfl, hk⟩
 refine g6 ?_
 refine AW.cond rfl (fun hc1 => ?_) fun hc1 => ?_
 ·
  simp [-List.getD_eq_getElem?_getD] at hc1
  refine g5 ?_
  have hdk := Un.get_all hd (show k < l.length by omega)
  rw [Un.isD_iff] at hdk
  have hvl := Un.valC_le (l.take k)
  unfold Un.M at hvl
  refine g7 ?_
  refine RW.q (v := iV (10 * ((Un.valC (l.take k) : Nat) : Int))) rfl (q_mul rfl rfl rfl (by unfold I64; omega)) ?_
  refine g2 ?_
  refine RW.q (v := .int .u8 (((l.getD k 0).toNat : Nat) : Int)) rfl (q_indexS (l := l) (i := (k : Int)) rfl rfl uT9 (by omega) (by omega)) (RW.q (v := .int .u8 ((((l.getD k 0).toNat) - 48 : Nat) : Int)) rfl (q_subB (a := ((l.getD k 0).toNat)) (b := 48) rfl rfl (by omega) rfl (by have := UInt8.toNat_lt (l.getD k 0); omega)) (RW.q (v := iV ((((l.getD k 0).toNat) - 48 : Nat) : Int)) rfl (q_toK (k := .i64) rfl uT5 uT3 (wrap64_of (by have := UInt8.toNat_lt (l.getD k 0); unfold I64; omega))) ?_))
  refine g1 ?_
  refine RW.q (v := iV ((Un.valC (l.take (k + 1)) : Nat) : Int)) rfl (q_as (v := iV (min ((10 * ((Un.valC (l.take k) : Nat) : Int)) + ((((l.getD k 0).toNat) - 48 : Nat) : Int)) 1125899906842625)) (q_min rfl rfl) (congrArg (Value.int .i64) (by rw [Un.take_snoc (show k < l.length by omega), Un.valC_snoc]; unfold Un.dg Un.M; omega))) ?_
  refine g8 ?_
  exact Post.back (s' := _) (J' := _) (m' := _) (by omega) ⟨k + 1, rfl, rfl, rfl, (by omega)⟩ ⟨rfl, rfl, rfl, rfl, trivial⟩ (fun _ h => h)
 ·
  simp [-List.getD_eq_getElem?_getD] at hc1
  refine g12 ?_
  exact fin_val (v' := iV ((Un.valC (l.take k) : Nat) : Int)) rfl rfl rfl (by rw [List.take_of_length_le (by omega)])
theorem find_c (w : World) (Φ : Hp) (hΦ : Hp.le Φ (hp w)) (hG : Knows Φ Glob) {l : List UInt8} :
  Calls pg 188 #[.string (bs l)] w fun e w' => e = .returned (.tuple #[.agg #[.string (bs ((Un.fdM l).1)), iV (((Un.fdM l).2.1 : Nat) : Int), iV (((Un.fdM l).2.2.1 : Nat) : Int), iV (((Un.fdM l).2.2.2 : Nat) : Int)], .bool (Un.look l).isSome]) ∧ Bel w.heap.size w w' := by
 refine calls_of_AW (args := [.string (bs l)]) Tryz.func188 rfl (lBT rfl) (St ⟨w, Φ, []⟩ Φ []) (StP.init w Φ hΦ []) ?_
 show AW pg 17 [] _ _ _ [(0, .string (bs l))] _
 refine g2 ?_
 refine RW.alc rfl fun b1 => ?_
 refine g6 ?_
 refine RW.q (v := .agg mCells.toArray) rfl (q_loadAgg rfl uT226 rfl sz226 rfl (glob_cells hG)) ?_
 refine g4 ?_
 refine AW.loop (fun s J m => ∃ (k : Nat), s = [(0, .string (bs l)), (2, pV b1 0), (3, .bool false), (6, .agg mCells.toArray), (7, iV (k : Int))] ∧ J = St ⟨w, Φ, []⟩ Φ [.blk b1 225 [.string (bs ([])), iV 0, iV 0, iV 0]] ∧ m = 19 - k ∧ (k ≤ 19) ∧ (∀ j, j < k → (Un.ms.getD j default).1 ≠ l)) (s0 := _) (J1 := _) (m0 := _) ⟨0, rfl, rfl, rfl, (by omega), (by omega)⟩ ⟨rfl, rfl, rfl, rfl, rfl, trivial⟩ (fun _ h => h) ?_
 rintro _ _ _ _ ⟨k, rfl, rfl, rfl, hk, hne⟩
 refine g6 ?_
 refine AW.cond rfl (fun hc1 => ?_) fun hc1 => ?_
 ·
  simp [-List.getD_eq_getElem?_getD] at hc1
  refine g6 ?_
  refine RW.q (v := .agg #[.string (bs ((Un.ms.getD k default).1)), iV (((Un.ms.getD k default).2.1 : Nat) : Int), iV (((Un.ms.getD k default).2.2.1 : Nat) : Int), iV (((Un.ms.getD k default).2.2.2 : Nat) : Int)]) rfl (q_indexArr (es := [.string (bs ((Un.ms.getD k default).1)), iV (((Un.ms.getD k default).2.1 : Nat) : Int), iV (((Un.ms.getD k default).2.2.1 : Nat) : Int), iV (((Un.ms.getD k default).2.2.2 : Nat) : Int)]) (k := .i64) rfl rfl uT226 uT225 rfl sz225 (by omega) (by omega) rfl (mea_at (k := k) (by omega) rfl)) ?_
  refine RW.alc rfl fun b2 => ?_
  refine RW.effn (J' := St ⟨w, Φ, []⟩ Φ [.blk b2 225 [.string (bs ((Un.ms.getD k default).1)), iV (((Un.ms.getD k default).2.1 : Nat) : Int), iV (((Un.ms.getD k default).2.2.1 : Nat) : Int), iV (((Un.ms.getD k default).2.2.2 : Nat) : Int)], .blk b1 225 [.string (bs ([])), iV 0, iV 0, iV 0]]) (e_store (v := .agg #[.string (bs ((Un.ms.getD k default).1)), iV (((Un.ms.getD k default).2.1 : Nat) : Int), iV (((Un.ms.getD k default).2.2.1 : Nat) : Int), iV (((Un.ms.getD k default).2.2.2 : Nat) : Int)]) 0 rfl rfl rfl sz225 rfl rfl rfl rfl rfl) ?_
  refine g7 ?_
  refine RW.q (v := .bool (decide ((Un.ms.getD k default).1 = l))) rfl (q_eqlStr (l := (Un.ms.getD k default).1) (r := l) rfl rfl) ?_
  refine g2 ?_
  refine AW.cond rfl (fun hc2 => ?_) fun hc2 => ?_
  ·
   simp [-List.getD_eq_getElem?_getD] at hc2
   refine g3 ?_
   refine RW.effn (J' := St ⟨w, Φ, []⟩ Φ [.blk b2 225 [.string (bs ((Un.ms.getD k default).1)), iV (((Un.ms.getD k default).2.1 : Nat) : Int), iV (((Un.ms.getD k default).2.2.1 : Nat) : Int), iV (((Un.ms.getD k default).2.2.2 : Nat) : Int)], .blk b1 225 [.string (bs ((Un.ms.getD k default).1)), iV (((Un.ms.getD k default).2.1 : Nat) : Int), iV (((Un.ms.getD k default).2.2.1 : Nat) : Int), iV (((Un.ms.getD k default).2.2.2 : Nat) : Int)]]) (e_store (v := .agg #[.string (bs ((Un.ms.getD k default).1)), iV (((Un.ms.getD k default).2.1 : Nat) : Int), iV (((Un.ms.getD k default).2.2.1 : Nat) : Int), iV (((Un.ms.getD k default).2.2.2 : Nat) : Int)]) 1 rfl rfl rfl sz225 rfl rfl rfl rfl rfl) ?_
   refine g9 ?_
   refine fin_cell2 (cs := [.string (bs ((Un.ms.getD k default).1)), iV (((Un.ms.getD k default).2.1 : Nat) : Int), iV (((Un.ms.getD k default).2.2.1 : Nat) : Int), iV (((Un.ms.getD k default).2.2.2 : Nat) : Int)]) (v := .bool true) rfl rfl rfl rfl uT225 rfl sz225 rfl (Cells.blk 1 rfl) (fun w' hw => ?_)
   refine ⟨?_, hw.below rfl⟩
   have hlk := Un.look_hit (by omega) hne hc2
   rw [show Un.fdM l = (Un.ms.getD k default) from by unfold Un.fdM; rw [hlk]; rfl, hlk]
   rfl
  ·
   simp [-List.getD_eq_getElem?_getD] at hc2
   refine g7 ?_
   exact Post.back (s' := _) (J' := _) (m' := _) (by omega) ⟨k + 1, rfl, rfl, rfl, (by omega), (Un.lt_succ' hne hc2)⟩ ⟨rfl, rfl, rfl, rfl, rfl, trivial⟩ (fun _ h => StP.drop h (by exact .cons _ (.cons_cons _ (.slnil))))
 ·
  simp [-List.getD_eq_getElem?_getD] at hc1
  refine g7 ?_
  refine RW.q (v := .agg #[.string (bs ([])), iV 0, iV 0, iV 0]) rfl (q_build (vals := []) zero225 uT225 places225 rfl rfl) (RW.effn (J' := St ⟨w, Φ, []⟩ Φ [.blk b1 225 [.string (bs ([])), iV 0, iV 0, iV 0]]) (e_store (v := .agg #[.string (bs ([])), iV 0, iV 0, iV 0]) 0 rfl rfl rfl sz225 rfl rfl rfl rfl rfl) ?_)
  refine g4 ?_
  refine fin_cell2 (cs := [.string (bs ([])), iV 0, iV 0, iV 0]) (v := .bool false) rfl rfl rfl rfl uT225 rfl sz225 rfl (Cells.blk 0 rfl) (fun w' hw => ?_)
  refine ⟨?_, hw.below rfl⟩
  have hlk := Un.look_miss (n := l) (fun j hj => hne j (by omega))
  rw [show Un.fdM l = ([], 0, 0, 0) from by unfold Un.fdM; rw [hlk]; rfl, hlk]
  rfl
theorem IndexByte_c (w : World) (Φ : Hp) (hΦ : Hp.le Φ (hp w)) {l : List UInt8} {c : UInt8} :
  Calls pg 204 #[.string (bs l), .int .u8 (c.toNat : Int)] w fun e w' => e = .returned (iV (Lib.indexByte l c)) ∧ Bel w.heap.size w w' := by
 refine calls_of_AW (args := [.string (bs l), .int .u8 (c.toNat : Int)]) Tryz.func204 rfl (lBT rfl) (St ⟨w, Φ, []⟩ Φ []) (StP.init w Φ hΦ []) ?_
 show AW pg 8 [] _ _ _ [(0, .string (bs l)), (1, .int .u8 (c.toNat : Int))] _
 refine g9 ?_
 refine RW.q (v := iV (Lib.indexByte l c)) rfl (q_indexByte (l := l) (c := c) Tryz.func208 rfl rfl (by kernel_rfl) (by kernel_rfl) rfl rfl) ?_
 refine g4 ?_
 exact fin_val (v' := iV (Lib.indexByte l c)) rfl rfl rfl (rfl)
theorem Index_c (w : World) (Φ : Hp) (hΦ : Hp.le Φ (hp w)) {l : List UInt8} :
  Calls pg 201 #[.string (bs l), .string (bs ([46] : List UInt8))] w fun e w' => e = .returned (iV (if Un.pt l then ((Un.bef l).length : Int) else -1)) ∧ Bel w.heap.size w w' := by
 refine calls_of_AW (args := [.string (bs l), .string (bs ([46] : List UInt8))]) Tryz.func201 rfl (lBT rfl) (St ⟨w, Φ, []⟩ Φ []) (StP.init w Φ hΦ []) ?_
 show AW pg 143 [] _ _ _ [(0, .string (bs l)), (1, .string (bs ([46] : List UInt8)))] _
 refine g8 ?_
 refine RW.q (v := iV 1) rfl (q_lenS (l := ([46] : List UInt8)) rfl uT9) ?_
 refine g8 ?_
 refine RW.q (v := .bool false) rfl (q_eql (a := 1) (b := 0) rfl rfl) ?_
 refine g3 ?_
 refine RW.gl (v := .bool (decide (([46] : List UInt8) = l))) rfl rfl rfl (q_eqlStr (l := ([46] : List UInt8)) (r := l) rfl rfl) ?_
 obtain ⟨qb1, hqb1⟩ : ∃ qz : Bool, (false || (decide (([46] : List UInt8) = l))) = qz := ⟨_, rfl⟩
 refine RW.q (v := .bool qb1) rfl (q_as (v := .bool (false || (decide (([46] : List UInt8) = l)))) (q_pick rfl (fun hp => pkOrT hp) (fun hp => pkOrF hp)) (congrArg Value.bool hqb1)) ?_
 refine g1 ?_
 subst hqb1
 refine g2 ?_
 refine AW.cond rfl (fun hc1 => ?_) fun hc1 => ?_
 ·
  simp [-List.getD_eq_getElem?_getD] at hc1
  refine g8 ?_
  exact fin_val (v' := iV 0) rfl rfl rfl (by have h9 : l = [46] := (by simpa using hc1.symm); subst h9; rfl)
 ·
  simp [-List.getD_eq_getElem?_getD] at hc1
  refine g3 ?_
  refine RW.q (v := .bool true) rfl (q_eql (a := 1) (b := 1) rfl rfl) ?_
  refine g3 ?_
  refine AW.condT rfl ?_
  refine g4 ?_
  refine RW.q (v := .int .u8 (((46 : UInt8).toNat : Nat) : Int)) rfl (q_indexS (l := ([46] : List UInt8)) (i := 0) rfl rfl uT9 (by omega) (by simp)) (RW.q (v := iV (Lib.indexByte l (46 : UInt8))) rfl (q_call (args := #[.string (bs l), .int .u8 (((46 : UInt8).toNat : Nat) : Int)]) oK rfl rfl (fun w1 hw1 => IndexByte_c w1 (Go.K.hp w1) (Hp.le_refl _))) ?_)
  refine g6 ?_
  exact fin_val (v' := iV (Lib.indexByte l (46 : UInt8))) rfl rfl rfl (by rw [Un.indexByte_dot])
theorem Cut_c (w : World) (Φ : Hp) (hΦ : Hp.le Φ (hp w)) {l : List UInt8} (hl : l.length ≤ 1099511627776) :
  Calls pg 195 #[.string (bs l), .string (bs ([46] : List UInt8))] w fun e w' => e = .returned (.tuple #[.string (bs (Un.bef l)), .string (bs (Un.aft l)), .bool (Un.pt l)]) ∧ Bel w.heap.size w w' := by
 refine calls_of_AW (args := [.string (bs l), .string (bs ([46] : List UInt8))]) Tryz.func195 rfl (lBT rfl) (St ⟨w, Φ, []⟩ Φ []) (StP.init w Φ hΦ []) ?_
 show AW pg 23 [] _ _ _ [(0, .string (bs l)), (1, .string (bs ([46] : List UInt8)))] _
 have hbl := Un.bef_len l
 refine g12 ?_
 refine RW.q (v := iV (if Un.pt l then ((Un.bef l).length : Int) else -1)) rfl (q_call (args := #[.string (bs l), .string (bs ([46] : List UInt8))]) oK rfl rfl (fun w1 hw1 => Index_c w1 (Go.K.hp w1) (Hp.le_refl _))) ?_
 refine g9 ?_
 refine AW.cond rfl (fun hc1 => ?_) fun hc1 => ?_
 ·
  simp [-List.getD_eq_getElem?_getD] at hc1
  have hp : Un.pt l = true := by
   cases hp : Un.pt l with
   | true => rfl
   | false => rw [hp] at hc1; simp at hc1
  rw [hp, if_pos rfl]
  refine g1 ?_
  have hbp := Un.bef_len' hp
  refine AW.draw (J0 := St ⟨w, Φ, []⟩ Φ []) [.q, .q, .q, .q, .q, .q, .q, .q, .q, .q, .q, .q] [0, 1, 2, 3, 4, 5, 6, 7, 8, 9, 10, 11] hmix (by kernel_rfl) ?_
  refine g2 ?_
  refine DW.q (v := .string (bs (l.take ((Un.bef l).length)))) (fun _ h => h) rfl (q_sliceSH (l := l) (j := (((Un.bef l).length : Nat) : Int)) rfl rfl uT9 (by omega) (by omega)) ?_
  refine g3 ?_
  refine DW.q (v := iV 1) (fun _ h => h) rfl (q_lenS (l := ([46] : List UInt8)) rfl uT9) ?_
  refine g1 ?_
  refine DW.q (v := .string (bs (l.drop ((Un.bef l).length + 1)))) (fun _ h => h) rfl (q_sliceSL (l := l) (i := (((Un.bef l).length + 1 : Nat) : Int)) rfl rfl uT9 (by omega) (by omega)) ?_
  refine g7 ?_
  refine fin_out3 (v1 := .string (bs (l.take ((Un.bef l).length)))) (v2 := .string (bs (l.drop ((Un.bef l).length + 1)))) (v3 := .bool true) rfl rfl rfl rfl rfl (fun w' hw => ?_)
  refine ⟨?_, hw.below rfl⟩
  obtain ⟨h1, h2⟩ := Un.cut_take hp
  rw [h1, h2]
 ·
  simp [-List.getD_eq_getElem?_getD] at hc1
  have hp : Un.pt l = false := by
   cases hp : Un.pt l with
   | false => rfl
   | true => rw [hp] at hc1; simp at hc1; omega
  refine g11 ?_
  refine fin_out3 (v1 := .string (bs l)) (v2 := .string (bs ([] : List UInt8))) (v3 := .bool false) rfl rfl rfl rfl rfl (fun w' hw => ?_)
  refine ⟨?_, hw.below rfl⟩
  rw [hp, (Un.bef_np hp).1, (Un.bef_np hp).2]
theorem sCut_c (w : World) (Φ : Hp) (hΦ : Hp.le Φ (hp w)) {l : List UInt8} (hl : l.length ≤ 1099511627776) :
  Calls pg 186 #[.string (bs l), .string (bs ([46] : List UInt8))] w fun e w' => e = .returned (.tuple #[.string (bs (Un.bef l)), .string (bs (Un.aft l)), .bool (Un.pt l)]) ∧ Bel w.heap.size w w' := by
 refine calls_of_AW (args := [.string (bs l), .string (bs ([46] : List UInt8))]) Tryz.func186 rfl (lBT rfl) (St ⟨w, Φ, []⟩ Φ []) (StP.init w Φ hΦ []) ?_
 show AW pg 13 [] _ _ _ [(0, .string (bs l)), (1, .string (bs ([46] : List UInt8)))] _
 have hbl := Un.bef_len l
 refine g11 ?_
 refine RW.q (v := .tuple #[.string (bs (Un.bef l)), .string (bs (Un.aft l)), .bool (Un.pt l)]) rfl (q_call (args := #[.string (bs l), .string (bs ([46] : List UInt8))]) oK rfl rfl (fun w1 hw1 => Cut_c w1 (Go.K.hp w1) (Hp.le_refl _) (by omega))) ?_
 refine g9 ?_
 refine fin_out3 (v1 := .string (bs (Un.bef l))) (v2 := .string (bs (Un.aft l))) (v3 := .bool (Un.pt l)) rfl rfl rfl rfl rfl (fun w' hw => ?_)
 refine ⟨?_, hw.below rfl⟩
 rfl
end Go.Proofs.YtpapfpoefiikpaaGreatDoor
namespace Go.Proofs.YtpapfpoefiikpaaGreatDoor
open Go Go.K Go.ChangeShapes Go.WideShapes Go.RowKit
def mD {H : Type} (m : Un.Mea) : DataW H := .agg [.lit (.string m.1), .lit (.int .i64 (m.2.1 : Int)), .lit (.int .i64 (m.2.2.1 : Int)), .lit (.int .i64 (m.2.2.2 : Int))]
theorem mD_inj {H : Type} {x0 x1 x2 x3 : DataW H} {m : Un.Mea} (h : DataW.agg [x0, x1, x2, x3] = mD m) : x0 = .lit (.string m.1) ∧ x1 = .lit (.int .i64 (m.2.1 : Int)) ∧ x2 = .lit (.int .i64 (m.2.2.1 : Int)) ∧ x3 = .lit (.int .i64 (m.2.2.2 : Int)) := by
  unfold mD at h
  simpa using h
theorem len4 {α : Type} {l : List α} (h : l.length = 4) : ∃ a b c d, l = [a, b, c, d] := by
  match l, h with
  | [a, b, c, d], _ => exact ⟨a, b, c, d, rfl⟩
theorem one_mea {H : Type} {enc : TypeId × Value → H} {W : World} {base : Nat} {sp : Nat → Bool} {held : Bool} {fuel : Nat} {cs : List Value} {m : Un.Mea} {p : List MemPlace} (h : DataW.trod enc pg W base sp held fuel 225 cs = some (mD m, p)) :
    cs = [.string (bs m.1), .int .i64 (m.2.1 : Int), .int .i64 (m.2.2.1 : Int), .int .i64 (m.2.2.2 : Int)] := by
  obtain ⟨xs, n, _, hx, hl, hxl, hf⟩ := DataW.trod_struct Tryz.underlying225 h
  have h0 : DataW.trod enc pg W base sp held n 9 ((cs.drop 0).take (pg.cellsOf 9)) = xs[0]? := hf 0 _ rfl
  have h1 : DataW.trod enc pg W base sp held n 3 ((cs.drop 1).take (pg.cellsOf 3)) = xs[1]? := hf 1 _ rfl
  have h2 : DataW.trod enc pg W base sp held n 3 ((cs.drop 2).take (pg.cellsOf 3)) = xs[2]? := hf 2 _ rfl
  have h3 : DataW.trod enc pg W base sp held n 3 ((cs.drop 3).take (pg.cellsOf 3)) = xs[3]? := hf 3 _ rfl
  have e9 : pg.cellsOf 9 = 1 := by kernel_rfl
  have e3 : pg.cellsOf 3 = 1 := by kernel_rfl
  have hl4 : cs.length = 4 := hl.trans (by kernel_rfl)
  obtain ⟨c0, c1, c2, c3, rfl⟩ := len4 hl4
  obtain ⟨x0, x1, x2, x3, rfl⟩ := len4 (show xs.length = 4 from hxl)
  have hx' : mD m = DataW.agg [x0.1, x1.1, x2.1, x3.1] := congrArg Prod.fst hx
  obtain ⟨d0, d1, d2, d3⟩ := mD_inj hx'.symm
  simp only [e9, e3, List.drop_zero, List.drop_succ_cons, List.take_succ_cons, List.take_zero, List.getElem?_cons_zero, List.getElem?_cons_succ] at h0 h1 h2 h3
  obtain ⟨s0, k0, z0, _⟩ := DataW.trod_string Tryz.underlying9 h0
  obtain ⟨s1, k1, z1, _⟩ := DataW.trod_int Tryz.underlying3 h1
  obtain ⟨s2, k2, z2, _⟩ := DataW.trod_int Tryz.underlying3 h2
  obtain ⟨s3, k3, z3, _⟩ := DataW.trod_int Tryz.underlying3 h3
  rw [z0] at d0
  rw [z1] at d1
  rw [z2] at d2
  rw [z3] at d3
  obtain rfl : c0 = .string s0 := by simpa using k0
  obtain rfl : c1 = .int .i64 s1 := by simpa using k1
  obtain rfl : c2 = .int .i64 s2 := by simpa using k2
  obtain rfl : c3 = .int .i64 s3 := by simpa using k3
  have e0 : s0.data.toList = m.1 := by simpa using d0
  have e1 : s1 = (m.2.1 : Int) := by simpa using d1
  have e2 : s2 = (m.2.2.1 : Int) := by simpa using d2
  have e3 : s3 = (m.2.2.2 : Int) := by simpa using d3
  rw [← e0, ← e1, ← e2, ← e3]; rfl
theorem all_mea {H : Type} {enc : TypeId × Value → H} {W : World} {base : Nat} {sp : Nat → Bool} {held : Bool} {fuel : Nat} {cs : List Value} {p : List MemPlace} (h : DataW.trod enc pg W base sp held fuel 226 cs = some (.agg (Un.ms.map mD), p)) : cs = mCells := by
  obtain ⟨xs, n, _, hx, hl, hxl, hf⟩ := DataW.trod_array Tryz.underlying226 h
  have e48 : pg.cellsOf 225 = 4 := by kernel_rfl
  have hl4 : cs.length = 76 := hl.trans (by kernel_rfl)
  have hx' : DataW.agg (Un.ms.map mD) = DataW.agg (xs.map (·.1)) := congrArg Prod.fst hx
  have hx2 : Un.ms.map mD = xs.map (·.1) := by simpa using hx'
  have hm : mCells.length = 76 := rfl
  apply List.ext_getElem (by rw [hl4, hm])
  intro i h1 h2
  have hk : i / 4 < 19 := by omega
  have hj : i % 4 < 4 := Nat.mod_lt _ (by omega)
  have hfi := hf (i / 4) hk
  rw [e48] at hfi
  have hxk : xs[i / 4]? = some (xs[i / 4]'(by omega)) := List.getElem?_eq_getElem _
  rw [hxk] at hfi
  have hd : (xs[i / 4]'(by omega)).1 = mD (Un.ms.getD (i / 4) default) := by
    have := congrArg (fun l => l[i / 4]?) hx2
    simp only [List.getElem?_map, hxk, Option.map_some] at this
    rw [List.getElem?_eq_getElem (show i / 4 < Un.ms.length from hk), Option.map_some] at this
    rw [← sJ this, gDD, List.getElem?_eq_getElem (show i / 4 < Un.ms.length from hk)]; rfl
  have hpair : xs[i / 4]'(by omega) = (mD (Un.ms.getD (i / 4) default), (xs[i / 4]'(by omega)).2) := by rw [← hd]
  rw [hpair] at hfi
  have hone := one_mea hfi
  have hm4 := flat4 (fun m : Un.Mea => [Value.string (bs m.1), .int .i64 (m.2.1 : Int), .int .i64 (m.2.2.1 : Int), .int .i64 (m.2.2.2 : Int)]) (fun _ => rfl) Un.ms default (i / 4) (i % 4) hk hj
  have hi : i / 4 * 4 + i % 4 = i := by omega
  rw [hi, ← hone, List.getElem?_take, if_pos hj, List.getElem?_drop, hi] at hm4
  have e1 : mCells[i]? = cs[i]? := hm4
  rw [List.getElem?_eq_getElem h1, List.getElem?_eq_getElem h2] at e1
  exact (sJ e1).symm
theorem gMea : pg.globalNamed "bourne/unit.measures" = some 2 := by kernel_rfl
theorem tMea : (pg.globals[2]?).map (·.type) = some 226 := by kernel_rfl
theorem glob_of_laid {l : List (String × DataW Unit)} (hp : (l.all fun x => x.2.handleName?.isNone) = true) {d0 d1 : String × DataW Unit} (hl : l = [d0, d1, ("internal/strconv.uint64pow10", Rows.laid_internal_strconv_uint64pow10), ("bourne/unit.measures", Rows.laid_bourne_unit_measures)]) {W : World} (h : laidMetH pg l W) : Glob W := by
  have h' : laidMet pg l W := by
    unfold laidMetH at h
    have e : (l.filter fun x => x.2.handleName?.isSome) = [] := by
      rw [List.filter_eq_nil_iff]
      intro x hx hs
      have := List.all_eq_true.1 hp x hx
      cases hn : x.2.handleName? with
      | none => rw [hn] at hs; cases hs
      | some n => rw [hn] at this; cases this
    rw [e] at h; exact h
  subst hl
  obtain ⟨ps, ⟨_, _, _, _, _, _, _, _, _, _, ⟨_, _, _, _, _, _, _, _, _, _, ⟨g2, t2, c2, f2, p2, q2, a2, b2, v2, r2, ⟨g3, t3, c3, f3, p3, q3, a3, b3, v3, r3, _⟩, _⟩, _⟩, _⟩, _⟩ := h'
  refine ⟨fun j v hv => ?_, trivial⟩
  · obtain rfl := sJ (gMea.symm.trans a3)
    obtain rfl := sJ (tMea.symm.trans b3)
    have hc := all_mea r3
    have := World.var?_cell gMea v3 j
    rw [this]
    rw [← hc] at hv
    simpa using hv
theorem knows_glob {W : World} (h : Glob W) : Knows (hp W) Glob := fun _ hw => ⟨fun j v hv => ((pcell_of (h.1 j v hv)).mono hw).cell, trivial⟩
end Go.Proofs.YtpapfpoefiikpaaGreatDoor
namespace Lx
def isL (c : UInt8) : Bool := decide ((97 ≤ c.toNat ∧ c.toNat ≤ 122) ∨ (65 ≤ c.toNat ∧ c.toNat ≤ 90))
def isD (c : UInt8) : Bool := decide (48 ≤ c.toNat ∧ c.toNat ≤ 57)
def inN (c : UInt8) : Bool := isL c || isD c || decide (c.toNat = 95)
def inS (c : UInt8) : Bool := decide (32 ≤ c.toNat ∧ c.toNat ≤ 126 ∧ c.toNat ≠ 34 ∧ c.toNat ≠ 92)
def nNl (c : UInt8) : Bool := decide (c.toNat ≠ 10)
def ws (c : UInt8) : Bool := decide (c.toNat = 9 ∨ c.toNat = 10 ∨ c.toNat = 13 ∨ c.toNat = 32)
def run (p : UInt8 → Bool) : List UInt8 → Nat
 | [] => 0
 | c :: r => if p c then run p r + 1 else 0
def skp : Bool → List UInt8 → Nat
 | _, [] => 0
 | true, c :: r => if c.toNat = 10 then skp false r + 1 else skp true r + 1
 | false, c :: r => if ws c then skp false r + 1 else if c.toNat = 35 then skp true r + 1 else 0
def signN (l : List UInt8) : Nat :=
 let c := (l.getD 0 0).toNat
 if c = 60 ∨ c = 62 ∨ c = 61 ∨ c = 33 then (if 1 < l.length ∧ (l.getD 1 0).toNat = 61 then 2 else if c ≠ 33 then 1 else 0)
 else if c = 123 ∨ c = 125 ∨ c = 40 ∨ c = 41 ∨ c = 44 ∨ c = 59 ∨ c = 58 ∨ c = 43 ∨ c = 45 ∨ c = 42 ∨ c = 47 ∨ c = 37 then 1 else 0
def numN (l : List UInt8) : Nat :=
 if run isD l + 1 < l.length ∧ (l.getD (run isD l) 0).toNat = 46 ∧ isD (l.getD (run isD l + 1) 0) = true then run isD l + 1 + run isD (l.drop (run isD l + 1)) else run isD l
def tk (l : List UInt8) : Nat × Nat × Nat × Nat × Bool :=
 if isL (l.getD 0 0) then (0, 0, run inN l, run inN l, decide (run inN l ≤ 24))
 else if isD (l.getD 0 0) then (1, 0, numN l, numN l, decide (numN l ≤ 24))
 else if (l.getD 0 0).toNat = 34 then (2, 1, run inS (l.drop 1), run inS (l.drop 1) + 2, decide (run inS (l.drop 1) + 1 < l.length ∧ (l.getD (run inS (l.drop 1) + 1) 0).toNat = 34 ∧ run inS (l.drop 1) ≤ 500))
 else (3, 0, signN l, signN l, decide (0 < signN l))
def txt (l : List UInt8) : List UInt8 := (l.drop (tk l).2.1).take (tk l).2.2.1
theorem run_le (p : UInt8 → Bool) : ∀ l, run p l ≤ l.length
 | [] => Nat.le_refl _
 | c :: r => by have := run_le p r; unfold run; split <;> simp <;> omega
theorem drop_cons {l : List UInt8} {k : Nat} (h : k < l.length) : l.drop k = l.getD k 0 :: l.drop (k + 1) := by
 rw [gDD, List.getElem?_eq_getElem h]; exact List.drop_eq_getElem_cons h
theorem run_yes {p : UInt8 → Bool} {l : List UInt8} {k : Nat} (h : k < l.length) (hp : p (l.getD k 0) = true) : run p (l.drop k) = run p (l.drop (k + 1)) + 1 := by
 rw [drop_cons h]; unfold run; rw [if_pos hp, run.eq_def]
theorem run_no {p : UInt8 → Bool} {l : List UInt8} {k : Nat} (h : k < l.length) (hp : p (l.getD k 0) = false) : run p (l.drop k) = 0 := by
 rw [drop_cons h]; unfold run; rw [if_neg (by rw [hp]; simp)]
theorem run_end {p : UInt8 → Bool} {l : List UInt8} {k : Nat} (h : l.length ≤ k) : run p (l.drop k) = 0 := by
 rw [List.drop_of_length_le h]; rfl
theorem run_drop_le (p : UInt8 → Bool) (l : List UInt8) (k : Nat) (h : k ≤ l.length) : k + run p (l.drop k) ≤ l.length := by
 have := run_le p (l.drop k); rw [List.length_drop] at this; omega
theorem skp_le : ∀ (b : Bool) (l : List UInt8), skp b l ≤ l.length
 | true, [] => Nat.le_refl _
 | false, [] => Nat.le_refl _
 | true, c :: r => by have h1 := skp_le true r; have h2 := skp_le false r; unfold skp; split <;> simp <;> omega
 | false, c :: r => by have h1 := skp_le true r; have h2 := skp_le false r; unfold skp; split <;> (try split) <;> simp <;> omega
theorem skp_true : ∀ (l : List UInt8), skp true l = run nNl l + skp false (l.drop (run nNl l))
 | [] => rfl
 | c :: r => by
  have ih := skp_true r
  unfold run
  by_cases hc : c.toNat = 10
  ·
   have hn : nNl c = false := by simp [nNl, hc]
   have hw : ws c = true := by simp [ws, hc]
   rw [hn, if_neg (by simp), Nat.zero_add, List.drop_zero]
   unfold skp
   rw [if_pos hc, if_pos hw]
  ·
   have hn : nNl c = true := by simp [nNl, hc]
   rw [hn, if_pos rfl, List.drop_succ_cons]
   rw [show skp true (c :: r) = skp true r + 1 by rw [skp]; rw [if_neg hc], ih]; omega
theorem skp_ws {l : List UInt8} {k : Nat} (h : k < l.length) (hw : ws (l.getD k 0) = true) : skp false (l.drop k) = skp false (l.drop (k + 1)) + 1 := by
 rw [drop_cons h, skp, if_pos hw]
theorem skp_com {l : List UInt8} {k : Nat} (h : k < l.length) (hc : (l.getD k 0).toNat = 35) : skp false (l.drop k) = run nNl (l.drop k) + skp false (l.drop (k + run nNl (l.drop k))) := by
 have hn : nNl (l.getD k 0) = true := by simp only [nNl, hc]; decide
 have hw : ws (l.getD k 0) = false := by simp only [ws, hc]; decide
 rw [run_yes h hn]
 rw [drop_cons h, skp, if_neg (by rw [hw]; simp), if_pos hc, skp_true, List.drop_drop]
 rw [show k + (run nNl (l.drop (k + 1)) + 1) = k + 1 + run nNl (l.drop (k + 1)) by omega]
 omega
theorem skp_no {l : List UInt8} {k : Nat} (h : k < l.length) (hw : ws (l.getD k 0) = false) (hc : (l.getD k 0).toNat ≠ 35) : skp false (l.drop k) = 0 := by
 rw [drop_cons h, skp, if_neg (by rw [hw]; simp), if_neg hc]
theorem skp_end {l : List UInt8} {k : Nat} (h : l.length ≤ k) : skp false (l.drop k) = 0 := by
 rw [List.drop_of_length_le h]; rfl
theorem getD_drop (l : List UInt8) (k i : Nat) : (l.drop k).getD i 0 = l.getD (k + i) 0 := by
 rw [gDD, gDD, List.getElem?_drop]
theorem signN_le (l : List UInt8) : signN l ≤ l.length := by
 unfold signN
 simp only []
 cases l with
 | nil => decide
 | cons c r => split <;> (try split) <;> (try split) <;> simp_all <;> omega
end Lx
namespace Bt
structure Token where
 Kind : Int
 Text : List UInt8
 At : Int
instance : Inhabited Token := ⟨⟨0, [], 0⟩⟩
end Bt
namespace Lx
theorem run_pos {p : UInt8 → Bool} {l : List UInt8} (h : 0 < l.length) (hp : p (l.getD 0 0) = true) : 1 ≤ run p l := by
 have := run_yes (p := p) (k := 0) h hp
 rw [List.drop_zero] at this; omega
theorem numN_le (l : List UInt8) : numN l ≤ l.length := by
 unfold numN
 have h1 := run_le isD l
 split
 ·
  have h2 := run_le isD (l.drop (run isD l + 1))
  rw [List.length_drop] at h2
  omega
 ·
  exact h1
theorem numN_pos {l : List UInt8} (h : 0 < l.length) (hp : isD (l.getD 0 0) = true) : 1 ≤ numN l := by
 have := run_pos (p := isD) h hp
 unfold numN
 split <;> omega
theorem tk_ok {l : List UInt8} (h : 0 < l.length) (hk : (tk l).2.2.2.2 = true) : 1 ≤ (tk l).2.2.2.1 ∧ (tk l).2.2.2.1 ≤ l.length := by
 unfold tk at hk ⊢
 split at hk <;> rename_i h1
 ·
  rw [if_pos h1]
  exact ⟨run_pos h (by unfold inN; rw [h1]; rfl), run_le _ _⟩
 ·
  rw [if_neg h1]
  split at hk <;> rename_i h2
  ·
   rw [if_pos h2]; exact ⟨numN_pos h h2, numN_le _⟩
  ·
   rw [if_neg h2]
   split at hk <;> rename_i h3
   ·
    rw [if_pos h3]
    simp only [decide_eq_true_eq] at hk
    exact ⟨by simp, by simp only []; omega⟩
   ·
    rw [if_neg h3]
    simp only [decide_eq_true_eq] at hk
    exact ⟨hk, signN_le l⟩
theorem txt_le (l : List UInt8) : (txt l).length ≤ l.length := by
 unfold txt; rw [List.length_take, List.length_drop]; omega
def stm : Nat → List UInt8 → Nat → List (Bt.Token × Bool)
 | 0, _, _ => []
 | n + 1, s, a => if a < s.length then
   (⟨((tk (s.drop a)).1 : Nat), txt (s.drop a), (a : Nat)⟩, (tk (s.drop a)).2.2.2.2) ::
    (if (tk (s.drop a)).2.2.2.2 then stm n s (a + (tk (s.drop a)).2.2.2.1 + skp false (s.drop (a + (tk (s.drop a)).2.2.2.1))) else [])
  else [(⟨4, [], s.length⟩, true)]
def seqT (s : List UInt8) : List (Bt.Token × Bool) := stm (s.length + 1) s (skp false s)
theorem stm_len : ∀ (n : Nat) (s : List UInt8) (a : Nat), (stm n s a).length ≤ n
 | 0, _, _ => Nat.le_refl _
 | n + 1, s, a => by
  unfold stm
  split
  ·
   split
   ·
    have := stm_len n s (a + (tk (s.drop a)).2.2.2.1 + skp false (s.drop (a + (tk (s.drop a)).2.2.2.1)))
    simp only [List.length_cons]; omega
   ·
    simp
  ·
   simp
theorem stm_end {n : Nat} {s : List UInt8} {a : Nat} (h : s.length ≤ a) : stm (n + 1) s a = [(⟨4, [], s.length⟩, true)] := by
 unfold stm; rw [if_neg (by omega)]
theorem stm_tok {n : Nat} {s : List UInt8} {a : Nat} (h : a < s.length) (hk : (tk (s.drop a)).2.2.2.2 = true) :
  stm (n + 1) s a = (⟨((tk (s.drop a)).1 : Nat), txt (s.drop a), (a : Nat)⟩, true) :: stm n s (a + (tk (s.drop a)).2.2.2.1 + skp false (s.drop (a + (tk (s.drop a)).2.2.2.1))) := by
 rw [stm, if_pos h, hk, if_pos rfl]
theorem stm_bad {n : Nat} {s : List UInt8} {a : Nat} (h : a < s.length) (hk : (tk (s.drop a)).2.2.2.2 = false) :
  stm (n + 1) s a = [(⟨((tk (s.drop a)).1 : Nat), txt (s.drop a), (a : Nat)⟩, false)] := by
 rw [stm, if_pos h, hk, if_neg (by simp)]
def wfT (N : Nat) (t : Bt.Token) : Prop := 0 ≤ t.Kind ∧ t.Kind ≤ 4 ∧ t.Text.length ≤ N ∧ 0 ≤ t.At ∧ t.At ≤ N
theorem tk_kind (l : List UInt8) : (tk l).1 ≤ 3 := by
 unfold tk; split <;> (try split) <;> (try split) <;> simp
theorem wf_tok {s : List UInt8} {a : Nat} (h : a ≤ s.length) : wfT s.length ⟨((tk (s.drop a)).1 : Nat), txt (s.drop a), (a : Nat)⟩ := by
 have h1 := tk_kind (s.drop a)
 have h2 := txt_le (s.drop a)
 rw [List.length_drop] at h2
 refine ⟨?_, ?_, ?_, ?_, ?_⟩ <;> simp only [] <;> omega
theorem wf_end (s : List UInt8) : wfT s.length ⟨4, [], s.length⟩ := by
 refine ⟨?_, ?_, ?_, ?_, ?_⟩ <;> simp
def scan (s : List UInt8) : List Bt.Token × Int × Int :=
 if 65536 < s.length then ([], 8, 0)
 else match (seqT s).find? (fun x => !x.2) with
  | some x => ([], 2, x.1.At)
  | none => ((seqT s).map (·.1), 0, 0)
end Lx
namespace Lx
theorem bad_find : ∀ (n : Nat) (s : List UInt8) (a : Nat) (y : Bt.Token × Bool), y ∈ stm n s a → y.2 = false → (stm n s a).find? (fun x => !x.2) = some y
 | 0, _, _, _, h, _ => by cases h
 | n + 1, s, a, y, h, hy => by
  by_cases ha : a < s.length
  ·
   cases hk : (tk (s.drop a)).2.2.2.2 with
   | true =>
    rw [stm_tok ha hk] at h ⊢
    rcases List.mem_cons.1 h with rfl | h
    ·
     cases hy
    ·
     rw [List.find?_cons_of_neg (by simp)]; exact bad_find n s _ y h hy
   | false =>
    rw [stm_bad ha hk] at h ⊢
    obtain rfl := List.mem_singleton.1 h
    rfl
  ·
   rw [stm_end (by omega)] at h
   obtain rfl := List.mem_singleton.1 h
   cases hy
theorem scan_ok {s : List UInt8} (h : s.length ≤ 65536) (ha : ∀ x ∈ seqT s, x.2 = true) : scan s = ((seqT s).map (·.1), 0, 0) := by
 unfold scan
 rw [if_neg (by omega), List.find?_eq_none.2 (fun x hx => by simp [ha x hx])]
theorem scan_bad {s : List UInt8} (h : s.length ≤ 65536) {y : Bt.Token × Bool} (hy : y ∈ seqT s) (hb : y.2 = false) : scan s = ([], 2, y.1.At) := by
 unfold scan
 rw [if_neg (by omega), show (seqT s).find? (fun x => !x.2) = some y from bad_find _ _ _ _ hy hb]
end Lx
namespace Un
open Go
theorem okF_bef {l : List UInt8} (h : okF l = true) : ∀ b ∈ bef l, isD b = true := fun b hb => okF_all h b (List.mem_append_left _ hb)
theorem okF_aft {l : List UInt8} (h : okF l = true) : ∀ b ∈ aft l, isD b = true := fun b hb => okF_all h b (List.mem_append_right _ hb)
theorem amt_none {l n : List UInt8} (h : okF l = true) (hf : look n = none) : amt l n = (0, 0, 6) := by
  unfold amt; rw [if_pos h, hf]
theorem amt_prod {l n : List UInt8} (h : okF l = true) {m : Mea} (hf : look n = some m) : amt l n = if (prod (valC (bef l)) (aft l) m).2 = true then ((prod (valC (bef l)) (aft l) m).1, m.2.1, 0) else (0, 0, 7) := by
  obtain ⟨_, hn1, _, hd1, _, hdn⟩ := ms_facts m (look_mem hf).1
  unfold amt
  rw [if_pos h, hf]
  simp only [val_append]
  by_cases hw : val (bef l) ≤ M
  · have e : valC (bef l) = val (bef l) := by rw [valC_eq]; omega
    rw [e]
    by_cases h1 : (val (bef l) * 10 ^ (aft l).length + val (aft l)) * m.2.2.1 % (10 ^ (aft l).length * m.2.2.2) = 0
    · by_cases h2 : (val (bef l) * 10 ^ (aft l).length + val (aft l)) * m.2.2.1 / (10 ^ (aft l).length * m.2.2.2) ≤ M
      · rw [if_pos ⟨h1, h2⟩, prod_yes hw h1 h2]; rfl
      · rw [if_neg (fun hh => h2 hh.2), prod_no (.inr (.inr (by omega)))]; rfl
    · rw [if_neg (fun hh => h1 hh.1), prod_no (.inr (.inl h1))]; rfl
  · have e : valC (bef l) = M + 1 := by rw [valC_eq]; omega
    rw [e, prod_no (.inl (by omega))]
    rw [if_neg (fun hh => too_great (F := val (aft l)) (f := (aft l).length) (by omega : M < val (bef l)) hdn hd1 hh.2)]; rfl
end Un
namespace Un
open Go
/-! ### for the reference's walks -/
end Un
