/- Lemmas. Conditions: those of each theorem. -/
import Derived.Test.YtpapfpoefiikpaaGreatDoorVPlainAr
import Derived.Test.YtpapfpoefiikpaaGreatDoorVCore11
import Derived.Shelf.Lay
import Derived.Ground.SlsfProg
import Derived.Ground.NamesProg
set_option maxRecDepth 8000
set_option maxHeartbeats 16000000
namespace Se
open Go
def cI (x y : Int) : Int := if x < y then -1 else if y < x then 1 else 0
def or2 (x y : Int) : Int := if x = 0 then y else x
theorem cI_cases (x y : Int) : (cI x y = -1 ∧ x < y) ∨ (cI x y = 1 ∧ y < x) ∨ (cI x y = 0 ∧ x = y) := by
  unfold cI; split
  · exact .inl ⟨rfl, by assumption⟩
  · split
    · exact .inr (.inl ⟨rfl, by assumption⟩)
    · exact .inr (.inr ⟨rfl, by omega⟩)
def orL : List Int → Int
  | [] => 0
  | x :: xs => if x = 0 then orL xs else x
theorem orL_miss : ∀ {xs : List Int}, (∀ j, j < xs.length → xs.getD j 0 = 0) → orL xs = 0
  | [], _ => rfl
  | x :: xs, h => by
    have h0 := h 0 (by simp)
    rw [orL, if_pos (by simpa using h0)]
    exact orL_miss fun j hj => by have := h (j + 1) (by simpa using hj); simpa using this
theorem orL_hit : ∀ {xs : List Int} {k : Nat}, k < xs.length → (∀ j, j < k → xs.getD j 0 = 0) → xs.getD k 0 ≠ 0 → orL xs = xs.getD k 0
  | [], k, h, _, _ => by simp at h
  | x :: xs, 0, _, _, h => by rw [orL, if_neg (by simpa using h)]; rfl
  | x :: xs, k + 1, hk, hz, h => by
    have h0 := hz 0 (by omega)
    rw [orL, if_pos (by simpa using h0)]
    have := orL_hit (xs := xs) (k := k) (by simpa using hk) (fun j hj => by have := hz (j + 1) (by omega); simpa using this) (by simpa using h)
    simpa using this
theorem cI_rng (x y : Int) : -1 ≤ cI x y ∧ cI x y ≤ 1 := by rcases cI_cases x y with h | h | h <;> omega
theorem wf2 (a b c d : Int) : ∀ z ∈ [cI a b, cI c d], Go.K.I64 z := fun z hz => by
  simp only [List.mem_cons, List.not_mem_nil, or_false] at hz
  have h1 := cI_rng a b; have h2 := cI_rng c d
  unfold Go.K.I64
  rcases hz with rfl | rfl <;> omega
theorem take_snoc {α : Type} [Inhabited α] {L : List α} {k : Nat} (h : k < L.length) : L.take (k + 1) = L.take k ++ [L.getD k default] := by
  rw [List.take_succ_eq_append_getElem h, gDD, List.getElem?_eq_getElem h]; rfl
theorem lt_succ {p : Nat → Prop} {k : Nat} (h : ∀ j, j < k → p j) (hk : p k) : ∀ j, j < k + 1 → p j := fun j hj => by
  by_cases e : j = k
  · subst e; exact hk
  · exact h j (by omega)
def cA (x y : Gr.Arc) : Int := or2 (cI x.From y.From) (cI x.To y.To)
theorem cA_or (x y : Gr.Arc) : orL [cI x.From y.From, cI x.To y.To] = cA x y := by
  unfold cA or2
  simp only [orL]
  split
  · split
    · rename_i h; exact h.symm
    · rfl
  · rfl
def ltA (x y : Gr.Arc) : Prop := x.From < y.From ∨ (x.From = y.From ∧ x.To < y.To)
theorem cA_iff (x y : Gr.Arc) : cA x y < 0 ↔ ltA x y := by
  unfold cA or2 ltA
  rcases cI_cases x.From y.From with ⟨e, h⟩ | ⟨e, h⟩ | ⟨e, h⟩ <;> rw [e]
  · simp [h]
  · simp; omega
  · rcases cI_cases x.To y.To with ⟨e2, h2⟩ | ⟨e2, h2⟩ | ⟨e2, h2⟩ <;> rw [e2] <;> simp <;> omega
theorem arc_eqP {x y : Gr.Arc} (h : x.From = y.From ∧ x.To = y.To) : x = y := by
  cases x; cases y; simp only at h; simp only [Gr.Arc.mk.injEq]; exact h
end Se
namespace Se
section
variable {α : Type} [Inhabited α] [DecidableEq α]
def appU (acc : List α) (x : α) : List α := if acc.getLast? = some x then acc else acc ++ [x]
def comp (L : List α) : List α := L.foldl appU []
omit [Inhabited α] in
theorem comp_snoc (L : List α) (x : α) : comp (L ++ [x]) = appU (comp L) x := by simp [comp]
theorem comp_last : ∀ {L : List α} {k : Nat}, 0 < k → k ≤ L.length → (comp (L.take k)).getLast? = some (L.getD (k - 1) default) := fun {L k} h0 hk => by
  obtain ⟨j, rfl⟩ : ∃ j, k = j + 1 := ⟨k - 1, by omega⟩
  rw [take_snoc (by omega), comp_snoc, Nat.add_sub_cancel]
  unfold appU
  split
  · assumption
  · simp
theorem comp_id {L : List α} : ∀ {k : Nat}, k ≤ L.length → (∀ j, 1 ≤ j → j < k → L.getD j default ≠ L.getD (j - 1) default) → comp (L.take k) = L.take k
  | 0, _, _ => by simp [comp]
  | k + 1, hk, h => by
    have ih := comp_id (k := k) (by omega) (fun j h1 h2 => h j h1 (by omega))
    rw [take_snoc (by omega), comp_snoc, ih]
    unfold appU
    rw [if_neg]
    rcases Nat.eq_zero_or_pos k with h0 | h0
    · subst h0; simp
    · have := comp_last (L := L) h0 (by omega)
      rw [ih] at this
      rw [this]
      intro he
      exact h k h0 (by omega) (sJ he).symm
theorem comp_eq {L : List α} {k : Nat} (h0 : 0 < k) (hk : k < L.length) (h : L.getD k default = L.getD (k - 1) default) : comp (L.take (k + 1)) = comp (L.take k) := by
  rw [take_snoc hk, comp_snoc, appU, comp_last h0 (by omega), h, if_pos rfl]
theorem comp_ne {L : List α} {k : Nat} (h0 : 0 < k) (hk : k < L.length) (h : L.getD k default ≠ L.getD (k - 1) default) : comp (L.take (k + 1)) = comp (L.take k) ++ [L.getD k default] := by
  rw [take_snoc hk, comp_snoc, appU, comp_last h0 (by omega), if_neg (fun e => h (sJ e).symm)]
structure CmI (L K : List α) (k p : Nat) : Prop where
  len : K.length = L.length
  pre : K.take k = comp (L.take p)
  kl : k = (comp (L.take p)).length
  post : ∀ j, p ≤ j + 1 → j < L.length → K.getD j default = L.getD j default
  kp : k + 1 ≤ p
theorem CmI.start {L : List α} {k : Nat} (h0 : 0 < k) (hk : k < L.length) (h : L.getD k default = L.getD (k - 1) default) (hid : ∀ j, 1 ≤ j → j < k → L.getD j default ≠ L.getD (j - 1) default) : CmI L L k (k + 1) := by
  have h1 := comp_id (Nat.le_of_lt hk) hid
  have h2 := comp_eq h0 hk h
  exact ⟨rfl, by rw [h2, h1], by rw [h2, h1, List.length_take]; omega, fun _ _ _ => rfl, Nat.le_refl _⟩
theorem CmI.keep {L K : List α} {k p : Nat} (h : CmI L K k p) (hp : p < L.length) (he : L.getD p default = L.getD (p - 1) default) : CmI L K k (p + 1) := by
  have h1 := h.kp
  have h2 := comp_eq (L := L) (show 0 < p by omega) hp he
  exact ⟨h.len, by rw [h2]; exact h.pre, by rw [h2]; exact h.kl, fun j hj hl => h.post j (by omega) hl, by omega⟩
theorem CmI.put {L K : List α} {k p : Nat} (h : CmI L K k p) (hp : p < L.length) (he : L.getD p default ≠ L.getD (p - 1) default) : CmI L (K.set k (L.getD p default)) (k + 1) (p + 1) := by
  have h1 := h.kp
  have hl := h.len
  have h2 := comp_ne (L := L) (show 0 < p by omega) hp he
  refine ⟨by simp [hl], ?_, by rw [h2, List.length_append, ← h.kl]; rfl, fun j hj hlj => ?_, by omega⟩
  · rw [h2, ← h.pre, take_snoc (by simp; omega)]
    have e1 : (K.set k (L.getD p default)).take k = K.take k := by rw [List.take_set]; exact List.set_eq_of_length_le (by rw [List.length_take]; omega)
    have e2 : (K.set k (L.getD p default)).getD k default = L.getD p default := by rw [gDD, List.getElem?_set_self (by omega)]; rfl
    rw [e1, e2]
  · rw [gDD, List.getElem?_set_ne (by omega), ← gDD]
    exact h.post j (by omega) hlj
omit [Inhabited α] in
theorem comp_sub : ∀ (L acc : List α), (L.foldl appU acc).length ≤ acc.length + L.length ∧ ∀ x ∈ L.foldl appU acc, x ∈ acc ∨ x ∈ L
  | [], acc => ⟨Nat.le_refl _, fun _ hx => .inl hx⟩
  | y :: L, acc => by
    obtain ⟨h1, h2⟩ := comp_sub L (appU acc y)
    have h3 : (appU acc y).length ≤ acc.length + 1 := by unfold appU; split <;> simp
    refine ⟨?_, fun x hx => ?_⟩
    · simp only [List.foldl_cons, List.length_cons]; omega
    · rcases h2 x hx with h | h
      · unfold appU at h
        split at h
        · exact .inl h
        · rcases List.mem_append.1 h with h | h
          · exact .inl h
          · exact .inr (by simp at h; simp [h])
      · exact .inr (List.mem_cons_of_mem _ h)
omit [Inhabited α] in
theorem comp_le (L : List α) : (comp L).length ≤ L.length := by have := (comp_sub L []).1; simpa [comp] using this
omit [Inhabited α] in
theorem comp_mem {L : List α} {x : α} (h : x ∈ comp L) : x ∈ L := by
  rcases (comp_sub L []).2 x h with h | h
  · cases h
  · exact h
omit [Inhabited α] in
theorem mem_comp {x : α} : ∀ {L : List α}, x ∈ L → x ∈ comp L := fun {L} h => by
  have key : ∀ (L acc : List α), (x ∈ acc ∨ x ∈ L) → x ∈ L.foldl appU acc := by
    intro L
    induction L with
    | nil => intro acc h; rcases h with h | h; exact h; cases h
    | cons y L ih =>
      intro acc h
      refine ih _ ?_
      rcases h with h | h
      · left; unfold appU; split
        · exact h
        · exact List.mem_append_left _ h
      · rcases List.mem_cons.1 h with rfl | h
        · left; unfold appU; split
          · rename_i hl; exact List.mem_of_getLast? hl
          · simp
        · exact .inr h
  exact key L [] (.inr h)
omit [Inhabited α] in
theorem comp_iff {x : α} {L : List α} : x ∈ comp L ↔ x ∈ L := ⟨comp_mem, mem_comp⟩
end
end Se
namespace Se
open Go.Sort Go.Proofs
theorem ltOf_iff {α : Type} (cf : α → α → Int) (x y : α) : ltOf cf x y = true ↔ cf x y < 0 := by simp [ltOf]
theorem ltOf_not {α : Type} (cf : α → α → Int) (x y : α) : ltOf cf x y = false ↔ ¬ cf x y < 0 := by simp [ltOf]
theorem swo_of {α : Type} {cf : α → α → Int} (hi : ∀ x, ¬ cf x x < 0) (ht : ∀ x y z, cf x y < 0 → cf y z < 0 → cf x z < 0) (hn : ∀ x y z, ¬ cf x y < 0 → ¬ cf y z < 0 → ¬ cf x z < 0) : SWO (ltOf cf) where
  irrefl := fun x => (ltOf_not cf x x).2 (hi x)
  trans := fun x y z h k => (ltOf_iff cf x z).2 (ht x y z ((ltOf_iff cf x y).1 h) ((ltOf_iff cf y z).1 k))
  ntrans := fun x y z h k => (ltOf_not cf x z).2 (hn x y z ((ltOf_not cf x y).1 h) ((ltOf_not cf y z).1 k))
theorem swoA : SWO (ltOf cA) := swo_of (fun x => by rw [cA_iff]; unfold ltA; omega) (fun x y z => by simp only [cA_iff]; unfold ltA; omega) (fun x y z => by simp only [cA_iff]; unfold ltA; omega)
end Se
namespace Go.Proofs.YtpapfpoefiikpaaGreatDoor
open Go Go.K Go.RowKit
theorem evenG54 : EvenE Gr.Arc := fun _ => rfl
theorem eqF54 (a0 a1 b0 b1 : Int) (n : Nat) (w : World) : (Op.eqFields (n + 1) #[iV a0, iV a1] #[iV b0, iV b1] (pg.fieldsOf 54).toList).run pg w = .ok (decide (a0 = b0) && decide (a1 = b1)) w := by
 unfold Program.fieldsOf
 rw [uT54]
 have hp3 : ∀ {cs : Array Value} {o : Nat} {v : Value} (h : cs[o]? = some v) (w : World), (part 3 cs o).run pg w = .ok v w := fun h w => run_part1 uT3 rfl h w
 have hq3 : ∀ (x y : Int) (w : World), (Op.equalIn (n + 1) 3 (iV x) (iV y)).run pg w = .ok (x == y) w := fun x y w => run_equalIn_int w (n + 0) 3 .i64 .i64 x y uT3
 simp only [Op.eqFields, ne_eq, String.reduceEq, not_false_eq_true, if_true, Sem.run_bind, hp3 (show #[Value.int .i64 a0, Value.int .i64 a1][0]? = some (iV a0) from rfl), hp3 (show #[Value.int .i64 b0, Value.int .i64 b1][0]? = some (iV b0) from rfl), hp3 (show #[Value.int .i64 a0, Value.int .i64 a1][1]? = some (iV a1) from rfl), hp3 (show #[Value.int .i64 b0, Value.int .i64 b1][1]? = some (iV b1) from rfl), hq3, Result.andThen_ok, Sem.run_ite, Sem.run_pure]
 by_cases h0 : a0 = b0 <;> by_cases h1 : a1 = b1 <;> simp [*]
theorem eqS54 (a0 a1 b0 b1 : Int) : ∀ w, (Op.equal 54 (.agg #[iV a0, iV a1]) (.agg #[iV b0, iV b1])).run pg w = .ok (decide (a0 = b0) && decide (a1 = b1)) w := fun w => by
 have hT : pg.underlying 54 = some (.struct (pg.fieldsOf 54)) := by unfold Program.fieldsOf; rw [uT54]
 show (Op.equalIn (9999 + 1) 54 _ _).run pg w = _
 rw [run_equalIn_struct w 9999 54 _ _ hT (by kernel_rfl)]
 exact eqF54 a0 a1 b0 b1 9998 w
theorem eqG54 : Program.eqGuardType pg pg.depth 54 = false := by kernel_rfl
theorem isNaN_c (w : World) (Φ : Hp) (hΦ : Hp.le Φ (hp w)) {x : Int} :
  Calls pg 115 #[iV x] w fun e w' => e = .returned (.bool false) ∧ Bel w.heap.size w w' := by
 refine calls_of_AW (args := [iV x]) Tryz.func115 rfl (lBT rfl) (St ⟨w, Φ, []⟩ Φ []) (StP.init w Φ hΦ []) ?_
 show AW pg 6 [] _ _ _ [(0, iV x)] _
 refine AW.seq (AW.region (RW.q (v := .bool false) rfl (q_assign rfl) (RW.nil (Post.then_n (AW.seq (AW.region (RW.q rfl (q_move rfl) (RW.q rfl (q_move rfl) (RW.q (v := .bool (!decide (x = x))) rfl (q_neq rfl rfl) ?_)))))))))
 refine RW.q (v := .bool (!decide (x = x))) rfl (q_assign rfl) (RW.nil (Post.then_n (AW.ret ?_)))
 exact fin_val (v' := .bool (!decide (x = x))) rfl rfl rfl (by simp)
theorem Compare_c (w : World) (Φ : Hp) (hΦ : Hp.le Φ (hp w)) {x y : Int} :
  Calls pg 64 #[iV x, iV y] w fun e w' => e = .returned (iV (Se.cI x y)) ∧ Bel w.heap.size w w' := by
 refine calls_of_AW (args := [iV x, iV y]) Tryz.func64 rfl (lBT rfl) (St ⟨w, Φ, []⟩ Φ []) (StP.init w Φ hΦ []) ?_
 show AW pg 20 [] _ _ _ [(0, iV x), (1, iV y)] _
 refine AW.seq (AW.region (RW.q (v := iV 0) rfl (q_assign rfl) (RW.nil (Post.then_n (AW.seq (AW.region (RW.q rfl (q_move rfl) (RW.q (v := .bool false) rfl (q_call (args := #[iV x]) oK rfl rfl (fun w1 hw1 => isNaN_c w1 (Go.K.hp w1) (Hp.le_refl _))) (RW.q (v := .bool false) rfl (q_assign rfl) ?_)))))))))
 refine RW.nil (Post.then_n (AW.seq (AW.region (RW.q rfl (q_move rfl) (RW.q (v := .bool false) rfl (q_call (args := #[iV y]) oK rfl rfl (fun w1 hw1 => isNaN_c w1 (Go.K.hp w1) (Hp.le_refl _))) (RW.q (v := .bool false) rfl (q_assign rfl) (RW.nil (Post.then_n (AW.seq ?_)))))))))
 refine AW.seq (AW.region (RW.q rfl (q_move rfl) (RW.nil (Post.then_n (AW.cond (b := false) rfl (fun hc1 => ?_) (fun hc1 => ?_))))))
 ·
  cases hc1
 ·
  refine AW.skip (Post.then_n (AW.seq (AW.seq (AW.region (RW.q rfl (q_move rfl) (RW.nil (Post.then_n (AW.cond (b := false) rfl (fun hc2 => ?_) (fun hc2 => ?_)))))))))
  ·
   cases hc2
  ·
   refine AW.skip (Post.then_n (AW.seq (AW.seq (AW.region (RW.q rfl (q_move rfl) (RW.q rfl (q_move rfl) (RW.q (v := .bool (decide (x < y))) rfl (q_lss rfl rfl) (RW.nil (Post.then_n ?_)))))))))
   refine AW.cond (b := decide (x < y)) rfl (fun hc3 => ?_) (fun hc3 => ?_)
   ·
    simp [-List.getD_eq_getElem?_getD] at hc3
    refine AW.seq (AW.region (RW.q (v := iV (-1)) rfl (q_assign rfl) (RW.nil (Post.then_n (AW.ret (Post.then_r ?_))))))
    exact fin_val (v' := iV (-1)) rfl rfl rfl (by unfold Se.cI; rw [if_pos (by omega)])
   ·
    simp [-List.getD_eq_getElem?_getD] at hc3
    refine AW.skip (Post.then_n (AW.seq (AW.seq (AW.region (RW.q rfl (q_move rfl) (RW.q rfl (q_move rfl) (RW.q (v := .bool (decide (y < x))) rfl (q_gtr rfl rfl) (RW.nil (Post.then_n ?_)))))))))
    refine AW.cond (b := decide (y < x)) rfl (fun hc4 => ?_) (fun hc4 => ?_)
    ·
     simp [-List.getD_eq_getElem?_getD] at hc4
     refine AW.seq (AW.region (RW.q (v := iV 1) rfl (q_assign rfl) (RW.nil (Post.then_n (AW.ret (Post.then_r ?_))))))
     exact fin_val (v' := iV 1) rfl rfl rfl (by unfold Se.cI; rw [if_neg (by omega), if_pos (by omega)])
    ·
     simp [-List.getD_eq_getElem?_getD] at hc4
     refine AW.skip (Post.then_n (AW.seq (AW.region (RW.q (v := iV 0) rfl (q_assign rfl) (RW.nil (Post.then_n (AW.ret ?_)))))))
     exact fin_val (v' := iV 0) rfl rfl rfl (by unfold Se.cI; rw [if_neg (by omega), if_neg (by omega)])
theorem Or_c (w : World) (Φ : Hp) (hΦ : Hp.le Φ (hp w)) {xs : List Int} {v1 : Value} (h1 : RepSl Φ xs v1) :
  Calls pg 63 #[v1] w fun e w' => e = .returned (iV (Se.orL xs)) ∧ Bel w.heap.size w w' := by
 refine calls_of_AW (args := [v1]) Tryz.func63 rfl (lBT rfl) (St ⟨w, Φ, []⟩ Φ []) (StP.init w Φ hΦ []) ?_
 show AW pg 18 [] _ _ _ [(0, v1)] _
 have hm1 : xs.length * 8 ≤ 140737488355328 := h1.max
 refine AW.seq (AW.region (RW.q (v := iV 0) rfl (q_assign rfl) (RW.nil (Post.then_n (AW.seq (AW.region (RW.q (v := iV 0) rfl (q_assign rfl) (RW.nil (Post.then_n ?_)))))))))
 refine AW.seq (AW.seq (AW.region (RW.q rfl (q_move rfl) (RW.q (v := iV (xs.length : Int)) rfl (q_len_sl rfl h1.sl uT29) (RW.q rfl (q_move rfl) (RW.nil (Post.then_n (AW.block (AW.loop (fun s J m => ∃ (k : Nat), s = [(3, iV 0), (6, v1), (7, iV (xs.length : Int)), (8, iV (k : Int))] ∧ J = St ⟨w, Φ, []⟩ Φ [] ∧ m = xs.length - k ∧ (k ≤ xs.length) ∧ (∀ j, j < k → xs.getD j 0 = 0)) (s0 := _) (J1 := _) (m0 := _) ⟨0, rfl, rfl, rfl, (by omega), (by omega)⟩ ⟨rfl, rfl, rfl, rfl, trivial⟩ (fun _ h => h) ?_)))))))))
 rintro _ _ _ _ ⟨k, rfl, rfl, rfl, hk, hz⟩
 refine AW.seq (AW.region (RW.q (v := .bool (decide ((k : Int) < (xs.length : Int)))) rfl (q_lss rfl rfl) (RW.nil (Post.then_n (AW.seq (AW.cond (b := decide ((k : Int) < (xs.length : Int))) rfl (fun hc1 => ?_) (fun hc1 => ?_)))))))
 ·
  simp [-List.getD_eq_getElem?_getD] at hc1
  refine AW.skip (Post.then_n (AW.seq (AW.block (AW.seq (AW.region (RW.q (v := .pointer (some (Value.at v1 (k * 1)))) rfl (q_indexAddr rfl rfl h1.sl uT29 sz3 (by omega) (by omega) rfl) (RW.q (v := iV (xs.getD k 0)) rfl (q_load rfl uT3 rfl (Cell.repInt h1 (by omega))) (RW.q (v := iV (xs.getD k 0)) rfl (q_assign rfl) (RW.nil ?_)))))))))
  refine Post.then_n (AW.seq (AW.region (RW.q rfl (q_move rfl) (RW.q rfl (q_move rfl) (RW.q (v := .bool (!decide (xs.getD k 0 = 0))) rfl (q_neq rfl rfl) (RW.nil (Post.then_n (AW.cond (b := !decide (xs.getD k 0 = 0)) rfl (fun hc2 => ?_) (fun hc2 => ?_)))))))))
  ·
   simp [-List.getD_eq_getElem?_getD] at hc2
   refine AW.seq (AW.region (RW.q rfl (q_move rfl) (RW.q (v := iV (xs.getD k 0)) rfl (q_assign rfl) (RW.nil (Post.then_n (AW.ret (Post.blk_r (Post.then_r (Post.then_r (Post.blk_r (Post.then_r ?_)))))))))))
   exact fin_val (v' := iV (xs.getD k 0)) rfl rfl rfl (by rw [Se.orL_hit (by omega) hz hc2])
  ·
   simp [-List.getD_eq_getElem?_getD] at hc2
   refine AW.skip (Post.blk_n (Post.then_n ?_))
   refine AW.region (RW.q (v := iV ((k + 1 : Nat) : Int)) rfl (q_add rfl rfl (by omega) (by unfold I64; omega)) (RW.q rfl (q_move rfl) (RW.nil ?_)))
   exact Post.back (s' := _) (J' := _) (m' := _) (by omega) ⟨k + 1, rfl, rfl, rfl, (by omega), (Se.lt_succ hz (by omega))⟩ ⟨rfl, rfl, rfl, rfl, trivial⟩ (fun _ h => h)
 ·
  simp [-List.getD_eq_getElem?_getD] at hc1
  refine AW.exit (Post.then_x (Post.then_x (Post.blk_hit (Post.then_n ?_))))
  refine AW.seq (AW.region (RW.q rfl (q_move rfl) (RW.q (v := iV 0) rfl (q_assign rfl) (RW.nil (Post.then_n (AW.ret ?_))))))
  exact fin_val (v' := iV 0) rfl rfl rfl (by rw [Se.orL_miss (fun j hj => hz j (by omega))])
theorem cmpA_c (w : World) (Φ : Hp) (hΦ : Hp.le Φ (hp w)) {x y : Gr.Arc} :
  Calls pg 62 #[.agg #[iV x.From, iV x.To], .agg #[iV y.From, iV y.To]] w fun e w' => e = .returned (iV (Se.cA x y)) ∧ Bel w.heap.size w w' := by
 refine calls_of_AW (args := [.agg #[iV x.From, iV x.To], .agg #[iV y.From, iV y.To]]) Tryz.func62 rfl (lBT rfl) (St ⟨w, Φ, []⟩ Φ []) (StP.init w Φ hΦ []) ?_
 show AW pg 17 [] _ _ _ [(0, .agg #[iV x.From, iV x.To]), (1, .agg #[iV y.From, iV y.To])] _
 refine AW.seq (AW.region (RW.eff (fun b1 : Nat => pV b1 0) (fun b1 => St ⟨w, Φ, []⟩ Φ [.blk b1 54 [iV x.From, iV x.To]]) rfl (e_boxA (cs := [iV x.From, iV x.To]) rfl) ?_))
 intro b1
 refine RW.eff (fun b2 : Nat => pV b2 0) (fun b2 => St ⟨w, Φ, []⟩ Φ [.blk b2 54 [iV y.From, iV y.To], .blk b1 54 [iV x.From, iV x.To]]) rfl (e_boxA (cs := [iV y.From, iV y.To]) rfl) ?_
 intro b2
 refine RW.q (v := iV 0) rfl (q_assign rfl) (RW.nil (Post.then_n (AW.seq (AW.draw (J0 := St ⟨w, Φ, []⟩ Φ [.blk b2 54 [iV y.From, iV y.To], .blk b1 54 [iV x.From, iV x.To]]) [.q, .q, .q, .q, .q, .q, .q, .q, .q, .q, .e, .e, .q] [0, 1, 2, 3, 4, 5, 6, 7, 8, 9, 10, 11, 12] hmix (by kernel_rfl) (DW.q (v := pV b1 0) (fun _ h => h) rfl (q_fieldAddr rfl uT54 rfl sz3 rfl) (DW.q (v := iV x.From) (fun _ h => h) rfl (q_load rfl uT3 rfl (Cell.blk 1 rfl rfl)) (DW.q (v := pV b2 0) (fun _ h => h) rfl (q_fieldAddr rfl uT54 rfl sz3 rfl) (DW.q (v := iV y.From) (fun _ h => h) rfl (q_load rfl uT3 rfl (Cell.blk 0 rfl rfl)) (DW.q (v := iV (Se.cI x.From y.From)) (fun _ h => h) rfl (q_call (args := #[iV x.From, iV y.From]) oK rfl rfl (fun w1 hw1 => Compare_c w1 (Go.K.hp w1) (Hp.le_refl _))) ?_)))))))))
 refine DW.q (v := pV b1 1) (fun _ h => h) rfl (q_fieldAddr rfl uT54 rfl sz3 rfl) (DW.q (v := iV x.To) (fun _ h => h) rfl (q_load rfl uT3 rfl (Cell.blk 1 rfl rfl)) (DW.q (v := pV b2 1) (fun _ h => h) rfl (q_fieldAddr rfl uT54 rfl sz3 rfl) (DW.q (v := iV y.To) (fun _ h => h) rfl (q_load rfl uT3 rfl (Cell.blk 0 rfl rfl)) (DW.q (v := iV (Se.cI x.To y.To)) (fun _ h => h) rfl (q_call (args := #[iV x.To, iV y.To]) oK rfl rfl (fun w1 hw1 => Compare_c w1 (Go.K.hp w1) (Hp.le_refl _))) (DW.eff (fun b3 : Nat => (.slice (some ⟨b3, 0, none⟩) 2 2)) (fun b3 => St ⟨w, Φ, []⟩ Φ [.row (.slice (some ⟨b3, 0, none⟩) 2 2) 3 1 2 ([iV (Se.cI x.From y.From), iV (Se.cI x.To y.To)]), .blk b2 54 [iV y.From, iV y.To], .blk b1 54 [iV x.From, iV x.To]]) (fun _ _ => (fun _ h => (StP.drop h (by exact .cons _ (.cons_cons _ (.cons_cons _ (.slnil))))))) rfl (e_buildSlice (vals := [(0, iV (Se.cI x.From y.From)), (1, iV (Se.cI x.To y.To))]) (cells := [iV (Se.cI x.From y.From), iV (Se.cI x.To y.To)]) uT29 inf3 rfl rfl rfl (by kernel_rfl) rfl) ?_)))))
 intro b3
 refine DW.qe (v := iV (Se.orL ([Se.cI x.From y.From, Se.cI x.To y.To] : List Int))) (fun _ => (fun _ h => (StP.drop h (by exact .cons _ (.cons_cons _ (.cons_cons _ (.slnil))))))) rfl (q_call (args := #[(.slice (some ⟨b3, 0, none⟩) 2 2)]) oK rfl rfl (fun w1 hw1 => Or_c w1 (Go.K.hp w1) (Hp.le_refl _) (RowS.ints (xs := [Se.cI x.From y.From, Se.cI x.To y.To]) (show RowS (Go.K.hp w1) (.slice (some ⟨b3, 0, none⟩) 2 2) 3 1 (2) ([iV (Se.cI x.From y.From), iV (Se.cI x.To y.To)]) from hw1.sAt 0 rfl) (by decide) (Se.wf2 _ _ _ _)))) (DW.q (v := iV (Se.orL ([Se.cI x.From y.From, Se.cI x.To y.To] : List Int))) (fun _ h => (StP.drop h (by exact .cons _ (.cons_cons _ (.cons_cons _ (.slnil)))))) rfl (q_assign rfl) (DW.nil (Post.then_n (AW.ret ?_))))
 exact fin_val (v' := iV (Se.orL ([Se.cI x.From y.From, Se.cI x.To y.To] : List Int))) rfl rfl rfl (by rw [Se.cA_or])
theorem add_c {B : Bs} {Φ : Hp} {C : List Chunk} {b3 : Nat} {f t : Int} {L : List Gr.Arc} {lv : Value} (_ : I64 f) (_ : I64 t) (hlv : IsSl lv L.length) (hL : L.length ≤ 1000000)
  (w : World) (hW : (St B Φ (.blk b3 50 [lv] :: .row lv 54 2 L.length (flat L) :: C)).p w) : Calls pg 60 #[iV f, iV t, .pointer (some ⟨b3, 0, none⟩)] w fun e w' =>
   ∃ y : {v : Value // IsSl v (Ad.addA L f t).length}, e = .returned (.tuple #[]) ∧ (St B Φ (.blk b3 50 [y.1] :: .row y.1 54 2 (Ad.addA L f t).length (flat (Ad.addA L f t)) :: C)).p w' := by
 refine calls_of_AW (args := [iV f, iV t, pV b3 0]) Tryz.func60 rfl (lBT rfl) (St B Φ ((.blk b3 50 [lv]) :: (.row lv 54 2 L.length (flat L)) :: C)) hW ?_
 show AW pg 17 [] _ _ _ [(0, iV f), (1, iV t), (2, pV b3 0)] _
 refine AW.seq (AW.region (RW.q rfl (q_move rfl) (RW.q (v := .bool (decide ((0 : Int) ≤ f))) rfl (q_geq rfl rfl) (RW.q rfl (q_move rfl) (RW.g (b := (decide ((0 : Int) ≤ f))) (v := iV t) rfl rfl rfl (fun h => q_move rfl) (RW.g (b := (decide ((0 : Int) ≤ f))) (v := .bool (decide ((0 : Int) ≤ t))) rfl rfl rfl (fun h => q_geq (gv_pos h) rfl) ?_))))))
 obtain ⟨qb1, hqb1⟩ : ∃ qz : Bool, ((decide ((0 : Int) ≤ f)) && (decide ((0 : Int) ≤ t))) = qz := ⟨_, rfl⟩
 refine RW.q (v := .bool qb1) rfl (q_as (v := .bool ((decide ((0 : Int) ≤ f)) && (decide ((0 : Int) ≤ t)))) (qpA rfl rfl rfl) (congrArg Value.bool hqb1)) ?_
 subst hqb1
 refine RW.nil (Post.then_n (AW.cond (b := ((decide ((0 : Int) ≤ f)) && (decide ((0 : Int) ≤ t)))) rfl (fun hc1 => ?_) (fun hc1 => ?_)))
 ·
  simp [-List.getD_eq_getElem?_getD] at hc1
  refine AW.region (RW.q (v := lv) rfl (q_load rfl uT50 rfl (Cell.blk 0 rfl rfl)) (RW.q rfl (q_move rfl) (RW.q rfl (q_move rfl) (RW.q (v := .agg #[iV f, iV t]) rfl (q_build (vals := [(0, iV f), (1, iV t)]) zero54 uT54 places54 rfl rfl) (RW.eff (fun b1 : Nat => (.slice (some ⟨b1, 0, none⟩) 1 1)) (fun b1 => St B Φ ((.row (.slice (some ⟨b1, 0, none⟩) 1 1) 54 2 1 ([iV f, iV t])) :: (.blk b3 50 [lv]) :: (.row lv 54 2 L.length (flat L)) :: C)) rfl (e_buildSlice (vals := [(0, .agg #[iV f, iV t])]) (cells := [iV f, iV t]) uT50 inf54 rfl rfl rfl (by kernel_rfl) rfl) ?_)))))
  intro b1
  refine RW.eff (fun xv : {vq : Value // IsSl vq (L.length + 1)} => xv.1) (fun xv => St B Φ ((.row (.slice (some ⟨b1, 0, none⟩) 1 1) 54 2 1 ([iV f, iV t])) :: (.blk b3 50 [lv]) :: (.row xv.1 54 2 ((L ++ [(⟨f, t⟩ : Gr.Arc)]).length) (flat (L ++ [(⟨f, t⟩ : Gr.Arc)]))) :: C)) rfl (e_append 2 rfl rfl rfl uT50 inf54 rfl rfl rfl (Cells.row0 0 rfl) rfl (by omega) (by omega) (fun _ => by simp [flat] <;> rfl)) ?_
  rintro ⟨va1, hva1⟩
  refine RW.wk (J' := St B Φ ((.blk b3 50 [lv]) :: (.row va1 54 2 ((L ++ [(⟨f, t⟩ : Gr.Arc)]).length) (flat (L ++ [(⟨f, t⟩ : Gr.Arc)]))) :: C)) (fun _ h => StP.drop h (by exact .cons _ (.cons_cons _ (.cons_cons _ ((List.Sublist.refl _)))))) (RW.effn (J' := St B Φ ((.blk b3 50 [va1]) :: (.row va1 54 2 ((L ++ [(⟨f, t⟩ : Gr.Arc)]).length) (flat (L ++ [(⟨f, t⟩ : Gr.Arc)]))) :: C)) (e_storeSl (v := va1) 0 rfl rfl rfl hva1 sz50 rfl rfl rfl) (RW.nil (fin_none (J' := St B Φ ((.blk b3 50 [va1]) :: (.row va1 54 2 ((L ++ [(⟨f, t⟩ : Gr.Arc)]).length) (flat (L ++ [(⟨f, t⟩ : Gr.Arc)]))) :: C)) rfl rfl (fun _ h => h) (fun w' hw' => ?_))))
  have hadd : Ad.addA L f t = L ++ [⟨f, t⟩] := if_pos (by omega)
  refine ⟨⟨va1, by rw [hadd]; simpa using hva1⟩, rfl, ?_⟩
  show (St B Φ (.blk b3 50 [va1] :: .row va1 54 2 (Ad.addA L f t).length (flat (Ad.addA L f t)) :: C)).p w'
  rw [hadd]
  exact hw'
 ·
  simp [-List.getD_eq_getElem?_getD] at hc1
  refine AW.skip (fin_none (J' := St B Φ ((.blk b3 50 [lv]) :: (.row lv 54 2 L.length (flat L)) :: C)) rfl rfl (fun _ h => h) (fun w' hw' => ?_))
  have hadd : Ad.addA L f t = L := if_neg (by omega)
  refine ⟨⟨lv, by rw [hadd]; exact hlv⟩, rfl, ?_⟩
  show (St B Φ (.blk b3 50 [lv] :: .row lv 54 2 (Ad.addA L f t).length (flat (Ad.addA L f t)) :: C)).p w'
  rw [hadd]; exact hw'
theorem Compact_c {B : Bs} {Φ : Hp} {C : List Chunk} (_ : B.E = []) {v : Value} {n : Nat} {L : List Gr.Arc} (hv : IsSl v n) (hL : L.length = n) (hn : n ≤ 1000000) (w : World) (hW : (St B Φ (.row v 54 2 n (flat L) :: C)).p w) :
  Calls pg 65 #[v] w fun e w' => ∃ x : {r : Value // IsSl r (Se.comp L).length}, e = .returned (x.1) ∧ (St B Φ (.row x.1 54 2 (Se.comp L).length (flat (Se.comp L)) :: C)).p w' := by
 refine calls_of_AW (args := [v]) Tryz.func65 rfl (lBT rfl) (St B Φ ((.row v 54 2 n (flat L)) :: C)) hW ?_
 show AW pg 61 [] _ _ _ [(0, v)] _
 refine AW.seq (AW.region (RW.q (v := nS) rfl (q_assign rfl) (RW.nil (Post.then_n (AW.seq (AW.seq (AW.region (RW.q rfl (q_move rfl) (RW.q (v := iV (n : Int)) rfl (q_len_sl rfl hv uT50) ?_)))))))))
 refine RW.q (v := .bool (decide ((n : Int) < 2))) rfl (q_lss rfl rfl) (RW.nil (Post.then_n (AW.cond (b := decide ((n : Int) < 2)) rfl (fun hc1 => ?_) (fun hc1 => ?_))))
 ·
  simp [-List.getD_eq_getElem?_getD] at hc1
  refine AW.seq (AW.region (RW.q rfl (q_move rfl) (RW.q (v := v) rfl (q_assign rfl) (RW.nil (Post.then_n (AW.ret (Post.then_r ?_)))))))
  have hcp : Se.comp L = L := by have h9 := Se.comp_id (L := L) (k := L.length) (Nat.le_refl _) (fun j h1 h2 => by omega); rwa [List.take_length] at h9
  refine fin_out1 rfl rfl rfl (fun w' hw => ⟨⟨v, by rw [hcp, hL]; exact hv⟩, rfl, ?_⟩)
  show (St B Φ (.row v 54 2 (Se.comp L).length (flat (Se.comp L)) :: C)).p w'
  rw [hcp, hL]
  exact hw
 ·
  simp [-List.getD_eq_getElem?_getD] at hc1
  refine AW.skip (Post.then_n (AW.seq (AW.seq (AW.region (RW.q (v := iV 1) rfl (q_assign rfl) (RW.nil (Post.then_n (AW.block (AW.loop (fun s J m => ∃ (k : Nat), s = [(0, v), (3, iV (k : Int))] ∧ J = St B Φ ((.row v 54 2 n (flat L)) :: C) ∧ m = n - k ∧ (1 ≤ k) ∧ (k ≤ n) ∧ (∀ j, 1 ≤ j → j < k → L.getD j default ≠ L.getD (j - 1) default)) (s0 := _) (J1 := _) (m0 := _) ⟨1, rfl, rfl, rfl, (by omega), (by omega), (fun j h1 h2 => by omega)⟩ ⟨rfl, rfl, trivial⟩ (fun _ h => h) ?_)))))))))
  rintro _ _ _ _ ⟨k, rfl, rfl, rfl, hk1, hkn, hne⟩
  refine AW.seq (AW.seq (AW.region (RW.q rfl (q_move rfl) (RW.q rfl (q_move rfl) (RW.q (v := iV (n : Int)) rfl (q_len_sl rfl hv uT50) (RW.q (v := .bool (decide ((k : Int) < (n : Int)))) rfl (q_lss rfl rfl) (RW.nil (Post.then_n (AW.cond (b := decide ((k : Int) < (n : Int))) rfl (fun hc2 => ?_) (fun hc2 => ?_))))))))))
  ·
   simp [-List.getD_eq_getElem?_getD] at hc2
   refine AW.skip (Post.then_n (AW.seq (AW.block (AW.seq (AW.draw (J0 := St B Φ ((.row v 54 2 n (flat L)) :: C)) [.q, .q, .q, .q, .q, .q, .q, .q, .q, .q] [0, 1, 2, 3, 4, 5, 6, 7, 8, 9] hmix (by kernel_rfl) (DW.q (fun _ h => h) rfl (q_move rfl) (DW.q (fun _ h => h) rfl (q_move rfl) (DW.q (v := .pointer (some (Value.at v (k * 2)))) (fun _ h => h) rfl (q_indexAddr rfl rfl hv uT50 sz54 (by omega) (by omega) rfl) (DW.q (v := .agg #[iV ((L.getD k default).From), iV ((L.getD k default).To)]) (fun _ h => h) rfl (q_loadAgg rfl uT54 rfl sz54 rfl (Cells.rowE evenG54 0 rfl (by omega) rfl)) ?_)))))))))
   refine DW.q (fun _ h => h) rfl (q_move rfl) (DW.q (fun _ h => h) rfl (q_move rfl) (DW.q (v := iV (((k - 1) : Nat) : Int)) (fun _ h => h) rfl (q_as (v := iV ((k : Int) - 1)) (q_sub rfl rfl (by omega) (by unfold I64; omega)) (congrArg (Value.int .i64) (by omega))) (DW.q (v := .pointer (some (Value.at v ((k - 1) * 2)))) (fun _ h => h) rfl (q_indexAddr rfl rfl hv uT50 sz54 (by omega) (by omega) rfl) (DW.q (v := .agg #[iV ((L.getD (k - 1) default).From), iV ((L.getD (k - 1) default).To)]) (fun _ h => h) rfl (q_loadAgg rfl uT54 rfl sz54 rfl (Cells.rowE evenG54 0 rfl (by omega) rfl)) (DW.q (v := .bool (decide ((L.getD k default).From = (L.getD (k - 1) default).From) && decide ((L.getD k default).To = (L.getD (k - 1) default).To))) (fun _ h => h) rfl (q_eqlS rfl rfl (eqS54 _ _ _ _) eqG54) (DW.nil (Post.then_n (AW.cond (b := decide ((L.getD k default).From = (L.getD (k - 1) default).From) && decide ((L.getD k default).To = (L.getD (k - 1) default).To)) rfl (fun hc3 => ?_) (fun hc3 => ?_)))))))))
   ·
    simp [-List.getD_eq_getElem?_getD] at hc3
    refine AW.seq ?_
    have heq1 : L.getD k default = L.getD (k - 1) default := Se.arc_eqP (by simpa [-List.getD_eq_getElem?_getD] using hc3)
    refine AW.region (RW.q rfl (q_move rfl) (RW.q rfl (q_move rfl) (RW.q (v := (subSl v k n 2)) rfl (q_sliceL (v := v) (l := (k : Int)) rfl rfl hv uT50 sz54 (by omega) (by omega)) (RW.q (v := (subSl v k n 2)) rfl (q_assign rfl) (RW.nil (Post.then_n (AW.seq (AW.seq (AW.region ?_)))))))))
    refine RW.q (v := iV 1) rfl (q_assign rfl) (RW.nil (Post.then_n (AW.block (AW.loop (fun s J m => ∃ (c : Nat), ∃ (d : Nat), ∃ (K : List Gr.Arc), s = [(0, v), (4, (subSl v k n 2)), (3, iV (c : Int)), (5, iV (d : Int))] ∧ J = St B Φ ((.row v 54 2 n (flat K)) :: C) ∧ m = n - d ∧ (1 ≤ d) ∧ (k + d ≤ n) ∧ (k ≤ c) ∧ (Se.CmI L K c (k + d))) (s0 := _) (J1 := _) (m0 := _) ⟨k, 1, _, rfl, rfl, rfl, (by omega), (by omega), (by omega), (Se.CmI.start (by omega) (by omega) heq1 hne)⟩ ⟨rfl, rfl, rfl, rfl, trivial⟩ (fun _ h => h) ?_))))
    rintro _ _ _ _ ⟨c, d, K, rfl, rfl, rfl, hd1, hdn, hck, hI⟩
    refine AW.seq (AW.seq (AW.region (RW.q rfl (q_move rfl) (RW.q rfl (q_move rfl) (RW.q (v := iV (((n - k) : Nat) : Int)) rfl (q_len_sl rfl (isSl_sub hv (by omega) (by omega)) uT50) (RW.q (v := .bool (decide ((d : Int) < (((n - k) : Nat) : Int)))) rfl (q_lss rfl rfl) (RW.nil (Post.then_n (AW.cond (b := decide ((d : Int) < (((n - k) : Nat) : Int))) rfl (fun hc4 => ?_) (fun hc4 => ?_))))))))))
    ·
     simp [-List.getD_eq_getElem?_getD] at hc4
     refine AW.skip (Post.then_n (AW.seq (AW.block (AW.seq ?_))))
     have hKl := hI.len
     have hkp := hI.kp
     have hg1 : K.getD (k + d) default = L.getD (k + d) default := hI.post (k + d) (by omega) (by omega)
     have hg2 : K.getD (k + (d - 1)) default = L.getD (k + d - 1) default := by rw [show k + (d - 1) = k + d - 1 by omega]; exact hI.post (k + d - 1) (by omega) (by omega)
     refine AW.draw (J0 := St B Φ ((.row v 54 2 n (flat K)) :: C)) [.q, .q, .q, .q, .q, .q, .q, .q, .q, .q] [0, 1, 2, 3, 4, 5, 6, 7, 8, 9] hmix (by kernel_rfl) (DW.q (fun _ h => h) rfl (q_move rfl) (DW.q (fun _ h => h) rfl (q_move rfl) (DW.q (v := .pointer (some (Value.at v ((k + d) * 2)))) (fun _ h => h) rfl (q_indexAddr (v := (subSl v k n 2)) rfl rfl (isSl_sub hv (by omega) (by omega)) uT50 sz54 (by omega) (by omega) (by rw [at_sub (l := k) (m := n) hv (by omega) (by omega)]; exact congrArg (Value.at _) (by omega))) (DW.q (v := .agg #[iV ((K.getD (k + d) default).From), iV ((K.getD (k + d) default).To)]) (fun _ h => h) rfl (q_loadAgg rfl uT54 rfl sz54 rfl (Cells.rowE evenG54 0 rfl (by omega) rfl)) (DW.q (fun _ h => h) rfl (q_move rfl) (DW.q (fun _ h => h) rfl (q_move rfl) (DW.q (v := iV (((d - 1) : Nat) : Int)) (fun _ h => h) rfl (q_as (v := iV ((d : Int) - 1)) (q_sub rfl rfl (by omega) (by unfold I64; omega)) (congrArg (Value.int .i64) (by omega))) (DW.q (v := .pointer (some (Value.at v ((k + (d - 1)) * 2)))) (fun _ h => h) rfl (q_indexAddr (v := (subSl v k n 2)) rfl rfl (isSl_sub hv (by omega) (by omega)) uT50 sz54 (by omega) (by omega) (by rw [at_sub (l := k) (m := n) hv (by omega) (by omega)]; exact congrArg (Value.at _) (by omega))) (DW.q (v := .agg #[iV ((K.getD (k + (d - 1)) default).From), iV ((K.getD (k + (d - 1)) default).To)]) (fun _ h => h) rfl (q_loadAgg rfl uT54 rfl sz54 rfl (Cells.rowE evenG54 0 rfl (by omega) rfl)) ?_)))))))))
     refine DW.q (v := .bool (!(decide ((K.getD (k + d) default).From = (K.getD (k + (d - 1)) default).From) && decide ((K.getD (k + d) default).To = (K.getD (k + (d - 1)) default).To)))) (fun _ h => h) rfl (q_neqS rfl rfl (eqS54 _ _ _ _) eqG54) (DW.nil (Post.then_n (AW.cond (b := !(decide ((K.getD (k + d) default).From = (K.getD (k + (d - 1)) default).From) && decide ((K.getD (k + d) default).To = (K.getD (k + (d - 1)) default).To))) rfl (fun hc5 => ?_) (fun hc5 => ?_))))
     ·
      simp [-List.getD_eq_getElem?_getD] at hc5
      refine AW.seq ?_
      have hne2 : L.getD (k + d) default ≠ L.getD (k + d - 1) default := fun e => by rw [hg1, hg2, e] at hc5; simp at hc5
      refine AW.region (RW.q rfl (q_move rfl) (RW.q rfl (q_move rfl) (RW.q rfl (q_move rfl) (RW.q rfl (q_move rfl) (RW.q (v := .pointer (some (Value.at v ((k + d) * 2)))) rfl (q_indexAddr (v := (subSl v k n 2)) rfl rfl (isSl_sub hv (by omega) (by omega)) uT50 sz54 (by omega) (by omega) (by rw [at_sub (l := k) (m := n) hv (by omega) (by omega)]; exact congrArg (Value.at _) (by omega))) (RW.q (v := .agg #[iV ((K.getD (k + d) default).From), iV ((K.getD (k + d) default).To)]) rfl (q_loadAgg rfl uT54 rfl sz54 rfl (Cells.rowE evenG54 0 rfl (by omega) rfl)) (RW.q (v := .pointer (some (Value.at v (c * 2)))) rfl (q_indexAddr rfl rfl hv uT50 sz54 (by omega) (by omega) rfl) (RW.effn (J' := St B Φ ((.row v 54 2 n (flat (K.set c (K.getD (k + d) default)))) :: C)) (e_storeRow (v := .agg #[iV ((K.getD (k + d) default).From), iV ((K.getD (k + d) default).To)]) 0 rfl rfl rfl sz54 rfl rfl (by rw [flat_len evenG54]; simp [Rep.sz]; omega) (splice_E evenG54 (k := c) (x := (K.getD (k + d) default)) (by first | omega | (simp; omega)) rfl) rfl) (RW.nil ?_)))))))))
      refine Post.then_n (AW.region (RW.q rfl (q_move rfl) (RW.q (v := iV ((c + 1 : Nat) : Int)) rfl (q_add rfl rfl (by omega) (by unfold I64; omega)) (RW.q (v := iV ((c + 1 : Nat) : Int)) rfl (q_assign rfl) (RW.nil (Post.blk_n (Post.then_n ?_)))))))
      refine AW.region (RW.q rfl (q_move rfl) (RW.q (v := iV ((d + 1 : Nat) : Int)) rfl (q_add rfl rfl (by omega) (by unfold I64; omega)) (RW.q (v := iV ((d + 1 : Nat) : Int)) rfl (q_assign rfl) (RW.nil ?_))))
      exact Post.back (s' := _) (J' := _) (m' := _) (by omega) ⟨c + 1, d + 1, _, rfl, rfl, rfl, (by omega), (by omega), (by omega), (by have h9 := hI.put (by omega) hne2; rw [hg1]; exact h9)⟩ ⟨rfl, rfl, rfl, rfl, trivial⟩ (fun _ h => h)
     ·
      simp [-List.getD_eq_getElem?_getD] at hc5
      refine AW.skip (Post.blk_n (Post.then_n ?_))
      refine AW.region (RW.q rfl (q_move rfl) (RW.q (v := iV ((d + 1 : Nat) : Int)) rfl (q_add rfl rfl (by omega) (by unfold I64; omega)) (RW.q (v := iV ((d + 1 : Nat) : Int)) rfl (q_assign rfl) (RW.nil ?_))))
      have heq2 : L.getD (k + d) default = L.getD (k + d - 1) default := by rw [← hg1, ← hg2]; exact Se.arc_eqP (by simpa [-List.getD_eq_getElem?_getD] using hc5)
      exact Post.back (s' := _) (J' := _) (m' := _) (by omega) ⟨c, d + 1, _, rfl, rfl, rfl, (by omega), (by omega), (by omega), (hI.keep (by omega) heq2)⟩ ⟨rfl, rfl, rfl, rfl, trivial⟩ (fun _ h => h)
    ·
     simp [-List.getD_eq_getElem?_getD] at hc4
     refine AW.exit (Post.then_x (Post.then_x (Post.blk_hit (Post.then_n ?_))))
     refine AW.seq ?_
     have hKl := hI.len
     have hkp := hI.kp
     refine AW.region (RW.q rfl (q_move rfl) (RW.q rfl (q_move rfl) (RW.q (v := (subSl v c n 2)) rfl (q_sliceL (v := v) (l := (c : Int)) rfl rfl hv uT50 sz54 (by omega) (by omega)) (RW.effn (J' := St B Φ ((.row v 54 2 n (flat (K.take c ++ List.replicate (n - c) default))) :: C)) (e_clearE (u := v) (n := n) (k := c) (xs := K) evenG54 0 rfl rfl uT50 inf54 rfl rfl (by decide) (by omega) (by omega) rfl) (RW.nil (Post.then_n (AW.seq (AW.region (RW.q rfl (q_move rfl) ?_)))))))))
     refine RW.q rfl (q_move rfl) (RW.q (v := (subSl v 0 c 2)) rfl (q_sliceH (v := v) (m := (c : Int)) rfl rfl hv uT50 sz54 (by omega) (by omega)) (RW.q (v := (subSl v 0 c 2)) rfl (q_assign rfl) (RW.nil (Post.then_n (AW.ret (Post.blk_r (Post.then_r (Post.then_r (Post.blk_r (Post.then_r ?_))))))))))
     have hcl : (Se.comp L).length = c := by have h9 := hI.kl; rw [List.take_of_length_le (by omega)] at h9; exact h9.symm
     have hcp : K.take c = Se.comp L := by have h9 := hI.pre; rw [List.take_of_length_le (l := L) (by omega)] at h9; exact h9
     refine fin_out1 rfl rfl rfl (fun w' hw => ⟨⟨subSl v 0 c 2, by rw [hcl]; exact isSl_sub hv (Nat.zero_le _) (by omega)⟩, rfl, ?_⟩)
     show (St B Φ (.row (subSl v 0 c 2) 54 2 (Se.comp L).length (flat (Se.comp L)) :: C)).p w'
     rw [hcl, ← hcp]
     have h9 := StP.rowTakeE evenG54 (k := c) hw (by omega)
     rw [List.take_append_of_le_length (by rw [List.length_take]; omega), List.take_take, Nat.min_self] at h9
     exact h9
   ·
    simp [-List.getD_eq_getElem?_getD] at hc3
    refine AW.skip (Post.blk_n (Post.then_n ?_))
    refine AW.region (RW.q rfl (q_move rfl) (RW.q (v := iV ((k + 1 : Nat) : Int)) rfl (q_add rfl rfl (by omega) (by unfold I64; omega)) (RW.q (v := iV ((k + 1 : Nat) : Int)) rfl (q_assign rfl) (RW.nil ?_))))
    exact Post.back (s' := _) (J' := _) (m' := _) (by omega) ⟨k + 1, rfl, rfl, rfl, (by omega), (by omega), (fun j h1 h2 => by rcases Nat.lt_or_eq_of_le (Nat.lt_succ_iff.1 h2) with h3 | h3; exact hne j h1 h3; subst h3; exact fun e => by rw [e] at hc3; simp at hc3)⟩ ⟨rfl, rfl, trivial⟩ (fun _ h => h)
  ·
   simp [-List.getD_eq_getElem?_getD] at hc2
   refine AW.exit (Post.then_x (Post.then_x (Post.blk_hit (Post.then_n ?_))))
   refine AW.seq (AW.region (RW.q rfl (q_move rfl) (RW.q (v := v) rfl (q_assign rfl) (RW.nil (Post.then_n (AW.ret ?_))))))
   have hcp : Se.comp L = L := by have h9 := Se.comp_id (L := L) (k := L.length) (Nat.le_refl _) (fun j h1 h2 => hne j h1 (by omega)); rwa [List.take_length] at h9
   refine fin_out1 rfl rfl rfl (fun w' hw => ⟨⟨v, by rw [hcp, hL]; exact hv⟩, rfl, ?_⟩)
   show (St B Φ (.row v 54 2 (Se.comp L).length (flat (Se.comp L)) :: C)).p w'
   rw [hcp, hL]
   exact hw
end Go.Proofs.YtpapfpoefiikpaaGreatDoor
namespace Go.Proofs
open Go.Shelf Go.RowKit Go.Lib Go.Sort
shelf_lay_g SlLaysF0.n6 Slsf 6 at Tryz 61 as Tryz.sortA
end Go.Proofs
namespace Go.Proofs.YtpapfpoefiikpaaGreatDoor
open Go Go.K Go.RowKit Go.Sort Go.Proofs
theorem sortA_c {B : Bs} {Φ : Hp} {C : List Chunk} {v : Value} {n : Nat} {L : List Gr.Arc} (hL : L.length = n) (hn : n ≤ 1000000) (w : World) (hW : (St B Φ (.row v 54 2 n (flat L) :: C)).p w) :
    Calls pg 61 #[v, .func (.func 62) #[] #[]] w fun e w' => ∃ d : {d : List Gr.Arc // d.Perm L ∧ d.Pairwise (fun x y => ltOf Se.cA y x = false)}, e = .returned (.tuple #[]) ∧ (St B Φ (.row v 54 2 n (flat d.1) :: C)).p w' := by
  have hs : RowS (hp w) v 54 2 n (flat L) := hW.sat _ (List.mem_cons_self ..)
  rcases hs.2 with ⟨rfl, h0⟩ | ⟨g, cap, cur, rfl, h2, h3, h4, h5, h6⟩
  · subst h0
    obtain rfl : L = [] := List.length_eq_zero_iff.1 hL
    have h := AnyF.slices_SortFunc_none Tryz.sortA none 0 (.func (.func 62) #[] #[]) w
    change Calls pg 61 _ _ _ at h
    exact h.mono fun e w' ⟨he, hw⟩ => ⟨⟨[], List.Perm.refl _, List.Pairwise.nil⟩, he, by rw [hw]; exact hW⟩
  · have eg : ∀ args w, (callFunc 62 args).run pg w = .ok (.enter 62 args) w := enters_of Tryz.func62 (by kernel_rfl) rfl
    have hb : g < w.heap.size := lt_of_some h2
    have hH := holdsK_row (α := Gr.Arc) evenG54 hL hs
    have h := AnyQ.slices_SortFunc Tryz.sortA 2 Tryz.isAgg54 Tryz.sizeOf54 (RepE.cells (α := Gr.Arc)) evenG54 (fun x u hu => by
      simp only [RepE.cells, List.mem_cons, List.not_mem_nil, or_false] at hu
      rcases hu with rfl | rfl <;> rfl) Se.cA Se.swoA 62 #[] g 0 cap L.toArray w eg (cmpLays_of fun W x y => cmpA_c W (hp W) (Hp.le_refl _)) hH hb (by rw [List.size_toArray]; omega)
    change Calls pg 61 _ _ _ at h
    rw [List.size_toArray, hL] at h
    refine h.mono fun e w' ⟨he, d', m, os, hp', hs', hw⟩ => ?_
    have hds : d'.size = n := by rw [hp'.1, List.size_toArray, hL]
    refine ⟨⟨d'.toList, perm_of_permIn (by rw [List.size_toArray, hL]; exact hp'), pairwise_of_sortedIn (by rw [hds]; exact hs')⟩, he, ?_⟩
    rw [hw]
    exact StP.sorted evenG54 hW 0 rfl hds
end Go.Proofs.YtpapfpoefiikpaaGreatDoor
namespace Go.Proofs.YtpapfpoefiikpaaGreatDoor
open Go Go.K Go.RowKit Go.Sort
attribute [local irreducible] AW RW DW Post Qt
theorem RW.add {N : Nat} {D : List Deferred} {ops : Array Oper} {Q : Exit → Act → World → Prop} {Pn : List PanicEntry → World → Prop} [hQ : PanQ D Q Pn] {f : Nat → Value} {s : List (Nat × Value)} {B : Bs} {Φ : Hp} {C0 C : List Chunk} {rest : List Oper} {ty : TypeId} {pos : String} {af : Array Edge} {ts : Array TypeId} {d b3 : Nat} {x y z : Operand} {p q : Int} {L : List Gr.Arc} {lv : Value} (hd : Nat.blt d N = true) (hx : ev (fr f s) x = .func (.func 60) #[] #[.pointer (some ⟨b3, 0, none⟩)]) (hy : ev (fr f s) y = .int .i64 p) (hz : ev (fr f s) z = .int .i64 q) (hp : I64 p) (hq : I64 q) (hlv : IsSl lv L.length) (hL : L.length ≤ 1000000) (hJ : ∀ w, (St B Φ C0).p w → (St B Φ (.blk b3 50 [lv] :: .row lv 54 2 L.length (flat L) :: C)).p w)
    (kk : ∀ v, IsSl v (Ad.addA L p q).length → RW pg N D ops Q rest f ((d, .tuple #[]) :: s) (St B Φ (.blk b3 50 [v] :: .row v 54 2 (Ad.addA L p q).length (flat (Ad.addA L p q)) :: C))) :
    RW pg N D ops Q (⟨some d, .call { callee := .value x, args := #[y, z], argTypes := ts }, ty, pos, af, none⟩ :: rest) f s (St B Φ C0) :=
  RW.eff (X := {v : Value // IsSl v (Ad.addA L p q).length}) (fun _ => .tuple #[]) (fun v => St B Φ (.blk b3 50 [v.1] :: .row v.1 54 2 (Ad.addA L p q).length (flat (Ad.addA L p q)) :: C)) hd (e_call (args := #[.int .i64 p, .int .i64 q, .pointer (some ⟨b3, 0, none⟩)]) oK hx (by simp [hy, hz]) fun w hw => add_c hp hq hlv hL w (hJ w hw)) fun v => kk v.1 v.2
theorem addA_wf {L : List Gr.Arc} {f t : Int} (h : ∀ a ∈ L, I64 a.From ∧ I64 a.To) (hf : I64 f) (ht : I64 t) : ∀ a ∈ Ad.addA L f t, I64 a.From ∧ I64 a.To := fun a ha => by
  unfold Ad.addA at ha
  split at ha
  · rcases List.mem_append.1 ha with h1 | h1
    · exact h a h1
    · obtain rfl : a = ⟨f, t⟩ := by simpa using h1
      exact ⟨hf, ht⟩
  · exact h a ha
theorem arcs_wf {b : Bt.Basin} (hn : b.Places.length ≤ 64) (hp : ∀ i, i < b.Places.length → I64 (b.Places.getD i default).Down) (hl : ∀ i, i < b.Links.length → I64 (b.Links.getD i default).From ∧ I64 (b.Links.getD i default).To) : ∀ a ∈ Ad.arcs b, I64 a.From ∧ I64 a.To := by
  have h1 : ∀ k, k ≤ b.Places.length → ∀ a ∈ Ad.aP b.Places k, I64 a.From ∧ I64 a.To := by
    intro k
    induction k with
    | zero => intro _ a ha; simp [Ad.aP] at ha
    | succ k ih => intro hk; exact addA_wf (ih (by omega)) ⟨by omega, by omega⟩ (hp k (by omega))
  have h2 : ∀ k, k ≤ b.Links.length → ∀ a ∈ Ad.aL b k, I64 a.From ∧ I64 a.To := by
    intro k
    induction k with
    | zero => intro _; exact h1 _ (Nat.le_refl _)
    | succ k ih =>
      intro hk
      have h3 := hl k (by omega)
      simp only [Ad.aL]
      unfold Ad.aLk
      split
      · exact addA_wf (addA_wf (ih (by omega)) h3.1 h3.2) h3.2 h3.1
      · exact addA_wf (ih (by omega)) h3.1 h3.2
  exact h2 _ (Nat.le_refl _)
theorem Arcs_c (w : World) (Φ : Hp) (hΦ : Hp.le Φ (hp w)) {b : Bt.Basin} {cs : List Value} (hB : RepV Φ b cs) (hpn : b.Places.length ≤ 64) (hln : b.Links.length ≤ 96) :
    Calls pg 17 #[.agg cs.toArray] w (RetS Φ w fun r Ψ => ∃ d : List Gr.Arc, d.Perm (Ad.arcs b) ∧ d.Pairwise (fun x y => ltOf Se.cA y x = false) ∧ RepSl Ψ (Se.comp d) r) := by
  obtain ⟨v1, v3, v4, v5, v6, v7, v8, v9, rfl, hBw, r1, r3, r4, r5, r6, r7, r8, r9⟩ := (show Rep.rep Φ b cs from hB)
  refine in1 51 Tryz.func17 rfl rfl hΦ ?_
  repeat refine g1 ?_
  refine RW.bxA rfl rfl fun b1 => ?_
  repeat refine g1 ?_
  refine RW.alc rfl fun b3 => ?_
  obtain ⟨A, c, rfl, _⟩ := r3.sl
  repeat refine g1 ?_
  have hob := fun k : Nat => Ad.aP_len b.Places k
  refine AW.wk (J' := St ⟨w, Φ, []⟩ Φ [.blk b3 50 [.slice none 0 0], .row (.slice none 0 0) 54 2 0 [], .blk b1 31 [.string b.Name, v1, .int .i64 b.Cells, .slice A b.Places.length c, v4, v5, v6, v7, v8, v9, .int .i64 b.Err]]) (fun _ h => StP.sel (addNil (T := 54) (sz := 2) h) [1, 0, 2] (by decide) rfl) ?_
  refine AW.lp (fun s J m => ∃ (i : Nat) (lv : Value), s = [(13, .int .i64 (i : Int)), (12, .int .i64 ((b.Places.length : Nat) : Int)), (11, .slice A b.Places.length c), (4, .func (.func 60) #[] #[.pointer (some ⟨b3, 0, none⟩)]), (3, .pointer (some ⟨b3, 0, none⟩)), (1, .pointer (some ⟨b1, 0, none⟩))] ∧ J = St ⟨w, Φ, []⟩ Φ [.blk b3 50 [lv], .row lv 54 2 (Ad.aP b.Places i).length (flat (Ad.aP b.Places i)), .blk b1 31 [.string b.Name, v1, .int .i64 b.Cells, .slice A b.Places.length c, v4, v5, v6, v7, v8, v9, .int .i64 b.Err]] ∧ m = b.Places.length - i ∧ i ≤ b.Places.length ∧ IsSl lv (Ad.aP b.Places i).length) ⟨0, _, rfl, rfl, rfl, Nat.zero_le _, isSl_nil⟩ ?_
  rintro _ _ _ _ ⟨i, lv, rfl, rfl, rfl, hi, hlv⟩
  repeat refine g1 ?_
  refine AW.cond rfl (fun h => ?_) fun h => ?_
  · have h : i < b.Places.length := by simpa using h
    repeat refine g1 ?_
    refine RW.el6 rfl rfl r3 h rfl rfl rfl rfl rfl fun cs q hrep => ?_
    obtain ⟨w4, w5, w6, rfl, hw9, -⟩ := hrep
    have hap := hob i
    repeat refine g1 ?_
    refine RW.add rfl rfl rfl rfl ⟨by omega, by omega⟩ hw9.2.2.2.2.2.2.1 hlv (by omega) (fun _ h => StP.drop h (List.sublist_cons_self _ _)) fun v hv => ?_
    repeat refine g1 ?_
    exact Post.bk ⟨i + 1, v, rfl, rfl, rfl, h, hv⟩
  · have h : i = b.Places.length := by have := odF h; omega
    subst h
    have hol := fun k : Nat => Ad.aL_len b k
    obtain ⟨A4, c4, rfl, _⟩ := r4.sl
    repeat refine g1 ?_
    refine AW.lp (fun s J m => ∃ (i : Nat) (lv : Value), s = [(27, .int .i64 (i : Int)), (26, .int .i64 ((b.Links.length : Nat) : Int)), (25, .slice A4 b.Links.length c4), (4, .func (.func 60) #[] #[.pointer (some ⟨b3, 0, none⟩)]), (3, .pointer (some ⟨b3, 0, none⟩))] ∧ J = St ⟨w, Φ, []⟩ Φ [.blk b3 50 [lv], .row lv 54 2 (Ad.aL b i).length (flat (Ad.aL b i))] ∧ m = b.Links.length - i ∧ i ≤ b.Links.length ∧ IsSl lv (Ad.aL b i).length) ⟨0, lv, rfl, rfl, rfl, Nat.zero_le _, hlv⟩ ?_
    rintro _ _ _ _ ⟨i, lv, rfl, rfl, rfl, hi, hlv⟩
    repeat refine g1 ?_
    refine AW.cond rfl (fun h => ?_) fun h => ?_
    · have h : i < b.Links.length := by simpa using h
      repeat refine g1 ?_
      refine RW.el rfl rfl r4 h rfl rfl rfl rfl fun cs q hrep => ?_
      obtain ⟨w4, w5, w6, rfl, hw9, -⟩ := hrep
      have hap := hol i
      have ha1 := Ad.addA_len (Ad.aL b i) (b.Links.getD i default).From (b.Links.getD i default).To
      have hst : Ad.aL b (i + 1) = Ad.aLk (Ad.aL b i) (b.Links.getD i default) := rfl
      unfold Ad.aLk at hst
      repeat refine g1 ?_
      refine RW.add (C := [.blk q 72 [.string (b.Links.getD i default).Name, .int .i64 (b.Links.getD i default).Kind, .int .i64 (b.Links.getD i default).From, .int .i64 (b.Links.getD i default).To, w4, w5, w6, .int .i64 (b.Links.getD i default).Positions, .int .i64 (b.Links.getD i default).Speed, .int .i64 (b.Links.getD i default).Leak, .int .i64 (b.Links.getD i default).Crest, .int .i64 (b.Links.getD i default).Num, .int .i64 (b.Links.getD i default).Den, .int .i64 (b.Links.getD i default).Prime, .int .i64 (b.Links.getD i default).Break, .int .i64 (b.Links.getD i default).BackNum, .int .i64 (b.Links.getD i default).BackDen, .int .i64 (b.Links.getD i default).Delay]]) rfl rfl rfl rfl hw9.2.2.1 hw9.2.2.2.1 hlv (by omega) (fun _ h => StP.sel h [1, 2, 0] (by decide) rfl) fun v hv => ?_
      rcases Decidable.em ((b.Links.getD i default).Kind = 4) with h4 | h4
      · rw [if_pos h4] at hst
        repeat first | refine t2 ?_ | refine t3 ?_ | refine g1 ?_
        refine RW.add rfl rfl rfl rfl hw9.2.2.2.1 hw9.2.2.1 hv (by omega) (fun _ h => h) fun v2 hv2 => ?_
        repeat refine g1 ?_
        exact Post.bk (hJ := fun _ h => by rw [hst]; exact StP.drop h (.cons_cons _ (.cons_cons _ (List.nil_sublist _)))) ⟨i + 1, v2, rfl, rfl, rfl, h, by rw [hst]; exact hv2⟩
      · rw [if_neg h4] at hst
        repeat first | refine t2 ?_ | refine t3 ?_ | refine g1 ?_
        exact Post.bk (hJ := fun _ h => by rw [hst]; exact StP.drop h (.cons_cons _ (.cons_cons _ (List.nil_sublist _)))) ⟨i + 1, v, rfl, rfl, rfl, h, by rw [hst]; exact hv⟩
    · have h : i = b.Links.length := by have := odF h; omega
      subst h
      have hap := hol b.Links.length
      have hcp : ∀ d : List Gr.Arc, (Se.comp d).length ≤ d.length := Se.comp_le
      have hwf : ∀ x ∈ Ad.arcs b, RepE.wf x := arcs_wf hpn (fun i hi => by
        obtain ⟨_, hr, _⟩ := r3.whole hi
        obtain ⟨_, _, _, _, hw9, -⟩ := hr
        exact hw9.2.2.2.2.2.2.1) (fun i hi => by
        obtain ⟨_, hr, _⟩ := r4.whole hi
        obtain ⟨_, _, _, _, hw9, -⟩ := hr
        exact ⟨hw9.2.2.1, hw9.2.2.2.1⟩)
      change (Ad.arcs b).length ≤ _ at hap
      change IsSl lv (Ad.arcs b).length at hlv
      show AW _ _ _ _ _ _ _ (St _ _ [.blk b3 50 [lv], .row lv 54 2 (Ad.arcs b).length (flat (Ad.arcs b))])
      have hla : (Ad.arcs b).length ≤ 256 := by omega
      generalize Ad.arcs b = L at *
      repeat refine g1 ?_
      refine RW.eff (X := {d : List Gr.Arc // d.Perm L ∧ d.Pairwise (fun x y => ltOf Se.cA y x = false)}) (fun _ => .tuple #[]) (fun d => St ⟨w, Φ, []⟩ Φ [.row lv 54 2 L.length (flat d.1), .blk b3 50 [lv]]) rfl (e_call (args := #[lv, .func (.func 62) #[] #[]]) oK rfl rfl fun w1 hw1 => sortA_c (C := [.blk b3 50 [lv]]) rfl (by omega) w1 (StP.sel hw1 [1, 0] (by decide) rfl)) ?_
      rintro ⟨d, hd1, hd2⟩
      have hdl := hd1.length_eq
      have hdc := hcp d
      repeat refine g1 ?_
      refine RW.eff (X := {r : Value // IsSl r (Se.comp d).length}) (fun x => x.1) (fun x => St ⟨w, Φ, []⟩ Φ [.row x.1 54 2 (Se.comp d).length (flat (Se.comp d)), .blk b3 50 [lv]]) rfl (e_call (args := #[lv]) oK rfl rfl fun w1 hw1 => Compact_c (C := [.blk b3 50 [lv]]) rfl (L := d) hlv hdl (by omega) w1 hw1) ?_
      rintro ⟨r, hr⟩
      repeat refine g1 ?_
      refine fin_rep rfl rfl rfl fun w' hw => ⟨d, hd1, hd2, ?_⟩
      exact RowS.repE evenG54 (l := Se.comp d) (row_ext hw 0 rfl) rfl (by show _ * 16 ≤ _; simp only [maxSl]; omega) (fun x hx => hwf x (hd1.mem_iff.1 (Se.comp_iff.1 hx)))
end Go.Proofs.YtpapfpoefiikpaaGreatDoor
